/-
  What the statement's proof leans on, several texts in one (packed by a program).
-/
import Derived.Test.YtgboekefmedapaaGreatDoorSNB
import Derived.Laws.StructEq
set_option linter.all false
set_option maxRecDepth 1000000
set_option maxHeartbeats 4000000
section
namespace Go.Hl
open Go.RowKit
section
variable {P : Program} {hs : List HP} {env : Env} {q q' : VP} {dst : Option Tmp} {ty T T2 T' E : TypeId} {pos : String} {after : Array Edge} {gd : Option (Nat × Bool)} {x y z : Operand}
def encU8 (b : UInt8) : List VP := [intV .u8 (b.toNat : Int)]
instance : Enc 1 encU8 := ⟨fun _ => rfl, fun x q h => by simp only [encU8, List.mem_cons, List.not_mem_nil, or_false] at h; rw [h]; infer_instance⟩
theorem foldl_push (l : List UInt8) : ∀ s : ByteArray, (l.map fun b => (b.toNat : Int)).foldl (fun r n => r.push (UInt8.ofNat n.toNat)) s = ⟨s.data ++ l.toArray⟩ := by
 induction l with
 | nil => intro s; simp
 | cons b l ih =>
  intro s
  simp only [List.map_cons, List.foldl_cons]
  rw [ih]
  have hb : UInt8.ofNat (b.toNat : Int).toNat = b := by simp
  rw [hb]
  apply ByteArray.ext
  simp [ByteArray.push]
theorem cells_u8 {S : BS} {w : World} {b off : Nat} {l : List UInt8} (h : ∀ (i : Nat) (x : UInt8), l[i]? = some x → CellsAt S w b (off + i * 1) (encU8 x)) (d : Nat) :
    (loadCells ⟨b, off, none⟩ l.length).run P { w with drawn := d } = .ok ((l.map fun b => (b.toNat : Int)).map (Value.int .u8)).toArray { w with drawn := d } := by
  have := run_loadCellsFrom (P := P) (b := b) (off := off) l.length 0 #[] { w with drawn := d } ((l.map fun b => (b.toNat : Int)).map (Value.int .u8)) (by simp) (fun j v hj => by
    simp only [List.map_map, List.getElem?_map] at hj
    cases hl : l[j]? with
    | none => rw [hl] at hj; cases hj
    | some x =>
      rw [hl] at hj; cases hj
      obtain ⟨u, hu, hq⟩ := h j x hl 0 _ rfl
      simp only [exactV] at hq; subst hq
      simpa [World.cell?] using hu)
  simpa [loadCells] using this
theorem opBytesStr {l : List UInt8} (hs' : P.underlying T = some (.slice E)) (he' : P.underlying E = some (.int .u8)) (hd : P.underlying T' = some .string) (hx : Opd env x (sliceV 1 encU8 l)) : OpP P hs env ⟨dst, .convert T T' x, ty, pos, after, gd⟩ (strV l) :=
 OpP.of_read fun ρ w S F _ he => by
  obtain ⟨a, cap, hv, hc, hm, hel⟩ := he.o _ _ hx
  refine ⟨.string ⟨l.toArray⟩, ?_, rfl, by omega⟩
  cases a with
  | none =>
   have : l = [] := by have h0 : cap = 0 := hel; exact List.length_eq_zero_iff.1 (by omega)
   subst this
   simp [execOp, hv, run_convert_bytes_string w T T' E none 0 cap hs' he' hd, Conv.bytesToString]
   rfl
  | some ad =>
   by_cases h0 : l = []
   · subst h0
     simp [execOp, hv, run_convert_bytes_string w T T' E (some ad) 0 cap hs' he' hd, Conv.bytesToString, loadCells, loadCellsFrom]
     rfl
   have hxp : 0 < l.length := List.length_pos_iff.2 h0
   obtain ⟨b, off, sp⟩ := ad
   obtain ⟨hsp, hb, hel2⟩ := hel (by omega)
   simp only at hsp hb hel2; subst hsp
   have h1 := run_bytesToString (P := P) w ⟨b, off, none⟩ l.length cap _ (cells_u8 (P := P) hel2 w.drawn)
   rw [foldl_push] at h1
   simp [execOp, hv, run_convert_bytes_string w T T' E (some ⟨b, off, none⟩) l.length cap hs' he' hd, h1]
def emptyV : VP := ⟨fun _ _ v => ∃ a, v = .slice a 0 0, fun _ _ h => h⟩
instance : Flat emptyV := ⟨fun ⟨_, h⟩ => by subst h; exact ⟨rfl, rfl⟩⟩
def exV {γ : Type} (ψ : γ → Prop) (qs : γ → VP) : VP := ⟨fun S w v => ∃ g, ψ g ∧ (qs g).p S w v, fun h1 h2 ⟨g, hg, h⟩ => ⟨g, hg, (qs g).mono h1 h2 h⟩⟩
instance {γ : Type} (ψ : γ → Prop) (qs : γ → VP) [∀ g, Flat (qs g)] : Flat (exV ψ qs) := ⟨fun ⟨_, _, h⟩ => Flat.flat h⟩
end
end Go.Hl
end
