/-
  Memories: what is held of one, what is wrong with an access, what is got. No project text.
-/
import Derived.Test.YtiicgelmdmhajaaDoorP08A
import Derived.Test.YtiicgelmdmhajaaDoorHlW
import Derived.Test.YtiicgelmdmhajaaDoorP07D
namespace Go.Hl
open Go.RowKit
set_option linter.unusedVariables false

/-- an empty slice with room -/
theorem opMakeCap {P : Program} {hs : List HP} {env : Env} {dst : Option Tmp} {ty T E : TypeId} {pos : String} {after : Array Edge} {gd : Option (Nat × Bool)} {x : Operand} {n : Nat} {i : Int} {α : Type} {enc : α → List VP} (hT : P.underlying T = some (.slice E)) (hn : P.cellsOf E = 1) (hb : P.bytesOf E = 1) (hz : zeroB P E = some [.int .u8 0]) (hx : Opd env x (intV .i64 i)) (hi : i = (n : Int)) (hle : n ≤ 281474976710656) :
    OpE P hs env ⟨dst, .makeSlice T (.const (.int .i64 0)) x, ty, pos, after, gd⟩ (γ := SB) (fun _ => True) (fun sb => sliceH sb 1 enc ([] : List α) :: hs) (fun sb => exactV (sval sb 0)) := by
  intro c a w S F hsit hown he K Q hk
  have hv := hx S w a he; simp only [exactV] at hv
  subst hi
  have hr : (execOp a.eval ⟨dst, .makeSlice T (.const (.int .i64 0)) x, ty, pos, after, gd⟩).run P w = .ok (.value (.slice (some ⟨w.heap.size, 0, none⟩) 0 n)) { w with heap := w.heap.push (.cells (u8s (List.replicate n 0)).toArray E) } := by
    obtain ⟨info, hi1, hi2⟩ := run_typeInfo' hn rfl w
    obtain ⟨zv, hz1, hz2⟩ := run_zero hz w
    have hs1 := run_sizeOf hn rfl w
    have hw : IntKind.i64.wrap (n : Int) = (n : Int) := wrap_fits (fits_i64 (by omega) (by omega))
    have hw0 : IntKind.i64.wrap 0 = 0 := by decide
    have hbytes : info.bytes = 1 := hi2.trans hb
    have hcells : (Array.range (n * 1)).map (fun t => zv.cells[t % zv.cells.size]!) = (u8s (List.replicate n 0)).toArray := by
      rw [hz2]
      apply Array.ext
      · simp [u8s]
      · intro j h1 h2
        simp [u8s, Nat.mod_one]
    have hnn : ¬ ((n : Int) < 0) := by omega
    have hbig : ¬ ((281474976710656 : Int) < (n : Int)) := by omega
    have hroom : ∀ m : Nat, (askRoom m).run P w = .ok () w := fun m => by unfold askRoom; split <;> simp [mark, Sem.run]
    have he0 : a.eval (.const (.int .i64 0)) = .int .i64 0 := rfl
    by_cases h0 : n = 0
    · subst h0
      have hr0 : Array.map (fun _ : Nat => (default : Value)) (Array.range 0) = (u8s []).toArray := by apply Array.ext <;> simp [u8s]
      simp [execOp, Instr.makeSlice, run_underlying hT, asInt, asIntOf, hv, he0, hi1, hw0, hs1, newRow]
      exact congrArg (fun r => w.alloc (.cells r E)) hr0
    · simp [execOp, Instr.makeSlice, run_underlying hT, asInt, asIntOf, hv, he0, hi1, hbytes, hw, hw0, hnn, hbig, hroom, hs1, h0, hz1, newRow]
      rw [Nat.mul_one] at hcells
      exact congrArg (fun r => w.alloc (.cells r E)) hcells
  unfold Oper.wp
  rw [hr]
  refine hk (some (w.heap.size, n)) _ _ S _ trivial (hsit.newOwn _) (fun _ h => h) (fun k hk => heap_push_old w _ k (hsit.domS k hk)) (hown.newOwn hsit.domS hsit.domF _ ⟨rfl, Nat.zero_le _, by simp, (u8s (List.replicate n 0)).toArray, E, by simp, by simp [u8s], fun j q h => by simp at h⟩) rfl

/-! ### a memory -/
structure SpD where
  num : Int
  pages : Nat
  most : Nat
  high : Nat
  wide : Prop
abbrev spaceL (pb : Nat) (M : SpD) : List VP := [addrV pb 0, i64V M.num, i64V (M.pages : Int), i64V (M.most : Int), i64V (M.high : Int), propV M.wide]
abbrev spaceH (mb pb : Nat) (M : SpD) : HP := cellsH mb (spaceL pb M)
structure SpOk (M : SpD) : Prop where
  num : 0 ≤ M.num
  pages : M.pages ≤ M.most
  high : M.high ≤ M.most
  most : M.most ≤ 65536
/-- so many bytes aren't all there -/
def beyondS (pages a n : Nat) : Prop := pages * 65536 < a + n
instance (p a n : Nat) : Decidable (beyondS p a n) := inferInstanceAs (Decidable (_ < _))
/-- what is wrong with an access: the place, the trap, the error -/
def wrongS (pages a o : Nat) (n : Int) : Nat × Nat × Nat :=
  if n < 0 then (0, 0, 1) else if 1048576 < n then (0, 0, 15) else if beyondS pages (a + o) n.toNat then (0, 4, 0) else (a + o, 0, 0)
theorem sum_cases (a o : Nat) (ha : a < 18446744073709551616) (ho : o < 18446744073709551616) : (a + o < 18446744073709551616 ∧ IntKind.u64.wrap ((a : Int) + (o : Int)) = ((a + o : Nat) : Int)) ∨ (18446744073709551616 ≤ a + o ∧ IntKind.u64.wrap ((a : Int) + (o : Int)) = ((a + o - 18446744073709551616 : Nat) : Int)) := by
  by_cases h : a + o < 18446744073709551616
  · exact .inl ⟨h, by rw [wrap_fits (fits_u64 (by omega) (by omega))]; omega⟩
  · refine .inr ⟨by omega, ?_⟩
    have e : IntKind.u64.wrap ((a : Int) + (o : Int)) = ((a : Int) + (o : Int)) % 18446744073709551616 := rfl
    rw [e]; omega
theorem wrongS_in {pages a o : Nat} {n : Int} (h : wrongS pages a o n = (a + o, 0, 0) ∨ (wrongS pages a o n).2 = (0, 0)) : 0 ≤ n ∧ n ≤ 1048576 ∧ a + o + n.toNat ≤ pages * 65536 ∧ (wrongS pages a o n).1 = a + o := by
  unfold wrongS at *
  by_cases h1 : n < 0
  · rw [if_pos h1] at h; simp at h
  · rw [if_neg h1] at h ⊢
    by_cases h2 : 1048576 < n
    · rw [if_pos h2] at h; simp at h
    · rw [if_neg h2] at h ⊢
      by_cases h3 : beyondS pages (a + o) n.toNat
      · rw [if_pos h3] at h; simp at h
      · rw [if_neg h3]; unfold beyondS at h3; exact ⟨by omega, by omega, by omega, rfl⟩
/-- what comes of a copy: the trap, the error -/
def copyS (p p' t a n : Nat) : Nat × Nat := if beyondS p t n ∨ beyondS p' a n then (4, 0) else if 1048576 < n then (0, 15) else (0, 0)
/-- more pages; how many there were; whether that may be -/
def growS (M : SpD) (n : Nat) : SpD × Nat × Bool := if M.high - M.pages < n then (M, 0, false) else ({ M with pages := M.pages + n }, M.pages, true)
def capS (M : SpD) (p : Int) : SpD := { M with high := if 0 ≤ p then min p.toNat M.most else M.most }
/-- bytes that are owned, in a variable -/
def outH (b : Nat) (xs : List UInt8) : HP := exH fun sb : SB => ownH [cellsH b [exactV (sval sb xs.length)], sliceH sb 1 encU8 xs]
theorem out_close {b : Nat} {sb : SB} {xs : List UInt8} {r : List HP} : OLe (cellsH b [exactV (sval sb xs.length)] :: sliceH sb 1 encU8 xs :: r) (outH b xs :: r) :=
  OLe.trans (OLe.pack (l := [cellsH b [exactV (sval sb xs.length)], sliceH sb 1 encU8 xs])) (OLe.ex (f := fun sb : SB => ownH [cellsH b [exactV (sval sb xs.length)], sliceH sb 1 encU8 xs]) sb)
theorem CodeT.openOut {P : Program} {Q : Exit → Act → World → Prop} {c : Ctx} {x : Code} {env : Env} {b : Nat} {xs : List UInt8} {r : List HP} (k : ∀ sb : SB, CodeT P Q c x (cellsH b [exactV (sval sb xs.length)] :: sliceH sb 1 encU8 xs :: r) env) : CodeT P Q c x (outH b xs :: r) env :=
  CodeT.opens fun sb => CodeT.own (OLe.unpack (l := [cellsH b [exactV (sval sb xs.length)], sliceH sb 1 encU8 xs])) (k sb)
end Go.Hl
