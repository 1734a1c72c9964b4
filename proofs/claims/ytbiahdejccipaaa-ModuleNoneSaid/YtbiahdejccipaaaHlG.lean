/-
  Rules: equality of structs and of pointers, bytes and strings. No project text.
-/
import Derived.Test.YtbiahdejccipaaaHlF
import Derived.Laws.StructEq
namespace Go.Hl
open Go.RowKit
set_option linter.unusedVariables false
set_option linter.unusedSimpArgs false
set_option linter.unusedSectionVars false

section
variable {P : Program} {hs : List HP} {env : Env} {q q' : VP} {dst : Option Tmp} {ty T T2 T' E : TypeId} {pos : String} {after : Array Edge} {gd : Option (Nat × Bool)} {x y z : Operand}

/-- two cells are equal just if r -/
def EqV (P : Program) (T : TypeId) (q q' : VP) (r : Prop) : Prop := aggB P T = some false ∧ ∀ S w u u', q.p S w u → q'.p S w u' → ∀ d, ∃ b : Bool, (Op.equalIn (d + 1) T u u').run P w = .ok b w ∧ (b = true ↔ r)
theorem EqV.int {k k' : IntKind} {n m : Int} (h : P.underlying T = some (.int k')) : EqV P T (intV k n) (intV k m) (n = m) :=
  ⟨by unfold aggB; rw [h]; rfl, fun S w u u' h1 h2 d => by simp only [exactV] at h1 h2; subst h1; subst h2; exact ⟨n == m, run_equalIn_int w d T k k' n m h, by simp⟩⟩
theorem EqV.bool {p r : Prop} (h : P.underlying T = some .bool) : EqV P T (propV p) (propV r) (p ↔ r) :=
  ⟨by unfold aggB; rw [h]; rfl, fun S w u u' ⟨b, hb, hp⟩ ⟨b', hb', hr⟩ d => by subst hb; subst hb'; exact ⟨b == b', run_equalIn_bool w d T b b' h, by rw [← hp, ← hr]; cases b <;> cases b' <;> simp⟩⟩
theorem EqV.str {l m : List UInt8} (h : P.underlying T = some .string) : EqV P T (strV l) (strV m) (l = m) :=
  ⟨by unfold aggB; rw [h]; rfl, fun S w u u' ⟨h1, _⟩ ⟨h2, _⟩ d => by subst h1; subst h2; exact ⟨_, run_equalIn_string w d T _ _ h, by simp [bytes_toList]⟩⟩

inductive EqCells (P : Program) : List Field → List VP → List VP → Prop → Prop
  | nil {cs ds : List VP} : EqCells P [] cs ds True
  | cons {f : Field} {fs : List Field} {cs ds : List VP} {q q' : VP} {r R : Prop} (hn : f.name ≠ "_") (h1 : cs[f.offset]? = some q) (h2 : ds[f.offset]? = some q') (he : EqV P f.type q q' r) (t : EqCells P fs cs ds R) : EqCells P (f :: fs) cs ds (r ∧ R)

theorem EqCells.run {fs : List Field} {cs ds : List VP} {R : Prop} (h : EqCells P fs cs ds R) {S : BS} {w : World} {xs ys : Array Value} (hx : ∀ (j : Nat) (q : VP), cs[j]? = some q → ∃ u, xs[j]? = some u ∧ q.p S w u) (hy : ∀ (j : Nat) (q : VP), ds[j]? = some q → ∃ u, ys[j]? = some u ∧ q.p S w u) (d : Nat) :
    ∃ b : Bool, (Op.eqFields (d + 1) xs ys fs).run P w = .ok b w ∧ (b = true ↔ R) := by
  induction h with
  | nil => exact ⟨true, by simp [Op.eqFields], by simp⟩
  | cons hn h1 h2 he t ih =>
    obtain ⟨u, hu, hq⟩ := hx _ _ h1
    obtain ⟨u', hu', hq'⟩ := hy _ _ h2
    obtain ⟨b, hb, hbr⟩ := he.2 S w u u' hq hq' d
    obtain ⟨b', hb', hbR⟩ := ih hx hy
    have hia := run_isAgg he.1 w
    rename_i f fs cs ds q q' r R
    have p1 : (part f.type xs f.offset).run P w = .ok u w := by
      unfold part; rw [run_bind_ok hia]; simp [hu]
    have p2 : (part f.type ys f.offset).run P w = .ok u' w := by
      unfold part; rw [run_bind_ok hia]; simp [hu']
    cases b with
    | true => exact ⟨b', by simp [Op.eqFields, hn, p1, p2, hb, hb'], by rw [hbR]; simp [hbr.1 rfl]⟩
    | false => exact ⟨false, by simp [Op.eqFields, hn, p1, p2, hb], by simp at hbr ⊢; exact fun hr => (hbr hr).elim⟩

theorem opEqlA {fs : Array Field} {cs ds : List VP} {R : Prop} (hT : P.underlying T = some (.struct fs)) (hst : P.stoodInHeld T = false) (hg : P.eqGuardType P.depth T = false) (hx : Opd env x (aggV cs)) (hy : Opd env y (aggV ds)) (h : EqCells P fs.toList cs ds R) :
    OpP P hs env ⟨dst, .binOp .eql T x y T', ty, pos, after, gd⟩ (propV R) :=
  OpP.of_read fun ρ w S F _ he => by
    obtain ⟨xs, hv, _, hc⟩ := he.o _ _ hx
    obtain ⟨ys, hv', _, hd⟩ := he.o _ _ hy
    obtain ⟨b, hb, hbr⟩ := h.run hc hd 9998
    have hf : P.fieldsOf T = fs := by simp [Program.fieldsOf, hT]
    have e1 := run_equalIn_struct (P := P) w 9999 T xs ys (by rw [hf]; exact hT) hst
    rw [hf] at e1
    have e2 : (Op.equalIn 10000 T (.agg xs) (.agg ys)).run P w = .ok b w := e1.trans hb
    exact ⟨.bool b, by simp only [execOp, hv, hv', Sem.run_bind, run_eqGuard_agg w .eql T x y xs ys hg, Result.andThen_ok, run_eql_struct, e2, Sem.run_pure], b, rfl, hbr⟩
theorem opNeqA {fs : Array Field} {cs ds : List VP} {R : Prop} (hT : P.underlying T = some (.struct fs)) (hst : P.stoodInHeld T = false) (hg : P.eqGuardType P.depth T = false) (hx : Opd env x (aggV cs)) (hy : Opd env y (aggV ds)) (h : EqCells P fs.toList cs ds R) :
    OpP P hs env ⟨dst, .binOp .neq T x y T', ty, pos, after, gd⟩ (propV (¬ R)) :=
  OpP.of_read fun ρ w S F _ he => by
    obtain ⟨xs, hv, _, hc⟩ := he.o _ _ hx
    obtain ⟨ys, hv', _, hd⟩ := he.o _ _ hy
    obtain ⟨b, hb, hbr⟩ := h.run hc hd 9998
    have hf : P.fieldsOf T = fs := by simp [Program.fieldsOf, hT]
    have e1 := run_equalIn_struct (P := P) w 9999 T xs ys (by rw [hf]; exact hT) hst
    rw [hf] at e1
    have e2 : (Op.equalIn 10000 T (.agg xs) (.agg ys)).run P w = .ok b w := e1.trans hb
    exact ⟨.bool (!b), by simp only [execOp, hv, hv', Sem.run_bind, run_eqGuard_agg w .neq T x y xs ys hg, Result.andThen_ok, run_neq_struct, e2, Sem.run_pure], !b, rfl, by rw [← hbr]; cases b <;> simp⟩

/-! ### pointers -/
theorem opEqlNN (hT : P.underlying T = some (.pointer E)) (hx : Opd env x nilV) (hy : Opd env y nilV) : OpP P hs env ⟨dst, .binOp .eql T x y T', ty, pos, after, gd⟩ (propV True) :=
  OpP.of_read fun ρ w S F _ he => by
    have h1 := he.o _ _ hx; have h2 := he.o _ _ hy; simp only [exactV] at h1 h2
    exact ⟨.bool true, by simp [execOp, h1, h2, go_sem, Op.equal, Op.equalIn, Op.maxDepth, hT], _, rfl, by simp⟩
theorem opEqlNP {cs : List VP} (hT : P.underlying T = some (.pointer E)) (hx : Opd env x nilV) (hy : Opd env y (ptrV cs)) : OpP P hs env ⟨dst, .binOp .eql T x y T', ty, pos, after, gd⟩ (propV False) :=
  OpP.of_read fun ρ w S F _ he => by
    have h1 := he.o _ _ hx; simp only [exactV] at h1
    obtain ⟨b, off, h2, _⟩ := he.o _ _ hy
    have e : (Op.equalIn (9999 + 1) T (.pointer none) (.pointer (some ⟨b, off, none⟩))).run P w = .ok false w := by unfold Op.equalIn; rw [run_bind_ok (run_underlying hT w)]; rfl
    have e2 : (binOp .eql T (.pointer none) (.pointer (some ⟨b, off, none⟩))).run P w = .ok (.bool false) w := by
      show ((do pure (.bool (← Op.equalIn (9999 + 1) T (.pointer none) (.pointer (some ⟨b, off, none⟩))))) : Sem Value).run P w = _
      rw [run_bind_ok e]; rfl
    exact ⟨.bool false, by simp [execOp, h1, h2, eqGuard, e2], _, rfl, by simp⟩

/-! ### bytes and strings -/
def encU8 (b : UInt8) : List VP := [intV .u8 (b.toNat : Int)]
instance : Enc 1 encU8 := ⟨fun _ => rfl, fun x q h => by simp only [encU8, List.mem_cons, List.not_mem_nil, or_false] at h; rw [h]; infer_instance⟩
theorem foldl_push (l : List UInt8) : ∀ s : ByteArray, (l.map fun b => (b.toNat : Int)).foldl (fun r n => r.push (UInt8.ofNat n.toNat)) s = ⟨s.data ++ l.toArray⟩ := by
  induction l with
  | nil => intro s; simp
  | cons b l ih =>
    intro s
    simp only [List.map_cons, List.foldl_cons]
    rw [ih]
    have hb : UInt8.ofNat (b.toNat : Int).toNat = b := by simp
    rw [hb]
    apply ByteArray.ext
    simp [ByteArray.push]
theorem cells_u8 {S : BS} {w : World} {b off : Nat} {l : List UInt8} (h : ∀ (i : Nat) (x : UInt8), l[i]? = some x → CellsAt S w b (off + i * 1) (encU8 x)) (d : Nat) :
    (loadCells ⟨b, off, none⟩ l.length).run P { w with drawn := d } = .ok ((l.map fun b => (b.toNat : Int)).map (Value.int .u8)).toArray { w with drawn := d } := by
  have := run_loadCellsFrom (P := P) (b := b) (off := off) l.length 0 #[] { w with drawn := d } ((l.map fun b => (b.toNat : Int)).map (Value.int .u8)) (by simp) (fun j v hj => by
    simp only [List.map_map, List.getElem?_map] at hj
    cases hl : l[j]? with
    | none => rw [hl] at hj; cases hj
    | some x =>
      rw [hl] at hj; cases hj
      obtain ⟨u, hu, hq⟩ := h j x hl 0 _ rfl
      simp only [exactV] at hq; subst hq
      simpa [World.cell?] using hu)
  simpa [loadCells] using this
theorem opBytesStr {l : List UInt8} (hs' : P.underlying T = some (.slice E)) (he' : P.underlying E = some (.int .u8)) (hd : P.underlying T' = some .string) (hx : Opd env x (sliceV 1 encU8 l)) : OpP P hs env ⟨dst, .convert T T' x, ty, pos, after, gd⟩ (strV l) :=
  OpP.of_read fun ρ w S F _ he => by
    obtain ⟨a, cap, hv, hc, hm, hel⟩ := he.o _ _ hx
    refine ⟨.string ⟨l.toArray⟩, ?_, rfl, by omega⟩
    cases a with
    | none =>
      have : l = [] := by have h0 : cap = 0 := hel; exact List.length_eq_zero_iff.1 (by omega)
      subst this
      simp [execOp, hv, run_convert_bytes_string w T T' E none 0 cap hs' he' hd, Conv.bytesToString]
      rfl
    | some ad =>
      by_cases h0 : l = []
      · subst h0
        simp [execOp, hv, run_convert_bytes_string w T T' E (some ad) 0 cap hs' he' hd, Conv.bytesToString, loadCells, loadCellsFrom]
        rfl
      have hxp : 0 < l.length := List.length_pos_iff.2 h0
      obtain ⟨b, off, sp⟩ := ad
      obtain ⟨hsp, hb, hel2⟩ := hel (by omega)
      simp only at hsp hb hel2; subst hsp
      have h1 := run_bytesToString (P := P) w ⟨b, off, none⟩ l.length cap _ (cells_u8 (P := P) hel2 w.drawn)
      rw [foldl_push] at h1
      simp [execOp, hv, run_convert_bytes_string w T T' E (some ⟨b, off, none⟩) l.length cap hs' he' hd, h1]
end
end Go.Hl
