/-
  What the statement's proof leans on, several texts in one (packed by a program).
-/
import Derived.Test.YtmmdlhjcmlekfaaGreatDoorPNK
set_option linter.all false
set_option maxRecDepth 1000000
set_option maxHeartbeats 4000000
section
namespace Go.Hl
open Go.RowKit
def codesL (l : List InstrD) : List Int := l.map (·.Code)
def rc (s : List Int) (d : Nat) : Option (List Int) := rblk (s.length + 1) s d
theorem rc_end {c : Int} {r : List Int} {d : Nat} (h : c = 11 ∨ c = 5) : rc (c :: r) d = some (c :: r) := by simp only [rc, List.length_cons, rblk, h, if_true]
theorem rc_plain {c : Int} {r : List Int} {d : Nat} (h : ¬ (c = 11 ∨ c = 5)) (h2 : ¬ opensC c) : rc (c :: r) d = rc r d := by simp only [rc, List.length_cons, rblk, h, h2, if_false]
theorem rc_deep {c : Int} {r : List Int} {d : Nat} (h2 : opensC c) (h3 : 64 ≤ d) : rc (c :: r) d = none := by
  have h : ¬ (c = 11 ∨ c = 5) := by unfold opensC at h2; omega
  simp only [rc, List.length_cons, rblk, h, h2, h3, if_false, if_true]
theorem rc_open {c : Int} {r : List Int} {d : Nat} (h2 : opensC c) (h3 : ¬ 64 ≤ d) : rc (c :: r) d = match rc r (d + 1) with
    | none => none
    | some [] => none
    | some (c2 :: r2) => if c2 = 5 then (if c = 4 then (match rc r2 (d + 1) with | none => none | some [] => none | some (c3 :: r3) => if c3 = 5 then none else rc r3 d) else none) else rc r2 d := by
  have h : ¬ (c = 11 ∨ c = 5) := by unfold opensC at h2; omega
  simp only [rc, List.length_cons, rblk, h, h2, h3, if_false, if_true]
  cases hr : rblk (r.length + 1) r (d + 1) with
  | none => rfl
  | some s =>
    cases s with
    | nil => rfl
    | cons c2 r2 =>
      have e1 := suf_len (rblk_suf _ _ _ _ hr)
      simp only [List.length_cons] at e1
      simp only
      rw [rblk_fuel (r.length + 1) (r2.length + 1) r2 (d + 1) (by omega) (by omega), rblk_fuel (r.length + 1) (r2.length + 1) r2 d (by omega) (by omega)]
      split
      · split
        · cases hr2 : rblk (r2.length + 1) r2 (d + 1) with
          | none => rfl
          | some s2 =>
            cases s2 with
            | nil => rfl
            | cons c3 r3 =>
              have e2 := suf_len (rblk_suf _ _ _ _ hr2)
              simp only [List.length_cons] at e2
              simp only
              rw [rblk_fuel (r.length + 1) (r3.length + 1) r3 d (by omega) (by omega)]
        · rfl
      · rfl
theorem rc_head {s r : List Int} {c : Int} {d : Nat} (hd : d ≤ 64) (h : rc s d = some (c :: r)) : c = 11 ∨ c = 5 := ((rblk_spec (s.length + 1) s d (by omega) hd).2 _ h).2.1 c r rfl
theorem codes_len (l : List InstrD) : (codesL l).length = l.length := by simp [codesL]
theorem codes_at {l : List InstrD} {i : Nat} {x : InstrD} (h : l[i]? = some x) : (codesL l).drop i = x.Code :: (codesL l).drop (i + 1) := by
  refine drop_at ?_
  rw [codesL, List.getElem?_map, h]; rfl
theorem codes_end {l : List InstrD} {i : Nat} (h : l.length ≤ i) : (codesL l).drop i = [] := List.drop_eq_nil_of_le (by rw [codes_len]; exact h)
def rcP (l : List InstrD) (a d : Nat) (en : Int) (sp : List SpD) (e : Int) : Prop :=
  (e = 0 ∧ ∃ n : Nat, en = (n : Int) ∧ rc ((codesL l).drop a) d = some ((codesL l).drop n) ∧ a ≤ n ∧ n ≤ l.length ∧ sp.length + a ≤ n) ∨ (e ≠ 0 ∧ rc ((codesL l).drop a) d = none ∧ sp = [])
theorem rcP_len {l : List InstrD} {a d : Nat} {en : Int} {sp : List SpD} {e : Int} (h : rcP l a d en sp e) : sp.length ≤ l.length := by
  rcases h with ⟨_, n, _, _, _, h5, h6⟩ | ⟨_, _, h⟩
  · omega
  · rw [h]; simp
def rcM (l : List InstrD) (i d : Nat) (en : Int) (sp : List SpD) (e : Int) : Prop :=
  (e ≠ 0 ∧ rc ((codesL l).drop i) d = none ∧ sp.length ≤ 20000) ∨ (e = 0 ∧ en = (l.length : Int) ∧ rc ((codesL l).drop i) d = none ∧ sp.length ≤ 20000) ∨
  (e = 0 ∧ ∃ n : Nat, en = (n : Int) ∧ n < l.length ∧ rc ((codesL l).drop i) d = rc ((codesL l).drop (n + 1)) d ∧ i + 1 ≤ n ∧ sp.length + i + 1 ≤ n)
theorem OLe.none {α : Type} {n : Nat} {enc : α → List VP} {r : List HP} : OLe r (sliceH none n enc ([] : List α) :: r) := fun F S w h => ⟨fun _ => False, F, fun _ h => h.elim, fun _ h => h, rfl, h⟩
section
variable {l : List InstrD} {i d : Nat} {x : InstrD}
theorem rc_else_no (hx : l[i]? = some x) (ho : opensC x.Code) (hd : ¬ 64 ≤ d) {n : Nat} {y : InstrD} (hr : rc ((codesL l).drop (i + 1)) (d + 1) = some ((codesL l).drop n)) (hy : l[n]? = some y) (h5 : y.Code = 5) (h4 : x.Code ≠ 4) : rc ((codesL l).drop i) d = none := by
  rw [codes_at hx, rc_open ho hd, hr, codes_at hy]
  simp only [h5, if_true, h4, if_false]
theorem rc_two {n : Nat} {y : InstrD} (hx : l[i]? = some x) (ho : opensC x.Code) (hd : ¬ 64 ≤ d) (hr : rc ((codesL l).drop (i + 1)) (d + 1) = some ((codesL l).drop n)) (hy : l[n]? = some y) (h5 : y.Code = 5) (h4 : x.Code = 4) :
    rc ((codesL l).drop i) d = match rc ((codesL l).drop (n + 1)) (d + 1) with | none => none | some [] => none | some (c3 :: r3) => if c3 = 5 then none else rc r3 d := by
  rw [codes_at hx, rc_open ho hd, hr, codes_at hy]
  simp only [h5, if_true, h4]
theorem rc_one {n : Nat} {y : InstrD} (hx : l[i]? = some x) (ho : opensC x.Code) (hd : ¬ 64 ≤ d) (hr : rc ((codesL l).drop (i + 1)) (d + 1) = some ((codesL l).drop n)) (hy : l[n]? = some y) (h5 : y.Code ≠ 5) :
    rc ((codesL l).drop i) d = rc ((codesL l).drop (n + 1)) d := by
  rw [codes_at hx, rc_open ho hd, hr, codes_at hy]
  simp only [h5, if_false]
theorem rc_none (hx : l[i]? = some x) (ho : opensC x.Code) (hd : ¬ 64 ≤ d) (hr : rc ((codesL l).drop (i + 1)) (d + 1) = none) : rc ((codesL l).drop i) d = none := by
  rw [codes_at hx, rc_open ho hd, hr]
theorem rc_short (hx : l[i]? = some x) (ho : opensC x.Code) (hd : ¬ 64 ≤ d) {n : Nat} (hn : l.length ≤ n) (hr : rc ((codesL l).drop (i + 1)) (d + 1) = some ((codesL l).drop n)) : rc ((codesL l).drop i) d = none := by
  rw [codes_at hx, rc_open ho hd, hr, codes_end hn]
theorem rcM_one (hx : l[i]? = some x) (ho : opensC x.Code) (hd : ¬ 64 ≤ d) {en e : Int} {sp : List SpD} (h : rcP l (i + 1) (d + 1) en sp e) (hll : l.length ≤ 10000) (hn : ¬ ((e = 0 ∧ en < (l.length : Int)) ∧ (gI l en.toNat).Code = 5)) : rcM l i d en sp e := by
  rcases h with ⟨h1, n, h2, h3, h4, h5, h6⟩ | ⟨h1, h2, h3⟩
  · by_cases hlt : n < l.length
    · refine .inr (.inr ⟨h1, n, h2, hlt, ?_, h4, by omega⟩)
      have hy : l[n]? = some (gI l n) := gI_in hlt
      exact rc_one hx ho hd h3 hy (fun h9 => hn ⟨⟨h1, by omega⟩, by rw [h2]; simpa using h9⟩)
    · exact .inr (.inl ⟨h1, by omega, rc_short hx ho hd (by omega) h3, by omega⟩)
  · exact .inl ⟨h1, rc_none hx ho hd h2, by rw [h3]; simp⟩
theorem rcM_two (hx : l[i]? = some x) (ho : opensC x.Code) (hd : ¬ 64 ≤ d) (hd64 : d ≤ 64) {en e en2 e2 : Int} {sp sp2 : List SpD} (h : rcP l (i + 1) (d + 1) en sp e) (hll : l.length ≤ 10000) (hn : (e = 0 ∧ en < (l.length : Int)) ∧ (gI l en.toNat).Code = 5) (h4 : x.Code = 4) (h' : rcP l (en.toNat + 1) (d + 1) en2 sp2 e2) :
    (((e2 = 0 ∧ en2 < (l.length : Int)) ∧ (gI l en2.toNat).Code = 5) → rc ((codesL l).drop i) d = none) ∧ (¬ ((e2 = 0 ∧ en2 < (l.length : Int)) ∧ (gI l en2.toNat).Code = 5) → rcM l i d en2 (sp ++ sp2) e2) := by
  rcases h with ⟨_, n, h2, h3, h4', h5, h6⟩ | ⟨h1, h2, h3⟩
  · obtain ⟨⟨h1, h1'⟩, h55⟩ := hn
    have hlt : n < l.length := by omega
    have hen : en.toNat = n := by omega
    rw [hen] at h55 h'
    have hy : l[n]? = some (gI l n) := gI_in hlt
    have hk := rc_two hx ho hd h3 hy h55 h4
    rw [hk]
    rcases h' with ⟨k1, n2, k2, k3, k4, k5, k6⟩ | ⟨k1, k2, k3⟩
    · by_cases hlt2 : n2 < l.length
      · have hy2 : l[n2]? = some (gI l n2) := gI_in hlt2
        have hn2 : en2.toNat = n2 := by omega
        rw [k3, codes_at hy2]
        simp only
        refine ⟨fun h9 => ?_, fun h9 => ?_⟩
        · rw [if_pos (by rw [hn2] at h9; exact h9.2)]
        · refine .inr (.inr ⟨k1, n2, k2, hlt2, ?_, by omega, by rw [List.length_append]; omega⟩)
          rw [hk, k3, codes_at hy2]
          simp only
          rw [if_neg (fun h8 => h9 ⟨⟨k1, by omega⟩, by rw [hn2]; exact h8⟩)]
      · have he := codes_end (l := l) (i := n2) (by omega)
        rw [k3, he]
        refine ⟨fun _ => rfl, fun _ => .inr (.inl ⟨k1, by omega, by rw [hk, k3, he], by rw [List.length_append]; omega⟩)⟩
    · rw [k2]
      exact ⟨fun _ => rfl, fun _ => .inl ⟨k1, by rw [hk, k2], by rw [List.length_append, k3]; simp; omega⟩⟩
  · exact absurd hn.1.1 h1
end
theorem nrun_rc (l : List InstrD) : nrun (codesL l) [] ↔ rc (codesL l) 0 = some [11] := nrun_rblk (by omega)
end Go.Hl
namespace Go.Hl
theorem tmod128 (v : Int) : v.tmod 128 = if 0 ≤ v then v % 128 else -((-v) % 128) := by
  split
  · rename_i h; exact Int.tmod_eq_emod_of_nonneg h
  · rename_i h
    have h1 : v.tmod 128 = -((-v).tmod 128) := by rw [Int.neg_tmod]; omega
    rw [h1, Int.tmod_eq_emod_of_nonneg (by omega)]
theorem tdiv128 {v : Int} (h1 : -9223372036854775680 ≤ v) (h2 : v ≤ 9223372036854775807) : IntKind.i64.wrap ((IntKind.i64.wrap (v - v % 128)).tdiv 128) = v / 128 := by
  have hw : IntKind.i64.wrap (v - v % 128) = 128 * (v / 128) := by rw [wrap_fits (fits_i64 (by omega) (by omega))]; omega
  rw [hw, Int.mul_tdiv_cancel_left _ (by decide)]; exact wrap_fits (fits_i64 (by omega) (by omega))
theorem lenS_stop {v : Int} (h : (v / 128 = 0 ∧ v % 128 < 64) ∨ (v / 128 = -1 ∧ 64 ≤ v % 128)) : lenS v = 1 := lenS_in (by omega)
theorem lenS_go {v : Int} (h : ¬ ((v / 128 = 0 ∧ v % 128 < 64) ∨ (v / 128 = -1 ∧ 64 ≤ v % 128))) : lenS v = lenS (v / 128) + 1 := lenS_out (by omega)
theorem runs_lead (t : UInt8) : ∀ (n : Nat) (l : List UInt8), 0 < n → n ≤ l.length → (∀ j, j < n → l[j]? = some t) → l[n]? ≠ some t → runsB l = n :: runsB (l.drop n) := by
  intro n
  induction n with
  | zero => intro l h; omega
  | succ n ih =>
    intro l _ hl ha hn
    cases l with
    | nil => simp at hl
    | cons a l =>
      have h0 := ha 0 (by omega)
      simp only [List.getElem?_cons_zero, Option.some.injEq] at h0
      subst h0
      simp only [List.drop_succ_cons]
      by_cases h : n = 0
      · subst h
        simp only [List.drop_zero]
        cases l with
        | nil => rfl
        | cons b r =>
          have hb : b ≠ a := fun e => hn (by simp [e])
          obtain ⟨k, s, hk⟩ := runsB_ne b r
          have e : runsB (a :: b :: r) = match runsB (b :: r) with | n :: r => if b = a then (n + 1) :: r else 1 :: n :: r | _ => [1] := by rw [runsB.eq_def]; simp only; split <;> simp_all
          rw [e, hk]
          simp only
          rw [if_neg hb]
      · have i1 := ih l (by omega) (by simp at hl; omega) (fun j hj => by have := ha (j + 1) (by omega); simpa using this) (fun e => hn (by simpa using e))
        cases l with
        | nil => simp at hl; omega
        | cons b r =>
          have hb : b = a := by have := ha 1 (by omega); simpa using this
          have e : runsB (a :: b :: r) = match runsB (b :: r) with | n :: r => if b = a then (n + 1) :: r else 1 :: n :: r | _ => [1] := by rw [runsB.eq_def]; simp only; split <;> simp_all
          rw [e, i1]
          simp only
          rw [if_pos hb]
def sumN_ (p : List Nat) : Nat := (p.map fun n => lenU n + 1).sum
theorem sumN_snoc (p : List Nat) (n : Nat) : sumN_ (p ++ [n]) = sumN_ p + (lenU n + 1) := by simp [sumN_]
theorem sumN_le_ : ∀ (p : List Nat), (∀ n ∈ p, n ≤ 1000000) → sumN_ p ≤ 11 * p.length
  | [], _ => by simp [sumN_]
  | n :: p, h => by
    have h1 := sumN_le_ p (fun q hq => h q (List.mem_cons_of_mem _ hq))
    have h2 := h n (List.mem_cons_self ..)
    have h3 : lenU n ≤ 10 := lenU_64 (by omega)
    simp only [sumN_, List.map_cons, List.sum_cons, List.length_cons] at h1 ⊢
    omega
theorem lenB_doc (b : BodyD) : lenB b = lenU (runsB b.Locals).length + sumN_ (runsB b.Locals) + sumI b.L := rfl
theorem runsB_nil : runsB [] = [] := rfl
end Go.Hl
namespace Go.Hl
theorem u8_126 {t : UInt8} : (t.toNat : Int) = 126 ↔ t = 126 := by rw [← UInt8.toNat_inj]; simp; omega
theorem u8_127 {t : UInt8} : (t.toNat : Int) = 127 ↔ t = 127 := by rw [← UInt8.toNat_inj]; simp; omega
def gU (l : List UInt8) (j : Nat) : UInt8 := l.getD j 0
theorem gU_in {l : List UInt8} {j : Nat} (h : j < l.length) : l[j]? = some (gU l j) := by unfold gU; rw [List.getD_eq_getElem?_getD, List.getElem?_eq_getElem h]; rfl
theorem lead_at {l : List UInt8} {k k2 : Nat} {t : UInt8} (hk : k < k2) (h2 : k2 ≤ l.length) (ha : ∀ j, j < k2 - k → (l.drop k)[j]? = some t) (hn : ¬ ((k2 : Int) < (l.length : Int) ∧ ((gU l k2).toNat : Int) = (t.toNat : Int))) : runsB (l.drop k) = (k2 - k) :: runsB (l.drop k2) := by
  have h9 := runs_lead t (k2 - k) (l.drop k) (by omega) (by rw [List.length_drop]; omega) ha (fun e => by
    rw [List.getElem?_drop, show k + (k2 - k) = k2 by omega] at e
    have hl := (List.getElem?_eq_some_iff.1 e).1
    rw [gU_in hl] at e
    exact hn ⟨by omega, by rw [Option.some.inj e]⟩)
  rw [List.drop_drop, show k + (k2 - k) = k2 by omega] at h9
  exact h9
theorem lead_pos {l : List UInt8} {k k2 : Nat} {t : UInt8} (hk : k ≤ k2) (ht : l[k]? = some t) (hn : ¬ ((k2 : Int) < (l.length : Int) ∧ ((gU l k2).toNat : Int) = (t.toNat : Int))) : k < k2 := by
  rcases Nat.lt_or_ge k k2 with h | h
  · exact h
  · have he : k2 = k := by omega
    subst he
    have hl := (List.getElem?_eq_some_iff.1 ht).1
    rw [gU_in hl] at ht
    exact absurd ⟨by omega, by rw [Option.some.inj ht]⟩ hn
end Go.Hl
end
section
namespace Go.Hl
open Go.RowKit
def encStk (s : Stk) (base : Int) : List VP := [sliceV 1 encU8 s.1, propV s.2, intV .i64 base]
instance (s : Stk) (base : Int) : FlatL (encStk s base) := ⟨fun q h => by simp only [encStk, List.mem_cons, List.not_mem_nil, or_false] at h; rcases h with h | h | h <;> subst h <;> infer_instance⟩
def encPr (p : Prop) : List VP := [propV p]
instance : Enc 1 encPr := ⟨fun _ => rfl, fun x q h => by simp only [encPr, List.mem_cons, List.not_mem_nil, or_false] at h; subst h; infer_instance⟩
def encEnv (v : EnvD) : List VP := [sliceV 2 encSig v.Funcs, sliceV 2 encSig v.Sigs, sliceV 1 encPr v.Wide, sliceV 1 encU8 v.Globals, sliceV 1 encPr v.Mutable, propV v.Table, sliceV 1 encU8 v.Own.P, sliceV 1 encU8 v.Own.R, sliceV 1 encU8 v.Locals]
instance (v : EnvD) : FlatL (encEnv v) := ⟨fun q h => by simp only [encEnv, List.mem_cons, List.not_mem_nil, or_false] at h; rcases h with h | h | h | h | h | h | h | h | h <;> subst h <;> infer_instance⟩
instance {cs : List VP} {q : VP} {n : Nat} [h : FlatL cs] [h2 : Flat q] : FlatL (cs.set n q) := ⟨fun p hp => (List.mem_or_eq_of_mem_set hp).elim (h.flat p) (fun e => e ▸ h2)⟩
def plR (o : Option Stk) (g : Stk × Int) : Prop := (g.2 = 0 ∧ o = some g.1) ∨ (g.2 ≠ 0 ∧ o = none)
def tkP (s : Stk) (l : List UInt8) (g : Stk × Int) : Prop := plR (tksS s l) g ∧ g.1.1.length ≤ s.1.length
def tk1P (s : Stk) (w : UInt8) (g : Stk × UInt8 × Int) : Prop := ((g.2.2 = 0 ∧ tk1S s w = some (g.1, g.2.1)) ∨ (g.2.2 ≠ 0 ∧ tk1S s w = none)) ∧ g.1.1.length ≤ s.1.length
theorem tkP.ok {s : Stk} {l : List UInt8} {g : Stk × Int} (h : tkP s l g) (he : g.2 = 0) : tksS s l = some g.1 := h.1.elim (fun h => h.2) (fun h => absurd he h.1)
theorem tkP.no {s : Stk} {l : List UInt8} {g : Stk × Int} (h : tkP s l g) (he : g.2 ≠ 0) : tksS s l = none := h.1.elim (fun h => absurd h.1 he) (fun h => h.2)
theorem tk1P.ok {s : Stk} {w : UInt8} {g : Stk × UInt8 × Int} (h : tk1P s w g) (he : g.2.2 = 0) : tk1S s w = some (g.1, g.2.1) := h.1.elim (fun h => h.2) (fun h => absurd he h.1)
theorem tk1P.no {s : Stk} {w : UInt8} {g : Stk × UInt8 × Int} (h : tk1P s w g) (he : g.2.2 ≠ 0) : tk1S s w = none := h.1.elim (fun h => absurd h.1 he) (fun h => h.2)
theorem tg_of {s : Stk} {i o : List UInt8} {g : Stk × Int} (h : tkP s i g) : plR (tgS s i o) (giveS g.1 o, g.2) := by
  unfold tgS
  rcases h.1 with ⟨h1, h2⟩ | ⟨h1, h2⟩
  · exact .inl ⟨h1, by rw [h2]; rfl⟩
  · exact .inr ⟨h1, by rw [h2]; rfl⟩
def plQ (s : Stk) (o : Option Stk) (g : Stk × Int) : Prop := plR o g ∧ g.1.1.length ≤ s.1.length + 20
theorem plQ_no {o : Option Stk} {s t : Stk} {e : Int} (he : e ≠ 0) (h : o = none) (hl : t.1.length ≤ s.1.length + 20) : plQ s o (t, e) := ⟨.inr ⟨he, h⟩, hl⟩
theorem plQ_ok {o : Option Stk} {s t : Stk} (h : o = some t) (hl : t.1.length ≤ s.1.length + 20) : plQ s o (t, 0) := ⟨.inl ⟨rfl, h⟩, hl⟩
theorem plQ_tg {s : Stk} {i o : List UInt8} {g : Stk × Int} {p : Option Stk} (hp : p = tgS s i o) (h : tkP s i g) (ho : o.length ≤ 20) : plQ s p (giveS g.1 o, g.2) :=
  ⟨by rw [hp]; exact tg_of h, by have := h.2; simp only [giveS, List.length_append]; omega⟩
theorem plQ_tk {s : Stk} {i : List UInt8} {g : Stk × Int} {p : Option Stk} (hp : p = tksS s i) (h : tkP s i g) : plQ s p g := ⟨by rw [hp]; exact h.1, by have := h.2; omega⟩
theorem tks_snoc2 (s : Stk) (l : List UInt8) (t : UInt8) : tksS s (l ++ [t]) = (tksS s [t]).bind fun p => tksS p l := by
  rw [tks_snoc, tks_one]; cases tk1S s t <;> rfl
theorem adrW_t {w : Prop} (h : w) : adrW w = 126 := if_pos h
theorem adrW_f {w : Prop} (h : ¬ w) : adrW w = 127 := if_neg h
theorem pw31 {k : Nat} (h : k ≤ 31) : (0 : Int) < 2 ^ k ∧ (2 : Int) ^ k ≤ 2147483648 := by
  have h1 : (2 : Int) ^ k = ((2 ^ k : Nat) : Int) := by norm_cast
  have h2 : 2 ^ k ≤ 2 ^ 31 := Nat.pow_le_pow_right (by decide) h
  have h3 : 0 < 2 ^ k := Nat.two_pow_pos k
  rw [h1]; omega
structure EnvOkD (v : EnvD) : Prop where
  F : v.Funcs.length ≤ 60000
  S : v.Sigs.length ≤ 60000
  L : v.Locals.length ≤ 60000
  G : v.Globals.length ≤ 60000
  W : v.Wide.length ≤ 60000
  mu : v.Mutable.length = v.Globals.length
  sf : ∀ g ∈ v.Funcs, g.P.length ≤ 20 ∧ g.R.length ≤ 20
  ss : ∀ g ∈ v.Sigs, g.P.length ≤ 20 ∧ g.R.length ≤ 20
  own : v.Own.R.length ≤ 20
structure PlOk (v : EnvD) (x : InstrD) (s : Stk) (labs : List (List UInt8)) : Prop where
  env : EnvOkD v
  ins : InsOk x
  stk : s.1.length ≤ 50000
  lbn : labs.length ≤ 60000
  lbw : ∀ w ∈ labs, w.length ≤ 20
theorem getI_at {α : Type} {L : List α} {n : Int} (h0 : 0 ≤ n) (h : ¬ n ≥ (L.length : Int)) : ∃ w, getI L n = some w ∧ L[n.toNat]? = some w := getI_in h0 (by omega)
theorem labAt_at {L : List (List UInt8)} {n : Int} (h0 : 0 ≤ n) (h : ¬ n ≥ (L.length : Int)) : ∃ w, labAt L n = some w ∧ L[L.length - 1 - n.toNat]? = some w := labAt_in h0 (by omega)
theorem getI_no {α : Type} {L : List α} {n : Int} (h : n ≥ (L.length : Int)) : getI L n = none := getI_out (by omega)
theorem labAt_no {L : List (List UInt8)} {n : Int} (h : n ≥ (L.length : Int)) : labAt L n = none := labAt_out (by omega)
theorem tk1_bad {l : List UInt8} {d : Prop} {g w : UInt8} (h : (((g.toNat : Int) ≠ 0) ∧ ((w.toNat : Int) ≠ 0)) ∧ ((g.toNat : Int) ≠ (w.toNat : Int))) : tk1S (l ++ [g], d) w = none :=
  tk1_snoc_no fun e => by
    obtain ⟨⟨h1, h2⟩, h3⟩ := h
    rcases e with e | e | e
    · exact h3 (by rw [e])
    · exact h1 (by rw [e]; rfl)
    · exact h2 (by rw [e]; rfl)
theorem tk1_good {l : List UInt8} {d : Prop} {g w : UInt8} (h : ¬ ((((g.toNat : Int) ≠ 0) ∧ ((w.toNat : Int) ≠ 0)) ∧ ((g.toNat : Int) ≠ (w.toNat : Int)))) : tk1S (l ++ [g], d) w = some ((l, d), if g = 0 then w else g) := by
  refine tk1_snoc (Classical.byContradiction fun e => h ⟨⟨fun h1 => ?_, fun h1 => ?_⟩, fun h1 => ?_⟩)
  · exact e (.inr (.inl ((u8_zero g).1 h1)))
  · exact e (.inr (.inr ((u8_zero w).1 h1)))
  · exact e (.inl (u8_eq.1 h1))
end Go.Hl
end
section
namespace Go.Proofs.YtmmdlhjcmlekfaaGreatDoor
open Go.Hl Go.RowKit
theorem rname_spec {code : Int} : FnP Tryz.prog 102 [intV .i64 code] (strV (nameR code)) := by
 refine In 20 Tryz.func102 fun _ _ _ => ?_
 refine Z2 ?_
 refine .p (opAssign (.s [] rfl rfl)) rfl ?_
 refine Z15 ?_
 refine Cd (fun c0 => ?_) fun c0 => ?_
 ·
  refine Z2 ?_
  refine .p (opAssign (.s [109, 101, 109, 111, 114, 121, 46, 99, 111, 112, 121] rfl rfl)) rfl ?_
  refine Z5 ?_
  refine Rt1 ?_
  exact VLe.of_eq (by unfold nameR; rw [if_pos c0])
 refine Z6 ?_
 refine Cd (fun c1 => ?_) fun c1 => ?_
 ·
  refine Z2 ?_
  refine .p (opAssign (.s [109, 101, 109, 111, 114, 121, 46, 102, 105, 108, 108] rfl rfl)) rfl ?_
  refine Z5 ?_
  refine Rt1 ?_
  exact VLe.of_eq (by unfold nameR; rw [if_neg c0, if_pos c1])
 refine Z14 ?_
 refine Cd (fun c2 => ?_) fun c2 => ?_
 ·
  refine Z2 ?_
  refine .p (opAssign (.s [] rfl rfl)) rfl ?_
  refine Z4 ?_
  refine Rt1 ?_
  exact VLe.of_eq (by unfold nameR; rw [if_neg c0, if_neg c1, if_pos c2])
 refine Z4 ?_
 refine .p (opBuildSlice (enc := encStrD) namesT Tryz.underlying235 Tryz.cz9 rfl Tryz.zb9 rfl (.cons (.s [117, 110, 114, 101, 97, 99, 104, 97, 98, 108, 101] rfl rfl) (.cons (.s [110, 111, 112] rfl rfl) (.cons (.s [98, 108, 111, 99, 107] rfl rfl) (.cons (.s [108, 111, 111, 112] rfl rfl) (.cons (.s [105, 102] rfl rfl) (.cons (.s [101, 108, 115, 101] rfl rfl) (.cons (.s [] rfl rfl) (.cons (.s [] rfl rfl) (.cons (.s [] rfl rfl) (.cons (.s [] rfl rfl) (.cons (.s [] rfl rfl) (.cons (.s [101, 110, 100] rfl rfl) (.cons (.s [98, 114] rfl rfl) (.cons (.s [98, 114, 95, 105, 102] rfl rfl) (.cons (.s [98, 114, 95, 116, 97, 98, 108, 101] rfl rfl) (.cons (.s [114, 101, 116, 117, 114, 110] rfl rfl) (.cons (.s [99, 97, 108, 108] rfl rfl) (.cons (.s [99, 97, 108, 108, 95, 105, 110, 100, 105, 114, 101, 99, 116] rfl rfl) (.cons (.s [] rfl rfl) (.cons (.s [] rfl rfl) (.cons (.s [] rfl rfl) (.cons (.s [] rfl rfl) (.cons (.s [] rfl rfl) (.cons (.s [] rfl rfl) (.cons (.s [] rfl rfl) (.cons (.s [] rfl rfl) (.cons (.s [100, 114, 111, 112] rfl rfl) (.cons (.s [115, 101, 108, 101, 99, 116] rfl rfl) (.cons (.s [] rfl rfl) (.cons (.s [] rfl rfl) (.cons (.s [] rfl rfl) (.cons (.s [] rfl rfl) (.cons (.s [108, 111, 99, 97, 108, 46, 103, 101, 116] rfl rfl) (.cons (.s [108, 111, 99, 97, 108, 46, 115, 101, 116] rfl rfl) (.cons (.s [108, 111, 99, 97, 108, 46, 116, 101, 101] rfl rfl) (.cons (.s [103, 108, 111, 98, 97, 108, 46, 103, 101, 116] rfl rfl) (.cons (.s [103, 108, 111, 98, 97, 108, 46, 115, 101, 116] rfl rfl) (.cons (.s [] rfl rfl) (.cons (.s [] rfl rfl) (.cons (.s [] rfl rfl) (.cons (.s [105, 51, 50, 46, 108, 111, 97, 100] rfl rfl) (.cons (.s [105, 54, 52, 46, 108, 111, 97, 100] rfl rfl) (.cons (.s [] rfl rfl) (.cons (.s [] rfl rfl) (.cons (.s [105, 51, 50, 46, 108, 111, 97, 100, 56, 95, 115] rfl rfl) (.cons (.s [105, 51, 50, 46, 108, 111, 97, 100, 56, 95, 117] rfl rfl) (.cons (.s [105, 51, 50, 46, 108, 111, 97, 100, 49, 54, 95, 115] rfl rfl) (.cons (.s [105, 51, 50, 46, 108, 111, 97, 100, 49, 54, 95, 117] rfl rfl) (.cons (.s [105, 54, 52, 46, 108, 111, 97, 100, 56, 95, 115] rfl rfl) (.cons (.s [105, 54, 52, 46, 108, 111, 97, 100, 56, 95, 117] rfl rfl) (.cons (.s [105, 54, 52, 46, 108, 111, 97, 100, 49, 54, 95, 115] rfl rfl) (.cons (.s [105, 54, 52, 46, 108, 111, 97, 100, 49, 54, 95, 117] rfl rfl) (.cons (.s [105, 54, 52, 46, 108, 111, 97, 100, 51, 50, 95, 115] rfl rfl) (.cons (.s [105, 54, 52, 46, 108, 111, 97, 100, 51, 50, 95, 117] rfl rfl) (.cons (.s [105, 51, 50, 46, 115, 116, 111, 114, 101] rfl rfl) (.cons (.s [105, 54, 52, 46, 115, 116, 111, 114, 101] rfl rfl) (.cons (.s [] rfl rfl) (.cons (.s [] rfl rfl) (.cons (.s [105, 51, 50, 46, 115, 116, 111, 114, 101, 56] rfl rfl) (.cons (.s [105, 51, 50, 46, 115, 116, 111, 114, 101, 49, 54] rfl rfl) (.cons (.s [105, 54, 52, 46, 115, 116, 111, 114, 101, 56] rfl rfl) (.cons (.s [105, 54, 52, 46, 115, 116, 111, 114, 101, 49, 54] rfl rfl) (.cons (.s [105, 54, 52, 46, 115, 116, 111, 114, 101, 51, 50] rfl rfl) (.cons (.s [109, 101, 109, 111, 114, 121, 46, 115, 105, 122, 101] rfl rfl) (.cons (.s [109, 101, 109, 111, 114, 121, 46, 103, 114, 111, 119] rfl rfl) (.cons (.s [105, 51, 50, 46, 99, 111, 110, 115, 116] rfl rfl) (.cons (.s [105, 54, 52, 46, 99, 111, 110, 115, 116] rfl rfl) (.cons (.s [] rfl rfl) (.cons (.s [] rfl rfl) (.cons (.s [105, 51, 50, 46, 101, 113, 122] rfl rfl) (.cons (.s [105, 51, 50, 46, 101, 113] rfl rfl) (.cons (.s [105, 51, 50, 46, 110, 101] rfl rfl) (.cons (.s [105, 51, 50, 46, 108, 116, 95, 115] rfl rfl) (.cons (.s [105, 51, 50, 46, 108, 116, 95, 117] rfl rfl) (.cons (.s [105, 51, 50, 46, 103, 116, 95, 115] rfl rfl) (.cons (.s [105, 51, 50, 46, 103, 116, 95, 117] rfl rfl) (.cons (.s [105, 51, 50, 46, 108, 101, 95, 115] rfl rfl) (.cons (.s [105, 51, 50, 46, 108, 101, 95, 117] rfl rfl) (.cons (.s [105, 51, 50, 46, 103, 101, 95, 115] rfl rfl) (.cons (.s [105, 51, 50, 46, 103, 101, 95, 117] rfl rfl) (.cons (.s [105, 54, 52, 46, 101, 113, 122] rfl rfl) (.cons (.s [105, 54, 52, 46, 101, 113] rfl rfl) (.cons (.s [105, 54, 52, 46, 110, 101] rfl rfl) (.cons (.s [105, 54, 52, 46, 108, 116, 95, 115] rfl rfl) (.cons (.s [105, 54, 52, 46, 108, 116, 95, 117] rfl rfl) (.cons (.s [105, 54, 52, 46, 103, 116, 95, 115] rfl rfl) (.cons (.s [105, 54, 52, 46, 103, 116, 95, 117] rfl rfl) (.cons (.s [105, 54, 52, 46, 108, 101, 95, 115] rfl rfl) (.cons (.s [105, 54, 52, 46, 108, 101, 95, 117] rfl rfl) (.cons (.s [105, 54, 52, 46, 103, 101, 95, 115] rfl rfl) (.cons (.s [105, 54, 52, 46, 103, 101, 95, 117] rfl rfl) (.cons (.s [] rfl rfl) (.cons (.s [] rfl rfl) (.cons (.s [] rfl rfl) (.cons (.s [] rfl rfl) (.cons (.s [] rfl rfl) (.cons (.s [] rfl rfl) (.cons (.s [] rfl rfl) (.cons (.s [] rfl rfl) (.cons (.s [] rfl rfl) (.cons (.s [] rfl rfl) (.cons (.s [] rfl rfl) (.cons (.s [] rfl rfl) (.cons (.s [105, 51, 50, 46, 99, 108, 122] rfl rfl) (.cons (.s [105, 51, 50, 46, 99, 116, 122] rfl rfl) (.cons (.s [105, 51, 50, 46, 112, 111, 112, 99, 110, 116] rfl rfl) (.cons (.s [105, 51, 50, 46, 97, 100, 100] rfl rfl) (.cons (.s [105, 51, 50, 46, 115, 117, 98] rfl rfl) (.cons (.s [105, 51, 50, 46, 109, 117, 108] rfl rfl) (.cons (.s [105, 51, 50, 46, 100, 105, 118, 95, 115] rfl rfl) (.cons (.s [105, 51, 50, 46, 100, 105, 118, 95, 117] rfl rfl) (.cons (.s [105, 51, 50, 46, 114, 101, 109, 95, 115] rfl rfl) (.cons (.s [105, 51, 50, 46, 114, 101, 109, 95, 117] rfl rfl) (.cons (.s [105, 51, 50, 46, 97, 110, 100] rfl rfl) (.cons (.s [105, 51, 50, 46, 111, 114] rfl rfl) (.cons (.s [105, 51, 50, 46, 120, 111, 114] rfl rfl) (.cons (.s [105, 51, 50, 46, 115, 104, 108] rfl rfl) (.cons (.s [105, 51, 50, 46, 115, 104, 114, 95, 115] rfl rfl) (.cons (.s [105, 51, 50, 46, 115, 104, 114, 95, 117] rfl rfl) (.cons (.s [105, 51, 50, 46, 114, 111, 116, 108] rfl rfl) (.cons (.s [105, 51, 50, 46, 114, 111, 116, 114] rfl rfl) (.cons (.s [105, 54, 52, 46, 99, 108, 122] rfl rfl) (.cons (.s [105, 54, 52, 46, 99, 116, 122] rfl rfl) (.cons (.s [105, 54, 52, 46, 112, 111, 112, 99, 110, 116] rfl rfl) (.cons (.s [105, 54, 52, 46, 97, 100, 100] rfl rfl) (.cons (.s [105, 54, 52, 46, 115, 117, 98] rfl rfl) (.cons (.s [105, 54, 52, 46, 109, 117, 108] rfl rfl) (.cons (.s [105, 54, 52, 46, 100, 105, 118, 95, 115] rfl rfl) (.cons (.s [105, 54, 52, 46, 100, 105, 118, 95, 117] rfl rfl) (.cons (.s [105, 54, 52, 46, 114, 101, 109, 95, 115] rfl rfl) (.cons (.s [105, 54, 52, 46, 114, 101, 109, 95, 117] rfl rfl) (.cons (.s [105, 54, 52, 46, 97, 110, 100] rfl rfl) (.cons (.s [105, 54, 52, 46, 111, 114] rfl rfl) (.cons (.s [105, 54, 52, 46, 120, 111, 114] rfl rfl) (.cons (.s [105, 54, 52, 46, 115, 104, 108] rfl rfl) (.cons (.s [105, 54, 52, 46, 115, 104, 114, 95, 115] rfl rfl) (.cons (.s [105, 54, 52, 46, 115, 104, 114, 95, 117] rfl rfl) (.cons (.s [105, 54, 52, 46, 114, 111, 116, 108] rfl rfl) (.cons (.s [105, 54, 52, 46, 114, 111, 116, 114] rfl rfl) (.cons (.s [] rfl rfl) (.cons (.s [] rfl rfl) (.cons (.s [] rfl rfl) (.cons (.s [] rfl rfl) (.cons (.s [] rfl rfl) (.cons (.s [] rfl rfl) (.cons (.s [] rfl rfl) (.cons (.s [] rfl rfl) (.cons (.s [] rfl rfl) (.cons (.s [] rfl rfl) (.cons (.s [] rfl rfl) (.cons (.s [] rfl rfl) (.cons (.s [] rfl rfl) (.cons (.s [] rfl rfl) (.cons (.s [] rfl rfl) (.cons (.s [] rfl rfl) (.cons (.s [] rfl rfl) (.cons (.s [] rfl rfl) (.cons (.s [] rfl rfl) (.cons (.s [] rfl rfl) (.cons (.s [] rfl rfl) (.cons (.s [] rfl rfl) (.cons (.s [] rfl rfl) (.cons (.s [] rfl rfl) (.cons (.s [] rfl rfl) (.cons (.s [] rfl rfl) (.cons (.s [] rfl rfl) (.cons (.s [] rfl rfl) (.cons (.s [105, 51, 50, 46, 119, 114, 97, 112, 95, 105, 54, 52] rfl rfl) (.cons (.s [] rfl rfl) (.cons (.s [] rfl rfl) (.cons (.s [] rfl rfl) (.cons (.s [] rfl rfl) (.cons (.s [105, 54, 52, 46, 101, 120, 116, 101, 110, 100, 95, 105, 51, 50, 95, 115] rfl rfl) (.cons (.s [105, 54, 52, 46, 101, 120, 116, 101, 110, 100, 95, 105, 51, 50, 95, 117] rfl rfl) (.cons (.s [] rfl rfl) (.cons (.s [] rfl rfl) (.cons (.s [] rfl rfl) (.cons (.s [] rfl rfl) (.cons (.s [] rfl rfl) (.cons (.s [] rfl rfl) (.cons (.s [] rfl rfl) (.cons (.s [] rfl rfl) (.cons (.s [] rfl rfl) (.cons (.s [] rfl rfl) (.cons (.s [] rfl rfl) (.cons (.s [] rfl rfl) (.cons (.s [] rfl rfl) (.cons (.s [] rfl rfl) (.cons (.s [] rfl rfl) (.cons (.s [] rfl rfl) (.cons (.s [] rfl rfl) (.cons (.s [] rfl rfl) (.cons (.s [105, 51, 50, 46, 101, 120, 116, 101, 110, 100, 56, 95, 115] rfl rfl) (.cons (.s [105, 51, 50, 46, 101, 120, 116, 101, 110, 100, 49, 54, 95, 115] rfl rfl) (.cons (.s [105, 54, 52, 46, 101, 120, 116, 101, 110, 100, 56, 95, 115] rfl rfl) (.cons (.s [105, 54, 52, 46, 101, 120, 116, 101, 110, 100, 49, 54, 95, 115] rfl rfl) (.cons (.s [105, 54, 52, 46, 101, 120, 116, 101, 110, 100, 51, 50, 95, 115] rfl rfl) .nil))))))))))))))))))))))))))))))))))))))))))))))))))))))))))))))))))))))))))))))))))))))))))))))))))))))))))))))))))))))))))))))))))))))))))))))))))))))))))))))))))))))))))))))))))))))))))))))))))))) rfl rfl rfl rfl rfl) rfl ?_
 refine Z7 ?_
 refine .p (cI _ (h := show namesT[code.toNat]? = some (namesT.getD code.toNat []) by rw [List.getD_eq_getElem?_getD, List.getElem?_eq_getElem (by rw [names_len]; omega)]; rfl)) rfl ?_
 refine Z5 ?_
 refine Rt1 ?_
 exact VLe.of_eq (by unfold nameR; rw [if_neg c0, if_neg c1, if_neg c2])
theorem rform_spec {code : Int} : FnP Tryz.prog 103 [intV .i64 code] (intV .i64 (formR code)) := by
 refine In 68 Tryz.func103 fun _ _ _ => ?_
 refine Z18 ?_
 refine Cd (fun c0 => ?_) fun c0 => ?_
 ·
  refine Z8 ?_
  refine Rt1 ?_
  exact VLe.int (by unfold formR; repeat (first | rfl | rw [if_pos (by assumption)] | rw [if_neg (by assumption)]))
 refine Z11 ?_
 refine Cd (fun c1 => ?_) fun c1 => ?_
 ·
  refine Z8 ?_
  refine Rt1 ?_
  exact VLe.int (by unfold formR; repeat (first | rfl | rw [if_pos (by assumption)] | rw [if_neg (by assumption)]))
 refine Z7 ?_
 refine Cd (fun c2 => ?_) fun c2 => ?_
 ·
  refine Z8 ?_
  refine Rt1 ?_
  exact VLe.int (by unfold formR; repeat (first | rfl | rw [if_pos (by assumption)] | rw [if_neg (by assumption)]))
 refine Z7 ?_
 refine Cd (fun c3 => ?_) fun c3 => ?_
 ·
  refine Z8 ?_
  refine Rt1 ?_
  exact VLe.int (by unfold formR; repeat (first | rfl | rw [if_pos (by assumption)] | rw [if_neg (by assumption)]))
 refine Z7 ?_
 refine Cd (fun c4 => ?_) fun c4 => ?_
 ·
  refine Z8 ?_
  refine Rt1 ?_
  exact VLe.int (by unfold formR; repeat (first | rfl | rw [if_pos (by assumption)] | rw [if_neg (by assumption)]))
 refine Z11 ?_
 refine Cd (fun c5 => ?_) fun c5 => ?_
 ·
  refine Z8 ?_
  refine Rt1 ?_
  exact VLe.int (by unfold formR; repeat (first | rfl | rw [if_pos (by assumption)] | rw [if_neg (by assumption)]))
 refine Z11 ?_
 refine Cd (fun c6 => ?_) fun c6 => ?_
 ·
  refine Z8 ?_
  refine Rt1 ?_
  exact VLe.int (by unfold formR; repeat (first | rfl | rw [if_pos (by assumption)] | rw [if_neg (by assumption)]))
 refine Z11 ?_
 refine Cd (fun c7 => ?_) fun c7 => ?_
 ·
  refine Z8 ?_
  refine Rt1 ?_
  exact VLe.int (by unfold formR; repeat (first | rfl | rw [if_pos (by assumption)] | rw [if_neg (by assumption)]))
 refine Z15 ?_
 refine Cd (fun c8 => ?_) fun c8 => ?_
 ·
  refine Z8 ?_
  refine Rt1 ?_
  exact VLe.int (by unfold formR; repeat (first | rfl | rw [if_pos (by assumption)] | rw [if_neg (by assumption)]))
 refine Z7 ?_
 refine Cd (fun c9 => ?_) fun c9 => ?_
 ·
  refine Z8 ?_
  refine Rt1 ?_
  exact VLe.int (by unfold formR; repeat (first | rfl | rw [if_pos (by assumption)] | rw [if_neg (by assumption)]))
 refine Z11 ?_
 refine Cd (fun c10 => ?_) fun c10 => ?_
 ·
  refine Z8 ?_
  refine Rt1 ?_
  exact VLe.int (by unfold formR; repeat (first | rfl | rw [if_pos (by assumption)] | rw [if_neg (by assumption)]))
 refine Z9 ?_
 refine Rt1 ?_
 exact VLe.int (by unfold formR; repeat (first | rfl | rw [if_pos (by assumption)] | rw [if_neg (by assumption)]))
theorem rtakes_spec {code : Int} : FnP Tryz.prog 140 [intV .i64 code] (tupV [sliceV 1 encU8 (takesR code).1, sliceV 1 encU8 (takesR code).2]) := by
 refine In 169 Tryz.func140 fun _ _ _ => ?_
 refine Z21 ?_
 refine Cd (fun c0 => ?_) fun c0 => ?_
 ·
  refine Z9 ?_
  refine Rt2 ?_ ?_
  · first | (refine VLe.trans (sliceV_nil 1 encU8) (VLe.of_eq ?_); unfold takesR; repeat (first | rfl | rw [if_pos (by assumption)] | rw [if_neg (by assumption)])) | (refine VLe.of_eq ?_; unfold takesR; repeat (first | rfl | rw [if_pos (by assumption)] | rw [if_neg (by assumption)]))
  first | (refine VLe.trans (sliceV_nil 1 encU8) (VLe.of_eq ?_); unfold takesR; repeat (first | rfl | rw [if_pos (by assumption)] | rw [if_neg (by assumption)])) | (refine VLe.of_eq ?_; unfold takesR; repeat (first | rfl | rw [if_pos (by assumption)] | rw [if_neg (by assumption)]))
 refine Z15 ?_
 refine Cd (fun c1 => ?_) fun c1 => ?_
 ·
  refine Z3 ?_
  refine .p (cB encU8 [127]) rfl ?_
  refine Z1 ?_
  refine .p (cB encU8 [127]) rfl ?_
  refine Z7 ?_
  refine Rt2 ?_ ?_
  · first | (refine VLe.trans (sliceV_nil 1 encU8) (VLe.of_eq ?_); unfold takesR; repeat (first | rfl | rw [if_pos (by assumption)] | rw [if_neg (by assumption)])) | (refine VLe.of_eq ?_; unfold takesR; repeat (first | rfl | rw [if_pos (by assumption)] | rw [if_neg (by assumption)]))
  first | (refine VLe.trans (sliceV_nil 1 encU8) (VLe.of_eq ?_); unfold takesR; repeat (first | rfl | rw [if_pos (by assumption)] | rw [if_neg (by assumption)])) | (refine VLe.of_eq ?_; unfold takesR; repeat (first | rfl | rw [if_pos (by assumption)] | rw [if_neg (by assumption)]))
 refine Z15 ?_
 refine Cd (fun c2 => ?_) fun c2 => ?_
 ·
  refine Z3 ?_
  refine .p (cB encU8 [127]) rfl ?_
  refine Z1 ?_
  refine .p (cB encU8 [126]) rfl ?_
  refine Z7 ?_
  refine Rt2 ?_ ?_
  · first | (refine VLe.trans (sliceV_nil 1 encU8) (VLe.of_eq ?_); unfold takesR; repeat (first | rfl | rw [if_pos (by assumption)] | rw [if_neg (by assumption)])) | (refine VLe.of_eq ?_; unfold takesR; repeat (first | rfl | rw [if_pos (by assumption)] | rw [if_neg (by assumption)]))
  first | (refine VLe.trans (sliceV_nil 1 encU8) (VLe.of_eq ?_); unfold takesR; repeat (first | rfl | rw [if_pos (by assumption)] | rw [if_neg (by assumption)])) | (refine VLe.of_eq ?_; unfold takesR; repeat (first | rfl | rw [if_pos (by assumption)] | rw [if_neg (by assumption)]))
 refine Z15 ?_
 refine Cd (fun c3 => ?_) fun c3 => ?_
 ·
  refine Z4 ?_
  refine .p (cB encU8 [127, 127]) rfl ?_
  refine Z7 ?_
  refine Rt2 ?_ ?_
  · first | (refine VLe.trans (sliceV_nil 1 encU8) (VLe.of_eq ?_); unfold takesR; repeat (first | rfl | rw [if_pos (by assumption)] | rw [if_neg (by assumption)])) | (refine VLe.of_eq ?_; unfold takesR; repeat (first | rfl | rw [if_pos (by assumption)] | rw [if_neg (by assumption)]))
  first | (refine VLe.trans (sliceV_nil 1 encU8) (VLe.of_eq ?_); unfold takesR; repeat (first | rfl | rw [if_pos (by assumption)] | rw [if_neg (by assumption)])) | (refine VLe.of_eq ?_; unfold takesR; repeat (first | rfl | rw [if_pos (by assumption)] | rw [if_neg (by assumption)]))
 refine Z7 ?_
 refine Cd (fun c4 => ?_) fun c4 => ?_
 ·
  refine Z4 ?_
  refine .p (cB encU8 [127, 126]) rfl ?_
  refine Z7 ?_
  refine Rt2 ?_ ?_
  · first | (refine VLe.trans (sliceV_nil 1 encU8) (VLe.of_eq ?_); unfold takesR; repeat (first | rfl | rw [if_pos (by assumption)] | rw [if_neg (by assumption)])) | (refine VLe.of_eq ?_; unfold takesR; repeat (first | rfl | rw [if_pos (by assumption)] | rw [if_neg (by assumption)]))
  first | (refine VLe.trans (sliceV_nil 1 encU8) (VLe.of_eq ?_); unfold takesR; repeat (first | rfl | rw [if_pos (by assumption)] | rw [if_neg (by assumption)])) | (refine VLe.of_eq ?_; unfold takesR; repeat (first | rfl | rw [if_pos (by assumption)] | rw [if_neg (by assumption)]))
 refine Z11 ?_
 refine Cd (fun c5 => ?_) fun c5 => ?_
 ·
  refine Z3 ?_
  refine .p (cB encU8 [127]) rfl ?_
  refine Z7 ?_
  refine Rt2 ?_ ?_
  · first | (refine VLe.trans (sliceV_nil 1 encU8) (VLe.of_eq ?_); unfold takesR; repeat (first | rfl | rw [if_pos (by assumption)] | rw [if_neg (by assumption)])) | (refine VLe.of_eq ?_; unfold takesR; repeat (first | rfl | rw [if_pos (by assumption)] | rw [if_neg (by assumption)]))
  first | (refine VLe.trans (sliceV_nil 1 encU8) (VLe.of_eq ?_); unfold takesR; repeat (first | rfl | rw [if_pos (by assumption)] | rw [if_neg (by assumption)])) | (refine VLe.of_eq ?_; unfold takesR; repeat (first | rfl | rw [if_pos (by assumption)] | rw [if_neg (by assumption)]))
 refine Z7 ?_
 refine Cd (fun c6 => ?_) fun c6 => ?_
 ·
  refine Z3 ?_
  refine .p (cB encU8 [126]) rfl ?_
  refine Z7 ?_
  refine Rt2 ?_ ?_
  · first | (refine VLe.trans (sliceV_nil 1 encU8) (VLe.of_eq ?_); unfold takesR; repeat (first | rfl | rw [if_pos (by assumption)] | rw [if_neg (by assumption)])) | (refine VLe.of_eq ?_; unfold takesR; repeat (first | rfl | rw [if_pos (by assumption)] | rw [if_neg (by assumption)]))
  first | (refine VLe.trans (sliceV_nil 1 encU8) (VLe.of_eq ?_); unfold takesR; repeat (first | rfl | rw [if_pos (by assumption)] | rw [if_neg (by assumption)])) | (refine VLe.of_eq ?_; unfold takesR; repeat (first | rfl | rw [if_pos (by assumption)] | rw [if_neg (by assumption)]))
 refine Z11 ?_
 refine Cd (fun c7 => ?_) fun c7 => ?_
 ·
  refine Z3 ?_
  refine .p (cB encU8 [126]) rfl ?_
  refine Z1 ?_
  refine .p (cB encU8 [127]) rfl ?_
  refine Z7 ?_
  refine Rt2 ?_ ?_
  · first | (refine VLe.trans (sliceV_nil 1 encU8) (VLe.of_eq ?_); unfold takesR; repeat (first | rfl | rw [if_pos (by assumption)] | rw [if_neg (by assumption)])) | (refine VLe.of_eq ?_; unfold takesR; repeat (first | rfl | rw [if_pos (by assumption)] | rw [if_neg (by assumption)]))
  first | (refine VLe.trans (sliceV_nil 1 encU8) (VLe.of_eq ?_); unfold takesR; repeat (first | rfl | rw [if_pos (by assumption)] | rw [if_neg (by assumption)])) | (refine VLe.of_eq ?_; unfold takesR; repeat (first | rfl | rw [if_pos (by assumption)] | rw [if_neg (by assumption)]))
 refine Z19 ?_
 refine Cd (fun c8 => ?_) fun c8 => ?_
 ·
  refine Z4 ?_
  refine .p (cB encU8 [127, 127]) rfl ?_
  refine Z1 ?_
  refine .p (cB encU8 [127]) rfl ?_
  refine Z7 ?_
  refine Rt2 ?_ ?_
  · first | (refine VLe.trans (sliceV_nil 1 encU8) (VLe.of_eq ?_); unfold takesR; repeat (first | rfl | rw [if_pos (by assumption)] | rw [if_neg (by assumption)])) | (refine VLe.of_eq ?_; unfold takesR; repeat (first | rfl | rw [if_pos (by assumption)] | rw [if_neg (by assumption)]))
  first | (refine VLe.trans (sliceV_nil 1 encU8) (VLe.of_eq ?_); unfold takesR; repeat (first | rfl | rw [if_pos (by assumption)] | rw [if_neg (by assumption)])) | (refine VLe.of_eq ?_; unfold takesR; repeat (first | rfl | rw [if_pos (by assumption)] | rw [if_neg (by assumption)]))
 refine Z11 ?_
 refine Cd (fun c9 => ?_) fun c9 => ?_
 ·
  refine Z4 ?_
  refine .p (cB encU8 [126, 126]) rfl ?_
  refine Z1 ?_
  refine .p (cB encU8 [127]) rfl ?_
  refine Z7 ?_
  refine Rt2 ?_ ?_
  · first | (refine VLe.trans (sliceV_nil 1 encU8) (VLe.of_eq ?_); unfold takesR; repeat (first | rfl | rw [if_pos (by assumption)] | rw [if_neg (by assumption)])) | (refine VLe.of_eq ?_; unfold takesR; repeat (first | rfl | rw [if_pos (by assumption)] | rw [if_neg (by assumption)]))
  first | (refine VLe.trans (sliceV_nil 1 encU8) (VLe.of_eq ?_); unfold takesR; repeat (first | rfl | rw [if_pos (by assumption)] | rw [if_neg (by assumption)])) | (refine VLe.of_eq ?_; unfold takesR; repeat (first | rfl | rw [if_pos (by assumption)] | rw [if_neg (by assumption)]))
 refine Z11 ?_
 refine Cd (fun c10 => ?_) fun c10 => ?_
 ·
  refine Z4 ?_
  refine .p (cB encU8 [126, 126]) rfl ?_
  refine Z1 ?_
  refine .p (cB encU8 [126]) rfl ?_
  refine Z7 ?_
  refine Rt2 ?_ ?_
  · first | (refine VLe.trans (sliceV_nil 1 encU8) (VLe.of_eq ?_); unfold takesR; repeat (first | rfl | rw [if_pos (by assumption)] | rw [if_neg (by assumption)])) | (refine VLe.of_eq ?_; unfold takesR; repeat (first | rfl | rw [if_pos (by assumption)] | rw [if_neg (by assumption)]))
  first | (refine VLe.trans (sliceV_nil 1 encU8) (VLe.of_eq ?_); unfold takesR; repeat (first | rfl | rw [if_pos (by assumption)] | rw [if_neg (by assumption)])) | (refine VLe.of_eq ?_; unfold takesR; repeat (first | rfl | rw [if_pos (by assumption)] | rw [if_neg (by assumption)]))
 refine Z11 ?_
 refine Cd (fun c11 => ?_) fun c11 => ?_
 ·
  refine Z3 ?_
  refine .p (cB encU8 [127]) rfl ?_
  refine Z1 ?_
  refine .p (cB encU8 [126]) rfl ?_
  refine Z7 ?_
  refine Rt2 ?_ ?_
  · first | (refine VLe.trans (sliceV_nil 1 encU8) (VLe.of_eq ?_); unfold takesR; repeat (first | rfl | rw [if_pos (by assumption)] | rw [if_neg (by assumption)])) | (refine VLe.of_eq ?_; unfold takesR; repeat (first | rfl | rw [if_pos (by assumption)] | rw [if_neg (by assumption)]))
  first | (refine VLe.trans (sliceV_nil 1 encU8) (VLe.of_eq ?_); unfold takesR; repeat (first | rfl | rw [if_pos (by assumption)] | rw [if_neg (by assumption)])) | (refine VLe.of_eq ?_; unfold takesR; repeat (first | rfl | rw [if_pos (by assumption)] | rw [if_neg (by assumption)]))
 refine Z19 ?_
 refine Cd (fun c12 => ?_) fun c12 => ?_
 ·
  refine Z3 ?_
  refine .p (cB encU8 [126]) rfl ?_
  refine Z1 ?_
  refine .p (cB encU8 [126]) rfl ?_
  refine Z7 ?_
  refine Rt2 ?_ ?_
  · first | (refine VLe.trans (sliceV_nil 1 encU8) (VLe.of_eq ?_); unfold takesR; repeat (first | rfl | rw [if_pos (by assumption)] | rw [if_neg (by assumption)])) | (refine VLe.of_eq ?_; unfold takesR; repeat (first | rfl | rw [if_pos (by assumption)] | rw [if_neg (by assumption)]))
  first | (refine VLe.trans (sliceV_nil 1 encU8) (VLe.of_eq ?_); unfold takesR; repeat (first | rfl | rw [if_pos (by assumption)] | rw [if_neg (by assumption)])) | (refine VLe.of_eq ?_; unfold takesR; repeat (first | rfl | rw [if_pos (by assumption)] | rw [if_neg (by assumption)]))
 refine Z7 ?_
 refine Cd (fun c13 => ?_) fun c13 => ?_
 ·
  refine Z5 ?_
  refine .p (cB encU8 [127, 127, 127]) rfl ?_
  refine Z7 ?_
  refine Rt2 ?_ ?_
  · first | (refine VLe.trans (sliceV_nil 1 encU8) (VLe.of_eq ?_); unfold takesR; repeat (first | rfl | rw [if_pos (by assumption)] | rw [if_neg (by assumption)])) | (refine VLe.of_eq ?_; unfold takesR; repeat (first | rfl | rw [if_pos (by assumption)] | rw [if_neg (by assumption)]))
  first | (refine VLe.trans (sliceV_nil 1 encU8) (VLe.of_eq ?_); unfold takesR; repeat (first | rfl | rw [if_pos (by assumption)] | rw [if_neg (by assumption)])) | (refine VLe.of_eq ?_; unfold takesR; repeat (first | rfl | rw [if_pos (by assumption)] | rw [if_neg (by assumption)]))
 refine Z6 ?_
 refine .p (cB encU8 [127]) rfl ?_
 refine Z1 ?_
 refine .p (cB encU8 [127]) rfl ?_
 refine Z5 ?_
 refine Rt2 ?_ ?_
 · first | (refine VLe.trans (sliceV_nil 1 encU8) (VLe.of_eq ?_); unfold takesR; repeat (first | rfl | rw [if_pos (by assumption)] | rw [if_neg (by assumption)])) | (refine VLe.of_eq ?_; unfold takesR; repeat (first | rfl | rw [if_pos (by assumption)] | rw [if_neg (by assumption)]))
 first | (refine VLe.trans (sliceV_nil 1 encU8) (VLe.of_eq ?_); unfold takesR; repeat (first | rfl | rw [if_pos (by assumption)] | rw [if_neg (by assumption)])) | (refine VLe.of_eq ?_; unfold takesR; repeat (first | rfl | rw [if_pos (by assumption)] | rw [if_neg (by assumption)]))
theorem rwidth_spec {code : Int} : FnP Tryz.prog 141 [intV .i64 code] (intV .i64 (widthR code)) := by
 refine In 27 Tryz.func141 fun _ _ _ => ?_
 refine Z12 ?_
 refine .cut (σ := Unit) (fun _ => []) (fun _ => [(4, propV (code = 40 ∨ code = 52 ∨ code = 53 ∨ code = 54 ∨ code = 62))]) (fun _ => True) ?_ ?_
 ·
  refine Z6 ?_
  refine Cd (fun c0 => ?_) fun c0 => ?_
  ·
   refine Z1 ?_
   refine .meet () trivial rfl (.get rfl (VLe.prop (by omega)) (.keep 2 rfl rfl))
  refine Z6 ?_
  refine Cd (fun c1 => ?_) fun c1 => ?_
  ·
   refine Z1 ?_
   refine .meet () trivial rfl (.get rfl (VLe.prop (by omega)) (.keep 4 rfl rfl))
  refine Z6 ?_
  refine Cd (fun c2 => ?_) fun c2 => ?_
  ·
   refine Z1 ?_
   refine .meet () trivial rfl (.get rfl (VLe.prop (by omega)) (.keep 6 rfl rfl))
  refine Z6 ?_
  refine Cd (fun c3 => ?_) fun c3 => ?_
  ·
   refine Z1 ?_
   refine .meet () trivial rfl (.get rfl (VLe.prop (by omega)) (.keep 8 rfl rfl))
  refine Z4 ?_
  refine .meet () trivial rfl (.get rfl (VLe.prop (by omega)) (.keep 10 rfl rfl))
 intro _ _
 refine Cd (fun c4 => ?_) fun c4 => ?_
 ·
  refine Z8 ?_
  refine Rt1 ?_
  exact VLe.int (by unfold widthR; repeat (first | rfl | rw [if_pos (by assumption)] | rw [if_neg (by assumption)]))
 refine .cut (σ := Unit) (fun _ => []) (fun _ => [(10, propV (code = 41 ∨ code = 55))]) (fun _ => True) ?_ ?_
 ·
  refine Z6 ?_
  refine Cd (fun c5 => ?_) fun c5 => ?_
  ·
   refine Z1 ?_
   refine .meet () trivial rfl (.get rfl (VLe.prop (by omega)) (.keep 2 rfl rfl))
  refine Z4 ?_
  refine .meet () trivial rfl (.get rfl (VLe.prop (by omega)) (.keep 4 rfl rfl))
 intro _ _
 refine Cd (fun c6 => ?_) fun c6 => ?_
 ·
  refine Z8 ?_
  refine Rt1 ?_
  exact VLe.int (by unfold widthR; repeat (first | rfl | rw [if_pos (by assumption)] | rw [if_neg (by assumption)]))
 refine .cut (σ := Unit) (fun _ => []) (fun _ => [(13, propV (code = 44 ∨ code = 45 ∨ code = 48 ∨ code = 49 ∨ code = 58 ∨ code = 60))]) (fun _ => True) ?_ ?_
 ·
  refine Z6 ?_
  refine Cd (fun c7 => ?_) fun c7 => ?_
  ·
   refine Z1 ?_
   refine .meet () trivial rfl (.get rfl (VLe.prop (by omega)) (.keep 2 rfl rfl))
  refine Z6 ?_
  refine Cd (fun c8 => ?_) fun c8 => ?_
  ·
   refine Z1 ?_
   refine .meet () trivial rfl (.get rfl (VLe.prop (by omega)) (.keep 4 rfl rfl))
  refine Z6 ?_
  refine Cd (fun c9 => ?_) fun c9 => ?_
  ·
   refine Z1 ?_
   refine .meet () trivial rfl (.get rfl (VLe.prop (by omega)) (.keep 6 rfl rfl))
  refine Z6 ?_
  refine Cd (fun c10 => ?_) fun c10 => ?_
  ·
   refine Z1 ?_
   refine .meet () trivial rfl (.get rfl (VLe.prop (by omega)) (.keep 8 rfl rfl))
  refine Z6 ?_
  refine Cd (fun c11 => ?_) fun c11 => ?_
  ·
   refine Z1 ?_
   refine .meet () trivial rfl (.get rfl (VLe.prop (by omega)) (.keep 10 rfl rfl))
  refine Z4 ?_
  refine .meet () trivial rfl (.get rfl (VLe.prop (by omega)) (.keep 12 rfl rfl))
 intro _ _
 refine Cd (fun c12 => ?_) fun c12 => ?_
 ·
  refine Z8 ?_
  refine Rt1 ?_
  exact VLe.int (by unfold widthR; repeat (first | rfl | rw [if_pos (by assumption)] | rw [if_neg (by assumption)]))
 refine .cut (σ := Unit) (fun _ => []) (fun _ => [(20, propV (code = 46 ∨ code = 47 ∨ code = 50 ∨ code = 51 ∨ code = 59 ∨ code = 61))]) (fun _ => True) ?_ ?_
 ·
  refine Z6 ?_
  refine Cd (fun c13 => ?_) fun c13 => ?_
  ·
   refine Z1 ?_
   refine .meet () trivial rfl (.get rfl (VLe.prop (by omega)) (.keep 2 rfl rfl))
  refine Z6 ?_
  refine Cd (fun c14 => ?_) fun c14 => ?_
  ·
   refine Z1 ?_
   refine .meet () trivial rfl (.get rfl (VLe.prop (by omega)) (.keep 4 rfl rfl))
  refine Z6 ?_
  refine Cd (fun c15 => ?_) fun c15 => ?_
  ·
   refine Z1 ?_
   refine .meet () trivial rfl (.get rfl (VLe.prop (by omega)) (.keep 6 rfl rfl))
  refine Z6 ?_
  refine Cd (fun c16 => ?_) fun c16 => ?_
  ·
   refine Z1 ?_
   refine .meet () trivial rfl (.get rfl (VLe.prop (by omega)) (.keep 8 rfl rfl))
  refine Z6 ?_
  refine Cd (fun c17 => ?_) fun c17 => ?_
  ·
   refine Z1 ?_
   refine .meet () trivial rfl (.get rfl (VLe.prop (by omega)) (.keep 10 rfl rfl))
  refine Z4 ?_
  refine .meet () trivial rfl (.get rfl (VLe.prop (by omega)) (.keep 12 rfl rfl))
 intro _ _
 refine Cd (fun c18 => ?_) fun c18 => ?_
 ·
  refine Z8 ?_
  refine Rt1 ?_
  exact VLe.int (by unfold widthR; repeat (first | rfl | rw [if_pos (by assumption)] | rw [if_neg (by assumption)]))
 refine Z9 ?_
 refine Rt1 ?_
 exact VLe.int (by unfold widthR; repeat (first | rfl | rw [if_pos (by assumption)] | rw [if_neg (by assumption)]))
end Go.Proofs.YtmmdlhjcmlekfaaGreatDoor
end
section
namespace Go.Proofs.YtmmdlhjcmlekfaaGreatDoor
open Go.Hl Go.RowKit
theorem dtake_spec {s : Stk} {base : Int} {w : UInt8} (hp0 : s.1.length ≤ 60000) : FnE Tryz.prog 137 [aggV (encStk s base), intV .u8 ((w : UInt8).toNat : Int)] [] (γ := Stk × UInt8 × Int) (tk1P s w) (fun _ => []) (fun g => tupV [aggV (encStk g.1 base), intV .u8 (g.2.1.toNat : Int), intV .i64 g.2.2]) := by
 refine In 52 Tryz.func137 fun _ _ _ => ?_
 obtain ⟨sl, sd⟩ := s
 simp only at hp0
 refine Z2 ?_
 refine .n (opBoxOA (.t rfl)) rfl fun b2 _ => ?_
 refine .n (opAlloc Tryz.zb193) rfl fun b4 _ => ?_
 refine Z19 ?_
 refine Cd (fun c0 => ?_) fun c0 => ?_
 ·
  have hsl : sl = [] := List.eq_nil_of_length_eq_zero (by have : (sl.length : Int) = 0 := c0; omega)
  subst hsl
  refine Z8 ?_
  refine Cd (fun c1 => ?_) fun c1 => ?_
  ·
   refine Z11 ?_
   refine Post.retR rfl rfl ((([], sd), 0, 5)) (by exact ⟨.inr ⟨by show (5 : Int) ≠ 0; decide, tk1_nil_no c1⟩, Nat.le_refl _⟩) (OLe.sel [] [0, 1] rfl rfl) rfl (.cons (.ra (i := 0) Tryz.ag193 Tryz.cz193 rfl rfl rfl rfl) ?_ (.cons (.rt rfl) ?_ (.cons (.rt rfl) ?_ .nil)))
   · exact VLe.refl _
   · exact VLe.refl _
   exact VLe.refl _
  refine Z13 ?_
  refine Post.retR rfl rfl ((([], sd), w, 0)) (by exact ⟨.inl ⟨rfl, tk1_nil (Classical.not_not.1 c1)⟩, Nat.le_refl _⟩) (OLe.sel [] [0, 1] rfl rfl) rfl (.cons (.ra (i := 0) Tryz.ag193 Tryz.cz193 rfl rfl rfl rfl) ?_ (.cons (.rt rfl) ?_ (.cons (.rt rfl) ?_ .nil)))
  · exact VLe.refl _
  · exact VLe.refl _
  exact VLe.refl _
 obtain ⟨l, x, rfl⟩ := snoc_of (l := sl) (fun e => c0 (by rw [e]; rfl))
 simp only [List.length_append, List.length_cons, List.length_nil] at hp0
 refine Z7 ?_
 refine .p (opSubF (.t rfl) (.c _) (fits_i64 (by simp <;> omega) (by simp <;> omega))) rfl ?_
 refine .p (cI l.length (h := show (l ++ [x])[l.length]? = some x by simp) (hi := by simp)) rfl ?_
 refine Z6 ?_
 refine .p (opBuildEmpty Tryz.underlying64 Tryz.cz5 rfl Tryz.zb5 rfl) rfl ?_
 refine Z3 ?_
 refine .p (opSubF (.t rfl) (.c _) (fits_i64 (by simp <;> omega) (by simp <;> omega))) rfl ?_
 refine .p (opSliceHi (h := l.length) Tryz.underlying64 Tryz.cz5 rfl (.t rfl) (.t rfl) (by simp) (by simp)) rfl ?_
 refine .p (opAppendE Tryz.underlying64 Tryz.underlying64 Tryz.cz5 rfl Tryz.zb5 rfl Tryz.by5 (.t rfl) (.t rfl) (by simp <;> omega)) rfl ?_
 refine Z20 ?_
 refine Cd (fun c2 => ?_) fun c2 => ?_
 ·
  refine Z10 ?_
  refine Post.retR rfl rfl (((l, sd), 0, 5)) (by exact ⟨.inr ⟨by show (5 : Int) ≠ 0; decide, tk1_bad c2⟩, by (show l.length ≤ _; simp)⟩) (OLe.sel [] [0, 1] rfl rfl) rfl (.cons (.ra (i := 0) Tryz.ag193 Tryz.cz193 rfl rfl rfl rfl) ?_ (.cons (.rt rfl) ?_ (.cons (.rt rfl) ?_ .nil)))
  · exact VLe.agg (.cons (VLe.of_eq (by simp)) (.cons (VLe.refl _) (.cons (VLe.refl _) .nil)))
  · exact VLe.refl _
  exact VLe.refl _
 refine Z9 ?_
 refine Cd (fun c3 => ?_) fun c3 => ?_
 ·
  refine Z11 ?_
  refine Post.retR rfl rfl (((l, sd), w, 0)) (by exact ⟨.inl ⟨rfl, by rw [tk1_good c2, if_pos ((u8_zero x).1 c3)]⟩, by (show l.length ≤ _; simp)⟩) (OLe.sel [] [0, 1] rfl rfl) rfl (.cons (.ra (i := 0) Tryz.ag193 Tryz.cz193 rfl rfl rfl rfl) ?_ (.cons (.rt rfl) ?_ (.cons (.rt rfl) ?_ .nil)))
  · exact VLe.agg (.cons (VLe.of_eq (by simp)) (.cons (VLe.refl _) (.cons (VLe.refl _) .nil)))
  · exact VLe.refl _
  exact VLe.refl _
 refine Z12 ?_
 refine Post.retR rfl rfl (((l, sd), x, 0)) (by exact ⟨.inl ⟨rfl, by rw [tk1_good c2, if_neg (fun e => c3 ((u8_zero x).2 e))]⟩, by (show l.length ≤ _; simp)⟩) (OLe.sel [] [0, 1] rfl rfl) rfl (.cons (.ra (i := 0) Tryz.ag193 Tryz.cz193 rfl rfl rfl rfl) ?_ (.cons (.rt rfl) ?_ (.cons (.rt rfl) ?_ .nil)))
 · exact VLe.agg (.cons (VLe.of_eq (by simp)) (.cons (VLe.refl _) (.cons (VLe.refl _) .nil)))
 · exact VLe.refl _
 exact VLe.refl _
theorem dtakes_spec {s : Stk} {base : Int} {l : List UInt8} (hp0 : s.1.length ≤ 60000) : FnE Tryz.prog 106 [aggV (encStk s base), sliceV 1 encU8 (l)] [] (γ := Stk × Int) (tkP s l) (fun _ => []) (fun g => tupV [aggV (encStk g.1 base), intV .i64 g.2]) := by
 refine In 30 Tryz.func106 fun _ _ _ => ?_
 refine .fact (t := 1) rfl (fun S w v h => sliceV_len h) fun hln => ?_
 refine Z2 ?_
 refine .n (opBoxOA (.t rfl)) rfl fun b2 _ => ?_
 refine .n (opAlloc Tryz.zb193) rfl fun b4 _ => ?_
 refine Z13 ?_
 refine .own (OLe.perm (Perm.idx [1, 0] rfl rfl)) ?_
 refine .loopO (σ := Nat × Stk) (fun g => [cellsH b2 (encStk g.2 base), cellsH b4 (List.map exactV [.slice none 0 0, .bool false, .int .i64 0])]) (fun g => [(6, intV .i64 ((g.1 : Int) - 1))]) (fun g => g.1 ≤ l.length ∧ tksS g.2 (l.take g.1) = tksS s l ∧ g.2.1.length ≤ s.1.length) (fun g => g.1) (l.length, s) ⟨Nat.le_refl _, by simp, Nat.le_refl _⟩ rfl ?_ ?_
 · exact (.get rfl (VLe.refl _) (.refl _ _))
 rintro ⟨j, s1⟩ ⟨hj, hinv, hsl⟩
 simp only at hj hinv hsl ⊢
 refine Z7 ?_
 refine Cd (fun c0 => ?_) fun c0 => ?_
 ·
  obtain ⟨t, ht⟩ := getElem?_lt (xs := l) (k := j - 1) (by omega)
  have hjt : tksS s1 (l.take j) = (tk1S s1 t).bind fun p => tksS p.1 (l.take (j - 1)) := by (have h9 := tks_at (s := s1) ht; rwa [show j - 1 + 1 = j by omega] at h9)
  refine Z10 ?_
  refine .stagedK [(0, 1), (1, 0), (2, 0), (3, 0), (4, 0), (5, 2), (6, 0), (7, 0), (8, 0), (9, 0), (10, 3)] 11 1 FM.out (by kernel_rfl) (k := ?_)
  refine Z3 ?_
  refine .p rfl (fun _ => opIndexAddr (j := j - 1) Tryz.underlying64 Tryz.cz5 rfl (.t rfl) (.t rfl) (by omega) ht) ?_
  refine Z1 ?_
  refine .e rfl (cE (h := dtake_spec (s := s1) (w := t) (by omega))) fun g21 h21 => ?_
  refine Z4 ?_
  refine .s rfl (opStoreOA (i := 0) Tryz.cz193 rfl (.t rfl) (.t rfl) rfl rfl rfl) ?_
  refine .fin ?_
  refine Z9 ?_
  refine Cd (fun c1 => ?_) fun c1 => ?_
  ·
   refine Z14 ?_
   refine Post.retR rfl rfl ((g21.1, g21.2.2)) (by exact ⟨.inr ⟨c1, by rw [← hinv, hjt, h21.no c1]; rfl⟩, Nat.le_trans h21.2 hsl⟩) (OLe.sel [] [0, 1] rfl rfl) rfl (.cons (.ra (i := 1) Tryz.ag193 Tryz.cz193 rfl rfl rfl rfl) ?_ (.cons (.rt rfl) ?_ .nil))
   · exact VLe.refl _
   exact VLe.refl _
  refine Z8 ?_
  refine .round (j - 1, g21.1) ⟨by show j - 1 ≤ _; omega, by (show tksS g21.1 _ = _; rw [← hinv, hjt, h21.ok (Classical.not_not.1 c1)]; rfl), Nat.le_trans h21.2 hsl⟩ (by show j - 1 < j; omega) rfl ?_
  exact (.get rfl (VLe.int (by show (_ : Int) = ((j - 1 : Nat) : Int) - 1; omega)) ((.keep 21 rfl rfl)))
 have hj0 : j = 0 := by omega
 subst hj0
 refine Z13 ?_
 refine Post.retR rfl rfl ((s1, 0)) (by exact ⟨.inl ⟨rfl, by rw [← hinv]; rfl⟩, hsl⟩) (OLe.sel [] [0, 1] rfl rfl) rfl (.cons (.ra (i := 1) Tryz.ag193 Tryz.cz193 rfl rfl rfl rfl) ?_ (.cons (.rt rfl) ?_ .nil))
 · exact VLe.refl _
 exact VLe.refl _
theorem dgive_spec {s : Stk} {base : Int} {l : List UInt8} (hp0 : s.1.length ≤ 60000) (hp1 : l.length ≤ 60000) : FnE Tryz.prog 108 [aggV (encStk s base), sliceV 1 encU8 (l)] [] (γ := Unit) (fun _ => True) (fun _ => []) (fun _ => aggV (encStk (giveS s l) base)) := by
 refine In 13 Tryz.func108 fun _ _ _ => ?_
 refine Z2 ?_
 refine .n (opBoxOA (.t rfl)) rfl fun b2 _ => ?_
 refine .n (opAlloc Tryz.zb193) rfl fun b4 _ => ?_
 refine Z4 ?_
 refine .n (opBuildSliceO encU8 ([] : List UInt8) Tryz.underlying64 Tryz.cz5 rfl Tryz.zb5 rfl .nil rfl rfl rfl rfl rfl) rfl fun g5 _ => ?_
 refine Z2 ?_
 refine .n (opAppend (i := 0) Tryz.underlying64 Tryz.underlying64 Tryz.cz5 rfl Tryz.zb5 rfl Tryz.by5 (.t rfl) (.t rfl) rfl (by simp <;> omega) (by simp <;> omega)) rfl fun g8 _ => ?_
 refine Z1 ?_
 refine .n (OpE.shareS (G := fun g => g) (hs1 := fun _ => _) (xs := fun _ => _) (opAppend (i := 0) Tryz.underlying64 Tryz.underlying64 Tryz.cz5 rfl Tryz.zb5 rfl Tryz.by5 (.t rfl) (.t rfl) rfl (by simp <;> omega) (by simp <;> omega))) rfl fun _ _ => ?_
 refine Z11 ?_
 refine Post.retR1 rfl (()) (by trivial) (OLe.sel [] [0, 1] rfl rfl) (.ra (i := 0) Tryz.ag193 Tryz.cz193 rfl rfl rfl rfl) ?_
 exact VLe.agg (.cons (VLe.of_eq (by simp [giveS])) (.cons (VLe.refl _) (.cons (VLe.refl _) .nil)))
theorem dkill_spec {s : Stk} {base : Int} : FnE Tryz.prog 138 [aggV (encStk s base)] [] (γ := Unit) (fun _ => True) (fun _ => []) (fun _ => aggV (encStk killS base)) := by
 refine In 6 Tryz.func138 fun _ _ _ => ?_
 refine Z3 ?_
 refine .n (opAlloc Tryz.zb193) rfl fun b2 _ => ?_
 refine Z11 ?_
 refine Post.retR1 rfl (()) (by trivial) (OLe.sel [] [0] rfl rfl) (.ra (i := 0) Tryz.ag193 Tryz.cz193 rfl rfl rfl rfl) ?_
 exact VLe.agg (.cons (sliceV_nil 1 encU8) (.cons (VLe.refl _) (.cons (VLe.refl _) .nil)))
theorem dsame_spec {a b : List UInt8} : FnP Tryz.prog 139 [sliceV 1 encU8 (a), sliceV 1 encU8 (b)] (propV (a = b)) := by
 refine In 10 Tryz.func139 fun _ _ _ => ?_
 refine Z16 ?_
 refine Rt1 ?_
 exact VLe.refl _
end Go.Proofs.YtmmdlhjcmlekfaaGreatDoor
end
section
namespace Go.Proofs.YtmmdlhjcmlekfaaGreatDoor
open Go.Hl Go.RowKit
theorem dp0_spec {v : EnvD} {x : InstrD} {s : Stk} {base : Int} {labs : List (List UInt8)} (hp0 : PlOk v x s labs) (hp1 : x.Code = 0) : FnE Tryz.prog 107 [aggV (encEnv v), aggV (encInstr x), aggV (encStk s base), sliceV 1 encSlT labs] [] (γ := Stk × Int) (plQ s (plS v x s labs)) (fun _ => []) (fun g => tupV [aggV (encStk g.1 base), intV .i64 g.2]) := by
 refine In 517 Tryz.func107 fun _ _ _ => ?_
 have hs5 := hp0.stk
 have hA0 := hp0.ins.A0
 have hA6 := hp0.ins.A64
 have hln := hp0.lbn
 have hE := hp0.env
 have hf1 := hE.F
 have hf2 := hE.S
 have hf3 := hE.L
 have hf4 := hE.G
 have hf5 := hE.W
 refine Z4 ?_
 refine .n (opBoxOA (.t rfl)) rfl fun b6 _ => ?_
 refine .n (opAlloc Tryz.zb193) rfl fun b8 _ => ?_
 refine Z35 ?_
 refine Cd (fun c0 => ?_) fun c0 => ?_
 ·
  refine Z3 ?_
  refine .n (cE (h := dkill_spec (s := s))) rfl fun g37 h37 => ?_
  refine Z7 ?_
  refine Post.retR rfl rfl ((killS, 0)) (by exact plQ_ok (plS_0 hp1) (by simp [killS])) (OLe.sel [] [0, 1] rfl rfl) rfl (.cons (.ra (i := 0) Tryz.ag193 Tryz.cz193 rfl rfl rfl rfl) ?_ (.cons (.rt rfl) ?_ .nil))
  · exact VLe.refl _
  exact VLe.refl _
 exfalso; omega
theorem dp12_spec {v : EnvD} {x : InstrD} {s : Stk} {base : Int} {labs : List (List UInt8)} (hp0 : PlOk v x s labs) (hp1 : x.Code = 12) : FnE Tryz.prog 107 [aggV (encEnv v), aggV (encInstr x), aggV (encStk s base), sliceV 1 encSlT labs] [] (γ := Stk × Int) (plQ s (plS v x s labs)) (fun _ => []) (fun g => tupV [aggV (encStk g.1 base), intV .i64 g.2]) := by
 refine In 517 Tryz.func107 fun _ _ _ => ?_
 have hs5 := hp0.stk
 have hA0 := hp0.ins.A0
 have hA6 := hp0.ins.A64
 have hln := hp0.lbn
 have hE := hp0.env
 have hf1 := hE.F
 have hf2 := hE.S
 have hf3 := hE.L
 have hf4 := hE.G
 have hf5 := hE.W
 refine Z4 ?_
 refine .n (opBoxOA (.t rfl)) rfl fun b6 _ => ?_
 refine .n (opAlloc Tryz.zb193) rfl fun b8 _ => ?_
 refine Z35 ?_
 refine Cd (fun c0 => ?_) fun c0 => ?_
 · exfalso; omega
 refine Z7 ?_
 refine Cd (fun c1 => ?_) fun c1 => ?_
 ·
  refine Z2 ?_
  refine Cd (fun c2 => ?_) fun c2 => ?_
  ·
   refine Z10 ?_
   refine Cd (fun c3 => ?_) fun c3 => ?_
   ·
    have hno := labAt_no (L := labs) c3
    refine Z11 ?_
    refine Post.retR rfl rfl ((s, 2)) (by exact plQ_no (by decide) (by rw [plS_12 hp1, hno]; rfl) (by omega)) (OLe.sel [] [0, 1] rfl rfl) rfl (.cons (.ra (i := 0) Tryz.ag193 Tryz.cz193 rfl rfl rfl rfl) ?_ (.cons (.rt rfl) ?_ .nil))
    · exact VLe.refl _
    exact VLe.refl _
   obtain ⟨w, hw, hw2⟩ := labAt_at (L := labs) hA0 c3
   have hwl : w.length ≤ 20 := hp0.lbw w (List.mem_of_getElem? hw2)
   refine Z11 ?_
   refine .p (cI (labs.length - 1 - x.A.toNat) (h := hw2)) rfl ?_
   refine Z12 ?_
   refine Cd (fun c4 => ?_) fun c4 => ?_
   · exfalso; omega
   refine Z6 ?_
   refine .n (cE (h := dtakes_spec (s := s) (l := w) (by omega))) rfl fun g73 h73 => ?_
   refine Z14 ?_
   refine Cd (fun c5 => ?_) fun c5 => ?_
   ·
    refine Z12 ?_
    refine Post.retR rfl rfl (g73) (by exact plQ_no c5 (by rw [plS_12 hp1, hw, Option.bind_some, h73.no c5]; rfl) (by have := h73.2; omega)) (OLe.sel [] [0, 1] rfl rfl) rfl (.cons (.ra (i := 0) Tryz.ag193 Tryz.cz193 rfl rfl rfl rfl) ?_ (.cons (.rt rfl) ?_ .nil))
    · exact VLe.refl _
    exact VLe.refl _
   refine Z10 ?_
   refine Cd (fun c6 => ?_) fun c6 => ?_
   ·
    refine Z3 ?_
    refine .n (cE (h := dkill_spec (s := g73.1))) rfl fun g84 h84 => ?_
    refine Z8 ?_
    refine Post.retR rfl rfl ((killS, 0)) (by exact plQ_ok (by rw [plS_12 hp1, hw, Option.bind_some, h73.ok (Classical.not_not.1 c5)]; rfl) (by simp [killS])) (OLe.sel [] [0, 1] rfl rfl) rfl (.cons (.ra (i := 0) Tryz.ag193 Tryz.cz193 rfl rfl rfl rfl) ?_ (.cons (.rt rfl) ?_ .nil))
    · exact VLe.refl _
    exact VLe.refl _
   exfalso; omega
  exfalso; omega
 exfalso; omega
theorem dp13_spec {v : EnvD} {x : InstrD} {s : Stk} {base : Int} {labs : List (List UInt8)} (hp0 : PlOk v x s labs) (hp1 : x.Code = 13) : FnE Tryz.prog 107 [aggV (encEnv v), aggV (encInstr x), aggV (encStk s base), sliceV 1 encSlT labs] [] (γ := Stk × Int) (plQ s (plS v x s labs)) (fun _ => []) (fun g => tupV [aggV (encStk g.1 base), intV .i64 g.2]) := by
 refine In 517 Tryz.func107 fun _ _ _ => ?_
 have hs5 := hp0.stk
 have hA0 := hp0.ins.A0
 have hA6 := hp0.ins.A64
 have hln := hp0.lbn
 have hE := hp0.env
 have hf1 := hE.F
 have hf2 := hE.S
 have hf3 := hE.L
 have hf4 := hE.G
 have hf5 := hE.W
 refine Z4 ?_
 refine .n (opBoxOA (.t rfl)) rfl fun b6 _ => ?_
 refine .n (opAlloc Tryz.zb193) rfl fun b8 _ => ?_
 refine Z35 ?_
 refine Cd (fun c0 => ?_) fun c0 => ?_
 · exfalso; omega
 refine Z7 ?_
 refine Cd (fun c1 => ?_) fun c1 => ?_
 · exfalso; omega
 refine Z5 ?_
 refine Cd (fun c2 => ?_) fun c2 => ?_
 ·
  refine Z10 ?_
  refine Cd (fun c3 => ?_) fun c3 => ?_
  ·
   have hno := labAt_no (L := labs) c3
   refine Z11 ?_
   refine Post.retR rfl rfl ((s, 2)) (by exact plQ_no (by decide) (by rw [plS_13 hp1, hno]; rfl) (by omega)) (OLe.sel [] [0, 1] rfl rfl) rfl (.cons (.ra (i := 0) Tryz.ag193 Tryz.cz193 rfl rfl rfl rfl) ?_ (.cons (.rt rfl) ?_ .nil))
   · exact VLe.refl _
   exact VLe.refl _
  obtain ⟨w, hw, hw2⟩ := labAt_at (L := labs) hA0 c3
  have hwl : w.length ≤ 20 := hp0.lbw w (List.mem_of_getElem? hw2)
  refine Z11 ?_
  refine .p (cI (labs.length - 1 - x.A.toNat) (h := hw2)) rfl ?_
  refine Z12 ?_
  refine Cd (fun c4 => ?_) fun c4 => ?_
  ·
   refine Z4 ?_
   refine .p (cB encU8 [127]) rfl ?_
   refine .n (cE (h := dtakes_spec (s := s) (l := [127]) (by omega))) rfl fun g63 h63 => ?_
   refine Z13 ?_
   refine Cd (fun c5 => ?_) fun c5 => ?_
   ·
    refine Z12 ?_
    refine Post.retR rfl rfl (g63) (by exact plQ_no c5 (by rw [plS_13 hp1, hw, Option.bind_some, tgS, tks_snoc2, h63.no c5]; rfl) (by have := h63.2; omega)) (OLe.sel [] [0, 1] rfl rfl) rfl (.cons (.ra (i := 0) Tryz.ag193 Tryz.cz193 rfl rfl rfl rfl) ?_ (.cons (.rt rfl) ?_ .nil))
    · exact VLe.refl _
    exact VLe.refl _
   refine Z6 ?_
   refine .n (cE (h := dtakes_spec (s := g63.1) (l := w) (by have := h63.2; omega))) rfl fun g73 h73 => ?_
   refine Z14 ?_
   refine Cd (fun c6 => ?_) fun c6 => ?_
   ·
    refine Z12 ?_
    refine Post.retR rfl rfl (g73) (by exact plQ_no c6 (by rw [plS_13 hp1, hw, Option.bind_some, tgS, tks_snoc2, h63.ok (Classical.not_not.1 c5), Option.bind_some, h73.no c6]; rfl) (by have := h63.2; have := h73.2; omega)) (OLe.sel [] [0, 1] rfl rfl) rfl (.cons (.ra (i := 0) Tryz.ag193 Tryz.cz193 rfl rfl rfl rfl) ?_ (.cons (.rt rfl) ?_ .nil))
    · exact VLe.refl _
    exact VLe.refl _
   refine Z10 ?_
   refine Cd (fun c7 => ?_) fun c7 => ?_
   · exfalso; omega
   refine Z6 ?_
   refine .n (cE (h := dgive_spec (s := g73.1) (l := w) (by have := h63.2; have := h73.2; omega) (by omega))) rfl fun g87 h87 => ?_
   refine Z7 ?_
   refine Post.retR rfl rfl ((giveS g73.1 w, 0)) (by exact plQ_ok (by rw [plS_13 hp1, hw, Option.bind_some, tgS, tks_snoc2, h63.ok (Classical.not_not.1 c5), Option.bind_some, h73.ok (Classical.not_not.1 c6)]; rfl) (by have := h63.2; have := h73.2; simp only [giveS, List.length_append]; omega)) (OLe.sel [] [0, 1] rfl rfl) rfl (.cons (.ra (i := 0) Tryz.ag193 Tryz.cz193 rfl rfl rfl rfl) ?_ (.cons (.rt rfl) ?_ .nil))
   · exact VLe.refl _
   exact VLe.refl _
  exfalso; omega
 exfalso; omega
theorem dp15_spec {v : EnvD} {x : InstrD} {s : Stk} {base : Int} {labs : List (List UInt8)} (hp0 : PlOk v x s labs) (hp1 : x.Code = 15) : FnE Tryz.prog 107 [aggV (encEnv v), aggV (encInstr x), aggV (encStk s base), sliceV 1 encSlT labs] [] (γ := Stk × Int) (plQ s (plS v x s labs)) (fun _ => []) (fun g => tupV [aggV (encStk g.1 base), intV .i64 g.2]) := by
 refine In 517 Tryz.func107 fun _ _ _ => ?_
 have hs5 := hp0.stk
 have hA0 := hp0.ins.A0
 have hA6 := hp0.ins.A64
 have hln := hp0.lbn
 have hE := hp0.env
 have hf1 := hE.F
 have hf2 := hE.S
 have hf3 := hE.L
 have hf4 := hE.G
 have hf5 := hE.W
 refine Z4 ?_
 refine .n (opBoxOA (.t rfl)) rfl fun b6 _ => ?_
 refine .n (opAlloc Tryz.zb193) rfl fun b8 _ => ?_
 refine Z35 ?_
 refine Cd (fun c0 => ?_) fun c0 => ?_
 · exfalso; omega
 refine Z7 ?_
 refine Cd (fun c1 => ?_) fun c1 => ?_
 · exfalso; omega
 refine Z5 ?_
 refine Cd (fun c2 => ?_) fun c2 => ?_
 · exfalso; omega
 refine Z6 ?_
 refine Cd (fun c3 => ?_) fun c3 => ?_
 · exfalso; omega
 refine Z6 ?_
 refine Cd (fun c4 => ?_) fun c4 => ?_
 ·
  refine Z6 ?_
  refine .n (cE (h := dtakes_spec (s := s) (l := v.Own.R) (by omega))) rfl fun g168 h168 => ?_
  refine Z14 ?_
  refine Cd (fun c5 => ?_) fun c5 => ?_
  ·
   refine Z12 ?_
   refine Post.retR rfl rfl (g168) (by exact plQ_no c5 (by rw [plS_15 hp1, h168.no c5]; rfl) (by have := h168.2; omega)) (OLe.sel [] [0, 1] rfl rfl) rfl (.cons (.ra (i := 0) Tryz.ag193 Tryz.cz193 rfl rfl rfl rfl) ?_ (.cons (.rt rfl) ?_ .nil))
   · exact VLe.refl _
   exact VLe.refl _
  refine Z5 ?_
  refine .n (cE (h := dkill_spec (s := g168.1))) rfl fun g176 h176 => ?_
  refine Z7 ?_
  refine Post.retR rfl rfl ((killS, 0)) (by exact plQ_ok (by rw [plS_15 hp1, h168.ok (Classical.not_not.1 c5)]; rfl) (by simp [killS])) (OLe.sel [] [0, 1] rfl rfl) rfl (.cons (.ra (i := 0) Tryz.ag193 Tryz.cz193 rfl rfl rfl rfl) ?_ (.cons (.rt rfl) ?_ .nil))
  · exact VLe.refl _
  exact VLe.refl _
 exfalso; omega
theorem dp16_spec {v : EnvD} {x : InstrD} {s : Stk} {base : Int} {labs : List (List UInt8)} (hp0 : PlOk v x s labs) (hp1 : x.Code = 16) : FnE Tryz.prog 107 [aggV (encEnv v), aggV (encInstr x), aggV (encStk s base), sliceV 1 encSlT labs] [] (γ := Stk × Int) (plQ s (plS v x s labs)) (fun _ => []) (fun g => tupV [aggV (encStk g.1 base), intV .i64 g.2]) := by
 refine In 517 Tryz.func107 fun _ _ _ => ?_
 have hs5 := hp0.stk
 have hA0 := hp0.ins.A0
 have hA6 := hp0.ins.A64
 have hln := hp0.lbn
 have hE := hp0.env
 have hf1 := hE.F
 have hf2 := hE.S
 have hf3 := hE.L
 have hf4 := hE.G
 have hf5 := hE.W
 refine Z4 ?_
 refine .n (opBoxOA (.t rfl)) rfl fun b6 _ => ?_
 refine .n (opAlloc Tryz.zb193) rfl fun b8 _ => ?_
 refine Z35 ?_
 refine Cd (fun c0 => ?_) fun c0 => ?_
 · exfalso; omega
 refine Z7 ?_
 refine Cd (fun c1 => ?_) fun c1 => ?_
 · exfalso; omega
 refine Z5 ?_
 refine Cd (fun c2 => ?_) fun c2 => ?_
 · exfalso; omega
 refine Z6 ?_
 refine Cd (fun c3 => ?_) fun c3 => ?_
 · exfalso; omega
 refine Z6 ?_
 refine Cd (fun c4 => ?_) fun c4 => ?_
 · exfalso; omega
 refine Z6 ?_
 refine Cd (fun c5 => ?_) fun c5 => ?_
 ·
  refine Z12 ?_
  refine Cd (fun c6 => ?_) fun c6 => ?_
  ·
   have hno := getI_no (L := v.Funcs) c6
   refine Z11 ?_
   refine Post.retR rfl rfl ((s, 2)) (by exact plQ_no (by decide) (by rw [plS_16 hp1, hno]; rfl) (by omega)) (OLe.sel [] [0, 1] rfl rfl) rfl (.cons (.ra (i := 0) Tryz.ag193 Tryz.cz193 rfl rfl rfl rfl) ?_ (.cons (.rt rfl) ?_ .nil))
   · exact VLe.refl _
   exact VLe.refl _
  obtain ⟨sg, hw, hw2⟩ := getI_at (L := v.Funcs) hA0 c6
  refine Z3 ?_
  have hsg := hE.sf sg (List.mem_of_getElem? hw2)
  refine .stagedK [(0, 1), (1, 0), (2, 0), (3, 0), (4, 0), (5, 0), (6, 0), (7, 0), (8, 2), (9, 0), (10, 0), (11, 0), (12, 3)] 13 1 FM.out (by kernel_rfl) (k := ?_)
  refine Z5 ?_
  refine .p rfl (fun _ => opIndexAddr (j := x.A.toNat) Tryz.underlying130 Tryz.cz132 rfl (.t rfl) (.t rfl) (by omega) hw2) ?_
  refine Z2 ?_
  refine .e rfl (cE (h := dtakes_spec (s := s) (l := sg.P) (by omega))) fun g196 h196 => ?_
  refine Z3 ?_
  refine .s rfl (opStoreOA (i := 1) Tryz.cz193 rfl (.t rfl) (.t rfl) rfl rfl rfl) ?_
  refine .fin ?_
  refine Z4 ?_
  refine .stagedK [(0, 1), (1, 0), (2, 0), (3, 0), (4, 0), (5, 0), (6, 0), (7, 0), (9, 0), (8, 2), (10, 3)] 11 1 FM.out (by kernel_rfl) (k := ?_)
  refine Z5 ?_
  refine .p rfl (fun _ => opIndexAddr (j := x.A.toNat) Tryz.underlying130 Tryz.cz132 rfl (.t rfl) (.t rfl) (by omega) hw2) ?_
  refine Z3 ?_
  refine .e rfl (cE (h := dgive_spec (s := g196.1) (l := sg.R) (by have := h196.2; omega) (by omega))) fun g207 h207 => ?_
  refine .s rfl (opStoreOA (i := 0) Tryz.cz193 rfl (.t rfl) (.t rfl) rfl rfl rfl) ?_
  refine .fin ?_
  refine Z6 ?_
  refine Post.retR rfl rfl ((giveS g196.1 sg.R, g196.2)) (by exact plQ_tg (by rw [plS_16 hp1, hw, Option.bind_some]) h196 hsg.2) (OLe.sel [] [0, 1] rfl rfl) rfl (.cons (.ra (i := 0) Tryz.ag193 Tryz.cz193 rfl rfl rfl rfl) ?_ (.cons (.rt rfl) ?_ .nil))
  · exact VLe.refl _
  exact VLe.refl _
 exfalso; omega
theorem dp26_spec {v : EnvD} {x : InstrD} {s : Stk} {base : Int} {labs : List (List UInt8)} (hp0 : PlOk v x s labs) (hp1 : x.Code = 26) : FnE Tryz.prog 107 [aggV (encEnv v), aggV (encInstr x), aggV (encStk s base), sliceV 1 encSlT labs] [] (γ := Stk × Int) (plQ s (plS v x s labs)) (fun _ => []) (fun g => tupV [aggV (encStk g.1 base), intV .i64 g.2]) := by
 refine In 517 Tryz.func107 fun _ _ _ => ?_
 have hs5 := hp0.stk
 have hA0 := hp0.ins.A0
 have hA6 := hp0.ins.A64
 have hln := hp0.lbn
 have hE := hp0.env
 have hf1 := hE.F
 have hf2 := hE.S
 have hf3 := hE.L
 have hf4 := hE.G
 have hf5 := hE.W
 refine Z4 ?_
 refine .n (opBoxOA (.t rfl)) rfl fun b6 _ => ?_
 refine .n (opAlloc Tryz.zb193) rfl fun b8 _ => ?_
 refine Z35 ?_
 refine Cd (fun c0 => ?_) fun c0 => ?_
 · exfalso; omega
 refine Z7 ?_
 refine Cd (fun c1 => ?_) fun c1 => ?_
 · exfalso; omega
 refine Z5 ?_
 refine Cd (fun c2 => ?_) fun c2 => ?_
 · exfalso; omega
 refine Z6 ?_
 refine Cd (fun c3 => ?_) fun c3 => ?_
 · exfalso; omega
 refine Z6 ?_
 refine Cd (fun c4 => ?_) fun c4 => ?_
 · exfalso; omega
 refine Z6 ?_
 refine Cd (fun c5 => ?_) fun c5 => ?_
 · exfalso; omega
 refine Z6 ?_
 refine Cd (fun c6 => ?_) fun c6 => ?_
 · exfalso; omega
 refine Z6 ?_
 refine Cd (fun c7 => ?_) fun c7 => ?_
 ·
  refine Z3 ?_
  refine .n (cE (h := dtake_spec (s := s) (w := 0) (by omega))) rfl fun g260 h260 => ?_
  refine Z19 ?_
  refine Post.retR rfl rfl ((g260.1, g260.2.2)) (by exact ⟨by (rw [plS_26 hp1]; rcases h260.1 with ⟨h1, h2⟩ | ⟨h1, h2⟩; exact .inl ⟨h1, by rw [h2]; rfl⟩; exact .inr ⟨h1, by rw [h2]; rfl⟩), by have := h260.2; (show g260.1.1.length ≤ _; omega)⟩) (OLe.sel [] [0, 1] rfl rfl) rfl (.cons (.ra (i := 0) Tryz.ag193 Tryz.cz193 rfl rfl rfl rfl) ?_ (.cons (.rt rfl) ?_ .nil))
  · exact VLe.refl _
  exact VLe.refl _
 exfalso; omega
theorem dp27_spec {v : EnvD} {x : InstrD} {s : Stk} {base : Int} {labs : List (List UInt8)} (hp0 : PlOk v x s labs) (hp1 : x.Code = 27) : FnE Tryz.prog 107 [aggV (encEnv v), aggV (encInstr x), aggV (encStk s base), sliceV 1 encSlT labs] [] (γ := Stk × Int) (plQ s (plS v x s labs)) (fun _ => []) (fun g => tupV [aggV (encStk g.1 base), intV .i64 g.2]) := by
 refine In 517 Tryz.func107 fun _ _ _ => ?_
 have hs5 := hp0.stk
 have hA0 := hp0.ins.A0
 have hA6 := hp0.ins.A64
 have hln := hp0.lbn
 have hE := hp0.env
 have hf1 := hE.F
 have hf2 := hE.S
 have hf3 := hE.L
 have hf4 := hE.G
 have hf5 := hE.W
 refine Z4 ?_
 refine .n (opBoxOA (.t rfl)) rfl fun b6 _ => ?_
 refine .n (opAlloc Tryz.zb193) rfl fun b8 _ => ?_
 refine Z35 ?_
 refine Cd (fun c0 => ?_) fun c0 => ?_
 · exfalso; omega
 refine Z7 ?_
 refine Cd (fun c1 => ?_) fun c1 => ?_
 · exfalso; omega
 refine Z5 ?_
 refine Cd (fun c2 => ?_) fun c2 => ?_
 · exfalso; omega
 refine Z6 ?_
 refine Cd (fun c3 => ?_) fun c3 => ?_
 · exfalso; omega
 refine Z6 ?_
 refine Cd (fun c4 => ?_) fun c4 => ?_
 · exfalso; omega
 refine Z6 ?_
 refine Cd (fun c5 => ?_) fun c5 => ?_
 · exfalso; omega
 refine Z6 ?_
 refine Cd (fun c6 => ?_) fun c6 => ?_
 · exfalso; omega
 refine Z6 ?_
 refine Cd (fun c7 => ?_) fun c7 => ?_
 · exfalso; omega
 refine Z6 ?_
 refine Cd (fun c8 => ?_) fun c8 => ?_
 ·
  refine Z4 ?_
  refine .p (cB encU8 [127]) rfl ?_
  refine .n (cE (h := dtakes_spec (s := s) (l := [127]) (by omega))) rfl fun g272 h272 => ?_
  refine Z14 ?_
  refine Cd (fun c9 => ?_) fun c9 => ?_
  ·
   refine Z12 ?_
   refine Post.retR rfl rfl (g272) (by exact plQ_no c9 (by rw [plS_27 hp1, h272.no c9]; rfl) (by have := h272.2; omega)) (OLe.sel [] [0, 1] rfl rfl) rfl (.cons (.ra (i := 0) Tryz.ag193 Tryz.cz193 rfl rfl rfl rfl) ?_ (.cons (.rt rfl) ?_ .nil))
   · exact VLe.refl _
   exact VLe.refl _
  refine Z11 ?_
  refine .n (cE (h := dtake_spec (s := g272.1) (w := 0) (by have := h272.2; omega))) rfl fun g281 h281 => ?_
  refine Z16 ?_
  refine Cd (fun c10 => ?_) fun c10 => ?_
  ·
   refine Z12 ?_
   refine Post.retR rfl rfl ((g281.1, g281.2.2)) (by exact plQ_no c10 (by rw [plS_27 hp1, h272.ok (Classical.not_not.1 c9), Option.bind_some, h281.no c10]; rfl) (by have := h272.2; have := h281.2; omega)) (OLe.sel [] [0, 1] rfl rfl) rfl (.cons (.ra (i := 0) Tryz.ag193 Tryz.cz193 rfl rfl rfl rfl) ?_ (.cons (.rt rfl) ?_ .nil))
   · exact VLe.refl _
   exact VLe.refl _
  refine Z6 ?_
  refine .n (cE (h := dtake_spec (s := g281.1) (w := g281.2.1) (by have := h272.2; have := h281.2; omega))) rfl fun g292 h292 => ?_
  refine Z13 ?_
  refine .p (cB encU8 [g292.2.1]) rfl ?_
  refine .n (cE (h := dgive_spec (s := g292.1) (l := [g292.2.1]) (by have := h272.2; have := h281.2; have := h292.2; omega) (by simp))) rfl fun g299 h299 => ?_
  refine Z8 ?_
  refine Post.retR rfl rfl ((giveS g292.1 [g292.2.1], g292.2.2)) (by exact ⟨by (rw [plS_27 hp1, h272.ok (Classical.not_not.1 c9), Option.bind_some, h281.ok (Classical.not_not.1 c10), Option.bind_some]; rcases h292.1 with ⟨h1, h2⟩ | ⟨h1, h2⟩; exact .inl ⟨h1, by rw [h2]; rfl⟩; exact .inr ⟨h1, by rw [h2]; rfl⟩), by have := h272.2; have := h281.2; have := h292.2; (show (g292.1.1 ++ _).length ≤ _; rw [List.length_append]; simp only [List.length_cons, List.length_nil]; omega)⟩) (OLe.sel [] [0, 1] rfl rfl) rfl (.cons (.ra (i := 0) Tryz.ag193 Tryz.cz193 rfl rfl rfl rfl) ?_ (.cons (.rt rfl) ?_ .nil))
  · exact VLe.refl _
  exact VLe.refl _
 exfalso; omega
end Go.Proofs.YtmmdlhjcmlekfaaGreatDoor
end
section
namespace Go.Proofs.YtmmdlhjcmlekfaaGreatDoor
open Go.Hl Go.RowKit
theorem dp14_spec {v : EnvD} {x : InstrD} {s : Stk} {base : Int} {labs : List (List UInt8)} (hp0 : PlOk v x s labs) (hp1 : x.Code = 14) : FnE Tryz.prog 107 [aggV (encEnv v), aggV (encInstr x), aggV (encStk s base), sliceV 1 encSlT labs] [] (γ := Stk × Int) (plQ s (plS v x s labs)) (fun _ => []) (fun g => tupV [aggV (encStk g.1 base), intV .i64 g.2]) := by
 refine In 517 Tryz.func107 fun _ _ _ => ?_
 have hs5 := hp0.stk
 have hA0 := hp0.ins.A0
 have hA6 := hp0.ins.A64
 have hln := hp0.lbn
 have hE := hp0.env
 have hf1 := hE.F
 have hf2 := hE.S
 have hf3 := hE.L
 have hf4 := hE.G
 have hf5 := hE.W
 have hLn := hp0.ins.Ln
 refine Z4 ?_
 refine .n (opBoxOA (.t rfl)) rfl fun b6 _ => ?_
 refine .n (opAlloc Tryz.zb193) rfl fun b8 _ => ?_
 refine Z35 ?_
 refine Cd (fun c0 => ?_) fun c0 => ?_
 · exfalso; omega
 refine Z7 ?_
 refine Cd (fun c1 => ?_) fun c1 => ?_
 · exfalso; omega
 refine Z5 ?_
 refine Cd (fun c2 => ?_) fun c2 => ?_
 · exfalso; omega
 refine Z6 ?_
 refine Cd (fun c3 => ?_) fun c3 => ?_
 ·
  refine Z10 ?_
  refine Cd (fun c4 => ?_) fun c4 => ?_
  ·
   have hno := labAt_no (L := labs) c4
   refine Z11 ?_
   refine Post.retR rfl rfl ((s, 2)) (by exact plQ_no (by decide) (by rw [plS_14 hp1, hno]; rfl) (by omega)) (OLe.sel [] [0, 1] rfl rfl) rfl (.cons (.ra (i := 0) Tryz.ag193 Tryz.cz193 rfl rfl rfl rfl) ?_ (.cons (.rt rfl) ?_ .nil))
   · exact VLe.refl _
   exact VLe.refl _
  obtain ⟨w, hw, hw2⟩ := labAt_at (L := labs) hA0 c4
  have hwl : w.length ≤ 20 := hp0.lbw w (List.mem_of_getElem? hw2)
  refine Z11 ?_
  refine .p (cI (labs.length - 1 - x.A.toNat) (h := hw2)) rfl ?_
  refine Z11 ?_
  refine .loopO (σ := Nat) (fun _ => [cellsH b8 (List.map exactV [.slice none 0 0, .bool false, .int .i64 0]), cellsH b6 (encStk s base)]) (fun k => [(16, intV .i64 (k : Int))]) (fun k => k ≤ x.L.length ∧ ∀ n ∈ x.L.take k, n < (labs.length : Int)) (fun k => x.L.length - k) 0 ⟨Nat.zero_le _, by simp⟩ rfl ?_ ?_
  · exact (.get rfl (VLe.refl _) (.refl _ _))
  rintro k ⟨hk, hall⟩
  refine Z10 ?_
  refine Cd (fun c5 => ?_) fun c5 => ?_
  ·
   obtain ⟨n, hn⟩ := getElem?_lt (xs := x.L) (k := k) (by omega)
   have hn0 := hp0.ins.L0 n (List.mem_of_getElem? hn)
   refine Z9 ?_
   refine .p (cI k (h := hn)) rfl ?_
   refine Z6 ?_
   refine Cd (fun c6 => ?_) fun c6 => ?_
   ·
    refine Z15 ?_
    refine Post.retR rfl rfl ((s, 2)) (by exact plQ_no (by decide) (by rw [plS_14 hp1, hw, Option.bind_some]; exact if_neg (fun h => by have h9 := h n (List.mem_of_getElem? hn); rw [labAt_no c6] at h9; cases h9)) (by omega)) (OLe.sel [] [0, 1] rfl rfl) rfl (.cons (.ra (i := 0) Tryz.ag193 Tryz.cz193 rfl rfl rfl rfl) ?_ (.cons (.rt rfl) ?_ .nil))
    · exact VLe.refl _
    exact VLe.refl _
   refine Z8 ?_
   refine .round (k + 1) ⟨by omega, fun y hy => by (rw [← take_snoc hn] at hy; rcases List.mem_append.1 hy with hy | hy; exact hall y hy; (simp only [List.mem_singleton] at hy; subst hy; omega))⟩ (by omega) rfl ?_
   exact (.get rfl (VLe.int (by omega)) ((.keep 17 rfl rfl)))
  have hall1 : ∀ n ∈ x.L, n < (labs.length : Int) := fun n hn => hall n (by rw [List.take_of_length_le (by omega)]; exact hn)
  refine Z12 ?_
  refine .loopO (σ := Nat) (fun _ => [cellsH b8 (List.map exactV [.slice none 0 0, .bool false, .int .i64 0]), cellsH b6 (encStk s base)]) (fun k => [(17, intV .i64 (k : Int))]) (fun k => k ≤ x.L.length ∧ ∀ n ∈ x.L.take k, labAt labs n = some w) (fun k => x.L.length - k) 0 ⟨Nat.zero_le _, by simp⟩ rfl ?_ ?_
  · exact (.get rfl (VLe.refl _) (.refl _ _))
  rintro k ⟨hk, hall⟩
  refine Z10 ?_
  refine Cd (fun c7 => ?_) fun c7 => ?_
  ·
   obtain ⟨n, hn⟩ := getElem?_lt (xs := x.L) (k := k) (by omega)
   have hnm := List.mem_of_getElem? hn
   have hn0 := hp0.ins.L0 n hnm
   have hn1 := hall1 n hnm
   obtain ⟨w2, hw3, hw4⟩ := labAt_at (L := labs) hn0 (by omega)
   refine Z12 ?_
   refine .p (cI k (h := hn)) rfl ?_
   refine Z3 ?_
   refine .p (cI (labs.length - 1 - n.toNat) (h := hw4)) rfl ?_
   refine Z2 ?_
   refine .p (cA (h := dsame_spec)) rfl ?_
   refine Z3 ?_
   refine Cd (fun c8 => ?_) fun c8 => ?_
   ·
    refine Z15 ?_
    refine Post.retR rfl rfl ((s, 5)) (by exact plQ_no (by decide) (by rw [plS_14 hp1, hw, Option.bind_some]; exact if_neg (fun h => c8 (by have h9 := h n hnm; rw [hw3] at h9; exact Option.some.inj h9))) (by omega)) (OLe.sel [] [0, 1] rfl rfl) rfl (.cons (.ra (i := 0) Tryz.ag193 Tryz.cz193 rfl rfl rfl rfl) ?_ (.cons (.rt rfl) ?_ .nil))
    · exact VLe.refl _
    exact VLe.refl _
   refine Z8 ?_
   refine .round (k + 1) ⟨by omega, fun y hy => by (rw [← take_snoc hn] at hy; rcases List.mem_append.1 hy with hy | hy; exact hall y hy; (simp only [List.mem_singleton] at hy; subst hy; exact hw3.trans (by rw [Classical.not_not.1 c8])))⟩ (by omega) rfl ?_
   exact (.get rfl (VLe.int (by omega)) ((.keep 24 rfl rfl)))
  have hall2 : ∀ n ∈ x.L, labAt labs n = some w := fun n hn => hall n (by rw [List.take_of_length_le (by omega)]; exact hn)
  refine Z6 ?_
  refine .stagedF (FR := [cellsH b6 (encStk s base)]) [(0, 1), (2, 0), (4, 0), (5, 0), (1, 4), (3, 4), (6, 4), (7, 4), (8, 0), (9, 0), (10, 0), (11, 3)] 12 1 FM.out (by kernel_rfl) ?_
  refine .o rfl (opLoadOA (i := 0) Tryz.ag193 Tryz.cz193 rfl (.t rfl) rfl rfl) (OLe.sel [1] [0] rfl rfl) ?_
  refine Z2 ?_
  refine .p rfl (fun _ => opBuildSlice (enc := encU8) [127] Tryz.underlying64 Tryz.cz5 rfl Tryz.zb5 rfl (.cons (.t rfl) .nil) rfl rfl rfl rfl rfl) ?_
  refine .a rfl (opBuildSliceO encU8 ([] : List UInt8) Tryz.underlying64 Tryz.cz5 rfl Tryz.zb5 rfl .nil rfl rfl rfl rfl rfl) (fun _ _ => (OLe.sel [2] [0, 1] rfl rfl)) fun g146 _ => ?_
  refine .a rfl (opAppend (i := 0) Tryz.underlying64 Tryz.underlying64 Tryz.cz5 rfl Tryz.zb5 rfl Tryz.by5 (.t rfl) (.t rfl) rfl (by simp <;> omega) (by simp <;> omega)) (fun _ _ => (OLe.sel [2] [0, 1] rfl rfl)) fun g148 _ => ?_
  refine .a rfl (OpE.shareS (G := fun g => g) (hs1 := fun _ => _) (xs := fun _ => _) (opAppend (i := 0) Tryz.underlying64 Tryz.underlying64 Tryz.cz5 rfl Tryz.zb5 rfl Tryz.by5 (.t rfl) (.t rfl) rfl (by simp <;> omega) (by simp <;> omega))) (fun _ _ => (OLe.sel [1] [0] rfl rfl)) fun _ _ => ?_
  refine .a rfl (cE (h := dtakes_spec (s := s) (l := ([] ++ w) ++ [127]) (by omega))) (fun _ _ => (OLe.sel [1] [0] rfl rfl)) fun g152 h152 => ?_
  refine Z3 ?_
  refine .s rfl (opStoreOA (i := 1) Tryz.cz193 rfl (.t rfl) (.t rfl) rfl rfl rfl) ?_
  refine .fin ?_
  refine Z10 ?_
  refine Cd (fun c9 => ?_) fun c9 => ?_
  ·
   refine Z12 ?_
   refine Post.retR rfl rfl (g152) (by exact plQ_no c9 (by rw [plS_14 hp1, hw, Option.bind_some]; exact (if_pos hall2).trans (by rw [show tksS s (w ++ [127]) = none from h152.no c9]; rfl)) (by have := h152.2; omega)) (OLe.sel [] [0, 1] rfl rfl) rfl (.cons (.ra (i := 0) Tryz.ag193 Tryz.cz193 rfl rfl rfl rfl) ?_ (.cons (.rt rfl) ?_ .nil))
   · exact VLe.refl _
   exact VLe.refl _
  refine Z5 ?_
  refine .n (cE (h := dkill_spec (s := g152.1))) rfl fun g160 h160 => ?_
  refine Z7 ?_
  refine Post.retR rfl rfl ((killS, 0)) (by exact plQ_ok (by rw [plS_14 hp1, hw, Option.bind_some]; exact (if_pos hall2).trans (by rw [show tksS s (w ++ [127]) = some g152.1 from h152.ok (Classical.not_not.1 c9)]; rfl)) (by simp [killS])) (OLe.sel [] [0, 1] rfl rfl) rfl (.cons (.ra (i := 0) Tryz.ag193 Tryz.cz193 rfl rfl rfl rfl) ?_ (.cons (.rt rfl) ?_ .nil))
  · exact VLe.refl _
  exact VLe.refl _
 exfalso; omega
theorem dp17_spec {v : EnvD} {x : InstrD} {s : Stk} {base : Int} {labs : List (List UInt8)} (hp0 : PlOk v x s labs) (hp1 : x.Code = 17) : FnE Tryz.prog 107 [aggV (encEnv v), aggV (encInstr x), aggV (encStk s base), sliceV 1 encSlT labs] [] (γ := Stk × Int) (plQ s (plS v x s labs)) (fun _ => []) (fun g => tupV [aggV (encStk g.1 base), intV .i64 g.2]) := by
 refine In 517 Tryz.func107 fun _ _ _ => ?_
 have hs5 := hp0.stk
 have hA0 := hp0.ins.A0
 have hA6 := hp0.ins.A64
 have hln := hp0.lbn
 have hE := hp0.env
 have hf1 := hE.F
 have hf2 := hE.S
 have hf3 := hE.L
 have hf4 := hE.G
 have hf5 := hE.W
 refine Z4 ?_
 refine .n (opBoxOA (.t rfl)) rfl fun b6 _ => ?_
 refine .n (opAlloc Tryz.zb193) rfl fun b8 _ => ?_
 refine Z35 ?_
 refine Cd (fun c0 => ?_) fun c0 => ?_
 · exfalso; omega
 refine Z7 ?_
 refine Cd (fun c1 => ?_) fun c1 => ?_
 · exfalso; omega
 refine Z5 ?_
 refine Cd (fun c2 => ?_) fun c2 => ?_
 · exfalso; omega
 refine Z6 ?_
 refine Cd (fun c3 => ?_) fun c3 => ?_
 · exfalso; omega
 refine Z6 ?_
 refine Cd (fun c4 => ?_) fun c4 => ?_
 · exfalso; omega
 refine Z6 ?_
 refine Cd (fun c5 => ?_) fun c5 => ?_
 · exfalso; omega
 refine Z6 ?_
 refine Cd (fun c6 => ?_) fun c6 => ?_
 ·
  refine Z22 ?_
  refine Cd (fun c7 => ?_) fun c7 => ?_
  ·
   refine Z11 ?_
   refine Post.retR rfl rfl ((s, 2)) (by exact plQ_no (by decide) (by (rw [plS_17 hp1]; rcases c7 with (h | h) | h; (rw [getI_no h]; rfl); (cases getI v.Sigs x.A with | none => rfl | some g => exact if_neg (fun h2 => h h2.1)); (cases getI v.Sigs x.A with | none => rfl | some g => exact if_neg (fun h2 => h h2.2)))) (by omega)) (OLe.sel [] [0, 1] rfl rfl) rfl (.cons (.ra (i := 0) Tryz.ag193 Tryz.cz193 rfl rfl rfl rfl) ?_ (.cons (.rt rfl) ?_ .nil))
   · exact VLe.refl _
   exact VLe.refl _
  obtain ⟨sg, hw, hw2⟩ := getI_at (L := v.Sigs) hA0 (fun h => c7 (.inl (.inl h)))
  have hxB : x.B = 0 := Classical.byContradiction fun h => c7 (.inl (.inr h))
  have hvT : v.Table := Classical.byContradiction fun h => c7 (.inr h)
  have hsg := hE.ss sg (List.mem_of_getElem? hw2)
  refine Z3 ?_
  refine .stagedF (FR := [cellsH b6 (encStk s base)]) [(0, 1), (2, 0), (3, 0), (4, 0), (5, 0), (6, 0), (7, 0), (8, 0), (10, 0), (11, 0), (1, 4), (9, 4), (12, 4), (13, 4), (14, 0), (15, 0), (16, 0), (17, 3)] 18 1 FM.out (by kernel_rfl) ?_
  refine .o rfl (opLoadOA (i := 0) Tryz.ag193 Tryz.cz193 rfl (.t rfl) rfl rfl) (OLe.sel [1] [0] rfl rfl) ?_
  refine Z4 ?_
  refine .p rfl (fun _ => opIndexAddr (j := x.A.toNat) Tryz.underlying130 Tryz.cz132 rfl (.t rfl) (.t rfl) (by omega) hw2) ?_
  refine Z3 ?_
  refine .p rfl (fun _ => opBuildSlice (enc := encU8) [127] Tryz.underlying64 Tryz.cz5 rfl Tryz.zb5 rfl (.cons (.t rfl) .nil) rfl rfl rfl rfl rfl) ?_
  refine .a rfl (opBuildSliceO encU8 ([] : List UInt8) Tryz.underlying64 Tryz.cz5 rfl Tryz.zb5 rfl .nil rfl rfl rfl rfl rfl) (fun _ _ => (OLe.sel [2] [0, 1] rfl rfl)) fun g231 _ => ?_
  refine .a rfl (opAppend (i := 0) Tryz.underlying64 Tryz.underlying64 Tryz.cz5 rfl Tryz.zb5 rfl Tryz.by5 (.t rfl) (.t rfl) rfl (by simp <;> omega) (by simp <;> omega)) (fun _ _ => (OLe.sel [2] [0, 1] rfl rfl)) fun g239 _ => ?_
  refine .a rfl (OpE.shareS (G := fun g => g) (hs1 := fun _ => _) (xs := fun _ => _) (opAppend (i := 0) Tryz.underlying64 Tryz.underlying64 Tryz.cz5 rfl Tryz.zb5 rfl Tryz.by5 (.t rfl) (.t rfl) rfl (by simp <;> omega) (by simp <;> omega))) (fun _ _ => (OLe.sel [1] [0] rfl rfl)) fun _ _ => ?_
  refine .a rfl (cE (h := dtakes_spec (s := s) (l := ([] ++ sg.P) ++ [127]) (by omega))) (fun _ _ => (OLe.sel [1] [0] rfl rfl)) fun g243 h243 => ?_
  refine Z3 ?_
  refine .s rfl (opStoreOA (i := 1) Tryz.cz193 rfl (.t rfl) (.t rfl) rfl rfl rfl) ?_
  refine .fin ?_
  refine Z4 ?_
  refine .stagedK [(0, 1), (1, 0), (2, 0), (3, 0), (4, 0), (5, 0), (6, 0), (7, 0), (9, 0), (8, 2), (10, 3)] 11 1 FM.out (by kernel_rfl) (k := ?_)
  refine Z5 ?_
  refine .p rfl (fun _ => opIndexAddr (j := x.A.toNat) Tryz.underlying130 Tryz.cz132 rfl (.t rfl) (.t rfl) (by omega) hw2) ?_
  refine Z3 ?_
  refine .e rfl (cE (h := dgive_spec (s := g243.1) (l := sg.R) (by have := h243.2; omega) (by omega))) fun g254 h254 => ?_
  refine .s rfl (opStoreOA (i := 0) Tryz.cz193 rfl (.t rfl) (.t rfl) rfl rfl rfl) ?_
  refine .fin ?_
  refine Z6 ?_
  refine Post.retR rfl rfl ((giveS g243.1 sg.R, g243.2)) (by exact plQ_tg (i := sg.P ++ [127]) (by rw [plS_17 hp1, hw, Option.bind_some]; exact if_pos ⟨hxB, hvT⟩) h243 hsg.2) (OLe.sel [] [0, 1] rfl rfl) rfl (.cons (.ra (i := 0) Tryz.ag193 Tryz.cz193 rfl rfl rfl rfl) ?_ (.cons (.rt rfl) ?_ .nil))
  · exact VLe.refl _
  exact VLe.refl _
 exfalso; omega
theorem dp32_spec {v : EnvD} {x : InstrD} {s : Stk} {base : Int} {labs : List (List UInt8)} (hp0 : PlOk v x s labs) (hp1 : x.Code = 32) : FnE Tryz.prog 107 [aggV (encEnv v), aggV (encInstr x), aggV (encStk s base), sliceV 1 encSlT labs] [] (γ := Stk × Int) (plQ s (plS v x s labs)) (fun _ => []) (fun g => tupV [aggV (encStk g.1 base), intV .i64 g.2]) := by
 refine In 517 Tryz.func107 fun _ _ _ => ?_
 have hs5 := hp0.stk
 have hA0 := hp0.ins.A0
 have hA6 := hp0.ins.A64
 have hln := hp0.lbn
 have hE := hp0.env
 have hf1 := hE.F
 have hf2 := hE.S
 have hf3 := hE.L
 have hf4 := hE.G
 have hf5 := hE.W
 refine Z4 ?_
 refine .n (opBoxOA (.t rfl)) rfl fun b6 _ => ?_
 refine .n (opAlloc Tryz.zb193) rfl fun b8 _ => ?_
 refine Z35 ?_
 refine Cd (fun c0 => ?_) fun c0 => ?_
 · exfalso; omega
 refine Z7 ?_
 refine Cd (fun c1 => ?_) fun c1 => ?_
 · exfalso; omega
 refine Z5 ?_
 refine Cd (fun c2 => ?_) fun c2 => ?_
 · exfalso; omega
 refine Z6 ?_
 refine Cd (fun c3 => ?_) fun c3 => ?_
 · exfalso; omega
 refine Z6 ?_
 refine Cd (fun c4 => ?_) fun c4 => ?_
 · exfalso; omega
 refine Z6 ?_
 refine Cd (fun c5 => ?_) fun c5 => ?_
 · exfalso; omega
 refine Z6 ?_
 refine Cd (fun c6 => ?_) fun c6 => ?_
 · exfalso; omega
 refine Z6 ?_
 refine Cd (fun c7 => ?_) fun c7 => ?_
 · exfalso; omega
 refine Z6 ?_
 refine Cd (fun c8 => ?_) fun c8 => ?_
 · exfalso; omega
 refine Z7 ?_
 refine Cd (fun c9 => ?_) fun c9 => ?_
 ·
  refine Z2 ?_
  refine Cd (fun c10 => ?_) fun c10 => ?_
  ·
   refine Z12 ?_
   refine Cd (fun c11 => ?_) fun c11 => ?_
   ·
    have hno := getI_no (L := v.Locals) c11
    refine Z11 ?_
    refine Post.retR rfl rfl ((s, 2)) (by exact plQ_no (by decide) (by rw [plS_32 hp1, hno]; rfl) (by omega)) (OLe.sel [] [0, 1] rfl rfl) rfl (.cons (.ra (i := 0) Tryz.ag193 Tryz.cz193 rfl rfl rfl rfl) ?_ (.cons (.rt rfl) ?_ .nil))
    · exact VLe.refl _
    exact VLe.refl _
   obtain ⟨t, hw, hw2⟩ := getI_at (L := v.Locals) hA0 c11
   refine Z8 ?_
   refine .p (cI x.A.toNat (h := hw2)) rfl ?_
   refine Z1 ?_
   refine .p (cB encU8 [t]) rfl ?_
   refine Z11 ?_
   refine Cd (fun c12 => ?_) fun c12 => ?_
   · exfalso; omega
   refine Z10 ?_
   refine Cd (fun c13 => ?_) fun c13 => ?_
   ·
    refine Z3 ?_
    refine .n (cE (h := dgive_spec (s := s) (l := [t]) (by omega) (by simp))) rfl fun g334 h334 => ?_
    refine Z14 ?_
    refine Post.retR rfl rfl ((giveS s [t], 0)) (by exact plQ_ok (by rw [plS_32 hp1, hw]; rfl) (by simp only [giveS, List.length_append, List.length_cons, List.length_nil]; omega)) (OLe.sel [] [0, 1] rfl rfl) rfl (.cons (.ra (i := 0) Tryz.ag193 Tryz.cz193 rfl rfl rfl rfl) ?_ (.cons (.rt rfl) ?_ .nil))
    · exact VLe.refl _
    exact VLe.refl _
   exfalso; omega
  exfalso; omega
 exfalso; omega
theorem dp33_spec {v : EnvD} {x : InstrD} {s : Stk} {base : Int} {labs : List (List UInt8)} (hp0 : PlOk v x s labs) (hp1 : x.Code = 33) : FnE Tryz.prog 107 [aggV (encEnv v), aggV (encInstr x), aggV (encStk s base), sliceV 1 encSlT labs] [] (γ := Stk × Int) (plQ s (plS v x s labs)) (fun _ => []) (fun g => tupV [aggV (encStk g.1 base), intV .i64 g.2]) := by
 refine In 517 Tryz.func107 fun _ _ _ => ?_
 have hs5 := hp0.stk
 have hA0 := hp0.ins.A0
 have hA6 := hp0.ins.A64
 have hln := hp0.lbn
 have hE := hp0.env
 have hf1 := hE.F
 have hf2 := hE.S
 have hf3 := hE.L
 have hf4 := hE.G
 have hf5 := hE.W
 refine Z4 ?_
 refine .n (opBoxOA (.t rfl)) rfl fun b6 _ => ?_
 refine .n (opAlloc Tryz.zb193) rfl fun b8 _ => ?_
 refine Z35 ?_
 refine Cd (fun c0 => ?_) fun c0 => ?_
 · exfalso; omega
 refine Z7 ?_
 refine Cd (fun c1 => ?_) fun c1 => ?_
 · exfalso; omega
 refine Z5 ?_
 refine Cd (fun c2 => ?_) fun c2 => ?_
 · exfalso; omega
 refine Z6 ?_
 refine Cd (fun c3 => ?_) fun c3 => ?_
 · exfalso; omega
 refine Z6 ?_
 refine Cd (fun c4 => ?_) fun c4 => ?_
 · exfalso; omega
 refine Z6 ?_
 refine Cd (fun c5 => ?_) fun c5 => ?_
 · exfalso; omega
 refine Z6 ?_
 refine Cd (fun c6 => ?_) fun c6 => ?_
 · exfalso; omega
 refine Z6 ?_
 refine Cd (fun c7 => ?_) fun c7 => ?_
 · exfalso; omega
 refine Z6 ?_
 refine Cd (fun c8 => ?_) fun c8 => ?_
 · exfalso; omega
 refine Z7 ?_
 refine Cd (fun c9 => ?_) fun c9 => ?_
 · exfalso; omega
 refine Z6 ?_
 refine Cd (fun c10 => ?_) fun c10 => ?_
 ·
  refine Z2 ?_
  refine Cd (fun c11 => ?_) fun c11 => ?_
  ·
   refine Z12 ?_
   refine Cd (fun c12 => ?_) fun c12 => ?_
   ·
    have hno := getI_no (L := v.Locals) c12
    refine Z11 ?_
    refine Post.retR rfl rfl ((s, 2)) (by exact plQ_no (by decide) (by rw [plS_33 hp1, hno]; rfl) (by omega)) (OLe.sel [] [0, 1] rfl rfl) rfl (.cons (.ra (i := 0) Tryz.ag193 Tryz.cz193 rfl rfl rfl rfl) ?_ (.cons (.rt rfl) ?_ .nil))
    · exact VLe.refl _
    exact VLe.refl _
   obtain ⟨t, hw, hw2⟩ := getI_at (L := v.Locals) hA0 c12
   refine Z8 ?_
   refine .p (cI x.A.toNat (h := hw2)) rfl ?_
   refine Z1 ?_
   refine .p (cB encU8 [t]) rfl ?_
   refine Z11 ?_
   refine Cd (fun c13 => ?_) fun c13 => ?_
   ·
    refine Z3 ?_
    refine .n (cE (h := dtakes_spec (s := s) (l := [t]) (by omega))) rfl fun g326 h326 => ?_
    refine Z15 ?_
    refine Cd (fun c14 => ?_) fun c14 => ?_
    · exfalso; omega
    refine Z13 ?_
    refine Post.retR rfl rfl (g326) (by exact plQ_tk (by rw [plS_33 hp1, hw]; rfl) h326) (OLe.sel [] [0, 1] rfl rfl) rfl (.cons (.ra (i := 0) Tryz.ag193 Tryz.cz193 rfl rfl rfl rfl) ?_ (.cons (.rt rfl) ?_ .nil))
    · exact VLe.refl _
    exact VLe.refl _
   exfalso; omega
  exfalso; omega
 exfalso; omega
theorem dp34_spec {v : EnvD} {x : InstrD} {s : Stk} {base : Int} {labs : List (List UInt8)} (hp0 : PlOk v x s labs) (hp1 : x.Code = 34) : FnE Tryz.prog 107 [aggV (encEnv v), aggV (encInstr x), aggV (encStk s base), sliceV 1 encSlT labs] [] (γ := Stk × Int) (plQ s (plS v x s labs)) (fun _ => []) (fun g => tupV [aggV (encStk g.1 base), intV .i64 g.2]) := by
 refine In 517 Tryz.func107 fun _ _ _ => ?_
 have hs5 := hp0.stk
 have hA0 := hp0.ins.A0
 have hA6 := hp0.ins.A64
 have hln := hp0.lbn
 have hE := hp0.env
 have hf1 := hE.F
 have hf2 := hE.S
 have hf3 := hE.L
 have hf4 := hE.G
 have hf5 := hE.W
 refine Z4 ?_
 refine .n (opBoxOA (.t rfl)) rfl fun b6 _ => ?_
 refine .n (opAlloc Tryz.zb193) rfl fun b8 _ => ?_
 refine Z35 ?_
 refine Cd (fun c0 => ?_) fun c0 => ?_
 · exfalso; omega
 refine Z7 ?_
 refine Cd (fun c1 => ?_) fun c1 => ?_
 · exfalso; omega
 refine Z5 ?_
 refine Cd (fun c2 => ?_) fun c2 => ?_
 · exfalso; omega
 refine Z6 ?_
 refine Cd (fun c3 => ?_) fun c3 => ?_
 · exfalso; omega
 refine Z6 ?_
 refine Cd (fun c4 => ?_) fun c4 => ?_
 · exfalso; omega
 refine Z6 ?_
 refine Cd (fun c5 => ?_) fun c5 => ?_
 · exfalso; omega
 refine Z6 ?_
 refine Cd (fun c6 => ?_) fun c6 => ?_
 · exfalso; omega
 refine Z6 ?_
 refine Cd (fun c7 => ?_) fun c7 => ?_
 · exfalso; omega
 refine Z6 ?_
 refine Cd (fun c8 => ?_) fun c8 => ?_
 · exfalso; omega
 refine Z7 ?_
 refine Cd (fun c9 => ?_) fun c9 => ?_
 · exfalso; omega
 refine Z6 ?_
 refine Cd (fun c10 => ?_) fun c10 => ?_
 · exfalso; omega
 refine Z5 ?_
 refine Cd (fun c11 => ?_) fun c11 => ?_
 ·
  refine Z12 ?_
  refine Cd (fun c12 => ?_) fun c12 => ?_
  ·
   have hno := getI_no (L := v.Locals) c12
   refine Z11 ?_
   refine Post.retR rfl rfl ((s, 2)) (by exact plQ_no (by decide) (by rw [plS_34 hp1, hno]; rfl) (by omega)) (OLe.sel [] [0, 1] rfl rfl) rfl (.cons (.ra (i := 0) Tryz.ag193 Tryz.cz193 rfl rfl rfl rfl) ?_ (.cons (.rt rfl) ?_ .nil))
   · exact VLe.refl _
   exact VLe.refl _
  obtain ⟨t, hw, hw2⟩ := getI_at (L := v.Locals) hA0 c12
  refine Z8 ?_
  refine .p (cI x.A.toNat (h := hw2)) rfl ?_
  refine Z1 ?_
  refine .p (cB encU8 [t]) rfl ?_
  refine Z11 ?_
  refine Cd (fun c13 => ?_) fun c13 => ?_
  ·
   refine Z3 ?_
   refine .n (cE (h := dtakes_spec (s := s) (l := [t]) (by omega))) rfl fun g326 h326 => ?_
   refine Z15 ?_
   refine Cd (fun c14 => ?_) fun c14 => ?_
   ·
    refine Z3 ?_
    refine .n (cE (h := dgive_spec (s := g326.1) (l := [t]) (by have := h326.2; omega) (by simp))) rfl fun g334 h334 => ?_
    refine Z14 ?_
    refine Post.retR rfl rfl ((giveS g326.1 [t], g326.2)) (by exact plQ_tg (by rw [plS_34 hp1, hw]; rfl) h326 (by simp)) (OLe.sel [] [0, 1] rfl rfl) rfl (.cons (.ra (i := 0) Tryz.ag193 Tryz.cz193 rfl rfl rfl rfl) ?_ (.cons (.rt rfl) ?_ .nil))
    · exact VLe.refl _
    exact VLe.refl _
   exfalso; omega
  exfalso; omega
 exfalso; omega
theorem dp35_spec {v : EnvD} {x : InstrD} {s : Stk} {base : Int} {labs : List (List UInt8)} (hp0 : PlOk v x s labs) (hp1 : x.Code = 35) : FnE Tryz.prog 107 [aggV (encEnv v), aggV (encInstr x), aggV (encStk s base), sliceV 1 encSlT labs] [] (γ := Stk × Int) (plQ s (plS v x s labs)) (fun _ => []) (fun g => tupV [aggV (encStk g.1 base), intV .i64 g.2]) := by
 refine In 517 Tryz.func107 fun _ _ _ => ?_
 have hs5 := hp0.stk
 have hA0 := hp0.ins.A0
 have hA6 := hp0.ins.A64
 have hln := hp0.lbn
 have hE := hp0.env
 have hf1 := hE.F
 have hf2 := hE.S
 have hf3 := hE.L
 have hf4 := hE.G
 have hf5 := hE.W
 refine Z4 ?_
 refine .n (opBoxOA (.t rfl)) rfl fun b6 _ => ?_
 refine .n (opAlloc Tryz.zb193) rfl fun b8 _ => ?_
 refine Z35 ?_
 refine Cd (fun c0 => ?_) fun c0 => ?_
 · exfalso; omega
 refine Z7 ?_
 refine Cd (fun c1 => ?_) fun c1 => ?_
 · exfalso; omega
 refine Z5 ?_
 refine Cd (fun c2 => ?_) fun c2 => ?_
 · exfalso; omega
 refine Z6 ?_
 refine Cd (fun c3 => ?_) fun c3 => ?_
 · exfalso; omega
 refine Z6 ?_
 refine Cd (fun c4 => ?_) fun c4 => ?_
 · exfalso; omega
 refine Z6 ?_
 refine Cd (fun c5 => ?_) fun c5 => ?_
 · exfalso; omega
 refine Z6 ?_
 refine Cd (fun c6 => ?_) fun c6 => ?_
 · exfalso; omega
 refine Z6 ?_
 refine Cd (fun c7 => ?_) fun c7 => ?_
 · exfalso; omega
 refine Z6 ?_
 refine Cd (fun c8 => ?_) fun c8 => ?_
 · exfalso; omega
 refine Z7 ?_
 refine Cd (fun c9 => ?_) fun c9 => ?_
 · exfalso; omega
 refine Z6 ?_
 refine Cd (fun c10 => ?_) fun c10 => ?_
 · exfalso; omega
 refine Z5 ?_
 refine Cd (fun c11 => ?_) fun c11 => ?_
 · exfalso; omega
 refine Z7 ?_
 refine Cd (fun c12 => ?_) fun c12 => ?_
 ·
  refine Z2 ?_
  refine Cd (fun c13 => ?_) fun c13 => ?_
  ·
   refine Z12 ?_
   refine Cd (fun c14 => ?_) fun c14 => ?_
   ·
    have hno := getI_no (L := v.Globals) c14
    refine Z11 ?_
    refine Post.retR rfl rfl ((s, 2)) (by exact plQ_no (by decide) (by rw [plS_35 hp1, hno]; rfl) (by omega)) (OLe.sel [] [0, 1] rfl rfl) rfl (.cons (.ra (i := 0) Tryz.ag193 Tryz.cz193 rfl rfl rfl rfl) ?_ (.cons (.rt rfl) ?_ .nil))
    · exact VLe.refl _
    exact VLe.refl _
   obtain ⟨t, hw, hw2⟩ := getI_at (L := v.Globals) hA0 c14
   refine Z8 ?_
   refine .p (cI x.A.toNat (h := hw2)) rfl ?_
   refine Z1 ?_
   refine .p (cB encU8 [t]) rfl ?_
   refine Z11 ?_
   refine Cd (fun c15 => ?_) fun c15 => ?_
   ·
    refine Z4 ?_
    refine .n (cE (h := dgive_spec (s := s) (l := [t]) (by omega) (by simp))) rfl fun g360 h360 => ?_
    refine Z8 ?_
    refine Post.retR rfl rfl ((giveS s [t], 0)) (by exact plQ_ok (by rw [plS_35 hp1, hw]; rfl) (by simp only [giveS, List.length_append, List.length_cons, List.length_nil]; omega)) (OLe.sel [] [0, 1] rfl rfl) rfl (.cons (.ra (i := 0) Tryz.ag193 Tryz.cz193 rfl rfl rfl rfl) ?_ (.cons (.rt rfl) ?_ .nil))
    · exact VLe.refl _
    exact VLe.refl _
   exfalso; omega
  exfalso; omega
 exfalso; omega
theorem dp36_spec {v : EnvD} {x : InstrD} {s : Stk} {base : Int} {labs : List (List UInt8)} (hp0 : PlOk v x s labs) (hp1 : x.Code = 36) : FnE Tryz.prog 107 [aggV (encEnv v), aggV (encInstr x), aggV (encStk s base), sliceV 1 encSlT labs] [] (γ := Stk × Int) (plQ s (plS v x s labs)) (fun _ => []) (fun g => tupV [aggV (encStk g.1 base), intV .i64 g.2]) := by
 refine In 517 Tryz.func107 fun _ _ _ => ?_
 have hs5 := hp0.stk
 have hA0 := hp0.ins.A0
 have hA6 := hp0.ins.A64
 have hln := hp0.lbn
 have hE := hp0.env
 have hf1 := hE.F
 have hf2 := hE.S
 have hf3 := hE.L
 have hf4 := hE.G
 have hf5 := hE.W
 refine Z4 ?_
 refine .n (opBoxOA (.t rfl)) rfl fun b6 _ => ?_
 refine .n (opAlloc Tryz.zb193) rfl fun b8 _ => ?_
 refine Z35 ?_
 refine Cd (fun c0 => ?_) fun c0 => ?_
 · exfalso; omega
 refine Z7 ?_
 refine Cd (fun c1 => ?_) fun c1 => ?_
 · exfalso; omega
 refine Z5 ?_
 refine Cd (fun c2 => ?_) fun c2 => ?_
 · exfalso; omega
 refine Z6 ?_
 refine Cd (fun c3 => ?_) fun c3 => ?_
 · exfalso; omega
 refine Z6 ?_
 refine Cd (fun c4 => ?_) fun c4 => ?_
 · exfalso; omega
 refine Z6 ?_
 refine Cd (fun c5 => ?_) fun c5 => ?_
 · exfalso; omega
 refine Z6 ?_
 refine Cd (fun c6 => ?_) fun c6 => ?_
 · exfalso; omega
 refine Z6 ?_
 refine Cd (fun c7 => ?_) fun c7 => ?_
 · exfalso; omega
 refine Z6 ?_
 refine Cd (fun c8 => ?_) fun c8 => ?_
 · exfalso; omega
 refine Z7 ?_
 refine Cd (fun c9 => ?_) fun c9 => ?_
 · exfalso; omega
 refine Z6 ?_
 refine Cd (fun c10 => ?_) fun c10 => ?_
 · exfalso; omega
 refine Z5 ?_
 refine Cd (fun c11 => ?_) fun c11 => ?_
 · exfalso; omega
 refine Z7 ?_
 refine Cd (fun c12 => ?_) fun c12 => ?_
 · exfalso; omega
 refine Z5 ?_
 refine Cd (fun c13 => ?_) fun c13 => ?_
 ·
  refine Z12 ?_
  refine Cd (fun c14 => ?_) fun c14 => ?_
  ·
   have hno := getI_no (L := v.Globals) c14
   refine Z11 ?_
   refine Post.retR rfl rfl ((s, 2)) (by exact plQ_no (by decide) (by rw [plS_36 hp1, hno]; rfl) (by omega)) (OLe.sel [] [0, 1] rfl rfl) rfl (.cons (.ra (i := 0) Tryz.ag193 Tryz.cz193 rfl rfl rfl rfl) ?_ (.cons (.rt rfl) ?_ .nil))
   · exact VLe.refl _
   exact VLe.refl _
  obtain ⟨t, hw, hw2⟩ := getI_at (L := v.Globals) hA0 c14
  refine Z8 ?_
  refine .p (cI x.A.toNat (h := hw2)) rfl ?_
  refine Z1 ?_
  refine .p (cB encU8 [t]) rfl ?_
  refine Z11 ?_
  refine Cd (fun c15 => ?_) fun c15 => ?_
  · exfalso; omega
  obtain ⟨mu, hm, hm2⟩ := getI_at (L := v.Mutable) hA0 (by rw [hE.mu]; exact c14)
  refine Z9 ?_
  refine .p (cI x.A.toNat (h := hm2)) rfl ?_
  refine Z4 ?_
  refine Cd (fun c16 => ?_) fun c16 => ?_
  ·
   refine Z11 ?_
   refine Post.retR rfl rfl ((s, 5)) (by exact plQ_no (by decide) (by rw [plS_36 hp1, hw, Option.bind_some, hm, Option.bind_some]; exact if_neg c16) (by omega)) (OLe.sel [] [0, 1] rfl rfl) rfl (.cons (.ra (i := 0) Tryz.ag193 Tryz.cz193 rfl rfl rfl rfl) ?_ (.cons (.rt rfl) ?_ .nil))
   · exact VLe.refl _
   exact VLe.refl _
  refine Z6 ?_
  refine .n (cE (h := dtakes_spec (s := s) (l := [t]) (by omega))) rfl fun g371 h371 => ?_
  refine Z9 ?_
  refine Post.retR rfl rfl (g371) (by exact plQ_tk (by rw [plS_36 hp1, hw, Option.bind_some, hm, Option.bind_some]; exact if_pos (Classical.not_not.1 c16)) h371) (OLe.sel [] [0, 1] rfl rfl) rfl (.cons (.ra (i := 0) Tryz.ag193 Tryz.cz193 rfl rfl rfl rfl) ?_ (.cons (.rt rfl) ?_ .nil))
  · exact VLe.refl _
  exact VLe.refl _
 exfalso; omega
theorem dpform_spec {v : EnvD} {x : InstrD} {s : Stk} {base : Int} {labs : List (List UInt8)} (hp0 : PlOk v x s labs) (hp1 : ¬ ctlC x.Code) (hp2 : ¬ varC x.Code) (hp3 : ¬ callC x.Code) (hp4 : formR x.Code < 8 ∨ 10 < formR x.Code) : FnE Tryz.prog 107 [aggV (encEnv v), aggV (encInstr x), aggV (encStk s base), sliceV 1 encSlT labs] [] (γ := Stk × Int) (plQ s (plS v x s labs)) (fun _ => []) (fun g => tupV [aggV (encStk g.1 base), intV .i64 g.2]) := by
 refine In 517 Tryz.func107 fun _ _ _ => ?_
 have hs5 := hp0.stk
 have hA0 := hp0.ins.A0
 have hA6 := hp0.ins.A64
 have hln := hp0.lbn
 have hE := hp0.env
 have hf1 := hE.F
 have hf2 := hE.S
 have hf3 := hE.L
 have hf4 := hE.G
 have hf5 := hE.W
 have hp1b := hp1
 have hp2b := hp2
 have hp3b := hp3
 unfold ctlC at hp1b
 unfold varC at hp2b
 unfold callC at hp3b
 have htl := takes_len x.Code
 refine Z4 ?_
 refine .n (opBoxOA (.t rfl)) rfl fun b6 _ => ?_
 refine .n (opAlloc Tryz.zb193) rfl fun b8 _ => ?_
 refine Z35 ?_
 refine Cd (fun c0 => ?_) fun c0 => ?_
 · exfalso; omega
 refine Z7 ?_
 refine Cd (fun c1 => ?_) fun c1 => ?_
 · exfalso; omega
 refine Z5 ?_
 refine Cd (fun c2 => ?_) fun c2 => ?_
 · exfalso; omega
 refine Z6 ?_
 refine Cd (fun c3 => ?_) fun c3 => ?_
 · exfalso; omega
 refine Z6 ?_
 refine Cd (fun c4 => ?_) fun c4 => ?_
 · exfalso; omega
 refine Z6 ?_
 refine Cd (fun c5 => ?_) fun c5 => ?_
 · exfalso; omega
 refine Z6 ?_
 refine Cd (fun c6 => ?_) fun c6 => ?_
 · exfalso; omega
 refine Z6 ?_
 refine Cd (fun c7 => ?_) fun c7 => ?_
 · exfalso; omega
 refine Z6 ?_
 refine Cd (fun c8 => ?_) fun c8 => ?_
 · exfalso; omega
 refine Z7 ?_
 refine Cd (fun c9 => ?_) fun c9 => ?_
 · exfalso; omega
 refine Z6 ?_
 refine Cd (fun c10 => ?_) fun c10 => ?_
 · exfalso; omega
 refine Z5 ?_
 refine Cd (fun c11 => ?_) fun c11 => ?_
 · exfalso; omega
 refine Z7 ?_
 refine Cd (fun c12 => ?_) fun c12 => ?_
 · exfalso; omega
 refine Z5 ?_
 refine Cd (fun c13 => ?_) fun c13 => ?_
 · exfalso; omega
 refine Z7 ?_
 refine .p (cA (h := rform_spec)) rfl ?_
 refine Z7 ?_
 refine .p (cA (h := rtakes_spec)) rfl ?_
 refine Z18 ?_
 refine Cd (fun c14 => ?_) fun c14 => ?_
 ·
  refine Z4 ?_
  refine .n (cE (h := dtakes_spec (s := s) (l := (takesR x.Code).1) (by omega))) rfl fun g392 h392 => ?_
  refine Z11 ?_
  refine .n (cE (h := dgive_spec (s := g392.1) (l := (takesR x.Code).2) (by have := h392.2; omega) (by omega))) rfl fun g397 h397 => ?_
  refine Z7 ?_
  refine Post.retR rfl rfl ((giveS g392.1 (takesR x.Code).2, g392.2)) (by exact plQ_tg (plS_form hp1 hp2 hp3 hp4) h392 (by omega)) (OLe.sel [] [0, 1] rfl rfl) rfl (.cons (.ra (i := 0) Tryz.ag193 Tryz.cz193 rfl rfl rfl rfl) ?_ (.cons (.rt rfl) ?_ .nil))
  · exact VLe.refl _
  exact VLe.refl _
 exact absurd hp4 c14
end Go.Proofs.YtmmdlhjcmlekfaaGreatDoor
end
section
namespace Go.Proofs.YtmmdlhjcmlekfaaGreatDoor
open Go.Hl Go.RowKit
theorem dp8_spec {v : EnvD} {x : InstrD} {s : Stk} {base : Int} {labs : List (List UInt8)} (hp0 : PlOk v x s labs) (hp1 : ¬ ctlC x.Code) (hp2 : ¬ varC x.Code) (hp3 : ¬ callC x.Code) (hp4 : formR x.Code = 8) : FnE Tryz.prog 107 [aggV (encEnv v), aggV (encInstr x), aggV (encStk s base), sliceV 1 encSlT labs] [] (γ := Stk × Int) (plQ s (plS v x s labs)) (fun _ => []) (fun g => tupV [aggV (encStk g.1 base), intV .i64 g.2]) := by
 refine In 517 Tryz.func107 fun _ _ _ => ?_
 have hs5 := hp0.stk
 have hA0 := hp0.ins.A0
 have hA6 := hp0.ins.A64
 have hln := hp0.lbn
 have hE := hp0.env
 have hf1 := hE.F
 have hf2 := hE.S
 have hf3 := hE.L
 have hf4 := hE.G
 have hf5 := hE.W
 have hp1b := hp1
 have hp2b := hp2
 have hp3b := hp3
 unfold ctlC at hp1b
 unfold varC at hp2b
 unfold callC at hp3b
 have htl := takes_len x.Code
 obtain ⟨t0, tl, htk⟩ := takes_8 hp4
 have htk1 : 1 ≤ (takesR x.Code).1.length := by rw [htk]; simp
 have ha0 := hp0.ins.a0
 have ha1 := hp0.ins.a31
 refine Z4 ?_
 refine .n (opBoxOA (.t rfl)) rfl fun b6 _ => ?_
 refine .n (opAlloc Tryz.zb193) rfl fun b8 _ => ?_
 refine Z35 ?_
 refine Cd (fun c0 => ?_) fun c0 => ?_
 · exfalso; omega
 refine Z7 ?_
 refine Cd (fun c1 => ?_) fun c1 => ?_
 · exfalso; omega
 refine Z5 ?_
 refine Cd (fun c2 => ?_) fun c2 => ?_
 · exfalso; omega
 refine Z6 ?_
 refine Cd (fun c3 => ?_) fun c3 => ?_
 · exfalso; omega
 refine Z6 ?_
 refine Cd (fun c4 => ?_) fun c4 => ?_
 · exfalso; omega
 refine Z6 ?_
 refine Cd (fun c5 => ?_) fun c5 => ?_
 · exfalso; omega
 refine Z6 ?_
 refine Cd (fun c6 => ?_) fun c6 => ?_
 · exfalso; omega
 refine Z6 ?_
 refine Cd (fun c7 => ?_) fun c7 => ?_
 · exfalso; omega
 refine Z6 ?_
 refine Cd (fun c8 => ?_) fun c8 => ?_
 · exfalso; omega
 refine Z7 ?_
 refine Cd (fun c9 => ?_) fun c9 => ?_
 · exfalso; omega
 refine Z6 ?_
 refine Cd (fun c10 => ?_) fun c10 => ?_
 · exfalso; omega
 refine Z5 ?_
 refine Cd (fun c11 => ?_) fun c11 => ?_
 · exfalso; omega
 refine Z7 ?_
 refine Cd (fun c12 => ?_) fun c12 => ?_
 · exfalso; omega
 refine Z5 ?_
 refine Cd (fun c13 => ?_) fun c13 => ?_
 · exfalso; omega
 refine Z7 ?_
 refine .p (cA (h := rform_spec)) rfl ?_
 refine Z7 ?_
 refine .p (cA (h := rtakes_spec)) rfl ?_
 refine Z18 ?_
 refine Cd (fun c14 => ?_) fun c14 => ?_
 · exfalso; omega
 refine Z27 ?_
 refine Cd (fun c15 => ?_) fun c15 => ?_
 ·
  refine Z9 ?_
  refine Post.retR rfl rfl ((s, 2)) (by exact plQ_no (by decide) (by (rw [plS_mem hp1 hp2 hp3 (by omega), memS_8 hp4]; rcases c15 with h | ⟨h, h2⟩; (rw [getI_no h]; rfl); omega)) (by omega)) (OLe.sel [] [0, 1] rfl rfl) rfl (.cons (.ra (i := 0) Tryz.ag193 Tryz.cz193 rfl rfl rfl rfl) ?_ (.cons (.rt rfl) ?_ .nil))
  · exact VLe.refl _
  exact VLe.refl _
 obtain ⟨wa, hw, hw2⟩ := getI_at (L := v.Wide) hA0 (fun h => c15 (.inl h))
 refine Z8 ?_
 refine .cut (σ := Unit) (fun _ => [cellsH b8 (List.map exactV [.slice none 0 0, .bool false, .int .i64 0]), cellsH b6 (encStk s base)]) (fun _ => [(25, intV .u8 ((adrW wa : UInt8).toNat : Int))]) (fun _ => True) ?_ ?_
 ·
  refine Z6 ?_
  refine .p (cI x.A.toNat (h := hw2)) rfl ?_
  refine Z3 ?_
  refine Cd (fun c16 => ?_) fun c16 => ?_
  ·
   refine Z4 ?_
   refine .meet () trivial rfl (.get rfl (VLe.of_eq (by rw [show adrW wa = 126 from adrW_t c16]; rfl)) (.keep 8 rfl rfl))
  refine Z1 ?_
  refine .meet () trivial rfl (.get rfl (VLe.of_eq (by rw [show adrW wa = 127 from adrW_f c16]; rfl)) (.keep 6 rfl rfl))
 intro _ _
 refine Z9 ?_
 refine Cd (fun c17 => ?_) fun c17 => ?_
 ·
  refine Z7 ?_
  refine .p (cI x.A.toNat (h := hw2)) rfl ?_
  refine Z9 ?_
  refine Cd (fun c18 => ?_) fun c18 => ?_
  ·
   refine Z11 ?_
   refine Post.retR rfl rfl ((s, 2)) (by exact plQ_no (by decide) (by rw [plS_mem hp1 hp2 hp3 (by omega), memS_8 hp4, hw, Option.bind_some]; exact if_pos (.inl c18)) (by omega)) (OLe.sel [] [0, 1] rfl rfl) rfl (.cons (.ra (i := 0) Tryz.ag193 Tryz.cz193 rfl rfl rfl rfl) ?_ (.cons (.rt rfl) ?_ .nil))
   · exact VLe.refl _
   exact VLe.refl _
  refine Z14 ?_
  refine .loopO (σ := Nat) (fun _ => [cellsH b8 (List.map exactV [.slice none 0 0, .bool false, .int .i64 0]), cellsH b6 (encStk s base)]) (fun k => [(26, intV .i64 ((2 : Int) ^ k)), (27, intV .i64 (k : Int))]) (fun k => k ≤ x.Align.toNat) (fun k => x.Align.toNat - k) 0 (Nat.zero_le _) rfl ?_ ?_
  · exact (.get rfl (VLe.int (by show (1 : Int) = 2 ^ 0; rfl)) (.get rfl (VLe.refl _) (.refl _ _)))
  rintro k hk
  refine Z9 ?_
  refine Cd (fun c19 => ?_) fun c19 => ?_
  ·
   have hpk := pw31 (k := k) (by omega)
   refine Z16 ?_
   refine .round (k + 1) (by omega) (by omega) rfl ?_
   exact (.get rfl (VLe.int (by show (_ : Int) = 2 ^ (k + 1); rw [Int.pow_succ]; omega)) (.get rfl (VLe.int (by omega)) ((.keep 12 rfl rfl))))
  have hkk : k = x.Align.toNat := by omega
  subst hkk
  refine Z11 ?_
  refine .p (cA (h := rwidth_spec)) rfl ?_
  refine Z3 ?_
  refine Cd (fun c20 => ?_) fun c20 => ?_
  ·
   refine Z11 ?_
   refine Post.retR rfl rfl ((s, 5)) (by exact plQ_no (by decide) (by rw [plS_mem hp1 hp2 hp3 (by omega), memS_8 hp4, hw, Option.bind_some]; exact if_pos (.inr c20)) (by omega)) (OLe.sel [] [0, 1] rfl rfl) rfl (.cons (.ra (i := 0) Tryz.ag193 Tryz.cz193 rfl rfl rfl rfl) ?_ (.cons (.rt rfl) ?_ .nil))
   · exact VLe.refl _
   exact VLe.refl _
  refine Z4 ?_
  refine .n (opBuildSliceO encU8 [adrW wa] Tryz.underlying64 Tryz.cz5 rfl Tryz.zb5 rfl (.cons (.t rfl) .nil) rfl rfl rfl rfl rfl) rfl fun g481 _ => ?_
  refine Z1 ?_
  refine .p (opSliceLo Tryz.underlying64 Tryz.cz5 rfl (.t rfl) (.c _) rfl (by omega)) rfl ?_
  refine .n (OpE.shareS (G := fun g => g) (hs1 := fun _ => _) (xs := fun _ => _) (opAppend (i := 0) Tryz.underlying64 Tryz.underlying64 Tryz.cz5 rfl Tryz.zb5 rfl Tryz.by5 (.t rfl) (.t rfl) rfl (by rw [htk] at htl ⊢; simp at htl ⊢; omega) (by rw [htk] at htl ⊢; simp at htl ⊢; omega))) rfl fun _ _ => ?_
  refine Z8 ?_
  refine .n (cE (h := dtakes_spec (s := s) (l := [adrW wa] ++ List.drop 1 (takesR x.Code).1) (by omega))) rfl fun g510 h510 => ?_
  refine Z11 ?_
  refine .n (cE (h := dgive_spec (s := g510.1) (l := (takesR x.Code).2) (by have := h510.2; omega) (by omega))) rfl fun g515 h515 => ?_
  refine Z6 ?_
  refine Post.retR rfl rfl ((giveS g510.1 (takesR x.Code).2, g510.2)) (by exact plQ_tg (by rw [plS_mem hp1 hp2 hp3 (by omega), memS_8 hp4, hw, Option.bind_some, ← List.drop_one]; exact if_neg (by rintro (h | h); exact c18 h; exact c20 h)) h510 (by omega)) (OLe.sel [] [0, 1] rfl rfl) rfl (.cons (.ra (i := 0) Tryz.ag193 Tryz.cz193 rfl rfl rfl rfl) ?_ (.cons (.rt rfl) ?_ .nil))
  · exact VLe.refl _
  exact VLe.refl _
 exfalso; omega
theorem dp63_spec {v : EnvD} {x : InstrD} {s : Stk} {base : Int} {labs : List (List UInt8)} (hp0 : PlOk v x s labs) (hp1 : x.Code = 63) : FnE Tryz.prog 107 [aggV (encEnv v), aggV (encInstr x), aggV (encStk s base), sliceV 1 encSlT labs] [] (γ := Stk × Int) (plQ s (plS v x s labs)) (fun _ => []) (fun g => tupV [aggV (encStk g.1 base), intV .i64 g.2]) := by
 refine In 517 Tryz.func107 fun _ _ _ => ?_
 have hs5 := hp0.stk
 have hA0 := hp0.ins.A0
 have hA6 := hp0.ins.A64
 have hln := hp0.lbn
 have hE := hp0.env
 have hf1 := hE.F
 have hf2 := hE.S
 have hf3 := hE.L
 have hf4 := hE.G
 have hf5 := hE.W
 have hf : formR x.Code = 9 := by rw [hp1]; decide
 have htl := takes_len x.Code
 refine Z4 ?_
 refine .n (opBoxOA (.t rfl)) rfl fun b6 _ => ?_
 refine .n (opAlloc Tryz.zb193) rfl fun b8 _ => ?_
 refine Z35 ?_
 refine Cd (fun c0 => ?_) fun c0 => ?_
 · exfalso; omega
 refine Z7 ?_
 refine Cd (fun c1 => ?_) fun c1 => ?_
 · exfalso; omega
 refine Z5 ?_
 refine Cd (fun c2 => ?_) fun c2 => ?_
 · exfalso; omega
 refine Z6 ?_
 refine Cd (fun c3 => ?_) fun c3 => ?_
 · exfalso; omega
 refine Z6 ?_
 refine Cd (fun c4 => ?_) fun c4 => ?_
 · exfalso; omega
 refine Z6 ?_
 refine Cd (fun c5 => ?_) fun c5 => ?_
 · exfalso; omega
 refine Z6 ?_
 refine Cd (fun c6 => ?_) fun c6 => ?_
 · exfalso; omega
 refine Z6 ?_
 refine Cd (fun c7 => ?_) fun c7 => ?_
 · exfalso; omega
 refine Z6 ?_
 refine Cd (fun c8 => ?_) fun c8 => ?_
 · exfalso; omega
 refine Z7 ?_
 refine Cd (fun c9 => ?_) fun c9 => ?_
 · exfalso; omega
 refine Z6 ?_
 refine Cd (fun c10 => ?_) fun c10 => ?_
 · exfalso; omega
 refine Z5 ?_
 refine Cd (fun c11 => ?_) fun c11 => ?_
 · exfalso; omega
 refine Z7 ?_
 refine Cd (fun c12 => ?_) fun c12 => ?_
 · exfalso; omega
 refine Z5 ?_
 refine Cd (fun c13 => ?_) fun c13 => ?_
 · exfalso; omega
 refine Z7 ?_
 refine .p (cA (h := rform_spec)) rfl ?_
 refine Z7 ?_
 refine .p (cA (h := rtakes_spec)) rfl ?_
 refine Z18 ?_
 refine Cd (fun c14 => ?_) fun c14 => ?_
 · exfalso; omega
 refine Z27 ?_
 refine Cd (fun c15 => ?_) fun c15 => ?_
 ·
  refine Z9 ?_
  refine Post.retR rfl rfl ((s, 2)) (by exact plQ_no (by decide) (by (rw [plS_mem (by unfold ctlC; omega) (by unfold varC; omega) (by unfold callC; omega) (by omega), memS_63 hp1]; rcases c15 with h | ⟨h, h2⟩; (rw [getI_no h]; rfl); omega)) (by omega)) (OLe.sel [] [0, 1] rfl rfl) rfl (.cons (.ra (i := 0) Tryz.ag193 Tryz.cz193 rfl rfl rfl rfl) ?_ (.cons (.rt rfl) ?_ .nil))
  · exact VLe.refl _
  exact VLe.refl _
 obtain ⟨wa, hw, hw2⟩ := getI_at (L := v.Wide) hA0 (fun h => c15 (.inl h))
 refine Z8 ?_
 refine .cut (σ := Unit) (fun _ => [cellsH b8 (List.map exactV [.slice none 0 0, .bool false, .int .i64 0]), cellsH b6 (encStk s base)]) (fun _ => [(25, intV .u8 ((adrW wa : UInt8).toNat : Int))]) (fun _ => True) ?_ ?_
 ·
  refine Z6 ?_
  refine .p (cI x.A.toNat (h := hw2)) rfl ?_
  refine Z3 ?_
  refine Cd (fun c16 => ?_) fun c16 => ?_
  ·
   refine Z4 ?_
   refine .meet () trivial rfl (.get rfl (VLe.of_eq (by rw [show adrW wa = 126 from adrW_t c16]; rfl)) (.keep 8 rfl rfl))
  refine Z1 ?_
  refine .meet () trivial rfl (.get rfl (VLe.of_eq (by rw [show adrW wa = 127 from adrW_f c16]; rfl)) (.keep 6 rfl rfl))
 intro _ _
 refine Z9 ?_
 refine Cd (fun c17 => ?_) fun c17 => ?_
 · exfalso; omega
 refine Z8 ?_
 refine Cd (fun c18 => ?_) fun c18 => ?_
 ·
  refine Z2 ?_
  refine .p (cB encU8 [adrW wa]) rfl ?_
  refine Z8 ?_
  refine .n (cE (h := dtakes_spec (s := s) (l := (takesR x.Code).1) (by omega))) rfl fun g510 h510 => ?_
  refine Z11 ?_
  refine .n (cE (h := dgive_spec (s := g510.1) (l := [adrW wa]) (by have := h510.2; omega) (by simp))) rfl fun g515 h515 => ?_
  refine Z6 ?_
  refine Post.retR rfl rfl ((giveS g510.1 [adrW wa], g510.2)) (by exact plQ_tg (by rw [plS_mem (by unfold ctlC; omega) (by unfold varC; omega) (by unfold callC; omega) (by omega), memS_63 hp1, hw, Option.bind_some, show (takesR x.Code).1 = [] by rw [hp1]; rfl]; rfl) h510 (by simp)) (OLe.sel [] [0, 1] rfl rfl) rfl (.cons (.ra (i := 0) Tryz.ag193 Tryz.cz193 rfl rfl rfl rfl) ?_ (.cons (.rt rfl) ?_ .nil))
  · exact VLe.refl _
  exact VLe.refl _
 exfalso; omega
theorem dp64_spec {v : EnvD} {x : InstrD} {s : Stk} {base : Int} {labs : List (List UInt8)} (hp0 : PlOk v x s labs) (hp1 : x.Code = 64) : FnE Tryz.prog 107 [aggV (encEnv v), aggV (encInstr x), aggV (encStk s base), sliceV 1 encSlT labs] [] (γ := Stk × Int) (plQ s (plS v x s labs)) (fun _ => []) (fun g => tupV [aggV (encStk g.1 base), intV .i64 g.2]) := by
 refine In 517 Tryz.func107 fun _ _ _ => ?_
 have hs5 := hp0.stk
 have hA0 := hp0.ins.A0
 have hA6 := hp0.ins.A64
 have hln := hp0.lbn
 have hE := hp0.env
 have hf1 := hE.F
 have hf2 := hE.S
 have hf3 := hE.L
 have hf4 := hE.G
 have hf5 := hE.W
 have hf : formR x.Code = 9 := by rw [hp1]; decide
 have htl := takes_len x.Code
 refine Z4 ?_
 refine .n (opBoxOA (.t rfl)) rfl fun b6 _ => ?_
 refine .n (opAlloc Tryz.zb193) rfl fun b8 _ => ?_
 refine Z35 ?_
 refine Cd (fun c0 => ?_) fun c0 => ?_
 · exfalso; omega
 refine Z7 ?_
 refine Cd (fun c1 => ?_) fun c1 => ?_
 · exfalso; omega
 refine Z5 ?_
 refine Cd (fun c2 => ?_) fun c2 => ?_
 · exfalso; omega
 refine Z6 ?_
 refine Cd (fun c3 => ?_) fun c3 => ?_
 · exfalso; omega
 refine Z6 ?_
 refine Cd (fun c4 => ?_) fun c4 => ?_
 · exfalso; omega
 refine Z6 ?_
 refine Cd (fun c5 => ?_) fun c5 => ?_
 · exfalso; omega
 refine Z6 ?_
 refine Cd (fun c6 => ?_) fun c6 => ?_
 · exfalso; omega
 refine Z6 ?_
 refine Cd (fun c7 => ?_) fun c7 => ?_
 · exfalso; omega
 refine Z6 ?_
 refine Cd (fun c8 => ?_) fun c8 => ?_
 · exfalso; omega
 refine Z7 ?_
 refine Cd (fun c9 => ?_) fun c9 => ?_
 · exfalso; omega
 refine Z6 ?_
 refine Cd (fun c10 => ?_) fun c10 => ?_
 · exfalso; omega
 refine Z5 ?_
 refine Cd (fun c11 => ?_) fun c11 => ?_
 · exfalso; omega
 refine Z7 ?_
 refine Cd (fun c12 => ?_) fun c12 => ?_
 · exfalso; omega
 refine Z5 ?_
 refine Cd (fun c13 => ?_) fun c13 => ?_
 · exfalso; omega
 refine Z7 ?_
 refine .p (cA (h := rform_spec)) rfl ?_
 refine Z7 ?_
 refine .p (cA (h := rtakes_spec)) rfl ?_
 refine Z18 ?_
 refine Cd (fun c14 => ?_) fun c14 => ?_
 · exfalso; omega
 refine Z27 ?_
 refine Cd (fun c15 => ?_) fun c15 => ?_
 ·
  refine Z9 ?_
  refine Post.retR rfl rfl ((s, 2)) (by exact plQ_no (by decide) (by (rw [plS_mem (by unfold ctlC; omega) (by unfold varC; omega) (by unfold callC; omega) (by omega), memS_64 hp1]; rcases c15 with h | ⟨h, h2⟩; (rw [getI_no h]; rfl); omega)) (by omega)) (OLe.sel [] [0, 1] rfl rfl) rfl (.cons (.ra (i := 0) Tryz.ag193 Tryz.cz193 rfl rfl rfl rfl) ?_ (.cons (.rt rfl) ?_ .nil))
  · exact VLe.refl _
  exact VLe.refl _
 obtain ⟨wa, hw, hw2⟩ := getI_at (L := v.Wide) hA0 (fun h => c15 (.inl h))
 refine Z8 ?_
 refine .cut (σ := Unit) (fun _ => [cellsH b8 (List.map exactV [.slice none 0 0, .bool false, .int .i64 0]), cellsH b6 (encStk s base)]) (fun _ => [(25, intV .u8 ((adrW wa : UInt8).toNat : Int))]) (fun _ => True) ?_ ?_
 ·
  refine Z6 ?_
  refine .p (cI x.A.toNat (h := hw2)) rfl ?_
  refine Z3 ?_
  refine Cd (fun c16 => ?_) fun c16 => ?_
  ·
   refine Z4 ?_
   refine .meet () trivial rfl (.get rfl (VLe.of_eq (by rw [show adrW wa = 126 from adrW_t c16]; rfl)) (.keep 8 rfl rfl))
  refine Z1 ?_
  refine .meet () trivial rfl (.get rfl (VLe.of_eq (by rw [show adrW wa = 127 from adrW_f c16]; rfl)) (.keep 6 rfl rfl))
 intro _ _
 refine Z9 ?_
 refine Cd (fun c17 => ?_) fun c17 => ?_
 · exfalso; omega
 refine Z8 ?_
 refine Cd (fun c18 => ?_) fun c18 => ?_
 · exfalso; omega
 refine Z8 ?_
 refine Cd (fun c19 => ?_) fun c19 => ?_
 ·
  refine Z2 ?_
  refine .p (cB encU8 [adrW wa]) rfl ?_
  refine Z1 ?_
  refine .p (cB encU8 [adrW wa]) rfl ?_
  refine Z9 ?_
  refine .n (cE (h := dtakes_spec (s := s) (l := [adrW wa]) (by omega))) rfl fun g510 h510 => ?_
  refine Z11 ?_
  refine .n (cE (h := dgive_spec (s := g510.1) (l := [adrW wa]) (by have := h510.2; omega) (by simp))) rfl fun g515 h515 => ?_
  refine Z6 ?_
  refine Post.retR rfl rfl ((giveS g510.1 [adrW wa], g510.2)) (by exact plQ_tg (by rw [plS_mem (by unfold ctlC; omega) (by unfold varC; omega) (by unfold callC; omega) (by omega), memS_64 hp1, hw, Option.bind_some]) h510 (by simp)) (OLe.sel [] [0, 1] rfl rfl) rfl (.cons (.ra (i := 0) Tryz.ag193 Tryz.cz193 rfl rfl rfl rfl) ?_ (.cons (.rt rfl) ?_ .nil))
  · exact VLe.refl _
  exact VLe.refl _
 exfalso; omega
theorem dpfill_spec {v : EnvD} {x : InstrD} {s : Stk} {base : Int} {labs : List (List UInt8)} (hp0 : PlOk v x s labs) (hp1 : x.Code = 64523) : FnE Tryz.prog 107 [aggV (encEnv v), aggV (encInstr x), aggV (encStk s base), sliceV 1 encSlT labs] [] (γ := Stk × Int) (plQ s (plS v x s labs)) (fun _ => []) (fun g => tupV [aggV (encStk g.1 base), intV .i64 g.2]) := by
 refine In 517 Tryz.func107 fun _ _ _ => ?_
 have hs5 := hp0.stk
 have hA0 := hp0.ins.A0
 have hA6 := hp0.ins.A64
 have hln := hp0.lbn
 have hE := hp0.env
 have hf1 := hE.F
 have hf2 := hE.S
 have hf3 := hE.L
 have hf4 := hE.G
 have hf5 := hE.W
 have hf : formR x.Code = 9 := by rw [hp1]; decide
 have htl := takes_len x.Code
 refine Z4 ?_
 refine .n (opBoxOA (.t rfl)) rfl fun b6 _ => ?_
 refine .n (opAlloc Tryz.zb193) rfl fun b8 _ => ?_
 refine Z35 ?_
 refine Cd (fun c0 => ?_) fun c0 => ?_
 · exfalso; omega
 refine Z7 ?_
 refine Cd (fun c1 => ?_) fun c1 => ?_
 · exfalso; omega
 refine Z5 ?_
 refine Cd (fun c2 => ?_) fun c2 => ?_
 · exfalso; omega
 refine Z6 ?_
 refine Cd (fun c3 => ?_) fun c3 => ?_
 · exfalso; omega
 refine Z6 ?_
 refine Cd (fun c4 => ?_) fun c4 => ?_
 · exfalso; omega
 refine Z6 ?_
 refine Cd (fun c5 => ?_) fun c5 => ?_
 · exfalso; omega
 refine Z6 ?_
 refine Cd (fun c6 => ?_) fun c6 => ?_
 · exfalso; omega
 refine Z6 ?_
 refine Cd (fun c7 => ?_) fun c7 => ?_
 · exfalso; omega
 refine Z6 ?_
 refine Cd (fun c8 => ?_) fun c8 => ?_
 · exfalso; omega
 refine Z7 ?_
 refine Cd (fun c9 => ?_) fun c9 => ?_
 · exfalso; omega
 refine Z6 ?_
 refine Cd (fun c10 => ?_) fun c10 => ?_
 · exfalso; omega
 refine Z5 ?_
 refine Cd (fun c11 => ?_) fun c11 => ?_
 · exfalso; omega
 refine Z7 ?_
 refine Cd (fun c12 => ?_) fun c12 => ?_
 · exfalso; omega
 refine Z5 ?_
 refine Cd (fun c13 => ?_) fun c13 => ?_
 · exfalso; omega
 refine Z7 ?_
 refine .p (cA (h := rform_spec)) rfl ?_
 refine Z7 ?_
 refine .p (cA (h := rtakes_spec)) rfl ?_
 refine Z18 ?_
 refine Cd (fun c14 => ?_) fun c14 => ?_
 · exfalso; omega
 refine Z27 ?_
 refine Cd (fun c15 => ?_) fun c15 => ?_
 ·
  refine Z9 ?_
  refine Post.retR rfl rfl ((s, 2)) (by exact plQ_no (by decide) (by (rw [plS_mem (by unfold ctlC; omega) (by unfold varC; omega) (by unfold callC; omega) (by omega), memS_fill hp1]; rcases c15 with h | ⟨h, h2⟩; (rw [getI_no h]; rfl); omega)) (by omega)) (OLe.sel [] [0, 1] rfl rfl) rfl (.cons (.ra (i := 0) Tryz.ag193 Tryz.cz193 rfl rfl rfl rfl) ?_ (.cons (.rt rfl) ?_ .nil))
  · exact VLe.refl _
  exact VLe.refl _
 obtain ⟨wa, hw, hw2⟩ := getI_at (L := v.Wide) hA0 (fun h => c15 (.inl h))
 refine Z8 ?_
 refine .cut (σ := Unit) (fun _ => [cellsH b8 (List.map exactV [.slice none 0 0, .bool false, .int .i64 0]), cellsH b6 (encStk s base)]) (fun _ => [(25, intV .u8 ((adrW wa : UInt8).toNat : Int))]) (fun _ => True) ?_ ?_
 ·
  refine Z6 ?_
  refine .p (cI x.A.toNat (h := hw2)) rfl ?_
  refine Z3 ?_
  refine Cd (fun c16 => ?_) fun c16 => ?_
  ·
   refine Z4 ?_
   refine .meet () trivial rfl (.get rfl (VLe.of_eq (by rw [show adrW wa = 126 from adrW_t c16]; rfl)) (.keep 8 rfl rfl))
  refine Z1 ?_
  refine .meet () trivial rfl (.get rfl (VLe.of_eq (by rw [show adrW wa = 127 from adrW_f c16]; rfl)) (.keep 6 rfl rfl))
 intro _ _
 refine Z9 ?_
 refine Cd (fun c17 => ?_) fun c17 => ?_
 · exfalso; omega
 refine Z8 ?_
 refine Cd (fun c18 => ?_) fun c18 => ?_
 · exfalso; omega
 refine Z8 ?_
 refine Cd (fun c19 => ?_) fun c19 => ?_
 · exfalso; omega
 refine Z8 ?_
 refine Cd (fun c20 => ?_) fun c20 => ?_
 ·
  refine Z4 ?_
  refine .p (cB encU8 [adrW wa, 127, adrW wa]) rfl ?_
  refine Z8 ?_
  refine .n (cE (h := dtakes_spec (s := s) (l := [adrW wa, 127, adrW wa]) (by omega))) rfl fun g510 h510 => ?_
  refine Z11 ?_
  refine .n (cE (h := dgive_spec (s := g510.1) (l := (takesR x.Code).2) (by have := h510.2; omega) (by omega))) rfl fun g515 h515 => ?_
  refine Z6 ?_
  refine Post.retR rfl rfl ((giveS g510.1 (takesR x.Code).2, g510.2)) (by exact plQ_tg (by rw [plS_mem (by unfold ctlC; omega) (by unfold varC; omega) (by unfold callC; omega) (by omega), memS_fill hp1, hw, Option.bind_some, show (takesR x.Code).2 = [] by rw [hp1]; rfl, tgS_nil_out]) h510 (by omega)) (OLe.sel [] [0, 1] rfl rfl) rfl (.cons (.ra (i := 0) Tryz.ag193 Tryz.cz193 rfl rfl rfl rfl) ?_ (.cons (.rt rfl) ?_ .nil))
  · exact VLe.refl _
  exact VLe.refl _
 exfalso; omega
theorem dpcopy_spec {v : EnvD} {x : InstrD} {s : Stk} {base : Int} {labs : List (List UInt8)} (hp0 : PlOk v x s labs) (hp1 : x.Code = 64522) : FnE Tryz.prog 107 [aggV (encEnv v), aggV (encInstr x), aggV (encStk s base), sliceV 1 encSlT labs] [] (γ := Stk × Int) (plQ s (plS v x s labs)) (fun _ => []) (fun g => tupV [aggV (encStk g.1 base), intV .i64 g.2]) := by
 refine In 517 Tryz.func107 fun _ _ _ => ?_
 have hs5 := hp0.stk
 have hA0 := hp0.ins.A0
 have hA6 := hp0.ins.A64
 have hln := hp0.lbn
 have hE := hp0.env
 have hf1 := hE.F
 have hf2 := hE.S
 have hf3 := hE.L
 have hf4 := hE.G
 have hf5 := hE.W
 have hf : formR x.Code = 10 := by rw [hp1]; decide
 have htl := takes_len x.Code
 have hB0 := hp0.ins.B0
 have hB6 := hp0.ins.B64
 refine Z4 ?_
 refine .n (opBoxOA (.t rfl)) rfl fun b6 _ => ?_
 refine .n (opAlloc Tryz.zb193) rfl fun b8 _ => ?_
 refine Z35 ?_
 refine Cd (fun c0 => ?_) fun c0 => ?_
 · exfalso; omega
 refine Z7 ?_
 refine Cd (fun c1 => ?_) fun c1 => ?_
 · exfalso; omega
 refine Z5 ?_
 refine Cd (fun c2 => ?_) fun c2 => ?_
 · exfalso; omega
 refine Z6 ?_
 refine Cd (fun c3 => ?_) fun c3 => ?_
 · exfalso; omega
 refine Z6 ?_
 refine Cd (fun c4 => ?_) fun c4 => ?_
 · exfalso; omega
 refine Z6 ?_
 refine Cd (fun c5 => ?_) fun c5 => ?_
 · exfalso; omega
 refine Z6 ?_
 refine Cd (fun c6 => ?_) fun c6 => ?_
 · exfalso; omega
 refine Z6 ?_
 refine Cd (fun c7 => ?_) fun c7 => ?_
 · exfalso; omega
 refine Z6 ?_
 refine Cd (fun c8 => ?_) fun c8 => ?_
 · exfalso; omega
 refine Z7 ?_
 refine Cd (fun c9 => ?_) fun c9 => ?_
 · exfalso; omega
 refine Z6 ?_
 refine Cd (fun c10 => ?_) fun c10 => ?_
 · exfalso; omega
 refine Z5 ?_
 refine Cd (fun c11 => ?_) fun c11 => ?_
 · exfalso; omega
 refine Z7 ?_
 refine Cd (fun c12 => ?_) fun c12 => ?_
 · exfalso; omega
 refine Z5 ?_
 refine Cd (fun c13 => ?_) fun c13 => ?_
 · exfalso; omega
 refine Z7 ?_
 refine .p (cA (h := rform_spec)) rfl ?_
 refine Z7 ?_
 refine .p (cA (h := rtakes_spec)) rfl ?_
 refine Z18 ?_
 refine Cd (fun c14 => ?_) fun c14 => ?_
 · exfalso; omega
 refine Z27 ?_
 refine Cd (fun c15 => ?_) fun c15 => ?_
 ·
  refine Z9 ?_
  refine Post.retR rfl rfl ((s, 2)) (by exact plQ_no (by decide) (by (rw [plS_mem (by unfold ctlC; omega) (by unfold varC; omega) (by unfold callC; omega) (by omega), memS_copy hp1]; rcases c15 with h | ⟨h, h2⟩; (rw [getI_no h]; rfl); (cases getI v.Wide x.A with | none => rfl | some g => rw [Option.bind_some, getI_no h2]; rfl))) (by omega)) (OLe.sel [] [0, 1] rfl rfl) rfl (.cons (.ra (i := 0) Tryz.ag193 Tryz.cz193 rfl rfl rfl rfl) ?_ (.cons (.rt rfl) ?_ .nil))
  · exact VLe.refl _
  exact VLe.refl _
 obtain ⟨wa, hw, hw2⟩ := getI_at (L := v.Wide) hA0 (fun h => c15 (.inl h))
 obtain ⟨wb, hx, hx2⟩ := getI_at (L := v.Wide) hB0 (fun h => c15 (.inr ⟨by omega, h⟩))
 refine Z8 ?_
 refine .cut (σ := Unit) (fun _ => [cellsH b8 (List.map exactV [.slice none 0 0, .bool false, .int .i64 0]), cellsH b6 (encStk s base)]) (fun _ => [(25, intV .u8 ((adrW wa : UInt8).toNat : Int))]) (fun _ => True) ?_ ?_
 ·
  refine Z6 ?_
  refine .p (cI x.A.toNat (h := hw2)) rfl ?_
  refine Z3 ?_
  refine Cd (fun c16 => ?_) fun c16 => ?_
  ·
   refine Z4 ?_
   refine .meet () trivial rfl (.get rfl (VLe.of_eq (by rw [show adrW wa = 126 from adrW_t c16]; rfl)) (.keep 8 rfl rfl))
  refine Z1 ?_
  refine .meet () trivial rfl (.get rfl (VLe.of_eq (by rw [show adrW wa = 127 from adrW_f c16]; rfl)) (.keep 6 rfl rfl))
 intro _ _
 refine Z9 ?_
 refine Cd (fun c17 => ?_) fun c17 => ?_
 · exfalso; omega
 refine Z8 ?_
 refine Cd (fun c18 => ?_) fun c18 => ?_
 · exfalso; omega
 refine Z8 ?_
 refine Cd (fun c19 => ?_) fun c19 => ?_
 · exfalso; omega
 refine Z8 ?_
 refine Cd (fun c20 => ?_) fun c20 => ?_
 · exfalso; omega
 refine Z8 ?_
 refine .cut (σ := Unit) (fun _ => [cellsH b8 (List.map exactV [.slice none 0 0, .bool false, .int .i64 0]), cellsH b6 (encStk s base)]) (fun _ => [(28, intV .u8 ((adrW wb : UInt8).toNat : Int))]) (fun _ => True) ?_ ?_
 ·
  refine Z6 ?_
  refine .p (cI x.B.toNat (h := hx2)) rfl ?_
  refine Z3 ?_
  refine Cd (fun c21 => ?_) fun c21 => ?_
  ·
   refine Z4 ?_
   refine .meet () trivial rfl (.get rfl (VLe.of_eq (by rw [show adrW wb = 126 from adrW_t c21]; rfl)) (.keep 8 rfl rfl))
  refine Z1 ?_
  refine .meet () trivial rfl (.get rfl (VLe.of_eq (by rw [show adrW wb = 127 from adrW_f c21]; rfl)) (.keep 6 rfl rfl))
 intro _ _
 refine .cut (σ := Unit) (fun _ => [cellsH b8 (List.map exactV [.slice none 0 0, .bool false, .int .i64 0]), cellsH b6 (encStk s base)]) (fun _ => [(29, intV .u8 ((adrW (wa ∧ wb) : UInt8).toNat : Int))]) (fun _ => True) ?_ ?_
 ·
  refine Z12 ?_
  refine Cd (fun c22 => ?_) fun c22 => ?_
  ·
   refine Z4 ?_
   refine .meet () trivial rfl (.get rfl (VLe.of_eq (by rw [show adrW (wa ∧ wb) = 126 from adrW_t ⟨adrW_iff.1 c22.1, adrW_iff.1 c22.2⟩]; rfl)) (.keep 10 rfl rfl))
  refine Z1 ?_
  refine .meet () trivial rfl (.get rfl (VLe.of_eq (by rw [show adrW (wa ∧ wb) = 127 from adrW_f (fun h => c22 ⟨adrW_iff.2 h.1, adrW_iff.2 h.2⟩)]; rfl)) (.keep 8 rfl rfl))
 intro _ _
 refine Z4 ?_
 refine .p (cB encU8 [adrW wa, adrW wb, adrW (wa ∧ wb)]) rfl ?_
 refine Z8 ?_
 refine .n (cE (h := dtakes_spec (s := s) (l := [adrW wa, adrW wb, adrW (wa ∧ wb)]) (by omega))) rfl fun g510 h510 => ?_
 refine Z11 ?_
 refine .n (cE (h := dgive_spec (s := g510.1) (l := (takesR x.Code).2) (by have := h510.2; omega) (by omega))) rfl fun g515 h515 => ?_
 refine Z6 ?_
 refine Post.retR rfl rfl ((giveS g510.1 (takesR x.Code).2, g510.2)) (by exact plQ_tg (by rw [plS_mem (by unfold ctlC; omega) (by unfold varC; omega) (by unfold callC; omega) (by omega), memS_copy hp1, hw, Option.bind_some, hx, Option.bind_some, show (takesR x.Code).2 = [] by rw [hp1]; rfl, tgS_nil_out]) h510 (by omega)) (OLe.sel [] [0, 1] rfl rfl) rfl (.cons (.ra (i := 0) Tryz.ag193 Tryz.cz193 rfl rfl rfl rfl) ?_ (.cons (.rt rfl) ?_ .nil))
 · exact VLe.refl _
 exact VLe.refl _
end Go.Proofs.YtmmdlhjcmlekfaaGreatDoor
end
section
namespace Go.Proofs.YtmmdlhjcmlekfaaGreatDoor
open Go.Hl Go.RowKit
theorem dplain_spec {v : EnvD} {x : InstrD} {s : Stk} {base : Int} {labs : List (List UInt8)} (hp : PlOk v x s labs) (hn : ¬ (x.Code = 2 ∨ x.Code = 3 ∨ x.Code = 4 ∨ x.Code = 5 ∨ x.Code = 11)) :
    FnE Tryz.prog 107 [aggV (encEnv v), aggV (encInstr x), aggV (encStk s base), sliceV 1 encSlT labs] [] (γ := Stk × Int) (plQ s (plS v x s labs)) (fun _ => []) (fun g => tupV [aggV (encStk g.1 base), intV .i64 g.2]) := by
  by_cases h0 : x.Code = 0
  · exact dp0_spec hp h0
  by_cases h12 : x.Code = 12
  · exact dp12_spec hp h12
  by_cases h13 : x.Code = 13
  · exact dp13_spec hp h13
  by_cases h14 : x.Code = 14
  · exact dp14_spec hp h14
  by_cases h15 : x.Code = 15
  · exact dp15_spec hp h15
  by_cases h16 : x.Code = 16
  · exact dp16_spec hp h16
  by_cases h17 : x.Code = 17
  · exact dp17_spec hp h17
  by_cases h26 : x.Code = 26
  · exact dp26_spec hp h26
  by_cases h27 : x.Code = 27
  · exact dp27_spec hp h27
  by_cases h32 : x.Code = 32
  · exact dp32_spec hp h32
  by_cases h33 : x.Code = 33
  · exact dp33_spec hp h33
  by_cases h34 : x.Code = 34
  · exact dp34_spec hp h34
  by_cases h35 : x.Code = 35
  · exact dp35_spec hp h35
  by_cases h36 : x.Code = 36
  · exact dp36_spec hp h36
  by_cases h63 : x.Code = 63
  · exact dp63_spec hp h63
  by_cases h64 : x.Code = 64
  · exact dp64_spec hp h64
  by_cases hfl : x.Code = 64523
  · exact dpfill_spec hp hfl
  by_cases hcp : x.Code = 64522
  · exact dpcopy_spec hp hcp
  have c1 : ¬ ctlC x.Code := by unfold ctlC; omega
  have c2 : ¬ varC x.Code := by unfold varC; omega
  have c3 : ¬ callC x.Code := by unfold callC; omega
  by_cases hf8 : formR x.Code = 8
  · exact dp8_spec hp c1 c2 c3 hf8
  refine dpform_spec hp c1 c2 c3 ?_
  have n9 : formR x.Code ≠ 9 := fun h => by have := form_9 h; omega
  have n10 : formR x.Code ≠ 10 := fun h => by have := form_10 h; omega
  rcases Int.lt_or_le (formR x.Code) 8 with h | h
  · exact .inl h
  · exact .inr (by omega)
end Go.Proofs.YtmmdlhjcmlekfaaGreatDoor
namespace Go.Hl
open Go.RowKit
noncomputable abbrev nbD (v : EnvD) := nbk (fun x : InstrD => x.Code) resI (plS v)
section
variable {v : EnvD} {l : List InstrD} {x : InstrD} {i d at0 base : Nat} {labs : List (List UInt8)} {res : List UInt8} {s s1 : Stk} {hs : List Nat}
theorem drop_of {α : Type} {l : List α} {i : Nat} {x : α} (h : l[i]? = some x) : l.drop i = x :: l.drop (i + 1) := by
  obtain ⟨h1, h2⟩ := List.getElem?_eq_some_iff.1 h
  rw [List.drop_eq_getElem_cons h1, h2]
def labI (x : InstrD) : List UInt8 := if x.Code = 3 then [] else resI x
abbrev tk4 (x : InstrD) (s : Stk) (o : Option Stk) : Prop := (x.Code = 4 → o = tksS s [127]) ∧ (x.Code ≠ 4 → o = some s)
theorem tk4_eq {o : Option Stk} (h : tk4 x s o) [Decidable (x.Code = 4)] : (if x.Code = 4 then tksS s [127] else some s) = o := by
  by_cases h4 : x.Code = 4
  · rw [if_pos h4, h.1 h4]
  · rw [if_neg h4, h.2 h4]
theorem labI_eq [Decidable (x.Code = 3)] : (if x.Code = 3 then [] else resI x) = labI x := by
  unfold labI; by_cases h : x.Code = 3
  · rw [if_pos h, if_pos h]
  · rw [if_neg h, if_neg h]
theorem resI_le (x : InstrD) : (resI x).length ≤ 1 := by unfold resI; split <;> simp
theorem labI_le (x : InstrD) : (labI x).length ≤ 1 := by
  unfold labI; split
  · simp
  · exact resI_le x
theorem nbD_end (hx : l[i]? = some x) (h : x.Code = 11 ∨ x.Code = 5) (hc : ∃ s', tksS s res = some s' ∧ s'.1 = []) : nbD v (l.drop i) labs res s base = some ([base + s.1.length], l.drop i) := by
  rw [drop_of hx]; exact nbk_end h hc
theorem nbD_end_no (hx : l[i]? = some x) (h : x.Code = 11 ∨ x.Code = 5) (hc : ¬ ∃ s', tksS s res = some s' ∧ s'.1 = []) : nbD v (l.drop i) labs res s base = none := by
  rw [drop_of hx]; exact nbk_end_no h hc
theorem nbD_plain (hx : l[i]? = some x) (h1 : ¬ (x.Code = 11 ∨ x.Code = 5)) (h2 : ¬ opensC x.Code) : nbD v (l.drop i) labs res s base = (plS v x s labs).bind fun s1 => (nbD v (l.drop (i + 1)) labs res s1 base).map fun p => ((base + s.1.length) :: p.1, p.2) := by
  rw [drop_of hx]; exact nbk_plain h1 h2
def runB (v : EnvD) (l : List InstrD) (labs : List (List UInt8)) (res : List UInt8) (base d : Nat) (at0 : Nat) (s0 : Stk) (i : Nat) (s : Stk) (pre : List Nat) : Prop :=
  okBl (fun x : InstrD => x.Code) (l.drop i) d ∧ nbD v (l.drop at0) labs res s0 base = (nbD v (l.drop i) labs res s base).map fun p => (pre ++ p.1, p.2)
theorem runB.refl (h : okBl (fun x : InstrD => x.Code) (l.drop at0) d) : runB v l labs res base d at0 s at0 s [] := ⟨h, by simp⟩
theorem runB.trans {a : Nat} {s0 : Stk} {pre p2 : List Nat} {k : Nat} {s2 : Stk} (h : runB v l labs res base d a s0 i s pre) (h2 : runB v l labs res base d i s k s2 p2) : runB v l labs res base d a s0 k s2 (pre ++ p2) :=
  ⟨h2.1, by rw [h.2, h2.2, Option.map_map]; congr 1; funext p; simp⟩
theorem runB.plain {s2 : Stk} (hok : okBl (fun x : InstrD => x.Code) (l.drop i) d) (hx : l[i]? = some x) (h1 : ¬ (x.Code = 11 ∨ x.Code = 5)) (h2 : ¬ opensC x.Code) (hp : plS v x s labs = some s2) : runB v l labs res base d i s (i + 1) s2 [base + s.1.length] :=
  ⟨okBl_plain (by rw [← drop_of hx]; exact hok) h1 h2, by rw [nbD_plain hx h1 h2, hp]; rfl⟩
theorem runB.none {a : Nat} {s0 : Stk} {pre : List Nat} (h : runB v l labs res base d a s0 i s pre) (hn : nbD v (l.drop i) labs res s base = Option.none) : nbD v (l.drop a) labs res s0 base = Option.none := by rw [h.2, hn]; rfl
theorem nbD_plain_no (hx : l[i]? = some x) (h1 : ¬ (x.Code = 11 ∨ x.Code = 5)) (h2 : ¬ opensC x.Code) (hp : plS v x s labs = none) : nbD v (l.drop i) labs res s base = none := by rw [nbD_plain hx h1 h2, hp]; rfl
noncomputable abbrev inD (v : EnvD) (l : List InstrD) (labs : List (List UInt8)) (x : InstrD) (base : Nat) (s1 : Stk) (k : Nat) := nbD v (l.drop k) (labs ++ [labI x]) (resI x) ([], False) (base + s1.1.length)
theorem nbD_open (hx : l[i]? = some x) (h2 : opensC x.Code) : nbD v (l.drop i) labs res s base = ((if x.Code = 4 then tksS s [127] else some s).bind fun s1 =>
      (inD v l labs x base s1 (i + 1)).bind fun p =>
      match p.2 with
      | [] => none
      | x2 :: r2 =>
        if x2.Code = 5 then
          (nbD v r2 (labs ++ [labI x]) (resI x) ([], False) (base + s1.1.length)).bind fun p2 =>
          match p2.2 with
          | [] => none
          | _ :: r3 => (nbD v r3 labs res (giveS s1 (resI x)) base).map fun p3 => ((base + s.1.length) :: p.1 ++ p2.1 ++ p3.1, p3.2)
        else if x.Code = 4 ∧ resI x ≠ [] then none
        else (nbD v r2 labs res (giveS s1 (resI x)) base).map fun p3 => ((base + s.1.length) :: p.1 ++ p3.1, p3.2)) := by
  rw [drop_of hx, nbD, nbk_open (by unfold opensC at h2; omega) h2]
  simp only [labI_eq]
  refine Option.bind_congr fun s1 _ => ?_
  unfold inD
  refine Option.bind_congr fun p _ => ?_
  obtain ⟨ha, la⟩ := p
  cases la with
  | nil => rfl
  | cons x2 r2 =>
    dsimp only
    by_cases h5 : x2.Code = 5
    · rw [if_pos h5, if_pos h5]
      refine Option.bind_congr fun p2 _ => ?_
      obtain ⟨hb, lb⟩ := p2
      cases lb <;> rfl
    · rw [if_neg h5, if_neg h5]
theorem nbD_open_no1 (hx : l[i]? = some x) (h2 : opensC x.Code) (h : tk4 x s none) : nbD v (l.drop i) labs res s base = none := by
  rw [nbD_open hx h2, tk4_eq h]; rfl
theorem nbD_open_no2 (hx : l[i]? = some x) (h2 : opensC x.Code) (h : tk4 x s (some s1)) (hi : inD v l labs x base s1 (i + 1) = none) : nbD v (l.drop i) labs res s base = none := by
  rw [nbD_open hx h2, tk4_eq h, Option.bind_some, hi]; rfl
theorem nbD_open_one {k : Nat} {h1 : List Nat} {x2 : InstrD} (hok : okBl (fun x : InstrD => x.Code) (l.drop i) d) (hx : l[i]? = some x) (h2 : opensC x.Code) (h : tk4 x s (some s1)) (hi : inD v l labs x base s1 (i + 1) = some (h1, l.drop k)) (hx2 : l[k]? = some x2) (h5 : ¬ x2.Code = 5) (h4 : ¬ (x.Code = 4 ∧ resI x ≠ [])) :
    runB v l labs res base d i s (k + 1) (giveS s1 (resI x)) ((base + s.1.length) :: h1) := by
  rw [drop_of hx] at hok
  rw [drop_of hx2] at hi
  refine ⟨((okBl_after hok h2 hi).resolve_right (fun h => h5 h.1)).2, ?_⟩
  rw [nbD_open hx h2, tk4_eq h, Option.bind_some, hi, Option.bind_some]
  simp only
  rw [if_neg h5, if_neg h4]
theorem nbD_open_bad {k : Nat} {h1 : List Nat} {x2 : InstrD} (hx : l[i]? = some x) (h2 : opensC x.Code) (h : tk4 x s (some s1)) (hi : inD v l labs x base s1 (i + 1) = some (h1, l.drop k)) (hx2 : l[k]? = some x2) (h5 : ¬ x2.Code = 5) (h4 : x.Code = 4 ∧ resI x ≠ []) :
    nbD v (l.drop i) labs res s base = none := by
  rw [drop_of hx2] at hi
  rw [nbD_open hx h2, tk4_eq h, Option.bind_some, hi, Option.bind_some]
  simp only
  rw [if_neg h5, if_pos h4]
theorem nbD_open_no3 {k : Nat} {h1 : List Nat} {x2 : InstrD} (hx : l[i]? = some x) (h2 : opensC x.Code) (h : tk4 x s (some s1)) (hi : inD v l labs x base s1 (i + 1) = some (h1, l.drop k)) (hx2 : l[k]? = some x2) (h5 : x2.Code = 5) (hi2 : inD v l labs x base s1 (k + 1) = none) :
    nbD v (l.drop i) labs res s base = none := by
  rw [drop_of hx2] at hi
  rw [nbD_open hx h2, tk4_eq h, Option.bind_some, hi, Option.bind_some]
  simp only
  rw [if_pos h5, show nbD v (l.drop (k + 1)) (labs ++ [labI x]) (resI x) ([], False) (base + s1.1.length) = none from hi2]; rfl
theorem nbD_open_two {k k2 : Nat} {h1 h3 : List Nat} {x2 x3 : InstrD} (hok : okBl (fun x : InstrD => x.Code) (l.drop i) d) (hx : l[i]? = some x) (h2 : opensC x.Code) (h : tk4 x s (some s1)) (hi : inD v l labs x base s1 (i + 1) = some (h1, l.drop k)) (hx2 : l[k]? = some x2) (h5 : x2.Code = 5) (hi2 : inD v l labs x base s1 (k + 1) = some (h3, l.drop k2)) (hx3 : l[k2]? = some x3) :
    runB v l labs res base d i s (k2 + 1) (giveS s1 (resI x)) ((base + s.1.length) :: (h1 ++ h3)) := by
  rw [drop_of hx] at hok
  rw [drop_of hx2] at hi
  rw [drop_of hx3] at hi2
  obtain ⟨_, _, _, hb⟩ := (okBl_after hok h2 hi).resolve_left (fun h => by omega)
  obtain ⟨x3', r3, e, _, _, hb2⟩ := hb _ _ _ _ _ _ hi2
  cases e
  refine ⟨hb2, ?_⟩
  rw [nbD_open hx h2, tk4_eq h, Option.bind_some, hi, Option.bind_some]
  simp only
  rw [if_pos h5, show nbD v (l.drop (k + 1)) (labs ++ [labI x]) (resI x) ([], False) (base + s1.1.length) = _ from hi2, Option.bind_some]
  simp only
  first | done | (congr 1; done) | (congr 1; funext p; simp)
def dbR (v : EnvD) (l : List InstrD) (at0 : Nat) (labs : List (List UInt8)) (res : List UInt8) (base : Nat) (hs : List Nat) (g : Int × Int × SB × List Nat) : Prop :=
  (g.2.1 = 0 ∧ ∃ (h1 : List Nat) (k : Nat), g.1 = (k : Int) ∧ at0 ≤ k ∧ k ≤ l.length ∧ g.2.2.2.length ≤ k + 1 ∧ nbD v (l.drop at0) labs res ([], False) base = some (h1, l.drop k) ∧ g.2.2.2 = hs ++ h1) ∨ (g.2.1 ≠ 0 ∧ nbD v (l.drop at0) labs res ([], False) base = none)
theorem okD_in (hok : okBl (fun x : InstrD => x.Code) (l.drop i) d) (hx : l[i]? = some x) (h2 : opensC x.Code) : okBl (fun x : InstrD => x.Code) (l.drop (i + 1)) (d + 1) ∧ ¬ 64 ≤ d := okBl_in (by rw [← drop_of hx]; exact hok) h2
theorem okD_at {k : Nat} {hs1 : List Nat} {labs' : List (List UInt8)} {res' : List UInt8} {st' : Stk} {b' : Nat} (hok : okBl (fun x : InstrD => x.Code) (l.drop i) d) (hb : nbD v (l.drop i) labs' res' st' b' = some (hs1, l.drop k)) : ∃ x2, l[k]? = some x2 := by
  obtain ⟨x2, r2, h1, h2⟩ := okBl_ne (labs' := labs') hok hb
  have : k < l.length := Classical.byContradiction fun h => by rw [List.drop_eq_nil_of_le (by omega)] at h1; cases h1
  exact getElem?_lt this
theorem okD_else {k : Nat} {h1 : List Nat} {x2 : InstrD} (hok : okBl (fun x : InstrD => x.Code) (l.drop i) d) (hx : l[i]? = some x) (h2 : opensC x.Code) (hi : inD v l labs x base s1 (i + 1) = some (h1, l.drop k)) (hx2 : l[k]? = some x2) (h5 : x2.Code = 5) : okBl (fun x : InstrD => x.Code) (l.drop (k + 1)) (d + 1) := by
  rw [drop_of hx] at hok
  rw [drop_of hx2] at hi
  exact ((okBl_after hok h2 hi).resolve_left (fun h => by omega)).2.2.1
theorem runB.fin {a : Nat} {s0 : Stk} {pre h1 : List Nat} {r : List InstrD} (h : runB v l labs res base d a s0 i s pre) (he : nbD v (l.drop i) labs res s base = some (h1, r)) : nbD v (l.drop a) labs res s0 base = some (pre ++ h1, r) := by rw [h.2, he]; rfl
theorem runB.fin_nil {a : Nat} {s0 : Stk} {pre : List Nat} (h : runB v l labs res base d a s0 i s pre) (hi : l.length ≤ i) : nbD v (l.drop a) labs res s0 base = some (pre, l.drop i) := by
  have e : l.drop i = [] := List.drop_eq_nil_of_le hi
  have := h.fin (h1 := []) (r := []) (by rw [e]; rfl)
  rw [this, e, List.append_nil]
theorem cls_yes {g : Stk × Int} (h : tkP s res g) (c : g.2 = 0 ∧ (g.1.1.length : Int) > 0) : (5 : Int) = 0 ↔ ∃ s', tksS s res = some s' ∧ s'.1 = [] :=
  ⟨fun h => by simp at h, fun ⟨s', h1, h2⟩ => by
    rw [h.ok c.1] at h1; cases h1; have := c.2; rw [h2] at this; simp at this⟩
theorem cls_no {g : Stk × Int} (h : tkP s res g) (c : ¬ (g.2 = 0 ∧ (g.1.1.length : Int) > 0)) : g.2 = 0 ↔ ∃ s', tksS s res = some s' ∧ s'.1 = [] :=
  ⟨fun h0 => ⟨g.1, h.ok h0, List.eq_nil_of_length_eq_zero (Classical.byContradiction fun h9 => c ⟨h0, by omega⟩)⟩, fun ⟨s', h1, h2⟩ => Classical.byContradiction fun h0 => by
    rw [h.no h0] at h1; cases h1⟩
structure BlkOk (v : EnvD) (l : List InstrD) : Prop where
  env : EnvOkD v
  ins : ∀ x ∈ l, InsOk x
  len : l.length ≤ 2000
end
end Go.Hl
end
section
namespace Go.Proofs.YtmmdlhjcmlekfaaGreatDoor
open Go.Hl Go.RowKit
theorem dblk_spec {v : EnvD} {n : Nat} {l : List InstrD} {at0 d base : Nat} {labs : List (List UInt8)} {res : List UInt8} {gs : SB} {hs : List Nat} (hp0 : l.length - at0 < n) (hp1 : BlkOk v l) (hp2 : at0 ≤ l.length) (hp3 : base ≤ 20 * at0) (hp4 : hs.length ≤ at0) (hp5 : d ≤ 64) (hp6 : labs.length ≤ d + 1) (hp7 : ∀ w ∈ labs, w.length ≤ 20) (hp8 : res.length ≤ 20) (hp9 : okBl (fun x : InstrD => x.Code) (l.drop at0) d) : FnE Tryz.prog 79 [aggV (encEnv v), sliceV 5 encInstr (l), aggV [intV .i64 (at0 : Int), intV .i64 0, exactV (sval gs hs.length)], intV .i64 ((base : Int)), sliceV 1 encU8 (res), sliceV 1 encSlT labs] [sliceH gs 1 encNt hs] (γ := Int × Int × SB × List Nat) (dbR v l at0 labs res base hs) (fun g => [sliceH g.2.2.1 1 encNt g.2.2.2]) (fun g => aggV [intV .i64 g.1, intV .i64 g.2.1, exactV (sval g.2.2.1 g.2.2.2.length)]) := by
 induction n generalizing at0 d base labs res gs hs
 case zero => omega
 rename_i n ih
 refine In 188 Tryz.func79 fun _ _ _ => ?_
 have hll := hp1.len
 refine Z3 ?_
 refine .n (opBoxOA (.t rfl)) rfl fun b8 _ => ?_
 refine .n (opAlloc Tryz.zb79) rfl fun b12 _ => ?_
 refine Z6 ?_
 refine .n (opAlloc Tryz.zb193) rfl fun b13 _ => ?_
 refine Z3 ?_
 refine .own (OLe.cellsY (cs' := encStk ([], False) (base : Int)) (.cons (sliceV_nil 1 encU8) (.cons falseV (.cons (.refl _) .nil)))) ?_
 refine Z2 ?_
 refine .loopO (σ := Nat × SB × List Nat × Stk) (fun z => [cellsH b13 (encStk z.2.2.2 (base : Int)), cellsH b12 (List.map exactV [.int .i64 0, .int .i64 0, .slice none 0 0]), cellsH b8 [intV .i64 (z.1 : Int), intV .i64 0, exactV (sval z.2.1 (z.2.2.1).length)], sliceH z.2.1 1 encNt (z.2.2.1)]) (fun z => []) (fun z => at0 ≤ z.1 ∧ z.1 ≤ l.length ∧ base + z.2.2.2.1.length ≤ 20 * z.1 ∧ z.2.2.1.length ≤ z.1 ∧ ∃ pre, z.2.2.1 = hs ++ pre ∧ runB v l labs res base d at0 ([], False) z.1 z.2.2.2 pre) (fun z => l.length - z.1) (at0, gs, hs, ([], False)) ⟨Nat.le_refl _, hp2, by simpa using hp3, hp4, [], by simp, runB.refl hp9⟩ rfl ?_ ?_
 · exact (.refl _ _)
 rintro ⟨i, gh, hh, s⟩ ⟨hai, hil, hbs, hhl, pre, hpr, hrun⟩
 simp only at hai hil hbs hhl hpr hrun ⊢
 refine Z10 ?_
 refine Cd (fun c0 => ?_) fun c0 => ?_
 ·
  obtain ⟨x, hx⟩ := getElem?_lt (xs := l) (k := i) (by omega)
  have hix := hp1.ins x (List.mem_of_getElem? hx)
  refine Z8 ?_
  refine .p (cI i (h := hx)) rfl ?_
  refine Z1 ?_
  refine .n (opAlloc Tryz.zb150) rfl fun b14 _ => ?_
  refine Z3 ?_
  refine .share (t := 14) (i := 0) rfl rfl ?_
  refine Z9 ?_
  refine .p ((opAddF (.t rfl) (.t rfl) fits_z).le (VLe.int (show (base : Int) + (s.1.length : Int) = ((base + s.1.length : Nat) : Int) by omega))) rfl ?_
  refine .p (cB encNt [base + s.1.length]) rfl ?_
  refine .n (opAppend (i := 3) Tryz.underlying53 Tryz.underlying53 Tryz.cz3 rfl Tryz.zb3 rfl Tryz.by3 (.t rfl) (.t rfl) rfl (by simp only [List.length_cons, List.length_nil]; omega) (by simp only [List.length_cons, List.length_nil]; omega)) rfl fun g40 _ => ?_
  refine Z22 ?_
  refine Cd (fun c1 => ?_) fun c1 => ?_
  ·
   refine Z4 ?_
   refine .n (cE (h := dtakes_spec (s := s) (l := res) (by omega))) rfl fun g53 h53 => ?_
   refine Z7 ?_
   refine .cut (σ := Int) (fun _ => [cellsH b13 (encStk g53.1 (base : Int)), cellsH b12 (List.map exactV [.int .i64 0, .int .i64 0, .slice none 0 0]), cellsH b8 [intV .i64 (i : Int), intV .i64 0, exactV (sval g40 (hh ++ [base + s.1.length]).length)], sliceH g40 1 encNt (hh ++ [base + s.1.length])]) (fun e => [(15, intV .i64 e)]) (fun e => e = 0 ↔ ∃ s', tksS s res = some s' ∧ s'.1 = []) ?_ ?_
   ·
    refine Z12 ?_
    refine Cd (fun c2 => ?_) fun c2 => ?_
    ·
     refine Z3 ?_
     refine .meet 5 (cls_yes h53 c2) rfl (.get rfl (VLe.refl _) (.keep 9 rfl rfl))
    refine Z1 ?_
    refine .meet g53.2 (cls_no h53 c2) rfl (.get rfl (VLe.refl _) (.keep 8 rfl rfl))
   intro e he
   refine Z19 ?_
   refine Post.retR1 rfl (((i : Int), e, g40, hh ++ [base + s.1.length])) (by by_cases he0 : e = 0; exact .inl ⟨he0, pre ++ [base + s.1.length], i, rfl, hai, hil, by (show (hh ++ [base + s.1.length]).length ≤ i + 1; rw [List.length_append]; simp only [List.length_cons, List.length_nil]; omega), hrun.fin (nbD_end hx c1 (he.1 he0)), by (show hh ++ [base + s.1.length] = _; rw [hpr, List.append_assoc])⟩; exact .inr ⟨he0, hrun.none (nbD_end_no hx c1 (fun h => he0 (he.2 h)))⟩) (OLe.sel [3] [0, 1, 2] rfl rfl) (.ra (i := 1) Tryz.ag79 Tryz.cz79 rfl rfl rfl rfl) ?_
   exact VLe.refl _
  refine Z15 ?_
  refine Cd (fun c3 => ?_) fun c3 => ?_
  ·
   refine Z6 ?_
   refine .n (cE (h := dplain_spec (labs := labs) ⟨hp1.env, hix, by omega, by omega, hp7⟩ (by omega))) rfl fun g80 h80 => ?_
   refine Z14 ?_
   refine Cd (fun c4 => ?_) fun c4 => ?_
   ·
    have hno : plS v x s labs = none := h80.1.elim (fun h => absurd h.1 c4) (fun h => h.2)
    refine Z20 ?_
    refine Post.retR1 rfl (((i : Int), g80.2, g40, hh ++ [base + s.1.length])) (by exact .inr ⟨c4, hrun.none (nbD_plain_no hx c1 (by unfold opensC; omega) hno)⟩) (OLe.sel [3] [0, 1, 2] rfl rfl) (.ra (i := 1) Tryz.ag79 Tryz.cz79 rfl rfl rfl rfl) ?_
    exact VLe.refl _
   have hpl : plS v x s labs = some g80.1 := h80.1.elim (fun h => h.2) (fun h => absurd h.1 c4)
   refine Z6 ?_
   refine .p ((opAddF (.t rfl) (.c _) fits_z).le (VLe.int (show (i : Int) + 1 = ((i + 1 : Nat) : Int) by omega))) rfl ?_
   refine Z7 ?_
   refine .round (i + 1, g40, hh ++ [base + s.1.length], g80.1) ⟨by show at0 ≤ i + 1; omega, by show i + 1 ≤ _; omega, by (show base + g80.1.1.length ≤ 20 * (i + 1); have := h80.2; omega), by (show (hh ++ [base + s.1.length]).length ≤ i + 1; rw [List.length_append]; simp only [List.length_cons, List.length_nil]; omega), pre ++ [base + s.1.length], by (show hh ++ [base + s.1.length] = _; rw [hpr, List.append_assoc]), hrun.trans (runB.plain hrun.1 hx c1 (by unfold opensC; omega) hpl)⟩ (by show l.length - (i + 1) < l.length - i; omega) rfl ?_
   exact ((.keep 55 rfl rfl))
  have hop : opensC x.Code := by unfold opensC; omega
  have hin := okD_in hrun.1 hx hop
  have hlw : ∀ w ∈ labs ++ [labI x], w.length ≤ 20 := fun w hw => by (rcases List.mem_append.1 hw with h | h; exact hp7 w h; (simp only [List.mem_singleton] at h; subst h; have := labI_le x; omega))
  refine Z2 ?_
  refine .cut (σ := Stk) (fun s1 => [cellsH b13 (encStk s1 (base : Int)), cellsH b12 (List.map exactV [.int .i64 0, .int .i64 0, .slice none 0 0]), cellsH b8 [intV .i64 (i : Int), intV .i64 0, exactV (sval g40 (hh ++ [base + s.1.length]).length)], sliceH g40 1 encNt (hh ++ [base + s.1.length])]) (fun s1 => [(15, anyV)]) (fun s1 => tk4 x s (some s1) ∧ s1.1.length ≤ s.1.length) ?_ ?_
  ·
   refine Z7 ?_
   refine Cd (fun c5 => ?_) fun c5 => ?_
   ·
    refine Z3 ?_
    refine .p (cB encU8 [127]) rfl ?_
    refine .n (cE (h := dtakes_spec (s := s) (l := [127]) (by omega))) rfl fun g98 h98 => ?_
    refine Z13 ?_
    refine Cd (fun c6 => ?_) fun c6 => ?_
    ·
     refine Z19 ?_
     refine Post.retR1 rfl (((i : Int), g98.2, g40, hh ++ [base + s.1.length])) (by exact .inr ⟨c6, hrun.none (nbD_open_no1 hx hop ⟨fun _ => (h98.no c6).symm, fun h => absurd c5 h⟩)⟩) (OLe.sel [3] [0, 1, 2] rfl rfl) (.ra (i := 1) Tryz.ag79 Tryz.cz79 rfl rfl rfl rfl) ?_
     exact VLe.refl _
    refine Z1 ?_
    refine .meet g98.1 ⟨⟨fun _ => (h98.ok (Classical.not_not.1 c6)).symm, fun h => absurd c5 h⟩, h98.2⟩ rfl (.get rfl VLe.any (.keep 12 rfl rfl))
   refine Z1 ?_
   refine .meet s ⟨⟨fun h => absurd h c5, fun _ => rfl⟩, Nat.le_refl _⟩ rfl (.get rfl VLe.any (.keep 3 rfl rfl))
  intro s1 ⟨ht4, hs1l⟩
  refine Z6 ?_
  refine .cut (σ := Unit) (fun _ => [cellsH b13 (encStk s1 (base : Int)), cellsH b12 (List.map exactV [.int .i64 0, .int .i64 0, .slice none 0 0]), cellsH b8 [intV .i64 (i : Int), intV .i64 0, exactV (sval g40 (hh ++ [base + s.1.length]).length)], sliceH g40 1 encNt (hh ++ [base + s.1.length])]) (fun _ => [(16, sliceV 1 encU8 (resI x))]) (fun _ => True) ?_ ?_
  ·
   refine Z7 ?_
   refine Cd (fun c7 => ?_) fun c7 => ?_
   ·
    refine Z3 ?_
    refine .p ((opConv Tryz.underlying58 Tryz.underlying5 (.t rfl)).le (VLe.int (u8_wrap hix.A0))) rfl ?_
    refine .p (cB encU8 [UInt8.ofNat x.A.toNat]) rfl ?_
    refine Z2 ?_
    refine .meet () trivial rfl (.get rfl (VLe.of_eq (by rw [show resI x = [UInt8.ofNat x.A.toNat] from if_neg c7])) (.keep 8 rfl rfl))
   refine Z1 ?_
   refine .meet () trivial rfl (.get rfl ((show resI x = [] from if_pos (Classical.not_not.1 c7)) ▸ sliceV_nil 1 encU8) (.keep 3 rfl rfl))
  intro _ _
  refine .cut (σ := Unit) (fun _ => [cellsH b13 (encStk s1 (base : Int)), cellsH b12 (List.map exactV [.int .i64 0, .int .i64 0, .slice none 0 0]), cellsH b8 [intV .i64 (i : Int), intV .i64 0, exactV (sval g40 (hh ++ [base + s.1.length]).length)], sliceH g40 1 encNt (hh ++ [base + s.1.length])]) (fun _ => [(17, sliceV 1 encU8 (labI x))]) (fun _ => True) ?_ ?_
  ·
   refine Z7 ?_
   refine Cd (fun c8 => ?_) fun c8 => ?_
   ·
    refine Z4 ?_
    refine .meet () trivial rfl (.get rfl (VLe.of_eq (by rw [show labI x = resI x from if_neg c8])) (.keep 5 rfl rfl))
   refine Z1 ?_
   refine .meet () trivial rfl (.get rfl ((show labI x = [] from if_pos (Classical.not_not.1 c8)) ▸ sliceV_nil 1 encU8) (.keep 3 rfl rfl))
  intro _ _
  refine Z2 ?_
  refine .n (opBuildSliceO encSlT ([] : List (List UInt8)) Tryz.underlying162 Tryz.cz64 rfl Tryz.zb64 rfl .nil rfl rfl rfl rfl rfl) rfl fun g117 _ => ?_
  refine Z1 ?_
  refine .n (opAppend (i := 0) Tryz.underlying162 Tryz.underlying162 Tryz.cz64 rfl Tryz.zb64 rfl Tryz.by64 (.t rfl) (.t rfl) rfl (by simp <;> omega) (by simp <;> omega)) rfl fun g119 _ => ?_
  refine Z1 ?_
  refine .p (cB encSlT [labI x]) rfl ?_
  refine .n (OpE.shareS (G := fun g => g) (hs1 := fun _ => _) (xs := fun _ => _) (opAppend (i := 0) Tryz.underlying162 Tryz.underlying162 Tryz.cz64 rfl Tryz.zb64 rfl Tryz.by64 (.t rfl) (.t rfl) rfl (by simp <;> omega) (by simp <;> omega))) rfl fun _ _ => ?_
  refine Z7 ?_
  refine .p ((opAddF (.t rfl) (.c _) fits_z).le (VLe.int (show (i : Int) + 1 = ((i + 1 : Nat) : Int) by omega))) rfl ?_
  refine Z14 ?_
  refine .p ((opAddF (.t rfl) (.t rfl) fits_z).le (VLe.int (show (base : Int) + (s1.1.length : Int) = ((base + s1.1.length : Nat) : Int) by omega))) rfl ?_
  refine Z2 ?_
  refine .n (cEi [_,_,_] [3,0,1,2] (h := @ih (i + 1) (d + 1) (base + s1.1.length) (labs ++ [labI x]) (resI x) g40 (hh ++ [base + s.1.length]) (by omega) (by omega) (by omega) (by rw [List.length_append]; simp only [List.length_cons, List.length_nil]; omega) (by omega) (by simp only [List.length_append, List.length_cons, List.length_nil]; omega) hlw (by have := resI_le x; omega) (hin.1))) rfl fun g138 h138 => ?_
  refine .s (opStoreOA (i := 3) Tryz.cz79 rfl (.t rfl) (.t rfl) rfl rfl rfl) ?_
  refine Z10 ?_
  refine Cd (fun c9 => ?_) fun c9 => ?_
  ·
   unfold dbR at h138
   have hno := (h138.resolve_left (fun h => c9 h.1)).2
   refine Z12 ?_
   refine Post.retR1 rfl (g138) (by exact .inr ⟨c9, hrun.none (nbD_open_no2 hx hop ht4 hno)⟩) (OLe.sel [0] [1, 2, 3] rfl rfl) (.ra (i := 2) Tryz.ag79 Tryz.cz79 rfl rfl rfl rfl) ?_
   exact VLe.refl _
  unfold dbR at h138
  obtain ⟨a138, e138, gs2, hh2⟩ := g138
  obtain ⟨he0, h1, k, hk0, hik, hkl, hhk, hb1, hh1⟩ := h138.resolve_right (fun h => c9 h.1)
  simp only at he0 hk0 hhk hh1
  subst he0
  subst hk0
  obtain ⟨x2, hx2⟩ := okD_at hin.1 hb1
  have hk3 := (List.getElem?_eq_some_iff.1 hx2).1
  refine Z2 ?_
  refine .cut (σ := Nat × SB × List Nat) (fun z => [cellsH b13 (encStk s1 (base : Int)), cellsH b12 (List.map exactV [.int .i64 0, .int .i64 0, .slice none 0 0]), cellsH b8 [intV .i64 (z.1 : Int), intV .i64 0, exactV (sval z.2.1 (z.2.2).length)], sliceH z.2.1 1 encNt (z.2.2)]) (fun z => []) (fun z => i + 1 ≤ z.1 ∧ z.1 < l.length ∧ z.2.2.length ≤ z.1 + 1 ∧ ∃ pp, z.2.2 = (hh ++ [base + s.1.length]) ++ pp ∧ runB v l labs res base d i s (z.1 + 1) (giveS s1 (resI x)) ((base + s.1.length) :: pp)) ?_ ?_
  ·
   refine Z5 ?_
   refine .p (cI k (h := hx2)) rfl ?_
   refine Z5 ?_
   refine Cd (fun c10 => ?_) fun c10 => ?_
   ·
    refine Z4 ?_
    refine .p ((opAddF (.t rfl) (.c _) fits_z).le (VLe.int (show (k : Int) + 1 = ((k + 1 : Nat) : Int) by omega))) rfl ?_
    refine Z1 ?_
    refine .s (opStoreO (i := 3) Tryz.cz3 (.t rfl) (.t rfl) rfl rfl) ?_
    refine Z12 ?_
    refine .p ((opAddF (.t rfl) (.t rfl) fits_z).le (VLe.int (show (base : Int) + (s1.1.length : Int) = ((base + s1.1.length : Nat) : Int) by omega))) rfl ?_
    refine Z2 ?_
    refine .n (cE (h := @ih (k + 1) (d + 1) (base + s1.1.length) (labs ++ [labI x]) (resI x) gs2 (hh2) (by omega) (by omega) (by omega) (by omega) (by omega) (by simp only [List.length_append, List.length_cons, List.length_nil]; omega) hlw (by have := resI_le x; omega) (okD_else hrun.1 hx hop hb1 hx2 c10))) rfl fun g165 h165 => ?_
    refine .s (opStoreOA (i := 3) Tryz.cz79 rfl (.t rfl) (.t rfl) rfl rfl rfl) ?_
    refine Z9 ?_
    refine Cd (fun c11 => ?_) fun c11 => ?_
    ·
     unfold dbR at h165
     have hno := (h165.resolve_left (fun h => c11 h.1)).2
     refine Z12 ?_
     refine Post.retR1 rfl (g165) (by exact .inr ⟨c11, hrun.none (nbD_open_no3 hx hop ht4 hb1 hx2 c10 hno)⟩) (OLe.sel [0] [1, 2, 3] rfl rfl) (.ra (i := 2) Tryz.ag79 Tryz.cz79 rfl rfl rfl rfl) ?_
     exact VLe.refl _
    unfold dbR at h165
    obtain ⟨a165, e165, gs3, hh3⟩ := g165
    obtain ⟨he02, h3, k2, hk02, hik2, hkl2, hhk2, hb3, hh3e⟩ := h165.resolve_right (fun h => c11 h.1)
    simp only at he02 hk02 hhk2 hh3e
    subst he02
    subst hk02
    obtain ⟨x3, hx3⟩ := okD_at (okD_else hrun.1 hx hop hb1 hx2 c10) hb3
    have hk4 := (List.getElem?_eq_some_iff.1 hx3).1
    refine Z1 ?_
    refine .own (OLe.perm (Perm.idx [1, 2, 3, 0] rfl rfl)) (EndT.meet (k2, gs3, hh3) ⟨by show i + 1 ≤ k2; omega, hk4, hhk2, h1 ++ h3, by (show hh3 = _; rw [hh3e, hh1, List.append_assoc]), nbD_open_two hrun.1 hx hop ht4 hb1 hx2 c10 hb3 hx3⟩ rfl (.keep 26 rfl rfl))
   refine Z12 ?_
   refine Cd (fun c12 => ?_) fun c12 => ?_
   ·
    refine Z3 ?_
    refine .s (opStoreO (i := 3) Tryz.cz3 (.t rfl) (.c _) rfl rfl) ?_
    refine Z14 ?_
    refine Post.retR1 rfl (((k : Int), 5, gs2, hh2)) (by exact .inr ⟨by show (5 : Int) ≠ 0; decide, hrun.none (nbD_open_bad hx hop ht4 hb1 hx2 c10 ⟨c12.1, fun h => by have := c12.2; rw [h] at this; simp at this⟩)⟩) (OLe.sel [0] [1, 2, 3] rfl rfl) (.ra (i := 2) Tryz.ag79 Tryz.cz79 rfl rfl rfl rfl) ?_
    exact VLe.refl _
   refine Z1 ?_
   refine .own (OLe.perm (Perm.idx [1, 2, 3, 0] rfl rfl)) (EndT.meet (k, gs2, hh2) ⟨by show i + 1 ≤ k; omega, hk3, hhk, h1, hh1, nbD_open_one hrun.1 hx hop ht4 hb1 hx2 c10 (fun h => c12 ⟨h.1, by have := List.length_pos_iff.2 h.2; omega⟩)⟩ rfl (.keep 15 rfl rfl))
  intro ⟨kz, gz, hz⟩ ⟨hik9, hkz, hzl, pp, hzp, hrz⟩
  simp only at hik9 hkz hzl hzp hrz ⊢
  refine Z4 ?_
  refine .n (cE (h := dgive_spec (s := s1) (l := resI x) (by omega) (by have := resI_le x; omega))) rfl fun g182 h182 => ?_
  refine Z6 ?_
  refine .p ((opAddF (.t rfl) (.c _) fits_z).le (VLe.int (show (kz : Int) + 1 = ((kz + 1 : Nat) : Int) by omega))) rfl ?_
  refine Z4 ?_
  refine .round (kz + 1, gz, hz, giveS s1 (resI x)) ⟨by show at0 ≤ kz + 1; omega, by show kz + 1 ≤ _; omega, by (show base + (s1.1 ++ resI x).length ≤ 20 * (kz + 1); rw [List.length_append]; have := resI_le x; omega), hzl, _, by (show hz = hs ++ _; rw [hzp, hpr, List.append_assoc, List.append_assoc]; rfl), hrun.trans hrz⟩ (by show l.length - (kz + 1) < l.length - i; omega) rfl ?_
  exact ((.keep 78 rfl rfl))
 refine Z12 ?_
 refine Post.retR1 rfl (((i : Int), 0, gh, hh)) (by exact .inl ⟨rfl, pre, i, rfl, hai, hil, by (show hh.length ≤ i + 1; omega), hrun.fin_nil (by omega), hpr⟩) (OLe.sel [3] [0, 1, 2] rfl rfl) (.ra (i := 1) Tryz.ag79 Tryz.cz79 rfl rfl rfl rfl) ?_
 exact VLe.refl _
end Go.Proofs.YtmmdlhjcmlekfaaGreatDoor
end
section
namespace Go.Hl
open Go.RowKit
def envC (m : ModD) (a b c d e p r l : VP) : List VP := [a, b, c, d, e, propV (0 ≤ m.Table), p, r, l]
instance {m : ModD} {a b c d e p r l : VP} [Flat a] [Flat b] [Flat c] [Flat d] [Flat e] [Flat p] [Flat r] [Flat l] : FlatL (envC m a b c d e p r l) := by unfold envC; infer_instance
instance (s : SigD) : FlatL (encSig s) := by unfold encSig; infer_instance
def chkR (v : EnvD) (b : BodyD) (g : Int × Int × List Nat) : Prop :=
  (g.2.1 = 0 ∧ ∃ rest, nbD v b.L [v.Own.R] v.Own.R ([], False) 0 = some (g.2.2, rest)) ∨ (g.2.1 ≠ 0 ∧ nbD v b.L [v.Own.R] v.Own.R ([], False) 0 = none ∧ g.2.2 = [])
theorem imp_in {m : ModD} {z : ImportD} (h : importE m z = 0) : InP z.Sig m.Sigs.length := by
  unfold importE at h
  split at h
  · cases h
  · exact Classical.not_not.1 ((whenE_eq (by decide)).1 h)
theorem FitsM.imp {m : ModD} (h : FitsM m) {z : ImportD} (hz : z ∈ m.Imports) : InP z.Sig m.Sigs.length := imp_in (firstE_on.1 (manyE_zero.1 h.imports).2 z hz)
theorem envOk {m : ModD} {f : FuncD} (h : FitsM m) (ho : ModOk m) (hf : f ∈ m.Funcs) : EnvOkD (envD m f) := by
  have hl := h.lens
  have hs := (sigAt_mem (func_sig h hf)).2
  have h1 := ho.loc f hf
  have h2 := h.few _ hs
  have hc := hl.2.2.2.2
  unfold countM at hc
  refine ⟨?_, ?_, ?_, ?_, ?_, ?_, ?_, ?_, ?_⟩
  · simp [envD]; omega
  · simp [envD]; omega
  · simp [envD]; omega
  · simp [envD]; omega
  · simp [envD]; omega
  · simp [envD]
  · intro g hg
    simp only [envD, List.mem_append, List.mem_map] at hg
    rcases hg with ⟨z, hz, rfl⟩ | ⟨z, hz, rfl⟩
    · exact h.few _ (sigAt_mem (h.imp hz)).2
    · exact h.few _ (sigAt_mem (func_sig h hz)).2
  · intro g hg; exact h.few g hg
  · exact h2.2
theorem blkOk {m : ModD} {f : FuncD} (h : FitsM m) (ho : ModOk m) (hf : f ∈ m.Funcs) (he : encBd f.Body) : BlkOk (envD m f) f.Body.L := ⟨envOk h ho hf, fun x hx => .of (ho.ins f hf x hx) (he.1 x hx), ho.len f hf⟩
theorem encBd_ok {f : FuncD} (h : encBd f.Body) : okBl (fun x : InstrD => x.Code) f.Body.L 0 := ⟨[11], (nrun_rblk (by simp)).1 h.2.2.2.1, by simp⟩
theorem chk_heights {m : ModD} {f : FuncD} (he : encBd f.Body) {g : Int × Int × List Nat} (h : chkR (envD m f) f.Body g) : (g.2.1 = 0 ∧ heightsF m f = some g.2.2) ∨ (g.2.1 ≠ 0 ∧ ¬ typedF m f ∧ g.2.2 = []) := by
  have hd := heightsF_doc (m := m) (f := f) (k := f.Body.L.length + 1) he (by omega)
  have hd2 : heightsF m f = (nbD (envD m f) f.Body.L [(envD m f).Own.R] (envD m f).Own.R ([], False) 0).map Prod.fst := hd
  rcases h with ⟨h1, rest, h2⟩ | ⟨h1, h2, h3⟩
  · exact .inl ⟨h1, by rw [hd2, h2]; rfl⟩
  · exact .inr ⟨h1, fun ⟨_, hs, hh⟩ => (by rw [hd2, h2] at hh; cases hh), h3⟩
def chkE (m : ModD) (f : FuncD) (g : Int × Int × List Nat) : Prop := (g.2.1 = 0 ∧ FitsM m ∧ encBd f.Body ∧ heightsF m f = some g.2.2) ∨ (g.2.1 ≠ 0 ∧ ¬ (FitsM m ∧ typedF m f))
theorem chkE.iff {m : ModD} {f : FuncD} {g : Int × Int × List Nat} (h : chkE m f g) : g.2.1 = 0 ↔ FitsM m ∧ typedF m f := by
  rcases h with ⟨h1, h2, h3, h4⟩ | ⟨h1, h2⟩
  · exact ⟨fun _ => ⟨h2, h3, _, h4⟩, fun _ => h1⟩
  · exact ⟨fun h => absurd h h1, fun h => absurd h h2⟩
end Go.Hl
end
section
namespace Go.Proofs.YtmmdlhjcmlekfaaGreatDoor
open Go.Hl Go.RowKit
theorem dcheck_spec {v : EnvD} {b : BodyD} (hp0 : BlkOk v b.L) (hp1 : okBl (fun x : InstrD => x.Code) b.L 0) : FnE Tryz.prog 55 [aggV (encEnv v), aggV (encBody b)] [] (γ := Int × Int × List Nat) (chkR v b) (fun _ => []) (fun g => aggV [intV .i64 g.1, intV .i64 g.2.1, sliceV 1 encNt g.2.2]) := by
 refine In 24 Tryz.func55 fun _ _ _ => ?_
 refine Z4 ?_
 refine .n (opAlloc Tryz.zb79) rfl fun b4 _ => ?_
 refine Z3 ?_
 refine .ownNil 1 encNt ?_
 refine Z11 ?_
 refine .p (cB encSlT [v.Own.R]) rfl ?_
 refine .n (cE (h := dblk_spec (n := b.L.length + 1) (at0 := 0) (d := 0) (base := 0) (labs := [v.Own.R]) (res := v.Own.R) (gs := none) (hs := []) (by omega) hp0 (Nat.zero_le _) (Nat.le_refl _) (Nat.le_refl _) (by omega) (by simp) (by simpa using hp0.env.own) hp0.env.own hp1)) rfl fun g17 h17 => ?_
 refine .n (opAlloc Tryz.zb79) rfl fun b5 _ => ?_
 refine Z11 ?_
 refine Cd (fun c0 => ?_) fun c0 => ?_
 ·
  unfold dbR at h17
  obtain ⟨h0, h1, k, _, _, _, _, hb, hh⟩ := h17.resolve_right (fun h => h.1 c0)
  simp only [List.nil_append] at hh
  refine Z5 ?_
  refine .shareIn (i := 1) (j := 0) (f := 2) rfl rfl rfl ?_
  refine Z7 ?_
  refine Post.retR1 rfl ((0, g17.2.1, g17.2.2.2)) (by exact .inl ⟨h0, _, by (show nbD v b.L [v.Own.R] v.Own.R ([], False) 0 = some (g17.2.2.2, _); rw [hh]; exact hb)⟩) (OLe.sel [] [0, 1] rfl rfl) (.ra (i := 1) Tryz.ag79 Tryz.cz79 rfl rfl rfl rfl) ?_
  exact VLe.refl _
 unfold dbR at h17
 have hno := (h17.resolve_left (fun h => c0 h.1)).2
 refine Z12 ?_
 refine Post.retR1 rfl ((g17.1, g17.2.1, [])) (by exact .inr ⟨c0, hno, rfl⟩) (OLe.sel [] [0, 1, 2] rfl rfl) (.ra (i := 2) Tryz.ag79 Tryz.cz79 rfl rfl rfl rfl) ?_
 exact VLe.agg (.cons (VLe.refl _) (.cons (VLe.refl _) (.cons (sliceV_nil 1 encNt) .nil)))
theorem denv_spec {m : ModD} {f : FuncD} {i : Nat} (hp0 : FitsM m) (hp1 : ModOk m) (hp2 : m.Funcs[i]? = some f) : FnE Tryz.prog 56 [aggV (encMod m), intV .i64 ((i : Int))] [] (γ := Unit) (fun _ => True) (fun _ => []) (fun _ => aggV (encEnv (envD m f))) := by
 refine In 157 Tryz.func56 fun _ _ _ => ?_
 have hfm : f ∈ m.Funcs := List.mem_of_getElem? hp2
 have hlens := hp0.lens
 have hcn : (m.Imports.length : Int) + (m.Funcs.length : Int) ≤ 100 := hlens.2.2.2.2
 have hfs := sigAt_mem (func_sig hp0 hfm)
 have hfin := func_sig hp0 hfm
 unfold InP at hfin
 have hlo := hp1.loc f hfm
 have hfw := hp0.few _ hfs.2
 refine Z3 ?_
 refine .n (opAlloc Tryz.zb134) rfl fun b4 _ => ?_
 refine Z8 ?_
 refine .n (opAlloc Tryz.zb134) rfl fun b5 _ => ?_
 refine Z10 ?_
 refine .ownNil 2 encSig ?_
 refine .loopO (σ := Nat × SB) (fun s => [sliceH s.2 2 encSig (m.Sigs.take s.1), cellsH b5 (envC m (exactV (.slice none 0 0)) (exactV (sval s.2 (m.Sigs.take s.1).length)) (exactV (.slice none 0 0)) (exactV (.slice none 0 0)) (exactV (.slice none 0 0)) (exactV (.slice none 0 0)) (exactV (.slice none 0 0)) (exactV (.slice none 0 0))), cellsH b4 (List.map exactV [.slice none 0 0, .slice none 0 0, .slice none 0 0, .slice none 0 0, .slice none 0 0, .bool false, .slice none 0 0, .slice none 0 0, .slice none 0 0])]) (fun s => [(6, intV .i64 (s.1 : Int))]) (fun s => s.1 ≤ m.Sigs.length) (fun s => m.Sigs.length - s.1) (0, none) (Nat.zero_le _) rfl ?_ ?_
 · exact (.get rfl (VLe.refl _) (.refl _ _))
 rintro ⟨k0, q0⟩ hk0
 simp only at hk0 ⊢
 refine Z10 ?_
 refine Cd (fun c0 => ?_) fun c0 => ?_
 ·
  obtain ⟨y, hx⟩ := getElem?_lt (xs := m.Sigs) (k := k0) (by omega)
  refine Z4 ?_
  refine .stagedK [(0, 0), (1, 1), (2, 0), (3, 0), (4, 0), (5, 0), (6, 0), (7, 0), (8, 0), (9, 0), (10, 0), (11, 0), (12, 0), (13, 0), (14, 0), (15, 0)] 16 3 FM.out (by kernel_rfl) (k := ?_)
  refine Z5 ?_
  refine .p rfl (fun _ => opIndexAddr (j := k0) Tryz.underlying22 Tryz.cz66 rfl (.t rfl) (.t rfl) rfl hx) ?_
  refine Z5 ?_
  refine .p rfl (fun _ => opIndexAddr (j := k0) Tryz.underlying22 Tryz.cz66 rfl (.t rfl) (.t rfl) rfl hx) ?_
  refine Z3 ?_
  refine .p rfl (fun _ => opBuildSlice (enc := encSig) [y] Tryz.underlying130 Tryz.cz132 rfl Tryz.zb132 rfl (.cons (.t rfl) .nil) rfl rfl rfl rfl rfl) ?_
  refine .fin ?_
  refine .n (opAppend (i := 0) Tryz.underlying130 Tryz.underlying130 Tryz.cz132 rfl Tryz.zb132 rfl Tryz.by132 (.t rfl) (.t rfl) rfl (by simp <;> omega) (by simp <;> omega)) rfl fun g38 _ => ?_
  refine Z10 ?_
  refine .round (k0 + 1, g38) (by show k0 + 1 ≤ _; omega) (by show m.Sigs.length - (k0 + 1) < m.Sigs.length - k0; omega) (by simp only [← take_snoc hx, List.map_append, List.map_cons, List.map_nil, List.append_assoc]; rfl) ?_
  exact (.get rfl (VLe.int (by show (_ : Int) = ((k0 + 1 : Nat) : Int); omega)) ((.keep 27 rfl rfl)))
 have hall0 : m.Sigs.take k0 = m.Sigs := List.take_of_length_le (by omega)
 rw [hall0]
 refine .shareIn (n := 2) (enc := encSig) (i := 0) (j := 0) (f := 1) rfl rfl rfl ?_
 refine Z12 ?_
 refine .ownNil 2 encSig ?_
 refine .loopO (σ := Nat × SB) (fun s => [sliceH s.2 2 encSig ((m.Imports.take s.1).map fun z => sigAt m z.Sig), cellsH b5 (envC m (exactV (sval s.2 (((m.Imports.take s.1).map fun z => sigAt m z.Sig)).length)) (sliceV 2 encSig m.Sigs) (exactV (.slice none 0 0)) (exactV (.slice none 0 0)) (exactV (.slice none 0 0)) (exactV (.slice none 0 0)) (exactV (.slice none 0 0)) (exactV (.slice none 0 0))), cellsH b4 (List.map exactV [.slice none 0 0, .slice none 0 0, .slice none 0 0, .slice none 0 0, .slice none 0 0, .bool false, .slice none 0 0, .slice none 0 0, .slice none 0 0])]) (fun s => [(7, intV .i64 (s.1 : Int))]) (fun s => s.1 ≤ m.Imports.length) (fun s => m.Imports.length - s.1) (0, none) (Nat.zero_le _) rfl ?_ ?_
 · exact (.get rfl (VLe.refl _) (.refl _ _))
 rintro ⟨k1, q1⟩ hk1
 simp only at hk1 ⊢
 refine Z10 ?_
 refine Cd (fun c1 => ?_) fun c1 => ?_
 ·
  obtain ⟨y, hx⟩ := getElem?_lt (xs := m.Imports) (k := k1) (by omega)
  have hyi := hp0.imp (List.mem_of_getElem? hx)
  have hys := (sigAt_mem hyi).1
  unfold InP at hyi
  refine Z4 ?_
  refine .stagedK [(0, 0), (1, 1), (2, 0), (3, 1), (4, 0), (5, 0), (6, 0), (7, 0), (8, 0), (9, 0), (10, 0), (11, 0), (12, 0)] 13 3 FM.out (by kernel_rfl) (k := ?_)
  refine Z7 ?_
  refine .p rfl (fun _ => opIndexAddr (j := k1) Tryz.underlying23 Tryz.cz102 rfl (.t rfl) (.t rfl) rfl hx) ?_
  refine Z2 ?_
  refine .p rfl (fun _ => opIndexAddr (j := y.Sig.toNat) Tryz.underlying130 Tryz.cz132 rfl (.t rfl) (.t rfl) (by omega) hys) ?_
  refine Z1 ?_
  refine .p rfl (fun _ => opBuildSlice (enc := encSig) [sigAt m y.Sig] Tryz.underlying130 Tryz.cz132 rfl Tryz.zb132 rfl (.cons (.t rfl) .nil) rfl rfl rfl rfl rfl) ?_
  refine .fin ?_
  refine .n (opAppend (i := 0) Tryz.underlying130 Tryz.underlying130 Tryz.cz132 rfl Tryz.zb132 rfl Tryz.by132 (.t rfl) (.t rfl) rfl (by simp <;> omega) (by simp <;> omega)) rfl fun g60 _ => ?_
  refine Z10 ?_
  refine .round (k1 + 1, g60) (by show k1 + 1 ≤ _; omega) (by show m.Imports.length - (k1 + 1) < m.Imports.length - k1; omega) (by simp only [← take_snoc hx, List.map_append, List.map_cons, List.map_nil, List.append_assoc]; rfl) ?_
  exact (.get rfl (VLe.int (by show (_ : Int) = ((k1 + 1 : Nat) : Int); omega)) ((.keep 24 rfl rfl)))
 have hall1 : m.Imports.take k1 = m.Imports := List.take_of_length_le (by omega)
 rw [hall1]
 refine Z12 ?_
 refine .loopO (σ := Nat × SB) (fun s => [sliceH s.2 2 encSig ((m.Imports.map fun z => sigAt m z.Sig) ++ ((m.Funcs.take s.1).map fun z => sigAt m z.Sig)), cellsH b5 (envC m (exactV (sval s.2 ((m.Imports.map fun z => sigAt m z.Sig) ++ ((m.Funcs.take s.1).map fun z => sigAt m z.Sig)).length)) (sliceV 2 encSig m.Sigs) (exactV (.slice none 0 0)) (exactV (.slice none 0 0)) (exactV (.slice none 0 0)) (exactV (.slice none 0 0)) (exactV (.slice none 0 0)) (exactV (.slice none 0 0))), cellsH b4 (List.map exactV [.slice none 0 0, .slice none 0 0, .slice none 0 0, .slice none 0 0, .slice none 0 0, .bool false, .slice none 0 0, .slice none 0 0, .slice none 0 0])]) (fun s => [(8, intV .i64 (s.1 : Int))]) (fun s => s.1 ≤ m.Funcs.length) (fun s => m.Funcs.length - s.1) (0, q1) (Nat.zero_le _) (by simp only [List.take_zero, List.map_nil, List.append_nil]) ?_ ?_
 · exact (.get rfl (VLe.refl _) (.refl _ _))
 rintro ⟨k2, q2⟩ hk2
 simp only at hk2 ⊢
 refine Z10 ?_
 refine Cd (fun c2 => ?_) fun c2 => ?_
 ·
  obtain ⟨y, hx⟩ := getElem?_lt (xs := m.Funcs) (k := k2) (by omega)
  have hyi := func_sig hp0 (List.mem_of_getElem? hx)
  have hys := (sigAt_mem hyi).1
  unfold InP at hyi
  refine Z4 ?_
  refine .stagedK [(0, 0), (1, 1), (2, 0), (3, 1), (4, 0), (5, 0), (6, 0), (7, 0), (8, 0), (9, 0), (10, 0), (11, 0), (12, 0)] 13 3 FM.out (by kernel_rfl) (k := ?_)
  refine Z7 ?_
  refine .p rfl (fun _ => opIndexAddr (j := k2) Tryz.underlying24 Tryz.cz73 rfl (.t rfl) (.t rfl) rfl hx) ?_
  refine Z2 ?_
  refine .p rfl (fun _ => opIndexAddr (j := y.Sig.toNat) Tryz.underlying130 Tryz.cz132 rfl (.t rfl) (.t rfl) (by omega) hys) ?_
  refine Z1 ?_
  refine .p rfl (fun _ => opBuildSlice (enc := encSig) [sigAt m y.Sig] Tryz.underlying130 Tryz.cz132 rfl Tryz.zb132 rfl (.cons (.t rfl) .nil) rfl rfl rfl rfl rfl) ?_
  refine .fin ?_
  refine .n (opAppend (i := 0) Tryz.underlying130 Tryz.underlying130 Tryz.cz132 rfl Tryz.zb132 rfl Tryz.by132 (.t rfl) (.t rfl) rfl (by simp <;> omega) (by simp <;> omega)) rfl fun g82 _ => ?_
  refine Z10 ?_
  refine .round (k2 + 1, g82) (by show k2 + 1 ≤ _; omega) (by show m.Funcs.length - (k2 + 1) < m.Funcs.length - k2; omega) (by simp only [← take_snoc hx, List.map_append, List.map_cons, List.map_nil, List.append_assoc]; rfl) ?_
  exact (.get rfl (VLe.int (by show (_ : Int) = ((k2 + 1 : Nat) : Int); omega)) ((.keep 24 rfl rfl)))
 have hall2 : m.Funcs.take k2 = m.Funcs := List.take_of_length_le (by omega)
 rw [hall2]
 refine .shareIn (n := 2) (enc := encSig) (i := 0) (j := 0) (f := 0) rfl rfl rfl ?_
 refine Z12 ?_
 refine .ownNil 1 encPr ?_
 refine .loopO (σ := Nat × SB) (fun s => [sliceH s.2 1 encPr ((m.Mems.take s.1).map fun z => z.Wide), cellsH b5 (envC m (sliceV 2 encSig ((m.Imports.map fun z => sigAt m z.Sig) ++ (m.Funcs.map fun z => sigAt m z.Sig))) (sliceV 2 encSig m.Sigs) (exactV (sval s.2 (((m.Mems.take s.1).map fun z => z.Wide)).length)) (exactV (.slice none 0 0)) (exactV (.slice none 0 0)) (exactV (.slice none 0 0)) (exactV (.slice none 0 0)) (exactV (.slice none 0 0))), cellsH b4 (List.map exactV [.slice none 0 0, .slice none 0 0, .slice none 0 0, .slice none 0 0, .slice none 0 0, .bool false, .slice none 0 0, .slice none 0 0, .slice none 0 0])]) (fun s => [(9, intV .i64 (s.1 : Int))]) (fun s => s.1 ≤ m.Mems.length) (fun s => m.Mems.length - s.1) (0, none) (Nat.zero_le _) rfl ?_ ?_
 · exact (.get rfl (VLe.refl _) (.refl _ _))
 rintro ⟨k3, q3⟩ hk3
 simp only at hk3 ⊢
 refine Z10 ?_
 refine Cd (fun c3 => ?_) fun c3 => ?_
 ·
  obtain ⟨y, hx⟩ := getElem?_lt (xs := m.Mems) (k := k3) (by omega)
  refine Z4 ?_
  refine .stagedK [(0, 0), (1, 1), (2, 0), (3, 0), (4, 0), (5, 0), (6, 0), (7, 0), (8, 0)] 9 3 FM.out (by kernel_rfl) (k := ?_)
  refine Z5 ?_
  refine .p rfl (fun _ => opIndexAddr (j := k3) Tryz.underlying25 Tryz.cz105 rfl (.t rfl) (.t rfl) rfl hx) ?_
  refine Z2 ?_
  refine .p rfl (fun _ => opBuildSlice (enc := encPr) [y.Wide] Tryz.underlying131 Tryz.cz4 rfl Tryz.zb4 rfl (.cons (.t rfl) .nil) rfl rfl rfl rfl rfl) ?_
  refine .fin ?_
  refine .n (opAppend (i := 0) Tryz.underlying131 Tryz.underlying131 Tryz.cz4 rfl Tryz.zb4 rfl Tryz.by4 (.t rfl) (.t rfl) rfl (by simp <;> omega) (by simp <;> omega)) rfl fun g100 _ => ?_
  refine Z10 ?_
  refine .round (k3 + 1, g100) (by show k3 + 1 ≤ _; omega) (by show m.Mems.length - (k3 + 1) < m.Mems.length - k3; omega) (by simp only [← take_snoc hx, List.map_append, List.map_cons, List.map_nil, List.append_assoc]; rfl) ?_
  exact (.get rfl (VLe.int (by show (_ : Int) = ((k3 + 1 : Nat) : Int); omega)) ((.keep 20 rfl rfl)))
 have hall3 : m.Mems.take k3 = m.Mems := List.take_of_length_le (by omega)
 rw [hall3]
 refine .shareIn (n := 1) (enc := encPr) (i := 0) (j := 0) (f := 2) rfl rfl rfl ?_
 refine Z12 ?_
 refine .ownNil 1 encPr ?_
 refine .ownNil 1 encU8 ?_
 refine .loopO (σ := Nat × SB × SB) (fun s => [sliceH s.2.1 1 encU8 ((m.Globals.take s.1).map fun z => z.Ty), sliceH s.2.2 1 encPr ((m.Globals.take s.1).map fun z => z.Mutable), cellsH b5 (envC m (sliceV 2 encSig ((m.Imports.map fun z => sigAt m z.Sig) ++ (m.Funcs.map fun z => sigAt m z.Sig))) (sliceV 2 encSig m.Sigs) (sliceV 1 encPr (m.Mems.map fun z => z.Wide)) (exactV (sval s.2.1 (((m.Globals.take s.1).map fun z => z.Ty)).length)) (exactV (sval s.2.2 (((m.Globals.take s.1).map fun z => z.Mutable)).length)) (exactV (.slice none 0 0)) (exactV (.slice none 0 0)) (exactV (.slice none 0 0))), cellsH b4 (List.map exactV [.slice none 0 0, .slice none 0 0, .slice none 0 0, .slice none 0 0, .slice none 0 0, .bool false, .slice none 0 0, .slice none 0 0, .slice none 0 0])]) (fun s => [(10, intV .i64 (s.1 : Int))]) (fun s => s.1 ≤ m.Globals.length) (fun s => m.Globals.length - s.1) (0, none, none) (Nat.zero_le _) rfl ?_ ?_
 · exact (.get rfl (VLe.refl _) (.refl _ _))
 rintro ⟨k4, q4, q5⟩ hk4
 simp only at hk4 ⊢
 refine Z10 ?_
 refine Cd (fun c4 => ?_) fun c4 => ?_
 ·
  obtain ⟨y, hx⟩ := getElem?_lt (xs := m.Globals) (k := k4) (by omega)
  refine Z5 ?_
  refine .stagedK [(0, 0), (1, 1), (2, 0), (3, 0), (4, 0), (5, 0), (6, 0), (7, 0), (8, 0)] 9 3 FM.out (by kernel_rfl) (k := ?_)
  refine Z5 ?_
  refine .p rfl (fun _ => opIndexAddr (j := k4) Tryz.underlying26 Tryz.cz109 rfl (.t rfl) (.t rfl) rfl hx) ?_
  refine Z2 ?_
  refine .p rfl (fun _ => opBuildSlice (enc := encU8) [y.Ty] Tryz.underlying64 Tryz.cz5 rfl Tryz.zb5 rfl (.cons (.t rfl) .nil) rfl rfl rfl rfl rfl) ?_
  refine .fin ?_
  refine .n (opAppend (i := 0) Tryz.underlying64 Tryz.underlying64 Tryz.cz5 rfl Tryz.zb5 rfl Tryz.by5 (.t rfl) (.t rfl) rfl (by simp <;> omega) (by simp <;> omega)) rfl fun g118 _ => ?_
  refine Z4 ?_
  refine .stagedK [(0, 0), (1, 1), (2, 0), (3, 0), (4, 0), (5, 0), (6, 0), (7, 0), (8, 0)] 9 3 FM.out (by kernel_rfl) (k := ?_)
  refine Z5 ?_
  refine .p rfl (fun _ => opIndexAddr (j := k4) Tryz.underlying26 Tryz.cz109 rfl (.t rfl) (.t rfl) rfl hx) ?_
  refine Z2 ?_
  refine .p rfl (fun _ => opBuildSlice (enc := encPr) [y.Mutable] Tryz.underlying131 Tryz.cz4 rfl Tryz.zb4 rfl (.cons (.t rfl) .nil) rfl rfl rfl rfl rfl) ?_
  refine .fin ?_
  refine .n (opAppend (i := 1) Tryz.underlying131 Tryz.underlying131 Tryz.cz4 rfl Tryz.zb4 rfl Tryz.by4 (.t rfl) (.t rfl) rfl (by simp <;> omega) (by simp <;> omega)) rfl fun g129 _ => ?_
  refine Z10 ?_
  refine .round (k4 + 1, g118, g129) (by show k4 + 1 ≤ _; omega) (by show m.Globals.length - (k4 + 1) < m.Globals.length - k4; omega) (by simp only [← take_snoc hx, List.map_append, List.map_cons, List.map_nil, List.append_assoc]; rfl) ?_
  exact (.get rfl (VLe.int (by show (_ : Int) = ((k4 + 1 : Nat) : Int); omega)) ((.keep 31 rfl rfl)))
 have hall4 : m.Globals.take k4 = m.Globals := List.take_of_length_le (by omega)
 rw [hall4]
 refine .shareIn (n := 1) (enc := encU8) (i := 0) (j := 1) (f := 3) rfl rfl rfl ?_
 refine .shareIn (n := 1) (enc := encPr) (i := 0) (j := 0) (f := 4) rfl rfl rfl ?_
 refine Z6 ?_
 refine .drawK 8 4 FM.out (by kernel_rfl) (k := ?_)
 refine Z5 ?_
 refine .p (cI i (h := hp2)) ?_
 refine Z3 ?_
 refine .p (cI f.Sig.toNat (h := hfs.1)) rfl ?_
 refine Z6 ?_
 refine .stagedK [(1, 0), (2, 0), (3, 1), (5, 0), (6, 0), (7, 0), (8, 0), (9, 0), (10, 0), (11, 0), (0, 4), (4, 2)] 12 3 FM.out (by kernel_rfl) (k := ?_)
 refine Z6 ?_
 refine .p rfl (fun _ => opIndexAddr (j := i) Tryz.underlying24 Tryz.cz73 rfl (.t rfl) (.t rfl) rfl hp2) ?_
 refine Z3 ?_
 refine .a rfl (opBuildSliceO encU8 ([] : List UInt8) Tryz.underlying64 Tryz.cz5 rfl Tryz.zb5 rfl .nil rfl rfl rfl rfl rfl) (fun _ _ => OLe.drop (OLe.refl _)) fun g142 _ => ?_
 refine .e rfl (opAppend (i := 0) Tryz.underlying64 Tryz.underlying64 Tryz.cz5 rfl Tryz.zb5 rfl Tryz.by5 (.t rfl) (.t rfl) rfl (by simp <;> omega) (by simp <;> omega)) fun g146 _ => ?_
 refine .fin ?_
 refine .n (OpE.shareS (G := fun g => g) (hs1 := fun _ => _) (xs := fun _ => _) (opAppend (i := 0) Tryz.underlying64 Tryz.underlying64 Tryz.cz5 rfl Tryz.zb5 rfl Tryz.by5 (.t rfl) (.t rfl) rfl (by simp <;> omega) (by simp <;> omega))) rfl fun _ _ => ?_
 refine Z11 ?_
 refine Post.retR1 rfl (()) (by trivial) (OLe.sel [] [0, 1] rfl rfl) (.ra (i := 1) Tryz.ag134 Tryz.cz134 rfl rfl rfl rfl) ?_
 exact VLe.refl _
end Go.Proofs.YtmmdlhjcmlekfaaGreatDoor
end
section
namespace Go.Proofs.YtmmdlhjcmlekfaaGreatDoor
open Go.Hl Go.RowKit
theorem l13sig_spec {x : ModD} {n : Int} {s : SigD} (hp0 : sigO x n = some s) : FnP Tryz.prog 53 [aggV (encMod x), intV .i64 n] (aggV (encSig s)) := by
 refine In 34 Tryz.func53 fun _ _ _ => ?_
 refine .fact (t := 0) rfl (fun S w v h => modLens3 h) fun hlen => ?_
 have hall := hlen
 obtain ⟨⟨hl0, hl1, hl2, hl3, hl4, hl5, hl6, hl7⟩, ⟨hi0, hi1, hi2, hi3, hi4⟩, hi5⟩ := hlen
 refine Z3 ?_
 refine .n (opAlloc Tryz.zb66) rfl fun b4 _ => ?_
 refine Z12 ?_
 refine Cd (fun c0 => ?_) fun c0 => ?_
 ·
  obtain ⟨y, hy1, hy2, hy3, hy4⟩ := sig_import hp0 c0
  refine Z1 ?_
  refine .drawK 8 3 FM.out (by kernel_rfl) (k := ?_)
  refine Z5 ?_
  refine .p (cI n.toNat (h := hy1) (hi := hy3)) ?_
  refine Z3 ?_
  refine .p (cI y.Sig.toNat (h := hy2) (hi := hy4)) rfl ?_
  refine Z6 ?_
  refine Post.retR1 rfl () trivial (fun _ _ _ _ => trivial) (.ra (i := 0) Tryz.ag66 Tryz.cz66 rfl rfl rfl rfl) ?_
  first | exact VLe.refl _ | exact VLe.int (by omega) | exact VLe.prop (by omega) | exact VLe.prop (by simp_all) | exact VLe.prop (by simp; omega)
 obtain ⟨y, hy1, hy2, hy3, hy4, hy5⟩ := sig_func hp0 c0
 unfold countM at hy5
 refine Z3 ?_
 refine .drawK 12 3 FM.out (by kernel_rfl) (k := ?_)
 refine Z9 ?_
 refine .p (cI ((n - (x.Imports.length : Int)).toNat) (h := hy1) (hi := hy3)) ?_
 refine Z3 ?_
 refine .p (cI y.Sig.toNat (h := hy2) (hi := hy4)) rfl ?_
 refine Z5 ?_
 refine Post.retR1 rfl () trivial (fun _ _ _ _ => trivial) (.ra (i := 0) Tryz.ag66 Tryz.cz66 rfl rfl rfl rfl) ?_
 first | exact VLe.refl _ | exact VLe.int (by omega) | exact VLe.prop (by omega) | exact VLe.prop (by simp_all) | exact VLe.prop (by simp; omega)
end Go.Proofs.YtmmdlhjcmlekfaaGreatDoor
end
section
namespace Go.Proofs.YtmmdlhjcmlekfaaGreatDoor
open Go.Hl Go.RowKit
theorem unfitI_spec {x : ModD} : FnP Tryz.prog 21 [aggV (encMod x)] (tupV [anyV, exV (fun n : Int => n = 0 ↔ FitsM x) (intV .i64)]) := by
 refine In 393 Tryz.func21 fun _ _ _ => ?_
 refine .fact (t := 0) rfl (fun S w v h => modLens3 h) fun hlen => ?_
 have hall := hlen
 obtain ⟨⟨hl0, hl1, hl2, hl3, hl4, hl5, hl6, hl7⟩, ⟨hi0, hi1, hi2, hi3, hi4⟩, hi5⟩ := hlen
 refine Z3 ?_
 refine .p (opAssign (.s [] rfl rfl)) rfl ?_
 refine Z24 ?_
 refine Cd (fun c0 => ?_) fun c0 => ?_
 ·
  refine Z2 ?_
  refine .p (opAssign (.s [115, 105, 103, 115] rfl rfl)) rfl ?_
  refine Z5 ?_
  refine Rt2 ?_ ?_
  · exact VLe.any
  exact VLe.ex _ ⟨fun h => absurd h (by decide), fun h => by (exfalso; have hL := fo_lens h; have hl1 := hL.sigs; have hl2 := hL.imports; have hl3 := hL.funcs; have hl4 := hL.mems; have hl5 := hL.globals; have hl6 := hL.exports; have hl7 := hL.elems; have hl8 := hL.datas; have hl9 := hL.table; omega)⟩ (VLe.refl _)
 refine Z9 ?_
 refine .loopO (σ := Nat) (fun _ => []) (fun ka => [(5, intV .i64 (ka : Int))]) (fun ka => ka ≤ x.Sigs.length ∧ NotB (fun z : SigD => sigE z ≠ 0) x.Sigs ka) (fun ka => x.Sigs.length - ka) 0 ⟨by omega, NotB.zero _ _⟩ rfl ?_ ?_
 · exact (.get rfl (VLe.refl _) (.refl _ _))
 rintro ka ⟨hk1, hn1⟩
 refine Z10 ?_
 refine Cd (fun c1 => ?_) fun c1 => ?_
 ·
  obtain ⟨z, hz⟩ := getElem?_lt (xs := x.Sigs) (k := ka) (by omega)
  refine Z9 ?_
  refine .p (cI _) rfl ?_
  refine Z2 ?_
  refine .p (cA (h := typed_spec)) rfl ?_
  refine Z5 ?_
  refine .g (OpG.gF rfl rfl rfl rfl (fun hg => opIndexAddr Tryz.underlying22 Tryz.cz66 rfl (.when (.t rfl) hg) (.when (.t rfl) hg) rfl (by assumption))) rfl rfl ?_
  refine Z2 ?_
  refine .g (OpG.gF rfl rfl rfl rfl (fun hg => opCall (typed_spec) Tryz.cb50 (.cons (.when (.t rfl) hg) .nil))) rfl rfl ?_
  refine Z4 ?_
  refine Cd (fun c2 => ?_) fun c2 => ?_
  ·
   refine Z2 ?_
   refine .p (opAssign (.s [115, 105, 103, 115] rfl rfl)) rfl ?_
   refine Z9 ?_
   refine Rt2 ?_ ?_
   · exact VLe.any
   exact VLe.ex _ ⟨fun h => absurd h (by decide), fun h => by (exfalso; have hL := fo_lens h; have hl1 := hL.sigs; have hl2 := hL.imports; have hl3 := hL.funcs; have hl4 := hL.mems; have hl5 := hL.globals; have hl6 := hL.exports; have hl7 := hL.elems; have hl8 := hL.datas; have hl9 := hL.table; have h9 := fo_sig h (List.mem_of_getElem? hz); rcases c2 with c | c; exact c h9.1; exact c h9.2)⟩ (VLe.refl _)
  refine Z8 ?_
  refine .round (ka + 1) ⟨by omega, hn1.succ hz (not_not_intro (sigE_ok (by simpa using c2)))⟩ (by omega) rfl ?_
  exact (.get rfl (VLe.int (by omega)) (.keep 27 rfl rfl))
 have fa : sigsE x = 0 := many_ok (by omega) hn1 (by omega)
 refine Z14 ?_
 refine Cd (fun c3 => ?_) fun c3 => ?_
 ·
  refine Z2 ?_
  refine .p (opAssign (.s [105, 109, 112, 111, 114, 116, 115] rfl rfl)) rfl ?_
  refine Z5 ?_
  refine Rt2 ?_ ?_
  · exact VLe.any
  exact VLe.ex _ ⟨fun h => absurd h (by decide), fun h => by (exfalso; have hL := fo_lens h; have hl1 := hL.sigs; have hl2 := hL.imports; have hl3 := hL.funcs; have hl4 := hL.mems; have hl5 := hL.globals; have hl6 := hL.exports; have hl7 := hL.elems; have hl8 := hL.datas; have hl9 := hL.table; omega)⟩ (VLe.refl _)
 refine Z9 ?_
 refine .loopO (σ := Nat) (fun _ => []) (fun kb => [(6, intV .i64 (kb : Int))]) (fun kb => kb ≤ x.Imports.length ∧ NotB (fun z : ImportD => importE x z ≠ 0) x.Imports kb) (fun kb => x.Imports.length - kb) 0 ⟨by omega, NotB.zero _ _⟩ rfl ?_ ?_
 · exact (.get rfl (VLe.refl _) (.refl _ _))
 rintro kb ⟨hk4, hn4⟩
 refine Z10 ?_
 refine Cd (fun c4 => ?_) fun c4 => ?_
 ·
  obtain ⟨z, hz⟩ := getElem?_lt (xs := x.Imports) (k := kb) (by omega)
  refine Z10 ?_
  refine .p (cI _) rfl ?_
  refine Z2 ?_
  refine .p (cA (h := lnamed_spec)) rfl ?_
  refine Z5 ?_
  refine .g (OpG.gF rfl rfl rfl rfl (fun hg => opIndexAddr Tryz.underlying23 Tryz.cz102 rfl (.when (.t rfl) hg) (.when (.t rfl) hg) rfl (by assumption))) rfl rfl ?_
  refine Z2 ?_
  refine .g (OpG.gF rfl rfl rfl rfl (fun hg => opCall (lnamed_spec) Tryz.cb51 (.cons (.when (.t rfl) hg) .nil))) rfl rfl ?_
  refine Z4 ?_
  refine Cd (fun c5 => ?_) fun c5 => ?_
  ·
   refine Z2 ?_
   refine .p (opAssign (.s [105, 109, 112, 111, 114, 116, 115] rfl rfl)) rfl ?_
   refine Z10 ?_
   refine Rt2 ?_ ?_
   · exact VLe.any
   exact VLe.ex _ ⟨fun h => absurd h (by decide), fun h => by (exfalso; have hL := fo_lens h; have hl1 := hL.sigs; have hl2 := hL.imports; have hl3 := hL.funcs; have hl4 := hL.mems; have hl5 := hL.globals; have hl6 := hL.exports; have hl7 := hL.elems; have hl8 := hL.datas; have hl9 := hL.table; have h9 := fo_imp h (List.mem_of_getElem? hz); rcases c5 with c | c; exact c h9.1; exact c h9.2.1)⟩ (VLe.refl _)
  refine Z3 ?_
  refine .drawK 9 2 FM.out (by kernel_rfl) (k := ?_)
  refine Z3 ?_
  refine .p (cI _) ?_
  refine Z6 ?_
  refine .p (cA (h := lin_spec)) rfl ?_
  refine Z3 ?_
  refine Cd (fun c6 => ?_) fun c6 => ?_
  ·
   refine Z2 ?_
   refine .p (opAssign (.s [105, 109, 112, 111, 114, 116, 115] rfl rfl)) rfl ?_
   refine Z9 ?_
   refine Rt2 ?_ ?_
   · exact VLe.any
   exact VLe.ex _ ⟨fun h => absurd h (by decide), fun h => by (exfalso; have hL := fo_lens h; have hl1 := hL.sigs; have hl2 := hL.imports; have hl3 := hL.funcs; have hl4 := hL.mems; have hl5 := hL.globals; have hl6 := hL.exports; have hl7 := hL.elems; have hl8 := hL.datas; have hl9 := hL.table; have h9 := fo_imp h (List.mem_of_getElem? hz); exact c6 (by simpa using h9.2.2))⟩ (VLe.refl _)
  refine Z8 ?_
  refine .round (kb + 1) ⟨by omega, hn4.succ hz (not_not_intro (importE_ok (by simpa using c5) (by simpa using c6)))⟩ (by omega) rfl ?_
  exact (.get rfl (VLe.int (by omega)) (.keep 38 rfl rfl))
 have fb0 := hn4.zero_at (by omega)
 have fb : importsE x = 0 := many_ok (by omega) hn4 (by omega)
 refine Z12 ?_
 refine Cd (fun c7 => ?_) fun c7 => ?_
 ·
  refine Z2 ?_
  refine .p (opAssign (.s [102, 117, 110, 99, 115] rfl rfl)) rfl ?_
  refine Z5 ?_
  refine Rt2 ?_ ?_
  · exact VLe.any
  exact VLe.ex _ ⟨fun h => absurd h (by decide), fun h => by (exfalso; have hL := fo_lens h; have hl1 := hL.sigs; have hl2 := hL.imports; have hl3 := hL.funcs; have hl4 := hL.mems; have hl5 := hL.globals; have hl6 := hL.exports; have hl7 := hL.elems; have hl8 := hL.datas; have hl9 := hL.table; omega)⟩ (VLe.refl _)
 refine Z9 ?_
 refine .loopO (σ := Nat) (fun _ => []) (fun kc => [(7, intV .i64 (kc : Int))]) (fun kc => kc ≤ x.Funcs.length ∧ NotB (fun z : FuncD => funcE x z ≠ 0) x.Funcs kc) (fun kc => x.Funcs.length - kc) 0 ⟨by omega, NotB.zero _ _⟩ rfl ?_ ?_
 · exact (.get rfl (VLe.refl _) (.refl _ _))
 rintro kc ⟨hk8, hn8⟩
 refine Z10 ?_
 refine Cd (fun c8 => ?_) fun c8 => ?_
 ·
  obtain ⟨z, hz⟩ := getElem?_lt (xs := x.Funcs) (k := kc) (by omega)
  refine Z5 ?_
  refine .drawK 9 2 FM.out (by kernel_rfl) (k := ?_)
  refine Z3 ?_
  refine .p (cI _) ?_
  refine Z6 ?_
  refine .p (cA (h := lin_spec)) rfl ?_
  refine Z3 ?_
  refine Cd (fun c9 => ?_) fun c9 => ?_
  ·
   refine Z2 ?_
   refine .p (opAssign (.s [102, 117, 110, 99, 115] rfl rfl)) rfl ?_
   refine Z9 ?_
   refine Rt2 ?_ ?_
   · exact VLe.any
   exact VLe.ex _ ⟨fun h => absurd h (by decide), fun h => by (exfalso; have hL := fo_lens h; have hl1 := hL.sigs; have hl2 := hL.imports; have hl3 := hL.funcs; have hl4 := hL.mems; have hl5 := hL.globals; have hl6 := hL.exports; have hl7 := hL.elems; have hl8 := hL.datas; have hl9 := hL.table; have h9 := fo_func h (List.mem_of_getElem? hz); exact c9 (by simpa using h9))⟩ (VLe.refl _)
  refine Z8 ?_
  refine .round (kc + 1) ⟨by omega, hn8.succ hz (not_not_intro (funcE_ok (by simpa using c9)))⟩ (by omega) rfl ?_
  exact (.get rfl (VLe.int (by omega)) (.keep 20 rfl rfl))
 have fc0 := hn8.zero_at (by omega)
 have fc : funcsE x = 0 := funcs_ok (by omega) hn8 (by omega)
 refine Z13 ?_
 refine Cd (fun c10 => ?_) fun c10 => ?_
 ·
  refine Z2 ?_
  refine .p (opAssign (.s [116, 97, 98, 108, 101] rfl rfl)) rfl ?_
  refine Z5 ?_
  refine Rt2 ?_ ?_
  · exact VLe.any
  exact VLe.ex _ ⟨fun h => absurd h (by decide), fun h => by (exfalso; have hL := fo_lens h; have hl1 := hL.sigs; have hl2 := hL.imports; have hl3 := hL.funcs; have hl4 := hL.mems; have hl5 := hL.globals; have hl6 := hL.exports; have hl7 := hL.elems; have hl8 := hL.datas; have hl9 := hL.table; omega)⟩ (VLe.refl _)
 refine Z10 ?_
 refine Cd (fun c11 => ?_) fun c11 => ?_
 ·
  refine Z2 ?_
  refine .p (opAssign (.s [116, 97, 98, 108, 101] rfl rfl)) rfl ?_
  refine Z5 ?_
  refine Rt2 ?_ ?_
  · exact VLe.any
  exact VLe.ex _ ⟨fun h => absurd h (by decide), fun h => by (exfalso; have hL := fo_lens h; have hl1 := hL.sigs; have hl2 := hL.imports; have hl3 := hL.funcs; have hl4 := hL.mems; have hl5 := hL.globals; have hl6 := hL.exports; have hl7 := hL.elems; have hl8 := hL.datas; have hl9 := hL.table; omega)⟩ (VLe.refl _)
 have fd : tableE x = 0 := tableE_ok (by omega) (by omega)
 refine Z11 ?_
 refine Cd (fun c12 => ?_) fun c12 => ?_
 ·
  refine Z2 ?_
  refine .p (opAssign (.s [109, 101, 109, 115] rfl rfl)) rfl ?_
  refine Z5 ?_
  refine Rt2 ?_ ?_
  · exact VLe.any
  exact VLe.ex _ ⟨fun h => absurd h (by decide), fun h => by (exfalso; have hL := fo_lens h; have hl1 := hL.sigs; have hl2 := hL.imports; have hl3 := hL.funcs; have hl4 := hL.mems; have hl5 := hL.globals; have hl6 := hL.exports; have hl7 := hL.elems; have hl8 := hL.datas; have hl9 := hL.table; omega)⟩ (VLe.refl _)
 refine Z9 ?_
 refine .loopO (σ := Nat) (fun _ => []) (fun kd => [(8, intV .i64 (kd : Int))]) (fun kd => kd ≤ x.Mems.length ∧ NotB (fun z : LimitsD => memE z ≠ 0) x.Mems kd) (fun kd => x.Mems.length - kd) 0 ⟨by omega, NotB.zero _ _⟩ rfl ?_ ?_
 · exact (.get rfl (VLe.refl _) (.refl _ _))
 rintro kd ⟨hk13, hn13⟩
 refine Z10 ?_
 refine Cd (fun c13 => ?_) fun c13 => ?_
 ·
  obtain ⟨z, hz⟩ := getElem?_lt (xs := x.Mems) (k := kd) (by omega)
  refine Z9 ?_
  refine .p (cI _) rfl ?_
  refine Z1 ?_
  refine .n (opAlloc Tryz.zb105) rfl fun b9 _ => ?_
  refine Z3 ?_
  refine .share (t := 9) (i := 0) rfl rfl ?_
  refine Z29 ?_
  refine Cd (fun c14 => ?_) fun c14 => ?_
  ·
   refine Z2 ?_
   refine .p (opAssign (.s [109, 101, 109, 115] rfl rfl)) rfl ?_
   refine Z9 ?_
   refine Rt2 ?_ ?_
   · exact VLe.any
   exact VLe.ex _ ⟨fun h => absurd h (by decide), fun h => by (exfalso; have hL := fo_lens h; have hl1 := hL.sigs; have hl2 := hL.imports; have hl3 := hL.funcs; have hl4 := hL.mems; have hl5 := hL.globals; have hl6 := hL.exports; have hl7 := hL.elems; have hl8 := hL.datas; have hl9 := hL.table; have h9 := fo_mem h (List.mem_of_getElem? hz); omega)⟩ (VLe.refl _)
  refine Z8 ?_
  refine .round (kd + 1) ⟨by omega, hn13.succ hz (not_not_intro (memE_ok (by omega)))⟩ (by omega) rfl ?_
  exact (.get rfl (VLe.int (by omega)) (.keep 41 rfl rfl))
 have fe : memsE x = 0 := many_ok (by omega) hn13 (by omega)
 refine Z14 ?_
 refine Cd (fun c15 => ?_) fun c15 => ?_
 ·
  refine Z2 ?_
  refine .p (opAssign (.s [103, 108, 111, 98, 97, 108, 115] rfl rfl)) rfl ?_
  refine Z5 ?_
  refine Rt2 ?_ ?_
  · exact VLe.any
  exact VLe.ex _ ⟨fun h => absurd h (by decide), fun h => by (exfalso; have hL := fo_lens h; have hl1 := hL.sigs; have hl2 := hL.imports; have hl3 := hL.funcs; have hl4 := hL.mems; have hl5 := hL.globals; have hl6 := hL.exports; have hl7 := hL.elems; have hl8 := hL.datas; have hl9 := hL.table; omega)⟩ (VLe.refl _)
 refine Z9 ?_
 refine .loopO (σ := Nat) (fun _ => []) (fun ke => [(10, intV .i64 (ke : Int))]) (fun ke => ke ≤ x.Globals.length ∧ NotB (fun z : GlobalD => globalE z ≠ 0) x.Globals ke) (fun ke => x.Globals.length - ke) 0 ⟨by omega, NotB.zero _ _⟩ rfl ?_ ?_
 · exact (.get rfl (VLe.refl _) (.refl _ _))
 rintro ke ⟨hk16, hn16⟩
 refine Z10 ?_
 refine Cd (fun c16 => ?_) fun c16 => ?_
 ·
  obtain ⟨z, hz⟩ := getElem?_lt (xs := x.Globals) (k := ke) (by omega)
  refine Z9 ?_
  refine .p (cI _) rfl ?_
  refine Z1 ?_
  refine .n (opAlloc Tryz.zb109) rfl fun b11 _ => ?_
  refine Z3 ?_
  refine .share (t := 11) (i := 0) rfl rfl ?_
  refine Z17 ?_
  refine Cd (fun c17 => ?_) fun c17 => ?_
  ·
   refine Z2 ?_
   refine .p (opAssign (.s [103, 108, 111, 98, 97, 108, 115] rfl rfl)) rfl ?_
   refine Z9 ?_
   refine Rt2 ?_ ?_
   · exact VLe.any
   exact VLe.ex _ ⟨fun h => absurd h (by decide), fun h => by (exfalso; have hL := fo_lens h; have hl1 := hL.sigs; have hl2 := hL.imports; have hl3 := hL.funcs; have hl4 := hL.mems; have hl5 := hL.globals; have hl6 := hL.exports; have hl7 := hL.elems; have hl8 := hL.datas; have hl9 := hL.table; have h9 := fo_global h (List.mem_of_getElem? hz); omega)⟩ (VLe.refl _)
  refine Z8 ?_
  refine .round (ke + 1) ⟨by omega, hn16.succ hz (not_not_intro (globalE_ok (by omega)))⟩ (by omega) rfl ?_
  exact (.get rfl (VLe.int (by omega)) (.keep 29 rfl rfl))
 have ff : globalsE x = 0 := many_ok (by omega) hn16 (by omega)
 refine Z14 ?_
 refine Cd (fun c18 => ?_) fun c18 => ?_
 ·
  refine Z2 ?_
  refine .p (opAssign (.s [101, 120, 112, 111, 114, 116, 115] rfl rfl)) rfl ?_
  refine Z5 ?_
  refine Rt2 ?_ ?_
  · exact VLe.any
  exact VLe.ex _ ⟨fun h => absurd h (by decide), fun h => by (exfalso; have hL := fo_lens h; have hl1 := hL.sigs; have hl2 := hL.imports; have hl3 := hL.funcs; have hl4 := hL.mems; have hl5 := hL.globals; have hl6 := hL.exports; have hl7 := hL.elems; have hl8 := hL.datas; have hl9 := hL.table; omega)⟩ (VLe.refl _)
 refine Z9 ?_
 refine .loopO (σ := Nat) (fun _ => []) (fun kf => [(12, intV .i64 (kf : Int))]) (fun kf => kf ≤ x.Exports.length ∧ ∀ j, j < kf → exportE x j = 0) (fun kf => x.Exports.length - kf) 0 ⟨by omega, fun j hj => absurd hj (by omega)⟩ rfl ?_ ?_
 · exact (.get rfl (VLe.refl _) (.refl _ _))
 rintro kf ⟨hk19, hn19⟩
 refine Z10 ?_
 refine Cd (fun c19 => ?_) fun c19 => ?_
 ·
  obtain ⟨z, hz⟩ := getElem?_lt (xs := x.Exports) (k := kf) (by omega)
  refine Z9 ?_
  refine .p (cI _) rfl ?_
  refine Z1 ?_
  refine .n (opAlloc Tryz.zb112) rfl fun b13 _ => ?_
  refine Z3 ?_
  refine .share (t := 13) (i := 0) rfl rfl ?_
  refine Z5 ?_
  refine .p (cA (h := lnamed_spec)) rfl ?_
  refine Z3 ?_
  refine Cd (fun c20 => ?_) fun c20 => ?_
  ·
   refine Z2 ?_
   refine .p (opAssign (.s [101, 120, 112, 111, 114, 116, 115] rfl rfl)) rfl ?_
   refine Z10 ?_
   refine Rt2 ?_ ?_
   · exact VLe.any
   exact VLe.ex _ ⟨fun h => absurd h (by decide), fun h => by (exfalso; have hL := fo_lens h; have hl1 := hL.sigs; have hl2 := hL.imports; have hl3 := hL.funcs; have hl4 := hL.mems; have hl5 := hL.globals; have hl6 := hL.exports; have hl7 := hL.elems; have hl8 := hL.datas; have hl9 := hL.table; exact c20 (fo_export h hz).1)⟩ (VLe.refl _)
  refine Z9 ?_
  refine .loopO (σ := Nat) (fun _ => []) (fun kg => [(14, intV .i64 (kg : Int))]) (fun kg => kg ≤ kf ∧ NotB (fun w : ExportD => w.Name = z.Name) x.Exports kg) (fun kg => kf - kg) 0 ⟨by omega, NotB.zero _ _⟩ rfl ?_ ?_
  · exact (.get rfl (VLe.refl _) (.refl _ _))
  rintro kg ⟨hk21, hn21⟩
  refine Z8 ?_
  refine Cd (fun c21 => ?_) fun c21 => ?_
  ·
   obtain ⟨w, hw⟩ := getElem?_lt (xs := x.Exports) (k := kg) (by omega)
   refine Z5 ?_
   refine .drawK 8 1 FM.out (by kernel_rfl) (k := ?_)
   refine Z3 ?_
   refine .p (cI _) ?_
   refine Z8 ?_
   refine Cd (fun c22 => ?_) fun c22 => ?_
   ·
    refine Z2 ?_
    refine .p (opAssign (.s [101, 120, 112, 111, 114, 116, 115] rfl rfl)) rfl ?_
    refine Z14 ?_
    refine Rt2 ?_ ?_
    · exact VLe.any
    exact VLe.ex _ ⟨fun h => absurd h (by decide), fun h => by (exfalso; have hL := fo_lens h; have hl1 := hL.sigs; have hl2 := hL.imports; have hl3 := hL.funcs; have hl4 := hL.mems; have hl5 := hL.globals; have hl6 := hL.exports; have hl7 := hL.elems; have hl8 := hL.datas; have hl9 := hL.table; exact (fo_export h hz).2.1 kg w (by omega) hw c22)⟩ (VLe.refl _)
   refine Z8 ?_
   refine .round (kg + 1) ⟨by omega, hn21.succ hw c22⟩ (by omega) rfl ?_
   exact (.get rfl (VLe.int (by omega)) (.keep 16 rfl rfl))
  have hq19 : NotB (fun w : ExportD => w.Name = z.Name) x.Exports kf := fun j y hj => hn21 j y (by omega)
  refine Z14 ?_
  refine .g (OpG.gT rfl rfl rfl rfl (fun hg => opCall (lin_spec) Tryz.cb52 (.cons (.when (.t rfl) hg) (.cons (.when (.t rfl) hg) .nil)))) rfl rfl ?_
  refine Z26 ?_
  refine .g (OpG.hT rfl rfl rfl rfl (fun hg => opCall (lin_spec) Tryz.cb52 (.cons (.when (.t rfl) hg) (.cons (.when (.t rfl) hg) .nil)))) rfl rfl ?_
  refine Z12 ?_
  refine .g (OpG.hT rfl rfl rfl rfl (fun hg => opCall (lin_spec) Tryz.cb52 (.cons (.when (.t rfl) hg) (.cons (.when (.t rfl) hg) .nil)))) rfl rfl ?_
  refine Z11 ?_
  refine Cd (fun c23 => ?_) fun c23 => ?_
  ·
   refine Z2 ?_
   refine .p (opAssign (.s [101, 120, 112, 111, 114, 116, 115] rfl rfl)) rfl ?_
   refine Z9 ?_
   refine Rt2 ?_ ?_
   · exact VLe.any
   exact VLe.ex _ ⟨fun h => absurd h (by decide), fun h => by (exfalso; have hL := fo_lens h; have hl1 := hL.sigs; have hl2 := hL.imports; have hl3 := hL.funcs; have hl4 := hL.mems; have hl5 := hL.globals; have hl6 := hL.exports; have hl7 := hL.elems; have hl8 := hL.datas; have hl9 := hL.table; exact c23 (fo_export h hz).2.2)⟩ (VLe.refl _)
  refine Z8 ?_
  refine .round (kf + 1) ⟨by omega, fun j hj => by rcases Nat.lt_succ_iff_lt_or_eq.1 hj with h | h; exact hn19 j h; exact h ▸ exportE_ok hz (by simpa using c20) hq19 (by omega) (by omega) (or4 (Classical.not_not.1 c23))⟩ (by omega) rfl ?_
  exact (.get rfl (VLe.int (by omega)) (.keep 78 rfl rfl))
 have fg : exportsE x = 0 := exports_ok (by omega) hn19 (by omega)
 refine Z5 ?_
 refine .cut (σ := Unit) (fun _ => []) (fun _ => []) (fun _ => startE x = 0) ?_ ?_
 ·
  refine Z7 ?_
  refine Cd (fun c24 => ?_) fun c24 => ?_
  ·
   refine Z6 ?_
   refine .p (cA (h := lin_spec)) rfl ?_
   refine Z3 ?_
   refine Cd (fun c25 => ?_) fun c25 => ?_
   ·
    refine Z2 ?_
    refine .p (opAssign (.s [115, 116, 97, 114, 116] rfl rfl)) rfl ?_
    refine Z6 ?_
    refine Rt2 ?_ ?_
    · exact VLe.any
    exact VLe.ex _ ⟨fun h => absurd h (by decide), fun h => by (exfalso; have hL := fo_lens h; have hl1 := hL.sigs; have hl2 := hL.imports; have hl3 := hL.funcs; have hl4 := hL.mems; have hl5 := hL.globals; have hl6 := hL.exports; have hl7 := hL.elems; have hl8 := hL.datas; have hl9 := hL.table; exact c25 (by simpa [countM] using (fo_start h (by omega)).1))⟩ (VLe.refl _)
   obtain ⟨s, hs⟩ := sig_found (m := x) (f := x.Start) (by simpa [countM] using c25) fb0 fc0
   obtain ⟨si, hsi⟩ := List.mem_iff_getElem?.1 (sig_mem hs)
   have hs0 := hi0 si s hsi
   refine Z7 ?_
   refine .p (cA (h := (l13sig_spec hs))) rfl ?_
   refine .n (opAlloc Tryz.zb66) rfl fun b16 _ => ?_
   refine Z3 ?_
   refine .share (t := 16) (i := 0) rfl rfl ?_
   refine Z12 ?_
   refine Cd (fun c26 => ?_) fun c26 => ?_
   ·
    refine Z2 ?_
    refine .p (opAssign (.s [115, 116, 97, 114, 116] rfl rfl)) rfl ?_
    refine Z5 ?_
    refine Rt2 ?_ ?_
    · exact VLe.any
    exact VLe.ex _ ⟨fun h => absurd h (by decide), fun h => by (exfalso; have hL := fo_lens h; have hl1 := hL.sigs; have hl2 := hL.imports; have hl3 := hL.funcs; have hl4 := hL.mems; have hl5 := hL.globals; have hl6 := hL.exports; have hl7 := hL.elems; have hl8 := hL.datas; have hl9 := hL.table; have h9 := (fo_start h (by omega)).2 s hs; omega)⟩ (VLe.refl _)
   refine Z1 ?_
   refine .meet () (startE_ok hs (by omega)) rfl (.keep 22 rfl rfl)
  refine Z1 ?_
  refine .meet () (startE_no (by omega)) rfl (.keep 3 rfl rfl)
 intro _ fh
 refine Z9 ?_
 refine Cd (fun c27 => ?_) fun c27 => ?_
 ·
  refine Z2 ?_
  refine .p (opAssign (.s [101, 108, 101, 109, 115] rfl rfl)) rfl ?_
  refine Z5 ?_
  refine Rt2 ?_ ?_
  · exact VLe.any
  exact VLe.ex _ ⟨fun h => absurd h (by decide), fun h => by (exfalso; have hL := fo_lens h; have hl1 := hL.sigs; have hl2 := hL.imports; have hl3 := hL.funcs; have hl4 := hL.mems; have hl5 := hL.globals; have hl6 := hL.exports; have hl7 := hL.elems; have hl8 := hL.datas; have hl9 := hL.table; omega)⟩ (VLe.refl _)
 refine Z9 ?_
 refine .loopO (σ := Nat) (fun _ => []) (fun kh => [(17, intV .i64 (kh : Int))]) (fun kh => kh ≤ x.Elems.length ∧ NotB (fun z : ElemD => elemE x z ≠ 0) x.Elems kh) (fun kh => x.Elems.length - kh) 0 ⟨by omega, NotB.zero _ _⟩ rfl ?_ ?_
 · exact (.get rfl (VLe.refl _) (.refl _ _))
 rintro kh ⟨hk28, hn28⟩
 refine Z10 ?_
 refine Cd (fun c28 => ?_) fun c28 => ?_
 ·
  obtain ⟨z, hz⟩ := getElem?_lt (xs := x.Elems) (k := kh) (by omega)
  refine Z10 ?_
  refine .p (cI _) rfl ?_
  refine Z6 ?_
  refine Cd (fun c29 => ?_) fun c29 => ?_
  ·
   refine Z2 ?_
   refine .p (opAssign (.s [101, 108, 101, 109, 115] rfl rfl)) rfl ?_
   refine Z10 ?_
   refine Rt2 ?_ ?_
   · exact VLe.any
   exact VLe.ex _ ⟨fun h => absurd h (by decide), fun h => by (exfalso; have hL := fo_lens h; have hl1 := hL.sigs; have hl2 := hL.imports; have hl3 := hL.funcs; have hl4 := hL.mems; have hl5 := hL.globals; have hl6 := hL.exports; have hl7 := hL.elems; have hl8 := hL.datas; have hl9 := hL.table; have h9 := (fo_elem h (List.mem_of_getElem? hz)).1; omega)⟩ (VLe.refl _)
  refine Z12 ?_
  refine .g (OpG.gF rfl rfl rfl rfl (fun hg => opIndexAddr Tryz.underlying28 Tryz.cz90 rfl (.when (.t rfl) hg) (.when (.t rfl) hg) rfl (by assumption))) rfl rfl ?_
  refine Z6 ?_
  refine Cd (fun c30 => ?_) fun c30 => ?_
  ·
   refine Z2 ?_
   refine .p (opAssign (.s [101, 108, 101, 109, 115] rfl rfl)) rfl ?_
   refine Z10 ?_
   refine Rt2 ?_ ?_
   · exact VLe.any
   exact VLe.ex _ ⟨fun h => absurd h (by decide), fun h => by (exfalso; have hL := fo_lens h; have hl1 := hL.sigs; have hl2 := hL.imports; have hl3 := hL.funcs; have hl4 := hL.mems; have hl5 := hL.globals; have hl6 := hL.exports; have hl7 := hL.elems; have hl8 := hL.datas; have hl9 := hL.table; have h9 := fo_elem h (List.mem_of_getElem? hz); omega)⟩ (VLe.refl _)
  refine Z8 ?_
  refine .loopO (σ := Nat) (fun _ => []) (fun kj => [(18, intV .i64 (kj : Int))]) (fun kj => kj ≤ z.Funcs.length ∧ NotB (fun w : Int => ¬ InP w (countM x)) z.Funcs kj) (fun kj => z.Funcs.length - kj) 0 ⟨by omega, NotB.zero _ _⟩ rfl ?_ ?_
  · exact (.get rfl (VLe.refl _) (.refl _ _))
  rintro kj ⟨hk31, hn31⟩
  refine Z7 ?_
  refine .p (cI _) rfl ?_
  refine Z6 ?_
  refine Cd (fun c31 => ?_) fun c31 => ?_
  ·
   obtain ⟨w, hw⟩ := getElem?_lt (xs := z.Funcs) (k := kj) (by omega)
   refine Z9 ?_
   refine .p (cI _) rfl ?_
   refine Z3 ?_
   refine .p (cI _) rfl ?_
   refine Z2 ?_
   refine .p (cA (h := lin_spec)) rfl ?_
   refine Z3 ?_
   refine Cd (fun c32 => ?_) fun c32 => ?_
   ·
    refine Z2 ?_
    refine .p (opAssign (.s [101, 108, 101, 109, 115] rfl rfl)) rfl ?_
    refine Z13 ?_
    refine Rt2 ?_ ?_
    · exact VLe.any
    exact VLe.ex _ ⟨fun h => absurd h (by decide), fun h => by (exfalso; have hL := fo_lens h; have hl1 := hL.sigs; have hl2 := hL.imports; have hl3 := hL.funcs; have hl4 := hL.mems; have hl5 := hL.globals; have hl6 := hL.exports; have hl7 := hL.elems; have hl8 := hL.datas; have hl9 := hL.table; have h9 := (fo_elem h (List.mem_of_getElem? hz)).2.2.2 w (List.mem_of_getElem? hw); exact c32 (by simpa [countM] using h9))⟩ (VLe.refl _)
   refine Z8 ?_
   refine .round (kj + 1) ⟨by omega, hn31.succ hw (by simpa [countM] using c32)⟩ (by omega) rfl ?_
   exact (.get rfl (VLe.int (by omega)) (.keep 25 rfl rfl))
  refine Z11 ?_
  refine .round (kh + 1) ⟨by omega, hn28.succ hz (not_not_intro (elemE_ok (k := kj) (by omega) (by omega) (by omega) hn31 (by omega)))⟩ (by omega) rfl ?_
  exact (.get rfl (VLe.int (by omega)) (.keep 40 rfl rfl))
 have fi : elemsE x = 0 := many_ok (by omega) hn28 (by omega)
 refine Z14 ?_
 refine Cd (fun c33 => ?_) fun c33 => ?_
 ·
  refine Z2 ?_
  refine .p (opAssign (.s [100, 97, 116, 97] rfl rfl)) rfl ?_
  refine Z5 ?_
  refine Rt2 ?_ ?_
  · exact VLe.any
  exact VLe.ex _ ⟨fun h => absurd h (by decide), fun h => by (exfalso; have hL := fo_lens h; have hl1 := hL.sigs; have hl2 := hL.imports; have hl3 := hL.funcs; have hl4 := hL.mems; have hl5 := hL.globals; have hl6 := hL.exports; have hl7 := hL.elems; have hl8 := hL.datas; have hl9 := hL.table; omega)⟩ (VLe.refl _)
 refine Z9 ?_
 refine .loopO (σ := Nat) (fun _ => []) (fun kl => [(19, intV .i64 (kl : Int))]) (fun kl => kl ≤ x.Datas.length ∧ NotB (fun z : DataD => dataE x z ≠ 0) x.Datas kl) (fun kl => x.Datas.length - kl) 0 ⟨by omega, NotB.zero _ _⟩ rfl ?_ ?_
 · exact (.get rfl (VLe.refl _) (.refl _ _))
 rintro kl ⟨hk34, hn34⟩
 refine Z10 ?_
 refine Cd (fun c34 => ?_) fun c34 => ?_
 ·
  obtain ⟨z, hz⟩ := getElem?_lt (xs := x.Datas) (k := kl) (by omega)
  refine Z9 ?_
  refine .p (cI _) rfl ?_
  refine Z1 ?_
  refine .n (opAlloc Tryz.zb95) rfl fun b20 _ => ?_
  refine Z3 ?_
  refine .share (t := 20) (i := 0) rfl rfl ?_
  refine Z9 ?_
  refine Cd (fun c35 => ?_) fun c35 => ?_
  ·
   refine Z2 ?_
   refine .p (opAssign (.s [100, 97, 116, 97] rfl rfl)) rfl ?_
   refine Z10 ?_
   refine Rt2 ?_ ?_
   · exact VLe.any
   exact VLe.ex _ ⟨fun h => absurd h (by decide), fun h => by (exfalso; have hL := fo_lens h; have hl1 := hL.sigs; have hl2 := hL.imports; have hl3 := hL.funcs; have hl4 := hL.mems; have hl5 := hL.globals; have hl6 := hL.exports; have hl7 := hL.elems; have hl8 := hL.datas; have hl9 := hL.table; have h9 := (fo_data h (List.mem_of_getElem? hz)).1; omega)⟩ (VLe.refl _)
  refine Z10 ?_
  refine .p (cA (h := lin_spec)) rfl ?_
  refine Z3 ?_
  refine Cd (fun c36 => ?_) fun c36 => ?_
  ·
   refine Z2 ?_
   refine .p (opAssign (.s [100, 97, 116, 97] rfl rfl)) rfl ?_
   refine Z10 ?_
   refine Rt2 ?_ ?_
   · exact VLe.any
   exact VLe.ex _ ⟨fun h => absurd h (by decide), fun h => by (exfalso; have hL := fo_lens h; have hl1 := hL.sigs; have hl2 := hL.imports; have hl3 := hL.funcs; have hl4 := hL.mems; have hl5 := hL.globals; have hl6 := hL.exports; have hl7 := hL.elems; have hl8 := hL.datas; have hl9 := hL.table; have h9 := (fo_data h (List.mem_of_getElem? hz)).2.1; exact c36 (by simpa using h9))⟩ (VLe.refl _)
  obtain ⟨hy3, hy2⟩ := InP.at (n := z.Mem) (k := x.Mems.length) (by simpa using c36)
  obtain ⟨y, hy1⟩ := getElem?_lt (xs := x.Mems) (k := z.Mem.toNat) hy3
  refine Z8 ?_
  refine .p (cI z.Mem.toNat (h := hy1) (hi := hy2)) rfl ?_
  refine Z10 ?_
  refine Cd (fun c37 => ?_) fun c37 => ?_
  ·
   refine Z2 ?_
   refine .p (opAssign (.s [100, 97, 116, 97] rfl rfl)) rfl ?_
   refine Z9 ?_
   refine Rt2 ?_ ?_
   · exact VLe.any
   exact VLe.ex _ ⟨fun h => absurd h (by decide), fun h => by (exfalso; have hL := fo_lens h; have hl1 := hL.sigs; have hl2 := hL.imports; have hl3 := hL.funcs; have hl4 := hL.mems; have hl5 := hL.globals; have hl6 := hL.exports; have hl7 := hL.elems; have hl8 := hL.datas; have hl9 := hL.table; have h9 := (fo_data h (List.mem_of_getElem? hz)).2.2 y hy1; exact h9 c37)⟩ (VLe.refl _)
  refine Z8 ?_
  refine .round (kl + 1) ⟨by omega, hn34.succ hz (not_not_intro (dataE_ok (by omega) (by simpa using c36) hy1 (by simpa using c37)))⟩ (by omega) rfl ?_
  exact (.get rfl (VLe.int (by omega)) (.keep 40 rfl rfl))
 have fj : datasE x = 0 := many_ok (by omega) hn34 (by omega)
 refine Z7 ?_
 refine .p (opAssign (.s [] rfl rfl)) rfl ?_
 refine Z4 ?_
 refine Rt2 ?_ ?_
 · exact VLe.any
 exact VLe.ex _ ⟨fun _ => ⟨fa, fb, fc, fd, fe, ff, fg, fh, fi, fj⟩, fun _ => rfl⟩ (VLe.refl _)
end Go.Proofs.YtmmdlhjcmlekfaaGreatDoor
end
section
namespace Go.Proofs.YtmmdlhjcmlekfaaGreatDoor
open Go.Hl Go.RowKit
theorem dblock_spec {n : Nat} {l : List InstrD} {a d : Nat} (hp0 : l.length - a < n) (hp1 : a ≤ l.length) (hp2 : d ≤ 64) (hp3 : l.length ≤ 10000) : FnE Tryz.prog 104 [sliceV 5 encInstr (l), intV .i64 ((a : Int)), intV .i64 ((d : Int))] [] (γ := Int × SB × List SpD × Int) (fun g => rcP l a d g.1 g.2.2.1 g.2.2.2) (fun g => [sliceH g.2.1 3 encSpan3 g.2.2.1]) (fun g => tupV [intV .i64 g.1, exactV (sval g.2.1 g.2.2.1.length), intV .i64 g.2.2.2]) := by
 induction n generalizing a d
 case zero => omega
 rename_i n ih
 refine In 128 Tryz.func104 fun _ _ _ => ?_
 refine Z12 ?_
 refine .ownNil 3 encSpan3 ?_
 refine Z2 ?_
 refine .loopO (σ := Nat × SB × List SpD) (fun g => [sliceH g.2.1 3 encSpan3 g.2.2]) (fun g => [(1, intV .i64 (g.1 : Int)), (9, exactV (sval g.2.1 g.2.2.length))]) (fun g => a ≤ g.1 ∧ g.1 ≤ l.length ∧ g.2.2.length + a ≤ g.1 ∧ rc ((codesL l).drop a) d = rc ((codesL l).drop g.1) d) (fun g => l.length - g.1) (a, none, []) ⟨Nat.le_refl _, hp1, by simp, rfl⟩ rfl ?_ ?_
 · exact (.get rfl (VLe.refl _) (.get rfl (VLe.of_eq rfl) (.refl _ _)))
 rintro ⟨i, gs, out⟩ ⟨hai, hil, hol, hrc⟩
 simp only at hai hil hol hrc ⊢
 refine Z9 ?_
 refine Cd (fun c0 => ?_) fun c0 => ?_
 ·
  obtain ⟨x, hx⟩ := getElem?_lt (xs := l) (k := i) (by omega)
  refine Z7 ?_
  refine .p (cI i (h := hx)) rfl ?_
  refine Z16 ?_
  refine Cd (fun c1 => ?_) fun c1 => ?_
  ·
   refine Z15 ?_
   refine Post.retR rfl rfl (((i : Int), gs, out, 0)) (by exact .inl ⟨rfl, i, rfl, by rw [hrc, codes_at hx, rc_end c1], by omega, hil, by omega⟩) (fun _ _ _ h => h) rfl (.cons (.rt rfl) ?_ (.cons (.rt rfl) ?_ (.cons (.rt rfl) ?_ .nil)))
   · exact VLe.refl _
   · exact VLe.refl _
   exact VLe.refl _
  refine Z13 ?_
  refine Cd (fun c2 => ?_) fun c2 => ?_
  ·
   refine Z10 ?_
   refine .round (i + 1, gs, out) ⟨by show a ≤ i + 1; omega, by show i + 1 ≤ _; omega, by show out.length + a ≤ i + 1; omega, by (show _ = rc ((codesL l).drop (i + 1)) d; rw [hrc, codes_at hx, rc_plain c1 (by unfold opensC; omega)])⟩ (by show l.length - (i + 1) < l.length - i; omega) rfl ?_
   exact (.get rfl (VLe.int (by show (_ : Int) = ((i + 1 : Nat) : Int); omega)) (.get rfl (VLe.refl _) ((.keep 27 rfl rfl))))
  have ho : opensC x.Code := by unfold opensC; omega
  refine Z9 ?_
  refine Cd (fun c3 => ?_) fun c3 => ?_
  ·
   refine Z14 ?_
   refine Post.retR rfl rfl (((i : Int), none, [], 15)) (by exact .inr ⟨by show (15 : Int) ≠ 0; decide, by rw [hrc, codes_at hx]; exact rc_deep ho (by omega), rfl⟩) (OLe.trans (OLe.nil _) OLe.none) rfl (.cons (.rt rfl) ?_ (.cons (.rt rfl) ?_ (.cons (.rt rfl) ?_ .nil)))
   · exact VLe.refl _
   · exact VLe.refl _
   exact VLe.refl _
  have hd : ¬ 64 ≤ d := by omega
  refine Z6 ?_
  refine .n (opAlloc Tryz.zb237) rfl fun b11 _ => ?_
  refine Z10 ?_
  refine .n (opCallE (rest := [_, _]) (@ih (i + 1) (d + 1) (by omega) (by omega) (by omega)) Tryz.cb104 (.cons (.t rfl) (.cons (.le (.t rfl) (VLe.int (show (i : Int) + 1 = ((i + 1 : Nat) : Int) by omega))) (.cons (.le (.t rfl) (VLe.int (show (d : Int) + 1 = ((d + 1 : Nat) : Int) by omega))) .nil))) (Perm.idx [0, 1] rfl rfl)) rfl fun g52 h52 => ?_
  refine Z9 ?_
  refine .cut (σ := Int × SB × List SpD × Int × Int) (fun z => [sliceH z.2.1 3 encSpan3 z.2.2.1, cellsH b11 [intV .i64 (i : Int), intV .i64 z.2.2.2.2, intV .i64 (-1)], sliceH gs 3 encSpan3 out]) (fun z => [(12, intV .i64 z.1), (13, exactV (sval z.2.1 z.2.2.1.length)), (14, intV .i64 z.2.2.2.1)]) (fun z => rcM l i d z.1 z.2.2.1 z.2.2.2.1) ?_ ?_
  ·
   refine Z13 ?_
   refine .g (OpG.gT rfl rfl rfl rfl (fun hg => opIndexAddr (j := g52.1.toNat) Tryz.underlying69 Tryz.cz150 rfl (.when (.t rfl) hg) (.when (.t rfl) hg) (by (rcases h52 with ⟨_, k, h2, _⟩ | ⟨h1, _⟩; omega; exact absurd hg.1 h1)) (gI_in (by omega)))) rfl rfl ?_
   refine Z6 ?_
   refine Cd (fun c4 => ?_) fun c4 => ?_
   ·
    refine Z7 ?_
    refine Cd (fun c5 => ?_) fun c5 => ?_
    ·
     refine Z15 ?_
     refine Post.retR rfl rfl ((g52.1, none, [], 4)) (by exact .inr ⟨by show (4 : Int) ≠ 0; decide, by (rw [hrc]; rcases h52 with ⟨_, k, h2, h3, _, h5, _⟩ | ⟨h1, _⟩; (have hk : g52.1.toNat = k := by omega); have hc := c4.2; (rw [hk] at hc); exact rc_else_no hx ho hd h3 (gI_in (by omega)) hc c5; exact absurd c4.1.1 h1), rfl⟩) (OLe.trans (OLe.nil _) OLe.none) rfl (.cons (.rt rfl) ?_ (.cons (.rt rfl) ?_ (.cons (.rt rfl) ?_ .nil)))
     · exact VLe.refl _
     · exact VLe.refl _
     exact VLe.refl _
    have h4 : x.Code = 4 := by omega
    have hen0 : 0 ≤ g52.1 ∧ i + 1 ≤ g52.1.toNat ∧ g52.1.toNat < l.length := by (have h8 := c4.1.2; rcases h52 with ⟨_, k, h2, _, h3, _⟩ | ⟨h1, _⟩; omega; exact absurd c4.1.1 h1)
    refine Z21 ?_
    refine .n (opCallE (rest := [_, _, _]) (@ih (g52.1.toNat + 1) (d + 1) (by omega) (by omega) (by omega)) Tryz.cb104 (.cons (.t rfl) (.cons (.le (.t rfl) (VLe.int (show g52.1 + 1 = ((g52.1.toNat + 1 : Nat) : Int) by omega))) (.cons (.le (.t rfl) (VLe.int (show (d : Int) + 1 = ((d + 1 : Nat) : Int) by omega))) .nil))) (Perm.idx [0, 1, 2] rfl rfl)) rfl fun g83 h83 => ?_
    refine Z10 ?_
    refine .shareS (t := 15) (i := 0) (g := g83.2.1) (xs := g83.2.2.1) rfl rfl ?_
    refine Z3 ?_
    refine .n (opAppend (i := 0) Tryz.underlying156 Tryz.underlying156 Tryz.cz237 rfl Tryz.zb237 rfl Tryz.by237 (.t rfl) (.t rfl) rfl (by have := rcP_len h52; have := rcP_len h83; omega) (by have := rcP_len h52; have := rcP_len h83; omega)) rfl fun g89 _ => ?_
    refine Z16 ?_
    refine .g (OpG.gT rfl rfl rfl rfl (fun hg => opIndexAddr (j := g83.1.toNat) Tryz.underlying69 Tryz.cz150 rfl (.when (.t rfl) hg) (.when (.t rfl) hg) (by (rcases h83 with ⟨_, k, h2, _⟩ | ⟨h1, _⟩; omega; exact absurd hg.1 h1)) (gI_in (by omega)))) rfl rfl ?_
    refine Z6 ?_
    refine Cd (fun c6 => ?_) fun c6 => ?_
    ·
     refine Z14 ?_
     refine Post.retR rfl rfl ((g83.1, none, [], 4)) (by exact .inr ⟨by show (4 : Int) ≠ 0; decide, by rw [hrc]; exact (rcM_two hx ho hd hp2 h52 hp3 c4 h4 h83).1 c6, rfl⟩) (OLe.trans (OLe.nil _) OLe.none) rfl (.cons (.rt rfl) ?_ (.cons (.rt rfl) ?_ (.cons (.rt rfl) ?_ .nil)))
     · exact VLe.refl _
     · exact VLe.refl _
     exact VLe.refl _
    refine Z1 ?_
    refine .meet (g83.1, g89, g52.2.2.1 ++ g83.2.2.1, g83.2.2.2, g52.1) ((rcM_two hx ho hd hp2 h52 hp3 c4 h4 h83).2 c6) rfl (.get rfl (VLe.refl _) (.get rfl (VLe.refl _) (.get rfl (VLe.refl _) (.keep 55 rfl rfl))))
   refine Z1 ?_
   refine .meet (g52.1, g52.2.1, g52.2.2.1, g52.2.2.2, -1) (rcM_one hx ho hd h52 hp3 c4) rfl (.get rfl (VLe.refl _) (.get rfl (VLe.refl _) (.get rfl (VLe.refl _) (.keep 16 rfl rfl))))
  intro ⟨en, gi, inn, e, el⟩ hM
  simp only at hM ⊢
  refine Z7 ?_
  refine Cd (fun c7 => ?_) fun c7 => ?_
  ·
   refine Z15 ?_
   refine Post.retR rfl rfl ((en, none, [], e)) (by exact .inr ⟨c7, by (rw [hrc]; rcases hM with ⟨_, h, _⟩ | ⟨h1, _⟩ | ⟨h1, _⟩; exact h; exact absurd h1 c7; exact absurd h1 c7), rfl⟩) (OLe.trans (OLe.nil _) OLe.none) rfl (.cons (.rt rfl) ?_ (.cons (.rt rfl) ?_ (.cons (.rt rfl) ?_ .nil)))
   · exact VLe.refl _
   · exact VLe.refl _
   exact VLe.refl _
  refine Z11 ?_
  refine Cd (fun c8 => ?_) fun c8 => ?_
  ·
   refine Z14 ?_
   refine Post.retR rfl rfl ((en, none, [], 4)) (by exact .inr ⟨by show (4 : Int) ≠ 0; decide, by (rw [hrc]; rcases hM with ⟨h1, h, _⟩ | ⟨_, _, h, _⟩ | ⟨_, k, h1, h2, _⟩; exact h; exact h; exact absurd c8 (by omega)), rfl⟩) (OLe.trans (OLe.nil _) OLe.none) rfl (.cons (.rt rfl) ?_ (.cons (.rt rfl) ?_ (.cons (.rt rfl) ?_ .nil)))
   · exact VLe.refl _
   · exact VLe.refl _
   exact VLe.refl _
  obtain ⟨hk0, k, hk1, hk2, hk3, hk4, hk5⟩ : e = 0 ∧ ∃ k : Nat, en = (k : Int) ∧ k < l.length ∧ rc ((codesL l).drop i) d = rc ((codesL l).drop (k + 1)) d ∧ i + 1 ≤ k ∧ inn.length + i + 1 ≤ k := by (rcases hM with ⟨h1, _⟩ | ⟨_, h1, _⟩ | h1; exact absurd h1 c7; exact absurd h1 c8; exact h1)
  refine Z10 ?_
  refine .shareS (t := 13) (i := 0) (g := gi) (xs := inn) rfl rfl ?_
  refine Z3 ?_
  refine .p (cB encSpan3 [((i : Int), el, en)]) rfl ?_
  refine .n (opAppend (i := 1) Tryz.underlying156 Tryz.underlying156 Tryz.cz237 rfl Tryz.zb237 rfl Tryz.by237 (.t rfl) (.t rfl) rfl (by simp only [List.length_cons, List.length_nil]; omega) (by simp only [List.length_cons, List.length_nil]; omega)) rfl fun g121 _ => ?_
  refine Z1 ?_
  refine .n (opAppend (i := 1) Tryz.underlying156 Tryz.underlying156 Tryz.cz237 rfl Tryz.zb237 rfl Tryz.by237 (.t rfl) (.t rfl) rfl (by simp only [List.length_append, List.length_cons, List.length_nil]; omega) (by simp only [List.length_append, List.length_cons, List.length_nil]; omega)) rfl fun g123 _ => ?_
  refine Z9 ?_
  refine .own (OLe.sel [1] [0] rfl rfl) (EndT.round (k + 1, g123, (out ++ [((i : Int), el, en)]) ++ inn) ⟨by show a ≤ k + 1; omega, by show k + 1 ≤ _; omega, by (show ((out ++ [_]) ++ inn).length + a ≤ k + 1; simp only [List.length_append, List.length_cons, List.length_nil]; omega), by (show _ = rc ((codesL l).drop (k + 1)) d; rw [hrc, hk3])⟩ (by show l.length - (k + 1) < l.length - i; omega) rfl ?_)
  exact (.get rfl (VLe.int (by show (_ : Int) = ((k + 1 : Nat) : Int); omega)) (.get rfl (VLe.refl _) ((.keep 64 rfl rfl))))
 refine Z15 ?_
 refine Post.retR rfl rfl (((i : Int), gs, out, 0)) (by exact .inl ⟨rfl, i, rfl, by (rw [hrc, codes_end (by omega)]; rfl), by omega, hil, by omega⟩) (fun _ _ _ h => h) rfl (.cons (.rt rfl) ?_ (.cons (.rt rfl) ?_ (.cons (.rt rfl) ?_ .nil)))
 · exact VLe.refl _
 · exact VLe.refl _
 exact VLe.refl _
theorem dspans_spec {l : List InstrD} (hp0 : l.length ≤ 10000) : FnE Tryz.prog 76 [sliceV 5 encInstr (l)] [] (γ := Int) (fun e => e = 0 ↔ nrun (codesL l) []) (fun _ => []) (fun e => tupV [anyV, anyV, intV .i64 e]) := by
 refine In 39 Tryz.func76 fun _ _ _ => ?_
 refine Z10 ?_
 refine .n (cE (h := dblock_spec (n := l.length + 1) (a := 0) (d := 0) (by omega) (Nat.zero_le _) (by omega) hp0)) rfl fun g10 h10 => ?_
 refine Z16 ?_
 refine Cd (fun c0 => ?_) fun c0 => ?_
 ·
  have hno : ¬ nrun (codesL l) [] := fun h => by (rw [nrun_rc] at h; rcases h10 with ⟨h1, _⟩ | ⟨_, h2, _⟩; exact c0 h1; rw [List.drop_zero] at h2; rw [h2] at h; cases h)
  refine Z11 ?_
  refine Post.retR rfl rfl (g10.2.2.2) (by exact ⟨fun h => absurd h c0, fun h => absurd h hno⟩) (fun _ _ _ _ => trivial) rfl (.cons (.rt rfl) ?_ (.cons (.rt rfl) ?_ (.cons (.rt rfl) ?_ .nil)))
  · exact VLe.any
  · exact VLe.any
  exact VLe.refl _
 obtain ⟨h1, k, hk1, hk2, _, hk3, _⟩ : g10.2.2.2 = 0 ∧ ∃ n : Nat, g10.1 = (n : Int) ∧ rc ((codesL l).drop 0) 0 = some ((codesL l).drop n) ∧ 0 ≤ n ∧ n ≤ l.length ∧ g10.2.2.1.length + 0 ≤ n := by (rcases h10 with h | ⟨h1, _⟩; exact h; exact absurd (Classical.not_not.1 c0) h1)
 rw [List.drop_zero] at hk2
 have hkk : g10.1.toNat = k := by omega
 refine Z12 ?_
 refine .g (OpG.gF rfl rfl rfl rfl (fun hg => opIndexAddr (j := g10.1.toNat) Tryz.underlying69 Tryz.cz150 rfl (.when (.t rfl) hg) (.when (.t rfl) hg) (by (rcases h10 with ⟨_, k, h2, _⟩ | ⟨h1, _⟩; omega; exact absurd (Classical.not_not.1 c0) h1)) (gI_in (by (rcases h10 with ⟨_, k, h2, _, _, h5, _⟩ | ⟨h1, _⟩; omega; exact absurd (Classical.not_not.1 c0) h1))))) rfl rfl ?_
 refine Z6 ?_
 refine Cd (fun c1 => ?_) fun c1 => ?_
 ·
  refine Z10 ?_
  refine Post.retR rfl rfl (4) (by exact ⟨fun h => by simp at h, fun h => by (rw [nrun_rc, hk2] at h; rcases c1 with c1 | c1; (rw [codes_end (by omega)] at h; cases h); (by_cases hlt : k < l.length; (rw [codes_at (gI_in hlt)] at h; rw [hkk] at c1; rw [c1] at h; simp at h); (rw [codes_end (by omega)] at h; cases h)))⟩) (fun _ _ _ _ => trivial) rfl (.cons (.rt rfl) ?_ (.cons (.rt rfl) ?_ (.cons (.rt rfl) ?_ .nil)))
  · exact VLe.any
  · exact VLe.any
  exact VLe.refl _
 have hlt : k < l.length := by (have : ¬ g10.1 = (l.length : Int) := fun h => c1 (.inl h); omega)
 have hy : l[k]? = some (gI l k) := gI_in hlt
 have hn5 : ¬ (gI l k).Code = 5 := fun h => c1 (.inr (by rw [hkk]; exact h))
 rw [codes_at hy] at hk2
 have h11 := (rc_head (by omega) hk2).resolve_right hn5
 refine Z12 ?_
 refine Cd (fun c2 => ?_) fun c2 => ?_
 ·
  refine Z11 ?_
  refine Post.retR rfl rfl (4) (by exact ⟨fun h => by simp at h, fun h => by (rw [nrun_rc, hk2] at h; simp only [Option.some.injEq, List.cons.injEq] at h; have h9 := congrArg List.length h.2; rw [List.length_drop, codes_len] at h9; simp at h9; omega)⟩) (fun _ _ _ _ => trivial) rfl (.cons (.rt rfl) ?_ (.cons (.rt rfl) ?_ (.cons (.rt rfl) ?_ .nil)))
  · exact VLe.any
  · exact VLe.any
  exact VLe.refl _
 refine Z11 ?_
 refine Post.retR rfl rfl (0) (by exact ⟨fun _ => by (rw [nrun_rc, hk2, h11, codes_end (by omega)]), fun _ => rfl⟩) (fun _ _ _ _ => trivial) rfl (.cons (.rt rfl) ?_ (.cons (.rt rfl) ?_ (.cons (.rt rfl) ?_ .nil)))
 · exact VLe.any
 · exact VLe.any
 exact VLe.refl _
end Go.Proofs.YtmmdlhjcmlekfaaGreatDoor
end
section
namespace Go.Proofs.YtmmdlhjcmlekfaaGreatDoor
open Go.Hl Go.RowKit
theorem dput_spec {n : Nat} (hp0 : n < 18446744073709551616) : FnE Tryz.prog 77 [intV .u64 ((n : Int))] [] (γ := List UInt8) (fun z => z.length = lenU n) (fun _ => []) (fun z => sliceV 1 encU8 z) := by
 refine In 20 Tryz.func77 fun _ _ _ => ?_
 have hl10 := lenU_64 hp0
 refine Z10 ?_
 refine .ownNil 1 encU8 ?_
 refine Z2 ?_
 refine .loopO (σ := SB × List UInt8 × Nat) (fun z => [sliceH z.1 1 encU8 z.2.1]) (fun z => [(3, exactV (sval z.1 z.2.1.length)), (0, intV .u64 (z.2.2 : Int))]) (fun z => z.2.1.length + lenU z.2.2 = lenU n ∧ z.2.2 ≤ n) (fun z => z.2.2) (none, [], n) ⟨by simp, Nat.le_refl _⟩ rfl ?_ ?_
 · exact (.get rfl (VLe.of_eq rfl) (.get rfl (VLe.refl _) (.refl _ _)))
 rintro ⟨g1, ys, j⟩ ⟨hl, hk⟩
 simp only at hl hk ⊢
 refine Z7 ?_
 refine Cd (fun c0 => ?_) fun c0 => ?_
 ·
  refine Z7 ?_
  refine .p (opRem_u64 (b := 128) (by decide) (.t rfl) (.c _)) rfl ?_
  refine .p ((opConv Tryz.underlying58 Tryz.underlying5 (.t rfl)).le (VLe.int (show _ = ((j % 128 : Nat) : Int) by rw [u8_wr]; omega))) rfl ?_
  refine .p ((opAddF (.t rfl) (.c _) fits_z).le (VLe.trans (VLe.int (show _ = ((j % 128 + 128 : Nat) : Int) by omega)) (u8_nt (by omega)))) rfl ?_
  refine .p (cB encU8 [(UInt8.ofNat (j % 128 + 128))]) rfl ?_
  refine .n (opAppend (i := 0) Tryz.underlying64 Tryz.underlying64 Tryz.cz5 rfl Tryz.zb5 rfl Tryz.by5 (.t rfl) (.t rfl) rfl (by simp only [List.length_cons, List.length_nil]; omega) (by simp only [List.length_cons, List.length_nil]; omega)) rfl fun g12 _ => ?_
  refine Z5 ?_
  refine .p (opQuo_u64 (b := 128) (by omega) (.t rfl) (.c _)) rfl ?_
  refine Z3 ?_
  refine .round (g12, ys ++ [(UInt8.ofNat (j % 128 + 128))], j / 128) ⟨by (show (ys ++ [_]).length + lenU (j / 128) = _; rw [List.length_append]; simp only [List.length_cons, List.length_nil]; have := lenU_ge (n := j) (by omega); omega), by show j / 128 ≤ n; omega⟩ (by show j / 128 < j; omega) rfl ?_
  exact (.get rfl (VLe.refl _) (.get rfl (VLe.refl _) ((.keep 15 rfl rfl))))
 refine Z9 ?_
 refine .p ((opConv Tryz.underlying58 Tryz.underlying5 (.t rfl)).le (VLe.trans (VLe.int (show _ = ((j : Nat) : Int) by rw [u8_wr]; omega)) (u8_nt (by omega)))) rfl ?_
 refine .p (cB encU8 [UInt8.ofNat j]) rfl ?_
 refine .n (OpE.shareS (G := fun g => g) (hs1 := fun _ => _) (xs := fun _ => _) (opAppend (i := 0) Tryz.underlying64 Tryz.underlying64 Tryz.cz5 rfl Tryz.zb5 rfl Tryz.by5 (.t rfl) (.t rfl) rfl (by simp only [List.length_cons, List.length_nil]; omega) (by simp only [List.length_cons, List.length_nil]; omega))) rfl fun _ _ => ?_
 refine Z4 ?_
 refine Post.retR1 rfl (ys ++ [UInt8.ofNat j]) (by exact (by (show (ys ++ [_]).length = _; rw [List.length_append]; simp only [List.length_cons, List.length_nil]; have := lenU_lt (n := j) (by omega); omega))) (fun _ _ _ h => h) (.rt rfl) ?_
 exact VLe.refl _
theorem dputO_spec {n : Nat} (hp0 : n < 18446744073709551616) : FnE Tryz.prog 77 [intV .u64 ((n : Int))] [] (γ := SB × List UInt8) (fun z => z.2.length = lenU n) (fun z => [sliceH z.1 1 encU8 z.2]) (fun z => exactV (sval z.1 z.2.length)) := by
 refine In 20 Tryz.func77 fun _ _ _ => ?_
 have hl10 := lenU_64 hp0
 refine Z10 ?_
 refine .ownNil 1 encU8 ?_
 refine Z2 ?_
 refine .loopO (σ := SB × List UInt8 × Nat) (fun z => [sliceH z.1 1 encU8 z.2.1]) (fun z => [(3, exactV (sval z.1 z.2.1.length)), (0, intV .u64 (z.2.2 : Int))]) (fun z => z.2.1.length + lenU z.2.2 = lenU n ∧ z.2.2 ≤ n) (fun z => z.2.2) (none, [], n) ⟨by simp, Nat.le_refl _⟩ rfl ?_ ?_
 · exact (.get rfl (VLe.of_eq rfl) (.get rfl (VLe.refl _) (.refl _ _)))
 rintro ⟨g1, ys, j⟩ ⟨hl, hk⟩
 simp only at hl hk ⊢
 refine Z7 ?_
 refine Cd (fun c0 => ?_) fun c0 => ?_
 ·
  refine Z7 ?_
  refine .p (opRem_u64 (b := 128) (by decide) (.t rfl) (.c _)) rfl ?_
  refine .p ((opConv Tryz.underlying58 Tryz.underlying5 (.t rfl)).le (VLe.int (show _ = ((j % 128 : Nat) : Int) by rw [u8_wr]; omega))) rfl ?_
  refine .p ((opAddF (.t rfl) (.c _) fits_z).le (VLe.trans (VLe.int (show _ = ((j % 128 + 128 : Nat) : Int) by omega)) (u8_nt (by omega)))) rfl ?_
  refine .p (cB encU8 [(UInt8.ofNat (j % 128 + 128))]) rfl ?_
  refine .n (opAppend (i := 0) Tryz.underlying64 Tryz.underlying64 Tryz.cz5 rfl Tryz.zb5 rfl Tryz.by5 (.t rfl) (.t rfl) rfl (by simp only [List.length_cons, List.length_nil]; omega) (by simp only [List.length_cons, List.length_nil]; omega)) rfl fun g12 _ => ?_
  refine Z5 ?_
  refine .p (opQuo_u64 (b := 128) (by omega) (.t rfl) (.c _)) rfl ?_
  refine Z3 ?_
  refine .round (g12, ys ++ [(UInt8.ofNat (j % 128 + 128))], j / 128) ⟨by (show (ys ++ [_]).length + lenU (j / 128) = _; rw [List.length_append]; simp only [List.length_cons, List.length_nil]; have := lenU_ge (n := j) (by omega); omega), by show j / 128 ≤ n; omega⟩ (by show j / 128 < j; omega) rfl ?_
  exact (.get rfl (VLe.refl _) (.get rfl (VLe.refl _) ((.keep 15 rfl rfl))))
 refine Z9 ?_
 refine .p ((opConv Tryz.underlying58 Tryz.underlying5 (.t rfl)).le (VLe.trans (VLe.int (show _ = ((j : Nat) : Int) by rw [u8_wr]; omega)) (u8_nt (by omega)))) rfl ?_
 refine .p (cB encU8 [UInt8.ofNat j]) rfl ?_
 refine .n (opAppend (i := 0) Tryz.underlying64 Tryz.underlying64 Tryz.cz5 rfl Tryz.zb5 rfl Tryz.by5 (.t rfl) (.t rfl) rfl (by simp only [List.length_cons, List.length_nil]; omega) (by simp only [List.length_cons, List.length_nil]; omega)) rfl fun g19 _ => ?_
 refine Z4 ?_
 refine Post.retR1 rfl ((g19, ys ++ [UInt8.ofNat j])) (by exact (by (show (ys ++ [_]).length = _; rw [List.length_append]; simp only [List.length_cons, List.length_nil]; have := lenU_lt (n := j) (by omega); omega))) (fun _ _ _ h => h) (.rt rfl) ?_
 exact VLe.refl _
theorem dputS_spec {n : Int} (hp0 : -9223372036854775808 ≤ n) (hp1 : n ≤ 9223372036854775807) : FnE Tryz.prog 105 [intV .i64 (n)] [] (γ := List UInt8) (fun z => z.length = lenS n) (fun _ => []) (fun z => sliceV 1 encU8 z) := by
 refine In 50 Tryz.func105 fun _ _ _ => ?_
 have hl10 := lenS_64 hp0 (by omega : n < 9223372036854775808)
 refine Z10 ?_
 refine .ownNil 1 encU8 ?_
 refine Z7 ?_
 refine .loopO (σ := SB × List UInt8 × Nat × Int) (fun z => [sliceH z.1 1 encU8 z.2.1]) (fun z => [(0, intV .i64 z.2.2.2), (3, exactV (sval z.1 z.2.1.length)), (4, intV .i64 (z.2.2.1 : Int))]) (fun z => z.2.1.length = z.2.2.1 ∧ z.2.2.1 + lenS z.2.2.2 = lenS n ∧ -9223372036854775808 ≤ z.2.2.2 ∧ z.2.2.2 ≤ 9223372036854775807) (fun z => 10 - z.2.2.1) (none, [], 0, n) ⟨rfl, by simp, hp0, hp1⟩ rfl ?_ ?_
 · exact (.get rfl (VLe.refl _) (.get rfl (VLe.of_eq rfl) (.get rfl (VLe.refl _) (.refl _ _))))
 rintro ⟨g1, ys, j, v⟩ ⟨hl, hk, hv1, hv2⟩
 simp only at hl hk hv1 hv2 ⊢
 have hpos := lenS_pos v
 refine Z7 ?_
 refine Cd (fun c0 => ?_) fun c0 => ?_
 ·
  refine Z7 ?_
  refine .p (opRemT (.t rfl) (.c _) (by decide)) rfl ?_
  refine Z3 ?_
  refine .cut (σ := Unit) (fun _ => [sliceH g1 1 encU8 ys]) (fun _ => [(5, intV .i64 (v % 128))]) (fun _ => True) ?_ ?_
  ·
   refine Z6 ?_
   refine Cd (fun c1 => ?_) fun c1 => ?_
   ·
    refine Z2 ?_
    refine .p (opAddF (.t rfl) (.c _) (fits_i64 (by rw [tmod128]; split <;> omega) (by rw [tmod128]; split <;> omega))) rfl ?_
    refine Z2 ?_
    refine .meet () trivial rfl (.get rfl (VLe.int (by have h9 := tmod128 v; split at h9 <;> omega)) (.keep 5 rfl rfl))
   refine Z1 ?_
   refine .meet () trivial rfl (.get rfl (VLe.int (by have h9 := tmod128 v; split at h9 <;> omega)) (.keep 2 rfl rfl))
  intro _ _
  refine Z4 ?_
  refine .p (opSub (.t rfl) (.t rfl)) rfl ?_
  refine .p (opQuoT (.t rfl) (.c _) (by decide)) rfl ?_
  refine Z3 ?_
  refine .cut (σ := Unit) (fun _ => [sliceH g1 1 encU8 ys]) (fun _ => [(6, intV .i64 (v / 128))]) (fun _ => True) ?_ ?_
  ·
   refine Z6 ?_
   refine Cd (fun c2 => ?_) fun c2 => ?_
   ·
    refine Z3 ?_
    refine .meet () trivial rfl (.get rfl (VLe.int (by omega)) (.keep 3 rfl rfl))
   refine Z1 ?_
   refine .meet () trivial rfl (.get rfl (VLe.int (tdiv128 (by omega) hv2)) (.keep 2 rfl rfl))
  intro _ _
  refine Z19 ?_
  refine Cd (fun c3 => ?_) fun c3 => ?_
  ·
   refine Z4 ?_
   refine .p ((opConv Tryz.underlying2 Tryz.underlying5 (.t rfl)).le (VLe.trans (VLe.int (show _ = (((v % 128).toNat : Nat) : Int) by rw [u8_wr]; omega)) (u8_nt (by omega)))) rfl ?_
   refine .p (cB encU8 [UInt8.ofNat (v % 128).toNat]) rfl ?_
   refine .n (OpE.shareS (G := fun g => g) (hs1 := fun _ => _) (xs := fun _ => _) (opAppend (i := 0) Tryz.underlying64 Tryz.underlying64 Tryz.cz5 rfl Tryz.zb5 rfl Tryz.by5 (.t rfl) (.t rfl) rfl (by simp only [List.length_cons, List.length_nil]; omega) (by simp only [List.length_cons, List.length_nil]; omega))) rfl fun _ _ => ?_
   refine Z10 ?_
   refine Post.retR1 rfl (ys ++ [UInt8.ofNat (v % 128).toNat]) (by exact (by (show (ys ++ [_]).length = _; rw [List.length_append]; simp only [List.length_cons, List.length_nil]; have := lenS_stop c3; omega))) (fun _ _ _ h => h) (.rt rfl) ?_
   exact VLe.refl _
  refine Z6 ?_
  refine .p ((opConv Tryz.underlying2 Tryz.underlying5 (.t rfl)).le (VLe.int (show _ = v % 128 by rw [u8_wr]; omega))) rfl ?_
  refine .p ((opAddF (.t rfl) (.c _) fits_z).le (VLe.trans (VLe.int (show _ = (((v % 128 + 128).toNat : Nat) : Int) by omega)) (u8_nt (by omega)))) rfl ?_
  refine .p (cB encU8 [(UInt8.ofNat ((v % 128 + 128).toNat))]) rfl ?_
  refine .n (opAppend (i := 0) Tryz.underlying64 Tryz.underlying64 Tryz.cz5 rfl Tryz.zb5 rfl Tryz.by5 (.t rfl) (.t rfl) rfl (by simp only [List.length_cons, List.length_nil]; omega) (by simp only [List.length_cons, List.length_nil]; omega)) rfl fun g47 _ => ?_
  refine Z14 ?_
  refine .round (g47, ys ++ [(UInt8.ofNat ((v % 128 + 128).toNat))], j + 1, v / 128) ⟨by (show (ys ++ [_]).length = j + 1; rw [List.length_append]; simp only [List.length_cons, List.length_nil]; omega), by (show j + 1 + lenS (v / 128) = _; have := lenS_go c3; omega), by show _ ≤ v / 128; omega, by show v / 128 ≤ _; omega⟩ (by show 10 - (j + 1) < 10 - j; omega) rfl ?_
  exact (.get rfl (VLe.refl _) (.get rfl (VLe.refl _) (.get rfl (VLe.int (by show (_ : Int) = ((j + 1 : Nat) : Int); omega)) ((.keep 41 rfl rfl)))))
 exfalso
 omega
theorem dright_spec {x : InstrD} (hp0 : InsOk0 x) : FnP Tryz.prog 75 [aggV (encInstr x)] (propV (rightI x)) := by
 refine In 125 Tryz.func75 fun _ _ _ => ?_
 have hxA := hp0.A0
 have hxB := hp0.B0
 have hxL := hp0.Ln
 refine Z11 ?_
 refine .p (cA (h := rname_spec)) rfl ?_
 refine .p (opEqlS (.t rfl) (.s [] rfl rfl)) rfl ?_
 refine Z2 ?_
 refine Cd (fun c0 => ?_) fun c0 => ?_
 ·
  refine Z7 ?_
  refine Rt1 ?_
  exact VLe.prop ⟨fun h => h.elim, fun h => absurd c0 h.1⟩
 refine Z6 ?_
 refine .p (cA (h := rform_spec)) rfl ?_
 refine Z34 ?_
 refine Cd (fun c1 => ?_) fun c1 => ?_
 ·
  refine Z7 ?_
  refine Rt1 ?_
  exact VLe.prop ⟨fun h => h.elim, fun h => by (have h9 := h.2.1; unfold sml at h9; omega)⟩
 refine Z33 ?_
 refine Cd (fun c2 => ?_) fun c2 => ?_
 ·
  refine Z7 ?_
  refine Rt1 ?_
  exact VLe.prop ⟨fun h => h.elim, fun h => by (have h9 := h.2.2.1; omega)⟩
 refine Z40 ?_
 refine Z1 ?_
 refine Cd (fun c3 => ?_) fun c3 => ?_
 ·
  refine Z7 ?_
  refine Rt1 ?_
  exact VLe.prop ⟨fun h => h.elim, fun h => by (have h9 := h.2.2.2.1; omega)⟩
 refine Z9 ?_
 refine .loopO (σ := Nat) (fun _ => []) (fun j => [(4, intV .i64 (j : Int))]) (fun j => j ≤ x.L.length ∧ ∀ n ∈ x.L.take j, sml n) (fun j => x.L.length - j) 0 ⟨Nat.zero_le _, by simp⟩ rfl ?_ ?_
 · exact (.get rfl (VLe.refl _) (.refl _ _))
 rintro j ⟨hj, hall⟩
 refine Z10 ?_
 refine Cd (fun c4 => ?_) fun c4 => ?_
 ·
  obtain ⟨y, hy⟩ := getElem?_lt (xs := x.L) (k := j) (by omega)
  refine Z9 ?_
  refine .p (cI j (h := hy)) rfl ?_
  refine Z4 ?_
  refine Cd (fun c5 => ?_) fun c5 => ?_
  ·
   refine Z11 ?_
   refine Rt1 ?_
   exact VLe.prop ⟨fun h => h.elim, fun h => by (have h9 := h.2.2.2.2.1 y (List.mem_of_getElem? hy); unfold sml at h9; omega)⟩
  refine Z8 ?_
  refine .round (j + 1) ⟨by omega, fun n hn => by (rw [← take_snoc hy] at hn; rcases List.mem_append.1 hn with hn | hn; exact hall n hn; (simp only [List.mem_singleton] at hn; subst hn; unfold sml; omega))⟩ (by omega) rfl ?_
  exact (.get rfl (VLe.int (by omega)) ((.keep 15 rfl rfl)))
 have hall2 : ∀ n ∈ x.L, sml n := fun n hn => hall n (by rw [List.take_of_length_le (by omega)]; exact hn)
 refine Z25 ?_
 refine Rt1 ?_
 exact VLe.prop (by unfold rightI; simp only [← List.length_eq_zero_iff]; exact ⟨fun h => ⟨c0, by unfold sml; omega, by omega, by omega, hall2, by omega⟩, fun h => by have h9 := h.2.2.2.2.2; omega⟩)
end Go.Proofs.YtmmdlhjcmlekfaaGreatDoor
end
