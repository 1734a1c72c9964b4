/-
  Steps that make a list of instructions plainer, as plain functions of lists; that they come to an end.
-/
import Derived.Test.YtgmpadhfgohodaaDoorW05G
import Derived.Test.YtgmpadhfgohodaaDoorM13A
import Derived.Test.YtgmpadhfgohodaaDoorO10B
namespace Go.Hl
set_option linter.unusedVariables false

def noI : InstrD := ⟨-1, 0, 0, 0, []⟩
def zerI : InstrD := ⟨0, 0, 0, 0, []⟩
def mkI (c : Int) (v : Nat) : InstrD := ⟨c, (v : Int), 0, 0, []⟩
/-- its first number is a word -/
def okI (x : InstrD) : Prop := 0 ≤ x.A ∧ x.A < 18446744073709551616
theorem mkI_ok {c : Int} {v : Nat} (h : v < 18446744073709551616) : okI (mkI c v) := ⟨Int.natCast_nonneg _, by show (v : Int) < _; omega⟩
def isC (x : InstrD) : Prop := x.Code = 65 ∨ x.Code = 66
instance (x : InstrD) : Decidable (isC x) := by unfold isC; infer_instance
def outC (c : Int) : Int := if (takesR c).2 = [126] then 66 else 65
def oneC (c : Int) (a : Nat) : Option Nat :=
  if c = 69 then some (unF 32 3 (a % 2 ^ 32)) else if c = 80 then some (unF 64 3 (a % 2 ^ 64))
  else if 103 ≤ c ∧ c ≤ 105 then some (unF 32 (c - 103) (a % 2 ^ 32)) else if 121 ≤ c ∧ c ≤ 123 then some (unF 64 (c - 121) (a % 2 ^ 64))
  else if c = 167 then some (a % 4294967296) else if c = 172 then some (extF 32 64 True a) else if c = 173 then some (extF 32 64 False a)
  else if c = 192 then some (extF 8 32 True a) else if c = 193 then some (extF 16 32 True a) else if c = 194 then some (extF 8 64 True a) else if c = 195 then some (extF 16 64 True a) else if c = 196 then some (extF 32 64 True a) else none
noncomputable def twoV (c : Int) (a b : Nat) : Nat :=
  if 70 ≤ c ∧ c ≤ 79 then testF 32 (c - 70) (a % 2 ^ 32) (b % 2 ^ 32) else if 81 ≤ c ∧ c ≤ 90 then testF 64 (c - 81) (a % 2 ^ 64) (b % 2 ^ 64)
  else if 106 ≤ c ∧ c ≤ 120 then binV 32 (c - 106) (a % 2 ^ 32) (b % 2 ^ 32) else if 124 ≤ c ∧ c ≤ 138 then binV 64 (c - 124) (a % 2 ^ 64) (b % 2 ^ 64) else 0
def twoOk (c : Int) (a b : Nat) : Prop :=
  if 70 ≤ c ∧ c ≤ 79 then True else if 81 ≤ c ∧ c ≤ 90 then True
  else if 106 ≤ c ∧ c ≤ 120 then trapF 32 (c - 106) (a % 2 ^ 32) (b % 2 ^ 32) = 0 else if 124 ≤ c ∧ c ≤ 138 then trapF 64 (c - 124) (a % 2 ^ 64) (b % 2 ^ 64) = 0 else False
theorem testF_lt {n : Nat} {op : Int} {A B : Nat} : testF n op A B < 2 := by unfold testF; split <;> decide
theorem unF_lt {n : Nat} {op : Int} {A : Nat} (hn : WN n) (hA : A < 2 ^ n) : unF n op A < 18446744073709551616 := by
  have h1 := tzN_le n A; have h2 := popN_le n A
  unfold unF; rcases hn with rfl | rfl <;> (repeat' split) <;> omega
theorem binF_lt {n : Nat} {op : Int} {A B : Nat} (hn : WN n) (hA : A < 2 ^ n) (hB : B < 2 ^ n) (h0 : 0 ≤ op) : binF n op A B < 2 ^ n := by
  rcases Int.lt_or_le op 7 with h | h
  · rw [← arith_cut hn h hA hB h0]; exact Nat.mod_lt _ (Nat.two_pow_pos n)
  · rw [← bits_cut hn h hA hB]; exact Nat.mod_lt _ (Nat.two_pow_pos n)
theorem binV_lt {n : Nat} {op : Int} {A B : Nat} (hn : WN n) (hA : A < 2 ^ n) (hB : B < 2 ^ n) (h0 : 0 ≤ op) : binV n op A B < 18446744073709551616 := by
  have := binF_lt hn hA hB h0
  unfold binV
  split
  · exact lt64 hn this
  · decide
theorem extF_lt {f t : Nat} {s : Prop} [Decidable s] {a : Nat} (hf : f = 8 ∨ f = 16 ∨ f = 32) (ht : t = 32 ∨ t = 64) : extF f t s a < 18446744073709551616 := by
  unfold extF
  rcases hf with rfl | rfl | rfl <;> rcases ht with rfl | rfl <;> split <;> omega
theorem oneC_lt {c : Int} {a v : Nat} (h : oneC c a = some v) : v < 18446744073709551616 := by
  have m32 := Nat.mod_lt a (Nat.two_pow_pos 32)
  have m64 := Nat.mod_lt a (Nat.two_pow_pos 64)
  unfold oneC at h
  by_cases c0 : c = 69
  · rw [if_pos c0] at h; obtain rfl := Option.some.inj h; exact unF_lt (.inl rfl) m32
  rw [if_neg c0] at h
  by_cases c1 : c = 80
  · rw [if_pos c1] at h; obtain rfl := Option.some.inj h; exact unF_lt (.inr rfl) m64
  rw [if_neg c1] at h
  by_cases c2 : 103 ≤ c ∧ c ≤ 105
  · rw [if_pos c2] at h; obtain rfl := Option.some.inj h; exact unF_lt (.inl rfl) m32
  rw [if_neg c2] at h
  by_cases c3 : 121 ≤ c ∧ c ≤ 123
  · rw [if_pos c3] at h; obtain rfl := Option.some.inj h; exact unF_lt (.inr rfl) m64
  rw [if_neg c3] at h
  by_cases c4 : c = 167
  · rw [if_pos c4] at h; obtain rfl := Option.some.inj h; omega
  rw [if_neg c4] at h
  by_cases c5 : c = 172
  · rw [if_pos c5] at h; obtain rfl := Option.some.inj h; exact extF_lt (by decide) (by decide)
  rw [if_neg c5] at h
  by_cases c6 : c = 173
  · rw [if_pos c6] at h; obtain rfl := Option.some.inj h; exact extF_lt (by decide) (by decide)
  rw [if_neg c6] at h
  by_cases c7 : c = 192
  · rw [if_pos c7] at h; obtain rfl := Option.some.inj h; exact extF_lt (by decide) (by decide)
  rw [if_neg c7] at h
  by_cases c8 : c = 193
  · rw [if_pos c8] at h; obtain rfl := Option.some.inj h; exact extF_lt (by decide) (by decide)
  rw [if_neg c8] at h
  by_cases c9 : c = 194
  · rw [if_pos c9] at h; obtain rfl := Option.some.inj h; exact extF_lt (by decide) (by decide)
  rw [if_neg c9] at h
  by_cases c10 : c = 195
  · rw [if_pos c10] at h; obtain rfl := Option.some.inj h; exact extF_lt (by decide) (by decide)
  rw [if_neg c10] at h
  by_cases c11 : c = 196
  · rw [if_pos c11] at h; obtain rfl := Option.some.inj h; exact extF_lt (by decide) (by decide)
  rw [if_neg c11] at h
  cases h
theorem twoV_lt {c : Int} {a b : Nat} : twoV c a b < 18446744073709551616 := by
  unfold twoV
  split
  · exact Nat.lt_trans testF_lt (by decide)
  split
  · exact Nat.lt_trans testF_lt (by decide)
  split
  · exact binV_lt (.inl rfl) (Nat.mod_lt _ (Nat.two_pow_pos 32)) (Nat.mod_lt _ (Nat.two_pow_pos 32)) (by omega)
  split
  · exact binV_lt (.inr rfl) (Nat.mod_lt _ (Nat.two_pow_pos 64)) (Nat.mod_lt _ (Nat.two_pow_pos 64)) (by omega)
  decide
theorem oneC_neg {a : Nat} : oneC (-1) a = none := by unfold oneC; rfl
theorem twoOk_neg {a b : Nat} : ¬ twoOk (-1) a b := by unfold twoOk; simp
def stopP (c : Int) : Prop := ((c = 0 ∨ c = 12) ∨ c = 14) ∨ c = 15
def boundP (c : Int) : Prop := (2 ≤ c ∧ c ≤ 5) ∨ c = 11
instance (c : Int) : Decidable (stopP c) := by unfold stopP; infer_instance
instance (c : Int) : Decidable (boundP c) := by unfold boundP; infer_instance
def cutL (l : List InstrD) (at_ n : Nat) (ins : List InstrD) : List InstrD := l.take at_ ++ ins ++ l.drop (at_ + n)
abbrev gI (l : List InstrD) (i : Nat) : InstrD := l.getD i noI
theorem gI_at {l : List InstrD} {i : Nat} {x : InstrD} (h : l[i]? = some x) : gI l i = x := by unfold gI; rw [List.getD_eq_getElem?_getD, h]; rfl
theorem gI_out {l : List InstrD} {i : Nat} (h : l.length ≤ i) : gI l i = noI := by unfold gI; rw [List.getD_eq_getElem?_getD, List.getElem?_eq_none h]; rfl
/-- how many are taken away, the step's number, what stands instead -/
abbrev Stp := Nat × Nat × List InstrD
open Classical in
noncomputable def stK (x y z : InstrD) (more : Prop) : Nat → Option (Nat × List InstrD)
  | 0 => if x.Code = 1 then some (1, []) else none
  | 1 => if isC x then (oneC y.Code x.A.toNat).map fun v => (2, [mkI (outC y.Code) v]) else none
  | 2 => if (isC x ∧ isC y) ∧ twoOk z.Code x.A.toNat y.A.toNat then some (3, [mkI (outC z.Code) (twoV z.Code x.A.toNat y.A.toNat)]) else none
  | 3 => if y.Code = 26 ∧ (isC x ∨ x.Code = 32 ∨ x.Code = 35) then some (2, []) else none
  | 4 => if (x.Code = 33 ∧ y.Code = 32) ∧ x.A = y.A then some (2, [⟨34, x.A, 0, 0, []⟩]) else none
  | 5 => if (stopP x.Code ∧ more) ∧ ¬ boundP y.Code then some (2, [x]) else none
  | _ => none
noncomputable def stF (x y z : InstrD) (more : Prop) : Nat → Stp
  | 0 => (0, 0, [])
  | k + 1 => if (stF x y z more k).2.1 = 0 then (match stK x y z more k with | some (n, ins) => (n, k + 1, ins) | none => stF x y z more k) else stF x y z more k
noncomputable def fK (l : List InstrD) (i k : Nat) : Option (List InstrD) := (stK (gI l i) (gI l (i + 1)) (gI l (i + 2)) (i + 1 < l.length) k).map fun p => cutL l i p.1 p.2
/-- the first of the six that can be done at a place -/
noncomputable def stepAtK (l : List InstrD) (i : Nat) : Nat → Option (List InstrD × Nat)
  | 0 => none
  | k + 1 => match stepAtK l i k with
    | some r => some r
    | none => (fK l i k).map fun r => (r, k + 1)
noncomputable def stepAt (l : List InstrD) (i : Nat) : Option (List InstrD × Nat) := stepAtK l i 6
noncomputable def stepK (l : List InstrD) : Nat → Option (List InstrD × Nat)
  | 0 => none
  | k + 1 => match stepK l k with
    | some r => some r
    | none => stepAt l k
noncomputable def stepL (l : List InstrD) : Option (List InstrD × Nat) := stepK l l.length
theorem stepAtK_no {l : List InstrD} {i k : Nat} (h : stepAtK l i k = none) (hf : fK l i k = none) : stepAtK l i (k + 1) = none := by simp only [stepAtK, h, hf]; rfl
theorem stepAtK_yes {l r : List InstrD} {i k : Nat} (h : stepAtK l i k = none) (hf : fK l i k = some r) : stepAtK l i (k + 1) = some (r, k + 1) := by simp only [stepAtK, h, hf]; rfl
theorem stepAtK_stay {l : List InstrD} {i k : Nat} {r : List InstrD × Nat} (h : stepAtK l i k = some r) : ∀ j, k ≤ j → stepAtK l i j = some r := by
  intro j hj
  obtain ⟨d, rfl⟩ : ∃ d, j = k + d := ⟨j - k, by omega⟩
  clear hj
  induction d with
  | zero => exact h
  | succ d ih => show stepAtK l i (k + d + 1) = _; simp only [stepAtK, ih]
theorem stepK_stay {l : List InstrD} {k : Nat} {r : List InstrD × Nat} (h : stepK l k = some r) : ∀ j, k ≤ j → stepK l j = some r := by
  intro j hj
  obtain ⟨d, rfl⟩ : ∃ d, j = k + d := ⟨j - k, by omega⟩
  clear hj
  induction d with
  | zero => exact h
  | succ d ih => show stepK l (k + d + 1) = _; simp only [stepK, ih]
theorem stepL_at {l : List InstrD} {i : Nat} {r : List InstrD × Nat} (h : stepK l i = none) (hi : i < l.length) (hr : stepAt l i = some r) : stepL l = some r :=
  stepK_stay (show stepK l (i + 1) = some r by simp only [stepK, h, hr]) _ hi
theorem stepK_next {l : List InstrD} {i : Nat} (h : stepK l i = none) (hr : stepAt l i = none) : stepK l (i + 1) = none := by simp only [stepK, h, hr]
/-- the document's one pass over the six tells the same -/
theorem stF_zero {x y z : InstrD} {more : Prop} : ∀ k, (stF x y z more k).2.1 = 0 → stF x y z more k = (0, 0, []) ∧ ∀ j, j < k → stK x y z more j = none
  | 0, _ => ⟨rfl, fun j hj => absurd hj (by omega)⟩
  | k + 1, h => by
    have ih := stF_zero (x := x) (y := y) (z := z) (more := more) k
    simp only [stF] at h ⊢
    by_cases h0 : (stF x y z more k).2.1 = 0
    · rw [if_pos h0] at h ⊢
      cases hk : stK x y z more k with
      | some p => rw [hk] at h; simp at h
      | none =>
        obtain ⟨i1, i2⟩ := ih h0
        refine ⟨i1, fun j hj => ?_⟩
        rcases Nat.lt_succ_iff_lt_or_eq.1 hj with h1 | h1
        · exact i2 j h1
        · rw [h1]; exact hk
    · rw [if_neg h0] at h; exact absurd h h0
theorem stF_some {x y z : InstrD} {more : Prop} : ∀ k, (stF x y z more k).2.1 ≠ 0 → ∃ j, j < k ∧ (stF x y z more k).2.1 = j + 1 ∧ stK x y z more j = some ((stF x y z more k).1, (stF x y z more k).2.2) ∧ ∀ i, i < j → stK x y z more i = none
  | 0, h => absurd rfl h
  | k + 1, h => by
    simp only [stF] at h ⊢
    by_cases h0 : (stF x y z more k).2.1 = 0
    · rw [if_pos h0] at h ⊢
      obtain ⟨i1, i2⟩ := stF_zero k h0
      cases hk : stK x y z more k with
      | some p => exact ⟨k, by omega, rfl, hk, i2⟩
      | none => rw [hk] at h; simp only at h; exact absurd h0 h
    · rw [if_neg h0] at h ⊢
      obtain ⟨j, j1, j2, j3, j4⟩ := stF_some k h0
      exact ⟨j, by omega, j2, j3, j4⟩
theorem stepAtK_none {l : List InstrD} {i : Nat} : ∀ k, (∀ j, j < k → fK l i j = none) → stepAtK l i k = none
  | 0, _ => rfl
  | k + 1, h => stepAtK_no (stepAtK_none k fun j hj => h j (by omega)) (h k (by omega))
theorem stepAt_ref {l : List InstrD} {i : Nat} {s : Stp} (hs : s = stF (gI l i) (gI l (i + 1)) (gI l (i + 2)) (i + 1 < l.length) 6) :
    stepAt l i = if s.2.1 = 0 then none else some (cutL l i s.1 s.2.2, s.2.1) := by
  subst hs
  split
  · rename_i h
    exact stepAtK_none 6 fun j hj => by unfold fK; rw [(stF_zero 6 h).2 j hj]; rfl
  · rename_i h
    obtain ⟨j, j1, j2, j3, j4⟩ := stF_some 6 h
    have h1 : stepAtK l i j = none := stepAtK_none j fun m hm => by unfold fK; rw [j4 m hm]; rfl
    have h2 : fK l i j = some (cutL l i (stF (gI l i) (gI l (i + 1)) (gI l (i + 2)) (i + 1 < l.length) 6).1 (stF (gI l i) (gI l (i + 1)) (gI l (i + 2)) (i + 1 < l.length) 6).2.2) := by unfold fK; rw [j3]; rfl
    rw [j2]
    exact stepAtK_stay (stepAtK_yes h1 h2) 6 j1
/-! ### what a step leaves -/
theorem stK_ok {x y z : InstrD} {more : Prop} (hx : okI x) : ∀ k n ins, stK x y z more k = some (n, ins) → (∀ w ∈ ins, okI w ∧ (w.L = [] ∨ w = x)) ∧ ins.length < n ∧ n ≤ 3
  | 0, n, ins, h => by simp only [stK] at h; split at h <;> cases h; exact ⟨fun w hw => (by cases hw), by simp, by omega⟩
  | 1, n, ins, h => by
    simp only [stK] at h
    split at h
    · cases ho : oneC y.Code x.A.toNat with
      | none => rw [ho] at h; cases h
      | some v =>
        rw [ho] at h; cases h
        refine ⟨fun w hw => ?_, by simp, by omega⟩
        obtain rfl := List.mem_singleton.1 hw
        exact ⟨mkI_ok (oneC_lt ho), .inl rfl⟩
    · cases h
  | 2, n, ins, h => by
    simp only [stK] at h
    split at h <;> cases h
    refine ⟨fun w hw => ?_, by simp, by omega⟩
    obtain rfl := List.mem_singleton.1 hw
    exact ⟨mkI_ok twoV_lt, .inl rfl⟩
  | 3, n, ins, h => by simp only [stK] at h; split at h <;> cases h; exact ⟨fun w hw => (by cases hw), by simp, by omega⟩
  | 4, n, ins, h => by
    simp only [stK] at h
    split at h <;> cases h
    refine ⟨fun w hw => ?_, by simp, by omega⟩
    obtain rfl := List.mem_singleton.1 hw
    exact ⟨hx, .inl rfl⟩
  | 5, n, ins, h => by
    simp only [stK] at h
    split at h <;> cases h
    refine ⟨fun w hw => ?_, by simp, by omega⟩
    obtain rfl := List.mem_singleton.1 hw
    exact ⟨hx, .inr rfl⟩
  | k + 6, n, ins, h => by cases h
/-- how much is taken away stands there -/
theorem stK_room {l : List InstrD} {i k n : Nat} {ins : List InstrD} (hi : i < l.length) (h : stK (gI l i) (gI l (i + 1)) (gI l (i + 2)) (i + 1 < l.length) k = some (n, ins)) : i + n ≤ l.length := by
  have hy : ¬ i + 1 < l.length → gI l (i + 1) = noI := fun h => gI_out (by omega)
  have hz : ¬ i + 2 < l.length → gI l (i + 2) = noI := fun h => gI_out (by omega)
  match k, h with
  | 0, h => simp only [stK] at h; split at h <;> cases h; omega
  | 1, h =>
    simp only [stK] at h
    by_cases h1 : i + 1 < l.length
    · split at h
      · cases ho : oneC (gI l (i + 1)).Code (gI l i).A.toNat <;> rw [ho] at h <;> cases h; omega
      · cases h
    · rw [hy h1] at h
      have : oneC noI.Code (gI l i).A.toNat = none := oneC_neg
      rw [this] at h; split at h <;> cases h
  | 2, h =>
    simp only [stK] at h
    by_cases h1 : i + 2 < l.length
    · split at h <;> cases h; omega
    · rw [hz h1] at h
      rw [if_neg (fun h' => twoOk_neg h'.2)] at h; cases h
  | 3, h =>
    simp only [stK] at h
    by_cases h1 : i + 1 < l.length
    · split at h <;> cases h; omega
    · rw [hy h1, if_neg (fun h' => absurd h'.1 (by decide))] at h; cases h
  | 4, h =>
    simp only [stK] at h
    by_cases h1 : i + 1 < l.length
    · split at h <;> cases h; omega
    · rw [hy h1, if_neg (fun h' => absurd h'.1.2 (by decide))] at h; cases h
  | 5, h =>
    simp only [stK] at h
    split at h
    · rename_i h1; cases h; have := h1.1.2; omega
    · cases h
  | k + 6, h => cases h
structure SmL (l : List InstrD) (n : Nat) : Prop where
  len : l.length ≤ n
  ok : ∀ x ∈ l, okI x
  small : ∀ x ∈ l, x.L.length ≤ 65536
theorem SmL.at {l : List InstrD} {n i : Nat} {x : InstrD} (h : SmL l n) (hx : l[i]? = some x) : okI x ∧ x.L.length ≤ 65536 := ⟨h.ok x (List.mem_of_getElem? hx), h.small x (List.mem_of_getElem? hx)⟩
theorem SmL.gI {l : List InstrD} {n i : Nat} (h : SmL l n) : okI (gI l i) := by
  by_cases hi : i < l.length
  · rw [gI_at (List.getElem?_eq_getElem hi)]; exact h.ok _ (List.getElem_mem hi)
  · rw [gI_out (by omega)]; exact ⟨by decide, by decide⟩
theorem fK_less {l r : List InstrD} {i k m : Nat} (hl : SmL l m) (hi : i < l.length) (h : fK l i k = some r) : r.length < l.length ∧ SmL r m := by
  unfold fK at h
  cases hs : stK (gI l i) (gI l (i + 1)) (gI l (i + 2)) (i + 1 < l.length) k with
  | none => rw [hs] at h; cases h
  | some p =>
    obtain ⟨n, ins⟩ := p
    rw [hs] at h; cases h
    obtain ⟨h1, h2, h3⟩ := stK_ok hl.gI k n ins hs
    have h4 := stK_room hi hs
    have hlen : (cutL l i n ins).length < l.length := by
      unfold cutL; simp only [List.length_append, List.length_take, List.length_drop]; omega
    have hm : ∀ w ∈ cutL l i n ins, w ∈ ins ∨ w ∈ l := fun w hw => by
      unfold cutL at hw
      rcases List.mem_append.1 hw with hw | hw
      · rcases List.mem_append.1 hw with hw | hw
        · exact .inr (List.mem_of_mem_take hw)
        · exact .inl hw
      · exact .inr (List.mem_of_mem_drop hw)
    have hg : gI l i ∈ l := by rw [gI_at (List.getElem?_eq_getElem hi)]; exact List.getElem_mem hi
    refine ⟨hlen, by have := hl.len; show (cutL l i n ins).length ≤ m; omega, fun w hw => ?_, fun w hw => ?_⟩
    · rcases hm w hw with h | h
      · exact (h1 w h).1
      · exact hl.ok w h
    · rcases hm w hw with h | h
      · rcases (h1 w h).2 with e | e
        · rw [e]; simp
        · rw [e]; exact hl.small _ hg
      · exact hl.small w h
theorem stepAtK_inv {l : List InstrD} {i : Nat} : ∀ k r, stepAtK l i k = some r → ∃ j, j < k ∧ fK l i j = some r.1 ∧ r.2 = j + 1
  | 0, r, h => by cases h
  | k + 1, r, h => by
    simp only [stepAtK] at h
    cases hk : stepAtK l i k with
    | some r' => rw [hk] at h; cases h; obtain ⟨j, j1, j2, j3⟩ := stepAtK_inv k _ hk; exact ⟨j, by omega, j2, j3⟩
    | none =>
      rw [hk] at h
      cases hf : fK l i k with
      | none => rw [hf] at h; cases h
      | some q => rw [hf] at h; cases h; exact ⟨k, by omega, hf, rfl⟩
theorem stepK_inv {l : List InstrD} : ∀ k r, stepK l k = some r → ∃ i, i < k ∧ stepAt l i = some r
  | 0, r, h => by cases h
  | k + 1, r, h => by
    simp only [stepK] at h
    cases hk : stepK l k with
    | some r' => rw [hk] at h; cases h; obtain ⟨j, j1, j2⟩ := stepK_inv k _ hk; exact ⟨j, by omega, j2⟩
    | none => rw [hk] at h; exact ⟨k, by omega, h⟩
theorem stepL_less {l r : List InstrD} {n m : Nat} (hl : SmL l m) (h : stepL l = some (r, n)) : r.length < l.length ∧ SmL r m ∧ 0 < n := by
  obtain ⟨i, hi, hr⟩ := stepK_inv _ _ h
  obtain ⟨j, j1, j2, j3⟩ := stepAtK_inv _ _ hr
  obtain ⟨h1, h2⟩ := fK_less hl hi j2
  exact ⟨h1, h2, by simp at j3; omega⟩
/-! ### as plain as can be -/
noncomputable def bodyF : Nat → List InstrD → List InstrD
  | 0, l => l
  | k + 1, l => match stepL l with
    | some (r, _) => bodyF k r
    | none => l
noncomputable def bodyL (l : List InstrD) : List InstrD := bodyF (l.length + 1) l
theorem bodyF_more {m : Nat} : ∀ (k : Nat) (l : List InstrD), SmL l m → l.length < k → ∀ j, k ≤ j → bodyF j l = bodyF k l
  | 0, l, _, h, _, _ => absurd h (by omega)
  | k + 1, l, hl, h, j, hj => by
    obtain ⟨j, rfl⟩ : ∃ i, j = i + 1 := ⟨j - 1, by omega⟩
    simp only [bodyF]
    cases hs : stepL l with
    | none => rfl
    | some p =>
      obtain ⟨r, n⟩ := p
      obtain ⟨h1, h2, _⟩ := stepL_less hl hs
      exact bodyF_more k r h2 (by omega) j (by omega)
theorem bodyL_none {l : List InstrD} (h : stepL l = none) : bodyL l = l := by unfold bodyL bodyF; rw [h]
theorem bodyL_some {l r : List InstrD} {n m : Nat} (hl : SmL l m) (h : stepL l = some (r, n)) : bodyL l = bodyL r := by
  obtain ⟨h1, h2, _⟩ := stepL_less hl h
  have e : bodyL l = bodyF l.length r := by unfold bodyL; simp only [bodyF, h]
  rw [e]; exact bodyF_more _ r h2 (by omega) _ (by omega)
noncomputable def stepR (l : List InstrD) : List InstrD × Nat := (stepL l).getD (l, 0)
end Go.Hl
