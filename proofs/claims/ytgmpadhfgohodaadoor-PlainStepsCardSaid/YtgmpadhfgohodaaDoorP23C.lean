/-
  What is told of single instructions: what one gives of one word, of two words; the six steps at a place.
-/
import Derived.Test.YtgmpadhfgohodaaDoorP23B
namespace Go.Hl
open Go.RowKit
set_option linter.unusedVariables false

section
variable {P : Program} {hs : List HP} {env : Env} {q : VP} {dst : Option Tmp} {ty T T' E : TypeId} {pos : String} {after : Array Edge} {gd : Option (Nat × Bool)} {x y z : Operand}
theorem opSliceNil0 {N : Nat} {i : Int} (hT : P.underlying T = some (.slice E)) (hn : P.cellsOf E = N) (h0 : Nat.blt 0 N = true) (hx : Opd env x (exactV (.slice none 0 0))) (hy : Opd env y (intV .i64 i)) (hi : i = 0) :
    OpP P hs env ⟨dst, .slice T x none (some y) none, ty, pos, after, gd⟩ (exactV (.slice none 0 0)) :=
  OpP.of_read fun ρ w S F _ he => by
    have hv := he.o _ _ hx; have h2 := he.o _ _ hy; simp only [exactV] at hv h2
    subst hi
    have hs := run_sizeOf (T := E) hn h0 w
    refine ⟨.slice none 0 0, ?_, rfl⟩
    simp [execOp, hv, h2, Instr.sliceAt, Instr.slice, Instr.sliceBounds, Instr.sliceBound, asIntOf, run_underlying hT, hs]
end
theorem get0 {l : List UInt8} (h : (l.length : Int) = 1) : l[0]? = some (l.getD 0 0) := by
  match l, h with
  | [x], _ => rfl
theorem gives1 {l : List UInt8} : ((l.length : Int) = 1 ∧ ((l.getD 0 0).toNat : Int) = 126) ↔ l = [126] := by
  constructor
  · rintro ⟨h1, h2⟩
    match l, h1, h2 with
    | [x], _, h2 =>
      simp at h2
      have : x = 126 := UInt8.toNat_inj.1 (by show x.toNat = 126; omega)
      rw [this]
  · rintro rfl; exact ⟨rfl, rfl⟩
def numF (c : Int) : Option (Int × Int × Int) :=
  if c = 69 then some (2, 3, 32) else if 70 ≤ c ∧ c ≤ 79 then some (1, c - 70, 32) else if c = 80 then some (2, 3, 64) else if 81 ≤ c ∧ c ≤ 90 then some (1, c - 81, 64)
  else if 103 ≤ c ∧ c ≤ 105 then some (2, c - 103, 32) else if 106 ≤ c ∧ c ≤ 120 then some (0, c - 106, 32) else if 121 ≤ c ∧ c ≤ 123 then some (2, c - 121, 64) else if 124 ≤ c ∧ c ≤ 138 then some (0, c - 124, 64) else none
theorem find_cons {α : Type} {p : α → Bool} {a : α} {l : List α} : (a :: l).find? p = if p a = true then some a else l.find? p := by
  simp only [List.find?]; cases p a <;> rfl
theorem num_eq (c : Int) : numO c = numF c := by
  unfold numO numF spansT
  simp only [find_cons, inSpan, decide_eq_true_eq, List.find?_nil]
  by_cases h0 : c = 69
  · rw [if_pos (by omega), if_pos h0]; subst h0; rfl
  rw [if_neg (by omega), if_neg h0]
  by_cases h1 : 70 ≤ c ∧ c ≤ 79
  · rw [if_pos (by omega), if_pos h1]; simp
  rw [if_neg (by omega), if_neg h1]
  by_cases h2 : c = 80
  · rw [if_pos (by omega), if_pos h2]; subst h2; rfl
  rw [if_neg (by omega), if_neg h2]
  by_cases h3 : 81 ≤ c ∧ c ≤ 90
  · rw [if_pos (by omega), if_pos h3]; simp
  rw [if_neg (by omega), if_neg h3]
  by_cases h4 : 103 ≤ c ∧ c ≤ 105
  · rw [if_pos (by omega), if_pos h4]; simp
  rw [if_neg (by omega), if_neg h4]
  by_cases h5 : 106 ≤ c ∧ c ≤ 120
  · rw [if_pos (by omega), if_pos h5]; simp
  rw [if_neg (by omega), if_neg h5]
  by_cases h6 : 121 ≤ c ∧ c ≤ 123
  · rw [if_pos (by omega), if_pos h6]; simp
  rw [if_neg (by omega), if_neg h6]
  by_cases h7 : 124 ≤ c ∧ c ≤ 138
  · rw [if_pos (by omega), if_pos h7]; simp
  rw [if_neg (by omega), if_neg h7]; rfl
/-! ### extending -/
def xfA (c : Int) : Nat := if c = 172 ∨ c = 173 then 32 else if c = 192 then 8 else if c = 193 then 16 else if c = 194 then 8 else if c = 195 then 16 else if c = 196 then 32 else 0
def xfB (c : Int) : Nat := if c = 172 ∨ c = 173 then 64 else if c = 192 ∨ c = 193 then 32 else if c = 194 ∨ c = 195 ∨ c = 196 then 64 else 0
def xfS (c : Int) : Prop := if c = 172 ∨ c = 173 then c = 172 else if c = 192 ∨ c = 193 then True else if c = 194 ∨ c = 195 ∨ c = 196 then True else False
instance (c : Int) : Decidable (xfS c) := by unfold xfS; infer_instance
theorem ext_codes {c : Int} (h : (0 : Int) < (xfA c : Int)) : c = 172 ∨ c = 173 ∨ c = 192 ∨ c = 193 ∨ c = 194 ∨ c = 195 ∨ c = 196 := by
  unfold xfA at h
  by_cases h1 : c = 172 ∨ c = 173
  · omega
  rw [if_neg h1] at h
  by_cases h2 : c = 192
  · omega
  rw [if_neg h2] at h
  by_cases h3 : c = 193
  · omega
  rw [if_neg h3] at h
  by_cases h4 : c = 194
  · omega
  rw [if_neg h4] at h
  by_cases h5 : c = 195
  · omega
  rw [if_neg h5] at h
  by_cases h6 : c = 196
  · omega
  rw [if_neg h6] at h
  exact absurd h (by decide)
theorem ext_ok {c : Int} (h : (0 : Int) < (xfA c : Int)) : (xfA c = 8 ∨ xfA c = 16 ∨ xfA c = 32) ∧ (xfB c = 32 ∨ xfB c = 64) := by
  rcases ext_codes h with rfl | rfl | rfl | rfl | rfl | rfl | rfl <;> decide
theorem one_ext {c : Int} {a : Nat} (h : (0 : Int) < (xfA c : Int)) : oneC c a = some (extF (xfA c) (xfB c) (xfS c) a) := by
  have key : ∀ {f t f' t' : Nat} {s s' : Prop} [Decidable s] [Decidable s'], f = f' → t = t' → (s ↔ s') → some (extF f t s a) = some (extF f' t' s' a) := by
    intro f t f' t' s s' _ _ h1 h2 h3
    subst h1; subst h2; unfold extF; simp only [h3]
  rcases ext_codes h with rfl | rfl | rfl | rfl | rfl | rfl | rfl
  · show some (extF 32 64 True a) = _; exact key (by decide) (by decide) (by decide)
  · show some (extF 32 64 False a) = _; exact key (by decide) (by decide) (by decide)
  · show some (extF 8 32 True a) = _; exact key (by decide) (by decide) (by decide)
  · show some (extF 16 32 True a) = _; exact key (by decide) (by decide) (by decide)
  · show some (extF 8 64 True a) = _; exact key (by decide) (by decide) (by decide)
  · show some (extF 16 64 True a) = _; exact key (by decide) (by decide) (by decide)
  · show some (extF 32 64 True a) = _; exact key (by decide) (by decide) (by decide)
theorem ext_no {c : Int} (h : ¬ (0 : Int) < (xfA c : Int)) : ¬ (c = 172 ∨ c = 173 ∨ c = 192 ∨ c = 193 ∨ c = 194 ∨ c = 195 ∨ c = 196) := by
  rintro (rfl | rfl | rfl | rfl | rfl | rfl | rfl) <;> exact h (by decide)
theorem one_wrap {a : Nat} : oneC 167 a = some (a % 4294967296) := rfl
theorem one_num {c n b : Int} {a : Nat} (h : numO c = some (2, n, b)) : (b = 32 ∨ b = 64) ∧ (0 ≤ n ∧ n < 4) ∧ oneC c a = some (unF b.toNat n (a % 2 ^ b.toNat)) := by
  rw [num_eq] at h
  unfold numF at h
  by_cases h0 : c = 69
  · rw [if_pos h0] at h; obtain ⟨_, rfl, rfl⟩ : 2 = (2 : Int) ∧ 3 = n ∧ 32 = b := by simpa using h
    subst h0; exact ⟨.inl rfl, by decide, rfl⟩
  rw [if_neg h0] at h
  by_cases h1 : 70 ≤ c ∧ c ≤ 79
  · rw [if_pos h1] at h; simp at h
  rw [if_neg h1] at h
  by_cases h2 : c = 80
  · rw [if_pos h2] at h; obtain ⟨_, rfl, rfl⟩ : 2 = (2 : Int) ∧ 3 = n ∧ 64 = b := by simpa using h
    subst h2; exact ⟨.inr rfl, by decide, rfl⟩
  rw [if_neg h2] at h
  by_cases h3 : 81 ≤ c ∧ c ≤ 90
  · rw [if_pos h3] at h; simp at h
  rw [if_neg h3] at h
  by_cases h4 : 103 ≤ c ∧ c ≤ 105
  · rw [if_pos h4] at h; obtain ⟨_, rfl, rfl⟩ : 2 = (2 : Int) ∧ c - 103 = n ∧ 32 = b := by simpa using h
    refine ⟨.inl rfl, by omega, ?_⟩
    unfold oneC; rw [if_neg h0, if_neg h2, if_pos h4]; rfl
  rw [if_neg h4] at h
  by_cases h5 : 106 ≤ c ∧ c ≤ 120
  · rw [if_pos h5] at h; simp at h
  rw [if_neg h5] at h
  by_cases h6 : 121 ≤ c ∧ c ≤ 123
  · rw [if_pos h6] at h; obtain ⟨_, rfl, rfl⟩ : 2 = (2 : Int) ∧ c - 121 = n ∧ 64 = b := by simpa using h
    refine ⟨.inr rfl, by omega, ?_⟩
    unfold oneC; rw [if_neg h0, if_neg h2, if_neg h4, if_pos h6]; rfl
  rw [if_neg h6] at h
  by_cases h7 : 124 ≤ c ∧ c ≤ 138
  · rw [if_pos h7] at h; simp at h
  rw [if_neg h7] at h; cases h
theorem one_none {c : Int} {a : Nat} (h : ∀ n b, numO c ≠ some (2, n, b)) (h1 : ¬ c = 167) (h2 : ¬ (0 : Int) < (xfA c : Int)) : oneC c a = none := by
  have h3 := ext_no h2
  rw [num_eq] at h
  have g0 : ¬ c = 69 := fun e => h 3 32 (by subst e; rfl)
  have g2 : ¬ c = 80 := fun e => h 3 64 (by subst e; rfl)
  have g4 : ¬ (103 ≤ c ∧ c ≤ 105) := fun e => h (c - 103) 32 (by unfold numF; rw [if_neg g0, if_neg (by omega), if_neg g2, if_neg (by omega), if_pos e])
  have g6 : ¬ (121 ≤ c ∧ c ≤ 123) := fun e => h (c - 121) 64 (by unfold numF; rw [if_neg g0, if_neg (by omega), if_neg g2, if_neg (by omega), if_neg g4, if_neg (by omega), if_pos e])
  unfold oneC
  rw [if_neg g0, if_neg g2, if_neg g4, if_neg g6, if_neg h1, if_neg (by omega), if_neg (by omega), if_neg (by omega), if_neg (by omega), if_neg (by omega), if_neg (by omega), if_neg (by omega)]
theorem two_test {c n b : Int} {x y : Nat} (h : numO c = some (1, n, b)) : (b = 32 ∨ b = 64) ∧ (0 ≤ n ∧ n < 10) ∧ twoV c x y = testF b.toNat n (x % 2 ^ b.toNat) (y % 2 ^ b.toNat) ∧ twoOk c x y := by
  rw [num_eq] at h
  unfold numF at h
  by_cases h0 : c = 69
  · rw [if_pos h0] at h; simp at h
  rw [if_neg h0] at h
  by_cases h1 : 70 ≤ c ∧ c ≤ 79
  · rw [if_pos h1] at h; obtain ⟨_, rfl, rfl⟩ : 1 = (1 : Int) ∧ c - 70 = n ∧ 32 = b := by simpa using h
    refine ⟨.inl rfl, by omega, ?_, ?_⟩
    · unfold twoV; rw [if_pos h1]; rfl
    · unfold twoOk; rw [if_pos h1]; trivial
  rw [if_neg h1] at h
  by_cases h2 : c = 80
  · rw [if_pos h2] at h; simp at h
  rw [if_neg h2] at h
  by_cases h3 : 81 ≤ c ∧ c ≤ 90
  · rw [if_pos h3] at h; obtain ⟨_, rfl, rfl⟩ : 1 = (1 : Int) ∧ c - 81 = n ∧ 64 = b := by simpa using h
    refine ⟨.inr rfl, by omega, ?_, ?_⟩
    · unfold twoV; rw [if_neg h1, if_pos h3]; rfl
    · unfold twoOk; rw [if_neg h1, if_pos h3]; trivial
  rw [if_neg h3] at h
  exfalso
  by_cases h4 : 103 ≤ c ∧ c ≤ 105
  · rw [if_pos h4] at h; simp at h
  rw [if_neg h4] at h
  by_cases h5 : 106 ≤ c ∧ c ≤ 120
  · rw [if_pos h5] at h; simp at h
  rw [if_neg h5] at h
  by_cases h6 : 121 ≤ c ∧ c ≤ 123
  · rw [if_pos h6] at h; simp at h
  rw [if_neg h6] at h
  by_cases h7 : 124 ≤ c ∧ c ≤ 138
  · rw [if_pos h7] at h; simp at h
  rw [if_neg h7] at h; cases h
theorem two_bin {c n b : Int} {x y : Nat} (h : numO c = some (0, n, b)) : (b = 32 ∨ b = 64) ∧ (0 ≤ n ∧ n < 15) ∧ twoV c x y = binV b.toNat n (x % 2 ^ b.toNat) (y % 2 ^ b.toNat) ∧ (twoOk c x y ↔ trapF b.toNat n (x % 2 ^ b.toNat) (y % 2 ^ b.toNat) = 0) := by
  rw [num_eq] at h
  unfold numF at h
  by_cases h0 : c = 69
  · rw [if_pos h0] at h; simp at h
  rw [if_neg h0] at h
  by_cases h1 : 70 ≤ c ∧ c ≤ 79
  · rw [if_pos h1] at h; simp at h
  rw [if_neg h1] at h
  by_cases h2 : c = 80
  · rw [if_pos h2] at h; simp at h
  rw [if_neg h2] at h
  by_cases h3 : 81 ≤ c ∧ c ≤ 90
  · rw [if_pos h3] at h; simp at h
  rw [if_neg h3] at h
  by_cases h4 : 103 ≤ c ∧ c ≤ 105
  · rw [if_pos h4] at h; simp at h
  rw [if_neg h4] at h
  by_cases h5 : 106 ≤ c ∧ c ≤ 120
  · rw [if_pos h5] at h; obtain ⟨_, rfl, rfl⟩ : 0 = (0 : Int) ∧ c - 106 = n ∧ 32 = b := by simpa using h
    refine ⟨.inl rfl, by omega, ?_, ?_⟩
    · unfold twoV; rw [if_neg h1, if_neg h3, if_pos h5]; rfl
    · unfold twoOk; rw [if_neg h1, if_neg h3, if_pos h5]; exact Iff.rfl
  rw [if_neg h5] at h
  by_cases h6 : 121 ≤ c ∧ c ≤ 123
  · rw [if_pos h6] at h; simp at h
  rw [if_neg h6] at h
  by_cases h7 : 124 ≤ c ∧ c ≤ 138
  · rw [if_pos h7] at h; obtain ⟨_, rfl, rfl⟩ : 0 = (0 : Int) ∧ c - 124 = n ∧ 64 = b := by simpa using h
    refine ⟨.inr rfl, by omega, ?_, ?_⟩
    · unfold twoV; rw [if_neg h1, if_neg h3, if_neg h5, if_pos h7]; rfl
    · unfold twoOk; rw [if_neg h1, if_neg h3, if_neg h5, if_pos h7]; exact Iff.rfl
  rw [if_neg h7] at h; cases h
theorem two_none {c : Int} {x y : Nat} (h : ∀ n b, numO c ≠ some (1, n, b) ∧ numO c ≠ some (0, n, b)) : ¬ twoOk c x y := by
  simp only [num_eq] at h
  have e1 : ¬ (70 ≤ c ∧ c ≤ 79) := fun e => (h (c - 70) 32).1 (by unfold numF; rw [if_neg (by omega), if_pos e])
  have e3 : ¬ (81 ≤ c ∧ c ≤ 90) := fun e => (h (c - 81) 64).1 (by unfold numF; rw [if_neg (by omega), if_neg e1, if_neg (by omega), if_pos e])
  have e5 : ¬ (106 ≤ c ∧ c ≤ 120) := fun e => (h (c - 106) 32).2 (by unfold numF; rw [if_neg (by omega), if_neg e1, if_neg (by omega), if_neg e3, if_neg (by omega), if_pos e])
  have e7 : ¬ (124 ≤ c ∧ c ≤ 138) := fun e => (h (c - 124) 64).2 (by unfold numF; rw [if_neg (by omega), if_neg e1, if_neg (by omega), if_neg e3, if_neg (by omega), if_neg e5, if_neg (by omega), if_pos e])
  unfold twoOk
  rw [if_neg e1, if_neg e3, if_neg e5, if_neg e7]; exact fun h => h
theorem find_all : ∀ k : Fin 200, ((69 ≤ k.1 ∧ k.1 ≤ 90) ∨ (103 ≤ k.1 ∧ k.1 ≤ 138) ∨ k.1 = 167 ∨ k.1 = 172 ∨ k.1 = 173 ∨ (192 ≤ k.1 ∧ k.1 ≤ 196)) → (findI (k.1 : Int)).isSome = true ∧ (takesR (k.1 : Int)).2.length = 1 := by decide +kernel
theorem find_code {c : Int} (h : (69 ≤ c ∧ c ≤ 90) ∨ (103 ≤ c ∧ c ≤ 138) ∨ c = 167 ∨ c = 172 ∨ c = 173 ∨ (192 ≤ c ∧ c ≤ 196)) : (findI c).isSome = true ∧ (takesR c).2.length = 1 := by
  have := find_all ⟨c.toNat, by omega⟩ (by simp only; omega)
  have e : ((c.toNat : Nat) : Int) = c := by omega
  simpa only [e] using this
theorem num_code {c : Int} {r : Int × Int × Int} (h : numO c = some r) : (69 ≤ c ∧ c ≤ 90) ∨ (103 ≤ c ∧ c ≤ 138) := by
  rw [num_eq] at h
  unfold numF at h
  by_cases h0 : (69 ≤ c ∧ c ≤ 90) ∨ (103 ≤ c ∧ c ≤ 138)
  · exact h0
  rw [if_neg (by omega), if_neg (by omega), if_neg (by omega), if_neg (by omega), if_neg (by omega), if_neg (by omega), if_neg (by omega), if_neg (by omega)] at h
  cases h
/-! ### the six steps -/
section
variable {l : List InstrD} {i : Nat} {x y z : InstrD}
theorem fK_0 (hx : l[i]? = some x) : fK l i 0 = if x.Code = 1 then some (cutL l i 1 []) else none := by
  unfold fK; rw [gI_at hx]; simp only [stK]; split <;> rfl
theorem fK_1 (hx : l[i]? = some x) (hy : l[i + 1]? = some y) : fK l i 1 = if isC x then (oneC y.Code x.A.toNat).map fun v => cutL l i 2 [mkI (outC y.Code) v] else none := by
  unfold fK; rw [gI_at hx, gI_at hy]; simp only [stK]; split
  · cases oneC y.Code x.A.toNat <;> rfl
  · rfl
theorem fK_1n (h : ¬ i + 1 < l.length) : fK l i 1 = none := by
  unfold fK; rw [gI_out (i := i + 1) (by omega)]; simp only [stK, show noI.Code = -1 from rfl, oneC_neg]; split <;> rfl
theorem fK_2 (hx : l[i]? = some x) (hy : l[i + 1]? = some y) (hz : l[i + 2]? = some z) : fK l i 2 = open Classical in if (isC x ∧ isC y) ∧ twoOk z.Code x.A.toNat y.A.toNat then some (cutL l i 3 [mkI (outC z.Code) (twoV z.Code x.A.toNat y.A.toNat)]) else none := by
  unfold fK; rw [gI_at hx, gI_at hy, gI_at hz]; simp only [stK]; split <;> rfl
theorem fK_2n (h : ¬ i + 2 < l.length) : fK l i 2 = none := by
  unfold fK; rw [gI_out (i := i + 2) (by omega)]; simp only [stK]; rw [if_neg (fun h => twoOk_neg h.2)]; rfl
theorem fK_3 (hx : l[i]? = some x) (hy : l[i + 1]? = some y) : fK l i 3 = if y.Code = 26 ∧ (isC x ∨ x.Code = 32 ∨ x.Code = 35) then some (cutL l i 2 []) else none := by
  unfold fK; rw [gI_at hx, gI_at hy]; simp only [stK]
  by_cases h : y.Code = 26 ∧ (isC x ∨ x.Code = 32 ∨ x.Code = 35)
  · rw [if_pos h, if_pos h]; rfl
  · rw [if_neg h, if_neg h]; rfl
theorem fK_3n (h : ¬ i + 1 < l.length) : fK l i 3 = none := by
  unfold fK; rw [gI_out (i := i + 1) (by omega)]; simp only [stK]; rw [if_neg (fun h => absurd h.1 (by decide))]; rfl
theorem fK_4 (hx : l[i]? = some x) (hy : l[i + 1]? = some y) : fK l i 4 = if (x.Code = 33 ∧ y.Code = 32) ∧ x.A = y.A then some (cutL l i 2 [⟨34, x.A, 0, 0, []⟩]) else none := by
  unfold fK; rw [gI_at hx, gI_at hy]; simp only [stK]
  by_cases h : (x.Code = 33 ∧ y.Code = 32) ∧ x.A = y.A
  · rw [if_pos h, if_pos h]; rfl
  · rw [if_neg h, if_neg h]; rfl
theorem fK_4n (h : ¬ i + 1 < l.length) : fK l i 4 = none := by
  unfold fK; rw [gI_out (i := i + 1) (by omega)]; simp only [stK]; rw [if_neg (fun h => absurd h.1.2 (by decide))]; rfl
theorem fK_5 (hx : l[i]? = some x) (hy : l[i + 1]? = some y) : fK l i 5 = if stopP x.Code ∧ ¬ boundP y.Code then some (cutL l i 2 [x]) else none := by
  have hlt := (List.getElem?_eq_some_iff.1 hy).1
  unfold fK; rw [gI_at hx, gI_at hy]; simp only [stK]
  by_cases h : stopP x.Code ∧ ¬ boundP y.Code
  · rw [if_pos h, if_pos ⟨⟨h.1, hlt⟩, h.2⟩]; rfl
  · rw [if_neg h, if_neg (fun h' => h ⟨h'.1.1, h'.2⟩)]; rfl
theorem fK_5n (h : ¬ i + 1 < l.length) : fK l i 5 = none := by
  unfold fK; simp only [stK]; rw [if_neg (fun h' => h h'.1.2)]; rfl
theorem cut_one (hx : l[i]? = some x) : cutL l (i + 1) 1 [] = cutL l i 2 [x] := by
  unfold cutL; rw [List.take_add_one, hx]; simp
end
theorem mk_le {k c : Int} {v : Nat} (h : k = outC c) : VLe (aggV [intV .i64 k, uV v, exactV (.int .u64 0), exactV (.int .i64 0), exactV (.slice none 0 0)]) (aggV (encInstr (mkI (outC c) v))) := by
  subst h; exact VLe.agg (.cons (VLe.refl _) (.cons (VLe.refl _) (.cons (VLe.refl _) (.cons (VLe.refl _) (.cons (sliceV_nil 1 encU64) .nil)))))
theorem zer_le : VLe (aggV [exactV (.int .i64 0), exactV (.int .u64 0), exactV (.int .u64 0), exactV (.int .i64 0), exactV (.slice none 0 0)]) (aggV (encInstr zerI)) :=
  VLe.agg (.cons (VLe.refl _) (.cons (VLe.refl _) (.cons (VLe.refl _) (.cons (VLe.refl _) (.cons (sliceV_nil 1 encU64) .nil)))))
theorem tee_le {a : Int} : VLe (aggV [exactV (.int .i64 34), intV .u64 a, exactV (.int .u64 0), exactV (.int .i64 0), exactV (.slice none 0 0)]) (aggV (encInstr ⟨34, a, 0, 0, []⟩)) :=
  VLe.agg (.cons (VLe.refl _) (.cons (VLe.refl _) (.cons (VLe.refl _) (.cons (VLe.refl _) (.cons (sliceV_nil 1 encU64) .nil)))))
theorem outC_pos {c : Int} (h : (takesR c).2 = [126]) : 66 = outC c := by unfold outC; rw [if_pos h]
theorem outC_neg {c : Int} (h : ¬ (takesR c).2 = [126]) : 65 = outC c := by unfold outC; rw [if_neg h]
/-! ### two words -/
open Classical in
noncomputable def twoI (c : Int) (a b : Nat) : InstrD := if ∃ g n w, numO c = some (g, n, w) ∧ g ≠ 2 then mkI (outC c) (twoV c a b) else zerI
theorem twoI_of {c g n w : Int} {a b : Nat} (h : numO c = some (g, n, w)) (hg : g ≠ 2) : twoI c a b = mkI (outC c) (twoV c a b) := by unfold twoI; rw [if_pos ⟨g, n, w, h, hg⟩]
theorem twoI_no {c : Int} {a b : Nat} (h : ∀ g n w, numO c = some (g, n, w) → g = 2) : twoI c a b = zerI := by
  unfold twoI; rw [if_neg]; rintro ⟨g, n, w, h1, h2⟩; exact h2 (h g n w h1)
theorem two_num {c : Int} {a b : Nat} (h : twoOk c a b) : twoI c a b = mkI (outC c) (twoV c a b) := by
  refine Classical.byContradiction fun hn => two_none (c := c) (x := a) (y := b) (fun n w => ⟨fun e => hn (twoI_of e (by decide)), fun e => hn (twoI_of e (by decide))⟩) h
theorem num_group {c g n w : Int} (h : numO c = some (g, n, w)) (h1 : ¬ g = 2) (h2 : ¬ g = 1) : g = 0 := by
  have := (numO_bounds h).2.1; omega
theorem num_zero {c : Int} (h : ¬ (numO c).isSome ∨ ((numO c).getD (0, 0, 0)).1 = 2) : (∀ g n w, numO c = some (g, n, w) → g = 2) := by
  intro g n w hn
  rw [hn] at h; simpa using h
theorem two_no {c : Int} {a b : Nat} (h : ∀ g n w, numO c = some (g, n, w) → g = 2) : ¬ twoOk c a b := two_none fun n w => ⟨fun e => absurd (h _ _ _ e) (by decide), fun e => absurd (h _ _ _ e) (by decide)⟩
theorem one_no {c : Int} {a : Nat} (h : ¬ (numO c).isSome ∨ ((numO c).getD (0, 0, 0)).1 ≠ 2) (h1 : ¬ c = 167) (h2 : ¬ (0 : Int) < (xfA c : Int)) : oneC c a = none :=
  one_none (fun n b e => by rw [e] at h; simp at h) h1 h2
/-! ### by places -/
section
variable {l : List InstrD} {i : Nat}
theorem gI_in {j : Nat} (h : j < l.length) : l[j]? = some (gI l j) := by unfold gI; rw [List.getD_eq_getElem?_getD, List.getElem?_eq_getElem h]; rfl
abbrev XA (l : List InstrD) (i : Nat) : Nat := (gI l i).A.toNat
theorem f0_no (h : ¬ (gI l i).Code = 1) : fK l i 0 = none := by unfold fK; simp only [stK]; rw [if_neg h]; rfl
theorem f0_yes (h : (gI l i).Code = 1) : fK l i 0 = some (cutL l i 1 []) := by unfold fK; simp only [stK]; rw [if_pos h]; rfl
theorem f1_a (h : (l.length : Int) ≤ (i : Int) + 1 ∨ ¬ isC (gI l i)) : fK l i 1 = none := by
  rcases h with h | h
  · exact fK_1n (by omega)
  · unfold fK; simp only [stK]; rw [if_neg h]; rfl
theorem f1_b (h : oneC (gI l (i + 1)).Code (XA l i) = none) : fK l i 1 = none := by
  unfold fK; simp only [stK]; rw [h]; split <;> rfl
theorem f1_c {v : Nat} (h1 : isC (gI l i)) (h : oneC (gI l (i + 1)).Code (XA l i) = some v) : fK l i 1 = some (cutL l i 2 [mkI (outC (gI l (i + 1)).Code) v]) := by
  unfold fK; simp only [stK]; rw [if_pos h1, h]; rfl
theorem f2_a (h : ((l.length : Int) ≤ (i : Int) + 2 ∨ ¬ isC (gI l i)) ∨ ¬ isC (gI l (i + 1))) : fK l i 2 = none := by
  rcases h with (h | h) | h
  · exact fK_2n (by omega)
  · unfold fK; simp only [stK]; rw [if_neg (fun h' => h h'.1.1)]; rfl
  · unfold fK; simp only [stK]; rw [if_neg (fun h' => h h'.1.2)]; rfl
theorem f2_b (h : ¬ twoOk (gI l (i + 2)).Code (XA l i) (XA l (i + 1))) : fK l i 2 = none := by
  unfold fK; simp only [stK]; rw [if_neg (fun h' => h h'.2)]; rfl
theorem f2_c (h1 : isC (gI l i)) (h2 : isC (gI l (i + 1))) (h : twoOk (gI l (i + 2)).Code (XA l i) (XA l (i + 1))) : fK l i 2 = some (cutL l i 3 [twoI (gI l (i + 2)).Code (XA l i) (XA l (i + 1))]) := by
  unfold fK; simp only [stK]; rw [if_pos ⟨⟨h1, h2⟩, h⟩, two_num h]; rfl
theorem f3_no (h : ((l.length : Int) ≤ (i : Int) + 1 ∨ ¬ (gI l (i + 1)).Code = 26) ∨ ((¬ isC (gI l i) ∧ ¬ (gI l i).Code = 32) ∧ ¬ (gI l i).Code = 35)) : fK l i 3 = none := by
  rcases h with (h | h) | h
  · exact fK_3n (by omega)
  · unfold fK; simp only [stK]; rw [if_neg (fun h' => h h'.1)]; rfl
  · unfold fK; simp only [stK]; rw [if_neg (fun h' => by rcases h'.2 with h1 | h1 | h1; exact h.1.1 h1; exact h.1.2 h1; exact h.2 h1)]; rfl
theorem f3_yes (h : ¬ (((l.length : Int) ≤ (i : Int) + 1 ∨ ¬ (gI l (i + 1)).Code = 26) ∨ ((¬ isC (gI l i) ∧ ¬ (gI l i).Code = 32) ∧ ¬ (gI l i).Code = 35))) : fK l i 3 = some (cutL l i 2 []) := by
  have h1 : (gI l (i + 1)).Code = 26 := Classical.byContradiction fun e => h (.inl (.inr e))
  have h2 : isC (gI l i) ∨ (gI l i).Code = 32 ∨ (gI l i).Code = 35 := Classical.byContradiction fun e => h (.inr ⟨⟨fun a => e (.inl a), fun a => e (.inr (.inl a))⟩, fun a => e (.inr (.inr a))⟩)
  unfold fK; simp only [stK]; rw [if_pos ⟨h1, h2⟩]; rfl
theorem f4_no (h : (((l.length : Int) ≤ (i : Int) + 1 ∨ ¬ (gI l i).Code = 33) ∨ ¬ (gI l (i + 1)).Code = 32) ∨ ¬ (gI l i).A = (gI l (i + 1)).A) : fK l i 4 = none := by
  rcases h with ((h | h) | h) | h
  · exact fK_4n (by omega)
  · unfold fK; simp only [stK]; rw [if_neg (fun h' => h h'.1.1)]; rfl
  · unfold fK; simp only [stK]; rw [if_neg (fun h' => h h'.1.2)]; rfl
  · unfold fK; simp only [stK]; rw [if_neg (fun h' => h h'.2)]; rfl
theorem f4_yes (h : ¬ ((((l.length : Int) ≤ (i : Int) + 1 ∨ ¬ (gI l i).Code = 33) ∨ ¬ (gI l (i + 1)).Code = 32) ∨ ¬ (gI l i).A = (gI l (i + 1)).A)) : fK l i 4 = some (cutL l i 2 [⟨34, (gI l i).A, 0, 0, []⟩]) := by
  simp only [not_or, Classical.not_not] at h
  unfold fK; simp only [stK]; rw [if_pos ⟨⟨h.1.1.2, h.1.2⟩, h.2⟩]; rfl
theorem f5_no (h : ((l.length : Int) ≤ (i : Int) + 1 ∨ ¬ stopP (gI l i).Code) ∨ boundP (gI l (i + 1)).Code) : fK l i 5 = none := by
  rcases h with (h | h) | h
  · exact fK_5n (by omega)
  · unfold fK; simp only [stK]; rw [if_neg (fun h' => h h'.1.1)]; rfl
  · unfold fK; simp only [stK]; rw [if_neg (fun h' => h'.2 h)]; rfl
theorem f5_yes (hi : i < l.length) (h : ¬ (((l.length : Int) ≤ (i : Int) + 1 ∨ ¬ stopP (gI l i).Code) ∨ boundP (gI l (i + 1)).Code)) : fK l i 5 = some (cutL l (i + 1) 1 []) := by
  simp only [not_or, Classical.not_not] at h
  unfold fK; simp only [stK]; rw [if_pos ⟨⟨h.1.2, by omega⟩, h.2⟩]
  show some (cutL l i 2 [gI l i]) = _
  rw [cut_one (gI_in hi)]
end
theorem okA {x : InstrD} (h : okI x) : x.A = ((x.A.toNat : Nat) : Int) ∧ x.A.toNat < 18446744073709551616 := by obtain ⟨h1, h2⟩ := h; omega
/-- what a step's function gives -/
noncomputable def stV (l : List InstrD) (i k : Nat) : VP := tupV [sliceV 5 encInstr ((fK l i k).getD []), propV ((fK l i k).isSome = true)]
end Go.Hl
