/-
  Long multiplication and long division of bits in lists, as numbers.
-/
import Derived.Test.YtgmpadhfgohodaaDoorW05A
namespace Go.Hl
set_option linter.unusedVariables false

theorem wordN_set : ∀ (l : List Bool) (i : Nat), i < l.length → l.getD i false = false → wordN (l.set i true) = wordN l + 2 ^ i
  | [], i, h, _ => by simp at h
  | b :: l, 0, _, hb => by
    have : b = false := by simpa using hb
    subst this
    simp [wordN, toN]
  | b :: l, i + 1, h, hb => by
    have := wordN_set l i (by simpa using h) (by simpa using hb)
    simp only [List.set_cons_succ, wordN, this, Nat.pow_succ]
    omega
theorem wordN_set0 {l : List Bool} {b : Bool} (h : 0 < l.length) (h0 : l.getD 0 false = false) : wordN (l.set 0 b) = wordN l + toN b := by
  match l, h, h0 with
  | x :: l, _, h0 =>
    have : x = false := by simpa using h0
    subst this
    simp [wordN, toN]
theorem testBit_mod (A i : Nat) : toN (A.testBit i) = (A / 2 ^ i) % 2 := by
  rw [Nat.testBit, Nat.shiftRight_eq_div_pow, Nat.and_comm, Nat.and_one_is_mod]
  rcases Nat.mod_two_eq_zero_or_one (A / 2 ^ i) with h | h <;> rw [h] <;> rfl
/-! ### division -/
theorem div_half (A i : Nat) : A / 2 ^ i = 2 * (A / 2 ^ (i + 1)) + (A / 2 ^ i) % 2 := by
  have : A / 2 ^ (i + 1) = A / 2 ^ i / 2 := by rw [Nat.div_div_eq_div_mul, Nat.pow_succ]
  rw [this]; omega
structure DivI (n A B i : Nat) (r q : List Bool) : Prop where
  rl : r.length = n + 1
  ql : q.length = n
  r : wordN r = (A / 2 ^ i) % B
  q : wordN q = (A / 2 ^ i / B) * 2 ^ i
theorem DivI.begin {n A B : Nat} (hA : A < 2 ^ n) : DivI n A B n (List.replicate (n + 1) false) (List.replicate n false) := by
  have : A / 2 ^ n = 0 := Nat.div_eq_of_lt hA
  exact ⟨by simp, by simp, by rw [wordN_zeros, this]; simp, by rw [wordN_zeros, this]; simp⟩
/-- what the rest is before it is compared -/
def restL (r : List Bool) (b : Bool) : List Bool := (shiftL r 1 false).set 0 b
theorem restL_len (r : List Bool) (b : Bool) : (restL r b).length = r.length := by simp [restL, shiftL_len]
theorem DivI.rest {n A B i : Nat} {r q : List Bool} (h : DivI n A B (i + 1) r q) (hB : 0 < B) (hBn : B < 2 ^ n) : wordN (restL r (A.testBit i)) = 2 * ((A / 2 ^ (i + 1)) % B) + (A / 2 ^ i) % 2 := by
  have h1 : wordN (shiftL r (1 : Nat) false) = 2 * wordN r := by
    rw [wordN_shl, h.rl, h.r, Nat.mod_eq_of_lt]
    · omega
    · have := Nat.mod_lt (A / 2 ^ (i + 1)) hB
      have hp : 2 ^ (n + 1) = 2 * 2 ^ n := by rw [Nat.pow_succ]; omega
      rw [hp, Nat.pow_one]; omega
  have h0 : (shiftL r (1 : Nat) false).getD 0 false = false := by
    rw [← testBit_wordN, h1, Nat.testBit_zero]; simp
  unfold restL
  have e : shiftL r 1 false = shiftL r (1 : Nat) false := rfl
  rw [e, wordN_set0 (by rw [shiftL_len, h.rl]; omega) h0, h1, h.r, testBit_mod]
theorem DivI.low {n A B i : Nat} {r q : List Bool} (h : DivI n A B (i + 1) r q) (hB : 0 < B) (hBn : B < 2 ^ n) (hl : wordN (restL r (A.testBit i)) < B) : DivI n A B i (restL r (A.testBit i)) q := by
  have e1 := h.rest hB hBn
  have e2 := div_half A i
  have e3 := Nat.div_add_mod (A / 2 ^ (i + 1)) B
  rw [e1] at hl
  have e4 : A / 2 ^ i = B * (2 * (A / 2 ^ (i + 1) / B)) + (2 * ((A / 2 ^ (i + 1)) % B) + (A / 2 ^ i) % 2) := by
    have : B * (2 * (A / 2 ^ (i + 1) / B)) = 2 * (B * (A / 2 ^ (i + 1) / B)) := by rw [Nat.mul_left_comm]
    omega
  refine ⟨by rw [restL_len, h.rl], h.ql, ?_, ?_⟩
  · rw [e1]
    generalize 2 * ((A / 2 ^ (i + 1)) % B) + (A / 2 ^ i) % 2 = t at *
    rw [e4, Nat.mul_add_mod, Nat.mod_eq_of_lt hl]
  · have e5 : A / 2 ^ i / B = 2 * (A / 2 ^ (i + 1) / B) := by
      generalize 2 * ((A / 2 ^ (i + 1)) % B) + (A / 2 ^ i) % 2 = t at *
      rw [e4, Nat.mul_add_div hB, Nat.div_eq_of_lt hl]; omega
    rw [h.q, e5, Nat.pow_succ, Nat.mul_comm 2, Nat.mul_assoc, Nat.mul_comm (2 ^ i) 2]
theorem DivI.high {n A B i : Nat} {r q d : List Bool} (h : DivI n A B (i + 1) r q) (hB : 0 < B) (hBn : B < 2 ^ n) (hi : i < n) (hd : wordN d = B) (hdl : d.length = n + 1) (hl : ¬ wordN (restL r (A.testBit i)) < B) :
    DivI n A B i (minusL (restL r (A.testBit i)) d) (q.set i true) := by
  have e1 := h.rest hB hBn
  have e2 := div_half A i
  have e3 := Nat.div_add_mod (A / 2 ^ (i + 1)) B
  have e6 := Nat.mod_lt (A / 2 ^ (i + 1)) hB
  have hw := wordN_lt (restL r (A.testBit i))
  rw [restL_len, h.rl] at hw
  have hmin : wordN (minusL (restL r (A.testBit i)) d) = wordN (restL r (A.testBit i)) - B := by
    rw [wordN_minus (by rw [restL_len, h.rl, hdl]), restL_len, h.rl, hd]
    have : wordN (restL r (A.testBit i)) + 2 ^ (n + 1) - B = (wordN (restL r (A.testBit i)) - B) + 2 ^ (n + 1) := by omega
    rw [this, Nat.add_mod_right, Nat.mod_eq_of_lt (by omega)]
  rw [e1] at hl
  have e4 : A / 2 ^ i = B * (2 * (A / 2 ^ (i + 1) / B) + 1) + (2 * ((A / 2 ^ (i + 1)) % B) + (A / 2 ^ i) % 2 - B) := by
    have h1 : B * (2 * (A / 2 ^ (i + 1) / B) + 1) = 2 * (B * (A / 2 ^ (i + 1) / B)) + B := by rw [Nat.mul_add, Nat.mul_one, Nat.mul_left_comm]
    omega
  have ht : 2 * ((A / 2 ^ (i + 1)) % B) + (A / 2 ^ i) % 2 - B < B := by
    have := Nat.mod_lt (A / 2 ^ i) (show 0 < 2 by decide); omega
  have e5 : A / 2 ^ i / B = 2 * (A / 2 ^ (i + 1) / B) + 1 := by
    generalize 2 * ((A / 2 ^ (i + 1)) % B) + (A / 2 ^ i) % 2 - B = t at *
    rw [e4, Nat.mul_add_div hB, Nat.div_eq_of_lt ht]
  refine ⟨by rw [minusL_len (by rw [restL_len, h.rl, hdl]), restL_len, h.rl], by rw [List.length_set, h.ql], ?_, ?_⟩
  · rw [hmin, e1]
    generalize 2 * ((A / 2 ^ (i + 1)) % B) + (A / 2 ^ i) % 2 - B = t at *
    rw [e4, Nat.mul_add_mod, Nat.mod_eq_of_lt ht]
  · have hq0 : q.getD i false = false := by
      rw [← testBit_wordN, h.q, Nat.testBit_mul_two_pow]
      simp
      intro h; omega
    rw [wordN_set q i (by rw [h.ql]; exact hi) hq0, h.q, e5, Nat.pow_succ, Nat.add_mul, Nat.one_mul, Nat.mul_comm 2, Nat.mul_assoc, Nat.mul_comm (2 ^ i) 2]
theorem DivI.done {n A B : Nat} {r q : List Bool} (h : DivI n A B 0 r q) (hB : B ≤ 2 ^ n) (hB0 : 0 < B) : wordN q = A / B ∧ wordN (r.take n) = A % B := by
  have h1 := h.r; have h2 := h.q
  rw [Nat.pow_zero, Nat.div_one] at h1 h2
  refine ⟨by omega, ?_⟩
  have hs := wordN_split r n
  have hlt := Nat.mod_lt A hB0
  have hd : wordN (r.drop n) = 0 := by
    rcases Nat.eq_zero_or_pos (wordN (r.drop n)) with h3 | h3
    · exact h3
    · have : 2 ^ n ≤ 2 ^ n * wordN (r.drop n) := Nat.le_mul_of_pos_right _ h3
      omega
  rw [hd] at hs
  omega
/-! ### multiplication -/
def mulI (n A B i : Nat) (l : List Bool) : Prop := l.length = n ∧ wordN l = (A * (B % 2 ^ i)) % 2 ^ n
theorem mulI_begin (n A B : Nat) : mulI n A B 0 (List.replicate n false) := ⟨by simp, by rw [wordN_zeros, Nat.pow_zero, Nat.mod_one]; simp⟩
theorem mod_succ_bit (B i : Nat) : B % 2 ^ (i + 1) = B % 2 ^ i + 2 ^ i * toN (B.testBit i) := by
  rw [testBit_mod, Nat.pow_succ, Nat.mod_mul]
theorem mulI_no {n A B i : Nat} {l : List Bool} (h : mulI n A B i l) (hb : B.testBit i = false) : mulI n A B (i + 1) l := by
  refine ⟨h.1, ?_⟩
  rw [mod_succ_bit, hb, h.2]; simp [toN]
theorem mulI_yes {n A B i : Nat} {l a : List Bool} (h : mulI n A B i l) (ha : a.length = n) (hA : wordN a = A) (hb : B.testBit i = true) : mulI n A B (i + 1) (addL l (shiftL a (i : Int) false) false) := by
  refine ⟨by rw [addL_len _ _ _ (by rw [shiftL_len, h.1, ha]), h.1], ?_⟩
  rw [wordN_addL _ _ _ (by rw [shiftL_len, h.1, ha]), h.1, h.2, wordN_shl, ha, hA, mod_succ_bit, hb]
  simp only [toN, if_true, Nat.mul_one, Bool.false_eq_true, if_false, Nat.add_zero]
  rw [← Nat.add_mod, Nat.mul_add]
theorem mulI_done {n A B : Nat} {l : List Bool} (h : mulI n A B n l) (hB : B < 2 ^ n) : wordN l = (A * B) % 2 ^ n := by
  rw [h.2, Nat.mod_eq_of_lt hB]
end Go.Hl
