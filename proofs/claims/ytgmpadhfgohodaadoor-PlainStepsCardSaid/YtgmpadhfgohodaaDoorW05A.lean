/-
  Words against bits in lists, lowest first: adding, taking away, comparing, shifting, mixing, as numbers.
-/
import Derived.Test.YtgmpadhfgohodaaDoorHlN
namespace Go.Hl
set_option linter.unusedVariables false

def toN (b : Bool) : Nat := if b then 1 else 0
theorem toN_le (b : Bool) : toN b ≤ 1 := by cases b <;> decide
def bitsL (n a : Nat) : List Bool := (List.range n).map fun i => a.testBit i
theorem bitsL_succ (n a : Nat) : bitsL (n + 1) a = bitsL n a ++ [a.testBit n] := by simp [bitsL, List.range_succ]
theorem bitsL_len (n a : Nat) : (bitsL n a).length = n := by simp [bitsL]
def wordN : List Bool → Nat
  | [] => 0
  | b :: l => 2 * wordN l + toN b
theorem wordN_lt (l : List Bool) : wordN l < 2 ^ l.length := by
  induction l with
  | nil => simp [wordN]
  | cons b l ih =>
    have := toN_le b
    simp only [wordN, List.length_cons, Nat.pow_succ]
    omega
theorem testBit_wordN : ∀ (l : List Bool) (i : Nat), (wordN l).testBit i = l.getD i false
  | [], i => by simp [wordN]
  | b :: l, 0 => by
    simp only [wordN, Nat.testBit_zero, List.getD_cons_zero]
    cases b <;> simp [toN] <;> omega
  | b :: l, i + 1 => by
    rw [List.getD_cons_succ, ← testBit_wordN l i, Nat.testBit_succ]
    congr 1
    have := toN_le b
    simp only [wordN]; omega
theorem getD_map_range (f : Nat → Bool) (n i : Nat) : ((List.range n).map f).getD i false = (decide (i < n) && f i) := by
  by_cases h : i < n
  · simp [List.getD, h]
  · simp [List.getD, h]
theorem wordN_range (f : Nat → Bool) (n x : Nat) (hx : x < 2 ^ n) (h : ∀ i, i < n → f i = x.testBit i) : wordN ((List.range n).map f) = x := by
  refine Nat.eq_of_testBit_eq fun i => ?_
  rw [testBit_wordN, getD_map_range]
  by_cases hi : i < n
  · simp [hi, h i hi]
  · simp only [hi, decide_false, Bool.false_and]
    exact (Nat.testBit_lt_two_pow (Nat.lt_of_lt_of_le hx (Nat.pow_le_pow_right (by decide) (by omega)))).symm
theorem wordN_bits (n a : Nat) : wordN (bitsL n a) = a % 2 ^ n := by
  refine wordN_range _ n _ (Nat.mod_lt _ (Nat.two_pow_pos n)) fun i hi => ?_
  rw [Nat.testBit_mod_two_pow]; simp [hi]
theorem wordN_bits_lt {n a : Nat} (h : a < 2 ^ n) : wordN (bitsL n a) = a := by rw [wordN_bits, Nat.mod_eq_of_lt h]
theorem bits_get {n a i : Nat} (h : i < n) : (bitsL n a)[i]? = some (a.testBit i) := by simp [bitsL, h]
/-- every list is a word's bits -/
theorem bits_wordN (l : List Bool) : bitsL l.length (wordN l) = l := by
  refine List.ext_getElem? fun i => ?_
  by_cases h : i < l.length
  · rw [bits_get h, testBit_wordN, List.getD_eq_getElem?_getD, List.getElem?_eq_getElem h]; rfl
  · rw [List.getElem?_eq_none (by rw [bitsL_len]; omega), List.getElem?_eq_none (by omega)]
theorem mod_two (t r m : Nat) (hr : r < 2) : (2 * t + r) % (2 * m) = 2 * (t % m) + r := by
  rcases Nat.eq_zero_or_pos m with rfl | hm
  · simp
  · have h1 := Nat.div_add_mod t m
    have h2 := Nat.mod_lt t hm
    have e : 2 * t + r = (2 * (t % m) + r) + (2 * m) * (t / m) := by
      have : 2 * t = 2 * (m * (t / m)) + 2 * (t % m) := by omega
      rw [this, Nat.mul_assoc]; omega
    rw [e, Nat.add_mul_mod_self_left, Nat.mod_eq_of_lt (by omega)]
def addL : List Bool → List Bool → Bool → List Bool
  | a :: as, b :: bs, c => ((toN a + toN b + toN c) % 2 == 1) :: addL as bs (decide (1 < toN a + toN b + toN c))
  | _, _, _ => []
theorem addL_len : ∀ (a b : List Bool) (c : Bool), a.length = b.length → (addL a b c).length = a.length
  | [], _, _, _ => rfl
  | _ :: _, [], _, h => by simp at h
  | a :: as, b :: bs, c, h => by simp [addL, addL_len as bs _ (by simpa using h)]
theorem wordN_addL : ∀ (a b : List Bool) (c : Bool), a.length = b.length → wordN (addL a b c) = (wordN a + wordN b + toN c) % 2 ^ a.length
  | [], [], c, _ => by simp [addL, wordN, Nat.mod_one]
  | [], _ :: _, _, h => by simp at h
  | _ :: _, [], _, h => by simp at h
  | a :: as, b :: bs, c, h => by
    have ih := wordN_addL as bs (decide (1 < toN a + toN b + toN c)) (by simpa using h)
    have ha := toN_le a; have hb := toN_le b; have hc := toN_le c
    simp only [addL, wordN, List.length_cons]
    rw [ih, Nat.pow_succ, Nat.mul_comm (2 ^ as.length) 2]
    have e1 : toN (decide (1 < toN a + toN b + toN c)) = (toN a + toN b + toN c) / 2 := by
      unfold toN
      cases a <;> cases b <;> cases c <;> decide
    have e2 : toN ((toN a + toN b + toN c) % 2 == 1) = (toN a + toN b + toN c) % 2 := by
      unfold toN
      cases a <;> cases b <;> cases c <;> decide
    rw [e1, e2, ← mod_two _ _ _ (Nat.mod_lt _ (by decide))]
    congr 1
    omega
def notL (l : List Bool) : List Bool := l.map (! ·)
theorem notL_len (l : List Bool) : (notL l).length = l.length := by simp [notL]
theorem wordN_not (l : List Bool) : wordN (notL l) + wordN l + 1 = 2 ^ l.length := by
  induction l with
  | nil => rfl
  | cons b l ih =>
    simp only [notL, List.map_cons, wordN, List.length_cons, Nat.pow_succ] at ih ⊢
    cases b <;> simp [toN] <;> omega
def minusL (a b : List Bool) : List Bool := addL a (notL b) true
theorem wordN_minus {a b : List Bool} (h : a.length = b.length) : wordN (minusL a b) = (wordN a + 2 ^ a.length - wordN b) % 2 ^ a.length := by
  unfold minusL
  rw [wordN_addL _ _ _ (by rw [notL_len]; exact h)]
  have h1 := wordN_not b
  rw [← h] at h1
  congr 1
  simp only [toN, if_true]
  omega
theorem minusL_len {a b : List Bool} (h : a.length = b.length) : (minusL a b).length = a.length := addL_len _ _ _ (by rw [notL_len]; exact h)
def negL (a : List Bool) : List Bool := addL (notL a) (List.replicate a.length false) true
theorem wordN_zeros (n : Nat) : wordN (List.replicate n false) = 0 := by
  induction n with
  | zero => rfl
  | succ n ih => rw [List.replicate_succ, wordN, ih]; rfl
theorem wordN_neg (a : List Bool) : wordN (negL a) = (2 ^ a.length - wordN a) % 2 ^ a.length := by
  unfold negL
  rw [wordN_addL _ _ _ (by rw [notL_len]; simp), notL_len, wordN_zeros]
  have h1 := wordN_not a
  congr 1
  simp only [toN, if_true]
  omega
theorem negL_len (a : List Bool) : (negL a).length = a.length := by
  unfold negL; rw [addL_len _ _ _ (by rw [notL_len]; simp), notL_len]
/-- where they part first, from above -/
theorem wordN_split (l : List Bool) : ∀ i, wordN l = wordN (l.take i) + 2 ^ i * wordN (l.drop i) := by
  induction l with
  | nil => intro i; simp [wordN]
  | cons b l ih =>
    intro i
    cases i with
    | zero => simp [wordN]
    | succ i =>
      have := ih i
      simp only [List.take_succ_cons, List.drop_succ_cons, wordN]
      rw [this, Nat.pow_succ, Nat.mul_add, Nat.mul_comm (2 ^ i) 2, Nat.mul_assoc]
      omega
theorem less_at {a b : List Bool} {i : Nat} (h : a.length = b.length) (hi : i < a.length) (hd : a.drop (i + 1) = b.drop (i + 1)) (hn : a.getD i false ≠ b.getD i false) : (wordN a < wordN b ↔ b.getD i false = true) := by
  have e : ∀ l : List Bool, i < l.length → wordN l = wordN (l.take i) + 2 ^ i * (2 * wordN (l.drop (i + 1)) + toN (l.getD i false)) := fun l hl => by
    rw [wordN_split l i, List.drop_eq_getElem_cons hl]
    congr 1
    simp [wordN, List.getD, List.getElem?_eq_getElem hl]
  have ea := e a hi
  have eb := e b (by omega)
  have la := wordN_lt (a.take i)
  have lb := wordN_lt (b.take i)
  rw [List.length_take, Nat.min_eq_left (by omega)] at la lb
  rw [ea, eb, hd]
  generalize wordN (a.take i) = x at *
  generalize wordN (b.take i) = y at *
  generalize wordN (b.drop (i + 1)) = z at *
  generalize 2 ^ i = p at *
  cases hb : b.getD i false with
  | true =>
    have ha : a.getD i false = false := by cases h2 : a.getD i false with
      | true => exact absurd (h2.trans hb.symm) hn
      | false => rfl
    rw [ha]
    simp only [toN, if_true, Bool.false_eq_true, if_false, iff_true, Nat.mul_add, Nat.mul_one, Nat.mul_zero]
    omega
  | false =>
    have ha : a.getD i false = true := by cases h2 : a.getD i false with
      | true => rfl
      | false => exact absurd (h2.trans hb.symm) hn
    rw [ha]
    simp only [toN, if_true, Bool.false_eq_true, if_false, iff_false, Nat.mul_add, Nat.mul_one, Nat.mul_zero]
    omega
/-! ### shifts, mixtures -/
def shiftL (a : List Bool) (k : Int) (fill : Bool) : List Bool := (List.range a.length).map fun (i : Nat) => if 0 ≤ (i : Int) - k ∧ (i : Int) - k < a.length then a.getD ((i : Int) - k).toNat false else fill
theorem shiftL_len (a : List Bool) (k : Int) (f : Bool) : (shiftL a k f).length = a.length := by simp [shiftL]
theorem wordN_shl (a : List Bool) (k : Nat) : wordN (shiftL a k false) = (wordN a * 2 ^ k) % 2 ^ a.length := by
  refine wordN_range _ _ _ (Nat.mod_lt _ (Nat.two_pow_pos _)) fun i hi => ?_
  rw [Nat.testBit_mod_two_pow, ← Nat.shiftLeft_eq, Nat.testBit_shiftLeft, testBit_wordN]
  by_cases hk : k ≤ i
  · rw [if_pos ⟨by omega, by omega⟩]
    have : ((i : Int) - (k : Int)).toNat = i - k := by omega
    simp [hi, hk, this]
  · rw [if_neg (by omega)]; simp [hk]
theorem wordN_shr (a : List Bool) (k : Nat) : wordN (shiftL a (-(k : Int)) false) = wordN a / 2 ^ k := by
  refine wordN_range _ _ _ (Nat.lt_of_le_of_lt (Nat.div_le_self _ _) (wordN_lt a)) fun i hi => ?_
  rw [← Nat.shiftRight_eq_div_pow, Nat.testBit_shiftRight, testBit_wordN]
  by_cases hk : k + i < a.length
  · rw [if_pos ⟨by omega, by omega⟩]
    have : ((i : Int) - -(k : Int)).toNat = k + i := by omega
    rw [this]
  · rw [if_neg (by omega)]
    simp [List.getD, List.getElem?_eq_none (show a.length ≤ k + i by omega)]
end Go.Hl
