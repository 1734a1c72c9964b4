/-
  The document's bits in lists: what its loops keep, and that its answers are the same numbers.
-/
import Derived.Test.YtgmpadhfgohodaaDoorW05E
namespace Go.Hl
set_option linter.unusedVariables false

theorem bits_at {n a i : Nat} (h : i < n) : (bitsL n a)[i]? = some (a.testBit i) := bits_get h
theorem bits_mod (n a : Nat) : bitsL n (a % 2 ^ n) = bitsL n a := by
  unfold bitsL
  refine List.map_congr_left fun i hi => ?_
  have : i < n := by simpa using hi
  rw [Nat.testBit_mod_two_pow]; simp [this]
theorem tb_iff (a i : Nat) : a.testBit i = true ↔ (a / 2 ^ i) % 2 = 1 := by
  have h := testBit_mod a i
  cases hb : a.testBit i <;> rw [hb] at h <;> simp [toN] at h <;> simp <;> omega
theorem half_pow (a i : Nat) : a / 2 ^ i / 2 = a / 2 ^ (i + 1) := by rw [Nat.div_div_eq_div_mul, Nat.pow_succ]
theorem wordN_dropE {l : List Bool} {k : Nat} (h : k < l.length) : wordN (l.drop k) = 2 * wordN (l.drop (k + 1)) + toN l[k] := by
  rw [List.drop_eq_getElem_cons h]; rfl
theorem wordN_drop_lt {l : List Bool} {k : Nat} (h : l.length ≤ 64) (hk : k ≤ l.length) : wordN (l.drop k) < 18446744073709551616 := by
  have h1 := wordN_lt (l.drop k)
  have h2 : (2 : Nat) ^ (l.drop k).length ≤ 2 ^ 64 := Nat.pow_le_pow_right (by decide) (by rw [List.length_drop]; omega)
  omega
theorem bits_of_word {l : List Bool} {n v : Nat} (hl : l.length = n) (hv : wordN l = v) : l = bitsL n v := by
  subst hl; subst hv; exact (bits_wordN l).symm
theorem bits_congr {n u v : Nat} (h : u % 2 ^ n = v % 2 ^ n) : bitsL n u = bitsL n v := by rw [← bits_mod n u, h, bits_mod]
/-! ### adding -/
theorem addL_step {a b : List Bool} {i : Nat} {x y c : Bool} (ha : a[i]? = some x) (hb : b[i]? = some y) :
    addL (a.drop i) (b.drop i) c = ((toN x + toN y + toN c) % 2 == 1) :: addL (a.drop (i + 1)) (b.drop (i + 1)) (decide (1 < toN x + toN y + toN c)) := by
  obtain ⟨h1, rfl⟩ := List.getElem?_eq_some_iff.1 ha
  obtain ⟨h2, rfl⟩ := List.getElem?_eq_some_iff.1 hb
  rw [List.drop_eq_getElem_cons h1, List.drop_eq_getElem_cons h2]; rfl
theorem addL_end {a b : List Bool} {i : Nat} {c : Bool} (h : a.length ≤ i) : addL (a.drop i) (b.drop i) c = [] := by
  rw [List.drop_eq_nil_of_le h]; rfl
theorem notL_take {a : List Bool} {i : Nat} {x : Bool} (h : a[i]? = some x) : notL (a.take (i + 1)) = notL (a.take i) ++ [!x] := by
  unfold notL; rw [List.take_add_one, h, List.map_append]; rfl
theorem minus_bits {n A B : Nat} (hB : B < 2 ^ n) : wordN (minusL (bitsL n A) (bitsL n B)) = (A % 2 ^ n + 2 ^ n - B) % 2 ^ n := by
  rw [wordN_minus (by rw [bitsL_len, bitsL_len]), bitsL_len, wordN_bits, wordN_bits_lt hB]
theorem neg_bits {n A : Nat} (hA : A < 2 ^ n) : negL (bitsL n A) = bitsL n (2 ^ n - A) := by
  refine bits_of_word (by rw [negL_len, bitsL_len]) ?_ |>.trans (bits_mod n _)
  rw [wordN_neg, bitsL_len, wordN_bits_lt hA]
/-! ### shifting -/
def sh1 (a : List Bool) (k : Int) (f : Bool) (i : Nat) : Bool := if 0 ≤ (i : Int) - k ∧ (i : Int) - k < a.length then a.getD ((i : Int) - k).toNat false else f
theorem shiftL_eq (a : List Bool) (k : Int) (f : Bool) : shiftL a k f = (List.range a.length).map (sh1 a k f) := rfl
theorem range_snoc {α : Type} (g : Nat → α) (i : Nat) : (List.range (i + 1)).map g = (List.range i).map g ++ [g i] := by rw [List.range_succ, List.map_append]; rfl
theorem sh1_in {a : List Bool} {k : Int} {f : Bool} {i : Nat} {x : Bool} (h : 0 ≤ (i : Int) - k ∧ (i : Int) - k < a.length) (hx : a[((i : Int) - k).toNat]? = some x) : sh1 a k f i = x := by
  unfold sh1; rw [if_pos h, List.getD_eq_getElem?_getD, hx]; rfl
theorem sh1_out {a : List Bool} {k : Int} {f : Bool} {i : Nat} (h : ¬ (0 ≤ (i : Int) - k ∧ (i : Int) - k < a.length)) : sh1 a k f i = f := by unfold sh1; rw [if_neg h]
theorem getD_at {l : List Bool} {i : Nat} {x : Bool} (h : l[i]? = some x) : l.getD i false = x := by rw [List.getD_eq_getElem?_getD, h]; rfl
theorem tb_word {l : List Bool} {i : Nat} {x : Bool} (h : l[i]? = some x) : (wordN l).testBit i = x := by rw [testBit_wordN, getD_at h]
theorem shl_bits {n A k : Nat} (hA : A < 2 ^ n) : wordN (shiftL (bitsL n A) (k : Int) false) = (A * 2 ^ k) % 2 ^ n := by rw [wordN_shl, bitsL_len, wordN_bits_lt hA]
theorem shr_bits {n A k : Nat} (hA : A < 2 ^ n) : wordN (shiftL (bitsL n A) (-(k : Int)) false) = A / 2 ^ k := by rw [wordN_shr, wordN_bits_lt hA]
theorem testBit_top {n A : Nat} (hn : 0 < n) (hA : A < 2 ^ n) : A.testBit (n - 1) = true ↔ 2 ^ (n - 1) ≤ A := by
  obtain ⟨m, rfl⟩ : ∃ m, n = m + 1 := ⟨n - 1, by omega⟩
  rw [tb_iff, Nat.add_sub_cancel]
  have h1 : A / 2 ^ m < 2 := by rw [Nat.div_lt_iff_lt_mul (Nat.two_pow_pos m)]; rw [Nat.pow_succ] at hA; omega
  constructor
  · intro h
    have : 1 ≤ A / 2 ^ m := by generalize A / 2 ^ m = q at *; omega
    rw [Nat.le_div_iff_mul_le (Nat.two_pow_pos m)] at this; omega
  · intro h
    have : 1 ≤ A / 2 ^ m := by rw [Nat.le_div_iff_mul_le (Nat.two_pow_pos m)]; omega
    generalize A / 2 ^ m = q at *; omega
/-- to the right, filled up with what stands highest -/
theorem sar_bits {n A k : Nat} (hn : WN n) (hA : A < 2 ^ n) (hk : k < n) : wordN (shiftL (bitsL n A) (-(k : Int)) (A.testBit (n - 1))) = (sgnN n A / 2 ^ k % 2 ^ n).toNat := by
  have hn0 : 0 < n := by rcases hn with rfl | rfl <;> decide
  have ht := testBit_top hn0 hA
  by_cases hs : 2 ^ (n - 1) ≤ A
  · rw [ht.2 hs]
    -- the lists' bits: A above 2^k, ones behind
    have hval : wordN (shiftL (bitsL n A) (-(k : Int)) true) = A / 2 ^ k + (2 ^ n - 2 ^ (n - k)) := by
      have hkn : 2 ^ (n - k) ≤ 2 ^ n := Nat.pow_le_pow_right (by decide) (by omega)
      have hq : A / 2 ^ k < 2 ^ (n - k) := by
        rw [Nat.div_lt_iff_lt_mul (Nat.two_pow_pos k), ← Nat.pow_add]; rwa [show n - k + k = n by omega]
      have e : 2 ^ n - 2 ^ (n - k) = 2 ^ (n - k) * (2 ^ k - 1) := by
        rw [Nat.mul_sub, Nat.mul_one, ← Nat.pow_add, show n - k + k = n by omega]
      refine (wordN_range _ _ _ (by rw [bitsL_len]; generalize A / 2 ^ k = q at *; omega) fun i hi => ?_)
      rw [bitsL_len] at hi
      rw [Nat.add_comm, e, Nat.testBit_two_pow_mul_add _ hq]
      simp only [bitsL_len]
      by_cases hik : i + k < n
      · rw [if_pos ⟨by omega, by omega⟩, if_pos (by omega)]
        have : ((i : Int) - -(k : Int)).toNat = i + k := by omega
        rw [this, getD_at (bits_at (by omega)), Nat.testBit_div_two_pow]
      · rw [if_neg (by omega), if_neg (by omega), Nat.testBit_two_pow_sub_one]
        simp; omega
    rw [hval]
    unfold sgnN
    rw [if_neg (by omega)]
    have hkn : (2 : Int) ^ n = 2 ^ (n - k) * 2 ^ k := by rw [← Int.pow_add]; congr 1; omega
    have hdiv : ((A : Int) - 2 ^ n) / 2 ^ k = (A : Int) / 2 ^ k - 2 ^ (n - k) := by
      rw [hkn, Int.sub_eq_add_neg, ← Int.neg_mul, Int.add_mul_ediv_right _ _ (Int.ne_of_gt (Int.pow_pos (by decide)))]; rfl
    rw [hdiv]
    have h1 : (A : Int) / 2 ^ k = ((A / 2 ^ k : Nat) : Int) := by rw [Int.natCast_ediv, Int.natCast_pow]; rfl
    have h2 : (2 : Int) ^ (n - k) = ((2 ^ (n - k) : Nat) : Int) := by rw [Int.natCast_pow]; rfl
    have h3 : (2 : Int) ^ n = ((2 ^ n : Nat) : Int) := by rw [Int.natCast_pow]; rfl
    have hkn' : 2 ^ (n - k) ≤ 2 ^ n := Nat.pow_le_pow_right (by decide) (by omega)
    have hq : A / 2 ^ k < 2 ^ (n - k) := by
      rw [Nat.div_lt_iff_lt_mul (Nat.two_pow_pos k), ← Nat.pow_add]; rwa [show n - k + k = n by omega]
    rw [h1, h2, h3]
    have hpos := Nat.two_pow_pos n
    generalize A / 2 ^ k = q at *
    rw [← Int.add_emod_right, Int.emod_eq_of_lt (by omega) (by omega)]
    omega
  · have : A.testBit (n - 1) = false := by
      cases hb : A.testBit (n - 1) with
      | false => rfl
      | true => exact absurd (ht.1 hb) hs
    rw [this, shr_bits hA]
    unfold sgnN
    rw [if_pos (by omega)]
    have h1 : (A : Int) / 2 ^ k = ((A / 2 ^ k : Nat) : Int) := by rw [Int.natCast_ediv, Int.natCast_pow]; rfl
    have h3 : (2 : Int) ^ n = ((2 ^ n : Nat) : Int) := by rw [Int.natCast_pow]; rfl
    have h4 := Nat.div_le_self A (2 ^ k)
    rw [h1, h3]
    generalize A / 2 ^ k = q at *
    rw [Int.emod_eq_of_lt (by omega) (by omega)]
    omega
/-! ### less -/
theorem less_get {a b : List Bool} {j : Nat} {x y : Bool} (h : a.length = b.length) (hx : a[j]? = some x) (hy : b[j]? = some y) (hd : a.drop (j + 1) = b.drop (j + 1)) (hn : ¬ (x = true ↔ y = true)) : (wordN a < wordN b ↔ y = true) := by
  have hj := (List.getElem?_eq_some_iff.1 hx).1
  have := less_at h hj hd (by rw [getD_at hx, getD_at hy]; intro e; exact hn (by rw [e]))
  rw [this, getD_at hy]
theorem drop_eq {a b : List Bool} {j : Nat} {x y : Bool} (hx : a[j]? = some x) (hy : b[j]? = some y) (hd : a.drop (j + 1) = b.drop (j + 1)) (hn : ¬ ¬ (x = true ↔ y = true)) : a.drop j = b.drop j := by
  obtain ⟨h1, rfl⟩ := List.getElem?_eq_some_iff.1 hx
  obtain ⟨h2, rfl⟩ := List.getElem?_eq_some_iff.1 hy
  rw [List.drop_eq_getElem_cons h1, List.drop_eq_getElem_cons h2, hd]
  congr 1
  have := Classical.not_not.1 hn
  cases ha : a[j] <;> cases hb : b[j] <;> simp_all
theorem less_sign {n A B : Nat} (hn : WN n) (hA : A < 2 ^ n) (hB : B < 2 ^ n) (h : ¬ (A.testBit (n - 1) = true ↔ B.testBit (n - 1) = true)) : sgnN n A < sgnN n B ↔ A.testBit (n - 1) = true := by
  have hn0 : 0 < n := by rcases hn with rfl | rfl <;> decide
  have ha := testBit_top hn0 hA
  have hb := testBit_top hn0 hB
  rw [ha] at h ⊢; rw [hb] at h
  unfold sgnN
  rcases hn with rfl | rfl <;> (repeat' split) <;> omega
theorem less_same {n A B : Nat} (hn : WN n) (hA : A < 2 ^ n) (hB : B < 2 ^ n) (h : A.testBit (n - 1) = true ↔ B.testBit (n - 1) = true) : sgnN n A < sgnN n B ↔ A < B := by
  have hn0 : 0 < n := by rcases hn with rfl | rfl <;> decide
  have ha := testBit_top hn0 hA
  have hb := testBit_top hn0 hB
  rw [ha, hb] at h
  unfold sgnN
  rcases hn with rfl | rfl <;> (repeat' split) <;> omega
/-! ### bit by bit -/
def mixN (how : Int) (A B : Nat) : Nat := if how = 0 then A &&& B else if how = 1 then A ||| B else A ^^^ B
theorem mix0 {how : Int} {A B i : Nat} (h : how = 0) : (mixN how A B).testBit i = (A.testBit i && B.testBit i) := by unfold mixN; rw [if_pos h, Nat.testBit_and]
theorem mix1 {how : Int} {A B i : Nat} (h0 : ¬ how = 0) (h : how = 1) : (mixN how A B).testBit i = (A.testBit i || B.testBit i) := by unfold mixN; rw [if_neg h0, if_pos h, Nat.testBit_or]
theorem mix2 {how : Int} {A B i : Nat} (h0 : ¬ how = 0) (h : ¬ how = 1) : (mixN how A B).testBit i = (A.testBit i ^^ B.testBit i) := by unfold mixN; rw [if_neg h0, if_neg h, Nat.testBit_xor]
/-! ### turning -/
theorem wordN_app (l r : List Bool) : wordN (l ++ r) = wordN l + 2 ^ l.length * wordN r := by
  induction l with
  | nil => simp [wordN]
  | cons b l ih =>
    simp only [List.cons_append, wordN, ih, List.length_cons, Nat.pow_succ]
    rw [Nat.mul_add, Nat.mul_comm (2 ^ l.length) 2, Nat.mul_assoc]; omega
theorem wordN_take (l : List Bool) (k : Nat) : wordN (l.take k) = wordN l % 2 ^ k := by
  by_cases h : k ≤ l.length
  · have h1 := wordN_split l k
    have h2 := wordN_lt (l.take k)
    rw [List.length_take, Nat.min_eq_left h] at h2
    rw [h1, Nat.add_mul_mod_self_left, Nat.mod_eq_of_lt h2]
  · rw [List.take_of_length_le (by omega)]
    have h2 := wordN_lt l
    have h3 : 2 ^ l.length ≤ 2 ^ k := Nat.pow_le_pow_right (by decide) (by omega)
    rw [Nat.mod_eq_of_lt (by omega)]
theorem wordN_drop (l : List Bool) (k : Nat) : wordN (l.drop k) = wordN l / 2 ^ k := by
  by_cases h : k ≤ l.length
  · have h1 := wordN_split l k
    have h2 := wordN_lt (l.take k)
    rw [List.length_take, Nat.min_eq_left h] at h2
    rw [h1, Nat.add_mul_div_left _ _ (Nat.two_pow_pos k), Nat.div_eq_of_lt h2, Nat.zero_add]
  · rw [List.drop_eq_nil_of_le (by omega)]
    have h2 := wordN_lt l
    have h3 : 2 ^ l.length ≤ 2 ^ k := Nat.pow_le_pow_right (by decide) (by omega)
    rw [Nat.div_eq_of_lt (by omega)]; rfl
theorem turn_bits {n A k : Nat} (hA : A < 2 ^ n) (hk : k ≤ n) : wordN ((bitsL n A).drop (n - k) ++ (bitsL n A).take (n - k)) = rotF n A k := by
  rw [wordN_app, wordN_take, wordN_drop, wordN_bits_lt hA, List.length_drop, bitsL_len, show n - (n - k) = k by omega]
  unfold rotF
  have hp : 2 ^ n = 2 ^ (n - k) * 2 ^ k := by rw [← Nat.pow_add]; congr 1; omega
  rw [hp, Nat.mul_mod_mul_right, Nat.mul_comm (2 ^ k)]; omega
theorem turn_bitsR {n A k : Nat} (hA : A < 2 ^ n) (hk : k < n) : wordN ((bitsL n A).drop k ++ (bitsL n A).take k) = rotF n A ((n - k) % n) := by
  by_cases h0 : k = 0
  · subst h0
    have := turn_bits (k := 0) hA (Nat.zero_le _)
    rw [Nat.sub_zero] at this
    rw [Nat.sub_zero, Nat.mod_self, ← this, List.drop_zero, List.take_zero, List.append_nil]
    rw [List.drop_eq_nil_of_le (as := bitsL n A) (i := n) (by rw [bitsL_len]; exact Nat.le_refl _), List.take_of_length_le (l := bitsL n A) (i := n) (by rw [bitsL_len]; exact Nat.le_refl _), List.nil_append]
  · have := turn_bits (k := n - k) hA (Nat.sub_le _ _)
    rw [show n - (n - k) = k by omega] at this
    rw [this, Nat.mod_eq_of_lt (by omega)]
end Go.Hl
