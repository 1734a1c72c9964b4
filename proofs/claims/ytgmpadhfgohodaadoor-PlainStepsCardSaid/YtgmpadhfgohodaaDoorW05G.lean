/-
  Division of words by their bits in lists; counting of bits, one behind another.
-/
import Derived.Test.YtgmpadhfgohodaaDoorW05F
namespace Go.Hl
set_option linter.unusedVariables false

/-- how great a number with a sign is -/
def absN (n A : Nat) : Nat := if 2 ^ (n - 1) ≤ A then 2 ^ n - A else A
theorem abs_sgn {n A : Nat} (hn : WN n) (hA : A < 2 ^ n) : (sgnN n A).natAbs = absN n A ∧ absN n A ≤ 2 ^ (n - 1) ∧ absN n A < 2 ^ n := by
  unfold sgnN absN
  rcases hn with rfl | rfl <;> (repeat' split) <;> refine ⟨?_, ?_, ?_⟩ <;> omega
theorem sgn_neg {n A : Nat} (hn : WN n) (hA : A < 2 ^ n) : sgnN n A < 0 ↔ 2 ^ (n - 1) ≤ A := by
  unfold sgnN
  rcases hn with rfl | rfl <;> split <;> omega
theorem tdiv_abs (a b : Int) : a.tdiv b = if (a < 0) = (b < 0) then ((a.natAbs / b.natAbs : Nat) : Int) else -((a.natAbs / b.natAbs : Nat) : Int) := by
  rcases Int.lt_or_le a 0 with ha | ha <;> rcases Int.lt_or_le b 0 with hb | hb
  · rw [if_pos (by simp [ha, hb])]
    obtain ⟨x, rfl⟩ : ∃ x : Nat, a = -(x : Int) := ⟨a.natAbs, by omega⟩
    obtain ⟨y, rfl⟩ : ∃ y : Nat, b = -(y : Int) := ⟨b.natAbs, by omega⟩
    rw [Int.neg_tdiv_neg, Int.natAbs_neg, Int.natAbs_neg]; rfl
  · rw [if_neg (by simp [ha]; omega)]
    obtain ⟨x, rfl⟩ : ∃ x : Nat, a = -(x : Int) := ⟨a.natAbs, by omega⟩
    obtain ⟨y, rfl⟩ : ∃ y : Nat, b = (y : Int) := ⟨b.natAbs, by omega⟩
    rw [Int.neg_tdiv, Int.natAbs_neg]; rfl
  · rw [if_neg (by simp [hb]; omega)]
    obtain ⟨x, rfl⟩ : ∃ x : Nat, a = (x : Int) := ⟨a.natAbs, by omega⟩
    obtain ⟨y, rfl⟩ : ∃ y : Nat, b = -(y : Int) := ⟨b.natAbs, by omega⟩
    rw [Int.tdiv_neg, Int.natAbs_neg]; rfl
  · rw [if_pos (by simp; omega)]
    obtain ⟨x, rfl⟩ : ∃ x : Nat, a = (x : Int) := ⟨a.natAbs, by omega⟩
    obtain ⟨y, rfl⟩ : ∃ y : Nat, b = (y : Int) := ⟨b.natAbs, by omega⟩
    rfl
theorem tmod_abs (a b : Int) : a.tmod b = if a < 0 then -((a.natAbs % b.natAbs : Nat) : Int) else ((a.natAbs % b.natAbs : Nat) : Int) := by
  have hb : a.tmod b = a.tmod (b.natAbs : Int) := by
    rcases Int.natAbs_eq b with h | h
    · exact congrArg a.tmod h
    · have : a.tmod b = a.tmod (-(b.natAbs : Int)) := congrArg a.tmod h
      rw [this, Int.tmod_neg]
  rw [hb]
  rcases Int.lt_or_le a 0 with ha | ha
  · rw [if_pos ha]
    obtain ⟨x, rfl⟩ : ∃ x : Nat, a = -(x : Int) := ⟨a.natAbs, by omega⟩
    rw [Int.neg_tmod, Int.natAbs_neg]; rfl
  · rw [if_neg (by omega)]
    obtain ⟨x, rfl⟩ : ∃ x : Nat, a = (x : Int) := ⟨a.natAbs, by omega⟩
    rfl
theorem mod_of_neg {n v : Nat} (hv : v ≤ 2 ^ n) : ((-(v : Int)) % 2 ^ n).toNat = (2 ^ n - v) % 2 ^ n := by
  have h3 : (2 : Int) ^ n = ((2 ^ n : Nat) : Int) := by rw [Int.natCast_pow]; rfl
  have hp := Nat.two_pow_pos n
  rw [h3]
  generalize 2 ^ n = p at *
  rcases Nat.eq_zero_or_pos v with rfl | h0
  · simp
  · rw [← Int.add_emod_right]
    rcases Nat.lt_or_ge v p with h | h
    · rw [Int.emod_eq_of_lt (by omega) (by omega), Nat.mod_eq_of_lt (by omega)]; omega
    · have : v = p := by omega
      subst this; simp
theorem mod_of_pos {n v : Nat} : (((v : Nat) : Int) % 2 ^ n).toNat = v % 2 ^ n := by
  have h3 : (2 : Int) ^ n = ((2 ^ n : Nat) : Int) := by rw [Int.natCast_pow]; rfl
  rw [h3, ← Int.natCast_emod]; rfl
/-- the quotient with signs, by the document -/
theorem divS_same {n A B : Nat} (hn : WN n) (hA : A < 2 ^ n) (hB : B < 2 ^ n) (h : 2 ^ (n - 1) ≤ A ↔ 2 ^ (n - 1) ≤ B) : ((sgnN n A).tdiv (sgnN n B) % 2 ^ n).toNat = absN n A / absN n B := by
  have h1 := sgn_neg hn hA; have h2 := sgn_neg hn hB
  have hle := Nat.div_le_self (absN n A) (absN n B)
  rw [tdiv_abs, if_pos (by rw [eq_iff_iff, h1, h2]; exact h), (abs_sgn hn hA).1, (abs_sgn hn hB).1, mod_of_pos, Nat.mod_eq_of_lt (by have := (abs_sgn hn hA).2.2; omega)]
theorem divS_not {n A B : Nat} (hn : WN n) (hA : A < 2 ^ n) (hB : B < 2 ^ n) (h : ¬ (2 ^ (n - 1) ≤ A ↔ 2 ^ (n - 1) ≤ B)) : ((sgnN n A).tdiv (sgnN n B) % 2 ^ n).toNat = (2 ^ n - absN n A / absN n B) % 2 ^ n := by
  have h1 := sgn_neg hn hA; have h2 := sgn_neg hn hB
  have hle := Nat.div_le_self (absN n A) (absN n B)
  rw [tdiv_abs, if_neg (by rw [eq_iff_iff, h1, h2]; exact h), (abs_sgn hn hA).1, (abs_sgn hn hB).1, mod_of_neg (by have := (abs_sgn hn hA).2.2; omega)]
theorem remS_neg {n A B : Nat} (hn : WN n) (hA : A < 2 ^ n) (hB : B < 2 ^ n) (h : 2 ^ (n - 1) ≤ A) : ((sgnN n A).tmod (sgnN n B) % 2 ^ n).toNat = (2 ^ n - absN n A % absN n B) % 2 ^ n := by
  have hle := Nat.mod_le (absN n A) (absN n B)
  rw [tmod_abs, if_pos ((sgn_neg hn hA).2 h), (abs_sgn hn hA).1, (abs_sgn hn hB).1, mod_of_neg (by have := (abs_sgn hn hA).2.2; omega)]
theorem remS_pos {n A B : Nat} (hn : WN n) (hA : A < 2 ^ n) (hB : B < 2 ^ n) (h : ¬ 2 ^ (n - 1) ≤ A) : ((sgnN n A).tmod (sgnN n B) % 2 ^ n).toNat = absN n A % absN n B := by
  have hle := Nat.mod_le (absN n A) (absN n B)
  rw [tmod_abs, if_neg (fun h' => h ((sgn_neg hn hA).1 h')), (abs_sgn hn hA).1, (abs_sgn hn hB).1, mod_of_pos, Nat.mod_eq_of_lt (by have := (abs_sgn hn hA).2.2; omega)]
/-- a quotient is too great just where the least number is divided by -1 -/
theorem over_iff {n A B : Nat} (hn : WN n) (hA : A < 2 ^ n) (hB : B < 2 ^ n) (hB0 : B ≠ 0) (h : 2 ^ (n - 1) ≤ A ↔ 2 ^ (n - 1) ≤ B) : 2 ^ (n - 1) ≤ absN n A / absN n B ↔ sgnN n B = -1 ∧ A = 2 ^ (n - 1) := by
  obtain ⟨a1, a2, a3⟩ := abs_sgn hn hA
  obtain ⟨b1, b2, b3⟩ := abs_sgn hn hB
  have hb0 : 0 < absN n B := by unfold absN; rcases hn with rfl | rfl <;> split <;> omega
  have hp := Nat.two_pow_pos (n - 1)
  constructor
  · intro hq
    rw [Nat.le_div_iff_mul_le hb0] at hq
    have hb1 : absN n B = 1 := by
      rcases Nat.lt_or_ge (absN n B) 2 with h1 | h1
      · omega
      · exfalso
        have := Nat.mul_le_mul_left (2 ^ (n - 1)) h1
        omega
    rw [hb1, Nat.mul_one] at hq
    unfold absN at hb1 hq a2
    unfold sgnN
    rcases hn with rfl | rfl <;> (repeat' split at hb1) <;> (repeat' split at hq) <;> (repeat' split) <;> omega
  · rintro ⟨h1, h2⟩
    have hb1 : absN n B = 1 := by rw [← b1, h1]; rfl
    rw [hb1, Nat.div_one, h2]
    unfold absN
    rcases hn with rfl | rfl <;> decide
theorem zero_take {l : List Bool} {i : Nat} {x : Bool} (hx : l[i]? = some x) (h : ¬ x = true) (h0 : wordN (l.take i) = 0) : wordN (l.take (i + 1)) = 0 := by
  rw [List.take_add_one, hx, wordN_app, h0]
  have : x = false := by simpa using h
  subst this; rfl
theorem word_ne {l : List Bool} {i : Nat} (hx : l[i]? = some true) : wordN l ≠ 0 := fun h => by
  have := tb_word hx
  rw [h, Nat.zero_testBit] at this; cases this
theorem replicate_range (n : Nat) : List.replicate n false = bitsL n 0 := by
  refine List.ext_getElem? fun i => ?_
  by_cases h : i < n
  · rw [bits_at h, Nat.zero_testBit]; simp [h]
  · rw [List.getElem?_eq_none (by simpa using h), List.getElem?_eq_none (by rw [bitsL_len]; omega)]
def encP (p : Prop) : List VP := [propV p]
instance : Enc 1 encP := ⟨fun _ => rfl, fun x q h => by simp only [encP, List.mem_cons, List.not_mem_nil, or_false] at h; subst h; infer_instance⟩
/-! ### the document's division, for any of its four -/
def sgP (n : Nat) (op : Int) (A : Nat) : Prop := (op = 3 ∨ op = 5) ∧ 2 ^ (n - 1) ≤ A
instance {n : Nat} {op : Int} {A : Nat} : Decidable (sgP n op A) := by unfold sgP; infer_instance
def magN (n : Nat) (op : Int) (A : Nat) : Nat := if sgP n op A then 2 ^ n - A else A
theorem mag_lt {n A : Nat} {op : Int} (hn : WN n) (hA : A < 2 ^ n) : magN n op A < 2 ^ n := by
  unfold magN
  split
  · rename_i h; have h2 := h.2
    rcases hn with rfl | rfl <;> omega
  · exact hA
theorem mag_s {n A : Nat} {op : Int} (h : op = 3 ∨ op = 5) : magN n op A = absN n A := by unfold magN sgP absN; simp [h]
theorem mag_u {n A : Nat} {op : Int} (h : ¬ (op = 3 ∨ op = 5)) : magN n op A = A := by unfold magN sgP; simp [h]
theorem mag_pos {n A : Nat} {op : Int} (hn : WN n) (hA : A < 2 ^ n) (h0 : A ≠ 0) : 0 < magN n op A := by
  unfold magN; split <;> omega
theorem sgP_s {n A : Nat} {op : Int} (h : op = 3 ∨ op = 5) : sgP n op A ↔ 2 ^ (n - 1) ≤ A := by unfold sgP; simp [h]
theorem sgP_u {n A : Nat} {op : Int} (h : ¬ (op = 3 ∨ op = 5)) : ¬ sgP n op A := by unfold sgP; simp [h]
theorem trap_z {n A : Nat} {op : Int} (h : 3 ≤ op ∧ op ≤ 6) : trapF n op A 0 = 2 := by unfold trapF; rw [if_neg (by omega), if_pos rfl]
theorem trap_out {n A B : Nat} {op : Int} (h : op < 3 ∨ 6 < op) : trapF n op A B = 0 := by unfold trapF; rw [if_pos h]
theorem binV_of {n A B : Nat} {op : Int} (h : trapF n op A B = 0) : binV n op A B = binF n op A B := by unfold binV; rw [if_pos h]
theorem binV_no {n A B : Nat} {op : Int} (h : trapF n op A B ≠ 0) : binV n op A B = 0 := by unfold binV; rw [if_neg h]
theorem trap_rem {n A B : Nat} {op : Int} (hB0 : B ≠ 0) (h : 5 ≤ op ∧ op ≤ 6) : trapF n op A B = 0 := by unfold trapF; rw [if_neg (by omega), if_neg hB0, if_neg (fun h' => by omega)]
theorem rem_na {n A B : Nat} {op : Int} (hn : WN n) (hA : A < 2 ^ n) (hB : B < 2 ^ n) (h : 5 ≤ op ∧ op ≤ 6) (hs : sgP n op A) : binF n op A B = (2 ^ n - magN n op A % magN n op B) % 2 ^ n := by
  have h5 : op = 5 := by have := hs.1; omega
  subst h5
  rw [mag_s (.inr rfl), mag_s (.inr rfl)]
  exact remS_neg hn hA hB hs.2
theorem rem_no {n A B : Nat} {op : Int} (hn : WN n) (hA : A < 2 ^ n) (hB : B < 2 ^ n) (h : 5 ≤ op ∧ op ≤ 6) (hs : ¬ sgP n op A) : binF n op A B = magN n op A % magN n op B := by
  rcases (show op = 5 ∨ op = 6 by omega) with rfl | rfl
  · rw [mag_s (.inr rfl), mag_s (.inr rfl)]
    exact remS_pos hn hA hB (fun h' => hs ⟨.inr rfl, h'⟩)
  · rw [mag_u (by decide), mag_u (by decide)]; rfl
theorem quo_over {n A B : Nat} {op : Int} (hn : WN n) (hA : A < 2 ^ n) (hB : B < 2 ^ n) (hB0 : B ≠ 0) (h : 3 ≤ op ∧ op ≤ 4) (hs : ((op = 3 ∨ op = 5) ∧ (sgP n op A ↔ sgP n op B)) ∧ 2 ^ (n - 1) ≤ magN n op A / magN n op B) : trapF n op A B = 3 := by
  obtain ⟨⟨h1, h2⟩, h3⟩ := hs
  rw [sgP_s h1, sgP_s h1] at h2
  rw [mag_s h1, mag_s h1] at h3
  have := (over_iff hn hA hB hB0 h2).1 h3
  unfold trapF
  rw [if_neg (by omega), if_neg hB0, if_pos ⟨by omega, this⟩]
theorem quo_ok {n A B : Nat} {op : Int} (hn : WN n) (hA : A < 2 ^ n) (hB : B < 2 ^ n) (hB0 : B ≠ 0) (h : 3 ≤ op ∧ op ≤ 4) (hs : ¬ (((op = 3 ∨ op = 5) ∧ (sgP n op A ↔ sgP n op B)) ∧ 2 ^ (n - 1) ≤ magN n op A / magN n op B)) : trapF n op A B = 0 := by
  unfold trapF
  rw [if_neg (by omega), if_neg hB0, if_neg]
  rintro ⟨h3, h4⟩
  subst h3
  have hlt : (2 ^ (n - 1) ≤ A ↔ 2 ^ (n - 1) ≤ B) := by
    obtain ⟨h4, h5⟩ := h4
    have hb : 2 ^ (n - 1) ≤ B := (sgn_neg hn hB).1 (by omega)
    exact ⟨fun _ => hb, fun _ => by omega⟩
  refine hs ⟨⟨.inl rfl, by rw [sgP_s (.inl rfl), sgP_s (.inl rfl)]; exact hlt⟩, ?_⟩
  rw [mag_s (.inl rfl), mag_s (.inl rfl)]
  exact (over_iff hn hA hB hB0 hlt).2 h4
theorem quo_neg {n A B : Nat} {op : Int} (hn : WN n) (hA : A < 2 ^ n) (hB : B < 2 ^ n) (h : 3 ≤ op ∧ op ≤ 4) (hs : ¬ (sgP n op A ↔ sgP n op B)) : binF n op A B = (2 ^ n - magN n op A / magN n op B) % 2 ^ n := by
  rcases (show op = 3 ∨ op = 4 by omega) with rfl | rfl
  · rw [sgP_s (.inl rfl), sgP_s (.inl rfl)] at hs
    rw [mag_s (.inl rfl), mag_s (.inl rfl)]
    exact divS_not hn hA hB hs
  · exact absurd (iff_of_false (sgP_u (by decide)) (sgP_u (by decide))) hs
theorem quo_pos {n A B : Nat} {op : Int} (hn : WN n) (hA : A < 2 ^ n) (hB : B < 2 ^ n) (h : 3 ≤ op ∧ op ≤ 4) (hs : sgP n op A ↔ sgP n op B) : binF n op A B = magN n op A / magN n op B := by
  rcases (show op = 3 ∨ op = 4 by omega) with rfl | rfl
  · rw [sgP_s (.inl rfl), sgP_s (.inl rfl)] at hs
    rw [mag_s (.inl rfl), mag_s (.inl rfl)]
    exact divS_same hn hA hB hs
  · rw [mag_u (by decide), mag_u (by decide)]; rfl
theorem word_neg {n v : Nat} (hv : v < 2 ^ n) : wordN (negL (bitsL n v)) = (2 ^ n - v) % 2 ^ n := by rw [wordN_neg, bitsL_len, wordN_bits_lt hv]
theorem word_mul {n v : Nat} : wordN (bitsL n v) = v % 2 ^ n := wordN_bits n v
theorem mix_lt {n A B : Nat} {how : Int} (hA : A < 2 ^ n) (hB : B < 2 ^ n) : mixN how A B < 2 ^ n := by
  obtain ⟨h1, h2, h3⟩ := bitwise_lt hA hB
  unfold mixN; (repeat' split) <;> assumption
theorem word_add {n A B : Nat} (hA : A < 2 ^ n) (hB : B < 2 ^ n) : wordN (addL (bitsL n A) (bitsL n B) false) = (A + B) % 2 ^ n := by
  rw [wordN_addL _ _ _ (by rw [bitsL_len, bitsL_len]), bitsL_len, wordN_bits_lt hA, wordN_bits_lt hB]; rfl
theorem word_minus {n A B : Nat} (hA : A < 2 ^ n) (hB : B < 2 ^ n) : wordN (minusL (bitsL n A) (bitsL n B)) = (A + 2 ^ n - B) % 2 ^ n := by
  rw [minus_bits hB, Nat.mod_eq_of_lt hA]
theorem mix7 {n A B : Nat} {op : Int} (h : op = 7 ∨ op = 8 ∨ op = 9) : binF n op A B = mixN (op - 7) A B := by
  rcases h with rfl | rfl | rfl <;> rfl
/-! ### extending -/
open Classical in
noncomputable def topB (f : Nat) (s : Prop) (a : Nat) : Bool := if s ∧ a.testBit (f - 1) = true then true else false
theorem top_iff {f a : Nat} {s : Prop} (h : 0 < f) : (s ∧ a.testBit (f - 1) = true) ↔ topB f s a = true := by
  unfold topB; split <;> simp_all
noncomputable def extL (f k : Nat) (s : Prop) (a : Nat) : List Bool := bitsL f a ++ List.replicate k (topB f s a)
theorem extL_len (f k : Nat) (s : Prop) (a : Nat) : (extL f k s a).length = f + k := by simp [extL, bitsL_len]
theorem extL_succ (f k : Nat) (s : Prop) (a : Nat) : extL f (k + 1) s a = extL f k s a ++ [topB f s a] := by unfold extL; rw [List.replicate_succ', List.append_assoc]
theorem take_bits {f n a : Nat} {s : Prop} (h : f ≤ n) : (bitsL n a).take f = extL f 0 s a := by
  unfold extL bitsL
  rw [← List.map_take, List.take_range, Nat.min_eq_left h]; simp
theorem word_rep (k : Nat) (b : Bool) : wordN (List.replicate k b) = toN b * (2 ^ k - 1) := by
  induction k with
  | zero => simp [wordN]
  | succ k ih =>
    have := Nat.two_pow_pos k
    rw [List.replicate_succ, wordN, ih, Nat.pow_succ]
    cases b <;> simp [toN]; omega
theorem word_ext {f t a : Nat} {s : Prop} [Decidable s] (hf : f = 8 ∨ f = 16 ∨ f = 32) (hle : f ≤ t) : wordN (extL f (t - f) s a) = extF f t s a := by
  unfold extL extF
  rw [wordN_app, bitsL_len, wordN_bits, word_rep]
  have hf0 : 0 < f := by omega
  have ht := testBit_top (A := a % 2 ^ f) hf0 (Nat.mod_lt _ (Nat.two_pow_pos f))
  rw [Nat.testBit_mod_two_pow] at ht
  have hti := top_iff (a := a) (s := s) hf0
  have hp : 2 ^ t = 2 ^ f * 2 ^ (t - f) := by rw [← Nat.pow_add]; congr 1; omega
  have hp0 := Nat.two_pow_pos (t - f)
  by_cases h : s ∧ 2 ^ (f - 1) ≤ a % 2 ^ f
  · rw [if_pos h, hti.1 ⟨h.1, by have := ht.2 h.2; simpa using (by simpa using this : f - 1 < f ∧ a.testBit (f - 1) = true).2⟩]
    simp only [toN, if_true, Nat.one_mul, Nat.mul_sub, Nat.mul_one]
    rw [hp]
    have : 2 ^ f ≤ 2 ^ f * 2 ^ (t - f) := Nat.le_mul_of_pos_right _ hp0
    omega
  · rw [if_neg h]
    have : topB f s a = false := by
      cases hb : topB f s a with
      | false => rfl
      | true => exact absurd ⟨(hti.2 hb).1, ht.1 (by simp [(hti.2 hb).2]; omega)⟩ h
    rw [this]; simp [toN]
theorem ext0_at {f i a : Nat} {s : Prop} (h : i < f) : (extL f 0 s a)[i]? = some (a.testBit i) := by
  unfold extL; rw [List.replicate_zero, List.append_nil]; exact bits_at h
end Go.Hl
