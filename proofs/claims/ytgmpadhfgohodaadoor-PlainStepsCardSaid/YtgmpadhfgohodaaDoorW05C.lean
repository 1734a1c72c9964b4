/-
  What layer 5 answers, as plain functions of numbers: cut, sign, the binary ones, the tests, the unary ones; facts of them.
-/
import Derived.Test.YtgmpadhfgohodaaDoorW05B
import Derived.Test.YtgmpadhfgohodaaDoorHlX
import Derived.Lib.TrailingZeros
namespace Go.Hl
open Go.Lib
set_option linter.unusedVariables false

def WN (n : Nat) : Prop := n = 32 ∨ n = 64
abbrev iV (n : Int) : VP := intV .i64 n
def encB (b : Bool) : List VP := [propV (b = true)]
instance : Enc 1 encB := ⟨fun _ => rfl, fun x q h => by simp only [encB, List.mem_cons, List.not_mem_nil, or_false] at h; subst h; infer_instance⟩
abbrev uV (a : Nat) : VP := intV .u64 (a : Int)
theorem u64_cast (v : Int) : IntKind.u64.wrap v = (((v % 18446744073709551616).toNat : Nat) : Int) := by
  rw [IntKind.wrap_u64]; omega

def sgnN (n A : Nat) : Int := if A < 2 ^ (n - 1) then (A : Int) else (A : Int) - 2 ^ n
theorem sgn32 {a : Nat} : sgnN 32 (a % 4294967296) = IntKind.i64.wrap (IntKind.i32.wrap (a : Int)) := by
  rw [IntKind.wrap_i64, IntKind.wrap_i32]; unfold sgnN; split <;> omega
theorem sgn64 {a : Nat} (h : a < 18446744073709551616) : sgnN 64 a = IntKind.i64.wrap (a : Int) := by
  rw [IntKind.wrap_i64]; unfold sgnN; split <;> omega
theorem sgn_bd {n A : Nat} (hn : WN n) (hA : A < 2 ^ n) : -(2 ^ (n - 1) : Nat) ≤ sgnN n A ∧ sgnN n A < (2 ^ (n - 1) : Nat) := by
  rcases hn with rfl | rfl <;> (unfold sgnN; split <;> constructor <;> omega)
theorem sgn_bd64 {n A : Nat} (hn : WN n) (hA : A < 2 ^ n) : -9223372036854775808 ≤ sgnN n A ∧ sgnN n A ≤ 9223372036854775807 := by
  rcases hn with rfl | rfl <;> (unfold sgnN; split <;> constructor <;> omega)
theorem sgn_mod {n A : Nat} (hn : WN n) (hA : A < 2 ^ n) : (sgnN n A % 2 ^ n).toNat = A := by
  rcases hn with rfl | rfl <;> (unfold sgnN; split <;> omega)
theorem sgn_ne0 {n B : Nat} (hn : WN n) (hB : B < 2 ^ n) (h : B ≠ 0) : sgnN n B ≠ 0 := by
  rcases hn with rfl | rfl <;> (unfold sgnN; split <;> omega)

/-- turned to the left by k places, k below n -/
def rotF (n A k : Nat) : Nat := (A * 2 ^ k) % 2 ^ n + A / 2 ^ (n - k)
def trapF (n : Nat) (op : Int) (A B : Nat) : Int :=
  if op < 3 ∨ 6 < op then 0 else if B = 0 then 2 else if op = 3 ∧ sgnN n B = -1 ∧ A = 2 ^ (n - 1) then 3 else 0
def binF (n : Nat) (op : Int) (A B : Nat) : Nat :=
  if op = 0 then (A + B) % 2 ^ n else if op = 1 then (A + 2 ^ n - B) % 2 ^ n else if op = 2 then (A * B) % 2 ^ n
  else if op = 3 then ((sgnN n A).tdiv (sgnN n B) % 2 ^ n).toNat else if op = 4 then A / B
  else if op = 5 then ((sgnN n A).tmod (sgnN n B) % 2 ^ n).toNat else if op = 6 then A % B
  else if op = 7 then A &&& B else if op = 8 then A ||| B else if op = 9 then A ^^^ B
  else if op = 10 then (A * 2 ^ (B % n)) % 2 ^ n else if op = 11 then (sgnN n A / 2 ^ (B % n) % 2 ^ n).toNat else if op = 12 then A / 2 ^ (B % n)
  else if op = 13 then rotF n A (B % n) else rotF n A ((n - B % n) % n)
def binV (n : Nat) (op : Int) (A B : Nat) : Nat := if trapF n op A B = 0 then binF n op A B else 0

/-! ### the program's way: words of 64 bits, cut at the end -/
def arithW (n : Nat) (op : Int) (A B : Nat) : Nat :=
  if op = 0 then (A + B) % 18446744073709551616 else if op = 1 then (A + 18446744073709551616 - B) % 18446744073709551616 else if op = 2 then (A * B) % 18446744073709551616
  else if op = 3 then ((sgnN n A).tdiv (sgnN n B) % 18446744073709551616).toNat else if op = 4 then A / B
  else if op = 5 then ((sgnN n A).tmod (sgnN n B) % 18446744073709551616).toNat else A % B
def bitsW (n : Nat) (op : Int) (A B : Nat) : Nat :=
  if op = 7 then A &&& B else if op = 8 then A ||| B else if op = 9 then A ^^^ B
  else if op = 10 then (A * 2 ^ (B % n)) % 18446744073709551616 else if op = 11 then (sgnN n A / 2 ^ (B % n) % 18446744073709551616).toNat else if op = 12 then A / 2 ^ (B % n)
  else if op = 13 then rotF n A (B % n) else rotF n A ((n - B % n) % n)
theorem mod_mod_w {n : Nat} (hn : WN n) (v : Nat) : v % 18446744073709551616 % 2 ^ n = v % 2 ^ n := by
  rcases hn with rfl | rfl <;> omega
theorem imod_mod_w {n : Nat} (hn : WN n) (v : Int) : (v % 18446744073709551616).toNat % 2 ^ n = (v % 2 ^ n).toNat := by
  rcases hn with rfl | rfl <;> omega
theorem rot_lt {n A k : Nat} (hA : A < 2 ^ n) (hk : k ≤ n) : rotF n A k < 2 ^ n := by
  unfold rotF
  -- the low part is below 2^k, the high part is a multiple of it
  have hp : 2 ^ n = 2 ^ (n - k) * 2 ^ k := by rw [← Nat.pow_add]; congr 1; omega
  have h1 : A * 2 ^ k % 2 ^ n = (A % 2 ^ (n - k)) * 2 ^ k := by rw [hp, Nat.mul_mod_mul_right]
  have h2 : A / 2 ^ (n - k) < 2 ^ k := by
    rw [Nat.div_lt_iff_lt_mul (Nat.two_pow_pos _), Nat.mul_comm, ← hp]; exact hA
  have h3 := Nat.mod_lt A (Nat.two_pow_pos (n - k))
  rw [h1]
  have h4 : (A % 2 ^ (n - k) + 1) * 2 ^ k ≤ 2 ^ (n - k) * 2 ^ k := Nat.mul_le_mul_right _ h3
  rw [Nat.add_mul, Nat.one_mul] at h4
  omega
theorem bitwise_lt {n A B : Nat} (hA : A < 2 ^ n) (hB : B < 2 ^ n) : A &&& B < 2 ^ n ∧ A ||| B < 2 ^ n ∧ A ^^^ B < 2 ^ n := ⟨Nat.and_lt_two_pow _ hB, Nat.or_lt_two_pow hA hB, Nat.xor_lt_two_pow hA hB⟩
theorem arith_cut {n : Nat} {op : Int} {A B : Nat} (hn : WN n) (h0 : op < 7) (hA : A < 2 ^ n) (hB : B < 2 ^ n) (h1 : 0 ≤ op) : arithW n op A B % 2 ^ n = binF n op A B := by
  unfold arithW binF
  by_cases c0 : op = 0
  · rw [if_pos c0, if_pos c0]; exact mod_mod_w hn _
  rw [if_neg c0, if_neg c0]
  by_cases c1 : op = 1
  · rw [if_pos c1, if_pos c1]; rcases hn with rfl | rfl <;> omega
  rw [if_neg c1, if_neg c1]
  by_cases c2 : op = 2
  · rw [if_pos c2, if_pos c2]; exact mod_mod_w hn _
  rw [if_neg c2, if_neg c2]
  by_cases c3 : op = 3
  · rw [if_pos c3, if_pos c3]; exact imod_mod_w hn _
  rw [if_neg c3, if_neg c3]
  by_cases c4 : op = 4
  · rw [if_pos c4, if_pos c4]; exact Nat.mod_eq_of_lt (Nat.lt_of_le_of_lt (Nat.div_le_self _ _) hA)
  rw [if_neg c4, if_neg c4]
  by_cases c5 : op = 5
  · rw [if_pos c5, if_pos c5]; exact imod_mod_w hn _
  rw [if_neg c5, if_neg c5, if_pos (by omega : op = 6)]
  exact Nat.mod_eq_of_lt (Nat.lt_of_le_of_lt (Nat.mod_le _ _) hA)
theorem bits_cut {n : Nat} {op : Int} {A B : Nat} (hn : WN n) (h0 : 7 ≤ op) (hA : A < 2 ^ n) (hB : B < 2 ^ n) : bitsW n op A B % 2 ^ n = binF n op A B := by
  have hn0 : 0 < n := by rcases hn with rfl | rfl <;> decide
  have hk := Nat.mod_lt B hn0
  obtain ⟨b1, b2, b3⟩ := bitwise_lt hA hB
  unfold bitsW binF
  rw [if_neg (by omega : ¬ op = 0), if_neg (by omega : ¬ op = 1), if_neg (by omega : ¬ op = 2), if_neg (by omega : ¬ op = 3), if_neg (by omega : ¬ op = 4), if_neg (by omega : ¬ op = 5), if_neg (by omega : ¬ op = 6)]
  by_cases c7 : op = 7
  · rw [if_pos c7, if_pos c7]; exact Nat.mod_eq_of_lt b1
  rw [if_neg c7, if_neg c7]
  by_cases c8 : op = 8
  · rw [if_pos c8, if_pos c8]; exact Nat.mod_eq_of_lt b2
  rw [if_neg c8, if_neg c8]
  by_cases c9 : op = 9
  · rw [if_pos c9, if_pos c9]; exact Nat.mod_eq_of_lt b3
  rw [if_neg c9, if_neg c9]
  by_cases c10 : op = 10
  · rw [if_pos c10, if_pos c10]; exact mod_mod_w hn _
  rw [if_neg c10, if_neg c10]
  by_cases c11 : op = 11
  · rw [if_pos c11, if_pos c11]; exact imod_mod_w hn _
  rw [if_neg c11, if_neg c11]
  by_cases c12 : op = 12
  · rw [if_pos c12]; exact Nat.mod_eq_of_lt (Nat.lt_of_le_of_lt (Nat.div_le_self _ _) hA)
  rw [if_neg c12]
  by_cases c13 : op = 13
  · rw [if_pos c13]; exact Nat.mod_eq_of_lt (rot_lt hA (by omega))
  rw [if_neg c13]
  exact Nat.mod_eq_of_lt (rot_lt hA (Nat.le_of_lt (Nat.mod_lt _ hn0)))
theorem lt64 {n A : Nat} (hn : WN n) (hA : A < 2 ^ n) : A < 18446744073709551616 := by rcases hn with rfl | rfl <;> omega
theorem arith_lt {n : Nat} {op : Int} {A B : Nat} (hn : WN n) (hA : A < 2 ^ n) (hB : B < 2 ^ n) : arithW n op A B < 18446744073709551616 := by
  have h1 := lt64 hn hA
  have h2 := Nat.div_le_self A B
  have h3 := Nat.mod_le A B
  unfold arithW
  (repeat' split) <;> omega
theorem bits_lt {n : Nat} {op : Int} {A B : Nat} (hn : WN n) (hA : A < 2 ^ n) (hB : B < 2 ^ n) : bitsW n op A B < 18446744073709551616 := by
  have hn0 : 0 < n := by rcases hn with rfl | rfl <;> decide
  have hk := Nat.mod_lt B hn0
  obtain ⟨b1, b2, b3⟩ := bitwise_lt hA hB
  have h0 := lt64 hn hA
  have h1 := lt64 hn b1
  have h2 := lt64 hn b2
  have h3 := lt64 hn b3
  have h4 := Nat.div_le_self A (2 ^ (B % n))
  have h5 := lt64 hn (rot_lt hA (k := B % n) (by omega))
  have h6 := lt64 hn (rot_lt hA (k := (n - B % n) % n) (Nat.le_of_lt (Nat.mod_lt _ hn0)))
  unfold bitsW
  (repeat' split) <;> omega

/-! ### tests -/
def lessF (n : Nat) (signed : Prop) [Decidable signed] (A B : Nat) : Prop := if signed then sgnN n A < sgnN n B else A < B
instance {n : Nat} {s : Prop} [Decidable s] {A B : Nat} : Decidable (lessF n s A B) := by unfold lessF; infer_instance
def testP (n : Nat) (op : Int) (A B : Nat) : Prop :=
  if op = 0 then A = B else if op = 1 then A ≠ B else if op = 2 ∨ op = 3 then lessF n (op % 2 = 0) A B else if op = 4 ∨ op = 5 then lessF n (op % 2 = 0) B A
  else if op = 6 ∨ op = 7 then ¬ lessF n (op % 2 = 0) B A else ¬ lessF n (op % 2 = 0) A B
open Classical in
noncomputable def testF (n : Nat) (op : Int) (A B : Nat) : Nat := if testP n op A B then 1 else 0

/-! ### unary -/
/-- how many bits a number has -/
def blN (a : Nat) : Nat := if a = 0 then 0 else Nat.log2 a + 1
theorem bl_lt (a : Nat) : a < 2 ^ blN a := by
  unfold blN; split
  · omega
  · exact Nat.lt_log2_self
theorem bl_le {a n : Nat} (h : a < 2 ^ n) : blN a ≤ n := by
  unfold blN; split
  · omega
  · exact (Nat.log2_lt (by assumption)).2 h
theorem bl_iff {a n : Nat} (h0 : 2 ^ n ≤ a) (h1 : a < 2 ^ (n + 1)) : blN a = n + 1 := by
  have ha : a ≠ 0 := by have := Nat.two_pow_pos n; omega
  unfold blN; rw [if_neg ha]
  have h2 := (Nat.log2_lt ha).2 h1
  have h3 := (Nat.le_log2 ha).2 h0
  omega
theorem bl_div {a k : Nat} (h : 2 ^ k ≤ a) : blN a = blN (a / 2 ^ k) + k := by
  have hp := Nat.two_pow_pos k
  have hd : 0 < a / 2 ^ k := Nat.div_pos h hp
  have hne : a / 2 ^ k ≠ 0 := by omega
  have h1 : blN (a / 2 ^ k) = Nat.log2 (a / 2 ^ k) + 1 := by unfold blN; rw [if_neg hne]
  have h2 : 2 ^ Nat.log2 (a / 2 ^ k) ≤ a / 2 ^ k := Nat.log2_self_le hne
  have h3 : a / 2 ^ k < 2 ^ (Nat.log2 (a / 2 ^ k) + 1) := Nat.lt_log2_self
  have h4 : 2 ^ (Nat.log2 (a / 2 ^ k) + k) ≤ a := by
    rw [Nat.pow_add]
    exact Nat.le_trans (Nat.mul_le_mul_right _ h2) (Nat.div_mul_le_self _ _)
  have h5 : a < 2 ^ (Nat.log2 (a / 2 ^ k) + k + 1) := by
    have : a < 2 ^ (Nat.log2 (a / 2 ^ k) + 1) * 2 ^ k := by
      rw [← Nat.div_lt_iff_lt_mul hp]; exact h3
    rw [← Nat.pow_add] at this
    rwa [show Nat.log2 (a / 2 ^ k) + k + 1 = Nat.log2 (a / 2 ^ k) + 1 + k by omega]
  rw [bl_iff h4 h5, h1]; omega
def popN : Nat → Nat → Nat
  | 0, _ => 0
  | i + 1, a => popN i a + toN (a.testBit i)
/-- how many low bits are 0, of the first i -/
def tzN : Nat → Nat → Nat
  | 0, _ => 0
  | i + 1, a => if popN i a = 0 ∧ a.testBit i = false then tzN i a + 1 else tzN i a
/-- how many bits are 0 from above, of the first i -/
def lzN : Nat → Nat → Nat
  | 0, _ => 0
  | i + 1, a => if a.testBit i = true then 0 else lzN i a + 1
theorem popN_le : ∀ (i a : Nat), popN i a ≤ i
  | 0, _ => Nat.le_refl _
  | i + 1, a => by have := popN_le i a; have := toN_le (a.testBit i); simp only [popN]; omega
theorem tzN_le : ∀ (i a : Nat), tzN i a ≤ i
  | 0, _ => Nat.le_refl _
  | i + 1, a => by have := tzN_le i a; simp only [tzN]; split <;> omega
theorem lzN_le : ∀ (i a : Nat), lzN i a ≤ i
  | 0, _ => Nat.le_refl _
  | i + 1, a => by have := lzN_le i a; simp only [lzN]; split <;> omega
theorem pop0_iff : ∀ (i a : Nat), popN i a = 0 ↔ a % 2 ^ i = 0
  | 0, a => by simp [popN, Nat.mod_one]
  | i + 1, a => by
    have ih := pop0_iff i a
    have hp := Nat.two_pow_pos i
    have hm := mod_succ_bit a i
    simp only [popN, hm]
    cases hb : a.testBit i <;> simp [toN] <;> omega
theorem bl_mod_succ (i a : Nat) : blN (a % 2 ^ (i + 1)) = if a.testBit i = true then i + 1 else blN (a % 2 ^ i) := by
  have hm := mod_succ_bit a i
  have h1 := Nat.mod_lt a (Nat.two_pow_pos i)
  have h2 := Nat.mod_lt a (Nat.two_pow_pos (i + 1))
  cases hb : a.testBit i with
  | true =>
    rw [if_pos rfl]
    rw [hb] at hm
    exact bl_iff (by simp [toN] at hm; omega) h2
  | false =>
    rw [if_neg (by simp)]
    rw [hb] at hm
    rw [hm]; simp [toN]
theorem lz_bl : ∀ (i a : Nat), lzN i a = i - blN (a % 2 ^ i)
  | 0, a => by simp [lzN]
  | i + 1, a => by
    have ih := lz_bl i a
    have hle := bl_le (Nat.mod_lt a (Nat.two_pow_pos i))
    rw [bl_mod_succ]
    simp only [lzN]
    split
    · omega
    · omega
theorem tz_zero : ∀ (i a : Nat), a % 2 ^ i = 0 → tzN i a = i
  | 0, _, _ => rfl
  | i + 1, a, h => by
    have hp := Nat.two_pow_pos i
    have hm := mod_succ_bit a i
    rw [h] at hm
    have h1 : a % 2 ^ i = 0 := by omega
    have hb : a.testBit i = false := by
      cases hb : a.testBit i with
      | false => rfl
      | true => rw [hb] at hm; simp [toN] at hm; omega
    simp only [tzN]
    rw [if_pos ⟨(pop0_iff i a).2 h1, hb⟩, tz_zero i a h1]
theorem tz_at {a k : Nat} (h0 : a % 2 ^ k = 0) (hb : a.testBit k = true) : ∀ i, k ≤ i → tzN i a = k
  | 0, h => by
    have : k = 0 := by omega
    subst this; rfl
  | i + 1, h => by
    by_cases he : k = i + 1
    · subst he; exact tz_zero _ _ h0
    · have ih := tz_at h0 hb i (by omega)
      simp only [tzN]
      rw [if_neg]
      · exact ih
      · rintro ⟨h1, h2⟩
        by_cases he2 : k = i
        · subst he2; rw [hb] at h2; cases h2
        · have h3 := (pop0_iff i a).1 h1
          have h4 : a % 2 ^ (k + 1) = 0 := by
            have : 2 ^ (k + 1) ∣ 2 ^ i := Nat.pow_dvd_pow 2 (by omega)
            exact Nat.mod_eq_zero_of_dvd (Nat.dvd_trans this (Nat.dvd_of_mod_eq_zero h3))
          have h5 := mod_succ_bit a k
          rw [h4, hb] at h5
          have := Nat.two_pow_pos k
          simp [toN] at h5; omega
theorem odd_split (a k m : Nat) (h : a = 2 ^ k * (2 * m + 1)) : a % 2 ^ k = 0 ∧ a.testBit k = true := by
  subst h
  refine ⟨Nat.mul_mod_right _ _, ?_⟩
  have : 2 ^ k * (2 * m + 1) = (2 * m + 1) * 2 ^ k := Nat.mul_comm _ _
  rw [this, Nat.testBit_mul_two_pow]
  simp
theorem ctz_tz {a n : Nat} (hn : n ≤ 64) (h : a < 2 ^ n) : min (Lib.ctz 64 a) n = tzN n a := by
  have h64 : a < 2 ^ 64 := Nat.lt_of_lt_of_le h (Nat.pow_le_pow_right (by decide) hn)
  by_cases h0 : a = 0
  · subst h0
    rw [tz_zero n 0 (Nat.zero_mod _)]
    have : Lib.ctz 64 0 = 64 := rfl
    rw [this]; omega
  · have e : Lib.ctz 64 a = Lib.ctzFrom 64 a := by unfold Lib.ctz; rw [if_neg h0]
    obtain ⟨m, h1, h2⟩ := Lib.ctzFrom_spec 64 a (by omega) h64
    rw [e]
    generalize Lib.ctzFrom 64 a = k at *
    obtain ⟨h3, h4⟩ := odd_split a k m h1
    have hk : k < n := by
      refine Nat.lt_of_not_le fun hle => ?_
      have := Nat.testBit_lt_two_pow (Nat.lt_of_lt_of_le h (Nat.pow_le_pow_right (show 0 < 2 by decide) hle))
      rw [this] at h4; cases h4
    rw [tz_at h3 h4 n (by omega)]; omega
def unF (n : Nat) (op : Int) (A : Nat) : Nat := if op = 0 then n - blN A else if op = 1 then tzN n A else if op = 2 then popN n A else if A = 0 then 1 else 0
end Go.Hl
