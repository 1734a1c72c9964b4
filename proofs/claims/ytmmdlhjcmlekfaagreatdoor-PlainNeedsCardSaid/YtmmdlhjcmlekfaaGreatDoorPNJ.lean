/-
  What the statement's proof leans on, several texts in one (packed by a program).
-/
import Derived.Test.YtmmdlhjcmlekfaaGreatDoorPNI
import Derived.Lib.TrailingZeros
set_option linter.all false
set_option maxRecDepth 1000000
set_option maxHeartbeats 4000000
section
namespace Go.Hl
open Go.Lib
def WN (n : Nat) : Prop := n = 32 ∨ n = 64
abbrev iV (n : Int) : VP := intV .i64 n
def encB (b : Bool) : List VP := [propV (b = true)]
instance : Enc 1 encB := ⟨fun _ => rfl, fun x q h => by simp only [encB, List.mem_cons, List.not_mem_nil, or_false] at h; subst h; infer_instance⟩
abbrev uV (a : Nat) : VP := intV .u64 (a : Int)
theorem u64_cast (v : Int) : IntKind.u64.wrap v = (((v % 18446744073709551616).toNat : Nat) : Int) := by
  rw [IntKind.wrap_u64]; omega
def sgnN (n A : Nat) : Int := if A < 2 ^ (n - 1) then (A : Int) else (A : Int) - 2 ^ n
theorem sgn32 {a : Nat} : sgnN 32 (a % 4294967296) = IntKind.i64.wrap (IntKind.i32.wrap (a : Int)) := by
  rw [IntKind.wrap_i64, IntKind.wrap_i32]; unfold sgnN; split <;> omega
theorem sgn64 {a : Nat} (h : a < 18446744073709551616) : sgnN 64 a = IntKind.i64.wrap (a : Int) := by
  rw [IntKind.wrap_i64]; unfold sgnN; split <;> omega
theorem sgn_ne0 {n B : Nat} (hn : WN n) (hB : B < 2 ^ n) (h : B ≠ 0) : sgnN n B ≠ 0 := by
  rcases hn with rfl | rfl <;> (unfold sgnN; split <;> omega)
def rotF (n A k : Nat) : Nat := (A * 2 ^ k) % 2 ^ n + A / 2 ^ (n - k)
def trapF (n : Nat) (op : Int) (A B : Nat) : Int :=
  if op < 3 ∨ 6 < op then 0 else if B = 0 then 2 else if op = 3 ∧ sgnN n B = -1 ∧ A = 2 ^ (n - 1) then 3 else 0
def binF (n : Nat) (op : Int) (A B : Nat) : Nat :=
  if op = 0 then (A + B) % 2 ^ n else if op = 1 then (A + 2 ^ n - B) % 2 ^ n else if op = 2 then (A * B) % 2 ^ n
  else if op = 3 then ((sgnN n A).tdiv (sgnN n B) % 2 ^ n).toNat else if op = 4 then A / B
  else if op = 5 then ((sgnN n A).tmod (sgnN n B) % 2 ^ n).toNat else if op = 6 then A % B
  else if op = 7 then A &&& B else if op = 8 then A ||| B else if op = 9 then A ^^^ B
  else if op = 10 then (A * 2 ^ (B % n)) % 2 ^ n else if op = 11 then (sgnN n A / 2 ^ (B % n) % 2 ^ n).toNat else if op = 12 then A / 2 ^ (B % n)
  else if op = 13 then rotF n A (B % n) else rotF n A ((n - B % n) % n)
def binV (n : Nat) (op : Int) (A B : Nat) : Nat := if trapF n op A B = 0 then binF n op A B else 0
def arithW (n : Nat) (op : Int) (A B : Nat) : Nat :=
  if op = 0 then (A + B) % 18446744073709551616 else if op = 1 then (A + 18446744073709551616 - B) % 18446744073709551616 else if op = 2 then (A * B) % 18446744073709551616
  else if op = 3 then ((sgnN n A).tdiv (sgnN n B) % 18446744073709551616).toNat else if op = 4 then A / B
  else if op = 5 then ((sgnN n A).tmod (sgnN n B) % 18446744073709551616).toNat else A % B
def bitsW (n : Nat) (op : Int) (A B : Nat) : Nat :=
  if op = 7 then A &&& B else if op = 8 then A ||| B else if op = 9 then A ^^^ B
  else if op = 10 then (A * 2 ^ (B % n)) % 18446744073709551616 else if op = 11 then (sgnN n A / 2 ^ (B % n) % 18446744073709551616).toNat else if op = 12 then A / 2 ^ (B % n)
  else if op = 13 then rotF n A (B % n) else rotF n A ((n - B % n) % n)
theorem mod_mod_w {n : Nat} (hn : WN n) (v : Nat) : v % 18446744073709551616 % 2 ^ n = v % 2 ^ n := by
  rcases hn with rfl | rfl <;> omega
theorem imod_mod_w {n : Nat} (hn : WN n) (v : Int) : (v % 18446744073709551616).toNat % 2 ^ n = (v % 2 ^ n).toNat := by
  rcases hn with rfl | rfl <;> omega
theorem rot_lt {n A k : Nat} (hA : A < 2 ^ n) (hk : k ≤ n) : rotF n A k < 2 ^ n := by
  unfold rotF
  have hp : 2 ^ n = 2 ^ (n - k) * 2 ^ k := by rw [← Nat.pow_add]; congr 1; omega
  have h1 : A * 2 ^ k % 2 ^ n = (A % 2 ^ (n - k)) * 2 ^ k := by rw [hp, Nat.mul_mod_mul_right]
  have h2 : A / 2 ^ (n - k) < 2 ^ k := by
    rw [Nat.div_lt_iff_lt_mul (Nat.two_pow_pos _), Nat.mul_comm, ← hp]; exact hA
  have h3 := Nat.mod_lt A (Nat.two_pow_pos (n - k))
  rw [h1]
  have h4 : (A % 2 ^ (n - k) + 1) * 2 ^ k ≤ 2 ^ (n - k) * 2 ^ k := Nat.mul_le_mul_right _ h3
  rw [Nat.add_mul, Nat.one_mul] at h4
  omega
theorem bitwise_lt {n A B : Nat} (hA : A < 2 ^ n) (hB : B < 2 ^ n) : A &&& B < 2 ^ n ∧ A ||| B < 2 ^ n ∧ A ^^^ B < 2 ^ n := ⟨Nat.and_lt_two_pow _ hB, Nat.or_lt_two_pow hA hB, Nat.xor_lt_two_pow hA hB⟩
theorem arith_cut {n : Nat} {op : Int} {A B : Nat} (hn : WN n) (h0 : op < 7) (hA : A < 2 ^ n) (hB : B < 2 ^ n) (h1 : 0 ≤ op) : arithW n op A B % 2 ^ n = binF n op A B := by
  unfold arithW binF
  by_cases c0 : op = 0
  · rw [if_pos c0, if_pos c0]; exact mod_mod_w hn _
  rw [if_neg c0, if_neg c0]
  by_cases c1 : op = 1
  · rw [if_pos c1, if_pos c1]; rcases hn with rfl | rfl <;> omega
  rw [if_neg c1, if_neg c1]
  by_cases c2 : op = 2
  · rw [if_pos c2, if_pos c2]; exact mod_mod_w hn _
  rw [if_neg c2, if_neg c2]
  by_cases c3 : op = 3
  · rw [if_pos c3, if_pos c3]; exact imod_mod_w hn _
  rw [if_neg c3, if_neg c3]
  by_cases c4 : op = 4
  · rw [if_pos c4, if_pos c4]; exact Nat.mod_eq_of_lt (Nat.lt_of_le_of_lt (Nat.div_le_self _ _) hA)
  rw [if_neg c4, if_neg c4]
  by_cases c5 : op = 5
  · rw [if_pos c5, if_pos c5]; exact imod_mod_w hn _
  rw [if_neg c5, if_neg c5, if_pos (by omega : op = 6)]
  exact Nat.mod_eq_of_lt (Nat.lt_of_le_of_lt (Nat.mod_le _ _) hA)
theorem bits_cut {n : Nat} {op : Int} {A B : Nat} (hn : WN n) (h0 : 7 ≤ op) (hA : A < 2 ^ n) (hB : B < 2 ^ n) : bitsW n op A B % 2 ^ n = binF n op A B := by
  have hn0 : 0 < n := by rcases hn with rfl | rfl <;> decide
  have hk := Nat.mod_lt B hn0
  obtain ⟨b1, b2, b3⟩ := bitwise_lt hA hB
  unfold bitsW binF
  rw [if_neg (by omega : ¬ op = 0), if_neg (by omega : ¬ op = 1), if_neg (by omega : ¬ op = 2), if_neg (by omega : ¬ op = 3), if_neg (by omega : ¬ op = 4), if_neg (by omega : ¬ op = 5), if_neg (by omega : ¬ op = 6)]
  by_cases c7 : op = 7
  · rw [if_pos c7, if_pos c7]; exact Nat.mod_eq_of_lt b1
  rw [if_neg c7, if_neg c7]
  by_cases c8 : op = 8
  · rw [if_pos c8, if_pos c8]; exact Nat.mod_eq_of_lt b2
  rw [if_neg c8, if_neg c8]
  by_cases c9 : op = 9
  · rw [if_pos c9, if_pos c9]; exact Nat.mod_eq_of_lt b3
  rw [if_neg c9, if_neg c9]
  by_cases c10 : op = 10
  · rw [if_pos c10, if_pos c10]; exact mod_mod_w hn _
  rw [if_neg c10, if_neg c10]
  by_cases c11 : op = 11
  · rw [if_pos c11, if_pos c11]; exact imod_mod_w hn _
  rw [if_neg c11, if_neg c11]
  by_cases c12 : op = 12
  · rw [if_pos c12]; exact Nat.mod_eq_of_lt (Nat.lt_of_le_of_lt (Nat.div_le_self _ _) hA)
  rw [if_neg c12]
  by_cases c13 : op = 13
  · rw [if_pos c13]; exact Nat.mod_eq_of_lt (rot_lt hA (by omega))
  rw [if_neg c13]
  exact Nat.mod_eq_of_lt (rot_lt hA (Nat.le_of_lt (Nat.mod_lt _ hn0)))
theorem lt64 {n A : Nat} (hn : WN n) (hA : A < 2 ^ n) : A < 18446744073709551616 := by rcases hn with rfl | rfl <;> omega
theorem arith_lt {n : Nat} {op : Int} {A B : Nat} (hn : WN n) (hA : A < 2 ^ n) (hB : B < 2 ^ n) : arithW n op A B < 18446744073709551616 := by
  have h1 := lt64 hn hA
  have h2 := Nat.div_le_self A B
  have h3 := Nat.mod_le A B
  unfold arithW
  (repeat' split) <;> omega
theorem bits_lt {n : Nat} {op : Int} {A B : Nat} (hn : WN n) (hA : A < 2 ^ n) (hB : B < 2 ^ n) : bitsW n op A B < 18446744073709551616 := by
  have hn0 : 0 < n := by rcases hn with rfl | rfl <;> decide
  have hk := Nat.mod_lt B hn0
  obtain ⟨b1, b2, b3⟩ := bitwise_lt hA hB
  have h0 := lt64 hn hA
  have h1 := lt64 hn b1
  have h2 := lt64 hn b2
  have h3 := lt64 hn b3
  have h4 := Nat.div_le_self A (2 ^ (B % n))
  have h5 := lt64 hn (rot_lt hA (k := B % n) (by omega))
  have h6 := lt64 hn (rot_lt hA (k := (n - B % n) % n) (Nat.le_of_lt (Nat.mod_lt _ hn0)))
  unfold bitsW
  (repeat' split) <;> omega
def lessF (n : Nat) (signed : Prop) [Decidable signed] (A B : Nat) : Prop := if signed then sgnN n A < sgnN n B else A < B
instance {n : Nat} {s : Prop} [Decidable s] {A B : Nat} : Decidable (lessF n s A B) := by unfold lessF; infer_instance
def testP (n : Nat) (op : Int) (A B : Nat) : Prop :=
  if op = 0 then A = B else if op = 1 then A ≠ B else if op = 2 ∨ op = 3 then lessF n (op % 2 = 0) A B else if op = 4 ∨ op = 5 then lessF n (op % 2 = 0) B A
  else if op = 6 ∨ op = 7 then ¬ lessF n (op % 2 = 0) B A else ¬ lessF n (op % 2 = 0) A B
open Classical in
noncomputable def testF (n : Nat) (op : Int) (A B : Nat) : Nat := if testP n op A B then 1 else 0
def blN (a : Nat) : Nat := if a = 0 then 0 else Nat.log2 a + 1
theorem bl_le {a n : Nat} (h : a < 2 ^ n) : blN a ≤ n := by
  unfold blN; split
  · omega
  · exact (Nat.log2_lt (by assumption)).2 h
theorem bl_iff {a n : Nat} (h0 : 2 ^ n ≤ a) (h1 : a < 2 ^ (n + 1)) : blN a = n + 1 := by
  have ha : a ≠ 0 := by have := Nat.two_pow_pos n; omega
  unfold blN; rw [if_neg ha]
  have h2 := (Nat.log2_lt ha).2 h1
  have h3 := (Nat.le_log2 ha).2 h0
  omega
theorem bl_div {a k : Nat} (h : 2 ^ k ≤ a) : blN a = blN (a / 2 ^ k) + k := by
  have hp := Nat.two_pow_pos k
  have hd : 0 < a / 2 ^ k := Nat.div_pos h hp
  have hne : a / 2 ^ k ≠ 0 := by omega
  have h1 : blN (a / 2 ^ k) = Nat.log2 (a / 2 ^ k) + 1 := by unfold blN; rw [if_neg hne]
  have h2 : 2 ^ Nat.log2 (a / 2 ^ k) ≤ a / 2 ^ k := Nat.log2_self_le hne
  have h3 : a / 2 ^ k < 2 ^ (Nat.log2 (a / 2 ^ k) + 1) := Nat.lt_log2_self
  have h4 : 2 ^ (Nat.log2 (a / 2 ^ k) + k) ≤ a := by
    rw [Nat.pow_add]
    exact Nat.le_trans (Nat.mul_le_mul_right _ h2) (Nat.div_mul_le_self _ _)
  have h5 : a < 2 ^ (Nat.log2 (a / 2 ^ k) + k + 1) := by
    have : a < 2 ^ (Nat.log2 (a / 2 ^ k) + 1) * 2 ^ k := by
      rw [← Nat.div_lt_iff_lt_mul hp]; exact h3
    rw [← Nat.pow_add] at this
    rwa [show Nat.log2 (a / 2 ^ k) + k + 1 = Nat.log2 (a / 2 ^ k) + 1 + k by omega]
  rw [bl_iff h4 h5, h1]; omega
def popN : Nat → Nat → Nat
  | 0, _ => 0
  | i + 1, a => popN i a + toN (a.testBit i)
def tzN : Nat → Nat → Nat
  | 0, _ => 0
  | i + 1, a => if popN i a = 0 ∧ a.testBit i = false then tzN i a + 1 else tzN i a
theorem popN_le : ∀ (i a : Nat), popN i a ≤ i
  | 0, _ => Nat.le_refl _
  | i + 1, a => by have := popN_le i a; have := toN_le (a.testBit i); simp only [popN]; omega
theorem tzN_le : ∀ (i a : Nat), tzN i a ≤ i
  | 0, _ => Nat.le_refl _
  | i + 1, a => by have := tzN_le i a; simp only [tzN]; split <;> omega
theorem pop0_iff : ∀ (i a : Nat), popN i a = 0 ↔ a % 2 ^ i = 0
  | 0, a => by simp [popN, Nat.mod_one]
  | i + 1, a => by
    have ih := pop0_iff i a
    have hp := Nat.two_pow_pos i
    have hm := mod_succ_bit a i
    simp only [popN, hm]
    cases hb : a.testBit i <;> simp [toN] <;> omega
theorem tz_zero : ∀ (i a : Nat), a % 2 ^ i = 0 → tzN i a = i
  | 0, _, _ => rfl
  | i + 1, a, h => by
    have hp := Nat.two_pow_pos i
    have hm := mod_succ_bit a i
    rw [h] at hm
    have h1 : a % 2 ^ i = 0 := by omega
    have hb : a.testBit i = false := by
      cases hb : a.testBit i with
      | false => rfl
      | true => rw [hb] at hm; simp [toN] at hm; omega
    simp only [tzN]
    rw [if_pos ⟨(pop0_iff i a).2 h1, hb⟩, tz_zero i a h1]
theorem tz_at {a k : Nat} (h0 : a % 2 ^ k = 0) (hb : a.testBit k = true) : ∀ i, k ≤ i → tzN i a = k
  | 0, h => by
    have : k = 0 := by omega
    subst this; rfl
  | i + 1, h => by
    by_cases he : k = i + 1
    · subst he; exact tz_zero _ _ h0
    · have ih := tz_at h0 hb i (by omega)
      simp only [tzN]
      rw [if_neg]
      · exact ih
      · rintro ⟨h1, h2⟩
        by_cases he2 : k = i
        · subst he2; rw [hb] at h2; cases h2
        · have h3 := (pop0_iff i a).1 h1
          have h4 : a % 2 ^ (k + 1) = 0 := by
            have : 2 ^ (k + 1) ∣ 2 ^ i := Nat.pow_dvd_pow 2 (by omega)
            exact Nat.mod_eq_zero_of_dvd (Nat.dvd_trans this (Nat.dvd_of_mod_eq_zero h3))
          have h5 := mod_succ_bit a k
          rw [h4, hb] at h5
          have := Nat.two_pow_pos k
          simp [toN] at h5; omega
theorem odd_split (a k m : Nat) (h : a = 2 ^ k * (2 * m + 1)) : a % 2 ^ k = 0 ∧ a.testBit k = true := by
  subst h
  refine ⟨Nat.mul_mod_right _ _, ?_⟩
  have : 2 ^ k * (2 * m + 1) = (2 * m + 1) * 2 ^ k := Nat.mul_comm _ _
  rw [this, Nat.testBit_mul_two_pow]
  simp
theorem ctz_tz {a n : Nat} (hn : n ≤ 64) (h : a < 2 ^ n) : min (Lib.ctz 64 a) n = tzN n a := by
  have h64 : a < 2 ^ 64 := Nat.lt_of_lt_of_le h (Nat.pow_le_pow_right (by decide) hn)
  by_cases h0 : a = 0
  · subst h0
    rw [tz_zero n 0 (Nat.zero_mod _)]
    have : Lib.ctz 64 0 = 64 := rfl
    rw [this]; omega
  · have e : Lib.ctz 64 a = Lib.ctzFrom 64 a := by unfold Lib.ctz; rw [if_neg h0]
    obtain ⟨m, h1, h2⟩ := Lib.ctzFrom_spec 64 a (by omega) h64
    rw [e]
    generalize Lib.ctzFrom 64 a = k at *
    obtain ⟨h3, h4⟩ := odd_split a k m h1
    have hk : k < n := by
      refine Nat.lt_of_not_le fun hle => ?_
      have := Nat.testBit_lt_two_pow (Nat.lt_of_lt_of_le h (Nat.pow_le_pow_right (show 0 < 2 by decide) hle))
      rw [this] at h4; cases h4
    rw [tz_at h3 h4 n (by omega)]; omega
def unF (n : Nat) (op : Int) (A : Nat) : Nat := if op = 0 then n - blN A else if op = 1 then tzN n A else if op = 2 then popN n A else if A = 0 then 1 else 0
end Go.Hl
end
section
namespace Go.Hl
theorem and_cat (j y m d e : Nat) (hd : d < 2 ^ j) (he : e < 2 ^ j) : (2 ^ j * y + d) &&& (2 ^ j * m + e) = 2 ^ j * (y &&& m) + (d &&& e) := by
  have h : d &&& e < 2 ^ j := Nat.and_lt_two_pow _ he
  refine Nat.eq_of_testBit_eq fun i => ?_
  rw [Nat.testBit_and, Nat.testBit_two_pow_mul_add _ hd, Nat.testBit_two_pow_mul_add _ he, Nat.testBit_two_pow_mul_add _ h]
  split
  · rw [Nat.testBit_and]
  · rw [Nat.testBit_and]
theorem and_cat8 (y m d e : Nat) (hd : d < 256) (he : e < 256) : (256 * y + d) &&& (256 * m + e) = 256 * (y &&& m) + (d &&& e) := and_cat 8 y m d e hd he
def rep8 (e : Nat) : Nat → Nat
  | 0 => 0
  | k + 1 => 256 * rep8 e k + e
def b1 (d : Nat) : Nat := (d / 2 &&& 85) + (d &&& 85)
def b2 (d : Nat) : Nat := (d / 4 &&& 51) + (d &&& 51)
def b3 (d : Nat) : Nat := (d / 16 + d) &&& 15
def byF (f : Nat → Nat) : Nat → Nat → Nat
  | 0, _ => 0
  | k + 1, x => 256 * byF f k (x / 256) + f (x % 256)
theorem byF_div (f : Nat → Nat) (hf : ∀ d, d < 256 → f d < 256) (k x : Nat) : byF f (k + 1) x / 256 = byF f k (x / 256) ∧ byF f (k + 1) x % 256 = f (x % 256) := by
  have := hf (x % 256) (Nat.mod_lt _ (by decide))
  simp only [byF]; omega
theorem byF_comp (f g : Nat → Nat) (hf : ∀ d, d < 256 → f d < 256) : ∀ (k x : Nat), byF g k (byF f k x) = byF (fun d => g (f d)) k x
  | 0, _ => rfl
  | k + 1, x => by
    obtain ⟨h1, h2⟩ := byF_div f hf k x
    have ih := byF_comp f g hf k (x / 256)
    show 256 * byF g k (byF f (k + 1) x / 256) + g (byF f (k + 1) x % 256) = _
    rw [h1, h2, ih]; rfl
theorem b1_lt : ∀ d, d < 256 → b1 d < 256 := by decide +kernel
theorem b12_lt : ∀ d, d < 256 → b2 (b1 d) ≤ 68 ∧ b2 (b1 d) % 16 ≤ 4 := by decide +kernel
theorem b123 : ∀ d, d < 256 → b3 (b2 (b1 d)) = popN 8 d := by decide +kernel
theorem low85 : ∀ d, d < 256 → d &&& 85 = d % 128 &&& 85 := by decide +kernel
theorem low51 : ∀ d, d < 256 → d &&& 51 = d % 64 &&& 51 := by decide +kernel
theorem low15 : ∀ d, d < 256 → d &&& 15 = d % 16 := by decide +kernel
theorem step85 (c e : Nat) (hc : c < 2) (he : e < 128) : 128 * c + e &&& 85 = e &&& 85 := by
  rw [low85 _ (by omega), Nat.mul_add_mod, Nat.mod_eq_of_lt he]
theorem step51 (c e : Nat) (hc : c < 4) (he : e < 64) : 64 * c + e &&& 51 = e &&& 51 := by
  rw [low51 _ (by omega), Nat.mul_add_mod, Nat.mod_eq_of_lt he]
theorem swar1 : ∀ (k x : Nat), x < 256 ^ k → (x / 2 &&& rep8 85 k) + (x &&& rep8 85 k) = byF b1 k x
  | 0, x, h => by simp at h; subst h; rfl
  | k + 1, x, h => by
    have hy : x / 256 < 256 ^ k := by rw [Nat.pow_succ] at h; exact Nat.div_lt_of_lt_mul (by omega)
    have ih := swar1 k (x / 256) hy
    have hx : x = 256 * (x / 256) + x % 256 := (Nat.div_add_mod x 256).symm
    have hd := Nat.mod_lt x (show 0 < 256 by decide)
    generalize x / 256 = y at *
    generalize x % 256 = d at *
    subst hx
    have e1 : (256 * y + d) / 2 = 256 * (y / 2) + (128 * (y % 2) + d / 2) := by omega
    rw [e1]
    simp only [rep8]
    rw [and_cat8 _ _ _ _ (by omega) (by decide), and_cat8 _ _ _ _ hd (by decide), step85 _ _ (by omega) (by omega)]
    show _ = 256 * byF b1 k ((256 * y + d) / 256) + b1 ((256 * y + d) % 256)
    rw [show (256 * y + d) / 256 = y by omega, show (256 * y + d) % 256 = d by omega, ← ih]
    unfold b1; omega
theorem swar2 : ∀ (k x : Nat), x < 256 ^ k → (x / 4 &&& rep8 51 k) + (x &&& rep8 51 k) = byF b2 k x
  | 0, x, h => by simp at h; subst h; rfl
  | k + 1, x, h => by
    have hy : x / 256 < 256 ^ k := by rw [Nat.pow_succ] at h; exact Nat.div_lt_of_lt_mul (by omega)
    have ih := swar2 k (x / 256) hy
    have hx : x = 256 * (x / 256) + x % 256 := (Nat.div_add_mod x 256).symm
    have hd := Nat.mod_lt x (show 0 < 256 by decide)
    generalize x / 256 = y at *
    generalize x % 256 = d at *
    subst hx
    have e1 : (256 * y + d) / 4 = 256 * (y / 4) + (64 * (y % 4) + d / 4) := by omega
    rw [e1]
    simp only [rep8]
    rw [and_cat8 _ _ _ _ (by omega) (by decide), and_cat8 _ _ _ _ hd (by decide), step51 _ _ (by omega) (by omega)]
    show _ = 256 * byF b2 k ((256 * y + d) / 256) + b2 ((256 * y + d) % 256)
    rw [show (256 * y + d) / 256 = y by omega, show (256 * y + d) % 256 = d by omega, ← ih]
    unfold b2; omega
def okB : Nat → Nat → Prop
  | 0, _ => True
  | k + 1, x => (x % 256 ≤ 68 ∧ x % 16 ≤ 4) ∧ okB k (x / 256)
theorem swar3 : ∀ (k x : Nat), x < 256 ^ k → okB k x → (x / 16 + x) &&& rep8 15 k = byF b3 k x
  | 0, x, h, _ => by simp at h; subst h; rfl
  | k + 1, x, h, ho => by
    have hy : x / 256 < 256 ^ k := by rw [Nat.pow_succ] at h; exact Nat.div_lt_of_lt_mul (by omega)
    have ih := swar3 k (x / 256) hy ho.2
    have hk0 : k = 0 → x / 256 = 0 := fun e => by subst e; simp at hy; omega
    have ho2 : x / 256 % 16 ≤ 4 := by
      cases k with
      | zero => rw [hk0 rfl]; decide
      | succ k => exact ho.2.1.2
    have ho1 := ho.1.1
    have hx : x = 256 * (x / 256) + x % 256 := (Nat.div_add_mod x 256).symm
    have hd := Nat.mod_lt x (show 0 < 256 by decide)
    generalize x / 256 = y at *
    generalize x % 256 = d at *
    subst hx
    have e1 : (256 * y + d) / 16 + (256 * y + d) = 256 * (y / 16 + y) + (16 * (y % 16) + d / 16 + d) := by omega
    rw [e1]
    simp only [rep8]
    rw [and_cat8 _ _ _ _ (by omega) (by decide), low15 _ (by omega)]
    show _ = 256 * byF b3 k ((256 * y + d) / 256) + b3 ((256 * y + d) % 256)
    rw [show (256 * y + d) / 256 = y by omega, show (256 * y + d) % 256 = d by omega, ← ih]
    unfold b3
    rw [low15 _ (by omega)]
    omega
theorem byF_ok : ∀ (k x : Nat), okB k (byF (fun d => b2 (b1 d)) k x)
  | 0, _ => trivial
  | k + 1, x => by
    have hb := b12_lt (x % 256) (Nat.mod_lt _ (by decide))
    have ih := byF_ok k (x / 256)
    generalize hf : (fun d => b2 (b1 d)) = f at *
    have hfx : f (x % 256) = b2 (b1 (x % 256)) := by rw [← hf]
    have e1 : byF f (k + 1) x / 256 = byF f k (x / 256) := by simp only [byF]; omega
    refine ⟨by simp only [byF]; omega, ?_⟩
    rw [e1]; exact ih
theorem byF_lt (f : Nat → Nat) (hf : ∀ d, d < 256 → f d < 256) : ∀ (k x : Nat), byF f k x < 256 ^ k
  | 0, _ => by simp [byF]
  | k + 1, x => by
    have ih := byF_lt f hf k (x / 256)
    have := hf (x % 256) (Nat.mod_lt _ (by decide))
    simp only [byF, Nat.pow_succ]; omega
theorem popN_add (i j a : Nat) : popN (i + j) a = popN i a + popN j (a / 2 ^ i) := by
  induction j with
  | zero => rfl
  | succ j ih =>
    show popN (i + j) a + toN (a.testBit (i + j)) = popN i a + (popN j (a / 2 ^ i) + toN ((a / 2 ^ i).testBit j))
    rw [ih, Nat.testBit_div_two_pow, Nat.add_assoc, Nat.add_comm j i]
theorem popN_mod (i a : Nat) : popN i (a % 2 ^ i) = popN i a := by
  have key : ∀ j, j ≤ i → popN j (a % 2 ^ i) = popN j a := by
    intro j
    induction j with
    | zero => intro _; rfl
    | succ j ih =>
      intro h
      simp only [popN]
      rw [ih (by omega), Nat.testBit_mod_two_pow]
      simp [show j < i by omega]
  exact key i (Nat.le_refl _)
def sumB : Nat → Nat → Nat
  | 0, _ => 0
  | k + 1, x => popN 8 (x % 256) + sumB k (x / 256)
theorem sumB_pop : ∀ (k x : Nat), sumB k x = popN (8 * k) x
  | 0, _ => rfl
  | k + 1, x => by
    rw [show 8 * (k + 1) = 8 + 8 * k by omega, popN_add]
    simp only [sumB]
    rw [sumB_pop k, ← popN_mod 8 x]
theorem pop8_le (d : Nat) : popN 8 d ≤ 8 := popN_le 8 d
theorem div256 (s m : Nat) (h : s < 256) : (s + 256 * m) / 256 = m := by omega
theorem gather {c0 c1 c2 c3 c4 c5 c6 c7 k1 k2 k3 k4 k5 k6 k7 : Nat} (h0 : c0 ≤ 8) (h1 : c1 ≤ 8) (h2 : c2 ≤ 8) (h3 : c3 ≤ 8) (h4 : c4 ≤ 8) (h5 : c5 ≤ 8) (h6 : c6 ≤ 8) (h7 : c7 ≤ 8) {v v1 v2 : Nat}
    (e7 : k7 = c7) (e6 : k6 = c6 + 256 * k7) (e5 : k5 = c5 + 256 * k6) (e4 : k4 = c4 + 256 * k5) (e3 : k3 = c3 + 256 * k4) (e2 : k2 = c2 + 256 * k3) (e1 : k1 = c1 + 256 * k2) (hv : v = c0 + 256 * k1) (hv1 : v1 = v + v / 256) (hv2 : v2 = v1 + v1 / 65536) :
    (v2 + v2 / 4294967296) % 128 = c0 + c1 + c2 + c3 + c4 + c5 + c6 + c7 ∧ v2 + v2 / 4294967296 < 9223372036854775808 ∧ v < 1229782938247303442 := by
  have dv : v / 256 = k1 := by rw [hv]; exact div256 _ _ (by omega)
  have w1 : v1 = (c0 + c1) + 256 * ((c1 + c2) + 256 * (k2 + k3)) := by rw [hv1, dv, hv]; clear hv2 hv1 dv; omega
  have d1 : v1 / 65536 = k2 + k3 := by
    rw [show (65536 : Nat) = 256 * 256 from rfl, ← Nat.div_div_eq_div_mul, w1, div256 _ _ (by omega), div256 _ _ (by omega)]
  have w2 : v2 = (c0 + c1 + c2 + c3) + 256 * ((c1 + c2 + c3 + c4) + 256 * ((c2 + c3 + c4 + c5) + 256 * ((c3 + c4 + c5 + c6) + 256 * (k4 + k5 + k6 + k7)))) := by
    rw [hv2, d1, w1]; clear hv2 hv1 dv d1 w1 hv; omega
  have d2 : v2 / 4294967296 = k4 + k5 + k6 + k7 := by
    rw [show (4294967296 : Nat) = 256 * 256 * 256 * 256 from rfl, ← Nat.div_div_eq_div_mul, ← Nat.div_div_eq_div_mul, ← Nat.div_div_eq_div_mul, w2, div256 _ _ (by omega), div256 _ _ (by omega), div256 _ _ (by omega), div256 _ _ (by omega)]
  rw [d2]
  clear d2 d1 dv hv1 hv2 w1
  refine ⟨?_, ?_, ?_⟩
  · have : v2 + (k4 + k5 + k6 + k7) = (c0 + c1 + c2 + c3 + c4 + c5 + c6 + c7) + 128 * (2 * (((c1 + c2 + c3 + c4) + 256 * ((c2 + c3 + c4 + c5) + 256 * ((c3 + c4 + c5 + c6) + 256 * (k4 + k5 + k6 + k7)))) + (k5 + k6 + k7))) := by
      rw [w2]; clear w2 hv e1 e2 e3; omega
    rw [this, Nat.add_mul_mod_self_left, Nat.mod_eq_of_lt (by omega)]
  · rw [w2]; clear w2 hv; omega
  · clear w2; omega
theorem ones64 {x y1 y2 y3 v1 v2 : Nat} (hx : x < 18446744073709551616) (h1 : y1 = (x / 2 &&& 6148914691236517205) + (x &&& 6148914691236517205)) (h2 : y2 = (y1 / 4 &&& 3689348814741910323) + (y1 &&& 3689348814741910323))
    (h3 : y3 = (y2 / 16 + y2) &&& 1085102592571150095) (h4 : v1 = y3 + y3 / 256) (h5 : v2 = v1 + v1 / 65536) :
    y1 < 18446744073709551616 ∧ y2 < 18446744073709551616 ∧ y2 / 16 + y2 < 18446744073709551616 ∧ y3 < 1229782938247303442 ∧ (v2 + v2 / 4294967296) % 128 = popN 64 x ∧ v2 + v2 / 4294967296 < 9223372036854775808 := by
  have m1 : rep8 85 8 = 6148914691236517205 := by decide
  have m2 : rep8 51 8 = 3689348814741910323 := by decide
  have m3 : rep8 15 8 = 1085102592571150095 := by decide
  have p8 : 256 ^ 8 = 18446744073709551616 := by decide
  have g1 : y1 = byF b1 8 x := by rw [h1, ← m1]; exact swar1 8 x (by omega)
  have l1 : y1 < 256 ^ 8 := by rw [g1]; exact byF_lt b1 b1_lt 8 x
  have g2 : y2 = byF (fun d => b2 (b1 d)) 8 x := by rw [h2, ← m2, swar2 8 y1 l1, g1]; exact byF_comp b1 b2 b1_lt 8 x
  have lf : ∀ d, d < 256 → (fun d => b2 (b1 d)) d < 256 := fun d hd => by have := (b12_lt d hd).1; show b2 (b1 d) < 256; omega
  have l2 : y2 < 256 ^ 8 := by rw [g2]; exact byF_lt _ lf 8 x
  have o2 : okB 8 y2 := by rw [g2]; exact byF_ok 8 x
  have g3 : y3 = byF (fun d => b3 (b2 (b1 d))) 8 x := by rw [h3, ← m3, swar3 8 y2 l2 o2, g2]; exact byF_comp (fun d => b2 (b1 d)) b3 lf 8 x
  have top : y2 / 72057594037927936 ≤ 68 := by
    have o3 : y2 / 256 / 256 / 256 / 256 / 256 / 256 / 256 % 256 ≤ 68 := o2.2.2.2.2.2.2.2.1.1
    omega
  have hs : popN 64 x = popN 8 (x % 256) + (popN 8 (x / 256 % 256) + (popN 8 (x / 256 / 256 % 256) + (popN 8 (x / 256 / 256 / 256 % 256) + (popN 8 (x / 256 / 256 / 256 / 256 % 256) + (popN 8 (x / 256 / 256 / 256 / 256 / 256 % 256) + (popN 8 (x / 256 / 256 / 256 / 256 / 256 / 256 % 256) + (popN 8 (x / 256 / 256 / 256 / 256 / 256 / 256 / 256 % 256) + 0))))))) := (sumB_pop 8 x).symm
  have q : ∀ z, b3 (b2 (b1 (z % 256))) = popN 8 (z % 256) := fun z => b123 _ (Nat.mod_lt _ (by decide))
  have hy : y3 = 256 * (256 * (256 * (256 * (256 * (256 * (256 * (256 * 0 + popN 8 (x / 256 / 256 / 256 / 256 / 256 / 256 / 256 % 256)) + popN 8 (x / 256 / 256 / 256 / 256 / 256 / 256 % 256)) + popN 8 (x / 256 / 256 / 256 / 256 / 256 % 256)) + popN 8 (x / 256 / 256 / 256 / 256 % 256)) + popN 8 (x / 256 / 256 / 256 % 256)) + popN 8 (x / 256 / 256 % 256)) + popN 8 (x / 256 % 256)) + popN 8 (x % 256) := by
    rw [g3]; simp only [byF, q]
  have c0 := pop8_le (x % 256); have c1 := pop8_le (x / 256 % 256); have c2 := pop8_le (x / 256 / 256 % 256); have c3 := pop8_le (x / 256 / 256 / 256 % 256)
  have c4 := pop8_le (x / 256 / 256 / 256 / 256 % 256); have c5 := pop8_le (x / 256 / 256 / 256 / 256 / 256 % 256); have c6 := pop8_le (x / 256 / 256 / 256 / 256 / 256 / 256 % 256); have c7 := pop8_le (x / 256 / 256 / 256 / 256 / 256 / 256 / 256 % 256)
  clear g1 g2 g3 o2 lf q h1 h2 h3 m1 m2 m3
  generalize popN 8 (x % 256) = d0 at *
  generalize popN 8 (x / 256 % 256) = d1 at *
  generalize popN 8 (x / 256 / 256 % 256) = d2 at *
  generalize popN 8 (x / 256 / 256 / 256 % 256) = d3 at *
  generalize popN 8 (x / 256 / 256 / 256 / 256 % 256) = d4 at *
  generalize popN 8 (x / 256 / 256 / 256 / 256 / 256 % 256) = d5 at *
  generalize popN 8 (x / 256 / 256 / 256 / 256 / 256 / 256 % 256) = d6 at *
  generalize popN 8 (x / 256 / 256 / 256 / 256 / 256 / 256 / 256 % 256) = d7 at *
  obtain ⟨k1, k2, k3⟩ := gather c0 c1 c2 c3 c4 c5 c6 c7 (v := y3) (k7 := d7) (k6 := d6 + 256 * d7) (k5 := d5 + 256 * (d6 + 256 * d7)) (k4 := d4 + 256 * (d5 + 256 * (d6 + 256 * d7))) (k3 := d3 + 256 * (d4 + 256 * (d5 + 256 * (d6 + 256 * d7)))) (k2 := d2 + 256 * (d3 + 256 * (d4 + 256 * (d5 + 256 * (d6 + 256 * d7))))) (k1 := d1 + 256 * (d2 + 256 * (d3 + 256 * (d4 + 256 * (d5 + 256 * (d6 + 256 * d7)))))) rfl rfl rfl rfl rfl rfl rfl (by rw [hy]; clear hy; omega) h4 h5
  refine ⟨by clear hy; omega, by clear hy; omega, ?_, k3, ?_, k2⟩
  · clear hy hs k1 k2 k3 c0 c1 c2 c3 c4 c5 c6 c7 h4 h5
    rw [p8] at l2; omega
  · rw [k1, hs]; clear hy hs k1 k2 k3; omega
end Go.Hl
end
section
namespace Go.Hl
open Classical in
noncomputable def isN (p : Prop) : Nat := if p then 1 else 0
theorem isN_pos {p : Prop} (h : p) : isN p = 1 := by unfold isN; rw [if_pos h]
theorem isN_neg {p : Prop} (h : ¬ p) : isN p = 0 := by unfold isN; rw [if_neg h]
theorem testF_is {n : Nat} {op : Int} {A B : Nat} {p : Prop} (h : testP n op A B ↔ p) : testF n op A B = isN p := by
  unfold testF isN
  by_cases hp : p
  · rw [if_pos (h.2 hp), if_pos hp]
  · rw [if_neg (fun h' => hp (h.1 h')), if_neg hp]
theorem rot_or {n A k : Nat} (hA : A < 2 ^ n) (hk : k ≤ n) : (A * 2 ^ k % 2 ^ n) ||| (A / 2 ^ (n - k)) = rotF n A k := by
  have hp : 2 ^ n = 2 ^ (n - k) * 2 ^ k := by rw [← Nat.pow_add]; congr 1; omega
  have h1 : A * 2 ^ k % 2 ^ n = 2 ^ k * (A % 2 ^ (n - k)) := by rw [hp, Nat.mul_mod_mul_right, Nat.mul_comm]
  have h2 : A / 2 ^ (n - k) < 2 ^ k := by
    rw [Nat.div_lt_iff_lt_mul (Nat.two_pow_pos _), Nat.mul_comm, ← hp]; exact hA
  unfold rotF
  rw [h1, Nat.two_pow_add_eq_or_of_lt h2]
theorem and31 (k : Int) : (k % 18446744073709551616).toNat &&& 31 = (k % 32).toNat := by
  rw [show (31 : Nat) = 2 ^ 5 - 1 from rfl, Nat.and_two_pow_sub_one_eq_mod]; omega
theorem and63 (k : Int) : (k % 18446744073709551616).toNat &&& 63 = (k % 64).toNat := by
  rw [show (63 : Nat) = 2 ^ 6 - 1 from rfl, Nat.and_two_pow_sub_one_eq_mod]; omega
theorem and127 (v : Nat) : v &&& 127 = v % 128 := by
  rw [show (127 : Nat) = 2 ^ 7 - 1 from rfl, Nat.and_two_pow_sub_one_eq_mod]
def len8L : List UInt8 := (List.range 256).map fun i => UInt8.ofNat (blN i)
theorem bl8 : ∀ i, i < 256 → (UInt8.ofNat (blN i)).toNat = blN i := by decide +kernel
theorem len8_at {x : Nat} (h : x < 256) : len8L[x]? = some (UInt8.ofNat (blN x)) := by simp [len8L, h]
def extF (f t : Nat) (s : Prop) [Decidable s] (a : Nat) : Nat := if s ∧ 2 ^ (f - 1) ≤ a % 2 ^ f then a % 2 ^ f + 2 ^ t - 2 ^ f else a % 2 ^ f
theorem ext_u {f t a : Nat} (hf : f = 8 ∨ f = 16 ∨ f = 32) : a * 2 ^ (64 - f) % 18446744073709551616 / 2 ^ (64 - f) = a % 2 ^ f := by
  rcases hf with rfl | rfl | rfl <;> omega
theorem ext_s {f t a : Nat} (hf : f = 8 ∨ f = 16 ∨ f = 32) (ht : t = 32 ∨ t = 64) : ((IntKind.i64.wrap (((a * 2 ^ (64 - f) % 18446744073709551616 : Nat)) : Int) / 2 ^ (64 - f)) % 18446744073709551616).toNat % 2 ^ t = extF f t True a := by
  rw [IntKind.wrap_i64]
  unfold extF
  rcases hf with rfl | rfl | rfl <;> rcases ht with rfl | rfl <;> simp only [true_and] <;> split <;> omega
theorem rot_pos {n A B : Nat} (h : B % n < n) : rotF n A (((B % n : Nat) : Int) % (n : Int)).toNat = rotF n A (B % n) := by
  rw [Int.emod_eq_of_lt (by omega) (by omega)]; rfl
theorem rot_neg {n A B : Nat} (h : B % n < n) : rotF n A ((-((B % n : Nat) : Int)) % (n : Int)).toNat = rotF n A ((n - B % n) % n) := by
  congr 1
  generalize B % n = k at *
  by_cases h0 : k = 0
  · rw [h0]; simp
  · rw [Nat.mod_eq_of_lt (by omega)]
    have : (-((k : Nat) : Int)) % (n : Int) = (n : Int) - ((k : Nat) : Int) := by
      rw [← Int.add_emod_right, Int.emod_eq_of_lt (by omega) (by omega)]; omega
    rw [this]; omega
theorem trap_b0 {n A B : Nat} {op : Int} (h0 : trapF n op A B = 0) (h : 3 ≤ op) (h7 : op < 7) : B ≠ 0 := by
  intro hb
  unfold trapF at h0
  rw [if_neg (by omega), if_pos hb] at h0
  exact absurd h0 (by decide)
theorem ctz_le {a : Nat} (h : a < 18446744073709551616) : Lib.ctz 64 a ≤ 64 := by
  by_cases h0 : a = 0
  · subst h0; exact Nat.le_refl _
  · exact Nat.le_of_lt (Lib.lowest_bit 64 a h0 h).2
theorem pop_n {n a : Nat} (hn : n ≤ 64) (h : a < 2 ^ n) : popN 64 a = popN n a := by
  obtain ⟨j, hj⟩ : ∃ j, 64 = n + j := ⟨64 - n, by omega⟩
  rw [hj, popN_add, Nat.div_eq_of_lt h]
  have : ∀ j, popN j 0 = 0 := fun j => (pop0_iff j 0).2 (Nat.zero_mod _)
  rw [this]; rfl
theorem isN_zero (A : Nat) : isN ((A : Int) = 0) = if A = 0 then 1 else 0 := by
  by_cases h : A = 0
  · rw [isN_pos (by omega), if_pos h]
  · rw [isN_neg (by omega), if_neg h]
theorem ext_pos {f t a : Nat} {s : Prop} [Decidable s] (h : s) : extF f t s a = extF f t True a := by simp [extF, h]
theorem ext_neg {f t a : Nat} {s : Prop} [Decidable s] (h : ¬ s) : extF f t s a = a % 2 ^ f := by simp [extF, h]
end Go.Hl
end
section
namespace Go.Hl
def encP (p : Prop) : List VP := [propV p]
instance : Enc 1 encP := ⟨fun _ => rfl, fun x q h => by simp only [encP, List.mem_cons, List.not_mem_nil, or_false] at h; subst h; infer_instance⟩
def sgP (n : Nat) (op : Int) (A : Nat) : Prop := (op = 3 ∨ op = 5) ∧ 2 ^ (n - 1) ≤ A
instance {n : Nat} {op : Int} {A : Nat} : Decidable (sgP n op A) := by unfold sgP; infer_instance
end Go.Hl
end
section
namespace Go.Hl
def encInt (n : Int) : List VP := [intV .i64 n]
def encU64 (n : Int) : List VP := [intV .u64 n]
structure SigD where
  P : List UInt8
  R : List UInt8
def encSig (s : SigD) : List VP := [sliceV 1 encU8 s.P, sliceV 1 encU8 s.R]
structure ImportD where
  Module : List UInt8
  Name : List UInt8
  Sig : Int
def encImport (x : ImportD) : List VP := [strV x.Module, strV x.Name, intV .i64 x.Sig]
structure InstrD where
  Code : Int
  A : Int
  B : Int
  Align : Int
  L : List Int
def encInstr (x : InstrD) : List VP := [intV .i64 x.Code, intV .u64 x.A, intV .u64 x.B, intV .i64 x.Align, sliceV 1 encU64 x.L]
structure BodyD where
  Locals : List UInt8
  L : List InstrD
def encBody (x : BodyD) : List VP := [sliceV 1 encU8 x.Locals, sliceV 5 encInstr x.L]
structure FuncD where
  Sig : Int
  Body : BodyD
def encFunc (x : FuncD) : List VP := [intV .i64 x.Sig, sliceV 1 encU8 x.Body.Locals, sliceV 5 encInstr x.Body.L]
structure LimitsD where
  Min : Int
  Max : Int
  Wide : Prop
def encLimits (x : LimitsD) : List VP := [intV .i64 x.Min, intV .i64 x.Max, propV x.Wide]
structure GlobalD where
  Ty : UInt8
  Mutable : Prop
  Value : Int
def encGlobal (x : GlobalD) : List VP := [intV .u8 (x.Ty.toNat : Int), propV x.Mutable, intV .u64 x.Value]
structure ExportD where
  Name : List UInt8
  Kind : Int
  Index : Int
def encExport (x : ExportD) : List VP := [strV x.Name, intV .i64 x.Kind, intV .i64 x.Index]
structure ElemD where
  At : Int
  Funcs : List Int
def encElem (x : ElemD) : List VP := [intV .u64 x.At, sliceV 1 encInt x.Funcs]
structure DataD where
  Mem : Int
  At : Int
  Bytes : List UInt8
def encData (x : DataD) : List VP := [intV .i64 x.Mem, intV .u64 x.At, sliceV 1 encU8 x.Bytes]
structure ModD where
  Sigs : List SigD
  Imports : List ImportD
  Funcs : List FuncD
  Table : Int
  Mems : List LimitsD
  Globals : List GlobalD
  Exports : List ExportD
  Start : Int
  Elems : List ElemD
  Datas : List DataD
def encMod (m : ModD) : List VP := [sliceV 2 encSig m.Sigs, sliceV 3 encImport m.Imports, sliceV 3 encFunc m.Funcs, intV .i64 m.Table, sliceV 3 encLimits m.Mems, sliceV 3 encGlobal m.Globals, sliceV 3 encExport m.Exports, intV .i64 m.Start, sliceV 2 encElem m.Elems, sliceV 3 encData m.Datas]
instance : Enc 1 encInt := ⟨fun _ => rfl, fun x q h => by simp only [encInt, List.mem_cons, List.not_mem_nil, or_false] at h; rw [h]; infer_instance⟩
instance : Enc 1 encU64 := ⟨fun _ => rfl, fun x q h => by simp only [encU64, List.mem_cons, List.not_mem_nil, or_false] at h; rw [h]; infer_instance⟩
instance : Enc 2 encSig := ⟨fun _ => rfl, fun x q h => by simp only [encSig, List.mem_cons, List.not_mem_nil, or_false] at h; rcases h with h | h <;> rw [h] <;> infer_instance⟩
instance : Enc 3 encImport := ⟨fun _ => rfl, fun x q h => by simp only [encImport, List.mem_cons, List.not_mem_nil, or_false] at h; rcases h with h | h | h <;> rw [h] <;> infer_instance⟩
instance : Enc 5 encInstr := ⟨fun _ => rfl, fun x q h => by simp only [encInstr, List.mem_cons, List.not_mem_nil, or_false] at h; rcases h with h | h | h | h | h <;> rw [h] <;> infer_instance⟩
instance : Enc 2 encBody := ⟨fun _ => rfl, fun x q h => by simp only [encBody, List.mem_cons, List.not_mem_nil, or_false] at h; rcases h with h | h <;> rw [h] <;> infer_instance⟩
instance : Enc 3 encFunc := ⟨fun _ => rfl, fun x q h => by simp only [encFunc, List.mem_cons, List.not_mem_nil, or_false] at h; rcases h with h | h | h <;> rw [h] <;> infer_instance⟩
instance : Enc 3 encLimits := ⟨fun _ => rfl, fun x q h => by simp only [encLimits, List.mem_cons, List.not_mem_nil, or_false] at h; rcases h with h | h | h <;> rw [h] <;> infer_instance⟩
instance : Enc 3 encGlobal := ⟨fun _ => rfl, fun x q h => by simp only [encGlobal, List.mem_cons, List.not_mem_nil, or_false] at h; rcases h with h | h | h <;> rw [h] <;> infer_instance⟩
instance : Enc 3 encExport := ⟨fun _ => rfl, fun x q h => by simp only [encExport, List.mem_cons, List.not_mem_nil, or_false] at h; rcases h with h | h | h <;> rw [h] <;> infer_instance⟩
instance : Enc 2 encElem := ⟨fun _ => rfl, fun x q h => by simp only [encElem, List.mem_cons, List.not_mem_nil, or_false] at h; rcases h with h | h <;> rw [h] <;> infer_instance⟩
instance : Enc 3 encData := ⟨fun _ => rfl, fun x q h => by simp only [encData, List.mem_cons, List.not_mem_nil, or_false] at h; rcases h with h | h | h <;> rw [h] <;> infer_instance⟩
theorem FlatL.of {α : Type} {n : Nat} {enc : α → List VP} [h : Enc n enc] (x : α) : FlatL (enc x) := ⟨fun q hq => h.flat x q hq⟩
instance (x : SigD) : FlatL (encSig x) := FlatL.of x
instance (x : ImportD) : FlatL (encImport x) := FlatL.of x
instance (x : InstrD) : FlatL (encInstr x) := FlatL.of x
instance (x : BodyD) : FlatL (encBody x) := FlatL.of x
instance (x : FuncD) : FlatL (encFunc x) := FlatL.of x
instance (x : LimitsD) : FlatL (encLimits x) := FlatL.of x
instance (x : GlobalD) : FlatL (encGlobal x) := FlatL.of x
instance (x : ExportD) : FlatL (encExport x) := FlatL.of x
instance (x : ElemD) : FlatL (encElem x) := FlatL.of x
instance (x : DataD) : FlatL (encData x) := FlatL.of x
def TypedP (l : List UInt8) : Prop := l.length ≤ 20 ∧ ∀ b ∈ l, b = 126 ∨ b = 127
def NamedP (l : List UInt8) : Prop := (∀ b ∈ l, 33 ≤ b.toNat ∧ b.toNat ≤ 126) ∧ l ≠ [] ∧ l.length ≤ 30
def InP (n many : Int) : Prop := 0 ≤ n ∧ n < many
def LimitsP (l : LimitsD) (most : Int) : Prop := 0 ≤ l.Min ∧ l.Min ≤ most ∧ (l.Max < 0 ∨ l.Min ≤ l.Max ∧ l.Max ≤ most)
end Go.Hl
namespace Go.Hl
def manyE (n : Nat) (most : Int) (g : Nat → Int) : Int := if most < (n : Int) then 15 else firstE g n
theorem manyE_zero {n : Nat} {most : Int} {g : Nat → Int} : manyE n most g = 0 ↔ (n : Int) ≤ most ∧ firstE g n = 0 := by
  unfold manyE; split
  · constructor
    · intro h; cases h
    · rintro ⟨h, _⟩; omega
  · constructor
    · intro h; exact ⟨by omega, h⟩
    · exact fun h => h.2
def countM (m : ModD) : Int := (m.Imports.length : Int) + (m.Funcs.length : Int)
def RightP (s : SigD) : Prop := TypedP s.P ∧ TypedP s.R
noncomputable def sigE (s : SigD) : Int := whenE (¬ RightP s) 5
noncomputable def sigsE (m : ModD) : Int := manyE m.Sigs.length 50 (onI m.Sigs sigE)
open Classical in
noncomputable def importE (m : ModD) (x : ImportD) : Int := if ¬ NamedP x.Module ∨ ¬ NamedP x.Name then 16 else whenE (¬ InP x.Sig m.Sigs.length) 2
noncomputable def importsE (m : ModD) : Int := manyE m.Imports.length 20 (onI m.Imports (importE m))
noncomputable def funcE (m : ModD) (x : FuncD) : Int := whenE (¬ InP x.Sig m.Sigs.length) 2
noncomputable def funcsE (m : ModD) : Int := if 100 < countM m then 15 else firstE (onI m.Funcs (funcE m)) m.Funcs.length
noncomputable def tableE (m : ModD) : Int := if m.Table < -1 then 2 else whenE (1000 < m.Table) 15
noncomputable def memE (x : LimitsD) : Int := whenE (¬ LimitsP x 65536) 5
noncomputable def memsE (m : ModD) : Int := manyE m.Mems.length 4 (onI m.Mems memE)
def bitsI (t : UInt8) : Int := if (t.toNat : Int) = 127 then 32 else if (t.toNat : Int) = 126 then 64 else 0
theorem bitsI_zero (b : UInt8) : bitsI b = 0 ↔ ¬ (b = 126 ∨ b = 127) := by
  unfold bitsI
  by_cases h1 : (b.toNat : Int) = 127
  · have e : b = 127 := UInt8.toNat_inj.1 (by simp; omega)
    subst e; simp
  · by_cases h2 : (b.toNat : Int) = 126
    · have e : b = 126 := UInt8.toNat_inj.1 (by simp; omega)
      subst e; simp
    · rw [if_neg h1, if_neg h2]
      simp only [true_iff]
      rintro (e | e) <;> subst e <;> simp at h1 h2
theorem typed_iff {l : List UInt8} : ((l.length : Int) ≤ 20 ∧ ¬ ∃ x ∈ l, bitsI x = 0) ↔ TypedP l := by
  unfold TypedP
  simp only [not_exists, not_and, bitsI_zero, Classical.not_not]
  constructor <;> (rintro ⟨h1, h2⟩; exact ⟨by omega, h2⟩)
noncomputable def globalE (x : GlobalD) : Int := whenE (bitsI x.Ty = 0 ∨ (x.Ty.toNat : Int) = 127 ∧ 4294967295 < x.Value) 5
noncomputable def globalsE (m : ModD) : Int := manyE m.Globals.length 50 (onI m.Globals globalE)
def cnt (m : ModD) : Nat → Int
  | 0 => countM m
  | 1 => min (IntKind.i64.wrap (m.Table + 1)) 1
  | 2 => (m.Mems.length : Int)
  | _ => (m.Globals.length : Int)
def kindJ (k : Int) : Nat := (max (min k 3) 0).toNat
def ExportP (m : ModD) (x : ExportD) : Prop := InP x.Kind 4 ∧ InP x.Index (cnt m (kindJ x.Kind))
open Classical in
noncomputable def exportE (m : ModD) (i : Nat) : Int := match m.Exports[i]? with
  | none => 0
  | some x => if ¬ NamedP x.Name ∨ (∃ y ∈ m.Exports.take i, y.Name = x.Name) then 16 else whenE (¬ ExportP m x) 2
noncomputable def exportsE (m : ModD) : Int := manyE m.Exports.length 50 (exportE m)
def numberO (m : ModD) (f : Int) : Option Int :=
  if f < 0 ∨ countM m ≤ f then none else if f < (m.Imports.length : Int) then (m.Imports[f.toNat]?).map (·.Sig) else (m.Funcs[(f - (m.Imports.length : Int)).toNat]?).map (·.Sig)
def sigO (m : ModD) (f : Int) : Option SigD := match numberO m f with
  | none => none
  | some n => if 0 ≤ n then m.Sigs[n.toNat]? else none
noncomputable def startE (m : ModD) : Int := if m.Start = -1 then 0 else match sigO m m.Start with
  | none => 2
  | some s => whenE (0 < (s.P.length : Int) + (s.R.length : Int)) 5
open Classical in
noncomputable def elemE (m : ModD) (x : ElemD) : Int := if 20 < (x.Funcs.length : Int) then 15 else whenE (m.Table = -1 ∨ (∃ f ∈ x.Funcs, ¬ InP f (countM m)) ∨ 4294967295 < x.At) 2
noncomputable def elemsE (m : ModD) : Int := manyE m.Elems.length 20 (onI m.Elems (elemE m))
open Classical in
noncomputable def dataE (m : ModD) (x : DataD) : Int := if 4096 < (x.Bytes.length : Int) then 15 else
  whenE (¬ InP x.Mem m.Mems.length ∨ (∃ y, m.Mems[x.Mem.toNat]? = some y ∧ ¬ y.Wide ∧ 4294967295 < x.At)) 2
noncomputable def datasE (m : ModD) : Int := manyE m.Datas.length 20 (onI m.Datas (dataE m))
end Go.Hl
namespace Go.Hl
theorem ptrV_len {cs : List VP} {S : BS} {w : World} {v : Value} (h : (ptrV cs).p S w v) {α : Type} {n : Nat} {enc : α → List VP} {xs : List α} (j : Nat) (hj : cs[j]? = some (sliceV n enc xs)) : xs.length ≤ 281474976710656 := by
  obtain ⟨b, off, _, _, hc⟩ := h
  obtain ⟨u, _, hq⟩ := hc j _ hj
  exact sliceV_len hq
theorem aggV_len {cs : List VP} {S : BS} {w : World} {v : Value} (h : (aggV cs).p S w v) {α : Type} {n : Nat} {enc : α → List VP} {xs : List α} (j : Nat) (hj : cs[j]? = some (sliceV n enc xs)) : xs.length ≤ 281474976710656 := by
  obtain ⟨arr, _, _, hc⟩ := h
  obtain ⟨u, _, hq⟩ := hc j _ hj
  exact sliceV_len hq
theorem ptrV_in {q : VP} {S : BS} {w : World} {v : Value} (h : (ptrV [q]).p S w v) : ∃ u, q.p S w u := by
  obtain ⟨b, off, _, _, hc⟩ := h
  obtain ⟨u, _, hq⟩ := hc 0 _ rfl
  exact ⟨u, hq⟩
structure ModLens (m : ModD) : Prop where
  sigs : m.Sigs.length ≤ 281474976710656
  imports : m.Imports.length ≤ 281474976710656
  funcs : m.Funcs.length ≤ 281474976710656
  mems : m.Mems.length ≤ 281474976710656
  globals : m.Globals.length ≤ 281474976710656
  exports : m.Exports.length ≤ 281474976710656
  elems : m.Elems.length ≤ 281474976710656
  datas : m.Datas.length ≤ 281474976710656
theorem modLens {m : ModD} {S : BS} {w : World} {v : Value} (h : (ptrV (encMod m)).p S w v) : ModLens m :=
  ⟨ptrV_len h 0 rfl, ptrV_len h 1 rfl, ptrV_len h 2 rfl, ptrV_len h 4 rfl, ptrV_len h 5 rfl, ptrV_len h 6 rfl, ptrV_len h 8 rfl, ptrV_len h 9 rfl⟩
theorem modLens2 {m : ModD} {S : BS} {w : World} {v : Value} (h : (ptrV [ptrV (encMod m)]).p S w v) : ModLens m := let ⟨_, h⟩ := ptrV_in h; modLens h
theorem modLensA {m : ModD} {S : BS} {w : World} {v : Value} (h : (aggV (encMod m)).p S w v) : ModLens m :=
  ⟨aggV_len h 0 rfl, aggV_len h 1 rfl, aggV_len h 2 rfl, aggV_len h 4 rfl, aggV_len h 5 rfl, aggV_len h 6 rfl, aggV_len h 8 rfl, aggV_len h 9 rfl⟩
end Go.Hl
namespace Go.Hl
theorem named_bad {l : List UInt8} {k : Nat} {x : UInt8} (hx : l[k]? = some x) (h : (x.toNat : Int) < 33 ∨ 126 < (x.toNat : Int)) : NamedP l ↔ False := by
  constructor
  · intro hn; have := hn.1 x (List.mem_of_getElem? hx); omega
  · exact False.elim
theorem named_all {l : List UInt8} (h : ∀ x ∈ l, ¬ ((x.toNat : Int) < 33 ∨ 126 < (x.toNat : Int))) : ∀ b ∈ l, 33 ≤ b.toNat ∧ b.toNat ≤ 126 := fun b hb => by have := h b hb; omega
theorem named_iff {l : List UInt8} (h : ∀ x ∈ l, ¬ ((x.toNat : Int) < 33 ∨ 126 < (x.toNat : Int))) : (l ≠ [] ∧ (l.length : Int) ≤ 30) ↔ NamedP l := by
  have := named_all h
  unfold NamedP
  constructor
  · rintro ⟨h1, h2⟩; exact ⟨this, h1, by omega⟩
  · rintro ⟨_, h1, h2⟩; exact ⟨h1, by omega⟩
theorem named_iff2 {l : List UInt8} (h : ∀ x ∈ l, ¬ ((x.toNat : Int) < 33 ∨ 126 < (x.toNat : Int))) : (0 < (l.length : Int) ∧ (l.length : Int) ≤ 30) ↔ NamedP l := by
  rw [← named_iff h]
  have : 0 < (l.length : Int) ↔ l ≠ [] := by
    rw [← List.length_pos_iff]; omega
  rw [this]
theorem typed_bad {l : List UInt8} {k : Nat} {x : UInt8} (hx : l[k]? = some x) (h : (x.toNat : Int) ≠ 126 ∧ (x.toNat : Int) ≠ 127) : TypedP l ↔ False := by
  constructor
  · intro hn; rcases hn.2 x (List.mem_of_getElem? hx) with e | e <;> subst e <;> simp at h
  · exact False.elim
theorem typed_iff2 {l : List UInt8} (h : ∀ x ∈ l, ¬ ((x.toNat : Int) ≠ 126 ∧ (x.toNat : Int) ≠ 127)) : (l.length : Int) ≤ 20 ↔ TypedP l := by
  unfold TypedP
  constructor
  · intro h1
    refine ⟨by omega, fun b hb => ?_⟩
    have := h b hb
    by_cases e : (b.toNat : Int) = 126
    · exact .inl (UInt8.toNat_inj.1 (by simp; omega))
    · exact .inr (UInt8.toNat_inj.1 (by simp; omega))
  · rintro ⟨h1, _⟩; omega
end Go.Hl
namespace Go.Hl
theorem numberO_import {m : ModD} {j : Nat} {x : ImportD} (hj : j < m.Imports.length) (hx : m.Imports[j]? = some x) : numberO m (j : Int) = some x.Sig := by
  unfold numberO countM
  rw [if_neg (by omega), if_pos (by omega)]
  simp [hx]
theorem numberO_func {m : ModD} {j : Nat} {x : FuncD} (hx : m.Funcs[j]? = some x) : numberO m ((m.Imports.length : Int) + (j : Int)) = some x.Sig := by
  have := (List.getElem?_eq_some_iff.1 hx).1
  unfold numberO countM
  rw [if_neg (by omega), if_neg (by omega)]
  rw [show ((m.Imports.length : Int) + (j : Int) - (m.Imports.length : Int)).toNat = j by omega]
  simp [hx]
theorem sigO_none {m : ModD} {f : Int} (h : ¬ (numberO m f).isSome ∨ ¬ InP ((numberO m f).getD 0) m.Sigs.length) : sigO m f = none := by
  unfold sigO
  cases hn : numberO m f with
  | none => rfl
  | some n =>
    rw [hn] at h
    simp only [Option.isSome_some, not_true, false_or, Option.getD_some] at h
    unfold InP at h
    simp only
    split
    · rw [List.getElem?_eq_none (by omega)]
    · rfl
theorem sigO_some {m : ModD} {f n : Int} {j : Nat} {x : SigD} (hn : numberO m f = some n) (hj : n = (j : Int)) (hx : m.Sigs[j]? = some x) : sigO m f = some x := by
  unfold sigO
  rw [hn]; subst hj; simp [hx]
theorem VLe.agg2 {a b c d : VP} (h1 : VLe a c) (h2 : VLe b d) : VLe (aggV [a, b]) (aggV [c, d]) := fun S w v ⟨arr, hv, hn, hc⟩ => ⟨arr, hv, hn, fun j q hj => by
  match j, hj with
  | 0, hj => simp at hj; subst hj; obtain ⟨u, hu, hq⟩ := hc 0 a rfl; exact ⟨u, hu, h1 _ _ _ hq⟩
  | 1, hj => simp at hj; subst hj; obtain ⟨u, hu, hq⟩ := hc 1 b rfl; exact ⟨u, hu, h2 _ _ _ hq⟩⟩
theorem startE_none {m : ModD} (h0 : ¬ m.Start = -1) (h : ¬ (sigO m m.Start).isSome) : startE m = 2 := by
  unfold startE
  rw [if_neg h0]
  cases hs : sigO m m.Start with
  | none => rfl
  | some s => rw [hs] at h; simp at h
theorem startE_some {m : ModD} (h0 : ¬ m.Start = -1) (h : ¬ ¬ (sigO m m.Start).isSome) : startE m = whenE (0 < ((((sigO m m.Start).getD ⟨[], []⟩).P.length : Int) + (((sigO m m.Start).getD ⟨[], []⟩).R.length : Int))) 5 := by
  unfold startE
  rw [if_neg h0]
  cases hs : sigO m m.Start with
  | none => rw [hs] at h; simp at h
  | some s => rfl
end Go.Hl
namespace Go.Hl
theorem cnt_at (m : ModD) (j : Nat) (hj : j < 4) : [intV .i64 (cnt m 0), intV .i64 (cnt m 1), intV .i64 (cnt m 2), intV .i64 (cnt m 3)][j]? = some (intV .i64 (cnt m j)) := by
  match j, hj with
  | 0, _ => rfl
  | 1, _ => rfl
  | 2, _ => rfl
  | 3, _ => rfl
theorem exportE_name {m : ModD} {i : Nat} {x : ExportD} (hx : m.Exports[i]? = some x) (h : ¬ NamedP x.Name ∨ ∃ y ∈ m.Exports.take i, y.Name = x.Name) : exportE m i = 16 := by
  unfold exportE; rw [hx]; simp only; rw [if_pos h]
theorem exportE_rest {m : ModD} {i : Nat} {x : ExportD} (hx : m.Exports[i]? = some x) (h : ¬ (¬ NamedP x.Name ∨ ∃ y ∈ m.Exports.take i, y.Name = x.Name)) : exportE m i = whenE (¬ InP x.Kind 4 ∨ ¬ InP x.Index (cnt m (kindJ x.Kind))) 2 := by
  unfold exportE; rw [hx]; simp only; rw [if_neg h]
  congr 1; unfold ExportP; exact propext (by rw [Classical.not_and_iff_not_or_not])
theorem elemE_rest {m : ModD} {x : ElemD} (h : ¬ 20 < (x.Funcs.length : Int)) : elemE m x = whenE ((m.Table = -1 ∨ ∃ f ∈ x.Funcs, ¬ InP f (countM m)) ∨ 4294967295 < x.At) 2 := by
  unfold elemE; rw [if_neg h]; congr 1; exact propext (by rw [or_assoc])
theorem data_at {x : DataD} {n : Nat} (h : InP x.Mem n) : max (min x.Mem ((n : Int) - 1)) 0 = (x.Mem.toNat : Int) := by
  obtain ⟨h1, h2⟩ := h; omega
end Go.Hl
namespace Go.Hl
def memAt (m : ModD) (k : Nat) : LimitsD := (m.Mems[k]?).getD ⟨0, 0, False⟩
theorem data_mem {m : ModD} {x : DataD} (h : InP x.Mem m.Mems.length) : m.Mems[x.Mem.toNat]? = some (memAt m x.Mem.toNat) := by
  obtain ⟨h1, h2⟩ := h
  obtain ⟨y, hy⟩ := getElem?_lt (xs := m.Mems) (k := x.Mem.toNat) (by omega)
  unfold memAt; rw [hy]; rfl
theorem dataE_rest {m : ModD} {x : DataD} (h : ¬ 4096 < (x.Bytes.length : Int)) : dataE m x = whenE (¬ InP x.Mem m.Mems.length ∨ ¬ (memAt m x.Mem.toNat).Wide ∧ 4294967295 < x.At) 2 := by
  unfold dataE; rw [if_neg h]; congr 1; apply propext
  by_cases hi : InP x.Mem m.Mems.length
  · have := data_mem hi
    simp only [hi, not_true, false_or, this, Option.some.injEq, exists_eq_left']
  · simp only [hi, not_false_iff, true_or]
end Go.Hl
namespace Go.Hl
def EqB {α : Type} (a b : List α) (k : Nat) : Prop := ∀ i, i < k → a[i]? = b[i]?
theorem EqB.zero {α : Type} (a b : List α) : EqB a b 0 := fun i h => by omega
theorem EqB.succ {α : Type} {a b : List α} {k : Nat} {x y : α} (h : EqB a b k) (hx : a[k]? = some x) (hy : b[k]? = some y) (e : x = y) : EqB a b (k + 1) := fun i hi => by
  by_cases e1 : i = k
  · subst e1; rw [hx, hy, e]
  · exact h i (by omega)
theorem EqB.all {α : Type} {a b : List α} {k : Nat} (h : EqB a b k) (hl : a.length = b.length) (hk : a.length ≤ k) : a = b := by
  apply List.ext_getElem?
  intro i
  by_cases hi : i < a.length
  · exact h i (by omega)
  · rw [List.getElem?_eq_none (by omega), List.getElem?_eq_none (by omega)]
theorem ne_at {α : Type} {a b : List α} {k : Nat} {x y : α} (hx : a[k]? = some x) (hy : b[k]? = some y) (e : x ≠ y) : a = b ↔ False := by
  constructor
  · intro h; subst h; rw [hx] at hy; exact e (Option.some.inj hy)
  · exact False.elim
theorem ne_len {α : Type} {a b : List α} (h : (a.length : Int) ≠ (b.length : Int)) : a = b ↔ False := by
  constructor
  · intro e; subst e; exact h rfl
  · exact False.elim
theorem u8_eq {x y : UInt8} : ((x.toNat : Int) = (y.toNat : Int)) ↔ x = y := by
  constructor
  · intro h; exact UInt8.toNat_inj.1 (by omega)
  · intro h; rw [h]
theorem instr_eq {x y : InstrD} : ((((x.Code = y.Code ∧ x.A = y.A) ∧ x.B = y.B) ∧ x.Align = y.Align) ∧ x.L = y.L) ↔ x = y := by
  constructor
  · rintro ⟨⟨⟨⟨h1, h2⟩, h3⟩, h4⟩, h5⟩; cases x; cases y; simp_all
  · intro h; subst h; simp
end Go.Hl
end
section
namespace Go.Hl
structure InfoD where
  Code : Int
  Name : List UInt8
  Form : Int
  Takes : List UInt8
  Gives : List UInt8
  deriving DecidableEq
structure RowD where
  code : Int
  name : List UInt8
  form : Int
  takes : List UInt8
  gives : List UInt8
  deriving DecidableEq
structure SpanD where
  first : Int
  many : Int
  group : Int
  bits : Int
  from_ : Int
  deriving DecidableEq
def encInfo (x : InfoD) : List VP := [intV .i64 x.Code, strV x.Name, intV .i64 x.Form, sliceV 1 encU8 x.Takes, sliceV 1 encU8 x.Gives]
def encRow (x : RowD) : List VP := [intV .i64 x.code, strV x.name, intV .i64 x.form, strV x.takes, strV x.gives]
def encSpan (x : SpanD) : List VP := [intV .i64 x.first, intV .i64 x.many, intV .i64 x.group, intV .i64 x.bits, intV .i64 x.from_]
def encPairI (x : Int × Int) : List VP := [intV .i64 x.1, intV .i64 x.2]
def encStrD (x : List UInt8) : List VP := [strV x]
instance : Enc 5 encInfo := ⟨fun _ => rfl, fun x q h => by simp only [encInfo, List.mem_cons, List.not_mem_nil, or_false] at h; rcases h with h | h | h | h | h <;> rw [h] <;> infer_instance⟩
instance : Enc 5 encRow := ⟨fun _ => rfl, fun x q h => by simp only [encRow, List.mem_cons, List.not_mem_nil, or_false] at h; rcases h with h | h | h | h | h <;> rw [h] <;> infer_instance⟩
instance : Enc 5 encSpan := ⟨fun _ => rfl, fun x q h => by simp only [encSpan, List.mem_cons, List.not_mem_nil, or_false] at h; rcases h with h | h | h | h | h <;> rw [h] <;> infer_instance⟩
instance : Enc 2 encPairI := ⟨fun _ => rfl, fun x q h => by simp only [encPairI, List.mem_cons, List.not_mem_nil, or_false] at h; rcases h with h | h <;> rw [h] <;> infer_instance⟩
instance : Enc 1 encStrD := ⟨fun _ => rfl, fun x q h => by simp only [encStrD, List.mem_cons, List.not_mem_nil, or_false] at h; rw [h]; infer_instance⟩
instance (x : InfoD) : FlatL (encInfo x) := ⟨fun q h => (inferInstance : Enc 5 encInfo).flat x q h⟩
instance (x : RowD) : FlatL (encRow x) := ⟨fun q h => (inferInstance : Enc 5 encRow).flat x q h⟩
instance (x : SpanD) : FlatL (encSpan x) := ⟨fun q h => (inferInstance : Enc 5 encSpan).flat x q h⟩
instance (x : Int × Int) : FlatL (encPairI x) := ⟨fun q h => (inferInstance : Enc 2 encPairI).flat x q h⟩
def rowsT : List RowD := [
  ⟨0, [117, 110, 114, 101, 97, 99, 104, 97, 98, 108, 101], 0, [], []⟩,
  ⟨1, [110, 111, 112], 0, [], []⟩,
  ⟨2, [98, 108, 111, 99, 107], 1, [], []⟩,
  ⟨3, [108, 111, 111, 112], 1, [], []⟩,
  ⟨4, [105, 102], 1, [], []⟩,
  ⟨5, [101, 108, 115, 101], 0, [], []⟩,
  ⟨11, [101, 110, 100], 0, [], []⟩,
  ⟨12, [98, 114], 2, [], []⟩,
  ⟨13, [98, 114, 95, 105, 102], 2, [], []⟩,
  ⟨14, [98, 114, 95, 116, 97, 98, 108, 101], 3, [], []⟩,
  ⟨15, [114, 101, 116, 117, 114, 110], 0, [], []⟩,
  ⟨16, [99, 97, 108, 108], 4, [], []⟩,
  ⟨17, [99, 97, 108, 108, 95, 105, 110, 100, 105, 114, 101, 99, 116], 5, [], []⟩,
  ⟨26, [100, 114, 111, 112], 0, [], []⟩,
  ⟨27, [115, 101, 108, 101, 99, 116], 0, [], []⟩,
  ⟨32, [108, 111, 99, 97, 108, 46, 103, 101, 116], 6, [], []⟩,
  ⟨33, [108, 111, 99, 97, 108, 46, 115, 101, 116], 6, [], []⟩,
  ⟨34, [108, 111, 99, 97, 108, 46, 116, 101, 101], 6, [], []⟩,
  ⟨35, [103, 108, 111, 98, 97, 108, 46, 103, 101, 116], 7, [], []⟩,
  ⟨36, [103, 108, 111, 98, 97, 108, 46, 115, 101, 116], 7, [], []⟩,
  ⟨40, [105, 51, 50, 46, 108, 111, 97, 100], 8, [105], [105]⟩,
  ⟨41, [105, 54, 52, 46, 108, 111, 97, 100], 8, [105], [108]⟩,
  ⟨44, [105, 51, 50, 46, 108, 111, 97, 100, 56, 95, 115], 8, [105], [105]⟩,
  ⟨45, [105, 51, 50, 46, 108, 111, 97, 100, 56, 95, 117], 8, [105], [105]⟩,
  ⟨46, [105, 51, 50, 46, 108, 111, 97, 100, 49, 54, 95, 115], 8, [105], [105]⟩,
  ⟨47, [105, 51, 50, 46, 108, 111, 97, 100, 49, 54, 95, 117], 8, [105], [105]⟩,
  ⟨48, [105, 54, 52, 46, 108, 111, 97, 100, 56, 95, 115], 8, [105], [108]⟩,
  ⟨49, [105, 54, 52, 46, 108, 111, 97, 100, 56, 95, 117], 8, [105], [108]⟩,
  ⟨50, [105, 54, 52, 46, 108, 111, 97, 100, 49, 54, 95, 115], 8, [105], [108]⟩,
  ⟨51, [105, 54, 52, 46, 108, 111, 97, 100, 49, 54, 95, 117], 8, [105], [108]⟩,
  ⟨52, [105, 54, 52, 46, 108, 111, 97, 100, 51, 50, 95, 115], 8, [105], [108]⟩,
  ⟨53, [105, 54, 52, 46, 108, 111, 97, 100, 51, 50, 95, 117], 8, [105], [108]⟩,
  ⟨54, [105, 51, 50, 46, 115, 116, 111, 114, 101], 8, [105, 105], []⟩,
  ⟨55, [105, 54, 52, 46, 115, 116, 111, 114, 101], 8, [105, 108], []⟩,
  ⟨58, [105, 51, 50, 46, 115, 116, 111, 114, 101, 56], 8, [105, 105], []⟩,
  ⟨59, [105, 51, 50, 46, 115, 116, 111, 114, 101, 49, 54], 8, [105, 105], []⟩,
  ⟨60, [105, 54, 52, 46, 115, 116, 111, 114, 101, 56], 8, [105, 108], []⟩,
  ⟨61, [105, 54, 52, 46, 115, 116, 111, 114, 101, 49, 54], 8, [105, 108], []⟩,
  ⟨62, [105, 54, 52, 46, 115, 116, 111, 114, 101, 51, 50], 8, [105, 108], []⟩,
  ⟨63, [109, 101, 109, 111, 114, 121, 46, 115, 105, 122, 101], 9, [], [105]⟩,
  ⟨64, [109, 101, 109, 111, 114, 121, 46, 103, 114, 111, 119], 9, [105], [105]⟩,
  ⟨65, [105, 51, 50, 46, 99, 111, 110, 115, 116], 11, [], [105]⟩,
  ⟨66, [105, 54, 52, 46, 99, 111, 110, 115, 116], 11, [], [108]⟩,
  ⟨167, [105, 51, 50, 46, 119, 114, 97, 112, 95, 105, 54, 52], 0, [108], [105]⟩,
  ⟨172, [105, 54, 52, 46, 101, 120, 116, 101, 110, 100, 95, 105, 51, 50, 95, 115], 0, [105], [108]⟩,
  ⟨173, [105, 54, 52, 46, 101, 120, 116, 101, 110, 100, 95, 105, 51, 50, 95, 117], 0, [105], [108]⟩,
  ⟨192, [105, 51, 50, 46, 101, 120, 116, 101, 110, 100, 56, 95, 115], 0, [105], [105]⟩]
def lateT : List RowD := [
  ⟨193, [105, 51, 50, 46, 101, 120, 116, 101, 110, 100, 49, 54, 95, 115], 0, [105], [105]⟩,
  ⟨194, [105, 54, 52, 46, 101, 120, 116, 101, 110, 100, 56, 95, 115], 0, [108], [108]⟩,
  ⟨195, [105, 54, 52, 46, 101, 120, 116, 101, 110, 100, 49, 54, 95, 115], 0, [108], [108]⟩,
  ⟨196, [105, 54, 52, 46, 101, 120, 116, 101, 110, 100, 51, 50, 95, 115], 0, [108], [108]⟩,
  ⟨64522, [109, 101, 109, 111, 114, 121, 46, 99, 111, 112, 121], 10, [105, 105, 105], []⟩,
  ⟨64523, [109, 101, 109, 111, 114, 121, 46, 102, 105, 108, 108], 9, [105, 105, 105], []⟩]
def spansT : List SpanD := [⟨69, 1, 2, 32, 3⟩, ⟨70, 10, 1, 32, 0⟩, ⟨80, 1, 2, 64, 3⟩, ⟨81, 10, 1, 64, 0⟩, ⟨103, 3, 2, 32, 0⟩, ⟨106, 15, 0, 32, 0⟩, ⟨121, 3, 2, 64, 0⟩, ⟨124, 15, 0, 64, 0⟩]
def binT : List (List UInt8) := [[97, 100, 100], [115, 117, 98], [109, 117, 108], [100, 105, 118, 95, 115], [100, 105, 118, 95, 117], [114, 101, 109, 95, 115], [114, 101, 109, 95, 117], [97, 110, 100], [111, 114], [120, 111, 114], [115, 104, 108], [115, 104, 114, 95, 115], [115, 104, 114, 95, 117], [114, 111, 116, 108], [114, 111, 116, 114]]
def testT : List (List UInt8) := [[101, 113], [110, 101], [108, 116, 95, 115], [108, 116, 95, 117], [103, 116, 95, 115], [103, 116, 95, 117], [108, 101, 95, 115], [108, 101, 95, 117], [103, 101, 95, 115], [103, 101, 95, 117]]
def unT : List (List UInt8) := [[99, 108, 122], [99, 116, 122], [112, 111, 112, 99, 110, 116], [101, 113, 122]]
def namesT : List (List UInt8) := [[117, 110, 114, 101, 97, 99, 104, 97, 98, 108, 101],
  [110, 111, 112],
  [98, 108, 111, 99, 107],
  [108, 111, 111, 112],
  [105, 102],
  [101, 108, 115, 101],
  [],
  [],
  [],
  [],
  [],
  [101, 110, 100],
  [98, 114],
  [98, 114, 95, 105, 102],
  [98, 114, 95, 116, 97, 98, 108, 101],
  [114, 101, 116, 117, 114, 110],
  [99, 97, 108, 108],
  [99, 97, 108, 108, 95, 105, 110, 100, 105, 114, 101, 99, 116],
  [],
  [],
  [],
  [],
  [],
  [],
  [],
  [],
  [100, 114, 111, 112],
  [115, 101, 108, 101, 99, 116],
  [],
  [],
  [],
  [],
  [108, 111, 99, 97, 108, 46, 103, 101, 116],
  [108, 111, 99, 97, 108, 46, 115, 101, 116],
  [108, 111, 99, 97, 108, 46, 116, 101, 101],
  [103, 108, 111, 98, 97, 108, 46, 103, 101, 116],
  [103, 108, 111, 98, 97, 108, 46, 115, 101, 116],
  [],
  [],
  [],
  [105, 51, 50, 46, 108, 111, 97, 100],
  [105, 54, 52, 46, 108, 111, 97, 100],
  [],
  [],
  [105, 51, 50, 46, 108, 111, 97, 100, 56, 95, 115],
  [105, 51, 50, 46, 108, 111, 97, 100, 56, 95, 117],
  [105, 51, 50, 46, 108, 111, 97, 100, 49, 54, 95, 115],
  [105, 51, 50, 46, 108, 111, 97, 100, 49, 54, 95, 117],
  [105, 54, 52, 46, 108, 111, 97, 100, 56, 95, 115],
  [105, 54, 52, 46, 108, 111, 97, 100, 56, 95, 117],
  [105, 54, 52, 46, 108, 111, 97, 100, 49, 54, 95, 115],
  [105, 54, 52, 46, 108, 111, 97, 100, 49, 54, 95, 117],
  [105, 54, 52, 46, 108, 111, 97, 100, 51, 50, 95, 115],
  [105, 54, 52, 46, 108, 111, 97, 100, 51, 50, 95, 117],
  [105, 51, 50, 46, 115, 116, 111, 114, 101],
  [105, 54, 52, 46, 115, 116, 111, 114, 101],
  [],
  [],
  [105, 51, 50, 46, 115, 116, 111, 114, 101, 56],
  [105, 51, 50, 46, 115, 116, 111, 114, 101, 49, 54],
  [105, 54, 52, 46, 115, 116, 111, 114, 101, 56],
  [105, 54, 52, 46, 115, 116, 111, 114, 101, 49, 54],
  [105, 54, 52, 46, 115, 116, 111, 114, 101, 51, 50],
  [109, 101, 109, 111, 114, 121, 46, 115, 105, 122, 101],
  [109, 101, 109, 111, 114, 121, 46, 103, 114, 111, 119],
  [105, 51, 50, 46, 99, 111, 110, 115, 116],
  [105, 54, 52, 46, 99, 111, 110, 115, 116],
  [],
  [],
  [105, 51, 50, 46, 101, 113, 122],
  [105, 51, 50, 46, 101, 113],
  [105, 51, 50, 46, 110, 101],
  [105, 51, 50, 46, 108, 116, 95, 115],
  [105, 51, 50, 46, 108, 116, 95, 117],
  [105, 51, 50, 46, 103, 116, 95, 115],
  [105, 51, 50, 46, 103, 116, 95, 117],
  [105, 51, 50, 46, 108, 101, 95, 115],
  [105, 51, 50, 46, 108, 101, 95, 117],
  [105, 51, 50, 46, 103, 101, 95, 115],
  [105, 51, 50, 46, 103, 101, 95, 117],
  [105, 54, 52, 46, 101, 113, 122],
  [105, 54, 52, 46, 101, 113],
  [105, 54, 52, 46, 110, 101],
  [105, 54, 52, 46, 108, 116, 95, 115],
  [105, 54, 52, 46, 108, 116, 95, 117],
  [105, 54, 52, 46, 103, 116, 95, 115],
  [105, 54, 52, 46, 103, 116, 95, 117],
  [105, 54, 52, 46, 108, 101, 95, 115],
  [105, 54, 52, 46, 108, 101, 95, 117],
  [105, 54, 52, 46, 103, 101, 95, 115],
  [105, 54, 52, 46, 103, 101, 95, 117],
  [],
  [],
  [],
  [],
  [],
  [],
  [],
  [],
  [],
  [],
  [],
  [],
  [105, 51, 50, 46, 99, 108, 122],
  [105, 51, 50, 46, 99, 116, 122],
  [105, 51, 50, 46, 112, 111, 112, 99, 110, 116],
  [105, 51, 50, 46, 97, 100, 100],
  [105, 51, 50, 46, 115, 117, 98],
  [105, 51, 50, 46, 109, 117, 108],
  [105, 51, 50, 46, 100, 105, 118, 95, 115],
  [105, 51, 50, 46, 100, 105, 118, 95, 117],
  [105, 51, 50, 46, 114, 101, 109, 95, 115],
  [105, 51, 50, 46, 114, 101, 109, 95, 117],
  [105, 51, 50, 46, 97, 110, 100],
  [105, 51, 50, 46, 111, 114],
  [105, 51, 50, 46, 120, 111, 114],
  [105, 51, 50, 46, 115, 104, 108],
  [105, 51, 50, 46, 115, 104, 114, 95, 115],
  [105, 51, 50, 46, 115, 104, 114, 95, 117],
  [105, 51, 50, 46, 114, 111, 116, 108],
  [105, 51, 50, 46, 114, 111, 116, 114],
  [105, 54, 52, 46, 99, 108, 122],
  [105, 54, 52, 46, 99, 116, 122],
  [105, 54, 52, 46, 112, 111, 112, 99, 110, 116],
  [105, 54, 52, 46, 97, 100, 100],
  [105, 54, 52, 46, 115, 117, 98],
  [105, 54, 52, 46, 109, 117, 108],
  [105, 54, 52, 46, 100, 105, 118, 95, 115],
  [105, 54, 52, 46, 100, 105, 118, 95, 117],
  [105, 54, 52, 46, 114, 101, 109, 95, 115],
  [105, 54, 52, 46, 114, 101, 109, 95, 117],
  [105, 54, 52, 46, 97, 110, 100],
  [105, 54, 52, 46, 111, 114],
  [105, 54, 52, 46, 120, 111, 114],
  [105, 54, 52, 46, 115, 104, 108],
  [105, 54, 52, 46, 115, 104, 114, 95, 115],
  [105, 54, 52, 46, 115, 104, 114, 95, 117],
  [105, 54, 52, 46, 114, 111, 116, 108],
  [105, 54, 52, 46, 114, 111, 116, 114],
  [],
  [],
  [],
  [],
  [],
  [],
  [],
  [],
  [],
  [],
  [],
  [],
  [],
  [],
  [],
  [],
  [],
  [],
  [],
  [],
  [],
  [],
  [],
  [],
  [],
  [],
  [],
  [],
  [105, 51, 50, 46, 119, 114, 97, 112, 95, 105, 54, 52],
  [],
  [],
  [],
  [],
  [105, 54, 52, 46, 101, 120, 116, 101, 110, 100, 95, 105, 51, 50, 95, 115],
  [105, 54, 52, 46, 101, 120, 116, 101, 110, 100, 95, 105, 51, 50, 95, 117],
  [],
  [],
  [],
  [],
  [],
  [],
  [],
  [],
  [],
  [],
  [],
  [],
  [],
  [],
  [],
  [],
  [],
  [],
  [105, 51, 50, 46, 101, 120, 116, 101, 110, 100, 56, 95, 115],
  [105, 51, 50, 46, 101, 120, 116, 101, 110, 100, 49, 54, 95, 115],
  [105, 54, 52, 46, 101, 120, 116, 101, 110, 100, 56, 95, 115],
  [105, 54, 52, 46, 101, 120, 116, 101, 110, 100, 49, 54, 95, 115],
  [105, 54, 52, 46, 101, 120, 116, 101, 110, 100, 51, 50, 95, 115]]
def foreignT : List (Int × Int) := [(28, 28), (37, 38), (42, 43), (56, 57), (67, 68), (91, 102), (139, 166), (168, 171), (174, 191), (208, 210), (253, 253), (64512, 64519), (64520, 64521), (64524, 64526), (64527, 64529)]
theorem findE_at {α : Type} {p : α → Bool} : ∀ {l : List α} {k : Nat} {x : α}, l[k]? = some x → p x = true → (∀ j y, j < k → l[j]? = some y → p y = false) → l.find? p = some x
  | [], _, _, h, _, _ => by simp at h
  | y :: l, 0, x, h, hp, _ => by simp at h; subst h; simp [hp]
  | y :: l, k + 1, x, h, hp, hn => by
    rw [List.find?_cons_of_neg (by simpa using hn 0 y (by omega) rfl)]
    exact findE_at (l := l) (k := k) (by simpa using h) hp (fun j z hj hz => hn (j + 1) z (by omega) (by simpa using hz))
def typesF (l : List UInt8) : List UInt8 := l.map fun c => if c = 108 then 126 else 127
def Ascii (l : List UInt8) : Prop := ∀ b ∈ l, b < 128
instance (l : List UInt8) : Decidable (Ascii l) := inferInstanceAs (Decidable (∀ b ∈ l, b < 128))
def infoOf (r : RowD) : InfoD := ⟨r.code, r.name, r.form, typesF r.takes, typesF r.gives⟩
def zeroI : InfoD := ⟨0, [], 0, [], []⟩
def zeroR : RowD := ⟨0, [], 0, [], []⟩
def inSpan (code : Int) (s : SpanD) : Bool := decide (s.first ≤ code ∧ code < s.first + s.many)
def numO (code : Int) : Option (Int × Int × Int) := (spansT.find? (inSpan code)).map fun s => (s.group, s.from_ + code - s.first, s.bits)
def kindS (b : Int) : List UInt8 := if b = 64 then [105, 54, 52, 46] else [105, 51, 50, 46]
def oneS (b : Int) : List UInt8 := if b = 64 then [108] else [105]
def numRow (code g n b : Int) : RowD :=
  if g = 0 then ⟨code, kindS b ++ binT.getD n.toNat [], 0, oneS b ++ oneS b, oneS b⟩
  else if g = 1 then ⟨code, kindS b ++ testT.getD n.toNat [], 0, oneS b ++ oneS b, [105]⟩
  else if n = 3 then ⟨code, kindS b ++ unT.getD n.toNat [], 0, oneS b, [105]⟩
  else ⟨code, kindS b ++ unT.getD n.toNat [], 0, oneS b, oneS b⟩
def numberedO (code : Int) : Option RowD := (numO code).map fun p => numRow code p.1 p.2.1 p.2.2
def hasCode (code : Int) (r : RowD) : Bool := decide (r.code = code)
def rowO (code : Int) : Option RowD := match rowsT.find? (hasCode code) with | some r => some r | none => match lateT.find? (hasCode code) with | some r => some r | none => numberedO code
def findI (code : Int) : Option InfoD := (rowO code).map infoOf
def ForeignP (code : Int) : Prop := ∃ r ∈ foreignT, r.1 ≤ code ∧ code ≤ r.2
instance (code : Int) : Decidable (ForeignP code) := inferInstanceAs (Decidable (∃ r ∈ foreignT, r.1 ≤ code ∧ code ≤ r.2))
def widthsT : List (List UInt8) := [[56], [49, 54], [51, 50]]
def restW (name : List UInt8) : List UInt8 := trimSuf (trimSuf (cutB name 46).2.1 [95, 115]) [95, 117]
def widthF (name : List UInt8) : Int := if hasSuf (restW name) [56] then 1 else if hasSuf (restW name) [49, 54] then 2 else if hasSuf (restW name) [51, 50] then 4 else if hasPre name [105, 54, 52] then 8 else 4
def widthO (code : Int) : Option Int := match findI code with | none => none | some x => if x.Form = 8 then some (widthF x.Name) else none
def nameR (code : Int) : List UInt8 := if code = 64522 then [109, 101, 109, 111, 114, 121, 46, 99, 111, 112, 121] else if code = 64523 then [109, 101, 109, 111, 114, 121, 46, 102, 105, 108, 108] else if code < 0 ∨ 196 < code then [] else namesT.getD code.toNat []
def formR (c : Int) : Int :=
  if 2 ≤ c ∧ c ≤ 4 then 1 else if c = 12 ∨ c = 13 then 2 else if c = 14 then 3 else if c = 16 then 4 else if c = 17 then 5 else if 32 ≤ c ∧ c ≤ 34 then 6 else if c = 35 ∨ c = 36 then 7 else if 40 ≤ c ∧ c ≤ 62 then 8 else if (c = 63 ∨ c = 64) ∨ c = 64523 then 9 else if c = 64522 then 10 else if c = 65 ∨ c = 66 then 11 else 0
def takesR (c : Int) : List UInt8 × List UInt8 :=
  if c < 40 then ([], []) else if c = 40 ∨ 44 ≤ c ∧ c ≤ 47 then ([127], [127]) else if c = 41 ∨ 48 ≤ c ∧ c ≤ 53 then ([127], [126]) else if (c = 54 ∨ c = 58) ∨ c = 59 then ([127, 127], [])
  else if c ≤ 62 then ([127, 126], []) else if c = 63 ∨ c = 65 then ([], [127]) else if c = 66 then ([], [126]) else if c = 80 ∨ c = 167 then ([126], [127])
  else if (70 ≤ c ∧ c ≤ 79) ∨ 106 ≤ c ∧ c ≤ 120 then ([127, 127], [127]) else if 81 ≤ c ∧ c ≤ 90 then ([126, 126], [127]) else if 124 ≤ c ∧ c ≤ 138 then ([126, 126], [126])
  else if c = 172 ∨ c = 173 then ([127], [126]) else if (121 ≤ c ∧ c ≤ 123) ∨ 194 ≤ c ∧ c ≤ 196 then ([126], [126]) else if 64522 ≤ c then ([127, 127, 127], []) else ([127], [127])
def widthR (c : Int) : Int :=
  if c = 40 ∨ c = 52 ∨ c = 53 ∨ c = 54 ∨ c = 62 then 4 else if c = 41 ∨ c = 55 then 8 else if c = 44 ∨ c = 45 ∨ c = 48 ∨ c = 49 ∨ c = 58 ∨ c = 60 then 1 else if c = 46 ∨ c = 47 ∨ c = 50 ∨ c = 51 ∨ c = 59 ∨ c = 61 then 2 else 0
def foreignR (c : Int) : Prop :=
  (c = 28 ∨ c = 37 ∨ c = 38 ∨ c = 42 ∨ c = 43 ∨ c = 56 ∨ c = 57 ∨ c = 67 ∨ c = 68 ∨ c = 208 ∨ c = 209 ∨ c = 210 ∨ c = 253) ∨ (91 ≤ c ∧ c ≤ 102 ∨ 139 ≤ c ∧ c ≤ 166 ∨ 168 ≤ c ∧ c ≤ 171 ∨ 174 ≤ c ∧ c ≤ 191 ∨ 64512 ≤ c ∧ c ≤ 64521 ∨ 64524 ≤ c ∧ c ≤ 64529)
instance (c : Int) : Decidable (foreignR c) := inferInstanceAs (Decidable (_ ∨ _))
theorem rows_ascii : ∀ r ∈ rowsT, Ascii r.takes ∧ Ascii r.gives ∧ r.takes.length ≤ 3 ∧ r.gives.length ≤ 3 := by decide
theorem late_ascii : ∀ r ∈ lateT, Ascii r.takes ∧ Ascii r.gives ∧ r.takes.length ≤ 3 ∧ r.gives.length ≤ 3 := by decide
def RowOk (r : RowD) : Prop := Ascii r.takes ∧ Ascii r.gives ∧ r.takes.length ≤ 3 ∧ r.gives.length ≤ 3
theorem oneS_ok (b : Int) : Ascii (oneS b) ∧ (oneS b).length = 1 := by unfold oneS; split <;> exact ⟨by decide, rfl⟩
theorem one_one_ok (b : Int) : Ascii (oneS b ++ oneS b) := by unfold oneS; split <;> decide
theorem numRow_ok (code g n b : Int) : RowOk (numRow code g n b) := by
  have h := oneS_ok b
  have h2 := one_one_ok b
  have h3 : Ascii [105] := by decide
  unfold numRow RowOk
  split
  · exact ⟨h2, h.1, by simp [h.2], by simp [h.2]⟩
  split
  · exact ⟨h2, h3, by simp [h.2], by simp⟩
  split
  · exact ⟨h.1, h3, by simp [h.2], by simp⟩
  · exact ⟨h.1, h.1, by simp [h.2], by simp [h.2]⟩
theorem rowO_ok {code : Int} {r : RowD} (h : rowO code = some r) : RowOk r := by
  unfold rowO at h
  split at h
  · rename_i r' hr; cases h; exact rows_ascii r (List.mem_of_find?_eq_some hr)
  · split at h
    · rename_i r' hr; cases h; exact late_ascii r (List.mem_of_find?_eq_some hr)
    · unfold numberedO at h
      cases hn : numO code with
      | none => rw [hn] at h; cases h
      | some p => rw [hn] at h; cases h; exact numRow_ok _ _ _ _
theorem spans_num : ∀ s ∈ spansT, 0 ≤ s.from_ ∧ (s.group = 0 ∧ s.from_ + s.many ≤ 15 ∨ s.group = 1 ∧ s.from_ + s.many ≤ 10 ∨ s.group = 2 ∧ s.from_ + s.many ≤ 4) ∧ (s.bits = 32 ∨ s.bits = 64) := by decide
theorem numO_bounds {code g n b : Int} (h : numO code = some (g, n, b)) : 0 ≤ n ∧ (g = 0 ∧ n < 15 ∨ g = 1 ∧ n < 10 ∨ g = 2 ∧ n < 4) ∧ (b = 32 ∨ b = 64) := by
  unfold numO at h
  cases hs : spansT.find? (inSpan code) with
  | none => rw [hs] at h; cases h
  | some s =>
    rw [hs] at h; cases h
    have h1 := spans_num s (List.mem_of_find?_eq_some hs)
    have h2 := List.find?_some hs
    simp only [inSpan, decide_eq_true_eq] at h2
    omega
end Go.Hl
namespace Go.Hl
theorem spans_bd : ∀ s ∈ spansT, 0 ≤ s.first ∧ s.first ≤ 200 ∧ 0 ≤ s.many ∧ s.many ≤ 20 ∧ 0 ≤ s.from_ ∧ s.from_ ≤ 10 := by decide
theorem numO_at {code : Int} {k : Nat} {s : SpanD} (hx : spansT[k]? = some s) (hc : inSpan code s = true) (hn : NotB (fun s => inSpan code s = true) spansT k) : numO code = some (s.group, s.from_ + code - s.first, s.bits) := by
  unfold numO; rw [findE_at hx hc (fun j y hj hy => by simpa using hn j y hj hy)]; rfl
theorem numO_none {code : Int} (hn : NotB (fun s => inSpan code s = true) spansT spansT.length) : numO code = none := by
  unfold numO; rw [List.find?_eq_none.2 (fun x hx => hn.all (Nat.le_refl _) x hx)]; rfl
theorem rowO_1 {code : Int} {k : Nat} {r : RowD} (hx : rowsT[k]? = some r) (hc : r.code = code) (hn : NotB (fun r => r.code = code) rowsT k) : rowO code = some r := by
  unfold rowO; rw [findE_at hx (by simpa [hasCode] using hc) (fun j y hj hy => by simpa [hasCode] using hn j y hj hy)]
theorem rows_none {code : Int} (hn : NotB (fun r : RowD => r.code = code) rowsT rowsT.length) : rowsT.find? (hasCode code) = none :=
  List.find?_eq_none.2 (fun x hx => by have := hn.all (Nat.le_refl _) x hx; simpa [hasCode] using this)
theorem late_none {code : Int} (hn : NotB (fun r : RowD => r.code = code) lateT lateT.length) : lateT.find? (hasCode code) = none :=
  List.find?_eq_none.2 (fun x hx => by have := hn.all (Nat.le_refl _) x hx; simpa [hasCode] using this)
theorem rowO_2 {code : Int} {k : Nat} {r : RowD} (h1 : NotB (fun r : RowD => r.code = code) rowsT rowsT.length) (hx : lateT[k]? = some r) (hc : r.code = code) (hn : NotB (fun r => r.code = code) lateT k) : rowO code = some r := by
  unfold rowO; rw [rows_none h1]; simp only; rw [findE_at hx (by simpa [hasCode] using hc) (fun j y hj hy => by simpa [hasCode] using hn j y hj hy)]
theorem rowO_3 {code : Int} (h1 : NotB (fun r : RowD => r.code = code) rowsT rowsT.length) (h2 : NotB (fun r : RowD => r.code = code) lateT lateT.length) : rowO code = numberedO code := by
  unfold rowO; rw [rows_none h1]; simp only; rw [late_none h2]
theorem numbered_some {code : Int} {p : Int × Int × Int} (h : numO code = some p) : numberedO code = some (numRow code p.1 p.2.1 p.2.2) := by unfold numberedO; rw [h]; rfl
theorem numbered_none {code : Int} (h : numO code = none) : numberedO code = none := by unfold numberedO; rw [h]; rfl
theorem typesF_snoc {l : List UInt8} {k : Nat} {x : UInt8} (h : l[k]? = some x) : typesF (l.take (k + 1)) = typesF (l.take k) ++ [if x = 108 then 126 else 127] := by
  rw [← take_snoc h]; simp [typesF]
theorem typesF_l {l : List UInt8} {k : Nat} {x : UInt8} (h : l[k]? = some x) (hc : (x.toNat : Int) = 108) : typesF (l.take (k + 1)) = typesF (l.take k) ++ [126] := by
  have : x = 108 := UInt8.toNat_inj.1 (by simp; omega)
  rw [typesF_snoc h, if_pos this]
theorem typesF_i {l : List UInt8} {k : Nat} {x : UInt8} (h : l[k]? = some x) (hc : ¬ (x.toNat : Int) = 108) : typesF (l.take (k + 1)) = typesF (l.take k) ++ [127] := by
  have : ¬ x = 108 := fun e => hc (by subst e; rfl)
  rw [typesF_snoc h, if_neg this]
theorem typesF_len (l : List UInt8) : (typesF l).length = l.length := by simp [typesF]
theorem strs_map : ∀ l : List (List UInt8), l.flatMap encStrD = l.map strV
  | [] => rfl
  | x :: l => by rw [List.flatMap_cons, List.map_cons, strs_map l]; rfl
theorem strs_at {l : List (List UInt8)} {j : Nat} (h : j < l.length) : (l.flatMap encStrD)[j]? = some (strV (l.getD j [])) := by
  rw [strs_map, List.getElem?_map, List.getElem?_eq_getElem h, List.getD_eq_getElem?_getD, List.getElem?_eq_getElem h]; rfl
theorem kind_len (b : Int) : (kindS b).length = 4 := by unfold kindS; split <;> rfl
theorem binT_len : ∀ s ∈ binT, s.length ≤ 10 := by decide
theorem testT_len : ∀ s ∈ testT, s.length ≤ 10 := by decide
theorem unT_len : ∀ s ∈ unT, s.length ≤ 10 := by decide
theorem getD_len {l : List (List UInt8)} (h : ∀ s ∈ l, s.length ≤ 10) (j : Nat) : (l.getD j []).length ≤ 10 := by
  rw [List.getD_eq_getElem?_getD]
  cases hj : l[j]? with
  | none => simp
  | some s => exact h s (List.mem_of_getElem? hj)
end Go.Hl
namespace Go.Hl
theorem name_ok {code : Int} {x : InfoD} (h : findI code = some x) : x.Name ≠ [46] ∧ x.Name.length ≤ 20 := by
  unfold findI at h
  cases hr : rowO code with
  | none => rw [hr] at h; cases h
  | some r =>
    rw [hr] at h; cases h
    show r.name ≠ [46] ∧ r.name.length ≤ 20
    have h1 : ∀ r ∈ rowsT, r.name ≠ [46] ∧ r.name.length ≤ 20 := by decide
    have h2 : ∀ r ∈ lateT, r.name ≠ [46] ∧ r.name.length ≤ 20 := by decide
    unfold rowO at hr
    split at hr
    · rename_i r' hf; cases hr; exact h1 _ (List.mem_of_find?_eq_some hf)
    · split at hr
      · rename_i r' hf; cases hr; exact h2 _ (List.mem_of_find?_eq_some hf)
      · unfold numberedO at hr
        cases hn : numO code with
        | none => rw [hn] at hr; cases hr
        | some p =>
          rw [hn] at hr; cases hr
          have hk := kind_len p.2.2
          have key : ∀ (T : List (List UInt8)), (∀ s ∈ T, s.length ≤ 10) → kindS p.2.2 ++ T.getD p.2.1.toNat [] ≠ [46] ∧ (kindS p.2.2 ++ T.getD p.2.1.toNat []).length ≤ 20 := fun T hT => by
            have hl := getD_len hT p.2.1.toNat
            refine ⟨fun e => ?_, by rw [List.length_append]; omega⟩
            have := congrArg List.length e
            rw [List.length_append] at this
            simp at this; omega
          unfold numRow
          dsimp only
          split
          · exact key _ binT_len
          split
          · exact key _ testT_len
          split
          · exact key _ unT_len
          · exact key _ unT_len
theorem width_none1 {code : Int} (h : findI code = none) : widthO code = none := by unfold widthO; rw [h]
theorem width_none2 {code : Int} {x : InfoD} (h : findI code = some x) (hf : x.Form ≠ 8) : widthO code = none := by unfold widthO; rw [h]; simp [hf]
theorem width_some {code : Int} {x : InfoD} (h : findI code = some x) (hf : x.Form = 8) : widthO code = some (widthF x.Name) := by unfold widthO; rw [h]; simp [hf]
theorem widthF_at {name s : List UInt8} {k : Nat} (hs : widthsT[k]? = some s) (hc : hasSuf (restW name) s) (hn : NotB (fun s => hasSuf (restW name) s) widthsT k) : widthF name = 2 ^ k := by
  unfold widthF
  match k, hs with
  | 0, hs => cases hs; rw [if_pos hc]; rfl
  | 1, hs => cases hs; rw [if_neg (hn 0 _ (by omega) rfl), if_pos hc]; rfl
  | 2, hs => cases hs; rw [if_neg (hn 0 _ (by omega) rfl), if_neg (hn 1 _ (by omega) rfl), if_pos hc]; rfl
theorem widthF_no {name : List UInt8} (hn : NotB (fun s => hasSuf (restW name) s) widthsT widthsT.length) : widthF name = if hasPre name [105, 54, 52] then 8 else 4 := by
  unfold widthF
  rw [if_neg (hn 0 _ (by decide) rfl), if_neg (hn 1 _ (by decide) rfl), if_neg (hn 2 _ (by decide) rfl)]
theorem names_len : namesT.length = 197 := by decide +kernel
theorem shl3 : ∀ {k : Nat}, k < 3 → IntKind.i64.wrap (1 * 2 ^ k) = (2 : Int) ^ k
  | 0, _ => rfl
  | 1, _ => rfl
  | 2, _ => rfl
  | k + 3, h => by omega
end Go.Hl
end
section
namespace Go.Hl
def FactI (c : Int) : Prop := (widthO c = if 0 < widthR c then some (widthR c) else none) ∧ (ForeignP c ↔ foreignR c) ∧
  match findI c with
  | none => nameR c = []
  | some x => x.Code = c ∧ x.Name = nameR c ∧ nameR c ≠ [] ∧ x.Form = formR c ∧ x.Takes = (takesR c).1 ∧ x.Gives = (takesR c).2 ∧ ¬ ForeignP c
instance (c : Int) : Decidable (FactI c) := by unfold FactI; cases findI c <;> infer_instance
theorem fact_in : ∀ c : Fin 256, FactI (c.val : Int) := by decide +kernel
theorem fact_hi : ∀ c : Fin 18, FactI ((c.val : Int) + 64512) := by decide +kernel
theorem find_out {c : Int} (h : c < 0 ∨ 196 < c ∧ c < 64522 ∨ 64523 < c) : findI c = none := by
  have h1 : ∀ r ∈ rowsT, 0 ≤ r.code ∧ r.code ≤ 196 := by decide
  have h2 : ∀ r ∈ lateT, 0 ≤ r.code ∧ r.code ≤ 196 ∨ 64522 ≤ r.code ∧ r.code ≤ 64523 := by decide
  have h3 : ∀ s ∈ spansT, 0 ≤ s.first ∧ s.first + s.many ≤ 197 := by decide
  unfold findI rowO numberedO numO
  rw [List.find?_eq_none.2 (fun r hr => by have := h1 r hr; simp [hasCode]; omega)]
  simp only
  rw [List.find?_eq_none.2 (fun r hr => by have := h2 r hr; simp [hasCode]; omega)]
  simp only
  rw [List.find?_eq_none.2 (fun s hs => by have := h3 s hs; simp [inSpan]; omega)]
  rfl
theorem fact_out {c : Int} (h : c < 0 ∨ 255 < c ∧ c < 64512 ∨ 64529 < c) : FactI c := by
  have hf : findI c = none := find_out (by omega)
  have h4 : ∀ r ∈ foreignT, 0 ≤ r.1 ∧ r.2 ≤ 255 ∨ 64512 ≤ r.1 ∧ r.2 ≤ 64529 := by decide
  have hno : ¬ ForeignP c := fun ⟨r, hr, hc⟩ => by have := h4 r hr; omega
  have hnr : ¬ foreignR c := by unfold foreignR; omega
  have hw : widthR c = 0 := by unfold widthR; repeat rw [if_neg (by omega)]
  refine ⟨?_, ⟨fun h => (hno h).elim, fun h => (hnr h).elim⟩, ?_⟩
  · rw [width_none1 hf, hw]; rfl
  · rw [hf]
    show nameR c = []
    unfold nameR
    rw [if_neg (by omega), if_neg (by omega)]
    by_cases h0 : c < 0 ∨ 196 < c
    · rw [if_pos h0]
    · omega
theorem fact_all (c : Int) : FactI c := by
  by_cases h1 : 0 ≤ c ∧ c < 256
  · have := fact_in ⟨c.toNat, by omega⟩
    rwa [show ((⟨c.toNat, by omega⟩ : Fin 256).val : Int) = c by simp; omega] at this
  by_cases h2 : 64512 ≤ c ∧ c < 64530
  · have := fact_hi ⟨(c - 64512).toNat, by omega⟩
    rwa [show ((⟨(c - 64512).toNat, by omega⟩ : Fin 18).val : Int) + 64512 = c by simp; omega] at this
  · exact fact_out (by omega)
theorem find_none_of {c : Int} (h : findI c = none) : nameR c = [] := by have := (fact_all c).2.2; rw [h] at this; exact this
theorem find_some_of {c : Int} {x : InfoD} (h : findI c = some x) : x.Code = c ∧ x.Name = nameR c ∧ nameR c ≠ [] ∧ x.Form = formR c ∧ x.Takes = (takesR c).1 ∧ x.Gives = (takesR c).2 ∧ ¬ ForeignP c := by
  have := (fact_all c).2.2; rw [h] at this; exact this
theorem find_iff {c : Int} : (findI c).isSome ↔ nameR c ≠ [] := by
  cases h : findI c with
  | none => simp [find_none_of h]
  | some x => simp [(find_some_of h).2.2.1]
theorem width_iff (c : Int) : (widthO c).getD 0 = widthR c ∧ ((widthO c).isSome ↔ 0 < widthR c) := by
  rw [(fact_all c).1]
  have h0 : 0 ≤ widthR c := by unfold widthR; repeat (first | split | omega)
  split
  · rename_i h; simp [h]
  · rename_i h; simp; omega
theorem ite_pred {α : Type} {P : α → Prop} {c : Prop} [Decidable c] {a b : α} (ha : P a) (hb : P b) : P (if c then a else b) := by split <;> assumption
theorem takes_len (c : Int) : (takesR c).1.length ≤ 3 ∧ (takesR c).2.length ≤ 3 := by
  suffices h : (fun p : List UInt8 × List UInt8 => p.1.length ≤ 3 ∧ p.2.length ≤ 3) (takesR c) from h
  unfold takesR
  iterate 14 refine ite_pred (P := fun p : List UInt8 × List UInt8 => p.1.length ≤ 3 ∧ p.2.length ≤ 3) ⟨by simp, by simp⟩ ?_
  exact ⟨by simp, by simp⟩
end Go.Hl
end
section
namespace Go.Hl
def noI : InstrD := ⟨-1, 0, 0, 0, []⟩
def zerI : InstrD := ⟨0, 0, 0, 0, []⟩
def mkI (c : Int) (v : Nat) : InstrD := ⟨c, (v : Int), 0, 0, []⟩
def okI (x : InstrD) : Prop := 0 ≤ x.A ∧ x.A < 18446744073709551616
theorem mkI_ok {c : Int} {v : Nat} (h : v < 18446744073709551616) : okI (mkI c v) := ⟨Int.natCast_nonneg _, by show (v : Int) < _; omega⟩
def isC (x : InstrD) : Prop := x.Code = 65 ∨ x.Code = 66
instance (x : InstrD) : Decidable (isC x) := by unfold isC; infer_instance
def outC (c : Int) : Int := if (takesR c).2 = [126] then 66 else 65
def oneC (c : Int) (a : Nat) : Option Nat :=
  if c = 69 then some (unF 32 3 (a % 2 ^ 32)) else if c = 80 then some (unF 64 3 (a % 2 ^ 64))
  else if 103 ≤ c ∧ c ≤ 105 then some (unF 32 (c - 103) (a % 2 ^ 32)) else if 121 ≤ c ∧ c ≤ 123 then some (unF 64 (c - 121) (a % 2 ^ 64))
  else if c = 167 then some (a % 4294967296) else if c = 172 then some (extF 32 64 True a) else if c = 173 then some (extF 32 64 False a)
  else if c = 192 then some (extF 8 32 True a) else if c = 193 then some (extF 16 32 True a) else if c = 194 then some (extF 8 64 True a) else if c = 195 then some (extF 16 64 True a) else if c = 196 then some (extF 32 64 True a) else none
noncomputable def twoV (c : Int) (a b : Nat) : Nat :=
  if 70 ≤ c ∧ c ≤ 79 then testF 32 (c - 70) (a % 2 ^ 32) (b % 2 ^ 32) else if 81 ≤ c ∧ c ≤ 90 then testF 64 (c - 81) (a % 2 ^ 64) (b % 2 ^ 64)
  else if 106 ≤ c ∧ c ≤ 120 then binV 32 (c - 106) (a % 2 ^ 32) (b % 2 ^ 32) else if 124 ≤ c ∧ c ≤ 138 then binV 64 (c - 124) (a % 2 ^ 64) (b % 2 ^ 64) else 0
def twoOk (c : Int) (a b : Nat) : Prop :=
  if 70 ≤ c ∧ c ≤ 79 then True else if 81 ≤ c ∧ c ≤ 90 then True
  else if 106 ≤ c ∧ c ≤ 120 then trapF 32 (c - 106) (a % 2 ^ 32) (b % 2 ^ 32) = 0 else if 124 ≤ c ∧ c ≤ 138 then trapF 64 (c - 124) (a % 2 ^ 64) (b % 2 ^ 64) = 0 else False
theorem testF_lt {n : Nat} {op : Int} {A B : Nat} : testF n op A B < 2 := by unfold testF; split <;> decide
theorem unF_lt {n : Nat} {op : Int} {A : Nat} (hn : WN n) (hA : A < 2 ^ n) : unF n op A < 18446744073709551616 := by
  have h1 := tzN_le n A; have h2 := popN_le n A
  unfold unF; rcases hn with rfl | rfl <;> (repeat' split) <;> omega
theorem binF_lt {n : Nat} {op : Int} {A B : Nat} (hn : WN n) (hA : A < 2 ^ n) (hB : B < 2 ^ n) (h0 : 0 ≤ op) : binF n op A B < 2 ^ n := by
  rcases Int.lt_or_le op 7 with h | h
  · rw [← arith_cut hn h hA hB h0]; exact Nat.mod_lt _ (Nat.two_pow_pos n)
  · rw [← bits_cut hn h hA hB]; exact Nat.mod_lt _ (Nat.two_pow_pos n)
theorem binV_lt {n : Nat} {op : Int} {A B : Nat} (hn : WN n) (hA : A < 2 ^ n) (hB : B < 2 ^ n) (h0 : 0 ≤ op) : binV n op A B < 18446744073709551616 := by
  have := binF_lt hn hA hB h0
  unfold binV
  split
  · exact lt64 hn this
  · decide
theorem extF_lt {f t : Nat} {s : Prop} [Decidable s] {a : Nat} (hf : f = 8 ∨ f = 16 ∨ f = 32) (ht : t = 32 ∨ t = 64) : extF f t s a < 18446744073709551616 := by
  unfold extF
  rcases hf with rfl | rfl | rfl <;> rcases ht with rfl | rfl <;> split <;> omega
theorem oneC_lt {c : Int} {a v : Nat} (h : oneC c a = some v) : v < 18446744073709551616 := by
  have m32 := Nat.mod_lt a (Nat.two_pow_pos 32)
  have m64 := Nat.mod_lt a (Nat.two_pow_pos 64)
  unfold oneC at h
  by_cases c0 : c = 69
  · rw [if_pos c0] at h; obtain rfl := Option.some.inj h; exact unF_lt (.inl rfl) m32
  rw [if_neg c0] at h
  by_cases c1 : c = 80
  · rw [if_pos c1] at h; obtain rfl := Option.some.inj h; exact unF_lt (.inr rfl) m64
  rw [if_neg c1] at h
  by_cases c2 : 103 ≤ c ∧ c ≤ 105
  · rw [if_pos c2] at h; obtain rfl := Option.some.inj h; exact unF_lt (.inl rfl) m32
  rw [if_neg c2] at h
  by_cases c3 : 121 ≤ c ∧ c ≤ 123
  · rw [if_pos c3] at h; obtain rfl := Option.some.inj h; exact unF_lt (.inr rfl) m64
  rw [if_neg c3] at h
  by_cases c4 : c = 167
  · rw [if_pos c4] at h; obtain rfl := Option.some.inj h; omega
  rw [if_neg c4] at h
  by_cases c5 : c = 172
  · rw [if_pos c5] at h; obtain rfl := Option.some.inj h; exact extF_lt (by decide) (by decide)
  rw [if_neg c5] at h
  by_cases c6 : c = 173
  · rw [if_pos c6] at h; obtain rfl := Option.some.inj h; exact extF_lt (by decide) (by decide)
  rw [if_neg c6] at h
  by_cases c7 : c = 192
  · rw [if_pos c7] at h; obtain rfl := Option.some.inj h; exact extF_lt (by decide) (by decide)
  rw [if_neg c7] at h
  by_cases c8 : c = 193
  · rw [if_pos c8] at h; obtain rfl := Option.some.inj h; exact extF_lt (by decide) (by decide)
  rw [if_neg c8] at h
  by_cases c9 : c = 194
  · rw [if_pos c9] at h; obtain rfl := Option.some.inj h; exact extF_lt (by decide) (by decide)
  rw [if_neg c9] at h
  by_cases c10 : c = 195
  · rw [if_pos c10] at h; obtain rfl := Option.some.inj h; exact extF_lt (by decide) (by decide)
  rw [if_neg c10] at h
  by_cases c11 : c = 196
  · rw [if_pos c11] at h; obtain rfl := Option.some.inj h; exact extF_lt (by decide) (by decide)
  rw [if_neg c11] at h
  cases h
theorem twoV_lt {c : Int} {a b : Nat} : twoV c a b < 18446744073709551616 := by
  unfold twoV
  split
  · exact Nat.lt_trans testF_lt (by decide)
  split
  · exact Nat.lt_trans testF_lt (by decide)
  split
  · exact binV_lt (.inl rfl) (Nat.mod_lt _ (Nat.two_pow_pos 32)) (Nat.mod_lt _ (Nat.two_pow_pos 32)) (by omega)
  split
  · exact binV_lt (.inr rfl) (Nat.mod_lt _ (Nat.two_pow_pos 64)) (Nat.mod_lt _ (Nat.two_pow_pos 64)) (by omega)
  decide
theorem oneC_neg {a : Nat} : oneC (-1) a = none := by unfold oneC; rfl
theorem twoOk_neg {a b : Nat} : ¬ twoOk (-1) a b := by unfold twoOk; simp
def stopP (c : Int) : Prop := ((c = 0 ∨ c = 12) ∨ c = 14) ∨ c = 15
def boundP (c : Int) : Prop := (2 ≤ c ∧ c ≤ 5) ∨ c = 11
instance (c : Int) : Decidable (stopP c) := by unfold stopP; infer_instance
instance (c : Int) : Decidable (boundP c) := by unfold boundP; infer_instance
def cutL (l : List InstrD) (at_ n : Nat) (ins : List InstrD) : List InstrD := l.take at_ ++ ins ++ l.drop (at_ + n)
abbrev gI (l : List InstrD) (i : Nat) : InstrD := l.getD i noI
theorem gI_at {l : List InstrD} {i : Nat} {x : InstrD} (h : l[i]? = some x) : gI l i = x := by unfold gI; rw [List.getD_eq_getElem?_getD, h]; rfl
theorem gI_out {l : List InstrD} {i : Nat} (h : l.length ≤ i) : gI l i = noI := by unfold gI; rw [List.getD_eq_getElem?_getD, List.getElem?_eq_none h]; rfl
abbrev Stp := Nat × Nat × List InstrD
open Classical in
noncomputable def stK (x y z : InstrD) (more : Prop) : Nat → Option (Nat × List InstrD)
  | 0 => if x.Code = 1 then some (1, []) else none
  | 1 => if isC x then (oneC y.Code x.A.toNat).map fun v => (2, [mkI (outC y.Code) v]) else none
  | 2 => if (isC x ∧ isC y) ∧ twoOk z.Code x.A.toNat y.A.toNat then some (3, [mkI (outC z.Code) (twoV z.Code x.A.toNat y.A.toNat)]) else none
  | 3 => if y.Code = 26 ∧ (isC x ∨ x.Code = 32 ∨ x.Code = 35) then some (2, []) else none
  | 4 => if (x.Code = 33 ∧ y.Code = 32) ∧ x.A = y.A then some (2, [⟨34, x.A, 0, 0, []⟩]) else none
  | 5 => if (stopP x.Code ∧ more) ∧ ¬ boundP y.Code then some (2, [x]) else none
  | _ => none
noncomputable def stF (x y z : InstrD) (more : Prop) : Nat → Stp
  | 0 => (0, 0, [])
  | k + 1 => if (stF x y z more k).2.1 = 0 then (match stK x y z more k with | some (n, ins) => (n, k + 1, ins) | none => stF x y z more k) else stF x y z more k
noncomputable def fK (l : List InstrD) (i k : Nat) : Option (List InstrD) := (stK (gI l i) (gI l (i + 1)) (gI l (i + 2)) (i + 1 < l.length) k).map fun p => cutL l i p.1 p.2
noncomputable def stepAtK (l : List InstrD) (i : Nat) : Nat → Option (List InstrD × Nat)
  | 0 => none
  | k + 1 => match stepAtK l i k with
    | some r => some r
    | none => (fK l i k).map fun r => (r, k + 1)
noncomputable def stepAt (l : List InstrD) (i : Nat) : Option (List InstrD × Nat) := stepAtK l i 6
noncomputable def stepK (l : List InstrD) : Nat → Option (List InstrD × Nat)
  | 0 => none
  | k + 1 => match stepK l k with
    | some r => some r
    | none => stepAt l k
noncomputable def stepL (l : List InstrD) : Option (List InstrD × Nat) := stepK l l.length
theorem stepAtK_no {l : List InstrD} {i k : Nat} (h : stepAtK l i k = none) (hf : fK l i k = none) : stepAtK l i (k + 1) = none := by simp only [stepAtK, h, hf]; rfl
theorem stepAtK_yes {l r : List InstrD} {i k : Nat} (h : stepAtK l i k = none) (hf : fK l i k = some r) : stepAtK l i (k + 1) = some (r, k + 1) := by simp only [stepAtK, h, hf]; rfl
theorem stepAtK_stay {l : List InstrD} {i k : Nat} {r : List InstrD × Nat} (h : stepAtK l i k = some r) : ∀ j, k ≤ j → stepAtK l i j = some r := by
  intro j hj
  obtain ⟨d, rfl⟩ : ∃ d, j = k + d := ⟨j - k, by omega⟩
  clear hj
  induction d with
  | zero => exact h
  | succ d ih => show stepAtK l i (k + d + 1) = _; simp only [stepAtK, ih]
theorem stepK_stay {l : List InstrD} {k : Nat} {r : List InstrD × Nat} (h : stepK l k = some r) : ∀ j, k ≤ j → stepK l j = some r := by
  intro j hj
  obtain ⟨d, rfl⟩ : ∃ d, j = k + d := ⟨j - k, by omega⟩
  clear hj
  induction d with
  | zero => exact h
  | succ d ih => show stepK l (k + d + 1) = _; simp only [stepK, ih]
theorem stepL_at {l : List InstrD} {i : Nat} {r : List InstrD × Nat} (h : stepK l i = none) (hi : i < l.length) (hr : stepAt l i = some r) : stepL l = some r :=
  stepK_stay (show stepK l (i + 1) = some r by simp only [stepK, h, hr]) _ hi
theorem stepK_next {l : List InstrD} {i : Nat} (h : stepK l i = none) (hr : stepAt l i = none) : stepK l (i + 1) = none := by simp only [stepK, h, hr]
theorem stepAtK_none {l : List InstrD} {i : Nat} : ∀ k, (∀ j, j < k → fK l i j = none) → stepAtK l i k = none
  | 0, _ => rfl
  | k + 1, h => stepAtK_no (stepAtK_none k fun j hj => h j (by omega)) (h k (by omega))
theorem stK_ok {x y z : InstrD} {more : Prop} (hx : okI x) : ∀ k n ins, stK x y z more k = some (n, ins) → (∀ w ∈ ins, okI w ∧ (w.L = [] ∨ w = x)) ∧ ins.length < n ∧ n ≤ 3
  | 0, n, ins, h => by simp only [stK] at h; split at h <;> cases h; exact ⟨fun w hw => (by cases hw), by simp, by omega⟩
  | 1, n, ins, h => by
    simp only [stK] at h
    split at h
    · cases ho : oneC y.Code x.A.toNat with
      | none => rw [ho] at h; cases h
      | some v =>
        rw [ho] at h; cases h
        refine ⟨fun w hw => ?_, by simp, by omega⟩
        obtain rfl := List.mem_singleton.1 hw
        exact ⟨mkI_ok (oneC_lt ho), .inl rfl⟩
    · cases h
  | 2, n, ins, h => by
    simp only [stK] at h
    split at h <;> cases h
    refine ⟨fun w hw => ?_, by simp, by omega⟩
    obtain rfl := List.mem_singleton.1 hw
    exact ⟨mkI_ok twoV_lt, .inl rfl⟩
  | 3, n, ins, h => by simp only [stK] at h; split at h <;> cases h; exact ⟨fun w hw => (by cases hw), by simp, by omega⟩
  | 4, n, ins, h => by
    simp only [stK] at h
    split at h <;> cases h
    refine ⟨fun w hw => ?_, by simp, by omega⟩
    obtain rfl := List.mem_singleton.1 hw
    exact ⟨hx, .inl rfl⟩
  | 5, n, ins, h => by
    simp only [stK] at h
    split at h <;> cases h
    refine ⟨fun w hw => ?_, by simp, by omega⟩
    obtain rfl := List.mem_singleton.1 hw
    exact ⟨hx, .inr rfl⟩
  | k + 6, n, ins, h => by cases h
theorem stK_room {l : List InstrD} {i k n : Nat} {ins : List InstrD} (hi : i < l.length) (h : stK (gI l i) (gI l (i + 1)) (gI l (i + 2)) (i + 1 < l.length) k = some (n, ins)) : i + n ≤ l.length := by
  have hy : ¬ i + 1 < l.length → gI l (i + 1) = noI := fun h => gI_out (by omega)
  have hz : ¬ i + 2 < l.length → gI l (i + 2) = noI := fun h => gI_out (by omega)
  match k, h with
  | 0, h => simp only [stK] at h; split at h <;> cases h; omega
  | 1, h =>
    simp only [stK] at h
    by_cases h1 : i + 1 < l.length
    · split at h
      · cases ho : oneC (gI l (i + 1)).Code (gI l i).A.toNat <;> rw [ho] at h <;> cases h; omega
      · cases h
    · rw [hy h1] at h
      have : oneC noI.Code (gI l i).A.toNat = none := oneC_neg
      rw [this] at h; split at h <;> cases h
  | 2, h =>
    simp only [stK] at h
    by_cases h1 : i + 2 < l.length
    · split at h <;> cases h; omega
    · rw [hz h1] at h
      rw [if_neg (fun h' => twoOk_neg h'.2)] at h; cases h
  | 3, h =>
    simp only [stK] at h
    by_cases h1 : i + 1 < l.length
    · split at h <;> cases h; omega
    · rw [hy h1, if_neg (fun h' => absurd h'.1 (by decide))] at h; cases h
  | 4, h =>
    simp only [stK] at h
    by_cases h1 : i + 1 < l.length
    · split at h <;> cases h; omega
    · rw [hy h1, if_neg (fun h' => absurd h'.1.2 (by decide))] at h; cases h
  | 5, h =>
    simp only [stK] at h
    split at h
    · rename_i h1; cases h; have := h1.1.2; omega
    · cases h
  | k + 6, h => cases h
structure SmL (l : List InstrD) (n : Nat) : Prop where
  len : l.length ≤ n
  ok : ∀ x ∈ l, okI x
  small : ∀ x ∈ l, x.L.length ≤ 65536
theorem SmL.gI {l : List InstrD} {n i : Nat} (h : SmL l n) : okI (gI l i) := by
  by_cases hi : i < l.length
  · rw [gI_at (List.getElem?_eq_getElem hi)]; exact h.ok _ (List.getElem_mem hi)
  · rw [gI_out (by omega)]; exact ⟨by decide, by decide⟩
theorem fK_less {l r : List InstrD} {i k m : Nat} (hl : SmL l m) (hi : i < l.length) (h : fK l i k = some r) : r.length < l.length ∧ SmL r m := by
  unfold fK at h
  cases hs : stK (gI l i) (gI l (i + 1)) (gI l (i + 2)) (i + 1 < l.length) k with
  | none => rw [hs] at h; cases h
  | some p =>
    obtain ⟨n, ins⟩ := p
    rw [hs] at h; cases h
    obtain ⟨h1, h2, h3⟩ := stK_ok hl.gI k n ins hs
    have h4 := stK_room hi hs
    have hlen : (cutL l i n ins).length < l.length := by
      unfold cutL; simp only [List.length_append, List.length_take, List.length_drop]; omega
    have hm : ∀ w ∈ cutL l i n ins, w ∈ ins ∨ w ∈ l := fun w hw => by
      unfold cutL at hw
      rcases List.mem_append.1 hw with hw | hw
      · rcases List.mem_append.1 hw with hw | hw
        · exact .inr (List.mem_of_mem_take hw)
        · exact .inl hw
      · exact .inr (List.mem_of_mem_drop hw)
    have hg : gI l i ∈ l := by rw [gI_at (List.getElem?_eq_getElem hi)]; exact List.getElem_mem hi
    refine ⟨hlen, by have := hl.len; show (cutL l i n ins).length ≤ m; omega, fun w hw => ?_, fun w hw => ?_⟩
    · rcases hm w hw with h | h
      · exact (h1 w h).1
      · exact hl.ok w h
    · rcases hm w hw with h | h
      · rcases (h1 w h).2 with e | e
        · rw [e]; simp
        · rw [e]; exact hl.small _ hg
      · exact hl.small w h
theorem stepAtK_inv {l : List InstrD} {i : Nat} : ∀ k r, stepAtK l i k = some r → ∃ j, j < k ∧ fK l i j = some r.1 ∧ r.2 = j + 1
  | 0, r, h => by cases h
  | k + 1, r, h => by
    simp only [stepAtK] at h
    cases hk : stepAtK l i k with
    | some r' => rw [hk] at h; cases h; obtain ⟨j, j1, j2, j3⟩ := stepAtK_inv k _ hk; exact ⟨j, by omega, j2, j3⟩
    | none =>
      rw [hk] at h
      cases hf : fK l i k with
      | none => rw [hf] at h; cases h
      | some q => rw [hf] at h; cases h; exact ⟨k, by omega, hf, rfl⟩
theorem stepK_inv {l : List InstrD} : ∀ k r, stepK l k = some r → ∃ i, i < k ∧ stepAt l i = some r
  | 0, r, h => by cases h
  | k + 1, r, h => by
    simp only [stepK] at h
    cases hk : stepK l k with
    | some r' => rw [hk] at h; cases h; obtain ⟨j, j1, j2⟩ := stepK_inv k _ hk; exact ⟨j, by omega, j2⟩
    | none => rw [hk] at h; exact ⟨k, by omega, h⟩
theorem stepL_less {l r : List InstrD} {n m : Nat} (hl : SmL l m) (h : stepL l = some (r, n)) : r.length < l.length ∧ SmL r m ∧ 0 < n := by
  obtain ⟨i, hi, hr⟩ := stepK_inv _ _ h
  obtain ⟨j, j1, j2, j3⟩ := stepAtK_inv _ _ hr
  obtain ⟨h1, h2⟩ := fK_less hl hi j2
  exact ⟨h1, h2, by simp at j3; omega⟩
noncomputable def bodyF : Nat → List InstrD → List InstrD
  | 0, l => l
  | k + 1, l => match stepL l with
    | some (r, _) => bodyF k r
    | none => l
noncomputable def bodyL (l : List InstrD) : List InstrD := bodyF (l.length + 1) l
theorem bodyF_more {m : Nat} : ∀ (k : Nat) (l : List InstrD), SmL l m → l.length < k → ∀ j, k ≤ j → bodyF j l = bodyF k l
  | 0, l, _, h, _, _ => absurd h (by omega)
  | k + 1, l, hl, h, j, hj => by
    obtain ⟨j, rfl⟩ : ∃ i, j = i + 1 := ⟨j - 1, by omega⟩
    simp only [bodyF]
    cases hs : stepL l with
    | none => rfl
    | some p =>
      obtain ⟨r, n⟩ := p
      obtain ⟨h1, h2, _⟩ := stepL_less hl hs
      exact bodyF_more k r h2 (by omega) j (by omega)
theorem bodyL_none {l : List InstrD} (h : stepL l = none) : bodyL l = l := by unfold bodyL bodyF; rw [h]
theorem bodyL_some {l r : List InstrD} {n m : Nat} (hl : SmL l m) (h : stepL l = some (r, n)) : bodyL l = bodyL r := by
  obtain ⟨h1, h2, _⟩ := stepL_less hl h
  have e : bodyL l = bodyF l.length r := by unfold bodyL; simp only [bodyF, h]
  rw [e]; exact bodyF_more _ r h2 (by omega) _ (by omega)
noncomputable def stepR (l : List InstrD) : List InstrD × Nat := (stepL l).getD (l, 0)
end Go.Hl
end
section
namespace Go.Hl
open Go.RowKit
section
variable {P : Program} {hs : List HP} {env : Env} {q : VP} {dst : Option Tmp} {ty T T' E : TypeId} {pos : String} {after : Array Edge} {gd : Option (Nat × Bool)} {x y z : Operand}
theorem OpP.leH {o : Oper} {q' : VP} (h : OpP P hs env o q) (hq : ∀ F S w v, Own hs F S w → q.p S w v → q'.p S w v) : OpP P hs env o q' :=
  fun a w S F h1 h2 h3 h4 h5 K Q hk => h a w S F h1 h2 h3 h4 h5 K Q fun v w' S' g hv => hk v w' S' g (hq F _ _ _ (g.owns h1 h2 h4) hv)
theorem funV_dup {A : Type} {ok : A → Prop} {arg : A → List VP} {res : A → VP} {f : FuncId} {vh : HP} [dv : DupH vh] (hcb : callB P f = true) (hf : ∀ a, ok a → FnE P f (arg a) [vh] (γ := Unit) (fun _ => True) (fun _ => []) (fun _ => res a)) {F S : BS} {w : World} (hv : vh.p F S w) :
    (funV P ok arg res).p S w (.func (.func f) #[] #[]) := by
  refine ⟨f, _, _, rfl, hcb, fun S' w' g1 g2 g3 a ha vs hvs => ?_⟩
  have hv' : vh.p (fun _ => False) S' w' := vh.mono (fun _ h => h) g1 (fun _ h => h.elim) g2 (dv.dup hv)
  have h := hf a ha w' S' (fun _ => False) (#[] ++ vs.toArray ++ #[]) g3 (fun _ h => h.elim) (fun _ _ h => h) ⟨fun _ => False, fun _ => False, fun _ h => h.elim, fun _ h => h.elim, hv', trivial⟩ (by simpa using hvs)
  refine h.mono ?_
  rintro e w'' ⟨v, S'', F'', _, rfl, hsit, _, _, hq⟩
  exact ⟨v, S'', F'', rfl, hsit, hq⟩
theorem funV_pure {A : Type} {ok : A → Prop} {arg : A → List VP} {res : A → VP} {f : FuncId} (hcb : callB P f = true) (hf : ∀ a, ok a → FnP P f (arg a) (res a)) (S : BS) (w : World) :
    (funV P ok arg res).p S w (.func (.func f) #[] #[]) := funV_of hcb hf S w _ rfl
theorem opAppendMk {α : Type} {n N by_ : Nat} {i : Int} {k : IntKind} {enc : α → List VP} {zs : List Value} (hT : P.underlying T = some (.slice E)) (hT2 : P.underlying T' = some (.int k)) (hn : P.cellsOf E = N) (h0 : Nat.blt 0 N = true)
    (hz : zeroB P E = some zs) (hzl : zs.length = N) (hb : P.bytesOf E = by_) (hx : Opd env x (exactV (.slice none 0 0))) (hy : Opd env y (intV .i64 i)) (hi : i = (n : Int)) (hn1 : 0 < n) (hroom : (2 * n + 256) * by_ ≤ 281474976710656) (hlen : n ≤ 281474976710656) :
    OpE P hs env ⟨dst, .call ⟨.builtin .append, #[x, y], #[T, T']⟩, ty, pos, after, gd⟩ (γ := Nat × Nat) (fun _ => True) (fun g => sliceH (some g) N enc ([] : List α) :: hs) (fun g => exactV (sval (some g) n)) := by
  intro c a w S F hsit hown hev K Q hk
  have hv := hx S w a hev; simp only [exactV] at hv
  have hyv := hy S w a hev; simp only [exactV] at hyv
  subst hi
  have hsz := run_sizeOf hn h0 w
  obtain ⟨info, hi1, hi2⟩ := run_typeInfo' hn h0 w
  have hbytes : info.bytes = by_ := hi2.trans hb
  have hw : IntKind.i64.wrap (n : Int) = (n : Int) := wrap_fits (fits_i64 (by omega) (by omega))
  have hnn : ¬ ((n : Int) < 0) := by omega
  have hns := nextslicecap_le (need := n) (cap := 0) (by omega)
  have hcapB : Builtin.nextslicecap n 0 * by_ ≤ 281474976710656 := Nat.le_trans (Nat.mul_le_mul_right _ hns) hroom
  obtain ⟨zv', hz1', hz2'⟩ := run_zero hz w.drew
  obtain ⟨info', hi1', hi2'⟩ := run_typeInfo' hn h0 w.drew
  generalize hcut : Question.cut (.appendCap n 0 E) (w.tape w.drawn (.appendCap n 0 E)) = newCap
  have hge : n ≤ newCap := by rw [← hcut]; simp only [Question.cut]; omega
  have hN0 : 0 < N := by simpa using h0
  have hnN : ¬ (n * N = 0) := Nat.mul_ne_zero (by omega) (by omega)
  let row : Array Value := Builtin.zeroCells zv'.cells n ++ Builtin.zeroCells zv'.cells (newCap - n)
  have hr : (execOp a.eval ⟨dst, .call ⟨.builtin .append, #[x, y], #[T, T']⟩, ty, pos, after, gd⟩).run P w = .ok (.value (.slice (some ⟨w.heap.size, 0, none⟩) n newCap)) (w.drew.alloc (.cells row E)) := by
    have hnot : ¬ (n ≤ 0) := by omega
    have hn0 : ¬ (n = 0) := by omega
    have hNn0 : ¬ (N = 0) := by omega
    have hbig : ¬ ((9223372036854775807 : Int) < (n : Int)) := by omega
    have hbig2 : ¬ (281474976710656 < Builtin.nextslicecap n 0 * by_) := by omega
    have hnb : n * by_ ≤ 281474976710656 := Nat.le_trans (Nat.mul_le_mul_right _ (by omega)) hroom
    have hbig3 : ¬ ((281474976710656 : Int) < (n : Int) * (by_ : Int)) := by rw [← Int.natCast_mul]; omega
    have hvx2' : (Builtin.firstCells N 0 (.slice none 0 0)).run P w.drew = .ok #[] w.drew := by simp [Builtin.firstCells]
    simp [execOp, resolve, invoke, builtin, Builtin.append_, hv, hyv, run_underlying hT, run_underlying hT2, hsz, asInt, asIntOf, hw, hnn, hn0, hNn0, hbig, hi1, hbytes, hbig2, hbig3, hnN, Question.forced, hcut, hi1', hvx2', hz1', newRow, row]
    done
  generalize hw' : w.drew.alloc (.cells row E) = w' at hr
  unfold Oper.wp
  rw [hr]
  have hs1 : Sit c w.drew S F := hsit.grow (Grow.drew w S)
  have ho1 : Own hs F S w.drew := (Grow.drew w S).owns hsit.domS hsit.domF hown
  subst hw'
  refine hk (w.heap.size, newCap) _ _ S _ trivial (hs1.newOwn _) (fun _ h => h) (fun k hk => heap_push_old w _ k (hsit.domS k hk)) (ho1.newOwn hsit.domS hsit.domF _ ⟨rfl, Nat.zero_le _, by simp, row, E, by show (w.heap.push _)[w.heap.size]? = _; simp, ?_, fun j q h => by simp at h⟩) rfl
  simp only [row, Array.size_append]
  have hsz0 : ∀ m, (Builtin.zeroCells zv'.cells m).size = m * N := fun m => by rw [hz2']; simp [Builtin.zeroCells, hzl]
  rw [hsz0, hsz0, ← Nat.add_mul, Nat.add_sub_cancel' hge]
theorem opSliceOwn0 {b cap len N : Nat} {i : Int} (hT : P.underlying T = some (.slice E)) (hn : P.cellsOf E = N) (h0 : Nat.blt 0 N = true) (hx : Opd env x (exactV (sval (some (b, cap)) len))) (hy : Opd env y (intV .i64 i)) (hi : i = 0) :
    OpP P hs env ⟨dst, .slice T x none (some y) none, ty, pos, after, gd⟩ (exactV (sval (some (b, cap)) 0)) :=
  OpP.of_read fun ρ w S F _ he => by
    have hv := he.o _ _ hx; have h2 := he.o _ _ hy; simp only [exactV, sval] at hv h2
    subst hi
    have hs := run_sizeOf (T := E) hn h0 w
    refine ⟨.slice (some ⟨b, 0, none⟩) 0 cap, ?_, rfl⟩
    simp [execOp, hv, h2, Instr.sliceAt, Instr.slice, Instr.sliceBounds, Instr.sliceBound, asIntOf, run_underlying hT, hs, Addr.add]
def encSl (l : List InstrD) : List VP := [sliceV 5 encInstr l]
instance : Enc 1 encSl := ⟨fun _ => rfl, fun x q h => by simp only [encSl, List.mem_cons, List.not_mem_nil, or_false] at h; subst h; infer_instance⟩
theorem opCapN {ats : Array TypeId} (hat : ats[0]? = some T) (hT : P.underlying T = some (.slice E)) (hx : Opd env x (exactV (.slice none 0 0))) : OpP P hs env ⟨dst, .call ⟨.builtin .cap, #[x], ats⟩, ty, pos, after, gd⟩ (intV .i64 0) :=
  OpP.of_read fun ρ w S F _ he => by
    have hv := he.o _ _ hx; simp only [exactV] at hv
    exact ⟨_, by simp [execOp, resolve, invoke, builtin, Builtin.cap_, hat, hv, run_underlying hT, goInt], rfl⟩
theorem flat_snoc {α : Type} {ls : List (List α)} {k : Nat} {l : List α} (h : ls[k]? = some l) : (ls.take (k + 1)).flatten = (ls.take k).flatten ++ l := by
  rw [List.take_add_one, h]; simp
theorem flat_part {α : Type} (ls : List (List α)) (k : Nat) : (ls.take k).flatten.length ≤ ls.flatten.length := by
  have h : (ls.take k).flatten ++ (ls.drop k).flatten = ls.flatten := by rw [← List.flatten_append, List.take_append_drop]
  have := congrArg List.length h
  rw [List.length_append] at this; omega
end
end Go.Hl
end
section
namespace Go.Hl
open Go.RowKit
section
variable {P : Program} {hs : List HP} {env : Env} {q : VP} {dst : Option Tmp} {ty T T' E : TypeId} {pos : String} {after : Array Edge} {gd : Option (Nat × Bool)} {x y z : Operand}
theorem opSliceNil0 {N : Nat} {i : Int} (hT : P.underlying T = some (.slice E)) (hn : P.cellsOf E = N) (h0 : Nat.blt 0 N = true) (hx : Opd env x (exactV (.slice none 0 0))) (hy : Opd env y (intV .i64 i)) (hi : i = 0) :
    OpP P hs env ⟨dst, .slice T x none (some y) none, ty, pos, after, gd⟩ (exactV (.slice none 0 0)) :=
  OpP.of_read fun ρ w S F _ he => by
    have hv := he.o _ _ hx; have h2 := he.o _ _ hy; simp only [exactV] at hv h2
    subst hi
    have hs := run_sizeOf (T := E) hn h0 w
    refine ⟨.slice none 0 0, ?_, rfl⟩
    simp [execOp, hv, h2, Instr.sliceAt, Instr.slice, Instr.sliceBounds, Instr.sliceBound, asIntOf, run_underlying hT, hs]
end
theorem get0 {l : List UInt8} (h : (l.length : Int) = 1) : l[0]? = some (l.getD 0 0) := by
  match l, h with
  | [x], _ => rfl
theorem gives1 {l : List UInt8} : ((l.length : Int) = 1 ∧ ((l.getD 0 0).toNat : Int) = 126) ↔ l = [126] := by
  constructor
  · rintro ⟨h1, h2⟩
    match l, h1, h2 with
    | [x], _, h2 =>
      simp at h2
      have : x = 126 := UInt8.toNat_inj.1 (by show x.toNat = 126; omega)
      rw [this]
  · rintro rfl; exact ⟨rfl, rfl⟩
def numF (c : Int) : Option (Int × Int × Int) :=
  if c = 69 then some (2, 3, 32) else if 70 ≤ c ∧ c ≤ 79 then some (1, c - 70, 32) else if c = 80 then some (2, 3, 64) else if 81 ≤ c ∧ c ≤ 90 then some (1, c - 81, 64)
  else if 103 ≤ c ∧ c ≤ 105 then some (2, c - 103, 32) else if 106 ≤ c ∧ c ≤ 120 then some (0, c - 106, 32) else if 121 ≤ c ∧ c ≤ 123 then some (2, c - 121, 64) else if 124 ≤ c ∧ c ≤ 138 then some (0, c - 124, 64) else none
theorem find_cons {α : Type} {p : α → Bool} {a : α} {l : List α} : (a :: l).find? p = if p a = true then some a else l.find? p := by
  simp only [List.find?]; cases p a <;> rfl
theorem num_eq (c : Int) : numO c = numF c := by
  unfold numO numF spansT
  simp only [find_cons, inSpan, decide_eq_true_eq, List.find?_nil]
  by_cases h0 : c = 69
  · rw [if_pos (by omega), if_pos h0]; subst h0; rfl
  rw [if_neg (by omega), if_neg h0]
  by_cases h1 : 70 ≤ c ∧ c ≤ 79
  · rw [if_pos (by omega), if_pos h1]; simp
  rw [if_neg (by omega), if_neg h1]
  by_cases h2 : c = 80
  · rw [if_pos (by omega), if_pos h2]; subst h2; rfl
  rw [if_neg (by omega), if_neg h2]
  by_cases h3 : 81 ≤ c ∧ c ≤ 90
  · rw [if_pos (by omega), if_pos h3]; simp
  rw [if_neg (by omega), if_neg h3]
  by_cases h4 : 103 ≤ c ∧ c ≤ 105
  · rw [if_pos (by omega), if_pos h4]; simp
  rw [if_neg (by omega), if_neg h4]
  by_cases h5 : 106 ≤ c ∧ c ≤ 120
  · rw [if_pos (by omega), if_pos h5]; simp
  rw [if_neg (by omega), if_neg h5]
  by_cases h6 : 121 ≤ c ∧ c ≤ 123
  · rw [if_pos (by omega), if_pos h6]; simp
  rw [if_neg (by omega), if_neg h6]
  by_cases h7 : 124 ≤ c ∧ c ≤ 138
  · rw [if_pos (by omega), if_pos h7]; simp
  rw [if_neg (by omega), if_neg h7]; rfl
def xfA (c : Int) : Nat := if c = 172 ∨ c = 173 then 32 else if c = 192 then 8 else if c = 193 then 16 else if c = 194 then 8 else if c = 195 then 16 else if c = 196 then 32 else 0
def xfB (c : Int) : Nat := if c = 172 ∨ c = 173 then 64 else if c = 192 ∨ c = 193 then 32 else if c = 194 ∨ c = 195 ∨ c = 196 then 64 else 0
def xfS (c : Int) : Prop := if c = 172 ∨ c = 173 then c = 172 else if c = 192 ∨ c = 193 then True else if c = 194 ∨ c = 195 ∨ c = 196 then True else False
instance (c : Int) : Decidable (xfS c) := by unfold xfS; infer_instance
theorem ext_codes {c : Int} (h : (0 : Int) < (xfA c : Int)) : c = 172 ∨ c = 173 ∨ c = 192 ∨ c = 193 ∨ c = 194 ∨ c = 195 ∨ c = 196 := by
  unfold xfA at h
  by_cases h1 : c = 172 ∨ c = 173
  · omega
  rw [if_neg h1] at h
  by_cases h2 : c = 192
  · omega
  rw [if_neg h2] at h
  by_cases h3 : c = 193
  · omega
  rw [if_neg h3] at h
  by_cases h4 : c = 194
  · omega
  rw [if_neg h4] at h
  by_cases h5 : c = 195
  · omega
  rw [if_neg h5] at h
  by_cases h6 : c = 196
  · omega
  rw [if_neg h6] at h
  exact absurd h (by decide)
theorem ext_ok {c : Int} (h : (0 : Int) < (xfA c : Int)) : (xfA c = 8 ∨ xfA c = 16 ∨ xfA c = 32) ∧ (xfB c = 32 ∨ xfB c = 64) := by
  rcases ext_codes h with rfl | rfl | rfl | rfl | rfl | rfl | rfl <;> decide
theorem one_ext {c : Int} {a : Nat} (h : (0 : Int) < (xfA c : Int)) : oneC c a = some (extF (xfA c) (xfB c) (xfS c) a) := by
  have key : ∀ {f t f' t' : Nat} {s s' : Prop} [Decidable s] [Decidable s'], f = f' → t = t' → (s ↔ s') → some (extF f t s a) = some (extF f' t' s' a) := by
    intro f t f' t' s s' _ _ h1 h2 h3
    subst h1; subst h2; unfold extF; simp only [h3]
  rcases ext_codes h with rfl | rfl | rfl | rfl | rfl | rfl | rfl
  · show some (extF 32 64 True a) = _; exact key (by decide) (by decide) (by decide)
  · show some (extF 32 64 False a) = _; exact key (by decide) (by decide) (by decide)
  · show some (extF 8 32 True a) = _; exact key (by decide) (by decide) (by decide)
  · show some (extF 16 32 True a) = _; exact key (by decide) (by decide) (by decide)
  · show some (extF 8 64 True a) = _; exact key (by decide) (by decide) (by decide)
  · show some (extF 16 64 True a) = _; exact key (by decide) (by decide) (by decide)
  · show some (extF 32 64 True a) = _; exact key (by decide) (by decide) (by decide)
theorem ext_no {c : Int} (h : ¬ (0 : Int) < (xfA c : Int)) : ¬ (c = 172 ∨ c = 173 ∨ c = 192 ∨ c = 193 ∨ c = 194 ∨ c = 195 ∨ c = 196) := by
  rintro (rfl | rfl | rfl | rfl | rfl | rfl | rfl) <;> exact h (by decide)
theorem one_num {c n b : Int} {a : Nat} (h : numO c = some (2, n, b)) : (b = 32 ∨ b = 64) ∧ (0 ≤ n ∧ n < 4) ∧ oneC c a = some (unF b.toNat n (a % 2 ^ b.toNat)) := by
  rw [num_eq] at h
  unfold numF at h
  by_cases h0 : c = 69
  · rw [if_pos h0] at h; obtain ⟨_, rfl, rfl⟩ : 2 = (2 : Int) ∧ 3 = n ∧ 32 = b := by simpa using h
    subst h0; exact ⟨.inl rfl, by decide, rfl⟩
  rw [if_neg h0] at h
  by_cases h1 : 70 ≤ c ∧ c ≤ 79
  · rw [if_pos h1] at h; simp at h
  rw [if_neg h1] at h
  by_cases h2 : c = 80
  · rw [if_pos h2] at h; obtain ⟨_, rfl, rfl⟩ : 2 = (2 : Int) ∧ 3 = n ∧ 64 = b := by simpa using h
    subst h2; exact ⟨.inr rfl, by decide, rfl⟩
  rw [if_neg h2] at h
  by_cases h3 : 81 ≤ c ∧ c ≤ 90
  · rw [if_pos h3] at h; simp at h
  rw [if_neg h3] at h
  by_cases h4 : 103 ≤ c ∧ c ≤ 105
  · rw [if_pos h4] at h; obtain ⟨_, rfl, rfl⟩ : 2 = (2 : Int) ∧ c - 103 = n ∧ 32 = b := by simpa using h
    refine ⟨.inl rfl, by omega, ?_⟩
    unfold oneC; rw [if_neg h0, if_neg h2, if_pos h4]; rfl
  rw [if_neg h4] at h
  by_cases h5 : 106 ≤ c ∧ c ≤ 120
  · rw [if_pos h5] at h; simp at h
  rw [if_neg h5] at h
  by_cases h6 : 121 ≤ c ∧ c ≤ 123
  · rw [if_pos h6] at h; obtain ⟨_, rfl, rfl⟩ : 2 = (2 : Int) ∧ c - 121 = n ∧ 64 = b := by simpa using h
    refine ⟨.inr rfl, by omega, ?_⟩
    unfold oneC; rw [if_neg h0, if_neg h2, if_neg h4, if_pos h6]; rfl
  rw [if_neg h6] at h
  by_cases h7 : 124 ≤ c ∧ c ≤ 138
  · rw [if_pos h7] at h; simp at h
  rw [if_neg h7] at h; cases h
theorem one_none {c : Int} {a : Nat} (h : ∀ n b, numO c ≠ some (2, n, b)) (h1 : ¬ c = 167) (h2 : ¬ (0 : Int) < (xfA c : Int)) : oneC c a = none := by
  have h3 := ext_no h2
  rw [num_eq] at h
  have g0 : ¬ c = 69 := fun e => h 3 32 (by subst e; rfl)
  have g2 : ¬ c = 80 := fun e => h 3 64 (by subst e; rfl)
  have g4 : ¬ (103 ≤ c ∧ c ≤ 105) := fun e => h (c - 103) 32 (by unfold numF; rw [if_neg g0, if_neg (by omega), if_neg g2, if_neg (by omega), if_pos e])
  have g6 : ¬ (121 ≤ c ∧ c ≤ 123) := fun e => h (c - 121) 64 (by unfold numF; rw [if_neg g0, if_neg (by omega), if_neg g2, if_neg (by omega), if_neg g4, if_neg (by omega), if_pos e])
  unfold oneC
  rw [if_neg g0, if_neg g2, if_neg g4, if_neg g6, if_neg h1, if_neg (by omega), if_neg (by omega), if_neg (by omega), if_neg (by omega), if_neg (by omega), if_neg (by omega), if_neg (by omega)]
theorem two_test {c n b : Int} {x y : Nat} (h : numO c = some (1, n, b)) : (b = 32 ∨ b = 64) ∧ (0 ≤ n ∧ n < 10) ∧ twoV c x y = testF b.toNat n (x % 2 ^ b.toNat) (y % 2 ^ b.toNat) ∧ twoOk c x y := by
  rw [num_eq] at h
  unfold numF at h
  by_cases h0 : c = 69
  · rw [if_pos h0] at h; simp at h
  rw [if_neg h0] at h
  by_cases h1 : 70 ≤ c ∧ c ≤ 79
  · rw [if_pos h1] at h; obtain ⟨_, rfl, rfl⟩ : 1 = (1 : Int) ∧ c - 70 = n ∧ 32 = b := by simpa using h
    refine ⟨.inl rfl, by omega, ?_, ?_⟩
    · unfold twoV; rw [if_pos h1]; rfl
    · unfold twoOk; rw [if_pos h1]; trivial
  rw [if_neg h1] at h
  by_cases h2 : c = 80
  · rw [if_pos h2] at h; simp at h
  rw [if_neg h2] at h
  by_cases h3 : 81 ≤ c ∧ c ≤ 90
  · rw [if_pos h3] at h; obtain ⟨_, rfl, rfl⟩ : 1 = (1 : Int) ∧ c - 81 = n ∧ 64 = b := by simpa using h
    refine ⟨.inr rfl, by omega, ?_, ?_⟩
    · unfold twoV; rw [if_neg h1, if_pos h3]; rfl
    · unfold twoOk; rw [if_neg h1, if_pos h3]; trivial
  rw [if_neg h3] at h
  exfalso
  by_cases h4 : 103 ≤ c ∧ c ≤ 105
  · rw [if_pos h4] at h; simp at h
  rw [if_neg h4] at h
  by_cases h5 : 106 ≤ c ∧ c ≤ 120
  · rw [if_pos h5] at h; simp at h
  rw [if_neg h5] at h
  by_cases h6 : 121 ≤ c ∧ c ≤ 123
  · rw [if_pos h6] at h; simp at h
  rw [if_neg h6] at h
  by_cases h7 : 124 ≤ c ∧ c ≤ 138
  · rw [if_pos h7] at h; simp at h
  rw [if_neg h7] at h; cases h
theorem two_bin {c n b : Int} {x y : Nat} (h : numO c = some (0, n, b)) : (b = 32 ∨ b = 64) ∧ (0 ≤ n ∧ n < 15) ∧ twoV c x y = binV b.toNat n (x % 2 ^ b.toNat) (y % 2 ^ b.toNat) ∧ (twoOk c x y ↔ trapF b.toNat n (x % 2 ^ b.toNat) (y % 2 ^ b.toNat) = 0) := by
  rw [num_eq] at h
  unfold numF at h
  by_cases h0 : c = 69
  · rw [if_pos h0] at h; simp at h
  rw [if_neg h0] at h
  by_cases h1 : 70 ≤ c ∧ c ≤ 79
  · rw [if_pos h1] at h; simp at h
  rw [if_neg h1] at h
  by_cases h2 : c = 80
  · rw [if_pos h2] at h; simp at h
  rw [if_neg h2] at h
  by_cases h3 : 81 ≤ c ∧ c ≤ 90
  · rw [if_pos h3] at h; simp at h
  rw [if_neg h3] at h
  by_cases h4 : 103 ≤ c ∧ c ≤ 105
  · rw [if_pos h4] at h; simp at h
  rw [if_neg h4] at h
  by_cases h5 : 106 ≤ c ∧ c ≤ 120
  · rw [if_pos h5] at h; obtain ⟨_, rfl, rfl⟩ : 0 = (0 : Int) ∧ c - 106 = n ∧ 32 = b := by simpa using h
    refine ⟨.inl rfl, by omega, ?_, ?_⟩
    · unfold twoV; rw [if_neg h1, if_neg h3, if_pos h5]; rfl
    · unfold twoOk; rw [if_neg h1, if_neg h3, if_pos h5]; exact Iff.rfl
  rw [if_neg h5] at h
  by_cases h6 : 121 ≤ c ∧ c ≤ 123
  · rw [if_pos h6] at h; simp at h
  rw [if_neg h6] at h
  by_cases h7 : 124 ≤ c ∧ c ≤ 138
  · rw [if_pos h7] at h; obtain ⟨_, rfl, rfl⟩ : 0 = (0 : Int) ∧ c - 124 = n ∧ 64 = b := by simpa using h
    refine ⟨.inr rfl, by omega, ?_, ?_⟩
    · unfold twoV; rw [if_neg h1, if_neg h3, if_neg h5, if_pos h7]; rfl
    · unfold twoOk; rw [if_neg h1, if_neg h3, if_neg h5, if_pos h7]; exact Iff.rfl
  rw [if_neg h7] at h; cases h
theorem two_none {c : Int} {x y : Nat} (h : ∀ n b, numO c ≠ some (1, n, b) ∧ numO c ≠ some (0, n, b)) : ¬ twoOk c x y := by
  simp only [num_eq] at h
  have e1 : ¬ (70 ≤ c ∧ c ≤ 79) := fun e => (h (c - 70) 32).1 (by unfold numF; rw [if_neg (by omega), if_pos e])
  have e3 : ¬ (81 ≤ c ∧ c ≤ 90) := fun e => (h (c - 81) 64).1 (by unfold numF; rw [if_neg (by omega), if_neg e1, if_neg (by omega), if_pos e])
  have e5 : ¬ (106 ≤ c ∧ c ≤ 120) := fun e => (h (c - 106) 32).2 (by unfold numF; rw [if_neg (by omega), if_neg e1, if_neg (by omega), if_neg e3, if_neg (by omega), if_pos e])
  have e7 : ¬ (124 ≤ c ∧ c ≤ 138) := fun e => (h (c - 124) 64).2 (by unfold numF; rw [if_neg (by omega), if_neg e1, if_neg (by omega), if_neg e3, if_neg (by omega), if_neg e5, if_neg (by omega), if_pos e])
  unfold twoOk
  rw [if_neg e1, if_neg e3, if_neg e5, if_neg e7]; exact fun h => h
theorem find_all : ∀ k : Fin 200, ((69 ≤ k.1 ∧ k.1 ≤ 90) ∨ (103 ≤ k.1 ∧ k.1 ≤ 138) ∨ k.1 = 167 ∨ k.1 = 172 ∨ k.1 = 173 ∨ (192 ≤ k.1 ∧ k.1 ≤ 196)) → (findI (k.1 : Int)).isSome = true ∧ (takesR (k.1 : Int)).2.length = 1 := by decide +kernel
theorem find_code {c : Int} (h : (69 ≤ c ∧ c ≤ 90) ∨ (103 ≤ c ∧ c ≤ 138) ∨ c = 167 ∨ c = 172 ∨ c = 173 ∨ (192 ≤ c ∧ c ≤ 196)) : (findI c).isSome = true ∧ (takesR c).2.length = 1 := by
  have := find_all ⟨c.toNat, by omega⟩ (by simp only; omega)
  have e : ((c.toNat : Nat) : Int) = c := by omega
  simpa only [e] using this
theorem num_code {c : Int} {r : Int × Int × Int} (h : numO c = some r) : (69 ≤ c ∧ c ≤ 90) ∨ (103 ≤ c ∧ c ≤ 138) := by
  rw [num_eq] at h
  unfold numF at h
  by_cases h0 : (69 ≤ c ∧ c ≤ 90) ∨ (103 ≤ c ∧ c ≤ 138)
  · exact h0
  rw [if_neg (by omega), if_neg (by omega), if_neg (by omega), if_neg (by omega), if_neg (by omega), if_neg (by omega), if_neg (by omega), if_neg (by omega)] at h
  cases h
section
variable {l : List InstrD} {i : Nat} {x y z : InstrD}
theorem fK_1n (h : ¬ i + 1 < l.length) : fK l i 1 = none := by
  unfold fK; rw [gI_out (i := i + 1) (by omega)]; simp only [stK, show noI.Code = -1 from rfl, oneC_neg]; split <;> rfl
theorem fK_2n (h : ¬ i + 2 < l.length) : fK l i 2 = none := by
  unfold fK; rw [gI_out (i := i + 2) (by omega)]; simp only [stK]; rw [if_neg (fun h => twoOk_neg h.2)]; rfl
theorem fK_3n (h : ¬ i + 1 < l.length) : fK l i 3 = none := by
  unfold fK; rw [gI_out (i := i + 1) (by omega)]; simp only [stK]; rw [if_neg (fun h => absurd h.1 (by decide))]; rfl
theorem fK_4n (h : ¬ i + 1 < l.length) : fK l i 4 = none := by
  unfold fK; rw [gI_out (i := i + 1) (by omega)]; simp only [stK]; rw [if_neg (fun h => absurd h.1.2 (by decide))]; rfl
theorem fK_5n (h : ¬ i + 1 < l.length) : fK l i 5 = none := by
  unfold fK; simp only [stK]; rw [if_neg (fun h' => h h'.1.2)]; rfl
theorem cut_one (hx : l[i]? = some x) : cutL l (i + 1) 1 [] = cutL l i 2 [x] := by
  unfold cutL; rw [List.take_add_one, hx]; simp
end
theorem mk_le {k c : Int} {v : Nat} (h : k = outC c) : VLe (aggV [intV .i64 k, uV v, exactV (.int .u64 0), exactV (.int .i64 0), exactV (.slice none 0 0)]) (aggV (encInstr (mkI (outC c) v))) := by
  subst h; exact VLe.agg (.cons (VLe.refl _) (.cons (VLe.refl _) (.cons (VLe.refl _) (.cons (VLe.refl _) (.cons (sliceV_nil 1 encU64) .nil)))))
theorem zer_le : VLe (aggV [exactV (.int .i64 0), exactV (.int .u64 0), exactV (.int .u64 0), exactV (.int .i64 0), exactV (.slice none 0 0)]) (aggV (encInstr zerI)) :=
  VLe.agg (.cons (VLe.refl _) (.cons (VLe.refl _) (.cons (VLe.refl _) (.cons (VLe.refl _) (.cons (sliceV_nil 1 encU64) .nil)))))
theorem tee_le {a : Int} : VLe (aggV [exactV (.int .i64 34), intV .u64 a, exactV (.int .u64 0), exactV (.int .i64 0), exactV (.slice none 0 0)]) (aggV (encInstr ⟨34, a, 0, 0, []⟩)) :=
  VLe.agg (.cons (VLe.refl _) (.cons (VLe.refl _) (.cons (VLe.refl _) (.cons (VLe.refl _) (.cons (sliceV_nil 1 encU64) .nil)))))
theorem outC_pos {c : Int} (h : (takesR c).2 = [126]) : 66 = outC c := by unfold outC; rw [if_pos h]
theorem outC_neg {c : Int} (h : ¬ (takesR c).2 = [126]) : 65 = outC c := by unfold outC; rw [if_neg h]
open Classical in
noncomputable def twoI (c : Int) (a b : Nat) : InstrD := if ∃ g n w, numO c = some (g, n, w) ∧ g ≠ 2 then mkI (outC c) (twoV c a b) else zerI
theorem twoI_of {c g n w : Int} {a b : Nat} (h : numO c = some (g, n, w)) (hg : g ≠ 2) : twoI c a b = mkI (outC c) (twoV c a b) := by unfold twoI; rw [if_pos ⟨g, n, w, h, hg⟩]
theorem twoI_no {c : Int} {a b : Nat} (h : ∀ g n w, numO c = some (g, n, w) → g = 2) : twoI c a b = zerI := by
  unfold twoI; rw [if_neg]; rintro ⟨g, n, w, h1, h2⟩; exact h2 (h g n w h1)
theorem two_num {c : Int} {a b : Nat} (h : twoOk c a b) : twoI c a b = mkI (outC c) (twoV c a b) := by
  refine Classical.byContradiction fun hn => two_none (c := c) (x := a) (y := b) (fun n w => ⟨fun e => hn (twoI_of e (by decide)), fun e => hn (twoI_of e (by decide))⟩) h
theorem num_group {c g n w : Int} (h : numO c = some (g, n, w)) (h1 : ¬ g = 2) (h2 : ¬ g = 1) : g = 0 := by
  have := (numO_bounds h).2.1; omega
theorem num_zero {c : Int} (h : ¬ (numO c).isSome ∨ ((numO c).getD (0, 0, 0)).1 = 2) : (∀ g n w, numO c = some (g, n, w) → g = 2) := by
  intro g n w hn
  rw [hn] at h; simpa using h
theorem two_no {c : Int} {a b : Nat} (h : ∀ g n w, numO c = some (g, n, w) → g = 2) : ¬ twoOk c a b := two_none fun n w => ⟨fun e => absurd (h _ _ _ e) (by decide), fun e => absurd (h _ _ _ e) (by decide)⟩
theorem one_no {c : Int} {a : Nat} (h : ¬ (numO c).isSome ∨ ((numO c).getD (0, 0, 0)).1 ≠ 2) (h1 : ¬ c = 167) (h2 : ¬ (0 : Int) < (xfA c : Int)) : oneC c a = none :=
  one_none (fun n b e => by rw [e] at h; simp at h) h1 h2
section
variable {l : List InstrD} {i : Nat}
theorem gI_in {j : Nat} (h : j < l.length) : l[j]? = some (gI l j) := by unfold gI; rw [List.getD_eq_getElem?_getD, List.getElem?_eq_getElem h]; rfl
abbrev XA (l : List InstrD) (i : Nat) : Nat := (gI l i).A.toNat
theorem f0_no (h : ¬ (gI l i).Code = 1) : fK l i 0 = none := by unfold fK; simp only [stK]; rw [if_neg h]; rfl
theorem f0_yes (h : (gI l i).Code = 1) : fK l i 0 = some (cutL l i 1 []) := by unfold fK; simp only [stK]; rw [if_pos h]; rfl
theorem f1_a (h : (l.length : Int) ≤ (i : Int) + 1 ∨ ¬ isC (gI l i)) : fK l i 1 = none := by
  rcases h with h | h
  · exact fK_1n (by omega)
  · unfold fK; simp only [stK]; rw [if_neg h]; rfl
theorem f1_b (h : oneC (gI l (i + 1)).Code (XA l i) = none) : fK l i 1 = none := by
  unfold fK; simp only [stK]; rw [h]; split <;> rfl
theorem f1_c {v : Nat} (h1 : isC (gI l i)) (h : oneC (gI l (i + 1)).Code (XA l i) = some v) : fK l i 1 = some (cutL l i 2 [mkI (outC (gI l (i + 1)).Code) v]) := by
  unfold fK; simp only [stK]; rw [if_pos h1, h]; rfl
theorem f2_a (h : ((l.length : Int) ≤ (i : Int) + 2 ∨ ¬ isC (gI l i)) ∨ ¬ isC (gI l (i + 1))) : fK l i 2 = none := by
  rcases h with (h | h) | h
  · exact fK_2n (by omega)
  · unfold fK; simp only [stK]; rw [if_neg (fun h' => h h'.1.1)]; rfl
  · unfold fK; simp only [stK]; rw [if_neg (fun h' => h h'.1.2)]; rfl
theorem f2_b (h : ¬ twoOk (gI l (i + 2)).Code (XA l i) (XA l (i + 1))) : fK l i 2 = none := by
  unfold fK; simp only [stK]; rw [if_neg (fun h' => h h'.2)]; rfl
theorem f2_c (h1 : isC (gI l i)) (h2 : isC (gI l (i + 1))) (h : twoOk (gI l (i + 2)).Code (XA l i) (XA l (i + 1))) : fK l i 2 = some (cutL l i 3 [twoI (gI l (i + 2)).Code (XA l i) (XA l (i + 1))]) := by
  unfold fK; simp only [stK]; rw [if_pos ⟨⟨h1, h2⟩, h⟩, two_num h]; rfl
theorem f3_no (h : ((l.length : Int) ≤ (i : Int) + 1 ∨ ¬ (gI l (i + 1)).Code = 26) ∨ ((¬ isC (gI l i) ∧ ¬ (gI l i).Code = 32) ∧ ¬ (gI l i).Code = 35)) : fK l i 3 = none := by
  rcases h with (h | h) | h
  · exact fK_3n (by omega)
  · unfold fK; simp only [stK]; rw [if_neg (fun h' => h h'.1)]; rfl
  · unfold fK; simp only [stK]; rw [if_neg (fun h' => by rcases h'.2 with h1 | h1 | h1; exact h.1.1 h1; exact h.1.2 h1; exact h.2 h1)]; rfl
theorem f3_yes (h : ¬ (((l.length : Int) ≤ (i : Int) + 1 ∨ ¬ (gI l (i + 1)).Code = 26) ∨ ((¬ isC (gI l i) ∧ ¬ (gI l i).Code = 32) ∧ ¬ (gI l i).Code = 35))) : fK l i 3 = some (cutL l i 2 []) := by
  have h1 : (gI l (i + 1)).Code = 26 := Classical.byContradiction fun e => h (.inl (.inr e))
  have h2 : isC (gI l i) ∨ (gI l i).Code = 32 ∨ (gI l i).Code = 35 := Classical.byContradiction fun e => h (.inr ⟨⟨fun a => e (.inl a), fun a => e (.inr (.inl a))⟩, fun a => e (.inr (.inr a))⟩)
  unfold fK; simp only [stK]; rw [if_pos ⟨h1, h2⟩]; rfl
theorem f4_no (h : (((l.length : Int) ≤ (i : Int) + 1 ∨ ¬ (gI l i).Code = 33) ∨ ¬ (gI l (i + 1)).Code = 32) ∨ ¬ (gI l i).A = (gI l (i + 1)).A) : fK l i 4 = none := by
  rcases h with ((h | h) | h) | h
  · exact fK_4n (by omega)
  · unfold fK; simp only [stK]; rw [if_neg (fun h' => h h'.1.1)]; rfl
  · unfold fK; simp only [stK]; rw [if_neg (fun h' => h h'.1.2)]; rfl
  · unfold fK; simp only [stK]; rw [if_neg (fun h' => h h'.2)]; rfl
theorem f4_yes (h : ¬ ((((l.length : Int) ≤ (i : Int) + 1 ∨ ¬ (gI l i).Code = 33) ∨ ¬ (gI l (i + 1)).Code = 32) ∨ ¬ (gI l i).A = (gI l (i + 1)).A)) : fK l i 4 = some (cutL l i 2 [⟨34, (gI l i).A, 0, 0, []⟩]) := by
  simp only [not_or, Classical.not_not] at h
  unfold fK; simp only [stK]; rw [if_pos ⟨⟨h.1.1.2, h.1.2⟩, h.2⟩]; rfl
theorem f5_no (h : ((l.length : Int) ≤ (i : Int) + 1 ∨ ¬ stopP (gI l i).Code) ∨ boundP (gI l (i + 1)).Code) : fK l i 5 = none := by
  rcases h with (h | h) | h
  · exact fK_5n (by omega)
  · unfold fK; simp only [stK]; rw [if_neg (fun h' => h h'.1.1)]; rfl
  · unfold fK; simp only [stK]; rw [if_neg (fun h' => h'.2 h)]; rfl
theorem f5_yes (hi : i < l.length) (h : ¬ (((l.length : Int) ≤ (i : Int) + 1 ∨ ¬ stopP (gI l i).Code) ∨ boundP (gI l (i + 1)).Code)) : fK l i 5 = some (cutL l (i + 1) 1 []) := by
  simp only [not_or, Classical.not_not] at h
  unfold fK; simp only [stK]; rw [if_pos ⟨⟨h.1.2, by omega⟩, h.2⟩]
  show some (cutL l i 2 [gI l i]) = _
  rw [cut_one (gI_in hi)]
end
theorem okA {x : InstrD} (h : okI x) : x.A = ((x.A.toNat : Nat) : Int) ∧ x.A.toNat < 18446744073709551616 := by obtain ⟨h1, h2⟩ := h; omega
noncomputable def stV (l : List InstrD) (i k : Nat) : VP := tupV [sliceV 5 encInstr ((fK l i k).getD []), propV ((fK l i k).isSome = true)]
end Go.Hl
end
section
namespace Go.Proofs.YtmmdlhjcmlekfaaGreatDoor
open Go.Hl Go.RowKit
theorem hasSuffix__spec {l s : List UInt8} : FnP Tryz.prog 259 [strV l, strV s] (propV (hasSuf l s)) := by
 refine In 21 Tryz.func259 fun _ _ _ => ?_
 refine .fact (t := 0) rfl (fun S w v h => strV_len h) fun hl => ?_
 refine .fact (t := 1) rfl (fun S w v h => strV_len h) fun hsl => ?_
 refine Z19 ?_
 refine .g (OpG.gT rfl rfl rfl rfl (fun hg => opSliceSLo Tryz.underlying9 (.when (.t rfl) hg) (.when (.t rfl) hg) (by omega : _ = ((l.length - s.length : Nat) : Int)) (by omega))) rfl rfl ?_
 refine Z7 ?_
 refine Rt1 ?_
 exact VLe.prop (by unfold hasSuf; constructor <;> (rintro ⟨h1, h2⟩; exact ⟨by omega, h2⟩))
theorem hasPrefix__spec {l s : List UInt8} : FnP Tryz.prog 260 [strV l, strV s] (propV (hasPre l s)) := by
 refine In 18 Tryz.func260 fun _ _ _ => ?_
 refine .fact (t := 0) rfl (fun S w v h => strV_len h) fun hl => ?_
 refine .fact (t := 1) rfl (fun S w v h => strV_len h) fun hsl => ?_
 refine Z16 ?_
 refine .g (OpG.gT rfl rfl rfl rfl (fun hg => opSliceSHi Tryz.underlying9 (.when (.t rfl) hg) (.when (.t rfl) hg) rfl (by omega))) rfl rfl ?_
 refine Z7 ?_
 refine Rt1 ?_
 exact VLe.prop (by unfold hasPre; constructor <;> (rintro ⟨h1, h2⟩; exact ⟨by omega, h2⟩))
theorem hasSuffix_spec {l s : List UInt8} : FnP Tryz.prog 250 [strV l, strV s] (propV (hasSuf l s)) := by
 refine In 8 Tryz.func250 fun _ _ _ => ?_
 refine Z9 ?_
 refine .p (cA (h := hasSuffix__spec)) rfl ?_
 refine Z4 ?_
 refine Rt1 ?_
 exact VLe.refl _
theorem hasPrefix_spec {l s : List UInt8} : FnP Tryz.prog 251 [strV l, strV s] (propV (hasPre l s)) := by
 refine In 8 Tryz.func251 fun _ _ _ => ?_
 refine Z9 ?_
 refine .p (cA (h := hasPrefix__spec)) rfl ?_
 refine Z4 ?_
 refine Rt1 ?_
 exact VLe.refl _
theorem trimSuffix__spec {l s : List UInt8} : FnP Tryz.prog 258 [strV l, strV s] (strV (trimSuf l s)) := by
 refine In 16 Tryz.func258 fun _ _ _ => ?_
 refine .fact (t := 0) rfl (fun S w v h => strV_len h) fun hl => ?_
 refine .fact (t := 1) rfl (fun S w v h => strV_len h) fun hsl => ?_
 refine Z2 ?_
 refine .p (opAssign (.s [] rfl rfl)) rfl ?_
 refine Z7 ?_
 refine .p (cA (h := hasSuffix__spec)) rfl ?_
 refine Z2 ?_
 refine Cd (fun c0 => ?_) fun c0 => ?_
 ·
  have hle := c0.1
  refine Z8 ?_
  refine .p (opSliceSHi Tryz.underlying9 (.t rfl) (.t rfl) (by omega : _ = ((l.length - s.length : Nat) : Int)) (by omega)) rfl ?_
  refine Z5 ?_
  refine Rt1 ?_
  exact VLe.of_eq (by unfold trimSuf; rw [if_pos c0])
 refine Z9 ?_
 refine Rt1 ?_
 exact VLe.of_eq (by unfold trimSuf; rw [if_neg c0])
theorem trimSuffix_spec {l s : List UInt8} : FnP Tryz.prog 249 [strV l, strV s] (strV (trimSuf l s)) := by
 refine In 8 Tryz.func249 fun _ _ _ => ?_
 refine Z2 ?_
 refine .p (opAssign (.s [] rfl rfl)) rfl ?_
 refine Z6 ?_
 refine .p (cA (h := trimSuffix__spec)) rfl ?_
 refine Z4 ?_
 refine Rt1 ?_
 exact VLe.refl _
theorem idxByte_spec {l : List UInt8} {b : UInt8} : FnP Tryz.prog 262 [strV l, intV .u8 (b.toNat : Int)] (intV .i64 (Lib.indexByte l b)) := by
 refine In 8 Tryz.func262 fun _ _ _ => ?_
 refine Z9 ?_
 refine .p (opIdxByteS Tryz.xt266 (.cons (.t rfl) (.cons (.t rfl) .nil))) rfl ?_
 refine Z4 ?_
 refine Rt1 ?_
 exact VLe.refl _
theorem idx1_spec {l : List UInt8} {b : UInt8} (hp0 : l ≠ [b]) : FnP Tryz.prog 261 [strV l, strV [b]] (intV .i64 (Lib.indexByte l b)) := by
 refine In 143 Tryz.func261 fun _ _ _ => ?_
 refine Z26 ?_
 refine Cd (fun c0 => ?_) fun c0 => ?_
 · exfalso; simp at c0; exact hp0 c0.symm
 refine Z7 ?_
 refine Cd (fun c1 => ?_) fun c1 => ?_
 ·
  refine Z4 ?_
  refine .p (opIndexS Tryz.underlying9 (.t rfl) (.c _) rfl (show [b][0]? = some b from rfl)) rfl ?_
  refine .p (cA (h := idxByte_spec)) rfl ?_
  refine Z6 ?_
  refine Rt1 ?_
  exact VLe.refl _
 exact absurd rfl c1
theorem cut__spec {l : List UInt8} {b : UInt8} (hp0 : l ≠ [b]) : FnP Tryz.prog 257 [strV l, strV [b]] (tupV [strV (cutB l b).1, strV (cutB l b).2.1, propV ((cutB l b).2.2 = true)]) := by
 refine In 23 Tryz.func257 fun _ _ _ => ?_
 refine .fact (t := 0) rfl (fun S w v h => strV_len h) fun hl => ?_
 have hlt := indexByte_lt l b
 refine Z2 ?_
 refine .p (opAssign (.s [] rfl rfl)) rfl ?_
 refine .p (opAssign (.s [] rfl rfl)) rfl ?_
 refine Z8 ?_
 refine .p (cA (h := idx1_spec hp0)) rfl ?_
 refine Z9 ?_
 refine Cd (fun c0 => ?_) fun c0 => ?_
 ·
  have hj : Lib.indexByte l b = (((Lib.indexByte l b).toNat : Nat) : Int) := by omega
  refine Z1 ?_
  refine .drawK 10 2 FM.out (by kernel_rfl) (k := ?_)
  refine Z2 ?_
  refine .p (opSliceSHi Tryz.underlying9 (.t rfl) (.t rfl) hj (by omega)) ?_
  refine Z4 ?_
  refine .p (opAddF (.t rfl) (.t rfl) (fits_i64 (by simp only [List.length_cons, List.length_nil]; omega) (by simp only [List.length_cons, List.length_nil]; omega))) ?_
  refine .p (opSliceSLo Tryz.underlying9 (.t rfl) (.t rfl) (by simp only [List.length_cons, List.length_nil]; omega : _ = (((Lib.indexByte l b).toNat + 1 : Nat) : Int)) (by omega)) ?_
  refine Z8 ?_
  refine Rt3 ?_ ?_ ?_
  · exact VLe.of_eq (by unfold cutB; rw [if_pos c0])
  · exact VLe.of_eq (by unfold cutB; rw [if_pos c0])
  exact VLe.prop (by unfold cutB; rw [if_pos c0]; simp)
 refine Z6 ?_
 refine .p (opAssign (.s [] rfl rfl)) rfl ?_
 refine Z4 ?_
 refine Rt3 ?_ ?_ ?_
 · exact VLe.of_eq (by unfold cutB; rw [if_neg c0])
 · exact VLe.of_eq (by unfold cutB; rw [if_neg c0])
 exact VLe.prop (by unfold cutB; rw [if_neg c0]; simp)
theorem cut_spec {l : List UInt8} {b : UInt8} (hp0 : l ≠ [b]) : FnP Tryz.prog 248 [strV l, strV [b]] (tupV [strV (cutB l b).1, strV (cutB l b).2.1, propV ((cutB l b).2.2 = true)]) := by
 refine In 13 Tryz.func248 fun _ _ _ => ?_
 refine Z2 ?_
 refine .p (opAssign (.s [] rfl rfl)) rfl ?_
 refine .p (opAssign (.s [] rfl rfl)) rfl ?_
 refine Z7 ?_
 refine .p (cA (h := cut__spec hp0)) rfl ?_
 refine Z9 ?_
 refine Rt3 ?_ ?_ ?_
 · exact VLe.refl _
 · exact VLe.refl _
 exact VLe.refl _
theorem binaries_spec  : FnP Tryz.prog 252 [] (aggV (binT.flatMap encStrD)) := by
 refine In 2 Tryz.func252 fun _ _ _ => ?_
 refine Z2 ?_
 refine .n (opAlloc Tryz.zb341) rfl fun b0 _ => ?_
 refine Z4 ?_
 refine .p (opBuildArr (cs := binT.flatMap encStrD) Tryz.ar341 Tryz.zb341 (.cons (.s [97, 100, 100] rfl rfl) (.cons (.s [115, 117, 98] rfl rfl) (.cons (.s [109, 117, 108] rfl rfl) (.cons (.s [100, 105, 118, 95, 115] rfl rfl) (.cons (.s [100, 105, 118, 95, 117] rfl rfl) (.cons (.s [114, 101, 109, 95, 115] rfl rfl) (.cons (.s [114, 101, 109, 95, 117] rfl rfl) (.cons (.s [97, 110, 100] rfl rfl) (.cons (.s [111, 114] rfl rfl) (.cons (.s [120, 111, 114] rfl rfl) (.cons (.s [115, 104, 108] rfl rfl) (.cons (.s [115, 104, 114, 95, 115] rfl rfl) (.cons (.s [115, 104, 114, 95, 117] rfl rfl) (.cons (.s [114, 111, 116, 108] rfl rfl) (.cons (.s [114, 111, 116, 114] rfl rfl) .nil))))))))))))))) rfl) rfl ?_
 refine Z4 ?_
 refine Post.retR1 rfl () trivial (fun _ _ _ _ => trivial) (.ra (i := 0) Tryz.ag341 Tryz.cz341 rfl rfl rfl rfl) ?_
 exact VLe.refl _
theorem tests_spec  : FnP Tryz.prog 253 [] (aggV (testT.flatMap encStrD)) := by
 refine In 2 Tryz.func253 fun _ _ _ => ?_
 refine Z2 ?_
 refine .n (opAlloc Tryz.zb343) rfl fun b0 _ => ?_
 refine Z4 ?_
 refine .p (opBuildArr (cs := testT.flatMap encStrD) Tryz.ar343 Tryz.zb343 (.cons (.s [101, 113] rfl rfl) (.cons (.s [110, 101] rfl rfl) (.cons (.s [108, 116, 95, 115] rfl rfl) (.cons (.s [108, 116, 95, 117] rfl rfl) (.cons (.s [103, 116, 95, 115] rfl rfl) (.cons (.s [103, 116, 95, 117] rfl rfl) (.cons (.s [108, 101, 95, 115] rfl rfl) (.cons (.s [108, 101, 95, 117] rfl rfl) (.cons (.s [103, 101, 95, 115] rfl rfl) (.cons (.s [103, 101, 95, 117] rfl rfl) .nil)))))))))) rfl) rfl ?_
 refine Z4 ?_
 refine Post.retR1 rfl () trivial (fun _ _ _ _ => trivial) (.ra (i := 0) Tryz.ag343 Tryz.cz343 rfl rfl rfl rfl) ?_
 exact VLe.refl _
theorem unaries_spec  : FnP Tryz.prog 254 [] (aggV (unT.flatMap encStrD)) := by
 refine In 2 Tryz.func254 fun _ _ _ => ?_
 refine Z2 ?_
 refine .n (opAlloc Tryz.zb345) rfl fun b0 _ => ?_
 refine Z4 ?_
 refine .p (opBuildArr (cs := unT.flatMap encStrD) Tryz.ar345 Tryz.zb345 (.cons (.s [99, 108, 122] rfl rfl) (.cons (.s [99, 116, 122] rfl rfl) (.cons (.s [112, 111, 112, 99, 110, 116] rfl rfl) (.cons (.s [101, 113, 122] rfl rfl) .nil)))) rfl) rfl ?_
 refine Z4 ?_
 refine Post.retR1 rfl () trivial (fun _ _ _ _ => trivial) (.ra (i := 0) Tryz.ag345 Tryz.cz345 rfl rfl rfl rfl) ?_
 exact VLe.refl _
theorem rows_spec  : FnP Tryz.prog 234 [] (aggV (rowsT.flatMap encRow)) := by
 refine In 49 Tryz.func234 fun _ _ _ => ?_
 refine Z2 ?_
 refine .n (opAlloc Tryz.zb323) rfl fun b0 _ => ?_
 refine Z4 ?_
 refine .p (opBuild Tryz.pl300 Tryz.zb300 (.cons (.c _) (.cons (.s [117, 110, 114, 101, 97, 99, 104, 97, 98, 108, 101] rfl rfl) (.cons (.c _) (.cons (.s [] rfl rfl) (.cons (.s [] rfl rfl) .nil))))) rfl) rfl ?_
 refine .p (opBuild Tryz.pl300 Tryz.zb300 (.cons (.c _) (.cons (.s [110, 111, 112] rfl rfl) (.cons (.c _) (.cons (.s [] rfl rfl) (.cons (.s [] rfl rfl) .nil))))) rfl) rfl ?_
 refine .p (opBuild Tryz.pl300 Tryz.zb300 (.cons (.c _) (.cons (.s [98, 108, 111, 99, 107] rfl rfl) (.cons (.c _) (.cons (.s [] rfl rfl) (.cons (.s [] rfl rfl) .nil))))) rfl) rfl ?_
 refine .p (opBuild Tryz.pl300 Tryz.zb300 (.cons (.c _) (.cons (.s [108, 111, 111, 112] rfl rfl) (.cons (.c _) (.cons (.s [] rfl rfl) (.cons (.s [] rfl rfl) .nil))))) rfl) rfl ?_
 refine .p (opBuild Tryz.pl300 Tryz.zb300 (.cons (.c _) (.cons (.s [105, 102] rfl rfl) (.cons (.c _) (.cons (.s [] rfl rfl) (.cons (.s [] rfl rfl) .nil))))) rfl) rfl ?_
 refine .p (opBuild Tryz.pl300 Tryz.zb300 (.cons (.c _) (.cons (.s [101, 108, 115, 101] rfl rfl) (.cons (.c _) (.cons (.s [] rfl rfl) (.cons (.s [] rfl rfl) .nil))))) rfl) rfl ?_
 refine .p (opBuild Tryz.pl300 Tryz.zb300 (.cons (.c _) (.cons (.s [101, 110, 100] rfl rfl) (.cons (.c _) (.cons (.s [] rfl rfl) (.cons (.s [] rfl rfl) .nil))))) rfl) rfl ?_
 refine .p (opBuild Tryz.pl300 Tryz.zb300 (.cons (.c _) (.cons (.s [98, 114] rfl rfl) (.cons (.c _) (.cons (.s [] rfl rfl) (.cons (.s [] rfl rfl) .nil))))) rfl) rfl ?_
 refine .p (opBuild Tryz.pl300 Tryz.zb300 (.cons (.c _) (.cons (.s [98, 114, 95, 105, 102] rfl rfl) (.cons (.c _) (.cons (.s [] rfl rfl) (.cons (.s [] rfl rfl) .nil))))) rfl) rfl ?_
 refine .p (opBuild Tryz.pl300 Tryz.zb300 (.cons (.c _) (.cons (.s [98, 114, 95, 116, 97, 98, 108, 101] rfl rfl) (.cons (.c _) (.cons (.s [] rfl rfl) (.cons (.s [] rfl rfl) .nil))))) rfl) rfl ?_
 refine .p (opBuild Tryz.pl300 Tryz.zb300 (.cons (.c _) (.cons (.s [114, 101, 116, 117, 114, 110] rfl rfl) (.cons (.c _) (.cons (.s [] rfl rfl) (.cons (.s [] rfl rfl) .nil))))) rfl) rfl ?_
 refine .p (opBuild Tryz.pl300 Tryz.zb300 (.cons (.c _) (.cons (.s [99, 97, 108, 108] rfl rfl) (.cons (.c _) (.cons (.s [] rfl rfl) (.cons (.s [] rfl rfl) .nil))))) rfl) rfl ?_
 refine .p (opBuild Tryz.pl300 Tryz.zb300 (.cons (.c _) (.cons (.s [99, 97, 108, 108, 95, 105, 110, 100, 105, 114, 101, 99, 116] rfl rfl) (.cons (.c _) (.cons (.s [] rfl rfl) (.cons (.s [] rfl rfl) .nil))))) rfl) rfl ?_
 refine .p (opBuild Tryz.pl300 Tryz.zb300 (.cons (.c _) (.cons (.s [100, 114, 111, 112] rfl rfl) (.cons (.c _) (.cons (.s [] rfl rfl) (.cons (.s [] rfl rfl) .nil))))) rfl) rfl ?_
 refine .p (opBuild Tryz.pl300 Tryz.zb300 (.cons (.c _) (.cons (.s [115, 101, 108, 101, 99, 116] rfl rfl) (.cons (.c _) (.cons (.s [] rfl rfl) (.cons (.s [] rfl rfl) .nil))))) rfl) rfl ?_
 refine .p (opBuild Tryz.pl300 Tryz.zb300 (.cons (.c _) (.cons (.s [108, 111, 99, 97, 108, 46, 103, 101, 116] rfl rfl) (.cons (.c _) (.cons (.s [] rfl rfl) (.cons (.s [] rfl rfl) .nil))))) rfl) rfl ?_
 refine .p (opBuild Tryz.pl300 Tryz.zb300 (.cons (.c _) (.cons (.s [108, 111, 99, 97, 108, 46, 115, 101, 116] rfl rfl) (.cons (.c _) (.cons (.s [] rfl rfl) (.cons (.s [] rfl rfl) .nil))))) rfl) rfl ?_
 refine .p (opBuild Tryz.pl300 Tryz.zb300 (.cons (.c _) (.cons (.s [108, 111, 99, 97, 108, 46, 116, 101, 101] rfl rfl) (.cons (.c _) (.cons (.s [] rfl rfl) (.cons (.s [] rfl rfl) .nil))))) rfl) rfl ?_
 refine .p (opBuild Tryz.pl300 Tryz.zb300 (.cons (.c _) (.cons (.s [103, 108, 111, 98, 97, 108, 46, 103, 101, 116] rfl rfl) (.cons (.c _) (.cons (.s [] rfl rfl) (.cons (.s [] rfl rfl) .nil))))) rfl) rfl ?_
 refine .p (opBuild Tryz.pl300 Tryz.zb300 (.cons (.c _) (.cons (.s [103, 108, 111, 98, 97, 108, 46, 115, 101, 116] rfl rfl) (.cons (.c _) (.cons (.s [] rfl rfl) (.cons (.s [] rfl rfl) .nil))))) rfl) rfl ?_
 refine .p (opBuild Tryz.pl300 Tryz.zb300 (.cons (.c _) (.cons (.s [105, 51, 50, 46, 108, 111, 97, 100] rfl rfl) (.cons (.c _) (.cons (.s [105] rfl rfl) (.cons (.s [105] rfl rfl) .nil))))) rfl) rfl ?_
 refine .p (opBuild Tryz.pl300 Tryz.zb300 (.cons (.c _) (.cons (.s [105, 54, 52, 46, 108, 111, 97, 100] rfl rfl) (.cons (.c _) (.cons (.s [105] rfl rfl) (.cons (.s [108] rfl rfl) .nil))))) rfl) rfl ?_
 refine .p (opBuild Tryz.pl300 Tryz.zb300 (.cons (.c _) (.cons (.s [105, 51, 50, 46, 108, 111, 97, 100, 56, 95, 115] rfl rfl) (.cons (.c _) (.cons (.s [105] rfl rfl) (.cons (.s [105] rfl rfl) .nil))))) rfl) rfl ?_
 refine .p (opBuild Tryz.pl300 Tryz.zb300 (.cons (.c _) (.cons (.s [105, 51, 50, 46, 108, 111, 97, 100, 56, 95, 117] rfl rfl) (.cons (.c _) (.cons (.s [105] rfl rfl) (.cons (.s [105] rfl rfl) .nil))))) rfl) rfl ?_
 refine .p (opBuild Tryz.pl300 Tryz.zb300 (.cons (.c _) (.cons (.s [105, 51, 50, 46, 108, 111, 97, 100, 49, 54, 95, 115] rfl rfl) (.cons (.c _) (.cons (.s [105] rfl rfl) (.cons (.s [105] rfl rfl) .nil))))) rfl) rfl ?_
 refine .p (opBuild Tryz.pl300 Tryz.zb300 (.cons (.c _) (.cons (.s [105, 51, 50, 46, 108, 111, 97, 100, 49, 54, 95, 117] rfl rfl) (.cons (.c _) (.cons (.s [105] rfl rfl) (.cons (.s [105] rfl rfl) .nil))))) rfl) rfl ?_
 refine .p (opBuild Tryz.pl300 Tryz.zb300 (.cons (.c _) (.cons (.s [105, 54, 52, 46, 108, 111, 97, 100, 56, 95, 115] rfl rfl) (.cons (.c _) (.cons (.s [105] rfl rfl) (.cons (.s [108] rfl rfl) .nil))))) rfl) rfl ?_
 refine .p (opBuild Tryz.pl300 Tryz.zb300 (.cons (.c _) (.cons (.s [105, 54, 52, 46, 108, 111, 97, 100, 56, 95, 117] rfl rfl) (.cons (.c _) (.cons (.s [105] rfl rfl) (.cons (.s [108] rfl rfl) .nil))))) rfl) rfl ?_
 refine .p (opBuild Tryz.pl300 Tryz.zb300 (.cons (.c _) (.cons (.s [105, 54, 52, 46, 108, 111, 97, 100, 49, 54, 95, 115] rfl rfl) (.cons (.c _) (.cons (.s [105] rfl rfl) (.cons (.s [108] rfl rfl) .nil))))) rfl) rfl ?_
 refine .p (opBuild Tryz.pl300 Tryz.zb300 (.cons (.c _) (.cons (.s [105, 54, 52, 46, 108, 111, 97, 100, 49, 54, 95, 117] rfl rfl) (.cons (.c _) (.cons (.s [105] rfl rfl) (.cons (.s [108] rfl rfl) .nil))))) rfl) rfl ?_
 refine .p (opBuild Tryz.pl300 Tryz.zb300 (.cons (.c _) (.cons (.s [105, 54, 52, 46, 108, 111, 97, 100, 51, 50, 95, 115] rfl rfl) (.cons (.c _) (.cons (.s [105] rfl rfl) (.cons (.s [108] rfl rfl) .nil))))) rfl) rfl ?_
 refine .p (opBuild Tryz.pl300 Tryz.zb300 (.cons (.c _) (.cons (.s [105, 54, 52, 46, 108, 111, 97, 100, 51, 50, 95, 117] rfl rfl) (.cons (.c _) (.cons (.s [105] rfl rfl) (.cons (.s [108] rfl rfl) .nil))))) rfl) rfl ?_
 refine .p (opBuild Tryz.pl300 Tryz.zb300 (.cons (.c _) (.cons (.s [105, 51, 50, 46, 115, 116, 111, 114, 101] rfl rfl) (.cons (.c _) (.cons (.s [105, 105] rfl rfl) (.cons (.s [] rfl rfl) .nil))))) rfl) rfl ?_
 refine .p (opBuild Tryz.pl300 Tryz.zb300 (.cons (.c _) (.cons (.s [105, 54, 52, 46, 115, 116, 111, 114, 101] rfl rfl) (.cons (.c _) (.cons (.s [105, 108] rfl rfl) (.cons (.s [] rfl rfl) .nil))))) rfl) rfl ?_
 refine .p (opBuild Tryz.pl300 Tryz.zb300 (.cons (.c _) (.cons (.s [105, 51, 50, 46, 115, 116, 111, 114, 101, 56] rfl rfl) (.cons (.c _) (.cons (.s [105, 105] rfl rfl) (.cons (.s [] rfl rfl) .nil))))) rfl) rfl ?_
 refine .p (opBuild Tryz.pl300 Tryz.zb300 (.cons (.c _) (.cons (.s [105, 51, 50, 46, 115, 116, 111, 114, 101, 49, 54] rfl rfl) (.cons (.c _) (.cons (.s [105, 105] rfl rfl) (.cons (.s [] rfl rfl) .nil))))) rfl) rfl ?_
 refine .p (opBuild Tryz.pl300 Tryz.zb300 (.cons (.c _) (.cons (.s [105, 54, 52, 46, 115, 116, 111, 114, 101, 56] rfl rfl) (.cons (.c _) (.cons (.s [105, 108] rfl rfl) (.cons (.s [] rfl rfl) .nil))))) rfl) rfl ?_
 refine .p (opBuild Tryz.pl300 Tryz.zb300 (.cons (.c _) (.cons (.s [105, 54, 52, 46, 115, 116, 111, 114, 101, 49, 54] rfl rfl) (.cons (.c _) (.cons (.s [105, 108] rfl rfl) (.cons (.s [] rfl rfl) .nil))))) rfl) rfl ?_
 refine .p (opBuild Tryz.pl300 Tryz.zb300 (.cons (.c _) (.cons (.s [105, 54, 52, 46, 115, 116, 111, 114, 101, 51, 50] rfl rfl) (.cons (.c _) (.cons (.s [105, 108] rfl rfl) (.cons (.s [] rfl rfl) .nil))))) rfl) rfl ?_
 refine .p (opBuild Tryz.pl300 Tryz.zb300 (.cons (.c _) (.cons (.s [109, 101, 109, 111, 114, 121, 46, 115, 105, 122, 101] rfl rfl) (.cons (.c _) (.cons (.s [] rfl rfl) (.cons (.s [105] rfl rfl) .nil))))) rfl) rfl ?_
 refine .p (opBuild Tryz.pl300 Tryz.zb300 (.cons (.c _) (.cons (.s [109, 101, 109, 111, 114, 121, 46, 103, 114, 111, 119] rfl rfl) (.cons (.c _) (.cons (.s [105] rfl rfl) (.cons (.s [105] rfl rfl) .nil))))) rfl) rfl ?_
 refine .p (opBuild Tryz.pl300 Tryz.zb300 (.cons (.c _) (.cons (.s [105, 51, 50, 46, 99, 111, 110, 115, 116] rfl rfl) (.cons (.c _) (.cons (.s [] rfl rfl) (.cons (.s [105] rfl rfl) .nil))))) rfl) rfl ?_
 refine .p (opBuild Tryz.pl300 Tryz.zb300 (.cons (.c _) (.cons (.s [105, 54, 52, 46, 99, 111, 110, 115, 116] rfl rfl) (.cons (.c _) (.cons (.s [] rfl rfl) (.cons (.s [108] rfl rfl) .nil))))) rfl) rfl ?_
 refine .p (opBuild Tryz.pl300 Tryz.zb300 (.cons (.c _) (.cons (.s [105, 51, 50, 46, 119, 114, 97, 112, 95, 105, 54, 52] rfl rfl) (.cons (.c _) (.cons (.s [108] rfl rfl) (.cons (.s [105] rfl rfl) .nil))))) rfl) rfl ?_
 refine .p (opBuild Tryz.pl300 Tryz.zb300 (.cons (.c _) (.cons (.s [105, 54, 52, 46, 101, 120, 116, 101, 110, 100, 95, 105, 51, 50, 95, 115] rfl rfl) (.cons (.c _) (.cons (.s [105] rfl rfl) (.cons (.s [108] rfl rfl) .nil))))) rfl) rfl ?_
 refine .p (opBuild Tryz.pl300 Tryz.zb300 (.cons (.c _) (.cons (.s [105, 54, 52, 46, 101, 120, 116, 101, 110, 100, 95, 105, 51, 50, 95, 117] rfl rfl) (.cons (.c _) (.cons (.s [105] rfl rfl) (.cons (.s [108] rfl rfl) .nil))))) rfl) rfl ?_
 refine .p (opBuild Tryz.pl300 Tryz.zb300 (.cons (.c _) (.cons (.s [105, 51, 50, 46, 101, 120, 116, 101, 110, 100, 56, 95, 115] rfl rfl) (.cons (.c _) (.cons (.s [105] rfl rfl) (.cons (.s [105] rfl rfl) .nil))))) rfl) rfl ?_
 refine .p (opBuildArr (cs := rowsT.flatMap encRow) Tryz.ar323 Tryz.zb323 (.cons (.t rfl) (.cons (.t rfl) (.cons (.t rfl) (.cons (.t rfl) (.cons (.t rfl) (.cons (.t rfl) (.cons (.t rfl) (.cons (.t rfl) (.cons (.t rfl) (.cons (.t rfl) (.cons (.t rfl) (.cons (.t rfl) (.cons (.t rfl) (.cons (.t rfl) (.cons (.t rfl) (.cons (.t rfl) (.cons (.t rfl) (.cons (.t rfl) (.cons (.t rfl) (.cons (.t rfl) (.cons (.t rfl) (.cons (.t rfl) (.cons (.t rfl) (.cons (.t rfl) (.cons (.t rfl) (.cons (.t rfl) (.cons (.t rfl) (.cons (.t rfl) (.cons (.t rfl) (.cons (.t rfl) (.cons (.t rfl) (.cons (.t rfl) (.cons (.t rfl) (.cons (.t rfl) (.cons (.t rfl) (.cons (.t rfl) (.cons (.t rfl) (.cons (.t rfl) (.cons (.t rfl) (.cons (.t rfl) (.cons (.t rfl) (.cons (.t rfl) (.cons (.t rfl) (.cons (.t rfl) (.cons (.t rfl) (.cons (.t rfl) (.cons (.t rfl) .nil))))))))))))))))))))))))))))))))))))))))))))))) rfl) rfl ?_
 refine Z4 ?_
 refine Post.retR1 rfl () trivial (fun _ _ _ _ => trivial) (.ra (i := 0) Tryz.ag323 Tryz.cz323 rfl rfl rfl rfl) ?_
 exact VLe.refl _
theorem late_spec  : FnP Tryz.prog 235 [] (aggV (lateT.flatMap encRow)) := by
 refine In 8 Tryz.func235 fun _ _ _ => ?_
 refine Z2 ?_
 refine .n (opAlloc Tryz.zb325) rfl fun b0 _ => ?_
 refine Z4 ?_
 refine .p (opBuild Tryz.pl300 Tryz.zb300 (.cons (.c _) (.cons (.s [105, 51, 50, 46, 101, 120, 116, 101, 110, 100, 49, 54, 95, 115] rfl rfl) (.cons (.c _) (.cons (.s [105] rfl rfl) (.cons (.s [105] rfl rfl) .nil))))) rfl) rfl ?_
 refine .p (opBuild Tryz.pl300 Tryz.zb300 (.cons (.c _) (.cons (.s [105, 54, 52, 46, 101, 120, 116, 101, 110, 100, 56, 95, 115] rfl rfl) (.cons (.c _) (.cons (.s [108] rfl rfl) (.cons (.s [108] rfl rfl) .nil))))) rfl) rfl ?_
 refine .p (opBuild Tryz.pl300 Tryz.zb300 (.cons (.c _) (.cons (.s [105, 54, 52, 46, 101, 120, 116, 101, 110, 100, 49, 54, 95, 115] rfl rfl) (.cons (.c _) (.cons (.s [108] rfl rfl) (.cons (.s [108] rfl rfl) .nil))))) rfl) rfl ?_
 refine .p (opBuild Tryz.pl300 Tryz.zb300 (.cons (.c _) (.cons (.s [105, 54, 52, 46, 101, 120, 116, 101, 110, 100, 51, 50, 95, 115] rfl rfl) (.cons (.c _) (.cons (.s [108] rfl rfl) (.cons (.s [108] rfl rfl) .nil))))) rfl) rfl ?_
 refine .p (opBuild Tryz.pl300 Tryz.zb300 (.cons (.c _) (.cons (.s [109, 101, 109, 111, 114, 121, 46, 99, 111, 112, 121] rfl rfl) (.cons (.c _) (.cons (.s [105, 105, 105] rfl rfl) (.cons (.s [] rfl rfl) .nil))))) rfl) rfl ?_
 refine .p (opBuild Tryz.pl300 Tryz.zb300 (.cons (.c _) (.cons (.s [109, 101, 109, 111, 114, 121, 46, 102, 105, 108, 108] rfl rfl) (.cons (.c _) (.cons (.s [105, 105, 105] rfl rfl) (.cons (.s [] rfl rfl) .nil))))) rfl) rfl ?_
 refine .p (opBuildArr (cs := lateT.flatMap encRow) Tryz.ar325 Tryz.zb325 (.cons (.t rfl) (.cons (.t rfl) (.cons (.t rfl) (.cons (.t rfl) (.cons (.t rfl) (.cons (.t rfl) .nil)))))) rfl) rfl ?_
 refine Z4 ?_
 refine Post.retR1 rfl () trivial (fun _ _ _ _ => trivial) (.ra (i := 0) Tryz.ag325 Tryz.cz325 rfl rfl rfl rfl) ?_
 exact VLe.refl _
theorem spans_spec  : FnP Tryz.prog 174 [] (aggV (spansT.flatMap encSpan)) := by
 refine In 10 Tryz.func174 fun _ _ _ => ?_
 refine Z2 ?_
 refine .n (opAlloc Tryz.zb277) rfl fun b0 _ => ?_
 refine Z12 ?_
 refine .p (opBuildArr (cs := spansT.flatMap encSpan) Tryz.ar277 Tryz.zb277 (.cons (.t rfl) (.cons (.t rfl) (.cons (.t rfl) (.cons (.t rfl) (.cons (.t rfl) (.cons (.t rfl) (.cons (.t rfl) (.cons (.t rfl) .nil)))))))) rfl) rfl ?_
 refine Z4 ?_
 refine Post.retR1 rfl () trivial (fun _ _ _ _ => trivial) (.ra (i := 0) Tryz.ag277 Tryz.cz277 rfl rfl rfl rfl) ?_
 exact VLe.refl _
theorem numeric_spec {code : Int} : FnP Tryz.prog 133 [intV .i64 code] (tupV [intV .i64 ((numO code).getD (0, 0, 0)).1, intV .i64 ((numO code).getD (0, 0, 0)).2.1, intV .i64 ((numO code).getD (0, 0, 0)).2.2, propV (numO code).isSome]) := by
 refine In 37 Tryz.func133 fun _ _ _ => ?_
 refine Z11 ?_
 refine .p (cA (h := spans_spec)) rfl ?_
 refine Z4 ?_
 refine .loopO (σ := Nat) (fun _ => []) (fun k => [(9, intV .i64 (k : Int))]) (fun k => k ≤ spansT.length ∧ NotB (fun s => inSpan code s = true) spansT k) (fun k => spansT.length - k) 0 ⟨by omega, NotB.zero _ _⟩ rfl ?_ ?_
 · exact (.get rfl (VLe.refl _) (.refl _ _))
 rintro k ⟨hk, hn⟩
 refine Z6 ?_
 refine Cd (fun c0 => ?_) fun c0 => ?_
 ·
  have hltk : k < spansT.length := by have : spansT.length = 8 := rfl; omega
  obtain ⟨x, hxk⟩ := getElem?_lt (xs := spansT) (k := k) hltk
  have hb := spans_bd x (List.mem_of_getElem? hxk)
  refine Z6 ?_
  refine .p (opIndexA spansT Tryz.underlying277 Tryz.cz276 rfl Tryz.ag276 (.t rfl) rfl rfl (.t rfl) rfl (by assumption)) rfl ?_
  refine .n (opAlloc Tryz.zb276) rfl fun b7 _ => ?_
  refine Z3 ?_
  refine .share (t := 7) (i := 0) rfl rfl ?_
  refine Z17 ?_
  refine Cd (fun c1 => ?_) fun c1 => ?_
  ·
   have hno := numO_at hxk (by simpa [inSpan] using c1) hn
   refine Z1 ?_
   refine .drawK 13 2 FM.out (by kernel_rfl) (k := ?_)
   refine Z24 ?_
   refine Rt4 ?_ ?_ ?_ ?_
   · exact VLe.int (by rw [hno]; rfl)
   · exact VLe.int (by rw [hno]; rfl)
   · exact VLe.int (by rw [hno]; rfl)
   exact VLe.prop (by rw [hno]; simp)
  refine Z7 ?_
  refine .round (k + 1) ⟨by omega, hn.succ hxk (by simpa [inSpan] using c1)⟩ (by omega) rfl ?_
  exact (.get rfl (VLe.int (by omega)) (.keep 20 rfl rfl))
 have hek : k = spansT.length := by have : spansT.length = 8 := rfl; omega
 subst hek
 refine Z14 ?_
 refine Rt4 ?_ ?_ ?_ ?_
 · exact VLe.int (by rw [numO_none hn]; rfl)
 · exact VLe.int (by rw [numO_none hn]; rfl)
 · exact VLe.int (by rw [numO_none hn]; rfl)
 exact VLe.prop (by rw [numO_none hn]; simp)
theorem numbered_spec {code : Int} : FnP Tryz.prog 236 [intV .i64 code] (tupV [aggV (encRow ((numberedO code).getD zeroR)), propV (numberedO code).isSome]) := by
 refine In 69 Tryz.func236 fun _ _ _ => ?_
 refine Z2 ?_
 refine .n (opAlloc Tryz.zb300) rfl fun b2 _ => ?_
 refine Z6 ?_
 refine .p (cA (h := numeric_spec)) rfl ?_
 refine Z18 ?_
 refine Cd (fun c0 => ?_) fun c0 => ?_
 ·
  have hno : numO code = none := by simpa using c0
  have hnm := numbered_none hno
  refine Z9 ?_
  refine Post.retR rfl rfl () trivial (fun _ _ _ _ => trivial) rfl (.cons (.ra (i := 0) Tryz.ag300 Tryz.cz300 rfl rfl rfl rfl) ?_ (.cons (.rt rfl) ?_ .nil))
  · simp only [hnm, Option.getD_none]; exact VLe.agg (.cons (VLe.refl _) (.cons strV_nil (.cons (VLe.refl _) (.cons strV_nil (.cons strV_nil .nil)))))
  exact VLe.prop (by rw [hnm]; simp)
 obtain ⟨⟨g, n, b⟩, hno⟩ := Option.isSome_iff_exists.1 (Classical.not_not.1 c0)
 obtain ⟨hn0, hng, hnb⟩ := numO_bounds hno
 have hnm := numbered_some hno
 simp only [hno, Option.getD_some]
 have hk4 := kind_len b
 have hlb := getD_len binT_len n.toNat
 have hlt := getD_len testT_len n.toNat
 have hlu := getD_len unT_len n.toNat
 refine Z4 ?_
 refine .p (opAssign (.s [105, 51, 50, 46] rfl rfl)) rfl ?_
 refine .p (opAssign (.s [105] rfl rfl)) rfl ?_
 refine Z9 ?_
 refine Cd (fun c1 => ?_) fun c1 => ?_
 ·
  refine Z1 ?_
  refine .p (opAssign (.s [105, 54, 52, 46] rfl rfl)) rfl ?_
  refine .p (opAssign (.s [108] rfl rfl)) rfl ?_
  refine Z11 ?_
  refine Cd (fun c2 => ?_) fun c2 => ?_
  ·
   refine Z4 ?_
   refine .p (cA (h := binaries_spec)) rfl ?_
   refine Z1 ?_
   refine .p (opIndexA1 Tryz.underlying341 Tryz.cz9 Tryz.ag9 (.t rfl) rfl (.t rfl) (by omega : _ = ((n.toNat : Nat) : Int)) (strs_at (by have : binT.length = 15 := rfl; omega))) rfl ?_
   refine .p (opCat (.t rfl) (.t rfl) (by simp only [List.length_cons, List.length_nil]; omega)) rfl ?_
   refine Z2 ?_
   refine .p (opCat (.t rfl) (.t rfl) (by simp only [List.length_cons, List.length_nil]; omega)) rfl ?_
   refine Z9 ?_
   refine Post.retR rfl rfl () trivial (fun _ _ _ _ => trivial) rfl (.cons (.ra (i := 0) Tryz.ag300 Tryz.cz300 rfl rfl rfl rfl) ?_ (.cons (.rt rfl) ?_ .nil))
   · simp only [hnm, Option.getD_some]; exact VLe.of_eq (by simp [numRow, encRow, kindS, oneS, *]; try rfl)
   exact VLe.prop (by rw [hnm]; simp)
  refine Z7 ?_
  refine Cd (fun c3 => ?_) fun c3 => ?_
  ·
   refine Z4 ?_
   refine .p (cA (h := tests_spec)) rfl ?_
   refine Z1 ?_
   refine .p (opIndexA1 Tryz.underlying343 Tryz.cz9 Tryz.ag9 (.t rfl) rfl (.t rfl) (by omega : _ = ((n.toNat : Nat) : Int)) (strs_at (by have : testT.length = 10 := rfl; omega))) rfl ?_
   refine .p (opCat (.t rfl) (.t rfl) (by simp only [List.length_cons, List.length_nil]; omega)) rfl ?_
   refine Z2 ?_
   refine .p (opCat (.t rfl) (.t rfl) (by simp only [List.length_cons, List.length_nil]; omega)) rfl ?_
   refine .p (opBuild Tryz.pl300 Tryz.zb300 (.cons (.t rfl) (.cons (.t rfl) (.cons (.c _) (.cons (.t rfl) (.cons (.s [105] rfl rfl) .nil))))) rfl) rfl ?_
   refine Z7 ?_
   refine Post.retR rfl rfl () trivial (fun _ _ _ _ => trivial) rfl (.cons (.ra (i := 0) Tryz.ag300 Tryz.cz300 rfl rfl rfl rfl) ?_ (.cons (.rt rfl) ?_ .nil))
   · simp only [hnm, Option.getD_some]; exact VLe.of_eq (by simp [numRow, encRow, kindS, oneS, *]; try rfl)
   exact VLe.prop (by rw [hnm]; simp)
  refine Z7 ?_
  refine Cd (fun c4 => ?_) fun c4 => ?_
  ·
   refine Z4 ?_
   refine .p (cA (h := unaries_spec)) rfl ?_
   refine Z1 ?_
   refine .p (opIndexA1 Tryz.underlying345 Tryz.cz9 Tryz.ag9 (.t rfl) rfl (.t rfl) (by omega : _ = ((n.toNat : Nat) : Int)) (strs_at (by have : unT.length = 4 := rfl; omega))) rfl ?_
   refine .p (opCat (.t rfl) (.t rfl) (by simp only [List.length_cons, List.length_nil]; omega)) rfl ?_
   refine Z1 ?_
   refine .p (opBuild Tryz.pl300 Tryz.zb300 (.cons (.t rfl) (.cons (.t rfl) (.cons (.c _) (.cons (.t rfl) (.cons (.s [105] rfl rfl) .nil))))) rfl) rfl ?_
   refine Z7 ?_
   refine Post.retR rfl rfl () trivial (fun _ _ _ _ => trivial) rfl (.cons (.ra (i := 0) Tryz.ag300 Tryz.cz300 rfl rfl rfl rfl) ?_ (.cons (.rt rfl) ?_ .nil))
   · simp only [hnm, Option.getD_some]; exact VLe.of_eq (by simp [numRow, encRow, kindS, oneS, *]; try rfl)
   exact VLe.prop (by rw [hnm]; simp)
  refine Z7 ?_
  refine .p (cA (h := unaries_spec)) rfl ?_
  refine Z1 ?_
  refine .p (opIndexA1 Tryz.underlying345 Tryz.cz9 Tryz.ag9 (.t rfl) rfl (.t rfl) (by omega : _ = ((n.toNat : Nat) : Int)) (strs_at (by have : unT.length = 4 := rfl; omega))) rfl ?_
  refine .p (opCat (.t rfl) (.t rfl) (by simp only [List.length_cons, List.length_nil]; omega)) rfl ?_
  refine Z8 ?_
  refine Post.retR rfl rfl () trivial (fun _ _ _ _ => trivial) rfl (.cons (.ra (i := 0) Tryz.ag300 Tryz.cz300 rfl rfl rfl rfl) ?_ (.cons (.rt rfl) ?_ .nil))
  · simp only [hnm, Option.getD_some]; exact VLe.of_eq (by simp [numRow, encRow, kindS, oneS, *]; try rfl)
  exact VLe.prop (by rw [hnm]; simp)
 refine Z11 ?_
 refine Cd (fun c5 => ?_) fun c5 => ?_
 ·
  refine Z4 ?_
  refine .p (cA (h := binaries_spec)) rfl ?_
  refine Z1 ?_
  refine .p (opIndexA1 Tryz.underlying341 Tryz.cz9 Tryz.ag9 (.t rfl) rfl (.t rfl) (by omega : _ = ((n.toNat : Nat) : Int)) (strs_at (by have : binT.length = 15 := rfl; omega))) rfl ?_
  refine .p (opCat (.t rfl) (.t rfl) (by simp only [List.length_cons, List.length_nil]; omega)) rfl ?_
  refine Z2 ?_
  refine .p (opCat (.t rfl) (.t rfl) (by simp only [List.length_cons, List.length_nil]; omega)) rfl ?_
  refine Z9 ?_
  refine Post.retR rfl rfl () trivial (fun _ _ _ _ => trivial) rfl (.cons (.ra (i := 0) Tryz.ag300 Tryz.cz300 rfl rfl rfl rfl) ?_ (.cons (.rt rfl) ?_ .nil))
  · simp only [hnm, Option.getD_some]; exact VLe.of_eq (by simp [numRow, encRow, kindS, oneS, *]; try rfl)
  exact VLe.prop (by rw [hnm]; simp)
 refine Z7 ?_
 refine Cd (fun c6 => ?_) fun c6 => ?_
 ·
  refine Z4 ?_
  refine .p (cA (h := tests_spec)) rfl ?_
  refine Z1 ?_
  refine .p (opIndexA1 Tryz.underlying343 Tryz.cz9 Tryz.ag9 (.t rfl) rfl (.t rfl) (by omega : _ = ((n.toNat : Nat) : Int)) (strs_at (by have : testT.length = 10 := rfl; omega))) rfl ?_
  refine .p (opCat (.t rfl) (.t rfl) (by simp only [List.length_cons, List.length_nil]; omega)) rfl ?_
  refine Z2 ?_
  refine .p (opCat (.t rfl) (.t rfl) (by simp only [List.length_cons, List.length_nil]; omega)) rfl ?_
  refine .p (opBuild Tryz.pl300 Tryz.zb300 (.cons (.t rfl) (.cons (.t rfl) (.cons (.c _) (.cons (.t rfl) (.cons (.s [105] rfl rfl) .nil))))) rfl) rfl ?_
  refine Z7 ?_
  refine Post.retR rfl rfl () trivial (fun _ _ _ _ => trivial) rfl (.cons (.ra (i := 0) Tryz.ag300 Tryz.cz300 rfl rfl rfl rfl) ?_ (.cons (.rt rfl) ?_ .nil))
  · simp only [hnm, Option.getD_some]; exact VLe.of_eq (by simp [numRow, encRow, kindS, oneS, *]; try rfl)
  exact VLe.prop (by rw [hnm]; simp)
 refine Z7 ?_
 refine Cd (fun c7 => ?_) fun c7 => ?_
 ·
  refine Z4 ?_
  refine .p (cA (h := unaries_spec)) rfl ?_
  refine Z1 ?_
  refine .p (opIndexA1 Tryz.underlying345 Tryz.cz9 Tryz.ag9 (.t rfl) rfl (.t rfl) (by omega : _ = ((n.toNat : Nat) : Int)) (strs_at (by have : unT.length = 4 := rfl; omega))) rfl ?_
  refine .p (opCat (.t rfl) (.t rfl) (by simp only [List.length_cons, List.length_nil]; omega)) rfl ?_
  refine Z1 ?_
  refine .p (opBuild Tryz.pl300 Tryz.zb300 (.cons (.t rfl) (.cons (.t rfl) (.cons (.c _) (.cons (.t rfl) (.cons (.s [105] rfl rfl) .nil))))) rfl) rfl ?_
  refine Z7 ?_
  refine Post.retR rfl rfl () trivial (fun _ _ _ _ => trivial) rfl (.cons (.ra (i := 0) Tryz.ag300 Tryz.cz300 rfl rfl rfl rfl) ?_ (.cons (.rt rfl) ?_ .nil))
  · simp only [hnm, Option.getD_some]; exact VLe.of_eq (by simp [numRow, encRow, kindS, oneS, *]; try rfl)
  exact VLe.prop (by rw [hnm]; simp)
 refine Z7 ?_
 refine .p (cA (h := unaries_spec)) rfl ?_
 refine Z1 ?_
 refine .p (opIndexA1 Tryz.underlying345 Tryz.cz9 Tryz.ag9 (.t rfl) rfl (.t rfl) (by omega : _ = ((n.toNat : Nat) : Int)) (strs_at (by have : unT.length = 4 := rfl; omega))) rfl ?_
 refine .p (opCat (.t rfl) (.t rfl) (by simp only [List.length_cons, List.length_nil]; omega)) rfl ?_
 refine Z8 ?_
 refine Post.retR rfl rfl () trivial (fun _ _ _ _ => trivial) rfl (.cons (.ra (i := 0) Tryz.ag300 Tryz.cz300 rfl rfl rfl rfl) ?_ (.cons (.rt rfl) ?_ .nil))
 · simp only [hnm, Option.getD_some]; exact VLe.of_eq (by simp [numRow, encRow, kindS, oneS, *]; try rfl)
 exact VLe.prop (by rw [hnm]; simp)
theorem at_spec {code : Int} : FnP Tryz.prog 204 [intV .i64 code] (tupV [aggV (encRow ((rowO code).getD zeroR)), propV (rowO code).isSome]) := by
 refine In 32 Tryz.func204 fun _ _ _ => ?_
 refine Z2 ?_
 refine .n (opAlloc Tryz.zb300) rfl fun b2 _ => ?_
 refine Z6 ?_
 refine .p (cA (h := rows_spec)) rfl ?_
 refine Z4 ?_
 refine .loopO (σ := Nat) (fun _ => _) (fun k => [(9, intV .i64 (k : Int))]) (fun k => k ≤ rowsT.length ∧ NotB (fun r : RowD => r.code = code) rowsT k) (fun k => rowsT.length - k) 0 ⟨by omega, NotB.zero _ _⟩ rfl ?_ ?_
 · exact (.get rfl (VLe.refl _) (.refl _ _))
 rintro k ⟨hk, hn⟩
 refine Z6 ?_
 refine Cd (fun c0 => ?_) fun c0 => ?_
 ·
  have hltk : k < rowsT.length := by have : rowsT.length = 47 := rfl; omega
  obtain ⟨x, hxk⟩ := getElem?_lt (xs := rowsT) (k := k) hltk
  refine Z6 ?_
  refine .p (opIndexA rowsT Tryz.underlying323 Tryz.cz300 rfl Tryz.ag300 (.t rfl) rfl rfl (.t rfl) rfl (by assumption)) rfl ?_
  refine .n (opAlloc Tryz.zb300) rfl fun b5 _ => ?_
  refine Z3 ?_
  refine .share (t := 5) (i := 0) rfl rfl ?_
  refine Z8 ?_
  refine Cd (fun c1 => ?_) fun c1 => ?_
  ·
   have hro := rowO_1 hxk c1 hn
   refine Z13 ?_
   refine Post.retR rfl rfl () trivial (fun _ _ _ _ => trivial) rfl (.cons (.ra (i := 0) Tryz.ag300 Tryz.cz300 rfl rfl rfl rfl) ?_ (.cons (.rt rfl) ?_ .nil))
   · rw [hro]; exact VLe.refl _
   exact VLe.prop (by rw [hro]; simp)
  refine Z7 ?_
  refine .round (k + 1) ⟨by omega, hn.succ hxk c1⟩ (by omega) rfl ?_
  exact (.get rfl (VLe.int (by omega)) (.keep 11 rfl rfl))
 have hek : k = rowsT.length := by have : rowsT.length = 47 := rfl; omega
 subst hek
 refine Z8 ?_
 refine .p (cA (h := late_spec)) rfl ?_
 refine Z4 ?_
 refine .loopO (σ := Nat) (fun _ => _) (fun j => [(19, intV .i64 (j : Int))]) (fun j => j ≤ lateT.length ∧ NotB (fun r : RowD => r.code = code) lateT j) (fun j => lateT.length - j) 0 ⟨by omega, NotB.zero _ _⟩ rfl ?_ ?_
 · exact (.get rfl (VLe.refl _) (.refl _ _))
 rintro j ⟨hj, hm⟩
 refine Z6 ?_
 refine Cd (fun c2 => ?_) fun c2 => ?_
 ·
  have hltj : j < lateT.length := by have : lateT.length = 6 := rfl; omega
  obtain ⟨y, hxj⟩ := getElem?_lt (xs := lateT) (k := j) hltj
  refine Z6 ?_
  refine .p (opIndexA lateT Tryz.underlying325 Tryz.cz300 rfl Tryz.ag300 (.t rfl) rfl rfl (.t rfl) rfl (by assumption)) rfl ?_
  refine .n (opAlloc Tryz.zb300) rfl fun b7 _ => ?_
  refine Z3 ?_
  refine .share (t := 7) (i := 0) rfl rfl ?_
  refine Z8 ?_
  refine Cd (fun c3 => ?_) fun c3 => ?_
  ·
   have hro := rowO_2 hn hxj c3 hm
   refine Z13 ?_
   refine Post.retR rfl rfl () trivial (fun _ _ _ _ => trivial) rfl (.cons (.ra (i := 0) Tryz.ag300 Tryz.cz300 rfl rfl rfl rfl) ?_ (.cons (.rt rfl) ?_ .nil))
   · rw [hro]; exact VLe.refl _
   exact VLe.prop (by rw [hro]; simp)
  refine Z7 ?_
  refine .round (j + 1) ⟨by omega, hm.succ hxj c3⟩ (by omega) rfl ?_
  exact (.get rfl (VLe.int (by omega)) (.keep 11 rfl rfl))
 have hej : j = lateT.length := by have : lateT.length = 6 := rfl; omega
 subst hej
 refine Z8 ?_
 refine .p (cA (h := numbered_spec)) rfl ?_
 refine Z7 ?_
 refine Post.retR rfl rfl () trivial (fun _ _ _ _ => trivial) rfl (.cons (.ra (i := 0) Tryz.ag300 Tryz.cz300 rfl rfl rfl rfl) ?_ (.cons (.rt rfl) ?_ .nil))
 · rw [rowO_3 hn hm]; exact VLe.refl _
 exact VLe.prop (by rw [rowO_3 hn hm])
theorem types_spec {l : List UInt8} (hp0 : Ascii l) (hp1 : l.length ≤ 65536) : FnP Tryz.prog 237 [strV l] (sliceV 1 encU8 (typesF l)) := by
 refine In 20 Tryz.func237 fun _ _ _ => ?_
 refine Z14 ?_
 refine .n (opRangeS Tryz.underlying9 (.t rfl)) rfl fun b7 _ => ?_
 refine Z3 ?_
 refine .ownNil 1 encU8 ?_
 refine .loopO (σ := Nat × SB) (fun s => [sliceH s.2 1 encU8 (typesF (l.take s.1)), iterH b7 l s.1]) (fun s => [(3, exactV (sval s.2 (typesF (l.take s.1)).length))]) (fun s => s.1 ≤ l.length) (fun s => l.length - s.1) (0, none) (by simp) (by simp [typesF]) ?_ ?_
 · exact (.get rfl (VLe.of_eq (by simp [sval])) (.refl _ _))
 rintro s hk
 have htl := typesF_len (l.take s.1)
 have htk : (l.take s.1).length ≤ l.length := by simp; omega
 refine Z2 ?_
 refine .n (opNextS (i := 1) hp0 (by omega) (.t rfl) rfl) rfl fun _ _ => ?_
 refine .p (opNext0 (.t rfl)) rfl ?_
 refine Z3 ?_
 refine Cd (fun c0 => ?_) fun c0 => ?_
 ·
  obtain ⟨x, hx⟩ := getElem?_lt (xs := l) (k := s.1) c0
  rw [show min (s.1 + 1) l.length = s.1 + 1 by omega]
  refine Z5 ?_
  refine .p (opNext2 (by assumption) (.t rfl)) rfl ?_
  refine Z9 ?_
  refine Cd (fun c1 => ?_) fun c1 => ?_
  ·
   refine Z2 ?_
   refine .p (cB encU8 [126]) rfl ?_
   refine .n (opAppend (i := 0) Tryz.underlying44 Tryz.underlying44 Tryz.cz107 rfl Tryz.zb107 rfl Tryz.by107 (.t rfl) (.t rfl) rfl (by first | omega | (simp <;> omega)) (by first | omega | (simp <;> omega))) rfl fun g15 _ => ?_
   refine Z3 ?_
   refine .round (s.1 + 1, (by first | exact g15 | exact g18)) (by omega) (by omega) (by first | (rw [typesF_l hx c1]; rfl) | (rw [typesF_i hx c1]; rfl)) ?_
   first | exact (.get rfl (VLe.of_eq (by rw [typesF_l hx c1])) (.keep 11 rfl rfl)) | exact (.get rfl (VLe.of_eq (by rw [typesF_i hx c1])) (.keep 11 rfl rfl))
  refine Z2 ?_
  refine .p (cB encU8 [127]) rfl ?_
  refine .n (opAppend (i := 0) Tryz.underlying44 Tryz.underlying44 Tryz.cz107 rfl Tryz.zb107 rfl Tryz.by107 (.t rfl) (.t rfl) rfl (by first | omega | (simp <;> omega)) (by first | omega | (simp <;> omega))) rfl fun g18 _ => ?_
  refine Z3 ?_
  refine .round (s.1 + 1, (by first | exact g15 | exact g18)) (by omega) (by omega) (by first | (rw [typesF_l hx c1]; rfl) | (rw [typesF_i hx c1]; rfl)) ?_
  first | exact (.get rfl (VLe.of_eq (by rw [typesF_l hx c1])) (.keep 11 rfl rfl)) | exact (.get rfl (VLe.of_eq (by rw [typesF_i hx c1])) (.keep 11 rfl rfl))
 have hall : l.take s.1 = l := List.take_of_length_le (by omega)
 rw [hall]
 refine .shareS (n := 1) (enc := encU8) (i := 0) (t := 3) rfl rfl ?_
 refine Z12 ?_
 refine Rt1 ?_
 exact VLe.refl _
theorem info_spec {r : RowD} (hp0 : RowOk r) : FnP Tryz.prog 205 [aggV (encRow r)] (aggV (encInfo (infoOf r))) := by
 refine In 16 Tryz.func205 fun _ _ _ => ?_
 refine Z3 ?_
 refine .n (opAlloc Tryz.zb271) rfl fun b2 _ => ?_
 refine Z3 ?_
 refine .drawK 12 2 FM.out (by kernel_rfl) (k := ?_)
 refine Z8 ?_
 refine .p (cA (h := types_spec hp0.1 (by have := hp0.2.2.1; omega))) ?_
 refine Z2 ?_
 refine .p (cA (h := types_spec hp0.2.1 (by have := hp0.2.2.2; omega))) ?_
 refine Z6 ?_
 refine Post.retR1 rfl () trivial (fun _ _ _ _ => trivial) (.ra (i := 0) Tryz.ag271 Tryz.cz271 rfl rfl rfl rfl) ?_
 exact VLe.refl _
theorem find_spec {code : Int} : FnP Tryz.prog 171 [intV .i64 code] (tupV [aggV (encInfo ((findI code).getD zeroI)), propV (findI code).isSome]) := by
 refine In 16 Tryz.func171 fun _ _ _ => ?_
 refine Z2 ?_
 refine .n (opAlloc Tryz.zb271) rfl fun b2 _ => ?_
 refine Z6 ?_
 refine .p (cA (h := at_spec)) rfl ?_
 refine Z3 ?_
 refine .n (opAlloc Tryz.zb300) rfl fun b4 _ => ?_
 refine Z4 ?_
 refine .share (t := 4) (i := 0) rfl rfl ?_
 refine Z7 ?_
 refine Cd (fun c0 => ?_) fun c0 => ?_
 ·
  have hro : rowO code = none := by simpa using c0
  have hfi : findI code = none := by unfold findI; rw [hro]; rfl
  refine Z9 ?_
  refine Post.retR rfl rfl () trivial (fun _ _ _ _ => trivial) rfl (.cons (.ra (i := 0) Tryz.ag271 Tryz.cz271 rfl rfl rfl rfl) ?_ (.cons (.rt rfl) ?_ .nil))
  · rw [hfi]; exact VLe.agg (.cons (VLe.refl _) (.cons strV_nil (.cons (VLe.refl _) (.cons (sliceV_nil _ _) (.cons (sliceV_nil _ _) .nil)))))
  exact VLe.prop (by rw [hfi]; simp)
 obtain ⟨r, hro⟩ := Option.isSome_iff_exists.1 (Classical.not_not.1 c0)
 have hfi : findI code = some (infoOf r) := by unfold findI; rw [hro]; rfl
 have hok := rowO_ok hro
 simp only [hro, Option.getD_some]
 refine Z5 ?_
 refine .p (cA (h := info_spec hok)) rfl ?_
 refine Z5 ?_
 refine Post.retR rfl rfl () trivial (fun _ _ _ _ => trivial) rfl (.cons (.ra (i := 0) Tryz.ag271 Tryz.cz271 rfl rfl rfl rfl) ?_ (.cons (.rt rfl) ?_ .nil))
 · rw [hfi]; exact VLe.refl _
 exact VLe.prop (by rw [hfi]; simp)
theorem width_spec {code : Int} : FnP Tryz.prog 232 [intV .i64 code] (tupV [intV .i64 ((widthO code).getD 0), propV (widthO code).isSome]) := by
 refine In 47 Tryz.func232 fun _ _ _ => ?_
 refine Z9 ?_
 refine .p (cA (h := find_spec)) rfl ?_
 refine Z3 ?_
 refine .n (opAlloc Tryz.zb271) rfl fun b4 _ => ?_
 refine Z4 ?_
 refine .share (t := 4) (i := 0) rfl rfl ?_
 refine Z12 ?_
 refine Cd (fun c0 => ?_) fun c0 => ?_
 ·
  have hwo : widthO code = none := by
    cases hf : findI code with
    | none => exact width_none1 hf
    | some x =>
      refine width_none2 hf (fun h8 => ?_)
      rw [hf] at c0; simp [h8] at c0
  refine Z8 ?_
  refine Rt2 ?_ ?_
  · exact VLe.int (by rw [hwo]; rfl)
  exact VLe.prop (by rw [hwo]; simp)
 obtain ⟨x, hfi⟩ : ∃ x, findI code = some x := Option.isSome_iff_exists.1 (Classical.byContradiction fun h => c0 (.inl h))
 simp only [hfi, Option.getD_some] at c0 ⊢
 have hf8 : x.Form = 8 := by simpa using c0
 have hwo := width_some hfi hf8
 obtain ⟨hne, hnl⟩ := name_ok hfi
 refine Z5 ?_
 refine .p (opBuildArr (cs := widthsT.flatMap encStrD) Tryz.ar336 Tryz.zb336 (.cons (.s [56] rfl rfl) (.cons (.s [49, 54] rfl rfl) (.cons (.s [51, 50] rfl rfl) .nil))) rfl) rfl ?_
 refine Z4 ?_
 refine .loopO (σ := Nat) (fun _ => []) (fun k => [(24, intV .i64 (k : Int))]) (fun k => k ≤ widthsT.length ∧ NotB (fun s => hasSuf (restW x.Name) s) widthsT k) (fun k => widthsT.length - k) 0 ⟨by omega, NotB.zero _ _⟩ rfl ?_ ?_
 · exact (.get rfl (VLe.refl _) (.refl _ _))
 rintro k ⟨hk, hn⟩
 refine Z6 ?_
 refine Cd (fun c1 => ?_) fun c1 => ?_
 ·
  have hltk : k < widthsT.length := by have : widthsT.length = 3 := rfl; omega
  obtain ⟨s, hxk⟩ := getElem?_lt (xs := widthsT) (k := k) hltk
  have hgk : widthsT.getD k [] = s := by rw [List.getD_eq_getElem?_getD, hxk]; rfl
  refine Z7 ?_
  refine .p (opIndexA1 Tryz.underlying336 Tryz.cz9 Tryz.ag9 (.t rfl) rfl (.t rfl) rfl (strs_at hltk)) rfl ?_
  refine Z8 ?_
  refine .p (opCall (cut_spec hne) Tryz.cb248 (.cons (.t rfl) (.cons (.s [46] rfl rfl) .nil))) rfl ?_
  refine Z12 ?_
  refine .p (opCall (trimSuffix_spec) Tryz.cb249 (.cons (.t rfl) (.cons (.s [95, 115] rfl rfl) .nil))) rfl ?_
  refine .p (opCall (trimSuffix_spec) Tryz.cb249 (.cons (.t rfl) (.cons (.s [95, 117] rfl rfl) .nil))) rfl ?_
  refine Z7 ?_
  refine .p (cA (h := hasSuffix_spec)) rfl ?_
  refine Z2 ?_
  refine Cd (fun c2 => ?_) fun c2 => ?_
  ·
   rw [hgk] at c2
   refine Z3 ?_
   refine .p (opShl (.c _) (.t rfl) (by have h3 : k < 3 := hltk; show k ≤ 64; omega)) rfl ?_
   refine Z10 ?_
   refine Rt2 ?_ ?_
   · exact VLe.int (by rw [hwo, widthF_at hxk c2 hn]; exact shl3 hltk)
   exact VLe.prop (by rw [hwo]; simp)
  rw [hgk] at c2
  refine Z7 ?_
  refine .round (k + 1) ⟨by omega, hn.succ hxk c2⟩ (by omega) rfl ?_
  exact (.get rfl (VLe.int (by omega)) (.keep 25 rfl rfl))
 have hek : k = widthsT.length := by have : widthsT.length = 3 := rfl; omega
 subst hek
 refine Z10 ?_
 refine .p (opCall (hasPrefix_spec) Tryz.cb251 (.cons (.t rfl) (.cons (.s [105, 54, 52] rfl rfl) .nil))) rfl ?_
 refine Z2 ?_
 refine Cd (fun c3 => ?_) fun c3 => ?_
 ·
  refine Z8 ?_
  refine Rt2 ?_ ?_
  · exact VLe.int (by rw [hwo, widthF_no hn, if_pos (by assumption)]; rfl)
  exact VLe.prop (by rw [hwo]; simp)
 refine Z9 ?_
 refine Rt2 ?_ ?_
 · exact VLe.int (by rw [hwo, widthF_no hn, if_neg (by assumption)]; rfl)
 exact VLe.prop (by rw [hwo]; simp)
end Go.Proofs.YtmmdlhjcmlekfaaGreatDoor
end
section
namespace Go.Proofs.YtmmdlhjcmlekfaaGreatDoor
open Go.Hl Go.RowKit
theorem len64_spec {a : Nat} (hp0 : a < 18446744073709551616) : FnP Tryz.prog 92 [uV a] (iV (blN a : Int)) := by
 refine In 25 Tryz.func92 fun _ _ _ => ?_
 refine Z5 ?_
 refine .cut (σ := Nat × Nat) (fun _ => []) (fun g => [(0, uV g.1), (2, iV (g.2 : Int))]) (fun g => blN a = blN g.1 + g.2 ∧ g.1 < 4294967296 ∧ g.2 ≤ 32) ?_ ?_
 ·
  refine Z6 ?_
  refine Cd (fun c0 => ?_) fun c0 => ?_
  ·
   refine Z3 ?_
   refine .p (opShrN (s := 32) (.t rfl) (.c _) (by decide)) rfl ?_
   refine Z6 ?_
   refine .meet (a / 2 ^ 32, 32) ⟨bl_div (by omega), by omega, by omega⟩ rfl (.get rfl (VLe.refl _) (.get rfl (VLe.refl _) (.keep 6 rfl rfl)))
  refine Z1 ?_
  refine .meet (a, 0) ⟨rfl, by omega, by omega⟩ rfl (.get rfl (VLe.refl _) (.get rfl (VLe.refl _) (.keep 2 rfl rfl)))
 intro ⟨x, n⟩ ⟨h1, h2, h3⟩
 simp only at h1 h2 h3 ⊢
 refine .cut (σ := Nat × Nat) (fun _ => []) (fun g => [(0, uV g.1), (2, iV (g.2 : Int))]) (fun g => blN a = blN g.1 + g.2 ∧ g.1 < 65536 ∧ g.2 ≤ 48) ?_ ?_
 ·
  refine Z6 ?_
  refine Cd (fun c1 => ?_) fun c1 => ?_
  ·
   refine Z3 ?_
   refine .p (opShrN (s := 16) (.t rfl) (.c _) (by decide)) rfl ?_
   refine Z8 ?_
   refine .meet (x / 2 ^ 16, n + 16) ⟨by have := bl_div (a := x) (k := 16) (by omega); simp only; omega, by omega, by omega⟩ rfl (.get rfl (VLe.refl _) (.get rfl (VLe.refl _) (.keep 8 rfl rfl)))
  refine Z1 ?_
  refine .meet (x, n) ⟨h1, by omega, by omega⟩ rfl (.get rfl (VLe.refl _) (.get rfl (VLe.refl _) (.keep 2 rfl rfl)))
 intro ⟨y, m⟩ ⟨k1, k2, k3⟩
 simp only at k1 k2 k3 ⊢
 refine .cut (σ := Nat × Nat) (fun _ => []) (fun g => [(0, uV g.1), (2, iV (g.2 : Int))]) (fun g => blN a = blN g.1 + g.2 ∧ g.1 < 256 ∧ g.2 ≤ 56) ?_ ?_
 ·
  refine Z6 ?_
  refine Cd (fun c2 => ?_) fun c2 => ?_
  ·
   refine Z3 ?_
   refine .p (opShrN (s := 8) (.t rfl) (.c _) (by decide)) rfl ?_
   refine Z8 ?_
   refine .meet (y / 2 ^ 8, m + 8) ⟨by have := bl_div (a := y) (k := 8) (by omega); simp only; omega, by omega, by omega⟩ rfl (.get rfl (VLe.refl _) (.get rfl (VLe.refl _) (.keep 8 rfl rfl)))
  refine Z1 ?_
  refine .meet (y, m) ⟨k1, by omega, by omega⟩ rfl (.get rfl (VLe.refl _) (.get rfl (VLe.refl _) (.keep 2 rfl rfl)))
 intro ⟨z, q⟩ ⟨j1, j2, j3⟩
 simp only at j1 j2 j3 ⊢
 have hbz := bl_le (a := z) (n := 8) (by omega)
 refine Z5 ?_
 refine .p (opIndexS Tryz.underlying9 (.s len8L (by decide +kernel) (by decide)) (.t rfl) rfl (len8_at j2)) rfl ?_
 refine .p (opConvF Tryz.underlying5 Tryz.underlying3 (.t rfl) (fits_i64 (by rw [bl8 z j2]; omega) (by rw [bl8 z j2]; omega))) rfl ?_
 refine .p (opAddF (.t rfl) (.t rfl) (fits_i64 (by rw [bl8 z j2]; omega) (by rw [bl8 z j2]; omega))) rfl ?_
 refine Z4 ?_
 refine Rt1 ?_
 exact VLe.int (by rw [bl8 z j2]; omega)
theorem clz64_spec {a : Nat} (hp0 : a < 18446744073709551616) : FnP Tryz.prog 176 [uV a] (iV (64 - (blN a : Int))) := by
 refine In 6 Tryz.func176 fun _ _ _ => ?_
 have hb := bl_le (a := a) (n := 64) hp0
 refine Z8 ?_
 refine .p (cA (h := len64_spec hp0)) rfl ?_
 refine Z5 ?_
 refine Rt1 ?_
 exact VLe.refl _
theorem ctz64_spec {a : Nat} (hp0 : a < 18446744073709551616) : FnE Tryz.prog 177 [uV a] [tabH 0 .u8 Lib.deBruijn64tab] (γ := Unit) (fun _ => True) (fun _ => []) (fun _ => iV (Lib.ctz 64 a : Int)) := by
 refine In 14 Tryz.func177 fun _ _ _ => ?_
 refine Z12 ?_
 refine Cd (fun c0 => ?_) fun c0 => ?_
 ·
  have ha0 : a = 0 := by omega
  subst ha0
  refine Z7 ?_
  refine Rt1 ?_
  exact VLe.refl _
 have ha0 : a ≠ 0 := by omega
 obtain ⟨hlow, hk⟩ := Lib.lowest_bit 64 a ha0 hp0
 obtain ⟨hi, htab⟩ := Lib.deBruijn64_at _ hk
 refine Z6 ?_
 refine .p ((opNeg (.t rfl)).le (VLe.int (show _ = ((18446744073709551616 - a : Nat) : Int) by rw [IntKind.wrap_u64]; omega))) rfl ?_
 refine .p ((opAnd_u64 (by omega) (by omega) (.t rfl) (.t rfl)).le (VLe.int (congrArg Nat.cast hlow))) rfl ?_
 refine .p ((opMul_u64 (a := 2 ^ Lib.ctz 64 a) (b := 285870213051353865) (.t rfl) (.c _)).le (VLe.refl _)) rfl ?_
 refine .p (opShrN (s := 58) (.t rfl) (.c _) (by decide)) rfl ?_
 refine .p (opIndexAddrO (2 ^ Lib.ctz 64 a * 285870213051353865 % 18446744073709551616 / 2 ^ 58) Tryz.underlying304 Tryz.cz5 rfl (.g 0) (.t rfl) rfl (by omega)) rfl ?_
 refine .p ((opLoadTab (i := 0) Tryz.ag5 (.t rfl) rfl (by have h64 : Lib.deBruijn64tab.length = 64 := rfl; rw [Nat.zero_add, Nat.mul_one, h64]; exact hi)).le (VLe.int (show _ = ((Lib.ctz 64 a : Nat) : Int) from congrArg Nat.cast (by rw [Nat.zero_add, Nat.mul_one]; exact htab)))) rfl ?_
 refine Z5 ?_
 refine Rt1 ?_
 exact VLe.refl _
theorem pop64_spec {a : Nat} (hp0 : a < 18446744073709551616) : FnP Tryz.prog 178 [uV a] (iV (popN 64 a : Int)) := by
 refine In 35 Tryz.func178 fun _ _ _ => ?_
 obtain ⟨z1, z2, z3, z4, z5, z6⟩ := @ones64 a _ _ _ _ _ hp0 rfl rfl rfl rfl rfl
 generalize hy1 : (a / 2 &&& 6148914691236517205) + (a &&& 6148914691236517205) = y1 at *
 generalize hy2 : (y1 / 4 &&& 3689348814741910323) + (y1 &&& 3689348814741910323) = y2 at *
 generalize hy3 : (y2 / 16 + y2) &&& 1085102592571150095 = y3 at *
 refine Z8 ?_
 refine .p (opShrN (s := 1) (.t rfl) (.c _) (by decide)) rfl ?_
 refine .p (opAnd_u64 (b := 6148914691236517205) (by omega) (by decide) (.t rfl) (.c _)) rfl ?_
 refine Z1 ?_
 refine .p (opAnd_u64 (b := 6148914691236517205) (by omega) (by decide) (.t rfl) (.c _)) rfl ?_
 refine .p ((opAdd_u64 (.t rfl) (.t rfl)).le (VLe.int (show _ = (y1 : Int) by rw [← hy1]; rw [← hy1] at z1; exact congrArg Nat.cast (Nat.mod_eq_of_lt z1)))) rfl ?_
 refine Z6 ?_
 refine .p (opShrN (s := 2) (.t rfl) (.c _) (by decide)) rfl ?_
 refine .p (opAnd_u64 (b := 3689348814741910323) (by omega) (by decide) (.t rfl) (.c _)) rfl ?_
 refine Z1 ?_
 refine .p (opAnd_u64 (b := 3689348814741910323) (by omega) (by decide) (.t rfl) (.c _)) rfl ?_
 refine .p ((opAdd_u64 (.t rfl) (.t rfl)).le (VLe.int (show _ = (y2 : Int) by rw [← hy2]; rw [← hy2] at z2; exact congrArg Nat.cast (Nat.mod_eq_of_lt z2)))) rfl ?_
 refine Z6 ?_
 refine .p (opShrN (s := 4) (.t rfl) (.c _) (by decide)) rfl ?_
 refine Z1 ?_
 refine .p ((opAdd_u64 (.t rfl) (.t rfl)).le (VLe.int (show _ = ((y2 / 16 + y2 : Nat) : Int) from congrArg Nat.cast (Nat.mod_eq_of_lt z3)))) rfl ?_
 refine .p ((opAnd_u64 (b := 1085102592571150095) (by omega) (by decide) (.t rfl) (.c _)).le (VLe.int (congrArg Nat.cast hy3))) rfl ?_
 refine Z7 ?_
 refine .p (opShrN (s := 8) (.t rfl) (.c _) (by decide)) rfl ?_
 refine .p ((opAdd_u64 (.t rfl) (.t rfl)).le (VLe.int (show _ = ((y3 + y3 / 256 : Nat) : Int) from congrArg Nat.cast (Nat.mod_eq_of_lt (by omega))))) rfl ?_
 refine Z7 ?_
 refine .p (opShrN (s := 16) (.t rfl) (.c _) (by decide)) rfl ?_
 refine .p ((opAdd_u64 (.t rfl) (.t rfl)).le (VLe.int (show _ = (((y3 + y3 / 256) + (y3 + y3 / 256) / 65536 : Nat) : Int) from congrArg Nat.cast (Nat.mod_eq_of_lt (by omega))))) rfl ?_
 refine Z7 ?_
 refine .p (opShrN (s := 32) (.t rfl) (.c _) (by decide)) rfl ?_
 refine .p ((opAdd_u64 (.t rfl) (.t rfl)).le (VLe.int (show _ = ((((y3 + y3 / 256) + (y3 + y3 / 256) / 65536) + ((y3 + y3 / 256) + (y3 + y3 / 256) / 65536) / 4294967296 : Nat) : Int) from congrArg Nat.cast (Nat.mod_eq_of_lt (by omega))))) rfl ?_
 refine Z7 ?_
 refine .p (opAnd_i64 (b := 127) (by omega) (by decide) (.t rfl) (.c _)) rfl ?_
 refine Z4 ?_
 refine Rt1 ?_
 exact VLe.int (congrArg Nat.cast ((and127 _).trans z5))
theorem rotl32_spec {a : Nat} {k : Int} (hp0 : a < 4294967296) : FnP Tryz.prog 238 [intV .u32 (a : Int), iV k] (intV .u32 (rotF 32 a (k % 32).toNat : Int)) := by
 refine In 17 Tryz.func238 fun _ _ _ => ?_
 have hk0 := Int.emod_nonneg k (show (32 : Int) ≠ 0 by decide)
 have hk1 := Int.emod_lt_of_pos k (show (0 : Int) < 32 by decide)
 have hda := Nat.div_le_self a
 refine Z8 ?_
 refine .p ((opConv Tryz.underlying3 Tryz.underlying142 (.t rfl)).le (VLe.int (u64_cast k))) rfl ?_
 refine .p ((opAnd_u64 (b := 31) (by omega) (by decide) (.t rfl) (.c _)).le (VLe.int (congrArg Nat.cast (and31 k)))) rfl ?_
 refine Z7 ?_
 refine .p (opShl_u32 (.t rfl) (.t rfl) (by omega)) rfl ?_
 refine Z2 ?_
 refine .p ((opSub_u64 (a := 32) (by omega) (.c _) (.t rfl)).le (VLe.int (show _ = ((32 - (k % 32).toNat : Nat) : Int) by omega))) rfl ?_
 refine .p (opShrN (.t rfl) (.t rfl) (by show _ ≤ 32; omega)) rfl ?_
 refine .p (opOr_u32 (Nat.mod_lt _ (by decide)) (Nat.lt_of_le_of_lt (hda _) hp0) (.t rfl) (.t rfl)) rfl ?_
 refine Z4 ?_
 refine Rt1 ?_
 exact VLe.int (congrArg Nat.cast (rot_or (n := 32) hp0 (by omega)))
theorem rotl64_spec {a : Nat} {k : Int} (hp0 : a < 18446744073709551616) : FnP Tryz.prog 239 [intV .u64 (a : Int), iV k] (intV .u64 (rotF 64 a (k % 64).toNat : Int)) := by
 refine In 17 Tryz.func239 fun _ _ _ => ?_
 have hk0 := Int.emod_nonneg k (show (64 : Int) ≠ 0 by decide)
 have hk1 := Int.emod_lt_of_pos k (show (0 : Int) < 64 by decide)
 have hda := Nat.div_le_self a
 refine Z8 ?_
 refine .p ((opConv Tryz.underlying3 Tryz.underlying142 (.t rfl)).le (VLe.int (u64_cast k))) rfl ?_
 refine .p ((opAnd_u64 (b := 63) (by omega) (by decide) (.t rfl) (.c _)).le (VLe.int (congrArg Nat.cast (and63 k)))) rfl ?_
 refine Z7 ?_
 refine .p (opShl_u64 (.t rfl) (.t rfl) (by omega)) rfl ?_
 refine Z2 ?_
 refine .p ((opSub_u64 (a := 64) (by omega) (.c _) (.t rfl)).le (VLe.int (show _ = ((64 - (k % 64).toNat : Nat) : Int) by omega))) rfl ?_
 refine .p (opShrN (.t rfl) (.t rfl) (by show _ ≤ 64; omega)) rfl ?_
 refine .p (opOr_u64 (Nat.mod_lt _ (by decide)) (Nat.lt_of_le_of_lt (hda _) hp0) (.t rfl) (.t rfl)) rfl ?_
 refine Z4 ?_
 refine Rt1 ?_
 exact VLe.int (congrArg Nat.cast (rot_or (n := 64) hp0 (by omega)))
theorem wright_spec {m : Int} : FnP Tryz.prog 175 [iV m] (propV (m = 32 ∨ m = 64)) := by
 refine In 9 Tryz.func175 fun _ _ _ => ?_
 refine Z17 ?_
 refine Rt1 ?_
 exact VLe.refl _
theorem wcut_spec {n a : Nat} (hp0 : WN n) (hp1 : a < 18446744073709551616) : FnP Tryz.prog 172 [iV (n : Int), uV a] (uV (a % 2 ^ n)) := by
 refine In 11 Tryz.func172 fun _ _ _ => ?_
 refine Z12 ?_
 refine Cd (fun c0 => ?_) fun c0 => ?_
 ·
  have hn : n = 32 := by omega
  subst hn
  refine Z3 ?_
  refine .p (opConv Tryz.underlying58 Tryz.underlying175 (.t rfl)) rfl ?_
  refine .p (opConv Tryz.underlying175 Tryz.underlying58 (.t rfl)) rfl ?_
  refine Z5 ?_
  refine Rt1 ?_
  exact VLe.int (by rw [IntKind.wrap_u64, IntKind.wrap_u32]; omega)
 have hn : n = 64 := by rcases hp0 with h | h <;> omega
 subst hn
 refine Z9 ?_
 refine Rt1 ?_
 exact VLe.int (by omega)
theorem wsign_spec {n a : Nat} (hp0 : WN n) (hp1 : a < 2 ^ n) : FnP Tryz.prog 206 [iV (n : Int), uV a] (iV (sgnN n a)) := by
 refine In 12 Tryz.func206 fun _ _ _ => ?_
 refine Z12 ?_
 refine Cd (fun c0 => ?_) fun c0 => ?_
 ·
  have hn : n = 32 := by omega
  subst hn
  refine Z3 ?_
  refine .p (opConv Tryz.underlying58 Tryz.underlying21 (.t rfl)) rfl ?_
  refine .p (opConv Tryz.underlying21 Tryz.underlying2 (.t rfl)) rfl ?_
  refine Z5 ?_
  refine Rt1 ?_
  exact VLe.int (by rw [← sgn32, Nat.mod_eq_of_lt hp1])
 have hn : n = 64 := by rcases hp0 with h | h <;> omega
 subst hn
 refine Z5 ?_
 refine .p (opConv Tryz.underlying58 Tryz.underlying2 (.t rfl)) rfl ?_
 refine Z4 ?_
 refine Rt1 ?_
 exact VLe.int (sgn64 hp1).symm
theorem wrest_spec {a b : Int} (hp0 : b ≠ 0) : FnP Tryz.prog 207 [iV a, iV b] (iV (a.tmod b)) := by
 refine In 10 Tryz.func207 fun _ _ _ => ?_
 refine Z12 ?_
 refine Cd (fun c0 => ?_) fun c0 => ?_
 ·
  refine Z7 ?_
  refine Rt1 ?_
  exact VLe.int (by rw [c0, Int.tmod_neg, Int.tmod_one])
 refine Z6 ?_
 refine .p (opRemT (.t rfl) (.t rfl) hp0) rfl ?_
 refine Z4 ?_
 refine Rt1 ?_
 exact VLe.refl _
theorem wturn_spec {n a : Nat} {k : Int} (hp0 : WN n) (hp1 : a < 2 ^ n) : FnP Tryz.prog 208 [iV (n : Int), uV a, iV k] (uV (rotF n a (k % n).toNat)) := by
 refine In 17 Tryz.func208 fun _ _ _ => ?_
 refine Z12 ?_
 refine Cd (fun c0 => ?_) fun c0 => ?_
 ·
  have hn : n = 32 := by omega
  subst hn
  have hr := rot_lt (n := 32) (k := (k % 32).toNat) hp1 (by omega)
  refine Z5 ?_
  refine .p (cA (h := rotl32_spec hp1)) rfl ?_
  refine Z6 ?_
  refine Rt1 ?_
  exact VLe.refl _
 have hn : n = 64 := by rcases hp0 with h | h <;> omega
 subst hn
 refine Z6 ?_
 refine .p (cA (h := rotl64_spec hp1)) rfl ?_
 refine Z4 ?_
 refine Rt1 ?_
 exact VLe.refl _
theorem wis_spec {p : Prop} : FnP Tryz.prog 179 [propV p] (uV (isN p)) := by
 refine In 4 Tryz.func179 fun _ _ _ => ?_
 refine Z11 ?_
 refine Cd (fun c0 => ?_) fun c0 => ?_
 ·
  refine Z7 ?_
  refine Rt1 ?_
  exact VLe.int (by rw [isN_pos c0]; rfl)
 refine Z8 ?_
 refine Rt1 ?_
 exact VLe.int (by rw [isN_neg c0]; rfl)
theorem wless_spec {n a b : Nat} {s : Prop} [Decidable s] (hp0 : WN n) (hp1 : a < 2 ^ n) (hp2 : b < 2 ^ n) : FnP Tryz.prog 180 [propV s, iV (n : Int), uV a, uV b] (propV (lessF n s a b)) := by
 refine In 20 Tryz.func180 fun _ _ _ => ?_
 refine Z11 ?_
 refine Cd (fun c0 => ?_) fun c0 => ?_
 ·
  refine Z4 ?_
  refine .p (cA (h := wsign_spec hp0 hp1)) rfl ?_
  refine Z2 ?_
  refine .p (cA (h := wsign_spec hp0 hp2)) rfl ?_
  refine Z6 ?_
  refine Rt1 ?_
  exact VLe.prop (by unfold lessF; rw [if_pos c0])
 refine Z11 ?_
 refine Rt1 ?_
 exact VLe.prop (by unfold lessF; rw [if_neg c0]; omega)
theorem wdivides_spec {n A B : Nat} {op : Int} (hp0 : WN n) (hp1 : A < 2 ^ n) (hp2 : B < 2 ^ n) : FnP Tryz.prog 181 [iV op, iV (n : Int), uV A, uV B] (iV (trapF n op A B)) := by
 refine In 35 Tryz.func181 fun _ _ _ => ?_
 have hn1 : 1 ≤ n ∧ n ≤ 64 := by rcases hp0 with rfl | rfl <;> omega
 have hpn : 1 * 2 ^ (n - 1) % 18446744073709551616 = 2 ^ (n - 1) := by rcases hp0 with rfl | rfl <;> rfl
 refine Z18 ?_
 refine Cd (fun c0 => ?_) fun c0 => ?_
 ·
  refine Z9 ?_
  refine Rt1 ?_
  exact VLe.int (by unfold trapF; rw [if_pos c0])
 refine Z7 ?_
 refine Cd (fun c1 => ?_) fun c1 => ?_
 ·
  refine Z8 ?_
  refine Rt1 ?_
  exact VLe.int (by unfold trapF; rw [if_neg c0, if_pos (by omega)])
 refine Z7 ?_
 refine .g (OpG.gT rfl rfl rfl rfl (fun hg => opCall (wsign_spec hp0 hp2) Tryz.cb206 (.cons (.when (.t rfl) hg) (.cons (.when (.t rfl) hg) .nil)))) rfl rfl ?_
 refine Z6 ?_
 refine .g (OpG.gT rfl rfl rfl rfl (fun hg => (opShl_u64 (a := 1) (s := n - 1) (.c _) (.le (.when (.t rfl) hg) (VLe.int (by omega))) (by omega)).le (VLe.int (congrArg Nat.cast hpn)))) rfl rfl ?_
 refine Z5 ?_
 refine Cd (fun c2 => ?_) fun c2 => ?_
 ·
  refine Z8 ?_
  refine Rt1 ?_
  exact VLe.int (by unfold trapF; rw [if_neg c0, if_neg (by omega), if_pos ⟨c2.1.1, c2.1.2, by omega⟩])
 refine Z9 ?_
 refine Rt1 ?_
 exact VLe.int (by unfold trapF; rw [if_neg c0, if_neg (by omega), if_neg (fun h => c2 ⟨⟨h.1, h.2.1⟩, by omega⟩)])
theorem warith_spec {n A B : Nat} {op : Int} (hp0 : WN n) (hp1 : A < 2 ^ n) (hp2 : B < 2 ^ n) (hp3 : 0 ≤ op) (hp4 : op < 7) (hp5 : 3 ≤ op → B ≠ 0) : FnP Tryz.prog 182 [iV op, iV (n : Int), uV A, uV B] (uV (arithW n op A B)) := by
 refine In 53 Tryz.func182 fun _ _ _ => ?_
 have hA64 := lt64 hp0 hp1
 have hB64 := lt64 hp0 hp2
 refine Z18 ?_
 refine Cd (fun c0 => ?_) fun c0 => ?_
 ·
  refine Z4 ?_
  refine .p (opAdd_u64 (.t rfl) (.t rfl)) rfl ?_
  refine Z6 ?_
  refine Rt1 ?_
  exact VLe.int (by unfold arithW; rw [if_pos c0])
 refine Z6 ?_
 refine Cd (fun c1 => ?_) fun c1 => ?_
 ·
  refine Z4 ?_
  refine .p (opSub_u64 (by omega) (.t rfl) (.t rfl)) rfl ?_
  refine Z6 ?_
  refine Rt1 ?_
  exact VLe.int (by unfold arithW; rw [if_neg c0, if_pos c1])
 refine Z6 ?_
 refine Cd (fun c2 => ?_) fun c2 => ?_
 ·
  refine Z4 ?_
  refine .p (opMul_u64 (.t rfl) (.t rfl)) rfl ?_
  refine Z6 ?_
  refine Rt1 ?_
  exact VLe.int (by unfold arithW; rw [if_neg c0, if_neg c1, if_pos c2])
 refine Z6 ?_
 refine Cd (fun c3 => ?_) fun c3 => ?_
 ·
  refine Z4 ?_
  refine .p (cA (h := wsign_spec hp0 hp1)) rfl ?_
  refine Z2 ?_
  refine .p (cA (h := wsign_spec hp0 hp2)) rfl ?_
  refine .p (opQuoT (.t rfl) (.t rfl) (sgn_ne0 hp0 hp2 (hp5 (by omega)))) rfl ?_
  refine .p (opConv Tryz.underlying2 Tryz.underlying58 (.t rfl)) rfl ?_
  refine Z6 ?_
  refine Rt1 ?_
  exact VLe.int (by unfold arithW; rw [if_neg c0, if_neg c1, if_neg c2, if_pos c3]; try (rw [← u64_cast]; rw [IntKind.wrap_u64, IntKind.wrap_u64, IntKind.wrap_i64]; omega))
 refine Z6 ?_
 refine Cd (fun c4 => ?_) fun c4 => ?_
 ·
  refine Z4 ?_
  refine .p (opQuo_u64 ⟨Nat.pos_of_ne_zero (hp5 (by omega)), hA64⟩ (.t rfl) (.t rfl)) rfl ?_
  refine Z6 ?_
  refine Rt1 ?_
  exact VLe.int (by unfold arithW; rw [if_neg c0, if_neg c1, if_neg c2, if_neg c3, if_pos c4])
 refine Z6 ?_
 refine Cd (fun c5 => ?_) fun c5 => ?_
 ·
  refine Z4 ?_
  refine .p (cA (h := wsign_spec hp0 hp1)) rfl ?_
  refine Z2 ?_
  refine .p (cA (h := wsign_spec hp0 hp2)) rfl ?_
  refine .p (cA (h := wrest_spec (sgn_ne0 hp0 hp2 (hp5 (by omega))))) rfl ?_
  refine .p (opConv Tryz.underlying2 Tryz.underlying58 (.t rfl)) rfl ?_
  refine Z6 ?_
  refine Rt1 ?_
  exact VLe.int (by unfold arithW; rw [if_neg c0, if_neg c1, if_neg c2, if_neg c3, if_neg c4, if_pos c5]; exact u64_cast _)
 refine Z7 ?_
 refine .p (opRem_u64 (Nat.pos_of_ne_zero (hp5 (by omega))) (.t rfl) (.t rfl)) rfl ?_
 refine Z4 ?_
 refine Rt1 ?_
 exact VLe.int (by unfold arithW; rw [if_neg c0, if_neg c1, if_neg c2, if_neg c3, if_neg c4, if_neg c5])
theorem wbitwise_spec {n A B : Nat} {op : Int} (hp0 : WN n) (hp1 : A < 2 ^ n) (hp2 : B < 2 ^ n) (hp3 : 7 ≤ op) : FnP Tryz.prog 183 [iV op, iV (n : Int), uV A, uV B] (uV (bitsW n op A B)) := by
 refine In 60 Tryz.func183 fun _ _ _ => ?_
 have hA64 := lt64 hp0 hp1
 have hB64 := lt64 hp0 hp2
 have hn1 : 1 ≤ n ∧ n ≤ 64 := by rcases hp0 with rfl | rfl <;> omega
 have hk := Nat.mod_lt B (show 0 < n by omega)
 refine Z10 ?_
 refine .p (opRem_u64 (by omega) (.t rfl) (.t rfl)) rfl ?_
 refine Z17 ?_
 refine Cd (fun c0 => ?_) fun c0 => ?_
 ·
  refine Z4 ?_
  refine .p (opAnd_u64 (by omega) (by omega) (.t rfl) (.t rfl)) rfl ?_
  refine Z6 ?_
  refine Rt1 ?_
  exact VLe.int (by unfold bitsW; rw [if_pos c0])
 refine Z6 ?_
 refine Cd (fun c1 => ?_) fun c1 => ?_
 ·
  refine Z4 ?_
  refine .p (opOr_u64 (by omega) (by omega) (.t rfl) (.t rfl)) rfl ?_
  refine Z6 ?_
  refine Rt1 ?_
  exact VLe.int (by unfold bitsW; rw [if_neg c0, if_pos c1])
 refine Z6 ?_
 refine Cd (fun c2 => ?_) fun c2 => ?_
 ·
  refine Z4 ?_
  refine .p (opXor_u64 (by omega) (by omega) (.t rfl) (.t rfl)) rfl ?_
  refine Z6 ?_
  refine Rt1 ?_
  exact VLe.int (by unfold bitsW; rw [if_neg c0, if_neg c1, if_pos c2])
 refine Z6 ?_
 refine Cd (fun c3 => ?_) fun c3 => ?_
 ·
  refine Z4 ?_
  refine .p (opShl_u64 (.t rfl) (.t rfl) (by omega)) rfl ?_
  refine Z6 ?_
  refine Rt1 ?_
  exact VLe.int (by unfold bitsW; rw [if_neg c0, if_neg c1, if_neg c2, if_pos c3])
 refine Z6 ?_
 refine Cd (fun c4 => ?_) fun c4 => ?_
 ·
  refine Z4 ?_
  refine .p (cA (h := wsign_spec hp0 hp1)) rfl ?_
  refine Z1 ?_
  refine .p (opShr (.t rfl) (.t rfl) (by show _ ≤ 64; omega)) rfl ?_
  refine .p ((opConv Tryz.underlying2 Tryz.underlying58 (.t rfl)).le (VLe.int (u64_cast _))) rfl ?_
  refine Z6 ?_
  refine Rt1 ?_
  exact VLe.int (by unfold bitsW; rw [if_neg c0, if_neg c1, if_neg c2, if_neg c3, if_pos c4])
 refine Z6 ?_
 refine Cd (fun c5 => ?_) fun c5 => ?_
 ·
  refine Z4 ?_
  refine .p (opShrN (.t rfl) (.t rfl) (by show _ ≤ 64; omega)) rfl ?_
  refine Z6 ?_
  refine Rt1 ?_
  exact VLe.int (by unfold bitsW; rw [if_neg c0, if_neg c1, if_neg c2, if_neg c3, if_neg c4, if_pos c5])
 refine Z6 ?_
 refine Cd (fun c6 => ?_) fun c6 => ?_
 ·
  refine Z5 ?_
  refine .p (cA (h := wturn_spec hp0 hp1)) rfl ?_
  refine Z6 ?_
  refine Rt1 ?_
  exact VLe.int (by unfold bitsW; rw [if_neg c0, if_neg c1, if_neg c2, if_neg c3, if_neg c4, if_neg c5, if_pos c6]; rw [rot_pos hk])
 refine Z8 ?_
 refine .p (opNegF (.t rfl) fits_z) rfl ?_
 refine .p (cA (h := wturn_spec hp0 hp1)) rfl ?_
 refine Z4 ?_
 refine Rt1 ?_
 exact VLe.int (by unfold bitsW; rw [if_neg c0, if_neg c1, if_neg c2, if_neg c3, if_neg c4, if_neg c5, if_neg c6]; rw [rot_neg hk])
theorem wbinary_spec {n a b : Nat} {op : Int} (hp0 : WN n) (hp1 : a < 18446744073709551616) (hp2 : b < 18446744073709551616) (hp3 : 0 ≤ op) (hp4 : op < 15) : FnP Tryz.prog 136 [iV op, iV (n : Int), uV a, uV b] (tupV [uV (binV n op (a % 2 ^ n) (b % 2 ^ n)), iV (trapF n op (a % 2 ^ n) (b % 2 ^ n)), iV 0]) := by
 refine In 48 Tryz.func136 fun _ _ _ => ?_
 have hA := Nat.mod_lt a (Nat.two_pow_pos n)
 have hB := Nat.mod_lt b (Nat.two_pow_pos n)
 generalize hAe : a % 2 ^ n = A at *
 generalize hBe : b % 2 ^ n = B at *
 refine Z11 ?_
 refine .p (cA (h := wright_spec)) rfl ?_
 refine Z11 ?_
 refine Cd (fun c0 => ?_) fun c0 => ?_
 ·
  exfalso
  rcases hp0 with rfl | rfl <;> omega
 refine Z6 ?_
 refine .p ((cA (h := wcut_spec hp0 hp1)).le (VLe.int (congrArg Nat.cast hAe))) rfl ?_
 refine Z2 ?_
 refine .p ((cA (h := wcut_spec hp0 hp2)).le (VLe.int (congrArg Nat.cast hBe))) rfl ?_
 refine Z11 ?_
 refine .p (cA (h := wdivides_spec hp0 hA hB)) rfl ?_
 refine Z9 ?_
 refine Cd (fun c1 => ?_) fun c1 => ?_
 ·
  refine Z10 ?_
  refine Rt3 ?_ ?_ ?_
  · exact VLe.int (by unfold binV; rw [if_neg c1]; rfl)
  · exact VLe.refl _
  exact VLe.refl _
 refine Z4 ?_
 refine .p (opAssign (.le (.f _) ((funV_of Tryz.cb182 (fun z h => warith_spec h.1 h.2.1 h.2.2.1 h.2.2.2.1 h.2.2.2.2.1 h.2.2.2.2.2) : VLe _ (funV Tryz.prog (A := Int × Nat × Nat × Nat) (fun z => WN z.2.1 ∧ z.2.2.1 < 2 ^ z.2.1 ∧ z.2.2.2 < 2 ^ z.2.1 ∧ 0 ≤ z.1 ∧ z.1 < 7 ∧ (3 ≤ z.1 → z.2.2.2 ≠ 0)) (fun z => [iV z.1, iV (z.2.1 : Int), uV z.2.2.1, uV z.2.2.2]) (fun z => uV (arithW z.2.1 z.1 z.2.2.1 z.2.2.2))))))) rfl ?_
 refine Z9 ?_
 refine Cd (fun c2 => ?_) fun c2 => ?_
 ·
  refine Z1 ?_
  refine .p (opAssign (.le (.f _) ((funV_of Tryz.cb183 (fun z h => wbitwise_spec h.1 h.2.1 h.2.2.1 h.2.2.2) : VLe _ (funV Tryz.prog (A := Int × Nat × Nat × Nat) (fun z => WN z.2.1 ∧ z.2.2.1 < 2 ^ z.2.1 ∧ z.2.2.2 < 2 ^ z.2.1 ∧ 7 ≤ z.1) (fun z => [iV z.1, iV (z.2.1 : Int), uV z.2.2.1, uV z.2.2.2]) (fun z => uV (bitsW z.2.1 z.1 z.2.2.1 z.2.2.2))))))) rfl ?_
  refine Z10 ?_
  refine .p (cV (op, n, A, B) (h := by first | exact ⟨hp0, hA, hB, by omega⟩ | exact ⟨hp0, hA, hB, by omega, by omega, fun h => trap_b0 (n := n) (A := A) (B := B) (op := op) (by omega) h (by omega)⟩)) rfl ?_
  refine .p (cA (h := wcut_spec hp0 (by first | exact bits_lt hp0 hA hB | exact arith_lt hp0 hA hB))) rfl ?_
  refine Z6 ?_
  refine Rt3 ?_ ?_ ?_
  · exact VLe.int (by unfold binV; rw [if_pos (Classical.not_not.1 c1), bits_cut hp0 (by omega) hA hB])
  · exact VLe.int (Classical.not_not.1 c1).symm
  exact VLe.refl _
 refine Z10 ?_
 refine .p (cV (op, n, A, B) (h := by first | exact ⟨hp0, hA, hB, by omega⟩ | exact ⟨hp0, hA, hB, by omega, by omega, fun h => trap_b0 (n := n) (A := A) (B := B) (op := op) (by omega) h (by omega)⟩)) rfl ?_
 refine .p (cA (h := wcut_spec hp0 (by first | exact bits_lt hp0 hA hB | exact arith_lt hp0 hA hB))) rfl ?_
 refine Z6 ?_
 refine Rt3 ?_ ?_ ?_
 · exact VLe.int (by unfold binV; rw [if_pos (Classical.not_not.1 c1), arith_cut hp0 (by omega) hA hB (by omega)])
 · exact VLe.int (Classical.not_not.1 c1).symm
 exact VLe.refl _
theorem wtest_spec {n a b : Nat} {op : Int} (hp0 : WN n) (hp1 : a < 18446744073709551616) (hp2 : b < 18446744073709551616) (hp3 : 0 ≤ op) (hp4 : op < 10) : FnP Tryz.prog 135 [iV op, iV (n : Int), uV a, uV b] (tupV [uV (testF n op (a % 2 ^ n) (b % 2 ^ n)), iV 0]) := by
 refine In 79 Tryz.func135 fun _ _ _ => ?_
 have hA := Nat.mod_lt a (Nat.two_pow_pos n)
 have hB := Nat.mod_lt b (Nat.two_pow_pos n)
 generalize hAe : a % 2 ^ n = A at *
 generalize hBe : b % 2 ^ n = B at *
 refine Z10 ?_
 refine .p (cA (h := wright_spec)) rfl ?_
 refine Z11 ?_
 refine Cd (fun c0 => ?_) fun c0 => ?_
 ·
  exfalso
  rcases hp0 with rfl | rfl <;> omega
 refine Z6 ?_
 refine .p ((cA (h := wcut_spec hp0 hp1)).le (VLe.int (congrArg Nat.cast hAe))) rfl ?_
 refine Z2 ?_
 refine .p ((cA (h := wcut_spec hp0 hp2)).le (VLe.int (congrArg Nat.cast hBe))) rfl ?_
 refine Z7 ?_
 refine .p (opRem (.t rfl) (.c _) (by omega) (by omega)) rfl ?_
 refine Z17 ?_
 refine Cd (fun c1 => ?_) fun c1 => ?_
 ·
  refine Z5 ?_
  refine .p (cA (h := wis_spec)) rfl ?_
  refine Z7 ?_
  refine Rt2 ?_ ?_
  · first | (exfalso; omega) | exact VLe.int (congrArg Nat.cast (testF_is (by unfold testP; (repeat (first | rw [if_pos (by omega)] | rw [if_neg (by omega)])); all_goals first | omega | exact Iff.rfl)).symm)
  exact VLe.refl _
 refine Z6 ?_
 refine Cd (fun c2 => ?_) fun c2 => ?_
 ·
  refine Z5 ?_
  refine .p (cA (h := wis_spec)) rfl ?_
  refine Z7 ?_
  refine Rt2 ?_ ?_
  · first | (exfalso; omega) | exact VLe.int (congrArg Nat.cast (testF_is (by unfold testP; (repeat (first | rw [if_pos (by omega)] | rw [if_neg (by omega)])); all_goals first | omega | exact Iff.rfl)).symm)
  exact VLe.refl _
 refine Z7 ?_
 refine Cd (fun c3 => ?_) fun c3 => ?_
 ·
  refine Z2 ?_
  refine Cd (fun c4 => ?_) fun c4 => ?_
  ·
   refine Z6 ?_
   refine .p (cA (h := wless_spec hp0 hA hB)) rfl ?_
   refine .p (cA (h := wis_spec)) rfl ?_
   refine Z7 ?_
   refine Rt2 ?_ ?_
   · first | (exfalso; omega) | exact VLe.int (congrArg Nat.cast (testF_is (by unfold testP; (repeat (first | rw [if_pos (by omega)] | rw [if_neg (by omega)])); all_goals first | omega | exact Iff.rfl)).symm)
   exact VLe.refl _
  refine Z7 ?_
  refine Cd (fun c5 => ?_) fun c5 => ?_
  ·
   refine Z2 ?_
   refine Cd (fun c6 => ?_) fun c6 => ?_
   ·
    refine Z6 ?_
    refine .p (cA (h := wless_spec hp0 hB hA)) rfl ?_
    refine .p (cA (h := wis_spec)) rfl ?_
    refine Z7 ?_
    refine Rt2 ?_ ?_
    · first | (exfalso; omega) | exact VLe.int (congrArg Nat.cast (testF_is (by unfold testP; (repeat (first | rw [if_pos (by omega)] | rw [if_neg (by omega)])); all_goals first | omega | exact Iff.rfl)).symm)
    exact VLe.refl _
   refine Z7 ?_
   refine Cd (fun c7 => ?_) fun c7 => ?_
   ·
    refine Z2 ?_
    refine Cd (fun c8 => ?_) fun c8 => ?_
    ·
     refine Z6 ?_
     refine .p (cA (h := wless_spec hp0 hB hA)) rfl ?_
     refine Z1 ?_
     refine .p (cA (h := wis_spec)) rfl ?_
     refine Z7 ?_
     refine Rt2 ?_ ?_
     · first | (exfalso; omega) | exact VLe.int (congrArg Nat.cast (testF_is (by unfold testP; (repeat (first | rw [if_pos (by omega)] | rw [if_neg (by omega)])); all_goals first | omega | exact Iff.rfl)).symm)
     exact VLe.refl _
    refine Z9 ?_
    refine .p (cA (h := wless_spec hp0 hA hB)) rfl ?_
    refine Z1 ?_
    refine .p (cA (h := wis_spec)) rfl ?_
    refine Z5 ?_
    refine Rt2 ?_ ?_
    · first | (exfalso; omega) | exact VLe.int (congrArg Nat.cast (testF_is (by unfold testP; (repeat (first | rw [if_pos (by omega)] | rw [if_neg (by omega)])); all_goals first | omega | exact Iff.rfl)).symm)
    exact VLe.refl _
   refine Z5 ?_
   refine Cd (fun c9 => ?_) fun c9 => ?_
   ·
    refine Z6 ?_
    refine .p (cA (h := wless_spec hp0 hB hA)) rfl ?_
    refine Z1 ?_
    refine .p (cA (h := wis_spec)) rfl ?_
    refine Z7 ?_
    refine Rt2 ?_ ?_
    · first | (exfalso; omega) | exact VLe.int (congrArg Nat.cast (testF_is (by unfold testP; (repeat (first | rw [if_pos (by omega)] | rw [if_neg (by omega)])); all_goals first | omega | exact Iff.rfl)).symm)
    exact VLe.refl _
   refine Z9 ?_
   refine .p (cA (h := wless_spec hp0 hA hB)) rfl ?_
   refine Z1 ?_
   refine .p (cA (h := wis_spec)) rfl ?_
   refine Z5 ?_
   refine Rt2 ?_ ?_
   · first | (exfalso; omega) | exact VLe.int (congrArg Nat.cast (testF_is (by unfold testP; (repeat (first | rw [if_pos (by omega)] | rw [if_neg (by omega)])); all_goals first | omega | exact Iff.rfl)).symm)
   exact VLe.refl _
  refine Z5 ?_
  refine Cd (fun c10 => ?_) fun c10 => ?_
  ·
   refine Z6 ?_
   refine .p (cA (h := wless_spec hp0 hB hA)) rfl ?_
   refine .p (cA (h := wis_spec)) rfl ?_
   refine Z7 ?_
   refine Rt2 ?_ ?_
   · first | (exfalso; omega) | exact VLe.int (congrArg Nat.cast (testF_is (by unfold testP; (repeat (first | rw [if_pos (by omega)] | rw [if_neg (by omega)])); all_goals first | omega | exact Iff.rfl)).symm)
   exact VLe.refl _
  refine Z7 ?_
  refine Cd (fun c11 => ?_) fun c11 => ?_
  ·
   refine Z2 ?_
   refine Cd (fun c12 => ?_) fun c12 => ?_
   ·
    refine Z6 ?_
    refine .p (cA (h := wless_spec hp0 hB hA)) rfl ?_
    refine Z1 ?_
    refine .p (cA (h := wis_spec)) rfl ?_
    refine Z7 ?_
    refine Rt2 ?_ ?_
    · first | (exfalso; omega) | exact VLe.int (congrArg Nat.cast (testF_is (by unfold testP; (repeat (first | rw [if_pos (by omega)] | rw [if_neg (by omega)])); all_goals first | omega | exact Iff.rfl)).symm)
    exact VLe.refl _
   refine Z9 ?_
   refine .p (cA (h := wless_spec hp0 hA hB)) rfl ?_
   refine Z1 ?_
   refine .p (cA (h := wis_spec)) rfl ?_
   refine Z5 ?_
   refine Rt2 ?_ ?_
   · first | (exfalso; omega) | exact VLe.int (congrArg Nat.cast (testF_is (by unfold testP; (repeat (first | rw [if_pos (by omega)] | rw [if_neg (by omega)])); all_goals first | omega | exact Iff.rfl)).symm)
   exact VLe.refl _
  refine Z5 ?_
  refine Cd (fun c13 => ?_) fun c13 => ?_
  ·
   refine Z6 ?_
   refine .p (cA (h := wless_spec hp0 hB hA)) rfl ?_
   refine Z1 ?_
   refine .p (cA (h := wis_spec)) rfl ?_
   refine Z7 ?_
   refine Rt2 ?_ ?_
   · first | (exfalso; omega) | exact VLe.int (congrArg Nat.cast (testF_is (by unfold testP; (repeat (first | rw [if_pos (by omega)] | rw [if_neg (by omega)])); all_goals first | omega | exact Iff.rfl)).symm)
   exact VLe.refl _
  refine Z9 ?_
  refine .p (cA (h := wless_spec hp0 hA hB)) rfl ?_
  refine Z1 ?_
  refine .p (cA (h := wis_spec)) rfl ?_
  refine Z5 ?_
  refine Rt2 ?_ ?_
  · first | (exfalso; omega) | exact VLe.int (congrArg Nat.cast (testF_is (by unfold testP; (repeat (first | rw [if_pos (by omega)] | rw [if_neg (by omega)])); all_goals first | omega | exact Iff.rfl)).symm)
  exact VLe.refl _
 refine Z5 ?_
 refine Cd (fun c14 => ?_) fun c14 => ?_
 ·
  refine Z6 ?_
  refine .p (cA (h := wless_spec hp0 hA hB)) rfl ?_
  refine .p (cA (h := wis_spec)) rfl ?_
  refine Z7 ?_
  refine Rt2 ?_ ?_
  · first | (exfalso; omega) | exact VLe.int (congrArg Nat.cast (testF_is (by unfold testP; (repeat (first | rw [if_pos (by omega)] | rw [if_neg (by omega)])); all_goals first | omega | exact Iff.rfl)).symm)
  exact VLe.refl _
 refine Z7 ?_
 refine Cd (fun c15 => ?_) fun c15 => ?_
 ·
  refine Z2 ?_
  refine Cd (fun c16 => ?_) fun c16 => ?_
  ·
   refine Z6 ?_
   refine .p (cA (h := wless_spec hp0 hB hA)) rfl ?_
   refine .p (cA (h := wis_spec)) rfl ?_
   refine Z7 ?_
   refine Rt2 ?_ ?_
   · first | (exfalso; omega) | exact VLe.int (congrArg Nat.cast (testF_is (by unfold testP; (repeat (first | rw [if_pos (by omega)] | rw [if_neg (by omega)])); all_goals first | omega | exact Iff.rfl)).symm)
   exact VLe.refl _
  refine Z7 ?_
  refine Cd (fun c17 => ?_) fun c17 => ?_
  ·
   refine Z2 ?_
   refine Cd (fun c18 => ?_) fun c18 => ?_
   ·
    refine Z6 ?_
    refine .p (cA (h := wless_spec hp0 hB hA)) rfl ?_
    refine Z1 ?_
    refine .p (cA (h := wis_spec)) rfl ?_
    refine Z7 ?_
    refine Rt2 ?_ ?_
    · first | (exfalso; omega) | exact VLe.int (congrArg Nat.cast (testF_is (by unfold testP; (repeat (first | rw [if_pos (by omega)] | rw [if_neg (by omega)])); all_goals first | omega | exact Iff.rfl)).symm)
    exact VLe.refl _
   refine Z9 ?_
   refine .p (cA (h := wless_spec hp0 hA hB)) rfl ?_
   refine Z1 ?_
   refine .p (cA (h := wis_spec)) rfl ?_
   refine Z5 ?_
   refine Rt2 ?_ ?_
   · first | (exfalso; omega) | exact VLe.int (congrArg Nat.cast (testF_is (by unfold testP; (repeat (first | rw [if_pos (by omega)] | rw [if_neg (by omega)])); all_goals first | omega | exact Iff.rfl)).symm)
   exact VLe.refl _
  refine Z5 ?_
  refine Cd (fun c19 => ?_) fun c19 => ?_
  ·
   refine Z6 ?_
   refine .p (cA (h := wless_spec hp0 hB hA)) rfl ?_
   refine Z1 ?_
   refine .p (cA (h := wis_spec)) rfl ?_
   refine Z7 ?_
   refine Rt2 ?_ ?_
   · first | (exfalso; omega) | exact VLe.int (congrArg Nat.cast (testF_is (by unfold testP; (repeat (first | rw [if_pos (by omega)] | rw [if_neg (by omega)])); all_goals first | omega | exact Iff.rfl)).symm)
   exact VLe.refl _
  refine Z9 ?_
  refine .p (cA (h := wless_spec hp0 hA hB)) rfl ?_
  refine Z1 ?_
  refine .p (cA (h := wis_spec)) rfl ?_
  refine Z5 ?_
  refine Rt2 ?_ ?_
  · first | (exfalso; omega) | exact VLe.int (congrArg Nat.cast (testF_is (by unfold testP; (repeat (first | rw [if_pos (by omega)] | rw [if_neg (by omega)])); all_goals first | omega | exact Iff.rfl)).symm)
  exact VLe.refl _
 refine Z5 ?_
 refine Cd (fun c20 => ?_) fun c20 => ?_
 ·
  refine Z6 ?_
  refine .p (cA (h := wless_spec hp0 hB hA)) rfl ?_
  refine .p (cA (h := wis_spec)) rfl ?_
  refine Z7 ?_
  refine Rt2 ?_ ?_
  · first | (exfalso; omega) | exact VLe.int (congrArg Nat.cast (testF_is (by unfold testP; (repeat (first | rw [if_pos (by omega)] | rw [if_neg (by omega)])); all_goals first | omega | exact Iff.rfl)).symm)
  exact VLe.refl _
 refine Z7 ?_
 refine Cd (fun c21 => ?_) fun c21 => ?_
 ·
  refine Z2 ?_
  refine Cd (fun c22 => ?_) fun c22 => ?_
  ·
   refine Z6 ?_
   refine .p (cA (h := wless_spec hp0 hB hA)) rfl ?_
   refine Z1 ?_
   refine .p (cA (h := wis_spec)) rfl ?_
   refine Z7 ?_
   refine Rt2 ?_ ?_
   · first | (exfalso; omega) | exact VLe.int (congrArg Nat.cast (testF_is (by unfold testP; (repeat (first | rw [if_pos (by omega)] | rw [if_neg (by omega)])); all_goals first | omega | exact Iff.rfl)).symm)
   exact VLe.refl _
  refine Z9 ?_
  refine .p (cA (h := wless_spec hp0 hA hB)) rfl ?_
  refine Z1 ?_
  refine .p (cA (h := wis_spec)) rfl ?_
  refine Z5 ?_
  refine Rt2 ?_ ?_
  · first | (exfalso; omega) | exact VLe.int (congrArg Nat.cast (testF_is (by unfold testP; (repeat (first | rw [if_pos (by omega)] | rw [if_neg (by omega)])); all_goals first | omega | exact Iff.rfl)).symm)
  exact VLe.refl _
 refine Z5 ?_
 refine Cd (fun c23 => ?_) fun c23 => ?_
 ·
  refine Z6 ?_
  refine .p (cA (h := wless_spec hp0 hB hA)) rfl ?_
  refine Z1 ?_
  refine .p (cA (h := wis_spec)) rfl ?_
  refine Z7 ?_
  refine Rt2 ?_ ?_
  · first | (exfalso; omega) | exact VLe.int (congrArg Nat.cast (testF_is (by unfold testP; (repeat (first | rw [if_pos (by omega)] | rw [if_neg (by omega)])); all_goals first | omega | exact Iff.rfl)).symm)
  exact VLe.refl _
 refine Z9 ?_
 refine .p (cA (h := wless_spec hp0 hA hB)) rfl ?_
 refine Z1 ?_
 refine .p (cA (h := wis_spec)) rfl ?_
 refine Z5 ?_
 refine Rt2 ?_ ?_
 · first | (exfalso; omega) | exact VLe.int (congrArg Nat.cast (testF_is (by unfold testP; (repeat (first | rw [if_pos (by omega)] | rw [if_neg (by omega)])); all_goals first | omega | exact Iff.rfl)).symm)
 exact VLe.refl _
theorem wunary_spec {n a : Nat} {op : Int} (hp0 : WN n) (hp1 : a < 18446744073709551616) (hp2 : 0 ≤ op) (hp3 : op < 4) : FnE Tryz.prog 134 [iV op, iV (n : Int), uV a] [tabH 0 .u8 Lib.deBruijn64tab] (γ := Unit) (fun _ => True) (fun _ => []) (fun _ => tupV [uV (unF n op (a % 2 ^ n)), iV 0]) := by
 refine In 44 Tryz.func134 fun _ _ _ => ?_
 have hA := Nat.mod_lt a (Nat.two_pow_pos n)
 have hA64 := lt64 hp0 hA
 generalize hAe : a % 2 ^ n = A at *
 have hn1 : 1 ≤ n ∧ n ≤ 64 := by rcases hp0 with rfl | rfl <;> omega
 have hbl := bl_le hA
 have hct := ctz_tz hn1.2 hA
 have hcl : Lib.ctz 64 A ≤ 64 := ctz_le hA64
 have hpn := pop_n hn1.2 hA
 have hpl := popN_le 64 A
 refine Z10 ?_
 refine .p (cA (h := wright_spec)) rfl ?_
 refine Z11 ?_
 refine Cd (fun c0 => ?_) fun c0 => ?_
 ·
  exfalso
  rcases hp0 with rfl | rfl <;> omega
 refine Z6 ?_
 refine .p ((cA (h := wcut_spec hp0 hp1)).le (VLe.int (congrArg Nat.cast hAe))) rfl ?_
 refine Z6 ?_
 refine .p (cA (h := clz64_spec hA64)) rfl ?_
 refine Z3 ?_
 refine .p ((opConvF Tryz.underlying3 Tryz.underlying58 (.t rfl) fits_z).le (VLe.int (show _ = ((n - blN A : Nat) : Int) by omega))) rfl ?_
 refine Z1 ?_
 refine .p (cD 0 (h := ctz64_spec hA64)) rfl ?_
 refine Z1 ?_
 refine .p (opMin (.t rfl) (.t rfl)) rfl ?_
 refine .p ((opConvF Tryz.underlying3 Tryz.underlying58 (.t rfl) fits_z).le (VLe.int (show _ = ((tzN n A : Nat) : Int) by rw [← hct]; omega))) rfl ?_
 refine Z1 ?_
 refine .p (cA (h := pop64_spec hA64)) rfl ?_
 refine .p ((opConvF Tryz.underlying3 Tryz.underlying58 (.t rfl) fits_z).le (VLe.int (show _ = ((popN n A : Nat) : Int) by rw [← hpn]))) rfl ?_
 refine Z2 ?_
 refine .p (cA (h := wis_spec)) rfl ?_
 refine .p (opBuildArr Tryz.ar280 Tryz.zb280 (.cons (.t rfl) (.cons (.t rfl) (.cons (.t rfl) (.cons (.t rfl) .nil)))) rfl) rfl ?_
 refine .n (opAlloc Tryz.zb280) rfl fun b8 _ => ?_
 refine Z4 ?_
 have hop : op = 0 ∨ op = 1 ∨ op = 2 ∨ op = 3 := by omega
 rcases hop with rfl | rfl | rfl | rfl
 ·
  refine Z2 ?_
  refine .p (opIndexAddrO 0 Tryz.underlying280 Tryz.cz58 rfl (.t rfl) (.t rfl) rfl (by omega)) rfl ?_
  refine Z6 ?_
  refine Rt2 ?_ ?_
  · first | exact VLe.refl _ | exact VLe.int (congrArg Nat.cast (isN_zero A))
  exact VLe.refl _
 ·
  refine Z2 ?_
  refine .p (opIndexAddrO 1 Tryz.underlying280 Tryz.cz58 rfl (.t rfl) (.t rfl) rfl (by omega)) rfl ?_
  refine Z6 ?_
  refine Rt2 ?_ ?_
  · first | exact VLe.refl _ | exact VLe.int (congrArg Nat.cast (isN_zero A))
  exact VLe.refl _
 ·
  refine Z2 ?_
  refine .p (opIndexAddrO 2 Tryz.underlying280 Tryz.cz58 rfl (.t rfl) (.t rfl) rfl (by omega)) rfl ?_
  refine Z6 ?_
  refine Rt2 ?_ ?_
  · first | exact VLe.refl _ | exact VLe.int (congrArg Nat.cast (isN_zero A))
  exact VLe.refl _
 refine Z2 ?_
 refine .p (opIndexAddrO 3 Tryz.underlying280 Tryz.cz58 rfl (.t rfl) (.t rfl) rfl (by omega)) rfl ?_
 refine Z6 ?_
 refine Rt2 ?_ ?_
 · first | exact VLe.refl _ | exact VLe.int (congrArg Nat.cast (isN_zero A))
 exact VLe.refl _
theorem widths_spec {a b : Int} : FnP Tryz.prog 173 [iV a, iV b] (propV ((a = 8 ∨ a = 16 ∨ a = 32) ∧ (b = 32 ∨ b = 64))) := by
 refine In 23 Tryz.func173 fun _ _ _ => ?_
 refine Z29 ?_
 refine Rt1 ?_
 exact VLe.prop (by simp only [or_assoc])
theorem cwrap_spec {a : Nat} (hp0 : a < 18446744073709551616) : FnP Tryz.prog 130 [uV a] (uV (a % 4294967296)) := by
 refine In 5 Tryz.func130 fun _ _ _ => ?_
 refine Z8 ?_
 refine .p (cA (h := wcut_spec (n := 32) (.inl rfl) hp0)) rfl ?_
 refine Z4 ?_
 refine Rt1 ?_
 exact VLe.refl _
theorem cextend_spec {fr t a : Nat} {s : Prop} [Decidable s] (hp0 : fr = 8 ∨ fr = 16 ∨ fr = 32) (hp1 : t = 32 ∨ t = 64) (hp2 : a < 18446744073709551616) : FnP Tryz.prog 132 [iV (fr : Int), iV (t : Int), propV s, uV a] (tupV [uV (extF fr t s a), iV 0]) := by
 refine In 32 Tryz.func132 fun _ _ _ => ?_
 refine Z11 ?_
 refine .p (cA (h := widths_spec)) rfl ?_
 refine Z3 ?_
 refine Cd (fun c0 => ?_) fun c0 => ?_
 ·
  exfalso
  omega
 refine Z5 ?_
 refine .p ((opSubF (.c _) (.t rfl) fits_z).le (VLe.int (show _ = ((64 - fr : Nat) : Int) by omega))) rfl ?_
 refine Z9 ?_
 refine Cd (fun c1 => ?_) fun c1 => ?_
 ·
  refine Z5 ?_
  refine .p (opShl_u64 (.t rfl) (.t rfl) (by omega)) rfl ?_
  refine .p (opConv Tryz.underlying58 Tryz.underlying2 (.t rfl)) rfl ?_
  refine Z1 ?_
  refine .p (opShr (.t rfl) (.t rfl) (by show _ ≤ 64; omega)) rfl ?_
  refine .p ((opConv Tryz.underlying2 Tryz.underlying58 (.t rfl)).le (VLe.int (u64_cast _))) rfl ?_
  refine .p (cA (h := wcut_spec (n := t) (show WN t from hp1) (by omega))) rfl ?_
  refine Z6 ?_
  refine Rt2 ?_ ?_
  · exact VLe.int (congrArg Nat.cast ((ext_s hp0 hp1).trans (ext_pos c1).symm))
  exact VLe.refl _
 refine Z6 ?_
 refine .p (opShl_u64 (.t rfl) (.t rfl) (by omega)) rfl ?_
 refine Z1 ?_
 refine .p (opShrN (.t rfl) (.t rfl) (by show _ ≤ 64; omega)) rfl ?_
 refine Z5 ?_
 refine Rt2 ?_ ?_
 · exact VLe.int (congrArg Nat.cast ((ext_u (t := t) hp0).trans (ext_neg c1).symm))
 exact VLe.refl _
end Go.Proofs.YtmmdlhjcmlekfaaGreatDoor
end
section
namespace Go.Proofs.YtmmdlhjcmlekfaaGreatDoor
open Go.Hl Go.RowKit
theorem growI_spec {n : Nat} (hp0 : n ≤ 65536) : FnE Tryz.prog 170 [exactV (.slice none 0 0), iV (n : Int)] [] (γ := SB) (fun _ => True) (fun g => [sliceH g 5 encInstr ([] : List InstrD)]) (fun g => exactV (sval g 0)) := by
 refine In 27 Tryz.func170 fun _ _ _ => ?_
 refine Z12 ?_
 refine Cd (fun c0 => ?_) fun c0 => ?_
 ·
  exfalso
  omega
 refine Z7 ?_
 refine .p (opCapN rfl Tryz.underlying45 (.t rfl)) rfl ?_
 refine Z1 ?_
 refine .p (opLen rfl Tryz.underlying45 (.le (.t rfl) (sliceV_nil 5 encInstr))) rfl ?_
 refine .p (opSubF (.t rfl) (.t rfl) (fits_i64 (by simp <;> omega) (by simp <;> omega))) rfl ?_
 refine .p ((opSubF (.t rfl) (.t rfl) (fits_i64 (by simp <;> omega) (by simp <;> omega))).le (VLe.int (show _ = (n : Int) by simp))) rfl ?_
 refine Z9 ?_
 refine Cd (fun c1 => ?_) fun c1 => ?_
 ·
  refine Z3 ?_
  refine .p (opCapN rfl Tryz.underlying45 (.t rfl)) rfl ?_
  refine .p (opSliceNil0 Tryz.underlying45 Tryz.cz61 rfl (.t rfl) (.t rfl) rfl) rfl ?_
  refine Z1 ?_
  refine .n (opAppendMk (α := InstrD) (N := 5) (enc := encInstr) Tryz.underlying45 Tryz.underlying3 Tryz.cz61 rfl Tryz.zb61 rfl Tryz.by61 (.t rfl) (.t rfl) rfl (by omega) (by omega) (by omega)) rfl fun g22 _ => ?_
  refine Z1 ?_
  refine .p (opLen rfl Tryz.underlying45 (.le (.t rfl) (sliceV_nil 5 encInstr))) rfl ?_
  refine .p (opSliceOwn0 Tryz.underlying45 Tryz.cz61 rfl (.t rfl) (.t rfl) rfl) rfl ?_
  refine Z10 ?_
  refine Post.retR1 rfl (some g22) (by trivial) (fun _ _ _ h => h) (.rt rfl) ?_
  exact VLe.refl _
 have hn0 : n = 0 := by omega
 refine .ownNil (α := InstrD) 5 encInstr ?_
 refine Z9 ?_
 refine Post.retR1 rfl (none) (by trivial) (fun _ _ _ h => h) (.rt rfl) ?_
 exact VLe.refl _
theorem concatI_spec {ls : List (List InstrD)} (hp0 : ls.flatten.length ≤ 65536) : FnP Tryz.prog 128 [sliceV 1 encSl ls] (sliceV 5 encInstr (ls.flatten)) := by
 refine In 36 Tryz.func128 fun _ _ _ => ?_
 refine .fact (t := 0) rfl (fun S w v h => sliceV_len h) fun hln => ?_
 refine Z19 ?_
 refine .loopO (σ := Nat) (fun _ => []) (fun k => [(11, iV (k : Int)), (3, iV ((ls.take k).flatten.length : Int))]) (fun k => k ≤ ls.length) (fun k => ls.length - k) 0 (Nat.zero_le _) rfl ?_ ?_
 · exact (.get rfl (VLe.refl _) (.get rfl (VLe.int (by simp)) (.refl _ _)))
 rintro k hk
 refine Z6 ?_
 refine Cd (fun c0 => ?_) fun c0 => ?_
 ·
  obtain ⟨l, hx⟩ := getElem?_lt (xs := ls) (k := k) (by omega)
  have hfp := flat_part ls (k + 1)
  have hfl : (ls.take (k + 1)).flatten.length = (ls.take k).flatten.length + l.length := by rw [flat_snoc hx, List.length_append]
  refine Z6 ?_
  refine .p (cI k (h := hx)) rfl ?_
  refine Z19 ?_
  refine Cd (fun c1 => ?_) fun c1 => ?_
  ·
   exfalso
   omega
  refine Z7 ?_
  refine .round (k + 1) (by omega) (by omega) rfl ?_
  exact (.get rfl (VLe.int (by (show (k : Int) + 1 = ((k + 1 : Nat) : Int); omega))) (.get rfl (VLe.int (by omega)) ((.keep 15 rfl rfl))))
 have hkl : ls.take k = ls := List.take_of_length_le (by omega)
 rw [hkl]
 refine Z8 ?_
 refine .n (cE (h := growI_spec hp0)) rfl fun g24 h24 => ?_
 refine Z12 ?_
 refine .loopO (σ := SB × Nat) (fun g => [sliceH g.1 5 encInstr (ls.take g.2).flatten]) (fun g => [(6, exactV (sval g.1 (ls.take g.2).flatten.length)), (27, iV (g.2 : Int))]) (fun g => g.2 ≤ ls.length) (fun g => ls.length - g.2) (g24, 0) (Nat.zero_le _) rfl ?_ ?_
 · exact (.get rfl (VLe.refl _) (.get rfl (VLe.refl _) (.refl _ _)))
 rintro ⟨sb, j⟩ hj
 simp only at hj ⊢
 refine Z6 ?_
 refine Cd (fun c2 => ?_) fun c2 => ?_
 ·
  obtain ⟨m, hy⟩ := getElem?_lt (xs := ls) (k := j) (by omega)
  have hfq := flat_part ls (j + 1)
  have hfm : (ls.take (j + 1)).flatten.length = (ls.take j).flatten.length + m.length := by rw [flat_snoc hy, List.length_append]
  refine Z6 ?_
  refine .p (cI j (h := hy)) rfl ?_
  refine Z7 ?_
  refine .n (opAppend (i := 0) (xs := (ls.take j).flatten) (ys := m) Tryz.underlying45 Tryz.underlying45 Tryz.cz61 rfl Tryz.zb61 rfl Tryz.by61 (.t rfl) (.t rfl) rfl (by omega) (by omega)) rfl fun g33 _ => ?_
  refine Z8 ?_
  refine .round (g33, j + 1) (by show j + 1 ≤ _; omega) (by (show ls.length - (j + 1) < ls.length - j; omega)) (by simp only [flat_snoc hy]; rfl) ?_
  exact (.get rfl (VLe.of_eq (by simp only [flat_snoc hy])) (.get rfl (VLe.int (by (show (j : Int) + 1 = ((j + 1 : Nat) : Int); omega))) ((.keep 12 rfl rfl))))
 have hjl : ls.take j = ls := List.take_of_length_le (by omega)
 rw [hjl]
 refine .shareS (t := 6) (i := 0) rfl rfl ?_
 refine Z12 ?_
 refine Rt1 ?_
 exact VLe.refl _
theorem pcut_spec {l ins : List InstrD} {i n : Nat} (hp0 : i + n ≤ l.length) (hp1 : l.length + ins.length ≤ 65536) : FnP Tryz.prog 96 [sliceV 5 encInstr (l), iV (i : Int), iV (n : Int), sliceV 5 encInstr (ins)] (sliceV 5 encInstr (cutL l i n ins)) := by
 refine In 20 Tryz.func96 fun _ _ _ => ?_
 refine Z6 ?_
 refine .drawK 9 3 FM.out (by kernel_rfl) (k := ?_)
 refine Z2 ?_
 refine .p (opSliceHi (h := i) Tryz.underlying45 Tryz.cz61 rfl (.t rfl) (.t rfl) rfl (by omega)) ?_
 refine Z5 ?_
 refine .p (opSliceLo (l := i + n) Tryz.underlying45 Tryz.cz61 rfl (.t rfl) (.t rfl) (by omega) (by omega)) ?_
 refine Z1 ?_
 refine .p (cB encSl [l.take i, ins, l.drop (i + n)]) rfl ?_
 refine .p (cA (h := concatI_spec (ls := [l.take i, ins, l.drop (i + n)]) (by simp <;> omega))) rfl ?_
 refine Z4 ?_
 refine Rt1 ?_
 exact VLe.of_eq (by unfold cutL; simp)
theorem pconst_spec {x : InstrD} : FnP Tryz.prog 97 [aggV (encInstr x)] (propV (isC x)) := by
 refine In 11 Tryz.func97 fun _ _ _ => ?_
 refine Z20 ?_
 refine Rt1 ?_
 exact VLe.refl _
theorem pstops_spec {c : Int} : FnP Tryz.prog 100 [iV c] (propV (stopP c)) := by
 refine In 17 Tryz.func100 fun _ _ _ => ?_
 refine Z25 ?_
 refine Rt1 ?_
 exact VLe.refl _
theorem pbound_spec {c : Int} : FnP Tryz.prog 101 [iV c] (propV (boundP c)) := by
 refine In 13 Tryz.func101 fun _ _ _ => ?_
 refine Z21 ?_
 refine Rt1 ?_
 exact VLe.refl _
theorem pof_spec {c : Int} {v : Nat} (hp0 : (findI c).isSome = true) : FnP Tryz.prog 129 [iV c, uV v] (aggV (encInstr (mkI (outC c) v))) := by
 refine In 27 Tryz.func129 fun _ _ _ => ?_
 obtain ⟨x, hx⟩ := Option.isSome_iff_exists.1 hp0
 obtain ⟨g1, g2, g3, g4, g5, g6, g7⟩ := find_some_of hx
 refine Z2 ?_
 refine .n (opAlloc Tryz.zb61) rfl fun b4 _ => ?_
 refine Z5 ?_
 refine .p (cA (h := find_spec (code := c))) rfl ?_
 refine Z1 ?_
 refine .p ((opExtract (.t rfl) rfl).le (VLe.of_eq (show aggV (encInfo ((findI c).getD zeroI)) = aggV (encInfo x) by rw [hx]; rfl))) rfl ?_
 refine Z1 ?_
 refine .n (opAlloc Tryz.zb271) rfl fun b5 _ => ?_
 refine Z14 ?_
 refine .g (OpG.gT rfl rfl rfl rfl (fun hg => opIndexAddr (j := 0) Tryz.underlying44 Tryz.cz107 rfl (.when (.t rfl) hg) (.c _) rfl (get0 hg))) rfl rfl ?_
 refine Z5 ?_
 refine Cd (fun c0 => ?_) fun c0 => ?_
 ·
  refine Z9 ?_
  refine Post.retR1 rfl () trivial (fun _ _ _ _ => trivial) (.ra (i := 1) Tryz.ag61 Tryz.cz61 rfl rfl rfl rfl) ?_
  exact mk_le (outC_pos (g6 ▸ gives1.1 c0))
 refine Z10 ?_
 refine Post.retR1 rfl () trivial (fun _ _ _ _ => trivial) (.ra (i := 1) Tryz.ag61 Tryz.cz61 rfl rfl rfl rfl) ?_
 exact mk_le (outC_neg (fun h => c0 (gives1.2 (g6.trans h))))
theorem pext_spec {c : Int} : FnP Tryz.prog 131 [iV c] (tupV [iV (xfA c : Int), iV (xfB c : Int), propV (xfS c)]) := by
 refine In 24 Tryz.func131 fun _ _ _ => ?_
 refine Z21 ?_
 refine Cd (fun c0 => ?_) fun c0 => ?_
 ·
  refine Z2 ?_
  refine Cd (fun c1 => ?_) fun c1 => ?_
  ·
   refine Z12 ?_
   refine Rt3 ?_ ?_ ?_
   · first | (exfalso; omega) | exact VLe.int (by unfold xfA; (repeat (first | rw [if_pos (by omega)] | rw [if_neg (by omega)])); first | done | rfl) | (rcases (show c = 192 ∨ c = 193 by omega) with rfl | rfl <;> exact VLe.int (by decide)) | (rcases (show c = 194 ∨ c = 195 ∨ c = 196 by omega) with rfl | rfl | rfl <;> exact VLe.int (by decide))
   · first | (exfalso; omega) | exact VLe.int (by unfold xfB; (repeat (first | rw [if_pos (by omega)] | rw [if_neg (by omega)])); first | done | rfl)
   first | (exfalso; omega) | exact VLe.prop (by unfold xfS; (repeat (first | rw [if_pos (by omega)] | rw [if_neg (by omega)])); first | done | rfl)
  refine Z7 ?_
  refine Cd (fun c2 => ?_) fun c2 => ?_
  ·
   refine Z2 ?_
   refine Cd (fun c3 => ?_) fun c3 => ?_
   ·
    refine Z13 ?_
    refine Rt3 ?_ ?_ ?_
    · first | (exfalso; omega) | exact VLe.int (by unfold xfA; (repeat (first | rw [if_pos (by omega)] | rw [if_neg (by omega)])); first | done | rfl) | (rcases (show c = 192 ∨ c = 193 by omega) with rfl | rfl <;> exact VLe.int (by decide)) | (rcases (show c = 194 ∨ c = 195 ∨ c = 196 by omega) with rfl | rfl | rfl <;> exact VLe.int (by decide))
    · first | (exfalso; omega) | exact VLe.int (by unfold xfB; (repeat (first | rw [if_pos (by omega)] | rw [if_neg (by omega)])); first | done | rfl)
    first | (exfalso; omega) | exact VLe.prop (by unfold xfS; (repeat (first | rw [if_pos (by omega)] | rw [if_neg (by omega)])); first | done | rfl)
   refine Z7 ?_
   refine Cd (fun c4 => ?_) fun c4 => ?_
   ·
    refine Z2 ?_
    refine Cd (fun c5 => ?_) fun c5 => ?_
    ·
     refine Z4 ?_
     refine .p (opShl (s := (c - 194).toNat) (.c _) (.le (.t rfl) (VLe.int (by omega))) (by show _ ≤ 64; omega)) rfl ?_
     refine Z8 ?_
     refine Rt3 ?_ ?_ ?_
     · first | (exfalso; omega) | exact VLe.int (by unfold xfA; (repeat (first | rw [if_pos (by omega)] | rw [if_neg (by omega)])); first | done | rfl) | (rcases (show c = 192 ∨ c = 193 by omega) with rfl | rfl <;> exact VLe.int (by decide)) | (rcases (show c = 194 ∨ c = 195 ∨ c = 196 by omega) with rfl | rfl | rfl <;> exact VLe.int (by decide))
     · first | (exfalso; omega) | exact VLe.int (by unfold xfB; (repeat (first | rw [if_pos (by omega)] | rw [if_neg (by omega)])); first | done | rfl)
     first | (exfalso; omega) | exact VLe.prop (by unfold xfS; (repeat (first | rw [if_pos (by omega)] | rw [if_neg (by omega)])); first | done | rfl)
    refine Z11 ?_
    refine Rt3 ?_ ?_ ?_
    · first | (exfalso; omega) | exact VLe.int (by unfold xfA; (repeat (first | rw [if_pos (by omega)] | rw [if_neg (by omega)])); first | done | rfl) | (rcases (show c = 192 ∨ c = 193 by omega) with rfl | rfl <;> exact VLe.int (by decide)) | (rcases (show c = 194 ∨ c = 195 ∨ c = 196 by omega) with rfl | rfl | rfl <;> exact VLe.int (by decide))
    · first | (exfalso; omega) | exact VLe.int (by unfold xfB; (repeat (first | rw [if_pos (by omega)] | rw [if_neg (by omega)])); first | done | rfl)
    first | (exfalso; omega) | exact VLe.prop (by unfold xfS; (repeat (first | rw [if_pos (by omega)] | rw [if_neg (by omega)])); first | done | rfl)
   refine Z6 ?_
   refine Cd (fun c6 => ?_) fun c6 => ?_
   ·
    refine Z2 ?_
    refine Cd (fun c7 => ?_) fun c7 => ?_
    ·
     refine Z4 ?_
     refine .p (opShl (s := (c - 194).toNat) (.c _) (.le (.t rfl) (VLe.int (by omega))) (by show _ ≤ 64; omega)) rfl ?_
     refine Z8 ?_
     refine Rt3 ?_ ?_ ?_
     · first | (exfalso; omega) | exact VLe.int (by unfold xfA; (repeat (first | rw [if_pos (by omega)] | rw [if_neg (by omega)])); first | done | rfl) | (rcases (show c = 192 ∨ c = 193 by omega) with rfl | rfl <;> exact VLe.int (by decide)) | (rcases (show c = 194 ∨ c = 195 ∨ c = 196 by omega) with rfl | rfl | rfl <;> exact VLe.int (by decide))
     · first | (exfalso; omega) | exact VLe.int (by unfold xfB; (repeat (first | rw [if_pos (by omega)] | rw [if_neg (by omega)])); first | done | rfl)
     first | (exfalso; omega) | exact VLe.prop (by unfold xfS; (repeat (first | rw [if_pos (by omega)] | rw [if_neg (by omega)])); first | done | rfl)
    refine Z11 ?_
    refine Rt3 ?_ ?_ ?_
    · first | (exfalso; omega) | exact VLe.int (by unfold xfA; (repeat (first | rw [if_pos (by omega)] | rw [if_neg (by omega)])); first | done | rfl) | (rcases (show c = 192 ∨ c = 193 by omega) with rfl | rfl <;> exact VLe.int (by decide)) | (rcases (show c = 194 ∨ c = 195 ∨ c = 196 by omega) with rfl | rfl | rfl <;> exact VLe.int (by decide))
    · first | (exfalso; omega) | exact VLe.int (by unfold xfB; (repeat (first | rw [if_pos (by omega)] | rw [if_neg (by omega)])); first | done | rfl)
    first | (exfalso; omega) | exact VLe.prop (by unfold xfS; (repeat (first | rw [if_pos (by omega)] | rw [if_neg (by omega)])); first | done | rfl)
   refine Z5 ?_
   refine Cd (fun c8 => ?_) fun c8 => ?_
   ·
    refine Z4 ?_
    refine .p (opShl (s := (c - 194).toNat) (.c _) (.le (.t rfl) (VLe.int (by omega))) (by show _ ≤ 64; omega)) rfl ?_
    refine Z8 ?_
    refine Rt3 ?_ ?_ ?_
    · first | (exfalso; omega) | exact VLe.int (by unfold xfA; (repeat (first | rw [if_pos (by omega)] | rw [if_neg (by omega)])); first | done | rfl) | (rcases (show c = 192 ∨ c = 193 by omega) with rfl | rfl <;> exact VLe.int (by decide)) | (rcases (show c = 194 ∨ c = 195 ∨ c = 196 by omega) with rfl | rfl | rfl <;> exact VLe.int (by decide))
    · first | (exfalso; omega) | exact VLe.int (by unfold xfB; (repeat (first | rw [if_pos (by omega)] | rw [if_neg (by omega)])); first | done | rfl)
    first | (exfalso; omega) | exact VLe.prop (by unfold xfS; (repeat (first | rw [if_pos (by omega)] | rw [if_neg (by omega)])); first | done | rfl)
   refine Z11 ?_
   refine Rt3 ?_ ?_ ?_
   · first | (exfalso; omega) | exact VLe.int (by unfold xfA; (repeat (first | rw [if_pos (by omega)] | rw [if_neg (by omega)])); first | done | rfl) | (rcases (show c = 192 ∨ c = 193 by omega) with rfl | rfl <;> exact VLe.int (by decide)) | (rcases (show c = 194 ∨ c = 195 ∨ c = 196 by omega) with rfl | rfl | rfl <;> exact VLe.int (by decide))
   · first | (exfalso; omega) | exact VLe.int (by unfold xfB; (repeat (first | rw [if_pos (by omega)] | rw [if_neg (by omega)])); first | done | rfl)
   first | (exfalso; omega) | exact VLe.prop (by unfold xfS; (repeat (first | rw [if_pos (by omega)] | rw [if_neg (by omega)])); first | done | rfl)
  refine Z5 ?_
  refine Cd (fun c9 => ?_) fun c9 => ?_
  ·
   refine Z13 ?_
   refine Rt3 ?_ ?_ ?_
   · first | (exfalso; omega) | exact VLe.int (by unfold xfA; (repeat (first | rw [if_pos (by omega)] | rw [if_neg (by omega)])); first | done | rfl) | (rcases (show c = 192 ∨ c = 193 by omega) with rfl | rfl <;> exact VLe.int (by decide)) | (rcases (show c = 194 ∨ c = 195 ∨ c = 196 by omega) with rfl | rfl | rfl <;> exact VLe.int (by decide))
   · first | (exfalso; omega) | exact VLe.int (by unfold xfB; (repeat (first | rw [if_pos (by omega)] | rw [if_neg (by omega)])); first | done | rfl)
   first | (exfalso; omega) | exact VLe.prop (by unfold xfS; (repeat (first | rw [if_pos (by omega)] | rw [if_neg (by omega)])); first | done | rfl)
  refine Z7 ?_
  refine Cd (fun c10 => ?_) fun c10 => ?_
  ·
   refine Z2 ?_
   refine Cd (fun c11 => ?_) fun c11 => ?_
   ·
    refine Z4 ?_
    refine .p (opShl (s := (c - 194).toNat) (.c _) (.le (.t rfl) (VLe.int (by omega))) (by show _ ≤ 64; omega)) rfl ?_
    refine Z8 ?_
    refine Rt3 ?_ ?_ ?_
    · first | (exfalso; omega) | exact VLe.int (by unfold xfA; (repeat (first | rw [if_pos (by omega)] | rw [if_neg (by omega)])); first | done | rfl) | (rcases (show c = 192 ∨ c = 193 by omega) with rfl | rfl <;> exact VLe.int (by decide)) | (rcases (show c = 194 ∨ c = 195 ∨ c = 196 by omega) with rfl | rfl | rfl <;> exact VLe.int (by decide))
    · first | (exfalso; omega) | exact VLe.int (by unfold xfB; (repeat (first | rw [if_pos (by omega)] | rw [if_neg (by omega)])); first | done | rfl)
    first | (exfalso; omega) | exact VLe.prop (by unfold xfS; (repeat (first | rw [if_pos (by omega)] | rw [if_neg (by omega)])); first | done | rfl)
   refine Z11 ?_
   refine Rt3 ?_ ?_ ?_
   · first | (exfalso; omega) | exact VLe.int (by unfold xfA; (repeat (first | rw [if_pos (by omega)] | rw [if_neg (by omega)])); first | done | rfl) | (rcases (show c = 192 ∨ c = 193 by omega) with rfl | rfl <;> exact VLe.int (by decide)) | (rcases (show c = 194 ∨ c = 195 ∨ c = 196 by omega) with rfl | rfl | rfl <;> exact VLe.int (by decide))
   · first | (exfalso; omega) | exact VLe.int (by unfold xfB; (repeat (first | rw [if_pos (by omega)] | rw [if_neg (by omega)])); first | done | rfl)
   first | (exfalso; omega) | exact VLe.prop (by unfold xfS; (repeat (first | rw [if_pos (by omega)] | rw [if_neg (by omega)])); first | done | rfl)
  refine Z6 ?_
  refine Cd (fun c12 => ?_) fun c12 => ?_
  ·
   refine Z2 ?_
   refine Cd (fun c13 => ?_) fun c13 => ?_
   ·
    refine Z4 ?_
    refine .p (opShl (s := (c - 194).toNat) (.c _) (.le (.t rfl) (VLe.int (by omega))) (by show _ ≤ 64; omega)) rfl ?_
    refine Z8 ?_
    refine Rt3 ?_ ?_ ?_
    · first | (exfalso; omega) | exact VLe.int (by unfold xfA; (repeat (first | rw [if_pos (by omega)] | rw [if_neg (by omega)])); first | done | rfl) | (rcases (show c = 192 ∨ c = 193 by omega) with rfl | rfl <;> exact VLe.int (by decide)) | (rcases (show c = 194 ∨ c = 195 ∨ c = 196 by omega) with rfl | rfl | rfl <;> exact VLe.int (by decide))
    · first | (exfalso; omega) | exact VLe.int (by unfold xfB; (repeat (first | rw [if_pos (by omega)] | rw [if_neg (by omega)])); first | done | rfl)
    first | (exfalso; omega) | exact VLe.prop (by unfold xfS; (repeat (first | rw [if_pos (by omega)] | rw [if_neg (by omega)])); first | done | rfl)
   refine Z11 ?_
   refine Rt3 ?_ ?_ ?_
   · first | (exfalso; omega) | exact VLe.int (by unfold xfA; (repeat (first | rw [if_pos (by omega)] | rw [if_neg (by omega)])); first | done | rfl) | (rcases (show c = 192 ∨ c = 193 by omega) with rfl | rfl <;> exact VLe.int (by decide)) | (rcases (show c = 194 ∨ c = 195 ∨ c = 196 by omega) with rfl | rfl | rfl <;> exact VLe.int (by decide))
   · first | (exfalso; omega) | exact VLe.int (by unfold xfB; (repeat (first | rw [if_pos (by omega)] | rw [if_neg (by omega)])); first | done | rfl)
   first | (exfalso; omega) | exact VLe.prop (by unfold xfS; (repeat (first | rw [if_pos (by omega)] | rw [if_neg (by omega)])); first | done | rfl)
  refine Z5 ?_
  refine Cd (fun c14 => ?_) fun c14 => ?_
  ·
   refine Z4 ?_
   refine .p (opShl (s := (c - 194).toNat) (.c _) (.le (.t rfl) (VLe.int (by omega))) (by show _ ≤ 64; omega)) rfl ?_
   refine Z8 ?_
   refine Rt3 ?_ ?_ ?_
   · first | (exfalso; omega) | exact VLe.int (by unfold xfA; (repeat (first | rw [if_pos (by omega)] | rw [if_neg (by omega)])); first | done | rfl) | (rcases (show c = 192 ∨ c = 193 by omega) with rfl | rfl <;> exact VLe.int (by decide)) | (rcases (show c = 194 ∨ c = 195 ∨ c = 196 by omega) with rfl | rfl | rfl <;> exact VLe.int (by decide))
   · first | (exfalso; omega) | exact VLe.int (by unfold xfB; (repeat (first | rw [if_pos (by omega)] | rw [if_neg (by omega)])); first | done | rfl)
   first | (exfalso; omega) | exact VLe.prop (by unfold xfS; (repeat (first | rw [if_pos (by omega)] | rw [if_neg (by omega)])); first | done | rfl)
  refine Z11 ?_
  refine Rt3 ?_ ?_ ?_
  · first | (exfalso; omega) | exact VLe.int (by unfold xfA; (repeat (first | rw [if_pos (by omega)] | rw [if_neg (by omega)])); first | done | rfl) | (rcases (show c = 192 ∨ c = 193 by omega) with rfl | rfl <;> exact VLe.int (by decide)) | (rcases (show c = 194 ∨ c = 195 ∨ c = 196 by omega) with rfl | rfl | rfl <;> exact VLe.int (by decide))
  · first | (exfalso; omega) | exact VLe.int (by unfold xfB; (repeat (first | rw [if_pos (by omega)] | rw [if_neg (by omega)])); first | done | rfl)
  first | (exfalso; omega) | exact VLe.prop (by unfold xfS; (repeat (first | rw [if_pos (by omega)] | rw [if_neg (by omega)])); first | done | rfl)
 refine Z5 ?_
 refine Cd (fun c15 => ?_) fun c15 => ?_
 ·
  refine Z12 ?_
  refine Rt3 ?_ ?_ ?_
  · first | (exfalso; omega) | exact VLe.int (by unfold xfA; (repeat (first | rw [if_pos (by omega)] | rw [if_neg (by omega)])); first | done | rfl) | (rcases (show c = 192 ∨ c = 193 by omega) with rfl | rfl <;> exact VLe.int (by decide)) | (rcases (show c = 194 ∨ c = 195 ∨ c = 196 by omega) with rfl | rfl | rfl <;> exact VLe.int (by decide))
  · first | (exfalso; omega) | exact VLe.int (by unfold xfB; (repeat (first | rw [if_pos (by omega)] | rw [if_neg (by omega)])); first | done | rfl)
  first | (exfalso; omega) | exact VLe.prop (by unfold xfS; (repeat (first | rw [if_pos (by omega)] | rw [if_neg (by omega)])); first | done | rfl)
 refine Z7 ?_
 refine Cd (fun c16 => ?_) fun c16 => ?_
 ·
  refine Z2 ?_
  refine Cd (fun c17 => ?_) fun c17 => ?_
  ·
   refine Z13 ?_
   refine Rt3 ?_ ?_ ?_
   · first | (exfalso; omega) | exact VLe.int (by unfold xfA; (repeat (first | rw [if_pos (by omega)] | rw [if_neg (by omega)])); first | done | rfl) | (rcases (show c = 192 ∨ c = 193 by omega) with rfl | rfl <;> exact VLe.int (by decide)) | (rcases (show c = 194 ∨ c = 195 ∨ c = 196 by omega) with rfl | rfl | rfl <;> exact VLe.int (by decide))
   · first | (exfalso; omega) | exact VLe.int (by unfold xfB; (repeat (first | rw [if_pos (by omega)] | rw [if_neg (by omega)])); first | done | rfl)
   first | (exfalso; omega) | exact VLe.prop (by unfold xfS; (repeat (first | rw [if_pos (by omega)] | rw [if_neg (by omega)])); first | done | rfl)
  refine Z7 ?_
  refine Cd (fun c18 => ?_) fun c18 => ?_
  ·
   refine Z2 ?_
   refine Cd (fun c19 => ?_) fun c19 => ?_
   ·
    refine Z4 ?_
    refine .p (opShl (s := (c - 194).toNat) (.c _) (.le (.t rfl) (VLe.int (by omega))) (by show _ ≤ 64; omega)) rfl ?_
    refine Z8 ?_
    refine Rt3 ?_ ?_ ?_
    · first | (exfalso; omega) | exact VLe.int (by unfold xfA; (repeat (first | rw [if_pos (by omega)] | rw [if_neg (by omega)])); first | done | rfl) | (rcases (show c = 192 ∨ c = 193 by omega) with rfl | rfl <;> exact VLe.int (by decide)) | (rcases (show c = 194 ∨ c = 195 ∨ c = 196 by omega) with rfl | rfl | rfl <;> exact VLe.int (by decide))
    · first | (exfalso; omega) | exact VLe.int (by unfold xfB; (repeat (first | rw [if_pos (by omega)] | rw [if_neg (by omega)])); first | done | rfl)
    first | (exfalso; omega) | exact VLe.prop (by unfold xfS; (repeat (first | rw [if_pos (by omega)] | rw [if_neg (by omega)])); first | done | rfl)
   refine Z11 ?_
   refine Rt3 ?_ ?_ ?_
   · first | (exfalso; omega) | exact VLe.int (by unfold xfA; (repeat (first | rw [if_pos (by omega)] | rw [if_neg (by omega)])); first | done | rfl) | (rcases (show c = 192 ∨ c = 193 by omega) with rfl | rfl <;> exact VLe.int (by decide)) | (rcases (show c = 194 ∨ c = 195 ∨ c = 196 by omega) with rfl | rfl | rfl <;> exact VLe.int (by decide))
   · first | (exfalso; omega) | exact VLe.int (by unfold xfB; (repeat (first | rw [if_pos (by omega)] | rw [if_neg (by omega)])); first | done | rfl)
   first | (exfalso; omega) | exact VLe.prop (by unfold xfS; (repeat (first | rw [if_pos (by omega)] | rw [if_neg (by omega)])); first | done | rfl)
  refine Z6 ?_
  refine Cd (fun c20 => ?_) fun c20 => ?_
  ·
   refine Z2 ?_
   refine Cd (fun c21 => ?_) fun c21 => ?_
   ·
    refine Z4 ?_
    refine .p (opShl (s := (c - 194).toNat) (.c _) (.le (.t rfl) (VLe.int (by omega))) (by show _ ≤ 64; omega)) rfl ?_
    refine Z8 ?_
    refine Rt3 ?_ ?_ ?_
    · first | (exfalso; omega) | exact VLe.int (by unfold xfA; (repeat (first | rw [if_pos (by omega)] | rw [if_neg (by omega)])); first | done | rfl) | (rcases (show c = 192 ∨ c = 193 by omega) with rfl | rfl <;> exact VLe.int (by decide)) | (rcases (show c = 194 ∨ c = 195 ∨ c = 196 by omega) with rfl | rfl | rfl <;> exact VLe.int (by decide))
    · first | (exfalso; omega) | exact VLe.int (by unfold xfB; (repeat (first | rw [if_pos (by omega)] | rw [if_neg (by omega)])); first | done | rfl)
    first | (exfalso; omega) | exact VLe.prop (by unfold xfS; (repeat (first | rw [if_pos (by omega)] | rw [if_neg (by omega)])); first | done | rfl)
   refine Z11 ?_
   refine Rt3 ?_ ?_ ?_
   · first | (exfalso; omega) | exact VLe.int (by unfold xfA; (repeat (first | rw [if_pos (by omega)] | rw [if_neg (by omega)])); first | done | rfl) | (rcases (show c = 192 ∨ c = 193 by omega) with rfl | rfl <;> exact VLe.int (by decide)) | (rcases (show c = 194 ∨ c = 195 ∨ c = 196 by omega) with rfl | rfl | rfl <;> exact VLe.int (by decide))
   · first | (exfalso; omega) | exact VLe.int (by unfold xfB; (repeat (first | rw [if_pos (by omega)] | rw [if_neg (by omega)])); first | done | rfl)
   first | (exfalso; omega) | exact VLe.prop (by unfold xfS; (repeat (first | rw [if_pos (by omega)] | rw [if_neg (by omega)])); first | done | rfl)
  refine Z5 ?_
  refine Cd (fun c22 => ?_) fun c22 => ?_
  ·
   refine Z4 ?_
   refine .p (opShl (s := (c - 194).toNat) (.c _) (.le (.t rfl) (VLe.int (by omega))) (by show _ ≤ 64; omega)) rfl ?_
   refine Z8 ?_
   refine Rt3 ?_ ?_ ?_
   · first | (exfalso; omega) | exact VLe.int (by unfold xfA; (repeat (first | rw [if_pos (by omega)] | rw [if_neg (by omega)])); first | done | rfl) | (rcases (show c = 192 ∨ c = 193 by omega) with rfl | rfl <;> exact VLe.int (by decide)) | (rcases (show c = 194 ∨ c = 195 ∨ c = 196 by omega) with rfl | rfl | rfl <;> exact VLe.int (by decide))
   · first | (exfalso; omega) | exact VLe.int (by unfold xfB; (repeat (first | rw [if_pos (by omega)] | rw [if_neg (by omega)])); first | done | rfl)
   first | (exfalso; omega) | exact VLe.prop (by unfold xfS; (repeat (first | rw [if_pos (by omega)] | rw [if_neg (by omega)])); first | done | rfl)
  refine Z11 ?_
  refine Rt3 ?_ ?_ ?_
  · first | (exfalso; omega) | exact VLe.int (by unfold xfA; (repeat (first | rw [if_pos (by omega)] | rw [if_neg (by omega)])); first | done | rfl) | (rcases (show c = 192 ∨ c = 193 by omega) with rfl | rfl <;> exact VLe.int (by decide)) | (rcases (show c = 194 ∨ c = 195 ∨ c = 196 by omega) with rfl | rfl | rfl <;> exact VLe.int (by decide))
  · first | (exfalso; omega) | exact VLe.int (by unfold xfB; (repeat (first | rw [if_pos (by omega)] | rw [if_neg (by omega)])); first | done | rfl)
  first | (exfalso; omega) | exact VLe.prop (by unfold xfS; (repeat (first | rw [if_pos (by omega)] | rw [if_neg (by omega)])); first | done | rfl)
 refine Z5 ?_
 refine Cd (fun c23 => ?_) fun c23 => ?_
 ·
  refine Z13 ?_
  refine Rt3 ?_ ?_ ?_
  · first | (exfalso; omega) | exact VLe.int (by unfold xfA; (repeat (first | rw [if_pos (by omega)] | rw [if_neg (by omega)])); first | done | rfl) | (rcases (show c = 192 ∨ c = 193 by omega) with rfl | rfl <;> exact VLe.int (by decide)) | (rcases (show c = 194 ∨ c = 195 ∨ c = 196 by omega) with rfl | rfl | rfl <;> exact VLe.int (by decide))
  · first | (exfalso; omega) | exact VLe.int (by unfold xfB; (repeat (first | rw [if_pos (by omega)] | rw [if_neg (by omega)])); first | done | rfl)
  first | (exfalso; omega) | exact VLe.prop (by unfold xfS; (repeat (first | rw [if_pos (by omega)] | rw [if_neg (by omega)])); first | done | rfl)
 refine Z7 ?_
 refine Cd (fun c24 => ?_) fun c24 => ?_
 ·
  refine Z2 ?_
  refine Cd (fun c25 => ?_) fun c25 => ?_
  ·
   refine Z4 ?_
   refine .p (opShl (s := (c - 194).toNat) (.c _) (.le (.t rfl) (VLe.int (by omega))) (by show _ ≤ 64; omega)) rfl ?_
   refine Z8 ?_
   refine Rt3 ?_ ?_ ?_
   · first | (exfalso; omega) | exact VLe.int (by unfold xfA; (repeat (first | rw [if_pos (by omega)] | rw [if_neg (by omega)])); first | done | rfl) | (rcases (show c = 192 ∨ c = 193 by omega) with rfl | rfl <;> exact VLe.int (by decide)) | (rcases (show c = 194 ∨ c = 195 ∨ c = 196 by omega) with rfl | rfl | rfl <;> exact VLe.int (by decide))
   · first | (exfalso; omega) | exact VLe.int (by unfold xfB; (repeat (first | rw [if_pos (by omega)] | rw [if_neg (by omega)])); first | done | rfl)
   first | (exfalso; omega) | exact VLe.prop (by unfold xfS; (repeat (first | rw [if_pos (by omega)] | rw [if_neg (by omega)])); first | done | rfl)
  refine Z11 ?_
  refine Rt3 ?_ ?_ ?_
  · first | (exfalso; omega) | exact VLe.int (by unfold xfA; (repeat (first | rw [if_pos (by omega)] | rw [if_neg (by omega)])); first | done | rfl) | (rcases (show c = 192 ∨ c = 193 by omega) with rfl | rfl <;> exact VLe.int (by decide)) | (rcases (show c = 194 ∨ c = 195 ∨ c = 196 by omega) with rfl | rfl | rfl <;> exact VLe.int (by decide))
  · first | (exfalso; omega) | exact VLe.int (by unfold xfB; (repeat (first | rw [if_pos (by omega)] | rw [if_neg (by omega)])); first | done | rfl)
  first | (exfalso; omega) | exact VLe.prop (by unfold xfS; (repeat (first | rw [if_pos (by omega)] | rw [if_neg (by omega)])); first | done | rfl)
 refine Z6 ?_
 refine Cd (fun c26 => ?_) fun c26 => ?_
 ·
  refine Z2 ?_
  refine Cd (fun c27 => ?_) fun c27 => ?_
  ·
   refine Z4 ?_
   refine .p (opShl (s := (c - 194).toNat) (.c _) (.le (.t rfl) (VLe.int (by omega))) (by show _ ≤ 64; omega)) rfl ?_
   refine Z8 ?_
   refine Rt3 ?_ ?_ ?_
   · first | (exfalso; omega) | exact VLe.int (by unfold xfA; (repeat (first | rw [if_pos (by omega)] | rw [if_neg (by omega)])); first | done | rfl) | (rcases (show c = 192 ∨ c = 193 by omega) with rfl | rfl <;> exact VLe.int (by decide)) | (rcases (show c = 194 ∨ c = 195 ∨ c = 196 by omega) with rfl | rfl | rfl <;> exact VLe.int (by decide))
   · first | (exfalso; omega) | exact VLe.int (by unfold xfB; (repeat (first | rw [if_pos (by omega)] | rw [if_neg (by omega)])); first | done | rfl)
   first | (exfalso; omega) | exact VLe.prop (by unfold xfS; (repeat (first | rw [if_pos (by omega)] | rw [if_neg (by omega)])); first | done | rfl)
  refine Z11 ?_
  refine Rt3 ?_ ?_ ?_
  · first | (exfalso; omega) | exact VLe.int (by unfold xfA; (repeat (first | rw [if_pos (by omega)] | rw [if_neg (by omega)])); first | done | rfl) | (rcases (show c = 192 ∨ c = 193 by omega) with rfl | rfl <;> exact VLe.int (by decide)) | (rcases (show c = 194 ∨ c = 195 ∨ c = 196 by omega) with rfl | rfl | rfl <;> exact VLe.int (by decide))
  · first | (exfalso; omega) | exact VLe.int (by unfold xfB; (repeat (first | rw [if_pos (by omega)] | rw [if_neg (by omega)])); first | done | rfl)
  first | (exfalso; omega) | exact VLe.prop (by unfold xfS; (repeat (first | rw [if_pos (by omega)] | rw [if_neg (by omega)])); first | done | rfl)
 refine Z5 ?_
 refine Cd (fun c28 => ?_) fun c28 => ?_
 ·
  refine Z4 ?_
  refine .p (opShl (s := (c - 194).toNat) (.c _) (.le (.t rfl) (VLe.int (by omega))) (by show _ ≤ 64; omega)) rfl ?_
  refine Z8 ?_
  refine Rt3 ?_ ?_ ?_
  · first | (exfalso; omega) | exact VLe.int (by unfold xfA; (repeat (first | rw [if_pos (by omega)] | rw [if_neg (by omega)])); first | done | rfl) | (rcases (show c = 192 ∨ c = 193 by omega) with rfl | rfl <;> exact VLe.int (by decide)) | (rcases (show c = 194 ∨ c = 195 ∨ c = 196 by omega) with rfl | rfl | rfl <;> exact VLe.int (by decide))
  · first | (exfalso; omega) | exact VLe.int (by unfold xfB; (repeat (first | rw [if_pos (by omega)] | rw [if_neg (by omega)])); first | done | rfl)
  first | (exfalso; omega) | exact VLe.prop (by unfold xfS; (repeat (first | rw [if_pos (by omega)] | rw [if_neg (by omega)])); first | done | rfl)
 refine Z11 ?_
 refine Rt3 ?_ ?_ ?_
 · first | (exfalso; omega) | exact VLe.int (by unfold xfA; (repeat (first | rw [if_pos (by omega)] | rw [if_neg (by omega)])); first | done | rfl) | (rcases (show c = 192 ∨ c = 193 by omega) with rfl | rfl <;> exact VLe.int (by decide)) | (rcases (show c = 194 ∨ c = 195 ∨ c = 196 by omega) with rfl | rfl | rfl <;> exact VLe.int (by decide))
 · first | (exfalso; omega) | exact VLe.int (by unfold xfB; (repeat (first | rw [if_pos (by omega)] | rw [if_neg (by omega)])); first | done | rfl)
 first | (exfalso; omega) | exact VLe.prop (by unfold xfS; (repeat (first | rw [if_pos (by omega)] | rw [if_neg (by omega)])); first | done | rfl)
end Go.Proofs.YtmmdlhjcmlekfaaGreatDoor
end
