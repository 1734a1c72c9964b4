/-
  More of what layer 5 answers.
-/
import Derived.Test.YtgmpadhfgohodaaDoorW05D
namespace Go.Hl
set_option linter.unusedVariables false
open Classical in
noncomputable def isN (p : Prop) : Nat := if p then 1 else 0
theorem isN_pos {p : Prop} (h : p) : isN p = 1 := by unfold isN; rw [if_pos h]
theorem isN_neg {p : Prop} (h : ¬ p) : isN p = 0 := by unfold isN; rw [if_neg h]
theorem isN_lt (p : Prop) : isN p < 2 := by unfold isN; split <;> decide
theorem testF_is {n : Nat} {op : Int} {A B : Nat} {p : Prop} (h : testP n op A B ↔ p) : testF n op A B = isN p := by
  unfold testF isN
  by_cases hp : p
  · rw [if_pos (h.2 hp), if_pos hp]
  · rw [if_neg (fun h' => hp (h.1 h')), if_neg hp]
theorem rot_or {n A k : Nat} (hA : A < 2 ^ n) (hk : k ≤ n) : (A * 2 ^ k % 2 ^ n) ||| (A / 2 ^ (n - k)) = rotF n A k := by
  have hp : 2 ^ n = 2 ^ (n - k) * 2 ^ k := by rw [← Nat.pow_add]; congr 1; omega
  have h1 : A * 2 ^ k % 2 ^ n = 2 ^ k * (A % 2 ^ (n - k)) := by rw [hp, Nat.mul_mod_mul_right, Nat.mul_comm]
  have h2 : A / 2 ^ (n - k) < 2 ^ k := by
    rw [Nat.div_lt_iff_lt_mul (Nat.two_pow_pos _), Nat.mul_comm, ← hp]; exact hA
  unfold rotF
  rw [h1, Nat.two_pow_add_eq_or_of_lt h2]
theorem and31 (k : Int) : (k % 18446744073709551616).toNat &&& 31 = (k % 32).toNat := by
  rw [show (31 : Nat) = 2 ^ 5 - 1 from rfl, Nat.and_two_pow_sub_one_eq_mod]; omega
theorem and63 (k : Int) : (k % 18446744073709551616).toNat &&& 63 = (k % 64).toNat := by
  rw [show (63 : Nat) = 2 ^ 6 - 1 from rfl, Nat.and_two_pow_sub_one_eq_mod]; omega
theorem and127 (v : Nat) : v &&& 127 = v % 128 := by
  rw [show (127 : Nat) = 2 ^ 7 - 1 from rfl, Nat.and_two_pow_sub_one_eq_mod]
def len8L : List UInt8 := (List.range 256).map fun i => UInt8.ofNat (blN i)
theorem bl8 : ∀ i, i < 256 → (UInt8.ofNat (blN i)).toNat = blN i := by decide +kernel
theorem len8_at {x : Nat} (h : x < 256) : len8L[x]? = some (UInt8.ofNat (blN x)) := by simp [len8L, h]
/-- extended from so many bits to so many -/
def extF (f t : Nat) (s : Prop) [Decidable s] (a : Nat) : Nat := if s ∧ 2 ^ (f - 1) ≤ a % 2 ^ f then a % 2 ^ f + 2 ^ t - 2 ^ f else a % 2 ^ f
theorem ext_u {f t a : Nat} (hf : f = 8 ∨ f = 16 ∨ f = 32) : a * 2 ^ (64 - f) % 18446744073709551616 / 2 ^ (64 - f) = a % 2 ^ f := by
  rcases hf with rfl | rfl | rfl <;> omega
theorem ext_s {f t a : Nat} (hf : f = 8 ∨ f = 16 ∨ f = 32) (ht : t = 32 ∨ t = 64) : ((IntKind.i64.wrap (((a * 2 ^ (64 - f) % 18446744073709551616 : Nat)) : Int) / 2 ^ (64 - f)) % 18446744073709551616).toNat % 2 ^ t = extF f t True a := by
  rw [IntKind.wrap_i64]
  unfold extF
  rcases hf with rfl | rfl | rfl <;> rcases ht with rfl | rfl <;> simp only [true_and] <;> split <;> omega
theorem rot_pos {n A B : Nat} (h : B % n < n) : rotF n A (((B % n : Nat) : Int) % (n : Int)).toNat = rotF n A (B % n) := by
  rw [Int.emod_eq_of_lt (by omega) (by omega)]; rfl
theorem rot_neg {n A B : Nat} (h : B % n < n) : rotF n A ((-((B % n : Nat) : Int)) % (n : Int)).toNat = rotF n A ((n - B % n) % n) := by
  congr 1
  generalize B % n = k at *
  by_cases h0 : k = 0
  · rw [h0]; simp
  · rw [Nat.mod_eq_of_lt (by omega)]
    have : (-((k : Nat) : Int)) % (n : Int) = (n : Int) - ((k : Nat) : Int) := by
      rw [← Int.add_emod_right, Int.emod_eq_of_lt (by omega) (by omega)]; omega
    rw [this]; omega
theorem trap_b0 {n A B : Nat} {op : Int} (h0 : trapF n op A B = 0) (h : 3 ≤ op) (h7 : op < 7) : B ≠ 0 := by
  intro hb
  unfold trapF at h0
  rw [if_neg (by omega), if_pos hb] at h0
  exact absurd h0 (by decide)
theorem ctz_le {a : Nat} (h : a < 18446744073709551616) : Lib.ctz 64 a ≤ 64 := by
  by_cases h0 : a = 0
  · subst h0; exact Nat.le_refl _
  · exact Nat.le_of_lt (Lib.lowest_bit 64 a h0 h).2
theorem pop_n {n a : Nat} (hn : n ≤ 64) (h : a < 2 ^ n) : popN 64 a = popN n a := by
  obtain ⟨j, hj⟩ : ∃ j, 64 = n + j := ⟨64 - n, by omega⟩
  rw [hj, popN_add, Nat.div_eq_of_lt h]
  have : ∀ j, popN j 0 = 0 := fun j => (pop0_iff j 0).2 (Nat.zero_mod _)
  rw [this]; rfl
theorem isN_zero (A : Nat) : isN ((A : Int) = 0) = if A = 0 then 1 else 0 := by
  by_cases h : A = 0
  · rw [isN_pos (by omega), if_pos h]
  · rw [isN_neg (by omega), if_neg h]
theorem ext_pos {f t a : Nat} {s : Prop} [Decidable s] (h : s) : extF f t s a = extF f t True a := by simp [extF, h]
theorem ext_neg {f t a : Nat} {s : Prop} [Decidable s] (h : ¬ s) : extF f t s a = a % 2 ^ f := by simp [extF, h]
end Go.Hl
