/-
  What the statement's proof leans on, several texts in one (packed by a program).
-/
import Derived.Test.YtpahnbgfmhcndaaGreatDoorLFR
import Derived.Lib.ItoaNum
set_option linter.all false
set_option maxRecDepth 1000000
set_option maxHeartbeats 4000000
section
namespace Go.Hl
open Go.Lib
theorem dec_ne (u : Nat) : decDigits u ≠ [] := by
 rw [decDigits]; split <;> simp
def remD (a : Nat) : List UInt8 := if a = 0 then [] else decDigits a
theorem dec_step (a : Nat) : decDigits a = remD (a / 10) ++ [UInt8.ofNat (48 + a % 10)] := by
 by_cases h : a < 10
 · rw [decDigits, dif_pos h, remD, if_pos (by omega), List.nil_append, Nat.mod_eq_of_lt h]
 · rw [decDigits, dif_neg h, remD, if_neg (by omega)]
theorem hex_digit {d : Nat} (h : d < 10) : (([48, 49, 50, 51, 52, 53, 54, 55, 56, 57, 97, 98, 99, 100, 101, 102] : List UInt8).take (d + 1)).drop d = [UInt8.ofNat (48 + d)] := by
 have : ∀ d : Fin 10, (([48, 49, 50, 51, 52, 53, 54, 55, 56, 57, 97, 98, 99, 100, 101, 102] : List UInt8).take (d.1 + 1)).drop d.1 = [UInt8.ofNat (48 + d.1)] := by decide
 exact this ⟨d, h⟩
theorem dec_len : ∀ (k u : Nat), u < 10 ^ (k + 1) → (decDigits u).length ≤ k + 1
 | 0, u, h => by rw [decDigits, dif_pos (by simpa using h)]; simp
 | k + 1, u, h => by
  rw [decDigits]
  split
  · simp
  · rw [List.length_append]
    have := dec_len k (u / 10) (by rw [Nat.pow_succ] at h; omega)
    simp; omega
def DigI (a0 a : Nat) (s : List UInt8) : Prop := (s = [] ∧ a = a0) ∨ (s ≠ [] ∧ remD a ++ s = decDigits a0)
variable {a0 : Nat} {a : Nat} {s : List UInt8}
theorem DigI.len (h : DigI a0 a s) (h0 : a0 < 18446744073709551616) : s.length ≤ 20 ∧ a ≤ a0 ∨ s.length ≤ 20 ∧ a < 18446744073709551616 := by
 rcases h with ⟨rfl, rfl⟩ | ⟨_, h⟩
 · exact .inl ⟨by simp, Nat.le_refl _⟩
 · have hl := congrArg List.length h
   have := dec_len 19 a0 (by omega)
   rw [List.length_append] at hl
   refine .inr ⟨by omega, ?_⟩
   by_cases ha : a < 18446744073709551616
   · exact ha
   · exfalso
     have h1 : remD a = decDigits a := by rw [remD, if_neg (by omega)]
     have h2 : ∀ (k u : Nat), 10 ^ k ≤ u → k + 1 ≤ (decDigits u).length := by
      intro k
      induction k with
      | zero => intro u _; have := dec_ne u; cases hd : decDigits u with
       | nil => exact absurd hd this
       | cons _ _ => simp
      | succ k ih =>
       intro u hu
       rw [Nat.pow_succ] at hu
       have h10 : ¬ u < 10 := by have := Nat.one_le_pow k 10 (by decide); omega
       rw [decDigits, dif_neg h10, List.length_append]
       have := ih (u / 10) (by omega)
       simp; omega
     have h3 := h2 19 a (by omega)
     have h4 : s ≠ [] := by assumption
     have h5 : 0 < s.length := List.length_pos_iff.2 h4
     rw [h1] at hl
     omega
theorem DigI.next (h : DigI a0 a s) (hc : s = [] ∨ 0 < a) : DigI a0 (a / 10) ([UInt8.ofNat (48 + a % 10)] ++ s) := by
 refine .inr ⟨by simp, ?_⟩
 have e : decDigits a ++ s = decDigits a0 := by
  rcases h with ⟨rfl, rfl⟩ | ⟨h1, h2⟩
  · simp
  · rcases hc with hc | hc
    · exact absurd hc h1
    · rw [remD, if_neg (by omega)] at h2; exact h2
 rw [← e, dec_step a, List.append_assoc]
theorem DigI.done (h : DigI a0 a s) (hc : ¬ (s = [] ∨ 0 < a)) : s = decDigits a0 := by
 rcases h with ⟨h1, _⟩ | ⟨_, h2⟩
 · exact absurd (.inl h1) hc
 · have h0 : a = 0 := by
    rcases Nat.eq_zero_or_pos a with h | h
    · exact h
    · exact absurd (.inr h) hc
   subst h0
   simpa [remD] using h2
theorem itoa_len {v : Int} (h0 : -9223372036854775808 ≤ v) (h1 : v ≤ 9223372036854775807) : (itoa v).length ≤ 20 := by
 unfold itoa
 split
 · have := dec_len 18 v.natAbs (by omega)
   simp; omega
 · have := dec_len 18 v.toNat (by omega); omega
end Go.Hl
end
