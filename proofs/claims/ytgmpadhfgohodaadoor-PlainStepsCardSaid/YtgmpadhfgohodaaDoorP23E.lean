/-
  The document's pass over the six steps, step by step.
-/
import Derived.Test.YtgmpadhfgohodaaDoorP23C
import Derived.Test.YtgmpadhfgohodaaDoorHlY
namespace Go.Hl
open Go.RowKit
set_option linter.unusedVariables false
def bitsN (c : Int) : Nat := if (80 ≤ c ∧ c ≤ 90) ∨ (121 ≤ c ∧ c ≤ 138) then 64 else 32
theorem noI_le : LeL [exactV (.int .i64 (-1)), exactV (.int .u64 0), exactV (.int .u64 0), exactV (.int .i64 0), exactV (.slice none 0 0)] (encInstr noI) :=
  .cons (VLe.refl _) (.cons (VLe.refl _) (.cons (VLe.refl _) (.cons (VLe.refl _) (.cons (sliceV_nil 1 encU64) .nil))))
theorem get0' {l : List UInt8} (h : l.length = 1) : l[0]? = some (l.getD 0 0) := get0 (by omega)
theorem gives1' {l : List UInt8} (h : l.length = 1) : ((l.getD 0 0).toNat : Int) = 126 ↔ l = [126] := ⟨fun e => gives1.1 ⟨by omega, e⟩, fun e => (gives1.2 e).2⟩
section
variable {x y z : InstrD} {m : Prop} {k n : Nat} {ins : List InstrD}
theorem stF_yes (h : (stF x y z m k).2.1 = 0) (hk : stK x y z m k = some (n, ins)) : stF x y z m (k + 1) = (n, k + 1, ins) := by simp only [stF]; rw [if_pos h, hk]
theorem stF_no (hk : stK x y z m k = none) : stF x y z m (k + 1) = stF x y z m k := by simp only [stF]; rw [hk]; split <;> rfl
theorem stF_had (h : ¬ (stF x y z m k).2.1 = 0) : stF x y z m (k + 1) = stF x y z m k := by simp only [stF]; rw [if_neg h]
theorem stF_not {p : Prop} (h : ¬ ((stF x y z m k).2.1 = 0 ∧ p)) (hk : ¬ p → stK x y z m k = none) : stF x y z m (k + 1) = stF x y z m k := by
  by_cases h0 : (stF x y z m k).2.1 = 0
  · exact stF_no (hk fun hp => h ⟨h0, hp⟩)
  · exact stF_had h0
theorem stF_ins (h : (stF x y z m k).2.1 = 0) : (stF x y z m k).2.2 = [] := by rw [(stF_zero k h).1]
theorem stF_lt : ∀ k, (stF x y z m k).2.1 ≤ k
  | 0 => Nat.le_refl _
  | k + 1 => by
    have := stF_lt k
    simp only [stF]
    split
    · split
      · exact Nat.le_refl _
      · omega
    · omega
end
/-- what is taken away stands there; what stands instead is short -/
theorem stF_room {l : List InstrD} {i M : Nat} {s : Stp} (hl : SmL l M) (hi : i < l.length) (hs : s = stF (gI l i) (gI l (i + 1)) (gI l (i + 2)) (i + 1 < l.length) 6) (h : ¬ s.2.1 = 0) : i + s.1 ≤ l.length ∧ s.2.2.length ≤ 3 := by
  subst hs
  obtain ⟨j, j1, j2, j3, j4⟩ := stF_some 6 h
  have h1 := stK_room hi j3
  obtain ⟨_, h2, h3⟩ := stK_ok hl.gI j _ _ j3
  exact ⟨h1, by omega⟩
theorem bound_not {c : Int} (h1 : ¬ c = 11) (h2 : c < 2 ∨ 5 < c) : ¬ boundP c := by unfold boundP; omega
theorem not_bound {c : Int} (h : ¬ boundP c) : ¬ c = 11 ∧ (c < 2 ∨ 5 < c) := by unfold boundP at h; omega
theorem one_not {c : Int} {a : Nat} (h : ¬ (oneC c a).isSome = true) : oneC c a = none := by simpa using h
theorem one_at {c : Int} {a : Nat} : (oneC c a).isSome = true → oneC c a = some ((oneC c a).getD 0) := fun h => by
  obtain ⟨v, hv⟩ := Option.isSome_iff_exists.1 h; rw [hv]; rfl
theorem one_code {c : Int} {a : Nat} (h : (oneC c a).isSome = true) : (takesR c).2.length = 1 := by
  have h0 : ((69 ≤ c ∧ c ≤ 90) ∨ (103 ≤ c ∧ c ≤ 138) ∨ c = 167 ∨ c = 172 ∨ c = 173 ∨ (192 ≤ c ∧ c ≤ 196)) := by
    refine Classical.byContradiction fun hn => ?_
    unfold oneC at h
    rw [if_neg (by omega), if_neg (by omega), if_neg (by omega), if_neg (by omega), if_neg (by omega), if_neg (by omega), if_neg (by omega), if_neg (by omega), if_neg (by omega), if_neg (by omega), if_neg (by omega), if_neg (by omega)] at h
    cases h
  exact (find_code h0).2
theorem two_code {c : Int} {a b : Nat} (h : twoOk c a b) : (takesR c).2.length = 1 := by
  have h0 : ((69 ≤ c ∧ c ≤ 90) ∨ (103 ≤ c ∧ c ≤ 138) ∨ c = 167 ∨ c = 172 ∨ c = 173 ∨ (192 ≤ c ∧ c ≤ 196)) := by
    refine Classical.byContradiction fun hn => ?_
    unfold twoOk at h
    rw [if_neg (by omega), if_neg (by omega), if_neg (by omega), if_neg (by omega)] at h
    exact h
  exact (find_code h0).2
end Go.Hl
