/-
  What 'Fit' goes over, over this program. No project text.
-/
import Derived.Test.YtghmenjcnopibaaGreatDoorM13A
import Derived.Test.YtghmenjcnopibaaGreatDoorTab
namespace Go.Proofs.YtghmenjcnopibaaGreatDoor
open Go.Hl
set_option linter.unusedVariables false

def encPart (p : List UInt8 × Int) : List VP := [strV p.1, funV Tryz.prog (fun _ : Unit => True) (fun _ => []) (fun _ => intV .i64 p.2)]
instance : Enc 2 encPart := ⟨fun _ => rfl, fun x q h => by simp only [encPart, List.mem_cons, List.not_mem_nil, or_false] at h; rcases h with h | h <;> rw [h] <;> infer_instance⟩
instance (x : List UInt8 × Int) : FlatL (encPart x) := FlatL.of x
noncomputable def partsM (m : ModD) : List (List UInt8 × Int) := [([115, 105, 103, 115], sigsE m), ([105, 109, 112, 111, 114, 116, 115], importsE m), ([102, 117, 110, 99, 115], funcsE m), ([116, 97, 98, 108, 101], tableE m), ([109, 101, 109, 115], memsE m), ([103, 108, 111, 98, 97, 108, 115], globalsE m), ([101, 120, 112, 111, 114, 116, 115], exportsE m), ([115, 116, 97, 114, 116], startE m), ([101, 108, 101, 109, 115], elemsE m), ([100, 97, 116, 97], datasE m)]
noncomputable def fitP (m : ModD) : List UInt8 × Int := ((partsM m).find? fun p => p.2 != 0).getD ([], 0)
theorem fit_at {m : ModD} {k : Nat} {p : List UInt8 × Int} (h : NotB (fun p : List UInt8 × Int => p.2 ≠ 0) (partsM m) k) (hp : (partsM m)[k]? = some p) (hn : p.2 ≠ 0) : fitP m = p := by
  unfold fitP
  have key : ∀ (l : List (List UInt8 × Int)) (k : Nat), NotB (fun p : List UInt8 × Int => p.2 ≠ 0) l k → l[k]? = some p → l.find? (fun p => p.2 != 0) = some p := by
    intro l
    induction l with
    | nil => intro k _ h; simp at h
    | cons x l ih =>
      intro k h hk
      cases k with
      | zero => simp at hk; subst hk; simp [hn]
      | succ k =>
        have h0 := h 0 x (by omega) rfl
        simp only [ne_eq, Classical.not_not] at h0
        rw [List.find?_cons_of_neg (by simp [h0])]
        exact ih k (fun j y hj hy => h (j + 1) y (by omega) (by simpa using hy)) (by simpa using hk)
  rw [key _ k h hp]; rfl
theorem fit_none {m : ModD} (h : ∀ p ∈ partsM m, ¬ p.2 ≠ 0) : fitP m = ([], 0) := by
  unfold fitP
  rw [List.find?_eq_none.2 (fun p hp => by have := h p hp; simpa using this)]; rfl
theorem fit_zero {m : ModD} : (fitP m).2 = 0 ↔ ∀ p ∈ partsM m, p.2 = 0 := by
  constructor
  · intro h p hp
    unfold fitP at h
    cases hf : (partsM m).find? (fun p => p.2 != 0) with
    | none => have := List.find?_eq_none.1 hf p hp; simpa using this
    | some x => rw [hf] at h; have := List.find?_some hf; simp at this h; exact absurd h this
  · intro h; rw [fit_none (fun p hp => by simpa using h p hp)]
theorem fit_name {m : ModD} (h : (fitP m).2 = 0) : fitP m = ([], 0) := fit_none (fun p hp => by simpa using fit_zero.1 h p hp)
theorem parts_len {m : ModD} : (partsM m).length = 10 := rfl
def emptyM : ModD := ⟨[], [], [], -1, [], [], [], -1, [], []⟩
theorem fit_empty : fitP emptyM = ([], 0) := by
  refine fit_none fun p hp => ?_
  simp only [partsM, List.mem_cons, List.not_mem_nil, or_false] at hp
  simp only [ne_eq, Classical.not_not]
  rcases hp with rfl | rfl | rfl | rfl | rfl | rfl | rfl | rfl | rfl | rfl <;> simp [emptyM, sigsE, importsE, funcsE, tableE, memsE, globalsE, exportsE, startE, elemsE, datasE, manyE, firstE, countM, whenE]
theorem empty_le : VLe (ptrV [exactV (.slice none 0 0), exactV (.slice none 0 0), exactV (.slice none 0 0), intV .i64 (-1), exactV (.slice none 0 0), exactV (.slice none 0 0), exactV (.slice none 0 0), intV .i64 (-1), exactV (.slice none 0 0), exactV (.slice none 0 0)]) (ptrV (encMod emptyM)) :=
  VLe.ptr (.cons (sliceV_nil _ _) <| .cons (sliceV_nil _ _) <| .cons (sliceV_nil _ _) <| .cons (VLe.refl _) <| .cons (sliceV_nil _ _) <| .cons (sliceV_nil _ _) <| .cons (sliceV_nil _ _) <| .cons (VLe.refl _) <| .cons (sliceV_nil _ _) <| .cons (sliceV_nil _ _) .nil)
end Go.Proofs.YtghmenjcnopibaaGreatDoor
namespace Go.Proofs.YtghmenjcnopibaaGreatDoor
open Go.Hl
theorem awake_name : NamedP [97, 46, 98] := ⟨by decide, by simp, by simp⟩
end Go.Proofs.YtghmenjcnopibaaGreatDoor
