/-
  A slice that may be nil, asked for that; an operation that isn't done. No project text.
-/
import Derived.Test.YtgmpadhfgohodaaDoorHlX
import Derived.Test.YtgmpadhfgohodaaDoorHlR
namespace Go.Hl
open Go.RowKit
set_option linter.unusedVariables false
section
variable {P : Program} {hs : List HP} {env : Env} {q : VP} {dst : Option Tmp} {ty T T' E : TypeId} {pos : String} {after : Array Edge} {gd : Option (Nat × Bool)} {x y z : Operand}
/-- an operation that isn't done -/
theorem opNo {o : Oper} {q : VP} (h : False) : OpP P hs env o q := h.elim
/-- a slice, and whether it is nil -/
def sliceNV {α : Type} (p : Prop) (n : Nat) (enc : α → List VP) (xs : List α) : VP :=
  ⟨fun S w v => (sliceV n enc xs).p S w v ∧ ∃ a l c, v = .slice a l c ∧ (p ↔ a = none), fun h1 h2 ⟨a, b⟩ => ⟨(sliceV n enc xs).mono h1 h2 a, b⟩⟩
instance {α : Type} (p : Prop) (n : Nat) (enc : α → List VP) (xs : List α) : Flat (sliceNV p n enc xs) := ⟨fun ⟨h, _⟩ => (inferInstance : Flat (sliceV n enc xs)).flat h⟩
theorem sliceNV_le {α : Type} {p : Prop} {n : Nat} {enc : α → List VP} {xs : List α} : VLe (sliceNV p n enc xs) (sliceV n enc xs) := fun _ _ _ h => h.1
theorem CodeT.nilCase {Q : Exit → Act → World → Prop} {c : Ctx} {s : Code} {α : Type} {n t : Nat} {enc : α → List VP} {xs : List α} (ht : look env t = some (sliceV n enc xs)) (k : ∀ p : Prop, (p → xs = []) → CodeT P Q c s hs ((t, sliceNV p n enc xs) :: env)) : CodeT P Q c s hs env := by
  intro a w ⟨h1, h2, S, F, h3, h4, h5⟩
  have hv := h5 t _ ht
  obtain ⟨ad, cap, hv1, hc, hm, h⟩ := id hv
  refine k (ad = none) (fun e => ?_) a w ⟨h1, h2, S, F, h3, h4, fun s q hl => ?_⟩
  · subst e; exact List.length_eq_zero_iff.1 (by have h9 : cap = 0 := h; omega)
  · rw [look_cons] at hl
    by_cases e : t = s
    · rw [if_pos e] at hl; cases hl; subst e; exact ⟨hv, ad, _, _, hv1, Iff.rfl⟩
    · rw [if_neg e] at hl; exact h5 s q hl
theorem opEqlNilN {α : Type} {p : Prop} {n : Nat} {enc : α → List VP} {xs : List α} (hT : P.underlying T = some (.slice E)) (hx : Opd env x (sliceNV p n enc xs)) (hy : Opd env y (exactV (.slice none 0 0))) : OpP P hs env ⟨dst, .binOp .eql T x y T', ty, pos, after, gd⟩ (propV p) :=
  OpP.of_read fun ρ w S F _ he => by
    obtain ⟨_, o, l, c, hv, hp⟩ := he.o _ _ hx
    have h2 := he.o _ _ hy; simp only [exactV] at h2
    have e2 : (binOp .eql T (.slice o l c) (.slice none 0 0)).run P w = .ok (.bool o.isNone) w := by
      show ((do pure (.bool (← Op.equalIn (9999 + 1) T (.slice o l c) (.slice none 0 0)))) : Sem Value).run P w = _
      rw [run_bind_ok (eq_slice_nil 9999 o l c hT)]; rfl
    refine ⟨.bool o.isNone, by simp [execOp, hv, h2, eqGuard, e2], _, rfl, ?_⟩
    cases o <;> simp [hp]
end
theorem OLe.cellsY {b : Nat} {cs cs' : List VP} (h : LeL cs cs') {r : List HP} : OLe (cellsH b cs :: r) (cellsH b cs' :: r) := fun F S w ⟨F1, F2, h1, h2, ⟨f1, arr, T, hh, hn, hc⟩, h4⟩ =>
  ⟨F1, F2, h1, h2, ⟨f1, arr, T, hh, by rw [hn, h.len], fun j q' hj => let ⟨q, k1, k2⟩ := h.get j q' hj; let ⟨u, hu, hq⟩ := hc j q k1; ⟨u, hu, k2 _ _ _ hq⟩⟩, h4⟩
end Go.Hl
