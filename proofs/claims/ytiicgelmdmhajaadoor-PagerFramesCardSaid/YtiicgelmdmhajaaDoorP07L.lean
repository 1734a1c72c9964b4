/-
  Keys of pages are sorted, none of them too. No project text.
-/
import Derived.Test.YtiicgelmdmhajaaDoorP07K
import Derived.Test.YtiicgelmdmhajaaDoorP07J
namespace Go.Proofs.YtiicgelmdmhajaaDoor
open Go.Hl
theorem sortKeys_spec {g : SB} {xs : List PairK} (hr : ∀ x ∈ xs, 0 ≤ x.2 ∧ x.2 ≤ 9223372036854775807) :
    FnE Tryd.prog 76 [exactV (sval g xs.length), exactV (.func (.func 77) #[] #[])] [sliceH g 2 encK xs] (γ := List PairK) (fun ys => ys.Perm xs) (fun ys => [sliceH g 2 encK ys]) (fun _ => tupV []) := by
  cases g with
  | some p => obtain ⟨b, cap⟩ := p; exact sortKeys1_spec hr
  | none =>
    intro w S F vs hS hF hSF hown hall
    obtain ⟨F1, F2, f1, f2, hx, _⟩ := hown
    have hx' : xs = [] := hx
    subst hx'
    refine (sort0_spec (fv := .func (.func 77) #[] #[]) w S F vs hS hF hSF trivial ⟨hall.1, fun j p v hj hv => ?_⟩).mono ?_
    · match j, hj with
      | 0, hj => simp at hj; subst hj; exact sliceV_nil _ _ _ _ _ (hall.2 0 _ v rfl hv)
      | 1, hj => exact hall.2 1 p v hj hv
    · rintro e w' ⟨v, S', F', u, he, hs, _, _, hq⟩
      exact ⟨v, S', F', [], he, hs, List.Perm.refl _, ⟨fun _ => False, F', fun _ h => h.elim, fun _ h => h, rfl, trivial⟩, hq⟩
end Go.Proofs.YtiicgelmdmhajaaDoor
