/-
  The document's example; what a statement's list is; how a list becomes plain at last.
-/
import Derived.Test.YtgmpadhfgohodaaDoorP23S
import Derived.Test.YtgmpadhfgohodaaDoorP23U
import Derived.Test.YtgmpadhfgohodaaDoorM13Y
import Derived.Test.YtgmpadhfgohodaaDoorHlR
import Derived.Lib.LaidTab
namespace Go.Hl
open Go.RowKit
set_option linter.unusedVariables false

theorem stepR_facts {m : List InstrD} {M : Nat} (hm : SmL m M) : SmL (stepR m).1 M ∧ bodyL (stepR m).1 = bodyL m ∧ ((stepR m).2 = 0 → stepL (stepR m).1 = none) ∧ (0 < (stepR m).2 → (stepR m).1.length < m.length) := by
  unfold stepR
  cases h : stepL m with
  | none => exact ⟨hm, rfl, fun _ => h, fun h0 => absurd h0 (by simp)⟩
  | some r =>
    obtain ⟨h1, h2, h3⟩ := stepL_less hm (show stepL m = some (r.1, r.2) from h)
    exact ⟨h2, (bodyL_some hm (show stepL m = some (r.1, r.2) from h)).symm, fun h0 => absurd (show r.2 = 0 from h0) (by omega), fun _ => h1⟩
def exL : List InstrD := [mkI 65 2, mkI 65 3, mkI 106 0]
theorem ex_two : twoV 106 2 3 = 5 ∧ twoOk 106 2 3 ∧ outC 106 = 65 := by
  refine ⟨?_, ?_, ?_⟩
  · unfold twoV; rw [if_neg (by decide), if_neg (by decide), if_pos (by decide)]; decide
  · unfold twoOk; rw [if_neg (by decide), if_neg (by decide), if_pos (by decide)]; decide
  · decide
theorem ex_sm : SmL exL 60000 := ⟨by decide, fun x hx => by
  simp only [exL, List.mem_cons, List.not_mem_nil, or_false] at hx
  rcases hx with rfl | rfl | rfl <;> exact mkI_ok (by decide), fun x hx => by
  simp only [exL, List.mem_cons, List.not_mem_nil, or_false] at hx
  rcases hx with rfl | rfl | rfl <;> simp [mkI]⟩
theorem ex_step : stepL exL = some ([mkI 65 5], 3) := by
  refine stepL_at (i := 0) rfl (by decide) (stepAtK_stay (k := 3) (stepAtK_yes (stepAtK_none 2 fun j hj => ?_) ?_) 6 (by decide))
  · match j, hj with
    | 0, _ => exact f0_no (by decide)
    | 1, _ => exact f1_b (by decide)
  · rw [f2_c (l := exL) (i := 0) (by decide) (by decide) ex_two.2.1, two_num (c := (gI exL (0 + 2)).Code) (a := XA exL 0) (b := XA exL (0 + 1)) ex_two.2.1]
    have e : gI exL (0 + 2) = mkI 106 0 := rfl
    rw [e]
    show some (cutL exL 0 3 [mkI (outC 106) (twoV 106 2 3)]) = _
    rw [ex_two.1, ex_two.2.2]; rfl
theorem ex_end : stepL [mkI 65 5] = none := by
  refine stepK_next (l := [mkI 65 5]) (i := 0) rfl (stepAtK_none 6 fun j hj => ?_)
  match j, hj with
  | 0, _ => exact f0_no (by decide)
  | 1, _ => exact fK_1n (by decide)
  | 2, _ => exact fK_2n (by decide)
  | 3, _ => exact fK_3n (by decide)
  | 4, _ => exact fK_4n (by decide)
  | 5, _ => exact fK_5n (by decide)
theorem ex_body : bodyL exL = [mkI 65 5] := by rw [bodyL_some ex_sm ex_step, bodyL_none ex_end]
theorem small_of_great {l : List InstrD} (h : ∀ x ∈ l, okI x) (hb : BodyLens ⟨[], l⟩) (h0 : greatB ⟨[], l⟩ ≤ 0) : SmL l 60000 ∧ l.length ≤ 150 := by
  obtain ⟨h1, h2, h3⟩ := greatB_small hb h0
  exact ⟨⟨by show l.length ≤ _; have : l.length ≤ 150 := h2; omega, h, fun x hx => by have := h3 x hx; omega⟩, h2⟩
theorem lens_of {l : List InstrD} {S : BS} {w : World} {v : Value} (h : (sliceV 5 encInstr l).p S w v) : BodyLens ⟨[], l⟩ :=
  ⟨by simp, sliceV_len h, fun i x hx => by obtain ⟨u, hu⟩ := sliceV_mem h (List.mem_of_getElem? hx) 4 rfl; exact sliceV_len hu⟩
theorem mkk_le {k : Int} {v : Nat} : VLe (aggV [intV .i64 k, intV .u64 (v : Int), exactV (.int .u64 0), exactV (.int .i64 0), exactV (.slice none 0 0)]) (aggV (encInstr (mkI k v))) :=
  VLe.agg (.cons (VLe.refl _) (.cons (VLe.refl _) (.cons (VLe.refl _) (.cons (VLe.refl _) (.cons (sliceV_nil 1 encU64) .nil)))))
/-- an instruction of a statement: its first number is a word -/
abbrev IW := { x : InstrD // okI x }
def mkIW (c : Int) (a : IntOf .u64) (b al : Int) (l : List Int) : IW := ⟨⟨c, a.1, b, al, l⟩, by
  have h := a.2
  have e1 : IntKind.u64.min = 0 := by decide
  have e2 : IntKind.u64.max = 18446744073709551615 := by decide
  simp [Lit.wf] at h
  exact ⟨by show 0 ≤ a.1; omega, by show a.1 < _; omega⟩⟩
theorem okI_map (a : List IW) : ∀ x ∈ a.map (·.1), okI x := fun x hx => by
  obtain ⟨y, _, rfl⟩ := List.mem_map.1 hx; exact y.2
def encIW (x : IW) : List VP := encInstr x.1
instance : Enc 5 encIW := ⟨fun x => (inferInstance : Enc 5 encInstr).len x.1, fun x q h => (inferInstance : Enc 5 encInstr).flat x.1 q h⟩
theorem sliceIW {a : List IW} : VLe (sliceV 5 encIW a) (sliceV 5 encInstr (a.map (·.1))) := fun S w v ⟨ad, cap, h1, h2, h3, h4⟩ => by
  refine ⟨ad, cap, by rw [List.length_map]; exact h1, by rw [List.length_map]; exact h2, by rw [List.length_map]; exact h3, ?_⟩
  cases ad with
  | none => exact h4
  | some ad =>
    intro h0
    obtain ⟨k1, k2, k3⟩ := h4 h0
    refine ⟨k1, k2, fun i x hx => ?_⟩
    rw [List.getElem?_map] at hx
    obtain ⟨y, hy, rfl⟩ := Option.map_eq_some_iff.1 hx
    exact k3 i y hy
theorem FnE.argLe {P : Program} {f : FuncId} {ps ps' : List VP} {hs : List HP} {γ : Type} {φ : γ → Prop} {hs' : γ → List HP} {q : γ → VP} (h : FnE P f ps hs φ hs' q) (hl : LeL ps' ps) : FnE P f ps' hs φ hs' q := fun w S F vs h1 h2 h3 h4 h5 =>
  h w S F vs h1 h2 h3 h4 ⟨hl.len.symm.trans h5.1, fun j p v hp hv => by
    obtain ⟨p', k1, k2⟩ := hl.get j p hp
    exact k2 _ _ _ (h5.2 j p' v k1 hv)⟩
end Go.Hl
