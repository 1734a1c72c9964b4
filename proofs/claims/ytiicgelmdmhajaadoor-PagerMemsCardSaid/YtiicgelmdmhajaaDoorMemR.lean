/-
  The law PagerMems holds: at every input the call returns true, and what was there stays as it was.
  No condition but the form's own (the reach).
-/
import Derived.Test.YtiicgelmdmhajaaDoorRows
import Derived.WalkKit
import Derived.ProofKit
import Derived.OpenShut
import Derived.ShutString
import Derived.ChangeOld
import Derived.Below
import Derived.SizedLaws
import Derived.LaidMore
import Derived.Lay
import Derived.SevenTiedAt
import Derived.Stop.Joined
import Derived.Test.YtiicgelmdmhajaaDoorTie
import Derived.Test.YtiicgelmdmhajaaDoorCards
import Derived.Test.YtiicgelmdmhajaaDoorHlR
import Derived.Test.YtiicgelmdmhajaaDoorP07I
namespace Go.Proofs.YtiicgelmdmhajaaDoor.pagerMemsLaw
open Go.ChangeShapes Go.WideShapes Go.ChangeAt Go.RowKit Go.Hl
open Go.ChangeMaps (open_string shut_string)
set_option linter.unusedVariables false
set_option maxRecDepth 100000

theorem own : ownKnob Tryd.prog.godebug = none := by kernel_rfl
theorem laidOut : laidOutB Tryd.prog = true := by kernel_rfl

def laid : List (String × DataW Unit) := [("unicode/utf8.acceptRanges", Rows.laid_unicode_utf8_acceptRanges), ("unicode/utf8.first", Rows.laid_unicode_utf8_first)]

theorem opn76 : Opn Tryd.prog 76 encAct :=
  Opn.via (Opn.struct Tryd.underlying76 Tryd.cz76 (.cons (by kernel_rfl) Tryd.cz5 (Opn.u8 Tryd.underlying5) (.cons (by kernel_rfl) Tryd.cz3 (Opn.intW (k := .i64) Tryd.underlying3) (.cons (by kernel_rfl) Tryd.cz3 (Opn.intW (k := .i64) Tryd.underlying3) (.cons (by kernel_rfl) Tryd.cz3 (Opn.intW (k := .i64) Tryd.underlying3) (.cons (by kernel_rfl) Tryd.cz3 (Opn.intW (k := .i64) Tryd.underlying3) (.cons (by kernel_rfl) Tryd.cz22 (Opn.slice (enc := encU8) Tryd.underlying22 Tryd.cz5 (by kernel_rfl) (by kernel_rfl) (show Opn Tryd.prog 5 encU8 from (Opn.u8 Tryd.underlying5))) .nil))))))) (fun p => ⟨p.1, p.2.1, p.2.2.1, p.2.2.2.1, p.2.2.2.2.1, p.2.2.2.2.2.1⟩) (fun _ => rfl)

set_option maxRecDepth 100000 in
theorem lifted (os : Os) (started : os.Started) (H : Type) (enc : TypeId × Value → H) :
    ReturnsInHanded {} Tryd.checked os 9 .any (fun w args => (Rows.pagerMemsSpec.pre enc Tryd.prog Tryd.f9 Rows.pagerMemsRow.domain false w args ∧ laidMetH Tryd.prog laid w) ∧ sizedMet enc Tryd.prog Tryd.f9 (OpenSpec.ofChange Rows.pagerMemsSpec) false w args) (Rows.pagerMemsSpec.post enc Tryd.prog Tryd.f9 false true false false) := by
  refine returnsInHanded_of_change_and (C := Tryd.checked) (X := fun w _ => laidMetH Tryd.prog laid w) (fun _ _ _ hh h => h.of_heap hh) own started (by kernel_rfl) Tryd.func9
    (ChangeSpec.witness_shaped (enc := enc) (C := Tryd.checked) (os := os) (X := fun w _ => laidMetH Tryd.prog laid w) false (World.laidAll Tryd.prog os laid) #[.int .u8 0, .slice none 0 0] 8 (World.laidAll_os _ _ _)
      (World.shaped_of_ZipB (by kernel_rfl) (by kernel_rfl)) (by kernel_rfl) (by kernel_rfl) (by kernel_rfl)
      (by rw [MakeChecks.laidMetH_plain _ _ _ (by kernel_rfl)]; exact laidMet_laidAll _ (by kernel_rfl) (by kernel_rfl))) ?_
  intro W base args ds gs before hval0 hW hcnd hsz0 hX _
  have hval : ∀ (j : Nat) t v, Tryd.f9.params[j]? = some t → args[j]? = some v → Value.okWide Tryd.prog W .any base t v := hval0
  have hsz : (DataW.weightsEach Tryd.prog (Tryd.f9.params.toList ++ Rows.pagerMemsSpec.plain.varTypes Tryd.prog) (ds ++ gs)).all (· ≤ reachBytes) = true := hsz0
  have hW' := hW
  obtain ⟨p, q, hA0, hV, rfl, hfz, hnd⟩ := hW
  have hA : DataW.TrodAll enc Tryd.prog W 0 (fun _ => true) true Tryd.f9.params.toList args.toList ds p := hA0
  rw [Tryd.params9] at hA hval hsz
  obtain ⟨v0, vs0, d0, ds0, p0, q0, hargs, rfl, rfl, h0, r0⟩ := trodAll_cons hA
  obtain ⟨v1, vs1, d1, ds1, p1, q1, rfl, rfl, rfl, h1, r1⟩ := trodAll_cons r0
  obtain ⟨rfl, rfl, rfl⟩ := trodAll_nil r1
  obtain rfl : args = #[v0, v1] := by cases args; simp_all
  obtain ⟨rfl, rfl⟩ := trodVars_none hV
  have lt0 : ∀ x ∈ p0, x.block < W.heap.size := by obtain ⟨m, hm⟩ := h0; exact DataW.trod_lt m _ _ _ hm
  obtain ⟨a0, w0⟩ := arg_one (q := fun a0 : UInt8 => intV .u8 ((a0.toNat : Nat) : Int)) (Opn.u8 Tryd.underlying5) Tryd.ag5 (fun _ => rfl) (hval 0 5 v0 rfl rfl) h0 (reach_at hsz (j := 0) rfl rfl)
  have lt1 : ∀ x ∈ p1, x.block < W.heap.size := by obtain ⟨m, hm⟩ := h1; exact DataW.trod_lt m _ _ _ hm
  obtain ⟨a1, w1⟩ := arg_one (q := fun a1 : _ => sliceV 6 encAct a1) (Opn.slice (enc := encAct) Tryd.underlying74 Tryd.cz76 (by kernel_rfl) (by kernel_rfl) opn76) Tryd.ag74 (fun _ => rfl) (hval 1 74 v1 rfl rfl) h1 (reach_at hsz (j := 1) rfl rfl)
  clear hA0 hval0
  have hall : All2 [intV .u8 ((a0.toNat : Nat) : Int), sliceV 6 encAct a1] (fun k => k < W.heap.size) W [v0, v1] := (.cat (.one w0) (.cat (.one w1) All2.nil))
  refine (law_calls (pagerMems_spec) hall).mono fun e W' ⟨he, bel⟩ => ?_
  subst he
  exact ⟨_, rfl, _, _, _, [], _, [], hW', trodAll_mk1 (shut_bool Tryd.underlying4 _), (trodAll_cons_mk (Below.trod laidOut (by kernel_rfl) (of_decide_eq_true (by kernel_rfl)) h0 bel lt0) (trodAll_cons_mk (Below.trod laidOut (by kernel_rfl) (of_decide_eq_true (by kernel_rfl)) h1 bel lt1) trodAll_mk0)), rfl, bel.frame _, fun h => by cases h⟩

theorem over : Rows.pagerMemsRow.holds Tryd.pinned (OpenSpec.ofChange Rows.pagerMemsSpec) :=
  OpenClaim.holds_of_wide 9 Tryd.f9 rfl rfl rfl rfl rfl rfl rfl ⟨rfl, rfl, rfl, rfl, rfl⟩ rfl rfl rfl rfl rfl (by kernel_rfl) Tryd.func9 (by kernel_rfl)
    (of_decide_eq_true (by kernel_rfl)) (by unfold Func.isWrapper; first | (rw [if_pos (by decide +kernel)]; kernel_rfl) | (rw [if_neg (by decide +kernel)]; exact ⟨rfl, rfl⟩))
    (fun os started H enc _ => lifted os started H enc)

end Go.Proofs.YtiicgelmdmhajaaDoor.pagerMemsLaw
namespace Go.Proofs.YtiicgelmdmhajaaDoor
/-- The statement: the card. -/
theorem pagerMems_holds : Rows.PagerMemsCardSaid :=
  Claim7.holds_tied_plain_at .later [] [.data, .pinned] true (true, "668b5fb40a1637f2222e8dcf93a76588dae78d0a86b2a97fd0da0e075b3b5ceb") false pagerMemsLaw.over (fun _ h => by cases h) (by kernel_rfl) (fun _ h => by cases h) pagerMems_row_tie rfl ⟨rfl, rfl⟩ (by kernel_rfl) rfl
    (fun f fn hf hfn => by
      obtain rfl : f = 9 := Option.some.inj ((show Tryd.prog.funcNamed "grommet/grommetlaw07.PagerMems" = some 9 by kernel_rfl).symm.trans hf) |>.symm
      obtain rfl : fn = Tryd.f9 := (Option.some.inj (Tryd.func9.symm.trans hfn)).symm
      exact ⟨by kernel_rfl, fun j t ht => by
        rw [Tryd.params9] at ht
        have hm : t ∈ [5, 74] := by simpa using Array.mem_of_getElem? ht
        have hall : ([5, 74].all fun u => !Tryd.prog.wantsStandIn u) = true := by kernel_rfl
        exact (show Tryd.prog.wantsStandIn t = false by simpa using List.all_eq_true.1 hall t hm)⟩)
    (by kernel_rfl)
#print axioms pagerMems_holds
end Go.Proofs.YtiicgelmdmhajaaDoor
