/-
  The law SpacePlays holds: at every input the call returns true, and what was there stays as it was.
  No condition but the form's own (the reach).
-/
import Derived.Test.YtiicgelmdmhajaaDoorRows
import Derived.WalkKit
import Derived.ProofKit
import Derived.OpenShut
import Derived.ShutString
import Derived.ChangeOld
import Derived.Below
import Derived.SizedLaws
import Derived.LaidMore
import Derived.Lay
import Derived.SevenTiedAt
import Derived.Stop.Joined
import Derived.Test.YtiicgelmdmhajaaDoorTie
import Derived.Test.YtiicgelmdmhajaaDoorCards
import Derived.Test.YtiicgelmdmhajaaDoorHlR
import Derived.Test.YtiicgelmdmhajaaDoorP08L
namespace Go.Proofs.YtiicgelmdmhajaaDoor.spacePlaysLaw
open Go.ChangeShapes Go.WideShapes Go.ChangeAt Go.RowKit Go.Hl
open Go.ChangeMaps (open_string shut_string)
set_option linter.unusedVariables false
set_option maxRecDepth 100000

theorem own : ownKnob Tryd.prog.godebug = none := by kernel_rfl
theorem laidOut : laidOutB Tryd.prog = true := by kernel_rfl

def laid : List (String × DataW Unit) := [("unicode/utf8.acceptRanges", Rows.laid_unicode_utf8_acceptRanges), ("unicode/utf8.first", Rows.laid_unicode_utf8_first)]

theorem opn66 : Opn Tryd.prog 66 encActS :=
  Opn.via (Opn.struct Tryd.underlying66 Tryd.cz66 (.cons (by kernel_rfl) Tryd.cz5 (Opn.u8 Tryd.underlying5) (.cons (by kernel_rfl) Tryd.cz4 (Opn.bool Tryd.underlying4) (.cons (by kernel_rfl) Tryd.cz4 (Opn.bool Tryd.underlying4) (.cons (by kernel_rfl) Tryd.cz46 (Opn.intW (k := .u64) Tryd.underlying46) (.cons (by kernel_rfl) Tryd.cz46 (Opn.intW (k := .u64) Tryd.underlying46) (.cons (by kernel_rfl) Tryd.cz3 (Opn.intW (k := .i64) Tryd.underlying3) (.cons (by kernel_rfl) Tryd.cz22 (Opn.slice (enc := encU8) Tryd.underlying22 Tryd.cz5 (by kernel_rfl) (by kernel_rfl) (show Opn Tryd.prog 5 encU8 from (Opn.u8 Tryd.underlying5))) .nil)))))))) (fun p => ⟨p.1, p.2.1, p.2.2.1, n64 p.2.2.2.1, n64 p.2.2.2.2.1, p.2.2.2.2.2.1, p.2.2.2.2.2.2.1⟩) (fun p => by (show _ = [_, _, _, intV .u64 ((n64 p.2.2.2.1).1 : Int), intV .u64 ((n64 p.2.2.2.2.1).1 : Int), _, _]; rw [← n64_eq, ← n64_eq]; rfl))

set_option maxRecDepth 100000 in
theorem lifted (os : Os) (started : os.Started) (H : Type) (enc : TypeId × Value → H) :
    ReturnsInHanded {} Tryd.checked os 8 .any (fun w args => (Rows.spacePlaysSpec.pre enc Tryd.prog Tryd.f8 Rows.spacePlaysRow.domain false w args ∧ laidMetH Tryd.prog laid w) ∧ sizedMet enc Tryd.prog Tryd.f8 (OpenSpec.ofChange Rows.spacePlaysSpec) false w args) (Rows.spacePlaysSpec.post enc Tryd.prog Tryd.f8 false true false false) := by
  refine returnsInHanded_of_change_and (C := Tryd.checked) (X := fun w _ => laidMetH Tryd.prog laid w) (fun _ _ _ hh h => h.of_heap hh) own started (by kernel_rfl) Tryd.func8
    (ChangeSpec.witness_shaped (enc := enc) (C := Tryd.checked) (os := os) (X := fun w _ => laidMetH Tryd.prog laid w) false (World.laidAll Tryd.prog os laid) #[.int .u8 0, .agg #[.int .u8 0, .int .u8 0], .slice none 0 0] 8 (World.laidAll_os _ _ _)
      (World.shaped_of_ZipB (by kernel_rfl) (by kernel_rfl)) (by kernel_rfl) (by kernel_rfl) (by kernel_rfl)
      (by rw [MakeChecks.laidMetH_plain _ _ _ (by kernel_rfl)]; exact laidMet_laidAll _ (by kernel_rfl) (by kernel_rfl))) ?_
  intro W base args ds gs before hval0 hW hcnd hsz0 _ _
  have hval : ∀ (j : Nat) t v, Tryd.f8.params[j]? = some t → args[j]? = some v → Value.okWide Tryd.prog W .any base t v := hval0
  have hsz : (DataW.weightsEach Tryd.prog (Tryd.f8.params.toList ++ Rows.spacePlaysSpec.plain.varTypes Tryd.prog) (ds ++ gs)).all (· ≤ reachBytes) = true := hsz0
  have hW' := hW
  obtain ⟨p, q, hA0, hV, rfl, hfz, hnd⟩ := hW
  have hA : DataW.TrodAll enc Tryd.prog W 0 (fun _ => true) true Tryd.f8.params.toList args.toList ds p := hA0
  rw [Tryd.params8] at hA hval hsz
  obtain ⟨v0, vs0, d0, ds0, p0, q0, hargs, rfl, rfl, h0, r0⟩ := trodAll_cons hA
  obtain ⟨v1, vs1, d1, ds1, p1, q1, rfl, rfl, rfl, h1, r1⟩ := trodAll_cons r0
  obtain ⟨v2, vs2, d2, ds2, p2, q2, rfl, rfl, rfl, h2, r2⟩ := trodAll_cons r1
  obtain ⟨rfl, rfl, rfl⟩ := trodAll_nil r2
  obtain rfl : args = #[v0, v1, v2] := by cases args; simp_all
  obtain ⟨rfl, rfl⟩ := trodVars_none hV
  have lt0 : ∀ x ∈ p0, x.block < W.heap.size := by obtain ⟨m, hm⟩ := h0; exact DataW.trod_lt m _ _ _ hm
  obtain ⟨a0, w0⟩ := arg_one (q := fun a0 : UInt8 => intV .u8 ((a0.toNat : Nat) : Int)) (Opn.u8 Tryd.underlying5) Tryd.ag5 (fun _ => rfl) (hval 0 5 v0 rfl rfl) h0 (reach_at hsz (j := 0) rfl rfl)
  have lt1 : ∀ x ∈ p1, x.block < W.heap.size := by obtain ⟨m, hm⟩ := h1; exact DataW.trod_lt m _ _ _ hm
  obtain ⟨a1, w1⟩ := arg_arr (enc := fun a1 : UInt8 × UInt8 => [intV .u8 ((a1.1.toNat : Nat) : Int), intV .u8 ((a1.2.toNat : Nat) : Int)]) (Opn.arr2 (q := fun b : UInt8 => intV .u8 ((b.toNat : Nat) : Int)) Tryd.underlying58 Tryd.cz5 Tryd.cz58 (Opn.u8 Tryd.underlying5) (fun _ => rfl)) Tryd.underlying58 (hval 1 58 v1 rfl rfl) h1 (reach_at hsz (j := 1) rfl rfl)
  have lt2 : ∀ x ∈ p2, x.block < W.heap.size := by obtain ⟨m, hm⟩ := h2; exact DataW.trod_lt m _ _ _ hm
  obtain ⟨a2, w2⟩ := arg_one (q := fun a2 : _ => sliceV 7 encActS a2) (Opn.slice (enc := encActS) Tryd.underlying59 Tryd.cz66 (by kernel_rfl) (by kernel_rfl) opn66) Tryd.ag59 (fun _ => rfl) (hval 2 59 v2 rfl rfl) h2 (reach_at hsz (j := 2) rfl rfl)
  clear hA0 hval0
  have hall : All2 [intV .u8 ((a0.toNat : Nat) : Int), aggV [intV .u8 ((a1.1.toNat : Nat) : Int), intV .u8 ((a1.2.toNat : Nat) : Int)], sliceV 7 encActS a2] (fun k => k < W.heap.size) W [v0, v1, v2] := (.cat (.one w0) (.cat (.one w1) (.cat (.one w2) All2.nil)))
  refine (law_calls (spacePlays_spec) hall).mono fun e W' ⟨he, bel⟩ => ?_
  subst he
  exact ⟨_, rfl, _, _, _, [], _, [], hW', trodAll_mk1 (shut_bool Tryd.underlying4 _), (trodAll_cons_mk (Below.trod laidOut (by kernel_rfl) (of_decide_eq_true (by kernel_rfl)) h0 bel lt0) (trodAll_cons_mk (Below.trod laidOut (by kernel_rfl) (of_decide_eq_true (by kernel_rfl)) h1 bel lt1) (trodAll_cons_mk (Below.trod laidOut (by kernel_rfl) (of_decide_eq_true (by kernel_rfl)) h2 bel lt2) trodAll_mk0))), rfl, bel.frame _, fun h => by cases h⟩

theorem over : Rows.spacePlaysRow.holds Tryd.pinned (OpenSpec.ofChange Rows.spacePlaysSpec) :=
  OpenClaim.holds_of_wide 8 Tryd.f8 rfl rfl rfl rfl rfl rfl rfl ⟨rfl, rfl, rfl, rfl, rfl⟩ rfl rfl rfl rfl rfl (by kernel_rfl) Tryd.func8 (by kernel_rfl)
    (of_decide_eq_true (by kernel_rfl)) (by unfold Func.isWrapper; first | (rw [if_pos (by decide +kernel)]; kernel_rfl) | (rw [if_neg (by decide +kernel)]; exact ⟨rfl, rfl⟩))
    (fun os started H enc _ => lifted os started H enc)

end Go.Proofs.YtiicgelmdmhajaaDoor.spacePlaysLaw
namespace Go.Proofs.YtiicgelmdmhajaaDoor
/-- The statement: the card. -/
theorem spacePlays_holds : Rows.SpacePlaysCardSaid :=
  Claim7.holds_tied_plain_at .later [] [.data, .pinned] true (true, "668b5fb40a1637f2222e8dcf93a76588dae78d0a86b2a97fd0da0e075b3b5ceb") false spacePlaysLaw.over (fun _ h => by cases h) (by kernel_rfl) (fun _ h => by cases h) spacePlays_row_tie rfl ⟨rfl, rfl⟩ (by kernel_rfl) rfl
    (fun f fn hf hfn => by
      obtain rfl : f = 8 := Option.some.inj ((show Tryd.prog.funcNamed "grommet/grommetlaw08.SpacePlays" = some 8 by kernel_rfl).symm.trans hf) |>.symm
      obtain rfl : fn = Tryd.f8 := (Option.some.inj (Tryd.func8.symm.trans hfn)).symm
      exact ⟨by kernel_rfl, fun j t ht => by
        rw [Tryd.params8] at ht
        have hm : t ∈ [5, 58, 59] := by simpa using Array.mem_of_getElem? ht
        have hall : ([5, 58, 59].all fun u => !Tryd.prog.wantsStandIn u) = true := by kernel_rfl
        exact (show Tryd.prog.wantsStandIn t = false by simpa using List.all_eq_true.1 hall t hm)⟩)
    (by kernel_rfl)
#print axioms spacePlays_holds
end Go.Proofs.YtiicgelmdmhajaaDoor
