/-
  What the statement's proof leans on, several texts in one (packed by a program).
-/
import Derived.Test.YtmmdlhjcmlekfaaGreatDoorPNP
import Derived.Test.YtmmdlhjcmlekfaaGreatDoorRows
import Derived.ProofKit
import Derived.ShutString
import Derived.LaidMore
import Derived.Lay
import Derived.SevenTiedAt
import Derived.Stop.Joined
import Derived.Test.YtmmdlhjcmlekfaaGreatDoorTie
import Derived.Test.YtmmdlhjcmlekfaaGreatDoorCards
set_option linter.all false
set_option maxRecDepth 1000000
set_option maxHeartbeats 4000000
section
namespace Go.Proofs.YtmmdlhjcmlekfaaGreatDoor.plainNeedsLaw
open Go.ChangeShapes Go.WideShapes Go.ChangeAt Go.RowKit Go.Hl
open Go.ChangeMaps (open_string shut_string)
theorem own : ownKnob Tryz.prog.godebug = none := by kernel_rfl
theorem laidOut : laidOutB Tryz.prog = true := by kernel_rfl
def laid : List (String × DataW Unit) := [("math/bits.deBruijn64tab", Rows.laid_math_bits_deBruijn64tab)]
theorem opn66 : Opn Tryz.prog 66 encSig :=
  Opn.via (Opn.struct Tryz.underlying66 Tryz.cz66 (.cons (by kernel_rfl) Tryz.cz64 (Opn.slice (enc := encU8) Tryz.underlying64 Tryz.cz5 (by kernel_rfl) (by kernel_rfl) (show Opn Tryz.prog 5 encU8 from (Opn.u8 Tryz.underlying5))) (.cons (by kernel_rfl) Tryz.cz64 (Opn.slice (enc := encU8) Tryz.underlying64 Tryz.cz5 (by kernel_rfl) (by kernel_rfl) (show Opn Tryz.prog 5 encU8 from (Opn.u8 Tryz.underlying5))) .nil))) (fun p => ⟨p.1, p.2.1⟩) (fun _ => rfl)
theorem opn102 : Opn Tryz.prog 102 encImport :=
  Opn.via (Opn.struct Tryz.underlying102 Tryz.cz102 (.cons (by kernel_rfl) Tryz.cz9 (Opn.str Tryz.underlying9) (.cons (by kernel_rfl) Tryz.cz9 (Opn.str Tryz.underlying9) (.cons (by kernel_rfl) Tryz.cz3 (Opn.int (k := .i64) Tryz.underlying3) .nil)))) (fun p => ⟨p.1, p.2.1, p.2.2.1⟩) (fun _ => rfl)
theorem opn150 : Opn Tryz.prog 150 encIWm :=
  Opn.via (Opn.struct Tryz.underlying150 Tryz.cz150 (.cons (by kernel_rfl) Tryz.cz3 (Opn.int (k := .i64) Tryz.underlying3) (.cons (by kernel_rfl) Tryz.cz58 (Opn.intW (k := .u64) Tryz.underlying58) (.cons (by kernel_rfl) Tryz.cz58 (Opn.intW (k := .u64) Tryz.underlying58) (.cons (by kernel_rfl) Tryz.cz3 (Opn.int (k := .i64) Tryz.underlying3) (.cons (by kernel_rfl) Tryz.cz59 (Opn.slice (enc := encU64W) Tryz.underlying59 Tryz.cz58 (by kernel_rfl) (by kernel_rfl) (show Opn Tryz.prog 58 encU64W from (Opn.intW (k := .u64) Tryz.underlying58))) .nil)))))) (fun p => mkIWm p.1 p.2.1 p.2.2.1 p.2.2.2.1 p.2.2.2.2.1) (fun p => mkIWm_enc p.1 p.2.1 p.2.2.1 p.2.2.2.1 p.2.2.2.2.1)
theorem opn71 : Opn Tryz.prog 71 encBodyW :=
  Opn.via (Opn.struct Tryz.underlying71 Tryz.cz71 (.cons (by kernel_rfl) Tryz.cz64 (Opn.slice (enc := encU8) Tryz.underlying64 Tryz.cz5 (by kernel_rfl) (by kernel_rfl) (show Opn Tryz.prog 5 encU8 from (Opn.u8 Tryz.underlying5))) (.cons (by kernel_rfl) Tryz.cz69 (Opn.slice (enc := encIWm) Tryz.underlying69 Tryz.cz150 (by kernel_rfl) (by kernel_rfl) opn150) .nil))) (fun p => mkBodyW p.1 p.2.1) (fun p => mkBodyW_enc p.1 p.2.1)
theorem opn73 : Opn Tryz.prog 73 encFuncW :=
  Opn.via (Opn.struct Tryz.underlying73 Tryz.cz73 (.cons (by kernel_rfl) Tryz.cz3 (Opn.int (k := .i64) Tryz.underlying3) (.cons (by kernel_rfl) Tryz.cz71 opn71 .nil))) (fun p => mkFuncW p.1 p.2.1) (fun _ => rfl)
theorem opn105 : Opn Tryz.prog 105 encLimits :=
  Opn.via (Opn.struct Tryz.underlying105 Tryz.cz105 (.cons (by kernel_rfl) Tryz.cz3 (Opn.int (k := .i64) Tryz.underlying3) (.cons (by kernel_rfl) Tryz.cz3 (Opn.int (k := .i64) Tryz.underlying3) (.cons (by kernel_rfl) Tryz.cz4 (Opn.bool Tryz.underlying4) .nil)))) (fun p => ⟨p.1, p.2.1, p.2.2.1⟩) (fun _ => rfl)
theorem opn109 : Opn Tryz.prog 109 encGlobal :=
  Opn.via (Opn.struct Tryz.underlying109 Tryz.cz109 (.cons (by kernel_rfl) Tryz.cz107 (Opn.u8 Tryz.underlying107) (.cons (by kernel_rfl) Tryz.cz4 (Opn.bool Tryz.underlying4) (.cons (by kernel_rfl) Tryz.cz58 (Opn.int (k := .u64) Tryz.underlying58) .nil)))) (fun p => ⟨p.1, p.2.1, p.2.2.1⟩) (fun _ => rfl)
theorem opn112 : Opn Tryz.prog 112 encExport :=
  Opn.via (Opn.struct Tryz.underlying112 Tryz.cz112 (.cons (by kernel_rfl) Tryz.cz9 (Opn.str Tryz.underlying9) (.cons (by kernel_rfl) Tryz.cz3 (Opn.int (k := .i64) Tryz.underlying3) (.cons (by kernel_rfl) Tryz.cz3 (Opn.int (k := .i64) Tryz.underlying3) .nil)))) (fun p => ⟨p.1, p.2.1, p.2.2.1⟩) (fun _ => rfl)
theorem opn90 : Opn Tryz.prog 90 encElem :=
  Opn.via (Opn.struct Tryz.underlying90 Tryz.cz90 (.cons (by kernel_rfl) Tryz.cz58 (Opn.int (k := .u64) Tryz.underlying58) (.cons (by kernel_rfl) Tryz.cz53 (Opn.slice (enc := encInt) Tryz.underlying53 Tryz.cz3 (by kernel_rfl) (by kernel_rfl) (show Opn Tryz.prog 3 encInt from (Opn.int (k := .i64) Tryz.underlying3))) .nil))) (fun p => ⟨p.1, p.2.1⟩) (fun _ => rfl)
theorem opn95 : Opn Tryz.prog 95 encData :=
  Opn.via (Opn.struct Tryz.underlying95 Tryz.cz95 (.cons (by kernel_rfl) Tryz.cz3 (Opn.int (k := .i64) Tryz.underlying3) (.cons (by kernel_rfl) Tryz.cz58 (Opn.int (k := .u64) Tryz.underlying58) (.cons (by kernel_rfl) Tryz.cz64 (Opn.slice (enc := encU8) Tryz.underlying64 Tryz.cz5 (by kernel_rfl) (by kernel_rfl) (show Opn Tryz.prog 5 encU8 from (Opn.u8 Tryz.underlying5))) .nil)))) (fun p => ⟨p.1, p.2.1, p.2.2.1⟩) (fun _ => rfl)
theorem opn31 : Opn Tryz.prog 31 encModW :=
  Opn.via (Opn.struct Tryz.underlying31 Tryz.cz31 (.cons (by kernel_rfl) Tryz.cz22 (Opn.slice (enc := encSig) Tryz.underlying22 Tryz.cz66 (by kernel_rfl) (by kernel_rfl) opn66) (.cons (by kernel_rfl) Tryz.cz23 (Opn.slice (enc := encImport) Tryz.underlying23 Tryz.cz102 (by kernel_rfl) (by kernel_rfl) opn102) (.cons (by kernel_rfl) Tryz.cz24 (Opn.slice (enc := encFuncW) Tryz.underlying24 Tryz.cz73 (by kernel_rfl) (by kernel_rfl) opn73) (.cons (by kernel_rfl) Tryz.cz3 (Opn.int (k := .i64) Tryz.underlying3) (.cons (by kernel_rfl) Tryz.cz25 (Opn.slice (enc := encLimits) Tryz.underlying25 Tryz.cz105 (by kernel_rfl) (by kernel_rfl) opn105) (.cons (by kernel_rfl) Tryz.cz26 (Opn.slice (enc := encGlobal) Tryz.underlying26 Tryz.cz109 (by kernel_rfl) (by kernel_rfl) opn109) (.cons (by kernel_rfl) Tryz.cz27 (Opn.slice (enc := encExport) Tryz.underlying27 Tryz.cz112 (by kernel_rfl) (by kernel_rfl) opn112) (.cons (by kernel_rfl) Tryz.cz3 (Opn.int (k := .i64) Tryz.underlying3) (.cons (by kernel_rfl) Tryz.cz28 (Opn.slice (enc := encElem) Tryz.underlying28 Tryz.cz90 (by kernel_rfl) (by kernel_rfl) opn90) (.cons (by kernel_rfl) Tryz.cz29 (Opn.slice (enc := encData) Tryz.underlying29 Tryz.cz95 (by kernel_rfl) (by kernel_rfl) opn95) .nil))))))))))) (fun p => mkModW p.1 p.2.1 p.2.2.1 p.2.2.2.1 p.2.2.2.2.1 p.2.2.2.2.2.1 p.2.2.2.2.2.2.1 p.2.2.2.2.2.2.2.1 p.2.2.2.2.2.2.2.2.1 p.2.2.2.2.2.2.2.2.2.1) (fun p => mkModW_enc p.1 p.2.1 p.2.2.1 p.2.2.2.1 p.2.2.2.2.1 p.2.2.2.2.2.1 p.2.2.2.2.2.2.1 p.2.2.2.2.2.2.2.1 p.2.2.2.2.2.2.2.2.1 p.2.2.2.2.2.2.2.2.2.1)
theorem lifted (os : Os) (started : os.Started) (H : Type) (enc : TypeId × Value → H) :
    ReturnsInHanded {} Tryz.checked os 4 .any (fun w args => (Rows.plainNeedsSpec.pre enc Tryz.prog Tryz.f4 Rows.plainNeedsRow.domain false w args ∧ laidMetH Tryz.prog laid w) ∧ sizedMet enc Tryz.prog Tryz.f4 (OpenSpec.ofChange Rows.plainNeedsSpec) false w args) (Rows.plainNeedsSpec.post enc Tryz.prog Tryz.f4 false true false false) := by
  refine returnsInHanded_of_change_and (C := Tryz.checked) (X := fun w _ => laidMetH Tryz.prog laid w) (fun _ _ _ hh h => h.of_heap hh) own started (by kernel_rfl) Tryz.func4
    (ChangeSpec.witness_shaped (enc := enc) (C := Tryz.checked) (os := os) (X := fun w _ => laidMetH Tryz.prog laid w) false (World.laidAll Tryz.prog os laid) #[.agg #[.slice none 0 0, .slice none 0 0, .slice none 0 0, .int .i64 0, .slice none 0 0, .slice none 0 0, .slice none 0 0, .int .i64 0, .slice none 0 0, .slice none 0 0], .int .i64 0] 8 (World.laidAll_os _ _ _)
      (World.shaped_of_ZipB (by kernel_rfl) (by kernel_rfl)) (by kernel_rfl) (by kernel_rfl) (by kernel_rfl)
      (by rw [MakeChecks.laidMetH_plain _ _ _ (by kernel_rfl)]; exact laidMet_laidAll _ (by kernel_rfl) (by kernel_rfl))) ?_
  intro W base args ds gs before hval0 hW hcnd hsz0 hX _
  have hval : ∀ (j : Nat) t v, Tryz.f4.params[j]? = some t → args[j]? = some v → Value.okWide Tryz.prog W .any base t v := hval0
  have hsz : (DataW.weightsEach Tryz.prog (Tryz.f4.params.toList ++ Rows.plainNeedsSpec.plain.varTypes Tryz.prog) (ds ++ gs)).all (· ≤ reachBytes) = true := hsz0
  have hW' := hW
  obtain ⟨p, q, hA0, hV, rfl, hfz, hnd⟩ := hW
  have hA : DataW.TrodAll enc Tryz.prog W 0 (fun _ => true) true Tryz.f4.params.toList args.toList ds p := hA0
  rw [Tryz.params4] at hA hval hsz
  obtain ⟨v0, vs0, d0, ds0, p0, q0, hargs, rfl, rfl, h0, r0⟩ := trodAll_cons hA
  obtain ⟨v1, vs1, d1, ds1, p1, q1, rfl, rfl, rfl, h1, r1⟩ := trodAll_cons r0
  obtain ⟨rfl, rfl, rfl⟩ := trodAll_nil r1
  obtain rfl : args = #[v0, v1] := by cases args; simp_all
  obtain ⟨rfl, rfl⟩ := trodVars_none hV
  have lt0 : ∀ x ∈ p0, x.block < W.heap.size := by obtain ⟨m, hm⟩ := h0; exact DataW.trod_lt m _ _ _ hm
  obtain ⟨a0, w0⟩ := arg_agg opn31 Tryz.underlying31 (hval 0 31 v0 rfl rfl) h0 (reach_at hsz (j := 0) rfl rfl)
  have lt1 : ∀ x ∈ p1, x.block < W.heap.size := by obtain ⟨m, hm⟩ := h1; exact DataW.trod_lt m _ _ _ hm
  obtain ⟨a1, w1⟩ := arg_one (q := fun a1 : Int => intV .i64 a1) (Opn.int (k := .i64) Tryz.underlying3) Tryz.ag3 (fun _ => rfl) (hval 1 3 v1 rfl rfl) h1 (reach_at hsz (j := 1) rfl rfl)
  clear hA0 hval0
  have hm0 : laidMet Tryz.prog [("math/bits.deBruijn64tab", Lib.tabData .u8 (Lib.deBruijn64tab.map Int.ofNat))] W := by
    have h := hX.filter (fun x => x.1 == "math/bits.deBruijn64tab")
    rw [show laid.filter (fun x => x.1 == "math/bits.deBruijn64tab") = [("math/bits.deBruijn64tab", Lib.tabData .u8 (Lib.deBruijn64tab.map Int.ofNat))] by kernel_rfl, MakeChecks.laidMetH_plain _ _ _ (by kernel_rfl)] at h
    exact h
  have htab : Lib.TabIs Tryz.prog W "math/bits.deBruijn64tab" .u8 (Lib.deBruijn64tab.map Int.ofNat) := Lib.tabIs_of_head (g := 0) (n := 64) (by kernel_rfl) (by kernel_rfl) Tryz.underlying304 Tryz.underlying5 (by kernel_rfl) (by kernel_rfl) hm0
  have hvars : (tabH 0 .u8 Lib.deBruijn64tab).p (fun _ => False) (fun k => k < W.heap.size) W := ⟨World.block_lt_of_cell? _ _ (htab.cell (by kernel_rfl) 0 (by decide)), fun j hj => by rw [← map_getD]; exact htab.cell (by kernel_rfl) j (by simpa using hj)⟩
  have hall : All2 [aggV (encModW a0), intV .i64 a1] (fun k => k < W.heap.size) W [v0, v1] := (.cat (.one w0) (.cat (.one w1) All2.nil))
  refine (law_callsD (PlainNeeds0_spec (x := a0.1) (n := a1) a0.2) hvars hall).mono fun e W' ⟨he, bel⟩ => ?_
  subst he
  exact ⟨_, rfl, _, _, _, [], _, [], hW', trodAll_mk1 (shut_bool Tryz.underlying4 _), (trodAll_cons_mk (Below.trod laidOut (by kernel_rfl) (of_decide_eq_true (by kernel_rfl)) h0 bel lt0) (trodAll_cons_mk (Below.trod laidOut (by kernel_rfl) (of_decide_eq_true (by kernel_rfl)) h1 bel lt1) trodAll_mk0)), rfl, bel.frame _, fun h => by cases h⟩
end Go.Proofs.YtmmdlhjcmlekfaaGreatDoor.plainNeedsLaw
end
