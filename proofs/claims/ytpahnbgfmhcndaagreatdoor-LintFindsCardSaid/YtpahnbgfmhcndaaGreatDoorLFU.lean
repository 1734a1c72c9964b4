/-
  What the statement's proof leans on, several texts in one (packed by a program).
-/
import Derived.Test.YtpahnbgfmhcndaaGreatDoorLFT
import Derived.Test.YtpahnbgfmhcndaaGreatDoorRows
import Derived.ProofKit
import Derived.ShutString
import Derived.LaidMore
import Derived.Lay
import Derived.SevenTiedAt
import Derived.Stop.Joined
import Derived.Test.YtpahnbgfmhcndaaGreatDoorTie
import Derived.Test.YtpahnbgfmhcndaaGreatDoorCards
set_option linter.all false
set_option maxRecDepth 1000000
set_option maxHeartbeats 4000000
section
namespace Go.Proofs.YtpahnbgfmhcndaaGreatDoor.lintFindsLaw
open Go.ChangeShapes Go.WideShapes Go.ChangeAt Go.RowKit Go.Hl
open Go.ChangeMaps (open_string shut_string)
theorem own : ownKnob Tryz.prog.godebug = none := by kernel_rfl
theorem laidOut : laidOutB Tryz.prog = true := by kernel_rfl
def laid : List (String × DataW Unit) := [("math/bits.deBruijn32tab", Rows.laid_math_bits_deBruijn32tab), ("math/bits.deBruijn64tab", Rows.laid_math_bits_deBruijn64tab), ("internal/strconv.uint64pow10", Rows.laid_internal_strconv_uint64pow10)]
theorem opn65 : Opn Tryz.prog 65 encSig :=
 Opn.via (Opn.struct Tryz.underlying65 Tryz.cz65.out (.cons (by kernel_rfl) Tryz.cz50.out (Opn.slice (enc := encU8) Tryz.underlying50 Tryz.cz5.out (by kernel_rfl) (by kernel_rfl) (show Opn Tryz.prog 5 encU8 from (Opn.u8 Tryz.underlying5))) (.cons (by kernel_rfl) Tryz.cz50.out (Opn.slice (enc := encU8) Tryz.underlying50 Tryz.cz5.out (by kernel_rfl) (by kernel_rfl) (show Opn Tryz.prog 5 encU8 from (Opn.u8 Tryz.underlying5))) .nil))) (fun p => ⟨p.1, p.2.1⟩) (fun _ => rfl)
theorem opn116 : Opn Tryz.prog 116 encImport :=
 Opn.via (Opn.struct Tryz.underlying116 Tryz.cz116.out (.cons (by kernel_rfl) Tryz.cz9.out (Opn.str Tryz.underlying9) (.cons (by kernel_rfl) Tryz.cz9.out (Opn.str Tryz.underlying9) (.cons (by kernel_rfl) Tryz.cz3.out (Opn.int (k := .i64) Tryz.underlying3) .nil)))) (fun p => ⟨p.1, p.2.1, p.2.2.1⟩) (fun _ => rfl)
theorem opn68 : Opn Tryz.prog 68 encIWm :=
 Opn.via (Opn.struct Tryz.underlying68 Tryz.cz68.out (.cons (by kernel_rfl) Tryz.cz3.out (Opn.int (k := .i64) Tryz.underlying3) (.cons (by kernel_rfl) Tryz.cz48.out (Opn.intW (k := .u64) Tryz.underlying48) (.cons (by kernel_rfl) Tryz.cz48.out (Opn.intW (k := .u64) Tryz.underlying48) (.cons (by kernel_rfl) Tryz.cz3.out (Opn.int (k := .i64) Tryz.underlying3) (.cons (by kernel_rfl) Tryz.cz66.out (Opn.slice (enc := encU64W) Tryz.underlying66 Tryz.cz48.out (by kernel_rfl) (by kernel_rfl) (show Opn Tryz.prog 48 encU64W from (Opn.intW (k := .u64) Tryz.underlying48))) .nil)))))) (fun p => mkIWm p.1 p.2.1 p.2.2.1 p.2.2.2.1 p.2.2.2.2.1) (fun p => mkIWm_enc p.1 p.2.1 p.2.2.1 p.2.2.2.1 p.2.2.2.2.1)
theorem opn71 : Opn Tryz.prog 71 encBodyW :=
 Opn.via (Opn.struct Tryz.underlying71 Tryz.cz71.out (.cons (by kernel_rfl) Tryz.cz50.out (Opn.slice (enc := encU8) Tryz.underlying50 Tryz.cz5.out (by kernel_rfl) (by kernel_rfl) (show Opn Tryz.prog 5 encU8 from (Opn.u8 Tryz.underlying5))) (.cons (by kernel_rfl) Tryz.cz69.out (Opn.slice (enc := encIWm) Tryz.underlying69 Tryz.cz68.out (by kernel_rfl) (by kernel_rfl) opn68) .nil))) (fun p => mkBodyW p.1 p.2.1) (fun p => mkBodyW_enc p.1 p.2.1)
theorem opn73 : Opn Tryz.prog 73 encFuncW :=
 Opn.via (Opn.struct Tryz.underlying73 Tryz.cz73.out (.cons (by kernel_rfl) Tryz.cz3.out (Opn.int (k := .i64) Tryz.underlying3) (.cons (by kernel_rfl) Tryz.cz71.out opn71 .nil))) (fun p => mkFuncW p.1 p.2.1) (fun _ => rfl)
theorem opn145 : Opn Tryz.prog 145 encLimits :=
 Opn.via (Opn.struct Tryz.underlying145 Tryz.cz145.out (.cons (by kernel_rfl) Tryz.cz3.out (Opn.int (k := .i64) Tryz.underlying3) (.cons (by kernel_rfl) Tryz.cz3.out (Opn.int (k := .i64) Tryz.underlying3) (.cons (by kernel_rfl) Tryz.cz4.out (Opn.bool Tryz.underlying4) .nil)))) (fun p => ⟨p.1, p.2.1, p.2.2.1⟩) (fun _ => rfl)
theorem opn88 : Opn Tryz.prog 88 encGlobal :=
 Opn.via (Opn.struct Tryz.underlying88 Tryz.cz88.out (.cons (by kernel_rfl) Tryz.cz86.out (Opn.u8 Tryz.underlying86) (.cons (by kernel_rfl) Tryz.cz4.out (Opn.bool Tryz.underlying4) (.cons (by kernel_rfl) Tryz.cz48.out (Opn.int (k := .u64) Tryz.underlying48) .nil)))) (fun p => ⟨p.1, p.2.1, p.2.2.1⟩) (fun _ => rfl)
theorem opn119 : Opn Tryz.prog 119 encExport :=
 Opn.via (Opn.struct Tryz.underlying119 Tryz.cz119.out (.cons (by kernel_rfl) Tryz.cz9.out (Opn.str Tryz.underlying9) (.cons (by kernel_rfl) Tryz.cz3.out (Opn.int (k := .i64) Tryz.underlying3) (.cons (by kernel_rfl) Tryz.cz3.out (Opn.int (k := .i64) Tryz.underlying3) .nil)))) (fun p => ⟨p.1, p.2.1, p.2.2.1⟩) (fun _ => rfl)
theorem opn121 : Opn Tryz.prog 121 encElem :=
 Opn.via (Opn.struct Tryz.underlying121 Tryz.cz121.out (.cons (by kernel_rfl) Tryz.cz48.out (Opn.int (k := .u64) Tryz.underlying48) (.cons (by kernel_rfl) Tryz.cz102.out (Opn.slice (enc := encInt) Tryz.underlying102 Tryz.cz3.out (by kernel_rfl) (by kernel_rfl) (show Opn Tryz.prog 3 encInt from (Opn.int (k := .i64) Tryz.underlying3))) .nil))) (fun p => ⟨p.1, p.2.1⟩) (fun _ => rfl)
theorem opn52 : Opn Tryz.prog 52 encData :=
 Opn.via (Opn.struct Tryz.underlying52 Tryz.cz52.out (.cons (by kernel_rfl) Tryz.cz3.out (Opn.int (k := .i64) Tryz.underlying3) (.cons (by kernel_rfl) Tryz.cz48.out (Opn.int (k := .u64) Tryz.underlying48) (.cons (by kernel_rfl) Tryz.cz50.out (Opn.slice (enc := encU8) Tryz.underlying50 Tryz.cz5.out (by kernel_rfl) (by kernel_rfl) (show Opn Tryz.prog 5 encU8 from (Opn.u8 Tryz.underlying5))) .nil)))) (fun p => ⟨p.1, p.2.1, p.2.2.1⟩) (fun _ => rfl)
theorem opn31 : Opn Tryz.prog 31 encModW :=
 Opn.via (Opn.struct Tryz.underlying31 Tryz.cz31.out (.cons (by kernel_rfl) Tryz.cz22.out (Opn.slice (enc := encSig) Tryz.underlying22 Tryz.cz65.out (by kernel_rfl) (by kernel_rfl) opn65) (.cons (by kernel_rfl) Tryz.cz23.out (Opn.slice (enc := encImport) Tryz.underlying23 Tryz.cz116.out (by kernel_rfl) (by kernel_rfl) opn116) (.cons (by kernel_rfl) Tryz.cz24.out (Opn.slice (enc := encFuncW) Tryz.underlying24 Tryz.cz73.out (by kernel_rfl) (by kernel_rfl) opn73) (.cons (by kernel_rfl) Tryz.cz3.out (Opn.int (k := .i64) Tryz.underlying3) (.cons (by kernel_rfl) Tryz.cz25.out (Opn.slice (enc := encLimits) Tryz.underlying25 Tryz.cz145.out (by kernel_rfl) (by kernel_rfl) opn145) (.cons (by kernel_rfl) Tryz.cz26.out (Opn.slice (enc := encGlobal) Tryz.underlying26 Tryz.cz88.out (by kernel_rfl) (by kernel_rfl) opn88) (.cons (by kernel_rfl) Tryz.cz27.out (Opn.slice (enc := encExport) Tryz.underlying27 Tryz.cz119.out (by kernel_rfl) (by kernel_rfl) opn119) (.cons (by kernel_rfl) Tryz.cz3.out (Opn.int (k := .i64) Tryz.underlying3) (.cons (by kernel_rfl) Tryz.cz28.out (Opn.slice (enc := encElem) Tryz.underlying28 Tryz.cz121.out (by kernel_rfl) (by kernel_rfl) opn121) (.cons (by kernel_rfl) Tryz.cz29.out (Opn.slice (enc := encData) Tryz.underlying29 Tryz.cz52.out (by kernel_rfl) (by kernel_rfl) opn52) .nil))))))))))) (fun p => mkModW p.1 p.2.1 p.2.2.1 p.2.2.2.1 p.2.2.2.2.1 p.2.2.2.2.2.1 p.2.2.2.2.2.2.1 p.2.2.2.2.2.2.2.1 p.2.2.2.2.2.2.2.2.1 p.2.2.2.2.2.2.2.2.2.1) (fun p => mkModW_enc p.1 p.2.1 p.2.2.1 p.2.2.2.1 p.2.2.2.2.1 p.2.2.2.2.2.1 p.2.2.2.2.2.2.1 p.2.2.2.2.2.2.2.1 p.2.2.2.2.2.2.2.2.1 p.2.2.2.2.2.2.2.2.2.1)
theorem lifted (os : Os) (started : os.Started) (H : Type) (enc : TypeId × Value → H) :
    ReturnsInHanded {} Tryz.checked os 3 .any (fun w args => (Rows.lintFindsSpec.pre enc Tryz.prog Tryz.f3 Rows.lintFindsRow.domain false w args ∧ laidMetH Tryz.prog laid w) ∧ sizedMet enc Tryz.prog Tryz.f3 (OpenSpec.ofChange Rows.lintFindsSpec) false w args) (Rows.lintFindsSpec.post enc Tryz.prog Tryz.f3 false true false false) := by
  refine returnsInHanded_of_change_and (C := Tryz.checked) (X := fun w _ => laidMetH Tryz.prog laid w) (fun _ _ _ hh h => h.of_heap hh) own started (by kernel_rfl) Tryz.func3
    (ChangeSpec.witness_shaped (enc := enc) (C := Tryz.checked) (os := os) (X := fun w _ => laidMetH Tryz.prog laid w) false (World.laidAll Tryz.prog os laid) #[.agg #[.slice none 0 0, .slice none 0 0, .slice none 0 0, .int .i64 0, .slice none 0 0, .slice none 0 0, .slice none 0 0, .int .i64 0, .slice none 0 0, .slice none 0 0]] 8 (World.laidAll_os _ _ _)
      (World.shaped_of_ZipB (by kernel_rfl) (by kernel_rfl)) (by kernel_rfl) (by kernel_rfl) (by kernel_rfl)
      (by rw [MakeChecks.laidMetH_plain _ _ _ (by kernel_rfl)]; exact laidMet_laidAll _ (by kernel_rfl) (by kernel_rfl))) ?_
  intro W base args ds gs before hval0 hW hcnd hsz0 hX _
  have hval : ∀ (j : Nat) t v, Tryz.f3.params[j]? = some t → args[j]? = some v → Value.okWide Tryz.prog W .any base t v := hval0
  have hsz : (DataW.weightsEach Tryz.prog (Tryz.f3.params.toList ++ Rows.lintFindsSpec.plain.varTypes Tryz.prog) (ds ++ gs)).all (· ≤ reachBytes) = true := hsz0
  have hW' := hW
  obtain ⟨p, q, hA0, hV, rfl, hfz, hnd⟩ := hW
  have hA : DataW.TrodAll enc Tryz.prog W 0 (fun _ => true) true Tryz.f3.params.toList args.toList ds p := hA0
  rw [Tryz.params3] at hA hval hsz
  obtain ⟨v0, vs0, d0, ds0, p0, q0, hargs, rfl, rfl, h0, r0⟩ := trodAll_cons hA
  obtain ⟨rfl, rfl, rfl⟩ := trodAll_nil r0
  obtain rfl : args = #[v0] := by cases args; simp_all
  obtain ⟨rfl, rfl⟩ := trodVars_none hV
  have lt0 : ∀ x ∈ p0, x.block < W.heap.size := by obtain ⟨m, hm⟩ := h0; exact DataW.trod_lt m _ _ _ hm
  obtain ⟨a0, w0⟩ := arg_agg opn31 Tryz.underlying31 (hval 0 31 v0 rfl rfl) h0 (reach_at hsz (j := 0) rfl rfl)
  clear hA0 hval0
  have hm0 : laidMet Tryz.prog [("internal/strconv.uint64pow10", Lib.tabData .u64 Lib.pow10Tab)] W := by
    have h := hX.filter (fun x => x.1 == "internal/strconv.uint64pow10")
    rw [show laid.filter (fun x => x.1 == "internal/strconv.uint64pow10") = [("internal/strconv.uint64pow10", Lib.tabData .u64 Lib.pow10Tab)] by kernel_rfl, MakeChecks.laidMetH_plain _ _ _ (by kernel_rfl)] at h
    exact h
  have htab : Lib.TabIs Tryz.prog W "internal/strconv.uint64pow10" .u64 Lib.pow10Tab := Lib.tabIs_of_head (g := 0) (n := 20) (by kernel_rfl) (by kernel_rfl) (show Tryz.prog.underlying 247 = some _ from Tryz.underlying247) (show Tryz.prog.underlying 48 = some _ from Tryz.underlying48) (by kernel_rfl) (by kernel_rfl) hm0
  have hvars := pow_laid (P := Tryz.prog) (W := W) (g := 0) (by kernel_rfl) htab
  have hall : All2 [aggV (encModW a0)] (fun k => k < W.heap.size) W [v0] := (.cat (.one w0) All2.nil)
  refine (law_callsD (LintFinds0_spec (x := a0.1) a0.2) hvars hall).mono fun e W' ⟨he, bel⟩ => ?_
  subst he
  exact ⟨_, rfl, _, _, _, [], _, [], hW', trodAll_mk1 (shut_bool Tryz.underlying4 _), (trodAll_cons_mk (Below.trod laidOut (by kernel_rfl) (of_decide_eq_true (by kernel_rfl)) h0 bel lt0) trodAll_mk0), rfl, bel.frame _, fun h => by cases h⟩
end Go.Proofs.YtpahnbgfmhcndaaGreatDoor.lintFindsLaw
end
