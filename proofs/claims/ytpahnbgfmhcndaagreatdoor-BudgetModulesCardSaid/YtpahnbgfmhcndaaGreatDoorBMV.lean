/-
  What the statement's proof leans on, several texts in one (packed by a program).
-/
import Derived.Test.YtpahnbgfmhcndaaGreatDoorBMU
import Derived.Test.YtpahnbgfmhcndaaGreatDoorRows
import Derived.ProofKit
import Derived.ShutString
import Derived.LaidMore
import Derived.Lay
import Derived.SevenTiedAt
import Derived.Stop.Joined
import Derived.Test.YtpahnbgfmhcndaaGreatDoorTie
import Derived.Test.YtpahnbgfmhcndaaGreatDoorCards
set_option linter.all false
set_option maxRecDepth 1000000
set_option maxHeartbeats 4000000
section
namespace Go.Proofs.YtpahnbgfmhcndaaGreatDoor.budgetModulesLaw
open Go.ChangeShapes Go.WideShapes Go.ChangeAt Go.RowKit Go.Hl
open Go.ChangeMaps (open_string shut_string)
theorem own : ownKnob Tryz.prog.godebug = none := by kernel_rfl
theorem laidOut : laidOutB Tryz.prog = true := by kernel_rfl
def laid : List (String × DataW Unit) := [("math/bits.deBruijn32tab", Rows.laid_math_bits_deBruijn32tab), ("math/bits.deBruijn64tab", Rows.laid_math_bits_deBruijn64tab), ("internal/strconv.uint64pow10", Rows.laid_internal_strconv_uint64pow10), ("unicode/utf8.acceptRanges", Rows.laid_unicode_utf8_acceptRanges), ("strconv.ErrRange", Rows.laid_strconv_ErrRange), ("strconv.ErrSyntax", Rows.laid_strconv_ErrSyntax), ("unicode/utf8.first", Rows.laid_unicode_utf8_first)]
theorem opn65 : Opn Tryz.prog 65 encSig :=
 Opn.via (Opn.struct Tryz.underlying65 Tryz.cz65.out (.cons (by kernel_rfl) Tryz.cz50.out (Opn.slice (enc := encU8) Tryz.underlying50 Tryz.cz5.out (by kernel_rfl) (by kernel_rfl) (show Opn Tryz.prog 5 encU8 from (Opn.u8 Tryz.underlying5))) (.cons (by kernel_rfl) Tryz.cz50.out (Opn.slice (enc := encU8) Tryz.underlying50 Tryz.cz5.out (by kernel_rfl) (by kernel_rfl) (show Opn Tryz.prog 5 encU8 from (Opn.u8 Tryz.underlying5))) .nil))) (fun p => ⟨p.1, p.2.1⟩) (fun _ => rfl)
theorem opn116 : Opn Tryz.prog 116 encImport :=
 Opn.via (Opn.struct Tryz.underlying116 Tryz.cz116.out (.cons (by kernel_rfl) Tryz.cz9.out (Opn.str Tryz.underlying9) (.cons (by kernel_rfl) Tryz.cz9.out (Opn.str Tryz.underlying9) (.cons (by kernel_rfl) Tryz.cz3.out (Opn.int (k := .i64) Tryz.underlying3) .nil)))) (fun p => ⟨p.1, p.2.1, p.2.2.1⟩) (fun _ => rfl)
theorem opn68 : Opn Tryz.prog 68 encIWm :=
 Opn.via (Opn.struct Tryz.underlying68 Tryz.cz68.out (.cons (by kernel_rfl) Tryz.cz3.out (Opn.int (k := .i64) Tryz.underlying3) (.cons (by kernel_rfl) Tryz.cz48.out (Opn.intW (k := .u64) Tryz.underlying48) (.cons (by kernel_rfl) Tryz.cz48.out (Opn.intW (k := .u64) Tryz.underlying48) (.cons (by kernel_rfl) Tryz.cz3.out (Opn.int (k := .i64) Tryz.underlying3) (.cons (by kernel_rfl) Tryz.cz66.out (Opn.slice (enc := encU64W) Tryz.underlying66 Tryz.cz48.out (by kernel_rfl) (by kernel_rfl) (show Opn Tryz.prog 48 encU64W from (Opn.intW (k := .u64) Tryz.underlying48))) .nil)))))) (fun p => mkIWm p.1 p.2.1 p.2.2.1 p.2.2.2.1 p.2.2.2.2.1) (fun p => mkIWm_enc p.1 p.2.1 p.2.2.1 p.2.2.2.1 p.2.2.2.2.1)
theorem opn71 : Opn Tryz.prog 71 encBodyW :=
 Opn.via (Opn.struct Tryz.underlying71 Tryz.cz71.out (.cons (by kernel_rfl) Tryz.cz50.out (Opn.slice (enc := encU8) Tryz.underlying50 Tryz.cz5.out (by kernel_rfl) (by kernel_rfl) (show Opn Tryz.prog 5 encU8 from (Opn.u8 Tryz.underlying5))) (.cons (by kernel_rfl) Tryz.cz69.out (Opn.slice (enc := encIWm) Tryz.underlying69 Tryz.cz68.out (by kernel_rfl) (by kernel_rfl) opn68) .nil))) (fun p => mkBodyW p.1 p.2.1) (fun p => mkBodyW_enc p.1 p.2.1)
theorem opn73 : Opn Tryz.prog 73 encFuncW :=
 Opn.via (Opn.struct Tryz.underlying73 Tryz.cz73.out (.cons (by kernel_rfl) Tryz.cz3.out (Opn.int (k := .i64) Tryz.underlying3) (.cons (by kernel_rfl) Tryz.cz71.out opn71 .nil))) (fun p => mkFuncW p.1 p.2.1) (fun _ => rfl)
theorem opn145 : Opn Tryz.prog 145 encLimits :=
 Opn.via (Opn.struct Tryz.underlying145 Tryz.cz145.out (.cons (by kernel_rfl) Tryz.cz3.out (Opn.int (k := .i64) Tryz.underlying3) (.cons (by kernel_rfl) Tryz.cz3.out (Opn.int (k := .i64) Tryz.underlying3) (.cons (by kernel_rfl) Tryz.cz4.out (Opn.bool Tryz.underlying4) .nil)))) (fun p => ⟨p.1, p.2.1, p.2.2.1⟩) (fun _ => rfl)
theorem opn88 : Opn Tryz.prog 88 encGlobal :=
 Opn.via (Opn.struct Tryz.underlying88 Tryz.cz88.out (.cons (by kernel_rfl) Tryz.cz86.out (Opn.u8 Tryz.underlying86) (.cons (by kernel_rfl) Tryz.cz4.out (Opn.bool Tryz.underlying4) (.cons (by kernel_rfl) Tryz.cz48.out (Opn.int (k := .u64) Tryz.underlying48) .nil)))) (fun p => ⟨p.1, p.2.1, p.2.2.1⟩) (fun _ => rfl)
theorem opn119 : Opn Tryz.prog 119 encExport :=
 Opn.via (Opn.struct Tryz.underlying119 Tryz.cz119.out (.cons (by kernel_rfl) Tryz.cz9.out (Opn.str Tryz.underlying9) (.cons (by kernel_rfl) Tryz.cz3.out (Opn.int (k := .i64) Tryz.underlying3) (.cons (by kernel_rfl) Tryz.cz3.out (Opn.int (k := .i64) Tryz.underlying3) .nil)))) (fun p => ⟨p.1, p.2.1, p.2.2.1⟩) (fun _ => rfl)
theorem opn121 : Opn Tryz.prog 121 encElem :=
 Opn.via (Opn.struct Tryz.underlying121 Tryz.cz121.out (.cons (by kernel_rfl) Tryz.cz48.out (Opn.int (k := .u64) Tryz.underlying48) (.cons (by kernel_rfl) Tryz.cz102.out (Opn.slice (enc := encInt) Tryz.underlying102 Tryz.cz3.out (by kernel_rfl) (by kernel_rfl) (show Opn Tryz.prog 3 encInt from (Opn.int (k := .i64) Tryz.underlying3))) .nil))) (fun p => ⟨p.1, p.2.1⟩) (fun _ => rfl)
theorem opn52 : Opn Tryz.prog 52 encData :=
 Opn.via (Opn.struct Tryz.underlying52 Tryz.cz52.out (.cons (by kernel_rfl) Tryz.cz3.out (Opn.int (k := .i64) Tryz.underlying3) (.cons (by kernel_rfl) Tryz.cz48.out (Opn.int (k := .u64) Tryz.underlying48) (.cons (by kernel_rfl) Tryz.cz50.out (Opn.slice (enc := encU8) Tryz.underlying50 Tryz.cz5.out (by kernel_rfl) (by kernel_rfl) (show Opn Tryz.prog 5 encU8 from (Opn.u8 Tryz.underlying5))) .nil)))) (fun p => ⟨p.1, p.2.1, p.2.2.1⟩) (fun _ => rfl)
theorem opn31 : Opn Tryz.prog 31 encModW :=
 Opn.via (Opn.struct Tryz.underlying31 Tryz.cz31.out (.cons (by kernel_rfl) Tryz.cz22.out (Opn.slice (enc := encSig) Tryz.underlying22 Tryz.cz65.out (by kernel_rfl) (by kernel_rfl) opn65) (.cons (by kernel_rfl) Tryz.cz23.out (Opn.slice (enc := encImport) Tryz.underlying23 Tryz.cz116.out (by kernel_rfl) (by kernel_rfl) opn116) (.cons (by kernel_rfl) Tryz.cz24.out (Opn.slice (enc := encFuncW) Tryz.underlying24 Tryz.cz73.out (by kernel_rfl) (by kernel_rfl) opn73) (.cons (by kernel_rfl) Tryz.cz3.out (Opn.int (k := .i64) Tryz.underlying3) (.cons (by kernel_rfl) Tryz.cz25.out (Opn.slice (enc := encLimits) Tryz.underlying25 Tryz.cz145.out (by kernel_rfl) (by kernel_rfl) opn145) (.cons (by kernel_rfl) Tryz.cz26.out (Opn.slice (enc := encGlobal) Tryz.underlying26 Tryz.cz88.out (by kernel_rfl) (by kernel_rfl) opn88) (.cons (by kernel_rfl) Tryz.cz27.out (Opn.slice (enc := encExport) Tryz.underlying27 Tryz.cz119.out (by kernel_rfl) (by kernel_rfl) opn119) (.cons (by kernel_rfl) Tryz.cz3.out (Opn.int (k := .i64) Tryz.underlying3) (.cons (by kernel_rfl) Tryz.cz28.out (Opn.slice (enc := encElem) Tryz.underlying28 Tryz.cz121.out (by kernel_rfl) (by kernel_rfl) opn121) (.cons (by kernel_rfl) Tryz.cz29.out (Opn.slice (enc := encData) Tryz.underlying29 Tryz.cz52.out (by kernel_rfl) (by kernel_rfl) opn52) .nil))))))))))) (fun p => mkModW p.1 p.2.1 p.2.2.1 p.2.2.2.1 p.2.2.2.2.1 p.2.2.2.2.2.1 p.2.2.2.2.2.2.1 p.2.2.2.2.2.2.2.1 p.2.2.2.2.2.2.2.2.1 p.2.2.2.2.2.2.2.2.2.1) (fun p => mkModW_enc p.1 p.2.1 p.2.2.1 p.2.2.2.1 p.2.2.2.2.1 p.2.2.2.2.2.1 p.2.2.2.2.2.2.1 p.2.2.2.2.2.2.2.1 p.2.2.2.2.2.2.2.2.1 p.2.2.2.2.2.2.2.2.2.1)
theorem lifted (os : Os) (started : os.Started) (H : Type) (enc : TypeId × Value → H) :
    ReturnsInHanded {} Tryz.checked os 4 .any (fun w args => (Rows.budgetModulesSpec.pre enc Tryz.prog Tryz.f4 Rows.budgetModulesRow.domain false w args ∧ laidMetH Tryz.prog laid w) ∧ sizedMet enc Tryz.prog Tryz.f4 (OpenSpec.ofChange Rows.budgetModulesSpec) false w args) (Rows.budgetModulesSpec.post enc Tryz.prog Tryz.f4 false true false false) := by
  refine returnsInHanded_of_change_and (C := Tryz.checked) (X := fun w _ => laidMetH Tryz.prog laid w) (fun _ _ _ hh h => h.of_heap hh) own started (by kernel_rfl) Tryz.func4
    (ChangeSpec.witness_shaped (enc := enc) (C := Tryz.checked) (os := os) (X := fun w _ => laidMetH Tryz.prog laid w) false (World.laidAll Tryz.prog os laid) #[.agg #[.slice none 0 0, .slice none 0 0, .slice none 0 0, .int .i64 0, .slice none 0 0, .slice none 0 0, .slice none 0 0, .int .i64 0, .slice none 0 0, .slice none 0 0], .int .i64 0, .int .i64 0, .int .i64 0, .int .i64 0] 8 (World.laidAll_os _ _ _)
      (World.shaped_of_ZipB (by kernel_rfl) (by kernel_rfl)) (by kernel_rfl) (by kernel_rfl) (by kernel_rfl)
      (by rw [MakeChecks.laidMetH_plain _ _ _ (by kernel_rfl)]; exact laidMet_laidAll _ (by kernel_rfl) (by kernel_rfl))) ?_
  intro W base args ds gs before hval0 hW hcnd hsz0 hX _
  have hval : ∀ (j : Nat) t v, Tryz.f4.params[j]? = some t → args[j]? = some v → Value.okWide Tryz.prog W .any base t v := hval0
  have hsz : (DataW.weightsEach Tryz.prog (Tryz.f4.params.toList ++ Rows.budgetModulesSpec.plain.varTypes Tryz.prog) (ds ++ gs)).all (· ≤ reachBytes) = true := hsz0
  have hW' := hW
  obtain ⟨p, q, hA0, hV, rfl, hfz, hnd⟩ := hW
  have hA : DataW.TrodAll enc Tryz.prog W 0 (fun _ => true) true Tryz.f4.params.toList args.toList ds p := hA0
  rw [Tryz.params4] at hA hval hsz
  obtain ⟨v0, vs0, d0, ds0, p0, q0, hargs, rfl, rfl, h0, r0⟩ := trodAll_cons hA
  obtain ⟨v1, vs1, d1, ds1, p1, q1, rfl, rfl, rfl, h1, r1⟩ := trodAll_cons r0
  obtain ⟨v2, vs2, d2, ds2, p2, q2, rfl, rfl, rfl, h2, r2⟩ := trodAll_cons r1
  obtain ⟨v3, vs3, d3, ds3, p3, q3, rfl, rfl, rfl, h3, r3⟩ := trodAll_cons r2
  obtain ⟨v4, vs4, d4, ds4, p4, q4, rfl, rfl, rfl, h4, r4⟩ := trodAll_cons r3
  obtain ⟨rfl, rfl, rfl⟩ := trodAll_nil r4
  obtain rfl : args = #[v0, v1, v2, v3, v4] := by cases args; simp_all
  obtain ⟨rfl, rfl⟩ := trodVars_none hV
  have lt0 : ∀ x ∈ p0, x.block < W.heap.size := by obtain ⟨m, hm⟩ := h0; exact DataW.trod_lt m _ _ _ hm
  obtain ⟨a0, w0⟩ := arg_agg opn31 Tryz.underlying31 (hval 0 31 v0 rfl rfl) h0 (reach_at hsz (j := 0) rfl rfl)
  have lt1 : ∀ x ∈ p1, x.block < W.heap.size := by obtain ⟨m, hm⟩ := h1; exact DataW.trod_lt m _ _ _ hm
  obtain ⟨a1, w1⟩ := arg_one (q := fun a1 : Int => intV .i64 a1) (Opn.int (k := .i64) Tryz.underlying3) Tryz.ag3.out (fun _ => rfl) (hval 1 3 v1 rfl rfl) h1 (reach_at hsz (j := 1) rfl rfl)
  have lt2 : ∀ x ∈ p2, x.block < W.heap.size := by obtain ⟨m, hm⟩ := h2; exact DataW.trod_lt m _ _ _ hm
  obtain ⟨a2, w2⟩ := arg_one (q := fun a2 : Int => intV .i64 a2) (Opn.int (k := .i64) Tryz.underlying3) Tryz.ag3.out (fun _ => rfl) (hval 2 3 v2 rfl rfl) h2 (reach_at hsz (j := 2) rfl rfl)
  have lt3 : ∀ x ∈ p3, x.block < W.heap.size := by obtain ⟨m, hm⟩ := h3; exact DataW.trod_lt m _ _ _ hm
  obtain ⟨a3, w3⟩ := arg_one (q := fun a3 : Int => intV .i64 a3) (Opn.int (k := .i64) Tryz.underlying3) Tryz.ag3.out (fun _ => rfl) (hval 3 3 v3 rfl rfl) h3 (reach_at hsz (j := 3) rfl rfl)
  have lt4 : ∀ x ∈ p4, x.block < W.heap.size := by obtain ⟨m, hm⟩ := h4; exact DataW.trod_lt m _ _ _ hm
  obtain ⟨a4, w4⟩ := arg_one (q := fun a4 : Int => intV .i64 a4) (Opn.int (k := .i64) Tryz.underlying3) Tryz.ag3.out (fun _ => rfl) (hval 4 3 v4 rfl rfl) h4 (reach_at hsz (j := 4) rfl rfl)
  clear hA0 hval0
  have hm0 : laidMet Tryz.prog [("internal/strconv.uint64pow10", Lib.tabData .u64 Lib.pow10Tab)] W := by
    have h := hX.filter (fun x => x.1 == "internal/strconv.uint64pow10")
    rw [show laid.filter (fun x => x.1 == "internal/strconv.uint64pow10") = [("internal/strconv.uint64pow10", Lib.tabData .u64 Lib.pow10Tab)] by kernel_rfl, MakeChecks.laidMetH_plain _ _ _ (by kernel_rfl)] at h
    exact h
  have hm1 : laidMet Tryz.prog [("strconv.ErrSyntax", Rows.laid_strconv_ErrSyntax)] W := by
    have h := hX.filter (fun x => x.1 == "strconv.ErrSyntax")
    rw [show laid.filter (fun x => x.1 == "strconv.ErrSyntax") = [("strconv.ErrSyntax", Rows.laid_strconv_ErrSyntax)] by kernel_rfl, MakeChecks.laidMetH_plain _ _ _ (by kernel_rfl)] at h
    exact h
  have hm2 : laidMet Tryz.prog [("strconv.ErrRange", Rows.laid_strconv_ErrRange)] W := by
    have h := hX.filter (fun x => x.1 == "strconv.ErrRange")
    rw [show laid.filter (fun x => x.1 == "strconv.ErrRange") = [("strconv.ErrRange", Rows.laid_strconv_ErrRange)] by kernel_rfl, MakeChecks.laidMetH_plain _ _ _ (by kernel_rfl)] at h
    exact h
  have hvars : VarsP Tryz.prog 0 1 2 (fun k => k < W.heap.size) W := vars_laid (by kernel_rfl) (Lib.tabIs_of_head (g := 0) (n := 20) (by kernel_rfl) (by kernel_rfl) (show Tryz.prog.underlying 247 = some _ from Tryz.underlying247) (show Tryz.prog.underlying 48 = some _ from Tryz.underlying48) (by kernel_rfl) (by kernel_rfl) hm0) (iface_laid (by kernel_rfl) (by kernel_rfl) Tryz.underlying159 hm1) (iface_laid (by kernel_rfl) (by kernel_rfl) Tryz.underlying159 hm2)
  have hall : All2 [aggV (encModW a0), intV .i64 a1, intV .i64 a2, intV .i64 a3, intV .i64 a4] (fun k => k < W.heap.size) W [v0, v1, v2, v3, v4] := (.cat (.one w0) (.cat (.one w1) (.cat (.one w2) (.cat (.one w3) (.cat (.one w4) All2.nil)))))
  refine (law_callsV (BudgetModules0_spec (x := a0.1) (fr := a1) (bl := a2) (ce := a3) (ca := a4) a0.2) hvars hall).mono fun e W' ⟨he, bel⟩ => ?_
  subst he
  exact ⟨_, rfl, _, _, _, [], _, [], hW', trodAll_mk1 (shut_bool Tryz.underlying4 _), (trodAll_cons_mk (Below.trod laidOut (by kernel_rfl) (of_decide_eq_true (by kernel_rfl)) h0 bel lt0) (trodAll_cons_mk (Below.trod laidOut (by kernel_rfl) (of_decide_eq_true (by kernel_rfl)) h1 bel lt1) (trodAll_cons_mk (Below.trod laidOut (by kernel_rfl) (of_decide_eq_true (by kernel_rfl)) h2 bel lt2) (trodAll_cons_mk (Below.trod laidOut (by kernel_rfl) (of_decide_eq_true (by kernel_rfl)) h3 bel lt3) (trodAll_cons_mk (Below.trod laidOut (by kernel_rfl) (of_decide_eq_true (by kernel_rfl)) h4 bel lt4) trodAll_mk0))))), rfl, bel.frame _, fun h => by cases h⟩
end Go.Proofs.YtpahnbgfmhcndaaGreatDoor.budgetModulesLaw
end
