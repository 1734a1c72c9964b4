/-
  Walks, printed by a program (gen.py) out of what its author says of each function.
-/
import Derived.Test.YtgmpadhfgohodaaDoorP23D
namespace Go.Proofs.YtgmpadhfgohodaaDoor
open Go.Hl Go.RowKit
set_option linter.unusedVariables false
set_option maxRecDepth 100000

theorem cloneI_spec {l : List InstrD} (hp0 : l.length ≤ 65536) : FnP Tryd.prog 18 [sliceV 5 encInstr (l)] (sliceV 5 encInstr (l)) := by
  refine FnE.intro 8 Tryd.func18 rfl rfl rfl fun w0 S0 M => ?_
  refine CodeT.nilCase (t := 0) rfl fun p hp => ?_
  refine CodeT.seq ?_
  refine CodeT.region (.p (opAssign (.c _)) rfl <| .nil ?_)
  refine EndT.thenN ?_
  refine CodeT.seq ?_
  refine CodeT.seq ?_
  refine CodeT.region (.p (opMove (.t rfl)) rfl <| .p (opEqlNilN Tryd.underlying28 (.t rfl) (.c _)) rfl <| .nil ?_)
  refine EndT.thenN ?_
  refine CodeT.cond (.t rfl) (fun c0 => ?_) (fun c0 => ?_)
  ·
    refine CodeT.seq ?_
    refine CodeT.region (.p (opAssign (.c _)) rfl <| .nil ?_)
    refine EndT.thenN ?_
    refine CodeT.ret (EndT.thenR (Post.retP rfl rfl ?_))
    exact (show VLe (exactV (.slice none 0 0)) (sliceV 5 encInstr l) from hp c0 ▸ sliceV_nil 5 encInstr)
  ·
    refine CodeT.skip (EndT.thenN ?_)
    refine CodeT.seq ?_
    refine CodeT.region (.p (opBuildEmpty Tryd.underlying28 Tryd.cz41 rfl Tryd.zb41 rfl) rfl <| .p (opMove (.t rfl)) rfl <| .p (opAppendE Tryd.underlying28 Tryd.underlying28 Tryd.cz41 rfl Tryd.zb41 rfl Tryd.by41 (.t rfl) (.le (.t rfl) sliceNV_le) (by omega)) rfl <| .p (opAssign (.t rfl)) rfl <| .nil ?_)
    refine EndT.thenN ?_
    refine CodeT.ret (Post.retP rfl rfl ?_)
    exact VLe.refl _

set_option maxHeartbeats 1000000 in
theorem pstep_spec {l : List InstrD} (hp0 : SmL l 60000) : FnE Tryd.prog 6 [sliceV 5 encInstr (l)] [tabH 0 .u8 Lib.deBruijn64tab] (γ := Unit) (fun _ => True) (fun _ => []) (fun _ => tupV [sliceV 5 encInstr ((stepR l).1), iV ((stepR l).2 : Int)]) := by
  refine FnE.intro 36 Tryd.func6 rfl rfl rfl fun w0 S0 M => ?_
  have hll := hp0.len
  refine CodeT.seq ?_
  refine CodeT.region (.p (opAssign (.c _)) rfl <| .p (opAssign (.c _)) rfl <| .nil ?_)
  refine EndT.thenN ?_
  refine CodeT.seq ?_
  refine CodeT.region (.p (OpP.leH (opBuildArr Tryd.ar44 Tryd.zb44 (.cons (.f _) (.cons (.f _) (.cons (.f _) (.cons (.f _) (.cons (.f _) (.cons (.f _) .nil)))))) rfl) (fun F S w v ho hv => stepsV_of ho hv)) rfl <| .n (opAlloc Tryd.zb44) rfl <| fun b4 _ => .s (opStoreOA (i := 0) Tryd.cz44 rfl (.t rfl) (.t rfl) rfl rfl rfl) <| .nil ?_)
  refine EndT.thenN ?_
  refine CodeT.seq ?_
  refine CodeT.seq ?_
  refine CodeT.region (.p (opMove (.t rfl)) rfl <| .p (opLen rfl Tryd.underlying28 (.t rfl)) rfl <| .p (opMove (.c _)) rfl <| .nil ?_)
  refine EndT.thenN ?_
  refine CodeT.block ?_
  refine CodeT.loopO (σ := Nat) (fun _ => [cellsH b4 (stepsV Tryd.prog), tabH 0 .u8 Lib.deBruijn64tab]) (fun i => [(13, iV (i : Int))]) (fun i => i ≤ l.length ∧ stepK l i = none) (fun i => l.length - i) 0 ⟨Nat.zero_le _, rfl⟩ rfl ?_ ?_
  · exact (.get rfl (VLe.refl _) (.refl _ _))
  · rintro i ⟨hi, hno⟩
    refine CodeT.seq ?_
    refine CodeT.region (.p (opLss (.t rfl) (.t rfl)) rfl <| .nil ?_)
    refine EndT.thenN ?_
    refine CodeT.seq ?_
    refine CodeT.cond (.t rfl) (fun c0 => ?_) (fun c0 => ?_)
    ·
      have hil : i < l.length := by omega
      refine CodeT.skip (EndT.thenN ?_)
      refine CodeT.seq ?_
      refine CodeT.block ?_
      refine CodeT.seq ?_
      refine CodeT.region (.p (opMove (.t rfl)) rfl <| .p (opAssign (.t rfl)) rfl <| .nil ?_)
      refine EndT.thenN ?_
      refine CodeT.seq ?_
      refine CodeT.region (.p (opLoadOA (i := 0) Tryd.ag44 Tryd.cz44 rfl (.t rfl) rfl rfl) rfl <| .p (opMove (.c _)) rfl <| .nil ?_)
      refine EndT.thenN ?_
      refine CodeT.block ?_
      refine CodeT.loopO (σ := Nat) (fun _ => [cellsH b4 (stepsV Tryd.prog), tabH 0 .u8 Lib.deBruijn64tab]) (fun k => [(17, iV (k : Int))]) (fun k => k ≤ 6 ∧ stepAtK l i k = none) (fun k => 6 - k) 0 ⟨Nat.zero_le _, rfl⟩ rfl ?_ ?_
      · exact (.get rfl (VLe.refl _) (.refl _ _))
      · rintro k ⟨hk, hnk⟩
        refine CodeT.seq ?_
        refine CodeT.region (.p (opLss (.t rfl) (.c _)) rfl <| .nil ?_)
        refine EndT.thenN ?_
        refine CodeT.seq ?_
        refine CodeT.cond (.t rfl) (fun c1 => ?_) (fun c1 => ?_)
        ·
          have hk6 : k < 6 := by omega
          refine CodeT.skip (EndT.thenN ?_)
          refine CodeT.seq ?_
          refine CodeT.block ?_
          refine CodeT.seq ?_
          refine CodeT.region (.p (opMove (.t rfl)) rfl <| .p (opIndexA1 Tryd.underlying44 Tryd.cz43 Tryd.ag43 (.t rfl) rfl (.t rfl) rfl (steps_at hk6)) rfl <| .p (opAssign (.t rfl)) rfl <| .p (opAssign (.t rfl)) rfl <| .nil ?_)
          refine EndT.thenN ?_
          refine CodeT.seq ?_
          refine CodeT.region (.p (opMove (.t rfl)) rfl <| .p (opMove (.t rfl)) rfl <| .p (opMove (.t rfl)) rfl <| .p (opCallV (l, i) (.t rfl) ⟨hp0, hil⟩ (.cons (.t rfl) (.cons (.t rfl) .nil))) rfl <| .p (opMove (.t rfl)) rfl <| .p (opExtract (.t rfl) rfl) rfl <| .p (opExtract (.t rfl) rfl) rfl <| .p (opAssign (.t rfl)) rfl <| .p (opAssign (.t rfl)) rfl <| .nil ?_)
          refine EndT.thenN ?_
          refine CodeT.seq ?_
          refine CodeT.region (.p (opMove (.t rfl)) rfl <| .nil ?_)
          refine EndT.thenN ?_
          refine CodeT.cond (.t rfl) (fun c2 => ?_) (fun c2 => ?_)
          ·
            obtain ⟨r, hf⟩ := Option.isSome_iff_exists.1 c2
            have hsl := stepL_at hno hil (stepAtK_stay (stepAtK_yes hnk hf) 6 (by omega))
            refine CodeT.seq ?_
            refine CodeT.region (.p (opMove (.t rfl)) rfl <| .p (opMove (.t rfl)) rfl <| .p (opAddF (.t rfl) (.c _) (fits_i64 (by omega) (by omega))) rfl <| .p (opAssign (.t rfl)) rfl <| .p (opAssign (.t rfl)) rfl <| .nil ?_)
            refine EndT.thenN ?_
            refine CodeT.ret (EndT.blkR (EndT.thenR (EndT.thenR (EndT.blkR (EndT.blkR (EndT.thenR (EndT.thenR (EndT.blkR (EndT.thenR (Post.retR rfl rfl () trivial (fun _ _ _ _ => trivial) rfl (.cons (.rt rfl) ?_ (.cons (.rt rfl) ?_ .nil))))))))))))
            · exact VLe.of_eq (by unfold stepR; rw [hsl, hf]; rfl)
            · exact VLe.int (by unfold stepR; rw [hsl]; rfl)
          ·
            have hf : fK l i k = none := by simpa using c2
            refine CodeT.skip (EndT.blkN (EndT.thenN ?_))
            refine CodeT.region (.p (opAddF (.t rfl) (.c _) (fits_i64 (by omega) (by omega))) rfl <| .p (opMove (.t rfl)) rfl <| .nil ?_)
            refine EndT.round (k + 1) ⟨by omega, stepAtK_no hnk hf⟩ (by omega) rfl ?_
            exact (.get rfl (VLe.int (by (show (k : Int) + 1 = ((k + 1 : Nat) : Int); omega))) ((.keep 18 rfl rfl)))
        ·
          have hk6 : k = 6 := by omega
          subst hk6
          have hat : stepAt l i = none := hnk
          refine CodeT.exit (EndT.thenX (EndT.thenX (EndT.blkX (EndT.blkN (EndT.thenN ?_)))))
          refine CodeT.region (.p (opAddF (.t rfl) (.c _) (fits_i64 (by omega) (by omega))) rfl <| .p (opMove (.t rfl)) rfl <| .nil ?_)
          refine EndT.round (i + 1) ⟨by omega, stepK_next hno hat⟩ (by omega) rfl ?_
          exact (.get rfl (VLe.int (by (show (i : Int) + 1 = ((i + 1 : Nat) : Int); omega))) ((.keep 10 rfl rfl)))
    ·
      have hil : i = l.length := by omega
      subst hil
      have hsl : stepL l = none := hno
      refine CodeT.exit (EndT.thenX (EndT.thenX (EndT.blkX (EndT.thenN ?_))))
      refine CodeT.seq ?_
      refine CodeT.region (.p (opMove (.t rfl)) rfl <| .p (opCall (cloneI_spec (by omega)) Tryd.cb18 (.cons (.t rfl) .nil)) rfl <| .p (opAssign (.t rfl)) rfl <| .p (opAssign (.c _)) rfl <| .nil ?_)
      refine EndT.thenN ?_
      refine CodeT.ret (Post.retR rfl rfl () trivial (fun _ _ _ _ => trivial) rfl (.cons (.rt rfl) ?_ (.cons (.rt rfl) ?_ .nil)))
      · exact VLe.of_eq (by unfold stepR; rw [hsl]; rfl)
      · exact VLe.int (by unfold stepR; rw [hsl]; rfl)

theorem pbody_spec {l : List InstrD} (hp0 : SmL l 60000) : FnE Tryd.prog 10 [sliceV 5 encInstr (l)] [tabH 0 .u8 Lib.deBruijn64tab] (γ := Unit) (fun _ => True) (fun _ => []) (fun _ => sliceV 5 encInstr (bodyL l)) := by
  refine FnE.intro 14 Tryd.func10 rfl rfl rfl fun w0 S0 M => ?_
  refine CodeT.seq ?_
  refine CodeT.region (.p (opAssign (.c _)) rfl <| .nil ?_)
  refine EndT.thenN ?_
  refine CodeT.block ?_
  refine CodeT.loopO (σ := List InstrD) (fun _ => [tabH 0 .u8 Lib.deBruijn64tab]) (fun m => [(0, sliceV 5 encInstr (m))]) (fun m => SmL m 60000 ∧ bodyL m = bodyL l) (fun m => m.length) l ⟨hp0, rfl⟩ rfl ?_ ?_
  · exact (.get rfl (VLe.refl _) (.refl _ _))
  · rintro m ⟨hm, hb⟩
    obtain ⟨r, hr⟩ : ∃ r, stepL m = r := ⟨_, rfl⟩
    refine CodeT.block ?_
    refine CodeT.seq ?_
    refine CodeT.region (.p (opMove (.t rfl)) rfl <| .p (opCallDup (i := 0) (pstep_spec hm) Tryd.cb6 (.cons (.t rfl) .nil) rfl) rfl <| .p (opMove (.t rfl)) rfl <| .p (opExtract (.t rfl) rfl) rfl <| .p (opExtract (.t rfl) rfl) rfl <| .p (opAssign (.t rfl)) rfl <| .p (opAssign (.t rfl)) rfl <| .nil ?_)
    refine EndT.thenN ?_
    refine CodeT.seq ?_
    refine CodeT.seq ?_
    refine CodeT.region (.p (opMove (.t rfl)) rfl <| .p (opEql (.t rfl) (.c _)) rfl <| .nil ?_)
    refine EndT.thenN ?_
    refine CodeT.cond (.t rfl) (fun c0 => ?_) (fun c0 => ?_)
    ·
      have hr0 : r = none := by cases r with | none => rfl | some p => (exfalso; have h3 := (stepL_less hm (show stepL m = some (p.1, p.2) from hr)).2.2; unfold stepR at c0; rw [hr] at c0; simp at c0; omega)
      subst hr0
      refine CodeT.seq ?_
      refine CodeT.region (.p (opMove (.t rfl)) rfl <| .p (opAssign (.t rfl)) rfl <| .nil ?_)
      refine EndT.thenN ?_
      refine CodeT.ret (EndT.thenR (EndT.blkR (EndT.thenR (EndT.blkR (Post.retP rfl rfl ?_)))))
      exact VLe.of_eq (by rw [← hb, bodyL_none hr]; unfold stepR; rw [hr]; rfl)
    ·
      obtain ⟨⟨r, n⟩, rfl⟩ : ∃ p, r = some p := by cases r with | none => exact absurd (by unfold stepR; rw [hr]; rfl) c0 | some p => exact ⟨p, rfl⟩
      obtain ⟨hl1, hl2, hl3⟩ := stepL_less hm hr
      refine CodeT.skip (EndT.thenN ?_)
      refine CodeT.region (.p (opMove (.t rfl)) rfl <| .p (opAssign (.t rfl)) rfl <| .nil ?_)
      refine EndT.blkN (EndT.round r ⟨hl2, (bodyL_some hm hr).symm.trans hb⟩ hl1 rfl ?_)
      exact (.get rfl (VLe.of_eq (by unfold stepR; rw [hr]; rfl)) ((.keep 12 rfl rfl)))

end Go.Proofs.YtgmpadhfgohodaaDoor
