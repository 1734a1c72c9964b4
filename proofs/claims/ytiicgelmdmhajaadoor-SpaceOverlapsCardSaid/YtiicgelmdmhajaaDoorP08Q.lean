/-
  Walks, printed by a program (gen.py) out of what its author says of each function.
-/
import Derived.Test.YtiicgelmdmhajaaDoorP08S
import Derived.Test.YtiicgelmdmhajaaDoorP08D
namespace Go.Proofs.YtiicgelmdmhajaaDoor
open Go.Hl Go.RowKit
set_option linter.unusedVariables false
set_option maxRecDepth 100000

theorem spaceOverlaps_spec {fr : UInt8} {ys : List UInt8} {fa ta : Nat} (hp0 : fa < 65536) (hp1 : ta < 65536) : FnP Tryd.prog 5 [intV .u8 (fr.toNat : Int), sliceV 1 encU8 ys, intV .u16 (fa : Int), intV .u16 (ta : Int)] (propV True) := by
  refine FnE.intro 81 Tryd.func5 rfl rfl rfl fun w0 S0 M => ?_
  have hok : SpOk ⟨3, 2, 2, 2, True⟩ := ⟨by decide, by decide, by decide, by decide⟩
  refine CodeT.seq ?_
  refine CodeT.region (.p (opAssign .cf) rfl <| .nil ?_)
  refine EndT.thenN ?_
  refine CodeT.seq ?_
  refine CodeT.seq ?_
  refine CodeT.region (.p (opMove (.t rfl)) rfl <| .p (opLen rfl Tryd.underlying22 (.t rfl)) rfl <| .p (opGtr (.t rfl) (.c _)) rfl <| .p (opMove (.t rfl)) rfl <| .g (OpG.gF rfl rfl rfl rfl (fun hg => opCall (awake08_spec) Tryd.cb18 .nil)) rfl rfl <| .g (OpG.gF rfl rfl rfl rfl (fun hg => opNot (.when (.t rfl) hg))) rfl rfl <| .p (opOr (.t rfl) (.t rfl)) rfl <| .nil ?_)
  refine EndT.thenN ?_
  refine CodeT.cond (.t rfl) (fun c0 => ?_) (fun c0 => ?_)
  ·
    refine CodeT.seq ?_
    refine CodeT.region (.p (opCall (awake08_spec) Tryd.cb18 .nil) rfl <| .p (opAssign (.t rfl)) rfl <| .nil ?_)
    refine EndT.thenN ?_
    refine CodeT.ret (EndT.thenR (Post.retP rfl rfl ?_))
    exact VLe.prop (by simp)
  ·
    have hl : ys.length ≤ 400 := by omega
    obtain ⟨hcs, hwl, hld⟩ := overlaps_ok hp0 hp1 hl
    refine CodeT.skip (EndT.thenN ?_)
    refine CodeT.seq ?_
    refine CodeT.region (.p (opMove (.t rfl)) rfl <| .p (opRem (.t rfl) (.c _) (by omega) (by omega)) rfl <| .p (opConvF Tryd.underlying5 Tryd.underlying3 (.t rfl) (fits_i64 (by omega) (by omega))) rfl <| .n (opCallE (rest := []) (pager08_spec (fr := (fr.toNat : Int) % 5)) Tryd.cb20 (.cons (.t rfl) .nil) (Perm.idx [] rfl rfl)) rfl <| fun g28 h28 => .n (opCallE (rest := [_]) (mnew_spec (pb := g28.pb) (num := 3) (pages := 2) (most := 2) (wide := True) (by decide) (by decide) (by decide)) Tryd.cb19 (.cons (.t rfl) (.cons (.c _) (.cons (.c _) (.cons (.c _) (.cons .ct .nil))))) (Perm.idx [0] rfl rfl)) rfl <| fun g29 h29 => .p (opMove (.t rfl)) rfl <| .p (opExtract (.t rfl) rfl) rfl <| .p (opExtract (.t rfl) rfl) rfl <| .p (opAssign (.t rfl)) rfl <| .p (opAssign (.t rfl)) rfl <| .nil ?_)
    refine EndT.thenN ?_
    refine CodeT.seq ?_
    refine CodeT.region (.p (opMove (.t rfl)) rfl <| .p (opMove (.t rfl)) rfl <| .p (opConvF Tryd.underlying38 Tryd.underlying46 (.t rfl) (fits_u64 (by omega) (by omega))) rfl <| .p (opMove (.t rfl)) rfl <| .n (opCallE (rest := []) (mstore_spec (mb := g29) (mm := ⟨3, 2, 2, 2, True⟩) (X := g28) (z := 64) (q := 4096) (m := 0) (T := fun _ => True) (C := zeroC 64) (R := noR) (a := fa) (o := 0) (ys := ys) (noR_ok _) (by decide) (by decide) hok (by omega) (by decide) (by omega) (by omega)) Tryd.cb21 (.cons (.t rfl) (.cons (.t rfl) (.cons (.c _) (.cons (.t rfl) .nil)))) (Perm.idx [0, 1] rfl rfl)) rfl <| fun g36 h36 => .nil ?_)
    refine EndT.thenN ?_
    refine CodeT.seq ?_
    refine CodeT.region (.p (opMove (.t rfl)) rfl <| .p (opMove (.t rfl)) rfl <| .p (opMove (.t rfl)) rfl <| .p (opConvF Tryd.underlying38 Tryd.underlying46 (.t rfl) (fits_u64 (by omega) (by omega))) rfl <| .p (opMove (.t rfl)) rfl <| .p (opConvF Tryd.underlying38 Tryd.underlying46 (.t rfl) (fits_u64 (by omega) (by omega))) rfl <| .p (opMove (.t rfl)) rfl <| .p (opLen rfl Tryd.underlying22 (.t rfl)) rfl <| .p (opConvF Tryd.underlying3 Tryd.underlying46 (.t rfl) (fits_u64 (by omega) (by omega))) rfl <| .n (opCallE (rest := []) (mcopySelf_spec (mb := g29) (mm := ⟨3, 2, 2, 2, True⟩) (X := g28) (z := 64) (q := 4096) (m := 0 + (ys.length / 64 + 2)) (T := fun _ => True) (C := if (wrongS 2 fa 0 (ys.length : Int)).2 = (0, 0) then wrC 64 (zeroC 64) 3 (fa + 0) ys else zeroC 64) (R := noR) (a := fa) (t := ta) (n := ys.length) (noR_ok _) (by decide) (by decide) hok hok (by omega) (by omega) (by omega) (by omega)) Tryd.cb25 (.cons (.t rfl) (.cons (.t rfl) (.cons (.t rfl) (.cons (.t rfl) (.cons (.t rfl) .nil))))) (Perm.idx [0, 1] rfl rfl)) rfl <| fun g47 h47 => .p (opMove (.t rfl)) rfl <| .p ((opExtract (.t rfl) rfl).le (VLe.int (show _ = (0 : Int) by rw [hcs]; rfl))) rfl <| .p ((opExtract (.t rfl) rfl).le (VLe.int (show _ = (0 : Int) by rw [hcs]; rfl))) rfl <| .p (opAssign (.t rfl)) rfl <| .p (opAssign (.t rfl)) rfl <| .nil ?_)
    refine EndT.thenN ?_
    refine CodeT.seq ?_
    refine CodeT.region (.p (opMove (.t rfl)) rfl <| .p (opMove (.t rfl)) rfl <| .p (opConvF Tryd.underlying38 Tryd.underlying46 (.t rfl) (fits_u64 (by omega) (by omega))) rfl <| .p (opMove (.t rfl)) rfl <| .p (opLen rfl Tryd.underlying22 (.t rfl)) rfl <| .n (opCallE (rest := []) (mload_spec (mb := g29) (mm := ⟨3, 2, 2, 2, True⟩) (X := g28) (z := 64) (q := 4096) (m := (if copyS 2 2 ta fa ys.length = (0, 0) then 0 + (ys.length / 64 + 2) + (ys.length / 64 + 2) else 0 + (ys.length / 64 + 2))) (T := fun _ => True) (C := if copyS 2 2 ta fa ys.length = (0, 0) then wrC 64 (if (wrongS 2 fa 0 (ys.length : Int)).2 = (0, 0) then wrC 64 (zeroC 64) 3 (fa + 0) ys else zeroC 64) 3 ta (memR 64 (if (wrongS 2 fa 0 (ys.length : Int)).2 = (0, 0) then wrC 64 (zeroC 64) 3 (fa + 0) ys else zeroC 64) 3 fa ys.length) else (if (wrongS 2 fa 0 (ys.length : Int)).2 = (0, 0) then wrC 64 (zeroC 64) 3 (fa + 0) ys else zeroC 64)) (R := noR) (a := ta) (o := 0) (n := (ys.length : Int)) (noR_ok _) (by decide) (by decide) hok (by omega) (by decide)) Tryd.cb23 (.cons (.t rfl) (.cons (.t rfl) (.cons (.c _) (.cons (.t rfl) .nil)))) (Perm.idx [0, 1] rfl rfl)) rfl <| fun g56 h56 => .p (opMove (.t rfl)) rfl <| .p ((opExtract (.t rfl) rfl).le (VLe.of_eq (congrArg (sliceV 1 encU8) hld))) rfl <| .p ((opExtract (.t rfl) rfl).le (VLe.int (show _ = (0 : Int) by rw [hwl]; rfl))) rfl <| .p ((opExtract (.t rfl) rfl).le (VLe.int (show _ = (0 : Int) by rw [hwl]; rfl))) rfl <| .p (opAssign (.t rfl)) rfl <| .p (opAssign (.t rfl)) rfl <| .p (opAssign (.t rfl)) rfl <| .nil ?_)
    refine EndT.thenN ?_
    refine CodeT.seq ?_
    refine CodeT.region (.p (opMove (.t rfl)) rfl <| .p (opEql (.t rfl) (.c _)) rfl <| .p (opMove (.t rfl)) rfl <| .g (OpG.gT rfl rfl rfl rfl (fun hg => opMove (.t rfl))) rfl rfl <| .g (OpG.gT rfl rfl rfl rfl (fun hg => opEql (.when (.t rfl) hg) (.c _))) rfl rfl <| .p (opAnd (.t rfl) (.t rfl)) rfl <| .p (opMove (.t rfl)) rfl <| .g (OpG.gT rfl rfl rfl rfl (fun hg => opMove (.t rfl))) rfl rfl <| .g (OpG.gT rfl rfl rfl rfl (fun hg => opEql (.when (.t rfl) hg) (.c _))) rfl rfl <| .p (opAnd (.t rfl) (.t rfl)) rfl <| .p (opMove (.t rfl)) rfl <| .g (OpG.gT rfl rfl rfl rfl (fun hg => opMove (.t rfl))) rfl rfl <| .g (OpG.gT rfl rfl rfl rfl (fun hg => opEql (.when (.t rfl) hg) (.c _))) rfl rfl <| .p (opAnd (.t rfl) (.t rfl)) rfl <| .p (opMove (.t rfl)) rfl <| .g (OpG.gT rfl rfl rfl rfl (fun hg => opMove (.t rfl))) rfl rfl <| .g (OpG.gT rfl rfl rfl rfl (fun hg => opBytesStr Tryd.underlying22 Tryd.underlying5 Tryd.underlying9 (.when (.t rfl) hg))) rfl rfl <| .g (OpG.gT rfl rfl rfl rfl (fun hg => opMove (.t rfl))) rfl rfl <| .g (OpG.gT rfl rfl rfl rfl (fun hg => opBytesStr Tryd.underlying22 Tryd.underlying5 Tryd.underlying9 (.when (.t rfl) hg))) rfl rfl <| .g (OpG.gT rfl rfl rfl rfl (fun hg => opEqlS (.when (.t rfl) hg) (.when (.t rfl) hg))) rfl rfl <| .p (opAnd (.t rfl) (.t rfl)) rfl <| .p (opAssign (.t rfl)) rfl <| .nil ?_)
    refine EndT.thenN ?_
    refine CodeT.ret (Post.retP rfl rfl ?_)
    exact VLe.prop (by simp)

theorem spaceOverlapsW_spec {fr : UInt8} {ys : List UInt8} {fa ta : IntOf .u16} : FnP Tryd.prog 5 [intV .u8 (fr.toNat : Int), sliceV 1 encU8 ys, intV .u16 fa.1, intV .u16 ta.1] (propV True) := by
  obtain ⟨m, hm, hlt⟩ := nat_of16 fa
  obtain ⟨m2, hm2, hlt2⟩ := nat_of16 ta
  rw [hm, hm2]
  exact spaceOverlaps_spec hlt hlt2

end Go.Proofs.YtiicgelmdmhajaaDoor
