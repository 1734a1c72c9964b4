/-
  Walks, printed by a program (gen.py) out of what its author says of each function.
-/
import Derived.Test.YtiicgelmdmhajaaDoorP08T
namespace Go.Proofs.YtiicgelmdmhajaaDoor
open Go.Hl Go.RowKit
set_option linter.unusedVariables false
set_option maxRecDepth 100000

theorem awake08_spec  : FnP Tryd.prog 18 [] (propV True) := by
  refine FnE.intro 57 Tryd.func18 rfl rfl rfl fun w0 S0 M => ?_
  have hok : SpOk ⟨0, 1, 2, 2, False⟩ := ⟨by decide, by decide, by decide, by decide⟩
  refine CodeT.seq ?_
  refine CodeT.region (.p (opAssign .cf) rfl <| .nil ?_)
  refine EndT.thenN ?_
  refine CodeT.seq ?_
  refine CodeT.region (.n (opCallE (rest := []) (pager08_spec (fr := 2)) Tryd.cb20 (.cons (.c _) .nil) (Perm.idx [] rfl rfl)) rfl <| fun g12 h12 => .n (opCallE (rest := [_]) (mnew_spec (pb := g12.pb) (num := 0) (pages := 1) (most := 2) (wide := False) (by decide) (by decide) (by decide)) Tryd.cb19 (.cons (.t rfl) (.cons (.c _) (.cons (.c _) (.cons (.c _) (.cons .cf .nil))))) (Perm.idx [0] rfl rfl)) rfl <| fun g13 h13 => .p (opMove (.t rfl)) rfl <| .p (opExtract (.t rfl) rfl) rfl <| .p (opExtract (.t rfl) rfl) rfl <| .p (opAssign (.t rfl)) rfl <| .p (opAssign (.t rfl)) rfl <| .nil ?_)
  refine EndT.thenN ?_
  refine CodeT.seq ?_
  refine CodeT.region (.p (opMove (.t rfl)) rfl <| .p (opBuildSlice (enc := encU8) [1, 2, 3, 4] Tryd.underlying22 Tryd.cz5 rfl Tryd.zb5 rfl (.cons (.c _) (.cons (.c _) (.cons (.c _) (.cons (.c _) .nil)))) rfl rfl rfl rfl rfl) rfl <| .n (opCallE (rest := []) (mstore_spec (mb := g13) (mm := ⟨0, 1, 2, 2, False⟩) (X := g12) (z := 64) (q := 4096) (m := 0) (T := fun _ => True) (C := zeroC 64) (R := noR) (a := 65532) (o := 0) (ys := [1, 2, 3, 4]) (noR_ok _) (by decide) (by decide) hok (by decide) (by decide) (by decide) (by decide)) Tryd.cb21 (.cons (.t rfl) (.cons (.c _) (.cons (.c _) (.cons (.t rfl) .nil)))) (Perm.idx [0, 1] rfl rfl)) rfl <| fun g19 h19 => .p (opMove (.t rfl)) rfl <| .p (opExtract (.t rfl) rfl) rfl <| .p (opExtract (.t rfl) rfl) rfl <| .p (opAssign (.t rfl)) rfl <| .p (opAssign (.t rfl)) rfl <| .nil ?_)
  refine EndT.thenN ?_
  refine CodeT.seq ?_
  refine CodeT.region (.p (opMove (.t rfl)) rfl <| .n (opCallE (rest := []) (mload_spec (mb := g13) (mm := ⟨0, 1, 2, 2, False⟩) (X := g12) (z := 64) (q := 4096) (m := 0 + (([1, 2, 3, 4] : List UInt8).length / 64 + 2)) (T := fun _ => True) (C := _) (R := noR) (a := 65534) (o := 0) (n := 4) (noR_ok _) (by decide) (by decide) hok (by decide) (by decide)) Tryd.cb23 (.cons (.t rfl) (.cons (.c _) (.cons (.c _) (.cons (.c _) .nil)))) (Perm.idx [0, 1] rfl rfl)) rfl <| fun g24 h24 => .p (opMove (.t rfl)) rfl <| .p (opExtract (.t rfl) rfl) rfl <| .p (opExtract (.t rfl) rfl) rfl <| .p (opExtract (.t rfl) rfl) rfl <| .p (opAssign (.t rfl)) rfl <| .p (opAssign (.t rfl)) rfl <| .p (opAssign (.t rfl)) rfl <| .nil ?_)
  refine EndT.thenN ?_
  refine CodeT.seq ?_
  refine CodeT.region (.p (opMove (.t rfl)) rfl <| .n (opCallE (rest := []) (mload_spec (mb := g13) (mm := ⟨0, 1, 2, 2, False⟩) (X := g12) (z := 64) (q := 4096) (m := 0 + (([1, 2, 3, 4] : List UInt8).length / 64 + 2)) (T := fun _ => True) (C := _) (R := noR) (a := 0) (o := 65534) (n := 2) (noR_ok _) (by decide) (by decide) hok (by decide) (by decide)) Tryd.cb23 (.cons (.t rfl) (.cons (.c _) (.cons (.c _) (.cons (.c _) .nil)))) (Perm.idx [0, 1] rfl rfl)) rfl <| fun g30 h30 => .p (opMove (.t rfl)) rfl <| .p (opExtract (.t rfl) rfl) rfl <| .p (opExtract (.t rfl) rfl) rfl <| .p (opExtract (.t rfl) rfl) rfl <| .p (opAssign (.t rfl)) rfl <| .p (opAssign (.t rfl)) rfl <| .p (opAssign (.t rfl)) rfl <| .nil ?_)
  refine EndT.thenN ?_
  refine CodeT.seq ?_
  refine CodeT.region (.p (opMove (.t rfl)) rfl <| .p (opEql (.t rfl) (.c _)) rfl <| .p (opMove (.t rfl)) rfl <| .g (OpG.gT rfl rfl rfl rfl (fun hg => opMove (.t rfl))) rfl rfl <| .g (OpG.gT rfl rfl rfl rfl (fun hg => opEql (.when (.t rfl) hg) (.c _))) rfl rfl <| .p (opAnd (.t rfl) (.t rfl)) rfl <| .p (opMove (.t rfl)) rfl <| .g (OpG.gT rfl rfl rfl rfl (fun hg => opMove (.t rfl))) rfl rfl <| .g (OpG.gT rfl rfl rfl rfl (fun hg => opEql (.when (.t rfl) hg) (.c _))) rfl rfl <| .p (opAnd (.t rfl) (.t rfl)) rfl <| .p (opMove (.t rfl)) rfl <| .g (OpG.gT rfl rfl rfl rfl (fun hg => opMove (.t rfl))) rfl rfl <| .g (OpG.gT rfl rfl rfl rfl (fun hg => opEql (.when (.t rfl) hg) (.c _))) rfl rfl <| .p (opAnd (.t rfl) (.t rfl)) rfl <| .p (opMove (.t rfl)) rfl <| .g (OpG.gT rfl rfl rfl rfl (fun hg => opMove (.t rfl))) rfl rfl <| .g (OpG.gT rfl rfl rfl rfl (fun hg => opEql (.when (.t rfl) hg) (.c _))) rfl rfl <| .p (opAnd (.t rfl) (.t rfl)) rfl <| .p (opMove (.t rfl)) rfl <| .g (OpG.gT rfl rfl rfl rfl (fun hg => opMove (.t rfl))) rfl rfl <| .g (OpG.gT rfl rfl rfl rfl (fun hg => (opBytesStr Tryd.underlying22 Tryd.underlying5 Tryd.underlying9 (.when (.t rfl) hg)).le (VLe.of_eq (show strV _ = strV [3, 4] from congrArg strV aw08)))) rfl rfl <| .g (OpG.gT rfl rfl rfl rfl (fun hg => (opEqlS (.when (.t rfl) hg) (.s [3, 4] rfl rfl)).le (VLe.prop (q := True) (by decide)))) rfl rfl <| .p (opAnd (.t rfl) (.t rfl)) rfl <| .p (opAssign (.t rfl)) rfl <| .nil ?_)
  refine EndT.thenN ?_
  refine CodeT.ret (Post.retP rfl rfl ?_)
  exact VLe.prop (by decide)

end Go.Proofs.YtiicgelmdmhajaaDoor
