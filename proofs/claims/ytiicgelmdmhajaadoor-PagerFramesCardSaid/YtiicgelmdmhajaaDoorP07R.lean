/-
  Walks, printed by a program (gen.py) out of what its author says of each function.
-/
import Derived.Test.YtiicgelmdmhajaaDoorP07Q
namespace Go.Proofs.YtiicgelmdmhajaaDoor
open Go.Hl Go.RowKit
set_option linter.unusedVariables false
set_option maxRecDepth 100000

theorem awake07_spec  : FnP Tryd.prog 11 [] (propV True) := by
  refine FnE.intro 65 Tryd.func11 rfl rfl rfl fun w0 S0 M => ?_
  refine CodeT.seq ?_
  refine CodeT.region (.p (opAssign .cf) rfl <| .nil ?_)
  refine EndT.thenN ?_
  refine CodeT.seq ?_
  refine CodeT.region (.n (opCallE (rest := []) (anew_spec (n := 1000) (by decide)) Tryd.cb12 (.cons (.c _) .nil) (Perm.idx [] rfl rfl)) rfl <| fun g12 h12 => .p (opMove (.t rfl)) rfl <| .p (opExtract (.t rfl) rfl) rfl <| .p (opExtract (.t rfl) rfl) rfl <| .p (opAssign (.t rfl)) rfl <| .p (opAssign (.t rfl)) rfl <| .nil ?_)
  refine EndT.thenN ?_
  refine CodeT.seq ?_
  refine CodeT.region (.n (opCallE (rest := [_, _, _, _]) (snew_spec (n := 16) (cap := 5) (by decide) (by decide) (by decide) (by decide)) Tryd.cb13 (.cons (.c _) (.cons (.c _) .nil)) (Perm.idx [0, 1, 2, 3] rfl rfl)) rfl <| fun g16 h16 => .p (opMove (.t rfl)) rfl <| .p (opExtract (.t rfl) rfl) rfl <| .p (opExtract (.t rfl) rfl) rfl <| .p (opAssign (.t rfl)) rfl <| .p (opAssign (.t rfl)) rfl <| .nil ?_)
  refine EndT.thenN ?_
  refine CodeT.seq ?_
  refine CodeT.region (.p (opMove (.t rfl)) rfl <| .p (opMove (.t rfl)) rfl <| .n (opCallE (rest := []) (pnew_spec (Y := g12) (sb := g16) (z := 16) (q := 5) (n := 1) (a0 := ⟨List.replicate 1000 0, 0, 0, []⟩) (arT_new h12 (by decide)) (by decide) (by decide) (by decide) (by decide) (by rw [h12, class16]; decide)) Tryd.cb14 (.cons (.t rfl) (.cons (.t rfl) (.cons (.c _) .nil))) (Perm.idx [0, 1, 2, 3, 4] rfl rfl)) rfl <| fun g22 h22 => .p (opMove (.t rfl)) rfl <| .p (opExtract (.t rfl) rfl) rfl <| .p (opExtract (.t rfl) rfl) rfl <| .p (opAssign (.t rfl)) rfl <| .p (opAssign (.t rfl)) rfl <| .nil ?_)
  refine EndT.thenN ?_
  obtain ⟨X22, a22⟩ := g22
  obtain ⟨hX, hX2, hX1, hlo, hhi, hAT, hInv⟩ := h22
  simp only at hX hX2 hX1 hlo hhi hAT hInv
  subst hX2
  refine CodeT.own (pag_new hInv) ?_
  refine CodeT.seq ?_
  refine CodeT.region (.p (opMove (.t rfl)) rfl <| .p (opBuildSlice (enc := encU8) [1] Tryd.underlying22 Tryd.cz5 rfl Tryd.zb5 rfl (.cons (.c _) .nil) rfl rfl rfl rfl rfl) rfl <| .n (opCallE (rest := []) (pwrite_spec (X := X22) (z := 16) (q := 5) (m := 0) (T := cleanP) (C := zeroC 16) (mem := 0) (page := 7) (at_ := 3) (ys := [1]) (R := noR) (by decide) (by decide) (noR_ok _)) Tryd.cb15 (.cons (.t rfl) (.cons (.c _) (.cons (.c _) (.cons (.c _) (.cons (.t rfl) .nil))))) (Perm.idx [0] rfl rfl)) rfl <| fun g27 h27 => .p (opAssign (.t rfl)) rfl <| .nil ?_)
  refine EndT.thenN ?_
  refine CodeT.seq ?_
  refine CodeT.region (.p (opMove (.t rfl)) rfl <| .p (opBuildSlice (enc := encU8) [2] Tryd.underlying22 Tryd.cz5 rfl Tryd.zb5 rfl (.cons (.c _) .nil) rfl rfl rfl rfl rfl) rfl <| .n (opCallE (rest := []) (pwrite1_spec (X := X22) (z := 16) (q := 5) (m := 1) (T := fun _ => True) (mem := 1) (page := 9) (at_ := 0) (ys := [2]) (R := noR) (by decide) (by decide) (noR_ok _) hX1 (fun h => absurd (h 2 (by simp)) (by decide)) (by decide)) Tryd.cb15 (.cons (.t rfl) (.cons (.c _) (.cons (.c _) (.cons (.c _) (.cons (.t rfl) .nil))))) (Perm.idx [0] rfl rfl)) rfl <| fun g30 h30 => .p (opAssign (.t rfl)) rfl <| .nil ?_)
  refine EndT.thenN ?_
  refine CodeT.seq ?_
  refine CodeT.region (.p (opMove (.t rfl)) rfl <| .n (opCallE (rest := []) (pread1_spec (X := X22) (z := 16) (q := 5) (m := 2) (C := writeG 16 (writeG 16 (zeroC 16) (0, 7) 3 [1]) (1, 9) 0 [2]) (mem := 0) (page := 7) (at_ := 2) (n := 3) (k0 := (1, 9)) hX1 (by decide) (fun h => absurd (h 1 (by decide)) (by decide)) (by decide) (R := noR) (noR_ok _)) Tryd.cb35 (.cons (.t rfl) (.cons (.c _) (.cons (.c _) (.cons (.c _) (.cons (.c _) .nil))))) (Perm.idx [0] rfl rfl)) rfl <| fun g33 h33 => .p (opMove (.t rfl)) rfl <| .p (opExtract (.t rfl) rfl) rfl <| .p (opExtract (.t rfl) rfl) rfl <| .p (opAssign (.t rfl)) rfl <| .p (opAssign (.t rfl)) rfl <| .nil ?_)
  refine EndT.thenN ?_
  have hrd : readG 16 (writeG 16 (writeG 16 (zeroC 16) (0, 7) 3 [1]) (1, 9) 0 [2]) (0, 7) 2 3 = [0, 1, 0] := by decide
  refine CodeT.seq ?_
  refine CodeT.region (.p (opMove (.t rfl)) rfl <| .p (opEql (.t rfl) (.c _)) rfl <| .p (opMove (.t rfl)) rfl <| .g (OpG.gT rfl rfl rfl rfl (fun hg => opMove (.t rfl))) rfl rfl <| .g (OpG.gT rfl rfl rfl rfl (fun hg => opEql (.when (.t rfl) hg) (.c _))) rfl rfl <| .p ((opAnd (.t rfl) (.t rfl)).le (VLe.prop (q := True) (by decide))) rfl <| .p (opMove (.t rfl)) rfl <| .g (OpG.gT rfl rfl rfl rfl (fun hg => opMove (.t rfl))) rfl rfl <| .g (OpG.gT rfl rfl rfl rfl (fun hg => opEql (.when (.t rfl) hg) (.c _))) rfl rfl <| .p (opAnd (.t rfl) (.t rfl)) rfl <| .p (opMove (.t rfl)) rfl <| .g (OpG.gT rfl rfl rfl rfl (fun hg => opMove (.t rfl))) rfl rfl <| .g (OpG.gT rfl rfl rfl rfl (fun hg => opEql (.when (.t rfl) hg) (.c _))) rfl rfl <| .p (opAnd (.t rfl) (.t rfl)) rfl <| .p (opMove (.t rfl)) rfl <| .g (OpG.gT rfl rfl rfl rfl (fun hg => opMove (.t rfl))) rfl rfl <| .g (OpG.gT rfl rfl rfl rfl (fun hg => opBytesStr Tryd.underlying22 Tryd.underlying5 Tryd.underlying9 (.when (.t rfl) hg))) rfl rfl <| .g (OpG.gT rfl rfl rfl rfl (fun hg => opEqlS (.when (.t rfl) hg) (.s [0, 1, 0] rfl rfl))) rfl rfl <| .p (opAnd (.t rfl) (.t rfl)) rfl <| .p (opMove (.t rfl)) rfl <| .g (OpG.gT rfl rfl rfl rfl (fun hg => opMove (.t rfl))) rfl rfl <| .egT rfl rfl rfl rfl (fun hg => ((opCallE (rest := []) (pused_spec (X := X22) (T := cleanRes) (C := writeG 16 (writeG 16 (zeroC 16) (0, 7) 3 [1]) (1, 9) 0 [2]) (ks := [(0, 7), (1, 9)]) (fun p h => h.1) (by decide) awake_keys (R := noR) (noR_ok _)) Tryd.cb17 (.cons (.when (.t rfl) hg) .nil) (Perm.idx [0] rfl rfl)).same (fun _ _ => OLe.refl _) (fun _ _ => VLe.refl _)).same (fun _ _ => OLe.refl _) (fun _ _ => VLe.refl _)) rfl rfl <| .g (OpG.gT rfl rfl rfl rfl (fun hg => opEql (.when (.t rfl) hg) (.c _))) rfl rfl <| .p (opAnd (.t rfl) (.t rfl)) rfl <| .p (opMove (.t rfl)) rfl <| .g (OpG.gT rfl rfl rfl rfl (fun hg => opMove (.t rfl))) rfl rfl <| .egT rfl rfl rfl rfl (fun hg => ((opCallE (rest := []) (president1_spec (X := X22) (T := cleanRes) (R := noR) (noR_ok _) hX1 (fun p h => h.2)) Tryd.cb37 (.cons (.when (.t rfl) hg) .nil) (Perm.idx [0] rfl rfl)).same (fun _ _ => OLe.refl _) (fun _ _ => VLe.refl _)).same (fun _ _ => OLe.refl _) (fun _ _ => VLe.refl _)) rfl rfl <| .g (OpG.gT rfl rfl rfl rfl (fun hg => opEql (.when (.t rfl) hg) (.c _))) rfl rfl <| .p (opAnd (.t rfl) (.t rfl)) rfl <| .p (opAssign (.t rfl)) rfl <| .nil ?_)
  refine EndT.thenN ?_
  refine CodeT.ret (Post.retP rfl rfl ?_)
  exact VLe.prop (by rw [hrd]; decide)

end Go.Proofs.YtiicgelmdmhajaaDoor
