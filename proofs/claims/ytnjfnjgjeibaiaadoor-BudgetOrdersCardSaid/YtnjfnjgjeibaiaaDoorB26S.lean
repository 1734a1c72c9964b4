/-
  Walks, printed by a program (gen.py) out of what its author says of each function.
-/
import Derived.Test.YtnjfnjgjeibaiaaDoorB26T
namespace Go.Proofs.YtnjfnjgjeibaiaaDoor
open Go.Hl Go.RowKit
set_option linter.unusedVariables false
set_option maxRecDepth 100000

theorem awake26_spec  : FnE Tryd.prog 5 [] [varsH Tryd.prog 3 0 1] (γ := Unit) (fun _ => True) (fun _ => []) (fun _ => propV True) := by
  refine FnE.intro 16 Tryd.func5 rfl rfl rfl fun w0 S0 M => ?_
  have hex := okP_12345
  refine CodeT.seq ?_
  refine CodeT.region (.p (opAssign .cf) rfl <| .nil ?_)
  refine EndT.thenN ?_
  refine CodeT.seq ?_
  refine CodeT.region (.p (opCallVars (i := 0) (bparse_spec (s := [49, 32, 50, 32, 51, 32, 52, 32, 53]) (by decide)) Tryd.cb7 (.cons (.s [49, 32, 50, 32, 51, 32, 52, 32, 53] rfl rfl) .nil) rfl) rfl <| .p (opMove (.t rfl)) rfl <| .p ((opExtract (.t rfl) rfl).le ((show VLe (aggV (encNd (parseN [49, 32, 50, 32, 51, 32, 52, 32, 53]))) (aggV (encNd (⟨1, 2, 3, 4, 5⟩ : Nd))) from VLe.of_eq (by rw [(parse_pos hex.1).1, hex.2])))) rfl <| .p ((opExtract (.t rfl) rfl).le ((show VLe (iV (parseE [49, 32, 50, 32, 51, 32, 52, 32, 53])) (iV 0) from VLe.int (parse_pos hex.1).2))) rfl <| .n (opAlloc Tryd.zb23) rfl <| fun b1 _ => .s (opStoreOA (i := 0) Tryd.cz23 rfl (.t rfl) (.t rfl) rfl rfl rfl) <| .p (opAssign (.t rfl)) rfl <| .nil ?_)
  refine EndT.thenN ?_
  refine CodeT.share (t := 1) (i := 0) rfl rfl ?_
  refine CodeT.seq ?_
  refine CodeT.region (.p (opMove (.t rfl)) rfl <| .p (opEql (.t rfl) (.c _)) rfl <| .p (opMove (.t rfl)) rfl <| .g (OpG.gT rfl rfl rfl rfl (fun hg => OpP.le (opLoadA Tryd.ag23 Tryd.cz23 rfl (.t rfl) rfl) (VLe.refl (aggV (encNd (⟨1, 2, 3, 4, 5⟩ : Nd)))))) rfl rfl <| .g (OpG.gT rfl rfl rfl rfl (fun hg => OpP.le (opBuild Tryd.pl23 Tryd.zb23 (.cons (.c _) (.cons (.c _) (.cons (.c _) (.cons (.c _) (.cons (.c _) .nil))))) rfl) (VLe.refl (aggV (encNd (⟨5, 4, 3, 2, 1⟩ : Nd)))))) rfl rfl <| .g (OpG.gT rfl rfl rfl rfl (fun hg => opCall (bmax_spec (x := (⟨1, 2, 3, 4, 5⟩ : Nd)) (y := (⟨5, 4, 3, 2, 1⟩ : Nd))) Tryd.cb10 (.cons (.when (.t rfl) hg) (.cons (.when (.t rfl) hg) .nil)))) rfl rfl <| .g (OpG.gT rfl rfl rfl rfl (fun hg => opBuild Tryd.pl23 Tryd.zb23 (.cons (.c _) (.cons (.c _) (.cons (.c _) (.cons (.c _) (.cons (.c _) .nil))))) rfl)) rfl rfl <| .g (OpG.gT rfl rfl rfl rfl (fun hg => opEqlA Tryd.underlying23 Tryd.sh23 Tryd.eg23 (.when (.t rfl) hg) (.when (.t rfl) hg) (.cons (by decide) rfl rfl (.int Tryd.underlying3) (.cons (by decide) rfl rfl (.int Tryd.underlying3) (.cons (by decide) rfl rfl (.int Tryd.underlying3) (.cons (by decide) rfl rfl (.int Tryd.underlying3) (.cons (by decide) rfl rfl (.int Tryd.underlying3) .nil))))))) rfl rfl <| .p (opAnd (.t rfl) (.t rfl)) rfl <| .p (opAssign (.t rfl)) rfl <| .nil ?_)
  refine EndT.thenN ?_
  refine CodeT.ret (Post.retP rfl rfl ?_)
  exact VLe.prop (by simp [Nd.mx]; try decide)

end Go.Proofs.YtnjfnjgjeibaiaaDoor
