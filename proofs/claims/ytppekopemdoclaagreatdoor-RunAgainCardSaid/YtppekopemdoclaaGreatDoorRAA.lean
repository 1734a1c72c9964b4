/-
  Parts of the proof.
-/
import Derived.ProofKit
import GoSem.ClaimGoes
set_option linter.all false
set_option maxRecDepth 1000000
set_option maxHeartbeats 4000000
section
namespace Go.Hl
open Go
section
variable {P:Program} {S:List (List Nat)} {f:FuncId} {L:List FuncId}
theorem Un(h:P.funcs.any Func.goes=false)(f:FuncId):P.goes f=false:=by
 have h2:∀g:Nat,(P.funcs[g]?).any Func.goes=false:=λg=>by
  cases hg:P.funcs[g]? with
  |none=>rfl
  |some fn=>
   have hm:=Array.mem_of_getElem? hg;cases hb:fn.goes with
   |false=>simp[hb]
   |true=>rw[Array.any_eq_false'] at h;exact absurd hb (h fn hm)
 unfold Program.goes;rw[h,Bool.and_false,Bool.or_false];exact List.any_eq_false.2 λg _=>by rw[h2 g];exact Bool.false_ne_true
theorem NR{c:OpenClaim}(hs:c.start= .entering)(h:P.funcs.any Func.goes=false):false=c.goesBy P:=by
 unfold OpenClaim.goesBy Program.goesAt Program.goesFrom;rw[hs];cases P.funcNamed c.func with
 |none=>rfl
 |some f=>show false=(P.goes f||false);rw[Un h];rfl
end
end Go.Hl
end
