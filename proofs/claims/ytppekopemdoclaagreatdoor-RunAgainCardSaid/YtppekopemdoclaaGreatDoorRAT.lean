/-
  Parts of the proof.
-/
import Derived.Test.YtppekopemdoclaaGreatDoorRAS
set_option linter.all false
set_option maxRecDepth 1000000
set_option maxHeartbeats 4000000
section
namespace Go.Proofs.YtppekopemdoclaaGreatDoor.runAgainLaw
open Go.ChangeShapes Go.WideShapes Go.ChangeAt Go.RowKit Go.Hl
open Go.ChangeMaps (open_string shut_string)
theorem kf0:(Rows.runAgainRow.wf (OpenSpec.ofChange Rows.runAgainSpec))=true:=by kernel_rfl
theorem kf1:(laidOutB Wo)=true:=by kernel_rfl
theorem kf2:(mapsRowed Wo)=true:=by kernel_rfl
theorem kf3:(Tryz.f3.params.all (Tryz.prog.readableRec ·))=true:=by kernel_rfl
theorem kf4:(namedTie Wo Rows.runAgainRow.named Rows.runAgainSpec.vars)=true:=by kernel_rfl
theorem kf5:(Rows.runAgainRow.stops==[])=true:=by kernel_rfl
theorem kf6:(Tryz.prog.stops==[])=true:=by kernel_rfl
theorem kf7:(Rows.runAgainRow.knobs==[])=true:=by kernel_rfl
theorem kf8:(Tryz.prog.stopKnobs==[])=true:=by kernel_rfl
theorem kf9:(Rows.runAgainRow.inPlace==Tryz.prog.inPlace 3)=true:=by kernel_rfl
theorem aP2:(Rows.runAgainRow.unfollowed==Tryz.prog.unfollowed 3)=true:=by kernel_rfl
theorem aP3:(Rows.runAgainRow.recurses==Tryz.prog.recurses 3)=true:=by kernel_rfl
theorem aP4:(Rows.runAgainRow.named==Tryz.prog.varsNamed 3)=true:=by kernel_rfl
theorem aP5:(Rows.runAgainRow.maps==(Tryz.f3.params.toList++Rows.runAgainSpec.plain.varTypes Wo).any (Tryz.prog.mapsRec ·))=true:=by kernel_rfl
theorem aP6:(Rows.runAgainRow.ifaces==(Tryz.f3.params.toList++Rows.runAgainSpec.plain.varTypes Wo).any (Tryz.prog.ifacesRec ·))=true:=by kernel_rfl
theorem aP7:(Rows.runAgainRow.mapsOut==Tryz.prog.mapsAmong Tryz.f3.resultTypes.toList)=true:=by kernel_rfl
theorem aP8:(Rows.runAgainRow.loops==(Tryz.f3.params.toList++Rows.runAgainSpec.plain.varTypes Wo).any (Tryz.prog.loopsFrom ·))=true:=by kernel_rfl
theorem aP9:(Rows.runAgainRow.wideKeys==(Tryz.f3.params.toList++Rows.runAgainSpec.plain.varTypes Wo++Tryz.f3.resultTypes.toList).any (Tryz.prog.wideKeysFrom ·))=true:=by kernel_rfl
theorem aQ0:(Rows.runAgainSpec.vars.all (Tryz.prog.varReadable ·))=true:=by kernel_rfl
theorem aQ1:(Tryz.f3.resultTypes.all (λt=>Tryz.prog.readableRec t && decide (t<Tryz.prog.types.size)))=true:=by kernel_rfl
theorem aQ2:(Rows.runAgainRow.ifacesOut==Tryz.f3.resultTypes.toList.any (Tryz.prog.ifacesRec ·))=true:=by kernel_rfl
theorem aQ3:(Rows.runAgainRow.loopsOut==Tryz.f3.resultTypes.toList.any (Tryz.prog.loopsFrom ·))=true:=by kernel_rfl
theorem aQ4:(Rows.runAgainRow.plainKeys==Tryz.prog.plainKeys)=true:=by kernel_rfl
theorem aQ5:(Rows.runAgainRow.shortTexts.isNone)=true:=by kernel_rfl
theorem aQ6:(Tryz.prog.stopsHeard)=true:=by kernel_rfl
theorem aQ7:(Tryz.prog.mayEnter)=true:=by kernel_rfl
theorem aQ8:(Rows.runAgainRow.lifted==Tryz.prog.liftsFinal)=true:=by kernel_rfl
theorem aQ9:(Tryz.prog.make==some Rows.runAgainRow.make)=true:=by kernel_rfl
theorem aR0:(Rows.runAgainRow.kinds==(if Rows.runAgainRow.domain.isEmpty then[] else Tryz.f3.params.toList.map λt=>match Tryz.prog.underlying t with|some (.int k)=>some k|_=>none))=true:=by kernel_rfl
theorem aR1:(Rows.runAgainRow.pinned==Rows.runAgainRow.pinnedBy)=true:=by kernel_rfl
theorem aR2:(Rows.runAgainRow.veiled==(Tryz.f3.params.toList++Rows.runAgainSpec.plain.varTypes Wo++Tryz.f3.resultTypes.toList).any (Tryz.prog.veiledRec ·))=true:=by kernel_rfl
theorem aR3:(Rows.runAgainRow.veiledFits Wo Tryz.f3.params.toList (Tryz.f3.params.toList++Rows.runAgainSpec.plain.varTypes Wo))=true:=by kernel_rfl
theorem ld:∀{a b:Bool},a=true->b=true->(a && b)=true
 |_,_,rfl,rfl=>rfl
theorem closed:joinedFacts Wo 3 Tryz.f3 Rows.runAgainSpec Rows.runAgainRow=true:=(ld (ld (ld (ld (ld (ld (ld (ld (ld (ld (ld (ld (ld (ld (ld (ld (ld (ld (ld (ld (ld (ld (ld (ld (ld (ld (ld (ld (ld (ld (ld kf0 kf1) kf2) kf3) kf4) kf5) kf6) kf7) kf8) kf9) aP2) aP3) aP4) aP5) aP6) aP7) aP8) aP9) aQ0) aQ1) aQ2) aQ3) aQ4) aQ5) aQ6) aQ7) aQ8) aQ9) aR0) aR1) aR2) aR3)
theorem over:Rows.runAgainRow.holds Tryz.pinned (OpenSpec.ofChange Rows.runAgainSpec):=
 OpenClaim.holds_of_wide 3 Tryz.f3 rfl rfl rfl rfl rfl rfl rfl ⟨rfl,rfl,rfl,rfl,rfl⟩ rfl rfl rfl rfl rfl (by kernel_rfl) Tryz.func3 closed
  (of_decide_eq_true (by kernel_rfl)) (by unfold Func.isWrapper;first|(rw[if_pos (by decide+kernel)];kernel_rfl)|(rw[if_neg (by decide+kernel)];exact⟨rfl,rfl⟩))
  (λos started H enc _=>lifted os started H enc)
end Go.Proofs.YtppekopemdoclaaGreatDoor.runAgainLaw
end
