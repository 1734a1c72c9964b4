/-
  What the statement's proof leans on, several texts in one (packed by a program).
-/
import Derived.Test.YtpfobikpggmleaaGreatDoorSBY
set_option linter.all false
set_option maxRecDepth 1000000
set_option maxHeartbeats 4000000
section
namespace Go.Proofs.YtpfobikpggmleaaGreatDoor.stateBeginsLaw
open Go.ChangeShapes Go.WideShapes Go.ChangeAt Go.RowKit Go.Hl
open Go.ChangeMaps (open_string shut_string)
theorem kf0:(Rows.stateBeginsRow.wf (OpenSpec.ofChange Rows.stateBeginsSpec))=true:=by kernel_rfl
theorem kf1:(laidOutB Tryz.prog)=true:=by kernel_rfl
theorem kf2:(mapsRowed Tryz.prog)=true:=by kernel_rfl
theorem kf3:(Tryz.f6.params.all (Tryz.prog.readableRec ·))=true:=by kernel_rfl
theorem kf4:(namedTie Tryz.prog Rows.stateBeginsRow.named Rows.stateBeginsSpec.vars)=true:=by kernel_rfl
theorem kf5:(Rows.stateBeginsRow.stops==[])=true:=by kernel_rfl
theorem kf6:(Tryz.prog.stops==[])=true:=by kernel_rfl
theorem kf7:(Rows.stateBeginsRow.knobs==[])=true:=by kernel_rfl
theorem kf8:(Tryz.prog.stopKnobs==[])=true:=by kernel_rfl
theorem kf9:(Rows.stateBeginsRow.inPlace==Tryz.prog.inPlace 6)=true:=by kernel_rfl
theorem at1:(Rows.stateBeginsRow.unfollowed==Tryz.prog.unfollowed 6)=true:=by kernel_rfl
theorem at3:(Rows.stateBeginsRow.recurses==Tryz.prog.recurses 6)=true:=by kernel_rfl
theorem at4:(Rows.stateBeginsRow.named==Tryz.prog.varsNamed 6)=true:=by kernel_rfl
theorem at5:(Rows.stateBeginsRow.maps==(Tryz.f6.params.toList++Rows.stateBeginsSpec.plain.varTypes Tryz.prog).any (Tryz.prog.mapsRec ·))=true:=by kernel_rfl
theorem at6:(Rows.stateBeginsRow.ifaces==(Tryz.f6.params.toList++Rows.stateBeginsSpec.plain.varTypes Tryz.prog).any (Tryz.prog.ifacesRec ·))=true:=by kernel_rfl
theorem at7:(Rows.stateBeginsRow.mapsOut==Tryz.prog.mapsAmong Tryz.f6.resultTypes.toList)=true:=by kernel_rfl
theorem au0:(Rows.stateBeginsRow.loops==(Tryz.f6.params.toList++Rows.stateBeginsSpec.plain.varTypes Tryz.prog).any (Tryz.prog.loopsFrom ·))=true:=by kernel_rfl
theorem au1:(Rows.stateBeginsRow.wideKeys==(Tryz.f6.params.toList++Rows.stateBeginsSpec.plain.varTypes Tryz.prog++Tryz.f6.resultTypes.toList).any (Tryz.prog.wideKeysFrom ·))=true:=by kernel_rfl
theorem au2:(Rows.stateBeginsSpec.vars.all (Tryz.prog.varReadable ·))=true:=by kernel_rfl
theorem au3:(Tryz.f6.resultTypes.all (fun t=>Tryz.prog.readableRec t && decide (t<Tryz.prog.types.size)))=true:=by kernel_rfl
theorem au4:(Rows.stateBeginsRow.ifacesOut==Tryz.f6.resultTypes.toList.any (Tryz.prog.ifacesRec ·))=true:=by kernel_rfl
theorem au5:(Rows.stateBeginsRow.loopsOut==Tryz.f6.resultTypes.toList.any (Tryz.prog.loopsFrom ·))=true:=by kernel_rfl
theorem au6:(Rows.stateBeginsRow.plainKeys==Tryz.prog.plainKeys)=true:=by kernel_rfl
theorem au7:(Rows.stateBeginsRow.shortTexts.isNone)=true:=by kernel_rfl
theorem au8:(Tryz.prog.stopsHeard)=true:=by kernel_rfl
theorem au9:(Tryz.prog.mayEnter)=true:=by kernel_rfl
theorem av0:(Rows.stateBeginsRow.lifted==Tryz.prog.liftsFinal)=true:=by kernel_rfl
theorem av1:(Tryz.prog.make==some Rows.stateBeginsRow.make)=true:=by kernel_rfl
theorem av2:(Rows.stateBeginsRow.kinds==(if Rows.stateBeginsRow.domain.isEmpty then[] else Tryz.f6.params.toList.map fun t=>match Tryz.prog.underlying t with|some (.int k)=>some k|_=>none))=true:=by kernel_rfl
theorem av3:(Rows.stateBeginsRow.pinned==Rows.stateBeginsRow.pinnedBy)=true:=by kernel_rfl
theorem av4:(Rows.stateBeginsRow.veiled==(Tryz.f6.params.toList++Rows.stateBeginsSpec.plain.varTypes Tryz.prog++Tryz.f6.resultTypes.toList).any (Tryz.prog.veiledRec ·))=true:=by kernel_rfl
theorem av5:(Rows.stateBeginsRow.veiledFits Tryz.prog Tryz.f6.params.toList (Tryz.f6.params.toList++Rows.stateBeginsSpec.plain.varTypes Tryz.prog))=true:=by kernel_rfl
theorem ki:∀{a b:Bool},a=true→b=true→(a && b)=true
 |_,_,rfl,rfl=>rfl
theorem closed:joinedFacts Tryz.prog 6 Tryz.f6 Rows.stateBeginsSpec Rows.stateBeginsRow=true:=(ki (ki (ki (ki (ki (ki (ki (ki (ki (ki (ki (ki (ki (ki (ki (ki (ki (ki (ki (ki (ki (ki (ki (ki (ki (ki (ki (ki (ki (ki (ki kf0 kf1) kf2) kf3) kf4) kf5) kf6) kf7) kf8) kf9) at1) at3) at4) at5) at6) at7) au0) au1) au2) au3) au4) au5) au6) au7) au8) au9) av0) av1) av2) av3) av4) av5)
theorem over:Rows.stateBeginsRow.holds Tryz.pinned (OpenSpec.ofChange Rows.stateBeginsSpec):=
 OpenClaim.holds_of_wide 6 Tryz.f6 rfl rfl rfl rfl rfl rfl rfl ⟨rfl,rfl,rfl,rfl,rfl⟩ rfl rfl rfl rfl rfl (by kernel_rfl) Tryz.func6 closed
  (of_decide_eq_true (by kernel_rfl)) (by unfold Func.isWrapper;first|(rw[if_pos (by decide+kernel)];kernel_rfl)|(rw[if_neg (by decide+kernel)];exact⟨rfl,rfl⟩))
  (fun os started H enc _=>lifted os started H enc)
end Go.Proofs.YtpfobikpggmleaaGreatDoor.stateBeginsLaw
end
