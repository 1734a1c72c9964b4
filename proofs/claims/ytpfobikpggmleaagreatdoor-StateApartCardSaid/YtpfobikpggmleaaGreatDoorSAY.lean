/-
  What the statement's proof leans on, several texts in one (packed by a program).
-/
import Derived.Test.YtpfobikpggmleaaGreatDoorSAX
set_option linter.all false
set_option maxRecDepth 1000000
set_option maxHeartbeats 4000000
section
namespace Go.Proofs.YtpfobikpggmleaaGreatDoor.stateApartLaw
open Go.ChangeShapes Go.WideShapes Go.ChangeAt Go.RowKit Go.Hl
open Go.ChangeMaps (open_string shut_string)
theorem kf0:(Rows.stateApartRow.wf (OpenSpec.ofChange Rows.stateApartSpec))=true:=by kernel_rfl
theorem kf1:(laidOutB Tryz.prog)=true:=by kernel_rfl
theorem kf2:(mapsRowed Tryz.prog)=true:=by kernel_rfl
theorem kf3:(Tryz.f5.params.all (Tryz.prog.readableRec ·))=true:=by kernel_rfl
theorem kf4:(namedTie Tryz.prog Rows.stateApartRow.named Rows.stateApartSpec.vars)=true:=by kernel_rfl
theorem kf5:(Rows.stateApartRow.stops==[])=true:=by kernel_rfl
theorem kf6:(Tryz.prog.stops==[])=true:=by kernel_rfl
theorem kf7:(Rows.stateApartRow.knobs==[])=true:=by kernel_rfl
theorem kf8:(Tryz.prog.stopKnobs==[])=true:=by kernel_rfl
theorem kf9:(Rows.stateApartRow.inPlace==Tryz.prog.inPlace 5)=true:=by kernel_rfl
theorem ao9:(Rows.stateApartRow.unfollowed==Tryz.prog.unfollowed 5)=true:=by kernel_rfl
theorem ap0:(Rows.stateApartRow.recurses==Tryz.prog.recurses 5)=true:=by kernel_rfl
theorem ap1:(Rows.stateApartRow.named==Tryz.prog.varsNamed 5)=true:=by kernel_rfl
theorem ap2:(Rows.stateApartRow.maps==(Tryz.f5.params.toList++Rows.stateApartSpec.plain.varTypes Tryz.prog).any (Tryz.prog.mapsRec ·))=true:=by kernel_rfl
theorem ap3:(Rows.stateApartRow.ifaces==(Tryz.f5.params.toList++Rows.stateApartSpec.plain.varTypes Tryz.prog).any (Tryz.prog.ifacesRec ·))=true:=by kernel_rfl
theorem ap4:(Rows.stateApartRow.mapsOut==Tryz.prog.mapsAmong Tryz.f5.resultTypes.toList)=true:=by kernel_rfl
theorem ap5:(Rows.stateApartRow.loops==(Tryz.f5.params.toList++Rows.stateApartSpec.plain.varTypes Tryz.prog).any (Tryz.prog.loopsFrom ·))=true:=by kernel_rfl
theorem ap6:(Rows.stateApartRow.wideKeys==(Tryz.f5.params.toList++Rows.stateApartSpec.plain.varTypes Tryz.prog++Tryz.f5.resultTypes.toList).any (Tryz.prog.wideKeysFrom ·))=true:=by kernel_rfl
theorem ap7:(Rows.stateApartSpec.vars.all (Tryz.prog.varReadable ·))=true:=by kernel_rfl
theorem ap8:(Tryz.f5.resultTypes.all (fun t=>Tryz.prog.readableRec t && decide (t<Tryz.prog.types.size)))=true:=by kernel_rfl
theorem ap9:(Rows.stateApartRow.ifacesOut==Tryz.f5.resultTypes.toList.any (Tryz.prog.ifacesRec ·))=true:=by kernel_rfl
theorem aq0:(Rows.stateApartRow.loopsOut==Tryz.f5.resultTypes.toList.any (Tryz.prog.loopsFrom ·))=true:=by kernel_rfl
theorem aq1:(Rows.stateApartRow.plainKeys==Tryz.prog.plainKeys)=true:=by kernel_rfl
theorem aq2:(Rows.stateApartRow.shortTexts.isNone)=true:=by kernel_rfl
theorem aq3:(Tryz.prog.stopsHeard)=true:=by kernel_rfl
theorem aq4:(Tryz.prog.mayEnter)=true:=by kernel_rfl
theorem aq5:(Rows.stateApartRow.lifted==Tryz.prog.liftsFinal)=true:=by kernel_rfl
theorem aq6:(Tryz.prog.make==some Rows.stateApartRow.make)=true:=by kernel_rfl
theorem aq7:(Rows.stateApartRow.kinds==(if Rows.stateApartRow.domain.isEmpty then [] else Tryz.f5.params.toList.map fun t=>match Tryz.prog.underlying t with|some (.int k)=>some k|_=>none))=true:=by kernel_rfl
theorem aq8:(Rows.stateApartRow.pinned==Rows.stateApartRow.pinnedBy)=true:=by kernel_rfl
theorem aq9:(Rows.stateApartRow.veiled==(Tryz.f5.params.toList++Rows.stateApartSpec.plain.varTypes Tryz.prog++Tryz.f5.resultTypes.toList).any (Tryz.prog.veiledRec ·))=true:=by kernel_rfl
theorem ar0:(Rows.stateApartRow.veiledFits Tryz.prog Tryz.f5.params.toList (Tryz.f5.params.toList++Rows.stateApartSpec.plain.varTypes Tryz.prog))=true:=by kernel_rfl
theorem j8:∀{a b:Bool},a=true→b=true→(a && b)=true
 |_,_,rfl,rfl=>rfl
theorem closed:joinedFacts Tryz.prog 5 Tryz.f5 Rows.stateApartSpec Rows.stateApartRow=true:=(j8 (j8 (j8 (j8 (j8 (j8 (j8 (j8 (j8 (j8 (j8 (j8 (j8 (j8 (j8 (j8 (j8 (j8 (j8 (j8 (j8 (j8 (j8 (j8 (j8 (j8 (j8 (j8 (j8 (j8 (j8 kf0 kf1) kf2) kf3) kf4) kf5) kf6) kf7) kf8) kf9) ao9) ap0) ap1) ap2) ap3) ap4) ap5) ap6) ap7) ap8) ap9) aq0) aq1) aq2) aq3) aq4) aq5) aq6) aq7) aq8) aq9) ar0)
theorem over:Rows.stateApartRow.holds Tryz.pinned (OpenSpec.ofChange Rows.stateApartSpec):=
 OpenClaim.holds_of_wide 5 Tryz.f5 rfl rfl rfl rfl rfl rfl rfl ⟨rfl,rfl,rfl,rfl,rfl⟩ rfl rfl rfl rfl rfl (by kernel_rfl) Tryz.func5 closed
  (of_decide_eq_true (by kernel_rfl)) (by unfold Func.isWrapper;first|(rw [if_pos (by decide+kernel)];kernel_rfl)|(rw [if_neg (by decide+kernel)];exact ⟨rfl,rfl⟩))
  (fun os started H enc _=>lifted os started H enc)
end Go.Proofs.YtpfobikpggmleaaGreatDoor.stateApartLaw
end
