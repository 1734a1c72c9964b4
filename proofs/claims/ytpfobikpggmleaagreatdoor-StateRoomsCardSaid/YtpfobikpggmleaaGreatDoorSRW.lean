/-
  What the statement's proof leans on, several texts in one (packed by a program).
-/
import Derived.Test.YtpfobikpggmleaaGreatDoorSRV
set_option linter.all false
set_option maxRecDepth 1000000
set_option maxHeartbeats 4000000
section
namespace Go.Proofs.YtpfobikpggmleaaGreatDoor.stateRoomsLaw
open Go.ChangeShapes Go.WideShapes Go.ChangeAt Go.RowKit Go.Hl
open Go.ChangeMaps (open_string shut_string)
theorem kf0:(Rows.stateRoomsRow.wf (OpenSpec.ofChange Rows.stateRoomsSpec))=true:=by kernel_rfl
theorem kf1:(laidOutB Tryz.prog)=true:=by kernel_rfl
theorem kf2:(mapsRowed Tryz.prog)=true:=by kernel_rfl
theorem kf3:(Tryz.f3.params.all (Tryz.prog.readableRec ·))=true:=by kernel_rfl
theorem kf4:(namedTie Tryz.prog Rows.stateRoomsRow.named Rows.stateRoomsSpec.vars)=true:=by kernel_rfl
theorem kf5:(Rows.stateRoomsRow.stops==[])=true:=by kernel_rfl
theorem kf6:(Tryz.prog.stops==[])=true:=by kernel_rfl
theorem kf7:(Rows.stateRoomsRow.knobs==[])=true:=by kernel_rfl
theorem kf8:(Tryz.prog.stopKnobs==[])=true:=by kernel_rfl
theorem kf9:(Rows.stateRoomsRow.inPlace==Tryz.prog.inPlace 3)=true:=by kernel_rfl
theorem ZG:(Rows.stateRoomsRow.unfollowed==Tryz.prog.unfollowed 3)=true:=by kernel_rfl
theorem ZH:(Rows.stateRoomsRow.recurses==Tryz.prog.recurses 3)=true:=by kernel_rfl
theorem ZI:(Rows.stateRoomsRow.named==Tryz.prog.varsNamed 3)=true:=by kernel_rfl
theorem ZJ:(Rows.stateRoomsRow.maps==(Tryz.f3.params.toList++Rows.stateRoomsSpec.plain.varTypes Tryz.prog).any (Tryz.prog.mapsRec ·))=true:=by kernel_rfl
theorem ZK:(Rows.stateRoomsRow.ifaces==(Tryz.f3.params.toList++Rows.stateRoomsSpec.plain.varTypes Tryz.prog).any (Tryz.prog.ifacesRec ·))=true:=by kernel_rfl
theorem ZL:(Rows.stateRoomsRow.mapsOut==Tryz.prog.mapsAmong Tryz.f3.resultTypes.toList)=true:=by kernel_rfl
theorem ZM:(Rows.stateRoomsRow.loops==(Tryz.f3.params.toList++Rows.stateRoomsSpec.plain.varTypes Tryz.prog).any (Tryz.prog.loopsFrom ·))=true:=by kernel_rfl
theorem ZN:(Rows.stateRoomsRow.wideKeys==(Tryz.f3.params.toList++Rows.stateRoomsSpec.plain.varTypes Tryz.prog++Tryz.f3.resultTypes.toList).any (Tryz.prog.wideKeysFrom ·))=true:=by kernel_rfl
theorem ZO:(Rows.stateRoomsSpec.vars.all (Tryz.prog.varReadable ·))=true:=by kernel_rfl
theorem ZP:(Tryz.f3.resultTypes.all (fun t=>Tryz.prog.readableRec t && decide (t<Tryz.prog.types.size)))=true:=by kernel_rfl
theorem ZQ:(Rows.stateRoomsRow.ifacesOut==Tryz.f3.resultTypes.toList.any (Tryz.prog.ifacesRec ·))=true:=by kernel_rfl
theorem ZR:(Rows.stateRoomsRow.loopsOut==Tryz.f3.resultTypes.toList.any (Tryz.prog.loopsFrom ·))=true:=by kernel_rfl
theorem ZS:(Rows.stateRoomsRow.plainKeys==Tryz.prog.plainKeys)=true:=by kernel_rfl
theorem ZT:(Rows.stateRoomsRow.shortTexts.isNone)=true:=by kernel_rfl
theorem ZU:(Tryz.prog.stopsHeard)=true:=by kernel_rfl
theorem ZV:(Tryz.prog.mayEnter)=true:=by kernel_rfl
theorem ZW:(Rows.stateRoomsRow.lifted==Tryz.prog.liftsFinal)=true:=by kernel_rfl
theorem ZX:(Tryz.prog.make==some Rows.stateRoomsRow.make)=true:=by kernel_rfl
theorem ZY:(Rows.stateRoomsRow.kinds==(if Rows.stateRoomsRow.domain.isEmpty then [] else Tryz.f3.params.toList.map fun t=>match Tryz.prog.underlying t with|some (.int k)=>some k|_=>none))=true:=by kernel_rfl
theorem ZZ:(Rows.stateRoomsRow.pinned==Rows.stateRoomsRow.pinnedBy)=true:=by kernel_rfl
theorem Z0:(Rows.stateRoomsRow.veiled==(Tryz.f3.params.toList++Rows.stateRoomsSpec.plain.varTypes Tryz.prog++Tryz.f3.resultTypes.toList).any (Tryz.prog.veiledRec ·))=true:=by kernel_rfl
theorem aa0:(Rows.stateRoomsRow.veiledFits Tryz.prog Tryz.f3.params.toList (Tryz.f3.params.toList++Rows.stateRoomsSpec.plain.varTypes Tryz.prog))=true:=by kernel_rfl
theorem ji:∀{a b:Bool},a=true→b=true→(a && b)=true
 |_,_,rfl,rfl=>rfl
theorem closed:joinedFacts Tryz.prog 3 Tryz.f3 Rows.stateRoomsSpec Rows.stateRoomsRow=true:=(ji (ji (ji (ji (ji (ji (ji (ji (ji (ji (ji (ji (ji (ji (ji (ji (ji (ji (ji (ji (ji (ji (ji (ji (ji (ji (ji (ji (ji (ji (ji kf0 kf1) kf2) kf3) kf4) kf5) kf6) kf7) kf8) kf9) ZG) ZH) ZI) ZJ) ZK) ZL) ZM) ZN) ZO) ZP) ZQ) ZR) ZS) ZT) ZU) ZV) ZW) ZX) ZY) ZZ) Z0) aa0)
theorem over:Rows.stateRoomsRow.holds Tryz.pinned (OpenSpec.ofChange Rows.stateRoomsSpec):=
 OpenClaim.holds_of_wide 3 Tryz.f3 rfl rfl rfl rfl rfl rfl rfl ⟨rfl,rfl,rfl,rfl,rfl⟩ rfl rfl rfl rfl rfl (by kernel_rfl) Tryz.func3 closed
  (of_decide_eq_true (by kernel_rfl)) (by unfold Func.isWrapper;first|(rw [if_pos (by decide+kernel)];kernel_rfl)|(rw [if_neg (by decide+kernel)];exact ⟨rfl,rfl⟩))
  (fun os started H enc _=>lifted os started H enc)
end Go.Proofs.YtpfobikpggmleaaGreatDoor.stateRoomsLaw
end
