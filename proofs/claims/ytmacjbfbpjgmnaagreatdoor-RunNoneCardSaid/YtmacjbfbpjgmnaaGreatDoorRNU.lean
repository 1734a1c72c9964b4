/-
  What the statement's proof leans on, several texts in one (packed by a program).
-/
import Derived.Test.YtmacjbfbpjgmnaaGreatDoorRNT
set_option linter.all false
set_option maxRecDepth 1000000
set_option maxHeartbeats 4000000
section
namespace Go.Proofs.YtmacjbfbpjgmnaaGreatDoor.runNoneLaw
open Go.ChangeShapes Go.WideShapes Go.ChangeAt Go.RowKit Go.Hl
open Go.ChangeMaps (open_string shut_string)
theorem kf0:(Rows.runNoneRow.wf (OpenSpec.ofChange Rows.runNoneSpec))=true:=by kernel_rfl
theorem kf1:(laidOutB Tryz.prog)=true:=by kernel_rfl
theorem kf2:(mapsRowed Tryz.prog)=true:=by kernel_rfl
theorem kf3:(Tryz.f3.params.all (Tryz.prog.readableRec ·))=true:=by kernel_rfl
theorem kf4:(namedTie Tryz.prog Rows.runNoneRow.named Rows.runNoneSpec.vars)=true:=by kernel_rfl
theorem kf5:(Rows.runNoneRow.stops==[])=true:=by kernel_rfl
theorem kf6:(Tryz.prog.stops==[])=true:=by kernel_rfl
theorem kf7:(Rows.runNoneRow.knobs==[])=true:=by kernel_rfl
theorem kf8:(Tryz.prog.stopKnobs==[])=true:=by kernel_rfl
theorem kf9:(Rows.runNoneRow.inPlace==Tryz.prog.inPlace 3)=true:=by kernel_rfl
theorem ZH:(Rows.runNoneRow.unfollowed==Tryz.prog.unfollowed 3)=true:=by kernel_rfl
theorem ZI:(Rows.runNoneRow.recurses==Tryz.prog.recurses 3)=true:=by kernel_rfl
theorem ZJ:(Rows.runNoneRow.named==Tryz.prog.varsNamed 3)=true:=by kernel_rfl
theorem ZK:(Rows.runNoneRow.maps==(Tryz.f3.params.toList++Rows.runNoneSpec.plain.varTypes Tryz.prog).any (Tryz.prog.mapsRec ·))=true:=by kernel_rfl
theorem ZL:(Rows.runNoneRow.ifaces==(Tryz.f3.params.toList++Rows.runNoneSpec.plain.varTypes Tryz.prog).any (Tryz.prog.ifacesRec ·))=true:=by kernel_rfl
theorem ZM:(Rows.runNoneRow.mapsOut==Tryz.prog.mapsAmong Tryz.f3.resultTypes.toList)=true:=by kernel_rfl
theorem ZN:(Rows.runNoneRow.loops==(Tryz.f3.params.toList++Rows.runNoneSpec.plain.varTypes Tryz.prog).any (Tryz.prog.loopsFrom ·))=true:=by kernel_rfl
theorem ZO:(Rows.runNoneRow.wideKeys==(Tryz.f3.params.toList++Rows.runNoneSpec.plain.varTypes Tryz.prog++Tryz.f3.resultTypes.toList).any (Tryz.prog.wideKeysFrom ·))=true:=by kernel_rfl
theorem ZP:(Rows.runNoneSpec.vars.all (Tryz.prog.varReadable ·))=true:=by kernel_rfl
theorem ZQ:(Tryz.f3.resultTypes.all (fun t=>Tryz.prog.readableRec t && decide (t<Tryz.prog.types.size)))=true:=by kernel_rfl
theorem ZR:(Rows.runNoneRow.ifacesOut==Tryz.f3.resultTypes.toList.any (Tryz.prog.ifacesRec ·))=true:=by kernel_rfl
theorem ZS:(Rows.runNoneRow.loopsOut==Tryz.f3.resultTypes.toList.any (Tryz.prog.loopsFrom ·))=true:=by kernel_rfl
theorem ZT:(Rows.runNoneRow.plainKeys==Tryz.prog.plainKeys)=true:=by kernel_rfl
theorem ZU:(Rows.runNoneRow.shortTexts.isNone)=true:=by kernel_rfl
theorem ZV:(Tryz.prog.stopsHeard)=true:=by kernel_rfl
theorem ZW:(Tryz.prog.mayEnter)=true:=by kernel_rfl
theorem ZX:(Rows.runNoneRow.lifted==Tryz.prog.liftsFinal)=true:=by kernel_rfl
theorem ZY:(Tryz.prog.make==some Rows.runNoneRow.make)=true:=by kernel_rfl
theorem ZZ:(Rows.runNoneRow.kinds==(if Rows.runNoneRow.domain.isEmpty then[] else Tryz.f3.params.toList.map fun t=>match Tryz.prog.underlying t with|some (.int k)=>some k|_=>none))=true:=by kernel_rfl
theorem Z0:(Rows.runNoneRow.pinned==Rows.runNoneRow.pinnedBy)=true:=by kernel_rfl
theorem aa0:(Rows.runNoneRow.veiled==(Tryz.f3.params.toList++Rows.runNoneSpec.plain.varTypes Tryz.prog++Tryz.f3.resultTypes.toList).any (Tryz.prog.veiledRec ·))=true:=by kernel_rfl
theorem aa1:(Rows.runNoneRow.veiledFits Tryz.prog Tryz.f3.params.toList (Tryz.f3.params.toList++Rows.runNoneSpec.plain.varTypes Tryz.prog))=true:=by kernel_rfl
theorem iX:∀{a b:Bool},a=true→b=true→(a && b)=true
 |_,_,rfl,rfl=>rfl
theorem closed:joinedFacts Tryz.prog 3 Tryz.f3 Rows.runNoneSpec Rows.runNoneRow=true:=(iX (iX (iX (iX (iX (iX (iX (iX (iX (iX (iX (iX (iX (iX (iX (iX (iX (iX (iX (iX (iX (iX (iX (iX (iX (iX (iX (iX (iX (iX (iX kf0 kf1) kf2) kf3) kf4) kf5) kf6) kf7) kf8) kf9) ZH) ZI) ZJ) ZK) ZL) ZM) ZN) ZO) ZP) ZQ) ZR) ZS) ZT) ZU) ZV) ZW) ZX) ZY) ZZ) Z0) aa0) aa1)
theorem over:Rows.runNoneRow.holds Tryz.pinned (OpenSpec.ofChange Rows.runNoneSpec):=
 OpenClaim.holds_of_wide 3 Tryz.f3 rfl rfl rfl rfl rfl rfl rfl ⟨rfl,rfl,rfl,rfl,rfl⟩ rfl rfl rfl rfl rfl (by kernel_rfl) Tryz.func3 closed
  (of_decide_eq_true (by kernel_rfl)) (by unfold Func.isWrapper;first|(rw[if_pos (by decide+kernel)];kernel_rfl)|(rw[if_neg (by decide+kernel)];exact⟨rfl,rfl⟩))
  (fun os started H enc _=>lifted os started H enc)
end Go.Proofs.YtmacjbfbpjgmnaaGreatDoor.runNoneLaw
end
