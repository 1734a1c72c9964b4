/-
  What the statement's proof leans on, several texts in one (packed by a program).
-/
import Derived.Test.YtpfobikpggmleaaGreatDoorSBX
import Derived.Test.YtpfobikpggmleaaGreatDoorRows
import Derived.ProofKit
import Derived.ShutString
import Derived.LaidMore
import Derived.Lay
import Derived.SevenTiedAt
import Derived.Stop.Joined
import Derived.Test.YtpfobikpggmleaaGreatDoorTie
import Derived.Test.YtpfobikpggmleaaGreatDoorCards
set_option linter.all false
set_option maxRecDepth 1000000
set_option maxHeartbeats 4000000
section
namespace Go.Proofs.YtpfobikpggmleaaGreatDoor.stateBeginsLaw
open Go.ChangeShapes Go.WideShapes Go.ChangeAt Go.RowKit Go.Hl
open Go.ChangeMaps (open_string shut_string)
theorem own:ownKnob Tryz.prog.godebug=none:=by kernel_rfl
theorem laidOut:laidOutB Tryz.prog=true:=by kernel_rfl
def laid:List (String×DataW Unit):=[("unicode/utf8.acceptRanges",Rows.laid_unicode_utf8_acceptRanges),("unicode/utf8.first",Rows.laid_unicode_utf8_first)]
theorem YP:ew Tryz.prog 98 bS:=
 ew.via (ew.struct Tryz.underlying98 Tryz.W1.out (.cons (by kernel_rfl) Tryz.Rr.out (ew.slice (enc:=aj) Tryz.underlying59 Tryz.Y0.out (by kernel_rfl) (by kernel_rfl) (show ew Tryz.prog 5 aj from(ew.u8 Tryz.underlying5))) (.cons (by kernel_rfl) Tryz.Rr.out (ew.slice (enc:=aj) Tryz.underlying59 Tryz.Y0.out (by kernel_rfl) (by kernel_rfl) (show ew Tryz.prog 5 aj from(ew.u8 Tryz.underlying5))) .nil))) (fun p=>⟨p.1,p.2.1⟩) (fun _=>rfl)
theorem VK:ew Tryz.prog 185 iG:=
 ew.via (ew.struct Tryz.underlying185 Tryz.TG.out (.cons (by kernel_rfl) Tryz.cz9.out (ew.str Tryz.underlying9) (.cons (by kernel_rfl) Tryz.cz9.out (ew.str Tryz.underlying9) (.cons (by kernel_rfl) Tryz.NT.out (ew.int (k:= .i64) Tryz.underlying3) .nil)))) (fun p=>⟨p.1,p.2.1,p.2.2.1⟩) (fun _=>rfl)
theorem VL:ew Tryz.prog 244 xz:=
 ew.via (ew.struct Tryz.underlying244 Tryz.TI.out (.cons (by kernel_rfl) Tryz.NT.out (ew.int (k:= .i64) Tryz.underlying3) (.cons (by kernel_rfl) Tryz.LJ.out (ew.HD (k:= .u64) Tryz.underlying58) (.cons (by kernel_rfl) Tryz.LJ.out (ew.HD (k:= .u64) Tryz.underlying58) (.cons (by kernel_rfl) Tryz.NT.out (ew.int (k:= .i64) Tryz.underlying3) (.cons (by kernel_rfl) Tryz.am0.out (ew.slice (enc:=yY) Tryz.underlying60 Tryz.LJ.out (by kernel_rfl) (by kernel_rfl) (show ew Tryz.prog 58 yY from(ew.HD (k:= .u64) Tryz.underlying58))) .nil)))))) (fun p=>Ua p.1 p.2.1 p.2.2.1 p.2.2.2.1 p.2.2.2.2.1) (fun p=>NP p.1 p.2.1 p.2.2.1 p.2.2.2.1 p.2.2.2.2.1)
theorem VM:ew Tryz.prog 103 AT:=
 ew.via (ew.struct Tryz.underlying103 Tryz.TB.out (.cons (by kernel_rfl) Tryz.Rr.out (ew.slice (enc:=aj) Tryz.underlying59 Tryz.Y0.out (by kernel_rfl) (by kernel_rfl) (show ew Tryz.prog 5 aj from(ew.u8 Tryz.underlying5))) (.cons (by kernel_rfl) Tryz.W2.out (ew.slice (enc:=xz) Tryz.underlying101 Tryz.TI.out (by kernel_rfl) (by kernel_rfl) VL) .nil))) (fun p=>Lg p.1 p.2.1) (fun p=>Hu p.1 p.2.1)
theorem VN:ew Tryz.prog 105 sK:=
 ew.via (ew.struct Tryz.underlying105 Tryz.TC.out (.cons (by kernel_rfl) Tryz.NT.out (ew.int (k:= .i64) Tryz.underlying3) (.cons (by kernel_rfl) Tryz.TB.out VM .nil))) (fun p=>Tk p.1 p.2.1) (fun _=>rfl)
theorem VO:ew Tryz.prog 141 ek:=
 ew.via (ew.struct Tryz.underlying141 Tryz.TD.out (.cons (by kernel_rfl) Tryz.NT.out (ew.int (k:= .i64) Tryz.underlying3) (.cons (by kernel_rfl) Tryz.NT.out (ew.int (k:= .i64) Tryz.underlying3) (.cons (by kernel_rfl) Tryz.cz4.out (ew.bool Tryz.underlying4) .nil)))) (fun p=>⟨p.1,p.2.1,p.2.2.1⟩) (fun _=>rfl)
theorem YQ:ew Tryz.prog 81 sL:=
 ew.via (ew.struct Tryz.underlying81 Tryz.W0.out (.cons (by kernel_rfl) Tryz.am6.out (ew.u8 Tryz.underlying79) (.cons (by kernel_rfl) Tryz.cz4.out (ew.bool Tryz.underlying4) (.cons (by kernel_rfl) Tryz.LJ.out (ew.HD (k:= .u64) Tryz.underlying58) .nil)))) (fun p=>Tl p.1 p.2.1 p.2.2.1) (fun _=>rfl)
theorem VQ:ew Tryz.prog 190 dG:=
 ew.via (ew.struct Tryz.underlying190 Tryz.TH.out (.cons (by kernel_rfl) Tryz.cz9.out (ew.str Tryz.underlying9) (.cons (by kernel_rfl) Tryz.NT.out (ew.int (k:= .i64) Tryz.underlying3) (.cons (by kernel_rfl) Tryz.NT.out (ew.int (k:= .i64) Tryz.underlying3) .nil)))) (fun p=>⟨p.1,p.2.1,p.2.2.1⟩) (fun _=>rfl)
theorem VR:ew Tryz.prog 147 sM:=
 ew.via (ew.struct Tryz.underlying147 Tryz.TE.out (.cons (by kernel_rfl) Tryz.LJ.out (ew.HD (k:= .u64) Tryz.underlying58) (.cons (by kernel_rfl) Tryz.am1.out (ew.slice (enc:=dc) Tryz.underlying61 Tryz.NT.out (by kernel_rfl) (by kernel_rfl) (show ew Tryz.prog 3 dc from(ew.int (k:= .i64) Tryz.underlying3))) .nil))) (fun p=>Tm p.1 p.2.1) (fun _=>rfl)
theorem VS:ew Tryz.prog 151 we:=
 ew.via (ew.struct Tryz.underlying151 Tryz.TF.out (.cons (by kernel_rfl) Tryz.NT.out (ew.int (k:= .i64) Tryz.underlying3) (.cons (by kernel_rfl) Tryz.LJ.out (ew.HD (k:= .u64) Tryz.underlying58) (.cons (by kernel_rfl) Tryz.Rr.out (ew.slice (enc:=aj) Tryz.underlying59 Tryz.Y0.out (by kernel_rfl) (by kernel_rfl) (show ew Tryz.prog 5 aj from(ew.u8 Tryz.underlying5))) .nil)))) (fun p=>VI p.1 p.2.1 p.2.2.1) (fun _=>rfl)
theorem YR:ew Tryz.prog 31 Eg:=
 ew.via (ew.struct Tryz.underlying31 Tryz.ak8.out (.cons (by kernel_rfl) Tryz.ak0.out (ew.slice (enc:=bS) Tryz.underlying22 Tryz.W1.out (by kernel_rfl) (by kernel_rfl) YP) (.cons (by kernel_rfl) Tryz.ak1.out (ew.slice (enc:=iG) Tryz.underlying23 Tryz.TG.out (by kernel_rfl) (by kernel_rfl) VK) (.cons (by kernel_rfl) Tryz.ak2.out (ew.slice (enc:=sK) Tryz.underlying24 Tryz.TC.out (by kernel_rfl) (by kernel_rfl) VN) (.cons (by kernel_rfl) Tryz.NT.out (ew.int (k:= .i64) Tryz.underlying3) (.cons (by kernel_rfl) Tryz.ak3.out (ew.slice (enc:=ek) Tryz.underlying25 Tryz.TD.out (by kernel_rfl) (by kernel_rfl) VO) (.cons (by kernel_rfl) Tryz.ak4.out (ew.slice (enc:=sL) Tryz.underlying26 Tryz.W0.out (by kernel_rfl) (by kernel_rfl) YQ) (.cons (by kernel_rfl) Tryz.ak5.out (ew.slice (enc:=dG) Tryz.underlying27 Tryz.TH.out (by kernel_rfl) (by kernel_rfl) VQ) (.cons (by kernel_rfl) Tryz.NT.out (ew.int (k:= .i64) Tryz.underlying3) (.cons (by kernel_rfl) Tryz.ak6.out (ew.slice (enc:=sM) Tryz.underlying28 Tryz.TE.out (by kernel_rfl) (by kernel_rfl) VR) (.cons (by kernel_rfl) Tryz.ak7.out (ew.slice (enc:=we) Tryz.underlying29 Tryz.TF.out (by kernel_rfl) (by kernel_rfl) VS) .nil))))))))))) (fun p=>QM p.1 p.2.1 p.2.2.1 p.2.2.2.1 p.2.2.2.2.1 p.2.2.2.2.2.1 p.2.2.2.2.2.2.1 p.2.2.2.2.2.2.2.1 p.2.2.2.2.2.2.2.2.1 p.2.2.2.2.2.2.2.2.2.1) (fun p=>Kh p.1 p.2.1 p.2.2.1 p.2.2.2.1 p.2.2.2.2.1 p.2.2.2.2.2.1 p.2.2.2.2.2.2.1 p.2.2.2.2.2.2.2.1 p.2.2.2.2.2.2.2.2.1 p.2.2.2.2.2.2.2.2.2.1)
theorem lifted(os:Os)(started:os.Started)(H:Type)(enc:TypeId×Value→H):
    ReturnsInHanded {} Tryz.checked os 6 .any (fun w args=>(Rows.stateBeginsSpec.pre enc Tryz.prog Tryz.f6 Rows.stateBeginsRow.domain false w args∧laidMetH Tryz.prog laid w)∧sizedMet enc Tryz.prog Tryz.f6 (OpenSpec.ofChange Rows.stateBeginsSpec) false w args) (Rows.stateBeginsSpec.post enc Tryz.prog Tryz.f6 false true false false):=by
  refine returnsInHanded_of_change_and (C:=Tryz.checked) (X:=fun w _=>laidMetH Tryz.prog laid w) (fun _ _ _ hh h=>h.of_heap hh) own started (by kernel_rfl) Tryz.func6
    (ChangeSpec.witness_shaped (enc:=enc) (C:=Tryz.checked) (os:=os) (X:=fun w _=>laidMetH Tryz.prog laid w) false (World.laidAll Tryz.prog os laid) #[.agg #[.slice none 0 0, .slice none 0 0, .slice none 0 0, .int .i64 0, .slice none 0 0, .slice none 0 0, .slice none 0 0, .int .i64 0, .slice none 0 0, .slice none 0 0], .int .i64 0, .int .i64 0, .int .u64 0] 8 (World.laidAll_os _ _ _)
      (World.shaped_of_ZipB (by kernel_rfl) (by kernel_rfl)) (by kernel_rfl) (by kernel_rfl) (by kernel_rfl)
      (by rw[MakeChecks.laidMetH_plain _ _ _ (by kernel_rfl)];exact laidMet_laidAll _ (by kernel_rfl) (by kernel_rfl))) ?_
  intro W base args ds gs before Ub hW bG8 SN hX _;have hval:∀(j:Nat) t v,Tryz.f6.params[j]?=some t→args[j]?=some v→Value.okWide Tryz.prog W .any base t v:=Ub;have hsz:(DataW.weightsEach Tryz.prog (Tryz.f6.params.toList++Rows.stateBeginsSpec.plain.varTypes Tryz.prog) (ds++gs)).all (· ≤reachBytes)=true:=SN;have hW':=hW;obtain⟨p,q,oR,hV,rfl,hfz,hnd⟩:=hW;have hA:DataW.TrodAll enc Tryz.prog W 0 (fun _=>true) true Tryz.f6.params.toList args.toList ds p:=oR;rw[Tryz.params6] at hA hval hsz;obtain⟨v0,vs0,d0,ds0,p0,q0,hargs,rfl,rfl,h0,r0⟩:=trodAll_cons hA;obtain⟨v1,vs1,d1,ds1,p1,q1,rfl,rfl,rfl,h1,r1⟩:=trodAll_cons r0;obtain⟨v2,vs2,d2,ds2,p2,q2,rfl,rfl,rfl,h2,r2⟩:=trodAll_cons r1;obtain⟨v3,vs3,d3,ds3,p3,q3,rfl,rfl,rfl,h3,r3⟩:=trodAll_cons r2;obtain⟨rfl,rfl,rfl⟩:=trodAll_nil r3;obtain rfl:args= #[v0,v1,v2,v3]:=by cases args;simp_all
  obtain⟨rfl,rfl⟩:=trodVars_none hV;have lt0:∀x∈p0,x.block<W.heap.size:=by obtain⟨m,hm⟩:=h0;exact DataW.trod_lt m _ _ _ hm
  obtain⟨a0,w0⟩:=Rc YR Tryz.underlying31 (hval 0 31 v0 rfl rfl) h0 (uW hsz (j:=0) rfl rfl);have lt1:∀x∈p1,x.block<W.heap.size:=by obtain⟨m,hm⟩:=h1;exact DataW.trod_lt m _ _ _ hm
  obtain⟨a1,w1⟩:=CC (q:=fun a1:Int=>ag .i64 a1) (ew.int (k:= .i64) Tryz.underlying3) Tryz.ag3.out (fun _=>rfl) (hval 1 3 v1 rfl rfl) h1 (uW hsz (j:=1) rfl rfl);have lt2:∀x∈p2,x.block<W.heap.size:=by obtain⟨m,hm⟩:=h2;exact DataW.trod_lt m _ _ _ hm
  obtain⟨a2,w2⟩:=CC (q:=fun a2:Int=>ag .i64 a2) (ew.int (k:= .i64) Tryz.underlying3) Tryz.ag3.out (fun _=>rfl) (hval 2 3 v2 rfl rfl) h2 (uW hsz (j:=2) rfl rfl);have lt3:∀x∈p3,x.block<W.heap.size:=by obtain⟨m,hm⟩:=h3;exact DataW.trod_lt m _ _ _ hm
  obtain⟨a3,w3⟩:=CC (q:=fun a3:pE .u64=>ag .u64 a3.1) (ew.HD (k:= .u64) Tryz.underlying58) Tryz.al9.out (fun _=>rfl) (hval 3 58 v3 rfl rfl) h3 (uW hsz (j:=3) rfl rfl);clear oR Ub;have hall:gW [aC (Eg a0),ag .i64 a1,ag .i64 a2,ag .u64 a3.1] (fun k=>k<W.heap.size) W [v0,v1,v2,v3]:=(.cat (.one w0) (.cat (.one w1) (.cat (.one w2) (.cat (.one w3) gW.nil))));refine(Lu (wg (x:=a0) (num:=a1) (gi:=a2) (v:=a3)) hall).mono fun e W' ⟨he,bel⟩=>?_;subst he;exact⟨_,rfl,_,_,_,[],_,[],hW',trodAll_mk1 (shut_bool Tryz.underlying4 _),(trodAll_cons_mk (Below.trod laidOut (by kernel_rfl) (of_decide_eq_true (by kernel_rfl)) h0 bel lt0) (trodAll_cons_mk (Below.trod laidOut (by kernel_rfl) (of_decide_eq_true (by kernel_rfl)) h1 bel lt1) (trodAll_cons_mk (Below.trod laidOut (by kernel_rfl) (of_decide_eq_true (by kernel_rfl)) h2 bel lt2) (trodAll_cons_mk (Below.trod laidOut (by kernel_rfl) (of_decide_eq_true (by kernel_rfl)) h3 bel lt3) trodAll_mk0)))),rfl,bel.frame _,fun h=>by cases h⟩
end Go.Proofs.YtpfobikpggmleaaGreatDoor.stateBeginsLaw
end
