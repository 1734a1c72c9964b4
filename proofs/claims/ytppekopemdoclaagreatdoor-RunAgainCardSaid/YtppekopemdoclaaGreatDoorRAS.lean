/-
  Parts of the proof.
-/
import Derived.Test.YtppekopemdoclaaGreatDoorRAR
import Derived.Test.YtppekopemdoclaaGreatDoorRows
import Derived.ShutString
import Derived.LaidMore
import Derived.Lay
import Derived.SevenTiedAt
import Derived.Stop.Joined
import Derived.Test.YtppekopemdoclaaGreatDoorTie
import Derived.Test.YtppekopemdoclaaGreatDoorCards
set_option linter.all false
set_option maxRecDepth 1000000
set_option maxHeartbeats 4000000
section
namespace Go.Proofs.YtppekopemdoclaaGreatDoor.runAgainLaw
open Go.ChangeShapes Go.WideShapes Go.ChangeAt Go.RowKit Go.Hl
open Go.ChangeMaps (open_string shut_string)
theorem own:ownKnob Tryz.prog.godebug=none:=by kernel_rfl
theorem laidOut:laidOutB Wo=true:=by kernel_rfl
def laid:List (String×DataW Unit):=[("math/bits.deBruijn64tab",Rows.laid_math_bits_deBruijn64tab),("unicode/utf8.acceptRanges",Rows.laid_unicode_utf8_acceptRanges),("unicode/utf8.first",Rows.laid_unicode_utf8_first)]
theorem am9:eX Wo 60 bW:=
 eX.via (eX.struct Tryz.underlying60 Tryz.ac8.out (.cons (by kernel_rfl) Tryz.UF.out (eX.slice (enc:=an) Tryz.underlying58 Tryz.cz5.out (by kernel_rfl) (by kernel_rfl) (show eX Wo 5 an from(eX.u8 Tryz.underlying5))) (.cons (by kernel_rfl) Tryz.UF.out (eX.slice (enc:=an) Tryz.underlying58 Tryz.cz5.out (by kernel_rfl) (by kernel_rfl) (show eX Wo 5 an from(eX.u8 Tryz.underlying5))) .nil))) (λp=>⟨p.1,p.2.1⟩) (λ_=>rfl)
theorem Zy:eX Wo 120 lq:=
 eX.via (eX.struct Tryz.underlying120 Tryz.WQ.out (.cons (by kernel_rfl) Tryz.cz9.out (eX.str Tryz.underlying9) (.cons (by kernel_rfl) Tryz.cz9.out (eX.str Tryz.underlying9) (.cons (by kernel_rfl) Tryz.Oc.out (eX.int (k:= .i64) Tryz.underlying3) .nil)))) (λp=>⟨p.1,p.2.1,p.2.2.1⟩) (λ_=>rfl)
theorem an0:eX Wo 62 yE:=
 eX.via (eX.struct Tryz.underlying62 Tryz.ac9.out (.cons (by kernel_rfl) Tryz.Oc.out (eX.int (k:= .i64) Tryz.underlying3) (.cons (by kernel_rfl) Tryz.J3.out (eX.JH (k:= .u64) Tryz.underlying38) (.cons (by kernel_rfl) Tryz.J3.out (eX.JH (k:= .u64) Tryz.underlying38) (.cons (by kernel_rfl) Tryz.Oc.out (eX.int (k:= .i64) Tryz.underlying3) (.cons (by kernel_rfl) Tryz.ac6.out (eX.slice (enc:=nW) Tryz.underlying32 Tryz.J3.out (by kernel_rfl) (by kernel_rfl) (show eX Wo 38 nW from(eX.JH (k:= .u64) Tryz.underlying38))) .nil)))))) (λp=>Xp p.1 p.2.1 p.2.2.1 p.2.2.2.1 p.2.2.2.2.1) (λp=>Qu p.1 p.2.1 p.2.2.1 p.2.2.2.1 p.2.2.2.2.1)
theorem an1:eX Wo 65 B6:=
 eX.via (eX.struct Tryz.underlying65 Tryz.ad0.out (.cons (by kernel_rfl) Tryz.UF.out (eX.slice (enc:=an) Tryz.underlying58 Tryz.cz5.out (by kernel_rfl) (by kernel_rfl) (show eX Wo 5 an from(eX.u8 Tryz.underlying5))) (.cons (by kernel_rfl) Tryz.aI3.out (eX.slice (enc:=yE) Tryz.underlying63 Tryz.ac9.out (by kernel_rfl) (by kernel_rfl) an0) .nil))) (λp=>NK p.1 p.2.1) (λp=>Jw p.1 p.2.1)
theorem an2:eX Wo 67 tR:=
 eX.via (eX.struct Tryz.underlying67 Tryz.ad1.out (.cons (by kernel_rfl) Tryz.Oc.out (eX.int (k:= .i64) Tryz.underlying3) (.cons (by kernel_rfl) Tryz.ad0.out an1 .nil))) (λp=>Wt p.1 p.2.1) (λ_=>rfl)
theorem Zz:eX Wo 132 iA:=
 eX.via (eX.struct Tryz.underlying132 Tryz.WU.out (.cons (by kernel_rfl) Tryz.Oc.out (eX.int (k:= .i64) Tryz.underlying3) (.cons (by kernel_rfl) Tryz.Oc.out (eX.int (k:= .i64) Tryz.underlying3) (.cons (by kernel_rfl) Tryz.cz4.out (eX.bool Tryz.underlying4) .nil)))) (λp=>⟨p.1,p.2.1,p.2.2.1⟩) (λ_=>rfl)
theorem an3:eX Wo 40 tS:=
 eX.via (eX.struct Tryz.underlying40 Tryz.ac7.out (.cons (by kernel_rfl) Tryz.aG5.out (eX.u8 Tryz.underlying37) (.cons (by kernel_rfl) Tryz.cz4.out (eX.bool Tryz.underlying4) (.cons (by kernel_rfl) Tryz.J3.out (eX.JH (k:= .u64) Tryz.underlying38) .nil)))) (λp=>Wu p.1 p.2.1 p.2.2.1) (λ_=>rfl)
theorem ZA:eX Wo 123 fz:=
 eX.via (eX.struct Tryz.underlying123 Tryz.WR.out (.cons (by kernel_rfl) Tryz.cz9.out (eX.str Tryz.underlying9) (.cons (by kernel_rfl) Tryz.Oc.out (eX.int (k:= .i64) Tryz.underlying3) (.cons (by kernel_rfl) Tryz.Oc.out (eX.int (k:= .i64) Tryz.underlying3) .nil)))) (λp=>⟨p.1,p.2.1,p.2.2.1⟩) (λ_=>rfl)
theorem ZB:eX Wo 125 tT:=
 eX.via (eX.struct Tryz.underlying125 Tryz.WS.out (.cons (by kernel_rfl) Tryz.J3.out (eX.JH (k:= .u64) Tryz.underlying38) (.cons (by kernel_rfl) Tryz.aI8.out (eX.slice (enc:=sQ) Tryz.underlying70 Tryz.Oc.out (by kernel_rfl) (by kernel_rfl) (show eX Wo 3 sQ from(eX.int (k:= .i64) Tryz.underlying3))) .nil))) (λp=>Wv p.1 p.2.1) (λ_=>rfl)
theorem ZC:eX Wo 127 xI:=
 eX.via (eX.struct Tryz.underlying127 Tryz.WT.out (.cons (by kernel_rfl) Tryz.Oc.out (eX.int (k:= .i64) Tryz.underlying3) (.cons (by kernel_rfl) Tryz.J3.out (eX.JH (k:= .u64) Tryz.underlying38) (.cons (by kernel_rfl) Tryz.UF.out (eX.slice (enc:=an) Tryz.underlying58 Tryz.cz5.out (by kernel_rfl) (by kernel_rfl) (show eX Wo 5 an from(eX.u8 Tryz.underlying5))) .nil)))) (λp=>Zw p.1 p.2.1 p.2.2.1) (λ_=>rfl)
theorem an4:eX Wo 31 F5:=
 eX.via (eX.struct Tryz.underlying31 Tryz.aF0.out (.cons (by kernel_rfl) Tryz.aE2.out (eX.slice (enc:=bW) Tryz.underlying22 Tryz.ac8.out (by kernel_rfl) (by kernel_rfl) am9) (.cons (by kernel_rfl) Tryz.aE3.out (eX.slice (enc:=lq) Tryz.underlying23 Tryz.WQ.out (by kernel_rfl) (by kernel_rfl) Zy) (.cons (by kernel_rfl) Tryz.aE4.out (eX.slice (enc:=tR) Tryz.underlying24 Tryz.ad1.out (by kernel_rfl) (by kernel_rfl) an2) (.cons (by kernel_rfl) Tryz.Oc.out (eX.int (k:= .i64) Tryz.underlying3) (.cons (by kernel_rfl) Tryz.aE5.out (eX.slice (enc:=iA) Tryz.underlying25 Tryz.WU.out (by kernel_rfl) (by kernel_rfl) Zz) (.cons (by kernel_rfl) Tryz.aE6.out (eX.slice (enc:=tS) Tryz.underlying26 Tryz.ac7.out (by kernel_rfl) (by kernel_rfl) an3) (.cons (by kernel_rfl) Tryz.aE7.out (eX.slice (enc:=fz) Tryz.underlying27 Tryz.WR.out (by kernel_rfl) (by kernel_rfl) ZA) (.cons (by kernel_rfl) Tryz.Oc.out (eX.int (k:= .i64) Tryz.underlying3) (.cons (by kernel_rfl) Tryz.aE8.out (eX.slice (enc:=tT) Tryz.underlying28 Tryz.WS.out (by kernel_rfl) (by kernel_rfl) ZB) (.cons (by kernel_rfl) Tryz.aE9.out (eX.slice (enc:=xI) Tryz.underlying29 Tryz.WT.out (by kernel_rfl) (by kernel_rfl) ZC) .nil))))))))))) (λp=>TP p.1 p.2.1 p.2.2.1 p.2.2.2.1 p.2.2.2.2.1 p.2.2.2.2.2.1 p.2.2.2.2.2.2.1 p.2.2.2.2.2.2.2.1 p.2.2.2.2.2.2.2.2.1 p.2.2.2.2.2.2.2.2.2.1) (λp=>Mf p.1 p.2.1 p.2.2.1 p.2.2.2.1 p.2.2.2.2.1 p.2.2.2.2.2.1 p.2.2.2.2.2.2.1 p.2.2.2.2.2.2.2.1 p.2.2.2.2.2.2.2.2.1 p.2.2.2.2.2.2.2.2.2.1)
theorem an5:eX Wo 34 B7:=
 eX.via (eX.struct Tryz.underlying34 Tryz.aG1.out (.cons (by kernel_rfl) Tryz.Oc.out (eX.int (k:= .i64) Tryz.underlying3) (.cons (by kernel_rfl) Tryz.ac6.out (eX.slice (enc:=nW) Tryz.underlying32 Tryz.J3.out (by kernel_rfl) (by kernel_rfl) (show eX Wo 38 nW from(eX.JH (k:= .u64) Tryz.underlying38))) .nil))) (λp=>NO p.1 p.2.1) (λp=>Jx p.1 p.2.1)
theorem lifted(os:Os)(started:os.Started)(H:Type)(enc:TypeId×Value->H):
    ReturnsInHanded {} Tryz.checked os 3 .any (λw args=>(Rows.runAgainSpec.pre enc Wo Tryz.f3 Rows.runAgainRow.domain false w args/\laidMetH Wo laid w)/\sizedMet enc Wo Tryz.f3 (OpenSpec.ofChange Rows.runAgainSpec) false w args) (Rows.runAgainSpec.post enc Wo Tryz.f3 false true false false):=by
  refine returnsInHanded_of_change_and (C:=Tryz.checked) (X:=λw _=>laidMetH Wo laid w) (λ_ _ _ hh h=>h.of_heap hh) own started (by kernel_rfl) Tryz.func3
    (ChangeSpec.witness_shaped (enc:=enc) (C:=Tryz.checked) (os:=os) (X:=λw _=>laidMetH Wo laid w) false (World.laidAll Wo os laid) #[.agg #[.slice none 0 0, .slice none 0 0, .slice none 0 0, .int .i64 0, .slice none 0 0, .slice none 0 0, .slice none 0 0, .int .i64 0, .slice none 0 0, .slice none 0 0], .agg #[.int .i64 0, .slice none 0 0]] 8 (World.laidAll_os _ _ _)
      (World.shaped_of_ZipB (by kernel_rfl) (by kernel_rfl)) (by kernel_rfl) (by kernel_rfl) (by kernel_rfl)
      (by rw[MakeChecks.laidMetH_plain _ _ _ (by kernel_rfl)];exact laidMet_laidAll _ (by kernel_rfl) (by kernel_rfl))) ?_
  intro W base args ds gs before Xq hW ci4 V2 hX _;have hval:∀(j:Nat) t v,Tryz.f3.params[j]?=some t->args[j]?=some v->Value.okWide Wo W .any base t v:=Xq;have hsz:(DataW.weightsEach Wo (Tryz.f3.params.toList++Rows.runAgainSpec.plain.varTypes Wo) (ds++gs)).all (· <=reachBytes)=true:=V2;have hW':=hW;obtain⟨p,q,og,hV,rfl,hfz,hnd⟩:=hW;have hA:DataW.TrodAll enc Wo W 0 (λ_=>true) true Tryz.f3.params.toList args.toList ds p:=og;rw[Tryz.params3] at hA hval hsz;obtain⟨v0,vs0,d0,ds0,p0,q0,hargs,rfl,rfl,h0,r0⟩:=trodAll_cons hA;obtain⟨v1,vs1,d1,ds1,p1,q1,rfl,rfl,rfl,h1,r1⟩:=trodAll_cons r0;obtain⟨rfl,rfl,rfl⟩:=trodAll_nil r1;obtain rfl:args= #[v0,v1]:=by cases args;simp_all
  obtain⟨rfl,rfl⟩:=trodVars_none hV;have lt0:∀x∈p0,x.block<W.heap.size:=by obtain⟨m,hm⟩:=h0;exact DataW.trod_lt m _ _ _ hm
  obtain⟨a0,w0⟩:=Mp an4 Tryz.underlying31 (hval 0 31 v0 rfl rfl) h0 (Gs hsz (j:=0) rfl rfl);have lt1:∀x∈p1,x.block<W.heap.size:=by obtain⟨m,hm⟩:=h1;exact DataW.trod_lt m _ _ _ hm
  obtain⟨a1,w1⟩:=Mp an5 Tryz.underlying34 (hval 1 34 v1 rfl rfl) h1 (Gs hsz (j:=1) rfl rfl);clear og Xq
  have hm0:laidMet Wo [("math/bits.deBruijn64tab",Lib.tabData .u8 (Lib.deBruijn64tab.map Int.ofNat))] W:=by
    have h:=hX.filter (λx=>x.1=="math/bits.deBruijn64tab");rw[show laid.filter (λx=>x.1=="math/bits.deBruijn64tab")=[("math/bits.deBruijn64tab",Lib.tabData .u8 (Lib.deBruijn64tab.map Int.ofNat))] by kernel_rfl,MakeChecks.laidMetH_plain _ _ _ (by kernel_rfl)] at h;exact h
  have VY:Lib.TabIs Wo W "math/bits.deBruijn64tab" .u8 (Lib.deBruijn64tab.map Int.ofNat):=Lib.tabIs_of_head (g:=1) (n:=64) (by kernel_rfl) (by kernel_rfl) (show Tryz.prog.underlying 499=some _ from Tryz.underlying499) (show Tryz.prog.underlying 5=some _ from Tryz.underlying5) (by kernel_rfl) (by kernel_rfl) hm0;have hvars:(nt 1 .u8 Lib.deBruijn64tab).p (λ_=>False) (λk=>k<W.heap.size) W:=⟨World.block_lt_of_cell? _ _ (VY.cell (by kernel_rfl) 0 (by decide)),λj hj=>by rw[<-Ri];exact VY.cell (by kernel_rfl) j (by simpa using hj)⟩;have hall:hU [aC (F5 a0),aC (B7 a1)] (λk=>k<W.heap.size) W [v0,v1]:=(.cat (.one w0) (.cat (.one w1) hU.nil));refine(JY (B9 (x:=a0) (c:=a1)) hvars hall).mono λe W' ⟨he,bel⟩=>?_;subst he;exact⟨_,rfl,_,_,_,[],_,[],hW',trodAll_mk1 (shut_bool Tryz.underlying4 _),(trodAll_cons_mk (Below.trod laidOut (by kernel_rfl) (of_decide_eq_true (by kernel_rfl)) h0 bel lt0) (trodAll_cons_mk (Below.trod laidOut (by kernel_rfl) (of_decide_eq_true (by kernel_rfl)) h1 bel lt1) trodAll_mk0)),rfl,bel.frame _,λh=>by cases h⟩
end Go.Proofs.YtppekopemdoclaaGreatDoor.runAgainLaw
end
