/-
  What the statement's proof leans on, several texts in one (packed by a program).
-/
import Derived.Test.YtpfobikpggmleaaGreatDoorSAW
import Derived.Test.YtpfobikpggmleaaGreatDoorRows
import Derived.ProofKit
import Derived.ShutString
import Derived.LaidMore
import Derived.Lay
import Derived.SevenTiedAt
import Derived.Stop.Joined
import Derived.Test.YtpfobikpggmleaaGreatDoorTie
import Derived.Test.YtpfobikpggmleaaGreatDoorCards
set_option linter.all false
set_option maxRecDepth 1000000
set_option maxHeartbeats 4000000
section
namespace Go.Proofs.YtpfobikpggmleaaGreatDoor.stateApartLaw
open Go.ChangeShapes Go.WideShapes Go.ChangeAt Go.RowKit Go.Hl
open Go.ChangeMaps (open_string shut_string)
theorem own:ownKnob Tryz.prog.godebug=none:=by kernel_rfl
theorem laidOut:laidOutB Tryz.prog=true:=by kernel_rfl
def laid:List (String×DataW Unit):=[("unicode/utf8.acceptRanges",Rows.laid_unicode_utf8_acceptRanges),("unicode/utf8.first",Rows.laid_unicode_utf8_first)]
theorem Yd:dY Tryz.prog 98 cu:=
 dY.via (dY.struct Tryz.underlying98 Tryz.Wl.out (.cons (by kernel_rfl) Tryz.QK.out (dY.slice (enc:=aj) Tryz.underlying59 Tryz.Wj.out (by kernel_rfl) (by kernel_rfl) (show dY Tryz.prog 5 aj from (dY.u8 Tryz.underlying5))) (.cons (by kernel_rfl) Tryz.QK.out (dY.slice (enc:=aj) Tryz.underlying59 Tryz.Wj.out (by kernel_rfl) (by kernel_rfl) (show dY Tryz.prog 5 aj from (dY.u8 Tryz.underlying5))) .nil))) (fun p=>⟨p.1,p.2.1⟩) (fun _=>rfl)
theorem UX:dY Tryz.prog 185 kq:=
 dY.via (dY.struct Tryz.underlying185 Tryz.SO.out (.cons (by kernel_rfl) Tryz.cz9.out (dY.str Tryz.underlying9) (.cons (by kernel_rfl) Tryz.cz9.out (dY.str Tryz.underlying9) (.cons (by kernel_rfl) Tryz.Nj.out (dY.int (k:= .i64) Tryz.underlying3) .nil)))) (fun p=>⟨p.1,p.2.1,p.2.2.1⟩) (fun _=>rfl)
theorem UY:dY Tryz.prog 244 xu:=
 dY.via (dY.struct Tryz.underlying244 Tryz.SQ.out (.cons (by kernel_rfl) Tryz.Nj.out (dY.int (k:= .i64) Tryz.underlying3) (.cons (by kernel_rfl) Tryz.Lb.out (dY.G8 (k:= .u64) Tryz.underlying58) (.cons (by kernel_rfl) Tryz.Lb.out (dY.G8 (k:= .u64) Tryz.underlying58) (.cons (by kernel_rfl) Tryz.Nj.out (dY.int (k:= .i64) Tryz.underlying3) (.cons (by kernel_rfl) Tryz.ah9.out (dY.slice (enc:=yU) Tryz.underlying60 Tryz.Lb.out (by kernel_rfl) (by kernel_rfl) (show dY Tryz.prog 58 yU from (dY.G8 (k:= .u64) Tryz.underlying58))) .nil)))))) (fun p=>Ti p.1 p.2.1 p.2.2.1 p.2.2.2.1 p.2.2.2.2.1) (fun p=>Nf p.1 p.2.1 p.2.2.1 p.2.2.2.1 p.2.2.2.2.1)
theorem UZ:dY Tryz.prog 103 AP:=
 dY.via (dY.struct Tryz.underlying103 Tryz.SJ.out (.cons (by kernel_rfl) Tryz.QK.out (dY.slice (enc:=aj) Tryz.underlying59 Tryz.Wj.out (by kernel_rfl) (by kernel_rfl) (show dY Tryz.prog 5 aj from (dY.u8 Tryz.underlying5))) (.cons (by kernel_rfl) Tryz.Wm.out (dY.slice (enc:=xu) Tryz.underlying101 Tryz.SQ.out (by kernel_rfl) (by kernel_rfl) UY) .nil))) (fun p=>KN p.1 p.2.1) (fun p=>GY p.1 p.2.1)
theorem U0:dY Tryz.prog 105 sF:=
 dY.via (dY.struct Tryz.underlying105 Tryz.SK.out (.cons (by kernel_rfl) Tryz.Nj.out (dY.int (k:= .i64) Tryz.underlying3) (.cons (by kernel_rfl) Tryz.SJ.out UZ .nil))) (fun p=>Sr p.1 p.2.1) (fun _=>rfl)
theorem U1:dY Tryz.prog 141 eY:=
 dY.via (dY.struct Tryz.underlying141 Tryz.SL.out (.cons (by kernel_rfl) Tryz.Nj.out (dY.int (k:= .i64) Tryz.underlying3) (.cons (by kernel_rfl) Tryz.Nj.out (dY.int (k:= .i64) Tryz.underlying3) (.cons (by kernel_rfl) Tryz.cz4.out (dY.bool Tryz.underlying4) .nil)))) (fun p=>⟨p.1,p.2.1,p.2.2.1⟩) (fun _=>rfl)
theorem Ye:dY Tryz.prog 81 sG:=
 dY.via (dY.struct Tryz.underlying81 Tryz.Wk.out (.cons (by kernel_rfl) Tryz.ai5.out (dY.u8 Tryz.underlying79) (.cons (by kernel_rfl) Tryz.cz4.out (dY.bool Tryz.underlying4) (.cons (by kernel_rfl) Tryz.Lb.out (dY.G8 (k:= .u64) Tryz.underlying58) .nil)))) (fun p=>Ss p.1 p.2.1 p.2.2.1) (fun _=>rfl)
theorem U2:dY Tryz.prog 190 dZ:=
 dY.via (dY.struct Tryz.underlying190 Tryz.SP.out (.cons (by kernel_rfl) Tryz.cz9.out (dY.str Tryz.underlying9) (.cons (by kernel_rfl) Tryz.Nj.out (dY.int (k:= .i64) Tryz.underlying3) (.cons (by kernel_rfl) Tryz.Nj.out (dY.int (k:= .i64) Tryz.underlying3) .nil)))) (fun p=>⟨p.1,p.2.1,p.2.2.1⟩) (fun _=>rfl)
theorem U3:dY Tryz.prog 147 sH:=
 dY.via (dY.struct Tryz.underlying147 Tryz.SM.out (.cons (by kernel_rfl) Tryz.Lb.out (dY.G8 (k:= .u64) Tryz.underlying58) (.cons (by kernel_rfl) Tryz.ai0.out (dY.slice (enc:=dJ) Tryz.underlying61 Tryz.Nj.out (by kernel_rfl) (by kernel_rfl) (show dY Tryz.prog 3 dJ from (dY.int (k:= .i64) Tryz.underlying3))) .nil))) (fun p=>Su p.1 p.2.1) (fun _=>rfl)
theorem U4:dY Tryz.prog 151 vU:=
 dY.via (dY.struct Tryz.underlying151 Tryz.SN.out (.cons (by kernel_rfl) Tryz.Nj.out (dY.int (k:= .i64) Tryz.underlying3) (.cons (by kernel_rfl) Tryz.Lb.out (dY.G8 (k:= .u64) Tryz.underlying58) (.cons (by kernel_rfl) Tryz.QK.out (dY.slice (enc:=aj) Tryz.underlying59 Tryz.Wj.out (by kernel_rfl) (by kernel_rfl) (show dY Tryz.prog 5 aj from (dY.u8 Tryz.underlying5))) .nil)))) (fun p=>UU p.1 p.2.1 p.2.2.1) (fun _=>rfl)
theorem Tj:dY Tryz.prog 31 yW:=
 dY.via (dY.struct Tryz.underlying31 Tryz.ag2.out (.cons (by kernel_rfl) Tryz.af4.out (dY.slice (enc:=cu) Tryz.underlying22 Tryz.Wl.out (by kernel_rfl) (by kernel_rfl) Yd) (.cons (by kernel_rfl) Tryz.af5.out (dY.slice (enc:=kq) Tryz.underlying23 Tryz.SO.out (by kernel_rfl) (by kernel_rfl) UX) (.cons (by kernel_rfl) Tryz.af6.out (dY.slice (enc:=sF) Tryz.underlying24 Tryz.SK.out (by kernel_rfl) (by kernel_rfl) U0) (.cons (by kernel_rfl) Tryz.Nj.out (dY.int (k:= .i64) Tryz.underlying3) (.cons (by kernel_rfl) Tryz.af7.out (dY.slice (enc:=eY) Tryz.underlying25 Tryz.SL.out (by kernel_rfl) (by kernel_rfl) U1) (.cons (by kernel_rfl) Tryz.af8.out (dY.slice (enc:=sG) Tryz.underlying26 Tryz.Wk.out (by kernel_rfl) (by kernel_rfl) Ye) (.cons (by kernel_rfl) Tryz.af9.out (dY.slice (enc:=dZ) Tryz.underlying27 Tryz.SP.out (by kernel_rfl) (by kernel_rfl) U2) (.cons (by kernel_rfl) Tryz.Nj.out (dY.int (k:= .i64) Tryz.underlying3) (.cons (by kernel_rfl) Tryz.ag0.out (dY.slice (enc:=sH) Tryz.underlying28 Tryz.SM.out (by kernel_rfl) (by kernel_rfl) U3) (.cons (by kernel_rfl) Tryz.ag1.out (dY.slice (enc:=vU) Tryz.underlying29 Tryz.SN.out (by kernel_rfl) (by kernel_rfl) U4) .nil))))))))))) (fun p=>Qa p.1 p.2.1 p.2.2.1 p.2.2.2.1 p.2.2.2.2.1 p.2.2.2.2.2.1 p.2.2.2.2.2.2.1 p.2.2.2.2.2.2.2.1 p.2.2.2.2.2.2.2.2.1 p.2.2.2.2.2.2.2.2.2.1) (fun p=>JJ p.1 p.2.1 p.2.2.1 p.2.2.2.1 p.2.2.2.2.1 p.2.2.2.2.2.1 p.2.2.2.2.2.2.1 p.2.2.2.2.2.2.2.1 p.2.2.2.2.2.2.2.2.1 p.2.2.2.2.2.2.2.2.2.1)
theorem lifted (os:Os) (started:os.Started) (H:Type) (enc:TypeId×Value→H):
    ReturnsInHanded {} Tryz.checked os 5 .any (fun w args=>(Rows.stateApartSpec.pre enc Tryz.prog Tryz.f5 Rows.stateApartRow.domain false w args∧laidMetH Tryz.prog laid w)∧sizedMet enc Tryz.prog Tryz.f5 (OpenSpec.ofChange Rows.stateApartSpec) false w args) (Rows.stateApartSpec.post enc Tryz.prog Tryz.f5 false true false false):=by
  refine returnsInHanded_of_change_and (C:=Tryz.checked) (X:=fun w _=>laidMetH Tryz.prog laid w) (fun _ _ _ hh h=>h.of_heap hh) own started (by kernel_rfl) Tryz.func5
    (ChangeSpec.witness_shaped (enc:=enc) (C:=Tryz.checked) (os:=os) (X:=fun w _=>laidMetH Tryz.prog laid w) false (World.laidAll Tryz.prog os laid) #[.agg #[.slice none 0 0, .slice none 0 0, .slice none 0 0, .int .i64 0, .slice none 0 0, .slice none 0 0, .slice none 0 0, .int .i64 0, .slice none 0 0, .slice none 0 0], .agg #[.slice none 0 0, .slice none 0 0, .slice none 0 0, .int .i64 0, .slice none 0 0, .slice none 0 0, .slice none 0 0, .int .i64 0, .slice none 0 0, .slice none 0 0], .int .u64 0, .slice none 0 0] 8 (World.laidAll_os _ _ _)
      (World.shaped_of_ZipB (by kernel_rfl) (by kernel_rfl)) (by kernel_rfl) (by kernel_rfl) (by kernel_rfl)
      (by rw [MakeChecks.laidMetH_plain _ _ _ (by kernel_rfl)];exact laidMet_laidAll _ (by kernel_rfl) (by kernel_rfl))) ?_
  intro W base args ds gs before Tk hW bB0 RT hX _
  have hval:∀(j:Nat) t v,Tryz.f5.params[j]?=some t→args[j]?=some v→Value.okWide Tryz.prog W .any base t v:=Tk
  have hsz:(DataW.weightsEach Tryz.prog (Tryz.f5.params.toList++Rows.stateApartSpec.plain.varTypes Tryz.prog) (ds++gs)).all (· ≤reachBytes)=true:=RT
  have hW':=hW
  obtain ⟨p,q,oN,hV,rfl,hfz,hnd⟩:=hW
  have hA:DataW.TrodAll enc Tryz.prog W 0 (fun _=>true) true Tryz.f5.params.toList args.toList ds p:=oN
  rw [Tryz.params5] at hA hval hsz
  obtain ⟨v0,vs0,d0,ds0,p0,q0,hargs,rfl,rfl,h0,r0⟩:=trodAll_cons hA
  obtain ⟨v1,vs1,d1,ds1,p1,q1,rfl,rfl,rfl,h1,r1⟩:=trodAll_cons r0
  obtain ⟨v2,vs2,d2,ds2,p2,q2,rfl,rfl,rfl,h2,r2⟩:=trodAll_cons r1
  obtain ⟨v3,vs3,d3,ds3,p3,q3,rfl,rfl,rfl,h3,r3⟩:=trodAll_cons r2
  obtain ⟨rfl,rfl,rfl⟩:=trodAll_nil r3
  obtain rfl:args= #[v0,v1,v2,v3]:=by cases args;simp_all
  obtain ⟨rfl,rfl⟩:=trodVars_none hV
  have lt0:∀x∈p0,x.block<W.heap.size:=by obtain ⟨m,hm⟩:=h0;exact DataW.trod_lt m _ _ _ hm
  obtain ⟨a0,w0⟩:=JR Tj Tryz.underlying31 (hval 0 31 v0 rfl rfl) h0 (uO hsz (j:=0) rfl rfl)
  have lt1:∀x∈p1,x.block<W.heap.size:=by obtain ⟨m,hm⟩:=h1;exact DataW.trod_lt m _ _ _ hm
  obtain ⟨a1,w1⟩:=JR Tj Tryz.underlying31 (hval 1 31 v1 rfl rfl) h1 (uO hsz (j:=1) rfl rfl)
  have lt2:∀x∈p2,x.block<W.heap.size:=by obtain ⟨m,hm⟩:=h2;exact DataW.trod_lt m _ _ _ hm
  obtain ⟨a2,w2⟩:=JS (q:=fun a2:pz .u64=>ag .u64 a2.1) (dY.G8 (k:= .u64) Tryz.underlying58) Tryz.ah7.out (fun _=>rfl) (hval 2 58 v2 rfl rfl) h2 (uO hsz (j:=2) rfl rfl)
  have lt3:∀x∈p3,x.block<W.heap.size:=by obtain ⟨m,hm⟩:=h3;exact DataW.trod_lt m _ _ _ hm
  obtain ⟨a3,w3⟩:=JS (q:=fun a3:_=>ai 1 aj a3) (dY.slice (enc:=aj) Tryz.underlying59 Tryz.Wj.out (by kernel_rfl) (by kernel_rfl) (show dY Tryz.prog 5 aj from (dY.u8 Tryz.underlying5))) Tryz.ah8.out (fun _=>rfl) (hval 3 59 v3 rfl rfl) h3 (uO hsz (j:=3) rfl rfl)
  clear oN Tk
  have hall:gN [aC (yW a0),aC (yW a1),ag .u64 a2.1,ai 1 aj a3] (fun k=>k<W.heap.size) W [v0,v1,v2,v3]:=(.cat (.one w0) (.cat (.one w1) (.cat (.one w2) (.cat (.one w3) gN.nil))))
  refine (KX (xw (x:=a0) (y:=a1) (v:=a2) (b:=a3)) hall).mono fun e W' ⟨he,bel⟩=> ?_
  subst he
  exact ⟨_,rfl,_,_,_,[],_,[],hW',trodAll_mk1 (shut_bool Tryz.underlying4 _),(trodAll_cons_mk (Below.trod laidOut (by kernel_rfl) (of_decide_eq_true (by kernel_rfl)) h0 bel lt0) (trodAll_cons_mk (Below.trod laidOut (by kernel_rfl) (of_decide_eq_true (by kernel_rfl)) h1 bel lt1) (trodAll_cons_mk (Below.trod laidOut (by kernel_rfl) (of_decide_eq_true (by kernel_rfl)) h2 bel lt2) (trodAll_cons_mk (Below.trod laidOut (by kernel_rfl) (of_decide_eq_true (by kernel_rfl)) h3 bel lt3) trodAll_mk0)))),rfl,bel.frame _,fun h=>by cases h⟩
end Go.Proofs.YtpfobikpggmleaaGreatDoor.stateApartLaw
end
