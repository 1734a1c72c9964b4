/-
  What the statement's proof leans on, several texts in one (packed by a program).
-/
import Derived.Test.YtpfobikpggmleaaGreatDoorSRU
import Derived.Test.YtpfobikpggmleaaGreatDoorRows
import Derived.ProofKit
import Derived.ShutString
import Derived.LaidMore
import Derived.Lay
import Derived.SevenTiedAt
import Derived.Stop.Joined
import Derived.Test.YtpfobikpggmleaaGreatDoorTie
import Derived.Test.YtpfobikpggmleaaGreatDoorCards
set_option linter.all false
set_option maxRecDepth 1000000
set_option maxHeartbeats 4000000
section
namespace Go.Proofs.YtpfobikpggmleaaGreatDoor.stateRoomsLaw
open Go.ChangeShapes Go.WideShapes Go.ChangeAt Go.RowKit Go.Hl
open Go.ChangeMaps (open_string shut_string)
theorem own:ownKnob Tryz.prog.godebug=none:=by kernel_rfl
theorem laidOut:laidOutB Tryz.prog=true:=by kernel_rfl
def laid:List (String×DataW Unit):=[("unicode/utf8.acceptRanges",Rows.laid_unicode_utf8_acceptRanges),("unicode/utf8.first",Rows.laid_unicode_utf8_first)]
theorem Um:dP Tryz.prog 98 cj:=
 dP.via (dP.struct Tryz.underlying98 Tryz.SG.out (.cons (by kernel_rfl) Tryz.Nh.out (dP.slice (enc:=aj) Tryz.underlying59 Tryz.Uv.out (by kernel_rfl) (by kernel_rfl) (show dP Tryz.prog 5 aj from (dP.u8 Tryz.underlying5))) (.cons (by kernel_rfl) Tryz.Nh.out (dP.slice (enc:=aj) Tryz.underlying59 Tryz.Uv.out (by kernel_rfl) (by kernel_rfl) (show dP Tryz.prog 5 aj from (dP.u8 Tryz.underlying5))) .nil))) (fun p=>⟨p.1,p.2.1⟩) (fun _=>rfl)
theorem Ro:dP Tryz.prog 185 jl:=
 dP.via (dP.struct Tryz.underlying185 Tryz.O6.out (.cons (by kernel_rfl) Tryz.XJ.out (dP.str Tryz.underlying9) (.cons (by kernel_rfl) Tryz.XJ.out (dP.str Tryz.underlying9) (.cons (by kernel_rfl) Tryz.J5.out (dP.int (k:= .i64) Tryz.underlying3) .nil)))) (fun p=>⟨p.1,p.2.1,p.2.2.1⟩) (fun _=>rfl)
theorem Rp:dP Tryz.prog 244 uI:=
 dP.via (dP.struct Tryz.underlying244 Tryz.O8.out (.cons (by kernel_rfl) Tryz.J5.out (dP.int (k:= .i64) Tryz.underlying3) (.cons (by kernel_rfl) Tryz.HT.out (dP.D2 (k:= .u64) Tryz.underlying58) (.cons (by kernel_rfl) Tryz.HT.out (dP.D2 (k:= .u64) Tryz.underlying58) (.cons (by kernel_rfl) Tryz.J5.out (dP.int (k:= .i64) Tryz.underlying3) (.cons (by kernel_rfl) Tryz.X4.out (dP.slice (enc:=vX) Tryz.underlying60 Tryz.HT.out (by kernel_rfl) (by kernel_rfl) (show dP Tryz.prog 58 vX from (dP.D2 (k:= .u64) Tryz.underlying58))) .nil)))))) (fun p=>PG p.1 p.2.1 p.2.2.1 p.2.2.2.1 p.2.2.2.2.1) (fun p=>JX p.1 p.2.1 p.2.2.1 p.2.2.2.1 p.2.2.2.2.1)
theorem Rq:dP Tryz.prog 103 x8:=
 dP.via (dP.struct Tryz.underlying103 Tryz.O1.out (.cons (by kernel_rfl) Tryz.Nh.out (dP.slice (enc:=aj) Tryz.underlying59 Tryz.Uv.out (by kernel_rfl) (by kernel_rfl) (show dP Tryz.prog 5 aj from (dP.u8 Tryz.underlying5))) (.cons (by kernel_rfl) Tryz.SH.out (dP.slice (enc:=uI) Tryz.underlying101 Tryz.O8.out (by kernel_rfl) (by kernel_rfl) Rp) .nil))) (fun p=>Hw p.1 p.2.1) (fun p=>DM p.1 p.2.1)
theorem Rr:dP Tryz.prog 105 qn:=
 dP.via (dP.struct Tryz.underlying105 Tryz.O2.out (.cons (by kernel_rfl) Tryz.J5.out (dP.int (k:= .i64) Tryz.underlying3) (.cons (by kernel_rfl) Tryz.O1.out Rq .nil))) (fun p=>OK p.1 p.2.1) (fun _=>rfl)
theorem Rs:dP Tryz.prog 141 ew:=
 dP.via (dP.struct Tryz.underlying141 Tryz.O3.out (.cons (by kernel_rfl) Tryz.J5.out (dP.int (k:= .i64) Tryz.underlying3) (.cons (by kernel_rfl) Tryz.J5.out (dP.int (k:= .i64) Tryz.underlying3) (.cons (by kernel_rfl) Tryz.cz4.out (dP.bool Tryz.underlying4) .nil)))) (fun p=>⟨p.1,p.2.1,p.2.2.1⟩) (fun _=>rfl)
theorem Un:dP Tryz.prog 81 qo:=
 dP.via (dP.struct Tryz.underlying81 Tryz.SF.out (.cons (by kernel_rfl) Tryz.X7.out (dP.u8 Tryz.underlying79) (.cons (by kernel_rfl) Tryz.cz4.out (dP.bool Tryz.underlying4) (.cons (by kernel_rfl) Tryz.HT.out (dP.D2 (k:= .u64) Tryz.underlying58) .nil)))) (fun p=>OL p.1 p.2.1 p.2.2.1) (fun _=>rfl)
theorem Rt:dP Tryz.prog 190 dK:=
 dP.via (dP.struct Tryz.underlying190 Tryz.O7.out (.cons (by kernel_rfl) Tryz.XJ.out (dP.str Tryz.underlying9) (.cons (by kernel_rfl) Tryz.J5.out (dP.int (k:= .i64) Tryz.underlying3) (.cons (by kernel_rfl) Tryz.J5.out (dP.int (k:= .i64) Tryz.underlying3) .nil)))) (fun p=>⟨p.1,p.2.1,p.2.2.1⟩) (fun _=>rfl)
theorem Ru:dP Tryz.prog 147 qp:=
 dP.via (dP.struct Tryz.underlying147 Tryz.O4.out (.cons (by kernel_rfl) Tryz.HT.out (dP.D2 (k:= .u64) Tryz.underlying58) (.cons (by kernel_rfl) Tryz.X5.out (dP.slice (enc:=jf) Tryz.underlying61 Tryz.J5.out (by kernel_rfl) (by kernel_rfl) (show dP Tryz.prog 3 jf from (dP.int (k:= .i64) Tryz.underlying3))) .nil))) (fun p=>OM p.1 p.2.1) (fun _=>rfl)
theorem Rv:dP Tryz.prog 151 tC:=
 dP.via (dP.struct Tryz.underlying151 Tryz.O5.out (.cons (by kernel_rfl) Tryz.J5.out (dP.int (k:= .i64) Tryz.underlying3) (.cons (by kernel_rfl) Tryz.HT.out (dP.D2 (k:= .u64) Tryz.underlying58) (.cons (by kernel_rfl) Tryz.Nh.out (dP.slice (enc:=aj) Tryz.underlying59 Tryz.Uv.out (by kernel_rfl) (by kernel_rfl) (show dP Tryz.prog 5 aj from (dP.u8 Tryz.underlying5))) .nil)))) (fun p=>Rl p.1 p.2.1 p.2.2.1) (fun _=>rfl)
theorem Uo:dP Tryz.prog 31 Bh:=
 dP.via (dP.struct Tryz.underlying31 Tryz.XS.out (.cons (by kernel_rfl) Tryz.XK.out (dP.slice (enc:=cj) Tryz.underlying22 Tryz.SG.out (by kernel_rfl) (by kernel_rfl) Um) (.cons (by kernel_rfl) Tryz.XL.out (dP.slice (enc:=jl) Tryz.underlying23 Tryz.O6.out (by kernel_rfl) (by kernel_rfl) Ro) (.cons (by kernel_rfl) Tryz.XM.out (dP.slice (enc:=qn) Tryz.underlying24 Tryz.O2.out (by kernel_rfl) (by kernel_rfl) Rr) (.cons (by kernel_rfl) Tryz.J5.out (dP.int (k:= .i64) Tryz.underlying3) (.cons (by kernel_rfl) Tryz.XN.out (dP.slice (enc:=ew) Tryz.underlying25 Tryz.O3.out (by kernel_rfl) (by kernel_rfl) Rs) (.cons (by kernel_rfl) Tryz.XO.out (dP.slice (enc:=qo) Tryz.underlying26 Tryz.SF.out (by kernel_rfl) (by kernel_rfl) Un) (.cons (by kernel_rfl) Tryz.XP.out (dP.slice (enc:=dK) Tryz.underlying27 Tryz.O7.out (by kernel_rfl) (by kernel_rfl) Rt) (.cons (by kernel_rfl) Tryz.J5.out (dP.int (k:= .i64) Tryz.underlying3) (.cons (by kernel_rfl) Tryz.XQ.out (dP.slice (enc:=qp) Tryz.underlying28 Tryz.O4.out (by kernel_rfl) (by kernel_rfl) Ru) (.cons (by kernel_rfl) Tryz.XR.out (dP.slice (enc:=tC) Tryz.underlying29 Tryz.O5.out (by kernel_rfl) (by kernel_rfl) Rv) .nil))))))))))) (fun p=>Mx p.1 p.2.1 p.2.2.1 p.2.2.2.1 p.2.2.2.2.1 p.2.2.2.2.2.1 p.2.2.2.2.2.2.1 p.2.2.2.2.2.2.2.1 p.2.2.2.2.2.2.2.2.1 p.2.2.2.2.2.2.2.2.2.1) (fun p=>Gt p.1 p.2.1 p.2.2.1 p.2.2.2.1 p.2.2.2.2.1 p.2.2.2.2.2.1 p.2.2.2.2.2.2.1 p.2.2.2.2.2.2.2.1 p.2.2.2.2.2.2.2.2.1 p.2.2.2.2.2.2.2.2.2.1)
theorem lifted (os:Os) (started:os.Started) (H:Type) (enc:TypeId×Value→H):
    ReturnsInHanded {} Tryz.checked os 3 .any (fun w args=>(Rows.stateRoomsSpec.pre enc Tryz.prog Tryz.f3 Rows.stateRoomsRow.domain false w args∧laidMetH Tryz.prog laid w)∧sizedMet enc Tryz.prog Tryz.f3 (OpenSpec.ofChange Rows.stateRoomsSpec) false w args) (Rows.stateRoomsSpec.post enc Tryz.prog Tryz.f3 false true false false):=by
  refine returnsInHanded_of_change_and (C:=Tryz.checked) (X:=fun w _=>laidMetH Tryz.prog laid w) (fun _ _ _ hh h=>h.of_heap hh) own started (by kernel_rfl) Tryz.func3
    (ChangeSpec.witness_shaped (enc:=enc) (C:=Tryz.checked) (os:=os) (X:=fun w _=>laidMetH Tryz.prog laid w) false (World.laidAll Tryz.prog os laid) #[.agg #[.slice none 0 0, .slice none 0 0, .slice none 0 0, .int .i64 0, .slice none 0 0, .slice none 0 0, .slice none 0 0, .int .i64 0, .slice none 0 0, .slice none 0 0], .int .u16 0] 8 (World.laidAll_os _ _ _)
      (World.shaped_of_ZipB (by kernel_rfl) (by kernel_rfl)) (by kernel_rfl) (by kernel_rfl) (by kernel_rfl)
      (by rw [MakeChecks.laidMetH_plain _ _ _ (by kernel_rfl)];exact laidMet_laidAll _ (by kernel_rfl) (by kernel_rfl))) ?_
  intro W base args ds gs before PI hW bd4 Oc hX _
  have hval:∀(j:Nat) t v,Tryz.f3.params[j]?=some t→args[j]?=some v→Value.okWide Tryz.prog W .any base t v:=PI
  have hsz:(DataW.weightsEach Tryz.prog (Tryz.f3.params.toList++Rows.stateRoomsSpec.plain.varTypes Tryz.prog) (ds++gs)).all (· ≤reachBytes)=true:=Oc
  have hW':=hW
  obtain ⟨p,q,m4,hV,rfl,hfz,hnd⟩:=hW
  have hA:DataW.TrodAll enc Tryz.prog W 0 (fun _=>true) true Tryz.f3.params.toList args.toList ds p:=m4
  rw [Tryz.params3] at hA hval hsz
  obtain ⟨v0,vs0,d0,ds0,p0,q0,hargs,rfl,rfl,h0,r0⟩:=trodAll_cons hA
  obtain ⟨v1,vs1,d1,ds1,p1,q1,rfl,rfl,rfl,h1,r1⟩:=trodAll_cons r0
  obtain ⟨rfl,rfl,rfl⟩:=trodAll_nil r1
  obtain rfl:args= #[v0,v1]:=by cases args;simp_all
  obtain ⟨rfl,rfl⟩:=trodVars_none hV
  have lt0:∀x∈p0,x.block<W.heap.size:=by obtain ⟨m,hm⟩:=h0;exact DataW.trod_lt m _ _ _ hm
  obtain ⟨a0,w0⟩:=MX Uo Tryz.underlying31 (hval 0 31 v0 rfl rfl) h0 (BD hsz (j:=0) rfl rfl)
  have lt1:∀x∈p1,x.block<W.heap.size:=by obtain ⟨m,hm⟩:=h1;exact DataW.trod_lt m _ _ _ hm
  obtain ⟨a1,w1⟩:=MY (q:=fun a1:nx .u16=>ag .u16 a1.1) (dP.D2 (k:= .u16) Tryz.underlying32) Tryz.X3.out (fun _=>rfl) (hval 1 32 v1 rfl rfl) h1 (BD hsz (j:=1) rfl rfl)
  clear m4 PI
  have hall:gO [aE (Bh a0),ag .u16 a1.1] (fun k=>k<W.heap.size) W [v0,v1]:=(.cat (.one w0) (.cat (.one w1) gO.nil))
  refine (HG (uJ (x:=a0) (n:=a1)) hall).mono fun e W' ⟨he,bel⟩=> ?_
  subst he
  exact ⟨_,rfl,_,_,_,[],_,[],hW',trodAll_mk1 (shut_bool Tryz.underlying4 _),(trodAll_cons_mk (Below.trod laidOut (by kernel_rfl) (of_decide_eq_true (by kernel_rfl)) h0 bel lt0) (trodAll_cons_mk (Below.trod laidOut (by kernel_rfl) (of_decide_eq_true (by kernel_rfl)) h1 bel lt1) trodAll_mk0)),rfl,bel.frame _,fun h=>by cases h⟩
end Go.Proofs.YtpfobikpggmleaaGreatDoor.stateRoomsLaw
end
