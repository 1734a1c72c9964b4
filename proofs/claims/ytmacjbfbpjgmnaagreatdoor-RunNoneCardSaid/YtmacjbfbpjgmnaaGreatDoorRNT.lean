/-
  What the statement's proof leans on, several texts in one (packed by a program).
-/
import Derived.Test.YtmacjbfbpjgmnaaGreatDoorRNS
import Derived.Test.YtmacjbfbpjgmnaaGreatDoorRows
import Derived.ProofKit
import Derived.ShutString
import Derived.LaidMore
import Derived.Lay
import Derived.SevenTiedAt
import Derived.Stop.Joined
import Derived.Test.YtmacjbfbpjgmnaaGreatDoorTie
import Derived.Test.YtmacjbfbpjgmnaaGreatDoorCards
import Derived.Lib.LaidTab
set_option linter.all false
set_option maxRecDepth 1000000
set_option maxHeartbeats 4000000
section
namespace Go.Proofs.YtmacjbfbpjgmnaaGreatDoor.runNoneLaw
open Go.ChangeShapes Go.WideShapes Go.ChangeAt Go.RowKit Go.Hl
open Go.ChangeMaps (open_string shut_string)
theorem own:ownKnob Tryz.prog.godebug=none:=by kernel_rfl
theorem laidOut:laidOutB Tryz.prog=true:=by kernel_rfl
def laid:List (String×DataW Unit):=[("math/bits.deBruijn64tab",Rows.laid_math_bits_deBruijn64tab),("unicode/utf8.acceptRanges",Rows.laid_unicode_utf8_acceptRanges),("unicode/utf8.first",Rows.laid_unicode_utf8_first)]
theorem UJ:tC Tryz.prog 23 pT:=
 tC.via (tC.struct Tryz.underlying23 Tryz.XK.out (.cons (by kernel_rfl) Tryz.XJ.out (tC.int (k:= .i64) Tryz.underlying3) (.cons (by kernel_rfl) Tryz.XJ.out (tC.int (k:= .i64) Tryz.underlying3) (.cons (by kernel_rfl) Tryz.XJ.out (tC.int (k:= .i64) Tryz.underlying3) .nil)))) (fun p=>⟨p.1,p.2.1,p.2.2.1⟩) (fun _=>rfl)
theorem lifted(os:Os)(started:os.Started)(H:Type)(enc:TypeId×Value→H):
    ReturnsInHanded {} Tryz.checked os 3 .any (fun w args=>(Rows.runNoneSpec.pre enc Tryz.prog Tryz.f3 Rows.runNoneRow.domain false w args∧laidMetH Tryz.prog laid w)∧sizedMet enc Tryz.prog Tryz.f3 (OpenSpec.ofChange Rows.runNoneSpec) false w args) (Rows.runNoneSpec.post enc Tryz.prog Tryz.f3 false true false false):=by
  refine returnsInHanded_of_change_and (C:=Tryz.checked) (X:=fun w _=>laidMetH Tryz.prog laid w) (fun _ _ _ hh h=>h.of_heap hh) own started (by kernel_rfl) Tryz.func3
    (ChangeSpec.witness_shaped (enc:=enc) (C:=Tryz.checked) (os:=os) (X:=fun w _=>laidMetH Tryz.prog laid w) false (World.laidAll Tryz.prog os laid) #[.agg #[.int .i64 0, .int .i64 0, .int .i64 0], .int .i64 0, .slice none 0 0] 8 (World.laidAll_os _ _ _)
      (World.shaped_of_ZipB (by kernel_rfl) (by kernel_rfl)) (by kernel_rfl) (by kernel_rfl) (by kernel_rfl)
      (by rw[MakeChecks.laidMetH_plain _ _ _ (by kernel_rfl)];exact laidMet_laidAll _ (by kernel_rfl) (by kernel_rfl))) ?_
  intro W base args ds gs before Qk hW bh8 Pu hX _;have hval:∀(j:Nat) t v,Tryz.f3.params[j]?=some t→args[j]?=some v→Value.okWide Tryz.prog W .any base t v:=Qk;have hsz:(DataW.weightsEach Tryz.prog (Tryz.f3.params.toList++Rows.runNoneSpec.plain.varTypes Tryz.prog) (ds++gs)).all (· ≤reachBytes)=true:=Pu;have hW':=hW;obtain⟨p,q,NK,hV,rfl,hfz,hnd⟩:=hW;have hA:DataW.TrodAll enc Tryz.prog W 0 (fun _=>true) true Tryz.f3.params.toList args.toList ds p:=NK;rw[Tryz.params3] at hA hval hsz;obtain⟨v0,vs0,d0,ds0,p0,q0,hargs,rfl,rfl,h0,r0⟩:=trodAll_cons hA;obtain⟨v1,vs1,d1,ds1,p1,q1,rfl,rfl,rfl,h1,r1⟩:=trodAll_cons r0;obtain⟨v2,vs2,d2,ds2,p2,q2,rfl,rfl,rfl,h2,r2⟩:=trodAll_cons r1;obtain⟨rfl,rfl,rfl⟩:=trodAll_nil r2;obtain rfl:args= #[v0,v1,v2]:=by cases args;simp_all
  obtain⟨rfl,rfl⟩:=trodVars_none hV;have lt0:∀x∈p0,x.block<W.heap.size:=by obtain⟨m,hm⟩:=h0;exact DataW.trod_lt m _ _ _ hm
  obtain⟨a0,w0⟩:=NU UJ Tryz.underlying23 (hval 0 23 v0 rfl rfl) h0 (vI hsz (j:=0) rfl rfl);have lt1:∀x∈p1,x.block<W.heap.size:=by obtain⟨m,hm⟩:=h1;exact DataW.trod_lt m _ _ _ hm
  obtain⟨a1,w1⟩:=Hu (q:=fun a1:Int=>aa .i64 a1) (tC.int (k:= .i64) Tryz.underlying3) Tryz.XI.out (fun _=>rfl) (hval 1 3 v1 rfl rfl) h1 (vI hsz (j:=1) rfl rfl);have lt2:∀x∈p2,x.block<W.heap.size:=by obtain⟨m,hm⟩:=h2;exact DataW.trod_lt m _ _ _ hm
  obtain⟨a2,w2⟩:=Hu (q:=fun a2:_=>an 1 cK a2) (tC.slice (enc:=cK) Tryz.underlying24 Tryz.X4.out (by kernel_rfl) (by kernel_rfl) (show tC Tryz.prog 64 cK from(tC.int (k:= .u64) Tryz.underlying64))) Tryz.XO.out (fun _=>rfl) (hval 2 24 v2 rfl rfl) h2 (vI hsz (j:=2) rfl rfl);clear NK Qk
  have hm0:laidMet Tryz.prog [("math/bits.deBruijn64tab",Lib.tabData .u8 (Lib.deBruijn64tab.map Int.ofNat))] W:=by
    have h:=hX.filter (fun x=>x.1=="math/bits.deBruijn64tab");rw[show laid.filter (fun x=>x.1=="math/bits.deBruijn64tab")=[("math/bits.deBruijn64tab",Lib.tabData .u8 (Lib.deBruijn64tab.map Int.ofNat))] by kernel_rfl,MakeChecks.laidMetH_plain _ _ _ (by kernel_rfl)] at h;exact h
  have Pz:Lib.TabIs Tryz.prog W "math/bits.deBruijn64tab" .u8 (Lib.deBruijn64tab.map Int.ofNat):=Lib.tabIs_of_head (g:=1) (n:=64) (by kernel_rfl) (by kernel_rfl) (show Tryz.prog.underlying 455=some _ from Tryz.underlying455) (show Tryz.prog.underlying 5=some _ from Tryz.underlying5) (by kernel_rfl) (by kernel_rfl) hm0;have hvars:(nK 1 .u8 Lib.deBruijn64tab).p (fun _=>False) (fun k=>k<W.heap.size) W:=⟨World.block_lt_of_cell? _ _ (Pz.cell (by kernel_rfl) 0 (by decide)),fun j hj=>by rw[←Lp];exact Pz.cell (by kernel_rfl) j (by simpa using hj)⟩;have hall:e9 [aK (pT a0),aa .i64 a1,an 1 cK a2] (fun k=>k<W.heap.size) W [v0,v1,v2]:=(.cat (.one w0) (.cat (.one w1) (.cat (.one w2) e9.nil)));refine(E0 (yR (cfg:=a0) (f:=a1) (l:=a2)) hvars hall).mono fun e W' ⟨he,bel⟩=>?_;subst he;exact⟨_,rfl,_,_,_,[],_,[],hW',trodAll_mk1 (shut_bool Tryz.underlying4 _),(trodAll_cons_mk (Below.trod laidOut (by kernel_rfl) (of_decide_eq_true (by kernel_rfl)) h0 bel lt0) (trodAll_cons_mk (Below.trod laidOut (by kernel_rfl) (of_decide_eq_true (by kernel_rfl)) h1 bel lt1) (trodAll_cons_mk (Below.trod laidOut (by kernel_rfl) (of_decide_eq_true (by kernel_rfl)) h2 bel lt2) trodAll_mk0))),rfl,bel.frame _,fun h=>by cases h⟩
end Go.Proofs.YtmacjbfbpjgmnaaGreatDoor.runNoneLaw
end
