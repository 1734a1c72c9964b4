/-
  What the statement's proof leans on, several texts in one (packed by a program).
-/
import Derived.Test.YtpfobikpggmleaaGreatDoorSRS
set_option linter.all false
set_option maxRecDepth 1000000
set_option maxHeartbeats 4000000
section
namespace Go.Proofs.YtpfobikpggmleaaGreatDoor
open Go.Hl Go.RowKit
theorem Bf {x:au} (aq:lA x) (aT:gy x):cH Tryz.prog 113 [aE (aG x)] [] (γ:=List UInt8) (fun l=>l.length=mz x) (fun _=>[]) (fun l=>ah 1 aj l):=by
 refine In 129 Tryz.func113 fun _ _ _=> ?_
 obtain ⟨r1,r2,r3,r4,r5,r6⟩:=id aT
 have hL100:x.L.length≤100:=r6.elim (fun h=>by rw [h];simp) (fun h=>h.2)
 have m4:=aq.A0
 have Oh:=aq.vo
 have W2:=aq.B0
 have TD:=aq.WU
 have ha0:=aq.a0
 have bd0:=aq.QS
 have Y4:=r7 x.Code
 have hci:=vQ r1
 have Jb:x.Code=65→x.A≤4294967295:=fun Jb=>Classical.byContradiction fun h9=>r2 (.inr (.inl ⟨Jb,h9⟩))
 have hlA:bw x.A≤10:=cZ (by omega)
 have hlB:bw x.B≤10:=cZ (by omega)
 have J9:=cZ (n:=x.L.length) (by omega)
 have hla:bw x.cR≤10:=cZ (by omega)
 have bd1:bw (x.cR+64)≤10:=cZ (by omega)
 refine cJ ?_
 refine .p ((eC FU.out FU.out (.t rfl)).le (aa.trans (aa.int (show _=(((x.Code%256).toNat:Nat):Int) by rw [mW])) (mX (by omega)))) rfl ?_
 refine .n (cO aj [UInt8.ofNat (x.Code%256).toNat] FU.out FC.out rfl FZ.out rfl (.cons (.t rfl) .nil) rfl rfl rfl rfl rfl) rfl fun g9 _=> ?_
 refine Z3 ?_
 refine .cut (σ:=SB×List UInt8) (fun z=>[av z.1 1 aj z.2]) (fun z=>[(3,af (br z.1 z.2.length))]) (fun z=>z.2.length=mY x∧mY x≤11) ?_ ?_
 ·
  refine Z7 ?_
  refine Cd (fun c0=> ?_) fun c0=> ?_
  ·
   have hhN:mY x=1+eK (x.Code-64512).toNat:=if_pos (by omega)
   have W6:eK (x.Code-64512).toNat≤10:=cZ (by omega)
   refine Z1 ?_
   refine .n (cO aj [252] FU.out FC.out rfl FZ.out rfl (.cons (.c _) .nil) rfl rfl rfl rfl rfl) rfl fun TC _=> ?_
   refine Z4 ?_
   refine .n (cC (rest:=[_,_]) (eP (n:=(x.Code-64512).toNat) (by omega)) FB.out (.cons (.le (.t rfl) (aa.int (show x.Code-64512=(((x.Code-64512).toNat:Nat):Int) by omega))) .nil) (Perm.idx [0,1] rfl rfl)) rfl fun xo Pp=> ?_
   refine .n (aH (i:=0) FU.out FU.out FC.out rfl FZ.out rfl FY.out (.t rfl) (.t rfl) rfl (by simp only [List.length_append,List.length_cons,List.length_nil, *];(try unfold bw at*);omega) (by simp only [List.length_append,List.length_cons,List.length_nil, *];(try unfold bw at*);omega)) rfl fun zm _=> ?_
   refine Z2 ?_
   refine .own (aB.dc [0] [1] rfl rfl) (bR.meet (zm,[252]++xo) ⟨by (show ([252]++xo).length=_;rw [List.length_append,Pp,hhN];rfl),by omega⟩ rfl (.get rfl (aa.refl _) (.keep 11 rfl rfl)))
  have hhN:mY x=1:=if_neg (by omega)
  refine Z1 ?_
  refine .meet (g9,[UInt8.ofNat (x.Code%256).toNat]) ⟨by rw [hhN];rfl,by omega⟩ rfl (.get rfl (aa.refl _) (.keep 3 rfl rfl))
 intro hd ⟨Oi,bd2⟩
 refine .cut (σ:=SB×List UInt8) (fun z=>[av z.1 1 aj z.2]) (fun z=>[(3,af (br z.1 z.2.length))]) (fun z=>z.2.length=mz x) ?_ ?_
 ·
  refine Z4 ?_
  refine .p (cA (h:=iu)) rfl ?_
  refine Z9 ?_
  refine Cd (fun c1=> ?_) fun c1=> ?_
  ·
   refine Z4 ?_
   refine .p ((eC FU.out FU.out (.t rfl)).le (aa.trans (aa.int (show _=(((x.A%256).toNat:Nat):Int) by rw [mW])) (mX (by omega)))) rfl ?_
   refine .p (cB aj [UInt8.ofNat (x.A%256).toNat]) rfl ?_
   refine .n (aH (i:=0) FU.out FU.out FC.out rfl FZ.out rfl FY.out (.t rfl) (.t rfl) rfl (by simp only [List.length_append,List.length_cons,List.length_nil, *];(try unfold bw at*);omega) (by simp only [List.length_append,List.length_cons,List.length_nil, *];(try unfold bw at*);omega)) rfl fun RM _=> ?_
   refine Z3 ?_
   refine .meet (RM,hd.2++[UInt8.ofNat (x.A%256).toNat]) (by (show ((RM,hd.2++[UInt8.ofNat (x.A%256).toNat])).2.length=mz x;simp only [List.length_append];rw [Oi];rw [fM];rw [if_pos c1];rfl)) rfl (.get rfl (aa.refl _) (.keep 12 rfl rfl))
  refine .cut (σ:=Unit) (fun _=>[av hd.1 1 aj hd.2]) (fun _=>[(31,ak (aQ x.Code=2∨aQ x.Code=4∨aQ x.Code=6∨aQ x.Code=7∨aQ x.Code=9))]) (fun _=>True) ?_ ?_
  ·
   refine Z6 ?_
   refine Cd (fun c2=> ?_) fun c2=> ?_
   ·
    refine Z1 ?_
    refine .meet () trivial rfl (.get rfl (aa.prop (by omega)) (.keep 2 rfl rfl))
   refine Z6 ?_
   refine Cd (fun c3=> ?_) fun c3=> ?_
   ·
    refine Z1 ?_
    refine .meet () trivial rfl (.get rfl (aa.prop (by omega)) (.keep 4 rfl rfl))
   refine Z6 ?_
   refine Cd (fun c4=> ?_) fun c4=> ?_
   ·
    refine Z1 ?_
    refine .meet () trivial rfl (.get rfl (aa.prop (by omega)) (.keep 6 rfl rfl))
   refine Z6 ?_
   refine Cd (fun c5=> ?_) fun c5=> ?_
   ·
    refine Z1 ?_
    refine .meet () trivial rfl (.get rfl (aa.prop (by omega)) (.keep 8 rfl rfl))
   refine Z4 ?_
   refine .meet () trivial rfl (.get rfl (aa.prop (by omega)) (.keep 10 rfl rfl))
  intro _ _
  refine Cd (fun c6=> ?_) fun c6=> ?_
  ·
   refine Z4 ?_
   refine .n (cC (rest:=[_]) (eP (n:=x.A.toNat) (by omega)) FB.out (.cons (.le (.t rfl) (aa.int (show x.A=(((x.A).toNat:Nat):Int) by omega))) .nil) (Perm.idx [0] rfl rfl)) rfl fun tj PA=> ?_
   refine .n (aH (i:=0) FU.out FU.out FC.out rfl FZ.out rfl FY.out (.t rfl) (.t rfl) rfl (by simp only [List.length_append,List.length_cons,List.length_nil, *];(try unfold bw at*);omega) (by simp only [List.length_append,List.length_cons,List.length_nil, *];(try unfold bw at*);omega)) rfl fun WJ _=> ?_
   refine Z3 ?_
   refine .meet (WJ,hd.2++tj) (by (show ((WJ,hd.2++tj)).2.length=mz x;simp only [List.length_append];rw [Oi,PA];rw [fM];rw [if_neg c1,if_pos c6];rfl)) rfl (.get rfl (aa.refl _) (.keep 12 rfl rfl))
  refine Z6 ?_
  refine Cd (fun c7=> ?_) fun c7=> ?_
  ·
   refine Z7 ?_
   refine .n (cE (h:=eP (n:=x.L.length) (by omega))) rfl fun QI WM=> ?_
   refine .n (aH (i:=0) FU.out FU.out FC.out rfl FZ.out rfl FY.out (.t rfl) (.t rfl) rfl (by simp only [List.length_append,List.length_cons,List.length_nil, *];(try unfold bw at*);omega) (by simp only [List.length_append,List.length_cons,List.length_nil, *];(try unfold bw at*);omega)) rfl fun Tu _=> ?_
   refine cJ ?_
   refine .aY (σ:=Nat×SB×List UInt8) (fun z=>[av z.2.1 1 aj z.2.2]) (fun z=>[(3,af (br z.2.1 z.2.2.length)),(4,ag .i64 (z.1:Int))]) (fun z=>z.1≤x.L.length∧z.2.2.length=mY x+eK x.L.length+qk (x.L.take z.1)) (fun z=>x.L.length-z.1) (0,Tu,hd.2++QI) ⟨Nat.zero_le _,by (show (hd.2++QI).length=_;rw [List.length_append,Oi,WM];simp [qk])⟩ rfl ?_ ?_
   · exact (.get rfl (aa.refl _) (.get rfl (aa.refl _) (.refl _ _)))
   rintro ⟨j,g1,ys⟩ ⟨hj,hys⟩
   simp only at hj hys ⊢
   have Y3:=oE (x.L.take j) (fun n hn=>⟨aq.L0 n (List.mem_of_mem_take hn),by have h9:n≤4294967295:=r5 n (List.mem_of_mem_take hn);omega⟩)
   rw [List.length_take] at Y3
   refine cJ ?_
   refine Cd (fun c8=> ?_) fun c8=> ?_
   ·
    obtain ⟨y,hy⟩:=ai (xs:=x.L) (k:=j) (by omega)
    have hy0:=aq.L0 y (List.mem_of_getElem? hy)
    have hy1:y≤4294967295:=r5 y (List.mem_of_getElem? hy)
    have Qk:eK y.toNat≤10:=cZ (by omega)
    refine Z9 ?_
    refine .p (cI j (h:=hy)) rfl ?_
    refine Z1 ?_
    refine .n (cC (rest:=[_]) (eP (n:=y.toNat) (by omega)) FB.out (.cons (.le (.t rfl) (aa.int (show y=(((y).toNat:Nat):Int) by omega))) .nil) (Perm.idx [0] rfl rfl)) rfl fun g64 QF=> ?_
    refine .n (aH (i:=0) FU.out FU.out FC.out rfl FZ.out rfl FY.out (.t rfl) (.t rfl) rfl (by simp only [List.length_append,List.length_cons,List.length_nil, *];(try unfold bw at*);omega) (by simp only [List.length_append,List.length_cons,List.length_nil, *];(try unfold bw at*);omega)) rfl fun Y5 _=> ?_
    refine Z9 ?_
    refine .round (j+1,Y5,ys++g64) ⟨by show j+1≤_;omega,by (show (ys++g64).length=_;rw [List.length_append,QF,hys,←bt hy,zC];unfold bw;omega)⟩ (by show x.L.length-(j+1)<x.L.length-j;omega) rfl ?_
    exact (.get rfl (aa.refl _) (.get rfl (aa.int (by show (_:Int)=((j+1:Nat):Int);omega)) ((.keep 19 rfl rfl))))
   have hjl:x.L.take j=x.L:=List.take_of_length_le (by omega)
   rw [hjl] at hys Y3
   refine Z9 ?_
   refine .n (cC (rest:=[_]) (eP (n:=x.A.toNat) (by omega)) FB.out (.cons (.le (.t rfl) (aa.int (show x.A=(((x.A).toNat:Nat):Int) by omega))) .nil) (Perm.idx [0] rfl rfl)) rfl fun g69 h69=> ?_
   refine .n (aH (i:=0) FU.out FU.out FC.out rfl FZ.out rfl FY.out (.t rfl) (.t rfl) rfl (by simp only [List.length_append,List.length_cons,List.length_nil, *];(try unfold bw at*);omega) (by simp only [List.length_append,List.length_cons,List.length_nil, *];(try unfold bw at*);omega)) rfl fun g70 _=> ?_
   refine Z3 ?_
   refine .meet (g70,ys++g69) (by (show ((g70,ys++g69)).2.length=mz x;simp only [List.length_append];rw [hys,h69];rw [fM];rw [if_neg c1,if_neg c6,if_pos c7];unfold bw;omega)) rfl (.get rfl (aa.refl _) (.keep 30 rfl rfl))
  refine .cut (σ:=Unit) (fun _=>[av hd.1 1 aj hd.2]) (fun _=>[(71,ak (aQ x.Code=5∨aQ x.Code=10))]) (fun _=>True) ?_ ?_
  ·
   refine Z6 ?_
   refine Cd (fun c9=> ?_) fun c9=> ?_
   ·
    refine Z1 ?_
    refine .meet () trivial rfl (.get rfl (aa.prop (by omega)) (.keep 2 rfl rfl))
   refine Z4 ?_
   refine .meet () trivial rfl (.get rfl (aa.prop (by omega)) (.keep 4 rfl rfl))
  intro _ _
  refine Cd (fun jH=> ?_) fun jH=> ?_
  ·
   refine .bG [(0,0),(1,0),(2,0),(5,0),(6,0),(3,2),(4,2)] 7 3 FM.out (by kernel_rfl) (k:= ?_)
   refine Z5 ?_
   refine .e rfl (cC (rest:=[_]) (eP (n:=x.A.toNat) (by omega)) FB.out (.cons (.le (.t rfl) (aa.int (show x.A=(((x.A).toNat:Nat):Int) by omega))) .nil) (Perm.idx [0] rfl rfl)) fun g77 h77=> ?_
   refine .e rfl (aH (i:=0) FU.out FU.out FC.out rfl FZ.out rfl FY.out (.t rfl) (.t rfl) rfl (by simp only [List.length_append,List.length_cons,List.length_nil, *];(try unfold bw at*);omega) (by simp only [List.length_append,List.length_cons,List.length_nil, *];(try unfold bw at*);omega)) fun g78 _=> ?_
   refine .fin ?_
   refine .n (cC (rest:=[_]) (eP (n:=x.B.toNat) (by omega)) FB.out (.cons (.le (.t rfl) (aa.int (show x.B=(((x.B).toNat:Nat):Int) by omega))) .nil) (Perm.idx [0] rfl rfl)) rfl fun g81 h81=> ?_
   refine .n (aH (i:=0) FU.out FU.out FC.out rfl FZ.out rfl FY.out (.t rfl) (.t rfl) rfl (by simp only [List.length_append,List.length_cons,List.length_nil, *];(try unfold bw at*);omega) (by simp only [List.length_append,List.length_cons,List.length_nil, *];(try unfold bw at*);omega)) rfl fun R3 _=> ?_
   refine Z3 ?_
   refine .meet (R3,(hd.2++g77)++g81) (by (show ((R3,(hd.2++g77)++g81)).2.length=mz x;simp only [List.length_append];rw [Oi,h77,h81];rw [fM];rw [if_neg c1,if_neg c6,if_neg c7,if_pos jH];unfold bw;omega)) rfl (.get rfl (aa.refl _) (.keep 19 rfl rfl))
  refine Z6 ?_
  refine Cd (fun lH=> ?_) fun lH=> ?_
  ·
   refine .cut (σ:=SB×List UInt8) (fun z=>[av z.1 1 aj z.2]) (fun z=>[(3,af (br z.1 z.2.length))]) (fun z=>z.2.length=mY x+(if x.A=0 then bw x.cR else bw (x.cR+64)+bw x.A)) ?_ ?_
   ·
    refine Z7 ?_
    refine Cd (fun nj=> ?_) fun nj=> ?_
    ·
     refine Z5 ?_
     refine .n (cC (rest:=[_]) (eP (n:=x.cR.toNat) (by omega)) FB.out (.cons (.le (.t rfl) (aa.int (show x.cR=(((x.cR).toNat:Nat):Int) by omega))) .nil) (Perm.idx [0] rfl rfl)) rfl fun Pz QW=> ?_
     refine .n (aH (i:=0) FU.out FU.out FC.out rfl FZ.out rfl FY.out (.t rfl) (.t rfl) rfl (by simp only [List.length_append,List.length_cons,List.length_nil, *];(try unfold bw at*);omega) (by simp only [List.length_append,List.length_cons,List.length_nil, *];(try unfold bw at*);omega)) rfl fun g93 _=> ?_
     refine Z2 ?_
     refine .meet (g93,hd.2++Pz) (by (show (hd.2++Pz).length=_;rw [if_pos nj,List.length_append,Oi,QW];rfl)) rfl (.get rfl (aa.refl _) (.keep 10 rfl rfl))
    refine .bG [(0,0),(1,0),(2,0),(3,0),(4,0),(7,0),(8,0),(5,2),(6,2)] 9 3 FM.out (by kernel_rfl) (k:= ?_)
    refine Z7 ?_
    refine .e rfl (cC (rest:=[_]) (eP (n:=(x.cR+64).toNat) (by omega)) FB.out (.cons (.le (.t rfl) (aa.int (show x.cR+64=(((x.cR+64).toNat:Nat):Int) by omega))) .nil) (Perm.idx [0] rfl rfl)) fun g99 h99=> ?_
    refine .e rfl (aH (i:=0) FU.out FU.out FC.out rfl FZ.out rfl FY.out (.t rfl) (.t rfl) rfl (by simp only [List.length_append,List.length_cons,List.length_nil, *];(try unfold bw at*);omega) (by simp only [List.length_append,List.length_cons,List.length_nil, *];(try unfold bw at*);omega)) fun T5 _=> ?_
    refine .fin ?_
    refine .n (cC (rest:=[_]) (eP (n:=x.A.toNat) (by omega)) FB.out (.cons (.le (.t rfl) (aa.int (show x.A=(((x.A).toNat:Nat):Int) by omega))) .nil) (Perm.idx [0] rfl rfl)) rfl fun Ug Zz=> ?_
    refine .n (aH (i:=0) FU.out FU.out FC.out rfl FZ.out rfl FY.out (.t rfl) (.t rfl) rfl (by simp only [List.length_append,List.length_cons,List.length_nil, *];(try unfold bw at*);omega) (by simp only [List.length_append,List.length_cons,List.length_nil, *];(try unfold bw at*);omega)) rfl fun ZA _=> ?_
    refine Z2 ?_
    refine .meet (ZA,(hd.2++g99)++Ug) (by (show ((hd.2++g99)++Ug).length=_;rw [if_neg nj,List.length_append,List.length_append,Oi,h99,Zz];unfold bw;omega)) rfl (.get rfl (aa.refl _) (.keep 15 rfl rfl))
   intro mm WT
   have bd3:mm.2.length≤40:=by rw [WT];split<;>omega
   refine Z4 ?_
   refine .n (cC (rest:=[_]) (eP (n:=x.B.toNat) (by omega)) FB.out (.cons (.le (.t rfl) (aa.int (show x.B=(((x.B).toNat:Nat):Int) by omega))) .nil) (Perm.idx [0] rfl rfl)) rfl fun Mu Mv=> ?_
   refine .n (aH (i:=0) FU.out FU.out FC.out rfl FZ.out rfl FY.out (.t rfl) (.t rfl) rfl (by simp only [List.length_append,List.length_cons,List.length_nil, *];(try unfold bw at*);omega) (by simp only [List.length_append,List.length_cons,List.length_nil, *];(try unfold bw at*);omega)) rfl fun Uh _=> ?_
   refine Z3 ?_
   refine .meet (Uh,mm.2++Mu) (by (show ((Uh,mm.2++Mu)).2.length=mz x;simp only [List.length_append];rw [WT,Mv];rw [fM];rw [if_neg c1,if_neg c6,if_neg c7,if_neg jH,if_pos lH];unfold Fs bw;omega)) rfl (.get rfl (aa.refl _) (.keep 18 rfl rfl))
  refine Z6 ?_
  refine Cd (fun qJ=> ?_) fun qJ=> ?_
  ·
   refine Z4 ?_
   refine .p ((eC FU.out FU.out (.t rfl)).le (aa.int (Hp m4 Oh))) rfl ?_
   refine Z3 ?_
   refine .cut (σ:=Unit) (fun _=>[av hd.1 1 aj hd.2]) (fun _=>[(5,ag .i64 (jo x))]) (fun _=>True) ?_ ?_
   ·
    refine dw ?_
    refine Cd (fun oT=> ?_) fun oT=> ?_
    ·
     refine Z2 ?_
     refine .p (ja (.t rfl) (.c _) (bN (by split<;>omega) (by split<;>omega))) rfl ?_
     refine Z2 ?_
     refine .meet () trivial rfl (.get rfl (aa.int (by (have h8:=Jb oT.1;have h7:=oT.2;rw [if_pos (by omega)] at h7;unfold jo;rw [if_pos oT.1,if_pos (by omega),if_neg (by omega)]))) (.keep 10 rfl rfl))
    refine Z1 ?_
    refine .meet () trivial rfl (.get rfl (aa.int (by (unfold jo;by_cases h9:x.Code=65;(have h8:=Jb h9;rw [if_pos h9,if_pos (by omega),if_pos (Classical.byContradiction fun h=>oT ⟨h9,by rw [if_pos (by omega)];omega⟩)]);rw [if_neg h9]))) (.keep 7 rfl rfl))
   intro _ _
   have R0: -9223372036854775808≤jo x∧jo x≤9223372036854775807:=by unfold jo;split<;>(try have:=Jb (by assumption))<;>split<;>omega
   have Zj:=vM R0.1 (by omega:jo x<9223372036854775808)
   refine Z3 ?_
   refine .n (cE (h:=Gs (n:=jo x) R0.1 R0.2)) rfl fun Ui ZB=> ?_
   refine .n (aH (i:=0) FU.out FU.out FC.out rfl FZ.out rfl FY.out (.t rfl) (.t rfl) rfl (by simp only [List.length_append,List.length_cons,List.length_nil, *];(try unfold bw at*);omega) (by simp only [List.length_append,List.length_cons,List.length_nil, *];(try unfold bw at*);omega)) rfl fun Uj _=> ?_
   refine Z3 ?_
   refine .meet (Uj,hd.2++Ui) (by (show ((Uj,hd.2++Ui)).2.length=mz x;simp only [List.length_append];rw [Oi,ZB];rw [fM];rw [if_neg c1,if_neg c6,if_neg c7,if_neg jH,if_neg lH,if_pos qJ])) rfl (.get rfl (aa.refl _) (.keep 23 rfl rfl))
  refine Z2 ?_
  refine .meet hd (by (show (hd).2.length=mz x;rw [Oi];rw [fM];rw [if_neg c1,if_neg c6,if_neg c7,if_neg jH,if_neg lH,if_neg qJ];rfl)) rfl (.get rfl (aa.refl _) (.keep 13 rfl rfl))
 intro z hz
 refine Z1 ?_
 refine .fu (t:=3) (i:=0) (g:=z.1) (xs:=z.2) rfl rfl ?_
 refine Z6 ?_
 refine Post.aN rfl (z.2) (by exact hz) (fun _ _ _ h=>h) (.rt rfl) ?_
 exact aa.refl _
theorem DL {b:jm} (aq:N9 b):cH Tryz.prog 86 [aE (gB b)] [] (γ:=Int) (fun e=>e=0↔mS b) (fun _=>[]) (fun e=>bz [iC,ag .i64 e]):=by
 refine In 130 Tryz.func86 fun _ _ _=> ?_
 have yb:=aq.len
 have RB:=aq.loc
 refine iw ?_
 refine .aY (σ:=Nat) (fun _=>[]) (fun j=>[(4,ag .i64 (j:Int))]) (fun j=>j≤b.L.length∧∀x∈b.L.take j,gy x) (fun j=>b.L.length-j) 0 ⟨Nat.zero_le _,by simp⟩ rfl ?_ ?_
 · exact (.get rfl (aa.refl _) (.refl _ _))
 rintro j ⟨hj,hall⟩
 refine cJ ?_
 refine Cd (fun c0=> ?_) fun c0=> ?_
 ·
  obtain ⟨x,hx⟩:=ai (xs:=b.L) (k:=j) (by omega)
  refine Z9 ?_
  refine .p (cI j (h:=hx)) rfl ?_
  refine Z1 ?_
  refine .p (cA (h:=DK (aq.ins x (List.mem_of_getElem? hx)))) rfl ?_
  refine Z3 ?_
  refine Cd (fun c1=> ?_) fun c1=> ?_
  ·
   have hno:¬mS b:=fun h=>c1 (h.1 x (List.mem_of_getElem? hx))
   refine dH ?_
   refine Post.aZ rfl rfl (1) (by exact ⟨fun h=>by simp at h,fun h=>absurd h hno⟩) (fun _ _ _ h=>h) rfl (.cons (.rt rfl) ?_ (.cons (.rt rfl) ?_ .nil))
   · exact aa.any
   exact aa.refl _
  refine Z8 ?_
  refine .round (j+1) ⟨by omega,fun y hy=>by (rw [←bt hx] at hy;rcases List.mem_append.1 hy with hy|hy;exact hall y hy;(simp only [List.mem_singleton] at hy;subst hy;exact Classical.not_not.1 c1))⟩ (by omega) rfl ?_
  exact (.get rfl (aa.int (by omega)) ((.keep 16 rfl rfl)))
 have F8:∀x∈b.L,gy x:=fun x hx=>hall x (by rw [List.take_of_length_le (by omega)];exact hx)
 refine dH ?_
 refine .aY (σ:=Nat) (fun _=>[]) (fun j=>[(5,ag .i64 (j:Int))]) (fun j=>j≤b.aS.length∧∀t∈b.aS.take j,t=126∨t=127) (fun j=>b.aS.length-j) 0 ⟨Nat.zero_le _,by simp⟩ rfl ?_ ?_
 · exact (.get rfl (aa.refl _) (.refl _ _))
 rintro j ⟨hj2,htl⟩
 refine cJ ?_
 refine Cd (fun c2=> ?_) fun c2=> ?_
 ·
  obtain ⟨t,ht⟩:=ai (xs:=b.aS) (k:=j) (by omega)
  refine Z9 ?_
  refine .p (cI j (h:=ht)) rfl ?_
  refine Z6 ?_
  refine .g (cr.gT rfl rfl rfl rfl (fun hg=>aP (j:=j) FU.out FC.out rfl (.when (.t rfl) hg) (.when (.t rfl) hg) rfl ht)) rfl rfl ?_
  refine Z5 ?_
  refine Cd (fun c3=> ?_) fun c3=> ?_
  ·
   have hno:¬mS b:=fun h=>by (have h9:=h.2.1 t (List.mem_of_getElem? ht);rw [←Mg,←Mh] at h9;omega)
   refine dH ?_
   refine Post.aZ rfl rfl (1) (by exact ⟨fun h=>by simp at h,fun h=>absurd h hno⟩) (fun _ _ _ h=>h) rfl (.cons (.rt rfl) ?_ (.cons (.rt rfl) ?_ .nil))
   · exact aa.any
   exact aa.refl _
  refine Z8 ?_
  refine .round (j+1) ⟨by omega,fun y hy=>by (rw [←bt ht] at hy;rcases List.mem_append.1 hy with hy|hy;exact htl y hy;(simp only [List.mem_singleton] at hy;subst hy;rw [←Mg,←Mh];omega))⟩ (by omega) rfl ?_
  exact (.get rfl (aa.int (by omega)) ((.keep 23 rfl rfl)))
 have hty:∀t∈b.aS,t=126∨t=127:=fun t hx=>htl t (by rw [List.take_of_length_le (by omega)];exact hx)
 refine iw ?_
 refine Cd (fun c4=> ?_) fun c4=> ?_
 ·
  have hno:¬mS b:=fun h=>by (have h9:=h.2.2.1;omega)
  refine Z8 ?_
  refine Post.aZ rfl rfl (1) (by exact ⟨fun h=>by simp at h,fun h=>absurd h hno⟩) (fun _ _ _ h=>h) rfl (.cons (.rt rfl) ?_ (.cons (.rt rfl) ?_ .nil))
  · exact aa.any
  exact aa.refl _
 refine Z6 ?_
 refine .n (cE (h:=DJ (l:=b.L) yb)) rfl fun RZ Tw=> ?_
 refine BY ?_
 refine Cd (fun c5=> ?_) fun c5=> ?_
 ·
  have hno:¬mS b:=fun h=>c5 (Tw.2 h.2.2.2.1)
  refine Z9 ?_
  refine Post.aZ rfl rfl (RZ) (by exact ⟨fun h=>absurd h c5,fun h=>absurd h hno⟩) (fun _ _ _ h=>h) rfl (.cons (.rt rfl) ?_ (.cons (.rt rfl) ?_ .nil))
  · exact aa.any
  exact aa.refl _
 have Tf:=Tw.1 (Classical.not_not.1 c5)
 refine Z7 ?_
 refine .dQ 1 aj ?_
 refine dH ?_
 refine .aY (σ:=Nat×SB×List UInt8×List Nat) (fun z=>[av z.2.1 1 aj z.2.2.1]) (fun z=>[(9,af (br z.2.1 z.2.2.1.length)),(10,ag .i64 (z.2.2.2.length:Int)),(11,ag .i64 (z.1:Int))]) (fun z=>z.1≤b.aS.length∧fI b.aS=z.2.2.2++fI (b.aS.drop z.1)∧z.2.2.1.length=tu z.2.2.2∧z.2.2.2.length≤z.1∧∀n∈z.2.2.2,n≤1000000) (fun z=>b.aS.length-z.1) (0,none,[],[]) ⟨Nat.zero_le _,rfl,rfl,Nat.le_refl _,by simp⟩ rfl ?_ ?_
 · exact (.get rfl (aa.of_eq rfl) (.get rfl (aa.refl _) (.get rfl (aa.refl _) (.refl _ _))))
 rintro ⟨k,g1,ys,pre⟩ ⟨hk,W9,hys,qM,PY⟩
 simp only at hk W9 hys qM PY ⊢
 have hsn:=Dx pre PY
 refine cJ ?_
 refine Cd (fun c6=> ?_) fun c6=> ?_
 ·
  obtain ⟨t,Jn⟩:=ai (xs:=b.aS) (k:=k) (by omega)
  refine dw ?_
  refine .aY (σ:=Nat) (fun _=>[av g1 1 aj ys]) (fun q=>[(12,ag .i64 (q:Int))]) (fun q=>k≤q∧q≤b.aS.length∧∀j,j<q-k→(b.aS.drop k)[j]?=some t) (fun q=>b.aS.length-q) k ⟨Nat.le_refl _,by omega,fun j hj=>by omega⟩ rfl ?_ ?_
  · exact (.get rfl (aa.refl _) (.refl _ _))
  rintro k2 ⟨Bk,hk2,hal⟩
  refine Z2 ?_
  refine .bA 16 2 FM.out (by kernel_rfl) (k:= ?_)
  refine Z9 ?_
  refine .cons (cr.gT rfl rfl rfl rfl (fun hg=>aP (j:=k2) FU.out FC.out rfl (.when (.t rfl) hg) (.when (.t rfl) hg) rfl (Hv (by omega)))) ?_
  refine Z4 ?_
  refine .cons (cr.gT rfl rfl rfl rfl (fun hg=>aP (j:=k) FU.out FC.out rfl (.when (.t rfl) hg) (.when (.t rfl) hg) rfl Jn)) ?_
  refine Z6 ?_
  refine Cd (fun c7=> ?_) fun c7=> ?_
  ·
   refine Z9 ?_
   refine .round (k2+1) ⟨by omega,by omega,fun j hj=>by (by_cases hjj:j<k2-k;exact hal j hjj;(rw [List.getElem?_drop,show k+j=k2 by omega];have h9:=c7.2;rw [zh] at h9;rw [Hv (by omega),h9]))⟩ (by omega) rfl ?_
   exact (.get rfl (aa.int (by omega)) ((.keep 22 rfl rfl)))
  have hkk:=Mi Bk Jn c7
  have hlead:=Ov hkk hk2 hal c7
  have Jq:eK (k2-k)≤10:=cZ (by omega)
  refine Z6 ?_
  refine .bG [(0,0),(1,0),(2,0),(3,0),(4,0),(7,0),(8,0),(9,0),(10,0),(11,0),(12,0),(5,2),(6,2)] 13 2 FM.out (by kernel_rfl) (k:= ?_)
  refine Z8 ?_
  refine .p rfl (fun _=>aP (j:=k) FU.out FC.out rfl (.t rfl) (.t rfl) rfl Jn) ?_
  refine Z1 ?_
  refine .p rfl (fun _=>bu (enc:=aj) [t] FU.out FC.out rfl FZ.out rfl (.cons (.t rfl) .nil) rfl rfl rfl rfl rfl) ?_
  refine .e rfl (cC (rest:=[_]) (eP (n:=k2-k) (by omega)) FB.out (.cons (.le (.t rfl) (aa.int (show (k2:Int)-(k:Int)=((k2-k:Nat):Int) by omega))) .nil) (Perm.idx [0] rfl rfl)) fun g94 h94=> ?_
  refine .e rfl (aH (i:=0) FU.out FU.out FC.out rfl FZ.out rfl FY.out (.t rfl) (.t rfl) rfl (by simp only [List.length_append,List.length_cons,List.length_nil, *];omega) (by simp only [List.length_append,List.length_cons,List.length_nil, *];omega)) fun g95 _=> ?_
  refine .fin ?_
  refine .n (aH (i:=0) FU.out FU.out FC.out rfl FZ.out rfl FY.out (.t rfl) (.t rfl) rfl (by simp only [List.length_append,List.length_cons,List.length_nil, *];omega) (by simp only [List.length_append,List.length_cons,List.length_nil, *];omega)) rfl fun ZC _=> ?_
  refine mM ?_
  refine .round (k2,ZC,(ys++g94)++[t],pre++[k2-k]) ⟨by show k2≤_;omega,by (show _=(pre++[k2-k])++fI (b.aS.drop k2);rw [W9,hlead,List.append_assoc];rfl),by (show ((ys++g94)++[t]).length=_;rw [List.length_append,List.length_append,hys,h94,JB];simp only [List.length_cons,List.length_nil];omega),by (show (pre++[k2-k]).length≤k2;rw [List.length_append];simp only [List.length_cons,List.length_nil];omega),fun n hn=>by (rcases List.mem_append.1 hn with hn|hn;exact PY n hn;(simp only [List.mem_singleton] at hn;subst hn;omega))⟩ (by show b.aS.length-k2<b.aS.length-k;omega) rfl ?_
  exact (.get rfl (aa.refl _) (.get rfl (aa.int (by simp)) (.get rfl (aa.refl _) ((.keep 49 rfl rfl)))))
 have DO:b.aS.drop k=[]:=List.drop_eq_nil_of_le (by omega)
 rw [DO,JC,List.append_nil] at W9
 refine Z6 ?_
 have hlp:eK pre.length≤10:=cZ (by omega)
 refine .fu (t:=9) (i:=0) (g:=g1) (xs:=ys) rfl rfl ?_
 refine Z3 ?_
 refine .n (cE (h:=Gr (n:=pre.length) (by omega))) rfl fun Mu Mv=> ?_
 refine Z1 ?_
 refine .n (aH (i:=0) FU.out FU.out FC.out rfl FZ.out rfl FY.out (.t rfl) (.t rfl) rfl (by rw [Mv];omega) (by rw [Mv];omega)) rfl fun ZD _=> ?_
 refine cJ ?_
 refine .aY (σ:=Nat×SB×List UInt8) (fun z=>[av z.2.1 1 aj z.2.2]) (fun z=>[(9,af (br z.2.1 z.2.2.length)),(13,ag .i64 (z.1:Int))]) (fun z=>z.1≤b.L.length∧z.2.2.length=eK pre.length+tu pre+uz (b.L.take z.1)) (fun z=>b.L.length-z.1) (0,ZD,Mu.2++ys) ⟨Nat.zero_le _,by (show (Mu.2++ys).length=_;rw [List.length_append,Mv,hys];simp [uz])⟩ rfl ?_ ?_
 · exact (.get rfl (aa.refl _) (.get rfl (aa.refl _) (.refl _ _)))
 rintro ⟨i,g2,ws⟩ ⟨hi,hzs⟩
 simp only at hi hzs ⊢
 have hsi:=AL (b.L.take i) (fun x hx=>⟨.of (aq.ins x (List.mem_of_mem_take hx)) (F8 x (List.mem_of_mem_take hx)),F8 x (List.mem_of_mem_take hx)⟩)
 rw [List.length_take] at hsi
 refine cJ ?_
 refine Cd (fun c8=> ?_) fun c8=> ?_
 ·
  obtain ⟨y,hy⟩:=ai (xs:=b.L) (k:=i) (by omega)
  have Qk:=AK (.of (aq.ins y (List.mem_of_getElem? hy)) (F8 y (List.mem_of_getElem? hy))) (F8 y (List.mem_of_getElem? hy))
  refine Z9 ?_
  refine .p (cI i (h:=hy)) rfl ?_
  refine Z1 ?_
  refine .n (cE (h:=Bf (.of (aq.ins y (List.mem_of_getElem? hy)) (F8 y (List.mem_of_getElem? hy))) (F8 y (List.mem_of_getElem? hy)))) rfl fun Uk ZE=> ?_
  refine .n (aH (i:=0) FU.out FU.out FC.out rfl FZ.out rfl FY.out (.t rfl) (.t rfl) rfl (by simp only [List.length_append,List.length_cons,List.length_nil, *];omega) (by simp only [List.length_append,List.length_cons,List.length_nil, *];omega)) rfl fun ZF _=> ?_
  refine Z9 ?_
  refine .round (i+1,ZF,ws++Uk) ⟨by show i+1≤_;omega,by (show (ws++Uk).length=_;rw [List.length_append,ZE,hzs,←bt hy,zD];omega)⟩ (by show b.L.length-(i+1)<b.L.length-i;omega) rfl ?_
  exact (.get rfl (aa.refl _) (.get rfl (aa.int (by show (_:Int)=((i+1:Nat):Int);omega)) ((.keep 19 rfl rfl))))
 have tF:b.L.take i=b.L:=List.take_of_length_le (by omega)
 rw [tF] at hzs
 have htot:ws.length=I4 b:=by rw [hzs,Mf,W9]
 refine jN ?_
 refine Cd (fun c9=> ?_) fun c9=> ?_
 ·
  refine Z8 ?_
  refine Post.aZ rfl rfl (15) (by exact ⟨fun h=>by simp at h,fun h=>by have:=h.2.2.2.2;omega⟩) (fun _ _ _ _=>trivial) rfl (.cons (.rt rfl) ?_ (.cons (.rt rfl) ?_ .nil))
  · exact aa.any
  exact aa.refl _
 refine cJ ?_
 refine Post.aZ rfl rfl (0) (by exact ⟨fun _=>⟨F8,hty,by omega,Tf,by omega⟩,fun _=>rfl⟩) (fun _ _ _ _=>trivial) rfl (.cons (.rt rfl) ?_ (.cons (.rt rfl) ?_ .nil))
 · exact aa.any
 exact aa.refl _
theorem yH {m:aU} {f:cK} {i:Nat} (aq:jP m) (aT:m.ax[i]?=some f) (dh:m.ax.length≤60000):cH Tryz.prog 40 [aE (bh m),ag .i64 ((i:Int))] [] (γ:=Int×Int×List Nat) (Rj m f) (fun _=>[]) (fun g=>aE [ag .i64 g.1,ag .i64 g.2.1,ah 1 gJ g.2.2]):=by
 refine In 51 Tryz.func40 fun _ _ _=> ?_
 have tF:=(List.getElem?_eq_some_iff.1 aT).1
 have FG:f∈m.ax:=List.mem_of_getElem? aT
 refine Z3 ?_
 refine .n (az FZ.out) rfl fun b4 _=> ?_
 refine Z5 ?_
 refine .p (cA (h:=vh (x:=m))) rfl ?_
 refine Z2 ?_
 refine .n (bg.OR (lK (.t rfl) rfl)) rfl fun n13 Mt=> ?_
 refine dw ?_
 refine Cd (fun c0=> ?_) fun c0=> ?_
 ·
  refine Z8 ?_
  refine Post.aN rfl ((0,12,[])) (by exact .inr ⟨by show (12:Int)≠0;decide,fun h=>c0 (Mt.2 h.1)⟩) (aB.dc [] [0] rfl rfl) (.ra (i:=0) FA.out FC.out rfl rfl rfl rfl) ?_
  exact aa.agg (.cons (aa.refl _) (.cons (aa.refl _) (.cons (aD 1 gJ) .nil)))
 have hfit:=Mt.1 (Classical.not_not.1 c0)
 refine BY ?_
 refine Cd (fun c1=> ?_) fun c1=> ?_
 · exfalso;omega
 refine Z7 ?_
 refine .p (cI i (h:=aT)) rfl ?_
 refine Z2 ?_
 refine .n (cE (h:=DL (aq.bd FG))) rfl fun L6 L7=> ?_
 refine iw ?_
 refine Cd (fun c2=> ?_) fun c2=> ?_
 ·
  refine Z9 ?_
  refine Post.aN rfl ((0,L6,[])) (by exact .inr ⟨c2,fun h=>c2 (L7.2 h.2.1)⟩) (aB.dc [] [0] rfl rfl) (.ra (i:=0) FA.out FC.out rfl rfl rfl rfl) ?_
  exact aa.agg (.cons (aa.refl _) (.cons (aa.refl _) (.cons (aD 1 gJ) .nil)))
 have nw:=L7.1 (Classical.not_not.1 c2)
 refine Z3 ?_
 refine .bG [(0,0),(1,0),(3,0),(4,0),(5,0),(6,0),(7,0),(8,0),(2,2)] 9 2 FM.out (by kernel_rfl) (k:= ?_)
 refine Z5 ?_
 refine .p rfl (fun _=>aP (j:=i) FU.out FC.out rfl (.t rfl) (.t rfl) rfl aT) ?_
 refine Z2 ?_
 refine .e rfl (cE (h:=JV hfit aq aT)) fun W0 Y0=> ?_
 refine .fin ?_
 refine .n (cE (h:=DG (v:=cn m f) (b:=f.Body) (T0 hfit aq FG nw) (Ms nw))) rfl fun Tu Tv=> ?_
 refine Z4 ?_
 refine Post.aN rfl (Tu) (by exact (DF nw Tv).elim (fun h=> .inl ⟨h.1,hfit,nw,h.2⟩) (fun h=> .inr ⟨h.1,fun h2=>h.2.1 h2.2⟩)) (aB.dc [] [0] rfl rfl) (.ra (i:=0) FA.out FC.out rfl rfl rfl rfl) ?_
 exact aa.refl _
theorem qm {m:aU} (aq:jP m) (aT:m.ax.length≤60000):cH Tryz.prog 13 [aE (bh m)] [] (γ:=Int) (fun n=>0≤n∧(n=0↔jE m)) (fun _=>[]) (fun n=>ag .i64 n):=by
 refine In 29 Tryz.func13 fun _ _ _=> ?_
 refine Z9 ?_
 refine .p (cA (h:=vh (x:=m))) rfl ?_
 refine Z2 ?_
 refine .n (bg.OR (lK (.t rfl) rfl)) rfl fun n11 Ul=> ?_
 refine dw ?_
 refine Cd (fun c0=> ?_) fun c0=> ?_
 ·
  refine Z7 ?_
  refine Post.aN rfl (1) (by exact ⟨by decide,fun h=>absurd h (by decide),fun h=>absurd (Ul.2 h.1) c0⟩) (fun _ _ _ h=>h) (.rt rfl) ?_
  exact aa.refl _
 have hfit:=Ul.1 (Classical.not_not.1 c0)
 refine iw ?_
 refine .aY (σ:=Nat×Nat) (fun _=>[]) (fun g=>[(5,ag .i64 (g.2:Int)),(6,ag .i64 (g.1:Int))]) (fun g=>g.1≤m.ax.length∧g.2≤g.1∧(g.2=0↔∀f∈m.ax.take g.1,oB m f)) (fun g=>m.ax.length-g.1) (0,0) ⟨Nat.zero_le _,Nat.le_refl _,by simp⟩ rfl ?_ ?_
 · exact (.get rfl (aa.refl _) (.get rfl (aa.refl _) (.refl _ _)))
 rintro ⟨j,n⟩ ⟨hj,hnj,hv⟩
 simp only at hj hnj hv ⊢
 refine cJ ?_
 refine Cd (fun c1=> ?_) fun c1=> ?_
 ·
  obtain ⟨f,hf⟩:=ai (xs:=m.ax) (k:=j) (by omega)
  refine Z8 ?_
  refine .n (cE (h:=yH aq hf aT)) rfl fun Pq h23=> ?_
  refine .p (BX (T:=120) (i:=1) (off:=1) (by kernel_rfl) Tryz.ag3.out (.t rfl) rfl) rfl ?_
  refine Z3 ?_
  refine Cd (fun c2=> ?_) fun c2=> ?_
  ·
   refine dH ?_
   refine .round (j+1,n+1) ⟨by show j+1≤_;omega,by show n+1≤j+1;omega,⟨fun h=>absurd h (by show ¬(n+1=0);omega),fun h=>absurd (h23.iff.2 ⟨hfit,h f (by rw [←bt hf];simp)⟩) c2⟩⟩ (by show m.ax.length-(j+1)<m.ax.length-j;omega) rfl ?_
   exact (.get rfl (aa.int (by show (_:Int)=((n+1:Nat):Int);omega)) (.get rfl (aa.int (by show (_:Int)=((j+1:Nat):Int);omega)) ((.keep 18 rfl rfl))))
  refine Z8 ?_
  refine .round (j+1,n) ⟨by show j+1≤_;omega,by show n≤j+1;omega,by (show n=0↔_;rw [hv,←bt hf];have h9:=(h23.iff.1 (Classical.not_not.1 c2)).2;constructor;intro h g hg;rcases List.mem_append.1 hg with hg|hg;exact h g hg;(simp only [List.mem_singleton] at hg;subst hg;exact h9);intro h g hg;exact h g (List.mem_append_left _ hg))⟩ (by show m.ax.length-(j+1)<m.ax.length-j;omega) rfl ?_
  exact (.get rfl (aa.refl _) (.get rfl (aa.int (by show (_:Int)=((j+1:Nat):Int);omega)) ((.keep 15 rfl rfl))))
 have hall:m.ax.take j=m.ax:=List.take_of_length_le (by omega)
 rw [hall] at hv
 refine dH ?_
 refine Post.aN rfl ((n:Int)) (by exact ⟨by omega,fun h=>⟨hfit,hv.1 (by omega)⟩,fun h=>by have:=hv.2 h.2;omega⟩) (fun _ _ _ h=>h) (.rt rfl) ?_
 exact aa.refl _
end Go.Proofs.YtpfobikpggmleaaGreatDoor
end
