/-
  What the statement's proof leans on, several texts in one (packed by a program).
-/
import Derived.Test.YtpfobikpggmleaaGreatDoorSBV
set_option linter.all false
set_option maxRecDepth 1000000
set_option maxHeartbeats 4000000
section
namespace Go.Proofs.YtpfobikpggmleaaGreatDoor
open Go.Hl Go.RowKit
theorem Ee{x:ay}(az:mW x)(hp1:iP x):cv Tryz.prog 113 [aC (aK x)] [] (γ:=List UInt8) (fun l=>l.length=nT x) (fun _=>[]) (fun l=>ai 1 aj l):=by
 refine In 129 Tryz.func113 fun _ _ _=>?_;obtain⟨r1,r2,r3,r4,r5,r6⟩:=id hp1;have hL100:x.L.length≤100:=r6.elim (fun h=>by rw[h];simp) (fun h=>h.2);have oR:=az.A0;have SQ:=az.yq;have hB0:=az.B0;have X5:=az.B64;have ha0:=az.a0;have bG2:=az.a31;have hfb:=uD x.Code;have hci:=yP r1;have MN:x.Code=65→x.A≤4294967295:=fun MN=>Classical.byContradiction fun h9=>r2 (.inr (.inl ⟨MN,h9⟩));have hlA:bJ x.A≤10:=dI (by omega);have hlB:bJ x.B≤10:=dI (by omega);have KP:=dI (n:=x.L.length) (by omega);have hla:bJ x.dm≤10:=dI (by omega);have bG3:bJ (x.dm+64)≤10:=dI (by omega);refine cD ?_;refine .p ((fk FU.out FU.out (.t rfl)).le (af.trans (af.int (show _=(((x.Code%256).toNat:Nat):Int) by rw[oM])) (oN (by omega)))) rfl ?_;refine .n (cg aj [UInt8.ofNat (x.Code%256).toNat] FU.out FC.out rfl FZ.out rfl (.cons (.t rfl) .nil) rfl rfl rfl rfl rfl) rfl fun g9 _=>?_;refine Z3 ?_;refine .cut (σ:=SB×List UInt8) (fun z=>[av z.1 1 aj z.2]) (fun z=>[(3,aa (bt z.1 z.2.length))]) (fun z=>z.2.length=oO x∧oO x≤11) ?_ ?_
 ·
  refine Z7 ?_;refine Cd (fun c0=>?_) fun c0=>?_
  ·
   have hhN:oO x=1+fO (x.Code-64512).toNat:=if_pos (by omega);have hhl:fO (x.Code-64512).toNat≤10:=dI (by omega);refine Z1 ?_;refine .n (cg aj [252] FU.out FC.out rfl FZ.out rfl (.cons (.c _) .nil) rfl rfl rfl rfl rfl) rfl fun g13 _=>?_;refine Z4 ?_;refine .n (cG (rest:=[_,_]) (fR (n:=(x.Code-64512).toNat) (by omega)) FB.out (.cons (.le (.t rfl) (af.int (show x.Code-64512=(((x.Code-64512).toNat:Nat):Int) by omega))) .nil) (Perm.idx [0,1] rfl rfl)) rfl fun g18 RW=>?_;refine .n (aF (i:=0) FU.out FU.out FC.out rfl FZ.out rfl FY.out (.t rfl) (.t rfl) rfl (by simp only[List.length_append,List.length_cons,List.length_nil, *];(try unfold bJ at*);omega) (by simp only[List.length_append,List.length_cons,List.length_nil, *];(try unfold bJ at*);omega)) rfl fun g19 _=>?_;refine Z2 ?_;refine .own (aB.dF [0] [1] rfl rfl) (bN.meet (g19,[252]++g18) ⟨by(show([252]++g18).length=_;rw[List.length_append,RW,hhN];rfl),by omega⟩ rfl (.get rfl (af.refl _) (.keep 11 rfl rfl)))
  have hhN:oO x=1:=if_neg (by omega);refine Z1 ?_;refine .meet (g9,[UInt8.ofNat (x.Code%256).toNat]) ⟨by rw[hhN];rfl,by omega⟩ rfl (.get rfl (af.refl _) (.keep 3 rfl rfl))
 intro hd ⟨SR,bG4⟩;refine .cut (σ:=SB×List UInt8) (fun z=>[av z.1 1 aj z.2]) (fun z=>[(3,aa (bt z.1 z.2.length))]) (fun z=>z.2.length=nT x) ?_ ?_
 ·
  refine Z4 ?_;refine .p (cA (h:=jx)) rfl ?_;refine Z9 ?_;refine Cd (fun c1=>?_) fun c1=>?_
  ·
   refine Z4 ?_;refine .p ((fk FU.out FU.out (.t rfl)).le (af.trans (af.int (show _=(((x.A%256).toNat:Nat):Int) by rw[oM])) (oN (by omega)))) rfl ?_;refine .p (cB aj [UInt8.ofNat (x.A%256).toNat]) rfl ?_;refine .n (aF (i:=0) FU.out FU.out FC.out rfl FZ.out rfl FY.out (.t rfl) (.t rfl) rfl (by simp only[List.length_append,List.length_cons,List.length_nil, *];(try unfold bJ at*);omega) (by simp only[List.length_append,List.length_cons,List.length_nil, *];(try unfold bJ at*);omega)) rfl fun Wb _=>?_;refine Z3 ?_;refine .meet (Wb,hd.2++[UInt8.ofNat (x.A%256).toNat]) (by(show((Wb,hd.2++[UInt8.ofNat (x.A%256).toNat])).2.length=nT x;simp only[List.length_append];rw[SR];rw[ir];rw[if_pos c1];rfl)) rfl (.get rfl (af.refl _) (.keep 12 rfl rfl))
  refine .cut (σ:=Unit) (fun _=>[av hd.1 1 aj hd.2]) (fun _=>[(31,ak (aV x.Code=2∨aV x.Code=4∨aV x.Code=6∨aV x.Code=7∨aV x.Code=9))]) (fun _=>True) ?_ ?_
  ·
   refine Z6 ?_;refine Cd (fun c2=>?_) fun c2=>?_
   ·
    refine Z1 ?_;refine .meet () trivial rfl (.get rfl (af.prop (by omega)) (.keep 2 rfl rfl))
   refine Z6 ?_;refine Cd (fun c3=>?_) fun c3=>?_
   ·
    refine Z1 ?_;refine .meet () trivial rfl (.get rfl (af.prop (by omega)) (.keep 4 rfl rfl))
   refine Z6 ?_;refine Cd (fun c4=>?_) fun c4=>?_
   ·
    refine Z1 ?_;refine .meet () trivial rfl (.get rfl (af.prop (by omega)) (.keep 6 rfl rfl))
   refine Z6 ?_;refine Cd (fun c5=>?_) fun c5=>?_
   ·
    refine Z1 ?_;refine .meet () trivial rfl (.get rfl (af.prop (by omega)) (.keep 8 rfl rfl))
   refine Z4 ?_;refine .meet () trivial rfl (.get rfl (af.prop (by omega)) (.keep 10 rfl rfl))
  intro _ _;refine Cd (fun c6=>?_) fun c6=>?_
  ·
   refine Z4 ?_;refine .n (cG (rest:=[_]) (fR (n:=x.A.toNat) (by omega)) FB.out (.cons (.le (.t rfl) (af.int (show x.A=(((x.A).toNat:Nat):Int) by omega))) .nil) (Perm.idx [0] rfl rfl)) rfl fun xo Wk=>?_;refine .n (aF (i:=0) FU.out FU.out FC.out rfl FZ.out rfl FY.out (.t rfl) (.t rfl) rfl (by simp only[List.length_append,List.length_cons,List.length_nil, *];(try unfold bJ at*);omega) (by simp only[List.length_append,List.length_cons,List.length_nil, *];(try unfold bJ at*);omega)) rfl fun g41 _=>?_;refine Z3 ?_;refine .meet (g41,hd.2++xo) (by(show((g41,hd.2++xo)).2.length=nT x;simp only[List.length_append];rw[SR,Wk];rw[ir];rw[if_neg c1,if_pos c6];rfl)) rfl (.get rfl (af.refl _) (.keep 12 rfl rfl))
  refine Z6 ?_;refine Cd (fun c7=>?_) fun c7=>?_
  ·
   refine Z7 ?_;refine .n (cE (h:=fR (n:=x.L.length) (by omega))) rfl fun QU QV=>?_;refine .n (aF (i:=0) FU.out FU.out FC.out rfl FZ.out rfl FY.out (.t rfl) (.t rfl) rfl (by simp only[List.length_append,List.length_cons,List.length_nil, *];(try unfold bJ at*);omega) (by simp only[List.length_append,List.length_cons,List.length_nil, *];(try unfold bJ at*);omega)) rfl fun XZ _=>?_;refine cD ?_;refine .aS (σ:=Nat×SB×List UInt8) (fun z=>[av z.2.1 1 aj z.2.2]) (fun z=>[(3,aa (bt z.2.1 z.2.2.length)),(4,ag .i64 (z.1:Int))]) (fun z=>z.1≤x.L.length∧z.2.2.length=oO x+fO x.L.length+sC (x.L.take z.1)) (fun z=>x.L.length-z.1) (0,XZ,hd.2++QU) ⟨Nat.zero_le _,by(show(hd.2++QU).length=_;rw[List.length_append,SR,QV];simp[sC])⟩ rfl ?_ ?_
   · exact(.get rfl (af.refl _) (.get rfl (af.refl _) (.refl _ _)))
   rintro⟨j,g1,ys⟩ ⟨hj,hys⟩;simp only at hj hys ⊢;have hsu:=qK (x.L.take j) (fun n hn=>⟨az.L0 n (List.mem_of_mem_take hn),by have h9:n≤4294967295:=r5 n (List.mem_of_mem_take hn);omega⟩);rw[List.length_take] at hsu;refine cD ?_;refine Cd (fun c8=>?_) fun c8=>?_
   ·
    obtain⟨y,hy⟩:=ah (xs:=x.L) (k:=j) (by omega);have hy0:=az.L0 y (List.mem_of_getElem? hy);have hy1:y≤4294967295:=r5 y (List.mem_of_getElem? hy);have O6:fO y.toNat≤10:=dI (by omega);refine Z9 ?_;refine .p (cI j (h:=hy)) rfl ?_;refine Z1 ?_;refine .n (cG (rest:=[_]) (fR (n:=y.toNat) (by omega)) FB.out (.cons (.le (.t rfl) (af.int (show y=(((y).toNat:Nat):Int) by omega))) .nil) (Perm.idx [0] rfl rfl)) rfl fun g64 U0=>?_;refine .n (aF (i:=0) FU.out FU.out FC.out rfl FZ.out rfl FY.out (.t rfl) (.t rfl) rfl (by simp only[List.length_append,List.length_cons,List.length_nil, *];(try unfold bJ at*);omega) (by simp only[List.length_append,List.length_cons,List.length_nil, *];(try unfold bJ at*);omega)) rfl fun g65 _=>?_;refine Z9 ?_;refine .round (j+1,g65,ys++g64) ⟨by show j+1≤_;omega,by(show(ys++g64).length=_;rw[List.length_append,U0,hys,←bq hy,Cj];unfold bJ;omega)⟩ (by show x.L.length-(j+1)<x.L.length-j;omega) rfl ?_;exact(.get rfl (af.refl _) (.get rfl (af.int (by show(_:Int)=((j+1:Nat):Int);omega)) ((.keep 19 rfl rfl))))
   have hjl:x.L.take j=x.L:=List.take_of_length_le (by omega);rw[hjl] at hys hsu;refine Z9 ?_;refine .n (cG (rest:=[_]) (fR (n:=x.A.toNat) (by omega)) FB.out (.cons (.le (.t rfl) (af.int (show x.A=(((x.A).toNat:Nat):Int) by omega))) .nil) (Perm.idx [0] rfl rfl)) rfl fun g69 h69=>?_;refine .n (aF (i:=0) FU.out FU.out FC.out rfl FZ.out rfl FY.out (.t rfl) (.t rfl) rfl (by simp only[List.length_append,List.length_cons,List.length_nil, *];(try unfold bJ at*);omega) (by simp only[List.length_append,List.length_cons,List.length_nil, *];(try unfold bJ at*);omega)) rfl fun g70 _=>?_;refine Z3 ?_;refine .meet (g70,ys++g69) (by(show((g70,ys++g69)).2.length=nT x;simp only[List.length_append];rw[hys,h69];rw[ir];rw[if_neg c1,if_neg c6,if_pos c7];unfold bJ;omega)) rfl (.get rfl (af.refl _) (.keep 30 rfl rfl))
  refine .cut (σ:=Unit) (fun _=>[av hd.1 1 aj hd.2]) (fun _=>[(71,ak (aV x.Code=5∨aV x.Code=10))]) (fun _=>True) ?_ ?_
  ·
   refine Z6 ?_;refine Cd (fun c9=>?_) fun c9=>?_
   ·
    refine Z1 ?_;refine .meet () trivial rfl (.get rfl (af.prop (by omega)) (.keep 2 rfl rfl))
   refine Z4 ?_;refine .meet () trivial rfl (.get rfl (af.prop (by omega)) (.keep 4 rfl rfl))
  intro _ _;refine Cd (fun nV=>?_) fun nV=>?_
  ·
   refine .bP [(0,0),(1,0),(2,0),(5,0),(6,0),(3,2),(4,2)] 7 3 FM.out (by kernel_rfl) (k:= ?_);refine Z5 ?_;refine .e rfl (cG (rest:=[_]) (fR (n:=x.A.toNat) (by omega)) FB.out (.cons (.le (.t rfl) (af.int (show x.A=(((x.A).toNat:Nat):Int) by omega))) .nil) (Perm.idx [0] rfl rfl)) fun g77 h77=>?_;refine .e rfl (aF (i:=0) FU.out FU.out FC.out rfl FZ.out rfl FY.out (.t rfl) (.t rfl) rfl (by simp only[List.length_append,List.length_cons,List.length_nil, *];(try unfold bJ at*);omega) (by simp only[List.length_append,List.length_cons,List.length_nil, *];(try unfold bJ at*);omega)) fun g78 _=>?_;refine .fin ?_;refine .n (cG (rest:=[_]) (fR (n:=x.B.toNat) (by omega)) FB.out (.cons (.le (.t rfl) (af.int (show x.B=(((x.B).toNat:Nat):Int) by omega))) .nil) (Perm.idx [0] rfl rfl)) rfl fun g81 h81=>?_;refine .n (aF (i:=0) FU.out FU.out FC.out rfl FZ.out rfl FY.out (.t rfl) (.t rfl) rfl (by simp only[List.length_append,List.length_cons,List.length_nil, *];(try unfold bJ at*);omega) (by simp only[List.length_append,List.length_cons,List.length_nil, *];(try unfold bJ at*);omega)) rfl fun Wn _=>?_;refine Z3 ?_;refine .meet (Wn,(hd.2++g77)++g81) (by(show((Wn,(hd.2++g77)++g81)).2.length=nT x;simp only[List.length_append];rw[SR,h77,h81];rw[ir];rw[if_neg c1,if_neg c6,if_neg c7,if_pos nV];unfold bJ;omega)) rfl (.get rfl (af.refl _) (.keep 19 rfl rfl))
  refine Z6 ?_;refine Cd (fun qI=>?_) fun qI=>?_
  ·
   refine .cut (σ:=SB×List UInt8) (fun z=>[av z.1 1 aj z.2]) (fun z=>[(3,aa (bt z.1 z.2.length))]) (fun z=>z.2.length=oO x+(if x.A=0 then bJ x.dm else bJ (x.dm+64)+bJ x.A)) ?_ ?_
   ·
    refine Z7 ?_;refine Cd (fun tg=>?_) fun tg=>?_
    ·
     refine Z5 ?_;refine .n (cG (rest:=[_]) (fR (n:=x.dm.toNat) (by omega)) FB.out (.cons (.le (.t rfl) (af.int (show x.dm=(((x.dm).toNat:Nat):Int) by omega))) .nil) (Perm.idx [0] rfl rfl)) rfl fun T4 Vj=>?_;refine .n (aF (i:=0) FU.out FU.out FC.out rfl FZ.out rfl FY.out (.t rfl) (.t rfl) rfl (by simp only[List.length_append,List.length_cons,List.length_nil, *];(try unfold bJ at*);omega) (by simp only[List.length_append,List.length_cons,List.length_nil, *];(try unfold bJ at*);omega)) rfl fun g93 _=>?_;refine Z2 ?_;refine .meet (g93,hd.2++T4) (by(show(hd.2++T4).length=_;rw[if_pos tg,List.length_append,SR,Vj];rfl)) rfl (.get rfl (af.refl _) (.keep 10 rfl rfl))
    refine .bP [(0,0),(1,0),(2,0),(3,0),(4,0),(7,0),(8,0),(5,2),(6,2)] 9 3 FM.out (by kernel_rfl) (k:= ?_);refine Z7 ?_;refine .e rfl (cG (rest:=[_]) (fR (n:=(x.dm+64).toNat) (by omega)) FB.out (.cons (.le (.t rfl) (af.int (show x.dm+64=(((x.dm+64).toNat:Nat):Int) by omega))) .nil) (Perm.idx [0] rfl rfl)) fun g99 h99=>?_;refine .e rfl (aF (i:=0) FU.out FU.out FC.out rfl FZ.out rfl FY.out (.t rfl) (.t rfl) rfl (by simp only[List.length_append,List.length_cons,List.length_nil, *];(try unfold bJ at*);omega) (by simp only[List.length_append,List.length_cons,List.length_nil, *];(try unfold bJ at*);omega)) fun Yv _=>?_;refine .fin ?_;refine .n (cG (rest:=[_]) (fR (n:=x.A.toNat) (by omega)) FB.out (.cons (.le (.t rfl) (af.int (show x.A=(((x.A).toNat:Nat):Int) by omega))) .nil) (Perm.idx [0] rfl rfl)) rfl fun YF as3=>?_;refine .n (aF (i:=0) FU.out FU.out FC.out rfl FZ.out rfl FY.out (.t rfl) (.t rfl) rfl (by simp only[List.length_append,List.length_cons,List.length_nil, *];(try unfold bJ at*);omega) (by simp only[List.length_append,List.length_cons,List.length_nil, *];(try unfold bJ at*);omega)) rfl fun as4 _=>?_;refine Z2 ?_;refine .meet (as4,(hd.2++g99)++YF) (by(show((hd.2++g99)++YF).length=_;rw[if_neg tg,List.length_append,List.length_append,SR,h99,as3];unfold bJ;omega)) rfl (.get rfl (af.refl _) (.keep 15 rfl rfl))
   intro mm hmm;have bG5:mm.2.length≤40:=by rw[hmm];split<;>omega
   refine Z4 ?_;refine .n (cG (rest:=[_]) (fR (n:=x.B.toNat) (by omega)) FB.out (.cons (.le (.t rfl) (af.int (show x.B=(((x.B).toNat:Nat):Int) by omega))) .nil) (Perm.idx [0] rfl rfl)) rfl fun QI QJ=>?_;refine .n (aF (i:=0) FU.out FU.out FC.out rfl FZ.out rfl FY.out (.t rfl) (.t rfl) rfl (by simp only[List.length_append,List.length_cons,List.length_nil, *];(try unfold bJ at*);omega) (by simp only[List.length_append,List.length_cons,List.length_nil, *];(try unfold bJ at*);omega)) rfl fun YG _=>?_;refine Z3 ?_;refine .meet (YG,mm.2++QI) (by(show((YG,mm.2++QI)).2.length=nT x;simp only[List.length_append];rw[hmm,QJ];rw[ir];rw[if_neg c1,if_neg c6,if_neg c7,if_neg nV,if_pos qI];unfold Jk bJ;omega)) rfl (.get rfl (af.refl _) (.keep 18 rfl rfl))
  refine Z6 ?_;refine Cd (fun As=>?_) fun As=>?_
  ·
   refine Z4 ?_;refine .p ((fk FU.out FU.out (.t rfl)).le (af.int (K2 oR SQ))) rfl ?_;refine Z3 ?_;refine .cut (σ:=Unit) (fun _=>[av hd.1 1 aj hd.2]) (fun _=>[(5,ag .i64 (ku x))]) (fun _=>True) ?_ ?_
   ·
    refine cc ?_;refine Cd (fun uC=>?_) fun uC=>?_
    ·
     refine Z2 ?_;refine .p (jZ (.t rfl) (.c _) (cn (by split<;>omega) (by split<;>omega))) rfl ?_;refine Z2 ?_;refine .meet () trivial rfl (.get rfl (af.int (by(have h8:=MN uC.1;have h7:=uC.2;rw[if_pos (by omega)] at h7;unfold ku;rw[if_pos uC.1,if_pos (by omega),if_neg (by omega)]))) (.keep 10 rfl rfl))
    refine Z1 ?_;refine .meet () trivial rfl (.get rfl (af.int (by(unfold ku;by_cases h9:x.Code=65;(have h8:=MN h9;rw[if_pos h9,if_pos (by omega),if_pos (Classical.byContradiction fun h=>uC ⟨h9,by rw[if_pos (by omega)];omega⟩)]);rw[if_neg h9]))) (.keep 7 rfl rfl))
   intro _ _;have Wm: -9223372036854775808≤ku x∧ku x≤9223372036854775807:=by unfold ku;split<;>(try have:=MN (by assumption))<;>split<;>omega
   have hlw:=yM Wm.1 (by omega:ku x<9223372036854775808);refine Z3 ?_;refine .n (cE (h:=Kf (n:=ku x) Wm.1 Wm.2)) rfl fun YH as5=>?_;refine .n (aF (i:=0) FU.out FU.out FC.out rfl FZ.out rfl FY.out (.t rfl) (.t rfl) rfl (by simp only[List.length_append,List.length_cons,List.length_nil, *];(try unfold bJ at*);omega) (by simp only[List.length_append,List.length_cons,List.length_nil, *];(try unfold bJ at*);omega)) rfl fun YI _=>?_;refine Z3 ?_;refine .meet (YI,hd.2++YH) (by(show((YI,hd.2++YH)).2.length=nT x;simp only[List.length_append];rw[SR,as5];rw[ir];rw[if_neg c1,if_neg c6,if_neg c7,if_neg nV,if_neg qI,if_pos As])) rfl (.get rfl (af.refl _) (.keep 23 rfl rfl))
  refine Z2 ?_;refine .meet hd (by(show(hd).2.length=nT x;rw[SR];rw[ir];rw[if_neg c1,if_neg c6,if_neg c7,if_neg nV,if_neg qI,if_neg As];rfl)) rfl (.get rfl (af.refl _) (.keep 13 rfl rfl))
 intro z hz;refine Z1 ?_;refine .eB (t:=3) (i:=0) (g:=z.1) (xs:=z.2) rfl rfl ?_;refine Z6 ?_;refine Post.aR rfl (z.2) (by exact hz) (fun _ _ _ h=>h) (.rt rfl) ?_;exact af.refl _
theorem Ht{b:jJ}(az:Sx b):cv Tryz.prog 86 [aC (gw b)] [] (γ:=Int) (fun e=>e=0↔oI b) (fun _=>[]) (fun e=>bE [jD,ag .i64 e]):=by
 refine In 130 Tryz.func86 fun _ _ _=>?_;have wk:=az.len;have HM:=az.loc;refine jb ?_;refine .aS (σ:=Nat) (fun _=>[]) (fun j=>[(4,ag .i64 (j:Int))]) (fun j=>j≤b.L.length∧∀x∈b.L.take j,iP x) (fun j=>b.L.length-j) 0 ⟨Nat.zero_le _,by simp⟩ rfl ?_ ?_
 · exact(.get rfl (af.refl _) (.refl _ _))
 rintro j ⟨hj,hall⟩;refine cD ?_;refine Cd (fun c0=>?_) fun c0=>?_
 ·
  obtain⟨x,hx⟩:=ah (xs:=b.L) (k:=j) (by omega);refine Z9 ?_;refine .p (cI j (h:=hx)) rfl ?_;refine Z1 ?_;refine .p (cA (h:=Hs (az.ins x (List.mem_of_getElem? hx)))) rfl ?_;refine Z3 ?_;refine Cd (fun c1=>?_) fun c1=>?_
  ·
   have hno:¬oI b:=fun h=>c1 (h.1 x (List.mem_of_getElem? hx));refine dN ?_;refine Post.bk rfl rfl (1) (by exact⟨fun h=>by simp at h,fun h=>absurd h hno⟩) (fun _ _ _ h=>h) rfl (.cons (.rt rfl) ?_ (.cons (.rt rfl) ?_ .nil))
   · exact af.any
   exact af.refl _
  refine Z8 ?_;refine .round (j+1) ⟨by omega,fun y hy=>by(rw[←bq hx] at hy;rcases List.mem_append.1 hy with hy|hy;exact hall y hy;(simp only[List.mem_singleton] at hy;subst hy;exact Classical.not_not.1 c1))⟩ (by omega) rfl ?_;exact(.get rfl (af.int (by omega)) ((.keep 16 rfl rfl)))
 have JX:∀x∈b.L,iP x:=fun x hx=>hall x (by rw[List.take_of_length_le (by omega)];exact hx);refine dN ?_;refine .aS (σ:=Nat) (fun _=>[]) (fun j=>[(5,ag .i64 (j:Int))]) (fun j=>j≤b.aW.length∧∀t∈b.aW.take j,t=126∨t=127) (fun j=>b.aW.length-j) 0 ⟨Nat.zero_le _,by simp⟩ rfl ?_ ?_
 · exact(.get rfl (af.refl _) (.refl _ _))
 rintro j ⟨hj2,htl⟩;refine cD ?_;refine Cd (fun c2=>?_) fun c2=>?_
 ·
  obtain⟨t,ht⟩:=ah (xs:=b.aW) (k:=j) (by omega);refine Z9 ?_;refine .p (cI j (h:=ht)) rfl ?_;refine Z6 ?_;refine .g (bU.gT rfl rfl rfl rfl (fun hg=>aP (j:=j) FU.out FC.out rfl (.when (.t rfl) hg) (.when (.t rfl) hg) rfl ht)) rfl rfl ?_;refine Z5 ?_;refine Cd (fun c3=>?_) fun c3=>?_
  ·
   have hno:¬oI b:=fun h=>by(have h9:=h.2.1 t (List.mem_of_getElem? ht);rw[←Qu,←Qv] at h9;omega)
   refine dN ?_;refine Post.bk rfl rfl (1) (by exact⟨fun h=>by simp at h,fun h=>absurd h hno⟩) (fun _ _ _ h=>h) rfl (.cons (.rt rfl) ?_ (.cons (.rt rfl) ?_ .nil))
   · exact af.any
   exact af.refl _
  refine Z8 ?_;refine .round (j+1) ⟨by omega,fun y hy=>by(rw[←bq ht] at hy;rcases List.mem_append.1 hy with hy|hy;exact htl y hy;(simp only[List.mem_singleton] at hy;subst hy;rw[←Qu,←Qv];omega))⟩ (by omega) rfl ?_;exact(.get rfl (af.int (by omega)) ((.keep 23 rfl rfl)))
 have hty:∀t∈b.aW,t=126∨t=127:=fun t hx=>htl t (by rw[List.take_of_length_le (by omega)];exact hx);refine jb ?_;refine Cd (fun c4=>?_) fun c4=>?_
 ·
  have hno:¬oI b:=fun h=>by(have h9:=h.2.2.1;omega)
  refine Z8 ?_;refine Post.bk rfl rfl (1) (by exact⟨fun h=>by simp at h,fun h=>absurd h hno⟩) (fun _ _ _ h=>h) rfl (.cons (.rt rfl) ?_ (.cons (.rt rfl) ?_ .nil))
  · exact af.any
  exact af.refl _
 refine Z6 ?_;refine .n (cE (h:=Hr (l:=b.L) wk)) rfl fun Wl X0=>?_;refine AY ?_;refine Cd (fun c5=>?_) fun c5=>?_
 ·
  have hno:¬oI b:=fun h=>c5 (X0.2 h.2.2.2.1);refine Z9 ?_;refine Post.bk rfl rfl (Wl) (by exact⟨fun h=>absurd h c5,fun h=>absurd h hno⟩) (fun _ _ _ h=>h) rfl (.cons (.rt rfl) ?_ (.cons (.rt rfl) ?_ .nil))
  · exact af.any
  exact af.refl _
 have XD:=X0.1 (Classical.not_not.1 c5);refine Z7 ?_;refine .eC 1 aj ?_;refine dN ?_;refine .aS (σ:=Nat×SB×List UInt8×List Nat) (fun z=>[av z.2.1 1 aj z.2.2.1]) (fun z=>[(9,aa (bt z.2.1 z.2.2.1.length)),(10,ag .i64 (z.2.2.2.length:Int)),(11,ag .i64 (z.1:Int))]) (fun z=>z.1≤b.aW.length∧gY b.aW=z.2.2.2++gY (b.aW.drop z.1)∧z.2.2.1.length=vW z.2.2.2∧z.2.2.2.length≤z.1∧∀n∈z.2.2.2,n≤1000000) (fun z=>b.aW.length-z.1) (0,none,[],[]) ⟨Nat.zero_le _,rfl,rfl,Nat.le_refl _,by simp⟩ rfl ?_ ?_
 · exact(.get rfl (af.of_eq rfl) (.get rfl (af.refl _) (.get rfl (af.refl _) (.refl _ _))))
 rintro⟨k,g1,ys,pre⟩ ⟨hk,hru,hys,rC,Uo⟩;simp only at hk hru hys rC Uo ⊢;have hsn:=G7 pre Uo;refine cD ?_;refine Cd (fun c6=>?_) fun c6=>?_
 ·
  obtain⟨t,GL⟩:=ah (xs:=b.aW) (k:=k) (by omega);refine cc ?_;refine .aS (σ:=Nat) (fun _=>[av g1 1 aj ys]) (fun q=>[(12,ag .i64 (q:Int))]) (fun q=>k≤q∧q≤b.aW.length∧∀j,j<q-k→(b.aW.drop k)[j]?=some t) (fun q=>b.aW.length-q) k ⟨Nat.le_refl _,by omega,fun j hj=>by omega⟩ rfl ?_ ?_
  · exact(.get rfl (af.refl _) (.refl _ _))
  rintro k2 ⟨CD,hk2,hal⟩;refine Z2 ?_;refine .br 16 2 FM.out (by kernel_rfl) (k:= ?_);refine Z9 ?_;refine .cons (bU.gT rfl rfl rfl rfl (fun hg=>aP (j:=k2) FU.out FC.out rfl (.when (.t rfl) hg) (.when (.t rfl) hg) rfl (Lf (by omega)))) ?_;refine Z4 ?_;refine .cons (bU.gT rfl rfl rfl rfl (fun hg=>aP (j:=k) FU.out FC.out rfl (.when (.t rfl) hg) (.when (.t rfl) hg) rfl GL)) ?_;refine Z6 ?_;refine Cd (fun c7=>?_) fun c7=>?_
  ·
   refine Z9 ?_;refine .round (k2+1) ⟨by omega,by omega,fun j hj=>by(by_cases hjj:j<k2-k;exact hal j hjj;(rw[List.getElem?_drop,show k+j=k2 by omega];have h9:=c7.2;rw[zL] at h9;rw[Lf (by omega),h9]))⟩ (by omega) rfl ?_;exact(.get rfl (af.int (by omega)) ((.keep 22 rfl rfl)))
  have hkk:=Qw CD GL c7;have hlead:=S4 hkk hk2 hal c7;have Ng:fO (k2-k)≤10:=dI (by omega);refine Z6 ?_;refine .bP [(0,0),(1,0),(2,0),(3,0),(4,0),(7,0),(8,0),(9,0),(10,0),(11,0),(12,0),(5,2),(6,2)] 13 2 FM.out (by kernel_rfl) (k:= ?_);refine Z8 ?_;refine .p rfl (fun _=>aP (j:=k) FU.out FC.out rfl (.t rfl) (.t rfl) rfl GL) ?_;refine Z1 ?_;refine .p rfl (fun _=>bI (enc:=aj) [t] FU.out FC.out rfl FZ.out rfl (.cons (.t rfl) .nil) rfl rfl rfl rfl rfl) ?_;refine .e rfl (cG (rest:=[_]) (fR (n:=k2-k) (by omega)) FB.out (.cons (.le (.t rfl) (af.int (show(k2:Int)-(k:Int)=((k2-k:Nat):Int) by omega))) .nil) (Perm.idx [0] rfl rfl)) fun g94 h94=>?_;refine .e rfl (aF (i:=0) FU.out FU.out FC.out rfl FZ.out rfl FY.out (.t rfl) (.t rfl) rfl (by simp only[List.length_append,List.length_cons,List.length_nil, *];omega) (by simp only[List.length_append,List.length_cons,List.length_nil, *];omega)) fun g95 _=>?_;refine .fin ?_;refine .n (aF (i:=0) FU.out FU.out FC.out rfl FZ.out rfl FY.out (.t rfl) (.t rfl) rfl (by simp only[List.length_append,List.length_cons,List.length_nil, *];omega) (by simp only[List.length_append,List.length_cons,List.length_nil, *];omega)) rfl fun YJ _=>?_;refine kR ?_;refine .round (k2,YJ,(ys++g94)++[t],pre++[k2-k]) ⟨by show k2≤_;omega,by(show _=(pre++[k2-k])++gY (b.aW.drop k2);rw[hru,hlead,List.append_assoc];rfl),by(show((ys++g94)++[t]).length=_;rw[List.length_append,List.length_append,hys,h94,Nt];simp only[List.length_cons,List.length_nil];omega),by(show(pre++[k2-k]).length≤k2;rw[List.length_append];simp only[List.length_cons,List.length_nil];omega),fun n hn=>by(rcases List.mem_append.1 hn with hn|hn;exact Uo n hn;(simp only[List.mem_singleton] at hn;subst hn;omega))⟩ (by show b.aW.length-k2<b.aW.length-k;omega) rfl ?_;exact(.get rfl (af.refl _) (.get rfl (af.int (by simp)) (.get rfl (af.refl _) ((.keep 49 rfl rfl)))))
 have HJ:b.aW.drop k=[]:=List.drop_eq_nil_of_le (by omega);rw[HJ,Nu,List.append_nil] at hru;refine Z6 ?_;have hlp:fO pre.length≤10:=dI (by omega);refine .eB (t:=9) (i:=0) (g:=g1) (xs:=ys) rfl rfl ?_;refine Z3 ?_;refine .n (cE (h:=Ke (n:=pre.length) (by omega))) rfl fun QI QJ=>?_;refine Z1 ?_;refine .n (aF (i:=0) FU.out FU.out FC.out rfl FZ.out rfl FY.out (.t rfl) (.t rfl) rfl (by rw[QJ];omega) (by rw[QJ];omega)) rfl fun as6 _=>?_;refine cD ?_;refine .aS (σ:=Nat×SB×List UInt8) (fun z=>[av z.2.1 1 aj z.2.2]) (fun z=>[(9,aa (bt z.2.1 z.2.2.length)),(13,ag .i64 (z.1:Int))]) (fun z=>z.1≤b.L.length∧z.2.2.length=fO pre.length+vW pre+xh (b.L.take z.1)) (fun z=>b.L.length-z.1) (0,as6,QI.2++ys) ⟨Nat.zero_le _,by(show(QI.2++ys).length=_;rw[List.length_append,QJ,hys];simp[xh])⟩ rfl ?_ ?_
 · exact(.get rfl (af.refl _) (.get rfl (af.refl _) (.refl _ _)))
 rintro⟨i,g2,ws⟩ ⟨hi,hzs⟩;simp only at hi hzs ⊢;have hsi:=DH (b.L.take i) (fun x hx=>⟨.of (az.ins x (List.mem_of_mem_take hx)) (JX x (List.mem_of_mem_take hx)),JX x (List.mem_of_mem_take hx)⟩);rw[List.length_take] at hsi;refine cD ?_;refine Cd (fun c8=>?_) fun c8=>?_
 ·
  obtain⟨y,hy⟩:=ah (xs:=b.L) (k:=i) (by omega);have O6:=DG (.of (az.ins y (List.mem_of_getElem? hy)) (JX y (List.mem_of_getElem? hy))) (JX y (List.mem_of_getElem? hy));refine Z9 ?_;refine .p (cI i (h:=hy)) rfl ?_;refine Z1 ?_;refine .n (cE (h:=Ee (.of (az.ins y (List.mem_of_getElem? hy)) (JX y (List.mem_of_getElem? hy))) (JX y (List.mem_of_getElem? hy)))) rfl fun YK as7=>?_;refine .n (aF (i:=0) FU.out FU.out FC.out rfl FZ.out rfl FY.out (.t rfl) (.t rfl) rfl (by simp only[List.length_append,List.length_cons,List.length_nil, *];omega) (by simp only[List.length_append,List.length_cons,List.length_nil, *];omega)) rfl fun YL _=>?_;refine Z9 ?_;refine .round (i+1,YL,ws++YK) ⟨by show i+1≤_;omega,by(show(ws++YK).length=_;rw[List.length_append,as7,hzs,←bq hy,Ck];omega)⟩ (by show b.L.length-(i+1)<b.L.length-i;omega) rfl ?_;exact(.get rfl (af.refl _) (.get rfl (af.int (by show(_:Int)=((i+1:Nat):Int);omega)) ((.keep 19 rfl rfl))))
 have p7:b.L.take i=b.L:=List.take_of_length_le (by omega);rw[p7] at hzs;have htot:ws.length=MG b:=by rw[hzs,Qt,hru]
 refine jP ?_;refine Cd (fun c9=>?_) fun c9=>?_
 ·
  refine Z8 ?_;refine Post.bk rfl rfl (15) (by exact⟨fun h=>by simp at h,fun h=>by have:=h.2.2.2.2;omega⟩) (fun _ _ _ _=>trivial) rfl (.cons (.rt rfl) ?_ (.cons (.rt rfl) ?_ .nil))
  · exact af.any
  exact af.refl _
 refine cD ?_;refine Post.bk rfl rfl (0) (by exact⟨fun _=>⟨JX,hty,by omega,XD,by omega⟩,fun _=>rfl⟩) (fun _ _ _ _=>trivial) rfl (.cons (.rt rfl) ?_ (.cons (.rt rfl) ?_ .nil))
 · exact af.any
 exact af.refl _
theorem Bp{m:aT}{f:cN}{i:Nat}(az:lI m)(hp1:m.aA[i]?=some f)(hp2:m.aA.length≤60000):cv Tryz.prog 40 [aC (bf m),ag .i64 ((i:Int))] [] (γ:=Int×Int×List Nat) (VG m f) (fun _=>[]) (fun g=>aC [ag .i64 g.1,ag .i64 g.2.1,ai 1 iY g.2.2]):=by
 refine In 51 Tryz.func40 fun _ _ _=>?_;have p7:=(List.getElem?_eq_some_iff.1 hp1).1;have CL:f∈m.aA:=List.mem_of_getElem? hp1;refine Z3 ?_;refine .n (au FZ.out) rfl fun b4 _=>?_;refine Z5 ?_;refine .p (cA (h:=yf (x:=m))) rfl ?_;refine Z2 ?_;refine .n (bp.Tr (lJ (.t rfl) rfl)) rfl fun n13 QH=>?_;refine cc ?_;refine Cd (fun c0=>?_) fun c0=>?_
 ·
  refine Z8 ?_;refine Post.aR rfl ((0,12,[])) (by exact .inr ⟨by show(12:Int)≠0;decide,fun h=>c0 (QH.2 h.1)⟩) (aB.dF [] [0] rfl rfl) (.ra (i:=0) FA.out FC.out rfl rfl rfl rfl) ?_;exact af.agg (.cons (af.refl _) (.cons (af.refl _) (.cons (aI 1 iY) .nil)))
 have hfit:=QH.1 (Classical.not_not.1 c0);refine AY ?_;refine CT fun c1=>?_;refine Z7 ?_;refine .p (cI i (h:=hp1)) rfl ?_;refine Z2 ?_;refine .n (cE (h:=Ht (az.bd CL))) rfl fun NX NY=>?_;refine jb ?_;refine Cd (fun c2=>?_) fun c2=>?_
 ·
  refine Z9 ?_;refine Post.aR rfl ((0,NX,[])) (by exact .inr ⟨c2,fun h=>c2 (NY.2 h.2.1)⟩) (aB.dF [] [0] rfl rfl) (.ra (i:=0) FA.out FC.out rfl rfl rfl rfl) ?_;exact af.agg (.cons (af.refl _) (.cons (af.refl _) (.cons (aI 1 iY) .nil)))
 have pz:=NY.1 (Classical.not_not.1 c2);refine Z3 ?_;refine .bP [(0,0),(1,0),(3,0),(4,0),(5,0),(6,0),(7,0),(8,0),(2,2)] 9 2 FM.out (by kernel_rfl) (k:= ?_);refine Z5 ?_;refine .p rfl (fun _=>aP (j:=i) FU.out FC.out rfl (.t rfl) (.t rfl) rfl hp1) ?_;refine Z2 ?_;refine .e rfl (cE (h:=NN hfit az hp1)) fun g43 h43=>?_;refine .fin ?_;refine .n (cE (h:=Ho (v:=cH m f) (b:=f.Body) (Ys hfit az CL pz) (QG pz))) rfl fun XZ h50=>?_;refine Z4 ?_;refine Post.aR rfl (XZ) (by exact(Hj pz h50).elim (fun h=> .inl ⟨h.1,hfit,pz,h.2⟩) (fun h=> .inr ⟨h.1,fun h2=>h.2.1 h2.2⟩)) (aB.dF [] [0] rfl rfl) (.ra (i:=0) FA.out FC.out rfl rfl rfl rfl) ?_;exact af.refl _
theorem sJ{m:aT}(az:lI m)(hp1:m.aA.length≤60000):cv Tryz.prog 13 [aC (bf m)] [] (γ:=Int) (fun n=>0≤n∧(n=0↔j8 m)) (fun _=>[]) (fun n=>ag .i64 n):=by
 refine In 29 Tryz.func13 fun _ _ _=>?_;refine Z9 ?_;refine .p (cA (h:=yf (x:=m))) rfl ?_;refine Z2 ?_;refine .n (bp.Tr (lJ (.t rfl) rfl)) rfl fun n11 YM=>?_;refine cc ?_;refine Cd (fun c0=>?_) fun c0=>?_
 ·
  refine Z7 ?_;refine Post.aR rfl (1) (by exact⟨by decide,fun h=>absurd h (by decide),fun h=>absurd (YM.2 h.1) c0⟩) (fun _ _ _ h=>h) (.rt rfl) ?_;exact af.refl _
 have hfit:=YM.1 (Classical.not_not.1 c0);refine jb ?_;refine .aS (σ:=Nat×Nat) (fun _=>[]) (fun g=>[(5,ag .i64 (g.2:Int)),(6,ag .i64 (g.1:Int))]) (fun g=>g.1≤m.aA.length∧g.2≤g.1∧(g.2=0↔∀f∈m.aA.take g.1,qG m f)) (fun g=>m.aA.length-g.1) (0,0) ⟨Nat.zero_le _,Nat.le_refl _,by simp⟩ rfl ?_ ?_
 · exact(.get rfl (af.refl _) (.get rfl (af.refl _) (.refl _ _)))
 rintro⟨j,n⟩ ⟨hj,hnj,hv⟩;simp only at hj hnj hv ⊢;refine cD ?_;refine Cd (fun c1=>?_) fun c1=>?_
 ·
  obtain⟨f,hf⟩:=ah (xs:=m.aA) (k:=j) (by omega);refine Z8 ?_;refine .n (cE (h:=Bp az hf hp1)) rfl fun g23 h23=>?_;refine .p (EW (T:=120) (i:=1) (off:=1) (by kernel_rfl) Tryz.ag3.out (.t rfl) rfl) rfl ?_;refine Z3 ?_;refine Cd (fun c2=>?_) fun c2=>?_
  ·
   refine dN ?_;refine .round (j+1,n+1) ⟨by show j+1≤_;omega,by show n+1≤j+1;omega,⟨fun h=>absurd h (by show ¬(n+1=0);omega),fun h=>absurd (h23.iff.2 ⟨hfit,h f (by rw[←bq hf];simp)⟩) c2⟩⟩ (by show m.aA.length-(j+1)<m.aA.length-j;omega) rfl ?_;exact(.get rfl (af.int (by show(_:Int)=((n+1:Nat):Int);omega)) (.get rfl (af.int (by show(_:Int)=((j+1:Nat):Int);omega)) ((.keep 18 rfl rfl))))
  refine Z8 ?_;refine .round (j+1,n) ⟨by show j+1≤_;omega,by show n≤j+1;omega,by(show n=0↔_;rw[hv,←bq hf];have h9:=(h23.iff.1 (Classical.not_not.1 c2)).2;constructor;intro h g hg;rcases List.mem_append.1 hg with hg|hg;exact h g hg;(simp only[List.mem_singleton] at hg;subst hg;exact h9);intro h g hg;exact h g (List.mem_append_left _ hg))⟩ (by show m.aA.length-(j+1)<m.aA.length-j;omega) rfl ?_;exact(.get rfl (af.refl _) (.get rfl (af.int (by show(_:Int)=((j+1:Nat):Int);omega)) ((.keep 15 rfl rfl))))
 have hall:m.aA.take j=m.aA:=List.take_of_length_le (by omega);rw[hall] at hv;refine dN ?_;refine Post.aR rfl ((n:Int)) (by exact⟨by omega,fun h=>⟨hfit,hv.1 (by omega)⟩,fun h=>by have:=hv.2 h.2;omega⟩) (fun _ _ _ h=>h) (.rt rfl) ?_;exact af.refl _
end Go.Proofs.YtpfobikpggmleaaGreatDoor
end
