/-
  What the statement's proof leans on, several texts in one (packed by a program).
-/
import Derived.Test.YtpfobikpggmleaaGreatDoorSAV
import Derived.Lib.LaidTab
set_option linter.all false
set_option maxRecDepth 1000000
set_option maxHeartbeats 4000000
section
namespace Go.Hl
open Go.RowKit
instance (m:aR):bE (br m):=by unfold br;infer_instance
def JH (x:aA):Prop:=(0≤x.A∧x.A<18446744073709551616)∧(0≤x.B∧x.B<18446744073709551616)∧∀n∈x.L,0≤n
theorem qT {x:aR} (hb:HW x):0≤qC x∧qC x≤17100*281474976710656:=by
 have h5:=(zL hb).2.2.2.2
 have hq:=iN (xs:=x.aZ) (g:=xK) (cap:=25) 281474976710656 (by decide) hb.data
 unfold qC
 omega
theorem KL {x:aR} (h:vf x) (hw:∀f∈x.ay,∀y∈f.Body.L,JH y) (h0:qC x+max ((x.ay.length:Int)-12) 0+max ((x.aZ.length:Int)-4) 0≤0):wJ x∧mA x∧x.ay.length≤60000:=by
 have hb:=qT (ni h)
 have hs:wJ x:=CV h (by omega)
 refine ⟨hs,⟨fun f hf y hy=> ?_,fun f hf=> ?_,fun f hf=> ?_⟩,by omega⟩
 · obtain ⟨⟨a1,a2⟩,⟨b1,b2⟩,c⟩:=hw f hf y hy
   exact ⟨a1,a2,b1,b2,c,by have:=(hs.fn f hf).all y hy;omega⟩
 · have:=(hs.fn f hf).l;omega
 · have:=(hs.fn f hf).locals;omega
end Go.Hl
end
section
namespace Go.Proofs.YtpfobikpggmleaaGreatDoor
open Go.Hl Go.RowKit
theorem vS {x:aR}:cW Tryz.prog 7 [aC (br x)] (ag .i64 (qC x+max ((x.ay.length:Int)-12) 0+max ((x.aZ.length:Int)-4) 0)):=by
 refine In 17 Tryz.func7 fun _ _ _=> ?_
 refine .fact (t:=0) rfl (fun S w v h=>pP h) fun hlen=> ?_
 have hall:=hlen
 obtain ⟨⟨hl0,ko,lp,mK,mL,mM,mN,mO⟩,⟨Uq,hi1,hi2,Vx,hi4⟩,Qj⟩:=hlen
 have Vw:=qT (ni hall)
 refine Z7 ?_
 refine .bx 13 2 FM.out (by kernel_rfl) (k:= ?_)
 refine Z1 ?_
 refine .p (cA (h:=Js)) ?_
 refine Hy ?_
 refine bL ?_
 exact af.refl _
end Go.Proofs.YtpfobikpggmleaaGreatDoor
end
section
namespace Go.Hl
open Go.RowKit
section
variable {X:oT} {a a':dX} {lo hi g t:Nat} {s:Vu}
structure US (X:oT) (a a':dX) (lo hi:Nat):Prop where
 ok:dm X a'
 same:nL a a'
 Nt:∀y n,(y+n≤lo∨hi≤y)→a'.get y n=a.get y n
theorem US.refl (h:dm X a):US X a a lo hi:=⟨h, .refl _,fun _ _ _=>rfl⟩
theorem US.put (h:US X a a' lo hi) {x v w:Nat} (h1:lo≤x) (h2:x+w≤hi) (h3:hi≤X.size):US X a (a'.put x (yg v w)) lo hi:=
 ⟨HX h.ok (by omega),h.same.trans ⟨rfl,rfl,rfl⟩,fun y n hy=>(mC h.ok (by omega) (by omega)).trans (h.Nt y n hy)⟩
theorem A9.Nt (h:A9 a g t s) (k:US X a a' lo hi) (hg:hi≤g) (ht:hi≤t):A9 a' g t s:=
 ⟨fun i v hv=>by rw [k.Nt _ _ (.inr (by omega))];exact h.gl i v hv,fun i f hf=>by rw [k.Nt _ _ (.inr (by omega))];exact h.tb i f hf⟩
theorem GV (h:dm X a) {x:Int} {c:Nat}:dm X (fJ a x c):=⟨h.len,h.hi,h.most,by have:=h.live;show a.live-c≤a.height;omega⟩
theorem A9.XZ (h:A9 a g t s) {x:Int} {c:Nat}:A9 (fJ a x c) g t s:=⟨h.gl,h.tb⟩
end
structure VH (x:aR) (ms:List u9) (C C':Cont):Prop where
 len:ms.length=x.bp.length
 ok:∀(i:Nat) M,ms[i]?=some M→AW M∧M.num=((0+(i:Int):Int))
 Nt:∀(n:Int) a,100≤n→mX 64 C' n a=mX 64 C n a
variable {x:aR}
theorem VH.begin (hm:nK x) (C:Cont):VH x (yj x 0 x.bp.length) C C:=⟨lX _ _ _,fun i M h=>by
 have oQ:i<x.bp.length:=by have:=(List.getElem?_eq_some_iff.1 h).1;rw [lX] at this;exact this
 obtain ⟨z,hz⟩:=ah (xs:=x.bp) (k:=i) oQ
 rw [CY hz oQ] at h;cases h
 exact ⟨(E1 hm (List.mem_of_getElem? hz) (by omega)).1,rfl⟩,fun _ _ _=>rfl⟩
variable {M:u9}
theorem P5 (h:AW M) (n:Nat):AW (pM M n).1∧(pM M n).1.num=M.num:=by
 have h1:=h.pages;have h2:=h.high
 unfold pM
 by_cases hg:M.high-M.pages<n
 · rw [if_pos hg];exact ⟨h,rfl⟩
 · rw [if_neg hg];exact ⟨⟨h.num,by show M.pages+n≤M.most;omega,h.high,h.most⟩,rfl⟩
variable {ms:List u9}
theorem VH.step {C C' C2:Cont} (h:VH x ms C C') {i:Nat} (hi:i<100) (hM:AW M∧M.num=((0+(i:Int):Int))) {p:Prop} [Decidable p] {at_:Nat} {ys:List UInt8} (hC:C2=if p then wE 64 C' M.num at_ ys else C'):VH x (ms.set i M) C C2:=
 ⟨by rw [List.length_set];exact h.len,fun j N hN=>by
  rcases jC hN with ⟨rfl,rfl⟩|⟨_,hN⟩
  · exact hM
  · exact h.ok j N hN,fun n a hn=>by
  rw [hC]
  split
  · rw [wF (by rw [hM.2];omega)];exact h.Nt n a hn
  · exact h.Nt n a hn⟩
theorem P6 {pb j b:Nat} {bs:List Nat} {r:List HP} (h1:bs[j]?=some b) (h2:j<ms.length):aB (di b pb M::j4 (jg pb (bs.take j) (ms.take j)++jg pb (bs.drop (j+1)) (ms.drop (j+1)))::r) (fZ pb bs (ms.set j M)::r):=by
 have h:=yC (pb:=pb) (M:=M) (ms:=ms.set j M) (r:=r) h1 (by simp [h2])
 rwa [List.take_set_of_le (Nat.le_refl _),List.drop_set_of_lt (Nat.lt_succ_self _)] at h
theorem Ga.Nt {rs:List RM} {C C':Cont} {n:Nat} (h:Ga ms rs C n) {k:Int} (hn:∀(i:Nat) M,ms[i]?=some M→k≤M.num) (hf:∀(n:Int) a,k≤n→mX 64 C' n a=mX 64 C n a):Ga ms rs C' n:=
 ⟨h.len,fun i M r hM hr=>⟨(h.all i M r hM hr).ok,(h.all i M r hM hr).pages,fun a=>(hf _ a (hn i M hM)).trans ((h.all i M r hM hr).eq a),(h.all i M r hM hr).iw⟩⟩
variable {m:aR}
theorem KM {num:Int} {i k:Nat} (h:(yj m num k)[i]?=some M):num≤M.num:=by
 unfold yj at h
 rw [List.getElem?_map] at h
 obtain ⟨j,_,rfl⟩:=Option.map_eq_some_iff.1 h
 show num≤num+(j:Int);omega
theorem Cj {C:Cont} {num n:Int} {a:Nat}:∀k:Nat,num+(k:Int)≤n→mX 64 (sC C num k) n a=mX 64 C n a
 |0,_=>rfl
 |k+1,h=>by
  refine Eq.trans ?_ (Cj (C:=C) (num:=num) (n:=n) (a:=a) k (by omega))
  show mX 64 (x4 64 (sC C num k) (num+(k:Int))) n a=_
  unfold mX x4
  split
  · show (if n=num+(k:Int) then List.replicate 64 0 else sC C num k (n,((a/64:Nat):Int))).getD (a%64) 0=_
    rw [if_neg (by omega)]
  · rfl
theorem GW {m:aR} (hm:nK m) {C:Cont} {num n:Int} {a:Nat} (h:num+(m.bp.length:Int)≤n):∀k,k≤m.aZ.length→mX 64 (pQ m num C k) n a=mX 64 C n a
 |0,_=>rfl
 |k+1,hk=>by
  obtain ⟨d,hd⟩:=ah (xs:=m.aZ) (k:=k) (by omega)
  rw [C0 hd]
  refine Eq.trans ?_ (GW hm h k (by omega))
  have h1:=(hm.da d (List.mem_of_getElem? hd)).1
  unfold jt at h1
  unfold Vl
  split
  · exact wF (by omega)
  · rfl
theorem s9 {a:Int} {v:Int} {D:List (Int×Int)}:fG ((a,v)::D) a=D:=by simp [fG,List.findIdx?_cons]
theorem qU {a:Int} {v:Int} {D:List (Int×Int)}:ak ((a,v)::D) a=some v:=by simp [ak]
theorem yd {a:dX} (hl:m.an.length≤60000) (ht:ak a.taken (a.height:Int)=none) (ht2:ak a.taken ((a.height+fH m:Nat):Int)=none):
    (mI a m).taken=a.taken++[((a.height:Int),(fH m:Int)),(((a.height+fH m:Nat):Int),(oE m:Int))]:=by
  have hp:=IZ m hl
  have e1:fF a.taken (a.height:Int) (fH m:Int)=a.taken++[((a.height:Int),(fH m:Int))]:=kQ _ ht
  have h2:ak (fF a.taken (a.height:Int) (fH m:Int)) ((a.height+fH m:Nat):Int)=none:=by rw [LL,if_neg (by omega),ht2]
  show fF (fF a.taken (a.height:Int) (fH m:Int)) ((a.height+fH m:Nat):Int) (oE m:Int)=_
  rw [kQ _ h2,e1,List.append_assoc];rfl
theorem Sn (m:aR) (h:eC m≤1000):16≤oE m:=by
 unfold oE aW
 rw [if_neg (by omega)]
 exact AB 19 16 _
theorem Nd {y:aR} {a0 a1 a2 a3:dX} {n:Nat} (hx:x.an.length≤60000) (hy:y.an.length≤60000) (hxt:eC x≤1000) (h0:a0=jX n) (h1:nL (mI a0 x) a1) (h2:nL (mI a1 y) a2) (h3:nL a2 a3):
    a1.height=fH x+oE x∧a3.taken=[((a0.height:Int),(fH x:Int)),(((a0.height+fH x:Nat):Int),(oE x:Int)),((a1.height:Int),(fH y:Int)),(((a1.height+fH y:Nat):Int),(oE y:Int))]∧a3.live=fH x+oE x+fH y+oE y:=by
  subst h0
  have p1:=IZ x hx;have p2:=Sn x hxt;have p3:=IZ y hy
  have e1:a1.taken=[(((jX n).height:Int),(fH x:Int)),((((jX n).height+fH x:Nat):Int),(oE x:Int))]:=by rw [h1.taken,yd hx rfl rfl];rfl
  have eh:a1.height=fH x+oE x:=by rw [h1.height];show 0+fH x+oE x=_;omega
  have z:((jX n).height:Int)=0:=rfl
  have z2:(((jX n).height+fH x:Nat):Int)=(fH x:Int):=by show ((0+fH x:Nat):Int)=_;omega
  have l1:ak a1.taken (a1.height:Int)=none:=by
    rw [e1,eh,z,z2]
    have q1:¬((0:Int)=((fH x+oE x:Nat):Int)):=by omega
    have q2:¬((fH x:Int)=((fH x+oE x:Nat):Int)):=by omega
    unfold ak
    rw [List.find?_cons_of_neg (by simpa using q1),List.find?_cons_of_neg (by simpa using q2)];rfl
  have l2:ak a1.taken ((a1.height+fH y:Nat):Int)=none:=by
    rw [e1,eh,z,z2]
    have q1:¬((0:Int)=((fH x+oE x+fH y:Nat):Int)):=by omega
    have q2:¬((fH x:Int)=((fH x+oE x+fH y:Nat):Int)):=by omega
    unfold ak
    rw [List.find?_cons_of_neg (by simpa using q1),List.find?_cons_of_neg (by simpa using q2)];rfl
  refine ⟨eh, ?_, ?_⟩
  · rw [h3.taken,h2.taken,yd hy l1 l2,e1];rfl
  · rw [h3.live,h2.live]
    show a1.live+fH y+oE y=_
    rw [h1.live]
    show 0+fH x+oE x+fH y+oE y=_
    omega
abbrev dvV (m:aR):VP:=V1 (fun n:Int=>0≤n∧(n=0↔lS m)) (fun n=>ag .i64 n)
theorem cw.toP {P:Program} {f:FuncId} {ps:List VP} {γ:Type} {φ:γ→Prop} {q:γ→VP} {q':VP} (h:cw P f ps [] φ (fun _=>[]) q) (hq:∀g,φ g→af (q g) q'):cW P f ps q':=by
 intro w S F vs h1 h2 h3 h4 h5
 have:=h w S F vs h1 h2 h3 h4 h5
 refine Calls.mono this fun e w' hr=> ?_
 obtain ⟨v,S',F',g,k1,k2,k3,k4,k5⟩:=hr
 exact ⟨v,S',F',(),k1,k2,trivial,k4,hq g k3 _ _ _ k5⟩
theorem P7 {P:Program} {hs:List HP} {env:Env} {dst:Option Tmp} {ty T T':TypeId} {pos:String} {after:Array Edge} {g:Option (Nat×Bool)} {x y:Operand} (hx:bu env x (dvV m)) (hy:bu env y (ag .i64 0)):bl P hs env ⟨dst, .binOp .gtr T x y T',ty,pos,after,g⟩ (aq (¬lS m)):=
 bl.aJ fun ρ w S F _ he=>by
  obtain ⟨n,⟨h0,hn⟩,h1⟩:=he.o _ _ hx
  have h2:=he.o _ _ hy
  simp only [aa] at h1 h2
  refine ⟨.bool (decide (n>0)),by simp [execOp,h1,h2,go_sem],_,rfl, ?_⟩
  rw [←hn,decide_eq_true_iff];omega
end Go.Hl
end
section
namespace Go.Proofs.YtpfobikpggmleaaGreatDoor
open Go.Hl Go.RowKit
theorem JI {mb pb:Nat} {mm:u9} {n:Nat} (av:AW mm) (hp1:n<18446744073709551616):cw Tryz.prog 24 [aI mb 0,ag .u64 (n:Int)] [di mb pb mm] (γ:=u9×Nat×Bool) (fun g=>g=pM mm n) (fun g=>[di mb pb g.1]) (fun g=>bD [aS (g.2.1:Int),aq (g.2.2=true)]):=by
 refine In 38 Tryz.func24 fun _ _ _=> ?_
 have hmo:=av.most;have Va:=av.pages;have hhm:=av.high
 refine Z8 ?_
 refine .bx 15 2 FM.out (by kernel_rfl) (k:= ?_)
 refine Z1 ?_
 refine .p (cO FU.out (.t rfl)) ?_
 refine AU ?_
 refine Cd (fun c0=> ?_) fun c0=> ?_
 ·
  have hc:=c0.resolve_left id
  have hgr:pM mm n=(mm,0,false):=by unfold pM;rw [if_pos (by omega)]
  refine Z8 ?_
  refine Post.bf rfl rfl ((mm,0,false)) (by exact hgr.symm) (fun _ _ _ h=>h) rfl (.cons (.rt rfl) ?_ (.cons (.rt rfl) ?_ .nil))
  · exact af.refl _
  exact af.prop (by simp)
 have hc:=mt Or.inr c0
 have hgr:pM mm n=({mm with pages:=mm.pages+n},mm.pages,true):=by unfold pM;rw [if_neg (by omega)]
 refine EC ?_
 refine .p ((ep (.t rfl) (.t rfl) dL).le (af.int (show _=((mm.pages+n:Nat):Int) by omega))) rfl ?_
 refine lg ?_
 refine Post.bf rfl rfl (({mm with pages:=mm.pages+n},mm.pages,true)) (by exact hgr.symm) (fun _ _ _ h=>h) rfl (.cons (.rt rfl) ?_ (.cons (.rt rfl) ?_ .nil))
 · exact af.refl _
 exact af.prop (by simp)
theorem vT {m:aR} (av:mA m) (hp1:m.ay.length≤60000):cW Tryz.prog 13 [aC (br m)] (dvV m):=by
 exact (GU av hp1).toP fun g hg=>af.ex g hg (af.refl _)
theorem xo {x y:aR} {v:Nat} {b:List UInt8} (av:∀f∈x.ay,∀z∈f.Body.L,JH z) (hp1:RJ x) (hp2:∀f∈y.ay,∀z∈f.Body.L,JH z) (fI:RJ y) (oe:v<18446744073709551616):cW Tryz.prog 5 [aC (br x),aC (br y),ag .u64 (v:Int),ai 1 aj b] (aq True):=by
 refine In 140 Tryz.func5 fun _ _ _=> ?_
 refine .fact (t:=0) rfl (fun S w v h=>pP h) fun hlx=> ?_
 refine .fact (t:=1) rfl (fun S w v h=>pP h) fun hly=> ?_
 have hgx:=qT (ni hlx)
 have hgy:=qT (ni hly)
 refine cT ?_
 refine .p (cA (h:=vS)) rfl ?_
 refine Z3 ?_
 refine .g (cm.gF rfl rfl rfl rfl (fun hg=>bQ (vS) FB.out (.cons (.when (.t rfl) hg) .nil))) rfl rfl ?_
 refine Z8 ?_
 refine .g (cm.gF rfl rfl rfl rfl (fun hg=>bQ (vK) FB.out .nil)) rfl rfl ?_
 refine Z4 ?_
 refine Cd (fun c0=> ?_) fun c0=> ?_
 ·
  refine Z2 ?_
  refine .p (cA (h:=vK)) rfl ?_
  refine Z5 ?_
  refine bL ?_
  exact af.refl _
 obtain ⟨X0,X1,X2⟩:=KL hlx av (by omega)
 obtain ⟨hsy,X3,X4⟩:=KL hly hp2 (by omega)
 have bA3:x.aZ.length≤4:=by omega
 have bA4:y.aZ.length≤4:=by omega
 have hbl100:b.length≤100:=by omega
 clear hlx hly hgx hgy c0
 refine Z6 ?_
 refine .p (cA (h:=vT X1 X2)) rfl ?_
 refine .p (P7 (.t rfl) (.c _)) rfl ?_
 refine Z2 ?_
 refine .g (cm.gF rfl rfl rfl rfl (fun hg=>bQ (vT X3 X4) FB.out (.cons (.when (.t rfl) hg) .nil))) rfl rfl ?_
 refine .g (cm.gF rfl rfl rfl rfl (fun hg=>P7 (.when (.t rfl) hg) (.c _))) rfl rfl ?_
 refine Z3 ?_
 refine Cd (fun c1=> ?_) fun c1=> ?_
 ·
  refine Z7 ?_
  refine bL ?_
  exact af.refl _
 have hvx:lS x:=Classical.byContradiction fun h=>c1 (.inl h)
 have hvy:lS y:=Classical.byContradiction fun h=>c1 (.inr h)
 have Nu:=Uj hvx.1 hp1 X0
 have GX:=Uj hvy.1 fI hsy
 have hex:=Pz hvx.1 X0
 have hey:=Pz hvy.1 hsy
 obtain ⟨hq1,Qc⟩:=Gi X0.globals Nu.r2.2.2
 obtain ⟨hq3,hq4⟩:=Gi hsy.globals GX.r2.2.2
 have hnx:=H7 Nu x.aZ.length
 have hny:=H7 GX y.aZ.length
 have hxm:=X0.dR
 have hr1x:=Nu.r1.1;have hr1y:=GX.r1.1;have hr2y:=GX.r2.1
 refine Z4 ?_
 refine .n (cE (h:=wR (n:=16384) (by decide))) rfl fun Ck Qs=> ?_
 refine Z8 ?_
 have hAo:dm Ck (jX 16384):=IW Qs (by decide)
 refine Z1 ?_
 refine .n (cE (h:=vJ (fr:=3))) rfl fun yp VA=> ?_
 refine Z6 ?_
 refine .p (cA (h:=AO X0)) rfl ?_
 refine Z2 ?_
 refine .n (kZ [] [1,2,3,4,0] (h:=sE (a:=(jX 16384)) (m:=x) (num:=0) (mm:=0) (Co:=pL 64) hAo Nu X1 X2 hvx (by rw [Qs];show 0+_≤_;omega) (by decide) (by decide) (by omega))) rfl fun Tc W9=> ?_
 refine Z9 ?_
 obtain ⟨b60,xq,ke,kd,tr⟩:=Tc
 obtain ⟨xz,RY⟩:=W9
 simp only at xz RY
 have hle:=RY.le
 simp only at hle
 have X5:=yO (X:=Ck) (m:=x) hAo Nu (by rw [Qs];show 0+_≤_;omega) ke
 have AR:(jo x (jX 16384) ke).height=fH x+oE x:=by (rw [X5.2.height];show 0+fH x+oE x=_;omega)
 refine Z3 ?_
 refine .p (cA (h:=AO hsy)) rfl ?_
 refine Z2 ?_
 refine .n (kZ [_,_] [2,3,4,5,6,0,1] (h:=sE (a:=(jo x (jX 16384) ke)) (m:=y) (num:=100) (mm:=0+yB x x.aZ.length) (Co:=(pQ x 0 (pL 64) kd)) X5.1 GX X3 X4 hvy (by rw [AR,Qs];omega) (by decide) (by decide) (by omega))) rfl fun g69 h69=> ?_
 refine Z9 ?_
 obtain ⟨b69,DW,Qt,P8,tr2⟩:=g69
 obtain ⟨Sp,UT⟩:=h69
 simp only at Sp UT
 have hle2:=UT.le
 simp only at hle2
 have hfy:=yO (X:=Ck) (m:=y) (a:=(jo x (jX 16384) ke)) X5.1 GX (by rw [AR,Qs];omega) Qt
 have X6:(jo x (jX 16384) ke).height+8*y.an.length≤Ck.size:=by rw [AR,Qs];omega
 have X7:(jo x (jX 16384) ke).height+fH y+4*eC y≤Ck.size:=by rw [AR,Qs];omega
 refine cT ?_
 refine Cd (fun c2=> ?_) fun c2=> ?_
 · exact absurd c2 (by simp)
 refine Z5 ?_
 refine .n (cE (h:=MM GX (by omega))) rfl fun g81 h81=> ?_
 refine Z3 ?_
 refine .n (ax FZ.out) rfl fun b18 _=> ?_
 refine Z4 ?_
 refine .share (t:=18) (i:=0) rfl rfl ?_
 have hu:=UT.uniq h81
 subst hu
 have hSAu:=A9.begin (a:=(jo x (jX 16384) ke)) X5.1 GX hey (by rw [AR,Qs];omega) hle2.1 hle2.2.1 P8
 have hSCu:=Ga.Py (num:=100) (Co:=(pQ x 0 (pL 64) kd)) GX (by decide) (fun i hi a=>(GW Nu (by omega) kd hle.2.2).trans (Mt _ _)) P8 hle2.2.2
 refine Z7 ?_
 refine .own (aB.perm (Perm.idx [7,8,0,1,2,3,4,5,6] rfl rfl)) ?_
 refine .aT (σ:=dX×Nat) (fun q=>fZ yp.pb xq (yj x 0 x.bp.length)::nJ b60 Ck yp.pb x 0 ((jX 16384).height:Int) (((jX 16384).height+fH x:Nat):Int) (ai 1 fz xq)::fZ yp.pb DW (yj y 100 y.bp.length)::nJ b69 Ck yp.pb y 100 ((jo x (jX 16384) ke).height:Int) (((jo x (jX 16384) ke).height+fH y:Nat):Int) (ai 1 fz DW)::ez Ck q.1++[ek yp 64 4096 (fun _=>True) (pQ y 100 (pQ x 0 (pL 64) kd) P8) ((0+yB x x.aZ.length+yB y y.aZ.length)) wB]) (fun q=>[(20,ag .i64 (q.2:Int))]) (fun q=>US Ck (jo y (jo x (jX 16384) ke) Qt) q.1 (jX 16384).height ((jX 16384).height+fH x)∧q.2≤x.an.length) (fun q=>x.an.length-q.2) ((jo y (jo x (jX 16384) ke) Qt),0) ⟨.refl hfy.1,Nat.zero_le _⟩ rfl ?_ ?_
 · exact (.get rfl (af.refl _) (.refl _ _))
 rintro ⟨a3,k⟩ ⟨hA,hk⟩
 simp only at hA hk ⊢
 refine cK ?_
 refine Cd (fun c3=> ?_) fun c3=> ?_
 ·
  obtain ⟨z,hz⟩:=ah (xs:=x.an) (k:=k) (by omega)
  refine Z8 ?_
  refine .n (kZ [_,_,_,_,_,_] [1,4,5,0,2,3,6,7,8] (h:=BW (a:=a3) (g:=(jX 16384).height) (i:=k) (v:=v) (z:=z) hz hA.ok (by rw [Qs];show 0+_≤_;omega) oe (Nu.gv z (List.mem_of_getElem? hz)).2.2 Nu.gl)) rfl fun g94 h94=> ?_
  refine Z8 ?_
  refine .own (aB.perm (Perm.idx [3,0,4,5,1,2,6,7,8] rfl rfl)) (bK.round (a3.put ((jX 16384).height+8*k) (yg (wO z.Ty v) 8),k+1) ⟨hA.put (Nat.le_add_right _ _) (by show _+8*k+8≤_;omega) (by rw [Qs];show 0+_≤_;omega),by show k+1≤_;omega⟩ (by show x.an.length-(k+1)<x.an.length-k;omega) rfl ?_)
  exact (.get rfl (af.int (by (show (k:Int)+1=((k+1:Nat):Int);omega))) ((.keep 13 rfl rfl)))
 have hke:k=x.an.length:=by omega
 subst hke
 refine dM ?_
 refine .aT (σ:=List u9×Cont×Nat×Nat) (fun q=>fZ yp.pb xq q.1::nJ b60 Ck yp.pb x 0 ((jX 16384).height:Int) (((jX 16384).height+fH x:Nat):Int) (ai 1 fz xq)::fZ yp.pb DW (yj y 100 y.bp.length)::nJ b69 Ck yp.pb y 100 ((jo x (jX 16384) ke).height:Int) (((jo x (jX 16384) ke).height+fH y:Nat):Int) (ai 1 fz DW)::ez Ck a3++[ek yp 64 4096 (fun _=>True) q.2.1 (q.2.2.1) wB]) (fun q=>[(21,ag .i64 (q.2.2.2:Int))]) (fun q=>VH x q.1 (pQ y 100 (pQ x 0 (pL 64) kd) P8) q.2.1∧q.2.2.1≤(0+yB x x.aZ.length+yB y y.aZ.length)+3*q.2.2.2∧q.2.2.2≤x.bp.length) (fun q=>x.bp.length-q.2.2.2) ((yj x 0 x.bp.length),(pQ y 100 (pQ x 0 (pL 64) kd) P8),(0+yB x x.aZ.length+yB y y.aZ.length),0) ⟨.begin Nu _,Nat.le_refl _,Nat.zero_le _⟩ rfl ?_ ?_
 · exact (.get rfl (af.refl _) (.refl _ _))
 rintro ⟨ms3,C3,m3,k⟩ ⟨hP,hm3,hk⟩
 simp only at hP hm3 hk ⊢
 refine cK ?_
 refine Cd (fun c4=> ?_) fun c4=> ?_
 ·
  obtain ⟨M,hM⟩:=ah (xs:=ms3) (k:=k) (by rw [hP.len];omega)
  obtain ⟨bk,hbk⟩:=ah (xs:=xq) (k:=k) (by omega)
  have hMok:=hP.ok k M hM
  have hMg:=P5 hMok.1 1
  refine Z8 ?_
  refine .n ((kZ [_,_,_,_,_,_,_,_] [1,0,2,3,4,5,6,7,8] (h:=Cc (bs:=xq) (i:=k) (b:=bk) hbk)).same (fun _ _=>aB.perm (Perm.idx [1,0,2,3,4,5,6,7,8] rfl rfl)) (fun _ _=>af.refl _)) rfl fun _ _=> ?_
  refine iW ?_
  refine Cd (fun c5=> ?_) fun c5=> ?_
  · exact absurd c5 (by simp)
  refine Z3 ?_
  refine .own (vi hbk hM) ?_
  refine Z2 ?_
  refine .n (cE (h:=JI (mb:=bk) (pb:=yp.pb) (mm:=M) (n:=1) hMok.1 (by decide))) rfl fun bA5 ao7=> ?_
  refine Z2 ?_
  subst ao7
  refine Z3 ?_
  refine .p ((Bq (.t rfl) (.c _) (by omega) (by omega)).le (af.int (show _=((v%65536:Nat):Int) by omega))) rfl ?_
  refine Z1 ?_
  refine .n (kZ [_,_,_,_,_,_,_,_] [0,9,1,2,3,4,5,6,7,8] (h:=xT (mb:=bk) (mm:=(pM M 1).1) (X:=yp) (z:=64) (q:=4096) (m:=m3) (T:=fun _=>True) (C:=C3) (R:=wB) (a:=v%65536) (o:=0) (ys:=b) (zG _) (by decide) (by decide) hMg.1 (by omega) (by decide) (by omega) (by omega))) rfl fun bA6 bA7=> ?_
  refine Z3 ?_
  refine .own (aB.perm (Perm.idx [0,2,3,4,5,6,7,8,9,1] rfl rfl)) ?_
  refine .own (P6 hbk (List.getElem?_eq_some_iff.1 hM).1) ?_
  refine Z5 ?_
  refine .round (ms3.set k (pM M 1).1,(if (cg (pM M 1).1.pages (v%65536) 0 (b.length:Int)).2=(0,0) then wE 64 C3 (pM M 1).1.num (v%65536+0) b else C3),m3+(b.length/64+2),k+1) ⟨hP.step (M:=(pM M 1).1) (by omega) ⟨hMg.1,hMg.2.trans hMok.2⟩ rfl,by show m3+(b.length/64+2)≤_+3*(k+1);omega,by show k+1≤_;omega⟩ (by show x.bp.length-(k+1)<x.bp.length-k;omega) rfl ?_
  exact (.get rfl (af.int (by (show (k:Int)+1=((k+1:Nat):Int);omega))) ((.keep 26 rfl rfl)))
 have X8:=hSAu.Nt hA (by rw [AR];show 0+_≤_;omega) (by rw [AR];show 0+_≤_;omega)
 have X9:=hSCu.Nt (k:=100) (fun i M h=>KM h) hP.Nt
 have ao8:=X9.Nt (k:=100) (C':=(sC C3 0 xq.length)) (fun i M h=>KM h) (fun n a hn=>Cj _ (by rw [xz];omega))
 obtain ⟨_,D4,hlv⟩:=Nd (x:=x) (y:=y) (a0:=(jX 16384)) (a1:=(jo x (jX 16384) ke)) (a2:=(jo y (jo x (jX 16384) ke) Qt)) (a3:=a3) (n:=16384) Nu.gl GX.gl Nu.r2.2.2 rfl X5.2 hfy.2 hA.same
 have Ya:(fJ (fJ a3 ((jX 16384).height:Int) (fH x)) (((jX 16384).height+fH x:Nat):Int) (oE x)).taken=_:=(show fG (fG a3.taken _) _=_ by rw [D4,s9,s9])
 have Sq:(fJ (fJ a3 ((jX 16384).height:Int) (fH x)) (((jX 16384).height+fH x:Nat):Int) (oE x)).live=fH y+oE y:=by (simp only [fJ];rw [hlv];omega)
 have Yb:(fJ (fJ (fJ (fJ a3 ((jX 16384).height:Int) (fH x)) (((jX 16384).height+fH x:Nat):Int) (oE x)) ((jo x (jX 16384) ke).height:Int) (fH y)) (((jo x (jX 16384) ke).height+fH y:Nat):Int) (oE y)).live=0:=by (simp only [fJ] at Sq ⊢;rw [Sq];omega)
 refine Z7 ?_
 refine .own (aB.cons _ (aB.cons _ (aB.cons _ (aB.cons _ LI)))) ?_
 refine Z2 ?_
 refine .p (bl.le (kK FA.out FC.out rfl (.t rfl) rfl) (af.refl (aC (pW (uw y Qt P8))))) rfl ?_
 refine .n ((kZ [_,_,_,_] [2,3,4,5,8,0,1,6,7] (h:=x9 (X:=Ck) (pg:=yp) (a:=a3) (m:=y) (num:=100) (g0:=(jo x (jX 16384) ke).height) (t0:=(jo x (jX 16384) ke).height+fH y) (mm:=m3) (nn:=P8) (bs:=DW) (ms:=yj y 100 y.bp.length) (Co:=C3) (s:=uw y Qt P8) hA.ok GX.gl GX.r2.2.2 X6 X7 (by simp [uw]) (nV y Qt) X8 X9 (by rw [lX];exact Sp) (by rw [lX];exact GX.ml) (by omega))).same (fun _ _=>aB.perm (Perm.idx [5,6,0,1,2,3,7,8,4] rfl rfl)) (fun _ _=>af.refl _)) rfl fun _ _=> ?_
 refine Z3 ?_
 refine .egJ ((fZ yp.pb xq ms3::az b60 [cr (br x),aI Ck.ab 0,aI yp.pb 0,ag .i64 0,ag .i64 ((jX 16384).height:Int),ag .i64 (((jX 16384).height+fH x:Nat):Int),ai 1 fz xq,aq True]::fZ yp.pb DW (yj y 100 y.bp.length)::nJ b69 Ck yp.pb y 100 ((jo x (jX 16384) ke).height:Int) (((jo x (jX 16384) ke).height+fH y:Nat):Int) (ai 1 fz DW)::tZ Ck (fJ (fJ a3 ((jX 16384).height:Int) (fH x)) (((jX 16384).height+fH x:Nat):Int) (oE x)) (0+2)++[ek yp 64 4096 (fun _=>True) (sC C3 0 xq.length) (m3) wB])) rfl rfl rfl rfl (fun hg=>(kZ [_,_,_] [1,4,5,6,7,8,0,2,3] (h:=x5 (sb:=b60) (pg:=yp) (X:=Ck) (a:=a3) (m:=x) (num:=0) (g0:=(jX 16384).height) (t0:=(jX 16384).height+fH x) (mm:=m3) (n:=0) (c1:=fH x) (c2:=oE x) (bs:=xq) (Co:=C3) (by rw [D4];exact qU) (by rw [D4,s9];exact qU) (by rw [hlv];omega) (by rw [hlv];omega) (by decide) (by decide) (by decide) (by rw [xz];exact Nu.ml))).conv (fun _ _=>aB.perm (Perm.idx [6,0,7,8,1,2,3,4,5] rfl rfl)) (fun _ _=>af.refl _)) (fun hg=>(absurd hg (by simp))) rfl rfl ?_
 refine Z4 ?_
 refine .g (cm.gF rfl rfl rfl rfl (fun hg=>bl.le (kK FA.out FC.out rfl (.t rfl) rfl) (af.refl (aC (pW (uw y Qt P8)))))) rfl rfl ?_
 refine .Vd rfl rfl rfl rfl (fun hg=>((kZ [_,_,_,_] [2,3,4,5,8,0,1,6,7] (h:=x9 (X:=Ck) (pg:=yp) (a:=(fJ (fJ a3 ((jX 16384).height:Int) (fH x)) (((jX 16384).height+fH x:Nat):Int) (oE x))) (m:=y) (num:=100) (g0:=(jo x (jX 16384) ke).height) (t0:=(jo x (jX 16384) ke).height+fH y) (mm:=m3) (nn:=P8) (bs:=DW) (ms:=yj y 100 y.bp.length) (Co:=(sC C3 0 xq.length)) (s:=uw y Qt P8) (GV (GV hA.ok)) GX.gl GX.r2.2.2 X6 X7 (by simp [uw]) (nV y Qt) X8.XZ.XZ ao8 (by rw [lX];exact Sp) (by rw [lX];exact GX.ml) (by omega))).same (fun _ _=>aB.perm (Perm.idx [5,6,0,1,2,3,7,8,4] rfl rfl)) (fun _ _=>af.refl _)).same (fun _ _=>aB.refl _) (fun _ _=>af.refl _)) rfl rfl ?_
 refine Z4 ?_
 refine Cd (fun c6=> ?_) fun c6=> ?_
 · exact absurd c6 (by simp)
 refine Z5 ?_
 refine .n (kZ [_,_,_] [3,4,5,6,7,8,0,1,2] (h:=x5 (sb:=b69) (pg:=yp) (X:=Ck) (a:=(fJ (fJ a3 ((jX 16384).height:Int) (fH x)) (((jX 16384).height+fH x:Nat):Int) (oE x))) (m:=y) (num:=100) (g0:=(jo x (jX 16384) ke).height) (t0:=(jo x (jX 16384) ke).height+fH y) (mm:=m3) (n:=0+2) (c1:=fH y) (c2:=oE y) (bs:=DW) (Co:=(sC C3 0 xq.length)) (by rw [Ya];exact qU) (by rw [Ya,s9];exact qU) (by rw [Sq];omega) (by rw [Sq];omega) (by decide) (by decide) (by decide) (by rw [Sp];exact GX.ml))) rfl fun bA8 bA9=> ?_
 refine Z3 ?_
 refine .egT rfl rfl rfl rfl (fun hg=>((kZ [_,_,_,_,_,_,_,_] [1,0,2,3,4,5,6,7,8] (h:=Il (X:=Ck) (a:=(fJ (fJ (fJ (fJ a3 ((jX 16384).height:Int) (fH x)) (((jX 16384).height+fH x:Nat):Int) (oE x)) ((jo x (jX 16384) ke).height:Int) (fH y)) (((jo x (jX 16384) ke).height+fH y:Nat):Int) (oE y))))).same (fun _ _=>aB.perm (Perm.idx [1,0,2,3,4,5,6,7,8] rfl rfl)) (fun _ _=>af.refl _)).same (fun _ _=>aB.refl _) (fun _ _=>af.refl _)) rfl rfl ?_
 refine Z6 ?_
 refine bL ?_
 exact af.prop (by (push_cast at Yb ⊢;simp [Yb]))
end Go.Proofs.YtpfobikpggmleaaGreatDoor
end
section
namespace Go.Hl
open Go.RowKit
theorem VP.ext' {a b:VP} (h:∀S w v,a.p S w v↔b.p S w v):a=b:=by
 cases a;cases b
 congr
 funext S w v
 exact propext (h S w v)
theorem lW {α β:Type} {n:Nat} {enc:β→List VP} {f:α→β} {l:List α}:ai n (fun a=>enc (f a)) l=ai n enc (l.map f):=by
 refine VP.ext' fun S w v=>⟨fun ⟨a,cap,h1,h2,h3,h4⟩=>⟨a,cap,by rw [List.length_map];exact h1,by rw [List.length_map];exact h2,by rw [List.length_map];exact h3, ?_⟩,fun ⟨a,cap,h1,h2,h3,h4⟩=>⟨a,cap,by rw [List.length_map] at h1;exact h1,by rw [List.length_map] at h2;exact h2,by rw [List.length_map] at h3;exact h3, ?_⟩⟩
 · cases a with
   |none=>exact h4
   |some ad=>
    intro h0
    obtain ⟨k1,k2,k3⟩:=h4 h0
    refine ⟨k1,k2,fun i x hx=> ?_⟩
    rw [List.getElem?_map] at hx
    obtain ⟨y,hy,rfl⟩:=Option.map_eq_some_iff.1 hx
    exact k3 i y hy
 · cases a with
   |none=>exact h4
   |some ad=>
    intro h0
    obtain ⟨k1,k2,k3⟩:=h4 h0
    exact ⟨k1,k2,fun i x hx=>k3 i (f x) (by rw [List.getElem?_map,hx];rfl)⟩
abbrev yU (n:pz .u64):List VP:=eA n.1
abbrev IWm:={x:aA//JH x}
theorem u64_in (a:pz .u64):0≤a.1∧a.1<18446744073709551616:=by
 have h:=a.2
 have e1:IntKind.u64.min=0:=by decide
 have e2:IntKind.u64.max=18446744073709551615:=by decide
 simp [Lit.wf] at h
 omega
def Ti (c:Int) (a b:pz .u64) (al:Int) (l:List (pz .u64)):IWm:=⟨⟨c,a.1,b.1,al,l.map (·.1)⟩,u64_in a,u64_in b,fun n hn=>by
 obtain ⟨y,_,rfl⟩:=List.mem_map.1 hn;exact (u64_in y).1⟩
abbrev xu (x:IWm):List VP:=aK x.1
instance:hU 5 xu:=⟨fun x=>(inferInstance:hU 5 aK).len x.1,fun x q h=>(inferInstance:hU 5 aK).flat x.1 q h⟩
abbrev P9:={b:kr//∀y∈b.L,JH y}
def KN (t:List UInt8) (l:List IWm):P9:=⟨⟨t,l.map (·.1)⟩,fun y hy=>by
 obtain ⟨z,_,rfl⟩:=List.mem_map.1 hy;exact z.2⟩
abbrev AP (b:P9):List VP:=iL b.1
instance:hU 2 AP:=⟨fun x=>(inferInstance:hU 2 iL).len x.1,fun x q h=>(inferInstance:hU 2 iL).flat x.1 q h⟩
abbrev KO:={f:cU//∀y∈f.Body.L,JH y}
def Sr (s:Int) (b:P9):KO:=⟨⟨s,b.1⟩,b.2⟩
abbrev sF (f:KO):List VP:=jE f.1
instance:hU 3 sF:=⟨fun x=>(inferInstance:hU 3 jE).len x.1,fun x q h=>(inferInstance:hU 3 jE).flat x.1 q h⟩
theorem Nf (c:Int) (a b:pz .u64) (al:Int) (l:List (pz .u64)):[ag .i64 c,ag .u64 a.1,ag .u64 b.1,ag .i64 al,ai 1 yU l]=xu (Ti c a b al l):=by
 rw [show ai 1 yU l=ai 1 eA (l.map (·.1)) from lW (enc:=eA) (f:=Subtype.val)];rfl
theorem GY (t:List UInt8) (l:List IWm):[ai 1 aj t,ai 5 xu l]=AP (KN t l):=by
 rw [show ai 5 xu l=ai 5 aK (l.map (·.1)) from lW (enc:=aK) (f:=Subtype.val)];rfl
abbrev KP:={x:jF//0≤x.Value∧x.Value<18446744073709551616}
def Ss (a:UInt8) (b:Prop) (c:pz .u64):KP:=⟨⟨a,b,c.1⟩,u64_in c⟩
abbrev sG (x:KP):List VP:=eG x.1
instance:hU 3 sG:=⟨fun x=>(inferInstance:hU 3 eG).len x.1,fun x q h=>(inferInstance:hU 3 eG).flat x.1 q h⟩
abbrev KQ:={x:fR//0≤x.At∧x.At<18446744073709551616}
def Su (a:pz .u64) (l:List Int):KQ:=⟨⟨a.1,l⟩,u64_in a⟩
abbrev sH (x:KQ):List VP:=fS x.1
instance:hU 2 sH:=⟨fun x=>(inferInstance:hU 2 fS).len x.1,fun x q h=>(inferInstance:hU 2 fS).flat x.1 q h⟩
abbrev Sv:={x:jJ//0≤x.At∧x.At<18446744073709551616}
def UU (m:Int) (a:pz .u64) (l:List UInt8):Sv:=⟨⟨m,a.1,l⟩,u64_in a⟩
abbrev vU (x:Sv):List VP:=gV x.1
instance:hU 3 vU:=⟨fun x=>(inferInstance:hU 3 gV).len x.1,fun x q h=>(inferInstance:hU 3 gV).flat x.1 q h⟩
abbrev UW:={m:aR//(∀f∈m.ay,∀y∈f.Body.L,JH y)∧RJ m}
def Qa (a:List oa) (b:List iK) (c:List KO) (d:Int) (e:List eo) (f:List KP) (g:List dW) (h:Int) (i:List KQ) (j:List Sv):UW:=⟨⟨a,b,c.map (·.1),d,e,f.map (·.1),g,h,i.map (·.1),j.map (·.1)⟩,fun f hf=>by
 obtain ⟨z,_,rfl⟩:=List.mem_map.1 hf;exact z.2,fun z hz=>by obtain ⟨y,_,rfl⟩:=List.mem_map.1 hz;exact y.2,fun z hz=>by obtain ⟨y,_,rfl⟩:=List.mem_map.1 hz;exact y.2,fun z hz=>by obtain ⟨y,_,rfl⟩:=List.mem_map.1 hz;exact y.2⟩
abbrev yW (m:UW):List VP:=br m.1
theorem JJ (a:List oa) (b:List iK) (c:List KO) (d:Int) (e:List eo) (f:List KP) (g:List dW) (h:Int) (i:List KQ) (j:List Sv):
    [ai 2 cu a,ai 3 kq b,ai 3 sF c,ag .i64 d,ai 3 eY e,ai 3 sG f,ai 3 dZ g,ag .i64 h,ai 2 sH i,ai 3 vU j]=yW (Qa a b c d e f g h i j):=by
  rw [show ai 3 sF c=ai 3 jE (c.map (·.1)) from lW (enc:=jE) (f:=Subtype.val),show ai 3 sG f=ai 3 eG (f.map (·.1)) from lW (enc:=eG) (f:=Subtype.val),show ai 2 sH i=ai 2 fS (i.map (·.1)) from lW (enc:=fS) (f:=Subtype.val),show ai 3 vU j=ai 3 gV (j.map (·.1)) from lW (enc:=gV) (f:=Subtype.val)];rfl
theorem Yc (a:pz .u64):∃m:Nat,a.1=(m:Int)∧m<18446744073709551616:=⟨a.1.toNat,by have:=u64_in a;omega,by have:=u64_in a;omega⟩
end Go.Hl
end
section
namespace Go.Proofs.YtpfobikpggmleaaGreatDoor
open Go.Hl Go.RowKit
theorem xw {x y:UW} {v:pz .u64} {b:List UInt8}:cW Tryz.prog 5 [aC (br x.1),aC (br y.1),ag .u64 v.1,ai 1 aj b] (aq True):=by
 obtain ⟨k,hk,hlt⟩:=Yc v
 rw [hk]
 exact xo x.2.1 x.2.2 y.2.1 y.2.2 hlt
end Go.Proofs.YtpfobikpggmleaaGreatDoor
end
