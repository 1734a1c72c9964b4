/-
  Parts of the proof.
-/
import Derived.Test.YtppekopemdoclaaGreatDoorRAN
set_option linter.all false
set_option maxRecDepth 1000000
set_option maxHeartbeats 4000000
section
namespace Go.Proofs.YtppekopemdoclaaGreatDoor
open Go.Hl Go.RowKit
variable {l:List aj}
theorem B1{nb:Nat}{z:QB}(ak:l.length<=50000)(aR:iQ l z.sp z.op [])(bO:z.op=[])(dO:z.sp=[])(jE:¬z.cl):bu Wo 144 [ax nb 0] (EF nb l z) (γ:=Int×Int×QB) (λg=>(g.2.1=0↔fQ (l.map (·.Code)) [])/\(g.2.1=0->g.2.2.sp=lS l)) (λg=>EF nb l g.2.2) (λg=>aZ [af .i64 g.1,af .i64 g.2.1]):=by
 refine In 32 Tryz.func144 λ_ _ _=>?_;refine zE ?_;refine .bk (σ:=Nat×QB) (λg=>EF nb l g.2) (λg=>[(11,af .i64 (g.1:Int))]) (λg=>g.1<=l.length/\(g.2.sp,g.2.op)=M5 l g.1/\g.2.op.length<=64/\g.2.sp.length<=g.1/\∃rs,iQ l g.2.sp g.2.op rs/\(fQ (l.map (·.Code)) []↔gf g.2.cl rs ((l.drop g.1).map (·.Code)))) (λg=>l.length-g.1) (0,z) ⟨Nat.zero_le _,by(show(z.sp,z.op)=([],[]);rw[bO,dO]),by rw[bO];simp,by rw[dO];simp,[],aR,by rw[eq_false jE];simp[gf]⟩ rfl ?_ ?_
 · exact(.get rfl (aa.refl _) (.refl _ _))
 rintro⟨i,y⟩ ⟨hi,hsk,ho,hsp,rs,hr,hn⟩;simp only at hi hsk ho hsp hr hn ⊢;refine Z6 ?_;refine Cd (λc0=>?_) λc0=>?_
 ·
  obtain⟨x,hx⟩:=ah (xs:=l) (k:=i) (by omega);have hdr:(l.drop i).map (·.Code)=x.Code::(l.drop (i+1)).map (·.Code):=by rw[List.drop_eq_getElem_cons (by omega),List.map_cons];rw[show l[i]=x from by rw[List.getElem?_eq_getElem (by omega)] at hx;exact Option.some.inj hx]
  refine ij ?_;refine .n (cE (h:=Lw hr ho (by omega) hx)) rfl λZQ Vy=>?_;refine Z9 ?_;refine Cd (λc1=>?_) λc1=>?_
  ·
   refine ij ?_;refine Post.bh rfl rfl ((i,ZQ)) (by exact(by rcases Vy with⟨h1,_⟩|⟨h1,h2⟩;exact absurd h1 c1;exact⟨⟨λh=>absurd h h1,λh=>absurd (hdr▸hn.1 h) (h2 _)⟩,λh=>absurd h h1⟩)) (λ_ _ _ h=>h) rfl (.cons (.rt rfl) ?_ (.cons (.rt rfl) ?_ .nil))
   · exact aa.refl _
   exact aa.refl _
  refine Z7 ?_;refine .round (i+1,ZQ.2) (by rcases Vy with⟨h1,h6,h5,h2,PO,h3,h4⟩|⟨h1,_⟩;exact⟨by show i+1<=_;omega,(by(show(_,_)=M5 l (i+1);rw[af9 hx,<-hsk];exact h6)),h2,by show ZQ.2.sp.length<=i+1;omega,PO,h3,hn.trans (by rw[hdr];exact h4 _)⟩;exact absurd h1 (λh=>c1 h)) (by show l.length-(i+1)<l.length-i;omega) rfl ?_;exact(.get rfl (aa.int (by show(_:Int)=((i+1:Nat):Int);omega)) ((.keep 12 rfl rfl)))
 have aM6:i=l.length:=by omega
 have Ca:l.drop i=[]:=List.drop_eq_nil_of_le (by omega);rw[Ca] at hn;simp only[List.map_nil] at hn;rw[OS] at hn;refine oA ?_;refine Cd (λc2=>?_) λc2=>?_
 ·
  refine kL ?_;refine Post.bh rfl rfl (((l.length:Int),4,y)) (by exact⟨⟨λh=>by simp at h,λh=>absurd (hn.1 h) c2⟩,λh=>by simp at h⟩) (λ_ _ _ h=>h) rfl (.cons (.rt rfl) ?_ (.cons (.rt rfl) ?_ .nil))
  · exact aa.refl _
  exact aa.refl _
 refine Z9 ?_;refine Post.bh rfl rfl ((0,0,y)) (by exact⟨⟨λ_=>hn.2 (Classical.not_not.1 c2),λ_=>rfl⟩,λ_=>by(subst aM6;exact congrArg Prod.fst hsk)⟩) (λ_ _ _ h=>h) rfl (.cons (.rt rfl) ?_ (.cons (.rt rfl) ?_ .nil))
 · exact aa.refl _
 exact aa.refl _
theorem IX(ak:l.length<=50000):bu Wo 98 [ai 5 aB l] [] (γ:=Int) (λe=>e=0↔fQ (l.map (·.Code)) []) (λ_=>[]) (λe=>aZ [fS,fS,af .i64 e]):=by
 refine In 24 Tryz.func98 λ_ _ _=>?_;refine dh ?_;refine .n (cc (.t rfl)) rfl λb10 _=>?_;refine Z5 ?_;refine .own (hs':=EF b10 l ⟨none,none,[],[],False,0⟩) (aF.trans (aF.Ei (cs':=[ai 5 aB l,ag (.slice none 0 0),ag (.slice none 0 0),av False,af .i64 0]) (.cons (.refl _) (.cons (.refl _) (.cons (.refl _) (.cons vo (.cons (.refl _) .nil)))))) (aF.cons _ M4)) ?_;refine Z2 ?_;refine .n (cE (h:=B1 (z:=⟨none,none,[],[],False,0⟩) ak (iQ.nil _ _) rfl rfl (λh=>h))) rfl λZ0 Xk=>?_;refine kL ?_;refine Cd (λc0=>?_) λc0=>?_
 ·
  refine dh ?_;refine Post.bh rfl rfl (Z0.2.1) (by exact Xk.1) (aF.cZ [] [0,1,2] rfl rfl) rfl (.cons (.rt rfl) ?_ (.cons (.rt rfl) ?_ (.cons (.rt rfl) ?_ .nil)))
  · exact aa.any
  · exact aa.any
  exact aa.refl _
 refine ij ?_;refine Post.bh rfl rfl (Z0.2.1) (by exact Xk.1) (aF.cZ [] [0,1,2] rfl rfl) rfl (.cons (.rt rfl) ?_ (.cons (.rt rfl) ?_ (.cons (.rt rfl) ?_ .nil)))
 · exact aa.any
 · exact aa.any
 exact aa.int (by omega)
theorem Fs(ak:l.length<=50000)(aR:fQ (l.map (·.Code)) []):bu Wo 98 [ai 5 aB l] [] (γ:=Unit) (λ_=>True) (λ_=>[]) (λ_=>aZ [ai 3 bP (lS l),af .i64 0,af .i64 0]):=by
 refine In 24 Tryz.func98 λ_ _ _=>?_;refine dh ?_;refine .n (cc (.t rfl)) rfl λb10 _=>?_;refine Z5 ?_;refine .own (hs':=EF b10 l ⟨none,none,[],[],False,0⟩) (aF.trans (aF.Ei (cs':=[ai 5 aB l,ag (.slice none 0 0),ag (.slice none 0 0),av False,af .i64 0]) (.cons (.refl _) (.cons (.refl _) (.cons (.refl _) (.cons vo (.cons (.refl _) .nil)))))) (aF.cons _ M4)) ?_;refine Z2 ?_;refine .n (cE (h:=B1 (z:=⟨none,none,[],[],False,0⟩) ak (iQ.nil _ _) rfl rfl (λh=>h))) rfl λZ0 Xk=>?_;refine kL ?_;refine Cd (λc0=>?_) λc0=>?_
 · exact absurd (Xk.1.2 aR) c0
 refine Z3 ?_;have hsp:=Xk.2 (Xk.1.2 aR);refine .jX (i:=1) (j:=0) (f:=1) rfl rfl rfl ?_;refine dh ?_;refine Post.bh rfl rfl (()) (by trivial) (aF.cZ [] [0,1] rfl rfl) rfl (.cons (.rt rfl) ?_ (.cons (.rt rfl) ?_ (.cons (.rt rfl) ?_ .nil)))
 · exact aa.of_eq (by rw[hsp])
 · exact aa.refl _
 exact aa.refl _
theorem Tk{xs:List jr}:bu Wo 212 [ai 3 bP xs] [] (γ:=Unit) (λ_=>True) (λ_=>[]) (λ_=>yM 278 [ck [ai 3 bP xs]]):=by
 refine In 4 Tryz.func212 λ_ _ _=>?_;refine Z8 ?_;refine .p (qY (.cons (.t rfl) .nil)) rfl ?_;refine Z4 ?_;refine br ?_;exact .z
theorem PT{l:Nat}{xs:List jr}{J:Nat->List HP}(ak:xs.length<=50000)(aR:∀j,j<xs.length->Rv Wo l [af .i64 ((xs.length:Int)-1-(j:Int)),aC (bP (tI xs j))] (J j) (J (j+1))):bu Wo 278 [yV l,ck [ai 3 bP xs]] (J 0) (γ:=Unit) (λ_=>True) (λ_=>J xs.length) (λ_=>aZ []):=by
 refine In 19 Tryz.func278 λ_ _ _=>?_;refine Z9 ?_;refine .bk (σ:=Nat) (λj=>J j) (λj=>[(3,af .i64 ((xs.length:Int)-1-(j:Int)))]) (λj=>j<=xs.length) (λj=>xs.length-j) 0 (Nat.zero_le _) rfl ?_ ?_
 · exact(.get rfl (aa.int (by omega)) (.refl _ _))
 rintro j hj;refine Z7 ?_;refine Cd (λc0=>?_) λc0=>?_
 ·
  have hjN:j<xs.length:=by omega
  have hx:=SZ hjN;refine cC ?_;refine .p (cI (xs.length-1-j) (h:=hx)) rfl ?_;refine Z1 ?_;refine .yld (aR j hjN) (.t rfl) (.cons (.t rfl) (.cons (.t rfl) .nil)) (List.Perm.of_eq (List.append_nil _).symm) rfl ?_;refine Z3 ?_;refine Cd (λc1=>?_) λc1=>?_
  · exact(c1 trivial).elim
  refine Z8 ?_;refine .round (j+1) hjN (by omega) (List.append_nil _) ?_;exact(.get rfl (aa.int (by omega)) ((.keep 14 rfl rfl)))
 have hjN:j=xs.length:=by omega
 subst hjN;refine Z4 ?_;refine Post.cY rfl (()) (by trivial) (λ_ _ _ h=>h) rfl
variable {sp:List jr} {hts:List Nat} {res:Nat} {sb:Nat}
theorem CR{at_:Nat}(ak:sp.length<=50000):bu Wo 145 [ck [ai 5 aB l,ai 3 bP sp,ai 1 fU hts,nV res,ax sb 0],nV at_] [] (γ:=Unit) (λ_=>True) (λ_=>[]) (λ_=>ai 3 bP (jb sp (at_:Int))):=by
 refine bu.X1 30 Tryz.func145 rfl rfl rfl λw0 S0 M=>?_;refine Z8 ?_;refine .n (au FZ.out) rfl λb5 _=>?_;refine Z9 ?_;refine .p (cA (h:=Tk (xs:=sp))) rfl ?_;refine Z3 ?_;refine .own (aF.trans (AA (n:=3) (enc:=bP)) (aF.trans (aF.perm (Perm.idx [1,0] rfl rfl)) (vN (sb:=none) (xs:=([]:List jr))))) ?_;refine .X2 sp.length (λj=>[EO 3 bP b5 (Pk sp (at_:Int) j)]) (λj=>[af .i64 ((sp.length:Int)-1-(j:Int)),aC (bP (tI sp j))]) rfl rfl rfl FB.out (.t rfl) rfl (by decide) (λ_ _=>rfl) (λl D r hY=>PT (xs:=sp) (J:=λj=>nw l D .ready r _::[EO 3 bP b5 (Pk sp (at_:Int) j)]) ak hY) (λl D fn tmps j hj w0 S0 M=>?_) (λD=>?_)
 ·
  refine .own (aF.perm (Perm.idx [1,0] rfl rfl)) ?_;refine .S2 λsb5=>?_;refine Z1 ?_;refine .n (au FZ.out) rfl λb7 _=>?_;refine Z2 ?_;refine .share (t:=7) (i:=0) rfl rfl (bS.own (aF.perm (Perm.idx [2,0,1] rfl rfl)) (bS.begin ?_));refine oA ?_;refine Cd (λc0=>?_) λc0=>?_
  ·
   refine Z3 ?_;refine .p (cB bP [tI sp j]) rfl ?_;refine .n (aK (i:=2) FU.out FU.out FC.out rfl FZ.out rfl FY.out (.t rfl) (.t rfl) rfl (by have h9:=Fa (sp:=sp) (at_:=(at_:Int)) (j:=j);simp only[List.length_cons,List.length_nil];omega) (by have h9:=Fa (sp:=sp) (at_:=(at_:Int)) (j:=j);simp only[List.length_cons,List.length_nil];omega)) rfl λXb _=>?_;refine Z3 ?_;refine .own (aF.perm (Perm.idx [1,2,0] rfl rfl)) (bS.own (aF.trans vN (aF.trans (aF.GG (show _=EO 3 bP b5 (Pk sp (at_:Int) (j+1)) by first|rw[<-Nv hj c0]|rw[<-S1 hj c0])) (aF.perm (Perm.idx [1,0] rfl rfl)))) (bS.endRound))
  refine Z2 ?_;refine .own (aF.perm (Perm.idx [1,2,0] rfl rfl)) (bS.own (aF.trans vN (aF.trans (aF.GG (show _=EO 3 bP b5 (Pk sp (at_:Int) (j+1)) by first|rw[<-Nv hj c0]|rw[<-S1 hj c0])) (aF.perm (Perm.idx [1,0] rfl rfl)))) (bS.endRound))
 refine Z3 ?_;refine .own (aF.perm (Perm.idx [1,0] rfl rfl)) ?_;refine .S2 λsb5=>?_;refine Z5 ?_;refine .eC (t:=4) (i:=1) rfl rfl ?_;refine Z1 ?_;refine .own (aF.perm (Perm.idx [1,0] rfl rfl)) (AD.aS rfl (()) (by trivial) (aF.cZ [] [0] rfl rfl) (.rt rfl) ?_);exact aa.of_eq (by rw[Nu])
variable {x:jr}
theorem IY(ak:vM l.length x):dF Wo 215 [ck [ai 5 aB l,ai 3 bP sp,ai 1 fU hts,nV res,ax sb 0],aC (bP x)] (af .i64 (Iv l x)):=by
 refine In 15 Tryz.func215 λ_ _ _=>?_;have Cf:=ak;have hlo:=Cf.lo;have hhi:=Cf.hi;have hel:=Cf.el;have QL:=Cf.en;obtain⟨y,hy⟩:=ah (xs:=l) (k:=x.1.toNat) (by omega);have Qv:=tJ (show x.1=((x.1.toNat:Nat):Int) by omega) hy;refine Z8 ?_;refine .bL 6 4 FM.out (by kernel_rfl) (k:= ?_);refine Z7 ?_;refine .p (cI x.1.toNat (h:=hy)) rfl ?_;refine Z5 ?_;refine Cd (λc0=>?_) λc0=>?_
 ·
  refine Z7 ?_;refine br ?_;exact aa.int (by unfold Iv;rw[Qv,if_pos c0])
 refine Z8 ?_;refine br ?_;exact aa.int (by unfold Iv;rw[Qv,if_neg c0])
theorem xu(ak:vM l.length x)(aR:hts.length=l.length)(bO:Cb hts<=40000):dF Wo 214 [ck [ai 5 aB l,ai 3 bP sp,ai 1 fU hts,nV res,ax sb 0],aC (bP x)] (af .i64 (lX l hts x)):=by
 refine In 28 Tryz.func214 λ_ _ _=>?_;have Cf:=ak;have hlo:=Cf.lo;have hhi:=Cf.hi;have hel:=Cf.el;have QL:=Cf.en;obtain⟨y,hy⟩:=ah (xs:=l) (k:=x.1.toNat) (by omega);have Qv:=tJ (show x.1=((x.1.toNat:Nat):Int) by omega) hy;obtain⟨h,hh⟩:=ah (xs:=hts) (k:=x.1.toNat) (by omega);have hhm:h<=40000:=by(have h9:=S4 (l:=hts) (i:=x.1.toNat);rw[hh] at h9;exact Nat.le_trans h9 bO)
 have hB:lX l hts x=if y.Code=4 then max ((h:Int)-1) 0 else(h:Int):=by unfold lX;rw[Qv,hh];rfl
 refine Z7 ?_;refine .bL 6 3 FM.out (by kernel_rfl) (k:= ?_);refine Z7 ?_;refine .p (cI x.1.toNat (h:=hh)) rfl ?_;refine Z6 ?_;refine .bL 6 4 FM.out (by kernel_rfl) (k:= ?_);refine Z7 ?_;refine .p (cI x.1.toNat (h:=hy)) rfl ?_;refine Z5 ?_;refine Cd (λc0=>?_) λc0=>?_
 ·
  refine cC ?_;refine br ?_;exact aa.int (by rw[hB,if_pos c0])
 refine Z9 ?_;refine br ?_;exact aa.int (by rw[hB,if_neg c0])
theorem za{ar:List jr}{n:Int}(ak:∀x∈ar,vM l.length x)(aR:hts.length=l.length)(bO:Cb hts<=40000)(dO:l.length<=5000)(jE:0<=n)(sx:ar.length<=50000):bu Wo 147 [ck [ai 5 aB l,ai 3 bP sp,ai 1 fU hts,nV res,ax sb 0],ai 3 bP ar,af .i64 n] [] (γ:=Unit) (λ_=>True) (λ_=>[]) (λ_=>aC (lV (sj l hts res ar n))):=by
 refine In 53 Tryz.func147 λ_ _ _=>?_;refine Z2 ?_;refine .n (au FZ.out) rfl λb6 _=>?_;refine dh ?_;refine Cd (λc0=>?_) λc0=>?_
 ·
  have hJ:sj l hts res ar n=⟨(l.length:Int),(res:Int),0⟩:=if_pos c0;refine Z1 ?_;refine .bL 9 2 FM.out (by kernel_rfl) (k:= ?_);refine Cm ?_;refine Post.aS rfl (()) (by trivial) (aF.cZ [] [0] rfl rfl) (.ra (i:=0) FA.out FC.out rfl rfl rfl rfl) ?_;exact aa.of_eq (by rw[hJ];rfl)
 obtain⟨x,hx⟩:=ah (xs:=ar) (k:=n.toNat) (by omega);have Cf:=ak x (List.mem_of_getElem? hx);have hlo:=Cf.lo;have hhi:=Cf.hi;have hel:=Cf.el;have QL:=Cf.en;obtain⟨y,hy⟩:=ah (xs:=l) (k:=x.1.toNat) (by omega);have Qv:=tJ (show x.1=((x.1.toNat:Nat):Int) by omega) hy;have hJ:sj l hts res ar n=if y.Code=3 then⟨x.1+1,0,lX l hts x⟩ else⟨x.2.2+1,Iv l x,lX l hts x⟩:=by unfold sj;rw[if_neg c0,hx];simp only[Option.getD_some];rw[Qv]
 refine Z6 ?_;refine .p (cI n.toNat (h:=hx)) rfl ?_;refine Z1 ?_;refine .n (au FZ.out) rfl λb7 _=>?_;refine Z3 ?_;refine .share (t:=7) (i:=0) rfl rfl ?_;refine Z2 ?_;refine .bL 6 4 FM.out (by kernel_rfl) (k:= ?_);refine Z7 ?_;refine .p (cI x.1.toNat (h:=hy)) rfl ?_;refine Z5 ?_;refine Cd (λc1=>?_) λc1=>?_
 ·
  rw[if_pos c1] at hJ;refine Z1 ?_;refine .bL 6 2 FM.out (by kernel_rfl) (k:= ?_);refine Z5 ?_;refine .p (cA (h:=xu Cf aR bO)) ?_;refine Z7 ?_;refine Post.aS rfl (()) (by trivial) (aF.cZ [] [0] rfl rfl) (.ra (i:=0) FA.out FC.out rfl rfl rfl rfl) ?_;exact aa.of_eq (by rw[hJ];rfl)
 rw[if_neg c1] at hJ;refine Z3 ?_;refine .bL 9 2 FM.out (by kernel_rfl) (k:= ?_);refine Z5 ?_;refine .p (cA (h:=IY Cf)) ?_;refine Z2 ?_;refine .p (cA (h:=xu Cf aR bO)) ?_;refine Z6 ?_;refine Post.aS rfl (()) (by trivial) (aF.cZ [] [0] rfl rfl) (.ra (i:=0) FA.out FC.out rfl rfl rfl rfl) ?_;exact aa.of_eq (by rw[hJ];rfl)
theorem zc{l:List Int}(ak:l.length<=60000):bu Wo 213 [ai 1 eo l] [] (γ:=SB) (λ_=>True) (λg=>[aH g 1 eo l]) (λg=>ag (bI g l.length)):=by
 refine In 8 Tryz.func213 λ_ _ _=>?_;refine .UB (t:=0) rfl λp hp=>?_;refine Z9 ?_;refine .p (Oa FU.out (.t rfl) (.c _)) rfl ?_;refine Z2 ?_;refine Cd (λc0=>?_) λc0=>?_
 ·
  refine Z7 ?_;refine Post.aS rfl (none) (by trivial) (by rw[hp c0];exact AA) (.rt rfl) ?_;exact aa.of_eq (by rw[hp c0];rfl)
 refine Z4 ?_;refine .n (dM eo ([]:List Int) FU.out FC.out rfl FZ.out rfl .nil rfl rfl rfl rfl rfl) rfl λg5 _=>?_;refine Z1 ?_;refine .n (aK (i:=0) FU.out FU.out FC.out rfl FZ.out rfl FY.out (.t rfl) (.le (.t rfl) JZ) rfl (by simp<;>omega) (by simp<;>omega)) rfl λg7 _=>?_;refine Z4 ?_;refine Post.aS rfl (g7) (by trivial) (λ_ _ _ h=>by simpa using h) (.rt rfl) ?_;exact aa.of_eq (by simp)
theorem CS{x:aj}(ak:p9 x):bu Wo 146 [aC (aB x)] [] (γ:=Unit) (λ_=>True) (λ_=>[]) (λ_=>ai 1 eo (dL x)):=by
 refine In 20 Tryz.func146 λ_ _ _=>?_;have pX:=ak.Ln;refine XR ?_;refine Cd (λc0=>?_) λc0=>?_
 ·
  refine Z2 ?_;refine Cd (λc1=>?_) λc1=>?_
  ·
   refine Z4 ?_;refine .p (cB eo [x.A]) rfl ?_;refine Z6 ?_;refine br ?_
   first|(exfalso;omega)|exact aa.of_eq (by unfold dL;(repeat (first|rw[if_pos (by omega)]|rw[if_neg (by omega)]));first|done|rfl)|(rw[show dL x=[] by unfold dL;(repeat (first|rw[if_pos (by omega)]|rw[if_neg (by omega)]))];exact aE 1 eo)
  refine Z6 ?_;refine Cd (λc2=>?_) λc2=>?_
  ·
   refine Z1 ?_;refine .bt [(0,0),(1,0),(3,0),(4,0),(5,0),(2,2)] 6 2 FM.out (by kernel_rfl) (k:= ?_);refine Z4 ?_;refine .p rfl (λ_=>bC (enc:=eo) [x.A] FU.out FC.out rfl FZ.out rfl (.cons (.t rfl) .nil) rfl rfl rfl rfl rfl) ?_;refine .e rfl (cE (h:=zc pX)) λyx NA=>?_;refine .fin ?_;refine .n (gW.eC (G:=λg=>g) (l6:=λ_=>_) (xs:=λ_=>_) (aK (i:=0) FU.out FU.out FC.out rfl FZ.out rfl FY.out (.t rfl) (.t rfl) rfl (by simp only[List.length_cons,List.length_nil];omega) (by simp only[List.length_cons,List.length_nil];omega))) rfl λ_ _=>?_;refine Z6 ?_;refine br ?_
   first|(exfalso;omega)|exact aa.of_eq (by unfold dL;(repeat (first|rw[if_pos (by omega)]|rw[if_neg (by omega)]));first|done|rfl)|(rw[show dL x=[] by unfold dL;(repeat (first|rw[if_pos (by omega)]|rw[if_neg (by omega)]))];exact aE 1 eo)
  refine Z9 ?_;refine br ?_
  first|(exfalso;omega)|exact aa.of_eq (by unfold dL;(repeat (first|rw[if_pos (by omega)]|rw[if_neg (by omega)]));first|done|rfl)|(rw[show dL x=[] by unfold dL;(repeat (first|rw[if_pos (by omega)]|rw[if_neg (by omega)]))];exact aE 1 eo)
 refine Z5 ?_;refine Cd (λc3=>?_) λc3=>?_
 ·
  refine Z4 ?_;refine .p (cB eo [x.A]) rfl ?_;refine Z6 ?_;refine br ?_
  first|(exfalso;omega)|exact aa.of_eq (by unfold dL;(repeat (first|rw[if_pos (by omega)]|rw[if_neg (by omega)]));first|done|rfl)|(rw[show dL x=[] by unfold dL;(repeat (first|rw[if_pos (by omega)]|rw[if_neg (by omega)]))];exact aE 1 eo)
 refine Z6 ?_;refine Cd (λc4=>?_) λc4=>?_
 ·
  refine Z1 ?_;refine .bt [(0,0),(1,0),(3,0),(4,0),(5,0),(2,2)] 6 2 FM.out (by kernel_rfl) (k:= ?_);refine Z4 ?_;refine .p rfl (λ_=>bC (enc:=eo) [x.A] FU.out FC.out rfl FZ.out rfl (.cons (.t rfl) .nil) rfl rfl rfl rfl rfl) ?_;refine .e rfl (cE (h:=zc pX)) λyx NA=>?_;refine .fin ?_;refine .n (gW.eC (G:=λg=>g) (l6:=λ_=>_) (xs:=λ_=>_) (aK (i:=0) FU.out FU.out FC.out rfl FZ.out rfl FY.out (.t rfl) (.t rfl) rfl (by simp only[List.length_cons,List.length_nil];omega) (by simp only[List.length_cons,List.length_nil];omega))) rfl λ_ _=>?_;refine Z6 ?_;refine br ?_
  first|(exfalso;omega)|exact aa.of_eq (by unfold dL;(repeat (first|rw[if_pos (by omega)]|rw[if_neg (by omega)]));first|done|rfl)|(rw[show dL x=[] by unfold dL;(repeat (first|rw[if_pos (by omega)]|rw[if_neg (by omega)]))];exact aE 1 eo)
 refine Z9 ?_;refine br ?_
 first|(exfalso;omega)|exact aa.of_eq (by unfold dL;(repeat (first|rw[if_pos (by omega)]|rw[if_neg (by omega)]));first|done|rfl)|(rw[show dL x=[] by unfold dL;(repeat (first|rw[if_pos (by omega)]|rw[if_neg (by omega)]))];exact aE 1 eo)
theorem CU{I:tq}{J:List (dX×qa)}{C S:List (Int×Int)}{go:SB}{o:List dX}{at_:Nat}{y:aj}(ak:hts.length=l.length)(aR:Cb hts<=40000)(bO:l.length<=5000)(dO:∀x∈sp,vM l.length x)(jE:sp.length<=5000)(sx:l[at_]?=some y)(Ce:p9 y)(DZ:∀n∈dL y,0<=n/\n<=100000)(QK:o.length<=1000000000):bu Wo 99 [ck [ai 5 aB l,ai 3 bP sp,ai 1 fU hts,nV res,ax I.b 0],nV at_] (qf I J C S go o) (γ:=List (Int×Int)×SB×List dX) (λr=>r.2.2.length<=o.length+100000) (λr=>qf I (CJ l hts res (jb sp (at_:Int)) (at_:Int) (dL y) J (dL y).length) r.1 S r.2.1 r.2.2) (λ_=>aZ []):=by
 refine In 73 Tryz.func99 λ_ _ _=>?_;have hlL:(dL y).length<=60001:=by(have h9:=Ce.Ln;unfold dL;split;(simp);split;(simp;omega);simp)
 have hal:=Ld (sp:=sp) (at_:=(at_:Int));have hin:=Pm (at_:=(at_:Int)) dO;refine Z4 ?_;refine .p (cA (h:=CR (by omega))) rfl ?_;refine cC ?_;refine .p (cI at_ (h:=sx)) rfl ?_;refine Z1 ?_;refine .p (cA (h:=CS Ce)) rfl ?_;refine dh ?_;refine Cd (λc0=>?_) λc0=>?_
 ·
  refine dh ?_;refine .s (Al (i:=2) _ Tryz.Dj Tryz.underlying143 (.t rfl) (.t rfl) (.t rfl) rfl) ?_;refine Z2 ?_;generalize ki C (at_:Int) ((dL y).length:Int)=C1;refine Z8 ?_;refine .bk (σ:=Nat×SB×List dX) (λr=>qf I (CJ l hts res (jb sp (at_:Int)) (at_:Int) (dL y) J r.1) C1 S r.2.1 r.2.2) (λr=>[(34,af .i64 (r.1:Int))]) (λr=>r.1<=(dL y).length/\r.2.2.length=o.length+r.1) (λr=>(dL y).length-r.1) (0,go,o) ⟨Nat.zero_le _,rfl⟩ rfl ?_ ?_
  · exact(.get rfl (aa.refl _) (.refl _ _))
  rintro⟨k,gk,ok⟩ hk;simp only at hk ⊢;refine Z6 ?_;refine Cd (λc1=>?_) λc1=>?_
  ·
   obtain⟨n,hn⟩:=ah (xs:=dL y) (k:=k) (by omega);have hnb:=DZ n (List.mem_of_getElem? hn);refine Z7 ?_;refine .p (cI k (h:=hn)) rfl ?_;refine Z6 ?_;refine .bL 15 1 FM.out (by kernel_rfl) (k:= ?_);refine ij ?_;refine .p (cA (h:=za (ar:=jb sp (at_:Int)) (n:=n) hin ak aR bO hnb.1 (by omega))) ?_;refine Z1 ?_;refine .s (Al (i:=1) (vq:=λj=>aC (lV j)) (sj l hts res (jb sp (at_:Int)) n) Tryz.Ro Tryz.underlying244 (.t rfl) (.le (.t rfl) (show aa (aC [af .i64 (at_:Int),af .i64 (k:Int)]) _ from Ao (a:=((at_:Int),(k:Int))))) (.t rfl) rfl) ?_;refine Z2 ?_;refine .bt [(0,0),(1,0),(2,0),(3,0),(4,0),(5,0),(6,0),(7,0),(8,0),(9,0),(10,1),(11,0),(12,0),(13,0),(14,0),(15,2)] 16 3 FM.out (by kernel_rfl) (k:= ?_);refine ij ?_;refine .p rfl (λ_=>bC (enc:=y6) [((at_:Int),(k:Int))] FU.out FC.out rfl FZ.out rfl (.cons (.t rfl) .nil) rfl rfl rfl rfl rfl) ?_;refine .e rfl (aK (i:=4) FU.out FU.out FC.out rfl FZ.out rfl FY.out (.t rfl) (.t rfl) rfl (by simp only[List.length_cons,List.length_nil];omega) (by simp only[List.length_cons,List.length_nil];omega)) λg69 _=>?_;refine .fin ?_;refine cC ?_;refine .round (k+1,g69,ok++[((at_:Int),(k:Int))]) (by simp only[List.length_append,List.length_cons,List.length_nil];omega) (by show(dL y).length-(k+1)<(dL y).length-k;omega) (by simp only[S3 hn];try rfl) ?_;exact(.get rfl (aa.int (by show(_:Int)=((k+1:Nat):Int);omega)) ((.keep 42 rfl rfl)))
  have vb:k=(dL y).length:=by omega
  subst vb;refine Z4 ?_;refine Post.cY rfl ((C1,gk,ok)) (by show ok.length<=_;omega) (λ_ _ _ h=>h) rfl
 obtain⟨C1,hC1⟩:∃C1,C1=C:=⟨_,rfl⟩;rw[<-hC1];refine cC ?_;refine .bk (σ:=Nat×SB×List dX) (λr=>qf I (CJ l hts res (jb sp (at_:Int)) (at_:Int) (dL y) J r.1) C1 S r.2.1 r.2.2) (λr=>[(34,af .i64 (r.1:Int))]) (λr=>r.1<=(dL y).length/\r.2.2.length=o.length+r.1) (λr=>(dL y).length-r.1) (0,go,o) ⟨Nat.zero_le _,rfl⟩ rfl ?_ ?_
 · exact(.get rfl (aa.refl _) (.refl _ _))
 rintro⟨k,gk,ok⟩ hk;simp only at hk ⊢;refine Z6 ?_;refine Cd (λc2=>?_) λc2=>?_
 ·
  obtain⟨n,hn⟩:=ah (xs:=dL y) (k:=k) (by omega);have hnb:=DZ n (List.mem_of_getElem? hn);refine Z7 ?_;refine .p (cI k (h:=hn)) rfl ?_;refine Z6 ?_;refine .bL 15 1 FM.out (by kernel_rfl) (k:= ?_);refine ij ?_;refine .p (cA (h:=za (ar:=jb sp (at_:Int)) (n:=n) hin ak aR bO hnb.1 (by omega))) ?_;refine Z1 ?_;refine .s (Al (i:=1) (vq:=λj=>aC (lV j)) (sj l hts res (jb sp (at_:Int)) n) Tryz.Ro Tryz.underlying244 (.t rfl) (.le (.t rfl) (show aa (aC [af .i64 (at_:Int),af .i64 (k:Int)]) _ from Ao (a:=((at_:Int),(k:Int))))) (.t rfl) rfl) ?_;refine Z2 ?_;refine .bt [(0,0),(1,0),(2,0),(3,0),(4,0),(5,0),(6,0),(7,0),(8,0),(9,0),(10,1),(11,0),(12,0),(13,0),(14,0),(15,2)] 16 3 FM.out (by kernel_rfl) (k:= ?_);refine ij ?_;refine .p rfl (λ_=>bC (enc:=y6) [((at_:Int),(k:Int))] FU.out FC.out rfl FZ.out rfl (.cons (.t rfl) .nil) rfl rfl rfl rfl rfl) ?_;refine .e rfl (aK (i:=4) FU.out FU.out FC.out rfl FZ.out rfl FY.out (.t rfl) (.t rfl) rfl (by simp only[List.length_cons,List.length_nil];omega) (by simp only[List.length_cons,List.length_nil];omega)) λg69 _=>?_;refine .fin ?_;refine cC ?_;refine .round (k+1,g69,ok++[((at_:Int),(k:Int))]) (by simp only[List.length_append,List.length_cons,List.length_nil];omega) (by show(dL y).length-(k+1)<(dL y).length-k;omega) (by simp only[S3 hn];try rfl) ?_;exact(.get rfl (aa.int (by show(_:Int)=((k+1:Nat):Int);omega)) ((.keep 42 rfl rfl)))
 have vb:k=(dL y).length:=by omega
 subst vb;refine Z4 ?_;refine Post.cY rfl ((C1,gk,ok)) (by show ok.length<=_;omega) (λ_ _ _ h=>h) rfl
theorem Ft{I:tq}{J:List (dX×qa)}{C S:List (Int×Int)}{go:SB}{o:List dX}(ak:vM l.length x)(aR:l.length<=5000):bu Wo 100 [ck [ai 5 aB l,ai 3 bP sp,ai 1 fU hts,nV res,ax I.b 0],aC (bP x)] (qf I J C S go o) (γ:=Unit) (λ_=>True) (λ_=>qf I J C (BI l x S) go o) (λ_=>aZ []):=by
 refine In 51 Tryz.func100 λ_ _ _=>?_;have Cf:=ak;have hlo:=Cf.lo;have hhi:=Cf.hi;have hel:=Cf.el;have QL:=Cf.en;obtain⟨y,hy⟩:=ah (xs:=l) (k:=x.1.toNat) (by omega);have Qv:=tJ (show x.1=((x.1.toNat:Nat):Int) by omega) hy;refine Z7 ?_;refine .bL 6 4 FM.out (by kernel_rfl) (k:= ?_);refine Z7 ?_;refine .p (cI x.1.toNat (h:=hy)) rfl ?_;refine Z5 ?_;refine Cd (λc0=>?_) λc0=>?_
 ·
  have hF:BI l x S=S:=if_pos (by rw[Qv];exact c0);refine Z2 ?_;refine Post.wC rfl (()) (by trivial) (aF.of_eq (by rw[hF];first|done|rfl)) rfl
 have h4:¬(tH l x.1).Code≠4:=by rw[Qv];exact c0
 refine Z3 ?_;refine .bL 11 1 FM.out (by kernel_rfl) (k:= ?_);refine eB ?_;refine .s (Al (i:=3) _ Tryz.Dj Tryz.underlying143 (.t rfl) (.t rfl) (.t rfl) rfl) ?_;refine Z9 ?_;refine Cd (λc1=>?_) λc1=>?_
 ·
  have hF:BI l x S=ki (ki (ki S x.1 x.2.2) x.1 (x.2.1+1)) x.2.1 x.2.2:=(if_neg h4).trans (if_pos c1);refine Z1 ?_;refine .bL 12 1 FM.out (by kernel_rfl) (k:= ?_);refine kL ?_;refine .s (Al (i:=3) _ Tryz.Dj Tryz.underlying143 (.t rfl) (.t rfl) (.t rfl) rfl) ?_;refine Z2 ?_;refine .bL 11 1 FM.out (by kernel_rfl) (k:= ?_);refine eB ?_;refine .s (Al (i:=3) _ Tryz.Dj Tryz.underlying143 (.t rfl) (.t rfl) (.t rfl) rfl) ?_;refine Z1 ?_;refine Post.cY rfl (()) (by trivial) (aF.of_eq (by rw[hF];first|done|rfl)) rfl
 have hF:BI l x S=ki S x.1 x.2.2:=(if_neg h4).trans (if_neg c1);refine Z1 ?_;refine Post.cY rfl (()) (by trivial) (aF.of_eq (by rw[hF];first|done|rfl)) rfl
end Go.Proofs.YtppekopemdoclaaGreatDoor
end
section
namespace Go.Hl
open Go.RowKit
section
variable {P:Program} {hs:List HP} {env:Env} {q:VP} {dst:Option Tmp} {ty T T' E:TypeId} {pos:String} {after:Array Edge} {gd:Option (Nat×Bool)} {x y z:Operand}
theorem Lx{α:Type}{n N by_:Nat}{i:Int}{k:IntKind}{enc:α->List VP}{zs:List Value}(hT:P.underlying T=some (.slice E))(Wz:P.underlying T'=some (.int k))(hn:P.cellsOf E=N)(h0:Nat.blt 0 N=true)
    (hz:lG P E=some zs) (hzl:zs.length=N) (hb:P.bytesOf E=by_) (hx:bA env x (ag (.slice none 0 0))) (hy:bA env y (af .i64 i)) (hi:i=(n:Int)) (BW:0<n) (hroom:(2*n+256)*by_<=281474976710656) (hlen:n<=281474976710656):
    gW P hs env ⟨dst, .call ⟨.builtin .append, #[x,y], #[T,T']⟩,ty,pos,after,gd⟩ (γ:=Nat×Nat) (λ_=>True) (λg=>aH (some g) N enc ([]:List α)::hs) (λg=>ag (bI (some g) n)):=by
  intro c a w S F aI hown oT K Q hk;have hv:=hx S w a oT;simp only[ag] at hv
  have Q0:=hy S w a oT;simp only[ag] at Q0
  subst hi;have hsz:=run_sizeOf hn h0 w;obtain⟨info,hi1,hi2⟩:=ga hn h0 w;have hbytes:info.bytes=by_:=hi2.trans hb;have hw:IntKind.i64.wrap (n:Int)=(n:Int):=fm (cM (by omega) (by omega));have TW:¬((n:Int)<0):=by omega
  have Us:=nextslicecap_le (need:=n) (cap:=0) (by omega);have hcapB:Builtin.nextslicecap n 0*by_<=281474976710656:=Nat.le_trans (Nat.mul_le_mul_right _ Us) hroom;obtain⟨zv',hz1',hz2'⟩:=jG hz w.drew;obtain⟨info',hi1',hi2'⟩:=ga hn h0 w.drew;generalize Gn:Question.cut (.appendCap n 0 E) (w.tape w.drawn (.appendCap n 0 E))=newCap;have hge:n<=newCap:=by rw[<-Gn];simp only[Question.cut];omega
  have hN0:0<N:=by simpa using h0
  have hnN:¬(n*N=0):=Nat.mul_ne_zero (by omega) (by omega)
  let row:Array Value:=Builtin.zeroCells zv'.cells n++Builtin.zeroCells zv'.cells (newCap-n)
  have hr:(execOp a.eval ⟨dst, .call ⟨.builtin .append, #[x,y], #[T,T']⟩,ty,pos,after,gd⟩).run P w= .ok (.value (.slice (some ⟨w.heap.size,0,none⟩) n newCap)) (w.drew.alloc (.cells row E)):=by
    have hnot:¬(n<=0):=by omega
    have hn0:¬(n=0):=by omega
    have aM7:¬(N=0):=by omega
    have D8:¬((9223372036854775807:Int)<(n:Int)):=by omega
    have Gp:¬(281474976710656<Builtin.nextslicecap n 0*by_):=by omega
    have hnb:n*by_<=281474976710656:=Nat.le_trans (Nat.mul_le_mul_right _ (by omega)) hroom;have ai9:¬((281474976710656:Int)<(n:Int)*(by_:Int)):=by rw[<-Int.natCast_mul];omega
    have hvx2':(Builtin.firstCells N 0 (.slice none 0 0)).run P w.drew= .ok #[] w.drew:=by simp[Builtin.firstCells]
    simp[execOp,resolve,invoke,builtin,Builtin.append_,hv,Q0,run_underlying hT,run_underlying Wz,hsz,asInt,asIntOf,hw,TW,hn0,aM7,D8,hi1,hbytes,Gp,ai9,hnN,Question.forced,Gn,hi1',hvx2',hz1',newRow,row]
    done
  generalize hw':w.drew.alloc (.cells row E)=w' at hr;unfold Oper.wp;rw[hr];have l6:j6 c w.drew S F:=aI.grow (gq.drew w S);have Dc:dR hs F S w.drew:=(gq.drew w S).zZ aI.bZ aI.cK hown;subst hw';refine hk (w.heap.size,newCap) _ _ S _ trivial (l6.gJ _) (λ_ h=>h) (λk hk=>cL w _ k (aI.bZ k hk)) (Dc.gJ aI.bZ aI.cK _ ⟨rfl,Nat.zero_le _,by simp,row,E,by show(w.heap.push _)[w.heap.size]?=_;simp,?_,λj q h=>by simp at h⟩) rfl;simp only[row,Array.size_append];have V2:∀m,(Builtin.zeroCells zv'.cells m).size=m*N:=λm=>by rw[hz2'];simp[Builtin.zeroCells,hzl]
  rw[V2,V2,<-Nat.add_mul,Nat.add_sub_cancel' hge]
theorem IZ{b cap len N:Nat}{i:Int}(hT:P.underlying T=some (.slice E))(hn:P.cellsOf E=N)(h0:Nat.blt 0 N=true)(hx:bA env x (ag (bI (some (b,cap)) len)))(hy:bA env y (af .i64 i))(hi:i=0):
    bw P hs env ⟨dst, .slice T x none (some y) none,ty,pos,after,gd⟩ (ag (bI (some (b,cap)) 0)):=
  bw.aM λρ w S F _ he=>by
    have hv:=he.o _ _ hx;have h2:=he.o _ _ hy;simp only[ag,bI] at hv h2
    subst hi;have hs:=run_sizeOf (T:=E) hn h0 w;refine⟨.slice (some ⟨b,0,none⟩) 0 cap,?_,rfl⟩;simp[execOp,hv,h2,Instr.sliceAt,Instr.slice,Instr.sliceBounds,Instr.sliceBound,asIntOf,run_underlying hT,hs,Addr.add]
def Xl(l:List aj):List VP:=[ai 5 aB l]
instance:gX 1 Xl:=⟨λ_=>rfl,λx q h=>by simp only[Xl,List.mem_cons,List.not_mem_nil,or_false] at h;subst h;infer_instance⟩
theorem Tl{ats:Array TypeId}(Aa:ats[0]?=some T)(hT:P.underlying T=some (.slice E))(hx:bA env x (ag (.slice none 0 0))):bw P hs env ⟨dst, .call ⟨.builtin .cap, #[x],ats⟩,ty,pos,after,gd⟩ (af .i64 0):=
 bw.aM λρ w S F _ he=>by
  have hv:=he.o _ _ hx;simp only[ag] at hv
  exact⟨_,by simp[execOp,resolve,invoke,builtin,Builtin.cap_,Aa,hv,run_underlying hT,goInt],rfl⟩
theorem uA{α:Type}{ls:List (List α)}{k:Nat}{l:List α}(h:ls[k]?=some l):(ls.take (k+1)).flatten=(ls.take k).flatten++l:=by
 rw[List.take_add_one,h];simp
theorem D1{α:Type}(ls:List (List α))(k:Nat):(ls.take k).flatten.length<=ls.flatten.length:=by
 have h:(ls.take k).flatten++(ls.drop k).flatten=ls.flatten:=by rw[<-List.flatten_append,List.take_append_drop]
 have:=congrArg List.length h;rw[List.length_append] at this;omega
end
section
variable {P:Program} {hs:List HP} {env:Env} {q:VP} {dst:Option Tmp} {ty T T' E:TypeId} {pos:String} {after:Array Edge} {gd:Option (Nat×Bool)} {x y z:Operand}
theorem I0{N:Nat}{i:Int}(hT:P.underlying T=some (.slice E))(hn:P.cellsOf E=N)(h0:Nat.blt 0 N=true)(hx:bA env x (ag (.slice none 0 0)))(hy:bA env y (af .i64 i))(hi:i=0):
    bw P hs env ⟨dst, .slice T x none (some y) none,ty,pos,after,gd⟩ (ag (.slice none 0 0)):=
  bw.aM λρ w S F _ he=>by
    have hv:=he.o _ _ hx;have h2:=he.o _ _ hy;simp only[ag] at hv h2
    subst hi;have hs:=run_sizeOf (T:=E) hn h0 w;refine⟨.slice none 0 0,?_,rfl⟩;simp[execOp,hv,h2,Instr.sliceAt,Instr.slice,Instr.sliceBounds,Instr.sliceBound,asIntOf,run_underlying hT,hs]
end
def xfS(c:Int):Prop:=if c=172\/c=173 then c=172 else if c=192\/c=193 then True else if c=194\/c=195\/c=196 then True else False
instance (c:Int):Decidable (xfS c):=by unfold xfS;infer_instance
section
variable {l:List aj} {i:Nat}
theorem xw{j:Nat}(h:j<l.length):l[j]?=some (gI l j):=by unfold gI;rw[List.getD_eq_getElem?_getD,List.getElem?_eq_getElem h];rfl
end
end Go.Hl
end
section
namespace Go.Proofs.YtppekopemdoclaaGreatDoor
open Go.Hl Go.RowKit
theorem Ly{n:Nat}(ak:n<=65536):bu Wo 216 [ag (.slice none 0 0),af .i64 (n:Int)] [] (γ:=SB) (λ_=>True) (λg=>[aH g 1 an ([]:List UInt8)]) (λg=>ag (bI g 0)):=by
 refine In 27 Tryz.func216 λ_ _ _=>?_;refine eB ?_;refine Cd (λc0=>?_) λc0=>?_
 ·
  exfalso;omega
 refine Z7 ?_;refine .p (Tl rfl Tryz.underlying105 (.t rfl)) rfl ?_;refine Z1 ?_;refine .p (Mk rfl Tryz.underlying105 (.le (.t rfl) (aE 1 an))) rfl ?_;refine .p (iy (.t rfl) (.t rfl) (cM (by simp<;>omega) (by simp<;>omega))) rfl ?_;refine .p ((iy (.t rfl) (.t rfl) (cM (by simp<;>omega) (by simp<;>omega))).le (aa.int (show _=(n:Int) by simp))) rfl ?_;refine Z9 ?_;refine Cd (λc1=>?_) λc1=>?_
 ·
  refine Z3 ?_;refine .p (Tl rfl Tryz.underlying105 (.t rfl)) rfl ?_;refine .p (I0 FU.out FC.out rfl (.t rfl) (.t rfl) rfl) rfl ?_;refine Z1 ?_;refine .n (Lx (α:=UInt8) (N:=1) (enc:=an) FU.out FU.out FC.out rfl FZ.out rfl FY.out (.t rfl) (.t rfl) rfl (by omega) (by omega) (by omega)) rfl λSI _=>?_;refine Z1 ?_;refine .p (Mk rfl Tryz.underlying105 (.le (.t rfl) (aE 1 an))) rfl ?_;refine .p (IZ FU.out FC.out rfl (.t rfl) (.t rfl) rfl) rfl ?_;refine cC ?_;refine Post.aS rfl (some SI) (by trivial) (λ_ _ _ h=>h) (.rt rfl) ?_;exact aa.refl _
 have hn0:n=0:=by omega
 refine .fO (α:=UInt8) 1 an ?_;refine Z9 ?_;refine Post.aS rfl (none) (by trivial) (λ_ _ _ h=>h) (.rt rfl) ?_;exact aa.refl _
theorem Fu{ls:List (List UInt8)}(ak:ls.flatten.length<=65536):dF Wo 148 [ai 1 eI ls] (ai 1 an (ls.flatten)):=by
 refine In 36 Tryz.func148 λ_ _ _=>?_;refine .fact (t:=0) rfl (λS w v h=>cw h) λpX=>?_;refine Cn ?_;refine .bk (σ:=Nat) (λ_=>[]) (λk=>[(11,af .i64 (k:Int)),(3,af .i64 ((ls.take k).flatten.length:Int))]) (λk=>k<=ls.length) (λk=>ls.length-k) 0 (Nat.zero_le _) rfl ?_ ?_
 · exact(.get rfl (aa.refl _) (.get rfl (aa.int (by simp)) (.refl _ _)))
 rintro k hk;refine Z6 ?_;refine Cd (λc0=>?_) λc0=>?_
 ·
  obtain⟨l,hx⟩:=ah (xs:=ls) (k:=k) (by omega);have hfp:=D1 ls (k+1);have hfl:(ls.take (k+1)).flatten.length=(ls.take k).flatten.length+l.length:=by rw[uA hx,List.length_append]
  refine Z6 ?_;refine .p (cI k (h:=hx)) rfl ?_;refine Cn ?_;refine Cd (λc1=>?_) λc1=>?_
  ·
   exfalso;omega
  refine Z7 ?_;refine .round (k+1) (by omega) (by omega) rfl ?_;exact(.get rfl (aa.int (by(show(k:Int)+1=((k+1:Nat):Int);omega))) (.get rfl (aa.int (by omega)) ((.keep 15 rfl rfl))))
 have JN:ls.take k=ls:=List.take_of_length_le (by omega);rw[JN];refine Z8 ?_;refine .n (cE (h:=Ly ak)) rfl λQC Nm=>?_;refine eB ?_;refine .bk (σ:=SB×Nat) (λg=>[aH g.1 1 an (ls.take g.2).flatten]) (λg=>[(6,ag (bI g.1 (ls.take g.2).flatten.length)),(27,af .i64 (g.2:Int))]) (λg=>g.2<=ls.length) (λg=>ls.length-g.2) (QC,0) (Nat.zero_le _) rfl ?_ ?_
 · exact(.get rfl (aa.refl _) (.get rfl (aa.refl _) (.refl _ _)))
 rintro⟨sb,j⟩ hj;simp only at hj ⊢;refine Z6 ?_;refine Cd (λc2=>?_) λc2=>?_
 ·
  obtain⟨m,hy⟩:=ah (xs:=ls) (k:=j) (by omega);have hfq:=D1 ls (j+1);have rZ:(ls.take (j+1)).flatten.length=(ls.take j).flatten.length+m.length:=by rw[uA hy,List.length_append]
  refine Z6 ?_;refine .p (cI j (h:=hy)) rfl ?_;refine Z7 ?_;refine .n (aK (i:=0) (xs:=(ls.take j).flatten) (ys:=m) FU.out FU.out FC.out rfl FZ.out rfl FY.out (.t rfl) (.t rfl) rfl (by omega) (by omega)) rfl λYK _=>?_;refine Z8 ?_;refine .round (YK,j+1) (by show j+1<=_;omega) (by(show ls.length-(j+1)<ls.length-j;omega)) (by simp only[uA hy];rfl) ?_;exact(.get rfl (aa.of_eq (by simp only[uA hy])) (.get rfl (aa.int (by(show(j:Int)+1=((j+1:Nat):Int);omega))) ((.keep 12 rfl rfl))))
 have hjl:ls.take j=ls:=List.take_of_length_le (by omega);rw[hjl];refine .eC (t:=6) (i:=0) rfl rfl ?_;refine eB ?_;refine br ?_;exact aa.refl _
theorem fN{p:Prop}{e:Int}(ak:e≠0):zl Wo 437 405 [av p,af .i64 (e)] [] (¬p) (γ:=Unit) (λ_=>p) (λ_=>[]) (λ_=>aZ []):=by
 refine F9 9 Tryz.func405 λ_ _ _=>?_;refine Z6 ?_;refine Cd (λc0=>?_) λc0=>?_
 · exact aU.region (.p (gu (.t rfl)) rfl<| .p (aL FP.out FZ.out (.cons (.t rfl) .nil) rfl) rfl<| .p (Rl Tryz.underlying437 (.t rfl)) rfl<| .XL (.t rfl) ak c0)
 refine Z1 ?_;refine .sO (Post.cY rfl (()) (by exact Classical.not_not.1 c0) (λ_ _ _ h=>h) rfl)
variable {cb:Nat} {m:aT} {f:cn} {gs:SB} {bb:Nat} {bc:Nat} {B:List QA} {ns:Nat}
theorem yy{b:QA}:bu Wo 423 [ax cb 0] [MR cb m f gs ns (some (bb,bc)) (B++[b]).length,aH (some (bb,bc)) 5 lR (B++[b])] (γ:=Unit) (λ_=>True) (λ_=>[MR cb m f gs ns (some (bb,bc)) (B++[b]).length,aH (some (bb,bc)) 5 lR (B++[b])]) (λ_=>ax bb (B.length*5)):=by
 refine In 14 Tryz.func423 λ_ _ _=>?_;refine .zD 1 rfl λAc=>?_;simp only[List.length_append,List.length_cons,List.length_nil] at Ac;refine Z6 ?_;refine .bL 10 2 FM.out (by kernel_rfl) (k:= ?_);refine Z8 ?_;refine .p (JV rfl Tryz.underlying378 (.t rfl)) ?_;refine .p (iy (.t rfl) (.c _) (cM (by simp<;>omega) (by simp<;>omega))) ?_;refine Z1 ?_;refine .p (fY B.length FU.out FC.out rfl (.t rfl) (.t rfl) (by simp) (by simp)) rfl ?_;refine Z4 ?_;refine br ?_;exact aa.refl _
variable {gb:SB} {nb:Nat} {l:List UInt8}
theorem jc{st xK:List UInt8}(ak:st.length<=60000)(aR:l.length<=60000)(bO:xK=st++l):bu Wo 401 [ax cb 0,ai 1 an (l)] [MR cb m f gs st.length gb nb,aH gs 1 an st] (γ:=SB) (λ_=>True) (λg=>[MR cb m f g xK.length gb nb,aH g 1 an xK]) (λ_=>aZ []):=by
 refine In 13 Tryz.func401 λ_ _ _=>?_;subst bO;refine Z7 ?_;refine .n (aK (i:=1) FU.out FU.out FC.out rfl FZ.out rfl FY.out (.t rfl) (.t rfl) rfl (by omega) (by omega)) rfl λDN _=>?_;refine Z4 ?_;refine Post.cY rfl (DN) (by trivial) (λ_ _ _ h=>h) rfl
variable {L0:List UInt8} {k:eT} {s:ee}
theorem gj{w:UInt8}:zl Wo 437 395 [ax cb 0,af .u8 ((w:UInt8).toNat:Int)] (AP cb m f gs bb bc L0 B k s) (jq s w=none) (γ:=ee×UInt8) (λg=>jq s w=some g) (λg=>AP cb m f gs bb bc L0 B k g.1) (λg=>af .u8 (g.2.toNat:Int)):=by
 refine F9 67 Tryz.func395 λ_ _ _=>?_;obtain⟨sl,sd⟩:=s;refine Z8 ?_;refine .n ((hH [_] [0,2,1] (h:=yy)).same (λ_ _=>aF.perm (Perm.idx [0,2,1] rfl rfl)) (λ_ _=>aa.refl _)) rfl λ_ _=>?_;refine Z5 ?_;refine .bL 9 1 FM.out (by kernel_rfl) (k:= ?_);refine Z8 ?_;refine .p (nN (i:=2) (r:=3) FA.out (.t rfl) rfl (mS _ _) rfl) ?_;refine Z4 ?_;refine Cd (λc0=>?_) λc0=>?_
 ·
  have Gm:sl=[]:=by(simp[mZ] at c0;first|exact c0|exact List.eq_nil_of_length_eq_zero (by omega))
  subst Gm;refine Z5 ?_;refine .p (nN (i:=2) (r:=4) FA.out (.t rfl) rfl (mS _ _) rfl) rfl ?_;refine .x (cX (h:=fN (e:=5) (by decide))) rfl (λh=>AQ h) λg23 h23=>?_;refine cC ?_;refine .lM (Post.aS rfl ((([],sd),w)) (by exact MS (by first|exact h23|assumption)) (λ_ _ _ h=>h) (.rt rfl) ?_);exact aa.refl _
 obtain⟨l,x,rfl⟩:=nS (l:=sl) (λe=>c0 (by rw[e];simp[mZ]));refine .zD 1 rfl λAc=>?_;simp only[List.length_append,List.length_cons,List.length_nil] at Ac;refine .lg 1 rfl (by simp) λsb sc hg=>?_;subst hg;refine Z3 ?_;refine .bL 10 3 FM.out (by kernel_rfl) (k:= ?_);refine Z9 ?_;refine .p (iy (.t rfl) (.c _) (cM (by simp<;>omega) (by simp<;>omega))) ?_;refine Z1 ?_;refine .p (fY (L0++l).length FU.out FC.out rfl (.t rfl) (.t rfl) (by simp<;>omega) (by simp)) rfl ?_;refine .p (nN (i:=1) (r:=0) FA.out (.t rfl) rfl (show(L0++(l++[x]))[(L0++l).length]?=some x by simp) rfl) rfl ?_;refine Z4 ?_;refine .bL 12 3 FM.out (by kernel_rfl) (k:= ?_);refine cC ?_;refine .p (iy (.t rfl) (.c _) (cM (by simp<;>omega) (by simp<;>omega))) ?_;refine .p (qW (i:=1) (h:=(L0++l).length) FU.out FC.out rfl (.t rfl) (.t rfl) (by simp<;>omega) rfl rfl (by simp)) ?_;refine Z6 ?_;refine .own (aF.cons _ (aF.Rm (L0++l) (by rw[<-List.append_assoc];exact zL _ _))) ?_;refine kL ?_;refine .x (cX (h:=fN (e:=5) (by decide))) rfl (λh=>yU (λe=>h (Kr.2 e))) λZX Ud=>?_;refine Z9 ?_;refine Cd (λc1=>?_) λc1=>?_
 ·
  refine Z8 ?_;refine .lM (Post.aS rfl (((l,sd),if x=0 then w else x)) (by exact AR (Kr.1 Ud)) (λ_ _ _ h=>h) (.rt rfl) ?_);exact aa.of_eq (by rw[if_pos ((pG x).1 c1)])
 refine Z9 ?_;refine .lM (Post.aS rfl (((l,sd),if x=0 then w else x)) (by exact AR (Kr.1 Ud)) (λ_ _ _ h=>h) (.rt rfl) ?_);exact aa.of_eq (by rw[if_neg (λe=>c1 ((pG x).2 e))])
theorem jT:zl Wo 437 399 [ax cb 0,ai 1 an (l)] (AP cb m f gs bb bc L0 B k s) (dD s l=none) (γ:=ee) (λg=>dD s l=some g) (λg=>AP cb m f gs bb bc L0 B k g) (λ_=>aZ []):=by
 refine F9 18 Tryz.func399 λ_ _ _=>?_;refine .fact (t:=1) rfl (λS w v h=>cw h) λpX=>?_;refine Z9 ?_;refine .bk (σ:=Nat×ee) (λg=>AP cb m f gs bb bc L0 B k g.2) (λg=>[(4,af .i64 ((g.1:Int)-1))]) (λg=>g.1<=l.length/\dD g.2 (l.take g.1)=dD s l) (λg=>g.1) (l.length,s) ⟨Nat.le_refl _,by simp⟩ rfl ?_ ?_
 · exact(.get rfl (aa.refl _) (.refl _ _))
 rintro⟨j,s1⟩ ⟨hj,hinv⟩;simp only at hj hinv ⊢;refine Z7 ?_;refine Cd (λc0=>?_) λc0=>?_
 ·
  obtain⟨t,ht⟩:=ah (xs:=l) (k:=j-1) (by omega);have hjt:dD s1 (l.take j)=(jq s1 t).bind λp=>dD p.1 (l.take (j-1)):=by(have h9:=RT (s:=s1) ht;rwa [show j-1+1=j by omega] at h9)
  refine Z8 ?_;refine .p (cI (j-1) (h:=ht)) rfl ?_;refine Z1 ?_;refine .x (cX (h:=gj (s:=s1) (w:=t))) rfl (λh=>by rw[<-hinv,hjt,h];rfl) λBv v9=>?_;refine Z8 ?_;refine .round (j-1,Bv.1) ⟨by show j-1<=_;omega,by rw[<-hinv,hjt,v9];rfl⟩ (by show j-1<j;omega) rfl ?_;exact(.get rfl (aa.int (by show(_:Int)=((j-1:Nat):Int)-1;omega)) ((.keep 12 rfl rfl)))
 have hj0:j=0:=by omega
 subst hj0;refine Z4 ?_;refine .sO (Post.cY rfl (s1) (by exact(by rw[<-hinv];rfl)) (λ_ _ _ h=>h) rfl)
theorem rQ:bu Wo 394 [ax cb 0] (AP cb m f gs bb bc L0 B k s) (γ:=Unit) (λ_=>True) (λ_=>AP cb m f gs bb bc L0 B k fT) (λ_=>aZ []):=by
 refine In 20 Tryz.func394 λ_ _ _=>?_;refine Z3 ?_;refine .n ((hH [_] [0,2,1] (h:=yy)).same (λ_ _=>aF.perm (Perm.idx [0,2,1] rfl rfl)) (λ_ _=>aa.refl _)) rfl λ_ _=>?_;refine Z3 ?_;refine .bt [(0,0),(1,0),(2,0),(3,0),(4,0),(5,1),(6,0),(7,0),(8,0),(9,1),(10,1),(11,0),(12,0),(13,3)] 14 3 FM.out (by kernel_rfl) (k:= ?_);refine Z9 ?_;refine .o rfl (nN (i:=2) (r:=3) FA.out (.t rfl) rfl (mS _ _) rfl) ?_;refine .o rfl (qW (i:=1) (h:=(L0++([]:List UInt8)).length) FU.out FC.out rfl (.t rfl) (.t rfl) (by simp[mZ]) rfl rfl (by simp)) ?_;refine Z2 ?_;refine .s rfl (jf (i:=0) FC.out (.t rfl) (.t rfl) rfl rfl) ?_;refine .fin ?_;refine Z2 ?_;refine .s (sN (i:=2) (r:=4) (mZ L0.length k fT) rfl FC.out (.t rfl) .ct rfl (mS _ _) rfl rfl) ?_;refine Z1 ?_;rw[GF,show(B++[mZ L0.length k s]).length=(B++[mZ L0.length k fT]).length by simp];refine .own (aF.cons _ (aF.Rm (L0++([]:List UInt8)) (by simp))) ?_;refine Post.cY rfl (()) (by trivial) (λ_ _ _ h=>h) rfl
variable {n:Int}
theorem nj(ak:B.length<=60000)(aR:0<=n):zl Wo 437 400 [ax cb 0,af .u64 (n)] [MR cb m f gs ns (some (bb,bc)) B.length,aH (some (bb,bc)) 5 lR B] (iG (B.map Cu) n=none) (γ:=List UInt8) (λw=>iG (B.map Cu) n=some w) (λ_=>[MR cb m f gs ns (some (bb,bc)) B.length,aH (some (bb,bc)) 5 lR B]) (λw=>ai 1 an (w)):=by
 refine F9 34 Tryz.func400 λ_ _ _=>?_;refine eB ?_;refine .p (JV rfl Tryz.underlying378 (.t rfl)) rfl ?_;refine Z2 ?_;refine .x (cX (h:=fN (e:=2) (by decide))) rfl (λh=>DC (λe=>h (by simpa using e))) λg14 Cg=>?_;refine Z3 ?_;have hlt:n<(B.length:Int):=Cg;obtain⟨b,hb⟩:=ah (xs:=B) (k:=B.length-1-n.toNat) (by omega);obtain⟨w,hw,qP⟩:=G5 (L:=B.map Cu) aR (by simpa using hlt);have hwb:Cu b=w:=by(rw[List.length_map,List.getElem?_map,hb] at qP;exact Option.some.inj qP)
 refine .bt [(0,0),(1,0),(2,0),(3,1),(4,0),(5,0),(6,0),(7,1),(8,0),(9,0),(10,0),(11,0),(12,0),(13,0),(14,1),(15,4)] 16 1 FM.out (by kernel_rfl) (k:= ?_);refine Z8 ?_;refine .p rfl (λ_=>JV rfl Tryz.underlying378 (.t rfl)) ?_;refine Z4 ?_;refine .p rfl (λ_=>fY (B.length-1-n.toNat) FU.out FC.out rfl (.t rfl) (.t rfl) (by omega) (by omega)) ?_;refine .o rfl (Gz (i:=1) (r:=0) FA.out FC.out rfl (.t rfl) rfl hb rfl) ?_;refine .a rfl (au FZ.out) (λ_ _=>aF.drop (aF.refl _)) λb5 _=>?_;refine .fin ?_;refine Z3 ?_;refine .share (t:=5) (i:=0) rfl rfl ?_;refine Z7 ?_;refine Cd (λc0=>?_) λc0=>?_
 ·
  refine Z7 ?_;refine .lM (Post.aS rfl (w) (by exact hw) (λ_ _ _ h=>h) (.rt rfl) ?_);exact(show aa (ag (.slice none 0 0)) _ from(show w=[] by rw[<-hwb];exact if_pos c0)▸aE 1 an)
 refine cC ?_;refine .lM (Post.aS rfl (w) (by exact hw) (λ_ _ _ h=>h) (.rt rfl) ?_);exact aa.of_eq (by rw[show w=b.res by rw[<-hwb];exact if_neg c0])
variable {x:aj}
theorem B2{st:List UInt8}(ak:B.length<=60000)(aR:0<=x.A):bu Wo 396 [ax cb 0,aC (aB x)] (RS cb m f gs gb st B) (γ:=SB) (λ_=>True) (λg=>RS cb m f gs g st (B++[mZ st.length ⟨x.Code=3,x.Code=4,eH x,([],False)⟩ ([],False)])) (λ_=>aZ []):=by
 refine In 35 Tryz.func396 λ_ _ _=>?_;refine Z6 ?_;refine .bt [(0,0),(1,0),(2,0),(3,0),(4,0),(5,0),(6,0),(7,0),(8,0),(9,1),(10,1),(11,0),(12,4)] 13 1 FM.out (by kernel_rfl) (k:= ?_);refine eB ?_;refine .a rfl (au FZ.out) (λ_ _=>aF.drop (aF.refl _)) λb4 _=>?_;refine .fin ?_;refine Z3 ?_;refine .cut (σ:=Unit) (λ_=>[az b4 [av (x.Code=3),av (x.Code=4),ai 1 an (eH x),af .i64 (st.length:Int),av False],MR cb m f gs st.length gb B.length,aH gs 1 an st,aH gb 5 lR B]) (λ_=>[]) (λ_=>True) ?_ ?_
 ·
  refine Z1 ?_;refine .own (aF.Ei (cs':=[av (x.Code=3),av (x.Code=4),ai 1 an [],af .i64 (st.length:Int),av False]) (.cons (.refl _) (.cons (.refl _) (.cons (aE 1 an) (.cons (.refl _) (.cons vo .nil)))))) ?_;refine Z6 ?_;refine Cd (λc0=>?_) λc0=>?_
  ·
   refine Z3 ?_;refine .p ((cO FU.out FU.out (.t rfl)).le (aa.int (MU aR))) rfl ?_;refine .p (cB an [UInt8.ofNat x.A.toNat]) rfl ?_;refine Z3 ?_;refine .meet () trivial (by first|(rw[show eH x=[UInt8.ofNat x.A.toNat] from if_neg c0];done)|(rw[show eH x=[UInt8.ofNat x.A.toNat] from if_neg c0];rfl)|(rw[show eH x=[] from if_pos (Classical.not_not.1 c0)];done)|(rw[show eH x=[] from if_pos (Classical.not_not.1 c0)];rfl)) (.keep 8 rfl rfl)
  refine Z1 ?_;refine .meet () trivial (by first|(rw[show eH x=[UInt8.ofNat x.A.toNat] from if_neg c0];done)|(rw[show eH x=[UInt8.ofNat x.A.toNat] from if_neg c0];rfl)|(rw[show eH x=[] from if_pos (Classical.not_not.1 c0)];done)|(rw[show eH x=[] from if_pos (Classical.not_not.1 c0)];rfl)) (.keep 3 rfl rfl)
 intro _ _;refine .bt [(0,0),(1,0),(2,0),(3,0),(4,1),(5,1),(6,0),(7,2)] 8 3 FM.out (by kernel_rfl) (k:= ?_);refine Z6 ?_;refine .p rfl (λ_=>bC (enc:=lR) [mZ st.length ⟨x.Code=3,x.Code=4,eH x,([],False)⟩ ([],False)] FU.out FC.out rfl FZ.out rfl (.cons (.t rfl) .nil) rfl rfl rfl rfl rfl) ?_;refine .e rfl (aK (i:=3) FU.out FU.out FC.out rfl FZ.out rfl FY.out (.t rfl) (.t rfl) rfl (by simp<;>omega) (by simp<;>omega)) λUg _=>?_;refine .fin ?_;refine Z4 ?_;refine Post.cY rfl (Ug) (by trivial) (aF.cZ [1,2,3] [0] rfl rfl) rfl
theorem zd:zl Wo 437 424 [ax cb 0] (AP cb m f gs bb bc L0 B k s) (¬Cv k.res s) (γ:=Unit) (λ_=>Cv k.res s) (λ_=>RS cb m f gs (some (bb,bc)) L0 B) (λ_=>aC (lR (mZ L0.length k s))):=by
 refine F9 36 Tryz.func424 λ_ _ _=>?_;refine Z2 ?_;refine .n (au FZ.out) rfl λb2 _=>?_;refine Z5 ?_;refine .n ((hH [_,_] [1,3,0,2] (h:=yy)).same (λ_ _=>aF.perm (Perm.idx [2,0,3,1] rfl rfl)) (λ_ _=>aa.refl _)) rfl λ_ _=>?_;refine Z1 ?_;refine .p (Gz (i:=3) (r:=0) FA.out FC.out rfl (.t rfl) rfl (mS _ _) rfl) rfl ?_;refine .n (au FZ.out) rfl λb3 _=>?_;refine Z3 ?_;refine .share (t:=3) (i:=0) rfl rfl ?_;refine Z5 ?_;refine .x (Ob [_] [1,2,3,0] (h:=jT (l:=k.res))) rfl (λh=>by(rintro⟨z,h1,_⟩;rw[h] at h1;cases h1)) λSL h11=>?_;refine Z3 ?_;refine .zD 2 rfl λAc=>?_;simp only[List.length_append,List.length_cons,List.length_nil] at Ac;refine .bL 7 2 FM.out (by kernel_rfl) (k:= ?_);refine Z9 ?_;refine .x (cX (h:=fN (e:=5) (by decide))) rfl (λh=>by(rintro⟨z,h1,h2⟩;rw[h11] at h1;cases h1;exact h (by rw[h2];simp[mZ]))) λT8 T9=>?_;refine Z3 ?_;have hz:SL.1=[]:=by(simp[mZ] at T9;first|exact T9|exact List.eq_nil_of_length_eq_zero (by omega))
 refine .bL 12 3 FM.out (by kernel_rfl) (k:= ?_);refine cC ?_;refine .p (iy (.t rfl) (.c _) (cM (by simp<;>omega) (by simp<;>omega))) ?_;refine .p (qW (i:=2) (h:=B.length) FU.out FC.out rfl (.t rfl) (.t rfl) (by simp) rfl rfl (by simp)) ?_;refine Z6 ?_;rw[show(L0++SL.1).length=L0.length by rw[hz];simp];refine .own (aF.cons _ (aF.trans (aF.Rm L0 (zL _ _)) (aF.cons _ (aF.Rm B (zL _ _))))) ?_;refine Z3 ?_;refine .s (dQ (i:=3) FC.out rfl (.t rfl) (.t rfl) rfl rfl rfl) ?_;refine Z3 ?_;refine .lM (Post.aS rfl (()) (by exact⟨SL,h11,hz⟩) (aF.cZ [0,1,2] [3] rfl rfl) (.ra (i:=3) FA.out FC.out rfl rfl rfl rfl) ?_);exact aa.refl _
theorem I1(ak:B.length<=60000):zl Wo 437 397 [ax cb 0] (AP cb m f gs bb bc L0 B k s) (¬Cv k.res s) (γ:=SB) (λ_=>Cv k.res s) (λg=>RS cb m f gs g L0 (B++[mZ L0.length ⟨k.loop,False,k.res,([],False)⟩ ([],False)])) (λ_=>aZ []):=by
 refine F9 17 Tryz.func397 λ_ _ _=>?_;refine Z3 ?_;refine .x (cX (h:=zd (s:=s))) rfl (λh=>h) λg4 h4=>?_;refine .n (au FZ.out) rfl λb2 _=>?_;refine dh ?_;refine .bt [(0,0),(1,0),(2,0),(3,0),(4,1),(5,1),(6,0),(7,2)] 8 3 FM.out (by kernel_rfl) (k:= ?_);refine Z6 ?_;refine .p rfl (λ_=>bC (enc:=lR) [mZ L0.length ⟨k.loop,False,k.res,([],False)⟩ ([],False)] FU.out FC.out rfl FZ.out rfl (.cons (.t rfl) .nil) rfl rfl rfl rfl rfl) ?_;refine .e rfl (aK (i:=3) FU.out FU.out FC.out rfl FZ.out rfl FY.out (.t rfl) (.t rfl) rfl (by simp<;>omega) (by simp<;>omega)) λg14 _=>?_;refine .fin ?_;refine Z4 ?_;refine .sO (Post.cY rfl (g14) (by exact h4) (aF.cZ [1,2,3] [0] rfl rfl) rfl)
theorem PU(ak:L0.length<=60000)(aR:k.res.length<=60000):zl Wo 437 398 [ax cb 0] (AP cb m f gs bb bc L0 B k s) (¬(Cv k.res s/\(k.is->k.res=[]))) (γ:=SB) (λ_=>Cv k.res s/\(k.is->k.res=[])) (λg=>RS cb m f g (some (bb,bc)) (L0++k.res) B) (λ_=>aZ []):=by
 refine F9 19 Tryz.func398 λ_ _ _=>?_;refine Z3 ?_;refine .x (cX (h:=zd (s:=s))) rfl (λh h2=>h h2.1) λg4 h4=>?_;refine .n (au FZ.out) rfl λb2 _=>?_;refine Z3 ?_;refine .share (t:=2) (i:=0) rfl rfl ?_;refine dh ?_;refine .x (cX (h:=fN (e:=5) (by decide))) rfl (λh h2=>h (by by_cases hk:k.is;exact .inr (show(k.res.length:Int)=0 by rw[h2.2 hk];rfl);exact .inl hk)) λg14 Cg=>?_;refine Z6 ?_;refine .n (cE (h:=jc (st:=L0) (l:=k.res) (by omega) aR rfl)) rfl λzT Vz=>?_;refine Z1 ?_;refine .sO (Post.cY rfl (zT) (by exact⟨h4,λhk=>by(rcases Cg with h|h;exact absurd hk h;exact List.eq_nil_of_length_eq_zero (by have h9:(k.res.length:Int)=0:=h;omega))⟩) (λ_ _ _ h=>h) rfl)
theorem tQ(ak:AS m f)(aR:0<=n):zl Wo 437 403 [ax cb 0,af .u64 (n)] [MR cb m f gs ns gb nb] (eG (bR m f).aV n=none) (γ:=UInt8) (λt=>eG (bR m f).aV n=some t) (λ_=>[MR cb m f gs ns gb nb]) (λt=>af .u8 ((t:UInt8).toNat:Int)):=by
 refine F9 23 Tryz.func403 λ_ _ _=>?_;have O3:=ak.lo;refine Cm ?_;refine .x (cX (h:=fN (e:=2) (by decide))) rfl (λh=>wX (λe=>h e)) λg14 Cg=>?_;refine Z3 ?_;obtain⟨t,ht,YI⟩:=wW aR Cg;refine Z7 ?_;refine .p (cI n.toNat (h:=YI)) rfl ?_;refine Z5 ?_;refine .lM (Post.aS rfl (t) (by exact ht) (λ_ _ _ h=>h) (.rt rfl) ?_);exact aa.refl _
theorem xx(ak:AS m f)(aR:0<=n):zl Wo 437 404 [ax cb 0,af .u64 (n)] [MR cb m f gs ns gb nb] (eG m.aA n=none) (γ:=ju) (λt=>eG m.aA n=some t) (λ_=>[MR cb m f gs ns gb nb]) (λt=>aC (iB t)):=by
 refine F9 29 Tryz.func404 λ_ _ _=>?_;have O3:=ak.fits.lens.2.2.2.1;refine Z2 ?_;refine .n (au FZ.out) rfl λb4 _=>?_;refine Cm ?_;refine .x (cX (h:=fN (e:=2) (by decide))) rfl (λh=>wX (λe=>h e)) λBv v9=>?_;refine Z3 ?_;obtain⟨t,ht,YI⟩:=wW aR v9;refine cC ?_;refine .p (cI n.toNat (h:=YI)) rfl ?_;refine Z5 ?_;refine .lM (Post.aS rfl (t) (by exact ht) (aF.cZ [1] [0] rfl rfl) (.ra (i:=0) FA.out FC.out rfl rfl rfl rfl) ?_);exact aa.refl _
theorem rR(ak:AS m f)(aR:0<=n):zl Wo 437 406 [ax cb 0,af .u64 (n)] [MR cb m f gs ns gb nb] (eG m.cP n=none) (γ:=gG) (λt=>eG m.cP n=some t) (λ_=>[MR cb m f gs ns gb nb]) (λt=>aC (iA t)):=by
 refine F9 29 Tryz.func406 λ_ _ _=>?_;have O3:=ak.fits.lens.2.2.1;refine Z2 ?_;refine .n (au FZ.out) rfl λb4 _=>?_;refine Cm ?_;refine .x (cX (h:=fN (e:=2) (by decide))) rfl (λh=>wX (λe=>h e)) λBv v9=>?_;refine Z3 ?_;obtain⟨t,ht,YI⟩:=wW aR v9;refine cC ?_;refine .p (cI n.toNat (h:=YI)) rfl ?_;refine Z5 ?_;refine .lM (Post.aS rfl (t) (by exact ht) (aF.cZ [1] [0] rfl rfl) (.ra (i:=0) FA.out FC.out rfl rfl rfl rfl) ?_);exact aa.refl _
theorem qg{l:gG}:dF Wo 407 [aC (iA l)] (af .u8 ((cz l.cj:UInt8).toNat:Int)):=by
 refine In 5 Tryz.func407 λ_ _ _=>?_;refine kL ?_;refine Cd (λc0=>?_) λc0=>?_
 ·
  refine Z7 ?_;refine br ?_;exact aa.of_eq (by unfold cz;rw[if_pos c0];rfl)
 refine Z8 ?_;refine br ?_;exact aa.of_eq (by unfold cz;rw[if_neg c0];rfl)
theorem pT{g:mj}(ak:(L0++s.1).length<=60000)(aR:g.R.length<=60000):zl Wo 437 353 [ax cb 0,aC (bW g)] (AP cb m f gs bb bc L0 B k s) (p7 s g.P g.R=none) (γ:=SB×ee) (λz=>p7 s g.P g.R=some z.2) (λz=>AP cb m f z.1 bb bc L0 B k z.2) (λ_=>aZ []):=by
 refine F9 12 Tryz.func353 λ_ _ _=>?_;refine cC ?_;refine .x (cX (h:=jT (s:=s) (l:=g.P))) rfl (λh=>by unfold p7;rw[h];rfl) λg7 h7=>?_;refine Z6 ?_;refine .n (cE (h:=jc (st:=L0++g7.1) (l:=g.R) (xK:=L0++(bG g7 g.R).1) (by simp only[List.length_append] at ak ⊢;have:=vn h7;omega) aR (by simp[bG]))) rfl λSL h11=>?_;refine Z1 ?_;refine .sO (Post.cY rfl ((SL,bG g7 g.R)) (by exact(by unfold p7;rw[h7];rfl)) (λ_ _ _ h=>h) rfl)
theorem B3{labs:List (List UInt8)}(ak:(L0++s.1).length<=60000)(aR:AS m f)(bO:nJ x):zl Wo 437 349 [ax cb 0,aC (aB x)] (AP cb m f gs bb bc L0 B k s) (fA x.Code/\fZ (bR m f) x s labs=none) (γ:=SB×ee) (λz=>(fA x.Code/\fZ (bR m f) x s labs=some z.2)\/(¬fA x.Code/\z=(gs,s))) (λz=>AP cb m f z.1 bb bc L0 B k z.2) (λ_=>av (fA x.Code)):=by
 refine F9 62 Tryz.func349 λ_ _ _=>?_;refine J2 ?_;refine Cd (λc0=>?_) λc0=>?_
 ·
  refine Z5 ?_;refine .x (cX (h:=tQ aR bO.A0)) rfl (λh=>⟨by unfold fA;omega,by rw[EA c0,h];rfl⟩) λyx NA=>?_;refine .p (cB an [_]) rfl ?_;refine .n (cE (h:=jc (st:=L0++s.1) (l:=[yx]) (xK:=L0++(bG s [yx]).1) (by simp only[List.length_append] at ak ⊢;omega) (by simp) (by simp[bG]))) rfl λBv v9=>?_;refine Z9 ?_;refine .lM (Post.aS rfl ((Bv,bG s [yx])) (by exact .inl ⟨by unfold fA;omega,by rw[EA c0,NA];rfl⟩) (λ_ _ _ h=>h) (.rt rfl) ?_);exact aa.prop ⟨λ_=>by unfold fA;omega,λ_=>trivial⟩
 refine Z6 ?_;refine Cd (λc1=>?_) λc1=>?_
 ·
  refine Z5 ?_;refine .x (cX (h:=tQ aR bO.A0)) rfl (λh=>⟨by unfold fA;omega,by rw[AU c1,h];rfl⟩) λQC Nm=>?_;refine .x (cX (h:=gj (s:=s) (w:=QC))) rfl (λh=>⟨by unfold fA;omega,by rw[AU c1,Nm,Option.bind_some,ir,h];rfl⟩) λGc Tf=>?_;refine Z9 ?_;refine .lM (Post.aS rfl ((gs,Gc.1)) (by exact .inl ⟨by unfold fA;omega,by rw[AU c1,Nm,Option.bind_some,ir,Tf];rfl⟩) (λ_ _ _ h=>h) (.rt rfl) ?_);exact aa.prop ⟨λ_=>by unfold fA;omega,λ_=>trivial⟩
 refine Z6 ?_;refine Cd (λc2=>?_) λc2=>?_
 ·
  refine Z5 ?_;refine .x (cX (h:=tQ aR bO.A0)) rfl (λh=>⟨by unfold fA;omega,by rw[AV c2,h];rfl⟩) λPV Y6=>?_;refine Z7 ?_;refine .x (cX (h:=gj (s:=s) (w:=PV))) rfl (λh=>⟨by unfold fA;omega,by rw[AV c2,Y6,Option.bind_some,p7,ir,h];rfl⟩) λQF QG=>?_;refine Z5 ?_;refine .p (cB an [_]) rfl ?_;refine .n (cE (h:=jc (st:=L0++QF.1.1) (l:=[PV]) (xK:=L0++(bG QF.1 [PV]).1) (by simp only[List.length_append] at ak ⊢;have:=oI QG;omega) (by simp) (by simp[bG]))) rfl λUc ZU=>?_;refine Z9 ?_;refine .lM (Post.aS rfl ((Uc,bG QF.1 [PV])) (by exact .inl ⟨by unfold fA;omega,by rw[AV c2,Y6,Option.bind_some,p7,ir,QG];rfl⟩) (λ_ _ _ h=>h) (.rt rfl) ?_);exact aa.prop ⟨λ_=>by unfold fA;omega,λ_=>trivial⟩
 refine Z6 ?_;refine Cd (λc3=>?_) λc3=>?_
 ·
  refine Z5 ?_;refine .x (cX (h:=xx aR bO.A0)) rfl (λh=>⟨by unfold fA;omega,by rw[EB c3];rw[show(bR m f).aA=m.aA.map (·.Ty) from rfl,cF,h];rfl⟩) λJz h45=>?_;refine .p (bw.le (wD (T:=40) (i:=0) (off:=0) (by kernel_rfl) Tryz.aG4.out (.t rfl) rfl) (aa.refl (af .u8 (Jz.Ty.toNat:Int)))) rfl ?_;refine .p (cB an [_]) rfl ?_;refine .n (cE (h:=jc (st:=L0++s.1) (l:=[Jz.Ty]) (xK:=L0++(bG s [Jz.Ty]).1) (by simp only[List.length_append] at ak ⊢;omega) (by simp) (by simp[bG]))) rfl λTm h48=>?_;refine Z9 ?_;refine .lM (Post.aS rfl ((Tm,bG s [Jz.Ty])) (by exact .inl ⟨by unfold fA;omega,by rw[EB c3];rw[show(bR m f).aA=m.aA.map (·.Ty) from rfl,cF,h45];rfl⟩) (λ_ _ _ h=>h) (.rt rfl) ?_);exact aa.prop ⟨λ_=>by unfold fA;omega,λ_=>trivial⟩
 refine Z6 ?_;refine Cd (λc4=>?_) λc4=>?_
 ·
  refine Z5 ?_;refine .x (cX (h:=xx aR bO.A0)) rfl (λh=>⟨by unfold fA;omega,by rw[vt c4];rw[show(bR m f).aA=m.aA.map (·.Ty) from rfl,cF,h];rfl⟩) λXg Xh=>?_;refine .n (au FZ.out) rfl λb6 _=>?_;refine Z3 ?_;refine .share (t:=6) (i:=0) rfl rfl ?_;refine Z4 ?_;refine .x (cX (h:=fN (e:=5) (by decide))) rfl (λh=>⟨by unfold fA;omega,by rw[vt c4];rw[show(bR m f).aA=m.aA.map (·.Ty) from rfl,show(bR m f).eu=m.aA.map (·.eu) from rfl,cF,cF,Xh];simp only[Option.map_some,Option.bind_some];rw[if_neg h]⟩) λg57 ZZ=>?_;refine Z6 ?_;refine .x (cX (h:=gj (s:=s) (w:=Xg.Ty))) rfl (λh=>⟨by unfold fA;omega,by rw[vt c4];rw[show(bR m f).aA=m.aA.map (·.Ty) from rfl,show(bR m f).eu=m.aA.map (·.eu) from rfl,cF,cF,Xh];simp only[Option.map_some,Option.bind_some];rw[if_pos ZZ,ir,h];rfl⟩) λg61 h61=>?_;refine Z9 ?_;refine .lM (Post.aS rfl ((gs,g61.1)) (by exact .inl ⟨by unfold fA;omega,by rw[vt c4];rw[show(bR m f).aA=m.aA.map (·.Ty) from rfl,show(bR m f).eu=m.aA.map (·.eu) from rfl,cF,cF,Xh];simp only[Option.map_some,Option.bind_some];rw[if_pos ZZ,ir,h61];rfl⟩) (λ_ _ _ h=>h) (.rt rfl) ?_);exact aa.prop ⟨λ_=>by unfold fA;omega,λ_=>trivial⟩
 refine Z8 ?_;refine .lM (Post.aS rfl ((gs,s)) (by exact .inr ⟨by unfold fA;omega,rfl⟩) (λ_ _ _ h=>h) (.rt rfl) ?_);exact aa.prop ⟨λh=>h.elim,λh=>by unfold fA at h;omega⟩
theorem Lz{labs:List (List UInt8)}(ak:(L0++s.1).length<=60000)(aR:AS m f)(bO:nJ x):zl Wo 437 350 [ax cb 0,aC (aB x)] (AP cb m f gs bb bc L0 B k s) (di x.Code/\fZ (bR m f) x s labs=none) (γ:=SB×ee) (λz=>(di x.Code/\fZ (bR m f) x s labs=some z.2)\/(¬di x.Code/\z=(gs,s))) (λz=>AP cb m f z.1 bb bc L0 B k z.2) (λ_=>av (di x.Code)):=by
 refine F9 93 Tryz.func350 λ_ _ _=>?_;have Gm:=aR.fits.lens.1;refine J2 ?_;refine Cd (λc0=>?_) λc0=>?_
 ·
  refine Z1 ?_;refine .bt [(0,0),(1,0),(2,0),(3,0),(4,1),(5,0),(6,0),(7,0),(8,0),(9,0),(10,0),(11,0),(12,4),(13,3)] 14 1 FM.out (by kernel_rfl) (k:= ?_);refine Z7 ?_;refine .p rfl (λ_=>jW FU.out FU.out (.t rfl) (cM (by have:=bO.A0;omega) (by have:=bO.A16 c0;omega))) ?_;refine .p rfl (λ_=>cg (gM (m:=m) (f:=x.A)) FB.out (.cons (.t rfl) (.cons (.t rfl) .nil))) ?_;refine Z3 ?_;refine .a rfl (au FZ.out) (λ_ _=>aF.drop (aF.refl _)) λb5 _=>?_;refine .s rfl (dQ (i:=0) FC.out rfl (.t rfl) (.t rfl) rfl rfl rfl) ?_;refine .fin ?_;refine Z3 ?_;refine .share (t:=5) (i:=0) rfl rfl ?_;refine Z3 ?_;refine .x (cX (h:=fN (e:=2) (by decide))) rfl (λh=>⟨by unfold di;omega,by rw[AT c0,qz (f:=f) aR.fits,show eY m x.A=none by simpa using h];rfl⟩) λGc Tf=>?_;refine Z2 ?_;obtain⟨g,hg⟩:=Option.isSome_iff_exists.1 Tf;simp only[hg,Option.getD_some];have Th:eG (bR m f).aq x.A=some g:=(qz (f:=f) aR.fits).trans hg;refine Z3 ?_;refine .x (cX (h:=pT (s:=s) (g:=g) ak (by have:=(aR.fits.Co g (zG hg)).2;omega))) rfl (λh=>⟨by unfold di;omega,by rw[AT c0,Th];exact h⟩) λXb VA=>?_;refine Z9 ?_;refine .lM (Post.aS rfl (Xb) (by exact .inl ⟨by unfold di;omega,by rw[AT c0,Th];exact VA⟩) (λ_ _ _ h=>h) (.rt rfl) ?_);exact aa.prop ⟨λ_=>by unfold di;omega,λ_=>trivial⟩
 refine Z6 ?_;refine Cd (λc1=>?_) λc1=>?_
 ·
  refine Z1 ?_;have og:=bO.A0;refine .bL 12 18 FM.out (by kernel_rfl) (k:= ?_);refine Z30 ?_;refine .x (cX (h:=fN (e:=2) (by decide))) rfl (λh=>⟨by unfold di;omega,by(rw[x9 c1];cases hgg:eG (bR m f).bQ x.A with|none=>rfl|some g=>exact if_neg (λe=>h ⟨⟨(RU hgg).2.1,e.1⟩,e.2⟩))⟩) λY4 h60=>?_;refine Z3 ?_;obtain⟨⟨hlt,hB⟩,hTb⟩:=h60;obtain⟨g,hg,Th⟩:=wW (L:=m.bQ) bO.A0 hlt;have hgs:eG (bR m f).bQ x.A=some g:=hg;refine Z2 ?_;refine .x (cX (h:=gj (s:=s) (w:=127))) rfl (λh=>⟨by unfold di;omega,by rw[x9 c1,hgs,Option.bind_some,if_pos ⟨hB,hTb⟩,p7,jM,h];rfl⟩) λZX Ud=>?_;refine Z2 ?_;refine .bL 13 1 FM.out (by kernel_rfl) (k:= ?_);refine dh ?_;refine .p (cI x.A.toNat (h:=Th) (hi:=by have:=bO.A0;omega)) ?_;refine Z2 ?_;refine .x (cX (h:=pT (s:=ZX.1) (g:=g) (by simp only[List.length_append] at ak ⊢;have:=oI Ud;omega) (by have:=(aR.fits.Co g (List.mem_of_getElem? Th)).2;omega))) rfl (λh=>⟨by unfold di;omega,by rw[x9 c1,hgs,Option.bind_some,if_pos ⟨hB,hTb⟩,p7,jM,Ud];exact h⟩) λV3 V4=>?_;refine Z9 ?_;refine .lM (Post.aS rfl (V3) (by exact .inl ⟨by unfold di;omega,by rw[x9 c1,hgs,Option.bind_some,if_pos ⟨hB,hTb⟩,p7,jM,Ud];exact V4⟩) (λ_ _ _ h=>h) (.rt rfl) ?_);exact aa.prop ⟨λ_=>by unfold di;omega,λ_=>trivial⟩
 refine Z6 ?_;refine Cd (λc2=>?_) λc2=>?_
 ·
  refine Z2 ?_;refine .x (cX (h:=gj (s:=s) (w:=0))) rfl (λh=>⟨by unfold di;omega,by rw[Ks c2,h];rfl⟩) λg80 h80=>?_;refine Z9 ?_;refine .lM (Post.aS rfl ((gs,g80.1)) (by exact .inl ⟨by unfold di;omega,by rw[Ks c2,h80];rfl⟩) (λ_ _ _ h=>h) (.rt rfl) ?_);exact aa.prop ⟨λ_=>by unfold di;omega,λ_=>trivial⟩
 refine Z6 ?_;refine Cd (λc3=>?_) λc3=>?_
 ·
  refine Z3 ?_;refine .x (cX (h:=gj (s:=s) (w:=127))) rfl (λh=>⟨by unfold di;omega,by rw[vr c3,ir,h];rfl⟩) λg84 h84=>?_;refine Z5 ?_;refine .x (cX (h:=gj (s:=g84.1) (w:=0))) rfl (λh=>⟨by unfold di;omega,by rw[vr c3,ir,h84];simp only[Option.map_some,Option.bind_some];rw[h];rfl⟩) λg86 h86=>?_;refine Z7 ?_;refine .x (cX (h:=gj (s:=g86.1) (w:=g86.2))) rfl (λh=>⟨by unfold di;omega,by rw[vr c3,ir,h84];simp only[Option.map_some,Option.bind_some];rw[h86,Option.bind_some,h];rfl⟩) λg90 h90=>?_;refine .p (cB an [_]) rfl ?_;refine .n (cE (h:=jc (st:=L0++g90.1.1) (l:=[g90.2]) (xK:=L0++(bG g90.1 [g90.2]).1) (by simp only[List.length_append] at ak ⊢;have:=oI h84;have:=oI h86;have:=oI h90;omega) (by simp) (by simp[bG]))) rfl λXm Y7=>?_;refine Z9 ?_;refine .lM (Post.aS rfl ((Xm,bG g90.1 [g90.2])) (by exact .inl ⟨by unfold di;omega,by rw[vr c3,ir,h84];simp only[Option.map_some,Option.bind_some];rw[h86,Option.bind_some,h90];rfl⟩) (λ_ _ _ h=>h) (.rt rfl) ?_);exact aa.prop ⟨λ_=>by unfold di;omega,λ_=>trivial⟩
 refine Z8 ?_;refine .lM (Post.aS rfl ((gs,s)) (by exact .inr ⟨by unfold di;omega,rfl⟩) (λ_ _ _ h=>h) (.rt rfl) ?_);exact aa.prop ⟨λh=>h.elim,λh=>by unfold di at h;omega⟩
theorem Fv(ak:B.length<=50000)(aR:nJ x):zl Wo 437 402 [ax cb 0,aC (aB x)] (AP cb m f gs bb bc L0 B k s) (∀v:oY,x.Code=14->fZ v x s ((B++[mZ L0.length k s]).map Cu)=none) (γ:=Unit) (λ_=>∀v:oY,x.Code=14->fZ v x s ((B++[mZ L0.length k s]).map Cu)=some fT) (λ_=>AP cb m f gs bb bc L0 B k fT) (λ_=>aZ []):=by
 refine F9 45 Tryz.func402 λ_ _ _=>?_;have hBl:(B++[mZ L0.length k s]).length<=60000:=by simp;omega
 have hLn:=aR.Ln;refine cC ?_;refine .x (Ob [_] [0,2,1] (h:=nj (n:=x.A) hBl aR.A0)) rfl (λh v Cg=>by rw[nA Cg,h];rfl) λqI h12=>?_;refine kL ?_;refine .bk (σ:=Nat) (λ_=>_) (λj=>[(16,af .i64 (j:Int))]) (λj=>j<=x.L.length) (λj=>x.L.length-j) 0 (Nat.zero_le _) rfl ?_ ?_
 · exact(.get rfl (aa.refl _) (.refl _ _))
 rintro j hj;refine Z6 ?_;refine Cd (λc0=>?_) λc0=>?_
 ·
  obtain⟨n0,hn0⟩:=ah (xs:=x.L) (k:=j) (by omega);have hnp:=aR.L0 n0 (List.mem_of_getElem? hn0);refine Z6 ?_;refine .p (cI j (h:=hn0)) rfl ?_;refine Z7 ?_;refine .x (cX (h:=nj (n:=n0) hBl hnp)) rfl (λh v Cg=>by rw[nA Cg,h12,Option.bind_some,if_neg (λe=>by have h9:=e n0 (List.mem_of_getElem? hn0);rw[h] at h9;cases h9)]) λSI T6=>?_;refine Z7 ?_;refine .round (j+1) (by omega) (by omega) rfl ?_;exact(.get rfl (aa.int (by omega)) ((.keep 10 rfl rfl)))
 refine oA ?_;refine .bk (σ:=Nat) (λ_=>_) (λj=>[(27,af .i64 (j:Int))]) (λj=>j<=x.L.length/\∀n∈x.L.take j,iG ((B++[mZ L0.length k s]).map Cu) n=some qI) (λj=>x.L.length-j) 0 ⟨Nat.zero_le _,λn hn=>by simp at hn⟩ rfl ?_ ?_
 · exact(.get rfl (aa.refl _) (.refl _ _))
 rintro j ⟨hj,hall⟩;refine Z6 ?_;refine Cd (λc1=>?_) λc1=>?_
 ·
  obtain⟨n0,hn0⟩:=ah (xs:=x.L) (k:=j) (by omega);have hnp:=aR.L0 n0 (List.mem_of_getElem? hn0);refine Z6 ?_;refine .p (cI j (h:=hn0)) rfl ?_;refine Z7 ?_;refine .x (cX (h:=nj (n:=n0) hBl hnp)) rfl (λh v Cg=>by rw[nA Cg,h12,Option.bind_some,if_neg (λe=>by have h9:=e n0 (List.mem_of_getElem? hn0);rw[h] at h9;cases h9)]) λYK YL=>?_;refine Z1 ?_;refine .p (cA (h:=tA)) rfl ?_;refine .x (cX (h:=fN (e:=5) (by decide))) rfl (λh v Cg=>by rw[nA Cg,h12,Option.bind_some,if_neg (λe=>by have h9:=e n0 (List.mem_of_getElem? hn0);rw[YL] at h9;exact h (Option.some.inj h9))]) λg36 Xf=>?_;refine Z7 ?_;refine .round (j+1) ⟨by omega,λn hn=>by(rw[<-bE hn0] at hn;rcases List.mem_append.1 hn with hn|hn;exact hall n hn;(simp only[List.mem_singleton] at hn;subst hn;rw[YL,Xf]))⟩ (by omega) rfl ?_;exact(.get rfl (aa.int (by omega)) ((.keep 13 rfl rfl)))
 have so:∀n∈x.L,iG ((B++[mZ L0.length k s]).map Cu) n=some qI:=λn hn=>hall n (by rw[List.take_of_length_le (by omega)];exact hn);refine Z8 ?_;refine .x (Ob [] [0,2,1] (h:=gj (s:=s) (w:=127))) rfl (λh v Cg=>by rw[nA Cg,h12,Option.bind_some,if_pos so,jM,h];rfl) λg39 V1=>?_;refine Z6 ?_;refine .x (cX (h:=jT (s:=g39.1) (l:=qI))) rfl (λh v Cg=>by rw[nA Cg,h12,Option.bind_some,if_pos so,jM,V1,Option.bind_some,h];rfl) λTd Te=>?_;refine Z4 ?_;refine .n (cE (h:=rQ (s:=Td))) rfl λg44 h44=>?_;refine Z1 ?_;refine .sO (Post.cY rfl (()) (by exact λv Cg=>by rw[nA Cg,h12,Option.bind_some,if_pos so,jM,V1,Option.bind_some,Te];rfl) (λ_ _ _ h=>h) rfl)
theorem I2(ak:r8 l)(aR:l.length<=65536):bu Wo 285 [dV l] [] (γ:=SB) (λ_=>True) (λg=>[aH g 1 an (iE l)]) (λg=>ag (bI g (iE l).length)):=by
 refine In 20 Tryz.func285 λ_ _ _=>?_;refine ij ?_;refine .n (Gw FU.out (.t rfl)) rfl λb7 _=>?_;refine Z3 ?_;refine .fO 1 an ?_;refine .bk (σ:=Nat×SB) (λs=>[aH s.2 1 an (iE (l.take s.1)),Ai b7 l s.1]) (λs=>[(3,ag (bI s.2 (iE (l.take s.1)).length))]) (λs=>s.1<=l.length) (λs=>l.length-s.1) (0,none) (by simp) (by simp[iE]) ?_ ?_
 · exact(.get rfl (aa.of_eq (by simp[bI])) (.refl _ _))
 rintro s hk;have htl:=AL (l.take s.1);have PE:(l.take s.1).length<=l.length:=by simp;omega
 refine Z2 ?_;refine .n (Mr (i:=1) ak (by omega) (.t rfl) rfl) rfl λ_ _=>?_;refine .p (Ms (.t rfl)) rfl ?_;refine Z3 ?_;refine Cd (λc0=>?_) λc0=>?_
 ·
  obtain⟨x,hx⟩:=ah (xs:=l) (k:=s.1) c0;rw[show min (s.1+1) l.length=s.1+1 by omega];refine Z5 ?_;refine .p (Mt (by assumption) (.t rfl)) rfl ?_;refine Z9 ?_;refine Cd (λc1=>?_) λc1=>?_
  ·
   refine Z2 ?_;refine .p (cB an [126]) rfl ?_;refine .n (aK (i:=0) FU.out FU.out FC.out rfl FZ.out rfl FY.out (.t rfl) (.t rfl) rfl (by first|omega|(simp<;>omega)) (by first|omega|(simp<;>omega))) rfl λyx _=>?_;refine Z3 ?_;refine .round (s.1+1,(by first|exact yx|exact zT)) (by omega) (by omega) (by first|(rw[mX hx c1];rfl)|(rw[mY hx c1];rfl)) ?_
   first|exact(.get rfl (aa.of_eq (by rw[mX hx c1])) (.keep 11 rfl rfl))|exact(.get rfl (aa.of_eq (by rw[mY hx c1])) (.keep 11 rfl rfl))
  refine Z2 ?_;refine .p (cB an [127]) rfl ?_;refine .n (aK (i:=0) FU.out FU.out FC.out rfl FZ.out rfl FY.out (.t rfl) (.t rfl) rfl (by first|omega|(simp<;>omega)) (by first|omega|(simp<;>omega))) rfl λzT _=>?_;refine Z3 ?_;refine .round (s.1+1,(by first|exact yx|exact zT)) (by omega) (by omega) (by first|(rw[mX hx c1];rfl)|(rw[mY hx c1];rfl)) ?_
  first|exact(.get rfl (aa.of_eq (by rw[mX hx c1])) (.keep 11 rfl rfl))|exact(.get rfl (aa.of_eq (by rw[mY hx c1])) (.keep 11 rfl rfl))
 have hall:l.take s.1=l:=List.take_of_length_le (by omega);rw[hall];refine eB ?_;refine Post.aS rfl (s.2) (by trivial) (aF.cZ [0] [1] rfl rfl) (.rt rfl) ?_;exact aa.refl _
theorem LA{r:oH}(ak:GS r):bu Wo 227 [aC (iC r)] [] (γ:=SB) (λ_=>True) (λg=>[aH g 1 an (vm r).wO]) (λg=>aC (m4 (vm r) g)):=by
 refine In 16 Tryz.func227 λ_ _ _=>?_;refine Z3 ?_;refine .n (au FZ.out) rfl λb2 _=>?_;refine Z3 ?_;refine .bt [(0,0),(1,0),(2,0),(3,0),(4,0),(5,0),(6,0),(7,0),(9,0),(10,0),(8,2),(11,0)] 12 2 FM.out (by kernel_rfl) (k:= ?_);refine cC ?_;refine .e rfl (cE (h:=I2 ak.1 (by have:=ak.2.2.1;omega))) λSL h11=>?_;refine .p rfl (λ_=>cg (vP ak.2.1 (by have:=ak.2.2.2;omega)) FB.out (.cons (.t rfl) .nil)) ?_;refine .fin ?_;refine .p (bw.le (aL FP.out FZ.out (.cons (.t rfl) (.cons (.t rfl) (.cons (.t rfl) (.cons (.t rfl) (.cons (.t rfl) .nil))))) rfl) (aa.refl (aC (m4 (vm r) SL)))) rfl ?_;refine Z4 ?_;refine Post.aS rfl (SL) (by trivial) (aF.cZ [0] [1] rfl rfl) (.ra (i:=1) FA.out FC.out rfl rfl rfl rfl) ?_;exact aa.refl _
variable {i:pF}
theorem LB{code:Int}(ak:eZ code=some i):bu Wo 167 [af .i64 code] [] (γ:=SB) (λ_=>True) (λg=>[aH g 1 an i.wO]) (λg=>aZ [aC (m4 i g),av True]):=by
 refine In 16 Tryz.func167 λ_ _ _=>?_;refine Z2 ?_;refine .n (au FZ.out) rfl λb2 _=>?_;refine Z6 ?_;refine .p (cA (h:=Nz)) rfl ?_;refine Z3 ?_;refine .n (au FZ.out) rfl λb4 _=>?_;refine Z4 ?_;refine .share (t:=4) (i:=0) rfl rfl ?_;refine Z7 ?_;refine Cd (λc0=>?_) λc0=>?_
 ·
  exfalso;have hro:uC code=none:=by simpa using c0
  unfold eZ at ak;rw[hro] at ak;cases ak
 obtain⟨r,hro⟩:=Option.isSome_iff_exists.1 (Classical.not_not.1 c0);have xJ:i=vm r:=by unfold eZ at ak;rw[hro] at ak;exact(Option.some.inj ak).symm
 subst xJ;have hok:=MQ hro;simp only[hro,Option.getD_some];refine Z5 ?_;refine .n (cE (h:=LA hok)) rfl λyx NA=>?_;refine Z5 ?_;refine Post.bh rfl rfl (yx) (by trivial) (aF.cZ [0] [1] rfl rfl) rfl (.cons (.ra (i:=1) FA.out FC.out rfl rfl rfl rfl) ?_ (.cons (.rt rfl) ?_ .nil))
 · exact aa.refl _
 exact aa.refl _
theorem Fw{gi:SB}(ak:(L0++s.1).length<=60000)(aR:AS m f)(bO:nJ x)(dO:aP x.Code=8)(jE:eZ x.Code=some i):zl Wo 437 351 [ax cb 0,aC (aB x),aC (m4 i gi)] (aH gi 1 an i.wO::AP cb m f gs bb bc L0 B k s) (rz (bR m f) x s=none) (γ:=SB×ee) (λz=>rz (bR m f) x s=some z.2) (λz=>AP cb m f z.1 bb bc L0 B k z.2) (λ_=>aZ []):=by
 refine F9 50 Tryz.func351 λ_ _ _=>?_;obtain⟨t0,tl,PE⟩:=MW dO;have hin:=lQ jE;have hiT:i.wO=t0::tl:=hin.2.2.2.2.1.trans PE;have Xi:i.s4.length<=3:=by rw[hin.2.2.2.2.2.1];exact(jZ x.Code).2
 unfold m4;rw[hiT];refine Z3 ?_;refine .n (cc (.t rfl)) rfl λb5 _=>?_;refine Z7 ?_;refine .x (Ob [_,_,_,_] [2,0,1,3,4] (h:=rR aR bO.A0)) rfl (λh=>by rw[rB dO,show(bR m f).cj=m.cP.map (·.cj) from rfl,cF,h];rfl) λqI h12=>?_;refine .n (au FZ.out) rfl λb6 _=>?_;refine Z3 ?_;refine .share (t:=6) (i:=0) rfl rfl ?_;refine Z9 ?_;refine .x (cX (h:=fN (e:=2) (by decide))) rfl (λh=>by rw[rB dO,show(bR m f).cj=m.cP.map (·.cj) from rfl,cF,h12];exact if_pos (.inl ⟨λhw=>h (.inl hw),by have:¬x.B<=4294967295:=λhb=>h (.inr hb);omega⟩)) λT8 T9=>?_;refine Z6 ?_;refine .p (cA (h:=Lg (code:=x.Code))) rfl ?_;refine oA ?_;refine .g (de.gT rfl rfl rfl rfl (λhg=>(Mu (s:=x.ei.toNat) (.c _) (.le (.when (.t rfl) hg) (aa.int (by have:=bO.a0;omega))) (by show _<=64;have:=bO.Yg;omega)).le (aa.int (U5 hg)))) rfl rfl ?_;refine Z3 ?_;refine .x (cX (h:=fN (e:=5) (by decide))) rfl (λh=>by rw[rB dO,show(bR m f).cj=m.cP.map (·.cj) from rfl,cF,h12];exact if_pos (.inr (Classical.byContradiction λhn=>h (AY.2 hn)))) λg37 h37=>?_;refine Z3 ?_;refine .lg 2 rfl (by simp) λib ic Th=>?_;subst Th;refine .bL 4 2 FM.out (by kernel_rfl) (k:= ?_);refine Z3 ?_;refine .p (cA (h:=qg (l:=qI))) ?_;refine Z1 ?_;refine .p (fY 0 FU.out FC.out rfl (.t rfl) (.c _) rfl (by simp)) rfl ?_;refine .s (sN (enc:=an) (i:=2) (r:=0) (cz qI.cj) rfl FC.out (.t rfl) (.t rfl) rfl (show(t0::tl)[0]?=some t0 from rfl) rfl rfl) ?_;refine Z2 ?_;refine .jX (i:=2) (j:=1) (f:=3) rfl rfl rfl ?_;refine Z7 ?_;refine .x (Ob [_] [0,2,3,1] (h:=pT (s:=s) (g:=⟨cz qI.cj::tl,i.s4⟩) ak (by show i.s4.length<=60000;omega))) rfl (λh=>by rw[rB dO,show(bR m f).cj=m.cP.map (·.cj) from rfl,cF,h12];exact(if_neg (by rintro(⟨a,b⟩|a);(rcases T9 with h9|h9;exact a h9;omega);exact AY.1 h37 a)).trans (by rw[PE,<-hin.2.2.2.2.2.1];exact h)) λVB ZR=>?_;refine Z1 ?_;refine .sO (Post.cY rfl (VB) (by exact(by rw[rB dO,show(bR m f).cj=m.cP.map (·.cj) from rfl,cF,h12];exact(if_neg (by rintro(⟨a,b⟩|a);(rcases T9 with h9|h9;exact a h9;omega);exact AY.1 h37 a)).trans (by rw[PE,<-hin.2.2.2.2.2.1];exact ZR))) (aF.cZ [0,1,2] [3] rfl rfl) rfl)
theorem LC{gi:SB}(ak:(L0++s.1).length<=60000)(aR:AS m f)(bO:nJ x)(dO:aP x.Code=9\/aP x.Code=10):zl Wo 437 352 [ax cb 0,aC (aB x),aC (m4 i gi)] (AP cb m f gs bb bc L0 B k s) (rz (bR m f) x s=none) (γ:=SB×ee) (λz=>rz (bR m f) x s=some z.2) (λz=>AP cb m f z.1 bb bc L0 B k z.2) (λ_=>aZ []):=by
 refine F9 55 Tryz.func352 λ_ _ _=>?_;have hcs:x.Code=63\/x.Code=64\/x.Code=64523\/x.Code=64522:=dO.elim (λh=>by have:=RW h;omega) (λh=>by have:=MV h;omega);refine dh ?_;refine .x (cX (h:=rR aR bO.A0)) rfl (λh=>by(rcases hcs with h9|h9|h9|h9;rw[zN h9,show(bR m f).cj=m.cP.map (·.cj) from rfl,cF,h];rfl;rw[wZ h9,show(bR m f).cj=m.cP.map (·.cj) from rfl,cF,h];rfl;rw[qA h9,show(bR m f).cj=m.cP.map (·.cj) from rfl,cF,h];rfl;rw[n7 h9,show(bR m f).cj=m.cP.map (·.cj) from rfl,cF,h];rfl)) λqI h12=>?_;refine .p (cA (h:=qg (l:=qI))) rfl ?_;refine Cm ?_;refine Cd (λc0=>?_) λc0=>?_
 ·
  refine Z3 ?_;refine .p (cB an [cz qI.cj]) rfl ?_;refine .n (cE (h:=jc (st:=L0++s.1) (l:=[cz qI.cj]) (xK:=L0++(bG s [cz qI.cj]).1) (by simp only[List.length_append] at ak ⊢;omega) (by simp) (by simp[bG]))) rfl λUc ZU=>?_;refine Z2 ?_;refine .sO (Post.cY rfl ((Uc,bG s [cz qI.cj])) (by exact(by rw[zN c0,show(bR m f).cj=m.cP.map (·.cj) from rfl,cF,h12];rfl)) (λ_ _ _ h=>h) rfl)
 refine Z6 ?_;refine Cd (λc1=>?_) λc1=>?_
 ·
  refine Z4 ?_;refine .x (cX (h:=gj (s:=s) (w:=cz qI.cj))) rfl (λh=>by rw[wZ c1,show(bR m f).cj=m.cP.map (·.cj) from rfl,cF,h12];simp only[Option.map_some,Option.bind_some];rw[p7,ir,h];rfl) λg43 h43=>?_;refine Z5 ?_;refine .p (cB an [cz qI.cj]) rfl ?_;refine .n (cE (h:=jc (st:=L0++g43.1.1) (l:=[cz qI.cj]) (xK:=L0++(bG g43.1 [cz qI.cj]).1) (by simp only[List.length_append] at ak ⊢;have:=oI h43;omega) (by simp) (by simp[bG]))) rfl λg47 h47=>?_;refine Z2 ?_;refine .sO (Post.cY rfl ((g47,bG g43.1 [cz qI.cj])) (by exact(by rw[wZ c1,show(bR m f).cj=m.cP.map (·.cj) from rfl,cF,h12];simp only[Option.map_some,Option.bind_some];rw[p7,ir,h43];rfl)) (λ_ _ _ h=>h) rfl)
 refine Z6 ?_;refine Cd (λc2=>?_) λc2=>?_
 ·
  refine Z4 ?_;refine .p (cB an [cz qI.cj,127,cz qI.cj]) rfl ?_;refine .x (cX (h:=jT (s:=s) (l:=[cz qI.cj,127,cz qI.cj]))) rfl (λh=>by rw[qA c2,show(bR m f).cj=m.cP.map (·.cj) from rfl,cF,h12];exact h) λXg Xh=>?_;refine Z2 ?_;refine .sO (Post.cY rfl ((gs,Xg)) (by exact(by rw[qA c2,show(bR m f).cj=m.cP.map (·.cj) from rfl,cF,h12];exact Xh)) (λ_ _ _ h=>h) rfl)
 refine Z5 ?_;refine .x (cX (h:=rR aR bO.B0)) rfl (λh=>by rw[n7 (by omega),show(bR m f).cj=m.cP.map (·.cj) from rfl,cF,cF,h12,h];rfl) λJF h19=>?_;refine .p (cA (h:=qg (l:=JF))) rfl ?_;refine Z8 ?_;refine .cut (σ:=Unit) (λ_=>AP cb m f gs bb bc L0 B k s) (λ_=>[(8,af .u8 ((cz (qI.cj/\JF.cj):UInt8).toNat:Int))]) (λ_=>True) ?_ ?_
 ·
  refine cC ?_;refine Cd (λc3=>?_) λc3=>?_
  ·
   refine Z3 ?_;refine .meet () trivial rfl (.get rfl (aa.of_eq (by rw[show cz (qI.cj/\JF.cj)=126 from if_pos ⟨m0.1 c3.1,m0.1 c3.2⟩];rfl)) (.keep 7 rfl rfl))
  refine Z1 ?_;refine .meet () trivial rfl (.get rfl (aa.of_eq (by rw[show cz (qI.cj/\JF.cj)=127 from if_neg (λh=>c3 ⟨m0.2 h.1,m0.2 h.2⟩)];rfl)) (.keep 6 rfl rfl))
 intro _ _;refine Z5 ?_;refine .p (cB an [cz qI.cj,cz JF.cj,cz (qI.cj/\JF.cj)]) rfl ?_;refine .x (cX (h:=jT (s:=s) (l:=[cz qI.cj,cz JF.cj,cz (qI.cj/\JF.cj)]))) rfl (λh=>by rw[n7 (by omega),show(bR m f).cj=m.cP.map (·.cj) from rfl,cF,cF,h12,h19];exact h) λUg T4=>?_;refine Z2 ?_;refine .sO (Post.cY rfl ((gs,Ug)) (by exact(by rw[n7 (by omega),show(bR m f).cj=m.cP.map (·.cj) from rfl,cF,cF,h12,h19];exact T4)) (λ_ _ _ h=>h) rfl)
variable {fs:List eT} {b:eT}
theorem CV(ak:(dU fs++b.st.1).length<=60000)(aR:AS m f)(bO:nJ x)(dO:fs.length<=50000)(jE:ED (fs++[b]))(sx:gK x.Code):zl Wo 437 348 [ax cb 0,aC (aB x)] (RS cb m f gs (some (bb,bc)) (dU fs++b.st.1) (kJ fs++[mZ (dU fs).length b b.st])) (jN m f x fs b=none) (γ:=W0) (λz=>MX m f x fs b z) (λz=>ckZ cb m f z) (λ_=>av True):=by
 refine F9 74 Tryz.func348 λ_ _ _=>?_;have hBl:(kJ fs).length<=50000:=by rw[G0];exact dO
 have Y8:(kJ fs++[mZ (dU fs).length b b.st]).length<=60000:=by simp;omega
 have ZD:b.res.length<=20:=jE b (by simp);have Ci:(dU fs).length<=60000:=by simp only[List.length_append] at ak;omega
 unfold gK at sx;refine J2 ?_;refine Cd (λc0=>?_) λc0=>?_
 ·
  refine Z2 ?_;refine .n (cE (h:=rQ (k:=b) (s:=b.st))) rfl λSL h11=>?_;refine Z9 ?_;refine .lM (Post.aS rfl ((gs,some (bb,bc),dU fs++(fT).1,kJ fs++[mZ (dU fs).length b (fT)])) (by exact jn (by omega) (by omega) (by unfold aN;omega) (by rw[<-iJ fs b b.st,WZ (by omega)])) (λ_ _ _ h=>h) (.rt rfl) ?_);exact aa.refl _
 refine Z6 ?_;refine Cd (λc1=>?_) λc1=>?_
 ·
  refine Z3 ?_;refine .x (cX (h:=gj (k:=b) (s:=b.st) (w:=127))) rfl (λh=>by rw[vu (by unfold aN;omega),if_pos c1,ir,h];rfl) λyx NA=>?_;refine Z5 ?_;refine .n (cE (h:=B2 (x:=x) (B:=kJ fs++[mZ (dU fs).length b yx.1]) (by simp;omega) bO.A0)) rfl λzT Vz=>?_;refine Z9 ?_;refine .lM (Post.aS rfl ((gs,zT,dU fs++yx.1.1,(kJ fs++[mZ (dU fs).length b yx.1])++[mZ (dU fs++yx.1.1).length ⟨x.Code=3,x.Code=4,eH x,([],False)⟩ ([],False)])) (by exact⟨_,by rw[vu (by unfold aN;omega),if_pos c1,ir,NA];rfl,DD fs b yx.1 x⟩) (λ_ _ _ h=>h) (.rt rfl) ?_);exact aa.refl _
 refine .cut (σ:=Unit) (λ_=>RS cb m f gs (some (bb,bc)) (dU fs++b.st.1) (kJ fs++[mZ (dU fs).length b b.st])) (λ_=>[(19,av (x.Code=2\/x.Code=3))]) (λ_=>True) ?_ ?_
 ·
  refine Z6 ?_;refine Cd (λc2=>?_) λc2=>?_
  ·
   refine Z1 ?_;refine .meet () trivial rfl (.get rfl (aa.prop (by omega)) (.keep 2 rfl rfl))
  refine Z4 ?_;refine .meet () trivial rfl (.get rfl (aa.prop (by omega)) (.keep 4 rfl rfl))
 intro _ _;refine Cd (λc3=>?_) λc3=>?_
 ·
  refine Z3 ?_;refine .n (cE (h:=B2 (x:=x) (B:=kJ fs++[mZ (dU fs).length b b.st]) Y8 bO.A0)) rfl λQC Nm=>?_;refine Z9 ?_;refine .lM (Post.aS rfl ((gs,QC,dU fs++b.st.1,(kJ fs++[mZ (dU fs).length b b.st])++[mZ (dU fs++b.st.1).length ⟨x.Code=3,x.Code=4,eH x,([],False)⟩ ([],False)])) (by exact⟨_,by rw[vu (by unfold aN;omega),if_neg c1];rfl,DD fs b b.st x⟩) (λ_ _ _ h=>h) (.rt rfl) ?_);exact aa.refl _
 refine Z6 ?_;refine Cd (λc4=>?_) λc4=>?_
 ·
  refine Z2 ?_;refine .x (cX (h:=I1 (k:=b) (s:=b.st) (by omega))) rfl (λh=>Cw (by omega) h) λXb VA=>?_;refine Z9 ?_;refine .lM (Post.aS rfl ((gs,Xb,dU fs,kJ fs++[mZ (dU fs).length ⟨b.loop,False,b.res,([],False)⟩ ([],False)])) (by exact⟨_,Kt (by omega) VA,OI fs b⟩) (λ_ _ _ h=>h) (.rt rfl) ?_);exact aa.refl _
 refine Z6 ?_;refine Cd (λc5=>?_) λc5=>?_
 ·
  refine Z2 ?_;refine .x (cX (h:=PU (k:=b) (s:=b.st) Ci (by omega))) rfl (λh=>EC (by omega) h) λUg T4=>?_;refine Z9 ?_;refine .lM (Post.aS rfl ((Ug,some (bb,bc),dU fs++b.res,kJ fs)) (by exact⟨_,OH (by omega) T4,RX fs b.res⟩) (λ_ _ _ h=>h) (.rt rfl) ?_);exact aa.refl _
 refine Z6 ?_;refine Cd (λc6=>?_) λc6=>?_
 ·
  refine Z6 ?_;refine .x (Ob [_] [0,2,1] (h:=nj (n:=x.A) Y8 bO.A0)) rfl (λh=>eP (by omega) (by omega) (by unfold aN;omega) (by rw[<-iJ fs b b.st,x8 (by omega),h];rfl)) λg39 V1=>?_;refine .x (Ob [] [0,2,1] (h:=jT (k:=b) (s:=b.st) (l:=g39))) rfl (λh=>eP (by omega) (by omega) (by unfold aN;omega) (by rw[<-iJ fs b b.st,x8 (by omega),V1,Option.bind_some,h];rfl)) λwe T5=>?_;refine Z4 ?_;refine .n (cE (h:=rQ (k:=b) (s:=we))) rfl λTd Te=>?_;refine Z9 ?_;refine .lM (Post.aS rfl ((gs,some (bb,bc),dU fs++(fT).1,kJ fs++[mZ (dU fs).length b (fT)])) (by exact jn (by omega) (by omega) (by unfold aN;omega) (by rw[<-iJ fs b b.st,x8 (by omega),V1,Option.bind_some,T5];rfl)) (λ_ _ _ h=>h) (.rt rfl) ?_);exact aa.refl _
 refine Z6 ?_;refine Cd (λc7=>?_) λc7=>?_
 ·
  refine Z5 ?_;refine .x (Ob [_] [0,2,1] (h:=nj (n:=x.A) Y8 bO.A0)) rfl (λh=>eP (by omega) (by omega) (by unfold aN;omega) (by rw[<-iJ fs b b.st,s6 (by omega),h];rfl)) λTm h48=>?_;refine Z6 ?_;refine .x (Ob [] [0,2,1] (h:=gj (k:=b) (s:=b.st) (w:=127))) rfl (λh=>eP (by omega) (by omega) (by unfold aN;omega) (by rw[<-iJ fs b b.st,s6 (by omega),h48,Option.bind_some,p7,jM,h];rfl)) λY2 Y3=>?_;refine Z6 ?_;refine .x (cX (h:=jT (k:=b) (s:=Y2.1) (l:=Tm))) rfl (λh=>eP (by omega) (by omega) (by unfold aN;omega) (by rw[<-iJ fs b b.st,s6 (by omega),h48,Option.bind_some,p7,jM,Y3,Option.bind_some,h];rfl)) λPW Y9=>?_;refine Z5 ?_;refine .n (cE (h:=jc (st:=dU fs++PW.1) (l:=Tm) (xK:=dU fs++(bG PW Tm).1) (by simp only[List.length_append] at ak ⊢;have:=oI Y3;have:=vn Y9;omega) (by rw[iJ] at h48;have:=U7 jE h48;omega) (by simp[bG]))) rfl λg56 h56=>?_;refine Z9 ?_;refine .lM (Post.aS rfl ((g56,some (bb,bc),dU fs++(bG PW Tm).1,kJ fs++[mZ (dU fs).length b (bG PW Tm)])) (by exact jn (by omega) (by omega) (by unfold aN;omega) (by rw[<-iJ fs b b.st,s6 (by omega),h48,Option.bind_some,p7,jM,Y3,Option.bind_some,Y9];rfl)) (λ_ _ _ h=>h) (.rt rfl) ?_);exact aa.refl _
 refine Z6 ?_;refine Cd (λc8=>?_) λc8=>?_
 ·
  refine Z3 ?_;refine .x (cX (h:=Fv (k:=b) (s:=b.st) hBl bO)) rfl (λh=>eP (by omega) (by omega) (by unfold aN;omega) (by rw[<-iJ fs b b.st];exact h _ (by omega))) λg61 h61=>?_;refine Z9 ?_;refine .lM (Post.aS rfl ((gs,some (bb,bc),dU fs++fT.1,kJ fs++[mZ (dU fs).length b fT])) (by exact jn (by omega) (by omega) (by unfold aN;omega) (by rw[<-iJ fs b b.st];exact h61 _ (by omega))) (λ_ _ _ h=>h) (.rt rfl) ?_);exact aa.refl _
 refine Z6 ?_;refine CF λc9=>?_;refine Z9 ?_;refine .x (cX (h:=jT (k:=b) (s:=b.st) (l:=(bJ m f.fW).R))) rfl (λh=>eP (by omega) (by omega) (by unfold aN;omega) (by rw[<-iJ fs b b.st,Ez (by omega)];rw[show(bR m f).dR.R=(bJ m f.fW).R from rfl,h];rfl)) λg71 h71=>?_;refine Z4 ?_;refine .n (cE (h:=rQ (k:=b) (s:=g71))) rfl λZa Uh=>?_;refine Z9 ?_;refine .lM (Post.aS rfl ((gs,some (bb,bc),dU fs++(fT).1,kJ fs++[mZ (dU fs).length b (fT)])) (by exact jn (by omega) (by omega) (by unfold aN;omega) (by rw[<-iJ fs b b.st,Ez (by omega)];rw[show(bR m f).dR.R=(bJ m f.fW).R from rfl,h71];rfl)) (λ_ _ _ h=>h) (.rt rfl) ?_);exact aa.refl _
theorem oS(ak:¬gK x.Code):dF Wo 348 [fS,aC (aB x)] (av False):=by
 refine In 74 Tryz.func348 λ_ _ _=>?_;unfold gK at ak;refine J2 ?_;refine CT λc0=>?_;refine Z6 ?_;refine CT λc1=>?_;refine .cut (σ:=Unit) (λ_=>[]) (λ_=>[(19,av (x.Code=2\/x.Code=3))]) (λ_=>True) ?_ ?_
 ·
  refine Z6 ?_;refine CT λc2=>?_;refine Z4 ?_;refine .meet () trivial rfl (.get rfl (aa.prop (by omega)) (.keep 4 rfl rfl))
 intro _ _;refine CT λc3=>?_;refine Z6 ?_;refine CT λc4=>?_;refine Z6 ?_;refine CT λc5=>?_;refine Z6 ?_;refine CT λc6=>?_;refine Z6 ?_;refine CT λc7=>?_;refine Z6 ?_;refine CT λc8=>?_;refine Z6 ?_;refine CT λc9=>?_;refine Z8 ?_;refine br ?_;exact .z
theorem sq(ak:¬fA x.Code):dF Wo 349 [fS,aC (aB x)] (av False):=by
 refine In 62 Tryz.func349 λ_ _ _=>?_;unfold fA at ak;refine J2 ?_;refine CT λc0=>?_;refine Z6 ?_;refine CT λc1=>?_;refine Z6 ?_;refine CT λc2=>?_;refine Z6 ?_;refine CT λc3=>?_;refine Z6 ?_;refine CT λc4=>?_;refine Z8 ?_;refine br ?_;exact .z
theorem I3(ak:¬di x.Code):dF Wo 350 [fS,aC (aB x)] (av False):=by
 refine In 93 Tryz.func350 λ_ _ _=>?_;unfold di at ak;refine J2 ?_;refine CT λc0=>?_;refine Z6 ?_;refine CT λc1=>?_;refine Z6 ?_;refine CT λc2=>?_;refine Z6 ?_;refine CT λc3=>?_;refine Z8 ?_;refine br ?_;exact .z
theorem LD(ak:(dU fs++b.st.1).length<=60000)(aR:AS m f)(bO:nJ x)(dO:fs.length<=50000)(jE:ED (fs++[b]))(sx:iO x.Code≠[]):zl Wo 437 273 [ax cb 0,aC (aB x)] (RS cb m f gs (some (bb,bc)) (dU fs++b.st.1) (kJ fs++[mZ (dU fs).length b b.st])) (jN m f x fs b=none) (γ:=W0) (λz=>MX m f x fs b z) (λz=>ckZ cb m f z) (λ_=>aZ []):=by
 refine F9 54 Tryz.func273 λ_ _ _=>?_;obtain⟨i,hi⟩:∃i,eZ x.Code=some i:=Option.isSome_iff_exists.1 (RQ.2 sx);have hin:=lQ hi;have Xi:i.s4.length<=3:=by rw[hin.2.2.2.2.2.1];exact(jZ x.Code).2
 refine Z9 ?_;refine .n (cE (h:=LB hi)) rfl λg9 h9=>?_;refine Z3 ?_;refine .n (au FZ.out) rfl λb4 _=>?_;refine Z6 ?_;have hcase:gK x.Code\/(¬gK x.Code/\fA x.Code)\/(¬gK x.Code/\¬fA x.Code/\di x.Code)\/(¬gK x.Code/\¬fA x.Code/\¬di x.Code):=by by_cases h1:gK x.Code<;>by_cases h2:fA x.Code<;>by_cases h3:di x.Code<;>simp[h1,h2,h3]
 rcases hcase with hc|⟨hc,hv⟩|⟨hc,hv,hk⟩|⟨hc,hv,hk⟩
 ·
  refine Z3 ?_;refine .x (Ob [_,_] [2,3,4,0,1] (h:=CV ak aR bO dO jE hc)) rfl (λh=>h) λSI T6=>?_;refine Z3 ?_;refine .Rk rfl rfl rfl rfl rfl (by simp) rfl ?_;refine .p (Ej (.t rfl) trivial .ct) rfl ?_;refine Z3 ?_;refine .Rk rfl rfl rfl rfl rfl (by simp) rfl ?_;refine .p (Ej (.t rfl) trivial .ct) rfl ?_;refine Z3 ?_;refine CF λc0=>?_;refine Z2 ?_;refine .sO (Post.cY rfl (SI) (by exact T6) (aF.cZ [0,1,2] [3,4] rfl rfl) rfl)
 ·
  refine Z3 ?_;refine .p (cg (oS hc) FB.out (.cons (.le (.t rfl) aa.any) (.cons (.t rfl) .nil))) rfl ?_;refine Z3 ?_;refine .gx rfl rfl rfl (by simp) (As (rest:=[_,_]) (B3 (k:=b) (s:=b.st) (labs:=((fs++[b]).map qw)) ak aR bO) FB.out (.cons (.when (.t rfl) (λh=>h)) (.cons (.when (.t rfl) (λh=>h)) .nil)) (Perm.idx [2,3,4,0,1] rfl rfl)) rfl (λh=>eP (by unfold fA at hv;omega) (by unfold fA at hv;omega) (by unfold fA at hv;unfold aN;omega) h.2) λIF Px=>?_;refine .p (MA (.t rfl) (λh=>h) (.t rfl)) rfl ?_;refine Z3 ?_;refine .Rk rfl rfl rfl rfl rfl (by simpa using hv) rfl ?_;refine .p (Ej (.t rfl) hv .ct) rfl ?_;refine Z3 ?_;refine CF λc0=>?_;refine Z2 ?_;refine .sO (Post.cY rfl ((IF.1,some (bb,bc),dU fs++IF.2.1,kJ fs++[mZ (dU fs).length b IF.2])) (by(rcases Px with⟨_,h⟩|⟨h,_⟩;exact jn (by unfold fA at hv;omega) (by unfold fA at hv;omega) (by unfold fA at hv;unfold aN;omega) h;exact absurd hv h)) (aF.cZ [0,1,2] [3,4] rfl rfl) rfl)
 ·
  refine Z3 ?_;refine .p (cg (oS hc) FB.out (.cons (.le (.t rfl) aa.any) (.cons (.t rfl) .nil))) rfl ?_;refine Z3 ?_;refine .g (de.gF rfl rfl rfl rfl (λhg=>cg (sq hv) FB.out (.cons (.le (.when (.t rfl) hg) aa.any) (.cons (.when (.t rfl) hg) .nil)))) rfl rfl ?_;refine Z4 ?_;refine .gx rfl rfl rfl (by simp) (As (rest:=[_,_]) (Lz (k:=b) (s:=b.st) (labs:=((fs++[b]).map qw)) ak aR bO) FB.out (.cons (.when (.t rfl) (λh=>h.elim id id)) (.cons (.when (.t rfl) (λh=>h.elim id id)) .nil)) (Perm.idx [2,3,4,0,1] rfl rfl)) rfl (λh=>eP (by unfold di at hk;omega) (by unfold di at hk;omega) (by unfold di at hk;unfold aN;omega) h.2) λPV Y6=>?_;refine .p (MA (.t rfl) (λh=>h.elim id id) (.t rfl)) rfl ?_;refine Z3 ?_;refine Cd (λc0=>?_) λc0=>?_
  ·
   refine Z2 ?_;refine .sO (Post.cY rfl ((PV.1,some (bb,bc),dU fs++PV.2.1,kJ fs++[mZ (dU fs).length b PV.2])) (by(rcases Y6 with⟨_,h⟩|⟨h,_⟩;exact jn (by unfold di at hk;omega) (by unfold di at hk;omega) (by unfold di at hk;unfold aN;omega) h;exact absurd hk h)) (aF.cZ [0,1,2] [3,4] rfl rfl) rfl)
  exact absurd hk c0
 refine Z3 ?_;refine .p (cg (oS hc) FB.out (.cons (.le (.t rfl) aa.any) (.cons (.t rfl) .nil))) rfl ?_;refine Z3 ?_;refine .g (de.gF rfl rfl rfl rfl (λhg=>cg (sq hv) FB.out (.cons (.le (.when (.t rfl) hg) aa.any) (.cons (.when (.t rfl) hg) .nil)))) rfl rfl ?_;refine Z4 ?_;refine .g (de.gF rfl rfl rfl rfl (λhg=>cg (I3 hk) FB.out (.cons (.le (.when (.t rfl) hg) aa.any) (.cons (.when (.t rfl) hg) .nil)))) rfl rfl ?_;refine Z4 ?_;refine Cd (λc0=>?_) λc0=>?_
 · exfalso;simp at c0
 refine Z8 ?_;refine Cd (λc1=>?_) λc1=>?_
 ·
  have hxf:=hin.2.2.2.1;refine Z4 ?_;refine .x (Ob [_] [1,2,3,4,0] (h:=Fw (k:=b) (s:=b.st) ak aR bO (hin.2.2.2.1.symm.trans c1) hi)) rfl (λh=>eP (by unfold gK at hc;omega) (by unfold gK at hc;omega) (by unfold gK at hc;unfold aN;omega) ((iu hc hv hk (by omega)).trans h)) λwe T5=>?_;refine Z2 ?_;refine .sO (Post.cY rfl ((we.1,some (bb,bc),dU fs++we.2.1,kJ fs++[mZ (dU fs).length b we.2])) (by exact jn (by unfold gK at hc;omega) (by unfold gK at hc;omega) (by unfold gK at hc;unfold aN;omega) ((iu hc hv hk (by omega)).trans T5)) (aF.cZ [0,1,2] [3] rfl rfl) rfl)
 have hxf:=hin.2.2.2.1;refine kL ?_;refine Cd (λc2=>?_) λc2=>?_
 ·
  refine Z4 ?_;refine .x (Ob [_,_] [2,3,4,0,1] (h:=LC (k:=b) (s:=b.st) ak aR bO (c2.imp (λh=>hin.2.2.2.1.symm.trans h) (λh=>hin.2.2.2.1.symm.trans h)))) rfl (λh=>eP (by unfold gK at hc;omega) (by unfold gK at hc;omega) (by unfold gK at hc;unfold aN;omega) ((iu hc hv hk (by omega)).trans h)) λPW Y9=>?_;refine Z2 ?_;refine .sO (Post.cY rfl ((PW.1,some (bb,bc),dU fs++PW.2.1,kJ fs++[mZ (dU fs).length b PW.2])) (by exact jn (by unfold gK at hc;omega) (by unfold gK at hc;omega) (by unfold gK at hc;unfold aN;omega) ((iu hc hv hk (by omega)).trans Y9)) (aF.cZ [0,1,2] [3,4] rfl rfl) rfl)
 have hff:aP x.Code<8\/10<aP x.Code:=by have:¬(i.Form=9\/i.Form=10):=c2;omega
 refine .jX (i:=1) (j:=0) (f:=3) rfl rfl rfl ?_;refine Z7 ?_;refine .x (Ob [_] [1,2,3,0] (h:=pT (k:=b) (s:=b.st) (g:=⟨i.wO,i.s4⟩) ak (by show i.s4.length<=60000;omega))) rfl (λh=>eP (by unfold gK at hc;omega) (by unfold gK at hc;omega) (by unfold gK at hc;unfold aN;omega) ((AW hc hv hk hff).trans (by rw[<-hin.2.2.2.2.1,<-hin.2.2.2.2.2.1];exact h))) λzT Vz=>?_;refine Z2 ?_;refine .sO (Post.cY rfl ((zT.1,some (bb,bc),dU fs++zT.2.1,kJ fs++[mZ (dU fs).length b zT.2])) (by exact jn (by unfold gK at hc;omega) (by unfold gK at hc;omega) (by unfold gK at hc;unfold aN;omega) ((AW hc hv hk hff).trans (by rw[<-hin.2.2.2.2.1,<-hin.2.2.2.2.2.1];exact Vz))) (aF.cZ [0,1,2] [3] rfl rfl) rfl)
theorem LF(w:World):(Instr.typeAssert Value.nilIface 20 437 true).run Wo w= .ok (.tuple #[.agg #[.int .i64 0], .bool false]) w:=by
 kernel_rfl
theorem Fx(e:Int)(w:World):(Instr.typeAssert (nu 437 e) 20 437 true).run Wo w= .ok (.tuple #[.agg #[.int .i64 e], .bool true]) w:=by
 kernel_rfl
theorem LG(p:Value)(w:World):
    CallsD Wo 272 #[p] .returning w λe u' w'=>e= .returned (.tuple #[])/\u'= .returning/\Below w.heap.size w w':=by
  refine callsD_of_wpS Tryz.func272 rfl λc₀ cs hu=>?_;apply wpS_seq;apply wpS_region;simp[wpOpsS,go_sem,recoverD,hu,Tryz.ntmps272,Exit.thenS,LF];apply wpS_seq;apply wpS_region;simp[wpOpsS,go_sem,Exit.thenS];refine wpS_cond (t:=false) (by simp[Act.eval,Array.replicate]) ?_;simp only[Bool.false_eq_true,if_false];refine wpS_of_wp (wp_skip ?_);have hb:Below w.heap.size w (w.alloc (Obj.cells #[Value.int IntKind.i64 0] 437)):=(Below.refl _ _).alloc (Nat.le_refl _) _;generalize w.alloc (Obj.cells #[Value.int IntKind.i64 0] 437)=w1 at hb;cases c₀
  simp_all [bodyPostS,results,Tryz.results272]
theorem LH{eb:Nat}{ch:List PanicEntry}(hc:Aq 437 ch):
    Catch Wo 272 (.pointer (some ⟨eb,0,none⟩)) ch [az eb [af .i64 0]] (δ:=Int) (λe=>e≠0) (λe=>[az eb [af .i64 e]]):=by
  obtain⟨e,he,rfl⟩:=hc;intro w S F hS hF hSF hown;obtain⟨F1,F2,f1,f2,⟨hFb,arr,T,hh,hn,hcs⟩,_⟩:=hown;obtain⟨u0,ZM,JA⟩:=hcs 0 _ rfl;simp only[ag] at JA;subst JA
  have wh:arr= #[.int .i64 0]:=by
    refine Array.ext (by simpa using hn) λi h1 h2=>?_;have:i=0:=by simp at h2;omega
    subst this;have h3:arr[0]?=some arr[0]:=by simp at hn;simp[hn]
    rw[h3] at ZM;simpa using ZM
  subst wh;refine callsD_of_wpS Tryz.func272 rfl λc₀ cs hu=>?_;apply wpS_seq;apply wpS_region;have aj0:recoverD (c₀::cs)=some (nu 437 e,{c₀ with mode:= .panicking [{v:=nu 437 e,recovered:=true}]}::cs):=by simp only[recoverD,hu]
  generalize GA:nu 437 e=fv at aj0;have aM8:∀w:World,(Instr.typeAssert fv 20 437 true).run Wo w= .ok (.tuple #[.agg #[.int .i64 e], .bool true]) w:=λw=>by rw[<-GA];exact Fx e w
  simp[wpOpsS,go_sem,aj0,Tryz.ntmps272,Exit.thenS,aM8];generalize aM9:({fn:=c₀.fn,tmps:=c₀.tmps,todo:=c₀.todo,defers:=c₀.defers,mode:=FrameMode.panicking [{v:=fv,recovered:=true}],kind:=c₀.kind,roundOf:=c₀.roundOf}::cs:List Frame)=cs1;generalize hw1:w.alloc (Obj.cells #[Value.int IntKind.i64 e] 437)=w1;apply wpS_seq;apply wpS_region;simp[wpOpsS,go_sem,Exit.thenS];refine wpS_cond (t:=true) (by simp[Act.eval,Array.replicate]) ?_;simp only[if_true]
  have aI:j6 ⟨w,S,F,11,none,[]⟩ w1 S (λk=>k=w.heap.size\/F k):=by
    rw[<-hw1];exact(show j6 ⟨w,S,F,11,none,[]⟩ w S F from⟨rfl,rfl,rfl,Nat.le_refl _,λ_ _ _=>rfl,hSF,hS,hF,λk hk=> .inl hk,λk hk=> .inl hk,λ_ hk=>hk⟩).gJ _
  have oU:∀k,F1 k->F k:=λk hk=>(f1 k hk).1
  have aj1:dR [az w.heap.size [af .i64 e],az eb [af .i64 0]] (λk=>k=w.heap.size\/F k) S w1:=by
    rw[<-hw1];refine dR.gJ ?_ hS hF _ (uX hS rfl λj q hj=>?_)
    · exact⟨F1,λ_=>False,λk hk=>⟨oU k hk,λh=>h⟩,λk hk=>hk.elim,⟨hFb,_,T,hh,hn,hcs⟩,trivial⟩
    · match j,hj with
      |0,hj=>simp at hj;subst hj;exact⟨_,rfl,rfl⟩
      |j+1,hj=>simp at hj
  refine wpS_of_wp (wpIn_wide.1 (show Code.wpIn Fence.wide 0 _ _ _ _ _ from ?_))
  have key:∀{Q:Exit->Act->World->Prop},(∀a w',St ⟨w,S,F,11,none,[]⟩ [az eb [af .i64 e],az w.heap.size [af .i64 e]] [] a w'->Q .normal a w')->
      aU Wo Q ⟨w,S,F,11,none,[]⟩ (Code.region 2 #[⟨some 9, .fieldAddr 437 (.tmp 1) 0,0,"check.go:328", #[],none⟩,⟨some 10, .load 50 (.tmp 9),50,"check.go:328", #[⟨0, .data⟩],none⟩,⟨none, .store 50 (.tmp 0) (.tmp 10),0,"check.go:328", #[⟨1, .data⟩,⟨0, .phase⟩,⟨1, .phase⟩],none⟩] false)
        [az eb [af .i64 0],az w.heap.size [af .i64 e]] [(0,ax eb 0),(1,ax w.heap.size 0)]:=by
    intro Q hQ;refine aU.region (.p (Gk FF.out (.t rfl)) rfl<| .p (kK (i:=1) FA.out (.t rfl) rfl rfl) rfl<| .s (jf (i:=0) FC.out (.t rfl) (.t rfl) rfl rfl)<| .nil ?_);exact λa w' hst=>hQ a w' (hst.mono (λ_ _ _ _ t q h=>by cases h))
  refine key (λa w' hst=>?_) _ _ ⟨rfl,by simp,S,_,aI,aj1.perm (List.Perm.swap _ _ _),?_⟩
  · obtain⟨h1,h2,S',F',h3,h4,h5⟩:=hst
    refine⟨h1,_,aM9.symm, .tuple #[],?_,rfl,⟨fv,rfl⟩,S',F',e,he,⟨h3.os,h3.tape,h3.output,h3.size,h3.kept,h3.eg,h3.bZ,h3.cK,h3.own,h3.shr,h3.base⟩,?_⟩
    · simp[results,Tryz.results272]
    · obtain⟨G1,G2,g1,g2,g3,g4⟩:=h4
      exact⟨G1,λ_=>False,λk hk=>⟨(g1 k hk).1,λh=>h⟩,λk hk=>hk.elim,g3,trivial⟩
  · intro t q hl
    rw[bX,bX] at hl
    split at hl
    · rename_i h0;subst h0;cases hl;simp[Array.replicate,ag]
    split at hl
    · rename_i h1;subst h1;cases hl;simp[Array.replicate,ag]
    · cases hl
theorem aj2{f:FuncId}{v:Value}:aa (yM f [ag v]) (ag (.func (.func f) #[] #[v])):=λS w u ⟨lb,hv,h1,h2⟩=>by
 match lb,h1,h2 with
 |[x],_,h2=>
  have:=h2 0 _ x rfl rfl;simp only[ag] at this;subst this;exact hv
def Xn(m:aT)(f:cn)(x:aj)(fs:List eT)(b:eT)(g:Option W0×Int):Prop:=match g.1 with|some z=>g.2=0/\MX m f x fs b z|none=>g.2≠0/\jN m f x fs b=none
abbrev Tn(cb:Nat)(m:aT)(f:cn)(g:Option W0×Int):List HP:=match g.1 with|some z=>ckZ cb m f z|none=>[]
theorem LI(ak:(dU fs++b.st.1).length<=60000)(aR:AS m f)(bO:nJ x)(dO:fs.length<=50000)(jE:ED (fs++[b]))(sx:iO x.Code≠[]):
    bu Wo 210 [ax cb 0,aC (aB x)] (RS cb m f gs (some (bb,bc)) (dU fs++b.st.1) (kJ fs++[mZ (dU fs).length b b.st])) (γ:=Option W0×Int) (Xn m f x fs b) (Tn cb m f) (λg=>af .i64 g.2):=by
  refine bu.Mz 9 Tryz.func210 rfl rfl rfl λw0 S0 M=>?_;refine aU.seq ?_;refine aU.region (.p (QV (.t rfl)) rfl<| .n (au FZ.out) rfl<|λb4 _=> .nil ?_);refine bS.Gg ?_;refine aU.seq ?_;refine aU.region (.p (qY (.cons (.t rfl) .nil)) rfl<| .UD rfl (.le (.t rfl) aj2)<| .nil ?_);refine bS.Gg ?_;refine aU.seq ?_
  refine aU.region (.p (gu (.t rfl)) rfl<| .p (wj FA.out FC.out rfl (.t rfl) rfl) rfl<|
    .xd (uc (rest:=[az b4 [ag (.int .i64 0)]]) (LD ak aR bO dO jE sx) FB.out (.cons (.t rfl) (.cons (.t rfl) .nil)) (Perm.idx [1,2,3,0] rfl rfl)) rfl (λch hD hc=>?_) (λz hz=> .nil ?_))
  · refine λa w hst=>bS.ac2 (c:=⟨w0,S0,M,9,none,[]⟩) (φ:=Xn m f x fs b) (hs':=Tn cb m f) (q:=λg=>af .i64 g.2) (LH hc) rfl rfl FB.out (λe he=>?_) a w hst
    refine Post.aS rfl (none,e) ⟨he,hD⟩ (λ_ _ _ _=>trivial) (.rc (i:=0) FA.out rfl rfl rfl) ?_;exact aa.refl _
  refine bS.Gg ?_;refine aU.seq ?_;refine aU.region (.s (jf (i:=3) FC.out (.t rfl) (.c _) rfl rfl)<| .nil ?_);refine bS.Gg ?_;refine aU.ret ?_;refine bS.ac1 (c:=⟨w0,S0,M,9,none,[]⟩) (λw=>LG _ w) rfl rfl FB.out ?_;refine Post.aS rfl (some z,0) ⟨rfl,hz⟩ (aF.cZ [0,1,2] [3] rfl rfl) (.rc (i:=3) FA.out rfl rfl rfl) ?_;exact aa.refl _
theorem LJ(ak:l.length<=60000):dF Wo 269 [ai 1 an l] (ai 2 rF (l.foldl bF [])):=by
 refine In 43 Tryz.func269 λ_ _ _=>?_;refine .fO 2 rF ?_;refine Cn ?_;refine .bk (σ:=Nat×SB×List (Nat×UInt8)) (λz=>[aH z.2.1 2 rF z.2.2]) (λz=>[(3,ag (bI z.2.1 z.2.2.length)),(9,af .i64 (z.1:Int))]) (λz=>z.1<=l.length/\z.2.2=(l.take z.1).foldl bF []) (λz=>l.length-z.1) (0,none,[]) ⟨Nat.zero_le _,rfl⟩ rfl ?_ ?_
 · exact(.get rfl (aa.of_eq rfl) (.get rfl (aa.refl _) (.refl _ _)))
 rintro⟨k,g1,o⟩ ⟨hk,ho⟩;simp only at hk ho ⊢;refine Z6 ?_;refine Cd (λc0=>?_) λc0=>?_
 ·
  obtain⟨t,hx⟩:=ah (xs:=l) (k:=k) (by omega);have zy:=(zQ (l.take k) [] 0 (by simp)).2;rw[<-ho] at zy;simp only[List.length_nil,List.length_take] at zy;have hoc:=(zQ (l.take k) [] 0 (by simp)).1;rw[<-ho] at hoc;refine Z6 ?_;refine .p (cI k (h:=hx)) rfl ?_;refine Z5 ?_;rcases List.eq_nil_or_concat o with hoe|⟨m,q,hoe⟩
  rotate_left
  obtain⟨n,t2⟩:=q;rw[List.concat_eq_append] at hoe;subst hoe;refine .lg 0 rfl (by simp) λob oc hg=>?_;subst hg;have TW:=hoc (n,t2) (by simp);simp only[List.length_take] at TW;simp only[List.length_append,List.length_cons,List.length_nil] at zy
  rotate_left
  subst hoe
  rotate_left
  ·
   refine kL ?_;refine .g (de.gT rfl rfl rfl rfl (λhg=>iy (.when (.t rfl) hg) (.c _) (cM (by simp<;>omega) (by simp<;>omega)))) rfl rfl ?_;refine .g (de.gT rfl rfl rfl rfl (λhg=>fY m.length FU.out FC.out rfl (.when (.t rfl) hg) (.when (.t rfl) hg) (by simp) (by simp))) rfl rfl ?_;refine Z1 ?_;refine .g (de.gT rfl rfl rfl rfl (λhg=>nN (i:=0) (r:=1) FA.out (.when (.t rfl) hg) rfl (mS m (n,t2)) rfl)) rfl rfl ?_;refine Z5 ?_;refine Cd (λc1=>?_) λc1=>?_
   ·
    refine Z3 ?_;refine .p (iy (.t rfl) (.c _) (cM (by simp<;>omega) (by simp<;>omega))) rfl ?_;refine .p (fY m.length FU.out FC.out rfl (.t rfl) (.t rfl) (by simp) (by simp)) rfl ?_;refine Z1 ?_;refine .p (nN (i:=0) (r:=0) FA.out (.t rfl) rfl (mS m (n,t2)) rfl) rfl ?_;refine Z1 ?_;refine .p (fY m.length FU.out FC.out rfl (.t rfl) (.t rfl) (by simp) (by simp)) rfl ?_;refine Z1 ?_;refine .s (sN (enc:=rF) (i:=0) (r:=0) (n+1,t2) rfl FC.out (.t rfl) (.t rfl) rfl (mS m (n,t2)) rfl rfl) ?_;refine Z1 ?_;rw[GF];rw[show(m++[(n,t2)]).length=(m++[(n+1,t2)]).length by simp];refine Z6 ?_;refine .round (k+1,some (ob,oc),m++[(n+1,t2)]) ⟨by show k+1<=_;omega,by(show m++[(n+1,t2)]=_;rw[vA hx,<-ho,<-Du.1 c1.2,w6])⟩ (by show l.length-(k+1)<l.length-k;omega) rfl ?_;exact(.get rfl (aa.refl _) (.get rfl (aa.int (by show(_:Int)=((k+1:Nat):Int);omega)) ((.keep 32 rfl rfl))))
   refine Z4 ?_;refine .p (cB rF [(1,t)]) rfl ?_;refine .n (aK (i:=0) FU.out FU.out FC.out rfl FZ.out rfl FY.out (.t rfl) (.t rfl) rfl (by simp only[List.length_append,List.length_cons,List.length_nil];omega) (by simp only[List.length_append,List.length_cons,List.length_nil];omega)) rfl λwe _=>?_;refine Z8 ?_;refine .round (k+1,we,(m++[(n,t2)])++[(1,t)]) ⟨by show k+1<=_;omega,by(show(m++[(n,t2)])++[(1,t)]=_;rw[vA hx,<-ho,uR _ _ (λe=>c1 ⟨by simp<;>omega,Du.2 e⟩)])⟩ (by show l.length-(k+1)<l.length-k;omega) rfl ?_;exact(.get rfl (aa.refl _) (.get rfl (aa.int (by show(_:Int)=((k+1:Nat):Int);omega)) ((.keep 29 rfl rfl))))
  refine dh ?_;refine .g (de.gT rfl rfl rfl rfl (λhg=>mR (q:=fS) (by simp at hg))) rfl rfl ?_;refine .g (de.gT rfl rfl rfl rfl (λhg=>mR (q:=fS) (by simp at hg))) rfl rfl ?_;refine .g (de.gT rfl rfl rfl rfl (λhg=>mR (q:=fS) (by simp at hg))) rfl rfl ?_;refine .g (de.gT rfl rfl rfl rfl (λhg=>mR (q:=fS) (by simp at hg))) rfl rfl ?_;refine .g (de.gT rfl rfl rfl rfl (λhg=>mR (q:=fS) (by simp at hg))) rfl rfl ?_;refine .g (de.gT rfl rfl rfl rfl (λhg=>mR (q:=fS) (by simp at hg))) rfl rfl ?_;refine .g (de.gT rfl rfl rfl rfl (λhg=>mR (q:=fS) (by simp at hg))) rfl rfl ?_;refine .g (de.gT rfl rfl rfl rfl (λhg=>mR (q:=av True) (by simp at hg))) rfl rfl ?_;refine Z3 ?_;refine Cd (λc1=>?_) λc1=>?_
  · exfalso;simp at c1
  refine Z4 ?_;refine .p (cB rF [(1,t)]) rfl ?_;refine .n (aK (i:=0) FU.out FU.out FC.out rfl FZ.out rfl FY.out (.t rfl) (.t rfl) rfl (by simp only[List.length_append,List.length_cons,List.length_nil];omega) (by simp only[List.length_append,List.length_cons,List.length_nil];omega)) rfl λwe _=>?_;refine Z8 ?_;refine .round (k+1,we,[]++[(1,t)]) ⟨by show k+1<=_;omega,by(show[]++[(1,t)]=_;rw[vA hx,<-ho];rfl)⟩ (by show l.length-(k+1)<l.length-k;omega) rfl ?_;exact(.get rfl (aa.refl _) (.get rfl (aa.int (by show(_:Int)=((k+1:Nat):Int);omega)) ((.keep 29 rfl rfl))))
 have JN:l.take k=l:=List.take_of_length_le (by omega);rw[JN] at ho;refine Z6 ?_;refine .eC (t:=3) (i:=0) rfl rfl ?_;refine Z6 ?_;refine br ?_;exact aa.of_eq (by rw[ho])
theorem Fy(ak:0<=x.A)(aR:0<=x.B):dF Wo 339 [aC (aB x)] (av (¬iH x)):=by
 refine In 6 Tryz.func339 λ_ _ _=>?_;refine Z9 ?_;refine .p (cA (h:=y8 ak aR)) rfl ?_;refine Z5 ?_;refine br ?_;exact aa.refl _
theorem Fz{t:UInt8}:dF Wo 342 [af .u8 (t.toNat:Int)] (av (fG t=0)):=by
 refine In 6 Tryz.func342 λ_ _ _=>?_;refine Z8 ?_;refine .p (cA (h:=qH)) rfl ?_;refine Z5 ?_;refine br ?_;exact aa.refl _
theorem CW{l:List aj}{p:aj->Prop}(ak:∀x∈l,0<=x.A/\0<=x.B):dF Wo 386 [ai 5 aB l,pV Wo (λx:aj=>0<=x.A/\0<=x.B) (λx=>[aC (aB x)]) (λx=>av (p x))] (af .i64 (sr p l)):=by
 refine In 19 Tryz.func386 λ_ _ _=>?_;refine .fact (t:=0) rfl (λS w v h=>cw h) λhlen=>?_;refine ij ?_;refine .bk (σ:=Nat) (λ_=>[]) (λk=>[(8,af .i64 (k:Int))]) (λk=>k<=l.length/\dJ p l k) (λk=>l.length-k) 0 ⟨by omega,dJ.zero p l⟩ rfl ?_ ?_
 · exact(.get rfl (aa.refl _) (.refl _ _))
 rintro k ⟨hk,hnot⟩;refine Z6 ?_;refine Cd (λc0=>?_) λc0=>?_
 ·
  obtain⟨x,hx⟩:=ah (xs:=l) (k:=k) (by omega);refine oA ?_;refine .p (cI _) rfl ?_;refine Z1 ?_;refine .p (cV x (h:=ak x (List.mem_of_getElem? hx))) rfl ?_;refine Z2 ?_;refine Cd (λc1=>?_) λc1=>?_
  ·
   refine eB ?_;refine br ?_;exact aa.int (ud hx (by assumption) hnot).symm
  refine Z7 ?_;refine .round (k+1) ⟨by omega,hnot.succ hx (by assumption)⟩ (by omega) rfl ?_;exact(.get rfl (aa.int (by omega)) (.keep 12 rfl rfl))
 refine dh ?_;refine br ?_;exact aa.int (qn (hnot.all (by omega))).symm
theorem CX{l:List aj}{p:aj->Prop}(ak:∀x∈l,0<=x.A/\0<=x.B):dF Wo 338 [ai 5 aB l,pV Wo (λx:aj=>0<=x.A/\0<=x.B) (λx=>[aC (aB x)]) (λx=>av (p x))] (av (∃x∈l,p x)):=by
 refine In 9 Tryz.func338 λ_ _ _=>?_;refine Z9 ?_;refine .p (cA (h:=CW (by first|assumption|omega))) rfl ?_;refine Z5 ?_;refine br ?_;exact aa.prop jI
theorem B4{b:j8}(ak:Vg b):dF Wo 268 [aC (iT b)] (av ((∀x∈b.L,iH x)/\(∀t∈b.aV,t=126\/t=127)/\b.aV.length<=50)):=by
 refine In 23 Tryz.func268 λ_ _ _=>?_;refine cC ?_;refine .p (cg (CX (l:=b.L) (p:=λx=>¬iH x) (λx hx=>⟨(ak.ins x hx).A0,(ak.ins x hx).B0⟩)) FB.out (.cons (.t rfl) (.cons (.le (.f _) (tU FB.out (λ(x:aj) (h:0<=x.A/\0<=x.B)=>Fy h.1 h.2))) .nil))) rfl ?_;refine Z7 ?_;refine .p (cg (xj (l:=b.aV) (p:=λt=>fG t=0)) FB.out (.cons (.t rfl) (.cons (.le (.f _) (tU FB.out (λ(b:UInt8) (_:True)=>Fz (t:=b)))) .nil))) rfl ?_;refine XR ?_;refine br ?_;exact aa.prop (by simp only[not_exists,not_and,Classical.not_not,qZ,and_assoc];exact and_congr_right λ_=>and_congr_right λ_=>by omega)
theorem FD{b:j8}(ak:Vg b):bu Wo 209 [aC (iT b)] [] (γ:=Int) (λe=>e=0↔nI b) (λ_=>[]) (λe=>aZ [fS,af .i64 e]):=by
 refine In 71 Tryz.func209 λ_ _ _=>?_;refine dh ?_;refine .p (cA (h:=B4 ak)) rfl ?_;refine Z3 ?_;refine Cd (λc0=>?_) λc0=>?_
 ·
  have hno:¬nI b:=λh=>c0 ⟨h.1,h.2.1,h.2.2.1⟩;refine Z8 ?_;refine Post.bh rfl rfl (1) (by exact⟨λh=>by simp at h,λh=>absurd h hno⟩) (λ_ _ _ h=>h) rfl (.cons (.rt rfl) ?_ (.cons (.rt rfl) ?_ .nil))
  · exact aa.any
  exact aa.refl _
 obtain⟨LK,htl,hlo⟩:=Classical.not_not.1 c0;refine Z7 ?_;refine .n (cE (h:=IX (by have:=ak.len;omega))) rfl λUe Tg=>?_;refine oA ?_;refine Cd (λc1=>?_) λc1=>?_
 ·
  refine Z9 ?_;refine Post.bh rfl rfl (Ue) (by exact⟨λh=>absurd h c1,λh=>Tg.2 h.2.2.2.1⟩) (λ_ _ _ h=>h) rfl (.cons (.rt rfl) ?_ (.cons (.rt rfl) ?_ .nil))
  · exact aa.any
  exact aa.refl _
 have hnr:=Tg.1 (Classical.not_not.1 c1);obtain⟨hrc,hrl⟩:=zQ b.aV [] 0 (by simp);simp only[List.length_nil,Nat.zero_add] at hrc hrl;have PM:gy (b.aV.foldl bF []).length<=10:=ew (by omega);refine Z6 ?_;refine .p (cA (h:=LJ ak.loc)) rfl ?_;refine Z4 ?_;refine .fO 1 an ?_;refine Z4 ?_;refine .n (cE (h:=uz (g:=none) (xs:=[]) (n:=(b.aV.foldl bF []).length) (by omega) (by simp))) rfl λQF QG=>?_;refine eB ?_;refine .bk (σ:=Nat×SB×List UInt8) (λz=>[aH z.2.1 1 an z.2.2]) (λz=>[(8,ag (bI z.2.1 z.2.2.length)),(37,af .i64 (z.1:Int))]) (λz=>z.1<=(b.aV.foldl bF []).length/\z.2.2.length=gy (b.aV.foldl bF []).length+A9 ((b.aV.foldl bF []).take z.1)) (λz=>(b.aV.foldl bF []).length-z.1) (0,QF.1,QF.2) ⟨Nat.zero_le _,by(show QF.2.length=_;rw[QG];simp[A9])⟩ rfl ?_ ?_
 · exact(.get rfl (aa.refl _) (.get rfl (aa.refl _) (.refl _ _)))
 rintro⟨k,g1,ys⟩ ⟨hk,hys⟩;simp only at hk hys ⊢;have hsr:=EK ((b.aV.foldl bF []).take k) (λp hp=>by have:=hrc p (List.mem_of_mem_take hp);omega);rw[List.length_take] at hsr;refine Z6 ?_;refine Cd (λc2=>?_) λc2=>?_
 ·
  obtain⟨r,hr⟩:=ah (xs:=(b.aV.foldl bF [])) (k:=k) (by omega);have hrn:=hrc r (List.mem_of_getElem? hr);have cd6:gy r.1<=10:=ew (by omega);refine Z6 ?_;refine .p (cI k (h:=hr)) rfl ?_;refine Z1 ?_;refine .n (au FZ.out) rfl λb10 _=>?_;refine Z3 ?_;refine .share (t:=10) (i:=0) rfl rfl ?_;refine .bt [(0,0),(1,0),(2,0),(3,0),(5,0),(6,0),(7,0),(4,2)] 8 2 FM.out (by kernel_rfl) (k:= ?_);refine Z6 ?_;refine .p rfl (λ_=>bC (enc:=an) [r.2] FU.out FC.out rfl FZ.out rfl (.cons (.t rfl) .nil) rfl rfl rfl rfl rfl) ?_;refine .e rfl (cE (h:=uz (n:=r.1) (by omega) (by omega))) λJz h45=>?_;refine .fin ?_;refine .n (aK (i:=0) FU.out FU.out FC.out rfl FZ.out rfl FY.out (.t rfl) (.t rfl) rfl (by simp only[List.length_cons,List.length_nil];omega) (by simp only[List.length_cons,List.length_nil];omega)) rfl λVB _=>?_;refine Z8 ?_;refine .round (k+1,VB,Jz.2++[r.2]) ⟨by show k+1<=_;omega,by(show(Jz.2++[r.2]).length=_;rw[List.length_append,h45,hys,<-bE hr,OU];simp only[List.length_cons,List.length_nil];omega)⟩ (by show(b.aV.foldl bF []).length-(k+1)<(b.aV.foldl bF []).length-k;omega) rfl ?_;exact(.get rfl (aa.refl _) (.get rfl (aa.int (by show(_:Int)=((k+1:Nat):Int);omega)) ((.keep 19 rfl rfl))))
 have hkr:(b.aV.foldl bF []).take k=(b.aV.foldl bF []):=List.take_of_length_le (by omega);rw[hkr] at hys;refine oA ?_;refine .bk (σ:=Nat×SB×List UInt8) (λz=>[aH z.2.1 1 an z.2.2]) (λz=>[(8,ag (bI z.2.1 z.2.2.length)),(54,af .i64 (z.1:Int))]) (λz=>z.1<=b.L.length/\z.2.2.length=gy (b.aV.foldl bF []).length+A9 (b.aV.foldl bF [])+ye (b.L.take z.1)) (λz=>b.L.length-z.1) (0,g1,ys) ⟨Nat.zero_le _,by(show ys.length=_;rw[hys];simp[ye])⟩ rfl ?_ ?_
 · exact(.get rfl (aa.refl _) (.get rfl (aa.refl _) (.refl _ _)))
 rintro⟨i,g2,ws⟩ ⟨hi,hzs⟩;simp only at hi hzs ⊢;have hsi:=EJ (b.L.take i) (λx hx=>⟨.of (ak.ins x (List.mem_of_mem_take hx)) (LK x (List.mem_of_mem_take hx)),LK x (List.mem_of_mem_take hx)⟩);rw[List.length_take] at hsi;have cd7:=EK (b.aV.foldl bF []) (λp hp=>by have:=hrc p hp;omega);have Ac:=ak.len;refine Z6 ?_;refine Cd (λc3=>?_) λc3=>?_
 ·
  obtain⟨x,hx⟩:=ah (xs:=b.L) (k:=i) (by omega);have hxl:=EI (.of (ak.ins x (List.mem_of_getElem? hx)) (LK x (List.mem_of_getElem? hx))) (LK x (List.mem_of_getElem? hx));refine Z6 ?_;refine .p (cI i (h:=hx)) rfl ?_;refine Z1 ?_;refine .n (au FZ.out) rfl λUi _=>?_;refine Z3 ?_;refine .share (t:=12) (i:=0) rfl rfl ?_;refine Z3 ?_;refine .n (cE (h:=Fq (.of (ak.ins x (List.mem_of_getElem? hx)) (LK x (List.mem_of_getElem? hx))) (LK x (List.mem_of_getElem? hx)))) rfl λY4 h60=>?_;refine cC ?_;refine .n (aK (i:=0) (xs:=ws) (ys:=Y4) FU.out FU.out FC.out rfl FZ.out rfl FY.out (.t rfl) (.t rfl) rfl (by omega) (by omega)) rfl λg65 _=>?_;refine Z8 ?_;refine .round (i+1,g65,ws++Y4) ⟨by show i+1<=_;omega,by(show(ws++Y4).length=_;rw[List.length_append,h60,hzs,<-bE hx,DH];omega)⟩ (by show b.L.length-(i+1)<b.L.length-i;omega) rfl ?_;exact(.get rfl (aa.refl _) (.get rfl (aa.int (by show(_:Int)=((i+1:Nat):Int);omega)) ((.keep 20 rfl rfl))))
 have Ca:b.L.take i=b.L:=List.take_of_length_le (by omega);rw[Ca] at hzs;have htot:ws.length=Kq b:=by rw[hzs,Vf]
 refine Z9 ?_;refine .p (MB (xs:=ws) (i:=0) rfl Tryz.underlying58 (.t rfl) rfl rfl) rfl ?_;refine Z3 ?_;refine Cd (λc4=>?_) λc4=>?_
 ·
  refine Z8 ?_;refine Post.bh rfl rfl (15) (by exact⟨λh=>by simp at h,λh=>by have:=h.2.2.2.2;omega⟩) (aF.cZ [] [0] rfl rfl) rfl (.cons (.rt rfl) ?_ (.cons (.rt rfl) ?_ .nil))
  · exact aa.any
  exact aa.refl _
 refine cC ?_;refine Post.bh rfl rfl (0) (by exact⟨λ_=>⟨LK,htl,hlo,hnr,by omega⟩,λ_=>rfl⟩) (aF.cZ [] [0] rfl rfl) rfl (.cons (.rt rfl) ?_ (.cons (.rt rfl) ?_ .nil))
 · exact aa.any
 exact aa.refl _
end Go.Proofs.YtppekopemdoclaaGreatDoor
end
section
namespace Go.Proofs.YtppekopemdoclaaGreatDoor
open Go.Hl
theorem NB{m:aT}:(vE m).2=0↔dB m:=by
 rw[SH];constructor
 · intro h
   simp only[nE,List.mem_cons,List.not_mem_nil,or_false] at h;exact⟨h _ (.inl rfl),h _ (.inr (.inl rfl)),h _ (.inr (.inr (.inl rfl))),h _ (.inr (.inr (.inr (.inl rfl)))),h _ (.inr (.inr (.inr (.inr (.inl rfl))))),h _ (.inr (.inr (.inr (.inr (.inr (.inl rfl)))))),h _ (.inr (.inr (.inr (.inr (.inr (.inr (.inl rfl))))))),h _ (.inr (.inr (.inr (.inr (.inr (.inr (.inr (.inl rfl)))))))),h _ (.inr (.inr (.inr (.inr (.inr (.inr (.inr (.inr (.inl rfl))))))))),h _ (.inr (.inr (.inr (.inr (.inr (.inr (.inr (.inr (.inr rfl)))))))))⟩
 · intro h p hp
   simp only[nE,List.mem_cons,List.not_mem_nil,or_false] at hp;rcases hp with rfl|rfl|rfl|rfl|rfl|rfl|rfl|rfl|rfl|rfl
   · exact h.sigs
   · exact h.imports
   · exact h.funcs
   · exact h.table
   · exact h.eE
   · exact h.globals
   · exact h.bg
   · exact h.start
   · exact h.elems
   · exact h.cu
theorem ze{m:aT}(h:dB m):(vE m).2=0:=NB.2 h
end Go.Proofs.YtppekopemdoclaaGreatDoor
end
section
namespace Go.Proofs.YtppekopemdoclaaGreatDoor
open Go.Hl Go.RowKit
variable {m:aT} {f:cn} {i:Nat}
theorem xy(ak:dB m)(aR:fV m)(bO:m.aq[i]?=some f):dF Wo 101 [ck (bp m),af .i64 ((i:Int))] (aZ [ai 1 an ((bR m f).aV),av True]):=by
 refine In 49 Tryz.func101 λ_ _ _=>?_;have rZ:f∈m.aq:=List.mem_of_getElem? bO;have Ca:=(List.getElem?_eq_some_iff.1 bO).1;have hlens:=ak.lens;have ZT:(m.ay.length:Int)+(m.aq.length:Int)<=100:=hlens.2.2.2.2;have F7:=(gL (jO ak rZ)).2;have hP:=(ak.Co _ F7).1;have hlo:=aR.loc f rZ;refine Z26 ?_;refine Cd (λc0=>?_) λc0=>?_
 · exfalso;rcases c0 with(h|h)|h;exact h;omega;omega
 refine eB ?_;refine .p ((cA (h:=gM (m:=m) (f:=(m.ay.length:Int)+(i:Int)))).le (aa.of_eq (show aZ [aC (bW ((eY m ((m.ay.length:Int)+(i:Int))).getD ⟨[],[]⟩)),av (eY m ((m.ay.length:Int)+(i:Int))).isSome]=aZ [aC (bW (bJ m f.fW)),av ((some (bJ m f.fW)).isSome=true)] by rw[oa ak bO];rfl))) rfl ?_;refine Z3 ?_;refine .n (au FZ.out) rfl λb6 _=>?_;refine Z4 ?_;refine .share (t:=6) (i:=0) rfl rfl ?_;refine Z1 ?_;refine .bL 15 1 FM.out (by kernel_rfl) (k:= ?_);refine Z7 ?_;refine .p (cI i (h:=bO)) ?_;refine Z3 ?_;refine .p (cB eI [(bJ m f.fW).P,f.Body.aV]) ?_;refine .p (cA (h:=Fu (ls:=[(bJ m f.fW).P,f.Body.aV]) (by simp;omega))) ?_;refine Z7 ?_;refine eA ?_ ?_
 · exact aa.of_eq (by simp[bR])
 exact aa.prop (by simp)
theorem D2(ak:dB m)(aR:fV m)(bO:m.aq[i]?=some f):bu Wo 143 [ck (bp m),af .i64 ((i:Int))] [] (γ:=Int×Int×List Nat×SB) (λg=>(g.2.1=0/\nI f.Body/\cN m f=some g.2.2.1)\/(g.2.1≠0/\¬rA m f/\g.2.2.1=[])) (λg=>[aH g.2.2.2 1 fU g.2.2.1]) (λg=>aZ [ag (bI g.2.2.2 g.2.2.1.length),af .i64 g.1,af .i64 g.2.1]):=by
 refine In 99 Tryz.func143 λ_ _ _=>?_;have rZ:f∈m.aq:=List.mem_of_getElem? bO;have Ca:=(List.getElem?_eq_some_iff.1 bO).1;have hlens:=ak.lens;have ZT:(m.ay.length:Int)+(m.aq.length:Int)<=100:=hlens.2.2.2.2;have F7:=(gL (jO ak rZ)).2;have O3:=aR.len f rZ;have hfit:(vE m).2=0:=ze ak;refine dh ?_;refine .p (cA (h:=HV (m:=m))) rfl ?_;refine Z2 ?_;refine .p ((dW (.t rfl) rfl).le (aa.int hfit)) rfl ?_;refine cC ?_;refine CT λc0=>?_;refine Z6 ?_;refine .p (cA (h:=xy ak aR bO)) rfl ?_;refine ij ?_;refine Cd (λc1=>?_) λc1=>?_
 · exact absurd trivial c1
 refine Z9 ?_;refine .p (cI i (h:=bO)) rfl ?_;refine Z2 ?_;refine .n (au FZ.out) rfl λb11 _=>?_;refine Z3 ?_;refine .share (t:=11) (i:=0) rfl rfl ?_;refine Z4 ?_;refine .n (cE (h:=FD (aR.bd rZ))) rfl λQD h46=>?_;refine kL ?_;refine Cd (λc2=>?_) λc2=>?_
 ·
  have hno:¬rA m f:=λh=>c2 (h46.2 h.1);refine cC ?_;refine Post.bh rfl rfl ((0,QD,[],none)) (by exact .inr ⟨c2,hno,rfl⟩) (λF S w h=>⟨λ_=>False,F,λ_ h=>h.elim,λ_ h=>h,rfl,trivial⟩) rfl (.cons (.rt rfl) ?_ (.cons (.rt rfl) ?_ (.cons (.rt rfl) ?_ .nil)))
  · exact aa.of_eq rfl
  · exact aa.refl _
  exact aa.refl _
 have oV:=h46.1 (Classical.not_not.1 c2);have TU:AS m f:=⟨ak,by(show((bJ m f.fW).P++f.Body.aV).length<=60000;rw[List.length_append];have h1:=(ak.Co _ F7).1;have h2:=oV.2.2.1;omega),F7⟩;refine eB ?_;refine .p ((cA (h:=gM (m:=m) (f:=(m.ay.length:Int)+(i:Int)))).le (aa.of_eq (show aZ [aC (bW ((eY m ((m.ay.length:Int)+(i:Int))).getD ⟨[],[]⟩)),av (eY m ((m.ay.length:Int)+(i:Int))).isSome]=aZ [aC (bW (bJ m f.fW)),av ((some (bJ m f.fW)).isSome=true)] by rw[oa ak bO];rfl))) rfl ?_;refine Z3 ?_;refine .n (au FZ.out) rfl λb14 _=>?_;refine Z4 ?_;refine .share (t:=14) (i:=0) rfl rfl ?_;refine Z8 ?_;refine .p ((aL FP.out FZ.out (.cons (.t rfl) .nil) rfl).le ((show aa _ (aC (lR (mZ 0 ⟨False,False,(bJ m f.fW).R,([],False)⟩ ([],False)))) from aa.agg (.cons vo (.cons vo (.cons (.refl _) (.cons (.refl _) (.cons vo .nil)))))))) rfl ?_;refine .n (dM lR [mZ 0 ⟨False,False,(bJ m f.fW).R,([],False)⟩ ([],False)] FU.out FC.out rfl FZ.out rfl (.cons (.t rfl) .nil) rfl rfl rfl rfl rfl) rfl λg71 _=>?_;refine .p (bw.le (aL FP.out FZ.out (.cons (.t rfl) (.cons (.t rfl) .nil)) rfl) (aa.refl (aC [ck (bp m),ai 1 an (bR m f).aV,ai 1 an (bJ m f.fW).P,ai 1 an (bJ m f.fW).R,ag (bI none 0),ag (bI g71 1)]))) rfl ?_;refine .n (cc (.t rfl)) rfl λb73 _=>?_;refine Z4 ?_;refine .fO 1 an ?_;refine .fO 1 fU ?_;refine ij ?_;refine .own (aF.perm (Perm.idx [0,2,1,3] rfl rfl)) ?_;refine .bk (σ:=Nat×SB×List Nat×W0) (λg=>aH g.2.1 1 fU g.2.2.1::ckZ b73 m f g.2.2.2) (λg=>[(17,ag (bI g.2.1 g.2.2.1.length)),(77,af .i64 (g.1:Int))]) (λg=>g.1<=f.Body.L.length/\g.2.2.1.length<=g.1/\∃fs,OF fs g.2.2.2.2.2.1 g.2.2.2.2.2.2/\w7 m f g.1 g.2.2.1 fs) (λg=>f.Body.L.length-g.1) (0,none,[],(none,g71,[],[mZ 0 ⟨False,False,(bJ m f.fW).R,([],False)⟩ ([],False)])) ⟨Nat.zero_le _,Nat.le_refl _,_,⟨rfl,λ_=>rfl⟩,w7.init ak F7 oV.2.2.2.1⟩ rfl ?_ ?_
 · exact(.get rfl (aa.of_eq rfl) (.get rfl (aa.refl _) (.refl _ _)))
 rintro⟨j,gh,hts,z⟩ ⟨hj,hhl,fs,hz,hR⟩;simp only at hj hhl hz hR ⊢;refine Z6 ?_;refine Cd (λc3=>?_) λc3=>?_
 ·
  obtain⟨x,hx⟩:=ah (xs:=f.Body.L) (k:=j) (by omega);obtain⟨fs,b,hfb⟩:=Hr (uo hx▸hR.nest);subst hfb;obtain⟨zs,zb,zst,zB⟩:=z;obtain⟨hB,hst⟩:=hz;simp only at hB hst;have hst:=hst (by simp);rw[mB] at hB;rw[jl] at hst;subst hB;subst hst;refine .lg 3 rfl (by simp) λbb bc hg=>?_;simp only at hg;subst hg;refine Z7 ?_;refine .p (cI j (h:=hx)) rfl ?_;refine Z1 ?_;refine .n (au FZ.out) rfl λb19 _=>?_;refine Z4 ?_;refine .share (t:=19) (i:=0) rfl rfl ?_;refine Z8 ?_;refine .p (cB fU [(dU fs++b.st.1).length]) rfl ?_;refine .n (aK (i:=0) FU.out FU.out FC.out rfl FZ.out rfl FY.out (.t rfl) (.t rfl) rfl (by simp only[List.length_cons,List.length_nil];omega) (by simp only[List.length_cons,List.length_nil];omega)) rfl λg89 _=>?_;refine Z7 ?_;refine .n (hH [_] [1,2,3,0] (h:=LI (x:=x) (by rw[<-jl,AO];have:=hR.hgt;omega) TU (.of (aR.ins f rZ x (List.mem_of_getElem? hx)) (oV.1 x (List.mem_of_getElem? hx))) (by have:=hR.len;simp at this;omega) hR.Co (oV.1 x (List.mem_of_getElem? hx)).1)) rfl λXm Y7=>?_;refine Z9 ?_;refine Cd (λc4=>?_) λc4=>?_
  ·
   refine oA ?_;refine Post.bh rfl rfl (((j:Int),Xm.2,[],none)) (by exact .inr ⟨c4,λh=>by(obtain⟨hs,hh⟩:=h.2;obtain⟨oz,e92⟩:=Xm;cases oz with|some z2=>exact c4 Y7.1|none=>(have h8:=hR.ag0 hx Y7.2;rw[hh] at h8;cases h8)),rfl⟩) (λF S w h=>⟨λ_=>False,F,λ_ h=>h.elim,λ_ h=>h,rfl,trivial⟩) rfl (.cons (.rt rfl) ?_ (.cons (.rt rfl) ?_ (.cons (.rt rfl) ?_ .nil)))
   · exact aa.of_eq rfl
   · exact aa.refl _
   exact aa.refl _
  obtain⟨oz,e92⟩:=Xm;obtain rfl|⟨z2,rfl⟩:oz=none\/∃z2,oz=some z2:=by cases oz with|none=>exact .inl rfl|some z2=>exact .inr ⟨z2,rfl⟩
  exact absurd Y7.1 c4;obtain⟨h92a,fs2,qR,Ab⟩:=Y7;have hRn:=hR.next ak hx qR;simp only[Tn];refine Z7 ?_;refine .own (aF.perm (Perm.idx [3,0,1,2] rfl rfl)) (bS.round (j+1,g89,hts++[(dU fs++b.st.1).length],z2) ⟨by show j+1<=_;omega,by(show(hts++[_]).length<=j+1;rw[List.length_append];simp only[List.length_cons,List.length_nil];omega),fs2,Ab,by(show w7 m f (j+1) (hts++[(dU fs++b.st.1).length]) fs2;rw[<-jl,AO];exact hRn)⟩ (by show f.Body.L.length-(j+1)<f.Body.L.length-j;omega) rfl ?_);exact(.get rfl (aa.refl _) (.get rfl (aa.int (by show(_:Int)=((j+1:Nat):Int);omega)) ((.keep 26 rfl rfl))))
 have hdone:=hR.done (by omega);refine ij ?_;refine Post.bh rfl rfl ((0,0,hts,gh)) (by exact .inl ⟨rfl,oV,hdone⟩) (aF.cZ [0] [1,2,3] rfl rfl) rfl (.cons (.rt rfl) ?_ (.cons (.rt rfl) ?_ (.cons (.rt rfl) ?_ .nil)))
 · exact aa.refl _
 · exact aa.refl _
 exact aa.refl _
theorem LL(ak:dB m)(aR:fV m)(bO:m.aq[i]?=some f):bu Wo 190 [ck (bp m),af .i64 ((i:Int))] [] (γ:=Int×Int) (λg=>g.2=0↔rA m f) (λ_=>[]) (λg=>aZ [af .i64 g.1,af .i64 g.2]):=by
 refine In 18 Tryz.func190 λ_ _ _=>?_;refine cC ?_;refine .n (cE (h:=D2 ak aR bO)) rfl λqI h12=>?_;refine zE ?_;refine Post.bh rfl rfl ((qI.1,qI.2.1)) (by exact(by rcases h12 with⟨h1,h2,h3⟩|⟨h1,h2,h3⟩;exact⟨λ_=>⟨h2,_,h3⟩,λ_=>h1⟩;exact⟨λh=>absurd h h1,λh=>absurd h h2⟩)) (aF.cZ [] [0] rfl rfl) rfl (.cons (.rt rfl) ?_ (.cons (.rt rfl) ?_ .nil))
 · exact aa.refl _
 exact aa.refl _
variable {hts:List Nat}
theorem uU(ak:dB m)(aR:fV m)(bO:m.aq[i]?=some f)(dO:cN m f=some hts)(jE:nI f.Body):bu Wo 97 [ck (bp m),af .i64 ((i:Int))] [] (γ:=SB) (λ_=>True) (λg=>[aH g 1 fU hts]) (λg=>aZ [ag (bI g hts.length),af .i64 0]):=by
 refine In 18 Tryz.func97 λ_ _ _=>?_;refine cC ?_;refine .n (cE (h:=D2 ak aR bO)) rfl λqI h12=>?_;refine cC ?_;obtain⟨a12,e12,l12,Ui⟩:=qI;obtain⟨rfl,rfl⟩:(0:Int)=e12/\hts=l12:=by(rcases h12 with⟨h1,_,h3⟩|⟨h1,h2,_⟩;exact⟨h1.symm,Option.some.inj (dO.symm.trans h3)⟩;exact absurd ⟨jE,hts,dO⟩ h2)
 refine Z8 ?_;refine Post.bh rfl rfl (Ui) (by trivial) (λ_ _ _ h=>h) rfl (.cons (.rt rfl) ?_ (.cons (.rt rfl) ?_ .nil))
 · exact aa.refl _
 exact aa.refl _
theorem PX{l:List Nat}(ak:l≠[]):dF Wo 149 [ai 1 fU l] (af .i64 (((Cb l:Nat):Int))):=by
 refine In 25 Tryz.func149 λ_ _ _=>?_;refine .fact (t:=0) rfl (λS w v h=>cw h) λpX=>?_;have Ci:0<l.length:=List.length_pos_iff.2 ak;obtain⟨x0,hx0⟩:=ah (xs:=l) (k:=0) Ci;refine kL ?_;refine CT λc0=>?_;refine Z5 ?_;refine .p (cI 0 (h:=hx0)) rfl ?_;refine dh ?_;refine .bk (σ:=Nat) (λ_=>[]) (λk=>[(3,af .i64 ((Cb (l.take k):Nat):Int)),(4,af .i64 (k:Int))]) (λk=>1<=k/\k<=l.length) (λk=>l.length-k) 1 ⟨Nat.le_refl _,Ci⟩ rfl ?_ ?_
 · exact(.get rfl (aa.int (by rw[VJ hx0])) (.get rfl (aa.refl _) (.refl _ _)))
 rintro k hk;refine Z9 ?_;refine Cd (λc1=>?_) λc1=>?_
 ·
  obtain⟨x,hx⟩:=ah (xs:=l) (k:=k) (by omega);refine Z8 ?_;refine .p (cI k (h:=hx)) rfl ?_;refine dh ?_;refine .round (k+1) (by omega) (by omega) rfl ?_;exact(.get rfl (aa.int (by rw[<-bE hx,Iu];omega)) (.get rfl (aa.int (by omega)) ((.keep 16 rfl rfl))))
 have hall:l.take k=l:=List.take_of_length_le (by omega);rw[hall];refine eB ?_;refine br ?_;exact aa.refl _
theorem LM(ak:dB m)(aR:fV m)(bO:m.aq[i]?=some f)(dO:cN m f=some hts)(jE:nI f.Body):bu Wo 103 [ck (bp m),af .i64 ((i:Int))] [] (γ:=Unit) (λ_=>True) (λ_=>[]) (λ_=>af .i64 (((Cb hts:Nat):Int))):=by
 refine In 17 Tryz.func103 λ_ _ _=>?_;have hlen:=tG dO;have lD:=aR.len f (List.mem_of_getElem? bO);refine Z9 ?_;refine .n (cE (h:=uU ak aR bO dO jE)) rfl λDN h10=>?_;refine cC ?_;refine .p (cB fU [0]) rfl ?_;refine .n (gW.eC (G:=λg=>g) (l6:=λ_=>_) (xs:=λ_=>_) (aK (i:=0) FU.out FU.out FC.out rfl FZ.out rfl FY.out (.t rfl) (.t rfl) rfl (by simp only[List.length_cons,List.length_nil];omega) (by simp only[List.length_cons,List.length_nil];omega))) rfl λ_ _=>?_;refine .p (cA (h:=PX (l:=hts++[0]) (by simp))) rfl ?_;refine Z4 ?_;refine br ?_;exact aa.int (by rw[Iu,Nat.max_zero])
theorem uW(ak:dB m)(aR:fV m)(bO:m.aq[i]?=some f):dF Wo 60 [ck (bp m),af .i64 ((i:Int))] (af .i64 (((bR m f).aV.length:Int))):=by
 refine In 15 Tryz.func60 λ_ _ _=>?_;refine Z9 ?_;refine .p (cA (h:=xy ak aR bO)) rfl ?_;refine oA ?_;refine br ?_;exact aa.refl _
theorem LN(ak:fV m)(aR:m.aq.length<=60000)(bO:dK m)(dO:m.aq[i]?=some f)(jE:cN m f=some hts):bu Wo 59 [ck (bp m),af .i64 (i:Int)] [] (γ:=Nat) (λ_=>True) (λb=>[m6 b (uS m f)]) (λb=>aZ [ax b 0,af .i64 0]):=by
 refine In 90 Tryz.func59 λ_ _ _=>?_;have Ca:=(List.getElem?_eq_some_iff.1 dO).1;have rZ:=List.mem_of_getElem? dO;have hlens:=bO.1.lens;have ZT:(m.ay.length:Int)+(m.aq.length:Int)<=100:=hlens.2.2.2.2;have hlen:=tG jE;have lD:=ak.len f rZ;have hpk:=La bO rZ jE;have cd8:=Pj f.Body.L;have aj3:=SY f.Body.L;have hgd:(cN m f).getD []=hts:=by rw[jE];rfl
 refine cC ?_;refine .n (cE (h:=uU bO.1 ak dO jE (bO.2 f rZ).1)) rfl λUe Tg=>?_;refine ij ?_;refine Cd (λc0=>?_) λc0=>?_
 · exact(c0 rfl).elim
 refine Z3 ?_;refine .eC (t:=6) (i:=0) rfl rfl ?_;refine Z6 ?_;refine .p (cI i (h:=dO)) rfl ?_;refine Z9 ?_;refine .n (cE (h:=Fs (by omega) (bO.2 f rZ).1.2.2.2.1)) rfl λUc ZU=>?_;refine Cn ?_;refine .p ((cA (h:=gM (m:=m) (f:=(m.ay.length:Int)+(i:Int)))).le (aa.of_eq (show aZ [aC (bW ((eY m ((m.ay.length:Int)+(i:Int))).getD ⟨[],[]⟩)),av (eY m ((m.ay.length:Int)+(i:Int))).isSome]=aZ [aC (bW (bJ m f.fW)),av ((some (bJ m f.fW)).isSome=true)] by rw[oa bO.1 dO];rfl))) rfl ?_;refine Z3 ?_;refine .n (au FZ.out) rfl λUi _=>?_;refine Z4 ?_;refine .share (t:=12) (i:=0) rfl rfl ?_;refine Z8 ?_;refine .n (o8 (JT .i64 .i64) (λj=>aC (lV j))) rfl λm60 _=>?_;refine .n (o8 (Value.int .i64) fP) rfl λm61 _=>?_;refine .n (o8 (Value.int .i64) fP) rfl λm62 _=>?_;refine Z1 ?_;refine .n (cc (.t rfl)) rfl λb64 _=>?_;refine Z7 ?_;refine .own (hs':=qf ⟨b64,m60,m61,m62⟩ [] [] [] none []) (aF.trans (AA (n:=2) (enc:=y6)) (aF.perm (Perm.idx [1,4,3,2,0] rfl rfl))) ?_;refine Z7 ?_;refine .bk (σ:=Nat×List (Int×Int)×SB×List dX) (λr=>qf ⟨b64,m60,m61,m62⟩ (qe f.Body.L hts (bJ m f.fW).R.length (lS f.Body.L) r.1) r.2.1 [] r.2.2.1 r.2.2.2) (λr=>[(69,af .i64 (r.1:Int))]) (λr=>r.1<=f.Body.L.length/\r.2.2.2.length<=100000*r.1) (λr=>f.Body.L.length-r.1) (0,[],none,[]) ⟨Nat.zero_le _,Nat.zero_le _⟩ rfl ?_ ?_
 · exact(.get rfl (aa.refl _) (.refl _ _))
 rintro⟨j,C,go,o⟩ hj;simp only at hj ⊢;refine Z6 ?_;refine Cd (λc1=>?_) λc1=>?_
 ·
  obtain⟨y,hy⟩:=ah (xs:=f.Body.L) (k:=j) (by omega);have hym:=List.mem_of_getElem? hy;refine kL ?_;refine .n (cE (h:=CU (I:=⟨b64,m60,m61,m62⟩) (at_:=j) (y:=y) hlen (by omega) (by omega) aj3 (by omega) hy (ak.ins f rZ y hym) (Pp bO ak rZ hym) (by omega))) rfl λg74 h74=>?_;refine Z7 ?_;refine .round (j+1,g74) (by have h9:=h74;simp only at h9 ⊢;omega) (by show f.Body.L.length-(j+1)<f.Body.L.length-j;omega) (by simp only[S7 hy];try rfl) ?_;exact(.get rfl (aa.int (by show(_:Int)=((j+1:Nat):Int);omega)) ((.keep 9 rfl rfl)))
 have hje:j=f.Body.L.length:=by omega
 subst hje;refine ij ?_;refine .bk (σ:=Nat) (λn=>qf ⟨b64,m60,m61,m62⟩ (qe f.Body.L hts (bJ m f.fW).R.length (lS f.Body.L) f.Body.L.length) C (yq f.Body.L (lS f.Body.L) n) go o) (λn=>[(78,af .i64 (n:Int))]) (λn=>n<=(lS f.Body.L).length) (λn=>(lS f.Body.L).length-n) 0 (Nat.zero_le _) rfl ?_ ?_
 · exact(.get rfl (aa.refl _) (.refl _ _))
 rintro n hn;refine Z6 ?_;refine Cd (λc2=>?_) λc2=>?_
 ·
  obtain⟨x,hx⟩:=ah (xs:=(lS f.Body.L)) (k:=n) (by omega);refine Z6 ?_;refine .p (cI n (h:=hx)) rfl ?_;refine Z1 ?_;refine .n (au FZ.out) rfl λb17 _=>?_;refine Z3 ?_;refine .share (t:=17) (i:=0) rfl rfl ?_;refine Z3 ?_;refine .n (cE (h:=Ft (I:=⟨b64,m60,m61,m62⟩) (aj3 x (List.mem_of_getElem? hx)) (by omega))) rfl λg84 h84=>?_;refine Z7 ?_;refine .round (n+1) (by omega) (by omega) (by simp only[S8 hx];try rfl) ?_;exact(.get rfl (aa.int (by omega)) ((.keep 11 rfl rfl)))
 have hne:n=(lS f.Body.L).length:=by omega
 subst hne;refine Cm ?_;refine Post.bh rfl rfl (b64) (by trivial) (Fb rfl (by show qe _ ((cN m f).getD []) _ _ _=_;rw[hgd]) rfl) rfl (.cons (.rt rfl) ?_ (.cons (.rt rfl) ?_ .nil))
 · exact aa.refl _
 exact aa.refl _
theorem PY(ak:fV m)(aR:m.aq.length<=60000):bu Wo 125 [ck (bp m)] [] (γ:=List (List UInt8×Int×Int×Int)) (λl=>l=[]↔dK m) (λ_=>[]) (λl=>ai 4 rG l):=by
 refine In 45 Tryz.func125 λ_ _ _=>?_;refine Z9 ?_;refine .p (cA (h:=HV (m:=m))) rfl ?_;refine kL ?_;refine Cd (λc0=>?_) λc0=>?_
 ·
  have hnv:¬dK m:=λh=>c0 (ze h.1);refine Z5 ?_;refine .p (cB rG [((vE m).1,-1,0,(vE m).2)]) rfl ?_;refine Z5 ?_;refine Post.aS rfl ([((vE m).1,-1,0,(vE m).2)]) (by exact⟨λh=>absurd h (by simp),λh=>absurd h hnv⟩) (λ_ _ _ h=>h) (.rt rfl) ?_;exact aa.refl _
 have hfits:dB m:=NB.1 (Classical.not_not.1 c0);refine Z9 ?_;refine .fO 4 rG ?_;refine cC ?_;refine .bk (σ:=Nat×SB×List (List UInt8×Int×Int×Int)) (λg=>[aH g.2.1 4 rG g.2.2]) (λg=>[(5,ag (bI g.2.1 g.2.2.length)),(25,af .i64 (g.1:Int))]) (λg=>g.1<=m.aq.length/\g.2.2.length<=g.1/\(g.2.2=[]↔∀f∈m.aq.take g.1,rA m f)) (λg=>m.aq.length-g.1) (0,none,[]) ⟨Nat.zero_le _,Nat.le_refl _,by simp⟩ rfl ?_ ?_
 · exact(.get rfl (aa.of_eq rfl) (.get rfl (aa.refl _) (.refl _ _)))
 rintro⟨j,gl,l⟩ ⟨hj,O3,hv⟩;simp only at hj O3 hv ⊢;refine Z6 ?_;refine Cd (λc1=>?_) λc1=>?_
 ·
  obtain⟨f,hf⟩:=ah (xs:=m.aq) (k:=j) (by omega);refine ij ?_;refine .n (cE (h:=LL hfits ak hf)) rfl λPV Y6=>?_;refine kL ?_;refine Cd (λc2=>?_) λc2=>?_
  ·
   refine Z5 ?_;refine .p (aL FP.out FZ.out (.cons (.s [102,117,110,99] rfl rfl) (.cons (.t rfl) (.cons (.t rfl) (.cons (.t rfl) .nil)))) rfl) rfl ?_;refine .p (cB rG [([102,117,110,99],(j:Int),PV.1,PV.2)]) rfl ?_;refine .n (aK (i:=0) FU.out FU.out FC.out rfl FZ.out rfl FY.out (.t rfl) (.t rfl) rfl (by simp only[List.length_cons,List.length_nil];omega) (by simp only[List.length_cons,List.length_nil];omega)) rfl λTd _=>?_;refine Z8 ?_;refine .round (j+1,Td,l++[([102,117,110,99],(j:Int),PV.1,PV.2)]) ⟨by show j+1<=_;omega,by(show(l++[_]).length<=j+1;rw[List.length_append];simp only[List.length_cons,List.length_nil];omega),⟨λh=>absurd h (by simp),λh=>absurd (Y6.2 (h f (by rw[<-bE hf];simp))) c2⟩⟩ (by show m.aq.length-(j+1)<m.aq.length-j;omega) rfl ?_;exact(.get rfl (aa.refl _) (.get rfl (aa.int (by show(_:Int)=((j+1:Nat):Int);omega)) ((.keep 25 rfl rfl))))
  refine Z7 ?_;refine .round (j+1,gl,l) ⟨by show j+1<=_;omega,by(show l.length<=j+1;omega),by(show l=[]↔_;rw[hv,<-bE hf];have h9:=Y6.1 (Classical.not_not.1 c2);constructor;intro h g hg;rcases List.mem_append.1 hg with hg|hg;exact h g hg;(simp only[List.mem_singleton] at hg;subst hg;exact h9);intro h g hg;exact h g (List.mem_append_left _ hg))⟩ (by show m.aq.length-(j+1)<m.aq.length-j;omega) rfl ?_;exact(.get rfl (aa.refl _) (.get rfl (aa.int (by show(_:Int)=((j+1:Nat):Int);omega)) ((.keep 17 rfl rfl))))
 have hall:m.aq.take j=m.aq:=List.take_of_length_le (by omega);rw[hall] at hv;refine .eC (t:=5) (i:=0) (g:=gl) (xs:=l) rfl rfl ?_;refine eB ?_;refine Post.aS rfl (l) (by exact⟨λh=>⟨hfits,hv.1 h⟩,λh=>hv.2 h.2⟩) (λ_ _ _ h=>h) (.rt rfl) ?_;exact aa.refl _
theorem I4(ak:fV m)(aR:m.aq.length<=60000):bu Wo 80 [ck (bp m)] [] (γ:=List UInt8×Int×Int×Int) (λ_=>True) (λ_=>[]) (λy=>aZ [aC (rG y),av (¬dK m)]):=by
 refine In 14 Tryz.func80 λ_ _ _=>?_;refine Z2 ?_;refine .n (au FZ.out) rfl λb2 _=>?_;refine Z6 ?_;refine .n (cE (h:=PY ak aR)) rfl λg6 h6=>?_;refine dh ?_;refine Cd (λc0=>?_) λc0=>?_
 ·
  have hv:dK m:=h6.1 (List.eq_nil_of_length_eq_zero (by omega));refine Z9 ?_;refine Post.bh rfl rfl (([],0,0,0)) (by trivial) (aF.cZ [] [0] rfl rfl) rfl (.cons (.ra (i:=0) FA.out FC.out rfl rfl rfl rfl) ?_ (.cons (.rt rfl) ?_ .nil))
  · exact aa.agg (.cons sC (.cons (aa.refl _) (.cons (aa.refl _) (.cons (aa.refl _) .nil))))
  exact aa.prop ⟨λh=>h.elim,λh=>absurd hv h⟩
 have hne:g6≠[]:=λe=>c0 (by rw[e];rfl);have hv:¬dK m:=λh=>hne (h6.2 h);obtain⟨y,hy⟩:=ah (xs:=g6) (k:=0) (List.length_pos_iff.2 hne);refine Z5 ?_;refine .p (cI 0 (h:=hy)) rfl ?_;refine Z6 ?_;refine Post.bh rfl rfl (y) (by trivial) (aF.cZ [] [0] rfl rfl) rfl (.cons (.ra (i:=0) FA.out FC.out rfl rfl rfl rfl) ?_ (.cons (.rt rfl) ?_ .nil))
 · exact aa.refl _
 exact aa.prop ⟨λ_=>hv,λ_=>trivial⟩
theorem B5(ak:fV m)(aR:m.aq.length<=60000):bu Wo 42 [ck (bp m)] [] (γ:=Unit) (λ_=>True) (λ_=>[]) (λ_=>av (dK m)):=by
 refine In 12 Tryz.func42 λ_ _ _=>?_;refine Z8 ?_;refine .n (cE (h:=I4 ak aR)) rfl λg7 h7=>?_;refine Z3 ?_;refine .n (au FZ.out) rfl λb3 _=>?_;refine Z4 ?_;refine .share (t:=3) (i:=0) rfl rfl ?_;refine Z8 ?_;refine br ?_;exact aa.prop Classical.not_not
theorem PZ{n:Int}(ak:fV m)(aR:m.aq.length<=60000):bu Wo 102 [ck (bp m),af .i64 (n)] [] (γ:=Unit) (λ_=>True) (λ_=>[]) (λ_=>av ((dK m/\0<=n)/\n<(m.aq.length:Int))):=by
 refine In 20 Tryz.func102 λ_ _ _=>?_;refine Z8 ?_;refine .n (cE (h:=B5 ak aR)) rfl λg6 h6=>?_;refine Dh ?_;refine br ?_;exact aa.refl _
theorem LO(ak:fV m)(aR:m.aq.length<=60000)(bO:dK m)(dO:m.aq[i]?=some f)(jE:cN m f=some hts):bu Wo 61 [ck (bp m),af .i64 ((i:Int))] [] (γ:=Unit) (λ_=>True) (λ_=>[]) (λ_=>af .i64 (y5 m f hts)):=by
 refine In 34 Tryz.func61 λ_ _ _=>?_;have Ca:=(List.getElem?_eq_some_iff.1 dO).1;have rZ:=List.mem_of_getElem? dO;have hlens:=bO.1.lens;have ZT:(m.ay.length:Int)+(m.aq.length:Int)<=100:=hlens.2.2.2.2;have kR:=tG jE;have lD:=ak.len f rZ;have m8:=La bO rZ jE;have l6:=bO.1.Co _ (gL (jO bO.1 rZ)).2;have m9:=ak.loc f rZ;have nc:(bR m f).aV.length=(bJ m f.fW).P.length+f.Body.aV.length:=List.length_append;refine cC ?_;refine .p (cA (h:=PZ ak aR)) rfl ?_;refine Z3 ?_;refine Cd (λc0=>?_) λc0=>?_
 · exact absurd ⟨⟨bO,by omega⟩,by omega⟩ c0
 refine eB ?_;refine .p ((cA (h:=gM (m:=m) (f:=(m.ay.length:Int)+(i:Int)))).le (aa.of_eq (show aZ [aC (bW ((eY m ((m.ay.length:Int)+(i:Int))).getD ⟨[],[]⟩)),av (eY m ((m.ay.length:Int)+(i:Int))).isSome]=aZ [aC (bW (bJ m f.fW)),av ((some (bJ m f.fW)).isSome=true)] by rw[oa bO.1 dO];rfl))) rfl ?_;refine Z3 ?_;refine .n (au FZ.out) rfl λb5 _=>?_;refine Z4 ?_;refine .share (t:=5) (i:=0) rfl rfl ?_;refine Z1 ?_;refine .bL 10 2 FM.out (by kernel_rfl) (k:= ?_);refine Z2 ?_;refine .p (cA (h:=uW bO.1 ak dO)) ?_;refine Z2 ?_;refine .p (cA (h:=LM bO.1 ak dO jE (bO.2 f rZ).1)) ?_;refine cC ?_;refine br ?_;exact aa.refl _
variable {A:qE} {cells:Nat} {frames:Nat} {c:bM}
theorem I5(ak:fV m)(aR:m.aq.length<=60000)(bO:dK m):bu Wo 27 [ax A.sb 0] [aX A (runK m cells frames) c] (γ:=List Nat) (λbs=>bs.length=(runK m cells frames).own.length) (λbs=>[aX A (runK m cells frames) c,eU ((runK m cells frames).own.zip bs)]) (λbs=>ai 7 pQ ((runK m cells frames).own.zip bs)):=by
 refine In 57 Tryz.func27 λ_ _ _=>?_;have hlens:=bO.1.lens;have ZT:(m.ay.length:Int)+(m.aq.length:Int)<=100:=hlens.2.2.2.2;have hon:(runK m cells frames).own.length=m.aq.length:=iM;refine Z8 ?_;refine .n ((cE (h:=mH (K:=(runK m cells frames)))).same (λ_ _=>aF.refl _) (λ_ _=>aa.refl _)) rfl λ_ _=>?_;refine .p ((bf (.t rfl)).le ((show aa (ck (bp (runK m cells frames).m)) (ck (bp m)) from aa.refl _))) rfl ?_;refine Z9 ?_;refine .own (aF.trans (AA (n:=7) (enc:=pQ)) (aF.trans OZ (aF.perm (Perm.idx [2,1,0] rfl rfl)))) ?_;refine cC ?_;refine .bk (σ:=Nat×SB×List Nat) (λr=>[aX A (runK m cells frames) c,aH r.2.1 7 pQ (((runK m cells frames).own.take r.1).zip r.2.2),eU (((runK m cells frames).own.take r.1).zip r.2.2)]) (λr=>[(4,ag (bI r.2.1 (((runK m cells frames).own.take r.1).zip r.2.2).length)),(18,af .i64 (r.1:Int))]) (λr=>r.1<=m.aq.length/\r.2.2.length=r.1) (λr=>m.aq.length-r.1) (0,none,[]) ⟨Nat.zero_le _,rfl⟩ rfl ?_ ?_
 · exact(.get rfl (aa.of_eq rfl) (.get rfl (aa.refl _) (.refl _ _)))
 rintro⟨i,gl,bs⟩ hi;simp only at hi ⊢;refine Z6 ?_;refine Cd (λc0=>?_) λc0=>?_
 ·
  obtain⟨f,hf⟩:=ah (xs:=m.aq) (k:=i) (by omega);have rZ:=List.mem_of_getElem? hf;obtain⟨hts,hh⟩:=(bO.2 f rZ).2;have hown:(runK m cells frames).own[i]?=some (uS m f):=by(show(m.aq.map (uS m))[i]?=_;rw[List.getElem?_map,hf];rfl)
  have hzl:(((runK m cells frames).own.take i).zip bs).length=i:=by(rw[List.length_zip,List.length_take];omega)
  have hneed:y5 m f hts=(uS m f).nK:=by(show _=y5 m f ((cN m f).getD []);rw[hh];rfl)
  refine Z7 ?_;refine .p (cI i (h:=hf)) rfl ?_;refine Z1 ?_;refine .n (au FZ.out) rfl λb6 _=>?_;refine Z4 ?_;refine .share (t:=6) (i:=0) rfl rfl ?_;refine Z4 ?_;refine .n (cE (h:=LN ak aR bO hf hh)) rfl λIF Px=>?_;refine Dh ?_;refine .p ((cA (h:=gM (m:=m) (f:=(m.ay.length:Int)+(i:Int)))).le (aa.of_eq (show aZ [aC (bW ((eY m ((m.ay.length:Int)+(i:Int))).getD ⟨[],[]⟩)),av (eY m ((m.ay.length:Int)+(i:Int))).isSome]=aZ [aC (bW (bJ m f.fW)),av ((some (bJ m f.fW)).isSome=true)] by rw[oa bO.1 hf];rfl))) rfl ?_;refine Z3 ?_;refine .n (au FZ.out) rfl λb9 _=>?_;refine Z4 ?_;refine .share (t:=9) (i:=0) rfl rfl ?_;refine .bL 13 2 FM.out (by kernel_rfl) (k:= ?_);refine Z7 ?_;refine .p (cA (h:=uW bO.1 ak hf)) ?_;refine Z2 ?_;refine .p ((cA (h:=LO ak aR bO hf hh)).le (aa.int hneed)) ?_;refine Z1 ?_;refine .p (cB pQ [(uS m f,IF)]) ?_;refine Z1 ?_;refine .n (aK (i:=2) FU.out FU.out FC.out rfl FZ.out rfl FY.out (.t rfl) (.t rfl) rfl (by rw[hzl];simp only[List.length_cons,List.length_nil];omega) (by rw[hzl];simp only[List.length_cons,List.length_nil];omega)) rfl λXg _=>?_;refine Z4 ?_;refine .own (aF.trans (aF.perm (Perm.idx [0,3,1,2] rfl rfl)) (aF.trans (OY (x:=(uS m f,IF))) (aF.perm (Perm.idx [1,2,0] rfl rfl)))) ?_;refine Z4 ?_;refine .round (i+1,Xg,bs++[IF]) (by simp only[List.length_append,List.length_cons,List.length_nil];omega) (by show m.aq.length-(i+1)<m.aq.length-i;omega) (by simp only[Nw hown hi.2];try rfl) ?_;exact(.get rfl (aa.of_eq (by simp only[Nw hown hi.2])) (.get rfl (aa.int (by show(_:Int)=((i+1:Nat):Int);omega)) ((.keep 49 rfl rfl))))
 have hie:i=m.aq.length:=by omega
 subst hie;have hall:(runK m cells frames).own.take m.aq.length=(runK m cells frames).own:=List.take_of_length_le (by omega);rw[hall];refine dh ?_;refine .eC (t:=2) (i:=1) rfl rfl ?_;refine Z1 ?_;refine Post.aS rfl (bs) (by omega) (λ_ _ _ h=>h) (.rt rfl) ?_;exact aa.refl _
variable {b:Nat} {F:Nat} {s:jD}
theorem I6(ak:fV m)(aR:m.aq.length<=60000)(bO:dK m):bu Wo 26 [ck [ax b 0]] [az b ((KH A (runK m cells frames) ⟨b,F,none,False⟩ s).set 7 (af .i32 1)),aX A (runK m cells frames) c] (γ:=List Nat) (λbs=>bs.length=(runK m cells frames).own.length) (λbs=>[az b (((KH A (runK m cells frames) (mE b F bs) s).set 6 (af .u32 0)).set 7 (af .i32 1)),sM [aX A (runK m cells frames) c,eU ((runK m cells frames).own.zip bs)]]) (λ_=>aZ []):=by
 refine In 9 Tryz.func26 λ_ _ _=>?_;refine .bt [(0,0),(1,0),(2,0),(3,0),(4,1),(5,2)] 6 3 FM.out (by kernel_rfl) (k:= ?_);refine Z5 ?_;refine .e rfl (hH [_] [1,0] (h:=I5 (A:=A) (c:=c) ak aR bO (cells:=cells) (frames:=frames))) λg6 h6=>?_;refine .fin ?_;refine Z4 ?_;refine Post.cY rfl (g6) (by exact h6) (aF.trans (aF.perm (Perm.idx [2,0,1] rfl rfl)) (aF.cons _ (aF.pack (l:=[aX A (runK m cells frames) c,eU ((runK m cells frames).own.zip g6)]) (r:=[])))) rfl
theorem zf{f:Nat}{args:List Nat}(ak:oe A (runK m cells frames))(aR:fV m)(bO:m.aq.length<=60000)(dO:dK m)(jE:m.cP=[])(sx:s.fault=0)(Ce:s.waits=false)(DZ:f<m.ay.length+m.aq.length)(QK:args.length=((runK m cells frames).sig f).P.length)(PL:qK (runK m cells frames) c)(P0:∀v∈args,v<18446744073709551616)(P1:F+s.bB<=1000000):bu Wo 9 [ax b 0,nV f,ai 1 ia args] [dZ A (runK m cells frames) ⟨b,F,none,False⟩ s,aX A (runK m cells frames) c,nt 1 .u8 Lib.deBruijn64tab] (γ:=Nat×List Nat) (λr=>r.2.length=(runK m cells frames).own.length/\(bl (runK m cells frames) 64 r.1 (bx (runK m cells frames) F f args (s,c))).1.over=true) (λr=>[dZ A (runK m cells frames) (mE b F r.2) {(bl (runK m cells frames) 64 r.1 (bx (runK m cells frames) F f args (s,c))).1 with over:=false},aX A (runK m cells frames) (bl (runK m cells frames) 64 r.1 (bx (runK m cells frames) F f args (s,c))).2,eU ((runK m cells frames).own.zip r.2),nt 1 .u8 Lib.deBruijn64tab]) (λr=>aZ [aC (kr (bl (runK m cells frames) 64 r.1 (bx (runK m cells frames) F f args (s,c))).1.out),af .i64 0]):=by
 refine In 77 Tryz.func9 λ_ _ _=>?_;have LP:=kok (cells:=cells) (frames:=frames) dO aR;have QE:(eY m (f:Int)).getD ⟨[],[]⟩=(runK m cells frames).sig f:=LP.sg f;have hon:(runK m cells frames).own.length=m.aq.length:=iM;have Gm:=(LP.sl f).1;have aN0:=ak.cells;refine Z3 ?_;refine .n (au FZ.out) rfl λb6 _=>?_;refine Z7 ?_;refine .n ((hH [_,_] [1,2,0,3] (h:=tC (K:=(runK m cells frames)) (E:=⟨b,F,none,False⟩) (m:=s) (c:=c) (A:=A) (λh=>h))).same (λ_ _=>aF.perm (Perm.idx [2,0,1,3] rfl rfl)) (λ_ _=>aa.refl _)) rfl λ_ _=>?_;refine Z8 ?_;refine Cd (λc0=>?_) λc0=>?_
 · exfalso;rcases c0 with h|h;exact h sx;rw[Ce] at h;exact h
 refine Z8 ?_;refine .n ((hH [_,_,_] [2,0,1,3] (h:=mH (K:=(runK m cells frames)))).same (λ_ _=>aF.perm (Perm.idx [1,2,0,3] rfl rfl)) (λ_ _=>aa.refl _)) rfl λ_ _=>?_;refine Z1 ?_;refine .p (cA (h:=gM (m:=m) (f:=(f:Int)))) rfl ?_;refine Z1 ?_;refine .p ((dW (.t rfl) rfl).le (aa.of_eq (by rw[QE]))) rfl ?_;refine Z1 ?_;refine .n (au FZ.out) rfl λb8 _=>?_;refine Z4 ?_;refine .share (t:=8) (i:=0) rfl rfl ?_;refine Z9 ?_;refine Cd (λc1=>?_) λc1=>?_
 · exact(c1 ((LP.si f).2 (by rw[hon];show 0<=(f:Int)/\(f:Int)<(m.ay.length:Int)+_;omega))).elim
 refine dh ?_;refine CT λc2=>?_;refine Z8 ?_;refine .p (qY (.cons (.t rfl) .nil)) rfl ?_;refine .n (hH [_,_] [1,2,0,3] (h:=Ih (b:=b) (off:=6) (cs:=KH A (runK m cells frames) ⟨b,F,none,False⟩ s) (hs:=aX A (runK m cells frames) c) (T7:=λbs=>(((KH A (runK m cells frames) (mE b F bs) s).set 6 (af .u32 0)).set 7 (af .i32 1))) (qR:=λbs=>sM [aX A (runK m cells frames) c,eU ((runK m cells frames).own.zip bs)]) rfl rfl (λg hg=>⟨rfl,rfl⟩) FB.out (I6 aR bO dO))) rfl λQD h46=>?_;refine Z2 ?_;refine .own (aF.trans (aF.GG (show _=dZ A (runK m cells frames) (mE b F QD) s from rfl)) (aF.cons _ (aF.unpack (l:=[aX A (runK m cells frames) c,eU ((runK m cells frames).own.zip QD)])))) ?_;refine Z1 ?_;refine .bt [(0,0),(1,0),(2,0),(3,0),(4,0),(5,0),(6,1),(7,0),(8,0),(9,3)] 10 3 FM.out (by kernel_rfl) (k:= ?_);refine Z9 ?_;refine .s rfl (jf (i:=0) FC.out (.t rfl) (.t rfl) rfl rfl) ?_;refine .fin ?_;refine Z5 ?_;refine .own (aF.GG (show _=dZ A (runK m cells frames) (mE b F QD) {s with fuel:=F,over:=false} from rfl)) ?_;refine Z2 ?_;refine .bL 8 2 FM.out (by kernel_rfl) (k:= ?_);refine Z7 ?_;refine .p (cA (h:=DS (L:=(runK m cells frames).sig f|>.P) (l:=args) (by omega) (by omega) (LP.st f).1 P0)) ?_;refine Z1 ?_;refine .n (hH [_,_,_,_] [1,0,2,3,4] (h:=vH ak (l:=(ej ((runK m cells frames).sig f).P args)) (Nk P0))) rfl λy9 W1=>?_;refine Z9 ?_;refine Cd (λc3=>?_) λc3=>?_
 ·
  have hfit:¬(ej ((runK m cells frames).sig f).P args).length<=(runK m cells frames).cells-c.stk.length:=λh=>c3 (if_pos h);have Ck:fk (runK m cells frames) (ej ((runK m cells frames).sig f).P args) c=c:=if_neg hfit;have hB:(bx (runK m cells frames) F f args (s,c))=nL 11 ({s with fuel:=F,over:=false},c):=if_pos (show(runK m cells frames).cells-c.stk.length<(ej ((runK m cells frames).sig f).P args).length by omega);rw[Ck];refine Z2 ?_;refine .p ((gu (.t rfl)).le (aa.int (show _=((11:Nat):Int) by rw[if_neg hfit];rfl))) rfl ?_;refine .n (hH [_,_,_] [1,0,2,3,4] (h:=kW (K:=(runK m cells frames)) (E:=mE b F QD) (m:={s with fuel:=F,over:=false}) (c:=c) (e:=11) ak)) rfl λg71 h71=>?_;refine Z2 ?_;rw[<-hB];refine Z3 ?_;refine .n (hH [_] [0,1,2,4,3] (h:=rP (m:=(bx (runK m cells frames) F f args (s,c)).1) (c:=(bx (runK m cells frames) F f args (s,c)).2) (Z:=64) ak LP h46 (uy PL (by rw[hon];exact DZ) args) (by rw[(eJ F f args (s,c)).1,(eJ F f args (s,c)).2];exact P1) (VO dO aR jE) (xo dO) iM)) rfl λV3 V4=>?_;refine .s (dQ (i:=4) FC.out rfl (.t rfl) (.t rfl) rfl rfl rfl) ?_;refine Z4 ?_;refine Post.bh rfl rfl ((V3,QD)) (by exact⟨h46,V4⟩) (aF.cZ [0,1,2,3] [4] rfl rfl) rfl (.cons (.ra (i:=4) FA.out FC.out rfl rfl rfl rfl) ?_ (.cons (.rt rfl) ?_ .nil))
  · exact aa.refl _
  exact aa.refl _
 have hfit:(ej ((runK m cells frames).sig f).P args).length<=(runK m cells frames).cells-c.stk.length:=by(by_cases h:(ej ((runK m cells frames).sig f).P args).length<=(runK m cells frames).cells-c.stk.length;exact h;exact absurd (show(11:Int)≠0 by decide) (λh9=>c3 (by rw[if_neg h];exact h9)))
 have Ck:fk (runK m cells frames) (ej ((runK m cells frames).sig f).P args) c={c with stk:=c.stk++(ej ((runK m cells frames).sig f).P args)}:=if_pos hfit;have hB:(bx (runK m cells frames) F f args (s,c))=iL (runK m cells frames) f ({s with fuel:=F,over:=false},{c with stk:=c.stk++(ej ((runK m cells frames).sig f).P args)}):=if_neg (show ¬(runK m cells frames).cells-c.stk.length<(ej ((runK m cells frames).sig f).P args).length by omega);rw[Ck];refine Z3 ?_;refine .n (hH [_,_,_] [1,0,2,3,4] (h:=pS (m:={s with fuel:=F,over:=false}) (c:={c with stk:=c.stk++(ej ((runK m cells frames).sig f).P args)}) ak LP h46 (f:=f) (by rw[hon];exact DZ))) rfl λg74 h74=>?_;refine Z2 ?_;rw[<-hB];refine Z3 ?_;refine .n (hH [_] [0,1,2,4,3] (h:=rP (m:=(bx (runK m cells frames) F f args (s,c)).1) (c:=(bx (runK m cells frames) F f args (s,c)).2) (Z:=64) ak LP h46 (uy PL (by rw[hon];exact DZ) args) (by rw[(eJ F f args (s,c)).1,(eJ F f args (s,c)).2];exact P1) (VO dO aR jE) (xo dO) iM)) rfl λV3 V4=>?_;refine .s (dQ (i:=4) FC.out rfl (.t rfl) (.t rfl) rfl rfl rfl) ?_;refine Z4 ?_;refine Post.bh rfl rfl ((V3,QD)) (by exact⟨h46,V4⟩) (aF.cZ [0,1,2,3] [4] rfl rfl) rfl (.cons (.ra (i:=4) FA.out FC.out rfl rfl rfl rfl) ?_ (.cons (.rt rfl) ?_ .nil))
 · exact aa.refl _
 exact aa.refl _
theorem I7{bs:List Nat}{f:Nat}{args:List Nat}(ak:oe A (runK m cells frames))(aR:fV m)(bO:m.aq.length<=60000)(dO:dK m)(jE:m.cP=[])(sx:s.fault=0)(Ce:s.waits=false)(DZ:f<m.ay.length+m.aq.length)(QK:args.length=((runK m cells frames).sig f).P.length)(PL:qK (runK m cells frames) c)(P0:∀v∈args,v<18446744073709551616)(P1:F+s.bB<=1000000)(Zb:bs.length=(runK m cells frames).own.length):bu Wo 9 [ax b 0,nV f,ai 1 ia args] [dZ A (runK m cells frames) (mE b F bs) s,aX A (runK m cells frames) c,eU ((runK m cells frames).own.zip bs),nt 1 .u8 Lib.deBruijn64tab] (γ:=Nat) (λn=>(bl (runK m cells frames) 64 n (bx (runK m cells frames) F f args (s,c))).1.over=true) (λn=>[dZ A (runK m cells frames) (mE b F bs) {(bl (runK m cells frames) 64 n (bx (runK m cells frames) F f args (s,c))).1 with over:=false},aX A (runK m cells frames) (bl (runK m cells frames) 64 n (bx (runK m cells frames) F f args (s,c))).2,eU ((runK m cells frames).own.zip bs),nt 1 .u8 Lib.deBruijn64tab]) (λn=>aZ [aC (kr (bl (runK m cells frames) 64 n (bx (runK m cells frames) F f args (s,c))).1.out),af .i64 0]):=by
 refine In 77 Tryz.func9 λ_ _ _=>?_;have LP:=kok (cells:=cells) (frames:=frames) dO aR;have QE:(eY m (f:Int)).getD ⟨[],[]⟩=(runK m cells frames).sig f:=LP.sg f;have hon:(runK m cells frames).own.length=m.aq.length:=iM;have Gm:=(LP.sl f).1;have aN0:=ak.cells;refine Z3 ?_;refine .n (au FZ.out) rfl λb6 _=>?_;refine Z7 ?_;refine .n ((hH [_,_,_] [1,2,0,3,4] (h:=tC (K:=(runK m cells frames)) (E:=(mE b F bs)) (m:=s) (c:=c) (A:=A) (λh=>h))).same (λ_ _=>aF.perm (Perm.idx [2,0,1,3,4] rfl rfl)) (λ_ _=>aa.refl _)) rfl λ_ _=>?_;refine Z8 ?_;refine Cd (λc0=>?_) λc0=>?_
 · exfalso;rcases c0 with h|h;exact h sx;rw[Ce] at h;exact h
 refine Z8 ?_;refine .n ((hH [_,_,_,_] [2,0,1,3,4] (h:=mH (K:=(runK m cells frames)))).same (λ_ _=>aF.perm (Perm.idx [1,2,0,3,4] rfl rfl)) (λ_ _=>aa.refl _)) rfl λ_ _=>?_;refine Z1 ?_;refine .p (cA (h:=gM (m:=m) (f:=(f:Int)))) rfl ?_;refine Z1 ?_;refine .p ((dW (.t rfl) rfl).le (aa.of_eq (by rw[QE]))) rfl ?_;refine Z1 ?_;refine .n (au FZ.out) rfl λb8 _=>?_;refine Z4 ?_;refine .share (t:=8) (i:=0) rfl rfl ?_;refine Z9 ?_;refine Cd (λc1=>?_) λc1=>?_
 · exact(c1 ((LP.si f).2 (by rw[hon];show 0<=(f:Int)/\(f:Int)<(m.ay.length:Int)+_;omega))).elim
 refine dh ?_;refine CT λc2=>?_;refine Z8 ?_;refine .p (qY (.cons (.t rfl) .nil)) rfl ?_;refine .n ((hH [_,_,_,_] [1,0,2,3,4] (h:=CH (b:=b) (off:=6) (cs:=KH A (runK m cells frames) (mE b F bs) s) (n:=1) rfl (by decide))).same (λ_ _=>aF.perm (Perm.idx [1,0,2,3,4] rfl rfl)) (λ_ _=>aa.refl _)) rfl λ_ _=>?_;refine Z3 ?_;refine .bt [(0,0),(1,0),(2,0),(3,0),(4,0),(5,0),(6,1),(7,0),(8,0),(9,3)] 10 3 FM.out (by kernel_rfl) (k:= ?_);refine Z9 ?_;refine .s rfl (jf (i:=1) FC.out (.t rfl) (.t rfl) rfl rfl) ?_;refine .fin ?_;refine Z5 ?_;refine .own (aF.cons _ (aF.GG (show _=dZ A (runK m cells frames) (mE b F bs) {s with fuel:=F,over:=false} from rfl))) ?_;refine Z2 ?_;refine .bL 8 2 FM.out (by kernel_rfl) (k:= ?_);refine Z7 ?_;refine .p (cA (h:=DS (L:=(runK m cells frames).sig f|>.P) (l:=args) (by omega) (by omega) (LP.st f).1 P0)) ?_;refine Z1 ?_;refine .n (hH [_,_,_,_] [2,0,1,3,4] (h:=vH ak (l:=(ej ((runK m cells frames).sig f).P args)) (Nk P0))) rfl λy9 W1=>?_;refine Z9 ?_;refine Cd (λc3=>?_) λc3=>?_
 ·
  have hfit:¬(ej ((runK m cells frames).sig f).P args).length<=(runK m cells frames).cells-c.stk.length:=λh=>c3 (if_pos h);have Ck:fk (runK m cells frames) (ej ((runK m cells frames).sig f).P args) c=c:=if_neg hfit;have hB:(bx (runK m cells frames) F f args (s,c))=nL 11 ({s with fuel:=F,over:=false},c):=if_pos (show(runK m cells frames).cells-c.stk.length<(ej ((runK m cells frames).sig f).P args).length by omega);rw[Ck];refine Z2 ?_;refine .p ((gu (.t rfl)).le (aa.int (show _=((11:Nat):Int) by rw[if_neg hfit];rfl))) rfl ?_;refine .n (hH [_,_,_] [2,0,1,3,4] (h:=kW (K:=(runK m cells frames)) (E:=mE b F bs) (m:={s with fuel:=F,over:=false}) (c:=c) (e:=11) ak)) rfl λg71 h71=>?_;refine Z2 ?_;rw[<-hB];refine Z3 ?_;refine .n (hH [_] [0,1,3,4,2] (h:=rP (m:=(bx (runK m cells frames) F f args (s,c)).1) (c:=(bx (runK m cells frames) F f args (s,c)).2) (Z:=64) ak LP Zb (uy PL (by rw[hon];exact DZ) args) (by rw[(eJ F f args (s,c)).1,(eJ F f args (s,c)).2];exact P1) (VO dO aR jE) (xo dO) iM)) rfl λV3 V4=>?_;refine .s (dQ (i:=4) FC.out rfl (.t rfl) (.t rfl) rfl rfl rfl) ?_;refine Z4 ?_;refine Post.bh rfl rfl (V3) (by exact V4) (aF.cZ [0,1,2,3] [4] rfl rfl) rfl (.cons (.ra (i:=4) FA.out FC.out rfl rfl rfl rfl) ?_ (.cons (.rt rfl) ?_ .nil))
  · exact aa.refl _
  exact aa.refl _
 have hfit:(ej ((runK m cells frames).sig f).P args).length<=(runK m cells frames).cells-c.stk.length:=by(by_cases h:(ej ((runK m cells frames).sig f).P args).length<=(runK m cells frames).cells-c.stk.length;exact h;exact absurd (show(11:Int)≠0 by decide) (λh9=>c3 (by rw[if_neg h];exact h9)))
 have Ck:fk (runK m cells frames) (ej ((runK m cells frames).sig f).P args) c={c with stk:=c.stk++(ej ((runK m cells frames).sig f).P args)}:=if_pos hfit;have hB:(bx (runK m cells frames) F f args (s,c))=iL (runK m cells frames) f ({s with fuel:=F,over:=false},{c with stk:=c.stk++(ej ((runK m cells frames).sig f).P args)}):=if_neg (show ¬(runK m cells frames).cells-c.stk.length<(ej ((runK m cells frames).sig f).P args).length by omega);rw[Ck];refine Z3 ?_;refine .n (hH [_,_,_] [2,0,1,3,4] (h:=pS (m:={s with fuel:=F,over:=false}) (c:={c with stk:=c.stk++(ej ((runK m cells frames).sig f).P args)}) ak LP Zb (f:=f) (by rw[hon];exact DZ))) rfl λg74 h74=>?_;refine Z2 ?_;rw[<-hB];refine Z3 ?_;refine .n (hH [_] [0,1,3,4,2] (h:=rP (m:=(bx (runK m cells frames) F f args (s,c)).1) (c:=(bx (runK m cells frames) F f args (s,c)).2) (Z:=64) ak LP Zb (uy PL (by rw[hon];exact DZ) args) (by rw[(eJ F f args (s,c)).1,(eJ F f args (s,c)).2];exact P1) (VO dO aR jE) (xo dO) iM)) rfl λV3 V4=>?_;refine .s (dQ (i:=4) FC.out rfl (.t rfl) (.t rfl) rfl rfl rfl) ?_;refine Z4 ?_;refine Post.bh rfl rfl (V3) (by exact V4) (aF.cZ [0,1,2,3] [4] rfl rfl) rfl (.cons (.ra (i:=4) FA.out FC.out rfl rfl rfl rfl) ?_ (.cons (.rt rfl) ?_ .nil))
 · exact aa.refl _
 exact aa.refl _
end Go.Proofs.YtppekopemdoclaaGreatDoor
end
section
namespace Go.Hl
open Go.RowKit Classical
noncomputable section
def j4:jD:=⟨0,0,false,0,0,(0,0),aL3,false⟩
abbrev aN1(b sb:Nat)(cells frames fuel:Nat)(kb fb:Nat):HP:=az b [ax sb 0,nV cells,nV frames,nV fuel,ax kb 0,ax fb 0,af .u32 0,af .i32 0,af .u32 0,ag (.slice none 0 0),nV 0,nV 0,av False,nV 0,nV 0,av False,af .i64 0,af .i64 0,nV 0,ai 1 ia [],nV 0,nV 0,nV 0,av False]
def To(X:oB)(a:ep)(pb sb kb fb g0 t0 k0 f0:Nat):qE:=⟨X,pb,a,sb,kb,fb,[],0,g0,t0,k0,f0,64,λ_ _ _=>lK True⟩
variable {X:oB}
theorem I8{K:gA}{c:bM}{a:ep}{pb sb kb fb g0 t0 k0 f0:Nat}{r:List HP}(hV:gV (To X a pb sb kb fb g0 t0 k0 f0) K a c)(hs:c.stk=[])(hf:c.dS=[]):
    aF (kq kb X k0 K.cells 0::kV fb X f0 K.frames 0::p5 sb X pb K.m 0 (g0:Int) (t0:Int) (ag (.slice none 0 0))::jx X a++r) (aX (To X a pb sb kb fb g0 t0 k0 f0) K c::r):=by
  refine aF.trans ?_ (Bg hV)
  have e:qF (To X a pb sb kb fb g0 t0 k0 f0) K a c=[kq kb X k0 K.cells 0,kV fb X f0 K.frames 0,p5 sb X pb K.m 0 (g0:Int) (t0:Int) (ai 1 wM []),Et X a,qV X.db a.bytes,lK True]:=by
    unfold qF;rw[hs,hf];rfl
  rw[e];exact .cons _ (.cons _ (.trans (.cells (.cons (.refl _) (.cons (.refl _) (.cons (.refl _) (.cons (.refl _) (.cons (.refl _) (.cons (.refl _) (.cons (aE _ _) (.cons (.refl _) .nil))))))))) (.cons _ (.cons _ (.cons _ (.pure trivial))))))
structure P2(m:aT):Prop where
 gl:m.aA=[]
 tb:m.Table= -1
 ms:m.cP=[]
 el:m.bN=[]
 da:m.dA=[]
section
variable {m:aT} (h:P2 m)
include h
theorem P2.md:rq m:=by
 refine⟨by rw[h.gl];decide,λz hz=>?_,by rw[h.tb];decide,λz hz=>?_,by rw[h.ms];decide,by rw[h.el];decide,λz hz=>?_,by rw[h.da];decide,λz hz=>?_⟩
 · rw[h.gl] at hz;cases hz
 · rw[h.ms] at hz;cases hz
 · rw[h.el] at hz;cases hz
 · rw[h.da] at hz;cases hz
theorem P2.seg{r:Nat×Nat×Int}(k:Cq m r):r=(0,0,0):=by
 rcases k with⟨k,e,h1,_⟩|⟨_,k,d,h1,_⟩|⟨_,_,k⟩
 · rw[h.el] at h1;cases h1
 · rw[h.da] at h1;cases h1
 · rw[h.el,h.da] at k;exact k
theorem P2.rm:rj m=16/\Cp m=16:=by
 have ht:fH m=0:=by unfold fH;rw[h.tb];rfl
 constructor
 · unfold rj;rw[h.gl];decide
 · unfold Cp;rw[ht];decide
end
def I9:bM:=⟨[],[],[],[],[],GI 64,0⟩
abbrev NC(m:aT)(n:Nat):ep:=Hs m (TY n) 0
theorem LQ{m:aT}(h:P2 m){n:Nat}(hX:X.size=n)(h1:32<=n)(h2:n<=4194304):dz X (NC m n)/\(NC m n).height=32/\(NC m n).live=32:=by
 obtain⟨e1,e2⟩:=h.rm;have hk:=EL (X:=X) (m:=m) (Ba hX h2) h.md (by rw[e1,e2,hX];show 0+(16+16)<=n;omega) 0;refine⟨hk.1,?_,?_⟩
 · rw[hk.2.height];show 0+rj m+Cp m=32;rw[e1,e2]
 · rw[hk.2.live];show 0+rj m+Cp m=32;rw[e1,e2]
abbrev Zc(m:aT)(n cells frames:Nat):ep:=uP (uP (NC m n) (aJ (8*cells))) (aJ (12*frames))
theorem Zd:ny gZ:=by
 refine ny.of ⟨?_,?_,?_,?_,?_,?_,?_,?_⟩ ?_ ?_ ?_ ?_ ?_ ?_<;>simp[gZ,CK]
 constructor<;>simp[pR,i65,i106,i11]
theorem ND{k:Int}{v:Nat}:aa (aC [af .i64 k,af .u64 (v:Int),ag (.int .u64 0),ag (.int .i64 0),ag (.slice none 0 0)]) (aC (aB ⟨k,(v:Int),0,0,[]⟩)):=
 aa.agg (.cons (aa.refl _) (.cons (aa.refl _) (.cons (aa.refl _) (.cons (aa.refl _) (.cons (aE 1 eo) .nil)))))
structure aj4 where
 cells:Int
 frames:Int
 fuel:Int
def LR(c:aj4):List VP:=[af .i64 c.cells,af .i64 c.frames,af .i64 c.fuel]
instance:gX 3 LR:=⟨λ_=>rfl,λx q h=>by simp only[LR,List.mem_cons,List.not_mem_nil,or_false] at h;rcases h with h|h|h<;>subst h<;>infer_instance⟩
instance (c:aj4):bD (LR c):=bD.of c
theorem zg:P2 gZ:=⟨rfl,rfl,rfl,rfl,rfl⟩
abbrev Tp(X:oB)(pb sb kb fb:Nat):qE:=To X (Zc gZ 1048576 10 2) pb sb kb fb (TY 1048576).height ((TY 1048576).height+rj gZ) (NC gZ 1048576).height (uP (NC gZ 1048576) (aJ (8*10))).height
theorem Tq(hX:X.size=1048576):(NC gZ 1048576).height+aJ (8*10)+aJ (12*2)<=X.size:=by
 rw[(LQ zg hX (by decide) (by decide)).2.1,hX];decide
theorem NF{pb sb kb fb:Nat}(hX:X.size=1048576):oe (Tp X pb sb kb fb) K0/\gV (Tp X pb sb kb fb) K0 (Zc gZ 1048576 10 2) I9:=by
 obtain⟨h1,h2,_⟩:=LQ zg hX (by decide) (by decide);have c1:aJ (8*10)=128:=by decide
 have c2:aJ (12*2)=32:=by decide
 have h3:dz X (uP (NC gZ 1048576) (aJ (8*10))):=mw h1 (by rw[h2,c1,hX];decide);have h4:dz X (Zc gZ 1048576 10 2):=mw h3 (by show(NC gZ 1048576).height+aJ (8*10)+aJ (12*2)<=_;rw[h2,c1,c2,hX];decide);have h5:fH gZ=0:=rfl;refine⟨⟨by show 0+8*0<=0+rj gZ;omega,?_,?_,?_,by show 0<=60000;decide,by show 10<=65536;decide,by show 2<=10000;decide,by show 0<64/\64<=1024;decide,λz hz=>by cases hz⟩,⟨h4,pE.refl _, .nil, .nil,λi v h=>(by cases h),λi v h=>(by cases h),by show 0<=10;decide,by show 0<=2;decide,rfl,rfl⟩⟩
 · show 0+rj gZ+4*fH gZ<=(NC gZ 1048576).height;rw[h2,h5,zg.rm.1];decide
 · show(NC gZ 1048576).height+8*10<=(NC gZ 1048576).height+aJ (8*10);rw[c1];omega
 · show(NC gZ 1048576).height+aJ (8*10)+12*2<=X.size;rw[h2,c1,hX];decide
end
end Go.Hl
end
section
namespace Go.Proofs.YtppekopemdoclaaGreatDoor
open Go.Hl Go.RowKit
variable {sb:Nat}
theorem D3{pb:Nat}{X:oB}{a:ep}{m:aT}{num g t:Int}{mv:VP}{cells frames fuel:Nat}(ak:dz X a)(aR:1<=cells)(bO:cells<=65536)(dO:1<=frames)(jE:frames<=10000)(sx:fuel<=10000000)(Ce:a.height+aJ (8*cells)+aJ (12*frames)<=X.size):bu Wo 21 [ax sb 0,ax X.ab 0,aC [nV cells,nV frames,nV fuel]] (p5 sb X pb m num g t mv::iR X a) (γ:=Nat×Nat×Nat) (λ_=>True) (λr=>aN1 r.1 sb cells frames fuel r.2.1 r.2.2::kq r.2.1 X a.height cells 0::kV r.2.2 X (uP a (aJ (8*cells))).height frames 0::p5 sb X pb m num g t mv::iR X (uP (uP a (aJ (8*cells))) (aJ (12*frames)))) (λr=>aZ [ax r.1 0,af .i64 0]):=by
 refine In 56 Tryz.func21 λ_ _ _=>?_;refine eB ?_;refine .n ((cE (h:=DO)).same (λ_ _=>aF.refl _) (λ_ _=>aa.refl _)) rfl λ_ _=>?_;refine Z3 ?_;refine .g (de.gF rfl rfl rfl rfl (λhg=>dy FU.out (.when (.t rfl) hg))) rfl rfl ?_;refine Z4 ?_;refine Cd (λc0=>?_) λc0=>?_
 · exact(c0.elim id id).elim
 refine kL ?_;refine CT λc1=>?_;refine Z8 ?_;refine .n (hH [_] [1,2,3,4,0] (h:=KX (X:=X) (a:=a) (n:=cells) ak aR bO (by omega))) rfl λUg T4=>?_;refine ij ?_;refine CT λc2=>?_;refine Z7 ?_;refine .n (hH [_,_] [1,2,3,4,0,5] (h:=K1 (X:=X) (a:=(uP a (aJ (8*cells)))) (n:=frames) (mw ak (by omega)) dO jE Ce)) rfl λTd Te=>?_;refine ij ?_;refine CT λc3=>?_;refine Z8 ?_;refine .p ((aL FP.out FZ.out (.cons (.t rfl) (.cons (.t rfl) (.cons (.t rfl) (.cons (.t rfl) .nil)))) rfl).le ((by exact show aa _ (aC [ax sb 0,nV cells,nV frames,nV fuel,ax Ug 0,ax Td 0,af .u32 0,af .i32 0,af .u32 0,ag (.slice none 0 0),nV 0,nV 0,av False,nV 0,nV 0,av False,af .i64 0,af .i64 0,nV 0,ai 1 ia [],nV 0,nV 0,nV 0,av False]) from aa.agg (.cons (.refl _) (.cons (.refl _) (.cons (.refl _) (.cons (.refl _) (.cons (.refl _) (.cons (.refl _) (.cons (.refl _) (.cons (.refl _) (.cons (.refl _) (.cons (.refl _) (.cons (.refl _) (.cons (.refl _) (.cons oC (.cons (.refl _) (.cons (.refl _) (.cons oC (.cons (.refl _) (.cons (.refl _) (.cons (.refl _) (.cons (aE _ _) (.cons (.refl _) (.cons (.refl _) (.cons (.refl _) (.cons oC (.nil)))))))))))))))))))))))))))) rfl ?_;refine .n (cc (.t rfl)) rfl λb55 _=>?_;refine Z5 ?_;refine Post.bh rfl rfl ((b55,Ug,Td)) (by trivial) (aF.cZ [0,6,1,7,2,3,4,5] [] rfl rfl) rfl (.cons (.rt rfl) ?_ (.cons (.rt rfl) ?_ .nil))
 · exact .z
 exact .z
variable {n:Nat}
theorem yz(ak:n<=4194304):bu Wo 17 [fP (n:Int)] [] (γ:=oB) (λX=>X.size=n) (λX=>iR X ⟨List.replicate n 0,0,0,[]⟩) (λX=>aZ [ax X.ab 0,fP 0]):=by
 refine In 16 Tryz.func17 λ_ _ _=>?_;refine Dh ?_;refine CT λc0=>?_;refine Z5 ?_;refine .n (N2 FU.out FC.out FY.out FZ.out (.t rfl) rfl (by omega)) rfl λb11 _=>?_;refine .n (o8 (Value.int .i64) fP) rfl λm12 _=>?_;refine .n (o8 (Value.int .i64) (λ_:Unit=>uY)) rfl λm13 _=>?_;refine Z1 ?_;refine .n (cc (.t rfl)) rfl λb15 _=>?_;refine Z5 ?_;refine Post.bh rfl rfl (⟨b15,b11,m12,m13,n⟩) (by rfl) (aF.cZ [0,3,2,1] [] rfl rfl) rfl (.cons (.rt rfl) ?_ (.cons (.rt rfl) ?_ .nil))
 · exact .z
 exact .z
theorem P3{cap:Int}(ak:16<=n)(aR:n<=1024)(bO:0<=cap)(dO:cap<=4096):bu Wo 49 [fP (n:Int),fP cap] [] (γ:=Nat) (λ_=>True) (λsb=>[sP sb ⟨n,cap,0,0,-1,false,[]⟩]) (λsb=>aZ [ax sb 0,fP 0]):=by
 refine In 25 Tryz.func49 λ_ _ _=>?_;refine Z25 ?_;refine CT λc0=>?_;refine Z6 ?_;refine .n (o8 (Value.int .i64) (λb=>sK b 0 n)) rfl λm22 _=>?_;refine Z1 ?_;refine .n (cc (.t rfl)) rfl λb24 _=>?_;refine Z5 ?_;refine Post.bh rfl rfl (b24) (by trivial) (yL (E:=[]) (mb:=m22) (sz:=n) (s:=⟨n,cap,0,0,-1,false,[]⟩) rfl rfl|>aF.trans (aF.trans (aF.cons _ (aF.cons _ fO)) (aF.cells (.cons (.refl _) (.cons (.refl _) (.cons (.refl _) (.cons (.refl _) (.cons (.refl _) (.cons (.refl _) (.cons oC .nil)))))))))) rfl (.cons (.rt rfl) ?_ (.cons (.rt rfl) ?_ .nil))
 · exact .z
 exact .z
theorem LS{s:Rq}:bu Wo 90 [ax sb 0] [sP sb s] (γ:=Unit) (λ_=>True) (λ_=>[sP sb s]) (λ_=>fP (s.size:Int)):=by
 refine In 9 Tryz.func90 λ_ _ _=>?_;refine .ae1 λmb E hE=>?_;refine Z9 ?_;refine .p (dy FU.out (.t rfl)) rfl ?_;refine Z2 ?_;refine CT λc0=>?_;refine eB ?_;refine Post.aS rfl (()) (by trivial) (yL hE rfl) (.rt rfl) ?_;exact .z
theorem P4{Y:oB}{z q:Nat}{a0:ep}(ak:WV Y a0 a0 (aJ z) 0)(aR:0<n)(bO:n<=64)(dO:z<=1024)(jE:q<=4096)(sx:a0.height+n*aJ z<=Y.size):bu Wo 50 [ax Y.ab 0,ax sb 0,fP (n:Int)] (sP sb ⟨z,(q:Int),0,0,-1,false,[]⟩::iR Y a0) (γ:=Rs×ep) (λg=>g.1.Y=Y/\g.1.sb=sb/\g.1.n=n/\g.1.lo=a0.height/\g.1.hi=a0.height+n*aJ z/\WV Y a0 g.2 (aJ z) n/\ae4 g.1 z q Rt ⟨dS a0.height (aJ z) n,0,[],[],0,false⟩ g.2 ⟨z,(q:Int),0,0,-1,false,[]⟩ (GI z) 0) (λg=>aK1 g.1 ⟨dS a0.height (aJ z) n,0,[],[],0,false⟩ g.2 ⟨z,(q:Int),0,0,-1,false,[]⟩) (λg=>aZ [ax g.1.pb 0,fP 0]):=by
 refine In 58 Tryz.func50 λ_ _ _=>?_;refine dh ?_;refine .p (dy FU.out (.t rfl)) rfl ?_;refine Z2 ?_;refine .g (de.gF rfl rfl rfl rfl (λhg=>dy FU.out (.when (.t rfl) hg))) rfl rfl ?_;refine Z4 ?_;refine Cd (λc0=>?_) λc0=>?_
 · exact(show False by simp at c0).elim
 refine dh ?_;refine CT λc1=>?_;refine Z7 ?_;refine .n (o8 Dd fP) rfl λm27 _=>?_;refine .n (o8 Dd fP) rfl λm28 _=>?_;refine Z1 ?_;refine .n (cc (.t rfl)) rfl λb30 _=>?_;refine Z3 ?_;refine .own (AA (n:=6) (enc:=Dl)) ?_;refine .own (aF.perm (Perm.idx [1,0,2,3,4,5,6,7,8] rfl rfl)) ?_;refine Z8 ?_;refine .bk (σ:=SB×ep×Nat) (λg=>az b30 [ax Y.ab 0,ax sb 0,ag (bI g.1 (dS a0.height (aJ z) g.2.2).length),fP 0,ag (.map (some m27)),ag (.map (some m28)),fP 0,ag (.bool false)]::aH g.1 6 Dl (dS a0.height (aJ z) g.2.2)::oW m28 Dd fP ([]:List (dX×Int))::oW m27 Dd fP ([]:List (dX×Int))::sP sb ⟨z,(q:Int),0,0,-1,false,[]⟩::iR Y g.2.1) (λg=>[(32,fP (g.2.2:Int))]) (λg=>WV Y a0 g.2.1 (aJ z) g.2.2/\g.2.2<=n) (λg=>n-g.2.2) (none,a0,0) ⟨ak,Nat.zero_le _⟩ rfl ?_ ?_
 · exact(.get rfl (aa.refl _) (.refl _ _))
 rintro⟨gb1,a1,j1⟩ ⟨hA1,hj⟩;simp only at hA1 hj ⊢;refine Z6 ?_;refine Cd (λc2=>?_) λc2=>?_
 ·
  have hj1:a0.height+(j1+1)*aJ z<=Y.size:=Nat.le_trans (Nat.add_le_add_left (Nat.mul_le_mul_right _ (by omega)) _) sx;refine Z8 ?_;refine .n ((hH [_,_,_,_,_,_,_,_] [4,0,1,2,3,5,6,7,8] (h:=LS (s:=⟨z,(q:Int),0,0,-1,false,[]⟩))).same (λ_ _=>aF.perm (Perm.idx [1,2,3,4,0,5,6,7,8] rfl rfl)) (λ_ _=>aa.refl _)) rfl λ_ _=>?_;refine .n (hH [_,_,_,_,_] [5,6,7,8,0,1,2,3,4] (h:=oO (X:=Y) (a:=a1) (n:=z) hA1.ok)) rfl λUc ZU=>?_;refine Z7 ?_;obtain⟨a2,at2,e2⟩:=Uc;obtain⟨TV,aj5,hA2⟩:=hA1.take (n:=z) (by omega) hj1 ZU;simp only at TV aj5 hA2;subst TV;subst aj5;have hfl:=ue a0.height (aJ z) j1;refine Z7 ?_;refine CT λc3=>?_;refine Z7 ?_;refine .p (kK (i:=4) FA.out (.t rfl) rfl rfl) rfl ?_;refine Z1 ?_;refine .p ((aL FP.out FZ.out (.cons (.t rfl) .nil) rfl).le (aa.agg (.cons (aa.refl _) (.cons (.refl _) (.cons (.refl _) (.cons oC (.cons oC (.cons oC .nil)))))))) rfl ?_;refine .p (cB Dl [(⟨a0.height+j1*aJ z,(0,0),false,false,false⟩:Fr)]) rfl ?_;refine .n (aK (i:=5) (xs:=dS a0.height (aJ z) j1) (ys:=[(⟨a0.height+j1*aJ z,(0,0),false,false,false⟩:Fr)]) FU.out FU.out FC.out rfl FZ.out rfl FY.out (.t rfl) (.t rfl) rfl (by(simp only[ue,List.length_cons,List.length_nil];omega)) (by(simp only[ue,List.length_cons,List.length_nil];omega))) rfl λPW _=>?_;refine Z2 ?_;refine .s (jf (i:=4) FC.out (.t rfl) (.t rfl) rfl rfl) ?_;refine Z7 ?_;refine .own (aF.perm (Perm.idx [4,5,6,7,8,0,1,2,3] rfl rfl)) (bS.round (PW,a2,j1+1) ⟨hA2,by(show j1+1<=n;omega)⟩ (by(show n-(j1+1)<n-j1;omega)) (by(simp only[Ru];rfl)) ?_);exact(.get rfl (aa.int (by(show(j1:Int)+1=((j1+1:Nat):Int);omega))) ((.keep 26 rfl rfl)))
 have hjn:j1=n:=by omega
 subst hjn;refine .lg 1 rfl (λe=>by(have h9:=congrArg List.length e;rw[ue] at h9;simp at h9;omega)) λfb cap hgb=>?_;subst hgb;refine kL ?_;refine Post.bh rfl rfl ((⟨b30,sb,fb,cap,m27,m28,j1,a0.height,a0.height+j1*aJ z,Y⟩,a1)) (by exact⟨rfl,rfl,rfl,rfl,rfl,hA1,UJ aR bO dO jE hA1 rfl rfl⟩) (aF.trans (aF.cells (.cons (.refl _) (.cons (.refl _) (.cons (aa.of_eq (by rw[ue])) (.cons (.refl _) (.cons (.refl _) (.cons (.refl _) (.cons (.refl _) (.cons oC .nil))))))))) (aF.perm (Perm.idx [0,1,3,2,4,5,6,7,8] rfl rfl))) rfl (.cons (.rt rfl) ?_ (.cons (.rt rfl) ?_ .nil))
 · exact .z
 exact .z
end Go.Proofs.YtppekopemdoclaaGreatDoor
end
