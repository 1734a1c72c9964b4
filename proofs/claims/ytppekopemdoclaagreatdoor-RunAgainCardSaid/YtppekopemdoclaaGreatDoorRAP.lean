/-
  Parts of the proof.
-/
import Derived.Test.YtppekopemdoclaaGreatDoorRAO
set_option linter.all false
set_option maxRecDepth 1000000
set_option maxHeartbeats 4000000
section
namespace Go.Proofs.YtppekopemdoclaaGreatDoor
open Go.Hl Go.RowKit
theorem rS{fr:Int}:bu Wo 20 [fP fr] [] (γ:=Nat) (λ_=>True) (λ_=>[]) (λpb=>ax pb 0):=by
 refine In 28 Tryz.func20 λ_ _ _=>?_;have aN2:aJ 256=256:=by decide
 refine Z7 ?_;refine .n (cE (h:=yz (n:=65536) (by decide))) rfl λDN h10=>?_;refine Z9 ?_;refine .n (cE (h:=P3 (n:=256) (cap:=4096) (by decide) (by decide) (by decide) (by decide))) rfl λg14 Cg=>?_;refine kL ?_;refine .p (C4 (.t rfl) (.c _)) rfl ?_;refine .p ((ez (.c _) (.t rfl) bY).le (aa.int (show _=(((1+min (max fr 0) 63).toNat:Nat):Int) by omega))) rfl ?_;refine .n (cE (h:=P4 (Y:=DN) (sb:=g14) (z:=256) (q:=4096) (n:=(1+min (max fr 0) 63).toNat) (a0:=⟨List.replicate 65536 0,0,0,[]⟩) (UK h10 (by decide)) (by omega) (by omega) (by decide) (by decide) (by(show 0+(1+min (max fr 0) 63).toNat*aJ 256<=_);rw[h10,aN2];omega))) rfl λQC Nm=>?_;refine ij ?_;refine Post.aS rfl (QC.1.pb) (by trivial) (aF.nil _) (.rt rfl) ?_;exact .z
variable {pb:Nat} {X:oB} {a:ep} {m:aT} {num:Int} {sb:Nat}
theorem Ja{mv:VP}(ak:dz X a)(aR:rq m)(bO:a.height+(rj m+Cp m)<=X.size):bu Wo 43 [ax sb 0] (p5 sb X pb m num 0 0 mv::iR X a) (γ:=Unit) (λ_=>True) (λ_=>p5 sb X pb m num (a.height:Int) ((a.height+rj m:Nat):Int) mv::iR X (sY a m)) (λ_=>af .i64 0):=by
 refine In 59 Tryz.func43 λ_ _ _=>?_;have ZY:rj m=aJ (8*m.aA.length):=rfl;have hm2:Cp m=aJ (4*fH m):=rfl;have JB:=aR.r1;have Ga:=aR.r2;have hkh:=ak.hi;have hkm:=ak.most;have JN:=ak.live
 have Xi:=aR.gl;have htn:(max m.Table 0)=((fH m:Nat):Int):=by unfold fH;omega
 refine eB ?_;refine .bt [(0,0),(1,0),(2,0),(3,0),(4,1),(5,0),(6,0),(7,0),(8,1),(9,0),(10,0),(11,0),(12,0),(13,0),(14,2),(15,0),(16,0),(17,0),(18,0),(19,0),(20,3)] 21 1 FM.out (by kernel_rfl) (k:= ?_);refine kL ?_;refine .p rfl (λ_=>(z8 (.c _) (.t rfl) bY).le (aa.int (show _=((8*m.aA.length:Nat):Int) by omega))) ?_;refine .e rfl (hH [_] [1,2,3,4,0] (h:=oO (X:=X) (a:=a) (n:=8*m.aA.length) ak)) λJF h19=>?_;refine Z5 ?_;refine .s rfl (jf (i:=4) FC.out (.t rfl) (.t rfl) rfl rfl) ?_;refine .fin ?_;refine Z3 ?_;rw[wL ak (by omega) (by omega)] at h19;subst h19;refine Z6 ?_;refine CT λc0=>?_;refine Z4 ?_;refine .bt [(0,0),(1,0),(2,0),(3,0),(4,1),(5,0),(6,0),(7,0),(8,1),(9,0),(10,0),(11,0),(12,0),(13,0),(14,2),(15,0),(16,0),(17,0),(18,0),(19,0),(20,3)] 21 1 FM.out (by kernel_rfl) (k:= ?_);refine Z4 ?_;refine .o rfl (kK (i:=4) FA.out (.t rfl) rfl rfl) ?_;refine Z3 ?_;refine .o rfl (kK (i:=4) FA.out (.t rfl) rfl rfl) ?_;refine Z4 ?_;refine .p rfl (λ_=>(z8 (.c _) (.t rfl) (by rw[htn];exact cM (by omega) (by omega))).le (aa.int (show _=((4*fH m:Nat):Int) by rw[htn];omega))) ?_;refine .e rfl (cE (h:=oO (X:=X) (a:=uP a (rj m)) (n:=4*fH m) (mw ak (by omega)))) λTd Te=>?_;refine Z5 ?_;refine .s rfl (jf (i:=4) FC.out (.t rfl) (.t rfl) rfl rfl) ?_;refine .fin ?_;refine Z3 ?_;rw[wL (mw ak (by omega)) (by omega) (by simp only;omega)] at Te;subst Te;refine Z6 ?_;refine CT λc1=>?_;refine Z9 ?_;refine Post.aS rfl (()) (by trivial) (aF.cZ [4,0,1,2,3] [] rfl rfl) (.rt rfl) ?_;exact .z
theorem LU{g:Int}{t0:Nat}{mv:VP}{e:gR}(ak:dz X a)(aR:rq m)(bO:t0+4*fH m<=X.size)(dO:e∈m.bN):bu Wo 86 [ax sb 0,aC (kM e)] (p5 sb X pb m num g (t0:Int) mv::jx X a) (γ:=Unit) (λ_=>True) (λ_=>p5 sb X pb m num g (t0:Int) mv::jx X (MN m t0 e a)) (λ_=>af .i64 (X9 m e)):=by
 refine In 60 Tryz.func86 λ_ _ _=>?_;obtain⟨Qw,Uv,TV,he3⟩:=aR.el e dO;have Ga:=aR.r2;have hkm:=ak.most
 have htn:(max m.Table 0)=((fH m:Nat):Int):=by unfold fH;omega
 have hbd:lP m e↔((fH m:Int)<e.At\/(fH m:Int)-e.At<(e.aq.length:Int)):=Iff.rfl;refine oA ?_;refine .p ((QY (.t rfl) (.c _)).le (aa.int htn)) rfl ?_;refine .p ((jW FU.out FU.out (.t rfl) bY).le (aa.int (show _=((fH m:Nat):Int) by omega))) rfl ?_;refine Z23 ?_;refine Cd (λc0=>?_) λc0=>?_
 ·
  have hb:lP m e:=hbd.2 (by omega);have yl:MN m t0 e a=a:=if_pos hb;have yZ:X9 m e=5:=if_pos hb;refine Z7 ?_;refine Post.aS rfl (()) (by trivial) (aF.of_eq (by rw[yl])) (.rt rfl) ?_;exact aa.int (by rw[yZ])
 have hb:¬lP m e:=λh=>c0 (by have h2:=hbd.1 h;omega);have yl:MN m t0 e a=Qy t0 e a e.aq.length:=if_neg hb;have yZ:X9 m e=0:=if_neg hb;have hin:e.At+(e.aq.length:Int)<=(fH m:Int):=by(have h3:=λh=>hb (hbd.2 h);omega)
 refine eB ?_;refine .bk (σ:=Nat) (λk=>p5 sb X pb m num g (t0:Int) mv::jx X (Qy t0 e a k)) (λk=>[(35,af .i64 (k:Int))]) (λk=>k<=e.aq.length) (λk=>e.aq.length-k) 0 (Nat.zero_le _) rfl ?_ ?_
 · exact(.get rfl (aa.refl _) (.refl _ _))
 rintro k hk;refine Z6 ?_;refine Cd (λc1=>?_) λc1=>?_
 ·
  obtain⟨z,hz⟩:=ah (xs:=e.aq) (k:=k) (by omega);have Ab:=he3 z (List.mem_of_getElem? hz);refine Z7 ?_;refine .p (cI k (h:=hz)) rfl ?_;refine Z5 ?_;refine .bL 18 1 FM.out (by kernel_rfl) (k:= ?_);refine Cn ?_;refine .n (eV (rest:=[_]) (ur (a:=Qy t0 e a k) (at_:=t0+4*(e.At.toNat+k)) (w:=4) (v:=z.toNat+1) (xZ ak k (by omega)) (by omega) (.inr rfl) (by omega)) FB.out (.cons (.t rfl) (.cons (.le (.t rfl) (aa.int (show _=((t0+4*(e.At.toNat+k):Nat):Int) by omega))) (.cons (.c _) (.cons (.le (.t rfl) (aa.int (show _=((z.toNat+1:Nat):Int) by omega))) .nil)))) (Perm.idx [1,2,0] rfl rfl)) rfl λg58 h58=>?_;refine Z7 ?_;refine .own (aF.perm (Perm.idx [2,0,1] rfl rfl)) (bS.round (k+1) (by omega) (by omega) (by show _=_::jx X ((Qy t0 e a k).put (t0+4*(e.At.toNat+k)) (nO (((e.aq[k]?).getD 0).toNat+1) 4));rw[hz];try rfl) ?_);exact(.get rfl (aa.int (by(show(k:Int)+1=((k+1:Nat):Int);omega))) ((.keep 28 rfl rfl)))
 have vb:k=e.aq.length:=by omega
 subst vb;refine dh ?_;refine Post.aS rfl (()) (by trivial) (aF.of_eq (by rw[yl])) (.rt rfl) ?_;exact aa.int (by rw[yZ])
theorem Jb{t:Int}{g:Nat}(ak:dz X a)(aR:rq m)(bO:g+8*m.aA.length<=X.size)(dO:m.cP=[]):bu Wo 44 [ax sb 0] (p5 sb X pb m num (g:Int) t (ag (.slice none 0 0))::jx X a) (γ:=Unit) (λ_=>True) (λ_=>p5 sb X pb m num (g:Int) t (ag (.slice none 0 0))::jx X (MM m g a m.aA.length)) (λ_=>aZ []):=by
 refine In 71 Tryz.func44 λ_ _ _=>?_;have Xi:=aR.gl;have hml:=aR.ml;have hkm:=ak.most
 refine oA ?_;refine .bk (σ:=Nat) (λk=>p5 sb X pb m num (g:Int) t (ag (.slice none 0 0))::jx X (MM m g a k)) (λk=>[(16,af .i64 (k:Int))]) (λk=>k<=m.aA.length) (λk=>m.aA.length-k) 0 (Nat.zero_le _) rfl ?_ ?_
 · exact(.get rfl (aa.refl _) (.refl _ _))
 rintro k hk;refine Z6 ?_;refine Cd (λc0=>?_) λc0=>?_
 ·
  obtain⟨z,hz⟩:=ah (xs:=m.aA) (k:=k) (by omega);have hzv:=aR.gv z (List.mem_of_getElem? hz);refine Z7 ?_;refine .p (cI k (h:=hz)) rfl ?_;refine Z1 ?_;refine .n (au FZ.out) rfl λb3 _=>?_;refine Z4 ?_;refine .share (t:=3) (i:=0) rfl rfl ?_;refine Z4 ?_;refine .p ((pU FA.out (.t rfl)).le (aa.int (show z.Value=((z.Value.toNat:Nat):Int) by omega))) rfl ?_;refine .n (cE (h:=DM (a:=MM m g a k) (g:=g) (i:=k) (v:=z.Value.toNat) (z:=z) hz (sZ ak k (by omega)) (by omega) (by omega) hzv.2.2 Xi)) rfl λGc Tf=>?_;refine Z7 ?_;refine .round (k+1) (by omega) (by omega) (by show _=_::jx X ((MM m g a k).put (g+8*k) (nO (qu (Eu m k).Ty (Eu m k).Value.toNat) 8));rw[Ev hz];try rfl) ?_;exact(.get rfl (aa.int (by(show(k:Int)+1=((k+1:Nat):Int);omega))) ((.keep 15 rfl rfl)))
 have vb:k=m.aA.length:=by omega
 subst vb;refine Cn ?_;refine .bk (σ:=Nat) (λ_=>p5 sb X pb m num (g:Int) t (ag (.slice none 0 0))::jx X (MM m g a m.aA.length)) (λk=>[(35,af .i64 (k:Int))]) (λk=>k=0) (λk=>0) 0 rfl rfl ?_ ?_
 · exact(.get rfl (aa.refl _) (.refl _ _))
 rintro k hk;refine Z6 ?_;refine Cd (λc1=>?_) λc1=>?_
 · exfalso;rw[dO] at c1;simp only[List.length_nil] at c1;omega
 refine Z4 ?_;refine Post.cY rfl (()) (by trivial) (λ_ _ _ h=>h) rfl
theorem Jc{g:Int}{t0:Nat}(ak:dz X a)(aR:rq m)(bO:t0+4*fH m<=X.size)(dO:m.dA=[]):bu Wo 45 [ax sb 0] (p5 sb X pb m num g (t0:Int) (ag (.slice none 0 0))::jx X (vl m t0 a 0)) (γ:=Nat×Nat×Int) (λr=>Cq m r) (λr=>(p5 sb X pb m num g (t0:Int) (ag (.slice none 0 0))::jx X (vl m t0 a r.1))) (λr=>aZ [af .i64 r.2.2,af .i64 0]):=by
 refine In 67 Tryz.func45 λ_ _ _=>?_;have O3:=aR.ll;refine XR ?_;refine .bk (σ:=Nat) (λk=>(p5 sb X pb m num g (t0:Int) (ag (.slice none 0 0))::jx X (vl m t0 a k))) (λk=>[(19,af .i64 (k:Int))]) (λk=>k<=m.bN.length/\nF m k) (λk=>m.bN.length-k) 0 ⟨Nat.zero_le _,nF.nil⟩ rfl ?_ ?_
 · exact(.get rfl (aa.refl _) (.refl _ _))
 rintro k ⟨hk,hes⟩;refine Z6 ?_;refine Cd (λc0=>?_) λc0=>?_
 ·
  obtain⟨z,hz⟩:=ah (xs:=m.bN) (k:=k) (by omega);have hzm:=List.mem_of_getElem? hz;have hok:=zI (X:=X) (t:=t0) ak aR bO k;refine Z6 ?_;refine .p (cI k (h:=hz)) rfl ?_;refine Z1 ?_;refine .n (au FZ.out) rfl λb5 _=>?_;refine Z3 ?_;refine .share (t:=5) (i:=0) rfl rfl ?_;refine Z3 ?_;refine .p (bw.le (wj FA.out FC.out rfl (.t rfl) rfl) (aa.refl (aC (kM z)))) rfl ?_;refine .n (cE (h:=LU (a:=vl m t0 a k) (e:=z) hok.1 aR bO hzm)) rfl λGc Tf=>?_;refine Z9 ?_;refine Cd (λc1=>?_) λc1=>?_
  ·
   have hbe:lP m z:=UR c1;have hel:MN m t0 z (vl m t0 a k)=vl m t0 a k:=if_pos hbe;rw[hel];refine kL ?_;refine Post.bh rfl rfl ((k,0,5)) (by exact Cq.el hz hes hbe) (λ_ _ _ h=>h) rfl (.cons (.rt rfl) ?_ (.cons (.rt rfl) ?_ .nil))
   · exact aa.int (show X9 m z=5 from if_pos hbe)
   exact aa.refl _
  have hbe:¬lP m z:=Yb c1;refine Z7 ?_;refine .round (k+1) ⟨by omega,hes.next hz hbe⟩ (by omega) (by simp only[RH hz];try rfl) ?_;exact(.get rfl (aa.int (by(show(k:Int)+1=((k+1:Nat):Int);omega))) ((.keep 14 rfl rfl)))
 have vb:k=m.bN.length:=by omega
 subst vb;refine J2 ?_;refine .bk (σ:=Nat) (λ_=>(p5 sb X pb m num g (t0:Int) (ag (.slice none 0 0))::jx X (vl m t0 a m.bN.length))) (λk=>[(38,af .i64 (k:Int))]) (λk=>k=0) (λk=>0) 0 rfl rfl ?_ ?_
 · exact(.get rfl (aa.refl _) (.refl _ _))
 rintro k hk;refine Z6 ?_;refine Cd (λc2=>?_) λc2=>?_
 · exfalso;rw[dO] at c2;simp only[List.length_nil] at c2;omega
 refine eB ?_;refine Post.bh rfl rfl ((m.bN.length,m.dA.length,0)) (by exact Cq.all hes (λj d hj=>by rw[dO] at hj;simp at hj)) (λ_ _ _ h=>h) rfl (.cons (.rt rfl) ?_ (.cons (.rt rfl) ?_ .nil))
 · exact .z
 exact .z
theorem xz(ak:dz X a)(aR:rq m)(bO:fV m)(dO:m.aq.length<=60000)(jE:dK m)(sx:a.height+(rj m+Cp m)<=X.size)(Ce:0<=num)(DZ:num<=1073741824)(QK:m.cP=[])(PL:m.dA=[]):bu Wo 18 [ck (bp m),ax X.ab 0,ax pb 0,af .i64 num] (iR X a) (γ:=Nat×Nat×Nat×Int) (λr=>Cq m r.2) (λr=>p5 r.1 X pb m num (a.height:Int) ((a.height+rj m:Nat):Int) (ag (.slice none 0 0))::iR X (Hs m a r.2.1)) (λr=>aZ [ax r.1 0,af .i64 r.2.2.2,af .i64 0]):=by
 refine In 58 Tryz.func18 λ_ _ _=>?_;have JB:=aR.r1;have Ga:=aR.r2;have hkh:=ak.hi;have hkm:=ak.most
 have hRo:dz X (sY a m):=mw (mw ak (by omega)) (by simp only;omega);have hGo:=sZ (m:=m) (g:=a.height) hRo m.aA.length (by omega);refine eB ?_;refine .p (dy FU.out (.t rfl)) rfl ?_;refine Z2 ?_;refine .g (de.gF rfl rfl rfl rfl (λhg=>dy FU.out (.when (.t rfl) hg))) rfl rfl ?_;refine Z4 ?_;refine Cd (λc0=>?_) λc0=>?_
 · exact(c0.elim id id).elim
 refine Z3 ?_;refine .n (cE (h:=B5 bO dO)) rfl λQC Nm=>?_;refine Z4 ?_;refine Cd (λc1=>?_) λc1=>?_
 · exact absurd jE c1
 refine dh ?_;refine CT λc2=>?_;refine Z9 ?_;refine .p ((aL FP.out FZ.out (.cons (.t rfl) (.cons (.t rfl) (.cons (.t rfl) (.cons (.t rfl) .nil)))) rfl).le ((by exact show aa _ (aC [ck (bp m),ax X.ab 0,ax pb 0,af .i64 num,af .i64 0,af .i64 0,ag (.slice none 0 0),av False]) from aa.agg (.cons (.refl _) (.cons (.refl _) (.cons (.refl _) (.cons (.refl _) (.cons (.refl _) (.cons (.refl _) (.cons (.refl _) (.cons oC .nil))))))))))) rfl ?_;refine .n (cc (.t rfl)) rfl λb38 _=>?_;refine Z7 ?_;refine .n (cE (h:=Ja ak aR sx)) rfl λwe T5=>?_;refine Z9 ?_;refine CT λc3=>?_;refine Z5 ?_;refine .n (cE (h:=Jb (a:=sY a m) (g:=a.height) hRo aR (by omega) QK)) rfl λJz h45=>?_;refine Z5 ?_;refine .n (cE (h:=Jc (a:=MM m a.height (sY a m) m.aA.length) (t0:=a.height+rj m) hGo aR (by omega) PL)) rfl λTm h48=>?_;refine ij ?_;refine CT λc4=>?_;refine eB ?_;refine Post.bh rfl rfl ((b38,Tm)) (by exact h48) (aF.cons _ (Ou (X:=X) (a:=Hs m a Tm.1) (EL ak aR sx Tm.1).2.taken)) rfl (.cons (.rt rfl) ?_ (.cons (.rt rfl) ?_ (.cons (.rt rfl) ?_ .nil)))
 · exact .z
 · exact .z
 exact .z
theorem vR{l:List UInt8}(ak:l.length<=65536):dF Wo 47 [ai 1 an l] (ai 1 an l):=by
 refine In 19 Tryz.func47 λ_ _ _=>?_;refine Dh ?_;refine .fO 1 an ?_;refine .bk (σ:=Nat×SB) (λs=>[aH s.2 1 an (l.take s.1)]) (λs=>[(3,ag (bI s.2 (l.take s.1).length)),(4,af .i64 (s.1:Int))]) (λs=>s.1<=l.length) (λs=>l.length-s.1) (0,none) (by simp) (by simp) ?_ ?_
 · exact(.get rfl (aa.of_eq (by simp[bI])) (.get rfl (aa.refl _) (.refl _ _)))
 rintro s hk;refine Z9 ?_;refine Cd (λc0=>?_) λc0=>?_
 ·
  obtain⟨x,hx⟩:=ah (xs:=l) (k:=s.1) (by omega);refine Z8 ?_;refine .p (cI _) rfl ?_;refine Z1 ?_;refine .p (cB an [_]) rfl ?_;refine .n (aK (i:=0) FU.out FU.out FC.out rfl FZ.out rfl FY.out (.t rfl) (.t rfl) rfl (by first|omega|(simp<;>omega)) (by first|omega|(simp<;>omega))) rfl λBv _=>?_;refine Z9 ?_;refine .round (s.1+1,Bv) (by omega) (by omega) (by simp only[bE hx];rfl) ?_;exact(.get rfl (aa.of_eq (by simp only[bE hx])) (.get rfl (aa.int (by omega)) (.keep 17 rfl rfl)))
 have hall:l.take s.1=l:=List.take_of_length_le (by omega);rw[hall];refine .eC (n:=1) (enc:=an) (i:=0) (t:=3) rfl rfl ?_;refine eB ?_;refine br ?_;exact .z
theorem LV{x:aj}(ak:x.L.length<=65536):dF Wo 137 [aC (aB x)] (aC (aB x)):=by
 refine In 16 Tryz.func137 λ_ _ _=>?_;refine Z3 ?_;refine .n (au FZ.out) rfl λb2 _=>?_;refine Z3 ?_;refine .bL 12 2 FM.out (by kernel_rfl) (k:= ?_);refine Z8 ?_;refine .p (wu FU.out FC.out rfl FZ.out rfl) ?_;refine Z2 ?_;refine .p (Db FU.out FU.out FC.out rfl FZ.out rfl FY.out (.t rfl) (.t rfl) (by omega)) ?_;refine Z6 ?_;refine Post.aS rfl () trivial (λ_ _ _ _=>trivial) (.ra (i:=0) FA.out FC.out rfl rfl rfl rfl) ?_;exact .z
theorem FE{l:List aj}(ak:l.length<=65536)(aR:∀x∈l,x.L.length<=65536):dF Wo 89 [ai 5 aB l] (ai 5 aB l):=by
 refine In 20 Tryz.func89 λ_ _ _=>?_;refine Dh ?_;refine .fO 5 aB ?_;refine .bk (σ:=Nat×SB) (λs=>[aH s.2 5 aB (l.take s.1)]) (λs=>[(3,ag (bI s.2 (l.take s.1).length)),(4,af .i64 (s.1:Int))]) (λs=>s.1<=l.length) (λs=>l.length-s.1) (0,none) (by simp) (by simp) ?_ ?_
 · exact(.get rfl (aa.of_eq (by simp[bI])) (.get rfl (aa.refl _) (.refl _ _)))
 rintro s hk;refine Z9 ?_;refine Cd (λc0=>?_) λc0=>?_
 ·
  obtain⟨x,hx⟩:=ah (xs:=l) (k:=s.1) (by omega);have hxl:=aR x (List.mem_of_getElem? hx);refine Z8 ?_;refine .p (cI _) rfl ?_;refine Z1 ?_;refine .p (cA (h:=LV (by first|assumption|omega))) rfl ?_;refine .p (cB aB [_]) rfl ?_;refine .n (aK (i:=0) FU.out FU.out FC.out rfl FZ.out rfl FY.out (.t rfl) (.t rfl) rfl (by first|omega|(simp<;>omega)) (by first|omega|(simp<;>omega))) rfl λzT _=>?_;refine Z9 ?_;refine .round (s.1+1,zT) (by omega) (by omega) (by simp only[bE hx];rfl) ?_;exact(.get rfl (aa.of_eq (by simp only[bE hx])) (.get rfl (aa.int (by omega)) (.keep 18 rfl rfl)))
 have hall:l.take s.1=l:=List.take_of_length_le (by omega);rw[hall];refine .eC (n:=5) (enc:=aB) (i:=0) (t:=3) rfl rfl ?_;refine eB ?_;refine br ?_;exact .z
theorem LW{b:j8}(ak:Eo b):dF Wo 48 [aC (iT b)] (aC (iT b)):=by
 refine In 10 Tryz.func48 λ_ _ _=>?_;refine Z3 ?_;refine .n (au FZ.out) rfl λb2 _=>?_;refine Z3 ?_;refine .bL 5 3 FM.out (by kernel_rfl) (k:= ?_);refine Z2 ?_;refine .p (cA (h:=vR (by have:=ak.locals;omega))) ?_;refine Z3 ?_;refine .p (cA (h:=FE (by have:=ak.l;omega) (λx hx=>by have:=ak.all x hx;omega))) rfl ?_;refine Z5 ?_;refine Post.aS rfl () trivial (λ_ _ _ _=>trivial) (.ra (i:=0) FA.out FC.out rfl rfl rfl rfl) ?_;exact .z
theorem vS{x:aT}(ak:ny x):dF Wo 19 [aC (bp x)] (ck (bp x)):=by
 refine In 86 Tryz.func19 λ_ _ _=>?_;have F8:=ak.sigs;have ZE:=ak.funcs;refine Z25 ?_;refine .n (cc (.t rfl)) rfl λb23 _=>?_;refine cC ?_;refine .fO 2 bW ?_;refine .bk (σ:=Nat×SB) (λs=>[aH s.2 2 bW (x.bQ.take s.1),az b23 (MJ x (ag (bI s.2 (x.bQ.take s.1).length)) (ag (.slice none 0 0)))]) (λs=>[(4,af .i64 (s.1:Int))]) (λs=>s.1<=x.bQ.length) (λs=>x.bQ.length-s.1) (0,none) (by simp) rfl ?_ ?_
 · exact(.get rfl (aa.refl _) (.refl _ _))
 rintro s hk;refine cC ?_;refine Cd (λc0=>?_) λc0=>?_
 ·
  obtain⟨y,hx⟩:=ah (xs:=x.bQ) (k:=s.1) (by omega);refine Z4 ?_;refine .bt [(0,0),(1,0),(2,0),(3,0),(4,1),(5,0),(6,0),(7,0),(8,0),(9,0),(10,0),(11,0),(12,0),(13,0),(14,0),(15,0),(16,0),(17,0),(18,0),(19,0),(20,0),(21,2)] 22 3 FM.out (by kernel_rfl) (k:= ?_);refine Z8 ?_;refine .p rfl (λ_=>aW FU.out FC.out rfl (.t rfl) (.t rfl) rfl (by assumption)) ?_;refine Z2 ?_;refine .p rfl (λ_=>cg (vR (by have:=ak.sig y (List.mem_of_getElem? hx);omega)) FB.out (.cons (.t rfl) .nil)) ?_;refine Z3 ?_;refine .p rfl (λ_=>aW FU.out FC.out rfl (.t rfl) (.t rfl) rfl (by assumption)) ?_;refine Z2 ?_;refine .p rfl (λ_=>cg (vR (by have:=ak.sig y (List.mem_of_getElem? hx);omega)) FB.out (.cons (.t rfl) .nil)) ?_;refine Z1 ?_;refine .p rfl (λ_=>bC (enc:=bW) [y] FU.out FC.out rfl FZ.out rfl (.cons (.t rfl) .nil) rfl rfl rfl rfl rfl) ?_;refine .e rfl (aK (i:=0) FU.out FU.out FC.out rfl FZ.out rfl FY.out (.t rfl) (.t rfl) rfl (by first|omega|(simp<;>omega)) (by first|omega|(simp<;>omega))) λFg _=>?_;refine .fin ?_;refine dh ?_;refine .round (s.1+1,Fg) (by omega) (by omega) (by simp only[bE hx];rfl) ?_;exact(.get rfl (aa.int (by omega)) (.keep 33 rfl rfl))
 have hall:x.bQ.take s.1=x.bQ:=List.take_of_length_le (by omega);rw[hall];refine .jX (n:=2) (enc:=bW) (i:=0) (j:=0) (f:=0) rfl rfl rfl ?_;refine eB ?_;refine .fO 3 iU ?_;refine .bk (σ:=Nat×SB) (λs=>[aH s.2 3 iU (x.aq.take s.1),az b23 (MJ x (ai 2 bW x.bQ) (ag (bI s.2 (x.aq.take s.1).length)))]) (λs=>[(5,af .i64 (s.1:Int))]) (λs=>s.1<=x.aq.length) (λs=>x.aq.length-s.1) (0,none) (by simp) rfl ?_ ?_
 · exact(.get rfl (aa.refl _) (.refl _ _))
 rintro s hk;refine cC ?_;refine Cd (λc1=>?_) λc1=>?_
 ·
  obtain⟨y,hx⟩:=ah (xs:=x.aq) (k:=s.1) (by omega);refine Z4 ?_;refine .bt [(0,0),(1,0),(2,0),(3,0),(4,1),(5,0),(6,0),(7,0),(8,0),(9,0),(10,0),(11,0),(12,0),(13,0),(14,0),(15,0),(16,0),(17,0),(18,0),(19,0),(20,2)] 21 3 FM.out (by kernel_rfl) (k:= ?_);refine Z8 ?_;refine .p rfl (λ_=>aW FU.out FC.out rfl (.t rfl) (.t rfl) rfl (by assumption)) ?_;refine Z5 ?_;refine .p rfl (λ_=>aW FU.out FC.out rfl (.t rfl) (.t rfl) rfl (by assumption)) ?_;refine Z2 ?_;refine .p rfl (λ_=>cg (LW (ak.fn y (List.mem_of_getElem? hx))) FB.out (.cons (.t rfl) .nil)) ?_;refine Z1 ?_;refine .p rfl (λ_=>bC (enc:=iU) [y] FU.out FC.out rfl FZ.out rfl (.cons (.t rfl) .nil) rfl rfl rfl rfl rfl) ?_;refine .e rfl (aK (i:=0) FU.out FU.out FC.out rfl FZ.out rfl FY.out (.t rfl) (.t rfl) rfl (by first|omega|(simp<;>omega)) (by first|omega|(simp<;>omega))) λYW _=>?_;refine .fin ?_;refine dh ?_;refine .round (s.1+1,YW) (by omega) (by omega) (by simp only[bE hx];rfl) ?_;exact(.get rfl (aa.int (by omega)) (.keep 32 rfl rfl))
 have hall:x.aq.take s.1=x.aq:=List.take_of_length_le (by omega);rw[hall];refine .jX (n:=3) (enc:=iU) (i:=0) (j:=0) (f:=2) rfl rfl rfl ?_;refine .share (t:=3) (i:=0) rfl rfl ?_;refine eB ?_;refine br ?_;exact .z
theorem LX:bu Wo 7 [aC (bp gZ),aC [nV 10,nV 2,nV 4],af .i64 1] [] (γ:=qE×Nat) (λg=>oe g.1 K0) (λg=>[dZ g.1 K0 ⟨g.2,4,none,False⟩ j4,aX g.1 K0 I9]) (λg=>aZ [ax g.2 0,ax g.1.sb 0,ax g.1.X.ab 0]):=by
 refine In 50 Tryz.func7 λ_ _ _=>?_;refine dh ?_;refine .n (cE (h:=yz (n:=1048576) (by decide))) rfl λBv v9=>?_;refine cC ?_;refine .p (cA (h:=vS Zd)) rfl ?_;refine Z2 ?_;refine .n (cE (h:=rS (fr:=1))) rfl λGc Tf=>?_;refine .n (cE (h:=xz (pb:=Gc) (X:=Bv) (a:=TY 1048576) (m:=gZ) (num:=0) (Ba v9 (by decide)) zg.md okR (by decide) Tb (by rw[zg.rm.1,zg.rm.2,v9];decide) (by decide) (by decide) rfl rfl)) rfl λIF Px=>?_;refine Z9 ?_;obtain⟨b26,r26⟩:=IF;have hr:=zg.seg Px;simp only at hr;subst hr;refine dh ?_;refine Cd (λc0=>?_) λc0=>?_
 · exact(c0.elim (λh=>h rfl) (λh=>h rfl)).elim
 refine Z7 ?_;refine .n (cE (h:=D3 (a:=NC gZ 1048576) (cells:=10) (frames:=2) (fuel:=4) (LQ zg v9 (by decide) (by decide)).1 (by decide) (by decide) (by decide) (by decide) (by decide) (Tq v9))) rfl λKS h41=>?_;refine ij ?_;refine CT λc1=>?_;refine kL ?_;refine Post.bh rfl rfl ((Tp Bv Gc b26 KS.2.1 KS.2.2,KS.1)) (by exact(NF v9).1) (aF.cons _ (aF.trans (I8 (K:=K0) (c:=I9) (r:=[_,_]) (NF v9).2 rfl rfl) (aF.cons _ (aF.nil _)))) rfl (.cons (.rt rfl) ?_ (.cons (.rt rfl) ?_ (.cons (.rt rfl) ?_ .nil)))
 · exact .z
 · exact .z
 exact .z
end Go.Proofs.YtppekopemdoclaaGreatDoor
end
section
namespace Go.Hl
open Go.RowKit Classical
noncomputable section
def aN3:Option (qE×Nat)->VP
 |none=>Uq
 |some r=>ax r.2 0
def lE(m:aT):bM:=⟨[],[],m.aA.map (·.Value.toNat),(zn m m.bN.length).map Int.toNat,[],GI 64,0⟩
abbrev CY(m:aT)(n:Nat):ep:=Hs m (TY n) m.bN.length
abbrev runM(X:oB)(m:aT)(n cells frames pb sb kb fb:Nat):qE:=To X (uP (uP (CY m n) (aJ (8*cells))) (aJ (12*frames))) pb sb kb fb (TY n).height ((TY n).height+rj m) (CY m n).height (uP (CY m n) (aJ (8*cells))).height
theorem NG{a:ep}{c y n:Nat}(hh:a.height<=a.bytes.length)(h:y+n<=a.height):(uP a c).get y n=a.get y n:=by
 unfold ep.get
 show((List.take a.height a.bytes++List.replicate c 0++List.drop (a.height+c) a.bytes).drop y).take n=_
 have hl:(List.take a.height a.bytes).length=a.height:=by rw[List.length_take];omega
 rw[List.append_assoc,List.drop_append_of_le_length (by omega),List.take_append_of_le_length (by rw[List.length_drop];omega),List.drop_take,List.take_take,Nat.min_eq_left (by omega)]
theorem Tr{tb:List Int}{e:gR}{N:Int}(h:∀v∈tb,0<=v/\v<=N)(he:∀f∈e.aq,0<=f/\f<N)(hN:1<=N\/e.aq=[]):∀k,k<=e.aq.length->∀v∈TZ tb e k,0<=v/\v<=N
 |0,_=>h
 |k+1,hk=>λv hv=>by
  rcases List.mem_or_eq_of_mem_set (show v∈(TZ tb e k).set _ _ from hv) with hv|rfl
  · exact Tr h he hN k (by omega) v hv
  · obtain⟨f,hf⟩:=ah (xs:=e.aq) (k:=k) (by omega)
    have:=he f (List.mem_of_getElem? hf);rw[hf];simp only[Option.getD_some];omega
theorem NH{m:aT}(hf:dB m):∀k,k<=m.bN.length->∀v∈zn m k,0<=v/\v<=(m.ay.length:Int)+(m.aq.length:Int)
 |0,_=>λv hv=>by rw[List.eq_of_mem_replicate (show v∈List.replicate (fH m) 0 from hv)];omega
 | k +1,hk=>by
  obtain⟨e,he⟩:=ah (xs:=m.bN) (k:=k) (by omega);rw[Sb he];refine Tr (NH hf k (by omega)) (λf hff=>?_) ?_ _ (Nat.le_refl _)
  · have h5:=(ru hf (List.mem_of_getElem? he)).2.2.2 f hff
    unfold kE dc at h5;omega
  · cases hl:e.aq with
    |nil=>exact .inr rfl
    |cons f r=>
     have h5:=(ru hf (List.mem_of_getElem? he)).2.2.2 f (by rw[hl];exact List.mem_cons_self);unfold kE dc at h5;exact .inl (by omega)
variable {m:aT}
theorem LY(hf:dB m)(h:m.cP=[]):m.dA=[]:=by
 cases hd:m.dA with
 |nil=>rfl
 |cons d r=>
  have h1:=(wN hf (z:=d) (by rw[hd];exact List.mem_cons_self)).2.1;unfold kE at h1;rw[h] at h1;simp at h1;omega
theorem V5(h:m.dA=[]){r:Nat×Nat×Int}(k:Cq m r):(∃k,r=(k,0,5))\/(nF m m.bN.length/\r=(m.bN.length,0,0)):=by
 rcases k with⟨k,e,_,_,_,k5⟩|⟨_,k,d,h1,_⟩|⟨h1,_,k⟩
 · exact .inl ⟨k,k5⟩
 · rw[h] at h1;cases h1
 · rw[h] at k;exact .inr ⟨h1,k⟩
theorem P5(hv:dK m)(hm:rq m):rj m<=960000/\Cp m<=8000:=by
 have h1:=rH (8*m.aA.length);have h2:=rH (4*fH m);have h3:=hm.r2.2.2;have h4:=hm.gl;have e1:rj m=aJ (8*m.aA.length):=rfl;have e2:Cp m=aJ (4*fH m):=rfl;omega
section
variable {m:aT} {X:oB} {n cells frames pb sb kb fb:Nat}
theorem Jd(hm:rq m)(hX:X.size=n)(hn:n<=4194304)(hf:rj m+Cp m+aJ (8*cells)+aJ (12*frames)<=n):dz X (CY m n)/\(CY m n).height=rj m+Cp m/\(CY m n).height+aJ (8*cells)+aJ (12*frames)<=X.size:=by
 have hk:=EL (X:=X) (m:=m) (Ba hX hn) hm (by rw[hX];show 0+_<=n;omega) m.bN.length;have h2:(CY m n).height=rj m+Cp m:=by rw[hk.2.height];show 0+rj m+Cp m=_;omega
 exact⟨hk.1,h2,by rw[h2,hX];omega⟩
theorem FG(hm:rq m)(hv:dK m)(hs:ny m)(hX:X.size=n)(hn:n<=4194304)(hc:cells<=65536)(hr:frames<=10000)(hf:rj m+Cp m+aJ (8*cells)+aJ (12*frames)<=n)(hel:nF m m.bN.length):
    oe (runM X m n cells frames pb sb kb fb) (runK m cells frames)/\gV (runM X m n cells frames pb sb kb fb) (runK m cells frames) (uP (uP (CY m n) (aJ (8*cells))) (aJ (12*frames))) (lE m)/\qK (runK m cells frames) (lE m):=by
  obtain⟨h1,h2,h3⟩:=Jd (cells:=cells) (frames:=frames) hm hX hn hf;have c1:8*cells<=aJ (8*cells):=qo (by omega);have c2:12*frames<=aJ (12*frames):=qo (by omega);have r1:=hm.r1.1;have r2:=hm.r2.1;have Xi:=hm.gl
  have hhi:=h1.hi;have pX:=h1.len
  have h4:dz X (uP (CY m n) (aJ (8*cells))):=mw h1 (by omega);have h5:dz X (uP (uP (CY m n) (aJ (8*cells))) (aJ (12*frames))):=mw h4 (by show(CY m n).height+aJ (8*cells)+_<=_;omega);have hS:=Yo.begin (X:=X) (m:=m) (a:=TY n) (Ba hX hn) hm (Yq hv.1 hs) (by rw[hX];show 0+_<=n;omega) (Nat.le_refl _) hel 0
  have VL:∀y w,y+w<=rj m+Cp m->(uP (uP (CY m n) (aJ (8*cells))) (aJ (12*frames))).get y w=(CY m n).get y w:=λy w hy=>by
    have h6:=h4.len;have h7:=h4.hi
    rw[NG (by omega) (by show y+w<=(CY m n).height+aJ (8*cells);omega),NG (by omega) (by omega)]
  have htb:=Hu m m.bN.length;have hle:=NH hv.1 m.bN.length (Nat.le_refl _);have TW:(runK m cells frames).dN=m.ay.length:=rfl;have hon:(runK m cells frames).own.length=m.aq.length:=iM;refine⟨⟨?_,?_,?_,?_,Xi,hc,hr,by show 0<64/\64<=1024;decide,λz hz=>(hm.gv z hz).2.2⟩,⟨h5, .refl _, .nil, .nil,λi v hi=>?_,λi v hi=>?_,Nat.zero_le _,Nat.zero_le _,by show(m.aA.map _).length=_;rw[List.length_map];rfl,by show((zn m m.bN.length).map Int.toNat).length=_;rw[List.length_map,htb];rfl⟩,⟨λf hf=>(by cases hf),λv Gb=>?_⟩⟩
  · show 0+8*m.aA.length<=0+rj m;omega
  · show 0+rj m+4*fH m<=(CY m n).height;omega
  · show(CY m n).height+8*cells<=(CY m n).height+aJ (8*cells);omega
  · show(CY m n).height+aJ (8*cells)+12*frames<=X.size;omega
  · have hi':(m.aA.map (·.Value.toNat))[i]?=some v:=hi
    rw[List.getElem?_map] at hi';obtain⟨z,hz,rfl⟩:=Option.map_eq_some_iff.1 hi';have hlt:=(List.getElem?_eq_some_iff.1 hz).1;have h8:=hS.gl i z.Value (by show(m.aA.map (·.Value))[i]?=_;rw[List.getElem?_map,hz];rfl)
    show nv ((uP _ _).get (0+8*i) 8)=_
    rw[VL _ _ (by omega)];have h9:(nv ((CY m n).get (0+8*i) 8):Int)=z.Value:=h8;omega
  · have hi':((zn m m.bN.length).map Int.toNat)[i]?=some v:=hi
    rw[List.getElem?_map] at hi';obtain⟨z,hz,rfl⟩:=Option.map_eq_some_iff.1 hi';have hlt:=(List.getElem?_eq_some_iff.1 hz).1;have h8:(nv ((CY m n).get (0+rj m+4*i) 4):Int)=z:=hS.tb i z hz
    show nv ((uP _ _).get (0+rj m+4*i) 4)=_
    rw[VL _ _ (by omega)];omega
  · obtain⟨z,hz,rfl⟩:=List.mem_map.1 (show v∈(zn m m.bN.length).map Int.toNat from Gb)
    have:=hle z hz;rw[TW,hon];omega
end
end
end Go.Hl
end
section
namespace Go.Proofs.YtppekopemdoclaaGreatDoor
open Go.Hl Go.RowKit
theorem LZ{X:oB}{m:aT}{pb:Nat}{num:Int}(ak:fV m)(aR:m.aq.length<=60000)(bO:¬dK m):dF Wo 18 [ck (bp m),ax X.ab 0,ax pb 0,af .i64 num] (aZ [Uq,af .i64 0,af .i64 5]):=by
 refine In 58 Tryz.func18 λ_ _ _=>?_;refine eB ?_;refine .p (dy FU.out (.t rfl)) rfl ?_;refine Z2 ?_;refine .g (de.gF rfl rfl rfl rfl (λhg=>dy FU.out (.when (.t rfl) hg))) rfl rfl ?_;refine Z4 ?_;refine Cd (λc0=>?_) λc0=>?_
 · exact(c0.elim id id).elim
 refine Z3 ?_;refine .n (cE (h:=B5 ak aR)) rfl λQC Nm=>?_;refine Z4 ?_;refine Cd (λc1=>?_) λc1=>?_
 ·
  refine cC ?_;refine TX ?_ ?_ ?_
  · exact aa.refl _
  · exact aa.refl _
  exact aa.refl _
 exact(c1 bO).elim
theorem L1{x:aT}{cells frames fuel:Nat}{fr:Int}(ak:ny x)(aR:fV x)(bO:x.aq.length<=60000)(dO:dK x->rq x)(jE:x.cP=[])(sx:1<=cells)(Ce:cells<=65536)(DZ:1<=frames)(QK:frames<=10000)(PL:fuel<=10000000)(P0:8*cells<=4096)(P1:12*frames<=4096):bu Wo 7 [aC (bp x),aC [nV cells,nV frames,nV fuel],af .i64 fr] [] (γ:=Option (qE×Nat)) (λg=>∀r,g=some r->oe r.1 (runK x cells frames)/\qK (runK x cells frames) (lE x)/\dK x) (λg=>match g with|none=>[]|some r=>[dZ r.1 (runK x cells frames) ⟨r.2,fuel,none,False⟩ j4,aX r.1 (runK x cells frames) (lE x)]) (λg=>aZ [aN3 g,fS,fS]):=by
 refine In 50 Tryz.func7 λ_ _ _=>?_;have F8:=rH (8*cells);have ZE:=rH (12*frames);refine dh ?_;refine .n (cE (h:=yz (n:=1048576) (by decide))) rfl λBv v9=>?_;refine Z8 ?_;by_cases hv:dK x
 ·
  have hm:=dO hv;obtain⟨JB,Ga⟩:=P5 hv hm;have hda:=LY hv.1 jE;refine Z2 ?_;refine .p (cA (h:=vS ak)) rfl ?_;refine Z2 ?_;refine .n (cE (h:=rS (fr:=fr))) rfl λGc Tf=>?_;refine .n (cE (h:=xz (pb:=Gc) (X:=Bv) (a:=TY 1048576) (m:=x) (num:=0) (Ba v9 (by decide)) hm aR bO hv (by rw[v9];show 0+_<=_;omega) (by decide) (by decide) jE hda)) rfl λIF Px=>?_;refine Z9 ?_;obtain⟨b26,r26⟩:=IF;simp only at Px;refine Z2 ?_;rcases V5 hda Px with⟨k,hr⟩|⟨hel,hr⟩
  all_goals subst hr
  ·
   refine Z9 ?_;refine Cd (λc0=>?_) λc0=>?_
   ·
    refine cC ?_;refine Post.bh rfl rfl (none) (by intro r h;cases h) (aF.nil _) rfl (.cons (.rt rfl) ?_ (.cons (.rt rfl) ?_ (.cons (.rt rfl) ?_ .nil)))
    · exact aa.refl _
    · exact aa.any
    exact aa.any
   exact(c0 (.inl (show(5:Int)≠0 by decide))).elim
  have hroom:rj x+Cp x+aJ (8*cells)+aJ (12*frames)<=1048576:=by omega
  have hfit:=Jd (m:=x) (cells:=cells) (frames:=frames) hm v9 (by decide) hroom;have hall:=FG (pb:=Gc) (sb:=b26) (kb:=0) (fb:=0) hm hv ak v9 (by decide) Ce QK hroom hel;refine Z9 ?_;refine Cd (λc0=>?_) λc0=>?_
  · exact(c0.elim (λh=>h rfl) (λh=>h rfl)).elim
  refine Z7 ?_;refine .n (cE (h:=D3 (a:=CY x 1048576) (cells:=cells) (frames:=frames) (fuel:=fuel) hfit.1 sx Ce DZ QK PL hfit.2.2)) rfl λKS h41=>?_;refine ij ?_;refine CT λc1=>?_;refine kL ?_;refine Post.bh rfl rfl (some (runM Bv x 1048576 cells frames Gc b26 KS.2.1 KS.2.2,KS.1)) (by intro r h;cases h;have h9:=FG (pb:=Gc) (sb:=b26) (kb:=KS.2.1) (fb:=KS.2.2) hm hv ak v9 (by decide) Ce QK hroom hel;exact⟨h9.1,h9.2.2,hv⟩) (aF.cons _ (aF.trans (I8 (K:=(runK x cells frames)) (c:=lE x) (r:=[_,_]) (FG (pb:=Gc) (sb:=b26) (kb:=KS.2.1) (fb:=KS.2.2) hm hv ak v9 (by decide) Ce QK hroom hel).2.1 rfl rfl) (aF.cons _ (aF.nil _)))) rfl (.cons (.rt rfl) ?_ (.cons (.rt rfl) ?_ (.cons (.rt rfl) ?_ .nil)))
  · exact aa.refl _
  · exact aa.any
  exact aa.any
 refine Z2 ?_;refine .p (cA (h:=vS ak)) rfl ?_;refine Z2 ?_;refine .n (cE (h:=rS (fr:=fr))) rfl λGc Tf=>?_;refine .p (cA (h:=LZ (X:=Bv) (m:=x) (pb:=Gc) (num:=0) aR bO hv)) rfl ?_;refine J2 ?_;refine Cd (λc0=>?_) λc0=>?_
 ·
  refine cC ?_;refine Post.bh rfl rfl (none) (by intro r h;cases h) (aF.nil _) rfl (.cons (.rt rfl) ?_ (.cons (.rt rfl) ?_ (.cons (.rt rfl) ?_ .nil)))
  · exact aa.refl _
  · exact aa.any
  exact aa.any
 exact(c0 (.inr (show(5:Int)≠0 by decide))).elim
theorem CZ{b:j8}:dF Wo 34 [aC (iT b)] (af .i64 (sW b)):=by
 refine In 39 Tryz.func34 λ_ _ _=>?_;refine .fact (t:=0) rfl (λS w v h=>Rz h) λhlen=>?_;have kR:=hlen.locals;have lD:=hlen.l;refine Z29 ?_;refine .bk (σ:=Nat) (λ_=>[]) (λk=>[(4,af .i64 (k:Int)),(3,af .i64 (max ((b.aV.length:Int)-60) 0+max ((b.L.length:Int)-150) 0+lC (pg b.L q9) k))]) (λk=>k<=b.L.length/\k<=150) (λk=>b.L.length-k) 0 ⟨by omega,by omega⟩ rfl ?_ ?_
 · exact(.get rfl (aa.refl _) (.get rfl (aa.int (by simp[lC])) (.refl _ _)))
 rintro k ⟨hk,hk2⟩;have hq:=mq (by omega) (xY hlen) k;refine ij ?_;refine Cd (λc0=>?_) λc0=>?_
 ·
  obtain⟨x,hx⟩:=ah (xs:=b.L) (k:=k) (by omega);have hxl:=hlen.all k x hx;refine Z9 ?_;refine .p (cI _) rfl ?_;refine oA ?_;refine .round (k+1) ⟨by omega,by omega⟩ (by omega) rfl ?_;exact(.get rfl (aa.int (by omega)) (.get rfl (aa.int (by rw[q8 hx];unfold q9;omega)) (.keep 26 rfl rfl)))
 refine eB ?_;refine br ?_;exact aa.int (by unfold sW sV;rw[show min b.L.length 150=k by omega])
theorem L2{x:aT}:dF Wo 14 [aC (bp x)] (af .i64 (ri x)):=by
 refine In 204 Tryz.func14 λ_ _ _=>?_;refine .fact (t:=0) rfl (λS w v h=>sX h) λhlen=>?_;have hall:=hlen;obtain⟨⟨Ci,kR,lD,m8,m9,nc,nk,nq⟩,⟨QJ,hi1,hi2,hi3,hi4⟩,hi5⟩:=hlen;have hb:=qt hall;have hb0:=hb.n0;obtain⟨Cl,Uj,Ts,hb4,hb5⟩:=AG hb;refine Z40 ?_;refine Z25 ?_;refine .bk (σ:=Nat) (λ_=>[]) (λk0=>[(4,af .i64 (k0:Int)),(3,af .i64 (p4 x+lC (pg x.bQ Kg) k0))]) (λk0=>k0<=x.bQ.length/\k0<=60) (λk0=>x.bQ.length-k0) 0 ⟨by omega,by omega⟩ rfl ?_ ?_
 · exact(.get rfl (aa.refl _) (.get rfl (aa.int (by simp only[lC];unfold p4;omega)) (.refl _ _)))
 rintro k0 ⟨JC,hc0⟩;have JA:=mq (by omega) hb.sig k0;refine ij ?_;refine Cd (λc0=>?_) λc0=>?_
 ·
  obtain⟨y,hx⟩:=ah (xs:=x.bQ) (k:=k0) (by omega);have hy1:=QJ k0 y hx;refine Z4 ?_;refine .bL 18 2 FM.out (by kernel_rfl) (k:= ?_);refine Z4 ?_;refine .p (cI _) ?_;refine Z6 ?_;refine .p (cI _) ?_;refine Dh ?_;refine .round (k0+1) ⟨by omega,by omega⟩ (by omega) rfl ?_;exact(.get rfl (aa.int (by omega)) (.get rfl (aa.int (by rw[q8 hx];unfold Kg;omega)) (.keep 34 rfl rfl)))
 refine eB ?_;refine .bk (σ:=Nat) (λ_=>[]) (λk1=>[(5,af .i64 (k1:Int)),(3,af .i64 (ve x+lC (pg x.ay Kh) k1))]) (λk1=>k1<=x.ay.length/\k1<=25) (λk1=>x.ay.length-k1) 0 ⟨by omega,by omega⟩ rfl ?_ ?_
 · exact(.get rfl (aa.refl _) (.get rfl (aa.int (by simp only[lC];unfold ve sV;rw[show min x.bQ.length 60=k0 by omega];omega)) (.refl _ _)))
 rintro k1 ⟨u5,F8⟩;have WD:=mq (by omega) hb.imp k1;refine ij ?_;refine Cd (λc1=>?_) λc1=>?_
 ·
  obtain⟨y,hx⟩:=ah (xs:=x.ay) (k:=k1) (by omega);have hy1:=hi1 k1 y hx;refine Z4 ?_;refine .bL 18 2 FM.out (by kernel_rfl) (k:= ?_);refine Z4 ?_;refine .p (cI _) ?_;refine Z6 ?_;refine .p (cI _) ?_;refine Dh ?_;refine .round (k1+1) ⟨by omega,by omega⟩ (by omega) rfl ?_;exact(.get rfl (aa.int (by omega)) (.get rfl (aa.int (by rw[q8 hx];unfold Kh;omega)) (.keep 34 rfl rfl)))
 refine eB ?_;refine .bk (σ:=Nat) (λ_=>[]) (λk2=>[(6,af .i64 (k2:Int)),(3,af .i64 (vf x+lC (pg x.aq ZO) k2))]) (λk2=>k2<=x.aq.length/\k2<=110) (λk2=>x.aq.length-k2) 0 ⟨by omega,by omega⟩ rfl ?_ ?_
 · exact(.get rfl (aa.refl _) (.get rfl (aa.int (by simp only[lC];unfold vf sV;rw[show min x.ay.length 25=k1 by omega];omega)) (.refl _ _)))
 rintro k2 ⟨hk2,ZE⟩;have ZK:=mq (by omega) hb.fn k2;refine ij ?_;refine Cd (λc2=>?_) λc2=>?_
 ·
  obtain⟨y,hx⟩:=ah (xs:=x.aq) (k:=k2) (by omega);have hy1:=hb.fn k2 y hx;unfold ZO at hy1;refine Z9 ?_;refine .p (cI _) rfl ?_;refine Z2 ?_;refine .p (cA (h:=CZ)) rfl ?_;refine cC ?_;refine .round (k2+1) ⟨by omega,by omega⟩ (by omega) rfl ?_;exact(.get rfl (aa.int (by omega)) (.get rfl (aa.int (by rw[q8 hx];unfold ZO;omega)) (.keep 24 rfl rfl)))
 refine eB ?_;refine .bk (σ:=Nat) (λ_=>[]) (λk3=>[(7,af .i64 (k3:Int)),(3,af .i64 (vg x+lC (pg x.bV Ki) k3))]) (λk3=>k3<=x.bV.length/\k3<=60) (λk3=>x.bV.length-k3) 0 ⟨by omega,by omega⟩ rfl ?_ ?_
 · exact(.get rfl (aa.refl _) (.get rfl (aa.int (by simp only[lC];unfold vg sV;rw[show min x.aq.length 110=k2 by omega];omega)) (.refl _ _)))
 rintro k3 ⟨DL,hc3⟩;have hq3:=mq (by omega) hb.exp k3;refine ij ?_;refine Cd (λc3=>?_) λc3=>?_
 ·
  obtain⟨y,hx⟩:=ah (xs:=x.bV) (k:=k3) (by omega);have hy1:=hi2 k3 y hx;refine Z9 ?_;refine .p (cI _) rfl ?_;refine oA ?_;refine .round (k3+1) ⟨by omega,by omega⟩ (by omega) rfl ?_;exact(.get rfl (aa.int (by omega)) (.get rfl (aa.int (by rw[q8 hx];unfold Ki;omega)) (.keep 26 rfl rfl)))
 refine eB ?_;refine .bk (σ:=Nat) (λ_=>[]) (λk4=>[(8,af .i64 (k4:Int)),(3,af .i64 (vi x+lC (pg x.bN AF) k4))]) (λk4=>k4<=x.bN.length/\k4<=25) (λk4=>x.bN.length-k4) 0 ⟨by omega,by omega⟩ rfl ?_ ?_
 · exact(.get rfl (aa.refl _) (.get rfl (aa.int (by simp only[lC];unfold vi sV;rw[show min x.bV.length 60=k3 by omega];omega)) (.refl _ _)))
 rintro k4 ⟨v5,hc4⟩;have hq4:=mq (by omega) hb.elem k4;refine ij ?_;refine Cd (λc4=>?_) λc4=>?_
 ·
  obtain⟨y,hx⟩:=ah (xs:=x.bN) (k:=k4) (by omega);have hy1:=hi3 k4 y hx;refine Z9 ?_;refine .p (cI _) rfl ?_;refine oA ?_;refine .round (k4+1) ⟨by omega,by omega⟩ (by omega) rfl ?_;exact(.get rfl (aa.int (by omega)) (.get rfl (aa.int (by rw[q8 hx];unfold AF;omega)) (.keep 26 rfl rfl)))
 refine eB ?_;refine .bk (σ:=Nat) (λ_=>[]) (λk5=>[(9,af .i64 (k5:Int)),(3,af .i64 (vj x+lC (pg x.dA yO) k5))]) (λk5=>k5<=x.dA.length/\k5<=25) (λk5=>x.dA.length-k5) 0 ⟨by omega,by omega⟩ rfl ?_ ?_
 · exact(.get rfl (aa.refl _) (.get rfl (aa.int (by simp only[lC];unfold vj sV;rw[show min x.bN.length 25=k4 by omega];omega)) (.refl _ _)))
 rintro k5 ⟨hk5,hc5⟩;have hq5:=mq (by omega) hb.data k5;refine ij ?_;refine Cd (λc5=>?_) λc5=>?_
 ·
  obtain⟨y,hx⟩:=ah (xs:=x.dA) (k:=k5) (by omega);have hy1:=hi4 k5 y hx;refine Z9 ?_;refine .p (cI _) rfl ?_;refine oA ?_;refine .round (k5+1) ⟨by omega,by omega⟩ (by omega) rfl ?_;exact(.get rfl (aa.int (by omega)) (.get rfl (aa.int (by rw[q8 hx];unfold yO;omega)) (.keep 26 rfl rfl)))
 refine eB ?_;refine br ?_;exact aa.int (by unfold ri sV;rw[show min x.dA.length 25=k5 by omega])
end Go.Proofs.YtppekopemdoclaaGreatDoor
end
section
namespace Go.Hl
theorem qL{α:Type}{x:α}{r s:List α}(h:(x::r)<:+s):r<:+s:=(List.suffix_cons x r).trans h
theorem kS{α:Type}{r s:List α}(h:r<:+s):r.length<=s.length:=h.length_le
theorem xA:∀(f:Nat) (s:List Int) (d:Nat) (r:List Int),eM f s d=some r->r<:+s:=by
 intro f
 induction f with
 |zero=>intro s d r h;simp[eM] at h
 | succ f ih =>
  intro s d r h;cases s with
  |nil=>simp[eM] at h;subst h;exact List.suffix_refl _
  | cons c s =>
   simp only[eM] at h
   split at h
   · cases h;exact List.suffix_refl _
   split at h
   · split at h
     · cases h
     · split at h
       · cases h
       · cases h
       · rename_i c2 r2 h1
         have e1:=ih _ _ _ h1
         split at h
         · split at h
           · split at h
             · cases h
             · cases h
             · rename_i c3 r3 h2
               have e2:=ih _ _ _ h2
               split at h
               · cases h
               · exact((ih _ _ _ h).trans (qL (e2.trans (qL e1)))).trans (List.suffix_cons _ _)
           · cases h
         · exact((ih _ _ _ h).trans (qL e1)).trans (List.suffix_cons _ _)
   · exact(ih _ _ _ h).trans (List.suffix_cons _ _)
theorem oh:∀(f g:Nat) (s:List Int) (d:Nat),s.length<f->s.length<g->eM f s d=eM g s d:=by
 intro f
 induction f with
 |zero=>intro g s d h;omega
 | succ f ih =>
  intro g s d h hg;cases g with
  |zero=>omega
  | succ g =>
   cases s with
   |nil=>rfl
   | cons c s =>
    simp only[List.length_cons] at h hg;have i1:eM f s (d+1)=eM g s (d+1):=ih g s _ (by omega) (by omega);have i2:eM f s d=eM g s d:=ih g s _ (by omega) (by omega);simp only[eM,i1,i2]
    split
    · rfl
    split
    · split
      · rfl
      · split
        · rfl
        · rfl
        · rename_i c2 r2 h1
          have l1:=kS (xA _ _ _ _ h1);simp only[List.length_cons] at l1;have i3:eM f r2 (d+1)=eM g r2 (d+1):=ih g r2 _ (by omega) (by omega);have i4:eM f r2 d=eM g r2 d:=ih g r2 _ (by omega) (by omega);rw[i3,i4]
          split
          · split
            · split
              · rfl
              · rfl
              · rename_i c3 r3 h2
                have l2:=kS (xA _ _ _ _ h2);simp only[List.length_cons] at l2
                split
                · rfl
                · exact ih g r3 _ (by omega) (by omega)
            · rfl
          · rfl
    · rfl
section
variable {ι:Type} (cd:ι->Int) (rr:ι->List UInt8) (pl:ι->ee->List (List UInt8)->Option ee)
theorem lY:∀(f:Nat) (s:List ι) (labs:List (List UInt8)) (res:List UInt8) (st:ee) (base:Nat) (hs:List Nat) (rest:List ι),kH cd rr pl f s labs res st base=some (hs,rest)->rest<:+s:=by
 intro f
 induction f with
 |zero=>intro s _ _ _ _ _ _ h;simp[kH] at h
 | succ f ih=>
  intro s labs res st base hs rest h;cases s with
  |nil=>simp[kH] at h;rw[<-h.2];exact List.suffix_refl _
  | cons x s=>
   simp only[kH] at h
   split at h
   · split at h
     · cases h;exact List.suffix_refl _
     · cases h
   split at h
   · obtain⟨s1,_,h⟩:=Option.bind_eq_some_iff.1 h
     obtain⟨⟨l6,l1⟩,Cl,h⟩:=Option.bind_eq_some_iff.1 h;have e1:=ih _ _ _ _ _ _ _ Cl;cases l1 with
     |nil=>cases h
     |cons x2 r2=>
      simp only at h
      split at h
      · obtain⟨⟨qR,l2⟩,Uj,h⟩:=Option.bind_eq_some_iff.1 h
        have e2:=ih _ _ _ _ _ _ _ Uj;cases l2 with
        |nil=>cases h
        |cons x3 r3=>
         simp only at h;obtain⟨⟨WX,l3⟩,Ts,h⟩:=Option.map_eq_some_iff.1 h;cases h;exact((ih _ _ _ _ _ _ _ Ts).trans (qL (e2.trans (qL e1)))).trans (List.suffix_cons _ _)
      split at h
      · cases h
      · obtain⟨⟨WX,l3⟩,Ts,h⟩:=Option.map_eq_some_iff.1 h
        cases h;exact((ih _ _ _ _ _ _ _ Ts).trans (qL e1)).trans (List.suffix_cons _ _)
   · obtain⟨s1,_,h⟩:=Option.bind_eq_some_iff.1 h
     obtain⟨⟨l6,l1⟩,Cl,h⟩:=Option.map_eq_some_iff.1 h;cases h;exact(ih _ _ _ _ _ _ _ Cl).trans (List.suffix_cons _ _)
theorem yA:∀(f g:Nat) (s:List ι) (labs:List (List UInt8)) (res:List UInt8) (st:ee) (base:Nat),s.length<f->s.length<g->kH cd rr pl f s labs res st base=kH cd rr pl g s labs res st base:=by
 intro f
 induction f with
 |zero=>intro g s _ _ _ _ h;omega
 | succ f ih=>
  intro g s labs res st base h hg;cases g with
  |zero=>omega
  | succ g=>
   cases s with
   |nil=>rfl
   | cons x s=>
    simp only[List.length_cons] at h hg;simp only[kH]
    split
    · rfl
    split
    · refine Option.bind_congr λs1 _=>?_
      rw[ih g s _ _ _ _ (by omega) (by omega)];refine Option.bind_congr λp hp=>?_;obtain⟨l6,l1⟩:=p;have e1:=kS (lY cd rr pl _ _ _ _ _ _ _ _ hp);cases l1 with
      |nil=>rfl
      |cons x2 r2=>
       simp only[List.length_cons] at e1;simp only
       split
       · rw[ih g r2 _ _ _ _ (by omega) (by omega)]
         refine Option.bind_congr λp hp=>?_;obtain⟨qR,l2⟩:=p;have e2:=kS (lY cd rr pl _ _ _ _ _ _ _ _ hp);cases l2 with
         |nil=>rfl
         |cons x3 r3=>
          simp only[List.length_cons] at e2;simp only;rw[ih g r3 _ _ _ _ (by omega) (by omega)]
       split
       · rfl
       · rw[ih g r2 _ _ _ _ (by omega) (by omega)]
    · refine Option.bind_congr λs1 _=>?_
      rw[ih g s _ _ _ _ (by omega) (by omega)]
noncomputable def Je(s:List ι)(labs:List (List UInt8))(res:List UInt8)(st:ee)(base:Nat):Option (List Nat×List ι):=kH cd rr pl (s.length+1) s labs res st base
def oZ(s:List ι)(d:Nat):Prop:=∃jy,eM (s.length+1) (s.map cd) d=some jy/\jy≠[]
variable {cd rr pl} {x:ι} {r:List ι} {labs:List (List UInt8)} {res:List UInt8} {st:ee} {base d:Nat}
theorem V6(h:cd x=11\/cd x=5)(hc:∃s',dD st res=some s'/\s'.1=[]):Je cd rr pl (x::r) labs res st base=some ([base+st.1.length],x::r):=by
 simp only[Je,kH,h,hc,if_true]
theorem L3(h:cd x=11\/cd x=5)(hc:¬∃s',dD st res=some s'/\s'.1=[]):Je cd rr pl (x::r) labs res st base=none:=by
 simp only[Je,kH,h,if_true];rw[if_neg hc]
theorem P6(h1:¬(cd x=11\/cd x=5))(h2:¬aN (cd x)):Je cd rr pl (x::r) labs res st base=(pl x st labs).bind λs1=>(Je cd rr pl r labs res s1 base).map λp=>((base+st.1.length)::p.1,p.2):=by
 simp only[Je,kH,h1,h2,if_false,List.length_cons]
theorem Tt(h1:¬(cd x=11\/cd x=5))(h2:aN (cd x)):Je cd rr pl (x::r) labs res st base=
    (if cd x=4 then dD st [127] else some st).bind λs1=>
      (Je cd rr pl r (labs++[if cd x=3 then[] else rr x]) (rr x) ([],False) (base+s1.1.length)).bind λp=>
      match p.2 with
      |[]=>none
      | x2::r2=>
        if cd x2=5 then
          (Je cd rr pl r2 (labs++[if cd x=3 then[] else rr x]) (rr x) ([],False) (base+s1.1.length)).bind λp2=>
          match p2.2 with
          |[]=>none
          |_::r3=>(Je cd rr pl r3 labs res (bG s1 (rr x)) base).map λp3=>((base+st.1.length)::p.1++p2.1++p3.1,p3.2)
        else if cd x=4/\rr x≠[] then none
        else(Je cd rr pl r2 labs res (bG s1 (rr x)) base).map λp3=>((base+st.1.length)::p.1++p3.1,p3.2):=by
  simp only[Je,kH,h1,h2,if_false,if_true,List.length_cons];refine Option.bind_congr λs1 _=>Option.bind_congr λp hp=>?_;obtain⟨l6,l1⟩:=p;have e1:=kS (lY cd rr pl _ _ _ _ _ _ _ _ hp);cases l1 with
  |nil=>rfl
  | cons x2 r2=>
    simp only[List.length_cons] at e1;simp only
    split
    · rw[yA cd rr pl (r.length+1) (r2.length+1) r2 _ _ _ _ (by omega) (by omega)]
      refine Option.bind_congr λp hp=>?_;obtain⟨qR,l2⟩:=p;have e2:=kS (lY cd rr pl _ _ _ _ _ _ _ _ hp);cases l2 with
      |nil=>rfl
      | cons x3 r3=>
        simp only[List.length_cons] at e2;simp only;rw[yA cd rr pl (r.length+1) (r3.length+1) r3 _ _ _ _ (by omega) (by omega)]
    split
    · rfl
    · rw[yA cd rr pl (r.length+1) (r2.length+1) r2 _ _ _ _ (by omega) (by omega)]
theorem yB:∀(f:Nat) (s:List ι) (d:Nat) (labs:List (List UInt8)) (res:List UInt8) (st:ee) (base:Nat) (hs:List Nat) (rest:List ι) (jy:List Int),s.length<f->eM f (s.map cd) d=some jy->kH cd rr pl f s labs res st base=some (hs,rest)->rest.map cd=jy:=by
 intro f
 induction f with
 |zero=>intro s d _ _ _ _ _ _ _ h;omega
 | succ f ih =>
  intro s d labs res st base hs rest jy h hr hb;cases s with
  |nil=>simp only[kH,Option.some.injEq,Prod.mk.injEq] at hb;simp[eM] at hr;rw[hr,<-hb.2];rfl
  | cons x r =>
   simp only[List.length_cons] at h;simp only[List.map_cons,eM] at hr;simp only[kH] at hb;by_cases h1:cd x=11\/cd x=5
   · simp only[h1,if_true,Option.some.injEq] at hr hb
     split at hb
     · cases hb;rw[<-hr];rfl
     · cases hb
   by_cases h2:aN (cd x)
   · simp only [h1,if_false,h2,if_true] at hr hb
     by_cases h3:64<=d
     · simp[h3] at hr
     simp only[h3,if_false] at hr;obtain⟨s1,_,hb⟩:=Option.bind_eq_some_iff.1 hb;obtain⟨⟨l6,l1⟩,Cl,hb⟩:=Option.bind_eq_some_iff.1 hb;cases JB:eM f (r.map cd) (d+1) with
     |none=>simp[JB] at hr
     | some GQ=>
      simp only[JB] at hr;have e1:=ih r (d+1) _ _ _ _ _ _ _ (by omega) JB Cl;have l1s:=kS (lY cd rr pl _ _ _ _ _ _ _ _ Cl);subst e1;cases l1 with
      |nil=>cases hb
      | cons x2 r2=>
       simp only[List.length_cons] at l1s;simp only[List.map_cons] at hr;simp only at hb;by_cases h5:cd x2=5
       · simp only[h5,if_true] at hr hb
         by_cases h4:cd x=4
         · simp only[h4,if_true] at hr
           obtain⟨⟨qR,l2⟩,Uj,hb⟩:=Option.bind_eq_some_iff.1 hb;cases Ga:eM f (r2.map cd) (d+1) with
           |none=>simp[Ga] at hr
           | some yP=>
            simp only[Ga] at hr;have e2:=ih r2 (d+1) _ _ _ _ _ _ _ (by omega) Ga Uj;have l2s:=kS (lY cd rr pl _ _ _ _ _ _ _ _ Uj);subst e2;cases l2 with
            |nil=>cases hb
            |cons x3 r3=>
             simp only[List.length_cons] at l2s;simp only[List.map_cons] at hr;simp only at hb
             split at hr
             · cases hr
             · obtain⟨⟨WX,l3⟩,Ts,hb⟩:=Option.map_eq_some_iff.1 hb
               cases hb;exact ih r3 d _ _ _ _ _ _ _ (by omega) hr Ts
         · simp[h4] at hr
       · simp only[h5,if_false] at hr hb
         split at hb
         · cases hb
         · obtain⟨⟨WX,l3⟩,Ts,hb⟩:=Option.map_eq_some_iff.1 hb
           cases hb;exact ih r2 d _ _ _ _ _ _ _ (by omega) hr Ts
   · simp only[h1,if_false,h2] at hr hb
     obtain⟨s1,_,hb⟩:=Option.bind_eq_some_iff.1 hb;obtain⟨⟨l6,l1⟩,Cl,hb⟩:=Option.map_eq_some_iff.1 hb;cases hb;exact ih r d _ _ _ _ _ _ _ (by omega) hr Cl
theorem L4(h:oZ cd (x::r) d)(h1:¬(cd x=11\/cd x=5))(h2:¬aN (cd x)):oZ cd r d:=by
 obtain⟨jy,h3,h4⟩:=h;simp only[List.length_cons,List.map_cons,eM,h1,h2,if_false] at h3;exact⟨jy,h3,h4⟩
theorem V7(h:oZ cd (x::r) d)(h2:aN (cd x)):oZ cd r (d+1)/\¬64<=d:=by
 obtain⟨jy,h3,h4⟩:=h;have h1:¬(cd x=11\/cd x=5):=by unfold aN at h2;omega
 simp only[List.length_cons,List.map_cons,eM,h1,h2,if_false,if_true] at h3
 split at h3
 · cases h3
 · rename_i h5
   split at h3
   · cases h3
   · cases h3
   · rename_i c2 r2 h6
     exact⟨⟨_,h6,by simp⟩,h5⟩
theorem V8{labs':List (List UInt8)}{hs:List Nat}{l:List ι}(h:oZ cd r d)(hb:Je cd rr pl r labs res st base=some (hs,l)):∃x2 r2,l=x2::r2/\(x2::r2)<:+r:=by
 obtain⟨jy,h3,h4⟩:=h;have e:=yB _ _ _ _ _ _ _ _ _ _ (by omega) h3 hb;have e2:=lY cd rr pl _ _ _ _ _ _ _ _ hb;cases l with
 |nil=>exact absurd e.symm h4
 |cons x2 r2=>exact⟨x2,r2,rfl,e2⟩
theorem vT{l6:List Nat}{x2:ι}{r2:List ι}(h:oZ cd (x::r) d)(h2:aN (cd x))(hb:Je cd rr pl r labs res st base=some (l6,x2::r2)):
    (cd x2=11/\oZ cd r2 d)\/(cd x2=5/\cd x=4/\oZ cd r2 (d+1)/\∀labs' res' st' base' qR l2,Je cd rr pl r2 labs' res' st' base'=some (qR,l2)->∃x3 r3,l2=x3::r3/\cd x3=11/\(x3::r3)<:+r2/\oZ cd r3 d):=by
  obtain⟨jy,h3,h4⟩:=h;have h1:¬(cd x=11\/cd x=5):=by unfold aN at h2;omega
  simp only[List.length_cons,List.map_cons,eM,h1,h2,if_false,if_true] at h3
  split at h3
  · cases h3
  · rename_i h5
    have hd:d+1<=64:=by omega
    cases JB:eM (r.length+1) (r.map cd) (d+1) with
    |none=>simp[JB] at h3
    | some GQ=>
      simp only[JB] at h3;have e:=yB _ _ _ _ _ _ _ _ _ _ (by omega) JB hb;have e2:=kS (lY cd rr pl _ _ _ _ _ _ _ _ hb);have k1:=((nZ (r.length+1) (r.map cd) (d+1) (by simp) hd).2 _ JB).2.1;subst e;simp only[List.length_cons] at e2;simp only[List.map_cons] at h3 k1;rcases k1 _ _ rfl with e5|e5
      · refine .inl ⟨e5,?_⟩
        simp only[e5,show ¬((11:Int)=5) by decide,if_false] at h3;exact⟨jy,by rw[<-h3];exact oh _ _ _ _ (by simp) (by simp;omega),h4⟩
      · simp only[e5,if_true] at h3
        split at h3
        · rename_i e4
          refine .inr ⟨e5,e4,?_⟩;cases Ga:eM (r.length+1) (r2.map cd) (d+1) with
          |none=>simp[Ga] at h3
          | some yP=>
            simp only[Ga] at h3;have hr2':eM (r2.length+1) (r2.map cd) (d+1)=some yP:=by rw[<-Ga];exact oh _ _ _ _ (by simp) (by simp;omega)
            have hne:yP≠[]:=by intro e;subst e;cases h3
            refine⟨⟨yP,hr2',hne⟩,λlabs' res' st' base' qR l2 Uj=>?_⟩;have e7:=yB _ _ _ _ _ _ _ _ _ _ (by omega) hr2' Uj;have e8:=lY cd rr pl _ _ _ _ _ _ _ _ Uj;have k2:=((nZ (r2.length+1) (r2.map cd) (d+1) (by simp) hd).2 _ hr2').2.1;subst e7;cases l2 with
            |nil=>exact absurd rfl hne
            | cons x3 r3=>
              have e9:=kS e8;simp only[List.length_cons] at e9;simp only[List.map_cons] at h3 k2
              split at h3
              · cases h3
              · rename_i hn5
                refine⟨x3,r3,rfl,(k2 _ _ rfl).resolve_right hn5,e8,⟨jy,?_,h4⟩⟩;rw[<-h3];exact oh _ _ _ _ (by simp) (by simp;omega)
        · cases h3
end
end Go.Hl
end
section
namespace Go.Hl
open Go.RowKit
def cQ(l:List aj):List Int:=l.map (·.Code)
def rc(s:List Int)(d:Nat):Option (List Int):=eM (s.length+1) s d
theorem Ze{c:Int}{r:List Int}{d:Nat}(h:c=11\/c=5):rc (c::r) d=some (c::r):=by simp only[rc,List.length_cons,eM,h,if_true]
theorem Tu{c:Int}{r:List Int}{d:Nat}(h:¬(c=11\/c=5))(h2:¬aN c):rc (c::r) d=rc r d:=by simp only[rc,List.length_cons,eM,h,h2,if_false]
theorem V9{c:Int}{r:List Int}{d:Nat}(h2:aN c)(h3:64<=d):rc (c::r) d=none:=by
 have h:¬(c=11\/c=5):=by unfold aN at h2;omega
 simp only[rc,List.length_cons,eM,h,h2,h3,if_false,if_true]
theorem xB{c:Int}{r:List Int}{d:Nat}(h2:aN c)(h3:¬64<=d):rc (c::r) d=match rc r (d+1) with
    |none=>none
    |some []=>none
    |some (c2::r2)=>if c2=5 then(if c=4 then(match rc r2 (d+1) with|none=>none|some []=>none|some (c3::r3)=>if c3=5 then none else rc r3 d) else none) else rc r2 d:=by
  have h:¬(c=11\/c=5):=by unfold aN at h2;omega
  simp only[rc,List.length_cons,eM,h,h2,h3,if_false,if_true];cases hr:eM (r.length+1) r (d+1) with
  |none=>rfl
  | some s =>
    cases s with
    |nil=>rfl
    | cons c2 r2=>
      have e1:=kS (xA _ _ _ _ hr);simp only[List.length_cons] at e1;simp only;rw[oh (r.length+1) (r2.length+1) r2 (d+1) (by omega) (by omega),oh (r.length+1) (r2.length+1) r2 d (by omega) (by omega)]
      split
      · split
        · cases Ga:eM (r2.length+1) r2 (d+1) with
          |none=>rfl
          | some s2=>
            cases s2 with
            |nil=>rfl
            | cons c3 r3=>
              have e2:=kS (xA _ _ _ _ Ga);simp only[List.length_cons] at e2;simp only;rw[oh (r.length+1) (r3.length+1) r3 d (by omega) (by omega)]
        · rfl
      · rfl
theorem Wa{s r:List Int}{c:Int}{d:Nat}(hd:d<=64)(h:rc s d=some (c::r)):c=11\/c=5:=((nZ (s.length+1) s d (by omega) hd).2 _ h).2.1 c r rfl
theorem D4(l:List aj):(cQ l).length=l.length:=by simp[cQ]
theorem gE{l:List aj}{i:Nat}{x:aj}(h:l[i]?=some x):(cQ l).drop i=x.Code::(cQ l).drop (i+1):=by
 refine uo ?_;rw[cQ,List.getElem?_map,h];rfl
theorem om{l:List aj}{i:Nat}(h:l.length<=i):(cQ l).drop i=[]:=List.drop_eq_nil_of_le (by rw[D4];exact h)
def rcP(l:List aj)(a d:Nat)(en:Int)(sp:List jr)(e:Int):Prop:=
 (e=0/\∃n:Nat,en=(n:Int)/\rc ((cQ l).drop a) d=some ((cQ l).drop n)/\a<=n/\n<=l.length/\sp.length+a<=n)\/(e≠0/\rc ((cQ l).drop a) d=none/\sp=[])
theorem zV{l:List aj}{a d:Nat}{en:Int}{sp:List jr}{e:Int}(h:rcP l a d en sp e):sp.length<=l.length:=by
 rcases h with⟨_,n,_,_,_,h5,h6⟩|⟨_,_,h⟩
 · omega
 · rw[h];simp
def rcM(l:List aj)(i d:Nat)(en:Int)(sp:List jr)(e:Int):Prop:=
 (e≠0/\rc ((cQ l).drop i) d=none/\sp.length<=20000)\/(e=0/\en=(l.length:Int)/\rc ((cQ l).drop i) d=none/\sp.length<=20000)\/
 (e=0/\∃n:Nat,en=(n:Int)/\n<l.length/\rc ((cQ l).drop i) d=rc ((cQ l).drop (n+1)) d/\i+1<=n/\sp.length+i+1<=n)
theorem aF.none{α:Type}{n:Nat}{enc:α->List VP}{r:List HP}:aF r (aH none n enc ([]:List α)::r):=λF S w h=>⟨λ_=>False,F,λ_ h=>h.elim,λ_ h=>h,rfl,h⟩
section
variable {l:List aj} {i d:Nat} {x:aj}
theorem L5(hx:l[i]?=some x)(ho:aN x.Code)(hd:¬64<=d){n:Nat}{y:aj}(hr:rc ((cQ l).drop (i+1)) (d+1)=some ((cQ l).drop n))(hy:l[n]?=some y)(h5:y.Code=5)(h4:x.Code≠4):rc ((cQ l).drop i) d=none:=by
 rw[gE hx,xB ho hd,hr,gE hy];simp only[h5,if_true,h4,if_false]
theorem Zf{n:Nat}{y:aj}(hx:l[i]?=some x)(ho:aN x.Code)(hd:¬64<=d)(hr:rc ((cQ l).drop (i+1)) (d+1)=some ((cQ l).drop n))(hy:l[n]?=some y)(h5:y.Code=5)(h4:x.Code=4):
    rc ((cQ l).drop i) d=match rc ((cQ l).drop (n+1)) (d+1) with|none=>none|some []=>none|some (c3::r3)=>if c3=5 then none else rc r3 d:=by
  rw[gE hx,xB ho hd,hr,gE hy];simp only[h5,if_true,h4]
theorem Zg{n:Nat}{y:aj}(hx:l[i]?=some x)(ho:aN x.Code)(hd:¬64<=d)(hr:rc ((cQ l).drop (i+1)) (d+1)=some ((cQ l).drop n))(hy:l[n]?=some y)(h5:y.Code≠5):
    rc ((cQ l).drop i) d=rc ((cQ l).drop (n+1)) d:=by
  rw[gE hx,xB ho hd,hr,gE hy];simp only[h5,if_false]
theorem Wb(hx:l[i]?=some x)(ho:aN x.Code)(hd:¬64<=d)(hr:rc ((cQ l).drop (i+1)) (d+1)=none):rc ((cQ l).drop i) d=none:=by
 rw[gE hx,xB ho hd,hr]
theorem Tv(hx:l[i]?=some x)(ho:aN x.Code)(hd:¬64<=d){n:Nat}(hn:l.length<=n)(hr:rc ((cQ l).drop (i+1)) (d+1)=some ((cQ l).drop n)):rc ((cQ l).drop i) d=none:=by
 rw[gE hx,xB ho hd,hr,om hn]
theorem Wc(hx:l[i]?=some x)(ho:aN x.Code)(hd:¬64<=d){en e:Int}{sp:List jr}(h:rcP l (i+1) (d+1) en sp e)(O3:l.length<=10000)(hn:¬((e=0/\en<(l.length:Int))/\(gI l en.toNat).Code=5)):rcM l i d en sp e:=by
 rcases h with⟨h1,n,h2,h3,h4,h5,h6⟩|⟨h1,h2,h3⟩
 · by_cases hlt:n<l.length
   · refine .inr (.inr ⟨h1,n,h2,hlt,?_,h4,by omega⟩)
     have hy:l[n]?=some (gI l n):=xw hlt;exact Zg hx ho hd h3 hy (λh9=>hn ⟨⟨h1,by omega⟩,by rw[h2];simpa using h9⟩)
   · exact .inr (.inl ⟨h1,by omega,Tv hx ho hd (by omega) h3,by omega⟩)
 · exact .inl ⟨h1,Wb hx ho hd h2,by rw[h3];simp⟩
theorem NI(hx:l[i]?=some x)(ho:aN x.Code)(hd:¬64<=d)(cd9:d<=64){en e Zh e2:Int}{sp sp2:List jr}(h:rcP l (i+1) (d+1) en sp e)(O3:l.length<=10000)(hn:(e=0/\en<(l.length:Int))/\(gI l en.toNat).Code=5)(h4:x.Code=4)(h':rcP l (en.toNat+1) (d+1) Zh sp2 e2):
    (((e2=0/\Zh<(l.length:Int))/\(gI l Zh.toNat).Code=5)->rc ((cQ l).drop i) d=none)/\(¬((e2=0/\Zh<(l.length:Int))/\(gI l Zh.toNat).Code=5)->rcM l i d Zh (sp++sp2) e2):=by
  rcases h with⟨_,n,h2,h3,h4',h5,h6⟩|⟨h1,h2,h3⟩
  · obtain⟨⟨h1,h1'⟩,h55⟩:=hn
    have hlt:n<l.length:=by omega
    have QL:en.toNat=n:=by omega
    rw[QL] at h55 h';have hy:l[n]?=some (gI l n):=xw hlt;have hk:=Zf hx ho hd h3 hy h55 h4;rw[hk];rcases h' with⟨k1,n2,k2,k3,k4,k5,k6⟩|⟨k1,k2,k3⟩
    · by_cases aj6:n2<l.length
      · have Tj:l[n2]?=some (gI l n2):=xw aj6
        have hn2:Zh.toNat=n2:=by omega
        rw[k3,gE Tj];simp only;refine⟨λh9=>?_,λh9=>?_⟩
        · rw[if_pos (by rw[hn2] at h9;exact h9.2)]
        · refine .inr (.inr ⟨k1,n2,k2,aj6,?_,by omega,by rw[List.length_append];omega⟩)
          rw[hk,k3,gE Tj];simp only;rw[if_neg (λh8=>h9 ⟨⟨k1,by omega⟩,by rw[hn2];exact h8⟩)]
      · have he:=om (l:=l) (i:=n2) (by omega)
        rw[k3,he];refine⟨λ_=>rfl,λ_=> .inr (.inl ⟨k1,by omega,by rw[hk,k3,he],by rw[List.length_append];omega⟩)⟩
    · rw[k2]
      exact⟨λ_=>rfl,λ_=> .inl ⟨k1,by rw[hk,k2],by rw[List.length_append,k3];simp;omega⟩⟩
  · exact absurd hn.1.1 h1
end
theorem zW(l:List aj):fQ (cQ l) []↔rc (cQ l) 0=some [11]:=x6 (by omega)
end Go.Hl
namespace Go.Hl
theorem zX(v:Int):v.tmod 128=if 0<=v then v%128 else-((-v)%128):=by
 split
 · rename_i h;exact Int.tmod_eq_emod_of_nonneg h
 · rename_i h
   have h1:v.tmod 128= -((-v).tmod 128):=by rw[Int.neg_tmod];omega
   rw[h1,Int.tmod_eq_emod_of_nonneg (by omega)]
theorem Wd{v:Int}(h1: -9223372036854775680<=v)(h2:v<=9223372036854775807):IntKind.i64.wrap ((IntKind.i64.wrap (v-v%128)).tdiv 128)=v/128:=by
 have hw:IntKind.i64.wrap (v-v%128)=128*(v/128):=by rw[fm (cM (by omega) (by omega))];omega
 rw[hw,Int.mul_tdiv_cancel_left _ (by decide)];exact fm (cM (by omega) (by omega))
theorem P7{v:Int}(h:(v/128=0/\v%128<64)\/(v/128= -1/\64<=v%128)):kI v=1:=wU (by omega)
theorem We{v:Int}(h:¬((v/128=0/\v%128<64)\/(v/128= -1/\64<=v%128))):kI v=kI (v/128)+1:=AN (by omega)
theorem P8(t:UInt8):∀(n:Nat) (l:List UInt8),0<n->n<=l.length->(∀j,j<n->l[j]?=some t)->l[n]?≠some t->iI l=n::iI (l.drop n):=by
 intro n
 induction n with
 |zero=>intro l h;omega
 | succ n ih=>
  intro l _ hl ha hn;cases l with
  |nil=>simp at hl
  |cons a l=>
   have h0:=ha 0 (by omega);simp only[List.getElem?_cons_zero,Option.some.injEq] at h0;subst h0;simp only[List.drop_succ_cons];by_cases h:n=0
   · subst h
     simp only[List.drop_zero];cases l with
     |nil=>rfl
     |cons b r=>
      have hb:b≠a:=λe=>hn (by simp[e]);obtain⟨k,s,hk⟩:=AZ b r;have e:iI (a::b::r)=match iI (b::r) with|n::r=>if b=a then(n+1)::r else 1::n::r|_=>[1]:=by rw[iI.eq_def];simp only;split<;>simp_all
      rw[e,hk];simp only;rw[if_neg hb]
   · have i1:=ih l (by omega) (by simp at hl;omega) (λj hj=>by have:=ha (j+1) (by omega);simpa using this) (λe=>hn (by simpa using e))
     cases l with
     |nil=>simp at hl;omega
     |cons b r=>
      have hb:b=a:=by have:=ha 1 (by omega);simpa using this
      have e:iI (a::b::r)=match iI (b::r) with|n::r=>if b=a then(n+1)::r else 1::n::r|_=>[1]:=by rw[iI.eq_def];simp only;split<;>simp_all
      rw[e,i1];simp only;rw[if_pos hb]
def xC(p:List Nat):Nat:=(p.map λn=>gy n+1).sum
theorem P9(p:List Nat)(n:Nat):xC (p++[n])=xC p+(gy n+1):=by simp[xC]
theorem Jf:∀(p:List Nat),(∀n∈p,n<=1000000)->xC p<=11*p.length
 |[],_=>by simp[xC]
 |n::p,h=>by
  have h1:=Jf p (λq hq=>h q (List.mem_cons_of_mem _ hq));have h2:=h n (List.mem_cons_self ..);have h3:gy n<=10:=ew (by omega);simp only[xC,List.map_cons,List.sum_cons,List.length_cons] at h1 ⊢;omega
theorem Tw(b:j8):Kq b=gy (iI b.aV).length+xC (iI b.aV)+ye b.L:=rfl
theorem Qa:iI []=[]:=rfl
end Go.Hl
namespace Go.Hl
theorem Tx{t:UInt8}:(t.toNat:Int)=126↔t=126:=by rw[<-UInt8.toNat_inj];simp;omega
theorem Tz{t:UInt8}:(t.toNat:Int)=127↔t=127:=by rw[<-UInt8.toNat_inj];simp;omega
def gU(l:List UInt8)(j:Nat):UInt8:=l.getD j 0
theorem NJ{l:List UInt8}{j:Nat}(h:j<l.length):l[j]?=some (gU l j):=by unfold gU;rw[List.getD_eq_getElem?_getD,List.getElem?_eq_getElem h];rfl
theorem Wf{l:List UInt8}{k k2:Nat}{t:UInt8}(hk:k<k2)(h2:k2<=l.length)(ha:∀j,j<k2-k->(l.drop k)[j]?=some t)(hn:¬((k2:Int)<(l.length:Int)/\((gU l k2).toNat:Int)=(t.toNat:Int))):iI (l.drop k)=(k2-k)::iI (l.drop k2):=by
 have h9:=P8 t (k2-k) (l.drop k) (by omega) (by rw[List.length_drop];omega) ha (λe=>by
  rw[List.getElem?_drop,show k+(k2-k)=k2 by omega] at e;have hl:=(List.getElem?_eq_some_iff.1 e).1;rw[NJ hl] at e;exact hn ⟨by omega,by rw[Option.some.inj e]⟩)
 rw[List.drop_drop,show k+(k2-k)=k2 by omega] at h9;exact h9
theorem TA{l:List UInt8}{k k2:Nat}{t:UInt8}(hk:k<=k2)(ht:l[k]?=some t)(hn:¬((k2:Int)<(l.length:Int)/\((gU l k2).toNat:Int)=(t.toNat:Int))):k<k2:=by
 rcases Nat.lt_or_ge k k2 with h|h
 · exact h
 · have he:k2=k:=by omega
   subst he;have hl:=(List.getElem?_eq_some_iff.1 ht).1;rw[NJ hl] at ht;exact absurd ⟨by omega,by rw[Option.some.inj ht]⟩ hn
end Go.Hl
end
section
namespace Go.Hl
open Go.RowKit
def bq(s:ee)(base:Int):List VP:=[ai 1 an s.1,av s.2,af .i64 base]
instance (s:ee) (base:Int):bD (bq s base):=⟨λq h=>by simp only[bq,List.mem_cons,List.not_mem_nil,or_false] at h;rcases h with h|h|h<;>subst h<;>infer_instance⟩
def qM(p:Prop):List VP:=[av p]
instance:gX 1 qM:=⟨λ_=>rfl,λx q h=>by simp only[qM,List.mem_cons,List.not_mem_nil,or_false] at h;subst h;infer_instance⟩
def fJ(v:oY):List VP:=[ai 2 bW v.aq,ai 2 bW v.bQ,ai 1 qM v.cj,ai 1 an v.aA,ai 1 qM v.eu,av v.Table,ai 1 an v.dR.P,ai 1 an v.dR.R,ai 1 an v.aV]
instance (v:oY):bD (fJ v):=⟨λq h=>by simp only[fJ,List.mem_cons,List.not_mem_nil,or_false] at h;rcases h with h|h|h|h|h|h|h|h|h<;>subst h<;>infer_instance⟩
instance {cs:List VP} {q:VP} {n:Nat} [h:bD cs] [h2:Flat q]:bD (cs.set n q):=⟨λp hp=>(List.mem_or_eq_of_mem_set hp).elim (h.flat p) (λe=>e▸h2)⟩
def plR(o:Option ee)(g:ee×Int):Prop:=(g.2=0/\o=some g.1)\/(g.2≠0/\o=none)
def Uk(s:ee)(l:List UInt8)(g:ee×Int):Prop:=plR (dD s l) g/\g.1.1.length<=s.1.length
def TB(s:ee)(w:UInt8)(g:ee×UInt8×Int):Prop:=((g.2.2=0/\jq s w=some (g.1,g.2.1))\/(g.2.2≠0/\jq s w=none))/\g.1.1.length<=s.1.length
variable {s:ee} {g:ee×Int} {l:List UInt8}
theorem Uk.ok(h:Uk s l g)(he:g.2=0):dD s l=some g.1:=h.1.elim (λh=>h.2) (λh=>absurd he h.1)
theorem Uk.no(h:Uk s l g)(he:g.2≠0):dD s l=none:=h.1.elim (λh=>absurd h.1 he) (λh=>h.2)
variable {w:UInt8}
theorem TB.ok{g:ee×UInt8×Int}(h:TB s w g)(he:g.2.2=0):jq s w=some (g.1,g.2.1):=h.1.elim (λh=>h.2) (λh=>absurd he h.1)
theorem TB.no{g:ee×UInt8×Int}(h:TB s w g)(he:g.2.2≠0):jq s w=none:=h.1.elim (λh=>absurd h.1 he) (λh=>h.2)
variable {i:List UInt8}
theorem aj7{o:List UInt8}(h:Uk s i g):plR (p7 s i o) (bG g.1 o,g.2):=by
 unfold p7;rcases h.1 with⟨h1,h2⟩|⟨h1,h2⟩
 · exact .inl ⟨h1,by rw[h2];rfl⟩
 · exact .inr ⟨h1,by rw[h2];rfl⟩
def zw(s:ee)(o:Option ee)(g:ee×Int):Prop:=plR o g/\g.1.1.length<=s.1.length+20
theorem fE{o:Option ee}{t:ee}{e:Int}(he:e≠0)(h:o=none)(hl:t.1.length<=s.1.length+20):zw s o (t,e):=⟨.inr ⟨he,h⟩,hl⟩
theorem vU{o:Option ee}{t:ee}(h:o=some t)(hl:t.1.length<=s.1.length+20):zw s o (t,0):=⟨.inl ⟨rfl,h⟩,hl⟩
theorem rT{o:List UInt8}{p:Option ee}(hp:p=p7 s i o)(h:Uk s i g)(ho:o.length<=20):zw s p (bG g.1 o,g.2):=
 ⟨by rw[hp];exact aj7 h,by have:=h.2;simp only[bG,List.length_append];omega⟩
theorem TC{p:Option ee}(hp:p=dD s i)(h:Uk s i g):zw s p g:=⟨by rw[hp];exact h.1,by have:=h.2;omega⟩
theorem yC(s:ee)(l:List UInt8)(t:UInt8):dD s (l++[t])=(dD s [t]).bind λp=>dD p l:=by
 rw[jM,ir];cases jq s t<;>rfl
theorem vV{w:Prop}(h:w):cz w=126:=if_pos h
theorem vW{w:Prop}(h:¬w):cz w=127:=if_neg h
theorem aN4{k:Nat}(h:k<=31):(0:Int)<2^k/\(2:Int)^k<=2147483648:=by
 have h1:(2:Int)^k=((2^k:Nat):Int):=by norm_cast
 have h2:2^k<=2^31:=Nat.pow_le_pow_right (by decide) h;have h3:0<2^k:=Nat.two_pow_pos k;rw[h1];omega
structure L6(v:oY):Prop where
 F:v.aq.length<=60000
 S:v.bQ.length<=60000
 L:v.aV.length<=60000
 G:v.aA.length<=60000
 W:v.cj.length<=60000
 mu:v.eu.length=v.aA.length
 sf:∀g∈v.aq,g.P.length<=20/\g.R.length<=20
 ss:∀g∈v.bQ,g.P.length<=20/\g.R.length<=20
 own:v.dR.R.length<=20
structure qh(v:oY)(x:aj)(s:ee)(labs:List (List UInt8)):Prop where
 env:L6 v
 ins:nJ x
 stk:s.1.length<=50000
 D5:labs.length<=60000
 lbw:∀w∈labs,w.length<=20
variable {n:Int}
theorem jB{α:Type}{L:List α}(h0:0<=n)(h:¬n≥(L.length:Int)):∃w,eG L n=some w/\L[n.toNat]?=some w:=wW h0 (by omega)
theorem xD{L:List (List UInt8)}(h0:0<=n)(h:¬n≥(L.length:Int)):∃w,iG L n=some w/\L[L.length-1-n.toNat]?=some w:=G5 h0 (by omega)
theorem j5{α:Type}{L:List α}(h:n≥(L.length:Int)):eG L n=none:=wX (by omega)
theorem xE{L:List (List UInt8)}(h:n≥(L.length:Int)):iG L n=none:=DC (by omega)
theorem Wg{d:Prop}{g:UInt8}(h:(((g.toNat:Int)≠0)/\((w.toNat:Int)≠0))/\((g.toNat:Int)≠(w.toNat:Int))):jq (l++[g],d) w=none:=
 yU λe=>by
  obtain⟨⟨h1,h2⟩,h3⟩:=h;rcases e with e|e|e
  · exact h3 (by rw[e])
  · exact h1 (by rw[e];rfl)
  · exact h2 (by rw[e];rfl)
theorem Jg{d:Prop}{g:UInt8}(h:¬((((g.toNat:Int)≠0)/\((w.toNat:Int)≠0))/\((g.toNat:Int)≠(w.toNat:Int)))):jq (l++[g],d) w=some ((l,d),if g=0 then w else g):=by
 refine AR (Classical.byContradiction λe=>h ⟨⟨λh1=>?_,λh1=>?_⟩,λh1=>?_⟩)
 · exact e (.inr (.inl ((pG g).1 h1)))
 · exact e (.inr (.inr ((pG w).1 h1)))
 · exact e (.inl (Du.1 h1))
end Go.Hl
end
section
namespace Go.Proofs.YtppekopemdoclaaGreatDoor
open Go.Hl Go.RowKit
variable {code:Int}
theorem L7:dF Wo 118 [af .i64 code] (dV (iO code)):=by
 refine In 20 Tryz.func118 λ_ _ _=>?_;refine Z2 ?_;refine .p (bf (.s [] rfl rfl)) rfl ?_;refine oA ?_;refine Cd (λc0=>?_) λc0=>?_
 ·
  refine Z2 ?_;refine .p (bf (.s [109,101,109,111,114,121,46,99,111,112,121] rfl rfl)) rfl ?_;refine Z5 ?_;refine br ?_;exact aa.of_eq (by unfold iO;rw[if_pos c0])
 refine Z6 ?_;refine Cd (λc1=>?_) λc1=>?_
 ·
  refine Z2 ?_;refine .p (bf (.s [109,101,109,111,114,121,46,102,105,108,108] rfl rfl)) rfl ?_;refine Z5 ?_;refine br ?_;exact aa.of_eq (by unfold iO;rw[if_neg c0,if_pos c1])
 refine ij ?_;refine Cd (λc2=>?_) λc2=>?_
 ·
  refine Z2 ?_;refine .p (bf (.s [] rfl rfl)) rfl ?_;refine Z4 ?_;refine br ?_;exact aa.of_eq (by unfold iO;rw[if_neg c0,if_neg c1,if_pos c2])
 refine Z4 ?_;refine .p (bC (enc:=kO) AI FU.out FC.out rfl FZ.out rfl (.cons (.s [117,110,114,101,97,99,104,97,98,108,101] rfl rfl) (.cons (.s [110,111,112] rfl rfl) (.cons (.s [98,108,111,99,107] rfl rfl) (.cons (.s [108,111,111,112] rfl rfl) (.cons (.s [105,102] rfl rfl) (.cons (.s [101,108,115,101] rfl rfl) (.cons (.s [] rfl rfl) (.cons (.s [] rfl rfl) (.cons (.s [] rfl rfl) (.cons (.s [] rfl rfl) (.cons (.s [] rfl rfl) (.cons (.s [101,110,100] rfl rfl) (.cons (.s [98,114] rfl rfl) (.cons (.s [98,114,95,105,102] rfl rfl) (.cons (.s [98,114,95,116,97,98,108,101] rfl rfl) (.cons (.s [114,101,116,117,114,110] rfl rfl) (.cons (.s [99,97,108,108] rfl rfl) (.cons (.s [99,97,108,108,95,105,110,100,105,114,101,99,116] rfl rfl) (.cons (.s [] rfl rfl) (.cons (.s [] rfl rfl) (.cons (.s [] rfl rfl) (.cons (.s [] rfl rfl) (.cons (.s [] rfl rfl) (.cons (.s [] rfl rfl) (.cons (.s [] rfl rfl) (.cons (.s [] rfl rfl) (.cons (.s [100,114,111,112] rfl rfl) (.cons (.s [115,101,108,101,99,116] rfl rfl) (.cons (.s [] rfl rfl) (.cons (.s [] rfl rfl) (.cons (.s [] rfl rfl) (.cons (.s [] rfl rfl) (.cons (.s [108,111,99,97,108,46,103,101,116] rfl rfl) (.cons (.s [108,111,99,97,108,46,115,101,116] rfl rfl) (.cons (.s [108,111,99,97,108,46,116,101,101] rfl rfl) (.cons (.s [103,108,111,98,97,108,46,103,101,116] rfl rfl) (.cons (.s [103,108,111,98,97,108,46,115,101,116] rfl rfl) (.cons (.s [] rfl rfl) (.cons (.s [] rfl rfl) (.cons (.s [] rfl rfl) (.cons (.s [105,51,50,46,108,111,97,100] rfl rfl) (.cons (.s [105,54,52,46,108,111,97,100] rfl rfl) (.cons (.s [] rfl rfl) (.cons (.s [] rfl rfl) (.cons (.s [105,51,50,46,108,111,97,100,56,95,115] rfl rfl) (.cons (.s [105,51,50,46,108,111,97,100,56,95,117] rfl rfl) (.cons (.s [105,51,50,46,108,111,97,100,49,54,95,115] rfl rfl) (.cons (.s [105,51,50,46,108,111,97,100,49,54,95,117] rfl rfl) (.cons (.s [105,54,52,46,108,111,97,100,56,95,115] rfl rfl) (.cons (.s [105,54,52,46,108,111,97,100,56,95,117] rfl rfl) (.cons (.s [105,54,52,46,108,111,97,100,49,54,95,115] rfl rfl) (.cons (.s [105,54,52,46,108,111,97,100,49,54,95,117] rfl rfl) (.cons (.s [105,54,52,46,108,111,97,100,51,50,95,115] rfl rfl) (.cons (.s [105,54,52,46,108,111,97,100,51,50,95,117] rfl rfl) (.cons (.s [105,51,50,46,115,116,111,114,101] rfl rfl) (.cons (.s [105,54,52,46,115,116,111,114,101] rfl rfl) (.cons (.s [] rfl rfl) (.cons (.s [] rfl rfl) (.cons (.s [105,51,50,46,115,116,111,114,101,56] rfl rfl) (.cons (.s [105,51,50,46,115,116,111,114,101,49,54] rfl rfl) (.cons (.s [105,54,52,46,115,116,111,114,101,56] rfl rfl) (.cons (.s [105,54,52,46,115,116,111,114,101,49,54] rfl rfl) (.cons (.s [105,54,52,46,115,116,111,114,101,51,50] rfl rfl) (.cons (.s [109,101,109,111,114,121,46,115,105,122,101] rfl rfl) (.cons (.s [109,101,109,111,114,121,46,103,114,111,119] rfl rfl) (.cons (.s [105,51,50,46,99,111,110,115,116] rfl rfl) (.cons (.s [105,54,52,46,99,111,110,115,116] rfl rfl) (.cons (.s [] rfl rfl) (.cons (.s [] rfl rfl) (.cons (.s [105,51,50,46,101,113,122] rfl rfl) (.cons (.s [105,51,50,46,101,113] rfl rfl) (.cons (.s [105,51,50,46,110,101] rfl rfl) (.cons (.s [105,51,50,46,108,116,95,115] rfl rfl) (.cons (.s [105,51,50,46,108,116,95,117] rfl rfl) (.cons (.s [105,51,50,46,103,116,95,115] rfl rfl) (.cons (.s [105,51,50,46,103,116,95,117] rfl rfl) (.cons (.s [105,51,50,46,108,101,95,115] rfl rfl) (.cons (.s [105,51,50,46,108,101,95,117] rfl rfl) (.cons (.s [105,51,50,46,103,101,95,115] rfl rfl) (.cons (.s [105,51,50,46,103,101,95,117] rfl rfl) (.cons (.s [105,54,52,46,101,113,122] rfl rfl) (.cons (.s [105,54,52,46,101,113] rfl rfl) (.cons (.s [105,54,52,46,110,101] rfl rfl) (.cons (.s [105,54,52,46,108,116,95,115] rfl rfl) (.cons (.s [105,54,52,46,108,116,95,117] rfl rfl) (.cons (.s [105,54,52,46,103,116,95,115] rfl rfl) (.cons (.s [105,54,52,46,103,116,95,117] rfl rfl) (.cons (.s [105,54,52,46,108,101,95,115] rfl rfl) (.cons (.s [105,54,52,46,108,101,95,117] rfl rfl) (.cons (.s [105,54,52,46,103,101,95,115] rfl rfl) (.cons (.s [105,54,52,46,103,101,95,117] rfl rfl) (.cons (.s [] rfl rfl) (.cons (.s [] rfl rfl) (.cons (.s [] rfl rfl) (.cons (.s [] rfl rfl) (.cons (.s [] rfl rfl) (.cons (.s [] rfl rfl) (.cons (.s [] rfl rfl) (.cons (.s [] rfl rfl) (.cons (.s [] rfl rfl) (.cons (.s [] rfl rfl) (.cons (.s [] rfl rfl) (.cons (.s [] rfl rfl) (.cons (.s [105,51,50,46,99,108,122] rfl rfl) (.cons (.s [105,51,50,46,99,116,122] rfl rfl) (.cons (.s [105,51,50,46,112,111,112,99,110,116] rfl rfl) (.cons (.s [105,51,50,46,97,100,100] rfl rfl) (.cons (.s [105,51,50,46,115,117,98] rfl rfl) (.cons (.s [105,51,50,46,109,117,108] rfl rfl) (.cons (.s [105,51,50,46,100,105,118,95,115] rfl rfl) (.cons (.s [105,51,50,46,100,105,118,95,117] rfl rfl) (.cons (.s [105,51,50,46,114,101,109,95,115] rfl rfl) (.cons (.s [105,51,50,46,114,101,109,95,117] rfl rfl) (.cons (.s [105,51,50,46,97,110,100] rfl rfl) (.cons (.s [105,51,50,46,111,114] rfl rfl) (.cons (.s [105,51,50,46,120,111,114] rfl rfl) (.cons (.s [105,51,50,46,115,104,108] rfl rfl) (.cons (.s [105,51,50,46,115,104,114,95,115] rfl rfl) (.cons (.s [105,51,50,46,115,104,114,95,117] rfl rfl) (.cons (.s [105,51,50,46,114,111,116,108] rfl rfl) (.cons (.s [105,51,50,46,114,111,116,114] rfl rfl) (.cons (.s [105,54,52,46,99,108,122] rfl rfl) (.cons (.s [105,54,52,46,99,116,122] rfl rfl) (.cons (.s [105,54,52,46,112,111,112,99,110,116] rfl rfl) (.cons (.s [105,54,52,46,97,100,100] rfl rfl) (.cons (.s [105,54,52,46,115,117,98] rfl rfl) (.cons (.s [105,54,52,46,109,117,108] rfl rfl) (.cons (.s [105,54,52,46,100,105,118,95,115] rfl rfl) (.cons (.s [105,54,52,46,100,105,118,95,117] rfl rfl) (.cons (.s [105,54,52,46,114,101,109,95,115] rfl rfl) (.cons (.s [105,54,52,46,114,101,109,95,117] rfl rfl) (.cons (.s [105,54,52,46,97,110,100] rfl rfl) (.cons (.s [105,54,52,46,111,114] rfl rfl) (.cons (.s [105,54,52,46,120,111,114] rfl rfl) (.cons (.s [105,54,52,46,115,104,108] rfl rfl) (.cons (.s [105,54,52,46,115,104,114,95,115] rfl rfl) (.cons (.s [105,54,52,46,115,104,114,95,117] rfl rfl) (.cons (.s [105,54,52,46,114,111,116,108] rfl rfl) (.cons (.s [105,54,52,46,114,111,116,114] rfl rfl) (.cons (.s [] rfl rfl) (.cons (.s [] rfl rfl) (.cons (.s [] rfl rfl) (.cons (.s [] rfl rfl) (.cons (.s [] rfl rfl) (.cons (.s [] rfl rfl) (.cons (.s [] rfl rfl) (.cons (.s [] rfl rfl) (.cons (.s [] rfl rfl) (.cons (.s [] rfl rfl) (.cons (.s [] rfl rfl) (.cons (.s [] rfl rfl) (.cons (.s [] rfl rfl) (.cons (.s [] rfl rfl) (.cons (.s [] rfl rfl) (.cons (.s [] rfl rfl) (.cons (.s [] rfl rfl) (.cons (.s [] rfl rfl) (.cons (.s [] rfl rfl) (.cons (.s [] rfl rfl) (.cons (.s [] rfl rfl) (.cons (.s [] rfl rfl) (.cons (.s [] rfl rfl) (.cons (.s [] rfl rfl) (.cons (.s [] rfl rfl) (.cons (.s [] rfl rfl) (.cons (.s [] rfl rfl) (.cons (.s [] rfl rfl) (.cons (.s [105,51,50,46,119,114,97,112,95,105,54,52] rfl rfl) (.cons (.s [] rfl rfl) (.cons (.s [] rfl rfl) (.cons (.s [] rfl rfl) (.cons (.s [] rfl rfl) (.cons (.s [105,54,52,46,101,120,116,101,110,100,95,105,51,50,95,115] rfl rfl) (.cons (.s [105,54,52,46,101,120,116,101,110,100,95,105,51,50,95,117] rfl rfl) (.cons (.s [] rfl rfl) (.cons (.s [] rfl rfl) (.cons (.s [] rfl rfl) (.cons (.s [] rfl rfl) (.cons (.s [] rfl rfl) (.cons (.s [] rfl rfl) (.cons (.s [] rfl rfl) (.cons (.s [] rfl rfl) (.cons (.s [] rfl rfl) (.cons (.s [] rfl rfl) (.cons (.s [] rfl rfl) (.cons (.s [] rfl rfl) (.cons (.s [] rfl rfl) (.cons (.s [] rfl rfl) (.cons (.s [] rfl rfl) (.cons (.s [] rfl rfl) (.cons (.s [] rfl rfl) (.cons (.s [] rfl rfl) (.cons (.s [105,51,50,46,101,120,116,101,110,100,56,95,115] rfl rfl) (.cons (.s [105,51,50,46,101,120,116,101,110,100,49,54,95,115] rfl rfl) (.cons (.s [105,54,52,46,101,120,116,101,110,100,56,95,115] rfl rfl) (.cons (.s [105,54,52,46,101,120,116,101,110,100,49,54,95,115] rfl rfl) (.cons (.s [105,54,52,46,101,120,116,101,110,100,51,50,95,115] rfl rfl) .nil))))))))))))))))))))))))))))))))))))))))))))))))))))))))))))))))))))))))))))))))))))))))))))))))))))))))))))))))))))))))))))))))))))))))))))))))))))))))))))))))))))))))))))))))))))))))))))))))))))) rfl rfl rfl rfl rfl) rfl ?_;refine Z7 ?_;refine .p (cI _ (h:=show AI[code.toNat]?=some (AI.getD code.toNat []) by rw[List.getD_eq_getElem?_getD,List.getElem?_eq_getElem (by rw[OC];omega)];rfl)) rfl ?_;refine Z5 ?_;refine br ?_;exact aa.of_eq (by unfold iO;rw[if_neg c0,if_neg c1,if_neg c2])
theorem jU:dF Wo 119 [af .i64 code] (af .i64 (aP code)):=by
 refine In 68 Tryz.func119 λ_ _ _=>?_;refine zE ?_;refine Cd (λc0=>?_) λc0=>?_
 ·
  refine Z8 ?_;refine br ?_;exact aa.int (by unfold aP;repeat (first|rfl|rw[if_pos (by assumption)]|rw[if_neg (by assumption)]))
 refine dh ?_;refine Cd (λc1=>?_) λc1=>?_
 ·
  refine Z8 ?_;refine br ?_;exact aa.int (by unfold aP;repeat (first|rfl|rw[if_pos (by assumption)]|rw[if_neg (by assumption)]))
 refine Z7 ?_;refine Cd (λc2=>?_) λc2=>?_
 ·
  refine Z8 ?_;refine br ?_;exact aa.int (by unfold aP;repeat (first|rfl|rw[if_pos (by assumption)]|rw[if_neg (by assumption)]))
 refine Z7 ?_;refine Cd (λc3=>?_) λc3=>?_
 ·
  refine Z8 ?_;refine br ?_;exact aa.int (by unfold aP;repeat (first|rfl|rw[if_pos (by assumption)]|rw[if_neg (by assumption)]))
 refine Z7 ?_;refine Cd (λc4=>?_) λc4=>?_
 ·
  refine Z8 ?_;refine br ?_;exact aa.int (by unfold aP;repeat (first|rfl|rw[if_pos (by assumption)]|rw[if_neg (by assumption)]))
 refine dh ?_;refine Cd (λc5=>?_) λc5=>?_
 ·
  refine Z8 ?_;refine br ?_;exact aa.int (by unfold aP;repeat (first|rfl|rw[if_pos (by assumption)]|rw[if_neg (by assumption)]))
 refine dh ?_;refine Cd (λc6=>?_) λc6=>?_
 ·
  refine Z8 ?_;refine br ?_;exact aa.int (by unfold aP;repeat (first|rfl|rw[if_pos (by assumption)]|rw[if_neg (by assumption)]))
 refine dh ?_;refine Cd (λc7=>?_) λc7=>?_
 ·
  refine Z8 ?_;refine br ?_;exact aa.int (by unfold aP;repeat (first|rfl|rw[if_pos (by assumption)]|rw[if_neg (by assumption)]))
 refine oA ?_;refine Cd (λc8=>?_) λc8=>?_
 ·
  refine Z8 ?_;refine br ?_;exact aa.int (by unfold aP;repeat (first|rfl|rw[if_pos (by assumption)]|rw[if_neg (by assumption)]))
 refine Z7 ?_;refine Cd (λc9=>?_) λc9=>?_
 ·
  refine Z8 ?_;refine br ?_;exact aa.int (by unfold aP;repeat (first|rfl|rw[if_pos (by assumption)]|rw[if_neg (by assumption)]))
 refine dh ?_;refine Cd (λlZ=>?_) λlZ=>?_
 ·
  refine Z8 ?_;refine br ?_;exact aa.int (by unfold aP;repeat (first|rfl|rw[if_pos (by assumption)]|rw[if_neg (by assumption)]))
 refine Z9 ?_;refine br ?_;exact aa.int (by unfold aP;repeat (first|rfl|rw[if_pos (by assumption)]|rw[if_neg (by assumption)]))
theorem lB:dF Wo 187 [af .i64 code] (aZ [ai 1 an (aQ code).1,ai 1 an (aQ code).2]):=by
 refine In 169 Tryz.func187 λ_ _ _=>?_;refine XR ?_;refine Cd (λc0=>?_) λc0=>?_
 ·
  refine Z9 ?_;refine eA ?_ ?_
  · first|(refine aa.trans (aE 1 an) (aa.of_eq ?_);unfold aQ;repeat (first|rfl|rw[if_pos (by assumption)]|rw[if_neg (by assumption)]))|(refine aa.of_eq ?_;unfold aQ;repeat (first|rfl|rw[if_pos (by assumption)]|rw[if_neg (by assumption)]))
  first|(refine aa.trans (aE 1 an) (aa.of_eq ?_);unfold aQ;repeat (first|rfl|rw[if_pos (by assumption)]|rw[if_neg (by assumption)]))|(refine aa.of_eq ?_;unfold aQ;repeat (first|rfl|rw[if_pos (by assumption)]|rw[if_neg (by assumption)]))
 refine oA ?_;refine Cd (λc1=>?_) λc1=>?_
 ·
  refine Z3 ?_;refine .p (cB an [127]) rfl ?_;refine Z1 ?_;refine .p (cB an [127]) rfl ?_;refine Z7 ?_;refine eA ?_ ?_
  · first|(refine aa.trans (aE 1 an) (aa.of_eq ?_);unfold aQ;repeat (first|rfl|rw[if_pos (by assumption)]|rw[if_neg (by assumption)]))|(refine aa.of_eq ?_;unfold aQ;repeat (first|rfl|rw[if_pos (by assumption)]|rw[if_neg (by assumption)]))
  first|(refine aa.trans (aE 1 an) (aa.of_eq ?_);unfold aQ;repeat (first|rfl|rw[if_pos (by assumption)]|rw[if_neg (by assumption)]))|(refine aa.of_eq ?_;unfold aQ;repeat (first|rfl|rw[if_pos (by assumption)]|rw[if_neg (by assumption)]))
 refine oA ?_;refine Cd (λc2=>?_) λc2=>?_
 ·
  refine Z3 ?_;refine .p (cB an [127]) rfl ?_;refine Z1 ?_;refine .p (cB an [126]) rfl ?_;refine Z7 ?_;refine eA ?_ ?_
  · first|(refine aa.trans (aE 1 an) (aa.of_eq ?_);unfold aQ;repeat (first|rfl|rw[if_pos (by assumption)]|rw[if_neg (by assumption)]))|(refine aa.of_eq ?_;unfold aQ;repeat (first|rfl|rw[if_pos (by assumption)]|rw[if_neg (by assumption)]))
  first|(refine aa.trans (aE 1 an) (aa.of_eq ?_);unfold aQ;repeat (first|rfl|rw[if_pos (by assumption)]|rw[if_neg (by assumption)]))|(refine aa.of_eq ?_;unfold aQ;repeat (first|rfl|rw[if_pos (by assumption)]|rw[if_neg (by assumption)]))
 refine oA ?_;refine Cd (λc3=>?_) λc3=>?_
 ·
  refine Z4 ?_;refine .p (cB an [127,127]) rfl ?_;refine Z7 ?_;refine eA ?_ ?_
  · first|(refine aa.trans (aE 1 an) (aa.of_eq ?_);unfold aQ;repeat (first|rfl|rw[if_pos (by assumption)]|rw[if_neg (by assumption)]))|(refine aa.of_eq ?_;unfold aQ;repeat (first|rfl|rw[if_pos (by assumption)]|rw[if_neg (by assumption)]))
  first|(refine aa.trans (aE 1 an) (aa.of_eq ?_);unfold aQ;repeat (first|rfl|rw[if_pos (by assumption)]|rw[if_neg (by assumption)]))|(refine aa.of_eq ?_;unfold aQ;repeat (first|rfl|rw[if_pos (by assumption)]|rw[if_neg (by assumption)]))
 refine Z7 ?_;refine Cd (λc4=>?_) λc4=>?_
 ·
  refine Z4 ?_;refine .p (cB an [127,126]) rfl ?_;refine Z7 ?_;refine eA ?_ ?_
  · first|(refine aa.trans (aE 1 an) (aa.of_eq ?_);unfold aQ;repeat (first|rfl|rw[if_pos (by assumption)]|rw[if_neg (by assumption)]))|(refine aa.of_eq ?_;unfold aQ;repeat (first|rfl|rw[if_pos (by assumption)]|rw[if_neg (by assumption)]))
  first|(refine aa.trans (aE 1 an) (aa.of_eq ?_);unfold aQ;repeat (first|rfl|rw[if_pos (by assumption)]|rw[if_neg (by assumption)]))|(refine aa.of_eq ?_;unfold aQ;repeat (first|rfl|rw[if_pos (by assumption)]|rw[if_neg (by assumption)]))
 refine dh ?_;refine Cd (λc5=>?_) λc5=>?_
 ·
  refine Z3 ?_;refine .p (cB an [127]) rfl ?_;refine Z7 ?_;refine eA ?_ ?_
  · first|(refine aa.trans (aE 1 an) (aa.of_eq ?_);unfold aQ;repeat (first|rfl|rw[if_pos (by assumption)]|rw[if_neg (by assumption)]))|(refine aa.of_eq ?_;unfold aQ;repeat (first|rfl|rw[if_pos (by assumption)]|rw[if_neg (by assumption)]))
  first|(refine aa.trans (aE 1 an) (aa.of_eq ?_);unfold aQ;repeat (first|rfl|rw[if_pos (by assumption)]|rw[if_neg (by assumption)]))|(refine aa.of_eq ?_;unfold aQ;repeat (first|rfl|rw[if_pos (by assumption)]|rw[if_neg (by assumption)]))
 refine Z7 ?_;refine Cd (λc6=>?_) λc6=>?_
 ·
  refine Z3 ?_;refine .p (cB an [126]) rfl ?_;refine Z7 ?_;refine eA ?_ ?_
  · first|(refine aa.trans (aE 1 an) (aa.of_eq ?_);unfold aQ;repeat (first|rfl|rw[if_pos (by assumption)]|rw[if_neg (by assumption)]))|(refine aa.of_eq ?_;unfold aQ;repeat (first|rfl|rw[if_pos (by assumption)]|rw[if_neg (by assumption)]))
  first|(refine aa.trans (aE 1 an) (aa.of_eq ?_);unfold aQ;repeat (first|rfl|rw[if_pos (by assumption)]|rw[if_neg (by assumption)]))|(refine aa.of_eq ?_;unfold aQ;repeat (first|rfl|rw[if_pos (by assumption)]|rw[if_neg (by assumption)]))
 refine dh ?_;refine Cd (λc7=>?_) λc7=>?_
 ·
  refine Z3 ?_;refine .p (cB an [126]) rfl ?_;refine Z1 ?_;refine .p (cB an [127]) rfl ?_;refine Z7 ?_;refine eA ?_ ?_
  · first|(refine aa.trans (aE 1 an) (aa.of_eq ?_);unfold aQ;repeat (first|rfl|rw[if_pos (by assumption)]|rw[if_neg (by assumption)]))|(refine aa.of_eq ?_;unfold aQ;repeat (first|rfl|rw[if_pos (by assumption)]|rw[if_neg (by assumption)]))
  first|(refine aa.trans (aE 1 an) (aa.of_eq ?_);unfold aQ;repeat (first|rfl|rw[if_pos (by assumption)]|rw[if_neg (by assumption)]))|(refine aa.of_eq ?_;unfold aQ;repeat (first|rfl|rw[if_pos (by assumption)]|rw[if_neg (by assumption)]))
 refine Cn ?_;refine Cd (λc8=>?_) λc8=>?_
 ·
  refine Z4 ?_;refine .p (cB an [127,127]) rfl ?_;refine Z1 ?_;refine .p (cB an [127]) rfl ?_;refine Z7 ?_;refine eA ?_ ?_
  · first|(refine aa.trans (aE 1 an) (aa.of_eq ?_);unfold aQ;repeat (first|rfl|rw[if_pos (by assumption)]|rw[if_neg (by assumption)]))|(refine aa.of_eq ?_;unfold aQ;repeat (first|rfl|rw[if_pos (by assumption)]|rw[if_neg (by assumption)]))
  first|(refine aa.trans (aE 1 an) (aa.of_eq ?_);unfold aQ;repeat (first|rfl|rw[if_pos (by assumption)]|rw[if_neg (by assumption)]))|(refine aa.of_eq ?_;unfold aQ;repeat (first|rfl|rw[if_pos (by assumption)]|rw[if_neg (by assumption)]))
 refine dh ?_;refine Cd (λc9=>?_) λc9=>?_
 ·
  refine Z4 ?_;refine .p (cB an [126,126]) rfl ?_;refine Z1 ?_;refine .p (cB an [127]) rfl ?_;refine Z7 ?_;refine eA ?_ ?_
  · first|(refine aa.trans (aE 1 an) (aa.of_eq ?_);unfold aQ;repeat (first|rfl|rw[if_pos (by assumption)]|rw[if_neg (by assumption)]))|(refine aa.of_eq ?_;unfold aQ;repeat (first|rfl|rw[if_pos (by assumption)]|rw[if_neg (by assumption)]))
  first|(refine aa.trans (aE 1 an) (aa.of_eq ?_);unfold aQ;repeat (first|rfl|rw[if_pos (by assumption)]|rw[if_neg (by assumption)]))|(refine aa.of_eq ?_;unfold aQ;repeat (first|rfl|rw[if_pos (by assumption)]|rw[if_neg (by assumption)]))
 refine dh ?_;refine Cd (λlZ=>?_) λlZ=>?_
 ·
  refine Z4 ?_;refine .p (cB an [126,126]) rfl ?_;refine Z1 ?_;refine .p (cB an [126]) rfl ?_;refine Z7 ?_;refine eA ?_ ?_
  · first|(refine aa.trans (aE 1 an) (aa.of_eq ?_);unfold aQ;repeat (first|rfl|rw[if_pos (by assumption)]|rw[if_neg (by assumption)]))|(refine aa.of_eq ?_;unfold aQ;repeat (first|rfl|rw[if_pos (by assumption)]|rw[if_neg (by assumption)]))
  first|(refine aa.trans (aE 1 an) (aa.of_eq ?_);unfold aQ;repeat (first|rfl|rw[if_pos (by assumption)]|rw[if_neg (by assumption)]))|(refine aa.of_eq ?_;unfold aQ;repeat (first|rfl|rw[if_pos (by assumption)]|rw[if_neg (by assumption)]))
 refine dh ?_;refine Cd (λn8=>?_) λn8=>?_
 ·
  refine Z3 ?_;refine .p (cB an [127]) rfl ?_;refine Z1 ?_;refine .p (cB an [126]) rfl ?_;refine Z7 ?_;refine eA ?_ ?_
  · first|(refine aa.trans (aE 1 an) (aa.of_eq ?_);unfold aQ;repeat (first|rfl|rw[if_pos (by assumption)]|rw[if_neg (by assumption)]))|(refine aa.of_eq ?_;unfold aQ;repeat (first|rfl|rw[if_pos (by assumption)]|rw[if_neg (by assumption)]))
  first|(refine aa.trans (aE 1 an) (aa.of_eq ?_);unfold aQ;repeat (first|rfl|rw[if_pos (by assumption)]|rw[if_neg (by assumption)]))|(refine aa.of_eq ?_;unfold aQ;repeat (first|rfl|rw[if_pos (by assumption)]|rw[if_neg (by assumption)]))
 refine Cn ?_;refine Cd (λqB=>?_) λqB=>?_
 ·
  refine Z3 ?_;refine .p (cB an [126]) rfl ?_;refine Z1 ?_;refine .p (cB an [126]) rfl ?_;refine Z7 ?_;refine eA ?_ ?_
  · first|(refine aa.trans (aE 1 an) (aa.of_eq ?_);unfold aQ;repeat (first|rfl|rw[if_pos (by assumption)]|rw[if_neg (by assumption)]))|(refine aa.of_eq ?_;unfold aQ;repeat (first|rfl|rw[if_pos (by assumption)]|rw[if_neg (by assumption)]))
  first|(refine aa.trans (aE 1 an) (aa.of_eq ?_);unfold aQ;repeat (first|rfl|rw[if_pos (by assumption)]|rw[if_neg (by assumption)]))|(refine aa.of_eq ?_;unfold aQ;repeat (first|rfl|rw[if_pos (by assumption)]|rw[if_neg (by assumption)]))
 refine Z7 ?_;refine Cd (λv8=>?_) λv8=>?_
 ·
  refine Z5 ?_;refine .p (cB an [127,127,127]) rfl ?_;refine Z7 ?_;refine eA ?_ ?_
  · first|(refine aa.trans (aE 1 an) (aa.of_eq ?_);unfold aQ;repeat (first|rfl|rw[if_pos (by assumption)]|rw[if_neg (by assumption)]))|(refine aa.of_eq ?_;unfold aQ;repeat (first|rfl|rw[if_pos (by assumption)]|rw[if_neg (by assumption)]))
  first|(refine aa.trans (aE 1 an) (aa.of_eq ?_);unfold aQ;repeat (first|rfl|rw[if_pos (by assumption)]|rw[if_neg (by assumption)]))|(refine aa.of_eq ?_;unfold aQ;repeat (first|rfl|rw[if_pos (by assumption)]|rw[if_neg (by assumption)]))
 refine Z6 ?_;refine .p (cB an [127]) rfl ?_;refine Z1 ?_;refine .p (cB an [127]) rfl ?_;refine Z5 ?_;refine eA ?_ ?_
 · first|(refine aa.trans (aE 1 an) (aa.of_eq ?_);unfold aQ;repeat (first|rfl|rw[if_pos (by assumption)]|rw[if_neg (by assumption)]))|(refine aa.of_eq ?_;unfold aQ;repeat (first|rfl|rw[if_pos (by assumption)]|rw[if_neg (by assumption)]))
 first|(refine aa.trans (aE 1 an) (aa.of_eq ?_);unfold aQ;repeat (first|rfl|rw[if_pos (by assumption)]|rw[if_neg (by assumption)]))|(refine aa.of_eq ?_;unfold aQ;repeat (first|rfl|rw[if_pos (by assumption)]|rw[if_neg (by assumption)]))
theorem Jh:dF Wo 188 [af .i64 code] (af .i64 (iW code)):=by
 refine In 27 Tryz.func188 λ_ _ _=>?_;refine eB ?_;refine .cut (σ:=Unit) (λ_=>[]) (λ_=>[(4,av (code=40\/code=52\/code=53\/code=54\/code=62))]) (λ_=>True) ?_ ?_
 ·
  refine Z6 ?_;refine Cd (λc0=>?_) λc0=>?_
  ·
   refine Z1 ?_;refine .meet () trivial rfl (.get rfl (aa.prop (by omega)) (.keep 2 rfl rfl))
  refine Z6 ?_;refine Cd (λc1=>?_) λc1=>?_
  ·
   refine Z1 ?_;refine .meet () trivial rfl (.get rfl (aa.prop (by omega)) (.keep 4 rfl rfl))
  refine Z6 ?_;refine Cd (λc2=>?_) λc2=>?_
  ·
   refine Z1 ?_;refine .meet () trivial rfl (.get rfl (aa.prop (by omega)) (.keep 6 rfl rfl))
  refine Z6 ?_;refine Cd (λc3=>?_) λc3=>?_
  ·
   refine Z1 ?_;refine .meet () trivial rfl (.get rfl (aa.prop (by omega)) (.keep 8 rfl rfl))
  refine Z4 ?_;refine .meet () trivial rfl (.get rfl (aa.prop (by omega)) (.keep 10 rfl rfl))
 intro _ _;refine Cd (λc4=>?_) λc4=>?_
 ·
  refine Z8 ?_;refine br ?_;exact aa.int (by unfold iW;repeat (first|rfl|rw[if_pos (by assumption)]|rw[if_neg (by assumption)]))
 refine .cut (σ:=Unit) (λ_=>[]) (λ_=>[(10,av (code=41\/code=55))]) (λ_=>True) ?_ ?_
 ·
  refine Z6 ?_;refine Cd (λc5=>?_) λc5=>?_
  ·
   refine Z1 ?_;refine .meet () trivial rfl (.get rfl (aa.prop (by omega)) (.keep 2 rfl rfl))
  refine Z4 ?_;refine .meet () trivial rfl (.get rfl (aa.prop (by omega)) (.keep 4 rfl rfl))
 intro _ _;refine Cd (λc6=>?_) λc6=>?_
 ·
  refine Z8 ?_;refine br ?_;exact aa.int (by unfold iW;repeat (first|rfl|rw[if_pos (by assumption)]|rw[if_neg (by assumption)]))
 refine .cut (σ:=Unit) (λ_=>[]) (λ_=>[(13,av (code=44\/code=45\/code=48\/code=49\/code=58\/code=60))]) (λ_=>True) ?_ ?_
 ·
  refine Z6 ?_;refine Cd (λc7=>?_) λc7=>?_
  ·
   refine Z1 ?_;refine .meet () trivial rfl (.get rfl (aa.prop (by omega)) (.keep 2 rfl rfl))
  refine Z6 ?_;refine Cd (λc8=>?_) λc8=>?_
  ·
   refine Z1 ?_;refine .meet () trivial rfl (.get rfl (aa.prop (by omega)) (.keep 4 rfl rfl))
  refine Z6 ?_;refine Cd (λc9=>?_) λc9=>?_
  ·
   refine Z1 ?_;refine .meet () trivial rfl (.get rfl (aa.prop (by omega)) (.keep 6 rfl rfl))
  refine Z6 ?_;refine Cd (λlZ=>?_) λlZ=>?_
  ·
   refine Z1 ?_;refine .meet () trivial rfl (.get rfl (aa.prop (by omega)) (.keep 8 rfl rfl))
  refine Z6 ?_;refine Cd (λn8=>?_) λn8=>?_
  ·
   refine Z1 ?_;refine .meet () trivial rfl (.get rfl (aa.prop (by omega)) (.keep 10 rfl rfl))
  refine Z4 ?_;refine .meet () trivial rfl (.get rfl (aa.prop (by omega)) (.keep 12 rfl rfl))
 intro _ _;refine Cd (λqB=>?_) λqB=>?_
 ·
  refine Z8 ?_;refine br ?_;exact aa.int (by unfold iW;repeat (first|rfl|rw[if_pos (by assumption)]|rw[if_neg (by assumption)]))
 refine .cut (σ:=Unit) (λ_=>[]) (λ_=>[(20,av (code=46\/code=47\/code=50\/code=51\/code=59\/code=61))]) (λ_=>True) ?_ ?_
 ·
  refine Z6 ?_;refine Cd (λv8=>?_) λv8=>?_
  ·
   refine Z1 ?_;refine .meet () trivial rfl (.get rfl (aa.prop (by omega)) (.keep 2 rfl rfl))
  refine Z6 ?_;refine Cd (λs7=>?_) λs7=>?_
  ·
   refine Z1 ?_;refine .meet () trivial rfl (.get rfl (aa.prop (by omega)) (.keep 4 rfl rfl))
  refine Z6 ?_;refine Cd (λwg=>?_) λwg=>?_
  ·
   refine Z1 ?_;refine .meet () trivial rfl (.get rfl (aa.prop (by omega)) (.keep 6 rfl rfl))
  refine Z6 ?_;refine Cd (λvQ=>?_) λvQ=>?_
  ·
   refine Z1 ?_;refine .meet () trivial rfl (.get rfl (aa.prop (by omega)) (.keep 8 rfl rfl))
  refine Z6 ?_;refine Cd (λQH=>?_) λQH=>?_
  ·
   refine Z1 ?_;refine .meet () trivial rfl (.get rfl (aa.prop (by omega)) (.keep 10 rfl rfl))
  refine Z4 ?_;refine .meet () trivial rfl (.get rfl (aa.prop (by omega)) (.keep 12 rfl rfl))
 intro _ _;refine Cd (λLh=>?_) λLh=>?_
 ·
  refine Z8 ?_;refine br ?_;exact aa.int (by unfold iW;repeat (first|rfl|rw[if_pos (by assumption)]|rw[if_neg (by assumption)]))
 refine Z9 ?_;refine br ?_;exact aa.int (by unfold iW;repeat (first|rfl|rw[if_pos (by assumption)]|rw[if_neg (by assumption)]))
variable {s:ee} {base:Int}
theorem rU{w:UInt8}(ak:s.1.length<=60000):bu Wo 184 [aC (bq s base),af .u8 ((w:UInt8).toNat:Int)] [] (γ:=ee×UInt8×Int) (TB s w) (λ_=>[]) (λg=>aZ [aC (bq g.1 base),af .u8 (g.2.1.toNat:Int),af .i64 g.2.2]):=by
 refine In 52 Tryz.func184 λ_ _ _=>?_;obtain⟨sl,sd⟩:=s;simp only at ak;refine Z2 ?_;refine .n (cc (.t rfl)) rfl λb2 _=>?_;refine .n (au FZ.out) rfl λb4 _=>?_;refine Cn ?_;refine Cd (λc0=>?_) λc0=>?_
 ·
  have Gm:sl=[]:=List.eq_nil_of_length_eq_zero (by have:(sl.length:Int)=0:=c0;omega);subst Gm;refine Z8 ?_;refine Cd (λc1=>?_) λc1=>?_
  ·
   refine dh ?_;refine Post.bh rfl rfl ((([],sd),0,5)) (by exact⟨.inr ⟨by show(5:Int)≠0;decide,AQ c1⟩,Nat.le_refl _⟩) (aF.cZ [] [0,1] rfl rfl) rfl (.cons (.ra (i:=0) FA.out FC.out rfl rfl rfl rfl) ?_ (.cons (.rt rfl) ?_ (.cons (.rt rfl) ?_ .nil)))
   · exact aa.refl _
   · exact aa.refl _
   exact aa.refl _
  refine kL ?_;refine Post.bh rfl rfl ((([],sd),w,0)) (by exact⟨.inl ⟨rfl,MS (Classical.not_not.1 c1)⟩,Nat.le_refl _⟩) (aF.cZ [] [0,1] rfl rfl) rfl (.cons (.ra (i:=0) FA.out FC.out rfl rfl rfl rfl) ?_ (.cons (.rt rfl) ?_ (.cons (.rt rfl) ?_ .nil)))
  · exact aa.refl _
  · exact aa.refl _
  exact aa.refl _
 obtain⟨l,x,rfl⟩:=nS (l:=sl) (λe=>c0 (by rw[e];rfl));simp only[List.length_append,List.length_cons,List.length_nil] at ak;refine Z7 ?_;refine .p (iy (.t rfl) (.c _) (cM (by simp<;>omega) (by simp<;>omega))) rfl ?_;refine .p (cI l.length (h:=show(l++[x])[l.length]?=some x by simp) (hi:=by simp)) rfl ?_;refine Z6 ?_;refine .p (wu FU.out FC.out rfl FZ.out rfl) rfl ?_;refine Z3 ?_;refine .p (iy (.t rfl) (.c _) (cM (by simp<;>omega) (by simp<;>omega))) rfl ?_;refine .p (Da (h:=l.length) FU.out FC.out rfl (.t rfl) (.t rfl) (by simp) (by simp)) rfl ?_;refine .p (Db FU.out FU.out FC.out rfl FZ.out rfl FY.out (.t rfl) (.t rfl) (by simp<;>omega)) rfl ?_;refine J2 ?_;refine Cd (λc2=>?_) λc2=>?_
 ·
  refine cC ?_;refine Post.bh rfl rfl (((l,sd),0,5)) (by exact⟨.inr ⟨by show(5:Int)≠0;decide,Wg c2⟩,by(show l.length<=_;simp)⟩) (aF.cZ [] [0,1] rfl rfl) rfl (.cons (.ra (i:=0) FA.out FC.out rfl rfl rfl rfl) ?_ (.cons (.rt rfl) ?_ (.cons (.rt rfl) ?_ .nil)))
  · exact aa.agg (.cons (aa.of_eq (by simp)) (.cons (aa.refl _) (.cons (aa.refl _) .nil)))
  · exact aa.refl _
  exact aa.refl _
 refine Z9 ?_;refine Cd (λc3=>?_) λc3=>?_
 ·
  refine dh ?_;refine Post.bh rfl rfl (((l,sd),w,0)) (by exact⟨.inl ⟨rfl,by rw[Jg c2,if_pos ((pG x).1 c3)]⟩,by(show l.length<=_;simp)⟩) (aF.cZ [] [0,1] rfl rfl) rfl (.cons (.ra (i:=0) FA.out FC.out rfl rfl rfl rfl) ?_ (.cons (.rt rfl) ?_ (.cons (.rt rfl) ?_ .nil)))
  · exact aa.agg (.cons (aa.of_eq (by simp)) (.cons (aa.refl _) (.cons (aa.refl _) .nil)))
  · exact aa.refl _
  exact aa.refl _
 refine eB ?_;refine Post.bh rfl rfl (((l,sd),x,0)) (by exact⟨.inl ⟨rfl,by rw[Jg c2,if_neg (λe=>c3 ((pG x).2 e))]⟩,by(show l.length<=_;simp)⟩) (aF.cZ [] [0,1] rfl rfl) rfl (.cons (.ra (i:=0) FA.out FC.out rfl rfl rfl rfl) ?_ (.cons (.rt rfl) ?_ (.cons (.rt rfl) ?_ .nil)))
 · exact aa.agg (.cons (aa.of_eq (by simp)) (.cons (aa.refl _) (.cons (aa.refl _) .nil)))
 · exact aa.refl _
 exact aa.refl _
theorem cJ{l:List UInt8}(ak:s.1.length<=60000):bu Wo 122 [aC (bq s base),ai 1 an (l)] [] (γ:=ee×Int) (Uk s l) (λ_=>[]) (λg=>aZ [aC (bq g.1 base),af .i64 g.2]):=by
 refine In 30 Tryz.func122 λ_ _ _=>?_;refine .fact (t:=1) rfl (λS w v h=>cw h) λpX=>?_;refine Z2 ?_;refine .n (cc (.t rfl)) rfl λb2 _=>?_;refine .n (au FZ.out) rfl λb4 _=>?_;refine kL ?_;refine .own (aF.perm (Perm.idx [1,0] rfl rfl)) ?_;refine .bk (σ:=Nat×ee) (λg=>[az b2 (bq g.2 base),az b4 (List.map ag [.slice none 0 0, .bool false, .int .i64 0])]) (λg=>[(6,af .i64 ((g.1:Int)-1))]) (λg=>g.1<=l.length/\dD g.2 (l.take g.1)=dD s l/\g.2.1.length<=s.1.length) (λg=>g.1) (l.length,s) ⟨Nat.le_refl _,by simp,Nat.le_refl _⟩ rfl ?_ ?_
 · exact(.get rfl (aa.refl _) (.refl _ _))
 rintro⟨j,s1⟩ ⟨hj,hinv,Gm⟩;simp only at hj hinv Gm ⊢;refine Z7 ?_;refine Cd (λc0=>?_) λc0=>?_
 ·
  obtain⟨t,ht⟩:=ah (xs:=l) (k:=j-1) (by omega);have hjt:dD s1 (l.take j)=(jq s1 t).bind λp=>dD p.1 (l.take (j-1)):=by(have h9:=RT (s:=s1) ht;rwa [show j-1+1=j by omega] at h9)
  refine cC ?_;refine .bt [(0,1),(1,0),(2,0),(3,0),(4,0),(5,2),(6,0),(7,0),(8,0),(9,0),(10,3)] 11 1 FM.out (by kernel_rfl) (k:= ?_);refine Z3 ?_;refine .p rfl (λ_=>aW (j:=j-1) FU.out FC.out rfl (.t rfl) (.t rfl) (by omega) ht) ?_;refine Z1 ?_;refine .e rfl (cE (h:=rU (s:=s1) (w:=t) (by omega))) λUe Tg=>?_;refine Z4 ?_;refine .s rfl (dQ (i:=0) FC.out rfl (.t rfl) (.t rfl) rfl rfl rfl) ?_;refine .fin ?_;refine Z9 ?_;refine Cd (λc1=>?_) λc1=>?_
  ·
   refine ij ?_;refine Post.bh rfl rfl ((Ue.1,Ue.2.2)) (by exact⟨.inr ⟨c1,by rw[<-hinv,hjt,Tg.no c1];rfl⟩,Nat.le_trans Tg.2 Gm⟩) (aF.cZ [] [0,1] rfl rfl) rfl (.cons (.ra (i:=1) FA.out FC.out rfl rfl rfl rfl) ?_ (.cons (.rt rfl) ?_ .nil))
   · exact aa.refl _
   exact aa.refl _
  refine Z8 ?_;refine .round (j-1,Ue.1) ⟨by show j-1<=_;omega,by(show dD Ue.1 _=_;rw[<-hinv,hjt,Tg.ok (Classical.not_not.1 c1)];rfl),Nat.le_trans Tg.2 Gm⟩ (by show j-1<j;omega) rfl ?_;exact(.get rfl (aa.int (by show(_:Int)=((j-1:Nat):Int)-1;omega)) ((.keep 21 rfl rfl)))
 have hj0:j=0:=by omega
 subst hj0;refine kL ?_;refine Post.bh rfl rfl ((s1,0)) (by exact⟨.inl ⟨rfl,by rw[<-hinv];rfl⟩,Gm⟩) (aF.cZ [] [0,1] rfl rfl) rfl (.cons (.ra (i:=1) FA.out FC.out rfl rfl rfl rfl) ?_ (.cons (.rt rfl) ?_ .nil))
 · exact aa.refl _
 exact aa.refl _
theorem eK{l:List UInt8}(ak:s.1.length<=60000)(aR:l.length<=60000):bu Wo 124 [aC (bq s base),ai 1 an (l)] [] (γ:=Unit) (λ_=>True) (λ_=>[]) (λ_=>aC (bq (bG s l) base)):=by
 refine In 13 Tryz.func124 λ_ _ _=>?_;refine Z2 ?_;refine .n (cc (.t rfl)) rfl λb2 _=>?_;refine .n (au FZ.out) rfl λb4 _=>?_;refine Z4 ?_;refine .n (dM an ([]:List UInt8) FU.out FC.out rfl FZ.out rfl .nil rfl rfl rfl rfl rfl) rfl λg5 _=>?_;refine Z2 ?_;refine .n (aK (i:=0) FU.out FU.out FC.out rfl FZ.out rfl FY.out (.t rfl) (.t rfl) rfl (by simp<;>omega) (by simp<;>omega)) rfl λg8 _=>?_;refine Z1 ?_;refine .n (gW.eC (G:=λg=>g) (l6:=λ_=>_) (xs:=λ_=>_) (aK (i:=0) FU.out FU.out FC.out rfl FZ.out rfl FY.out (.t rfl) (.t rfl) rfl (by simp<;>omega) (by simp<;>omega))) rfl λ_ _=>?_;refine dh ?_;refine Post.aS rfl (()) (by trivial) (aF.cZ [] [0,1] rfl rfl) (.ra (i:=0) FA.out FC.out rfl rfl rfl rfl) ?_;exact aa.agg (.cons (aa.of_eq (by simp[bG])) (.cons (aa.refl _) (.cons (aa.refl _) .nil)))
theorem rV:bu Wo 185 [aC (bq s base)] [] (γ:=Unit) (λ_=>True) (λ_=>[]) (λ_=>aC (bq fT base)):=by
 refine In 6 Tryz.func185 λ_ _ _=>?_;refine Z3 ?_;refine .n (au FZ.out) rfl λb2 _=>?_;refine dh ?_;refine Post.aS rfl (()) (by trivial) (aF.cZ [] [0] rfl rfl) (.ra (i:=0) FA.out FC.out rfl rfl rfl rfl) ?_;exact aa.agg (.cons (aE 1 an) (.cons (aa.refl _) (.cons (aa.refl _) .nil)))
theorem L8{a b:List UInt8}:dF Wo 186 [ai 1 an (a),ai 1 an (b)] (av (a=b)):=by
 refine In 10 Tryz.func186 λ_ _ _=>?_;refine Cm ?_;refine br ?_;exact aa.refl _
variable {v:oY} {x:aj} {labs:List (List UInt8)}
theorem TD(ak:qh v x s labs)(aR:x.Code=0):bu Wo 123 [aC (fJ v),aC (aB x),aC (bq s base),ai 1 eI labs] [] (γ:=ee×Int) (zw s (fZ v x s labs)) (λ_=>[]) (λg=>aZ [aC (bq g.1 base),af .i64 g.2]):=by
 refine In 517 Tryz.func123 λ_ _ _=>?_;have FH:=ak.stk;have og:=ak.ins.A0;have BR:=ak.ins.wY;have pX:=ak.D5;have hE:=ak.env;have yl:=hE.F;have yZ:=hE.S;have BA:=hE.L;have FI:=hE.G;have FJ:=hE.W;refine Z4 ?_;refine .n (cc (.t rfl)) rfl λb6 _=>?_;refine .n (au FZ.out) rfl λb8 _=>?_;refine Di ?_;refine CF λc0=>?_;refine Z3 ?_;refine .n (cE (h:=rV (s:=s))) rfl λg37 h37=>?_;refine Z7 ?_;refine Post.bh rfl rfl ((fT,0)) (by exact vU (WZ aR) (by simp[fT])) (aF.cZ [] [0,1] rfl rfl) rfl (.cons (.ra (i:=0) FA.out FC.out rfl rfl rfl rfl) ?_ (.cons (.rt rfl) ?_ .nil))
 · exact aa.refl _
 exact aa.refl _
theorem Qb(ak:qh v x s labs)(aR:x.Code=12):bu Wo 123 [aC (fJ v),aC (aB x),aC (bq s base),ai 1 eI labs] [] (γ:=ee×Int) (zw s (fZ v x s labs)) (λ_=>[]) (λg=>aZ [aC (bq g.1 base),af .i64 g.2]):=by
 refine In 517 Tryz.func123 λ_ _ _=>?_;have FH:=ak.stk;have og:=ak.ins.A0;have BR:=ak.ins.wY;have pX:=ak.D5;have hE:=ak.env;have yl:=hE.F;have yZ:=hE.S;have BA:=hE.L;have FI:=hE.G;have FJ:=hE.W;refine Z4 ?_;refine .n (cc (.t rfl)) rfl λb6 _=>?_;refine .n (au FZ.out) rfl λb8 _=>?_;refine Di ?_;refine CT λc0=>?_;refine Z7 ?_;refine CF λc1=>?_;refine Z2 ?_;refine CF λc2=>?_;refine cC ?_;refine Cd (λc3=>?_) λc3=>?_
 ·
  have hno:=xE (L:=labs) c3;refine dh ?_;refine Post.bh rfl rfl ((s,2)) (by exact fE (by decide) (by rw[x8 aR,hno];rfl) (by omega)) (aF.cZ [] [0,1] rfl rfl) rfl (.cons (.ra (i:=0) FA.out FC.out rfl rfl rfl rfl) ?_ (.cons (.rt rfl) ?_ .nil))
  · exact aa.refl _
  exact aa.refl _
 obtain⟨w,hw,qP⟩:=xD (L:=labs) og c3;have hwl:w.length<=20:=ak.lbw w (List.mem_of_getElem? qP);refine dh ?_;refine .p (cI (labs.length-1-x.A.toNat) (h:=qP)) rfl ?_;refine eB ?_;refine CT λc4=>?_;refine Z6 ?_;refine .n (cE (h:=cJ (s:=s) (l:=w) (by omega))) rfl λZa Uh=>?_;refine ij ?_;refine Cd (λc5=>?_) λc5=>?_
 ·
  refine eB ?_;refine Post.bh rfl rfl (Za) (by exact fE c5 (by rw[x8 aR,hw,Option.bind_some,Uh.no c5];rfl) (by have:=Uh.2;omega)) (aF.cZ [] [0,1] rfl rfl) rfl (.cons (.ra (i:=0) FA.out FC.out rfl rfl rfl rfl) ?_ (.cons (.rt rfl) ?_ .nil))
  · exact aa.refl _
  exact aa.refl _
 refine cC ?_;refine CF λc6=>?_;refine Z3 ?_;refine .n (cE (h:=rV (s:=Za.1))) rfl λg84 h84=>?_;refine Z8 ?_;refine Post.bh rfl rfl ((fT,0)) (by exact vU (by rw[x8 aR,hw,Option.bind_some,Uh.ok (Classical.not_not.1 c5)];rfl) (by simp[fT])) (aF.cZ [] [0,1] rfl rfl) rfl (.cons (.ra (i:=0) FA.out FC.out rfl rfl rfl rfl) ?_ (.cons (.rt rfl) ?_ .nil))
 · exact aa.refl _
 exact aa.refl _
theorem Qc(ak:qh v x s labs)(aR:x.Code=13):bu Wo 123 [aC (fJ v),aC (aB x),aC (bq s base),ai 1 eI labs] [] (γ:=ee×Int) (zw s (fZ v x s labs)) (λ_=>[]) (λg=>aZ [aC (bq g.1 base),af .i64 g.2]):=by
 refine In 517 Tryz.func123 λ_ _ _=>?_;have FH:=ak.stk;have og:=ak.ins.A0;have BR:=ak.ins.wY;have pX:=ak.D5;have hE:=ak.env;have yl:=hE.F;have yZ:=hE.S;have BA:=hE.L;have FI:=hE.G;have FJ:=hE.W;refine Z4 ?_;refine .n (cc (.t rfl)) rfl λb6 _=>?_;refine .n (au FZ.out) rfl λb8 _=>?_;refine Di ?_;refine CT λc0=>?_;refine Z7 ?_;refine CT λc1=>?_;refine Z5 ?_;refine CF λc2=>?_;refine cC ?_;refine Cd (λc3=>?_) λc3=>?_
 ·
  have hno:=xE (L:=labs) c3;refine dh ?_;refine Post.bh rfl rfl ((s,2)) (by exact fE (by decide) (by rw[s6 aR,hno];rfl) (by omega)) (aF.cZ [] [0,1] rfl rfl) rfl (.cons (.ra (i:=0) FA.out FC.out rfl rfl rfl rfl) ?_ (.cons (.rt rfl) ?_ .nil))
  · exact aa.refl _
  exact aa.refl _
 obtain⟨w,hw,qP⟩:=xD (L:=labs) og c3;have hwl:w.length<=20:=ak.lbw w (List.mem_of_getElem? qP);refine dh ?_;refine .p (cI (labs.length-1-x.A.toNat) (h:=qP)) rfl ?_;refine eB ?_;refine CF λc4=>?_;refine Z4 ?_;refine .p (cB an [127]) rfl ?_;refine .n (cE (h:=cJ (s:=s) (l:=[127]) (by omega))) rfl λg63 h63=>?_;refine kL ?_;refine Cd (λc5=>?_) λc5=>?_
 ·
  refine eB ?_;refine Post.bh rfl rfl (g63) (by exact fE c5 (by rw[s6 aR,hw,Option.bind_some,p7,yC,h63.no c5];rfl) (by have:=h63.2;omega)) (aF.cZ [] [0,1] rfl rfl) rfl (.cons (.ra (i:=0) FA.out FC.out rfl rfl rfl rfl) ?_ (.cons (.rt rfl) ?_ .nil))
  · exact aa.refl _
  exact aa.refl _
 refine Z6 ?_;refine .n (cE (h:=cJ (s:=g63.1) (l:=w) (by have:=h63.2;omega))) rfl λZa Uh=>?_;refine ij ?_;refine Cd (λc6=>?_) λc6=>?_
 ·
  refine eB ?_;refine Post.bh rfl rfl (Za) (by exact fE c6 (by rw[s6 aR,hw,Option.bind_some,p7,yC,h63.ok (Classical.not_not.1 c5),Option.bind_some,Uh.no c6];rfl) (by have:=h63.2;have:=Uh.2;omega)) (aF.cZ [] [0,1] rfl rfl) rfl (.cons (.ra (i:=0) FA.out FC.out rfl rfl rfl rfl) ?_ (.cons (.rt rfl) ?_ .nil))
  · exact aa.refl _
  exact aa.refl _
 refine cC ?_;refine CT λc7=>?_;refine Z6 ?_;refine .n (cE (h:=eK (s:=Za.1) (l:=w) (by have:=h63.2;have:=Uh.2;omega) (by omega))) rfl λg87 h87=>?_;refine Z7 ?_;refine Post.bh rfl rfl ((bG Za.1 w,0)) (by exact vU (by rw[s6 aR,hw,Option.bind_some,p7,yC,h63.ok (Classical.not_not.1 c5),Option.bind_some,Uh.ok (Classical.not_not.1 c6)];rfl) (by have:=h63.2;have:=Uh.2;simp only[bG,List.length_append];omega)) (aF.cZ [] [0,1] rfl rfl) rfl (.cons (.ra (i:=0) FA.out FC.out rfl rfl rfl rfl) ?_ (.cons (.rt rfl) ?_ .nil))
 · exact aa.refl _
 exact aa.refl _
theorem Qd(ak:qh v x s labs)(aR:x.Code=15):bu Wo 123 [aC (fJ v),aC (aB x),aC (bq s base),ai 1 eI labs] [] (γ:=ee×Int) (zw s (fZ v x s labs)) (λ_=>[]) (λg=>aZ [aC (bq g.1 base),af .i64 g.2]):=by
 refine In 517 Tryz.func123 λ_ _ _=>?_;have FH:=ak.stk;have og:=ak.ins.A0;have BR:=ak.ins.wY;have pX:=ak.D5;have hE:=ak.env;have yl:=hE.F;have yZ:=hE.S;have BA:=hE.L;have FI:=hE.G;have FJ:=hE.W;refine Z4 ?_;refine .n (cc (.t rfl)) rfl λb6 _=>?_;refine .n (au FZ.out) rfl λb8 _=>?_;refine Di ?_;refine CT λc0=>?_;refine Z7 ?_;refine CT λc1=>?_;refine Z5 ?_;refine CT λc2=>?_;refine Z6 ?_;refine CT λc3=>?_;refine Z6 ?_;refine CF λc4=>?_;refine Z6 ?_;refine .n (cE (h:=cJ (s:=s) (l:=v.dR.R) (by omega))) rfl λaj8 Zi=>?_;refine ij ?_;refine Cd (λc5=>?_) λc5=>?_
 ·
  refine eB ?_;refine Post.bh rfl rfl (aj8) (by exact fE c5 (by rw[Ez aR,Zi.no c5];rfl) (by have:=Zi.2;omega)) (aF.cZ [] [0,1] rfl rfl) rfl (.cons (.ra (i:=0) FA.out FC.out rfl rfl rfl rfl) ?_ (.cons (.rt rfl) ?_ .nil))
  · exact aa.refl _
  exact aa.refl _
 refine Z5 ?_;refine .n (cE (h:=rV (s:=aj8.1))) rfl λce0 ce1=>?_;refine Z7 ?_;refine Post.bh rfl rfl ((fT,0)) (by exact vU (by rw[Ez aR,Zi.ok (Classical.not_not.1 c5)];rfl) (by simp[fT])) (aF.cZ [] [0,1] rfl rfl) rfl (.cons (.ra (i:=0) FA.out FC.out rfl rfl rfl rfl) ?_ (.cons (.rt rfl) ?_ .nil))
 · exact aa.refl _
 exact aa.refl _
theorem Qe(ak:qh v x s labs)(aR:x.Code=16):bu Wo 123 [aC (fJ v),aC (aB x),aC (bq s base),ai 1 eI labs] [] (γ:=ee×Int) (zw s (fZ v x s labs)) (λ_=>[]) (λg=>aZ [aC (bq g.1 base),af .i64 g.2]):=by
 refine In 517 Tryz.func123 λ_ _ _=>?_;have FH:=ak.stk;have og:=ak.ins.A0;have BR:=ak.ins.wY;have pX:=ak.D5;have hE:=ak.env;have yl:=hE.F;have yZ:=hE.S;have BA:=hE.L;have FI:=hE.G;have FJ:=hE.W;refine Z4 ?_;refine .n (cc (.t rfl)) rfl λb6 _=>?_;refine .n (au FZ.out) rfl λb8 _=>?_;refine Di ?_;refine CT λc0=>?_;refine Z7 ?_;refine CT λc1=>?_;refine Z5 ?_;refine CT λc2=>?_;refine Z6 ?_;refine CT λc3=>?_;refine Z6 ?_;refine CT λc4=>?_;refine Z6 ?_;refine CF λc5=>?_;refine eB ?_;refine Cd (λc6=>?_) λc6=>?_
 ·
  have hno:=j5 (L:=v.aq) c6;refine dh ?_;refine Post.bh rfl rfl ((s,2)) (by exact fE (by decide) (by rw[AT aR,hno];rfl) (by omega)) (aF.cZ [] [0,1] rfl rfl) rfl (.cons (.ra (i:=0) FA.out FC.out rfl rfl rfl rfl) ?_ (.cons (.rt rfl) ?_ .nil))
  · exact aa.refl _
  exact aa.refl _
 obtain⟨sg,hw,qP⟩:=jB (L:=v.aq) og c6;refine Z3 ?_;have QE:=hE.sf sg (List.mem_of_getElem? qP);refine .bt [(0,1),(1,0),(2,0),(3,0),(4,0),(5,0),(6,0),(7,0),(8,2),(9,0),(10,0),(11,0),(12,3)] 13 1 FM.out (by kernel_rfl) (k:= ?_);refine Z5 ?_;refine .p rfl (λ_=>aW (j:=x.A.toNat) FU.out FC.out rfl (.t rfl) (.t rfl) (by omega) qP) ?_;refine Z2 ?_;refine .e rfl (cE (h:=cJ (s:=s) (l:=sg.P) (by omega))) λZj aj9=>?_;refine Z3 ?_;refine .s rfl (dQ (i:=1) FC.out rfl (.t rfl) (.t rfl) rfl rfl rfl) ?_;refine .fin ?_;refine Z4 ?_;refine .bt [(0,1),(1,0),(2,0),(3,0),(4,0),(5,0),(6,0),(7,0),(9,0),(8,2),(10,3)] 11 1 FM.out (by kernel_rfl) (k:= ?_);refine Z5 ?_;refine .p rfl (λ_=>aW (j:=x.A.toNat) FU.out FC.out rfl (.t rfl) (.t rfl) (by omega) qP) ?_;refine Z3 ?_;refine .e rfl (cE (h:=eK (s:=Zj.1) (l:=sg.R) (by have:=aj9.2;omega) (by omega))) λce2 ce3=>?_;refine .s rfl (dQ (i:=0) FC.out rfl (.t rfl) (.t rfl) rfl rfl rfl) ?_;refine .fin ?_;refine Z6 ?_;refine Post.bh rfl rfl ((bG Zj.1 sg.R,Zj.2)) (by exact rT (by rw[AT aR,hw,Option.bind_some]) aj9 QE.2) (aF.cZ [] [0,1] rfl rfl) rfl (.cons (.ra (i:=0) FA.out FC.out rfl rfl rfl rfl) ?_ (.cons (.rt rfl) ?_ .nil))
 · exact aa.refl _
 exact aa.refl _
theorem Qf(ak:qh v x s labs)(aR:x.Code=26):bu Wo 123 [aC (fJ v),aC (aB x),aC (bq s base),ai 1 eI labs] [] (γ:=ee×Int) (zw s (fZ v x s labs)) (λ_=>[]) (λg=>aZ [aC (bq g.1 base),af .i64 g.2]):=by
 refine In 517 Tryz.func123 λ_ _ _=>?_;have FH:=ak.stk;have og:=ak.ins.A0;have BR:=ak.ins.wY;have pX:=ak.D5;have hE:=ak.env;have yl:=hE.F;have yZ:=hE.S;have BA:=hE.L;have FI:=hE.G;have FJ:=hE.W;refine Z4 ?_;refine .n (cc (.t rfl)) rfl λb6 _=>?_;refine .n (au FZ.out) rfl λb8 _=>?_;refine Di ?_;refine CT λc0=>?_;refine Z7 ?_;refine CT λc1=>?_;refine Z5 ?_;refine CT λc2=>?_;refine Z6 ?_;refine CT λc3=>?_;refine Z6 ?_;refine CT λc4=>?_;refine Z6 ?_;refine CT λc5=>?_;refine Z6 ?_;refine CT λc6=>?_;refine Z6 ?_;refine CF λc7=>?_;refine Z3 ?_;refine .n (cE (h:=rU (s:=s) (w:=0) (by omega))) rfl λZk ak0=>?_;refine Cn ?_;refine Post.bh rfl rfl ((Zk.1,Zk.2.2)) (by exact⟨by(rw[Ks aR];rcases ak0.1 with⟨h1,h2⟩|⟨h1,h2⟩;exact .inl ⟨h1,by rw[h2];rfl⟩;exact .inr ⟨h1,by rw[h2];rfl⟩),by have:=ak0.2;(show Zk.1.1.length<=_;omega)⟩) (aF.cZ [] [0,1] rfl rfl) rfl (.cons (.ra (i:=0) FA.out FC.out rfl rfl rfl rfl) ?_ (.cons (.rt rfl) ?_ .nil))
 · exact aa.refl _
 exact aa.refl _
theorem Qg(ak:qh v x s labs)(aR:x.Code=27):bu Wo 123 [aC (fJ v),aC (aB x),aC (bq s base),ai 1 eI labs] [] (γ:=ee×Int) (zw s (fZ v x s labs)) (λ_=>[]) (λg=>aZ [aC (bq g.1 base),af .i64 g.2]):=by
 refine In 517 Tryz.func123 λ_ _ _=>?_;have FH:=ak.stk;have og:=ak.ins.A0;have BR:=ak.ins.wY;have pX:=ak.D5;have hE:=ak.env;have yl:=hE.F;have yZ:=hE.S;have BA:=hE.L;have FI:=hE.G;have FJ:=hE.W;refine Z4 ?_;refine .n (cc (.t rfl)) rfl λb6 _=>?_;refine .n (au FZ.out) rfl λb8 _=>?_;refine Di ?_;refine CT λc0=>?_;refine Z7 ?_;refine CT λc1=>?_;refine Z5 ?_;refine CT λc2=>?_;refine Z6 ?_;refine CT λc3=>?_;refine Z6 ?_;refine CT λc4=>?_;refine Z6 ?_;refine CT λc5=>?_;refine Z6 ?_;refine CT λc6=>?_;refine Z6 ?_;refine CT λc7=>?_;refine Z6 ?_;refine CF λc8=>?_;refine Z4 ?_;refine .p (cB an [127]) rfl ?_;refine .n (cE (h:=cJ (s:=s) (l:=[127]) (by omega))) rfl λak1 FK=>?_;refine ij ?_;refine Cd (λc9=>?_) λc9=>?_
 ·
  refine eB ?_;refine Post.bh rfl rfl (ak1) (by exact fE c9 (by rw[vr aR,FK.no c9];rfl) (by have:=FK.2;omega)) (aF.cZ [] [0,1] rfl rfl) rfl (.cons (.ra (i:=0) FA.out FC.out rfl rfl rfl rfl) ?_ (.cons (.rt rfl) ?_ .nil))
  · exact aa.refl _
  exact aa.refl _
 refine dh ?_;refine .n (cE (h:=rU (s:=ak1.1) (w:=0) (by have:=FK.2;omega))) rfl λWh Qh=>?_;refine Cm ?_;refine Cd (λlZ=>?_) λlZ=>?_
 ·
  refine eB ?_;refine Post.bh rfl rfl ((Wh.1,Wh.2.2)) (by exact fE lZ (by rw[vr aR,FK.ok (Classical.not_not.1 c9),Option.bind_some,Qh.no lZ];rfl) (by have:=FK.2;have:=Qh.2;omega)) (aF.cZ [] [0,1] rfl rfl) rfl (.cons (.ra (i:=0) FA.out FC.out rfl rfl rfl rfl) ?_ (.cons (.rt rfl) ?_ .nil))
  · exact aa.refl _
  exact aa.refl _
 refine Z6 ?_;refine .n (cE (h:=rU (s:=Wh.1) (w:=Wh.2.1) (by have:=FK.2;have:=Qh.2;omega))) rfl λL9 Zl=>?_;refine kL ?_;refine .p (cB an [L9.2.1]) rfl ?_;refine .n (cE (h:=eK (s:=L9.1) (l:=[L9.2.1]) (by have:=FK.2;have:=Qh.2;have:=Zl.2;omega) (by simp))) rfl λce4 ce5=>?_;refine Z8 ?_;refine Post.bh rfl rfl ((bG L9.1 [L9.2.1],L9.2.2)) (by exact⟨by(rw[vr aR,FK.ok (Classical.not_not.1 c9),Option.bind_some,Qh.ok (Classical.not_not.1 lZ),Option.bind_some];rcases Zl.1 with⟨h1,h2⟩|⟨h1,h2⟩;exact .inl ⟨h1,by rw[h2];rfl⟩;exact .inr ⟨h1,by rw[h2];rfl⟩),by have:=FK.2;have:=Qh.2;have:=Zl.2;(show(L9.1.1++_).length<=_;rw[List.length_append];simp only[List.length_cons,List.length_nil];omega)⟩) (aF.cZ [] [0,1] rfl rfl) rfl (.cons (.ra (i:=0) FA.out FC.out rfl rfl rfl rfl) ?_ (.cons (.rt rfl) ?_ .nil))
 · exact aa.refl _
 exact aa.refl _
theorem Qi(ak:qh v x s labs)(aR:x.Code=14):bu Wo 123 [aC (fJ v),aC (aB x),aC (bq s base),ai 1 eI labs] [] (γ:=ee×Int) (zw s (fZ v x s labs)) (λ_=>[]) (λg=>aZ [aC (bq g.1 base),af .i64 g.2]):=by
 refine In 517 Tryz.func123 λ_ _ _=>?_;have FH:=ak.stk;have og:=ak.ins.A0;have BR:=ak.ins.wY;have pX:=ak.D5;have hE:=ak.env;have yl:=hE.F;have yZ:=hE.S;have BA:=hE.L;have FI:=hE.G;have FJ:=hE.W;have hLn:=ak.ins.Ln;refine Z4 ?_;refine .n (cc (.t rfl)) rfl λb6 _=>?_;refine .n (au FZ.out) rfl λb8 _=>?_;refine Di ?_;refine CT λc0=>?_;refine Z7 ?_;refine CT λc1=>?_;refine Z5 ?_;refine CT λc2=>?_;refine Z6 ?_;refine CF λc3=>?_;refine cC ?_;refine Cd (λc4=>?_) λc4=>?_
 ·
  have hno:=xE (L:=labs) c4;refine dh ?_;refine Post.bh rfl rfl ((s,2)) (by exact fE (by decide) (by rw[nA aR,hno];rfl) (by omega)) (aF.cZ [] [0,1] rfl rfl) rfl (.cons (.ra (i:=0) FA.out FC.out rfl rfl rfl rfl) ?_ (.cons (.rt rfl) ?_ .nil))
  · exact aa.refl _
  exact aa.refl _
 obtain⟨w,hw,qP⟩:=xD (L:=labs) og c4;have hwl:w.length<=20:=ak.lbw w (List.mem_of_getElem? qP);refine dh ?_;refine .p (cI (labs.length-1-x.A.toNat) (h:=qP)) rfl ?_;refine dh ?_;refine .bk (σ:=Nat) (λ_=>[az b8 (List.map ag [.slice none 0 0, .bool false, .int .i64 0]),az b6 (bq s base)]) (λk=>[(16,af .i64 (k:Int))]) (λk=>k<=x.L.length/\∀n∈x.L.take k,n<(labs.length:Int)) (λk=>x.L.length-k) 0 ⟨Nat.zero_le _,by simp⟩ rfl ?_ ?_
 · exact(.get rfl (aa.refl _) (.refl _ _))
 rintro k ⟨hk,hall⟩;refine cC ?_;refine Cd (λc5=>?_) λc5=>?_
 ·
  obtain⟨n,hn⟩:=ah (xs:=x.L) (k:=k) (by omega);have hn0:=ak.ins.L0 n (List.mem_of_getElem? hn);refine Z9 ?_;refine .p (cI k (h:=hn)) rfl ?_;refine Z6 ?_;refine Cd (λc6=>?_) λc6=>?_
  ·
   refine oA ?_;refine Post.bh rfl rfl ((s,2)) (by exact fE (by decide) (by rw[nA aR,hw,Option.bind_some];exact if_neg (λh=>by have h9:=h n (List.mem_of_getElem? hn);rw[xE c6] at h9;cases h9)) (by omega)) (aF.cZ [] [0,1] rfl rfl) rfl (.cons (.ra (i:=0) FA.out FC.out rfl rfl rfl rfl) ?_ (.cons (.rt rfl) ?_ .nil))
   · exact aa.refl _
   exact aa.refl _
  refine Z8 ?_;refine .round (k+1) ⟨by omega,λy hy=>by(rw[<-bE hn] at hy;rcases List.mem_append.1 hy with hy|hy;exact hall y hy;(simp only[List.mem_singleton] at hy;subst hy;omega))⟩ (by omega) rfl ?_;exact(.get rfl (aa.int (by omega)) ((.keep 17 rfl rfl)))
 have TE:∀n∈x.L,n<(labs.length:Int):=λn hn=>hall n (by rw[List.take_of_length_le (by omega)];exact hn);refine eB ?_;refine .bk (σ:=Nat) (λ_=>[az b8 (List.map ag [.slice none 0 0, .bool false, .int .i64 0]),az b6 (bq s base)]) (λk=>[(17,af .i64 (k:Int))]) (λk=>k<=x.L.length/\∀n∈x.L.take k,iG labs n=some w) (λk=>x.L.length-k) 0 ⟨Nat.zero_le _,by simp⟩ rfl ?_ ?_
 · exact(.get rfl (aa.refl _) (.refl _ _))
 rintro k ⟨hk,hall⟩;refine cC ?_;refine Cd (λc7=>?_) λc7=>?_
 ·
  obtain⟨n,hn⟩:=ah (xs:=x.L) (k:=k) (by omega);have hnm:=List.mem_of_getElem? hn;have hn0:=ak.ins.L0 n hnm;have BW:=TE n hnm;obtain⟨w2,hw3,hw4⟩:=xD (L:=labs) hn0 (by omega);refine eB ?_;refine .p (cI k (h:=hn)) rfl ?_;refine Z3 ?_;refine .p (cI (labs.length-1-n.toNat) (h:=hw4)) rfl ?_;refine Z2 ?_;refine .p (cA (h:=L8)) rfl ?_;refine Z3 ?_;refine Cd (λc8=>?_) λc8=>?_
  ·
   refine oA ?_;refine Post.bh rfl rfl ((s,5)) (by exact fE (by decide) (by rw[nA aR,hw,Option.bind_some];exact if_neg (λh=>c8 (by have h9:=h n hnm;rw[hw3] at h9;exact Option.some.inj h9))) (by omega)) (aF.cZ [] [0,1] rfl rfl) rfl (.cons (.ra (i:=0) FA.out FC.out rfl rfl rfl rfl) ?_ (.cons (.rt rfl) ?_ .nil))
   · exact aa.refl _
   exact aa.refl _
  refine Z8 ?_;refine .round (k+1) ⟨by omega,λy hy=>by(rw[<-bE hn] at hy;rcases List.mem_append.1 hy with hy|hy;exact hall y hy;(simp only[List.mem_singleton] at hy;subst hy;exact hw3.trans (by rw[Classical.not_not.1 c8])))⟩ (by omega) rfl ?_;exact(.get rfl (aa.int (by omega)) ((.keep 24 rfl rfl)))
 have so:∀n∈x.L,iG labs n=some w:=λn hn=>hall n (by rw[List.take_of_length_le (by omega)];exact hn);refine Z6 ?_;refine .Eh (FR:=[az b6 (bq s base)]) [(0,1),(2,0),(4,0),(5,0),(1,4),(3,4),(6,4),(7,4),(8,0),(9,0),(10,0),(11,3)] 12 1 FM.out (by kernel_rfl) ?_;refine .o rfl (mP (i:=0) FA.out FC.out rfl (.t rfl) rfl rfl) (aF.cZ [1] [0] rfl rfl) ?_;refine Z2 ?_;refine .p rfl (λ_=>bC (enc:=an) [127] FU.out FC.out rfl FZ.out rfl (.cons (.t rfl) .nil) rfl rfl rfl rfl rfl) ?_;refine .a rfl (dM an ([]:List UInt8) FU.out FC.out rfl FZ.out rfl .nil rfl rfl rfl rfl rfl) (λ_ _=>(aF.cZ [2] [0,1] rfl rfl)) λaN5 _=>?_;refine .a rfl (aK (i:=0) FU.out FU.out FC.out rfl FZ.out rfl FY.out (.t rfl) (.t rfl) rfl (by simp<;>omega) (by simp<;>omega)) (λ_ _=>(aF.cZ [2] [0,1] rfl rfl)) λce6 _=>?_;refine .a rfl (gW.eC (G:=λg=>g) (l6:=λ_=>_) (xs:=λ_=>_) (aK (i:=0) FU.out FU.out FC.out rfl FZ.out rfl FY.out (.t rfl) (.t rfl) rfl (by simp<;>omega) (by simp<;>omega))) (λ_ _=>(aF.cZ [1] [0] rfl rfl)) λ_ _=>?_;refine .a rfl (cE (h:=cJ (s:=s) (l:=([]++w)++[127]) (by omega))) (λ_ _=>(aF.cZ [1] [0] rfl rfl)) λZm Zn=>?_;refine Z3 ?_;refine .s rfl (dQ (i:=1) FC.out rfl (.t rfl) (.t rfl) rfl rfl rfl) ?_;refine .fin ?_;refine cC ?_;refine Cd (λc9=>?_) λc9=>?_
 ·
  refine eB ?_;refine Post.bh rfl rfl (Zm) (by exact fE c9 (by rw[nA aR,hw,Option.bind_some];exact(if_pos so).trans (by rw[show dD s (w++[127])=none from Zn.no c9];rfl)) (by have:=Zn.2;omega)) (aF.cZ [] [0,1] rfl rfl) rfl (.cons (.ra (i:=0) FA.out FC.out rfl rfl rfl rfl) ?_ (.cons (.rt rfl) ?_ .nil))
  · exact aa.refl _
  exact aa.refl _
 refine Z5 ?_;refine .n (cE (h:=rV (s:=Zm.1))) rfl λce7 ce8=>?_;refine Z7 ?_;refine Post.bh rfl rfl ((fT,0)) (by exact vU (by rw[nA aR,hw,Option.bind_some];exact(if_pos so).trans (by rw[show dD s (w++[127])=some Zm.1 from Zn.ok (Classical.not_not.1 c9)];rfl)) (by simp[fT])) (aF.cZ [] [0,1] rfl rfl) rfl (.cons (.ra (i:=0) FA.out FC.out rfl rfl rfl rfl) ?_ (.cons (.rt rfl) ?_ .nil))
 · exact aa.refl _
 exact aa.refl _
theorem Qj(ak:qh v x s labs)(aR:x.Code=17):bu Wo 123 [aC (fJ v),aC (aB x),aC (bq s base),ai 1 eI labs] [] (γ:=ee×Int) (zw s (fZ v x s labs)) (λ_=>[]) (λg=>aZ [aC (bq g.1 base),af .i64 g.2]):=by
 refine In 517 Tryz.func123 λ_ _ _=>?_;have FH:=ak.stk;have og:=ak.ins.A0;have BR:=ak.ins.wY;have pX:=ak.D5;have hE:=ak.env;have yl:=hE.F;have yZ:=hE.S;have BA:=hE.L;have FI:=hE.G;have FJ:=hE.W;refine Z4 ?_;refine .n (cc (.t rfl)) rfl λb6 _=>?_;refine .n (au FZ.out) rfl λb8 _=>?_;refine Di ?_;refine CT λc0=>?_;refine Z7 ?_;refine CT λc1=>?_;refine Z5 ?_;refine CT λc2=>?_;refine Z6 ?_;refine CT λc3=>?_;refine Z6 ?_;refine CT λc4=>?_;refine Z6 ?_;refine CT λc5=>?_;refine Z6 ?_;refine CF λc6=>?_;refine Z22 ?_;refine Cd (λc7=>?_) λc7=>?_
 ·
  refine dh ?_;refine Post.bh rfl rfl ((s,2)) (by exact fE (by decide) (by(rw[x9 aR];rcases c7 with(h|h)|h;(rw[j5 h];rfl);(cases eG v.bQ x.A with|none=>rfl|some g=>exact if_neg (λh2=>h h2.1));(cases eG v.bQ x.A with|none=>rfl|some g=>exact if_neg (λh2=>h h2.2)))) (by omega)) (aF.cZ [] [0,1] rfl rfl) rfl (.cons (.ra (i:=0) FA.out FC.out rfl rfl rfl rfl) ?_ (.cons (.rt rfl) ?_ .nil))
  · exact aa.refl _
  exact aa.refl _
 obtain⟨sg,hw,qP⟩:=jB (L:=v.bQ) og (λh=>c7 (.inl (.inl h)));have hxB:x.B=0:=Classical.byContradiction λh=>c7 (.inl (.inr h));have hvT:v.Table:=Classical.byContradiction λh=>c7 (.inr h);have QE:=hE.ss sg (List.mem_of_getElem? qP);refine Z3 ?_;refine .Eh (FR:=[az b6 (bq s base)]) [(0,1),(2,0),(3,0),(4,0),(5,0),(6,0),(7,0),(8,0),(10,0),(11,0),(1,4),(9,4),(12,4),(13,4),(14,0),(15,0),(16,0),(17,3)] 18 1 FM.out (by kernel_rfl) ?_;refine .o rfl (mP (i:=0) FA.out FC.out rfl (.t rfl) rfl rfl) (aF.cZ [1] [0] rfl rfl) ?_;refine Z4 ?_;refine .p rfl (λ_=>aW (j:=x.A.toNat) FU.out FC.out rfl (.t rfl) (.t rfl) (by omega) qP) ?_;refine Z3 ?_;refine .p rfl (λ_=>bC (enc:=an) [127] FU.out FC.out rfl FZ.out rfl (.cons (.t rfl) .nil) rfl rfl rfl rfl rfl) ?_;refine .a rfl (dM an ([]:List UInt8) FU.out FC.out rfl FZ.out rfl .nil rfl rfl rfl rfl rfl) (λ_ _=>(aF.cZ [2] [0,1] rfl rfl)) λce9 _=>?_;refine .a rfl (aK (i:=0) FU.out FU.out FC.out rfl FZ.out rfl FY.out (.t rfl) (.t rfl) rfl (by simp<;>omega) (by simp<;>omega)) (λ_ _=>(aF.cZ [2] [0,1] rfl rfl)) λcf0 _=>?_;refine .a rfl (gW.eC (G:=λg=>g) (l6:=λ_=>_) (xs:=λ_=>_) (aK (i:=0) FU.out FU.out FC.out rfl FZ.out rfl FY.out (.t rfl) (.t rfl) rfl (by simp<;>omega) (by simp<;>omega))) (λ_ _=>(aF.cZ [1] [0] rfl rfl)) λ_ _=>?_;refine .a rfl (cE (h:=cJ (s:=s) (l:=([]++sg.P)++[127]) (by omega))) (λ_ _=>(aF.cZ [1] [0] rfl rfl)) λZo ak2=>?_;refine Z3 ?_;refine .s rfl (dQ (i:=1) FC.out rfl (.t rfl) (.t rfl) rfl rfl rfl) ?_;refine .fin ?_;refine Z4 ?_;refine .bt [(0,1),(1,0),(2,0),(3,0),(4,0),(5,0),(6,0),(7,0),(9,0),(8,2),(10,3)] 11 1 FM.out (by kernel_rfl) (k:= ?_);refine Z5 ?_;refine .p rfl (λ_=>aW (j:=x.A.toNat) FU.out FC.out rfl (.t rfl) (.t rfl) (by omega) qP) ?_;refine Z3 ?_;refine .e rfl (cE (h:=eK (s:=Zo.1) (l:=sg.R) (by have:=ak2.2;omega) (by omega))) λcf1 cf2=>?_;refine .s rfl (dQ (i:=0) FC.out rfl (.t rfl) (.t rfl) rfl rfl rfl) ?_;refine .fin ?_;refine Z6 ?_;refine Post.bh rfl rfl ((bG Zo.1 sg.R,Zo.2)) (by exact rT (i:=sg.P++[127]) (by rw[x9 aR,hw,Option.bind_some];exact if_pos ⟨hxB,hvT⟩) ak2 QE.2) (aF.cZ [] [0,1] rfl rfl) rfl (.cons (.ra (i:=0) FA.out FC.out rfl rfl rfl rfl) ?_ (.cons (.rt rfl) ?_ .nil))
 · exact aa.refl _
 exact aa.refl _
theorem Qk(ak:qh v x s labs)(aR:x.Code=32):bu Wo 123 [aC (fJ v),aC (aB x),aC (bq s base),ai 1 eI labs] [] (γ:=ee×Int) (zw s (fZ v x s labs)) (λ_=>[]) (λg=>aZ [aC (bq g.1 base),af .i64 g.2]):=by
 refine In 517 Tryz.func123 λ_ _ _=>?_;have FH:=ak.stk;have og:=ak.ins.A0;have BR:=ak.ins.wY;have pX:=ak.D5;have hE:=ak.env;have yl:=hE.F;have yZ:=hE.S;have BA:=hE.L;have FI:=hE.G;have FJ:=hE.W;refine Z4 ?_;refine .n (cc (.t rfl)) rfl λb6 _=>?_;refine .n (au FZ.out) rfl λb8 _=>?_;refine Di ?_;refine CT λc0=>?_;refine Z7 ?_;refine CT λc1=>?_;refine Z5 ?_;refine CT λc2=>?_;refine Z6 ?_;refine CT λc3=>?_;refine Z6 ?_;refine CT λc4=>?_;refine Z6 ?_;refine CT λc5=>?_;refine Z6 ?_;refine CT λc6=>?_;refine Z6 ?_;refine CT λc7=>?_;refine Z6 ?_;refine CT λc8=>?_;refine Z7 ?_;refine CF λc9=>?_;refine Z2 ?_;refine CF λlZ=>?_;refine eB ?_;refine Cd (λn8=>?_) λn8=>?_
 ·
  have hno:=j5 (L:=v.aV) n8;refine dh ?_;refine Post.bh rfl rfl ((s,2)) (by exact fE (by decide) (by rw[EA aR,hno];rfl) (by omega)) (aF.cZ [] [0,1] rfl rfl) rfl (.cons (.ra (i:=0) FA.out FC.out rfl rfl rfl rfl) ?_ (.cons (.rt rfl) ?_ .nil))
  · exact aa.refl _
  exact aa.refl _
 obtain⟨t,hw,qP⟩:=jB (L:=v.aV) og n8;refine Z8 ?_;refine .p (cI x.A.toNat (h:=qP)) rfl ?_;refine Z1 ?_;refine .p (cB an [t]) rfl ?_;refine dh ?_;refine CT λqB=>?_;refine cC ?_;refine CF λv8=>?_;refine Z3 ?_;refine .n (cE (h:=eK (s:=s) (l:=[t]) (by omega) (by simp))) rfl λaN6 aN7=>?_;refine ij ?_;refine Post.bh rfl rfl ((bG s [t],0)) (by exact vU (by rw[EA aR,hw];rfl) (by simp only[bG,List.length_append,List.length_cons,List.length_nil];omega)) (aF.cZ [] [0,1] rfl rfl) rfl (.cons (.ra (i:=0) FA.out FC.out rfl rfl rfl rfl) ?_ (.cons (.rt rfl) ?_ .nil))
 · exact aa.refl _
 exact aa.refl _
theorem Ql(ak:qh v x s labs)(aR:x.Code=33):bu Wo 123 [aC (fJ v),aC (aB x),aC (bq s base),ai 1 eI labs] [] (γ:=ee×Int) (zw s (fZ v x s labs)) (λ_=>[]) (λg=>aZ [aC (bq g.1 base),af .i64 g.2]):=by
 refine In 517 Tryz.func123 λ_ _ _=>?_;have FH:=ak.stk;have og:=ak.ins.A0;have BR:=ak.ins.wY;have pX:=ak.D5;have hE:=ak.env;have yl:=hE.F;have yZ:=hE.S;have BA:=hE.L;have FI:=hE.G;have FJ:=hE.W;refine Z4 ?_;refine .n (cc (.t rfl)) rfl λb6 _=>?_;refine .n (au FZ.out) rfl λb8 _=>?_;refine Di ?_;refine CT λc0=>?_;refine Z7 ?_;refine CT λc1=>?_;refine Z5 ?_;refine CT λc2=>?_;refine Z6 ?_;refine CT λc3=>?_;refine Z6 ?_;refine CT λc4=>?_;refine Z6 ?_;refine CT λc5=>?_;refine Z6 ?_;refine CT λc6=>?_;refine Z6 ?_;refine CT λc7=>?_;refine Z6 ?_;refine CT λc8=>?_;refine Z7 ?_;refine CT λc9=>?_;refine Z6 ?_;refine CF λlZ=>?_;refine Z2 ?_;refine CF λn8=>?_;refine eB ?_;refine Cd (λqB=>?_) λqB=>?_
 ·
  have hno:=j5 (L:=v.aV) qB;refine dh ?_;refine Post.bh rfl rfl ((s,2)) (by exact fE (by decide) (by rw[AU aR,hno];rfl) (by omega)) (aF.cZ [] [0,1] rfl rfl) rfl (.cons (.ra (i:=0) FA.out FC.out rfl rfl rfl rfl) ?_ (.cons (.rt rfl) ?_ .nil))
  · exact aa.refl _
  exact aa.refl _
 obtain⟨t,hw,qP⟩:=jB (L:=v.aV) og qB;refine Z8 ?_;refine .p (cI x.A.toNat (h:=qP)) rfl ?_;refine Z1 ?_;refine .p (cB an [t]) rfl ?_;refine dh ?_;refine CF λv8=>?_;refine Z3 ?_;refine .n (cE (h:=cJ (s:=s) (l:=[t]) (by omega))) rfl λTF Wi=>?_;refine oA ?_;refine CT λs7=>?_;refine kL ?_;refine Post.bh rfl rfl (TF) (by exact TC (by rw[AU aR,hw];rfl) Wi) (aF.cZ [] [0,1] rfl rfl) rfl (.cons (.ra (i:=0) FA.out FC.out rfl rfl rfl rfl) ?_ (.cons (.rt rfl) ?_ .nil))
 · exact aa.refl _
 exact aa.refl _
theorem Qm(ak:qh v x s labs)(aR:x.Code=34):bu Wo 123 [aC (fJ v),aC (aB x),aC (bq s base),ai 1 eI labs] [] (γ:=ee×Int) (zw s (fZ v x s labs)) (λ_=>[]) (λg=>aZ [aC (bq g.1 base),af .i64 g.2]):=by
 refine In 517 Tryz.func123 λ_ _ _=>?_;have FH:=ak.stk;have og:=ak.ins.A0;have BR:=ak.ins.wY;have pX:=ak.D5;have hE:=ak.env;have yl:=hE.F;have yZ:=hE.S;have BA:=hE.L;have FI:=hE.G;have FJ:=hE.W;refine Z4 ?_;refine .n (cc (.t rfl)) rfl λb6 _=>?_;refine .n (au FZ.out) rfl λb8 _=>?_;refine Di ?_;refine CT λc0=>?_;refine Z7 ?_;refine CT λc1=>?_;refine Z5 ?_;refine CT λc2=>?_;refine Z6 ?_;refine CT λc3=>?_;refine Z6 ?_;refine CT λc4=>?_;refine Z6 ?_;refine CT λc5=>?_;refine Z6 ?_;refine CT λc6=>?_;refine Z6 ?_;refine CT λc7=>?_;refine Z6 ?_;refine CT λc8=>?_;refine Z7 ?_;refine CT λc9=>?_;refine Z6 ?_;refine CT λlZ=>?_;refine Z5 ?_;refine CF λn8=>?_;refine eB ?_;refine Cd (λqB=>?_) λqB=>?_
 ·
  have hno:=j5 (L:=v.aV) qB;refine dh ?_;refine Post.bh rfl rfl ((s,2)) (by exact fE (by decide) (by rw[AV aR,hno];rfl) (by omega)) (aF.cZ [] [0,1] rfl rfl) rfl (.cons (.ra (i:=0) FA.out FC.out rfl rfl rfl rfl) ?_ (.cons (.rt rfl) ?_ .nil))
  · exact aa.refl _
  exact aa.refl _
 obtain⟨t,hw,qP⟩:=jB (L:=v.aV) og qB;refine Z8 ?_;refine .p (cI x.A.toNat (h:=qP)) rfl ?_;refine Z1 ?_;refine .p (cB an [t]) rfl ?_;refine dh ?_;refine CF λv8=>?_;refine Z3 ?_;refine .n (cE (h:=cJ (s:=s) (l:=[t]) (by omega))) rfl λTF Wi=>?_;refine oA ?_;refine CF λs7=>?_;refine Z3 ?_;refine .n (cE (h:=eK (s:=TF.1) (l:=[t]) (by have:=Wi.2;omega) (by simp))) rfl λaN6 aN7=>?_;refine ij ?_;refine Post.bh rfl rfl ((bG TF.1 [t],TF.2)) (by exact rT (by rw[AV aR,hw];rfl) Wi (by simp)) (aF.cZ [] [0,1] rfl rfl) rfl (.cons (.ra (i:=0) FA.out FC.out rfl rfl rfl rfl) ?_ (.cons (.rt rfl) ?_ .nil))
 · exact aa.refl _
 exact aa.refl _
theorem Qn(ak:qh v x s labs)(aR:x.Code=35):bu Wo 123 [aC (fJ v),aC (aB x),aC (bq s base),ai 1 eI labs] [] (γ:=ee×Int) (zw s (fZ v x s labs)) (λ_=>[]) (λg=>aZ [aC (bq g.1 base),af .i64 g.2]):=by
 refine In 517 Tryz.func123 λ_ _ _=>?_;have FH:=ak.stk;have og:=ak.ins.A0;have BR:=ak.ins.wY;have pX:=ak.D5;have hE:=ak.env;have yl:=hE.F;have yZ:=hE.S;have BA:=hE.L;have FI:=hE.G;have FJ:=hE.W;refine Z4 ?_;refine .n (cc (.t rfl)) rfl λb6 _=>?_;refine .n (au FZ.out) rfl λb8 _=>?_;refine Di ?_;refine CT λc0=>?_;refine Z7 ?_;refine CT λc1=>?_;refine Z5 ?_;refine CT λc2=>?_;refine Z6 ?_;refine CT λc3=>?_;refine Z6 ?_;refine CT λc4=>?_;refine Z6 ?_;refine CT λc5=>?_;refine Z6 ?_;refine CT λc6=>?_;refine Z6 ?_;refine CT λc7=>?_;refine Z6 ?_;refine CT λc8=>?_;refine Z7 ?_;refine CT λc9=>?_;refine Z6 ?_;refine CT λlZ=>?_;refine Z5 ?_;refine CT λn8=>?_;refine Z7 ?_;refine CF λqB=>?_;refine Z2 ?_;refine CF λv8=>?_;refine eB ?_;refine Cd (λs7=>?_) λs7=>?_
 ·
  have hno:=j5 (L:=v.aA) s7;refine dh ?_;refine Post.bh rfl rfl ((s,2)) (by exact fE (by decide) (by rw[EB aR,hno];rfl) (by omega)) (aF.cZ [] [0,1] rfl rfl) rfl (.cons (.ra (i:=0) FA.out FC.out rfl rfl rfl rfl) ?_ (.cons (.rt rfl) ?_ .nil))
  · exact aa.refl _
  exact aa.refl _
 obtain⟨t,hw,qP⟩:=jB (L:=v.aA) og s7;refine Z8 ?_;refine .p (cI x.A.toNat (h:=qP)) rfl ?_;refine Z1 ?_;refine .p (cB an [t]) rfl ?_;refine dh ?_;refine CF λwg=>?_;refine Z4 ?_;refine .n (cE (h:=eK (s:=s) (l:=[t]) (by omega) (by simp))) rfl λcf3 cf4=>?_;refine Z8 ?_;refine Post.bh rfl rfl ((bG s [t],0)) (by exact vU (by rw[EB aR,hw];rfl) (by simp only[bG,List.length_append,List.length_cons,List.length_nil];omega)) (aF.cZ [] [0,1] rfl rfl) rfl (.cons (.ra (i:=0) FA.out FC.out rfl rfl rfl rfl) ?_ (.cons (.rt rfl) ?_ .nil))
 · exact aa.refl _
 exact aa.refl _
theorem Qo(ak:qh v x s labs)(aR:x.Code=36):bu Wo 123 [aC (fJ v),aC (aB x),aC (bq s base),ai 1 eI labs] [] (γ:=ee×Int) (zw s (fZ v x s labs)) (λ_=>[]) (λg=>aZ [aC (bq g.1 base),af .i64 g.2]):=by
 refine In 517 Tryz.func123 λ_ _ _=>?_;have FH:=ak.stk;have og:=ak.ins.A0;have BR:=ak.ins.wY;have pX:=ak.D5;have hE:=ak.env;have yl:=hE.F;have yZ:=hE.S;have BA:=hE.L;have FI:=hE.G;have FJ:=hE.W;refine Z4 ?_;refine .n (cc (.t rfl)) rfl λb6 _=>?_;refine .n (au FZ.out) rfl λb8 _=>?_;refine Di ?_;refine CT λc0=>?_;refine Z7 ?_;refine CT λc1=>?_;refine Z5 ?_;refine CT λc2=>?_;refine Z6 ?_;refine CT λc3=>?_;refine Z6 ?_;refine CT λc4=>?_;refine Z6 ?_;refine CT λc5=>?_;refine Z6 ?_;refine CT λc6=>?_;refine Z6 ?_;refine CT λc7=>?_;refine Z6 ?_;refine CT λc8=>?_;refine Z7 ?_;refine CT λc9=>?_;refine Z6 ?_;refine CT λlZ=>?_;refine Z5 ?_;refine CT λn8=>?_;refine Z7 ?_;refine CT λqB=>?_;refine Z5 ?_;refine CF λv8=>?_;refine eB ?_;refine Cd (λs7=>?_) λs7=>?_
 ·
  have hno:=j5 (L:=v.aA) s7;refine dh ?_;refine Post.bh rfl rfl ((s,2)) (by exact fE (by decide) (by rw[vt aR,hno];rfl) (by omega)) (aF.cZ [] [0,1] rfl rfl) rfl (.cons (.ra (i:=0) FA.out FC.out rfl rfl rfl rfl) ?_ (.cons (.rt rfl) ?_ .nil))
  · exact aa.refl _
  exact aa.refl _
 obtain⟨t,hw,qP⟩:=jB (L:=v.aA) og s7;refine Z8 ?_;refine .p (cI x.A.toNat (h:=qP)) rfl ?_;refine Z1 ?_;refine .p (cB an [t]) rfl ?_;refine dh ?_;refine CT λwg=>?_;obtain⟨mu,hm,hm2⟩:=jB (L:=v.eu) og (by rw[hE.mu];exact s7);refine Z9 ?_;refine .p (cI x.A.toNat (h:=hm2)) rfl ?_;refine Z4 ?_;refine Cd (λvQ=>?_) λvQ=>?_
 ·
  refine dh ?_;refine Post.bh rfl rfl ((s,5)) (by exact fE (by decide) (by rw[vt aR,hw,Option.bind_some,hm,Option.bind_some];exact if_neg vQ) (by omega)) (aF.cZ [] [0,1] rfl rfl) rfl (.cons (.ra (i:=0) FA.out FC.out rfl rfl rfl rfl) ?_ (.cons (.rt rfl) ?_ .nil))
  · exact aa.refl _
  exact aa.refl _
 refine Z6 ?_;refine .n (cE (h:=cJ (s:=s) (l:=[t]) (by omega))) rfl λaN8 aN9=>?_;refine Z9 ?_;refine Post.bh rfl rfl (aN8) (by exact TC (by rw[vt aR,hw,Option.bind_some,hm,Option.bind_some];exact if_pos (Classical.not_not.1 vQ)) aN9) (aF.cZ [] [0,1] rfl rfl) rfl (.cons (.ra (i:=0) FA.out FC.out rfl rfl rfl rfl) ?_ (.cons (.rt rfl) ?_ .nil))
 · exact aa.refl _
 exact aa.refl _
theorem Ji(ak:qh v x s labs)(aR:¬gK x.Code)(bO:¬fA x.Code)(dO:¬di x.Code)(jE:aP x.Code<8\/10<aP x.Code):bu Wo 123 [aC (fJ v),aC (aB x),aC (bq s base),ai 1 eI labs] [] (γ:=ee×Int) (zw s (fZ v x s labs)) (λ_=>[]) (λg=>aZ [aC (bq g.1 base),af .i64 g.2]):=by
 refine In 517 Tryz.func123 λ_ _ _=>?_;have FH:=ak.stk;have og:=ak.ins.A0;have BR:=ak.ins.wY;have pX:=ak.D5;have hE:=ak.env;have yl:=hE.F;have yZ:=hE.S;have BA:=hE.L;have FI:=hE.G;have FJ:=hE.W;have hp1b:=aR;have hp2b:=bO;have hp3b:=dO;unfold gK at hp1b;unfold fA at hp2b;unfold di at hp3b;have htl:=jZ x.Code;refine Z4 ?_;refine .n (cc (.t rfl)) rfl λb6 _=>?_;refine .n (au FZ.out) rfl λb8 _=>?_;refine Di ?_;refine CT λc0=>?_;refine Z7 ?_;refine CT λc1=>?_;refine Z5 ?_;refine CT λc2=>?_;refine Z6 ?_;refine CT λc3=>?_;refine Z6 ?_;refine CT λc4=>?_;refine Z6 ?_;refine CT λc5=>?_;refine Z6 ?_;refine CT λc6=>?_;refine Z6 ?_;refine CT λc7=>?_;refine Z6 ?_;refine CT λc8=>?_;refine Z7 ?_;refine CT λc9=>?_;refine Z6 ?_;refine CT λlZ=>?_;refine Z5 ?_;refine CT λn8=>?_;refine Z7 ?_;refine CT λqB=>?_;refine Z5 ?_;refine CT λv8=>?_;refine Z7 ?_;refine .p (cA (h:=jU)) rfl ?_;refine Z7 ?_;refine .p (cA (h:=lB)) rfl ?_;refine zE ?_;refine Cd (λs7=>?_) λs7=>?_
 ·
  refine Z4 ?_;refine .n (cE (h:=cJ (s:=s) (l:=(aQ x.Code).1) (by omega))) rfl λZp ak3=>?_;refine dh ?_;refine .n (cE (h:=eK (s:=Zp.1) (l:=(aQ x.Code).2) (by have:=ak3.2;omega) (by omega))) rfl λcf5 cf6=>?_;refine Z7 ?_;refine Post.bh rfl rfl ((bG Zp.1 (aQ x.Code).2,Zp.2)) (by exact rT (AW aR bO dO jE) ak3 (by omega)) (aF.cZ [] [0,1] rfl rfl) rfl (.cons (.ra (i:=0) FA.out FC.out rfl rfl rfl rfl) ?_ (.cons (.rt rfl) ?_ .nil))
  · exact aa.refl _
  exact aa.refl _
 exact absurd jE s7
theorem TG(ak:qh v x s labs)(aR:¬gK x.Code)(bO:¬fA x.Code)(dO:¬di x.Code)(jE:aP x.Code=8):bu Wo 123 [aC (fJ v),aC (aB x),aC (bq s base),ai 1 eI labs] [] (γ:=ee×Int) (zw s (fZ v x s labs)) (λ_=>[]) (λg=>aZ [aC (bq g.1 base),af .i64 g.2]):=by
 refine In 517 Tryz.func123 λ_ _ _=>?_;have FH:=ak.stk;have og:=ak.ins.A0;have BR:=ak.ins.wY;have pX:=ak.D5;have hE:=ak.env;have yl:=hE.F;have yZ:=hE.S;have BA:=hE.L;have FI:=hE.G;have FJ:=hE.W;have hp1b:=aR;have hp2b:=bO;have hp3b:=dO;unfold gK at hp1b;unfold fA at hp2b;unfold di at hp3b;have htl:=jZ x.Code;obtain⟨t0,tl,PE⟩:=MW jE;have cf7:1<=(aQ x.Code).1.length:=by rw[PE];simp
 have ha0:=ak.ins.a0;have ha1:=ak.ins.Yg;refine Z4 ?_;refine .n (cc (.t rfl)) rfl λb6 _=>?_;refine .n (au FZ.out) rfl λb8 _=>?_;refine Di ?_;refine CT λc0=>?_;refine Z7 ?_;refine CT λc1=>?_;refine Z5 ?_;refine CT λc2=>?_;refine Z6 ?_;refine CT λc3=>?_;refine Z6 ?_;refine CT λc4=>?_;refine Z6 ?_;refine CT λc5=>?_;refine Z6 ?_;refine CT λc6=>?_;refine Z6 ?_;refine CT λc7=>?_;refine Z6 ?_;refine CT λc8=>?_;refine Z7 ?_;refine CT λc9=>?_;refine Z6 ?_;refine CT λlZ=>?_;refine Z5 ?_;refine CT λn8=>?_;refine Z7 ?_;refine CT λqB=>?_;refine Z5 ?_;refine CT λv8=>?_;refine Z7 ?_;refine .p (cA (h:=jU)) rfl ?_;refine Z7 ?_;refine .p (cA (h:=lB)) rfl ?_;refine zE ?_;refine CT λs7=>?_;refine Z27 ?_;refine Cd (λwg=>?_) λwg=>?_
 ·
  refine Z9 ?_;refine Post.bh rfl rfl ((s,2)) (by exact fE (by decide) (by(rw[iu aR bO dO (by omega),rB jE];rcases wg with h|⟨h,h2⟩;(rw[j5 h];rfl);omega)) (by omega)) (aF.cZ [] [0,1] rfl rfl) rfl (.cons (.ra (i:=0) FA.out FC.out rfl rfl rfl rfl) ?_ (.cons (.rt rfl) ?_ .nil))
  · exact aa.refl _
  exact aa.refl _
 obtain⟨wa,hw,qP⟩:=jB (L:=v.cj) og (λh=>wg (.inl h));refine Z8 ?_;refine .cut (σ:=Unit) (λ_=>[az b8 (List.map ag [.slice none 0 0, .bool false, .int .i64 0]),az b6 (bq s base)]) (λ_=>[(25,af .u8 ((cz wa:UInt8).toNat:Int))]) (λ_=>True) ?_ ?_
 ·
  refine Z6 ?_;refine .p (cI x.A.toNat (h:=qP)) rfl ?_;refine Z3 ?_;refine Cd (λvQ=>?_) λvQ=>?_
  ·
   refine Z4 ?_;refine .meet () trivial rfl (.get rfl (aa.of_eq (by rw[show cz wa=126 from vV vQ];rfl)) (.keep 8 rfl rfl))
  refine Z1 ?_;refine .meet () trivial rfl (.get rfl (aa.of_eq (by rw[show cz wa=127 from vW vQ];rfl)) (.keep 6 rfl rfl))
 intro _ _;refine Z9 ?_;refine CF λQH=>?_;refine Z7 ?_;refine .p (cI x.A.toNat (h:=qP)) rfl ?_;refine Z9 ?_;refine Cd (λLh=>?_) λLh=>?_
 ·
  refine dh ?_;refine Post.bh rfl rfl ((s,2)) (by exact fE (by decide) (by rw[iu aR bO dO (by omega),rB jE,hw,Option.bind_some];exact if_pos (.inl Lh)) (by omega)) (aF.cZ [] [0,1] rfl rfl) rfl (.cons (.ra (i:=0) FA.out FC.out rfl rfl rfl rfl) ?_ (.cons (.rt rfl) ?_ .nil))
  · exact aa.refl _
  exact aa.refl _
 refine ij ?_;refine .bk (σ:=Nat) (λ_=>[az b8 (List.map ag [.slice none 0 0, .bool false, .int .i64 0]),az b6 (bq s base)]) (λk=>[(26,af .i64 ((2:Int)^k)),(27,af .i64 (k:Int))]) (λk=>k<=x.ei.toNat) (λk=>x.ei.toNat-k) 0 (Nat.zero_le _) rfl ?_ ?_
 · exact(.get rfl (aa.int (by show(1:Int)=2^0;rfl)) (.get rfl (aa.refl _) (.refl _ _)))
 rintro k hk;refine Z9 ?_;refine Cd (λUf=>?_) λUf=>?_
 ·
  have hpk:=aN4 (k:=k) (by omega);refine Cm ?_;refine .round (k+1) (by omega) (by omega) rfl ?_;exact(.get rfl (aa.int (by show(_:Int)=2^(k+1);rw[Int.pow_succ];omega)) (.get rfl (aa.int (by omega)) ((.keep 12 rfl rfl))))
 have hkk:k=x.ei.toNat:=by omega
 subst hkk;refine dh ?_;refine .p (cA (h:=Jh)) rfl ?_;refine Z3 ?_;refine Cd (λPI=>?_) λPI=>?_
 ·
  refine dh ?_;refine Post.bh rfl rfl ((s,5)) (by exact fE (by decide) (by rw[iu aR bO dO (by omega),rB jE,hw,Option.bind_some];exact if_pos (.inr PI)) (by omega)) (aF.cZ [] [0,1] rfl rfl) rfl (.cons (.ra (i:=0) FA.out FC.out rfl rfl rfl rfl) ?_ (.cons (.rt rfl) ?_ .nil))
  · exact aa.refl _
  exact aa.refl _
 refine Z4 ?_;refine .n (dM an [cz wa] FU.out FC.out rfl FZ.out rfl (.cons (.t rfl) .nil) rfl rfl rfl rfl rfl) rfl λcf8 _=>?_;refine Z1 ?_;refine .p (NX FU.out FC.out rfl (.t rfl) (.c _) rfl (by omega)) rfl ?_;refine .n (gW.eC (G:=λg=>g) (l6:=λ_=>_) (xs:=λ_=>_) (aK (i:=0) FU.out FU.out FC.out rfl FZ.out rfl FY.out (.t rfl) (.t rfl) rfl (by rw[PE] at htl ⊢;simp at htl ⊢;omega) (by rw[PE] at htl ⊢;simp at htl ⊢;omega))) rfl λ_ _=>?_;refine Z8 ?_;refine .n (cE (h:=cJ (s:=s) (l:=[cz wa]++List.drop 1 (aQ x.Code).1) (by omega))) rfl λrW xF=>?_;refine dh ?_;refine .n (cE (h:=eK (s:=rW.1) (l:=(aQ x.Code).2) (by have:=xF.2;omega) (by omega))) rfl λWj Wk=>?_;refine Z6 ?_;refine Post.bh rfl rfl ((bG rW.1 (aQ x.Code).2,rW.2)) (by exact rT (by rw[iu aR bO dO (by omega),rB jE,hw,Option.bind_some,<-List.drop_one];exact if_neg (by rintro(h|h);exact Lh h;exact PI h)) xF (by omega)) (aF.cZ [] [0,1] rfl rfl) rfl (.cons (.ra (i:=0) FA.out FC.out rfl rfl rfl rfl) ?_ (.cons (.rt rfl) ?_ .nil))
 · exact aa.refl _
 exact aa.refl _
theorem Qp(ak:qh v x s labs)(aR:x.Code=63):bu Wo 123 [aC (fJ v),aC (aB x),aC (bq s base),ai 1 eI labs] [] (γ:=ee×Int) (zw s (fZ v x s labs)) (λ_=>[]) (λg=>aZ [aC (bq g.1 base),af .i64 g.2]):=by
 refine In 517 Tryz.func123 λ_ _ _=>?_;have FH:=ak.stk;have og:=ak.ins.A0;have BR:=ak.ins.wY;have pX:=ak.D5;have hE:=ak.env;have yl:=hE.F;have yZ:=hE.S;have BA:=hE.L;have FI:=hE.G;have FJ:=hE.W;have hf:aP x.Code=9:=by rw[aR];decide
 have htl:=jZ x.Code;refine Z4 ?_;refine .n (cc (.t rfl)) rfl λb6 _=>?_;refine .n (au FZ.out) rfl λb8 _=>?_;refine Di ?_;refine CT λc0=>?_;refine Z7 ?_;refine CT λc1=>?_;refine Z5 ?_;refine CT λc2=>?_;refine Z6 ?_;refine CT λc3=>?_;refine Z6 ?_;refine CT λc4=>?_;refine Z6 ?_;refine CT λc5=>?_;refine Z6 ?_;refine CT λc6=>?_;refine Z6 ?_;refine CT λc7=>?_;refine Z6 ?_;refine CT λc8=>?_;refine Z7 ?_;refine CT λc9=>?_;refine Z6 ?_;refine CT λlZ=>?_;refine Z5 ?_;refine CT λn8=>?_;refine Z7 ?_;refine CT λqB=>?_;refine Z5 ?_;refine CT λv8=>?_;refine Z7 ?_;refine .p (cA (h:=jU)) rfl ?_;refine Z7 ?_;refine .p (cA (h:=lB)) rfl ?_;refine zE ?_;refine CT λs7=>?_;refine Z27 ?_;refine Cd (λwg=>?_) λwg=>?_
 ·
  refine Z9 ?_;refine Post.bh rfl rfl ((s,2)) (by exact fE (by decide) (by(rw[iu (by unfold gK;omega) (by unfold fA;omega) (by unfold di;omega) (by omega),zN aR];rcases wg with h|⟨h,h2⟩;(rw[j5 h];rfl);omega)) (by omega)) (aF.cZ [] [0,1] rfl rfl) rfl (.cons (.ra (i:=0) FA.out FC.out rfl rfl rfl rfl) ?_ (.cons (.rt rfl) ?_ .nil))
  · exact aa.refl _
  exact aa.refl _
 obtain⟨wa,hw,qP⟩:=jB (L:=v.cj) og (λh=>wg (.inl h));refine Z8 ?_;refine .cut (σ:=Unit) (λ_=>[az b8 (List.map ag [.slice none 0 0, .bool false, .int .i64 0]),az b6 (bq s base)]) (λ_=>[(25,af .u8 ((cz wa:UInt8).toNat:Int))]) (λ_=>True) ?_ ?_
 ·
  refine Z6 ?_;refine .p (cI x.A.toNat (h:=qP)) rfl ?_;refine Z3 ?_;refine Cd (λvQ=>?_) λvQ=>?_
  ·
   refine Z4 ?_;refine .meet () trivial rfl (.get rfl (aa.of_eq (by rw[show cz wa=126 from vV vQ];rfl)) (.keep 8 rfl rfl))
  refine Z1 ?_;refine .meet () trivial rfl (.get rfl (aa.of_eq (by rw[show cz wa=127 from vW vQ];rfl)) (.keep 6 rfl rfl))
 intro _ _;refine Z9 ?_;refine CT λQH=>?_;refine Z8 ?_;refine CF λLh=>?_;refine Z2 ?_;refine .p (cB an [cz wa]) rfl ?_;refine Z8 ?_;refine .n (cE (h:=cJ (s:=s) (l:=(aQ x.Code).1) (by omega))) rfl λrW xF=>?_;refine dh ?_;refine .n (cE (h:=eK (s:=rW.1) (l:=[cz wa]) (by have:=xF.2;omega) (by simp))) rfl λWj Wk=>?_;refine Z6 ?_;refine Post.bh rfl rfl ((bG rW.1 [cz wa],rW.2)) (by exact rT (by rw[iu (by unfold gK;omega) (by unfold fA;omega) (by unfold di;omega) (by omega),zN aR,hw,Option.bind_some,show(aQ x.Code).1=[] by rw[aR];rfl];rfl) xF (by simp)) (aF.cZ [] [0,1] rfl rfl) rfl (.cons (.ra (i:=0) FA.out FC.out rfl rfl rfl rfl) ?_ (.cons (.rt rfl) ?_ .nil))
 · exact aa.refl _
 exact aa.refl _
theorem Qq(ak:qh v x s labs)(aR:x.Code=64):bu Wo 123 [aC (fJ v),aC (aB x),aC (bq s base),ai 1 eI labs] [] (γ:=ee×Int) (zw s (fZ v x s labs)) (λ_=>[]) (λg=>aZ [aC (bq g.1 base),af .i64 g.2]):=by
 refine In 517 Tryz.func123 λ_ _ _=>?_;have FH:=ak.stk;have og:=ak.ins.A0;have BR:=ak.ins.wY;have pX:=ak.D5;have hE:=ak.env;have yl:=hE.F;have yZ:=hE.S;have BA:=hE.L;have FI:=hE.G;have FJ:=hE.W;have hf:aP x.Code=9:=by rw[aR];decide
 have htl:=jZ x.Code;refine Z4 ?_;refine .n (cc (.t rfl)) rfl λb6 _=>?_;refine .n (au FZ.out) rfl λb8 _=>?_;refine Di ?_;refine CT λc0=>?_;refine Z7 ?_;refine CT λc1=>?_;refine Z5 ?_;refine CT λc2=>?_;refine Z6 ?_;refine CT λc3=>?_;refine Z6 ?_;refine CT λc4=>?_;refine Z6 ?_;refine CT λc5=>?_;refine Z6 ?_;refine CT λc6=>?_;refine Z6 ?_;refine CT λc7=>?_;refine Z6 ?_;refine CT λc8=>?_;refine Z7 ?_;refine CT λc9=>?_;refine Z6 ?_;refine CT λlZ=>?_;refine Z5 ?_;refine CT λn8=>?_;refine Z7 ?_;refine CT λqB=>?_;refine Z5 ?_;refine CT λv8=>?_;refine Z7 ?_;refine .p (cA (h:=jU)) rfl ?_;refine Z7 ?_;refine .p (cA (h:=lB)) rfl ?_;refine zE ?_;refine CT λs7=>?_;refine Z27 ?_;refine Cd (λwg=>?_) λwg=>?_
 ·
  refine Z9 ?_;refine Post.bh rfl rfl ((s,2)) (by exact fE (by decide) (by(rw[iu (by unfold gK;omega) (by unfold fA;omega) (by unfold di;omega) (by omega),wZ aR];rcases wg with h|⟨h,h2⟩;(rw[j5 h];rfl);omega)) (by omega)) (aF.cZ [] [0,1] rfl rfl) rfl (.cons (.ra (i:=0) FA.out FC.out rfl rfl rfl rfl) ?_ (.cons (.rt rfl) ?_ .nil))
  · exact aa.refl _
  exact aa.refl _
 obtain⟨wa,hw,qP⟩:=jB (L:=v.cj) og (λh=>wg (.inl h));refine Z8 ?_;refine .cut (σ:=Unit) (λ_=>[az b8 (List.map ag [.slice none 0 0, .bool false, .int .i64 0]),az b6 (bq s base)]) (λ_=>[(25,af .u8 ((cz wa:UInt8).toNat:Int))]) (λ_=>True) ?_ ?_
 ·
  refine Z6 ?_;refine .p (cI x.A.toNat (h:=qP)) rfl ?_;refine Z3 ?_;refine Cd (λvQ=>?_) λvQ=>?_
  ·
   refine Z4 ?_;refine .meet () trivial rfl (.get rfl (aa.of_eq (by rw[show cz wa=126 from vV vQ];rfl)) (.keep 8 rfl rfl))
  refine Z1 ?_;refine .meet () trivial rfl (.get rfl (aa.of_eq (by rw[show cz wa=127 from vW vQ];rfl)) (.keep 6 rfl rfl))
 intro _ _;refine Z9 ?_;refine CT λQH=>?_;refine Z8 ?_;refine CT λLh=>?_;refine Z8 ?_;refine CF λUf=>?_;refine Z2 ?_;refine .p (cB an [cz wa]) rfl ?_;refine Z1 ?_;refine .p (cB an [cz wa]) rfl ?_;refine Z9 ?_;refine .n (cE (h:=cJ (s:=s) (l:=[cz wa]) (by omega))) rfl λrW xF=>?_;refine dh ?_;refine .n (cE (h:=eK (s:=rW.1) (l:=[cz wa]) (by have:=xF.2;omega) (by simp))) rfl λWj Wk=>?_;refine Z6 ?_;refine Post.bh rfl rfl ((bG rW.1 [cz wa],rW.2)) (by exact rT (by rw[iu (by unfold gK;omega) (by unfold fA;omega) (by unfold di;omega) (by omega),wZ aR,hw,Option.bind_some]) xF (by simp)) (aF.cZ [] [0,1] rfl rfl) rfl (.cons (.ra (i:=0) FA.out FC.out rfl rfl rfl rfl) ?_ (.cons (.rt rfl) ?_ .nil))
 · exact aa.refl _
 exact aa.refl _
theorem Jj(ak:qh v x s labs)(aR:x.Code=64523):bu Wo 123 [aC (fJ v),aC (aB x),aC (bq s base),ai 1 eI labs] [] (γ:=ee×Int) (zw s (fZ v x s labs)) (λ_=>[]) (λg=>aZ [aC (bq g.1 base),af .i64 g.2]):=by
 refine In 517 Tryz.func123 λ_ _ _=>?_;have FH:=ak.stk;have og:=ak.ins.A0;have BR:=ak.ins.wY;have pX:=ak.D5;have hE:=ak.env;have yl:=hE.F;have yZ:=hE.S;have BA:=hE.L;have FI:=hE.G;have FJ:=hE.W;have hf:aP x.Code=9:=by rw[aR];decide
 have htl:=jZ x.Code;refine Z4 ?_;refine .n (cc (.t rfl)) rfl λb6 _=>?_;refine .n (au FZ.out) rfl λb8 _=>?_;refine Di ?_;refine CT λc0=>?_;refine Z7 ?_;refine CT λc1=>?_;refine Z5 ?_;refine CT λc2=>?_;refine Z6 ?_;refine CT λc3=>?_;refine Z6 ?_;refine CT λc4=>?_;refine Z6 ?_;refine CT λc5=>?_;refine Z6 ?_;refine CT λc6=>?_;refine Z6 ?_;refine CT λc7=>?_;refine Z6 ?_;refine CT λc8=>?_;refine Z7 ?_;refine CT λc9=>?_;refine Z6 ?_;refine CT λlZ=>?_;refine Z5 ?_;refine CT λn8=>?_;refine Z7 ?_;refine CT λqB=>?_;refine Z5 ?_;refine CT λv8=>?_;refine Z7 ?_;refine .p (cA (h:=jU)) rfl ?_;refine Z7 ?_;refine .p (cA (h:=lB)) rfl ?_;refine zE ?_;refine CT λs7=>?_;refine Z27 ?_;refine Cd (λwg=>?_) λwg=>?_
 ·
  refine Z9 ?_;refine Post.bh rfl rfl ((s,2)) (by exact fE (by decide) (by(rw[iu (by unfold gK;omega) (by unfold fA;omega) (by unfold di;omega) (by omega),qA aR];rcases wg with h|⟨h,h2⟩;(rw[j5 h];rfl);omega)) (by omega)) (aF.cZ [] [0,1] rfl rfl) rfl (.cons (.ra (i:=0) FA.out FC.out rfl rfl rfl rfl) ?_ (.cons (.rt rfl) ?_ .nil))
  · exact aa.refl _
  exact aa.refl _
 obtain⟨wa,hw,qP⟩:=jB (L:=v.cj) og (λh=>wg (.inl h));refine Z8 ?_;refine .cut (σ:=Unit) (λ_=>[az b8 (List.map ag [.slice none 0 0, .bool false, .int .i64 0]),az b6 (bq s base)]) (λ_=>[(25,af .u8 ((cz wa:UInt8).toNat:Int))]) (λ_=>True) ?_ ?_
 ·
  refine Z6 ?_;refine .p (cI x.A.toNat (h:=qP)) rfl ?_;refine Z3 ?_;refine Cd (λvQ=>?_) λvQ=>?_
  ·
   refine Z4 ?_;refine .meet () trivial rfl (.get rfl (aa.of_eq (by rw[show cz wa=126 from vV vQ];rfl)) (.keep 8 rfl rfl))
  refine Z1 ?_;refine .meet () trivial rfl (.get rfl (aa.of_eq (by rw[show cz wa=127 from vW vQ];rfl)) (.keep 6 rfl rfl))
 intro _ _;refine Z9 ?_;refine CT λQH=>?_;refine Z8 ?_;refine CT λLh=>?_;refine Z8 ?_;refine CT λUf=>?_;refine Z8 ?_;refine CF λPI=>?_;refine Z4 ?_;refine .p (cB an [cz wa,127,cz wa]) rfl ?_;refine Z8 ?_;refine .n (cE (h:=cJ (s:=s) (l:=[cz wa,127,cz wa]) (by omega))) rfl λrW xF=>?_;refine dh ?_;refine .n (cE (h:=eK (s:=rW.1) (l:=(aQ x.Code).2) (by have:=xF.2;omega) (by omega))) rfl λWj Wk=>?_;refine Z6 ?_;refine Post.bh rfl rfl ((bG rW.1 (aQ x.Code).2,rW.2)) (by exact rT (by rw[iu (by unfold gK;omega) (by unfold fA;omega) (by unfold di;omega) (by omega),qA aR,hw,Option.bind_some,show(aQ x.Code).2=[] by rw[aR];rfl,pH]) xF (by omega)) (aF.cZ [] [0,1] rfl rfl) rfl (.cons (.ra (i:=0) FA.out FC.out rfl rfl rfl rfl) ?_ (.cons (.rt rfl) ?_ .nil))
 · exact aa.refl _
 exact aa.refl _
theorem Jk(ak:qh v x s labs)(aR:x.Code=64522):bu Wo 123 [aC (fJ v),aC (aB x),aC (bq s base),ai 1 eI labs] [] (γ:=ee×Int) (zw s (fZ v x s labs)) (λ_=>[]) (λg=>aZ [aC (bq g.1 base),af .i64 g.2]):=by
 refine In 517 Tryz.func123 λ_ _ _=>?_;have FH:=ak.stk;have og:=ak.ins.A0;have BR:=ak.ins.wY;have pX:=ak.D5;have hE:=ak.env;have yl:=hE.F;have yZ:=hE.S;have BA:=hE.L;have FI:=hE.G;have FJ:=hE.W;have hf:aP x.Code=10:=by rw[aR];decide
 have htl:=jZ x.Code;have hB0:=ak.ins.B0;have hB6:=ak.ins.B64;refine Z4 ?_;refine .n (cc (.t rfl)) rfl λb6 _=>?_;refine .n (au FZ.out) rfl λb8 _=>?_;refine Di ?_;refine CT λc0=>?_;refine Z7 ?_;refine CT λc1=>?_;refine Z5 ?_;refine CT λc2=>?_;refine Z6 ?_;refine CT λc3=>?_;refine Z6 ?_;refine CT λc4=>?_;refine Z6 ?_;refine CT λc5=>?_;refine Z6 ?_;refine CT λc6=>?_;refine Z6 ?_;refine CT λc7=>?_;refine Z6 ?_;refine CT λc8=>?_;refine Z7 ?_;refine CT λc9=>?_;refine Z6 ?_;refine CT λlZ=>?_;refine Z5 ?_;refine CT λn8=>?_;refine Z7 ?_;refine CT λqB=>?_;refine Z5 ?_;refine CT λv8=>?_;refine Z7 ?_;refine .p (cA (h:=jU)) rfl ?_;refine Z7 ?_;refine .p (cA (h:=lB)) rfl ?_;refine zE ?_;refine CT λs7=>?_;refine Z27 ?_;refine Cd (λwg=>?_) λwg=>?_
 ·
  refine Z9 ?_;refine Post.bh rfl rfl ((s,2)) (by exact fE (by decide) (by(rw[iu (by unfold gK;omega) (by unfold fA;omega) (by unfold di;omega) (by omega),n7 aR];rcases wg with h|⟨h,h2⟩;(rw[j5 h];rfl);(cases eG v.cj x.A with|none=>rfl|some g=>rw[Option.bind_some,j5 h2];rfl))) (by omega)) (aF.cZ [] [0,1] rfl rfl) rfl (.cons (.ra (i:=0) FA.out FC.out rfl rfl rfl rfl) ?_ (.cons (.rt rfl) ?_ .nil))
  · exact aa.refl _
  exact aa.refl _
 obtain⟨wa,hw,qP⟩:=jB (L:=v.cj) og (λh=>wg (.inl h));obtain⟨wb,hx,zM⟩:=jB (L:=v.cj) hB0 (λh=>wg (.inr ⟨by omega,h⟩));refine Z8 ?_;refine .cut (σ:=Unit) (λ_=>[az b8 (List.map ag [.slice none 0 0, .bool false, .int .i64 0]),az b6 (bq s base)]) (λ_=>[(25,af .u8 ((cz wa:UInt8).toNat:Int))]) (λ_=>True) ?_ ?_
 ·
  refine Z6 ?_;refine .p (cI x.A.toNat (h:=qP)) rfl ?_;refine Z3 ?_;refine Cd (λvQ=>?_) λvQ=>?_
  ·
   refine Z4 ?_;refine .meet () trivial rfl (.get rfl (aa.of_eq (by rw[show cz wa=126 from vV vQ];rfl)) (.keep 8 rfl rfl))
  refine Z1 ?_;refine .meet () trivial rfl (.get rfl (aa.of_eq (by rw[show cz wa=127 from vW vQ];rfl)) (.keep 6 rfl rfl))
 intro _ _;refine Z9 ?_;refine CT λQH=>?_;refine Z8 ?_;refine CT λLh=>?_;refine Z8 ?_;refine CT λUf=>?_;refine Z8 ?_;refine CT λPI=>?_;refine Z8 ?_;refine .cut (σ:=Unit) (λ_=>[az b8 (List.map ag [.slice none 0 0, .bool false, .int .i64 0]),az b6 (bq s base)]) (λ_=>[(28,af .u8 ((cz wb:UInt8).toNat:Int))]) (λ_=>True) ?_ ?_
 ·
  refine Z6 ?_;refine .p (cI x.B.toNat (h:=zM)) rfl ?_;refine Z3 ?_;refine Cd (λVX=>?_) λVX=>?_
  ·
   refine Z4 ?_;refine .meet () trivial rfl (.get rfl (aa.of_eq (by rw[show cz wb=126 from vV VX];rfl)) (.keep 8 rfl rfl))
  refine Z1 ?_;refine .meet () trivial rfl (.get rfl (aa.of_eq (by rw[show cz wb=127 from vW VX];rfl)) (.keep 6 rfl rfl))
 intro _ _;refine .cut (σ:=Unit) (λ_=>[az b8 (List.map ag [.slice none 0 0, .bool false, .int .i64 0]),az b6 (bq s base)]) (λ_=>[(29,af .u8 ((cz (wa/\wb):UInt8).toNat:Int))]) (λ_=>True) ?_ ?_
 ·
  refine eB ?_;refine Cd (λQI=>?_) λQI=>?_
  ·
   refine Z4 ?_;refine .meet () trivial rfl (.get rfl (aa.of_eq (by rw[show cz (wa/\wb)=126 from vV ⟨m0.1 QI.1,m0.1 QI.2⟩];rfl)) (.keep 10 rfl rfl))
  refine Z1 ?_;refine .meet () trivial rfl (.get rfl (aa.of_eq (by rw[show cz (wa/\wb)=127 from vW (λh=>QI ⟨m0.2 h.1,m0.2 h.2⟩)];rfl)) (.keep 8 rfl rfl))
 intro _ _;refine Z4 ?_;refine .p (cB an [cz wa,cz wb,cz (wa/\wb)]) rfl ?_;refine Z8 ?_;refine .n (cE (h:=cJ (s:=s) (l:=[cz wa,cz wb,cz (wa/\wb)]) (by omega))) rfl λrW xF=>?_;refine dh ?_;refine .n (cE (h:=eK (s:=rW.1) (l:=(aQ x.Code).2) (by have:=xF.2;omega) (by omega))) rfl λWj Wk=>?_;refine Z6 ?_;refine Post.bh rfl rfl ((bG rW.1 (aQ x.Code).2,rW.2)) (by exact rT (by rw[iu (by unfold gK;omega) (by unfold fA;omega) (by unfold di;omega) (by omega),n7 aR,hw,Option.bind_some,hx,Option.bind_some,show(aQ x.Code).2=[] by rw[aR];rfl,pH]) xF (by omega)) (aF.cZ [] [0,1] rfl rfl) rfl (.cons (.ra (i:=0) FA.out FC.out rfl rfl rfl rfl) ?_ (.cons (.rt rfl) ?_ .nil))
 · exact aa.refl _
 exact aa.refl _
end Go.Proofs.YtppekopemdoclaaGreatDoor
end
section
namespace Go.Proofs.YtppekopemdoclaaGreatDoor
open Go.Hl Go.RowKit
theorem Jl{v:oY}{x:aj}{s:ee}{base:Int}{labs:List (List UInt8)}(hp:qh v x s labs)(hn:¬(x.Code=2\/x.Code=3\/x.Code=4\/x.Code=5\/x.Code=11)):
    bu Wo 123 [aC (fJ v),aC (aB x),aC (bq s base),ai 1 eI labs] [] (γ:=ee×Int) (zw s (fZ v x s labs)) (λ_=>[]) (λg=>aZ [aC (bq g.1 base),af .i64 g.2]):=by
  by_cases h0:x.Code=0
  · exact TD hp h0
  by_cases h12:x.Code=12
  · exact Qb hp h12
  by_cases Xk:x.Code=13
  · exact Qc hp Xk
  by_cases Cg:x.Code=14
  · exact Qi hp Cg
  by_cases NA:x.Code=15
  · exact Qd hp NA
  by_cases Vy:x.Code=16
  · exact Qe hp Vy
  by_cases v9:x.Code=17
  · exact Qj hp v9
  by_cases Px:x.Code=26
  · exact Qf hp Px
  by_cases h27:x.Code=27
  · exact Qg hp h27
  by_cases T4:x.Code=32
  · exact Qk hp T4
  by_cases YL:x.Code=33
  · exact Ql hp YL
  by_cases QG:x.Code=34
  · exact Qm hp QG
  by_cases h35:x.Code=35
  · exact Qn hp h35
  by_cases Xf:x.Code=36
  · exact Qo hp Xf
  by_cases h63:x.Code=63
  · exact Qp hp h63
  by_cases Va:x.Code=64
  · exact Qq hp Va
  by_cases hfl:x.Code=64523
  · exact Jj hp hfl
  by_cases hcp:x.Code=64522
  · exact Jk hp hcp
  have c1:¬gK x.Code:=by unfold gK;omega
  have c2:¬fA x.Code:=by unfold fA;omega
  have c3:¬di x.Code:=by unfold di;omega
  by_cases hf8:aP x.Code=8
  · exact TG hp c1 c2 c3 hf8
  refine Ji hp c1 c2 c3 ?_;have n9:aP x.Code≠9:=λh=>by have:=RW h;omega
  have n10:aP x.Code≠10:=λh=>by have:=MV h;omega
  rcases Int.lt_or_le (aP x.Code) 8 with h|h
  · exact .inl h
  · exact .inr (by omega)
end Go.Proofs.YtppekopemdoclaaGreatDoor
namespace Go.Hl
open Go.RowKit
noncomputable abbrev vX(v:oY):=Je (λx:aj=>x.Code) eH (fZ v)
section
variable {v:oY} {l:List aj} {x:aj} {i d zY base:Nat} {labs:List (List UInt8)} {res:List UInt8} {s s1:ee} {hs:List Nat}
theorem jd{α:Type}{l:List α}{i:Nat}{x:α}(h:l[i]?=some x):l.drop i=x::l.drop (i+1):=by
 obtain⟨h1,h2⟩:=List.getElem?_eq_some_iff.1 h;rw[List.drop_eq_getElem_cons h1,h2]
def vY(x:aj):List UInt8:=if x.Code=3 then[] else eH x
abbrev Xo(x:aj)(s:ee)(o:Option ee):Prop:=(x.Code=4->o=dD s [127])/\(x.Code≠4->o=some s)
theorem yD{o:Option ee}(h:Xo x s o)[Decidable (x.Code=4)]:(if x.Code=4 then dD s [127] else some s)=o:=by
 by_cases h4:x.Code=4
 · rw[if_pos h4,h.1 h4]
 · rw[if_neg h4,h.2 h4]
theorem Wl[Decidable (x.Code=3)]:(if x.Code=3 then[] else eH x)=vY x:=by
 unfold vY;by_cases h:x.Code=3
 · rw[if_pos h,if_pos h]
 · rw[if_neg h,if_neg h]
theorem xG(x:aj):(eH x).length<=1:=by unfold eH;split<;>simp
theorem Wm(x:aj):(vY x).length<=1:=by
 unfold vY;split
 · simp
 · exact xG x
theorem Wn(hx:l[i]?=some x)(h:x.Code=11\/x.Code=5)(hc:∃s',dD s res=some s'/\s'.1=[]):vX v (l.drop i) labs res s base=some ([base+s.1.length],l.drop i):=by
 rw[jd hx];exact V6 h hc
theorem Ma(hx:l[i]?=some x)(h:x.Code=11\/x.Code=5)(hc:¬∃s',dD s res=some s'/\s'.1=[]):vX v (l.drop i) labs res s base=none:=by
 rw[jd hx];exact L3 h hc
theorem D6(hx:l[i]?=some x)(h1:¬(x.Code=11\/x.Code=5))(h2:¬aN x.Code):vX v (l.drop i) labs res s base=(fZ v x s labs).bind λs1=>(vX v (l.drop (i+1)) labs res s1 base).map λp=>((base+s.1.length)::p.1,p.2):=by
 rw[jd hx];exact P6 h1 h2
def qN(v:oY)(l:List aj)(labs:List (List UInt8))(res:List UInt8)(base d:Nat)(zY:Nat)(s0:ee)(i:Nat)(s:ee)(pre:List Nat):Prop:=
 oZ (λx:aj=>x.Code) (l.drop i) d/\vX v (l.drop zY) labs res s0 base=(vX v (l.drop i) labs res s base).map λp=>(pre++p.1,p.2)
theorem qN.refl(h:oZ (λx:aj=>x.Code) (l.drop zY) d):qN v l labs res base d zY s zY s []:=⟨h,by simp⟩
theorem qN.trans{a:Nat}{s0:ee}{pre p2:List Nat}{k:Nat}{s2:ee}(h:qN v l labs res base d a s0 i s pre)(h2:qN v l labs res base d i s k s2 p2):qN v l labs res base d a s0 k s2 (pre++p2):=
 ⟨h2.1,by rw[h.2,h2.2,Option.map_map];congr 1;funext p;simp⟩
theorem qN.plain{s2:ee}(hok:oZ (λx:aj=>x.Code) (l.drop i) d)(hx:l[i]?=some x)(h1:¬(x.Code=11\/x.Code=5))(h2:¬aN x.Code)(hp:fZ v x s labs=some s2):qN v l labs res base d i s (i+1) s2 [base+s.1.length]:=
 ⟨L4 (by rw[<-jd hx];exact hok) h1 h2,by rw[D6 hx h1 h2,hp];rfl⟩
theorem qN.none{a:Nat}{s0:ee}{pre:List Nat}(h:qN v l labs res base d a s0 i s pre)(hn:vX v (l.drop i) labs res s base=Option.none):vX v (l.drop a) labs res s0 base=Option.none:=by rw[h.2,hn];rfl
theorem FL(hx:l[i]?=some x)(h1:¬(x.Code=11\/x.Code=5))(h2:¬aN x.Code)(hp:fZ v x s labs=none):vX v (l.drop i) labs res s base=none:=by rw[D6 hx h1 h2,hp];rfl
noncomputable abbrev Ul(v:oY)(l:List aj)(labs:List (List UInt8))(x:aj)(base:Nat)(s1:ee)(k:Nat):=vX v (l.drop k) (labs++[vY x]) (eH x) ([],False) (base+s1.1.length)
theorem qO(hx:l[i]?=some x)(h2:aN x.Code):vX v (l.drop i) labs res s base=((if x.Code=4 then dD s [127] else some s).bind λs1=>
      (Ul v l labs x base s1 (i+1)).bind λp=>
      match p.2 with
      |[]=>none
      | x2::r2=>
        if x2.Code=5 then
          (vX v r2 (labs++[vY x]) (eH x) ([],False) (base+s1.1.length)).bind λp2=>
          match p2.2 with
          |[]=>none
          |_::r3=>(vX v r3 labs res (bG s1 (eH x)) base).map λp3=>((base+s.1.length)::p.1++p2.1++p3.1,p3.2)
        else if x.Code=4/\eH x≠[] then none
        else(vX v r2 labs res (bG s1 (eH x)) base).map λp3=>((base+s.1.length)::p.1++p3.1,p3.2)):=by
  rw[jd hx,vX,Tt (by unfold aN at h2;omega) h2];simp only[Wl];refine Option.bind_congr λs1 _=>?_;unfold Ul;refine Option.bind_congr λp _=>?_;obtain⟨ha,la⟩:=p;cases la with
  |nil=>rfl
  | cons x2 r2=>
    dsimp only
    by_cases h5:x2.Code=5
    · rw[if_pos h5,if_pos h5]
      refine Option.bind_congr λp2 _=>?_;obtain⟨hb,lb⟩:=p2;cases lb<;>rfl
    · rw[if_neg h5,if_neg h5]
theorem FN(hx:l[i]?=some x)(h2:aN x.Code)(h:Xo x s none):vX v (l.drop i) labs res s base=none:=by
 rw[qO hx h2,yD h];rfl
theorem FO(hx:l[i]?=some x)(h2:aN x.Code)(h:Xo x s (some s1))(hi:Ul v l labs x base s1 (i+1)=none):vX v (l.drop i) labs res s base=none:=by
 rw[qO hx h2,yD h,Option.bind_some,hi];rfl
theorem FQ{k:Nat}{h1:List Nat}{x2:aj}(hok:oZ (λx:aj=>x.Code) (l.drop i) d)(hx:l[i]?=some x)(h2:aN x.Code)(h:Xo x s (some s1))(hi:Ul v l labs x base s1 (i+1)=some (h1,l.drop k))(zM:l[k]?=some x2)(h5:¬x2.Code=5)(h4:¬(x.Code=4/\eH x≠[])):
    qN v l labs res base d i s (k+1) (bG s1 (eH x)) ((base+s.1.length)::h1):=by
  rw[jd hx] at hok;rw[jd zM] at hi;refine⟨((vT hok h2 hi).resolve_right (λh=>h5 h.1)).2,?_⟩;rw[qO hx h2,yD h,Option.bind_some,hi,Option.bind_some];simp only;rw[if_neg h5,if_neg h4]
theorem FT{k:Nat}{h1:List Nat}{x2:aj}(hx:l[i]?=some x)(h2:aN x.Code)(h:Xo x s (some s1))(hi:Ul v l labs x base s1 (i+1)=some (h1,l.drop k))(zM:l[k]?=some x2)(h5:¬x2.Code=5)(h4:x.Code=4/\eH x≠[]):
    vX v (l.drop i) labs res s base=none:=by
  rw[jd zM] at hi;rw[qO hx h2,yD h,Option.bind_some,hi,Option.bind_some];simp only;rw[if_neg h5,if_pos h4]
theorem FV{k:Nat}{h1:List Nat}{x2:aj}(hx:l[i]?=some x)(h2:aN x.Code)(h:Xo x s (some s1))(hi:Ul v l labs x base s1 (i+1)=some (h1,l.drop k))(zM:l[k]?=some x2)(h5:x2.Code=5)(hi2:Ul v l labs x base s1 (k+1)=none):
    vX v (l.drop i) labs res s base=none:=by
  rw[jd zM] at hi;rw[qO hx h2,yD h,Option.bind_some,hi,Option.bind_some];simp only;rw[if_pos h5,show vX v (l.drop (k+1)) (labs++[vY x]) (eH x) ([],False) (base+s1.1.length)=none from hi2];rfl
theorem FW{k k2:Nat}{h1 h3:List Nat}{x2 x3:aj}(hok:oZ (λx:aj=>x.Code) (l.drop i) d)(hx:l[i]?=some x)(h2:aN x.Code)(h:Xo x s (some s1))(hi:Ul v l labs x base s1 (i+1)=some (h1,l.drop k))(zM:l[k]?=some x2)(h5:x2.Code=5)(hi2:Ul v l labs x base s1 (k+1)=some (h3,l.drop k2))(hx3:l[k2]?=some x3):
    qN v l labs res base d i s (k2+1) (bG s1 (eH x)) ((base+s.1.length)::(h1++h3)):=by
  rw[jd hx] at hok;rw[jd zM] at hi;rw[jd hx3] at hi2;obtain⟨_,_,_,hb⟩:=(vT hok h2 hi).resolve_left (λh=>by omega);obtain⟨x3',r3,e,_,_,Uj⟩:=hb _ _ _ _ _ _ hi2;cases e;refine⟨Uj,?_⟩;rw[qO hx h2,yD h,Option.bind_some,hi,Option.bind_some];simp only;rw[if_pos h5,show vX v (l.drop (k+1)) (labs++[vY x]) (eH x) ([],False) (base+s1.1.length)=_ from hi2,Option.bind_some];simp only
  first|done|(congr 1;done)|(congr 1;funext p;simp)
def Zq(v:oY)(l:List aj)(zY:Nat)(labs:List (List UInt8))(res:List UInt8)(base:Nat)(hs:List Nat)(g:Int×Int×SB×List Nat):Prop:=
 (g.2.1=0/\∃(h1:List Nat) (k:Nat),g.1=(k:Int)/\zY<=k/\k<=l.length/\g.2.2.2.length<=k+1/\vX v (l.drop zY) labs res ([],False) base=some (h1,l.drop k)/\g.2.2.2=hs++h1)\/(g.2.1≠0/\vX v (l.drop zY) labs res ([],False) base=none)
theorem Zr(hok:oZ (λx:aj=>x.Code) (l.drop i) d)(hx:l[i]?=some x)(h2:aN x.Code):oZ (λx:aj=>x.Code) (l.drop (i+1)) (d+1)/\¬64<=d:=V7 (by rw[<-jd hx];exact hok) h2
theorem TH{k:Nat}{l6:List Nat}{labs':List (List UInt8)}{res':List UInt8}{st':ee}{b':Nat}(hok:oZ (λx:aj=>x.Code) (l.drop i) d)(hb:vX v (l.drop i) labs' res' st' b'=some (l6,l.drop k)):∃x2,l[k]?=some x2:=by
 obtain⟨x2,r2,h1,h2⟩:=V8 (labs':=labs') hok hb;have:k<l.length:=Classical.byContradiction λh=>by rw[List.drop_eq_nil_of_le (by omega)] at h1;cases h1
 exact ah this
theorem Jm{k:Nat}{h1:List Nat}{x2:aj}(hok:oZ (λx:aj=>x.Code) (l.drop i) d)(hx:l[i]?=some x)(h2:aN x.Code)(hi:Ul v l labs x base s1 (i+1)=some (h1,l.drop k))(zM:l[k]?=some x2)(h5:x2.Code=5):oZ (λx:aj=>x.Code) (l.drop (k+1)) (d+1):=by
 rw[jd hx] at hok;rw[jd zM] at hi;exact((vT hok h2 hi).resolve_left (λh=>by omega)).2.2.1
theorem qN.fin{a:Nat}{s0:ee}{pre h1:List Nat}{r:List aj}(h:qN v l labs res base d a s0 i s pre)(he:vX v (l.drop i) labs res s base=some (h1,r)):vX v (l.drop a) labs res s0 base=some (pre++h1,r):=by rw[h.2,he];rfl
theorem qN.Wo{a:Nat}{s0:ee}{pre:List Nat}(h:qN v l labs res base d a s0 i s pre)(hi:l.length<=i):vX v (l.drop a) labs res s0 base=some (pre,l.drop i):=by
 have e:l.drop i=[]:=List.drop_eq_nil_of_le hi;have:=h.fin (h1:=[]) (r:=[]) (by rw[e];rfl);rw[this,e,List.append_nil]
theorem Wp{g:ee×Int}(h:Uk s res g)(c:g.2=0/\(g.1.1.length:Int)>0):(5:Int)=0↔∃s',dD s res=some s'/\s'.1=[]:=
 ⟨λh=>by simp at h,λ⟨s',h1,h2⟩=>by
  rw[h.ok c.1] at h1;cases h1;have:=c.2;rw[h2] at this;simp at this⟩
theorem Zs{g:ee×Int}(h:Uk s res g)(c:¬(g.2=0/\(g.1.1.length:Int)>0)):g.2=0↔∃s',dD s res=some s'/\s'.1=[]:=
 ⟨λh0=>⟨g.1,h.ok h0,List.eq_nil_of_length_eq_zero (Classical.byContradiction λh9=>c ⟨h0,by omega⟩)⟩,λ⟨s',h1,h2⟩=>Classical.byContradiction λh0=>by
  rw[h.no h0] at h1;cases h1⟩
structure TI(v:oY)(l:List aj):Prop where
 env:L6 v
 ins:∀x∈l,nJ x
 len:l.length<=2000
end
end Go.Hl
end
