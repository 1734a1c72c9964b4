/-
  Parts of the proof.
-/
import Derived.Test.YtppekopemdoclaaGreatDoorRAM
set_option linter.all false
set_option maxRecDepth 1000000
set_option maxHeartbeats 4000000
section
namespace Go.Proofs.YtppekopemdoclaaGreatDoor
open Go.Hl Go.RowKit
variable {b:Nat} {A:qE} {K:gA} {F:Nat} {bs:List Nat} {m:jD} {c:bM}
theorem pS{f:Nat}(ak:oe A K)(aR:T3 K)(bO:bs.length=K.own.length)(dO:f<K.dN+K.own.length):bu Wo 31 [ax b 0,nV f] [dZ A K (mE b F bs) m,aX A K c] (γ:=Unit) (λ_=>True) (λ_=>[dZ A K (mE b F bs) (iL K f (m,c)).1,aX A K (iL K f (m,c)).2]) (λ_=>aZ []):=by
 refine In 133 Tryz.func31 λ_ _ _=>?_;refine .r9 λr7=>?_;have Gm:=(aR.sl f).1;have hni:=aR.ni;have QE:=aR.sg f;have TW:K.dN=K.m.ay.length:=rfl;have zk:=ak.cells;have hcs:=r7.sl;have hno:=aR.no;refine Z6 ?_;refine .n ((hH [_] [1,0] (h:=mH)).same (λ_ _=>aF.perm (Perm.idx [1,0] rfl rfl)) (λ_ _=>aa.refl _)) rfl λ_ _=>?_;refine Z7 ?_;refine .p (cA (h:=gM (m:=K.m) (f:=(f:Int)))) rfl ?_;refine Z1 ?_;refine .p ((dW (.t rfl) rfl).le (aa.of_eq (by rw[QE]))) rfl ?_;refine Z1 ?_;refine .n (au FZ.out) rfl λb5 _=>?_;refine Cm ?_;refine Cd (λc0=>?_) λc0=>?_
 ·
  have hE:iL K f (m,c)=oL ⟨2,(jP (K.sig f).P.length c).1,0,f,0⟩ ({m with waits:=true,host:=f},(jP (K.sig f).P.length c).2):=if_pos (by omega);rw[hE];refine Z1 ?_;refine .bt [(0,0),(1,0),(2,0),(3,1),(4,0),(5,1),(6,0),(7,2),(8,0),(9,0),(10,0),(11,0)] 12 1 FM.out (by kernel_rfl) (k:= ?_);refine Z7 ?_;refine .e rfl (hH [_,_] [2,0,1] (h:=vI ak (k:=(K.sig f).P.length))) λUc ZU=>?_;refine Z4 ?_;refine .fin ?_;refine XR ?_;refine .p ((aL FP.out FZ.out (.cons (.c _) (.cons (.t rfl) (.cons (.t rfl) .nil))) rfl).le ((by exact show aa _ (aC (kr ⟨2,(jP (K.sig f).P.length c).1,0,f,0⟩)) from aa.refl _))) rfl ?_;refine .n (hH [_] [2,0,1] (h:=uw (E:=mE b F bs) (m:={m with waits:=true,host:=f}) (c:=(jP (K.sig f).P.length c).2) (o:=⟨2,(jP (K.sig f).P.length c).1,0,f,0⟩) ak)) rfl λFg Ub=>?_;refine Z4 ?_;refine Post.wC rfl (()) (by trivial) (aF.cZ [0,1] [2] rfl rfl) rfl
 have xJ:¬f<K.dN:=by omega
 obtain⟨JD,hz⟩:=Bl bO (i:=f-K.dN) (by omega);obtain⟨Ua,hml⟩:=aR.ow (f-K.dN) (by omega);rw[show K.dN+(f-K.dN)=f by omega] at hml;have hnd: -100000<=((K.made (f-K.dN)),JD).1.nK/\((K.made (f-K.dN)),JD).1.nK<=100000:=Ua.need;have hlo:((K.made (f-K.dN)),JD).1.locals<=2000:=Ua.loc;have cc6:(K.sig f).P.length<=((K.made (f-K.dN)),JD).1.locals:=hml;refine cC ?_;refine .p ((iy (.t rfl) (.t rfl) bY).le (aa.int (show _=((f-K.dN:Nat):Int) by omega))) rfl ?_;refine cC ?_;refine .p (cI (f-K.dN) (h:=hz)) rfl ?_;refine Z1 ?_;refine .n (au FZ.out) rfl λb10 _=>?_;refine Z4 ?_;refine .bt [(0,0),(1,0),(2,0),(3,1),(5,0),(6,1),(7,0),(4,4)] 8 2 FM.out (by kernel_rfl) (k:= ?_);refine Z7 ?_;refine .a rfl ((hH [_,_,_] [3,0,1,2] (h:=rN)).same (λ_ _=>aF.perm (Perm.idx [1,2,3,0] rfl rfl)) (λ_ _=>aa.refl _)) (λ_ _=>aF.refl _) λ_ _=>?_;refine .fin ?_;refine Z6 ?_;have YU:iL K f (m,c)=(if (K.cells:Int)<((c.stk.length:Int)-((K.sig f).P.length:Int))+((K.made (f-K.dN)),JD).1.nK\/((c.stk.length:Int)-((K.sig f).P.length:Int))<0\/c.dS.length=K.frames then nL 11 (m,c) else({m with ku:=(max m.ku.1 (((c.stk.length:Int)-((K.sig f).P.length:Int))+(K.made (f-K.dN)).nK),max m.ku.2 ((c.dS.length:Int)+1))},fk K (List.replicate ((K.made (f-K.dN)).locals-(K.sig f).P.length) 0) {c with dS:=c.dS++[⟨f-K.dN,0,((c.stk.length:Int)-((K.sig f).P.length:Int)).toNat⟩]})):=if_neg xJ;rcases(show(K.cells:Int)<((c.stk.length:Int)-((K.sig f).P.length:Int))+((K.made (f-K.dN)),JD).1.nK\/(¬(K.cells:Int)<((c.stk.length:Int)-((K.sig f).P.length:Int))+((K.made (f-K.dN)),JD).1.nK/\((c.stk.length:Int)-((K.sig f).P.length:Int))<0)\/(¬(K.cells:Int)<((c.stk.length:Int)-((K.sig f).P.length:Int))+((K.made (f-K.dN)),JD).1.nK/\0<=((c.stk.length:Int)-((K.sig f).P.length:Int))/\c.dS.length=K.frames)\/(¬(K.cells:Int)<((c.stk.length:Int)-((K.sig f).P.length:Int))+((K.made (f-K.dN)),JD).1.nK/\0<=((c.stk.length:Int)-((K.sig f).P.length:Int))/\¬c.dS.length=K.frames) by omega) with hA|⟨hA,hB⟩|⟨hA,hB,hC⟩|⟨hA,hB,hC⟩
 ·
  refine .bL 18 3 FM.out (by kernel_rfl) (k:= ?_);refine Cn ?_;refine .g (de.gF rfl rfl rfl rfl (λhg=>mR (q:=af .i64 0) (hg (by omega)))) rfl rfl ?_;refine Z4 ?_;refine CF λc1=>?_;rw[YU,if_pos (.inl hA)];refine Z3 ?_;refine .n (hH [_,_] [2,3,0,1] (h:=kW (E:=mE b F bs) (m:=m) (c:=c) ak)) rfl λg98 ZV=>?_;refine Z4 ?_;refine Post.wC rfl (()) (by trivial) (aF.cZ [0,1] [2,3] rfl rfl) rfl
 ·
  refine .bL 18 3 FM.out (by kernel_rfl) (k:= ?_);refine Cn ?_;refine .nGF rfl rfl rfl rfl ((by omega)) (λhg=>(hH [_,_,_] [3,0,1,2] (h:=Ia (x:=((f-K.dN:Nat):Int)) (y:=0) (z:=((c.stk.length:Int)-((K.sig f).P.length:Int))) hB)).same (λ_ _=>aF.perm (Perm.idx [1,2,3,0] rfl rfl)) (λ_ _=>aa.refl _)) rfl λ_ _=>?_;refine Z4 ?_;refine CF λc1=>?_;rw[YU,if_pos (.inr (.inl hB))];refine Z3 ?_;refine .n (hH [_,_] [2,3,0,1] (h:=kW (E:=mE b F bs) (m:=m) (c:=c) ak)) rfl λg98 ZV=>?_;refine Z4 ?_;refine Post.wC rfl (()) (by trivial) (aF.cZ [0,1] [2,3] rfl rfl) rfl
 ·
  have hfr:oK ⟨f-K.dN,0,((c.stk.length:Int)-((K.sig f).P.length:Int)).toNat⟩:=⟨by(show f-K.dN<_;omega),by(show(0:Nat)<_;decide),by(show((c.stk.length:Int)-((K.sig f).P.length:Int)).toNat<_;omega)⟩;have hfp:vD K.frames c.dS ⟨f-K.dN,0,((c.stk.length:Int)-((K.sig f).P.length:Int)).toNat⟩=c.dS:=if_pos hC;refine .bL 18 3 FM.out (by kernel_rfl) (k:= ?_);refine Dh ?_;refine .cons (de.gF rfl rfl rfl rfl (λhg=>(aL FP.out FZ.out (.cons (.when (.t rfl) hg) (.cons (.when (.t rfl) hg) .nil)) rfl).le ((by exact show aa (aC [nV (f-K.dN),nV 0,af .i64 ((c.stk.length:Int)-((K.sig f).P.length:Int))]) (aC (m5 ⟨f-K.dN,0,((c.stk.length:Int)-((K.sig f).P.length:Int)).toNat⟩)) from aa.agg (.cons (.refl _) (.cons (.refl _) (.cons (aa.int (show((c.stk.length:Int)-((K.sig f).P.length:Int))=((((c.stk.length:Int)-((K.sig f).P.length:Int)).toNat:Nat):Int) by omega)) .nil))))))) ?_;refine Z1 ?_;refine .nGF rfl rfl rfl rfl ((by omega)) (λhg=>eV (rest:=[_,_,_]) (BC ak (f:=⟨f-K.dN,0,((c.stk.length:Int)-((K.sig f).P.length:Int)).toNat⟩) hfr) FB.out (.cons (.when (.t rfl) hg) (.cons (.when (.t rfl) hg) .nil)) (Perm.idx [3,0,1,2] rfl rfl)) rfl λg94 h94=>?_;refine Z4 ?_;rw[hfp];refine Cd (λc1=>?_) λc1=>?_
  ·
   rw[YU,if_pos (.inr (.inr hC))];refine Z3 ?_;refine .n (hH [_,_] [3,0,1,2] (h:=kW (E:=mE b F bs) (m:=m) (c:=c) ak)) rfl λg98 ZV=>?_;refine Z4 ?_;refine Post.wC rfl (()) (by trivial) (aF.cZ [0,1] [2,3] rfl rfl) rfl
  exfalso;rw[if_pos hC] at c1;omega
 have hfr:oK ⟨f-K.dN,0,((c.stk.length:Int)-((K.sig f).P.length:Int)).toNat⟩:=⟨by(show f-K.dN<_;omega),by(show(0:Nat)<_;decide),by(show((c.stk.length:Int)-((K.sig f).P.length:Int)).toNat<_;omega)⟩;have hfp:vD K.frames c.dS ⟨f-K.dN,0,((c.stk.length:Int)-((K.sig f).P.length:Int)).toNat⟩=c.dS++[⟨f-K.dN,0,((c.stk.length:Int)-((K.sig f).P.length:Int)).toNat⟩]:=if_neg hC;refine .bL 18 3 FM.out (by kernel_rfl) (k:= ?_);refine Dh ?_;refine .cons (de.gF rfl rfl rfl rfl (λhg=>(aL FP.out FZ.out (.cons (.when (.t rfl) hg) (.cons (.when (.t rfl) hg) .nil)) rfl).le ((by exact show aa (aC [nV (f-K.dN),nV 0,af .i64 ((c.stk.length:Int)-((K.sig f).P.length:Int))]) (aC (m5 ⟨f-K.dN,0,((c.stk.length:Int)-((K.sig f).P.length:Int)).toNat⟩)) from aa.agg (.cons (.refl _) (.cons (.refl _) (.cons (aa.int (show((c.stk.length:Int)-((K.sig f).P.length:Int))=((((c.stk.length:Int)-((K.sig f).P.length:Int)).toNat:Nat):Int) by omega)) .nil))))))) ?_;refine Z1 ?_;refine .nGF rfl rfl rfl rfl ((by omega)) (λhg=>eV (rest:=[_,_,_]) (BC ak (f:=⟨f-K.dN,0,((c.stk.length:Int)-((K.sig f).P.length:Int)).toNat⟩) hfr) FB.out (.cons (.when (.t rfl) hg) (.cons (.when (.t rfl) hg) .nil)) (Perm.idx [3,0,1,2] rfl rfl)) rfl λg94 h94=>?_;refine Z4 ?_;rw[hfp];refine Cd (λc1=>?_) λc1=>?_
 · exfalso;rw[if_neg hC] at c1;omega
 rw[YU,if_neg (by omega)];refine Z3 ?_;refine .bt [(0,0),(1,0),(2,0),(3,0),(4,0),(5,1),(6,0),(7,0),(8,1),(9,0),(10,0),(11,0),(12,0),(13,0),(14,0),(15,1),(16,0),(17,0),(18,0),(19,1),(20,4),(21,0),(22,0)] 23 3 FM.out (by kernel_rfl) (k:= ?_);refine Z4 ?_;refine .p rfl (λ_=>eD 0 FU.out FC.out rfl (.t rfl) (.c _) rfl (by omega)) ?_;refine Z9 ?_;refine .p rfl (λ_=>eD 1 FU.out FC.out rfl (.t rfl) (.c _) rfl (by omega)) ?_;refine Z5 ?_;refine .a rfl ((cE (h:=y4)).same (λ_ _=>aF.refl _) (λ_ _=>aa.refl _)) (λ_ _=>aF.refl _) λ_ _=>?_;refine .p rfl (λ_=>(QY (.t rfl) (.t rfl)).le (aa.int (show _=max m.ku.2 ((c.dS.length:Int)+1) by simp))) ?_;refine .p rfl (λ_=>fy FR.out FZ.out (.cons (.t rfl) (.cons (.t rfl) .nil)) rfl) ?_;refine .fin ?_;refine Z2 ?_;refine .s (dQ (i:=3) FC.out rfl (.t rfl) (.t rfl) rfl rfl rfl) ?_;refine cC ?_;refine .n (N8 (enc:=ia) (0) FU.out FC.out FY.out FZ.out rfl (aa.refl _) (.t rfl) (show _=((((K.made (f-K.dN)),JD).1.locals-(K.sig f).P.length:Nat):Int) by omega) (by omega) (by omega)) rfl λ_ _=>?_;refine .n (hH [_,_] [3,0,1,2] (h:=fR (E:=mE b F bs) (m:={m with ku:=(max m.ku.1 (((c.stk.length:Int)-((K.sig f).P.length:Int))+(K.made (f-K.dN)).nK),max m.ku.2 ((c.dS.length:Int)+1))}) (c:={c with dS:=c.dS++[⟨f-K.dN,0,((c.stk.length:Int)-((K.sig f).P.length:Int)).toNat⟩]}) (l:=List.replicate ((K.made (f-K.dN)).locals-(K.sig f).P.length) 0) ak (λv hv=>by rw[List.eq_of_mem_replicate hv];decide))) rfl λcc7 cc8=>?_;refine Z1 ?_;refine Post.cY rfl (()) (by trivial) (aF.cZ [0,1] [2,3] rfl rfl) rfl
variable {x:aj}
open Classical in
theorem IG(ak:oe A K)(aR:T3 K)(bO:bs.length=K.own.length)(dO:p9 x)(jE:x.A<(K.m.bQ.length:Int))(sx:∀v∈c.tb,v<=K.dN+K.own.length):bu Wo 162 [ax b 0,aC (aB x)] [dZ A K (mE b F bs) m,aX A K c] (γ:=Unit) (λ_=>True) (λ_=>[dZ A K (mE b F bs) (nC K x (m,c)).1,aX A K (nC K x (m,c)).2]) (λ_=>aZ []):=by
 refine In 59 Tryz.func162 λ_ _ _=>?_;refine .r9 λr7=>?_;have jg:=r7.pop;have htn:=r7.tn;have hkt:=aR.tn;have og:=dO.A0;have BR:=dO.wY;have hni:=aR.ni;have hno:=aR.no;obtain⟨sg,QE⟩:=ah (xs:=K.m.bQ) (k:=x.A.toNat) (by omega);have Xe:nC K x (m,c)=(if ((c.tb[(aO c).1]?).getD 0)=0 then pO 5 (m,(aO c).2) else if K.sig (((c.tb[(aO c).1]?).getD 0)-1)=(K.m.bQ[x.A.toNat]?).getD ⟨[],[]⟩ then iL K (((c.tb[(aO c).1]?).getD 0)-1) (m,(aO c).2) else pO 6 (m,(aO c).2)):=rfl;rw[show(K.m.bQ[x.A.toNat]?).getD ⟨[],[]⟩=sg by rw[QE];rfl] at Xe;refine dh ?_;refine .n ((hH [_] [1,0] (h:=mH)).same (λ_ _=>aF.perm (Perm.idx [1,0] rfl rfl)) (λ_ _=>aa.refl _)) rfl λ_ _=>?_;refine Z6 ?_;refine .n (cE (h:=eL (E:=mE b F bs) ak)) rfl λBv v9=>?_;refine Z4 ?_;rcases(show(aO c).1<fH K.m\/(¬(aO c).1<fH K.m/\(aO c).1<9223372036854775808)\/(¬(aO c).1<fH K.m/\9223372036854775808<=(aO c).1) by omega) with hN|⟨hN,hM⟩|⟨hN,hM⟩
 ·
  generalize hv:((c.tb[(aO c).1]?).getD 0)=v at Xe;have hve:(((aO c).2).tb[(aO c).1]?).getD 0=v:=hv;have cc9:v<=K.dN+K.own.length:=by(rw[<-hv];cases h9:c.tb[(aO c).1]? with|none=>exact Nat.zero_le _|some w=>exact sx w (List.mem_of_getElem? h9))
  refine Z7 ?_;refine .n ((hH [_] [1,0] (h:=Ib (c:=(aO c).2) ak (i:=(aO c).1) hN)).same (λ_ _=>aF.perm (Perm.idx [1,0] rfl rfl)) (λ_ _=>aa.refl _)) rfl λ_ _=>?_;refine Z1 ?_;refine .p ((dW (.t rfl) rfl).le (aa.of_eq (by rw[hve]))) rfl ?_;refine .p ((dW (.t rfl) rfl).le (aa.of_eq (by rw[hve]))) rfl ?_;refine Dh ?_;refine Cd (λc0=>?_) λc0=>?_
  ·
   have ZP:v=0:=by omega
   rw[Xe,if_pos ZP];refine Z3 ?_;refine .n (cE (h:=mI (E:=mE b F bs) (m:=m) (c:=(aO c).2) (t:=5) ak)) rfl λg36 Xf=>?_;refine Z4 ?_;refine Post.wC rfl (()) (by trivial) (λ_ _ _ h=>h) rfl
  have ZP:¬v=0:=by omega
  rw[if_neg ZP] at Xe;refine Z5 ?_;refine .p ((gu (.t rfl)).le (aa.int (show(if v=0 then(0:Int) else(v:Int)-1)=((v-1:Nat):Int) by rw[if_neg ZP];omega))) rfl ?_;refine .p (cA (h:=gM (m:=K.m) (f:=((v-1:Nat):Int)))) rfl ?_;refine Z1 ?_;refine .p ((dW (.t rfl) rfl).le (aa.of_eq (by rw[aR.sg]))) rfl ?_;refine Z1 ?_;refine .n (au FZ.out) rfl λb9 _=>?_;refine Z6 ?_;refine .bL 9 2 FM.out (by kernel_rfl) (k:= ?_);refine Z7 ?_;refine .p (cI x.A.toNat (h:=QE)) ?_;refine Z2 ?_;refine .p (cA (h:=KR)) rfl ?_;refine Z3 ?_;refine Cd (λc1=>?_) λc1=>?_
  ·
   have hne:¬K.sig (v-1)=sg:=c1;rw[Xe,if_neg hne];refine Z3 ?_;refine .n (hH [_] [1,2,0] (h:=mI (E:=mE b F bs) (m:=m) (c:=(aO c).2) (t:=6) ak)) rfl λg55 h55=>?_;refine Z4 ?_;refine Post.wC rfl (()) (by trivial) (aF.cZ [0,1] [2] rfl rfl) rfl
  have heq:K.sig (v-1)=sg:=Classical.not_not.1 c1;rw[Xe,if_pos heq];refine Z4 ?_;refine .p ((gu (.t rfl)).le (aa.int (show(if v=0 then(0:Int) else(v:Int)-1)=((v-1:Nat):Int) by rw[if_neg ZP];omega))) rfl ?_;refine .n (hH [_] [1,2,0] (h:=pS (m:=m) (c:=(aO c).2) ak aR bO (f:=v-1) (by omega))) rfl λg58 h58=>?_;refine Z1 ?_;refine Post.cY rfl (()) (by trivial) (aF.cZ [0,1] [2] rfl rfl) rfl
 ·
  refine Z7 ?_;refine .n ((hH [_] [1,0] (h:=xm (c:=(aO c).2) (i:=((aO c).1:Int)) (.inr (by unfold fH at hN;omega)))).same (λ_ _=>aF.perm (Perm.idx [1,0] rfl rfl)) (λ_ _=>aa.refl _)) rfl λ_ _=>?_;refine J2 ?_;refine Cd (λc0=>?_) λc0=>?_
  ·
   rw[Xe,if_pos (SC (c:=c) htn hN)];refine Z3 ?_;refine .n (cE (h:=mI (E:=mE b F bs) (m:=m) (c:=(aO c).2) (t:=5) ak)) rfl λg36 Xf=>?_;refine Z4 ?_;refine Post.wC rfl (()) (by trivial) (λ_ _ _ h=>h) rfl
  exact(c0 (.inl (by decide))).elim
 refine Z6 ?_;refine .p ((cO FU.out FU.out (.t rfl)).le (aa.int (show IntKind.i64.wrap ((aO c).1:Int)=((aO c).1:Int)-18446744073709551616 by rw[IntKind.wrap_i64];omega))) rfl ?_;refine .n ((hH [_] [1,0] (h:=xm (c:=(aO c).2) (i:=((aO c).1:Int)-18446744073709551616) (.inl (by omega)))).same (λ_ _=>aF.perm (Perm.idx [1,0] rfl rfl)) (λ_ _=>aa.refl _)) rfl λ_ _=>?_;refine J2 ?_;refine Cd (λc0=>?_) λc0=>?_
 ·
  rw[Xe,if_pos (SC (c:=c) htn hN)];refine Z3 ?_;refine .n (cE (h:=mI (E:=mE b F bs) (m:=m) (c:=(aO c).2) (t:=5) ak)) rfl λg36 Xf=>?_;refine Z4 ?_;refine Post.wC rfl (()) (by trivial) (λ_ _ _ h=>h) rfl
 exact(c0 (.inl (by decide))).elim
variable {at_:Nat}
open Classical in
theorem Py(ak:oe A K)(aR:T3 K)(bO:bs.length=K.own.length)(dO:(bK c).fn<K.own.length)(jE:Sz K x)(sx:∀v∈c.tb,v<=K.dN+K.own.length):bu Wo 114 [ax b 0,aC (aB x),nV at_] [dZ A K (mE b F bs) m,aX A K c,eU (K.own.zip bs)] (γ:=Unit) (λ_=>True) (λ_=>[dZ A K (mE b F bs) ((bn K x at_ (m,c)).getD (m,c)).1,aX A K ((bn K x at_ (m,c)).getD (m,c)).2,eU (K.own.zip bs)]) (λ_=>av ((bn K x at_ (m,c)).isSome=true)):=by
 refine In 68 Tryz.func114 λ_ _ _=>?_;refine .r9 λr7=>?_;have jg:=r7.pop;have og:=jE.w.A0;have BR:=jE.w.wY;have hLn:=jE.w.Ln;have hni:=aR.ni;have hno:=aR.no;refine J2 ?_;refine Cd (λc0=>?_) λc0=>?_
 ·
  have hC:bn K x at_ (m,c)=some (pO 1 (m,c)):=by unfold bn;repeat (first|rw[if_pos (by assumption)]|rw[if_neg (by assumption)]);try rfl
  rw[hC];refine Z2 ?_;refine .n (cE (h:=mI (E:=mE b F bs) (m:=m) (c:=c) (t:=1) ak)) rfl λqI h12=>?_;refine Z9 ?_;refine br ?_;exact aa.prop (by simp)
 refine Z6 ?_;refine Cd (λc1=>?_) λc1=>?_
 ·
  have hC:bn K x at_ (m,c)=some (m,if (aO c).1=0 then Bf K at_ (aO c).2 else(aO c).2):=by unfold bn;repeat (first|rw[if_pos (by assumption)]|rw[if_neg (by assumption)]);try rfl
  rw[hC];refine Z3 ?_;refine .n (cE (h:=eL (E:=mE b F bs) ak)) rfl λZQ Vy=>?_;refine Z3 ?_;refine Cd (λc2=>?_) λc2=>?_
  ·
   rw[if_pos (show(aO c).1=0 by omega)];refine Z3 ?_;refine .n (cE (h:=BQ (c:=(aO c).2) ak aR bO dO)) rfl λT8 T9=>?_;refine Z9 ?_;refine br ?_;exact aa.prop (by simp)
  rw[if_neg (show ¬(aO c).1=0 by omega)];refine Z9 ?_;refine br ?_;exact aa.prop (by simp)
 refine Z6 ?_;refine Cd (λc3=>?_) λc3=>?_
 ·
  have hC:bn K x at_ (m,c)=some (m,Bf K at_ c):=by unfold bn;repeat (first|rw[if_pos (by assumption)]|rw[if_neg (by assumption)]);try rfl
  rw[hC];refine Z3 ?_;refine .n (cE (h:=BQ ak aR bO dO)) rfl λGc Tf=>?_;refine Z9 ?_;refine br ?_;exact aa.prop (by simp)
 refine Z6 ?_;refine Cd (λc4=>?_) λc4=>?_
 ·
  have hC:bn K x at_ (m,c)=some (m,xg K at_ 0 c):=by unfold bn;repeat (first|rw[if_pos (by assumption)]|rw[if_neg (by assumption)]);try rfl
  rw[hC];refine Z3 ?_;refine .n (cE (h:=vO ak aR bO dO (k:=0))) rfl λZW h30=>?_;refine Z9 ?_;refine br ?_;exact aa.prop (by simp)
 refine Z6 ?_;refine Cd (λc5=>?_) λc5=>?_
 ·
  have hC:bn K x at_ (m,c)=some (m,if (aO c).1≠0 then xg K at_ 0 (aO c).2 else(aO c).2):=by unfold bn;repeat (first|rw[if_pos (by assumption)]|rw[if_neg (by assumption)]);try rfl
  rw[hC];refine Z3 ?_;refine .n (cE (h:=eL (E:=mE b F bs) ak)) rfl λQF QG=>?_;refine Z3 ?_;refine Cd (λc6=>?_) λc6=>?_
  ·
   rw[if_pos (show(aO c).1≠0 by omega)];refine Z3 ?_;refine .n (cE (h:=vO (c:=(aO c).2) ak aR bO dO (k:=0))) rfl λUc ZU=>?_;refine Z9 ?_;refine br ?_;exact aa.prop (by simp)
  rw[if_neg (show ¬(aO c).1≠0 by omega)];refine Z9 ?_;refine br ?_;exact aa.prop (by simp)
 refine Z6 ?_;refine Cd (λc7=>?_) λc7=>?_
 ·
  have hC:bn K x at_ (m,c)=some (m,xg K at_ ((min (aO c).1 x.L.length:Nat):Int) (aO c).2):=by unfold bn;repeat (first|rw[if_pos (by assumption)]|rw[if_neg (by assumption)]);try rfl
  rw[hC];refine .bt [(0,0),(1,0),(2,0),(4,0),(5,0),(6,0),(7,0),(3,2),(8,0),(9,0)] 10 1 FM.out (by kernel_rfl) (k:= ?_);refine Z7 ?_;refine .e rfl (cE (h:=eL (E:=mE b F bs) ak)) λg44 h44=>?_;refine .p rfl (λ_=>C4 (.t rfl) (.t rfl)) ?_;refine .p rfl (λ_=>(jW FU.out FU.out (.t rfl) bY).le (aa.int (show _=((min (aO c).1 x.L.length:Nat):Int) by omega))) ?_;refine .fin ?_;refine .n (cE (h:=vO (c:=(aO c).2) ak aR bO dO (k:=((min (aO c).1 x.L.length:Nat):Int)))) rfl λg51 h51=>?_;refine Z9 ?_;refine br ?_;exact aa.prop (by simp)
 refine Z6 ?_;refine Cd (λc8=>?_) λc8=>?_
 ·
  have hC:bn K x at_ (m,c)=some (js K (m,c)):=by unfold bn;repeat (first|rw[if_pos (by assumption)]|rw[if_neg (by assumption)]);try rfl
  rw[hC];refine Z2 ?_;refine .n (cE (h:=y7 ak aR bO dO)) rfl λg55 h55=>?_;refine Z9 ?_;refine br ?_;exact aa.prop (by simp)
 refine Z6 ?_;refine Cd (λc9=>?_) λc9=>?_
 ·
  have hC:bn K x at_ (m,c)=some (iL K x.A.toNat (m,c)):=by unfold bn;repeat (first|rw[if_pos (by assumption)]|rw[if_neg (by assumption)]);try rfl
  rw[hC];have zk:=jE.call (by assumption);refine Z4 ?_;refine .p ((jW FU.out FU.out (.t rfl) bY).le (aa.int (show x.A=((x.A.toNat:Nat):Int) by omega))) rfl ?_;refine .n (cE (h:=pS ak aR bO (f:=x.A.toNat) (by omega))) rfl λZX Ud=>?_;refine Z9 ?_;refine br ?_;exact aa.prop (by simp)
 refine Z6 ?_;refine Cd (λlZ=>?_) λlZ=>?_
 ·
  have hC:bn K x at_ (m,c)=some (nC K x (m,c)):=by unfold bn;repeat (first|rw[if_pos (by assumption)]|rw[if_neg (by assumption)]);try rfl
  rw[hC];refine Z3 ?_;refine .n (cE (h:=IG ak aR bO jE.w (jE.sig (by assumption)) sx)) rfl λg67 h67=>?_;refine Z9 ?_;refine br ?_;exact aa.prop (by simp)
 have hC:bn K x at_ (m,c)=none:=by unfold bn;repeat (first|rw[if_pos (by assumption)]|rw[if_neg (by assumption)]);try rfl
 rw[hC];refine Z8 ?_;refine br ?_;exact aa.prop (by simp)
open Classical in
theorem Pz(ak:oe A K)(aR:Sz K x):bu Wo 115 [ax b 0,aC (aB x),nV at_] [dZ A K (mE b F bs) m,aX A K c] (γ:=Unit) (λ_=>True) (λ_=>[dZ A K (mE b F bs) m,aX A K ((bz K x c).getD c)]) (λ_=>av ((bz K x c).isSome=true)):=by
 refine In 116 Tryz.func115 λ_ _ _=>?_;refine .r9 λr7=>?_;have jg:=r7.pop;have og:=aR.w.A0;have BR:=aR.w.wY;refine J2 ?_;refine Cd (λc0=>?_) λc0=>?_
 ·
  have hC:bz K x c=some (aO c).2:=by unfold bz;repeat (first|rw[if_pos (by assumption)]|rw[if_neg (by assumption)]);try rfl
  rw[hC];refine Z2 ?_;refine .n (cE (h:=eL (E:=mE b F bs) ak)) rfl λUe Tg=>?_;refine Z9 ?_;refine br ?_;exact aa.prop (by simp)
 refine Z6 ?_;refine Cd (λc1=>?_) λc1=>?_
 ·
  have hC:bz K x c=some (fk K [if (aO c).1=0 then(aO (aO c).2).1 else(aO (aO (aO c).2).2).1] (aO (aO (aO c).2).2).2):=by unfold bz;repeat (first|rw[if_pos (by assumption)]|rw[if_neg (by assumption)]);try rfl
  rw[hC];have bO:(aO (aO c).2).1<18446744073709551616:=r7.ai0;have dO:(aO (aO (aO c).2).2).1<18446744073709551616:=r7.aL5;refine Z3 ?_;refine .n (cE (h:=eL (E:=mE b F bs) ak)) rfl λGc Tf=>?_;refine Z1 ?_;refine .n (cE (h:=eL (E:=mE b F bs) ak)) rfl λg27 h27=>?_;refine Z1 ?_;refine .n (cE (h:=eL (E:=mE b F bs) ak)) rfl λg29 h29=>?_;refine eB ?_;refine Cd (λc2=>?_) λc2=>?_
  ·
   have hsz:(aO c).1=0:=by omega
   refine Z7 ?_;refine .p ((gu (.t rfl)).le (aa.int (show _=(((if (aO c).1=0 then(aO (aO c).2).1 else(aO (aO (aO c).2).2).1):Nat):Int) by first|rw[if_pos hsz]|rw[if_neg hsz]))) rfl ?_;refine .p (cB ia [if (aO c).1=0 then(aO (aO c).2).1 else(aO (aO (aO c).2).2).1]) rfl ?_;refine .n (cE (h:=fR (E:=mE b F bs) (c:=(aO (aO (aO c).2).2).2) ak (oN (by split<;>assumption)))) rfl λg36 Xf=>?_;refine Z9 ?_;refine br ?_;exact aa.prop (by simp)
  have hsz:¬(aO c).1=0:=by omega
  refine Z4 ?_;refine .p ((gu (.t rfl)).le (aa.int (show _=(((if (aO c).1=0 then(aO (aO c).2).1 else(aO (aO (aO c).2).2).1):Nat):Int) by first|rw[if_pos hsz]|rw[if_neg hsz]))) rfl ?_;refine .p (cB ia [if (aO c).1=0 then(aO (aO c).2).1 else(aO (aO (aO c).2).2).1]) rfl ?_;refine .n (cE (h:=fR (E:=mE b F bs) (c:=(aO (aO (aO c).2).2).2) ak (oN (by split<;>assumption)))) rfl λg36 Xf=>?_;refine Z9 ?_;refine br ?_;exact aa.prop (by simp)
 refine Z6 ?_;refine Cd (λc3=>?_) λc3=>?_
 ·
  have hC:bz K x c=some (fk K [zp (td x c) c] c):=by unfold bz;repeat (first|rw[if_pos (by assumption)]|rw[if_neg (by assumption)]);try rfl
  rw[hC];have hlc:x.A.toNat<=4294967295:=by(have h9:=aR.loc (by omega);omega)
  refine Z1 ?_;refine .bt [(0,0),(1,0),(2,0),(3,1),(4,0),(5,0),(6,0),(7,4),(8,4),(9,0),(10,0),(11,0),(12,0)] 13 1 FM.out (by kernel_rfl) (k:= ?_);refine Z6 ?_;refine .p rfl (λ_=>(pU FA.out (.t rfl)).le (aa.int (show x.A=((x.A.toNat:Nat):Int) by omega))) ?_;refine .a rfl ((cE (h:=tN ak (n:=x.A.toNat) hlc)).same (λ_ _=>aF.refl _) (λ_ _=>aa.refl _)) (λ_ _=>aF.refl _) λ_ _=>?_;refine .a rfl ((hH [_] [1,0] (h:=DP ak)).same (λ_ _=>aF.perm (Perm.idx [1,0] rfl rfl)) (λ_ _=>aa.refl _)) (λ_ _=>aF.refl _) λ_ _=>?_;refine Z1 ?_;refine .p rfl (λ_=>(dW (.t rfl) rfl).le (aa.int (show _=((zp (td x c) c:Nat):Int) from congrArg Nat.cast ((if_pos (Int.natCast_nonneg _)).trans rfl)))) ?_;refine Z2 ?_;refine .fin ?_;refine Z6 ?_;refine .p (cB ia [zp (td x c) c]) rfl ?_;refine .n (cE (h:=fR (E:=mE b F bs) ak (oN (Nl r7.sv _)))) rfl λXg Xh=>?_;refine Z9 ?_;refine br ?_;exact aa.prop (by simp)
 refine Z6 ?_;refine Cd (λc4=>?_) λc4=>?_
 ·
  have hC:bz K x c=some (Sn (td x (aO c).2) (aO c).1 (aO c).2):=by unfold bz;repeat (first|rw[if_pos (by assumption)]|rw[if_neg (by assumption)]);try rfl
  rw[hC];have hlc:x.A.toNat<=4294967295:=by(have h9:=aR.loc (by omega);omega)
  refine Z3 ?_;refine .n (cE (h:=eL (E:=mE b F bs) ak)) rfl λg58 h58=>?_;refine Z3 ?_;refine .bt [(0,0),(1,0),(2,0),(3,1),(4,0),(5,0),(6,0),(8,0),(7,4)] 9 1 FM.out (by kernel_rfl) (k:= ?_);refine Z6 ?_;refine .p rfl (λ_=>(pU FA.out (.t rfl)).le (aa.int (show x.A=((x.A.toNat:Nat):Int) by omega))) ?_;refine Z1 ?_;refine .a rfl ((cE (h:=tN (c:=(aO c).2) ak (n:=x.A.toNat) hlc)).same (λ_ _=>aF.refl _) (λ_ _=>aa.refl _)) (λ_ _=>aF.refl _) λ_ _=>?_;refine .fin ?_;refine .n (hH [_] [1,0] (h:=DQ ak jg)) rfl λg68 h68=>?_;refine Z9 ?_;refine Post.aS rfl (()) (by trivial) (aF.cZ [1,0] [] rfl rfl) (.rt rfl) ?_;exact aa.prop (by simp)
 refine Z6 ?_;refine Cd (λc5=>?_) λc5=>?_
 ·
  have hC:bz K x c=some (fk K [(aO c).1] (Sn (td x (aO c).2) (aO c).1 (aO c).2)):=by unfold bz;repeat (first|rw[if_pos (by assumption)]|rw[if_neg (by assumption)]);try rfl
  rw[hC];have hlc:x.A.toNat<=4294967295:=by(have h9:=aR.loc (by omega);omega)
  refine Z3 ?_;refine .n (cE (h:=eL (E:=mE b F bs) ak)) rfl λg72 h72=>?_;refine Z4 ?_;refine .bt [(0,0),(1,0),(2,0),(3,1),(4,0),(5,0),(6,0),(8,0),(7,4)] 9 1 FM.out (by kernel_rfl) (k:= ?_);refine Z6 ?_;refine .p rfl (λ_=>(pU FA.out (.t rfl)).le (aa.int (show x.A=((x.A.toNat:Nat):Int) by omega))) ?_;refine Z1 ?_;refine .a rfl ((cE (h:=tN (c:=(aO c).2) ak (n:=x.A.toNat) hlc)).same (λ_ _=>aF.refl _) (λ_ _=>aa.refl _)) (λ_ _=>aF.refl _) λ_ _=>?_;refine .fin ?_;refine .n (hH [_] [1,0] (h:=DQ ak jg)) rfl λYW h82=>?_;refine Z5 ?_;refine .p (cB ia [(aO c).1]) rfl ?_;refine .n (hH [] [1,0] (h:=fR (E:=mE b F bs) ak (oN jg))) rfl λg86 h86=>?_;refine Z9 ?_;refine br ?_;exact aa.prop (by simp)
 refine Z6 ?_;refine Cd (λc6=>?_) λc6=>?_
 ·
  have hC:bz K x c=some (fk K [(c.gl[x.A.toNat]?).getD 0] c):=by unfold bz;repeat (first|rw[if_pos (by assumption)]|rw[if_neg (by assumption)]);try rfl
  rw[hC];have Th:x.A.toNat<K.m.aA.length:=by(have h9:=aR.Vx (by omega);omega)
  have hga:=ak.gl;refine Z1 ?_;refine .bt [(0,0),(1,0),(2,0),(3,1),(4,0),(5,0),(6,0),(7,4),(8,0),(9,0),(10,0),(11,0)] 12 1 FM.out (by kernel_rfl) (k:= ?_);refine Z6 ?_;refine .p rfl (λ_=>(jW FU.out FU.out (.t rfl) bY).le (aa.int (show x.A=((x.A.toNat:Nat):Int) by omega))) ?_;refine .a rfl ((hH [_] [1,0] (h:=E0 ak (i:=x.A.toNat) Th)).same (λ_ _=>aF.perm (Perm.idx [1,0] rfl rfl)) (λ_ _=>aa.refl _)) (λ_ _=>aF.refl _) λ_ _=>?_;refine Z4 ?_;refine .fin ?_;refine Z6 ?_;refine .p (cB ia [(c.gl[x.A.toNat]?).getD 0]) rfl ?_;refine .n (cE (h:=fR (E:=mE b F bs) ak (oN (SD r7.gv _)))) rfl λYX ai8=>?_;refine Z9 ?_;refine br ?_;exact aa.prop (by simp)
 refine Z6 ?_;refine Cd (λc7=>?_) λc7=>?_
 ·
  have Th:x.A.toNat<K.m.aA.length:=by(have h9:=aR.Vx (by omega);omega)
  have hga:=ak.gl;obtain⟨gz,hgz⟩:=ah (xs:=K.m.aA) (k:=x.A.toNat) Th;have hgt:Eu K.m x.A.toNat=gz:=Ev hgz;have hC:bz K x c=some (bM.mk (aO c).2.stk (aO c).2.dS ((aO c).2.gl.set x.A.toNat (qu (Eu K.m x.A.toNat).Ty (aO c).1)) (aO c).2.tb (aO c).2.ms (aO c).2.co (aO c).2.mm):=by unfold bz;repeat (first|rw[if_pos (by assumption)]|rw[if_neg (by assumption)]);try rfl
  rw[hC];rw[hgt];refine .Eh (FR:=[dZ A K (mE b F bs) m]) [(0,0),(1,0),(2,0),(3,1),(4,0),(5,0),(6,0),(7,0),(8,4)] 9 1 FM.out (by kernel_rfl) ?_;refine Z3 ?_;refine .o rfl (kK (i:=0) FA.out (.t rfl) rfl rfl) (aF.cZ [0] [1] rfl rfl) ?_;refine Z2 ?_;refine .p rfl (λ_=>(jW FU.out FU.out (.t rfl) bY).le (aa.int (show x.A=((x.A.toNat:Nat):Int) by omega))) ?_;refine Z1 ?_;refine .a rfl (cE (h:=eL (E:=mE b F bs) ak)) (λ_ _=>(aF.cZ [0] [1] rfl rfl)) λcd0 cd1=>?_;refine .fin ?_;refine .n (hH [_] [1,0] (h:=K2 (c:=(aO c).2) ak hgz jg)) rfl λcd2 cd3=>?_;refine Z9 ?_;refine Post.aS rfl (()) (by trivial) (aF.cZ [1,0] [] rfl rfl) (.rt rfl) ?_;exact aa.prop (by simp)
 have hC:bz K x c=none:=by unfold bz;repeat (first|rw[if_pos (by assumption)]|rw[if_neg (by assumption)]);try rfl
 rw[hC];refine Z8 ?_;refine br ?_;exact aa.prop (by simp)
variable {l:List UInt8} {s:List UInt8}
theorem sk:dF Wo 288 [dV l,dV s] (av (nr l s)):=by
 refine In 21 Tryz.func288 λ_ _ _=>?_;refine .fact (t:=0) rfl (λS w v h=>je h) λhl=>?_;refine .fact (t:=1) rfl (λS w v h=>je h) λGm=>?_;refine Cn ?_;refine .g (de.gT rfl rfl rfl rfl (λhg=>Ak FU.out (.when (.t rfl) hg) (.when (.t rfl) hg) (by omega:_=((l.length-s.length:Nat):Int)) (by omega))) rfl rfl ?_;refine Z7 ?_;refine br ?_;exact aa.prop (by unfold nr;constructor<;>(rintro⟨h1,h2⟩;exact⟨by omega,h2⟩))
theorem zq:dF Wo 289 [dV l,dV s] (av (xS l s)):=by
 refine In 18 Tryz.func289 λ_ _ _=>?_;refine .fact (t:=0) rfl (λS w v h=>je h) λhl=>?_;refine .fact (t:=1) rfl (λS w v h=>je h) λGm=>?_;refine Cm ?_;refine .g (de.gT rfl rfl rfl rfl (λhg=>u7 FU.out (.when (.t rfl) hg) (.when (.t rfl) hg) rfl (by omega))) rfl rfl ?_;refine Z7 ?_;refine br ?_;exact aa.prop (by unfold xS;constructor<;>(rintro⟨h1,h2⟩;exact⟨by omega,h2⟩))
theorem BT:dF Wo 230 [dV l,dV s] (av (nr l s)):=by
 refine In 8 Tryz.func230 λ_ _ _=>?_;refine Z9 ?_;refine .p (cA (h:=sk)) rfl ?_;refine Z4 ?_;refine br ?_;exact aa.refl _
theorem BU:dF Wo 231 [dV l,dV s] (av (xS l s)):=by
 refine In 8 Tryz.func231 λ_ _ _=>?_;refine Z9 ?_;refine .p (cA (h:=zq)) rfl ?_;refine Z4 ?_;refine br ?_;exact aa.refl _
theorem yw:dF Wo 287 [dV l,dV s] (dV (tZ l s)):=by
 refine In 16 Tryz.func287 λ_ _ _=>?_;refine .fact (t:=0) rfl (λS w v h=>je h) λhl=>?_;refine .fact (t:=1) rfl (λS w v h=>je h) λGm=>?_;refine Z2 ?_;refine .p (bf (.s [] rfl rfl)) rfl ?_;refine Z7 ?_;refine .p (cA (h:=sk)) rfl ?_;refine Z2 ?_;refine Cd (λc0=>?_) λc0=>?_
 ·
  have hle:=c0.1;refine Z8 ?_;refine .p (u7 FU.out (.t rfl) (.t rfl) (by omega:_=((l.length-s.length:Nat):Int)) (by omega)) rfl ?_;refine Z5 ?_;refine br ?_;exact aa.of_eq (by unfold tZ;rw[if_pos c0])
 refine Z9 ?_;refine br ?_;exact aa.of_eq (by unfold tZ;rw[if_neg c0])
theorem sn:dF Wo 229 [dV l,dV s] (dV (tZ l s)):=by
 refine In 8 Tryz.func229 λ_ _ _=>?_;refine Z2 ?_;refine .p (bf (.s [] rfl rfl)) rfl ?_;refine Z6 ?_;refine .p (cA (h:=yw)) rfl ?_;refine Z4 ?_;refine br ?_;exact aa.refl _
theorem Fj{b:UInt8}:dF Wo 408 [dV l,af .u8 (b.toNat:Int)] (af .i64 (Lib.indexByte l b)):=by
 refine In 8 Tryz.func408 λ_ _ _=>?_;refine Z9 ?_;refine .p (JO Tryz.ac5 (.cons (.t rfl) (.cons (.t rfl) .nil))) rfl ?_;refine Z4 ?_;refine br ?_;exact aa.refl _
theorem PA{b:UInt8}(ak:l≠[b]):dF Wo 358 [dV l,dV [b]] (af .i64 (Lib.indexByte l b)):=by
 refine In 143 Tryz.func358 λ_ _ _=>?_;refine Z26 ?_;refine Cd (λc0=>?_) λc0=>?_
 · exfalso;simp at c0;exact ak c0.symm
 refine Z7 ?_;refine CF λc1=>?_;refine Z4 ?_;refine .p (qk FU.out (.t rfl) (.c _) rfl (show[b][0]?=some b from rfl)) rfl ?_;refine .p (cA (h:=Fj)) rfl ?_;refine Z6 ?_;refine br ?_;exact aa.refl _
theorem PB{b:UInt8}(ak:l≠[b]):dF Wo 286 [dV l,dV [b]] (aZ [dV (xT l b).1,dV (xT l b).2.1,av ((xT l b).2.2=true)]):=by
 refine In 23 Tryz.func286 λ_ _ _=>?_;refine .fact (t:=0) rfl (λS w v h=>je h) λhl=>?_;have hlt:=Ee l b;refine Z2 ?_;refine .p (bf (.s [] rfl rfl)) rfl ?_;refine .p (bf (.s [] rfl rfl)) rfl ?_;refine Z8 ?_;refine .p (cA (h:=PA ak)) rfl ?_;refine Z9 ?_;refine Cd (λc0=>?_) λc0=>?_
 ·
  have hj:Lib.indexByte l b=(((Lib.indexByte l b).toNat:Nat):Int):=by omega
  refine Z1 ?_;refine .bL 10 2 FM.out (by kernel_rfl) (k:= ?_);refine Z2 ?_;refine .p (u7 FU.out (.t rfl) (.t rfl) hj (by omega)) ?_;refine Z4 ?_;refine .p (ez (.t rfl) (.t rfl) (cM (by simp only[List.length_cons,List.length_nil];omega) (by simp only[List.length_cons,List.length_nil];omega))) ?_;refine .p (Ak FU.out (.t rfl) (.t rfl) (by simp only[List.length_cons,List.length_nil];omega:_=(((Lib.indexByte l b).toNat+1:Nat):Int)) (by omega)) ?_;refine Z8 ?_;refine TX ?_ ?_ ?_
  · exact aa.of_eq (by unfold xT;rw[if_pos c0])
  · exact aa.of_eq (by unfold xT;rw[if_pos c0])
  exact aa.prop (by unfold xT;rw[if_pos c0];simp)
 refine Z6 ?_;refine .p (bf (.s [] rfl rfl)) rfl ?_;refine Z4 ?_;refine TX ?_ ?_ ?_
 · exact aa.of_eq (by unfold xT;rw[if_neg c0])
 · exact aa.of_eq (by unfold xT;rw[if_neg c0])
 exact aa.prop (by unfold xT;rw[if_neg c0];simp)
theorem Ti{b:UInt8}(ak:l≠[b]):dF Wo 228 [dV l,dV [b]] (aZ [dV (xT l b).1,dV (xT l b).2.1,av ((xT l b).2.2=true)]):=by
 refine In 13 Tryz.func228 λ_ _ _=>?_;refine Z2 ?_;refine .p (bf (.s [] rfl rfl)) rfl ?_;refine .p (bf (.s [] rfl rfl)) rfl ?_;refine Z7 ?_;refine .p (cA (h:=PB ak)) rfl ?_;refine Z9 ?_;refine TX ?_ ?_ ?_
 · exact aa.refl _
 · exact aa.refl _
 exact aa.refl _
theorem uT:dF Wo 355 [] (aC (Ox.flatMap kO)):=by
 refine In 2 Tryz.func355 λ_ _ _=>?_;refine Z2 ?_;refine .n (au FZ.out) rfl λb0 _=>?_;refine Z4 ?_;refine .p (fy (cs:=Ox.flatMap kO) FR.out FZ.out (.cons (.s [97,100,100] rfl rfl) (.cons (.s [115,117,98] rfl rfl) (.cons (.s [109,117,108] rfl rfl) (.cons (.s [100,105,118,95,115] rfl rfl) (.cons (.s [100,105,118,95,117] rfl rfl) (.cons (.s [114,101,109,95,115] rfl rfl) (.cons (.s [114,101,109,95,117] rfl rfl) (.cons (.s [97,110,100] rfl rfl) (.cons (.s [111,114] rfl rfl) (.cons (.s [120,111,114] rfl rfl) (.cons (.s [115,104,108] rfl rfl) (.cons (.s [115,104,114,95,115] rfl rfl) (.cons (.s [115,104,114,95,117] rfl rfl) (.cons (.s [114,111,116,108] rfl rfl) (.cons (.s [114,111,116,114] rfl rfl) .nil))))))))))))))) rfl) rfl ?_;refine Z4 ?_;refine Post.aS rfl () trivial (λ_ _ _ _=>trivial) (.ra (i:=0) FA.out FC.out rfl rfl rfl rfl) ?_;exact aa.refl _
theorem BV:dF Wo 356 [] (aC (Dw.flatMap kO)):=by
 refine In 2 Tryz.func356 λ_ _ _=>?_;refine Z2 ?_;refine .n (au FZ.out) rfl λb0 _=>?_;refine Z4 ?_;refine .p (fy (cs:=Dw.flatMap kO) FR.out FZ.out (.cons (.s [101,113] rfl rfl) (.cons (.s [110,101] rfl rfl) (.cons (.s [108,116,95,115] rfl rfl) (.cons (.s [108,116,95,117] rfl rfl) (.cons (.s [103,116,95,115] rfl rfl) (.cons (.s [103,116,95,117] rfl rfl) (.cons (.s [108,101,95,115] rfl rfl) (.cons (.s [108,101,95,117] rfl rfl) (.cons (.s [103,101,95,115] rfl rfl) (.cons (.s [103,101,95,117] rfl rfl) .nil)))))))))) rfl) rfl ?_;refine Z4 ?_;refine Post.aS rfl () trivial (λ_ _ _ _=>trivial) (.ra (i:=0) FA.out FC.out rfl rfl rfl rfl) ?_;exact aa.refl _
theorem nU:dF Wo 357 [] (aC (UU.flatMap kO)):=by
 refine In 2 Tryz.func357 λ_ _ _=>?_;refine Z2 ?_;refine .n (au FZ.out) rfl λb0 _=>?_;refine Z4 ?_;refine .p (fy (cs:=UU.flatMap kO) FR.out FZ.out (.cons (.s [99,108,122] rfl rfl) (.cons (.s [99,116,122] rfl rfl) (.cons (.s [112,111,112,99,110,116] rfl rfl) (.cons (.s [101,113,122] rfl rfl) .nil)))) rfl) rfl ?_;refine Z4 ?_;refine Post.aS rfl () trivial (λ_ _ _ _=>trivial) (.ra (i:=0) FA.out FC.out rfl rfl rfl rfl) ?_;exact aa.refl _
theorem PC:dF Wo 282 [] (aC (jz.flatMap iC)):=by
 refine In 49 Tryz.func282 λ_ _ _=>?_;refine Z2 ?_;refine .n (au FZ.out) rfl λb0 _=>?_;refine Z4 ?_;refine .p (aL FP.out FZ.out (.cons (.c _) (.cons (.s [117,110,114,101,97,99,104,97,98,108,101] rfl rfl) (.cons (.c _) (.cons (.s [] rfl rfl) (.cons (.s [] rfl rfl) .nil))))) rfl) rfl ?_;refine .p (aL FP.out FZ.out (.cons (.c _) (.cons (.s [110,111,112] rfl rfl) (.cons (.c _) (.cons (.s [] rfl rfl) (.cons (.s [] rfl rfl) .nil))))) rfl) rfl ?_;refine .p (aL FP.out FZ.out (.cons (.c _) (.cons (.s [98,108,111,99,107] rfl rfl) (.cons (.c _) (.cons (.s [] rfl rfl) (.cons (.s [] rfl rfl) .nil))))) rfl) rfl ?_;refine .p (aL FP.out FZ.out (.cons (.c _) (.cons (.s [108,111,111,112] rfl rfl) (.cons (.c _) (.cons (.s [] rfl rfl) (.cons (.s [] rfl rfl) .nil))))) rfl) rfl ?_;refine .p (aL FP.out FZ.out (.cons (.c _) (.cons (.s [105,102] rfl rfl) (.cons (.c _) (.cons (.s [] rfl rfl) (.cons (.s [] rfl rfl) .nil))))) rfl) rfl ?_;refine .p (aL FP.out FZ.out (.cons (.c _) (.cons (.s [101,108,115,101] rfl rfl) (.cons (.c _) (.cons (.s [] rfl rfl) (.cons (.s [] rfl rfl) .nil))))) rfl) rfl ?_;refine .p (aL FP.out FZ.out (.cons (.c _) (.cons (.s [101,110,100] rfl rfl) (.cons (.c _) (.cons (.s [] rfl rfl) (.cons (.s [] rfl rfl) .nil))))) rfl) rfl ?_;refine .p (aL FP.out FZ.out (.cons (.c _) (.cons (.s [98,114] rfl rfl) (.cons (.c _) (.cons (.s [] rfl rfl) (.cons (.s [] rfl rfl) .nil))))) rfl) rfl ?_;refine .p (aL FP.out FZ.out (.cons (.c _) (.cons (.s [98,114,95,105,102] rfl rfl) (.cons (.c _) (.cons (.s [] rfl rfl) (.cons (.s [] rfl rfl) .nil))))) rfl) rfl ?_;refine .p (aL FP.out FZ.out (.cons (.c _) (.cons (.s [98,114,95,116,97,98,108,101] rfl rfl) (.cons (.c _) (.cons (.s [] rfl rfl) (.cons (.s [] rfl rfl) .nil))))) rfl) rfl ?_;refine .p (aL FP.out FZ.out (.cons (.c _) (.cons (.s [114,101,116,117,114,110] rfl rfl) (.cons (.c _) (.cons (.s [] rfl rfl) (.cons (.s [] rfl rfl) .nil))))) rfl) rfl ?_;refine .p (aL FP.out FZ.out (.cons (.c _) (.cons (.s [99,97,108,108] rfl rfl) (.cons (.c _) (.cons (.s [] rfl rfl) (.cons (.s [] rfl rfl) .nil))))) rfl) rfl ?_;refine .p (aL FP.out FZ.out (.cons (.c _) (.cons (.s [99,97,108,108,95,105,110,100,105,114,101,99,116] rfl rfl) (.cons (.c _) (.cons (.s [] rfl rfl) (.cons (.s [] rfl rfl) .nil))))) rfl) rfl ?_;refine .p (aL FP.out FZ.out (.cons (.c _) (.cons (.s [100,114,111,112] rfl rfl) (.cons (.c _) (.cons (.s [] rfl rfl) (.cons (.s [] rfl rfl) .nil))))) rfl) rfl ?_;refine .p (aL FP.out FZ.out (.cons (.c _) (.cons (.s [115,101,108,101,99,116] rfl rfl) (.cons (.c _) (.cons (.s [] rfl rfl) (.cons (.s [] rfl rfl) .nil))))) rfl) rfl ?_;refine .p (aL FP.out FZ.out (.cons (.c _) (.cons (.s [108,111,99,97,108,46,103,101,116] rfl rfl) (.cons (.c _) (.cons (.s [] rfl rfl) (.cons (.s [] rfl rfl) .nil))))) rfl) rfl ?_;refine .p (aL FP.out FZ.out (.cons (.c _) (.cons (.s [108,111,99,97,108,46,115,101,116] rfl rfl) (.cons (.c _) (.cons (.s [] rfl rfl) (.cons (.s [] rfl rfl) .nil))))) rfl) rfl ?_;refine .p (aL FP.out FZ.out (.cons (.c _) (.cons (.s [108,111,99,97,108,46,116,101,101] rfl rfl) (.cons (.c _) (.cons (.s [] rfl rfl) (.cons (.s [] rfl rfl) .nil))))) rfl) rfl ?_;refine .p (aL FP.out FZ.out (.cons (.c _) (.cons (.s [103,108,111,98,97,108,46,103,101,116] rfl rfl) (.cons (.c _) (.cons (.s [] rfl rfl) (.cons (.s [] rfl rfl) .nil))))) rfl) rfl ?_;refine .p (aL FP.out FZ.out (.cons (.c _) (.cons (.s [103,108,111,98,97,108,46,115,101,116] rfl rfl) (.cons (.c _) (.cons (.s [] rfl rfl) (.cons (.s [] rfl rfl) .nil))))) rfl) rfl ?_;refine .p (aL FP.out FZ.out (.cons (.c _) (.cons (.s [105,51,50,46,108,111,97,100] rfl rfl) (.cons (.c _) (.cons (.s [105] rfl rfl) (.cons (.s [105] rfl rfl) .nil))))) rfl) rfl ?_;refine .p (aL FP.out FZ.out (.cons (.c _) (.cons (.s [105,54,52,46,108,111,97,100] rfl rfl) (.cons (.c _) (.cons (.s [105] rfl rfl) (.cons (.s [108] rfl rfl) .nil))))) rfl) rfl ?_;refine .p (aL FP.out FZ.out (.cons (.c _) (.cons (.s [105,51,50,46,108,111,97,100,56,95,115] rfl rfl) (.cons (.c _) (.cons (.s [105] rfl rfl) (.cons (.s [105] rfl rfl) .nil))))) rfl) rfl ?_;refine .p (aL FP.out FZ.out (.cons (.c _) (.cons (.s [105,51,50,46,108,111,97,100,56,95,117] rfl rfl) (.cons (.c _) (.cons (.s [105] rfl rfl) (.cons (.s [105] rfl rfl) .nil))))) rfl) rfl ?_;refine .p (aL FP.out FZ.out (.cons (.c _) (.cons (.s [105,51,50,46,108,111,97,100,49,54,95,115] rfl rfl) (.cons (.c _) (.cons (.s [105] rfl rfl) (.cons (.s [105] rfl rfl) .nil))))) rfl) rfl ?_;refine .p (aL FP.out FZ.out (.cons (.c _) (.cons (.s [105,51,50,46,108,111,97,100,49,54,95,117] rfl rfl) (.cons (.c _) (.cons (.s [105] rfl rfl) (.cons (.s [105] rfl rfl) .nil))))) rfl) rfl ?_;refine .p (aL FP.out FZ.out (.cons (.c _) (.cons (.s [105,54,52,46,108,111,97,100,56,95,115] rfl rfl) (.cons (.c _) (.cons (.s [105] rfl rfl) (.cons (.s [108] rfl rfl) .nil))))) rfl) rfl ?_;refine .p (aL FP.out FZ.out (.cons (.c _) (.cons (.s [105,54,52,46,108,111,97,100,56,95,117] rfl rfl) (.cons (.c _) (.cons (.s [105] rfl rfl) (.cons (.s [108] rfl rfl) .nil))))) rfl) rfl ?_;refine .p (aL FP.out FZ.out (.cons (.c _) (.cons (.s [105,54,52,46,108,111,97,100,49,54,95,115] rfl rfl) (.cons (.c _) (.cons (.s [105] rfl rfl) (.cons (.s [108] rfl rfl) .nil))))) rfl) rfl ?_;refine .p (aL FP.out FZ.out (.cons (.c _) (.cons (.s [105,54,52,46,108,111,97,100,49,54,95,117] rfl rfl) (.cons (.c _) (.cons (.s [105] rfl rfl) (.cons (.s [108] rfl rfl) .nil))))) rfl) rfl ?_;refine .p (aL FP.out FZ.out (.cons (.c _) (.cons (.s [105,54,52,46,108,111,97,100,51,50,95,115] rfl rfl) (.cons (.c _) (.cons (.s [105] rfl rfl) (.cons (.s [108] rfl rfl) .nil))))) rfl) rfl ?_;refine .p (aL FP.out FZ.out (.cons (.c _) (.cons (.s [105,54,52,46,108,111,97,100,51,50,95,117] rfl rfl) (.cons (.c _) (.cons (.s [105] rfl rfl) (.cons (.s [108] rfl rfl) .nil))))) rfl) rfl ?_;refine .p (aL FP.out FZ.out (.cons (.c _) (.cons (.s [105,51,50,46,115,116,111,114,101] rfl rfl) (.cons (.c _) (.cons (.s [105,105] rfl rfl) (.cons (.s [] rfl rfl) .nil))))) rfl) rfl ?_;refine .p (aL FP.out FZ.out (.cons (.c _) (.cons (.s [105,54,52,46,115,116,111,114,101] rfl rfl) (.cons (.c _) (.cons (.s [105,108] rfl rfl) (.cons (.s [] rfl rfl) .nil))))) rfl) rfl ?_;refine .p (aL FP.out FZ.out (.cons (.c _) (.cons (.s [105,51,50,46,115,116,111,114,101,56] rfl rfl) (.cons (.c _) (.cons (.s [105,105] rfl rfl) (.cons (.s [] rfl rfl) .nil))))) rfl) rfl ?_;refine .p (aL FP.out FZ.out (.cons (.c _) (.cons (.s [105,51,50,46,115,116,111,114,101,49,54] rfl rfl) (.cons (.c _) (.cons (.s [105,105] rfl rfl) (.cons (.s [] rfl rfl) .nil))))) rfl) rfl ?_;refine .p (aL FP.out FZ.out (.cons (.c _) (.cons (.s [105,54,52,46,115,116,111,114,101,56] rfl rfl) (.cons (.c _) (.cons (.s [105,108] rfl rfl) (.cons (.s [] rfl rfl) .nil))))) rfl) rfl ?_;refine .p (aL FP.out FZ.out (.cons (.c _) (.cons (.s [105,54,52,46,115,116,111,114,101,49,54] rfl rfl) (.cons (.c _) (.cons (.s [105,108] rfl rfl) (.cons (.s [] rfl rfl) .nil))))) rfl) rfl ?_;refine .p (aL FP.out FZ.out (.cons (.c _) (.cons (.s [105,54,52,46,115,116,111,114,101,51,50] rfl rfl) (.cons (.c _) (.cons (.s [105,108] rfl rfl) (.cons (.s [] rfl rfl) .nil))))) rfl) rfl ?_;refine .p (aL FP.out FZ.out (.cons (.c _) (.cons (.s [109,101,109,111,114,121,46,115,105,122,101] rfl rfl) (.cons (.c _) (.cons (.s [] rfl rfl) (.cons (.s [105] rfl rfl) .nil))))) rfl) rfl ?_;refine .p (aL FP.out FZ.out (.cons (.c _) (.cons (.s [109,101,109,111,114,121,46,103,114,111,119] rfl rfl) (.cons (.c _) (.cons (.s [105] rfl rfl) (.cons (.s [105] rfl rfl) .nil))))) rfl) rfl ?_;refine .p (aL FP.out FZ.out (.cons (.c _) (.cons (.s [105,51,50,46,99,111,110,115,116] rfl rfl) (.cons (.c _) (.cons (.s [] rfl rfl) (.cons (.s [105] rfl rfl) .nil))))) rfl) rfl ?_;refine .p (aL FP.out FZ.out (.cons (.c _) (.cons (.s [105,54,52,46,99,111,110,115,116] rfl rfl) (.cons (.c _) (.cons (.s [] rfl rfl) (.cons (.s [108] rfl rfl) .nil))))) rfl) rfl ?_;refine .p (aL FP.out FZ.out (.cons (.c _) (.cons (.s [105,51,50,46,119,114,97,112,95,105,54,52] rfl rfl) (.cons (.c _) (.cons (.s [108] rfl rfl) (.cons (.s [105] rfl rfl) .nil))))) rfl) rfl ?_;refine .p (aL FP.out FZ.out (.cons (.c _) (.cons (.s [105,54,52,46,101,120,116,101,110,100,95,105,51,50,95,115] rfl rfl) (.cons (.c _) (.cons (.s [105] rfl rfl) (.cons (.s [108] rfl rfl) .nil))))) rfl) rfl ?_;refine .p (aL FP.out FZ.out (.cons (.c _) (.cons (.s [105,54,52,46,101,120,116,101,110,100,95,105,51,50,95,117] rfl rfl) (.cons (.c _) (.cons (.s [105] rfl rfl) (.cons (.s [108] rfl rfl) .nil))))) rfl) rfl ?_;refine .p (aL FP.out FZ.out (.cons (.c _) (.cons (.s [105,51,50,46,101,120,116,101,110,100,56,95,115] rfl rfl) (.cons (.c _) (.cons (.s [105] rfl rfl) (.cons (.s [105] rfl rfl) .nil))))) rfl) rfl ?_;refine .p (fy (cs:=jz.flatMap iC) FR.out FZ.out (.cons (.t rfl) (.cons (.t rfl) (.cons (.t rfl) (.cons (.t rfl) (.cons (.t rfl) (.cons (.t rfl) (.cons (.t rfl) (.cons (.t rfl) (.cons (.t rfl) (.cons (.t rfl) (.cons (.t rfl) (.cons (.t rfl) (.cons (.t rfl) (.cons (.t rfl) (.cons (.t rfl) (.cons (.t rfl) (.cons (.t rfl) (.cons (.t rfl) (.cons (.t rfl) (.cons (.t rfl) (.cons (.t rfl) (.cons (.t rfl) (.cons (.t rfl) (.cons (.t rfl) (.cons (.t rfl) (.cons (.t rfl) (.cons (.t rfl) (.cons (.t rfl) (.cons (.t rfl) (.cons (.t rfl) (.cons (.t rfl) (.cons (.t rfl) (.cons (.t rfl) (.cons (.t rfl) (.cons (.t rfl) (.cons (.t rfl) (.cons (.t rfl) (.cons (.t rfl) (.cons (.t rfl) (.cons (.t rfl) (.cons (.t rfl) (.cons (.t rfl) (.cons (.t rfl) (.cons (.t rfl) (.cons (.t rfl) (.cons (.t rfl) (.cons (.t rfl) .nil))))))))))))))))))))))))))))))))))))))))))))))) rfl) rfl ?_;refine Z4 ?_;refine Post.aS rfl () trivial (λ_ _ _ _=>trivial) (.ra (i:=0) FA.out FC.out rfl rfl rfl rfl) ?_;exact aa.refl _
theorem PD:dF Wo 283 [] (aC (j9.flatMap iC)):=by
 refine In 8 Tryz.func283 λ_ _ _=>?_;refine Z2 ?_;refine .n (au FZ.out) rfl λb0 _=>?_;refine Z4 ?_;refine .p (aL FP.out FZ.out (.cons (.c _) (.cons (.s [105,51,50,46,101,120,116,101,110,100,49,54,95,115] rfl rfl) (.cons (.c _) (.cons (.s [105] rfl rfl) (.cons (.s [105] rfl rfl) .nil))))) rfl) rfl ?_;refine .p (aL FP.out FZ.out (.cons (.c _) (.cons (.s [105,54,52,46,101,120,116,101,110,100,56,95,115] rfl rfl) (.cons (.c _) (.cons (.s [108] rfl rfl) (.cons (.s [108] rfl rfl) .nil))))) rfl) rfl ?_;refine .p (aL FP.out FZ.out (.cons (.c _) (.cons (.s [105,54,52,46,101,120,116,101,110,100,49,54,95,115] rfl rfl) (.cons (.c _) (.cons (.s [108] rfl rfl) (.cons (.s [108] rfl rfl) .nil))))) rfl) rfl ?_;refine .p (aL FP.out FZ.out (.cons (.c _) (.cons (.s [105,54,52,46,101,120,116,101,110,100,51,50,95,115] rfl rfl) (.cons (.c _) (.cons (.s [108] rfl rfl) (.cons (.s [108] rfl rfl) .nil))))) rfl) rfl ?_;refine .p (aL FP.out FZ.out (.cons (.c _) (.cons (.s [109,101,109,111,114,121,46,99,111,112,121] rfl rfl) (.cons (.c _) (.cons (.s [105,105,105] rfl rfl) (.cons (.s [] rfl rfl) .nil))))) rfl) rfl ?_;refine .p (aL FP.out FZ.out (.cons (.c _) (.cons (.s [109,101,109,111,114,121,46,102,105,108,108] rfl rfl) (.cons (.c _) (.cons (.s [105,105,105] rfl rfl) (.cons (.s [] rfl rfl) .nil))))) rfl) rfl ?_;refine .p (fy (cs:=j9.flatMap iC) FR.out FZ.out (.cons (.t rfl) (.cons (.t rfl) (.cons (.t rfl) (.cons (.t rfl) (.cons (.t rfl) (.cons (.t rfl) .nil)))))) rfl) rfl ?_;refine Z4 ?_;refine Post.aS rfl () trivial (λ_ _ _ _=>trivial) (.ra (i:=0) FA.out FC.out rfl rfl rfl rfl) ?_;exact aa.refl _
theorem Lf:dF Wo 294 [] (aC (iD.flatMap uj)):=by
 refine In 10 Tryz.func294 λ_ _ _=>?_;refine Z2 ?_;refine .n (au FZ.out) rfl λb0 _=>?_;refine eB ?_;refine .p (fy (cs:=iD.flatMap uj) FR.out FZ.out (.cons (.t rfl) (.cons (.t rfl) (.cons (.t rfl) (.cons (.t rfl) (.cons (.t rfl) (.cons (.t rfl) (.cons (.t rfl) (.cons (.t rfl) .nil)))))))) rfl) rfl ?_;refine Z4 ?_;refine Post.aS rfl () trivial (λ_ _ _ _=>trivial) (.ra (i:=0) FA.out FC.out rfl rfl rfl rfl) ?_;exact aa.refl _
variable {code:Int}
theorem xq:dF Wo 239 [af .i64 code] (aZ [af .i64 ((mz code).getD (0,0,0)).1,af .i64 ((mz code).getD (0,0,0)).2.1,af .i64 ((mz code).getD (0,0,0)).2.2,av (mz code).isSome]):=by
 refine In 37 Tryz.func239 λ_ _ _=>?_;refine dh ?_;refine .p (cA (h:=Lf)) rfl ?_;refine Z4 ?_;refine .bk (σ:=Nat) (λ_=>[]) (λk=>[(9,af .i64 (k:Int))]) (λk=>k<=iD.length/\dJ (λs=>p6 code s=true) iD k) (λk=>iD.length-k) 0 ⟨by omega,dJ.zero _ _⟩ rfl ?_ ?_
 · exact(.get rfl (aa.refl _) (.refl _ _))
 rintro k ⟨hk,hn⟩;refine Z6 ?_;refine Cd (λc0=>?_) λc0=>?_
 ·
  have II:k<iD.length:=by have:iD.length=8:=rfl;omega
  obtain⟨x,JE⟩:=ah (xs:=iD) (k:=k) II;have hb:=RN x (List.mem_of_getElem? JE);refine Z6 ?_;refine .p (wq iD FU.out FC.out rfl FA.out (.t rfl) rfl rfl (.t rfl) rfl (by assumption)) rfl ?_;refine .n (au FZ.out) rfl λb7 _=>?_;refine Z3 ?_;refine .share (t:=7) (i:=0) rfl rfl ?_;refine Dh ?_;refine Cd (λc1=>?_) λc1=>?_
  ·
   have hno:=UX JE (by simpa[p6] using c1) hn;refine Z1 ?_;refine .bL 13 2 FM.out (by kernel_rfl) (k:= ?_);refine Z24 ?_;refine Rt4 ?_ ?_ ?_ ?_
   · exact aa.int (by rw[hno];rfl)
   · exact aa.int (by rw[hno];rfl)
   · exact aa.int (by rw[hno];rfl)
   exact aa.prop (by rw[hno];simp)
  refine Z7 ?_;refine .round (k+1) ⟨by omega,hn.succ JE (by simpa[p6] using c1)⟩ (by omega) rfl ?_;exact(.get rfl (aa.int (by omega)) (.keep 20 rfl rfl))
 have XH:k=iD.length:=by have:iD.length=8:=rfl;omega
 subst XH;refine ij ?_;refine Rt4 ?_ ?_ ?_ ?_
 · exact aa.int (by rw[uk hn];rfl)
 · exact aa.int (by rw[uk hn];rfl)
 · exact aa.int (by rw[uk hn];rfl)
 exact aa.prop (by rw[uk hn];simp)
theorem CM:dF Wo 284 [af .i64 code] (aZ [aC (iC ((iF code).getD WY)),av (iF code).isSome]):=by
 refine In 69 Tryz.func284 λ_ _ _=>?_;refine Z2 ?_;refine .n (au FZ.out) rfl λb2 _=>?_;refine Z6 ?_;refine .p (cA (h:=xq)) rfl ?_;refine zE ?_;refine Cd (λc0=>?_) λc0=>?_
 ·
  have hno:mz code=none:=by simpa using c0
  have hnm:=Cs hno;refine Z9 ?_;refine Post.bh rfl rfl () trivial (λ_ _ _ _=>trivial) rfl (.cons (.ra (i:=0) FA.out FC.out rfl rfl rfl rfl) ?_ (.cons (.rt rfl) ?_ .nil))
  · simp only[hnm,Option.getD_none];exact aa.agg (.cons (aa.refl _) (.cons sC (.cons (aa.refl _) (.cons sC (.cons sC .nil)))))
  exact aa.prop (by rw[hnm];simp)
 obtain⟨⟨g,n,b⟩,hno⟩:=Option.isSome_iff_exists.1 (Classical.not_not.1 c0);obtain⟨hn0,hng,hnb⟩:=yR hno;have hnm:=Cr hno;simp only[hno,Option.getD_some];have v5:=GV b;have hlb:=wS GW n.toNat;have hlt:=wS Dy n.toNat;have hlu:=wS Ex n.toNat;refine Z4 ?_;refine .p (bf (.s [105,51,50,46] rfl rfl)) rfl ?_;refine .p (bf (.s [105] rfl rfl)) rfl ?_;refine Z9 ?_;refine Cd (λc1=>?_) λc1=>?_
 ·
  refine Z1 ?_;refine .p (bf (.s [105,54,52,46] rfl rfl)) rfl ?_;refine .p (bf (.s [108] rfl rfl)) rfl ?_;refine dh ?_;refine Cd (λc2=>?_) λc2=>?_
  ·
   refine Z4 ?_;refine .p (cA (h:=uT)) rfl ?_;refine Z1 ?_;refine .p (fL FU.out FC.out FA.out (.t rfl) rfl (.t rfl) (by omega:_=((n.toNat:Nat):Int)) (nQ (by have:Ox.length=15:=rfl;omega))) rfl ?_;refine .p (rY (.t rfl) (.t rfl) (by simp only[List.length_cons,List.length_nil];omega)) rfl ?_;refine Z2 ?_;refine .p (rY (.t rfl) (.t rfl) (by simp only[List.length_cons,List.length_nil];omega)) rfl ?_;refine Z9 ?_;refine Post.bh rfl rfl () trivial (λ_ _ _ _=>trivial) rfl (.cons (.ra (i:=0) FA.out FC.out rfl rfl rfl rfl) ?_ (.cons (.rt rfl) ?_ .nil))
   · simp only[hnm,Option.getD_some];exact aa.of_eq (by simp[mA,iC,nH,oX, *];try rfl)
   exact aa.prop (by rw[hnm];simp)
  refine Z7 ?_;refine Cd (λc3=>?_) λc3=>?_
  ·
   refine Z4 ?_;refine .p (cA (h:=BV)) rfl ?_;refine Z1 ?_;refine .p (fL FU.out FC.out FA.out (.t rfl) rfl (.t rfl) (by omega:_=((n.toNat:Nat):Int)) (nQ (by have:Dw.length=10:=rfl;omega))) rfl ?_;refine .p (rY (.t rfl) (.t rfl) (by simp only[List.length_cons,List.length_nil];omega)) rfl ?_;refine Z2 ?_;refine .p (rY (.t rfl) (.t rfl) (by simp only[List.length_cons,List.length_nil];omega)) rfl ?_;refine .p (aL FP.out FZ.out (.cons (.t rfl) (.cons (.t rfl) (.cons (.c _) (.cons (.t rfl) (.cons (.s [105] rfl rfl) .nil))))) rfl) rfl ?_;refine Z7 ?_;refine Post.bh rfl rfl () trivial (λ_ _ _ _=>trivial) rfl (.cons (.ra (i:=0) FA.out FC.out rfl rfl rfl rfl) ?_ (.cons (.rt rfl) ?_ .nil))
   · simp only[hnm,Option.getD_some];exact aa.of_eq (by simp[mA,iC,nH,oX, *];try rfl)
   exact aa.prop (by rw[hnm];simp)
  refine Z7 ?_;refine Cd (λc4=>?_) λc4=>?_
  ·
   refine Z4 ?_;refine .p (cA (h:=nU)) rfl ?_;refine Z1 ?_;refine .p (fL FU.out FC.out FA.out (.t rfl) rfl (.t rfl) (by omega:_=((n.toNat:Nat):Int)) (nQ (by have:UU.length=4:=rfl;omega))) rfl ?_;refine .p (rY (.t rfl) (.t rfl) (by simp only[List.length_cons,List.length_nil];omega)) rfl ?_;refine Z1 ?_;refine .p (aL FP.out FZ.out (.cons (.t rfl) (.cons (.t rfl) (.cons (.c _) (.cons (.t rfl) (.cons (.s [105] rfl rfl) .nil))))) rfl) rfl ?_;refine Z7 ?_;refine Post.bh rfl rfl () trivial (λ_ _ _ _=>trivial) rfl (.cons (.ra (i:=0) FA.out FC.out rfl rfl rfl rfl) ?_ (.cons (.rt rfl) ?_ .nil))
   · simp only[hnm,Option.getD_some];exact aa.of_eq (by simp[mA,iC,nH,oX, *];try rfl)
   exact aa.prop (by rw[hnm];simp)
  refine Z7 ?_;refine .p (cA (h:=nU)) rfl ?_;refine Z1 ?_;refine .p (fL FU.out FC.out FA.out (.t rfl) rfl (.t rfl) (by omega:_=((n.toNat:Nat):Int)) (nQ (by have:UU.length=4:=rfl;omega))) rfl ?_;refine .p (rY (.t rfl) (.t rfl) (by simp only[List.length_cons,List.length_nil];omega)) rfl ?_;refine Z8 ?_;refine Post.bh rfl rfl () trivial (λ_ _ _ _=>trivial) rfl (.cons (.ra (i:=0) FA.out FC.out rfl rfl rfl rfl) ?_ (.cons (.rt rfl) ?_ .nil))
  · simp only[hnm,Option.getD_some];exact aa.of_eq (by simp[mA,iC,nH,oX, *];try rfl)
  exact aa.prop (by rw[hnm];simp)
 refine dh ?_;refine Cd (λc5=>?_) λc5=>?_
 ·
  refine Z4 ?_;refine .p (cA (h:=uT)) rfl ?_;refine Z1 ?_;refine .p (fL FU.out FC.out FA.out (.t rfl) rfl (.t rfl) (by omega:_=((n.toNat:Nat):Int)) (nQ (by have:Ox.length=15:=rfl;omega))) rfl ?_;refine .p (rY (.t rfl) (.t rfl) (by simp only[List.length_cons,List.length_nil];omega)) rfl ?_;refine Z2 ?_;refine .p (rY (.t rfl) (.t rfl) (by simp only[List.length_cons,List.length_nil];omega)) rfl ?_;refine Z9 ?_;refine Post.bh rfl rfl () trivial (λ_ _ _ _=>trivial) rfl (.cons (.ra (i:=0) FA.out FC.out rfl rfl rfl rfl) ?_ (.cons (.rt rfl) ?_ .nil))
  · simp only[hnm,Option.getD_some];exact aa.of_eq (by simp[mA,iC,nH,oX, *];try rfl)
  exact aa.prop (by rw[hnm];simp)
 refine Z7 ?_;refine Cd (λc6=>?_) λc6=>?_
 ·
  refine Z4 ?_;refine .p (cA (h:=BV)) rfl ?_;refine Z1 ?_;refine .p (fL FU.out FC.out FA.out (.t rfl) rfl (.t rfl) (by omega:_=((n.toNat:Nat):Int)) (nQ (by have:Dw.length=10:=rfl;omega))) rfl ?_;refine .p (rY (.t rfl) (.t rfl) (by simp only[List.length_cons,List.length_nil];omega)) rfl ?_;refine Z2 ?_;refine .p (rY (.t rfl) (.t rfl) (by simp only[List.length_cons,List.length_nil];omega)) rfl ?_;refine .p (aL FP.out FZ.out (.cons (.t rfl) (.cons (.t rfl) (.cons (.c _) (.cons (.t rfl) (.cons (.s [105] rfl rfl) .nil))))) rfl) rfl ?_;refine Z7 ?_;refine Post.bh rfl rfl () trivial (λ_ _ _ _=>trivial) rfl (.cons (.ra (i:=0) FA.out FC.out rfl rfl rfl rfl) ?_ (.cons (.rt rfl) ?_ .nil))
  · simp only[hnm,Option.getD_some];exact aa.of_eq (by simp[mA,iC,nH,oX, *];try rfl)
  exact aa.prop (by rw[hnm];simp)
 refine Z7 ?_;refine Cd (λc7=>?_) λc7=>?_
 ·
  refine Z4 ?_;refine .p (cA (h:=nU)) rfl ?_;refine Z1 ?_;refine .p (fL FU.out FC.out FA.out (.t rfl) rfl (.t rfl) (by omega:_=((n.toNat:Nat):Int)) (nQ (by have:UU.length=4:=rfl;omega))) rfl ?_;refine .p (rY (.t rfl) (.t rfl) (by simp only[List.length_cons,List.length_nil];omega)) rfl ?_;refine Z1 ?_;refine .p (aL FP.out FZ.out (.cons (.t rfl) (.cons (.t rfl) (.cons (.c _) (.cons (.t rfl) (.cons (.s [105] rfl rfl) .nil))))) rfl) rfl ?_;refine Z7 ?_;refine Post.bh rfl rfl () trivial (λ_ _ _ _=>trivial) rfl (.cons (.ra (i:=0) FA.out FC.out rfl rfl rfl rfl) ?_ (.cons (.rt rfl) ?_ .nil))
  · simp only[hnm,Option.getD_some];exact aa.of_eq (by simp[mA,iC,nH,oX, *];try rfl)
  exact aa.prop (by rw[hnm];simp)
 refine Z7 ?_;refine .p (cA (h:=nU)) rfl ?_;refine Z1 ?_;refine .p (fL FU.out FC.out FA.out (.t rfl) rfl (.t rfl) (by omega:_=((n.toNat:Nat):Int)) (nQ (by have:UU.length=4:=rfl;omega))) rfl ?_;refine .p (rY (.t rfl) (.t rfl) (by simp only[List.length_cons,List.length_nil];omega)) rfl ?_;refine Z8 ?_;refine Post.bh rfl rfl () trivial (λ_ _ _ _=>trivial) rfl (.cons (.ra (i:=0) FA.out FC.out rfl rfl rfl rfl) ?_ (.cons (.rt rfl) ?_ .nil))
 · simp only[hnm,Option.getD_some];exact aa.of_eq (by simp[mA,iC,nH,oX, *];try rfl)
 exact aa.prop (by rw[hnm];simp)
theorem Nz:dF Wo 226 [af .i64 code] (aZ [aC (iC ((uC code).getD WY)),av (uC code).isSome]):=by
 refine In 32 Tryz.func226 λ_ _ _=>?_;refine Z2 ?_;refine .n (au FZ.out) rfl λb2 _=>?_;refine Z6 ?_;refine .p (cA (h:=PC)) rfl ?_;refine Z4 ?_;refine .bk (σ:=Nat) (λ_=>_) (λk=>[(9,af .i64 (k:Int))]) (λk=>k<=jz.length/\dJ (λr:oH=>r.code=code) jz k) (λk=>jz.length-k) 0 ⟨by omega,dJ.zero _ _⟩ rfl ?_ ?_
 · exact(.get rfl (aa.refl _) (.refl _ _))
 rintro k ⟨hk,hn⟩;refine Z6 ?_;refine Cd (λc0=>?_) λc0=>?_
 ·
  have II:k<jz.length:=by have:jz.length=47:=rfl;omega
  obtain⟨x,JE⟩:=ah (xs:=jz) (k:=k) II;refine Z6 ?_;refine .p (wq jz FU.out FC.out rfl FA.out (.t rfl) rfl rfl (.t rfl) rfl (by assumption)) rfl ?_;refine .n (au FZ.out) rfl λb5 _=>?_;refine Z3 ?_;refine .share (t:=5) (i:=0) rfl rfl ?_;refine Z8 ?_;refine Cd (λc1=>?_) λc1=>?_
  ·
   have hro:=Yd JE c1 hn;refine kL ?_;refine Post.bh rfl rfl () trivial (λ_ _ _ _=>trivial) rfl (.cons (.ra (i:=0) FA.out FC.out rfl rfl rfl rfl) ?_ (.cons (.rt rfl) ?_ .nil))
   · rw[hro];exact aa.refl _
   exact aa.prop (by rw[hro];simp)
  refine Z7 ?_;refine .round (k+1) ⟨by omega,hn.succ JE c1⟩ (by omega) rfl ?_;exact(.get rfl (aa.int (by omega)) (.keep 11 rfl rfl))
 have XH:k=jz.length:=by have:jz.length=47:=rfl;omega
 subst XH;refine Z8 ?_;refine .p (cA (h:=PD)) rfl ?_;refine Z4 ?_;refine .bk (σ:=Nat) (λ_=>_) (λj=>[(19,af .i64 (j:Int))]) (λj=>j<=j9.length/\dJ (λr:oH=>r.code=code) j9 j) (λj=>j9.length-j) 0 ⟨by omega,dJ.zero _ _⟩ rfl ?_ ?_
 · exact(.get rfl (aa.refl _) (.refl _ _))
 rintro j ⟨hj,hm⟩;refine Z6 ?_;refine Cd (λc2=>?_) λc2=>?_
 ·
  have aM2:j<j9.length:=by have:j9.length=6:=rfl;omega
  obtain⟨y,hxj⟩:=ah (xs:=j9) (k:=j) aM2;refine Z6 ?_;refine .p (wq j9 FU.out FC.out rfl FA.out (.t rfl) rfl rfl (.t rfl) rfl (by assumption)) rfl ?_;refine .n (au FZ.out) rfl λb7 _=>?_;refine Z3 ?_;refine .share (t:=7) (i:=0) rfl rfl ?_;refine Z8 ?_;refine Cd (λc3=>?_) λc3=>?_
  ·
   have hro:=Ye hn hxj c3 hm;refine kL ?_;refine Post.bh rfl rfl () trivial (λ_ _ _ _=>trivial) rfl (.cons (.ra (i:=0) FA.out FC.out rfl rfl rfl rfl) ?_ (.cons (.rt rfl) ?_ .nil))
   · rw[hro];exact aa.refl _
   exact aa.prop (by rw[hro];simp)
  refine Z7 ?_;refine .round (j+1) ⟨by omega,hm.succ hxj c3⟩ (by omega) rfl ?_;exact(.get rfl (aa.int (by omega)) (.keep 11 rfl rfl))
 have hej:j=j9.length:=by have:j9.length=6:=rfl;omega
 subst hej;refine Z8 ?_;refine .p (cA (h:=CM)) rfl ?_;refine Z7 ?_;refine Post.bh rfl rfl () trivial (λ_ _ _ _=>trivial) rfl (.cons (.ra (i:=0) FA.out FC.out rfl rfl rfl rfl) ?_ (.cons (.rt rfl) ?_ .nil))
 · rw[RO hn hm];exact aa.refl _
 exact aa.prop (by rw[RO hn hm])
theorem vP(ak:r8 l)(aR:l.length<=65536):dF Wo 285 [dV l] (ai 1 an (iE l)):=by
 refine In 20 Tryz.func285 λ_ _ _=>?_;refine ij ?_;refine .n (Gw FU.out (.t rfl)) rfl λb7 _=>?_;refine Z3 ?_;refine .fO 1 an ?_;refine .bk (σ:=Nat×SB) (λs=>[aH s.2 1 an (iE (l.take s.1)),Ai b7 l s.1]) (λs=>[(3,ag (bI s.2 (iE (l.take s.1)).length))]) (λs=>s.1<=l.length) (λs=>l.length-s.1) (0,none) (by simp) (by simp[iE]) ?_ ?_
 · exact(.get rfl (aa.of_eq (by simp[bI])) (.refl _ _))
 rintro s hk;have htl:=AL (l.take s.1);have PE:(l.take s.1).length<=l.length:=by simp;omega
 refine Z2 ?_;refine .n (Mr (i:=1) ak (by omega) (.t rfl) rfl) rfl λ_ _=>?_;refine .p (Ms (.t rfl)) rfl ?_;refine Z3 ?_;refine Cd (λc0=>?_) λc0=>?_
 ·
  obtain⟨x,hx⟩:=ah (xs:=l) (k:=s.1) c0;rw[show min (s.1+1) l.length=s.1+1 by omega];refine Z5 ?_;refine .p (Mt (by assumption) (.t rfl)) rfl ?_;refine Z9 ?_;refine Cd (λc1=>?_) λc1=>?_
  ·
   refine Z2 ?_;refine .p (cB an [126]) rfl ?_;refine .n (aK (i:=0) FU.out FU.out FC.out rfl FZ.out rfl FY.out (.t rfl) (.t rfl) rfl (by first|omega|(simp<;>omega)) (by first|omega|(simp<;>omega))) rfl λyx _=>?_;refine Z3 ?_;refine .round (s.1+1,(by first|exact yx|exact zT)) (by omega) (by omega) (by first|(rw[mX hx c1];rfl)|(rw[mY hx c1];rfl)) ?_
   first|exact(.get rfl (aa.of_eq (by rw[mX hx c1])) (.keep 11 rfl rfl))|exact(.get rfl (aa.of_eq (by rw[mY hx c1])) (.keep 11 rfl rfl))
  refine Z2 ?_;refine .p (cB an [127]) rfl ?_;refine .n (aK (i:=0) FU.out FU.out FC.out rfl FZ.out rfl FY.out (.t rfl) (.t rfl) rfl (by first|omega|(simp<;>omega)) (by first|omega|(simp<;>omega))) rfl λzT _=>?_;refine Z3 ?_;refine .round (s.1+1,(by first|exact yx|exact zT)) (by omega) (by omega) (by first|(rw[mX hx c1];rfl)|(rw[mY hx c1];rfl)) ?_
  first|exact(.get rfl (aa.of_eq (by rw[mX hx c1])) (.keep 11 rfl rfl))|exact(.get rfl (aa.of_eq (by rw[mY hx c1])) (.keep 11 rfl rfl))
 have hall:l.take s.1=l:=List.take_of_length_le (by omega);rw[hall];refine .eC (n:=1) (enc:=an) (i:=0) (t:=3) rfl rfl ?_;refine eB ?_;refine br ?_;exact aa.refl _
theorem PF{r:oH}(ak:GS r):dF Wo 227 [aC (iC r)] (aC (uh (vm r))):=by
 refine In 16 Tryz.func227 λ_ _ _=>?_;refine Z3 ?_;refine .n (au FZ.out) rfl λb2 _=>?_;refine Z3 ?_;refine .bL 12 2 FM.out (by kernel_rfl) (k:= ?_);refine Z8 ?_;refine .p (cA (h:=vP ak.1 (by have:=ak.2.2.1;omega))) ?_;refine Z2 ?_;refine .p (cA (h:=vP ak.2.1 (by have:=ak.2.2.2;omega))) ?_;refine Z6 ?_;refine Post.aS rfl () trivial (λ_ _ _ _=>trivial) (.ra (i:=0) FA.out FC.out rfl rfl rfl rfl) ?_;exact aa.refl _
theorem find_spec:dF Wo 167 [af .i64 code] (aZ [aC (uh ((eZ code).getD RL)),av (eZ code).isSome]):=by
 refine In 16 Tryz.func167 λ_ _ _=>?_;refine Z2 ?_;refine .n (au FZ.out) rfl λb2 _=>?_;refine Z6 ?_;refine .p (cA (h:=Nz)) rfl ?_;refine Z3 ?_;refine .n (au FZ.out) rfl λb4 _=>?_;refine Z4 ?_;refine .share (t:=4) (i:=0) rfl rfl ?_;refine Z7 ?_;refine Cd (λc0=>?_) λc0=>?_
 ·
  have hro:uC code=none:=by simpa using c0
  have xJ:eZ code=none:=by unfold eZ;rw[hro];rfl
  refine Z9 ?_;refine Post.bh rfl rfl () trivial (λ_ _ _ _=>trivial) rfl (.cons (.ra (i:=0) FA.out FC.out rfl rfl rfl rfl) ?_ (.cons (.rt rfl) ?_ .nil))
  · rw[xJ];exact aa.agg (.cons (aa.refl _) (.cons sC (.cons (aa.refl _) (.cons (aE _ _) (.cons (aE _ _) .nil)))))
  exact aa.prop (by rw[xJ];simp)
 obtain⟨r,hro⟩:=Option.isSome_iff_exists.1 (Classical.not_not.1 c0);have xJ:eZ code=some (vm r):=by unfold eZ;rw[hro];rfl
 have hok:=MQ hro;simp only[hro,Option.getD_some];refine Z5 ?_;refine .p (cA (h:=PF hok)) rfl ?_;refine Z5 ?_;refine Post.bh rfl rfl () trivial (λ_ _ _ _=>trivial) rfl (.cons (.ra (i:=0) FA.out FC.out rfl rfl rfl rfl) ?_ (.cons (.rt rfl) ?_ .nil))
 · rw[xJ];exact aa.refl _
 exact aa.prop (by rw[xJ];simp)
theorem Lg:dF Wo 169 [af .i64 code] (aZ [af .i64 ((jL code).getD 0),av (jL code).isSome]):=by
 refine In 47 Tryz.func169 λ_ _ _=>?_;refine Z9 ?_;refine .p (cA (h:=find_spec)) rfl ?_;refine Z3 ?_;refine .n (au FZ.out) rfl λb4 _=>?_;refine Z4 ?_;refine .share (t:=4) (i:=0) rfl rfl ?_;refine eB ?_;refine Cd (λc0=>?_) λc0=>?_
 ·
  have VW:jL code=none:=by
   cases hf:eZ code with
   |none=>exact yT hf
   |some x=>
    refine GX hf (λh8=>?_);rw[hf] at c0;simp[h8] at c0
  refine Z8 ?_;refine eA ?_ ?_
  · exact aa.int (by rw[VW];rfl)
  exact aa.prop (by rw[VW];simp)
 obtain⟨x,xJ⟩:∃x,eZ code=some x:=Option.isSome_iff_exists.1 (Classical.byContradiction λh=>c0 (.inl h));simp only[xJ,Option.getD_some] at c0 ⊢;have hf8:x.Form=8:=by simpa using c0
 have VW:=Kn xJ hf8;obtain⟨hne,hnl⟩:=UY xJ;refine Z5 ?_;refine .p (fy (cs:=jA.flatMap kO) FR.out FZ.out (.cons (.s [56] rfl rfl) (.cons (.s [49,54] rfl rfl) (.cons (.s [51,50] rfl rfl) .nil))) rfl) rfl ?_;refine Z4 ?_;refine .bk (σ:=Nat) (λ_=>[]) (λk=>[(24,af .i64 (k:Int))]) (λk=>k<=jA.length/\dJ (λs=>nr (AK x.Name) s) jA k) (λk=>jA.length-k) 0 ⟨by omega,dJ.zero _ _⟩ rfl ?_ ?_
 · exact(.get rfl (aa.refl _) (.refl _ _))
 rintro k ⟨hk,hn⟩;refine Z6 ?_;refine Cd (λc1=>?_) λc1=>?_
 ·
  have II:k<jA.length:=by have:jA.length=3:=rfl;omega
  obtain⟨s,JE⟩:=ah (xs:=jA) (k:=k) II;have hgk:jA.getD k []=s:=by rw[List.getD_eq_getElem?_getD,JE];rfl
  refine Z7 ?_;refine .p (fL FU.out FC.out FA.out (.t rfl) rfl (.t rfl) rfl (nQ II)) rfl ?_;refine Z8 ?_;refine .p (cg (Ti hne) FB.out (.cons (.t rfl) (.cons (.s [46] rfl rfl) .nil))) rfl ?_;refine eB ?_;refine .p (cg (sn) FB.out (.cons (.t rfl) (.cons (.s [95,115] rfl rfl) .nil))) rfl ?_;refine .p (cg (sn) FB.out (.cons (.t rfl) (.cons (.s [95,117] rfl rfl) .nil))) rfl ?_;refine Z7 ?_;refine .p (cA (h:=BT)) rfl ?_;refine Z2 ?_;refine Cd (λc2=>?_) λc2=>?_
  ·
   rw[hgk] at c2;refine Z3 ?_;refine .p (Mu (.c _) (.t rfl) (by have h3:k<3:=II;show k<=64;omega)) rfl ?_;refine cC ?_;refine eA ?_ ?_
   · exact aa.int (by rw[VW,OB JE c2 hn];exact aK8 II)
   exact aa.prop (by rw[VW];simp)
  rw[hgk] at c2;refine Z7 ?_;refine .round (k+1) ⟨by omega,hn.succ JE c2⟩ (by omega) rfl ?_;exact(.get rfl (aa.int (by omega)) (.keep 25 rfl rfl))
 have XH:k=jA.length:=by have:jA.length=3:=rfl;omega
 subst XH;refine cC ?_;refine .p (cg (BU) FB.out (.cons (.t rfl) (.cons (.s [105,54,52] rfl rfl) .nil))) rfl ?_;refine Z2 ?_;refine Cd (λc3=>?_) λc3=>?_
 ·
  refine Z8 ?_;refine eA ?_ ?_
  · exact aa.int (by rw[VW,Dz hn,if_pos (by assumption)];rfl)
  exact aa.prop (by rw[VW];simp)
 refine Z9 ?_;refine eA ?_ ?_
 · exact aa.int (by rw[VW,Dz hn,if_neg (by assumption)];rfl)
 exact aa.prop (by rw[VW];simp)
theorem Fk:dF Wo 182 [aC (aB x)] (nV (kQ x.Code)):=by
 refine In 22 Tryz.func182 λ_ _ _=>?_;refine cC ?_;refine .p (cA (h:=find_spec)) rfl ?_;refine Z3 ?_;refine .n (au FZ.out) rfl λb3 _=>?_;refine ij ?_;refine .g (de.gT rfl rfl rfl rfl (λhg=>aW (j:=0) FU.out FC.out rfl (.when (.t rfl) hg) (.c _) rfl (N0 hg))) rfl rfl ?_;refine Z5 ?_;refine Cd (λc0=>?_) λc0=>?_
 ·
  refine Z7 ?_;refine br ?_;exact aa.int (by unfold kQ dY;rw[if_pos (SA.2 c0)];rfl)
 refine Z8 ?_;refine br ?_;exact aa.int (by unfold kQ dY;rw[if_neg (λh=>c0 (SA.1 h))];rfl)
theorem PG{c:Int}:dF Wo 180 [af .i64 c] (aZ [nV (aD c).1,av (aD c).2]):=by
 refine In 17 Tryz.func180 λ_ _ _=>?_;refine J2 ?_;refine Cd (λc0=>?_) λc0=>?_
 ·
  refine Z2 ?_;refine Cd (λc1=>?_) λc1=>?_
  ·
   refine dh ?_;refine eA ?_ ?_
   · first|(exfalso;omega)|exact aa.int (by unfold aD;(repeat (first|rw[if_pos (by omega)]|rw[if_neg (by omega)]));first|done|rfl)
   first|(exfalso;omega)|exact aa.prop (by unfold aD;(repeat (first|rw[if_pos (by omega)]|rw[if_neg (by omega)]));first|done|(simp;done)|(simp;omega))
  refine Z7 ?_;refine Cd (λc2=>?_) λc2=>?_
  ·
   refine Z2 ?_;refine Cd (λc3=>?_) λc3=>?_
   ·
    refine Z9 ?_;refine eA ?_ ?_
    · first|(exfalso;omega)|exact aa.int (by unfold aD;(repeat (first|rw[if_pos (by omega)]|rw[if_neg (by omega)]));first|done|rfl)
    first|(exfalso;omega)|exact aa.prop (by unfold aD;(repeat (first|rw[if_pos (by omega)]|rw[if_neg (by omega)]));first|done|(simp;done)|(simp;omega))
   refine Z7 ?_;refine Cd (λc4=>?_) λc4=>?_
   ·
    refine Z2 ?_;refine Cd (λc5=>?_) λc5=>?_
    ·
     refine Z9 ?_;refine eA ?_ ?_
     · first|(exfalso;omega)|exact aa.int (by unfold aD;(repeat (first|rw[if_pos (by omega)]|rw[if_neg (by omega)]));first|done|rfl)
     first|(exfalso;omega)|exact aa.prop (by unfold aD;(repeat (first|rw[if_pos (by omega)]|rw[if_neg (by omega)]));first|done|(simp;done)|(simp;omega))
    refine cC ?_;refine eA ?_ ?_
    · first|(exfalso;omega)|exact aa.int (by unfold aD;(repeat (first|rw[if_pos (by omega)]|rw[if_neg (by omega)]));first|done|rfl)
    first|(exfalso;omega)|exact aa.prop (by unfold aD;(repeat (first|rw[if_pos (by omega)]|rw[if_neg (by omega)]));first|done|(simp;done)|(simp;omega))
   refine Z5 ?_;refine Cd (λc6=>?_) λc6=>?_
   ·
    refine Z9 ?_;refine eA ?_ ?_
    · first|(exfalso;omega)|exact aa.int (by unfold aD;(repeat (first|rw[if_pos (by omega)]|rw[if_neg (by omega)]));first|done|rfl)
    first|(exfalso;omega)|exact aa.prop (by unfold aD;(repeat (first|rw[if_pos (by omega)]|rw[if_neg (by omega)]));first|done|(simp;done)|(simp;omega))
   refine cC ?_;refine eA ?_ ?_
   · first|(exfalso;omega)|exact aa.int (by unfold aD;(repeat (first|rw[if_pos (by omega)]|rw[if_neg (by omega)]));first|done|rfl)
   first|(exfalso;omega)|exact aa.prop (by unfold aD;(repeat (first|rw[if_pos (by omega)]|rw[if_neg (by omega)]));first|done|(simp;done)|(simp;omega))
  refine Z5 ?_;refine Cd (λc7=>?_) λc7=>?_
  ·
   refine Z9 ?_;refine eA ?_ ?_
   · first|(exfalso;omega)|exact aa.int (by unfold aD;(repeat (first|rw[if_pos (by omega)]|rw[if_neg (by omega)]));first|done|rfl)
   first|(exfalso;omega)|exact aa.prop (by unfold aD;(repeat (first|rw[if_pos (by omega)]|rw[if_neg (by omega)]));first|done|(simp;done)|(simp;omega))
  refine Z7 ?_;refine Cd (λc8=>?_) λc8=>?_
  ·
   refine Z2 ?_;refine Cd (λc9=>?_) λc9=>?_
   ·
    refine Z9 ?_;refine eA ?_ ?_
    · first|(exfalso;omega)|exact aa.int (by unfold aD;(repeat (first|rw[if_pos (by omega)]|rw[if_neg (by omega)]));first|done|rfl)
    first|(exfalso;omega)|exact aa.prop (by unfold aD;(repeat (first|rw[if_pos (by omega)]|rw[if_neg (by omega)]));first|done|(simp;done)|(simp;omega))
   refine cC ?_;refine eA ?_ ?_
   · first|(exfalso;omega)|exact aa.int (by unfold aD;(repeat (first|rw[if_pos (by omega)]|rw[if_neg (by omega)]));first|done|rfl)
   first|(exfalso;omega)|exact aa.prop (by unfold aD;(repeat (first|rw[if_pos (by omega)]|rw[if_neg (by omega)]));first|done|(simp;done)|(simp;omega))
  refine Z5 ?_;refine Cd (λlZ=>?_) λlZ=>?_
  ·
   refine Z9 ?_;refine eA ?_ ?_
   · first|(exfalso;omega)|exact aa.int (by unfold aD;(repeat (first|rw[if_pos (by omega)]|rw[if_neg (by omega)]));first|done|rfl)
   first|(exfalso;omega)|exact aa.prop (by unfold aD;(repeat (first|rw[if_pos (by omega)]|rw[if_neg (by omega)]));first|done|(simp;done)|(simp;omega))
  refine cC ?_;refine eA ?_ ?_
  · first|(exfalso;omega)|exact aa.int (by unfold aD;(repeat (first|rw[if_pos (by omega)]|rw[if_neg (by omega)]));first|done|rfl)
  first|(exfalso;omega)|exact aa.prop (by unfold aD;(repeat (first|rw[if_pos (by omega)]|rw[if_neg (by omega)]));first|done|(simp;done)|(simp;omega))
 refine Z6 ?_;refine Cd (λn8=>?_) λn8=>?_
 ·
  refine Z2 ?_;refine Cd (λqB=>?_) λqB=>?_
  ·
   refine dh ?_;refine eA ?_ ?_
   · first|(exfalso;omega)|exact aa.int (by unfold aD;(repeat (first|rw[if_pos (by omega)]|rw[if_neg (by omega)]));first|done|rfl)
   first|(exfalso;omega)|exact aa.prop (by unfold aD;(repeat (first|rw[if_pos (by omega)]|rw[if_neg (by omega)]));first|done|(simp;done)|(simp;omega))
  refine Z7 ?_;refine Cd (λv8=>?_) λv8=>?_
  ·
   refine Z2 ?_;refine Cd (λs7=>?_) λs7=>?_
   ·
    refine Z9 ?_;refine eA ?_ ?_
    · first|(exfalso;omega)|exact aa.int (by unfold aD;(repeat (first|rw[if_pos (by omega)]|rw[if_neg (by omega)]));first|done|rfl)
    first|(exfalso;omega)|exact aa.prop (by unfold aD;(repeat (first|rw[if_pos (by omega)]|rw[if_neg (by omega)]));first|done|(simp;done)|(simp;omega))
   refine Z7 ?_;refine Cd (λwg=>?_) λwg=>?_
   ·
    refine Z2 ?_;refine Cd (λvQ=>?_) λvQ=>?_
    ·
     refine Z9 ?_;refine eA ?_ ?_
     · first|(exfalso;omega)|exact aa.int (by unfold aD;(repeat (first|rw[if_pos (by omega)]|rw[if_neg (by omega)]));first|done|rfl)
     first|(exfalso;omega)|exact aa.prop (by unfold aD;(repeat (first|rw[if_pos (by omega)]|rw[if_neg (by omega)]));first|done|(simp;done)|(simp;omega))
    refine cC ?_;refine eA ?_ ?_
    · first|(exfalso;omega)|exact aa.int (by unfold aD;(repeat (first|rw[if_pos (by omega)]|rw[if_neg (by omega)]));first|done|rfl)
    first|(exfalso;omega)|exact aa.prop (by unfold aD;(repeat (first|rw[if_pos (by omega)]|rw[if_neg (by omega)]));first|done|(simp;done)|(simp;omega))
   refine Z5 ?_;refine Cd (λQH=>?_) λQH=>?_
   ·
    refine Z9 ?_;refine eA ?_ ?_
    · first|(exfalso;omega)|exact aa.int (by unfold aD;(repeat (first|rw[if_pos (by omega)]|rw[if_neg (by omega)]));first|done|rfl)
    first|(exfalso;omega)|exact aa.prop (by unfold aD;(repeat (first|rw[if_pos (by omega)]|rw[if_neg (by omega)]));first|done|(simp;done)|(simp;omega))
   refine cC ?_;refine eA ?_ ?_
   · first|(exfalso;omega)|exact aa.int (by unfold aD;(repeat (first|rw[if_pos (by omega)]|rw[if_neg (by omega)]));first|done|rfl)
   first|(exfalso;omega)|exact aa.prop (by unfold aD;(repeat (first|rw[if_pos (by omega)]|rw[if_neg (by omega)]));first|done|(simp;done)|(simp;omega))
  refine Z5 ?_;refine Cd (λLh=>?_) λLh=>?_
  ·
   refine Z9 ?_;refine eA ?_ ?_
   · first|(exfalso;omega)|exact aa.int (by unfold aD;(repeat (first|rw[if_pos (by omega)]|rw[if_neg (by omega)]));first|done|rfl)
   first|(exfalso;omega)|exact aa.prop (by unfold aD;(repeat (first|rw[if_pos (by omega)]|rw[if_neg (by omega)]));first|done|(simp;done)|(simp;omega))
  refine Z7 ?_;refine Cd (λUf=>?_) λUf=>?_
  ·
   refine Z2 ?_;refine Cd (λPI=>?_) λPI=>?_
   ·
    refine Z9 ?_;refine eA ?_ ?_
    · first|(exfalso;omega)|exact aa.int (by unfold aD;(repeat (first|rw[if_pos (by omega)]|rw[if_neg (by omega)]));first|done|rfl)
    first|(exfalso;omega)|exact aa.prop (by unfold aD;(repeat (first|rw[if_pos (by omega)]|rw[if_neg (by omega)]));first|done|(simp;done)|(simp;omega))
   refine cC ?_;refine eA ?_ ?_
   · first|(exfalso;omega)|exact aa.int (by unfold aD;(repeat (first|rw[if_pos (by omega)]|rw[if_neg (by omega)]));first|done|rfl)
   first|(exfalso;omega)|exact aa.prop (by unfold aD;(repeat (first|rw[if_pos (by omega)]|rw[if_neg (by omega)]));first|done|(simp;done)|(simp;omega))
  refine Z5 ?_;refine Cd (λVX=>?_) λVX=>?_
  ·
   refine Z9 ?_;refine eA ?_ ?_
   · first|(exfalso;omega)|exact aa.int (by unfold aD;(repeat (first|rw[if_pos (by omega)]|rw[if_neg (by omega)]));first|done|rfl)
   first|(exfalso;omega)|exact aa.prop (by unfold aD;(repeat (first|rw[if_pos (by omega)]|rw[if_neg (by omega)]));first|done|(simp;done)|(simp;omega))
  refine cC ?_;refine eA ?_ ?_
  · first|(exfalso;omega)|exact aa.int (by unfold aD;(repeat (first|rw[if_pos (by omega)]|rw[if_neg (by omega)]));first|done|rfl)
  first|(exfalso;omega)|exact aa.prop (by unfold aD;(repeat (first|rw[if_pos (by omega)]|rw[if_neg (by omega)]));first|done|(simp;done)|(simp;omega))
 refine Z5 ?_;refine Cd (λQI=>?_) λQI=>?_
 ·
  refine dh ?_;refine eA ?_ ?_
  · first|(exfalso;omega)|exact aa.int (by unfold aD;(repeat (first|rw[if_pos (by omega)]|rw[if_neg (by omega)]));first|done|rfl)
  first|(exfalso;omega)|exact aa.prop (by unfold aD;(repeat (first|rw[if_pos (by omega)]|rw[if_neg (by omega)]));first|done|(simp;done)|(simp;omega))
 refine Z7 ?_;refine Cd (λYY=>?_) λYY=>?_
 ·
  refine Z2 ?_;refine Cd (λc24=>?_) λc24=>?_
  ·
   refine Z9 ?_;refine eA ?_ ?_
   · first|(exfalso;omega)|exact aa.int (by unfold aD;(repeat (first|rw[if_pos (by omega)]|rw[if_neg (by omega)]));first|done|rfl)
   first|(exfalso;omega)|exact aa.prop (by unfold aD;(repeat (first|rw[if_pos (by omega)]|rw[if_neg (by omega)]));first|done|(simp;done)|(simp;omega))
  refine Z7 ?_;refine Cd (λc25=>?_) λc25=>?_
  ·
   refine Z2 ?_;refine Cd (λc26=>?_) λc26=>?_
   ·
    refine Z9 ?_;refine eA ?_ ?_
    · first|(exfalso;omega)|exact aa.int (by unfold aD;(repeat (first|rw[if_pos (by omega)]|rw[if_neg (by omega)]));first|done|rfl)
    first|(exfalso;omega)|exact aa.prop (by unfold aD;(repeat (first|rw[if_pos (by omega)]|rw[if_neg (by omega)]));first|done|(simp;done)|(simp;omega))
   refine cC ?_;refine eA ?_ ?_
   · first|(exfalso;omega)|exact aa.int (by unfold aD;(repeat (first|rw[if_pos (by omega)]|rw[if_neg (by omega)]));first|done|rfl)
   first|(exfalso;omega)|exact aa.prop (by unfold aD;(repeat (first|rw[if_pos (by omega)]|rw[if_neg (by omega)]));first|done|(simp;done)|(simp;omega))
  refine Z5 ?_;refine Cd (λc27=>?_) λc27=>?_
  ·
   refine Z9 ?_;refine eA ?_ ?_
   · first|(exfalso;omega)|exact aa.int (by unfold aD;(repeat (first|rw[if_pos (by omega)]|rw[if_neg (by omega)]));first|done|rfl)
   first|(exfalso;omega)|exact aa.prop (by unfold aD;(repeat (first|rw[if_pos (by omega)]|rw[if_neg (by omega)]));first|done|(simp;done)|(simp;omega))
  refine cC ?_;refine eA ?_ ?_
  · first|(exfalso;omega)|exact aa.int (by unfold aD;(repeat (first|rw[if_pos (by omega)]|rw[if_neg (by omega)]));first|done|rfl)
  first|(exfalso;omega)|exact aa.prop (by unfold aD;(repeat (first|rw[if_pos (by omega)]|rw[if_neg (by omega)]));first|done|(simp;done)|(simp;omega))
 refine Z5 ?_;refine Cd (λc28=>?_) λc28=>?_
 ·
  refine Z9 ?_;refine eA ?_ ?_
  · first|(exfalso;omega)|exact aa.int (by unfold aD;(repeat (first|rw[if_pos (by omega)]|rw[if_neg (by omega)]));first|done|rfl)
  first|(exfalso;omega)|exact aa.prop (by unfold aD;(repeat (first|rw[if_pos (by omega)]|rw[if_neg (by omega)]));first|done|(simp;done)|(simp;omega))
 refine Z7 ?_;refine Cd (λc29=>?_) λc29=>?_
 ·
  refine Z2 ?_;refine Cd (λc30=>?_) λc30=>?_
  ·
   refine Z9 ?_;refine eA ?_ ?_
   · first|(exfalso;omega)|exact aa.int (by unfold aD;(repeat (first|rw[if_pos (by omega)]|rw[if_neg (by omega)]));first|done|rfl)
   first|(exfalso;omega)|exact aa.prop (by unfold aD;(repeat (first|rw[if_pos (by omega)]|rw[if_neg (by omega)]));first|done|(simp;done)|(simp;omega))
  refine cC ?_;refine eA ?_ ?_
  · first|(exfalso;omega)|exact aa.int (by unfold aD;(repeat (first|rw[if_pos (by omega)]|rw[if_neg (by omega)]));first|done|rfl)
  first|(exfalso;omega)|exact aa.prop (by unfold aD;(repeat (first|rw[if_pos (by omega)]|rw[if_neg (by omega)]));first|done|(simp;done)|(simp;omega))
 refine Z5 ?_;refine Cd (λc31=>?_) λc31=>?_
 ·
  refine Z9 ?_;refine eA ?_ ?_
  · first|(exfalso;omega)|exact aa.int (by unfold aD;(repeat (first|rw[if_pos (by omega)]|rw[if_neg (by omega)]));first|done|rfl)
  first|(exfalso;omega)|exact aa.prop (by unfold aD;(repeat (first|rw[if_pos (by omega)]|rw[if_neg (by omega)]));first|done|(simp;done)|(simp;omega))
 refine cC ?_;refine eA ?_ ?_
 · first|(exfalso;omega)|exact aa.int (by unfold aD;(repeat (first|rw[if_pos (by omega)]|rw[if_neg (by omega)]));first|done|rfl)
 first|(exfalso;omega)|exact aa.prop (by unfold aD;(repeat (first|rw[if_pos (by omega)]|rw[if_neg (by omega)]));first|done|(simp;done)|(simp;omega))
theorem PJ(ak:(dY x.Code).Form≠8/\(dY x.Code).Form≠9/\(dY x.Code).Form≠10):bu Wo 116 [ax b 0,aC (aB x),nV at_] [] (γ:=Unit) (λ_=>True) (λ_=>[]) (λ_=>av False):=by
 refine In 158 Tryz.func116 λ_ _ _=>?_;obtain⟨BW,hn2,YZ⟩:=ak;have hir:dY x.Code=(eZ x.Code).getD RL:=rfl;rw[hir] at BW hn2 YZ;refine cC ?_;refine .p (cA (h:=find_spec)) rfl ?_;refine Z3 ?_;refine .n (au FZ.out) rfl λb7 _=>?_;refine Z22 ?_;refine Cd (λc0=>?_) λc0=>?_
 ·
  refine Z7 ?_;refine Post.aS rfl (()) (by trivial) (aF.cZ [] [0] rfl rfl) (.rt rfl) ?_;exact .z
 exact(c0 ⟨⟨BW,hn2⟩,YZ⟩).elim
theorem Li(ak:oe A K):bu Wo 156 [ax b 0,aC (aB x)] [dZ A K (mE b F bs) m,aX A K c] (γ:=Unit) (λ_=>True) (λ_=>[dZ A K (mE b F bs) m,aX A K c]) (λ_=>wV (cS x c)):=by
 refine In 32 Tryz.func156 λ_ _ _=>?_;refine .r9 λr7=>?_;have zk:=ak.cells;have hcs:=r7.sl;have Xi:=Nl r7.sv (c.stk.length-1);refine Cn ?_;refine Cd (λc0=>?_) λc0=>?_
 ·
  have TR:cS x c=1:=if_neg (by omega);refine Z7 ?_;refine br ?_;exact aa.int (by rw[TR];rfl)
 have TR:cS x c=1+zp (c.stk.length-1) c/64:=if_pos (by omega);have hge:(if 0<=(c.stk.length:Int)-1 then(c.stk[((c.stk.length:Int)-1).toNat]?).getD 0 else 0)=zp (c.stk.length-1) c:=by(unfold zp;by_cases h9:0<=(c.stk.length:Int)-1;(rw[if_pos h9,show((c.stk.length:Int)-1).toNat=c.stk.length-1 by omega]);(rw[if_neg h9,List.getElem?_eq_none (by omega)];rfl))
 refine Z3 ?_;refine .bt [(0,0),(1,0),(2,0),(3,1),(4,0),(5,0),(6,0),(7,1),(8,4),(9,0),(10,4),(11,0),(12,0),(13,0),(14,0)] 15 1 FM.out (by kernel_rfl) (k:= ?_);refine Z8 ?_;refine .a rfl ((hH [_] [1,0] (h:=rN)).same (λ_ _=>aF.perm (Perm.idx [1,0] rfl rfl)) (λ_ _=>aa.refl _)) (λ_ _=>aF.refl _) λ_ _=>?_;refine Z1 ?_;refine .a rfl ((hH [_] [1,0] (h:=DP ak)).same (λ_ _=>aF.perm (Perm.idx [1,0] rfl rfl)) (λ_ _=>aa.refl _)) (λ_ _=>aF.refl _) λ_ _=>?_;refine Z1 ?_;refine .p rfl (λ_=>(dW (.t rfl) rfl).le (aa.int (congrArg Nat.cast hge))) ?_;refine Z2 ?_;refine .fin ?_;refine Z6 ?_;refine .p (ua (b:=64) (a:=zp (c.stk.length-1) c) ⟨by decide,Xi⟩ (.t rfl) (.c _)) rfl ?_;refine .p ((ez (.c _) (.t rfl) bY).le (aa.int (show _=((1+zp (c.stk.length-1) c/64:Nat):Int) by omega))) rfl ?_;refine Z4 ?_;refine br ?_;exact aa.int (by rw[TR])
variable {a:Nat}
theorem Lj(ak:a<18446744073709551616):dF Wo 296 [uV a] (iV (64-(xL a:Int))):=by
 refine In 6 Tryz.func296 λ_ _ _=>?_;have hb:=R0 (a:=a) (n:=64) ak;refine Z8 ?_;refine .p (cA (h:=Bt ak)) rfl ?_;refine Z5 ?_;refine br ?_;exact aa.refl _
theorem Ll(ak:a<18446744073709551616):bu Wo 297 [uV a] [nt 1 .u8 Lib.deBruijn64tab] (γ:=Unit) (λ_=>True) (λ_=>[]) (λ_=>iV (Lib.ctz 64 a:Int)):=by
 refine In 14 Tryz.func297 λ_ _ _=>?_;refine eB ?_;refine Cd (λc0=>?_) λc0=>?_
 ·
  have ha0:a=0:=by omega
  subst ha0;refine Z7 ?_;refine br ?_;exact aa.refl _
 have ha0:a≠0:=by omega
 obtain⟨aM3,hk⟩:=Lib.lowest_bit 64 a ha0 ak;obtain⟨hi,VY⟩:=Lib.deBruijn64_at _ hk;refine Z6 ?_;refine .p ((WK (.t rfl)).le (aa.int (show _=((18446744073709551616-a:Nat):Int) by rw[IntKind.wrap_u64];omega))) rfl ?_;refine .p ((jY (by omega) (by omega) (.t rfl) (.t rfl)).le (aa.int (congrArg Nat.cast aM3))) rfl ?_;refine .p ((Df (a:=2^Lib.ctz 64 a) (b:=285870213051353865) (.t rfl) (.c _)).le (aa.refl _)) rfl ?_;refine .p (kn (s:=58) (.t rfl) (.c _) (by decide)) rfl ?_;refine .p (eD (2^Lib.ctz 64 a*285870213051353865%18446744073709551616/2^58) FU.out FC.out rfl (.g 1) (.t rfl) rfl (by omega)) rfl ?_;refine .p ((N9 (i:=0) FA.out (.t rfl) rfl (by have Va:Lib.deBruijn64tab.length=64:=rfl;rw[Nat.zero_add,Nat.mul_one,Va];exact hi)).le (aa.int (show _=((Lib.ctz 64 a:Nat):Int) from congrArg Nat.cast (by rw[Nat.zero_add,Nat.mul_one];exact VY)))) rfl ?_;refine Z5 ?_;refine br ?_;exact aa.refl _
theorem Lm(ak:a<18446744073709551616):dF Wo 298 [uV a] (iV (fB 64 a:Int)):=by
 refine In 35 Tryz.func298 λ_ _ _=>?_;obtain⟨z1,z2,z3,z4,z5,z6⟩:= @Yx a _ _ _ _ _ ak rfl rfl rfl rfl rfl;generalize hy1:(a/2 &&& 6148914691236517205)+(a &&& 6148914691236517205)=y1 at*;generalize Tj:(y1/4 &&& 3689348814741910323)+(y1 &&& 3689348814741910323)=y2 at*;generalize Y0:(y2/16+y2) &&& 1085102592571150095=y3 at*;refine Z8 ?_;refine .p (kn (s:=1) (.t rfl) (.c _) (by decide)) rfl ?_;refine .p (jY (b:=6148914691236517205) (by omega) (by decide) (.t rfl) (.c _)) rfl ?_;refine Z1 ?_;refine .p (jY (b:=6148914691236517205) (by omega) (by decide) (.t rfl) (.c _)) rfl ?_;refine .p ((mg (.t rfl) (.t rfl)).le (aa.int (show _=(y1:Int) by rw[<-hy1];rw[<-hy1] at z1;exact congrArg Nat.cast (Nat.mod_eq_of_lt z1)))) rfl ?_;refine Z6 ?_;refine .p (kn (s:=2) (.t rfl) (.c _) (by decide)) rfl ?_;refine .p (jY (b:=3689348814741910323) (by omega) (by decide) (.t rfl) (.c _)) rfl ?_;refine Z1 ?_;refine .p (jY (b:=3689348814741910323) (by omega) (by decide) (.t rfl) (.c _)) rfl ?_;refine .p ((mg (.t rfl) (.t rfl)).le (aa.int (show _=(y2:Int) by rw[<-Tj];rw[<-Tj] at z2;exact congrArg Nat.cast (Nat.mod_eq_of_lt z2)))) rfl ?_;refine Z6 ?_;refine .p (kn (s:=4) (.t rfl) (.c _) (by decide)) rfl ?_;refine Z1 ?_;refine .p ((mg (.t rfl) (.t rfl)).le (aa.int (show _=((y2/16+y2:Nat):Int) from congrArg Nat.cast (Nat.mod_eq_of_lt z3)))) rfl ?_;refine .p ((jY (b:=1085102592571150095) (by omega) (by decide) (.t rfl) (.c _)).le (aa.int (congrArg Nat.cast Y0))) rfl ?_;refine Z7 ?_;refine .p (kn (s:=8) (.t rfl) (.c _) (by decide)) rfl ?_;refine .p ((mg (.t rfl) (.t rfl)).le (aa.int (show _=((y3+y3/256:Nat):Int) from congrArg Nat.cast (Nat.mod_eq_of_lt (by omega))))) rfl ?_;refine Z7 ?_;refine .p (kn (s:=16) (.t rfl) (.c _) (by decide)) rfl ?_;refine .p ((mg (.t rfl) (.t rfl)).le (aa.int (show _=(((y3+y3/256)+(y3+y3/256)/65536:Nat):Int) from congrArg Nat.cast (Nat.mod_eq_of_lt (by omega))))) rfl ?_;refine Z7 ?_;refine .p (kn (s:=32) (.t rfl) (.c _) (by decide)) rfl ?_;refine .p ((mg (.t rfl) (.t rfl)).le (aa.int (show _=((((y3+y3/256)+(y3+y3/256)/65536)+((y3+y3/256)+(y3+y3/256)/65536)/4294967296:Nat):Int) from congrArg Nat.cast (Nat.mod_eq_of_lt (by omega))))) rfl ?_;refine Z7 ?_;refine .p (N5 (b:=127) (by omega) (by decide) (.t rfl) (.c _)) rfl ?_;refine Z4 ?_;refine br ?_;exact aa.int (congrArg Nat.cast ((Yy _).trans z5))
variable {k:Int}
theorem IJ(ak:a<4294967296):dF Wo 413 [af .u32 (a:Int),iV k] (af .u32 (vv 32 a (k%32).toNat:Int)):=by
 refine In 17 Tryz.func413 λ_ _ _=>?_;have JC:=Int.emod_nonneg k (show(32:Int)≠0 by decide);have u5:=Int.emod_lt_of_pos k (show(0:Int)<32 by decide);have hda:=Nat.div_le_self a;refine Z8 ?_;refine .p ((cO FU.out FU.out (.t rfl)).le (aa.int (qC k))) rfl ?_;refine .p ((jY (b:=31) (by omega) (by decide) (.t rfl) (.c _)).le (aa.int (congrArg Nat.cast (ah0 k)))) rfl ?_;refine Z7 ?_;refine .p (N6 (.t rfl) (.t rfl) (by omega)) rfl ?_;refine Z2 ?_;refine .p ((xU (a:=32) (by omega) (.c _) (.t rfl)).le (aa.int (show _=((32-(k%32).toNat:Nat):Int) by omega))) rfl ?_;refine .p (kn (.t rfl) (.t rfl) (by show _<=32;omega)) rfl ?_;refine .p (Rf (Nat.mod_lt _ (by decide)) (Nat.lt_of_le_of_lt (hda _) ak) (.t rfl) (.t rfl)) rfl ?_;refine Z4 ?_;refine br ?_;exact aa.int (congrArg Nat.cast (Sl (n:=32) ak (by omega)))
theorem IK(ak:a<18446744073709551616):dF Wo 414 [af .u64 (a:Int),iV k] (af .u64 (vv 64 a (k%64).toNat:Int)):=by
 refine In 17 Tryz.func414 λ_ _ _=>?_;have JC:=Int.emod_nonneg k (show(64:Int)≠0 by decide);have u5:=Int.emod_lt_of_pos k (show(0:Int)<64 by decide);have hda:=Nat.div_le_self a;refine Z8 ?_;refine .p ((cO FU.out FU.out (.t rfl)).le (aa.int (qC k))) rfl ?_;refine .p ((jY (b:=63) (by omega) (by decide) (.t rfl) (.c _)).le (aa.int (congrArg Nat.cast (ah1 k)))) rfl ?_;refine Z7 ?_;refine .p (nY (.t rfl) (.t rfl) (by omega)) rfl ?_;refine Z2 ?_;refine .p ((xU (a:=64) (by omega) (.c _) (.t rfl)).le (aa.int (show _=((64-(k%64).toNat:Nat):Int) by omega))) rfl ?_;refine .p (kn (.t rfl) (.t rfl) (by show _<=64;omega)) rfl ?_;refine .p (Ap (Nat.mod_lt _ (by decide)) (Nat.lt_of_le_of_lt (hda _) ak) (.t rfl) (.t rfl)) rfl ?_;refine Z4 ?_;refine br ?_;exact aa.int (congrArg Nat.cast (Sl (n:=64) ak (by omega)))
theorem tO{m:Int}:dF Wo 295 [iV m] (av (m=32\/m=64)):=by
 refine In 9 Tryz.func295 λ_ _ _=>?_;refine Dh ?_;refine br ?_;exact aa.refl _
variable {n:Nat}
theorem j0(ak:WN n)(aR:a<18446744073709551616):dF Wo 65 [iV (n:Int),uV a] (uV (a%2^n)):=by
 refine In 11 Tryz.func65 λ_ _ _=>?_;refine eB ?_;refine Cd (λc0=>?_) λc0=>?_
 ·
  have hn:n=32:=by omega
  subst hn;refine Z3 ?_;refine .p (cO FU.out FU.out (.t rfl)) rfl ?_;refine .p (cO FU.out FU.out (.t rfl)) rfl ?_;refine Z5 ?_;refine br ?_;exact aa.int (by rw[IntKind.wrap_u64,IntKind.wrap_u32];omega)
 have hn:n=64:=by rcases ak with h|h<;>omega
 subst hn;refine Z9 ?_;refine br ?_;exact aa.int (by omega)
theorem jR(ak:WN n)(aR:a<2^n):dF Wo 362 [iV (n:Int),uV a] (iV (qD n a)):=by
 refine In 12 Tryz.func362 λ_ _ _=>?_;refine eB ?_;refine Cd (λc0=>?_) λc0=>?_
 ·
  have hn:n=32:=by omega
  subst hn;refine Z3 ?_;refine .p (cO FU.out FU.out (.t rfl)) rfl ?_;refine .p (cO FU.out FU.out (.t rfl)) rfl ?_;refine Z5 ?_;refine br ?_;exact aa.int (by rw[<-af5,Nat.mod_eq_of_lt aR])
 have hn:n=64:=by rcases ak with h|h<;>omega
 subst hn;refine Z5 ?_;refine .p (cO FU.out FU.out (.t rfl)) rfl ?_;refine Z4 ?_;refine br ?_;exact aa.int (af6 aR).symm
theorem Lo{a b:Int}(ak:b≠0):dF Wo 363 [iV a,iV b] (iV (a.tmod b)):=by
 refine In 10 Tryz.func363 λ_ _ _=>?_;refine eB ?_;refine Cd (λc0=>?_) λc0=>?_
 ·
  refine Z7 ?_;refine br ?_;exact aa.int (by rw[c0,Int.tmod_neg,Int.tmod_one])
 refine Z6 ?_;refine .p (Rh (.t rfl) (.t rfl) ak) rfl ?_;refine Z4 ?_;refine br ?_;exact aa.refl _
theorem BX(ak:WN n)(aR:a<2^n):dF Wo 364 [iV (n:Int),uV a,iV k] (uV (vv n a (k%n).toNat)):=by
 refine In 17 Tryz.func364 λ_ _ _=>?_;refine eB ?_;refine Cd (λc0=>?_) λc0=>?_
 ·
  have hn:n=32:=by omega
  subst hn;have hr:=A1 (n:=32) (k:=(k%32).toNat) aR (by omega);refine Z5 ?_;refine .p (cA (h:=IJ aR)) rfl ?_;refine Z6 ?_;refine br ?_;exact aa.refl _
 have hn:n=64:=by rcases ak with h|h<;>omega
 subst hn;refine Z6 ?_;refine .p (cA (h:=IK aR)) rfl ?_;refine Z4 ?_;refine br ?_;exact aa.refl _
theorem dm{p:Prop}:dF Wo 299 [av p] (uV (W9 p)):=by
 refine In 4 Tryz.func299 λ_ _ _=>?_;refine dh ?_;refine Cd (λc0=>?_) λc0=>?_
 ·
  refine Z7 ?_;refine br ?_;exact aa.int (by rw[Nc c0];rfl)
 refine Z8 ?_;refine br ?_;exact aa.int (by rw[Nd c0];rfl)
theorem cy{s:Prop}[Decidable s](ak:WN n)(aR:a<2^n)(bO:b<2^n):dF Wo 300 [av s,iV (n:Int),uV a,uV b] (av (w4 n s a b)):=by
 refine In 20 Tryz.func300 λ_ _ _=>?_;refine dh ?_;refine Cd (λc0=>?_) λc0=>?_
 ·
  refine Z4 ?_;refine .p (cA (h:=jR ak aR)) rfl ?_;refine Z2 ?_;refine .p (cA (h:=jR ak bO)) rfl ?_;refine Z6 ?_;refine br ?_;exact aa.prop (by unfold w4;rw[if_pos c0])
 refine dh ?_;refine br ?_;exact aa.prop (by unfold w4;rw[if_neg c0];omega)
variable {op:Int} {B:Nat}
theorem CN{A:Nat}(ak:WN n)(aR:A<2^n)(bO:B<2^n):dF Wo 301 [iV op,iV (n:Int),uV A,uV B] (iV (oJ n op A B)):=by
 refine In 35 Tryz.func301 λ_ _ _=>?_;have BW:1<=n/\n<=64:=by rcases ak with rfl|rfl<;>omega
 have Q7:1*2^(n-1)%18446744073709551616=2^(n-1):=by rcases ak with rfl|rfl<;>rfl
 refine zE ?_;refine Cd (λc0=>?_) λc0=>?_
 ·
  refine Z9 ?_;refine br ?_;exact aa.int (by unfold oJ;rw[if_pos c0])
 refine Z7 ?_;refine Cd (λc1=>?_) λc1=>?_
 ·
  refine Z8 ?_;refine br ?_;exact aa.int (by unfold oJ;rw[if_neg c0,if_pos (by omega)])
 refine Z7 ?_;refine .g (de.gT rfl rfl rfl rfl (λhg=>cg (jR ak bO) FB.out (.cons (.when (.t rfl) hg) (.cons (.when (.t rfl) hg) .nil)))) rfl rfl ?_;refine Z6 ?_;refine .g (de.gT rfl rfl rfl rfl (λhg=>(nY (a:=1) (s:=n-1) (.c _) (.le (.when (.t rfl) hg) (aa.int (by omega))) (by omega)).le (aa.int (congrArg Nat.cast Q7)))) rfl rfl ?_;refine Z5 ?_;refine Cd (λc2=>?_) λc2=>?_
 ·
  refine Z8 ?_;refine br ?_;exact aa.int (by unfold oJ;rw[if_neg c0,if_neg (by omega),if_pos ⟨c2.1.1,c2.1.2,by omega⟩])
 refine Z9 ?_;refine br ?_;exact aa.int (by unfold oJ;rw[if_neg c0,if_neg (by omega),if_neg (λh=>c2 ⟨⟨h.1,h.2.1⟩,by omega⟩)])
theorem IL{A:Nat}(ak:WN n)(aR:A<2^n)(bO:B<2^n)(dO:0<=op)(jE:op<7)(sx:3<=op->B≠0):dF Wo 302 [iV op,iV (n:Int),uV A,uV B] (uV (mC n op A B)):=by
 refine In 53 Tryz.func302 λ_ _ _=>?_;have zu:=yd ak aR;have VZ:=yd ak bO;refine zE ?_;refine Cd (λc0=>?_) λc0=>?_
 ·
  refine Z4 ?_;refine .p (mg (.t rfl) (.t rfl)) rfl ?_;refine Z6 ?_;refine br ?_;exact aa.int (by unfold mC;rw[if_pos c0])
 refine Z6 ?_;refine Cd (λc1=>?_) λc1=>?_
 ·
  refine Z4 ?_;refine .p (xU (by omega) (.t rfl) (.t rfl)) rfl ?_;refine Z6 ?_;refine br ?_;exact aa.int (by unfold mC;rw[if_neg c0,if_pos c1])
 refine Z6 ?_;refine Cd (λc2=>?_) λc2=>?_
 ·
  refine Z4 ?_;refine .p (Df (.t rfl) (.t rfl)) rfl ?_;refine Z6 ?_;refine br ?_;exact aa.int (by unfold mC;rw[if_neg c0,if_neg c1,if_pos c2])
 refine Z6 ?_;refine Cd (λc3=>?_) λc3=>?_
 ·
  refine Z4 ?_;refine .p (cA (h:=jR ak aR)) rfl ?_;refine Z2 ?_;refine .p (cA (h:=jR ak bO)) rfl ?_;refine .p (Rg (.t rfl) (.t rfl) (MY ak bO (sx (by omega)))) rfl ?_;refine .p (cO FU.out FU.out (.t rfl)) rfl ?_;refine Z6 ?_;refine br ?_;exact aa.int (by unfold mC;rw[if_neg c0,if_neg c1,if_neg c2,if_pos c3];try (rw[<-qC];rw[IntKind.wrap_u64,IntKind.wrap_u64,IntKind.wrap_i64];omega))
 refine Z6 ?_;refine Cd (λc4=>?_) λc4=>?_
 ·
  refine Z4 ?_;refine .p (ua ⟨Nat.pos_of_ne_zero (sx (by omega)),zu⟩ (.t rfl) (.t rfl)) rfl ?_;refine Z6 ?_;refine br ?_;exact aa.int (by unfold mC;rw[if_neg c0,if_neg c1,if_neg c2,if_neg c3,if_pos c4])
 refine Z6 ?_;refine Cd (λc5=>?_) λc5=>?_
 ·
  refine Z4 ?_;refine .p (cA (h:=jR ak aR)) rfl ?_;refine Z2 ?_;refine .p (cA (h:=jR ak bO)) rfl ?_;refine .p (cA (h:=Lo (MY ak bO (sx (by omega))))) rfl ?_;refine .p (cO FU.out FU.out (.t rfl)) rfl ?_;refine Z6 ?_;refine br ?_;exact aa.int (by unfold mC;rw[if_neg c0,if_neg c1,if_neg c2,if_neg c3,if_neg c4,if_pos c5];exact qC _)
 refine Z7 ?_;refine .p (mh (Nat.pos_of_ne_zero (sx (by omega))) (.t rfl) (.t rfl)) rfl ?_;refine Z4 ?_;refine br ?_;exact aa.int (by unfold mC;rw[if_neg c0,if_neg c1,if_neg c2,if_neg c3,if_neg c4,if_neg c5])
theorem CO{A:Nat}(ak:WN n)(aR:A<2^n)(bO:B<2^n)(dO:7<=op):dF Wo 303 [iV op,iV (n:Int),uV A,uV B] (uV (pJ n op A B)):=by
 refine In 60 Tryz.func303 λ_ _ _=>?_;have zu:=yd ak aR;have VZ:=yd ak bO;have BW:1<=n/\n<=64:=by rcases ak with rfl|rfl<;>omega
 have hk:=Nat.mod_lt B (show 0<n by omega);refine cC ?_;refine .p (mh (by omega) (.t rfl) (.t rfl)) rfl ?_;refine Dh ?_;refine Cd (λc0=>?_) λc0=>?_
 ·
  refine Z4 ?_;refine .p (jY (by omega) (by omega) (.t rfl) (.t rfl)) rfl ?_;refine Z6 ?_;refine br ?_;exact aa.int (by unfold pJ;rw[if_pos c0])
 refine Z6 ?_;refine Cd (λc1=>?_) λc1=>?_
 ·
  refine Z4 ?_;refine .p (Ap (by omega) (by omega) (.t rfl) (.t rfl)) rfl ?_;refine Z6 ?_;refine br ?_;exact aa.int (by unfold pJ;rw[if_neg c0,if_pos c1])
 refine Z6 ?_;refine Cd (λc2=>?_) λc2=>?_
 ·
  refine Z4 ?_;refine .p (N4 (by omega) (by omega) (.t rfl) (.t rfl)) rfl ?_;refine Z6 ?_;refine br ?_;exact aa.int (by unfold pJ;rw[if_neg c0,if_neg c1,if_pos c2])
 refine Z6 ?_;refine Cd (λc3=>?_) λc3=>?_
 ·
  refine Z4 ?_;refine .p (nY (.t rfl) (.t rfl) (by omega)) rfl ?_;refine Z6 ?_;refine br ?_;exact aa.int (by unfold pJ;rw[if_neg c0,if_neg c1,if_neg c2,if_pos c3])
 refine Z6 ?_;refine Cd (λc4=>?_) λc4=>?_
 ·
  refine Z4 ?_;refine .p (cA (h:=jR ak aR)) rfl ?_;refine Z1 ?_;refine .p (My (.t rfl) (.t rfl) (by show _<=64;omega)) rfl ?_;refine .p ((cO FU.out FU.out (.t rfl)).le (aa.int (qC _))) rfl ?_;refine Z6 ?_;refine br ?_;exact aa.int (by unfold pJ;rw[if_neg c0,if_neg c1,if_neg c2,if_neg c3,if_pos c4])
 refine Z6 ?_;refine Cd (λc5=>?_) λc5=>?_
 ·
  refine Z4 ?_;refine .p (kn (.t rfl) (.t rfl) (by show _<=64;omega)) rfl ?_;refine Z6 ?_;refine br ?_;exact aa.int (by unfold pJ;rw[if_neg c0,if_neg c1,if_neg c2,if_neg c3,if_neg c4,if_pos c5])
 refine Z6 ?_;refine Cd (λc6=>?_) λc6=>?_
 ·
  refine Z5 ?_;refine .p (cA (h:=BX ak aR)) rfl ?_;refine Z6 ?_;refine br ?_;exact aa.int (by unfold pJ;rw[if_neg c0,if_neg c1,if_neg c2,if_neg c3,if_neg c4,if_neg c5,if_pos c6];rw[Vn hk])
 refine Z8 ?_;refine .p (XJ (.t rfl) bY) rfl ?_;refine .p (cA (h:=BX ak aR)) rfl ?_;refine Z4 ?_;refine br ?_;exact aa.int (by unfold pJ;rw[if_neg c0,if_neg c1,if_neg c2,if_neg c3,if_neg c4,if_neg c5,if_neg c6];rw[Vo hk])
theorem Fl(ak:WN n)(aR:a<18446744073709551616)(bO:b<18446744073709551616)(dO:0<=op)(jE:op<15):dF Wo 242 [iV op,iV (n:Int),uV a,uV b] (aZ [uV (Hf n op (a%2^n) (b%2^n)),iV (oJ n op (a%2^n) (b%2^n)),iV 0]):=by
 refine In 48 Tryz.func242 λ_ _ _=>?_;have hA:=Nat.mod_lt a (Nat.two_pow_pos n);have hB:=Nat.mod_lt b (Nat.two_pow_pos n);generalize hAe:a%2^n=A at*;generalize hBe:b%2^n=B at*;refine dh ?_;refine .p (cA (h:=tO)) rfl ?_;refine dh ?_;refine Cd (λc0=>?_) λc0=>?_
 ·
  exfalso;rcases ak with rfl|rfl<;>omega
 refine Z6 ?_;refine .p ((cA (h:=j0 ak aR)).le (aa.int (congrArg Nat.cast hAe))) rfl ?_;refine Z2 ?_;refine .p ((cA (h:=j0 ak bO)).le (aa.int (congrArg Nat.cast hBe))) rfl ?_;refine dh ?_;refine .p (cA (h:=CN ak hA hB)) rfl ?_;refine Z9 ?_;refine Cd (λc1=>?_) λc1=>?_
 ·
  refine cC ?_;refine TX ?_ ?_ ?_
  · exact aa.int (by unfold Hf;rw[if_neg c1];rfl)
  · exact aa.refl _
  exact aa.refl _
 refine Z4 ?_;refine .p (bf (.le (.f _) ((tU FB.out (λz h=>IL h.1 h.2.1 h.2.2.1 h.2.2.2.1 h.2.2.2.2.1 h.2.2.2.2.2):aa _ (pV Wo (A:=Int×Nat×Nat×Nat) (λz=>WN z.2.1/\z.2.2.1<2^z.2.1/\z.2.2.2<2^z.2.1/\0<=z.1/\z.1<7/\(3<=z.1->z.2.2.2≠0)) (λz=>[iV z.1,iV (z.2.1:Int),uV z.2.2.1,uV z.2.2.2]) (λz=>uV (mC z.2.1 z.1 z.2.2.1 z.2.2.2))))))) rfl ?_;refine Z9 ?_;refine Cd (λc2=>?_) λc2=>?_
 ·
  refine Z1 ?_;refine .p (bf (.le (.f _) ((tU FB.out (λz h=>CO h.1 h.2.1 h.2.2.1 h.2.2.2):aa _ (pV Wo (A:=Int×Nat×Nat×Nat) (λz=>WN z.2.1/\z.2.2.1<2^z.2.1/\z.2.2.2<2^z.2.1/\7<=z.1) (λz=>[iV z.1,iV (z.2.1:Int),uV z.2.2.1,uV z.2.2.2]) (λz=>uV (pJ z.2.1 z.1 z.2.2.1 z.2.2.2))))))) rfl ?_;refine cC ?_;refine .p (cV (op,n,A,B) (h:=by first|exact⟨ak,hA,hB,by omega⟩|exact⟨ak,hA,hB,by omega,by omega,λh=>Nf (n:=n) (A:=A) (B:=B) (op:=op) (by omega) h (by omega)⟩)) rfl ?_;refine .p (cA (h:=j0 ak (by first|exact MZ ak hA hB|exact Hh ak hA hB))) rfl ?_;refine Z6 ?_;refine TX ?_ ?_ ?_
  · exact aa.int (by unfold Hf;rw[if_pos (Classical.not_not.1 c1),Hg ak (by omega) hA hB])
  · exact aa.int (Classical.not_not.1 c1).symm
  exact aa.refl _
 refine cC ?_;refine .p (cV (op,n,A,B) (h:=by first|exact⟨ak,hA,hB,by omega⟩|exact⟨ak,hA,hB,by omega,by omega,λh=>Nf (n:=n) (A:=A) (B:=B) (op:=op) (by omega) h (by omega)⟩)) rfl ?_;refine .p (cA (h:=j0 ak (by first|exact MZ ak hA hB|exact Hh ak hA hB))) rfl ?_;refine Z6 ?_;refine TX ?_ ?_ ?_
 · exact aa.int (by unfold Hf;rw[if_pos (Classical.not_not.1 c1),DF ak (by omega) hA hB (by omega)])
 · exact aa.int (Classical.not_not.1 c1).symm
 exact aa.refl _
theorem Lp(ak:WN n)(aR:a<18446744073709551616)(bO:b<18446744073709551616)(dO:0<=op)(jE:op<10):dF Wo 241 [iV op,iV (n:Int),uV a,uV b] (aZ [uV (A3 n op (a%2^n) (b%2^n)),iV 0]):=by
 refine In 79 Tryz.func241 λ_ _ _=>?_;have hA:=Nat.mod_lt a (Nat.two_pow_pos n);have hB:=Nat.mod_lt b (Nat.two_pow_pos n);generalize hAe:a%2^n=A at*;generalize hBe:b%2^n=B at*;refine cC ?_;refine .p (cA (h:=tO)) rfl ?_;refine dh ?_;refine Cd (λc0=>?_) λc0=>?_
 ·
  exfalso;rcases ak with rfl|rfl<;>omega
 refine Z6 ?_;refine .p ((cA (h:=j0 ak aR)).le (aa.int (congrArg Nat.cast hAe))) rfl ?_;refine Z2 ?_;refine .p ((cA (h:=j0 ak bO)).le (aa.int (congrArg Nat.cast hBe))) rfl ?_;refine Z7 ?_;refine .p (WE (.t rfl) (.c _) (by omega) (by omega)) rfl ?_;refine Dh ?_;refine Cd (λc1=>?_) λc1=>?_
 ·
  refine Z5 ?_;refine .p (cA (h:=dm)) rfl ?_;refine Z7 ?_;refine eA ?_ ?_
  · first|(exfalso;omega)|exact aa.int (congrArg Nat.cast (dH (by unfold iP;(repeat (first|rw[if_pos (by omega)]|rw[if_neg (by omega)]));all_goals first|omega|exact Iff.rfl)).symm)
  exact aa.refl _
 refine Z6 ?_;refine Cd (λc2=>?_) λc2=>?_
 ·
  refine Z5 ?_;refine .p (cA (h:=dm)) rfl ?_;refine Z7 ?_;refine eA ?_ ?_
  · first|(exfalso;omega)|exact aa.int (congrArg Nat.cast (dH (by unfold iP;(repeat (first|rw[if_pos (by omega)]|rw[if_neg (by omega)]));all_goals first|omega|exact Iff.rfl)).symm)
  exact aa.refl _
 refine Z7 ?_;refine Cd (λc3=>?_) λc3=>?_
 ·
  refine Z2 ?_;refine Cd (λc4=>?_) λc4=>?_
  ·
   refine Z6 ?_;refine .p (cA (h:=cy ak hA hB)) rfl ?_;refine .p (cA (h:=dm)) rfl ?_;refine Z7 ?_;refine eA ?_ ?_
   · first|(exfalso;omega)|exact aa.int (congrArg Nat.cast (dH (by unfold iP;(repeat (first|rw[if_pos (by omega)]|rw[if_neg (by omega)]));all_goals first|omega|exact Iff.rfl)).symm)
   exact aa.refl _
  refine Z7 ?_;refine Cd (λc5=>?_) λc5=>?_
  ·
   refine Z2 ?_;refine Cd (λc6=>?_) λc6=>?_
   ·
    refine Z6 ?_;refine .p (cA (h:=cy ak hB hA)) rfl ?_;refine .p (cA (h:=dm)) rfl ?_;refine Z7 ?_;refine eA ?_ ?_
    · first|(exfalso;omega)|exact aa.int (congrArg Nat.cast (dH (by unfold iP;(repeat (first|rw[if_pos (by omega)]|rw[if_neg (by omega)]));all_goals first|omega|exact Iff.rfl)).symm)
    exact aa.refl _
   refine Z7 ?_;refine Cd (λc7=>?_) λc7=>?_
   ·
    refine Z2 ?_;refine Cd (λc8=>?_) λc8=>?_
    ·
     refine Z6 ?_;refine .p (cA (h:=cy ak hB hA)) rfl ?_;refine Z1 ?_;refine .p (cA (h:=dm)) rfl ?_;refine Z7 ?_;refine eA ?_ ?_
     · first|(exfalso;omega)|exact aa.int (congrArg Nat.cast (dH (by unfold iP;(repeat (first|rw[if_pos (by omega)]|rw[if_neg (by omega)]));all_goals first|omega|exact Iff.rfl)).symm)
     exact aa.refl _
    refine Z9 ?_;refine .p (cA (h:=cy ak hA hB)) rfl ?_;refine Z1 ?_;refine .p (cA (h:=dm)) rfl ?_;refine Z5 ?_;refine eA ?_ ?_
    · first|(exfalso;omega)|exact aa.int (congrArg Nat.cast (dH (by unfold iP;(repeat (first|rw[if_pos (by omega)]|rw[if_neg (by omega)]));all_goals first|omega|exact Iff.rfl)).symm)
    exact aa.refl _
   refine Z5 ?_;refine Cd (λc9=>?_) λc9=>?_
   ·
    refine Z6 ?_;refine .p (cA (h:=cy ak hB hA)) rfl ?_;refine Z1 ?_;refine .p (cA (h:=dm)) rfl ?_;refine Z7 ?_;refine eA ?_ ?_
    · first|(exfalso;omega)|exact aa.int (congrArg Nat.cast (dH (by unfold iP;(repeat (first|rw[if_pos (by omega)]|rw[if_neg (by omega)]));all_goals first|omega|exact Iff.rfl)).symm)
    exact aa.refl _
   refine Z9 ?_;refine .p (cA (h:=cy ak hA hB)) rfl ?_;refine Z1 ?_;refine .p (cA (h:=dm)) rfl ?_;refine Z5 ?_;refine eA ?_ ?_
   · first|(exfalso;omega)|exact aa.int (congrArg Nat.cast (dH (by unfold iP;(repeat (first|rw[if_pos (by omega)]|rw[if_neg (by omega)]));all_goals first|omega|exact Iff.rfl)).symm)
   exact aa.refl _
  refine Z5 ?_;refine Cd (λlZ=>?_) λlZ=>?_
  ·
   refine Z6 ?_;refine .p (cA (h:=cy ak hB hA)) rfl ?_;refine .p (cA (h:=dm)) rfl ?_;refine Z7 ?_;refine eA ?_ ?_
   · first|(exfalso;omega)|exact aa.int (congrArg Nat.cast (dH (by unfold iP;(repeat (first|rw[if_pos (by omega)]|rw[if_neg (by omega)]));all_goals first|omega|exact Iff.rfl)).symm)
   exact aa.refl _
  refine Z7 ?_;refine Cd (λn8=>?_) λn8=>?_
  ·
   refine Z2 ?_;refine Cd (λqB=>?_) λqB=>?_
   ·
    refine Z6 ?_;refine .p (cA (h:=cy ak hB hA)) rfl ?_;refine Z1 ?_;refine .p (cA (h:=dm)) rfl ?_;refine Z7 ?_;refine eA ?_ ?_
    · first|(exfalso;omega)|exact aa.int (congrArg Nat.cast (dH (by unfold iP;(repeat (first|rw[if_pos (by omega)]|rw[if_neg (by omega)]));all_goals first|omega|exact Iff.rfl)).symm)
    exact aa.refl _
   refine Z9 ?_;refine .p (cA (h:=cy ak hA hB)) rfl ?_;refine Z1 ?_;refine .p (cA (h:=dm)) rfl ?_;refine Z5 ?_;refine eA ?_ ?_
   · first|(exfalso;omega)|exact aa.int (congrArg Nat.cast (dH (by unfold iP;(repeat (first|rw[if_pos (by omega)]|rw[if_neg (by omega)]));all_goals first|omega|exact Iff.rfl)).symm)
   exact aa.refl _
  refine Z5 ?_;refine Cd (λv8=>?_) λv8=>?_
  ·
   refine Z6 ?_;refine .p (cA (h:=cy ak hB hA)) rfl ?_;refine Z1 ?_;refine .p (cA (h:=dm)) rfl ?_;refine Z7 ?_;refine eA ?_ ?_
   · first|(exfalso;omega)|exact aa.int (congrArg Nat.cast (dH (by unfold iP;(repeat (first|rw[if_pos (by omega)]|rw[if_neg (by omega)]));all_goals first|omega|exact Iff.rfl)).symm)
   exact aa.refl _
  refine Z9 ?_;refine .p (cA (h:=cy ak hA hB)) rfl ?_;refine Z1 ?_;refine .p (cA (h:=dm)) rfl ?_;refine Z5 ?_;refine eA ?_ ?_
  · first|(exfalso;omega)|exact aa.int (congrArg Nat.cast (dH (by unfold iP;(repeat (first|rw[if_pos (by omega)]|rw[if_neg (by omega)]));all_goals first|omega|exact Iff.rfl)).symm)
  exact aa.refl _
 refine Z5 ?_;refine Cd (λs7=>?_) λs7=>?_
 ·
  refine Z6 ?_;refine .p (cA (h:=cy ak hA hB)) rfl ?_;refine .p (cA (h:=dm)) rfl ?_;refine Z7 ?_;refine eA ?_ ?_
  · first|(exfalso;omega)|exact aa.int (congrArg Nat.cast (dH (by unfold iP;(repeat (first|rw[if_pos (by omega)]|rw[if_neg (by omega)]));all_goals first|omega|exact Iff.rfl)).symm)
  exact aa.refl _
 refine Z7 ?_;refine Cd (λwg=>?_) λwg=>?_
 ·
  refine Z2 ?_;refine Cd (λvQ=>?_) λvQ=>?_
  ·
   refine Z6 ?_;refine .p (cA (h:=cy ak hB hA)) rfl ?_;refine .p (cA (h:=dm)) rfl ?_;refine Z7 ?_;refine eA ?_ ?_
   · first|(exfalso;omega)|exact aa.int (congrArg Nat.cast (dH (by unfold iP;(repeat (first|rw[if_pos (by omega)]|rw[if_neg (by omega)]));all_goals first|omega|exact Iff.rfl)).symm)
   exact aa.refl _
  refine Z7 ?_;refine Cd (λQH=>?_) λQH=>?_
  ·
   refine Z2 ?_;refine Cd (λLh=>?_) λLh=>?_
   ·
    refine Z6 ?_;refine .p (cA (h:=cy ak hB hA)) rfl ?_;refine Z1 ?_;refine .p (cA (h:=dm)) rfl ?_;refine Z7 ?_;refine eA ?_ ?_
    · first|(exfalso;omega)|exact aa.int (congrArg Nat.cast (dH (by unfold iP;(repeat (first|rw[if_pos (by omega)]|rw[if_neg (by omega)]));all_goals first|omega|exact Iff.rfl)).symm)
    exact aa.refl _
   refine Z9 ?_;refine .p (cA (h:=cy ak hA hB)) rfl ?_;refine Z1 ?_;refine .p (cA (h:=dm)) rfl ?_;refine Z5 ?_;refine eA ?_ ?_
   · first|(exfalso;omega)|exact aa.int (congrArg Nat.cast (dH (by unfold iP;(repeat (first|rw[if_pos (by omega)]|rw[if_neg (by omega)]));all_goals first|omega|exact Iff.rfl)).symm)
   exact aa.refl _
  refine Z5 ?_;refine Cd (λUf=>?_) λUf=>?_
  ·
   refine Z6 ?_;refine .p (cA (h:=cy ak hB hA)) rfl ?_;refine Z1 ?_;refine .p (cA (h:=dm)) rfl ?_;refine Z7 ?_;refine eA ?_ ?_
   · first|(exfalso;omega)|exact aa.int (congrArg Nat.cast (dH (by unfold iP;(repeat (first|rw[if_pos (by omega)]|rw[if_neg (by omega)]));all_goals first|omega|exact Iff.rfl)).symm)
   exact aa.refl _
  refine Z9 ?_;refine .p (cA (h:=cy ak hA hB)) rfl ?_;refine Z1 ?_;refine .p (cA (h:=dm)) rfl ?_;refine Z5 ?_;refine eA ?_ ?_
  · first|(exfalso;omega)|exact aa.int (congrArg Nat.cast (dH (by unfold iP;(repeat (first|rw[if_pos (by omega)]|rw[if_neg (by omega)]));all_goals first|omega|exact Iff.rfl)).symm)
  exact aa.refl _
 refine Z5 ?_;refine Cd (λPI=>?_) λPI=>?_
 ·
  refine Z6 ?_;refine .p (cA (h:=cy ak hB hA)) rfl ?_;refine .p (cA (h:=dm)) rfl ?_;refine Z7 ?_;refine eA ?_ ?_
  · first|(exfalso;omega)|exact aa.int (congrArg Nat.cast (dH (by unfold iP;(repeat (first|rw[if_pos (by omega)]|rw[if_neg (by omega)]));all_goals first|omega|exact Iff.rfl)).symm)
  exact aa.refl _
 refine Z7 ?_;refine Cd (λVX=>?_) λVX=>?_
 ·
  refine Z2 ?_;refine Cd (λQI=>?_) λQI=>?_
  ·
   refine Z6 ?_;refine .p (cA (h:=cy ak hB hA)) rfl ?_;refine Z1 ?_;refine .p (cA (h:=dm)) rfl ?_;refine Z7 ?_;refine eA ?_ ?_
   · first|(exfalso;omega)|exact aa.int (congrArg Nat.cast (dH (by unfold iP;(repeat (first|rw[if_pos (by omega)]|rw[if_neg (by omega)]));all_goals first|omega|exact Iff.rfl)).symm)
   exact aa.refl _
  refine Z9 ?_;refine .p (cA (h:=cy ak hA hB)) rfl ?_;refine Z1 ?_;refine .p (cA (h:=dm)) rfl ?_;refine Z5 ?_;refine eA ?_ ?_
  · first|(exfalso;omega)|exact aa.int (congrArg Nat.cast (dH (by unfold iP;(repeat (first|rw[if_pos (by omega)]|rw[if_neg (by omega)]));all_goals first|omega|exact Iff.rfl)).symm)
  exact aa.refl _
 refine Z5 ?_;refine Cd (λYY=>?_) λYY=>?_
 ·
  refine Z6 ?_;refine .p (cA (h:=cy ak hB hA)) rfl ?_;refine Z1 ?_;refine .p (cA (h:=dm)) rfl ?_;refine Z7 ?_;refine eA ?_ ?_
  · first|(exfalso;omega)|exact aa.int (congrArg Nat.cast (dH (by unfold iP;(repeat (first|rw[if_pos (by omega)]|rw[if_neg (by omega)]));all_goals first|omega|exact Iff.rfl)).symm)
  exact aa.refl _
 refine Z9 ?_;refine .p (cA (h:=cy ak hA hB)) rfl ?_;refine Z1 ?_;refine .p (cA (h:=dm)) rfl ?_;refine Z5 ?_;refine eA ?_ ?_
 · first|(exfalso;omega)|exact aa.int (congrArg Nat.cast (dH (by unfold iP;(repeat (first|rw[if_pos (by omega)]|rw[if_neg (by omega)]));all_goals first|omega|exact Iff.rfl)).symm)
 exact aa.refl _
theorem IM(ak:WN n)(aR:a<18446744073709551616)(bO:0<=op)(dO:op<4):bu Wo 240 [iV op,iV (n:Int),uV a] [nt 1 .u8 Lib.deBruijn64tab] (γ:=Unit) (λ_=>True) (λ_=>[]) (λ_=>aZ [uV (unF n op (a%2^n)),iV 0]):=by
 refine In 44 Tryz.func240 λ_ _ _=>?_;have hA:=Nat.mod_lt a (Nat.two_pow_pos n);have zu:=yd ak hA;generalize hAe:a%2^n=A at*;have BW:1<=n/\n<=64:=by rcases ak with rfl|rfl<;>omega
 have Ac:=R0 hA;have hct:=Yj BW.2 hA;have zk:Lib.ctz 64 A<=64:=Yz zu;have Q7:=ah4 BW.2 hA;have jg:=zO 64 A;refine cC ?_;refine .p (cA (h:=tO)) rfl ?_;refine dh ?_;refine Cd (λc0=>?_) λc0=>?_
 ·
  exfalso;rcases ak with rfl|rfl<;>omega
 refine Z6 ?_;refine .p ((cA (h:=j0 ak aR)).le (aa.int (congrArg Nat.cast hAe))) rfl ?_;refine Z6 ?_;refine .p (cA (h:=Lj zu)) rfl ?_;refine Z3 ?_;refine .p ((jW FU.out FU.out (.t rfl) bY).le (aa.int (show _=((n-xL A:Nat):Int) by omega))) rfl ?_;refine Z1 ?_;refine .p (cD 0 (h:=Ll zu)) rfl ?_;refine Z1 ?_;refine .p (C4 (.t rfl) (.t rfl)) rfl ?_;refine .p ((jW FU.out FU.out (.t rfl) bY).le (aa.int (show _=((R1 n A:Nat):Int) by rw[<-hct];omega))) rfl ?_;refine Z1 ?_;refine .p (cA (h:=Lm zu)) rfl ?_;refine .p ((jW FU.out FU.out (.t rfl) bY).le (aa.int (show _=((fB n A:Nat):Int) by rw[<-Q7]))) rfl ?_;refine Z2 ?_;refine .p (cA (h:=dm)) rfl ?_;refine .p (fy FR.out FZ.out (.cons (.t rfl) (.cons (.t rfl) (.cons (.t rfl) (.cons (.t rfl) .nil)))) rfl) rfl ?_;refine .n (au FZ.out) rfl λb8 _=>?_;refine Z4 ?_;have hop:op=0\/op=1\/op=2\/op=3:=by omega
 rcases hop with rfl|rfl|rfl|rfl
 ·
  refine Z2 ?_;refine .p (eD 0 FU.out FC.out rfl (.t rfl) (.t rfl) rfl (by omega)) rfl ?_;refine Z6 ?_;refine eA ?_ ?_
  · first|exact aa.refl _|exact aa.int (congrArg Nat.cast (xb A))
  exact aa.refl _
 ·
  refine Z2 ?_;refine .p (eD 1 FU.out FC.out rfl (.t rfl) (.t rfl) rfl (by omega)) rfl ?_;refine Z6 ?_;refine eA ?_ ?_
  · first|exact aa.refl _|exact aa.int (congrArg Nat.cast (xb A))
  exact aa.refl _
 ·
  refine Z2 ?_;refine .p (eD 2 FU.out FC.out rfl (.t rfl) (.t rfl) rfl (by omega)) rfl ?_;refine Z6 ?_;refine eA ?_ ?_
  · first|exact aa.refl _|exact aa.int (congrArg Nat.cast (xb A))
  exact aa.refl _
 refine Z2 ?_;refine .p (eD 3 FU.out FC.out rfl (.t rfl) (.t rfl) rfl (by omega)) rfl ?_;refine Z6 ?_;refine eA ?_ ?_
 · first|exact aa.refl _|exact aa.int (congrArg Nat.cast (xb A))
 exact aa.refl _
theorem IN{a b:Int}:dF Wo 238 [iV a,iV b] (av ((a=8\/a=16\/a=32)/\(b=32\/b=64))):=by
 refine In 23 Tryz.func238 λ_ _ _=>?_;refine Z29 ?_;refine br ?_;exact aa.prop (by simp only[or_assoc])
theorem Lr(ak:a<18446744073709551616):dF Wo 179 [uV a] (uV (a%4294967296)):=by
 refine In 5 Tryz.func179 λ_ _ _=>?_;refine Z8 ?_;refine .p (cA (h:=j0 (n:=32) (.inl rfl) ak)) rfl ?_;refine Z4 ?_;refine br ?_;exact aa.refl _
theorem Fm{fr t:Nat}{s:Prop}[Decidable s](ak:fr=8\/fr=16\/fr=32)(aR:t=32\/t=64)(bO:a<18446744073709551616):dF Wo 181 [iV (fr:Int),iV (t:Int),av s,uV a] (aZ [uV (vC fr t s a),iV 0]):=by
 refine In 32 Tryz.func181 λ_ _ _=>?_;refine dh ?_;refine .p (cA (h:=IN)) rfl ?_;refine Z3 ?_;refine Cd (λc0=>?_) λc0=>?_
 ·
  exfalso;omega
 refine Z5 ?_;refine .p ((iy (.c _) (.t rfl) bY).le (aa.int (show _=((64-fr:Nat):Int) by omega))) rfl ?_;refine Z9 ?_;refine Cd (λc1=>?_) λc1=>?_
 ·
  refine Z5 ?_;refine .p (nY (.t rfl) (.t rfl) (by omega)) rfl ?_;refine .p (cO FU.out FU.out (.t rfl)) rfl ?_;refine Z1 ?_;refine .p (My (.t rfl) (.t rfl) (by show _<=64;omega)) rfl ?_;refine .p ((cO FU.out FU.out (.t rfl)).le (aa.int (qC _))) rfl ?_;refine .p (cA (h:=j0 (n:=t) (show WN t from aR) (by omega))) rfl ?_;refine Z6 ?_;refine eA ?_ ?_
  · exact aa.int (congrArg Nat.cast ((ah3 ak aR).trans (Vp c1).symm))
  exact aa.refl _
 refine Z6 ?_;refine .p (nY (.t rfl) (.t rfl) (by omega)) rfl ?_;refine Z1 ?_;refine .p (kn (.t rfl) (.t rfl) (by show _<=64;omega)) rfl ?_;refine Z5 ?_;refine eA ?_ ?_
 · exact aa.int (congrArg Nat.cast ((ah2 ak).trans (Vq c1).symm))
 exact aa.refl _
open Classical in
theorem CP(ak:oe A K)(aR:m.over=false):bu Wo 183 [ax b 0,aC (aB x)] [dZ A K (mE b F bs) m,aX A K c,nt 1 .u8 Lib.deBruijn64tab] (γ:=Unit) (λ_=>True) (λ_=>[dZ A K (mE b F bs) ((cG K x (m,c)).getD (m,c)).1,aX A K ((cG K x (m,c)).getD (m,c)).2,nt 1 .u8 Lib.deBruijn64tab]) (λ_=>av ((cG K x (m,c)).isSome=true)):=by
 refine In 63 Tryz.func183 λ_ _ _=>?_;refine .r9 λr7=>?_;have jg:=r7.pop;have hp2l:=r7.ai0;refine cC ?_;refine .p (cA (h:=xq)) rfl ?_;refine zE ?_;refine Cd (λc0=>?_) λc0=>?_
 ·
  have hno:mz x.Code=none:=by(cases h9:mz x.Code with|none=>rfl|some p=>exact absurd (by rw[h9];rfl) c0)
  have hC:cG K x (m,c)=none:=by unfold cG;rw[hno]
  rw[hC];refine Z7 ?_;refine br ?_;exact aa.prop (by simp)
 obtain⟨⟨g,n,w⟩,hno⟩:=Option.isSome_iff_exists.1 (Classical.not_not.1 c0);simp only[hno,Option.getD_some];obtain⟨hn0,hg,hw⟩:=yR hno;have hwn:w=((w.toNat:Nat):Int):=by omega
 have hW:WN w.toNat:=by unfold WN;omega
 have ZY:=Nat.mod_lt (aO c).1 (Nat.two_pow_pos w.toNat);have hm2:=Nat.mod_lt (aO (aO c).2).1 (Nat.two_pow_pos w.toNat);refine Z5 ?_;refine .n (cE (h:=eL (E:=mE b F bs) ak)) rfl λg23 h23=>?_;refine Z26 ?_;refine Cd (λc1=>?_) λc1=>?_
 ·
  obtain⟨v,hv⟩:∃v,v=unF w.toNat n ((aO c).1%2^w.toNat):=⟨_,rfl⟩;have hvl:v<18446744073709551616:=hv▸YP hW ZY;have hC:cG K x (m,c)=some (m,fk K [v] (aO c).2):=by unfold cG;rw[hno,hv];exact if_pos c1
  rw[hC];have Y1:(0:Int)=((0:Nat):Int):=rfl;refine Z2 ?_;refine .p ((gu (.t rfl)).le (aa.int hwn)) rfl ?_;refine Z1 ?_;refine .p (cD 2 (h:=IM (n:=w.toNat) (a:=(aO c).1) (op:=n) hW jg hn0 (by omega))) rfl ?_;refine dh ?_;refine .p ((gu (.t rfl)).le (aa.int Y1)) rfl ?_;refine .n (cE (h:=BD (E:=mE b F bs) ak)) rfl λg57 ZZ=>?_;refine Z3 ?_;refine Cd (λc2=>?_) λc2=>?_
  ·
   obtain⟨ht0,QJ⟩:=SE c2;rw[QJ];refine Z2 ?_;refine .p ((gu (.t rfl)).le (aa.int (congrArg Nat.cast hv.symm))) rfl ?_;refine .p (cB ia [v]) rfl ?_;refine .n (cE (h:=fR (E:=mE b F bs) (m:=m) ak (oN hvl))) rfl λZX Ud=>?_;refine Z8 ?_;refine br ?_;exact aa.prop (by simp)
  exact((KI aR (Classical.not_not.1 c2)).1 rfl).elim
 refine Z6 ?_;refine Cd (λc3=>?_) λc3=>?_
 ·
  obtain⟨v,hv⟩:∃v,v=A3 w.toNat n ((aO (aO c).2).1%2^w.toNat) ((aO c).1%2^w.toNat):=⟨_,rfl⟩;have hvl:v<18446744073709551616:=by(have h9:v<2:=hv▸SV;omega)
  have hC:cG K x (m,c)=some (m,fk K [v] (aO (aO c).2).2):=by unfold cG;rw[hno,hv];exact(if_neg c1).trans (if_pos c3)
  rw[hC];have Y1:(0:Int)=((0:Nat):Int):=rfl;refine Z2 ?_;refine .p ((gu (.t rfl)).le (aa.int hwn)) rfl ?_;refine Z1 ?_;refine .n (cE (h:=eL (E:=mE b F bs) ak)) rfl λY2 Y3=>?_;refine Z1 ?_;refine .p (cA (h:=Lp (n:=w.toNat) (a:=(aO (aO c).2).1) (b:=(aO c).1) (op:=n) hW hp2l jg hn0 (by omega))) rfl ?_;refine dh ?_;refine .p ((gu (.t rfl)).le (aa.int Y1)) rfl ?_;refine .n (cE (h:=BD (E:=mE b F bs) ak)) rfl λg57 ZZ=>?_;refine Z3 ?_;refine Cd (λc4=>?_) λc4=>?_
  ·
   obtain⟨ht0,QJ⟩:=SE c4;rw[QJ];refine Z2 ?_;refine .p ((gu (.t rfl)).le (aa.int (congrArg Nat.cast hv.symm))) rfl ?_;refine .p (cB ia [v]) rfl ?_;refine .n (cE (h:=fR (E:=mE b F bs) (m:=m) ak (oN hvl))) rfl λZX Ud=>?_;refine Z8 ?_;refine br ?_;exact aa.prop (by simp)
  exact((KI aR (Classical.not_not.1 c4)).1 rfl).elim
 obtain⟨v,hv⟩:∃v,v=Hf w.toNat n ((aO (aO c).2).1%2^w.toNat) ((aO c).1%2^w.toNat):=⟨_,rfl⟩;have hvl:v<18446744073709551616:=hv▸VH hW hm2 ZY hn0;obtain⟨tr,htv⟩:∃tr,tr=oJ w.toNat n ((aO (aO c).2).1%2^w.toNat) ((aO c).1%2^w.toNat):=⟨_,rfl⟩;have Y1:oJ w.toNat n ((aO (aO c).2).1%2^w.toNat) ((aO c).1%2^w.toNat)=((tr.toNat:Nat):Int):=by(rw[<-htv];exact(Int.toNat_of_nonneg (htv▸SF)).symm)
 refine Z2 ?_;refine .p ((gu (.t rfl)).le (aa.int hwn)) rfl ?_;refine Z1 ?_;refine .n (cE (h:=eL (E:=mE b F bs) ak)) rfl λg29 h29=>?_;refine Z1 ?_;refine .p (cA (h:=Fl (n:=w.toNat) (a:=(aO (aO c).2).1) (b:=(aO c).1) (op:=n) hW hp2l jg hn0 (by omega))) rfl ?_;refine kL ?_;refine .p ((gu (.t rfl)).le (aa.int Y1)) rfl ?_;refine .n (cE (h:=BD (E:=mE b F bs) ak)) rfl λg57 ZZ=>?_;refine Z3 ?_;refine Cd (λc5=>?_) λc5=>?_
 ·
  obtain⟨ht0,QJ⟩:=SE c5;rw[QJ];have hC:cG K x (m,c)=some (m,fk K [v] (aO (aO c).2).2):=by unfold cG;rw[hno,hv];exact(if_neg c1).trans ((if_neg c3).trans (if_neg (by rw[Y1];omega)))
  rw[hC];refine Z2 ?_;refine .p ((gu (.t rfl)).le (aa.int (congrArg Nat.cast hv.symm))) rfl ?_;refine .p (cB ia [v]) rfl ?_;refine .n (cE (h:=fR (E:=mE b F bs) (m:=m) ak (oN hvl))) rfl λZX Ud=>?_;refine Z8 ?_;refine br ?_;exact aa.prop (by simp)
 obtain⟨htn,hi1⟩:=KI aR (Classical.not_not.1 c5);rw[hi1];have hC:cG K x (m,c)=some (pO tr.toNat (m,(aO (aO c).2).2)):=by unfold cG;rw[hno,htv];exact(if_neg c1).trans ((if_neg c3).trans (if_pos (by rw[Y1];omega)))
 rw[hC];refine Z8 ?_;refine br ?_;exact aa.prop (by simp)
open Classical in
theorem Fo(ak:oe A K)(aR:m.over=false)(bO:p9 x):bu Wo 117 [ax b 0,aC (aB x),nV at_] [dZ A K (mE b F bs) m,aX A K c,nt 1 .u8 Lib.deBruijn64tab] (γ:=Unit) (λ_=>True) (λ_=>[dZ A K (mE b F bs) ((cH K x (m,c)).getD (m,c)).1,aX A K ((cH K x (m,c)).getD (m,c)).2,nt 1 .u8 Lib.deBruijn64tab]) (λ_=>av ((cH K x (m,c)).isSome=true)):=by
 refine In 61 Tryz.func117 λ_ _ _=>?_;refine .r9 λr7=>?_;have jg:=r7.pop;have og:=bO.A0;have BR:=bO.wY;refine dh ?_;refine .p (cA (h:=find_spec)) rfl ?_;refine Z3 ?_;refine .n (au FZ.out) rfl λb7 _=>?_;refine dh ?_;refine Cd (λc0=>?_) λc0=>?_
 ·
  have h11:(dY x.Code).Form=11:=c0;have hC:cH K x (m,c)=some (m,fk K [x.A.toNat] c):=if_pos h11;rw[hC];refine Z4 ?_;refine .p ((pU FA.out (.t rfl)).le (aa.int (show x.A=((x.A.toNat:Nat):Int) by omega))) rfl ?_;refine .p (cB ia [x.A.toNat]) rfl ?_;refine .n (hH [_,_] [1,2,0,3] (h:=fR (E:=mE b F bs) (l:=[x.A.toNat]) ak (oN (by omega)))) rfl λIF Px=>?_;refine Z9 ?_;refine Post.aS rfl (()) (by trivial) (aF.cZ [0,1,3] [2] rfl rfl) (.rt rfl) ?_;exact aa.prop (by simp)
 have h11:¬(dY x.Code).Form=11:=c0;refine cC ?_;refine Cd (λc1=>?_) λc1=>?_
 ·
  have hC:cH K x (m,c)=some (m,fk K [(aO c).1%4294967296] (aO c).2):=(if_neg h11).trans (if_pos c1);rw[hC];refine Z4 ?_;refine .n (hH [_,_] [1,2,0,3] (h:=eL (E:=mE b F bs) ak)) rfl λUg T4=>?_;refine .p (cA (h:=Lr jg)) rfl ?_;refine .p (cB ia [(aO c).1%4294967296]) rfl ?_;refine .n (cE (h:=fR (E:=mE b F bs) (l:=[(aO c).1%4294967296]) ak (oN (by omega)))) rfl λg35 h35=>?_;refine Z9 ?_;refine Post.aS rfl (()) (by trivial) (aF.cZ [0,1,3] [2] rfl rfl) (.rt rfl) ?_;exact aa.prop (by simp)
 refine Z7 ?_;refine .p (cA (h:=PG)) rfl ?_;refine kL ?_;refine Cd (λc2=>?_) λc2=>?_
 ·
  have hC:cH K x (m,c)=some (m,fk K [vC (aD x.Code).1 (kQ x.Code) (aD x.Code).2 (aO c).1] (aO c).2):=(if_neg h11).trans ((if_neg c1).trans (if_pos (by omega)));rw[hC];refine Z4 ?_;refine .p (cA (h:=Fk)) rfl ?_;refine Z2 ?_;refine .n (hH [_,_] [1,2,0,3] (h:=eL (E:=mE b F bs) ak)) rfl λY2 Y3=>?_;refine .p (cA (h:=Fm (HH c2) (HI x.Code) jg)) rfl ?_;refine dh ?_;refine .p (cB ia [vC (aD x.Code).1 (kQ x.Code) (aD x.Code).2 (aO c).1]) rfl ?_;refine .n (cE (h:=fR (E:=mE b F bs) (l:=[vC (aD x.Code).1 (kQ x.Code) (aD x.Code).2 (aO c).1]) ak (oN (VI (HH c2) (HI x.Code))))) rfl λg57 ZZ=>?_;refine Z9 ?_;refine Post.aS rfl (()) (by trivial) (aF.cZ [0,1,3] [2] rfl rfl) (.rt rfl) ?_;exact aa.prop (by simp)
 have hC:cH K x (m,c)=cG K x (m,c):=(if_neg h11).trans ((if_neg c1).trans (if_neg (by omega)));rw[hC];refine Z6 ?_;refine .n (hH [_] [1,2,3,0] (h:=CP ak aR)) rfl λY4 h60=>?_;refine Z4 ?_;refine Post.aS rfl (()) (by trivial) (aF.cZ [0,1,2] [3] rfl rfl) (.rt rfl) ?_;exact aa.refl _
theorem PK(ak:oe A K)(aR:m.fuel<=10000000)(bO:m.bB<=1000000000000):bu Wo 112 [ax b 0,aC (aB x)] [dZ A K (mE b F bs) m,aX A K c] (γ:=Unit) (λ_=>True) (λ_=>[dZ A K (mE b F bs) (if m.fuel<cS x c then nL 10 (m,c) else({m with fuel:=m.fuel-cS x c,bB:=m.bB+cS x c},c)).1,aX A K (if m.fuel<cS x c then nL 10 (m,c) else({m with fuel:=m.fuel-cS x c,bB:=m.bB+cS x c},c)).2]) (λ_=>av (¬m.fuel<cS x c)):=by
 refine In 33 Tryz.func112 λ_ _ _=>?_;refine cC ?_;refine .n ((cE (h:=Li ak)).same (λ_ _=>aF.refl _) (λ_ _=>aa.refl _)) rfl λ_ _=>?_;refine oA ?_;refine Cd (λc0=>?_) λc0=>?_
 ·
  have hlt:m.fuel<cS x c:=by omega
  rw[if_pos hlt];refine Z3 ?_;refine .n (cE (h:=kW (E:=mE b F bs) ak)) rfl λBv v9=>?_;refine Z9 ?_;refine br ?_;exact aa.prop (by simp[hlt])
 have hlt:¬m.fuel<cS x c:=by omega
 rw[if_neg hlt];have hwr:IntKind.i64.wrap ((m.bB:Int)+(cS x c:Int))=((m.bB+cS x c:Nat):Int):=by rw[IntKind.wrap_i64];omega
 refine cC ?_;refine .p ((iy (.t rfl) (.t rfl) bY).le (aa.int (show _=((m.fuel-cS x c:Nat):Int) by omega))) rfl ?_;refine eB ?_;refine .n (cE (h:=Pw (n:=(m.bB:Int)) (m:=(cS x c:Int)) rfl)) rfl λUg T4=>?_;refine Z2 ?_;rw[hwr];refine Z6 ?_;refine br ?_;exact aa.prop (by simp[hlt])
open Classical in
theorem Ls{Z:Nat}(ak:oe A K)(aR:T3 K)(bO:bs.length=K.own.length)(dO:c.dS≠[])(jE:∀f∈c.dS,f.fn<K.own.length)(sx:∀v∈c.tb,v<=K.dN+K.own.length)(Ce:m.over=false)(DZ:m.fuel<=10000000)(QK:m.bB<=1000000000000)(PL:∀i,i<K.own.length->∀x∈(K.made i).body.L,Sz K x):bu Wo 73 [ax b 0] [dZ A K (mE b F bs) m,aX A K c,eU (K.own.zip bs),nt 1 .u8 Lib.deBruijn64tab] (γ:=Unit) (λ_=>True) (λ_=>[dZ A K (mE b F bs) (eR K Z (m,c)).1,aX A K (eR K Z (m,c)).2,eU (K.own.zip bs),nt 1 .u8 Lib.deBruijn64tab]) (λ_=>aZ []):=by
 refine In 61 Tryz.func73 λ_ _ _=>?_;refine .r9 λr7=>?_;have htm:(bK c).fn<K.own.length:=jE _ (Nr dO);obtain⟨JD,hz⟩:=Bl bO htm;obtain⟨Ua,hml⟩:=aR.ow _ htm;have pX:=Ua.len;have hle:((K.made (bK c).fn),JD).1.body.L.length=(K.made (bK c).fn).body.L.length:=rfl;have jg:=r7.top.pl;refine Z3 ?_;refine .n ((cE (h:=uv (E:=mE b F bs) ak)).same (λ_ _=>aF.refl _) (λ_ _=>aa.refl _)) rfl λ_ _=>?_;refine .n (au FZ.out) rfl λb2 _=>?_;refine Z4 ?_;refine .bL 6 5 FM.out (by kernel_rfl) (k:= ?_);refine Z7 ?_;refine .p (cI ((bK c).fn) (h:=hz)) rfl ?_;refine Cm ?_;refine Cd (λc0=>?_) λc0=>?_
 ·
  have hS:eR K Z (m,c)=js K (m,c):=by unfold eR;simp only[List.getElem?_eq_none (show(K.made (bK c).fn).body.L.length<=(bK c).pl by omega)]
  rw[hS];refine Z3 ?_;refine .n (hH [_,_,_] [1,2,0,3,4] (h:=y7 ak aR bO htm)) rfl λGc Tf=>?_;refine Z4 ?_;refine Post.wC rfl (()) (by trivial) (aF.cZ [0,1,3,4] [2] rfl rfl) rfl
 obtain⟨x,hx⟩:=ah (xs:=(K.made (bK c).fn).body.L) (k:=(bK c).pl) (by omega);have JE:=PL _ htm x (List.mem_of_getElem? hx);have hS:eR K Z (m,c)=(if m.fuel<cS x c then nL 10 (m,c) else yg K Z x (bK c).pl ({m with fuel:=m.fuel-cS x c,bB:=m.bB+cS x c},yf (((bK c).pl:Int)+1) c)):=by unfold eR;simp only[hx]
 refine Z7 ?_;refine .p (cI ((bK c).pl) (h:=hx)) rfl ?_;refine Z1 ?_;refine .n (au FZ.out) rfl λb4 _=>?_;refine Z8 ?_;refine .n (hH [_,_,_,_] [2,3,0,1,4,5] (h:=PK ak DZ QK)) rfl λYK YL=>?_;refine Z3 ?_;refine Cd (λc1=>?_) λc1=>?_
 ·
  have hlt:m.fuel<cS x c:=Classical.not_not.1 c1;rw[hS,if_pos hlt,if_pos hlt];refine Z2 ?_;refine Post.wC rfl (()) (by trivial) (aF.cZ [0,1,4,5] [2,3] rfl rfl) rfl
 have hlt:¬m.fuel<cS x c:=λh=>c1 (λh2=>h2 h);rw[hS,if_neg hlt,if_neg hlt];obtain⟨m1,ZY⟩:∃m1,m1=({m with fuel:=m.fuel-cS x c,bB:=m.bB+cS x c}:jD):=⟨_,rfl⟩;rw[<-ZY];have Dc:m1.over=false:=by rw[ZY];exact Ce
 refine Z3 ?_;refine .bL 7 1 FM.out (by kernel_rfl) (k:= ?_);refine Z8 ?_;refine .n (hH [_,_,_,_,_] [1,0,2,3,4,5] (h:=BB ak (p:=((bK c).pl:Int)+1))) rfl λTd Te=>?_;refine Z2 ?_;generalize hgc:yf (((bK c).pl:Int)+1) c=cq;have aM4:(bK cq).fn<K.own.length:=by rw[<-hgc,YG];exact htm
 have aM5:∀v∈cq.tb,v<=K.dN+K.own.length:=by rw[<-hgc,ai3];exact sx
 refine Z3 ?_;refine .p (pz (.t rfl)) rfl ?_;refine Z1 ?_;refine .p (pz (.t rfl)) rfl ?_;refine Z1 ?_;refine .p (pz (.t rfl)) rfl ?_;refine Z1 ?_;refine .p (pz (.t rfl)) rfl ?_;refine .p (fy FR.out FZ.out (.cons (.t rfl) (.cons (.t rfl) (.cons (.t rfl) (.cons (.t rfl) .nil)))) rfl) rfl ?_;refine Z4 ?_;refine .own (aF.perm (Perm.idx [2,3,1,0,4,5] rfl rfl)) ?_;refine .bk (σ:=Nat) (λ_=>[az b4 (aB x),az b2 (m5 (bK c)),dZ A K (mE b F bs) m1,aX A K cq,eU (K.own.zip bs),nt 1 .u8 Lib.deBruijn64tab]) (λk=>[(52,af .i64 (k:Int))]) (λk=>k<=4/\(1<=k->bn K x (bK c).pl (m1,cq)=none)/\(2<=k->bz K x cq=none)/\(3<=k->ey K Z x (m1,cq)=none)/\(4<=k->cH K x (m1,cq)=none)) (λk=>4-k) 0 ⟨Nat.zero_le _,λh=>absurd h (by decide),λh=>absurd h (by decide),λh=>absurd h (by decide),λh=>absurd h (by decide)⟩ rfl ?_ ?_
 · exact(.get rfl (aa.refl _) (.refl _ _))
 rintro k hk;have v5:=hk.1;refine Z6 ?_;refine Cd (λc2=>?_) λc2=>?_
 ·
  refine Z5 ?_;rcases(show k=0\/k=1\/k=2\/k=3 by omega) with rfl|rfl|rfl|rfl
  ·
   refine Z1 ?_;refine .p (fL FU.out FC.out FA.out (.t rfl) rfl (.t rfl) rfl rfl) rfl ?_;refine Z9 ?_;refine .n (xh (rest:=[_,_,_]) (Py (m:=m1) (c:=cq) ak aR bO aM4 JE aM5) FB.out (.t rfl) (.cons (.t rfl) (.cons (.t rfl) .nil)) (Perm.idx [2,3,4,0,1,5] rfl rfl)) rfl λg59 h59=>?_;refine Z2 ?_;refine Cd (λc3=>?_) λc3=>?_
   ·
    obtain⟨s9,Xj⟩:=Option.isSome_iff_exists.1 c3;have hD:yg K Z x (bK c).pl (m1,cq)=s9:=by unfold yg;simp only[Xj]
    rw[Xj,hD];refine Z5 ?_;refine Post.cY rfl (()) (by trivial) (aF.cZ [0,1,2,5] [3,4] rfl rfl) rfl
   have hn0:bn K x (bK c).pl (m1,cq)=none:=(by cases h9:bn K x (bK c).pl (m1,cq) with|none=>rfl|some s9=>exact absurd (by rw[h9];rfl) c3);rw[hn0];refine Z7 ?_;refine .own (aF.perm (Perm.idx [3,4,0,1,2,5] rfl rfl)) (bS.round 1 ⟨by decide,λ_=>(by first|exact hn0|rfl),λh=>absurd h (by decide),λh=>absurd h (by decide),λh=>absurd h (by decide)⟩ (by omega) rfl ?_);exact(.get rfl (aa.int rfl) ((.keep 11 rfl rfl)))
  ·
   refine Z1 ?_;refine .p (fL FU.out FC.out FA.out (.t rfl) rfl (.t rfl) rfl rfl) rfl ?_;refine Z9 ?_;refine .n (xh (rest:=[_,_,_,_]) (Pz (m:=m1) (c:=cq) (at_:=(bK c).pl) ak JE) FB.out (.t rfl) (.cons (.t rfl) (.cons (.t rfl) .nil)) (Perm.idx [2,3,0,1,4,5] rfl rfl)) rfl λg59 h59=>?_;refine Z2 ?_;refine Cd (λc3=>?_) λc3=>?_
   ·
    have hn0:bn K x (bK c).pl (m1,cq)=none:=hk.2.1 (by decide);obtain⟨s9,Xj⟩:=Option.isSome_iff_exists.1 c3;have hD:yg K Z x (bK c).pl (m1,cq)=(m1,s9):=by unfold yg;simp only[hn0,Xj]
    rw[Xj,hD];refine Z5 ?_;refine Post.cY rfl (()) (by trivial) (aF.cZ [0,1,4,5] [2,3] rfl rfl) rfl
   have hn0:bn K x (bK c).pl (m1,cq)=none:=hk.2.1 (by decide);have BW:bz K x cq=none:=(by cases h9:bz K x cq with|none=>rfl|some s9=>exact absurd (by rw[h9];rfl) c3);rw[BW];refine Z7 ?_;refine .own (aF.perm (Perm.idx [2,3,0,1,4,5] rfl rfl)) (bS.round 2 ⟨by decide,λ_=>(by first|exact hn0|rfl),λ_=>(by first|exact BW|rfl),λh=>absurd h (by decide),λh=>absurd h (by decide)⟩ (by omega) rfl ?_);exact(.get rfl (aa.int rfl) ((.keep 11 rfl rfl)))
  ·
   refine Z1 ?_;refine .p (fL FU.out FC.out FA.out (.t rfl) rfl (.t rfl) rfl rfl) rfl ?_;refine Z9 ?_;refine .n (xh (rest:=[_,_,_,_,_,_]) (PJ (b:=b) (x:=x) (at_:=(bK c).pl) JE.Xa) FB.out (.t rfl) (.cons (.t rfl) (.cons (.t rfl) .nil)) (Perm.idx [0,1,2,3,4,5] rfl rfl)) rfl λg59 h59=>?_;refine Z2 ?_;refine CT λc3=>?_;have hn0:bn K x (bK c).pl (m1,cq)=none:=hk.2.1 (by decide);have BW:bz K x cq=none:=hk.2.2.1 (by decide);have hn2:ey K Z x (m1,cq)=none:=if_neg (λh=>by(obtain⟨h1,h2,h3⟩:=JE.Xa;rcases h with h|h|h;exact h1 h;exact h2 h;exact h3 h));refine Z7 ?_;refine .round 3 ⟨by decide,λ_=>(by first|exact hn0|rfl),λ_=>(by first|exact BW|rfl),λ_=>(by first|exact hn2|rfl),λh=>absurd h (by decide)⟩ (by omega) rfl ?_;exact(.get rfl (aa.int rfl) ((.keep 11 rfl rfl)))
  refine Z1 ?_;refine .p (fL FU.out FC.out FA.out (.t rfl) rfl (.t rfl) rfl rfl) rfl ?_;refine Z9 ?_;refine .n (xh (rest:=[_,_,_]) (Fo (m:=m1) (c:=cq) (at_:=(bK c).pl) ak Dc JE.w) FB.out (.t rfl) (.cons (.t rfl) (.cons (.t rfl) .nil)) (Perm.idx [2,3,5,0,1,4] rfl rfl)) rfl λg59 h59=>?_;refine Z2 ?_;refine Cd (λc3=>?_) λc3=>?_
  ·
   have hn0:bn K x (bK c).pl (m1,cq)=none:=hk.2.1 (by decide);have BW:bz K x cq=none:=hk.2.2.1 (by decide);have hn2:ey K Z x (m1,cq)=none:=hk.2.2.2.1 (by decide);obtain⟨s9,Xj⟩:=Option.isSome_iff_exists.1 c3;have hD:yg K Z x (bK c).pl (m1,cq)=s9:=by unfold yg;simp only[hn0,BW,hn2,Xj];rfl
   rw[Xj,hD];refine Z5 ?_;refine Post.cY rfl (()) (by trivial) (aF.cZ [0,1,5,2] [3,4] rfl rfl) rfl
  have hn0:bn K x (bK c).pl (m1,cq)=none:=hk.2.1 (by decide);have BW:bz K x cq=none:=hk.2.2.1 (by decide);have hn2:ey K Z x (m1,cq)=none:=hk.2.2.2.1 (by decide);have YZ:cH K x (m1,cq)=none:=(by cases h9:cH K x (m1,cq) with|none=>rfl|some s9=>exact absurd (by rw[h9];rfl) c3);rw[YZ];refine Z7 ?_;refine .own (aF.perm (Perm.idx [3,4,0,1,5,2] rfl rfl)) (bS.round 4 ⟨by decide,λ_=>(by first|exact hn0|rfl),λ_=>(by first|exact BW|rfl),λ_=>(by first|exact hn2|rfl),λ_=>(by first|exact YZ|rfl)⟩ (by omega) rfl ?_);exact(.get rfl (aa.int rfl) ((.keep 11 rfl rfl)))
 have vb:k=4:=by omega
 subst vb;have hn0:bn K x (bK c).pl (m1,cq)=none:=hk.2.1 (by decide);have BW:bz K x cq=none:=hk.2.2.1 (by decide);have hn2:ey K Z x (m1,cq)=none:=hk.2.2.2.1 (by decide);have YZ:cH K x (m1,cq)=none:=hk.2.2.2.2 (by decide);have hD:yg K Z x (bK c).pl (m1,cq)=(m1,cq):=by unfold yg;simp only[hn0,BW,hn2,YZ];rfl
 rw[hD];refine Z4 ?_;refine Post.cY rfl (()) (by trivial) (aF.cZ [2,3,4,5] [0,1] rfl rfl) rfl
theorem rP{Z:Nat}(ak:oe A K)(aR:T3 K)(bO:bs.length=K.own.length)(dO:fC K (m,c))(jE:m.fuel+m.bB<=1000000)(sx:∀i,i<K.own.length->∀x∈(K.made i).body.L,Sz K x)(Ce:∀i x,x∈(K.made i).body.L->CI K.m x)(DZ:K.own.length=K.m.aq.length):bu Wo 32 [ax b 0] [dZ A K (mE b F bs) m,aX A K c,eU (K.own.zip bs),nt 1 .u8 Lib.deBruijn64tab] (γ:=Nat) (λn=>(bl K Z n (m,c)).1.over=true) (λn=>[dZ A K (mE b F bs) {(bl K Z n (m,c)).1 with over:=false},aX A K (bl K Z n (m,c)).2,eU (K.own.zip bs),nt 1 .u8 Lib.deBruijn64tab]) (λn=>aC (kr (bl K Z n (m,c)).1.out)):=by
 refine In 17 Tryz.func32 λ_ _ _=>?_;refine Z2 ?_;refine .n (au FZ.out) rfl λb2 _=>?_;refine Z4 ?_;refine .bk (σ:=Nat) (λn=>[az b2 (List.map ag [.int .i64 0, .slice none 0 0, .int .i64 0, .int .i64 0, .int .i64 0]),dZ A K (mE b F bs) (bl K Z n (m,c)).1,aX A K (bl K Z n (m,c)).2,eU (K.own.zip bs),nt 1 .u8 Lib.deBruijn64tab]) (λn=>[]) (λn=>fC K (bl K Z n (m,c))) (λn=>ZS K (bl K Z n (m,c))) 0 dO rfl ?_ ?_
 · exact(.refl _ _)
 rintro n hi;have hsum:=oR (K:=K) (Z:=Z) n (m,c);simp only at hsum;refine cC ?_;refine Cd (λc0=>?_) λc0=>?_
 ·
  have ho:(bl K Z n (m,c)).1.over=false:=Bool.eq_false_iff.2 (λh=>c0 (Bk.2 h));have l6:(bl K Z (n+1) (m,c))=eR K Z (bl K Z n (m,c)):=by rw[vL n 1];show(if (bl K Z n (m,c)).1.over=true then _ else _)=_;rw[if_neg (by rw[ho];exact Bool.false_ne_true)];rfl
  refine Z5 ?_;refine .n (hH [_] [1,2,3,4,0] (h:=Ls (m:=(bl K Z n (m,c)).1) (c:=(bl K Z n (m,c)).2) (Z:=Z) ak aR bO (hi.run ho) hi.c.dS hi.c.tb ho (by omega) (by omega) sx)) rfl λg9 h9=>?_;refine Z1 ?_;refine .r9 λr7=>?_;refine Z1 ?_;refine .own (aF.perm (Perm.idx [4,0,1,2,3] rfl rfl)) (bS.round (n+1) (by rw[l6];exact SS hi Ce DZ) (by rw[l6];exact SU ho (hi.run ho) r7.fl) (by rw[l6];rfl) ?_);exact((.keep 7 rfl rfl))
 have ho:(bl K Z n (m,c)).1.over=true:=Bk.1 (Classical.not_not.1 c0);refine zE ?_;refine .p ((mP (i:=1) FA.out FC.out rfl (.t rfl) rfl rfl).le ((by exact show aa _ (aC (kr (bl K Z n (m,c)).1.out)) from aa.refl _))) rfl ?_;refine Z4 ?_;refine Post.aS rfl (n) (by exact ho) (aF.cZ [1,2,3,4] [0] rfl rfl) (.ra (i:=0) FA.out FC.out rfl rfl rfl rfl) ?_;exact aa.refl _
theorem BY:dF Wo 344 [aC (aB x)] (af .i64 (uQ x)):=by
 refine In 15 Tryz.func344 λ_ _ _=>?_;refine cC ?_;refine .p (cA (h:=find_spec)) rfl ?_;refine Z3 ?_;refine .n (au FZ.out) rfl λb3 _=>?_;refine Z4 ?_;refine .share (t:=3) (i:=0) rfl rfl ?_;refine Z7 ?_;refine Cd (λc0=>?_) λc0=>?_
 ·
  have hf:eZ x.Code=none:=by simpa using c0
  refine Z7 ?_;refine br ?_;exact aa.int (by unfold uQ;rw[hf];rfl)
 obtain⟨i,hf⟩:=Option.isSome_iff_exists.1 (Classical.not_not.1 c0);refine cC ?_;refine br ?_;exact aa.int (by unfold uQ;rw[hf];rfl)
theorem mM{b al l:Int}:dF Wo 387 [aC (aB x),af .u64 (b),af .i64 (al),af .i64 (l)] (av (x.B=b/\x.ei=al/\(x.L.length:Int)=l)):=by
 refine In 26 Tryz.func387 λ_ _ _=>?_;refine Z29 ?_;refine br ?_;exact aa.prop and_assoc
theorem CQ{n:Int}:dF Wo 388 [af .u64 (n)] (av (n=64\/n=127\/n=126)):=by
 refine In 13 Tryz.func388 λ_ _ _=>?_;refine XR ?_;refine br ?_;exact aa.prop or_assoc
theorem jS{n:Int}:dF Wo 389 [af .u64 (n)] (av (um n)):=by
 refine In 5 Tryz.func389 λ_ _ _=>?_;refine kL ?_;refine br ?_;exact aa.refl _
theorem Fp{n:Int}:dF Wo 391 [af .u64 (n)] (av (¬um n)):=by
 refine In 6 Tryz.func391 λ_ _ _=>?_;refine Z8 ?_;refine .p (cA (h:=jS)) rfl ?_;refine Z5 ?_;refine br ?_;exact aa.refl _
theorem IP{l:List Int}{p:Int->Prop}:dF Wo 421 [ai 1 eo l,pV Wo (λ_:Int=>True) (λx=>[af .u64 x]) (λx=>av (p x))] (af .i64 (sr p l)):=by
 refine In 19 Tryz.func421 λ_ _ _=>?_;refine .fact (t:=0) rfl (λS w v h=>cw h) λhlen=>?_;refine ij ?_;refine .bk (σ:=Nat) (λ_=>[]) (λk=>[(8,af .i64 (k:Int))]) (λk=>k<=l.length/\dJ p l k) (λk=>l.length-k) 0 ⟨by omega,dJ.zero p l⟩ rfl ?_ ?_
 · exact(.get rfl (aa.refl _) (.refl _ _))
 rintro k ⟨hk,hnot⟩;refine Z6 ?_;refine Cd (λc0=>?_) λc0=>?_
 ·
  obtain⟨x,hx⟩:=ah (xs:=l) (k:=k) (by omega);refine oA ?_;refine .p (cI _) rfl ?_;refine Z1 ?_;refine .p (cV x) rfl ?_;refine Z2 ?_;refine Cd (λc1=>?_) λc1=>?_
  ·
   refine eB ?_;refine br ?_;exact aa.int (ud hx (by assumption) hnot).symm
  refine Z7 ?_;refine .round (k+1) ⟨by omega,hnot.succ hx (by assumption)⟩ (by omega) rfl ?_;exact(.get rfl (aa.int (by omega)) (.keep 12 rfl rfl))
 refine dh ?_;refine br ?_;exact aa.int (qn (hnot.all (by omega))).symm
theorem IQ{l:List Int}{p:Int->Prop}:dF Wo 390 [ai 1 eo l,pV Wo (λ_:Int=>True) (λx=>[af .u64 x]) (λx=>av (p x))] (av (∃x∈l,p x)):=by
 refine In 9 Tryz.func390 λ_ _ _=>?_;refine Z9 ?_;refine .p (cA (h:=IP)) rfl ?_;refine Z5 ?_;refine br ?_;exact aa.prop jI
theorem y8(ak:0<=x.A)(aR:0<=x.B):dF Wo 340 [aC (aB x)] (av (iH x)):=by
 refine In 114 Tryz.func340 λ_ _ _=>?_;have hR:=R4 ak aR;generalize hF:uQ x=fi at hR;refine cC ?_;refine .p ((cA (h:=BY)).le (aa.int hF)) rfl ?_;refine Z9 ?_;refine Cd (λc0=>?_) λc0=>?_
 ·
  refine Z7 ?_;refine .g (de.gT rfl rfl rfl rfl (λhg=>cg (mM) FB.out (.cons (.when (.t rfl) hg) (.cons (.c _) (.cons (.c _) (.cons (.c _) .nil)))))) rfl rfl ?_;refine Z7 ?_;refine br ?_;exact aa.prop (by rw[hR];unfold nB pI;simp[*,List.length_eq_zero_iff,Int.natCast_eq_zero,and_assoc,um]<;>omega)
 refine Z6 ?_;refine Cd (λc1=>?_) λc1=>?_
 ·
  refine Z4 ?_;refine .p (cA (h:=CQ)) rfl ?_;refine Z2 ?_;refine .g (de.gT rfl rfl rfl rfl (λhg=>cg (mM) FB.out (.cons (.when (.t rfl) hg) (.cons (.c _) (.cons (.c _) (.cons (.c _) .nil)))))) rfl rfl ?_;refine Z7 ?_;refine br ?_;exact aa.prop (by rw[hR];unfold nB pI;simp[*,List.length_eq_zero_iff,Int.natCast_eq_zero,and_assoc,um]<;>omega)
 refine .cut (σ:=Unit) (λ_=>[]) (λ_=>[(24,av (fi=2\/fi=4\/fi=6\/fi=7\/fi=9))]) (λ_=>True) ?_ ?_
 ·
  refine Z6 ?_;refine Cd (λc2=>?_) λc2=>?_
  ·
   refine Z1 ?_;refine .meet () trivial rfl (.get rfl (aa.prop (by omega)) (.keep 2 rfl rfl))
  refine Z6 ?_;refine Cd (λc3=>?_) λc3=>?_
  ·
   refine Z1 ?_;refine .meet () trivial rfl (.get rfl (aa.prop (by omega)) (.keep 4 rfl rfl))
  refine Z6 ?_;refine Cd (λc4=>?_) λc4=>?_
  ·
   refine Z1 ?_;refine .meet () trivial rfl (.get rfl (aa.prop (by omega)) (.keep 6 rfl rfl))
  refine Z6 ?_;refine Cd (λc5=>?_) λc5=>?_
  ·
   refine Z1 ?_;refine .meet () trivial rfl (.get rfl (aa.prop (by omega)) (.keep 8 rfl rfl))
  refine Z4 ?_;refine .meet () trivial rfl (.get rfl (aa.prop (by omega)) (.keep 10 rfl rfl))
 intro _ _;refine Cd (λc6=>?_) λc6=>?_
 ·
  refine Z4 ?_;refine .p (cA (h:=jS)) rfl ?_;refine Z2 ?_;refine .g (de.gT rfl rfl rfl rfl (λhg=>cg (mM) FB.out (.cons (.when (.t rfl) hg) (.cons (.c _) (.cons (.c _) (.cons (.c _) .nil)))))) rfl rfl ?_;refine Z7 ?_;refine br ?_;exact aa.prop (by rw[hR];unfold nB pI;simp[*,List.length_eq_zero_iff,Int.natCast_eq_zero,and_assoc,um]<;>omega)
 refine Z6 ?_;refine Cd (λc7=>?_) λc7=>?_
 ·
  refine Z4 ?_;refine .p (cg (IQ (l:=x.L) (p:=λn=>¬um n)) FB.out (.cons (.t rfl) (.cons (.le (.f _) (tU FB.out (λ(n:Int) (_:True)=>Fp (n:=n)))) .nil))) rfl ?_;refine Z7 ?_;refine .p (cA (h:=jS)) rfl ?_;refine oA ?_;refine .g (de.gT rfl rfl rfl rfl (λhg=>cg (mM) FB.out (.cons (.when (.t rfl) hg) (.cons (.c _) (.cons (.c _) (.cons (.when (.t rfl) hg) .nil)))))) rfl rfl ?_;refine Z7 ?_;refine br ?_;exact aa.prop (by rw[hR];unfold nB pI;simp[*,List.length_eq_zero_iff,Int.natCast_eq_zero,and_assoc,um]<;>omega)
 refine .cut (σ:=Unit) (λ_=>[]) (λ_=>[(62,av (fi=5\/fi=10))]) (λ_=>True) ?_ ?_
 ·
  refine Z6 ?_;refine Cd (λc8=>?_) λc8=>?_
  ·
   refine Z1 ?_;refine .meet () trivial rfl (.get rfl (aa.prop (by omega)) (.keep 2 rfl rfl))
  refine Z4 ?_;refine .meet () trivial rfl (.get rfl (aa.prop (by omega)) (.keep 4 rfl rfl))
 intro _ _;refine Cd (λc9=>?_) λc9=>?_
 ·
  refine Z4 ?_;refine .p (cA (h:=jS)) rfl ?_;refine Z3 ?_;refine .g (de.gT rfl rfl rfl rfl (λhg=>cg (jS) FB.out (.cons (.when (.t rfl) hg) .nil))) rfl rfl ?_;refine Z5 ?_;refine .g (de.gT rfl rfl rfl rfl (λhg=>cg (mM) FB.out (.cons (.when (.t rfl) hg) (.cons (.when (.t rfl) hg) (.cons (.c _) (.cons (.c _) .nil)))))) rfl rfl ?_;refine Z7 ?_;refine br ?_;exact aa.prop (by rw[hR];unfold nB pI;simp[*,List.length_eq_zero_iff,Int.natCast_eq_zero,and_assoc,um]<;>omega)
 refine Z6 ?_;refine Cd (λlZ=>?_) λlZ=>?_
 ·
  refine Z4 ?_;refine .p (cA (h:=jS)) rfl ?_;refine Z22 ?_;refine br ?_;exact aa.prop (by rw[hR];unfold nB pI;simp[*,List.length_eq_zero_iff,Int.natCast_eq_zero,and_assoc,um]<;>omega)
 refine Z6 ?_;refine Cd (λn8=>?_) λn8=>?_
 ·
  refine Z8 ?_;refine .g (de.gF rfl rfl rfl rfl (λhg=>cg (jS) FB.out (.cons (.when (.t rfl) hg) .nil))) rfl rfl ?_;refine Z3 ?_;refine .g (de.gT rfl rfl rfl rfl (λhg=>cg (mM) FB.out (.cons (.when (.t rfl) hg) (.cons (.c _) (.cons (.c _) (.cons (.c _) .nil)))))) rfl rfl ?_;refine Z7 ?_;refine br ?_;exact aa.prop (by rw[hR];unfold nB pI;simp[*,List.length_eq_zero_iff,Int.natCast_eq_zero,and_assoc,um]<;>omega)
 refine Z9 ?_;refine br ?_;exact aa.prop (by rw[hR];unfold nB pI;simp[*,List.length_eq_zero_iff,Int.natCast_eq_zero,and_assoc,um]<;>omega)
variable {g:SB} {xs:List UInt8}
theorem uz(ak:n<18446744073709551616)(aR:xs.length<=100000):bu Wo 270 [ag (bI g xs.length),af .u64 ((n:Int))] [aH g 1 an xs] (γ:=SB×List UInt8) (λz=>z.2.length=xs.length+gy n) (λz=>[aH z.1 1 an z.2]) (λz=>ag (bI z.1 z.2.length)):=by
 refine In 21 Tryz.func270 λ_ _ _=>?_;have PM:=ew ak;refine Z7 ?_;refine .bk (σ:=SB×List UInt8×Nat) (λz=>[aH z.1 1 an z.2.1]) (λz=>[(0,ag (bI z.1 z.2.1.length)),(1,af .u64 (z.2.2:Int))]) (λz=>z.2.1.length+gy z.2.2=xs.length+gy n/\z.2.2<=n) (λz=>z.2.2) (g,xs,n) ⟨rfl,Nat.le_refl _⟩ rfl ?_ ?_
 · exact(.get rfl (aa.refl _) (.get rfl (aa.refl _) (.refl _ _)))
 rintro⟨g1,ys,j⟩ ⟨hl,hk⟩;simp only at hl hk ⊢;refine Z7 ?_;refine Cd (λc0=>?_) λc0=>?_
 ·
  refine Z7 ?_;refine .p ((cO FU.out FU.out (.t rfl)).le (aa.int (show _=((j%256:Nat):Int) by rw[pK];omega))) rfl ?_;refine .p (A4 (b:=127) (by omega) (by decide) (.t rfl) (.c _)) rfl ?_;refine .p ((M0 (b:=128) (Hi _) (by decide) (.t rfl) (.c _)).le (pL (R3 (Hi _)))) rfl ?_;refine .p (cB an [(UInt8.ofNat ((j%256 &&& 127)|||128))]) rfl ?_;refine .n (aK (i:=0) FU.out FU.out FC.out rfl FZ.out rfl FY.out (.t rfl) (.t rfl) rfl (by simp only[List.length_cons,List.length_nil];omega) (by simp only[List.length_cons,List.length_nil];omega)) rfl λZ0 _=>?_;refine Z5 ?_;refine .p ((kn (s:=7) (.t rfl) (.c _) (by decide)).le (aa.int (show((j/2^7:Nat):Int)=((j/128:Nat):Int) from rfl))) rfl ?_;refine Z3 ?_;refine .round (Z0,ys++[(UInt8.ofNat ((j%256 &&& 127)|||128))],j/128) ⟨by(show(ys++[_]).length+gy (j/128)=_;rw[List.length_append];simp only[List.length_cons,List.length_nil];have:=zJ (n:=j) (by omega);omega),by show j/128<=n;omega⟩ (by show j/128<j;omega) rfl ?_;exact(.get rfl (aa.refl _) (.get rfl (aa.refl _) ((.keep 15 rfl rfl))))
 refine Z9 ?_;refine .p ((cO FU.out FU.out (.t rfl)).le (aa.trans (aa.int (show _=((j:Nat):Int) by rw[pK];omega)) (pL (by omega)))) rfl ?_;refine .p (cB an [UInt8.ofNat j]) rfl ?_;refine .n (aK (i:=0) FU.out FU.out FC.out rfl FZ.out rfl FY.out (.t rfl) (.t rfl) rfl (by simp only[List.length_cons,List.length_nil];omega) (by simp only[List.length_cons,List.length_nil];omega)) rfl λT8 _=>?_;refine Z4 ?_;refine Post.aS rfl ((T8,ys++[UInt8.ofNat j])) (by exact(by(show(ys++[_]).length=_;rw[List.length_append];simp only[List.length_cons,List.length_nil];have:=wT (n:=j) (by omega);omega))) (λ_ _ _ h=>h) (.rt rfl) ?_;exact aa.refl _
theorem IS(ak:a<=1000):dF Wo 429 [af .i64 ((a:Int))] (af .i64 ((((a+6)/7:Nat):Int))):=by
 refine In 7 Tryz.func429 λ_ _ _=>?_;refine cC ?_;refine .p (WG (.t rfl) (.c _) (by omega) (by omega) bY) rfl ?_;refine Z4 ?_;refine br ?_;exact aa.int (by omega)
theorem IT{n:Int}(ak: -9223372036854775808<=n)(aR:n<=9223372036854775807):dF Wo 422 [af .i64 (n)] (af .i64 ((kI n:Int))):=by
 refine In 12 Tryz.func422 λ_ _ _=>?_;refine Z5 ?_;refine .cut (σ:=Unit) (λ_=>[]) (λ_=>[(0,af .i64 (if n<0 then-n-1 else n))]) (λ_=>True) ?_ ?_
 ·
  refine Z6 ?_;refine Cd (λc0=>?_) λc0=>?_
  ·
   refine Z2 ?_;refine .p (OQ ak aR (.t rfl)) rfl ?_;refine Z2 ?_;refine .meet () trivial rfl (.get rfl (aa.int (by rw[if_pos c0])) (.keep 5 rfl rfl))
  refine Z1 ?_;refine .meet () trivial rfl (.get rfl (aa.int (by rw[if_neg c0])) (.keep 2 rfl rfl))
 intro _ _;have ht:0<=(if n<0 then-n-1 else n)/\(if n<0 then-n-1 else n)<=9223372036854775807:=by split<;>omega
 generalize htn:(if n<0 then-n-1 else n)=t at ht;have cd4:=af8 (a:=t.toNat) (by omega);have hls:kI n=(xL t.toNat+7)/7:=by rw[Vc,<-htn];split<;>rfl
 refine Z4 ?_;refine .p (cg (Bt (a:=t.toNat) (by omega)) FB.out (.cons (.le (.t rfl) (aa.int (show t=((t.toNat:Nat):Int) by omega))) .nil)) rfl ?_;refine .p ((ez (.t rfl) (.c _) bY).le (aa.int (show _=((xL t.toNat+1:Nat):Int) by omega))) rfl ?_;refine .p (cA (h:=IS (a:=xL t.toNat+1) (by omega))) rfl ?_;refine Z4 ?_;refine br ?_;exact aa.int (by rw[hls])
theorem Lt{n:Int}(ak: -9223372036854775808<=n)(aR:n<=9223372036854775807)(bO:xs.length<=100000):bu Wo 393 [ag (bI g xs.length),af .i64 (n)] [aH g 1 an xs] (γ:=SB×List UInt8) (λz=>z.2.length=xs.length+kI n) (λz=>[aH z.1 1 an z.2]) (λz=>ag (bI z.1 z.2.length)):=by
 refine In 27 Tryz.func393 λ_ _ _=>?_;have PM:=zK ak (by omega:n<9223372036854775808);have Ci:=GZ n;refine Z9 ?_;refine .p (cA (h:=IT ak aR)) rfl ?_;refine Z4 ?_;refine .bk (σ:=SB×List UInt8×Nat×Int) (λz=>[aH z.1 1 an z.2.1]) (λz=>[(0,ag (bI z.1 z.2.1.length)),(1,af .i64 z.2.2.2),(5,af .i64 (z.2.2.1:Int))]) (λz=>z.2.1.length+z.2.2.1=xs.length+kI n/\1<=z.2.2.1) (λz=>z.2.2.1) (g,xs,kI n,n) ⟨rfl,Ci⟩ rfl ?_ ?_
 · exact(.get rfl (aa.refl _) (.get rfl (aa.refl _) (.get rfl (aa.refl _) (.refl _ _))))
 rintro⟨g1,ys,j,v⟩ ⟨hl,hk⟩;simp only at hl hk ⊢;refine Z7 ?_;refine Cd (λc0=>?_) λc0=>?_
 ·
  refine Z8 ?_;refine .p ((cO FU.out FU.out (.t rfl)).le (aa.int (show _=(((v%256).toNat%256:Nat):Int) by rw[pK];omega))) rfl ?_;refine .p (A4 (b:=127) (by omega) (by decide) (.t rfl) (.c _)) rfl ?_;refine .p ((M0 (b:=128) (Hi _) (by decide) (.t rfl) (.c _)).le (pL (R3 (Hi _)))) rfl ?_;refine .p (cB an [(UInt8.ofNat (((v%256).toNat%256 &&& 127)|||128))]) rfl ?_;refine .n (aK (i:=0) FU.out FU.out FC.out rfl FZ.out rfl FY.out (.t rfl) (.t rfl) rfl (by simp only[List.length_cons,List.length_nil];omega) (by simp only[List.length_cons,List.length_nil];omega)) rfl λzT _=>?_;refine Z5 ?_;refine .p (My (s:=7) (.t rfl) (.c _) (by decide)) rfl ?_;refine Z9 ?_;refine .round (zT,ys++[(UInt8.ofNat (((v%256).toNat%256 &&& 127)|||128))],j-1,v/2^7) ⟨by(show(ys++[_]).length+(j-1)=_;rw[List.length_append];simp only[List.length_cons,List.length_nil];omega),by show 1<=j-1;omega⟩ (by show j-1<j;omega) rfl ?_;exact(.get rfl (aa.refl _) (.get rfl (aa.refl _) (.get rfl (aa.int (by show(_:Int)=((j-1:Nat):Int);omega)) ((.keep 19 rfl rfl)))))
 refine Z9 ?_;refine .p ((cO FU.out FU.out (.t rfl)).le (aa.int (show _=(((v%256).toNat%256:Nat):Int) by rw[pK];omega))) rfl ?_;refine .p ((A4 (b:=127) (by omega) (by decide) (.t rfl) (.c _)).le (pL (Hi _))) rfl ?_;refine .p (cB an [UInt8.ofNat ((v%256).toNat%256 &&& 127)]) rfl ?_;refine .n (aK (i:=0) FU.out FU.out FC.out rfl FZ.out rfl FY.out (.t rfl) (.t rfl) rfl (by simp only[List.length_cons,List.length_nil];omega) (by simp only[List.length_cons,List.length_nil];omega)) rfl λIF _=>?_;refine Z4 ?_;refine Post.aS rfl ((IF,ys++[UInt8.ofNat ((v%256).toNat%256 &&& 127)])) (by exact(by(show(ys++[_]).length=_;rw[List.length_append];simp only[List.length_cons,List.length_nil];omega))) (λ_ _ _ h=>h) (.rt rfl) ?_;exact aa.refl _
theorem kY{l:List Int}(ak:∀n∈l,0<=n/\n<18446744073709551616)(aR:xs.length<=50000)(bO:l.length<=200):bu Wo 345 [ag (bI g xs.length),ai 1 eo l] [aH g 1 an xs] (γ:=SB×List UInt8) (λz=>z.2.length=xs.length+s8 l) (λz=>[aH z.1 1 an z.2]) (λz=>ag (bI z.1 z.2.length)):=by
 refine In 18 Tryz.func345 λ_ _ _=>?_;refine ij ?_;refine .bk (σ:=SB×List UInt8×Nat) (λz=>[aH z.1 1 an z.2.1]) (λz=>[(0,ag (bI z.1 z.2.1.length)),(9,af .i64 (z.2.2:Int))]) (λz=>z.2.1.length=xs.length+s8 (l.take z.2.2)/\z.2.2<=l.length) (λz=>l.length-z.2.2) (g,xs,0) ⟨by simp[s8],Nat.zero_le _⟩ rfl ?_ ?_
 · exact(.get rfl (aa.refl _) (.get rfl (aa.refl _) (.refl _ _)))
 rintro⟨g1,ys,j⟩ ⟨hl,hk⟩;simp only at hl hk ⊢;have hsu:=rE (l.take j) (λn hn=>ak n (List.mem_of_mem_take hn));have htl:(l.take j).length<=l.length:=by simp;omega
 refine Z6 ?_;refine Cd (λc0=>?_) λc0=>?_
 ·
  obtain⟨x,hx⟩:=ah (xs:=l) (k:=j) (by omega);obtain⟨hx0,cd5⟩:=ak x (List.mem_of_getElem? hx);refine Z6 ?_;refine .p (cI j (h:=hx)) rfl ?_;refine Z7 ?_;refine .n (eV (rest:=[]) (uz (n:=x.toNat) (by omega) (by omega)) FB.out (.cons (.t rfl) (.cons (.le (.t rfl) (aa.int (show x=((x.toNat:Nat):Int) by omega))) .nil)) (Perm.idx [0] rfl rfl)) rfl λyx NA=>?_;refine Z8 ?_;refine .round (yx.1,yx.2,j+1) ⟨by(show yx.2.length=_;rw[NA,hl,<-bE hx,DG];unfold bU;omega),by show j+1<=_;omega⟩ (by show l.length-(j+1)<l.length-j;omega) rfl ?_;exact(.get rfl (aa.refl _) (.get rfl (aa.int (by show(_:Int)=((j+1:Nat):Int);omega)) ((.keep 12 rfl rfl))))
 have hjl:l.take j=l:=List.take_of_length_le (by omega);refine eB ?_;refine Post.aS rfl ((g1,ys)) (by exact(by(show ys.length=_;rw[hl,hjl]))) (λ_ _ _ h=>h) (.rt rfl) ?_;exact aa.refl _
theorem Lu(ak:iO x.Code≠[]):bu Wo 343 [aC (aB x)] [] (γ:=SB×List UInt8) (λz=>z.2.length=pM x) (λz=>[aH z.1 1 an z.2]) (λz=>ag (bI z.1 z.2.length)):=by
 refine In 16 Tryz.func343 λ_ _ _=>?_;have hci:=zP ak;refine ij ?_;refine Cd (λc0=>?_) λc0=>?_
 ·
  refine Z4 ?_;refine .p ((cO FU.out FU.out (.t rfl)).le (aa.trans (aa.int (show _=((x.Code.toNat:Nat):Int) by rw[pK];omega)) (pL (by omega)))) rfl ?_;refine .n (dM an [UInt8.ofNat x.Code.toNat] FU.out FC.out rfl FZ.out rfl (.cons (.t rfl) .nil) rfl rfl rfl rfl rfl) rfl λg9 _=>?_;refine Z5 ?_;refine Post.aS rfl ((g9,[UInt8.ofNat x.Code.toNat])) (by exact(by unfold pM;rw[if_neg (by omega)];rfl)) (λ_ _ _ h=>h) (.rt rfl) ?_;exact aa.refl _
 refine Z4 ?_;refine .n (dM an [252] FU.out FC.out rfl FZ.out rfl (.cons (.c _) .nil) rfl rfl rfl rfl rfl) rfl λDN _=>?_;refine Z4 ?_;refine .n (eV (rest:=[]) (uz (xs:=[252]) (n:=(x.Code-64512).toNat) (by omega) (by simp)) FB.out (.cons (.t rfl) (.cons (.le (.t rfl) (aa.int (show x.Code-64512=(((x.Code-64512).toNat:Nat):Int) by omega))) .nil)) (Perm.idx [0] rfl rfl)) rfl λyx NA=>?_;refine Z4 ?_;refine Post.aS rfl (yx) (by exact(by rw[NA];unfold pM;rw[if_pos (by omega)];rfl)) (λ_ _ _ h=>h) (.rt rfl) ?_;exact aa.refl _
theorem PN(ak:0<=x.A)(aR:x.A<18446744073709551616)(bO:0<=x.B)(dO:x.B<18446744073709551616)(jE:0<=x.ei)(sx:x.ei<=31)(Ce:xs.length<=50000):bu Wo 346 [aC (aB x),ag (bI g xs.length)] [aH g 1 an xs] (γ:=SB×List UInt8) (λz=>z.2.length=xs.length+Kx x) (λz=>[aH z.1 1 an z.2]) (λz=>ag (bI z.1 z.2.length)):=by
 refine In 27 Tryz.func346 λ_ _ _=>?_;refine ij ?_;refine Cd (λc0=>?_) λc0=>?_
 ·
  refine Z8 ?_;refine .p (cB eo [x.ei,x.B]) rfl ?_;refine .n (cE (h:=kY (l:=[x.ei,x.B]) (by simp;omega) Ce (by simp))) rfl λyx NA=>?_;refine Z5 ?_;refine Post.aS rfl (yx) (by exact(by rw[NA];unfold Kx;rw[if_pos c0];simp[s8])) (λ_ _ _ h=>h) (.rt rfl) ?_;exact aa.refl _
 refine kL ?_;refine .p (cB eo [x.ei+64,x.A,x.B]) rfl ?_;refine .n (cE (h:=kY (l:=[x.ei+64,x.A,x.B]) (by simp;omega) Ce (by simp))) rfl λIF Px=>?_;refine Z4 ?_;refine Post.aS rfl (IF) (by exact(by rw[Px];unfold Kx;rw[if_neg c0];simp[s8];omega)) (λ_ _ _ h=>h) (.rt rfl) ?_;exact aa.refl _
theorem Lv(ak:0<=x.A)(aR:x.A<18446744073709551616)(bO:x.Code=65\/x.Code=66)(dO:x.Code=65->x.A<=4294967295)(jE:xs.length<=50000):bu Wo 347 [aC (aB x),ag (bI g xs.length)] [aH g 1 an xs] (γ:=SB×List UInt8) (λz=>z.2.length=xs.length+kI (lu x)) (λz=>[aH z.1 1 an z.2]) (λz=>ag (bI z.1 z.2.length)):=by
 refine In 19 Tryz.func347 λ_ _ _=>?_;refine cC ?_;refine .p ((cO FU.out FU.out (.t rfl)).le (aa.int (M3 ak aR))) rfl ?_;refine Z3 ?_;refine .cut (σ:=Unit) (λ_=>[aH g 1 an xs]) (λ_=>[(5,af .i64 (lu x))]) (λ_=>True) ?_ ?_
 ·
  refine Z7 ?_;refine Cd (λc0=>?_) λc0=>?_
  ·
   refine Z3 ?_;refine .p ((cO FU.out FU.out (.t rfl)).le (aa.int (Vd ak (dO (by omega))))) rfl ?_;refine .p (jW FU.out FU.out (.t rfl) (cM (by split<;>omega) (by split<;>omega))) rfl ?_;refine Z2 ?_;refine .meet () trivial rfl (.get rfl (aa.int (by rw[show lu x=(if x.A<2147483648 then x.A else x.A-4294967296) from if_pos (by omega)])) (.keep 8 rfl rfl))
  refine Z1 ?_;refine .meet () trivial rfl (.get rfl (aa.int (by rw[show lu x=(if x.A<9223372036854775808 then x.A else x.A-18446744073709551616) from if_neg (by omega)])) (.keep 3 rfl rfl))
 intro _ _;have hwv: -9223372036854775808<=lu x/\lu x<=9223372036854775807:=by unfold lu;(repeat split)<;>omega
 refine Z4 ?_;refine .n (cE (h:=Lt (n:=lu x) hwv.1 hwv.2 (by omega))) rfl λzT Vz=>?_;refine Z4 ?_;refine Post.aS rfl (zT) (by exact Vz) (λ_ _ _ h=>h) (.rt rfl) ?_;exact aa.refl _
theorem Fq(ak:nJ x)(aR:iH x):bu Wo 271 [aC (aB x)] [] (γ:=List UInt8) (λl=>l.length=nR x) (λ_=>[]) (λl=>aZ [ai 1 an l,af .i64 0]):=by
 refine In 68 Tryz.func271 λ_ _ _=>?_;obtain⟨hf,hne⟩:=Kw ak.A0 ak.B0 aR;obtain⟨r1,r2,r3,r4,r5,r6⟩:=id aR;have hL100:x.L.length<=100:=r6.elim (λh=>by rw[h];simp) (λh=>h.2);have og:=ak.A0;have zu:=ak.wY;have hB0:=ak.B0;have VZ:=ak.B64;have hfb:=vz x.Code;have V0:pM x<=20:=by unfold pM bU;split<;>(try have:=ew (n:=(x.Code-64512).toNat) (by have:=zP hne;omega))<;>omega
 refine dh ?_;refine .p (cA (h:=y8 ak.A0 ak.B0)) rfl ?_;refine Z3 ?_;refine Cd (λc0=>?_) λc0=>?_
 · exact absurd aR c0
 refine Z5 ?_;refine .n (cE (h:=Lu hne)) rfl λg9 h9=>?_;refine Z3 ?_;refine .cut (σ:=SB×List UInt8) (λz=>[aH z.1 1 an z.2]) (λz=>[(4,ag (bI z.1 z.2.length))]) (λz=>z.2.length=nR x) ?_ ?_
 ·
  refine Z3 ?_;refine .p ((cA (h:=BY)).le (aa.int hf)) rfl ?_;refine Z9 ?_;refine Cd (λc1=>?_) λc1=>?_
  ·
   refine Z4 ?_;refine .p ((cO FU.out FU.out (.t rfl)).le (aa.trans (aa.int (show _=((x.A.toNat%256:Nat):Int) by rw[pK];omega)) (pL (by omega)))) rfl ?_;refine .p (cB an [UInt8.ofNat (x.A.toNat%256)]) rfl ?_;refine .n (aK (i:=0) FU.out FU.out FC.out rfl FZ.out rfl FY.out (.t rfl) (.t rfl) rfl (by simp only[List.length_cons,List.length_nil];omega) (by simp only[List.length_cons,List.length_nil];omega)) rfl λJF _=>?_;refine Z3 ?_;refine .meet (JF,g9.2++[UInt8.ofNat (x.A.toNat%256)]) (by(show((JF,g9.2++[UInt8.ofNat (x.A.toNat%256)])).2.length=nR x;rw[iX];rw[if_pos c1];simp[h9])) rfl (.get rfl (aa.refl _) (.keep 11 rfl rfl))
  refine .cut (σ:=Unit) (λ_=>[aH g9.1 1 an g9.2]) (λ_=>[(20,av (aP x.Code=2\/aP x.Code=4\/aP x.Code=6\/aP x.Code=7\/aP x.Code=9))]) (λ_=>True) ?_ ?_
  ·
   refine Z6 ?_;refine Cd (λc2=>?_) λc2=>?_
   ·
    refine Z1 ?_;refine .meet () trivial rfl (.get rfl (aa.prop (by omega)) (.keep 2 rfl rfl))
   refine Z6 ?_;refine Cd (λc3=>?_) λc3=>?_
   ·
    refine Z1 ?_;refine .meet () trivial rfl (.get rfl (aa.prop (by omega)) (.keep 4 rfl rfl))
   refine Z6 ?_;refine Cd (λc4=>?_) λc4=>?_
   ·
    refine Z1 ?_;refine .meet () trivial rfl (.get rfl (aa.prop (by omega)) (.keep 6 rfl rfl))
   refine Z6 ?_;refine Cd (λc5=>?_) λc5=>?_
   ·
    refine Z1 ?_;refine .meet () trivial rfl (.get rfl (aa.prop (by omega)) (.keep 8 rfl rfl))
   refine Z4 ?_;refine .meet () trivial rfl (.get rfl (aa.prop (by omega)) (.keep 10 rfl rfl))
  intro _ _;refine Cd (λc6=>?_) λc6=>?_
  ·
   refine Z4 ?_;refine .p (cB eo [x.A]) rfl ?_;refine .n (cE (h:=kY (l:=[x.A]) (by simp;omega) (by omega) (by simp))) rfl λZW h30=>?_;refine Z3 ?_;refine .meet ZW (by(show(ZW).2.length=nR x;rw[h30,h9,iX];rw[if_neg c1,if_pos c6];simp[s8])) rfl (.get rfl (aa.refl _) (.keep 11 rfl rfl))
  refine Z6 ?_;refine Cd (λc7=>?_) λc7=>?_
  ·
   refine .bt [(0,0),(1,0),(2,0),(3,0),(4,0),(5,0),(7,0),(8,0),(10,0),(11,0),(12,0),(6,2),(9,2)] 13 2 FM.out (by kernel_rfl) (k:= ?_);refine Z5 ?_;refine .p rfl (λ_=>bC (enc:=eo) [(x.L.length:Int)] FU.out FC.out rfl FZ.out rfl (.cons (.t rfl) .nil) rfl rfl rfl rfl rfl) ?_;refine Z4 ?_;refine .p rfl (λ_=>bC (enc:=eo) [x.A] FU.out FC.out rfl FZ.out rfl (.cons (.t rfl) .nil) rfl rfl rfl rfl rfl) ?_;refine .e rfl (cE (h:=kY (l:=[(x.L.length:Int)]) (by simp;omega) (by omega) (by simp))) λg39 V1=>?_;refine .e rfl (cE (h:=kY (l:=x.L) (λn hn=>⟨ak.L0 n hn,by have h9:n<=4294967295:=r5 n hn;omega⟩) (by rw[V1,h9];have:=rE [(x.L.length:Int)] (by simp;omega);simp only[List.length_cons,List.length_nil] at this;omega) (by omega))) λTd Te=>?_;refine .fin ?_;refine .n (cE (h:=kY (l:=[x.A]) (by simp;omega) (by rw[Te,V1,h9];have:=rE [(x.L.length:Int)] (by simp;omega);have h8:=rE x.L (λn hn=>⟨ak.L0 n hn,by have h9:n<=4294967295:=r5 n hn;omega⟩);simp only[List.length_cons,List.length_nil] at this;omega) (by simp))) rfl λQD h46=>?_;refine Z3 ?_;refine .meet QD (by(show(QD).2.length=nR x;rw[h46,Te,V1,h9,iX];rw[if_neg c1,if_neg c6,if_pos c7];simp[s8,bU];omega)) rfl (.get rfl (aa.refl _) (.keep 22 rfl rfl))
  refine .cut (σ:=Unit) (λ_=>[aH g9.1 1 an g9.2]) (λ_=>[(47,av (aP x.Code=5\/aP x.Code=10))]) (λ_=>True) ?_ ?_
  ·
   refine Z6 ?_;refine Cd (λc8=>?_) λc8=>?_
   ·
    refine Z1 ?_;refine .meet () trivial rfl (.get rfl (aa.prop (by omega)) (.keep 2 rfl rfl))
   refine Z4 ?_;refine .meet () trivial rfl (.get rfl (aa.prop (by omega)) (.keep 4 rfl rfl))
  intro _ _;refine Cd (λc9=>?_) λc9=>?_
  ·
   refine Z6 ?_;refine .p (cB eo [x.A,x.B]) rfl ?_;refine .n (cE (h:=kY (l:=[x.A,x.B]) (by simp;omega) (by omega) (by simp))) rfl λg56 h56=>?_;refine Z3 ?_;refine .meet g56 (by(show(g56).2.length=nR x;rw[h56,h9,iX];rw[if_neg c1,if_neg c6,if_neg c7,if_pos c9];simp[s8])) rfl (.get rfl (aa.refl _) (.keep 16 rfl rfl))
  refine Z6 ?_;refine Cd (λlZ=>?_) λlZ=>?_
  ·
   refine Z3 ?_;refine .n (cE (h:=PN og zu hB0 VZ ak.a0 ak.Yg (by omega))) rfl λg61 h61=>?_;refine Z3 ?_;refine .meet g61 (by(show(g61).2.length=nR x;rw[h61,h9,iX];rw[if_neg c1,if_neg c6,if_neg c7,if_neg c9,if_pos lZ])) rfl (.get rfl (aa.refl _) (.keep 14 rfl rfl))
  refine Z6 ?_;refine Cd (λn8=>?_) λn8=>?_
  ·
   refine Z3 ?_;refine .n (cE (h:=Lv og zu (M1 n8) (λOL=>Classical.byContradiction λh9=>r2 (.inr (.inl ⟨OL,h9⟩))) (by omega))) rfl λy9 W1=>?_;refine Z3 ?_;refine .meet y9 (by(show(y9).2.length=nR x;rw[W1,h9,iX];rw[if_neg c1,if_neg c6,if_neg c7,if_neg c9,if_neg lZ,if_pos n8])) rfl (.get rfl (aa.refl _) (.keep 16 rfl rfl))
  refine Z2 ?_;refine .meet g9 (by(show(g9).2.length=nR x;rw[h9,iX];rw[if_neg c1,if_neg c6,if_neg c7,if_neg c9,if_neg lZ,if_neg n8];rfl)) rfl (.get rfl (aa.refl _) (.keep 12 rfl rfl))
 intro z hz;refine Z1 ?_;refine .eC (t:=4) (i:=0) (g:=z.1) (xs:=z.2) rfl rfl ?_;refine Z7 ?_;refine Post.bh rfl rfl (z.2) (by exact hz) (λ_ _ _ h=>h) rfl (.cons (.rt rfl) ?_ (.cons (.rt rfl) ?_ .nil))
 · exact aa.refl _
 exact aa.refl _
theorem IU:dF Wo 274 [aC (aB x)] (av (aN x.Code)):=by
 refine In 16 Tryz.func274 λ_ _ _=>?_;refine Z25 ?_;refine br ?_;exact aa.prop or_assoc
variable {nb:Nat}
theorem D0{pb pc p:Nat}{l:List aj}{go:SB}{sp:List jr}{o:List Nat}{cl:Prop}{dp:Int}{s:jr}(ak:sp[p]?=some s):bu Wo 354 [ax nb 0] (EF nb l ⟨some (pb,pc),go,sp,o++[p],cl,dp⟩) (γ:=Unit) (λ_=>True) (λ_=>EF nb l ⟨some (pb,pc),go,sp,o++[p],cl,dp⟩) (λ_=>aZ [ax pb (p*3),av True]):=by
 refine In 27 Tryz.func354 λ_ _ _=>?_;refine .lg 2 rfl (by simp) λqb qc hq=>?_;simp only at hq;subst hq;refine .zD 2 rfl λzy=>?_;simp only[List.length_append,List.length_cons,List.length_nil] at zy;have hps:=(List.getElem?_eq_some_iff.1 ak).1;refine Dh ?_;refine Cd (λc0=>?_) λc0=>?_
 · exfalso;simp at c0;omega
 refine Z3 ?_;refine .bL 16 3 FM.out (by kernel_rfl) (k:= ?_);refine kL ?_;refine .p (iy (.t rfl) (.c _) (cM (by simp<;>omega) (by simp<;>omega))) ?_;refine .p (fY o.length FU.out FC.out rfl (.t rfl) (.t rfl) (by simp) (by simp)) ?_;refine .p (nN (i:=2) (r:=0) FA.out (.t rfl) rfl (EG (o:=o) (p:=p)) rfl) ?_;refine Z1 ?_;refine .p (fY p FU.out FC.out rfl (.t rfl) (.t rfl) rfl hps) rfl ?_;refine Z5 ?_;refine eA ?_ ?_
 · exact aa.refl _
 exact aa.refl _
theorem BZ{l:List aj}{gp go:SB}{sp:List jr}{cl:Prop}{dp:Int}:bu Wo 354 [ax nb 0] (EF nb l ⟨gp,go,sp,[],cl,dp⟩) (γ:=Unit) (λ_=>True) (λ_=>EF nb l ⟨gp,go,sp,[],cl,dp⟩) (λ_=>aZ [ag (.pointer none),av False]):=by
 refine In 27 Tryz.func354 λ_ _ _=>?_;refine Dh ?_;refine CF λc0=>?_;refine Z8 ?_;refine eA ?_ ?_
 · exact aa.refl _
 exact aa.refl _
variable {z:QB}
theorem IV{l:List aj}{i:Nat}(ak:z.op.length<=64)(aR:z.sp.length<=50000):bu Wo 275 [ax nb 0,af .i64 ((i:Int))] (EF nb l z) (γ:=Int×QB) (λg=>(z.op.length=64/\g.1≠0)\/(z.op.length≠64/\g.1=0/\g.2.sp=z.sp++[((i:Int),-1,-1)]/\g.2.op=z.op++[z.sp.length]/\g.2.cl=z.cl)) (λg=>EF nb l g.2) (λg=>af .i64 g.1):=by
 refine In 49 Tryz.func275 λ_ _ _=>?_;refine Cm ?_;refine Cd (λc0=>?_) λc0=>?_
 ·
  refine Z7 ?_;refine Post.aS rfl ((15,z)) (by exact .inl ⟨by omega,by show(15:Int)≠0;decide⟩) (λ_ _ _ h=>h) (.rt rfl) ?_;exact aa.refl _
 refine Z3 ?_;refine .bt [(0,0),(1,0),(2,0),(3,0),(4,1),(5,0),(6,0),(7,0),(8,1),(9,1),(10,0),(11,2)] 12 3 FM.out (by kernel_rfl) (k:= ?_);refine cC ?_;refine .p rfl (λ_=>bC (enc:=fU) [z.sp.length] FU.out FC.out rfl FZ.out rfl (.cons (.t rfl) .nil) rfl rfl rfl rfl rfl) ?_;refine .e rfl (aK (i:=2) FU.out FU.out FC.out rfl FZ.out rfl FY.out (.t rfl) (.t rfl) rfl (by simp only[List.length_cons,List.length_nil];omega) (by simp only[List.length_cons,List.length_nil];omega)) λSI _=>?_;refine .fin ?_;refine ij ?_;refine .p (cB bP [((i:Int),-1,-1)]) rfl ?_;refine .n (aK (i:=1) FU.out FU.out FC.out rfl FZ.out rfl FY.out (.t rfl) (.t rfl) rfl (by simp only[List.length_cons,List.length_nil];omega) (by simp only[List.length_cons,List.length_nil];omega)) rfl λYK _=>?_;refine Z6 ?_;refine .bL 11 3 FM.out (by kernel_rfl) (k:= ?_);refine Z23 ?_;refine Post.aS rfl ((0,⟨YK,SI,z.sp++[((i:Int),-1,-1)],z.op++[z.sp.length],z.cl,max z.dp ((z.op++[z.sp.length]).length:Int)⟩)) (by exact .inr ⟨by omega,rfl,rfl,rfl,rfl⟩) (λ_ _ _ h=>h) (.rt rfl) ?_;exact aa.refl _
variable {rs:List (Int×Bool)} {j:Nat}
theorem IW{l:List aj}(ak:iQ l z.sp z.op rs)(aR:z.op.length<=64)(bO:z.sp.length<=50000)(dO:¬z.cl):bu Wo 276 [ax nb 0,af .i64 ((j:Int))] (EF nb l z) (γ:=Int×QB) (λg=>nsP l False rs 5 j z g.1 g.2) (λg=>EF nb l g.2) (λg=>af .i64 g.1):=by
 refine In 39 Tryz.func276 λ_ _ _=>?_;refine Z6 ?_;rcases List.eq_nil_or_concat z.op with hop|⟨o,p,hop⟩;have Y5:rs=[]:=by have:=ak.len;rw[hop] at this;exact List.eq_nil_of_length_eq_zero this.symm
 obtain⟨gp,go,sp,op,cl,dp⟩:=z;simp only at hop ak aR bO dO;subst hop;subst Y5
 rotate_left
 obtain⟨gp,go,sp,op,cl,dp⟩:=z;simp only[List.concat_eq_append] at hop ak aR bO dO;subst hop;obtain⟨PO,ce,Y5⟩:∃PO ce,rs=PO++[ce]:=nS (λe=>by have:=ak.len;rw[e] at this;simp at this);obtain⟨cb,ce⟩:=ce;subst Y5;obtain⟨bi,el,en,y,hs,hy,NU,hce⟩:=ak.top;simp only at NU hce;refine .lg 1 rfl (λe=>by(have h9:=(List.getElem?_eq_some_iff.1 hs).1;simp only at e;rw[e] at h9;simp at h9)) λpb pc hgp=>?_;simp only at hgp;subst hgp
 ·
  refine Z2 ?_;refine .n ((cE (h:=D0 hs)).same (λ_ _=>aF.refl _) (λ_ _=>aa.refl _)) rfl λ_ _=>?_;refine Z9 ?_;refine .bL 11 12 FM.out (by kernel_rfl) (k:= ?_);refine cC ?_;refine .cons (de.gF rfl rfl rfl rfl (λhg=>nN (i:=1) (r:=0) FA.out (.when (.t rfl) hg) rfl hs rfl)) ?_;refine Z1 ?_;refine .g (de.gF rfl rfl rfl rfl (λhg=>aW (j:=bi) FU.out FC.out rfl (.when (.t rfl) hg) (.when (.t rfl) hg) rfl hy)) rfl rfl ?_;refine Z8 ?_;refine .g (de.gF rfl rfl rfl rfl (λhg=>nN (i:=1) (r:=1) FA.out (.when (.t rfl) hg) rfl hs rfl)) rfl rfl ?_;refine Z4 ?_;refine Cd (λc0=>?_) λc0=>?_
  ·
   refine Z7 ?_;refine Post.aS rfl ((4,⟨some (pb,pc),go,sp,o++[p],cl,dp⟩)) (by exact .inr ⟨by show(4:Int)≠0;decide,λr h=>by(have h9:=(A7.1 h).1;rcases c0 with(h8|h8)|h8;exact h8 trivial;exact h8 (NU.trans h9.1);have h7:=hce.2 h8;rw[h9.2] at h7;cases h7)⟩) (λ_ _ _ h=>h) (.rt rfl) ?_;exact aa.refl _
  refine Z8 ?_;refine .s (sN (enc:=bP) (i:=1) (r:=1) ((bi:Int),(j:Int),en) rfl FC.out (.t rfl) (.t rfl) rfl hs rfl rfl) ?_;refine Z2 ?_;refine .own (hs':=EF nb l ⟨some (pb,pc),go,sp.set p ((bi:Int),(j:Int),en),o++[p],cl,dp⟩) (aF.of_eq (by simp)) ?_;refine Z6 ?_;refine Post.aS rfl ((0,⟨some (pb,pc),go,sp.set p ((bi:Int),(j:Int),en),o++[p],cl,dp⟩)) (by exact .inl ⟨rfl,(R6 hs).symm,by(show(sp.set p _).length<=sp.length+1;rw[List.length_set];omega),aR,PO++[(cb,true)],ak.other hs hy NU,λr=>by(show gf False (PO++[(cb,ce)]) (5::r)↔gf cl (PO++[(cb,true)]) r;rw[A7];have h4:cb=4:=NU.symm.trans (Classical.byContradiction λh=>c0 (.inl (.inr h)));have hf:ce=false:=Bool.eq_false_iff.2 (λh8=>c0 (.inr (hce.1 h8)));rw[show(cl=False) from eq_false dO];exact⟨λh=>h.2,λh=>⟨⟨h4,hf⟩,h⟩⟩)⟩) (λ_ _ _ h=>h) (.rt rfl) ?_;exact aa.refl _
 refine Z2 ?_;refine .n ((cE (h:=BZ)).same (λ_ _=>aF.refl _) (λ_ _=>aa.refl _)) rfl λ_ _=>?_;refine Z9 ?_;refine .bL 11 12 FM.out (by kernel_rfl) (k:= ?_);refine Z3 ?_;refine .cons (de.gF rfl rfl rfl rfl (λhg=>mR (q:=fS) (hg (λh=>h)))) ?_;refine .cons (de.gF rfl rfl rfl rfl (λhg=>mR (q:=fS) (hg (λh=>h)))) ?_;refine .cons (de.gF rfl rfl rfl rfl (λhg=>mR (q:=fS) (hg (λh=>h)))) ?_;refine .cons (de.gF rfl rfl rfl rfl (λhg=>mR (q:=fS) (hg (λh=>h)))) ?_;refine .cons (de.gF rfl rfl rfl rfl (λhg=>mR (q:=fS) (hg (λh=>h)))) ?_;refine .cons (de.gF rfl rfl rfl rfl (λhg=>mR (q:=fS) (hg (λh=>h)))) ?_;refine .cons (de.gF rfl rfl rfl rfl (λhg=>mR (q:=fS) (hg (λh=>h)))) ?_;refine .cons (de.gF rfl rfl rfl rfl (λhg=>mR (q:=fS) (hg (λh=>h)))) ?_;refine Z1 ?_;refine .g (de.gF rfl rfl rfl rfl (λhg=>mR (q:=fS) (hg (λh=>h)))) rfl rfl ?_;refine .g (de.gF rfl rfl rfl rfl (λhg=>mR (q:=fS) (hg (λh=>h)))) rfl rfl ?_;refine .g (de.gF rfl rfl rfl rfl (λhg=>mR (q:=fS) (hg (λh=>h)))) rfl rfl ?_;refine .g (de.gF rfl rfl rfl rfl (λhg=>mR (q:=av True) (hg (λh=>h)))) rfl rfl ?_;refine Z2 ?_;refine .g (de.gF rfl rfl rfl rfl (λhg=>mR (q:=fS) (hg (.inl (λh=>h))))) rfl rfl ?_;refine .g (de.gF rfl rfl rfl rfl (λhg=>mR (q:=fS) (hg (.inl (λh=>h))))) rfl rfl ?_;refine .g (de.gF rfl rfl rfl rfl (λhg=>mR (q:=fS) (hg (.inl (λh=>h))))) rfl rfl ?_;refine .g (de.gF rfl rfl rfl rfl (λhg=>mR (q:=fS) (hg (.inl (λh=>h))))) rfl rfl ?_;refine .g (de.gF rfl rfl rfl rfl (λhg=>mR (q:=av True) (hg (.inl (λh=>h))))) rfl rfl ?_;refine Z3 ?_;refine Cd (λc0=>?_) λc0=>?_
 ·
  refine Z7 ?_;refine Post.aS rfl ((4,⟨gp,go,sp,[],cl,dp⟩)) (by exact .inr ⟨by show(4:Int)≠0;decide,λr=>Cx⟩) (λ_ _ _ h=>h) (.rt rfl) ?_;exact aa.refl _
 exact absurd (.inl (.inl (λh=>h))) c0
theorem PR{l:List aj}(ak:iQ l z.sp z.op rs)(aR:z.op.length<=64)(bO:z.sp.length<=50000)(dO:¬z.cl):bu Wo 277 [ax nb 0,af .i64 ((j:Int))] (EF nb l z) (γ:=QB) (λg=>nsP l False rs 11 j z 0 g) (λg=>EF nb l g) (λg=>aZ []):=by
 refine In 34 Tryz.func277 λ_ _ _=>?_;refine Z1 ?_;rcases List.eq_nil_or_concat z.op with hop|⟨o,p,hop⟩;have Y5:rs=[]:=by have:=ak.len;rw[hop] at this;exact List.eq_nil_of_length_eq_zero this.symm
 obtain⟨gp,go,sp,op,cl,dp⟩:=z;simp only at hop ak aR bO dO;subst hop;subst Y5
 rotate_left
 obtain⟨gp,go,sp,op,cl,dp⟩:=z;simp only[List.concat_eq_append] at hop ak aR bO dO;subst hop;obtain⟨PO,ce,Y5⟩:∃PO ce,rs=PO++[ce]:=nS (λe=>by have:=ak.len;rw[e] at this;simp at this);obtain⟨cb,ce⟩:=ce;subst Y5;obtain⟨bi,el,en,y,hs,hy,NU,hce⟩:=ak.top;simp only at NU hce;refine .lg 1 rfl (λe=>by(have h9:=(List.getElem?_eq_some_iff.1 hs).1;simp only at e;rw[e] at h9;simp at h9)) λpb pc hgp=>?_;simp only at hgp;subst hgp
 ·
  refine Z2 ?_;refine .n ((cE (h:=D0 hs)).same (λ_ _=>aF.refl _) (λ_ _=>aa.refl _)) rfl λ_ _=>?_;refine ij ?_;refine Cd (λc0=>?_) λc0=>?_
  · exact absurd trivial c0
  refine Z8 ?_;refine .s (sN (enc:=bP) (i:=1) (r:=2) ((bi:Int),el,(j:Int)) rfl FC.out (.t rfl) (.t rfl) rfl hs rfl rfl) ?_;refine Z2 ?_;refine .own (hs':=EF nb l ⟨some (pb,pc),go,sp.set p ((bi:Int),el,(j:Int)),o++[p],cl,dp⟩) (aF.of_eq (by simp)) ?_;refine .bL 12 3 FM.out (by kernel_rfl) (k:= ?_);refine cC ?_;refine .p (iy (.t rfl) (.c _) (cM (by simp only[List.length_append,List.length_cons,List.length_nil] at*;omega) (by simp only[List.length_append,List.length_cons,List.length_nil] at*;omega))) ?_;refine .p (qW (i:=2) (h:=o.length) FU.out FC.out rfl (.t rfl) (.t rfl) (by simp) rfl rfl (by simp)) ?_;refine Z5 ?_;refine .own (aF.cons _ (aF.cons _ (aF.Rm o (zL _ _)))) ?_;refine Post.cY rfl (⟨some (pb,pc),go,sp.set p ((bi:Int),el,(j:Int)),o,cl,dp⟩) (by exact .inl ⟨rfl,(Ve hs).symm,by(show(sp.set p _).length<=sp.length+1;rw[List.length_set];omega),by(show o.length<=64;simp only[List.length_append,List.length_cons,List.length_nil] at aR;omega),PO,ak.pop _,λr=>by(show gf False (PO++[(cb,ce)]) (11::r)↔gf cl PO r;rw[OR,show(cl=False) from eq_false dO])⟩) (λ_ _ _ h=>h) rfl
 refine Z2 ?_;refine .n ((cE (h:=BZ)).same (λ_ _=>aF.refl _) (λ_ _=>aa.refl _)) rfl λ_ _=>?_;refine ij ?_;refine Cd (λc0=>?_) λc0=>?_
 ·
  refine cC ?_;refine Post.wC rfl (⟨gp,go,sp,[],True,dp⟩) (by exact .inl ⟨rfl,R7.symm,Nat.le_succ _,by simp,[],iQ.nil _ _,λr=>A8⟩) (λ_ _ _ h=>h) rfl
 exact absurd (λh=>h) c0
theorem Lw{l:List aj}(ak:iQ l z.sp z.op rs)(aR:z.op.length<=64)(bO:z.sp.length<=50000)(dO:l[j]?=some x):bu Wo 211 [ax nb 0,af .i64 ((j:Int))] (EF nb l z) (γ:=Int×QB) (λg=>nsP l z.cl rs x.Code j z g.1 g.2) (λg=>EF nb l g.2) (λg=>af .i64 g.1):=by
 refine In 48 Tryz.func211 λ_ _ _=>?_;refine Cm ?_;refine Cd (λc0=>?_) λc0=>?_
 ·
  refine Z8 ?_;refine Post.aS rfl ((4,z)) (by exact .inr ⟨by show(4:Int)≠0;decide,λr=>by rw[show z.cl=True from eq_true c0];exact EH⟩) (λ_ _ _ h=>h) (.rt rfl) ?_;exact aa.refl _
 have PS:z.cl=False:=eq_false c0;refine Z7 ?_;refine .p (cI j (h:=dO)) rfl ?_;refine Z1 ?_;refine .p (cA (h:=IU)) rfl ?_;refine Z3 ?_;refine Cd (λc1=>?_) λc1=>?_
 ·
  refine Z4 ?_;refine .n (cE (h:=IV aR bO)) rfl λUe Tg=>?_;refine Z6 ?_;refine Post.aS rfl (Ue) (by exact(by rw[PS];rcases Tg with⟨h1,h2⟩|⟨h1,h2,h3,h4,h5⟩;exact .inr ⟨h2,λr=>Kz c1 (ak.len▸h1)⟩;exact .inl ⟨h2,by(show(_,_)=_;rw[R5 c1,h3,h4]),by(rw[h3];simp),by(rw[h4];simp;omega),rs++[(x.Code,false)],by(rw[h3,h4];exact ak.begin dO),λr=>by(rw[h5,PS];exact Ky c1 (ak.len▸h1) (ak.len▸aR))⟩)) (λ_ _ _ h=>h) (.rt rfl) ?_;exact aa.refl _
 refine Z7 ?_;refine .p (cI j (h:=dO)) rfl ?_;refine Z6 ?_;refine Cd (λc2=>?_) λc2=>?_
 ·
  refine Z4 ?_;refine .n (cE (h:=IW ak aR bO c0)) rfl λQF QG=>?_;refine Z6 ?_;refine Post.aS rfl (QF) (by exact(by rw[PS,c2];exact QG)) (λ_ _ _ h=>h) (.rt rfl) ?_;exact aa.refl _
 refine Z7 ?_;refine .p (cI j (h:=dO)) rfl ?_;refine Z6 ?_;refine Cd (λc3=>?_) λc3=>?_
 ·
  refine Z3 ?_;refine .n (cE (h:=PR ak aR bO c0)) rfl λg47 h47=>?_;refine Z9 ?_;refine Post.aS rfl ((0,g47)) (by exact(by rw[PS,c3];exact h47)) (λ_ _ _ h=>h) (.rt rfl) ?_;exact aa.refl _
 refine Z9 ?_;refine Post.aS rfl ((0,z)) (by exact(by rw[PS];exact .inl ⟨rfl,(OT c1 c2 c3).symm,Nat.le_succ _,aR,rs,ak,λr=>by rw[PS];exact Ho c1 c2 c3⟩)) (λ_ _ _ h=>h) (.rt rfl) ?_;exact aa.refl _
end Go.Proofs.YtppekopemdoclaaGreatDoor
end
