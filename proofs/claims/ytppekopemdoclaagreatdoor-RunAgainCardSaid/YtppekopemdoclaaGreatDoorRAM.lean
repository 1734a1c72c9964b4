/-
  Parts of the proof.
-/
import Derived.Test.YtppekopemdoclaaGreatDoorRAL
set_option linter.all false
set_option maxRecDepth 1000000
set_option maxHeartbeats 4000000
section
namespace Go.Proofs.YtppekopemdoclaaGreatDoor
open Go.Hl Go.RowKit
theorem Bt{a:Nat}(ak:a<18446744073709551616):dF Wo 336 [uV a] (iV (xL a:Int)):=by
 refine In 25 Tryz.func336 λ_ _ _=>?_;refine Z5 ?_;refine .cut (σ:=Nat×Nat) (λ_=>[]) (λg=>[(0,uV g.1),(2,iV (g.2:Int))]) (λg=>xL a=xL g.1+g.2/\g.1<4294967296/\g.2<=32) ?_ ?_
 ·
  refine Z6 ?_;refine Cd (λc0=>?_) λc0=>?_
  ·
   refine Z3 ?_;refine .p (kn (s:=32) (.t rfl) (.c _) (by decide)) rfl ?_;refine Z6 ?_;refine .meet (a/2^32,32) ⟨Kv (by omega),by omega,by omega⟩ rfl (.get rfl (aa.refl _) (.get rfl (aa.refl _) (.keep 6 rfl rfl)))
  refine Z1 ?_;refine .meet (a,0) ⟨rfl,by omega,by omega⟩ rfl (.get rfl (aa.refl _) (.get rfl (aa.refl _) (.keep 2 rfl rfl)))
 intro ⟨x,n⟩ ⟨h1,h2,h3⟩;simp only at h1 h2 h3 ⊢;refine .cut (σ:=Nat×Nat) (λ_=>[]) (λg=>[(0,uV g.1),(2,iV (g.2:Int))]) (λg=>xL a=xL g.1+g.2/\g.1<65536/\g.2<=48) ?_ ?_
 ·
  refine Z6 ?_;refine Cd (λc1=>?_) λc1=>?_
  ·
   refine Z3 ?_;refine .p (kn (s:=16) (.t rfl) (.c _) (by decide)) rfl ?_;refine Z8 ?_;refine .meet (x/2^16,n+16) ⟨by have:=Kv (a:=x) (k:=16) (by omega);simp only;omega,by omega,by omega⟩ rfl (.get rfl (aa.refl _) (.get rfl (aa.refl _) (.keep 8 rfl rfl)))
  refine Z1 ?_;refine .meet (x,n) ⟨h1,by omega,by omega⟩ rfl (.get rfl (aa.refl _) (.get rfl (aa.refl _) (.keep 2 rfl rfl)))
 intro ⟨y,m⟩ ⟨k1,k2,k3⟩;simp only at k1 k2 k3 ⊢;refine .cut (σ:=Nat×Nat) (λ_=>[]) (λg=>[(0,uV g.1),(2,iV (g.2:Int))]) (λg=>xL a=xL g.1+g.2/\g.1<256/\g.2<=56) ?_ ?_
 ·
  refine Z6 ?_;refine Cd (λc2=>?_) λc2=>?_
  ·
   refine Z3 ?_;refine .p (kn (s:=8) (.t rfl) (.c _) (by decide)) rfl ?_;refine Z8 ?_;refine .meet (y/2^8,m+8) ⟨by have:=Kv (a:=y) (k:=8) (by omega);simp only;omega,by omega,by omega⟩ rfl (.get rfl (aa.refl _) (.get rfl (aa.refl _) (.keep 8 rfl rfl)))
  refine Z1 ?_;refine .meet (y,m) ⟨k1,by omega,by omega⟩ rfl (.get rfl (aa.refl _) (.get rfl (aa.refl _) (.keep 2 rfl rfl)))
 intro ⟨z,q⟩ ⟨j1,j2,j3⟩;simp only at j1 j2 j3 ⊢;have hbz:=R0 (a:=z) (n:=8) (by omega);refine Z5 ?_;refine .p (qk FU.out (.s Sm (by decide+kernel) (by decide)) (.t rfl) rfl (Vm j2)) rfl ?_;refine .p (jW FU.out FU.out (.t rfl) (cM (by rw[bl8 z j2];omega) (by rw[bl8 z j2];omega))) rfl ?_;refine .p (ez (.t rfl) (.t rfl) (cM (by rw[bl8 z j2];omega) (by rw[bl8 z j2];omega))) rfl ?_;refine Z4 ?_;refine br ?_;exact aa.int (by rw[bl8 z j2];omega)
variable {X:oB} {at_:Nat} {n:Nat} {a:ep}
theorem HW(ak:dz X a)(aR:at_+n<=X.size):bu Wo 217 [ax X.ab 0,fP (at_:Int),fP (n:Int)] (jx X a) (γ:=Unit) (λ_=>True) (λ_=>jx X a) (λ_=>aZ [sK X.db at_ n,fP 0]):=by
 refine In 47 Tryz.func217 λ_ _ _=>?_;have hk2:=ak.most;refine dh ?_;refine .p (dy FU.out (.t rfl)) rfl ?_;refine Z3 ?_;refine CT λc0=>?_;refine ij ?_;refine .g (de.gF rfl rfl rfl rfl (λhg=>sL rfl Tryz.underlying58 (.when (.t rfl) hg))) rfl rfl ?_;refine Z8 ?_;refine .g (de.gF rfl rfl rfl rfl (λhg=>sL rfl Tryz.underlying58 (.when (.t rfl) hg))) rfl rfl ?_;refine Z7 ?_;refine CT λc1=>?_;refine kL ?_;refine .p ((Am (l:=at_) (h:=at_+n) FU.out FC.out (.t rfl) (.t rfl) (.t rfl) rfl rfl (by omega) (by omega)).le (aa.of_eq (show sK _ _ _=sK X.db at_ n by rw[Nat.zero_add,Nat.add_sub_cancel_left]))) rfl ?_;refine Z5 ?_;refine eA ?_ ?_
 · exact .z
 exact .z
variable {w:Nat}
theorem Bu(ak:dz X a)(aR:at_+w<=X.size)(bO:w=8\/w=4):bu Wo 150 [ax X.ab 0,af .i64 ((at_:Int)),af .i64 ((w:Int))] (jx X a) (γ:=Unit) (λ_=>True) (λ_=>jx X a) (λ_=>aZ [sK X.db at_ w,af .i64 0]):=by
 refine In 32 Tryz.func150 λ_ _ _=>?_;refine cC ?_;refine .p (C5 FU.out (.t rfl)) rfl ?_;refine zE ?_;refine CT λc0=>?_;refine Z7 ?_;refine .n (cE (h:=HW (at_:=at_) (n:=w) ak aR)) rfl λg29 h29=>?_;refine Z7 ?_;refine eA ?_ ?_
 · exact .z
 exact .z
variable {v:Nat}
theorem ur(ak:dz X a)(aR:at_+w<=X.size)(bO:w=8\/w=4)(dO:v<18446744073709551616):bu Wo 104 [ax X.ab 0,af .i64 ((at_:Int)),af .i64 ((w:Int)),af .u64 (v:Int)] (jx X a) (γ:=Unit) (λ_=>True) (λ_=>jx X (a.put at_ (nO v w))) (λ_=>af .i64 0):=by
 refine In 34 Tryz.func104 λ_ _ _=>?_;have DL:=ak.len;have hk2:=ak.most;refine cC ?_;refine .n (cE (h:=Bu (at_:=at_) (w:=w) ak aR bO)) rfl λZQ Vy=>?_;refine dh ?_;refine .p (sL rfl Tryz.underlying58 (.t rfl)) rfl ?_;refine Z4 ?_;refine .bk (σ:=Nat) (λk=>jx X (a.put at_ (nO v k))) (λk=>[(21,af .i64 (k:Int))]) (λk=>k<=w) (λk=>w-k) 0 (Nat.zero_le _) (by show jx X a=jx X (a.put at_ []);unfold ep.put;simp only[List.append_nil,List.length_nil,Nat.add_zero,List.take_append_drop]) ?_ ?_
 · exact(.get rfl (aa.refl _) (.refl _ _))
 rintro k hk;refine Z6 ?_;refine Cd (λc0=>?_) λc0=>?_
 ·
  refine Cm ?_;refine .p (kn (s:=8*k) (.t rfl) (.le (.t rfl) (aa.int (by omega))) (by show 8*k<=64;omega)) rfl ?_;refine .p ((cO FU.out FU.out (.t rfl)).le (aa.int (RG v k))) rfl ?_;refine .p (Au (j:=k) FU.out FC.out (.t rfl) (.t rfl) rfl (by omega)) rfl ?_;refine .s (Rp (i:=1) (UH v k) FC.out (.t rfl) (.t rfl) rfl (by unfold ep.put;simp only[List.length_append,nP,List.length_take,List.length_drop];omega)) ?_;refine Z7 ?_;refine .round (k+1) (by omega) (by omega) (by unfold ep.put;simp only[nP,<-UQ (v:=v) (show at_+w<=a.bytes.length by omega) (show k<w by omega)];rfl) ?_;exact(.get rfl (aa.int (by(show(k:Int)+1=((k+1:Nat):Int);omega))) ((.keep 14 rfl rfl)))
 have vb:k=w:=by omega
 subst vb;refine eB ?_;refine br ?_;exact .z
theorem uu(ak:dz X a)(aR:at_+w<=X.size)(bO:w=8\/w=4):bu Wo 151 [ax X.ab 0,af .i64 ((at_:Int)),af .i64 ((w:Int))] (jx X a) (γ:=Unit) (λ_=>True) (λ_=>jx X a) (λ_=>aZ [af .u64 (nv ((a.bytes.drop at_).take w):Int),af .i64 0]):=by
 refine In 39 Tryz.func151 λ_ _ _=>?_;have DL:=ak.len;have hk2:=ak.most;refine dh ?_;refine .n (cE (h:=Bu (at_:=at_) (w:=w) ak aR bO)) rfl λBv v9=>?_;refine ij ?_;refine CT λc0=>?_;refine dh ?_;refine .p (sL rfl Tryz.underlying58 (.t rfl)) rfl ?_;refine Z4 ?_;refine .bk (σ:=Nat) (λ_=>jx X a) (λk=>[(10,af .u64 (nv ((a.bytes.drop at_).take k):Int)),(25,af .i64 (k:Int))]) (λk=>k<=w) (λk=>w-k) 0 (Nat.zero_le _) rfl ?_ ?_
 · exact(.get rfl (aa.refl _) (.get rfl (aa.refl _) (.refl _ _)))
 rintro k hk;refine Z6 ?_;refine Cd (λc1=>?_) λc1=>?_
 ·
  obtain⟨c,hc⟩:=ah (xs:=a.bytes) (k:=at_+k) (by omega);have hcs:=X8 hc (by omega);have zk:=c.toNat_lt;refine Z7 ?_;refine .p (Au (j:=k) FU.out FC.out (.t rfl) (.t rfl) rfl (by omega)) rfl ?_;refine .p (UG (i:=1) FA.out (.t rfl) rfl hc) rfl ?_;refine cC ?_;refine .p (nY (.t rfl) (.le (.t rfl) (aa.int (show _=((8*k:Nat):Int) by omega))) (by omega)) rfl ?_;refine .p ((Ap hcs.2 (by omega) (.t rfl) (.t rfl)).le (aa.int (by rw[hcs.1]))) rfl ?_;refine Z8 ?_;refine .round (k+1) (by omega) (by omega) rfl ?_;exact(.get rfl (aa.refl _) (.get rfl (aa.int (by(show(k:Int)+1=((k+1:Nat):Int);omega))) ((.keep 18 rfl rfl))))
 have vb:k=w:=by omega
 subst vb;refine kL ?_;refine eA ?_ ?_
 · exact .z
 exact .z
theorem Bw{t:UInt8}(ak:fG t=32\/fG t=64)(aR:v<18446744073709551616):dF Wo 65 [af .i64 (fG t),af .u64 (v:Int)] (af .u64 (qu t v:Int)):=by
 refine In 11 Tryz.func65 λ_ _ _=>?_;refine eB ?_;refine Cd (λc0=>?_) λc0=>?_
 ·
  have T4:fG t=32:=by omega
  have hcu:qu t v=v%4294967296:=by unfold qu;rw[T4];rfl
  refine Z3 ?_;refine .p (cO FU.out FU.out (.t rfl)) rfl ?_;refine .p (cO FU.out FU.out (.t rfl)) rfl ?_;refine Z5 ?_;refine br ?_;exact aa.int (by rw[hcu];show((v:Int)%4294967296)%18446744073709551616=_;omega)
 have Va:fG t=64:=by omega
 have hcu:qu t v=v:=by unfold qu;rw[Va];exact Nat.mod_eq_of_lt aR
 refine Z9 ?_;refine br ?_;exact aa.int (by rw[hcu])
variable {sb:Nat} {pb:Nat} {m:aT} {num:Int} {mv:VP} {t:Int} {g:Int}
theorem rK:bu Wo 54 [ax sb 0] [p5 sb X pb m num g t mv] (γ:=Unit) (λ_=>True) (λ_=>[p5 sb X pb m num g t mv]) (λ_=>av False):=by
 refine In 11 Tryz.func54 λ_ _ _=>?_;refine Z8 ?_;refine .p (dy FU.out (.t rfl)) rfl ?_;refine cC ?_;refine br ?_;exact aa.prop (by simp)
theorem HX:bu Wo 129 [ax sb 0] [p5 sb X pb m num g t mv] (γ:=Unit) (λ_=>True) (λ_=>[p5 sb X pb m num g t mv]) (λ_=>af .i64 (m.aA.length:Int)):=by
 refine In 11 Tryz.func129 λ_ _ _=>?_;refine Cn ?_;refine br ?_;exact .z
theorem Bx{i:Int}(ak:0<=i)(aR:i<(m.aA.length:Int)):bu Wo 128 [ax sb 0,af .i64 i,X7 129 sb] [p5 sb X pb m num g t mv] (γ:=Unit) (λ_=>True) (λ_=>[p5 sb X pb m num g t mv]) (λ_=>af .i64 0):=by
 refine In 19 Tryz.func128 λ_ _ _=>?_;refine cC ?_;refine .n ((cE (h:=rK)).same (λ_ _=>aF.refl _) (λ_ _=>aa.refl _)) rfl λ_ _=>?_;refine Z3 ?_;refine CT λc0=>?_;refine Z7 ?_;refine .egF rfl rfl rfl rfl (λhg=>((AH (rest:=[]) (HX (sb:=sb) (X:=X) (pb:=pb) (m:=m) (num:=num) (g:=g) (t:=t) (mv:=mv)) FB.out (.when (.t rfl) hg) (Perm.idx [0] rfl rfl)).same (λ_ _=>aF.refl _) (λ_ _=>aa.refl _)).same (λ_ _=>aF.refl _) (λ_ _=>aa.refl _)) rfl rfl ?_;refine Z5 ?_;refine CT λc1=>?_;refine Z9 ?_;refine br ?_;exact .z
variable {i:Nat}
theorem DM{g:Nat}{z:ju}(ak:m.aA[i]?=some z)(aR:dz X a)(bO:g+8*(i+1)<=X.size)(dO:v<18446744073709551616)(jE:fG z.Ty=32\/fG z.Ty=64)(sx:m.aA.length<=60000):bu Wo 83 [ax sb 0,af .i64 (i:Int),af .u64 (v:Int)] (p5 sb X pb m num (g:Int) t mv::jx X a) (γ:=Unit) (λ_=>True) (λ_=>p5 sb X pb m num (g:Int) t mv::jx X (a.put (g+8*i) (nO (qu z.Ty v) 8))) (λ_=>af .i64 0):=by
 refine In 42 Tryz.func83 λ_ _ _=>?_;have Ca:=(List.getElem?_eq_some_iff.1 ak).1;have hmo:=aR.most;refine dh ?_;refine .p (pz (.t rfl)) rfl ?_;refine .n ((cE (h:=Bx (sb:=sb) (X:=X) (pb:=pb) (m:=m) (num:=num) (g:=(g:Int)) (t:=t) (mv:=mv) (i:=(i:Int)) (by omega) (by omega))).same (λ_ _=>aF.refl _) (λ_ _=>aa.refl _)) rfl λ_ _=>?_;refine Z9 ?_;refine CT λc0=>?_;refine Z3 ?_;refine .bL 25 2 FM.out (by kernel_rfl) (k:= ?_);refine cC ?_;refine .p ((ez (.t rfl) (.t rfl) bY).le (aa.int (show _=((g+8*i:Nat):Int) by omega))) ?_;refine Z8 ?_;refine .p (cI i (h:=ak)) ?_;refine Z2 ?_;refine .p (cA (h:=qH)) ?_;refine Z1 ?_;refine .p (cA (h:=Bw jE dO)) ?_;refine Z1 ?_;refine .n (hH [_] [1,2,0] (h:=ur (at_:=g+8*i) (w:=8) aR (by omega) (.inl rfl) (zH dO))) rfl λKS h41=>?_;refine Z4 ?_;refine Post.aS rfl (()) (by trivial) (aF.cZ [2,0,1] [] rfl rfl) (.rt rfl) ?_;exact .z
variable {kb:Nat} {h:Nat}
theorem lz:bu Wo 62 [ax kb 0] [kq kb X at_ n h] (γ:=Unit) (λ_=>True) (λ_=>[kq kb X at_ n h]) (λ_=>av False):=by
 refine In 11 Tryz.func62 λ_ _ _=>?_;refine Z8 ?_;refine .p (dy FU.out (.t rfl)) rfl ?_;refine cC ?_;refine br ?_;exact aa.prop (by simp)
theorem By(ak:dz X a)(aR:at_+8*(i+1)<=X.size)(bO:v<18446744073709551616):bu Wo 64 [ax kb 0,nV i,wV v] (kq kb X at_ n h::jx X a) (γ:=Unit) (λ_=>True) (λ_=>kq kb X at_ n h::jx X (a.put (at_+8*i) (nO v 8))) (λ_=>aZ []):=by
 refine In 19 Tryz.func64 λ_ _ _=>?_;have u5:=ak.most;refine .bL 12 1 FM.out (by kernel_rfl) (k:= ?_);refine cC ?_;refine .p ((ez (.t rfl) (.t rfl) bY).le (aa.int (show _=((at_+8*i:Nat):Int) by omega))) ?_;refine Z2 ?_;refine .n (hH [_] [1,2,0] (h:=ur (at_:=at_+8*i) (w:=8) ak (by omega) (.inl rfl) bO)) rfl λzT Vz=>?_;refine Z1 ?_;refine Post.cY rfl (()) (by trivial) (aF.cZ [2,0,1] [] rfl rfl) rfl
theorem yW(ak:dz X a)(aR:at_+8*(i+1)<=X.size):bu Wo 106 [ax kb 0,nV i] (kq kb X at_ n h::jx X a) (γ:=Unit) (λ_=>True) (λ_=>kq kb X at_ n h::jx X a) (λ_=>wV (nv (a.get (at_+8*i) 8))):=by
 refine In 23 Tryz.func106 λ_ _ _=>?_;have u5:=ak.most;refine Z6 ?_;refine .bt [(0,0),(1,0),(2,0),(3,1),(4,0),(5,0),(6,0),(7,1),(8,0),(9,0),(10,0),(11,4),(12,0),(13,0),(14,0),(15,0)] 16 1 FM.out (by kernel_rfl) (k:= ?_);refine cC ?_;refine .p rfl (λ_=>(ez (.t rfl) (.t rfl) bY).le (aa.int (show _=((at_+8*i:Nat):Int) by omega))) ?_;refine .a rfl ((hH [_] [1,2,0] (h:=uu (at_:=at_+8*i) (w:=8) ak (by omega) (.inl rfl))).same (λ_ _=>aF.perm (Perm.idx [2,0,1] rfl rfl)) (λ_ _=>aa.refl _)) (λ_ _=>aF.refl _) λ_ _=>?_;refine Z4 ?_;refine .fin ?_;refine cC ?_;refine br ?_;exact .z
theorem CC:bu Wo 69 [ax kb 0] [kq kb X at_ n h] (γ:=Unit) (λ_=>True) (λ_=>[kq kb X at_ n h]) (λ_=>nV h):=by
 refine In 9 Tryz.func69 λ_ _ _=>?_;refine Z9 ?_;refine .n ((cE (h:=lz)).same (λ_ _=>aF.refl _) (λ_ _=>aa.refl _)) rfl λ_ _=>?_;refine Z2 ?_;refine CT λc0=>?_;refine eB ?_;refine br ?_;exact .z
theorem HY(ak:h<=n)(aR:n<=65536):bu Wo 63 [ax kb 0] [kq kb X at_ n h] (γ:=Unit) (λ_=>True) (λ_=>[kq kb X at_ n h]) (λ_=>af .i64 ((n:Int)-(h:Int))):=by
 refine In 14 Tryz.func63 λ_ _ _=>?_;refine Z9 ?_;refine .n ((cE (h:=lz)).same (λ_ _=>aF.refl _) (λ_ _=>aa.refl _)) rfl λ_ _=>?_;refine Z2 ?_;refine CT λc0=>?_;refine Z3 ?_;refine .bL 8 2 FM.out (by kernel_rfl) (k:= ?_);refine ij ?_;refine br ?_;exact .z
variable {l:List Nat}
theorem yX{l2:List Nat}(ak:pP X a at_ n l)(aR:∀v∈l2,v<18446744073709551616):bu Wo 28 [ax kb 0,ai 1 ia l2] (kq kb X at_ n (l).length::jx X a) (γ:=ep) (λb=>nD X a b at_ n (Bh n l l2)) (λb=>kq kb X at_ n (Bh n l l2).length::jx X b) (λ_=>af .i64 (if l2.length<=n-l.length then 0 else 11)):=by
 refine In 37 Tryz.func28 λ_ _ _=>?_;have u5:=ak.ok.most;have hk2:=ak.le;have DL:=ak.fit;have v5:=ak.most
 refine cC ?_;refine .n ((cE (h:=lz)).same (λ_ _=>aF.refl _) (λ_ _=>aa.refl _)) rfl λ_ _=>?_;refine Z3 ?_;refine CT λc0=>?_;refine Z5 ?_;refine .n ((cE (h:=HY (kb:=kb) (X:=X) (at_:=at_) (n:=n) (h:=l.length) hk2 v5)).same (λ_ _=>aF.refl _) (λ_ _=>aa.refl _)) rfl λ_ _=>?_;refine Z4 ?_;refine Cd (λc1=>?_) λc1=>?_
 ·
  have jg:Bh n l l2=l:=if_neg (by omega);refine Z8 ?_;refine Post.aS rfl (a) (by rw[jg];exact ak.self) (aF.of_eq (by rw[jg];try rfl)) (.rt rfl) ?_;exact aa.int (by rw[if_neg (by omega)])
 have jg:Bh n l l2=l++l2:=if_pos (by omega);refine eB ?_;refine .bk (σ:=Nat×ep) (λg=>kq kb X at_ n (l++l2.take g.1).length::jx X g.2) (λg=>[(18,af .i64 (g.1:Int))]) (λg=>g.1<=l2.length/\nD X a g.2 at_ n (l++l2.take g.1)) (λg=>l2.length-g.1) (0,a) ⟨Nat.zero_le _,by simpa using ak.self⟩ (by simp) ?_ ?_
 · exact(.get rfl (aa.refl _) (.refl _ _))
 rintro⟨k,b⟩ ⟨hk,hb⟩;simp only at hk hb ⊢;refine Z6 ?_;refine Cd (λc2=>?_) λc2=>?_
 ·
  obtain⟨v,hv⟩:=ah (xs:=l2) (k:=k) (by omega);have O3:(l++l2.take k).length=l.length+k:=by(rw[List.length_append,List.length_take];omega)
  have pX:(l++l2.take (k+1))=(l++l2.take k)++[v]:=by rw[<-bE hv,List.append_assoc]
  refine Z6 ?_;refine .p (cI k (h:=hv)) rfl ?_;refine eB ?_;refine .n (cE (h:=By (kb:=kb) (X:=X) (at_:=at_) (n:=n) (h:=(l++l2.take k).length) (i:=(l++l2.take k).length) hb.1.ok (by omega) (aR v (List.mem_of_getElem? hv)))) rfl λXb VA=>?_;refine Z7 ?_;refine .p ((ez (.t rfl) (.c _) bY).le (aa.int (show _=(((l++l2.take k).length+1:Nat):Int) by omega))) rfl ?_;refine cC ?_;refine .round (k+1,b.put (at_+8*(l++l2.take k).length) (nO v 8)) ⟨by(show k+1<=_;omega),by(show nD X a _ at_ n (l++l2.take (k+1));rw[pX];exact hb.push (by omega) (aR v (List.mem_of_getElem? hv)))⟩ (by show l2.length-(k+1)<l2.length-k;omega) (by simp only[pX,List.length_append,List.length_singleton];try rfl) ?_;exact(.get rfl (aa.int (by(show(k:Int)+1=((k+1:Nat):Int);omega))) ((.keep 21 rfl rfl)))
 have vb:k=l2.length:=by omega
 subst vb;rw[List.take_length] at hb;refine dh ?_;refine Post.aS rfl (b) (by rw[jg];exact hb) (aF.of_eq (by rw[jg,List.take_length];try rfl)) (.rt rfl) ?_;exact aa.int (by rw[if_pos (by omega)])
theorem tB{k:Nat}(ak:pP X a at_ n l):bu Wo 68 [ax kb 0,nV k] (kq kb X at_ n (l).length::jx X a) (γ:=ep) (λb=>nD X a b at_ n ((tg k l).2)) (λb=>kq kb X at_ n ((tg k l).2).length::jx X b) (λ_=>aZ [ai 1 ia (tg k l).1,af .i64 (if k<=l.length then 0 else 2)]):=by
 refine In 47 Tryz.func68 λ_ _ _=>?_;have u5:=ak.ok.most;have hk2:=ak.le;have DL:=ak.fit;have v5:=ak.most
 refine dh ?_;refine .n ((cE (h:=lz)).same (λ_ _=>aF.refl _) (λ_ _=>aa.refl _)) rfl λ_ _=>?_;refine Z3 ?_;refine CT λc0=>?_;refine oA ?_;refine Cd (λc1=>?_) λc1=>?_
 ·
  have htl:tg k l=([],l):=if_neg (by omega);refine Z9 ?_;refine Post.bh rfl rfl (a) (by rw[htl];exact ak.self) (aF.of_eq (by rw[htl];try rfl)) rfl (.cons (.rt rfl) ?_ (.cons (.rt rfl) ?_ .nil))
  · exact(by rw[htl];exact aE 1 ia)
  exact aa.int (by rw[if_neg (by omega)])
 have JN:k<=l.length:=by omega
 have htl:tg k l=((l.drop (l.length-k)),l.take (l.length-k)):=if_pos JN;have hrl:(l.drop (l.length-k)).length=k:=by(rw[List.length_drop];omega)
 refine oA ?_;refine .p ((iy (.t rfl) (.t rfl) bY).le (aa.int (show _=((l.length-k:Nat):Int) by omega))) rfl ?_;refine kL ?_;refine .own (AA (n:=1) (enc:=ia)) ?_;refine .bk (σ:=SB×Nat) (λq=>aH q.1 1 ia ((l.drop (l.length-k)).take q.2)::kq kb X at_ n (l.length-k)::jx X a) (λq=>[(6,ag (bI q.1 ((l.drop (l.length-k)).take q.2).length)),(31,af .i64 (q.2:Int))]) (λq=>q.2<=k) (λq=>k-q.2) (none,0) (Nat.zero_le _) rfl ?_ ?_
 · exact(.get rfl (aa.refl _) (.get rfl (aa.refl _) (.refl _ _)))
 rintro⟨s1,q⟩ hq;simp only at hq ⊢;refine Z6 ?_;refine Cd (λc2=>?_) λc2=>?_
 ·
  obtain⟨v,hv⟩:=ah (xs:=(l.drop (l.length-k))) (k:=q) (by omega);have hlv:l[l.length-k+q]?=some v:=by rw[<-List.getElem?_drop];exact hv
  have hw:=yW (kb:=kb) (X:=X) (at_:=at_) (n:=n) (h:=l.length-k) (i:=l.length-k+q) ak.ok (by omega);rw[ak.v _ _ hlv] at hw;refine zE ?_;refine .p ((ez (.t rfl) (.t rfl) bY).le (aa.int (show _=((l.length-k+q:Nat):Int) by omega))) rfl ?_;refine .n ((hH [_] [1,2,3,0] (h:=hw)).same (λ_ _=>aF.perm (Perm.idx [3,0,1,2] rfl rfl)) (λ_ _=>aa.refl _)) rfl λ_ _=>?_;refine .p (cB ia [v]) rfl ?_;refine .n (aK (i:=0) (xs:=(l.drop (l.length-k)).take q) (ys:=[v]) FU.out FU.out FC.out rfl FZ.out rfl FY.out (.t rfl) (.t rfl) rfl (by rw[List.length_take];simp only[List.length_cons,List.length_nil];omega) (by rw[List.length_take];simp only[List.length_cons,List.length_nil];omega)) rfl λg44 _=>?_;refine Z8 ?_;refine .round (g44,q+1) (by show q+1<=_;omega) (by show k-(q+1)<k-q;omega) (by simp only[<-bE hv];try rfl) ?_;exact(.get rfl (aa.of_eq (by simp only[<-bE hv])) (.get rfl (aa.int (by(show(q:Int)+1=((q+1:Nat):Int);omega))) ((.keep 19 rfl rfl))))
 have hqe:q=k:=by omega
 subst hqe;rw[List.take_of_length_le (show(l.drop (l.length-q)).length<=q by omega)];refine Z6 ?_;refine .eC (t:=6) (i:=0) rfl rfl ?_;refine Z7 ?_;refine Post.bh rfl rfl (a) (by rw[htl];exact .HB ak.self _) (aF.of_eq (by rw[htl];simp only[List.length_take,Nat.min_eq_left (Nat.sub_le _ _)];try rfl)) rfl (.cons (.rt rfl) ?_ (.cons (.rt rfl) ?_ .nil))
 · exact aa.of_eq (by rw[htl])
 exact aa.int (by rw[if_pos (by omega)])
theorem KT(ak:pP X a at_ n l):bu Wo 220 [ax kb 0] (kq kb X at_ n (l).length::jx X a) (γ:=ep) (λb=>nD X a b at_ n (l.dropLast)) (λb=>kq kb X at_ n (l.dropLast).length::jx X b) (λ_=>aZ [wV (l.getLast?.getD 0),af .i64 (if 1<=l.length then 0 else 2)]):=by
 refine In 17 Tryz.func220 λ_ _ _=>?_;refine Z9 ?_;refine .n (cE (h:=tB (k:=1) ak)) rfl λg8 h8=>?_;refine ij ?_;refine Cd (λc0=>?_) λc0=>?_
 ·
  have Ci:l=[]:=List.eq_nil_of_length_eq_zero (by(by_cases h9:1<=l.length;(rw[if_pos h9] at c0;exact absurd rfl c0);omega));subst Ci;refine Z9 ?_;refine Post.bh rfl rfl (g8) (by exact h8) (aF.refl _) rfl (.cons (.rt rfl) ?_ (.cons (.rt rfl) ?_ .nil))
  · exact aa.refl _
  exact aa.refl _
 have kR:1<=l.length:=by(by_cases h9:1<=l.length;exact h9;(rw[if_neg h9] at c0;exact absurd (show(2:Int)≠0 by decide) c0))
 obtain⟨l0,v,rfl⟩:=nS (l:=l) (λe=>by rw[e] at kR;simp at kR);have ht:tg 1 (l0++[v])=([v],l0):=by simp[tg]
 rw[ht] at h8;refine Z5 ?_;refine .p (cI 0 (h:=by rw[ht];rfl)) rfl ?_;refine Z6 ?_;refine Post.bh rfl rfl (g8) (by rw[List.dropLast_concat];exact h8) (aF.of_eq (by rw[ht,List.dropLast_concat];try rfl)) rfl (.cons (.rt rfl) ?_ (.cons (.rt rfl) ?_ .nil))
 · exact aa.int (by simp)
 exact aa.int (by rw[if_pos kR])
theorem yY{i:Int}:bu Wo 225 [ax kb 0,af .i64 i] [kq kb X at_ n h] (γ:=Unit) (λ_=>True) (λ_=>[kq kb X at_ n h]) (λ_=>af .i64 (if 0<=i/\i<(h:Int) then 0 else 2)):=by
 refine In 19 Tryz.func225 λ_ _ _=>?_;refine cC ?_;refine .n ((cE (h:=lz)).same (λ_ _=>aF.refl _) (λ_ _=>aa.refl _)) rfl λ_ _=>?_;refine Z3 ?_;refine CT λc0=>?_;refine oA ?_;refine Cd (λc1=>?_) λc1=>?_
 ·
  refine Z8 ?_;refine br ?_;exact aa.int (by rw[if_neg (by omega)])
 refine Z9 ?_;refine br ?_;exact aa.int (by rw[if_pos (by omega)])
theorem KU{i:Int}(ak:pP X a at_ n l):bu Wo 163 [ax kb 0,af .i64 i] (kq kb X at_ n (l).length::jx X a) (γ:=ep) (λb=>nD X a b at_ n (l)) (λb=>kq kb X at_ n (l).length::jx X b) (λ_=>aZ [wV (if 0<=i then(l[i.toNat]?).getD 0 else 0),fS]):=by
 refine In 16 Tryz.func163 λ_ _ _=>?_;have u5:=ak.ok.most;have hk2:=ak.le;have DL:=ak.fit;have v5:=ak.most
 refine dh ?_;refine .n ((cE (h:=yY (kb:=kb) (X:=X) (at_:=at_) (n:=n) (h:=l.length) (i:=i))).same (λ_ _=>aF.refl _) (λ_ _=>aa.refl _)) rfl λ_ _=>?_;refine Z9 ?_;refine Cd (λc0=>?_) λc0=>?_
 ·
  have hno:¬(0<=i/\i<(l.length:Int)):=λh9=>(by rw[if_pos h9] at c0;exact c0 rfl);have aL7:(if 0<=i then(l[i.toNat]?).getD 0 else 0)=0:=by(by_cases h9:0<=i;(rw[if_pos h9,List.getElem?_eq_none (by omega)];rfl);rw[if_neg h9])
  refine Z9 ?_;refine Post.bh rfl rfl (a) (by exact ak.self) (λ_ _ _ h=>h) rfl (.cons (.rt rfl) ?_ (.cons (.rt rfl) ?_ .nil))
  · exact aa.int (by rw[aL7];rfl)
  exact aa.any
 have hin:0<=i/\i<(l.length:Int):=Classical.byContradiction λh9=>c0 (by rw[if_neg h9];decide);obtain⟨v,hv⟩:=ah (xs:=l) (k:=i.toNat) (by omega);have hyes:(if 0<=i then(l[i.toNat]?).getD 0 else 0)=v:=by rw[if_pos hin.1,hv];rfl
 refine Z5 ?_;refine .p ((gu (.t rfl)).le (aa.int (show i=((i.toNat:Nat):Int) by omega))) rfl ?_;refine .n ((cE (h:=yW (kb:=kb) (X:=X) (at_:=at_) (n:=n) (h:=l.length) (i:=i.toNat) ak.ok (by omega))).same (λ_ _=>aF.refl _) (λ_ _=>aa.refl _)) rfl λ_ _=>?_;refine Z5 ?_;refine Post.bh rfl rfl (a) (by exact ak.self) (λ_ _ _ h=>h) rfl (.cons (.rt rfl) ?_ (.cons (.rt rfl) ?_ .nil))
 · exact aa.int (by rw[hyes,ak.v _ _ hv])
 exact aa.any
theorem KV(ak:pP X a at_ n l)(aR:v<18446744073709551616):bu Wo 165 [ax kb 0,nV i,wV v] (kq kb X at_ n (l).length::jx X a) (γ:=ep) (λb=>nD X a b at_ n (l.set i v)) (λb=>kq kb X at_ n (l.set i v).length::jx X b) (λ_=>fS):=by
 refine In 18 Tryz.func165 λ_ _ _=>?_;have u5:=ak.ok.most;have hk2:=ak.le;have DL:=ak.fit;have v5:=ak.most
 refine Z9 ?_;refine .n ((cE (h:=yY (kb:=kb) (X:=X) (at_:=at_) (n:=n) (h:=l.length) (i:=(i:Int)))).same (λ_ _=>aF.refl _) (λ_ _=>aa.refl _)) rfl λ_ _=>?_;refine cC ?_;refine Cd (λc0=>?_) λc0=>?_
 ·
  have hin:i<l.length:=by(by_cases h9:0<=(i:Int)/\(i:Int)<(l.length:Int);omega;(rw[if_neg h9] at c0;exact absurd c0 (by decide)))
  have hsp:=ak.self.set hin aR;refine Z4 ?_;refine .n (cE (h:=By (kb:=kb) (X:=X) (at_:=at_) (n:=n) (h:=l.length) (i:=i) ak.ok (by omega) aR)) rfl λZQ Vy=>?_;refine Z9 ?_;refine Post.aS rfl ((a.put (at_+8*i) (nO v 8))) (by exact hsp) (aF.of_eq (by rw[List.length_set];try rfl)) (.rt rfl) ?_;exact aa.any
 have hno:l.set i v=l:=List.set_eq_of_length_le (by(by_cases h9:0<=(i:Int)/\(i:Int)<(l.length:Int);(rw[if_pos h9] at c0;exact absurd rfl c0);omega));refine Z9 ?_;refine Post.aS rfl (a) (by rw[hno];exact ak.self) (aF.of_eq (by rw[hno];try rfl)) (.rt rfl) ?_;exact aa.any
theorem KW{keep height:Int}(ak:pP X a at_ n l):bu Wo 155 [ax kb 0,af .i64 keep,af .i64 height] (kq kb X at_ n (l).length::jx X a) (γ:=ep) (λb=>nD X a b at_ n (OV keep height l)) (λb=>kq kb X at_ n (OV keep height l).length::jx X b) (λ_=>fS):=by
 refine In 50 Tryz.func155 λ_ _ _=>?_;have u5:=ak.ok.most;have hk2:=ak.le;have DL:=ak.fit;have v5:=ak.most
 refine cC ?_;refine .n ((cE (h:=lz)).same (λ_ _=>aF.refl _) (λ_ _=>aa.refl _)) rfl λ_ _=>?_;refine Z3 ?_;refine CT λc0=>?_;refine Z29 ?_;refine Cd (λc1=>?_) λc1=>?_
 ·
  have hul:OV keep height l=l:=if_neg (by omega);refine Z8 ?_;refine Post.aS rfl (a) (by rw[hul];exact ak.self) (aF.of_eq (by rw[hul];try rfl)) (.rt rfl) ?_;exact aa.any
 have hul:OV keep height l=l.take height.toNat++l.drop (l.length-keep.toNat):=if_pos (by omega);have htl:tg keep.toNat l=(l.drop (l.length-keep.toNat),l.take (l.length-keep.toNat)):=if_pos (by omega);have jg:Bh n (l.take height.toNat) (l.drop (l.length-keep.toNat))=l.take height.toNat++l.drop (l.length-keep.toNat):=if_pos (by rw[List.length_take,List.length_drop];omega);refine Z6 ?_;refine .p ((gu (.t rfl)).le (aa.int (show keep=((keep.toNat:Nat):Int) by omega))) rfl ?_;refine .n (cE (h:=tB (k:=keep.toNat) ak)) rfl λwe T5=>?_;refine Z1 ?_;refine .p ((dW (.t rfl) rfl).le (aa.of_eq (by rw[htl]))) rfl ?_;refine Z5 ?_;rw[htl] at T5;have hS2:=nD.HB T5 height.toNat;have hS:pP X we at_ n (l.take height.toNat):=by(have h9:=hS2.1;simp only at h9;rwa [List.take_take,Nat.min_eq_left (by omega)] at h9)
 refine Z3 ?_;refine .p ((gu (.t rfl)).le (aa.int (show height=(((l.take height.toNat).length:Nat):Int) by rw[List.length_take];omega))) rfl ?_;refine Z9 ?_;refine .n (cE (h:=yX (a:=we) (l:=l.take height.toNat) (l2:=l.drop (l.length-keep.toNat)) hS (λv hv=>ak.lt (List.mem_of_mem_drop hv)))) rfl λVB ZR=>?_;refine Z4 ?_;refine Post.aS rfl (VB) (by rw[hul,<-jg];exact T5.trans ZR) (aF.of_eq (by rw[hul,jg];try rfl)) (.rt rfl) ?_;exact aa.any
theorem KX(ak:dz X a)(aR:1<=n)(bO:n<=65536)(dO:a.height+aJ (8*n)<=X.size):bu Wo 51 [ax X.ab 0,nV n] (iR X a) (γ:=Nat) (λ_=>True) (λb=>kq b X a.height n 0::iR X (uP a (aJ (8*n)))) (λb=>aZ [ax b 0,af .i64 0]):=by
 refine In 33 Tryz.func51 λ_ _ _=>?_;refine dh ?_;refine .p (dy FU.out (.t rfl)) rfl ?_;refine Z3 ?_;refine CT λc0=>?_;refine dh ?_;refine CT λc1=>?_;refine Z7 ?_;refine .p ((z8 (.c _) (.t rfl) bY).le (aa.int (show _=((8*n:Nat):Int) by omega))) rfl ?_;refine .n (cE (h:=oO (X:=X) (a:=a) (n:=8*n) ak)) rfl λSI T6=>?_;refine Z7 ?_;rw[wL ak (by omega) (by omega)] at T6;subst T6;refine Z7 ?_;refine CT λc2=>?_;refine Z7 ?_;refine .p ((aL FP.out FZ.out (.cons (.t rfl) (.cons (.t rfl) (.cons (.t rfl) .nil))) rfl).le ((by exact show aa _ (aC [ax X.ab 0,nV a.height,nV n,nV 0,av False]) from aa.agg (.cons (.refl _) (.cons (.refl _) (.cons (.refl _) (.cons (.refl _) (.cons oC .nil)))))))) rfl ?_;refine .n (cc (.t rfl)) rfl λb32 _=>?_;refine Z5 ?_;refine Post.bh rfl rfl (b32) (by trivial) (λ_ _ _ h=>h) rfl (.cons (.rt rfl) ?_ (.cons (.rt rfl) ?_ .nil))
 · exact .z
 exact .z
theorem rL{n:Int}:dF Wo 152 [af .i64 n] (av (0<=n/\n<=4294967295)):=by
 refine In 9 Tryz.func152 λ_ _ _=>?_;refine Dh ?_;refine br ?_;exact aa.prop (by omega)
theorem rM{x y z:Int}:dF Wo 108 [aC [af .i64 x,af .i64 y,af .i64 z]] (av (((0<=x/\x<=4294967295)/\(0<=y/\y<=4294967295))/\(0<=z/\z<=4294967295))):=by
 refine In 16 Tryz.func108 λ_ _ _=>?_;refine cC ?_;refine .p (cA (h:=rL)) rfl ?_;refine Z3 ?_;refine .g (de.gT rfl rfl rfl rfl (λhg=>cg (rL) FB.out (.cons (.when (.t rfl) hg) .nil))) rfl rfl ?_;refine Z4 ?_;refine .g (de.gT rfl rfl rfl rfl (λhg=>cg (rL) FB.out (.cons (.when (.t rfl) hg) .nil))) rfl rfl ?_;refine Z5 ?_;refine br ?_;exact aa.prop (by omega)
variable {fb:Nat}
theorem ng:bu Wo 107 [ax fb 0] [kV fb X at_ n h] (γ:=Unit) (λ_=>True) (λ_=>[kV fb X at_ n h]) (λ_=>av False):=by
 refine In 11 Tryz.func107 λ_ _ _=>?_;refine Z8 ?_;refine .p (dy FU.out (.t rfl)) rfl ?_;refine cC ?_;refine br ?_;exact aa.prop (by simp)
variable {f:l8}
theorem Bz(ak:dz X a)(aR:at_+12*(i+1)<=X.size)(bO:oK f):bu Wo 109 [ax fb 0,nV i,aC (m5 f)] (kV fb X at_ n h::jx X a) (γ:=Unit) (λ_=>True) (λ_=>kV fb X at_ n h::jx X (w8 a (at_+12*i) f 3)) (λ_=>aZ []):=by
 refine In 37 Tryz.func109 λ_ _ _=>?_;have u5:=ak.most;have yl:=bO.fn;have yZ:=bO.pl;have BA:=bO.bs
 refine kL ?_;refine .p (fy FR.out FZ.out (.cons (.t rfl) (.cons (.t rfl) (.cons (.t rfl) .nil))) rfl) rfl ?_;refine Z4 ?_;refine .bk (σ:=Nat) (λk=>kV fb X at_ n h::jx X (w8 a (at_+12*i) f k)) (λk=>[(15,af .i64 (k:Int))]) (λk=>k<=3) (λk=>3-k) 0 (Nat.zero_le _) rfl ?_ ?_
 · exact(.get rfl (aa.refl _) (.refl _ _))
 rintro k hk;refine Z6 ?_;refine Cd (λc0=>?_) λc0=>?_
 ·
  have hka:=uq (f:=f) ak (x:=at_+12*i) (by omega) k (by omega);have Aa:at_+12*i+4*k=at_+4*(3*i+k):=by omega
  have hfl:=Sq bO (k:=k) (by omega);refine Z7 ?_;refine .p (fL FU.out FC.out FA.out (.t rfl) rfl (.t rfl) rfl (Vt f (by omega))) rfl ?_;refine Z4 ?_;refine .bL 16 1 FM.out (by kernel_rfl) (k:= ?_);refine kL ?_;refine .p ((ez (.t rfl) (.t rfl) bY).le (aa.int (show _=((at_+4*(3*i+k):Nat):Int) by omega))) ?_;refine Z1 ?_;refine .p ((jW FU.out FU.out (.t rfl) bY).le (aa.int (show _=((W3 f k:Nat):Int) by omega))) ?_;refine Z1 ?_;refine .n (hH [_] [1,2,0] (h:=ur (a:=w8 a (at_+12*i) f k) (at_:=at_+4*(3*i+k)) (w:=4) (v:=W3 f k) hka.ok (by omega) (.inr rfl) (by omega))) rfl λg35 h35=>?_;refine Z7 ?_;refine .own (aF.perm (Perm.idx [2,0,1] rfl rfl)) (bS.round (k+1) (by omega) (by omega) (by rw[Sg a _ f (by omega),Aa];try rfl) ?_);exact(.get rfl (aa.int (by(show(k:Int)+1=((k+1:Nat):Int);omega))) ((.keep 25 rfl rfl)))
 have vb:k=3:=by omega
 subst vb;refine Z4 ?_;refine Post.cY rfl (()) (by trivial) (λ_ _ _ h=>h) rfl
theorem KY(ak:dz X a)(aR:at_+12*(i+1)<=X.size)(bO:Cy a (at_+12*i) f):bu Wo 279 [ax fb 0,nV i] (kV fb X at_ n h::jx X a) (γ:=Unit) (λ_=>True) (λ_=>kV fb X at_ n h::jx X a) (λ_=>aC (m5 f)):=by
 refine In 42 Tryz.func279 λ_ _ _=>?_;have u5:=ak.most;have hfo:=bO.ok;refine Z2 ?_;refine .n (au FZ.out) rfl λb4 _=>?_;refine Z4 ?_;refine .n (au FZ.out) rfl λb5 _=>?_;refine Z9 ?_;refine .bk (σ:=Nat) (λk=>az b5 (rvL f k)::az b4 (List.map ag [.int .i64 0, .int .i64 0, .int .i64 0])::kV fb X at_ n h::jx X a) (λk=>[(9,af .i64 (k:Int))]) (λk=>k<=3) (λk=>3-k) 0 (Nat.zero_le _) rfl ?_ ?_
 · exact(.get rfl (aa.refl _) (.refl _ _))
 rintro k hk;refine Z6 ?_;refine Cd (λc0=>?_) λc0=>?_
 ·
  have Aa:at_+12*i+4*k=at_+4*(3*i+k):=by omega
  have Mo:=bO.part (k:=k) (by omega);rw[Aa] at Mo;have hfl:=Sq hfo (k:=k) (by omega);refine dh ?_;refine .bt [(0,0),(1,0),(2,0),(3,1),(4,0),(5,0),(6,0),(7,1),(8,0),(9,0),(10,0),(11,0),(12,0),(13,0),(14,4),(15,0),(16,0),(17,0),(18,0)] 19 1 FM.out (by kernel_rfl) (k:= ?_);refine kL ?_;refine .p rfl (λ_=>(ez (.t rfl) (.t rfl) bY).le (aa.int (show _=((at_+4*(3*i+k):Nat):Int) by omega))) ?_;refine .a rfl ((hH [_,_,_] [3,4,0,1,2] (h:=uu (at_:=at_+4*(3*i+k)) (w:=4) ak (by omega) (.inr rfl))).same (λ_ _=>aF.perm (Perm.idx [2,3,4,0,1] rfl rfl)) (λ_ _=>aa.refl _)) (λ_ _=>aF.refl _) λ_ _=>?_;refine Z1 ?_;refine .p rfl (λ_=>(dW (.t rfl) rfl).le (aa.int (show _=((W3 f k:Nat):Int) from congrArg Nat.cast Mo))) ?_;refine Z2 ?_;refine .fin ?_;refine Z7 ?_;refine .p (eD k FU.out FC.out rfl (.t rfl) (.t rfl) rfl (by omega)) rfl ?_;refine .s (jf (i:=0) FC.out (.t rfl) (.t rfl) rfl (by rw[Nat.blt_eq];show 0+k*1<3;omega)) ?_;refine Z7 ?_;refine .round (k+1) (by omega) (by omega) (by rw[Vs f (by omega)];rfl) ?_;exact(.get rfl (aa.int (by(show(k:Int)+1=((k+1:Nat):Int);omega))) ((.keep 30 rfl rfl)))
 have vb:k=3:=by omega
 subst vb;refine Z7 ?_;refine .p (eD 0 FU.out FC.out rfl (.t rfl) (.c _) rfl (by omega)) rfl ?_;refine Z1 ?_;refine .p (eD 1 FU.out FC.out rfl (.t rfl) (.c _) rfl (by omega)) rfl ?_;refine Z1 ?_;refine .p (eD 2 FU.out FC.out rfl (.t rfl) (.c _) rfl (by omega)) rfl ?_;refine Z6 ?_;refine Post.aS rfl (()) (by trivial) (aF.cZ [2,3,4] [0,1] rfl rfl) (.ra (i:=1) FA.out FC.out rfl rfl rfl rfl) ?_;exact aa.refl _
theorem O4{l:List l8}{i:Int}(ak:oM X a at_ n l):bu Wo 218 [ax fb 0,af .i64 i] (kV fb X at_ n (l).length::jx X a) (γ:=ep) (λb=>lU X a b at_ n (l)) (λb=>kV fb X at_ n (l).length::jx X b) (λ_=>aZ [aC (m5 (YC i l)),af .i64 (if 0<=i/\i<(l.length:Int) then 0 else 2)]):=by
 refine In 25 Tryz.func218 λ_ _ _=>?_;have u5:=ak.ok.most;have hk2:=ak.le;have DL:=ak.fit;have v5:=ak.most
 refine Z2 ?_;refine .n (au FZ.out) rfl λb4 _=>?_;refine Z8 ?_;refine .n ((hH [_,_,_] [1,0,2,3] (h:=ng)).same (λ_ _=>aF.perm (Perm.idx [1,0,2,3] rfl rfl)) (λ_ _=>aa.refl _)) rfl λ_ _=>?_;refine Z3 ?_;refine CT λc0=>?_;refine oA ?_;refine Cd (λc1=>?_) λc1=>?_
 ·
  have Aa:YC i l=⟨0,0,0⟩:=by(unfold YC;by_cases h9:0<=i;(rw[if_pos h9,List.getElem?_eq_none (by omega)];rfl);rw[if_neg h9])
  refine cC ?_;refine Post.bh rfl rfl (a) (by exact ak.self) (aF.cZ [1,2,3] [0] rfl rfl) rfl (.cons (.ra (i:=0) FA.out FC.out rfl rfl rfl rfl) ?_ (.cons (.rt rfl) ?_ .nil))
  · exact aa.of_eq (by rw[Aa];rfl)
  exact aa.int (by rw[if_neg (by omega)])
 obtain⟨v,hv⟩:=ah (xs:=l) (k:=i.toNat) (by omega);have Aa:YC i l=v:=by(unfold YC;rw[if_pos (by omega),hv];rfl)
 refine Z6 ?_;refine .p ((gu (.t rfl)).le (aa.int (show i=((i.toNat:Nat):Int) by omega))) rfl ?_;refine .n ((hH [_] [1,2,3,0] (h:=KY (fb:=fb) (X:=X) (at_:=at_) (n:=n) (h:=l.length) (i:=i.toNat) (f:=v) ak.ok (by omega) (ak.v _ _ hv))).same (λ_ _=>aF.perm (Perm.idx [3,0,1,2] rfl rfl)) (λ_ _=>aa.refl _)) rfl λ_ _=>?_;refine Z5 ?_;refine Post.bh rfl rfl (a) (by exact ak.self) (aF.cZ [1,2,3] [0] rfl rfl) rfl (.cons (.ra (i:=0) FA.out FC.out rfl rfl rfl rfl) ?_ (.cons (.rt rfl) ?_ .nil))
 · exact aa.of_eq (by rw[Aa];rfl)
 exact aa.int (by rw[if_pos (by omega)])
theorem xk:bu Wo 71 [ax fb 0] [kV fb X at_ n h] (γ:=Unit) (λ_=>True) (λ_=>[kV fb X at_ n h]) (λ_=>nV h):=by
 refine In 9 Tryz.func71 λ_ _ _=>?_;refine Z9 ?_;refine .n ((cE (h:=ng)).same (λ_ _=>aF.refl _) (λ_ _=>aa.refl _)) rfl λ_ _=>?_;refine Z2 ?_;refine CT λc0=>?_;refine eB ?_;refine br ?_;exact .z
theorem vG{l:List l8}(ak:oM X a at_ n l):bu Wo 153 [ax fb 0] (kV fb X at_ n (l).length::jx X a) (γ:=ep) (λb=>lU X a b at_ n (l)) (λb=>kV fb X at_ n (l).length::jx X b) (λ_=>aZ [aC (m5 (mD l)),af .i64 (if 1<=l.length then 0 else 2)]):=by
 refine In 11 Tryz.func153 λ_ _ _=>?_;have u5:=ak.ok.most;have hk2:=ak.le;have DL:=ak.fit;have v5:=ak.most
 refine Z2 ?_;refine .n (au FZ.out) rfl λb2 _=>?_;refine Z7 ?_;refine .n ((hH [_,_,_] [1,0,2,3] (h:=xk)).same (λ_ _=>aF.perm (Perm.idx [1,0,2,3] rfl rfl)) (λ_ _=>aa.refl _)) rfl λ_ _=>?_;refine Z1 ?_;refine .n (hH [_] [1,2,3,0] (h:=O4 (i:=(l.length:Int)-1) ak)) rfl λg8 h8=>?_;refine Z2 ?_;refine .s (dQ (i:=3) FC.out rfl (.t rfl) (.t rfl) rfl rfl rfl) ?_;refine Z4 ?_;refine Post.bh rfl rfl (g8) (by exact h8) (aF.cZ [0,1,2] [3] rfl rfl) rfl (.cons (.ra (i:=3) FA.out FC.out rfl rfl rfl rfl) ?_ (.cons (.rt rfl) ?_ .nil))
 · exact aa.of_eq (by rw[<-Sp];rfl)
 exact aa.int (by(by_cases h9:1<=l.length;(rw[if_pos h9,if_pos (by omega)]);rw[if_neg h9,if_neg (by omega)]))
theorem KZ{l:List l8}(ak:oM X a at_ n l):bu Wo 154 [ax fb 0] (kV fb X at_ n (l).length::jx X a) (γ:=ep) (λb=>lU X a b at_ n (l.dropLast)) (λb=>kV fb X at_ n (l.dropLast).length::jx X b) (λ_=>aZ [aC (m5 (mD l)),fS]):=by
 refine In 22 Tryz.func154 λ_ _ _=>?_;have u5:=ak.ok.most;have hk2:=ak.le;have DL:=ak.fit;have v5:=ak.most
 refine Z2 ?_;refine .n (au FZ.out) rfl λb2 _=>?_;refine Z6 ?_;refine .n (hH [_] [1,2,3,0] (h:=vG ak)) rfl λg8 h8=>?_;refine Z3 ?_;refine .n (au FZ.out) rfl λb4 _=>?_;refine dh ?_;refine Cd (λc0=>?_) λc0=>?_
 ·
  have kR:1<=l.length:=by(by_cases h9:1<=l.length;exact h9;(rw[if_neg h9] at c0;exact absurd c0 (by decide)))
  have TT:l.dropLast=l.take (l.length-1):=List.dropLast_eq_take;refine Z5 ?_;refine .p ((iy (.t rfl) (.c _) bY).le (aa.int (show _=((l.dropLast.length:Nat):Int) by rw[List.length_dropLast];omega))) rfl ?_;refine Z9 ?_;refine .s (dQ (i:=4) FC.out rfl (.t rfl) (.t rfl) rfl rfl rfl) ?_;refine Z4 ?_;refine Post.bh rfl rfl (g8) (by rw[TT];exact .HB h8 _) (aF.cZ [1,2,3] [0,4] rfl rfl) rfl (.cons (.ra (i:=4) FA.out FC.out rfl rfl rfl rfl) ?_ (.cons (.rt rfl) ?_ .nil))
  · exact aa.refl _
  exact aa.any
 have Ci:l=[]:=List.eq_nil_of_length_eq_zero (by(by_cases h9:1<=l.length;(rw[if_pos h9] at c0;exact absurd rfl c0);omega));subst Ci;refine Z6 ?_;refine .s (dQ (i:=4) FC.out rfl (.t rfl) (.t rfl) rfl rfl rfl) ?_;refine Z4 ?_;refine Post.bh rfl rfl (g8) (by exact h8) (aF.cZ [1,2,3] [0,4] rfl rfl) rfl (.cons (.ra (i:=4) FA.out FC.out rfl rfl rfl rfl) ?_ (.cons (.rt rfl) ?_ .nil))
 · exact aa.refl _
 exact aa.any
theorem O5{l:List l8}{p:Int}(ak:oM X a at_ n l):bu Wo 113 [ax fb 0,af .i64 p] (kV fb X at_ n (l).length::jx X a) (γ:=ep) (λb=>lU X a b at_ n (T0 p l)) (λb=>kV fb X at_ n (T0 p l).length::jx X b) (λ_=>fS):=by
 refine In 36 Tryz.func113 λ_ _ _=>?_;have u5:=ak.ok.most;have hk2:=ak.le;have DL:=ak.fit;have v5:=ak.most
 refine Z8 ?_;refine .n (cE (h:=vG ak)) rfl λDN h10=>?_;refine Z3 ?_;refine .n (au FZ.out) rfl λb5 _=>?_;refine dh ?_;refine Cd (λc0=>?_) λc0=>?_
 ·
  have Ci:l=[]:=List.eq_nil_of_length_eq_zero (by(by_cases h9:1<=l.length;(rw[if_pos h9] at c0;exact absurd rfl c0);omega));have VC:T0 p l=l:=if_pos (.inl Ci);rw[VC];refine Z8 ?_;refine Post.aS rfl (DN) (by exact h10) (aF.cZ [1,2,3] [0] rfl rfl) (.rt rfl) ?_;exact aa.any
 have kR:1<=l.length:=by(by_cases h9:1<=l.length;exact h9;(rw[if_neg h9] at c0;exact absurd (show(2:Int)≠0 by decide) c0))
 have hne:l≠[]:=λe=>by(rw[e] at kR;simp at kR)
 have hfo:=(ak.v _ _ (YD hne)).ok;have yl:=hfo.fn;have yZ:=hfo.pl;have BA:=hfo.bs
 refine cC ?_;refine .n (au FZ.out) rfl λb7 _=>?_;refine Z8 ?_;refine .p (Xz Tryz.underlying193 Tryz.ad7 Tryz.ad8 (.t rfl) (.t rfl) (.cons (by decide) rfl rfl (.int FU.out) (.cons (by decide) rfl rfl (.int FU.out) (.cons (by decide) rfl rfl (.int FU.out) .nil)))) rfl ?_;refine Z2 ?_;refine Cd (λc1=>?_) λc1=>?_
 ·
  have VC:=Sr hne (p:=p) (by omega);rw[VC];refine Z7 ?_;refine Post.aS rfl (DN) (by exact h10) (aF.cZ [2,3,4] [0,1] rfl rfl) (.rt rfl) ?_;exact aa.any
 refine Z6 ?_;refine .p (cA (h:=rM (x:=((mD l).fn:Int)) (y:=p) (z:=((mD l).bs:Int)))) rfl ?_;refine Z3 ?_;refine Cd (λc2=>?_) λc2=>?_
 ·
  have VC:T0 p l=l:=if_pos (.inr (by omega));rw[VC];refine Z7 ?_;refine Post.aS rfl (DN) (by exact h10) (aF.cZ [2,3,4] [0,1] rfl rfl) (.rt rfl) ?_;exact aa.any
 have hok:¬(p<0\/4294967295<p):=by omega
 have VC:=Vv hne hok;have hnf:oK ⟨(mD l).fn,p.toNat,(mD l).bs⟩:=⟨yl,by(show p.toNat<_;omega),BA⟩;rw[VC,List.length_set];refine Z3 ?_;refine .bL 7 1 FM.out (by kernel_rfl) (k:= ?_);refine Z5 ?_;refine .p ((iy (.t rfl) (.c _) bY).le (aa.int (show _=((l.length-1:Nat):Int) by omega))) ?_;refine .p ((mP (i:=0) FA.out FC.out rfl (.t rfl) rfl rfl).le ((by exact show aa (aC [nV (mD l).fn,af .i64 p,nV (mD l).bs]) (aC (m5 ⟨(mD l).fn,p.toNat,(mD l).bs⟩)) from aa.agg (.cons (.refl _) (.cons (aa.int (show p=((p.toNat:Nat):Int) by omega)) (.cons (.refl _) .nil)))))) ?_;refine Z1 ?_;refine .n (hH [_,_] [2,3,4,0,1] (h:=Bz (fb:=fb) (X:=X) (at_:=at_) (n:=n) (a:=DN) (h:=l.length) (i:=l.length-1) (f:=⟨(mD l).fn,p.toNat,(mD l).bs⟩) h10.1.ok (by omega) hnf)) rfl λg35 h35=>?_;refine Z8 ?_;refine Post.aS rfl ((w8 DN (at_+12*(l.length-1)) ⟨(mD l).fn,p.toNat,(mD l).bs⟩ 3)) (by exact lU.set h10 (by omega) hnf) (aF.cZ [0,1,2] [3,4] rfl rfl) (.rt rfl) ?_;exact aa.any
theorem EW{l:List l8}(ak:oM X a at_ n l):bu Wo 105 [ax fb 0] (kV fb X at_ n (l).length::jx X a) (γ:=ep) (λb=>lU X a b at_ n (([]:List l8))) (λb=>kV fb X at_ n (([]:List l8)).length::jx X b) (λ_=>aZ []):=by
 refine In 8 Tryz.func105 λ_ _ _=>?_;refine Z3 ?_;refine .n ((cE (h:=ng)).same (λ_ _=>aF.refl _) (λ_ _=>aa.refl _)) rfl λ_ _=>?_;refine Z3 ?_;refine Cd (λc0=>?_) λc0=>?_
 ·
  refine Z6 ?_;refine Post.cY rfl (a) (by exact .HB ak.self 0) (λ_ _ _ h=>h) rfl
 exact(c0 (λh=>h)).elim
theorem HZ{l:List l8}(ak:oM X a at_ n l)(aR:oK f):bu Wo 70 [ax fb 0,aC (m5 f)] (kV fb X at_ n (l).length::jx X a) (γ:=ep) (λb=>lU X a b at_ n (vD n l f)) (λb=>kV fb X at_ n (vD n l f).length::jx X b) (λ_=>af .i64 (if l.length=n then 11 else 0)):=by
 refine In 36 Tryz.func70 λ_ _ _=>?_;have u5:=ak.ok.most;have hk2:=ak.le;have DL:=ak.fit;have v5:=ak.most
 have yl:=aR.fn;have yZ:=aR.pl;have BA:=aR.bs
 refine dh ?_;refine .n ((cE (h:=ng)).same (λ_ _=>aF.refl _) (λ_ _=>aa.refl _)) rfl λ_ _=>?_;refine Z3 ?_;refine CT λc0=>?_;refine Z3 ?_;refine .p (cA (h:=rM (x:=(f.fn:Int)) (y:=(f.pl:Int)) (z:=(f.bs:Int)))) rfl ?_;refine Z4 ?_;refine CT λc1=>?_;refine Z1 ?_;refine .bL 8 2 FM.out (by kernel_rfl) (k:= ?_);refine kL ?_;refine Cd (λc2=>?_) λc2=>?_
 ·
  have pX:l.length=n:=by omega
  have jg:vD n l f=l:=if_pos pX;refine Z8 ?_;refine Post.aS rfl (a) (by rw[jg];exact ak.self) (aF.of_eq (by rw[jg];try rfl)) (.rt rfl) ?_;exact aa.int (by rw[if_pos pX])
 have pX:¬l.length=n:=by omega
 have jg:vD n l f=l++[f]:=if_neg pX;refine Z4 ?_;refine .bL 6 1 FM.out (by kernel_rfl) (k:= ?_);refine Z5 ?_;refine .p ((wj FA.out FC.out rfl (.t rfl) rfl).le (aa.of_eq rfl)) ?_;refine Z1 ?_;refine .n (cE (h:=Bz (fb:=fb) (X:=X) (at_:=at_) (n:=n) (h:=l.length) (i:=l.length) (f:=f) ak.ok (by omega) aR)) rfl λXb VA=>?_;refine Z8 ?_;refine .p ((ez (.t rfl) (.c _) bY).le (aa.int (show _=((l.length+1:Nat):Int) by omega))) rfl ?_;refine dh ?_;refine Post.aS rfl ((w8 a (at_+12*l.length) f 3)) (by rw[jg];exact ak.self.push (by omega) aR) (aF.of_eq (by rw[jg,List.length_append,List.length_singleton];try rfl)) (.rt rfl) ?_;exact aa.int (by rw[if_neg pX])
theorem EX{x y z:Int}(ak:z<0):bu Wo 70 [ax fb 0,aC [af .i64 x,af .i64 y,af .i64 z]] [kV fb X at_ n h] (γ:=Unit) (λ_=>True) (λ_=>[kV fb X at_ n h]) (λ_=>af .i64 1):=by
 refine In 36 Tryz.func70 λ_ _ _=>?_;refine dh ?_;refine .n ((cE (h:=ng)).same (λ_ _=>aF.refl _) (λ_ _=>aa.refl _)) rfl λ_ _=>?_;refine Z3 ?_;refine CT λc0=>?_;refine Z3 ?_;refine .p (cA (h:=rM (x:=x) (y:=y) (z:=z))) rfl ?_;refine Z4 ?_;refine CF λc1=>?_;refine Z8 ?_;refine br ?_;exact .z
theorem K1(ak:dz X a)(aR:1<=n)(bO:n<=10000)(dO:a.height+aJ (12*n)<=X.size):bu Wo 52 [ax X.ab 0,nV n] (iR X a) (γ:=Nat) (λ_=>True) (λb=>kV b X a.height n 0::iR X (uP a (aJ (12*n)))) (λb=>aZ [ax b 0,af .i64 0]):=by
 refine In 33 Tryz.func52 λ_ _ _=>?_;refine dh ?_;refine .p (dy FU.out (.t rfl)) rfl ?_;refine Z3 ?_;refine CT λc0=>?_;refine dh ?_;refine CT λc1=>?_;refine Z7 ?_;refine .p ((z8 (.c _) (.t rfl) bY).le (aa.int (show _=((12*n:Nat):Int) by omega))) rfl ?_;refine .n (cE (h:=oO (X:=X) (a:=a) (n:=12*n) ak)) rfl λSI T6=>?_;refine Z7 ?_;rw[wL ak (by omega) (by omega)] at T6;subst T6;refine Z7 ?_;refine CT λc2=>?_;refine Z7 ?_;refine .p ((aL FP.out FZ.out (.cons (.t rfl) (.cons (.t rfl) (.cons (.t rfl) .nil))) rfl).le ((by exact show aa _ (aC [ax X.ab 0,nV a.height,nV n,nV 0,av False]) from aa.agg (.cons (.refl _) (.cons (.refl _) (.cons (.refl _) (.cons (.refl _) (.cons oC .nil)))))))) rfl ?_;refine .n (cc (.t rfl)) rfl λb32 _=>?_;refine Z5 ?_;refine Post.bh rfl rfl (b32) (by trivial) (λ_ _ _ h=>h) rfl (.cons (.rt rfl) ?_ (.cons (.rt rfl) ?_ .nil))
 · exact .z
 exact .z
theorem DO:bu Wo 23 [ax sb 0] [p5 sb X pb m num g t mv] (γ:=Unit) (λ_=>True) (λ_=>[p5 sb X pb m num g t mv]) (λ_=>ck (bp m)):=by
 refine In 9 Tryz.func23 λ_ _ _=>?_;refine Z9 ?_;refine .n ((cE (h:=rK)).same (λ_ _=>aF.refl _) (λ_ _=>aa.refl _)) rfl λ_ _=>?_;refine Z2 ?_;refine CT λc0=>?_;refine eB ?_;refine br ?_;exact .z
theorem xl:bu Wo 280 [ax sb 0] [p5 sb X pb m num g t mv] (γ:=Unit) (λ_=>True) (λ_=>[p5 sb X pb m num g t mv]) (λ_=>af .i64 m.Table):=by
 refine In 10 Tryz.func280 λ_ _ _=>?_;refine zE ?_;refine br ?_;exact .z
theorem H6{i:Int}(ak:0<=i)(aR:i<m.Table):bu Wo 128 [ax sb 0,af .i64 i,X7 280 sb] [p5 sb X pb m num g t mv] (γ:=Unit) (λ_=>True) (λ_=>[p5 sb X pb m num g t mv]) (λ_=>af .i64 0):=by
 refine In 19 Tryz.func128 λ_ _ _=>?_;refine cC ?_;refine .n ((cE (h:=rK)).same (λ_ _=>aF.refl _) (λ_ _=>aa.refl _)) rfl λ_ _=>?_;refine Z3 ?_;refine CT λc0=>?_;refine Z7 ?_;refine .egF rfl rfl rfl rfl (λhg=>((AH (rest:=[]) (xl (sb:=sb) (X:=X) (pb:=pb) (m:=m) (num:=num) (g:=g) (t:=t) (mv:=mv)) FB.out (.when (.t rfl) hg) (Perm.idx [0] rfl rfl)).same (λ_ _=>aF.refl _) (λ_ _=>aa.refl _)).same (λ_ _=>aF.refl _) (λ_ _=>aa.refl _)) rfl rfl ?_;refine Z5 ?_;refine CT λc1=>?_;refine Z9 ?_;refine br ?_;exact .z
theorem H7{t0:Nat}(ak:i<fH m)(aR:dz X a)(bO:t0+4*(i+1)<=X.size):bu Wo 223 [ax sb 0,af .i64 (i:Int)] (p5 sb X pb m num g (t0:Int) mv::jx X a) (γ:=Unit) (λ_=>True) (λ_=>p5 sb X pb m num g (t0:Int) mv::jx X a) (λ_=>aZ [af .i64 (if (nv ((a.bytes.drop (t0+4*i)).take 4))=0 then 0 else((nv ((a.bytes.drop (t0+4*i)).take 4)):Int)-1),av ((nv ((a.bytes.drop (t0+4*i)).take 4))≠0),af .i64 0]):=by
 refine In 43 Tryz.func223 λ_ _ _=>?_;have hmo:=aR.most;have YI:(i:Int)<m.Table:=by unfold fH at ak;omega
 have hvl:=ta (a.bytes.drop (t0+4*i));refine kL ?_;refine .p (pz (.t rfl)) rfl ?_;refine .n ((cE (h:=H6 (sb:=sb) (X:=X) (pb:=pb) (m:=m) (num:=num) (g:=g) (t:=(t0:Int)) (mv:=mv) (i:=(i:Int)) (by omega) YI)).same (λ_ _=>aF.refl _) (λ_ _=>aa.refl _)) rfl λ_ _=>?_;refine Z9 ?_;refine CT λc0=>?_;refine Z3 ?_;refine .bt [(0,0),(1,0),(2,0),(3,1),(4,0),(5,0),(6,0),(7,1),(8,0),(9,0),(10,0),(11,4),(12,0),(13,0),(14,0),(15,0)] 16 1 FM.out (by kernel_rfl) (k:= ?_);refine cC ?_;refine .p rfl (λ_=>(ez (.t rfl) (.t rfl) bY).le (aa.int (show _=((t0+4*i:Nat):Int) by omega))) ?_;refine .a rfl ((hH [_] [1,2,0] (h:=uu (at_:=t0+4*i) (w:=4) aR (by omega) (.inr rfl))).same (λ_ _=>aF.perm (Perm.idx [2,0,1] rfl rfl)) (λ_ _=>aa.refl _)) (λ_ _=>aF.refl _) λ_ _=>?_;refine Z4 ?_;refine .fin ?_;refine ij ?_;refine Cd (λc1=>?_) λc1=>?_
 ·
  have hz:(nv ((a.bytes.drop (t0+4*i)).take 4))=0:=by omega
  refine cC ?_;refine TX ?_ ?_ ?_
  · exact aa.int (by rw[if_pos hz])
  · exact aa.prop (by simp[hz])
  exact aa.refl _
 have hz:¬(nv ((a.bytes.drop (t0+4*i)).take 4))=0:=by omega
 refine kL ?_;refine TX ?_ ?_ ?_
 · exact aa.int (by rw[if_neg hz])
 · exact aa.prop (by simp[hz])
 exact aa.refl _
theorem H8{i:Int}(ak:i<0\/m.Table<=i):bu Wo 128 [ax sb 0,af .i64 i,X7 280 sb] [p5 sb X pb m num g t mv] (γ:=Unit) (λ_=>True) (λ_=>[p5 sb X pb m num g t mv]) (λ_=>af .i64 2):=by
 refine In 19 Tryz.func128 λ_ _ _=>?_;refine cC ?_;refine .n ((cE (h:=rK)).same (λ_ _=>aF.refl _) (λ_ _=>aa.refl _)) rfl λ_ _=>?_;refine Z3 ?_;refine CT λc0=>?_;refine Z7 ?_;refine .egF rfl rfl rfl rfl (λhg=>((AH (rest:=[]) (xl (sb:=sb) (X:=X) (pb:=pb) (m:=m) (num:=num) (g:=g) (t:=t) (mv:=mv)) FB.out (.when (.t rfl) hg) (Perm.idx [0] rfl rfl)).same (λ_ _=>aF.refl _) (λ_ _=>aa.refl _)).same (λ_ _=>aF.refl _) (λ_ _=>aa.refl _)) rfl rfl ?_;refine Z5 ?_;refine CF λc1=>?_;refine Z8 ?_;refine br ?_;exact .z
theorem EY{i:Int}(ak:i<0\/m.Table<=i):bu Wo 223 [ax sb 0,af .i64 i] [p5 sb X pb m num g t mv] (γ:=Unit) (λ_=>True) (λ_=>[p5 sb X pb m num g t mv]) (λ_=>aZ [af .i64 0,av False,af .i64 2]):=by
 refine In 43 Tryz.func223 λ_ _ _=>?_;refine kL ?_;refine .p (pz (.t rfl)) rfl ?_;refine .n ((cE (h:=H8 (sb:=sb) (X:=X) (pb:=pb) (m:=m) (num:=num) (g:=g) (t:=t) (mv:=mv) ak)).same (λ_ _=>aF.refl _) (λ_ _=>aa.refl _)) rfl λ_ _=>?_;refine Z9 ?_;refine Cd (λc0=>?_) λc0=>?_
 ·
  refine cC ?_;refine TX ?_ ?_ ?_
  · exact .z
  · exact .z
  exact .z
 exact(c0 (by decide)).elim
theorem EZ{g:Nat}(ak:i<m.aA.length)(aR:dz X a)(bO:g+8*(i+1)<=X.size)(dO:m.aA.length<=60000):bu Wo 166 [ax sb 0,af .i64 (i:Int)] (p5 sb X pb m num (g:Int) t mv::jx X a) (γ:=Unit) (λ_=>True) (λ_=>p5 sb X pb m num (g:Int) t mv::jx X a) (λ_=>aZ [af .u64 (nv ((a.bytes.drop (g+8*i)).take 8):Int),af .i64 0]):=by
 refine In 29 Tryz.func166 λ_ _ _=>?_;have hmo:=aR.most;refine eB ?_;refine .p (pz (.t rfl)) rfl ?_;refine .n ((cE (h:=Bx (sb:=sb) (X:=X) (pb:=pb) (m:=m) (num:=num) (g:=(g:Int)) (t:=t) (mv:=mv) (i:=(i:Int)) (by omega) (by omega))).same (λ_ _=>aF.refl _) (λ_ _=>aa.refl _)) rfl λ_ _=>?_;refine Z9 ?_;refine CT λc0=>?_;refine Z3 ?_;refine .bt [(0,0),(1,0),(2,0),(3,1),(4,0),(5,0),(6,0),(7,1),(8,0),(9,0),(10,0),(11,4),(12,0),(13,0)] 14 2 FM.out (by kernel_rfl) (k:= ?_);refine cC ?_;refine .p rfl (λ_=>(ez (.t rfl) (.t rfl) bY).le (aa.int (show _=((g+8*i:Nat):Int) by omega))) ?_;refine .a rfl ((hH [_] [1,2,0] (h:=uu (at_:=g+8*i) (w:=8) aR (by omega) (.inl rfl))).same (λ_ _=>aF.perm (Perm.idx [2,0,1] rfl rfl)) (λ_ _=>aa.refl _)) (λ_ _=>aF.refl _) λ_ _=>?_;refine Z2 ?_;refine .fin ?_;refine Z5 ?_;refine eA ?_ ?_
 · exact .z
 exact .z
end Go.Proofs.YtppekopemdoclaaGreatDoor
end
section
namespace Go.Hl
open Go.RowKit
section
variable {P:Program} {f:FuncId} {ps:List VP} {A:qE} {K:gA} {c:bM} {q':VP} {a a':ep}
theorem mG{hs rest:ep->List HP}(h:∀a,gV A K a c->bu P f ps (hs a) (γ:=Unit) (λ_=>True) (λ_=>hs a) (λ_=>q'))(hp:∀a,(qF A K a c).Perm (hs a++rest a)):bu P f ps [aX A K c] (γ:=Unit) (λ_=>True) (λ_=>[aX A K c]) (λ_=>q'):=
 .core λa hV=> .Ng (d:=λ_=>a) (h a hV) (hp a) (λ_ _=>hV) (λ_ _=>aF.perm (hp a).symm) (λ_ _=>aa.refl _)
theorem gV.aL8(h:gV A K a c)(hA:oe A K){i v:Nat}(hi:i<K.m.aA.length)(hv:v<18446744073709551616):gV A K (a.put (A.g0+8*i) (nO v 8)) {c with gl:=c.gl.set i v}:=by
 have h1:=hA.kf;have h2:=hA.tk;have h3:=hA.gt;have h4:=h.gn;have h5:=h.tn;have h6:=hA.fx;have h7:=h.sl
 have k:Bb A.X a (a.put (A.g0+8*i) (nO v 8)) A.g0 (A.g0+8*K.m.aA.length):= .Ys h.ok (by omega) (by omega) (by omega);refine⟨k.ok,h.same.trans k.same,h.stk.xM k (by omega),h.dS.xM k (by omega),?_,h.tb.xM k (by omega),h.sl,h.fl,by rw[List.length_set];exact h.gn,h.tn⟩;intro j w hw;rcases zF hw with⟨rfl,rfl⟩|⟨e,hw⟩
 · rw[gS h.ok (by omega)];exact Nat.mod_eq_of_lt hv
 · have:=(List.getElem?_eq_some_iff.1 hw).1
   rw[fI h.ok (by omega) (by omega)];exact h.gl j w hw
theorem SJ(l:List Nat):fk K l c={c with stk:=Bh K.cells c.stk l}:=by unfold fk Bh;split<;>rfl
theorem SK(n:Nat):jP n c=((tg n c.stk).1,{c with stk:=(tg n c.stk).2}):=by unfold jP tg;split<;>rfl
theorem VD(k h:Int):uE k h c={c with stk:=OV k h c.stk}:=by unfold uE OV;split<;>rfl
theorem YJ(p:Int):yf p c={c with dS:=T0 p c.dS}:=by unfold yf T0;split<;>rfl
end
end Go.Hl
namespace Go.Proofs.YtppekopemdoclaaGreatDoor
open Go.Hl Go.RowKit
section
variable {A:qE} {K:gA} {c:bM}
theorem rN:bu Wo 69 [ax A.kb 0] [aX A K c] (γ:=Unit) (λ_=>True) (λ_=>[aX A K c]) (λ_=>nV c.stk.length):=mG (λ_ _=>CC) (λ_=>Perm.idx [0,1,2,3,4,5] rfl rfl)
theorem vH(hA:oe A K){l:List Nat}(hl:∀v∈l,v<18446744073709551616):bu Wo 28 [ax A.kb 0,ai 1 ia l] [aX A K c] (γ:=Unit) (λ_=>True) (λ_=>[aX A K (fk K l c)]) (λ_=>af .i64 (if l.length<=K.cells-c.stk.length then 0 else 11)):=qG hA _ (λa h=>yX h hl) (SJ l)
theorem vI(hA:oe A K){k:Nat}:bu Wo 68 [ax A.kb 0,nV k] [aX A K c] (γ:=Unit) (λ_=>True) (λ_=>[aX A K (jP k c).2]) (λ_=>aZ [ai 1 ia (jP k c).1,af .i64 (if k<=c.stk.length then 0 else 2)]):=by rw[SK];exact qG hA _ (λa h=>tB h)
theorem O6(hA:oe A K):bu Wo 220 [ax A.kb 0] [aX A K c] (γ:=Unit) (λ_=>True) (λ_=>[aX A K (aO c).2]) (λ_=>aZ [wV (aO c).1,af .i64 (if 1<=c.stk.length then 0 else 2)]):=qG hA _ (λa h=>KT h)
theorem DP(hA:oe A K){i:Int}:bu Wo 163 [ax A.kb 0,af .i64 i] [aX A K c] (γ:=Unit) (λ_=>True) (λ_=>[aX A K c]) (λ_=>aZ [wV (if 0<=i then(c.stk[i.toNat]?).getD 0 else 0),fS]):=qG hA c.stk (λa h=>KU h)
theorem DQ(hA:oe A K){i v:Nat}(hv:v<18446744073709551616):bu Wo 165 [ax A.kb 0,nV i,wV v] [aX A K c] (γ:=Unit) (λ_=>True) (λ_=>[aX A K (Sn i v c)]) (λ_=>fS):=qG hA _ (λa h=>KV h hv)
theorem DR(hA:oe A K){k h:Int}:bu Wo 155 [ax A.kb 0,af .i64 k,af .i64 h] [aX A K c] (γ:=Unit) (λ_=>True) (λ_=>[aX A K (uE k h c)]) (λ_=>fS):=qG hA _ (λa h=>KW h) (VD k h)
theorem y4:bu Wo 71 [ax A.fb 0] [aX A K c] (γ:=Unit) (λ_=>True) (λ_=>[aX A K c]) (λ_=>nV c.dS.length):=mG (λ_ _=>xk) (λ_=>Perm.idx [1,0,2,3,4,5] rfl rfl)
theorem O7(hA:oe A K):bu Wo 153 [ax A.fb 0] [aX A K c] (γ:=Unit) (λ_=>True) (λ_=>[aX A K c]) (λ_=>aZ [aC (m5 (bK c)),af .i64 (if 1<=c.dS.length then 0 else 2)]):=th hA c.dS (λa h=>vG h)
theorem O8(hA:oe A K):bu Wo 154 [ax A.fb 0] [aX A K c] (γ:=Unit) (λ_=>True) (λ_=>[aX A K {c with dS:=c.dS.dropLast}]) (λ_=>aZ [aC (m5 (bK c)),fS]):=th hA _ (λa h=>KZ h)
theorem BB(hA:oe A K){p:Int}:bu Wo 113 [ax A.fb 0,af .i64 p] [aX A K c] (γ:=Unit) (λ_=>True) (λ_=>[aX A K (yf p c)]) (λ_=>fS):=th hA _ (λa h=>O5 h) (YJ p)
theorem H9(hA:oe A K):bu Wo 105 [ax A.fb 0] [aX A K c] (γ:=Unit) (λ_=>True) (λ_=>[aX A K {c with dS:=[]}]) (λ_=>aZ []):=th hA _ (λa h=>EW h)
theorem BC(hA:oe A K){f:l8}(hf:oK f):bu Wo 70 [ax A.fb 0,aC (m5 f)] [aX A K c] (γ:=Unit) (λ_=>True) (λ_=>[aX A K {c with dS:=vD K.frames c.dS f}]) (λ_=>af .i64 (if c.dS.length=K.frames then 11 else 0)):=th hA _ (λa h=>HZ h hf)
theorem Ia{x y z:Int}(hz:z<0):bu Wo 70 [ax A.fb 0,aC [af .i64 x,af .i64 y,af .i64 z]] [aX A K c] (γ:=Unit) (λ_=>True) (λ_=>[aX A K c]) (λ_=>af .i64 1):=mG (λ_ _=>EX hz) (λ_=>Perm.idx [1,0,2,3,4,5] rfl rfl)
theorem mH:bu Wo 23 [ax A.sb 0] [aX A K c] (γ:=Unit) (λ_=>True) (λ_=>[aX A K c]) (λ_=>ck (bp K.m)):=mG (λ_ _=>DO) (λ_=>Perm.idx [2,0,1,3,4,5] rfl rfl)
theorem E0(hA:oe A K){i:Nat}(hi:i<K.m.aA.length):bu Wo 166 [ax A.sb 0,nV i] [aX A K c] (γ:=Unit) (λ_=>True) (λ_=>[aX A K c]) (λ_=>aZ [wV ((c.gl[i]?).getD 0),af .i64 0]):=
 mG (hs:=λa=>p5 A.sb A.X A.pb K.m A.num (A.g0:Int) (A.t0:Int) (ai 1 wM A.bs)::jx A.X a) (λa hV=>by
  have h1:=hA.gt;have h2:=hA.tk;have h3:=hA.kf;have h4:=hA.fx
  have h:=EZ (sb:=A.sb) (pb:=A.pb) (X:=A.X) (a:=a) (m:=K.m) (num:=A.num) (t:=(A.t0:Int)) (g:=A.g0) (mv:=ai 1 wM A.bs) hi hV.ok (by omega) hA.gl;obtain⟨v,hv⟩:=ah (xs:=c.gl) (k:=i) (by rw[hV.gn];exact hi);have e:nv ((a.bytes.drop (A.g0+8*i)).take 8)=(c.gl[i]?).getD 0:=by rw[hv];exact hV.gl i v hv
  rw[e] at h;exact h) (λ_=>Perm.idx [2,3,4,0,1,5] rfl rfl)
theorem Ib(hA:oe A K){i:Nat}(hi:i<fH K.m):bu Wo 223 [ax A.sb 0,nV i] [aX A K c] (γ:=Unit) (λ_=>True) (λ_=>[aX A K c]) (λ_=>aZ [af .i64 (if (c.tb[i]?).getD 0=0 then 0 else(((c.tb[i]?).getD 0:Nat):Int)-1),av ((c.tb[i]?).getD 0≠0),af .i64 0]):=
 mG (hs:=λa=>p5 A.sb A.X A.pb K.m A.num (A.g0:Int) (A.t0:Int) (ai 1 wM A.bs)::jx A.X a) (λa hV=>by
  have h1:=hA.gt;have h2:=hA.tk;have h3:=hA.kf;have h4:=hA.fx
  have h:=H7 (sb:=A.sb) (pb:=A.pb) (X:=A.X) (a:=a) (m:=K.m) (num:=A.num) (g:=(A.g0:Int)) (t0:=A.t0) (mv:=ai 1 wM A.bs) hi hV.ok (by omega);obtain⟨v,hv⟩:=ah (xs:=c.tb) (k:=i) (by rw[hV.tn];exact hi);have e:nv ((a.bytes.drop (A.t0+4*i)).take 4)=(c.tb[i]?).getD 0:=by rw[hv];exact hV.tb i v hv
  rw[e] at h;exact h) (λ_=>Perm.idx [2,3,4,0,1,5] rfl rfl)
theorem xm{i:Int}(hi:i<0\/K.m.Table<=i):bu Wo 223 [ax A.sb 0,af .i64 i] [aX A K c] (γ:=Unit) (λ_=>True) (λ_=>[aX A K c]) (λ_=>aZ [af .i64 0,av False,af .i64 2]):=mG (λ_ _=>EY hi) (λ_=>Perm.idx [2,0,1,3,4,5] rfl rfl)
theorem K2(hA:oe A K){i v:Nat}{z:ju}(hz:K.m.aA[i]?=some z)(hv:v<18446744073709551616):bu Wo 83 [ax A.sb 0,nV i,wV v] [aX A K c] (γ:=Unit) (λ_=>True) (λ_=>[aX A K {c with gl:=c.gl.set i (qu z.Ty v)}]) (λ_=>af .i64 0):=
 .core λa hV=>by
  have h1:=hA.gt;have h2:=hA.tk;have h3:=hA.kf;have h4:=hA.fx
  have hi:=(List.getElem?_eq_some_iff.1 hz).1;exact .Ng (d:=λ_=>a.put (A.g0+8*i) (nO (qu z.Ty v) 8)) (DM (sb:=A.sb) (pb:=A.pb) (X:=A.X) (a:=a) (m:=K.m) (num:=A.num) (t:=(A.t0:Int)) (g:=A.g0) (mv:=ai 1 wM A.bs) hz hV.ok (by omega) hv (hA.bits z (List.mem_of_getElem? hz)) hA.gl) (Perm.idx [2,3,4,0,1,5] rfl rfl) (λ_ _=>hV.aL8 hA hi (zH hv)) (λ_ _=>aF.perm (Perm.idx [3,4,0,1,2,5] rfl rfl)) (λ_ _=>aa.refl _)
end
end Go.Proofs.YtppekopemdoclaaGreatDoor
end
section
namespace Go.Proofs.YtppekopemdoclaaGreatDoor
open Go.Hl Go.RowKit
variable {A:qE} {K:gA} {E:Sw} {m:jD} {c:bM}
theorem eL(ak:oe A K):bu Wo 159 [ax E.b 0] [dZ A K E m,aX A K c] (γ:=Unit) (λ_=>True) (λ_=>[dZ A K E m,aX A K (aO c).2]) (λ_=>wV (aO c).1):=by
 refine In 14 Tryz.func159 λ_ _ _=>?_;refine dh ?_;refine .n (hH [_] [1,0] (h:=O6 ak)) rfl λDN h10=>?_;refine ij ?_;refine Post.aS rfl (()) (by trivial) (aF.cZ [1,0] [] rfl rfl) (.rt rfl) ?_;exact .z
theorem fR{l:List Nat}(ak:oe A K)(aR:∀v∈l,v<18446744073709551616):bu Wo 72 [ax E.b 0,ai 1 ia l] [dZ A K E m,aX A K c] (γ:=Unit) (λ_=>True) (λ_=>[dZ A K E m,aX A K (fk K l c)]) (λ_=>aZ []):=by
 refine In 10 Tryz.func72 λ_ _ _=>?_;refine Z6 ?_;refine .n (hH [_] [1,0] (h:=vH ak aR)) rfl λg9 h9=>?_;refine Z1 ?_;refine Post.cY rfl (()) (by trivial) (aF.cZ [1,0] [] rfl rfl) rfl
theorem uv(ak:oe A K):bu Wo 110 [ax E.b 0] [dZ A K E m,aX A K c] (γ:=Unit) (λ_=>True) (λ_=>[dZ A K E m,aX A K c]) (λ_=>aC (m5 (bK c))):=by
 refine In 14 Tryz.func110 λ_ _ _=>?_;refine Z2 ?_;refine .n (au FZ.out) rfl λb2 _=>?_;refine Z8 ?_;refine .n ((hH [_,_] [2,0,1] (h:=O7 ak)).same (λ_ _=>aF.perm (Perm.idx [1,2,0] rfl rfl)) (λ_ _=>aa.refl _)) rfl λ_ _=>?_;refine Z3 ?_;refine .n (au FZ.out) rfl λb3 _=>?_;refine dh ?_;refine Post.aS rfl (()) (by trivial) (aF.cZ [2,3] [0,1] rfl rfl) (.ra (i:=1) FA.out FC.out rfl rfl rfl rfl) ?_;exact aa.refl _
theorem uw{o:Bd}(ak:oe A K):bu Wo 67 [ax E.b 0,aC (kr o)] [dZ A K E m,aX A K c] (γ:=Unit) (λ_=>True) (λ_=>[dZ A K E (oL o (m,c)).1,aX A K (oL o (m,c)).2]) (λ_=>aZ []):=by
 refine In 42 Tryz.func67 λ_ _ _=>?_;have hT:(jP c.stk.length c).2={c with stk:=[]}:=by simp[jP]
 refine Z31 ?_;refine Cd (λc0=>?_) λc0=>?_
 ·
  have hE:oL o (m,c)=({m with out:=o,over:=true},{c with stk:=[],dS:=[]}):=by(unfold oL;rw[if_neg (by omega),if_pos (by omega)])
  refine Z1 ?_;refine .bt [(0,0),(1,0),(2,0),(3,1),(4,0),(5,0),(6,0),(7,1),(8,4)] 9 1 FM.out (by kernel_rfl) (k:= ?_);refine Z8 ?_;refine .a rfl ((hH [_] [1,0] (h:=rN)).same (λ_ _=>aF.perm (Perm.idx [1,0] rfl rfl)) (λ_ _=>aa.refl _)) (λ_ _=>aF.refl _) λ_ _=>?_;refine .fin ?_;refine .n (hH [_] [1,0] (h:=vI ak (k:=c.stk.length))) rfl λXb VA=>?_;refine Z2 ?_;rw[hT];refine Z5 ?_;refine .n (cE (h:=H9 ak)) rfl λYK YL=>?_;refine Z9 ?_;refine CT λc1=>?_;refine Z1 ?_;refine Post.cY rfl (()) (by trivial) (aF.trans (aF.perm (Perm.idx [1,0] rfl rfl)) (aF.of_eq (by rw[hE];rfl))) rfl
 refine Z9 ?_;refine Cd (λc2=>?_) λc2=>?_
 ·
  have hE:oL o (m,c)=({m with out:=o,over:=true,fault:=o.err},c):=by(unfold oL;rw[if_pos (by omega),if_neg (by omega)])
  refine Z8 ?_;refine Post.cY rfl (()) (by trivial) (aF.of_eq (by rw[hE];rfl)) rfl
 have hE:oL o (m,c)=({m with out:=o,over:=true},c):=by(unfold oL;rw[if_neg (by omega),if_neg (by omega)])
 refine Z1 ?_;refine Post.cY rfl (()) (by trivial) (aF.of_eq (by rw[hE];rfl)) rfl
theorem kW{e:Nat}(ak:oe A K):bu Wo 30 [ax E.b 0,nV e] [dZ A K E m,aX A K c] (γ:=Unit) (λ_=>True) (λ_=>[dZ A K E (nL e (m,c)).1,aX A K (nL e (m,c)).2]) (λ_=>aZ []):=by
 refine In 8 Tryz.func30 λ_ _ _=>?_;refine Z3 ?_;refine .p ((aL FP.out FZ.out (.cons (.c _) (.cons (.t rfl) .nil)) rfl).le ((by exact show aa _ (aC (kr ⟨3,[],0,0,e⟩)) from aa.agg (.cons (.refl _) (.cons (aE _ _) (.cons (.refl _) (.cons (.refl _) (.cons (.refl _) .nil)))))))) rfl ?_;refine .n (cE (h:=uw (o:=⟨3,[],0,0,e⟩) ak)) rfl λg7 h7=>?_;refine Z1 ?_;refine Post.cY rfl (()) (by trivial) (λ_ _ _ h=>h) rfl
theorem mI{t:Nat}(ak:oe A K):bu Wo 158 [ax E.b 0,nV t] [dZ A K E m,aX A K c] (γ:=Unit) (λ_=>True) (λ_=>[dZ A K E (pO t (m,c)).1,aX A K (pO t (m,c)).2]) (λ_=>aZ []):=by
 refine In 8 Tryz.func158 λ_ _ _=>?_;refine Z3 ?_;refine .p ((aL FP.out FZ.out (.cons (.c _) (.cons (.t rfl) .nil)) rfl).le ((by exact show aa _ (aC (kr ⟨1,[],t,0,0⟩)) from aa.agg (.cons (.refl _) (.cons (aE _ _) (.cons (.refl _) (.cons (.refl _) (.cons (.refl _) .nil)))))))) rfl ?_;refine .n (cE (h:=uw (o:=⟨1,[],t,0,0⟩) ak)) rfl λg7 h7=>?_;refine Z1 ?_;refine Post.cY rfl (()) (by trivial) (λ_ _ _ h=>h) rfl
theorem BD{t e:Nat}(ak:oe A K):bu Wo 176 [ax E.b 0,nV t,nV e] [dZ A K E m,aX A K c] (γ:=Unit) (λ_=>True) (λ_=>[dZ A K E (Be t e (m,c)).1,aX A K (Be t e (m,c)).2]) (λ_=>av (tP (Be t e (m,c)).1.over)):=by
 refine In 23 Tryz.func176 λ_ _ _=>?_;refine ij ?_;refine Cd (λc0=>?_) λc0=>?_
 ·
  have hI:Be t e (m,c)=nL e (m,c):=if_pos (by omega);rw[hI];refine Z3 ?_;refine .n (cE (h:=kW ak)) rfl λqI h12=>?_;refine kL ?_;refine br ?_;exact .z
 refine Z7 ?_;refine Cd (λc1=>?_) λc1=>?_
 ·
  have hI:Be t e (m,c)=pO t (m,c):=(if_neg (by omega)).trans (if_pos (by omega));rw[hI];refine Z3 ?_;refine .n (cE (h:=mI ak)) rfl λzT Vz=>?_;refine kL ?_;refine br ?_;exact .z
 have hI:Be t e (m,c)=(m,c):=(if_neg (by omega)).trans (if_neg (by omega));rw[hI];refine kL ?_;refine br ?_;exact .z
theorem DS{L:List UInt8}{l:List Nat}(ak:l.length<=L.length)(aR:L.length<=1000)(bO:∀t∈L,fG t=32\/fG t=64)(dO:∀v∈l,v<18446744073709551616):bu Wo 29 [ai 1 an L,ai 1 ia l] [] (γ:=Unit) (λ_=>True) (λ_=>[]) (λ_=>ai 1 ia (ej L l)):=by
 refine In 27 Tryz.func29 λ_ _ _=>?_;refine Cn ?_;refine .own (AA (n:=1) (enc:=ia)) ?_;refine .bk (σ:=SB×Nat) (λq=>[aH q.1 1 ia (ej L (l.take q.2))]) (λq=>[(5,ag (bI q.1 (ej L (l.take q.2)).length)),(10,af .i64 (q.2:Int))]) (λq=>q.2<=l.length) (λq=>l.length-q.2) (none,0) (Nat.zero_le _) (by cases L<;>rfl) ?_ ?_
 · exact(.get rfl (aa.of_eq (by cases L<;>rfl)) (.get rfl (aa.refl _) (.refl _ _)))
 rintro⟨s1,q⟩ hq;simp only at hq ⊢;refine Z6 ?_;refine Cd (λc0=>?_) λc0=>?_
 ·
  obtain⟨v,hv⟩:=ah (xs:=l) (k:=q) (by omega);obtain⟨t,ht⟩:=ah (xs:=L) (k:=q) (by omega);refine Z7 ?_;refine .p (cI q (h:=hv)) rfl ?_;refine Z9 ?_;refine .p (cI q (h:=ht)) rfl ?_;refine Z1 ?_;refine .p (cA (h:=qH)) rfl ?_;refine Z1 ?_;refine .p (cA (h:=Bw (bO t (List.mem_of_getElem? ht)) (dO v (List.mem_of_getElem? hv)))) rfl ?_;refine .p (cB ia [qu t v]) rfl ?_;refine .n (aK (i:=0) (xs:=ej L (l.take q)) (ys:=[qu t v]) FU.out FU.out FC.out rfl FZ.out rfl FY.out (.t rfl) (.t rfl) rfl (by rw[HG (by rw[List.length_take];omega),List.length_take];simp only[List.length_cons,List.length_nil];omega) (by rw[HG (by rw[List.length_take];omega),List.length_take];simp only[List.length_cons,List.length_nil];omega)) rfl λQC _=>?_;refine Z8 ?_;refine .round (QC,q+1) (by show q+1<=_;omega) (by show l.length-(q+1)<l.length-q;omega) (by simp only[DK ht hv];try rfl) ?_;exact(.get rfl (aa.of_eq (by simp only[DK ht hv])) (.get rfl (aa.int (by(show(q:Int)+1=((q+1:Nat):Int);omega))) ((.keep 21 rfl rfl))))
 have hqe:q=l.length:=by omega
 subst hqe;rw[List.take_length];refine Z6 ?_;refine .eC (t:=5) (i:=0) rfl rfl ?_;refine Z6 ?_;refine br ?_;exact .z
theorem tC(ak:¬E.cl):bu Wo 22 [ax E.b 0] [dZ A K E m,aX A K c] (γ:=Unit) (λ_=>True) (λ_=>[dZ A K E m,aX A K c]) (λ_=>av (m.fault≠0)):=by
 refine In 26 Tryz.func22 λ_ _ _=>?_;refine Z8 ?_;refine .p (dy FU.out (.t rfl)) rfl ?_;refine zE ?_;refine .egF rfl rfl rfl rfl (λhg=>((hH [_] [1,0] (h:=mH)).same (λ_ _=>aF.perm (Perm.idx [1,0] rfl rfl)) (λ_ _=>aa.refl _)).same (λ_ _=>aF.refl _) (λ_ _=>aa.refl _)) rfl rfl ?_;refine Z6 ?_;refine br ?_;exact aa.prop (by simp[ak])
theorem rO:bu Wo 10 [ax E.b 0] [dZ A K E m] (γ:=Unit) (λ_=>True) (λ_=>[dZ A K E m]) (λ_=>nV m.fuel):=by
 refine In 9 Tryz.func10 λ_ _ _=>?_;refine Z9 ?_;refine .p (dy FU.out (.t rfl)) rfl ?_;refine Z2 ?_;refine CT λc0=>?_;refine eB ?_;refine br ?_;exact .z
variable {b:Nat} {off:Nat} {cs:List VP} {n:Int}
theorem tD(ak:cs[off]?=some (af .u32 n)):bu Wo 57 [ax b off] [az b cs] (γ:=Unit) (λ_=>True) (λ_=>[az b cs]) (λ_=>av (n≠0)):=by
 refine In 8 Tryz.func57 λ_ _ _=>?_;refine cC ?_;refine .p (Bi (i:=0) Tryz.func93 (by kernel_rfl) (by kernel_rfl) (by kernel_rfl) (by kernel_rfl) (.t rfl) rfl ak) rfl ?_;refine Z5 ?_;refine br ?_;exact aa.refl _
theorem Ic(ak:cs[off]?=some (af .i64 n)):bu Wo 33 [ax b off] [az b cs] (γ:=Unit) (λ_=>True) (λ_=>[az b cs]) (λ_=>af .i64 n):=by
 refine In 7 Tryz.func33 λ_ _ _=>?_;refine cC ?_;refine .p (Bi (i:=0) Tryz.func74 (by kernel_rfl) (by kernel_rfl) (by kernel_rfl) (by kernel_rfl) (.t rfl) rfl ak) rfl ?_;refine Z4 ?_;refine br ?_;exact aa.refl _
theorem O9:dF Wo 142 [av True] (af .u32 1):=by
 refine In 4 Tryz.func142 λ_ _ _=>?_;refine dh ?_;refine CF λc0=>?_;refine Z7 ?_;refine br ?_;exact aa.refl _
theorem Ie(ak:cs[off]?=some (af .i32 0)):bu Wo 139 [ax b off] [az b cs] (γ:=Unit) (λ_=>True) (λ_=>[az b (cs.set off (af .i32 1))]) (λ_=>aZ []):=by
 refine In 13 Tryz.func139 λ_ _ _=>?_;have hlt:=(List.getElem?_eq_some_iff.1 ak).1;have aL9:(cs.set off (af .i32 1))[off]?=some (af .i32 1):=by rw[List.getElem?_set,if_pos rfl,if_pos hlt]
 refine Z2 ?_;refine .p (zR (run_call_mark0 Tryz.func201 (by kernel_rfl) (by kernel_rfl) (by kernel_rfl) .disable (by kernel_rfl))) rfl ?_;refine Z8 ?_;refine .n (OW (i:=0) Tryz.func202 (by kernel_rfl) (by kernel_rfl) (by kernel_rfl) (by kernel_rfl) (.t rfl) (.c _) (.c _) rfl ak) rfl λ_ _=>?_;refine Z2 ?_;refine CF λc0=>?_;refine Z1 ?_;refine CF λc1=>?_;refine Z2 ?_;refine .p (zR (run_call_mark0 Tryz.func203 (by kernel_rfl) (by kernel_rfl) (by kernel_rfl) .enable (by kernel_rfl))) rfl ?_;refine Z4 ?_;refine .p (HE (i:=0) FU.out Tryz.underlying369 (by kernel_rfl) (.t rfl) rfl aL9) rfl ?_;refine .p (Nj (run_call_marked Tryz.func204 (by kernel_rfl) (by kernel_rfl) (by kernel_rfl) .acquire (by kernel_rfl)) (.t rfl)) rfl ?_;refine Z4 ?_;refine Post.wC rfl (()) (by trivial) (λ_ _ _ h=>h) rfl
instance:FB Wo 139:=⟨by kernel_rfl⟩
theorem Ig(ak:cs[off]?=some (af .i32 0)):bu Wo 94 [ax b off] [az b cs] (γ:=Unit) (λ_=>True) (λ_=>[az b (cs.set off (af .i32 1))]) (λ_=>aZ []):=by
 refine In 6 Tryz.func94 λ_ _ _=>?_;refine Z4 ?_;refine .n (cE (h:=Ie ak)) rfl λg5 h5=>?_;refine Z1 ?_;refine Post.cY rfl (()) (by trivial) (λ_ _ _ h=>h) rfl
theorem CD(ak:cs[off]?=some (af .i32 1)):bu Wo 140 [ax b off] [az b cs] (γ:=Unit) (λ_=>True) (λ_=>[az b (cs.set off (af .i32 0))]) (λ_=>aZ []):=by
 refine In 21 Tryz.func140 λ_ _ _=>?_;refine Z1 ?_;refine CF λc0=>?_;refine Z5 ?_;refine .p (kK (i:=0) FA.out (.t rfl) rfl ak) rfl ?_;refine Z5 ?_;refine .p (HE (i:=0) FU.out Tryz.underlying369 (by kernel_rfl) (.t rfl) rfl ak) rfl ?_;refine .p (Nj (run_call_marked Tryz.func206 (by kernel_rfl) (by kernel_rfl) (by kernel_rfl) .releaseMerge (by kernel_rfl)) (.t rfl)) rfl ?_;refine Z3 ?_;refine .p (zR (run_call_mark0 Tryz.func201 (by kernel_rfl) (by kernel_rfl) (by kernel_rfl) .disable (by kernel_rfl))) rfl ?_;refine Z7 ?_;refine .n (OX (i:=0) (s:=0) Tryz.func207 (by kernel_rfl) (by kernel_rfl) (by kernel_rfl) (by kernel_rfl) (.t rfl) (.c _) rfl ak (by decide)) rfl λ_ _=>?_;refine cC ?_;refine Cd (λc1=>?_) λc1=>?_
 · exact(c1 rfl).elim
 refine Z3 ?_;refine .p (zR (run_call_mark0 Tryz.func203 (by kernel_rfl) (by kernel_rfl) (by kernel_rfl) .enable (by kernel_rfl))) rfl ?_;refine Z1 ?_;refine Post.cY rfl (()) (by trivial) (λ_ _ _ h=>h) rfl
instance:FB Wo 140:=⟨by kernel_rfl⟩
theorem CE(ak:cs[off]?=some (af .i32 1)):YE Wo 95 [ax b off] [az b cs] (γ:=Unit) (λ_=>True) (λ_=>[az b (cs.set off (af .i32 0))]) (λ_=>aZ []):=by
 refine YE.intro 6 Tryz.func95 rfl rfl rfl λw0 S0 M=>?_;refine Z4 ?_;refine .n (cE (h:=CD ak)) rfl λg5 h5=>?_;refine Z1 ?_;refine Post.cY rfl (()) (by trivial) (λ_ _ _ h=>h) rfl
theorem E1(ak:cs[off]?=some (af .u32 n)):YE Wo 96 [ax b off,ag (.bool true)] [az b cs] (γ:=Unit) (λ_=>True) (λ_=>[az b (cs.set off (af .u32 1))]) (λ_=>aZ []):=by
 refine YE.intro 10 Tryz.func96 rfl rfl rfl λw0 S0 M=>?_;refine .bL 5 1 FM.out (by kernel_rfl) (k:= ?_);refine Z3 ?_;refine .p ((gu (.t rfl)).le ((show aa (ag (.bool true)) (av True) from λS w v h=>⟨true,h,by simp⟩))) ?_;refine .p (cA (h:=O9)) ?_;refine Z1 ?_;refine .n (HD (i:=0) Tryz.func141 (by kernel_rfl) (by kernel_rfl) (by kernel_rfl) (by kernel_rfl) (.t rfl) (.t rfl) rfl ak) rfl λ_ _=>?_;refine Z1 ?_;refine Post.cY rfl (()) (by trivial) (λ_ _ _ h=>h) rfl
theorem CG{hs:HP}{γ:Type}{φ:γ->Prop}{T7:γ->List VP}{qR:γ->HP}{fi:FuncId}{ps:List VP}(ak:cs[off]?=some (af .u32 0))(aR:cs[off+1]?=some (af .i32 0))(bO:∀g,φ g->(T7 g)[off]?=some (af .u32 0)/\(T7 g)[off+1]?=some (af .i32 1))(dO:j7 Wo fi=true)(jE:bu Wo fi ps [az b (cs.set (off+1) (af .i32 1)),hs] φ (λg=>[az b (T7 g),qR g]) (λ_=>aZ [])):bu Wo 58 [ax b off,yM fi ps] [az b cs,hs] (γ:=γ) φ (λg=>[az b (((T7 g).set off (af .u32 1)).set (off+1) (af .i32 0)),qR g]) (λ_=>aZ []):=by
 refine bu.YF 21 Tryz.func58 rfl rfl rfl λw0 S0 M=>?_;have hlt:=(List.getElem?_eq_some_iff.1 aR).1;have hs0:(cs.set (off+1) (af .i32 1))[off]?=some (af .u32 0):=by rw[List.getElem?_set,if_neg (by omega)];exact ak
 refine Z5 ?_;refine .n (cE (h:=Ig aR)) rfl λg7 h7=>?_;refine Z7 ?_;refine .Su (vs:=[.pointer (some ⟨b,off+1,none⟩)]) rfl (.cons (.t rfl) .nil) ?_;refine Z7 ?_;refine .n ((cE (h:=tD hs0)).same (λ_ _=>aF.refl _) (λ_ _=>aa.refl _)) rfl λ_ _=>?_;refine Z3 ?_;refine Cd (λc0=>?_) λc0=>?_
 ·
  refine Z5 ?_;refine .Su (vs:=[.pointer (some ⟨b,off,none⟩), .bool true]) rfl (.cons (.t rfl) (.cons (.c _) .nil)) ?_;refine Z4 ?_;refine .n (KG (ps:=[]) (rest:=[]) jE dO (.t rfl) .nil (Perm.idx [0,1] rfl rfl)) rfl λT8 T9=>?_;refine Z1 ?_;refine .EO (rest:=[qR T8]) (E1 (bO T8 T9).1) FB.out (λS w=>EN [_,_]) (Perm.idx [0,1] rfl rfl) (bS.EO (rest:=[qR T8]) (CE (by rw[List.getElem?_set,if_neg (by omega)];exact(bO T8 T9).2)) FB.out (λS w=>EN [_]) (Perm.idx [0,1] rfl rfl) (bS.aL6 (Post.cY rfl (T8) (by exact T9) (λ_ _ _ h=>h) rfl)))
 exact(c0 (λh=>h rfl)).elim
theorem Ih{hs:HP}{γ:Type}{φ:γ->Prop}{T7:γ->List VP}{qR:γ->HP}{fi:FuncId}{ps:List VP}(ak:cs[off]?=some (af .u32 0))(aR:cs[off+1]?=some (af .i32 0))(bO:∀g,φ g->(T7 g)[off]?=some (af .u32 0)/\(T7 g)[off+1]?=some (af .i32 1))(dO:j7 Wo fi=true)(jE:bu Wo fi ps [az b (cs.set (off+1) (af .i32 1)),hs] φ (λg=>[az b (T7 g),qR g]) (λ_=>aZ [])):bu Wo 25 [ax b off,yM fi ps] [az b cs,hs] (γ:=γ) φ (λg=>[az b (((T7 g).set off (af .u32 1)).set (off+1) (af .i32 0)),qR g]) (λ_=>aZ []):=by
 refine In 12 Tryz.func25 λ_ _ _=>?_;refine Z5 ?_;refine .n ((cE (h:=tD ak)).same (λ_ _=>aF.refl _) (λ_ _=>aa.refl _)) rfl λ_ _=>?_;refine Z3 ?_;refine Cd (λc0=>?_) λc0=>?_
 ·
  refine Z3 ?_;refine .n (cE (h:=CG ak aR bO dO jE)) rfl λSL h11=>?_;refine Z1 ?_;refine Post.cY rfl (SL) (by exact h11) (λ_ _ _ h=>h) rfl
 exact(c0 (λh=>h rfl)).elim
theorem CH{p:VP}(ak:cs[off]?=some (af .u32 n))(aR:n≠0):bu Wo 25 [ax b off,p] [az b cs] (γ:=Unit) (λ_=>True) (λ_=>[az b cs]) (λ_=>aZ []):=by
 refine In 12 Tryz.func25 λ_ _ _=>?_;refine Z5 ?_;refine .n ((cE (h:=tD ak)).same (λ_ _=>aF.refl _) (λ_ _=>aa.refl _)) rfl λ_ _=>?_;refine Z3 ?_;refine Cd (λc0=>?_) λc0=>?_
 · exact(c0 aR).elim
 refine Z1 ?_;refine Post.cY rfl (()) (by trivial) (λ_ _ _ h=>h) rfl
end Go.Proofs.YtppekopemdoclaaGreatDoor
end
section
namespace Go.Hl
open Go.RowKit Classical
def iN(a b:Nat)(s:aY):aY:=({s.1 with fuel:=a,bB:=b},s.2)
section
variable {K:gA} {Z:Nat} {a b:Nat}
theorem DT(s:aY):iN s.1.fuel s.1.bB s=s:=rfl
theorem ym{p:Prop}[Decidable p]{x y u v:aY}{f:aY->aY}(h1:x=f y)(h2:u=f v):(if p then x else u)=f (if p then y else v):=by split<;>assumption
theorem vJ{p:Prop}[Decidable p]{x y:aY}{u v:Option aY}{f:aY->aY}(h1:x=f y)(h2:u=v.map f):(if p then some x else u)=(if p then some y else v).map f:=by
 split
 · rw[h1];rfl
 · exact h2
theorem Nn(t e:Nat)(s:aY):Be t e (iN a b s)=iN a b (Be t e s):=ym rfl (ym rfl rfl)
theorem BE(t e:Nat)(c:bM)(s:aY):Be t e ((iN a b s).1,c)=iN a b (Be t e (s.1,c)):=Nn t e (s.1,c)
theorem vK(f:Nat)(s:aY):iL K f (iN a b s)=iN a b (iL K f s):=ym rfl (ym (f:=iN a b) rfl rfl)
theorem BF(s:aY):js K (iN a b s)=iN a b (js K s):=ym rfl rfl
theorem K3(x:aj)(s:aY):nC K x (iN a b s)=iN a b (nC K x s):=ym rfl (ym (vK _ (s.1,(aO s.2).2)) rfl)
theorem E3(x:aj)(at_:Nat)(s:aY):bn K x at_ (iN a b s)=(bn K x at_ s).map (iN a b):=
 vJ rfl (vJ rfl (vJ rfl (vJ rfl (vJ rfl (vJ rfl (vJ (BF _) (vJ (vK _ _) (vJ (K3 _ _) rfl))))))))
theorem SM(x:aj)(n:Nat)(s:aY):YA K Z x n (iN a b s)=iN a b (YA K Z x n s):=ym rfl (Nn _ _ (s.1,(aO s.2).2))
theorem SN(x:aj)(n:Nat)(s:aY):Vr Z x n (iN a b s)=iN a b (Vr Z x n s):=by
 unfold Vr;exact BE _ _ _ s
theorem Pa(x:aj)(s:aY):Hz Z x (iN a b s)=iN a b (Hz Z x s):=by
 unfold Hz;exact BE _ _ _ s
theorem Pb(x:aj)(s:aY):HA Z x (iN a b s)=iN a b (HA Z x s):=by
 unfold HA;exact BE _ _ _ s
theorem Ii(x:aj)(s:aY):ey K Z x (iN a b s)=(ey K Z x s).map (iN a b):=by
 unfold ey;by_cases h:(dY x.Code).Form=8\/(dY x.Code).Form=9\/(dY x.Code).Form=10
 · rw[if_pos h,if_pos h]
   cases jL x.Code with
   |some n=>exact congrArg some (ym (SM _ _ _) (SN _ _ _))
   |none=>exact congrArg some (ym rfl (ym rfl (ym (Pa _ _) (ym (Pb _ _) rfl))))
 · rw[if_neg h,if_neg h];rfl
theorem E4(x:aj)(s:aY):cG K x (iN a b s)=(cG K x s).map (iN a b):=by
 unfold cG;cases mz x.Code with
 |none=>rfl
 |some g=>exact vJ rfl (vJ rfl (vJ rfl rfl))
theorem Ij(x:aj)(s:aY):cH K x (iN a b s)=(cH K x s).map (iN a b):=vJ rfl (vJ rfl (vJ rfl (E4 _ _)))
theorem No(x:aj)(at_:Nat)(s:aY):yg K Z x at_ (iN a b s)=iN a b (yg K Z x at_ s):=by
 unfold yg;rw[E3];cases bn K x at_ s with
 |some s'=>rfl
 | none=>
  show(match bz K x s.2 with|some c=>_|none=>_)=iN a b (match bz K x s.2 with|some c=>_|none=>_)
  cases bz K x s.2 with
  |some c=>rfl
  | none=>
   show(match ey K Z x (iN a b s) with|some s'=>_|none=>_)=iN a b (match ey K Z x s with|some s'=>_|none=>_)
   rw[Ii];cases ey K Z x s with
   |some s'=>rfl
   |none=>
    show(cH K x (iN a b s)).getD (iN a b s)=iN a b ((cH K x s).getD s)
    rw[Ij];cases cH K x s<;>rfl
theorem Pc(s:aY):(eR K Z s).1.fuel+(eR K Z s).1.bB=s.1.fuel+s.1.bB:=by
 unfold eR;simp only;cases (K.made (bK s.2).fn).body.L[(bK s.2).pl]? with
 |none=>
  have h:=BF (K:=K) (a:=s.1.fuel) (b:=s.1.bB) s;rw[DT] at h;rw[h];rfl
 |some x=>
  show(if s.1.fuel<cS x s.2 then nL 10 s else _:aY).1.fuel+(if s.1.fuel<cS x s.2 then nL 10 s else _:aY).1.bB=_
  by_cases hc:s.1.fuel<cS x s.2
  · rw[if_pos hc];rfl
  · rw[if_neg hc]
    have h:=No (K:=K) (Z:=Z) (a:=s.1.fuel-cS x s.2) (b:=s.1.bB+cS x s.2) x (bK s.2).pl ({s.1 with fuel:=s.1.fuel-cS x s.2,bB:=s.1.bB+cS x s.2},yf (((bK s.2).pl:Int)+1) s.2);rw[show iN (s.1.fuel-cS x s.2) (s.1.bB+cS x s.2) (({s.1 with fuel:=s.1.fuel-cS x s.2,bB:=s.1.bB+cS x s.2},yf (((bK s.2).pl:Int)+1) s.2):aY)=({s.1 with fuel:=s.1.fuel-cS x s.2,bB:=s.1.bB+cS x s.2},yf (((bK s.2).pl:Int)+1) s.2) from rfl] at h;rw[h]
    show s.1.fuel-cS x s.2+(s.1.bB+cS x s.2)=_
    omega
theorem nh(n:Nat)(s:aY)(h:s.1.over=true):bl K Z n s=s:=by
 cases n with
 |zero=>rfl
 |succ n=>unfold bl;rw[if_pos h]
theorem vL(n k:Nat):∀s:aY,bl K Z (n+k) s=bl K Z k (bl K Z n s):=by
 induction n with
 |zero=>intro s;rw[Nat.zero_add];rfl
 |succ n ih=>
  intro s;rw[show n+1+k=(n+k)+1 by omega];by_cases h:s.1.over=true
  · rw[nh _ s h,nh _ s h,nh _ s h]
  · show(if s.1.over=true then s else _)=bl K Z k (if s.1.over=true then s else _)
    rw[if_neg h,if_neg h,ih]
theorem tE{n k:Nat}{s:aY}(h1:(bl K Z n s).1.over=true)(h2:(bl K Z k s).1.over=true):bl K Z n s=bl K Z k s:=by
 rcases Nat.le_total n k with h|h
 · obtain⟨d,rfl⟩:=Nat.le.dest h
   rw[vL,nh _ _ h1]
 · obtain⟨d,rfl⟩:=Nat.le.dest h
   rw[vL,nh _ _ h2]
theorem oR:∀(n:Nat) (s:aY),(bl K Z n s).1.fuel+(bl K Z n s).1.bB=s.1.fuel+s.1.bB
 |0,_=>rfl
 |n+1,s=>by
  show(if s.1.over=true then s else _:aY).1.fuel+(if s.1.over=true then s else _:aY).1.bB=_
  split
  · rfl
  · rw[oR n,Pc]
end
def ec(c:bM):List Nat×List Nat×List ZN×Cont×Nat:=(c.gl,c.tb,c.ms,c.co,c.mm)
section
variable {K:gA} {Z:Nat}
theorem tF{p:Prop}[Decidable p]{x y:aY}{c:bM}(h1:ec x.2=ec c)(h2:ec y.2=ec c):ec (if p then x else y).2=ec c:=by split<;>assumption
theorem ux{p:Prop}[Decidable p]{x y c:bM}(h1:ec x=ec c)(h2:ec y=ec c):ec (if p then x else y)=ec c:=by split<;>assumption
theorem jQ(l:List Nat)(c:bM):ec (fk K l c)=ec c:=ux rfl rfl
theorem Ik(n:Nat)(c:bM):ec (jP n c).2=ec c:=by unfold jP;split<;>rfl
theorem Np(k h:Int)(c:bM):ec (uE k h c)=ec c:=ux rfl rfl
theorem K4(p:Int)(c:bM):ec (yf p c)=ec c:=ux rfl rfl
theorem nT(o:Bd)(s:aY):ec (oL o s).2=ec s.2:=ux rfl rfl
theorem yo(f:Nat)(s:aY):ec (iL K f s).2=ec s.2:=
 tF ((nT _ _).trans (Ik _ _)) (tF (nT _ _) ((jQ _ _).trans rfl))
theorem DU(s:aY):ec (js K s).2=ec s.2:=by
 have h:ec (uE ((K.made (bK s.2).fn).sig.R.length:Int) ((bK s.2).bs:Int) {s.2 with dS:=s.2.dS.dropLast})=ec s.2:=Np _ _ _;exact tF ((nT _ _).trans ((Ik _ _).trans h)) h
theorem BG(at_:Nat)(k:Int)(c:bM):ec (xg K at_ k c)=ec c:=(K4 _ _).trans (Np _ _ _)
theorem Il(at_:Nat)(c:bM):ec (Bf K at_ c)=ec c:=K4 _ _
theorem Pd(x:aj)(s:aY):ec (nC K x s).2=ec s.2:=tF (nT _ _) (tF (yo _ _) (nT _ _))
theorem gB{p:Prop}[Decidable p]{x:aY}{u:Option aY}{c:bM}(h1:ec x.2=ec c)(h2:∀y,u=some y->ec y.2=ec c):∀y,(if p then some x else u)=some y->ec y.2=ec c:=by
 intro y hy
 split at hy
 · cases hy;exact h1
 · exact h2 y hy
theorem Im(x:aj)(at_:Nat)(s:aY):∀y,bn K x at_ s=some y->ec y.2=ec s.2:=
 gB (nT _ _) (gB (ux (Il _ _) rfl) (gB (Il _ _) (gB (BG _ _ _) (gB (ux (BG _ _ _) rfl) (gB (BG _ _ _) (gB (DU _) (gB (yo _ _) (gB (Pd _ _) (λ_ h=>by cases h)))))))))
theorem mJ{p:Prop}[Decidable p]{x:bM}{u:Option bM}{c:bM}(h1:p->ec x=ec c)(h2:∀y,u=some y->ec y=ec c):∀y,(if p then some x else u)=some y->ec y=ec c:=by
 intro y hy
 split at hy
 · rename_i hp;cases hy;exact h1 hp
 · exact h2 y hy
theorem E5(x:aj)(c:bM)(h:x.Code≠36):∀y,bz K x c=some y->ec y=ec c:=
 mJ (λ_=>rfl) (mJ (λ_=>jQ _ _) (mJ (λ_=>jQ _ _) (mJ (λ_=>rfl) (mJ (λ_=>(jQ _ _).trans rfl) (mJ (λ_=>jQ _ _) (mJ (λe=>absurd e h) (λ_ h=>by cases h)))))))
theorem Io(x:aj)(s:aY):∀y,cG K x s=some y->ec y.2=ec s.2:=by
 unfold cG;cases mz x.Code with
 |none=>intro y h;cases h
 |some g=>exact gB (jQ _ _) (gB (jQ _ _) (gB (nT _ _) (λy h=>by cases h;exact jQ _ _)))
theorem K5(x:aj)(s:aY):∀y,cH K x s=some y->ec y.2=ec s.2:=
 gB (jQ _ _) (gB (jQ _ _) (gB (jQ _ _) (Io _ _)))
def qd(x:aj):Prop:=x.Code≠36/\¬((dY x.Code).Form=8\/(dY x.Code).Form=9\/(dY x.Code).Form=10)
theorem YM(x:aj)(at_:Nat)(s:aY)(h:qd x):ec (yg K Z x at_ s).2=ec s.2:=by
 unfold yg;cases hc:bn K x at_ s with
 |some s'=>exact Im x at_ s s' hc
 | none=>
  cases hv:bz K x s.2 with
  |some c=>exact E5 x s.2 h.1 c hv
  |none=>
   have hm:ey K Z x s=none:=by unfold ey;rw[if_neg h.2]
   simp only[hm];cases hn:cH K x s with
   |some s'=>exact K5 x s s' hn
   |none=>rfl
theorem SO(s:aY)(h:∀i x,x∈(K.made i).body.L->qd x):ec (eR K Z s).2=ec s.2:=by
 unfold eR;simp only;cases hx:(K.made (bK s.2).fn).body.L[(bK s.2).pl]? with
 |none=>exact DU _
 |some x=>exact tF (nT _ _) ((YM _ _ _ (h _ x (List.mem_of_getElem? hx))).trans (K4 _ _))
theorem DV(h:∀i x,x∈(K.made i).body.L->qd x):∀(n:Nat) (s:aY),ec (bl K Z n s).2=ec s.2
 |0,_=>rfl
 |n+1,s=>tF rfl ((DV h n _).trans (SO s h))
structure Pe where
 bB:Nat
 ku:Int×Int
 out:Bd
 host:Nat
def qJ(c:Pe)(s:aY):aY:=({s.1 with bB:=c.bB,ku:=c.ku,out:=c.out,host:=c.host},s.2)
def uF(s t:aY):Prop:=∃c,t=qJ c s/\(s.1.over=true->c.out=s.1.out)
theorem uF.q{s:aY}(c:Pe)(h:s.1.over=false):uF s (qJ c s):=⟨c,rfl,λe=>by rw[h] at e;cases e⟩
theorem uF.end_{s:aY}(c:Pe)(o:Bd):uF (oL o s) (oL o (qJ c s)):=⟨⟨c.bB,c.ku,o,c.host⟩,rfl,λ_=>rfl⟩
theorem kX{p:Prop}[Decidable p]{x y u v:aY}(h1:uF x u)(h2:uF y v):uF (if p then x else y) (if p then u else v):=by split<;>assumption
def Pf(s t:Option aY):Prop:=match s,t with|some s,some t=>uF s t|none,none=>True|_,_=>False
theorem iY{p:Prop}[Decidable p]{x u:aY}{y v:Option aY}(h1:uF x u)(h2:Pf y v):Pf (if p then some x else y) (if p then some u else v):=by split<;>assumption
section
variable {s:aY} (c:Pe) (h:s.1.over=false)
include h
theorem iZ(d:bM):uF (s.1,d) ((qJ c s).1,d):=uF.q (s:=(s.1,d)) c h
theorem E6(t e:Nat)(d:bM):uF (Be t e (s.1,d)) (Be t e ((qJ c s).1,d)):=kX (uF.end_ (s:=(s.1,d)) c _) (kX (uF.end_ (s:=(s.1,d)) c _) (iZ c h d))
theorem yp(f:Nat)(d:bM):uF (iL K f (s.1,d)) (iL K f ((qJ c s).1,d)):=
 kX ⟨⟨c.bB,c.ku,_,f⟩,rfl,λ_=>rfl⟩ (kX (uF.end_ (s:=(s.1,d)) c _) ⟨⟨c.bB,_,c.out,c.host⟩,rfl,λe=>by rw[show s.1.over=true from e] at h;cases h⟩)
theorem DW(d:bM):uF (js K (s.1,d)) (js K ((qJ c s).1,d)):=kX (uF.end_ (s:=(s.1,_)) c _) (iZ c h _)
theorem Pg(x:aj)(d:bM):uF (nC K x (s.1,d)) (nC K x ((qJ c s).1,d)):=kX (uF.end_ (s:=(s.1,_)) c _) (kX (yp c h _ _) (uF.end_ (s:=(s.1,_)) c _))
theorem Ip(x:aj)(at_:Nat)(d:bM):Pf (bn K x at_ (s.1,d)) (bn K x at_ ((qJ c s).1,d)):=
 iY (uF.end_ (s:=(s.1,d)) c _) (iY (iZ c h _) (iY (iZ c h _) (iY (iZ c h _) (iY (iZ c h _) (iY (iZ c h _) (iY (DW c h _) (iY (yp c h _ _) (iY (Pg c h _ _) trivial))))))))
theorem K6(x:aj)(d:bM):Pf (ey K Z x (s.1,d)) (ey K Z x ((qJ c s).1,d)):=by
 unfold ey;by_cases hf:(dY x.Code).Form=8\/(dY x.Code).Form=9\/(dY x.Code).Form=10
 · rw[if_pos hf,if_pos hf]
   cases jL x.Code with
   |some n=>exact kX (kX (iZ c h _) (E6 c h _ _ _)) (E6 c h _ _ _)
   |none=>exact kX (iZ c h _) (kX (iZ c h _) (kX (E6 c h _ _ _) (kX (E6 c h _ _ _) (iZ c h _))))
 · rw[if_neg hf,if_neg hf];trivial
theorem Iq(x:aj)(d:bM):Pf (cG K x (s.1,d)) (cG K x ((qJ c s).1,d)):=by
 unfold cG;cases mz x.Code with
 |none=>trivial
 |some g=>exact iY (iZ c h _) (iY (iZ c h _) (iY (uF.end_ (s:=(s.1,_)) c _) (show uF _ _ from iZ c h _)))
theorem K7(x:aj)(d:bM):Pf (cH K x (s.1,d)) (cH K x ((qJ c s).1,d)):=iY (iZ c h _) (iY (iZ c h _) (iY (iZ c h _) (Iq c h x d)))
theorem YN(x:aj)(at_:Nat)(d:bM):uF (yg K Z x at_ (s.1,d)) (yg K Z x at_ ((qJ c s).1,d)):=by
 unfold yg;have h1:=Ip (K:=K) c h x at_ d;cases hc:bn K x at_ (s.1,d)<;>cases ZE:bn K x at_ ((qJ c s).1,d)<;>rw[hc,ZE] at h1
 · simp only
   cases hv:bz K x d with
   |some e=>exact iZ c h e
   |none=>
    have h2:=K6 (K:=K) (Z:=Z) c h x d;cases hm:ey K Z x (s.1,d)<;>cases hm2:ey K Z x ((qJ c s).1,d)<;>rw[hm,hm2] at h2
    · have h3:=K7 (K:=K) c h x d
      cases hn:cH K x (s.1,d)<;>cases hn2:cH K x ((qJ c s).1,d)<;>rw[hn,hn2] at h3
      · exact iZ c h d
      · exact h3.elim
      · exact h3.elim
      · exact h3
    · exact h2.elim
    · exact h2.elim
    · exact h2
 · exact h1.elim
 · exact h1.elim
 · exact h1
end
theorem SP{s:aY}(c:Pe)(h:s.1.over=false):uF (eR K Z s) (eR K Z (qJ c s)):=by
 unfold eR
 show uF (match (K.made (bK s.2).fn).body.L[(bK s.2).pl]? with|none=>_|some x=>_) (match (K.made (bK s.2).fn).body.L[(bK s.2).pl]? with|none=>_|some x=>_)
 cases hx:(K.made (bK s.2).fn).body.L[(bK s.2).pl]? with
 |none=>exact DW c h s.2
 |some x=>
  refine kX (uF.end_ c _) ?_;exact YN (s:=({s.1 with fuel:=s.1.fuel-cS x s.2,bB:=s.1.bB+cS x s.2},s.2)) ⟨c.bB+cS x s.2,c.ku,c.out,c.host⟩ h x (bK s.2).pl (yf (((bK s.2).pl:Int)+1) s.2)
theorem DX:∀(n:Nat) {s t:aY},uF s t->uF (bl K Z n s) (bl K Z n t)
 |0,_,_,h=>h
 |n+1,s,t,⟨c,e,ho⟩=>by
  subst e
  show uF (if s.1.over=true then s else _) (if s.1.over=true then qJ c s else _)
  by_cases h:s.1.over=true
  · rw[if_pos h,if_pos h];exact⟨c,rfl,ho⟩
  · rw[if_neg h,if_neg h]
    exact DX n (SP c (by simpa using h))
end
theorem Nq{ι:Type}{cd:ι->Int}{rr:ι->List UInt8}{pl:ι->ee->List (List UInt8)->Option ee}:∀{l:List ι} {fs:List eT} {hs:List Nat},kG cd rr pl l fs=some hs->∀x∈l,∃fs' b,cR cd rr pl x fs' b≠none
 |[],_,_,_,x,hx=>by cases hx
 | y ::r,fs,hs,h,x,hx=>by
  unfold kG at h;cases hl:fs.getLast? with
  |none=>rw[hl] at h;cases h
  | some b=>
   rw[hl] at h;simp only at h;cases hst:cR cd rr pl y fs.dropLast b with
   |none=>rw[hst] at h;cases h
   | some fs'=>
    rw[hst] at h;simp only[Option.bind_some] at h;cases hr:kG cd rr pl r fs' with
    |none=>rw[hr] at h;cases h
    |some hs'=>
     rcases List.mem_cons.1 hx with rfl|hx
     · exact⟨_,_,by rw[hst];exact λe=>by cases e⟩
     · exact Nq hr x hx
variable {α:Type}
theorem lA{l:List α}{n:Int}{x:α}(h:eG l n=some x):0<=n/\n<(l.length:Int)/\l[n.toNat]?=some x:=by
 unfold eG at h
 split at h
 · rename_i hn;exact⟨hn.2,hn.1,h⟩
 · cases h
structure CI(m:aT)(x:aj):Prop where
 call:x.Code=16->0<=x.A/\x.A<(m.ay.length:Int)+(m.aq.length:Int)
 sig:x.Code=17->0<=x.A/\x.A<(m.bQ.length:Int)
 Vx:x.Code=35\/x.Code=36->0<=x.A/\x.A<(m.aA.length:Int)
 mt:x.Code=36->∃z,m.aA[x.A.toNat]?=some z/\z.eu
 mem:aP x.Code=8\/aP x.Code=9\/aP x.Code=10->0<=x.A/\x.A<(m.cP.length:Int)
 cc5:aP x.Code=10->0<=x.B/\x.B<(m.cP.length:Int)
theorem lW{β:Type}{o:Option α}{f:α->Option β}(h:o.bind f≠none):∃a,o=some a/\f a≠none:=by
 cases o with
 |none=>exact absurd rfl h
 |some a=>exact⟨a,rfl,h⟩
theorem E7{β:Type}{o:Option α}{f:α->β}(h:o.map f≠none):o≠none:=λe=>h (by rw[e];rfl)
variable {m:aT} {x:aj}
theorem CI.no(h:x.Code≠16/\x.Code≠17/\x.Code≠35/\x.Code≠36)(hf:aP x.Code≠8/\aP x.Code≠9/\aP x.Code≠10):CI m x:=
 ⟨λe=>absurd e h.1,λe=>absurd e h.2.1,λe=>e.elim (λe=>absurd e h.2.2.1) (λe=>absurd e h.2.2.2),λe=>absurd e h.2.2.2,λe=>e.elim (λe=>absurd e hf.1) (λe=>e.elim (λe=>absurd e hf.2.1) (λe=>absurd e hf.2.2)),λe=>absurd e hf.2.2⟩
theorem SQ{f:cn}{s:ee}{labs:List (List UInt8)}(h:fZ (bR m f) x s labs≠none)(hb:¬aN x.Code/\x.Code≠5/\x.Code≠11):CI m x:=by
 have key:∀c:Int,aP c=8\/aP c=9\/aP c=10->c≠0/\c≠12/\c≠13/\c≠14/\c≠15/\c≠16/\c≠17/\c≠26/\c≠27/\c≠32/\c≠33/\c≠34/\c≠35/\c≠36:=λc hc=>by
  refine⟨?_,?_,?_,?_,?_,?_,?_,?_,?_,?_,?_,?_,?_,?_⟩<;>(rintro rfl;revert hc;decide)
 have hmem:aP x.Code=8\/aP x.Code=9\/aP x.Code=10->rz (bR m f) x s≠none:=λhf=>by
  obtain⟨a0,a1,a2,a3,a4,a5,a6,a7,a8,a9,b0,b1,b2,b3⟩:=key _ hf;unfold fZ at h;rw[if_neg a0,if_neg a1,if_neg a2,if_neg a3,if_neg a4,if_neg a5,if_neg a6,if_neg a7,if_neg a8,if_neg a9,if_neg b0,if_neg b1,if_neg b2,if_neg b3,if_neg (by omega)] at h;exact h
 refine⟨λe=>?_,λe=>?_,λe=>?_,λe=>?_,λe=>?_,λe=>?_⟩
 · unfold fZ at h
   rw[if_neg (by rw[e];decide),if_neg (by rw[e];decide),if_neg (by rw[e];decide),if_neg (by rw[e];decide),if_neg (by rw[e];decide),if_pos e] at h;obtain⟨g,hg,_⟩:=lW h;obtain⟨h1,h2,_⟩:=lA hg;refine⟨h1,?_⟩;simp[bR] at h2;omega
 · unfold fZ at h
   rw[if_neg (by rw[e];decide),if_neg (by rw[e];decide),if_neg (by rw[e];decide),if_neg (by rw[e];decide),if_neg (by rw[e];decide),if_neg (by rw[e];decide),if_pos e] at h;obtain⟨g,hg,_⟩:=lW h;obtain⟨h1,h2,_⟩:=lA hg;exact⟨h1,h2⟩
 · unfold fZ at h
   rcases e with e|e
   · rw[if_neg (by rw[e];decide),if_neg (by rw[e];decide),if_neg (by rw[e];decide),if_neg (by rw[e];decide),if_neg (by rw[e];decide),if_neg (by rw[e];decide),if_neg (by rw[e];decide),if_neg (by rw[e];decide),if_neg (by rw[e];decide),if_neg (by rw[e];decide),if_neg (by rw[e];decide),if_neg (by rw[e];decide),if_pos e] at h
     have h9:=E7 h;obtain⟨g,hg⟩:=Option.ne_none_iff_exists'.1 h9;obtain⟨h1,h2,_⟩:=lA hg;exact⟨h1,by simpa[bR] using h2⟩
   · rw[if_neg (by rw[e];decide),if_neg (by rw[e];decide),if_neg (by rw[e];decide),if_neg (by rw[e];decide),if_neg (by rw[e];decide),if_neg (by rw[e];decide),if_neg (by rw[e];decide),if_neg (by rw[e];decide),if_neg (by rw[e];decide),if_neg (by rw[e];decide),if_neg (by rw[e];decide),if_neg (by rw[e];decide),if_neg (by rw[e];decide),if_pos e] at h
     obtain⟨g,hg,_⟩:=lW h;obtain⟨h1,h2,_⟩:=lA hg;exact⟨h1,by simpa[bR] using h2⟩
 · unfold fZ at h
   rw[if_neg (by rw[e];decide),if_neg (by rw[e];decide),if_neg (by rw[e];decide),if_neg (by rw[e];decide),if_neg (by rw[e];decide),if_neg (by rw[e];decide),if_neg (by rw[e];decide),if_neg (by rw[e];decide),if_neg (by rw[e];decide),if_neg (by rw[e];decide),if_neg (by rw[e];decide),if_neg (by rw[e];decide),if_neg (by rw[e];decide),if_pos e] at h;obtain⟨g,_,h2⟩:=lW h;obtain⟨p,hp,h3⟩:=lW h2;obtain⟨_,_,h4⟩:=lA hp;have h5:(m.aA.map (·.eu))[x.A.toNat]?=some p:=h4;rw[List.getElem?_map] at h5;obtain⟨z,hz,rfl⟩:=Option.map_eq_some_iff.1 h5;refine⟨z,hz,?_⟩;by_cases hm:z.eu
   · exact hm
   · rw[if_neg hm] at h3;exact absurd rfl h3
 · obtain⟨wa,hwa,_⟩:=lW (hmem e)
   obtain⟨h1,h2,_⟩:=lA hwa;exact⟨h1,by simpa[bR] using h2⟩
 · obtain⟨wa,hwa,h3⟩:=lW (hmem (.inr (.inr e)))
   obtain⟨wb,hwb,_⟩:=lW h3;rw[if_pos e] at hwb;obtain⟨h1,h2,_⟩:=lA hwb;exact⟨h1,by simpa[bR] using h2⟩
theorem BH{f:cn}(hv:dK m)(hf:f∈m.aq)(hx:x∈f.Body.L):CI m x:=by
 obtain⟨_,hs,h⟩:=hv.2 f hf;obtain⟨fs,b,hst⟩:=Nq h x hx;by_cases h11:x.Code=11
 · exact .no (by omega) (by rw[h11];decide)
 by_cases h5:x.Code=5
 · exact .no (by omega) (by rw[h5];decide)
 by_cases ho:aN x.Code
 · have h2:x.Code=2\/x.Code=3\/x.Code=4:=by unfold aN at ho;omega
   exact .no (by omega) (by rcases h2 with h2|h2|h2<;>rw[h2]<;>decide)
 · unfold cR at hst
   rw[if_neg h11,if_neg h5,if_neg ho] at hst;exact SQ (E7 hst) ⟨ho,h5,h11⟩
structure qK(K:gA)(c:bM):Prop where
 dS:∀f∈c.dS,f.fn<K.own.length
 tb:∀v∈c.tb,v<=K.dN+K.own.length
structure fC(K:gA)(s:aY):Prop where
 c:qK K s.2
 run:s.1.over=false->s.2.dS≠[]
section
variable {K:gA} {Z:Nat}
def jF(c:bM):List l8×List Nat:=(c.dS,c.tb)
theorem qK.of{c d:bM}(h:qK K c)(e:jF d=jF c):qK K d:=by
 have e1:d.dS=c.dS:=congrArg Prod.fst e;have e2:d.tb=c.tb:=congrArg Prod.snd e;exact⟨e1▸h.dS,e2▸h.tb⟩
theorem fC.of{s:aY}{c:bM}{m:jD}(h:fC K s)(e:jF c=jF s.2)(ho:m.over=false->s.1.over=false):fC K (m,c):=
 ⟨h.c.of e,λhm=>by have e1:c.dS=s.2.dS:=congrArg Prod.fst e;show c.dS≠[];rw[e1];exact h.run (ho hm)⟩
theorem zU{p:Prop}[Decidable p]{x y c:bM}(h1:jF x=jF c)(h2:jF y=jF c):jF (if p then x else y)=jF c:=by split<;>assumption
theorem gC(l:List Nat)(c:bM):jF (fk K l c)=jF c:=zU rfl rfl
theorem Ir(n:Nat)(c:bM):jF (jP n c).2=jF c:=by unfold jP;split<;>rfl
theorem E8(k h:Int)(c:bM):jF (uE k h c)=jF c:=zU rfl rfl
theorem fC.end_{s:aY}(h:qK K s.2)(o:Bd):fC K (oL o s):=by
 refine⟨?_,λe=>by cases e⟩
 show qK K (if o.kind=0\/o.kind=1 then _ else _)
 split
 · exact⟨λf hf=>(by cases hf),h.tb⟩
 · exact h
theorem ja{p:Prop}[Decidable p]{x y:aY}(h1:p->fC K x)(h2:¬p->fC K y):fC K (if p then x else y):=by
 by_cases hp:p
 · rw[if_pos hp];exact h1 hp
 · rw[if_neg hp];exact h2 hp
theorem Nr{c:bM}(h:c.dS≠[]):bK c∈c.dS:=by
 unfold bK;cases hl:c.dS.getLast? with
 |none=>exact absurd (List.getLast?_eq_none_iff.1 hl) h
 |some f=>exact List.mem_of_getLast? hl
theorem qK.enter{s:aY}(h:qK K s.2){f:Nat}(hf:f<K.dN+K.own.length):fC K (iL K f s):=
 ja (λ_=> .end_ (s:=(_,_)) (h.of (Ir _ _)) _) λhn=>ja (λ_=> .end_ h _) λ_=>by
  have hc:qK K {s.2 with dS:=s.2.dS++[⟨f-K.dN,0,((s.2.stk.length:Int)-((K.sig f).P.length:Int)).toNat⟩]}:=⟨λg hg=>by
   rcases List.mem_append.1 hg with hg|hg
   · exact h.dS g hg
   · rw[List.mem_singleton.1 hg];show f-K.dN<_;omega,h.tb⟩
  refine⟨hc.of (gC _ _),λ_=>?_⟩;have e:=congrArg Prod.fst (gC (K:=K) (List.replicate ((K.made (f-K.dN)).locals-(K.sig f).P.length) 0) {s.2 with dS:=s.2.dS++[⟨f-K.dN,0,((s.2.stk.length:Int)-((K.sig f).P.length:Int)).toNat⟩]});intro e2;have e3:=e.symm.trans e2;simp[jF] at e3
theorem fC.enter{s:aY}(h:fC K s){f:Nat}(hf:f<K.dN+K.own.length):fC K (iL K f s):=qK.enter h.c hf
theorem fC.leave{s:aY}(h:fC K s):fC K (js K s):=by
 have hc:qK K (uE ((K.made (bK s.2).fn).sig.R.length:Int) ((bK s.2).bs:Int) {s.2 with dS:=s.2.dS.dropLast}):=
  (⟨λf hf=>h.c.dS f (List.dropLast_subset _ hf),h.c.tb⟩:qK K {s.2 with dS:=s.2.dS.dropLast}).of (E8 _ _ _)
 exact ja (λ_=> .end_ (s:=(_,_)) (hc.of (Ir _ _)) _) λhn=>⟨hc,λ_=>hn⟩
theorem VE{c:bM}(h:qK K c)(p:Int):qK K (yf p c)/\(c.dS≠[]->(yf p c).dS≠[]):=by
 unfold yf;by_cases hp:c.dS=[]\/p<0\/4294967295<p
 · rw[if_pos hp];exact⟨h,id⟩
 · rw[if_neg hp]
   refine⟨⟨λf hf=>?_,h.tb⟩,λ_=>by simp⟩;rcases List.mem_append.1 hf with hf|hf
   · exact h.dS f (List.dropLast_subset _ hf)
   · rw[List.mem_singleton.1 hf]
     exact h.dS (bK c) (Nr λe=>hp (.inl e))
theorem fC.go{s:aY}(h:fC K s){c:bM}(e:jF c=jF s.2)(p:Int):fC K (s.1,yf p c):=by
 have h1:=VE (h.c.of e) p;exact⟨h1.1,λho=>h1.2 (by have e1:c.dS=s.2.dS:=congrArg Prod.fst e;rw[e1];exact h.run ho)⟩
theorem fC.jump{s:aY}(h:fC K s){c:bM}(e:jF c=jF s.2)(at_:Nat)(k:Int):fC K (s.1,xg K at_ k c):=h.go ((E8 _ _ _).trans e) _
theorem fC.skip{s:aY}(h:fC K s){c:bM}(e:jF c=jF s.2)(at_:Nat):fC K (s.1,Bf K at_ c):=h.go e _
theorem fC.on{s:aY}(h:fC K s){c:bM}(e:jF c=jF s.2):fC K (s.1,c):=h.of e id
theorem fC.SR{s:aY}(h:fC K s)(x:aj):fC K (nC K x s):=
 ja (λ_=> .end_ h.c _) λhn=>ja (λ_=>(h.on (c:=(aO s.2).2) rfl).enter (f:=((aO s.2).2.tb[(aO s.2).1]?).getD 0-1) (by
  have h2:((aO s.2).2.tb[(aO s.2).1]?).getD 0<=K.dN+K.own.length:=by
   cases ht:(aO s.2).2.tb[(aO s.2).1]? with
   |none=>exact Nat.zero_le _
   |some v=>exact h.c.tb v (List.mem_of_getElem? ht)
  omega)) λ_=> .end_ (s:=(_,_)) h.c _
theorem fD{p:Prop}[Decidable p]{x:aY}{u:Option aY}(h1:p->fC K x)(h2:∀y,u=some y->fC K y):∀y,(if p then some x else u)=some y->fC K y:=by
 intro y hy
 split at hy
 · rename_i hp;cases hy;exact h1 hp
 · exact h2 y hy
theorem fC.is_{s:aY}(h:fC K s){c:bM}(e:jF c=jF s.2)(t n:Nat):fC K (Be t n (s.1,c)):=
 ja (λ_=> .end_ (s:=(_,_)) (h.c.of e) _) λ_=>ja (λ_=> .end_ (s:=(_,_)) (h.c.of e) _) λ_=>h.on e
theorem Ns{p:Prop}[Decidable p]{m:jD}{c d:bM}(h1:fC K (m,c))(h2:fC K (m,d)):fC K (m,if p then c else d):=by split<;>assumption
theorem Is{s:aY}(h:fC K s){x:aj}(hx:CI K.m x)(hn:K.own.length=K.m.aq.length)(at_:Nat):∀y,bn K x at_ s=some y->fC K y:=
 fD (λ_=> .end_ h.c _) (fD (λ_=>Ns (h.skip (by rfl) _) (h.on (by rfl))) (fD (λ_=>h.skip (by rfl) _) (fD (λ_=>h.jump (by rfl) _ _) (fD (λ_=>Ns (h.jump (by rfl) _ _) (h.on (by rfl))) (fD (λ_=>h.jump (by rfl) _ _) (fD (λ_=>h.leave) (fD (λe=>h.enter (by have:=hx.call e;unfold gA.dN;omega)) (fD (λ_=>h.SR x) (λ_ h=>by cases h)))))))))
theorem mK{p:Prop}[Decidable p]{x:bM}{u:Option bM}{c:bM}(h1:jF x=jF c)(h2:∀y,u=some y->jF y=jF c):∀y,(if p then some x else u)=some y->jF y=jF c:=by
 intro y hy
 split at hy
 · cases hy;exact h1
 · exact h2 y hy
theorem E9(x:aj)(c:bM):∀y,bz K x c=some y->jF y=jF c:=
 mK rfl (mK (gC _ _) (mK (gC _ _) (mK rfl (mK ((gC _ _).trans rfl) (mK (gC _ _) (mK rfl (λ_ h=>by cases h)))))))
theorem K8{s:aY}(h:fC K s)(x:aj):∀y,ey K Z x s=some y->fC K y:=by
 unfold ey;by_cases hf:(dY x.Code).Form=8\/(dY x.Code).Form=9\/(dY x.Code).Form=10
 · rw[if_pos hf]
   cases jL x.Code with
   |some n=>
    intro y hy;cases hy
    exact ja (λ_=>ja (λ_=>h.on (gC _ _)) λ_=>h.is_ (by rfl) _ _) λ_=>h.is_ (by rfl) _ _
   |none=>
    intro y hy;cases hy
    exact ja (λ_=>h.on (gC _ _)) λ_=>ja (λ_=>h.on ((gC _ _).trans rfl)) λ_=>ja (λ_=>(by unfold Hz;exact h.is_ (zU (by rfl) (by rfl)) _ _)) λ_=>ja (λ_=>(by unfold HA;exact h.is_ (zU (by rfl) (by rfl)) _ _)) λ_=>h
 · rw[if_neg hf];intro y hy;cases hy
theorem It{s:aY}(h:fC K s)(x:aj):∀y,cG K x s=some y->fC K y:=by
 unfold cG;cases mz x.Code with
 |none=>intro y hy;cases hy
 |some g=>exact fD (λ_=>h.on (gC _ _)) (fD (λ_=>h.on (gC _ _)) (fD (λ_=> .end_ (s:=(_,_)) (h.c.of rfl) _) (λy hy=>by cases hy;exact h.on (gC _ _))))
theorem K9{s:aY}(h:fC K s)(x:aj):∀y,cH K x s=some y->fC K y:=
 fD (λ_=>h.on (gC _ _)) (fD (λ_=>h.on (gC _ _)) (fD (λ_=>h.on (gC _ _)) (It h x)))
theorem YO{s:aY}(h:fC K s){x:aj}(hx:CI K.m x)(hn:K.own.length=K.m.aq.length)(at_:Nat):fC K (yg K Z x at_ s):=by
 unfold yg;cases hc:bn K x at_ s with
 |some s'=>exact Is h hx hn at_ s' hc
 | none=>
  cases hv:bz K x s.2 with
  |some c=>exact h.on (E9 x s.2 c hv)
  | none=>
   cases hm:ey K Z x s with
   |some s'=>exact K8 h x s' hm
   |none=>
    cases hu:cH K x s with
    |some s'=>exact K9 h x s' hu
    |none=>exact h
theorem SS{s:aY}(h:fC K s)(hx:∀i x,x∈(K.made i).body.L->CI K.m x)(hn:K.own.length=K.m.aq.length):fC K (eR K Z s):=by
 unfold eR;simp only;cases hl:(K.made (bK s.2).fn).body.L[(bK s.2).pl]? with
 |none=>exact h.leave
 |some x=>
  have h2:fC K (({s.1 with fuel:=s.1.fuel-cS x s.2,bB:=s.1.bB+cS x s.2},yf (((bK s.2).pl:Int)+1) s.2):aY):=(h.go (c:=s.2) rfl (((bK s.2).pl:Int)+1)).of rfl id;exact ja (λ_=> .end_ h.c _) λ_=>YO h2 (hx _ x (List.mem_of_getElem? hl)) hn _
def ZS(K:gA)(s:aY):Nat:=if s.1.over=true then 0 else 1+s.1.fuel*(K.frames+1)+s.2.dS.length
theorem Ph(x:aj)(c:bM):1<=cS x c:=by unfold cS;split<;>omega
theorem VF(x:aj)(at_:Nat)(s:aY):(yg K Z x at_ s).1.fuel=s.1.fuel/\(yg K Z x at_ s).1.bB=s.1.bB:=by
 have h:=No (K:=K) (Z:=Z) (a:=s.1.fuel) (b:=s.1.bB) x at_ s;rw[DT] at h;rw[h];exact⟨rfl,rfl⟩
theorem SU{s:aY}(h0:s.1.over=false)(hne:s.2.dS≠[])(hf:(eR K Z s).2.dS.length<=K.frames):ZS K (eR K Z s)<ZS K s:=by
 have e0:ZS K s=1+s.1.fuel*(K.frames+1)+s.2.dS.length:=if_neg (by rw[h0];exact Bool.false_ne_true);rw[e0];by_cases ho:(eR K Z s).1.over=true
 · have:ZS K (eR K Z s)=0:=if_pos ho
   omega
 · have e1:ZS K (eR K Z s)=1+(eR K Z s).1.fuel*(K.frames+1)+(eR K Z s).2.dS.length:=if_neg ho
   rw[e1];unfold eR at ho hf ⊢;simp only at ho hf ⊢;cases hl:(K.made (bK s.2).fn).body.L[(bK s.2).pl]? with
   |none=>
    rw[hl] at ho;simp only at ho ⊢;unfold js at ho ⊢;simp only at ho ⊢;by_cases hc:(uE ((K.made (bK s.2).fn).sig.R.length:Int) ((bK s.2).bs:Int) {s.2 with dS:=s.2.dS.dropLast}).dS=[]
    · rw[if_pos hc] at ho;exact absurd rfl ho
    · rw[if_neg hc]
      have e2:=congrArg Prod.fst (E8 ((K.made (bK s.2).fn).sig.R.length:Int) ((bK s.2).bs:Int) {s.2 with dS:=s.2.dS.dropLast});simp only[jF] at e2;have h3:=List.length_pos_iff.2 hne
      show 1+s.1.fuel*(K.frames+1)+(uE _ _ _).dS.length<_
      rw[e2,List.length_dropLast];omega
   |some x=>
    rw[hl] at ho hf;simp only at ho hf ⊢;by_cases hc:s.1.fuel<cS x s.2
    · rw[if_pos hc] at ho;exact absurd rfl ho
    · rw[if_neg hc] at hf ⊢
      rw[(VF x _ _).1];have h1:=Ph x s.2;have h3:=List.length_pos_iff.2 hne
      have h4:(s.1.fuel-cS x s.2)*(K.frames+1)+(K.frames+1)<=s.1.fuel*(K.frames+1):=by
       rw[<-Nat.succ_mul];exact Nat.mul_le_mul_right _ (by omega)
      simp only;omega
end
end Go.Hl
end
section
namespace Go.Hl
def ai4(p:Prop):List VP:=[av p]
instance:gX 1 ai4:=⟨λ_=>rfl,λx q h=>by simp only[ai4,List.mem_cons,List.not_mem_nil,or_false] at h;subst h;infer_instance⟩
def sgP(n:Nat)(op:Int)(A:Nat):Prop:=(op=3\/op=5)/\2^(n-1)<=A
instance {n:Nat} {op:Int} {A:Nat}:Decidable (sgP n op A):=by unfold sgP;infer_instance
def noI:aj:=⟨-1,0,0,0,[]⟩
def isC(x:aj):Prop:=x.Code=65\/x.Code=66
instance (x:aj):Decidable (isC x):=by unfold isC;infer_instance
variable {n:Nat} {op:Int} {A:Nat} {B:Nat}
theorem SV:A3 n op A B<2:=by unfold A3;split<;>decide
theorem YP(hn:WN n)(hA:A<2^n):unF n op A<18446744073709551616:=by
 have h1:=R2 n A;have h2:=zO n A
 unfold unF;rcases hn with rfl|rfl<;>(repeat' split)<;>omega
theorem VG(hn:WN n)(hA:A<2^n)(hB:B<2^n)(h0:0<=op):ON n op A B<2^n:=by
 rcases Int.lt_or_le op 7 with h|h
 · rw[<-DF hn h hA hB h0];exact Nat.mod_lt _ (Nat.two_pow_pos n)
 · rw[<-Hg hn h hA hB];exact Nat.mod_lt _ (Nat.two_pow_pos n)
theorem VH(hn:WN n)(hA:A<2^n)(hB:B<2^n)(h0:0<=op):Hf n op A B<18446744073709551616:=by
 have:=VG hn hA hB h0;unfold Hf
 split
 · exact yd hn this
 · decide
theorem VI{f t:Nat}{s:Prop}[Decidable s]{a:Nat}(hf:f=8\/f=16\/f=32)(ht:t=32\/t=64):vC f t s a<18446744073709551616:=by
 unfold vC;rcases hf with rfl|rfl|rfl<;>rcases ht with rfl|rfl<;>split<;>omega
def Xc(c:Int):Prop:=((c=0\/c=12)\/c=14)\/c=15
def SW(c:Int):Prop:=(2<=c/\c<=5)\/c=11
instance (c:Int):Decidable (Xc c):=by unfold Xc;infer_instance
instance (c:Int):Decidable (SW c):=by unfold SW;infer_instance
abbrev gI(l:List aj)(i:Nat):aj:=l.getD i noI
section
variable {m:aT} {f:cn}
def Cb:List Nat->Nat
 |[]=>0
 |h::l=>max h (Cb l)
noncomputable abbrev cr(m:aT)(f:cn)(l:List aj)(fs:List eT):Option (List Nat):=kG (·.Code) eH (fZ (bR m f)) l fs
end
theorem Iu(l:List Nat)(x:Nat):Cb (l++[x])=max (Cb l) x:=by
 induction l with
 |nil=>show max x 0=max 0 x;omega
 |cons a l ih=>show max a (Cb (l++[x]))=max (max a (Cb l)) x;rw[ih];omega
theorem VJ{l:List Nat}{x:Nat}(h:l[0]?=some x):(x:Int)=((Cb (l.take 1):Nat):Int):=by
 cases l with
 |nil=>cases h
 |cons a l=>cases h;show(x:Int)=((max x 0:Nat):Int);omega
theorem tG{m:aT}{f:cn}{hs:List Nat}(h:cN m f=some hs):hs.length=f.Body.L.length:=by
 suffices H:∀(l:List aj) (fs:List eT) (hs:List Nat),cr m f l fs=some hs->hs.length=l.length from H _ _ _ h
 intro l
 induction l with
 |nil=>intro fs hs h;cases h;rfl
 | cons x l ih=>
  intro fs hs h;rcases List.eq_nil_or_concat fs with rfl|⟨gs,b,rfl⟩
  · simp[cr,kG] at h
  rw[List.concat_eq_append] at h;unfold cr at h;rw[qx] at h;cases hst:cR (λx:aj=>x.Code) eH (fZ (bR m f)) x gs b with
  |none=>rw[hst] at h;cases h
  |some r=>
   rw[hst] at h;obtain⟨t,ht,rfl⟩:=Option.map_eq_some_iff.1 h;rw[List.length_cons,ih _ _ ht,List.length_cons]
theorem SX{m:aT}{f:cn}(hm:dB m):∀n i hts fs t,f.Body.L.length-i=n->i<=f.Body.L.length->w7 m f i hts fs->cr m f (f.Body.L.drop i) fs=some t->Cb t<=20*f.Body.L.length
 |0,i,hts,fs,t,hn,hi,h,ht=>by
  rw[List.drop_eq_nil_of_le (by omega)] at ht;cases ht;exact Nat.zero_le _
 | n+1,i,hts,fs,t,hn,hi,h,ht=>by
  obtain⟨x,hx⟩:=ah (xs:=f.Body.L) (k:=i) (by omega);obtain⟨gs,b,rfl⟩:=Hr (uo hx▸h.nest);rw[uo hx] at ht;unfold cr at ht;rw[qx] at ht;cases hst:cR (λx:aj=>x.Code) eH (fZ (bR m f)) x gs b with
  |none=>rw[hst] at ht;cases ht
  |some r=>
   rw[hst] at ht;obtain⟨u,hu,rfl⟩:=Option.map_eq_some_iff.1 ht;have h1:=SX hm n (i+1) _ r u (by omega) (by omega) (h.next hm hx hst) hu;have h2:=h.hgt
   show max _ _<=_
   omega
theorem La{m:aT}{f:cn}{hs:List Nat}(hm:dK m)(hf:f∈m.aq)(h:cN m f=some hs):Cb hs<=20*f.Body.L.length:=by
 have oV:=(hm.2 f hf).1;exact SX hm.1 _ 0 [] _ hs rfl (Nat.zero_le _) (w7.init hm.1 (gL (jO hm.1 hf)).2 oV.2.2.2.1) h
def y5(m:aT)(f:cn)(hs:List Nat):Int:=((bR m f).aV.length:Int)+((Cb hs:Nat):Int)+((bJ m f.fW).R.length:Int)
end Go.Hl
end
section
namespace Go.Hl
open Go.RowKit Classical
noncomputable section
def jb(sp:List jr)(at_:Int):List jr:=sp.reverse.filter λx=>decide (x.1<at_/\at_<x.2.2)
def tH(l:List aj)(i:Int):aj:=(l[i.toNat]?).getD ⟨0,0,0,0,[]⟩
def Iv(l:List aj)(x:jr):Int:=if (tH l x.1).A=64 then 0 else 1
def lX(l:List aj)(hts:List Nat)(x:jr):Int:=if (tH l x.1).Code=4 then max (((hts[x.1.toNat]?).getD 0:Nat)-1:Int) 0 else((hts[x.1.toNat]?).getD 0:Nat)
def sj(l:List aj)(hts:List Nat)(res:Nat)(ar:List jr)(n:Int):qa:=
 if (ar.length:Int)<=n then⟨(l.length:Int),(res:Int),0⟩
 else
  let x:=(ar[n.toNat]?).getD (0,0,0)
  if (tH l x.1).Code=3 then⟨x.1+1,0,lX l hts x⟩ else⟨x.2.2+1,Iv l x,lX l hts x⟩
def dL(x:aj):List Int:=if x.Code=12\/x.Code=13 then[x.A] else if x.Code=14 then x.L++[x.A] else[]
def CJ(l:List aj)(hts:List Nat)(res:Nat)(ar:List jr)(at_:Int)(ns:List Int)(J:List (dX×qa)):Nat->List (dX×qa)
 |0=>J
 |k+1=>ki (CJ l hts res ar at_ ns J k) (at_,(k:Int)) (sj l hts res ar ((ns[k]?).getD 0))
def qe(l:List aj)(hts:List Nat)(res:Nat)(sp:List jr):Nat->List (dX×qa)
 |0=>[]
 |i+1=>CJ l hts res (jb sp (i:Int)) (i:Int) (dL (tH l (i:Int))) (qe l hts res sp i) (dL (tH l (i:Int))).length
def BI(l:List aj)(x:jr)(S:List (Int×Int)):List (Int×Int):=
 if (tH l x.1).Code≠4 then S
 else if 0<=x.2.1 then ki (ki (ki S x.1 x.2.2) x.1 (x.2.1+1)) x.2.1 x.2.2 else ki S x.1 x.2.2
def yq(l:List aj)(sp:List jr):Nat->List (Int×Int)
 |0=>[]
 |i+1=>BI l ((sp[i]?).getD (0,0,0)) (yq l sp i)
def uS(m:aT)(f:cn):iK:=
 let hts:=(cN m f).getD []
 ⟨f.Body,bJ m f.fW,(bR m f).aV.length,y5 m f hts,qe f.Body.L hts (bJ m f.fW).R.length (lS f.Body.L) f.Body.L.length,yq f.Body.L (lS f.Body.L) (lS f.Body.L).length⟩
def runK(m:aT)(cells frames:Nat):gA:=⟨m,cells,frames,m.aq.map (uS m)⟩
theorem iM{m:aT}{cells frames:Nat}:(runK m cells frames).own.length=m.aq.length:=by simp[runK]
theorem Iw{m:aT}{cells frames:Nat}(hv:dK m):∀i x,x∈((runK m cells frames).made i).body.L->CI m x:=by
 intro i x hx;unfold gA.made runK at hx;simp only[List.getElem?_map] at hx;cases hf:m.aq[i]? with
 |none=>rw[hf] at hx;cases hx
 |some f=>rw[hf] at hx;exact BH hv (List.mem_of_getElem? hf) hx
theorem Lb{m:aT}{cells frames:Nat}(hv:dK m)(hm:m.cP=[])(hg:∀z∈m.aA,¬z.eu)(hform:∀c:Int,(dY c).Form=8\/(dY c).Form=9\/(dY c).Form=10->aP c=8\/aP c=9\/aP c=10):
    ∀i x,x∈((runK m cells frames).made i).body.L->qd x:=λi x hx=>by
  have h:=Iw (cells:=cells) (frames:=frames) hv i x hx;refine⟨λe=>?_,λe=>?_⟩
  · obtain⟨z,hz,Ab⟩:=h.mt e
    exact hg z (List.mem_of_getElem? hz) Ab
  · have:=h.mem (hform _ e)
    rw[hm] at this;simp at this;omega
end
structure vM(n:Nat)(x:jr):Prop where
 lo:0<=x.1
 hi:x.1<(n:Int)
 el: -1<=x.2.1/\x.2.1<(n:Int)
 en: -1<=x.2.2/\x.2.2<(n:Int)
theorem vM.mono{a b:Nat}{x:jr}(h:vM a x)(k:a<=b):vM b x:=⟨h.lo,by have:=h.hi;omega,⟨h.el.1,by have:=h.el.2;omega⟩,⟨h.en.1,by have:=h.en.2;omega⟩⟩
theorem YQ{c:Int}{j:Nat}{s:List jr×List Nat}(h:∀x∈s.1,vM j x):∀x∈(Hp c j s).1,vM (j+1) x:=by
 have h':∀x∈s.1,vM (j+1) x:=λx hx=>(h x hx).mono (Nat.le_succ _);unfold Hp
 split
 · intro x hx
   rcases List.mem_append.1 hx with hx|hx
   · exact h' x hx
   · rw[List.mem_singleton.1 hx]
     exact⟨by show(0:Int)<=(j:Int);omega,by show(j:Int)<((j+1:Nat):Int);omega,⟨by show(-1:Int)<= -1;decide,by show(-1:Int)<((j+1:Nat):Int);omega⟩,⟨by show(-1:Int)<= -1;decide,by show(-1:Int)<((j+1:Nat):Int);omega⟩⟩
 · split
   · exact h'
   · split
     · exact h'
     · rename_i b el en hp
       have hb:=h' _ (List.mem_of_getElem? hp)
       split
       · intro x hx
         rcases List.mem_or_eq_of_mem_set hx with hx|rfl
         · exact h' x hx
         · exact⟨hb.lo,hb.hi,⟨by show(-1:Int)<=(j:Int);omega,by show(j:Int)<((j+1:Nat):Int);omega⟩,hb.en⟩
       · split
         · intro x hx
           rcases List.mem_or_eq_of_mem_set hx with hx|rfl
           · exact h' x hx
           · exact⟨hb.lo,hb.hi,hb.el,⟨by show(-1:Int)<=(j:Int);omega,by show(j:Int)<((j+1:Nat):Int);omega⟩⟩
         · exact h'
theorem Lc(l:List aj):∀i,∀x∈(M5 l i).1,vM i x
 |0=>λx hx=>by cases hx
 |i+1=>λx hx=>by
  unfold M5 at hx
  split at hx
  · exact YQ (Lc l i) x hx
  · exact(Lc l i x hx).mono (Nat.le_succ _)
theorem SY(l:List aj):∀x∈lS l,vM l.length x:=Lc l l.length
theorem VK(c:Int)(j:Nat)(s:List jr×List Nat):(Hp c j s).1.length<=s.1.length+1:=by
 unfold Hp
 split
 · simp
 · split
   · omega
   · split
     · omega
     · split
       · simp
       · split<;>simp
theorem Nt(l:List aj):∀i,(M5 l i).1.length<=i
 |0=>Nat.le_refl _
 |i+1=>by
  have h1:=Nt l i;unfold M5
  split
  · have h2:=VK (by assumption:aj).Code i (M5 l i);omega
  · omega
theorem Pj(l:List aj):(lS l).length<=l.length:=Nt l l.length
def tI(sp:List jr)(j:Nat):jr:=(sp.reverse[j]?).getD (0,0,0)
def Pk(sp:List jr)(at_:Int)(j:Nat):List jr:=(sp.reverse.take j).filter λx=>decide (x.1<at_/\at_<x.2.2)
theorem Nu{sp:List jr}{at_:Int}:Pk sp at_ sp.length=jb sp at_:=by unfold Pk jb;rw[List.take_of_length_le (by simp)]
theorem yt{sp:List jr}{j:Nat}(h:j<sp.length):sp.reverse[j]?=some (tI sp j):=by
 obtain⟨x,hx⟩:=ah (xs:=sp.reverse) (k:=j) (by rw[List.length_reverse];exact h);unfold tI;rw[hx];rfl
theorem SZ{sp:List jr}{j:Nat}(h:j<sp.length):sp[sp.length-1-j]?=some (tI sp j):=by rw[<-List.getElem?_reverse h];exact yt h
theorem Nv{sp:List jr}{at_:Int}{j:Nat}(h:j<sp.length)(c:(tI sp j).1<at_/\at_<(tI sp j).2.2):Pk sp at_ j++[tI sp j]=Pk sp at_ (j+1):=by
 unfold Pk;rw[List.take_add_one,yt h,List.filter_append];simp[c]
theorem S1{sp:List jr}{at_:Int}{j:Nat}(h:j<sp.length)(c:¬((tI sp j).1<at_/\at_<(tI sp j).2.2)):Pk sp at_ j=Pk sp at_ (j+1):=by
 unfold Pk;rw[List.take_add_one,yt h,List.filter_append];simp only[Option.toList,List.filter_cons,List.filter_nil,decide_eq_true_eq,if_neg c,List.append_nil]
theorem Fa{sp:List jr}{at_:Int}{j:Nat}:(Pk sp at_ j).length<=sp.length:=Nat.le_trans (List.length_filter_le _ _) (by rw[List.length_take,List.length_reverse];omega)
theorem Pm{l:List aj}{sp:List jr}{at_:Int}(h:∀x∈sp,vM l.length x):∀x∈jb sp at_,vM l.length x:=λx hx=>h x (List.mem_reverse.1 (List.mem_filter.1 hx).1)
theorem Ld{sp:List jr}{at_:Int}:(jb sp at_).length<=sp.length:=by rw[<-Nu];exact Fa
def EO{α:Type}(n:Nat)(enc:α->List VP)[gX n enc](b:Nat)(xs:List α):HP:=XI λsb:SB=>sM [az b [ag (bI sb xs.length)],aH sb n enc xs]
theorem vN{α:Type}{n:Nat}{enc:α->List VP}[gX n enc]{b:Nat}{sb:SB}{xs:List α}{r:List HP}:aF (az b [ag (bI sb xs.length)]::aH sb n enc xs::r) (EO n enc b xs::r):=
 (aF.pack (l:=[az b [ag (bI sb xs.length)],aH sb n enc xs])).trans (aF.ex (f:=λsb:SB=>sM [az b [ag (bI sb xs.length)],aH sb n enc xs]) sb)
theorem aU.S2{α:Type}{n:Nat}{enc:α->List VP}[gX n enc]{P:Program}{Q:Exit->Act->World->Prop}{c:Ctx}{x:Code}{env:Env}{b:Nat}{xs:List α}{r:List HP}(k:∀sb:SB,aU P Q c x (az b [ag (bI sb xs.length)]::aH sb n enc xs::r) env):aU P Q c x (EO n enc b xs::r) env:=
 aU.opens λsb=>aU.own (aF.unpack (l:=[az b [ag (bI sb xs.length)],aH sb n enc xs])) (k sb)
def y6(x:dX):List VP:=[af .i64 x.1,af .i64 x.2]
instance:gX 2 y6:=⟨λ_=>rfl,λx q h=>by simp only[y6,List.mem_cons,List.not_mem_nil,or_false] at h;rcases h with h|h<;>rw[h]<;>infer_instance⟩
instance (x:dX):bD (y6 x):=bD.of x
abbrev qf(I:tq)(J:List (dX×qa))(C S:List (Int×Int))(go:SB)(o:List dX):List HP:=
 [az I.b [ag (.map (some I.jm)),ag (.map (some I.cm)),ag (.map (some I.sm)),ag (bI go o.length)],oW I.jm (JT .i64 .i64) (λj=>aC (lV j)) J,oW I.cm (Value.int .i64) fP C,oW I.sm (Value.int .i64) fP S,aH go 2 y6 o]
theorem tJ{l:List aj}{i:Int}{k:Nat}{y:aj}(hk:i=(k:Int))(h:l[k]?=some y):tH l i=y:=by subst hk;unfold tH;rw[Int.toNat_natCast,h];rfl
theorem S3{l:List aj}{hts:List Nat}{res:Nat}{ar:List jr}{at_:Int}{ns:List Int}{J:List (dX×qa)}{k:Nat}{n:Int}(h:ns[k]?=some n):CJ l hts res ar at_ ns J (k+1)=ki (CJ l hts res ar at_ ns J k) (at_,(k:Int)) (sj l hts res ar n):=by
 show ki _ _ (sj l hts res ar ((ns[k]?).getD 0))=_;rw[h];rfl
section
variable {ι:Type} {cd:ι->Int} {rr:ι->List UInt8} {pl:ι->ee->List (List UInt8)->Option ee}
theorem Pn{x:ι}{fs fs':List eT}{b:eT}(h:cR cd rr pl x fs b=some fs'):fs'.length<=fs.length+2:=by
 unfold cR at h
 split at h
 · split at h
   · cases h
     split
     · simp
     · simp;omega
   · cases h
 · split at h
   · split at h
     · cases h;simp
     · cases h
   · split at h
     · obtain⟨s,_,rfl⟩:=Option.map_eq_some_iff.1 h;simp
     · obtain⟨s,_,rfl⟩:=Option.map_eq_some_iff.1 h;simp
theorem BJ:∀{l:List ι} {fs:List eT} {hs:List Nat},kG cd rr pl l fs=some hs->∀x∈l,∃fs' b,fs'.length<=fs.length+l.length/\cR cd rr pl x fs' b≠none
 |[],_,_,_,x,hx=>by cases hx
 | y ::r,fs,hs,h,x,hx=>by
  unfold kG at h;cases hl:fs.getLast? with
  |none=>rw[hl] at h;cases h
  | some b=>
   rw[hl] at h;simp only at h;have hne:fs≠[]:=λe=>by rw[e] at hl;cases hl
   have hpos:0<fs.length:=List.length_pos_iff.2 hne;cases hst:cR cd rr pl y fs.dropLast b with
   |none=>rw[hst] at h;cases h
   | some fs'=>
    rw[hst] at h;simp only[Option.bind_some] at h;have kR:=Pn hst;rw[List.length_dropLast] at kR;cases hr:kG cd rr pl r fs' with
    |none=>rw[hr] at h;cases h
    |some hs'=>
     rcases List.mem_cons.1 hx with rfl|hx
     · exact⟨fs.dropLast,b,by rw[List.length_dropLast];omega,by rw[hst];exact λe=>by cases e⟩
     · obtain⟨f2,b2,h1,h2⟩:=BJ hr x hx
       exact⟨f2,b2,by rw[List.length_cons];omega,h2⟩
end
theorem BK{m:aT}{f:cn}{x:aj}{fs:List eT}{b:eT}(h:cR (·.Code) eH (fZ (bR m f)) x fs b≠none)(h1:x.Code≠11)(h2:x.Code≠5)(h3:¬aN x.Code):fZ (bR m f) x b.st ((fs++[b]).map qw)≠none:=by
 unfold cR at h;rw[if_neg h1,if_neg h2,if_neg h3] at h;exact E7 h
theorem Po{l:List (List UInt8)}{n:Int}{w:List UInt8}(h:iG l n=some w):0<=n/\n<(l.length:Int):=by
 unfold iG at h
 split at h
 · rename_i hn;exact⟨hn.2,hn.1⟩
 · cases h
theorem Pp{m:aT}{f:cn}(hv:dK m)(ho:fV m)(hf:f∈m.aq){x:aj}(hx:x∈f.Body.L):∀n∈dL x,0<=n/\n<=100000:=by
 obtain⟨_,hs,h⟩:=hv.2 f hf;obtain⟨fs,b,hl,hst⟩:=BJ h x hx;have hlen:=ho.len f hf
 have lD:∀n w,iG ((fs++[b]).map qw) n=some w->0<=n/\n<=100000:=λn w hw=>by
  obtain⟨h1,h2⟩:=Po hw;simp only[List.length_map,List.length_append,List.length_cons,List.length_nil] at h2 hl;omega
 intro n hn;unfold dL at hn
 split at hn
 · rename_i hc
   rw[List.mem_singleton.1 hn];have jg:=BK hst (by omega) (by omega) (by unfold aN;omega);unfold fZ at jg;rcases hc with hc|hc
   · rw[if_neg (by omega),if_pos hc] at jg
     obtain⟨w,hw,_⟩:=lW jg;exact lD _ _ hw
   · rw[if_neg (by omega),if_neg (by omega),if_pos hc] at jg
     obtain⟨w,hw,_⟩:=lW jg;exact lD _ _ hw
 · split at hn
   · rename_i hc
     have jg:=BK hst (by omega) (by omega) (by unfold aN;omega);unfold fZ at jg;rw[if_neg (by omega),if_neg (by omega),if_neg (by omega),if_pos hc] at jg;obtain⟨w,hw,h3⟩:=lW jg;by_cases hall:∀n∈x.L,iG ((fs++[b]).map qw) n=some w
     · rcases List.mem_append.1 hn with hn|hn
       · exact lD _ _ (hall n hn)
       · rw[List.mem_singleton.1 hn];exact lD _ _ hw
     · rw[if_neg hall] at h3;exact absurd rfl h3
   · cases hn
theorem BL{m:aT}{f:cn}(hv:dK m)(hf:f∈m.aq):(bR m f).aV.length<=70:=by
 have h1:=(hv.1.Co _ (gL (jO hv.1 hf)).2).1;have h2:=(hv.2 f hf).1.2.2.1
 show((bJ m f.fW).P++f.Body.aV).length<=70
 rw[List.length_append];omega
theorem Pq{m:aT}{f:cn}(hv:dK m)(hf:f∈m.aq){x:aj}(hx:x∈f.Body.L)(hc:x.Code=32\/x.Code=33\/x.Code=34):x.A<=4294967295:=by
 obtain⟨_,hs,h⟩:=hv.2 f hf;obtain⟨fs,b,hl,hst⟩:=BJ h x hx;have hlo:=BL hv hf;have jg:=BK hst (by omega) (by omega) (by unfold aN;omega);have hg:∀{α:Type} {o:Option UInt8} {g:UInt8->Option α},o.bind g≠none->o≠none:=λh e=>h (by rw[e];rfl)
 have VL:eG (bR m f).aV x.A≠none:=by
  unfold fZ at jg;rw[if_neg (by omega),if_neg (by omega),if_neg (by omega),if_neg (by omega),if_neg (by omega),if_neg (by omega),if_neg (by omega),if_neg (by omega),if_neg (by omega)] at jg;rcases hc with hc|hc|hc
  · rw[if_pos hc] at jg;exact E7 jg
  · rw[if_neg (by omega),if_pos hc] at jg;exact hg jg
  · rw[if_neg (by omega),if_neg (by omega),if_pos hc] at jg;exact hg jg
 obtain⟨t,ht⟩:=Option.ne_none_iff_exists'.1 VL;have:=(lA ht).2.1;omega
theorem BM{c:Int}(h:(dY c).Form=8\/(dY c).Form=9\/(dY c).Form=10):aP c=8\/aP c=9\/aP c=10:=by
 unfold dY at h;cases hf:eZ c with
 |none=>rw[hf] at h;exact absurd h (by decide)
 |some x=>
  rw[hf] at h;have:=(lQ hf).2.2.2.1;simp only[Option.getD_some] at h;rw[<-this];exact h
theorem S4{l:List Nat}{i:Nat}:(l[i]?).getD 0<=Cb l:=by
 induction l generalizing i with
 |nil=>simp
 |cons a l ih=>
  cases i with
  |zero=>show a<=max a (Cb l);omega
  |succ i=>have:=ih (i:=i);rw[List.getElem?_cons_succ];show _<=max a (Cb l);omega
theorem S5{l:List aj}{hts:List Nat}{x:jr}(h:Cb hts<=40000):0<=lX l hts x/\lX l hts x<=40000:=by
 have:=S4 (l:=hts) (i:=x.1.toNat);unfold lX
 split<;>omega
theorem VM{l:List aj}{hts:List Nat}{res:Nat}{ar:List jr}{n:Int}(h:Cb hts<=40000): -100000<=(sj l hts res ar n).height/\(sj l hts res ar n).height<=100000:=by
 unfold sj
 split
 · exact⟨by show(-100000:Int)<=0;decide,by show(0:Int)<=100000;decide⟩
 · have hb:=S5 (l:=l) (x:=(ar[n.toNat]?).getD (0,0,0)) h
   dsimp only
   split
   · exact⟨by show(-100000:Int)<=lX _ _ _;omega,by show lX _ _ _<=(100000:Int);omega⟩
   · exact⟨by show(-100000:Int)<=lX _ _ _;omega,by show lX _ _ _<=(100000:Int);omega⟩
def Le(J:List (dX×qa)):Prop:=∀p j,er J p=some j-> -100000<=j.height/\j.height<=100000
theorem Le.zj{J:List (dX×qa)}(h:Le J){k:dX}{v:qa}(hv: -100000<=v.height/\v.height<=100000):Le (ki J k v):=λp j hj=>by
 rw[Ot] at hj
 split at hj
 · cases hj;exact hv
 · exact h p j hj
theorem S6{l:List aj}{hts:List Nat}{res:Nat}{ar:List jr}{at_:Int}{ns:List Int}{J:List (dX×qa)}(h:Cb hts<=40000)(hJ:Le J):∀k,Le (CJ l hts res ar at_ ns J k)
 |0=>hJ
 |k+1=>(S6 h hJ k).zj (VM h)
theorem Ix{l:List aj}{hts:List Nat}{res:Nat}{sp:List jr}(h:Cb hts<=40000):∀i,Le (qe l hts res sp i)
 |0=>λp j hj=>by cases hj
 |i+1=>S6 h (Ix h i) _
theorem VN{m:aT}{f:cn}(hv:dK m)(ho:fV m)(hf:f∈m.aq):EP (uS m f):=by
 obtain⟨_,hs,h⟩:=hv.2 f hf;have hlo:=BL hv hf;have hpk:=La hv hf h;have pX:=ho.len f hf;have hR:=(hv.1.Co _ (gL (jO hv.1 hf)).2).2;have hg:(cN m f).getD []=hs:=by rw[h];rfl
 refine⟨?_,?_,?_,?_,?_⟩
 · show(bR m f).aV.length<=2000;omega
 · show-100000<=y5 m f ((cN m f).getD [])/\y5 m f ((cN m f).getD [])<=100000
   rw[hg];unfold y5;omega
 · show f.Body.L.length<=5000;omega
 · show(bJ m f.fW).R.length<=1000;omega
 · show Le (qe f.Body.L ((cN m f).getD []) _ _ _)
   rw[hg];exact Ix (by omega) _
theorem S7{l:List aj}{hts:List Nat}{res:Nat}{sp:List jr}{i:Nat}{y:aj}(h:l[i]?=some y):qe l hts res sp (i+1)=CJ l hts res (jb sp (i:Int)) (i:Int) (dL y) (qe l hts res sp i) (dL y).length:=by
 show CJ l hts res (jb sp (i:Int)) (i:Int) (dL (tH l (i:Int))) (qe l hts res sp i) (dL (tH l (i:Int))).length=_
 rw[tJ rfl h]
theorem S8{l:List aj}{sp:List jr}{i:Nat}{x:jr}(h:sp[i]?=some x):yq l sp (i+1)=BI l x (yq l sp i):=by
 show BI l ((sp[i]?).getD (0,0,0)) (yq l sp i)=_;rw[h];rfl
theorem Fb{I:tq}{b:Nat}{d:iK}{J:List (dX×qa)}{C S:List (Int×Int)}{go:SB}{o:List dX}(hb:I.b=b)(hj:d.jumps=J)(hs:d.xe=S):aF (qf I J C S go o) [m6 b d]:=by
 subst hj;subst hs
 exact(aF.left (a:=tu I d.jumps C d.xe (ag (bI go o.length))) (b:=[aH go 2 y6 o])).trans ((aF.of_eq (List.append_nil _).symm).trans (Bm (r:=[]) hb))
theorem Nw{l:List iK}{d:iK}{i:Nat}{bs:List Nat}{b:Nat}(h:l[i]?=some d)(hl:bs.length=i):(l.take (i+1)).zip (bs++[b])=(l.take i).zip bs++[(d,b)]:=by
 have hi:=(List.getElem?_eq_some_iff.1 h).1;rw[List.take_add_one,h];simp only[Option.toList];rw[List.zip_append (by rw[List.length_take];omega)];rfl
theorem S9{m:aT}(hm:dB m)(f:Int):eY m f=if 0<=f/\f<(m.ay.length:Int)+(m.aq.length:Int) then(if f.toNat<m.ay.length then(m.ay[f.toNat]?).map λi=>bJ m i.fW else(m.aq[f.toNat-m.ay.length]?).map λg=>bJ m g.fW) else none:=by
 rw[<-qz (f:=⟨0,⟨[],[]⟩⟩) hm];have hl:(bR m ⟨0,⟨[],[]⟩⟩).aq.length=m.ay.length+m.aq.length:=by simp[bR]
 unfold eG;rw[hl];by_cases hc:0<=f/\f<(m.ay.length:Int)+(m.aq.length:Int)
 · rw[if_pos ⟨by push_cast;omega,hc.1⟩,if_pos hc]
   show(m.ay.map (λi=>bJ m i.fW)++m.aq.map (λg=>bJ m g.fW))[f.toNat]?=_
   by_cases h2:f.toNat<m.ay.length
   · rw[List.getElem?_append_left (by simpa using h2),if_pos h2,List.getElem?_map]
   · rw[List.getElem?_append_right (by simp;omega),if_neg h2,List.getElem?_map,List.length_map]
 · rw[if_neg (λh=>hc ⟨h.2,by have:=h.1;push_cast at this;omega⟩),if_neg hc]
theorem Fc{m:aT}{cells frames:Nat}(hm:dB m)(f:Nat):(eY m (f:Int)).getD ⟨[],[]⟩=(runK m cells frames).sig f:=by
 rw[S9 hm];unfold gA.sig gA.dN
 show _=if f<m.ay.length then _ else _
 simp only[Int.toNat_natCast];by_cases h1:f<m.ay.length
 · rw[if_pos (by omega),if_pos h1,if_pos h1];rfl
 · rw[if_neg h1,if_neg h1]
   by_cases h2:f<m.ay.length+m.aq.length
   · rw[if_pos (by omega)];rfl
   · rw[if_neg (by omega)]
     show _=((m.aq[f-m.ay.length]?).map _).getD _
     rw[List.getElem?_eq_none (by omega)];rfl
theorem Ta{m:aT}{cells frames:Nat}(hm:dB m)(f:Nat):(runK m cells frames).sig f=⟨[],[]⟩\/(runK m cells frames).sig f∈m.bQ:=by
 rw[<-Fc hm];cases h:eY m (f:Int) with
 |none=>exact .inl rfl
 |some s=>exact .inr (zG h)
theorem Iy{m:aT}(hm:dB m){s:mj}(hs:s∈m.bQ):jJ s.P/\jJ s.R:=by
 have h1:∀z∈m.bQ,J7 z=0:=fM.1 (bT.1 hm.sigs).2;exact Classical.not_not.1 ((cW (by decide)).1 (h1 s hs))
theorem BN{l:List UInt8}(h:jJ l):∀t∈l,fG t=32\/fG t=64:=λt ht=>by
 rcases h.2 t ht with rfl|rfl
 · exact .inr (by decide)
 · exact .inl (by decide)
theorem Fe{m:aT}{cells frames i:Nat}{f:cn}(h:m.aq[i]?=some f):(runK m cells frames).made i=uS m f:=by
 unfold gA.made runK;simp only[List.getElem?_map,h];rfl
theorem kok{m:aT}{cells frames:Nat}(hv:dK m)(ho:fV m):T3 (runK m cells frames):=by
 obtain⟨l1,l2,l3,l4,l5⟩:=hv.1.lens;have ZT:(m.ay.length:Int)+(m.aq.length:Int)<=100:=l5;have hon:(runK m cells frames).own.length=m.aq.length:=iM;refine⟨Fc hv.1,λf=>?_,λf=>?_,λf=>?_,?_,?_,?_,λi hi=>?_⟩
 · show(eY m f).isSome↔0<=f/\f<(m.ay.length:Int)+_
   rw[hon,S9 hv.1];by_cases hc:0<=f/\f<(m.ay.length:Int)+(m.aq.length:Int)
   · rw[if_pos hc]
     refine⟨λ_=>hc,λ_=>?_⟩;by_cases h2:f.toNat<m.ay.length
     · rw[if_pos h2,List.getElem?_eq_getElem h2];rfl
     · rw[if_neg h2,List.getElem?_eq_getElem (show f.toNat-m.ay.length<m.aq.length by omega)];rfl
   · rw[if_neg hc];exact⟨λh=>(Bool.false_ne_true h).elim,λh=>absurd h hc⟩
 · rcases Ta (cells:=cells) (frames:=frames) hv.1 f with h|h
   · rw[h];exact⟨by decide,by decide⟩
   · have:=hv.1.Co _ h;omega
 · rcases Ta (cells:=cells) (frames:=frames) hv.1 f with h|h
   · rw[h];exact⟨λt ht=>by(cases ht),λt ht=>by(cases ht)⟩
   · exact⟨BN (Iy hv.1 h).1,BN (Iy hv.1 h).2⟩
 · show m.ay.length<=1000;omega
 · rw[hon];omega
 · show fH m<=1000000
   have h1:=hv.1.table;unfold nx at h1
   split at h1
   · exact absurd h1 (by decide)
   · have h2:=(cW (by decide)).1 h1
     unfold fH;omega
 · rw[hon] at hi
   obtain⟨f,hf⟩:=ah (xs:=m.aq) (k:=i) hi;have rZ:=List.mem_of_getElem? hf;rw[Fe hf];refine⟨VN hv ho rZ,?_⟩
   have hs:(runK m cells frames).sig ((runK m cells frames).dN+i)=bJ m f.fW:=by
    rw[<-Fc hv.1];have:(((runK m cells frames).dN+i:Nat):Int)=(m.ay.length:Int)+(i:Int):=by show((m.ay.length+i:Nat):Int)=_;omega
    rw[this,oa hv.1 hf];rfl
   rw[hs]
   show(bJ m f.fW).P.length<=((bJ m f.fW).P++f.Body.aV).length
   rw[List.length_append];omega
theorem VO{m:aT}{cells frames:Nat}(hv:dK m)(ho:fV m)(hn:m.cP=[]):∀i,i<(runK m cells frames).own.length->∀x∈((runK m cells frames).made i).body.L,Sz (runK m cells frames) x:=λi hi x hx=>by
 rw[iM] at hi;obtain⟨f,hf⟩:=ah (xs:=m.aq) (k:=i) hi;have rZ:=List.mem_of_getElem? hf;rw[Fe hf] at hx;have hx':x∈f.Body.L:=hx;have hr:=BH hv rZ hx';refine⟨ho.ins f rZ x hx',λe=>?_,λe=>(hr.sig e).2,λe=>(hr.Vx e).2,λe=>Pq hv rZ hx' e,?_⟩
 · rw[iM];exact(hr.call e).2
 · have hno:¬((dY x.Code).Form=8\/(dY x.Code).Form=9\/(dY x.Code).Form=10):=λh=>by
    have h2:=hr.mem (BM h);rw[hn] at h2;simp at h2;omega
   exact⟨λh=>hno (.inl h),λh=>hno (.inr (.inl h)),λh=>hno (.inr (.inr h))⟩
theorem xo{m:aT}{cells frames:Nat}(hv:dK m):∀i x,x∈((runK m cells frames).made i).body.L->CI m x:=Iw hv
end Go.Hl
end
section
namespace Go.Hl
open Go.RowKit
def i65(n:Int):aj:=⟨65,n,0,0,[]⟩
def i106:aj:=⟨106,0,0,0,[]⟩
def i11:aj:=⟨11,0,0,0,[]⟩
def pR:j8:=⟨[],[i65 2,i65 3,i106,i11]⟩
def CK:cn:=⟨0,pR⟩
def gZ:aT:=⟨[⟨[],[127]⟩],[],[CK],-1,[],[],[],-1,[],[]⟩
theorem Xd{P:aj->Prop}(h1:P (i65 2))(h2:P (i65 3))(h3:P i106)(h4:P i11):∀x∈pR.L,P x:=λx hx=>by
 simp only[pR,List.mem_cons,List.not_mem_nil,or_false] at hx;rcases hx with rfl|rfl|rfl|rfl<;>assumption
theorem VQ{P:cn->Prop}(h:P CK):∀f∈gZ.aq,P f:=λf hf=>by
 simp only[gZ,List.mem_singleton] at hf;subst hf;exact h
theorem okR:fV gZ:=by
 refine⟨VQ (Xd ?_ ?_ ?_ ?_),VQ (by simp[CK,pR]),VQ (by simp[CK,pR])⟩<;>exact⟨by decide,by decide,by decide,by decide,by simp[i65,i106,i11],by simp[i65,i106,i11]⟩
theorem ai5:dB gZ:=by
 refine⟨?_,?_,?_,?_,?_,?_,?_,?_,?_,?_⟩<;>simp[gZ,CK,pR,Dn,qp,lO,nx,Dp,qq,oF,ko,xV,xW,pn,iS,dc,lp,pg,J7,sR,Em,jJ,kE]
theorem Nx{n:Int}(h:n=2\/n=3):iH (i65 n):=by
 have h1:iO 65≠[]:=by decide
 have h2:aP 65=11:=by decide
 refine⟨h1,?_,?_,?_,by simp[i65], .inl rfl⟩<;>simp[i65,h2,um]<;>omega
theorem YR:∀x∈pR.L,iH x:=by
 refine Xd (Nx (.inl rfl)) (Nx (.inr rfl)) ?_ ?_
 · have h1:iO 106≠[]:=by decide
   have h2:aP 106=0:=by decide
   refine⟨h1,?_,?_,?_,by simp[i106], .inl rfl⟩<;>simp[i106,h2,um]
 · have h1:iO 11≠[]:=by decide
   have h2:aP 11=0:=by decide
   refine⟨h1,?_,?_,?_,by simp[i11], .inl rfl⟩<;>simp[i11,h2,um]
theorem Iz:cN gZ CK=some [0,1,2,1]:=by
 have e1:aP 65=11:=by decide
 have e2:aP 106=0:=by decide
 have t1:aQ 65=([],[127]):=by decide
 have t2:aQ 106=([127,127],[127]):=by decide
 have p1:∀(n:Int) (l:List UInt8) (labs:List (List UInt8)),fZ (bR gZ CK) (i65 n) (l,False) labs=some (l++[127],False):=λn l labs=>by
  simp[fZ,i65,e1,t1,p7,dD,zm,bG]
 have p2:∀(labs:List (List UInt8)),fZ (bR gZ CK) i106 ([127,127],False) labs=some ([127],False):=λlabs=>by
  simp[fZ,i106,e2,t2,p7,dD,zm,bG,jq]
 have hs:(bJ gZ CK.fW).R=[127]:=rfl;unfold cN;rw[hs];have hc:oG (eT.mk False False [127] ([127],False)):=⟨([],False),by simp[dD,zm,jq],rfl⟩
 have s1:∀(n:Int) (l:List UInt8),cR (·.Code) eH (fZ (bR gZ CK)) (i65 n) [] (eT.mk False False [127] (l,False))=some [eT.mk False False [127] (l++[127],False)]:=λn l=>by
  unfold cR
  show(if (65:Int)=11 then _ else if (65:Int)=5 then _ else if aN 65 then _ else _)=_
  rw[if_neg (by decide),if_neg (by decide),if_neg (by unfold aN;decide),p1];rfl
 have s2:cR (·.Code) eH (fZ (bR gZ CK)) i106 [] (eT.mk False False [127] ([127,127],False))=some [eT.mk False False [127] ([127],False)]:=by
  unfold cR;rw[if_neg (show ¬i106.Code=11 by decide),if_neg (show ¬i106.Code=5 by decide),if_neg (show ¬aN i106.Code by unfold aN;decide),p2];rfl
 have s3:cR (·.Code) eH (fZ (bR gZ CK)) i11 [] (eT.mk False False [127] ([127],False))=some []:=by
  unfold cR;rw[if_pos (show i11.Code=11 by decide),if_pos ⟨hc,λh=>h.elim⟩];rfl
 show kG _ _ _ [i65 2,i65 3,i106,i11] _=_
 simp only[kG,List.getLast?_singleton,List.dropLast_singleton,s1,Option.bind_some,List.nil_append,List.cons_append,s2,s3,List.getLast?_nil,Option.map_some,su,List.map_cons,List.map_nil,List.length_nil,List.length_cons,List.sum_cons,List.sum_nil,Nat.add_zero,Nat.zero_add]
theorem Tb:dK gZ:=by
 refine⟨ai5,VQ ⟨⟨YR,by simp[CK,pR],by simp[CK,pR],?_,?_⟩,_,Iz⟩⟩
 · show fQ [65,65,106,11] []
   simp[fQ,aN]
 · have h1:aP 65=11:=by decide
   have h2:aP 11=0:=by decide
   have h4:aP 106=0:=by decide
   have h3:gy 0<=1:=by unfold gy;simp
   have h5:kI 2<=1:=by unfold kI;simp
   have h6:kI 3<=1:=by unfold kI;simp
   simp[Kq,CK,pR,iI,i65,i106,i11,nR,h1,h2,h4];omega
end Go.Hl
end
section
namespace Go.Hl
open Go.RowKit Classical
section
variable {K:gA} {Z:Nat}
theorem uy{m:jD}{c:bM}(h:qK K c){F f:Nat}(hf:f<K.dN+K.own.length)(args:List Nat):fC K (bx K F f args (m,c)):=by
 unfold bx
 dsimp only
 exact ja (λ_=> .end_ (s:=(_,_)) h _) λ_=>qK.enter (s:=(({m with fuel:=F,over:=false},{c with stk:=c.stk++ej (K.sig f).P args}):aY)) (h.of rfl) hf
theorem eJ(F f:Nat)(args:List Nat)(s:aY):(bx K F f args s).1.fuel=F/\(bx K F f args s).1.bB=s.1.bB:=by
 unfold bx
 dsimp only
 split
 · exact⟨rfl,rfl⟩
 · have h:=vK (K:=K) (a:=F) (b:=s.1.bB) f (({s.1 with fuel:=F,over:=false},{s.2 with stk:=s.2.stk++ej (K.sig f).P args}):aY)
   have e:iN F s.1.bB (({s.1 with fuel:=F,over:=false},{s.2 with stk:=s.2.stk++ej (K.sig f).P args}):aY)=({s.1 with fuel:=F,over:=false},{s.2 with stk:=s.2.stk++ej (K.sig f).P args}):=rfl;rw[e] at h;rw[h];exact⟨rfl,rfl⟩
theorem VR{s:aY}{x:aj}(hx:(K.made (bK s.2).fn).body.L[(bK s.2).pl]?=some x)(hc:¬s.1.fuel<cS x s.2):eR K Z s=yg K Z x (bK s.2).pl ({s.1 with fuel:=s.1.fuel-cS x s.2,bB:=s.1.bB+cS x s.2},yf (((bK s.2).pl:Int)+1) s.2):=by
 unfold eR;simp only[hx];rw[if_neg hc]
theorem YS{s:aY}{x:aj}{at_:Nat}(h:x.Code=65\/x.Code=106\/x.Code=11):yg K Z x at_ s=(cH K x s).getD s:=by
 have h1:bn K x at_ s=none:=by rcases h with h|h|h<;>simp[bn,h]
 have h2:bz K x s.2=none:=by rcases h with h|h|h<;>simp[bz,h]
 have h3:ey K Z x s=none:=by
  refine if_neg λhf=>?_;have h4:=BM hf;rcases h with h|h|h<;>rw[h] at h4<;>revert h4<;>decide
 unfold yg;simp only[h1,h2,h3]
end
section
variable {Z:Nat}
noncomputable abbrev K0:gA:=runK gZ 10 2
def sy(m:jD)(fu sp:Nat)(l:List Nat)(p:Nat)(c:bM):aY:=({m with fuel:=fu,bB:=sp,over:=false},{c with stk:=l,dS:=[⟨0,p,0⟩]})
theorem IA:K0.made 0=uS gZ CK:=Fe rfl
theorem aM0(m:jD)(fu sp:Nat)(l:List Nat){p:Nat}(hp:p<10)(c:bM):yf ((p:Int)+1) (sy m fu sp l p c).2=(sy m fu sp l (p+1) c).2:=by
 unfold yf;rw[if_neg (λh=>by rcases h with h|h|h;exact(List.cons_ne_nil _ _ h);omega;omega)]
 show({c with stk:=l,dS:=[⟨0,((p:Int)+1).toNat,0⟩]}:bM)=_
 rw[show((p:Int)+1).toNat=p+1 by omega];rfl
theorem Ff{m:jD}{fu sp:Nat}{l:List Nat}{p:Nat}{c:bM}{x:aj}(hx:pR.L[p]?=some x)(hp:p<10)(h:x.Code=65\/x.Code=106\/x.Code=11):eR K0 Z (sy m (fu+1) sp l p c)=(cH K0 x (sy m fu (sp+1) l (p+1) c)).getD (sy m fu (sp+1) l (p+1) c):=by
 have hc:cS x (sy m (fu+1) sp l p c).2=1:=if_neg (by omega);have e:=VR (K:=K0) (Z:=Z) (s:=sy m (fu+1) sp l p c) (x:=x) (by show(K0.made 0).body.L[p]?=_;rw[IA];exact hx) (by rw[hc];show ¬fu+1<1;omega);rw[e,hc,YS h];have e2:(({(sy m (fu+1) sp l p c).1 with fuel:=(sy m (fu+1) sp l p c).1.fuel-1,bB:=(sy m (fu+1) sp l p c).1.bB+1},yf (((bK (sy m (fu+1) sp l p c).2).pl:Int)+1) (sy m (fu+1) sp l p c).2):aY)=sy m fu (sp+1) l (p+1) c:=Prod.ext rfl (aM0 m (fu+1) sp l hp c);rw[e2]
theorem Tc{m:jD}{fu sp:Nat}{l:List Nat}{p:Nat}{c:bM}(v:Nat)(h:l.length<10):(((sy m fu sp l p c).1,fk K0 [v] (sy m fu sp l p c).2):aY)=sy m fu sp (l++[v]) p c:=by
 unfold fk;rw[if_pos (by show 1<=10-l.length;omega)];rfl
theorem ai6{m:jD}{fu sp:Nat}{l:List Nat}{p:Nat}{c:bM}(n:Int)(h:l.length<10):cH K0 (i65 n) (sy m fu sp l p c)=some (sy m fu sp (l++[n.toNat]) p c):=by
 unfold cH;rw[if_pos (show(dY (i65 n).Code).Form=11 from show(dY 65).Form=11 by decide)];exact congrArg some (Tc n.toNat h)
theorem ai7{m:jD}{fu sp:Nat}{p:Nat}{c:bM}:cH K0 i106 (sy m fu sp [2,3] p c)=some (sy m fu sp [5] p c):=by
 unfold cH;rw[if_neg (show ¬(dY i106.Code).Form=11 by decide),if_neg (show ¬i106.Code=167 by decide),if_neg (show ¬0<(aD i106.Code).1 by simp[aD,i106])];unfold cG;rw[show mz i106.Code=some (0,0,32) by decide];exact congrArg some (Tc (l:=[]) 5 (by decide))
theorem aM1{s:aY}:cH K0 i11 s=none:=by
 unfold cH;rw[if_neg (show ¬(dY i11.Code).Form=11 by decide),if_neg (show ¬i11.Code=167 by decide),if_neg (show ¬0<(aD i11.Code).1 by simp[aD,i11])];unfold cG;rw[show mz i11.Code=none by decide]
theorem VS(m:jD)(c:bM)(hs:c.stk=[])(hf:c.dS=[]):∃pk,bx K0 4 0 [] (m,c)=sy {m with ku:=pk} 4 m.bB [] 0 c:=by
 obtain⟨l,fr,gl,tb,ms,co,mm⟩:=c;simp only at hs hf;subst hs hf;have hn:y5 gZ CK ((cN gZ CK).getD [])=3:=by rw[Iz];decide
 have hp:ej (K0.sig 0).P []=[]:=by cases (K0.sig 0).P<;>rfl
 have hz:(K0.sig 0).P.length=0:=rfl;have hm:(K0.made 0).nK=3:=by rw[IA];exact hn
 have hl:(K0.made 0).locals=0:=by rw[IA];rfl
 refine⟨(max m.ku.1 ((([]:List Nat).length:Int)-((0:Nat):Int)+3),max m.ku.2 ((([]:List l8).length:Int)+1)),?_⟩;unfold bx
 dsimp only
 rw[hp];rw[if_neg (show ¬K0.cells-([]:List Nat).length<([]:List Nat).length by decide)];unfold iL;rw[if_neg (show ¬0<K0.dN by decide)]
 dsimp only
 have h0:0-K0.dN=0:=rfl;rw[h0,hm,hl,hz];rw[if_neg (by rintro(h|h|h)<;>revert h<;>decide)];rfl
theorem VT{m:jD}{sp:Nat}{c:bM}:(eR K0 Z (sy m 0 sp [5] 4 c)).1.over=true/\(eR K0 Z (sy m 0 sp [5] 4 c)).1.out=⟨0,[5],0,0,0⟩/\(eR K0 Z (sy m 0 sp [5] 4 c)).1.fuel=0:=by
 have e:eR K0 Z (sy m 0 sp [5] 4 c)=js K0 (sy m 0 sp [5] 4 c):=by
  unfold eR;have h:(K0.made (bK (sy m 0 sp [5] 4 c).2).fn).body.L[(bK (sy m 0 sp [5] 4 c).2).pl]?=none:=by show(K0.made 0).body.L[4]?=_;rw[IA];rfl
  simp only[h]
 have hn:(K0.made 0).sig.R.length=1:=by rw[IA];rfl
 have e2:js K0 (sy m 0 sp [5] 4 c)=oL ⟨0,[5],0,0,0⟩ ((sy m 0 sp [5] 4 c).1,{c with stk:=[],dS:=[]}):=by
  unfold js;have h:(bK (sy m 0 sp [5] 4 c).2).fn=0:=rfl;simp only[h,hn];rfl
 rw[e,e2];exact⟨rfl,rfl,rfl⟩
theorem xp{K:gA}{n:Nat}{s:aY}(h:s.1.over=false):bl K Z (n+1) s=bl K Z n (eR K Z s):=by
 show(if s.1.over=true then _ else _)=_
 rw[if_neg (by rw[h];exact Bool.false_ne_true)]
theorem Ny(m:jD)(c:bM)(hs:c.stk=[])(hf:c.dS=[]):(bl K0 Z 5 (bx K0 4 0 [] (m,c))).1.over=true/\(bl K0 Z 5 (bx K0 4 0 [] (m,c))).1.out=⟨0,[5],0,0,0⟩/\(bl K0 Z 5 (bx K0 4 0 [] (m,c))).1.fuel=0:=by
 obtain⟨pk,h⟩:=VS m c hs hf;have h1:=Ff (Z:=Z) (m:={m with ku:=pk}) (fu:=3) (sp:=m.bB) (l:=[]) (p:=0) (c:=c) (x:=i65 2) rfl (by decide) (.inl rfl);have h2:=Ff (Z:=Z) (m:={m with ku:=pk}) (fu:=2) (sp:=m.bB+1) (l:=[2]) (p:=1) (c:=c) (x:=i65 3) rfl (by decide) (.inl rfl);have h3:=Ff (Z:=Z) (m:={m with ku:=pk}) (fu:=1) (sp:=m.bB+1+1) (l:=[2,3]) (p:=2) (c:=c) (x:=i106) rfl (by decide) (.inr (.inl rfl));have h4:=Ff (Z:=Z) (m:={m with ku:=pk}) (fu:=0) (sp:=m.bB+1+1+1) (l:=[5]) (p:=3) (c:=c) (x:=i11) rfl (by decide) (.inr (.inr rfl));rw[ai6 2 (by decide)] at h1;rw[ai6 3 (by decide)] at h2;rw[ai7] at h3;rw[aM1] at h4
 have e:bl K0 Z 5 (bx K0 4 0 [] (m,c))=eR K0 Z (sy {m with ku:=pk} 0 (m.bB+1+1+1+1) [5] 4 c):=by
  rw[h,xp rfl,h1]
  show bl K0 Z 4 (sy _ 3 _ [2] 1 c)=_
  rw[xp rfl,h2]
  show bl K0 Z 3 (sy _ 2 _ [2,3] 2 c)=_
  rw[xp rfl,h3]
  show bl K0 Z 2 (sy _ 1 _ [5] 3 c)=_
  rw[xp rfl,h4]
  show bl K0 Z 1 (sy _ 0 _ [5] 4 c)=_
  rw[xp rfl];rfl
 rw[e];exact VT
end
section
variable {K:gA} {Z:Nat}
noncomputable def BO(K:gA)(s:jD)(f:Int)(n:Nat):Int:=
 if s.fault≠0\/s.waits=true then 12 else if (eY K.m f).isSome=false then 2 else if n≠((eY K.m f).getD ⟨[],[]⟩).P.length then 1 else 0
theorem VU{K:gA}(hk:T3 K){s:jD}{f:Int}{n:Nat}(h:BO K s f n=0):∃g:Nat,f=(g:Int)/\g<K.dN+K.own.length/\n=(K.sig g).P.length:=by
 unfold BO at h
 split at h
 · cases h
 · split at h
   · cases h
   · rename_i h2
     split at h
     · cases h
     · rename_i h3
       have h4:=(hk.si f).1 (by cases hs:(eY K.m f).isSome with|true=>rfl|false=>exact absurd hs h2);have e:f=((f.toNat:Nat):Int):=by omega
       refine⟨f.toNat,e,by omega,?_⟩;have h5:=hk.sg f.toNat;rw[<-e] at h5;rw[<-h5];exact Classical.not_not.1 h3
theorem Pr{K:gA}{s:jD}{f:Int}{n:Nat}(h:s.fault≠0\/s.waits=true):BO K s f n=12:=if_pos h
structure mL(s:aY):Prop where
 over:s.1.over=false
 fault:s.1.fault=0
 waits:s.1.waits=false
structure YT(s:aY):Prop where
 over:s.1.over=true
 done:s.1.out.kind=0\/s.1.out.kind=1->s.1.fault=0/\s.1.waits=false/\s.2.stk=[]/\s.2.dS=[]
 host:s.1.out.kind=2->s.1.fault=0/\s.1.waits=true
 fail:s.1.out.kind=3->s.1.fault≠0/\s.1.waits=false
 most:s.1.out.kind<=3
def Cc(s:aY):Prop:=mL s\/YT s
theorem tK{p:Prop}[Decidable p]{x y:aY}(h1:p->Cc x)(h2:¬p->Cc y):Cc (if p then x else y):=by
 by_cases hp:p
 · rw[if_pos hp];exact h1 hp
 · rw[if_neg hp];exact h2 hp
theorem gD{p:Prop}[Decidable p]{x:aY}{u:Option aY}(h1:p->Cc x)(h2:∀y,u=some y->Cc y):∀y,(if p then some x else u)=some y->Cc y:=by
 intro y hy
 split at hy
 · rename_i hp;cases hy;exact h1 hp
 · exact h2 y hy
theorem mL.on{s:aY}(h:mL s)(c:bM):Cc (s.1,c):= .inl ⟨h.over,h.fault,h.waits⟩
theorem mL.IB{s:aY}(h:mL s)(c:bM){o:Bd}(ho:o.kind=0\/o.kind=1):Cc (oL o (s.1,c)):=by
 have h3:¬o.kind=3:=by omega
 have e:oL o (s.1,c)=({s.1 with out:=o,over:=true},{c with stk:=[],dS:=[]}):=by unfold oL;rw[if_neg h3,if_pos ho]
 rw[e];exact .inr ⟨rfl,λ_=>⟨h.fault,h.waits,rfl,rfl⟩,λk=>absurd (show o.kind=2 from k) (by omega),λk=>absurd k h3,show o.kind<=3 by omega⟩
theorem mL.fail{s:aY}(h:mL s)(c:bM){e:Nat}(he:e≠0):Cc (nL e (s.1,c)):=
 .inr ⟨rfl,λk=>(by rcases k with k|k<;>cases k),λk=>(by cases k),λ_=>⟨he,h.waits⟩,Nat.le_refl 3⟩
theorem mL.host{s:aY}(h:mL s)(c:bM)(l:List Nat)(f:Nat):Cc (oL ⟨2,l,0,f,0⟩ ({s.1 with waits:=true,host:=f},c)):=
 .inr ⟨rfl,λk=>(by rcases k with k|k<;>cases k),λ_=>⟨h.fault,rfl⟩,λk=>(by cases k),show 2<=3 by decide⟩
theorem mL.enter{s:aY}(h:mL s)(c:bM)(f:Nat):Cc (iL K f (s.1,c)):=
 tK (λ_=>h.host _ _ _) λ_=>tK (λ_=>h.fail _ (by decide)) λ_=> .inl ⟨h.over,h.fault,h.waits⟩
theorem mL.leave{s:aY}(h:mL s):Cc (js K s):=tK (λ_=>h.IB _ (.inl rfl)) λ_=>h.on _
theorem mL.SR{s:aY}(h:mL s)(x:aj):Cc (nC K x s):=tK (λ_=>h.IB _ (.inr rfl)) λ_=>tK (λ_=>h.enter _ _) λ_=>h.IB _ (.inr rfl)
theorem mL.control{s:aY}(h:mL s)(x:aj)(at_:Nat):∀y,bn K x at_ s=some y->Cc y:=
 gD (λ_=>h.IB _ (.inr rfl)) (gD (λ_=>h.on _) (gD (λ_=>h.on _) (gD (λ_=>h.on _) (gD (λ_=>h.on _) (gD (λ_=>h.on _) (gD (λ_=>h.leave) (gD (λ_=>h.enter _ _) (gD (λ_=>h.SR x) (λ_ h=>by cases h)))))))))
theorem mL.VV{s:aY}(h:mL s)(x:aj):∀y,cG K x s=some y->Cc y:=by
 unfold cG;cases mz x.Code with
 |none=>intro y hy;cases hy
 |some g=>exact gD (λ_=>h.on _) (gD (λ_=>h.on _) (gD (λ_=>h.IB _ (.inr rfl)) (λy hy=>by cases hy;exact h.on _)))
theorem mL.number{s:aY}(h:mL s)(x:aj):∀y,cH K x s=some y->Cc y:=gD (λ_=>h.on _) (gD (λ_=>h.on _) (gD (λ_=>h.on _) (h.VV x)))
theorem mL.do_{s:aY}(h:mL s){x:aj}(hx:qd x)(at_:Nat):Cc (yg K Z x at_ s):=by
 unfold yg;cases hc:bn K x at_ s with
 |some s'=>exact h.control x at_ s' hc
 | none=>
  cases hv:bz K x s.2 with
  |some c=>exact h.on c
  |none=>
   have hm:ey K Z x s=none:=if_neg hx.2;simp only[hm];cases hu:cH K x s with
   |some s'=>exact h.number x s' hu
   |none=>exact .inl h
theorem mL.step{s:aY}(h:mL s)(hx:∀i x,x∈(K.made i).body.L->qd x):Cc (eR K Z s):=by
 unfold eR;simp only;cases hl:(K.made (bK s.2).fn).body.L[(bK s.2).pl]? with
 |none=>exact h.leave
 |some x=>exact tK (λ_=>h.fail (e:=10) s.2 (by decide)) λ_=>mL.do_ (s:=(({s.1 with fuel:=s.1.fuel-cS x s.2,bB:=s.1.bB+cS x s.2},yf (((bK s.2).pl:Int)+1) s.2):aY)) ⟨h.over,h.fault,h.waits⟩ (hx _ x (List.mem_of_getElem? hl)) _
theorem yu(hx:∀i x,x∈(K.made i).body.L->qd x):∀(n:Nat) {s:aY},Cc s->Cc (bl K Z n s)
 |0,s,h=>h
 |n+1,s,h=>by
  show Cc (if s.1.over=true then s else _)
  refine tK (λ_=>h) λho=>yu hx n ?_;rcases h with h|h
  · exact h.step hx
  · exact absurd h.over ho
theorem DY{m:jD}{c:bM}(h1:m.fault=0)(h2:m.waits=false)(F f:Nat)(args:List Nat):Cc (bx K F f args (m,c)):=by
 have h:mL (({m with fuel:=F,over:=false},c):aY):=⟨rfl,h1,h2⟩;unfold bx
 dsimp only
 exact tK (λ_=>h.fail c (by decide)) λ_=>h.enter _ f
theorem Pt(m:jD)(c:bM)(F f:Nat)(args:List Nat):ec (bx K F f args (m,c)).2=ec c:=by
 unfold bx
 dsimp only
 exact tF (nT _ _) ((yo _ _).trans rfl)
theorem Pu(k:Pe)(m:jD)(c:bM)(F f:Nat)(args:List Nat):uF (bx K F f args (m,c)) (bx K F f args ((qJ k (m,c)).1,c)):=by
 unfold bx
 dsimp only
 exact kX (uF.end_ (s:=(({m with fuel:=F,over:=false},c):aY)) k _) (yp (s:=(({m with fuel:=F,over:=false},c):aY)) k rfl f _)
theorem IC{a b:jD}{F:Nat}(e:({a with fuel:=F,over:=false}:jD)={b with fuel:=F,over:=false})(c:bM)(f:Nat)(args:List Nat):bx K F f args (a,c)=bx K F f args (b,c):=by
 unfold bx
 dsimp only
 rw[e]
theorem again{m:jD}{c:bM}{F f n:Nat}{args:List Nat}(hx:∀i x,x∈(K.made i).body.L->qd x)(h1:m.fault=0)(h2:m.waits=false)(hs:c.stk=[])(hf:c.dS=[]){r r':aY}
    (hr:bl K Z n (bx K F f args (m,c))=r) (hr':bl K Z n (bx K F f args ({r.1 with over:=false},c))=r') (ho:r.1.over=true) (hk:r.1.out.kind=0\/r.1.out.kind=1):
    r.2=c/\r'.1.over=true/\r'.1.out=r.1.out/\r'.1.fuel=r.1.fuel:=by
  have hq:YT r:=by
    rcases yu (Z:=Z) hx n (DY (K:=K) (c:=c) h1 h2 F f args) with h|h
    · rw[hr] at h;rw[h.over] at ho;cases ho
    · rw[hr] at h;exact h
  obtain⟨q1,q2,q3,q4⟩:=hq.done hk;have hg:ec r.2=ec c:=by rw[<-hr];exact(DV hx n _).trans (Pt m c F f args)
  have hc:r.2=c:=by
    obtain⟨a1,a2,a3,a4,a5,a6,a7⟩:=c;generalize r.2=d at*;obtain⟨b1,b2,b3,b4,b5,b6,b7⟩:=d;simp only[ec,Prod.mk.injEq] at hg hs hf q3 q4;obtain⟨rfl,rfl,rfl,rfl,rfl⟩:=hg;subst hs;subst hf;subst q3;subst q4;rfl
  have hE:=DX (K:=K) (Z:=Z) n (Pu (K:=K) ⟨r.1.bB,r.1.ku,r.1.out,r.1.host⟩ m c F f args);rw[IC (a:=(qJ ⟨r.1.bB,r.1.ku,r.1.out,r.1.host⟩ (m,c)).1) (b:={r.1 with over:=false}) (by show jD.mk F r.1.bB m.waits r.1.host m.fault r.1.ku r.1.out false=jD.mk F r.1.bB r.1.waits r.1.host r.1.fault r.1.ku r.1.out false;rw[h1,h2,q1,q2]) c f args,hr,hr'] at hE;obtain⟨k,e,hO⟩:=hE;subst e;exact⟨hc,ho,hO ho,rfl⟩
theorem ended{m:jD}{c:bM}{F f n:Nat}{args:List Nat}(hx:∀i x,x∈(K.made i).body.L->qd x)(h1:m.fault=0)(h2:m.waits=false)(ho:(bl K Z n (bx K F f args (m,c))).1.over=true):YT (bl K Z n (bx K F f args (m,c))):=by
 rcases yu (Z:=Z) hx n (DY (K:=K) (c:=c) h1 h2 F f args) with h|h
 · rw[h.over] at ho;cases ho
 · exact h
theorem Pv{m:jD}{c:bM}{F f n n':Nat}{args:List Nat}(hx:∀i x,x∈(K.made i).body.L->qd x)(h1:m.fault=0)(h2:m.waits=false)(h0:m.bB=0)(hs:c.stk=[])(hf:c.dS=[]){r r':aY}
    (hr:bl K Z n (bx K F f args (m,c))=r) (ho:r.1.over=true) (hk:r.1.out.kind=0\/r.1.out.kind=1) (hr':bl K Z n' (bx K F f args ({r.1 with over:=false},r.2))=r') (ho':r'.1.over=true):
    r'.1.out=r.1.out/\r'.1.fuel=r.1.fuel/\r'.1.bB=2*r.1.bB:=by
  have a:=again (Z:=Z) (n:=n) hx h1 h2 hs hf hr rfl ho hk;obtain⟨a1,a2,a3,a4⟩:=a;rw[a1] at hr';have hu:=tE (K:=K) (Z:=Z) (k:=n') a2 (by rw[hr'];exact ho');rw[hr'] at hu;rw[hu] at a3 a4;have s1:=oR (K:=K) (Z:=Z) n (bx K F f args (m,c));have s2:=oR (K:=K) (Z:=Z) n' (bx K F f args ({r.1 with over:=false},c));rw[hr,(eJ F f args (m,c)).1,(eJ F f args (m,c)).2] at s1;rw[hr',(eJ F f args _).1,(eJ F f args _).2] at s2;refine⟨a3,a4,?_⟩;have e1:((({r.1 with over:=false}:jD),c):aY).1.bB=r.1.bB:=rfl;rw[e1] at s2;have e2:((m,c):aY).1.bB=m.bB:=rfl;rw[e2] at s1;omega
end
end Go.Hl
end
section
namespace Go.Proofs.YtppekopemdoclaaGreatDoor
open Go.Hl Go.RowKit
variable {A:qE} {K:gA} {c:bM} {E:Sw}
theorem tL{s:jD}{f:Int}{args:List Nat}(ak:¬E.cl)(aR:BO K s f args.length≠0):bu Wo 9 [ax E.b 0,af .i64 f,ai 1 ia args] [dZ A K E s,aX A K c] (γ:=Unit) (λ_=>True) (λ_=>[dZ A K E s,aX A K c]) (λ_=>aZ [aC (kr ⟨0,[],0,0,0⟩),af .i64 (BO K s f args.length)]):=by
 refine In 77 Tryz.func9 λ_ _ _=>?_;refine Z3 ?_;refine .n (au FZ.out) rfl λb6 _=>?_;refine Z7 ?_;refine .n ((hH [_] [1,2,0] (h:=tC ak)).same (λ_ _=>aF.perm (Perm.idx [2,0,1] rfl rfl)) (λ_ _=>aa.refl _)) rfl λ_ _=>?_;refine Z8 ?_;refine Cd (λc0=>?_) λc0=>?_
 ·
  have hE:BO K s f args.length=12:=if_pos (by rcases c0 with h|h;exact .inl h;exact .inr (Bk.1 h));refine Z2 ?_;refine .p ((aL FP.out FZ.out .nil rfl).le ((by exact show aa _ (aC (kr ⟨0,[],0,0,0⟩)) from aa.agg (.cons (.refl _) (.cons (aE _ _) (.cons (.refl _) (.cons (.refl _) (.cons (.refl _) .nil)))))))) rfl ?_;refine Z6 ?_;refine Post.bh rfl rfl (()) (by trivial) (aF.cZ [1,2] [0] rfl rfl) rfl (.cons (.ra (i:=0) FA.out FC.out rfl rfl rfl rfl) ?_ (.cons (.rt rfl) ?_ .nil))
  · exact aa.refl _
  exact aa.int (by rw[hE])
 have hs:¬(s.fault≠0\/s.waits=true):=λh=>c0 (by rcases h with h|h;exact .inl h;exact .inr (Bk.2 h));have YU:BO K s f args.length=(if (eY K.m f).isSome=false then 2 else if args.length≠((eY K.m f).getD ⟨[],[]⟩).P.length then 1 else 0):=if_neg hs;refine Z8 ?_;refine .n ((hH [_,_] [2,0,1] (h:=mH)).same (λ_ _=>aF.perm (Perm.idx [1,2,0] rfl rfl)) (λ_ _=>aa.refl _)) rfl λ_ _=>?_;refine Z1 ?_;refine .p (cA (h:=gM (m:=K.m) (f:=f))) rfl ?_;refine Z3 ?_;refine .n (au FZ.out) rfl λb8 _=>?_;refine Z4 ?_;refine .share (t:=8) (i:=0) rfl rfl ?_;refine Z9 ?_;refine Cd (λc1=>?_) λc1=>?_
 ·
  have hE:BO K s f args.length=2:=YU.trans (if_pos (by simpa using c1));refine Z2 ?_;refine .p ((aL FP.out FZ.out .nil rfl).le ((by exact show aa _ (aC (kr ⟨0,[],0,0,0⟩)) from aa.agg (.cons (.refl _) (.cons (aE _ _) (.cons (.refl _) (.cons (.refl _) (.cons (.refl _) .nil)))))))) rfl ?_;refine Z7 ?_;refine Post.bh rfl rfl (()) (by trivial) (aF.cZ [1,2] [0] rfl rfl) rfl (.cons (.ra (i:=0) FA.out FC.out rfl rfl rfl rfl) ?_ (.cons (.rt rfl) ?_ .nil))
  · exact aa.refl _
  exact aa.int (by rw[hE])
 have hE1:BO K s f args.length=(if args.length≠((eY K.m f).getD ⟨[],[]⟩).P.length then 1 else 0):=YU.trans (if_neg (by simpa using c1));refine dh ?_;refine Cd (λc2=>?_) λc2=>?_
 ·
  have hE:BO K s f args.length=1:=hE1.trans (if_pos (by omega));refine Z2 ?_;refine .p ((aL FP.out FZ.out .nil rfl).le ((by exact show aa _ (aC (kr ⟨0,[],0,0,0⟩)) from aa.agg (.cons (.refl _) (.cons (aE _ _) (.cons (.refl _) (.cons (.refl _) (.cons (.refl _) .nil)))))))) rfl ?_;refine Z7 ?_;refine Post.bh rfl rfl (()) (by trivial) (aF.cZ [1,2] [0] rfl rfl) rfl (.cons (.ra (i:=0) FA.out FC.out rfl rfl rfl rfl) ?_ (.cons (.rt rfl) ?_ .nil))
  · exact aa.refl _
  exact aa.int (by rw[hE])
 exact absurd (hE1.trans (if_neg (by omega))) aR
variable {m:jD}
theorem ID:bu Wo 12 [ax E.b 0] [dZ A K E m] (γ:=Unit) (λ_=>True) (λ_=>[dZ A K E m]) (λ_=>av (m.waits=true)):=by
 refine In 11 Tryz.func12 λ_ _ _=>?_;refine Z8 ?_;refine .p (C5 FU.out (.t rfl)) rfl ?_;refine cC ?_;refine br ?_;exact aa.prop (by simp[Bk])
theorem tM:bu Wo 11 [ax E.b 0] [dZ A K E m] (γ:=Unit) (λ_=>True) (λ_=>[dZ A K E m]) (λ_=>nV m.bB):=by
 refine In 9 Tryz.func11 λ_ _ _=>?_;refine Z9 ?_;refine .p (dy FU.out (.t rfl)) rfl ?_;refine Z2 ?_;refine CT λc0=>?_;refine Z7 ?_;refine .n ((cE (h:=Ic (b:=E.b) (off:=11) (cs:=KH A K E m) rfl)).same (λ_ _=>aF.refl _) (λ_ _=>aa.refl _)) rfl λ_ _=>?_;refine Z4 ?_;refine br ?_;exact .z
variable {b:Nat}
theorem Pw{off:Nat}{cs:List VP}{n m:Int}(ak:cs[off]?=some (fP n)):bu Wo 157 [ax b off,fP m] [az b cs] (γ:=Unit) (λ_=>True) (λ_=>[az b (cs.set off (fP (IntKind.i64.wrap (n+m))))]) (λ_=>fP (IntKind.i64.wrap (n+m))):=by
 refine In 10 Tryz.func157 λ_ _ _=>?_;refine dh ?_;refine .n (N3 (i:=0) Tryz.func219 (by kernel_rfl) (by kernel_rfl) (by kernel_rfl) (by kernel_rfl) (.t rfl) (.t rfl) rfl ak) rfl λ_ _=>?_;refine Z4 ?_;refine br ?_;exact .z
variable {F:Nat} {bs:List Nat}
theorem y7(ak:oe A K)(aR:T3 K)(bO:bs.length=K.own.length)(dO:(bK c).fn<K.own.length):bu Wo 111 [ax b 0] [dZ A K (mE b F bs) m,aX A K c] (γ:=Unit) (λ_=>True) (λ_=>[dZ A K (mE b F bs) (js K (m,c)).1,aX A K (js K (m,c)).2]) (λ_=>aZ []):=by
 refine In 53 Tryz.func111 λ_ _ _=>?_;obtain⟨JD,hz⟩:=Bl bO dO;obtain⟨Ua,hml⟩:=aR.ow _ dO;have hres:=Ua.res;have hL:js K (m,c)=(if (uE ((K.made (bK c).fn).sig.R.length:Int) ((bK c).bs:Int) {c with dS:=c.dS.dropLast}).dS=[] then oL ⟨0,(jP (K.made (bK c).fn).sig.R.length (uE ((K.made (bK c).fn).sig.R.length:Int) ((bK c).bs:Int) {c with dS:=c.dS.dropLast})).1,0,0,0⟩ (m,(jP (K.made (bK c).fn).sig.R.length (uE ((K.made (bK c).fn).sig.R.length:Int) ((bK c).bs:Int) {c with dS:=c.dS.dropLast})).2) else(m,uE ((K.made (bK c).fn).sig.R.length:Int) ((bK c).bs:Int) {c with dS:=c.dS.dropLast})):=rfl;generalize hu:uE ((K.made (bK c).fn).sig.R.length:Int) ((bK c).bs:Int) {c with dS:=c.dS.dropLast}=u at hL;refine Z6 ?_;refine .n (hH [_] [1,0] (h:=O8 ak)) rfl λqI h12=>?_;refine Z3 ?_;refine .n (au FZ.out) rfl λb2 _=>?_;refine Z5 ?_;refine .bL 6 6 FM.out (by kernel_rfl) (k:= ?_);refine Z7 ?_;refine .p (cI ((bK c).fn) (h:=hz)) rfl ?_;refine Z8 ?_;refine .bL 7 1 FM.out (by kernel_rfl) (k:= ?_);refine Z8 ?_;refine .n (hH [_,_] [1,0,2] (h:=DR ak)) rfl λYK YL=>?_;refine Z2 ?_;rw[hu];refine Z6 ?_;refine .n ((cE (h:=y4)).same (λ_ _=>aF.refl _) (λ_ _=>aa.refl _)) rfl λ_ _=>?_;refine Z3 ?_;refine Cd (λc0=>?_) λc0=>?_
 ·
  have YV:u.dS=[]:=List.eq_nil_of_length_eq_zero (by omega);rw[hL,if_pos YV];refine Z7 ?_;refine .n (cE (h:=vI ak (k:=(K.made (bK c).fn).sig.R.length))) rfl λQD h46=>?_;refine cC ?_;refine .p ((aL FP.out FZ.out (.cons (.c _) (.cons (.t rfl) .nil)) rfl).le ((by exact show aa _ (aC (kr ⟨0,(jP (K.made (bK c).fn).sig.R.length u).1,0,0,0⟩)) from aa.refl _))) rfl ?_;refine .n (hH [_] [2,0,1] (h:=uw (E:=mE b F bs) (o:=⟨0,(jP (K.made (bK c).fn).sig.R.length u).1,0,0,0⟩) ak)) rfl λFg Ub=>?_;refine Z1 ?_;refine Post.cY rfl (()) (by trivial) (aF.cZ [0,1] [2] rfl rfl) rfl
 have YV:¬u.dS=[]:=λe=>c0 (by rw[e];rfl);rw[hL,if_neg YV];refine Z1 ?_;refine Post.cY rfl (()) (by trivial) (aF.cZ [2,0] [1] rfl rfl) rfl
variable {i:Int} {k:Int}
theorem CL{I:tq}{J:List (dX×qa)}{C0 S0:List (Int×Int)}{ov:VP}:bu Wo 222 [ax I.b 0,af .i64 i,af .i64 k] (tu I J C0 S0 ov) (γ:=Unit) (λ_=>True) (λ_=>tu I J C0 S0 ov) (λ_=>aZ [aC (lV ((er J (i,k)).getD ⟨0,0,0⟩)),fS]):=by
 refine In 26 Tryz.func222 λ_ _ _=>?_;refine Z2 ?_;refine .n (au FZ.out) rfl λb6 _=>?_;refine Z7 ?_;refine .p (dy FU.out (.t rfl)) rfl ?_;refine Z2 ?_;refine CT λc0=>?_;refine dh ?_;refine .p (Gx (i:=2) (a:=(i,k)) Tryz.Ro Tryz.underlying244 (λw=>JU (T:=304) (v:= .agg #[.int .i64 0, .int .i64 0, .int .i64 0]) (by kernel_rfl) w) (.t rfl) (.le (.t rfl) (show aa (aC [af .i64 i,af .i64 k]) _ from Ao (a:=(i,k)))) rfl) rfl ?_;refine Z1 ?_;refine .p ((dW (.t rfl) rfl).le (Vw)) rfl ?_;refine Z1 ?_;refine .n (au FZ.out) rfl λb8 _=>?_;refine kL ?_;refine Post.bh rfl rfl (()) (by trivial) (aF.cZ [2,3,4,5] [0,1] rfl rfl) rfl (.cons (.ra (i:=1) FA.out FC.out rfl rfl rfl rfl) ?_ (.cons (.rt rfl) ?_ .nil))
 · exact aa.refl _
 exact aa.any
theorem Fh{I:tq}{J:List (dX×qa)}{C0 S0:List (Int×Int)}{ov:VP}:bu Wo 221 [ax I.b 0,af .i64 i] (tu I J C0 S0 ov) (γ:=Unit) (λ_=>True) (λ_=>tu I J C0 S0 ov) (λ_=>aZ [af .i64 ((er S0 i).getD 0),fS]):=by
 refine In 21 Tryz.func221 λ_ _ _=>?_;refine cC ?_;refine .p (dy FU.out (.t rfl)) rfl ?_;refine Z2 ?_;refine CT λc0=>?_;refine Z9 ?_;refine .p (Gx (i:=3) Tryz.Dj Tryz.underlying143 (λw=>JU Tryz.zv3 w) (.t rfl) (.t rfl) rfl) rfl ?_;refine Z1 ?_;refine .p ((dW (.t rfl) rfl).le (Sy)) rfl ?_;refine ij ?_;refine eA ?_ ?_
 · exact aa.refl _
 exact aa.any
theorem Fi{d:iK}:bu Wo 222 [ax b 0,af .i64 i,af .i64 k] [m6 b d] (γ:=Unit) (λ_=>True) (λ_=>[m6 b d]) (λ_=>aZ [aC (lV (d.jump i k)),fS]):= .side λI C ov h=>by subst h;exact CL
theorem IE{d:iK}:bu Wo 221 [ax b 0,af .i64 i] [m6 b d] (γ:=Unit) (λ_=>True) (λ_=>[m6 b d]) (λ_=>aZ [af .i64 (d.skip i),fS]):= .side λI C ov h=>by subst h;exact Fh
theorem vO{at_:Nat}(ak:oe A K)(aR:T3 K)(bO:bs.length=K.own.length)(dO:(bK c).fn<K.own.length):bu Wo 161 [ax b 0,nV at_,af .i64 k] [dZ A K (mE b F bs) m,aX A K c,eU (K.own.zip bs)] (γ:=Unit) (λ_=>True) (λ_=>[dZ A K (mE b F bs) m,aX A K (xg K at_ k c),eU (K.own.zip bs)]) (λ_=>aZ []):=by
 refine In 50 Tryz.func161 λ_ _ _=>?_;obtain⟨JD,hz⟩:=Bl bO dO;obtain⟨Ua,hml⟩:=aR.ow _ dO;refine .r9 λr7=>?_;have hft:=r7.top;have hbs:=hft.bs;have hjh:=Ua.jh (at_:Int) k;have hlo:((K.made (bK c).fn),JD).1.locals<=2000:=Ua.loc;refine Z3 ?_;refine .n ((cE (h:=uv (E:=mE b F bs) ak)).same (λ_ _=>aF.refl _) (λ_ _=>aa.refl _)) rfl λ_ _=>?_;refine .n (au FZ.out) rfl λb6 _=>?_;refine Z4 ?_;refine .bt [(0,0),(1,0),(2,0),(3,1),(4,0),(5,1),(6,0),(7,0),(8,4)] 9 1 FM.out (by kernel_rfl) (k:= ?_);refine Z6 ?_;refine .p rfl (λ_=>aW (j:=(bK c).fn) FU.out FC.out rfl (.t rfl) (.t rfl) rfl hz) ?_;refine Z1 ?_;refine .a rfl (au FZ.out) (λ_ _=>aF.drop (aF.refl _)) λb7 _=>?_;refine .fin ?_;refine Z4 ?_;refine .own (aF.perm (Perm.idx [4,0,1,2,3] rfl rfl)) ?_;refine .own (DJ hz) ?_;refine Z5 ?_;refine .n ((cE (h:=Fi (d:=(K.made (bK c).fn)) (i:=(at_:Int)) (k:=k))).same (λ_ _=>aF.refl _) (λ_ _=>aa.refl _)) rfl λ_ _=>?_;refine Z3 ?_;refine .n (au FZ.out) rfl λb8 _=>?_;refine Z4 ?_;refine .own (aF.perm (Perm.idx [1,2,0,3,4,5,6] rfl rfl)) ?_;refine .own (HF hz) ?_;refine Z1 ?_;refine .bL 14 1 FM.out (by kernel_rfl) (k:= ?_);refine Z3 ?_;refine .p (kK (i:=4) FA.out (.t rfl) rfl rfl) ?_;refine dh ?_;refine .n (hH [_,_,_,_,_] [5,0,1,2,3,4] (h:=DR ak)) rfl λTd Te=>?_;refine Z2 ?_;refine .bL 6 1 FM.out (by kernel_rfl) (k:= ?_);refine Z3 ?_;refine .p (kK (i:=5) FA.out (.t rfl) rfl rfl) ?_;refine Z3 ?_;refine .n (cE (h:=BB ak)) rfl λVB ZR=>?_;refine Z1 ?_;refine Post.cY rfl (()) (by trivial) (aF.cZ [5,0,1] [2,3,4] rfl rfl) rfl
theorem BQ{at_:Nat}(ak:oe A K)(aR:T3 K)(bO:bs.length=K.own.length)(dO:(bK c).fn<K.own.length):bu Wo 160 [ax b 0,nV at_] [dZ A K (mE b F bs) m,aX A K c,eU (K.own.zip bs)] (γ:=Unit) (λ_=>True) (λ_=>[dZ A K (mE b F bs) m,aX A K (Bf K at_ c),eU (K.own.zip bs)]) (λ_=>aZ []):=by
 refine In 27 Tryz.func160 λ_ _ _=>?_;obtain⟨JD,hz⟩:=Bl bO dO;obtain⟨Ua,hml⟩:=aR.ow _ dO;refine Z1 ?_;refine .own (aF.perm (Perm.idx [2,0,1] rfl rfl)) ?_;refine .own (DJ hz) ?_;refine .bt [(0,0),(1,0),(2,0),(3,1),(4,0),(10,0),(5,4),(6,0),(7,0),(8,0),(9,0),(11,4),(12,0),(13,0),(14,0),(15,0)] 16 1 FM.out (by kernel_rfl) (k:= ?_);refine Z6 ?_;refine .a rfl ((hH [_,_] [2,3,0,1] (h:=uv (E:=mE b F bs) ak)).same (λ_ _=>aF.perm (Perm.idx [2,3,0,1] rfl rfl)) (λ_ _=>aa.refl _)) (λ_ _=>aF.refl _) λ_ _=>?_;refine .p rfl (λ_=>wD (T:=193) (i:=0) (off:=0) (by kernel_rfl) Tryz.ag3.out (.t rfl) rfl) ?_;refine .p rfl (λ_=>aW (j:=(bK c).fn) FU.out FC.out rfl (.t rfl) (.t rfl) rfl hz) ?_;refine Z2 ?_;refine .a rfl ((cE (h:=IE (d:=(K.made (bK c).fn)) (i:=(at_:Int)))).same (λ_ _=>aF.refl _) (λ_ _=>aa.refl _)) (λ_ _=>aF.refl _) λ_ _=>?_;refine Z4 ?_;refine .fin ?_;refine Z3 ?_;refine .own (HF hz) ?_;refine Z6 ?_;refine .n (hH [_,_] [2,0,1] (h:=BB ak)) rfl λIF Px=>?_;refine Z1 ?_;refine Post.cY rfl (()) (by trivial) (aF.cZ [2,0,1] [] rfl rfl) rfl
theorem tN{n:Nat}(ak:oe A K)(aR:n<=4294967295):bu Wo 164 [ax b 0,wV n] [dZ A K (mE b F bs) m,aX A K c] (γ:=Unit) (λ_=>True) (λ_=>[dZ A K (mE b F bs) m,aX A K c]) (λ_=>nV ((bK c).bs+n)):=by
 refine In 11 Tryz.func164 λ_ _ _=>?_;refine .r9 λr7=>?_;have hbs:=r7.top.bs;refine Z8 ?_;refine .n ((cE (h:=uv (E:=mE b F bs) ak)).same (λ_ _=>aF.refl _) (λ_ _=>aa.refl _)) rfl λ_ _=>?_;refine .p (wD (T:=193) (i:=2) (off:=2) (by kernel_rfl) Tryz.ag3.out (.t rfl) rfl) rfl ?_;refine Z7 ?_;refine br ?_;exact aa.int (by omega)
end Go.Proofs.YtppekopemdoclaaGreatDoor
end
