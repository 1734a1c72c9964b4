/-
  What the statement's proof leans on, several texts in one (packed by a program).
-/
import Derived.Test.YtpfobikpggmleaaGreatDoorSBN
import Derived.Lib.TrailingZeros
set_option linter.all false
set_option maxRecDepth 1000000
set_option maxHeartbeats 4000000
section
namespace Go.Hl
open Go.Lib
abbrev uV(a:Nat):VP:=ag .u64 (a:Int)
def Xp(n A:Nat):Int:=if A<2^(n-1) then(A:Int) else(A:Int)-2^n
def TQ(n:Nat)(signed:Prop)[Decidable signed](A B:Nat):Prop:=if signed then Xp n A<Xp n B else A<B
instance {n:Nat} {s:Prop} [Decidable s] {A B:Nat}:Decidable (TQ n s A B):=by unfold TQ;infer_instance
def yp(a:Nat):Nat:=if a=0 then 0 else Nat.log2 a+1
variable {a:Nat}
theorem Xq{n:Nat}(h:a<2^n):yp a≤n:=by
 unfold yp;split
 · omega
 · exact(Nat.log2_lt (by assumption)).2 h
theorem UY{n:Nat}(h0:2^n≤a)(h1:a<2^(n+1)):yp a=n+1:=by
 have ha:a≠0:=by have:=Nat.two_pow_pos n;omega
 unfold yp;rw[if_neg ha]
 have h2:=(Nat.log2_lt ha).2 h1;have h3:=(Nat.le_log2 ha).2 h0;omega
theorem IP{k:Nat}(h:2^k≤a):yp a=yp (a/2^k)+k:=by
 have hp:=Nat.two_pow_pos k;have hd:0<a/2^k:=Nat.div_pos h hp;have hne:a/2^k≠0:=by omega
 have h1:yp (a/2^k)=Nat.log2 (a/2^k)+1:=by unfold yp;rw[if_neg hne]
 have h2:2^Nat.log2 (a/2^k)≤a/2^k:=Nat.log2_self_le hne;have h3:a/2^k<2^(Nat.log2 (a/2^k)+1):=Nat.lt_log2_self
 have h4:2^(Nat.log2 (a/2^k)+k)≤a:=by
  rw[Nat.pow_add];exact Nat.le_trans (Nat.mul_le_mul_right _ h2) (Nat.div_mul_le_self _ _)
 have h5:a<2^(Nat.log2 (a/2^k)+k+1):=by
  have:a<2^(Nat.log2 (a/2^k)+1)*2^k:=by
   rw[←Nat.div_lt_iff_lt_mul hp];exact h3
  rw[←Nat.pow_add] at this
  rwa [show Nat.log2 (a/2^k)+k+1=Nat.log2 (a/2^k)+1+k by omega]
 rw[UY h4 h5,h1];omega
end Go.Hl
end
section
namespace Go.Hl
def b1(d:Nat):Nat:=(d/2 &&& 85)+(d &&& 85)
def b2(d:Nat):Nat:=(d/4 &&& 51)+(d &&& 51)
def b3(d:Nat):Nat:=(d/16+d) &&& 15
def Pz:List UInt8:=(List.range 256).map fun i=>UInt8.ofNat (yp i)
theorem Xr:∀i,i<256→(UInt8.ofNat (yp i)).toNat=yp i:=by decide+kernel
theorem RV{x:Nat}(h:x<256):Pz[x]?=some (UInt8.ofNat (yp x)):=by simp[Pz,h]
end Go.Hl
end
section
namespace Go.Proofs.YtpfobikpggmleaaGreatDoor
open Go.Hl Go.RowKit
theorem IQ{a:Nat}(az:a<18446744073709551616):cQ Tryz.prog 185 [uV a] (iV (yp a:Int)):=by
 refine In 25 Tryz.func185 fun _ _ _=>?_;refine Z5 ?_;refine .cut (σ:=Nat×Nat) (fun _=>[]) (fun g=>[(0,uV g.1),(2,iV (g.2:Int))]) (fun g=>yp a=yp g.1+g.2∧g.1<4294967296∧g.2≤32) ?_ ?_
 ·
  refine Z6 ?_;refine Cd (fun c0=>?_) fun c0=>?_
  ·
   refine Z3 ?_;refine .p (zl (s:=32) (.t rfl) (.c _) (by decide)) rfl ?_;refine Z6 ?_;refine .meet (a/2^32,32) ⟨IP (by omega),by omega,by omega⟩ rfl (.get rfl (af.refl _) (.get rfl (af.refl _) (.keep 6 rfl rfl)))
  refine Z1 ?_;refine .meet (a,0) ⟨rfl,by omega,by omega⟩ rfl (.get rfl (af.refl _) (.get rfl (af.refl _) (.keep 2 rfl rfl)))
 intro ⟨x,n⟩ ⟨h1,h2,h3⟩;simp only at h1 h2 h3 ⊢;refine .cut (σ:=Nat×Nat) (fun _=>[]) (fun g=>[(0,uV g.1),(2,iV (g.2:Int))]) (fun g=>yp a=yp g.1+g.2∧g.1<65536∧g.2≤48) ?_ ?_
 ·
  refine Z6 ?_;refine Cd (fun c1=>?_) fun c1=>?_
  ·
   refine Z3 ?_;refine .p (zl (s:=16) (.t rfl) (.c _) (by decide)) rfl ?_;refine Z8 ?_;refine .meet (x/2^16,n+16) ⟨by have:=IP (a:=x) (k:=16) (by omega);simp only;omega,by omega,by omega⟩ rfl (.get rfl (af.refl _) (.get rfl (af.refl _) (.keep 8 rfl rfl)))
  refine Z1 ?_;refine .meet (x,n) ⟨h1,by omega,by omega⟩ rfl (.get rfl (af.refl _) (.get rfl (af.refl _) (.keep 2 rfl rfl)))
 intro ⟨y,m⟩ ⟨k1,k2,k3⟩;simp only at k1 k2 k3 ⊢;refine .cut (σ:=Nat×Nat) (fun _=>[]) (fun g=>[(0,uV g.1),(2,iV (g.2:Int))]) (fun g=>yp a=yp g.1+g.2∧g.1<256∧g.2≤56) ?_ ?_
 ·
  refine Z6 ?_;refine Cd (fun c2=>?_) fun c2=>?_
  ·
   refine Z3 ?_;refine .p (zl (s:=8) (.t rfl) (.c _) (by decide)) rfl ?_;refine Z8 ?_;refine .meet (y/2^8,m+8) ⟨by have:=IP (a:=y) (k:=8) (by omega);simp only;omega,by omega,by omega⟩ rfl (.get rfl (af.refl _) (.get rfl (af.refl _) (.keep 8 rfl rfl)))
  refine Z1 ?_;refine .meet (y,m) ⟨k1,by omega,by omega⟩ rfl (.get rfl (af.refl _) (.get rfl (af.refl _) (.keep 2 rfl rfl)))
 intro ⟨z,q⟩ ⟨j1,j2,j3⟩;simp only at j1 j2 j3 ⊢;have hbz:=Xq (a:=z) (n:=8) (by omega);refine Z5 ?_;refine .p (jO FU.out (.s Pz (by decide+kernel) (by decide)) (.t rfl) rfl (RV j2)) rfl ?_;refine .p (qd FU.out FU.out (.t rfl) (cn (by rw[Xr z j2];omega) (by rw[Xr z j2];omega))) rfl ?_;refine .p (eU (.t rfl) (.t rfl) (cn (by rw[Xr z j2];omega) (by rw[Xr z j2];omega))) rfl ?_;refine Z4 ?_;refine bB ?_;exact af.int (by rw[Xr z j2];omega)
variable {a:ej} {n:Nat} {at_:Nat}
theorem FI{X:ox}(az:dy X a)(hp1:at_+n≤X.size):cv Tryz.prog 116 [aD X.ab 0,aU (at_:Int),aU (n:Int)] (pP X a) (γ:=Unit) (fun _=>True) (fun _=>pP X a) (fun _=>bE [jM X.db at_ n,aU 0]):=by
 refine In 47 Tryz.func116 fun _ _ _=>?_;have hk2:=az.most;refine cc ?_;refine .p (cm FU.out (.t rfl)) rfl ?_;refine Z3 ?_;refine CT fun c0=>?_;refine jb ?_;refine .g (bU.gF rfl rfl rfl rfl (fun hg=>nD rfl Tryz.underlying59 (.when (.t rfl) hg))) rfl rfl ?_;refine Z8 ?_;refine .g (bU.gF rfl rfl rfl rfl (fun hg=>nD rfl Tryz.underlying59 (.when (.t rfl) hg))) rfl rfl ?_;refine Z7 ?_;refine CT fun c1=>?_;refine jP ?_;refine .p ((tW (l:=at_) (h:=at_+n) FU.out FC.out (.t rfl) (.t rfl) (.t rfl) rfl rfl (by omega) (by omega)).le (af.of_eq (show jM _ _ _=jM X.db at_ n by rw[Nat.zero_add,Nat.add_sub_cancel_left]))) rfl ?_;refine Z5 ?_;refine j4 ?_ ?_
 · exact .z
 exact .z
variable {w:Nat}
theorem zZ{X:ox}(az:dy X a)(hp1:at_+w≤X.size)(hp2:w=8∨w=4):cv Tryz.prog 93 [aD X.ab 0,ag .i64 ((at_:Int)),ag .i64 ((w:Int))] (pP X a) (γ:=Unit) (fun _=>True) (fun _=>pP X a) (fun _=>bE [jM X.db at_ w,ag .i64 0]):=by
 refine In 32 Tryz.func93 fun _ _ _=>?_;refine cD ?_;refine .p (Br FU.out (.t rfl)) rfl ?_;refine BE ?_;refine CT fun c0=>?_;refine Z7 ?_;refine .n (cE (h:=FI (at_:=at_) (n:=w) az hp1)) rfl fun g29 h29=>?_;refine Z7 ?_;refine j4 ?_ ?_
 · exact .z
 exact .z
variable {v:Nat}
theorem B6{X:ox}(az:dy X a)(hp1:at_+w≤X.size)(hp2:w=8∨w=4)(fI:v<18446744073709551616):cv Tryz.prog 47 [aD X.ab 0,ag .i64 ((at_:Int)),ag .i64 ((w:Int)),ag .u64 (v:Int)] (pP X a) (γ:=Unit) (fun _=>True) (fun _=>pP X (a.put at_ (xK v w))) (fun _=>ag .i64 0):=by
 refine In 34 Tryz.func47 fun _ _ _=>?_;have Iy:=az.len;have hk2:=az.most;refine cD ?_;refine .n (cE (h:=zZ (at_:=at_) (w:=w) az hp1 hp2)) rfl fun g16 UW=>?_;refine cc ?_;refine .p (nD rfl Tryz.underlying59 (.t rfl)) rfl ?_;refine Z4 ?_;refine .aS (σ:=Nat) (fun k=>pP X (a.put at_ (xK v k))) (fun k=>[(21,ag .i64 (k:Int))]) (fun k=>k≤w) (fun k=>w-k) 0 (Nat.zero_le _) (by show pP X a=pP X (a.put at_ []);unfold ej.put;simp only[List.append_nil,List.length_nil,Nat.add_zero,List.take_append_drop]) ?_ ?_
 · exact(.get rfl (af.refl _) (.refl _ _))
 rintro k hk;refine Z6 ?_;refine Cd (fun c0=>?_) fun c0=>?_
 ·
  refine AY ?_;refine .p (zl (s:=8*k) (.t rfl) (.le (.t rfl) (af.int (by omega))) (by show 8*k≤64;omega)) rfl ?_;refine .p ((fk FU.out FU.out (.t rfl)).le (af.int (Pn v k))) rfl ?_;refine .p (zo (j:=k) FU.out FC.out (.t rfl) (.t rfl) rfl (by omega)) rfl ?_;refine .s (OJ (i:=1) (Ru v k) FC.out (.t rfl) (.t rfl) rfl (by unfold ej.put;simp only[List.length_append,nc,List.length_take,List.length_drop];omega)) ?_;refine Z7 ?_;refine .round (k+1) (by omega) (by omega) (by unfold ej.put;simp only[nc,←RQ (v:=v) (show at_+w≤a.bytes.length by omega) (show k<w by omega)];rfl) ?_;exact(.get rfl (af.int (by(show(k:Int)+1=((k+1:Nat):Int);omega))) ((.keep 14 rfl rfl)))
 have hke:k=w:=by omega
 subst hke;refine dN ?_;refine bB ?_;exact .z
theorem B7{X:ox}(az:dy X a)(hp1:at_+w≤X.size)(hp2:w=8∨w=4):cv Tryz.prog 75 [aD X.ab 0,ag .i64 ((at_:Int)),ag .i64 ((w:Int))] (pP X a) (γ:=Unit) (fun _=>True) (fun _=>pP X a) (fun _=>bE [ag .u64 (ry ((a.bytes.drop at_).take w):Int),ag .i64 0]):=by
 refine In 39 Tryz.func75 fun _ _ _=>?_;have Iy:=az.len;have hk2:=az.most;refine cc ?_;refine .n (cE (h:=zZ (at_:=at_) (w:=w) az hp1 hp2)) rfl fun g17 KO=>?_;refine jb ?_;refine CT fun c0=>?_;refine cc ?_;refine .p (nD rfl Tryz.underlying59 (.t rfl)) rfl ?_;refine Z4 ?_;refine .aS (σ:=Nat) (fun _=>pP X a) (fun k=>[(10,ag .u64 (ry ((a.bytes.drop at_).take k):Int)),(25,ag .i64 (k:Int))]) (fun k=>k≤w) (fun k=>w-k) 0 (Nat.zero_le _) rfl ?_ ?_
 · exact(.get rfl (af.refl _) (.get rfl (af.refl _) (.refl _ _)))
 rintro k hk;refine Z6 ?_;refine Cd (fun c1=>?_) fun c1=>?_
 ·
  obtain⟨c,hc⟩:=ah (xs:=a.bytes) (k:=at_+k) (by omega);have hcs:=UQ hc (by omega);have qf:=c.toNat_lt;refine Z7 ?_;refine .p (zo (j:=k) FU.out FC.out (.t rfl) (.t rfl) rfl (by omega)) rfl ?_;refine .p (Rt (i:=1) FA.out (.t rfl) rfl hc) rfl ?_;refine cD ?_;refine .p (LC (.t rfl) (.le (.t rfl) (af.int (show _=((8*k:Nat):Int) by omega))) (by omega)) rfl ?_;refine .p ((OD hcs.2 (by omega) (.t rfl) (.t rfl)).le (af.int (by rw[hcs.1]))) rfl ?_;refine Z8 ?_;refine .round (k+1) (by omega) (by omega) rfl ?_;exact(.get rfl (af.refl _) (.get rfl (af.int (by(show(k:Int)+1=((k+1:Nat):Int);omega))) ((.keep 18 rfl rfl))))
 have hke:k=w:=by omega
 subst hke;refine jP ?_;refine j4 ?_ ?_
 · exact .z
 exact .z
theorem IS{X:ox}:cv Tryz.prog 14 [aD X.ab 0] [wS X a] (γ:=Unit) (fun _=>True) (fun _=>[wS X a]) (fun _=>ag .i64 (a.live:Int)):=by
 refine In 9 Tryz.func14 fun _ _ _=>?_;refine Z9 ?_;refine .p (cm FU.out (.t rfl)) rfl ?_;refine Z2 ?_;refine CT fun c0=>?_;refine dN ?_;refine bB ?_;exact .z
theorem z1{X:ox}{at_:Int}{c:Nat}(az:aq a.taken at_=some (c:Int))(hp1:c≤a.live)(hp2:a.live≤4194304)(fI:n≤1000000):cv Tryz.prog 57 [aD X.ab 0,ag .i64 at_] (um X a n) (γ:=Unit) (fun _=>True) (fun _=>um X (nL a at_ c) (n+1)) (fun _=>ag .i64 0):=by
 refine In 47 Tryz.func57 fun _ _ _=>?_;refine Z9 ?_;refine .p (cm FU.out (.t rfl)) rfl ?_;refine Z2 ?_;refine CT fun c0=>?_;refine Z9 ?_;refine .p (nC (i:=2) Tryz.UE Tryz.underlying91 (fun w=>lN Tryz.UF w) (.t rfl) (.t rfl) rfl) rfl ?_;refine Z1 ?_;refine .p ((lJ (.t rfl) rfl).le (af.of_eq (by rw[az];try rfl))) rfl ?_;refine dN ?_;refine Cd (fun c1=>?_) fun c1=>?_
 · exact(c1 (by rw[az];rfl)).elim
 refine Z9 ?_;refine .s (EK (i:=2) rfl Tryz.UE Tryz.underlying91 (.t rfl) (.t rfl) rfl) ?_;refine Z3 ?_;refine .own (aB.perm (Perm.idx [3,0,1,2] rfl rfl)) ?_;refine .UR (c:Int) fun G hG=>?_;have V7:=Mk (c:=(c:Int)) hG;refine .CK (FR:=[It X.gm G,wS X a]) [(0,0),(1,0),(2,0),(3,1),(4,0),(5,0),(6,0),(7,0),(8,1),(9,0),(10,1),(11,0),(12,0),(13,4)] 14 1 FM.out (by kernel_rfl) ?_;refine Z3 ?_;refine .o rfl (fK (i:=1) FA.out (.t rfl) rfl rfl) (aB.dF [0,3] [1,2,4,5] rfl rfl) ?_;refine Z4 ?_;refine .o rfl (fK (i:=1) FA.out (.t rfl) rfl rfl) (aB.dF [0,3] [1,2,4,5] rfl rfl) ?_;refine Z1 ?_;refine .o rfl ((wD (i:=0) Tryz.UG Tryz.underlying92 (fun w=>lN Tryz.Xa w) (.t rfl) (.t rfl) rfl).le (Pp)) (aB.dF [0,3] [1,2,4,5] rfl rfl) ?_;refine Z1 ?_;refine .p rfl (fun _=>bI (enc:=dc) [at_] FU.out FC.out rfl FZ.out rfl (.cons (.t rfl) .nil) rfl rfl rfl rfl rfl) ?_;refine .a rfl (aF (i:=1) FU.out FU.out FC.out rfl FZ.out rfl FY.out (.t rfl) (.t rfl) rfl (by simp only[List.length_cons,List.length_nil];omega) (by simp only[List.length_cons,List.length_nil];omega)) (fun _ _=>(aB.dF [0,3] [1,2,4,5] rfl rfl)) fun QT _=>?_;refine .fin ?_;refine .s (EJ (i:=0) _ Tryz.UG Tryz.underlying92 (.t rfl) (.t rfl) (.t rfl) rfl) ?_;refine Z2 ?_;refine .own (Ml (xs:=(vo G (c:Int)).2++[at_]) hG rfl (by simp only[List.length_append,List.length_cons,List.length_nil];omega)) ?_;refine Z7 ?_;refine .p ((jZ (.t rfl) (.t rfl) ee).le (af.int (show _=((a.live-c:Nat):Int) by omega))) rfl ?_;refine cc ?_;refine Post.aR rfl (()) (by trivial) (aB.dF [1,2,3,0] [] rfl rfl) (.rt rfl) ?_;exact .z
theorem IT{t:UInt8}(az:eP t=32∨eP t=64)(hp1:v<18446744073709551616):cQ Tryz.prog 48 [ag .i64 (eP t),ag .u64 (v:Int)] (ag .u64 (pQ t v:Int)):=by
 refine In 11 Tryz.func48 fun _ _ _=>?_;refine dN ?_;refine Cd (fun c0=>?_) fun c0=>?_
 ·
  have UZ:eP t=32:=by omega
  have hcu:pQ t v=v%4294967296:=by unfold pQ;rw[UZ];rfl
  refine Z3 ?_;refine .p (fk FU.out FU.out (.t rfl)) rfl ?_;refine .p (fk FU.out FU.out (.t rfl)) rfl ?_;refine Z5 ?_;refine bB ?_;exact af.int (by rw[hcu];show((v:Int)%4294967296)%18446744073709551616=_;omega)
 have U0:eP t=64:=by omega
 have hcu:pQ t v=v:=by unfold pQ;rw[U0];exact Nat.mod_eq_of_lt hp1
 refine Z9 ?_;refine bB ?_;exact af.int (by rw[hcu])
variable {sb:Nat} {pb:Nat} {num:Int} {t:Int} {mv:VP} {g:Int}
theorem ij{X:ox}{m:aT}:cv Tryz.prog 50 [aD sb 0] [lB sb X pb m num g t mv] (γ:=Unit) (fun _=>True) (fun _=>[lB sb X pb m num g t mv]) (fun _=>ak False):=by
 refine In 11 Tryz.func50 fun _ _ _=>?_;refine Z8 ?_;refine .p (cm FU.out (.t rfl)) rfl ?_;refine cD ?_;refine bB ?_;exact af.prop (by simp)
theorem xP{X:ox}{m:aT}:cv Tryz.prog 46 [aD sb 0] [lB sb X pb m num g t mv] (γ:=Unit) (fun _=>True) (fun _=>[lB sb X pb m num g t mv]) (fun _=>ag .i64 (m.an.length:Int)):=by
 refine In 11 Tryz.func46 fun _ _ _=>?_;refine Ek ?_;refine bB ?_;exact .z
theorem z6{X:ox}{m:aT}{i:Int}(az:0≤i)(hp1:i<(m.an.length:Int)):cv Tryz.prog 45 [aD sb 0,ag .i64 i,RP 46 sb] [lB sb X pb m num g t mv] (γ:=Unit) (fun _=>True) (fun _=>[lB sb X pb m num g t mv]) (fun _=>ag .i64 0):=by
 refine In 19 Tryz.func45 fun _ _ _=>?_;refine cD ?_;refine .n ((cE (h:=ij)).same (fun _ _=>aB.refl _) (fun _ _=>af.refl _)) rfl fun _ _=>?_;refine Z3 ?_;refine CT fun c0=>?_;refine Z7 ?_;refine .Uu rfl rfl rfl rfl (fun hg=>((vn (rest:=[]) (xP (sb:=sb) (X:=X) (pb:=pb) (m:=m) (num:=num) (g:=g) (t:=t) (mv:=mv)) FB.out (.when (.t rfl) hg) (Perm.idx [0] rfl rfl)).same (fun _ _=>aB.refl _) (fun _ _=>af.refl _)).same (fun _ _=>aB.refl _) (fun _ _=>af.refl _)) rfl rfl ?_;refine Z5 ?_;refine CT fun c1=>?_;refine Z9 ?_;refine bB ?_;exact .z
variable {i:Nat}
theorem B8{X:ox}{m:aT}{g:Nat}{z:gy}(az:m.an[i]?=some z)(hp1:dy X a)(hp2:g+8*(i+1)≤X.size)(fI:v<18446744073709551616)(oe:eP z.Ty=32∨eP z.Ty=64)(yH:m.an.length≤60000):cv Tryz.prog 22 [aD sb 0,ag .i64 (i:Int),ag .u64 (v:Int)] (lB sb X pb m num (g:Int) t mv::pP X a) (γ:=Unit) (fun _=>True) (fun _=>lB sb X pb m num (g:Int) t mv::pP X (a.put (g+8*i) (xK (pQ z.Ty v) 8))) (fun _=>ag .i64 0):=by
 refine In 42 Tryz.func22 fun _ _ _=>?_;have p7:=(List.getElem?_eq_some_iff.1 az).1;have hmo:=hp1.most;refine cc ?_;refine .p (vm (.t rfl)) rfl ?_;refine .n ((cE (h:=z6 (sb:=sb) (X:=X) (pb:=pb) (m:=m) (num:=num) (g:=(g:Int)) (t:=t) (mv:=mv) (i:=(i:Int)) (by omega) (by omega))).same (fun _ _=>aB.refl _) (fun _ _=>af.refl _)) rfl fun _ _=>?_;refine Z9 ?_;refine CT fun c0=>?_;refine Z3 ?_;refine .br 25 2 FM.out (by kernel_rfl) (k:= ?_);refine cD ?_;refine .p ((eU (.t rfl) (.t rfl) ee).le (af.int (show _=((g+8*i:Nat):Int) by omega))) ?_;refine Z8 ?_;refine .p (cI i (h:=az)) ?_;refine Z2 ?_;refine .p (cA (h:=s7)) ?_;refine Z1 ?_;refine .p (cA (h:=IT oe fI)) ?_;refine Z1 ?_;refine .n (kL [_] [1,2,0] (h:=B6 (at_:=g+8*i) (w:=8) hp1 (by omega) (.inl rfl) (Dd fI))) rfl fun g41 h41=>?_;refine Z4 ?_;refine Post.aR rfl (()) (by trivial) (aB.dF [2,0,1] [] rfl rfl) (.rt rfl) ?_;exact .z
theorem wW(az:n≤4194304):cv Tryz.prog 9 [aU (n:Int)] [] (γ:=ox) (fun X=>X.size=n) (fun X=>eW X ⟨List.replicate n 0,0,0,[]⟩) (fun X=>bE [aD X.ab 0,aU 0]):=by
 refine In 16 Tryz.func9 fun _ _ _=>?_;refine EX ?_;refine CT fun c0=>?_;refine Z5 ?_;refine .n (Bz FU.out FC.out FY.out FZ.out (.t rfl) rfl (by omega)) rfl fun V8 _=>?_;refine .n (uY (Value.int .i64) aU) rfl fun m12 _=>?_;refine .n (uY (Value.int .i64) (fun _:Unit=>qg)) rfl fun m13 _=>?_;refine Z1 ?_;refine .n (bW (.t rfl)) rfl fun b15 _=>?_;refine Z5 ?_;refine Post.bk rfl rfl (⟨b15,V8,m12,m13,n⟩) (by rfl) (aB.dF [0,3,2,1] [] rfl rfl) rfl (.cons (.rt rfl) ?_ (.cons (.rt rfl) ?_ .nil))
 · exact .z
 exact .z
theorem Mp{cap:Int}(az:16≤n)(hp1:n≤1024)(hp2:0≤cap)(fI:cap≤4096):cv Tryz.prog 16 [aU (n:Int),aU cap] [] (γ:=Nat) (fun _=>True) (fun sb=>[dB sb ⟨n,cap,0,0,-1,false,[]⟩]) (fun sb=>bE [aD sb 0,aU 0]):=by
 refine In 25 Tryz.func16 fun _ _ _=>?_;refine V2 ?_;refine CT fun c0=>?_;refine Z6 ?_;refine .n (uY (Value.int .i64) (fun b=>jM b 0 n)) rfl fun m22 _=>?_;refine Z1 ?_;refine .n (bW (.t rfl)) rfl fun b24 _=>?_;refine Z5 ?_;refine Post.bk rfl rfl (b24) (by trivial) (fu (E:=[]) (mb:=m22) (sz:=n) (s:=⟨n,cap,0,0,-1,false,[]⟩) rfl rfl|>aB.trans (aB.trans (aB.cons _ (aB.cons _ eC)) (aB.cells (.cons (.refl _) (.cons (.refl _) (.cons (.refl _) (.cons (.refl _) (.cons (.refl _) (.cons (.refl _) (.cons lP .nil)))))))))) rfl (.cons (.rt rfl) ?_ (.cons (.rt rfl) ?_ .nil))
 · exact .z
 exact .z
variable {s:jU}
theorem uv:cv Tryz.prog 42 [aD sb 0] [dB sb s] (γ:=Unit) (fun _=>True) (fun _=>[dB sb s]) (fun _=>aU (s.size:Int)):=by
 refine In 9 Tryz.func42 fun _ _ _=>?_;refine .E0 fun mb E hE=>?_;refine Z9 ?_;refine .p (cm FU.out (.t rfl)) rfl ?_;refine Z2 ?_;refine CT fun c0=>?_;refine dN ?_;refine Post.aR rfl (()) (by trivial) (fu hE rfl) (.rt rfl) ?_;exact .z
variable {l:List UInt8}
theorem xQ{b off len:Nat}(az:off+len≤l.length)(hp1:l.length≤4194304):cv Tryz.prog 175 [jM b off len] [iM b l] (γ:=Unit) (fun _=>True) (fun _=>[iM b l]) (fun _=>ai 1 aj ((l.drop off).take len)):=by
 refine In 8 Tryz.func175 fun _ _ _=>?_;have hlen:((l.drop off).take len).length≤4194304:=by(simp;omega)
 refine Z9 ?_;refine .p (xG FU.out (.t rfl) (.c _)) rfl ?_;refine Z2 ?_;refine CT fun c0=>?_;refine Z4 ?_;refine .p (kM FU.out FC.out rfl FZ.out rfl) rfl ?_;refine Z1 ?_;refine .p (HO FU.out FU.out FC.out rfl FZ.out rfl FY.out (.t rfl) (EM.buf (i:=0) (.t rfl) rfl (by omega)).src (by omega)) rfl ?_;refine Z4 ?_;refine bB ?_;exact .z
theorem xR{X:ox}(az:dy X a)(hp1:at_+n≤X.size):cv Tryz.prog 142 [aD X.ab 0,aU (at_:Int),aU (n:Int)] (eW X a) (γ:=Unit) (fun _=>True) (fun _=>eW X a) (fun _=>bE [ai 1 aj (a.get at_ n),aU 0]):=by
 refine In 20 Tryz.func142 fun _ _ _=>?_;have hk2:=az.most;have Iy:=az.len
 refine cc ?_;refine .n (cE (h:=apart_spec (by assumption) (by omega))) rfl fun g14 yI=>?_;refine cD ?_;refine .n (kL [_,_,_] [1,0,2,3] (h:=xQ (by omega) (by omega))) rfl fun g18 RW=>?_;refine Z6 ?_;refine Post.bk rfl rfl (()) (by trivial) (aB.dF [1,0,2,3] [] rfl rfl) rfl (.cons (.rt rfl) ?_ (.cons (.rt rfl) ?_ .nil))
 · exact .z
 exact .z
variable {ys:List UInt8}
theorem z7{X:ox}(az:dy X a)(hp1:at_+ys.length≤X.size):cv Tryz.prog 122 [aD X.ab 0,aU (at_:Int),ai 1 aj ys] (eW X a) (γ:=Unit) (fun _=>True) (fun _=>eW X (a.put at_ ys)) (fun _=>aU 0):=by
 refine In 23 Tryz.func122 fun _ _ _=>?_;have hk2:=az.most;have Iy:=az.len
 refine cc ?_;refine .n (cE (h:=apart_spec (by assumption) (by omega))) rfl fun g14 yI=>?_;refine jb ?_;refine CF fun c0=>?_;refine Z3 ?_;refine .n (BA (i:=1) rfl Tryz.underlying59 FC.out (.t rfl) (.shared (.t rfl)) rfl (by omega) (by omega)) rfl fun _ _=>?_;refine Z9 ?_;refine bB ?_;exact .z
theorem Mq{b off:Nat}{cs:List VP}{n m:Int}(az:cs[off]?=some (aU n)):cv Tryz.prog 221 [aD b off,aU m] [ax b cs] (γ:=Unit) (fun _=>True) (fun _=>[ax b (cs.set off (aU (IntKind.i64.wrap (n+m))))]) (fun _=>aU (IntKind.i64.wrap (n+m))):=by
 refine In 10 Tryz.func221 fun _ _ _=>?_;refine cc ?_;refine .n (LB (i:=0) Tryz.func237 (by kernel_rfl) (by kernel_rfl) (by kernel_rfl) (by kernel_rfl) (.t rfl) (.t rfl) rfl az) rfl fun _ _=>?_;refine Z4 ?_;refine bB ?_;exact .z
variable {mb:Nat}
theorem FJ:cv Tryz.prog 186 [aD sb 0] [j5 sb mb s] (γ:=jU×Bool) (fun g=>g=tY s) (fun g=>[j5 sb mb g.1]) (fun g=>ak (g.2=true)):=by
 refine In 25 Tryz.func186 fun _ _ _=>?_;refine cD ?_;refine .n (cE (h:=Mq (by rfl))) rfl fun g7 h7=>?_;refine .p (N7 (.t rfl) (.c _)) rfl ?_;refine UD ?_;refine Cd (fun c0=>?_) fun c0=>?_
 ·
  refine kR ?_;refine Post.aR rfl (({s with ops:=IntKind.i64.wrap (s.ops+1),failed:=true},false)) (by unfold tY;rw[if_pos (by omega)]) (fun _ _ _ h=>h) (.rt rfl) ?_;exact af.prop (by simp)
 refine Z8 ?_;refine Post.aR rfl (({s with ops:=IntKind.i64.wrap (s.ops+1)},true)) (by unfold tY;rw[if_neg (by omega)]) (fun _ _ _ h=>h) (.rt rfl) ?_;exact af.prop (by simp)
variable {id:Int}
theorem wX{E:CO}{right:Prop}[Decidable right](az:oA E=s.m):cv Tryz.prog 145 [aD sb 0,aU id,ak right] [j5 sb mb s,iN mb s.size E] (γ:=jU×Nat) (fun g=>g=fm s id right) (fun g=>[j5 sb mb g.1,iN mb s.size E]) (fun g=>aU (g.2:Int)):=by
 refine In 25 Tryz.func145 fun _ _ _=>?_;have hlk:aq (E.map fun e=>(e.1,e.2.1)) id=none↔aq s.m id=none:=by rw[←az,lR,pH];cases aq E id<;>simp
 refine cD ?_;refine .p (cm FU.out (.t rfl)) rfl ?_;refine Z3 ?_;refine CT fun c0=>?_;refine Z7 ?_;refine .p (wD (i:=1) Tryz.BG Tryz.underlying122 (fun w=>lN Tryz.Rs w) (.t rfl) (.t rfl) rfl) rfl ?_;refine .p (EO FU.out (.t rfl) (.c _)) rfl ?_;refine Z3 ?_;refine Cd (fun c1=>?_) fun c1=>?_
 ·
  refine Z8 ?_;refine Post.aR rfl ((s,2)) (by exact(LN (hlk.1 c1)).symm) (fun _ _ _ h=>h) (.rt rfl) ?_;exact .z
 have hl:=mt hlk.2 c1;refine Z7 ?_;refine Cd (fun c2=>?_) fun c2=>?_
 ·
  refine Z8 ?_;refine Post.aR rfl ((s,1)) (by exact(HZ hl c2).symm) (fun _ _ _ h=>h) (.rt rfl) ?_;exact .z
 refine Z3 ?_;refine .n (cE (h:=FJ)) rfl fun g23 h23=>?_;refine Z4 ?_;refine Cd (fun c3=>?_) fun c3=>?_
 ·
  refine Z8 ?_;refine Post.aR rfl (((tY s).1,9)) (by exact(CV hl (Classical.not_not.1 c2)).2 (by rw[←h23];exact c3)|>.symm) (by rw[h23];exact fun _ _ _ h=>h) (.rt rfl) ?_;exact .z
 refine Z9 ?_;refine Post.aR rfl (((tY s).1,0)) (by exact(CV hl (Classical.not_not.1 c2)).1 (by rw[←h23];exact Classical.not_not.1 c3)|>.symm) (by rw[h23];exact fun _ _ _ h=>h) (.rt rfl) ?_;exact .z
theorem IU(az:qt s):cv Tryz.prog 174 [aD sb 0,aU id] [dB sb s] (γ:=jU×List UInt8×Nat) (fun g=>g=BI s id) (fun g=>[dB sb g.1]) (fun g=>bE [ai 1 aj g.2.1,aU (g.2.2:Int)]):=by
 refine In 20 Tryz.func174 fun _ _ _=>?_;refine .E0 fun mb E hE=>?_;have Mr:=zw s id True;have hsz:=az.size;refine cc ?_;refine .n (cE (h:=wX (mb:=mb) (s:=s) (E:=E) (id:=id) (right:=True) hE)) rfl fun g9 h9=>?_;refine Z9 ?_;refine Cd (fun c0=>?_) fun c0=>?_
 ·
  subst h9;refine Z9 ?_;refine Post.bk rfl rfl (((fm s id True).1,[],(fm s id True).2)) (by exact(LO (by omega)).symm) (fu (hE.trans Mr.1.symm) Mr.2.symm) rfl (.cons (.rt rfl) ?_ (.cons (.rt rfl) ?_ .nil))
  · exact aI _ _
  exact af.refl _
 subst h9;have h0:(fm s id True).2=0:=by omega
 obtain⟨_,l,hl⟩:=CU h0;obtain⟨b,hb⟩:∃b,aq E id=some (b,l):=by(rw[←hE,lR] at hl;cases hq:aq E id with|none=>(rw[hq] at hl;cases hl)|some p=>(rw[hq] at hl;cases hl;exact⟨p.1,rfl⟩))
 have KP:l.length=s.size:=by(obtain⟨e,he,hel⟩:=wG hl;have:=az.len e he;rw[hel] at this;exact this)
 refine .HX hb ?_;refine Z9 ?_;refine .p (wD (i:=1) Tryz.BG Tryz.underlying122 (fun w=>lN Tryz.Rs w) (.t rfl) (.t rfl) rfl) rfl ?_;refine .n (cG (rest:=[_,_,_]) (xQ (b:=b) (off:=0) (len:=s.size) (l:=l) (by omega) (by omega)) FB.out (.cons (.le (.t rfl) (af.of_eq (show tV _ _ _=jM b 0 s.size by rw[pH,hb];rfl))) .nil) (Perm.idx [2,0,1,3] rfl rfl)) rfl fun g19 V9=>?_;refine Z5 ?_;refine Post.bk rfl rfl (((fm s id True).1,l,0)) (by exact(E1 h0 hl).symm) (aB.trans (aB.perm (Perm.idx [1,2,0,3] rfl rfl)) (CR hb hE Mr.1 Mr.2.symm)) rfl (.cons (.rt rfl) ?_ (.cons (.rt rfl) ?_ .nil))
 · exact af.of_eq (by rw[List.drop_zero,List.take_of_length_le (by omega)])
 exact af.refl _
theorem xS(az:qt s):cv Tryz.prog 173 [aD sb 0,aU id,ai 1 aj ys] [dB sb s] (γ:=jU×Nat) (fun g=>g=kU s id ys) (fun g=>[dB sb g.1]) (fun g=>aU (g.2:Int)):=by
 refine In 33 Tryz.func173 fun _ _ _=>?_;refine .E0 fun mb E hE=>?_;have Mr:=zw s id (ys.length=s.size);have hsz:=az.size;refine cD ?_;refine .p (Br FU.out (.t rfl)) rfl ?_;refine Z9 ?_;refine .n (cG (rest:=[_]) (wX (mb:=mb) (s:=s) (E:=E) (id:=id) (right:=ys.length=s.size) hE) FB.out (.cons (.t rfl) (.cons (.t rfl) (.cons (.le (.t rfl) (af.prop (show _↔ys.length=s.size by simp;omega))) .nil))) (Perm.idx [0,1,2] rfl rfl)) rfl fun g21 Ms=>?_;refine cD ?_;refine Cd (fun c0=>?_) fun c0=>?_
 ·
  subst Ms;have h0:(fm s id (ys.length=s.size)).2=0:=by omega
  obtain⟨O6,l,hl⟩:=CU h0;obtain⟨b,hb⟩:∃b,aq E id=some (b,l):=by(rw[←hE,lR] at hl;cases hq:aq E id with|none=>(rw[hq] at hl;cases hl)|some p=>(rw[hq] at hl;cases hl;exact⟨p.1,rfl⟩))
  have KP:l.length=s.size:=by(obtain⟨e,he,hel⟩:=wG hl;have:=az.len e he;rw[hel] at this;exact this)
  refine .HX hb ?_;refine Z6 ?_;refine .p (wD (i:=1) Tryz.BG Tryz.underlying122 (fun w=>lN Tryz.Rs w) (.t rfl) (.t rfl) rfl) rfl ?_;refine Z1 ?_;refine .n (BA (i:=2) rfl Tryz.underlying59 FC.out (.le (.t rfl) (af.of_eq (show tV _ _ _=jM b 0 s.size by rw[pH,hb];rfl))) (.shared (.t rfl)) rfl (by omega) (by omega)) rfl fun _ _=>?_;refine Z9 ?_;refine Post.aR rfl (({(fm s id (ys.length=s.size)).1 with m:=gM s.m id ys},0)) (by exact(BJ h0).symm) (aB.trans (aB.cons _ (aB.cons _ (aB.ap0 (show l.take 0++ys++l.drop (0+ys.length)=ys by rw[List.take_zero,List.nil_append,Nat.zero_add,List.drop_of_length_le (by omega),List.append_nil])))) (u5 (s:={(fm s id (ys.length=s.size)).1 with m:=gM s.m id ys}) hb hE (by rw[←Mr.1]) Mr.2.symm)) (.rt rfl) ?_;exact af.int (by omega)
 subst Ms;refine Z9 ?_;refine Post.aR rfl (((fm s id (ys.length=s.size)).1,(fm s id (ys.length=s.size)).2)) (by exact(H6 (by omega)).symm) (fu (hE.trans Mr.1.symm) Mr.2.symm) (.rt rfl) ?_;exact af.refl _
theorem IV:cv Tryz.prog 127 [aD sb 0,aU id] [dB sb s] (γ:=jU×Nat) (fun g=>g=tE s id) (fun g=>[dB sb g.1]) (fun g=>aU (g.2:Int)):=by
 refine In 17 Tryz.func127 fun _ _ _=>?_;refine .E0 fun mb E hE=>?_;have Mr:=zw s id True;refine Z9 ?_;refine .n (cE (h:=wX (mb:=mb) (s:=s) (E:=E) (id:=id) (right:=True) hE)) rfl fun g8 h8=>?_;refine cD ?_;refine Cd (fun c0=>?_) fun c0=>?_
 ·
  subst h8;have h0:(fm s id True).2=0:=by omega
  obtain⟨_,l,hl⟩:=CU h0;obtain⟨b,hb⟩:∃b,aq E id=some (b,l):=by(rw[←hE,lR] at hl;cases hq:aq E id with|none=>(rw[hq] at hl;cases hl)|some p=>(rw[hq] at hl;cases hl;exact⟨p.1,rfl⟩))
  refine .HX hb ?_;refine Z6 ?_;refine .s (EK (i:=1) rfl Tryz.BG Tryz.underlying122 (.t rfl) (.t rfl) rfl) ?_;refine Z9 ?_;refine Post.aR rfl (({(fm s id True).1 with m:=jh s.m id},0)) (by exact(E3 h0).symm) (CW (s:={(fm s id True).1 with m:=jh s.m id}) (by rw[←hE]) Mr.2.symm) (.rt rfl) ?_;exact af.int (by omega)
 subst h8;refine Z9 ?_;refine Post.aR rfl (((fm s id True).1,(fm s id True).2)) (by exact(LP (by omega)).symm) (fu (hE.trans Mr.1.symm) Mr.2.symm) (.rt rfl) ?_;exact af.refl _
theorem FK(az:qt s):cv Tryz.prog 172 [aD sb 0] [dB sb s] (γ:=jU×Int×Nat) (fun g=>zx s g) (fun g=>[dB sb g.1]) (fun g=>bE [aU g.2.1,aU (g.2.2:Int)]):=by
 refine In 56 Tryz.func172 fun _ _ _=>?_;obtain⟨NQ,f10,Xs⟩:=OL s;refine .E0 fun mb E hE=>?_;have hom:=OK s;have hsz:=az.size;have hmn:=az.many;have hcp:=az.cap;have hlen:s.m.length=E.length:=by(rw[←hE];simp[oA])
 refine cc ?_;refine .p (cm FU.out (.t rfl)) rfl ?_;refine Z3 ?_;refine CT fun c0=>?_;refine Z3 ?_;refine .n (cE (h:=FJ)) rfl fun g10 h10=>?_;refine Z4 ?_;refine Cd (fun c1=>?_) fun c1=>?_
 ·
  subst h10;rw[Xs]
  refine Z9 ?_;refine Post.bk rfl rfl (({s with ops:=NQ,failed:=f10},0,9)) (by exact .inl ⟨by simpa using c1,by rw[Xs]⟩) (fu (s:={s with ops:=NQ,failed:=f10}) hE rfl) rfl (.cons (.rt rfl) ?_ (.cons (.rt rfl) ?_ .nil))
  · exact .z
  exact .z
 subst h10;rw[Xs]
 refine Z1 ?_;refine .br 9 2 FM.out (by kernel_rfl) (k:= ?_);refine Z4 ?_;refine .p (OB (i:=1) rfl Tryz.underlying122 (.t rfl) rfl) ?_;refine Z9 ?_;refine Cd (fun c2=>?_) fun c2=>?_
 ·
  refine Z9 ?_;refine Post.bk rfl rfl (({s with ops:=NQ,failed:=f10},0,8)) (by exact .inr (.inl ⟨by simpa using c1,by rw[hlen];simpa using c2,by rw[Xs]⟩)) (fu (s:={s with ops:=NQ,failed:=f10}) hE rfl) rfl (.cons (.rt rfl) ?_ (.cons (.rt rfl) ?_ .nil))
  · exact .z
  exact .z
 refine cD ?_;refine .aS (σ:=Nat) (fun _=>_) (fun k=>[(4,aU (k:Int))]) (fun k=>k≤s.m.length∧∀j:Nat,j<k→aq s.m (j:Int)≠none) (fun k=>s.m.length-k) 0 ⟨by omega,fun j hj=>by omega⟩ rfl ?_ ?_
 · exact(.get rfl (af.refl _) (.refl _ _))
 rintro k ⟨hk,hall⟩;refine Z8 ?_;refine .p (wD (i:=1) Tryz.BG Tryz.underlying122 (fun w=>lN Tryz.Rs w) (.t rfl) (.t rfl) rfl) rfl ?_;refine .p (EP FU.out (.t rfl) (.c _)) rfl ?_;refine Z2 ?_;refine Cd (fun c3=>?_) fun c3=>?_
 ·
  have RX:aq s.m (k:Int)≠none:=by(rw[←hE,lR];rw[pH] at c3;intro e;apply c3;cases hq:aq E (k:Int) with|none=>rfl|some p=>(rw[hq] at e;cases e))
  have CD:k+1≤s.m.length:=LQ fun j hj=>if h:j<k then hall j h else(by rw[show j=k by omega];exact RX)
  refine Z9 ?_;refine .round (k+1) ⟨by omega,fun j hj=>if h:j<k then hall j h else(by rw[show j=k by omega];exact RX)⟩ (by omega) rfl ?_;exact(.get rfl (af.int (by omega)) (.keep 11 rfl rfl))
 have hnb:aq (E.map fun e=>(e.1,e.2.1)) (k:Int)=none:=Classical.not_not.1 c3;have hnE:aq E (k:Int)=none:=by(rw[pH] at hnb;cases hq:aq E (k:Int) with|none=>rfl|some p=>(rw[hq] at hnb;cases hnb))
 have hno:aq s.m (k:Int)=none:=by rw[←hE,lR,hnE];rfl
 refine Z6 ?_;refine .bP [(0,0),(1,0),(2,0),(3,1),(4,0),(5,0),(6,0),(7,0),(8,1),(9,4)] 10 1 FM.out (by kernel_rfl) (k:= ?_);refine Z9 ?_;refine .a rfl (Bz FU.out FC.out FY.out FZ.out (.t rfl) rfl (show s.size≤281474976710656 by omega)) (fun _ _=>aB.drop (aB.refl _)) fun b41 _=>?_;refine .fin ?_;refine .s (EJ (i:=2) b41 Tryz.BG Tryz.underlying122 (.t rfl) (.t rfl) (.t rfl) rfl) ?_;refine Z3 ?_;refine .br 11 3 FM.out (by kernel_rfl) (k:= ?_);refine Z9 ?_;refine .p (OB (i:=2) rfl Tryz.underlying122 (.t rfl) rfl) ?_;refine kR ?_;refine Post.bk rfl rfl (({s with ops:=NQ,failed:=f10,m:=s.m++[((k:Int),List.replicate s.size 0)],zq:=max s.zq ((s.m.length:Int)+1)},(k:Int),0)) (by exact .inr (.inr ⟨by simpa using c1,by rw[hlen];simpa using c2,k,hk,hno,by rw[Xs]⟩)) (aB.trans (aB.perm (Perm.idx [1,0,2,3] rfl rfl)) (aB.trans (aB.cells (.cons (.refl _) (.cons (.refl _) (.cons (af.int (by rw[hlen,kS _ hnb];simp)) (.cons (.refl _) (.cons (.refl _) (.cons (.refl _) (.cons (.refl _) .nil)))))))) (aB.trans (aB.perm (Perm.idx [1,0,2,3] rfl rfl)) (CS (s:={s with ops:=NQ,failed:=f10,m:=s.m++[((k:Int),List.replicate s.size 0)],zq:=max s.zq ((s.m.length:Int)+1)}) hnE (by rw[←hE]) rfl)))) rfl (.cons (.rt rfl) ?_ (.cons (.rt rfl) ?_ .nil))
 · exact .z
 exact .z
variable {X:tF} {p:jQ}
theorem qE:cv Tryz.prog 117 [aD X.pb 0] [gj X p,dB X.sb s] (γ:=Unit) (fun _=>True) (fun _=>[gj X p,dB X.sb s]) (fun _=>aU (s.size:Int)):=by
 refine In 10 Tryz.func117 fun _ _ _=>?_;refine Z9 ?_;refine .p (cm FU.out (.t rfl)) rfl ?_;refine Z2 ?_;refine CT fun c0=>?_;refine Z8 ?_;refine .n ((kL [_] [1,0] (h:=uv)).same (fun _ _=>aB.perm (Perm.idx [1,0] rfl rfl)) (fun _ _=>af.refl _)) rfl fun _ _=>?_;refine Z4 ?_;refine bB ?_;exact .z
theorem FL:cv Tryz.prog 124 [aD X.pb 0] [gj X p] (γ:=Unit) (fun _=>True) (fun _=>[gj X p]) (fun _=>ak (zy p)):=by
 refine In 18 Tryz.func124 fun _ _ _=>?_;refine Z8 ?_;refine .p (cm FU.out (.t rfl)) rfl ?_;refine EX ?_;refine bB ?_;exact af.prop (by simp only[zy,←oW,false_or];by_cases hb:BP p.closed<;>simp[hb])
variable {k:bD}
theorem xT:cv Tryz.prog 119 [aD X.pb 0,aC [aU k.1,aU k.2]] [gj X p,H7 X p,qv X p] (γ:=Unit) (fun _=>True) (fun _=>[gj X p,H7 X p,qv X p]) (fun _=>ak (H8 p k)):=by
 refine In 31 Tryz.func119 fun _ _ _=>?_;refine Z7 ?_;refine .br 10 1 FM.out (by kernel_rfl) (k:= ?_);refine Z5 ?_;refine .p (nC (i:=1) Tryz.rR Tryz.underlying130 (fun w=>lN Tryz.UF w) (.t rfl) (.le (.t rfl) jf) rfl) ?_;refine Z9 ?_;refine .br 10 1 FM.out (by kernel_rfl) (k:= ?_);refine Z5 ?_;refine .p (nC (i:=2) Tryz.rR Tryz.underlying130 (fun w=>lN Tryz.UF w) (.t rfl) (.le (.t rfl) jf) rfl) ?_;refine BE ?_;refine bB ?_;exact .z
theorem sv{at_ n:Int}(az:s.size≤1024):cv Tryz.prog 101 [aD X.pb 0,aC [aU k.1,aU k.2],aU at_,aU n] [gj X p,dB X.sb s] (γ:=Unit) (fun _=>True) (fun _=>[gj X p,dB X.sb s]) (fun _=>aU (tZ p s.size k at_ n:Int)):=by
 refine In 42 Tryz.func101 fun _ _ _=>?_;refine cc ?_;refine .n ((cE (h:=FL)).same (fun _ _=>aB.refl _) (fun _ _=>af.refl _)) rfl fun _ _=>?_;refine Z3 ?_;refine Cd (fun c0=>?_) fun c0=>?_
 ·
  refine Z8 ?_;refine bB ?_;exact af.int (by simp only[tZ];rw[if_pos c0];rfl)
 refine jP ?_;refine Cd (fun c1=>?_) fun c1=>?_
 ·
  refine Z8 ?_;refine bB ?_;exact af.int (by simp only[tZ];rw[if_neg c0,if_pos (by omega)];rfl)
 refine cc ?_;refine .Uu rfl rfl rfl rfl (fun hg=>((cE (h:=qE)).same (fun _ _=>aB.refl _) (fun _ _=>af.refl _)).same (fun _ _=>aB.refl _) (fun _ _=>af.refl _)) rfl rfl ?_;refine Z5 ?_;refine .Uu rfl rfl rfl rfl (fun hg=>((cE (h:=qE)).same (fun _ _=>aB.refl _) (fun _ _=>af.refl _)).same (fun _ _=>aB.refl _) (fun _ _=>af.refl _)) rfl rfl ?_;refine Z7 ?_;refine Cd (fun c2=>?_) fun c2=>?_
 ·
  refine Z8 ?_;refine bB ?_;exact af.int (by simp only[tZ];rw[if_neg c0,if_neg (by omega),if_pos (by omega)];rfl)
 refine Z9 ?_;refine bB ?_;exact af.int (by simp only[tZ];rw[if_neg c0,if_neg (by omega),if_neg (by omega)];rfl)
variable {fr:Fr}
theorem FN(az:OM X p a s)(hp1:p.l[i]?=some fr):cv Tryz.prog 171 [aD X.pb 0,aU (i:Int)] (gj X p::nF X p::dB X.sb s::eW X.Y a) (γ:=Unit) (fun _=>True) (fun _=>gj X p::nF X p::dB X.sb s::eW X.Y a) (fun _=>ai 1 aj (a.get fr.at_ s.size)):=by
 refine In 26 Tryz.func171 fun _ _ _=>?_;have p7:i<X.n:=by(rw[←az.n];exact(List.getElem?_eq_some_iff.1 hp1).1)
 have hrm:=az.room fr (List.mem_of_getElem? hp1);have har:=az.ar;refine Z6 ?_;refine .bP [(0,0),(1,0),(2,0),(3,1),(4,0),(5,0),(6,0),(7,1),(8,0),(9,0),(10,0),(11,1),(12,0),(13,4),(14,4),(15,0),(16,0),(17,0),(18,0)] 19 1 FM.out (by kernel_rfl) (k:= ?_);refine Z9 ?_;refine .p rfl (fun _=>aX i FU.out FC.out rfl (.t rfl) (.t rfl) rfl p7) ?_;refine Z1 ?_;refine .o rfl (fL (i:=1) (r:=0) FA.out (.t rfl) rfl hp1 rfl) ?_;refine Z1 ?_;refine .a rfl ((kL [_,_,_,_,_] [0,2,1,3,4,5,6] (h:=qE)).same (fun _ _=>aB.perm (Perm.idx [0,2,1,3,4,5,6] rfl rfl)) (fun _ _=>af.refl _)) (fun _ _=>aB.refl _) fun _ _=>?_;refine .a rfl ((kL [_,_,_] [3,4,5,6,0,1,2] (h:=xR (at_:=fr.at_) (n:=s.size) har hrm.2)).same (fun _ _=>aB.perm (Perm.idx [4,5,6,0,1,2,3] rfl rfl)) (fun _ _=>af.refl _)) (fun _ _=>aB.refl _) fun _ _=>?_;refine Z4 ?_;refine .fin ?_;refine cD ?_;refine bB ?_;exact .z
theorem z8:cv Tryz.prog 103 [aD X.pb 0,aC [aU k.1,aU k.2]] [gj X p,qv X p,dB X.sb s] (γ:=jQ×jU×Nat) (fun g=>g=j6 p s k) (fun g=>[gj X g.1,qv X g.1,dB X.sb g.2.1]) (fun g=>aU (g.2.2:Int)):=by
 refine In 29 Tryz.func103 fun _ _ _=>?_;refine Z7 ?_;refine .br 10 1 FM.out (by kernel_rfl) (k:= ?_);refine Z5 ?_;refine .p (nC (i:=1) Tryz.rR Tryz.underlying130 (fun w=>lN Tryz.UF w) (.t rfl) (.le (.t rfl) jf) rfl) ?_;refine kR ?_;refine Cd (fun c0=>?_) fun c0=>?_
 ·
  have hno:aq p.bm k=none:=by(cases hq:aq p.bm k with|none=>rfl|some v=>(rw[hq] at c0;exact absurd rfl c0))
  refine Z7 ?_;refine Post.aR rfl ((p,s,0)) (by unfold j6;rw[hno]) (fun _ _ _ h=>h) (.rt rfl) ?_;exact .z
 obtain⟨id,hid⟩:∃id,aq p.bm k=some id:=Option.isSome_iff_exists.1 (Classical.not_not.1 c0);refine Z3 ?_;refine .br 5 1 FM.out (by kernel_rfl) (k:= ?_);refine Z6 ?_;refine .s (EK (i:=1) rfl Tryz.rR Tryz.underlying130 (.t rfl) (.le (.t rfl) jf) rfl) ?_;refine Z9 ?_;refine .n (cG (rest:=[_,_]) (IV (s:=s) (id:=id)) FB.out (.cons (.t rfl) (.cons (.le (.t rfl) (af.of_eq (show tV _ _ _=aU id by rw[hid];rfl))) .nil)) (Perm.idx [2,0,1] rfl rfl)) rfl fun Wa Xt=>?_;refine Z3 ?_;subst Xt;refine Z1 ?_;refine Post.aR rfl (({p with bm:=gf p.bm k},(tE s id).1,(tE s id).2)) (by unfold j6;rw[hid]) (aB.dF [1,2,0] [] rfl rfl) (.rt rfl) ?_;exact .z
theorem IW{c:UInt8}:cQ Tryz.prog 163 [ai 1 aj l,ag .u8 (c.toNat:Int)] (ai 1 aj (fF l c l.length)):=by
 refine In 24 Tryz.func163 fun _ _ _=>?_;refine .fact (t:=0) rfl (fun S w v h=>bn h) fun hl=>?_;refine Z7 ?_;refine .aS (σ:=Nat) (fun _=>[]) (fun k=>[(0,ai 1 aj (l.take k))]) (fun k=>k≤l.length∧fF l c k=fF l c l.length) (fun k=>k) l.length ⟨Nat.le_refl _,rfl⟩ rfl ?_ ?_
 · exact(.get rfl (af.of_eq (by rw[List.take_length])) (.refl _ _))
 rintro k ⟨hk,htr⟩;have hlen:(l.take k).length=k:=by(simp;omega)
 have hx:0<k→(l.take k)[k-1]?=some (l.getD (k-1) 0):=fun h0=>by(have h1:k-1<l.length:=by omega);rw[List.getElem?_take,if_pos (by omega)];simp[List.getD_eq_getElem?_getD,h1]
 refine cc ?_;refine .g (bU.gT rfl rfl rfl rfl (fun hg=>aP (j:=k-1) FU.out FC.out rfl (.when (.t rfl) hg) (.when (.t rfl) hg) (by omega) (hx (by omega)))) rfl rfl ?_;refine Z6 ?_;refine Cd (fun c0=>?_) fun c0=>?_
 ·
  have h0:0<k:=by omega
  have RY:l.getD (k-1) 0=c:=UInt8.toNat_inj.1 (by omega);have hstep:fF l c (k-1)=fF l c l.length:=by(rw[←htr];obtain⟨j,rfl⟩:∃j,k=j+1:=⟨k-1,by omega⟩;simp only[Nat.add_sub_cancel] at RY ⊢;rw[fF,if_pos RY])
  refine Z8 ?_;refine .p (wv (h:=k-1) FU.out FC.out rfl (.t rfl) (.t rfl) (by omega) (by omega)) rfl ?_;refine Z3 ?_;refine .round (k-1) ⟨by omega,hstep⟩ (by omega) rfl ?_;exact(.get rfl (af.of_eq (by rw[List.take_take,Nat.min_eq_left (by omega)])) (.keep 20 rfl rfl))
 have hend:fF l c k=l.take k:=by(cases k with|zero=>rfl|succ j=>(rw[fF,if_neg (fun e=>c0 ⟨by omega,by(show((l.getD (j+1-1) 0).toNat:Int)=(c.toNat:Int);rw[Nat.add_sub_cancel,e])⟩)]))
 refine dN ?_;refine bB ?_;exact af.of_eq (by rw[←htr,hend])
theorem IX{c:UInt8}:cQ Tryz.prog 162 [ai 1 aj l,ag .u8 (c.toNat:Int)] (ai 1 aj (q8 l c)):=by
 refine In 21 Tryz.func162 fun _ _ _=>?_;refine .fact (t:=0) rfl (fun S w v h=>bn h) fun hl=>?_;refine Z7 ?_;refine .aS (σ:=Nat) (fun _=>[]) (fun k=>[(0,ai 1 aj (l.drop k))]) (fun k=>k≤l.length∧q8 (l.drop k) c=q8 l c) (fun k=>l.length-k) 0 ⟨by omega,rfl⟩ rfl ?_ ?_
 · exact(.get rfl (af.of_eq (by rw[List.drop_zero])) (.refl _ _))
 rintro k ⟨hk,htr⟩;have hlen:(l.drop k).length=l.length-k:=by simp
 have hx:k<l.length→(l.drop k)[0]?=some (l.getD k 0):=fun h0=>by(rw[List.getElem?_drop];simp[List.getD_eq_getElem?_getD,h0])
 refine Z8 ?_;refine .g (bU.gT rfl rfl rfl rfl (fun hg=>aP (j:=0) FU.out FC.out rfl (.when (.t rfl) hg) (.c _) rfl (hx (by omega)))) rfl rfl ?_;refine Z6 ?_;refine Cd (fun c0=>?_) fun c0=>?_
 ·
  have h0:k<l.length:=by omega
  have RY:l.getD k 0=c:=UInt8.toNat_inj.1 (by omega);have hcons:l.drop k=l.getD k 0::l.drop (k+1):=by(rw[List.drop_eq_getElem_cons h0];simp[List.getD_eq_getElem?_getD,h0])
  have hstep:q8 (l.drop (k+1)) c=q8 l c:=by(rw[←htr,hcons];unfold q8;rw[List.dropWhile_cons,if_pos (by simpa using RY)])
  refine Z5 ?_;refine .p (Bx (l:=1) FU.out FC.out rfl (.t rfl) (.c _) rfl (by omega)) rfl ?_;refine Z3 ?_;refine .round (k+1) ⟨by omega,hstep⟩ (by omega) rfl ?_;exact(.get rfl (af.of_eq (by rw[List.drop_drop])) (.keep 14 rfl rfl))
 have hend:q8 l c=l.drop k:=by(rw[←htr];by_cases h0:k<l.length;(have hcons:l.drop k=l.getD k 0::l.drop (k+1):=by(rw[List.drop_eq_getElem_cons h0];simp[List.getD_eq_getElem?_getD,h0]));(rw[hcons];unfold q8;rw[List.dropWhile_cons,if_neg (fun e=>c0 ⟨by omega,by(have e2:=of_decide_eq_true e;show((l.getD k 0).toNat:Int)=(c.toNat:Int);rw[e2])⟩)]);(rw[List.drop_of_length_le (by omega)];rfl))
 refine jP ?_;refine Cd (fun c1=>?_) fun c1=>?_
 ·
  refine Z7 ?_;refine bB ?_;exact(aI _ _).trans (af.of_eq (by rw[hend,List.drop_of_length_le (by omega)]))
 refine Z9 ?_;refine bB ?_;exact af.of_eq (by rw[hend])
theorem IY:cQ Tryz.prog 138 [ai 1 aj l,cZ [0]] (ai 1 aj (q8 (fF l 0 l.length) 0)):=by
 refine In 42 Tryz.func138 fun _ _ _=>?_;refine jP ?_;refine Cd (fun c0=>?_) fun c0=>?_
 ·
  refine Z7 ?_;refine bB ?_;exact(aI _ _).trans (af.of_eq (by have h0:l=[]:=List.length_eq_zero_iff.1 (by omega);rw[h0];rfl))
 refine Z6 ?_;refine .p (HA (.t rfl) (.s [] rfl rfl)) rfl ?_;refine Z2 ?_;refine Cd (fun c1=>?_) fun c1=>?_
 · exact absurd c1 (by decide)
 refine cD ?_;refine .g (bU.gT rfl rfl rfl rfl (fun hg=>jO FU.out (.when (.t rfl) hg) (.c _) rfl rfl)) rfl rfl ?_;refine Z4 ?_;refine Cd (fun c2=>?_) fun c2=>?_
 ·
  refine Z1 ?_;refine .br 6 2 FM.out (by kernel_rfl) (k:= ?_);refine Z2 ?_;refine .p (jO FU.out (.t rfl) (.c _) rfl rfl) ?_;refine .p (cA (h:=IW (l:=l) (c:=0))) ?_;refine Z1 ?_;refine .p (jO FU.out (.t rfl) (.c _) rfl rfl) ?_;refine Z1 ?_;refine .p (cA (h:=IX (l:=fF l 0 l.length) (c:=0))) rfl ?_;refine Z5 ?_;refine bB ?_;exact af.refl _
 exact absurd ⟨rfl,by decide⟩ c2
theorem xU:cQ Tryz.prog 120 [ai 1 aj l] (ak (dK l)):=by
 refine In 7 Tryz.func120 fun _ _ _=>?_;refine Z8 ?_;refine .p (bA (IY) FB.out (.cons (.t rfl) (.cons (.s [0] rfl rfl) .nil))) rfl ?_;refine Z6 ?_;refine bB ?_;exact af.prop (by rw[←LW,←List.length_eq_zero_iff];omega)
theorem IZ(az:OM X p a s)(hp1:p.l[i]?=some fr):cv Tryz.prog 140 [aD X.pb 0,aU (i:Int)] (gj X p::nF X p::qv X p::dB X.sb s::eW X.Y a) (γ:=jQ×jU×Nat) (fun g=>zz p a s i fr g) (fun g=>gj X g.1::nF X g.1::qv X g.1::dB X.sb g.2.1::eW X.Y a) (fun g=>aU (g.2.2:Int)):=by
 refine In 86 Tryz.func140 fun _ _ _=>?_;have p7:i<X.n:=by(rw[←az.n];exact(List.getElem?_eq_some_iff.1 hp1).1)
 have I1:=(List.getElem?_eq_some_iff.1 hp1).1;have ap3:(p.l.set i {fr with dz:=false})[i]?=some {fr with dz:=false}:=by simp[I1]
 have hst:=az.st;refine dN ?_;refine .p (aX i FU.out FC.out rfl (.t rfl) (.t rfl) rfl p7) rfl ?_;refine Z9 ?_;refine .p (fL (i:=1) (r:=3) FA.out (.t rfl) rfl hp1 rfl) rfl ?_;refine Z5 ?_;refine .g (bU.gF rfl rfl rfl rfl (fun hg=>fL (i:=1) (r:=5) FA.out (.when (.t rfl) hg) rfl hp1 rfl)) rfl rfl ?_;refine Z4 ?_;refine Cd (fun c0=>?_) fun c0=>?_
 ·
  have qf:¬(fr.used=true∧fr.dz=true):=fun⟨h1,h2⟩=>c0.elim (fun h=>h ((oW _).2 h1)) (fun h=>h ((oW _).2 h2));refine Z7 ?_;refine Post.aR rfl ((p,s,0)) (by exact .clean qf) (fun _ _ _ h=>h) (.rt rfl) ?_;exact .z
 have Hx:fr.used=true∧fr.dz=true:=⟨(oW _).1 (Classical.not_not.1 fun h=>c0 (.inl h)),(oW _).1 (Classical.not_not.1 fun h=>c0 (.inr h))⟩;refine Z6 ?_;refine .n ((kL [_] [0,1,3,4,5,6,7,2] (h:=FN az hp1)).same (fun _ _=>aB.perm (Perm.idx [0,1,7,2,3,4,5,6] rfl rfl)) (fun _ _=>af.refl _)) rfl fun _ _=>?_;refine Z7 ?_;refine .p (cA (h:=xU)) rfl ?_;refine Z2 ?_;refine Cd (fun c1=>?_) fun c1=>?_
 ·
  refine Z5 ?_;refine .s (fE (i:=1) (r:=5) {fr with dz:=false} rfl FC.out (.t rfl) .cf rfl hp1 rfl rfl) ?_;refine Z8 ?_;refine .p (kP (i:=1) (r:=1) FA.out FC.out rfl (.t rfl) rfl ap3 rfl) rfl ?_;refine .n (kL [_,_,_,_,_] [0,2,3,1,4,5,6,7] (h:=z8 (p:=p.CX i {fr with dz:=false}) (s:=s) (k:=fr.k))) rfl fun g41 h41=>?_;refine Z3 ?_;subst h41;refine Z2 ?_;refine Post.aR rfl (j6 (p.CX i {fr with dz:=false}) s fr.k) (by exact .zero Hx c1) (aB.trans (aB.perm (Perm.idx [0,3,1,2,4,5,6,7] rfl rfl)) (aB.cons _ (aB.xM (LS (X:=X) (p:=p.CX i {fr with dz:=false}) (q:=(j6 (p.CX i {fr with dz:=false}) s fr.k).1) (ON _ _ _).symm)))) (.rt rfl) ?_;exact .z
 refine Z3 ?_;refine .br 13 1 FM.out (by kernel_rfl) (k:= ?_);refine Z7 ?_;refine .p (kP (i:=1) (r:=1) FA.out FC.out rfl (.t rfl) rfl hp1 rfl) ?_;refine .p (nC (i:=2) Tryz.rR Tryz.underlying130 (fun w=>lN Tryz.UF w) (.t rfl) (.le (.t rfl) jf) rfl) ?_;refine kR ?_;refine Cd (fun c2=>?_) fun c2=>?_
 ·
  have hno:aq p.bm fr.k=none:=by(cases hq:aq p.bm fr.k with|none=>rfl|some v=>(rw[hq] at c2;exact absurd rfl c2))
  refine dN ?_;refine .n (kL [_,_,_,_,_,_,_] [3,0,1,2,4,5,6,7] (h:=FK (s:=s) hst)) rfl fun Dr RZ=>?_;refine jP ?_;refine Cd (fun c3=>?_) fun c3=>?_
  ·
   refine Z9 ?_;refine Post.aR rfl ((p,Dr.1,Dr.2.2)) (by exact .full Hx c1 hno Dr RZ (by omega)) (aB.dF [1,2,3,0,4,5,6,7] [] rfl rfl) (.rt rfl) ?_;exact .z
  have R1:=qt.alloc hst RZ;have bA9:=R1.1;have U1:=af.refl (aU Dr.2.1);refine Z2 ?_;refine .br 9 1 FM.out (by kernel_rfl) (k:= ?_);refine Z7 ?_;refine .p (kP (i:=2) (r:=1) FA.out FC.out rfl (.t rfl) rfl hp1 rfl) ?_;refine Z2 ?_;refine .s (EJ (i:=3) Dr.2.1 Tryz.rR Tryz.underlying130 (.t rfl) (.le (.t rfl) jf) (.t rfl) rfl) ?_;refine Z7 ?_;refine .s (fE (i:=2) (r:=5) {fr with dz:=false} rfl FC.out (.t rfl) .cf rfl hp1 rfl rfl) ?_;refine cD ?_;refine .n (cG (rest:=[_,_,_,_,_,_,_]) (xS (ys:=a.get fr.at_ s.size) (by assumption)) FB.out (.cons (.t rfl) (.cons (.le (.t rfl) U1) (.cons (.t rfl) .nil))) (Perm.idx [0,1,2,3,4,5,6,7] rfl rfl)) rfl fun g85 h85=>?_;refine Z3 ?_;subst h85;refine Z1 ?_;refine Post.aR rfl (({p with l:=p.l.set i {fr with dz:=false},bm:=eY p.bm fr.k Dr.2.1},(kU Dr.1 Dr.2.1 (a.get fr.at_ s.size)).1,(kU Dr.1 Dr.2.1 (a.get fr.at_ s.size)).2)) (by exact .new Hx c1 hno Dr RZ (by omega)) (aB.dF [1,2,3,0,4,5,6,7] [] rfl rfl) (.rt rfl) ?_;exact .z
 obtain⟨id,hid⟩:∃id,aq p.bm fr.k=some id:=Option.isSome_iff_exists.1 (Classical.not_not.1 c2);have U1:af (tV aU (aa (.int .i64 0)) (aq p.bm fr.k)) (aU id):=af.of_eq (by rw[hid];rfl);refine Z7 ?_;refine .s (fE (i:=1) (r:=5) {fr with dz:=false} rfl FC.out (.t rfl) .cf rfl hp1 rfl rfl) ?_;refine cD ?_;refine .n (cG (rest:=[_,_,_,_,_,_,_]) (xS (ys:=a.get fr.at_ s.size) (by assumption)) FB.out (.cons (.t rfl) (.cons (.le (.t rfl) U1) (.cons (.t rfl) .nil))) (Perm.idx [3,0,1,2,4,5,6,7] rfl rfl)) rfl fun g85 h85=>?_;refine Z3 ?_;subst h85;refine Z1 ?_;refine Post.aR rfl ((p.CX i {fr with dz:=false},(kU s id (a.get fr.at_ s.size)).1,(kU s id (a.get fr.at_ s.size)).2)) (by exact .has Hx c1 id hid) (aB.dF [1,2,3,0,4,5,6,7] [] rfl rfl) (.rt rfl) ?_;exact .z
theorem Ds{f:Fr}:cQ Tryz.prog 170 [aC (q7 f)] (ak (¬BP f.used)):=by
 refine In 6 Tryz.func170 fun _ _ _=>?_;refine kR ?_;refine bB ?_;exact .z
theorem I2{fb cap:Nat}{l:List Fr}{p:Fr→Prop}(az:l.length=n)(hp1:n≤64):cv Tryz.prog 169 [aa (bt (some (fb,cap)) n),mM Tryz.prog (fun _:Fr=>True) (fun x=>[aC (q7 x)]) (fun x=>ak (p x))] [av (some (fb,cap)) 6 q7 l] (γ:=Unit) (fun _=>True) (fun _=>[av (some (fb,cap)) 6 q7 l]) (fun _=>aU (nE p l)):=by
 refine In 19 Tryz.func169 fun _ _ _=>?_;refine Z9 ?_;refine .p (tX rfl Tryz.underlying131 (.t rfl)) rfl ?_;refine Z4 ?_;refine .aS (σ:=Nat) (fun _=>_) (fun k=>[(8,aU (k:Int))]) (fun k=>k≤l.length∧cT p l k) (fun k=>l.length-k) 0 ⟨by omega,cT.zero p l⟩ rfl ?_ ?_
 · exact(.get rfl (af.refl _) (.refl _ _))
 rintro k ⟨hk,hnot⟩;refine Z6 ?_;refine Cd (fun c0=>?_) fun c0=>?_
 ·
  obtain⟨x,hx⟩:=ah (xs:=l) (k:=k) (by omega);refine kR ?_;refine .p (aX k FU.out FC.out rfl (.t rfl) (.t rfl) rfl (by omega)) rfl ?_;refine .p (kP (i:=0) (r:=0) FA.out FC.out rfl (.t rfl) rfl hx rfl) rfl ?_;refine .p (cV x) rfl ?_;refine Z2 ?_;refine Cd (fun c1=>?_) fun c1=>?_
  ·
   refine dN ?_;refine bB ?_;exact af.int (qu hx (by assumption) hnot).symm
  refine Z7 ?_;refine .round (k+1) ⟨by omega,hnot.succ hx (by assumption)⟩ (by omega) rfl ?_;exact(.get rfl (af.int (by omega)) (.keep 12 rfl rfl))
 refine cc ?_;refine bB ?_;exact af.int (nk (hnot.all (by omega))).symm
theorem Dt(az:OM X p a s):cv Tryz.prog 139 [aD X.pb 0] [gj X p,nF X p] (γ:=jQ×Nat) (fun g=>wH X p g.1∧g.2<X.n) (fun g=>[gj X g.1,nF X g.1]) (fun g=>aU (g.2:Int)):=by
 refine In 67 Tryz.func139 fun _ _ _=>?_;have hn:=az.n;have hmo:=az.most;have hps:=az.pos;refine dN ?_;refine .n ((cG (rest:=[_]) (I2 (n:=X.n) (l:=p.l) (p:=fun f=>¬BP f.used) az.n az.most) FB.out (.cons (.t rfl) (.cons (.le (.f _) (l8 FB.out (fun(f:Fr) (_:True)=>Ds (f:=f)))) .nil)) (Perm.idx [1,0] rfl rfl)).same (fun _ _=>aB.perm (Perm.idx [1,0] rfl rfl)) (fun _ _=>af.refl _)) rfl fun _ _=>?_;refine Z9 ?_;refine Cd (fun c0=>?_) fun c0=>?_
 ·
  refine Z8 ?_;refine Post.aR rfl ((p,(nE (fun f=>¬BP f.used) p.l).toNat)) (by exact⟨wH.refl az,by(have:=Kz (fun f:Fr=>¬BP f.used) p.l;omega)⟩) (fun _ _ _ h=>h) (.rt rfl) ?_;exact af.int (by omega)
 refine Z4 ?_;refine .aS (σ:=jQ) (fun p1=>[gj X p1,nF X p1]) (fun p1=>[]) (fun p1=>wH X p p1) (fun p1=>(p1.l.filter (·.seen)).length) p (wH.refl az) rfl ?_ ?_
 · exact(.refl _ _)
 rintro p1 hv;have KE:=hv.hand;have j7:=hv.len;obtain⟨x,hx⟩:=ah (xs:=p1.l) (k:=p1.hand) (by omega);refine Z2 ?_;refine .br 8 3 FM.out (by kernel_rfl) (k:= ?_);refine Z9 ?_;refine .p (aX p1.hand FU.out FC.out rfl (.t rfl) (.t rfl) rfl KE) rfl ?_;refine Z1 ?_;refine .p (fL (i:=1) (r:=4) FA.out (.t rfl) rfl hx rfl) rfl ?_;refine Z2 ?_;refine Cd (fun c1=>?_) fun c1=>?_
 ·
  refine Z4 ?_;refine .br 8 3 FM.out (by kernel_rfl) (k:= ?_);refine Z9 ?_;refine .p (aX p1.hand FU.out FC.out rfl (.t rfl) (.t rfl) rfl KE) rfl ?_;refine Z1 ?_;refine .s (fE (i:=1) (r:=4) {x with seen:=false} rfl FC.out (.t rfl) .cf rfl hx rfl rfl) ?_;refine Z2 ?_;refine .br 12 3 FM.out (by kernel_rfl) (k:= ?_);refine cD ?_;refine .p (tX rfl Tryz.underlying131 (.t rfl)) ?_;refine .p (By (.t rfl) (.t rfl) (by omega) (by omega)) ?_;refine Z6 ?_;refine .round ({p1 with l:=p1.l.set p1.hand {x with seen:=false},hand:=(p1.hand+1)%X.n}) (hv.step hx hps) (BK hx ((oW _).1 c1)) rfl ?_;exact(.keep 35 rfl rfl)
 refine kR ?_;refine .br 12 3 FM.out (by kernel_rfl) (k:= ?_);refine cD ?_;refine .p (tX rfl Tryz.underlying131 (.t rfl)) ?_;refine .p (By (.t rfl) (.t rfl) (by omega) (by omega)) ?_;refine jP ?_;refine Post.aR rfl (({p1 with hand:=(p1.hand+1)%X.n},p1.hand)) (by exact⟨hv.next hps,KE⟩) (fun _ _ _ h=>h) (.rt rfl) ?_;exact af.refl _
variable {C:Cont}
theorem I3{D:List bD}(az:Inv X p a s C D)(hp1:p.l[i]?=some fr)(hp2:fr.used=false)(fI:aq p.oa k=none):cv Tryz.prog 141 [aD X.pb 0,aU (i:Int),aC [aU k.1,aU k.2]] (qw X p a s) (γ:=Int) (fun _=>True) (fun n=>(qw X {p with l:=p.l.set i ⟨fr.at_,k,true,false,false⟩,oa:=eY p.oa k (i:Int)} (a.put fr.at_ (C k)) {s with ops:=n})) (fun _=>aU 0):=by
 refine In 72 Tryz.func141 fun _ _ _=>?_;have p7:i<X.n:=by(rw[←az.ok.n];exact(List.getElem?_eq_some_iff.1 hp1).1)
 have hst:=az.ok.st;have hsz:=hst.size;have hno:=az.UJ fI;have hlc:=az.u9 k;have rC:=az.place hp1;have hrm:=az.ok.room fr (List.mem_of_getElem? hp1);have har:=az.ok.ar;refine Z9 ?_;refine .n ((kL [_,_,_,_,_,_,_] [0,4,1,2,3,5,6,7,8] (h:=qE)).same (fun _ _=>aB.perm (Perm.idx [0,2,3,4,1,5,6,7,8] rfl rfl)) (fun _ _=>af.refl _)) rfl fun _ _=>?_;refine .p (EN FU.out FC.out FY.out FZ.out (.t rfl) rfl (by omega)) rfl ?_;refine Z3 ?_;refine .cut (σ:=Int) (fun n=>(qw X p a {s with ops:=n})) (fun n=>[(7,ai 1 aj (C k))]) (fun n=>True) ?_ ?_
 ·
  refine Z1 ?_;refine .br 10 1 FM.out (by kernel_rfl) (k:= ?_);refine Z5 ?_;refine .p (nC (i:=3) Tryz.rR Tryz.underlying130 (fun w=>lN Tryz.UF w) (.t rfl) (.le (.t rfl) jf) rfl) ?_;refine jP ?_;refine Cd (fun c0=>?_) fun c0=>?_
  ·
   obtain⟨id,hid⟩:∃id,aq p.bm k=some id:=Option.isSome_iff_exists.1 c0;have hlk:aq s.m id=some (C k):=by(rcases hno with h|⟨id2,h,h2,_⟩;(rw[hid] at h;cases h.1);(rw[hid] at h;cases h;exact h2))
   obtain⟨n0,hn0⟩:=LX az.nf hlk;refine dN ?_;refine .n (cG (rest:=[_,_,_,_,_,_,_,_]) (IU (s:=s) (id:=id) hst) FB.out (.cons (.t rfl) (.cons (.le (.t rfl) (af.of_eq (show tV _ _ _=aU id by rw[hid];rfl))) .nil)) (Perm.idx [4,0,1,2,3,5,6,7,8] rfl rfl)) rfl fun Wb h30=>?_;refine Z7 ?_;rw[hn0] at h30;subst h30;refine Z6 ?_;refine CT fun c1=>?_;refine Z1 ?_;refine .own (aB.perm (Perm.idx [1,2,3,4,0,5,6,7,8] rfl rfl)) (bN.meet n0 trivial rfl (.get rfl (af.refl _) (.keep 26 rfl rfl)))
  have hnb:=TK c0;have Xu:List.replicate s.size 0=C k:=by(rcases hno with h|⟨id2,h,_⟩;(rw[pL h.2,hlc]);(rw[hnb] at h;cases h))
  refine Z1 ?_;refine .meet s.ops trivial rfl (.get rfl (af.of_eq (by rw[Xu])) (.keep 12 rfl rfl))
 intro n _;refine Z1 ?_;refine .br 13 1 FM.out (by kernel_rfl) (k:= ?_);refine Z9 ?_;refine .p (aX i FU.out FC.out rfl (.t rfl) (.t rfl) rfl p7) ?_;refine Z1 ?_;refine .p (fL (i:=1) (r:=0) FA.out (.t rfl) rfl hp1 rfl) ?_;refine Z2 ?_;refine .n (kL [_,_,_,_,_] [5,6,7,8,0,1,2,3,4] (h:=z7 (at_:=fr.at_) (ys:=C k) har (by omega))) rfl fun QU QV=>?_;refine Z3 ?_;refine .br 15 2 FM.out (by kernel_rfl) (k:= ?_);refine Z3 ?_;refine .p (fK (i:=4) FA.out (.t rfl) rfl rfl) ?_;refine Z4 ?_;refine .p (fK (i:=4) FA.out (.t rfl) rfl rfl) ?_;refine Z1 ?_;refine .p (aX i FU.out FC.out rfl (.t rfl) (.t rfl) rfl p7) ?_;refine Z1 ?_;refine .p (fL (i:=5) (r:=0) FA.out (.t rfl) rfl hp1 rfl) ?_;refine Z1 ?_;refine .p ((aN FP.out FZ.out (.cons (.t rfl) (.cons (.t rfl) (.cons .ct .nil))) rfl).le (af.agg (.cons (.refl _) (.cons (.refl _) (.cons (.refl _) (.cons (.refl _) (.cons lP (.cons lP .nil)))))))) ?_;refine Z1 ?_;refine .p (aX i FU.out FC.out rfl (.t rfl) (.t rfl) rfl p7) rfl ?_;refine .s (wE (i:=5) (r:=0) ⟨fr.at_,k,true,false,false⟩ rfl FC.out rfl (.t rfl) (.t rfl) rfl rfl hp1 rfl rfl) ?_;refine Z3 ?_;refine .br 6 1 FM.out (by kernel_rfl) (k:= ?_);refine Z3 ?_;refine .p (fK (i:=4) FA.out (.t rfl) rfl rfl) ?_;refine Z3 ?_;refine .s (EJ (i:=6) (i:Int) Tryz.rR Tryz.underlying130 (.t rfl) (.le (.t rfl) jf) (.t rfl) rfl) ?_;refine Z8 ?_;refine Post.aR rfl (n) (by trivial) (aB.dF [4,5,6,7,8,0,1,2,3] [] rfl rfl) (.rt rfl) ?_;exact .z
theorem Aa{D:List bD}(az:Inv X p a s C D):cv Tryz.prog 121 [aD X.pb 0,aC [aU k.1,aU k.2]] (qw X p a s) (γ:=jQ×ej×jU×Nat) (fun g=>TL X p a s C D k g) (fun g=>(qw X g.1 g.2.1 g.2.2.1)) (fun g=>bE [aU (g.2.2.2:Int),aU 0]):=by
 refine In 71 Tryz.func121 fun _ _ _=>?_;refine Z8 ?_;refine .br 10 1 FM.out (by kernel_rfl) (k:= ?_);refine Z5 ?_;refine .p (nC (i:=2) Tryz.rR Tryz.underlying130 (fun w=>lN Tryz.UF w) (.t rfl) (.le (.t rfl) jf) rfl) ?_;refine Z8 ?_;refine .cut (σ:=jQ×ej×jU×Nat) (fun g=>(qw X g.1 g.2.1 g.2.2.1)) (fun g=>[(6,aU (g.2.2.2:Int))]) (fun g=>TL X p a s C D k g) ?_ ?_
 ·
  refine Z6 ?_;refine Cd (fun c0=>?_) fun c0=>?_
  ·
   have hkn:=TK c0;refine Z3 ?_;refine .n (cE (h:=Dt (p:=p) (a:=a) (s:=s) az.ok)) rfl fun g22 Wc=>?_;refine Z3 ?_;obtain⟨⟨l1,Tu,bB0,bm1,f1,cl1⟩,i1⟩:=g22;obtain⟨hv,hi1⟩:=Wc;have QW:=hv.rest;simp only[jQ.mk.injEq,true_and] at QW;obtain⟨rfl,rfl,rfl,rfl⟩:=QW;have Wd:=az.vic hv;have j7:=Wd.ok.n;obtain⟨fr,hfr⟩:=getElem?_lt' (xs:=l1) (k:=i1) (by(simp only at hi1 j7;omega));refine Z5 ?_;refine .n (kL [_] [0,1,3,4,5,6,7,8,2] (h:=IZ (p:=⟨l1,Tu,p.oa,p.bm,p.fault,p.closed⟩) (a:=a) (s:=s) Wd.ok hfr)) rfl fun R2 QX=>?_;refine Z3 ?_;have hsv:=Wd.save hfr QX;obtain⟨⟨l2,hd2,bB1,bm2,f2,cl2⟩,s2,e2⟩:=R2;obtain⟨HN,hI2,hsf,wq,VV⟩:=hsv;simp only at HN hI2 wq VV;subst HN;obtain⟨⟨QY,kX,ha2,hk2,hu2,hd2c⟩,I4⟩:=hsf;simp only at kX I4;subst I4;have I5:l2[i1]?=some QY:=by rw[kX];exact jj hfr
   have I1:i1<X.n:=hi1;refine Z6 ?_;refine CT fun c1=>?_;refine Z2 ?_;refine .cut (σ:=jQ) (fun p3=>(qw X p3 a s2)) (fun p3=>[]) (fun p3=>Inv X p3 a s2 C D∧(∃f:Fr,p3.l[i1]?=some f∧f.used=false)∧aq p3.oa k=none) ?_ ?_
   ·
    refine Z7 ?_;refine .p (aX i1 FU.out FC.out rfl (.t rfl) (.t rfl) rfl I1) rfl ?_;refine Z1 ?_;refine .p (fL (i:=1) (r:=3) FA.out (.t rfl) rfl I5 rfl) rfl ?_;refine Z2 ?_;refine Cd (fun c2=>?_) fun c2=>?_
    ·
     have hu2t:QY.used=true:=(oW _).1 c2;have bj7:=jj (x:={QY with used:=false}) I5;refine Z1 ?_;refine .br 12 1 FM.out (by kernel_rfl) (k:= ?_);refine Z9 ?_;refine .p (aX i1 FU.out FC.out rfl (.t rfl) (.t rfl) rfl I1) ?_;refine Z1 ?_;refine .p (kP (i:=1) (r:=1) FA.out FC.out rfl (.t rfl) rfl I5 rfl) ?_;refine Z1 ?_;refine .s (EK (i:=8) rfl Tryz.rR Tryz.underlying130 (.t rfl) (.le (.t rfl) jf) rfl) ?_;refine Z8 ?_;refine .p (aX i1 FU.out FC.out rfl (.t rfl) (.t rfl) rfl I1) rfl ?_;refine Z1 ?_;refine .s (fE (i:=1) (r:=3) {QY with used:=false} rfl FC.out (.t rfl) .cf rfl I5 rfl rfl) ?_;refine Z1 ?_;refine .own (aB.perm (Perm.idx [0,1,8,2,3,4,5,6,7] rfl rfl)) (bN.meet ⟨l2.set i1 {QY with used:=false},hd2,gf p.oa QY.k,bm2,f2,cl2⟩ ⟨hI2.Xe I5 hu2t (hd2c hu2t),⟨_,jj I5,rfl⟩,by(show aq (gf p.oa QY.k) k=none;rw[iE _ _ az.Rx];split;rfl;exact hkn)⟩ rfl (.keep 27 rfl rfl))
    have hu2f:QY.used=false:=by(cases hq:QY.used with|false=>rfl|true=>exact absurd ((oW _).2 hq) c2)
    refine Z1 ?_;refine .own (aB.perm (Perm.idx [0,1,8,2,3,4,5,6,7] rfl rfl)) (bN.meet ⟨l2,hd2,p.oa,bm2,f2,cl2⟩ ⟨hI2,⟨QY,I5,hu2f⟩,hkn⟩ rfl (.keep 8 rfl rfl))
   intro p3 ⟨hI3,⟨fr3,R3,hu3⟩,Iy⟩;refine Z5 ?_;refine .n (cE (h:=I3 (p:=p3) (a:=a) (s:=s2) (C:=C) (D:=D) (fr:=fr3) (k:=k) hI3 R3 hu3 Iy)) rfl fun g59 h59=>?_;refine Z9 ?_;refine CT fun c3=>?_;refine Z1 ?_;refine .meet (⟨p3.l.set i1 ⟨fr3.at_,k,true,false,false⟩,p3.hand,eY p3.oa k (i1:Int),p3.bm,p3.fault,p3.closed⟩,a.put fr3.at_ (C k),{s2 with ops:=g59},i1) ⟨(hI3.load R3 hu3 Iy).ops g59,wq,VV,hI3.RC R3 k,_,jj R3,rfl,rfl,fun _=>rfl⟩ rfl (.get rfl (af.refl _) (.keep 18 rfl rfl))
  obtain⟨j0,hj0⟩:∃j,aq p.oa k=some j:=Option.isSome_iff_exists.1 (Classical.not_not.1 c0);obtain⟨j,fj,rfl,hfj,huj,hkj⟩:=az.UI k j0 hj0;refine Z1 ?_;refine .meet (p,a,s,j) ⟨az,rfl,rfl,dP.refl _ _,fj,hfj,huj,hkj,fun e=>by(rw[hj0] at e;cases e)⟩ rfl (.get rfl (af.of_eq (show tV _ _ _=aU (j:Int) by rw[hj0];rfl)) (.keep 2 rfl rfl))
 intro ⟨p5,a5,s5,i5⟩ hW;obtain⟨f5,rz,Xv,RU,hd5⟩:=hW.fr;have I6:=hW.inv;have PA:i5<X.n:=by(rw[←I6.ok.n];exact(List.getElem?_eq_some_iff.1 rz).1)
 refine Z7 ?_;refine .p (aX i5 FU.out FC.out rfl (.t rfl) (.t rfl) rfl PA) rfl ?_;refine Z1 ?_;refine .s (fE (i:=1) (r:=4) {f5 with seen:=true} rfl FC.out (.t rfl) .ct rfl rz rfl rfl) ?_;refine cD ?_;refine Post.bk rfl rfl ((⟨p5.l.set i5 {f5 with seen:=true},p5.hand,p5.oa,p5.bm,p5.fault,p5.closed⟩,a5,s5,i5)) (by exact⟨I6.seen rz,hW.size,hW.cap,hW.out,_,jj rz,Xv,RU,hd5⟩) (fun _ _ _ h=>h) rfl (.cons (.rt rfl) ?_ (.cons (.rt rfl) ?_ .nil))
 · exact .z
 exact .z
variable {z:Nat} {q:Nat} {m:Nat} {T:jQ→Prop} {R:ej→HP}
theorem FO{mem page at_:Int}(az:m+1≤q)(hp1:page≤9223372036854775807)(hp2:nG X R):cv Tryz.prog 97 [aD X.pb 0,aU mem,aU page,aU at_,ai 1 aj ys] [eE X z q T C m R] (γ:=Unit) (fun _=>True) (fun _=>[eE X z q (fun _=>True) (rW z C (mem,page) at_ ys) (m+1) R]) (fun _=>aU (fG z (mem,page) at_ (ys.length:Int):Int)):=by
 refine In 69 Tryz.func97 fun _ _ _=>?_;refine .KB fun p a s hG=>?_;obtain⟨D,hDm,hDk,hI⟩:=hG.ex;have hsz:=hI.ok.st.size;have hgz:=hG.sz;have hRR:=hp2;have hgc:=hG.cp;have hwr:=hG.wrong (mem,page) at_ (ys.length:Int);have Wd:=hI.less (D':=(mem,page)::D) (fun k hk=>List.mem_cons_of_mem _ hk) (by(simp only[List.length_cons];omega));have hD1:((mem,page)::D).length≤m+1:=by(simp only[List.length_cons];omega)
 refine cD ?_;refine .n (au FZ.out) rfl fun V8 _=>?_;refine Z3 ?_;refine .share (t:=11) (i:=0) rfl rfl ?_;refine Z8 ?_;refine .n ((kL [_,_,_,_,_,_,_,_] [0,4,1,2,3,5,6,7,8,9] (h:=sv (p:=p) (s:=s) (k:=(mem,page)) (at_:=at_) (n:=(ys.length:Int)) (by omega))).same (fun _ _=>aB.perm (Perm.idx [0,2,3,4,1,5,6,7,8,9] rfl rfl)) (fun _ _=>af.refl _)) rfl fun _ _=>?_;refine Z9 ?_;refine Cd (fun c0=>?_) fun c0=>?_
 ·
  have hne:fG z (mem,page) at_ (ys.length:Int)≠0:=by(rw[←hwr];omega)
  have TR:rW z C (mem,page) at_ ys=C:=by unfold rW;rw[if_neg hne]
  refine Z8 ?_;refine Post.aR rfl (()) (by trivial) (iF (p:=p) (a0:=a) (a:=a) (s:=s) (r:=[]) hRR hI.ok.ar (dP.refl _ _) ⟨⟨D,Nat.le_succ_of_le hDm,hDk,(by rw[TR];exact hI)⟩,hG.sz,hG.cp,trivial⟩) (.rt rfl) ?_;exact af.int (by rw[←hwr])
 have q6:fG z (mem,page) at_ (ys.length:Int)=0:=by(rw[←hwr];omega)
 obtain⟨CD,hk2,wj,hn0,hsum⟩:=BN q6;have Xw:∀k∈(mem,page)::D,OV k:=fun k hk=>(List.mem_cons.1 hk).elim (fun e=>e▸⟨CD,hk2,hp1⟩) (hDk k);have TR:rW z C (mem,page) at_ ys=iB C (mem,page) (NU (C (mem,page)) at_.toNat ys):=by unfold rW;rw[if_pos q6]
 refine Z7 ?_;refine .n ((kL [_,_,_,_,_,_,_] [0,2,3,1,4,5,6,7,8,9] (h:=xT (p:=p) (k:=(mem,page)))).same (fun _ _=>aB.perm (Perm.idx [0,3,1,2,4,5,6,7,8,9] rfl rfl)) (fun _ _=>af.refl _)) rfl fun _ _=>?_;refine Z3 ?_;refine .g (bU.gT rfl rfl rfl rfl (fun hg=>bA (xU) FB.out (.cons (.when (.t rfl) hg) .nil))) rfl rfl ?_;refine Z3 ?_;refine Cd (fun c1=>?_) fun c1=>?_
 ·
  have Xu:=hI.unknown c1.1;have hlc:=hI.u9 (mem,page);have hsame:iB C (mem,page) (NU (C (mem,page)) at_.toNat ys)=C:=LY (OP Xu c1.2 (by omega));refine Z7 ?_;refine Post.aR rfl (()) (by trivial) (iF (p:=p) (a0:=a) (a:=a) (s:=s) (r:=[]) hRR hI.ok.ar (dP.refl _ _) ⟨⟨(mem,page)::D,hD1,Xw,(by rw[TR,hsame];exact Wd)⟩,hG.sz,hG.cp,trivial⟩) (.rt rfl) ?_;exact af.int (by rw[q6];rfl)
 refine Z6 ?_;refine .n (cE (h:=Aa (p:=p) (a:=a) (s:=s) (k:=(mem,page)) Wd)) rfl fun QT R4=>?_;refine Z7 ?_;obtain⟨p5,a5,s5,i5⟩:=QT;have I6:=R4.inv;obtain⟨f5,rz,Xv,RU,hd5⟩:=R4.fr;simp only at rz I6;have PA:i5<X.n:=by(rw[←I6.ok.n];exact(List.getElem?_eq_some_iff.1 rz).1)
 have PB:=I6.ok.ar;have hz5:s5.size=z:=R4.size.trans hG.sz;have hc5:s5.cap=(q:Int):=R4.cap.trans hG.cp;have ap4:=I6.ok.room f5 (List.mem_of_getElem? rz);have hm5:=PB.most;have Xx:=jj (x:={f5 with dz:=true}) rz;have hI6:=I6.write rz Xv (o:=at_.toNat) (ys:=ys) (by omega) (by rw[RU];exact List.mem_cons_self);have Oz:iB C f5.k (NU (C f5.k) at_.toNat ys)=iB C (mem,page) (NU (C (mem,page)) at_.toNat ys):=by rw[RU]
 rw[Oz] at hI6;refine Z7 ?_;refine CT fun c2=>?_;refine Z9 ?_;refine .p (aX i5 FU.out FC.out rfl (.t rfl) (.t rfl) rfl PA) rfl ?_;refine Z1 ?_;refine .s (fE (i:=1) (r:=5) {f5 with dz:=true} rfl FC.out (.t rfl) .ct rfl rz rfl rfl) ?_;refine Z3 ?_;refine .br 15 2 FM.out (by kernel_rfl) (k:= ?_);refine Z9 ?_;refine .p (aX i5 FU.out FC.out rfl (.t rfl) (.t rfl) rfl PA) ?_;refine Z1 ?_;refine .p (bp.le (fL (i:=1) (r:=0) FA.out (.t rfl) rfl Xx rfl) (af.refl (aU (f5.at_:Int)))) ?_;refine Z1 ?_;refine .p ((eU (.t rfl) (.t rfl) ee).le (af.int (show _=((f5.at_+at_.toNat:Nat):Int) by omega))) ?_;refine Z2 ?_;refine .n (kL [_,_,_,_,_,_] [5,6,7,8,0,1,2,3,4,9] (h:=z7 (X:=X.Y) (a:=a5) (at_:=f5.at_+at_.toNat) (ys:=ys) PB (by omega))) rfl fun g68 h68=>?_;refine Z4 ?_;refine Post.aR rfl (()) (by trivial) (aB.trans (aB.perm (Perm.idx [4,5,6,7,8,0,1,2,3,9] rfl rfl)) (iF (p:={p5 with l:=p5.l.set i5 {f5 with dz:=true}}) (a0:=a) (a:=a5.put (f5.at_+at_.toNat) ys) (s:=s5) (r:=[]) hRR hI.ok.ar (R4.out.trans (dP.put (by omega) (by omega) (by omega))) ⟨⟨(mem,page)::D,hD1,Xw,(by rw[TR];exact hI6)⟩,hz5,hc5,trivial⟩)) (.rt rfl) ?_;exact af.int (by rw[q6];rfl)
variable {o:Nat}
theorem Mt{a:Nat}:cQ Tryz.prog 94 [ag .u64 (a:Int),ag .u64 (o:Int)] (bE [ag .u64 (IntKind.u64.wrap ((a:Int)+(o:Int))),ak (IntKind.u64.wrap ((a:Int)+(o:Int))≥(a:Int))]):=by
 refine In 14 Tryz.func94 fun _ _ _=>?_;refine cD ?_;refine .p (N6 (.t rfl) (.t rfl)) rfl ?_;refine jb ?_;refine j4 ?_ ?_
 · exact .z
 exact .z
variable {mm:A1}
theorem Du{a:Nat}(az:mm.pages≤65536)(hp1:a<18446744073709551616)(hp2:n<18446744073709551616):cv Tryz.prog 95 [aD mb 0,ag .u64 (a:Int),ag .u64 (n:Int)] [dQ mb pb mm] (γ:=Unit) (fun _=>True) (fun _=>[dQ mb pb mm]) (fun _=>ak (jF mm.pages a n)):=by
 refine In 24 Tryz.func95 fun _ _ _=>?_;refine Z32 ?_;refine bB ?_;exact af.prop (by unfold jF;omega)
theorem xV{a:Nat}{n:Int}(az:O9 mm)(hp1:a<18446744073709551616)(hp2:o<18446744073709551616):cv Tryz.prog 51 [aD mb 0,ag .u64 (a:Int),ag .u64 (o:Int),aU n] [dQ mb pb mm] (γ:=Unit) (fun _=>True) (fun _=>[dQ mb pb mm]) (fun _=>bE [ag .u64 ((cz mm.pages a o n).1:Int),aU ((cz mm.pages a o n).2.1:Int),aU ((cz mm.pages a o n).2.2:Int)]):=by
 refine In 39 Tryz.func51 fun _ _ _=>?_;have hq1:=az.pages;have QO:=az.most
 refine cc ?_;refine .p (cA (h:=Mt)) rfl ?_;refine dN ?_;refine .p (cm FU.out (.t rfl)) rfl ?_;refine Z3 ?_;refine CT fun c0=>?_;refine Z7 ?_;refine Cd (fun c1=>?_) fun c1=>?_
 ·
  refine cD ?_;refine LI ?_ ?_ ?_
  · exact af.int (by unfold cz;rw[if_pos c1];rfl)
  · exact af.int (by unfold cz;rw[if_pos c1];rfl)
  exact af.int (by unfold cz;rw[if_pos c1];rfl)
 refine Z7 ?_;refine Cd (fun c2=>?_) fun c2=>?_
 ·
  refine cD ?_;refine LI ?_ ?_ ?_
  · exact af.int (by unfold cz;rw[if_neg c1,if_pos c2];rfl)
  · exact af.int (by unfold cz;rw[if_neg c1,if_pos c2];rfl)
  exact af.int (by unfold cz;rw[if_neg c1,if_pos c2];rfl)
 refine Z9 ?_;refine .Uu rfl rfl rfl rfl (fun hg=>((cG (rest:=[]) (Du (mb:=mb) (pb:=pb) (mm:=mm) (a:=a+o) (n:=n.toNat) (by omega) (by rcases sY a o hp1 hp2 with⟨_,e⟩|⟨_,e⟩<;>omega) (by omega)) FB.out (.cons (.when (.t rfl) hg) (.cons (.le (.when (.t rfl) hg) (af.int (show _=((a+o:Nat):Int) by rcases sY a o hp1 hp2 with⟨_,e⟩|⟨_,e⟩<;>omega))) (.cons (.le (.when (.t rfl) hg) (af.int (show _=((n.toNat:Nat):Int) by omega))) .nil))) (Perm.idx [0] rfl rfl)).same (fun _ _=>aB.refl _) (fun _ _=>af.refl _)).same (fun _ _=>aB.refl _) (fun _ _=>af.refl _)) rfl rfl ?_;refine Z4 ?_;refine Cd (fun c3=>?_) fun c3=>?_
 ·
  have Re:jF mm.pages (a+o) n.toNat↔mm.pages*65536<a+o+n.toNat:=Iff.rfl;have hsc:=sY a o hp1 hp2;have QZ:cz mm.pages a o n=(0,4,0):=by(unfold cz;rw[if_neg c1,if_neg c2,if_pos (Re.2 (by rcases hsc with⟨_,e⟩|⟨_,e⟩;(rcases c3 with c3|c3;omega;exact Re.1 c3);omega))])
  refine cD ?_;refine LI ?_ ?_ ?_
  · exact af.int (by rw[QZ];rfl)
  · exact af.int (by rw[QZ];rfl)
  exact af.int (by rw[QZ];rfl)
 have Re:jF mm.pages (a+o) n.toNat↔mm.pages*65536<a+o+n.toNat:=Iff.rfl;have hsc:=sY a o hp1 hp2;have hfit:a+o<18446744073709551616:=by(rcases hsc with⟨e,_⟩|⟨_,e⟩;exact e;exact absurd (.inl (by omega)) c3)
 have QZ:cz mm.pages a o n=(a+o,0,0):=by(unfold cz;rw[if_neg c1,if_neg c2,if_neg (fun e=>c3 (.inr e))])
 refine dN ?_;refine LI ?_ ?_ ?_
 · exact af.int (by rw[QZ];omega)
 · exact af.int (by rw[QZ];rfl)
 exact af.int (by rw[QZ];rfl)
theorem FQ(az:nG X R):cv Tryz.prog 117 [aD X.pb 0] [eE X z q T C m R] (γ:=Unit) (fun _=>True) (fun _=>[eE X z q T C m R]) (fun _=>aU (z:Int)):=by
 refine In 10 Tryz.func117 fun _ _ _=>?_;refine .KB fun p a s hG=>?_;obtain⟨D,hDm,hDk,hI⟩:=hG.ex;have hsz:=hI.ok.st.size;have hgz:=hG.sz;have hRR:=az;refine Z9 ?_;refine .p (cm FU.out (.t rfl)) rfl ?_;refine Z2 ?_;refine CT fun c0=>?_;refine Z8 ?_;refine .n ((kL [_,_,_,_,_,_,_,_,_] [4,0,1,2,3,5,6,7,8,9] (h:=uv)).same (fun _ _=>aB.perm (Perm.idx [1,2,3,4,0,5,6,7,8,9] rfl rfl)) (fun _ _=>af.refl _)) rfl fun _ _=>?_;refine Z4 ?_;refine Post.aR rfl (()) (by trivial) (iF (p:=p) (a0:=a) (a:=a) (s:=s) (r:=[]) hRR hI.ok.ar (dP.refl _ _) ⟨⟨D,hDm,hDk,hI⟩,hG.sz,hG.cp,hG.cln⟩) (.rt rfl) ?_;exact af.int (by rw[hG.sz])
theorem xW{a:Nat}(az:nG X R)(hp1:z≤1024):cv Tryz.prog 96 [aD mb 0,ag .u64 (a:Int),aU (n:Int)] [dQ mb X.pb mm,eE X z q T C m R] (γ:=Unit) (fun _=>True) (fun _=>[dQ mb X.pb mm,eE X z q T C m R]) (fun _=>Fa 118 [bT [aU (n:Int)],bT [ag .u64 (a:Int)],bT [ag .u64 (z:Int)]]):=by
 refine In 15 Tryz.func96 fun _ _ _=>?_;refine jP ?_;refine .n ((kL [_] [1,0] (h:=FQ (by assumption))).same (fun _ _=>aB.perm (Perm.idx [1,0] rfl rfl)) (fun _ _=>af.refl _)) rfl fun _ _=>?_;refine Z1 ?_;refine .n (au FZ.out) rfl fun b7 _=>?_;refine Z3 ?_;refine .share (t:=7) (i:=0) rfl rfl ?_;refine Z2 ?_;refine .p (zK (.cons (.t rfl) (.cons (.t rfl) (.cons (.t rfl) .nil)))) rfl ?_;refine Z4 ?_;refine bB ?_;exact .z
theorem vu{l a N:Nat}{J:Nat→List HP}(az:0<z)(hp1:z≤1024)(hp2:a+n≤4611686018427387904)(fI:dL z a n N=n)(oe:∀j,j<N→dL z a n j<n)(yH:∀j,j<N→O5 Tryz.prog l [aC [aU (((a+dL z a n j)/z:Nat):Int),aU (((a+dL z a n j)%z:Nat):Int),aU (iO z a n (dL z a n j):Int),aU (dL z a n j:Int)]] (J j) (J (j+1))):cv Tryz.prog 118 [yV l,bT [aU (n:Int)],bT [ag .u64 (a:Int)],bT [ag .u64 (z:Int)]] (J 0) (γ:=Unit) (fun _=>True) (fun _=>J N) (fun _=>bE []):=by
 refine In 42 Tryz.func118 fun _ _ _=>?_;refine Z6 ?_;refine .aS (σ:=Nat) (fun j=>J j) (fun j=>[(5,aU (dL z a n j:Int))]) (fun j=>j≤N) (fun j=>N-j) 0 (Nat.zero_le _) rfl ?_ ?_
 · exact(.get rfl (af.refl _) (.refl _ _))
 rintro j hj;have Hw:=nH z a n j;have YW:=Nat.mod_lt (a+dL z a n j) az;have hdq:=Nat.div_le_self (a+dL z a n j) z;have Ks:(0:Int)≤(((a+dL z a n j)/z:Nat):Int):=Int.natCast_nonneg _;have hst:dL z a n j+iO z a n (dL z a n j)≤n:=nH z a n (j+1);refine Z8 ?_;refine Cd (fun c0=>?_) fun c0=>?_
 ·
  have hjN:j<N:=by(rcases Nat.lt_or_ge j N with h|h;exact h;(have e:j=N:=by omega);rw[e,fI] at c0;omega)
  refine Z8 ?_;refine .p ((eU (.t rfl) (.t rfl) ee).le (af.int (show _=(((a+dL z a n j):Nat):Int) by omega))) rfl ?_;refine Z4 ?_;refine .br 9 2 FM.out (by kernel_rfl) (k:= ?_);refine Z6 ?_;refine .p ((By (.t rfl) (.t rfl) (by omega) (by omega)).le (af.int (show _=(((a+dL z a n j)%z:Nat):Int) from(Int.natCast_emod _ _).symm))) ?_;refine Z3 ?_;refine .p ((Ex (.t rfl) (.t rfl)).le (af.int (show _=((iO z a n (dL z a n j):Nat):Int) by(unfold iO;omega)))) rfl ?_;refine Z5 ?_;refine .br 12 2 FM.out (by kernel_rfl) (k:= ?_);refine Z3 ?_;refine .p ((Ox (.t rfl) (.t rfl) (by omega) (by omega) (by rw[←Int.natCast_ediv];exact nv (by omega) (by omega))).le (af.int (show _=(((a+dL z a n j)/z:Nat):Int) from(Int.natCast_ediv _ _).symm))) ?_;refine Z3 ?_;refine .p ((By (.t rfl) (.t rfl) (by omega) (by omega)).le (af.int (show _=(((a+dL z a n j)%z:Nat):Int) from(Int.natCast_emod _ _).symm))) ?_;refine Z5 ?_;refine .yld (yH j hjN) (.t rfl) (.cons (.t rfl) .nil) (List.Perm.of_eq (List.append_nil _).symm) rfl ?_;refine Z3 ?_;refine Cd (fun c1=>?_) fun c1=>?_
  · exact(c1 trivial).elim
  refine Z9 ?_;refine .round (j+1) hjN (by omega) (List.append_nil _) ?_;exact(.get rfl (af.int (by(show(dL z a n j:Int)+(iO z a n (dL z a n j):Int)=((dL z a n j+iO z a n (dL z a n j):Nat):Int);omega))) ((.keep 38 rfl rfl)))
 have hjN:j=N:=by(rcases Nat.lt_or_ge j N with h|h;(have h9:=oe j h;omega);omega)
 subst hjN;refine Z4 ?_;refine Post.iA rfl (()) (by trivial) (fun _ _ _ h=>h) rfl
theorem I7{mem page at_ n:Int}(az:nG X R):cv Tryz.prog 123 [aD X.pb 0,aU mem,aU page,aU at_,aU n] [eE X z q T C m R] (γ:=Unit) (fun _=>True) (fun _=>[eE X z q (fun _=>True) C m R]) (fun _=>bE [ai 1 aj (vc z C (mem,page) at_ n),aU (fG z (mem,page) at_ n:Int)]):=by
 refine In 62 Tryz.func123 fun _ _ _=>?_;refine .KB fun p a s hG=>?_;obtain⟨D,hDm,hDk,hI⟩:=hG.ex;have hsz:=hI.ok.st.size;have hgz:=hG.sz;have hRR:=az;have hwr:=hG.wrong (mem,page) at_ n;refine cc ?_;refine .n (au FZ.out) rfl fun R5 _=>?_;refine Z3 ?_;refine .share (t:=12) (i:=0) rfl rfl ?_;refine Z7 ?_;refine .n ((kL [_,_,_,_,_,_,_,_] [0,4,1,2,3,5,6,7,8,9] (h:=sv (p:=p) (s:=s) (k:=(mem,page)) (at_:=at_) (n:=n) (by omega))).same (fun _ _=>aB.perm (Perm.idx [0,2,3,4,1,5,6,7,8,9] rfl rfl)) (fun _ _=>af.refl _)) rfl fun _ _=>?_;refine Z9 ?_;refine Cd (fun c0=>?_) fun c0=>?_
 ·
  have hne:fG z (mem,page) at_ n≠0:=by(rw[←hwr];omega)
  have hrd:vc z C (mem,page) at_ n=[]:=by unfold vc;rw[if_neg hne]
  refine Z9 ?_;refine Post.bk rfl rfl (()) (by trivial) (iF (p:=p) (a0:=a) (a:=a) (s:=s) (r:=[]) hRR hI.ok.ar (dP.refl _ _) ⟨⟨D,hDm,hDk,hI⟩,hG.sz,hG.cp,trivial⟩) rfl (.cons (.rt rfl) ?_ (.cons (.rt rfl) ?_ .nil))
  · exact(aI _ _).trans (af.of_eq (by rw[hrd]))
  exact af.int (by rw[←hwr])
 have q6:fG z (mem,page) at_ n=0:=by(rw[←hwr];omega)
 obtain⟨CD,hk2,wj,hn0,hsum⟩:=BN q6;have hrd:vc z C (mem,page) at_ n=((C (mem,page)).drop at_.toNat).take n.toNat:=by unfold vc;rw[if_pos q6]
 refine Z7 ?_;refine .n ((kL [_,_,_,_,_,_,_] [0,2,3,1,4,5,6,7,8,9] (h:=xT (p:=p) (k:=(mem,page)))).same (fun _ _=>aB.perm (Perm.idx [0,3,1,2,4,5,6,7,8,9] rfl rfl)) (fun _ _=>af.refl _)) rfl fun _ _=>?_;refine Z3 ?_;refine Cd (fun c1=>?_) fun c1=>?_
 ·
  have Xu:=hI.unknown c1;have hlc:=hI.u9 (mem,page);have hres:List.replicate n.toNat (0:UInt8)=((C (mem,page)).drop at_.toNat).take n.toNat:=by(rw[pL Xu,List.drop_replicate,List.take_replicate];congr 1;omega)
  refine Z3 ?_;refine .p (EN FU.out FC.out FY.out FZ.out (.t rfl) (show n=((n.toNat:Nat):Int) by omega) (by omega)) rfl ?_;refine Z6 ?_;refine Post.bk rfl rfl (()) (by trivial) (iF (p:=p) (a0:=a) (a:=a) (s:=s) (r:=[]) hRR hI.ok.ar (dP.refl _ _) ⟨⟨D,hDm,hDk,hI⟩,hG.sz,hG.cp,trivial⟩) rfl (.cons (.rt rfl) ?_ (.cons (.rt rfl) ?_ .nil))
  · exact af.of_eq (by rw[hres,hrd])
  exact af.int (by rw[q6];rfl)
 refine Z6 ?_;refine .n (cE (h:=Aa (p:=p) (a:=a) (s:=s) (k:=(mem,page)) hI)) rfl fun g36 PC=>?_;refine Z7 ?_;obtain⟨p5,a5,s5,i5⟩:=g36;have I6:=PC.inv;obtain⟨f5,rz,Xv,RU,hd5⟩:=PC.fr;simp only at rz I6;have PA:i5<X.n:=by(rw[←I6.ok.n];exact(List.getElem?_eq_some_iff.1 rz).1)
 have PB:=I6.ok.ar;have hz5:s5.size=z:=PC.size.trans hG.sz;have hc5:s5.cap=(q:Int):=PC.cap.trans hG.cp;have ap4:=I6.ok.room f5 (List.mem_of_getElem? rz);have hm5:=PB.most;have hres:a5.get (f5.at_+at_.toNat) n.toNat=((C (mem,page)).drop at_.toNat).take n.toNat:=by(have h9:=I6.fr i5 f5 rz Xv;rw[RU] at h9;rw[←h9];exact Rw (by omega))
 refine Z7 ?_;refine CT fun c2=>?_;refine Z3 ?_;refine .bP [(0,0),(1,0),(2,0),(3,1),(4,0),(5,0),(6,0),(7,1),(8,0),(9,0),(10,0),(11,1),(12,0),(13,0),(14,0),(15,4),(16,0),(17,0)] 18 2 FM.out (by kernel_rfl) (k:= ?_);refine Z9 ?_;refine .p rfl (fun _=>aX i5 FU.out FC.out rfl (.t rfl) (.t rfl) rfl PA) ?_;refine Z1 ?_;refine .o rfl (fL (i:=1) (r:=0) FA.out (.t rfl) rfl rz rfl) ?_;refine Z1 ?_;refine .p rfl (fun _=>(eU (.t rfl) (.t rfl) ee).le (af.int (show _=((f5.at_+at_.toNat:Nat):Int) by omega))) ?_;refine .p rfl (fun _=>(Cv (.t rfl)).le (af.int (show _=((n.toNat:Nat):Int) by omega))) ?_;refine .a rfl ((kL [_,_,_,_,_,_] [5,6,7,8,0,1,2,3,4,9] (h:=xR (X:=X.Y) (a:=a5) (at_:=f5.at_+at_.toNat) (n:=n.toNat) PB (by omega))).same (fun _ _=>aB.perm (Perm.idx [4,5,6,7,8,0,1,2,3,9] rfl rfl)) (fun _ _=>af.refl _)) (fun _ _=>aB.refl _) fun _ _=>?_;refine Z2 ?_;refine .fin ?_;refine Z5 ?_;refine Post.bk rfl rfl (()) (by trivial) (iF (p:=p5) (a0:=a) (a:=a5) (s:=s5) (r:=[]) hRR hI.ok.ar PC.out ⟨⟨D,hDm,hDk,I6⟩,hz5,hc5,trivial⟩) rfl (.cons (.rt rfl) ?_ (.cons (.rt rfl) ?_ .nil))
 · exact af.of_eq (by rw[hres,hrd])
 exact af.int (by rw[q6];rfl)
theorem I8{a:Nat}(az:nG X R)(hp1:0<z)(hp2:z≤1024)(fI:0≤mm.num)(oe:a+n≤4611686018427387904)(yH:n≤1048576):cv Tryz.prog 99 [aD mb 0,ag .u64 (a:Int),aU (n:Int)] [dQ mb X.pb mm,eE X z q T C m R] (γ:=Unit) (fun _=>True) (fun _=>[dQ mb X.pb mm,eE X z q (fun _=>True) C m R]) (fun _=>bE [ai 1 aj (rX z C mm.num a n),aU 0]):=by
 refine cv.O7 44 Tryz.func99 rfl rfl rfl fun w0 S0 M=>?_;have hz:=hp1;obtain⟨N,hN,hlt⟩:=BO (at_:=a) (n:=n) hp1;refine Z3 ?_;refine .n (au FZ.out) rfl fun b6 _=>?_;refine .n (au FZ.out) rfl fun b7 _=>?_;refine Z5 ?_;refine .n (L4 (enc:=aj) FU.out FC.out FY.out FZ.out (.t rfl) rfl (by omega)) rfl fun g13 _=>?_;refine .n (au FZ.out) rfl fun b8 _=>?_;refine Z9 ?_;refine .n ((kL [_,_,_,_] [4,5,0,1,2,3] (h:=xW (mb:=mb) (mm:=mm) (X:=X) (z:=z) (q:=q) (m:=m) (T:=T) (C:=C) (R:=R) (a:=a) (n:=n) az hp2)).same (fun _ _=>aB.perm (Perm.idx [2,3,4,5,0,1] rfl rfl)) (fun _ _=>af.refl _)) rfl fun _ _=>?_;refine Z3 ?_;refine .Xg 5 rfl fun hlC=>?_;refine .own (aB.trans (BT (xs:=[])) (aB.cons _ (aB.cons _ (aB.cons _ (aB.cons _ (ve (T':=fun _=>True) fun _ _=>trivial)))))) ?_;refine .O8 N (fun j=>[L5 b8 (rX z C mm.num a (dL z a n j)),ax b7 [aU 0],ax b6 [aa (.slice none 0 0)],dQ mb X.pb mm,eE X z q (fun _=>True) C m R]) (fun j=>[aC [aU (((a+dL z a n j)/z:Nat):Int),aU (((a+dL z a n j)%z:Nat):Int),aU (iO z a n (dL z a n j):Int),aU (dL z a n j:Int)]]) rfl rfl rfl FB.out (.t rfl) rfl (by decide) (fun _ _=>rfl) (fun l D r hY=>vu (z:=z) (a:=a) (n:=n) (N:=N) (J:=fun j=>mo l D .ready r _::(fun j=>[L5 b8 (rX z C mm.num a (dL z a n j)),ax b7 [aU 0],ax b6 [aa (.slice none 0 0)],dQ mb X.pb mm,eE X z q (fun _=>True) C m R]) j) hp1 hp2 oe hN hlt hY) (fun l D fn tmps j hj w0 S0 M=>?_) (fun D=>?_)
 ·
  have Hw:=nH z a n j;have hst:dL z a n j+iO z a n (dL z a n j)≤n:=nH z a n (j+1);have hml:=E9 z C mm.num a (dL z a n j);have bB2:=E9 z C mm.num ((a+dL z a n j)) (iO z a n (dL z a n j));have hfit:=E6 (at_:=a) (n:=n) (d:=dL z a n j) hz;have TR:fG z (mm.num,(((a+dL z a n j)/z:Nat):Int)) (((a+dL z a n j)%z:Nat):Int) ((iO z a n (dL z a n j):Nat):Int)=0:=oE fI hz hfit;refine .own (aB.perm (Perm.idx [1,0,2,3,4,5] rfl rfl)) ?_;refine .KF fun sb=>?_;refine Z1 ?_;refine .n (au FZ.out) rfl fun b9 _=>?_;refine Z2 ?_;refine .share (t:=9) (i:=0) rfl rfl (bN.own (aB.perm (Perm.idx [2,0,1,3,4,5,6] rfl rfl)) (bN.begin ?_));refine Z2 ?_;refine .bP [(0,0),(1,0),(2,0),(3,1),(4,0),(5,0),(6,0),(7,1),(8,0),(9,0),(10,0),(11,0),(12,0),(13,0),(14,2),(15,0),(16,0),(17,0),(18,0)] 19 1 FM.out (by kernel_rfl) (k:= ?_);refine Z3 ?_;refine .o rfl (fK (i:=5) FA.out (.t rfl) rfl rfl) ?_;refine Z3 ?_;refine .o rfl (fK (i:=5) FA.out (.t rfl) rfl rfl) ?_;refine Z6 ?_;refine .e rfl (kL [_,_,_,_,_,_] [6,0,1,2,3,4,5] (h:=I7 (X:=X) (z:=z) (q:=q) (m:=m) (T:=fun _=>True) (C:=C) (R:=R) (mem:=mm.num) (page:=(((a+dL z a n j)/z:Nat):Int)) (at_:=(((a+dL z a n j)%z:Nat):Int)) (n:=((iO z a n (dL z a n j):Nat):Int)) az)) fun NX NY=>?_;refine Z4 ?_;refine .fin ?_;refine cD ?_;refine Cd (fun c0=>?_) fun c0=>?_
  · exact(c0 (congrArg Int.ofNat TR)).elim
  refine Z5 ?_;refine .n (aF (i:=3) (xs:=rX z C mm.num a (dL z a n j)) (ys:=vc z C (mm.num,(((a+dL z a n j)/z:Nat):Int)) (((a+dL z a n j)%z:Nat):Int) ((iO z a n (dL z a n j):Nat):Int)) FU.out FU.out FC.out rfl FZ.out rfl FY.out (.t rfl) (.t rfl) rfl (by rw[wL fI hz hlC hfit];omega) (by rw[wL fI hz hlC hfit];omega)) rfl fun yJ _=>?_;refine Z3 ?_;refine .own (aB.perm (Perm.idx [2,3,1,4,5,6,0] rfl rfl)) (bN.own (aB.trans (BT (xs:=rX z C mm.num a (dL z a n j)++vc z C (mm.num,(((a+dL z a n j)/z:Nat):Int)) (((a+dL z a n j)%z:Nat):Int) ((iO z a n (dL z a n j):Nat):Int))) (aB.trans (aB.xM (show L5 b8 _=L5 b8 (rX z C mm.num a (dL z a n (j+1))) by rw[wL fI hz hlC hfit,←OY];rfl)) (aB.perm (Perm.idx [1,0,2,3,4,5] rfl rfl)))) (bN.endRound))
 refine Z3 ?_;refine .own (aB.perm (Perm.idx [1,0,2,3,4,5] rfl rfl)) ?_;refine .KF fun sb=>?_;refine Z2 ?_;refine .s (jc (i:=4) FC.out (.t rfl) (.t rfl) rfl rfl) ?_;refine .s (jc (i:=3) FC.out (.t rfl) (.c _) rfl rfl) ?_;refine Z2 ?_;refine .dO (i:=1) (j:=3) (f:=0) rfl rfl rfl ?_;refine Z1 ?_;refine .own (aB.perm (Perm.idx [1,0,2,3,4,5] rfl rfl)) (rY.bk rfl rfl (()) (by trivial) (aB.dF [3,4] [0,1,2] rfl rfl) rfl (.cons (.rc (i:=2) FA.out rfl rfl rfl) ?_ (.cons (.rc (i:=1) FA.out rfl rfl rfl) ?_ .nil)))
 · exact af.of_eq (by rw[hN])
 exact af.refl _
theorem I9{a:Nat}{n:Int}(az:nG X R)(hp1:0<z)(hp2:z≤1024)(fI:O9 mm)(oe:a<18446744073709551616)(yH:o<18446744073709551616):cv Tryz.prog 55 [aD mb 0,ag .u64 (a:Int),ag .u64 (o:Int),aU n] [dQ mb X.pb mm,eE X z q T C m R] (γ:=Unit) (fun _=>True) (fun _=>[dQ mb X.pb mm,eE X z q (fun _=>True) C m R]) (fun _=>bE [ai 1 aj (if (cz mm.pages a o n).2=(0,0) then rX z C mm.num (a+o) (n:Int).toNat else[]),aU ((cz mm.pages a o n).2.1:Int),aU ((cz mm.pages a o n).2.2:Int)]):=by
 refine In 41 Tryz.func55 fun _ _ _=>?_;have Mu:=fI.num;have hmo:=fI.most;have WM:=fI.pages
 refine jP ?_;refine .n ((cE (h:=xV (mb:=mb) (pb:=X.pb) (mm:=mm) (a:=a) (o:=o) (n:=n) fI oe yH)).same (fun _ _=>aB.refl _) (fun _ _=>af.refl _)) rfl fun _ _=>?_;refine Kx ?_;refine Cd (fun c0=>?_) fun c0=>?_
 ·
  have hne:¬(cz mm.pages a o n).2=(0,0):=fun e=>by(have e1:=congrArg Prod.fst e;have e2:=congrArg Prod.snd e;simp only at e1 e2;rcases c0 with h|h;exact h (by rw[e1];rfl);exact h (by rw[e2];rfl))
  refine cc ?_;refine Post.bk rfl rfl (()) (by trivial) (aB.cons _ (ve fun _ _=>trivial)) rfl (.cons (.rt rfl) ?_ (.cons (.rt rfl) ?_ (.cons (.rt rfl) ?_ .nil)))
  · exact(aI _ _).trans (af.of_eq (by rw[if_neg hne]))
  · exact af.refl _
  exact af.refl _
 have q6:(cz mm.pages a o n).2=(0,0):=Prod.ext (by(have h9:=mt Or.inl c0;simp only[Classical.not_not] at h9;show(cz mm.pages a o n).2.1=0;omega)) (by(have h9:=mt Or.inr c0;simp only[Classical.not_not] at h9;show(cz mm.pages a o n).2.2=0;omega));obtain⟨hn0,R6,hin,hw1⟩:=wM (.inr q6);refine Z7 ?_;refine .n (cG (rest:=[]) (I8 (mb:=mb) (mm:=mm) (X:=X) (z:=z) (q:=q) (m:=m) (T:=T) (C:=C) (R:=R) (a:=a+o) (n:=n.toNat) az hp1 hp2 Mu (by omega) (by omega)) FB.out (.cons (.t rfl) (.cons (.le (.t rfl) (af.int (by rw[hw1]))) (.cons (.le (.t rfl) (af.int (show _=((n.toNat:Nat):Int) by omega))) .nil))) (Perm.idx [0,1] rfl rfl)) rfl fun g36 PC=>?_;refine EX ?_;refine LI ?_ ?_ ?_
 · exact af.of_eq (by rw[if_pos q6])
 · exact af.int (by rw[q6];rfl)
 exact af.int (by rw[q6];rfl)
theorem FT{a:Nat}(az:nG X R)(hp1:0<z)(hp2:z≤1024)(fI:0≤mm.num)(oe:a+ys.length≤4611686018427387904)(yH:m+(ys.length/z+2)≤q):cv Tryz.prog 52 [aD mb 0,ag .u64 (a:Int),ai 1 aj ys] [dQ mb X.pb mm,eE X z q T C m R] (γ:=Unit) (fun _=>True) (fun _=>[dQ mb X.pb mm,eE X z q (fun _=>True) (ym z C mm.num a ys) (m+(ys.length/z+2)) R]) (fun _=>aU 0):=by
 refine cv.O7 40 Tryz.func52 rfl rfl rfl fun w0 S0 M=>?_;have hz:=hp1;obtain⟨N,hN,hlt⟩:=BO (at_:=a) (n:=ys.length) hp1;have ap5:=L1 hp1 hlt;refine Z4 ?_;refine .n (au FZ.out) rfl fun b6 _=>?_;refine Z9 ?_;refine .n ((kL [_] [1,2,0] (h:=xW (mb:=mb) (mm:=mm) (X:=X) (z:=z) (q:=q) (m:=m) (T:=T) (C:=C) (R:=R) (a:=a) (n:=ys.length) az hp2)).same (fun _ _=>aB.perm (Perm.idx [2,0,1] rfl rfl)) (fun _ _=>af.refl _)) rfl fun _ _=>?_;refine Z3 ?_;refine .Xg 2 rfl fun hlC=>?_;refine .own (aB.cons _ (aB.cons _ (aB.trans (ve (T':=fun _=>True) fun _ _=>trivial) (aB.xM (show eE X z q (fun _=>True) C m R=eE X z q (fun _=>True) (ym z C mm.num a (ys.take (dL z a ys.length 0))) (m+0) R by rw[show dL z a ys.length 0=0 from rfl,List.take_zero,RE hlC];rfl))))) ?_;refine .O8 N (fun j=>[ax b6 [aU 0],dQ mb X.pb mm,eE X z q (fun _=>True) (ym z C mm.num a (ys.take (dL z a ys.length j))) (m+j) R]) (fun j=>[aC [aU (((a+dL z a ys.length j)/z:Nat):Int),aU (((a+dL z a ys.length j)%z:Nat):Int),aU (iO z a ys.length (dL z a ys.length j):Int),aU (dL z a ys.length j:Int)]]) rfl rfl rfl FB.out (.t rfl) rfl (by decide) (fun _ _=>rfl) (fun l D r hY=>vu (z:=z) (a:=a) (n:=ys.length) (N:=N) (J:=fun j=>mo l D .ready r _::[ax b6 [aU 0],dQ mb X.pb mm,eE X z q (fun _=>True) (ym z C mm.num a (ys.take (dL z a ys.length j))) (m+j) R]) hp1 hp2 oe hN hlt hY) (fun l D fn tmps j hj w0 S0 M=>?_) (fun D=>?_)
 ·
  have Hw:=nH z a ys.length j;have YW:=Nat.mod_lt (a+dL z a ys.length j) hz;have hdq:=Nat.div_le_self (a+dL z a ys.length j) z;have Ks:(0:Int)≤(((a+dL z a ys.length j)/z:Nat):Int):=Int.natCast_nonneg _;have hst:dL z a ys.length j+iO z a ys.length (dL z a ys.length j)≤ys.length:=nH z a ys.length (j+1);have O6:((ys.drop (dL z a ys.length j)).take (iO z a ys.length (dL z a ys.length j))).length=iO z a ys.length (dL z a ys.length j):=by(simp;omega)
  have hfit:=E6 (at_:=a) (n:=ys.length) (d:=dL z a ys.length j) hz;have TR:fG z (mm.num,(((a+dL z a ys.length j)/z:Nat):Int)) (((a+dL z a ys.length j)%z:Nat):Int) (((ys.drop (dL z a ys.length j)).take (iO z a ys.length (dL z a ys.length j))).length:Int)=0:=by(rw[O6];exact oE fI hz hfit)
  refine Z1 ?_;refine .n (au FZ.out) rfl fun b7 _=>?_;refine Z2 ?_;refine .share (t:=7) (i:=0) rfl rfl (bN.begin ?_);refine Z2 ?_;refine .br 21 2 FM.out (by kernel_rfl) (k:= ?_);refine Kx ?_;refine .p (Ls (l:=dL z a ys.length j) (h:=dL z a ys.length j+iO z a ys.length (dL z a ys.length j)) FU.out FC.out rfl (.t rfl) (.t rfl) (.t rfl) rfl (by omega) (by omega) (by omega)) ?_;refine Z1 ?_;refine .n (cG (rest:=[_,_,_]) (FO (X:=X) (z:=z) (q:=q) (m:=m+j) (T:=fun _=>True) (C:=ym z C mm.num a (ys.take (dL z a ys.length j))) (R:=R) (mem:=mm.num) (page:=(((a+dL z a ys.length j)/z:Nat):Int)) (at_:=(((a+dL z a ys.length j)%z:Nat):Int)) (ys:=(ys.drop (dL z a ys.length j)).take (iO z a ys.length (dL z a ys.length j))) (by omega) (by omega) az) FB.out (.cons (.t rfl) (.cons (.t rfl) (.cons (.t rfl) (.cons (.t rfl) (.cons (.le (.t rfl) (af.of_eq (by rw[List.drop_take,Nat.add_sub_cancel_left]))) .nil))))) (Perm.idx [3,0,1,2] rfl rfl)) rfl fun g36 PC=>?_;refine Z9 ?_;refine Cd (fun c0=>?_) fun c0=>?_
  · exact(c0 (congrArg Int.ofNat TR)).elim
  refine Z2 ?_;refine .own (aB.perm (Perm.idx [1,2,3,0] rfl rfl)) (bN.own (aB.cons _ (aB.cons _ (aB.cons _ (aB.xM (show eE X z q (fun _=>True) (rW z (ym z C mm.num a (ys.take (dL z a ys.length j))) (mm.num,(((a+dL z a ys.length j)/z:Nat):Int)) (((a+dL z a ys.length j)%z:Nat):Int) ((ys.drop (dL z a ys.length j)).take (iO z a ys.length (dL z a ys.length j)))) (m+j+1) R=eE X z q (fun _=>True) (ym z C mm.num a (ys.take (dL z a ys.length (j+1)))) (m+(j+1)) R by rw[Ib fI hz hlC hfit hst];rfl))))) (bN.endRound))
 refine Z8 ?_;refine rY.aR rfl (()) (by trivial) (aB.trans (aB.dF [1,2] [0] rfl rfl) (aB.cons _ (aB.trans (vb (show m+N≤m+(ys.length/z+2) by omega)) (aB.xM (by rw[hN,List.take_length]))))) (.rc (i:=0) FA.out rfl rfl rfl) ?_;exact af.refl _
theorem FV(az:ys.length≤4194304):cQ Tryz.prog 53 [ai 1 aj ys] (ai 1 aj ys):=by
 refine In 8 Tryz.func53 fun _ _ _=>?_;refine .Rl (t:=0) rfl fun p Un=>?_;refine Z9 ?_;refine .p (LG FU.out (.t rfl) (.c _)) rfl ?_;refine Z2 ?_;refine Cd (fun c0=>?_) fun c0=>?_
 ·
  refine Z7 ?_;refine bB ?_;exact(Un c0)▸aI _ _
 refine Z4 ?_;refine .p (kM FU.out FC.out rfl FZ.out rfl) rfl ?_;refine Z1 ?_;refine .p (sQ FU.out FU.out FC.out rfl FZ.out rfl FY.out (.t rfl) (.le (.t rfl) HS) (by omega)) rfl ?_;refine Z4 ?_;refine bB ?_;exact af.refl _
theorem FW{a:Nat}(az:nG X R)(hp1:0<z)(hp2:z≤1024)(fI:O9 mm)(oe:a<18446744073709551616)(yH:o<18446744073709551616)(Q0:m+(ys.length/z+2)≤q)(R7:ys.length≤4194304):cv Tryz.prog 25 [aD mb 0,ag .u64 (a:Int),ag .u64 (o:Int),ai 1 aj ys] [dQ mb X.pb mm,eE X z q T C m R] (γ:=Unit) (fun _=>True) (fun _=>[dQ mb X.pb mm,eE X z q (fun _=>True) (if (cz mm.pages a o (ys.length:Int)).2=(0,0) then ym z C mm.num (a+o) ys else C) (m+(ys.length/z+2)) R]) (fun _=>bE [aU ((cz mm.pages a o (ys.length:Int)).2.1:Int),aU ((cz mm.pages a o (ys.length:Int)).2.2:Int)]):=by
 refine In 36 Tryz.func25 fun _ _ _=>?_;have Mu:=fI.num;have hmo:=fI.most;have WM:=fI.pages
 refine jP ?_;refine .n ((cE (h:=xV (mb:=mb) (pb:=X.pb) (mm:=mm) (a:=a) (o:=o) (n:=(ys.length:Int)) fI oe yH)).same (fun _ _=>aB.refl _) (fun _ _=>af.refl _)) rfl fun _ _=>?_;refine Kx ?_;refine Cd (fun c0=>?_) fun c0=>?_
 ·
  have hne:¬(cz mm.pages a o (ys.length:Int)).2=(0,0):=fun e=>by(have e1:=congrArg Prod.fst e;have e2:=congrArg Prod.snd e;simp only at e1 e2;rcases c0 with h|h;exact h (by rw[e1];rfl);exact h (by rw[e2];rfl))
  refine cD ?_;refine Post.bk rfl rfl (()) (by trivial) (aB.cons _ (aB.trans (ve (T':=fun _=>True) fun _ _=>trivial) (aB.trans (vb (Nat.le_add_right _ _)) (aB.xM (by rw[if_neg hne]))))) rfl (.cons (.rt rfl) ?_ (.cons (.rt rfl) ?_ .nil))
  · exact af.refl _
  exact af.refl _
 have q6:(cz mm.pages a o (ys.length:Int)).2=(0,0):=Prod.ext (by(have h9:=mt Or.inl c0;simp only[Classical.not_not] at h9;show(cz mm.pages a o (ys.length:Int)).2.1=0;omega)) (by(have h9:=mt Or.inr c0;simp only[Classical.not_not] at h9;show(cz mm.pages a o (ys.length:Int)).2.2=0;omega));obtain⟨hn0,R6,hin,hw1⟩:=wM (.inr q6);refine Z7 ?_;refine .p (cA (h:=FV (by omega))) rfl ?_;refine .n (cG (rest:=[]) (FT (mb:=mb) (mm:=mm) (X:=X) (z:=z) (q:=q) (m:=m) (T:=T) (C:=C) (R:=R) (a:=a+o) (ys:=ys) az hp1 hp2 Mu (by omega) Q0) FB.out (.cons (.t rfl) (.cons (.le (.t rfl) (af.int (by rw[hw1]))) (.cons (.t rfl) .nil))) (Perm.idx [0,1] rfl rfl)) rfl fun AW KQ=>?_;refine Z5 ?_;refine Post.bk rfl rfl (()) (by trivial) (aB.cons _ (aB.xM (by rw[if_pos q6]))) rfl (.cons (.rt rfl) ?_ (.cons (.rt rfl) ?_ .nil))
 · exact af.int (by rw[q6];rfl)
 exact af.int (by rw[q6];rfl)
theorem Mv{pages most:Nat}{wide:Prop}(az:0≤num)(hp1:pages≤most)(hp2:most≤65536):cv Tryz.prog 79 [aD pb 0,aU num,aU (pages:Int),aU (most:Int),ak wide] [] (γ:=Nat) (fun _=>True) (fun mb=>[dQ mb pb ⟨num,pages,most,most,wide⟩]) (fun mb=>bE [aD mb 0,aU 0]):=by
 refine In 39 Tryz.func79 fun _ _ _=>?_;refine cc ?_;refine .p (cm FU.out (.t rfl)) rfl ?_;refine Z3 ?_;refine CT fun c0=>?_;refine Kx ?_;refine CT fun c1=>?_;refine dN ?_;refine .n (bW (.t rfl)) rfl fun b38 _=>?_;refine Z5 ?_;refine Post.bk rfl rfl (b38) (by trivial) (fun _ _ _ h=>h) rfl (.cons (.rt rfl) ?_ (.cons (.rt rfl) ?_ .nil))
 · exact .z
 exact .z
theorem FX:cv Tryz.prog 98 [aD mb 0] [dQ mb pb mm] (γ:=Unit) (fun _=>True) (fun _=>[dQ mb pb mm]) (fun _=>aU (mm.pages:Int)):=by
 refine In 9 Tryz.func98 fun _ _ _=>?_;refine Z9 ?_;refine .p (cm FU.out (.t rfl)) rfl ?_;refine Z2 ?_;refine CT fun c0=>?_;refine dN ?_;refine bB ?_;exact .z
end Go.Proofs.YtpfobikpggmleaaGreatDoor
end
section
namespace Go.Hl
structure R8(m:aT):Prop where
 sigs:(m.bQ.length:Int)≤50
 imports:(m.aJ.length:Int)≤20
 funcs:(m.aJ.length:Int)+(m.aA.length:Int)≤100
 ei:(m.bz.length:Int)≤4
 globals:(m.an.length:Int)≤50
 aZ:(m.bK.length:Int)≤50
 elems:(m.bw.length:Int)≤20
 bX:(m.bl.length:Int)≤20
 table: -1≤m.Table∧m.Table≤1000
variable {m:aT}
theorem cR(h:dM m):R8 m where
 sigs:=(bM.1 h.sigs).1
 imports:=(bM.1 h.imports).1
 funcs:=by
  have h5:=h.funcs;unfold lg at h5
  split at h5
  · cases h5
  · unfold cO at*;omega
 ei:=(bM.1 h.ei).1
 globals:=(bM.1 h.globals).1
 aZ:=(bM.1 h.aZ).1
 elems:=(bM.1 h.elems).1
 bX:=(bM.1 h.bX).1
 table:=by
  have h5:=h.table;unfold nI at h5
  split at h5
  · cases h5
  · have h6:=(cM (by decide)).1 h5;omega
theorem U2(h:dM m){z:kY}(hz:z∈m.bQ):kZ z.P∧kZ z.R:=Classical.not_not.1 ((cM (by decide)).1 (fA.1 (bM.1 h.sigs).2 z hz))
theorem PD(h:dM m){z:gu}(hz:z∈m.aJ):jk z.Module∧jk z.Name∧gA z.gX m.bQ.length:=by
 have h1:=fA.1 (bM.1 h.imports).2 z hz;unfold gB at h1
 split at h1
 · cases h1
 · rename_i h2
   exact⟨Classical.byContradiction fun e=>h2 (.inl e),Classical.byContradiction fun e=>h2 (.inr e),Classical.not_not.1 ((cM (by decide)).1 h1)⟩
theorem R9(h:dM m){z:cN}(hz:z∈m.aA):gA z.gX m.bQ.length:=Classical.not_not.1 ((cM (by decide)).1 (qz h.funcs z hz))
theorem PE(h:dM m){z:dR}(hz:z∈m.bz):0≤z.Min∧z.Min≤65536∧(z.Max<0∨z.Min≤z.Max∧z.Max≤65536):=Classical.not_not.1 ((cM (by decide)).1 (fA.1 (bM.1 h.ei).2 z hz))
theorem wY(h:dM m){z:gy}(hz:z∈m.an):(z.Ty.toNat:Int)=126∨(z.Ty.toNat:Int)=127∧z.Value≤4294967295:=by
 have h1:=(cM (by decide)).1 (fA.1 (bM.1 h.globals).2 z hz);have h2:¬eP z.Ty=0:=fun e=>h1 (.inl e);have h3:¬((z.Ty.toNat:Int)=127∧4294967295<z.Value):=fun e=>h1 (.inr e);rw[qx,Classical.not_not] at h2;rcases h2 with e|e
 · exact .inl (by rw[e];rfl)
 · exact .inr ⟨by rw[e];rfl,Classical.byContradiction fun h4=>h3 ⟨by rw[e];rfl,by omega⟩⟩
theorem wZ(h:dM m){i:Nat}{x:dH}(hx:m.bK[i]?=some x):jk x.Name∧(∀j y,j<i→m.bK[j]?=some y→y.Name≠x.Name)∧
    (((x.Kind=0∧gA x.Index (cO m)∨(x.Kind=1∧0≤m.Table)∧x.Index=0)∨x.Kind=2∧gA x.Index m.bz.length)∨x.Kind=3∧gA x.Index m.an.length):=by
  have hi:=(List.getElem?_eq_some_iff.1 hx).1;have h1:jV m i=0:=mj.1 (bM.1 h.aZ).2 i hi;unfold jV at h1;rw[hx] at h1;simp only at h1
  split at h1
  · cases h1
  · rename_i h2
    have h3:=Classical.not_not.1 ((cM (by decide)).1 h1);have ht:=(cR h).table;refine⟨Classical.byContradiction fun e=>h2 (.inl e),fun j y hj hy e=>h2 (.inr ⟨y,List.mem_iff_getElem?.2 ⟨j,by rw[List.getElem?_take,if_pos hj];exact hy⟩,e⟩),?_⟩;obtain⟨h4,h5⟩:=h3;unfold gA at h4;have hw:IntKind.i64.wrap (m.Table+1)=m.Table+1:=by unfold IntKind.wrap;simp[IntKind.signed,IntKind.bits];omega
    have k0:nJ 0=0:=by decide
    have k1:nJ 1=1:=by decide
    have k2:nJ 2=2:=by decide
    have k3:nJ 3=3:=by decide
    rcases(by omega:x.Kind=0∨x.Kind=1∨x.Kind=2∨x.Kind=3) with e|e|e|e
    · rw[e,k0] at h5;exact .inl (.inl (.inl ⟨e,h5⟩))
    · rw[e,k1] at h5;unfold gA at h5;simp only[cnt,hw] at h5;exact .inl (.inl (.inr ⟨⟨e,by omega⟩,by omega⟩))
    · rw[e,k2] at h5;exact .inl (.inr ⟨e,h5⟩)
    · rw[e,k3] at h5;exact .inr ⟨e,h5⟩
theorem F3(h:dM m)(hn:m.Start≠ -1):gA m.Start (cO m)∧∀s,ja m m.Start=some s→¬0<(s.P.length:Int)+(s.R.length:Int):=by
 have h1:=h.start;unfold jN at h1;rw[if_neg hn] at h1;have hI:∀z∈m.aJ,gB m z=0:=fA.1 (bM.1 h.imports).2;cases hs:ja m m.Start with
 |none=>rw[hs] at h1;cases h1
 |some s=>
  rw[hs] at h1;refine⟨(KJ hI (qz h.funcs)).1 (by rw[hs];rfl),fun s' e=>?_⟩;cases e;exact(cM (by decide)).1 h1
theorem vv(h:dM m){z:ez}(hz:z∈m.bw):(z.aA.length:Int)≤20∧0≤m.Table∧z.At≤4294967295∧∀f∈z.aA,gA f (cO m):=by
 have h1:=fA.1 (bM.1 h.elems).2 z hz;unfold tI at h1
 split at h1
 · cases h1
 · have h2:=(cM (by decide)).1 h1
   have ht:=(cR h).table;have h3:m.Table≠ -1:=fun e=>h2 (.inl e);exact⟨by omega,by omega,Classical.byContradiction fun e=>h2 (.inr (.inr (by omega))),fun f hf=>Classical.byContradiction fun e=>h2 (.inr (.inl ⟨f,hf,e⟩))⟩
theorem yK(h:dM m){z:fV}(hz:z∈m.bl):(z.Bytes.length:Int)≤4096∧gA z.Mem m.bz.length∧∀y,m.bz[z.Mem.toNat]?=some y→¬(¬y.bO∧4294967295<z.At):=by
 have h1:=fA.1 (bM.1 h.bX).2 z hz;unfold tJ at h1
 split at h1
 · cases h1
 · have h2:=(cM (by decide)).1 h1
   exact⟨by omega,Classical.byContradiction fun e=>h2 (.inl e),fun y hy e=>h2 (.inr ⟨y,hy,e⟩)⟩
def aQ(c:Int):Prop:=c=2∨c=3∨c=4
instance (c:Int):Decidable (aQ c):=inferInstanceAs (Decidable (_∨_))
def fB:List Int→List (Int×Bool)→Prop
 |[],_=>False
 | c::r,st=>
  if aQ c then st.length<64∧fB r ((c,false)::st)
  else if c=5 then match st with
   |[]=>False
   |(b,e)::t=>(b=4∧e=false)∧fB r ((b,true)::t)
  else if c=11 then match st with
   |[]=>r=[]
   |_::t=>fB r t
  else fB r st
theorem iI(c:Int)(r:List Int)(st:List (Int×Bool)):fB (c::r) st=(if aQ c then st.length<64∧fB r ((c,false)::st)
    else if c=5 then match st with
      |[]=>False
      |(b,e)::t=>(b=4∧e=false)∧fB r ((b,true)::t)
    else if c=11 then match st with
      |[]=>r=[]
      |_::t=>fB r t
    else fB r st):=by
  rw[fB.eq_def]
def dY:Nat→List Int→Nat→Option (List Int)
 |0,_,_=>none
 |_+1,[],_=>some []
 | f +1,c::r,d=>
  if c=11∨c=5 then some (c::r)
  else if aQ c then
   if 64≤d then none else
   match dY f r (d+1) with
   |none=>none
   |some []=>none
   | some (c2::r2)=>
    if c2=5 then
     if c=4 then
      match dY f r2 (d+1) with
      |none=>none
      |some []=>none
      |some (c3::r3)=>if c3=5 then none else dY f r3 d
     else none
    else dY f r2 d
  else dY f r d
theorem nq :∀(f:Nat) (s:List Int) (d:Nat),s.length<f→d≤64→
    (dY f s d=none→∀st,st.length=d→¬fB s st)∧
    (∀r,dY f s d=some r→r.length≤s.length∧(∀c r',r=c::r'→c=11∨c=5)∧∀st,st.length=d→(fB s st↔fB r st)):=by
  intro f
  induction f with
  |zero=>intro s d h;omega
  | succ f ih =>
    intro s d h hd;cases s with
    |nil=>simp[dY]
    | cons c r =>
      simp only[List.length_cons] at h;by_cases h1:c=11∨c=5
      · simp only[dY,h1,if_true]
        refine⟨by simp,fun r' hr=>?_⟩;cases hr;exact⟨Nat.le_refl _,fun c' r' e=>by cases e;exact h1,fun st _=>Iff.rfl⟩
      by_cases h2:aQ c
      · simp only [dY,h1,if_false,h2,if_true]
        have hn:∀st,fB (c::r) st↔st.length<64∧fB r ((c,false)::st):=fun st=>by rw[iI];simp[h2]
        by_cases h3:64≤d
        · simp only[h3,if_true]
          refine⟨fun _ st hs hh=>?_,by simp⟩;have:=((hn st).1 hh).1;omega
        simp only[h3,if_false];have i1:=ih r (d+1) (by omega) (by omega);generalize dY f r (d+1)=o1 at i1;have q:∀st,st.length=d→(fB (c::r) st↔fB r ((c,false)::st)):=fun st hs=>(hn st).trans ⟨fun x=>x.2,fun x=>⟨by omega,x⟩⟩
        match o1,i1 with
        |none,i1=>exact⟨fun _ st hs hh=>i1.1 rfl ((c,false)::st) (by simp[hs]) ((q st hs).1 hh),by simp⟩
        | some [],i1=>
          obtain⟨_,_,i3⟩:=i1.2 [] rfl;exact⟨fun _ st hs hh=>by have:=(i3 ((c,false)::st) (by simp[hs])).1 ((q st hs).1 hh);exact this,by simp⟩
        | some (c2::r2),i1=>
          obtain⟨l2,k2,i3⟩:=i1.2 _ rfl;simp only[List.length_cons] at l2;have q2:∀st,st.length=d→(fB (c::r) st↔fB (c2::r2) ((c,false)::st)):=fun st hs=>(q st hs).trans (i3 _ (by simp[hs]));rcases k2 c2 r2 rfl with e|e
          · subst e
            have hi:=ih r2 d (by omega) hd;have q3:∀st,st.length=d→(fB (c::r) st↔fB r2 st):=fun st hs=>(q2 st hs).trans (by rw[fB];simp[aQ]);simp only[show ¬((11:Int)=5) by decide,if_false];exact⟨fun e st hs hh=>hi.1 e st hs ((q3 st hs).1 hh),fun r' e=>⟨by have:=(hi.2 r' e).1;simp;omega,(hi.2 r' e).2.1,fun st hs=>(q3 st hs).trans ((hi.2 r' e).2.2 st hs)⟩⟩
          · subst e
            simp only[if_true];by_cases h4:c=4
            · subst h4
              simp only[if_true];have q3:∀st,st.length=d→(fB (4::r) st↔fB r2 ((4,true)::st)):=fun st hs=>(q2 st hs).trans (by rw[fB];simp[aQ]);have i4:=ih r2 (d+1) (by omega) (by omega);generalize dY f r2 (d+1)=o2 at i4
              match o2,i4 with
              |none,i4=>exact⟨fun _ st hs hh=>i4.1 rfl _ (by simp[hs]) ((q3 st hs).1 hh),by simp⟩
              | some [],i4=>
                obtain⟨_,_,i5⟩:=i4.2 [] rfl;exact⟨fun _ st hs hh=>(i5 ((4,true)::st) (by simp[hs])).1 ((q3 st hs).1 hh),by simp⟩
              | some (c3::r3),i4=>
                obtain⟨l3,k3,i5⟩:=i4.2 _ rfl;simp only[List.length_cons] at l3;have q4:∀st,st.length=d→(fB (4::r) st↔fB (c3::r3) ((4,true)::st)):=fun st hs=>(q3 st hs).trans (i5 _ (by simp[hs]));rcases k3 c3 r3 rfl with e|e
                · subst e
                  have hi:=ih r3 d (by omega) hd;have q5:∀st,st.length=d→(fB (4::r) st↔fB r3 st):=fun st hs=>(q4 st hs).trans (by rw[fB];simp[aQ]);simp only[show ¬((11:Int)=5) by decide,if_false];exact⟨fun e st hs hh=>hi.1 e st hs ((q5 st hs).1 hh),fun r' e=>⟨by have:=(hi.2 r' e).1;simp;omega,(hi.2 r' e).2.1,fun st hs=>(q5 st hs).trans ((hi.2 r' e).2.2 st hs)⟩⟩
                · subst e
                  simp only[if_true];exact⟨fun _ st hs hh=>by have:=(q4 st hs).1 hh;rw[fB] at this;simp[aQ] at this,by simp⟩
            · simp only[h4,if_false]
              exact⟨fun _ st hs hh=>by have:=(q2 st hs).1 hh;rw[fB] at this;simp[aQ,h4] at this,by simp⟩
      · simp only[dY,h1,if_false,h2]
        have hn:∀st,fB (c::r) st↔fB r st:=fun st=>by
          rw[iI];simp only[h2,if_false]
          rw[if_neg (fun e=>h1 (.inr e)),if_neg (fun e=>h1 (.inl e))]
        have hi:=ih r d (by omega) hd;exact⟨fun e st hs hh=>hi.1 e st hs ((hn st).1 hh),fun r' e=>⟨by have:=(hi.2 r' e).1;simp;omega,(hi.2 r' e).2.1,fun st hs=>(hn st).trans ((hi.2 r' e).2.2 st hs)⟩⟩
theorem w5{f:Nat}{s:List Int}(h:s.length<f):fB s []↔dY f s 0=some [11]:=by
 have hi:=nq f s 0 h (by omega);generalize dY f s 0=o at hi
 match o,hi with
 |none,hi=>simp[hi.1 rfl [] rfl]
 |some [],hi=>simp[(hi.2 [] rfl).2.2 [] rfl,fB]
 |some (c::r),hi=>
  obtain⟨_,k,q⟩:=hi.2 _ rfl;rw[q [] rfl];rcases k c r rfl with e|e<;>subst e<;>simp[fB,aQ]
end Go.Hl
end
