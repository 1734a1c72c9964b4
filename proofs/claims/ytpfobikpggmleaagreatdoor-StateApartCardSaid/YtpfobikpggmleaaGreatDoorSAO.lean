/-
  What the statement's proof leans on, several texts in one (packed by a program).
-/
import Derived.Test.YtpfobikpggmleaaGreatDoorSAN
import Derived.Lib.TrailingZeros
set_option linter.all false
set_option maxRecDepth 1000000
set_option maxHeartbeats 4000000
section
namespace Go.Hl
open Go.Lib
abbrev uV (a:Nat):VP:=ag .u64 (a:Int)
def WE (n A:Nat):Int:=if A<2^(n-1) then (A:Int) else (A:Int)-2^n
def S1 (n:Nat) (signed:Prop) [Decidable signed] (A B:Nat):Prop:=if signed then WE n A<WE n B else A<B
instance {n:Nat} {s:Prop} [Decidable s] {A B:Nat}:Decidable (S1 n s A B):=by unfold S1;infer_instance
def yl (a:Nat):Nat:=if a=0 then 0 else Nat.log2 a+1
variable {a:Nat}
theorem WG {n:Nat} (h:a<2^n):yl a≤n:=by
 unfold yl;split
 · omega
 · exact (Nat.log2_lt (by assumption)).2 h
theorem T8 {n:Nat} (h0:2^n≤a) (h1:a<2^(n+1)):yl a=n+1:=by
 have ha:a≠0:=by have:=Nat.two_pow_pos n;omega
 unfold yl;rw [if_neg ha]
 have h2:=(Nat.log2_lt ha).2 h1
 have h3:=(Nat.le_log2 ha).2 h0
 omega
theorem Ij {k:Nat} (h:2^k≤a):yl a=yl (a/2^k)+k:=by
 have hp:=Nat.two_pow_pos k
 have hd:0<a/2^k:=Nat.div_pos h hp
 have hne:a/2^k≠0:=by omega
 have h1:yl (a/2^k)=Nat.log2 (a/2^k)+1:=by unfold yl;rw [if_neg hne]
 have h2:2^Nat.log2 (a/2^k)≤a/2^k:=Nat.log2_self_le hne
 have h3:a/2^k<2^(Nat.log2 (a/2^k)+1):=Nat.lt_log2_self
 have h4:2^(Nat.log2 (a/2^k)+k)≤a:=by
  rw [Nat.pow_add]
  exact Nat.le_trans (Nat.mul_le_mul_right _ h2) (Nat.div_mul_le_self _ _)
 have h5:a<2^(Nat.log2 (a/2^k)+k+1):=by
  have:a<2^(Nat.log2 (a/2^k)+1)*2^k:=by
   rw [←Nat.div_lt_iff_lt_mul hp];exact h3
  rw [←Nat.pow_add] at this
  rwa [show Nat.log2 (a/2^k)+k+1=Nat.log2 (a/2^k)+1+k by omega]
 rw [T8 h4 h5,h1];omega
end Go.Hl
end
section
namespace Go.Hl
def b1 (d:Nat):Nat:=(d/2 &&& 85)+(d &&& 85)
def b2 (d:Nat):Nat:=(d/4 &&& 51)+(d &&& 51)
def b3 (d:Nat):Nat:=(d/16+d) &&& 15
def OU:List UInt8:=(List.range 256).map fun i=>UInt8.ofNat (yl i)
theorem WH:∀i,i<256→(UInt8.ofNat (yl i)).toNat=yl i:=by decide+kernel
theorem Rc {x:Nat} (h:x<256):OU[x]?=some (UInt8.ofNat (yl x)):=by simp [OU,h]
end Go.Hl
end
section
namespace Go.Proofs.YtpfobikpggmleaaGreatDoor
open Go.Hl Go.RowKit
theorem Ik {a:Nat} (av:a<18446744073709551616):cW Tryz.prog 185 [uV a] (iV (yl a:Int)):=by
 refine In 25 Tryz.func185 fun _ _ _=> ?_
 refine Z5 ?_
 refine .cut (σ:=Nat×Nat) (fun _=>[]) (fun g=>[(0,uV g.1),(2,iV (g.2:Int))]) (fun g=>yl a=yl g.1+g.2∧g.1<4294967296∧g.2≤32) ?_ ?_
 ·
  refine Z6 ?_
  refine Cd (fun c0=> ?_) fun c0=> ?_
  ·
   refine Z3 ?_
   refine .p (zi (s:=32) (.t rfl) (.c _) (by decide)) rfl ?_
   refine Z6 ?_
   refine .meet (a/2^32,32) ⟨Ij (by omega),by omega,by omega⟩ rfl (.get rfl (af.refl _) (.get rfl (af.refl _) (.keep 6 rfl rfl)))
  refine Z1 ?_
  refine .meet (a,0) ⟨rfl,by omega,by omega⟩ rfl (.get rfl (af.refl _) (.get rfl (af.refl _) (.keep 2 rfl rfl)))
 intro ⟨x,n⟩ ⟨h1,h2,h3⟩
 simp only at h1 h2 h3 ⊢
 refine .cut (σ:=Nat×Nat) (fun _=>[]) (fun g=>[(0,uV g.1),(2,iV (g.2:Int))]) (fun g=>yl a=yl g.1+g.2∧g.1<65536∧g.2≤48) ?_ ?_
 ·
  refine Z6 ?_
  refine Cd (fun c1=> ?_) fun c1=> ?_
  ·
   refine Z3 ?_
   refine .p (zi (s:=16) (.t rfl) (.c _) (by decide)) rfl ?_
   refine Z8 ?_
   refine .meet (x/2^16,n+16) ⟨by have:=Ij (a:=x) (k:=16) (by omega);simp only;omega,by omega,by omega⟩ rfl (.get rfl (af.refl _) (.get rfl (af.refl _) (.keep 8 rfl rfl)))
  refine Z1 ?_
  refine .meet (x,n) ⟨h1,by omega,by omega⟩ rfl (.get rfl (af.refl _) (.get rfl (af.refl _) (.keep 2 rfl rfl)))
 intro ⟨y,m⟩ ⟨k1,k2,k3⟩
 simp only at k1 k2 k3 ⊢
 refine .cut (σ:=Nat×Nat) (fun _=>[]) (fun g=>[(0,uV g.1),(2,iV (g.2:Int))]) (fun g=>yl a=yl g.1+g.2∧g.1<256∧g.2≤56) ?_ ?_
 ·
  refine Z6 ?_
  refine Cd (fun c2=> ?_) fun c2=> ?_
  ·
   refine Z3 ?_
   refine .p (zi (s:=8) (.t rfl) (.c _) (by decide)) rfl ?_
   refine Z8 ?_
   refine .meet (y/2^8,m+8) ⟨by have:=Ij (a:=y) (k:=8) (by omega);simp only;omega,by omega,by omega⟩ rfl (.get rfl (af.refl _) (.get rfl (af.refl _) (.keep 8 rfl rfl)))
  refine Z1 ?_
  refine .meet (y,m) ⟨k1,by omega,by omega⟩ rfl (.get rfl (af.refl _) (.get rfl (af.refl _) (.keep 2 rfl rfl)))
 intro ⟨z,q⟩ ⟨j1,j2,j3⟩
 simp only at j1 j2 j3 ⊢
 have hbz:=WG (a:=z) (n:=8) (by omega)
 refine Z5 ?_
 refine .p (jO FU.out (.s OU (by decide+kernel) (by decide)) (.t rfl) rfl (Rc j2)) rfl ?_
 refine .p (qd FU.out FU.out (.t rfl) (bY (by rw [WH z j2];omega) (by rw [WH z j2];omega))) rfl ?_
 refine .p (ep (.t rfl) (.t rfl) (bY (by rw [WH z j2];omega) (by rw [WH z j2];omega))) rfl ?_
 refine Z4 ?_
 refine bL ?_
 exact af.int (by rw [WH z j2];omega)
variable {a:dX} {n:Nat} {at_:Nat}
theorem Fh {X:oT} (av:dm X a) (hp1:at_+n≤X.size):cw Tryz.prog 116 [aI X.ab 0,aS (at_:Int),aS (n:Int)] (ru X a) (γ:=Unit) (fun _=>True) (fun _=>ru X a) (fun _=>bD [jM X.db at_ n,aS 0]):=by
 refine In 47 Tryz.func116 fun _ _ _=> ?_
 have hk2:=av.most
 refine cT ?_
 refine .p (cO FU.out (.t rfl)) rfl ?_
 refine Z3 ?_
 refine Cd (fun c0=> ?_) fun c0=> ?_
 · exact c0.elim
 refine iW ?_
 refine .g (cm.gF rfl rfl rfl rfl (fun hg=>nB rfl Tryz.underlying59 (.when (.t rfl) hg))) rfl rfl ?_
 refine Z8 ?_
 refine .g (cm.gF rfl rfl rfl rfl (fun hg=>nB rfl Tryz.underlying59 (.when (.t rfl) hg))) rfl rfl ?_
 refine Z7 ?_
 refine Cd (fun c1=> ?_) fun c1=> ?_
 · exfalso;omega
 refine lg ?_
 refine .p ((tN (l:=at_) (h:=at_+n) FU.out FC.out (.t rfl) (.t rfl) (.t rfl) rfl rfl (by omega) (by omega)).le (af.of_eq (show jM _ _ _=jM X.db at_ n by rw [Nat.zero_add,Nat.add_sub_cancel_left]))) rfl ?_
 refine Z5 ?_
 refine j9 ?_ ?_
 · exact .z
 exact .z
variable {w:Nat}
theorem zV {X:oT} (av:dm X a) (hp1:at_+w≤X.size) (hp2:w=8∨w=4):cw Tryz.prog 93 [aI X.ab 0,ag .i64 ((at_:Int)),ag .i64 ((w:Int))] (ru X a) (γ:=Unit) (fun _=>True) (fun _=>ru X a) (fun _=>bD [jM X.db at_ w,ag .i64 0]):=by
 refine In 32 Tryz.func93 fun _ _ _=> ?_
 refine cK ?_
 refine .p (Bj FU.out (.t rfl)) rfl ?_
 refine AU ?_
 refine Cd (fun c0=> ?_) fun c0=> ?_
 · exfalso;omega
 refine Z7 ?_
 refine .n (cE (h:=Fh (at_:=at_) (n:=w) av hp1)) rfl fun g29 h29=> ?_
 refine Z7 ?_
 refine j9 ?_ ?_
 · exact .z
 exact .z
variable {v:Nat}
theorem BU {X:oT} (av:dm X a) (hp1:at_+w≤X.size) (hp2:w=8∨w=4) (fI:v<18446744073709551616):cw Tryz.prog 47 [aI X.ab 0,ag .i64 ((at_:Int)),ag .i64 ((w:Int)),ag .u64 (v:Int)] (ru X a) (γ:=Unit) (fun _=>True) (fun _=>ru X (a.put at_ (yg v w))) (fun _=>ag .i64 0):=by
 refine In 34 Tryz.func47 fun _ _ _=> ?_
 have H8:=av.len
 have hk2:=av.most
 refine cK ?_
 refine .n (cE (h:=zV (at_:=at_) (w:=w) av hp1 hp2)) rfl fun g16 T6=> ?_
 refine cT ?_
 refine .p (nB rfl Tryz.underlying59 (.t rfl)) rfl ?_
 refine Z4 ?_
 refine .aT (σ:=Nat) (fun k=>ru X (a.put at_ (yg v k))) (fun k=>[(21,ag .i64 (k:Int))]) (fun k=>k≤w) (fun k=>w-k) 0 (Nat.zero_le _) (by show ru X a=ru X (a.put at_ []);unfold dX.put;simp only [List.append_nil,List.length_nil,Nat.add_zero,List.take_append_drop]) ?_ ?_
 · exact (.get rfl (af.refl _) (.refl _ _))
 rintro k hk
 refine Z6 ?_
 refine Cd (fun c0=> ?_) fun c0=> ?_
 ·
  refine D0 ?_
  refine .p (zi (s:=8*k) (.t rfl) (.le (.t rfl) (af.int (by omega))) (by show 8*k≤64;omega)) rfl ?_
  refine .p ((eP FU.out FU.out (.t rfl)).le (af.int (OK v k))) rfl ?_
  refine .p (zl (j:=k) FU.out FC.out (.t rfl) (.t rfl) rfl (by omega)) rfl ?_
  refine .s (N6 (i:=1) (QN v k) FC.out (.t rfl) (.t rfl) rfl (by unfold dX.put;simp only [List.length_append,mW,List.length_take,List.length_drop];omega)) ?_
  refine Z7 ?_
  refine .round (k+1) (by omega) (by omega) (by unfold dX.put;simp only [mW,←Q7 (v:=v) (show at_+w≤a.bytes.length by omega) (show k<w by omega)];rfl) ?_
  exact (.get rfl (af.int (by (show (k:Int)+1=((k+1:Nat):Int);omega))) ((.keep 14 rfl rfl)))
 have hke:k=w:=by omega
 subst hke
 refine dM ?_
 refine bL ?_
 exact .z
theorem BV {X:oT} (av:dm X a) (hp1:at_+w≤X.size) (hp2:w=8∨w=4):cw Tryz.prog 75 [aI X.ab 0,ag .i64 ((at_:Int)),ag .i64 ((w:Int))] (ru X a) (γ:=Unit) (fun _=>True) (fun _=>ru X a) (fun _=>bD [ag .u64 (rq ((a.bytes.drop at_).take w):Int),ag .i64 0]):=by
 refine In 39 Tryz.func75 fun _ _ _=> ?_
 have H8:=av.len
 have hk2:=av.most
 refine cT ?_
 refine .n (cE (h:=zV (at_:=at_) (w:=w) av hp1 hp2)) rfl fun g17 Kk=> ?_
 refine iW ?_
 refine Cd (fun c0=> ?_) fun c0=> ?_
 · exact absurd rfl c0
 refine cT ?_
 refine .p (nB rfl Tryz.underlying59 (.t rfl)) rfl ?_
 refine Z4 ?_
 refine .aT (σ:=Nat) (fun _=>ru X a) (fun k=>[(10,ag .u64 (rq ((a.bytes.drop at_).take k):Int)),(25,ag .i64 (k:Int))]) (fun k=>k≤w) (fun k=>w-k) 0 (Nat.zero_le _) rfl ?_ ?_
 · exact (.get rfl (af.refl _) (.get rfl (af.refl _) (.refl _ _)))
 rintro k hk
 refine Z6 ?_
 refine Cd (fun c1=> ?_) fun c1=> ?_
 ·
  obtain ⟨c,hc⟩:=ah (xs:=a.bytes) (k:=at_+k) (by omega)
  have hcs:=TZ hc (by omega)
  have qf:=c.toNat_lt
  refine Z7 ?_
  refine .p (zl (j:=k) FU.out FC.out (.t rfl) (.t rfl) rfl (by omega)) rfl ?_
  refine .p (QM (i:=1) FA.out (.t rfl) rfl hc) rfl ?_
  refine cK ?_
  refine .p (K5 (.t rfl) (.le (.t rfl) (af.int (show _=((8*k:Nat):Int) by omega))) (by omega)) rfl ?_
  refine .p ((N0 hcs.2 (by omega) (.t rfl) (.t rfl)).le (af.int (by rw [hcs.1]))) rfl ?_
  refine Z8 ?_
  refine .round (k+1) (by omega) (by omega) rfl ?_
  exact (.get rfl (af.refl _) (.get rfl (af.int (by (show (k:Int)+1=((k+1:Nat):Int);omega))) ((.keep 18 rfl rfl))))
 have hke:k=w:=by omega
 subst hke
 refine lg ?_
 refine j9 ?_ ?_
 · exact .z
 exact .z
theorem Il {X:oT}:cw Tryz.prog 14 [aI X.ab 0] [wM X a] (γ:=Unit) (fun _=>True) (fun _=>[wM X a]) (fun _=>ag .i64 (a.live:Int)):=by
 refine In 9 Tryz.func14 fun _ _ _=> ?_
 refine Z9 ?_
 refine .p (cO FU.out (.t rfl)) rfl ?_
 refine Z2 ?_
 refine Cd (fun c0=> ?_) fun c0=> ?_
 · exact c0.elim
 refine dM ?_
 refine bL ?_
 exact .z
theorem zW {X:oT} {at_:Int} {c:Nat} (av:ak a.taken at_=some (c:Int)) (hp1:c≤a.live) (hp2:a.live≤4194304) (fI:n≤1000000):cw Tryz.prog 57 [aI X.ab 0,ag .i64 at_] (tZ X a n) (γ:=Unit) (fun _=>True) (fun _=>tZ X (fJ a at_ c) (n+1)) (fun _=>ag .i64 0):=by
 refine In 47 Tryz.func57 fun _ _ _=> ?_
 refine Z9 ?_
 refine .p (cO FU.out (.t rfl)) rfl ?_
 refine Z2 ?_
 refine Cd (fun c0=> ?_) fun c0=> ?_
 · exact c0.elim
 refine Z9 ?_
 refine .p (nA (i:=2) Tryz.TN Tryz.underlying91 (fun w=>lG Tryz.TO w) (.t rfl) (.t rfl) rfl) rfl ?_
 refine Z1 ?_
 refine .p ((lC (.t rfl) rfl).le (af.of_eq (by rw [av];try rfl))) rfl ?_
 refine dM ?_
 refine Cd (fun c1=> ?_) fun c1=> ?_
 · exact (c1 (by rw [av];rfl)).elim
 refine Z9 ?_
 refine .s (Ep (i:=2) rfl Tryz.TN Tryz.underlying91 (.t rfl) (.t rfl) rfl) ?_
 refine Z3 ?_
 refine .own (aB.perm (Perm.idx [3,0,1,2] rfl rfl)) ?_
 refine .T0 (c:Int) fun G hG=> ?_
 have Vm:=LJ (c:=(c:Int)) hG
 refine .Cy (FR:=[HY X.gm G,wM X a]) [(0,0),(1,0),(2,0),(3,1),(4,0),(5,0),(6,0),(7,0),(8,1),(9,0),(10,1),(11,0),(12,0),(13,4)] 14 1 FM.out (by kernel_rfl) ?_
 refine Z3 ?_
 refine .o rfl (fB (i:=1) FA.out (.t rfl) rfl rfl) (aB.dD [0,3] [1,2,4,5] rfl rfl) ?_
 refine Z4 ?_
 refine .o rfl (fB (i:=1) FA.out (.t rfl) rfl rfl) (aB.dD [0,3] [1,2,4,5] rfl rfl) ?_
 refine Z1 ?_
 refine .o rfl ((wm (i:=0) Tryz.TP Tryz.underlying92 (fun w=>lG Tryz.Wo w) (.t rfl) (.t rfl) rfl).le (OM)) (aB.dD [0,3] [1,2,4,5] rfl rfl) ?_
 refine Z1 ?_
 refine .p rfl (fun _=>bF (enc:=dJ) [at_] FU.out FC.out rfl FZ.out rfl (.cons (.t rfl) .nil) rfl rfl rfl rfl rfl) ?_
 refine .a rfl (aD (i:=1) FU.out FU.out FC.out rfl FZ.out rfl FY.out (.t rfl) (.t rfl) rfl (by simp only [List.length_cons,List.length_nil];omega) (by simp only [List.length_cons,List.length_nil];omega)) (fun _ _=>(aB.dD [0,3] [1,2,4,5] rfl rfl)) fun Qf _=> ?_
 refine .fin ?_
 refine .s (Eo (i:=0) _ Tryz.TP Tryz.underlying92 (.t rfl) (.t rfl) (.t rfl) rfl) ?_
 refine Z2 ?_
 refine .own (LK (xs:=(vg G (c:Int)).2++[at_]) hG rfl (by simp only [List.length_append,List.length_cons,List.length_nil];omega)) ?_
 refine Z7 ?_
 refine .p ((jZ (.t rfl) (.t rfl) dL).le (af.int (show _=((a.live-c:Nat):Int) by omega))) rfl ?_
 refine cT ?_
 refine Post.aP rfl (()) (by trivial) (aB.dD [1,2,3,0] [] rfl rfl) (.rt rfl) ?_
 exact .z
theorem Im {t:UInt8} (av:gE t=32∨gE t=64) (hp1:v<18446744073709551616):cW Tryz.prog 48 [ag .i64 (gE t),ag .u64 (v:Int)] (ag .u64 (wO t v:Int)):=by
 refine In 11 Tryz.func48 fun _ _ _=> ?_
 refine dM ?_
 refine Cd (fun c0=> ?_) fun c0=> ?_
 ·
  have T9:gE t=32:=by omega
  have hcu:wO t v=v%4294967296:=by unfold wO;rw [T9];rfl
  refine Z3 ?_
  refine .p (eP FU.out FU.out (.t rfl)) rfl ?_
  refine .p (eP FU.out FU.out (.t rfl)) rfl ?_
  refine Z5 ?_
  refine bL ?_
  exact af.int (by rw [hcu];show ((v:Int)%4294967296)%18446744073709551616=_;omega)
 have Ua:gE t=64:=by omega
 have hcu:wO t v=v:=by unfold wO;rw [Ua];exact Nat.mod_eq_of_lt hp1
 refine Z9 ?_
 refine bL ?_
 exact af.int (by rw [hcu])
variable {sb:Nat} {pb:Nat} {num:Int} {t:Int} {mv:VP} {g:Int}
theorem nQ {X:oT} {m:aR}:cw Tryz.prog 50 [aI sb 0] [nJ sb X pb m num g t mv] (γ:=Unit) (fun _=>True) (fun _=>[nJ sb X pb m num g t mv]) (fun _=>aq False):=by
 refine In 11 Tryz.func50 fun _ _ _=> ?_
 refine Z8 ?_
 refine .p (cO FU.out (.t rfl)) rfl ?_
 refine cK ?_
 refine bL ?_
 exact af.prop (by simp)
theorem Fi {X:oT} {m:aR}:cw Tryz.prog 46 [aI sb 0] [nJ sb X pb m num g t mv] (γ:=Unit) (fun _=>True) (fun _=>[nJ sb X pb m num g t mv]) (fun _=>ag .i64 (m.an.length:Int)):=by
 refine In 11 Tryz.func46 fun _ _ _=> ?_
 refine EC ?_
 refine bL ?_
 exact .z
theorem zX {X:oT} {m:aR} {i:Int} (av:0≤i) (hp1:i<(m.an.length:Int)):cw Tryz.prog 45 [aI sb 0,ag .i64 i,WB 46 sb] [nJ sb X pb m num g t mv] (γ:=Unit) (fun _=>True) (fun _=>[nJ sb X pb m num g t mv]) (fun _=>ag .i64 0):=by
 refine In 19 Tryz.func45 fun _ _ _=> ?_
 refine cK ?_
 refine .n ((cE (h:=nQ)).same (fun _ _=>aB.refl _) (fun _ _=>af.refl _)) rfl fun _ _=> ?_
 refine Z3 ?_
 refine Cd (fun c0=> ?_) fun c0=> ?_
 · exact c0.elim
 refine Z7 ?_
 refine .Vd rfl rfl rfl rfl (fun hg=>((EW (rest:=[]) (Fi (sb:=sb) (X:=X) (pb:=pb) (m:=m) (num:=num) (g:=g) (t:=t) (mv:=mv)) FB.out (.when (.t rfl) hg) (Perm.idx [0] rfl rfl)).same (fun _ _=>aB.refl _) (fun _ _=>af.refl _)).same (fun _ _=>aB.refl _) (fun _ _=>af.refl _)) rfl rfl ?_
 refine Z5 ?_
 refine Cd (fun c1=> ?_) fun c1=> ?_
 · exfalso;omega
 refine Z9 ?_
 refine bL ?_
 exact .z
variable {i:Nat}
theorem BW {X:oT} {m:aR} {g:Nat} {z:jF} (av:m.an[i]?=some z) (hp1:dm X a) (hp2:g+8*(i+1)≤X.size) (fI:v<18446744073709551616) (oe:gE z.Ty=32∨gE z.Ty=64) (yE:m.an.length≤60000):cw Tryz.prog 22 [aI sb 0,ag .i64 (i:Int),ag .u64 (v:Int)] (nJ sb X pb m num (g:Int) t mv::ru X a) (γ:=Unit) (fun _=>True) (fun _=>nJ sb X pb m num (g:Int) t mv::ru X (a.put (g+8*i) (yg (wO z.Ty v) 8))) (fun _=>ag .i64 0):=by
 refine In 42 Tryz.func22 fun _ _ _=> ?_
 have oQ:=(List.getElem?_eq_some_iff.1 av).1
 have hmo:=hp1.most
 refine cT ?_
 refine .p (CW (.t rfl)) rfl ?_
 refine .n ((cE (h:=zX (sb:=sb) (X:=X) (pb:=pb) (m:=m) (num:=num) (g:=(g:Int)) (t:=t) (mv:=mv) (i:=(i:Int)) (by omega) (by omega))).same (fun _ _=>aB.refl _) (fun _ _=>af.refl _)) rfl fun _ _=> ?_
 refine Z9 ?_
 refine Cd (fun c0=> ?_) fun c0=> ?_
 · exact absurd rfl c0
 refine Z3 ?_
 refine .bx 25 2 FM.out (by kernel_rfl) (k:= ?_)
 refine cK ?_
 refine .p ((ep (.t rfl) (.t rfl) dL).le (af.int (show _=((g+8*i:Nat):Int) by omega))) ?_
 refine Z8 ?_
 refine .p (cI i (h:=av)) ?_
 refine Z2 ?_
 refine .p (cA (h:=sU)) ?_
 refine Z1 ?_
 refine .p (cA (h:=Im oe fI)) ?_
 refine Z1 ?_
 refine .n (kZ [_] [1,2,0] (h:=BU (at_:=g+8*i) (w:=8) hp1 (by omega) (.inl rfl) (Kg fI))) rfl fun g41 h41=> ?_
 refine Z4 ?_
 refine Post.aP rfl (()) (by trivial) (aB.dD [2,0,1] [] rfl rfl) (.rt rfl) ?_
 exact .z
theorem wR (av:n≤4194304):cw Tryz.prog 9 [aS (n:Int)] [] (γ:=oT) (fun X=>X.size=n) (fun X=>ez X ⟨List.replicate n 0,0,0,[]⟩) (fun X=>bD [aI X.ab 0,aS 0]):=by
 refine In 16 Tryz.func9 fun _ _ _=> ?_
 refine Hy ?_
 refine Cd (fun c0=> ?_) fun c0=> ?_
 · exfalso;omega
 refine Z5 ?_
 refine .n (Br FU.out FC.out FY.out FZ.out (.t rfl) rfl (by omega)) rfl fun Vn _=> ?_
 refine .n (uQ (Value.int .i64) aS) rfl fun m12 _=> ?_
 refine .n (uQ (Value.int .i64) (fun _:Unit=>qg)) rfl fun m13 _=> ?_
 refine Z1 ?_
 refine .n (bT (.t rfl)) rfl fun b15 _=> ?_
 refine Z5 ?_
 refine Post.bf rfl rfl (⟨b15,Vn,m12,m13,n⟩) (by rfl) (aB.dD [0,3,2,1] [] rfl rfl) rfl (.cons (.rt rfl) ?_ (.cons (.rt rfl) ?_ .nil))
 · exact .z
 exact .z
theorem LR {cap:Int} (av:16≤n) (hp1:n≤1024) (hp2:0≤cap) (fI:cap≤4096):cw Tryz.prog 16 [aS (n:Int),aS cap] [] (γ:=Nat) (fun _=>True) (fun sb=>[dB sb ⟨n,cap,0,0,-1,false,[]⟩]) (fun sb=>bD [aI sb 0,aS 0]):=by
 refine In 25 Tryz.func16 fun _ _ _=> ?_
 refine Vg ?_
 refine Cd (fun c0=> ?_) fun c0=> ?_
 · exfalso;omega
 refine Z6 ?_
 refine .n (uQ (Value.int .i64) (fun b=>jM b 0 n)) rfl fun m22 _=> ?_
 refine Z1 ?_
 refine .n (bT (.t rfl)) rfl fun b24 _=> ?_
 refine Z5 ?_
 refine Post.bf rfl rfl (b24) (by trivial) (eU (E:=[]) (mb:=m22) (sz:=n) (s:=⟨n,cap,0,0,-1,false,[]⟩) rfl rfl|>aB.trans (aB.trans (aB.cons _ (aB.cons _ eu)) (aB.cells (.cons (.refl _) (.cons (.refl _) (.cons (.refl _) (.cons (.refl _) (.cons (.refl _) (.cons (.refl _) (.cons lH .nil)))))))))) rfl (.cons (.rt rfl) ?_ (.cons (.rt rfl) ?_ .nil))
 · exact .z
 exact .z
variable {s:jT}
theorem uf:cw Tryz.prog 42 [aI sb 0] [dB sb s] (γ:=Unit) (fun _=>True) (fun _=>[dB sb s]) (fun _=>aS (s.size:Int)):=by
 refine In 9 Tryz.func42 fun _ _ _=> ?_
 refine .EF fun mb E hE=> ?_
 refine Z9 ?_
 refine .p (cO FU.out (.t rfl)) rfl ?_
 refine Z2 ?_
 refine Cd (fun c0=> ?_) fun c0=> ?_
 · exact c0.elim
 refine dM ?_
 refine Post.aP rfl (()) (by trivial) (eU hE rfl) (.rt rfl) ?_
 exact .z
variable {l:List UInt8}
theorem xM {b off len:Nat} (av:off+len≤l.length) (hp1:l.length≤4194304):cw Tryz.prog 175 [jM b off len] [iG b l] (γ:=Unit) (fun _=>True) (fun _=>[iG b l]) (fun _=>ai 1 aj ((l.drop off).take len)):=by
 refine In 8 Tryz.func175 fun _ _ _=> ?_
 have hlen:((l.drop off).take len).length≤4194304:=by (simp;omega)
 refine Z9 ?_
 refine .p (xE FU.out (.t rfl) (.c _)) rfl ?_
 refine Z2 ?_
 refine Cd (fun c0=> ?_) fun c0=> ?_
 · exact c0.elim
 refine Z4 ?_
 refine .p (kL FU.out FC.out rfl FZ.out rfl) rfl ?_
 refine Z1 ?_
 refine .p (Hr FU.out FU.out FC.out rfl FZ.out rfl FY.out (.t rfl) (Es.buf (i:=0) (.t rfl) rfl (by omega)).src (by omega)) rfl ?_
 refine Z4 ?_
 refine bL ?_
 exact .z
theorem xN {X:oT} (av:dm X a) (hp1:at_+n≤X.size):cw Tryz.prog 142 [aI X.ab 0,aS (at_:Int),aS (n:Int)] (ez X a) (γ:=Unit) (fun _=>True) (fun _=>ez X a) (fun _=>bD [ai 1 aj (a.get at_ n),aS 0]):=by
 refine In 20 Tryz.func142 fun _ _ _=> ?_
 have hk2:=av.most;have H8:=av.len
 refine cT ?_
 refine .n (cE (h:=apart_spec (by assumption) (by omega))) rfl fun g14 yF=> ?_
 refine cK ?_
 refine .n (kZ [_,_,_] [1,0,2,3] (h:=xM (by omega) (by omega))) rfl fun g18 Re=> ?_
 refine Z6 ?_
 refine Post.bf rfl rfl (()) (by trivial) (aB.dD [1,0,2,3] [] rfl rfl) rfl (.cons (.rt rfl) ?_ (.cons (.rt rfl) ?_ .nil))
 · exact .z
 exact .z
variable {ys:List UInt8}
theorem zY {X:oT} (av:dm X a) (hp1:at_+ys.length≤X.size):cw Tryz.prog 122 [aI X.ab 0,aS (at_:Int),ai 1 aj ys] (ez X a) (γ:=Unit) (fun _=>True) (fun _=>ez X (a.put at_ ys)) (fun _=>aS 0):=by
 refine In 23 Tryz.func122 fun _ _ _=> ?_
 have hk2:=av.most;have H8:=av.len
 refine cT ?_
 refine .n (cE (h:=apart_spec (by assumption) (by omega))) rfl fun g14 yF=> ?_
 refine iW ?_
 refine Cd (fun c0=> ?_) fun c0=> ?_
 ·
  refine Z3 ?_
  refine .n (Bs (i:=1) rfl Tryz.underlying59 FC.out (.t rfl) (.shared (.t rfl)) rfl (by omega) (by omega)) rfl fun _ _=> ?_
  refine Z9 ?_
  refine bL ?_
  exact .z
 exact absurd rfl c0
theorem LS {b off:Nat} {cs:List VP} {n m:Int} (av:cs[off]?=some (aS n)):cw Tryz.prog 221 [aI b off,aS m] [az b cs] (γ:=Unit) (fun _=>True) (fun _=>[az b (cs.set off (aS (IntKind.i64.wrap (n+m))))]) (fun _=>aS (IntKind.i64.wrap (n+m))):=by
 refine In 10 Tryz.func221 fun _ _ _=> ?_
 refine cT ?_
 refine .n (K4 (i:=0) Tryz.func237 (by kernel_rfl) (by kernel_rfl) (by kernel_rfl) (by kernel_rfl) (.t rfl) (.t rfl) rfl av) rfl fun _ _=> ?_
 refine Z4 ?_
 refine bL ?_
 exact .z
variable {mb:Nat}
theorem Fj:cw Tryz.prog 186 [aI sb 0] [j5 sb mb s] (γ:=jT×Bool) (fun g=>g=tP s) (fun g=>[j5 sb mb g.1]) (fun g=>aq (g.2=true)):=by
 refine In 25 Tryz.func186 fun _ _ _=> ?_
 refine cK ?_
 refine .n (cE (h:=LS (by rfl))) rfl fun g7 h7=> ?_
 refine .p (Ny (.t rfl) (.c _)) rfl ?_
 refine Vf ?_
 refine Cd (fun c0=> ?_) fun c0=> ?_
 ·
  refine nZ ?_
  refine Post.aP rfl (({s with ops:=IntKind.i64.wrap (s.ops+1),failed:=true},false)) (by unfold tP;rw [if_pos (by omega)]) (fun _ _ _ h=>h) (.rt rfl) ?_
  exact af.prop (by simp)
 refine Z8 ?_
 refine Post.aP rfl (({s with ops:=IntKind.i64.wrap (s.ops+1)},true)) (by unfold tP;rw [if_neg (by omega)]) (fun _ _ _ h=>h) (.rt rfl) ?_
 exact af.prop (by simp)
variable {id:Int}
theorem wS {E:CC} {right:Prop} [Decidable right] (av:oy E=s.m):cw Tryz.prog 145 [aI sb 0,aS id,aq right] [j5 sb mb s,iH mb s.size E] (γ:=jT×Nat) (fun g=>g=eT s id right) (fun g=>[j5 sb mb g.1,iH mb s.size E]) (fun g=>aS (g.2:Int)):=by
 refine In 25 Tryz.func145 fun _ _ _=> ?_
 have hlk:ak (E.map fun e=>(e.1,e.2.1)) id=none↔ak s.m id=none:=by rw [←av,lJ,pG];cases ak E id<;>simp
 refine cK ?_
 refine .p (cO FU.out (.t rfl)) rfl ?_
 refine Z3 ?_
 refine Cd (fun c0=> ?_) fun c0=> ?_
 · exact c0.elim
 refine Z7 ?_
 refine .p (wm (i:=1) Tryz.Bx Tryz.underlying122 (fun w=>lG Tryz.QL w) (.t rfl) (.t rfl) rfl) rfl ?_
 refine .p (Eu FU.out (.t rfl) (.c _)) rfl ?_
 refine Z3 ?_
 refine Cd (fun c1=> ?_) fun c1=> ?_
 ·
  refine Z8 ?_
  refine Post.aP rfl ((s,2)) (by exact (Lf (hlk.1 c1)).symm) (fun _ _ _ h=>h) (.rt rfl) ?_
  exact .z
 have hl:=mt hlk.2 c1
 refine Z7 ?_
 refine Cd (fun c2=> ?_) fun c2=> ?_
 ·
  refine Z8 ?_
  refine Post.aP rfl ((s,1)) (by exact (HC hl c2).symm) (fun _ _ _ h=>h) (.rt rfl) ?_
  exact .z
 refine Z3 ?_
 refine .n (cE (h:=Fj)) rfl fun g23 h23=> ?_
 refine Z4 ?_
 refine Cd (fun c3=> ?_) fun c3=> ?_
 ·
  refine Z8 ?_
  refine Post.aP rfl (((tP s).1,9)) (by exact (CI hl (Classical.not_not.1 c2)).2 (by rw [←h23];exact c3)|>.symm) (by rw [h23];exact fun _ _ _ h=>h) (.rt rfl) ?_
  exact .z
 refine Z9 ?_
 refine Post.aP rfl (((tP s).1,0)) (by exact (CI hl (Classical.not_not.1 c2)).1 (by rw [←h23];exact Classical.not_not.1 c3)|>.symm) (by rw [h23];exact fun _ _ _ h=>h) (.rt rfl) ?_
 exact .z
theorem Io (av:qt s):cw Tryz.prog 174 [aI sb 0,aS id] [dB sb s] (γ:=jT×List UInt8×Nat) (fun g=>g=Bz s id) (fun g=>[dB sb g.1]) (fun g=>bD [ai 1 aj g.2.1,aS (g.2.2:Int)]):=by
 refine In 20 Tryz.func174 fun _ _ _=> ?_
 refine .EF fun mb E hE=> ?_
 have LU:=zp s id True
 have hsz:=av.size
 refine cT ?_
 refine .n (cE (h:=wS (mb:=mb) (s:=s) (E:=E) (id:=id) (right:=True) hE)) rfl fun g9 h9=> ?_
 refine Z9 ?_
 refine Cd (fun c0=> ?_) fun c0=> ?_
 ·
  subst h9
  refine Z9 ?_
  refine Post.bf rfl rfl (((eT s id True).1,[],(eT s id True).2)) (by exact (Lg (by omega)).symm) (eU (hE.trans LU.1.symm) LU.2.symm) rfl (.cons (.rt rfl) ?_ (.cons (.rt rfl) ?_ .nil))
  · exact aG _ _
  exact af.refl _
 subst h9
 have h0:(eT s id True).2=0:=by omega
 obtain ⟨_,l,hl⟩:=CH h0
 obtain ⟨b,hb⟩:∃b,ak E id=some (b,l):=by (rw [←hE,lJ] at hl;cases hq:ak E id with|none=>(rw [hq] at hl;cases hl)|some p=>(rw [hq] at hl;cases hl;exact ⟨p.1,rfl⟩))
 have Kl:l.length=s.size:=by (obtain ⟨e,he,hel⟩:=wu hl;have:=av.len e he;rw [hel] at this;exact this)
 refine .HA hb ?_
 refine Z9 ?_
 refine .p (wm (i:=1) Tryz.Bx Tryz.underlying122 (fun w=>lG Tryz.QL w) (.t rfl) (.t rfl) rfl) rfl ?_
 refine .n (cz (rest:=[_,_,_]) (xM (b:=b) (off:=0) (len:=s.size) (l:=l) (by omega) (by omega)) FB.out (.cons (.le (.t rfl) (af.of_eq (show tM _ _ _=jM b 0 s.size by rw [pG,hb];rfl))) .nil) (Perm.idx [2,0,1,3] rfl rfl)) rfl fun g19 Vo=> ?_
 refine Z5 ?_
 refine Post.bf rfl rfl (((eT s id True).1,l,0)) (by exact (EG h0 hl).symm) (aB.trans (aB.perm (Perm.idx [1,2,0,3] rfl rfl)) (CF hb hE LU.1 LU.2.symm)) rfl (.cons (.rt rfl) ?_ (.cons (.rt rfl) ?_ .nil))
 · exact af.of_eq (by rw [List.drop_zero,List.take_of_length_le (by omega)])
 exact af.refl _
theorem xO (av:qt s):cw Tryz.prog 173 [aI sb 0,aS id,ai 1 aj ys] [dB sb s] (γ:=jT×Nat) (fun g=>g=kR s id ys) (fun g=>[dB sb g.1]) (fun g=>aS (g.2:Int)):=by
 refine In 33 Tryz.func173 fun _ _ _=> ?_
 refine .EF fun mb E hE=> ?_
 have LU:=zp s id (ys.length=s.size)
 have hsz:=av.size
 refine cK ?_
 refine .p (Bj FU.out (.t rfl)) rfl ?_
 refine Z9 ?_
 refine .n (cz (rest:=[_]) (wS (mb:=mb) (s:=s) (E:=E) (id:=id) (right:=ys.length=s.size) hE) FB.out (.cons (.t rfl) (.cons (.t rfl) (.cons (.le (.t rfl) (af.prop (show _↔ys.length=s.size by simp;omega))) .nil))) (Perm.idx [0,1,2] rfl rfl)) rfl fun g21 LV=> ?_
 refine cK ?_
 refine Cd (fun c0=> ?_) fun c0=> ?_
 ·
  subst LV
  have h0:(eT s id (ys.length=s.size)).2=0:=by omega
  obtain ⟨Ox,l,hl⟩:=CH h0
  obtain ⟨b,hb⟩:∃b,ak E id=some (b,l):=by (rw [←hE,lJ] at hl;cases hq:ak E id with|none=>(rw [hq] at hl;cases hl)|some p=>(rw [hq] at hl;cases hl;exact ⟨p.1,rfl⟩))
  have Kl:l.length=s.size:=by (obtain ⟨e,he,hel⟩:=wu hl;have:=av.len e he;rw [hel] at this;exact this)
  refine .HA hb ?_
  refine Z6 ?_
  refine .p (wm (i:=1) Tryz.Bx Tryz.underlying122 (fun w=>lG Tryz.QL w) (.t rfl) (.t rfl) rfl) rfl ?_
  refine Z1 ?_
  refine .n (Bs (i:=2) rfl Tryz.underlying59 FC.out (.le (.t rfl) (af.of_eq (show tM _ _ _=jM b 0 s.size by rw [pG,hb];rfl))) (.shared (.t rfl)) rfl (by omega) (by omega)) rfl fun _ _=> ?_
  refine Z9 ?_
  refine Post.aP rfl (({(eT s id (ys.length=s.size)).1 with m:=gD s.m id ys},0)) (by exact (BA h0).symm) (aB.trans (aB.cons _ (aB.cons _ (aB.ak7 (show l.take 0++ys++l.drop (0+ys.length)=ys by rw [List.take_zero,List.nil_append,Nat.zero_add,List.drop_of_length_le (by omega),List.append_nil])))) (uS (s:={(eT s id (ys.length=s.size)).1 with m:=gD s.m id ys}) hb hE (by rw [←LU.1]) LU.2.symm)) (.rt rfl) ?_
  exact af.int (by omega)
 subst LV
 refine Z9 ?_
 refine Post.aP rfl (((eT s id (ys.length=s.size)).1,(eT s id (ys.length=s.size)).2)) (by exact (HD (by omega)).symm) (eU (hE.trans LU.1.symm) LU.2.symm) (.rt rfl) ?_
 exact af.refl _
theorem Ip:cw Tryz.prog 127 [aI sb 0,aS id] [dB sb s] (γ:=jT×Nat) (fun g=>g=tn s id) (fun g=>[dB sb g.1]) (fun g=>aS (g.2:Int)):=by
 refine In 17 Tryz.func127 fun _ _ _=> ?_
 refine .EF fun mb E hE=> ?_
 have LU:=zp s id True
 refine Z9 ?_
 refine .n (cE (h:=wS (mb:=mb) (s:=s) (E:=E) (id:=id) (right:=True) hE)) rfl fun g8 h8=> ?_
 refine cK ?_
 refine Cd (fun c0=> ?_) fun c0=> ?_
 ·
  subst h8
  have h0:(eT s id True).2=0:=by omega
  obtain ⟨_,l,hl⟩:=CH h0
  obtain ⟨b,hb⟩:∃b,ak E id=some (b,l):=by (rw [←hE,lJ] at hl;cases hq:ak E id with|none=>(rw [hq] at hl;cases hl)|some p=>(rw [hq] at hl;cases hl;exact ⟨p.1,rfl⟩))
  refine .HA hb ?_
  refine Z6 ?_
  refine .s (Ep (i:=1) rfl Tryz.Bx Tryz.underlying122 (.t rfl) (.t rfl) rfl) ?_
  refine Z9 ?_
  refine Post.aP rfl (({(eT s id True).1 with m:=jd s.m id},0)) (by exact (EH h0).symm) (CJ (s:={(eT s id True).1 with m:=jd s.m id}) (by rw [←hE]) LU.2.symm) (.rt rfl) ?_
  exact af.int (by omega)
 subst h8
 refine Z9 ?_
 refine Post.aP rfl (((eT s id True).1,(eT s id True).2)) (by exact (Lh (by omega)).symm) (eU (hE.trans LU.1.symm) LU.2.symm) (.rt rfl) ?_
 exact af.refl _
theorem Fk (av:qt s):cw Tryz.prog 172 [aI sb 0] [dB sb s] (γ:=jT×Int×Nat) (fun g=>zq s g) (fun g=>[dB sb g.1]) (fun g=>bD [aS g.2.1,aS (g.2.2:Int)]):=by
 refine In 56 Tryz.func172 fun _ _ _=> ?_
 obtain ⟨Ng,f10,WI⟩:=N8 s
 refine .EF fun mb E hE=> ?_
 have hom:=N7 s
 have hsz:=av.size
 have hmn:=av.many
 have hcp:=av.cap
 have hlen:s.m.length=E.length:=by (rw [←hE];simp [oy])
 refine cT ?_
 refine .p (cO FU.out (.t rfl)) rfl ?_
 refine Z3 ?_
 refine Cd (fun c0=> ?_) fun c0=> ?_
 · exact c0.elim
 refine Z3 ?_
 refine .n (cE (h:=Fj)) rfl fun g10 h10=> ?_
 refine Z4 ?_
 refine Cd (fun c1=> ?_) fun c1=> ?_
 ·
  subst h10;rw [WI]
  refine Z9 ?_
  refine Post.bf rfl rfl (({s with ops:=Ng,failed:=f10},0,9)) (by exact .inl ⟨by simpa using c1,by rw [WI]⟩) (eU (s:={s with ops:=Ng,failed:=f10}) hE rfl) rfl (.cons (.rt rfl) ?_ (.cons (.rt rfl) ?_ .nil))
  · exact .z
  exact .z
 subst h10;rw [WI]
 refine Z1 ?_
 refine .bx 9 2 FM.out (by kernel_rfl) (k:= ?_)
 refine Z4 ?_
 refine .p (NY (i:=1) rfl Tryz.underlying122 (.t rfl) rfl) ?_
 refine Z9 ?_
 refine Cd (fun c2=> ?_) fun c2=> ?_
 ·
  refine Z9 ?_
  refine Post.bf rfl rfl (({s with ops:=Ng,failed:=f10},0,8)) (by exact .inr (.inl ⟨by simpa using c1,by rw [hlen];simpa using c2,by rw [WI]⟩)) (eU (s:={s with ops:=Ng,failed:=f10}) hE rfl) rfl (.cons (.rt rfl) ?_ (.cons (.rt rfl) ?_ .nil))
  · exact .z
  exact .z
 refine cK ?_
 refine .aT (σ:=Nat) (fun _=>_) (fun k=>[(4,aS (k:Int))]) (fun k=>k≤s.m.length∧∀j:Nat,j<k→ak s.m (j:Int)≠none) (fun k=>s.m.length-k) 0 ⟨by omega,fun j hj=>by omega⟩ rfl ?_ ?_
 · exact (.get rfl (af.refl _) (.refl _ _))
 rintro k ⟨hk,hall⟩
 refine Z8 ?_
 refine .p (wm (i:=1) Tryz.Bx Tryz.underlying122 (fun w=>lG Tryz.QL w) (.t rfl) (.t rfl) rfl) rfl ?_
 refine .p (Ev FU.out (.t rfl) (.c _)) rfl ?_
 refine Z2 ?_
 refine Cd (fun c3=> ?_) fun c3=> ?_
 ·
  have Rf:ak s.m (k:Int)≠none:=by (rw [←hE,lJ];rw [pG] at c3;intro e;apply c3;cases hq:ak E (k:Int) with|none=>rfl|some p=>(rw [hq] at e;cases e))
  have Cs:k+1≤s.m.length:=Li fun j hj=>if h:j<k then hall j h else (by rw [show j=k by omega];exact Rf)
  refine Z9 ?_
  refine .round (k+1) ⟨by omega,fun j hj=>if h:j<k then hall j h else (by rw [show j=k by omega];exact Rf)⟩ (by omega) rfl ?_
  exact (.get rfl (af.int (by omega)) (.keep 11 rfl rfl))
 have hnb:ak (E.map fun e=>(e.1,e.2.1)) (k:Int)=none:=Classical.not_not.1 c3
 have hnE:ak E (k:Int)=none:=by (rw [pG] at hnb;cases hq:ak E (k:Int) with|none=>rfl|some p=>(rw [hq] at hnb;cases hnb))
 have hno:ak s.m (k:Int)=none:=by rw [←hE,lJ,hnE];rfl
 refine Z6 ?_
 refine .bP [(0,0),(1,0),(2,0),(3,1),(4,0),(5,0),(6,0),(7,0),(8,1),(9,4)] 10 1 FM.out (by kernel_rfl) (k:= ?_)
 refine Z9 ?_
 refine .a rfl (Br FU.out FC.out FY.out FZ.out (.t rfl) rfl (show s.size≤281474976710656 by omega)) (fun _ _=>aB.drop (aB.refl _)) fun b41 _=> ?_
 refine .fin ?_
 refine .s (Eo (i:=2) b41 Tryz.Bx Tryz.underlying122 (.t rfl) (.t rfl) (.t rfl) rfl) ?_
 refine Z3 ?_
 refine .bx 11 3 FM.out (by kernel_rfl) (k:= ?_)
 refine Z9 ?_
 refine .p (NY (i:=2) rfl Tryz.underlying122 (.t rfl) rfl) ?_
 refine nZ ?_
 refine Post.bf rfl rfl (({s with ops:=Ng,failed:=f10,m:=s.m++[((k:Int),List.replicate s.size 0)],zn:=max s.zn ((s.m.length:Int)+1)},(k:Int),0)) (by exact .inr (.inr ⟨by simpa using c1,by rw [hlen];simpa using c2,k,hk,hno,by rw [WI]⟩)) (aB.trans (aB.perm (Perm.idx [1,0,2,3] rfl rfl)) (aB.trans (aB.cells (.cons (.refl _) (.cons (.refl _) (.cons (af.int (by rw [hlen,kQ _ hnb];simp)) (.cons (.refl _) (.cons (.refl _) (.cons (.refl _) (.cons (.refl _) .nil)))))))) (aB.trans (aB.perm (Perm.idx [1,0,2,3] rfl rfl)) (CG (s:={s with ops:=Ng,failed:=f10,m:=s.m++[((k:Int),List.replicate s.size 0)],zn:=max s.zn ((s.m.length:Int)+1)}) hnE (by rw [←hE]) rfl)))) rfl (.cons (.rt rfl) ?_ (.cons (.rt rfl) ?_ .nil))
 · exact .z
 exact .z
variable {X:tq} {p:jP}
theorem qE:cw Tryz.prog 117 [aI X.pb 0] [fU X p,dB X.sb s] (γ:=Unit) (fun _=>True) (fun _=>[fU X p,dB X.sb s]) (fun _=>aS (s.size:Int)):=by
 refine In 10 Tryz.func117 fun _ _ _=> ?_
 refine Z9 ?_
 refine .p (cO FU.out (.t rfl)) rfl ?_
 refine Z2 ?_
 refine Cd (fun c0=> ?_) fun c0=> ?_
 · exact c0.elim
 refine Z8 ?_
 refine .n ((kZ [_] [1,0] (h:=uf)).same (fun _ _=>aB.perm (Perm.idx [1,0] rfl rfl)) (fun _ _=>af.refl _)) rfl fun _ _=> ?_
 refine Z4 ?_
 refine bL ?_
 exact .z
theorem Fl:cw Tryz.prog 124 [aI X.pb 0] [fU X p] (γ:=Unit) (fun _=>True) (fun _=>[fU X p]) (fun _=>aq (zu p)):=by
 refine In 18 Tryz.func124 fun _ _ _=> ?_
 refine Z8 ?_
 refine .p (cO FU.out (.t rfl)) rfl ?_
 refine Hy ?_
 refine bL ?_
 exact af.prop (by simp only [zu,←oU,false_or];by_cases hb:BP p.closed<;>simp [hb])
variable {k:bA}
theorem xP:cw Tryz.prog 119 [aI X.pb 0,aC [aS k.1,aS k.2]] [fU X p,HE X p,qv X p] (γ:=Unit) (fun _=>True) (fun _=>[fU X p,HE X p,qv X p]) (fun _=>aq (HF p k)):=by
 refine In 31 Tryz.func119 fun _ _ _=> ?_
 refine Z7 ?_
 refine .bx 10 1 FM.out (by kernel_rfl) (k:= ?_)
 refine Z5 ?_
 refine .p (nA (i:=1) Tryz.rP Tryz.underlying130 (fun w=>lG Tryz.TO w) (.t rfl) (.le (.t rfl) jb) rfl) ?_
 refine Z9 ?_
 refine .bx 10 1 FM.out (by kernel_rfl) (k:= ?_)
 refine Z5 ?_
 refine .p (nA (i:=2) Tryz.rP Tryz.underlying130 (fun w=>lG Tryz.TO w) (.t rfl) (.le (.t rfl) jb) rfl) ?_
 refine AU ?_
 refine bL ?_
 exact .z
theorem sk {at_ n:Int} (av:s.size≤1024):cw Tryz.prog 101 [aI X.pb 0,aC [aS k.1,aS k.2],aS at_,aS n] [fU X p,dB X.sb s] (γ:=Unit) (fun _=>True) (fun _=>[fU X p,dB X.sb s]) (fun _=>aS (tQ p s.size k at_ n:Int)):=by
 refine In 42 Tryz.func101 fun _ _ _=> ?_
 refine cT ?_
 refine .n ((cE (h:=Fl)).same (fun _ _=>aB.refl _) (fun _ _=>af.refl _)) rfl fun _ _=> ?_
 refine Z3 ?_
 refine Cd (fun c0=> ?_) fun c0=> ?_
 ·
  refine Z8 ?_
  refine bL ?_
  exact af.int (by simp only [tQ];rw [if_pos c0];rfl)
 refine lg ?_
 refine Cd (fun c1=> ?_) fun c1=> ?_
 ·
  refine Z8 ?_
  refine bL ?_
  exact af.int (by simp only [tQ];rw [if_neg c0,if_pos (by omega)];rfl)
 refine cT ?_
 refine .Vd rfl rfl rfl rfl (fun hg=>((cE (h:=qE)).same (fun _ _=>aB.refl _) (fun _ _=>af.refl _)).same (fun _ _=>aB.refl _) (fun _ _=>af.refl _)) rfl rfl ?_
 refine Z5 ?_
 refine .Vd rfl rfl rfl rfl (fun hg=>((cE (h:=qE)).same (fun _ _=>aB.refl _) (fun _ _=>af.refl _)).same (fun _ _=>aB.refl _) (fun _ _=>af.refl _)) rfl rfl ?_
 refine Z7 ?_
 refine Cd (fun c2=> ?_) fun c2=> ?_
 ·
  refine Z8 ?_
  refine bL ?_
  exact af.int (by simp only [tQ];rw [if_neg c0,if_neg (by omega),if_pos (by omega)];rfl)
 refine Z9 ?_
 refine bL ?_
 exact af.int (by simp only [tQ];rw [if_neg c0,if_neg (by omega),if_neg (by omega)];rfl)
variable {fr:Fr}
theorem Fm (av:N9 X p a s) (hp1:p.l[i]?=some fr):cw Tryz.prog 171 [aI X.pb 0,aS (i:Int)] (fU X p::nD X p::dB X.sb s::ez X.Y a) (γ:=Unit) (fun _=>True) (fun _=>fU X p::nD X p::dB X.sb s::ez X.Y a) (fun _=>ai 1 aj (a.get fr.at_ s.size)):=by
 refine In 26 Tryz.func171 fun _ _ _=> ?_
 have oQ:i<X.n:=by (rw [←av.n];exact (List.getElem?_eq_some_iff.1 hp1).1)
 have hrm:=av.room fr (List.mem_of_getElem? hp1)
 have har:=av.ar
 refine Z6 ?_
 refine .bP [(0,0),(1,0),(2,0),(3,1),(4,0),(5,0),(6,0),(7,1),(8,0),(9,0),(10,0),(11,1),(12,0),(13,4),(14,4),(15,0),(16,0),(17,0),(18,0)] 19 1 FM.out (by kernel_rfl) (k:= ?_)
 refine Z9 ?_
 refine .p rfl (fun _=>aX i FU.out FC.out rfl (.t rfl) (.t rfl) rfl oQ) ?_
 refine Z1 ?_
 refine .o rfl (fC (i:=1) (r:=0) FA.out (.t rfl) rfl hp1 rfl) ?_
 refine Z1 ?_
 refine .a rfl ((kZ [_,_,_,_,_] [0,2,1,3,4,5,6] (h:=qE)).same (fun _ _=>aB.perm (Perm.idx [0,2,1,3,4,5,6] rfl rfl)) (fun _ _=>af.refl _)) (fun _ _=>aB.refl _) fun _ _=> ?_
 refine .a rfl ((kZ [_,_,_] [3,4,5,6,0,1,2] (h:=xN (at_:=fr.at_) (n:=s.size) har hrm.2)).same (fun _ _=>aB.perm (Perm.idx [4,5,6,0,1,2,3] rfl rfl)) (fun _ _=>af.refl _)) (fun _ _=>aB.refl _) fun _ _=> ?_
 refine Z4 ?_
 refine .fin ?_
 refine cK ?_
 refine bL ?_
 exact .z
theorem zZ:cw Tryz.prog 103 [aI X.pb 0,aC [aS k.1,aS k.2]] [fU X p,qv X p,dB X.sb s] (γ:=jP×jT×Nat) (fun g=>g=j6 p s k) (fun g=>[fU X g.1,qv X g.1,dB X.sb g.2.1]) (fun g=>aS (g.2.2:Int)):=by
 refine In 29 Tryz.func103 fun _ _ _=> ?_
 refine Z7 ?_
 refine .bx 10 1 FM.out (by kernel_rfl) (k:= ?_)
 refine Z5 ?_
 refine .p (nA (i:=1) Tryz.rP Tryz.underlying130 (fun w=>lG Tryz.TO w) (.t rfl) (.le (.t rfl) jb) rfl) ?_
 refine nZ ?_
 refine Cd (fun c0=> ?_) fun c0=> ?_
 ·
  have hno:ak p.bm k=none:=by (cases hq:ak p.bm k with|none=>rfl|some v=>(rw [hq] at c0;exact absurd rfl c0))
  refine Z7 ?_
  refine Post.aP rfl ((p,s,0)) (by unfold j6;rw [hno]) (fun _ _ _ h=>h) (.rt rfl) ?_
  exact .z
 obtain ⟨id,hid⟩:∃id,ak p.bm k=some id:=Option.isSome_iff_exists.1 (Classical.not_not.1 c0)
 refine Z3 ?_
 refine .bx 5 1 FM.out (by kernel_rfl) (k:= ?_)
 refine Z6 ?_
 refine .s (Ep (i:=1) rfl Tryz.rP Tryz.underlying130 (.t rfl) (.le (.t rfl) jb) rfl) ?_
 refine Z9 ?_
 refine .n (cz (rest:=[_,_]) (Ip (s:=s) (id:=id)) FB.out (.cons (.t rfl) (.cons (.le (.t rfl) (af.of_eq (show tM _ _ _=aS id by rw [hid];rfl))) .nil)) (Perm.idx [2,0,1] rfl rfl)) rfl fun Vp WJ=> ?_
 refine Z3 ?_
 subst WJ
 refine Z1 ?_
 refine Post.aP rfl (({p with bm:=fG p.bm k},(tn s id).1,(tn s id).2)) (by unfold j6;rw [hid]) (aB.dD [1,2,0] [] rfl rfl) (.rt rfl) ?_
 exact .z
theorem Iq {c:UInt8}:cW Tryz.prog 163 [ai 1 aj l,ag .u8 (c.toNat:Int)] (ai 1 aj (fo l c l.length)):=by
 refine In 24 Tryz.func163 fun _ _ _=> ?_
 refine .fact (t:=0) rfl (fun S w v h=>bM h) fun hl=> ?_
 refine Z7 ?_
 refine .aT (σ:=Nat) (fun _=>[]) (fun k=>[(0,ai 1 aj (l.take k))]) (fun k=>k≤l.length∧fo l c k=fo l c l.length) (fun k=>k) l.length ⟨Nat.le_refl _,rfl⟩ rfl ?_ ?_
 · exact (.get rfl (af.of_eq (by rw [List.take_length])) (.refl _ _))
 rintro k ⟨hk,htr⟩
 have hlen:(l.take k).length=k:=by (simp;omega)
 have hx:0<k→(l.take k)[k-1]?=some (l.getD (k-1) 0):=fun h0=>by (have h1:k-1<l.length:=by omega);rw [List.getElem?_take,if_pos (by omega)];simp [List.getD_eq_getElem?_getD,h1]
 refine cT ?_
 refine .g (cm.gT rfl rfl rfl rfl (fun hg=>aO (j:=k-1) FU.out FC.out rfl (.when (.t rfl) hg) (.when (.t rfl) hg) (by omega) (hx (by omega)))) rfl rfl ?_
 refine Z6 ?_
 refine Cd (fun c0=> ?_) fun c0=> ?_
 ·
  have h0:0<k:=by omega
  have Rg:l.getD (k-1) 0=c:=UInt8.toNat_inj.1 (by omega)
  have hstep:fo l c (k-1)=fo l c l.length:=by (rw [←htr];obtain ⟨j,rfl⟩:∃j,k=j+1:=⟨k-1,by omega⟩;simp only [Nat.add_sub_cancel] at Rg ⊢;rw [fo,if_pos Rg])
  refine Z8 ?_
  refine .p (we (h:=k-1) FU.out FC.out rfl (.t rfl) (.t rfl) (by omega) (by omega)) rfl ?_
  refine Z3 ?_
  refine .round (k-1) ⟨by omega,hstep⟩ (by omega) rfl ?_
  exact (.get rfl (af.of_eq (by rw [List.take_take,Nat.min_eq_left (by omega)])) (.keep 20 rfl rfl))
 have hend:fo l c k=l.take k:=by (cases k with|zero=>rfl|succ j=>(rw [fo,if_neg (fun e=>c0 ⟨by omega,by (show ((l.getD (j+1-1) 0).toNat:Int)=(c.toNat:Int);rw [Nat.add_sub_cancel,e])⟩)]))
 refine dM ?_
 refine bL ?_
 exact af.of_eq (by rw [←htr,hend])
theorem Ir {c:UInt8}:cW Tryz.prog 162 [ai 1 aj l,ag .u8 (c.toNat:Int)] (ai 1 aj (q7 l c)):=by
 refine In 21 Tryz.func162 fun _ _ _=> ?_
 refine .fact (t:=0) rfl (fun S w v h=>bM h) fun hl=> ?_
 refine Z7 ?_
 refine .aT (σ:=Nat) (fun _=>[]) (fun k=>[(0,ai 1 aj (l.drop k))]) (fun k=>k≤l.length∧q7 (l.drop k) c=q7 l c) (fun k=>l.length-k) 0 ⟨by omega,rfl⟩ rfl ?_ ?_
 · exact (.get rfl (af.of_eq (by rw [List.drop_zero])) (.refl _ _))
 rintro k ⟨hk,htr⟩
 have hlen:(l.drop k).length=l.length-k:=by simp
 have hx:k<l.length→(l.drop k)[0]?=some (l.getD k 0):=fun h0=>by (rw [List.getElem?_drop];simp [List.getD_eq_getElem?_getD,h0])
 refine Z8 ?_
 refine .g (cm.gT rfl rfl rfl rfl (fun hg=>aO (j:=0) FU.out FC.out rfl (.when (.t rfl) hg) (.c _) rfl (hx (by omega)))) rfl rfl ?_
 refine Z6 ?_
 refine Cd (fun c0=> ?_) fun c0=> ?_
 ·
  have h0:k<l.length:=by omega
  have Rg:l.getD k 0=c:=UInt8.toNat_inj.1 (by omega)
  have hcons:l.drop k=l.getD k 0::l.drop (k+1):=by (rw [List.drop_eq_getElem_cons h0];simp [List.getD_eq_getElem?_getD,h0])
  have hstep:q7 (l.drop (k+1)) c=q7 l c:=by (rw [←htr,hcons];unfold q7;rw [List.dropWhile_cons,if_pos (by simpa using Rg)])
  refine Z5 ?_
  refine .p (Bp (l:=1) FU.out FC.out rfl (.t rfl) (.c _) rfl (by omega)) rfl ?_
  refine Z3 ?_
  refine .round (k+1) ⟨by omega,hstep⟩ (by omega) rfl ?_
  exact (.get rfl (af.of_eq (by rw [List.drop_drop])) (.keep 14 rfl rfl))
 have hend:q7 l c=l.drop k:=by (rw [←htr];by_cases h0:k<l.length;(have hcons:l.drop k=l.getD k 0::l.drop (k+1):=by (rw [List.drop_eq_getElem_cons h0];simp [List.getD_eq_getElem?_getD,h0]));(rw [hcons];unfold q7;rw [List.dropWhile_cons,if_neg (fun e=>c0 ⟨by omega,by (have e2:=of_decide_eq_true e;show ((l.getD k 0).toNat:Int)=(c.toNat:Int);rw [e2])⟩)]);(rw [List.drop_of_length_le (by omega)];rfl))
 refine lg ?_
 refine Cd (fun c1=> ?_) fun c1=> ?_
 ·
  refine Z7 ?_
  refine bL ?_
  exact (aG _ _).trans (af.of_eq (by rw [hend,List.drop_of_length_le (by omega)]))
 refine Z9 ?_
 refine bL ?_
 exact af.of_eq (by rw [hend])
theorem Is:cW Tryz.prog 138 [ai 1 aj l,cZ [0]] (ai 1 aj (q7 (fo l 0 l.length) 0)):=by
 refine In 42 Tryz.func138 fun _ _ _=> ?_
 refine lg ?_
 refine Cd (fun c0=> ?_) fun c0=> ?_
 ·
  refine Z7 ?_
  refine bL ?_
  exact (aG _ _).trans (af.of_eq (by have h0:l=[]:=List.length_eq_zero_iff.1 (by omega);rw [h0];rfl))
 refine Z6 ?_
 refine .p (G4 (.t rfl) (.s [] rfl rfl)) rfl ?_
 refine Z2 ?_
 refine Cd (fun c1=> ?_) fun c1=> ?_
 · exact absurd c1 (by decide)
 refine cK ?_
 refine .g (cm.gT rfl rfl rfl rfl (fun hg=>jO FU.out (.when (.t rfl) hg) (.c _) rfl rfl)) rfl rfl ?_
 refine Z4 ?_
 refine Cd (fun c2=> ?_) fun c2=> ?_
 ·
  refine Z1 ?_
  refine .bx 6 2 FM.out (by kernel_rfl) (k:= ?_)
  refine Z2 ?_
  refine .p (jO FU.out (.t rfl) (.c _) rfl rfl) ?_
  refine .p (cA (h:=Iq (l:=l) (c:=0))) ?_
  refine Z1 ?_
  refine .p (jO FU.out (.t rfl) (.c _) rfl rfl) ?_
  refine Z1 ?_
  refine .p (cA (h:=Ir (l:=fo l 0 l.length) (c:=0))) rfl ?_
  refine Z5 ?_
  refine bL ?_
  exact af.refl _
 exact absurd ⟨rfl,by decide⟩ c2
theorem xQ:cW Tryz.prog 120 [ai 1 aj l] (aq (dH l)):=by
 refine In 7 Tryz.func120 fun _ _ _=> ?_
 refine Z8 ?_
 refine .p (bQ (Is) FB.out (.cons (.t rfl) (.cons (.s [0] rfl rfl) .nil))) rfl ?_
 refine Z6 ?_
 refine bL ?_
 exact af.prop (by rw [←Lp,←List.length_eq_zero_iff];omega)
theorem It (av:N9 X p a s) (hp1:p.l[i]?=some fr):cw Tryz.prog 140 [aI X.pb 0,aS (i:Int)] (fU X p::nD X p::qv X p::dB X.sb s::ez X.Y a) (γ:=jP×jT×Nat) (fun g=>zw p a s i fr g) (fun g=>fU X g.1::nD X g.1::qv X g.1::dB X.sb g.2.1::ez X.Y a) (fun g=>aS (g.2.2:Int)):=by
 refine In 86 Tryz.func140 fun _ _ _=> ?_
 have oQ:i<X.n:=by (rw [←av.n];exact (List.getElem?_eq_some_iff.1 hp1).1)
 have OV:=(List.getElem?_eq_some_iff.1 hp1).1
 have al0:(p.l.set i {fr with dy:=false})[i]?=some {fr with dy:=false}:=by simp [OV]
 have hst:=av.st
 refine dM ?_
 refine .p (aX i FU.out FC.out rfl (.t rfl) (.t rfl) rfl oQ) rfl ?_
 refine Z9 ?_
 refine .p (fC (i:=1) (r:=3) FA.out (.t rfl) rfl hp1 rfl) rfl ?_
 refine Z5 ?_
 refine .g (cm.gF rfl rfl rfl rfl (fun hg=>fC (i:=1) (r:=5) FA.out (.when (.t rfl) hg) rfl hp1 rfl)) rfl rfl ?_
 refine Z4 ?_
 refine Cd (fun c0=> ?_) fun c0=> ?_
 ·
  have qf:¬(fr.used=true∧fr.dy=true):=fun ⟨h1,h2⟩=>c0.elim (fun h=>h ((oU _).2 h1)) (fun h=>h ((oU _).2 h2))
  refine Z7 ?_
  refine Post.aP rfl ((p,s,0)) (by exact .clean qf) (fun _ _ _ h=>h) (.rt rfl) ?_
  exact .z
 have G0:fr.used=true∧fr.dy=true:=⟨(oU _).1 (Classical.not_not.1 fun h=>c0 (.inl h)),(oU _).1 (Classical.not_not.1 fun h=>c0 (.inr h))⟩
 refine Z6 ?_
 refine .n ((kZ [_] [0,1,3,4,5,6,7,2] (h:=Fm av hp1)).same (fun _ _=>aB.perm (Perm.idx [0,1,7,2,3,4,5,6] rfl rfl)) (fun _ _=>af.refl _)) rfl fun _ _=> ?_
 refine Z7 ?_
 refine .p (cA (h:=xQ)) rfl ?_
 refine Z2 ?_
 refine Cd (fun c1=> ?_) fun c1=> ?_
 ·
  refine Z5 ?_
  refine .s (gC (i:=1) (r:=5) {fr with dy:=false} rfl FC.out (.t rfl) .cf rfl hp1 rfl rfl) ?_
  refine Z8 ?_
  refine .p (kO (i:=1) (r:=1) FA.out FC.out rfl (.t rfl) rfl al0 rfl) rfl ?_
  refine .n (kZ [_,_,_,_,_] [0,2,3,1,4,5,6,7] (h:=zZ (p:=p.CK i {fr with dy:=false}) (s:=s) (k:=fr.k))) rfl fun g41 h41=> ?_
  refine Z3 ?_
  subst h41
  refine Z2 ?_
  refine Post.aP rfl (j6 (p.CK i {fr with dy:=false}) s fr.k) (by exact .zero G0 c1) (aB.trans (aB.perm (Perm.idx [0,3,1,2,4,5,6,7] rfl rfl)) (aB.cons _ (aB.xJ (Ll (X:=X) (p:=p.CK i {fr with dy:=false}) (q:=(j6 (p.CK i {fr with dy:=false}) s fr.k).1) (Oa _ _ _).symm)))) (.rt rfl) ?_
  exact .z
 refine Z3 ?_
 refine .bx 13 1 FM.out (by kernel_rfl) (k:= ?_)
 refine Z7 ?_
 refine .p (kO (i:=1) (r:=1) FA.out FC.out rfl (.t rfl) rfl hp1 rfl) ?_
 refine .p (nA (i:=2) Tryz.rP Tryz.underlying130 (fun w=>lG Tryz.TO w) (.t rfl) (.le (.t rfl) jb) rfl) ?_
 refine nZ ?_
 refine Cd (fun c2=> ?_) fun c2=> ?_
 ·
  have hno:ak p.bm fr.k=none:=by (cases hq:ak p.bm fr.k with|none=>rfl|some v=>(rw [hq] at c2;exact absurd rfl c2))
  refine dM ?_
  refine .n (kZ [_,_,_,_,_,_,_] [3,0,1,2,4,5,6,7] (h:=Fk (s:=s) hst)) rfl fun Da Rh=> ?_
  refine lg ?_
  refine Cd (fun c3=> ?_) fun c3=> ?_
  ·
   refine Z9 ?_
   refine Post.aP rfl ((p,Da.1,Da.2.2)) (by exact .full G0 c1 hno Da Rh (by omega)) (aB.dD [1,2,3,0,4,5,6,7] [] rfl rfl) (.rt rfl) ?_
   exact .z
  have hsa:=qt.alloc hst Rh
  have bu3:=hsa.1
  have Ub:=af.refl (aS Da.2.1)
  refine Z2 ?_
  refine .bx 9 1 FM.out (by kernel_rfl) (k:= ?_)
  refine Z7 ?_
  refine .p (kO (i:=2) (r:=1) FA.out FC.out rfl (.t rfl) rfl hp1 rfl) ?_
  refine Z2 ?_
  refine .s (Eo (i:=3) Da.2.1 Tryz.rP Tryz.underlying130 (.t rfl) (.le (.t rfl) jb) (.t rfl) rfl) ?_
  refine Z7 ?_
  refine .s (gC (i:=2) (r:=5) {fr with dy:=false} rfl FC.out (.t rfl) .cf rfl hp1 rfl rfl) ?_
  refine cK ?_
  refine .n (cz (rest:=[_,_,_,_,_,_,_]) (xO (ys:=a.get fr.at_ s.size) (by assumption)) FB.out (.cons (.t rfl) (.cons (.le (.t rfl) Ub) (.cons (.t rfl) .nil))) (Perm.idx [0,1,2,3,4,5,6,7] rfl rfl)) rfl fun g85 h85=> ?_
  refine Z3 ?_
  subst h85
  refine Z1 ?_
  refine Post.aP rfl (({p with l:=p.l.set i {fr with dy:=false},bm:=fF p.bm fr.k Da.2.1},(kR Da.1 Da.2.1 (a.get fr.at_ s.size)).1,(kR Da.1 Da.2.1 (a.get fr.at_ s.size)).2)) (by exact .new G0 c1 hno Da Rh (by omega)) (aB.dD [1,2,3,0,4,5,6,7] [] rfl rfl) (.rt rfl) ?_
  exact .z
 obtain ⟨id,hid⟩:∃id,ak p.bm fr.k=some id:=Option.isSome_iff_exists.1 (Classical.not_not.1 c2)
 have Ub:af (tM aS (aa (.int .i64 0)) (ak p.bm fr.k)) (aS id):=af.of_eq (by rw [hid];rfl)
 refine Z7 ?_
 refine .s (gC (i:=1) (r:=5) {fr with dy:=false} rfl FC.out (.t rfl) .cf rfl hp1 rfl rfl) ?_
 refine cK ?_
 refine .n (cz (rest:=[_,_,_,_,_,_,_]) (xO (ys:=a.get fr.at_ s.size) (by assumption)) FB.out (.cons (.t rfl) (.cons (.le (.t rfl) Ub) (.cons (.t rfl) .nil))) (Perm.idx [3,0,1,2,4,5,6,7] rfl rfl)) rfl fun g85 h85=> ?_
 refine Z3 ?_
 subst h85
 refine Z1 ?_
 refine Post.aP rfl ((p.CK i {fr with dy:=false},(kR s id (a.get fr.at_ s.size)).1,(kR s id (a.get fr.at_ s.size)).2)) (by exact .has G0 c1 id hid) (aB.dD [1,2,3,0,4,5,6,7] [] rfl rfl) (.rt rfl) ?_
 exact .z
theorem Db {f:Fr}:cW Tryz.prog 170 [aC (q6 f)] (aq (¬BP f.used)):=by
 refine In 6 Tryz.func170 fun _ _ _=> ?_
 refine nZ ?_
 refine bL ?_
 exact .z
theorem Iu {fb cap:Nat} {l:List Fr} {p:Fr→Prop} (av:l.length=n) (hp1:n≤64):cw Tryz.prog 169 [aa (bq (some (fb,cap)) n),o9 Tryz.prog (fun _:Fr=>True) (fun x=>[aC (q6 x)]) (fun x=>aq (p x))] [au (some (fb,cap)) 6 q6 l] (γ:=Unit) (fun _=>True) (fun _=>[au (some (fb,cap)) 6 q6 l]) (fun _=>aS (nC p l)):=by
 refine In 19 Tryz.func169 fun _ _ _=> ?_
 refine Z9 ?_
 refine .p (tO rfl Tryz.underlying131 (.t rfl)) rfl ?_
 refine Z4 ?_
 refine .aT (σ:=Nat) (fun _=>_) (fun k=>[(8,aS (k:Int))]) (fun k=>k≤l.length∧cN p l k) (fun k=>l.length-k) 0 ⟨by omega,cN.zero p l⟩ rfl ?_ ?_
 · exact (.get rfl (af.refl _) (.refl _ _))
 rintro k ⟨hk,hnot⟩
 refine Z6 ?_
 refine Cd (fun c0=> ?_) fun c0=> ?_
 ·
  obtain ⟨x,hx⟩:=ah (xs:=l) (k:=k) (by omega)
  refine nZ ?_
  refine .p (aX k FU.out FC.out rfl (.t rfl) (.t rfl) rfl (by omega)) rfl ?_
  refine .p (kO (i:=0) (r:=0) FA.out FC.out rfl (.t rfl) rfl hx rfl) rfl ?_
  refine .p (cV x) rfl ?_
  refine Z2 ?_
  refine Cd (fun c1=> ?_) fun c1=> ?_
  ·
   refine dM ?_
   refine bL ?_
   exact af.int (qu hx (by assumption) hnot).symm
  refine Z7 ?_
  refine .round (k+1) ⟨by omega,hnot.succ hx (by assumption)⟩ (by omega) rfl ?_
  exact (.get rfl (af.int (by omega)) (.keep 12 rfl rfl))
 refine cT ?_
 refine bL ?_
 exact af.int (nh (hnot.all (by omega))).symm
theorem Dc (av:N9 X p a s):cw Tryz.prog 139 [aI X.pb 0] [fU X p,nD X p] (γ:=jP×Nat) (fun g=>wv X p g.1∧g.2<X.n) (fun g=>[fU X g.1,nD X g.1]) (fun g=>aS (g.2:Int)):=by
 refine In 67 Tryz.func139 fun _ _ _=> ?_
 have hn:=av.n
 have hmo:=av.most
 have hps:=av.pos
 refine dM ?_
 refine .n ((cz (rest:=[_]) (Iu (n:=X.n) (l:=p.l) (p:=fun f=>¬BP f.used) av.n av.most) FB.out (.cons (.t rfl) (.cons (.le (.f _) (uJ FB.out (fun (f:Fr) (_:True)=>Db (f:=f)))) .nil)) (Perm.idx [1,0] rfl rfl)).same (fun _ _=>aB.perm (Perm.idx [1,0] rfl rfl)) (fun _ _=>af.refl _)) rfl fun _ _=> ?_
 refine Z9 ?_
 refine Cd (fun c0=> ?_) fun c0=> ?_
 ·
  refine Z8 ?_
  refine Post.aP rfl ((p,(nC (fun f=>¬BP f.used) p.l).toNat)) (by exact ⟨wv.refl av,by (have:=J4 (fun f:Fr=>¬BP f.used) p.l;omega)⟩) (fun _ _ _ h=>h) (.rt rfl) ?_
  exact af.int (by omega)
 refine Z4 ?_
 refine .aT (σ:=jP) (fun p1=>[fU X p1,nD X p1]) (fun p1=>[]) (fun p1=>wv X p p1) (fun p1=>(p1.l.filter (·.seen)).length) p (wv.refl av) rfl ?_ ?_
 · exact (.refl _ _)
 rintro p1 hv
 have AR:=hv.hand
 have ko:=hv.len
 obtain ⟨x,hx⟩:=ah (xs:=p1.l) (k:=p1.hand) (by omega)
 refine Z2 ?_
 refine .bx 8 3 FM.out (by kernel_rfl) (k:= ?_)
 refine Z9 ?_
 refine .p (aX p1.hand FU.out FC.out rfl (.t rfl) (.t rfl) rfl AR) rfl ?_
 refine Z1 ?_
 refine .p (fC (i:=1) (r:=4) FA.out (.t rfl) rfl hx rfl) rfl ?_
 refine Z2 ?_
 refine Cd (fun c1=> ?_) fun c1=> ?_
 ·
  refine Z4 ?_
  refine .bx 8 3 FM.out (by kernel_rfl) (k:= ?_)
  refine Z9 ?_
  refine .p (aX p1.hand FU.out FC.out rfl (.t rfl) (.t rfl) rfl AR) rfl ?_
  refine Z1 ?_
  refine .s (gC (i:=1) (r:=4) {x with seen:=false} rfl FC.out (.t rfl) .cf rfl hx rfl rfl) ?_
  refine Z2 ?_
  refine .bx 12 3 FM.out (by kernel_rfl) (k:= ?_)
  refine cK ?_
  refine .p (tO rfl Tryz.underlying131 (.t rfl)) ?_
  refine .p (Bq (.t rfl) (.t rfl) (by omega) (by omega)) ?_
  refine Z6 ?_
  refine .round ({p1 with l:=p1.l.set p1.hand {x with seen:=false},hand:=(p1.hand+1)%X.n}) (hv.step hx hps) (BB hx ((oU _).1 c1)) rfl ?_
  exact (.keep 35 rfl rfl)
 refine nZ ?_
 refine .bx 12 3 FM.out (by kernel_rfl) (k:= ?_)
 refine cK ?_
 refine .p (tO rfl Tryz.underlying131 (.t rfl)) ?_
 refine .p (Bq (.t rfl) (.t rfl) (by omega) (by omega)) ?_
 refine lg ?_
 refine Post.aP rfl (({p1 with hand:=(p1.hand+1)%X.n},p1.hand)) (by exact ⟨hv.next hps,AR⟩) (fun _ _ _ h=>h) (.rt rfl) ?_
 exact af.refl _
variable {C:Cont}
theorem Iv {D:List bA} (av:Inv X p a s C D) (hp1:p.l[i]?=some fr) (hp2:fr.used=false) (fI:ak p.nY k=none):cw Tryz.prog 141 [aI X.pb 0,aS (i:Int),aC [aS k.1,aS k.2]] (qw X p a s) (γ:=Int) (fun _=>True) (fun n=>(qw X {p with l:=p.l.set i ⟨fr.at_,k,true,false,false⟩,nY:=fF p.nY k (i:Int)} (a.put fr.at_ (C k)) {s with ops:=n})) (fun _=>aS 0):=by
 refine In 72 Tryz.func141 fun _ _ _=> ?_
 have oQ:i<X.n:=by (rw [←av.ok.n];exact (List.getElem?_eq_some_iff.1 hp1).1)
 have hst:=av.ok.st
 have hsz:=hst.size
 have hno:=av.TS fI
 have hlc:=av.uX k
 have rB:=av.place hp1
 have hrm:=av.ok.room fr (List.mem_of_getElem? hp1)
 have har:=av.ok.ar
 refine Z9 ?_
 refine .n ((kZ [_,_,_,_,_,_,_] [0,4,1,2,3,5,6,7,8] (h:=qE)).same (fun _ _=>aB.perm (Perm.idx [0,2,3,4,1,5,6,7,8] rfl rfl)) (fun _ _=>af.refl _)) rfl fun _ _=> ?_
 refine .p (Et FU.out FC.out FY.out FZ.out (.t rfl) rfl (by omega)) rfl ?_
 refine Z3 ?_
 refine .cut (σ:=Int) (fun n=>(qw X p a {s with ops:=n})) (fun n=>[(7,ai 1 aj (C k))]) (fun n=>True) ?_ ?_
 ·
  refine Z1 ?_
  refine .bx 10 1 FM.out (by kernel_rfl) (k:= ?_)
  refine Z5 ?_
  refine .p (nA (i:=3) Tryz.rP Tryz.underlying130 (fun w=>lG Tryz.TO w) (.t rfl) (.le (.t rfl) jb) rfl) ?_
  refine lg ?_
  refine Cd (fun c0=> ?_) fun c0=> ?_
  ·
   obtain ⟨id,hid⟩:∃id,ak p.bm k=some id:=Option.isSome_iff_exists.1 c0
   have hlk:ak s.m id=some (C k):=by (rcases hno with h|⟨id2,h,h2,_⟩;(rw [hid] at h;cases h.1);(rw [hid] at h;cases h;exact h2))
   obtain ⟨n0,hn0⟩:=Lr av.nf hlk
   refine dM ?_
   refine .n (cz (rest:=[_,_,_,_,_,_,_,_]) (Io (s:=s) (id:=id) hst) FB.out (.cons (.t rfl) (.cons (.le (.t rfl) (af.of_eq (show tM _ _ _=aS id by rw [hid];rfl))) .nil)) (Perm.idx [4,0,1,2,3,5,6,7,8] rfl rfl)) rfl fun Vq h30=> ?_
   refine Z7 ?_
   rw [hn0] at h30
   subst h30
   refine Z6 ?_
   refine Cd (fun c1=> ?_) fun c1=> ?_
   · exact absurd rfl c1
   refine Z1 ?_
   refine .own (aB.perm (Perm.idx [1,2,3,4,0,5,6,7,8] rfl rfl)) (bK.meet n0 trivial rfl (.get rfl (af.refl _) (.keep 26 rfl rfl)))
  have hnb:=SS c0
  have WK:List.replicate s.size 0=C k:=by (rcases hno with h|⟨id2,h,_⟩;(rw [pK h.2,hlc]);(rw [hnb] at h;cases h))
  refine Z1 ?_
  refine .meet s.ops trivial rfl (.get rfl (af.of_eq (by rw [WK])) (.keep 12 rfl rfl))
 intro n _
 refine Z1 ?_
 refine .bx 13 1 FM.out (by kernel_rfl) (k:= ?_)
 refine Z9 ?_
 refine .p (aX i FU.out FC.out rfl (.t rfl) (.t rfl) rfl oQ) ?_
 refine Z1 ?_
 refine .p (fC (i:=1) (r:=0) FA.out (.t rfl) rfl hp1 rfl) ?_
 refine Z2 ?_
 refine .n (kZ [_,_,_,_,_] [5,6,7,8,0,1,2,3,4] (h:=zY (at_:=fr.at_) (ys:=C k) har (by omega))) rfl fun Uc h49=> ?_
 refine Z3 ?_
 refine .bx 15 2 FM.out (by kernel_rfl) (k:= ?_)
 refine Z3 ?_
 refine .p (fB (i:=4) FA.out (.t rfl) rfl rfl) ?_
 refine Z4 ?_
 refine .p (fB (i:=4) FA.out (.t rfl) rfl rfl) ?_
 refine Z1 ?_
 refine .p (aX i FU.out FC.out rfl (.t rfl) (.t rfl) rfl oQ) ?_
 refine Z1 ?_
 refine .p (fC (i:=5) (r:=0) FA.out (.t rfl) rfl hp1 rfl) ?_
 refine Z1 ?_
 refine .p ((aL FP.out FZ.out (.cons (.t rfl) (.cons (.t rfl) (.cons .ct .nil))) rfl).le (af.agg (.cons (.refl _) (.cons (.refl _) (.cons (.refl _) (.cons (.refl _) (.cons lH (.cons lH .nil)))))))) ?_
 refine Z1 ?_
 refine .p (aX i FU.out FC.out rfl (.t rfl) (.t rfl) rfl oQ) rfl ?_
 refine .s (wo (i:=5) (r:=0) ⟨fr.at_,k,true,false,false⟩ rfl FC.out rfl (.t rfl) (.t rfl) rfl rfl hp1 rfl rfl) ?_
 refine Z3 ?_
 refine .bx 6 1 FM.out (by kernel_rfl) (k:= ?_)
 refine Z3 ?_
 refine .p (fB (i:=4) FA.out (.t rfl) rfl rfl) ?_
 refine Z3 ?_
 refine .s (Eo (i:=6) (i:Int) Tryz.rP Tryz.underlying130 (.t rfl) (.le (.t rfl) jb) (.t rfl) rfl) ?_
 refine Z8 ?_
 refine Post.aP rfl (n) (by trivial) (aB.dD [4,5,6,7,8,0,1,2,3] [] rfl rfl) (.rt rfl) ?_
 exact .z
theorem z1 {D:List bA} (av:Inv X p a s C D):cw Tryz.prog 121 [aI X.pb 0,aC [aS k.1,aS k.2]] (qw X p a s) (γ:=jP×dX×jT×Nat) (fun g=>SU X p a s C D k g) (fun g=>(qw X g.1 g.2.1 g.2.2.1)) (fun g=>bD [aS (g.2.2.2:Int),aS 0]):=by
 refine In 71 Tryz.func121 fun _ _ _=> ?_
 refine Z8 ?_
 refine .bx 10 1 FM.out (by kernel_rfl) (k:= ?_)
 refine Z5 ?_
 refine .p (nA (i:=2) Tryz.rP Tryz.underlying130 (fun w=>lG Tryz.TO w) (.t rfl) (.le (.t rfl) jb) rfl) ?_
 refine Z8 ?_
 refine .cut (σ:=jP×dX×jT×Nat) (fun g=>(qw X g.1 g.2.1 g.2.2.1)) (fun g=>[(6,aS (g.2.2.2:Int))]) (fun g=>SU X p a s C D k g) ?_ ?_
 ·
  refine Z6 ?_
  refine Cd (fun c0=> ?_) fun c0=> ?_
  ·
   have hkn:=SS c0
   refine Z3 ?_
   refine .n (cE (h:=Dc (p:=p) (a:=a) (s:=s) av.ok)) rfl fun g22 Vr=> ?_
   refine Z3 ?_
   obtain ⟨⟨l1,SD,bu4,bm1,f1,cl1⟩,i1⟩:=g22
   obtain ⟨hv,hi1⟩:=Vr
   have Qg:=hv.rest
   simp only [jP.mk.injEq,true_and] at Qg
   obtain ⟨rfl,rfl,rfl,rfl⟩:=Qg
   have Vs:=av.vic hv
   have ko:=Vs.ok.n
   obtain ⟨fr,hfr⟩:=getElem?_lt' (xs:=l1) (k:=i1) (by (simp only at hi1 ko;omega))
   refine Z5 ?_
   refine .n (kZ [_] [0,1,3,4,5,6,7,8,2] (h:=It (p:=⟨l1,SD,p.nY,p.bm,p.fault,p.closed⟩) (a:=a) (s:=s) Vs.ok hfr)) rfl fun Ri Qh=> ?_
   refine Z3 ?_
   have hsv:=Vs.save hfr Qh
   obtain ⟨⟨l2,hd2,bu5,bm2,f2,cl2⟩,s2,e2⟩:=Ri
   obtain ⟨Hq,hI2,hsf,v7,U6⟩:=hsv
   simp only at Hq hI2 v7 U6
   subst Hq
   obtain ⟨⟨Qi,lp,ha2,hk2,hu2,hd2c⟩,Iw⟩:=hsf
   simp only at lp Iw
   subst Iw
   have Ix:l2[i1]?=some Qi:=by rw [lp];exact jQ hfr
   have OV:i1<X.n:=hi1
   refine Z6 ?_
   refine Cd (fun c1=> ?_) fun c1=> ?_
   · exact absurd rfl c1
   refine Z2 ?_
   refine .cut (σ:=jP) (fun p3=>(qw X p3 a s2)) (fun p3=>[]) (fun p3=>Inv X p3 a s2 C D∧(∃f:Fr,p3.l[i1]?=some f∧f.used=false)∧ak p3.nY k=none) ?_ ?_
   ·
    refine Z7 ?_
    refine .p (aX i1 FU.out FC.out rfl (.t rfl) (.t rfl) rfl OV) rfl ?_
    refine Z1 ?_
    refine .p (fC (i:=1) (r:=3) FA.out (.t rfl) rfl Ix rfl) rfl ?_
    refine Z2 ?_
    refine Cd (fun c2=> ?_) fun c2=> ?_
    ·
     have hu2t:Qi.used=true:=(oU _).1 c2
     have bf2:=jQ (x:={Qi with used:=false}) Ix
     refine Z1 ?_
     refine .bx 12 1 FM.out (by kernel_rfl) (k:= ?_)
     refine Z9 ?_
     refine .p (aX i1 FU.out FC.out rfl (.t rfl) (.t rfl) rfl OV) ?_
     refine Z1 ?_
     refine .p (kO (i:=1) (r:=1) FA.out FC.out rfl (.t rfl) rfl Ix rfl) ?_
     refine Z1 ?_
     refine .s (Ep (i:=8) rfl Tryz.rP Tryz.underlying130 (.t rfl) (.le (.t rfl) jb) rfl) ?_
     refine Z8 ?_
     refine .p (aX i1 FU.out FC.out rfl (.t rfl) (.t rfl) rfl OV) rfl ?_
     refine Z1 ?_
     refine .s (gC (i:=1) (r:=3) {Qi with used:=false} rfl FC.out (.t rfl) .cf rfl Ix rfl rfl) ?_
     refine Z1 ?_
     refine .own (aB.perm (Perm.idx [0,1,8,2,3,4,5,6,7] rfl rfl)) (bK.meet ⟨l2.set i1 {Qi with used:=false},hd2,fG p.nY Qi.k,bm2,f2,cl2⟩ ⟨hI2.Ws Ix hu2t (hd2c hu2t),⟨_,jQ Ix,rfl⟩,by (show ak (fG p.nY Qi.k) k=none;rw [jB _ _ av.QT];split;rfl;exact hkn)⟩ rfl (.keep 27 rfl rfl))
    have hu2f:Qi.used=false:=by (cases hq:Qi.used with|false=>rfl|true=>exact absurd ((oU _).2 hq) c2)
    refine Z1 ?_
    refine .own (aB.perm (Perm.idx [0,1,8,2,3,4,5,6,7] rfl rfl)) (bK.meet ⟨l2,hd2,p.nY,bm2,f2,cl2⟩ ⟨hI2,⟨Qi,Ix,hu2f⟩,hkn⟩ rfl (.keep 8 rfl rfl))
   intro p3 ⟨hI3,⟨fr3,Rj,hu3⟩,H8⟩
   refine Z5 ?_
   refine .n (cE (h:=Iv (p:=p3) (a:=a) (s:=s2) (C:=C) (D:=D) (fr:=fr3) (k:=k) hI3 Rj hu3 H8)) rfl fun g59 h59=> ?_
   refine Z9 ?_
   refine Cd (fun c3=> ?_) fun c3=> ?_
   · exact absurd rfl c3
   refine Z1 ?_
   refine .meet (⟨p3.l.set i1 ⟨fr3.at_,k,true,false,false⟩,p3.hand,fF p3.nY k (i1:Int),p3.bm,p3.fault,p3.closed⟩,a.put fr3.at_ (C k),{s2 with ops:=g59},i1) ⟨(hI3.load Rj hu3 H8).ops g59,v7,U6,hI3.QY Rj k,_,jQ Rj,rfl,rfl,fun _=>rfl⟩ rfl (.get rfl (af.refl _) (.keep 18 rfl rfl))
  obtain ⟨j0,hj0⟩:∃j,ak p.nY k=some j:=Option.isSome_iff_exists.1 (Classical.not_not.1 c0)
  obtain ⟨j,fj,rfl,hfj,huj,hkj⟩:=av.TR k j0 hj0
  refine Z1 ?_
  refine .meet (p,a,s,j) ⟨av,rfl,rfl,dN.refl _ _,fj,hfj,huj,hkj,fun e=>by (rw [hj0] at e;cases e)⟩ rfl (.get rfl (af.of_eq (show tM _ _ _=aS (j:Int) by rw [hj0];rfl)) (.keep 2 rfl rfl))
 intro ⟨p5,a5,s5,i5⟩ hW
 obtain ⟨f5,ry,WL,Rb,hd5⟩:=hW.fr
 have Iy:=hW.inv
 have Qj:i5<X.n:=by (rw [←Iy.ok.n];exact (List.getElem?_eq_some_iff.1 ry).1)
 refine Z7 ?_
 refine .p (aX i5 FU.out FC.out rfl (.t rfl) (.t rfl) rfl Qj) rfl ?_
 refine Z1 ?_
 refine .s (gC (i:=1) (r:=4) {f5 with seen:=true} rfl FC.out (.t rfl) .ct rfl ry rfl rfl) ?_
 refine cK ?_
 refine Post.bf rfl rfl ((⟨p5.l.set i5 {f5 with seen:=true},p5.hand,p5.nY,p5.bm,p5.fault,p5.closed⟩,a5,s5,i5)) (by exact ⟨Iy.seen ry,hW.size,hW.cap,hW.out,_,jQ ry,WL,Rb,hd5⟩) (fun _ _ _ h=>h) rfl (.cons (.rt rfl) ?_ (.cons (.rt rfl) ?_ .nil))
 · exact .z
 exact .z
variable {z:Nat} {q:Nat} {m:Nat} {T:jP→Prop} {R:dX→HP}
theorem Fo {mem page at_:Int} (av:m+1≤q) (hp1:page≤9223372036854775807) (hp2:nE X R):cw Tryz.prog 97 [aI X.pb 0,aS mem,aS page,aS at_,ai 1 aj ys] [ek X z q T C m R] (γ:=Unit) (fun _=>True) (fun _=>[ek X z q (fun _=>True) (rT z C (mem,page) at_ ys) (m+1) R]) (fun _=>aS (fq z (mem,page) at_ (ys.length:Int):Int)):=by
 refine In 69 Tryz.func97 fun _ _ _=> ?_
 refine .J6 fun p a s hG=> ?_
 obtain ⟨D,hDm,hDk,hI⟩:=hG.ex
 have hsz:=hI.ok.st.size
 have hgz:=hG.sz
 have hRR:=hp2
 have hgc:=hG.cp
 have hwr:=hG.wrong (mem,page) at_ (ys.length:Int)
 have Vs:=hI.less (D':=(mem,page)::D) (fun k hk=>List.mem_cons_of_mem _ hk) (by (simp only [List.length_cons];omega))
 have hD1:((mem,page)::D).length≤m+1:=by (simp only [List.length_cons];omega)
 refine cK ?_
 refine .n (ax FZ.out) rfl fun Vn _=> ?_
 refine Z3 ?_
 refine .share (t:=11) (i:=0) rfl rfl ?_
 refine Z8 ?_
 refine .n ((kZ [_,_,_,_,_,_,_,_] [0,4,1,2,3,5,6,7,8,9] (h:=sk (p:=p) (s:=s) (k:=(mem,page)) (at_:=at_) (n:=(ys.length:Int)) (by omega))).same (fun _ _=>aB.perm (Perm.idx [0,2,3,4,1,5,6,7,8,9] rfl rfl)) (fun _ _=>af.refl _)) rfl fun _ _=> ?_
 refine Z9 ?_
 refine Cd (fun c0=> ?_) fun c0=> ?_
 ·
  have hne:fq z (mem,page) at_ (ys.length:Int)≠0:=by (rw [←hwr];omega)
  have S2:rT z C (mem,page) at_ ys=C:=by unfold rT;rw [if_neg hne]
  refine Z8 ?_
  refine Post.aP rfl (()) (by trivial) (iz (p:=p) (a0:=a) (a:=a) (s:=s) (r:=[]) hRR hI.ok.ar (dN.refl _ _) ⟨⟨D,Nat.le_succ_of_le hDm,hDk,(by rw [S2];exact hI)⟩,hG.sz,hG.cp,trivial⟩) (.rt rfl) ?_
  exact af.int (by rw [←hwr])
 have qZ:fq z (mem,page) at_ (ys.length:Int)=0:=by (rw [←hwr];omega)
 obtain ⟨Cs,hk2,vW,hn0,hsum⟩:=BE qZ
 have WM:∀k∈(mem,page)::D,Oi k:=fun k hk=>(List.mem_cons.1 hk).elim (fun e=>e▸⟨Cs,hk2,hp1⟩) (hDk k)
 have S2:rT z C (mem,page) at_ ys=iq C (mem,page) (Nk (C (mem,page)) at_.toNat ys):=by unfold rT;rw [if_pos qZ]
 refine Z7 ?_
 refine .n ((kZ [_,_,_,_,_,_,_] [0,2,3,1,4,5,6,7,8,9] (h:=xP (p:=p) (k:=(mem,page)))).same (fun _ _=>aB.perm (Perm.idx [0,3,1,2,4,5,6,7,8,9] rfl rfl)) (fun _ _=>af.refl _)) rfl fun _ _=> ?_
 refine Z3 ?_
 refine .g (cm.gT rfl rfl rfl rfl (fun hg=>bQ (xQ) FB.out (.cons (.when (.t rfl) hg) .nil))) rfl rfl ?_
 refine Z3 ?_
 refine Cd (fun c1=> ?_) fun c1=> ?_
 ·
  have WK:=hI.unknown c1.1
  have hlc:=hI.uX (mem,page)
  have hsame:iq C (mem,page) (Nk (C (mem,page)) at_.toNat ys)=C:=Ls (Oc WK c1.2 (by omega))
  refine Z7 ?_
  refine Post.aP rfl (()) (by trivial) (iz (p:=p) (a0:=a) (a:=a) (s:=s) (r:=[]) hRR hI.ok.ar (dN.refl _ _) ⟨⟨(mem,page)::D,hD1,WM,(by rw [S2,hsame];exact Vs)⟩,hG.sz,hG.cp,trivial⟩) (.rt rfl) ?_
  exact af.int (by rw [qZ];rfl)
 refine Z6 ?_
 refine .n (cE (h:=z1 (p:=p) (a:=a) (s:=s) (k:=(mem,page)) Vs)) rfl fun Qf Rk=> ?_
 refine Z7 ?_
 obtain ⟨p5,a5,s5,i5⟩:=Qf
 have Iy:=Rk.inv
 obtain ⟨f5,ry,WL,Rb,hd5⟩:=Rk.fr
 simp only at ry Iy
 have Qj:i5<X.n:=by (rw [←Iy.ok.n];exact (List.getElem?_eq_some_iff.1 ry).1)
 have OW:=Iy.ok.ar
 have hz5:s5.size=z:=Rk.size.trans hG.sz
 have hc5:s5.cap=(q:Int):=Rk.cap.trans hG.cp
 have al1:=Iy.ok.room f5 (List.mem_of_getElem? ry)
 have hm5:=OW.most
 have WN:=jQ (x:={f5 with dy:=true}) ry
 have hI6:=Iy.write ry WL (o:=at_.toNat) (ys:=ys) (by omega) (by rw [Rb];exact List.mem_cons_self)
 have NW:iq C f5.k (Nk (C f5.k) at_.toNat ys)=iq C (mem,page) (Nk (C (mem,page)) at_.toNat ys):=by rw [Rb]
 rw [NW] at hI6
 refine Z7 ?_
 refine Cd (fun c2=> ?_) fun c2=> ?_
 · exact absurd rfl c2
 refine Z9 ?_
 refine .p (aX i5 FU.out FC.out rfl (.t rfl) (.t rfl) rfl Qj) rfl ?_
 refine Z1 ?_
 refine .s (gC (i:=1) (r:=5) {f5 with dy:=true} rfl FC.out (.t rfl) .ct rfl ry rfl rfl) ?_
 refine Z3 ?_
 refine .bx 15 2 FM.out (by kernel_rfl) (k:= ?_)
 refine Z9 ?_
 refine .p (aX i5 FU.out FC.out rfl (.t rfl) (.t rfl) rfl Qj) ?_
 refine Z1 ?_
 refine .p (bl.le (fC (i:=1) (r:=0) FA.out (.t rfl) rfl WN rfl) (af.refl (aS (f5.at_:Int)))) ?_
 refine Z1 ?_
 refine .p ((ep (.t rfl) (.t rfl) dL).le (af.int (show _=((f5.at_+at_.toNat:Nat):Int) by omega))) ?_
 refine Z2 ?_
 refine .n (kZ [_,_,_,_,_,_] [5,6,7,8,0,1,2,3,4,9] (h:=zY (X:=X.Y) (a:=a5) (at_:=f5.at_+at_.toNat) (ys:=ys) OW (by omega))) rfl fun g68 h68=> ?_
 refine Z4 ?_
 refine Post.aP rfl (()) (by trivial) (aB.trans (aB.perm (Perm.idx [4,5,6,7,8,0,1,2,3,9] rfl rfl)) (iz (p:={p5 with l:=p5.l.set i5 {f5 with dy:=true}}) (a0:=a) (a:=a5.put (f5.at_+at_.toNat) ys) (s:=s5) (r:=[]) hRR hI.ok.ar (Rk.out.trans (dN.put (by omega) (by omega) (by omega))) ⟨⟨(mem,page)::D,hD1,WM,(by rw [S2];exact hI6)⟩,hz5,hc5,trivial⟩)) (.rt rfl) ?_
 exact af.int (by rw [qZ];rfl)
variable {o:Nat}
theorem LW {a:Nat}:cW Tryz.prog 94 [ag .u64 (a:Int),ag .u64 (o:Int)] (bD [ag .u64 (IntKind.u64.wrap ((a:Int)+(o:Int))),aq (IntKind.u64.wrap ((a:Int)+(o:Int))≥(a:Int))]):=by
 refine In 14 Tryz.func94 fun _ _ _=> ?_
 refine cK ?_
 refine .p (Nx (.t rfl) (.t rfl)) rfl ?_
 refine iW ?_
 refine j9 ?_ ?_
 · exact .z
 exact .z
variable {mm:u9}
theorem Dd {a:Nat} (av:mm.pages≤65536) (hp1:a<18446744073709551616) (hp2:n<18446744073709551616):cw Tryz.prog 95 [aI mb 0,ag .u64 (a:Int),ag .u64 (n:Int)] [di mb pb mm] (γ:=Unit) (fun _=>True) (fun _=>[di mb pb mm]) (fun _=>aq (jD mm.pages a n)):=by
 refine In 24 Tryz.func95 fun _ _ _=> ?_
 refine Z32 ?_
 refine bL ?_
 exact af.prop (by unfold jD;omega)
theorem xR {a:Nat} {n:Int} (av:AW mm) (hp1:a<18446744073709551616) (hp2:o<18446744073709551616):cw Tryz.prog 51 [aI mb 0,ag .u64 (a:Int),ag .u64 (o:Int),aS n] [di mb pb mm] (γ:=Unit) (fun _=>True) (fun _=>[di mb pb mm]) (fun _=>bD [ag .u64 ((cg mm.pages a o n).1:Int),aS ((cg mm.pages a o n).2.1:Int),aS ((cg mm.pages a o n).2.2:Int)]):=by
 refine In 39 Tryz.func51 fun _ _ _=> ?_
 have hq1:=av.pages;have Qc:=av.most
 refine cT ?_
 refine .p (cA (h:=LW)) rfl ?_
 refine dM ?_
 refine .p (cO FU.out (.t rfl)) rfl ?_
 refine Z3 ?_
 refine Cd (fun c0=> ?_) fun c0=> ?_
 · exact c0.elim
 refine Z7 ?_
 refine Cd (fun c1=> ?_) fun c1=> ?_
 ·
  refine cK ?_
  refine Qe ?_ ?_ ?_
  · exact af.int (by unfold cg;rw [if_pos c1];rfl)
  · exact af.int (by unfold cg;rw [if_pos c1];rfl)
  exact af.int (by unfold cg;rw [if_pos c1];rfl)
 refine Z7 ?_
 refine Cd (fun c2=> ?_) fun c2=> ?_
 ·
  refine cK ?_
  refine Qe ?_ ?_ ?_
  · exact af.int (by unfold cg;rw [if_neg c1,if_pos c2];rfl)
  · exact af.int (by unfold cg;rw [if_neg c1,if_pos c2];rfl)
  exact af.int (by unfold cg;rw [if_neg c1,if_pos c2];rfl)
 refine Z9 ?_
 refine .Vd rfl rfl rfl rfl (fun hg=>((cz (rest:=[]) (Dd (mb:=mb) (pb:=pb) (mm:=mm) (a:=a+o) (n:=n.toNat) (by omega) (by rcases sQ a o hp1 hp2 with ⟨_,e⟩|⟨_,e⟩<;>omega) (by omega)) FB.out (.cons (.when (.t rfl) hg) (.cons (.le (.when (.t rfl) hg) (af.int (show _=((a+o:Nat):Int) by rcases sQ a o hp1 hp2 with ⟨_,e⟩|⟨_,e⟩<;>omega))) (.cons (.le (.when (.t rfl) hg) (af.int (show _=((n.toNat:Nat):Int) by omega))) .nil))) (Perm.idx [0] rfl rfl)).same (fun _ _=>aB.refl _) (fun _ _=>af.refl _)).same (fun _ _=>aB.refl _) (fun _ _=>af.refl _)) rfl rfl ?_
 refine Z4 ?_
 refine Cd (fun c3=> ?_) fun c3=> ?_
 ·
  have Qx:jD mm.pages (a+o) n.toNat↔mm.pages*65536<a+o+n.toNat:=Iff.rfl
  have hsc:=sQ a o hp1 hp2
  have Qk:cg mm.pages a o n=(0,4,0):=by (unfold cg;rw [if_neg c1,if_neg c2,if_pos (Qx.2 (by rcases hsc with ⟨_,e⟩|⟨_,e⟩;(rcases c3 with c3|c3;omega;exact Qx.1 c3);omega))])
  refine cK ?_
  refine Qe ?_ ?_ ?_
  · exact af.int (by rw [Qk];rfl)
  · exact af.int (by rw [Qk];rfl)
  exact af.int (by rw [Qk];rfl)
 have Qx:jD mm.pages (a+o) n.toNat↔mm.pages*65536<a+o+n.toNat:=Iff.rfl
 have hsc:=sQ a o hp1 hp2
 have hfit:a+o<18446744073709551616:=by (rcases hsc with ⟨e,_⟩|⟨_,e⟩;exact e;exact absurd (.inl (by omega)) c3)
 have Qk:cg mm.pages a o n=(a+o,0,0):=by (unfold cg;rw [if_neg c1,if_neg c2,if_neg (fun e=>c3 (.inr e))])
 refine dM ?_
 refine Qe ?_ ?_ ?_
 · exact af.int (by rw [Qk];omega)
 · exact af.int (by rw [Qk];rfl)
 exact af.int (by rw [Qk];rfl)
theorem Fp (av:nE X R):cw Tryz.prog 117 [aI X.pb 0] [ek X z q T C m R] (γ:=Unit) (fun _=>True) (fun _=>[ek X z q T C m R]) (fun _=>aS (z:Int)):=by
 refine In 10 Tryz.func117 fun _ _ _=> ?_
 refine .J6 fun p a s hG=> ?_
 obtain ⟨D,hDm,hDk,hI⟩:=hG.ex
 have hsz:=hI.ok.st.size
 have hgz:=hG.sz
 have hRR:=av
 refine Z9 ?_
 refine .p (cO FU.out (.t rfl)) rfl ?_
 refine Z2 ?_
 refine Cd (fun c0=> ?_) fun c0=> ?_
 · exact c0.elim
 refine Z8 ?_
 refine .n ((kZ [_,_,_,_,_,_,_,_,_] [4,0,1,2,3,5,6,7,8,9] (h:=uf)).same (fun _ _=>aB.perm (Perm.idx [1,2,3,4,0,5,6,7,8,9] rfl rfl)) (fun _ _=>af.refl _)) rfl fun _ _=> ?_
 refine Z4 ?_
 refine Post.aP rfl (()) (by trivial) (iz (p:=p) (a0:=a) (a:=a) (s:=s) (r:=[]) hRR hI.ok.ar (dN.refl _ _) ⟨⟨D,hDm,hDk,hI⟩,hG.sz,hG.cp,hG.cln⟩) (.rt rfl) ?_
 exact af.int (by rw [hG.sz])
theorem xS {a:Nat} (av:nE X R) (hp1:z≤1024):cw Tryz.prog 96 [aI mb 0,ag .u64 (a:Int),aS (n:Int)] [di mb X.pb mm,ek X z q T C m R] (γ:=Unit) (fun _=>True) (fun _=>[di mb X.pb mm,ek X z q T C m R]) (fun _=>EP 118 [cr [aS (n:Int)],cr [ag .u64 (a:Int)],cr [ag .u64 (z:Int)]]):=by
 refine In 15 Tryz.func96 fun _ _ _=> ?_
 refine lg ?_
 refine .n ((kZ [_] [1,0] (h:=Fp (by assumption))).same (fun _ _=>aB.perm (Perm.idx [1,0] rfl rfl)) (fun _ _=>af.refl _)) rfl fun _ _=> ?_
 refine Z1 ?_
 refine .n (ax FZ.out) rfl fun b7 _=> ?_
 refine Z3 ?_
 refine .share (t:=7) (i:=0) rfl rfl ?_
 refine Z2 ?_
 refine .p (zI (.cons (.t rfl) (.cons (.t rfl) (.cons (.t rfl) .nil)))) rfl ?_
 refine Z4 ?_
 refine bL ?_
 exact .z
theorem vk {l a N:Nat} {J:Nat→List HP} (av:0<z) (hp1:z≤1024) (hp2:a+n≤4611686018427387904) (fI:dI z a n N=n) (oe:∀j,j<N→dI z a n j<n) (yE:∀j,j<N→Ow Tryz.prog l [aC [aS (((a+dI z a n j)/z:Nat):Int),aS (((a+dI z a n j)%z:Nat):Int),aS (iI z a n (dI z a n j):Int),aS (dI z a n j:Int)]] (J j) (J (j+1))):cw Tryz.prog 118 [yV l,cr [aS (n:Int)],cr [ag .u64 (a:Int)],cr [ag .u64 (z:Int)]] (J 0) (γ:=Unit) (fun _=>True) (fun _=>J N) (fun _=>bD []):=by
 refine In 42 Tryz.func118 fun _ _ _=> ?_
 refine Z6 ?_
 refine .aT (σ:=Nat) (fun j=>J j) (fun j=>[(5,aS (dI z a n j:Int))]) (fun j=>j≤N) (fun j=>N-j) 0 (Nat.zero_le _) rfl ?_ ?_
 · exact (.get rfl (af.refl _) (.refl _ _))
 rintro j hj
 have GZ:=nF z a n j
 have Yi:=Nat.mod_lt (a+dI z a n j) av
 have hdq:=Nat.div_le_self (a+dI z a n j) z
 have JX:(0:Int)≤(((a+dI z a n j)/z:Nat):Int):=Int.natCast_nonneg _
 have hst:dI z a n j+iI z a n (dI z a n j)≤n:=nF z a n (j+1)
 refine Z8 ?_
 refine Cd (fun c0=> ?_) fun c0=> ?_
 ·
  have hjN:j<N:=by (rcases Nat.lt_or_ge j N with h|h;exact h;(have e:j=N:=by omega);rw [e,fI] at c0;omega)
  refine Z8 ?_
  refine .p ((ep (.t rfl) (.t rfl) dL).le (af.int (show _=(((a+dI z a n j):Nat):Int) by omega))) rfl ?_
  refine Z4 ?_
  refine .bx 9 2 FM.out (by kernel_rfl) (k:= ?_)
  refine Z6 ?_
  refine .p ((Bq (.t rfl) (.t rfl) (by omega) (by omega)).le (af.int (show _=(((a+dI z a n j)%z:Nat):Int) from (Int.natCast_emod _ _).symm))) ?_
  refine Z3 ?_
  refine .p ((Ec (.t rfl) (.t rfl)).le (af.int (show _=((iI z a n (dI z a n j):Nat):Int) by (unfold iI;omega)))) rfl ?_
  refine Z5 ?_
  refine .bx 12 2 FM.out (by kernel_rfl) (k:= ?_)
  refine Z3 ?_
  refine .p ((NU (.t rfl) (.t rfl) (by omega) (by omega) (by rw [←Int.natCast_ediv];exact nt (by omega) (by omega))).le (af.int (show _=(((a+dI z a n j)/z:Nat):Int) from (Int.natCast_ediv _ _).symm))) ?_
  refine Z3 ?_
  refine .p ((Bq (.t rfl) (.t rfl) (by omega) (by omega)).le (af.int (show _=(((a+dI z a n j)%z:Nat):Int) from (Int.natCast_emod _ _).symm))) ?_
  refine Z5 ?_
  refine .yld (yE j hjN) (.t rfl) (.cons (.t rfl) .nil) (List.Perm.of_eq (List.append_nil _).symm) rfl ?_
  refine Z3 ?_
  refine Cd (fun c1=> ?_) fun c1=> ?_
  · exact (c1 trivial).elim
  refine Z9 ?_
  refine .round (j+1) hjN (by omega) (List.append_nil _) ?_
  exact (.get rfl (af.int (by (show (dI z a n j:Int)+(iI z a n (dI z a n j):Int)=((dI z a n j+iI z a n (dI z a n j):Nat):Int);omega))) ((.keep 38 rfl rfl)))
 have hjN:j=N:=by (rcases Nat.lt_or_ge j N with h|h;(have h9:=oe j h;omega);omega)
 subst hjN
 refine Z4 ?_
 refine Post.ij rfl (()) (by trivial) (fun _ _ _ h=>h) rfl
theorem Iz {mem page at_ n:Int} (av:nE X R):cw Tryz.prog 123 [aI X.pb 0,aS mem,aS page,aS at_,aS n] [ek X z q T C m R] (γ:=Unit) (fun _=>True) (fun _=>[ek X z q (fun _=>True) C m R]) (fun _=>bD [ai 1 aj (uZ z C (mem,page) at_ n),aS (fq z (mem,page) at_ n:Int)]):=by
 refine In 62 Tryz.func123 fun _ _ _=> ?_
 refine .J6 fun p a s hG=> ?_
 obtain ⟨D,hDm,hDk,hI⟩:=hG.ex
 have hsz:=hI.ok.st.size
 have hgz:=hG.sz
 have hRR:=av
 have hwr:=hG.wrong (mem,page) at_ n
 refine cT ?_
 refine .n (ax FZ.out) rfl fun Rl _=> ?_
 refine Z3 ?_
 refine .share (t:=12) (i:=0) rfl rfl ?_
 refine Z7 ?_
 refine .n ((kZ [_,_,_,_,_,_,_,_] [0,4,1,2,3,5,6,7,8,9] (h:=sk (p:=p) (s:=s) (k:=(mem,page)) (at_:=at_) (n:=n) (by omega))).same (fun _ _=>aB.perm (Perm.idx [0,2,3,4,1,5,6,7,8,9] rfl rfl)) (fun _ _=>af.refl _)) rfl fun _ _=> ?_
 refine Z9 ?_
 refine Cd (fun c0=> ?_) fun c0=> ?_
 ·
  have hne:fq z (mem,page) at_ n≠0:=by (rw [←hwr];omega)
  have hrd:uZ z C (mem,page) at_ n=[]:=by unfold uZ;rw [if_neg hne]
  refine Z9 ?_
  refine Post.bf rfl rfl (()) (by trivial) (iz (p:=p) (a0:=a) (a:=a) (s:=s) (r:=[]) hRR hI.ok.ar (dN.refl _ _) ⟨⟨D,hDm,hDk,hI⟩,hG.sz,hG.cp,trivial⟩) rfl (.cons (.rt rfl) ?_ (.cons (.rt rfl) ?_ .nil))
  · exact (aG _ _).trans (af.of_eq (by rw [hrd]))
  exact af.int (by rw [←hwr])
 have qZ:fq z (mem,page) at_ n=0:=by (rw [←hwr];omega)
 obtain ⟨Cs,hk2,vW,hn0,hsum⟩:=BE qZ
 have hrd:uZ z C (mem,page) at_ n=((C (mem,page)).drop at_.toNat).take n.toNat:=by unfold uZ;rw [if_pos qZ]
 refine Z7 ?_
 refine .n ((kZ [_,_,_,_,_,_,_] [0,2,3,1,4,5,6,7,8,9] (h:=xP (p:=p) (k:=(mem,page)))).same (fun _ _=>aB.perm (Perm.idx [0,3,1,2,4,5,6,7,8,9] rfl rfl)) (fun _ _=>af.refl _)) rfl fun _ _=> ?_
 refine Z3 ?_
 refine Cd (fun c1=> ?_) fun c1=> ?_
 ·
  have WK:=hI.unknown c1
  have hlc:=hI.uX (mem,page)
  have hres:List.replicate n.toNat (0:UInt8)=((C (mem,page)).drop at_.toNat).take n.toNat:=by (rw [pK WK,List.drop_replicate,List.take_replicate];congr 1;omega)
  refine Z3 ?_
  refine .p (Et FU.out FC.out FY.out FZ.out (.t rfl) (show n=((n.toNat:Nat):Int) by omega) (by omega)) rfl ?_
  refine Z6 ?_
  refine Post.bf rfl rfl (()) (by trivial) (iz (p:=p) (a0:=a) (a:=a) (s:=s) (r:=[]) hRR hI.ok.ar (dN.refl _ _) ⟨⟨D,hDm,hDk,hI⟩,hG.sz,hG.cp,trivial⟩) rfl (.cons (.rt rfl) ?_ (.cons (.rt rfl) ?_ .nil))
  · exact af.of_eq (by rw [hres,hrd])
  exact af.int (by rw [qZ];rfl)
 refine Z6 ?_
 refine .n (cE (h:=z1 (p:=p) (a:=a) (s:=s) (k:=(mem,page)) hI)) rfl fun g36 OX=> ?_
 refine Z7 ?_
 obtain ⟨p5,a5,s5,i5⟩:=g36
 have Iy:=OX.inv
 obtain ⟨f5,ry,WL,Rb,hd5⟩:=OX.fr
 simp only at ry Iy
 have Qj:i5<X.n:=by (rw [←Iy.ok.n];exact (List.getElem?_eq_some_iff.1 ry).1)
 have OW:=Iy.ok.ar
 have hz5:s5.size=z:=OX.size.trans hG.sz
 have hc5:s5.cap=(q:Int):=OX.cap.trans hG.cp
 have al1:=Iy.ok.room f5 (List.mem_of_getElem? ry)
 have hm5:=OW.most
 have hres:a5.get (f5.at_+at_.toNat) n.toNat=((C (mem,page)).drop at_.toNat).take n.toNat:=by (have h9:=Iy.fr i5 f5 ry WL;rw [Rb] at h9;rw [←h9];exact QS (by omega))
 refine Z7 ?_
 refine Cd (fun c2=> ?_) fun c2=> ?_
 · exact absurd rfl c2
 refine Z3 ?_
 refine .bP [(0,0),(1,0),(2,0),(3,1),(4,0),(5,0),(6,0),(7,1),(8,0),(9,0),(10,0),(11,1),(12,0),(13,0),(14,0),(15,4),(16,0),(17,0)] 18 2 FM.out (by kernel_rfl) (k:= ?_)
 refine Z9 ?_
 refine .p rfl (fun _=>aX i5 FU.out FC.out rfl (.t rfl) (.t rfl) rfl Qj) ?_
 refine Z1 ?_
 refine .o rfl (fC (i:=1) (r:=0) FA.out (.t rfl) rfl ry rfl) ?_
 refine Z1 ?_
 refine .p rfl (fun _=>(ep (.t rfl) (.t rfl) dL).le (af.int (show _=((f5.at_+at_.toNat:Nat):Int) by omega))) ?_
 refine .p rfl (fun _=>(Cl (.t rfl)).le (af.int (show _=((n.toNat:Nat):Int) by omega))) ?_
 refine .a rfl ((kZ [_,_,_,_,_,_] [5,6,7,8,0,1,2,3,4,9] (h:=xN (X:=X.Y) (a:=a5) (at_:=f5.at_+at_.toNat) (n:=n.toNat) OW (by omega))).same (fun _ _=>aB.perm (Perm.idx [4,5,6,7,8,0,1,2,3,9] rfl rfl)) (fun _ _=>af.refl _)) (fun _ _=>aB.refl _) fun _ _=> ?_
 refine Z2 ?_
 refine .fin ?_
 refine Z5 ?_
 refine Post.bf rfl rfl (()) (by trivial) (iz (p:=p5) (a0:=a) (a:=a5) (s:=s5) (r:=[]) hRR hI.ok.ar OX.out ⟨⟨D,hDm,hDk,Iy⟩,hz5,hc5,trivial⟩) rfl (.cons (.rt rfl) ?_ (.cons (.rt rfl) ?_ .nil))
 · exact af.of_eq (by rw [hres,hrd])
 exact af.int (by rw [qZ];rfl)
theorem IA {a:Nat} (av:nE X R) (hp1:0<z) (hp2:z≤1024) (fI:0≤mm.num) (oe:a+n≤4611686018427387904) (yE:n≤1048576):cw Tryz.prog 99 [aI mb 0,ag .u64 (a:Int),aS (n:Int)] [di mb X.pb mm,ek X z q T C m R] (γ:=Unit) (fun _=>True) (fun _=>[di mb X.pb mm,ek X z q (fun _=>True) C m R]) (fun _=>bD [ai 1 aj (rU z C mm.num a n),aS 0]):=by
 refine cw.Oy 44 Tryz.func99 rfl rfl rfl fun w0 S0 M=> ?_
 have hz:=hp1
 obtain ⟨N,hN,hlt⟩:=BF (at_:=a) (n:=n) hp1
 refine Z3 ?_
 refine .n (ax FZ.out) rfl fun b6 _=> ?_
 refine .n (ax FZ.out) rfl fun b7 _=> ?_
 refine Z5 ?_
 refine .n (Lw (enc:=aj) FU.out FC.out FY.out FZ.out (.t rfl) rfl (by omega)) rfl fun g13 _=> ?_
 refine .n (ax FZ.out) rfl fun b8 _=> ?_
 refine Z9 ?_
 refine .n ((kZ [_,_,_,_] [4,5,0,1,2,3] (h:=xS (mb:=mb) (mm:=mm) (X:=X) (z:=z) (q:=q) (m:=m) (T:=T) (C:=C) (R:=R) (a:=a) (n:=n) av hp2)).same (fun _ _=>aB.perm (Perm.idx [2,3,4,5,0,1] rfl rfl)) (fun _ _=>af.refl _)) rfl fun _ _=> ?_
 refine Z3 ?_
 refine .Wu 5 rfl fun hlC=> ?_
 refine .own (aB.trans (BI (xs:=[])) (aB.cons _ (aB.cons _ (aB.cons _ (aB.cons _ (u5 (T':=fun _=>True) fun _ _=>trivial)))))) ?_
 refine .Oz N (fun j=>[Lx b8 (rU z C mm.num a (dI z a n j)),az b7 [aS 0],az b6 [aa (.slice none 0 0)],di mb X.pb mm,ek X z q (fun _=>True) C m R]) (fun j=>[aC [aS (((a+dI z a n j)/z:Nat):Int),aS (((a+dI z a n j)%z:Nat):Int),aS (iI z a n (dI z a n j):Int),aS (dI z a n j:Int)]]) rfl rfl rfl FB.out (.t rfl) rfl (by decide) (fun _ _=>rfl) (fun l D r hY=>vk (z:=z) (a:=a) (n:=n) (N:=N) (J:=fun j=>mc l D .ready r _::(fun j=>[Lx b8 (rU z C mm.num a (dI z a n j)),az b7 [aS 0],az b6 [aa (.slice none 0 0)],di mb X.pb mm,ek X z q (fun _=>True) C m R]) j) hp1 hp2 oe hN hlt hY) (fun l D fn tmps j hj w0 S0 M=> ?_) (fun D=> ?_)
 ·
  have GZ:=nF z a n j
  have hst:dI z a n j+iI z a n (dI z a n j)≤n:=nF z a n (j+1)
  have hml:=EN z C mm.num a (dI z a n j)
  have bu6:=EN z C mm.num ((a+dI z a n j)) (iI z a n (dI z a n j))
  have hfit:=EK (at_:=a) (n:=n) (d:=dI z a n j) hz
  have S2:fq z (mm.num,(((a+dI z a n j)/z:Nat):Int)) (((a+dI z a n j)%z:Nat):Int) ((iI z a n (dI z a n j):Nat):Int)=0:=oC fI hz hfit
  refine .own (aB.perm (Perm.idx [1,0,2,3,4,5] rfl rfl)) ?_
  refine .J9 fun sb=> ?_
  refine Z1 ?_
  refine .n (ax FZ.out) rfl fun b9 _=> ?_
  refine Z2 ?_
  refine .share (t:=9) (i:=0) rfl rfl (bK.own (aB.perm (Perm.idx [2,0,1,3,4,5,6] rfl rfl)) (bK.begin ?_))
  refine Z2 ?_
  refine .bP [(0,0),(1,0),(2,0),(3,1),(4,0),(5,0),(6,0),(7,1),(8,0),(9,0),(10,0),(11,0),(12,0),(13,0),(14,2),(15,0),(16,0),(17,0),(18,0)] 19 1 FM.out (by kernel_rfl) (k:= ?_)
  refine Z3 ?_
  refine .o rfl (fB (i:=5) FA.out (.t rfl) rfl rfl) ?_
  refine Z3 ?_
  refine .o rfl (fB (i:=5) FA.out (.t rfl) rfl rfl) ?_
  refine Z6 ?_
  refine .e rfl (kZ [_,_,_,_,_,_] [6,0,1,2,3,4,5] (h:=Iz (X:=X) (z:=z) (q:=q) (m:=m) (T:=fun _=>True) (C:=C) (R:=R) (mem:=mm.num) (page:=(((a+dI z a n j)/z:Nat):Int)) (at_:=(((a+dI z a n j)%z:Nat):Int)) (n:=((iI z a n (dI z a n j):Nat):Int)) av)) fun No Np=> ?_
  refine Z4 ?_
  refine .fin ?_
  refine cK ?_
  refine Cd (fun c0=> ?_) fun c0=> ?_
  · exact (c0 (congrArg Int.ofNat S2)).elim
  refine Z5 ?_
  refine .n (aD (i:=3) (xs:=rU z C mm.num a (dI z a n j)) (ys:=uZ z C (mm.num,(((a+dI z a n j)/z:Nat):Int)) (((a+dI z a n j)%z:Nat):Int) ((iI z a n (dI z a n j):Nat):Int)) FU.out FU.out FC.out rfl FZ.out rfl FY.out (.t rfl) (.t rfl) rfl (by rw [wD fI hz hlC hfit];omega) (by rw [wD fI hz hlC hfit];omega)) rfl fun Ud _=> ?_
  refine Z3 ?_
  refine .own (aB.perm (Perm.idx [2,3,1,4,5,6,0] rfl rfl)) (bK.own (aB.trans (BI (xs:=rU z C mm.num a (dI z a n j)++uZ z C (mm.num,(((a+dI z a n j)/z:Nat):Int)) (((a+dI z a n j)%z:Nat):Int) ((iI z a n (dI z a n j):Nat):Int))) (aB.trans (aB.xJ (show Lx b8 _=Lx b8 (rU z C mm.num a (dI z a n (j+1))) by rw [wD fI hz hlC hfit,←Om];rfl)) (aB.perm (Perm.idx [1,0,2,3,4,5] rfl rfl)))) (bK.endRound))
 refine Z3 ?_
 refine .own (aB.perm (Perm.idx [1,0,2,3,4,5] rfl rfl)) ?_
 refine .J9 fun sb=> ?_
 refine Z2 ?_
 refine .s (iY (i:=4) FC.out (.t rfl) (.t rfl) rfl rfl) ?_
 refine .s (iY (i:=3) FC.out (.t rfl) (.c _) rfl rfl) ?_
 refine Z2 ?_
 refine .eR (i:=1) (j:=3) (f:=0) rfl rfl rfl ?_
 refine Z1 ?_
 refine .own (aB.perm (Perm.idx [1,0,2,3,4,5] rfl rfl)) (rV.bf rfl rfl (()) (by trivial) (aB.dD [3,4] [0,1,2] rfl rfl) rfl (.cons (.rc (i:=2) FA.out rfl rfl rfl) ?_ (.cons (.rc (i:=1) FA.out rfl rfl rfl) ?_ .nil)))
 · exact af.of_eq (by rw [hN])
 exact af.refl _
theorem IB {a:Nat} {n:Int} (av:nE X R) (hp1:0<z) (hp2:z≤1024) (fI:AW mm) (oe:a<18446744073709551616) (yE:o<18446744073709551616):cw Tryz.prog 55 [aI mb 0,ag .u64 (a:Int),ag .u64 (o:Int),aS n] [di mb X.pb mm,ek X z q T C m R] (γ:=Unit) (fun _=>True) (fun _=>[di mb X.pb mm,ek X z q (fun _=>True) C m R]) (fun _=>bD [ai 1 aj (if (cg mm.pages a o n).2=(0,0) then rU z C mm.num (a+o) (n:Int).toNat else []),aS ((cg mm.pages a o n).2.1:Int),aS ((cg mm.pages a o n).2.2:Int)]):=by
 refine In 41 Tryz.func55 fun _ _ _=> ?_
 have LX:=fI.num;have hmo:=fI.most;have Va:=fI.pages
 refine lg ?_
 refine .n ((cE (h:=xR (mb:=mb) (pb:=X.pb) (mm:=mm) (a:=a) (o:=o) (n:=n) fI oe yE)).same (fun _ _=>aB.refl _) (fun _ _=>af.refl _)) rfl fun _ _=> ?_
 refine La ?_
 refine Cd (fun c0=> ?_) fun c0=> ?_
 ·
  have hne:¬(cg mm.pages a o n).2=(0,0):=fun e=>by (have e1:=congrArg Prod.fst e;have e2:=congrArg Prod.snd e;simp only at e1 e2;rcases c0 with h|h;exact h (by rw [e1];rfl);exact h (by rw [e2];rfl))
  refine cT ?_
  refine Post.bf rfl rfl (()) (by trivial) (aB.cons _ (u5 fun _ _=>trivial)) rfl (.cons (.rt rfl) ?_ (.cons (.rt rfl) ?_ (.cons (.rt rfl) ?_ .nil)))
  · exact (aG _ _).trans (af.of_eq (by rw [if_neg hne]))
  · exact af.refl _
  exact af.refl _
 have qZ:(cg mm.pages a o n).2=(0,0):=Prod.ext (by (have h9:=mt Or.inl c0;simp only [Classical.not_not] at h9;show (cg mm.pages a o n).2.1=0;omega)) (by (have h9:=mt Or.inr c0;simp only [Classical.not_not] at h9;show (cg mm.pages a o n).2.2=0;omega))
 obtain ⟨hn0,Vt,hin,hw1⟩:=wG (.inr qZ)
 refine Z7 ?_
 refine .n (cz (rest:=[]) (IA (mb:=mb) (mm:=mm) (X:=X) (z:=z) (q:=q) (m:=m) (T:=T) (C:=C) (R:=R) (a:=a+o) (n:=n.toNat) av hp1 hp2 LX (by omega) (by omega)) FB.out (.cons (.t rfl) (.cons (.le (.t rfl) (af.int (by rw [hw1]))) (.cons (.le (.t rfl) (af.int (show _=((n.toNat:Nat):Int) by omega))) .nil))) (Perm.idx [0,1] rfl rfl)) rfl fun g36 OX=> ?_
 refine Hy ?_
 refine Qe ?_ ?_ ?_
 · exact af.of_eq (by rw [if_pos qZ])
 · exact af.int (by rw [qZ];rfl)
 exact af.int (by rw [qZ];rfl)
theorem Fq {a:Nat} (av:nE X R) (hp1:0<z) (hp2:z≤1024) (fI:0≤mm.num) (oe:a+ys.length≤4611686018427387904) (yE:m+(ys.length/z+2)≤q):cw Tryz.prog 52 [aI mb 0,ag .u64 (a:Int),ai 1 aj ys] [di mb X.pb mm,ek X z q T C m R] (γ:=Unit) (fun _=>True) (fun _=>[di mb X.pb mm,ek X z q (fun _=>True) (wE z C mm.num a ys) (m+(ys.length/z+2)) R]) (fun _=>aS 0):=by
 refine cw.Oy 40 Tryz.func52 rfl rfl rfl fun w0 S0 M=> ?_
 have hz:=hp1
 obtain ⟨N,hN,hlt⟩:=BF (at_:=a) (n:=ys.length) hp1
 have al2:=Lu hp1 hlt
 refine Z4 ?_
 refine .n (ax FZ.out) rfl fun b6 _=> ?_
 refine Z9 ?_
 refine .n ((kZ [_] [1,2,0] (h:=xS (mb:=mb) (mm:=mm) (X:=X) (z:=z) (q:=q) (m:=m) (T:=T) (C:=C) (R:=R) (a:=a) (n:=ys.length) av hp2)).same (fun _ _=>aB.perm (Perm.idx [2,0,1] rfl rfl)) (fun _ _=>af.refl _)) rfl fun _ _=> ?_
 refine Z3 ?_
 refine .Wu 2 rfl fun hlC=> ?_
 refine .own (aB.cons _ (aB.cons _ (aB.trans (u5 (T':=fun _=>True) fun _ _=>trivial) (aB.xJ (show ek X z q (fun _=>True) C m R=ek X z q (fun _=>True) (wE z C mm.num a (ys.take (dI z a ys.length 0))) (m+0) R by rw [show dI z a ys.length 0=0 from rfl,List.take_zero,Q0 hlC];rfl))))) ?_
 refine .Oz N (fun j=>[az b6 [aS 0],di mb X.pb mm,ek X z q (fun _=>True) (wE z C mm.num a (ys.take (dI z a ys.length j))) (m+j) R]) (fun j=>[aC [aS (((a+dI z a ys.length j)/z:Nat):Int),aS (((a+dI z a ys.length j)%z:Nat):Int),aS (iI z a ys.length (dI z a ys.length j):Int),aS (dI z a ys.length j:Int)]]) rfl rfl rfl FB.out (.t rfl) rfl (by decide) (fun _ _=>rfl) (fun l D r hY=>vk (z:=z) (a:=a) (n:=ys.length) (N:=N) (J:=fun j=>mc l D .ready r _::[az b6 [aS 0],di mb X.pb mm,ek X z q (fun _=>True) (wE z C mm.num a (ys.take (dI z a ys.length j))) (m+j) R]) hp1 hp2 oe hN hlt hY) (fun l D fn tmps j hj w0 S0 M=> ?_) (fun D=> ?_)
 ·
  have GZ:=nF z a ys.length j
  have Yi:=Nat.mod_lt (a+dI z a ys.length j) hz
  have hdq:=Nat.div_le_self (a+dI z a ys.length j) z
  have JX:(0:Int)≤(((a+dI z a ys.length j)/z:Nat):Int):=Int.natCast_nonneg _
  have hst:dI z a ys.length j+iI z a ys.length (dI z a ys.length j)≤ys.length:=nF z a ys.length (j+1)
  have Ox:((ys.drop (dI z a ys.length j)).take (iI z a ys.length (dI z a ys.length j))).length=iI z a ys.length (dI z a ys.length j):=by (simp;omega)
  have hfit:=EK (at_:=a) (n:=ys.length) (d:=dI z a ys.length j) hz
  have S2:fq z (mm.num,(((a+dI z a ys.length j)/z:Nat):Int)) (((a+dI z a ys.length j)%z:Nat):Int) (((ys.drop (dI z a ys.length j)).take (iI z a ys.length (dI z a ys.length j))).length:Int)=0:=by (rw [Ox];exact oC fI hz hfit)
  refine Z1 ?_
  refine .n (ax FZ.out) rfl fun b7 _=> ?_
  refine Z2 ?_
  refine .share (t:=7) (i:=0) rfl rfl (bK.begin ?_)
  refine Z2 ?_
  refine .bx 21 2 FM.out (by kernel_rfl) (k:= ?_)
  refine La ?_
  refine .p (KV (l:=dI z a ys.length j) (h:=dI z a ys.length j+iI z a ys.length (dI z a ys.length j)) FU.out FC.out rfl (.t rfl) (.t rfl) (.t rfl) rfl (by omega) (by omega) (by omega)) ?_
  refine Z1 ?_
  refine .n (cz (rest:=[_,_,_]) (Fo (X:=X) (z:=z) (q:=q) (m:=m+j) (T:=fun _=>True) (C:=wE z C mm.num a (ys.take (dI z a ys.length j))) (R:=R) (mem:=mm.num) (page:=(((a+dI z a ys.length j)/z:Nat):Int)) (at_:=(((a+dI z a ys.length j)%z:Nat):Int)) (ys:=(ys.drop (dI z a ys.length j)).take (iI z a ys.length (dI z a ys.length j))) (by omega) (by omega) av) FB.out (.cons (.t rfl) (.cons (.t rfl) (.cons (.t rfl) (.cons (.t rfl) (.cons (.le (.t rfl) (af.of_eq (by rw [List.drop_take,Nat.add_sub_cancel_left]))) .nil))))) (Perm.idx [3,0,1,2] rfl rfl)) rfl fun g36 OX=> ?_
  refine Z9 ?_
  refine Cd (fun c0=> ?_) fun c0=> ?_
  · exact (c0 (congrArg Int.ofNat S2)).elim
  refine Z2 ?_
  refine .own (aB.perm (Perm.idx [1,2,3,0] rfl rfl)) (bK.own (aB.cons _ (aB.cons _ (aB.cons _ (aB.xJ (show ek X z q (fun _=>True) (rT z (wE z C mm.num a (ys.take (dI z a ys.length j))) (mm.num,(((a+dI z a ys.length j)/z:Nat):Int)) (((a+dI z a ys.length j)%z:Nat):Int) ((ys.drop (dI z a ys.length j)).take (iI z a ys.length (dI z a ys.length j)))) (m+j+1) R=ek X z q (fun _=>True) (wE z C mm.num a (ys.take (dI z a ys.length (j+1)))) (m+(j+1)) R by rw [HI fI hz hlC hfit hst];rfl))))) (bK.endRound))
 refine Z8 ?_
 refine rV.aP rfl (()) (by trivial) (aB.trans (aB.dD [1,2] [0] rfl rfl) (aB.cons _ (aB.trans (uY (show m+N≤m+(ys.length/z+2) by omega)) (aB.xJ (by rw [hN,List.take_length]))))) (.rc (i:=0) FA.out rfl rfl rfl) ?_
 exact af.refl _
theorem Fs (av:ys.length≤4194304):cW Tryz.prog 53 [ai 1 aj ys] (ai 1 aj ys):=by
 refine In 8 Tryz.func53 fun _ _ _=> ?_
 refine .QE (t:=0) rfl fun p Tw=> ?_
 refine Z9 ?_
 refine .p (K8 FU.out (.t rfl) (.c _)) rfl ?_
 refine Z2 ?_
 refine Cd (fun c0=> ?_) fun c0=> ?_
 ·
  refine Z7 ?_
  refine bL ?_
  exact (Tw c0)▸aG _ _
 refine Z4 ?_
 refine .p (kL FU.out FC.out rfl FZ.out rfl) rfl ?_
 refine Z1 ?_
 refine .p (sJ FU.out FU.out FC.out rfl FZ.out rfl FY.out (.t rfl) (.le (.t rfl) Hu) (by omega)) rfl ?_
 refine Z4 ?_
 refine bL ?_
 exact af.refl _
theorem xT {a:Nat} (av:nE X R) (hp1:0<z) (hp2:z≤1024) (fI:AW mm) (oe:a<18446744073709551616) (yE:o<18446744073709551616) (Ql:m+(ys.length/z+2)≤q) (Rm:ys.length≤4194304):cw Tryz.prog 25 [aI mb 0,ag .u64 (a:Int),ag .u64 (o:Int),ai 1 aj ys] [di mb X.pb mm,ek X z q T C m R] (γ:=Unit) (fun _=>True) (fun _=>[di mb X.pb mm,ek X z q (fun _=>True) (if (cg mm.pages a o (ys.length:Int)).2=(0,0) then wE z C mm.num (a+o) ys else C) (m+(ys.length/z+2)) R]) (fun _=>bD [aS ((cg mm.pages a o (ys.length:Int)).2.1:Int),aS ((cg mm.pages a o (ys.length:Int)).2.2:Int)]):=by
 refine In 36 Tryz.func25 fun _ _ _=> ?_
 have LX:=fI.num;have hmo:=fI.most;have Va:=fI.pages
 refine lg ?_
 refine .n ((cE (h:=xR (mb:=mb) (pb:=X.pb) (mm:=mm) (a:=a) (o:=o) (n:=(ys.length:Int)) fI oe yE)).same (fun _ _=>aB.refl _) (fun _ _=>af.refl _)) rfl fun _ _=> ?_
 refine La ?_
 refine Cd (fun c0=> ?_) fun c0=> ?_
 ·
  have hne:¬(cg mm.pages a o (ys.length:Int)).2=(0,0):=fun e=>by (have e1:=congrArg Prod.fst e;have e2:=congrArg Prod.snd e;simp only at e1 e2;rcases c0 with h|h;exact h (by rw [e1];rfl);exact h (by rw [e2];rfl))
  refine cK ?_
  refine Post.bf rfl rfl (()) (by trivial) (aB.cons _ (aB.trans (u5 (T':=fun _=>True) fun _ _=>trivial) (aB.trans (uY (Nat.le_add_right _ _)) (aB.xJ (by rw [if_neg hne]))))) rfl (.cons (.rt rfl) ?_ (.cons (.rt rfl) ?_ .nil))
  · exact af.refl _
  exact af.refl _
 have qZ:(cg mm.pages a o (ys.length:Int)).2=(0,0):=Prod.ext (by (have h9:=mt Or.inl c0;simp only [Classical.not_not] at h9;show (cg mm.pages a o (ys.length:Int)).2.1=0;omega)) (by (have h9:=mt Or.inr c0;simp only [Classical.not_not] at h9;show (cg mm.pages a o (ys.length:Int)).2.2=0;omega))
 obtain ⟨hn0,Vt,hin,hw1⟩:=wG (.inr qZ)
 refine Z7 ?_
 refine .p (cA (h:=Fs (by omega))) rfl ?_
 refine .n (cz (rest:=[]) (Fq (mb:=mb) (mm:=mm) (X:=X) (z:=z) (q:=q) (m:=m) (T:=T) (C:=C) (R:=R) (a:=a+o) (ys:=ys) av hp1 hp2 LX (by omega) Ql) FB.out (.cons (.t rfl) (.cons (.le (.t rfl) (af.int (by rw [hw1]))) (.cons (.t rfl) .nil))) (Perm.idx [0,1] rfl rfl)) rfl fun g35 h35=> ?_
 refine Z5 ?_
 refine Post.bf rfl rfl (()) (by trivial) (aB.cons _ (aB.xJ (by rw [if_pos qZ]))) rfl (.cons (.rt rfl) ?_ (.cons (.rt rfl) ?_ .nil))
 · exact af.int (by rw [qZ];rfl)
 exact af.int (by rw [qZ];rfl)
theorem LY {pages most:Nat} {wide:Prop} (av:0≤num) (hp1:pages≤most) (hp2:most≤65536):cw Tryz.prog 79 [aI pb 0,aS num,aS (pages:Int),aS (most:Int),aq wide] [] (γ:=Nat) (fun _=>True) (fun mb=>[di mb pb ⟨num,pages,most,most,wide⟩]) (fun mb=>bD [aI mb 0,aS 0]):=by
 refine In 39 Tryz.func79 fun _ _ _=> ?_
 refine cT ?_
 refine .p (cO FU.out (.t rfl)) rfl ?_
 refine Z3 ?_
 refine Cd (fun c0=> ?_) fun c0=> ?_
 · exact c0.elim
 refine La ?_
 refine Cd (fun c1=> ?_) fun c1=> ?_
 · exfalso;omega
 refine dM ?_
 refine .n (bT (.t rfl)) rfl fun b38 _=> ?_
 refine Z5 ?_
 refine Post.bf rfl rfl (b38) (by trivial) (fun _ _ _ h=>h) rfl (.cons (.rt rfl) ?_ (.cons (.rt rfl) ?_ .nil))
 · exact .z
 exact .z
theorem Ft:cw Tryz.prog 98 [aI mb 0] [di mb pb mm] (γ:=Unit) (fun _=>True) (fun _=>[di mb pb mm]) (fun _=>aS (mm.pages:Int)):=by
 refine In 9 Tryz.func98 fun _ _ _=> ?_
 refine Z9 ?_
 refine .p (cO FU.out (.t rfl)) rfl ?_
 refine Z2 ?_
 refine Cd (fun c0=> ?_) fun c0=> ?_
 · exact c0.elim
 refine dM ?_
 refine bL ?_
 exact .z
end Go.Proofs.YtpfobikpggmleaaGreatDoor
end
section
namespace Go.Hl
structure Rn (m:aR):Prop where
 sigs:(m.bR.length:Int)≤50
 imports:(m.aH.length:Int)≤20
 funcs:(m.aH.length:Int)+(m.ay.length:Int)≤100
 dR:(m.bp.length:Int)≤4
 globals:(m.an.length:Int)≤50
 aY:(m.bJ.length:Int)≤50
 elems:(m.bt.length:Int)≤20
 bU:(m.aZ.length:Int)≤20
 table: -1≤m.Table∧m.Table≤1000
variable {m:aR}
theorem cH (h:dK m):Rn m where
 sigs:=(bI.1 h.sigs).1
 imports:=(bI.1 h.imports).1
 funcs:=by
  have h5:=h.funcs
  unfold kW at h5
  split at h5
  · cases h5
  · unfold cG at*;omega
 dR:=(bI.1 h.dR).1
 globals:=(bI.1 h.globals).1
 aY:=(bI.1 h.aY).1
 elems:=(bI.1 h.elems).1
 bU:=(bI.1 h.bU).1
 table:=by
  have h5:=h.table
  unfold nG at h5
  split at h5
  · cases h5
  · have h6:=(cF (by decide)).1 h5;omega
theorem Ue (h:dK m) {z:oa} (hz:z∈m.bR):kV z.P∧kV z.R:=Classical.not_not.1 ((cF (by decide)).1 (eX.1 (bI.1 h.sigs).2 z hz))
theorem OY (h:dK m) {z:iK} (hz:z∈m.aH):jf z.Module∧jf z.Name∧jt z.iA m.bR.length:=by
 have h1:=eX.1 (bI.1 h.imports).2 z hz
 unfold gj at h1
 split at h1
 · cases h1
 · rename_i h2
   exact ⟨Classical.byContradiction fun e=>h2 (.inl e),Classical.byContradiction fun e=>h2 (.inr e),Classical.not_not.1 ((cF (by decide)).1 h1)⟩
theorem Ro (h:dK m) {z:cU} (hz:z∈m.ay):jt z.iA m.bR.length:=Classical.not_not.1 ((cF (by decide)).1 (qz h.funcs z hz))
theorem OZ (h:dK m) {z:eo} (hz:z∈m.bp):0≤z.Min∧z.Min≤65536∧(z.Max<0∨z.Min≤z.Max∧z.Max≤65536):=Classical.not_not.1 ((cF (by decide)).1 (eX.1 (bI.1 h.dR).2 z hz))
theorem wT (h:dK m) {z:jF} (hz:z∈m.an):(z.Ty.toNat:Int)=126∨(z.Ty.toNat:Int)=127∧z.Value≤4294967295:=by
 have h1:=(cF (by decide)).1 (eX.1 (bI.1 h.globals).2 z hz)
 have h2:¬gE z.Ty=0:=fun e=>h1 (.inl e)
 have h3:¬((z.Ty.toNat:Int)=127∧4294967295<z.Value):=fun e=>h1 (.inr e)
 rw [qx,Classical.not_not] at h2
 rcases h2 with e|e
 · exact .inl (by rw [e];rfl)
 · exact .inr ⟨by rw [e];rfl,Classical.byContradiction fun h4=>h3 ⟨by rw [e];rfl,by omega⟩⟩
theorem wU (h:dK m) {i:Nat} {x:dW} (hx:m.bJ[i]?=some x):jf x.Name∧(∀j y,j<i→m.bJ[j]?=some y→y.Name≠x.Name)∧
    (((x.Kind=0∧jt x.Index (cG m)∨(x.Kind=1∧0≤m.Table)∧x.Index=0)∨x.Kind=2∧jt x.Index m.bp.length)∨x.Kind=3∧jt x.Index m.an.length):=by
  have hi:=(List.getElem?_eq_some_iff.1 hx).1
  have h1:jU m i=0:=l9.1 (bI.1 h.aY).2 i hi
  unfold jU at h1
  rw [hx] at h1
  simp only at h1
  split at h1
  · cases h1
  · rename_i h2
    have h3:=Classical.not_not.1 ((cF (by decide)).1 h1)
    have ht:=(cH h).table
    refine ⟨Classical.byContradiction fun e=>h2 (.inl e),fun j y hj hy e=>h2 (.inr ⟨y,List.mem_iff_getElem?.2 ⟨j,by rw [List.getElem?_take,if_pos hj];exact hy⟩,e⟩), ?_⟩
    obtain ⟨h4,h5⟩:=h3
    unfold jt at h4
    have hw:IntKind.i64.wrap (m.Table+1)=m.Table+1:=by unfold IntKind.wrap;simp [IntKind.signed,IntKind.bits];omega
    have k0:nH 0=0:=by decide
    have k1:nH 1=1:=by decide
    have k2:nH 2=2:=by decide
    have k3:nH 3=3:=by decide
    rcases (by omega:x.Kind=0∨x.Kind=1∨x.Kind=2∨x.Kind=3) with e|e|e|e
    · rw [e,k0] at h5;exact .inl (.inl (.inl ⟨e,h5⟩))
    · rw [e,k1] at h5;unfold jt at h5;simp only [cnt,hw] at h5;exact .inl (.inl (.inr ⟨⟨e,by omega⟩,by omega⟩))
    · rw [e,k2] at h5;exact .inl (.inr ⟨e,h5⟩)
    · rw [e,k3] at h5;exact .inr ⟨e,h5⟩
theorem Fu (h:dK m) (hn:m.Start≠ -1):jt m.Start (cG m)∧∀s,iU m m.Start=some s→¬0<(s.P.length:Int)+(s.R.length:Int):=by
 have h1:=h.start
 unfold jN at h1
 rw [if_neg hn] at h1
 have hI:∀z∈m.aH,gj m z=0:=eX.1 (bI.1 h.imports).2
 cases hs:iU m m.Start with
 |none=>rw [hs] at h1;cases h1
 |some s=>
  rw [hs] at h1
  refine ⟨(Kd hI (qz h.funcs)).1 (by rw [hs];rfl),fun s' e=> ?_⟩
  cases e
  exact (cF (by decide)).1 h1
theorem vl (h:dK m) {z:fR} (hz:z∈m.bt):(z.ay.length:Int)≤20∧0≤m.Table∧z.At≤4294967295∧∀f∈z.ay,jt f (cG m):=by
 have h1:=eX.1 (bI.1 h.elems).2 z hz
 unfold tw at h1
 split at h1
 · cases h1
 · have h2:=(cF (by decide)).1 h1
   have ht:=(cH h).table
   have h3:m.Table≠ -1:=fun e=>h2 (.inl e)
   exact ⟨by omega,by omega,Classical.byContradiction fun e=>h2 (.inr (.inr (by omega))),fun f hf=>Classical.byContradiction fun e=>h2 (.inr (.inl ⟨f,hf,e⟩))⟩
theorem yG (h:dK m) {z:jJ} (hz:z∈m.aZ):(z.Bytes.length:Int)≤4096∧jt z.Mem m.bp.length∧∀y,m.bp[z.Mem.toNat]?=some y→¬(¬y.bN∧4294967295<z.At):=by
 have h1:=eX.1 (bI.1 h.bU).2 z hz
 unfold tA at h1
 split at h1
 · cases h1
 · have h2:=(cF (by decide)).1 h1
   exact ⟨by omega,Classical.byContradiction fun e=>h2 (.inl e),fun y hy e=>h2 (.inr ⟨y,hy,e⟩)⟩
def aQ (c:Int):Prop:=c=2∨c=3∨c=4
instance (c:Int):Decidable (aQ c):=inferInstanceAs (Decidable (_∨_))
def eZ:List Int→List (Int×Bool)→Prop
 |[],_=>False
 | c::r,st=>
  if aQ c then st.length<64∧eZ r ((c,false)::st)
  else if c=5 then match st with
   |[]=>False
   |(b,e)::t=>(b=4∧e=false)∧eZ r ((b,true)::t)
  else if c=11 then match st with
   |[]=>r=[]
   |_::t=>eZ r t
  else eZ r st
theorem iC (c:Int) (r:List Int) (st:List (Int×Bool)):eZ (c::r) st=(if aQ c then st.length<64∧eZ r ((c,false)::st)
    else if c=5 then match st with
      |[]=>False
      |(b,e)::t=>(b=4∧e=false)∧eZ r ((b,true)::t)
    else if c=11 then match st with
      |[]=>r=[]
      |_::t=>eZ r t
    else eZ r st):=by
  rw [eZ.eq_def]
def dS:Nat→List Int→Nat→Option (List Int)
 |0,_,_=>none
 |_+1,[],_=>some []
 | f +1,c::r,d=>
  if c=11∨c=5 then some (c::r)
  else if aQ c then
   if 64≤d then none else
   match dS f r (d+1) with
   |none=>none
   |some []=>none
   | some (c2::r2)=>
    if c2=5 then
     if c=4 then
      match dS f r2 (d+1) with
      |none=>none
      |some []=>none
      |some (c3::r3)=>if c3=5 then none else dS f r3 d
     else none
    else dS f r2 d
  else dS f r d
theorem nj :∀(f:Nat) (s:List Int) (d:Nat),s.length<f→d≤64→
    (dS f s d=none→∀st,st.length=d→¬eZ s st)∧
    (∀r,dS f s d=some r→r.length≤s.length∧(∀c r',r=c::r'→c=11∨c=5)∧∀st,st.length=d→(eZ s st↔eZ r st)):=by
  intro f
  induction f with
  |zero=>intro s d h;omega
  | succ f ih =>
    intro s d h hd
    cases s with
    |nil=>simp [dS]
    | cons c r =>
      simp only [List.length_cons] at h
      by_cases h1:c=11∨c=5
      · simp only [dS,h1,if_true]
        refine ⟨by simp,fun r' hr=> ?_⟩
        cases hr
        exact ⟨Nat.le_refl _,fun c' r' e=>by cases e;exact h1,fun st _=>Iff.rfl⟩
      by_cases h2:aQ c
      · simp only [dS,h1,if_false,h2,if_true]
        have hn:∀st,eZ (c::r) st↔st.length<64∧eZ r ((c,false)::st):=fun st=>by rw [iC];simp [h2]
        by_cases h3:64≤d
        · simp only [h3,if_true]
          refine ⟨fun _ st hs hh=> ?_,by simp⟩
          have:=((hn st).1 hh).1;omega
        simp only [h3,if_false]
        have i1:=ih r (d+1) (by omega) (by omega)
        generalize dS f r (d+1)=o1 at i1
        have q:∀st,st.length=d→(eZ (c::r) st↔eZ r ((c,false)::st)):=fun st hs=>(hn st).trans ⟨fun x=>x.2,fun x=>⟨by omega,x⟩⟩
        match o1,i1 with
        |none,i1=>exact ⟨fun _ st hs hh=>i1.1 rfl ((c,false)::st) (by simp [hs]) ((q st hs).1 hh),by simp⟩
        | some [],i1=>
          obtain ⟨_,_,i3⟩:=i1.2 [] rfl
          exact ⟨fun _ st hs hh=>by have:=(i3 ((c,false)::st) (by simp [hs])).1 ((q st hs).1 hh);exact this,by simp⟩
        | some (c2::r2),i1=>
          obtain ⟨l2,k2,i3⟩:=i1.2 _ rfl
          simp only [List.length_cons] at l2
          have q2:∀st,st.length=d→(eZ (c::r) st↔eZ (c2::r2) ((c,false)::st)):=fun st hs=>(q st hs).trans (i3 _ (by simp [hs]))
          rcases k2 c2 r2 rfl with e|e
          · subst e
            have hi:=ih r2 d (by omega) hd
            have q3:∀st,st.length=d→(eZ (c::r) st↔eZ r2 st):=fun st hs=>(q2 st hs).trans (by rw [eZ];simp [aQ])
            simp only [show ¬((11:Int)=5) by decide,if_false]
            exact ⟨fun e st hs hh=>hi.1 e st hs ((q3 st hs).1 hh),fun r' e=>⟨by have:=(hi.2 r' e).1;simp;omega,(hi.2 r' e).2.1,fun st hs=>(q3 st hs).trans ((hi.2 r' e).2.2 st hs)⟩⟩
          · subst e
            simp only [if_true]
            by_cases h4:c=4
            · subst h4
              simp only [if_true]
              have q3:∀st,st.length=d→(eZ (4::r) st↔eZ r2 ((4,true)::st)):=fun st hs=>(q2 st hs).trans (by rw [eZ];simp [aQ])
              have i4:=ih r2 (d+1) (by omega) (by omega)
              generalize dS f r2 (d+1)=o2 at i4
              match o2,i4 with
              |none,i4=>exact ⟨fun _ st hs hh=>i4.1 rfl _ (by simp [hs]) ((q3 st hs).1 hh),by simp⟩
              | some [],i4=>
                obtain ⟨_,_,i5⟩:=i4.2 [] rfl
                exact ⟨fun _ st hs hh=>(i5 ((4,true)::st) (by simp [hs])).1 ((q3 st hs).1 hh),by simp⟩
              | some (c3::r3),i4=>
                obtain ⟨l3,k3,i5⟩:=i4.2 _ rfl
                simp only [List.length_cons] at l3
                have q4:∀st,st.length=d→(eZ (4::r) st↔eZ (c3::r3) ((4,true)::st)):=fun st hs=>(q3 st hs).trans (i5 _ (by simp [hs]))
                rcases k3 c3 r3 rfl with e|e
                · subst e
                  have hi:=ih r3 d (by omega) hd
                  have q5:∀st,st.length=d→(eZ (4::r) st↔eZ r3 st):=fun st hs=>(q4 st hs).trans (by rw [eZ];simp [aQ])
                  simp only [show ¬((11:Int)=5) by decide,if_false]
                  exact ⟨fun e st hs hh=>hi.1 e st hs ((q5 st hs).1 hh),fun r' e=>⟨by have:=(hi.2 r' e).1;simp;omega,(hi.2 r' e).2.1,fun st hs=>(q5 st hs).trans ((hi.2 r' e).2.2 st hs)⟩⟩
                · subst e
                  simp only [if_true]
                  exact ⟨fun _ st hs hh=>by have:=(q4 st hs).1 hh;rw [eZ] at this;simp [aQ] at this,by simp⟩
            · simp only [h4,if_false]
              exact ⟨fun _ st hs hh=>by have:=(q2 st hs).1 hh;rw [eZ] at this;simp [aQ,h4] at this,by simp⟩
      · simp only [dS,h1,if_false,h2]
        have hn:∀st,eZ (c::r) st↔eZ r st:=fun st=>by
          rw [iC];simp only [h2,if_false]
          rw [if_neg (fun e=>h1 (.inr e)),if_neg (fun e=>h1 (.inl e))]
        have hi:=ih r d (by omega) hd
        exact ⟨fun e st hs hh=>hi.1 e st hs ((hn st).1 hh),fun r' e=>⟨by have:=(hi.2 r' e).1;simp;omega,(hi.2 r' e).2.1,fun st hs=>(hn st).trans ((hi.2 r' e).2.2 st hs)⟩⟩
theorem wV {f:Nat} {s:List Int} (h:s.length<f):eZ s []↔dS f s 0=some [11]:=by
 have hi:=nj f s 0 h (by omega)
 generalize dS f s 0=o at hi
 match o,hi with
 |none,hi=>simp [hi.1 rfl [] rfl]
 |some [],hi=>simp [(hi.2 [] rfl).2.2 [] rfl,eZ]
 |some (c::r),hi=>
  obtain ⟨_,k,q⟩:=hi.2 _ rfl
  rw [q [] rfl]
  rcases k c r rfl with e|e<;>subst e<;>simp [eZ,aQ]
end Go.Hl
end
