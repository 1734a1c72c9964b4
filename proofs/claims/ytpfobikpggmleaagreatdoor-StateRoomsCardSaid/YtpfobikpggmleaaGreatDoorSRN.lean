/-
  What the statement's proof leans on, several texts in one (packed by a program).
-/
import Derived.Test.YtpfobikpggmleaaGreatDoorSRM
import Derived.Lib.TrailingZeros
set_option linter.all false
set_option maxRecDepth 1000000
set_option maxHeartbeats 4000000
section
namespace Go.Hl
open Go.Lib
abbrev uV (a:Nat):VP:=ag .u64 (a:Int)
def SV (n A:Nat):Int:=if A<2^(n-1) then (A:Int) else (A:Int)-2^n
def Pn (n:Nat) (signed:Prop) [Decidable signed] (A B:Nat):Prop:=if signed then SV n A<SV n B else A<B
instance {n:Nat} {s:Prop} [Decidable s] {A B:Nat}:Decidable (Pn n s A B):=by unfold Pn;infer_instance
def vn (a:Nat):Nat:=if a=0 then 0 else Nat.log2 a+1
variable {a:Nat}
theorem SW {n:Nat} (h:a<2^n):vn a≤n:=by
 unfold vn;split
 · omega
 · exact (Nat.log2_lt (by assumption)).2 h
theorem QE {n:Nat} (h0:2^n≤a) (h1:a<2^(n+1)):vn a=n+1:=by
 have ha:a≠0:=by have:=Nat.two_pow_pos n;omega
 unfold vn;rw [if_neg ha]
 have h2:=(Nat.log2_lt ha).2 h1
 have h3:=(Nat.le_log2 ha).2 h0
 omega
theorem EU {k:Nat} (h:2^k≤a):vn a=vn (a/2^k)+k:=by
 have hp:=Nat.two_pow_pos k
 have hd:0<a/2^k:=Nat.div_pos h hp
 have hne:a/2^k≠0:=by omega
 have h1:vn (a/2^k)=Nat.log2 (a/2^k)+1:=by unfold vn;rw [if_neg hne]
 have h2:2^Nat.log2 (a/2^k)≤a/2^k:=Nat.log2_self_le hne
 have h3:a/2^k<2^(Nat.log2 (a/2^k)+1):=Nat.lt_log2_self
 have h4:2^(Nat.log2 (a/2^k)+k)≤a:=by
  rw [Nat.pow_add]
  exact Nat.le_trans (Nat.mul_le_mul_right _ h2) (Nat.div_mul_le_self _ _)
 have h5:a<2^(Nat.log2 (a/2^k)+k+1):=by
  have:a<2^(Nat.log2 (a/2^k)+1)*2^k:=by
   rw [←Nat.div_lt_iff_lt_mul hp];exact h3
  rw [←Nat.pow_add] at this
  rwa [show Nat.log2 (a/2^k)+k+1=Nat.log2 (a/2^k)+1+k by omega]
 rw [QE h4 h5,h1];omega
end Go.Hl
end
section
namespace Go.Hl
def b1 (d:Nat):Nat:=(d/2 &&& 85)+(d &&& 85)
def b2 (d:Nat):Nat:=(d/4 &&& 51)+(d &&& 51)
def b3 (d:Nat):Nat:=(d/16+d) &&& 15
def LD:List UInt8:=(List.range 256).map fun i=>UInt8.ofNat (vn i)
theorem SX:∀i,i<256→(UInt8.ofNat (vn i)).toNat=vn i:=by decide+kernel
theorem NG {x:Nat} (h:x<256):LD[x]?=some (UInt8.ofNat (vn x)):=by simp [LD,h]
end Go.Hl
end
section
namespace Go.Proofs.YtpfobikpggmleaaGreatDoor
open Go.Hl Go.RowKit
theorem EV {a:Nat} (aq:a<18446744073709551616):cQ Tryz.prog 185 [uV a] (iV (vn a:Int)):=by
 refine In 25 Tryz.func185 fun _ _ _=> ?_
 refine Z5 ?_
 refine .cut (σ:=Nat×Nat) (fun _=>[]) (fun g=>[(0,uV g.1),(2,iV (g.2:Int))]) (fun g=>vn a=vn g.1+g.2∧g.1<4294967296∧g.2≤32) ?_ ?_
 ·
  refine Z6 ?_
  refine Cd (fun c0=> ?_) fun c0=> ?_
  ·
   refine Z3 ?_
   refine .p (wB (s:=32) (.t rfl) (.c _) (by decide)) rfl ?_
   refine Z6 ?_
   refine .meet (a/2^32,32) ⟨EU (by omega),by omega,by omega⟩ rfl (.get rfl (aa.refl _) (.get rfl (aa.refl _) (.keep 6 rfl rfl)))
  refine Z1 ?_
  refine .meet (a,0) ⟨rfl,by omega,by omega⟩ rfl (.get rfl (aa.refl _) (.get rfl (aa.refl _) (.keep 2 rfl rfl)))
 intro ⟨x,n⟩ ⟨h1,h2,h3⟩
 simp only at h1 h2 h3 ⊢
 refine .cut (σ:=Nat×Nat) (fun _=>[]) (fun g=>[(0,uV g.1),(2,iV (g.2:Int))]) (fun g=>vn a=vn g.1+g.2∧g.1<65536∧g.2≤48) ?_ ?_
 ·
  refine Z6 ?_
  refine Cd (fun c1=> ?_) fun c1=> ?_
  ·
   refine Z3 ?_
   refine .p (wB (s:=16) (.t rfl) (.c _) (by decide)) rfl ?_
   refine Z8 ?_
   refine .meet (x/2^16,n+16) ⟨by have:=EU (a:=x) (k:=16) (by omega);simp only;omega,by omega,by omega⟩ rfl (.get rfl (aa.refl _) (.get rfl (aa.refl _) (.keep 8 rfl rfl)))
  refine Z1 ?_
  refine .meet (x,n) ⟨h1,by omega,by omega⟩ rfl (.get rfl (aa.refl _) (.get rfl (aa.refl _) (.keep 2 rfl rfl)))
 intro ⟨y,m⟩ ⟨k1,k2,k3⟩
 simp only at k1 k2 k3 ⊢
 refine .cut (σ:=Nat×Nat) (fun _=>[]) (fun g=>[(0,uV g.1),(2,iV (g.2:Int))]) (fun g=>vn a=vn g.1+g.2∧g.1<256∧g.2≤56) ?_ ?_
 ·
  refine Z6 ?_
  refine Cd (fun c2=> ?_) fun c2=> ?_
  ·
   refine Z3 ?_
   refine .p (wB (s:=8) (.t rfl) (.c _) (by decide)) rfl ?_
   refine Z8 ?_
   refine .meet (y/2^8,m+8) ⟨by have:=EU (a:=y) (k:=8) (by omega);simp only;omega,by omega,by omega⟩ rfl (.get rfl (aa.refl _) (.get rfl (aa.refl _) (.keep 8 rfl rfl)))
  refine Z1 ?_
  refine .meet (y,m) ⟨k1,by omega,by omega⟩ rfl (.get rfl (aa.refl _) (.get rfl (aa.refl _) (.keep 2 rfl rfl)))
 intro ⟨z,q⟩ ⟨j1,j2,j3⟩
 simp only at j1 j2 j3 ⊢
 have hbz:=SW (a:=z) (n:=8) (by omega)
 refine Z5 ?_
 refine .p (jv FU.out (.s LD (by decide+kernel) (by decide)) (.t rfl) rfl (NG j2)) rfl ?_
 refine .p (mJ FU.out FU.out (.t rfl) (bN (by rw [SX z j2];omega) (by rw [SX z j2];omega))) rfl ?_
 refine .p (eX (.t rfl) (.t rfl) (bN (by rw [SX z j2];omega) (by rw [SX z j2];omega))) rfl ?_
 refine Z4 ?_
 refine bJ ?_
 exact aa.int (by rw [SX z j2];omega)
variable {a:eO} {X:yd} {n:Nat} {at_:Nat}
theorem Cy (aq:eg X a) (aT:at_+n≤X.size):cH Tryz.prog 116 [aJ X.ab 0,bf (at_:Int),bf (n:Int)] (sS X a) (γ:=Unit) (fun _=>True) (fun _=>sS X a) (fun _=>bz [iI X.db at_ n,bf 0]):=by
 refine In 47 Tryz.func116 fun _ _ _=> ?_
 have hk2:=aq.most
 refine dw ?_
 refine .p (cm FU.out (.t rfl)) rfl ?_
 refine Z3 ?_
 refine Cd (fun c0=> ?_) fun c0=> ?_
 · exact c0.elim
 refine iw ?_
 refine .g (cr.gF rfl rfl rfl rfl (fun hg=>lX rfl Tryz.underlying59 (.when (.t rfl) hg))) rfl rfl ?_
 refine Z8 ?_
 refine .g (cr.gF rfl rfl rfl rfl (fun hg=>lX rfl Tryz.underlying59 (.when (.t rfl) hg))) rfl rfl ?_
 refine Z7 ?_
 refine Cd (fun c1=> ?_) fun c1=> ?_
 · exfalso;omega
 refine jN ?_
 refine .p ((rB (l:=at_) (h:=at_+n) FU.out FC.out (.t rfl) (.t rfl) (.t rfl) rfl rfl (by omega) (by omega)).le (aa.of_eq (show iI _ _ _=iI X.db at_ n by rw [Nat.zero_add,Nat.add_sub_cancel_left]))) rfl ?_
 refine Z5 ?_
 refine jr ?_ ?_
 · exact .z
 exact .z
variable {w:Nat}
theorem xl (aq:eg X a) (aT:at_+w≤X.size) (dh:w=8∨w=4):cH Tryz.prog 93 [aJ X.ab 0,ag .i64 ((at_:Int)),ag .i64 ((w:Int))] (sS X a) (γ:=Unit) (fun _=>True) (fun _=>sS X a) (fun _=>bz [iI X.db at_ w,ag .i64 0]):=by
 refine In 32 Tryz.func93 fun _ _ _=> ?_
 refine cJ ?_
 refine .p (yJ FU.out (.t rfl)) rfl ?_
 refine DP ?_
 refine Cd (fun c0=> ?_) fun c0=> ?_
 · exfalso;omega
 refine Z7 ?_
 refine .n (cE (h:=Cy (at_:=at_) (n:=w) aq aT)) rfl fun g29 h29=> ?_
 refine Z7 ?_
 refine jr ?_ ?_
 · exact .z
 exact .z
variable {v:Nat}
theorem zl (aq:eg X a) (aT:at_+w≤X.size) (dh:w=8∨w=4) (fX:v<18446744073709551616):cH Tryz.prog 47 [aJ X.ab 0,ag .i64 ((at_:Int)),ag .i64 ((w:Int)),ag .u64 (v:Int)] (sS X a) (γ:=Unit) (fun _=>True) (fun _=>sS X (a.put at_ (DQ v w))) (fun _=>ag .i64 0):=by
 refine In 34 Tryz.func47 fun _ _ _=> ?_
 have EK:=aq.len
 have hk2:=aq.most
 refine cJ ?_
 refine .n (cE (h:=xl (at_:=at_) (w:=w) aq aT dh)) rfl fun WI QB=> ?_
 refine dw ?_
 refine .p (lX rfl Tryz.underlying59 (.t rfl)) rfl ?_
 refine Z4 ?_
 refine .aY (σ:=Nat) (fun k=>sS X (a.put at_ (DQ v k))) (fun k=>[(21,ag .i64 (k:Int))]) (fun k=>k≤w) (fun k=>w-k) 0 (Nat.zero_le _) (by show sS X a=sS X (a.put at_ []);unfold eO.put;simp only [List.append_nil,List.length_nil,Nat.add_zero,List.take_append_drop]) ?_ ?_
 · exact (.get rfl (aa.refl _) (.refl _ _))
 rintro k hk
 refine Z6 ?_
 refine Cd (fun c0=> ?_) fun c0=> ?_
 ·
  refine BY ?_
  refine .p (wB (s:=8*k) (.t rfl) (.le (.t rfl) (aa.int (by omega))) (by show 8*k≤64;omega)) rfl ?_
  refine .p ((eC FU.out FU.out (.t rfl)).le (aa.int (Li v k))) rfl ?_
  refine .p (wE (j:=k) FU.out FC.out (.t rfl) (.t rfl) rfl (by omega)) rfl ?_
  refine .s (KR (i:=1) (RF v k) FC.out (.t rfl) (.t rfl) rfl (by unfold eO.put;simp only [List.length_append,vG,List.length_take,List.length_drop];omega)) ?_
  refine Z7 ?_
  refine .round (k+1) (by omega) (by omega) (by unfold eO.put;simp only [vG,←Nx (v:=v) (show at_+w≤a.bytes.length by omega) (show k<w by omega)];rfl) ?_
  exact (.get rfl (aa.int (by (show (k:Int)+1=((k+1:Nat):Int);omega))) ((.keep 14 rfl rfl)))
 have vD:k=w:=by omega
 subst vD
 refine dH ?_
 refine bJ ?_
 exact .z
theorem IJ (aq:eg X a) (aT:at_+w≤X.size) (dh:w=8∨w=4):cH Tryz.prog 75 [aJ X.ab 0,ag .i64 ((at_:Int)),ag .i64 ((w:Int))] (sS X a) (γ:=Unit) (fun _=>True) (fun _=>sS X a) (fun _=>bz [ag .u64 (BZ ((a.bytes.drop at_).take w):Int),ag .i64 0]):=by
 refine In 39 Tryz.func75 fun _ _ _=> ?_
 have EK:=aq.len
 have hk2:=aq.most
 refine dw ?_
 refine .n (cE (h:=xl (at_:=at_) (w:=w) aq aT dh)) rfl fun G4 G5=> ?_
 refine iw ?_
 refine Cd (fun c0=> ?_) fun c0=> ?_
 · exact absurd rfl c0
 refine dw ?_
 refine .p (lX rfl Tryz.underlying59 (.t rfl)) rfl ?_
 refine Z4 ?_
 refine .aY (σ:=Nat) (fun _=>sS X a) (fun k=>[(10,ag .u64 (BZ ((a.bytes.drop at_).take k):Int)),(25,ag .i64 (k:Int))]) (fun k=>k≤w) (fun k=>w-k) 0 (Nat.zero_le _) rfl ?_ ?_
 · exact (.get rfl (aa.refl _) (.get rfl (aa.refl _) (.refl _ _)))
 rintro k hk
 refine Z6 ?_
 refine Cd (fun c1=> ?_) fun c1=> ?_
 ·
  obtain ⟨c,hc⟩:=ai (xs:=a.bytes) (k:=at_+k) (by omega)
  have hcs:=Qu hc (by omega)
  have o6:=c.toNat_lt
  refine Z7 ?_
  refine .p (wE (j:=k) FU.out FC.out (.t rfl) (.t rfl) rfl (by omega)) rfl ?_
  refine .p (Nj (i:=1) FA.out (.t rfl) rfl hc) rfl ?_
  refine cJ ?_
  refine .p (HQ (.t rfl) (.le (.t rfl) (aa.int (show _=((8*k:Nat):Int) by omega))) (by omega)) rfl ?_
  refine .p ((KL hcs.2 (by omega) (.t rfl) (.t rfl)).le (aa.int (by rw [hcs.1]))) rfl ?_
  refine Z8 ?_
  refine .round (k+1) (by omega) (by omega) rfl ?_
  exact (.get rfl (aa.refl _) (.get rfl (aa.int (by (show (k:Int)+1=((k+1:Nat):Int);omega))) ((.keep 18 rfl rfl))))
 have vD:k=w:=by omega
 subst vD
 refine jN ?_
 refine jr ?_ ?_
 · exact .z
 exact .z
theorem rR:cH Tryz.prog 14 [aJ X.ab 0] [uf X a] (γ:=Unit) (fun _=>True) (fun _=>[uf X a]) (fun _=>ag .i64 (a.live:Int)):=by
 refine In 9 Tryz.func14 fun _ _ _=> ?_
 refine Z9 ?_
 refine .p (cm FU.out (.t rfl)) rfl ?_
 refine Z2 ?_
 refine Cd (fun c0=> ?_) fun c0=> ?_
 · exact c0.elim
 refine dH ?_
 refine bJ ?_
 exact .z
theorem EW {at_:Int} {c:Nat} (aq:an a.taken at_=some (c:Int)) (aT:c≤a.live) (dh:a.live≤4194304) (fX:n≤1000000):cH Tryz.prog 57 [aJ X.ab 0,ag .i64 at_] (rN X a n) (γ:=Unit) (fun _=>True) (fun _=>rN X (Ls a at_ c) (n+1)) (fun _=>ag .i64 0):=by
 refine In 47 Tryz.func57 fun _ _ _=> ?_
 refine Z9 ?_
 refine .p (cm FU.out (.t rfl)) rfl ?_
 refine Z2 ?_
 refine Cd (fun c0=> ?_) fun c0=> ?_
 · exact c0.elim
 refine Z9 ?_
 refine .p (lW (i:=2) Tryz.Qf Tryz.underlying91 (fun w=>jS Tryz.Qg w) (.t rfl) (.t rfl) rfl) rfl ?_
 refine Z1 ?_
 refine .p ((lK (.t rfl) rfl).le (aa.of_eq (by rw [aq];try rfl))) rfl ?_
 refine dH ?_
 refine Cd (fun c1=> ?_) fun c1=> ?_
 · exact (c1 (by rw [aq];rfl)).elim
 refine Z9 ?_
 refine .s (GI (i:=2) rfl Tryz.Qf Tryz.underlying91 (.t rfl) (.t rfl) rfl) ?_
 refine Z3 ?_
 refine .own (aB.perm (Perm.idx [3,0,1,2] rfl rfl)) ?_
 refine .Qv (c:Int) fun G hG=> ?_
 have RK:=Iz (c:=(c:Int)) hG
 refine .zU (FR:=[EI X.gm G,uf X a]) [(0,0),(1,0),(2,0),(3,1),(4,0),(5,0),(6,0),(7,0),(8,1),(9,0),(10,1),(11,0),(12,0),(13,4)] 14 1 FM.out (by kernel_rfl) ?_
 refine Z3 ?_
 refine .o rfl (eR (i:=1) FA.out (.t rfl) rfl rfl) (aB.dc [0,3] [1,2,4,5] rfl rfl) ?_
 refine Z4 ?_
 refine .o rfl (eR (i:=1) FA.out (.t rfl) rfl rfl) (aB.dc [0,3] [1,2,4,5] rfl rfl) ?_
 refine Z1 ?_
 refine .o rfl ((tS (i:=0) Tryz.Qh Tryz.underlying92 (fun w=>jS Tryz.SJ w) (.t rfl) (.t rfl) rfl).le (Lp)) (aB.dc [0,3] [1,2,4,5] rfl rfl) ?_
 refine Z1 ?_
 refine .p rfl (fun _=>bu (enc:=jf) [at_] FU.out FC.out rfl FZ.out rfl (.cons (.t rfl) .nil) rfl rfl rfl rfl rfl) ?_
 refine .a rfl (aH (i:=1) FU.out FU.out FC.out rfl FZ.out rfl FY.out (.t rfl) (.t rfl) rfl (by simp only [List.length_cons,List.length_nil];omega) (by simp only [List.length_cons,List.length_nil];omega)) (fun _ _=>(aB.dc [0,3] [1,2,4,5] rfl rfl)) fun ME _=> ?_
 refine .fin ?_
 refine .s (BL (i:=0) _ Tryz.Qh Tryz.underlying92 (.t rfl) (.t rfl) (.t rfl) rfl) ?_
 refine Z2 ?_
 refine .own (IA (xs:=(sU G (c:Int)).2++[at_]) hG rfl (by simp only [List.length_append,List.length_cons,List.length_nil];omega)) ?_
 refine Z7 ?_
 refine .p ((ja (.t rfl) (.t rfl) de).le (aa.int (show _=((a.live-c:Nat):Int) by omega))) rfl ?_
 refine dw ?_
 refine Post.aN rfl (()) (by trivial) (aB.dc [1,2,3,0] [] rfl rfl) (.rt rfl) ?_
 exact .z
theorem EX {t:UInt8} (aq:fH t=32∨fH t=64) (aT:v<18446744073709551616):cQ Tryz.prog 48 [ag .i64 (fH t),ag .u64 (v:Int)] (ag .u64 (Aj t v:Int)):=by
 refine In 11 Tryz.func48 fun _ _ _=> ?_
 refine dH ?_
 refine Cd (fun c0=> ?_) fun c0=> ?_
 ·
  have MF:fH t=32:=by omega
  have Yz:Aj t v=v%4294967296:=by unfold Aj;rw [MF];rfl
  refine Z3 ?_
  refine .p (eC FU.out FU.out (.t rfl)) rfl ?_
  refine .p (eC FU.out FU.out (.t rfl)) rfl ?_
  refine Z5 ?_
  refine bJ ?_
  exact aa.int (by rw [Yz];show ((v:Int)%4294967296)%18446744073709551616=_;omega)
 have QF:fH t=64:=by omega
 have Yz:Aj t v=v:=by unfold Aj;rw [QF];exact Nat.mod_eq_of_lt aT
 refine Z9 ?_
 refine bJ ?_
 exact aa.int (by rw [Yz])
variable {sb:Nat} {pb:Nat} {num:Int} {m:aU} {mv:VP} {g:Int} {t:Int}
theorem EY:cH Tryz.prog 50 [aJ sb 0] [uU sb X pb m num g t mv] (γ:=Unit) (fun _=>True) (fun _=>[uU sb X pb m num g t mv]) (fun _=>ak False):=by
 refine In 11 Tryz.func50 fun _ _ _=> ?_
 refine Z8 ?_
 refine .p (cm FU.out (.t rfl)) rfl ?_
 refine cJ ?_
 refine bJ ?_
 exact aa.prop (by simp)
theorem Cz:cH Tryz.prog 46 [aJ sb 0] [uU sb X pb m num g t mv] (γ:=Unit) (fun _=>True) (fun _=>[uU sb X pb m num g t mv]) (fun _=>ag .i64 (m.ay.length:Int)):=by
 refine In 11 Tryz.func46 fun _ _ _=> ?_
 refine Eh ?_
 refine bJ ?_
 exact .z
theorem xm {i:Int} (aq:0≤i) (aT:i<(m.ay.length:Int)):cH Tryz.prog 45 [aJ sb 0,ag .i64 i,Yx 46 sb] [uU sb X pb m num g t mv] (γ:=Unit) (fun _=>True) (fun _=>[uU sb X pb m num g t mv]) (fun _=>ag .i64 0):=by
 refine In 19 Tryz.func45 fun _ _ _=> ?_
 refine cJ ?_
 refine .n ((cE (h:=EY)).same (fun _ _=>aB.refl _) (fun _ _=>aa.refl _)) rfl fun _ _=> ?_
 refine Z3 ?_
 refine Cd (fun c0=> ?_) fun c0=> ?_
 · exact c0.elim
 refine Z7 ?_
 refine .Uu rfl rfl rfl rfl (fun hg=>((Lh (rest:=[]) (Cz (sb:=sb) (X:=X) (pb:=pb) (m:=m) (num:=num) (g:=g) (t:=t) (mv:=mv)) FB.out (.when (.t rfl) hg) (Perm.idx [0] rfl rfl)).same (fun _ _=>aB.refl _) (fun _ _=>aa.refl _)).same (fun _ _=>aB.refl _) (fun _ _=>aa.refl _)) rfl rfl ?_
 refine Z5 ?_
 refine Cd (fun c1=> ?_) fun c1=> ?_
 · exfalso;omega
 refine Z9 ?_
 refine bJ ?_
 exact .z
variable {i:Nat}
theorem IK {g:Nat} {z:iS} (aq:m.ay[i]?=some z) (aT:eg X a) (dh:g+8*(i+1)≤X.size) (fX:v<18446744073709551616) (ox:fH z.Ty=32∨fH z.Ty=64) (yp:m.ay.length≤60000):cH Tryz.prog 22 [aJ sb 0,ag .i64 (i:Int),ag .u64 (v:Int)] (uU sb X pb m num (g:Int) t mv::sS X a) (γ:=Unit) (fun _=>True) (fun _=>uU sb X pb m num (g:Int) t mv::sS X (a.put (g+8*i) (DQ (Aj z.Ty v) 8))) (fun _=>ag .i64 0):=by
 refine In 42 Tryz.func22 fun _ _ _=> ?_
 have tF:=(List.getElem?_eq_some_iff.1 aq).1
 have hmo:=aT.most
 refine dw ?_
 refine .p (GW (.t rfl)) rfl ?_
 refine .n ((cE (h:=xm (sb:=sb) (X:=X) (pb:=pb) (m:=m) (num:=num) (g:=(g:Int)) (t:=t) (mv:=mv) (i:=(i:Int)) (by omega) (by omega))).same (fun _ _=>aB.refl _) (fun _ _=>aa.refl _)) rfl fun _ _=> ?_
 refine Z9 ?_
 refine Cd (fun c0=> ?_) fun c0=> ?_
 · exact absurd rfl c0
 refine Z3 ?_
 refine .bA 25 2 FM.out (by kernel_rfl) (k:= ?_)
 refine cJ ?_
 refine .p ((eX (.t rfl) (.t rfl) de).le (aa.int (show _=((g+8*i:Nat):Int) by omega))) ?_
 refine Z8 ?_
 refine .p (cI i (h:=aq)) ?_
 refine Z2 ?_
 refine .p (cA (h:=qD)) ?_
 refine Z1 ?_
 refine .p (cA (h:=EX ox fX)) ?_
 refine Z1 ?_
 refine .n (o7 [_] [1,2,0] (h:=zl (at_:=g+8*i) (w:=8) aT (by omega) (.inl rfl) (Nz fX))) rfl fun WJ h41=> ?_
 refine Z4 ?_
 refine Post.aN rfl (()) (by trivial) (aB.dc [2,0,1] [] rfl rfl) (.rt rfl) ?_
 exact .z
theorem uk (aq:n≤4194304):cH Tryz.prog 9 [bf (n:Int)] [] (γ:=yd) (fun X=>X.size=n) (fun X=>dS X ⟨List.replicate n 0,0,0,[]⟩) (fun X=>bz [aJ X.ab 0,bf 0]):=by
 refine In 16 Tryz.func9 fun _ _ _=> ?_
 refine J3 ?_
 refine Cd (fun c0=> ?_) fun c0=> ?_
 · exfalso;omega
 refine Z5 ?_
 refine .n (yQ FU.out FC.out FY.out FZ.out (.t rfl) rfl (by omega)) rfl fun RL _=> ?_
 refine .n (sI (Value.int .i64) bf) rfl fun m12 _=> ?_
 refine .n (sI (Value.int .i64) (fun _:Unit=>nV)) rfl fun m13 _=> ?_
 refine Z1 ?_
 refine .n (bV (.t rfl)) rfl fun b15 _=> ?_
 refine Z5 ?_
 refine Post.aZ rfl rfl (⟨b15,RL,m12,m13,n⟩) (by rfl) (aB.dc [0,3,2,1] [] rfl rfl) rfl (.cons (.rt rfl) ?_ (.cons (.rt rfl) ?_ .nil))
 · exact .z
 exact .z
theorem IL {cap:Int} (aq:16≤n) (aT:n≤1024) (dh:0≤cap) (fX:cap≤4096):cH Tryz.prog 16 [bf (n:Int),bf cap] [] (γ:=Nat) (fun _=>True) (fun sb=>[cS sb ⟨n,cap,0,0,-1,false,[]⟩]) (fun sb=>bz [aJ sb 0,bf 0]):=by
 refine In 25 Tryz.func16 fun _ _ _=> ?_
 refine RE ?_
 refine Cd (fun c0=> ?_) fun c0=> ?_
 · exfalso;omega
 refine Z6 ?_
 refine .n (sI (Value.int .i64) (fun b=>iI b 0 n)) rfl fun m22 _=> ?_
 refine Z1 ?_
 refine .n (bV (.t rfl)) rfl fun b24 _=> ?_
 refine Z5 ?_
 refine Post.aZ rfl rfl (b24) (by trivial) (eo (E:=[]) (mb:=m22) (sz:=n) (s:=⟨n,cap,0,0,-1,false,[]⟩) rfl rfl|>aB.trans (aB.trans (aB.cons _ (aB.cons _ dQ)) (aB.cells (.cons (.refl _) (.cons (.refl _) (.cons (.refl _) (.cons (.refl _) (.cons (.refl _) (.cons (.refl _) (.cons lZ .nil)))))))))) rfl (.cons (.rt rfl) ?_ (.cons (.rt rfl) ?_ .nil))
 · exact .z
 exact .z
variable {s:kE}
theorem rS:cH Tryz.prog 42 [aJ sb 0] [cS sb s] (γ:=Unit) (fun _=>True) (fun _=>[cS sb s]) (fun _=>bf (s.size:Int)):=by
 refine In 9 Tryz.func42 fun _ _ _=> ?_
 refine .B4 fun mb E hE=> ?_
 refine Z9 ?_
 refine .p (cm FU.out (.t rfl)) rfl ?_
 refine Z2 ?_
 refine Cd (fun c0=> ?_) fun c0=> ?_
 · exact c0.elim
 refine dH ?_
 refine Post.aN rfl (()) (by trivial) (eo hE rfl) (.rt rfl) ?_
 exact .z
variable {l:List UInt8}
theorem uW {b off len:Nat} (aq:off+len≤l.length) (aT:l.length≤4194304):cH Tryz.prog 175 [iI b off len] [gk b l] (γ:=Unit) (fun _=>True) (fun _=>[gk b l]) (fun _=>ah 1 aj ((l.drop off).take len)):=by
 refine In 8 Tryz.func175 fun _ _ _=> ?_
 have hlen:((l.drop off).take len).length≤4194304:=by (simp;omega)
 refine Z9 ?_
 refine .p (uO FU.out (.t rfl) (.c _)) rfl ?_
 refine Z2 ?_
 refine Cd (fun c0=> ?_) fun c0=> ?_
 · exact c0.elim
 refine Z4 ?_
 refine .p (lB FU.out FC.out rfl FZ.out rfl) rfl ?_
 refine Z1 ?_
 refine .p (Ea FU.out FU.out FC.out rfl FZ.out rfl FY.out (.t rfl) (BN.buf (i:=0) (.t rfl) rfl (by omega)).src (by omega)) rfl ?_
 refine Z4 ?_
 refine bJ ?_
 exact .z
theorem CA (aq:eg X a) (aT:at_+n≤X.size):cH Tryz.prog 142 [aJ X.ab 0,bf (at_:Int),bf (n:Int)] (dS X a) (γ:=Unit) (fun _=>True) (fun _=>dS X a) (fun _=>bz [ah 1 aj (a.get at_ n),bf 0]):=by
 refine In 20 Tryz.func142 fun _ _ _=> ?_
 have hk2:=aq.most;have EK:=aq.len
 refine dw ?_
 refine .n (cE (h:=apart_spec (by assumption) (by omega))) rfl fun Po vI=> ?_
 refine cJ ?_
 refine .n (o7 [_,_,_] [1,0,2,3] (h:=uW (by omega) (by omega))) rfl fun xo Pp=> ?_
 refine Z6 ?_
 refine Post.aZ rfl rfl (()) (by trivial) (aB.dc [1,0,2,3] [] rfl rfl) rfl (.cons (.rt rfl) ?_ (.cons (.rt rfl) ?_ .nil))
 · exact .z
 exact .z
variable {ys:List UInt8}
theorem xp (aq:eg X a) (aT:at_+ys.length≤X.size):cH Tryz.prog 122 [aJ X.ab 0,bf (at_:Int),ah 1 aj ys] (dS X a) (γ:=Unit) (fun _=>True) (fun _=>dS X (a.put at_ ys)) (fun _=>bf 0):=by
 refine In 23 Tryz.func122 fun _ _ _=> ?_
 have hk2:=aq.most;have EK:=aq.len
 refine dw ?_
 refine .n (cE (h:=apart_spec (by assumption) (by omega))) rfl fun Po vI=> ?_
 refine iw ?_
 refine Cd (fun c0=> ?_) fun c0=> ?_
 ·
  refine Z3 ?_
  refine .n (yR (i:=1) rfl Tryz.underlying59 FC.out (.t rfl) (.shared (.t rfl)) rfl (by omega) (by omega)) rfl fun _ _=> ?_
  refine Z9 ?_
  refine bJ ?_
  exact .z
 exact absurd rfl c0
theorem IM {b off:Nat} {cs:List VP} {n m:Int} (aq:cs[off]?=some (bf n)):cH Tryz.prog 221 [aJ b off,bf m] [aF b cs] (γ:=Unit) (fun _=>True) (fun _=>[aF b (cs.set off (bf (IntKind.i64.wrap (n+m))))]) (fun _=>bf (IntKind.i64.wrap (n+m))):=by
 refine In 10 Tryz.func221 fun _ _ _=> ?_
 refine dw ?_
 refine .n (HO (i:=0) Tryz.func237 (by kernel_rfl) (by kernel_rfl) (by kernel_rfl) (by kernel_rfl) (.t rfl) (.t rfl) rfl aq) rfl fun _ _=> ?_
 refine Z4 ?_
 refine bJ ?_
 exact .z
variable {mb:Nat}
theorem CB:cH Tryz.prog 186 [aJ sb 0] [jd sb mb s] (γ:=kE×Bool) (fun g=>g=rC s) (fun g=>[jd sb mb g.1]) (fun g=>ak (g.2=true)):=by
 refine In 25 Tryz.func186 fun _ _ _=> ?_
 refine cJ ?_
 refine .n (cE (h:=IM (by rfl))) rfl fun g7 h7=> ?_
 refine .p (Kh (.t rfl) (.c _)) rfl ?_
 refine RD ?_
 refine Cd (fun c0=> ?_) fun c0=> ?_
 ·
  refine mM ?_
  refine Post.aN rfl (({s with ops:=IntKind.i64.wrap (s.ops+1),failed:=true},false)) (by unfold rC;rw [if_pos (by omega)]) (fun _ _ _ h=>h) (.rt rfl) ?_
  exact aa.prop (by simp)
 refine Z8 ?_
 refine Post.aN rfl (({s with ops:=IntKind.i64.wrap (s.ops+1)},true)) (by unfold rC;rw [if_neg (by omega)]) (fun _ _ _ h=>h) (.rt rfl) ?_
 exact aa.prop (by simp)
variable {id:Int}
theorem um {E:zW} {right:Prop} [Decidable right] (aq:mO E=s.m):cH Tryz.prog 145 [aJ sb 0,bf id,ak right] [jd sb mb s,gq mb s.size E] (γ:=kE×Nat) (fun g=>g=ei s id right) (fun g=>[jd sb mb g.1,gq mb s.size E]) (fun g=>bf (g.2:Int)):=by
 refine In 25 Tryz.func145 fun _ _ _=> ?_
 have hlk:an (E.map fun e=>(e.1,e.2.1)) id=none↔an s.m id=none:=by rw [←aq,jU,nC];cases an E id<;>simp
 refine cJ ?_
 refine .p (cm FU.out (.t rfl)) rfl ?_
 refine Z3 ?_
 refine Cd (fun c0=> ?_) fun c0=> ?_
 · exact c0.elim
 refine Z7 ?_
 refine .p (tS (i:=1) Tryz.yY Tryz.underlying122 (fun w=>jS Tryz.Ni w) (.t rfl) (.t rfl) rfl) rfl ?_
 refine .p (BO FU.out (.t rfl) (.c _)) rfl ?_
 refine Z3 ?_
 refine Cd (fun c1=> ?_) fun c1=> ?_
 ·
  refine Z8 ?_
  refine Post.aN rfl ((s,2)) (by exact (HX (hlk.1 c1)).symm) (fun _ _ _ h=>h) (.rt rfl) ?_
  exact .z
 have hl:=mt hlk.2 c1
 refine Z7 ?_
 refine Cd (fun c2=> ?_) fun c2=> ?_
 ·
  refine Z8 ?_
  refine Post.aN rfl ((s,1)) (by exact (En hl c2).symm) (fun _ _ _ h=>h) (.rt rfl) ?_
  exact .z
 refine Z3 ?_
 refine .n (cE (h:=CB)) rfl fun Pq h23=> ?_
 refine Z4 ?_
 refine Cd (fun c3=> ?_) fun c3=> ?_
 ·
  refine Z8 ?_
  refine Post.aN rfl (((rC s).1,9)) (by exact (z3 hl (Classical.not_not.1 c2)).2 (by rw [←h23];exact c3)|>.symm) (by rw [h23];exact fun _ _ _ h=>h) (.rt rfl) ?_
  exact .z
 refine Z9 ?_
 refine Post.aN rfl (((rC s).1,0)) (by exact (z3 hl (Classical.not_not.1 c2)).1 (by rw [←h23];exact Classical.not_not.1 c3)|>.symm) (by rw [h23];exact fun _ _ _ h=>h) (.rt rfl) ?_
 exact .z
theorem EZ (aq:oZ s):cH Tryz.prog 174 [aJ sb 0,bf id] [cS sb s] (γ:=kE×List UInt8×Nat) (fun g=>g=y3 s id) (fun g=>[cS sb g.1]) (fun g=>bz [ah 1 aj g.2.1,bf (g.2.2:Int)]):=by
 refine In 20 Tryz.func174 fun _ _ _=> ?_
 refine .B4 fun mb E hE=> ?_
 have IN:=wH s id True
 have hsz:=aq.size
 refine dw ?_
 refine .n (cE (h:=um (mb:=mb) (s:=s) (E:=E) (id:=id) (right:=True) hE)) rfl fun g9 h9=> ?_
 refine Z9 ?_
 refine Cd (fun c0=> ?_) fun c0=> ?_
 ·
  subst h9
  refine Z9 ?_
  refine Post.aZ rfl rfl (((ei s id True).1,[],(ei s id True).2)) (by exact (HY (by omega)).symm) (eo (hE.trans IN.1.symm) IN.2.symm) rfl (.cons (.rt rfl) ?_ (.cons (.rt rfl) ?_ .nil))
  · exact aD _ _
  exact aa.refl _
 subst h9
 have h0:(ei s id True).2=0:=by omega
 obtain ⟨_,l,hl⟩:=z1 h0
 obtain ⟨b,hb⟩:∃b,an E id=some (b,l):=by (rw [←hE,jU] at hl;cases hq:an E id with|none=>(rw [hq] at hl;cases hl)|some p=>(rw [hq] at hl;cases hl;exact ⟨p.1,rfl⟩))
 have J9:l.length=s.size:=by (obtain ⟨e,he,hel⟩:=y2 hl;have:=aq.len e he;rw [hel] at this;exact this)
 refine .Ek hb ?_
 refine Z9 ?_
 refine .p (tS (i:=1) Tryz.yY Tryz.underlying122 (fun w=>jS Tryz.Ni w) (.t rfl) (.t rfl) rfl) rfl ?_
 refine .n (cC (rest:=[_,_,_]) (uW (b:=b) (off:=0) (len:=s.size) (l:=l) (by omega) (by omega)) FB.out (.cons (.le (.t rfl) (aa.of_eq (show rA _ _ _=iI b 0 s.size by rw [nC,hb];rfl))) .nil) (Perm.idx [2,0,1,3] rfl rfl)) rfl fun zm MG=> ?_
 refine Z5 ?_
 refine Post.aZ rfl rfl (((ei s id True).1,l,0)) (by exact (B5 h0 hl).symm) (aB.trans (aB.perm (Perm.idx [1,2,0,3] rfl rfl)) (zY hb hE IN.1 IN.2.symm)) rfl (.cons (.rt rfl) ?_ (.cons (.rt rfl) ?_ .nil))
 · exact aa.of_eq (by rw [List.drop_zero,List.take_of_length_le (by omega)])
 exact aa.refl _
theorem uX (aq:oZ s):cH Tryz.prog 173 [aJ sb 0,bf id,ah 1 aj ys] [cS sb s] (γ:=kE×Nat) (fun g=>g=jz s id ys) (fun g=>[cS sb g.1]) (fun g=>bf (g.2:Int)):=by
 refine In 33 Tryz.func173 fun _ _ _=> ?_
 refine .B4 fun mb E hE=> ?_
 have IN:=wH s id (ys.length=s.size)
 have hsz:=aq.size
 refine cJ ?_
 refine .p (yJ FU.out (.t rfl)) rfl ?_
 refine Z9 ?_
 refine .n (cC (rest:=[_]) (um (mb:=mb) (s:=s) (E:=E) (id:=id) (right:=ys.length=s.size) hE) FB.out (.cons (.t rfl) (.cons (.t rfl) (.cons (.le (.t rfl) (aa.prop (show _↔ys.length=s.size by simp;omega))) .nil))) (Perm.idx [0,1,2] rfl rfl)) rfl fun MH IP=> ?_
 refine cJ ?_
 refine Cd (fun c0=> ?_) fun c0=> ?_
 ·
  subst IP
  have h0:(ei s id (ys.length=s.size)).2=0:=by omega
  obtain ⟨Qk,l,hl⟩:=z1 h0
  obtain ⟨b,hb⟩:∃b,an E id=some (b,l):=by (rw [←hE,jU] at hl;cases hq:an E id with|none=>(rw [hq] at hl;cases hl)|some p=>(rw [hq] at hl;cases hl;exact ⟨p.1,rfl⟩))
  have J9:l.length=s.size:=by (obtain ⟨e,he,hel⟩:=y2 hl;have:=aq.len e he;rw [hel] at this;exact this)
  refine .Ek hb ?_
  refine Z6 ?_
  refine .p (tS (i:=1) Tryz.yY Tryz.underlying122 (fun w=>jS Tryz.Ni w) (.t rfl) (.t rfl) rfl) rfl ?_
  refine Z1 ?_
  refine .n (yR (i:=2) rfl Tryz.underlying59 FC.out (.le (.t rfl) (aa.of_eq (show rA _ _ _=iI b 0 s.size by rw [nC,hb];rfl))) (.shared (.t rfl)) rfl (by omega) (by omega)) rfl fun _ _=> ?_
  refine Z9 ?_
  refine Post.aN rfl (({(ei s id (ys.length=s.size)).1 with m:=fA s.m id ys},0)) (by exact (y4 h0).symm) (aB.trans (aB.cons _ (aB.cons _ (aB.Yt (show l.take 0++ys++l.drop (0+ys.length)=ys by rw [List.take_zero,List.nil_append,Nat.zero_add,List.drop_of_length_le (by omega),List.append_nil])))) (sK (s:={(ei s id (ys.length=s.size)).1 with m:=fA s.m id ys}) hb hE (by rw [←IN.1]) IN.2.symm)) (.rt rfl) ?_
  exact aa.int (by omega)
 subst IP
 refine Z9 ?_
 refine Post.aN rfl (((ei s id (ys.length=s.size)).1,(ei s id (ys.length=s.size)).2)) (by exact (Eo (by omega)).symm) (eo (hE.trans IN.1.symm) IN.2.symm) (.rt rfl) ?_
 exact aa.refl _
theorem E0:cH Tryz.prog 127 [aJ sb 0,bf id] [cS sb s] (γ:=kE×Nat) (fun g=>g=qW s id) (fun g=>[cS sb g.1]) (fun g=>bf (g.2:Int)):=by
 refine In 17 Tryz.func127 fun _ _ _=> ?_
 refine .B4 fun mb E hE=> ?_
 have IN:=wH s id True
 refine Z9 ?_
 refine .n (cE (h:=um (mb:=mb) (s:=s) (E:=E) (id:=id) (right:=True) hE)) rfl fun g8 h8=> ?_
 refine cJ ?_
 refine Cd (fun c0=> ?_) fun c0=> ?_
 ·
  subst h8
  have h0:(ei s id True).2=0:=by omega
  obtain ⟨_,l,hl⟩:=z1 h0
  obtain ⟨b,hb⟩:∃b,an E id=some (b,l):=by (rw [←hE,jU] at hl;cases hq:an E id with|none=>(rw [hq] at hl;cases hl)|some p=>(rw [hq] at hl;cases hl;exact ⟨p.1,rfl⟩))
  refine .Ek hb ?_
  refine Z6 ?_
  refine .s (GI (i:=1) rfl Tryz.yY Tryz.underlying122 (.t rfl) (.t rfl) rfl) ?_
  refine Z9 ?_
  refine Post.aN rfl (({(ei s id True).1 with m:=gX s.m id},0)) (by exact (B6 h0).symm) (z4 (s:={(ei s id True).1 with m:=gX s.m id}) (by rw [←hE]) IN.2.symm) (.rt rfl) ?_
  exact aa.int (by omega)
 subst h8
 refine Z9 ?_
 refine Post.aN rfl (((ei s id True).1,(ei s id True).2)) (by exact (HZ (by omega)).symm) (eo (hE.trans IN.1.symm) IN.2.symm) (.rt rfl) ?_
 exact aa.refl _
theorem CC (aq:oZ s):cH Tryz.prog 172 [aJ sb 0] [cS sb s] (γ:=kE×Int×Nat) (fun g=>wI s g) (fun g=>[cS sb g.1]) (fun g=>bz [bf g.2.1,bf (g.2.2:Int)]):=by
 refine In 56 Tryz.func172 fun _ _ _=> ?_
 obtain ⟨JZ,f10,SY⟩:=KT s
 refine .B4 fun mb E hE=> ?_
 have hom:=KS s
 have hsz:=aq.size
 have hmn:=aq.many
 have hcp:=aq.cap
 have hlen:s.m.length=E.length:=by (rw [←hE];simp [mO])
 refine dw ?_
 refine .p (cm FU.out (.t rfl)) rfl ?_
 refine Z3 ?_
 refine Cd (fun c0=> ?_) fun c0=> ?_
 · exact c0.elim
 refine Z3 ?_
 refine .n (cE (h:=CB)) rfl fun IQ h10=> ?_
 refine Z4 ?_
 refine Cd (fun c1=> ?_) fun c1=> ?_
 ·
  subst h10;rw [SY]
  refine Z9 ?_
  refine Post.aZ rfl rfl (({s with ops:=JZ,failed:=f10},0,9)) (by exact .inl ⟨by simpa using c1,by rw [SY]⟩) (eo (s:={s with ops:=JZ,failed:=f10}) hE rfl) rfl (.cons (.rt rfl) ?_ (.cons (.rt rfl) ?_ .nil))
  · exact .z
  exact .z
 subst h10;rw [SY]
 refine Z1 ?_
 refine .bA 9 2 FM.out (by kernel_rfl) (k:= ?_)
 refine Z4 ?_
 refine .p (KI (i:=1) rfl Tryz.underlying122 (.t rfl) rfl) ?_
 refine Z9 ?_
 refine Cd (fun c2=> ?_) fun c2=> ?_
 ·
  refine Z9 ?_
  refine Post.aZ rfl rfl (({s with ops:=JZ,failed:=f10},0,8)) (by exact .inr (.inl ⟨by simpa using c1,by rw [hlen];simpa using c2,by rw [SY]⟩)) (eo (s:={s with ops:=JZ,failed:=f10}) hE rfl) rfl (.cons (.rt rfl) ?_ (.cons (.rt rfl) ?_ .nil))
  · exact .z
  exact .z
 refine cJ ?_
 refine .aY (σ:=Nat) (fun _=>_) (fun k=>[(4,bf (k:Int))]) (fun k=>k≤s.m.length∧∀j:Nat,j<k→an s.m (j:Int)≠none) (fun k=>s.m.length-k) 0 ⟨by omega,fun j hj=>by omega⟩ rfl ?_ ?_
 · exact (.get rfl (aa.refl _) (.refl _ _))
 rintro k ⟨hk,hall⟩
 refine Z8 ?_
 refine .p (tS (i:=1) Tryz.yY Tryz.underlying122 (fun w=>jS Tryz.Ni w) (.t rfl) (.t rfl) rfl) rfl ?_
 refine .p (BQ FU.out (.t rfl) (.c _)) rfl ?_
 refine Z2 ?_
 refine Cd (fun c3=> ?_) fun c3=> ?_
 ·
  have Pr:an s.m (k:Int)≠none:=by (rw [←hE,jU];rw [nC] at c3;intro e;apply c3;cases hq:an E (k:Int) with|none=>rfl|some p=>(rw [hq] at e;cases e))
  have Bk:k+1≤s.m.length:=H6 fun j hj=>if h:j<k then hall j h else (by rw [show j=k by omega];exact Pr)
  refine Z9 ?_
  refine .round (k+1) ⟨by omega,fun j hj=>if h:j<k then hall j h else (by rw [show j=k by omega];exact Pr)⟩ (by omega) rfl ?_
  exact (.get rfl (aa.int (by omega)) (.keep 11 rfl rfl))
 have hnb:an (E.map fun e=>(e.1,e.2.1)) (k:Int)=none:=Classical.not_not.1 c3
 have hnE:an E (k:Int)=none:=by (rw [nC] at hnb;cases hq:an E (k:Int) with|none=>rfl|some p=>(rw [hq] at hnb;cases hnb))
 have hno:an s.m (k:Int)=none:=by rw [←hE,jU,hnE];rfl
 refine Z6 ?_
 refine .bG [(0,0),(1,0),(2,0),(3,1),(4,0),(5,0),(6,0),(7,0),(8,1),(9,4)] 10 1 FM.out (by kernel_rfl) (k:= ?_)
 refine Z9 ?_
 refine .a rfl (yQ FU.out FC.out FY.out FZ.out (.t rfl) rfl (show s.size≤281474976710656 by omega)) (fun _ _=>aB.drop (aB.refl _)) fun b41 _=> ?_
 refine .fin ?_
 refine .s (BL (i:=2) b41 Tryz.yY Tryz.underlying122 (.t rfl) (.t rfl) (.t rfl) rfl) ?_
 refine Z3 ?_
 refine .bA 11 3 FM.out (by kernel_rfl) (k:= ?_)
 refine Z9 ?_
 refine .p (KI (i:=2) rfl Tryz.underlying122 (.t rfl) rfl) ?_
 refine mM ?_
 refine Post.aZ rfl rfl (({s with ops:=JZ,failed:=f10,m:=s.m++[((k:Int),List.replicate s.size 0)],wF:=max s.wF ((s.m.length:Int)+1)},(k:Int),0)) (by exact .inr (.inr ⟨by simpa using c1,by rw [hlen];simpa using c2,k,hk,hno,by rw [SY]⟩)) (aB.trans (aB.perm (Perm.idx [1,0,2,3] rfl rfl)) (aB.trans (aB.cells (.cons (.refl _) (.cons (.refl _) (.cons (aa.int (by rw [hlen,l5 _ hnb];simp)) (.cons (.refl _) (.cons (.refl _) (.cons (.refl _) (.cons (.refl _) .nil)))))))) (aB.trans (aB.perm (Perm.idx [1,0,2,3] rfl rfl)) (zZ (s:={s with ops:=JZ,failed:=f10,m:=s.m++[((k:Int),List.replicate s.size 0)],wF:=max s.wF ((s.m.length:Int)+1)}) hnE (by rw [←hE]) rfl)))) rfl (.cons (.rt rfl) ?_ (.cons (.rt rfl) ?_ .nil))
 · exact .z
 exact .z
variable {p:kR}
theorem oy {X:od}:cH Tryz.prog 117 [aJ X.pb 0] [gu X p,cS X.sb s] (γ:=Unit) (fun _=>True) (fun _=>[gu X p,cS X.sb s]) (fun _=>bf (s.size:Int)):=by
 refine In 10 Tryz.func117 fun _ _ _=> ?_
 refine Z9 ?_
 refine .p (cm FU.out (.t rfl)) rfl ?_
 refine Z2 ?_
 refine Cd (fun c0=> ?_) fun c0=> ?_
 · exact c0.elim
 refine Z8 ?_
 refine .n ((o7 [_] [1,0] (h:=rS)).same (fun _ _=>aB.perm (Perm.idx [1,0] rfl rfl)) (fun _ _=>aa.refl _)) rfl fun _ _=> ?_
 refine Z4 ?_
 refine bJ ?_
 exact .z
theorem CD {X:od}:cH Tryz.prog 124 [aJ X.pb 0] [gu X p] (γ:=Unit) (fun _=>True) (fun _=>[gu X p]) (fun _=>ak (wJ p)):=by
 refine In 18 Tryz.func124 fun _ _ _=> ?_
 refine Z8 ?_
 refine .p (cm FU.out (.t rfl)) rfl ?_
 refine J3 ?_
 refine bJ ?_
 exact aa.prop (by simp only [wJ,←pO,false_or];by_cases hb:BP p.closed<;>simp [hb])
variable {k:cW}
theorem CE {X:od}:cH Tryz.prog 119 [aJ X.pb 0,aE [bf k.1,bf k.2]] [gu X p,Ep X p,rD X p] (γ:=Unit) (fun _=>True) (fun _=>[gu X p,Ep X p,rD X p]) (fun _=>ak (Er p k)):=by
 refine In 31 Tryz.func119 fun _ _ _=> ?_
 refine Z7 ?_
 refine .bA 10 1 FM.out (by kernel_rfl) (k:= ?_)
 refine Z5 ?_
 refine .p (lW (i:=1) Tryz.qU Tryz.underlying130 (fun w=>jS Tryz.Qg w) (.t rfl) (.le (.t rfl) iK) rfl) ?_
 refine Z9 ?_
 refine .bA 10 1 FM.out (by kernel_rfl) (k:= ?_)
 refine Z5 ?_
 refine .p (lW (i:=2) Tryz.qU Tryz.underlying130 (fun w=>jS Tryz.Qg w) (.t rfl) (.le (.t rfl) iK) rfl) ?_
 refine DP ?_
 refine bJ ?_
 exact .z
theorem CF {X:od} {at_ n:Int} (aq:s.size≤1024):cH Tryz.prog 101 [aJ X.pb 0,aE [bf k.1,bf k.2],bf at_,bf n] [gu X p,cS X.sb s] (γ:=Unit) (fun _=>True) (fun _=>[gu X p,cS X.sb s]) (fun _=>bf (rE p s.size k at_ n:Int)):=by
 refine In 42 Tryz.func101 fun _ _ _=> ?_
 refine dw ?_
 refine .n ((cE (h:=CD)).same (fun _ _=>aB.refl _) (fun _ _=>aa.refl _)) rfl fun _ _=> ?_
 refine Z3 ?_
 refine Cd (fun c0=> ?_) fun c0=> ?_
 ·
  refine Z8 ?_
  refine bJ ?_
  exact aa.int (by simp only [rE];rw [if_pos c0];rfl)
 refine jN ?_
 refine Cd (fun c1=> ?_) fun c1=> ?_
 ·
  refine Z8 ?_
  refine bJ ?_
  exact aa.int (by simp only [rE];rw [if_neg c0,if_pos (by omega)];rfl)
 refine dw ?_
 refine .Uu rfl rfl rfl rfl (fun hg=>((cE (h:=oy)).same (fun _ _=>aB.refl _) (fun _ _=>aa.refl _)).same (fun _ _=>aB.refl _) (fun _ _=>aa.refl _)) rfl rfl ?_
 refine Z5 ?_
 refine .Uu rfl rfl rfl rfl (fun hg=>((cE (h:=oy)).same (fun _ _=>aB.refl _) (fun _ _=>aa.refl _)).same (fun _ _=>aB.refl _) (fun _ _=>aa.refl _)) rfl rfl ?_
 refine Z7 ?_
 refine Cd (fun c2=> ?_) fun c2=> ?_
 ·
  refine Z8 ?_
  refine bJ ?_
  exact aa.int (by simp only [rE];rw [if_neg c0,if_neg (by omega),if_pos (by omega)];rfl)
 refine Z9 ?_
 refine bJ ?_
 exact aa.int (by simp only [rE];rw [if_neg c0,if_neg (by omega),if_neg (by omega)];rfl)
variable {fr:Fr}
theorem CG {X:od} (aq:KU X p a s) (aT:p.l[i]?=some fr):cH Tryz.prog 171 [aJ X.pb 0,bf (i:Int)] (gu X p::l7 X p::cS X.sb s::dS X.Y a) (γ:=Unit) (fun _=>True) (fun _=>gu X p::l7 X p::cS X.sb s::dS X.Y a) (fun _=>ah 1 aj (a.get fr.at_ s.size)):=by
 refine In 26 Tryz.func171 fun _ _ _=> ?_
 have tF:i<X.n:=by (rw [←aq.n];exact (List.getElem?_eq_some_iff.1 aT).1)
 have WE:=aq.room fr (List.mem_of_getElem? aT)
 have har:=aq.ar
 refine Z6 ?_
 refine .bG [(0,0),(1,0),(2,0),(3,1),(4,0),(5,0),(6,0),(7,1),(8,0),(9,0),(10,0),(11,1),(12,0),(13,4),(14,4),(15,0),(16,0),(17,0),(18,0)] 19 1 FM.out (by kernel_rfl) (k:= ?_)
 refine Z9 ?_
 refine .p rfl (fun _=>bl i FU.out FC.out rfl (.t rfl) (.t rfl) rfl tF) ?_
 refine Z1 ?_
 refine .o rfl (eW (i:=1) (r:=0) FA.out (.t rfl) rfl aT rfl) ?_
 refine Z1 ?_
 refine .a rfl ((o7 [_,_,_,_,_] [0,2,1,3,4,5,6] (h:=oy)).same (fun _ _=>aB.perm (Perm.idx [0,2,1,3,4,5,6] rfl rfl)) (fun _ _=>aa.refl _)) (fun _ _=>aB.refl _) fun _ _=> ?_
 refine .a rfl ((o7 [_,_,_] [3,4,5,6,0,1,2] (h:=CA (at_:=fr.at_) (n:=s.size) har WE.2)).same (fun _ _=>aB.perm (Perm.idx [4,5,6,0,1,2,3] rfl rfl)) (fun _ _=>aa.refl _)) (fun _ _=>aB.refl _) fun _ _=> ?_
 refine Z4 ?_
 refine .fin ?_
 refine cJ ?_
 refine bJ ?_
 exact .z
theorem E1 {X:od}:cH Tryz.prog 103 [aJ X.pb 0,aE [bf k.1,bf k.2]] [gu X p,rD X p,cS X.sb s] (γ:=kR×kE×Nat) (fun g=>g=oe p s k) (fun g=>[gu X g.1,rD X g.1,cS X.sb g.2.1]) (fun g=>bf (g.2.2:Int)):=by
 refine In 29 Tryz.func103 fun _ _ _=> ?_
 refine Z7 ?_
 refine .bA 10 1 FM.out (by kernel_rfl) (k:= ?_)
 refine Z5 ?_
 refine .p (lW (i:=1) Tryz.qU Tryz.underlying130 (fun w=>jS Tryz.Qg w) (.t rfl) (.le (.t rfl) iK) rfl) ?_
 refine mM ?_
 refine Cd (fun c0=> ?_) fun c0=> ?_
 ·
  have hno:an p.bm k=none:=by (cases hq:an p.bm k with|none=>rfl|some v=>(rw [hq] at c0;exact absurd rfl c0))
  refine Z7 ?_
  refine Post.aN rfl ((p,s,0)) (by unfold oe;rw [hno]) (fun _ _ _ h=>h) (.rt rfl) ?_
  exact .z
 obtain ⟨id,hid⟩:∃id,an p.bm k=some id:=Option.isSome_iff_exists.1 (Classical.not_not.1 c0)
 refine Z3 ?_
 refine .bA 5 1 FM.out (by kernel_rfl) (k:= ?_)
 refine Z6 ?_
 refine .s (GI (i:=1) rfl Tryz.qU Tryz.underlying130 (.t rfl) (.le (.t rfl) iK) rfl) ?_
 refine Z9 ?_
 refine .n (cC (rest:=[_,_]) (E0 (s:=s) (id:=id)) FB.out (.cons (.t rfl) (.cons (.le (.t rfl) (aa.of_eq (show rA _ _ _=bf id by rw [hid];rfl))) .nil)) (Perm.idx [2,0,1] rfl rfl)) rfl fun WK SZ=> ?_
 refine Z3 ?_
 subst SZ
 refine Z1 ?_
 refine Post.aN rfl (({p with bm:=jc p.bm k},(qW s id).1,(qW s id).2)) (by unfold oe;rw [hid]) (aB.dc [1,2,0] [] rfl rfl) (.rt rfl) ?_
 exact .z
theorem E3 {c:UInt8}:cQ Tryz.prog 163 [ah 1 aj l,ag .u8 (c.toNat:Int)] (ah 1 aj (eE l c l.length)):=by
 refine In 24 Tryz.func163 fun _ _ _=> ?_
 refine .fact (t:=0) rfl (fun S w v h=>bH h) fun hl=> ?_
 refine Z7 ?_
 refine .aY (σ:=Nat) (fun _=>[]) (fun k=>[(0,ah 1 aj (l.take k))]) (fun k=>k≤l.length∧eE l c k=eE l c l.length) (fun k=>k) l.length ⟨Nat.le_refl _,rfl⟩ rfl ?_ ?_
 · exact (.get rfl (aa.of_eq (by rw [List.take_length])) (.refl _ _))
 rintro k ⟨hk,S1⟩
 have hlen:(l.take k).length=k:=by (simp;omega)
 have hx:0<k→(l.take k)[k-1]?=some (l.getD (k-1) 0):=fun h0=>by (have h1:k-1<l.length:=by omega);rw [List.getElem?_take,if_pos (by omega)];simp [List.getD_eq_getElem?_getD,h1]
 refine dw ?_
 refine .g (cr.gT rfl rfl rfl rfl (fun hg=>aP (j:=k-1) FU.out FC.out rfl (.when (.t rfl) hg) (.when (.t rfl) hg) (by omega) (hx (by omega)))) rfl rfl ?_
 refine Z6 ?_
 refine Cd (fun c0=> ?_) fun c0=> ?_
 ·
  have h0:0<k:=by omega
  have NH:l.getD (k-1) 0=c:=UInt8.toNat_inj.1 (by omega)
  have hstep:eE l c (k-1)=eE l c l.length:=by (rw [←S1];obtain ⟨j,rfl⟩:∃j,k=j+1:=⟨k-1,by omega⟩;simp only [Nat.add_sub_cancel] at NH ⊢;rw [eE,if_pos NH])
  refine Z8 ?_
  refine .p (tM (h:=k-1) FU.out FC.out rfl (.t rfl) (.t rfl) (by omega) (by omega)) rfl ?_
  refine Z3 ?_
  refine .round (k-1) ⟨by omega,hstep⟩ (by omega) rfl ?_
  exact (.get rfl (aa.of_eq (by rw [List.take_take,Nat.min_eq_left (by omega)])) (.keep 20 rfl rfl))
 have hend:eE l c k=l.take k:=by (cases k with|zero=>rfl|succ j=>(rw [eE,if_neg (fun e=>c0 ⟨by omega,by (show ((l.getD (j+1-1) 0).toNat:Int)=(c.toNat:Int);rw [Nat.add_sub_cancel,e])⟩)]))
 refine dH ?_
 refine bJ ?_
 exact aa.of_eq (by rw [←S1,hend])
theorem E4 {c:UInt8}:cQ Tryz.prog 162 [ah 1 aj l,ag .u8 (c.toNat:Int)] (ah 1 aj (oQ l c)):=by
 refine In 21 Tryz.func162 fun _ _ _=> ?_
 refine .fact (t:=0) rfl (fun S w v h=>bH h) fun hl=> ?_
 refine Z7 ?_
 refine .aY (σ:=Nat) (fun _=>[]) (fun k=>[(0,ah 1 aj (l.drop k))]) (fun k=>k≤l.length∧oQ (l.drop k) c=oQ l c) (fun k=>l.length-k) 0 ⟨by omega,rfl⟩ rfl ?_ ?_
 · exact (.get rfl (aa.of_eq (by rw [List.drop_zero])) (.refl _ _))
 rintro k ⟨hk,S1⟩
 have hlen:(l.drop k).length=l.length-k:=by simp
 have hx:k<l.length→(l.drop k)[0]?=some (l.getD k 0):=fun h0=>by (rw [List.getElem?_drop];simp [List.getD_eq_getElem?_getD,h0])
 refine Z8 ?_
 refine .g (cr.gT rfl rfl rfl rfl (fun hg=>aP (j:=0) FU.out FC.out rfl (.when (.t rfl) hg) (.c _) rfl (hx (by omega)))) rfl rfl ?_
 refine Z6 ?_
 refine Cd (fun c0=> ?_) fun c0=> ?_
 ·
  have h0:k<l.length:=by omega
  have NH:l.getD k 0=c:=UInt8.toNat_inj.1 (by omega)
  have hcons:l.drop k=l.getD k 0::l.drop (k+1):=by (rw [List.drop_eq_getElem_cons h0];simp [List.getD_eq_getElem?_getD,h0])
  have hstep:oQ (l.drop (k+1)) c=oQ l c:=by (rw [←S1,hcons];unfold oQ;rw [List.dropWhile_cons,if_pos (by simpa using NH)])
  refine Z5 ?_
  refine .p (yP (l:=1) FU.out FC.out rfl (.t rfl) (.c _) rfl (by omega)) rfl ?_
  refine Z3 ?_
  refine .round (k+1) ⟨by omega,hstep⟩ (by omega) rfl ?_
  exact (.get rfl (aa.of_eq (by rw [List.drop_drop])) (.keep 14 rfl rfl))
 have hend:oQ l c=l.drop k:=by (rw [←S1];by_cases h0:k<l.length;(have hcons:l.drop k=l.getD k 0::l.drop (k+1):=by (rw [List.drop_eq_getElem_cons h0];simp [List.getD_eq_getElem?_getD,h0]));(rw [hcons];unfold oQ;rw [List.dropWhile_cons,if_neg (fun e=>c0 ⟨by omega,by (have e2:=of_decide_eq_true e;show ((l.getD k 0).toNat:Int)=(c.toNat:Int);rw [e2])⟩)]);(rw [List.drop_of_length_le (by omega)];rfl))
 refine jN ?_
 refine Cd (fun c1=> ?_) fun c1=> ?_
 ·
  refine Z7 ?_
  refine bJ ?_
  exact (aD _ _).trans (aa.of_eq (by rw [hend,List.drop_of_length_le (by omega)]))
 refine Z9 ?_
 refine bJ ?_
 exact aa.of_eq (by rw [hend])
theorem E5:cQ Tryz.prog 138 [ah 1 aj l,cM [0]] (ah 1 aj (oQ (eE l 0 l.length) 0)):=by
 refine In 42 Tryz.func138 fun _ _ _=> ?_
 refine jN ?_
 refine Cd (fun c0=> ?_) fun c0=> ?_
 ·
  refine Z7 ?_
  refine bJ ?_
  exact (aD _ _).trans (aa.of_eq (by have h0:l=[]:=List.length_eq_zero_iff.1 (by omega);rw [h0];rfl))
 refine Z6 ?_
 refine .p (DY (.t rfl) (.s [] rfl rfl)) rfl ?_
 refine Z2 ?_
 refine Cd (fun c1=> ?_) fun c1=> ?_
 · exact absurd c1 (by decide)
 refine cJ ?_
 refine .g (cr.gT rfl rfl rfl rfl (fun hg=>jv FU.out (.when (.t rfl) hg) (.c _) rfl rfl)) rfl rfl ?_
 refine Z4 ?_
 refine Cd (fun c2=> ?_) fun c2=> ?_
 ·
  refine Z1 ?_
  refine .bA 6 2 FM.out (by kernel_rfl) (k:= ?_)
  refine Z2 ?_
  refine .p (jv FU.out (.t rfl) (.c _) rfl rfl) ?_
  refine .p (cA (h:=E3 (l:=l) (c:=0))) ?_
  refine Z1 ?_
  refine .p (jv FU.out (.t rfl) (.c _) rfl rfl) ?_
  refine Z1 ?_
  refine .p (cA (h:=E4 (l:=eE l 0 l.length) (c:=0))) rfl ?_
  refine Z5 ?_
  refine bJ ?_
  exact aa.refl _
 exact absurd ⟨rfl,by decide⟩ c2
theorem uY:cQ Tryz.prog 120 [ah 1 aj l] (ak (ej l)):=by
 refine In 7 Tryz.func120 fun _ _ _=> ?_
 refine Z8 ?_
 refine .p (bT (E5) FB.out (.cons (.t rfl) (.cons (.s [0] rfl rfl) .nil))) rfl ?_
 refine Z6 ?_
 refine bJ ?_
 exact aa.prop (by rw [←Ib,←List.length_eq_zero_iff];omega)
theorem E6 {X:od} (aq:KU X p a s) (aT:p.l[i]?=some fr):cH Tryz.prog 140 [aJ X.pb 0,bf (i:Int)] (gu X p::l7 X p::rD X p::cS X.sb s::dS X.Y a) (γ:=kR×kE×Nat) (fun g=>wL p a s i fr g) (fun g=>gu X g.1::l7 X g.1::rD X g.1::cS X.sb g.2.1::dS X.Y a) (fun g=>bf (g.2.2:Int)):=by
 refine In 86 Tryz.func140 fun _ _ _=> ?_
 have tF:i<X.n:=by (rw [←aq.n];exact (List.getElem?_eq_some_iff.1 aT).1)
 have LF:=(List.getElem?_eq_some_iff.1 aT).1
 have YA:(p.l.set i {fr with cY:=false})[i]?=some {fr with cY:=false}:=by simp [LF]
 have hst:=aq.st
 refine dH ?_
 refine .p (bl i FU.out FC.out rfl (.t rfl) (.t rfl) rfl tF) rfl ?_
 refine Z9 ?_
 refine .p (eW (i:=1) (r:=3) FA.out (.t rfl) rfl aT rfl) rfl ?_
 refine Z5 ?_
 refine .g (cr.gF rfl rfl rfl rfl (fun hg=>eW (i:=1) (r:=5) FA.out (.when (.t rfl) hg) rfl aT rfl)) rfl rfl ?_
 refine Z4 ?_
 refine Cd (fun c0=> ?_) fun c0=> ?_
 ·
  have o6:¬(fr.used=true∧fr.cY=true):=fun ⟨h1,h2⟩=>c0.elim (fun h=>h ((pO _).2 h1)) (fun h=>h ((pO _).2 h2))
  refine Z7 ?_
  refine Post.aN rfl ((p,s,0)) (by exact .clean o6) (fun _ _ _ h=>h) (.rt rfl) ?_
  exact .z
 have DS:fr.used=true∧fr.cY=true:=⟨(pO _).1 (Classical.not_not.1 fun h=>c0 (.inl h)),(pO _).1 (Classical.not_not.1 fun h=>c0 (.inr h))⟩
 refine Z6 ?_
 refine .n ((o7 [_] [0,1,3,4,5,6,7,2] (h:=CG aq aT)).same (fun _ _=>aB.perm (Perm.idx [0,1,7,2,3,4,5,6] rfl rfl)) (fun _ _=>aa.refl _)) rfl fun _ _=> ?_
 refine Z7 ?_
 refine .p (cA (h:=uY)) rfl ?_
 refine Z2 ?_
 refine Cd (fun c1=> ?_) fun c1=> ?_
 ·
  refine Z5 ?_
  refine .s (fS (i:=1) (r:=5) {fr with cY:=false} rfl FC.out (.t rfl) .cf rfl aT rfl rfl) ?_
  refine Z8 ?_
  refine .p (lY (i:=1) (r:=1) FA.out FC.out rfl (.t rfl) rfl YA rfl) rfl ?_
  refine .n (o7 [_,_,_,_,_] [0,2,3,1,4,5,6,7] (h:=E1 (p:=p.z5 i {fr with cY:=false}) (s:=s) (k:=fr.k))) rfl fun WJ h41=> ?_
  refine Z3 ?_
  subst h41
  refine Z2 ?_
  refine Post.aN rfl (oe (p.z5 i {fr with cY:=false}) s fr.k) (by exact .zero DS c1) (aB.trans (aB.perm (Perm.idx [0,3,1,2,4,5,6,7] rfl rfl)) (aB.cons _ (aB.wK (H8 (X:=X) (p:=p.z5 i {fr with cY:=false}) (q:=(oe (p.z5 i {fr with cY:=false}) s fr.k).1) (KV _ _ _).symm)))) (.rt rfl) ?_
  exact .z
 refine Z3 ?_
 refine .bA 13 1 FM.out (by kernel_rfl) (k:= ?_)
 refine Z7 ?_
 refine .p (lY (i:=1) (r:=1) FA.out FC.out rfl (.t rfl) rfl aT rfl) ?_
 refine .p (lW (i:=2) Tryz.qU Tryz.underlying130 (fun w=>jS Tryz.Qg w) (.t rfl) (.le (.t rfl) iK) rfl) ?_
 refine mM ?_
 refine Cd (fun c2=> ?_) fun c2=> ?_
 ·
  have hno:an p.bm fr.k=none:=by (cases hq:an p.bm fr.k with|none=>rfl|some v=>(rw [hq] at c2;exact absurd rfl c2))
  refine dH ?_
  refine .n (o7 [_,_,_,_,_,_,_] [3,0,1,2,4,5,6,7] (h:=CC (s:=s) hst)) rfl fun CH NI=> ?_
  refine jN ?_
  refine Cd (fun c3=> ?_) fun c3=> ?_
  ·
   refine Z9 ?_
   refine Post.aN rfl ((p,CH.1,CH.2.2)) (by exact .full DS c1 hno CH NI (by omega)) (aB.dc [1,2,3,0,4,5,6,7] [] rfl rfl) (.rt rfl) ?_
   exact .z
  have hsa:=oZ.alloc hst NI
  have aY0:=hsa.1
  have QG:=aa.refl (bf CH.2.1)
  refine Z2 ?_
  refine .bA 9 1 FM.out (by kernel_rfl) (k:= ?_)
  refine Z7 ?_
  refine .p (lY (i:=2) (r:=1) FA.out FC.out rfl (.t rfl) rfl aT rfl) ?_
  refine Z2 ?_
  refine .s (BL (i:=3) CH.2.1 Tryz.qU Tryz.underlying130 (.t rfl) (.le (.t rfl) iK) (.t rfl) rfl) ?_
  refine Z7 ?_
  refine .s (fS (i:=2) (r:=5) {fr with cY:=false} rfl FC.out (.t rfl) .cf rfl aT rfl rfl) ?_
  refine cJ ?_
  refine .n (cC (rest:=[_,_,_,_,_,_,_]) (uX (ys:=a.get fr.at_ s.size) (by assumption)) FB.out (.cons (.t rfl) (.cons (.le (.t rfl) QG) (.cons (.t rfl) .nil))) (Perm.idx [0,1,2,3,4,5,6,7] rfl rfl)) rfl fun g85 YB=> ?_
  refine Z3 ?_
  subst YB
  refine Z1 ?_
  refine Post.aN rfl (({p with l:=p.l.set i {fr with cY:=false},bm:=fk p.bm fr.k CH.2.1},(jz CH.1 CH.2.1 (a.get fr.at_ s.size)).1,(jz CH.1 CH.2.1 (a.get fr.at_ s.size)).2)) (by exact .new DS c1 hno CH NI (by omega)) (aB.dc [1,2,3,0,4,5,6,7] [] rfl rfl) (.rt rfl) ?_
  exact .z
 obtain ⟨id,hid⟩:∃id,an p.bm fr.k=some id:=Option.isSome_iff_exists.1 (Classical.not_not.1 c2)
 have QG:aa (rA bf (af (.int .i64 0)) (an p.bm fr.k)) (bf id):=aa.of_eq (by rw [hid];rfl)
 refine Z7 ?_
 refine .s (fS (i:=1) (r:=5) {fr with cY:=false} rfl FC.out (.t rfl) .cf rfl aT rfl rfl) ?_
 refine cJ ?_
 refine .n (cC (rest:=[_,_,_,_,_,_,_]) (uX (ys:=a.get fr.at_ s.size) (by assumption)) FB.out (.cons (.t rfl) (.cons (.le (.t rfl) QG) (.cons (.t rfl) .nil))) (Perm.idx [3,0,1,2,4,5,6,7] rfl rfl)) rfl fun g85 YB=> ?_
 refine Z3 ?_
 subst YB
 refine Z1 ?_
 refine Post.aN rfl ((p.z5 i {fr with cY:=false},(jz s id (a.get fr.at_ s.size)).1,(jz s id (a.get fr.at_ s.size)).2)) (by exact .has DS c1 id hid) (aB.dc [1,2,3,0,4,5,6,7] [] rfl rfl) (.rt rfl) ?_
 exact .z
theorem Au {f:Fr}:cQ Tryz.prog 170 [aE (qX f)] (ak (¬BP f.used)):=by
 refine In 6 Tryz.func170 fun _ _ _=> ?_
 refine mM ?_
 refine bJ ?_
 exact .z
theorem E7 {fb cap:Nat} {l:List Fr} {p:Fr→Prop} (aq:l.length=n) (aT:n≤64):cH Tryz.prog 169 [af (br (some (fb,cap)) n),nt Tryz.prog (fun _:Fr=>True) (fun x=>[aE (qX x)]) (fun x=>ak (p x))] [av (some (fb,cap)) 6 qX l] (γ:=Unit) (fun _=>True) (fun _=>[av (some (fb,cap)) 6 qX l]) (fun _=>bf (l6 p l)):=by
 refine In 19 Tryz.func169 fun _ _ _=> ?_
 refine Z9 ?_
 refine .p (tT rfl Tryz.underlying131 (.t rfl)) rfl ?_
 refine Z4 ?_
 refine .aY (σ:=Nat) (fun _=>_) (fun k=>[(8,bf (k:Int))]) (fun k=>k≤l.length∧cD p l k) (fun k=>l.length-k) 0 ⟨by omega,cD.zero p l⟩ rfl ?_ ?_
 · exact (.get rfl (aa.refl _) (.refl _ _))
 rintro k ⟨hk,hnot⟩
 refine Z6 ?_
 refine Cd (fun c0=> ?_) fun c0=> ?_
 ·
  obtain ⟨x,hx⟩:=ai (xs:=l) (k:=k) (by omega)
  refine mM ?_
  refine .p (bl k FU.out FC.out rfl (.t rfl) (.t rfl) rfl (by omega)) rfl ?_
  refine .p (lY (i:=0) (r:=0) FA.out FC.out rfl (.t rfl) rfl hx rfl) rfl ?_
  refine .p (cV x) rfl ?_
  refine Z2 ?_
  refine Cd (fun c1=> ?_) fun c1=> ?_
  ·
   refine dH ?_
   refine bJ ?_
   exact aa.int (oa hx (by assumption) hnot).symm
  refine Z7 ?_
  refine .round (k+1) ⟨by omega,hnot.succ hx (by assumption)⟩ (by omega) rfl ?_
  exact (.get rfl (aa.int (by omega)) (.keep 12 rfl rfl))
 refine dw ?_
 refine bJ ?_
 exact aa.int (lM (hnot.all (by omega))).symm
theorem Av {X:od} (aq:KU X p a s):cH Tryz.prog 139 [aJ X.pb 0] [gu X p,l7 X p] (γ:=kR×Nat) (fun g=>tV X p g.1∧g.2<X.n) (fun g=>[gu X g.1,l7 X g.1]) (fun g=>bf (g.2:Int)):=by
 refine In 67 Tryz.func139 fun _ _ _=> ?_
 have hn:=aq.n
 have hmo:=aq.most
 have hps:=aq.pos
 refine dH ?_
 refine .n ((cC (rest:=[_]) (E7 (n:=X.n) (l:=p.l) (p:=fun f=>¬BP f.used) aq.n aq.most) FB.out (.cons (.t rfl) (.cons (.le (.f _) (sB FB.out (fun (f:Fr) (_:True)=>Au (f:=f)))) .nil)) (Perm.idx [1,0] rfl rfl)).same (fun _ _=>aB.perm (Perm.idx [1,0] rfl rfl)) (fun _ _=>aa.refl _)) rfl fun _ _=> ?_
 refine Z9 ?_
 refine Cd (fun c0=> ?_) fun c0=> ?_
 ·
  refine Z8 ?_
  refine Post.aN rfl ((p,(l6 (fun f=>¬BP f.used) p.l).toNat)) (by exact ⟨tV.refl aq,by (have:=GN (fun f:Fr=>¬BP f.used) p.l;omega)⟩) (fun _ _ _ h=>h) (.rt rfl) ?_
  exact aa.int (by omega)
 refine Z4 ?_
 refine .aY (σ:=kR) (fun p1=>[gu X p1,l7 X p1]) (fun p1=>[]) (fun p1=>tV X p p1) (fun p1=>(p1.l.filter (·.seen)).length) p (tV.refl aq) rfl ?_ ?_
 · exact (.refl _ _)
 rintro p1 hv
 have QH:=hv.hand
 have je:=hv.len
 obtain ⟨x,hx⟩:=ai (xs:=p1.l) (k:=p1.hand) (by omega)
 refine Z2 ?_
 refine .bA 8 3 FM.out (by kernel_rfl) (k:= ?_)
 refine Z9 ?_
 refine .p (bl p1.hand FU.out FC.out rfl (.t rfl) (.t rfl) rfl QH) rfl ?_
 refine Z1 ?_
 refine .p (eW (i:=1) (r:=4) FA.out (.t rfl) rfl hx rfl) rfl ?_
 refine Z2 ?_
 refine Cd (fun c1=> ?_) fun c1=> ?_
 ·
  refine Z4 ?_
  refine .bA 8 3 FM.out (by kernel_rfl) (k:= ?_)
  refine Z9 ?_
  refine .p (bl p1.hand FU.out FC.out rfl (.t rfl) (.t rfl) rfl QH) rfl ?_
  refine Z1 ?_
  refine .s (fS (i:=1) (r:=4) {x with seen:=false} rfl FC.out (.t rfl) .cf rfl hx rfl rfl) ?_
  refine Z2 ?_
  refine .bA 12 3 FM.out (by kernel_rfl) (k:= ?_)
  refine cJ ?_
  refine .p (tT rfl Tryz.underlying131 (.t rfl)) ?_
  refine .p (BJ (.t rfl) (.t rfl) (by omega) (by omega)) ?_
  refine Z6 ?_
  refine .round ({p1 with l:=p1.l.set p1.hand {x with seen:=false},hand:=(p1.hand+1)%X.n}) (hv.step hx hps) (y5 hx ((pO _).1 c1)) rfl ?_
  exact (.keep 35 rfl rfl)
 refine mM ?_
 refine .bA 12 3 FM.out (by kernel_rfl) (k:= ?_)
 refine cJ ?_
 refine .p (tT rfl Tryz.underlying131 (.t rfl)) ?_
 refine .p (BJ (.t rfl) (.t rfl) (by omega) (by omega)) ?_
 refine jN ?_
 refine Post.aN rfl (({p1 with hand:=(p1.hand+1)%X.n},p1.hand)) (by exact ⟨hv.next hps,QH⟩) (fun _ _ _ h=>h) (.rt rfl) ?_
 exact aa.refl _
variable {C:Cont}
theorem E8 {X:od} {D:List cW} (aq:Inv X p a s C D) (aT:p.l[i]?=some fr) (dh:fr.used=false) (fX:an p.qY k=none):cH Tryz.prog 141 [aJ X.pb 0,bf (i:Int),aE [bf k.1,bf k.2]] (qN X p a s) (γ:=Int) (fun _=>True) (fun n=>(qN X {p with l:=p.l.set i ⟨fr.at_,k,true,false,false⟩,qY:=fk p.qY k (i:Int)} (a.put fr.at_ (C k)) {s with ops:=n})) (fun _=>bf 0):=by
 refine In 72 Tryz.func141 fun _ _ _=> ?_
 have tF:i<X.n:=by (rw [←aq.ok.n];exact (List.getElem?_eq_some_iff.1 aT).1)
 have hst:=aq.ok.st
 have hsz:=hst.size
 have hno:=aq.SO fX
 have hlc:=aq.yg k
 have qM:=aq.place aT
 have WE:=aq.ok.room fr (List.mem_of_getElem? aT)
 have har:=aq.ok.ar
 refine Z9 ?_
 refine .n ((o7 [_,_,_,_,_,_,_] [0,4,1,2,3,5,6,7,8] (h:=oy)).same (fun _ _=>aB.perm (Perm.idx [0,2,3,4,1,5,6,7,8] rfl rfl)) (fun _ _=>aa.refl _)) rfl fun _ _=> ?_
 refine .p (KK FU.out FC.out FY.out FZ.out (.t rfl) rfl (by omega)) rfl ?_
 refine Z3 ?_
 refine .cut (σ:=Int) (fun n=>(qN X p a {s with ops:=n})) (fun n=>[(7,ah 1 aj (C k))]) (fun n=>True) ?_ ?_
 ·
  refine Z1 ?_
  refine .bA 10 1 FM.out (by kernel_rfl) (k:= ?_)
  refine Z5 ?_
  refine .p (lW (i:=3) Tryz.qU Tryz.underlying130 (fun w=>jS Tryz.Qg w) (.t rfl) (.le (.t rfl) iK) rfl) ?_
  refine jN ?_
  refine Cd (fun c0=> ?_) fun c0=> ?_
  ·
   obtain ⟨id,hid⟩:∃id,an p.bm k=some id:=Option.isSome_iff_exists.1 c0
   have hlk:an s.m id=some (C k):=by (rcases hno with h|⟨id2,h,h2,_⟩;(rw [hid] at h;cases h.1);(rw [hid] at h;cases h;exact h2))
   obtain ⟨n0,hn0⟩:=Ie aq.nf hlk
   refine dH ?_
   refine .n (cC (rest:=[_,_,_,_,_,_,_,_]) (EZ (s:=s) (id:=id) hst) FB.out (.cons (.t rfl) (.cons (.le (.t rfl) (aa.of_eq (show rA _ _ _=bf id by rw [hid];rfl))) .nil)) (Perm.idx [4,0,1,2,3,5,6,7,8] rfl rfl)) rfl fun RM WL=> ?_
   refine Z7 ?_
   rw [hn0] at WL
   subst WL
   refine Z6 ?_
   refine Cd (fun c1=> ?_) fun c1=> ?_
   · exact absurd rfl c1
   refine Z1 ?_
   refine .own (aB.perm (Perm.idx [1,2,3,4,0,5,6,7,8] rfl rfl)) (bR.meet n0 trivial rfl (.get rfl (aa.refl _) (.keep 26 rfl rfl)))
  have hnb:=Pb c0
  have YC:List.replicate s.size 0=C k:=by (rcases hno with h|⟨id2,h,_⟩;(rw [tY h.2,hlc]);(rw [hnb] at h;cases h))
  refine Z1 ?_
  refine .meet s.ops trivial rfl (.get rfl (aa.of_eq (by rw [YC])) (.keep 12 rfl rfl))
 intro n _
 refine Z1 ?_
 refine .bA 13 1 FM.out (by kernel_rfl) (k:= ?_)
 refine Z9 ?_
 refine .p (bl i FU.out FC.out rfl (.t rfl) (.t rfl) rfl tF) ?_
 refine Z1 ?_
 refine .p (eW (i:=1) (r:=0) FA.out (.t rfl) rfl aT rfl) ?_
 refine Z2 ?_
 refine .n (o7 [_,_,_,_,_] [5,6,7,8,0,1,2,3,4] (h:=xp (at_:=fr.at_) (ys:=C k) har (by omega))) rfl fun QI WM=> ?_
 refine Z3 ?_
 refine .bA 15 2 FM.out (by kernel_rfl) (k:= ?_)
 refine Z3 ?_
 refine .p (eR (i:=4) FA.out (.t rfl) rfl rfl) ?_
 refine Z4 ?_
 refine .p (eR (i:=4) FA.out (.t rfl) rfl rfl) ?_
 refine Z1 ?_
 refine .p (bl i FU.out FC.out rfl (.t rfl) (.t rfl) rfl tF) ?_
 refine Z1 ?_
 refine .p (eW (i:=5) (r:=0) FA.out (.t rfl) rfl aT rfl) ?_
 refine Z1 ?_
 refine .p ((aL FP.out FZ.out (.cons (.t rfl) (.cons (.t rfl) (.cons .ct .nil))) rfl).le (aa.agg (.cons (.refl _) (.cons (.refl _) (.cons (.refl _) (.cons (.refl _) (.cons lZ (.cons lZ .nil)))))))) ?_
 refine Z1 ?_
 refine .p (bl i FU.out FC.out rfl (.t rfl) (.t rfl) rfl tF) rfl ?_
 refine .s (HN (i:=5) (r:=0) ⟨fr.at_,k,true,false,false⟩ rfl FC.out rfl (.t rfl) (.t rfl) rfl rfl aT rfl rfl) ?_
 refine Z3 ?_
 refine .bA 6 1 FM.out (by kernel_rfl) (k:= ?_)
 refine Z3 ?_
 refine .p (eR (i:=4) FA.out (.t rfl) rfl rfl) ?_
 refine Z3 ?_
 refine .s (BL (i:=6) (i:Int) Tryz.qU Tryz.underlying130 (.t rfl) (.le (.t rfl) iK) (.t rfl) rfl) ?_
 refine Z8 ?_
 refine Post.aN rfl (n) (by trivial) (aB.dc [4,5,6,7,8,0,1,2,3] [] rfl rfl) (.rt rfl) ?_
 exact .z
theorem E9 {X:od} {D:List cW} (aq:Inv X p a s C D):cH Tryz.prog 121 [aJ X.pb 0,aE [bf k.1,bf k.2]] (qN X p a s) (γ:=kR×eO×kE×Nat) (fun g=>Pe X p a s C D k g) (fun g=>(qN X g.1 g.2.1 g.2.2.1)) (fun g=>bz [bf (g.2.2.2:Int),bf 0]):=by
 refine In 71 Tryz.func121 fun _ _ _=> ?_
 refine Z8 ?_
 refine .bA 10 1 FM.out (by kernel_rfl) (k:= ?_)
 refine Z5 ?_
 refine .p (lW (i:=2) Tryz.qU Tryz.underlying130 (fun w=>jS Tryz.Qg w) (.t rfl) (.le (.t rfl) iK) rfl) ?_
 refine Z8 ?_
 refine .cut (σ:=kR×eO×kE×Nat) (fun g=>(qN X g.1 g.2.1 g.2.2.1)) (fun g=>[(6,bf (g.2.2.2:Int))]) (fun g=>Pe X p a s C D k g) ?_ ?_
 ·
  refine Z6 ?_
  refine Cd (fun c0=> ?_) fun c0=> ?_
  ·
   have hkn:=Pb c0
   refine Z3 ?_
   refine .n (cE (h:=Av (p:=p) (a:=a) (s:=s) aq.ok)) rfl fun MI RN=> ?_
   refine Z3 ?_
   obtain ⟨⟨l1,P5,aY1,bm1,f1,cl1⟩,i1⟩:=MI
   obtain ⟨hv,hi1⟩:=RN
   have MJ:=hv.rest
   simp only [kR.mk.injEq,true_and] at MJ
   obtain ⟨rfl,rfl,rfl,rfl⟩:=MJ
   have RO:=aq.vic hv
   have je:=RO.ok.n
   obtain ⟨fr,hfr⟩:=getElem?_lt' (xs:=l1) (k:=i1) (by (simp only at hi1 je;omega))
   refine Z5 ?_
   refine .n (o7 [_] [0,1,3,4,5,6,7,8,2] (h:=E6 (p:=⟨l1,P5,p.qY,p.bm,p.fault,p.closed⟩) (a:=a) (s:=s) RO.ok hfr)) rfl fun RP QJ=> ?_
   refine Z3 ?_
   have hsv:=RO.save hfr QJ
   obtain ⟨⟨l2,Mz,aY2,bm2,f2,cl2⟩,s2,e2⟩:=RP
   obtain ⟨HK,YD,hsf,x9,OT⟩:=hsv
   simp only at HK YD x9 OT
   subst HK
   obtain ⟨⟨MK,jB,ha2,hk2,hu2,hd2c⟩,S2⟩:=hsf
   simp only at jB S2
   subst S2
   have Fa:l2[i1]?=some MK:=by rw [jB];exact iL hfr
   have LF:i1<X.n:=hi1
   refine Z6 ?_
   refine Cd (fun c1=> ?_) fun c1=> ?_
   · exact absurd rfl c1
   refine Z2 ?_
   refine .cut (σ:=kR) (fun p3=>(qN X p3 a s2)) (fun p3=>[]) (fun p3=>Inv X p3 a s2 C D∧(∃f:Fr,p3.l[i1]?=some f∧f.used=false)∧an p3.qY k=none) ?_ ?_
   ·
    refine Z7 ?_
    refine .p (bl i1 FU.out FC.out rfl (.t rfl) (.t rfl) rfl LF) rfl ?_
    refine Z1 ?_
    refine .p (eW (i:=1) (r:=3) FA.out (.t rfl) rfl Fa rfl) rfl ?_
    refine Z2 ?_
    refine Cd (fun c2=> ?_) fun c2=> ?_
    ·
     have hu2t:MK.used=true:=(pO _).1 c2
     have aL1:=iL (x:={MK with used:=false}) Fa
     refine Z1 ?_
     refine .bA 12 1 FM.out (by kernel_rfl) (k:= ?_)
     refine Z9 ?_
     refine .p (bl i1 FU.out FC.out rfl (.t rfl) (.t rfl) rfl LF) ?_
     refine Z1 ?_
     refine .p (lY (i:=1) (r:=1) FA.out FC.out rfl (.t rfl) rfl Fa rfl) ?_
     refine Z1 ?_
     refine .s (GI (i:=8) rfl Tryz.qU Tryz.underlying130 (.t rfl) (.le (.t rfl) iK) rfl) ?_
     refine Z8 ?_
     refine .p (bl i1 FU.out FC.out rfl (.t rfl) (.t rfl) rfl LF) rfl ?_
     refine Z1 ?_
     refine .s (fS (i:=1) (r:=3) {MK with used:=false} rfl FC.out (.t rfl) .cf rfl Fa rfl rfl) ?_
     refine Z1 ?_
     refine .own (aB.perm (Perm.idx [0,1,8,2,3,4,5,6,7] rfl rfl)) (bR.meet ⟨l2.set i1 {MK with used:=false},Mz,jc p.qY MK.k,bm2,f2,cl2⟩ ⟨YD.SN Fa hu2t (hd2c hu2t),⟨_,iL Fa,rfl⟩,by (show an (jc p.qY MK.k) k=none;rw [lN _ _ aq.RH];split;rfl;exact hkn)⟩ rfl (.keep 27 rfl rfl))
    have hu2f:MK.used=false:=by (cases hq:MK.used with|false=>rfl|true=>exact absurd ((pO _).2 hq) c2)
    refine Z1 ?_
    refine .own (aB.perm (Perm.idx [0,1,8,2,3,4,5,6,7] rfl rfl)) (bR.meet ⟨l2,Mz,p.qY,bm2,f2,cl2⟩ ⟨YD,⟨MK,Fa,hu2f⟩,hkn⟩ rfl (.keep 8 rfl rfl))
   intro p3 ⟨YE,⟨YF,NJ,hu3⟩,EK⟩
   refine Z5 ?_
   refine .n (cE (h:=E8 (p:=p3) (a:=a) (s:=s2) (C:=C) (D:=D) (fr:=YF) (k:=k) YE NJ hu3 EK)) rfl fun g59 h59=> ?_
   refine Z9 ?_
   refine Cd (fun c3=> ?_) fun c3=> ?_
   · exact absurd rfl c3
   refine Z1 ?_
   refine .meet (⟨p3.l.set i1 ⟨YF.at_,k,true,false,false⟩,p3.hand,fk p3.qY k (i1:Int),p3.bm,p3.fault,p3.closed⟩,a.put YF.at_ (C k),{s2 with ops:=g59},i1) ⟨(YE.load NJ hu3 EK).ops g59,x9,OT,YE.Np NJ k,_,iL NJ,rfl,rfl,fun _=>rfl⟩ rfl (.get rfl (aa.refl _) (.keep 18 rfl rfl))
  obtain ⟨j0,hj0⟩:∃j,an p.qY k=some j:=Option.isSome_iff_exists.1 (Classical.not_not.1 c0)
  obtain ⟨j,fj,rfl,hfj,huj,hkj⟩:=aq.SM k j0 hj0
  refine Z1 ?_
  refine .meet (p,a,s,j) ⟨aq,rfl,rfl,ek.refl _ _,fj,hfj,huj,hkj,fun e=>by (rw [hj0] at e;cases e)⟩ rfl (.get rfl (aa.of_eq (show rA _ _ _=bf (j:Int) by rw [hj0];rfl)) (.keep 2 rfl rfl))
 intro ⟨p5,a5,s5,i5⟩ hW
 obtain ⟨f5,rT,YG,QC,hd5⟩:=hW.fr
 have Pt:=hW.inv
 have NK:i5<X.n:=by (rw [←Pt.ok.n];exact (List.getElem?_eq_some_iff.1 rT).1)
 refine Z7 ?_
 refine .p (bl i5 FU.out FC.out rfl (.t rfl) (.t rfl) rfl NK) rfl ?_
 refine Z1 ?_
 refine .s (fS (i:=1) (r:=4) {f5 with seen:=true} rfl FC.out (.t rfl) .ct rfl rT rfl rfl) ?_
 refine cJ ?_
 refine Post.aZ rfl rfl ((⟨p5.l.set i5 {f5 with seen:=true},p5.hand,p5.qY,p5.bm,p5.fault,p5.closed⟩,a5,s5,i5)) (by exact ⟨Pt.seen rT,hW.size,hW.cap,hW.out,_,iL rT,YG,QC,hd5⟩) (fun _ _ _ h=>h) rfl (.cons (.rt rfl) ?_ (.cons (.rt rfl) ?_ .nil))
 · exact .z
 exact .z
variable {z:Nat} {q:Nat} {T:kR→Prop} {R:eO→HP}
theorem CI {X:od} {m:Nat} {mem page at_:Int} (aq:m+1≤q) (aT:page≤9223372036854775807) (dh:rH X R):cH Tryz.prog 97 [aJ X.pb 0,bf mem,bf page,bf at_,ah 1 aj ys] [iM X z q T C m R] (γ:=Unit) (fun _=>True) (fun _=>[iM X z q (fun _=>True) (pS z C (mem,page) at_ ys) (m+1) R]) (fun _=>bf (l8 z (mem,page) at_ (ys.length:Int):Int)):=by
 refine In 69 Tryz.func97 fun _ _ _=> ?_
 refine .Pd fun p a s hG=> ?_
 obtain ⟨D,hDm,hDk,hI⟩:=hG.ex
 have hsz:=hI.ok.st.size
 have hgz:=hG.sz
 have hRR:=dh
 have hgc:=hG.cp
 have YH:=hG.wrong (mem,page) at_ (ys.length:Int)
 have RO:=hI.less (D':=(mem,page)::D) (fun k hk=>List.mem_cons_of_mem _ hk) (by (simp only [List.length_cons];omega))
 have hD1:((mem,page)::D).length≤m+1:=by (simp only [List.length_cons];omega)
 refine cJ ?_
 refine .n (az FZ.out) rfl fun RL _=> ?_
 refine Z3 ?_
 refine .share (t:=11) (i:=0) rfl rfl ?_
 refine Z8 ?_
 refine .n ((o7 [_,_,_,_,_,_,_,_] [0,4,1,2,3,5,6,7,8,9] (h:=CF (p:=p) (s:=s) (k:=(mem,page)) (at_:=at_) (n:=(ys.length:Int)) (by omega))).same (fun _ _=>aB.perm (Perm.idx [0,2,3,4,1,5,6,7,8,9] rfl rfl)) (fun _ _=>aa.refl _)) rfl fun _ _=> ?_
 refine Z9 ?_
 refine Cd (fun c0=> ?_) fun c0=> ?_
 ·
  have hne:l8 z (mem,page) at_ (ys.length:Int)≠0:=by (rw [←YH];omega)
  have RQ:pS z C (mem,page) at_ ys=C:=by unfold pS;rw [if_neg hne]
  refine Z8 ?_
  refine Post.aN rfl (()) (by trivial) (nF (p:=p) (a0:=a) (a:=a) (s:=s) (r:=[]) hRR hI.ok.ar (ek.refl _ _) ⟨⟨D,Nat.le_succ_of_le hDm,hDk,(by rw [RQ];exact hI)⟩,hG.sz,hG.cp,trivial⟩) (.rt rfl) ?_
  exact aa.int (by rw [←YH])
 have Bn:l8 z (mem,page) at_ (ys.length:Int)=0:=by (rw [←YH];omega)
 obtain ⟨Bk,hk2,tK,hn0,hsum⟩:=Ih Bn
 have S3:∀k∈(mem,page)::D,Pc k:=fun k hk=>(List.mem_cons.1 hk).elim (fun e=>e▸⟨Bk,hk2,aT⟩) (hDk k)
 have RQ:pS z C (mem,page) at_ ys=rG C (mem,page) (J6 (C (mem,page)) at_.toNat ys):=by unfold pS;rw [if_pos Bn]
 refine Z7 ?_
 refine .n ((o7 [_,_,_,_,_,_,_] [0,2,3,1,4,5,6,7,8,9] (h:=CE (p:=p) (k:=(mem,page)))).same (fun _ _=>aB.perm (Perm.idx [0,3,1,2,4,5,6,7,8,9] rfl rfl)) (fun _ _=>aa.refl _)) rfl fun _ _=> ?_
 refine Z3 ?_
 refine .g (cr.gT rfl rfl rfl rfl (fun hg=>bT (uY) FB.out (.cons (.when (.t rfl) hg) .nil))) rfl rfl ?_
 refine Z3 ?_
 refine Cd (fun c1=> ?_) fun c1=> ?_
 ·
  have YC:=hI.unknown c1.1
  have hlc:=hI.yg (mem,page)
  have hsame:rG C (mem,page) (J6 (C (mem,page)) at_.toNat ys)=C:=Ii (KX YC c1.2 (by omega))
  refine Z7 ?_
  refine Post.aN rfl (()) (by trivial) (nF (p:=p) (a0:=a) (a:=a) (s:=s) (r:=[]) hRR hI.ok.ar (ek.refl _ _) ⟨⟨(mem,page)::D,hD1,S3,(by rw [RQ,hsame];exact RO)⟩,hG.sz,hG.cp,trivial⟩) (.rt rfl) ?_
  exact aa.int (by rw [Bn];rfl)
 refine Z6 ?_
 refine .n (cE (h:=E9 (p:=p) (a:=a) (s:=s) (k:=(mem,page)) RO)) rfl fun ME NL=> ?_
 refine Z7 ?_
 obtain ⟨p5,a5,s5,i5⟩:=ME
 have Pt:=NL.inv
 obtain ⟨f5,rT,YG,QC,hd5⟩:=NL.fr
 simp only at rT Pt
 have NK:i5<X.n:=by (rw [←Pt.ok.n];exact (List.getElem?_eq_some_iff.1 rT).1)
 have S4:=Pt.ok.ar
 have hz5:s5.size=z:=NL.size.trans hG.sz
 have hc5:s5.cap=(q:Int):=NL.cap.trans hG.cp
 have aY3:=Pt.ok.room f5 (List.mem_of_getElem? rT)
 have hm5:=S4.most
 have S5:=iL (x:={f5 with cY:=true}) rT
 have hI6:=Pt.write rT YG (o:=at_.toNat) (ys:=ys) (by omega) (by rw [QC];exact List.mem_cons_self)
 have KH:rG C f5.k (J6 (C f5.k) at_.toNat ys)=rG C (mem,page) (J6 (C (mem,page)) at_.toNat ys):=by rw [QC]
 rw [KH] at hI6
 refine Z7 ?_
 refine Cd (fun c2=> ?_) fun c2=> ?_
 · exact absurd rfl c2
 refine Z9 ?_
 refine .p (bl i5 FU.out FC.out rfl (.t rfl) (.t rfl) rfl NK) rfl ?_
 refine Z1 ?_
 refine .s (fS (i:=1) (r:=5) {f5 with cY:=true} rfl FC.out (.t rfl) .ct rfl rT rfl rfl) ?_
 refine Z3 ?_
 refine .bA 15 2 FM.out (by kernel_rfl) (k:= ?_)
 refine Z9 ?_
 refine .p (bl i5 FU.out FC.out rfl (.t rfl) (.t rfl) rfl NK) ?_
 refine Z1 ?_
 refine .p (bg.le (eW (i:=1) (r:=0) FA.out (.t rfl) rfl S5 rfl) (aa.refl (bf (f5.at_:Int)))) ?_
 refine Z1 ?_
 refine .p ((eX (.t rfl) (.t rfl) de).le (aa.int (show _=((f5.at_+at_.toNat:Nat):Int) by omega))) ?_
 refine Z2 ?_
 refine .n (o7 [_,_,_,_,_,_] [5,6,7,8,0,1,2,3,4,9] (h:=xp (X:=X.Y) (a:=a5) (at_:=f5.at_+at_.toNat) (ys:=ys) S4 (by omega))) rfl fun g68 h68=> ?_
 refine Z4 ?_
 refine Post.aN rfl (()) (by trivial) (aB.trans (aB.perm (Perm.idx [4,5,6,7,8,0,1,2,3,9] rfl rfl)) (nF (p:={p5 with l:=p5.l.set i5 {f5 with cY:=true}}) (a0:=a) (a:=a5.put (f5.at_+at_.toNat) ys) (s:=s5) (r:=[]) hRR hI.ok.ar (NL.out.trans (ek.put (by omega) (by omega) (by omega))) ⟨⟨(mem,page)::D,hD1,S3,(by rw [RQ];exact hI6)⟩,hz5,hc5,trivial⟩)) (.rt rfl) ?_
 exact aa.int (by rw [Bn];rfl)
variable {o:Nat}
theorem IS {a:Nat}:cQ Tryz.prog 94 [ag .u64 (a:Int),ag .u64 (o:Int)] (bz [ag .u64 (IntKind.u64.wrap ((a:Int)+(o:Int))),ak (IntKind.u64.wrap ((a:Int)+(o:Int))≥(a:Int))]):=by
 refine In 14 Tryz.func94 fun _ _ _=> ?_
 refine cJ ?_
 refine .p (Kg (.t rfl) (.t rfl)) rfl ?_
 refine iw ?_
 refine jr ?_ ?_
 · exact .z
 exact .z
variable {mm:J8}
theorem Aw {a:Nat} (aq:mm.pages≤65536) (aT:a<18446744073709551616) (dh:n<18446744073709551616):cH Tryz.prog 95 [aJ mb 0,ag .u64 (a:Int),ag .u64 (n:Int)] [eY mb pb mm] (γ:=Unit) (fun _=>True) (fun _=>[eY mb pb mm]) (fun _=>ak (mQ mm.pages a n)):=by
 refine In 24 Tryz.func95 fun _ _ _=> ?_
 refine Z32 ?_
 refine bJ ?_
 exact aa.prop (by unfold mQ;omega)
theorem CJ {a:Nat} {n:Int} (aq:Qr mm) (aT:a<18446744073709551616) (dh:o<18446744073709551616):cH Tryz.prog 51 [aJ mb 0,ag .u64 (a:Int),ag .u64 (o:Int),bf n] [eY mb pb mm] (γ:=Unit) (fun _=>True) (fun _=>[eY mb pb mm]) (fun _=>bz [ag .u64 ((dg mm.pages a o n).1:Int),bf ((dg mm.pages a o n).2.1:Int),bf ((dg mm.pages a o n).2.2:Int)]):=by
 refine In 39 Tryz.func51 fun _ _ _=> ?_
 have MZ:=aq.pages;have M0:=aq.most
 refine dw ?_
 refine .p (cA (h:=IS)) rfl ?_
 refine dH ?_
 refine .p (cm FU.out (.t rfl)) rfl ?_
 refine Z3 ?_
 refine Cd (fun c0=> ?_) fun c0=> ?_
 · exact c0.elim
 refine Z7 ?_
 refine Cd (fun c1=> ?_) fun c1=> ?_
 ·
  refine cJ ?_
  refine O0 ?_ ?_ ?_
  · exact aa.int (by unfold dg;rw [if_pos c1];rfl)
  · exact aa.int (by unfold dg;rw [if_pos c1];rfl)
  exact aa.int (by unfold dg;rw [if_pos c1];rfl)
 refine Z7 ?_
 refine Cd (fun c2=> ?_) fun c2=> ?_
 ·
  refine cJ ?_
  refine O0 ?_ ?_ ?_
  · exact aa.int (by unfold dg;rw [if_neg c1,if_pos c2];rfl)
  · exact aa.int (by unfold dg;rw [if_neg c1,if_pos c2];rfl)
  exact aa.int (by unfold dg;rw [if_neg c1,if_pos c2];rfl)
 refine Z9 ?_
 refine .Uu rfl rfl rfl rfl (fun hg=>((cC (rest:=[]) (Aw (mb:=mb) (pb:=pb) (mm:=mm) (a:=a+o) (n:=n.toNat) (by omega) (by rcases qA a o aT dh with ⟨_,e⟩|⟨_,e⟩<;>omega) (by omega)) FB.out (.cons (.when (.t rfl) hg) (.cons (.le (.when (.t rfl) hg) (aa.int (show _=((a+o:Nat):Int) by rcases qA a o aT dh with ⟨_,e⟩|⟨_,e⟩<;>omega))) (.cons (.le (.when (.t rfl) hg) (aa.int (show _=((n.toNat:Nat):Int) by omega))) .nil))) (Perm.idx [0] rfl rfl)).same (fun _ _=>aB.refl _) (fun _ _=>aa.refl _)).same (fun _ _=>aB.refl _) (fun _ _=>aa.refl _)) rfl rfl ?_
 refine Z4 ?_
 refine Cd (fun c3=> ?_) fun c3=> ?_
 ·
  have M1:mQ mm.pages (a+o) n.toNat↔mm.pages*65536<a+o+n.toNat:=Iff.rfl
  have hsc:=qA a o aT dh
  have ML:dg mm.pages a o n=(0,4,0):=by (unfold dg;rw [if_neg c1,if_neg c2,if_pos (M1.2 (by rcases hsc with ⟨_,e⟩|⟨_,e⟩;(rcases c3 with c3|c3;omega;exact M1.1 c3);omega))])
  refine cJ ?_
  refine O0 ?_ ?_ ?_
  · exact aa.int (by rw [ML];rfl)
  · exact aa.int (by rw [ML];rfl)
  exact aa.int (by rw [ML];rfl)
 have M1:mQ mm.pages (a+o) n.toNat↔mm.pages*65536<a+o+n.toNat:=Iff.rfl
 have hsc:=qA a o aT dh
 have hfit:a+o<18446744073709551616:=by (rcases hsc with ⟨e,_⟩|⟨_,e⟩;exact e;exact absurd (.inl (by omega)) c3)
 have ML:dg mm.pages a o n=(a+o,0,0):=by (unfold dg;rw [if_neg c1,if_neg c2,if_neg (fun e=>c3 (.inr e))])
 refine dH ?_
 refine O0 ?_ ?_ ?_
 · exact aa.int (by rw [ML];omega)
 · exact aa.int (by rw [ML];rfl)
 exact aa.int (by rw [ML];rfl)
theorem CK {X:od} {m:Nat} (aq:rH X R):cH Tryz.prog 117 [aJ X.pb 0] [iM X z q T C m R] (γ:=Unit) (fun _=>True) (fun _=>[iM X z q T C m R]) (fun _=>bf (z:Int)):=by
 refine In 10 Tryz.func117 fun _ _ _=> ?_
 refine .Pd fun p a s hG=> ?_
 obtain ⟨D,hDm,hDk,hI⟩:=hG.ex
 have hsz:=hI.ok.st.size
 have hgz:=hG.sz
 have hRR:=aq
 refine Z9 ?_
 refine .p (cm FU.out (.t rfl)) rfl ?_
 refine Z2 ?_
 refine Cd (fun c0=> ?_) fun c0=> ?_
 · exact c0.elim
 refine Z8 ?_
 refine .n ((o7 [_,_,_,_,_,_,_,_,_] [4,0,1,2,3,5,6,7,8,9] (h:=rS)).same (fun _ _=>aB.perm (Perm.idx [1,2,3,4,0,5,6,7,8,9] rfl rfl)) (fun _ _=>aa.refl _)) rfl fun _ _=> ?_
 refine Z4 ?_
 refine Post.aN rfl (()) (by trivial) (nF (p:=p) (a0:=a) (a:=a) (s:=s) (r:=[]) hRR hI.ok.ar (ek.refl _ _) ⟨⟨D,hDm,hDk,hI⟩,hG.sz,hG.cp,hG.Yu⟩) (.rt rfl) ?_
 exact aa.int (by rw [hG.sz])
theorem CL {X:od} {m:Nat} {a:Nat} (aq:rH X R) (aT:z≤1024):cH Tryz.prog 96 [aJ mb 0,ag .u64 (a:Int),bf (n:Int)] [eY mb X.pb mm,iM X z q T C m R] (γ:=Unit) (fun _=>True) (fun _=>[eY mb X.pb mm,iM X z q T C m R]) (fun _=>Cb 118 [cg [bf (n:Int)],cg [ag .u64 (a:Int)],cg [ag .u64 (z:Int)]]):=by
 refine In 15 Tryz.func96 fun _ _ _=> ?_
 refine jN ?_
 refine .n ((o7 [_] [1,0] (h:=CK (by assumption))).same (fun _ _=>aB.perm (Perm.idx [1,0] rfl rfl)) (fun _ _=>aa.refl _)) rfl fun _ _=> ?_
 refine Z1 ?_
 refine .n (az FZ.out) rfl fun b7 _=> ?_
 refine Z3 ?_
 refine .share (t:=7) (i:=0) rfl rfl ?_
 refine Z2 ?_
 refine .p (wW (.cons (.t rfl) (.cons (.t rfl) (.cons (.t rfl) .nil)))) rfl ?_
 refine Z4 ?_
 refine bJ ?_
 exact .z
theorem Ax {l a N:Nat} {J:Nat→List HP} (aq:0<z) (aT:z≤1024) (dh:a+n≤4611686018427387904) (fX:eA z a n N=n) (ox:∀j,j<N→eA z a n j<n) (yp:∀j,j<N→K6 Tryz.prog l [aE [bf (((a+eA z a n j)/z:Nat):Int),bf (((a+eA z a n j)%z:Nat):Int),bf (js z a n (eA z a n j):Int),bf (eA z a n j:Int)]] (J j) (J (j+1))):cH Tryz.prog 118 [yV l,cg [bf (n:Int)],cg [ag .u64 (a:Int)],cg [ag .u64 (z:Int)]] (J 0) (γ:=Unit) (fun _=>True) (fun _=>J N) (fun _=>bz []):=by
 refine In 42 Tryz.func118 fun _ _ _=> ?_
 refine Z6 ?_
 refine .aY (σ:=Nat) (fun j=>J j) (fun j=>[(5,bf (eA z a n j:Int))]) (fun j=>j≤N) (fun j=>N-j) 0 (Nat.zero_le _) rfl ?_ ?_
 · exact (.get rfl (aa.refl _) (.refl _ _))
 rintro j hj
 have Ky:=og z a n j
 have Us:=Nat.mod_lt (a+eA z a n j) aq
 have hdq:=Nat.div_le_self (a+eA z a n j) z
 have MA:(0:Int)≤(((a+eA z a n j)/z:Nat):Int):=Int.natCast_nonneg _
 have hst:eA z a n j+js z a n (eA z a n j)≤n:=og z a n (j+1)
 refine Z8 ?_
 refine Cd (fun c0=> ?_) fun c0=> ?_
 ·
  have hjN:j<N:=by (rcases Nat.lt_or_ge j N with h|h;exact h;(have e:j=N:=by omega);rw [e,fX] at c0;omega)
  refine Z8 ?_
  refine .p ((eX (.t rfl) (.t rfl) de).le (aa.int (show _=(((a+eA z a n j):Nat):Int) by omega))) rfl ?_
  refine Z4 ?_
  refine .bA 9 2 FM.out (by kernel_rfl) (k:= ?_)
  refine Z6 ?_
  refine .p ((BJ (.t rfl) (.t rfl) (by omega) (by omega)).le (aa.int (show _=(((a+eA z a n j)%z:Nat):Int) from (Int.natCast_emod _ _).symm))) ?_
  refine Z3 ?_
  refine .p ((Bx (.t rfl) (.t rfl)).le (aa.int (show _=((js z a n (eA z a n j):Nat):Int) by (unfold js;omega)))) rfl ?_
  refine Z5 ?_
  refine .bA 12 2 FM.out (by kernel_rfl) (k:= ?_)
  refine Z3 ?_
  refine .p ((KF (.t rfl) (.t rfl) (by omega) (by omega) (by rw [←Int.natCast_ediv];exact pz (by omega) (by omega))).le (aa.int (show _=(((a+eA z a n j)/z:Nat):Int) from (Int.natCast_ediv _ _).symm))) ?_
  refine Z3 ?_
  refine .p ((BJ (.t rfl) (.t rfl) (by omega) (by omega)).le (aa.int (show _=(((a+eA z a n j)%z:Nat):Int) from (Int.natCast_emod _ _).symm))) ?_
  refine Z5 ?_
  refine .yld (yp j hjN) (.t rfl) (.cons (.t rfl) .nil) (List.Perm.of_eq (List.append_nil _).symm) rfl ?_
  refine Z3 ?_
  refine Cd (fun c1=> ?_) fun c1=> ?_
  · exact (c1 trivial).elim
  refine Z9 ?_
  refine .round (j+1) hjN (by omega) (List.append_nil _) ?_
  exact (.get rfl (aa.int (by (show (eA z a n j:Int)+(js z a n (eA z a n j):Int)=((eA z a n j+js z a n (eA z a n j):Nat):Int);omega))) ((.keep 38 rfl rfl)))
 have hjN:j=N:=by (rcases Nat.lt_or_ge j N with h|h;(have h9:=ox j h;omega);omega)
 subst hjN
 refine Z4 ?_
 refine Post.gV rfl (()) (by trivial) (fun _ _ _ h=>h) rfl
theorem CM {X:od} {m:Nat} {a:Nat} (aq:rH X R) (aT:0<z) (dh:z≤1024) (fX:0≤mm.num) (ox:a+ys.length≤4611686018427387904) (yp:m+(ys.length/z+2)≤q):cH Tryz.prog 52 [aJ mb 0,ag .u64 (a:Int),ah 1 aj ys] [eY mb X.pb mm,iM X z q T C m R] (γ:=Unit) (fun _=>True) (fun _=>[eY mb X.pb mm,iM X z q (fun _=>True) (y8 z C mm.num a ys) (m+(ys.length/z+2)) R]) (fun _=>bf 0):=by
 refine cH.Qo 40 Tryz.func52 rfl rfl rfl fun w0 S0 M=> ?_
 have hz:=aT
 obtain ⟨N,hN,hlt⟩:=Ik (at_:=a) (n:=ys.length) aT
 have aY4:=Il aT hlt
 refine Z4 ?_
 refine .n (az FZ.out) rfl fun b6 _=> ?_
 refine Z9 ?_
 refine .n ((o7 [_] [1,2,0] (h:=CL (mb:=mb) (mm:=mm) (X:=X) (z:=z) (q:=q) (m:=m) (T:=T) (C:=C) (R:=R) (a:=a) (n:=ys.length) aq dh)).same (fun _ _=>aB.perm (Perm.idx [2,0,1] rfl rfl)) (fun _ _=>aa.refl _)) rfl fun _ _=> ?_
 refine Z3 ?_
 refine .Yv 2 rfl fun hlC=> ?_
 refine .own (aB.cons _ (aB.cons _ (aB.trans (Aa (T':=fun _=>True) fun _ _=>trivial) (aB.wK (show iM X z q (fun _=>True) C m R=iM X z q (fun _=>True) (y8 z C mm.num a (ys.take (eA z a ys.length 0))) (m+0) R by rw [show eA z a ys.length 0=0 from rfl,List.take_zero,Nr hlC];rfl))))) ?_
 refine .Qp N (fun j=>[aF b6 [bf 0],eY mb X.pb mm,iM X z q (fun _=>True) (y8 z C mm.num a (ys.take (eA z a ys.length j))) (m+j) R]) (fun j=>[aE [bf (((a+eA z a ys.length j)/z:Nat):Int),bf (((a+eA z a ys.length j)%z:Nat):Int),bf (js z a ys.length (eA z a ys.length j):Int),bf (eA z a ys.length j:Int)]]) rfl rfl rfl FB.out (.t rfl) rfl (by decide) (fun _ _=>rfl) (fun l D r hY=>Ax (z:=z) (a:=a) (n:=ys.length) (N:=N) (J:=fun j=>lf l D .ready r _::[aF b6 [bf 0],eY mb X.pb mm,iM X z q (fun _=>True) (y8 z C mm.num a (ys.take (eA z a ys.length j))) (m+j) R]) aT dh ox hN hlt hY) (fun l D fn tmps j hj w0 S0 M=> ?_) (fun D=> ?_)
 ·
  have Ky:=og z a ys.length j
  have Us:=Nat.mod_lt (a+eA z a ys.length j) hz
  have hdq:=Nat.div_le_self (a+eA z a ys.length j) z
  have MA:(0:Int)≤(((a+eA z a ys.length j)/z:Nat):Int):=Int.natCast_nonneg _
  have hst:eA z a ys.length j+js z a ys.length (eA z a ys.length j)≤ys.length:=og z a ys.length (j+1)
  have Qk:((ys.drop (eA z a ys.length j)).take (js z a ys.length (eA z a ys.length j))).length=js z a ys.length (eA z a ys.length j):=by (simp;omega)
  have hfit:=K5 (at_:=a) (n:=ys.length) (d:=eA z a ys.length j) hz
  have RQ:l8 z (mm.num,(((a+eA z a ys.length j)/z:Nat):Int)) (((a+eA z a ys.length j)%z:Nat):Int) (((ys.drop (eA z a ys.length j)).take (js z a ys.length (eA z a ys.length j))).length:Int)=0:=by (rw [Qk];exact uR fX hz hfit)
  refine Z1 ?_
  refine .n (az FZ.out) rfl fun b7 _=> ?_
  refine Z2 ?_
  refine .share (t:=7) (i:=0) rfl rfl (bR.begin ?_)
  refine Z2 ?_
  refine .bA 21 2 FM.out (by kernel_rfl) (k:= ?_)
  refine J4 ?_
  refine .p (HE (l:=eA z a ys.length j) (h:=eA z a ys.length j+js z a ys.length (eA z a ys.length j)) FU.out FC.out rfl (.t rfl) (.t rfl) (.t rfl) rfl (by omega) (by omega) (by omega)) ?_
  refine Z1 ?_
  refine .n (cC (rest:=[_,_,_]) (CI (X:=X) (z:=z) (q:=q) (m:=m+j) (T:=fun _=>True) (C:=y8 z C mm.num a (ys.take (eA z a ys.length j))) (R:=R) (mem:=mm.num) (page:=(((a+eA z a ys.length j)/z:Nat):Int)) (at_:=(((a+eA z a ys.length j)%z:Nat):Int)) (ys:=(ys.drop (eA z a ys.length j)).take (js z a ys.length (eA z a ys.length j))) (by omega) (by omega) aq) FB.out (.cons (.t rfl) (.cons (.t rfl) (.cons (.t rfl) (.cons (.t rfl) (.cons (.le (.t rfl) (aa.of_eq (by rw [List.drop_take,Nat.add_sub_cancel_left]))) .nil))))) (Perm.idx [3,0,1,2] rfl rfl)) rfl fun g36 WN=> ?_
  refine Z9 ?_
  refine Cd (fun c0=> ?_) fun c0=> ?_
  · exact (c0 (congrArg Int.ofNat RQ)).elim
  refine Z2 ?_
  refine .own (aB.perm (Perm.idx [1,2,3,0] rfl rfl)) (bR.own (aB.cons _ (aB.cons _ (aB.cons _ (aB.wK (show iM X z q (fun _=>True) (pS z (y8 z C mm.num a (ys.take (eA z a ys.length j))) (mm.num,(((a+eA z a ys.length j)/z:Nat):Int)) (((a+eA z a ys.length j)%z:Nat):Int) ((ys.drop (eA z a ys.length j)).take (js z a ys.length (eA z a ys.length j)))) (m+j+1) R=iM X z q (fun _=>True) (y8 z C mm.num a (ys.take (eA z a ys.length (j+1)))) (m+(j+1)) R by rw [Eu fX hz hlC hfit hst];rfl))))) (bR.endRound))
 refine Z8 ?_
 refine wX.aN rfl (()) (by trivial) (aB.trans (aB.dc [1,2] [0] rfl rfl) (aB.cons _ (aB.trans (sN (show m+N≤m+(ys.length/z+2) by omega)) (aB.wK (by rw [hN,List.take_length]))))) (.rc (i:=0) FA.out rfl rfl rfl) ?_
 exact aa.refl _
theorem CN (aq:ys.length≤4194304):cQ Tryz.prog 53 [ah 1 aj ys] (ah 1 aj ys):=by
 refine In 8 Tryz.func53 fun _ _ _=> ?_
 refine .Na (t:=0) rfl fun p PX=> ?_
 refine Z9 ?_
 refine .p (HR FU.out (.t rfl) (.c _)) rfl ?_
 refine Z2 ?_
 refine Cd (fun c0=> ?_) fun c0=> ?_
 ·
  refine Z7 ?_
  refine bJ ?_
  exact (PX c0)▸aD _ _
 refine Z4 ?_
 refine .p (lB FU.out FC.out rfl FZ.out rfl) rfl ?_
 refine Z1 ?_
 refine .p (tO FU.out FU.out FC.out rfl FZ.out rfl FY.out (.t rfl) (.le (.t rfl) Ed) (by omega)) rfl ?_
 refine Z4 ?_
 refine bJ ?_
 exact aa.refl _
theorem CO {X:od} {m:Nat} {a:Nat} (aq:rH X R) (aT:0<z) (dh:z≤1024) (fX:Qr mm) (ox:a<18446744073709551616) (yp:o<18446744073709551616) (NM:m+(ys.length/z+2)≤q) (RR:ys.length≤4194304):cH Tryz.prog 25 [aJ mb 0,ag .u64 (a:Int),ag .u64 (o:Int),ah 1 aj ys] [eY mb X.pb mm,iM X z q T C m R] (γ:=Unit) (fun _=>True) (fun _=>[eY mb X.pb mm,iM X z q (fun _=>True) (if (dg mm.pages a o (ys.length:Int)).2=(0,0) then y8 z C mm.num (a+o) ys else C) (m+(ys.length/z+2)) R]) (fun _=>bz [bf ((dg mm.pages a o (ys.length:Int)).2.1:Int),bf ((dg mm.pages a o (ys.length:Int)).2.2:Int)]):=by
 refine In 36 Tryz.func25 fun _ _ _=> ?_
 have YI:=fX.num;have hmo:=fX.most;have Ur:=fX.pages
 refine jN ?_
 refine .n ((cE (h:=CJ (mb:=mb) (pb:=X.pb) (mm:=mm) (a:=a) (o:=o) (n:=(ys.length:Int)) fX ox yp)).same (fun _ _=>aB.refl _) (fun _ _=>aa.refl _)) rfl fun _ _=> ?_
 refine J4 ?_
 refine Cd (fun c0=> ?_) fun c0=> ?_
 ·
  have hne:¬(dg mm.pages a o (ys.length:Int)).2=(0,0):=fun e=>by (have e1:=congrArg Prod.fst e;have e2:=congrArg Prod.snd e;simp only at e1 e2;rcases c0 with h|h;exact h (by rw [e1];rfl);exact h (by rw [e2];rfl))
  refine cJ ?_
  refine Post.aZ rfl rfl (()) (by trivial) (aB.cons _ (aB.trans (Aa (T':=fun _=>True) fun _ _=>trivial) (aB.trans (sN (Nat.le_add_right _ _)) (aB.wK (by rw [if_neg hne]))))) rfl (.cons (.rt rfl) ?_ (.cons (.rt rfl) ?_ .nil))
  · exact aa.refl _
  exact aa.refl _
 have Bn:(dg mm.pages a o (ys.length:Int)).2=(0,0):=Prod.ext (by (have h9:=mt Or.inl c0;simp only [Classical.not_not] at h9;show (dg mm.pages a o (ys.length:Int)).2.1=0;omega)) (by (have h9:=mt Or.inr c0;simp only [Classical.not_not] at h9;show (dg mm.pages a o (ys.length:Int)).2.2=0;omega))
 obtain ⟨hn0,S6,hin,hw1⟩:=Io (.inr Bn)
 refine Z7 ?_
 refine .p (cA (h:=CN (by omega))) rfl ?_
 refine .n (cC (rest:=[]) (CM (mb:=mb) (mm:=mm) (X:=X) (z:=z) (q:=q) (m:=m) (T:=T) (C:=C) (R:=R) (a:=a+o) (ys:=ys) aq aT dh YI (by omega) NM) FB.out (.cons (.t rfl) (.cons (.le (.t rfl) (aa.int (by rw [hw1]))) (.cons (.t rfl) .nil))) (Perm.idx [0,1] rfl rfl)) rfl fun g35 h35=> ?_
 refine Z5 ?_
 refine Post.aZ rfl rfl (()) (by trivial) (aB.cons _ (aB.wK (by rw [if_pos Bn]))) rfl (.cons (.rt rfl) ?_ (.cons (.rt rfl) ?_ .nil))
 · exact aa.int (by rw [Bn];rfl)
 exact aa.int (by rw [Bn];rfl)
theorem IT {pages most:Nat} {wide:Prop} (aq:0≤num) (aT:pages≤most) (dh:most≤65536):cH Tryz.prog 79 [aJ pb 0,bf num,bf (pages:Int),bf (most:Int),ak wide] [] (γ:=Nat) (fun _=>True) (fun mb=>[eY mb pb ⟨num,pages,most,most,wide⟩]) (fun mb=>bz [aJ mb 0,bf 0]):=by
 refine In 39 Tryz.func79 fun _ _ _=> ?_
 refine dw ?_
 refine .p (cm FU.out (.t rfl)) rfl ?_
 refine Z3 ?_
 refine Cd (fun c0=> ?_) fun c0=> ?_
 · exact c0.elim
 refine J4 ?_
 refine Cd (fun c1=> ?_) fun c1=> ?_
 · exfalso;omega
 refine dH ?_
 refine .n (bV (.t rfl)) rfl fun WO _=> ?_
 refine Z5 ?_
 refine Post.aZ rfl rfl (WO) (by trivial) (fun _ _ _ h=>h) rfl (.cons (.rt rfl) ?_ (.cons (.rt rfl) ?_ .nil))
 · exact .z
 exact .z
theorem CP (aq:eg X a) (aT:o4 m) (dh:a.height+(rO m+DT m)≤X.size):cH Tryz.prog 36 [aJ sb 0] (uU sb X pb m num 0 0 mv::dS X a) (γ:=Unit) (fun _=>True) (fun _=>uU sb X pb m num (a.height:Int) ((a.height+rO m:Nat):Int) mv::dS X (p4 a m)) (fun _=>ag .i64 0):=by
 refine In 59 Tryz.func36 fun _ _ _=> ?_
 have hm1:rO m=aR (8*m.ay.length):=rfl
 have hm2:DT m=aR (4*gw m):=rfl
 have DV:=aT.r1;have Bo:=aT.r2;have hkh:=aq.hi;have hkm:=aq.most;have DO:=aq.live
 have RK:=aT.gl
 have htn:(max m.Table 0)=((gw m:Nat):Int):=by unfold gw;omega
 refine dH ?_
 refine .bG [(0,0),(1,0),(2,0),(3,0),(4,1),(5,0),(6,0),(7,0),(8,1),(9,0),(10,0),(11,0),(12,0),(13,0),(14,2),(15,0),(16,0),(17,0),(18,0),(19,0),(20,3)] 21 1 FM.out (by kernel_rfl) (k:= ?_)
 refine jN ?_
 refine .p rfl (fun _=>(nT (.c _) (.t rfl) de).le (aa.int (show _=((8*m.ay.length:Nat):Int) by omega))) ?_
 refine .e rfl (o7 [_] [1,2,3,4,0] (h:=mh (X:=X) (a:=a) (n:=8*m.ay.length) aq)) fun zm MG=> ?_
 refine Z5 ?_
 refine .s rfl (gQ (i:=4) FC.out (.t rfl) (.t rfl) rfl rfl) ?_
 refine .fin ?_
 refine Z3 ?_
 rw [w7 aq (by omega) (by omega)] at MG
 subst MG
 refine Z6 ?_
 refine Cd (fun c0=> ?_) fun c0=> ?_
 · exact absurd rfl c0
 refine Z4 ?_
 refine .bG [(0,0),(1,0),(2,0),(3,0),(4,1),(5,0),(6,0),(7,0),(8,1),(9,0),(10,0),(11,0),(12,0),(13,0),(14,2),(15,0),(16,0),(17,0),(18,0),(19,0),(20,3)] 21 1 FM.out (by kernel_rfl) (k:= ?_)
 refine Z4 ?_
 refine .o rfl (eR (i:=4) FA.out (.t rfl) rfl rfl) ?_
 refine Z3 ?_
 refine .o rfl (eR (i:=4) FA.out (.t rfl) rfl rfl) ?_
 refine Z4 ?_
 refine .p rfl (fun _=>(nT (.c _) (.t rfl) (by rw [htn];exact bN (by omega) (by omega))).le (aa.int (show _=((4*gw m:Nat):Int) by rw [htn];omega))) ?_
 refine .e rfl (cE (h:=mh (X:=X) (a:=MC a (rO m)) (n:=4*gw m) (pZ aq (by omega)))) fun QK LG=> ?_
 refine Z5 ?_
 refine .s rfl (gQ (i:=4) FC.out (.t rfl) (.t rfl) rfl rfl) ?_
 refine .fin ?_
 refine Z3 ?_
 rw [w7 (pZ aq (by omega)) (by omega) (by simp only;omega)] at LG
 subst LG
 refine Z6 ?_
 refine Cd (fun c1=> ?_) fun c1=> ?_
 · exact absurd rfl c1
 refine Z9 ?_
 refine Post.aN rfl (()) (by trivial) (aB.dc [4,0,1,2,3] [] rfl rfl) (.rt rfl) ?_
 exact .z
theorem Ay (aq:eg X a) (aT:o4 m) (dh:X.size<a.height+(rO m+DT m)):cH Tryz.prog 36 [aJ sb 0] (uU sb X pb m num 0 0 mv::dS X a) (γ:=Int×Int×eO) (fun g=>g.2.2.live=a.live) (fun g=>uU sb X pb m num g.1 g.2.1 mv::rN X g.2.2 1) (fun _=>ag .i64 8):=by
 refine In 59 Tryz.func36 fun _ _ _=> ?_
 have hm1:rO m=aR (8*m.ay.length):=rfl
 have hm2:DT m=aR (4*gw m):=rfl
 have DV:=aT.r1;have Bo:=aT.r2;have hkh:=aq.hi;have hkm:=aq.most;have DO:=aq.live
 have RK:=aT.gl
 have htn:(max m.Table 0)=((gw m:Nat):Int):=by unfold gw;omega
 refine dH ?_
 refine .bG [(0,0),(1,0),(2,0),(3,0),(4,1),(5,0),(6,0),(7,0),(8,1),(9,0),(10,0),(11,0),(12,0),(13,0),(14,2),(15,0),(16,0),(17,0),(18,0),(19,0),(20,3)] 21 1 FM.out (by kernel_rfl) (k:= ?_)
 refine jN ?_
 refine .p rfl (fun _=>(nT (.c _) (.t rfl) de).le (aa.int (show _=((8*m.ay.length:Nat):Int) by omega))) ?_
 refine .e rfl (o7 [_] [1,2,3,4,0] (h:=mh (X:=X) (a:=a) (n:=8*m.ay.length) aq)) fun zm MG=> ?_
 refine Z5 ?_
 refine .s rfl (gQ (i:=4) FC.out (.t rfl) (.t rfl) rfl rfl) ?_
 refine .fin ?_
 refine Z4 ?_
 have hgc:(a.height+rO m≤X.size∧zm=(MC a (rO m),a.height,0))∨zm=(a,0,8):=by (by_cases hf:a.height+rO m≤X.size;exact .inl ⟨hf,by rw [MG,w7 aq (by omega) hf]⟩;exact .inr (by rw [MG,GY aq (by omega) hf]))
 clear MG
 rcases hgc with ⟨hf,rfl⟩|rfl
 ·
  refine Z5 ?_
  refine Cd (fun c0=> ?_) fun c0=> ?_
  · exact absurd rfl c0
  refine Z4 ?_
  refine .bG [(0,0),(1,0),(2,0),(3,0),(4,1),(5,0),(6,0),(7,0),(8,1),(9,0),(10,0),(11,0),(12,0),(13,0),(14,2),(15,0),(16,0),(17,0),(18,0),(19,0),(20,3)] 21 1 FM.out (by kernel_rfl) (k:= ?_)
  refine Z4 ?_
  refine .o rfl (eR (i:=4) FA.out (.t rfl) rfl rfl) ?_
  refine Z3 ?_
  refine .o rfl (eR (i:=4) FA.out (.t rfl) rfl rfl) ?_
  refine Z4 ?_
  refine .p rfl (fun _=>(nT (.c _) (.t rfl) (by rw [htn];exact bN (by omega) (by omega))).le (aa.int (show _=((4*gw m:Nat):Int) by rw [htn];omega))) ?_
  refine .e rfl (cE (h:=mh (X:=X) (a:=MC a (rO m)) (n:=4*gw m) (pZ aq hf))) fun QK LG=> ?_
  refine Z5 ?_
  refine .s rfl (gQ (i:=4) FC.out (.t rfl) (.t rfl) rfl rfl) ?_
  refine .fin ?_
  refine Z3 ?_
  rw [GY (pZ aq hf) (by omega) (by simp only;omega)] at LG
  subst LG
  refine Z6 ?_
  refine Cd (fun c1=> ?_) fun c1=> ?_
  ·
   refine .own (zj (X:=X) (a:=MC a (rO m))) ?_
   refine .bA 8 1 FM.out (by kernel_rfl) (k:= ?_)
   refine Z3 ?_
   refine .p (eR (i:=4) FA.out (.t rfl) rfl rfl) ?_
   refine Z3 ?_
   refine .p (eR (i:=4) FA.out (.t rfl) rfl rfl) ?_
   refine Z1 ?_
   refine .n (cE (h:=EW (a:=MC a (rO m)) (at_:=(a.height:Int)) (c:=rO m) (by rw [IB,if_pos rfl]) (by simp only;omega) (by simp only;omega) (by decide))) rfl fun RS WQ=> ?_
   refine Z9 ?_
   refine Post.aN rfl (((a.height:Int),0,Ls (MC a (rO m)) (a.height:Int) (rO m))) (by simp only [Ls];omega) (aB.dc [4,0,1,2,3] [] rfl rfl) (.rt rfl) ?_
   exact .z
  exact (c1 (show ((8:Nat):Int)≠0 by decide)).elim
 refine Z5 ?_
 refine Cd (fun c0=> ?_) fun c0=> ?_
 ·
  refine Z1 ?_
  refine .own ((zj (X:=X) (a:=a)).trans (Lo (k:=1) (by decide))) ?_
  refine Z7 ?_
  refine Post.aN rfl ((0,0,a)) (by rfl) (aB.dc [4,0,1,2,3] [] rfl rfl) (.rt rfl) ?_
  exact .z
 exact (c0 (show ((8:Nat):Int)≠0 by decide)).elim
theorem Fb {z:dY}:cQ Tryz.prog 80 [aE (ew z),ag .i64 65536] (ag .i64 (p7 z:Int)):=by
 refine In 11 Tryz.func80 fun _ _ _=> ?_
 refine iw ?_
 refine Cd (fun c0=> ?_) fun c0=> ?_
 ·
  refine Z8 ?_
  refine bJ ?_
  exact aa.int (by unfold p7;rw [if_pos (by omega)];rfl)
 refine cJ ?_
 refine bJ ?_
 exact aa.int (by unfold p7;rw [if_neg (by omega)];omega)
theorem Fc {g:Nat} (aq:eg X a) (aT:o4 m) (dh:g+8*m.ay.length≤X.size) (fX:0≤num) (ox:num≤1073741824):cH Tryz.prog 37 [aJ sb 0] (uU sb X pb m num (g:Int) t (af (.slice none 0 0))::sS X a) (γ:=SB×List Nat) (fun g2=>g2.2.length=m.bI.length) (fun g2=>oR pb g2.2 (GZ m num m.bI.length)::av g2.1 1 p9 g2.2::uU sb X pb m num (g:Int) t (af (br g2.1 (g2.2).length))::sS X (Lt m g a m.ay.length)) (fun _=>bz []):=by
 refine In 71 Tryz.func37 fun _ _ _=> ?_
 have RK:=aT.gl;have hml:=aT.ml;have hkm:=aq.most
 refine mM ?_
 refine .aY (σ:=Nat) (fun k=>uU sb X pb m num (g:Int) t (af (.slice none 0 0))::sS X (Lt m g a k)) (fun k=>[(16,ag .i64 (k:Int))]) (fun k=>k≤m.ay.length) (fun k=>m.ay.length-k) 0 (Nat.zero_le _) rfl ?_ ?_
 · exact (.get rfl (aa.refl _) (.refl _ _))
 rintro k hk
 refine Z6 ?_
 refine Cd (fun c0=> ?_) fun c0=> ?_
 ·
  obtain ⟨z,hz⟩:=ai (xs:=m.ay) (k:=k) (by omega)
  have hzv:=aT.gv z (List.mem_of_getElem? hz)
  refine Z7 ?_
  refine .p (cI k (h:=hz)) rfl ?_
  refine Z1 ?_
  refine .n (az FZ.out) rfl fun b3 _=> ?_
  refine Z4 ?_
  refine .share (t:=3) (i:=0) rfl rfl ?_
  refine Z4 ?_
  refine .p ((tJ FA.out (.t rfl)).le (aa.int (show z.Value=((z.Value.toNat:Nat):Int) by omega))) rfl ?_
  refine .n (cE (h:=IK (a:=Lt m g a k) (g:=g) (i:=k) (v:=z.Value.toNat) (z:=z) hz (Ak aq k (by omega)) (by omega) (by omega) hzv.2.2 RK)) rfl fun RP QJ=> ?_
  refine Z7 ?_
  refine .round (k+1) (by omega) (by omega) (by show _=_::sS X ((Lt m g a k).put (g+8*k) (DQ (Aj (ID m k).Ty (ID m k).Value.toNat) 8));rw [Ny hz];try rfl) ?_
  exact (.get rfl (aa.int (by (show (k:Int)+1=((k+1:Nat):Int);omega))) ((.keep 15 rfl rfl)))
 have vD:k=m.ay.length:=by omega
 subst vD
 refine Z6 ?_
 refine .own (K3 (n:=1) (enc:=p9)) ?_
 refine .own (Lz (pb:=pb)) ?_
 refine jN ?_
 refine .aY (σ:=SB×List Nat×Nat) (fun q=>oR pb q.2.1 (GZ m num q.2.2)::av q.1 1 p9 q.2.1::uU sb X pb m num (g:Int) t (af (br q.1 (q.2.1).length))::sS X (Lt m g a m.ay.length)) (fun q=>[(35,ag .i64 (q.2.2:Int))]) (fun q=>q.2.1.length=q.2.2∧q.2.2≤m.bI.length) (fun q=>m.bI.length-q.2.2) (none,[],0) ⟨rfl,Nat.zero_le _⟩ rfl ?_ ?_
 · exact (.get rfl (aa.refl _) (.refl _ _))
 rintro ⟨s1,bs,k⟩ ⟨hb,hk⟩
 simp only at hb hk ⊢
 refine Z6 ?_
 refine Cd (fun c1=> ?_) fun c1=> ?_
 ·
  obtain ⟨z,hz⟩:=ai (xs:=m.bI) (k:=k) (by omega)
  have S7:=Pj aT (List.mem_of_getElem? hz) (n:=num+(k:Int)) (by omega)
  refine Z7 ?_
  refine .p (cI k (h:=hz)) rfl ?_
  refine Z1 ?_
  refine .n (az FZ.out) rfl fun b5 _=> ?_
  refine Z4 ?_
  refine .share (t:=5) (i:=0) rfl rfl ?_
  refine Z1 ?_
  refine .bG [(0,0),(1,0),(2,0),(3,1),(4,0),(5,0),(6,0),(7,1),(8,0),(9,0),(10,0),(11,0),(12,0),(13,0),(14,0),(15,0),(16,2),(17,0),(18,0),(19,0),(20,0)] 21 1 FM.out (by kernel_rfl) (k:= ?_)
  refine dw ?_
  refine .p rfl (fun _=>(tJ FA.out (.t rfl)).le (aa.int S7.2.1)) ?_
  refine .p rfl (fun _=>bg.le (vw FA.out FC.out rfl (.t rfl) rfl) (aa.refl (aE (ew z)))) ?_
  refine .p rfl (fun _=>bT (Fb) FB.out (.cons (.t rfl) (.cons (.c _) .nil))) ?_
  refine Z2 ?_
  refine .e rfl (cE (h:=IT (pb:=pb) (num:=num+(k:Int)) (pages:=z.Min.toNat) (most:=p7 z) (wide:=z.bE) (by omega) S7.2.2.1 S7.2.2.2)) fun RS WQ=> ?_
  refine Z4 ?_
  refine .fin ?_
  refine Z3 ?_
  refine .own (Ly (by rw [NC];exact hb)) ?_
  refine Z7 ?_
  refine .p (cB p9 [RS]) rfl ?_
  refine .n (aH (i:=1) (xs:=bs) (ys:=[RS]) FU.out FU.out FC.out rfl FZ.out rfl FY.out (.t rfl) (.t rfl) rfl (by simp only [List.length_cons,List.length_nil];omega) (by simp only [List.length_cons,List.length_nil];omega)) rfl fun g67 _=> ?_
  refine cJ ?_
  refine .round (g67,bs++[RS],k+1) ⟨by (show (bs++[RS]).length=k+1;simp [hb]),by (show k+1≤_;omega)⟩ (by show m.bI.length-(k+1)<m.bI.length-k;omega) (by simp only [SS hz];try rfl) ?_
  exact (.get rfl (aa.int (by (show (k:Int)+1=((k+1:Nat):Int);omega))) ((.keep 42 rfl rfl)))
 have vD:k=m.bI.length:=by omega
 subst vD
 refine Z4 ?_
 refine Post.gV rfl ((s1,bs)) (by exact hb) (fun _ _ _ h=>h) rfl
theorem Fe {t0:Nat} {e:iN} (aq:eg X a) (aT:o4 m) (dh:t0+4*gw m≤X.size) (fX:e∈m.bY):cH Tryz.prog 81 [aJ sb 0,aE (iT e)] (uU sb X pb m num g (t0:Int) mv::sS X a) (γ:=Unit) (fun _=>True) (fun _=>uU sb X pb m num g (t0:Int) mv::sS X (MD m t0 e a)) (fun _=>ag .i64 (Qw m e)):=by
 refine In 60 Tryz.func81 fun _ _ _=> ?_
 obtain ⟨Bn,GH,HK,Xr⟩:=aT.el e fX
 have Bo:=aT.r2;have hkm:=aq.most
 have htn:(max m.Table 0)=((gw m:Nat):Int):=by unfold gw;omega
 have hbd:mg m e↔((gw m:Int)<e.At∨(gw m:Int)-e.At<(e.ax.length:Int)):=Iff.rfl
 refine mM ?_
 refine .p ((OP (.t rfl) (.c _)).le (aa.int htn)) rfl ?_
 refine .p ((mJ FU.out FU.out (.t rfl) de).le (aa.int (show _=((gw m:Nat):Int) by omega))) rfl ?_
 refine Z23 ?_
 refine Cd (fun c0=> ?_) fun c0=> ?_
 ·
  have hb:mg m e:=hbd.2 (by omega)
  have xq:MD m t0 e a=a:=if_pos hb
  have xu:Qw m e=5:=if_pos hb
  refine Z7 ?_
  refine Post.aN rfl (()) (by trivial) (aB.of_eq (by rw [xq])) (.rt rfl) ?_
  exact aa.int (by rw [xu])
 have hb:¬mg m e:=fun h=>c0 (by have h2:=hbd.1 h;omega)
 have xq:MD m t0 e a=Ph t0 e a e.ax.length:=if_neg hb
 have xu:Qw m e=0:=if_neg hb
 have hin:e.At+(e.ax.length:Int)≤(gw m:Int):=by (have h3:=fun h=>hb (hbd.2 h);omega)
 refine dH ?_
 refine .aY (σ:=Nat) (fun k=>uU sb X pb m num g (t0:Int) mv::sS X (Ph t0 e a k)) (fun k=>[(35,ag .i64 (k:Int))]) (fun k=>k≤e.ax.length) (fun k=>e.ax.length-k) 0 (Nat.zero_le _) rfl ?_ ?_
 · exact (.get rfl (aa.refl _) (.refl _ _))
 rintro k hk
 refine Z6 ?_
 refine Cd (fun c1=> ?_) fun c1=> ?_
 ·
  obtain ⟨z,hz⟩:=ai (xs:=e.ax) (k:=k) (by omega)
  have x9:=Xr z (List.mem_of_getElem? hz)
  refine Z7 ?_
  refine .p (cI k (h:=hz)) rfl ?_
  refine Z5 ?_
  refine .bA 18 1 FM.out (by kernel_rfl) (k:= ?_)
  refine Eh ?_
  refine .n (cC (rest:=[_]) (zl (a:=Ph t0 e a k) (at_:=t0+4*(e.At.toNat+k)) (w:=4) (v:=z.toNat+1) (EJ aq k (by omega)) (by omega) (.inr rfl) (by omega)) FB.out (.cons (.t rfl) (.cons (.le (.t rfl) (aa.int (show _=((t0+4*(e.At.toNat+k):Nat):Int) by omega))) (.cons (.c _) (.cons (.le (.t rfl) (aa.int (show _=((z.toNat+1:Nat):Int) by omega))) .nil)))) (Perm.idx [1,2,0] rfl rfl)) rfl fun g58 h58=> ?_
  refine Z7 ?_
  refine .own (aB.perm (Perm.idx [2,0,1] rfl rfl)) (bR.round (k+1) (by omega) (by omega) (by show _=_::sS X ((Ph t0 e a k).put (t0+4*(e.At.toNat+k)) (DQ (((e.ax[k]?).getD 0).toNat+1) 4));rw [hz];try rfl) ?_)
  exact (.get rfl (aa.int (by (show (k:Int)+1=((k+1:Nat):Int);omega))) ((.keep 28 rfl rfl)))
 have vD:k=e.ax.length:=by omega
 subst vD
 refine dw ?_
 refine Post.aN rfl (()) (by trivial) (aB.of_eq (by rw [xq])) (.rt rfl) ?_
 exact aa.int (by rw [xu])
theorem Ff {pg:od} {t0 mm:Nat} {bs:List Nat} {Co:Cont} (aq:eg X a) (aT:o4 m) (dh:t0+4*gw m≤X.size) (fX:bs.length=m.bI.length) (ox:0≤num) (yp:mm+Ck m m.bK.length≤4096):cH Tryz.prog 38 [aJ sb 0] (oR pg.pb bs (GZ m num m.bI.length)::uU sb X pg.pb m num g (t0:Int) (ah 1 p9 bs)::sS X (uh m t0 a 0)++[iM pg 64 4096 (fun _=>True) (yj m num Co 0) (mm+Ck m 0) J7]) (γ:=Nat×Nat×Int) (fun r=>vm m r) (fun r=>(oR pg.pb bs (GZ m num m.bI.length)::uU sb X pg.pb m num g (t0:Int) (ah 1 p9 bs)::sS X (uh m t0 a r.1)++[iM pg 64 4096 (fun _=>True) (yj m num Co r.2.1) (mm+Ck m m.bK.length) J7])) (fun r=>bz [ag .i64 r.2.2,ag .i64 0]):=by
 refine In 67 Tryz.func38 fun _ _ _=> ?_
 have J9:=aT.ll;have Ky:=aT.dl;have hkm:=aq.most
 refine RD ?_
 refine .aY (σ:=Nat) (fun k=>(oR pg.pb bs (GZ m num m.bI.length)::uU sb X pg.pb m num g (t0:Int) (ah 1 p9 bs)::sS X (uh m t0 a k)++[iM pg 64 4096 (fun _=>True) (yj m num Co 0) (mm+Ck m 0) J7])) (fun k=>[(19,ag .i64 (k:Int))]) (fun k=>k≤m.bY.length∧nJ m k) (fun k=>m.bY.length-k) 0 ⟨Nat.zero_le _,nJ.nil⟩ rfl ?_ ?_
 · exact (.get rfl (aa.refl _) (.refl _ _))
 rintro k ⟨hk,WR⟩
 refine Z6 ?_
 refine Cd (fun c0=> ?_) fun c0=> ?_
 ·
  obtain ⟨z,hz⟩:=ai (xs:=m.bY) (k:=k) (by omega)
  have hzm:=List.mem_of_getElem? hz
  have hok:=Al (X:=X) (t:=t0) aq aT dh k
  refine Z6 ?_
  refine .p (cI k (h:=hz)) rfl ?_
  refine Z1 ?_
  refine .n (az FZ.out) rfl fun b5 _=> ?_
  refine Z3 ?_
  refine .share (t:=5) (i:=0) rfl rfl ?_
  refine Z3 ?_
  refine .p (bg.le (vw FA.out FC.out rfl (.t rfl) rfl) (aa.refl (aE (iT z)))) rfl ?_
  refine .n (o7 [_,_] [1,2,3,0,4] (h:=Fe (a:=uh m t0 a k) (e:=z) hok.1 aT dh hzm)) rfl fun RP QJ=> ?_
  refine Z9 ?_
  refine Cd (fun c1=> ?_) fun c1=> ?_
  ·
   have S8:mg m z:=ND c1
   have hel:MD m t0 z (uh m t0 a k)=uh m t0 a k:=if_pos S8
   rw [hel]
   refine jN ?_
   refine Post.aZ rfl rfl ((k,0,5)) (by exact vm.el hz WR S8) (aB.trans (aB.perm (Perm.idx [3,0,1,2,4] rfl rfl)) (aB.cons _ (aB.cons _ (aB.cons _ (aB.cons _ (sN (by have:=w8 (m:=m) (Nat.zero_le m.bK.length);omega))))))) rfl (.cons (.rt rfl) ?_ (.cons (.rt rfl) ?_ .nil))
   · exact aa.int (show Qw m z=5 from if_pos S8)
   exact aa.refl _
  have S8:¬mg m z:=QA c1
  refine Z7 ?_
  refine .own (aB.perm (Perm.idx [3,0,1,2,4] rfl rfl)) (bR.round (k+1) ⟨by omega,WR.next hz S8⟩ (by omega) (by simp only [Qx hz];try rfl) ?_)
  exact (.get rfl (aa.int (by (show (k:Int)+1=((k+1:Nat):Int);omega))) ((.keep 14 rfl rfl)))
 have vD:k=m.bY.length:=by omega
 subst vD
 refine J4 ?_
 refine .aY (σ:=Nat) (fun k=>(oR pg.pb bs (GZ m num m.bI.length)::uU sb X pg.pb m num g (t0:Int) (ah 1 p9 bs)::sS X (uh m t0 a m.bY.length)++[iM pg 64 4096 (fun _=>True) (yj m num Co k) (mm+Ck m k) J7])) (fun k=>[(38,ag .i64 (k:Int))]) (fun k=>k≤m.bK.length∧p8 m k) (fun k=>m.bK.length-k) 0 ⟨Nat.zero_le _,p8.nil⟩ rfl ?_ ?_
 · exact (.get rfl (aa.refl _) (.refl _ _))
 rintro k ⟨hk,hds⟩
 refine Z6 ?_
 refine Cd (fun c2=> ?_) fun c2=> ?_
 ·
  obtain ⟨z,hz⟩:=ai (xs:=m.bK) (k:=k) (by omega)
  obtain ⟨hi1,hi2,RT,hi4⟩:=aT.da z (List.mem_of_getElem? hz)
  obtain ⟨y,hy⟩:=ai (xs:=m.bI) (k:=z.Mem.toNat) (by unfold iU at hi1;omega)
  obtain ⟨b,hb⟩:=ai (xs:=bs) (k:=z.Mem.toNat) (by unfold iU at hi1;omega)
  have hmk:=Qz (num:=num) (k:=m.bI.length) hy (List.getElem?_eq_some_iff.1 hy).1
  have S7:=Pj aT (List.mem_of_getElem? hy) (n:=num+(z.Mem.toNat:Int)) (by omega)
  have hdn:=w8 (m:=m) (show k+1≤m.bK.length by omega)
  have YJ:=Pk hz
  have S9:G3 m z=dg y.Min.toNat z.At.toNat 0 (z.Bytes.length:Int):=by unfold G3;rw [Am hy]
  have hde:=SU (m:=m) (d:=z) hi4
  have YK:(dg y.Min.toNat z.At.toNat 0 (z.Bytes.length:Int)).2.2=0:=S9▸hde
  refine Z6 ?_
  refine .p (cI k (h:=hz)) rfl ?_
  refine Z1 ?_
  refine .n (az FZ.out) rfl fun b8 _=> ?_
  refine Z3 ?_
  refine .share (t:=8) (i:=0) rfl rfl ?_
  refine Z1 ?_
  refine .own (Lx hb hmk) ?_
  refine .bG [(0,0),(1,0),(2,0),(3,1),(4,0),(5,0),(6,0),(7,0),(8,0),(9,0),(10,0),(11,0),(12,2),(13,0),(14,0),(15,0),(16,0)] 17 1 FM.out (by kernel_rfl) (k:= ?_)
  refine Z5 ?_
  refine .p rfl (fun _=>(tJ FA.out (.t rfl)).le (aa.int (show z.Mem=((z.Mem.toNat:Nat):Int) by (unfold iU at hi1;omega)))) ?_
  refine .p rfl (fun _=>aP (j:=z.Mem.toNat) FU.out FC.out rfl (.t rfl) (.t rfl) rfl hb) ?_
  refine Z2 ?_
  refine .p rfl (fun _=>(tJ FA.out (.t rfl)).le (aa.int (show z.At=((z.At.toNat:Nat):Int) by omega))) ?_
  refine Z2 ?_
  refine .e rfl (o7 [_,_,_,_] [0,5,1,2,3,4] (h:=CO (mb:=b) (mm:=Lu y (num+(z.Mem.toNat:Int))) (X:=pg) (z:=64) (q:=4096) (m:=mm+Ck m k) (T:=fun _=>True) (C:=yj m num Co k) (R:=J7) (a:=z.At.toNat) (o:=0) (ys:=z.Bytes) (K1 _) (by decide) (by decide) S7.1 (by omega) (by decide) (by omega) (by omega))) fun g55 YL=> ?_
  refine Z4 ?_
  refine .fin ?_
  refine Z3 ?_
  refine .own (aB.perm (Perm.idx [0,2,3,4,5,1] rfl rfl)) ?_
  refine .own (NF hb hmk) ?_
  refine .own (aB.cons _ (aB.cons _ (aB.cons _ (aB.cons _ (aB.wK (show _=iM pg 64 4096 (fun _=>True) (yj m num Co (k+1)) (mm+Ck m (k+1)) J7 by rw [Lw hz,YJ,Nat.add_assoc mm];unfold WH;rw [S9])))))) ?_
  refine cJ ?_
  refine Cd (fun c3=> ?_) fun c3=> ?_
  ·
   have hbd:(G3 m z).2≠(0,0):=fun h=>by (rw [S9] at h;simp [h] at c3)
   refine iw ?_
   refine Post.aZ rfl rfl ((m.bY.length,k+1,((G3 m z).2.1:Int))) (by exact vm.da hz WR hds hbd) (aB.cons _ (aB.cons _ (aB.cons _ (aB.cons _ (sN (Nat.add_le_add_left hdn mm)))))) rfl (.cons (.rt rfl) ?_ (.cons (.rt rfl) ?_ .nil))
   · exact aa.int (congrArg (fun q:Nat×Nat×Nat=>((q.2.1:Nat):Int)) S9.symm)
   exact aa.int (congrArg Nat.cast YK)
  have c3b:¬(((dg y.Min.toNat z.At.toNat 0 (z.Bytes.length:Int)).2.1:Int)≠0∨((dg y.Min.toNat z.At.toNat 0 (z.Bytes.length:Int)).2.2:Int)≠0):=c3
  have hbd:(G3 m z).2=(0,0):=by (rw [S9];exact Prod.ext (by omega) (by omega))
  refine Z7 ?_
  refine .round (k+1) ⟨by omega,hds.next hz hbd⟩ (by omega) (by simp only [Lw hz,Pk hz];try rfl) ?_
  exact (.get rfl (aa.int (by (show (k:Int)+1=((k+1:Nat):Int);omega))) ((.keep 32 rfl rfl)))
 have vD:k=m.bK.length:=by omega
 subst vD
 refine dH ?_
 refine Post.aZ rfl rfl ((m.bY.length,m.bK.length,0)) (by exact vm.all WR hds) (fun _ _ _ h=>h) rfl (.cons (.rt rfl) ?_ (.cons (.rt rfl) ?_ .nil))
 · exact .z
 exact .z
end Go.Proofs.YtpfobikpggmleaaGreatDoor
end
section
namespace Go.Hl
structure NN (m:aU):Prop where
 sigs:(m.bF.length:Int)≤50
 imports:(m.aA.length:Int)≤20
 funcs:(m.aA.length:Int)+(m.ax.length:Int)≤100
 dI:(m.bI.length:Int)≤4
 globals:(m.ay.length:Int)≤50
 aV:(m.bD.length:Int)≤50
 elems:(m.bY.length:Int)≤20
 bO:(m.bK.length:Int)≤20
 table: -1≤m.Table∧m.Table≤1000
variable {m:aU}
theorem cv (h:dy m):NN m where
 sigs:=(bB.1 h.sigs).1
 imports:=(bB.1 h.imports).1
 funcs:=by
  have h5:=h.funcs
  unfold jD at h5
  split at h5
  · cases h5
  · unfold cw at*;omega
 dI:=(bB.1 h.dI).1
 globals:=(bB.1 h.globals).1
 aV:=(bB.1 h.aV).1
 elems:=(bB.1 h.elems).1
 bO:=(bB.1 h.bO).1
 table:=by
  have h5:=h.table
  unfold l9 at h5
  split at h5
  · cases h5
  · have h6:=(cu (by decide)).1 h5;omega
theorem QL (h:dy m) {z:mD} (hz:z∈m.bF):jC z.P∧jC z.R:=Classical.not_not.1 ((cu (by decide)).1 (eu.1 (bB.1 h.sigs).2 z hz))
theorem LH (h:dy m) {z:gA} (hz:z∈m.aA):gZ z.Module∧gZ z.Name∧iU z.fV m.bF.length:=by
 have h1:=eu.1 (bB.1 h.imports).2 z hz
 unfold fl at h1
 split at h1
 · cases h1
 · rename_i h2
   exact ⟨Classical.byContradiction fun e=>h2 (.inl e),Classical.byContradiction fun e=>h2 (.inr e),Classical.not_not.1 ((cu (by decide)).1 h1)⟩
theorem NO (h:dy m) {z:cK} (hz:z∈m.ax):iU z.fV m.bF.length:=Classical.not_not.1 ((cu (by decide)).1 (oo h.funcs z hz))
theorem LI (h:dy m) {z:dY} (hz:z∈m.bI):0≤z.Min∧z.Min≤65536∧(z.Max<0∨z.Min≤z.Max∧z.Max≤65536):=Classical.not_not.1 ((cu (by decide)).1 (eu.1 (bB.1 h.dI).2 z hz))
theorem zn (h:dy m) {z:iS} (hz:z∈m.ay):(z.Ty.toNat:Int)=126∨(z.Ty.toNat:Int)=127∧z.Value≤4294967295:=by
 have h1:=(cu (by decide)).1 (eu.1 (bB.1 h.globals).2 z hz)
 have h2:¬fH z.Ty=0:=fun e=>h1 (.inl e)
 have h3:¬((z.Ty.toNat:Int)=127∧4294967295<z.Value):=fun e=>h1 (.inr e)
 rw [oh,Classical.not_not] at h2
 rcases h2 with e|e
 · exact .inl (by rw [e];rfl)
 · exact .inr ⟨by rw [e];rfl,Classical.byContradiction fun h4=>h3 ⟨by rw [e];rfl,by omega⟩⟩
theorem uo (h:dy m) {i:Nat} {x:dJ} (hx:m.bD[i]?=some x):gZ x.Name∧(∀j y,j<i→m.bD[j]?=some y→y.Name≠x.Name)∧
    (((x.Kind=0∧iU x.Index (cw m)∨(x.Kind=1∧0≤m.Table)∧x.Index=0)∨x.Kind=2∧iU x.Index m.bI.length)∨x.Kind=3∧iU x.Index m.ay.length):=by
  have hi:=(List.getElem?_eq_some_iff.1 hx).1
  have h1:iW m i=0:=kG.1 (bB.1 h.aV).2 i hi
  unfold iW at h1
  rw [hx] at h1
  simp only at h1
  split at h1
  · cases h1
  · rename_i h2
    have h3:=Classical.not_not.1 ((cu (by decide)).1 h1)
    have ht:=(cv h).table
    refine ⟨Classical.byContradiction fun e=>h2 (.inl e),fun j y hj hy e=>h2 (.inr ⟨y,List.mem_iff_getElem?.2 ⟨j,by rw [List.getElem?_take,if_pos hj];exact hy⟩,e⟩), ?_⟩
    obtain ⟨h4,h5⟩:=h3
    unfold iU at h4
    have hw:IntKind.i64.wrap (m.Table+1)=m.Table+1:=by unfold IntKind.wrap;simp [IntKind.signed,IntKind.bits];omega
    have k0:mc 0=0:=by decide
    have k1:mc 1=1:=by decide
    have k2:mc 2=2:=by decide
    have k3:mc 3=3:=by decide
    rcases (by omega:x.Kind=0∨x.Kind=1∨x.Kind=2∨x.Kind=3) with e|e|e|e
    · rw [e,k0] at h5;exact .inl (.inl (.inl ⟨e,h5⟩))
    · rw [e,k1] at h5;unfold iU at h5;simp only [cnt,hw] at h5;exact .inl (.inl (.inr ⟨⟨e,by omega⟩,by omega⟩))
    · rw [e,k2] at h5;exact .inl (.inr ⟨e,h5⟩)
    · rw [e,k3] at h5;exact .inr ⟨e,h5⟩
theorem CQ (h:dy m) (hn:m.Start≠ -1):iU m.Start (cw m)∧∀s,gM m m.Start=some s→¬0<(s.P.length:Int)+(s.R.length:Int):=by
 have h1:=h.start
 unfold iJ at h1
 rw [if_neg hn] at h1
 have hI:∀z∈m.aA,fl m z=0:=eu.1 (bB.1 h.imports).2
 cases hs:gM m m.Start with
 |none=>rw [hs] at h1;cases h1
 |some s=>
  rw [hs] at h1
  refine ⟨(GV hI (oo h.funcs)).1 (by rw [hs];rfl),fun s' e=> ?_⟩
  cases e
  exact (cu (by decide)).1 h1
theorem vJ (h:dy m) {z:iN} (hz:z∈m.bY):(z.ax.length:Int)≤20∧0≤m.Table∧z.At≤4294967295∧∀f∈z.ax,iU f (cw m):=by
 have h1:=eu.1 (bB.1 h.elems).2 z hz
 unfold qZ at h1
 split at h1
 · cases h1
 · have h2:=(cu (by decide)).1 h1
   have ht:=(cv h).table
   have h3:m.Table≠ -1:=fun e=>h2 (.inl e)
   exact ⟨by omega,by omega,Classical.byContradiction fun e=>h2 (.inr (.inr (by omega))),fun f hf=>Classical.byContradiction fun e=>h2 (.inr (.inl ⟨f,hf,e⟩))⟩
theorem vK (h:dy m) {z:jO} (hz:z∈m.bK):(z.Bytes.length:Int)≤4096∧iU z.Mem m.bI.length∧∀y,m.bI[z.Mem.toNat]?=some y→¬(¬y.bE∧4294967295<z.At):=by
 have h1:=eu.1 (bB.1 h.bO).2 z hz
 unfold q6 at h1
 split at h1
 · cases h1
 · have h2:=(cu (by decide)).1 h1
   exact ⟨by omega,Classical.byContradiction fun e=>h2 (.inl e),fun y hy e=>h2 (.inr ⟨y,hy,e⟩)⟩
def aO (c:Int):Prop:=c=2∨c=3∨c=4
instance (c:Int):Decidable (aO c):=inferInstanceAs (Decidable (_∨_))
def ey:List Int→List (Int×Bool)→Prop
 |[],_=>False
 | c::r,st=>
  if aO c then st.length<64∧ey r ((c,false)::st)
  else if c=5 then match st with
   |[]=>False
   |(b,e)::t=>(b=4∧e=false)∧ey r ((b,true)::t)
  else if c=11 then match st with
   |[]=>r=[]
   |_::t=>ey r t
  else ey r st
theorem fY (c:Int) (r:List Int) (st:List (Int×Bool)):ey (c::r) st=(if aO c then st.length<64∧ey r ((c,false)::st)
    else if c=5 then match st with
      |[]=>False
      |(b,e)::t=>(b=4∧e=false)∧ey r ((b,true)::t)
    else if c=11 then match st with
      |[]=>r=[]
      |_::t=>ey r t
    else ey r st):=by
  rw [ey.eq_def]
def dD:Nat→List Int→Nat→Option (List Int)
 |0,_,_=>none
 |_+1,[],_=>some []
 | f +1,c::r,d=>
  if c=11∨c=5 then some (c::r)
  else if aO c then
   if 64≤d then none else
   match dD f r (d+1) with
   |none=>none
   |some []=>none
   | some (c2::r2)=>
    if c2=5 then
     if c=4 then
      match dD f r2 (d+1) with
      |none=>none
      |some []=>none
      |some (c3::r3)=>if c3=5 then none else dD f r3 d
     else none
    else dD f r2 d
  else dD f r d
theorem lO :∀(f:Nat) (s:List Int) (d:Nat),s.length<f→d≤64→
    (dD f s d=none→∀st,st.length=d→¬ey s st)∧
    (∀r,dD f s d=some r→r.length≤s.length∧(∀c r',r=c::r'→c=11∨c=5)∧∀st,st.length=d→(ey s st↔ey r st)):=by
  intro f
  induction f with
  |zero=>intro s d h;omega
  | succ f ih =>
    intro s d h hd
    cases s with
    |nil=>simp [dD]
    | cons c r =>
      simp only [List.length_cons] at h
      by_cases h1:c=11∨c=5
      · simp only [dD,h1,if_true]
        refine ⟨by simp,fun r' hr=> ?_⟩
        cases hr
        exact ⟨Nat.le_refl _,fun c' r' e=>by cases e;exact h1,fun st _=>Iff.rfl⟩
      by_cases h2:aO c
      · simp only [dD,h1,if_false,h2,if_true]
        have hn:∀st,ey (c::r) st↔st.length<64∧ey r ((c,false)::st):=fun st=>by rw [fY];simp [h2]
        by_cases h3:64≤d
        · simp only [h3,if_true]
          refine ⟨fun _ st hs hh=> ?_,by simp⟩
          have:=((hn st).1 hh).1;omega
        simp only [h3,if_false]
        have i1:=ih r (d+1) (by omega) (by omega)
        generalize dD f r (d+1)=o1 at i1
        have q:∀st,st.length=d→(ey (c::r) st↔ey r ((c,false)::st)):=fun st hs=>(hn st).trans ⟨fun x=>x.2,fun x=>⟨by omega,x⟩⟩
        match o1,i1 with
        |none,i1=>exact ⟨fun _ st hs hh=>i1.1 rfl ((c,false)::st) (by simp [hs]) ((q st hs).1 hh),by simp⟩
        | some [],i1=>
          obtain ⟨_,_,i3⟩:=i1.2 [] rfl
          exact ⟨fun _ st hs hh=>by have:=(i3 ((c,false)::st) (by simp [hs])).1 ((q st hs).1 hh);exact this,by simp⟩
        | some (c2::r2),i1=>
          obtain ⟨l2,k2,i3⟩:=i1.2 _ rfl
          simp only [List.length_cons] at l2
          have q2:∀st,st.length=d→(ey (c::r) st↔ey (c2::r2) ((c,false)::st)):=fun st hs=>(q st hs).trans (i3 _ (by simp [hs]))
          rcases k2 c2 r2 rfl with e|e
          · subst e
            have hi:=ih r2 d (by omega) hd
            have q3:∀st,st.length=d→(ey (c::r) st↔ey r2 st):=fun st hs=>(q2 st hs).trans (by rw [ey];simp [aO])
            simp only [show ¬((11:Int)=5) by decide,if_false]
            exact ⟨fun e st hs hh=>hi.1 e st hs ((q3 st hs).1 hh),fun r' e=>⟨by have:=(hi.2 r' e).1;simp;omega,(hi.2 r' e).2.1,fun st hs=>(q3 st hs).trans ((hi.2 r' e).2.2 st hs)⟩⟩
          · subst e
            simp only [if_true]
            by_cases h4:c=4
            · subst h4
              simp only [if_true]
              have q3:∀st,st.length=d→(ey (4::r) st↔ey r2 ((4,true)::st)):=fun st hs=>(q2 st hs).trans (by rw [ey];simp [aO])
              have i4:=ih r2 (d+1) (by omega) (by omega)
              generalize dD f r2 (d+1)=o2 at i4
              match o2,i4 with
              |none,i4=>exact ⟨fun _ st hs hh=>i4.1 rfl _ (by simp [hs]) ((q3 st hs).1 hh),by simp⟩
              | some [],i4=>
                obtain ⟨_,_,i5⟩:=i4.2 [] rfl
                exact ⟨fun _ st hs hh=>(i5 ((4,true)::st) (by simp [hs])).1 ((q3 st hs).1 hh),by simp⟩
              | some (c3::r3),i4=>
                obtain ⟨l3,k3,i5⟩:=i4.2 _ rfl
                simp only [List.length_cons] at l3
                have q4:∀st,st.length=d→(ey (4::r) st↔ey (c3::r3) ((4,true)::st)):=fun st hs=>(q3 st hs).trans (i5 _ (by simp [hs]))
                rcases k3 c3 r3 rfl with e|e
                · subst e
                  have hi:=ih r3 d (by omega) hd
                  have q5:∀st,st.length=d→(ey (4::r) st↔ey r3 st):=fun st hs=>(q4 st hs).trans (by rw [ey];simp [aO])
                  simp only [show ¬((11:Int)=5) by decide,if_false]
                  exact ⟨fun e st hs hh=>hi.1 e st hs ((q5 st hs).1 hh),fun r' e=>⟨by have:=(hi.2 r' e).1;simp;omega,(hi.2 r' e).2.1,fun st hs=>(q5 st hs).trans ((hi.2 r' e).2.2 st hs)⟩⟩
                · subst e
                  simp only [if_true]
                  exact ⟨fun _ st hs hh=>by have:=(q4 st hs).1 hh;rw [ey] at this;simp [aO] at this,by simp⟩
            · simp only [h4,if_false]
              exact ⟨fun _ st hs hh=>by have:=(q2 st hs).1 hh;rw [ey] at this;simp [aO,h4] at this,by simp⟩
      · simp only [dD,h1,if_false,h2]
        have hn:∀st,ey (c::r) st↔ey r st:=fun st=>by
          rw [fY];simp only [h2,if_false]
          rw [if_neg (fun e=>h1 (.inr e)),if_neg (fun e=>h1 (.inl e))]
        have hi:=ih r d (by omega) hd
        exact ⟨fun e st hs hh=>hi.1 e st hs ((hn st).1 hh),fun r' e=>⟨by have:=(hi.2 r' e).1;simp;omega,(hi.2 r' e).2.1,fun st hs=>(hn st).trans ((hi.2 r' e).2.2 st hs)⟩⟩
theorem uq {f:Nat} {s:List Int} (h:s.length<f):ey s []↔dD f s 0=some [11]:=by
 have hi:=lO f s 0 h (by omega)
 generalize dD f s 0=o at hi
 match o,hi with
 |none,hi=>simp [hi.1 rfl [] rfl]
 |some [],hi=>simp [(hi.2 [] rfl).2.2 [] rfl,ey]
 |some (c::r),hi=>
  obtain ⟨_,k,q⟩:=hi.2 _ rfl
  rw [q [] rfl]
  rcases k c r rfl with e|e<;>subst e<;>simp [ey,aO]
end Go.Hl
end
