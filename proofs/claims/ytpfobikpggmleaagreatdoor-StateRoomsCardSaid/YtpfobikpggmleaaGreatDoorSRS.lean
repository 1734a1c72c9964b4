/-
  What the statement's proof leans on, several texts in one (packed by a program).
-/
import Derived.Test.YtpfobikpggmleaaGreatDoorSRR
set_option linter.all false
set_option maxRecDepth 1000000
set_option maxHeartbeats 4000000
section
namespace Go.Proofs.YtpfobikpggmleaaGreatDoor
open Go.Hl Go.RowKit
variable {v:mw} {x:au} {s:cU} {base:Int} {labs:List (List UInt8)}
theorem Mo (aq:nq v x s labs) (aT:¬eL x.Code) (dh:¬dM x.Code) (fX:¬cq x.Code) (ox:aQ x.Code=8):cH Tryz.prog 136 [aE (dU v),aE (aG x),aE (aW s base),ah 1 dA labs] [] (γ:=cU×Int) (vu s (fP v x s labs)) (fun _=>[]) (fun g=>bz [aE (aW g.1 base),ag .i64 g.2]):=by
 refine In 517 Tryz.func136 fun _ _ _=> ?_
 have A3:=aq.stk
 have m4:=aq.ins.A0
 have A4:=aq.ins.vo
 have oY:=aq.zI
 have hE:=aq.env
 have xq:=hE.F
 have xu:=hE.S
 have A5:=hE.L
 have A6:=hE.G
 have rT:=hE.W
 have hp1b:=aT
 have hp2b:=dh
 have hp3b:=fX
 unfold eL at hp1b
 unfold dM at hp2b
 unfold cq at hp3b
 have htl:=iE x.Code
 obtain ⟨t0,tl,Jn⟩:=Hh ox
 have ba8:1≤(aK x.Code).1.length:=by rw [Jn];simp
 have ha0:=aq.ins.a0
 have ha1:=aq.ins.QS
 refine Z4 ?_
 refine .n (bV (.t rfl)) rfl fun b6 _=> ?_
 refine .n (az FZ.out) rfl fun b8 _=> ?_
 refine yX ?_
 refine Cd (fun c0=> ?_) fun c0=> ?_
 · exfalso;omega
 refine Z7 ?_
 refine Cd (fun c1=> ?_) fun c1=> ?_
 · exfalso;omega
 refine Z5 ?_
 refine Cd (fun c2=> ?_) fun c2=> ?_
 · exfalso;omega
 refine Z6 ?_
 refine Cd (fun c3=> ?_) fun c3=> ?_
 · exfalso;omega
 refine Z6 ?_
 refine Cd (fun c4=> ?_) fun c4=> ?_
 · exfalso;omega
 refine Z6 ?_
 refine Cd (fun c5=> ?_) fun c5=> ?_
 · exfalso;omega
 refine Z6 ?_
 refine Cd (fun c6=> ?_) fun c6=> ?_
 · exfalso;omega
 refine Z6 ?_
 refine Cd (fun c7=> ?_) fun c7=> ?_
 · exfalso;omega
 refine Z6 ?_
 refine Cd (fun c8=> ?_) fun c8=> ?_
 · exfalso;omega
 refine Z7 ?_
 refine Cd (fun c9=> ?_) fun c9=> ?_
 · exfalso;omega
 refine Z6 ?_
 refine Cd (fun jH=> ?_) fun jH=> ?_
 · exfalso;omega
 refine Z5 ?_
 refine Cd (fun lH=> ?_) fun lH=> ?_
 · exfalso;omega
 refine Z7 ?_
 refine Cd (fun nj=> ?_) fun nj=> ?_
 · exfalso;omega
 refine Z5 ?_
 refine Cd (fun qJ=> ?_) fun qJ=> ?_
 · exfalso;omega
 refine Z7 ?_
 refine .p (cA (h:=iu)) rfl ?_
 refine Z7 ?_
 refine .p (cA (h:=jq)) rfl ?_
 refine DP ?_
 refine Cd (fun oT=> ?_) fun oT=> ?_
 · exfalso;omega
 refine SD ?_
 refine Cd (fun tH=> ?_) fun tH=> ?_
 ·
  refine Z9 ?_
  refine Post.aZ rfl rfl ((s,2)) (by exact dN (by decide) (by (rw [fo aT dh fX (by omega),oC ox];rcases tH with h|⟨h,h2⟩;(rw [iF h];rfl);omega)) (by omega)) (aB.dc [] [0,1] rfl rfl) rfl (.cons (.ra (i:=0) FA.out FC.out rfl rfl rfl rfl) ?_ (.cons (.rt rfl) ?_ .nil))
  · exact aa.refl _
  exact aa.refl _
 obtain ⟨wa,hw,nS⟩:=gK (L:=v.bE) m4 (fun h=>tH (.inl h))
 refine Z8 ?_
 refine .cut (σ:=Unit) (fun _=>[aF b8 (List.map af [.slice none 0 0, .bool false, .int .i64 0]),aF b6 (aW s base)]) (fun _=>[(25,ag .u8 ((bL wa:UInt8).toNat:Int))]) (fun _=>True) ?_ ?_
 ·
  refine Z6 ?_
  refine .p (cI x.A.toNat (h:=nS)) rfl ?_
  refine Z3 ?_
  refine Cd (fun uF=> ?_) fun uF=> ?_
  ·
   refine Z4 ?_
   refine .meet () trivial rfl (.get rfl (aa.of_eq (by rw [show bL wa=126 from so uF];rfl)) (.keep 8 rfl rfl))
  refine Z1 ?_
  refine .meet () trivial rfl (.get rfl (aa.of_eq (by rw [show bL wa=127 from sq uF];rfl)) (.keep 6 rfl rfl))
 intro _ _
 refine Z9 ?_
 refine Cd (fun JD=> ?_) fun JD=> ?_
 ·
  refine Z7 ?_
  refine .p (cI x.A.toNat (h:=nS)) rfl ?_
  refine Z9 ?_
  refine Cd (fun Gl=> ?_) fun Gl=> ?_
  ·
   refine dw ?_
   refine Post.aZ rfl rfl ((s,2)) (by exact dN (by decide) (by rw [fo aT dh fX (by omega),oC ox,hw,Option.bind_some];exact if_pos (.inl Gl)) (by omega)) (aB.dc [] [0,1] rfl rfl) rfl (.cons (.ra (i:=0) FA.out FC.out rfl rfl rfl rfl) ?_ (.cons (.rt rfl) ?_ .nil))
   · exact aa.refl _
   exact aa.refl _
  refine iw ?_
  refine .aY (σ:=Nat) (fun _=>[aF b8 (List.map af [.slice none 0 0, .bool false, .int .i64 0]),aF b6 (aW s base)]) (fun k=>[(26,ag .i64 ((2:Int)^k)),(27,ag .i64 (k:Int))]) (fun k=>k≤x.cR.toNat) (fun k=>x.cR.toNat-k) 0 (Nat.zero_le _) rfl ?_ ?_
  · exact (.get rfl (aa.int (by show (1:Int)=2^0;rfl)) (.get rfl (aa.refl _) (.refl _ _)))
  rintro k hk
  refine Z9 ?_
  refine Cd (fun Oz=> ?_) fun Oz=> ?_
  ·
   have hpk:=Zc (k:=k) (by omega)
   refine BY ?_
   refine .round (k+1) (by omega) (by omega) rfl ?_
   exact (.get rfl (aa.int (by show (_:Int)=2^(k+1);rw [Int.pow_succ];omega)) (.get rfl (aa.int (by omega)) ((.keep 12 rfl rfl))))
  have hkk:k=x.cR.toNat:=by omega
  subst hkk
  refine dw ?_
  refine .p (cA (h:=Dz)) rfl ?_
  refine Z3 ?_
  refine Cd (fun Mp=> ?_) fun Mp=> ?_
  ·
   refine dw ?_
   refine Post.aZ rfl rfl ((s,5)) (by exact dN (by decide) (by rw [fo aT dh fX (by omega),oC ox,hw,Option.bind_some];exact if_pos (.inr Mp)) (by omega)) (aB.dc [] [0,1] rfl rfl) rfl (.cons (.ra (i:=0) FA.out FC.out rfl rfl rfl rfl) ?_ (.cons (.rt rfl) ?_ .nil))
   · exact aa.refl _
   exact aa.refl _
  refine Z4 ?_
  refine .n (cO aj [bL wa] FU.out FC.out rfl FZ.out rfl (.cons (.t rfl) .nil) rfl rfl rfl rfl rfl) rfl fun ba9 _=> ?_
  refine Z1 ?_
  refine .p (yP FU.out FC.out rfl (.t rfl) (.c _) rfl (by omega)) rfl ?_
  refine .n (gL.fu (G:=fun g=>g) (oP:=fun _=>_) (xs:=fun _=>_) (aH (i:=0) FU.out FU.out FC.out rfl FZ.out rfl FY.out (.t rfl) (.t rfl) rfl (by rw [Jn] at htl ⊢;simp at htl ⊢;omega) (by rw [Jn] at htl ⊢;simp at htl ⊢;omega))) rfl fun _ _=> ?_
  refine Z8 ?_
  refine .n (cE (h:=bQ (s:=s) (l:=[bL wa]++List.drop 1 (aK x.Code).1) (by omega))) rfl fun oM tA=> ?_
  refine dw ?_
  refine .n (cE (h:=dB (s:=oM.1) (l:=(aK x.Code).2) (by have:=tA.2;omega) (by omega))) rfl fun OA OB=> ?_
  refine Z6 ?_
  refine Post.aZ rfl rfl ((bq oM.1 (aK x.Code).2,oM.2)) (by exact oJ (by rw [fo aT dh fX (by omega),oC ox,hw,Option.bind_some,←List.drop_one];exact if_neg (by rintro (h|h);exact Gl h;exact Mp h)) tA (by omega)) (aB.dc [] [0,1] rfl rfl) rfl (.cons (.ra (i:=0) FA.out FC.out rfl rfl rfl rfl) ?_ (.cons (.rt rfl) ?_ .nil))
  · exact aa.refl _
  exact aa.refl _
 exfalso;omega
theorem JS (aq:nq v x s labs) (aT:x.Code=63):cH Tryz.prog 136 [aE (dU v),aE (aG x),aE (aW s base),ah 1 dA labs] [] (γ:=cU×Int) (vu s (fP v x s labs)) (fun _=>[]) (fun g=>bz [aE (aW g.1 base),ag .i64 g.2]):=by
 refine In 517 Tryz.func136 fun _ _ _=> ?_
 have A3:=aq.stk
 have m4:=aq.ins.A0
 have A4:=aq.ins.vo
 have oY:=aq.zI
 have hE:=aq.env
 have xq:=hE.F
 have xu:=hE.S
 have A5:=hE.L
 have A6:=hE.G
 have rT:=hE.W
 have hf:aQ x.Code=9:=by rw [aT];decide
 have htl:=iE x.Code
 refine Z4 ?_
 refine .n (bV (.t rfl)) rfl fun b6 _=> ?_
 refine .n (az FZ.out) rfl fun b8 _=> ?_
 refine yX ?_
 refine Cd (fun c0=> ?_) fun c0=> ?_
 · exfalso;omega
 refine Z7 ?_
 refine Cd (fun c1=> ?_) fun c1=> ?_
 · exfalso;omega
 refine Z5 ?_
 refine Cd (fun c2=> ?_) fun c2=> ?_
 · exfalso;omega
 refine Z6 ?_
 refine Cd (fun c3=> ?_) fun c3=> ?_
 · exfalso;omega
 refine Z6 ?_
 refine Cd (fun c4=> ?_) fun c4=> ?_
 · exfalso;omega
 refine Z6 ?_
 refine Cd (fun c5=> ?_) fun c5=> ?_
 · exfalso;omega
 refine Z6 ?_
 refine Cd (fun c6=> ?_) fun c6=> ?_
 · exfalso;omega
 refine Z6 ?_
 refine Cd (fun c7=> ?_) fun c7=> ?_
 · exfalso;omega
 refine Z6 ?_
 refine Cd (fun c8=> ?_) fun c8=> ?_
 · exfalso;omega
 refine Z7 ?_
 refine Cd (fun c9=> ?_) fun c9=> ?_
 · exfalso;omega
 refine Z6 ?_
 refine Cd (fun jH=> ?_) fun jH=> ?_
 · exfalso;omega
 refine Z5 ?_
 refine Cd (fun lH=> ?_) fun lH=> ?_
 · exfalso;omega
 refine Z7 ?_
 refine Cd (fun nj=> ?_) fun nj=> ?_
 · exfalso;omega
 refine Z5 ?_
 refine Cd (fun qJ=> ?_) fun qJ=> ?_
 · exfalso;omega
 refine Z7 ?_
 refine .p (cA (h:=iu)) rfl ?_
 refine Z7 ?_
 refine .p (cA (h:=jq)) rfl ?_
 refine DP ?_
 refine Cd (fun oT=> ?_) fun oT=> ?_
 · exfalso;omega
 refine SD ?_
 refine Cd (fun tH=> ?_) fun tH=> ?_
 ·
  refine Z9 ?_
  refine Post.aZ rfl rfl ((s,2)) (by exact dN (by decide) (by (rw [fo (by unfold eL;omega) (by unfold dM;omega) (by unfold cq;omega) (by omega),vP aT];rcases tH with h|⟨h,h2⟩;(rw [iF h];rfl);omega)) (by omega)) (aB.dc [] [0,1] rfl rfl) rfl (.cons (.ra (i:=0) FA.out FC.out rfl rfl rfl rfl) ?_ (.cons (.rt rfl) ?_ .nil))
  · exact aa.refl _
  exact aa.refl _
 obtain ⟨wa,hw,nS⟩:=gK (L:=v.bE) m4 (fun h=>tH (.inl h))
 refine Z8 ?_
 refine .cut (σ:=Unit) (fun _=>[aF b8 (List.map af [.slice none 0 0, .bool false, .int .i64 0]),aF b6 (aW s base)]) (fun _=>[(25,ag .u8 ((bL wa:UInt8).toNat:Int))]) (fun _=>True) ?_ ?_
 ·
  refine Z6 ?_
  refine .p (cI x.A.toNat (h:=nS)) rfl ?_
  refine Z3 ?_
  refine Cd (fun uF=> ?_) fun uF=> ?_
  ·
   refine Z4 ?_
   refine .meet () trivial rfl (.get rfl (aa.of_eq (by rw [show bL wa=126 from so uF];rfl)) (.keep 8 rfl rfl))
  refine Z1 ?_
  refine .meet () trivial rfl (.get rfl (aa.of_eq (by rw [show bL wa=127 from sq uF];rfl)) (.keep 6 rfl rfl))
 intro _ _
 refine Z9 ?_
 refine Cd (fun JD=> ?_) fun JD=> ?_
 · exfalso;omega
 refine Z8 ?_
 refine Cd (fun Gl=> ?_) fun Gl=> ?_
 ·
  refine Z2 ?_
  refine .p (cB aj [bL wa]) rfl ?_
  refine Z8 ?_
  refine .n (cE (h:=bQ (s:=s) (l:=(aK x.Code).1) (by omega))) rfl fun oM tA=> ?_
  refine dw ?_
  refine .n (cE (h:=dB (s:=oM.1) (l:=[bL wa]) (by have:=tA.2;omega) (by simp))) rfl fun OA OB=> ?_
  refine Z6 ?_
  refine Post.aZ rfl rfl ((bq oM.1 [bL wa],oM.2)) (by exact oJ (by rw [fo (by unfold eL;omega) (by unfold dM;omega) (by unfold cq;omega) (by omega),vP aT,hw,Option.bind_some,show (aK x.Code).1=[] by rw [aT];rfl];rfl) tA (by simp)) (aB.dc [] [0,1] rfl rfl) rfl (.cons (.ra (i:=0) FA.out FC.out rfl rfl rfl rfl) ?_ (.cons (.rt rfl) ?_ .nil))
  · exact aa.refl _
  exact aa.refl _
 exfalso;omega
theorem JT (aq:nq v x s labs) (aT:x.Code=64):cH Tryz.prog 136 [aE (dU v),aE (aG x),aE (aW s base),ah 1 dA labs] [] (γ:=cU×Int) (vu s (fP v x s labs)) (fun _=>[]) (fun g=>bz [aE (aW g.1 base),ag .i64 g.2]):=by
 refine In 517 Tryz.func136 fun _ _ _=> ?_
 have A3:=aq.stk
 have m4:=aq.ins.A0
 have A4:=aq.ins.vo
 have oY:=aq.zI
 have hE:=aq.env
 have xq:=hE.F
 have xu:=hE.S
 have A5:=hE.L
 have A6:=hE.G
 have rT:=hE.W
 have hf:aQ x.Code=9:=by rw [aT];decide
 have htl:=iE x.Code
 refine Z4 ?_
 refine .n (bV (.t rfl)) rfl fun b6 _=> ?_
 refine .n (az FZ.out) rfl fun b8 _=> ?_
 refine yX ?_
 refine Cd (fun c0=> ?_) fun c0=> ?_
 · exfalso;omega
 refine Z7 ?_
 refine Cd (fun c1=> ?_) fun c1=> ?_
 · exfalso;omega
 refine Z5 ?_
 refine Cd (fun c2=> ?_) fun c2=> ?_
 · exfalso;omega
 refine Z6 ?_
 refine Cd (fun c3=> ?_) fun c3=> ?_
 · exfalso;omega
 refine Z6 ?_
 refine Cd (fun c4=> ?_) fun c4=> ?_
 · exfalso;omega
 refine Z6 ?_
 refine Cd (fun c5=> ?_) fun c5=> ?_
 · exfalso;omega
 refine Z6 ?_
 refine Cd (fun c6=> ?_) fun c6=> ?_
 · exfalso;omega
 refine Z6 ?_
 refine Cd (fun c7=> ?_) fun c7=> ?_
 · exfalso;omega
 refine Z6 ?_
 refine Cd (fun c8=> ?_) fun c8=> ?_
 · exfalso;omega
 refine Z7 ?_
 refine Cd (fun c9=> ?_) fun c9=> ?_
 · exfalso;omega
 refine Z6 ?_
 refine Cd (fun jH=> ?_) fun jH=> ?_
 · exfalso;omega
 refine Z5 ?_
 refine Cd (fun lH=> ?_) fun lH=> ?_
 · exfalso;omega
 refine Z7 ?_
 refine Cd (fun nj=> ?_) fun nj=> ?_
 · exfalso;omega
 refine Z5 ?_
 refine Cd (fun qJ=> ?_) fun qJ=> ?_
 · exfalso;omega
 refine Z7 ?_
 refine .p (cA (h:=iu)) rfl ?_
 refine Z7 ?_
 refine .p (cA (h:=jq)) rfl ?_
 refine DP ?_
 refine Cd (fun oT=> ?_) fun oT=> ?_
 · exfalso;omega
 refine SD ?_
 refine Cd (fun tH=> ?_) fun tH=> ?_
 ·
  refine Z9 ?_
  refine Post.aZ rfl rfl ((s,2)) (by exact dN (by decide) (by (rw [fo (by unfold eL;omega) (by unfold dM;omega) (by unfold cq;omega) (by omega),tc aT];rcases tH with h|⟨h,h2⟩;(rw [iF h];rfl);omega)) (by omega)) (aB.dc [] [0,1] rfl rfl) rfl (.cons (.ra (i:=0) FA.out FC.out rfl rfl rfl rfl) ?_ (.cons (.rt rfl) ?_ .nil))
  · exact aa.refl _
  exact aa.refl _
 obtain ⟨wa,hw,nS⟩:=gK (L:=v.bE) m4 (fun h=>tH (.inl h))
 refine Z8 ?_
 refine .cut (σ:=Unit) (fun _=>[aF b8 (List.map af [.slice none 0 0, .bool false, .int .i64 0]),aF b6 (aW s base)]) (fun _=>[(25,ag .u8 ((bL wa:UInt8).toNat:Int))]) (fun _=>True) ?_ ?_
 ·
  refine Z6 ?_
  refine .p (cI x.A.toNat (h:=nS)) rfl ?_
  refine Z3 ?_
  refine Cd (fun uF=> ?_) fun uF=> ?_
  ·
   refine Z4 ?_
   refine .meet () trivial rfl (.get rfl (aa.of_eq (by rw [show bL wa=126 from so uF];rfl)) (.keep 8 rfl rfl))
  refine Z1 ?_
  refine .meet () trivial rfl (.get rfl (aa.of_eq (by rw [show bL wa=127 from sq uF];rfl)) (.keep 6 rfl rfl))
 intro _ _
 refine Z9 ?_
 refine Cd (fun JD=> ?_) fun JD=> ?_
 · exfalso;omega
 refine Z8 ?_
 refine Cd (fun Gl=> ?_) fun Gl=> ?_
 · exfalso;omega
 refine Z8 ?_
 refine Cd (fun Oz=> ?_) fun Oz=> ?_
 ·
  refine Z2 ?_
  refine .p (cB aj [bL wa]) rfl ?_
  refine Z1 ?_
  refine .p (cB aj [bL wa]) rfl ?_
  refine Z9 ?_
  refine .n (cE (h:=bQ (s:=s) (l:=[bL wa]) (by omega))) rfl fun oM tA=> ?_
  refine dw ?_
  refine .n (cE (h:=dB (s:=oM.1) (l:=[bL wa]) (by have:=tA.2;omega) (by simp))) rfl fun OA OB=> ?_
  refine Z6 ?_
  refine Post.aZ rfl rfl ((bq oM.1 [bL wa],oM.2)) (by exact oJ (by rw [fo (by unfold eL;omega) (by unfold dM;omega) (by unfold cq;omega) (by omega),tc aT,hw,Option.bind_some]) tA (by simp)) (aB.dc [] [0,1] rfl rfl) rfl (.cons (.ra (i:=0) FA.out FC.out rfl rfl rfl rfl) ?_ (.cons (.rt rfl) ?_ .nil))
  · exact aa.refl _
  exact aa.refl _
 exfalso;omega
theorem DB (aq:nq v x s labs) (aT:x.Code=64523):cH Tryz.prog 136 [aE (dU v),aE (aG x),aE (aW s base),ah 1 dA labs] [] (γ:=cU×Int) (vu s (fP v x s labs)) (fun _=>[]) (fun g=>bz [aE (aW g.1 base),ag .i64 g.2]):=by
 refine In 517 Tryz.func136 fun _ _ _=> ?_
 have A3:=aq.stk
 have m4:=aq.ins.A0
 have A4:=aq.ins.vo
 have oY:=aq.zI
 have hE:=aq.env
 have xq:=hE.F
 have xu:=hE.S
 have A5:=hE.L
 have A6:=hE.G
 have rT:=hE.W
 have hf:aQ x.Code=9:=by rw [aT];decide
 have htl:=iE x.Code
 refine Z4 ?_
 refine .n (bV (.t rfl)) rfl fun b6 _=> ?_
 refine .n (az FZ.out) rfl fun b8 _=> ?_
 refine yX ?_
 refine Cd (fun c0=> ?_) fun c0=> ?_
 · exfalso;omega
 refine Z7 ?_
 refine Cd (fun c1=> ?_) fun c1=> ?_
 · exfalso;omega
 refine Z5 ?_
 refine Cd (fun c2=> ?_) fun c2=> ?_
 · exfalso;omega
 refine Z6 ?_
 refine Cd (fun c3=> ?_) fun c3=> ?_
 · exfalso;omega
 refine Z6 ?_
 refine Cd (fun c4=> ?_) fun c4=> ?_
 · exfalso;omega
 refine Z6 ?_
 refine Cd (fun c5=> ?_) fun c5=> ?_
 · exfalso;omega
 refine Z6 ?_
 refine Cd (fun c6=> ?_) fun c6=> ?_
 · exfalso;omega
 refine Z6 ?_
 refine Cd (fun c7=> ?_) fun c7=> ?_
 · exfalso;omega
 refine Z6 ?_
 refine Cd (fun c8=> ?_) fun c8=> ?_
 · exfalso;omega
 refine Z7 ?_
 refine Cd (fun c9=> ?_) fun c9=> ?_
 · exfalso;omega
 refine Z6 ?_
 refine Cd (fun jH=> ?_) fun jH=> ?_
 · exfalso;omega
 refine Z5 ?_
 refine Cd (fun lH=> ?_) fun lH=> ?_
 · exfalso;omega
 refine Z7 ?_
 refine Cd (fun nj=> ?_) fun nj=> ?_
 · exfalso;omega
 refine Z5 ?_
 refine Cd (fun qJ=> ?_) fun qJ=> ?_
 · exfalso;omega
 refine Z7 ?_
 refine .p (cA (h:=iu)) rfl ?_
 refine Z7 ?_
 refine .p (cA (h:=jq)) rfl ?_
 refine DP ?_
 refine Cd (fun oT=> ?_) fun oT=> ?_
 · exfalso;omega
 refine SD ?_
 refine Cd (fun tH=> ?_) fun tH=> ?_
 ·
  refine Z9 ?_
  refine Post.aZ rfl rfl ((s,2)) (by exact dN (by decide) (by (rw [fo (by unfold eL;omega) (by unfold dM;omega) (by unfold cq;omega) (by omega),nN aT];rcases tH with h|⟨h,h2⟩;(rw [iF h];rfl);omega)) (by omega)) (aB.dc [] [0,1] rfl rfl) rfl (.cons (.ra (i:=0) FA.out FC.out rfl rfl rfl rfl) ?_ (.cons (.rt rfl) ?_ .nil))
  · exact aa.refl _
  exact aa.refl _
 obtain ⟨wa,hw,nS⟩:=gK (L:=v.bE) m4 (fun h=>tH (.inl h))
 refine Z8 ?_
 refine .cut (σ:=Unit) (fun _=>[aF b8 (List.map af [.slice none 0 0, .bool false, .int .i64 0]),aF b6 (aW s base)]) (fun _=>[(25,ag .u8 ((bL wa:UInt8).toNat:Int))]) (fun _=>True) ?_ ?_
 ·
  refine Z6 ?_
  refine .p (cI x.A.toNat (h:=nS)) rfl ?_
  refine Z3 ?_
  refine Cd (fun uF=> ?_) fun uF=> ?_
  ·
   refine Z4 ?_
   refine .meet () trivial rfl (.get rfl (aa.of_eq (by rw [show bL wa=126 from so uF];rfl)) (.keep 8 rfl rfl))
  refine Z1 ?_
  refine .meet () trivial rfl (.get rfl (aa.of_eq (by rw [show bL wa=127 from sq uF];rfl)) (.keep 6 rfl rfl))
 intro _ _
 refine Z9 ?_
 refine Cd (fun JD=> ?_) fun JD=> ?_
 · exfalso;omega
 refine Z8 ?_
 refine Cd (fun Gl=> ?_) fun Gl=> ?_
 · exfalso;omega
 refine Z8 ?_
 refine Cd (fun Oz=> ?_) fun Oz=> ?_
 · exfalso;omega
 refine Z8 ?_
 refine Cd (fun Mp=> ?_) fun Mp=> ?_
 ·
  refine Z4 ?_
  refine .p (cB aj [bL wa,127,bL wa]) rfl ?_
  refine Z8 ?_
  refine .n (cE (h:=bQ (s:=s) (l:=[bL wa,127,bL wa]) (by omega))) rfl fun oM tA=> ?_
  refine dw ?_
  refine .n (cE (h:=dB (s:=oM.1) (l:=(aK x.Code).2) (by have:=tA.2;omega) (by omega))) rfl fun OA OB=> ?_
  refine Z6 ?_
  refine Post.aZ rfl rfl ((bq oM.1 (aK x.Code).2,oM.2)) (by exact oJ (by rw [fo (by unfold eL;omega) (by unfold dM;omega) (by unfold cq;omega) (by omega),nN aT,hw,Option.bind_some,show (aK x.Code).2=[] by rw [aT];rfl,mU]) tA (by omega)) (aB.dc [] [0,1] rfl rfl) rfl (.cons (.ra (i:=0) FA.out FC.out rfl rfl rfl rfl) ?_ (.cons (.rt rfl) ?_ .nil))
  · exact aa.refl _
  exact aa.refl _
 exfalso;omega
theorem DC (aq:nq v x s labs) (aT:x.Code=64522):cH Tryz.prog 136 [aE (dU v),aE (aG x),aE (aW s base),ah 1 dA labs] [] (γ:=cU×Int) (vu s (fP v x s labs)) (fun _=>[]) (fun g=>bz [aE (aW g.1 base),ag .i64 g.2]):=by
 refine In 517 Tryz.func136 fun _ _ _=> ?_
 have A3:=aq.stk
 have m4:=aq.ins.A0
 have A4:=aq.ins.vo
 have oY:=aq.zI
 have hE:=aq.env
 have xq:=hE.F
 have xu:=hE.S
 have A5:=hE.L
 have A6:=hE.G
 have rT:=hE.W
 have hf:aQ x.Code=10:=by rw [aT];decide
 have htl:=iE x.Code
 have W2:=aq.ins.B0
 have hB6:=aq.ins.WU
 refine Z4 ?_
 refine .n (bV (.t rfl)) rfl fun b6 _=> ?_
 refine .n (az FZ.out) rfl fun b8 _=> ?_
 refine yX ?_
 refine Cd (fun c0=> ?_) fun c0=> ?_
 · exfalso;omega
 refine Z7 ?_
 refine Cd (fun c1=> ?_) fun c1=> ?_
 · exfalso;omega
 refine Z5 ?_
 refine Cd (fun c2=> ?_) fun c2=> ?_
 · exfalso;omega
 refine Z6 ?_
 refine Cd (fun c3=> ?_) fun c3=> ?_
 · exfalso;omega
 refine Z6 ?_
 refine Cd (fun c4=> ?_) fun c4=> ?_
 · exfalso;omega
 refine Z6 ?_
 refine Cd (fun c5=> ?_) fun c5=> ?_
 · exfalso;omega
 refine Z6 ?_
 refine Cd (fun c6=> ?_) fun c6=> ?_
 · exfalso;omega
 refine Z6 ?_
 refine Cd (fun c7=> ?_) fun c7=> ?_
 · exfalso;omega
 refine Z6 ?_
 refine Cd (fun c8=> ?_) fun c8=> ?_
 · exfalso;omega
 refine Z7 ?_
 refine Cd (fun c9=> ?_) fun c9=> ?_
 · exfalso;omega
 refine Z6 ?_
 refine Cd (fun jH=> ?_) fun jH=> ?_
 · exfalso;omega
 refine Z5 ?_
 refine Cd (fun lH=> ?_) fun lH=> ?_
 · exfalso;omega
 refine Z7 ?_
 refine Cd (fun nj=> ?_) fun nj=> ?_
 · exfalso;omega
 refine Z5 ?_
 refine Cd (fun qJ=> ?_) fun qJ=> ?_
 · exfalso;omega
 refine Z7 ?_
 refine .p (cA (h:=iu)) rfl ?_
 refine Z7 ?_
 refine .p (cA (h:=jq)) rfl ?_
 refine DP ?_
 refine Cd (fun oT=> ?_) fun oT=> ?_
 · exfalso;omega
 refine SD ?_
 refine Cd (fun tH=> ?_) fun tH=> ?_
 ·
  refine Z9 ?_
  refine Post.aZ rfl rfl ((s,2)) (by exact dN (by decide) (by (rw [fo (by unfold eL;omega) (by unfold dM;omega) (by unfold cq;omega) (by omega),lP aT];rcases tH with h|⟨h,h2⟩;(rw [iF h];rfl);(cases dL v.bE x.A with|none=>rfl|some g=>rw [Option.bind_some,iF h2];rfl))) (by omega)) (aB.dc [] [0,1] rfl rfl) rfl (.cons (.ra (i:=0) FA.out FC.out rfl rfl rfl rfl) ?_ (.cons (.rt rfl) ?_ .nil))
  · exact aa.refl _
  exact aa.refl _
 obtain ⟨wa,hw,nS⟩:=gK (L:=v.bE) m4 (fun h=>tH (.inl h))
 obtain ⟨wb,hx,vO⟩:=gK (L:=v.bE) W2 (fun h=>tH (.inr ⟨by omega,h⟩))
 refine Z8 ?_
 refine .cut (σ:=Unit) (fun _=>[aF b8 (List.map af [.slice none 0 0, .bool false, .int .i64 0]),aF b6 (aW s base)]) (fun _=>[(25,ag .u8 ((bL wa:UInt8).toNat:Int))]) (fun _=>True) ?_ ?_
 ·
  refine Z6 ?_
  refine .p (cI x.A.toNat (h:=nS)) rfl ?_
  refine Z3 ?_
  refine Cd (fun uF=> ?_) fun uF=> ?_
  ·
   refine Z4 ?_
   refine .meet () trivial rfl (.get rfl (aa.of_eq (by rw [show bL wa=126 from so uF];rfl)) (.keep 8 rfl rfl))
  refine Z1 ?_
  refine .meet () trivial rfl (.get rfl (aa.of_eq (by rw [show bL wa=127 from sq uF];rfl)) (.keep 6 rfl rfl))
 intro _ _
 refine Z9 ?_
 refine Cd (fun JD=> ?_) fun JD=> ?_
 · exfalso;omega
 refine Z8 ?_
 refine Cd (fun Gl=> ?_) fun Gl=> ?_
 · exfalso;omega
 refine Z8 ?_
 refine Cd (fun Oz=> ?_) fun Oz=> ?_
 · exfalso;omega
 refine Z8 ?_
 refine Cd (fun Mp=> ?_) fun Mp=> ?_
 · exfalso;omega
 refine Z8 ?_
 refine .cut (σ:=Unit) (fun _=>[aF b8 (List.map af [.slice none 0 0, .bool false, .int .i64 0]),aF b6 (aW s base)]) (fun _=>[(28,ag .u8 ((bL wb:UInt8).toNat:Int))]) (fun _=>True) ?_ ?_
 ·
  refine Z6 ?_
  refine .p (cI x.B.toNat (h:=vO)) rfl ?_
  refine Z3 ?_
  refine Cd (fun TQ=> ?_) fun TQ=> ?_
  ·
   refine Z4 ?_
   refine .meet () trivial rfl (.get rfl (aa.of_eq (by rw [show bL wb=126 from so TQ];rfl)) (.keep 8 rfl rfl))
  refine Z1 ?_
  refine .meet () trivial rfl (.get rfl (aa.of_eq (by rw [show bL wb=127 from sq TQ];rfl)) (.keep 6 rfl rfl))
 intro _ _
 refine .cut (σ:=Unit) (fun _=>[aF b8 (List.map af [.slice none 0 0, .bool false, .int .i64 0]),aF b6 (aW s base)]) (fun _=>[(29,ag .u8 ((bL (wa∧wb):UInt8).toNat:Int))]) (fun _=>True) ?_ ?_
 ·
  refine dH ?_
  refine Cd (fun PD=> ?_) fun PD=> ?_
  ·
   refine Z4 ?_
   refine .meet () trivial rfl (.get rfl (aa.of_eq (by rw [show bL (wa∧wb)=126 from so ⟨kO.1 PD.1,kO.1 PD.2⟩];rfl)) (.keep 10 rfl rfl))
  refine Z1 ?_
  refine .meet () trivial rfl (.get rfl (aa.of_eq (by rw [show bL (wa∧wb)=127 from sq (fun h=>PD ⟨kO.2 h.1,kO.2 h.2⟩)];rfl)) (.keep 8 rfl rfl))
 intro _ _
 refine Z4 ?_
 refine .p (cB aj [bL wa,bL wb,bL (wa∧wb)]) rfl ?_
 refine Z8 ?_
 refine .n (cE (h:=bQ (s:=s) (l:=[bL wa,bL wb,bL (wa∧wb)]) (by omega))) rfl fun oM tA=> ?_
 refine dw ?_
 refine .n (cE (h:=dB (s:=oM.1) (l:=(aK x.Code).2) (by have:=tA.2;omega) (by omega))) rfl fun OA OB=> ?_
 refine Z6 ?_
 refine Post.aZ rfl rfl ((bq oM.1 (aK x.Code).2,oM.2)) (by exact oJ (by rw [fo (by unfold eL;omega) (by unfold dM;omega) (by unfold cq;omega) (by omega),lP aT,hw,Option.bind_some,hx,Option.bind_some,show (aK x.Code).2=[] by rw [aT];rfl,mU]) tA (by omega)) (aB.dc [] [0,1] rfl rfl) rfl (.cons (.ra (i:=0) FA.out FC.out rfl rfl rfl rfl) ?_ (.cons (.rt rfl) ?_ .nil))
 · exact aa.refl _
 exact aa.refl _
end Go.Proofs.YtpfobikpggmleaaGreatDoor
end
section
namespace Go.Proofs.YtpfobikpggmleaaGreatDoor
open Go.Hl Go.RowKit
theorem DD {v:mw} {x:au} {s:cU} {base:Int} {labs:List (List UInt8)} (hp:nq v x s labs) (hn:¬(x.Code=2∨x.Code=3∨x.Code=4∨x.Code=5∨x.Code=11)):
    cH Tryz.prog 136 [aE (dU v),aE (aG x),aE (aW s base),ah 1 dA labs] [] (γ:=cU×Int) (vu s (fP v x s labs)) (fun _=>[]) (fun g=>bz [aE (aW g.1 base),ag .i64 g.2]):=by
  by_cases h0:x.Code=0
  · exact Ml hp h0
  by_cases h12:x.Code=12
  · exact JE hp h12
  by_cases W4:x.Code=13
  · exact JF hp W4
  by_cases vI:x.Code=14
  · exact JL hp vI
  by_cases Bq:x.Code=15
  · exact JG hp Bq
  by_cases QB:x.Code=16
  · exact JH hp QB
  by_cases G5:x.Code=17
  · exact JM hp G5
  by_cases Tx:x.Code=26
  · exact JI hp Tx
  by_cases h27:x.Code=27
  · exact JJ hp h27
  by_cases MF:x.Code=32
  · exact JN hp MF
  by_cases WX:x.Code=33
  · exact JO hp WX
  by_cases L7:x.Code=34
  · exact JP hp L7
  by_cases h35:x.Code=35
  · exact JQ hp h35
  by_cases WN:x.Code=36
  · exact JR hp WN
  by_cases h63:x.Code=63
  · exact JS hp h63
  by_cases QF:x.Code=64
  · exact JT hp QF
  by_cases hfl:x.Code=64523
  · exact DB hp hfl
  by_cases hcp:x.Code=64522
  · exact DC hp hcp
  have c1:¬eL x.Code:=by unfold eL;omega
  have c2:¬dM x.Code:=by unfold dM;omega
  have c3:¬cq x.Code:=by unfold cq;omega
  by_cases YW:aQ x.Code=8
  · exact Mo hp c1 c2 c3 YW
  refine DA hp c1 c2 c3 ?_
  have n9:aQ x.Code≠9:=fun h=>by have:=LS h;omega
  have n10:aQ x.Code≠10:=fun h=>by have:=Hg h;omega
  rcases Int.lt_or_le (aQ x.Code) 8 with h|h
  · exact .inl h
  · exact .inr (by omega)
end Go.Proofs.YtpfobikpggmleaaGreatDoor
namespace Go.Hl
open Go.RowKit
noncomputable abbrev sr (v:mw):=Dw (fun x:au=>x.Code) dW (fP v)
section
variable {v:mw} {l:List au} {x:au} {i d vW base:Nat} {labs:List (List UInt8)} {res:List UInt8} {s s1:cU} {hs:List Nat}
theorem fO {α:Type} {l:List α} {i:Nat} {x:α} (h:l[i]?=some x):l.drop i=x::l.drop (i+1):=by
 obtain ⟨h1,h2⟩:=List.getElem?_eq_some_iff.1 h
 rw [List.drop_eq_getElem_cons h1,h2]
def su (x:au):List UInt8:=if x.Code=3 then [] else dW x
abbrev PE (x:au) (s:cU) (o:Option cU):Prop:=(x.Code=4→o=cF s [127])∧(x.Code≠4→o=some s)
theorem uG {o:Option cU} (h:PE x s o) [Decidable (x.Code=4)]:(if x.Code=4 then cF s [127] else some s)=o:=by
 by_cases h4:x.Code=4
 · rw [if_pos h4,h.1 h4]
 · rw [if_neg h4,h.2 h4]
theorem OC [Decidable (x.Code=3)]:(if x.Code=3 then [] else dW x)=su x:=by
 unfold su;by_cases h:x.Code=3
 · rw [if_pos h,if_pos h]
 · rw [if_neg h,if_neg h]
theorem tB (x:au):(dW x).length≤1:=by unfold dW;split<;>simp
theorem OD (x:au):(su x).length≤1:=by
 unfold su;split
 · simp
 · exact tB x
theorem OE (hx:l[i]?=some x) (h:x.Code=11∨x.Code=5) (hc:∃s',cF s res=some s'∧s'.1=[]):sr v (l.drop i) labs res s base=some ([base+s.1.length],l.drop i):=by
 rw [fO hx];exact Oj h hc
theorem Gp (hx:l[i]?=some x) (h:x.Code=11∨x.Code=5) (hc:¬∃s',cF s res=some s'∧s'.1=[]):sr v (l.drop i) labs res s base=none:=by
 rw [fO hx];exact Gg h hc
theorem zJ (hx:l[i]?=some x) (h1:¬(x.Code=11∨x.Code=5)) (h2:¬aO x.Code):sr v (l.drop i) labs res s base=(fP v x s labs).bind fun s1=>(sr v (l.drop (i+1)) labs res s1 base).map fun p=>((base+s.1.length)::p.1,p.2):=by
 rw [fO hx];exact Jy h1 h2
def nQ (v:mw) (l:List au) (labs:List (List UInt8)) (res:List UInt8) (base d:Nat) (vW:Nat) (s0:cU) (i:Nat) (s:cU) (pre:List Nat):Prop:=
 mG (fun x:au=>x.Code) (l.drop i) d∧sr v (l.drop vW) labs res s0 base=(sr v (l.drop i) labs res s base).map fun p=>(pre++p.1,p.2)
theorem nQ.refl (h:mG (fun x:au=>x.Code) (l.drop vW) d):nQ v l labs res base d vW s vW s []:=⟨h,by simp⟩
theorem nQ.trans {a:Nat} {s0:cU} {pre p2:List Nat} {k:Nat} {s2:cU} (h:nQ v l labs res base d a s0 i s pre) (h2:nQ v l labs res base d i s k s2 p2):nQ v l labs res base d a s0 k s2 (pre++p2):=
 ⟨h2.1,by rw [h.2,h2.2,Option.map_map];congr 1;funext p;simp⟩
theorem nQ.plain {s2:cU} (hok:mG (fun x:au=>x.Code) (l.drop i) d) (hx:l[i]?=some x) (h1:¬(x.Code=11∨x.Code=5)) (h2:¬aO x.Code) (hp:fP v x s labs=some s2):nQ v l labs res base d i s (i+1) s2 [base+s.1.length]:=
 ⟨Gh (by rw [←fO hx];exact hok) h1 h2,by rw [zJ hx h1 h2,hp];rfl⟩
theorem nQ.none {a:Nat} {s0:cU} {pre:List Nat} (h:nQ v l labs res base d a s0 i s pre) (hn:sr v (l.drop i) labs res s base=Option.none):sr v (l.drop a) labs res s0 base=Option.none:=by rw [h.2,hn];rfl
theorem A8 (hx:l[i]?=some x) (h1:¬(x.Code=11∨x.Code=5)) (h2:¬aO x.Code) (hp:fP v x s labs=none):sr v (l.drop i) labs res s base=none:=by rw [zJ hx h1 h2,hp];rfl
noncomputable abbrev MS (v:mw) (l:List au) (labs:List (List UInt8)) (x:au) (base:Nat) (s1:cU) (k:Nat):=sr v (l.drop k) (labs++[su x]) (dW x) ([],False) (base+s1.1.length)
theorem nR (hx:l[i]?=some x) (h2:aO x.Code):sr v (l.drop i) labs res s base=((if x.Code=4 then cF s [127] else some s).bind fun s1=>
      (MS v l labs x base s1 (i+1)).bind fun p=>
      match p.2 with
      |[]=>none
      | x2::r2=>
        if x2.Code=5 then
          (sr v r2 (labs++[su x]) (dW x) ([],False) (base+s1.1.length)).bind fun p2=>
          match p2.2 with
          |[]=>none
          |_::r3=>(sr v r3 labs res (bq s1 (dW x)) base).map fun p3=>((base+s.1.length)::p.1++p2.1++p3.1,p3.2)
        else if x.Code=4∧dW x≠[] then none
        else (sr v r2 labs res (bq s1 (dW x)) base).map fun p3=>((base+s.1.length)::p.1++p3.1,p3.2)):=by
  rw [fO hx,sr,Mc (by unfold aO at h2;omega) h2]
  simp only [OC]
  refine Option.bind_congr fun s1 _=> ?_
  unfold MS
  refine Option.bind_congr fun p _=> ?_
  obtain ⟨ha,la⟩:=p
  cases la with
  |nil=>rfl
  | cons x2 r2=>
    dsimp only
    by_cases h5:x2.Code=5
    · rw [if_pos h5,if_pos h5]
      refine Option.bind_congr fun p2 _=> ?_
      obtain ⟨hb,lb⟩:=p2
      cases lb<;>rfl
    · rw [if_neg h5,if_neg h5]
theorem A9 (hx:l[i]?=some x) (h2:aO x.Code) (h:PE x s none):sr v (l.drop i) labs res s base=none:=by
 rw [nR hx h2,uG h];rfl
theorem Ba (hx:l[i]?=some x) (h2:aO x.Code) (h:PE x s (some s1)) (hi:MS v l labs x base s1 (i+1)=none):sr v (l.drop i) labs res s base=none:=by
 rw [nR hx h2,uG h,Option.bind_some,hi];rfl
theorem Bb {k:Nat} {h1:List Nat} {x2:au} (hok:mG (fun x:au=>x.Code) (l.drop i) d) (hx:l[i]?=some x) (h2:aO x.Code) (h:PE x s (some s1)) (hi:MS v l labs x base s1 (i+1)=some (h1,l.drop k)) (vO:l[k]?=some x2) (h5:¬x2.Code=5) (h4:¬(x.Code=4∧dW x≠[])):
    nQ v l labs res base d i s (k+1) (bq s1 (dW x)) ((base+s.1.length)::h1):=by
  rw [fO hx] at hok
  rw [fO vO] at hi
  refine ⟨((sk hok h2 hi).resolve_right (fun h=>h5 h.1)).2, ?_⟩
  rw [nR hx h2,uG h,Option.bind_some,hi,Option.bind_some]
  simp only
  rw [if_neg h5,if_neg h4]
theorem Bc {k:Nat} {h1:List Nat} {x2:au} (hx:l[i]?=some x) (h2:aO x.Code) (h:PE x s (some s1)) (hi:MS v l labs x base s1 (i+1)=some (h1,l.drop k)) (vO:l[k]?=some x2) (h5:¬x2.Code=5) (h4:x.Code=4∧dW x≠[]):
    sr v (l.drop i) labs res s base=none:=by
  rw [fO vO] at hi
  rw [nR hx h2,uG h,Option.bind_some,hi,Option.bind_some]
  simp only
  rw [if_neg h5,if_pos h4]
theorem Bd {k:Nat} {h1:List Nat} {x2:au} (hx:l[i]?=some x) (h2:aO x.Code) (h:PE x s (some s1)) (hi:MS v l labs x base s1 (i+1)=some (h1,l.drop k)) (vO:l[k]?=some x2) (h5:x2.Code=5) (hi2:MS v l labs x base s1 (k+1)=none):
    sr v (l.drop i) labs res s base=none:=by
  rw [fO vO] at hi
  rw [nR hx h2,uG h,Option.bind_some,hi,Option.bind_some]
  simp only
  rw [if_pos h5,show sr v (l.drop (k+1)) (labs++[su x]) (dW x) ([],False) (base+s1.1.length)=none from hi2];rfl
theorem Be {k k2:Nat} {h1 h3:List Nat} {x2 x3:au} (hok:mG (fun x:au=>x.Code) (l.drop i) d) (hx:l[i]?=some x) (h2:aO x.Code) (h:PE x s (some s1)) (hi:MS v l labs x base s1 (i+1)=some (h1,l.drop k)) (vO:l[k]?=some x2) (h5:x2.Code=5) (hi2:MS v l labs x base s1 (k+1)=some (h3,l.drop k2)) (W7:l[k2]?=some x3):
    nQ v l labs res base d i s (k2+1) (bq s1 (dW x)) ((base+s.1.length)::(h1++h3)):=by
  rw [fO hx] at hok
  rw [fO vO] at hi
  rw [fO W7] at hi2
  obtain ⟨_,_,_,hb⟩:=(sk hok h2 hi).resolve_left (fun h=>by omega)
  obtain ⟨x3',r3,e,_,_,MQ⟩:=hb _ _ _ _ _ _ hi2
  cases e
  refine ⟨MQ, ?_⟩
  rw [nR hx h2,uG h,Option.bind_some,hi,Option.bind_some]
  simp only
  rw [if_pos h5,show sr v (l.drop (k+1)) (labs++[su x]) (dW x) ([],False) (base+s1.1.length)=_ from hi2,Option.bind_some]
  simp only
  first|done|(congr 1;done)|(congr 1;funext p;simp)
def Re (v:mw) (l:List au) (vW:Nat) (labs:List (List UInt8)) (res:List UInt8) (base:Nat) (hs:List Nat) (g:Int×Int×SB×List Nat):Prop:=
 (g.2.1=0∧∃(h1:List Nat) (k:Nat),g.1=(k:Int)∧vW≤k∧k≤l.length∧g.2.2.2.length≤k+1∧sr v (l.drop vW) labs res ([],False) base=some (h1,l.drop k)∧g.2.2.2=hs++h1)∨(g.2.1≠0∧sr v (l.drop vW) labs res ([],False) base=none)
theorem Rf (hok:mG (fun x:au=>x.Code) (l.drop i) d) (hx:l[i]?=some x) (h2:aO x.Code):mG (fun x:au=>x.Code) (l.drop (i+1)) (d+1)∧¬64≤d:=Ok (by rw [←fO hx];exact hok) h2
theorem Mq {k:Nat} {oP:List Nat} {labs':List (List UInt8)} {res':List UInt8} {st':cU} {b':Nat} (hok:mG (fun x:au=>x.Code) (l.drop i) d) (hb:sr v (l.drop i) labs' res' st' b'=some (oP,l.drop k)):∃x2,l[k]?=some x2:=by
 obtain ⟨x2,r2,h1,h2⟩:=Ol (labs':=labs') hok hb
 have:k<l.length:=Classical.byContradiction fun h=>by rw [List.drop_eq_nil_of_le (by omega)] at h1;cases h1
 exact ai this
theorem DE {k:Nat} {h1:List Nat} {x2:au} (hok:mG (fun x:au=>x.Code) (l.drop i) d) (hx:l[i]?=some x) (h2:aO x.Code) (hi:MS v l labs x base s1 (i+1)=some (h1,l.drop k)) (vO:l[k]?=some x2) (h5:x2.Code=5):mG (fun x:au=>x.Code) (l.drop (k+1)) (d+1):=by
 rw [fO hx] at hok
 rw [fO vO] at hi
 exact ((sk hok h2 hi).resolve_left (fun h=>by omega)).2.2.1
theorem nQ.fin {a:Nat} {s0:cU} {pre h1:List Nat} {r:List au} (h:nQ v l labs res base d a s0 i s pre) (he:sr v (l.drop i) labs res s base=some (h1,r)):sr v (l.drop a) labs res s0 base=some (pre++h1,r):=by rw [h.2,he];rfl
theorem nQ.OF {a:Nat} {s0:cU} {pre:List Nat} (h:nQ v l labs res base d a s0 i s pre) (hi:l.length≤i):sr v (l.drop a) labs res s0 base=some (pre,l.drop i):=by
 have e:l.drop i=[]:=List.drop_eq_nil_of_le hi
 have:=h.fin (h1:=[]) (r:=[]) (by rw [e];rfl)
 rw [this,e,List.append_nil]
theorem OG {g:cU×Int} (h:MR s res g) (c:g.2=0∧(g.1.1.length:Int)>0):(5:Int)=0↔∃s',cF s res=some s'∧s'.1=[]:=
 ⟨fun h=>by simp at h,fun ⟨s',h1,h2⟩=>by
  rw [h.ok c.1] at h1;cases h1;have:=c.2;rw [h2] at this;simp at this⟩
theorem Rg {g:cU×Int} (h:MR s res g) (c:¬(g.2=0∧(g.1.1.length:Int)>0)):g.2=0↔∃s',cF s res=some s'∧s'.1=[]:=
 ⟨fun h0=>⟨g.1,h.ok h0,List.eq_nil_of_length_eq_zero (Classical.byContradiction fun h9=>c ⟨h0,by omega⟩)⟩,fun ⟨s',h1,h2⟩=>Classical.byContradiction fun h0=>by
  rw [h.no h0] at h1;cases h1⟩
structure Mr (v:mw) (l:List au):Prop where
 env:Gj v
 ins:∀x∈l,lA x
 len:l.length≤2000
end
end Go.Hl
end
section
namespace Go.Proofs.YtpfobikpggmleaaGreatDoor
open Go.Hl Go.RowKit
theorem JU {v:mw} {n:Nat} {l:List au} {vW d base:Nat} {labs:List (List UInt8)} {res:List UInt8} {gs:SB} {hs:List Nat} (aq:l.length-vW<n) (aT:Mr v l) (dh:vW≤l.length) (fX:base≤20*vW) (ox:hs.length≤vW) (yp:d≤64) (NM:labs.length≤d+1) (RR:∀w∈labs,w.length≤20) (hp8:res.length≤20) (hp9:mG (fun x:au=>x.Code) (l.drop vW) d):cH Tryz.prog 114 [aE (dU v),ah 5 aG (l),aE [ag .i64 (vW:Int),ag .i64 0,af (br gs hs.length)],ag .i64 ((base:Int)),ah 1 aj (res),ah 1 dA labs] [av gs 1 gJ hs] (γ:=Int×Int×SB×List Nat) (Re v l vW labs res base hs) (fun g=>[av g.2.2.1 1 gJ g.2.2.2]) (fun g=>aE [ag .i64 g.1,ag .i64 g.2.1,af (br g.2.2.1 g.2.2.2.length)]):=by
 induction n generalizing vW d base labs res gs hs
 case zero=>omega
 rename_i n ih
 refine In 188 Tryz.func114 fun _ _ _=> ?_
 have J9:=aT.len
 refine Z3 ?_
 refine .n (bV (.t rfl)) rfl fun b8 _=> ?_
 refine .n (az FZ.out) rfl fun Q1 _=> ?_
 refine Z6 ?_
 refine .n (az FZ.out) rfl fun Rh _=> ?_
 refine Z3 ?_
 refine .own (aB.Ee (cs':=aW ([],False) (base:Int)) (.cons (aD 1 aj) (.cons uv (.cons (.refl _) .nil)))) ?_
 refine Z2 ?_
 refine .aY (σ:=Nat×SB×List Nat×cU) (fun z=>[aF Rh (aW z.2.2.2 (base:Int)),aF Q1 (List.map af [.int .i64 0, .int .i64 0, .slice none 0 0]),aF b8 [ag .i64 (z.1:Int),ag .i64 0,af (br z.2.1 (z.2.2.1).length)],av z.2.1 1 gJ (z.2.2.1)]) (fun z=>[]) (fun z=>vW≤z.1∧z.1≤l.length∧base+z.2.2.2.1.length≤20*z.1∧z.2.2.1.length≤z.1∧∃pre,z.2.2.1=hs++pre∧nQ v l labs res base d vW ([],False) z.1 z.2.2.2 pre) (fun z=>l.length-z.1) (vW,gs,hs,([],False)) ⟨Nat.le_refl _,dh,by simpa using fX,ox,[],by simp,nQ.refl hp9⟩ rfl ?_ ?_
 · exact (.refl _ _)
 rintro ⟨i,gh,hh,s⟩ ⟨TR,tF,M1,W6,pre,Pr,hrun⟩
 simp only at TR tF M1 W6 Pr hrun ⊢
 refine cJ ?_
 refine Cd (fun c0=> ?_) fun c0=> ?_
 ·
  obtain ⟨x,hx⟩:=ai (xs:=l) (k:=i) (by omega)
  have zS:=aT.ins x (List.mem_of_getElem? hx)
  refine Z8 ?_
  refine .p (cI i (h:=hx)) rfl ?_
  refine Z1 ?_
  refine .n (az FZ.out) rfl fun b14 _=> ?_
  refine Z3 ?_
  refine .share (t:=14) (i:=0) rfl rfl ?_
  refine Z9 ?_
  refine .p ((eX (.t rfl) (.t rfl) de).le (aa.int (show (base:Int)+(s.1.length:Int)=((base+s.1.length:Nat):Int) by omega))) rfl ?_
  refine .p (cB gJ [base+s.1.length]) rfl ?_
  refine .n (aH (i:=3) FU.out FU.out FC.out rfl FZ.out rfl FY.out (.t rfl) (.t rfl) rfl (by simp only [List.length_cons,List.length_nil];omega) (by simp only [List.length_cons,List.length_nil];omega)) rfl fun tj _=> ?_
  refine XF ?_
  refine Cd (fun c1=> ?_) fun c1=> ?_
  ·
   refine Z4 ?_
   refine .n (cE (h:=bQ (s:=s) (l:=res) (by omega))) rfl fun Jp QY=> ?_
   refine Z7 ?_
   refine .cut (σ:=Int) (fun _=>[aF Rh (aW Jp.1 (base:Int)),aF Q1 (List.map af [.int .i64 0, .int .i64 0, .slice none 0 0]),aF b8 [ag .i64 (i:Int),ag .i64 0,af (br tj (hh++[base+s.1.length]).length)],av tj 1 gJ (hh++[base+s.1.length])]) (fun e=>[(15,ag .i64 e)]) (fun e=>e=0↔∃s',cF s res=some s'∧s'.1=[]) ?_ ?_
   ·
    refine dH ?_
    refine Cd (fun c2=> ?_) fun c2=> ?_
    ·
     refine Z3 ?_
     refine .meet 5 (OG QY c2) rfl (.get rfl (aa.refl _) (.keep 9 rfl rfl))
    refine Z1 ?_
    refine .meet Jp.2 (Rg QY c2) rfl (.get rfl (aa.refl _) (.keep 8 rfl rfl))
   intro e he
   refine Eh ?_
   refine Post.aN rfl (((i:Int),e,tj,hh++[base+s.1.length])) (by by_cases Bn:e=0;exact .inl ⟨Bn,pre++[base+s.1.length],i,rfl,TR,tF,by (show (hh++[base+s.1.length]).length≤i+1;rw [List.length_append];simp only [List.length_cons,List.length_nil];omega),hrun.fin (OE hx c1 (he.1 Bn)),by (show hh++[base+s.1.length]=_;rw [Pr,List.append_assoc])⟩;exact .inr ⟨Bn,hrun.none (Gp hx c1 (fun h=>Bn (he.2 h)))⟩) (aB.dc [3] [0,1,2] rfl rfl) (.ra (i:=1) FA.out FC.out rfl rfl rfl rfl) ?_
   exact aa.refl _
  refine mM ?_
  refine Cd (fun c3=> ?_) fun c3=> ?_
  ·
   refine Z6 ?_
   refine .n (cE (h:=DD (labs:=labs) ⟨aT.env,zS,by omega,by omega,RR⟩ (by omega))) rfl fun RX Tr=> ?_
   refine iw ?_
   refine Cd (fun c4=> ?_) fun c4=> ?_
   ·
    have hno:fP v x s labs=none:=Tr.1.elim (fun h=>absurd h.1 c4) (fun h=>h.2)
    refine J4 ?_
    refine Post.aN rfl (((i:Int),RX.2,tj,hh++[base+s.1.length])) (by exact .inr ⟨c4,hrun.none (A8 hx c1 (by unfold aO;omega) hno)⟩) (aB.dc [3] [0,1,2] rfl rfl) (.ra (i:=1) FA.out FC.out rfl rfl rfl rfl) ?_
    exact aa.refl _
   have qM:fP v x s labs=some RX.1:=Tr.1.elim (fun h=>h.2) (fun h=>absurd h.1 c4)
   refine Z6 ?_
   refine .p ((eX (.t rfl) (.c _) de).le (aa.int (show (i:Int)+1=((i+1:Nat):Int) by omega))) rfl ?_
   refine Z7 ?_
   refine .round (i+1,tj,hh++[base+s.1.length],RX.1) ⟨by show vW≤i+1;omega,by show i+1≤_;omega,by (show base+RX.1.1.length≤20*(i+1);have:=Tr.2;omega),by (show (hh++[base+s.1.length]).length≤i+1;rw [List.length_append];simp only [List.length_cons,List.length_nil];omega),pre++[base+s.1.length],by (show hh++[base+s.1.length]=_;rw [Pr,List.append_assoc]),hrun.trans (nQ.plain hrun.1 hx c1 (by unfold aO;omega) qM)⟩ (by show l.length-(i+1)<l.length-i;omega) rfl ?_
   exact ((.keep 55 rfl rfl))
  have hop:aO x.Code:=by unfold aO;omega
  have hin:=Rf hrun.1 hx hop
  have Zj:∀w∈labs++[su x],w.length≤20:=fun w hw=>by (rcases List.mem_append.1 hw with h|h;exact RR w h;(simp only [List.mem_singleton] at h;subst h;have:=OD x;omega))
  refine Z2 ?_
  refine .cut (σ:=cU) (fun s1=>[aF Rh (aW s1 (base:Int)),aF Q1 (List.map af [.int .i64 0, .int .i64 0, .slice none 0 0]),aF b8 [ag .i64 (i:Int),ag .i64 0,af (br tj (hh++[base+s.1.length]).length)],av tj 1 gJ (hh++[base+s.1.length])]) (fun s1=>[(15,iC)]) (fun s1=>PE x s (some s1)∧s1.1.length≤s.1.length) ?_ ?_
  ·
   refine Z7 ?_
   refine Cd (fun c5=> ?_) fun c5=> ?_
   ·
    refine Z3 ?_
    refine .p (cB aj [127]) rfl ?_
    refine .n (cE (h:=bQ (s:=s) (l:=[127]) (by omega))) rfl fun g98 Zk=> ?_
    refine jN ?_
    refine Cd (fun c6=> ?_) fun c6=> ?_
    ·
     refine Eh ?_
     refine Post.aN rfl (((i:Int),g98.2,tj,hh++[base+s.1.length])) (by exact .inr ⟨c6,hrun.none (A9 hx hop ⟨fun _=>(Zk.no c6).symm,fun h=>absurd c5 h⟩)⟩) (aB.dc [3] [0,1,2] rfl rfl) (.ra (i:=1) FA.out FC.out rfl rfl rfl rfl) ?_
     exact aa.refl _
    refine Z1 ?_
    refine .meet g98.1 ⟨⟨fun _=>(Zk.ok (Classical.not_not.1 c6)).symm,fun h=>absurd c5 h⟩,Zk.2⟩ rfl (.get rfl aa.any (.keep 12 rfl rfl))
   refine Z1 ?_
   refine .meet s ⟨⟨fun h=>absurd h c5,fun _=>rfl⟩,Nat.le_refl _⟩ rfl (.get rfl aa.any (.keep 3 rfl rfl))
  intro s1 ⟨TS,hs1l⟩
  refine Z6 ?_
  refine .cut (σ:=Unit) (fun _=>[aF Rh (aW s1 (base:Int)),aF Q1 (List.map af [.int .i64 0, .int .i64 0, .slice none 0 0]),aF b8 [ag .i64 (i:Int),ag .i64 0,af (br tj (hh++[base+s.1.length]).length)],av tj 1 gJ (hh++[base+s.1.length])]) (fun _=>[(16,ah 1 aj (dW x))]) (fun _=>True) ?_ ?_
  ·
   refine Z7 ?_
   refine Cd (fun c7=> ?_) fun c7=> ?_
   ·
    refine Z3 ?_
    refine .p ((eC FU.out FU.out (.t rfl)).le (aa.int (Hf zS.A0))) rfl ?_
    refine .p (cB aj [UInt8.ofNat x.A.toNat]) rfl ?_
    refine Z2 ?_
    refine .meet () trivial rfl (.get rfl (aa.of_eq (by rw [show dW x=[UInt8.ofNat x.A.toNat] from if_neg c7])) (.keep 8 rfl rfl))
   refine Z1 ?_
   refine .meet () trivial rfl (.get rfl ((show dW x=[] from if_pos (Classical.not_not.1 c7))▸aD 1 aj) (.keep 3 rfl rfl))
  intro _ _
  refine .cut (σ:=Unit) (fun _=>[aF Rh (aW s1 (base:Int)),aF Q1 (List.map af [.int .i64 0, .int .i64 0, .slice none 0 0]),aF b8 [ag .i64 (i:Int),ag .i64 0,af (br tj (hh++[base+s.1.length]).length)],av tj 1 gJ (hh++[base+s.1.length])]) (fun _=>[(17,ah 1 aj (su x))]) (fun _=>True) ?_ ?_
  ·
   refine Z7 ?_
   refine Cd (fun c8=> ?_) fun c8=> ?_
   ·
    refine Z4 ?_
    refine .meet () trivial rfl (.get rfl (aa.of_eq (by rw [show su x=dW x from if_neg c8])) (.keep 5 rfl rfl))
   refine Z1 ?_
   refine .meet () trivial rfl (.get rfl ((show su x=[] from if_pos (Classical.not_not.1 c8))▸aD 1 aj) (.keep 3 rfl rfl))
  intro _ _
  refine Z2 ?_
  refine .n (cO dA ([]:List (List UInt8)) FU.out FC.out rfl FZ.out rfl .nil rfl rfl rfl rfl rfl) rfl fun bb0 _=> ?_
  refine Z1 ?_
  refine .n (aH (i:=0) FU.out FU.out FC.out rfl FZ.out rfl FY.out (.t rfl) (.t rfl) rfl (by simp<;>omega) (by simp<;>omega)) rfl fun bb1 _=> ?_
  refine Z1 ?_
  refine .p (cB dA [su x]) rfl ?_
  refine .n (gL.fu (G:=fun g=>g) (oP:=fun _=>_) (xs:=fun _=>_) (aH (i:=0) FU.out FU.out FC.out rfl FZ.out rfl FY.out (.t rfl) (.t rfl) rfl (by simp<;>omega) (by simp<;>omega))) rfl fun _ _=> ?_
  refine Z7 ?_
  refine .p ((eX (.t rfl) (.c _) de).le (aa.int (show (i:Int)+1=((i+1:Nat):Int) by omega))) rfl ?_
  refine iw ?_
  refine .p ((eX (.t rfl) (.t rfl) de).le (aa.int (show (base:Int)+(s1.1.length:Int)=((base+s1.1.length:Nat):Int) by omega))) rfl ?_
  refine Z2 ?_
  refine .n (o7 [_,_,_] [3,0,1,2] (h:= @ih (i+1) (d+1) (base+s1.1.length) (labs++[su x]) (dW x) tj (hh++[base+s.1.length]) (by omega) (by omega) (by omega) (by rw [List.length_append];simp only [List.length_cons,List.length_nil];omega) (by omega) (by simp only [List.length_append,List.length_cons,List.length_nil];omega) Zj (by have:=tB x;omega) (hin.1))) rfl fun TT OH=> ?_
  refine .s (fy (i:=3) FC.out rfl (.t rfl) (.t rfl) rfl rfl rfl) ?_
  refine cJ ?_
  refine Cd (fun c9=> ?_) fun c9=> ?_
  ·
   unfold Re at OH
   have hno:=(OH.resolve_left (fun h=>c9 h.1)).2
   refine dH ?_
   refine Post.aN rfl (TT) (by exact .inr ⟨c9,hrun.none (Ba hx hop TS hno)⟩) (aB.dc [0] [1,2,3] rfl rfl) (.ra (i:=2) FA.out FC.out rfl rfl rfl rfl) ?_
   exact aa.refl _
  unfold Re at OH
  obtain ⟨bb2,bb3,Zl,WG⟩:=TT
  obtain ⟨Bn,h1,k,Kc,hik,DO,hhk,yc,QH⟩:=OH.resolve_right (fun h=>c9 h.1)
  simp only at Bn Kc hhk QH
  subst Bn
  subst Kc
  obtain ⟨x2,vO⟩:=Mq hin.1 yc
  have EK:=(List.getElem?_eq_some_iff.1 vO).1
  refine Z2 ?_
  refine .cut (σ:=Nat×SB×List Nat) (fun z=>[aF Rh (aW s1 (base:Int)),aF Q1 (List.map af [.int .i64 0, .int .i64 0, .slice none 0 0]),aF b8 [ag .i64 (z.1:Int),ag .i64 0,af (br z.2.1 (z.2.2).length)],av z.2.1 1 gJ (z.2.2)]) (fun z=>[]) (fun z=>i+1≤z.1∧z.1<l.length∧z.2.2.length≤z.1+1∧∃pp,z.2.2=(hh++[base+s.1.length])++pp∧nQ v l labs res base d i s (z.1+1) (bq s1 (dW x)) ((base+s.1.length)::pp)) ?_ ?_
  ·
   refine Z5 ?_
   refine .p (cI k (h:=vO)) rfl ?_
   refine Z5 ?_
   refine Cd (fun jH=> ?_) fun jH=> ?_
   ·
    refine Z4 ?_
    refine .p ((eX (.t rfl) (.c _) de).le (aa.int (show (k:Int)+1=((k+1:Nat):Int) by omega))) rfl ?_
    refine Z1 ?_
    refine .s (gQ (i:=3) FC.out (.t rfl) (.t rfl) rfl rfl) ?_
    refine dH ?_
    refine .p ((eX (.t rfl) (.t rfl) de).le (aa.int (show (base:Int)+(s1.1.length:Int)=((base+s1.1.length:Nat):Int) by omega))) rfl ?_
    refine Z2 ?_
    refine .n (cE (h:= @ih (k+1) (d+1) (base+s1.1.length) (labs++[su x]) (dW x) Zl (WG) (by omega) (by omega) (by omega) (by omega) (by omega) (by simp only [List.length_append,List.length_cons,List.length_nil];omega) Zj (by have:=tB x;omega) (DE hrun.1 hx hop yc vO jH))) rfl fun TU OI=> ?_
    refine .s (fy (i:=3) FC.out rfl (.t rfl) (.t rfl) rfl rfl rfl) ?_
    refine Z9 ?_
    refine Cd (fun lH=> ?_) fun lH=> ?_
    ·
     unfold Re at OI
     have hno:=(OI.resolve_left (fun h=>lH h.1)).2
     refine dH ?_
     refine Post.aN rfl (TU) (by exact .inr ⟨lH,hrun.none (Bd hx hop TS yc vO jH hno)⟩) (aB.dc [0] [1,2,3] rfl rfl) (.ra (i:=2) FA.out FC.out rfl rfl rfl rfl) ?_
     exact aa.refl _
    unfold Re at OI
    obtain ⟨bb4,bb5,gs3,hh3⟩:=TU
    obtain ⟨TV,h3,k2,TW,bb6,bb7,TX,Mb,hh3e⟩:=OI.resolve_right (fun h=>lH h.1)
    simp only at TV TW TX hh3e
    subst TV
    subst TW
    obtain ⟨x3,W7⟩:=Mq (DE hrun.1 hx hop yc vO jH) Mb
    have Bl:=(List.getElem?_eq_some_iff.1 W7).1
    refine Z1 ?_
    refine .own (aB.perm (Perm.idx [1,2,3,0] rfl rfl)) (bR.meet (k2,gs3,hh3) ⟨by show i+1≤k2;omega,Bl,TX,h1++h3,by (show hh3=_;rw [hh3e,QH,List.append_assoc]),Be hrun.1 hx hop TS yc vO jH Mb W7⟩ rfl (.keep 26 rfl rfl))
   refine dH ?_
   refine Cd (fun nj=> ?_) fun nj=> ?_
   ·
    refine Z3 ?_
    refine .s (gQ (i:=3) FC.out (.t rfl) (.c _) rfl rfl) ?_
    refine iw ?_
    refine Post.aN rfl (((k:Int),5,Zl,WG)) (by exact .inr ⟨by show (5:Int)≠0;decide,hrun.none (Bc hx hop TS yc vO jH ⟨nj.1,fun h=>by have:=nj.2;rw [h] at this;simp at this⟩)⟩) (aB.dc [0] [1,2,3] rfl rfl) (.ra (i:=2) FA.out FC.out rfl rfl rfl rfl) ?_
    exact aa.refl _
   refine Z1 ?_
   refine .own (aB.perm (Perm.idx [1,2,3,0] rfl rfl)) (bR.meet (k,Zl,WG) ⟨by show i+1≤k;omega,EK,hhk,h1,QH,Bb hrun.1 hx hop TS yc vO jH (fun h=>nj ⟨h.1,by have:=List.length_pos_iff.2 h.2;omega⟩)⟩ rfl (.keep 15 rfl rfl))
  intro ⟨kz,gz,hz⟩ ⟨Zm,hkz,hzl,pp,hzp,hrz⟩
  simp only at Zm hkz hzl hzp hrz ⊢
  refine Z4 ?_
  refine .n (cE (h:=dB (s:=s1) (l:=dW x) (by omega) (by have:=tB x;omega))) rfl fun bb8 bb9=> ?_
  refine Z6 ?_
  refine .p ((eX (.t rfl) (.c _) de).le (aa.int (show (kz:Int)+1=((kz+1:Nat):Int) by omega))) rfl ?_
  refine Z4 ?_
  refine .round (kz+1,gz,hz,bq s1 (dW x)) ⟨by show vW≤kz+1;omega,by show kz+1≤_;omega,by (show base+(s1.1++dW x).length≤20*(kz+1);rw [List.length_append];have:=tB x;omega),hzl,_,by (show hz=hs++_;rw [hzp,Pr,List.append_assoc,List.append_assoc];rfl),hrun.trans hrz⟩ (by show l.length-(kz+1)<l.length-i;omega) rfl ?_
  exact ((.keep 78 rfl rfl))
 refine dH ?_
 refine Post.aN rfl (((i:Int),0,gh,hh)) (by exact .inl ⟨rfl,pre,i,rfl,TR,tF,by (show hh.length≤i+1;omega),hrun.OF (by omega),Pr⟩) (aB.dc [3] [0,1,2] rfl rfl) (.ra (i:=1) FA.out FC.out rfl rfl rfl rfl) ?_
 exact aa.refl _
end Go.Proofs.YtpfobikpggmleaaGreatDoor
end
section
namespace Go.Hl
open Go.RowKit
def Gq (m:aU) (a b c d e p r l:VP):List VP:=[a,b,c,d,e,ak (0≤m.Table),p,r,l]
instance {m:aU} {a b c d e p r l:VP} [Flat a] [Flat b] [Flat c] [Flat d] [Flat e] [Flat p] [Flat r] [Flat l]:bC (Gq m a b c d e p r l):=by unfold Gq;infer_instance
instance (s:mD):bC (cj s):=by unfold cj;infer_instance
def TY (v:mw) (b:jm) (g:Int×Int×List Nat):Prop:=
 (g.2.1=0∧∃rest,sr v b.L [v.cL.R] v.cL.R ([],False) 0=some (g.2.2,rest))∨(g.2.1≠0∧sr v b.L [v.cL.R] v.cL.R ([],False) 0=none∧g.2.2=[])
variable {m:aU}
theorem Ri {z:gA} (h:fl m z=0):iU z.fV m.bF.length:=by
 unfold fl at h
 split at h
 · cases h
 · exact Classical.not_not.1 ((cu (by decide)).1 h)
theorem dy.imp (h:dy m) {z:gA} (hz:z∈m.aA):iU z.fV m.bF.length:=Ri (eu.1 (bB.1 h.imports).2 z hz)
variable {f:cK}
theorem TZ (h:dy m) (ho:jP m) (hf:f∈m.ax):Gj (cn m f):=by
 have hl:=h.lens
 have hs:=(jn (mB h hf)).2
 have h1:=ho.loc f hf
 have h2:=h.yh _ hs
 have hc:=hl.2.2.2.2
 unfold cw at hc
 refine ⟨?_, ?_, ?_, ?_, ?_, ?_, ?_, ?_, ?_⟩
 · simp [cn];omega
 · simp [cn];omega
 · simp [cn];omega
 · simp [cn];omega
 · simp [cn];omega
 · simp [cn]
 · intro g hg
   simp only [cn,List.mem_append,List.mem_map] at hg
   rcases hg with ⟨z,hz,rfl⟩|⟨z,hz,rfl⟩
   · exact h.yh _ (jn (h.imp hz)).2
   · exact h.yh _ (jn (mB h hz)).2
 · intro g hg;exact h.yh g hg
 · exact h2.2
theorem T0 (h:dy m) (ho:jP m) (hf:f∈m.ax) (he:mS f.Body):Mr (cn m f) f.Body.L:=⟨TZ h ho hf,fun x hx=> .of (ho.ins f hf x hx) (he.1 x hx),ho.len f hf⟩
theorem Ms (h:mS f.Body):mG (fun x:au=>x.Code) f.Body.L 0:=⟨[11],(uq (by simp)).1 h.2.2.2.1,by simp⟩
theorem DF (he:mS f.Body) {g:Int×Int×List Nat} (h:TY (cn m f) f.Body g):(g.2.1=0∧ia m f=some g.2.2)∨(g.2.1≠0∧¬oB m f∧g.2.2=[]):=by
 have hd:=AB (m:=m) (f:=f) (k:=f.Body.L.length+1) he (by omega)
 have Mz:ia m f=(sr (cn m f) f.Body.L [(cn m f).cL.R] (cn m f).cL.R ([],False) 0).map Prod.fst:=hd
 rcases h with ⟨h1,rest,h2⟩|⟨h1,h2,h3⟩
 · exact .inl ⟨h1,by rw [Mz,h2];rfl⟩
 · exact .inr ⟨h1,fun ⟨_,hs,hh⟩=>(by rw [Mz,h2] at hh;cases hh),h3⟩
def Rj (m:aU) (f:cK) (g:Int×Int×List Nat):Prop:=(g.2.1=0∧dy m∧mS f.Body∧ia m f=some g.2.2)∨(g.2.1≠0∧¬(dy m∧oB m f))
theorem Rj.iff {g:Int×Int×List Nat} (h:Rj m f g):g.2.1=0↔dy m∧oB m f:=by
 rcases h with ⟨h1,h2,h3,h4⟩|⟨h1,h2⟩
 · exact ⟨fun _=>⟨h2,h3,_,h4⟩,fun _=>h1⟩
 · exact ⟨fun h=>absurd h h1,fun h=>absurd h h2⟩
end Go.Hl
end
section
namespace Go.Proofs.YtpfobikpggmleaaGreatDoor
open Go.Hl Go.RowKit
theorem DG {v:mw} {b:jm} (aq:Mr v b.L) (aT:mG (fun x:au=>x.Code) b.L 0):cH Tryz.prog 87 [aE (dU v),aE (gB b)] [] (γ:=Int×Int×List Nat) (TY v b) (fun _=>[]) (fun g=>aE [ag .i64 g.1,ag .i64 g.2.1,ah 1 gJ g.2.2]):=by
 refine In 24 Tryz.func87 fun _ _ _=> ?_
 refine Z4 ?_
 refine .n (az FZ.out) rfl fun b4 _=> ?_
 refine Z3 ?_
 refine .dQ 1 gJ ?_
 refine dw ?_
 refine .p (cB dA [v.cL.R]) rfl ?_
 refine .n (cE (h:=JU (n:=b.L.length+1) (vW:=0) (d:=0) (base:=0) (labs:=[v.cL.R]) (res:=v.cL.R) (gs:=none) (hs:=[]) (by omega) aq (Nat.zero_le _) (Nat.le_refl _) (Nat.le_refl _) (by omega) (by simp) (by simpa using aq.env.own) aq.env.own aT)) rfl fun G4 G5=> ?_
 refine .n (az FZ.out) rfl fun b5 _=> ?_
 refine dw ?_
 refine Cd (fun c0=> ?_) fun c0=> ?_
 ·
  unfold Re at G5
  obtain ⟨h0,h1,k,_,_,_,_,hb,hh⟩:=G5.resolve_right (fun h=>h.1 c0)
  simp only [List.nil_append] at hh
  refine Z5 ?_
  refine .iB (i:=1) (j:=0) (f:=2) rfl rfl rfl ?_
  refine Z7 ?_
  refine Post.aN rfl ((0,G4.2.1,G4.2.2.2)) (by exact .inl ⟨h0,_,by (show sr v b.L [v.cL.R] v.cL.R ([],False) 0=some (G4.2.2.2,_);rw [hh];exact hb)⟩) (aB.dc [] [0,1] rfl rfl) (.ra (i:=1) FA.out FC.out rfl rfl rfl rfl) ?_
  exact aa.refl _
 unfold Re at G5
 have hno:=(G5.resolve_left (fun h=>c0 h.1)).2
 refine dH ?_
 refine Post.aN rfl ((G4.1,G4.2.1,[])) (by exact .inr ⟨c0,hno,rfl⟩) (aB.dc [] [0,1,2] rfl rfl) (.ra (i:=2) FA.out FC.out rfl rfl rfl rfl) ?_
 exact aa.agg (.cons (aa.refl _) (.cons (aa.refl _) (.cons (aD 1 gJ) .nil)))
theorem JV {m:aU} {f:cK} {i:Nat} (aq:dy m) (aT:jP m) (dh:m.ax[i]?=some f):cH Tryz.prog 88 [aE (bh m),ag .i64 ((i:Int))] [] (γ:=Unit) (fun _=>True) (fun _=>[]) (fun _=>aE (dU (cn m f))):=by
 refine In 157 Tryz.func88 fun _ _ _=> ?_
 have FG:f∈m.ax:=List.mem_of_getElem? dh
 have hlens:=aq.lens
 have hcn:(m.aA.length:Int)+(m.ax.length:Int)≤100:=hlens.2.2.2.2
 have J2:=jn (mB aq FG)
 have Zn:=mB aq FG
 unfold iU at Zn
 have hlo:=aT.loc f FG
 have hfw:=aq.yh _ J2.2
 refine Z3 ?_
 refine .n (az FZ.out) rfl fun b4 _=> ?_
 refine Z8 ?_
 refine .n (az FZ.out) rfl fun b5 _=> ?_
 refine cJ ?_
 refine .dQ 2 cj ?_
 refine .aY (σ:=Nat×SB) (fun s=>[av s.2 2 cj (m.bF.take s.1),aF b5 (Gq m (af (.slice none 0 0)) (af (br s.2 (m.bF.take s.1).length)) (af (.slice none 0 0)) (af (.slice none 0 0)) (af (.slice none 0 0)) (af (.slice none 0 0)) (af (.slice none 0 0)) (af (.slice none 0 0))),aF b4 (List.map af [.slice none 0 0, .slice none 0 0, .slice none 0 0, .slice none 0 0, .slice none 0 0, .bool false, .slice none 0 0, .slice none 0 0, .slice none 0 0])]) (fun s=>[(6,ag .i64 (s.1:Int))]) (fun s=>s.1≤m.bF.length) (fun s=>m.bF.length-s.1) (0,none) (Nat.zero_le _) rfl ?_ ?_
 · exact (.get rfl (aa.refl _) (.refl _ _))
 rintro ⟨k0,q0⟩ Kc
 simp only at Kc ⊢
 refine cJ ?_
 refine Cd (fun c0=> ?_) fun c0=> ?_
 ·
  obtain ⟨y,hx⟩:=ai (xs:=m.bF) (k:=k0) (by omega)
  refine Z4 ?_
  refine .bG [(0,0),(1,1),(2,0),(3,0),(4,0),(5,0),(6,0),(7,0),(8,0),(9,0),(10,0),(11,0),(12,0),(13,0),(14,0),(15,0)] 16 3 FM.out (by kernel_rfl) (k:= ?_)
  refine Z5 ?_
  refine .p rfl (fun _=>aP (j:=k0) FU.out FC.out rfl (.t rfl) (.t rfl) rfl hx) ?_
  refine Z5 ?_
  refine .p rfl (fun _=>aP (j:=k0) FU.out FC.out rfl (.t rfl) (.t rfl) rfl hx) ?_
  refine Z3 ?_
  refine .p rfl (fun _=>bu (enc:=cj) [y] FU.out FC.out rfl FZ.out rfl (.cons (.t rfl) .nil) rfl rfl rfl rfl rfl) ?_
  refine .fin ?_
  refine .n (aH (i:=0) FU.out FU.out FC.out rfl FZ.out rfl FY.out (.t rfl) (.t rfl) rfl (by simp<;>omega) (by simp<;>omega)) rfl fun ME _=> ?_
  refine cJ ?_
  refine .round (k0+1,ME) (by show k0+1≤_;omega) (by show m.bF.length-(k0+1)<m.bF.length-k0;omega) (by simp only [←bt hx,List.map_append,List.map_cons,List.map_nil,List.append_assoc];rfl) ?_
  exact (.get rfl (aa.int (by show (_:Int)=((k0+1:Nat):Int);omega)) ((.keep 27 rfl rfl)))
 have T3:m.bF.take k0=m.bF:=List.take_of_length_le (by omega)
 rw [T3]
 refine .iB (n:=2) (enc:=cj) (i:=0) (j:=0) (f:=1) rfl rfl rfl ?_
 refine dH ?_
 refine .dQ 2 cj ?_
 refine .aY (σ:=Nat×SB) (fun s=>[av s.2 2 cj ((m.aA.take s.1).map fun z=>ck m z.fV),aF b5 (Gq m (af (br s.2 (((m.aA.take s.1).map fun z=>ck m z.fV)).length)) (ah 2 cj m.bF) (af (.slice none 0 0)) (af (.slice none 0 0)) (af (.slice none 0 0)) (af (.slice none 0 0)) (af (.slice none 0 0)) (af (.slice none 0 0))),aF b4 (List.map af [.slice none 0 0, .slice none 0 0, .slice none 0 0, .slice none 0 0, .slice none 0 0, .bool false, .slice none 0 0, .slice none 0 0, .slice none 0 0])]) (fun s=>[(7,ag .i64 (s.1:Int))]) (fun s=>s.1≤m.aA.length) (fun s=>m.aA.length-s.1) (0,none) (Nat.zero_le _) rfl ?_ ?_
 · exact (.get rfl (aa.refl _) (.refl _ _))
 rintro ⟨k1,q1⟩ Bk
 simp only at Bk ⊢
 refine cJ ?_
 refine Cd (fun c1=> ?_) fun c1=> ?_
 ·
  obtain ⟨y,hx⟩:=ai (xs:=m.aA) (k:=k1) (by omega)
  have T4:=aq.imp (List.mem_of_getElem? hx)
  have hys:=(jn T4).1
  unfold iU at T4
  refine Z4 ?_
  refine .bG [(0,0),(1,1),(2,0),(3,1),(4,0),(5,0),(6,0),(7,0),(8,0),(9,0),(10,0),(11,0),(12,0)] 13 3 FM.out (by kernel_rfl) (k:= ?_)
  refine Z7 ?_
  refine .p rfl (fun _=>aP (j:=k1) FU.out FC.out rfl (.t rfl) (.t rfl) rfl hx) ?_
  refine Z2 ?_
  refine .p rfl (fun _=>aP (j:=y.fV.toNat) FU.out FC.out rfl (.t rfl) (.t rfl) (by omega) hys) ?_
  refine Z1 ?_
  refine .p rfl (fun _=>bu (enc:=cj) [ck m y.fV] FU.out FC.out rfl FZ.out rfl (.cons (.t rfl) .nil) rfl rfl rfl rfl rfl) ?_
  refine .fin ?_
  refine .n (aH (i:=0) FU.out FU.out FC.out rfl FZ.out rfl FY.out (.t rfl) (.t rfl) rfl (by simp<;>omega) (by simp<;>omega)) rfl fun RW _=> ?_
  refine cJ ?_
  refine .round (k1+1,RW) (by show k1+1≤_;omega) (by show m.aA.length-(k1+1)<m.aA.length-k1;omega) (by simp only [←bt hx,List.map_append,List.map_cons,List.map_nil,List.append_assoc];rfl) ?_
  exact (.get rfl (aa.int (by show (_:Int)=((k1+1:Nat):Int);omega)) ((.keep 24 rfl rfl)))
 have Mm:m.aA.take k1=m.aA:=List.take_of_length_le (by omega)
 rw [Mm]
 refine dH ?_
 refine .aY (σ:=Nat×SB) (fun s=>[av s.2 2 cj ((m.aA.map fun z=>ck m z.fV)++((m.ax.take s.1).map fun z=>ck m z.fV)),aF b5 (Gq m (af (br s.2 ((m.aA.map fun z=>ck m z.fV)++((m.ax.take s.1).map fun z=>ck m z.fV)).length)) (ah 2 cj m.bF) (af (.slice none 0 0)) (af (.slice none 0 0)) (af (.slice none 0 0)) (af (.slice none 0 0)) (af (.slice none 0 0)) (af (.slice none 0 0))),aF b4 (List.map af [.slice none 0 0, .slice none 0 0, .slice none 0 0, .slice none 0 0, .slice none 0 0, .bool false, .slice none 0 0, .slice none 0 0, .slice none 0 0])]) (fun s=>[(8,ag .i64 (s.1:Int))]) (fun s=>s.1≤m.ax.length) (fun s=>m.ax.length-s.1) (0,q1) (Nat.zero_le _) (by simp only [List.take_zero,List.map_nil,List.append_nil]) ?_ ?_
 · exact (.get rfl (aa.refl _) (.refl _ _))
 rintro ⟨k2,q2⟩ hk2
 simp only at hk2 ⊢
 refine cJ ?_
 refine Cd (fun c2=> ?_) fun c2=> ?_
 ·
  obtain ⟨y,hx⟩:=ai (xs:=m.ax) (k:=k2) (by omega)
  have T4:=mB aq (List.mem_of_getElem? hx)
  have hys:=(jn T4).1
  unfold iU at T4
  refine Z4 ?_
  refine .bG [(0,0),(1,1),(2,0),(3,1),(4,0),(5,0),(6,0),(7,0),(8,0),(9,0),(10,0),(11,0),(12,0)] 13 3 FM.out (by kernel_rfl) (k:= ?_)
  refine Z7 ?_
  refine .p rfl (fun _=>aP (j:=k2) FU.out FC.out rfl (.t rfl) (.t rfl) rfl hx) ?_
  refine Z2 ?_
  refine .p rfl (fun _=>aP (j:=y.fV.toNat) FU.out FC.out rfl (.t rfl) (.t rfl) (by omega) hys) ?_
  refine Z1 ?_
  refine .p rfl (fun _=>bu (enc:=cj) [ck m y.fV] FU.out FC.out rfl FZ.out rfl (.cons (.t rfl) .nil) rfl rfl rfl rfl rfl) ?_
  refine .fin ?_
  refine .n (aH (i:=0) FU.out FU.out FC.out rfl FZ.out rfl FY.out (.t rfl) (.t rfl) rfl (by simp<;>omega) (by simp<;>omega)) rfl fun R3 _=> ?_
  refine cJ ?_
  refine .round (k2+1,R3) (by show k2+1≤_;omega) (by show m.ax.length-(k2+1)<m.ax.length-k2;omega) (by simp only [←bt hx,List.map_append,List.map_cons,List.map_nil,List.append_assoc];rfl) ?_
  exact (.get rfl (aa.int (by show (_:Int)=((k2+1:Nat):Int);omega)) ((.keep 24 rfl rfl)))
 have rm:m.ax.take k2=m.ax:=List.take_of_length_le (by omega)
 rw [rm]
 refine .iB (n:=2) (enc:=cj) (i:=0) (j:=0) (f:=0) rfl rfl rfl ?_
 refine dH ?_
 refine .dQ 1 nP ?_
 refine .aY (σ:=Nat×SB) (fun s=>[av s.2 1 nP ((m.bI.take s.1).map fun z=>z.bE),aF b5 (Gq m (ah 2 cj ((m.aA.map fun z=>ck m z.fV)++(m.ax.map fun z=>ck m z.fV))) (ah 2 cj m.bF) (af (br s.2 (((m.bI.take s.1).map fun z=>z.bE)).length)) (af (.slice none 0 0)) (af (.slice none 0 0)) (af (.slice none 0 0)) (af (.slice none 0 0)) (af (.slice none 0 0))),aF b4 (List.map af [.slice none 0 0, .slice none 0 0, .slice none 0 0, .slice none 0 0, .slice none 0 0, .bool false, .slice none 0 0, .slice none 0 0, .slice none 0 0])]) (fun s=>[(9,ag .i64 (s.1:Int))]) (fun s=>s.1≤m.bI.length) (fun s=>m.bI.length-s.1) (0,none) (Nat.zero_le _) rfl ?_ ?_
 · exact (.get rfl (aa.refl _) (.refl _ _))
 rintro ⟨k3,q3⟩ EK
 simp only at EK ⊢
 refine cJ ?_
 refine Cd (fun c3=> ?_) fun c3=> ?_
 ·
  obtain ⟨y,hx⟩:=ai (xs:=m.bI) (k:=k3) (by omega)
  refine Z4 ?_
  refine .bG [(0,0),(1,1),(2,0),(3,0),(4,0),(5,0),(6,0),(7,0),(8,0)] 9 3 FM.out (by kernel_rfl) (k:= ?_)
  refine Z5 ?_
  refine .p rfl (fun _=>aP (j:=k3) FU.out FC.out rfl (.t rfl) (.t rfl) rfl hx) ?_
  refine Z2 ?_
  refine .p rfl (fun _=>bu (enc:=nP) [y.bE] FU.out FC.out rfl FZ.out rfl (.cons (.t rfl) .nil) rfl rfl rfl rfl rfl) ?_
  refine .fin ?_
  refine .n (aH (i:=0) FU.out FU.out FC.out rfl FZ.out rfl FY.out (.t rfl) (.t rfl) rfl (by simp<;>omega) (by simp<;>omega)) rfl fun T5 _=> ?_
  refine cJ ?_
  refine .round (k3+1,T5) (by show k3+1≤_;omega) (by show m.bI.length-(k3+1)<m.bI.length-k3;omega) (by simp only [←bt hx,List.map_append,List.map_cons,List.map_nil,List.append_assoc];rfl) ?_
  exact (.get rfl (aa.int (by show (_:Int)=((k3+1:Nat):Int);omega)) ((.keep 20 rfl rfl)))
 have T6:m.bI.take k3=m.bI:=List.take_of_length_le (by omega)
 rw [T6]
 refine .iB (n:=1) (enc:=nP) (i:=0) (j:=0) (f:=2) rfl rfl rfl ?_
 refine dH ?_
 refine .dQ 1 nP ?_
 refine .dQ 1 aj ?_
 refine .aY (σ:=Nat×SB×SB) (fun s=>[av s.2.1 1 aj ((m.ay.take s.1).map fun z=>z.Ty),av s.2.2 1 nP ((m.ay.take s.1).map fun z=>z.eI),aF b5 (Gq m (ah 2 cj ((m.aA.map fun z=>ck m z.fV)++(m.ax.map fun z=>ck m z.fV))) (ah 2 cj m.bF) (ah 1 nP (m.bI.map fun z=>z.bE)) (af (br s.2.1 (((m.ay.take s.1).map fun z=>z.Ty)).length)) (af (br s.2.2 (((m.ay.take s.1).map fun z=>z.eI)).length)) (af (.slice none 0 0)) (af (.slice none 0 0)) (af (.slice none 0 0))),aF b4 (List.map af [.slice none 0 0, .slice none 0 0, .slice none 0 0, .slice none 0 0, .slice none 0 0, .bool false, .slice none 0 0, .slice none 0 0, .slice none 0 0])]) (fun s=>[(10,ag .i64 (s.1:Int))]) (fun s=>s.1≤m.ay.length) (fun s=>m.ay.length-s.1) (0,none,none) (Nat.zero_le _) rfl ?_ ?_
 · exact (.get rfl (aa.refl _) (.refl _ _))
 rintro ⟨k4,q4,q5⟩ Bl
 simp only at Bl ⊢
 refine cJ ?_
 refine Cd (fun c4=> ?_) fun c4=> ?_
 ·
  obtain ⟨y,hx⟩:=ai (xs:=m.ay) (k:=k4) (by omega)
  refine Z5 ?_
  refine .bG [(0,0),(1,1),(2,0),(3,0),(4,0),(5,0),(6,0),(7,0),(8,0)] 9 3 FM.out (by kernel_rfl) (k:= ?_)
  refine Z5 ?_
  refine .p rfl (fun _=>aP (j:=k4) FU.out FC.out rfl (.t rfl) (.t rfl) rfl hx) ?_
  refine Z2 ?_
  refine .p rfl (fun _=>bu (enc:=aj) [y.Ty] FU.out FC.out rfl FZ.out rfl (.cons (.t rfl) .nil) rfl rfl rfl rfl rfl) ?_
  refine .fin ?_
  refine .n (aH (i:=0) FU.out FU.out FC.out rfl FZ.out rfl FY.out (.t rfl) (.t rfl) rfl (by simp<;>omega) (by simp<;>omega)) rfl fun Zo _=> ?_
  refine Z4 ?_
  refine .bG [(0,0),(1,1),(2,0),(3,0),(4,0),(5,0),(6,0),(7,0),(8,0)] 9 3 FM.out (by kernel_rfl) (k:= ?_)
  refine Z5 ?_
  refine .p rfl (fun _=>aP (j:=k4) FU.out FC.out rfl (.t rfl) (.t rfl) rfl hx) ?_
  refine Z2 ?_
  refine .p rfl (fun _=>bu (enc:=nP) [y.eI] FU.out FC.out rfl FZ.out rfl (.cons (.t rfl) .nil) rfl rfl rfl rfl rfl) ?_
  refine .fin ?_
  refine .n (aH (i:=1) FU.out FU.out FC.out rfl FZ.out rfl FY.out (.t rfl) (.t rfl) rfl (by simp<;>omega) (by simp<;>omega)) rfl fun Zp _=> ?_
  refine cJ ?_
  refine .round (k4+1,Zo,Zp) (by show k4+1≤_;omega) (by show m.ay.length-(k4+1)<m.ay.length-k4;omega) (by simp only [←bt hx,List.map_append,List.map_cons,List.map_nil,List.append_assoc];rfl) ?_
  exact (.get rfl (aa.int (by show (_:Int)=((k4+1:Nat):Int);omega)) ((.keep 31 rfl rfl)))
 have T7:m.ay.take k4=m.ay:=List.take_of_length_le (by omega)
 rw [T7]
 refine .iB (n:=1) (enc:=aj) (i:=0) (j:=1) (f:=3) rfl rfl rfl ?_
 refine .iB (n:=1) (enc:=nP) (i:=0) (j:=0) (f:=4) rfl rfl rfl ?_
 refine Z6 ?_
 refine .bA 8 4 FM.out (by kernel_rfl) (k:= ?_)
 refine Z5 ?_
 refine .p (cI i (h:=dh)) ?_
 refine Z3 ?_
 refine .p (cI f.fV.toNat (h:=J2.1)) rfl ?_
 refine Z6 ?_
 refine .bG [(1,0),(2,0),(3,1),(5,0),(6,0),(7,0),(8,0),(9,0),(10,0),(11,0),(0,4),(4,2)] 12 3 FM.out (by kernel_rfl) (k:= ?_)
 refine Z6 ?_
 refine .p rfl (fun _=>aP (j:=i) FU.out FC.out rfl (.t rfl) (.t rfl) rfl dh) ?_
 refine Z3 ?_
 refine .a rfl (cO aj ([]:List UInt8) FU.out FC.out rfl FZ.out rfl .nil rfl rfl rfl rfl rfl) (fun _ _=>aB.drop (aB.refl _)) fun bc0 _=> ?_
 refine .e rfl (aH (i:=0) FU.out FU.out FC.out rfl FZ.out rfl FY.out (.t rfl) (.t rfl) rfl (by simp<;>omega) (by simp<;>omega)) fun Ze _=> ?_
 refine .fin ?_
 refine .n (gL.fu (G:=fun g=>g) (oP:=fun _=>_) (xs:=fun _=>_) (aH (i:=0) FU.out FU.out FC.out rfl FZ.out rfl FY.out (.t rfl) (.t rfl) rfl (by simp<;>omega) (by simp<;>omega))) rfl fun _ _=> ?_
 refine dw ?_
 refine Post.aN rfl (()) (by trivial) (aB.dc [] [0,1] rfl rfl) (.ra (i:=1) FA.out FC.out rfl rfl rfl rfl) ?_
 exact aa.refl _
theorem DH {x:aU} {n:Int} {s:mD} (aq:gM x n=some s):cQ Tryz.prog 85 [aE (bh x),ag .i64 n] (aE (cj s)):=by
 refine In 34 Tryz.func85 fun _ _ _=> ?_
 refine .fact (t:=0) rfl (fun S w v h=>pY h) fun hlen=> ?_
 have hall:=hlen
 obtain ⟨⟨J0,je,jB,kS,kU,kV,kW,kX⟩,⟨R2,hi1,hi2,RT,hi4⟩,NK⟩:=hlen
 refine Z3 ?_
 refine .n (az FZ.out) rfl fun b4 _=> ?_
 refine dH ?_
 refine Cd (fun c0=> ?_) fun c0=> ?_
 ·
  obtain ⟨y,hy1,PC,T8,Zq⟩:=wZ aq c0
  refine Z1 ?_
  refine .bA 8 3 FM.out (by kernel_rfl) (k:= ?_)
  refine Z5 ?_
  refine .p (cI n.toNat (h:=hy1) (hi:=T8)) ?_
  refine Z3 ?_
  refine .p (cI y.fV.toNat (h:=PC) (hi:=Zq)) rfl ?_
  refine Z6 ?_
  refine Post.aN rfl () trivial (fun _ _ _ _=>trivial) (.ra (i:=0) FA.out FC.out rfl rfl rfl rfl) ?_
  exact .z
 obtain ⟨y,hy1,PC,T8,Zq,hy5⟩:=Cg aq c0
 unfold cw at hy5
 refine Z3 ?_
 refine .bA 12 3 FM.out (by kernel_rfl) (k:= ?_)
 refine Z9 ?_
 refine .p (cI ((n-(x.aA.length:Int)).toNat) (h:=hy1) (hi:=T8)) ?_
 refine Z3 ?_
 refine .p (cI y.fV.toNat (h:=PC) (hi:=Zq)) rfl ?_
 refine Z5 ?_
 refine Post.aN rfl () trivial (fun _ _ _ _=>trivial) (.ra (i:=0) FA.out FC.out rfl rfl rfl rfl) ?_
 exact .z
theorem vh {x:aU}:cQ Tryz.prog 39 [aE (bh x)] (bz [iC,Uq (fun n:Int=>n=0↔dy x) (ag .i64)]):=by
 refine In 393 Tryz.func39 fun _ _ _=> ?_
 refine .fact (t:=0) rfl (fun S w v h=>pY h) fun hlen=> ?_
 have hall:=hlen
 obtain ⟨⟨J0,je,jB,kS,kU,kV,kW,kX⟩,⟨R2,hi1,hi2,RT,hi4⟩,NK⟩:=hlen
 refine Z3 ?_
 refine .p (aX (.s [] rfl rfl)) rfl ?_
 refine XG ?_
 refine Cd (fun c0=> ?_) fun c0=> ?_
 ·
  refine Z2 ?_
  refine .p (aX (.s [115,105,103,115] rfl rfl)) rfl ?_
  refine Z5 ?_
  refine jr ?_ ?_
  · exact aa.any
  exact aa.ex _ ⟨fun h=>absurd h (by decide),fun h=>by (exfalso;have hL:=cv h;have je:=hL.sigs;have jB:=hL.imports;have kS:=hL.funcs;have kU:=hL.dI;have kV:=hL.globals;have kW:=hL.aV;have kX:=hL.elems;have mo:=hL.bO;have vi:=hL.table;omega)⟩ (aa.refl _)
 refine Z9 ?_
 refine .aY (σ:=Nat) (fun _=>[]) (fun ka=>[(5,ag .i64 (ka:Int))]) (fun ka=>ka≤x.bF.length∧cD (fun z:mD=>Ip z≠0) x.bF ka) (fun ka=>x.bF.length-ka) 0 ⟨by omega,cD.zero _ _⟩ rfl ?_ ?_
 · exact (.get rfl (aa.refl _) (.refl _ _))
 rintro ka ⟨Bk,S6⟩
 refine cJ ?_
 refine Cd (fun c1=> ?_) fun c1=> ?_
 ·
  obtain ⟨z,hz⟩:=ai (xs:=x.bF) (k:=ka) (by omega)
  refine Z9 ?_
  refine .p (cI _) rfl ?_
  refine Z2 ?_
  refine .p (cA (h:=xh)) rfl ?_
  refine Z5 ?_
  refine .g (cr.gF rfl rfl rfl rfl (fun hg=>aP FU.out FC.out rfl (.when (.t rfl) hg) (.when (.t rfl) hg) rfl (by assumption))) rfl rfl ?_
  refine Z2 ?_
  refine .g (cr.gF rfl rfl rfl rfl (fun hg=>bT (xh) FB.out (.cons (.when (.t rfl) hg) .nil))) rfl rfl ?_
  refine Z4 ?_
  refine Cd (fun c2=> ?_) fun c2=> ?_
  ·
   refine Z2 ?_
   refine .p (aX (.s [115,105,103,115] rfl rfl)) rfl ?_
   refine Z9 ?_
   refine jr ?_ ?_
   · exact aa.any
   exact aa.ex _ ⟨fun h=>absurd h (by decide),fun h=>by (exfalso;have hL:=cv h;have je:=hL.sigs;have jB:=hL.imports;have kS:=hL.funcs;have kU:=hL.dI;have kV:=hL.globals;have kW:=hL.aV;have kX:=hL.elems;have mo:=hL.bO;have vi:=hL.table;have h9:=QL h (List.mem_of_getElem? hz);rcases c2 with c|c;exact c h9.1;exact c h9.2)⟩ (aa.refl _)
  refine Z8 ?_
  refine .round (ka+1) ⟨by omega,S6.succ hz (not_not_intro (Nv (by simpa using c2)))⟩ (by omega) rfl ?_
  exact (.get rfl (aa.int (by omega)) (.keep 27 rfl rfl))
 have fa:za x=0:=qC (by omega) S6 (by omega)
 refine iw ?_
 refine Cd (fun c3=> ?_) fun c3=> ?_
 ·
  refine Z2 ?_
  refine .p (aX (.s [105,109,112,111,114,116,115] rfl rfl)) rfl ?_
  refine Z5 ?_
  refine jr ?_ ?_
  · exact aa.any
  exact aa.ex _ ⟨fun h=>absurd h (by decide),fun h=>by (exfalso;have hL:=cv h;have je:=hL.sigs;have jB:=hL.imports;have kS:=hL.funcs;have kU:=hL.dI;have kV:=hL.globals;have kW:=hL.aV;have kX:=hL.elems;have mo:=hL.bO;have vi:=hL.table;omega)⟩ (aa.refl _)
 refine Z9 ?_
 refine .aY (σ:=Nat) (fun _=>[]) (fun kb=>[(6,ag .i64 (kb:Int))]) (fun kb=>kb≤x.aA.length∧cD (fun z:gA=>fl x z≠0) x.aA kb) (fun kb=>x.aA.length-kb) 0 ⟨by omega,cD.zero _ _⟩ rfl ?_ ?_
 · exact (.get rfl (aa.refl _) (.refl _ _))
 rintro kb ⟨Bl,Zr⟩
 refine cJ ?_
 refine Cd (fun c4=> ?_) fun c4=> ?_
 ·
  obtain ⟨z,hz⟩:=ai (xs:=x.aA) (k:=kb) (by omega)
  refine cJ ?_
  refine .p (cI _) rfl ?_
  refine Z2 ?_
  refine .p (cA (h:=qa)) rfl ?_
  refine Z5 ?_
  refine .g (cr.gF rfl rfl rfl rfl (fun hg=>aP FU.out FC.out rfl (.when (.t rfl) hg) (.when (.t rfl) hg) rfl (by assumption))) rfl rfl ?_
  refine Z2 ?_
  refine .g (cr.gF rfl rfl rfl rfl (fun hg=>bT (qa) FB.out (.cons (.when (.t rfl) hg) .nil))) rfl rfl ?_
  refine Z4 ?_
  refine Cd (fun c5=> ?_) fun c5=> ?_
  ·
   refine Z2 ?_
   refine .p (aX (.s [105,109,112,111,114,116,115] rfl rfl)) rfl ?_
   refine cJ ?_
   refine jr ?_ ?_
   · exact aa.any
   exact aa.ex _ ⟨fun h=>absurd h (by decide),fun h=>by (exfalso;have hL:=cv h;have je:=hL.sigs;have jB:=hL.imports;have kS:=hL.funcs;have kU:=hL.dI;have kV:=hL.globals;have kW:=hL.aV;have kX:=hL.elems;have mo:=hL.bO;have vi:=hL.table;have h9:=LH h (List.mem_of_getElem? hz);rcases c5 with c|c;exact c h9.1;exact c h9.2.1)⟩ (aa.refl _)
  refine Z3 ?_
  refine .bA 9 2 FM.out (by kernel_rfl) (k:= ?_)
  refine Z3 ?_
  refine .p (cI _) ?_
  refine Z6 ?_
  refine .p (cA (h:=kK)) rfl ?_
  refine Z3 ?_
  refine Cd (fun c6=> ?_) fun c6=> ?_
  ·
   refine Z2 ?_
   refine .p (aX (.s [105,109,112,111,114,116,115] rfl rfl)) rfl ?_
   refine Z9 ?_
   refine jr ?_ ?_
   · exact aa.any
   exact aa.ex _ ⟨fun h=>absurd h (by decide),fun h=>by (exfalso;have hL:=cv h;have je:=hL.sigs;have jB:=hL.imports;have kS:=hL.funcs;have kU:=hL.dI;have kV:=hL.globals;have kW:=hL.aV;have kX:=hL.elems;have mo:=hL.bO;have vi:=hL.table;have h9:=LH h (List.mem_of_getElem? hz);exact c6 (by simpa using h9.2.2))⟩ (aa.refl _)
  refine Z8 ?_
  refine .round (kb+1) ⟨by omega,Zr.succ hz (not_not_intro (EA (by simpa using c5) (by simpa using c6)))⟩ (by omega) rfl ?_
  exact (.get rfl (aa.int (by omega)) (.keep 38 rfl rfl))
 have fb0:=Zr.GU (by omega)
 have fb:nG x=0:=qC (by omega) Zr (by omega)
 refine dH ?_
 refine Cd (fun c7=> ?_) fun c7=> ?_
 ·
  refine Z2 ?_
  refine .p (aX (.s [102,117,110,99,115] rfl rfl)) rfl ?_
  refine Z5 ?_
  refine jr ?_ ?_
  · exact aa.any
  exact aa.ex _ ⟨fun h=>absurd h (by decide),fun h=>by (exfalso;have hL:=cv h;have je:=hL.sigs;have jB:=hL.imports;have kS:=hL.funcs;have kU:=hL.dI;have kV:=hL.globals;have kW:=hL.aV;have kX:=hL.elems;have mo:=hL.bO;have vi:=hL.table;omega)⟩ (aa.refl _)
 refine Z9 ?_
 refine .aY (σ:=Nat) (fun _=>[]) (fun kc=>[(7,ag .i64 (kc:Int))]) (fun kc=>kc≤x.ax.length∧cD (fun z:cK=>pT x z≠0) x.ax kc) (fun kc=>x.ax.length-kc) 0 ⟨by omega,cD.zero _ _⟩ rfl ?_ ?_
 · exact (.get rfl (aa.refl _) (.refl _ _))
 rintro kc ⟨hk8,Zs⟩
 refine cJ ?_
 refine Cd (fun c8=> ?_) fun c8=> ?_
 ·
  obtain ⟨z,hz⟩:=ai (xs:=x.ax) (k:=kc) (by omega)
  refine Z5 ?_
  refine .bA 9 2 FM.out (by kernel_rfl) (k:= ?_)
  refine Z3 ?_
  refine .p (cI _) ?_
  refine Z6 ?_
  refine .p (cA (h:=kK)) rfl ?_
  refine Z3 ?_
  refine Cd (fun c9=> ?_) fun c9=> ?_
  ·
   refine Z2 ?_
   refine .p (aX (.s [102,117,110,99,115] rfl rfl)) rfl ?_
   refine Z9 ?_
   refine jr ?_ ?_
   · exact aa.any
   exact aa.ex _ ⟨fun h=>absurd h (by decide),fun h=>by (exfalso;have hL:=cv h;have je:=hL.sigs;have jB:=hL.imports;have kS:=hL.funcs;have kU:=hL.dI;have kV:=hL.globals;have kW:=hL.aV;have kX:=hL.elems;have mo:=hL.bO;have vi:=hL.table;have h9:=NO h (List.mem_of_getElem? hz);exact c9 (by simpa using h9))⟩ (aa.refl _)
  refine Z8 ?_
  refine .round (kc+1) ⟨by omega,Zs.succ hz (not_not_intro (Lc (by simpa using c9)))⟩ (by omega) rfl ?_
  exact (.get rfl (aa.int (by omega)) (.keep 20 rfl rfl))
 have fc0:=Zs.GU (by omega)
 have fc:jD x=0:=Ld (by omega) Zs (by omega)
 refine jN ?_
 refine Cd (fun jH=> ?_) fun jH=> ?_
 ·
  refine Z2 ?_
  refine .p (aX (.s [116,97,98,108,101] rfl rfl)) rfl ?_
  refine Z5 ?_
  refine jr ?_ ?_
  · exact aa.any
  exact aa.ex _ ⟨fun h=>absurd h (by decide),fun h=>by (exfalso;have hL:=cv h;have je:=hL.sigs;have jB:=hL.imports;have kS:=hL.funcs;have kU:=hL.dI;have kV:=hL.globals;have kW:=hL.aV;have kX:=hL.elems;have mo:=hL.bO;have vi:=hL.table;omega)⟩ (aa.refl _)
 refine cJ ?_
 refine Cd (fun lH=> ?_) fun lH=> ?_
 ·
  refine Z2 ?_
  refine .p (aX (.s [116,97,98,108,101] rfl rfl)) rfl ?_
  refine Z5 ?_
  refine jr ?_ ?_
  · exact aa.any
  exact aa.ex _ ⟨fun h=>absurd h (by decide),fun h=>by (exfalso;have hL:=cv h;have je:=hL.sigs;have jB:=hL.imports;have kS:=hL.funcs;have kU:=hL.dI;have kV:=hL.globals;have kW:=hL.aV;have kX:=hL.elems;have mo:=hL.bO;have vi:=hL.table;omega)⟩ (aa.refl _)
 have fd:l9 x=0:=It (by omega) (by omega)
 refine dw ?_
 refine Cd (fun nj=> ?_) fun nj=> ?_
 ·
  refine Z2 ?_
  refine .p (aX (.s [109,101,109,115] rfl rfl)) rfl ?_
  refine Z5 ?_
  refine jr ?_ ?_
  · exact aa.any
  exact aa.ex _ ⟨fun h=>absurd h (by decide),fun h=>by (exfalso;have hL:=cv h;have je:=hL.sigs;have jB:=hL.imports;have kS:=hL.funcs;have kU:=hL.dI;have kV:=hL.globals;have kW:=hL.aV;have kX:=hL.elems;have mo:=hL.bO;have vi:=hL.table;omega)⟩ (aa.refl _)
 refine Z9 ?_
 refine .aY (σ:=Nat) (fun _=>[]) (fun kd=>[(8,ag .i64 (kd:Int))]) (fun kd=>kd≤x.bI.length∧cD (fun z:dY=>K7 z≠0) x.bI kd) (fun kd=>x.bI.length-kd) 0 ⟨by omega,cD.zero _ _⟩ rfl ?_ ?_
 · exact (.get rfl (aa.refl _) (.refl _ _))
 rintro kd ⟨bc1,Mt⟩
 refine cJ ?_
 refine Cd (fun qJ=> ?_) fun qJ=> ?_
 ·
  obtain ⟨z,hz⟩:=ai (xs:=x.bI) (k:=kd) (by omega)
  refine Z9 ?_
  refine .p (cI _) rfl ?_
  refine Z1 ?_
  refine .n (az FZ.out) rfl fun b9 _=> ?_
  refine Z3 ?_
  refine .share (t:=9) (i:=0) rfl rfl ?_
  refine XI ?_
  refine Cd (fun oT=> ?_) fun oT=> ?_
  ·
   refine Z2 ?_
   refine .p (aX (.s [109,101,109,115] rfl rfl)) rfl ?_
   refine Z9 ?_
   refine jr ?_ ?_
   · exact aa.any
   exact aa.ex _ ⟨fun h=>absurd h (by decide),fun h=>by (exfalso;have hL:=cv h;have je:=hL.sigs;have jB:=hL.imports;have kS:=hL.funcs;have kU:=hL.dI;have kV:=hL.globals;have kW:=hL.aV;have kX:=hL.elems;have mo:=hL.bO;have vi:=hL.table;have h9:=LI h (List.mem_of_getElem? hz);omega)⟩ (aa.refl _)
  refine Z8 ?_
  refine .round (kd+1) ⟨by omega,Mt.succ hz (not_not_intro (Nw (by omega)))⟩ (by omega) rfl ?_
  exact (.get rfl (aa.int (by omega)) (.keep 41 rfl rfl))
 have fe:zc x=0:=qC (by omega) Mt (by omega)
 refine iw ?_
 refine Cd (fun tH=> ?_) fun tH=> ?_
 ·
  refine Z2 ?_
  refine .p (aX (.s [103,108,111,98,97,108,115] rfl rfl)) rfl ?_
  refine Z5 ?_
  refine jr ?_ ?_
  · exact aa.any
  exact aa.ex _ ⟨fun h=>absurd h (by decide),fun h=>by (exfalso;have hL:=cv h;have je:=hL.sigs;have jB:=hL.imports;have kS:=hL.funcs;have kU:=hL.dI;have kV:=hL.globals;have kW:=hL.aV;have kX:=hL.elems;have mo:=hL.bO;have vi:=hL.table;omega)⟩ (aa.refl _)
 refine Z9 ?_
 refine .aY (σ:=Nat) (fun _=>[]) (fun ke=>[(10,ag .i64 (ke:Int))]) (fun ke=>ke≤x.ay.length∧cD (fun z:iS=>qB z≠0) x.ay ke) (fun ke=>x.ay.length-ke) 0 ⟨by omega,cD.zero _ _⟩ rfl ?_ ?_
 · exact (.get rfl (aa.refl _) (.refl _ _))
 rintro ke ⟨bc2,T9⟩
 refine cJ ?_
 refine Cd (fun uF=> ?_) fun uF=> ?_
 ·
  obtain ⟨z,hz⟩:=ai (xs:=x.ay) (k:=ke) (by omega)
  refine Z9 ?_
  refine .p (cI _) rfl ?_
  refine Z1 ?_
  refine .n (az FZ.out) rfl fun RL _=> ?_
  refine Z3 ?_
  refine .share (t:=11) (i:=0) rfl rfl ?_
  refine J3 ?_
  refine Cd (fun JD=> ?_) fun JD=> ?_
  ·
   refine Z2 ?_
   refine .p (aX (.s [103,108,111,98,97,108,115] rfl rfl)) rfl ?_
   refine Z9 ?_
   refine jr ?_ ?_
   · exact aa.any
   exact aa.ex _ ⟨fun h=>absurd h (by decide),fun h=>by (exfalso;have hL:=cv h;have je:=hL.sigs;have jB:=hL.imports;have kS:=hL.funcs;have kU:=hL.dI;have kV:=hL.globals;have kW:=hL.aV;have kX:=hL.elems;have mo:=hL.bO;have vi:=hL.table;have h9:=zn h (List.mem_of_getElem? hz);omega)⟩ (aa.refl _)
  refine Z8 ?_
  refine .round (ke+1) ⟨by omega,T9.succ hz (not_not_intro (EB (by omega)))⟩ (by omega) rfl ?_
  exact (.get rfl (aa.int (by omega)) (.keep 29 rfl rfl))
 have ff:nH x=0:=qC (by omega) T9 (by omega)
 refine iw ?_
 refine Cd (fun Gl=> ?_) fun Gl=> ?_
 ·
  refine Z2 ?_
  refine .p (aX (.s [101,120,112,111,114,116,115] rfl rfl)) rfl ?_
  refine Z5 ?_
  refine jr ?_ ?_
  · exact aa.any
  exact aa.ex _ ⟨fun h=>absurd h (by decide),fun h=>by (exfalso;have hL:=cv h;have je:=hL.sigs;have jB:=hL.imports;have kS:=hL.funcs;have kU:=hL.dI;have kV:=hL.globals;have kW:=hL.aV;have kX:=hL.elems;have mo:=hL.bO;have vi:=hL.table;omega)⟩ (aa.refl _)
 refine Z9 ?_
 refine .aY (σ:=Nat) (fun _=>[]) (fun kf=>[(12,ag .i64 (kf:Int))]) (fun kf=>kf≤x.bD.length∧∀j,j<kf→iW x j=0) (fun kf=>x.bD.length-kf) 0 ⟨by omega,fun j hj=>absurd hj (by omega)⟩ rfl ?_ ?_
 · exact (.get rfl (aa.refl _) (.refl _ _))
 rintro kf ⟨bc3,Ua⟩
 refine cJ ?_
 refine Cd (fun Oz=> ?_) fun Oz=> ?_
 ·
  obtain ⟨z,hz⟩:=ai (xs:=x.bD) (k:=kf) (by omega)
  refine Z9 ?_
  refine .p (cI _) rfl ?_
  refine Z1 ?_
  refine .n (az FZ.out) rfl fun Rh _=> ?_
  refine Z3 ?_
  refine .share (t:=13) (i:=0) rfl rfl ?_
  refine Z5 ?_
  refine .p (cA (h:=qa)) rfl ?_
  refine Z3 ?_
  refine Cd (fun Mp=> ?_) fun Mp=> ?_
  ·
   refine Z2 ?_
   refine .p (aX (.s [101,120,112,111,114,116,115] rfl rfl)) rfl ?_
   refine cJ ?_
   refine jr ?_ ?_
   · exact aa.any
   exact aa.ex _ ⟨fun h=>absurd h (by decide),fun h=>by (exfalso;have hL:=cv h;have je:=hL.sigs;have jB:=hL.imports;have kS:=hL.funcs;have kU:=hL.dI;have kV:=hL.globals;have kW:=hL.aV;have kX:=hL.elems;have mo:=hL.bO;have vi:=hL.table;exact Mp (uo h hz).1)⟩ (aa.refl _)
  refine Z9 ?_
  refine .aY (σ:=Nat) (fun _=>[]) (fun kg=>[(14,ag .i64 (kg:Int))]) (fun kg=>kg≤kf∧cD (fun w:dJ=>w.Name=z.Name) x.bD kg) (fun kg=>kf-kg) 0 ⟨by omega,cD.zero _ _⟩ rfl ?_ ?_
  · exact (.get rfl (aa.refl _) (.refl _ _))
  rintro kg ⟨bc4,Ub⟩
  refine Z8 ?_
  refine Cd (fun TQ=> ?_) fun TQ=> ?_
  ·
   obtain ⟨w,hw⟩:=ai (xs:=x.bD) (k:=kg) (by omega)
   refine Z5 ?_
   refine .bA 8 1 FM.out (by kernel_rfl) (k:= ?_)
   refine Z3 ?_
   refine .p (cI _) ?_
   refine Z8 ?_
   refine Cd (fun PD=> ?_) fun PD=> ?_
   ·
    refine Z2 ?_
    refine .p (aX (.s [101,120,112,111,114,116,115] rfl rfl)) rfl ?_
    refine iw ?_
    refine jr ?_ ?_
    · exact aa.any
    exact aa.ex _ ⟨fun h=>absurd h (by decide),fun h=>by (exfalso;have hL:=cv h;have je:=hL.sigs;have jB:=hL.imports;have kS:=hL.funcs;have kU:=hL.dI;have kV:=hL.globals;have kW:=hL.aV;have kX:=hL.elems;have mo:=hL.bO;have vi:=hL.table;exact (uo h hz).2.1 kg w (by omega) hw PD)⟩ (aa.refl _)
   refine Z8 ?_
   refine .round (kg+1) ⟨by omega,Ub.succ hw PD⟩ (by omega) rfl ?_
   exact (.get rfl (aa.int (by omega)) (.keep 16 rfl rfl))
  have Zt:cD (fun w:dJ=>w.Name=z.Name) x.bD kf:=fun j y hj=>Ub j y (by omega)
  refine iw ?_
  refine .g (cr.gT rfl rfl rfl rfl (fun hg=>bT (kK) FB.out (.cons (.when (.t rfl) hg) (.cons (.when (.t rfl) hg) .nil)))) rfl rfl ?_
  refine XH ?_
  refine .g (cr.hT rfl rfl rfl rfl (fun hg=>bT (kK) FB.out (.cons (.when (.t rfl) hg) (.cons (.when (.t rfl) hg) .nil)))) rfl rfl ?_
  refine dH ?_
  refine .g (cr.hT rfl rfl rfl rfl (fun hg=>bT (kK) FB.out (.cons (.when (.t rfl) hg) (.cons (.when (.t rfl) hg) .nil)))) rfl rfl ?_
  refine dw ?_
  refine Cd (fun Zu=> ?_) fun Zu=> ?_
  ·
   refine Z2 ?_
   refine .p (aX (.s [101,120,112,111,114,116,115] rfl rfl)) rfl ?_
   refine Z9 ?_
   refine jr ?_ ?_
   · exact aa.any
   exact aa.ex _ ⟨fun h=>absurd h (by decide),fun h=>by (exfalso;have hL:=cv h;have je:=hL.sigs;have jB:=hL.imports;have kS:=hL.funcs;have kU:=hL.dI;have kV:=hL.globals;have kW:=hL.aV;have kX:=hL.elems;have mo:=hL.bO;have vi:=hL.table;exact Zu (uo h hz).2.2)⟩ (aa.refl _)
  refine Z8 ?_
  refine .round (kf+1) ⟨by omega,fun j hj=>by rcases Nat.lt_succ_iff_lt_or_eq.1 hj with h|h;exact Ua j h;exact h▸EC hz (by simpa using Mp) Zt (by omega) (by omega) (or4 (Classical.not_not.1 Zu))⟩ (by omega) rfl ?_
  exact (.get rfl (aa.int (by omega)) (.keep 78 rfl rfl))
 have fg:me x=0:=ED (by omega) Ua (by omega)
 refine Z5 ?_
 refine .cut (σ:=Unit) (fun _=>[]) (fun _=>[]) (fun _=>iJ x=0) ?_ ?_
 ·
  refine Z7 ?_
  refine Cd (fun c24=> ?_) fun c24=> ?_
  ·
   refine Z6 ?_
   refine .p (cA (h:=kK)) rfl ?_
   refine Z3 ?_
   refine Cd (fun Zv=> ?_) fun Zv=> ?_
   ·
    refine Z2 ?_
    refine .p (aX (.s [115,116,97,114,116] rfl rfl)) rfl ?_
    refine Z6 ?_
    refine jr ?_ ?_
    · exact aa.any
    exact aa.ex _ ⟨fun h=>absurd h (by decide),fun h=>by (exfalso;have hL:=cv h;have je:=hL.sigs;have jB:=hL.imports;have kS:=hL.funcs;have kU:=hL.dI;have kV:=hL.globals;have kW:=hL.aV;have kX:=hL.elems;have mo:=hL.bO;have vi:=hL.table;exact Zv (by simpa [cw] using (CQ h (by omega)).1))⟩ (aa.refl _)
   obtain ⟨s,hs⟩:=ud (m:=x) (f:=x.Start) (by simpa [cw] using Zv) fb0 fc0
   obtain ⟨si,hsi⟩:=List.mem_iff_getElem?.1 (Af hs)
   have hs0:=R2 si s hsi
   refine Z7 ?_
   refine .p (cA (h:=(DH hs))) rfl ?_
   refine .n (az FZ.out) rfl fun b16 _=> ?_
   refine Z3 ?_
   refine .share (t:=16) (i:=0) rfl rfl ?_
   refine dH ?_
   refine Cd (fun c26=> ?_) fun c26=> ?_
   ·
    refine Z2 ?_
    refine .p (aX (.s [115,116,97,114,116] rfl rfl)) rfl ?_
    refine Z5 ?_
    refine jr ?_ ?_
    · exact aa.any
    exact aa.ex _ ⟨fun h=>absurd h (by decide),fun h=>by (exfalso;have hL:=cv h;have je:=hL.sigs;have jB:=hL.imports;have kS:=hL.funcs;have kU:=hL.dI;have kV:=hL.globals;have kW:=hL.aV;have kX:=hL.elems;have mo:=hL.bO;have vi:=hL.table;have h9:=(CQ h (by omega)).2 s hs;omega)⟩ (aa.refl _)
   refine Z1 ?_
   refine .meet () (Iv hs (by omega)) rfl (.keep 22 rfl rfl)
  refine Z1 ?_
  refine .meet () (Iu (by omega)) rfl (.keep 3 rfl rfl)
 intro _ fh
 refine Z9 ?_
 refine Cd (fun c27=> ?_) fun c27=> ?_
 ·
  refine Z2 ?_
  refine .p (aX (.s [101,108,101,109,115] rfl rfl)) rfl ?_
  refine Z5 ?_
  refine jr ?_ ?_
  · exact aa.any
  exact aa.ex _ ⟨fun h=>absurd h (by decide),fun h=>by (exfalso;have hL:=cv h;have je:=hL.sigs;have jB:=hL.imports;have kS:=hL.funcs;have kU:=hL.dI;have kV:=hL.globals;have kW:=hL.aV;have kX:=hL.elems;have mo:=hL.bO;have vi:=hL.table;omega)⟩ (aa.refl _)
 refine Z9 ?_
 refine .aY (σ:=Nat) (fun _=>[]) (fun kh=>[(17,ag .i64 (kh:Int))]) (fun kh=>kh≤x.bY.length∧cD (fun z:iN=>qZ x z≠0) x.bY kh) (fun kh=>x.bY.length-kh) 0 ⟨by omega,cD.zero _ _⟩ rfl ?_ ?_
 · exact (.get rfl (aa.refl _) (.refl _ _))
 rintro kh ⟨bc5,Uc⟩
 refine cJ ?_
 refine Cd (fun c28=> ?_) fun c28=> ?_
 ·
  obtain ⟨z,hz⟩:=ai (xs:=x.bY) (k:=kh) (by omega)
  refine cJ ?_
  refine .p (cI _) rfl ?_
  refine Z6 ?_
  refine Cd (fun c29=> ?_) fun c29=> ?_
  ·
   refine Z2 ?_
   refine .p (aX (.s [101,108,101,109,115] rfl rfl)) rfl ?_
   refine cJ ?_
   refine jr ?_ ?_
   · exact aa.any
   exact aa.ex _ ⟨fun h=>absurd h (by decide),fun h=>by (exfalso;have hL:=cv h;have je:=hL.sigs;have jB:=hL.imports;have kS:=hL.funcs;have kU:=hL.dI;have kV:=hL.globals;have kW:=hL.aV;have kX:=hL.elems;have mo:=hL.bO;have vi:=hL.table;have h9:=(vJ h (List.mem_of_getElem? hz)).1;omega)⟩ (aa.refl _)
  refine dH ?_
  refine .g (cr.gF rfl rfl rfl rfl (fun hg=>aP FU.out FC.out rfl (.when (.t rfl) hg) (.when (.t rfl) hg) rfl (by assumption))) rfl rfl ?_
  refine Z6 ?_
  refine Cd (fun c30=> ?_) fun c30=> ?_
  ·
   refine Z2 ?_
   refine .p (aX (.s [101,108,101,109,115] rfl rfl)) rfl ?_
   refine cJ ?_
   refine jr ?_ ?_
   · exact aa.any
   exact aa.ex _ ⟨fun h=>absurd h (by decide),fun h=>by (exfalso;have hL:=cv h;have je:=hL.sigs;have jB:=hL.imports;have kS:=hL.funcs;have kU:=hL.dI;have kV:=hL.globals;have kW:=hL.aV;have kX:=hL.elems;have mo:=hL.bO;have vi:=hL.table;have h9:=vJ h (List.mem_of_getElem? hz);omega)⟩ (aa.refl _)
  refine Z8 ?_
  refine .aY (σ:=Nat) (fun _=>[]) (fun kj=>[(18,ag .i64 (kj:Int))]) (fun kj=>kj≤z.ax.length∧cD (fun w:Int=>¬iU w (cw x)) z.ax kj) (fun kj=>z.ax.length-kj) 0 ⟨by omega,cD.zero _ _⟩ rfl ?_ ?_
  · exact (.get rfl (aa.refl _) (.refl _ _))
  rintro kj ⟨bc6,Ud⟩
  refine Z7 ?_
  refine .p (cI _) rfl ?_
  refine Z6 ?_
  refine Cd (fun c31=> ?_) fun c31=> ?_
  ·
   obtain ⟨w,hw⟩:=ai (xs:=z.ax) (k:=kj) (by omega)
   refine Z9 ?_
   refine .p (cI _) rfl ?_
   refine Z3 ?_
   refine .p (cI _) rfl ?_
   refine Z2 ?_
   refine .p (cA (h:=kK)) rfl ?_
   refine Z3 ?_
   refine Cd (fun Zw=> ?_) fun Zw=> ?_
   ·
    refine Z2 ?_
    refine .p (aX (.s [101,108,101,109,115] rfl rfl)) rfl ?_
    refine jN ?_
    refine jr ?_ ?_
    · exact aa.any
    exact aa.ex _ ⟨fun h=>absurd h (by decide),fun h=>by (exfalso;have hL:=cv h;have je:=hL.sigs;have jB:=hL.imports;have kS:=hL.funcs;have kU:=hL.dI;have kV:=hL.globals;have kW:=hL.aV;have kX:=hL.elems;have mo:=hL.bO;have vi:=hL.table;have h9:=(vJ h (List.mem_of_getElem? hz)).2.2.2 w (List.mem_of_getElem? hw);exact Zw (by simpa [cw] using h9))⟩ (aa.refl _)
   refine Z8 ?_
   refine .round (kj+1) ⟨by omega,Ud.succ hw (by simpa [cw] using Zw)⟩ (by omega) rfl ?_
   exact (.get rfl (aa.int (by omega)) (.keep 25 rfl rfl))
  refine dw ?_
  refine .round (kh+1) ⟨by omega,Uc.succ hz (not_not_intro (Le (k:=kj) (by omega) (by omega) (by omega) Ud (by omega)))⟩ (by omega) rfl ?_
  exact (.get rfl (aa.int (by omega)) (.keep 40 rfl rfl))
 have fi:ua x=0:=qC (by omega) Uc (by omega)
 refine iw ?_
 refine Cd (fun c33=> ?_) fun c33=> ?_
 ·
  refine Z2 ?_
  refine .p (aX (.s [100,97,116,97] rfl rfl)) rfl ?_
  refine Z5 ?_
  refine jr ?_ ?_
  · exact aa.any
  exact aa.ex _ ⟨fun h=>absurd h (by decide),fun h=>by (exfalso;have hL:=cv h;have je:=hL.sigs;have jB:=hL.imports;have kS:=hL.funcs;have kU:=hL.dI;have kV:=hL.globals;have kW:=hL.aV;have kX:=hL.elems;have mo:=hL.bO;have vi:=hL.table;omega)⟩ (aa.refl _)
 refine Z9 ?_
 refine .aY (σ:=Nat) (fun _=>[]) (fun kl=>[(19,ag .i64 (kl:Int))]) (fun kl=>kl≤x.bK.length∧cD (fun z:jO=>q6 x z≠0) x.bK kl) (fun kl=>x.bK.length-kl) 0 ⟨by omega,cD.zero _ _⟩ rfl ?_ ?_
 · exact (.get rfl (aa.refl _) (.refl _ _))
 rintro kl ⟨bc7,Ue⟩
 refine cJ ?_
 refine Cd (fun c34=> ?_) fun c34=> ?_
 ·
  obtain ⟨z,hz⟩:=ai (xs:=x.bK) (k:=kl) (by omega)
  refine Z9 ?_
  refine .p (cI _) rfl ?_
  refine Z1 ?_
  refine .n (az FZ.out) rfl fun b20 _=> ?_
  refine Z3 ?_
  refine .share (t:=20) (i:=0) rfl rfl ?_
  refine Z9 ?_
  refine Cd (fun c35=> ?_) fun c35=> ?_
  ·
   refine Z2 ?_
   refine .p (aX (.s [100,97,116,97] rfl rfl)) rfl ?_
   refine cJ ?_
   refine jr ?_ ?_
   · exact aa.any
   exact aa.ex _ ⟨fun h=>absurd h (by decide),fun h=>by (exfalso;have hL:=cv h;have je:=hL.sigs;have jB:=hL.imports;have kS:=hL.funcs;have kU:=hL.dI;have kV:=hL.globals;have kW:=hL.aV;have kX:=hL.elems;have mo:=hL.bO;have vi:=hL.table;have h9:=(vK h (List.mem_of_getElem? hz)).1;omega)⟩ (aa.refl _)
  refine cJ ?_
  refine .p (cA (h:=kK)) rfl ?_
  refine Z3 ?_
  refine Cd (fun W8=> ?_) fun W8=> ?_
  ·
   refine Z2 ?_
   refine .p (aX (.s [100,97,116,97] rfl rfl)) rfl ?_
   refine cJ ?_
   refine jr ?_ ?_
   · exact aa.any
   exact aa.ex _ ⟨fun h=>absurd h (by decide),fun h=>by (exfalso;have hL:=cv h;have je:=hL.sigs;have jB:=hL.imports;have kS:=hL.funcs;have kU:=hL.dI;have kV:=hL.globals;have kW:=hL.aV;have kX:=hL.elems;have mo:=hL.bO;have vi:=hL.table;have h9:=(vK h (List.mem_of_getElem? hz)).2.1;exact W8 (by simpa using h9))⟩ (aa.refl _)
  obtain ⟨T8,PC⟩:=iU.at (n:=z.Mem) (k:=x.bI.length) (by simpa using W8)
  obtain ⟨y,hy1⟩:=ai (xs:=x.bI) (k:=z.Mem.toNat) T8
  refine Z8 ?_
  refine .p (cI z.Mem.toNat (h:=hy1) (hi:=PC)) rfl ?_
  refine cJ ?_
  refine Cd (fun Zx=> ?_) fun Zx=> ?_
  ·
   refine Z2 ?_
   refine .p (aX (.s [100,97,116,97] rfl rfl)) rfl ?_
   refine Z9 ?_
   refine jr ?_ ?_
   · exact aa.any
   exact aa.ex _ ⟨fun h=>absurd h (by decide),fun h=>by (exfalso;have hL:=cv h;have je:=hL.sigs;have jB:=hL.imports;have kS:=hL.funcs;have kU:=hL.dI;have kV:=hL.globals;have kW:=hL.aV;have kX:=hL.elems;have mo:=hL.bO;have vi:=hL.table;have h9:=(vK h (List.mem_of_getElem? hz)).2.2 y hy1;exact h9 Zx)⟩ (aa.refl _)
  refine Z8 ?_
  refine .round (kl+1) ⟨by omega,Ue.succ hz (not_not_intro (Lf (by omega) (by simpa using W8) hy1 (by simpa using Zx)))⟩ (by omega) rfl ?_
  exact (.get rfl (aa.int (by omega)) (.keep 40 rfl rfl))
 have fj:uc x=0:=qC (by omega) Ue (by omega)
 refine Z7 ?_
 refine .p (aX (.s [] rfl rfl)) rfl ?_
 refine Z4 ?_
 refine jr ?_ ?_
 · exact aa.any
 exact aa.ex _ ⟨fun _=>⟨fa,fb,fc,fd,fe,ff,fg,fh,fi,fj⟩,fun _=>rfl⟩ (aa.refl _)
variable {n:Nat}
theorem DI {l:List au} {a d:Nat} (aq:l.length-a<n) (aT:a≤l.length) (dh:d≤64) (fX:l.length≤10000):cH Tryz.prog 133 [ah 5 aG (l),ag .i64 ((a:Int)),ag .i64 ((d:Int))] [] (γ:=Int×SB×List yz×Int) (fun g=>TH l a d g.1 g.2.2.1 g.2.2.2) (fun g=>[av g.2.1 3 fG g.2.2.1]) (fun g=>bz [ag .i64 g.1,af (br g.2.1 g.2.2.1.length),ag .i64 g.2.2.2]):=by
 induction n generalizing a d
 case zero=>omega
 rename_i n ih
 refine In 128 Tryz.func133 fun _ _ _=> ?_
 refine dH ?_
 refine .dQ 3 fG ?_
 refine Z2 ?_
 refine .aY (σ:=Nat×SB×List yz) (fun g=>[av g.2.1 3 fG g.2.2]) (fun g=>[(1,ag .i64 (g.1:Int)),(9,af (br g.2.1 g.2.2.length))]) (fun g=>a≤g.1∧g.1≤l.length∧g.2.2.length+a≤g.1∧rc ((bW l).drop a) d=rc ((bW l).drop g.1) d) (fun g=>l.length-g.1) (a,none,[]) ⟨Nat.le_refl _,aT,by simp,rfl⟩ rfl ?_ ?_
 · exact (.get rfl (aa.refl _) (.get rfl (aa.of_eq rfl) (.refl _ _)))
 rintro ⟨i,gs,out⟩ ⟨TR,tF,vA,hrc⟩
 simp only at TR tF vA hrc ⊢
 refine Z9 ?_
 refine Cd (fun c0=> ?_) fun c0=> ?_
 ·
  obtain ⟨x,hx⟩:=ai (xs:=l) (k:=i) (by omega)
  refine Z7 ?_
  refine .p (cI i (h:=hx)) rfl ?_
  refine BY ?_
  refine Cd (fun c1=> ?_) fun c1=> ?_
  ·
   refine mM ?_
   refine Post.aZ rfl rfl (((i:Int),gs,out,0)) (by exact .inl ⟨rfl,i,rfl,by rw [hrc,eH hx,Q2 c1],by omega,tF,by omega⟩) (fun _ _ _ h=>h) rfl (.cons (.rt rfl) ?_ (.cons (.rt rfl) ?_ (.cons (.rt rfl) ?_ .nil)))
   · exact aa.refl _
   · exact aa.refl _
   exact aa.refl _
  refine jN ?_
  refine Cd (fun c2=> ?_) fun c2=> ?_
  ·
   refine cJ ?_
   refine .round (i+1,gs,out) ⟨by show a≤i+1;omega,by show i+1≤_;omega,by show out.length+a≤i+1;omega,by (show _=rc ((bW l).drop (i+1)) d;rw [hrc,eH hx,Md c1 (by unfold aO;omega)])⟩ (by show l.length-(i+1)<l.length-i;omega) rfl ?_
   exact (.get rfl (aa.int (by show (_:Int)=((i+1:Nat):Int);omega)) (.get rfl (aa.refl _) ((.keep 27 rfl rfl))))
  have ho:aO x.Code:=by unfold aO;omega
  refine Z9 ?_
  refine Cd (fun c3=> ?_) fun c3=> ?_
  ·
   refine iw ?_
   refine Post.aZ rfl rfl (((i:Int),none,[],15)) (by exact .inr ⟨by show (15:Int)≠0;decide,by rw [hrc,eH hx];exact Om ho (by omega),rfl⟩) (aB.trans (aB.nil _) aB.none) rfl (.cons (.rt rfl) ?_ (.cons (.rt rfl) ?_ (.cons (.rt rfl) ?_ .nil)))
   · exact aa.refl _
   · exact aa.refl _
   exact aa.refl _
  have hd:¬64≤d:=by omega
  refine Z6 ?_
  refine .n (az FZ.out) rfl fun RL _=> ?_
  refine cJ ?_
  refine .n (cC (rest:=[_,_]) (@ih (i+1) (d+1) (by omega) (by omega) (by omega)) FB.out (.cons (.t rfl) (.cons (.le (.t rfl) (aa.int (show (i:Int)+1=((i+1:Nat):Int) by omega))) (.cons (.le (.t rfl) (aa.int (show (d:Int)+1=((d+1:Nat):Int) by omega))) .nil))) (Perm.idx [0,1] rfl rfl)) rfl fun Dv PF=> ?_
  refine Z9 ?_
  refine .cut (σ:=Int×SB×List yz×Int×Int) (fun z=>[av z.2.1 3 fG z.2.2.1,aF RL [ag .i64 (i:Int),ag .i64 z.2.2.2.2,ag .i64 (-1)],av gs 3 fG out]) (fun z=>[(12,ag .i64 z.1),(13,af (br z.2.1 z.2.2.1.length)),(14,ag .i64 z.2.2.2.1)]) (fun z=>Za l i d z.1 z.2.2.1 z.2.2.2.1) ?_ ?_
  ·
   refine jN ?_
   refine .g (cr.gT rfl rfl rfl rfl (fun hg=>aP (j:=Dv.1.toNat) FU.out FC.out rfl (.when (.t rfl) hg) (.when (.t rfl) hg) (by (rcases PF with ⟨_,k,h2,_⟩|⟨h1,_⟩;omega;exact absurd hg.1 h1)) (tg (by omega)))) rfl rfl ?_
   refine Z6 ?_
   refine Cd (fun c4=> ?_) fun c4=> ?_
   ·
    refine Z7 ?_
    refine Cd (fun c5=> ?_) fun c5=> ?_
    ·
     refine mM ?_
     refine Post.aZ rfl rfl ((Dv.1,none,[],4)) (by exact .inr ⟨by show (4:Int)≠0;decide,by (rw [hrc];rcases PF with ⟨_,k,h2,h3,_,h5,_⟩|⟨h1,_⟩;(have hk:Dv.1.toNat=k:=by omega);have hc:=c4.2;(rw [hk] at hc);exact Gi hx ho hd h3 (tg (by omega)) hc c5;exact absurd c4.1.1 h1),rfl⟩) (aB.trans (aB.nil _) aB.none) rfl (.cons (.rt rfl) ?_ (.cons (.rt rfl) ?_ (.cons (.rt rfl) ?_ .nil)))
     · exact aa.refl _
     · exact aa.refl _
     exact aa.refl _
    have h4:x.Code=4:=by omega
    have bc8:0≤Dv.1∧i+1≤Dv.1.toNat∧Dv.1.toNat<l.length:=by (have h8:=c4.1.2;rcases PF with ⟨_,k,h2,_,h3,_⟩|⟨h1,_⟩;omega;exact absurd c4.1.1 h1)
    refine RD ?_
    refine .n (cC (rest:=[_,_,_]) (@ih (Dv.1.toNat+1) (d+1) (by omega) (by omega) (by omega)) FB.out (.cons (.t rfl) (.cons (.le (.t rfl) (aa.int (show Dv.1+1=((Dv.1.toNat+1:Nat):Int) by omega))) (.cons (.le (.t rfl) (aa.int (show (d:Int)+1=((d+1:Nat):Int) by omega))) .nil))) (Perm.idx [0,1,2] rfl rfl)) rfl fun Rk Uf=> ?_
    refine cJ ?_
    refine .fu (t:=15) (i:=0) (g:=Rk.2.1) (xs:=Rk.2.2.1) rfl rfl ?_
    refine Z3 ?_
    refine .n (aH (i:=0) FU.out FU.out FC.out rfl FZ.out rfl FY.out (.t rfl) (.t rfl) rfl (by have:=vT PF;have:=vT Uf;omega) (by have:=vT PF;have:=vT Uf;omega)) rfl fun Y6 _=> ?_
    refine BY ?_
    refine .g (cr.gT rfl rfl rfl rfl (fun hg=>aP (j:=Rk.1.toNat) FU.out FC.out rfl (.when (.t rfl) hg) (.when (.t rfl) hg) (by (rcases Uf with ⟨_,k,h2,_⟩|⟨h1,_⟩;omega;exact absurd hg.1 h1)) (tg (by omega)))) rfl rfl ?_
    refine Z6 ?_
    refine Cd (fun c6=> ?_) fun c6=> ?_
    ·
     refine iw ?_
     refine Post.aZ rfl rfl ((Rk.1,none,[],4)) (by exact .inr ⟨by show (4:Int)≠0;decide,by rw [hrc];exact (Hu hx ho hd dh PF fX c4 h4 Uf).1 c6,rfl⟩) (aB.trans (aB.nil _) aB.none) rfl (.cons (.rt rfl) ?_ (.cons (.rt rfl) ?_ (.cons (.rt rfl) ?_ .nil)))
     · exact aa.refl _
     · exact aa.refl _
     exact aa.refl _
    refine Z1 ?_
    refine .meet (Rk.1,Y6,Dv.2.2.1++Rk.2.2.1,Rk.2.2.2,Dv.1) ((Hu hx ho hd dh PF fX c4 h4 Uf).2 c6) rfl (.get rfl (aa.refl _) (.get rfl (aa.refl _) (.get rfl (aa.refl _) (.keep 55 rfl rfl))))
   refine Z1 ?_
   refine .meet (Dv.1,Dv.2.1,Dv.2.2.1,Dv.2.2.2,-1) (Oq hx ho hd PF fX c4) rfl (.get rfl (aa.refl _) (.get rfl (aa.refl _) (.get rfl (aa.refl _) (.keep 16 rfl rfl))))
  intro ⟨en,gi,inn,e,el⟩ hM
  simp only at hM ⊢
  refine Z7 ?_
  refine Cd (fun c7=> ?_) fun c7=> ?_
  ·
   refine mM ?_
   refine Post.aZ rfl rfl ((en,none,[],e)) (by exact .inr ⟨c7,by (rw [hrc];rcases hM with ⟨_,h,_⟩|⟨h1,_⟩|⟨h1,_⟩;exact h;exact absurd h1 c7;exact absurd h1 c7),rfl⟩) (aB.trans (aB.nil _) aB.none) rfl (.cons (.rt rfl) ?_ (.cons (.rt rfl) ?_ (.cons (.rt rfl) ?_ .nil)))
   · exact aa.refl _
   · exact aa.refl _
   exact aa.refl _
  refine dw ?_
  refine Cd (fun c8=> ?_) fun c8=> ?_
  ·
   refine iw ?_
   refine Post.aZ rfl rfl ((en,none,[],4)) (by exact .inr ⟨by show (4:Int)≠0;decide,by (rw [hrc];rcases hM with ⟨h1,h,_⟩|⟨_,_,h,_⟩|⟨_,k,h1,h2,_⟩;exact h;exact h;exact absurd c8 (by omega)),rfl⟩) (aB.trans (aB.nil _) aB.none) rfl (.cons (.rt rfl) ?_ (.cons (.rt rfl) ?_ (.cons (.rt rfl) ?_ .nil)))
   · exact aa.refl _
   · exact aa.refl _
   exact aa.refl _
  obtain ⟨Kc,k,Bk,hk2,EK,Bl,QC⟩:e=0∧∃k:Nat,en=(k:Int)∧k<l.length∧rc ((bW l).drop i) d=rc ((bW l).drop (k+1)) d∧i+1≤k∧inn.length+i+1≤k:=by (rcases hM with ⟨h1,_⟩|⟨_,h1,_⟩|h1;exact absurd h1 c7;exact absurd h1 c8;exact h1)
  refine cJ ?_
  refine .fu (t:=13) (i:=0) (g:=gi) (xs:=inn) rfl rfl ?_
  refine Z3 ?_
  refine .p (cB fG [((i:Int),el,en)]) rfl ?_
  refine .n (aH (i:=1) FU.out FU.out FC.out rfl FZ.out rfl FY.out (.t rfl) (.t rfl) rfl (by simp only [List.length_cons,List.length_nil];omega) (by simp only [List.length_cons,List.length_nil];omega)) rfl fun bc9 _=> ?_
  refine Z1 ?_
  refine .n (aH (i:=1) FU.out FU.out FC.out rfl FZ.out rfl FY.out (.t rfl) (.t rfl) rfl (by simp only [List.length_append,List.length_cons,List.length_nil];omega) (by simp only [List.length_append,List.length_cons,List.length_nil];omega)) rfl fun Zy _=> ?_
  refine Z9 ?_
  refine .own (aB.dc [1] [0] rfl rfl) (bR.round (k+1,Zy,(out++[((i:Int),el,en)])++inn) ⟨by show a≤k+1;omega,by show k+1≤_;omega,by (show ((out++[_])++inn).length+a≤k+1;simp only [List.length_append,List.length_cons,List.length_nil];omega),by (show _=rc ((bW l).drop (k+1)) d;rw [hrc,EK])⟩ (by show l.length-(k+1)<l.length-i;omega) rfl ?_)
  exact (.get rfl (aa.int (by show (_:Int)=((k+1:Nat):Int);omega)) (.get rfl (aa.refl _) ((.keep 64 rfl rfl))))
 refine mM ?_
 refine Post.aZ rfl rfl (((i:Int),gs,out,0)) (by exact .inl ⟨rfl,i,rfl,by (rw [hrc,lR (by omega)];rfl),by omega,tF,by omega⟩) (fun _ _ _ h=>h) rfl (.cons (.rt rfl) ?_ (.cons (.rt rfl) ?_ (.cons (.rt rfl) ?_ .nil)))
 · exact aa.refl _
 · exact aa.refl _
 exact aa.refl _
theorem DJ {l:List au} (aq:l.length≤10000):cH Tryz.prog 111 [ah 5 aG (l)] [] (γ:=Int) (fun e=>e=0↔ey (bW l) []) (fun _=>[]) (fun e=>bz [iC,iC,ag .i64 e]):=by
 refine In 39 Tryz.func111 fun _ _ _=> ?_
 refine cJ ?_
 refine .n (cE (h:=DI (n:=l.length+1) (a:=0) (d:=0) (by omega) (Nat.zero_le _) (by omega) aq)) rfl fun IQ h10=> ?_
 refine BY ?_
 refine Cd (fun c0=> ?_) fun c0=> ?_
 ·
  have hno:¬ey (bW l) []:=fun h=>by (rw [vU] at h;rcases h10 with ⟨h1,_⟩|⟨_,h2,_⟩;exact c0 h1;rw [List.drop_zero] at h2;rw [h2] at h;cases h)
  refine dw ?_
  refine Post.aZ rfl rfl (IQ.2.2.2) (by exact ⟨fun h=>absurd h c0,fun h=>absurd h hno⟩) (fun _ _ _ _=>trivial) rfl (.cons (.rt rfl) ?_ (.cons (.rt rfl) ?_ (.cons (.rt rfl) ?_ .nil)))
  · exact aa.any
  · exact aa.any
  exact aa.refl _
 obtain ⟨h1,k,Bk,hk2,_,EK,_⟩:IQ.2.2.2=0∧∃n:Nat,IQ.1=(n:Int)∧rc ((bW l).drop 0) 0=some ((bW l).drop n)∧0≤n∧n≤l.length∧IQ.2.2.1.length+0≤n:=by (rcases h10 with h|⟨h1,_⟩;exact h;exact absurd (Classical.not_not.1 c0) h1)
 rw [List.drop_zero] at hk2
 have hkk:IQ.1.toNat=k:=by omega
 refine dH ?_
 refine .g (cr.gF rfl rfl rfl rfl (fun hg=>aP (j:=IQ.1.toNat) FU.out FC.out rfl (.when (.t rfl) hg) (.when (.t rfl) hg) (by (rcases h10 with ⟨_,k,h2,_⟩|⟨h1,_⟩;omega;exact absurd (Classical.not_not.1 c0) h1)) (tg (by (rcases h10 with ⟨_,k,h2,_,_,h5,_⟩|⟨h1,_⟩;omega;exact absurd (Classical.not_not.1 c0) h1))))) rfl rfl ?_
 refine Z6 ?_
 refine Cd (fun c1=> ?_) fun c1=> ?_
 ·
  refine cJ ?_
  refine Post.aZ rfl rfl (4) (by exact ⟨fun h=>by simp at h,fun h=>by (rw [vU,hk2] at h;rcases c1 with c1|c1;(rw [lR (by omega)] at h;cases h);(by_cases hlt:k<l.length;(rw [eH (tg hlt)] at h;rw [hkk] at c1;rw [c1] at h;simp at h);(rw [lR (by omega)] at h;cases h)))⟩) (fun _ _ _ _=>trivial) rfl (.cons (.rt rfl) ?_ (.cons (.rt rfl) ?_ (.cons (.rt rfl) ?_ .nil)))
  · exact aa.any
  · exact aa.any
  exact aa.refl _
 have hlt:k<l.length:=by (have:¬IQ.1=(l.length:Int):=fun h=>c1 (.inl h);omega)
 have hy:l[k]?=some (gI l k):=tg hlt
 have Y9:¬(gI l k).Code=5:=fun h=>c1 (.inr (by rw [hkk];exact h))
 rw [eH hy] at hk2
 have h11:=(On (by omega) hk2).resolve_right Y9
 refine dH ?_
 refine Cd (fun c2=> ?_) fun c2=> ?_
 ·
  refine dw ?_
  refine Post.aZ rfl rfl (4) (by exact ⟨fun h=>by simp at h,fun h=>by (rw [vU,hk2] at h;simp only [Option.some.injEq,List.cons.injEq] at h;have h9:=congrArg List.length h.2;rw [List.length_drop,zH] at h9;simp at h9;omega)⟩) (fun _ _ _ _=>trivial) rfl (.cons (.rt rfl) ?_ (.cons (.rt rfl) ?_ (.cons (.rt rfl) ?_ .nil)))
  · exact aa.any
  · exact aa.any
  exact aa.refl _
 refine dw ?_
 refine Post.aZ rfl rfl (0) (by exact ⟨fun _=>by (rw [vU,hk2,h11,lR (by omega)]),fun _=>rfl⟩) (fun _ _ _ _=>trivial) rfl (.cons (.rt rfl) ?_ (.cons (.rt rfl) ?_ (.cons (.rt rfl) ?_ .nil)))
 · exact aa.any
 · exact aa.any
 exact aa.refl _
theorem eP (aq:n<18446744073709551616):cH Tryz.prog 112 [ag .u64 ((n:Int))] [] (γ:=List UInt8) (fun z=>z.length=eK n) (fun _=>[]) (fun z=>ah 1 aj z):=by
 refine In 20 Tryz.func112 fun _ _ _=> ?_
 have Jq:=cZ aq
 refine cJ ?_
 refine .dQ 1 aj ?_
 refine Z2 ?_
 refine .aY (σ:=SB×List UInt8×Nat) (fun z=>[av z.1 1 aj z.2.1]) (fun z=>[(3,af (br z.1 z.2.1.length)),(0,ag .u64 (z.2.2:Int))]) (fun z=>z.2.1.length+eK z.2.2=eK n∧z.2.2≤n) (fun z=>z.2.2) (none,[],n) ⟨by simp,Nat.le_refl _⟩ rfl ?_ ?_
 · exact (.get rfl (aa.of_eq rfl) (.get rfl (aa.refl _) (.refl _ _)))
 rintro ⟨g1,ys,j⟩ ⟨hl,hk⟩
 simp only at hl hk ⊢
 refine Z7 ?_
 refine Cd (fun c0=> ?_) fun c0=> ?_
 ·
  refine Z7 ?_
  refine .p (yU (b:=128) (by decide) (.t rfl) (.c _)) rfl ?_
  refine .p ((eC FU.out FU.out (.t rfl)).le (aa.int (show _=((j%128:Nat):Int) by rw [mW];omega))) rfl ?_
  refine .p ((eX (.t rfl) (.c _) de).le (aa.trans (aa.int (show _=((j%128+128:Nat):Int) by omega)) (mX (by omega)))) rfl ?_
  refine .p (cB aj [(UInt8.ofNat (j%128+128))]) rfl ?_
  refine .n (aH (i:=0) FU.out FU.out FC.out rfl FZ.out rfl FY.out (.t rfl) (.t rfl) rfl (by simp only [List.length_cons,List.length_nil];omega) (by simp only [List.length_cons,List.length_nil];omega)) rfl fun o8 _=> ?_
  refine Z5 ?_
  refine .p (yW (b:=128) (by omega) (.t rfl) (.c _)) rfl ?_
  refine Z3 ?_
  refine .round (o8,ys++[(UInt8.ofNat (j%128+128))],j/128) ⟨by (show (ys++[_]).length+eK (j/128)=_;rw [List.length_append];simp only [List.length_cons,List.length_nil];have:=vL (n:=j) (by omega);omega),by show j/128≤n;omega⟩ (by show j/128<j;omega) rfl ?_
  exact (.get rfl (aa.refl _) (.get rfl (aa.refl _) ((.keep 15 rfl rfl))))
 refine Z9 ?_
 refine .p ((eC FU.out FU.out (.t rfl)).le (aa.trans (aa.int (show _=((j:Nat):Int) by rw [mW];omega)) (mX (by omega)))) rfl ?_
 refine .p (cB aj [UInt8.ofNat j]) rfl ?_
 refine .n (gL.fu (G:=fun g=>g) (oP:=fun _=>_) (xs:=fun _=>_) (aH (i:=0) FU.out FU.out FC.out rfl FZ.out rfl FY.out (.t rfl) (.t rfl) rfl (by simp only [List.length_cons,List.length_nil];omega) (by simp only [List.length_cons,List.length_nil];omega))) rfl fun _ _=> ?_
 refine Z4 ?_
 refine Post.aN rfl (ys++[UInt8.ofNat j]) (by exact (by (show (ys++[_]).length=_;rw [List.length_append];simp only [List.length_cons,List.length_nil];have:=s6 (n:=j) (by omega);omega))) (fun _ _ _ h=>h) (.rt rfl) ?_
 exact aa.refl _
theorem Gr (aq:n<18446744073709551616):cH Tryz.prog 112 [ag .u64 ((n:Int))] [] (γ:=SB×List UInt8) (fun z=>z.2.length=eK n) (fun z=>[av z.1 1 aj z.2]) (fun z=>af (br z.1 z.2.length)):=by
 refine In 20 Tryz.func112 fun _ _ _=> ?_
 have Jq:=cZ aq
 refine cJ ?_
 refine .dQ 1 aj ?_
 refine Z2 ?_
 refine .aY (σ:=SB×List UInt8×Nat) (fun z=>[av z.1 1 aj z.2.1]) (fun z=>[(3,af (br z.1 z.2.1.length)),(0,ag .u64 (z.2.2:Int))]) (fun z=>z.2.1.length+eK z.2.2=eK n∧z.2.2≤n) (fun z=>z.2.2) (none,[],n) ⟨by simp,Nat.le_refl _⟩ rfl ?_ ?_
 · exact (.get rfl (aa.of_eq rfl) (.get rfl (aa.refl _) (.refl _ _)))
 rintro ⟨g1,ys,j⟩ ⟨hl,hk⟩
 simp only at hl hk ⊢
 refine Z7 ?_
 refine Cd (fun c0=> ?_) fun c0=> ?_
 ·
  refine Z7 ?_
  refine .p (yU (b:=128) (by decide) (.t rfl) (.c _)) rfl ?_
  refine .p ((eC FU.out FU.out (.t rfl)).le (aa.int (show _=((j%128:Nat):Int) by rw [mW];omega))) rfl ?_
  refine .p ((eX (.t rfl) (.c _) de).le (aa.trans (aa.int (show _=((j%128+128:Nat):Int) by omega)) (mX (by omega)))) rfl ?_
  refine .p (cB aj [(UInt8.ofNat (j%128+128))]) rfl ?_
  refine .n (aH (i:=0) FU.out FU.out FC.out rfl FZ.out rfl FY.out (.t rfl) (.t rfl) rfl (by simp only [List.length_cons,List.length_nil];omega) (by simp only [List.length_cons,List.length_nil];omega)) rfl fun o8 _=> ?_
  refine Z5 ?_
  refine .p (yW (b:=128) (by omega) (.t rfl) (.c _)) rfl ?_
  refine Z3 ?_
  refine .round (o8,ys++[(UInt8.ofNat (j%128+128))],j/128) ⟨by (show (ys++[_]).length+eK (j/128)=_;rw [List.length_append];simp only [List.length_cons,List.length_nil];have:=vL (n:=j) (by omega);omega),by show j/128≤n;omega⟩ (by show j/128<j;omega) rfl ?_
  exact (.get rfl (aa.refl _) (.get rfl (aa.refl _) ((.keep 15 rfl rfl))))
 refine Z9 ?_
 refine .p ((eC FU.out FU.out (.t rfl)).le (aa.trans (aa.int (show _=((j:Nat):Int) by rw [mW];omega)) (mX (by omega)))) rfl ?_
 refine .p (cB aj [UInt8.ofNat j]) rfl ?_
 refine .n (aH (i:=0) FU.out FU.out FC.out rfl FZ.out rfl FY.out (.t rfl) (.t rfl) rfl (by simp only [List.length_cons,List.length_nil];omega) (by simp only [List.length_cons,List.length_nil];omega)) rfl fun zm _=> ?_
 refine Z4 ?_
 refine Post.aN rfl ((zm,ys++[UInt8.ofNat j])) (by exact (by (show (ys++[_]).length=_;rw [List.length_append];simp only [List.length_cons,List.length_nil];have:=s6 (n:=j) (by omega);omega))) (fun _ _ _ h=>h) (.rt rfl) ?_
 exact aa.refl _
theorem Gs {n:Int} (aq: -9223372036854775808≤n) (aT:n≤9223372036854775807):cH Tryz.prog 134 [ag .i64 (n)] [] (γ:=List UInt8) (fun z=>z.length=jJ n) (fun _=>[]) (fun z=>ah 1 aj z):=by
 refine In 50 Tryz.func134 fun _ _ _=> ?_
 have Jq:=vM aq (by omega:n<9223372036854775808)
 refine cJ ?_
 refine .dQ 1 aj ?_
 refine Z7 ?_
 refine .aY (σ:=SB×List UInt8×Nat×Int) (fun z=>[av z.1 1 aj z.2.1]) (fun z=>[(0,ag .i64 z.2.2.2),(3,af (br z.1 z.2.1.length)),(4,ag .i64 (z.2.2.1:Int))]) (fun z=>z.2.1.length=z.2.2.1∧z.2.2.1+jJ z.2.2.2=jJ n∧ -9223372036854775808≤z.2.2.2∧z.2.2.2≤9223372036854775807) (fun z=>10-z.2.2.1) (none,[],0,n) ⟨rfl,by simp,aq,aT⟩ rfl ?_ ?_
 · exact (.get rfl (aa.refl _) (.get rfl (aa.of_eq rfl) (.get rfl (aa.refl _) (.refl _ _))))
 rintro ⟨g1,ys,j,v⟩ ⟨hl,hk,XB,hv2⟩
 simp only at hl hk XB hv2 ⊢
 have hpos:=C0 v
 refine Z7 ?_
 refine Cd (fun c0=> ?_) fun c0=> ?_
 ·
  refine Z7 ?_
  refine .p (P8 (.t rfl) (.c _) (by decide)) rfl ?_
  refine Z3 ?_
  refine .cut (σ:=Unit) (fun _=>[av g1 1 aj ys]) (fun _=>[(5,ag .i64 (v%128))]) (fun _=>True) ?_ ?_
  ·
   refine Z6 ?_
   refine Cd (fun c1=> ?_) fun c1=> ?_
   ·
    refine Z2 ?_
    refine .p (eX (.t rfl) (.c _) (bN (by rw [vV];split<;>omega) (by rw [vV];split<;>omega))) rfl ?_
    refine Z2 ?_
    refine .meet () trivial rfl (.get rfl (aa.int (by have h9:=vV v;split at h9<;>omega)) (.keep 5 rfl rfl))
   refine Z1 ?_
   refine .meet () trivial rfl (.get rfl (aa.int (by have h9:=vV v;split at h9<;>omega)) (.keep 2 rfl rfl))
  intro _ _
  refine Z4 ?_
  refine .p (Kh (.t rfl) (.t rfl)) rfl ?_
  refine .p (P7 (.t rfl) (.c _) (by decide)) rfl ?_
  refine Z3 ?_
  refine .cut (σ:=Unit) (fun _=>[av g1 1 aj ys]) (fun _=>[(6,ag .i64 (v/128))]) (fun _=>True) ?_ ?_
  ·
   refine Z6 ?_
   refine Cd (fun c2=> ?_) fun c2=> ?_
   ·
    refine Z3 ?_
    refine .meet () trivial rfl (.get rfl (aa.int (by omega)) (.keep 3 rfl rfl))
   refine Z1 ?_
   refine .meet () trivial rfl (.get rfl (aa.int (Ot (by omega) hv2)) (.keep 2 rfl rfl))
  intro _ _
  refine Eh ?_
  refine Cd (fun c3=> ?_) fun c3=> ?_
  ·
   refine Z4 ?_
   refine .p ((eC FU.out FU.out (.t rfl)).le (aa.trans (aa.int (show _=(((v%128).toNat:Nat):Int) by rw [mW];omega)) (mX (by omega)))) rfl ?_
   refine .p (cB aj [UInt8.ofNat (v%128).toNat]) rfl ?_
   refine .n (gL.fu (G:=fun g=>g) (oP:=fun _=>_) (xs:=fun _=>_) (aH (i:=0) FU.out FU.out FC.out rfl FZ.out rfl FY.out (.t rfl) (.t rfl) rfl (by simp only [List.length_cons,List.length_nil];omega) (by simp only [List.length_cons,List.length_nil];omega))) rfl fun _ _=> ?_
   refine cJ ?_
   refine Post.aN rfl (ys++[UInt8.ofNat (v%128).toNat]) (by exact (by (show (ys++[_]).length=_;rw [List.length_append];simp only [List.length_cons,List.length_nil];have:=Jz c3;omega))) (fun _ _ _ h=>h) (.rt rfl) ?_
   exact aa.refl _
  refine Z6 ?_
  refine .p ((eC FU.out FU.out (.t rfl)).le (aa.int (show _=v%128 by rw [mW];omega))) rfl ?_
  refine .p ((eX (.t rfl) (.c _) de).le (aa.trans (aa.int (show _=(((v%128+128).toNat:Nat):Int) by omega)) (mX (by omega)))) rfl ?_
  refine .p (cB aj [(UInt8.ofNat ((v%128+128).toNat))]) rfl ?_
  refine .n (aH (i:=0) FU.out FU.out FC.out rfl FZ.out rfl FY.out (.t rfl) (.t rfl) rfl (by simp only [List.length_cons,List.length_nil];omega) (by simp only [List.length_cons,List.length_nil];omega)) rfl fun Tt _=> ?_
  refine iw ?_
  refine .round (Tt,ys++[(UInt8.ofNat ((v%128+128).toNat))],j+1,v/128) ⟨by (show (ys++[_]).length=j+1;rw [List.length_append];simp only [List.length_cons,List.length_nil];omega),by (show j+1+jJ (v/128)=_;have:=Ou c3;omega),by show _≤v/128;omega,by show v/128≤_;omega⟩ (by show 10-(j+1)<10-j;omega) rfl ?_
  exact (.get rfl (aa.refl _) (.get rfl (aa.refl _) (.get rfl (aa.int (by show (_:Int)=((j+1:Nat):Int);omega)) ((.keep 41 rfl rfl)))))
 exfalso
 omega
theorem DK {x:au} (aq:xH x):cQ Tryz.prog 110 [aE (aG x)] (ak (gy x)):=by
 refine In 125 Tryz.func110 fun _ _ _=> ?_
 have hxA:=aq.A0
 have hxB:=aq.B0
 have hxL:=aq.Ln
 refine dw ?_
 refine .p (cA (h:=Gk)) rfl ?_
 refine .p (DY (.t rfl) (.s [] rfl rfl)) rfl ?_
 refine Z2 ?_
 refine Cd (fun c0=> ?_) fun c0=> ?_
 ·
  refine Z7 ?_
  refine bJ ?_
  exact aa.prop ⟨fun h=>h.elim,fun h=>absurd c0 h.1⟩
 refine Z6 ?_
 refine .p (cA (h:=iu)) rfl ?_
 refine Z34 ?_
 refine Cd (fun c1=> ?_) fun c1=> ?_
 ·
  refine Z7 ?_
  refine bJ ?_
  exact aa.prop ⟨fun h=>h.elim,fun h=>by (have h9:=h.2.1;unfold rV at h9;omega)⟩
 refine Z33 ?_
 refine Cd (fun c2=> ?_) fun c2=> ?_
 ·
  refine Z7 ?_
  refine bJ ?_
  exact aa.prop ⟨fun h=>h.elim,fun h=>by (have h9:=h.2.2.1;omega)⟩
 refine Z40 ?_
 refine Z1 ?_
 refine Cd (fun c3=> ?_) fun c3=> ?_
 ·
  refine Z7 ?_
  refine bJ ?_
  exact aa.prop ⟨fun h=>h.elim,fun h=>by (have h9:=h.2.2.2.1;omega)⟩
 refine Z9 ?_
 refine .aY (σ:=Nat) (fun _=>[]) (fun j=>[(4,ag .i64 (j:Int))]) (fun j=>j≤x.L.length∧∀n∈x.L.take j,rV n) (fun j=>x.L.length-j) 0 ⟨Nat.zero_le _,by simp⟩ rfl ?_ ?_
 · exact (.get rfl (aa.refl _) (.refl _ _))
 rintro j ⟨hj,hall⟩
 refine cJ ?_
 refine Cd (fun c4=> ?_) fun c4=> ?_
 ·
  obtain ⟨y,hy⟩:=ai (xs:=x.L) (k:=j) (by omega)
  refine Z9 ?_
  refine .p (cI j (h:=hy)) rfl ?_
  refine Z4 ?_
  refine Cd (fun c5=> ?_) fun c5=> ?_
  ·
   refine dw ?_
   refine bJ ?_
   exact aa.prop ⟨fun h=>h.elim,fun h=>by (have h9:=h.2.2.2.2.1 y (List.mem_of_getElem? hy);unfold rV at h9;omega)⟩
  refine Z8 ?_
  refine .round (j+1) ⟨by omega,fun n hn=>by (rw [←bt hy] at hn;rcases List.mem_append.1 hn with hn|hn;exact hall n hn;(simp only [List.mem_singleton] at hn;subst hn;unfold rV;omega))⟩ (by omega) rfl ?_
  exact (.get rfl (aa.int (by omega)) ((.keep 15 rfl rfl)))
 have rm:∀n∈x.L,rV n:=fun n hn=>hall n (by rw [List.take_of_length_le (by omega)];exact hn)
 refine RE ?_
 refine bJ ?_
 exact aa.prop (by unfold gy;simp only [←List.length_eq_zero_iff];exact ⟨fun h=>⟨c0,by unfold rV;omega,by omega,by omega,rm,by omega⟩,fun h=>by have h9:=h.2.2.2.2.2;omega⟩)
end Go.Proofs.YtpfobikpggmleaaGreatDoor
end
