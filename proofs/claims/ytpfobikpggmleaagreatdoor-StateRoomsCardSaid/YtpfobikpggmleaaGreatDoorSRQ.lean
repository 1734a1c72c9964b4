/-
  What the statement's proof leans on, several texts in one (packed by a program).
-/
import Derived.Test.YtpfobikpggmleaaGreatDoorSRP
set_option linter.all false
set_option maxRecDepth 1000000
set_option maxHeartbeats 4000000
section
namespace Go.Proofs.YtpfobikpggmleaaGreatDoor
open Go.Hl Go.RowKit
theorem TB {f:FuncId} {v:Value}:aa (Cb f [af v]) (af (.func (.func f) #[] #[v])):=fun S w u ⟨lb,hv,h1,h2⟩=>by
 match lb,h1,h2 with
 |[x],_,h2=>
  have:=h2 0 _ x rfl rfl
  simp only [af] at this
  subst this;exact hv
def PB (m:aU) (f:cK) (x:au) (fs:List dV) (b:dV) (g:Option Pw×Int):Prop:=match g.1 with|some z=>g.2=0∧Hi m f x fs b z|none=>g.2≠0∧ij m f x fs b=none
abbrev Ma (cb:Nat) (m:aU) (f:cK) (g:Option Pw×Int):List HP:=match g.1 with|some z=>WV cb m f z|none=>[]
variable {x:au}
theorem FW {cb bb bc:Nat} {m:aU} {f:cK} {gs:SB} {fs:List dV} {b:dV} (aq:(cN fs++b.st.1).length≤60000) (aT:xG m f) (dh:lA x) (fX:fs.length≤50000) (ox:AH (fs++[b])) (yp:hJ x.Code≠[]):
    cH Tryz.prog 211 [aJ cb 0,aE (aG x)] (LO cb m f gs (some (bb,bc)) (cN fs++b.st.1) (iQ fs++[kN (cN fs).length b b.st])) (γ:=Option Pw×Int) (PB m f x fs b) (Ma cb m f) (fun g=>ag .i64 g.2):=by
  refine cH.Nc 9 Tryz.func211 rfl rfl rfl fun w0 S0 M=> ?_
  refine aM.seq ?_
  refine aM.region (.p (Km (.t rfl)) rfl<| .n (az FZ.out) rfl<|fun b4 _=> .nil ?_)
  refine bR.Bu ?_
  refine aM.seq ?_
  refine aM.region (.p (wW (.cons (.t rfl) .nil)) rfl<| .Nd rfl (.le (.t rfl) TB)<| .nil ?_)
  refine bR.Bu ?_
  refine aM.seq ?_
  refine aM.region (.p (DX (.t rfl)) rfl<| .p (vw FA.out FC.out rfl (.t rfl) rfl) rfl<|
    .xd (qx (rest:=[aF b4 [af (.int .i64 0)]]) (FO aq aT dh fX ox yp) FB.out (.cons (.t rfl) (.cons (.t rfl) .nil)) (Perm.idx [1,2,3,0] rfl rfl)) rfl (fun ch hD hc=> ?_) (fun z hz=> .nil ?_))
  · refine fun a w hst=>bR.Sy (c:=⟨w0,S0,M,9,none,[]⟩) (φ:=PB m f x fs b) (hs':=Ma cb m f) (q:=fun g=>ag .i64 g.2) (FV hc) rfl rfl FB.out (fun e he=> ?_) a w hst
    refine Post.aN rfl (none,e) ⟨he,hD⟩ (fun _ _ _ _=>trivial) (.rc (i:=0) FA.out rfl rfl rfl) ?_
    exact aa.refl _
  refine bR.Bu ?_
  refine aM.seq ?_
  refine aM.region (.s (gQ (i:=3) FC.out (.t rfl) (.c _) rfl rfl)<| .nil ?_)
  refine bR.Bu ?_
  refine aM.ret ?_
  refine bR.Sx (c:=⟨w0,S0,M,9,none,[]⟩) (fun w=>FT _ w) rfl rfl FB.out ?_
  refine Post.aN rfl (some z,0) ⟨rfl,hz⟩ (aB.dc [0,1,2] [3] rfl rfl) (.rc (i:=3) FA.out rfl rfl rfl) ?_
  exact aa.refl _
theorem x4:cQ Tryz.prog 247 [aE (aG x)] (ag .i64 (q9 x)):=by
 refine In 15 Tryz.func247 fun _ _ _=> ?_
 refine cJ ?_
 refine .p (cA (h:=find_spec)) rfl ?_
 refine Z3 ?_
 refine .n (az FZ.out) rfl fun b3 _=> ?_
 refine Z4 ?_
 refine .share (t:=3) (i:=0) rfl rfl ?_
 refine Z7 ?_
 refine Cd (fun c0=> ?_) fun c0=> ?_
 ·
  have hf:ec x.Code=none:=by simpa using c0
  refine Z7 ?_
  refine bJ ?_
  exact aa.int (by unfold q9;rw [hf];rfl)
 obtain ⟨i,hf⟩:=Option.isSome_iff_exists.1 (Classical.not_not.1 c0)
 refine cJ ?_
 refine bJ ?_
 exact aa.int (by unfold q9;rw [hf];rfl)
theorem j7 {b al l:Int}:cQ Tryz.prog 260 [aE (aG x),ag .u64 (b),ag .i64 (al),ag .i64 (l)] (ak (x.B=b∧x.cR=al∧(x.L.length:Int)=l)):=by
 refine In 26 Tryz.func260 fun _ _ _=> ?_
 refine XI ?_
 refine bJ ?_
 exact aa.prop and_assoc
variable {n:Int}
theorem yD:cQ Tryz.prog 261 [ag .u64 (n)] (ak (n=64∨n=127∨n=126)):=by
 refine In 13 Tryz.func261 fun _ _ _=> ?_
 refine RD ?_
 refine bJ ?_
 exact aa.prop or_assoc
theorem ir:cQ Tryz.prog 262 [ag .u64 (n)] (ak (rV n)):=by
 refine In 5 Tryz.func262 fun _ _ _=> ?_
 refine jN ?_
 refine bJ ?_
 exact aa.refl _
theorem AU:cQ Tryz.prog 264 [ag .u64 (n)] (ak (¬rV n)):=by
 refine In 6 Tryz.func264 fun _ _ _=> ?_
 refine Z8 ?_
 refine .p (cA (h:=ir)) rfl ?_
 refine Z5 ?_
 refine bJ ?_
 exact aa.refl _
theorem Dl {l:List Int} {p:Int→Prop}:cQ Tryz.prog 284 [ah 1 jg l,nt Tryz.prog (fun _:Int=>True) (fun x=>[ag .u64 x]) (fun x=>ak (p x))] (ag .i64 (l6 p l)):=by
 refine In 19 Tryz.func284 fun _ _ _=> ?_
 refine .fact (t:=0) rfl (fun S w v h=>bH h) fun hlen=> ?_
 refine iw ?_
 refine .aY (σ:=Nat) (fun _=>[]) (fun k=>[(8,ag .i64 (k:Int))]) (fun k=>k≤l.length∧cD p l k) (fun k=>l.length-k) 0 ⟨by omega,cD.zero p l⟩ rfl ?_ ?_
 · exact (.get rfl (aa.refl _) (.refl _ _))
 rintro k ⟨hk,hnot⟩
 refine Z6 ?_
 refine Cd (fun c0=> ?_) fun c0=> ?_
 ·
  obtain ⟨x,hx⟩:=ai (xs:=l) (k:=k) (by omega)
  refine mM ?_
  refine .p (cI _) rfl ?_
  refine Z1 ?_
  refine .p (cV x) rfl ?_
  refine Z2 ?_
  refine Cd (fun c1=> ?_) fun c1=> ?_
  ·
   refine dH ?_
   refine bJ ?_
   exact aa.int (oa hx (by assumption) hnot).symm
  refine Z7 ?_
  refine .round (k+1) ⟨by omega,hnot.succ hx (by assumption)⟩ (by omega) rfl ?_
  exact (.get rfl (aa.int (by omega)) (.keep 12 rfl rfl))
 refine dw ?_
 refine bJ ?_
 exact aa.int (lM (hnot.all (by omega))).symm
theorem Dm {l:List Int} {p:Int→Prop}:cQ Tryz.prog 263 [ah 1 jg l,nt Tryz.prog (fun _:Int=>True) (fun x=>[ag .u64 x]) (fun x=>ak (p x))] (ak (∃x∈l,p x)):=by
 refine In 9 Tryz.func263 fun _ _ _=> ?_
 refine Z9 ?_
 refine .p (cA (h:=Dl)) rfl ?_
 refine Z5 ?_
 refine bJ ?_
 exact aa.prop gY
theorem ve (aq:0≤x.A) (aT:0≤x.B):cQ Tryz.prog 243 [aE (aG x)] (ak (gy x)):=by
 refine In 114 Tryz.func243 fun _ _ _=> ?_
 have hR:=LY aq aT
 generalize hF:q9 x=fi at hR
 refine cJ ?_
 refine .p ((cA (h:=x4)).le (aa.int hF)) rfl ?_
 refine Z9 ?_
 refine Cd (fun c0=> ?_) fun c0=> ?_
 ·
  refine Z7 ?_
  refine .g (cr.gT rfl rfl rfl rfl (fun hg=>bT (j7) FB.out (.cons (.when (.t rfl) hg) (.cons (.c _) (.cons (.c _) (.cons (.c _) .nil)))))) rfl rfl ?_
  refine Z7 ?_
  refine bJ ?_
  exact aa.prop (by rw [hR];unfold lq mV;simp [*,List.length_eq_zero_iff,Int.natCast_eq_zero,and_assoc,rV]<;>omega)
 refine Z6 ?_
 refine Cd (fun c1=> ?_) fun c1=> ?_
 ·
  refine Z4 ?_
  refine .p (cA (h:=yD)) rfl ?_
  refine Z2 ?_
  refine .g (cr.gT rfl rfl rfl rfl (fun hg=>bT (j7) FB.out (.cons (.when (.t rfl) hg) (.cons (.c _) (.cons (.c _) (.cons (.c _) .nil)))))) rfl rfl ?_
  refine Z7 ?_
  refine bJ ?_
  exact aa.prop (by rw [hR];unfold lq mV;simp [*,List.length_eq_zero_iff,Int.natCast_eq_zero,and_assoc,rV]<;>omega)
 refine .cut (σ:=Unit) (fun _=>[]) (fun _=>[(24,ak (fi=2∨fi=4∨fi=6∨fi=7∨fi=9))]) (fun _=>True) ?_ ?_
 ·
  refine Z6 ?_
  refine Cd (fun c2=> ?_) fun c2=> ?_
  ·
   refine Z1 ?_
   refine .meet () trivial rfl (.get rfl (aa.prop (by omega)) (.keep 2 rfl rfl))
  refine Z6 ?_
  refine Cd (fun c3=> ?_) fun c3=> ?_
  ·
   refine Z1 ?_
   refine .meet () trivial rfl (.get rfl (aa.prop (by omega)) (.keep 4 rfl rfl))
  refine Z6 ?_
  refine Cd (fun c4=> ?_) fun c4=> ?_
  ·
   refine Z1 ?_
   refine .meet () trivial rfl (.get rfl (aa.prop (by omega)) (.keep 6 rfl rfl))
  refine Z6 ?_
  refine Cd (fun c5=> ?_) fun c5=> ?_
  ·
   refine Z1 ?_
   refine .meet () trivial rfl (.get rfl (aa.prop (by omega)) (.keep 8 rfl rfl))
  refine Z4 ?_
  refine .meet () trivial rfl (.get rfl (aa.prop (by omega)) (.keep 10 rfl rfl))
 intro _ _
 refine Cd (fun c6=> ?_) fun c6=> ?_
 ·
  refine Z4 ?_
  refine .p (cA (h:=ir)) rfl ?_
  refine Z2 ?_
  refine .g (cr.gT rfl rfl rfl rfl (fun hg=>bT (j7) FB.out (.cons (.when (.t rfl) hg) (.cons (.c _) (.cons (.c _) (.cons (.c _) .nil)))))) rfl rfl ?_
  refine Z7 ?_
  refine bJ ?_
  exact aa.prop (by rw [hR];unfold lq mV;simp [*,List.length_eq_zero_iff,Int.natCast_eq_zero,and_assoc,rV]<;>omega)
 refine Z6 ?_
 refine Cd (fun c7=> ?_) fun c7=> ?_
 ·
  refine Z4 ?_
  refine .p (bT (Dm (l:=x.L) (p:=fun n=>¬rV n)) FB.out (.cons (.t rfl) (.cons (.le (.f _) (sB FB.out (fun (n:Int) (_:True)=>AU (n:=n)))) .nil))) rfl ?_
  refine Z7 ?_
  refine .p (cA (h:=ir)) rfl ?_
  refine mM ?_
  refine .g (cr.gT rfl rfl rfl rfl (fun hg=>bT (j7) FB.out (.cons (.when (.t rfl) hg) (.cons (.c _) (.cons (.c _) (.cons (.when (.t rfl) hg) .nil)))))) rfl rfl ?_
  refine Z7 ?_
  refine bJ ?_
  exact aa.prop (by rw [hR];unfold lq mV;simp [*,List.length_eq_zero_iff,Int.natCast_eq_zero,and_assoc,rV]<;>omega)
 refine .cut (σ:=Unit) (fun _=>[]) (fun _=>[(62,ak (fi=5∨fi=10))]) (fun _=>True) ?_ ?_
 ·
  refine Z6 ?_
  refine Cd (fun c8=> ?_) fun c8=> ?_
  ·
   refine Z1 ?_
   refine .meet () trivial rfl (.get rfl (aa.prop (by omega)) (.keep 2 rfl rfl))
  refine Z4 ?_
  refine .meet () trivial rfl (.get rfl (aa.prop (by omega)) (.keep 4 rfl rfl))
 intro _ _
 refine Cd (fun c9=> ?_) fun c9=> ?_
 ·
  refine Z4 ?_
  refine .p (cA (h:=ir)) rfl ?_
  refine Z3 ?_
  refine .g (cr.gT rfl rfl rfl rfl (fun hg=>bT (ir) FB.out (.cons (.when (.t rfl) hg) .nil))) rfl rfl ?_
  refine Z5 ?_
  refine .g (cr.gT rfl rfl rfl rfl (fun hg=>bT (j7) FB.out (.cons (.when (.t rfl) hg) (.cons (.when (.t rfl) hg) (.cons (.c _) (.cons (.c _) .nil)))))) rfl rfl ?_
  refine Z7 ?_
  refine bJ ?_
  exact aa.prop (by rw [hR];unfold lq mV;simp [*,List.length_eq_zero_iff,Int.natCast_eq_zero,and_assoc,rV]<;>omega)
 refine Z6 ?_
 refine Cd (fun jH=> ?_) fun jH=> ?_
 ·
  refine Z4 ?_
  refine .p (cA (h:=ir)) rfl ?_
  refine XF ?_
  refine bJ ?_
  exact aa.prop (by rw [hR];unfold lq mV;simp [*,List.length_eq_zero_iff,Int.natCast_eq_zero,and_assoc,rV]<;>omega)
 refine Z6 ?_
 refine Cd (fun lH=> ?_) fun lH=> ?_
 ·
  refine Z8 ?_
  refine .g (cr.gF rfl rfl rfl rfl (fun hg=>bT (ir) FB.out (.cons (.when (.t rfl) hg) .nil))) rfl rfl ?_
  refine Z3 ?_
  refine .g (cr.gT rfl rfl rfl rfl (fun hg=>bT (j7) FB.out (.cons (.when (.t rfl) hg) (.cons (.c _) (.cons (.c _) (.cons (.c _) .nil)))))) rfl rfl ?_
  refine Z7 ?_
  refine bJ ?_
  exact aa.prop (by rw [hR];unfold lq mV;simp [*,List.length_eq_zero_iff,Int.natCast_eq_zero,and_assoc,rV]<;>omega)
 refine Z9 ?_
 refine bJ ?_
 exact aa.prop (by rw [hR];unfold lq mV;simp [*,List.length_eq_zero_iff,Int.natCast_eq_zero,and_assoc,rV]<;>omega)
variable {g:SB} {xs:List UInt8}
theorem qL {n:Nat} (aq:n<18446744073709551616) (aT:xs.length≤100000):cH Tryz.prog 230 [af (br g xs.length),ag .u64 ((n:Int))] [av g 1 aj xs] (γ:=SB×List UInt8) (fun z=>z.2.length=xs.length+eK n) (fun z=>[av z.1 1 aj z.2]) (fun z=>af (br z.1 z.2.length)):=by
 refine In 21 Tryz.func230 fun _ _ _=> ?_
 have Jq:=cZ aq
 refine Z7 ?_
 refine .aY (σ:=SB×List UInt8×Nat) (fun z=>[av z.1 1 aj z.2.1]) (fun z=>[(0,af (br z.1 z.2.1.length)),(1,ag .u64 (z.2.2:Int))]) (fun z=>z.2.1.length+eK z.2.2=xs.length+eK n∧z.2.2≤n) (fun z=>z.2.2) (g,xs,n) ⟨rfl,Nat.le_refl _⟩ rfl ?_ ?_
 · exact (.get rfl (aa.refl _) (.get rfl (aa.refl _) (.refl _ _)))
 rintro ⟨g1,ys,j⟩ ⟨hl,hk⟩
 simp only at hl hk ⊢
 refine Z7 ?_
 refine Cd (fun c0=> ?_) fun c0=> ?_
 ·
  refine Z7 ?_
  refine .p ((eC FU.out FU.out (.t rfl)).le (aa.int (show _=((j%256:Nat):Int) by rw [mW];omega))) rfl ?_
  refine .p (xP (b:=127) (by omega) (by decide) (.t rfl) (.c _)) rfl ?_
  refine .p ((Hj (b:=128) (C9 _) (by decide) (.t rfl) (.c _)).le (mX (LX (C9 _)))) rfl ?_
  refine .p (cB aj [(UInt8.ofNat ((j%256 &&& 127)|||128))]) rfl ?_
  refine .n (aH (i:=0) FU.out FU.out FC.out rfl FZ.out rfl FY.out (.t rfl) (.t rfl) rfl (by simp only [List.length_cons,List.length_nil];omega) (by simp only [List.length_cons,List.length_nil];omega)) rfl fun TC _=> ?_
  refine Z5 ?_
  refine .p ((wB (s:=7) (.t rfl) (.c _) (by decide)).le (aa.int (show ((j/2^7:Nat):Int)=((j/128:Nat):Int) from rfl))) rfl ?_
  refine Z3 ?_
  refine .round (TC,ys++[(UInt8.ofNat ((j%256 &&& 127)|||128))],j/128) ⟨by (show (ys++[_]).length+eK (j/128)=_;rw [List.length_append];simp only [List.length_cons,List.length_nil];have:=vL (n:=j) (by omega);omega),by show j/128≤n;omega⟩ (by show j/128<j;omega) rfl ?_
  exact (.get rfl (aa.refl _) (.get rfl (aa.refl _) ((.keep 15 rfl rfl))))
 refine Z9 ?_
 refine .p ((eC FU.out FU.out (.t rfl)).le (aa.trans (aa.int (show _=((j:Nat):Int) by rw [mW];omega)) (mX (by omega)))) rfl ?_
 refine .p (cB aj [UInt8.ofNat j]) rfl ?_
 refine .n (aH (i:=0) FU.out FU.out FC.out rfl FZ.out rfl FY.out (.t rfl) (.t rfl) rfl (by simp only [List.length_cons,List.length_nil];omega) (by simp only [List.length_cons,List.length_nil];omega)) rfl fun YT _=> ?_
 refine Z4 ?_
 refine Post.aN rfl ((YT,ys++[UInt8.ofNat j])) (by exact (by (show (ys++[_]).length=_;rw [List.length_append];simp only [List.length_cons,List.length_nil];have:=s6 (n:=j) (by omega);omega))) (fun _ _ _ h=>h) (.rt rfl) ?_
 exact aa.refl _
theorem Dn {a:Nat} (aq:a≤1000):cQ Tryz.prog 301 [ag .i64 ((a:Int))] (ag .i64 ((((a+6)/7:Nat):Int))):=by
 refine In 7 Tryz.func301 fun _ _ _=> ?_
 refine cJ ?_
 refine .p (KF (.t rfl) (.c _) (by omega) (by omega) de) rfl ?_
 refine Z4 ?_
 refine bJ ?_
 exact aa.int (by omega)
theorem Dp (aq: -9223372036854775808≤n) (aT:n≤9223372036854775807):cQ Tryz.prog 289 [ag .i64 (n)] (ag .i64 ((jJ n:Int))):=by
 refine In 12 Tryz.func289 fun _ _ _=> ?_
 refine Z5 ?_
 refine .cut (σ:=Unit) (fun _=>[]) (fun _=>[(0,ag .i64 (if n<0 then-n-1 else n))]) (fun _=>True) ?_ ?_
 ·
  refine Z6 ?_
  refine Cd (fun c0=> ?_) fun c0=> ?_
  ·
   refine Z2 ?_
   refine .p (Je aq aT (.t rfl)) rfl ?_
   refine Z2 ?_
   refine .meet () trivial rfl (.get rfl (aa.int (by rw [if_pos c0])) (.keep 5 rfl rfl))
  refine Z1 ?_
  refine .meet () trivial rfl (.get rfl (aa.int (by rw [if_neg c0])) (.keep 2 rfl rfl))
 intro _ _
 have ht:0≤(if n<0 then-n-1 else n)∧(if n<0 then-n-1 else n)≤9223372036854775807:=by split<;>omega
 generalize htn:(if n<0 then-n-1 else n)=t at ht
 have aY5:=Th (a:=t.toNat) (by omega)
 have hls:jJ n=(vn t.toNat+7)/7:=by rw [N4,←htn];split<;>rfl
 refine Z4 ?_
 refine .p (bT (EV (a:=t.toNat) (by omega)) FB.out (.cons (.le (.t rfl) (aa.int (show t=((t.toNat:Nat):Int) by omega))) .nil)) rfl ?_
 refine .p ((eX (.t rfl) (.c _) de).le (aa.int (show _=((vn t.toNat+1:Nat):Int) by omega))) rfl ?_
 refine .p (cA (h:=Dn (a:=vn t.toNat+1) (by omega))) rfl ?_
 refine Z4 ?_
 refine bJ ?_
 exact aa.int (by rw [hls])
theorem FX (aq: -9223372036854775808≤n) (aT:n≤9223372036854775807) (dh:xs.length≤100000):cH Tryz.prog 266 [af (br g xs.length),ag .i64 (n)] [av g 1 aj xs] (γ:=SB×List UInt8) (fun z=>z.2.length=xs.length+jJ n) (fun z=>[av z.1 1 aj z.2]) (fun z=>af (br z.1 z.2.length)):=by
 refine In 27 Tryz.func266 fun _ _ _=> ?_
 have Jq:=vM aq (by omega:n<9223372036854775808)
 have J0:=C0 n
 refine Z9 ?_
 refine .p (cA (h:=Dp aq aT)) rfl ?_
 refine Z4 ?_
 refine .aY (σ:=SB×List UInt8×Nat×Int) (fun z=>[av z.1 1 aj z.2.1]) (fun z=>[(0,af (br z.1 z.2.1.length)),(1,ag .i64 z.2.2.2),(5,ag .i64 (z.2.2.1:Int))]) (fun z=>z.2.1.length+z.2.2.1=xs.length+jJ n∧1≤z.2.2.1) (fun z=>z.2.2.1) (g,xs,jJ n,n) ⟨rfl,J0⟩ rfl ?_ ?_
 · exact (.get rfl (aa.refl _) (.get rfl (aa.refl _) (.get rfl (aa.refl _) (.refl _ _))))
 rintro ⟨g1,ys,j,v⟩ ⟨hl,hk⟩
 simp only at hl hk ⊢
 refine Z7 ?_
 refine Cd (fun c0=> ?_) fun c0=> ?_
 ·
  refine Z8 ?_
  refine .p ((eC FU.out FU.out (.t rfl)).le (aa.int (show _=(((v%256).toNat%256:Nat):Int) by rw [mW];omega))) rfl ?_
  refine .p (xP (b:=127) (by omega) (by decide) (.t rfl) (.c _)) rfl ?_
  refine .p ((Hj (b:=128) (C9 _) (by decide) (.t rfl) (.c _)).le (mX (LX (C9 _)))) rfl ?_
  refine .p (cB aj [(UInt8.ofNat (((v%256).toNat%256 &&& 127)|||128))]) rfl ?_
  refine .n (aH (i:=0) FU.out FU.out FC.out rfl FZ.out rfl FY.out (.t rfl) (.t rfl) rfl (by simp only [List.length_cons,List.length_nil];omega) (by simp only [List.length_cons,List.length_nil];omega)) rfl fun xo _=> ?_
  refine Z5 ?_
  refine .p (OX (s:=7) (.t rfl) (.c _) (by decide)) rfl ?_
  refine Z9 ?_
  refine .round (xo,ys++[(UInt8.ofNat (((v%256).toNat%256 &&& 127)|||128))],j-1,v/2^7) ⟨by (show (ys++[_]).length+(j-1)=_;rw [List.length_append];simp only [List.length_cons,List.length_nil];omega),by show 1≤j-1;omega⟩ (by show j-1<j;omega) rfl ?_
  exact (.get rfl (aa.refl _) (.get rfl (aa.refl _) (.get rfl (aa.int (by show (_:Int)=((j-1:Nat):Int);omega)) ((.keep 19 rfl rfl)))))
 refine Z9 ?_
 refine .p ((eC FU.out FU.out (.t rfl)).le (aa.int (show _=(((v%256).toNat%256:Nat):Int) by rw [mW];omega))) rfl ?_
 refine .p ((xP (b:=127) (by omega) (by decide) (.t rfl) (.c _)).le (mX (C9 _))) rfl ?_
 refine .p (cB aj [UInt8.ofNat ((v%256).toNat%256 &&& 127)]) rfl ?_
 refine .n (aH (i:=0) FU.out FU.out FC.out rfl FZ.out rfl FY.out (.t rfl) (.t rfl) rfl (by simp only [List.length_cons,List.length_nil];omega) (by simp only [List.length_cons,List.length_nil];omega)) rfl fun Q0 _=> ?_
 refine Z4 ?_
 refine Post.aN rfl ((Q0,ys++[UInt8.ofNat ((v%256).toNat%256 &&& 127)])) (by exact (by (show (ys++[_]).length=_;rw [List.length_append];simp only [List.length_cons,List.length_nil];omega))) (fun _ _ _ h=>h) (.rt rfl) ?_
 exact aa.refl _
theorem jh {l:List Int} (aq:∀n∈l,0≤n∧n<18446744073709551616) (aT:xs.length≤50000) (dh:l.length≤200):cH Tryz.prog 248 [af (br g xs.length),ah 1 jg l] [av g 1 aj xs] (γ:=SB×List UInt8) (fun z=>z.2.length=xs.length+qk l) (fun z=>[av z.1 1 aj z.2]) (fun z=>af (br z.1 z.2.length)):=by
 refine In 18 Tryz.func248 fun _ _ _=> ?_
 refine iw ?_
 refine .aY (σ:=SB×List UInt8×Nat) (fun z=>[av z.1 1 aj z.2.1]) (fun z=>[(0,af (br z.1 z.2.1.length)),(9,ag .i64 (z.2.2:Int))]) (fun z=>z.2.1.length=xs.length+qk (l.take z.2.2)∧z.2.2≤l.length) (fun z=>l.length-z.2.2) (g,xs,0) ⟨by simp [qk],Nat.zero_le _⟩ rfl ?_ ?_
 · exact (.get rfl (aa.refl _) (.get rfl (aa.refl _) (.refl _ _)))
 rintro ⟨g1,ys,j⟩ ⟨hl,hk⟩
 simp only at hl hk ⊢
 have Y3:=oE (l.take j) (fun n hn=>aq n (List.mem_of_mem_take hn))
 have htl:(l.take j).length≤l.length:=by simp;omega
 refine Z6 ?_
 refine Cd (fun c0=> ?_) fun c0=> ?_
 ·
  obtain ⟨x,hx⟩:=ai (xs:=l) (k:=j) (by omega)
  obtain ⟨hx0,aY6⟩:=aq x (List.mem_of_getElem? hx)
  refine Z6 ?_
  refine .p (cI j (h:=hx)) rfl ?_
  refine Z7 ?_
  refine .n (cC (rest:=[]) (qL (n:=x.toNat) (by omega) (by omega)) FB.out (.cons (.t rfl) (.cons (.le (.t rfl) (aa.int (show x=((x.toNat:Nat):Int) by omega))) .nil)) (Perm.idx [0] rfl rfl)) rfl fun vc Bq=> ?_
  refine Z8 ?_
  refine .round (vc.1,vc.2,j+1) ⟨by (show vc.2.length=_;rw [Bq,hl,←bt hx,zC];unfold bw;omega),by show j+1≤_;omega⟩ (by show l.length-(j+1)<l.length-j;omega) rfl ?_
  exact (.get rfl (aa.refl _) (.get rfl (aa.int (by show (_:Int)=((j+1:Nat):Int);omega)) ((.keep 12 rfl rfl))))
 have hjl:l.take j=l:=List.take_of_length_le (by omega)
 refine dH ?_
 refine Post.aN rfl ((g1,ys)) (by exact (by (show ys.length=_;rw [hl,hjl]))) (fun _ _ _ h=>h) (.rt rfl) ?_
 exact aa.refl _
theorem F3 (aq:hJ x.Code≠[]):cH Tryz.prog 246 [aE (aG x)] [] (γ:=SB×List UInt8) (fun z=>z.2.length=mY x) (fun z=>[av z.1 1 aj z.2]) (fun z=>af (br z.1 z.2.length)):=by
 refine In 16 Tryz.func246 fun _ _ _=> ?_
 have hci:=vQ aq
 refine iw ?_
 refine Cd (fun c0=> ?_) fun c0=> ?_
 ·
  refine Z4 ?_
  refine .p ((eC FU.out FU.out (.t rfl)).le (aa.trans (aa.int (show _=((x.Code.toNat:Nat):Int) by rw [mW];omega)) (mX (by omega)))) rfl ?_
  refine .n (cO aj [UInt8.ofNat x.Code.toNat] FU.out FC.out rfl FZ.out rfl (.cons (.t rfl) .nil) rfl rfl rfl rfl rfl) rfl fun g9 _=> ?_
  refine Z5 ?_
  refine Post.aN rfl ((g9,[UInt8.ofNat x.Code.toNat])) (by exact (by unfold mY;rw [if_neg (by omega)];rfl)) (fun _ _ _ h=>h) (.rt rfl) ?_
  exact aa.refl _
 refine Z4 ?_
 refine .n (cO aj [252] FU.out FC.out rfl FZ.out rfl (.cons (.c _) .nil) rfl rfl rfl rfl rfl) rfl fun IQ _=> ?_
 refine Z4 ?_
 refine .n (cC (rest:=[]) (qL (xs:=[252]) (n:=(x.Code-64512).toNat) (by omega) (by simp)) FB.out (.cons (.t rfl) (.cons (.le (.t rfl) (aa.int (show x.Code-64512=(((x.Code-64512).toNat:Nat):Int) by omega))) .nil)) (Perm.idx [0] rfl rfl)) rfl fun vc Bq=> ?_
 refine Z4 ?_
 refine Post.aN rfl (vc) (by exact (by rw [Bq];unfold mY;rw [if_pos (by omega)];rfl)) (fun _ _ _ h=>h) (.rt rfl) ?_
 exact aa.refl _
theorem Jr (aq:0≤x.A) (aT:x.A<18446744073709551616) (dh:0≤x.B) (fX:x.B<18446744073709551616) (ox:0≤x.cR) (yp:x.cR≤31) (NM:xs.length≤50000):cH Tryz.prog 249 [aE (aG x),af (br g xs.length)] [av g 1 aj xs] (γ:=SB×List UInt8) (fun z=>z.2.length=xs.length+Fs x) (fun z=>[av z.1 1 aj z.2]) (fun z=>af (br z.1 z.2.length)):=by
 refine In 27 Tryz.func249 fun _ _ _=> ?_
 refine iw ?_
 refine Cd (fun c0=> ?_) fun c0=> ?_
 ·
  refine Z8 ?_
  refine .p (cB jg [x.cR,x.B]) rfl ?_
  refine .n (cE (h:=jh (l:=[x.cR,x.B]) (by simp;omega) NM (by simp))) rfl fun vc Bq=> ?_
  refine Z5 ?_
  refine Post.aN rfl (vc) (by exact (by rw [Bq];unfold Fs;rw [if_pos c0];simp [qk])) (fun _ _ _ h=>h) (.rt rfl) ?_
  exact aa.refl _
 refine jN ?_
 refine .p (cB jg [x.cR+64,x.A,x.B]) rfl ?_
 refine .n (cE (h:=jh (l:=[x.cR+64,x.A,x.B]) (by simp;omega) NM (by simp))) rfl fun Q0 Tx=> ?_
 refine Z4 ?_
 refine Post.aN rfl (Q0) (by exact (by rw [Tx];unfold Fs;rw [if_neg c0];simp [qk];omega)) (fun _ _ _ h=>h) (.rt rfl) ?_
 exact aa.refl _
theorem F4 (aq:0≤x.A) (aT:x.A<18446744073709551616) (dh:x.Code=65∨x.Code=66) (fX:x.Code=65→x.A≤4294967295) (ox:xs.length≤50000):cH Tryz.prog 250 [aE (aG x),af (br g xs.length)] [av g 1 aj xs] (γ:=SB×List UInt8) (fun z=>z.2.length=xs.length+jJ (jo x)) (fun z=>[av z.1 1 aj z.2]) (fun z=>af (br z.1 z.2.length)):=by
 refine In 19 Tryz.func250 fun _ _ _=> ?_
 refine cJ ?_
 refine .p ((eC FU.out FU.out (.t rfl)).le (aa.int (Hp aq aT))) rfl ?_
 refine Z3 ?_
 refine .cut (σ:=Unit) (fun _=>[av g 1 aj xs]) (fun _=>[(5,ag .i64 (jo x))]) (fun _=>True) ?_ ?_
 ·
  refine Z7 ?_
  refine Cd (fun c0=> ?_) fun c0=> ?_
  ·
   refine Z3 ?_
   refine .p ((eC FU.out FU.out (.t rfl)).le (aa.int (N5 aq (fX (by omega))))) rfl ?_
   refine .p (mJ FU.out FU.out (.t rfl) (bN (by split<;>omega) (by split<;>omega))) rfl ?_
   refine Z2 ?_
   refine .meet () trivial rfl (.get rfl (aa.int (by rw [show jo x=(if x.A<2147483648 then x.A else x.A-4294967296) from if_pos (by omega)])) (.keep 8 rfl rfl))
  refine Z1 ?_
  refine .meet () trivial rfl (.get rfl (aa.int (by rw [show jo x=(if x.A<9223372036854775808 then x.A else x.A-18446744073709551616) from if_neg (by omega)])) (.keep 3 rfl rfl))
 intro _ _
 have R0: -9223372036854775808≤jo x∧jo x≤9223372036854775807:=by unfold jo;(repeat split)<;>omega
 refine Z4 ?_
 refine .n (cE (h:=FX (n:=jo x) R0.1 R0.2 (by omega))) rfl fun xo Pp=> ?_
 refine Z4 ?_
 refine Post.aN rfl (xo) (by exact Pp) (fun _ _ _ h=>h) (.rt rfl) ?_
 exact aa.refl _
theorem AV (aq:lA x) (aT:gy x):cH Tryz.prog 231 [aE (aG x)] [] (γ:=List UInt8) (fun l=>l.length=mz x) (fun _=>[]) (fun l=>bz [ah 1 aj l,ag .i64 0]):=by
 refine In 68 Tryz.func231 fun _ _ _=> ?_
 obtain ⟨hf,hne⟩:=Fq aq.A0 aq.B0 aT
 obtain ⟨r1,r2,r3,r4,r5,r6⟩:=id aT
 have hL100:x.L.length≤100:=r6.elim (fun h=>by rw [h];simp) (fun h=>h.2)
 have m4:=aq.A0
 have Oh:=aq.vo
 have W2:=aq.B0
 have TD:=aq.WU
 have Y4:=r7 x.Code
 have Oi:mY x≤20:=by unfold mY bw;split<;>(try have:=cZ (n:=(x.Code-64512).toNat) (by have:=vQ hne;omega))<;>omega
 refine dw ?_
 refine .p (cA (h:=ve aq.A0 aq.B0)) rfl ?_
 refine Z3 ?_
 refine Cd (fun c0=> ?_) fun c0=> ?_
 · exact absurd aT c0
 refine Z5 ?_
 refine .n (cE (h:=F3 hne)) rfl fun g9 h9=> ?_
 refine Z3 ?_
 refine .cut (σ:=SB×List UInt8) (fun z=>[av z.1 1 aj z.2]) (fun z=>[(4,af (br z.1 z.2.length))]) (fun z=>z.2.length=mz x) ?_ ?_
 ·
  refine Z3 ?_
  refine .p ((cA (h:=x4)).le (aa.int hf)) rfl ?_
  refine Z9 ?_
  refine Cd (fun c1=> ?_) fun c1=> ?_
  ·
   refine Z4 ?_
   refine .p ((eC FU.out FU.out (.t rfl)).le (aa.trans (aa.int (show _=((x.A.toNat%256:Nat):Int) by rw [mW];omega)) (mX (by omega)))) rfl ?_
   refine .p (cB aj [UInt8.ofNat (x.A.toNat%256)]) rfl ?_
   refine .n (aH (i:=0) FU.out FU.out FC.out rfl FZ.out rfl FY.out (.t rfl) (.t rfl) rfl (by simp only [List.length_cons,List.length_nil];omega) (by simp only [List.length_cons,List.length_nil];omega)) rfl fun zm _=> ?_
   refine Z3 ?_
   refine .meet (zm,g9.2++[UInt8.ofNat (x.A.toNat%256)]) (by (show ((zm,g9.2++[UInt8.ofNat (x.A.toNat%256)])).2.length=mz x;rw [fM];rw [if_pos c1];simp [h9])) rfl (.get rfl (aa.refl _) (.keep 11 rfl rfl))
  refine .cut (σ:=Unit) (fun _=>[av g9.1 1 aj g9.2]) (fun _=>[(20,ak (aQ x.Code=2∨aQ x.Code=4∨aQ x.Code=6∨aQ x.Code=7∨aQ x.Code=9))]) (fun _=>True) ?_ ?_
  ·
   refine Z6 ?_
   refine Cd (fun c2=> ?_) fun c2=> ?_
   ·
    refine Z1 ?_
    refine .meet () trivial rfl (.get rfl (aa.prop (by omega)) (.keep 2 rfl rfl))
   refine Z6 ?_
   refine Cd (fun c3=> ?_) fun c3=> ?_
   ·
    refine Z1 ?_
    refine .meet () trivial rfl (.get rfl (aa.prop (by omega)) (.keep 4 rfl rfl))
   refine Z6 ?_
   refine Cd (fun c4=> ?_) fun c4=> ?_
   ·
    refine Z1 ?_
    refine .meet () trivial rfl (.get rfl (aa.prop (by omega)) (.keep 6 rfl rfl))
   refine Z6 ?_
   refine Cd (fun c5=> ?_) fun c5=> ?_
   ·
    refine Z1 ?_
    refine .meet () trivial rfl (.get rfl (aa.prop (by omega)) (.keep 8 rfl rfl))
   refine Z4 ?_
   refine .meet () trivial rfl (.get rfl (aa.prop (by omega)) (.keep 10 rfl rfl))
  intro _ _
  refine Cd (fun c6=> ?_) fun c6=> ?_
  ·
   refine Z4 ?_
   refine .p (cB jg [x.A]) rfl ?_
   refine .n (cE (h:=jh (l:=[x.A]) (by simp;omega) (by omega) (by simp))) rfl fun RM WL=> ?_
   refine Z3 ?_
   refine .meet RM (by (show (RM).2.length=mz x;rw [WL,h9,fM];rw [if_neg c1,if_pos c6];simp [qk])) rfl (.get rfl (aa.refl _) (.keep 11 rfl rfl))
  refine Z6 ?_
  refine Cd (fun c7=> ?_) fun c7=> ?_
  ·
   refine .bG [(0,0),(1,0),(2,0),(3,0),(4,0),(5,0),(7,0),(8,0),(10,0),(11,0),(12,0),(6,2),(9,2)] 13 2 FM.out (by kernel_rfl) (k:= ?_)
   refine Z5 ?_
   refine .p rfl (fun _=>bu (enc:=jg) [(x.L.length:Int)] FU.out FC.out rfl FZ.out rfl (.cons (.t rfl) .nil) rfl rfl rfl rfl rfl) ?_
   refine Z4 ?_
   refine .p rfl (fun _=>bu (enc:=jg) [x.A] FU.out FC.out rfl FZ.out rfl (.cons (.t rfl) .nil) rfl rfl rfl rfl rfl) ?_
   refine .e rfl (cE (h:=jh (l:=[(x.L.length:Int)]) (by simp;omega) (by omega) (by simp))) fun WY Of=> ?_
   refine .e rfl (cE (h:=jh (l:=x.L) (fun n hn=>⟨aq.L0 n hn,by have h9:n≤4294967295:=r5 n hn;omega⟩) (by rw [Of,h9];have:=oE [(x.L.length:Int)] (by simp;omega);simp only [List.length_cons,List.length_nil] at this;omega) (by omega))) fun QK LG=> ?_
   refine .fin ?_
   refine .n (cE (h:=jh (l:=[x.A]) (by simp;omega) (by rw [LG,Of,h9];have:=oE [(x.L.length:Int)] (by simp;omega);have h8:=oE x.L (fun n hn=>⟨aq.L0 n hn,by have h9:n≤4294967295:=r5 n hn;omega⟩);simp only [List.length_cons,List.length_nil] at this;omega) (by simp))) rfl fun W3 h46=> ?_
   refine Z3 ?_
   refine .meet W3 (by (show (W3).2.length=mz x;rw [h46,LG,Of,h9,fM];rw [if_neg c1,if_neg c6,if_pos c7];simp [qk,bw];omega)) rfl (.get rfl (aa.refl _) (.keep 22 rfl rfl))
  refine .cut (σ:=Unit) (fun _=>[av g9.1 1 aj g9.2]) (fun _=>[(47,ak (aQ x.Code=5∨aQ x.Code=10))]) (fun _=>True) ?_ ?_
  ·
   refine Z6 ?_
   refine Cd (fun c8=> ?_) fun c8=> ?_
   ·
    refine Z1 ?_
    refine .meet () trivial rfl (.get rfl (aa.prop (by omega)) (.keep 2 rfl rfl))
   refine Z4 ?_
   refine .meet () trivial rfl (.get rfl (aa.prop (by omega)) (.keep 4 rfl rfl))
  intro _ _
  refine Cd (fun c9=> ?_) fun c9=> ?_
  ·
   refine Z6 ?_
   refine .p (cB jg [x.A,x.B]) rfl ?_
   refine .n (cE (h:=jh (l:=[x.A,x.B]) (by simp;omega) (by omega) (by simp))) rfl fun RZ Tw=> ?_
   refine Z3 ?_
   refine .meet RZ (by (show (RZ).2.length=mz x;rw [Tw,h9,fM];rw [if_neg c1,if_neg c6,if_neg c7,if_pos c9];simp [qk])) rfl (.get rfl (aa.refl _) (.keep 16 rfl rfl))
  refine Z6 ?_
  refine Cd (fun jH=> ?_) fun jH=> ?_
  ·
   refine Z3 ?_
   refine .n (cE (h:=Jr m4 Oh W2 TD aq.a0 aq.QS (by omega))) rfl fun CH NI=> ?_
   refine Z3 ?_
   refine .meet CH (by (show (CH).2.length=mz x;rw [NI,h9,fM];rw [if_neg c1,if_neg c6,if_neg c7,if_neg c9,if_pos jH])) rfl (.get rfl (aa.refl _) (.keep 14 rfl rfl))
  refine Z6 ?_
  refine Cd (fun lH=> ?_) fun lH=> ?_
  ·
   refine Z3 ?_
   refine .n (cE (h:=F4 m4 Oh (Ho lH) (fun Jb=>Classical.byContradiction fun h9=>r2 (.inr (.inl ⟨Jb,h9⟩))) (by omega))) rfl fun g66 YP=> ?_
   refine Z3 ?_
   refine .meet g66 (by (show (g66).2.length=mz x;rw [YP,h9,fM];rw [if_neg c1,if_neg c6,if_neg c7,if_neg c9,if_neg jH,if_pos lH])) rfl (.get rfl (aa.refl _) (.keep 16 rfl rfl))
  refine Z2 ?_
  refine .meet g9 (by (show (g9).2.length=mz x;rw [h9,fM];rw [if_neg c1,if_neg c6,if_neg c7,if_neg c9,if_neg jH,if_neg lH];rfl)) rfl (.get rfl (aa.refl _) (.keep 12 rfl rfl))
 intro z hz
 refine Z1 ?_
 refine .fu (t:=4) (i:=0) (g:=z.1) (xs:=z.2) rfl rfl ?_
 refine Z7 ?_
 refine Post.aZ rfl rfl (z.2) (by exact hz) (fun _ _ _ h=>h) rfl (.cons (.rt rfl) ?_ (.cons (.rt rfl) ?_ .nil))
 · exact aa.refl _
 exact aa.refl _
theorem Dq:cQ Tryz.prog 285 [aE (aG x)] (ak (aO x.Code)):=by
 refine In 16 Tryz.func285 fun _ _ _=> ?_
 refine RE ?_
 refine bJ ?_
 exact aa.prop or_assoc
variable {l:List au} {nb:Nat}
theorem zG {pb pc p:Nat} {go:SB} {sp:List yz} {o:List Nat} {cl:Prop} {dp:Int} {s:yz} (aq:sp[p]?=some s):cH Tryz.prog 300 [aJ nb 0] (Bp nb l ⟨some (pb,pc),go,sp,o++[p],cl,dp⟩) (γ:=Unit) (fun _=>True) (fun _=>Bp nb l ⟨some (pb,pc),go,sp,o++[p],cl,dp⟩) (fun _=>bz [aJ pb (p*3),ak True]):=by
 refine In 27 Tryz.func300 fun _ _ _=> ?_
 refine .jj 2 rfl (by simp) fun qb qc hq=> ?_
 simp only at hq
 subst hq
 refine .vF 2 rfl fun vA=> ?_
 simp only [List.length_append,List.length_cons,List.length_nil] at vA
 have hps:=(List.getElem?_eq_some_iff.1 aq).1
 refine J3 ?_
 refine Cd (fun c0=> ?_) fun c0=> ?_
 · exfalso;simp at c0;omega
 refine Z3 ?_
 refine .bA 16 3 FM.out (by kernel_rfl) (k:= ?_)
 refine jN ?_
 refine .p (ja (.t rfl) (.c _) (bN (by simp<;>omega) (by simp<;>omega))) ?_
 refine .p (bl o.length FU.out FC.out rfl (.t rfl) (.t rfl) (by simp) (by simp)) ?_
 refine .p (eW (i:=2) (r:=0) FA.out (.t rfl) rfl (AI (o:=o) (p:=p)) rfl) ?_
 refine Z1 ?_
 refine .p (bl p FU.out FC.out rfl (.t rfl) (.t rfl) rfl hps) rfl ?_
 refine Z5 ?_
 refine jr ?_ ?_
 · exact aa.refl _
 exact aa.refl _
theorem x5 {gp go:SB} {sp:List yz} {cl:Prop} {dp:Int}:cH Tryz.prog 300 [aJ nb 0] (Bp nb l ⟨gp,go,sp,[],cl,dp⟩) (γ:=Unit) (fun _=>True) (fun _=>Bp nb l ⟨gp,go,sp,[],cl,dp⟩) (fun _=>bz [af (.pointer none),ak False]):=by
 refine In 27 Tryz.func300 fun _ _ _=> ?_
 refine J3 ?_
 refine Cd (fun c0=> ?_) fun c0=> ?_
 ·
  refine Z8 ?_
  refine jr ?_ ?_
  · exact aa.refl _
  exact aa.refl _
 exact absurd rfl c0
variable {z:N6}
theorem Dr {i:Nat} (aq:z.op.length≤64) (aT:z.sp.length≤50000):cH Tryz.prog 286 [aJ nb 0,ag .i64 ((i:Int))] (Bp nb l z) (γ:=Int×N6) (fun g=>(z.op.length=64∧g.1≠0)∨(z.op.length≠64∧g.1=0∧g.2.sp=z.sp++[((i:Int),-1,-1)]∧g.2.op=z.op++[z.sp.length]∧g.2.cl=z.cl)) (fun g=>Bp nb l g.2) (fun g=>ag .i64 g.1):=by
 refine In 49 Tryz.func286 fun _ _ _=> ?_
 refine BY ?_
 refine Cd (fun c0=> ?_) fun c0=> ?_
 ·
  refine Z7 ?_
  refine Post.aN rfl ((15,z)) (by exact .inl ⟨by omega,by show (15:Int)≠0;decide⟩) (fun _ _ _ h=>h) (.rt rfl) ?_
  exact aa.refl _
 refine Z3 ?_
 refine .bG [(0,0),(1,0),(2,0),(3,0),(4,1),(5,0),(6,0),(7,0),(8,1),(9,1),(10,0),(11,2)] 12 3 FM.out (by kernel_rfl) (k:= ?_)
 refine cJ ?_
 refine .p rfl (fun _=>bu (enc:=gJ) [z.sp.length] FU.out FC.out rfl FZ.out rfl (.cons (.t rfl) .nil) rfl rfl rfl rfl rfl) ?_
 refine .e rfl (aH (i:=2) FU.out FU.out FC.out rfl FZ.out rfl FY.out (.t rfl) (.t rfl) rfl (by simp only [List.length_cons,List.length_nil];omega) (by simp only [List.length_cons,List.length_nil];omega)) fun MI _=> ?_
 refine .fin ?_
 refine iw ?_
 refine .p (cB fG [((i:Int),-1,-1)]) rfl ?_
 refine .n (aH (i:=1) FU.out FU.out FC.out rfl FZ.out rfl FY.out (.t rfl) (.t rfl) rfl (by simp only [List.length_cons,List.length_nil];omega) (by simp only [List.length_cons,List.length_nil];omega)) rfl fun WW _=> ?_
 refine Z6 ?_
 refine .bA 11 3 FM.out (by kernel_rfl) (k:= ?_)
 refine Z23 ?_
 refine Post.aN rfl ((0,⟨WW,MI,z.sp++[((i:Int),-1,-1)],z.op++[z.sp.length],z.cl,max z.dp ((z.op++[z.sp.length]).length:Int)⟩)) (by exact .inr ⟨by omega,rfl,rfl,rfl,rfl⟩) (fun _ _ _ h=>h) (.rt rfl) ?_
 exact aa.refl _
variable {rs:List (Int×Bool)} {j:Nat}
theorem Ds (aq:fU l z.sp z.op rs) (aT:z.op.length≤64) (dh:z.sp.length≤50000) (fX:¬z.cl):cH Tryz.prog 287 [aJ nb 0,ag .i64 ((j:Int))] (Bp nb l z) (γ:=Int×N6) (fun g=>YR l False rs 5 (z.sp.length+1) g.1 g.2) (fun g=>Bp nb l g.2) (fun g=>ag .i64 g.1):=by
 refine In 39 Tryz.func287 fun _ _ _=> ?_
 refine Z6 ?_
 rcases List.eq_nil_or_concat z.op with hop|⟨o,p,hop⟩
 have MJ:rs=[]:=by have:=aq.len;rw [hop] at this;exact List.eq_nil_of_length_eq_zero this.symm
 obtain ⟨gp,go,sp,op,cl,dp⟩:=z
 simp only at hop aq aT dh fX
 subst hop
 subst MJ
 rotate_left
 obtain ⟨gp,go,sp,op,cl,dp⟩:=z
 simp only [List.concat_eq_append] at hop aq aT dh fX
 subst hop
 obtain ⟨Js,ce,MJ⟩:∃Js ce,rs=Js++[ce]:=s8 (fun e=>by have:=aq.len;rw [e] at this;simp at this)
 obtain ⟨cb,ce⟩:=ce
 subst MJ
 obtain ⟨bi,el,en,y,hs,hy,Bz,hce⟩:=aq.top
 simp only at Bz hce
 refine .jj 1 rfl (fun e=>by (have h9:=(List.getElem?_eq_some_iff.1 hs).1;simp only at e;rw [e] at h9;simp at h9)) fun pb pc TE=> ?_
 simp only at TE
 subst TE
 ·
  refine Z2 ?_
  refine .n ((cE (h:=zG hs)).same (fun _ _=>aB.refl _) (fun _ _=>aa.refl _)) rfl fun _ _=> ?_
  refine Z9 ?_
  refine .bA 11 12 FM.out (by kernel_rfl) (k:= ?_)
  refine cJ ?_
  refine .cons (cr.gF rfl rfl rfl rfl (fun hg=>eW (i:=1) (r:=0) FA.out (.when (.t rfl) hg) rfl hs rfl)) ?_
  refine Z1 ?_
  refine .g (cr.gF rfl rfl rfl rfl (fun hg=>aP (j:=bi) FU.out FC.out rfl (.when (.t rfl) hg) (.when (.t rfl) hg) rfl hy)) rfl rfl ?_
  refine Z8 ?_
  refine .g (cr.gF rfl rfl rfl rfl (fun hg=>eW (i:=1) (r:=1) FA.out (.when (.t rfl) hg) rfl hs rfl)) rfl rfl ?_
  refine Z4 ?_
  refine Cd (fun c0=> ?_) fun c0=> ?_
  ·
   refine Z7 ?_
   refine Post.aN rfl ((4,⟨some (pb,pc),go,sp,o++[p],cl,dp⟩)) (by exact .inr ⟨by show (4:Int)≠0;decide,fun r h=>by (have h9:=(xS.1 h).1;rcases c0 with (h8|h8)|h8;exact h8 trivial;exact h8 (Bz.trans h9.1);have h7:=hce.2 h8;rw [h9.2] at h7;cases h7)⟩) (fun _ _ _ h=>h) (.rt rfl) ?_
   exact aa.refl _
  refine Z8 ?_
  refine .s (fS (enc:=fG) (i:=1) (r:=1) ((bi:Int),(j:Int),en) rfl FC.out (.t rfl) (.t rfl) rfl hs rfl rfl) ?_
  refine Z2 ?_
  refine .own (hs':=Bp nb l ⟨some (pb,pc),go,sp.set p ((bi:Int),(j:Int),en),o++[p],cl,dp⟩) (aB.of_eq (by simp)) ?_
  refine Z6 ?_
  refine Post.aN rfl ((0,⟨some (pb,pc),go,sp.set p ((bi:Int),(j:Int),en),o++[p],cl,dp⟩)) (by exact .inl ⟨rfl,by (show (sp.set p _).length≤sp.length+1;rw [List.length_set];omega),aT,Js++[(cb,true)],aq.other hs hy Bz,fun r=>by (show ep False (Js++[(cb,ce)]) (5::r)↔ep cl (Js++[(cb,true)]) r;rw [xS];have h4:cb=4:=Bz.symm.trans (Classical.byContradiction fun h=>c0 (.inl (.inr h)));have hf:ce=false:=Bool.eq_false_iff.2 (fun h8=>c0 (.inr (hce.1 h8)));rw [show (cl=False) from eq_false fX];exact ⟨fun h=>h.2,fun h=>⟨⟨h4,hf⟩,h⟩⟩)⟩) (fun _ _ _ h=>h) (.rt rfl) ?_
  exact aa.refl _
 refine Z2 ?_
 refine .n ((cE (h:=x5)).same (fun _ _=>aB.refl _) (fun _ _=>aa.refl _)) rfl fun _ _=> ?_
 refine Z9 ?_
 refine .bA 11 12 FM.out (by kernel_rfl) (k:= ?_)
 refine Z3 ?_
 refine .cons (cr.gF rfl rfl rfl rfl (fun hg=>kZ (q:=iC) (hg (fun h=>h)))) ?_
 refine .cons (cr.gF rfl rfl rfl rfl (fun hg=>kZ (q:=iC) (hg (fun h=>h)))) ?_
 refine .cons (cr.gF rfl rfl rfl rfl (fun hg=>kZ (q:=iC) (hg (fun h=>h)))) ?_
 refine .cons (cr.gF rfl rfl rfl rfl (fun hg=>kZ (q:=iC) (hg (fun h=>h)))) ?_
 refine .cons (cr.gF rfl rfl rfl rfl (fun hg=>kZ (q:=iC) (hg (fun h=>h)))) ?_
 refine .cons (cr.gF rfl rfl rfl rfl (fun hg=>kZ (q:=iC) (hg (fun h=>h)))) ?_
 refine .cons (cr.gF rfl rfl rfl rfl (fun hg=>kZ (q:=iC) (hg (fun h=>h)))) ?_
 refine .cons (cr.gF rfl rfl rfl rfl (fun hg=>kZ (q:=iC) (hg (fun h=>h)))) ?_
 refine Z1 ?_
 refine .g (cr.gF rfl rfl rfl rfl (fun hg=>kZ (q:=iC) (hg (fun h=>h)))) rfl rfl ?_
 refine .g (cr.gF rfl rfl rfl rfl (fun hg=>kZ (q:=iC) (hg (fun h=>h)))) rfl rfl ?_
 refine .g (cr.gF rfl rfl rfl rfl (fun hg=>kZ (q:=iC) (hg (fun h=>h)))) rfl rfl ?_
 refine .g (cr.gF rfl rfl rfl rfl (fun hg=>kZ (q:=ak True) (hg (fun h=>h)))) rfl rfl ?_
 refine Z2 ?_
 refine .g (cr.gF rfl rfl rfl rfl (fun hg=>kZ (q:=iC) (hg (.inl (fun h=>h))))) rfl rfl ?_
 refine .g (cr.gF rfl rfl rfl rfl (fun hg=>kZ (q:=iC) (hg (.inl (fun h=>h))))) rfl rfl ?_
 refine .g (cr.gF rfl rfl rfl rfl (fun hg=>kZ (q:=iC) (hg (.inl (fun h=>h))))) rfl rfl ?_
 refine .g (cr.gF rfl rfl rfl rfl (fun hg=>kZ (q:=iC) (hg (.inl (fun h=>h))))) rfl rfl ?_
 refine .g (cr.gF rfl rfl rfl rfl (fun hg=>kZ (q:=ak True) (hg (.inl (fun h=>h))))) rfl rfl ?_
 refine Z3 ?_
 refine Cd (fun c0=> ?_) fun c0=> ?_
 ·
  refine Z7 ?_
  refine Post.aN rfl ((4,⟨gp,go,sp,[],cl,dp⟩)) (by exact .inr ⟨by show (4:Int)≠0;decide,fun r=>yA⟩) (fun _ _ _ h=>h) (.rt rfl) ?_
  exact aa.refl _
 exact absurd (.inl (.inl (fun h=>h))) c0
theorem Jt (aq:fU l z.sp z.op rs) (aT:z.op.length≤64) (dh:z.sp.length≤50000) (fX:¬z.cl):cH Tryz.prog 288 [aJ nb 0,ag .i64 ((j:Int))] (Bp nb l z) (γ:=N6) (fun g=>YR l False rs 11 (z.sp.length+1) 0 g) (fun g=>Bp nb l g) (fun g=>bz []):=by
 refine In 34 Tryz.func288 fun _ _ _=> ?_
 refine Z1 ?_
 rcases List.eq_nil_or_concat z.op with hop|⟨o,p,hop⟩
 have MJ:rs=[]:=by have:=aq.len;rw [hop] at this;exact List.eq_nil_of_length_eq_zero this.symm
 obtain ⟨gp,go,sp,op,cl,dp⟩:=z
 simp only at hop aq aT dh fX
 subst hop
 subst MJ
 rotate_left
 obtain ⟨gp,go,sp,op,cl,dp⟩:=z
 simp only [List.concat_eq_append] at hop aq aT dh fX
 subst hop
 obtain ⟨Js,ce,MJ⟩:∃Js ce,rs=Js++[ce]:=s8 (fun e=>by have:=aq.len;rw [e] at this;simp at this)
 obtain ⟨cb,ce⟩:=ce
 subst MJ
 obtain ⟨bi,el,en,y,hs,hy,Bz,hce⟩:=aq.top
 simp only at Bz hce
 refine .jj 1 rfl (fun e=>by (have h9:=(List.getElem?_eq_some_iff.1 hs).1;simp only at e;rw [e] at h9;simp at h9)) fun pb pc TE=> ?_
 simp only at TE
 subst TE
 ·
  refine Z2 ?_
  refine .n ((cE (h:=zG hs)).same (fun _ _=>aB.refl _) (fun _ _=>aa.refl _)) rfl fun _ _=> ?_
  refine iw ?_
  refine Cd (fun c0=> ?_) fun c0=> ?_
  · exact absurd trivial c0
  refine Z8 ?_
  refine .s (fS (enc:=fG) (i:=1) (r:=2) ((bi:Int),el,(j:Int)) rfl FC.out (.t rfl) (.t rfl) rfl hs rfl rfl) ?_
  refine Z2 ?_
  refine .own (hs':=Bp nb l ⟨some (pb,pc),go,sp.set p ((bi:Int),el,(j:Int)),o++[p],cl,dp⟩) (aB.of_eq (by simp)) ?_
  refine .bA 12 3 FM.out (by kernel_rfl) (k:= ?_)
  refine cJ ?_
  refine .p (ja (.t rfl) (.c _) (bN (by simp only [List.length_append,List.length_cons,List.length_nil] at*;omega) (by simp only [List.length_append,List.length_cons,List.length_nil] at*;omega))) ?_
  refine .p (n7 (i:=2) (h:=o.length) FU.out FC.out rfl (.t rfl) (.t rfl) (by simp) rfl rfl (by simp)) ?_
  refine Z5 ?_
  refine .own (aB.cons _ (aB.cons _ (aB.KP o (vN _ _)))) ?_
  refine Post.gV rfl (⟨some (pb,pc),go,sp.set p ((bi:Int),el,(j:Int)),o,cl,dp⟩) (by exact .inl ⟨rfl,by (show (sp.set p _).length≤sp.length+1;rw [List.length_set];omega),by (show o.length≤64;simp only [List.length_append,List.length_cons,List.length_nil] at aT;omega),Js,aq.pop _,fun r=>by (show ep False (Js++[(cb,ce)]) (11::r)↔ep cl Js r;rw [Jf,show (cl=False) from eq_false fX])⟩) (fun _ _ _ h=>h) rfl
 refine Z2 ?_
 refine .n ((cE (h:=x5)).same (fun _ _=>aB.refl _) (fun _ _=>aa.refl _)) rfl fun _ _=> ?_
 refine iw ?_
 refine Cd (fun c0=> ?_) fun c0=> ?_
 ·
  refine cJ ?_
  refine Post.Sz rfl (⟨gp,go,sp,[],True,dp⟩) (by exact .inl ⟨rfl,Nat.le_succ _,by simp,[],fU.nil _ _,fun r=>xT⟩) (fun _ _ _ h=>h) rfl
 exact absurd (fun h=>h) c0
theorem F5 (aq:fU l z.sp z.op rs) (aT:z.op.length≤64) (dh:z.sp.length≤50000) (fX:l[j]?=some x):cH Tryz.prog 265 [aJ nb 0,ag .i64 ((j:Int))] (Bp nb l z) (γ:=Int×N6) (fun g=>YR l z.cl rs x.Code (z.sp.length+1) g.1 g.2) (fun g=>Bp nb l g.2) (fun g=>ag .i64 g.1):=by
 refine In 48 Tryz.func265 fun _ _ _=> ?_
 refine BY ?_
 refine Cd (fun c0=> ?_) fun c0=> ?_
 ·
  refine Z8 ?_
  refine Post.aN rfl ((4,z)) (by exact .inr ⟨by show (4:Int)≠0;decide,fun r=>by rw [show z.cl=True from eq_true c0];exact AJ⟩) (fun _ _ _ h=>h) (.rt rfl) ?_
  exact aa.refl _
 have Ju:z.cl=False:=eq_false c0
 refine Z7 ?_
 refine .p (cI j (h:=fX)) rfl ?_
 refine Z1 ?_
 refine .p (cA (h:=Dq)) rfl ?_
 refine Z3 ?_
 refine Cd (fun c1=> ?_) fun c1=> ?_
 ·
  refine Z4 ?_
  refine .n (cE (h:=Dr aT dh)) rfl fun MH IP=> ?_
  refine Z6 ?_
  refine Post.aN rfl (MH) (by exact (by rw [Ju];rcases IP with ⟨h1,h2⟩|⟨h1,h2,h3,h4,h5⟩;exact .inr ⟨h2,fun r=>Fu c1 (aq.len▸h1)⟩;exact .inl ⟨h2,by (rw [h3];simp),by (rw [h4];simp;omega),rs++[(x.Code,false)],by (rw [h3,h4];exact aq.begin fX),fun r=>by (rw [h5,Ju];exact Ft c1 (aq.len▸h1) (aq.len▸aT))⟩)) (fun _ _ _ h=>h) (.rt rfl) ?_
  exact aa.refl _
 refine Z7 ?_
 refine .p (cI j (h:=fX)) rfl ?_
 refine Z6 ?_
 refine Cd (fun c2=> ?_) fun c2=> ?_
 ·
  refine Z4 ?_
  refine .n (cE (h:=Ds aq aT dh c0)) rfl fun L6 L7=> ?_
  refine Z6 ?_
  refine Post.aN rfl (L6) (by exact (by rw [Ju,c2];exact L7)) (fun _ _ _ h=>h) (.rt rfl) ?_
  exact aa.refl _
 refine Z7 ?_
 refine .p (cI j (h:=fX)) rfl ?_
 refine Z6 ?_
 refine Cd (fun c3=> ?_) fun c3=> ?_
 ·
  refine Z3 ?_
  refine .n (cE (h:=Jt aq aT dh c0)) rfl fun Tt h47=> ?_
  refine Z9 ?_
  refine Post.aN rfl ((0,Tt)) (by exact (by rw [Ju,c3];exact h47)) (fun _ _ _ h=>h) (.rt rfl) ?_
  exact aa.refl _
 refine Z9 ?_
 refine Post.aN rfl ((0,z)) (by exact (by rw [Ju];exact .inl ⟨rfl,Nat.le_succ _,aT,rs,aq,fun r=>by rw [Ju];exact Db c1 c2 c3⟩)) (fun _ _ _ h=>h) (.rt rfl) ?_
 exact aa.refl _
theorem F6 (aq:l.length≤50000) (aT:fU l z.sp z.op []) (dh:z.op=[]) (fX:z.sp=[]) (ox:¬z.cl):cH Tryz.prog 245 [aJ nb 0] (Bp nb l z) (γ:=Int×Int×N6) (fun g=>g.2.1=0↔ey (l.map (·.Code)) []) (fun g=>Bp nb l g.2.2) (fun g=>bz [ag .i64 g.1,ag .i64 g.2.1]):=by
 refine In 32 Tryz.func245 fun _ _ _=> ?_
 refine DP ?_
 refine .aY (σ:=Nat×N6) (fun g=>Bp nb l g.2) (fun g=>[(11,ag .i64 (g.1:Int))]) (fun g=>g.1≤l.length∧g.2.op.length≤64∧g.2.sp.length≤g.1∧∃rs,fU l g.2.sp g.2.op rs∧(ey (l.map (·.Code)) []↔ep g.2.cl rs ((l.drop g.1).map (·.Code)))) (fun g=>l.length-g.1) (0,z) ⟨Nat.zero_le _,by rw [dh];simp,by rw [fX];simp,[],aT,by rw [eq_false ox];simp [ep]⟩ rfl ?_ ?_
 · exact (.get rfl (aa.refl _) (.refl _ _))
 rintro ⟨i,y⟩ ⟨hi,ho,hsp,rs,hr,hn⟩
 simp only at hi ho hsp hr hn ⊢
 refine Z6 ?_
 refine Cd (fun c0=> ?_) fun c0=> ?_
 ·
  obtain ⟨x,hx⟩:=ai (xs:=l) (k:=i) (by omega)
  have hdr:(l.drop i).map (·.Code)=x.Code::(l.drop (i+1)).map (·.Code):=by rw [List.drop_eq_getElem_cons (by omega),List.map_cons];rw [show l[i]=x from by rw [List.getElem?_eq_getElem (by omega)] at hx;exact Option.some.inj hx]
  refine iw ?_
  refine .n (cE (h:=F5 hr ho (by omega) hx)) rfl fun WI QB=> ?_
  refine Z9 ?_
  refine Cd (fun c1=> ?_) fun c1=> ?_
  ·
   refine iw ?_
   refine Post.aZ rfl rfl ((i,WI)) (by exact (by rcases QB with ⟨h1,_⟩|⟨h1,h2⟩;exact absurd h1 c1;exact ⟨fun h=>absurd h h1,fun h=>absurd (hdr▸hn.1 h) (h2 _)⟩)) (fun _ _ _ h=>h) rfl (.cons (.rt rfl) ?_ (.cons (.rt rfl) ?_ .nil))
   · exact aa.refl _
   exact aa.refl _
  refine Z7 ?_
  refine .round (i+1,WI.2) (by rcases QB with ⟨h1,h5,h2,Js,h3,h4⟩|⟨h1,_⟩;exact ⟨by show i+1≤_;omega,h2,by show WI.2.sp.length≤i+1;omega,Js,h3,hn.trans (by rw [hdr];exact h4 _)⟩;exact absurd h1 (fun h=>c1 h)) (by show l.length-(i+1)<l.length-i;omega) rfl ?_
  exact (.get rfl (aa.int (by show (_:Int)=((i+1:Nat):Int);omega)) ((.keep 12 rfl rfl)))
 have tF:l.drop i=[]:=List.drop_eq_nil_of_le (by omega)
 rw [tF] at hn
 simp only [List.map_nil] at hn
 rw [Jg] at hn
 refine mM ?_
 refine Cd (fun c2=> ?_) fun c2=> ?_
 ·
  refine jN ?_
  refine Post.aZ rfl rfl (((l.length:Int),4,y)) (by exact ⟨fun h=>by simp at h,fun h=>absurd (hn.1 h) c2⟩) (fun _ _ _ h=>h) rfl (.cons (.rt rfl) ?_ (.cons (.rt rfl) ?_ .nil))
  · exact aa.refl _
  exact aa.refl _
 refine Z9 ?_
 refine Post.aZ rfl rfl ((0,0,y)) (by exact ⟨fun _=>hn.2 (Classical.not_not.1 c2),fun _=>rfl⟩) (fun _ _ _ h=>h) rfl (.cons (.rt rfl) ?_ (.cons (.rt rfl) ?_ .nil))
 · exact aa.refl _
 exact aa.refl _
theorem Dt (aq:l.length≤50000):cH Tryz.prog 228 [ah 5 aG l] [] (γ:=Int) (fun e=>e=0↔ey (l.map (·.Code)) []) (fun _=>[]) (fun e=>bz [iC,iC,ag .i64 e]):=by
 refine In 24 Tryz.func228 fun _ _ _=> ?_
 refine dw ?_
 refine .n (bV (.t rfl)) rfl fun b10 _=> ?_
 refine Z5 ?_
 refine .own (hs':=Bp b10 l ⟨none,none,[],[],False,0⟩) (aB.trans (aB.Ee (cs':=[ah 5 aG l,af (.slice none 0 0),af (.slice none 0 0),ak False,ag .i64 0]) (.cons (.refl _) (.cons (.refl _) (.cons (.refl _) (.cons uv (.cons (.refl _) .nil)))))) (aB.cons _ N7)) ?_
 refine Z2 ?_
 refine .n (cE (h:=F6 (z:=⟨none,none,[],[],False,0⟩) aq (fU.nil _ _) rfl rfl (fun h=>h))) rfl fun TC W4=> ?_
 refine jN ?_
 refine Cd (fun c0=> ?_) fun c0=> ?_
 ·
  refine dw ?_
  refine Post.aZ rfl rfl (TC.2.1) (by exact W4) (aB.dc [] [0,1,2] rfl rfl) rfl (.cons (.rt rfl) ?_ (.cons (.rt rfl) ?_ (.cons (.rt rfl) ?_ .nil)))
  · exact aa.any
  · exact aa.any
  exact aa.refl _
 refine iw ?_
 refine Post.aZ rfl rfl (TC.2.1) (by exact W4) (aB.dc [] [0,1,2] rfl rfl) rfl (.cons (.rt rfl) ?_ (.cons (.rt rfl) ?_ (.cons (.rt rfl) ?_ .nil)))
 · exact aa.any
 · exact aa.any
 exact aa.int (by omega)
theorem F7 {l:List UInt8} (aq:l.length≤60000):cQ Tryz.prog 229 [ah 1 aj l] (ah 2 oF (l.foldl bn [])):=by
 refine In 43 Tryz.func229 fun _ _ _=> ?_
 refine .dQ 2 oF ?_
 refine Eh ?_
 refine .aY (σ:=Nat×SB×List (Nat×UInt8)) (fun z=>[av z.2.1 2 oF z.2.2]) (fun z=>[(3,af (br z.2.1 z.2.2.length)),(9,ag .i64 (z.1:Int))]) (fun z=>z.1≤l.length∧z.2.2=(l.take z.1).foldl bn []) (fun z=>l.length-z.1) (0,none,[]) ⟨Nat.zero_le _,rfl⟩ rfl ?_ ?_
 · exact (.get rfl (aa.of_eq rfl) (.get rfl (aa.refl _) (.refl _ _)))
 rintro ⟨k,g1,o⟩ ⟨hk,ho⟩
 simp only at hk ho ⊢
 refine Z6 ?_
 refine Cd (fun c0=> ?_) fun c0=> ?_
 ·
  obtain ⟨t,hx⟩:=ai (xs:=l) (k:=k) (by omega)
  have vA:=(vR (l.take k) [] 0 (by simp)).2
  rw [←ho] at vA
  simp only [List.length_nil,List.length_take] at vA
  have hoc:=(vR (l.take k) [] 0 (by simp)).1
  rw [←ho] at hoc
  refine Z6 ?_
  refine .p (cI k (h:=hx)) rfl ?_
  refine Z5 ?_
  rcases List.eq_nil_or_concat o with W5|⟨m,q,W5⟩
  rotate_left
  obtain ⟨n,t2⟩:=q
  rw [List.concat_eq_append] at W5
  subst W5
  refine .jj 0 rfl (by simp) fun ob oc hg=> ?_
  subst hg
  have M6:=hoc (n,t2) (by simp)
  simp only [List.length_take] at M6
  simp only [List.length_append,List.length_cons,List.length_nil] at vA
  rotate_left
  subst W5
  rotate_left
  ·
   refine jN ?_
   refine .g (cr.gT rfl rfl rfl rfl (fun hg=>ja (.when (.t rfl) hg) (.c _) (bN (by simp<;>omega) (by simp<;>omega)))) rfl rfl ?_
   refine .g (cr.gT rfl rfl rfl rfl (fun hg=>bl m.length FU.out FC.out rfl (.when (.t rfl) hg) (.when (.t rfl) hg) (by simp) (by simp))) rfl rfl ?_
   refine Z1 ?_
   refine .g (cr.gT rfl rfl rfl rfl (fun hg=>eW (i:=0) (r:=1) FA.out (.when (.t rfl) hg) rfl (kr m (n,t2)) rfl)) rfl rfl ?_
   refine Z5 ?_
   refine Cd (fun c1=> ?_) fun c1=> ?_
   ·
    refine Z3 ?_
    refine .p (ja (.t rfl) (.c _) (bN (by simp<;>omega) (by simp<;>omega))) rfl ?_
    refine .p (bl m.length FU.out FC.out rfl (.t rfl) (.t rfl) (by simp) (by simp)) rfl ?_
    refine Z1 ?_
    refine .p (eW (i:=0) (r:=0) FA.out (.t rfl) rfl (kr m (n,t2)) rfl) rfl ?_
    refine Z1 ?_
    refine .p (bl m.length FU.out FC.out rfl (.t rfl) (.t rfl) (by simp) (by simp)) rfl ?_
    refine Z1 ?_
    refine .s (fS (enc:=oF) (i:=0) (r:=0) (n+1,t2) rfl FC.out (.t rfl) (.t rfl) rfl (kr m (n,t2)) rfl rfl) ?_
    refine Z1 ?_
    rw [BW]
    rw [show (m++[(n,t2)]).length=(m++[(n+1,t2)]).length by simp]
    refine Z6 ?_
    refine .round (k+1,some (ob,oc),m++[(n+1,t2)]) ⟨by show k+1≤_;omega,by (show m++[(n+1,t2)]=_;rw [r8 hx,←ho,←zh.1 c1.2,td])⟩ (by show l.length-(k+1)<l.length-k;omega) rfl ?_
    exact (.get rfl (aa.refl _) (.get rfl (aa.int (by show (_:Int)=((k+1:Nat):Int);omega)) ((.keep 32 rfl rfl))))
   refine Z4 ?_
   refine .p (cB oF [(1,t)]) rfl ?_
   refine .n (aH (i:=0) FU.out FU.out FC.out rfl FZ.out rfl FY.out (.t rfl) (.t rfl) rfl (by simp only [List.length_append,List.length_cons,List.length_nil];omega) (by simp only [List.length_append,List.length_cons,List.length_nil];omega)) rfl fun tj _=> ?_
   refine Z8 ?_
   refine .round (k+1,tj,(m++[(n,t2)])++[(1,t)]) ⟨by show k+1≤_;omega,by (show (m++[(n,t2)])++[(1,t)]=_;rw [r8 hx,←ho,ri _ _ (fun e=>c1 ⟨by simp<;>omega,zh.2 e⟩)])⟩ (by show l.length-(k+1)<l.length-k;omega) rfl ?_
   exact (.get rfl (aa.refl _) (.get rfl (aa.int (by show (_:Int)=((k+1:Nat):Int);omega)) ((.keep 29 rfl rfl))))
  refine dw ?_
  refine .g (cr.gT rfl rfl rfl rfl (fun hg=>kZ (q:=iC) (by simp at hg))) rfl rfl ?_
  refine .g (cr.gT rfl rfl rfl rfl (fun hg=>kZ (q:=iC) (by simp at hg))) rfl rfl ?_
  refine .g (cr.gT rfl rfl rfl rfl (fun hg=>kZ (q:=iC) (by simp at hg))) rfl rfl ?_
  refine .g (cr.gT rfl rfl rfl rfl (fun hg=>kZ (q:=iC) (by simp at hg))) rfl rfl ?_
  refine .g (cr.gT rfl rfl rfl rfl (fun hg=>kZ (q:=iC) (by simp at hg))) rfl rfl ?_
  refine .g (cr.gT rfl rfl rfl rfl (fun hg=>kZ (q:=iC) (by simp at hg))) rfl rfl ?_
  refine .g (cr.gT rfl rfl rfl rfl (fun hg=>kZ (q:=iC) (by simp at hg))) rfl rfl ?_
  refine .g (cr.gT rfl rfl rfl rfl (fun hg=>kZ (q:=ak True) (by simp at hg))) rfl rfl ?_
  refine Z3 ?_
  refine Cd (fun c1=> ?_) fun c1=> ?_
  · exfalso;simp at c1
  refine Z4 ?_
  refine .p (cB oF [(1,t)]) rfl ?_
  refine .n (aH (i:=0) FU.out FU.out FC.out rfl FZ.out rfl FY.out (.t rfl) (.t rfl) rfl (by simp only [List.length_append,List.length_cons,List.length_nil];omega) (by simp only [List.length_append,List.length_cons,List.length_nil];omega)) rfl fun tj _=> ?_
  refine Z8 ?_
  refine .round (k+1,tj,[]++[(1,t)]) ⟨by show k+1≤_;omega,by (show []++[(1,t)]=_;rw [r8 hx,←ho];rfl)⟩ (by show l.length-(k+1)<l.length-k;omega) rfl ?_
  exact (.get rfl (aa.refl _) (.get rfl (aa.int (by show (_:Int)=((k+1:Nat):Int);omega)) ((.keep 29 rfl rfl))))
 have DO:l.take k=l:=List.take_of_length_le (by omega)
 rw [DO] at ho
 refine Z6 ?_
 refine .fu (t:=3) (i:=0) rfl rfl ?_
 refine Z6 ?_
 refine bJ ?_
 exact aa.of_eq (by rw [ho])
theorem AW (aq:0≤x.A) (aT:0≤x.B):cQ Tryz.prog 242 [aE (aG x)] (ak (¬gy x)):=by
 refine In 6 Tryz.func242 fun _ _ _=> ?_
 refine Z9 ?_
 refine .p (cA (h:=ve aq aT)) rfl ?_
 refine Z5 ?_
 refine bJ ?_
 exact aa.refl _
theorem AX {t:UInt8}:cQ Tryz.prog 244 [ag .u8 (t.toNat:Int)] (ak (fH t=0)):=by
 refine In 6 Tryz.func244 fun _ _ _=> ?_
 refine Z8 ?_
 refine .p (cA (h:=qD)) rfl ?_
 refine Z5 ?_
 refine bJ ?_
 exact aa.refl _
theorem yE {p:au→Prop} (aq:∀x∈l,0≤x.A∧0≤x.B):cQ Tryz.prog 259 [ah 5 aG l,nt Tryz.prog (fun x:au=>0≤x.A∧0≤x.B) (fun x=>[aE (aG x)]) (fun x=>ak (p x))] (ag .i64 (l6 p l)):=by
 refine In 19 Tryz.func259 fun _ _ _=> ?_
 refine .fact (t:=0) rfl (fun S w v h=>bH h) fun hlen=> ?_
 refine iw ?_
 refine .aY (σ:=Nat) (fun _=>[]) (fun k=>[(8,ag .i64 (k:Int))]) (fun k=>k≤l.length∧cD p l k) (fun k=>l.length-k) 0 ⟨by omega,cD.zero p l⟩ rfl ?_ ?_
 · exact (.get rfl (aa.refl _) (.refl _ _))
 rintro k ⟨hk,hnot⟩
 refine Z6 ?_
 refine Cd (fun c0=> ?_) fun c0=> ?_
 ·
  obtain ⟨x,hx⟩:=ai (xs:=l) (k:=k) (by omega)
  refine mM ?_
  refine .p (cI _) rfl ?_
  refine Z1 ?_
  refine .p (cV x (h:=aq x (List.mem_of_getElem? hx))) rfl ?_
  refine Z2 ?_
  refine Cd (fun c1=> ?_) fun c1=> ?_
  ·
   refine dH ?_
   refine bJ ?_
   exact aa.int (oa hx (by assumption) hnot).symm
  refine Z7 ?_
  refine .round (k+1) ⟨by omega,hnot.succ hx (by assumption)⟩ (by omega) rfl ?_
  exact (.get rfl (aa.int (by omega)) (.keep 12 rfl rfl))
 refine dw ?_
 refine bJ ?_
 exact aa.int (lM (hnot.all (by omega))).symm
theorem yF {p:au→Prop} (aq:∀x∈l,0≤x.A∧0≤x.B):cQ Tryz.prog 241 [ah 5 aG l,nt Tryz.prog (fun x:au=>0≤x.A∧0≤x.B) (fun x=>[aE (aG x)]) (fun x=>ak (p x))] (ak (∃x∈l,p x)):=by
 refine In 9 Tryz.func241 fun _ _ _=> ?_
 refine Z9 ?_
 refine .p (cA (h:=yE (by first|assumption|omega))) rfl ?_
 refine Z5 ?_
 refine bJ ?_
 exact aa.prop gY
theorem x6 {b:jm} (aq:N9 b):cQ Tryz.prog 227 [aE (gB b)] (ak ((∀x∈b.L,gy x)∧(∀t∈b.aS,t=126∨t=127)∧b.aS.length≤50)):=by
 refine In 23 Tryz.func227 fun _ _ _=> ?_
 refine cJ ?_
 refine .p (bT (yF (l:=b.L) (p:=fun x=>¬gy x) (fun x hx=>⟨(aq.ins x hx).A0,(aq.ins x hx).B0⟩)) FB.out (.cons (.t rfl) (.cons (.le (.f _) (sB FB.out (fun (x:au) (h:0≤x.A∧0≤x.B)=>AW h.1 h.2))) .nil))) rfl ?_
 refine Z7 ?_
 refine .p (bT (sV (l:=b.aS) (p:=fun t=>fH t=0)) FB.out (.cons (.t rfl) (.cons (.le (.f _) (sB FB.out (fun (b:UInt8) (_:True)=>AX (t:=b)))) .nil))) rfl ?_
 refine RD ?_
 refine bJ ?_
 exact aa.prop (by simp only [not_exists,not_and,Classical.not_not,oh,and_assoc];exact and_congr_right fun _=>and_congr_right fun _=>by omega)
theorem AY {b:jm} (aq:N9 b):cH Tryz.prog 210 [aE (gB b)] [] (γ:=Int) (fun e=>e=0↔mS b) (fun _=>[]) (fun e=>bz [iC,ag .i64 e]):=by
 refine In 71 Tryz.func210 fun _ _ _=> ?_
 refine dw ?_
 refine .p (cA (h:=x6 aq)) rfl ?_
 refine Z3 ?_
 refine Cd (fun c0=> ?_) fun c0=> ?_
 ·
  have hno:¬mS b:=fun h=>c0 ⟨h.1,h.2.1,h.2.2.1⟩
  refine Z8 ?_
  refine Post.aZ rfl rfl (1) (by exact ⟨fun h=>by simp at h,fun h=>absurd h hno⟩) (fun _ _ _ h=>h) rfl (.cons (.rt rfl) ?_ (.cons (.rt rfl) ?_ .nil))
  · exact aa.any
  exact aa.refl _
 obtain ⟨F8,htl,hlo⟩:=Classical.not_not.1 c0
 refine Z7 ?_
 refine .n (cE (h:=Dt (by have:=aq.len;omega))) rfl fun MH IP=> ?_
 refine mM ?_
 refine Cd (fun c1=> ?_) fun c1=> ?_
 ·
  refine Z9 ?_
  refine Post.aZ rfl rfl (MH) (by exact ⟨fun h=>absurd h c1,fun h=>IP.2 h.2.2.2.1⟩) (fun _ _ _ h=>h) rfl (.cons (.rt rfl) ?_ (.cons (.rt rfl) ?_ .nil))
  · exact aa.any
  exact aa.refl _
 have Tf:=IP.1 (Classical.not_not.1 c1)
 obtain ⟨hrc,hrl⟩:=vR b.aS [] 0 (by simp)
 simp only [List.length_nil,Nat.zero_add] at hrc hrl
 have Jq:eK (b.aS.foldl bn []).length≤10:=cZ (by omega)
 refine Z6 ?_
 refine .p (cA (h:=F7 aq.loc)) rfl ?_
 refine Z4 ?_
 refine .dQ 1 aj ?_
 refine Z4 ?_
 refine .n (cE (h:=qL (g:=none) (xs:=[]) (n:=(b.aS.foldl bn []).length) (by omega) (by simp))) rfl fun L6 L7=> ?_
 refine dH ?_
 refine .aY (σ:=Nat×SB×List UInt8) (fun z=>[av z.2.1 1 aj z.2.2]) (fun z=>[(8,af (br z.2.1 z.2.2.length)),(37,ag .i64 (z.1:Int))]) (fun z=>z.1≤(b.aS.foldl bn []).length∧z.2.2.length=eK (b.aS.foldl bn []).length+xU ((b.aS.foldl bn []).take z.1)) (fun z=>(b.aS.foldl bn []).length-z.1) (0,L6.1,L6.2) ⟨Nat.zero_le _,by (show L6.2.length=_;rw [L7];simp [xU])⟩ rfl ?_ ?_
 · exact (.get rfl (aa.refl _) (.get rfl (aa.refl _) (.refl _ _)))
 rintro ⟨k,g1,ys⟩ ⟨hk,hys⟩
 simp only at hk hys ⊢
 have hsr:=AM ((b.aS.foldl bn []).take k) (fun p hp=>by have:=hrc p (List.mem_of_mem_take hp);omega)
 rw [List.length_take] at hsr
 refine Z6 ?_
 refine Cd (fun c2=> ?_) fun c2=> ?_
 ·
  obtain ⟨r,hr⟩:=ai (xs:=(b.aS.foldl bn [])) (k:=k) (by omega)
  have hrn:=hrc r (List.mem_of_getElem? hr)
  have aY7:eK r.1≤10:=cZ (by omega)
  refine Z6 ?_
  refine .p (cI k (h:=hr)) rfl ?_
  refine Z1 ?_
  refine .n (az FZ.out) rfl fun b10 _=> ?_
  refine Z3 ?_
  refine .share (t:=10) (i:=0) rfl rfl ?_
  refine .bG [(0,0),(1,0),(2,0),(3,0),(5,0),(6,0),(7,0),(4,2)] 8 2 FM.out (by kernel_rfl) (k:= ?_)
  refine Z6 ?_
  refine .p rfl (fun _=>bu (enc:=aj) [r.2] FU.out FC.out rfl FZ.out rfl (.cons (.t rfl) .nil) rfl rfl rfl rfl rfl) ?_
  refine .e rfl (cE (h:=qL (n:=r.1) (by omega) (by omega))) fun BG RV=> ?_
  refine .fin ?_
  refine .n (aH (i:=0) FU.out FU.out FC.out rfl FZ.out rfl FY.out (.t rfl) (.t rfl) rfl (by simp only [List.length_cons,List.length_nil];omega) (by simp only [List.length_cons,List.length_nil];omega)) rfl fun QI _=> ?_
  refine Z8 ?_
  refine .round (k+1,QI,BG.2++[r.2]) ⟨by show k+1≤_;omega,by (show (BG.2++[r.2]).length=_;rw [List.length_append,RV,hys,←bt hr,Jh];simp only [List.length_cons,List.length_nil];omega)⟩ (by show (b.aS.foldl bn []).length-(k+1)<(b.aS.foldl bn []).length-k;omega) rfl ?_
  exact (.get rfl (aa.refl _) (.get rfl (aa.int (by show (_:Int)=((k+1:Nat):Int);omega)) ((.keep 19 rfl rfl))))
 have hkr:(b.aS.foldl bn []).take k=(b.aS.foldl bn []):=List.take_of_length_le (by omega)
 rw [hkr] at hys
 refine mM ?_
 refine .aY (σ:=Nat×SB×List UInt8) (fun z=>[av z.2.1 1 aj z.2.2]) (fun z=>[(8,af (br z.2.1 z.2.2.length)),(54,ag .i64 (z.1:Int))]) (fun z=>z.1≤b.L.length∧z.2.2.length=eK (b.aS.foldl bn []).length+xU (b.aS.foldl bn [])+uz (b.L.take z.1)) (fun z=>b.L.length-z.1) (0,g1,ys) ⟨Nat.zero_le _,by (show ys.length=_;rw [hys];simp [uz])⟩ rfl ?_ ?_
 · exact (.get rfl (aa.refl _) (.get rfl (aa.refl _) (.refl _ _)))
 rintro ⟨i,g2,ws⟩ ⟨hi,hzs⟩
 simp only at hi hzs ⊢
 have hsi:=AL (b.L.take i) (fun x hx=>⟨.of (aq.ins x (List.mem_of_mem_take hx)) (F8 x (List.mem_of_mem_take hx)),F8 x (List.mem_of_mem_take hx)⟩)
 rw [List.length_take] at hsi
 have aY8:=AM (b.aS.foldl bn []) (fun p hp=>by have:=hrc p hp;omega)
 have yb:=aq.len
 refine Z6 ?_
 refine Cd (fun c3=> ?_) fun c3=> ?_
 ·
  obtain ⟨x,hx⟩:=ai (xs:=b.L) (k:=i) (by omega)
  have hxl:=AK (.of (aq.ins x (List.mem_of_getElem? hx)) (F8 x (List.mem_of_getElem? hx))) (F8 x (List.mem_of_getElem? hx))
  refine Z6 ?_
  refine .p (cI i (h:=hx)) rfl ?_
  refine Z1 ?_
  refine .n (az FZ.out) rfl fun Q1 _=> ?_
  refine Z3 ?_
  refine .share (t:=12) (i:=0) rfl rfl ?_
  refine Z3 ?_
  refine .n (cE (h:=AV (.of (aq.ins x (List.mem_of_getElem? hx)) (F8 x (List.mem_of_getElem? hx))) (F8 x (List.mem_of_getElem? hx)))) rfl fun RW YX=> ?_
  refine cJ ?_
  refine .n (aH (i:=0) (xs:=ws) (ys:=RW) FU.out FU.out FC.out rfl FZ.out rfl FY.out (.t rfl) (.t rfl) rfl (by omega) (by omega)) rfl fun Y5 _=> ?_
  refine Z8 ?_
  refine .round (i+1,Y5,ws++RW) ⟨by show i+1≤_;omega,by (show (ws++RW).length=_;rw [List.length_append,YX,hzs,←bt hx,zD];omega)⟩ (by show b.L.length-(i+1)<b.L.length-i;omega) rfl ?_
  exact (.get rfl (aa.refl _) (.get rfl (aa.int (by show (_:Int)=((i+1:Nat):Int);omega)) ((.keep 20 rfl rfl))))
 have tF:b.L.take i=b.L:=List.take_of_length_le (by omega)
 rw [tF] at hzs
 have htot:ws.length=I4 b:=by rw [hzs,N8]
 refine Z9 ?_
 refine .p (GK (xs:=ws) (i:=0) rfl Tryz.underlying59 (.t rfl) rfl rfl) rfl ?_
 refine Z3 ?_
 refine Cd (fun c4=> ?_) fun c4=> ?_
 ·
  refine Z8 ?_
  refine Post.aZ rfl rfl (15) (by exact ⟨fun h=>by simp at h,fun h=>by have:=h.2.2.2.2;omega⟩) (aB.dc [] [0] rfl rfl) rfl (.cons (.rt rfl) ?_ (.cons (.rt rfl) ?_ .nil))
  · exact aa.any
  exact aa.refl _
 refine cJ ?_
 refine Post.aZ rfl rfl (0) (by exact ⟨fun _=>⟨F8,htl,hlo,Tf,by omega⟩,fun _=>rfl⟩) (aB.dc [] [0] rfl rfl) rfl (.cons (.rt rfl) ?_ (.cons (.rt rfl) ?_ .nil))
 · exact aa.any
 exact aa.refl _
end Go.Proofs.YtpfobikpggmleaaGreatDoor
end
section
namespace Go.Proofs.YtpfobikpggmleaaGreatDoor
open Go.Hl
theorem Ht {m:aU}:(rP m).2=0↔dy m:=by
 rw [LC]
 constructor
 · intro h
   simp only [lg,List.mem_cons,List.not_mem_nil,or_false] at h
   exact ⟨h _ (.inl rfl),h _ (.inr (.inl rfl)),h _ (.inr (.inr (.inl rfl))),h _ (.inr (.inr (.inr (.inl rfl)))),h _ (.inr (.inr (.inr (.inr (.inl rfl))))),h _ (.inr (.inr (.inr (.inr (.inr (.inl rfl)))))),h _ (.inr (.inr (.inr (.inr (.inr (.inr (.inl rfl))))))),h _ (.inr (.inr (.inr (.inr (.inr (.inr (.inr (.inl rfl)))))))),h _ (.inr (.inr (.inr (.inr (.inr (.inr (.inr (.inr (.inl rfl))))))))),h _ (.inr (.inr (.inr (.inr (.inr (.inr (.inr (.inr (.inr rfl)))))))))⟩
 · intro h p hp
   simp only [lg,List.mem_cons,List.not_mem_nil,or_false] at hp
   rcases hp with rfl|rfl|rfl|rfl|rfl|rfl|rfl|rfl|rfl|rfl
   · exact h.sigs
   · exact h.imports
   · exact h.funcs
   · exact h.table
   · exact h.dI
   · exact h.globals
   · exact h.aV
   · exact h.start
   · exact h.elems
   · exact h.bO
theorem vf {m:aU} (h:dy m):(rP m).2=0:=Ht.2 h
end Go.Proofs.YtpfobikpggmleaaGreatDoor
end
section
namespace Go.Proofs.YtpfobikpggmleaaGreatDoor
open Go.Hl Go.RowKit
variable {m:aU} {i:Nat} {f:cK}
theorem AZ (aq:dy m) (aT:jP m) (dh:m.ax[i]?=some f):cQ Tryz.prog 209 [cg (bh m),ag .i64 ((i:Int))] (bz [ah 1 aj ((cn m f).aS),ak True]):=by
 refine In 49 Tryz.func209 fun _ _ _=> ?_
 have FG:f∈m.ax:=List.mem_of_getElem? dh
 have tF:=(List.getElem?_eq_some_iff.1 dh).1
 have hlens:=aq.lens
 have hcn:(m.aA.length:Int)+(m.ax.length:Int)≤100:=hlens.2.2.2.2
 have Bj:=(jn (mB aq FG)).2
 have hP:=(aq.yh _ Bj).1
 have hlo:=aT.loc f FG
 refine XH ?_
 refine Cd (fun c0=> ?_) fun c0=> ?_
 · exfalso;rcases c0 with (h|h)|h;exact h;omega;omega
 refine dH ?_
 refine .p ((cA (h:=qE (m:=m) (f:=(m.aA.length:Int)+(i:Int)))).le (aa.of_eq (show bz [aE (cj ((gM m ((m.aA.length:Int)+(i:Int))).getD ⟨[],[]⟩)),ak (gM m ((m.aA.length:Int)+(i:Int))).isSome]=bz [aE (cj (ck m f.fV)),ak ((some (ck m f.fV)).isSome=true)] by rw [zE aq dh];rfl))) rfl ?_
 refine Z3 ?_
 refine .n (az FZ.out) rfl fun b6 _=> ?_
 refine Z4 ?_
 refine .share (t:=6) (i:=0) rfl rfl ?_
 refine Z1 ?_
 refine .bA 15 1 FM.out (by kernel_rfl) (k:= ?_)
 refine Z7 ?_
 refine .p (cI i (h:=dh)) ?_
 refine Z3 ?_
 refine .p (cB dA [(ck m f.fV).P,f.Body.aS]) ?_
 refine .p (cA (h:=AO (ls:=[(ck m f.fV).P,f.Body.aS]) (by simp;omega))) ?_
 refine Z7 ?_
 refine jr ?_ ?_
 · exact aa.of_eq (by simp [cn])
 exact aa.prop (by simp)
theorem Jv (aq:dy m) (aT:jP m) (dh:m.ax[i]?=some f):cH Tryz.prog 156 [cg (bh m),ag .i64 ((i:Int))] [] (γ:=Int×Int×List Nat×SB) (fun g=>(g.2.1=0∧mS f.Body∧ia m f=some g.2.2.1)∨(g.2.1≠0∧¬oB m f∧g.2.2.1=[])) (fun g=>[av g.2.2.2 1 gJ g.2.2.1]) (fun g=>bz [af (br g.2.2.2 g.2.2.1.length),ag .i64 g.1,ag .i64 g.2.1]):=by
 refine In 99 Tryz.func156 fun _ _ _=> ?_
 have FG:f∈m.ax:=List.mem_of_getElem? dh
 have tF:=(List.getElem?_eq_some_iff.1 dh).1
 have hlens:=aq.lens
 have hcn:(m.aA.length:Int)+(m.ax.length:Int)≤100:=hlens.2.2.2.2
 have Bj:=(jn (mB aq FG)).2
 have J9:=aT.len f FG
 have hfit:(rP m).2=0:=vf aq
 refine dw ?_
 refine .p (cA (h:=Cw (m:=m))) rfl ?_
 refine Z2 ?_
 refine .p ((lK (.t rfl) rfl).le (aa.int hfit)) rfl ?_
 refine cJ ?_
 refine Cd (fun c0=> ?_) fun c0=> ?_
 · exact absurd rfl c0
 refine Z6 ?_
 refine .p (cA (h:=AZ aq aT dh)) rfl ?_
 refine iw ?_
 refine Cd (fun c1=> ?_) fun c1=> ?_
 · exact absurd trivial c1
 refine Z9 ?_
 refine .p (cI i (h:=dh)) rfl ?_
 refine Z2 ?_
 refine .n (az FZ.out) rfl fun RL _=> ?_
 refine Z3 ?_
 refine .share (t:=11) (i:=0) rfl rfl ?_
 refine Z4 ?_
 refine .n (cE (h:=AY (aT.bd FG))) rfl fun W3 h46=> ?_
 refine jN ?_
 refine Cd (fun c2=> ?_) fun c2=> ?_
 ·
  have hno:¬oB m f:=fun h=>c2 (h46.2 h.1)
  refine cJ ?_
  refine Post.aZ rfl rfl ((0,W3,[],none)) (by exact .inr ⟨c2,hno,rfl⟩) (fun F S w h=>⟨fun _=>False,F,fun _ h=>h.elim,fun _ h=>h,rfl,trivial⟩) rfl (.cons (.rt rfl) ?_ (.cons (.rt rfl) ?_ (.cons (.rt rfl) ?_ .nil)))
  · exact aa.of_eq rfl
  · exact aa.refl _
  exact aa.refl _
 have nw:=h46.1 (Classical.not_not.1 c2)
 have HJ:xG m f:=⟨aq,by (show ((ck m f.fV).P++f.Body.aS).length≤60000;rw [List.length_append];have h1:=(aq.yh _ Bj).1;have h2:=nw.2.2.1;omega),Bj⟩
 refine dH ?_
 refine .p ((cA (h:=qE (m:=m) (f:=(m.aA.length:Int)+(i:Int)))).le (aa.of_eq (show bz [aE (cj ((gM m ((m.aA.length:Int)+(i:Int))).getD ⟨[],[]⟩)),ak (gM m ((m.aA.length:Int)+(i:Int))).isSome]=bz [aE (cj (ck m f.fV)),ak ((some (ck m f.fV)).isSome=true)] by rw [zE aq dh];rfl))) rfl ?_
 refine Z3 ?_
 refine .n (az FZ.out) rfl fun b14 _=> ?_
 refine Z4 ?_
 refine .share (t:=14) (i:=0) rfl rfl ?_
 refine Z8 ?_
 refine .p ((aL FP.out FZ.out (.cons (.t rfl) .nil) rfl).le ((show aa _ (aE (jF (kN 0 ⟨False,False,(ck m f.fV).R,([],False)⟩ ([],False)))) from aa.agg (.cons uv (.cons uv (.cons (.refl _) (.cons (.refl _) (.cons uv .nil)))))))) rfl ?_
 refine .n (cO jF [kN 0 ⟨False,False,(ck m f.fV).R,([],False)⟩ ([],False)] FU.out FC.out rfl FZ.out rfl (.cons (.t rfl) .nil) rfl rfl rfl rfl rfl) rfl fun W1 _=> ?_
 refine .p (bg.le (aL FP.out FZ.out (.cons (.t rfl) (.cons (.t rfl) .nil)) rfl) (aa.refl (aE [cg (bh m),ah 1 aj (cn m f).aS,ah 1 aj (ck m f.fV).P,ah 1 aj (ck m f.fV).R,af (br none 0),af (br W1 1)]))) rfl ?_
 refine .n (bV (.t rfl)) rfl fun b73 _=> ?_
 refine Z4 ?_
 refine .dQ 1 aj ?_
 refine .dQ 1 gJ ?_
 refine iw ?_
 refine .own (aB.perm (Perm.idx [0,2,1,3] rfl rfl)) ?_
 refine .aY (σ:=Nat×SB×List Nat×Pw) (fun g=>av g.2.1 1 gJ g.2.2.1::WV b73 m f g.2.2.2) (fun g=>[(17,af (br g.2.1 g.2.2.1.length)),(77,ag .i64 (g.1:Int))]) (fun g=>g.1≤f.Body.L.length∧g.2.2.1.length≤g.1∧∃fs,I5 fs g.2.2.2.2.2.1 g.2.2.2.2.2.2∧vr m f g.1 g.2.2.1 fs) (fun g=>f.Body.L.length-g.1) (0,none,[],(none,W1,[],[kN 0 ⟨False,False,(ck m f.fV).R,([],False)⟩ ([],False)])) ⟨Nat.zero_le _,Nat.le_refl _,_,⟨rfl,fun _=>rfl⟩,vr.init aq Bj nw.2.2.2.1⟩ rfl ?_ ?_
 · exact (.get rfl (aa.of_eq rfl) (.get rfl (aa.refl _) (.refl _ _)))
 rintro ⟨j,gh,hts,z⟩ ⟨hj,W6,fs,hz,hR⟩
 simp only at hj W6 hz hR ⊢
 refine Z6 ?_
 refine Cd (fun c3=> ?_) fun c3=> ?_
 ·
  obtain ⟨x,hx⟩:=ai (xs:=f.Body.L) (k:=j) (by omega)
  obtain ⟨fs,b,Y4⟩:=LZ (vS hx▸hR.nest)
  subst Y4
  obtain ⟨zs,zb,zst,zB⟩:=z
  obtain ⟨hB,hst⟩:=hz
  simp only at hB hst
  have hst:=hst (by simp)
  rw [j6] at hB
  rw [gf] at hst
  subst hB
  subst hst
  refine .jj 3 rfl (by simp) fun bb bc hg=> ?_
  simp only at hg
  subst hg
  refine Z7 ?_
  refine .p (cI j (h:=hx)) rfl ?_
  refine Z1 ?_
  refine .n (az FZ.out) rfl fun b19 _=> ?_
  refine Z4 ?_
  refine .share (t:=19) (i:=0) rfl rfl ?_
  refine Z8 ?_
  refine .p (cB gJ [(cN fs++b.st.1).length]) rfl ?_
  refine .n (aH (i:=0) FU.out FU.out FC.out rfl FZ.out rfl FY.out (.t rfl) (.t rfl) rfl (by simp only [List.length_cons,List.length_nil];omega) (by simp only [List.length_cons,List.length_nil];omega)) rfl fun Y6 _=> ?_
  refine Z7 ?_
  refine .n (o7 [_] [1,2,3,0] (h:=FW (x:=x) (by rw [←gf,xC];have:=hR.hgt;omega) HJ (.of (aT.ins f FG x (List.mem_of_getElem? hx)) (nw.1 x (List.mem_of_getElem? hx))) (by have:=hR.len;simp at this;omega) hR.yh (nw.1 x (List.mem_of_getElem? hx)).1)) rfl fun Pz QW=> ?_
  refine Z9 ?_
  refine Cd (fun c4=> ?_) fun c4=> ?_
  ·
   refine mM ?_
   refine Post.aZ rfl rfl (((j:Int),Pz.2,[],none)) (by exact .inr ⟨c4,fun h=>by (obtain ⟨hs,hh⟩:=h.2;obtain ⟨oz,e92⟩:=Pz;cases oz with|some z2=>exact c4 QW.1|none=>(have h8:=hR.Ti hx QW.2;rw [hh] at h8;cases h8)),rfl⟩) (fun F S w h=>⟨fun _=>False,F,fun _ h=>h.elim,fun _ h=>h,rfl,trivial⟩) rfl (.cons (.rt rfl) ?_ (.cons (.rt rfl) ?_ (.cons (.rt rfl) ?_ .nil)))
   · exact aa.of_eq rfl
   · exact aa.refl _
   exact aa.refl _
  obtain ⟨oz,e92⟩:=Pz
  obtain rfl|⟨z2,rfl⟩:oz=none∨∃z2,oz=some z2:=by cases oz with|none=>exact .inl rfl|some z2=>exact .inr ⟨z2,rfl⟩
  exact absurd QW.1 c4
  obtain ⟨h92a,fs2,tE,x9⟩:=QW
  have hRn:=hR.next aq hx tE
  simp only [Ma]
  refine Z7 ?_
  refine .own (aB.perm (Perm.idx [3,0,1,2] rfl rfl)) (bR.round (j+1,Y6,hts++[(cN fs++b.st.1).length],z2) ⟨by show j+1≤_;omega,by (show (hts++[_]).length≤j+1;rw [List.length_append];simp only [List.length_cons,List.length_nil];omega),fs2,x9,by (show vr m f (j+1) (hts++[(cN fs++b.st.1).length]) fs2;rw [←gf,xC];exact hRn)⟩ (by show f.Body.L.length-(j+1)<f.Body.L.length-j;omega) rfl ?_)
  exact (.get rfl (aa.refl _) (.get rfl (aa.int (by show (_:Int)=((j+1:Nat):Int);omega)) ((.keep 26 rfl rfl))))
 have hdone:=hR.done (by omega)
 refine iw ?_
 refine Post.aZ rfl rfl ((0,0,hts,gh)) (by exact .inl ⟨rfl,nw,hdone⟩) (aB.dc [0] [1,2,3] rfl rfl) rfl (.cons (.rt rfl) ?_ (.cons (.rt rfl) ?_ (.cons (.rt rfl) ?_ .nil)))
 · exact aa.refl _
 · exact aa.refl _
 exact aa.refl _
theorem F9 (aq:dy m) (aT:jP m) (dh:m.ax[i]?=some f):cH Tryz.prog 130 [cg (bh m),ag .i64 ((i:Int))] [] (γ:=Int×Int) (fun g=>g.2=0↔oB m f) (fun _=>[]) (fun g=>bz [ag .i64 g.1,ag .i64 g.2]):=by
 refine In 18 Tryz.func130 fun _ _ _=> ?_
 refine cJ ?_
 refine .n (cE (h:=Jv aq aT dh)) rfl fun o8 h12=> ?_
 refine DP ?_
 refine Post.aZ rfl rfl ((o8.1,o8.2.1)) (by exact (by rcases h12 with ⟨h1,h2,h3⟩|⟨h1,h2,h3⟩;exact ⟨fun _=>⟨h2,_,h3⟩,fun _=>h1⟩;exact ⟨fun h=>absurd h h1,fun h=>absurd h h2⟩)) (aB.dc [] [0] rfl rfl) rfl (.cons (.rt rfl) ?_ (.cons (.rt rfl) ?_ .nil))
 · exact aa.refl _
 exact aa.refl _
theorem Jw (aq:jP m) (aT:m.ax.length≤60000):cH Tryz.prog 109 [cg (bh m)] [] (γ:=List (List UInt8×Int×Int×Int)) (fun l=>l=[]↔jE m) (fun _=>[]) (fun l=>ah 4 oG l):=by
 refine In 45 Tryz.func109 fun _ _ _=> ?_
 refine Z9 ?_
 refine .p (cA (h:=Cw (m:=m))) rfl ?_
 refine jN ?_
 refine Cd (fun c0=> ?_) fun c0=> ?_
 ·
  have hnv:¬jE m:=fun h=>c0 (vf h.1)
  refine Z5 ?_
  refine .p (cB oG [((rP m).1,-1,0,(rP m).2)]) rfl ?_
  refine Z5 ?_
  refine Post.aN rfl ([((rP m).1,-1,0,(rP m).2)]) (by exact ⟨fun h=>absurd h (by simp),fun h=>absurd h hnv⟩) (fun _ _ _ h=>h) (.rt rfl) ?_
  exact aa.refl _
 have hfits:dy m:=Ht.1 (Classical.not_not.1 c0)
 refine Z9 ?_
 refine .dQ 4 oG ?_
 refine cJ ?_
 refine .aY (σ:=Nat×SB×List (List UInt8×Int×Int×Int)) (fun g=>[av g.2.1 4 oG g.2.2]) (fun g=>[(5,af (br g.2.1 g.2.2.length)),(25,ag .i64 (g.1:Int))]) (fun g=>g.1≤m.ax.length∧g.2.2.length≤g.1∧(g.2.2=[]↔∀f∈m.ax.take g.1,oB m f)) (fun g=>m.ax.length-g.1) (0,none,[]) ⟨Nat.zero_le _,Nat.le_refl _,by simp⟩ rfl ?_ ?_
 · exact (.get rfl (aa.of_eq rfl) (.get rfl (aa.refl _) (.refl _ _)))
 rintro ⟨j,gl,l⟩ ⟨hj,J9,hv⟩
 simp only at hj J9 hv ⊢
 refine Z6 ?_
 refine Cd (fun c1=> ?_) fun c1=> ?_
 ·
  obtain ⟨f,hf⟩:=ai (xs:=m.ax) (k:=j) (by omega)
  refine iw ?_
  refine .n (cE (h:=F9 hfits aq hf)) rfl fun DW MN=> ?_
  refine jN ?_
  refine Cd (fun c2=> ?_) fun c2=> ?_
  ·
   refine Z5 ?_
   refine .p (aL FP.out FZ.out (.cons (.s [102,117,110,99] rfl rfl) (.cons (.t rfl) (.cons (.t rfl) (.cons (.t rfl) .nil)))) rfl) rfl ?_
   refine .p (cB oG [([102,117,110,99],(j:Int),DW.1,DW.2)]) rfl ?_
   refine .n (aH (i:=0) FU.out FU.out FC.out rfl FZ.out rfl FY.out (.t rfl) (.t rfl) rfl (by simp only [List.length_cons,List.length_nil];omega) (by simp only [List.length_cons,List.length_nil];omega)) rfl fun QK _=> ?_
   refine Z8 ?_
   refine .round (j+1,QK,l++[([102,117,110,99],(j:Int),DW.1,DW.2)]) ⟨by show j+1≤_;omega,by (show (l++[_]).length≤j+1;rw [List.length_append];simp only [List.length_cons,List.length_nil];omega),⟨fun h=>absurd h (by simp),fun h=>absurd (MN.2 (h f (by rw [←bt hf];simp))) c2⟩⟩ (by show m.ax.length-(j+1)<m.ax.length-j;omega) rfl ?_
   exact (.get rfl (aa.refl _) (.get rfl (aa.int (by show (_:Int)=((j+1:Nat):Int);omega)) ((.keep 25 rfl rfl))))
  refine Z7 ?_
  refine .round (j+1,gl,l) ⟨by show j+1≤_;omega,by (show l.length≤j+1;omega),by (show l=[]↔_;rw [hv,←bt hf];have h9:=MN.1 (Classical.not_not.1 c2);constructor;intro h g hg;rcases List.mem_append.1 hg with hg|hg;exact h g hg;(simp only [List.mem_singleton] at hg;subst hg;exact h9);intro h g hg;exact h g (List.mem_append_left _ hg))⟩ (by show m.ax.length-(j+1)<m.ax.length-j;omega) rfl ?_
  exact (.get rfl (aa.refl _) (.get rfl (aa.int (by show (_:Int)=((j+1:Nat):Int);omega)) ((.keep 17 rfl rfl))))
 have hall:m.ax.take j=m.ax:=List.take_of_length_le (by omega)
 rw [hall] at hv
 refine .fu (t:=5) (i:=0) (g:=gl) (xs:=l) rfl rfl ?_
 refine dH ?_
 refine Post.aN rfl (l) (by exact ⟨fun h=>⟨hfits,hv.1 h⟩,fun h=>hv.2 h.2⟩) (fun _ _ _ h=>h) (.rt rfl) ?_
 exact aa.refl _
theorem Du (aq:jP m) (aT:m.ax.length≤60000):cH Tryz.prog 78 [cg (bh m)] [] (γ:=List UInt8×Int×Int×Int) (fun _=>True) (fun _=>[]) (fun y=>bz [aE (oG y),ak (¬jE m)]):=by
 refine In 14 Tryz.func78 fun _ _ _=> ?_
 refine Z2 ?_
 refine .n (az FZ.out) rfl fun b2 _=> ?_
 refine Z6 ?_
 refine .n (cE (h:=Jw aq aT)) rfl fun g6 h6=> ?_
 refine dw ?_
 refine Cd (fun c0=> ?_) fun c0=> ?_
 ·
  have hv:jE m:=h6.1 (List.eq_nil_of_length_eq_zero (by omega))
  refine Z9 ?_
  refine Post.aZ rfl rfl (([],0,0,0)) (by trivial) (aB.dc [] [0] rfl rfl) rfl (.cons (.ra (i:=0) FA.out FC.out rfl rfl rfl rfl) ?_ (.cons (.rt rfl) ?_ .nil))
  · exact aa.agg (.cons pE (.cons (aa.refl _) (.cons (aa.refl _) (.cons (aa.refl _) .nil))))
  exact aa.prop ⟨fun h=>h.elim,fun h=>absurd hv h⟩
 have hne:g6≠[]:=fun e=>c0 (by rw [e];rfl)
 have hv:¬jE m:=fun h=>hne (h6.2 h)
 obtain ⟨y,hy⟩:=ai (xs:=g6) (k:=0) (List.length_pos_iff.2 hne)
 refine Z5 ?_
 refine .p (cI 0 (h:=hy)) rfl ?_
 refine Z6 ?_
 refine Post.aZ rfl rfl (y) (by trivial) (aB.dc [] [0] rfl rfl) rfl (.cons (.ra (i:=0) FA.out FC.out rfl rfl rfl rfl) ?_ (.cons (.rt rfl) ?_ .nil))
 · exact aa.refl _
 exact aa.prop ⟨fun _=>hv,fun _=>trivial⟩
theorem x7 (aq:jP m) (aT:m.ax.length≤60000):cH Tryz.prog 35 [cg (bh m)] [] (γ:=Unit) (fun _=>True) (fun _=>[]) (fun _=>ak (jE m)):=by
 refine In 12 Tryz.func35 fun _ _ _=> ?_
 refine Z8 ?_
 refine .n (cE (h:=Du aq aT)) rfl fun g7 h7=> ?_
 refine Z3 ?_
 refine .n (az FZ.out) rfl fun b3 _=> ?_
 refine Z4 ?_
 refine .share (t:=3) (i:=0) rfl rfl ?_
 refine Z8 ?_
 refine bJ ?_
 exact aa.prop Classical.not_not
variable {X:yd} {num:Int} {a:eO}
theorem vg {pg:od} {mm:Nat} {Co:Cont} (aq:eg X a) (aT:o4 m) (dh:jP m) (fX:m.ax.length≤60000) (ox:jE m) (yp:a.height+(rO m+DT m)≤X.size) (NM:0≤num) (RR:num≤1073741824) (hp8:mm+Ck m m.bK.length≤4096):cH Tryz.prog 11 [cg (bh m),aJ X.ab 0,aJ pg.pb 0,ag .i64 num] (dS X a++[iM pg 64 4096 (fun _=>True) (Co) (mm) J7]) (γ:=Nat×List Nat×Nat×Nat×Int) (fun r=>r.2.1.length=m.bI.length∧vm m r.2.2) (fun r=>oR pg.pb r.2.1 (GZ m num m.bI.length)::uU r.1 X pg.pb m num (a.height:Int) ((a.height+rO m:Nat):Int) (ah 1 p9 r.2.1)::dS X (L2 m a r.2.2.1)++[iM pg 64 4096 (fun _=>True) (yj m num Co r.2.2.2.1) (mm+Ck m m.bK.length) J7]) (fun r=>bz [aJ r.1 0,ag .i64 r.2.2.2.2,ag .i64 0]):=by
 refine In 58 Tryz.func11 fun _ _ _=> ?_
 have DV:=aT.r1;have Bo:=aT.r2;have hkh:=aq.hi;have hkm:=aq.most
 have hRo:eg X (p4 a m):=pZ (pZ aq (by omega)) (by simp only;omega)
 have hGo:=Ak (m:=m) (g:=a.height) hRo m.ay.length (by omega)
 refine dH ?_
 refine .p (cm FU.out (.t rfl)) rfl ?_
 refine Z2 ?_
 refine .g (cr.gF rfl rfl rfl rfl (fun hg=>cm FU.out (.when (.t rfl) hg))) rfl rfl ?_
 refine Z4 ?_
 refine Cd (fun c0=> ?_) fun c0=> ?_
 · exact (c0.elim id id).elim
 refine Z3 ?_
 refine .n (cE (h:=x7 dh fX)) rfl fun LA DU=> ?_
 refine Z4 ?_
 refine Cd (fun c1=> ?_) fun c1=> ?_
 · exact absurd ox c1
 refine dw ?_
 refine Cd (fun c2=> ?_) fun c2=> ?_
 · exfalso;omega
 refine Z9 ?_
 refine .p ((aL FP.out FZ.out (.cons (.t rfl) (.cons (.t rfl) (.cons (.t rfl) (.cons (.t rfl) .nil)))) rfl).le ((by exact show aa _ (aE [cg (bh m),aJ X.ab 0,aJ pg.pb 0,ag .i64 num,ag .i64 0,ag .i64 0,af (.slice none 0 0),ak False]) from aa.agg (.cons (.refl _) (.cons (.refl _) (.cons (.refl _) (.cons (.refl _) (.cons (.refl _) (.cons (.refl _) (.cons (.refl _) (.cons lZ .nil))))))))))) rfl ?_
 refine .n (bV (.t rfl)) rfl fun WO _=> ?_
 refine Z7 ?_
 refine .n (cE (h:=CP aq aT yp)) rfl fun tj PA=> ?_
 refine Z9 ?_
 refine Cd (fun c3=> ?_) fun c3=> ?_
 · exact absurd rfl c3
 refine Z5 ?_
 refine .n (cE (h:=Fc (a:=p4 a m) (g:=a.height) hRo aT (by omega) NM RR)) rfl fun BG RV=> ?_
 refine Z2 ?_
 refine .iB (i:=1) (j:=1) (f:=6) rfl rfl rfl ?_
 refine Z3 ?_
 refine .n (o7 [_,_] [0,1,2,3,6,4,5] (h:=Ff (a:=Lt m a.height (p4 a m) m.ay.length) (t0:=a.height+rO m) (mm:=mm) (Co:=Co) hGo aT (by omega) RV NM hp8)) rfl fun L8 h48=> ?_
 refine iw ?_
 refine Cd (fun c4=> ?_) fun c4=> ?_
 · exact absurd rfl c4
 refine dH ?_
 refine Post.aZ rfl rfl ((WO,BG.2,L8)) (by exact ⟨RV,h48⟩) (aB.trans (aB.perm (Perm.idx [0,1,2,3,5,6,4] rfl rfl)) (aB.cons _ (aB.cons _ (IC (X:=X) (a:=L2 m a L8.1) (AN aq aT yp L8.1).2.taken)))) rfl (.cons (.rt rfl) ?_ (.cons (.rt rfl) ?_ (.cons (.rt rfl) ?_ .nil)))
 · exact .z
 · exact .z
 exact .z
variable {pb:Nat}
theorem Ga (aq:jP m) (aT:m.ax.length≤60000) (dh:¬jE m):cQ Tryz.prog 11 [cg (bh m),aJ X.ab 0,aJ pb 0,ag .i64 num] (bz [MV,ag .i64 0,ag .i64 5]):=by
 refine In 58 Tryz.func11 fun _ _ _=> ?_
 refine dH ?_
 refine .p (cm FU.out (.t rfl)) rfl ?_
 refine Z2 ?_
 refine .g (cr.gF rfl rfl rfl rfl (fun hg=>cm FU.out (.when (.t rfl) hg))) rfl rfl ?_
 refine Z4 ?_
 refine Cd (fun c0=> ?_) fun c0=> ?_
 · exact (c0.elim id id).elim
 refine Z3 ?_
 refine .n (cE (h:=x7 aq aT)) rfl fun LA DU=> ?_
 refine Z4 ?_
 refine Cd (fun c1=> ?_) fun c1=> ?_
 ·
  refine cJ ?_
  refine O0 ?_ ?_ ?_
  · exact aa.refl _
  · exact aa.refl _
  exact aa.refl _
 exact (c1 dh).elim
theorem Gb (aq:eg X a) (aT:o4 m) (dh:jP m) (fX:m.ax.length≤60000) (ox:jE m) (yp:X.size<a.height+(rO m+DT m)) (NM:0≤num) (RR:num≤1073741824):cH Tryz.prog 11 [cg (bh m),aJ X.ab 0,aJ pb 0,ag .i64 num] (dS X a) (γ:=eO) (fun g=>g.live=a.live) (fun g=>rN X g 1) (fun _=>bz [MV,ag .i64 0,ag .i64 8]):=by
 refine In 58 Tryz.func11 fun _ _ _=> ?_
 refine dH ?_
 refine .p (cm FU.out (.t rfl)) rfl ?_
 refine Z2 ?_
 refine .g (cr.gF rfl rfl rfl rfl (fun hg=>cm FU.out (.when (.t rfl) hg))) rfl rfl ?_
 refine Z4 ?_
 refine Cd (fun c0=> ?_) fun c0=> ?_
 · exact (c0.elim id id).elim
 refine Z3 ?_
 refine .n (cE (h:=x7 dh fX)) rfl fun LA DU=> ?_
 refine Z4 ?_
 refine Cd (fun c1=> ?_) fun c1=> ?_
 · exact absurd ox c1
 refine dw ?_
 refine Cd (fun c2=> ?_) fun c2=> ?_
 · exfalso;omega
 refine Z9 ?_
 refine .p ((aL FP.out FZ.out (.cons (.t rfl) (.cons (.t rfl) (.cons (.t rfl) (.cons (.t rfl) .nil)))) rfl).le ((by exact show aa _ (aE [cg (bh m),aJ X.ab 0,aJ pb 0,ag .i64 num,ag .i64 0,ag .i64 0,af (.slice none 0 0),ak False]) from aa.agg (.cons (.refl _) (.cons (.refl _) (.cons (.refl _) (.cons (.refl _) (.cons (.refl _) (.cons (.refl _) (.cons (.refl _) (.cons lZ .nil))))))))))) rfl ?_
 refine .n (bV (.t rfl)) rfl fun WO _=> ?_
 refine Z7 ?_
 refine .n (cE (h:=Ay aq aT yp)) rfl fun tj PA=> ?_
 refine Z9 ?_
 refine Cd (fun c3=> ?_) fun c3=> ?_
 ·
  refine cJ ?_
  refine Post.aZ rfl rfl (tj.2.2) (by exact PA) (aB.dc [1,2,3,4] [0] rfl rfl) rfl (.cons (.rt rfl) ?_ (.cons (.rt rfl) ?_ (.cons (.rt rfl) ?_ .nil)))
  · exact .z
  · exact .z
  exact .z
 exact (c3 (by decide)).elim
theorem A1 {sb:Nat} {t:Int} {g:Nat} {mv:VP} (aq:i<m.ay.length) (aT:eg X a) (dh:g+8*(i+1)≤X.size) (fX:m.ay.length≤60000):cH Tryz.prog 32 [aJ sb 0,ag .i64 (i:Int)] (uU sb X pb m num (g:Int) t mv::sS X a) (γ:=Unit) (fun _=>True) (fun _=>uU sb X pb m num (g:Int) t mv::sS X a) (fun _=>bz [ag .u64 (BZ ((a.bytes.drop (g+8*i)).take 8):Int),ag .i64 0]):=by
 refine In 29 Tryz.func32 fun _ _ _=> ?_
 have hmo:=aT.most
 refine dH ?_
 refine .p (GW (.t rfl)) rfl ?_
 refine .n ((cE (h:=xm (sb:=sb) (X:=X) (pb:=pb) (m:=m) (num:=num) (g:=(g:Int)) (t:=t) (mv:=mv) (i:=(i:Int)) (by omega) (by omega))).same (fun _ _=>aB.refl _) (fun _ _=>aa.refl _)) rfl fun _ _=> ?_
 refine Z9 ?_
 refine Cd (fun c0=> ?_) fun c0=> ?_
 · exact absurd rfl c0
 refine Z3 ?_
 refine .bG [(0,0),(1,0),(2,0),(3,1),(4,0),(5,0),(6,0),(7,1),(8,0),(9,0),(10,0),(11,4),(12,0),(13,0)] 14 2 FM.out (by kernel_rfl) (k:= ?_)
 refine cJ ?_
 refine .p rfl (fun _=>(eX (.t rfl) (.t rfl) de).le (aa.int (show _=((g+8*i:Nat):Int) by omega))) ?_
 refine .a rfl ((o7 [_] [1,2,0] (h:=IJ (at_:=g+8*i) (w:=8) aT (by omega) (.inl rfl))).same (fun _ _=>aB.perm (Perm.idx [2,0,1] rfl rfl)) (fun _ _=>aa.refl _)) (fun _ _=>aB.refl _) fun _ _=> ?_
 refine Z2 ?_
 refine .fin ?_
 refine Z5 ?_
 refine jr ?_ ?_
 · exact .z
 exact .z
theorem Jx {Y:yd} {sb z q n:Nat} {a0:eO} (aq:Pf Y a0 a0 (aR z) 0) (aT:0<n) (dh:n≤64) (fX:z≤1024) (ox:q≤4096) (yp:a0.height+n*aR z≤Y.size):cH Tryz.prog 18 [aJ Y.ab 0,aJ sb 0,bf (n:Int)] (cS sb ⟨z,(q:Int),0,0,-1,false,[]⟩::dS Y a0) (γ:=od×eO) (fun g=>g.1.Y=Y∧g.1.sb=sb∧g.1.n=n∧g.1.lo=a0.height∧g.1.hi=a0.height+n*aR z∧Pf Y a0 g.2 (aR z) n∧z9 g.1 z q K0 ⟨Ij a0.height (aR z) n,0,[],[],0,false⟩ g.2 ⟨z,(q:Int),0,0,-1,false,[]⟩ (y7 z) 0) (fun g=>qN g.1 ⟨Ij a0.height (aR z) n,0,[],[],0,false⟩ g.2 ⟨z,(q:Int),0,0,-1,false,[]⟩) (fun g=>bz [aJ g.1.pb 0,bf 0]):=by
 refine In 58 Tryz.func18 fun _ _ _=> ?_
 refine dw ?_
 refine .p (cm FU.out (.t rfl)) rfl ?_
 refine Z2 ?_
 refine .g (cr.gF rfl rfl rfl rfl (fun hg=>cm FU.out (.when (.t rfl) hg))) rfl rfl ?_
 refine Z4 ?_
 refine Cd (fun c0=> ?_) fun c0=> ?_
 · exact (show False by simp at c0).elim
 refine dw ?_
 refine Cd (fun c1=> ?_) fun c1=> ?_
 · exfalso;omega
 refine Z7 ?_
 refine .n (sI yS bf) rfl fun Y7 _=> ?_
 refine .n (sI yS bf) rfl fun Y8 _=> ?_
 refine Z1 ?_
 refine .n (bV (.t rfl)) rfl fun b30 _=> ?_
 refine Z3 ?_
 refine .own (K3 (n:=6) (enc:=qX)) ?_
 refine .own (aB.perm (Perm.idx [1,0,2,3,4,5,6,7,8] rfl rfl)) ?_
 refine Z8 ?_
 refine .aY (σ:=SB×eO×Nat) (fun g=>aF b30 [aJ Y.ab 0,aJ sb 0,af (br g.1 (Ij a0.height (aR z) g.2.2).length),bf 0,af (.map (some Y7)),af (.map (some Y8)),bf 0,af (.bool false)]::av g.1 6 qX (Ij a0.height (aR z) g.2.2)::jb Y8 yS bf ([]:List (cW×Int))::jb Y7 yS bf ([]:List (cW×Int))::cS sb ⟨z,(q:Int),0,0,-1,false,[]⟩::dS Y g.2.1) (fun g=>[(32,bf (g.2.2:Int))]) (fun g=>Pf Y a0 g.2.1 (aR z) g.2.2∧g.2.2≤n) (fun g=>n-g.2.2) (none,a0,0) ⟨aq,Nat.zero_le _⟩ rfl ?_ ?_
 · exact (.get rfl (aa.refl _) (.refl _ _))
 rintro ⟨gb1,a1,j1⟩ ⟨TF,hj⟩
 simp only at TF hj ⊢
 refine Z6 ?_
 refine Cd (fun c2=> ?_) fun c2=> ?_
 ·
  have hj1:a0.height+(j1+1)*aR z≤Y.size:=Nat.le_trans (Nat.add_le_add_left (Nat.mul_le_mul_right _ (by omega)) _) yp
  refine Z8 ?_
  refine .n ((o7 [_,_,_,_,_,_,_,_] [4,0,1,2,3,5,6,7,8] (h:=rS (s:=⟨z,(q:Int),0,0,-1,false,[]⟩))).same (fun _ _=>aB.perm (Perm.idx [1,2,3,4,0,5,6,7,8] rfl rfl)) (fun _ _=>aa.refl _)) rfl fun _ _=> ?_
  refine .n (o7 [_,_,_,_,_] [5,6,7,8,0,1,2,3,4] (h:=mh (X:=Y) (a:=a1) (n:=z) TF.ok)) rfl fun ME NL=> ?_
  refine Z7 ?_
  obtain ⟨a2,at2,e2⟩:=ME
  obtain ⟨HK,TG,hA2⟩:=TF.take (n:=z) (by omega) hj1 NL
  simp only at HK TG hA2
  subst HK
  subst TG
  have hfl:=qy a0.height (aR z) j1
  refine Z7 ?_
  refine Cd (fun c3=> ?_) fun c3=> ?_
  · exact absurd rfl c3
  refine Z7 ?_
  refine .p (eR (i:=4) FA.out (.t rfl) rfl rfl) rfl ?_
  refine Z1 ?_
  refine .p ((aL FP.out FZ.out (.cons (.t rfl) .nil) rfl).le (aa.agg (.cons (aa.refl _) (.cons (.refl _) (.cons (.refl _) (.cons lZ (.cons lZ (.cons lZ .nil)))))))) rfl ?_
  refine .p (cB qX [(⟨a0.height+j1*aR z,(0,0),false,false,false⟩:Fr)]) rfl ?_
  refine .n (aH (i:=5) (xs:=Ij a0.height (aR z) j1) (ys:=[(⟨a0.height+j1*aR z,(0,0),false,false,false⟩:Fr)]) FU.out FU.out FC.out rfl FZ.out rfl FY.out (.t rfl) (.t rfl) rfl (by (simp only [qy,List.length_cons,List.length_nil];omega)) (by (simp only [qy,List.length_cons,List.length_nil];omega))) rfl fun Jp _=> ?_
  refine Z2 ?_
  refine .s (gQ (i:=4) FC.out (.t rfl) (.t rfl) rfl rfl) ?_
  refine Z7 ?_
  refine .own (aB.perm (Perm.idx [4,5,6,7,8,0,1,2,3] rfl rfl)) (bR.round (Jp,a2,j1+1) ⟨hA2,by (show j1+1≤n;omega)⟩ (by (show n-(j1+1)<n-j1;omega)) (by (simp only [K2];rfl)) ?_)
  exact (.get rfl (aa.int (by (show (j1:Int)+1=((j1+1:Nat):Int);omega))) ((.keep 26 rfl rfl)))
 have hjn:j1=n:=by omega
 subst hjn
 refine .jj 1 rfl (fun e=>by (have h9:=congrArg List.length e;rw [qy] at h9;simp at h9;omega)) fun fb cap hgb=> ?_
 subst hgb
 refine jN ?_
 refine Post.aZ rfl rfl ((⟨b30,sb,fb,cap,Y7,Y8,j1,a0.height,a0.height+j1*aR z,Y⟩,a1)) (by exact ⟨rfl,rfl,rfl,rfl,rfl,TF,No aT dh fX ox TF rfl rfl⟩) (aB.trans (aB.cells (.cons (.refl _) (.cons (.refl _) (.cons (aa.of_eq (by rw [qy])) (.cons (.refl _) (.cons (.refl _) (.cons (.refl _) (.cons (.refl _) (.cons lZ .nil))))))))) (aB.perm (Perm.idx [0,1,3,2,4,5,6,7,8] rfl rfl))) rfl (.cons (.rt rfl) ?_ (.cons (.rt rfl) ?_ .nil))
 · exact .z
 exact .z
theorem lJ {fr:Int}:cH Tryz.prog 12 [bf fr] [] (γ:=od) (fun _=>True) (fun X=>[iM X 64 4096 (fun _=>True) (y7 64) 0 J7]) (fun X=>aJ X.pb 0):=by
 refine In 28 Tryz.func12 fun _ _ _=> ?_
 have QF:aR 64=64:=by decide
 refine Z7 ?_
 refine .n (cE (h:=uk (n:=65536) (by decide))) rfl fun IQ h10=> ?_
 refine Z9 ?_
 refine .n (cE (h:=IL (n:=64) (cap:=4096) (by decide) (by decide) (by decide) (by decide))) rfl fun Po vI=> ?_
 refine jN ?_
 refine .p (Bx (.t rfl) (.c _)) rfl ?_
 refine .p ((eX (.c _) (.t rfl) de).le (aa.int (show _=(((1+min (max fr 0) 63).toNat:Nat):Int) by omega))) rfl ?_
 refine .n (cE (h:=Jx (Y:=IQ) (sb:=Po) (z:=64) (q:=4096) (n:=(1+min (max fr 0) 63).toNat) (a0:=⟨List.replicate 65536 0,0,0,[]⟩) (Nq h10 (by decide)) (by omega) (by omega) (by decide) (by decide) (by (show 0+(1+min (max fr 0) 63).toNat*aR 64≤_);rw [h10,QF];omega))) rfl fun LA DU=> ?_
 refine Z7 ?_
 obtain ⟨X24,a24⟩:=LA
 obtain ⟨hX,hX2,hX1,hlo,hhi,hAT,hInv⟩:=DU
 simp only at hX hX2 hX1 hlo hhi hAT hInv
 subst hX2
 refine .own (Nn hInv) ?_
 refine .own (Aa (T':=fun _=>True) fun _ _=>trivial) ?_
 refine Z7 ?_
 refine Post.aN rfl (X24) (by trivial) (fun _ _ _ h=>h) (.rt rfl) ?_
 exact .z
theorem tn:cQ Tryz.prog 8 [] (ak True):=by
 refine In 45 Tryz.func8 fun _ _ _=> ?_
 refine Z7 ?_
 refine .p ((aL FP.out FZ.out (.cons (.c _) (.cons (.c _) .nil)) rfl).le ((by exact show aa _ (aE (dZ ⟨127,False,5⟩)) from aa.agg (.cons (.refl _) (.cons lZ (.cons (.refl _) .nil)))))) rfl ?_
 refine .p ((aL FP.out FZ.out (.cons (.c _) (.cons (.c _) .nil)) rfl).le ((by exact show aa _ (aE (dZ ⟨126,False,6⟩)) from aa.agg (.cons (.refl _) (.cons lZ (.cons (.refl _) .nil)))))) rfl ?_
 refine .p (cB dZ [⟨127,False,5⟩,⟨126,False,6⟩]) rfl ?_
 refine .p ((aL FP.out FZ.out (.cons (.c _) (.cons (.c _) (.cons (.t rfl) .nil))) rfl).le ((by exact show aa _ (aE (bh jK)) from aa.agg (.cons (aD _ _) (.cons (aD _ _) (.cons (aD _ _) (.cons (.refl _) (.cons (aD _ _) (.cons (.refl _) (.cons (aD _ _) (.cons (.refl _) (.cons (aD _ _) (.cons (aD _ _) .nil))))))))))))) rfl ?_
 refine Z6 ?_
 refine .n (cE (h:=uk (n:=1000) (by decide))) rfl fun vc Bq=> ?_
 refine dw ?_
 refine .n (cE (h:=lJ (fr:=2))) rfl fun MH IP=> ?_
 refine .n (o7 [] [1,2,3,4,0] (h:=vg (a:=Kd 1000) (m:=jK) (num:=0) (mm:=0) (Co:=y7 64) (Fz Bq (by decide)) Hr Ob (by decide) Fy (by rw [Bq];exact De) (by decide) (by decide) (by decide))) rfl fun MI RN=> ?_
 refine Z9 ?_
 obtain ⟨b22,aY9,r22⟩:=MI
 obtain ⟨M1,R1⟩:=RN
 simp only at M1 R1
 have hr:=L3 R1
 subst hr
 refine Z3 ?_
 refine .n ((o7 [_,_,_,_] [1,2,3,0,4,5,6] (h:=A1 (m:=jK) (a:=Tk) (g:=0) (i:=1) (by decide) (AN (Fz Bq (by decide)) Hr (by rw [Bq];exact De) 0).1 (by rw [Bq];decide) (by decide))).same (fun _ _=>aB.perm (Perm.idx [3,0,1,2,4,5,6] rfl rfl)) (fun _ _=>aa.refl _)) rfl fun _ _=> ?_
 refine Z1 ?_
 refine .p ((lK (.t rfl) rfl).le (aa.int (show _=(6:Int) by rw [Nat.zero_add];exact congrArg Nat.cast Tl))) rfl ?_
 refine RE ?_
 refine bJ ?_
 exact aa.prop (by simp)
theorem yG {b:jm}:cQ Tryz.prog 76 [aE (gB b)] (ag .i64 (pX b)):=by
 refine In 39 Tryz.func76 fun _ _ _=> ?_
 refine .fact (t:=0) rfl (fun S w v h=>La h) fun hlen=> ?_
 have je:=hlen.locals
 have jB:=hlen.l
 refine XI ?_
 refine .aY (σ:=Nat) (fun _=>[]) (fun k=>[(4,ag .i64 (k:Int)),(3,ag .i64 (max ((b.aS.length:Int)-60) 0+max ((b.L.length:Int)-150) 0+jt (mP b.L ot) k))]) (fun k=>k≤b.L.length∧k≤150) (fun k=>b.L.length-k) 0 ⟨by omega,by omega⟩ rfl ?_ ?_
 · exact (.get rfl (aa.refl _) (.get rfl (aa.int (by simp [jt])) (.refl _ _)))
 rintro k ⟨hk,hk2⟩
 have hq:=jY (by omega) (ue hlen) k
 refine iw ?_
 refine Cd (fun c0=> ?_) fun c0=> ?_
 ·
  obtain ⟨x,hx⟩:=ai (xs:=b.L) (k:=k) (by omega)
  have hxl:=hlen.all k x hx
  refine Z9 ?_
  refine .p (cI _) rfl ?_
  refine mM ?_
  refine .round (k+1) ⟨by omega,by omega⟩ (by omega) rfl ?_
  exact (.get rfl (aa.int (by omega)) (.get rfl (aa.int (by rw [oq hx];unfold ot;omega)) (.keep 26 rfl rfl)))
 refine dH ?_
 refine bJ ?_
 exact aa.int (by unfold pX pW;rw [show min b.L.length 150=k by omega])
theorem Gc {x:aU}:cQ Tryz.prog 31 [aE (bh x)] (ag .i64 (ou x)):=by
 refine In 204 Tryz.func31 fun _ _ _=> ?_
 refine .fact (t:=0) rfl (fun S w v h=>pY h) fun hlen=> ?_
 have hall:=hlen
 obtain ⟨⟨J0,je,jB,kS,kU,kV,kW,kX⟩,⟨R2,hi1,hi2,RT,hi4⟩,NK⟩:=hlen
 have hb:=nI hall
 have hb0:=hb.n0
 obtain ⟨yc,MQ,Mb,hb4,hb5⟩:=w5 hb
 refine Z40 ?_
 refine RE ?_
 refine .aY (σ:=Nat) (fun _=>[]) (fun k0=>[(4,ag .i64 (k0:Int)),(3,ag .i64 (nc x+jt (mP x.bF EE) k0))]) (fun k0=>k0≤x.bF.length∧k0≤60) (fun k0=>x.bF.length-k0) 0 ⟨by omega,by omega⟩ rfl ?_ ?_
 · exact (.get rfl (aa.refl _) (.get rfl (aa.int (by simp only [jt];unfold nc;omega)) (.refl _ _)))
 rintro k0 ⟨Kc,hc0⟩
 have MA:=jY (by omega) hb.sig k0
 refine iw ?_
 refine Cd (fun c0=> ?_) fun c0=> ?_
 ·
  obtain ⟨y,hx⟩:=ai (xs:=x.bF) (k:=k0) (by omega)
  have hy1:=R2 k0 y hx
  refine Z4 ?_
  refine .bA 18 2 FM.out (by kernel_rfl) (k:= ?_)
  refine Z4 ?_
  refine .p (cI _) ?_
  refine Z6 ?_
  refine .p (cI _) ?_
  refine J3 ?_
  refine .round (k0+1) ⟨by omega,by omega⟩ (by omega) rfl ?_
  exact (.get rfl (aa.int (by omega)) (.get rfl (aa.int (by rw [oq hx];unfold EE;omega)) (.keep 34 rfl rfl)))
 refine dH ?_
 refine .aY (σ:=Nat) (fun _=>[]) (fun k1=>[(5,ag .i64 (k1:Int)),(3,ag .i64 (rI x+jt (mP x.aA EF) k1))]) (fun k1=>k1≤x.aA.length∧k1≤25) (fun k1=>x.aA.length-k1) 0 ⟨by omega,by omega⟩ rfl ?_ ?_
 · exact (.get rfl (aa.refl _) (.get rfl (aa.int (by simp only [jt];unfold rI pW;rw [show min x.bF.length 60=k0 by omega];omega)) (.refl _ _)))
 rintro k1 ⟨Bk,D0⟩
 have MZ:=jY (by omega) hb.imp k1
 refine iw ?_
 refine Cd (fun c1=> ?_) fun c1=> ?_
 ·
  obtain ⟨y,hx⟩:=ai (xs:=x.aA) (k:=k1) (by omega)
  have hy1:=hi1 k1 y hx
  refine Z4 ?_
  refine .bA 18 2 FM.out (by kernel_rfl) (k:= ?_)
  refine Z4 ?_
  refine .p (cI _) ?_
  refine Z6 ?_
  refine .p (cI _) ?_
  refine J3 ?_
  refine .round (k1+1) ⟨by omega,by omega⟩ (by omega) rfl ?_
  exact (.get rfl (aa.int (by omega)) (.get rfl (aa.int (by rw [oq hx];unfold EF;omega)) (.keep 34 rfl rfl)))
 refine dH ?_
 refine .aY (σ:=Nat) (fun _=>[]) (fun k2=>[(6,ag .i64 (k2:Int)),(3,ag .i64 (rJ x+jt (mP x.ax RJ) k2))]) (fun k2=>k2≤x.ax.length∧k2≤110) (fun k2=>x.ax.length-k2) 0 ⟨by omega,by omega⟩ rfl ?_ ?_
 · exact (.get rfl (aa.refl _) (.get rfl (aa.int (by simp only [jt];unfold rJ pW;rw [show min x.aA.length 25=k1 by omega];omega)) (.refl _ _)))
 rintro k2 ⟨hk2,OT⟩
 have M0:=jY (by omega) hb.fn k2
 refine iw ?_
 refine Cd (fun c2=> ?_) fun c2=> ?_
 ·
  obtain ⟨y,hx⟩:=ai (xs:=x.ax) (k:=k2) (by omega)
  have hy1:=hb.fn k2 y hx
  unfold RJ at hy1
  refine Z9 ?_
  refine .p (cI _) rfl ?_
  refine Z2 ?_
  refine .p (cA (h:=yG)) rfl ?_
  refine cJ ?_
  refine .round (k2+1) ⟨by omega,by omega⟩ (by omega) rfl ?_
  exact (.get rfl (aa.int (by omega)) (.get rfl (aa.int (by rw [oq hx];unfold RJ;omega)) (.keep 24 rfl rfl)))
 refine dH ?_
 refine .aY (σ:=Nat) (fun _=>[]) (fun k3=>[(7,ag .i64 (k3:Int)),(3,ag .i64 (rK x+jt (mP x.bD EG) k3))]) (fun k3=>k3≤x.bD.length∧k3≤60) (fun k3=>x.bD.length-k3) 0 ⟨by omega,by omega⟩ rfl ?_ ?_
 · exact (.get rfl (aa.refl _) (.get rfl (aa.int (by simp only [jt];unfold rK pW;rw [show min x.ax.length 110=k2 by omega];omega)) (.refl _ _)))
 rintro k3 ⟨EK,WS⟩
 have hq3:=jY (by omega) hb.exp k3
 refine iw ?_
 refine Cd (fun c3=> ?_) fun c3=> ?_
 ·
  obtain ⟨y,hx⟩:=ai (xs:=x.bD) (k:=k3) (by omega)
  have hy1:=hi2 k3 y hx
  refine Z9 ?_
  refine .p (cI _) rfl ?_
  refine mM ?_
  refine .round (k3+1) ⟨by omega,by omega⟩ (by omega) rfl ?_
  exact (.get rfl (aa.int (by omega)) (.get rfl (aa.int (by rw [oq hx];unfold EG;omega)) (.keep 26 rfl rfl)))
 refine dH ?_
 refine .aY (σ:=Nat) (fun _=>[]) (fun k4=>[(8,ag .i64 (k4:Int)),(3,ag .i64 (rL x+jt (mP x.bY w4) k4))]) (fun k4=>k4≤x.bY.length∧k4≤25) (fun k4=>x.bY.length-k4) 0 ⟨by omega,by omega⟩ rfl ?_ ?_
 · exact (.get rfl (aa.refl _) (.get rfl (aa.int (by simp only [jt];unfold rL pW;rw [show min x.bD.length 60=k3 by omega];omega)) (.refl _ _)))
 rintro k4 ⟨Bl,hc4⟩
 have hq4:=jY (by omega) hb.elem k4
 refine iw ?_
 refine Cd (fun c4=> ?_) fun c4=> ?_
 ·
  obtain ⟨y,hx⟩:=ai (xs:=x.bY) (k:=k4) (by omega)
  have hy1:=RT k4 y hx
  refine Z9 ?_
  refine .p (cI _) rfl ?_
  refine mM ?_
  refine .round (k4+1) ⟨by omega,by omega⟩ (by omega) rfl ?_
  exact (.get rfl (aa.int (by omega)) (.get rfl (aa.int (by rw [oq hx];unfold w4;omega)) (.keep 26 rfl rfl)))
 refine dH ?_
 refine .aY (σ:=Nat) (fun _=>[]) (fun k5=>[(9,ag .i64 (k5:Int)),(3,ag .i64 (rM x+jt (mP x.bK uT) k5))]) (fun k5=>k5≤x.bK.length∧k5≤25) (fun k5=>x.bK.length-k5) 0 ⟨by omega,by omega⟩ rfl ?_ ?_
 · exact (.get rfl (aa.refl _) (.get rfl (aa.int (by simp only [jt];unfold rM pW;rw [show min x.bY.length 25=k4 by omega];omega)) (.refl _ _)))
 rintro k5 ⟨QC,hc5⟩
 have hq5:=jY (by omega) hb.data k5
 refine iw ?_
 refine Cd (fun c5=> ?_) fun c5=> ?_
 ·
  obtain ⟨y,hx⟩:=ai (xs:=x.bK) (k:=k5) (by omega)
  have hy1:=hi4 k5 y hx
  refine Z9 ?_
  refine .p (cI _) rfl ?_
  refine mM ?_
  refine .round (k5+1) ⟨by omega,by omega⟩ (by omega) rfl ?_
  exact (.get rfl (aa.int (by omega)) (.get rfl (aa.int (by rw [oq hx];unfold uT;omega)) (.keep 26 rfl rfl)))
 refine dH ?_
 refine bJ ?_
 exact aa.int (by unfold ou pW;rw [show min x.bK.length 25=k5 by omega])
theorem sj {l:List UInt8} (aq:l.length≤65536):cQ Tryz.prog 33 [ah 1 aj l] (ah 1 aj l):=by
 refine In 19 Tryz.func33 fun _ _ _=> ?_
 refine J3 ?_
 refine .dQ 1 aj ?_
 refine .aY (σ:=Nat×SB) (fun s=>[av s.2 1 aj (l.take s.1)]) (fun s=>[(3,af (br s.2 (l.take s.1).length)),(4,ag .i64 (s.1:Int))]) (fun s=>s.1≤l.length) (fun s=>l.length-s.1) (0,none) (by simp) (by simp) ?_ ?_
 · exact (.get rfl (aa.of_eq (by simp [br])) (.get rfl (aa.refl _) (.refl _ _)))
 rintro s hk
 refine Z9 ?_
 refine Cd (fun c0=> ?_) fun c0=> ?_
 ·
  obtain ⟨x,hx⟩:=ai (xs:=l) (k:=s.1) (by omega)
  refine Z8 ?_
  refine .p (cI _) rfl ?_
  refine Z1 ?_
  refine .p (cB aj [_]) rfl ?_
  refine .n (aH (i:=0) FU.out FU.out FC.out rfl FZ.out rfl FY.out (.t rfl) (.t rfl) rfl (by first|omega|(simp<;>omega)) (by first|omega|(simp<;>omega))) rfl fun G4 _=> ?_
  refine Z9 ?_
  refine .round (s.1+1,G4) (by omega) (by omega) (by simp only [bt hx];rfl) ?_
  exact (.get rfl (aa.of_eq (by simp only [bt hx])) (.get rfl (aa.int (by omega)) (.keep 17 rfl rfl)))
 have hall:l.take s.1=l:=List.take_of_length_le (by omega)
 rw [hall]
 refine .fu (n:=1) (enc:=aj) (i:=0) (t:=3) rfl rfl ?_
 refine dH ?_
 refine bJ ?_
 exact .z
theorem Gd {x:au} (aq:x.L.length≤65536):cQ Tryz.prog 108 [aE (aG x)] (aE (aG x)):=by
 refine In 16 Tryz.func108 fun _ _ _=> ?_
 refine Z3 ?_
 refine .n (az FZ.out) rfl fun b2 _=> ?_
 refine Z3 ?_
 refine .bA 12 2 FM.out (by kernel_rfl) (k:= ?_)
 refine Z8 ?_
 refine .p (lB FU.out FC.out rfl FZ.out rfl) ?_
 refine Z2 ?_
 refine .p (tO FU.out FU.out FC.out rfl FZ.out rfl FY.out (.t rfl) (.t rfl) (by omega)) ?_
 refine Z6 ?_
 refine Post.aN rfl () trivial (fun _ _ _ _=>trivial) (.ra (i:=0) FA.out FC.out rfl rfl rfl rfl) ?_
 exact .z
theorem A2 {l:List au} (aq:l.length≤65536) (aT:∀x∈l,x.L.length≤65536):cQ Tryz.prog 77 [ah 5 aG l] (ah 5 aG l):=by
 refine In 20 Tryz.func77 fun _ _ _=> ?_
 refine J3 ?_
 refine .dQ 5 aG ?_
 refine .aY (σ:=Nat×SB) (fun s=>[av s.2 5 aG (l.take s.1)]) (fun s=>[(3,af (br s.2 (l.take s.1).length)),(4,ag .i64 (s.1:Int))]) (fun s=>s.1≤l.length) (fun s=>l.length-s.1) (0,none) (by simp) (by simp) ?_ ?_
 · exact (.get rfl (aa.of_eq (by simp [br])) (.get rfl (aa.refl _) (.refl _ _)))
 rintro s hk
 refine Z9 ?_
 refine Cd (fun c0=> ?_) fun c0=> ?_
 ·
  obtain ⟨x,hx⟩:=ai (xs:=l) (k:=s.1) (by omega)
  have hxl:=aT x (List.mem_of_getElem? hx)
  refine Z8 ?_
  refine .p (cI _) rfl ?_
  refine Z1 ?_
  refine .p (cA (h:=Gd (by first|assumption|omega))) rfl ?_
  refine .p (cB aG [_]) rfl ?_
  refine .n (aH (i:=0) FU.out FU.out FC.out rfl FZ.out rfl FY.out (.t rfl) (.t rfl) rfl (by first|omega|(simp<;>omega)) (by first|omega|(simp<;>omega))) rfl fun xo _=> ?_
  refine Z9 ?_
  refine .round (s.1+1,xo) (by omega) (by omega) (by simp only [bt hx];rfl) ?_
  exact (.get rfl (aa.of_eq (by simp only [bt hx])) (.get rfl (aa.int (by omega)) (.keep 18 rfl rfl)))
 have hall:l.take s.1=l:=List.take_of_length_le (by omega)
 rw [hall]
 refine .fu (n:=5) (enc:=aG) (i:=0) (t:=3) rfl rfl ?_
 refine dH ?_
 refine bJ ?_
 exact .z
theorem Ge {b:jm} (aq:Ez b):cQ Tryz.prog 34 [aE (gB b)] (aE (gB b)):=by
 refine In 10 Tryz.func34 fun _ _ _=> ?_
 refine Z3 ?_
 refine .n (az FZ.out) rfl fun b2 _=> ?_
 refine Z3 ?_
 refine .bA 5 3 FM.out (by kernel_rfl) (k:= ?_)
 refine Z2 ?_
 refine .p (cA (h:=sj (by have:=aq.locals;omega))) ?_
 refine Z3 ?_
 refine .p (cA (h:=A2 (by have:=aq.l;omega) (fun x hx=>by have:=aq.all x hx;omega))) rfl ?_
 refine Z5 ?_
 refine Post.aN rfl () trivial (fun _ _ _ _=>trivial) (.ra (i:=0) FA.out FC.out rfl rfl rfl rfl) ?_
 exact .z
theorem Gf {x:aU} (aq:wY x):cQ Tryz.prog 10 [aE (bh x)] (cg (bh x)):=by
 refine In 86 Tryz.func10 fun _ _ _=> ?_
 have D0:=aq.sigs
 have OT:=aq.funcs
 refine RE ?_
 refine .n (bV (.t rfl)) rfl fun b23 _=> ?_
 refine cJ ?_
 refine .dQ 2 cj ?_
 refine .aY (σ:=Nat×SB) (fun s=>[av s.2 2 cj (x.bF.take s.1),aF b23 (GS x (af (br s.2 (x.bF.take s.1).length)) (af (.slice none 0 0)))]) (fun s=>[(4,ag .i64 (s.1:Int))]) (fun s=>s.1≤x.bF.length) (fun s=>x.bF.length-s.1) (0,none) (by simp) rfl ?_ ?_
 · exact (.get rfl (aa.refl _) (.refl _ _))
 rintro s hk
 refine cJ ?_
 refine Cd (fun c0=> ?_) fun c0=> ?_
 ·
  obtain ⟨y,hx⟩:=ai (xs:=x.bF) (k:=s.1) (by omega)
  refine Z4 ?_
  refine .bG [(0,0),(1,0),(2,0),(3,0),(4,1),(5,0),(6,0),(7,0),(8,0),(9,0),(10,0),(11,0),(12,0),(13,0),(14,0),(15,0),(16,0),(17,0),(18,0),(19,0),(20,0),(21,2)] 22 3 FM.out (by kernel_rfl) (k:= ?_)
  refine Z8 ?_
  refine .p rfl (fun _=>aP FU.out FC.out rfl (.t rfl) (.t rfl) rfl (by assumption)) ?_
  refine Z2 ?_
  refine .p rfl (fun _=>bT (sj (by have:=aq.sig y (List.mem_of_getElem? hx);omega)) FB.out (.cons (.t rfl) .nil)) ?_
  refine Z3 ?_
  refine .p rfl (fun _=>aP FU.out FC.out rfl (.t rfl) (.t rfl) rfl (by assumption)) ?_
  refine Z2 ?_
  refine .p rfl (fun _=>bT (sj (by have:=aq.sig y (List.mem_of_getElem? hx);omega)) FB.out (.cons (.t rfl) .nil)) ?_
  refine Z1 ?_
  refine .p rfl (fun _=>bu (enc:=cj) [y] FU.out FC.out rfl FZ.out rfl (.cons (.t rfl) .nil) rfl rfl rfl rfl rfl) ?_
  refine .e rfl (aH (i:=0) FU.out FU.out FC.out rfl FZ.out rfl FY.out (.t rfl) (.t rfl) rfl (by first|omega|(simp<;>omega)) (by first|omega|(simp<;>omega))) fun Dv _=> ?_
  refine .fin ?_
  refine dw ?_
  refine .round (s.1+1,Dv) (by omega) (by omega) (by simp only [bt hx];rfl) ?_
  exact (.get rfl (aa.int (by omega)) (.keep 33 rfl rfl))
 have hall:x.bF.take s.1=x.bF:=List.take_of_length_le (by omega)
 rw [hall]
 refine .iB (n:=2) (enc:=cj) (i:=0) (j:=0) (f:=0) rfl rfl rfl ?_
 refine dH ?_
 refine .dQ 3 iD ?_
 refine .aY (σ:=Nat×SB) (fun s=>[av s.2 3 iD (x.ax.take s.1),aF b23 (GS x (ah 2 cj x.bF) (af (br s.2 (x.ax.take s.1).length)))]) (fun s=>[(5,ag .i64 (s.1:Int))]) (fun s=>s.1≤x.ax.length) (fun s=>x.ax.length-s.1) (0,none) (by simp) rfl ?_ ?_
 · exact (.get rfl (aa.refl _) (.refl _ _))
 rintro s hk
 refine cJ ?_
 refine Cd (fun c1=> ?_) fun c1=> ?_
 ·
  obtain ⟨y,hx⟩:=ai (xs:=x.ax) (k:=s.1) (by omega)
  refine Z4 ?_
  refine .bG [(0,0),(1,0),(2,0),(3,0),(4,1),(5,0),(6,0),(7,0),(8,0),(9,0),(10,0),(11,0),(12,0),(13,0),(14,0),(15,0),(16,0),(17,0),(18,0),(19,0),(20,2)] 21 3 FM.out (by kernel_rfl) (k:= ?_)
  refine Z8 ?_
  refine .p rfl (fun _=>aP FU.out FC.out rfl (.t rfl) (.t rfl) rfl (by assumption)) ?_
  refine Z5 ?_
  refine .p rfl (fun _=>aP FU.out FC.out rfl (.t rfl) (.t rfl) rfl (by assumption)) ?_
  refine Z2 ?_
  refine .p rfl (fun _=>bT (Ge (aq.fn y (List.mem_of_getElem? hx))) FB.out (.cons (.t rfl) .nil)) ?_
  refine Z1 ?_
  refine .p rfl (fun _=>bu (enc:=iD) [y] FU.out FC.out rfl FZ.out rfl (.cons (.t rfl) .nil) rfl rfl rfl rfl rfl) ?_
  refine .e rfl (aH (i:=0) FU.out FU.out FC.out rfl FZ.out rfl FY.out (.t rfl) (.t rfl) rfl (by first|omega|(simp<;>omega)) (by first|omega|(simp<;>omega))) fun R3 _=> ?_
  refine .fin ?_
  refine dw ?_
  refine .round (s.1+1,R3) (by omega) (by omega) (by simp only [bt hx];rfl) ?_
  exact (.get rfl (aa.int (by omega)) (.keep 32 rfl rfl))
 have hall:x.ax.take s.1=x.ax:=List.take_of_length_le (by omega)
 rw [hall]
 refine .iB (n:=3) (enc:=iD) (i:=0) (j:=0) (f:=2) rfl rfl rfl ?_
 refine .share (t:=3) (i:=0) rfl rfl ?_
 refine dH ?_
 refine bJ ?_
 exact .z
end Go.Proofs.YtpfobikpggmleaaGreatDoor
end
