/-
  What the statement's proof leans on, several texts in one (packed by a program).
-/
import Derived.Test.YtpfobikpggmleaaGreatDoorSAM
set_option linter.all false
set_option maxRecDepth 1000000
set_option maxHeartbeats 4000000
section
namespace Go.Proofs.YtpfobikpggmleaaGreatDoor
open Go.Hl Go.RowKit
theorem nO {n m:Int}:cW Tryz.prog 193 [ag .i64 n,ag .i64 m] (aq (jt n m)):=by
 refine In 12 Tryz.func193 fun _ _ _=> ?_
 refine AU ?_
 refine bL ?_
 exact .z
theorem mh {n m:Int}:cW Tryz.prog 84 [ag .i64 n,ag .i64 m] (aq (jt n m)):=by
 refine In 12 Tryz.func84 fun _ _ _=> ?_
 refine AU ?_
 refine bL ?_
 exact .z
theorem iB {p:Prop} {e:Int}:cW Tryz.prog 189 [aq p,ag .i64 e] (ag .i64 (ki p e)):=by
 refine In 7 Tryz.func189 fun _ _ _=> ?_
 refine cT ?_
 refine Cd (fun c0=> ?_) fun c0=> ?_
 ·
  refine Z8 ?_
  refine bL ?_
  exact af.int (by simp [ki, *])
 refine Z8 ?_
 refine bL ?_
 exact af.int (by simp [ki, *])
theorem sU {t:UInt8}:cW Tryz.prog 49 [ag .u8 (t.toNat:Int)] (ag .i64 (gE t)):=by
 refine In 8 Tryz.func49 fun _ _ _=> ?_
 refine AU ?_
 refine Cd (fun c0=> ?_) fun c0=> ?_
 ·
  refine Z8 ?_
  refine bL ?_
  exact af.int (by simp [gE, *])
 refine Z6 ?_
 refine Cd (fun c1=> ?_) fun c1=> ?_
 ·
  refine Z8 ?_
  refine bL ?_
  exact af.int (by simp [gE, *])
 refine Z9 ?_
 refine bL ?_
 exact af.int (by simp [gE, *])
theorem LO {t:UInt8}:cW Tryz.prog 239 [ag .u8 (t.toNat:Int)] (aq (gE t=0)):=by
 refine In 6 Tryz.func239 fun _ _ _=> ?_
 refine Z8 ?_
 refine .p (cA (h:=sU)) rfl ?_
 refine Z5 ?_
 refine bL ?_
 exact .z
variable {l:List UInt8}
theorem C5 {p:UInt8→Prop}:cW Tryz.prog 258 [ai 1 aj l,o9 Tryz.prog (fun _:UInt8=>True) (fun x=>[ag .u8 (x.toNat:Int)]) (fun x=>aq (p x))] (ag .i64 (nC p l)):=by
 refine In 19 Tryz.func258 fun _ _ _=> ?_
 refine .fact (t:=0) rfl (fun S w v h=>bM h) fun hlen=> ?_
 refine iW ?_
 refine .aT (σ:=Nat) (fun _=>[]) (fun k=>[(8,ag .i64 (k:Int))]) (fun k=>k≤l.length∧cN p l k) (fun k=>l.length-k) 0 ⟨by omega,cN.zero p l⟩ rfl ?_ ?_
 · exact (.get rfl (af.refl _) (.refl _ _))
 rintro k ⟨hk,hnot⟩
 refine Z6 ?_
 refine Cd (fun c0=> ?_) fun c0=> ?_
 ·
  obtain ⟨x,hx⟩:=ah (xs:=l) (k:=k) (by omega)
  refine nZ ?_
  refine .p (cI _) rfl ?_
  refine Z1 ?_
  refine .p (cV x) rfl ?_
  refine Z2 ?_
  refine Cd (fun c1=> ?_) fun c1=> ?_
  ·
   refine dM ?_
   refine bL ?_
   exact af.int (qu hx (by assumption) hnot).symm
  refine Z7 ?_
  refine .round (k+1) ⟨by omega,hnot.succ hx (by assumption)⟩ (by omega) rfl ?_
  exact (.get rfl (af.int (by omega)) (.keep 12 rfl rfl))
 refine cT ?_
 refine bL ?_
 exact af.int (nh (hnot.all (by omega))).symm
theorem vj {p:UInt8→Prop}:cW Tryz.prog 238 [ai 1 aj l,o9 Tryz.prog (fun _:UInt8=>True) (fun x=>[ag .u8 (x.toNat:Int)]) (fun x=>aq (p x))] (aq (∃x∈l,p x)):=by
 refine In 9 Tryz.func238 fun _ _ _=> ?_
 refine Z9 ?_
 refine .p (cA (h:=C5)) rfl ?_
 refine Z5 ?_
 refine bL ?_
 exact af.prop je
theorem E5 {l:List Int} {p:Int→Prop}:cW Tryz.prog 225 [ai 1 dJ l,o9 Tryz.prog (fun _:Int=>True) (fun x=>[ag .i64 x]) (fun x=>aq (p x))] (ag .i64 (nC p l)):=by
 refine In 19 Tryz.func225 fun _ _ _=> ?_
 refine .fact (t:=0) rfl (fun S w v h=>bM h) fun hlen=> ?_
 refine iW ?_
 refine .aT (σ:=Nat) (fun _=>[]) (fun k=>[(8,ag .i64 (k:Int))]) (fun k=>k≤l.length∧cN p l k) (fun k=>l.length-k) 0 ⟨by omega,cN.zero p l⟩ rfl ?_ ?_
 · exact (.get rfl (af.refl _) (.refl _ _))
 rintro k ⟨hk,hnot⟩
 refine Z6 ?_
 refine Cd (fun c0=> ?_) fun c0=> ?_
 ·
  obtain ⟨x,hx⟩:=ah (xs:=l) (k:=k) (by omega)
  refine nZ ?_
  refine .p (cI _) rfl ?_
  refine Z1 ?_
  refine .p (cV x) rfl ?_
  refine Z2 ?_
  refine Cd (fun c1=> ?_) fun c1=> ?_
  ·
   refine dM ?_
   refine bL ?_
   exact af.int (qu hx (by assumption) hnot).symm
  refine Z7 ?_
  refine .round (k+1) ⟨by omega,hnot.succ hx (by assumption)⟩ (by omega) rfl ?_
  exact (.get rfl (af.int (by omega)) (.keep 12 rfl rfl))
 refine cT ?_
 refine bL ?_
 exact af.int (nh (hnot.all (by omega))).symm
theorem E6 {l:List Int} {p:Int→Prop}:cW Tryz.prog 206 [ai 1 dJ l,o9 Tryz.prog (fun _:Int=>True) (fun x=>[ag .i64 x]) (fun x=>aq (p x))] (aq (∃x∈l,p x)):=by
 refine In 9 Tryz.func206 fun _ _ _=> ?_
 refine Z9 ?_
 refine .p (cA (h:=E5)) rfl ?_
 refine Z5 ?_
 refine bL ?_
 exact af.prop je
theorem zQ {l:List dW} {p:dW→Prop}:cW Tryz.prog 223 [ai 3 dZ l,o9 Tryz.prog (fun _:dW=>True) (fun x=>[aC (dZ x)]) (fun x=>aq (p x))] (ag .i64 (nC p l)):=by
 refine In 19 Tryz.func223 fun _ _ _=> ?_
 refine .fact (t:=0) rfl (fun S w v h=>bM h) fun hlen=> ?_
 refine iW ?_
 refine .aT (σ:=Nat) (fun _=>[]) (fun k=>[(8,ag .i64 (k:Int))]) (fun k=>k≤l.length∧cN p l k) (fun k=>l.length-k) 0 ⟨by omega,cN.zero p l⟩ rfl ?_ ?_
 · exact (.get rfl (af.refl _) (.refl _ _))
 rintro k ⟨hk,hnot⟩
 refine Z6 ?_
 refine Cd (fun c0=> ?_) fun c0=> ?_
 ·
  obtain ⟨x,hx⟩:=ah (xs:=l) (k:=k) (by omega)
  refine nZ ?_
  refine .p (cI _) rfl ?_
  refine Z1 ?_
  refine .p (cV x) rfl ?_
  refine Z2 ?_
  refine Cd (fun c1=> ?_) fun c1=> ?_
  ·
   refine dM ?_
   refine bL ?_
   exact af.int (qu hx (by assumption) hnot).symm
  refine Z7 ?_
  refine .round (k+1) ⟨by omega,hnot.succ hx (by assumption)⟩ (by omega) rfl ?_
  exact (.get rfl (af.int (by omega)) (.keep 12 rfl rfl))
 refine cT ?_
 refine bL ?_
 exact af.int (nh (hnot.all (by omega))).symm
theorem zR {l:List dW} {p:dW→Prop}:cW Tryz.prog 202 [ai 3 dZ l,o9 Tryz.prog (fun _:dW=>True) (fun x=>[aC (dZ x)]) (fun x=>aq (p x))] (aq (∃x∈l,p x)):=by
 refine In 9 Tryz.func202 fun _ _ _=> ?_
 refine Z9 ?_
 refine .p (cA (h:=zQ)) rfl ?_
 refine Z5 ?_
 refine bL ?_
 exact af.prop je
theorem E7:cW Tryz.prog 222 [ai 1 aj l] (aq (kV l)):=by
 refine In 11 Tryz.func222 fun _ _ _=> ?_
 refine dM ?_
 refine .g (cm.gT rfl rfl rfl rfl (fun hg=>bQ (vj) FB.out (.cons (.when (.t rfl) hg) (.cons (.le (.f _) (uJ FB.out (fun (b:UInt8) (_:True)=>LO (t:=b)))) .nil)))) rfl rfl ?_
 refine Z6 ?_
 refine bL ?_
 exact af.prop Lz
theorem H9 {s:oa}:cW Tryz.prog 190 [aC (cu s)] (aq (CQ s)):=by
 refine In 11 Tryz.func190 fun _ _ _=> ?_
 refine cK ?_
 refine .p (cA (h:=E7)) rfl ?_
 refine Z3 ?_
 refine .g (cm.gT rfl rfl rfl rfl (fun hg=>bQ (E7) FB.out (.cons (.when (.t rfl) hg) .nil))) rfl rfl ?_
 refine Z5 ?_
 refine bL ?_
 exact .z
theorem E8 {l:eo} {most:Int}:cW Tryz.prog 198 [aC (eY l),ag .i64 most] (aq (CP l most)):=by
 refine In 32 Tryz.func198 fun _ _ _=> ?_
 refine Z39 ?_
 refine bL ?_
 exact af.prop (by unfold CP;constructor<;>(intro h;omega))
theorem ue:cW Tryz.prog 192 [cZ l] (aq (jf l)):=by
 refine In 27 Tryz.func192 fun _ _ _=> ?_
 refine .fact (t:=0) rfl (fun S w v h=>ig h) fun hlen=> ?_
 refine iW ?_
 refine .aT (σ:=Nat) (fun _=>[]) (fun k=>[(6,ag .i64 (k:Int))]) (fun k=>k≤l.length∧cN (fun b:UInt8=>(b.toNat:Int)<33∨126<(b.toNat:Int)) l k) (fun k=>l.length-k) 0 ⟨by omega,cN.zero _ l⟩ rfl ?_ ?_
 · exact (.get rfl (af.refl _) (.refl _ _))
 rintro k ⟨hk,hnot⟩
 refine Z6 ?_
 refine Cd (fun c0=> ?_) fun c0=> ?_
 ·
  obtain ⟨x,hx⟩:=ah (xs:=l) (k:=k) (by omega)
  refine iW ?_
  refine .p (jO FU.out (.t rfl) (.t rfl) rfl (by assumption)) rfl ?_
  refine Z4 ?_
  refine .g (cm.gF rfl rfl rfl rfl (fun hg=>jO FU.out (.when (.t rfl) hg) (.when (.t rfl) hg) rfl (by assumption))) rfl rfl ?_
  refine Z4 ?_
  refine Cd (fun c1=> ?_) fun c1=> ?_
  ·
   refine cT ?_
   refine bL ?_
   exact af.prop (BL hx (by assumption)).symm
  refine Z7 ?_
  refine .round (k+1) ⟨by omega,hnot.succ hx (by assumption)⟩ (by omega) rfl ?_
  exact (.get rfl (af.int (by omega)) (.keep 16 rfl rfl))
 refine Z8 ?_
 refine .p (NF (.t rfl) (.s [] rfl rfl)) rfl ?_
 refine Z9 ?_
 refine bL ?_
 exact af.prop (BM (hnot.all (by omega)))
theorem sj:cW Tryz.prog 83 [cZ l] (aq (jf l)):=by
 refine In 28 Tryz.func83 fun _ _ _=> ?_
 refine .fact (t:=0) rfl (fun S w v h=>ig h) fun hlen=> ?_
 refine dM ?_
 refine .aT (σ:=Nat) (fun _=>[]) (fun k=>[(3,ag .i64 (k:Int))]) (fun k=>k≤l.length∧cN (fun b:UInt8=>(b.toNat:Int)<33∨126<(b.toNat:Int)) l k) (fun k=>l.length-k) 0 ⟨by omega,cN.zero _ l⟩ rfl ?_ ?_
 · exact (.get rfl (af.refl _) (.refl _ _))
 rintro k ⟨hk,hnot⟩
 refine Z9 ?_
 refine Cd (fun c0=> ?_) fun c0=> ?_
 ·
  obtain ⟨x,hx⟩:=ah (xs:=l) (k:=k) (by omega)
  refine Z8 ?_
  refine .p (jO FU.out (.t rfl) (.t rfl) rfl (by assumption)) rfl ?_
  refine Z4 ?_
  refine .g (cm.gF rfl rfl rfl rfl (fun hg=>jO FU.out (.when (.t rfl) hg) (.when (.t rfl) hg) rfl (by assumption))) rfl rfl ?_
  refine Z4 ?_
  refine Cd (fun c1=> ?_) fun c1=> ?_
  ·
   refine cT ?_
   refine bL ?_
   exact af.prop (BL hx (by assumption)).symm
  refine Z8 ?_
  refine .round (k+1) ⟨by omega,hnot.succ hx (by assumption)⟩ (by omega) rfl ?_
  exact (.get rfl (af.int (by omega)) (.keep 18 rfl rfl))
 refine EC ?_
 refine bL ?_
 exact af.prop (HJ (hnot.all (by omega)))
theorem zS:cW Tryz.prog 82 [ai 1 aj l] (aq (kV l)):=by
 refine In 25 Tryz.func82 fun _ _ _=> ?_
 refine .fact (t:=0) rfl (fun S w v h=>bM h) fun hlen=> ?_
 refine dM ?_
 refine .aT (σ:=Nat) (fun _=>[]) (fun k=>[(3,ag .i64 (k:Int))]) (fun k=>k≤l.length∧cN (fun b:UInt8=>(b.toNat:Int)≠126∧(b.toNat:Int)≠127) l k) (fun k=>l.length-k) 0 ⟨by omega,cN.zero _ l⟩ rfl ?_ ?_
 · exact (.get rfl (af.refl _) (.refl _ _))
 rintro k ⟨hk,hnot⟩
 refine Z9 ?_
 refine Cd (fun c0=> ?_) fun c0=> ?_
 ·
  obtain ⟨x,hx⟩:=ah (xs:=l) (k:=k) (by omega)
  refine Z8 ?_
  refine .p (cI _) rfl ?_
  refine Z5 ?_
  refine .g (cm.gT rfl rfl rfl rfl (fun hg=>aO FU.out FC.out rfl (.when (.t rfl) hg) (.when (.t rfl) hg) rfl (by assumption))) rfl rfl ?_
  refine Z5 ?_
  refine Cd (fun c1=> ?_) fun c1=> ?_
  ·
   refine cT ?_
   refine bL ?_
   exact af.prop (LB hx (by assumption)).symm
  refine Z8 ?_
  refine .round (k+1) ⟨by omega,hnot.succ hx (by assumption)⟩ (by omega) rfl ?_
  exact (.get rfl (af.int (by omega)) (.keep 20 rfl rfl))
 refine iW ?_
 refine bL ?_
 exact af.prop (HK (hnot.all (by omega)))
theorem zT {n:Nat} {g:Nat→Int} (av:n≤281474976710656):cW Tryz.prog 195 [ag .i64 (n:Int),o9 Tryz.prog (fun i:Nat=>i<n) (fun i=>[ag .i64 (i:Int)]) (fun i=>ag .i64 (g i))] (ag .i64 (gR g n)):=by
 refine In 18 Tryz.func195 fun _ _ _=> ?_
 refine lg ?_
 refine .aT (σ:=Nat) (fun _=>[]) (fun k=>[(8,ag .i64 (k:Int))]) (fun k=>k≤n∧gR g k=0) (fun k=>n-k) 0 ⟨by omega,rfl⟩ rfl ?_ ?_
 · exact (.get rfl (af.refl _) (.refl _ _))
 rintro k ⟨hk,hg⟩
 refine Z6 ?_
 refine Cd (fun c0=> ?_) fun c0=> ?_
 ·
  refine iW ?_
  refine .p (cV k (h:=by show k<n;omega)) rfl ?_
  refine Z9 ?_
  refine Cd (fun c1=> ?_) fun c1=> ?_
  ·
   refine dM ?_
   refine bL ?_
   exact af.int (Lj hg c1 (by omega)).symm
  refine Z7 ?_
  refine .round (k+1) ⟨by omega,by simp only [gR,hg];simpa using c1⟩ (by omega) rfl ?_
  exact (.get rfl (af.int (by omega)) (.keep 12 rfl rfl))
 refine cT ?_
 refine bL ?_
 exact af.int (by rw [show n=k by omega];exact hg.symm)
theorem lP {n:Nat} {most:Int} {g:Nat→Int} (av:n≤281474976710656):cW Tryz.prog 187 [ag .i64 (n:Int),ag .i64 most,o9 Tryz.prog (fun i:Nat=>i<n) (fun i=>[ag .i64 (i:Int)]) (fun i=>ag .i64 (g i))] (ag .i64 (oD n most g)):=by
 refine In 13 Tryz.func187 fun _ _ _=> ?_
 refine lg ?_
 refine Cd (fun c0=> ?_) fun c0=> ?_
 ·
  refine Z7 ?_
  refine bL ?_
  exact af.int (by simp [oD, *])
 refine Z6 ?_
 refine .p (cA (h:=zT (by first|assumption|omega))) rfl ?_
 refine Z4 ?_
 refine bL ?_
 exact af.int (by simp [oD, *])
variable {m:aR}
theorem qD:cW Tryz.prog 194 [cr (br m)] (ag .i64 (cG m)):=by
 refine In 16 Tryz.func194 fun _ _ _=> ?_
 refine .fact (t:=0) rfl (fun S w v h=>iM h) fun hl=> ?_
 have ko:=hl.sigs;have lp:=hl.imports;have mK:=hl.funcs;have mL:=hl.dR;have mM:=hl.globals;have mN:=hl.aY;have mO:=hl.elems;have nP:=hl.bU
 refine dM ?_
 refine Cd (fun c0=> ?_) fun c0=> ?_
 · exact c0.elim
 refine Z3 ?_
 refine .bx 10 2 FM.out (by kernel_rfl) (k:= ?_)
 refine D0 ?_
 refine bL ?_
 exact .z
variable {i:Nat}
theorem Ia (av:i<m.bR.length):cW Tryz.prog 188 [ag .i64 (i:Int),cr [cr (br m)]] (ag .i64 (oA m.bR Ly i)):=by
 refine In 14 Tryz.func188 fun _ _ _=> ?_
 refine .fact (t:=1) rfl (fun S w v h=>mg h) fun hl=> ?_
 have ko:=hl.sigs;have lp:=hl.imports;have mK:=hl.funcs;have mL:=hl.dR;have mM:=hl.globals;have mN:=hl.aY;have mO:=hl.elems;have nP:=hl.bU
 obtain ⟨x,hx⟩:=ah av
 refine dM ?_
 refine .p (cI _) rfl ?_
 refine Z1 ?_
 refine .p (cA (h:=H9)) rfl ?_
 refine Z1 ?_
 refine .p (cA (h:=iB)) rfl ?_
 refine Z4 ?_
 refine bL ?_
 exact af.int (by rw [kS hx];rfl)
theorem AX (av:i<m.aH.length):cW Tryz.prog 191 [ag .i64 (i:Int),cr [cr (br m)]] (ag .i64 (oA m.aH (gj m) i)):=by
 refine In 32 Tryz.func191 fun _ _ _=> ?_
 refine .fact (t:=1) rfl (fun S w v h=>mg h) fun hl=> ?_
 have ko:=hl.sigs;have lp:=hl.imports;have mK:=hl.funcs;have mL:=hl.dR;have mM:=hl.globals;have mN:=hl.aY;have mO:=hl.elems;have nP:=hl.bU
 obtain ⟨x,hx⟩:=ah av
 refine dM ?_
 refine .p (cI _) rfl ?_
 refine Z1 ?_
 refine .n (ax FZ.out) rfl fun b4 _=> ?_
 refine Z3 ?_
 refine .share (t:=4) (i:=0) rfl rfl ?_
 refine Z5 ?_
 refine .p (cA (h:=ue)) rfl ?_
 refine Z4 ?_
 refine .g (cm.gF rfl rfl rfl rfl (fun hg=>bQ (ue) FB.out (.cons (.when (.t rfl) hg) .nil))) rfl rfl ?_
 refine Z4 ?_
 refine Cd (fun c0=> ?_) fun c0=> ?_
 ·
  refine Z7 ?_
  refine bL ?_
  exact af.int (by rw [kS hx];simp only [gj];first|rw [if_pos (by assumption)]|rw [if_neg (by assumption)])
 refine Z3 ?_
 refine .bx 7 4 FM.out (by kernel_rfl) (k:= ?_)
 refine Z8 ?_
 refine .p (cA (h:=nO)) rfl ?_
 refine Z1 ?_
 refine .p (cA (h:=iB)) rfl ?_
 refine Z4 ?_
 refine bL ?_
 exact af.int (by rw [kS hx];simp only [gj];first|rw [if_pos (by assumption)]|rw [if_neg (by assumption)])
theorem E9 (av:i<m.ay.length):cW Tryz.prog 196 [ag .i64 (i:Int),cr [cr (br m)]] (ag .i64 (oA m.ay (rW m) i)):=by
 refine In 20 Tryz.func196 fun _ _ _=> ?_
 refine .fact (t:=1) rfl (fun S w v h=>mg h) fun hl=> ?_
 have ko:=hl.sigs;have lp:=hl.imports;have mK:=hl.funcs;have mL:=hl.dR;have mM:=hl.globals;have mN:=hl.aY;have mO:=hl.elems;have nP:=hl.bU
 obtain ⟨x,hx⟩:=ah av
 refine Z6 ?_
 refine .bx 13 4 FM.out (by kernel_rfl) (k:= ?_)
 refine Z5 ?_
 refine .p (cI _) ?_
 refine Z8 ?_
 refine .p (cA (h:=nO)) rfl ?_
 refine Z1 ?_
 refine .p (cA (h:=iB)) rfl ?_
 refine Z4 ?_
 refine bL ?_
 exact af.int (by rw [kS hx];rfl)
theorem Ib (av:i<m.bp.length):cW Tryz.prog 197 [ag .i64 (i:Int),cr [cr (br m)]] (ag .i64 (oA m.bp OA i)):=by
 refine In 14 Tryz.func197 fun _ _ _=> ?_
 refine .fact (t:=1) rfl (fun S w v h=>mg h) fun hl=> ?_
 have ko:=hl.sigs;have lp:=hl.imports;have mK:=hl.funcs;have mL:=hl.dR;have mM:=hl.globals;have mN:=hl.aY;have mO:=hl.elems;have nP:=hl.bU
 obtain ⟨x,hx⟩:=ah av
 refine dM ?_
 refine .p (cI _) rfl ?_
 refine Z1 ?_
 refine .p (cA (h:=E8)) rfl ?_
 refine Z1 ?_
 refine .p (cA (h:=iB)) rfl ?_
 refine Z4 ?_
 refine bL ?_
 exact af.int (by rw [kS hx];rfl)
theorem AY (av:i<m.an.length):cW Tryz.prog 199 [ag .i64 (i:Int),cr [cr (br m)]] (ag .i64 (oA m.an sR i)):=by
 refine In 27 Tryz.func199 fun _ _ _=> ?_
 refine .fact (t:=1) rfl (fun S w v h=>mg h) fun hl=> ?_
 have ko:=hl.sigs;have lp:=hl.imports;have mK:=hl.funcs;have mL:=hl.dR;have mM:=hl.globals;have mN:=hl.aY;have mO:=hl.elems;have nP:=hl.bU
 obtain ⟨x,hx⟩:=ah av
 refine dM ?_
 refine .p (cI _) rfl ?_
 refine Z1 ?_
 refine .n (ax FZ.out) rfl fun b4 _=> ?_
 refine Z3 ?_
 refine .share (t:=4) (i:=0) rfl rfl ?_
 refine Z4 ?_
 refine .p (cA (h:=sU)) rfl ?_
 refine cT ?_
 refine .p (cA (h:=iB)) rfl ?_
 refine Z4 ?_
 refine bL ?_
 exact af.int (by rw [kS hx];rfl)
theorem LP:cW Tryz.prog 146 [cr (br m)] (ag .i64 (BJ m)):=by
 refine In 10 Tryz.func146 fun _ _ _=> ?_
 refine .fact (t:=0) rfl (fun S w v h=>iM h) fun hl=> ?_
 have ko:=hl.sigs;have lp:=hl.imports;have mK:=hl.funcs;have mL:=hl.dR;have mM:=hl.globals;have mN:=hl.aY;have mO:=hl.elems;have nP:=hl.bU
 refine lg ?_
 refine .p (cn (A:=Nat) (ok:=fun i=>i<m.bR.length) (arg:=fun i=>[ag .i64 (i:Int)]) (res:=fun i=>ag .i64 (oA m.bR Ly i)) FB.out .nil (.cons (.t rfl) .nil) (fun i hi=>Ia hi)) rfl ?_
 refine .p (cA (h:=lP (by first|assumption|omega))) rfl ?_
 refine Z4 ?_
 refine bL ?_
 exact af.refl _
theorem C6:cW Tryz.prog 147 [cr (br m)] (ag .i64 (pN m)):=by
 refine In 10 Tryz.func147 fun _ _ _=> ?_
 refine .fact (t:=0) rfl (fun S w v h=>iM h) fun hl=> ?_
 have ko:=hl.sigs;have lp:=hl.imports;have mK:=hl.funcs;have mL:=hl.dR;have mM:=hl.globals;have mN:=hl.aY;have mO:=hl.elems;have nP:=hl.bU
 refine lg ?_
 refine .p (cn (A:=Nat) (ok:=fun i=>i<m.aH.length) (arg:=fun i=>[ag .i64 (i:Int)]) (res:=fun i=>ag .i64 (oA m.aH (gj m) i)) FB.out .nil (.cons (.t rfl) .nil) (fun i hi=>AX hi)) rfl ?_
 refine .p (cA (h:=lP (by first|assumption|omega))) rfl ?_
 refine Z4 ?_
 refine bL ?_
 exact af.refl _
theorem LQ:cW Tryz.prog 150 [cr (br m)] (ag .i64 (BK m)):=by
 refine In 10 Tryz.func150 fun _ _ _=> ?_
 refine .fact (t:=0) rfl (fun S w v h=>iM h) fun hl=> ?_
 have ko:=hl.sigs;have lp:=hl.imports;have mK:=hl.funcs;have mL:=hl.dR;have mM:=hl.globals;have mN:=hl.aY;have mO:=hl.elems;have nP:=hl.bU
 refine lg ?_
 refine .p (cn (A:=Nat) (ok:=fun i=>i<m.bp.length) (arg:=fun i=>[ag .i64 (i:Int)]) (res:=fun i=>ag .i64 (oA m.bp OA i)) FB.out .nil (.cons (.t rfl) .nil) (fun i hi=>Ib hi)) rfl ?_
 refine .p (cA (h:=lP (by first|assumption|omega))) rfl ?_
 refine Z4 ?_
 refine bL ?_
 exact af.refl _
theorem C7:cW Tryz.prog 151 [cr (br m)] (ag .i64 (pO m)):=by
 refine In 10 Tryz.func151 fun _ _ _=> ?_
 refine .fact (t:=0) rfl (fun S w v h=>iM h) fun hl=> ?_
 have ko:=hl.sigs;have lp:=hl.imports;have mK:=hl.funcs;have mL:=hl.dR;have mM:=hl.globals;have mN:=hl.aY;have mO:=hl.elems;have nP:=hl.bU
 refine lg ?_
 refine .p (cn (A:=Nat) (ok:=fun i=>i<m.an.length) (arg:=fun i=>[ag .i64 (i:Int)]) (res:=fun i=>ag .i64 (oA m.an sR i)) FB.out .nil (.cons (.t rfl) .nil) (fun i hi=>AY hi)) rfl ?_
 refine .p (cA (h:=lP (by first|assumption|omega))) rfl ?_
 refine Z4 ?_
 refine bL ?_
 exact af.refl _
theorem Ic:cW Tryz.prog 148 [cr (br m)] (ag .i64 (kW m)):=by
 refine In 13 Tryz.func148 fun _ _ _=> ?_
 refine .fact (t:=0) rfl (fun S w v h=>iM h) fun hl=> ?_
 have ko:=hl.sigs;have lp:=hl.imports;have mK:=hl.funcs;have mL:=hl.dR;have mM:=hl.globals;have mN:=hl.aY;have mO:=hl.elems;have nP:=hl.bU
 refine cK ?_
 refine .p (cA (h:=qD)) rfl ?_
 refine Z3 ?_
 refine Cd (fun c0=> ?_) fun c0=> ?_
 ·
  refine Z7 ?_
  refine bL ?_
  exact af.int (by simp [kW, *])
 refine Z9 ?_
 refine .p (cn (A:=Nat) (ok:=fun i=>i<m.ay.length) (arg:=fun i=>[ag .i64 (i:Int)]) (res:=fun i=>ag .i64 (oA m.ay (rW m) i)) FB.out .nil (.cons (.t rfl) .nil) (fun i hi=>E9 hi)) rfl ?_
 refine .p (cA (h:=zT (by first|assumption|omega))) rfl ?_
 refine Z4 ?_
 refine bL ?_
 exact af.int (by simp [kW, *])
theorem Ie:cW Tryz.prog 149 [cr (br m)] (ag .i64 (nG m)):=by
 refine In 14 Tryz.func149 fun _ _ _=> ?_
 refine nZ ?_
 refine Cd (fun c0=> ?_) fun c0=> ?_
 ·
  refine Z7 ?_
  refine bL ?_
  exact af.int (by simp [nG, *])
 refine Z9 ?_
 refine .p (cA (h:=iB)) rfl ?_
 refine Z4 ?_
 refine bL ?_
 exact af.int (by simp [nG, *])
variable {f:Int}
theorem Fa:cW Tryz.prog 224 [cr (br m),ag .i64 f] (bD [ag .i64 ((fE m f).getD 0),aq (fE m f).isSome]):=by
 refine In 43 Tryz.func224 fun _ _ _=> ?_
 refine .fact (t:=0) rfl (fun S w v h=>iM h) fun hl=> ?_
 have ko:=hl.sigs;have lp:=hl.imports;have mK:=hl.funcs;have mL:=hl.dR;have mM:=hl.globals;have mN:=hl.aY;have mO:=hl.elems;have nP:=hl.bU
 refine Z24 ?_
 refine .g (cm.gF rfl rfl rfl rfl (fun hg=>bQ (qD) FB.out (.cons (.when (.t rfl) hg) .nil))) rfl rfl ?_
 refine Z5 ?_
 refine Cd (fun c0=> ?_) fun c0=> ?_
 ·
  refine Z8 ?_
  refine j9 ?_ ?_
  · exact af.int (by simp [fE, *])
  exact af.prop (by simp [fE, *])
 refine Z8 ?_
 refine Cd (fun c1=> ?_) fun c1=> ?_
 ·
  refine Z1 ?_
  obtain ⟨j,rfl⟩:∃j:Nat,f=(j:Int):=⟨f.toNat,by omega⟩
  obtain ⟨x,hx⟩:=ah (xs:=m.aH) (k:=j) (by omega)
  refine Z6 ?_
  refine .p (cI _) rfl ?_
  refine Z8 ?_
  refine j9 ?_ ?_
  · exact af.int (by rw [rX (by omega) hx];rfl)
  exact af.prop (by rw [rX (by omega) hx];simp)
 refine Z1 ?_
 obtain ⟨j,rfl⟩:∃j:Nat,f=(m.aH.length:Int)+(j:Int):=⟨(f-m.aH.length).toNat,by omega⟩
 have hcm:cG m=(m.aH.length:Int)+(m.ay.length:Int):=rfl
 obtain ⟨x,hx⟩:=ah (xs:=m.ay) (k:=j) (by omega)
 refine Z8 ?_
 refine .p (cI j) rfl ?_
 refine Z8 ?_
 refine j9 ?_ ?_
 · exact af.int (by rw [vc hx];rfl)
 exact af.prop (by rw [vc hx];simp)
theorem sV:cW Tryz.prog 204 [cr (br m),ag .i64 f] (bD [aC (cu ((iU m f).getD ⟨[],[]⟩)),aq (iU m f).isSome]):=by
 refine In 37 Tryz.func204 fun _ _ _=> ?_
 refine .fact (t:=0) rfl (fun S w v h=>iM h) fun hl=> ?_
 have ko:=hl.sigs;have lp:=hl.imports;have mK:=hl.funcs;have mL:=hl.dR;have mM:=hl.globals;have mN:=hl.aY;have mO:=hl.elems;have nP:=hl.bU
 refine Z2 ?_
 refine .n (ax FZ.out) rfl fun b4 _=> ?_
 refine cK ?_
 refine Cd (fun c0=> ?_) fun c0=> ?_
 · exact c0.elim
 refine Z6 ?_
 refine .p (cA (h:=Fa)) rfl ?_
 refine EC ?_
 refine .g (cm.gF rfl rfl rfl rfl (fun hg=>bQ (nO) FB.out (.cons (.when (.t rfl) hg) (.cons (.when (.t rfl) hg) .nil)))) rfl rfl ?_
 refine Z4 ?_
 refine Cd (fun c1=> ?_) fun c1=> ?_
 ·
  refine Z9 ?_
  refine Post.bf rfl rfl () trivial (fun _ _ _ _=>trivial) rfl (.cons (.ra (i:=0) FA.out FC.out rfl rfl rfl rfl) ?_ (.cons (.rt rfl) ?_ .nil))
  · rw [BN c1];exact af.ak9 (aG _ _) (aG _ _)
  exact af.prop (by rw [BN c1];simp)
 refine Z3 ?_
 obtain ⟨n,hn⟩:∃n,fE m f=some n:=Option.isSome_iff_exists.1 (Classical.byContradiction fun h=>c1 (.inl h))
 have hin:jt n m.bR.length:=Classical.byContradiction fun h=>c1 (.inr (by rw [hn];exact h))
 obtain ⟨j,hj⟩:∃j:Nat,n=(j:Int):=⟨n.toNat,by have:=hin.1;omega⟩
 obtain ⟨x,hx⟩:=ah (xs:=m.bR) (k:=j) (by have:=hin.2;omega)
 refine Z6 ?_
 refine .p (cI j (h:=by assumption) (hi:=by rw [hn,hj];rfl)) rfl ?_
 refine Z6 ?_
 refine Post.bf rfl rfl () trivial (fun _ _ _ _=>trivial) rfl (.cons (.ra (i:=0) FA.out FC.out rfl rfl rfl rfl) ?_ (.cons (.rt rfl) ?_ .nil))
 · rw [BO hn hj hx];exact af.refl _
 exact af.prop (by rw [BO hn hj hx];simp)
theorem Ig:cW Tryz.prog 153 [cr (br m)] (ag .i64 (jN m)):=by
 refine In 30 Tryz.func153 fun _ _ _=> ?_
 refine .fact (t:=0) rfl (fun S w v h=>iM h) fun hl=> ?_
 have ko:=hl.sigs;have lp:=hl.imports;have mK:=hl.funcs;have mL:=hl.dR;have mM:=hl.globals;have mN:=hl.aY;have mO:=hl.elems;have nP:=hl.bU
 refine nZ ?_
 refine Cd (fun c0=> ?_) fun c0=> ?_
 ·
  refine Z7 ?_
  refine bL ?_
  exact af.int (by simp [jN, *])
 refine Z9 ?_
 refine .p (cA (h:=sV)) rfl ?_
 refine Z3 ?_
 refine .n (ax FZ.out) rfl fun b3 _=> ?_
 refine Z4 ?_
 refine .share (t:=3) (i:=0) rfl rfl ?_
 refine .fact (t:=17) rfl (fun S w v h=>And.intro (ir h 0 rfl) (ir h 1 rfl)) fun hs2=> ?_
 obtain ⟨SZ,hs4⟩:=hs2
 refine Z7 ?_
 refine Cd (fun c1=> ?_) fun c1=> ?_
 ·
  refine Z7 ?_
  refine bL ?_
  exact af.int (ES c0 c1).symm
 refine dM ?_
 refine .p (cA (h:=iB)) rfl ?_
 refine Z4 ?_
 refine bL ?_
 exact af.int (ET c0 c1).symm
theorem Fb:cW Tryz.prog 200 [cr (br m)] (aC [ag .i64 (cnt m 0),ag .i64 (cnt m 1),ag .i64 (cnt m 2),ag .i64 (cnt m 3)]):=by
 refine In 22 Tryz.func200 fun _ _ _=> ?_
 refine .fact (t:=0) rfl (fun S w v h=>iM h) fun hl=> ?_
 have ko:=hl.sigs;have lp:=hl.imports;have mK:=hl.funcs;have mL:=hl.dR;have mM:=hl.globals;have mN:=hl.aY;have mO:=hl.elems;have nP:=hl.bU
 refine Z2 ?_
 refine .n (ax FZ.out) rfl fun b2 _=> ?_
 refine Z3 ?_
 refine .bx 18 2 FM.out (by kernel_rfl) (k:= ?_)
 refine Z1 ?_
 refine .p (cA (h:=qD)) ?_
 refine Z4 ?_
 refine .p (Nx (.t rfl) (.c _)) ?_
 refine .p (Ec (.t rfl) (.c _)) ?_
 refine cT ?_
 refine .p (gP FR.out FZ.out (.cons (.t rfl) (.cons (.t rfl) (.cons (.t rfl) (.cons (.t rfl) .nil)))) rfl) rfl ?_
 refine Z4 ?_
 refine Post.aP rfl () trivial (fun _ _ _ _=>trivial) (.ra (i:=0) FA.out FC.out rfl rfl rfl rfl) ?_
 exact af.refl _
theorem zU {x y:dW}:cW Tryz.prog 203 [aC (dZ y),cr (dZ x)] (aq (y.Name=x.Name)):=by
 refine In 9 Tryz.func203 fun _ _ _=> ?_
 refine Hy ?_
 refine bL ?_
 exact .z
theorem AZ (av:i<m.bJ.length):cW Tryz.prog 201 [ag .i64 (i:Int),cr [cr (br m)],cr [ag .i64 (cnt m 0),ag .i64 (cnt m 1),ag .i64 (cnt m 2),ag .i64 (cnt m 3)]] (ag .i64 (jU m i)):=by
 refine In 46 Tryz.func201 fun _ _ _=> ?_
 refine .fact (t:=1) rfl (fun S w v h=>mg h) fun hl=> ?_
 have ko:=hl.sigs;have lp:=hl.imports;have mK:=hl.funcs;have mL:=hl.dR;have mM:=hl.globals;have mN:=hl.aY;have mO:=hl.elems;have nP:=hl.bU
 obtain ⟨x,hx⟩:=ah av
 refine dM ?_
 refine .p (cI _) rfl ?_
 refine Z1 ?_
 refine .n (ax FZ.out) rfl fun b5 _=> ?_
 refine Z3 ?_
 refine .share (t:=5) (i:=0) rfl rfl ?_
 refine Z7 ?_
 refine .p (we FU.out FC.out rfl (.t rfl) (.t rfl) rfl (by omega)) rfl ?_
 refine .p (cn (A:=dW) (ok:=fun _=>True) (arg:=fun y=>[aC (dZ y)]) (res:=fun y=>aq (y.Name=x.Name)) FB.out .nil (.cons (.t rfl) .nil) (fun y _=>zU)) rfl ?_
 refine .p (cA (h:=zR)) rfl ?_
 refine Z8 ?_
 refine .p (cA (h:=ue)) rfl ?_
 refine Z6 ?_
 refine Cd (fun c0=> ?_) fun c0=> ?_
 ·
  refine Z7 ?_
  refine bL ?_
  exact af.int (CR hx c0).symm
 refine Z3 ?_
 refine .bx 13 5 FM.out (by kernel_rfl) (k:= ?_)
 refine Z2 ?_
 refine .p (cA (h:=nO)) ?_
 refine Z6 ?_
 refine .cons (cm.gF rfl rfl rfl rfl (fun hg=>Ec (.when (.t rfl) hg) (.c _))) ?_
 refine Z1 ?_
 refine .cons (cm.gF rfl rfl rfl rfl (fun hg=>Cr (nH x.Kind) FU.out FC.out rfl (.t rfl) (.when (.t rfl) hg) (by unfold nH;omega) (by unfold nH;omega))) ?_
 refine .cons (cm.gF rfl rfl rfl rfl (fun hg=>mE FA.out (.le (.when (.t rfl) hg) (QO (TX m (nH x.Kind) (by unfold nH;omega)))))) ?_
 refine Z1 ?_
 refine .g (cm.gF rfl rfl rfl rfl (fun hg=>bQ (nO) FB.out (.cons (.when (.t rfl) hg) (.cons (.when (.t rfl) hg) .nil)))) rfl rfl ?_
 refine Z2 ?_
 refine .p (cA (h:=iB)) rfl ?_
 refine Z4 ?_
 refine bL ?_
 exact af.int (ve hx c0).symm
theorem C8:cW Tryz.prog 152 [cr (br m)] (ag .i64 (nI m)):=by
 refine In 13 Tryz.func152 fun _ _ _=> ?_
 refine .fact (t:=0) rfl (fun S w v h=>iM h) fun hl=> ?_
 have ko:=hl.sigs;have lp:=hl.imports;have mK:=hl.funcs;have mL:=hl.dR;have mM:=hl.globals;have mN:=hl.aY;have mO:=hl.elems;have nP:=hl.bU
 refine Z9 ?_
 refine .p (cA (h:=Fb)) rfl ?_
 refine .n (ax FZ.out) rfl fun b3 _=> ?_
 refine Z3 ?_
 refine .share (t:=3) (i:=0) rfl rfl ?_
 refine Z7 ?_
 refine .p (cn (A:=Nat) (ok:=fun i=>i<m.bJ.length) (arg:=fun i=>[ag .i64 (i:Int)]) (res:=fun i=>ag .i64 (jU m i)) FB.out .nil (.cons (.t rfl) (.cons (.t rfl) .nil)) (fun i hi=>AZ hi)) rfl ?_
 refine .p (cA (h:=lP (by first|assumption|omega))) rfl ?_
 refine Z4 ?_
 refine bL ?_
 exact af.refl _
theorem C9:cW Tryz.prog 207 [ag .i64 f,cr [cr (br m)]] (aq (¬jt f (cG m))):=by
 refine In 9 Tryz.func207 fun _ _ _=> ?_
 refine Z9 ?_
 refine .p (cA (h:=qD)) rfl ?_
 refine .p (cA (h:=nO)) rfl ?_
 refine Z5 ?_
 refine bL ?_
 exact .z
theorem Fc (av:i<m.bt.length):cW Tryz.prog 205 [ag .i64 (i:Int),cr [cr (br m)]] (ag .i64 (oA m.bt (tw m) i)):=by
 refine In 35 Tryz.func205 fun _ _ _=> ?_
 refine .fact (t:=1) rfl (fun S w v h=>mg h) fun hl=> ?_
 have ko:=hl.sigs;have lp:=hl.imports;have mK:=hl.funcs;have mL:=hl.dR;have mM:=hl.globals;have mN:=hl.aY;have mO:=hl.elems;have nP:=hl.bU
 obtain ⟨x,hx⟩:=ah av
 refine dM ?_
 refine .p (cI _) rfl ?_
 refine Z1 ?_
 refine .n (ax FZ.out) rfl fun b4 _=> ?_
 refine Z3 ?_
 refine .share (t:=4) (i:=0) rfl rfl ?_
 refine Z9 ?_
 refine Cd (fun c0=> ?_) fun c0=> ?_
 ·
  refine Z7 ?_
  refine bL ?_
  exact af.int (by rw [kS hx];simp [tw, *])
 refine Z6 ?_
 refine .p (cn (A:=Int) (ok:=fun _=>True) (arg:=fun f=>[ag .i64 f]) (res:=fun f=>aq (¬jt f (cG m))) FB.out .nil (.cons (.t rfl) .nil) (fun f _=>C9)) rfl ?_
 refine .p (cA (h:=E6)) rfl ?_
 refine AU ?_
 refine .p (cA (h:=iB)) rfl ?_
 refine Z4 ?_
 refine bL ?_
 exact af.int (by rw [kS hx];exact (HL c0).symm)
theorem Ih:cW Tryz.prog 154 [cr (br m)] (ag .i64 (wH m)):=by
 refine In 10 Tryz.func154 fun _ _ _=> ?_
 refine .fact (t:=0) rfl (fun S w v h=>iM h) fun hl=> ?_
 have ko:=hl.sigs;have lp:=hl.imports;have mK:=hl.funcs;have mL:=hl.dR;have mM:=hl.globals;have mN:=hl.aY;have mO:=hl.elems;have nP:=hl.bU
 refine lg ?_
 refine .p (cn (A:=Nat) (ok:=fun i=>i<m.bt.length) (arg:=fun i=>[ag .i64 (i:Int)]) (res:=fun i=>ag .i64 (oA m.bt (tw m) i)) FB.out .nil (.cons (.t rfl) .nil) (fun i hi=>Fc hi)) rfl ?_
 refine .p (cA (h:=lP (by first|assumption|omega))) rfl ?_
 refine Z4 ?_
 refine bL ?_
 exact af.refl _
theorem Fe (av:i<m.aZ.length):cW Tryz.prog 208 [ag .i64 (i:Int),cr [cr (br m)]] (ag .i64 (oA m.aZ (tA m) i)):=by
 refine In 51 Tryz.func208 fun _ _ _=> ?_
 refine .fact (t:=1) rfl (fun S w v h=>mg h) fun hl=> ?_
 have ko:=hl.sigs;have lp:=hl.imports;have mK:=hl.funcs;have mL:=hl.dR;have mM:=hl.globals;have mN:=hl.aY;have mO:=hl.elems;have nP:=hl.bU
 obtain ⟨x,hx⟩:=ah av
 refine dM ?_
 refine .p (cI _) rfl ?_
 refine Z1 ?_
 refine .n (ax FZ.out) rfl fun b4 _=> ?_
 refine Z3 ?_
 refine .share (t:=4) (i:=0) rfl rfl ?_
 refine Z9 ?_
 refine Cd (fun c0=> ?_) fun c0=> ?_
 ·
  refine Z7 ?_
  refine bL ?_
  exact af.int (by rw [kS hx];simp [tA, *])
 refine Z3 ?_
 refine .bx 24 12 FM.out (by kernel_rfl) (k:= ?_)
 refine Z7 ?_
 refine .p (cA (h:=nO)) ?_
 refine iW ?_
 refine .cons (cm.gF rfl rfl rfl rfl (fun hg=>Ec (.when (.t rfl) hg) (.when (.t rfl) hg))) ?_
 refine Z2 ?_
 refine .g (cm.gF rfl rfl rfl rfl (fun hg=>aO (j:=x.Mem.toNat) FU.out FC.out rfl (.when (.t rfl) hg) (.when (.t rfl) hg) (Q3 (Classical.not_not.1 hg)) (EU (Classical.not_not.1 hg)))) rfl rfl ?_
 refine Z9 ?_
 refine .p (cA (h:=iB)) rfl ?_
 refine Z4 ?_
 refine bL ?_
 exact af.int (by rw [kS hx];exact (HM c0).symm)
theorem Ii:cW Tryz.prog 155 [cr (br m)] (ag .i64 (wI m)):=by
 refine In 10 Tryz.func155 fun _ _ _=> ?_
 refine .fact (t:=0) rfl (fun S w v h=>iM h) fun hl=> ?_
 have ko:=hl.sigs;have lp:=hl.imports;have mK:=hl.funcs;have mL:=hl.dR;have mM:=hl.globals;have mN:=hl.aY;have mO:=hl.elems;have nP:=hl.bU
 refine lg ?_
 refine .p (cn (A:=Nat) (ok:=fun i=>i<m.aZ.length) (arg:=fun i=>[ag .i64 (i:Int)]) (res:=fun i=>ag .i64 (oA m.aZ (tA m) i)) FB.out .nil (.cons (.t rfl) .nil) (fun i hi=>Fe hi)) rfl ?_
 refine .p (cA (h:=lP (by first|assumption|omega))) rfl ?_
 refine Z4 ?_
 refine bL ?_
 exact af.refl _
theorem Ff:cW Tryz.prog 129 [cr (br m)] (bD [cZ (ud m).1,ag .i64 (ud m).2]):=by
 refine In 52 Tryz.func129 fun _ _ _=> ?_
 refine Z2 ?_
 refine .p (bh (.s [] rfl rfl)) rfl ?_
 refine cK ?_
 refine Cd (fun c0=> ?_) fun c0=> ?_
 · exact c0.elim
 refine Z6 ?_
 refine .p (cn (A:=Unit) (ok:=fun _=>True) (arg:=fun _=>[]) (res:=fun _=>ag .i64 (BJ m)) FB.out (.cons (.t rfl) .nil) .nil (fun _ _=>LP)) rfl ?_
 refine .p (aL FP.out FZ.out (.cons (.s [115,105,103,115] rfl rfl) (.cons (.t rfl) .nil)) rfl) rfl ?_
 refine Z1 ?_
 refine .p (cn (A:=Unit) (ok:=fun _=>True) (arg:=fun _=>[]) (res:=fun _=>ag .i64 (pN m)) FB.out (.cons (.t rfl) .nil) .nil (fun _ _=>C6)) rfl ?_
 refine .p (aL FP.out FZ.out (.cons (.s [105,109,112,111,114,116,115] rfl rfl) (.cons (.t rfl) .nil)) rfl) rfl ?_
 refine Z1 ?_
 refine .p (cn (A:=Unit) (ok:=fun _=>True) (arg:=fun _=>[]) (res:=fun _=>ag .i64 (kW m)) FB.out (.cons (.t rfl) .nil) .nil (fun _ _=>Ic)) rfl ?_
 refine .p (aL FP.out FZ.out (.cons (.s [102,117,110,99,115] rfl rfl) (.cons (.t rfl) .nil)) rfl) rfl ?_
 refine Z1 ?_
 refine .p (cn (A:=Unit) (ok:=fun _=>True) (arg:=fun _=>[]) (res:=fun _=>ag .i64 (nG m)) FB.out (.cons (.t rfl) .nil) .nil (fun _ _=>Ie)) rfl ?_
 refine .p (aL FP.out FZ.out (.cons (.s [116,97,98,108,101] rfl rfl) (.cons (.t rfl) .nil)) rfl) rfl ?_
 refine Z1 ?_
 refine .p (cn (A:=Unit) (ok:=fun _=>True) (arg:=fun _=>[]) (res:=fun _=>ag .i64 (BK m)) FB.out (.cons (.t rfl) .nil) .nil (fun _ _=>LQ)) rfl ?_
 refine .p (aL FP.out FZ.out (.cons (.s [109,101,109,115] rfl rfl) (.cons (.t rfl) .nil)) rfl) rfl ?_
 refine Z1 ?_
 refine .p (cn (A:=Unit) (ok:=fun _=>True) (arg:=fun _=>[]) (res:=fun _=>ag .i64 (pO m)) FB.out (.cons (.t rfl) .nil) .nil (fun _ _=>C7)) rfl ?_
 refine .p (aL FP.out FZ.out (.cons (.s [103,108,111,98,97,108,115] rfl rfl) (.cons (.t rfl) .nil)) rfl) rfl ?_
 refine Z1 ?_
 refine .p (cn (A:=Unit) (ok:=fun _=>True) (arg:=fun _=>[]) (res:=fun _=>ag .i64 (nI m)) FB.out (.cons (.t rfl) .nil) .nil (fun _ _=>C8)) rfl ?_
 refine .p (aL FP.out FZ.out (.cons (.s [101,120,112,111,114,116,115] rfl rfl) (.cons (.t rfl) .nil)) rfl) rfl ?_
 refine Z1 ?_
 refine .p (cn (A:=Unit) (ok:=fun _=>True) (arg:=fun _=>[]) (res:=fun _=>ag .i64 (jN m)) FB.out (.cons (.t rfl) .nil) .nil (fun _ _=>Ig)) rfl ?_
 refine .p (aL FP.out FZ.out (.cons (.s [115,116,97,114,116] rfl rfl) (.cons (.t rfl) .nil)) rfl) rfl ?_
 refine Z1 ?_
 refine .p (cn (A:=Unit) (ok:=fun _=>True) (arg:=fun _=>[]) (res:=fun _=>ag .i64 (wH m)) FB.out (.cons (.t rfl) .nil) .nil (fun _ _=>Ih)) rfl ?_
 refine .p (aL FP.out FZ.out (.cons (.s [101,108,101,109,115] rfl rfl) (.cons (.t rfl) .nil)) rfl) rfl ?_
 refine Z1 ?_
 refine .p (cn (A:=Unit) (ok:=fun _=>True) (arg:=fun _=>[]) (res:=fun _=>ag .i64 (wI m)) FB.out (.cons (.t rfl) .nil) .nil (fun _ _=>Ii)) rfl ?_
 refine .p (aL FP.out FZ.out (.cons (.s [100,97,116,97] rfl rfl) (.cons (.t rfl) .nil)) rfl) rfl ?_
 refine .p (gP FR.out FZ.out (.cons (.t rfl) (.cons (.t rfl) (.cons (.t rfl) (.cons (.t rfl) (.cons (.t rfl) (.cons (.t rfl) (.cons (.t rfl) (.cons (.t rfl) (.cons (.t rfl) (.cons (.t rfl) .nil)))))))))) rfl) rfl ?_
 refine Z4 ?_
 refine .aT (σ:=Nat) (fun _=>[]) (fun k=>[(40,ag .i64 (k:Int))]) (fun k=>k≤10∧cN (fun p:List UInt8×Int=>p.2≠0) (mJ m) k) (fun k=>10-k) 0 ⟨by omega,cN.zero _ _⟩ rfl ?_ ?_
 · exact (.get rfl (af.refl _) (.refl _ _))
 rintro k ⟨hk,hnot⟩
 refine Z6 ?_
 refine Cd (fun c1=> ?_) fun c1=> ?_
 ·
  obtain ⟨p,hp⟩:=ah (xs:=mJ m) (k:=k) (by rw [wQ];omega)
  refine Z6 ?_
  refine .p (uM (enc:=yD) (mJ m) FU.out FC.out rfl FA.out (.t rfl) rfl rfl (.t rfl) rfl (by assumption)) rfl ?_
  refine .n (ax FZ.out) rfl fun b5 _=> ?_
  refine Z3 ?_
  refine .share (t:=5) (i:=0) rfl rfl ?_
  refine Z4 ?_
  refine .p (cV ()) rfl ?_
  refine Z9 ?_
  refine Cd (fun c2=> ?_) fun c2=> ?_
  ·
   refine nZ ?_
   refine j9 ?_ ?_
   · exact af.of_eq (by rw [OS hnot hp c2])
   exact af.of_eq (by rw [OS hnot hp c2])
  refine Z7 ?_
  refine .round (k+1) ⟨by omega,hnot.succ hp (by assumption)⟩ (by omega) rfl ?_
  exact (.get rfl (af.int (by omega)) (.keep 13 rfl rfl))
 refine Z7 ?_
 refine .p (bh (.s [] rfl rfl)) rfl ?_
 refine Z4 ?_
 refine j9 ?_ ?_
 · exact af.of_eq (by rw [zP (hnot.all (by rw [wQ];omega))])
 exact af.of_eq (by rw [zP (hnot.all (by rw [wQ];omega))])
theorem Fg {a b:List UInt8}:cW Tryz.prog 105 [ai 1 aj a,ai 1 aj b] (aq (a=b)):=by
 refine In 26 Tryz.func105 fun _ _ _=> ?_
 refine .fact (t:=0) rfl (fun S w v h=>bM h) fun hlen=> ?_
 refine nZ ?_
 refine Cd (fun c0=> ?_) fun c0=> ?_
 ·
  refine Z7 ?_
  refine bL ?_
  exact af.prop (TY c0).symm
 refine cT ?_
 refine .aT (σ:=Nat) (fun _=>[]) (fun k=>[(13,ag .i64 (k:Int))]) (fun k=>k≤a.length∧Q4 a b k) (fun k=>a.length-k) 0 ⟨by omega,Q4.zero _ _⟩ rfl ?_ ?_
 · exact (.get rfl (af.refl _) (.refl _ _))
 rintro k ⟨hk,heq⟩
 refine Z6 ?_
 refine Cd (fun c1=> ?_) fun c1=> ?_
 ·
  obtain ⟨x,hx⟩:=ah (xs:=a) (k:=k) (by omega)
  obtain ⟨y,hy⟩:=ah (xs:=b) (k:=k) (by omega)
  refine cT ?_
  refine .bx 8 1 FM.out (by kernel_rfl) (k:= ?_)
  refine Z2 ?_
  refine .p (cI _) ?_
  refine Z3 ?_
  refine .p (cI _) ?_
  refine Z5 ?_
  refine .cond (.le (.t rfl) (af.prop (not_congr BQ))) (fun c2=> ?_) (fun c2=> ?_)
  ·
   refine cT ?_
   refine bL ?_
   exact af.prop (Wz hx hy c2).symm
  refine Z7 ?_
  refine .round (k+1) ⟨by omega,heq.succ hx hy (Classical.not_not.1 c2)⟩ (by omega) rfl ?_
  exact (.get rfl (af.int (by omega)) (.keep 15 rfl rfl))
 refine cT ?_
 refine bL ?_
 exact af.prop (by simp [heq.all (by omega) (by omega)])
end Go.Proofs.YtpfobikpggmleaaGreatDoor
end
