/-
  What the statement's proof leans on, several texts in one (packed by a program).
-/
import Derived.Test.YtpfobikpggmleaaGreatDoorSRL
set_option linter.all false
set_option maxRecDepth 1000000
set_option maxHeartbeats 4000000
section
namespace Go.Proofs.YtpfobikpggmleaaGreatDoor
open Go.Hl Go.RowKit
theorem mj {n m:Int}:cQ Tryz.prog 193 [ag .i64 n,ag .i64 m] (ak (iU n m)):=by
 refine In 12 Tryz.func193 fun _ _ _=> ?_
 refine DP ?_
 refine bJ ?_
 exact .z
theorem kK {n m:Int}:cQ Tryz.prog 84 [ag .i64 n,ag .i64 m] (ak (iU n m)):=by
 refine In 12 Tryz.func84 fun _ _ _=> ?_
 refine DP ?_
 refine bJ ?_
 exact .z
theorem fW {p:Prop} {e:Int}:cQ Tryz.prog 189 [ak p,ag .i64 e] (ag .i64 (jk p e)):=by
 refine In 7 Tryz.func189 fun _ _ _=> ?_
 refine dw ?_
 refine Cd (fun c0=> ?_) fun c0=> ?_
 ·
  refine Z8 ?_
  refine bJ ?_
  exact aa.int (by simp [jk, *])
 refine Z8 ?_
 refine bJ ?_
 exact aa.int (by simp [jk, *])
theorem qD {t:UInt8}:cQ Tryz.prog 49 [ag .u8 (t.toNat:Int)] (ag .i64 (fH t)):=by
 refine In 8 Tryz.func49 fun _ _ _=> ?_
 refine DP ?_
 refine Cd (fun c0=> ?_) fun c0=> ?_
 ·
  refine Z8 ?_
  refine bJ ?_
  exact aa.int (by simp [fH, *])
 refine Z6 ?_
 refine Cd (fun c1=> ?_) fun c1=> ?_
 ·
  refine Z8 ?_
  refine bJ ?_
  exact aa.int (by simp [fH, *])
 refine Z9 ?_
 refine bJ ?_
 exact aa.int (by simp [fH, *])
theorem IF {t:UInt8}:cQ Tryz.prog 239 [ag .u8 (t.toNat:Int)] (ak (fH t=0)):=by
 refine In 6 Tryz.func239 fun _ _ _=> ?_
 refine Z8 ?_
 refine .p (cA (h:=qD)) rfl ?_
 refine Z5 ?_
 refine bJ ?_
 exact .z
variable {l:List UInt8}
theorem Ao {p:UInt8→Prop}:cQ Tryz.prog 258 [ah 1 aj l,nt Tryz.prog (fun _:UInt8=>True) (fun x=>[ag .u8 (x.toNat:Int)]) (fun x=>ak (p x))] (ag .i64 (l6 p l)):=by
 refine In 19 Tryz.func258 fun _ _ _=> ?_
 refine .fact (t:=0) rfl (fun S w v h=>bH h) fun hlen=> ?_
 refine iw ?_
 refine .aY (σ:=Nat) (fun _=>[]) (fun k=>[(8,ag .i64 (k:Int))]) (fun k=>k≤l.length∧cD p l k) (fun k=>l.length-k) 0 ⟨by omega,cD.zero p l⟩ rfl ?_ ?_
 · exact (.get rfl (aa.refl _) (.refl _ _))
 rintro k ⟨hk,hnot⟩
 refine Z6 ?_
 refine Cd (fun c0=> ?_) fun c0=> ?_
 ·
  obtain ⟨x,hx⟩:=ai (xs:=l) (k:=k) (by omega)
  refine mM ?_
  refine .p (cI _) rfl ?_
  refine Z1 ?_
  refine .p (cV x) rfl ?_
  refine Z2 ?_
  refine Cd (fun c1=> ?_) fun c1=> ?_
  ·
   refine dH ?_
   refine bJ ?_
   exact aa.int (oa hx (by assumption) hnot).symm
  refine Z7 ?_
  refine .round (k+1) ⟨by omega,hnot.succ hx (by assumption)⟩ (by omega) rfl ?_
  exact (.get rfl (aa.int (by omega)) (.keep 12 rfl rfl))
 refine dw ?_
 refine bJ ?_
 exact aa.int (lM (hnot.all (by omega))).symm
theorem sV {p:UInt8→Prop}:cQ Tryz.prog 238 [ah 1 aj l,nt Tryz.prog (fun _:UInt8=>True) (fun x=>[ag .u8 (x.toNat:Int)]) (fun x=>ak (p x))] (ak (∃x∈l,p x)):=by
 refine In 9 Tryz.func238 fun _ _ _=> ?_
 refine Z9 ?_
 refine .p (cA (h:=Ao)) rfl ?_
 refine Z5 ?_
 refine bJ ?_
 exact aa.prop gY
theorem Cm {l:List Int} {p:Int→Prop}:cQ Tryz.prog 225 [ah 1 jf l,nt Tryz.prog (fun _:Int=>True) (fun x=>[ag .i64 x]) (fun x=>ak (p x))] (ag .i64 (l6 p l)):=by
 refine In 19 Tryz.func225 fun _ _ _=> ?_
 refine .fact (t:=0) rfl (fun S w v h=>bH h) fun hlen=> ?_
 refine iw ?_
 refine .aY (σ:=Nat) (fun _=>[]) (fun k=>[(8,ag .i64 (k:Int))]) (fun k=>k≤l.length∧cD p l k) (fun k=>l.length-k) 0 ⟨by omega,cD.zero p l⟩ rfl ?_ ?_
 · exact (.get rfl (aa.refl _) (.refl _ _))
 rintro k ⟨hk,hnot⟩
 refine Z6 ?_
 refine Cd (fun c0=> ?_) fun c0=> ?_
 ·
  obtain ⟨x,hx⟩:=ai (xs:=l) (k:=k) (by omega)
  refine mM ?_
  refine .p (cI _) rfl ?_
  refine Z1 ?_
  refine .p (cV x) rfl ?_
  refine Z2 ?_
  refine Cd (fun c1=> ?_) fun c1=> ?_
  ·
   refine dH ?_
   refine bJ ?_
   exact aa.int (oa hx (by assumption) hnot).symm
  refine Z7 ?_
  refine .round (k+1) ⟨by omega,hnot.succ hx (by assumption)⟩ (by omega) rfl ?_
  exact (.get rfl (aa.int (by omega)) (.keep 12 rfl rfl))
 refine dw ?_
 refine bJ ?_
 exact aa.int (lM (hnot.all (by omega))).symm
theorem Cn {l:List Int} {p:Int→Prop}:cQ Tryz.prog 206 [ah 1 jf l,nt Tryz.prog (fun _:Int=>True) (fun x=>[ag .i64 x]) (fun x=>ak (p x))] (ak (∃x∈l,p x)):=by
 refine In 9 Tryz.func206 fun _ _ _=> ?_
 refine Z9 ?_
 refine .p (cA (h:=Cm)) rfl ?_
 refine Z5 ?_
 refine bJ ?_
 exact aa.prop gY
theorem xe {l:List dJ} {p:dJ→Prop}:cQ Tryz.prog 223 [ah 3 dK l,nt Tryz.prog (fun _:dJ=>True) (fun x=>[aE (dK x)]) (fun x=>ak (p x))] (ag .i64 (l6 p l)):=by
 refine In 19 Tryz.func223 fun _ _ _=> ?_
 refine .fact (t:=0) rfl (fun S w v h=>bH h) fun hlen=> ?_
 refine iw ?_
 refine .aY (σ:=Nat) (fun _=>[]) (fun k=>[(8,ag .i64 (k:Int))]) (fun k=>k≤l.length∧cD p l k) (fun k=>l.length-k) 0 ⟨by omega,cD.zero p l⟩ rfl ?_ ?_
 · exact (.get rfl (aa.refl _) (.refl _ _))
 rintro k ⟨hk,hnot⟩
 refine Z6 ?_
 refine Cd (fun c0=> ?_) fun c0=> ?_
 ·
  obtain ⟨x,hx⟩:=ai (xs:=l) (k:=k) (by omega)
  refine mM ?_
  refine .p (cI _) rfl ?_
  refine Z1 ?_
  refine .p (cV x) rfl ?_
  refine Z2 ?_
  refine Cd (fun c1=> ?_) fun c1=> ?_
  ·
   refine dH ?_
   refine bJ ?_
   exact aa.int (oa hx (by assumption) hnot).symm
  refine Z7 ?_
  refine .round (k+1) ⟨by omega,hnot.succ hx (by assumption)⟩ (by omega) rfl ?_
  exact (.get rfl (aa.int (by omega)) (.keep 12 rfl rfl))
 refine dw ?_
 refine bJ ?_
 exact aa.int (lM (hnot.all (by omega))).symm
theorem xg {l:List dJ} {p:dJ→Prop}:cQ Tryz.prog 202 [ah 3 dK l,nt Tryz.prog (fun _:dJ=>True) (fun x=>[aE (dK x)]) (fun x=>ak (p x))] (ak (∃x∈l,p x)):=by
 refine In 9 Tryz.func202 fun _ _ _=> ?_
 refine Z9 ?_
 refine .p (cA (h:=xe)) rfl ?_
 refine Z5 ?_
 refine bJ ?_
 exact aa.prop gY
theorem Cp:cQ Tryz.prog 222 [ah 1 aj l] (ak (jC l)):=by
 refine In 11 Tryz.func222 fun _ _ _=> ?_
 refine dH ?_
 refine .g (cr.gT rfl rfl rfl rfl (fun hg=>bT (sV) FB.out (.cons (.when (.t rfl) hg) (.cons (.le (.f _) (sB FB.out (fun (b:UInt8) (_:True)=>IF (t:=b)))) .nil)))) rfl rfl ?_
 refine Z6 ?_
 refine bJ ?_
 exact aa.prop Iq
theorem EL {s:mD}:cQ Tryz.prog 190 [aE (cj s)] (ak (Ad s)):=by
 refine In 11 Tryz.func190 fun _ _ _=> ?_
 refine cJ ?_
 refine .p (cA (h:=Cp)) rfl ?_
 refine Z3 ?_
 refine .g (cr.gT rfl rfl rfl rfl (fun hg=>bT (Cp) FB.out (.cons (.when (.t rfl) hg) .nil))) rfl rfl ?_
 refine Z5 ?_
 refine bJ ?_
 exact .z
theorem Cq {l:dY} {most:Int}:cQ Tryz.prog 198 [aE (ew l),ag .i64 most] (ak (Ac l most)):=by
 refine In 32 Tryz.func198 fun _ _ _=> ?_
 refine Z39 ?_
 refine bJ ?_
 exact aa.prop (by unfold Ac;constructor<;>(intro h;omega))
theorem rQ:cQ Tryz.prog 192 [cM l] (ak (gZ l)):=by
 refine In 27 Tryz.func192 fun _ _ _=> ?_
 refine .fact (t:=0) rfl (fun S w v h=>fR h) fun hlen=> ?_
 refine iw ?_
 refine .aY (σ:=Nat) (fun _=>[]) (fun k=>[(6,ag .i64 (k:Int))]) (fun k=>k≤l.length∧cD (fun b:UInt8=>(b.toNat:Int)<33∨126<(b.toNat:Int)) l k) (fun k=>l.length-k) 0 ⟨by omega,cD.zero _ l⟩ rfl ?_ ?_
 · exact (.get rfl (aa.refl _) (.refl _ _))
 rintro k ⟨hk,hnot⟩
 refine Z6 ?_
 refine Cd (fun c0=> ?_) fun c0=> ?_
 ·
  obtain ⟨x,hx⟩:=ai (xs:=l) (k:=k) (by omega)
  refine iw ?_
  refine .p (jv FU.out (.t rfl) (.t rfl) rfl (by assumption)) rfl ?_
  refine Z4 ?_
  refine .g (cr.gF rfl rfl rfl rfl (fun hg=>jv FU.out (.when (.t rfl) hg) (.when (.t rfl) hg) rfl (by assumption))) rfl rfl ?_
  refine Z4 ?_
  refine Cd (fun c1=> ?_) fun c1=> ?_
  ·
   refine dw ?_
   refine bJ ?_
   exact aa.prop (zd hx (by assumption)).symm
  refine Z7 ?_
  refine .round (k+1) ⟨by omega,hnot.succ hx (by assumption)⟩ (by omega) rfl ?_
  exact (.get rfl (aa.int (by omega)) (.keep 16 rfl rfl))
 refine Z8 ?_
 refine .p (Kn (.t rfl) (.s [] rfl rfl)) rfl ?_
 refine Z9 ?_
 refine bJ ?_
 exact aa.prop (ze (hnot.all (by omega)))
theorem qa:cQ Tryz.prog 83 [cM l] (ak (gZ l)):=by
 refine In 28 Tryz.func83 fun _ _ _=> ?_
 refine .fact (t:=0) rfl (fun S w v h=>fR h) fun hlen=> ?_
 refine dH ?_
 refine .aY (σ:=Nat) (fun _=>[]) (fun k=>[(3,ag .i64 (k:Int))]) (fun k=>k≤l.length∧cD (fun b:UInt8=>(b.toNat:Int)<33∨126<(b.toNat:Int)) l k) (fun k=>l.length-k) 0 ⟨by omega,cD.zero _ l⟩ rfl ?_ ?_
 · exact (.get rfl (aa.refl _) (.refl _ _))
 rintro k ⟨hk,hnot⟩
 refine Z9 ?_
 refine Cd (fun c0=> ?_) fun c0=> ?_
 ·
  obtain ⟨x,hx⟩:=ai (xs:=l) (k:=k) (by omega)
  refine Z8 ?_
  refine .p (jv FU.out (.t rfl) (.t rfl) rfl (by assumption)) rfl ?_
  refine Z4 ?_
  refine .g (cr.gF rfl rfl rfl rfl (fun hg=>jv FU.out (.when (.t rfl) hg) (.when (.t rfl) hg) rfl (by assumption))) rfl rfl ?_
  refine Z4 ?_
  refine Cd (fun c1=> ?_) fun c1=> ?_
  ·
   refine dw ?_
   refine bJ ?_
   exact aa.prop (zd hx (by assumption)).symm
  refine Z8 ?_
  refine .round (k+1) ⟨by omega,hnot.succ hx (by assumption)⟩ (by omega) rfl ?_
  exact (.get rfl (aa.int (by omega)) (.keep 18 rfl rfl))
 refine Eh ?_
 refine bJ ?_
 exact aa.prop (Ev (hnot.all (by omega)))
theorem xh:cQ Tryz.prog 82 [ah 1 aj l] (ak (jC l)):=by
 refine In 25 Tryz.func82 fun _ _ _=> ?_
 refine .fact (t:=0) rfl (fun S w v h=>bH h) fun hlen=> ?_
 refine dH ?_
 refine .aY (σ:=Nat) (fun _=>[]) (fun k=>[(3,ag .i64 (k:Int))]) (fun k=>k≤l.length∧cD (fun b:UInt8=>(b.toNat:Int)≠126∧(b.toNat:Int)≠127) l k) (fun k=>l.length-k) 0 ⟨by omega,cD.zero _ l⟩ rfl ?_ ?_
 · exact (.get rfl (aa.refl _) (.refl _ _))
 rintro k ⟨hk,hnot⟩
 refine Z9 ?_
 refine Cd (fun c0=> ?_) fun c0=> ?_
 ·
  obtain ⟨x,hx⟩:=ai (xs:=l) (k:=k) (by omega)
  refine Z8 ?_
  refine .p (cI _) rfl ?_
  refine Z5 ?_
  refine .g (cr.gT rfl rfl rfl rfl (fun hg=>aP FU.out FC.out rfl (.when (.t rfl) hg) (.when (.t rfl) hg) rfl (by assumption))) rfl rfl ?_
  refine Z5 ?_
  refine Cd (fun c1=> ?_) fun c1=> ?_
  ·
   refine dw ?_
   refine bJ ?_
   exact aa.prop (Is hx (by assumption)).symm
  refine Z8 ?_
  refine .round (k+1) ⟨by omega,hnot.succ hx (by assumption)⟩ (by omega) rfl ?_
  exact (.get rfl (aa.int (by omega)) (.keep 20 rfl rfl))
 refine iw ?_
 refine bJ ?_
 exact aa.prop (Ew (hnot.all (by omega)))
theorem xj {n:Nat} {g:Nat→Int} (aq:n≤281474976710656):cQ Tryz.prog 195 [ag .i64 (n:Int),nt Tryz.prog (fun i:Nat=>i<n) (fun i=>[ag .i64 (i:Int)]) (fun i=>ag .i64 (g i))] (ag .i64 (fK g n)):=by
 refine In 18 Tryz.func195 fun _ _ _=> ?_
 refine jN ?_
 refine .aY (σ:=Nat) (fun _=>[]) (fun k=>[(8,ag .i64 (k:Int))]) (fun k=>k≤n∧fK g k=0) (fun k=>n-k) 0 ⟨by omega,rfl⟩ rfl ?_ ?_
 · exact (.get rfl (aa.refl _) (.refl _ _))
 rintro k ⟨hk,hg⟩
 refine Z6 ?_
 refine Cd (fun c0=> ?_) fun c0=> ?_
 ·
  refine iw ?_
  refine .p (cV k (h:=by show k<n;omega)) rfl ?_
  refine Z9 ?_
  refine Cd (fun c1=> ?_) fun c1=> ?_
  ·
   refine dH ?_
   refine bJ ?_
   exact aa.int (H7 hg c1 (by omega)).symm
  refine Z7 ?_
  refine .round (k+1) ⟨by omega,by simp only [fK,hg];simpa using c1⟩ (by omega) rfl ?_
  exact (.get rfl (aa.int (by omega)) (.keep 12 rfl rfl))
 refine dw ?_
 refine bJ ?_
 exact aa.int (by rw [show n=k by omega];exact hg.symm)
theorem jZ {n:Nat} {most:Int} {g:Nat→Int} (aq:n≤281474976710656):cQ Tryz.prog 187 [ag .i64 (n:Int),ag .i64 most,nt Tryz.prog (fun i:Nat=>i<n) (fun i=>[ag .i64 (i:Int)]) (fun i=>ag .i64 (g i))] (ag .i64 (mR n most g)):=by
 refine In 13 Tryz.func187 fun _ _ _=> ?_
 refine jN ?_
 refine Cd (fun c0=> ?_) fun c0=> ?_
 ·
  refine Z7 ?_
  refine bJ ?_
  exact aa.int (by simp [mR, *])
 refine Z6 ?_
 refine .p (cA (h:=xj (by first|assumption|omega))) rfl ?_
 refine Z4 ?_
 refine bJ ?_
 exact aa.int (by simp [mR, *])
variable {m:aU}
theorem ow:cQ Tryz.prog 194 [cg (bh m)] (ag .i64 (cw m)):=by
 refine In 16 Tryz.func194 fun _ _ _=> ?_
 refine .fact (t:=0) rfl (fun S w v h=>gC h) fun hl=> ?_
 have je:=hl.sigs;have jB:=hl.imports;have kS:=hl.funcs;have kU:=hl.dI;have kV:=hl.globals;have kW:=hl.aV;have kX:=hl.elems;have mo:=hl.bO
 refine dH ?_
 refine Cd (fun c0=> ?_) fun c0=> ?_
 · exact c0.elim
 refine Z3 ?_
 refine .bA 10 2 FM.out (by kernel_rfl) (k:= ?_)
 refine BY ?_
 refine bJ ?_
 exact .z
variable {i:Nat}
theorem EM (aq:i<m.bF.length):cQ Tryz.prog 188 [ag .i64 (i:Int),cg [cg (bh m)]] (ag .i64 (mP m.bF Ip i)):=by
 refine In 14 Tryz.func188 fun _ _ _=> ?_
 refine .fact (t:=1) rfl (fun S w v h=>kI h) fun hl=> ?_
 have je:=hl.sigs;have jB:=hl.imports;have kS:=hl.funcs;have kU:=hl.dI;have kV:=hl.globals;have kW:=hl.aV;have kX:=hl.elems;have mo:=hl.bO
 obtain ⟨x,hx⟩:=ai aq
 refine dH ?_
 refine .p (cI _) rfl ?_
 refine Z1 ?_
 refine .p (cA (h:=EL)) rfl ?_
 refine Z1 ?_
 refine .p (cA (h:=fW)) rfl ?_
 refine Z4 ?_
 refine bJ ?_
 exact aa.int (by rw [jA hx];rfl)
theorem yl (aq:i<m.aA.length):cQ Tryz.prog 191 [ag .i64 (i:Int),cg [cg (bh m)]] (ag .i64 (mP m.aA (fl m) i)):=by
 refine In 32 Tryz.func191 fun _ _ _=> ?_
 refine .fact (t:=1) rfl (fun S w v h=>kI h) fun hl=> ?_
 have je:=hl.sigs;have jB:=hl.imports;have kS:=hl.funcs;have kU:=hl.dI;have kV:=hl.globals;have kW:=hl.aV;have kX:=hl.elems;have mo:=hl.bO
 obtain ⟨x,hx⟩:=ai aq
 refine dH ?_
 refine .p (cI _) rfl ?_
 refine Z1 ?_
 refine .n (az FZ.out) rfl fun b4 _=> ?_
 refine Z3 ?_
 refine .share (t:=4) (i:=0) rfl rfl ?_
 refine Z5 ?_
 refine .p (cA (h:=rQ)) rfl ?_
 refine Z4 ?_
 refine .g (cr.gF rfl rfl rfl rfl (fun hg=>bT (rQ) FB.out (.cons (.when (.t rfl) hg) .nil))) rfl rfl ?_
 refine Z4 ?_
 refine Cd (fun c0=> ?_) fun c0=> ?_
 ·
  refine Z7 ?_
  refine bJ ?_
  exact aa.int (by rw [jA hx];simp only [fl];first|rw [if_pos (by assumption)]|rw [if_neg (by assumption)])
 refine Z3 ?_
 refine .bA 7 4 FM.out (by kernel_rfl) (k:= ?_)
 refine Z8 ?_
 refine .p (cA (h:=mj)) rfl ?_
 refine Z1 ?_
 refine .p (cA (h:=fW)) rfl ?_
 refine Z4 ?_
 refine bJ ?_
 exact aa.int (by rw [jA hx];simp only [fl];first|rw [if_pos (by assumption)]|rw [if_neg (by assumption)])
theorem Cr (aq:i<m.ax.length):cQ Tryz.prog 196 [ag .i64 (i:Int),cg [cg (bh m)]] (ag .i64 (mP m.ax (pT m) i)):=by
 refine In 20 Tryz.func196 fun _ _ _=> ?_
 refine .fact (t:=1) rfl (fun S w v h=>kI h) fun hl=> ?_
 have je:=hl.sigs;have jB:=hl.imports;have kS:=hl.funcs;have kU:=hl.dI;have kV:=hl.globals;have kW:=hl.aV;have kX:=hl.elems;have mo:=hl.bO
 obtain ⟨x,hx⟩:=ai aq
 refine Z6 ?_
 refine .bA 13 4 FM.out (by kernel_rfl) (k:= ?_)
 refine Z5 ?_
 refine .p (cI _) ?_
 refine Z8 ?_
 refine .p (cA (h:=mj)) rfl ?_
 refine Z1 ?_
 refine .p (cA (h:=fW)) rfl ?_
 refine Z4 ?_
 refine bJ ?_
 exact aa.int (by rw [jA hx];rfl)
theorem EN (aq:i<m.bI.length):cQ Tryz.prog 197 [ag .i64 (i:Int),cg [cg (bh m)]] (ag .i64 (mP m.bI K7 i)):=by
 refine In 14 Tryz.func197 fun _ _ _=> ?_
 refine .fact (t:=1) rfl (fun S w v h=>kI h) fun hl=> ?_
 have je:=hl.sigs;have jB:=hl.imports;have kS:=hl.funcs;have kU:=hl.dI;have kV:=hl.globals;have kW:=hl.aV;have kX:=hl.elems;have mo:=hl.bO
 obtain ⟨x,hx⟩:=ai aq
 refine dH ?_
 refine .p (cI _) rfl ?_
 refine Z1 ?_
 refine .p (cA (h:=Cq)) rfl ?_
 refine Z1 ?_
 refine .p (cA (h:=fW)) rfl ?_
 refine Z4 ?_
 refine bJ ?_
 exact aa.int (by rw [jA hx];rfl)
theorem ym (aq:i<m.ay.length):cQ Tryz.prog 199 [ag .i64 (i:Int),cg [cg (bh m)]] (ag .i64 (mP m.ay qB i)):=by
 refine In 27 Tryz.func199 fun _ _ _=> ?_
 refine .fact (t:=1) rfl (fun S w v h=>kI h) fun hl=> ?_
 have je:=hl.sigs;have jB:=hl.imports;have kS:=hl.funcs;have kU:=hl.dI;have kV:=hl.globals;have kW:=hl.aV;have kX:=hl.elems;have mo:=hl.bO
 obtain ⟨x,hx⟩:=ai aq
 refine dH ?_
 refine .p (cI _) rfl ?_
 refine Z1 ?_
 refine .n (az FZ.out) rfl fun b4 _=> ?_
 refine Z3 ?_
 refine .share (t:=4) (i:=0) rfl rfl ?_
 refine Z4 ?_
 refine .p (cA (h:=qD)) rfl ?_
 refine dw ?_
 refine .p (cA (h:=fW)) rfl ?_
 refine Z4 ?_
 refine bJ ?_
 exact aa.int (by rw [jA hx];rfl)
theorem IG:cQ Tryz.prog 146 [cg (bh m)] (ag .i64 (za m)):=by
 refine In 10 Tryz.func146 fun _ _ _=> ?_
 refine .fact (t:=0) rfl (fun S w v h=>gC h) fun hl=> ?_
 have je:=hl.sigs;have jB:=hl.imports;have kS:=hl.funcs;have kU:=hl.dI;have kV:=hl.globals;have kW:=hl.aV;have kX:=hl.elems;have mo:=hl.bO
 refine jN ?_
 refine .p (bX (A:=Nat) (ok:=fun i=>i<m.bF.length) (arg:=fun i=>[ag .i64 (i:Int)]) (res:=fun i=>ag .i64 (mP m.bF Ip i)) FB.out .nil (.cons (.t rfl) .nil) (fun i hi=>EM hi)) rfl ?_
 refine .p (cA (h:=jZ (by first|assumption|omega))) rfl ?_
 refine Z4 ?_
 refine bJ ?_
 exact aa.refl _
theorem Ap:cQ Tryz.prog 147 [cg (bh m)] (ag .i64 (nG m)):=by
 refine In 10 Tryz.func147 fun _ _ _=> ?_
 refine .fact (t:=0) rfl (fun S w v h=>gC h) fun hl=> ?_
 have je:=hl.sigs;have jB:=hl.imports;have kS:=hl.funcs;have kU:=hl.dI;have kV:=hl.globals;have kW:=hl.aV;have kX:=hl.elems;have mo:=hl.bO
 refine jN ?_
 refine .p (bX (A:=Nat) (ok:=fun i=>i<m.aA.length) (arg:=fun i=>[ag .i64 (i:Int)]) (res:=fun i=>ag .i64 (mP m.aA (fl m) i)) FB.out .nil (.cons (.t rfl) .nil) (fun i hi=>yl hi)) rfl ?_
 refine .p (cA (h:=jZ (by first|assumption|omega))) rfl ?_
 refine Z4 ?_
 refine bJ ?_
 exact aa.refl _
theorem II:cQ Tryz.prog 150 [cg (bh m)] (ag .i64 (zc m)):=by
 refine In 10 Tryz.func150 fun _ _ _=> ?_
 refine .fact (t:=0) rfl (fun S w v h=>gC h) fun hl=> ?_
 have je:=hl.sigs;have jB:=hl.imports;have kS:=hl.funcs;have kU:=hl.dI;have kV:=hl.globals;have kW:=hl.aV;have kX:=hl.elems;have mo:=hl.bO
 refine jN ?_
 refine .p (bX (A:=Nat) (ok:=fun i=>i<m.bI.length) (arg:=fun i=>[ag .i64 (i:Int)]) (res:=fun i=>ag .i64 (mP m.bI K7 i)) FB.out .nil (.cons (.t rfl) .nil) (fun i hi=>EN hi)) rfl ?_
 refine .p (cA (h:=jZ (by first|assumption|omega))) rfl ?_
 refine Z4 ?_
 refine bJ ?_
 exact aa.refl _
theorem Aq:cQ Tryz.prog 151 [cg (bh m)] (ag .i64 (nH m)):=by
 refine In 10 Tryz.func151 fun _ _ _=> ?_
 refine .fact (t:=0) rfl (fun S w v h=>gC h) fun hl=> ?_
 have je:=hl.sigs;have jB:=hl.imports;have kS:=hl.funcs;have kU:=hl.dI;have kV:=hl.globals;have kW:=hl.aV;have kX:=hl.elems;have mo:=hl.bO
 refine jN ?_
 refine .p (bX (A:=Nat) (ok:=fun i=>i<m.ay.length) (arg:=fun i=>[ag .i64 (i:Int)]) (res:=fun i=>ag .i64 (mP m.ay qB i)) FB.out .nil (.cons (.t rfl) .nil) (fun i hi=>ym hi)) rfl ?_
 refine .p (cA (h:=jZ (by first|assumption|omega))) rfl ?_
 refine Z4 ?_
 refine bJ ?_
 exact aa.refl _
theorem EO:cQ Tryz.prog 148 [cg (bh m)] (ag .i64 (jD m)):=by
 refine In 13 Tryz.func148 fun _ _ _=> ?_
 refine .fact (t:=0) rfl (fun S w v h=>gC h) fun hl=> ?_
 have je:=hl.sigs;have jB:=hl.imports;have kS:=hl.funcs;have kU:=hl.dI;have kV:=hl.globals;have kW:=hl.aV;have kX:=hl.elems;have mo:=hl.bO
 refine cJ ?_
 refine .p (cA (h:=ow)) rfl ?_
 refine Z3 ?_
 refine Cd (fun c0=> ?_) fun c0=> ?_
 ·
  refine Z7 ?_
  refine bJ ?_
  exact aa.int (by simp [jD, *])
 refine Z9 ?_
 refine .p (bX (A:=Nat) (ok:=fun i=>i<m.ax.length) (arg:=fun i=>[ag .i64 (i:Int)]) (res:=fun i=>ag .i64 (mP m.ax (pT m) i)) FB.out .nil (.cons (.t rfl) .nil) (fun i hi=>Cr hi)) rfl ?_
 refine .p (cA (h:=xj (by first|assumption|omega))) rfl ?_
 refine Z4 ?_
 refine bJ ?_
 exact aa.int (by simp [jD, *])
theorem EP:cQ Tryz.prog 149 [cg (bh m)] (ag .i64 (l9 m)):=by
 refine In 14 Tryz.func149 fun _ _ _=> ?_
 refine mM ?_
 refine Cd (fun c0=> ?_) fun c0=> ?_
 ·
  refine Z7 ?_
  refine bJ ?_
  exact aa.int (by simp [l9, *])
 refine Z9 ?_
 refine .p (cA (h:=fW)) rfl ?_
 refine Z4 ?_
 refine bJ ?_
 exact aa.int (by simp [l9, *])
variable {f:Int}
theorem Cs:cQ Tryz.prog 224 [cg (bh m),ag .i64 f] (bz [ag .i64 ((eJ m f).getD 0),ak (eJ m f).isSome]):=by
 refine In 43 Tryz.func224 fun _ _ _=> ?_
 refine .fact (t:=0) rfl (fun S w v h=>gC h) fun hl=> ?_
 have je:=hl.sigs;have jB:=hl.imports;have kS:=hl.funcs;have kU:=hl.dI;have kV:=hl.globals;have kW:=hl.aV;have kX:=hl.elems;have mo:=hl.bO
 refine XG ?_
 refine .g (cr.gF rfl rfl rfl rfl (fun hg=>bT (ow) FB.out (.cons (.when (.t rfl) hg) .nil))) rfl rfl ?_
 refine Z5 ?_
 refine Cd (fun c0=> ?_) fun c0=> ?_
 ·
  refine Z8 ?_
  refine jr ?_ ?_
  · exact aa.int (by simp [eJ, *])
  exact aa.prop (by simp [eJ, *])
 refine Z8 ?_
 refine Cd (fun c1=> ?_) fun c1=> ?_
 ·
  refine Z1 ?_
  obtain ⟨j,rfl⟩:∃j:Nat,f=(j:Int):=⟨f.toNat,by omega⟩
  obtain ⟨x,hx⟩:=ai (xs:=m.aA) (k:=j) (by omega)
  refine Z6 ?_
  refine .p (cI _) rfl ?_
  refine Z8 ?_
  refine jr ?_ ?_
  · exact aa.int (by rw [pU (by omega) hx];rfl)
  exact aa.prop (by rw [pU (by omega) hx];simp)
 refine Z1 ?_
 obtain ⟨j,rfl⟩:∃j:Nat,f=(m.aA.length:Int)+(j:Int):=⟨(f-m.aA.length).toNat,by omega⟩
 have hcm:cw m=(m.aA.length:Int)+(m.ax.length:Int):=rfl
 obtain ⟨x,hx⟩:=ai (xs:=m.ax) (k:=j) (by omega)
 refine Z8 ?_
 refine .p (cI j) rfl ?_
 refine Z8 ?_
 refine jr ?_ ?_
 · exact aa.int (by rw [sP hx];rfl)
 exact aa.prop (by rw [sP hx];simp)
theorem qE:cQ Tryz.prog 204 [cg (bh m),ag .i64 f] (bz [aE (cj ((gM m f).getD ⟨[],[]⟩)),ak (gM m f).isSome]):=by
 refine In 37 Tryz.func204 fun _ _ _=> ?_
 refine .fact (t:=0) rfl (fun S w v h=>gC h) fun hl=> ?_
 have je:=hl.sigs;have jB:=hl.imports;have kS:=hl.funcs;have kU:=hl.dI;have kV:=hl.globals;have kW:=hl.aV;have kX:=hl.elems;have mo:=hl.bO
 refine Z2 ?_
 refine .n (az FZ.out) rfl fun b4 _=> ?_
 refine cJ ?_
 refine Cd (fun c0=> ?_) fun c0=> ?_
 · exact c0.elim
 refine Z6 ?_
 refine .p (cA (h:=Cs)) rfl ?_
 refine Eh ?_
 refine .g (cr.gF rfl rfl rfl rfl (fun hg=>bT (mj) FB.out (.cons (.when (.t rfl) hg) (.cons (.when (.t rfl) hg) .nil)))) rfl rfl ?_
 refine Z4 ?_
 refine Cd (fun c1=> ?_) fun c1=> ?_
 ·
  refine Z9 ?_
  refine Post.aZ rfl rfl () trivial (fun _ _ _ _=>trivial) rfl (.cons (.ra (i:=0) FA.out FC.out rfl rfl rfl rfl) ?_ (.cons (.rt rfl) ?_ .nil))
  · rw [zf c1];exact aa.Yw (aD _ _) (aD _ _)
  exact aa.prop (by rw [zf c1];simp)
 refine Z3 ?_
 obtain ⟨n,hn⟩:∃n,eJ m f=some n:=Option.isSome_iff_exists.1 (Classical.byContradiction fun h=>c1 (.inl h))
 have hin:iU n m.bF.length:=Classical.byContradiction fun h=>c1 (.inr (by rw [hn];exact h))
 obtain ⟨j,hj⟩:∃j:Nat,n=(j:Int):=⟨n.toNat,by have:=hin.1;omega⟩
 obtain ⟨x,hx⟩:=ai (xs:=m.bF) (k:=j) (by have:=hin.2;omega)
 refine Z6 ?_
 refine .p (cI j (h:=by assumption) (hi:=by rw [hn,hj];rfl)) rfl ?_
 refine Z6 ?_
 refine Post.aZ rfl rfl () trivial (fun _ _ _ _=>trivial) rfl (.cons (.ra (i:=0) FA.out FC.out rfl rfl rfl rfl) ?_ (.cons (.rt rfl) ?_ .nil))
 · rw [zg hn hj hx];exact aa.refl _
 exact aa.prop (by rw [zg hn hj hx];simp)
theorem ER:cQ Tryz.prog 153 [cg (bh m)] (ag .i64 (iJ m)):=by
 refine In 30 Tryz.func153 fun _ _ _=> ?_
 refine .fact (t:=0) rfl (fun S w v h=>gC h) fun hl=> ?_
 have je:=hl.sigs;have jB:=hl.imports;have kS:=hl.funcs;have kU:=hl.dI;have kV:=hl.globals;have kW:=hl.aV;have kX:=hl.elems;have mo:=hl.bO
 refine mM ?_
 refine Cd (fun c0=> ?_) fun c0=> ?_
 ·
  refine Z7 ?_
  refine bJ ?_
  exact aa.int (by simp [iJ, *])
 refine Z9 ?_
 refine .p (cA (h:=qE)) rfl ?_
 refine Z3 ?_
 refine .n (az FZ.out) rfl fun b3 _=> ?_
 refine Z4 ?_
 refine .share (t:=3) (i:=0) rfl rfl ?_
 refine .fact (t:=17) rfl (fun S w v h=>And.intro (fT h 0 rfl) (fT h 1 rfl)) fun tE=> ?_
 obtain ⟨Pm,hs4⟩:=tE
 refine Z7 ?_
 refine Cd (fun c1=> ?_) fun c1=> ?_
 ·
  refine Z7 ?_
  refine bJ ?_
  exact aa.int (Cc c0 c1).symm
 refine dH ?_
 refine .p (cA (h:=fW)) rfl ?_
 refine Z4 ?_
 refine bJ ?_
 exact aa.int (Ce c0 c1).symm
theorem Ct:cQ Tryz.prog 200 [cg (bh m)] (aE [ag .i64 (cnt m 0),ag .i64 (cnt m 1),ag .i64 (cnt m 2),ag .i64 (cnt m 3)]):=by
 refine In 22 Tryz.func200 fun _ _ _=> ?_
 refine .fact (t:=0) rfl (fun S w v h=>gC h) fun hl=> ?_
 have je:=hl.sigs;have jB:=hl.imports;have kS:=hl.funcs;have kU:=hl.dI;have kV:=hl.globals;have kW:=hl.aV;have kX:=hl.elems;have mo:=hl.bO
 refine Z2 ?_
 refine .n (az FZ.out) rfl fun b2 _=> ?_
 refine Z3 ?_
 refine .bA 18 2 FM.out (by kernel_rfl) (k:= ?_)
 refine Z1 ?_
 refine .p (cA (h:=ow)) ?_
 refine Z4 ?_
 refine .p (Kg (.t rfl) (.c _)) ?_
 refine .p (Bx (.t rfl) (.c _)) ?_
 refine dw ?_
 refine .p (fJ FR.out FZ.out (.cons (.t rfl) (.cons (.t rfl) (.cons (.t rfl) (.cons (.t rfl) .nil)))) rfl) rfl ?_
 refine Z4 ?_
 refine Post.aN rfl () trivial (fun _ _ _ _=>trivial) (.ra (i:=0) FA.out FC.out rfl rfl rfl rfl) ?_
 exact aa.refl _
theorem xk {x y:dJ}:cQ Tryz.prog 203 [aE (dK y),cg (dK x)] (ak (y.Name=x.Name)):=by
 refine In 9 Tryz.func203 fun _ _ _=> ?_
 refine J3 ?_
 refine bJ ?_
 exact .z
theorem yo (aq:i<m.bD.length):cQ Tryz.prog 201 [ag .i64 (i:Int),cg [cg (bh m)],cg [ag .i64 (cnt m 0),ag .i64 (cnt m 1),ag .i64 (cnt m 2),ag .i64 (cnt m 3)]] (ag .i64 (iW m i)):=by
 refine In 46 Tryz.func201 fun _ _ _=> ?_
 refine .fact (t:=1) rfl (fun S w v h=>kI h) fun hl=> ?_
 have je:=hl.sigs;have jB:=hl.imports;have kS:=hl.funcs;have kU:=hl.dI;have kV:=hl.globals;have kW:=hl.aV;have kX:=hl.elems;have mo:=hl.bO
 obtain ⟨x,hx⟩:=ai aq
 refine dH ?_
 refine .p (cI _) rfl ?_
 refine Z1 ?_
 refine .n (az FZ.out) rfl fun b5 _=> ?_
 refine Z3 ?_
 refine .share (t:=5) (i:=0) rfl rfl ?_
 refine Z7 ?_
 refine .p (tM FU.out FC.out rfl (.t rfl) (.t rfl) rfl (by omega)) rfl ?_
 refine .p (bX (A:=dJ) (ok:=fun _=>True) (arg:=fun y=>[aE (dK y)]) (res:=fun y=>ak (y.Name=x.Name)) FB.out .nil (.cons (.t rfl) .nil) (fun y _=>xk)) rfl ?_
 refine .p (cA (h:=xg)) rfl ?_
 refine Z8 ?_
 refine .p (cA (h:=rQ)) rfl ?_
 refine Z6 ?_
 refine Cd (fun c0=> ?_) fun c0=> ?_
 ·
  refine Z7 ?_
  refine bJ ?_
  exact aa.int (Ae hx c0).symm
 refine Z3 ?_
 refine .bA 13 5 FM.out (by kernel_rfl) (k:= ?_)
 refine Z2 ?_
 refine .p (cA (h:=mj)) ?_
 refine Z6 ?_
 refine .cons (cr.gF rfl rfl rfl rfl (fun hg=>Bx (.when (.t rfl) hg) (.c _))) ?_
 refine Z1 ?_
 refine .cons (cr.gF rfl rfl rfl rfl (fun hg=>zO (mc x.Kind) FU.out FC.out rfl (.t rfl) (.when (.t rfl) hg) (by unfold mc;omega) (by unfold mc;omega))) ?_
 refine .cons (cr.gF rfl rfl rfl rfl (fun hg=>tJ FA.out (.le (.when (.t rfl) hg) (Nk (Qs m (mc x.Kind) (by unfold mc;omega)))))) ?_
 refine Z1 ?_
 refine .g (cr.gF rfl rfl rfl rfl (fun hg=>bT (mj) FB.out (.cons (.when (.t rfl) hg) (.cons (.when (.t rfl) hg) .nil)))) rfl rfl ?_
 refine Z2 ?_
 refine .p (cA (h:=fW)) rfl ?_
 refine Z4 ?_
 refine bJ ?_
 exact aa.int (sQ hx c0).symm
theorem Ar:cQ Tryz.prog 152 [cg (bh m)] (ag .i64 (me m)):=by
 refine In 13 Tryz.func152 fun _ _ _=> ?_
 refine .fact (t:=0) rfl (fun S w v h=>gC h) fun hl=> ?_
 have je:=hl.sigs;have jB:=hl.imports;have kS:=hl.funcs;have kU:=hl.dI;have kV:=hl.globals;have kW:=hl.aV;have kX:=hl.elems;have mo:=hl.bO
 refine Z9 ?_
 refine .p (cA (h:=Ct)) rfl ?_
 refine .n (az FZ.out) rfl fun b3 _=> ?_
 refine Z3 ?_
 refine .share (t:=3) (i:=0) rfl rfl ?_
 refine Z7 ?_
 refine .p (bX (A:=Nat) (ok:=fun i=>i<m.bD.length) (arg:=fun i=>[ag .i64 (i:Int)]) (res:=fun i=>ag .i64 (iW m i)) FB.out .nil (.cons (.t rfl) (.cons (.t rfl) .nil)) (fun i hi=>yo hi)) rfl ?_
 refine .p (cA (h:=jZ (by first|assumption|omega))) rfl ?_
 refine Z4 ?_
 refine bJ ?_
 exact aa.refl _
theorem As:cQ Tryz.prog 207 [ag .i64 f,cg [cg (bh m)]] (ak (¬iU f (cw m))):=by
 refine In 9 Tryz.func207 fun _ _ _=> ?_
 refine Z9 ?_
 refine .p (cA (h:=ow)) rfl ?_
 refine .p (cA (h:=mj)) rfl ?_
 refine Z5 ?_
 refine bJ ?_
 exact .z
theorem Cu (aq:i<m.bY.length):cQ Tryz.prog 205 [ag .i64 (i:Int),cg [cg (bh m)]] (ag .i64 (mP m.bY (qZ m) i)):=by
 refine In 35 Tryz.func205 fun _ _ _=> ?_
 refine .fact (t:=1) rfl (fun S w v h=>kI h) fun hl=> ?_
 have je:=hl.sigs;have jB:=hl.imports;have kS:=hl.funcs;have kU:=hl.dI;have kV:=hl.globals;have kW:=hl.aV;have kX:=hl.elems;have mo:=hl.bO
 obtain ⟨x,hx⟩:=ai aq
 refine dH ?_
 refine .p (cI _) rfl ?_
 refine Z1 ?_
 refine .n (az FZ.out) rfl fun b4 _=> ?_
 refine Z3 ?_
 refine .share (t:=4) (i:=0) rfl rfl ?_
 refine Z9 ?_
 refine Cd (fun c0=> ?_) fun c0=> ?_
 ·
  refine Z7 ?_
  refine bJ ?_
  exact aa.int (by rw [jA hx];simp [qZ, *])
 refine Z6 ?_
 refine .p (bX (A:=Int) (ok:=fun _=>True) (arg:=fun f=>[ag .i64 f]) (res:=fun f=>ak (¬iU f (cw m))) FB.out .nil (.cons (.t rfl) .nil) (fun f _=>As)) rfl ?_
 refine .p (cA (h:=Cn)) rfl ?_
 refine DP ?_
 refine .p (cA (h:=fW)) rfl ?_
 refine Z4 ?_
 refine bJ ?_
 exact aa.int (by rw [jA hx];exact (Ex c0).symm)
theorem ES:cQ Tryz.prog 154 [cg (bh m)] (ag .i64 (ua m)):=by
 refine In 10 Tryz.func154 fun _ _ _=> ?_
 refine .fact (t:=0) rfl (fun S w v h=>gC h) fun hl=> ?_
 have je:=hl.sigs;have jB:=hl.imports;have kS:=hl.funcs;have kU:=hl.dI;have kV:=hl.globals;have kW:=hl.aV;have kX:=hl.elems;have mo:=hl.bO
 refine jN ?_
 refine .p (bX (A:=Nat) (ok:=fun i=>i<m.bY.length) (arg:=fun i=>[ag .i64 (i:Int)]) (res:=fun i=>ag .i64 (mP m.bY (qZ m) i)) FB.out .nil (.cons (.t rfl) .nil) (fun i hi=>Cu hi)) rfl ?_
 refine .p (cA (h:=jZ (by first|assumption|omega))) rfl ?_
 refine Z4 ?_
 refine bJ ?_
 exact aa.refl _
theorem Cv (aq:i<m.bK.length):cQ Tryz.prog 208 [ag .i64 (i:Int),cg [cg (bh m)]] (ag .i64 (mP m.bK (q6 m) i)):=by
 refine In 51 Tryz.func208 fun _ _ _=> ?_
 refine .fact (t:=1) rfl (fun S w v h=>kI h) fun hl=> ?_
 have je:=hl.sigs;have jB:=hl.imports;have kS:=hl.funcs;have kU:=hl.dI;have kV:=hl.globals;have kW:=hl.aV;have kX:=hl.elems;have mo:=hl.bO
 obtain ⟨x,hx⟩:=ai aq
 refine dH ?_
 refine .p (cI _) rfl ?_
 refine Z1 ?_
 refine .n (az FZ.out) rfl fun b4 _=> ?_
 refine Z3 ?_
 refine .share (t:=4) (i:=0) rfl rfl ?_
 refine Z9 ?_
 refine Cd (fun c0=> ?_) fun c0=> ?_
 ·
  refine Z7 ?_
  refine bJ ?_
  exact aa.int (by rw [jA hx];simp [q6, *])
 refine Z3 ?_
 refine .bA 24 12 FM.out (by kernel_rfl) (k:= ?_)
 refine Z7 ?_
 refine .p (cA (h:=mj)) ?_
 refine iw ?_
 refine .cons (cr.gF rfl rfl rfl rfl (fun hg=>Bx (.when (.t rfl) hg) (.when (.t rfl) hg))) ?_
 refine Z2 ?_
 refine .g (cr.gF rfl rfl rfl rfl (fun hg=>aP (j:=x.Mem.toNat) FU.out FC.out rfl (.when (.t rfl) hg) (.when (.t rfl) hg) (Nt (Classical.not_not.1 hg)) (Cf (Classical.not_not.1 hg)))) rfl rfl ?_
 refine Z9 ?_
 refine .p (cA (h:=fW)) rfl ?_
 refine Z4 ?_
 refine bJ ?_
 exact aa.int (by rw [jA hx];exact (Ey c0).symm)
theorem ET:cQ Tryz.prog 155 [cg (bh m)] (ag .i64 (uc m)):=by
 refine In 10 Tryz.func155 fun _ _ _=> ?_
 refine .fact (t:=0) rfl (fun S w v h=>gC h) fun hl=> ?_
 have je:=hl.sigs;have jB:=hl.imports;have kS:=hl.funcs;have kU:=hl.dI;have kV:=hl.globals;have kW:=hl.aV;have kX:=hl.elems;have mo:=hl.bO
 refine jN ?_
 refine .p (bX (A:=Nat) (ok:=fun i=>i<m.bK.length) (arg:=fun i=>[ag .i64 (i:Int)]) (res:=fun i=>ag .i64 (mP m.bK (q6 m) i)) FB.out .nil (.cons (.t rfl) .nil) (fun i hi=>Cv hi)) rfl ?_
 refine .p (cA (h:=jZ (by first|assumption|omega))) rfl ?_
 refine Z4 ?_
 refine bJ ?_
 exact aa.refl _
theorem Cw:cQ Tryz.prog 129 [cg (bh m)] (bz [cM (rP m).1,ag .i64 (rP m).2]):=by
 refine In 52 Tryz.func129 fun _ _ _=> ?_
 refine Z2 ?_
 refine .p (aX (.s [] rfl rfl)) rfl ?_
 refine cJ ?_
 refine Cd (fun c0=> ?_) fun c0=> ?_
 · exact c0.elim
 refine Z6 ?_
 refine .p (bX (A:=Unit) (ok:=fun _=>True) (arg:=fun _=>[]) (res:=fun _=>ag .i64 (za m)) FB.out (.cons (.t rfl) .nil) .nil (fun _ _=>IG)) rfl ?_
 refine .p (aL FP.out FZ.out (.cons (.s [115,105,103,115] rfl rfl) (.cons (.t rfl) .nil)) rfl) rfl ?_
 refine Z1 ?_
 refine .p (bX (A:=Unit) (ok:=fun _=>True) (arg:=fun _=>[]) (res:=fun _=>ag .i64 (nG m)) FB.out (.cons (.t rfl) .nil) .nil (fun _ _=>Ap)) rfl ?_
 refine .p (aL FP.out FZ.out (.cons (.s [105,109,112,111,114,116,115] rfl rfl) (.cons (.t rfl) .nil)) rfl) rfl ?_
 refine Z1 ?_
 refine .p (bX (A:=Unit) (ok:=fun _=>True) (arg:=fun _=>[]) (res:=fun _=>ag .i64 (jD m)) FB.out (.cons (.t rfl) .nil) .nil (fun _ _=>EO)) rfl ?_
 refine .p (aL FP.out FZ.out (.cons (.s [102,117,110,99,115] rfl rfl) (.cons (.t rfl) .nil)) rfl) rfl ?_
 refine Z1 ?_
 refine .p (bX (A:=Unit) (ok:=fun _=>True) (arg:=fun _=>[]) (res:=fun _=>ag .i64 (l9 m)) FB.out (.cons (.t rfl) .nil) .nil (fun _ _=>EP)) rfl ?_
 refine .p (aL FP.out FZ.out (.cons (.s [116,97,98,108,101] rfl rfl) (.cons (.t rfl) .nil)) rfl) rfl ?_
 refine Z1 ?_
 refine .p (bX (A:=Unit) (ok:=fun _=>True) (arg:=fun _=>[]) (res:=fun _=>ag .i64 (zc m)) FB.out (.cons (.t rfl) .nil) .nil (fun _ _=>II)) rfl ?_
 refine .p (aL FP.out FZ.out (.cons (.s [109,101,109,115] rfl rfl) (.cons (.t rfl) .nil)) rfl) rfl ?_
 refine Z1 ?_
 refine .p (bX (A:=Unit) (ok:=fun _=>True) (arg:=fun _=>[]) (res:=fun _=>ag .i64 (nH m)) FB.out (.cons (.t rfl) .nil) .nil (fun _ _=>Aq)) rfl ?_
 refine .p (aL FP.out FZ.out (.cons (.s [103,108,111,98,97,108,115] rfl rfl) (.cons (.t rfl) .nil)) rfl) rfl ?_
 refine Z1 ?_
 refine .p (bX (A:=Unit) (ok:=fun _=>True) (arg:=fun _=>[]) (res:=fun _=>ag .i64 (me m)) FB.out (.cons (.t rfl) .nil) .nil (fun _ _=>Ar)) rfl ?_
 refine .p (aL FP.out FZ.out (.cons (.s [101,120,112,111,114,116,115] rfl rfl) (.cons (.t rfl) .nil)) rfl) rfl ?_
 refine Z1 ?_
 refine .p (bX (A:=Unit) (ok:=fun _=>True) (arg:=fun _=>[]) (res:=fun _=>ag .i64 (iJ m)) FB.out (.cons (.t rfl) .nil) .nil (fun _ _=>ER)) rfl ?_
 refine .p (aL FP.out FZ.out (.cons (.s [115,116,97,114,116] rfl rfl) (.cons (.t rfl) .nil)) rfl) rfl ?_
 refine Z1 ?_
 refine .p (bX (A:=Unit) (ok:=fun _=>True) (arg:=fun _=>[]) (res:=fun _=>ag .i64 (ua m)) FB.out (.cons (.t rfl) .nil) .nil (fun _ _=>ES)) rfl ?_
 refine .p (aL FP.out FZ.out (.cons (.s [101,108,101,109,115] rfl rfl) (.cons (.t rfl) .nil)) rfl) rfl ?_
 refine Z1 ?_
 refine .p (bX (A:=Unit) (ok:=fun _=>True) (arg:=fun _=>[]) (res:=fun _=>ag .i64 (uc m)) FB.out (.cons (.t rfl) .nil) .nil (fun _ _=>ET)) rfl ?_
 refine .p (aL FP.out FZ.out (.cons (.s [100,97,116,97] rfl rfl) (.cons (.t rfl) .nil)) rfl) rfl ?_
 refine .p (fJ FR.out FZ.out (.cons (.t rfl) (.cons (.t rfl) (.cons (.t rfl) (.cons (.t rfl) (.cons (.t rfl) (.cons (.t rfl) (.cons (.t rfl) (.cons (.t rfl) (.cons (.t rfl) (.cons (.t rfl) .nil)))))))))) rfl) rfl ?_
 refine Z4 ?_
 refine .aY (σ:=Nat) (fun _=>[]) (fun k=>[(40,ag .i64 (k:Int))]) (fun k=>k≤10∧cD (fun p:List UInt8×Int=>p.2≠0) (lg m) k) (fun k=>10-k) 0 ⟨by omega,cD.zero _ _⟩ rfl ?_ ?_
 · exact (.get rfl (aa.refl _) (.refl _ _))
 rintro k ⟨hk,hnot⟩
 refine Z6 ?_
 refine Cd (fun c1=> ?_) fun c1=> ?_
 ·
  obtain ⟨p,hp⟩:=ai (xs:=lg m) (k:=k) (by rw [uj];omega)
  refine Z6 ?_
  refine .p (sF (enc:=vH) (lg m) FU.out FC.out rfl FA.out (.t rfl) rfl rfl (.t rfl) rfl (by assumption)) rfl ?_
  refine .n (az FZ.out) rfl fun b5 _=> ?_
  refine Z3 ?_
  refine .share (t:=5) (i:=0) rfl rfl ?_
  refine Z4 ?_
  refine .p (cV ()) rfl ?_
  refine Z9 ?_
  refine Cd (fun c2=> ?_) fun c2=> ?_
  ·
   refine mM ?_
   refine jr ?_ ?_
   · exact aa.of_eq (by rw [LB hnot hp c2])
   exact aa.of_eq (by rw [LB hnot hp c2])
  refine Z7 ?_
  refine .round (k+1) ⟨by omega,hnot.succ hp (by assumption)⟩ (by omega) rfl ?_
  exact (.get rfl (aa.int (by omega)) (.keep 13 rfl rfl))
 refine Z7 ?_
 refine .p (aX (.s [] rfl rfl)) rfl ?_
 refine Z4 ?_
 refine jr ?_ ?_
 · exact aa.of_eq (by rw [xb (hnot.all (by rw [uj];omega))])
 exact aa.of_eq (by rw [xb (hnot.all (by rw [uj];omega))])
theorem Cx {a b:List UInt8}:cQ Tryz.prog 105 [ah 1 aj a,ah 1 aj b] (ak (a=b)):=by
 refine In 26 Tryz.func105 fun _ _ _=> ?_
 refine .fact (t:=0) rfl (fun S w v h=>bH h) fun hlen=> ?_
 refine mM ?_
 refine Cd (fun c0=> ?_) fun c0=> ?_
 ·
  refine Z7 ?_
  refine bJ ?_
  exact aa.prop (Qt c0).symm
 refine dw ?_
 refine .aY (σ:=Nat) (fun _=>[]) (fun k=>[(13,ag .i64 (k:Int))]) (fun k=>k≤a.length∧Nu a b k) (fun k=>a.length-k) 0 ⟨by omega,Nu.zero _ _⟩ rfl ?_ ?_
 · exact (.get rfl (aa.refl _) (.refl _ _))
 rintro k ⟨hk,heq⟩
 refine Z6 ?_
 refine Cd (fun c1=> ?_) fun c1=> ?_
 ·
  obtain ⟨x,hx⟩:=ai (xs:=a) (k:=k) (by omega)
  obtain ⟨y,hy⟩:=ai (xs:=b) (k:=k) (by omega)
  refine dw ?_
  refine .bA 8 1 FM.out (by kernel_rfl) (k:= ?_)
  refine Z2 ?_
  refine .p (cI _) ?_
  refine Z3 ?_
  refine .p (cI _) ?_
  refine Z5 ?_
  refine .cond (.le (.t rfl) (aa.prop (not_congr zh))) (fun c2=> ?_) (fun c2=> ?_)
  ·
   refine dw ?_
   refine bJ ?_
   exact aa.prop (SQ hx hy c2).symm
  refine Z7 ?_
  refine .round (k+1) ⟨by omega,heq.succ hx hy (Classical.not_not.1 c2)⟩ (by omega) rfl ?_
  exact (.get rfl (aa.int (by omega)) (.keep 15 rfl rfl))
 refine dw ?_
 refine bJ ?_
 exact aa.prop (by simp [heq.all (by omega) (by omega)])
end Go.Proofs.YtpfobikpggmleaaGreatDoor
end
