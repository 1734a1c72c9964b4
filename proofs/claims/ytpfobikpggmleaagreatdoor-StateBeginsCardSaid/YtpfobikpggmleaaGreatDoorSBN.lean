/-
  What the statement's proof leans on, several texts in one (packed by a program).
-/
import Derived.Test.YtpfobikpggmleaaGreatDoorSBM
set_option linter.all false
set_option maxRecDepth 1000000
set_option maxHeartbeats 4000000
section
namespace Go.Proofs.YtpfobikpggmleaaGreatDoor
open Go.Hl Go.RowKit
theorem nP{n m:Int}:cQ Tryz.prog 193 [ag .i64 n,ag .i64 m] (ak (gA n m)):=by
 refine In 12 Tryz.func193 fun _ _ _=>?_;refine BE ?_;refine bB ?_;exact .z
theorem mz{n m:Int}:cQ Tryz.prog 84 [ag .i64 n,ag .i64 m] (ak (gA n m)):=by
 refine In 12 Tryz.func84 fun _ _ _=>?_;refine BE ?_;refine bB ?_;exact .z
theorem iH{p:Prop}{e:Int}:cQ Tryz.prog 189 [ak p,ag .i64 e] (ag .i64 (kn p e)):=by
 refine In 7 Tryz.func189 fun _ _ _=>?_;refine cc ?_;refine Cd (fun c0=>?_) fun c0=>?_
 ·
  refine Z8 ?_;refine bB ?_;exact af.int (by simp[kn, *])
 refine Z8 ?_;refine bB ?_;exact af.int (by simp[kn, *])
theorem s7{t:UInt8}:cQ Tryz.prog 49 [ag .u8 (t.toNat:Int)] (ag .i64 (eP t)):=by
 refine In 8 Tryz.func49 fun _ _ _=>?_;refine BE ?_;refine Cd (fun c0=>?_) fun c0=>?_
 ·
  refine Z8 ?_;refine bB ?_;exact af.int (by simp[eP, *])
 refine Z6 ?_;refine Cd (fun c1=>?_) fun c1=>?_
 ·
  refine Z8 ?_;refine bB ?_;exact af.int (by simp[eP, *])
 refine Z9 ?_;refine bB ?_;exact af.int (by simp[eP, *])
theorem Mm{t:UInt8}:cQ Tryz.prog 239 [ag .u8 (t.toNat:Int)] (ak (eP t=0)):=by
 refine In 6 Tryz.func239 fun _ _ _=>?_;refine Z8 ?_;refine .p (cA (h:=s7)) rfl ?_;refine Z5 ?_;refine bB ?_;exact .z
variable {l:List UInt8}
theorem Dh{p:UInt8→Prop}:cQ Tryz.prog 258 [ai 1 aj l,mM Tryz.prog (fun _:UInt8=>True) (fun x=>[ag .u8 (x.toNat:Int)]) (fun x=>ak (p x))] (ag .i64 (nE p l)):=by
 refine In 19 Tryz.func258 fun _ _ _=>?_;refine .fact (t:=0) rfl (fun S w v h=>bn h) fun hlen=>?_;refine jb ?_;refine .aS (σ:=Nat) (fun _=>[]) (fun k=>[(8,ag .i64 (k:Int))]) (fun k=>k≤l.length∧cT p l k) (fun k=>l.length-k) 0 ⟨by omega,cT.zero p l⟩ rfl ?_ ?_
 · exact(.get rfl (af.refl _) (.refl _ _))
 rintro k ⟨hk,hnot⟩;refine Z6 ?_;refine Cd (fun c0=>?_) fun c0=>?_
 ·
  obtain⟨x,hx⟩:=ah (xs:=l) (k:=k) (by omega);refine kR ?_;refine .p (cI _) rfl ?_;refine Z1 ?_;refine .p (cV x) rfl ?_;refine Z2 ?_;refine Cd (fun c1=>?_) fun c1=>?_
  ·
   refine dN ?_;refine bB ?_;exact af.int (qu hx (by assumption) hnot).symm
  refine Z7 ?_;refine .round (k+1) ⟨by omega,hnot.succ hx (by assumption)⟩ (by omega) rfl ?_;exact(.get rfl (af.int (by omega)) (.keep 12 rfl rfl))
 refine cc ?_;refine bB ?_;exact af.int (nk (hnot.all (by omega))).symm
theorem vt{p:UInt8→Prop}:cQ Tryz.prog 238 [ai 1 aj l,mM Tryz.prog (fun _:UInt8=>True) (fun x=>[ag .u8 (x.toNat:Int)]) (fun x=>ak (p x))] (ak (∃x∈l,p x)):=by
 refine In 9 Tryz.func238 fun _ _ _=>?_;refine Z9 ?_;refine .p (cA (h:=Dh)) rfl ?_;refine Z5 ?_;refine bB ?_;exact af.prop ji
theorem Fp{l:List Int}{p:Int→Prop}:cQ Tryz.prog 225 [ai 1 dc l,mM Tryz.prog (fun _:Int=>True) (fun x=>[ag .i64 x]) (fun x=>ak (p x))] (ag .i64 (nE p l)):=by
 refine In 19 Tryz.func225 fun _ _ _=>?_;refine .fact (t:=0) rfl (fun S w v h=>bn h) fun hlen=>?_;refine jb ?_;refine .aS (σ:=Nat) (fun _=>[]) (fun k=>[(8,ag .i64 (k:Int))]) (fun k=>k≤l.length∧cT p l k) (fun k=>l.length-k) 0 ⟨by omega,cT.zero p l⟩ rfl ?_ ?_
 · exact(.get rfl (af.refl _) (.refl _ _))
 rintro k ⟨hk,hnot⟩;refine Z6 ?_;refine Cd (fun c0=>?_) fun c0=>?_
 ·
  obtain⟨x,hx⟩:=ah (xs:=l) (k:=k) (by omega);refine kR ?_;refine .p (cI _) rfl ?_;refine Z1 ?_;refine .p (cV x) rfl ?_;refine Z2 ?_;refine Cd (fun c1=>?_) fun c1=>?_
  ·
   refine dN ?_;refine bB ?_;exact af.int (qu hx (by assumption) hnot).symm
  refine Z7 ?_;refine .round (k+1) ⟨by omega,hnot.succ hx (by assumption)⟩ (by omega) rfl ?_;exact(.get rfl (af.int (by omega)) (.keep 12 rfl rfl))
 refine cc ?_;refine bB ?_;exact af.int (nk (hnot.all (by omega))).symm
theorem Fq{l:List Int}{p:Int→Prop}:cQ Tryz.prog 206 [ai 1 dc l,mM Tryz.prog (fun _:Int=>True) (fun x=>[ag .i64 x]) (fun x=>ak (p x))] (ak (∃x∈l,p x)):=by
 refine In 9 Tryz.func206 fun _ _ _=>?_;refine Z9 ?_;refine .p (cA (h:=Fp)) rfl ?_;refine Z5 ?_;refine bB ?_;exact af.prop ji
theorem zU{l:List dH}{p:dH→Prop}:cQ Tryz.prog 223 [ai 3 dG l,mM Tryz.prog (fun _:dH=>True) (fun x=>[aC (dG x)]) (fun x=>ak (p x))] (ag .i64 (nE p l)):=by
 refine In 19 Tryz.func223 fun _ _ _=>?_;refine .fact (t:=0) rfl (fun S w v h=>bn h) fun hlen=>?_;refine jb ?_;refine .aS (σ:=Nat) (fun _=>[]) (fun k=>[(8,ag .i64 (k:Int))]) (fun k=>k≤l.length∧cT p l k) (fun k=>l.length-k) 0 ⟨by omega,cT.zero p l⟩ rfl ?_ ?_
 · exact(.get rfl (af.refl _) (.refl _ _))
 rintro k ⟨hk,hnot⟩;refine Z6 ?_;refine Cd (fun c0=>?_) fun c0=>?_
 ·
  obtain⟨x,hx⟩:=ah (xs:=l) (k:=k) (by omega);refine kR ?_;refine .p (cI _) rfl ?_;refine Z1 ?_;refine .p (cV x) rfl ?_;refine Z2 ?_;refine Cd (fun c1=>?_) fun c1=>?_
  ·
   refine dN ?_;refine bB ?_;exact af.int (qu hx (by assumption) hnot).symm
  refine Z7 ?_;refine .round (k+1) ⟨by omega,hnot.succ hx (by assumption)⟩ (by omega) rfl ?_;exact(.get rfl (af.int (by omega)) (.keep 12 rfl rfl))
 refine cc ?_;refine bB ?_;exact af.int (nk (hnot.all (by omega))).symm
theorem zV{l:List dH}{p:dH→Prop}:cQ Tryz.prog 202 [ai 3 dG l,mM Tryz.prog (fun _:dH=>True) (fun x=>[aC (dG x)]) (fun x=>ak (p x))] (ak (∃x∈l,p x)):=by
 refine In 9 Tryz.func202 fun _ _ _=>?_;refine Z9 ?_;refine .p (cA (h:=zU)) rfl ?_;refine Z5 ?_;refine bB ?_;exact af.prop ji
theorem Fs:cQ Tryz.prog 222 [ai 1 aj l] (ak (kZ l)):=by
 refine In 11 Tryz.func222 fun _ _ _=>?_;refine dN ?_;refine .g (bU.gT rfl rfl rfl rfl (fun hg=>bA (vt) FB.out (.cons (.when (.t rfl) hg) (.cons (.le (.f _) (l8 FB.out (fun(b:UInt8) (_:True)=>Mm (t:=b)))) .nil)))) rfl rfl ?_;refine Z6 ?_;refine bB ?_;exact af.prop L7
theorem Iz{s:kY}:cQ Tryz.prog 190 [aC (bS s)] (ak (C7 s)):=by
 refine In 11 Tryz.func190 fun _ _ _=>?_;refine cD ?_;refine .p (cA (h:=Fs)) rfl ?_;refine Z3 ?_;refine .g (bU.gT rfl rfl rfl rfl (fun hg=>bA (Fs) FB.out (.cons (.when (.t rfl) hg) .nil))) rfl rfl ?_;refine Z5 ?_;refine bB ?_;exact .z
theorem Ft{l:dR}{most:Int}:cQ Tryz.prog 198 [aC (ek l),ag .i64 most] (ak (C6 l most)):=by
 refine In 32 Tryz.func198 fun _ _ _=>?_;refine Z39 ?_;refine bB ?_;exact af.prop (by unfold C6;constructor<;>(intro h;omega))
theorem uu:cQ Tryz.prog 192 [cZ l] (ak (jk l)):=by
 refine In 27 Tryz.func192 fun _ _ _=>?_;refine .fact (t:=0) rfl (fun S w v h=>iz h) fun hlen=>?_;refine jb ?_;refine .aS (σ:=Nat) (fun _=>[]) (fun k=>[(6,ag .i64 (k:Int))]) (fun k=>k≤l.length∧cT (fun b:UInt8=>(b.toNat:Int)<33∨126<(b.toNat:Int)) l k) (fun k=>l.length-k) 0 ⟨by omega,cT.zero _ l⟩ rfl ?_ ?_
 · exact(.get rfl (af.refl _) (.refl _ _))
 rintro k ⟨hk,hnot⟩;refine Z6 ?_;refine Cd (fun c0=>?_) fun c0=>?_
 ·
  obtain⟨x,hx⟩:=ah (xs:=l) (k:=k) (by omega);refine jb ?_;refine .p (jO FU.out (.t rfl) (.t rfl) rfl (by assumption)) rfl ?_;refine Z4 ?_;refine .g (bU.gF rfl rfl rfl rfl (fun hg=>jO FU.out (.when (.t rfl) hg) (.when (.t rfl) hg) rfl (by assumption))) rfl rfl ?_;refine Z4 ?_;refine Cd (fun c1=>?_) fun c1=>?_
  ·
   refine cc ?_;refine bB ?_;exact af.prop (BW hx (by assumption)).symm
  refine Z7 ?_;refine .round (k+1) ⟨by omega,hnot.succ hx (by assumption)⟩ (by omega) rfl ?_;exact(.get rfl (af.int (by omega)) (.keep 16 rfl rfl))
 refine Z8 ?_;refine .p (Oe (.t rfl) (.s [] rfl rfl)) rfl ?_;refine Z9 ?_;refine bB ?_;exact af.prop (BX (hnot.all (by omega)))
theorem su:cQ Tryz.prog 83 [cZ l] (ak (jk l)):=by
 refine In 28 Tryz.func83 fun _ _ _=>?_;refine .fact (t:=0) rfl (fun S w v h=>iz h) fun hlen=>?_;refine dN ?_;refine .aS (σ:=Nat) (fun _=>[]) (fun k=>[(3,ag .i64 (k:Int))]) (fun k=>k≤l.length∧cT (fun b:UInt8=>(b.toNat:Int)<33∨126<(b.toNat:Int)) l k) (fun k=>l.length-k) 0 ⟨by omega,cT.zero _ l⟩ rfl ?_ ?_
 · exact(.get rfl (af.refl _) (.refl _ _))
 rintro k ⟨hk,hnot⟩;refine Z9 ?_;refine Cd (fun c0=>?_) fun c0=>?_
 ·
  obtain⟨x,hx⟩:=ah (xs:=l) (k:=k) (by omega);refine Z8 ?_;refine .p (jO FU.out (.t rfl) (.t rfl) rfl (by assumption)) rfl ?_;refine Z4 ?_;refine .g (bU.gF rfl rfl rfl rfl (fun hg=>jO FU.out (.when (.t rfl) hg) (.when (.t rfl) hg) rfl (by assumption))) rfl rfl ?_;refine Z4 ?_;refine Cd (fun c1=>?_) fun c1=>?_
  ·
   refine cc ?_;refine bB ?_;exact af.prop (BW hx (by assumption)).symm
  refine Z8 ?_;refine .round (k+1) ⟨by omega,hnot.succ hx (by assumption)⟩ (by omega) rfl ?_;exact(.get rfl (af.int (by omega)) (.keep 18 rfl rfl))
 refine Ek ?_;refine bB ?_;exact af.prop (Ic (hnot.all (by omega)))
theorem zW:cQ Tryz.prog 82 [ai 1 aj l] (ak (kZ l)):=by
 refine In 25 Tryz.func82 fun _ _ _=>?_;refine .fact (t:=0) rfl (fun S w v h=>bn h) fun hlen=>?_;refine dN ?_;refine .aS (σ:=Nat) (fun _=>[]) (fun k=>[(3,ag .i64 (k:Int))]) (fun k=>k≤l.length∧cT (fun b:UInt8=>(b.toNat:Int)≠126∧(b.toNat:Int)≠127) l k) (fun k=>l.length-k) 0 ⟨by omega,cT.zero _ l⟩ rfl ?_ ?_
 · exact(.get rfl (af.refl _) (.refl _ _))
 rintro k ⟨hk,hnot⟩;refine Z9 ?_;refine Cd (fun c0=>?_) fun c0=>?_
 ·
  obtain⟨x,hx⟩:=ah (xs:=l) (k:=k) (by omega);refine Z8 ?_;refine .p (cI _) rfl ?_;refine Z5 ?_;refine .g (bU.gT rfl rfl rfl rfl (fun hg=>aP FU.out FC.out rfl (.when (.t rfl) hg) (.when (.t rfl) hg) rfl (by assumption))) rfl rfl ?_;refine Z5 ?_;refine Cd (fun c1=>?_) fun c1=>?_
  ·
   refine cc ?_;refine bB ?_;exact af.prop (L9 hx (by assumption)).symm
  refine Z8 ?_;refine .round (k+1) ⟨by omega,hnot.succ hx (by assumption)⟩ (by omega) rfl ?_;exact(.get rfl (af.int (by omega)) (.keep 20 rfl rfl))
 refine jb ?_;refine bB ?_;exact af.prop (Ie (hnot.all (by omega)))
theorem zX{n:Nat}{g:Nat→Int}(az:n≤281474976710656):cQ Tryz.prog 195 [ag .i64 (n:Int),mM Tryz.prog (fun i:Nat=>i<n) (fun i=>[ag .i64 (i:Int)]) (fun i=>ag .i64 (g i))] (ag .i64 (ig g n)):=by
 refine In 18 Tryz.func195 fun _ _ _=>?_;refine jP ?_;refine .aS (σ:=Nat) (fun _=>[]) (fun k=>[(8,ag .i64 (k:Int))]) (fun k=>k≤n∧ig g k=0) (fun k=>n-k) 0 ⟨by omega,rfl⟩ rfl ?_ ?_
 · exact(.get rfl (af.refl _) (.refl _ _))
 rintro k ⟨hk,hg⟩;refine Z6 ?_;refine Cd (fun c0=>?_) fun c0=>?_
 ·
  refine jb ?_;refine .p (cV k (h:=by show k<n;omega)) rfl ?_;refine Z9 ?_;refine Cd (fun c1=>?_) fun c1=>?_
  ·
   refine dN ?_;refine bB ?_;exact af.int (LR hg c1 (by omega)).symm
  refine Z7 ?_;refine .round (k+1) ⟨by omega,by simp only[ig,hg];simpa using c1⟩ (by omega) rfl ?_;exact(.get rfl (af.int (by omega)) (.keep 12 rfl rfl))
 refine cc ?_;refine bB ?_;exact af.int (by rw[show n=k by omega];exact hg.symm)
theorem lX{n:Nat}{most:Int}{g:Nat→Int}(az:n≤281474976710656):cQ Tryz.prog 187 [ag .i64 (n:Int),ag .i64 most,mM Tryz.prog (fun i:Nat=>i<n) (fun i=>[ag .i64 (i:Int)]) (fun i=>ag .i64 (g i))] (ag .i64 (oF n most g)):=by
 refine In 13 Tryz.func187 fun _ _ _=>?_;refine jP ?_;refine Cd (fun c0=>?_) fun c0=>?_
 ·
  refine Z7 ?_;refine bB ?_;exact af.int (by simp[oF, *])
 refine Z6 ?_;refine .p (cA (h:=zX (by first|assumption|omega))) rfl ?_;refine Z4 ?_;refine bB ?_;exact af.int (by simp[oF, *])
variable {m:aT}
theorem qD:cQ Tryz.prog 194 [bT (bf m)] (ag .i64 (cO m)):=by
 refine In 16 Tryz.func194 fun _ _ _=>?_;refine .fact (t:=0) rfl (fun S w v h=>iR h) fun hl=>?_;have j7:=hl.sigs;have kX:=hl.imports;have mG:=hl.funcs;have mH:=hl.ei;have mI:=hl.globals;have mJ:=hl.aZ;have mK:=hl.elems;have nQ:=hl.bX
 refine dN ?_;refine CT fun c0=>?_;refine Z3 ?_;refine .br 10 2 FM.out (by kernel_rfl) (k:= ?_);refine AY ?_;refine bB ?_;exact .z
variable {i:Nat}
theorem IA(az:i<m.bQ.length):cQ Tryz.prog 188 [ag .i64 (i:Int),bT [bT (bf m)]] (ag .i64 (oB m.bQ L6 i)):=by
 refine In 14 Tryz.func188 fun _ _ _=>?_;refine .fact (t:=1) rfl (fun S w v h=>mw h) fun hl=>?_;have j7:=hl.sigs;have kX:=hl.imports;have mG:=hl.funcs;have mH:=hl.ei;have mI:=hl.globals;have mJ:=hl.aZ;have mK:=hl.elems;have nQ:=hl.bX
 obtain⟨x,hx⟩:=ah az;refine dN ?_;refine .p (cI _) rfl ?_;refine Z1 ?_;refine .p (cA (h:=Iz)) rfl ?_;refine Z1 ?_;refine .p (cA (h:=iH)) rfl ?_;refine Z4 ?_;refine bB ?_;exact af.int (by rw[kV hx];rfl)
theorem A2(az:i<m.aJ.length):cQ Tryz.prog 191 [ag .i64 (i:Int),bT [bT (bf m)]] (ag .i64 (oB m.aJ (gB m) i)):=by
 refine In 32 Tryz.func191 fun _ _ _=>?_;refine .fact (t:=1) rfl (fun S w v h=>mw h) fun hl=>?_;have j7:=hl.sigs;have kX:=hl.imports;have mG:=hl.funcs;have mH:=hl.ei;have mI:=hl.globals;have mJ:=hl.aZ;have mK:=hl.elems;have nQ:=hl.bX
 obtain⟨x,hx⟩:=ah az;refine dN ?_;refine .p (cI _) rfl ?_;refine Z1 ?_;refine .n (au FZ.out) rfl fun b4 _=>?_;refine Z3 ?_;refine .share (t:=4) (i:=0) rfl rfl ?_;refine Z5 ?_;refine .p (cA (h:=uu)) rfl ?_;refine Z4 ?_;refine .g (bU.gF rfl rfl rfl rfl (fun hg=>bA (uu) FB.out (.cons (.when (.t rfl) hg) .nil))) rfl rfl ?_;refine Z4 ?_;refine Cd (fun c0=>?_) fun c0=>?_
 ·
  refine Z7 ?_;refine bB ?_;exact af.int (by rw[kV hx];simp only[gB];first|rw[if_pos (by assumption)]|rw[if_neg (by assumption)])
 refine Z3 ?_;refine .br 7 4 FM.out (by kernel_rfl) (k:= ?_);refine Z8 ?_;refine .p (cA (h:=nP)) rfl ?_;refine Z1 ?_;refine .p (cA (h:=iH)) rfl ?_;refine Z4 ?_;refine bB ?_;exact af.int (by rw[kV hx];simp only[gB];first|rw[if_pos (by assumption)]|rw[if_neg (by assumption)])
theorem Fu(az:i<m.aA.length):cQ Tryz.prog 196 [ag .i64 (i:Int),bT [bT (bf m)]] (ag .i64 (oB m.aA (rZ m) i)):=by
 refine In 20 Tryz.func196 fun _ _ _=>?_;refine .fact (t:=1) rfl (fun S w v h=>mw h) fun hl=>?_;have j7:=hl.sigs;have kX:=hl.imports;have mG:=hl.funcs;have mH:=hl.ei;have mI:=hl.globals;have mJ:=hl.aZ;have mK:=hl.elems;have nQ:=hl.bX
 obtain⟨x,hx⟩:=ah az;refine Z6 ?_;refine .br 13 4 FM.out (by kernel_rfl) (k:= ?_);refine Z5 ?_;refine .p (cI _) ?_;refine Z8 ?_;refine .p (cA (h:=nP)) rfl ?_;refine Z1 ?_;refine .p (cA (h:=iH)) rfl ?_;refine Z4 ?_;refine bB ?_;exact af.int (by rw[kV hx];rfl)
theorem IB(az:i<m.bz.length):cQ Tryz.prog 197 [ag .i64 (i:Int),bT [bT (bf m)]] (ag .i64 (oB m.bz Pa i)):=by
 refine In 14 Tryz.func197 fun _ _ _=>?_;refine .fact (t:=1) rfl (fun S w v h=>mw h) fun hl=>?_;have j7:=hl.sigs;have kX:=hl.imports;have mG:=hl.funcs;have mH:=hl.ei;have mI:=hl.globals;have mJ:=hl.aZ;have mK:=hl.elems;have nQ:=hl.bX
 obtain⟨x,hx⟩:=ah az;refine dN ?_;refine .p (cI _) rfl ?_;refine Z1 ?_;refine .p (cA (h:=Ft)) rfl ?_;refine Z1 ?_;refine .p (cA (h:=iH)) rfl ?_;refine Z4 ?_;refine bB ?_;exact af.int (by rw[kV hx];rfl)
theorem A3(az:i<m.an.length):cQ Tryz.prog 199 [ag .i64 (i:Int),bT [bT (bf m)]] (ag .i64 (oB m.an sZ i)):=by
 refine In 27 Tryz.func199 fun _ _ _=>?_;refine .fact (t:=1) rfl (fun S w v h=>mw h) fun hl=>?_;have j7:=hl.sigs;have kX:=hl.imports;have mG:=hl.funcs;have mH:=hl.ei;have mI:=hl.globals;have mJ:=hl.aZ;have mK:=hl.elems;have nQ:=hl.bX
 obtain⟨x,hx⟩:=ah az;refine dN ?_;refine .p (cI _) rfl ?_;refine Z1 ?_;refine .n (au FZ.out) rfl fun b4 _=>?_;refine Z3 ?_;refine .share (t:=4) (i:=0) rfl rfl ?_;refine Z4 ?_;refine .p (cA (h:=s7)) rfl ?_;refine cc ?_;refine .p (cA (h:=iH)) rfl ?_;refine Z4 ?_;refine bB ?_;exact af.int (by rw[kV hx];rfl)
theorem Mn:cQ Tryz.prog 146 [bT (bf m)] (ag .i64 (BU m)):=by
 refine In 10 Tryz.func146 fun _ _ _=>?_;refine .fact (t:=0) rfl (fun S w v h=>iR h) fun hl=>?_;have j7:=hl.sigs;have kX:=hl.imports;have mG:=hl.funcs;have mH:=hl.ei;have mI:=hl.globals;have mJ:=hl.aZ;have mK:=hl.elems;have nQ:=hl.bX
 refine jP ?_;refine .p (cw (A:=Nat) (ok:=fun i=>i<m.bQ.length) (arg:=fun i=>[ag .i64 (i:Int)]) (res:=fun i=>ag .i64 (oB m.bQ L6 i)) FB.out .nil (.cons (.t rfl) .nil) (fun i hi=>IA hi)) rfl ?_;refine .p (cA (h:=lX (by first|assumption|omega))) rfl ?_;refine Z4 ?_;refine bB ?_;exact af.refl _
theorem Di:cQ Tryz.prog 147 [bT (bf m)] (ag .i64 (pM m)):=by
 refine In 10 Tryz.func147 fun _ _ _=>?_;refine .fact (t:=0) rfl (fun S w v h=>iR h) fun hl=>?_;have j7:=hl.sigs;have kX:=hl.imports;have mG:=hl.funcs;have mH:=hl.ei;have mI:=hl.globals;have mJ:=hl.aZ;have mK:=hl.elems;have nQ:=hl.bX
 refine jP ?_;refine .p (cw (A:=Nat) (ok:=fun i=>i<m.aJ.length) (arg:=fun i=>[ag .i64 (i:Int)]) (res:=fun i=>ag .i64 (oB m.aJ (gB m) i)) FB.out .nil (.cons (.t rfl) .nil) (fun i hi=>A2 hi)) rfl ?_;refine .p (cA (h:=lX (by first|assumption|omega))) rfl ?_;refine Z4 ?_;refine bB ?_;exact af.refl _
theorem Mo:cQ Tryz.prog 150 [bT (bf m)] (ag .i64 (BV m)):=by
 refine In 10 Tryz.func150 fun _ _ _=>?_;refine .fact (t:=0) rfl (fun S w v h=>iR h) fun hl=>?_;have j7:=hl.sigs;have kX:=hl.imports;have mG:=hl.funcs;have mH:=hl.ei;have mI:=hl.globals;have mJ:=hl.aZ;have mK:=hl.elems;have nQ:=hl.bX
 refine jP ?_;refine .p (cw (A:=Nat) (ok:=fun i=>i<m.bz.length) (arg:=fun i=>[ag .i64 (i:Int)]) (res:=fun i=>ag .i64 (oB m.bz Pa i)) FB.out .nil (.cons (.t rfl) .nil) (fun i hi=>IB hi)) rfl ?_;refine .p (cA (h:=lX (by first|assumption|omega))) rfl ?_;refine Z4 ?_;refine bB ?_;exact af.refl _
theorem Dj:cQ Tryz.prog 151 [bT (bf m)] (ag .i64 (pN m)):=by
 refine In 10 Tryz.func151 fun _ _ _=>?_;refine .fact (t:=0) rfl (fun S w v h=>iR h) fun hl=>?_;have j7:=hl.sigs;have kX:=hl.imports;have mG:=hl.funcs;have mH:=hl.ei;have mI:=hl.globals;have mJ:=hl.aZ;have mK:=hl.elems;have nQ:=hl.bX
 refine jP ?_;refine .p (cw (A:=Nat) (ok:=fun i=>i<m.an.length) (arg:=fun i=>[ag .i64 (i:Int)]) (res:=fun i=>ag .i64 (oB m.an sZ i)) FB.out .nil (.cons (.t rfl) .nil) (fun i hi=>A3 hi)) rfl ?_;refine .p (cA (h:=lX (by first|assumption|omega))) rfl ?_;refine Z4 ?_;refine bB ?_;exact af.refl _
theorem IC:cQ Tryz.prog 148 [bT (bf m)] (ag .i64 (lg m)):=by
 refine In 13 Tryz.func148 fun _ _ _=>?_;refine .fact (t:=0) rfl (fun S w v h=>iR h) fun hl=>?_;have j7:=hl.sigs;have kX:=hl.imports;have mG:=hl.funcs;have mH:=hl.ei;have mI:=hl.globals;have mJ:=hl.aZ;have mK:=hl.elems;have nQ:=hl.bX
 refine cD ?_;refine .p (cA (h:=qD)) rfl ?_;refine Z3 ?_;refine Cd (fun c0=>?_) fun c0=>?_
 ·
  refine Z7 ?_;refine bB ?_;exact af.int (by simp[lg, *])
 refine Z9 ?_;refine .p (cw (A:=Nat) (ok:=fun i=>i<m.aA.length) (arg:=fun i=>[ag .i64 (i:Int)]) (res:=fun i=>ag .i64 (oB m.aA (rZ m) i)) FB.out .nil (.cons (.t rfl) .nil) (fun i hi=>Fu hi)) rfl ?_;refine .p (cA (h:=zX (by first|assumption|omega))) rfl ?_;refine Z4 ?_;refine bB ?_;exact af.int (by simp[lg, *])
theorem ID:cQ Tryz.prog 149 [bT (bf m)] (ag .i64 (nI m)):=by
 refine In 14 Tryz.func149 fun _ _ _=>?_;refine kR ?_;refine Cd (fun c0=>?_) fun c0=>?_
 ·
  refine Z7 ?_;refine bB ?_;exact af.int (by simp[nI, *])
 refine Z9 ?_;refine .p (cA (h:=iH)) rfl ?_;refine Z4 ?_;refine bB ?_;exact af.int (by simp[nI, *])
variable {f:Int}
theorem Fv:cQ Tryz.prog 224 [bT (bf m),ag .i64 f] (bE [ag .i64 ((fM m f).getD 0),ak (fM m f).isSome]):=by
 refine In 43 Tryz.func224 fun _ _ _=>?_;refine .fact (t:=0) rfl (fun S w v h=>iR h) fun hl=>?_;have j7:=hl.sigs;have kX:=hl.imports;have mG:=hl.funcs;have mH:=hl.ei;have mI:=hl.globals;have mJ:=hl.aZ;have mK:=hl.elems;have nQ:=hl.bX
 refine Z24 ?_;refine .g (bU.gF rfl rfl rfl rfl (fun hg=>bA (qD) FB.out (.cons (.when (.t rfl) hg) .nil))) rfl rfl ?_;refine Z5 ?_;refine Cd (fun c0=>?_) fun c0=>?_
 ·
  refine Z8 ?_;refine j4 ?_ ?_
  · exact af.int (by simp[fM, *])
  exact af.prop (by simp[fM, *])
 refine Z8 ?_;refine Cd (fun c1=>?_) fun c1=>?_
 ·
  refine Z1 ?_;obtain⟨j,rfl⟩:∃j:Nat,f=(j:Int):=⟨f.toNat,by omega⟩;obtain⟨x,hx⟩:=ah (xs:=m.aJ) (k:=j) (by omega);refine Z6 ?_;refine .p (cI _) rfl ?_;refine Z8 ?_;refine j4 ?_ ?_
  · exact af.int (by rw[r7 (by omega) hx];rfl)
  exact af.prop (by rw[r7 (by omega) hx];simp)
 refine Z1 ?_;obtain⟨j,rfl⟩:∃j:Nat,f=(m.aJ.length:Int)+(j:Int):=⟨(f-m.aJ.length).toNat,by omega⟩;have hcm:cO m=(m.aJ.length:Int)+(m.aA.length:Int):=rfl;obtain⟨x,hx⟩:=ah (xs:=m.aA) (k:=j) (by omega);refine Z8 ?_;refine .p (cI j) rfl ?_;refine Z8 ?_;refine j4 ?_ ?_
 · exact af.int (by rw[vj hx];rfl)
 exact af.prop (by rw[vj hx];simp)
theorem s8:cQ Tryz.prog 204 [bT (bf m),ag .i64 f] (bE [aC (bS ((ja m f).getD ⟨[],[]⟩)),ak (ja m f).isSome]):=by
 refine In 37 Tryz.func204 fun _ _ _=>?_;refine .fact (t:=0) rfl (fun S w v h=>iR h) fun hl=>?_;have j7:=hl.sigs;have kX:=hl.imports;have mG:=hl.funcs;have mH:=hl.ei;have mI:=hl.globals;have mJ:=hl.aZ;have mK:=hl.elems;have nQ:=hl.bX
 refine Z2 ?_;refine .n (au FZ.out) rfl fun b4 _=>?_;refine cD ?_;refine CT fun c0=>?_;refine Z6 ?_;refine .p (cA (h:=Fv)) rfl ?_;refine Ek ?_;refine .g (bU.gF rfl rfl rfl rfl (fun hg=>bA (nP) FB.out (.cons (.when (.t rfl) hg) (.cons (.when (.t rfl) hg) .nil)))) rfl rfl ?_;refine Z4 ?_;refine Cd (fun c1=>?_) fun c1=>?_
 ·
  refine Z9 ?_;refine Post.bk rfl rfl () trivial (fun _ _ _ _=>trivial) rfl (.cons (.ra (i:=0) FA.out FC.out rfl rfl rfl rfl) ?_ (.cons (.rt rfl) ?_ .nil))
  · rw[BY c1];exact af.ap2 (aI _ _) (aI _ _)
  exact af.prop (by rw[BY c1];simp)
 refine Z3 ?_;obtain⟨n,hn⟩:∃n,fM m f=some n:=Option.isSome_iff_exists.1 (Classical.byContradiction fun h=>c1 (.inl h));have hin:gA n m.bQ.length:=Classical.byContradiction fun h=>c1 (.inr (by rw[hn];exact h));obtain⟨j,hj⟩:∃j:Nat,n=(j:Int):=⟨n.toNat,by have:=hin.1;omega⟩;obtain⟨x,hx⟩:=ah (xs:=m.bQ) (k:=j) (by have:=hin.2;omega);refine Z6 ?_;refine .p (cI j (h:=by assumption) (hi:=by rw[hn,hj];rfl)) rfl ?_;refine Z6 ?_;refine Post.bk rfl rfl () trivial (fun _ _ _ _=>trivial) rfl (.cons (.ra (i:=0) FA.out FC.out rfl rfl rfl rfl) ?_ (.cons (.rt rfl) ?_ .nil))
 · rw[BZ hn hj hx];exact af.refl _
 exact af.prop (by rw[BZ hn hj hx];simp)
theorem IE:cQ Tryz.prog 153 [bT (bf m)] (ag .i64 (jN m)):=by
 refine In 30 Tryz.func153 fun _ _ _=>?_;refine .fact (t:=0) rfl (fun S w v h=>iR h) fun hl=>?_;have j7:=hl.sigs;have kX:=hl.imports;have mG:=hl.funcs;have mH:=hl.ei;have mI:=hl.globals;have mJ:=hl.aZ;have mK:=hl.elems;have nQ:=hl.bX
 refine kR ?_;refine Cd (fun c0=>?_) fun c0=>?_
 ·
  refine Z7 ?_;refine bB ?_;exact af.int (by simp[jN, *])
 refine Z9 ?_;refine .p (cA (h:=s8)) rfl ?_;refine Z3 ?_;refine .n (au FZ.out) rfl fun b3 _=>?_;refine Z4 ?_;refine .share (t:=3) (i:=0) rfl rfl ?_;refine .fact (t:=17) rfl (fun S w v h=>And.intro (iC h 0 rfl) (iC h 1 rfl)) fun hs2=>?_;obtain⟨TP,hs4⟩:=hs2;refine Z7 ?_;refine Cd (fun c1=>?_) fun c1=>?_
 ·
  refine Z7 ?_;refine bB ?_;exact af.int (Fc c0 c1).symm
 refine dN ?_;refine .p (cA (h:=iH)) rfl ?_;refine Z4 ?_;refine bB ?_;exact af.int (Fe c0 c1).symm
theorem Fw:cQ Tryz.prog 200 [bT (bf m)] (aC [ag .i64 (cnt m 0),ag .i64 (cnt m 1),ag .i64 (cnt m 2),ag .i64 (cnt m 3)]):=by
 refine In 22 Tryz.func200 fun _ _ _=>?_;refine .fact (t:=0) rfl (fun S w v h=>iR h) fun hl=>?_;have j7:=hl.sigs;have kX:=hl.imports;have mG:=hl.funcs;have mH:=hl.ei;have mI:=hl.globals;have mJ:=hl.aZ;have mK:=hl.elems;have nQ:=hl.bX
 refine Z2 ?_;refine .n (au FZ.out) rfl fun b2 _=>?_;refine Z3 ?_;refine .br 18 2 FM.out (by kernel_rfl) (k:= ?_);refine Z1 ?_;refine .p (cA (h:=qD)) ?_;refine Z4 ?_;refine .p (N6 (.t rfl) (.c _)) ?_;refine .p (Ex (.t rfl) (.c _)) ?_;refine cc ?_;refine .p (hU FR.out FZ.out (.cons (.t rfl) (.cons (.t rfl) (.cons (.t rfl) (.cons (.t rfl) .nil)))) rfl) rfl ?_;refine Z4 ?_;refine Post.aR rfl () trivial (fun _ _ _ _=>trivial) (.ra (i:=0) FA.out FC.out rfl rfl rfl rfl) ?_;exact af.refl _
theorem zY{x y:dH}:cQ Tryz.prog 203 [aC (dG y),bT (dG x)] (ak (y.Name=x.Name)):=by
 refine In 9 Tryz.func203 fun _ _ _=>?_;refine EX ?_;refine bB ?_;exact .z
theorem A4(az:i<m.bK.length):cQ Tryz.prog 201 [ag .i64 (i:Int),bT [bT (bf m)],bT [ag .i64 (cnt m 0),ag .i64 (cnt m 1),ag .i64 (cnt m 2),ag .i64 (cnt m 3)]] (ag .i64 (jV m i)):=by
 refine In 46 Tryz.func201 fun _ _ _=>?_;refine .fact (t:=1) rfl (fun S w v h=>mw h) fun hl=>?_;have j7:=hl.sigs;have kX:=hl.imports;have mG:=hl.funcs;have mH:=hl.ei;have mI:=hl.globals;have mJ:=hl.aZ;have mK:=hl.elems;have nQ:=hl.bX
 obtain⟨x,hx⟩:=ah az;refine dN ?_;refine .p (cI _) rfl ?_;refine Z1 ?_;refine .n (au FZ.out) rfl fun b5 _=>?_;refine Z3 ?_;refine .share (t:=5) (i:=0) rfl rfl ?_;refine Z7 ?_;refine .p (wv FU.out FC.out rfl (.t rfl) (.t rfl) rfl (by omega)) rfl ?_;refine .p (cw (A:=dH) (ok:=fun _=>True) (arg:=fun y=>[aC (dG y)]) (res:=fun y=>ak (y.Name=x.Name)) FB.out .nil (.cons (.t rfl) .nil) (fun y _=>zY)) rfl ?_;refine .p (cA (h:=zV)) rfl ?_;refine Z8 ?_;refine .p (cA (h:=uu)) rfl ?_;refine Z6 ?_;refine Cd (fun c0=>?_) fun c0=>?_
 ·
  refine Z7 ?_;refine bB ?_;exact af.int (C8 hx c0).symm
 refine Z3 ?_;refine .br 13 5 FM.out (by kernel_rfl) (k:= ?_);refine Z2 ?_;refine .p (cA (h:=nP)) ?_;refine Z6 ?_;refine .cons (bU.gF rfl rfl rfl rfl (fun hg=>Ex (.when (.t rfl) hg) (.c _))) ?_;refine Z1 ?_;refine .cons (bU.gF rfl rfl rfl rfl (fun hg=>CA (nJ x.Kind) FU.out FC.out rfl (.t rfl) (.when (.t rfl) hg) (by unfold nJ;omega) (by unfold nJ;omega))) ?_;refine .cons (bU.gF rfl rfl rfl rfl (fun hg=>mL FA.out (.le (.when (.t rfl) hg) (Rv (UO m (nJ x.Kind) (by unfold nJ;omega)))))) ?_;refine Z1 ?_;refine .g (bU.gF rfl rfl rfl rfl (fun hg=>bA (nP) FB.out (.cons (.when (.t rfl) hg) (.cons (.when (.t rfl) hg) .nil)))) rfl rfl ?_;refine Z2 ?_;refine .p (cA (h:=iH)) rfl ?_;refine Z4 ?_;refine bB ?_;exact af.int (vk hx c0).symm
theorem Dk:cQ Tryz.prog 152 [bT (bf m)] (ag .i64 (nK m)):=by
 refine In 13 Tryz.func152 fun _ _ _=>?_;refine .fact (t:=0) rfl (fun S w v h=>iR h) fun hl=>?_;have j7:=hl.sigs;have kX:=hl.imports;have mG:=hl.funcs;have mH:=hl.ei;have mI:=hl.globals;have mJ:=hl.aZ;have mK:=hl.elems;have nQ:=hl.bX
 refine Z9 ?_;refine .p (cA (h:=Fw)) rfl ?_;refine .n (au FZ.out) rfl fun b3 _=>?_;refine Z3 ?_;refine .share (t:=3) (i:=0) rfl rfl ?_;refine Z7 ?_;refine .p (cw (A:=Nat) (ok:=fun i=>i<m.bK.length) (arg:=fun i=>[ag .i64 (i:Int)]) (res:=fun i=>ag .i64 (jV m i)) FB.out .nil (.cons (.t rfl) (.cons (.t rfl) .nil)) (fun i hi=>A4 hi)) rfl ?_;refine .p (cA (h:=lX (by first|assumption|omega))) rfl ?_;refine Z4 ?_;refine bB ?_;exact af.refl _
theorem Dl:cQ Tryz.prog 207 [ag .i64 f,bT [bT (bf m)]] (ak (¬gA f (cO m))):=by
 refine In 9 Tryz.func207 fun _ _ _=>?_;refine Z9 ?_;refine .p (cA (h:=qD)) rfl ?_;refine .p (cA (h:=nP)) rfl ?_;refine Z5 ?_;refine bB ?_;exact .z
theorem Fx(az:i<m.bw.length):cQ Tryz.prog 205 [ag .i64 (i:Int),bT [bT (bf m)]] (ag .i64 (oB m.bw (tI m) i)):=by
 refine In 35 Tryz.func205 fun _ _ _=>?_;refine .fact (t:=1) rfl (fun S w v h=>mw h) fun hl=>?_;have j7:=hl.sigs;have kX:=hl.imports;have mG:=hl.funcs;have mH:=hl.ei;have mI:=hl.globals;have mJ:=hl.aZ;have mK:=hl.elems;have nQ:=hl.bX
 obtain⟨x,hx⟩:=ah az;refine dN ?_;refine .p (cI _) rfl ?_;refine Z1 ?_;refine .n (au FZ.out) rfl fun b4 _=>?_;refine Z3 ?_;refine .share (t:=4) (i:=0) rfl rfl ?_;refine Z9 ?_;refine Cd (fun c0=>?_) fun c0=>?_
 ·
  refine Z7 ?_;refine bB ?_;exact af.int (by rw[kV hx];simp[tI, *])
 refine Z6 ?_;refine .p (cw (A:=Int) (ok:=fun _=>True) (arg:=fun f=>[ag .i64 f]) (res:=fun f=>ak (¬gA f (cO m))) FB.out .nil (.cons (.t rfl) .nil) (fun f _=>Dl)) rfl ?_;refine .p (cA (h:=Fq)) rfl ?_;refine BE ?_;refine .p (cA (h:=iH)) rfl ?_;refine Z4 ?_;refine bB ?_;exact af.int (by rw[kV hx];exact(Ig c0).symm)
theorem IF:cQ Tryz.prog 154 [bT (bf m)] (ag .i64 (wN m)):=by
 refine In 10 Tryz.func154 fun _ _ _=>?_;refine .fact (t:=0) rfl (fun S w v h=>iR h) fun hl=>?_;have j7:=hl.sigs;have kX:=hl.imports;have mG:=hl.funcs;have mH:=hl.ei;have mI:=hl.globals;have mJ:=hl.aZ;have mK:=hl.elems;have nQ:=hl.bX
 refine jP ?_;refine .p (cw (A:=Nat) (ok:=fun i=>i<m.bw.length) (arg:=fun i=>[ag .i64 (i:Int)]) (res:=fun i=>ag .i64 (oB m.bw (tI m) i)) FB.out .nil (.cons (.t rfl) .nil) (fun i hi=>Fx hi)) rfl ?_;refine .p (cA (h:=lX (by first|assumption|omega))) rfl ?_;refine Z4 ?_;refine bB ?_;exact af.refl _
theorem Fy(az:i<m.bl.length):cQ Tryz.prog 208 [ag .i64 (i:Int),bT [bT (bf m)]] (ag .i64 (oB m.bl (tJ m) i)):=by
 refine In 51 Tryz.func208 fun _ _ _=>?_;refine .fact (t:=1) rfl (fun S w v h=>mw h) fun hl=>?_;have j7:=hl.sigs;have kX:=hl.imports;have mG:=hl.funcs;have mH:=hl.ei;have mI:=hl.globals;have mJ:=hl.aZ;have mK:=hl.elems;have nQ:=hl.bX
 obtain⟨x,hx⟩:=ah az;refine dN ?_;refine .p (cI _) rfl ?_;refine Z1 ?_;refine .n (au FZ.out) rfl fun b4 _=>?_;refine Z3 ?_;refine .share (t:=4) (i:=0) rfl rfl ?_;refine Z9 ?_;refine Cd (fun c0=>?_) fun c0=>?_
 ·
  refine Z7 ?_;refine bB ?_;exact af.int (by rw[kV hx];simp[tJ, *])
 refine Z3 ?_;refine .br 24 12 FM.out (by kernel_rfl) (k:= ?_);refine Z7 ?_;refine .p (cA (h:=nP)) ?_;refine jb ?_;refine .cons (bU.gF rfl rfl rfl rfl (fun hg=>Ex (.when (.t rfl) hg) (.when (.t rfl) hg))) ?_;refine Z2 ?_;refine .g (bU.gF rfl rfl rfl rfl (fun hg=>aP (j:=x.Mem.toNat) FU.out FC.out rfl (.when (.t rfl) hg) (.when (.t rfl) hg) (RH (Classical.not_not.1 hg)) (Ff (Classical.not_not.1 hg)))) rfl rfl ?_;refine Z9 ?_;refine .p (cA (h:=iH)) rfl ?_;refine Z4 ?_;refine bB ?_;exact af.int (by rw[kV hx];exact(Ih c0).symm)
theorem IG:cQ Tryz.prog 155 [bT (bf m)] (ag .i64 (wO m)):=by
 refine In 10 Tryz.func155 fun _ _ _=>?_;refine .fact (t:=0) rfl (fun S w v h=>iR h) fun hl=>?_;have j7:=hl.sigs;have kX:=hl.imports;have mG:=hl.funcs;have mH:=hl.ei;have mI:=hl.globals;have mJ:=hl.aZ;have mK:=hl.elems;have nQ:=hl.bX
 refine jP ?_;refine .p (cw (A:=Nat) (ok:=fun i=>i<m.bl.length) (arg:=fun i=>[ag .i64 (i:Int)]) (res:=fun i=>ag .i64 (oB m.bl (tJ m) i)) FB.out .nil (.cons (.t rfl) .nil) (fun i hi=>Fy hi)) rfl ?_;refine .p (cA (h:=lX (by first|assumption|omega))) rfl ?_;refine Z4 ?_;refine bB ?_;exact af.refl _
theorem Fz:cQ Tryz.prog 129 [bT (bf m)] (bE [cZ (ur m).1,ag .i64 (ur m).2]):=by
 refine In 52 Tryz.func129 fun _ _ _=>?_;refine Z2 ?_;refine .p (bh (.s [] rfl rfl)) rfl ?_;refine cD ?_;refine CT fun c0=>?_;refine Z6 ?_;refine .p (cw (A:=Unit) (ok:=fun _=>True) (arg:=fun _=>[]) (res:=fun _=>ag .i64 (BU m)) FB.out (.cons (.t rfl) .nil) .nil (fun _ _=>Mn)) rfl ?_;refine .p (aN FP.out FZ.out (.cons (.s [115,105,103,115] rfl rfl) (.cons (.t rfl) .nil)) rfl) rfl ?_;refine Z1 ?_;refine .p (cw (A:=Unit) (ok:=fun _=>True) (arg:=fun _=>[]) (res:=fun _=>ag .i64 (pM m)) FB.out (.cons (.t rfl) .nil) .nil (fun _ _=>Di)) rfl ?_;refine .p (aN FP.out FZ.out (.cons (.s [105,109,112,111,114,116,115] rfl rfl) (.cons (.t rfl) .nil)) rfl) rfl ?_;refine Z1 ?_;refine .p (cw (A:=Unit) (ok:=fun _=>True) (arg:=fun _=>[]) (res:=fun _=>ag .i64 (lg m)) FB.out (.cons (.t rfl) .nil) .nil (fun _ _=>IC)) rfl ?_;refine .p (aN FP.out FZ.out (.cons (.s [102,117,110,99,115] rfl rfl) (.cons (.t rfl) .nil)) rfl) rfl ?_;refine Z1 ?_;refine .p (cw (A:=Unit) (ok:=fun _=>True) (arg:=fun _=>[]) (res:=fun _=>ag .i64 (nI m)) FB.out (.cons (.t rfl) .nil) .nil (fun _ _=>ID)) rfl ?_;refine .p (aN FP.out FZ.out (.cons (.s [116,97,98,108,101] rfl rfl) (.cons (.t rfl) .nil)) rfl) rfl ?_;refine Z1 ?_;refine .p (cw (A:=Unit) (ok:=fun _=>True) (arg:=fun _=>[]) (res:=fun _=>ag .i64 (BV m)) FB.out (.cons (.t rfl) .nil) .nil (fun _ _=>Mo)) rfl ?_;refine .p (aN FP.out FZ.out (.cons (.s [109,101,109,115] rfl rfl) (.cons (.t rfl) .nil)) rfl) rfl ?_;refine Z1 ?_;refine .p (cw (A:=Unit) (ok:=fun _=>True) (arg:=fun _=>[]) (res:=fun _=>ag .i64 (pN m)) FB.out (.cons (.t rfl) .nil) .nil (fun _ _=>Dj)) rfl ?_;refine .p (aN FP.out FZ.out (.cons (.s [103,108,111,98,97,108,115] rfl rfl) (.cons (.t rfl) .nil)) rfl) rfl ?_;refine Z1 ?_;refine .p (cw (A:=Unit) (ok:=fun _=>True) (arg:=fun _=>[]) (res:=fun _=>ag .i64 (nK m)) FB.out (.cons (.t rfl) .nil) .nil (fun _ _=>Dk)) rfl ?_;refine .p (aN FP.out FZ.out (.cons (.s [101,120,112,111,114,116,115] rfl rfl) (.cons (.t rfl) .nil)) rfl) rfl ?_;refine Z1 ?_;refine .p (cw (A:=Unit) (ok:=fun _=>True) (arg:=fun _=>[]) (res:=fun _=>ag .i64 (jN m)) FB.out (.cons (.t rfl) .nil) .nil (fun _ _=>IE)) rfl ?_;refine .p (aN FP.out FZ.out (.cons (.s [115,116,97,114,116] rfl rfl) (.cons (.t rfl) .nil)) rfl) rfl ?_;refine Z1 ?_;refine .p (cw (A:=Unit) (ok:=fun _=>True) (arg:=fun _=>[]) (res:=fun _=>ag .i64 (wN m)) FB.out (.cons (.t rfl) .nil) .nil (fun _ _=>IF)) rfl ?_;refine .p (aN FP.out FZ.out (.cons (.s [101,108,101,109,115] rfl rfl) (.cons (.t rfl) .nil)) rfl) rfl ?_;refine Z1 ?_;refine .p (cw (A:=Unit) (ok:=fun _=>True) (arg:=fun _=>[]) (res:=fun _=>ag .i64 (wO m)) FB.out (.cons (.t rfl) .nil) .nil (fun _ _=>IG)) rfl ?_;refine .p (aN FP.out FZ.out (.cons (.s [100,97,116,97] rfl rfl) (.cons (.t rfl) .nil)) rfl) rfl ?_;refine .p (hU FR.out FZ.out (.cons (.t rfl) (.cons (.t rfl) (.cons (.t rfl) (.cons (.t rfl) (.cons (.t rfl) (.cons (.t rfl) (.cons (.t rfl) (.cons (.t rfl) (.cons (.t rfl) (.cons (.t rfl) .nil)))))))))) rfl) rfl ?_;refine Z4 ?_;refine .aS (σ:=Nat) (fun _=>[]) (fun k=>[(40,ag .i64 (k:Int))]) (fun k=>k≤10∧cT (fun p:List UInt8×Int=>p.2≠0) (mR m) k) (fun k=>10-k) 0 ⟨by omega,cT.zero _ _⟩ rfl ?_ ?_
 · exact(.get rfl (af.refl _) (.refl _ _))
 rintro k ⟨hk,hnot⟩;refine Z6 ?_;refine Cd (fun c1=>?_) fun c1=>?_
 ·
  obtain⟨p,hp⟩:=ah (xs:=mR m) (k:=k) (by rw[wV];omega);refine Z6 ?_;refine .p (uT (enc:=yG) (mR m) FU.out FC.out rfl FA.out (.t rfl) rfl rfl (.t rfl) rfl (by assumption)) rfl ?_;refine .n (au FZ.out) rfl fun b5 _=>?_;refine Z3 ?_;refine .share (t:=5) (i:=0) rfl rfl ?_;refine Z4 ?_;refine .p (cV ()) rfl ?_;refine Z9 ?_;refine Cd (fun c2=>?_) fun c2=>?_
  ·
   refine kR ?_;refine j4 ?_ ?_
   · exact af.of_eq (by rw[Px hnot hp c2])
   exact af.of_eq (by rw[Px hnot hp c2])
  refine Z7 ?_;refine .round (k+1) ⟨by omega,hnot.succ hp (by assumption)⟩ (by omega) rfl ?_;exact(.get rfl (af.int (by omega)) (.keep 13 rfl rfl))
 refine Z7 ?_;refine .p (bh (.s [] rfl rfl)) rfl ?_;refine Z4 ?_;refine j4 ?_ ?_
 · exact af.of_eq (by rw[zT (hnot.all (by rw[wV];omega))])
 exact af.of_eq (by rw[zT (hnot.all (by rw[wV];omega))])
theorem oH{a b:List UInt8}:cQ Tryz.prog 105 [ai 1 aj a,ai 1 aj b] (ak (a=b)):=by
 refine In 26 Tryz.func105 fun _ _ _=>?_;refine .fact (t:=0) rfl (fun S w v h=>bn h) fun hlen=>?_;refine kR ?_;refine Cd (fun c0=>?_) fun c0=>?_
 ·
  refine Z7 ?_;refine bB ?_;exact af.prop (mQ c0).symm
 refine cc ?_;refine .aS (σ:=Nat) (fun _=>[]) (fun k=>[(13,ag .i64 (k:Int))]) (fun k=>k≤a.length∧ue a b k) (fun k=>a.length-k) 0 ⟨by omega,ue.zero _ _⟩ rfl ?_ ?_
 · exact(.get rfl (af.refl _) (.refl _ _))
 rintro k ⟨hk,heq⟩;refine Z6 ?_;refine Cd (fun c1=>?_) fun c1=>?_
 ·
  obtain⟨x,hx⟩:=ah (xs:=a) (k:=k) (by omega);obtain⟨y,hy⟩:=ah (xs:=b) (k:=k) (by omega);refine cc ?_;refine .br 8 1 FM.out (by kernel_rfl) (k:= ?_);refine Z2 ?_;refine .p (cI _) ?_;refine Z3 ?_;refine .p (cI _) ?_;refine Z5 ?_;refine .cond (.le (.t rfl) (af.prop (not_congr zL))) (fun c2=>?_) (fun c2=>?_)
  ·
   refine cc ?_;refine bB ?_;exact af.prop (q9 hx hy c2).symm
  refine Z7 ?_;refine .round (k+1) ⟨by omega,heq.succ hx hy (Classical.not_not.1 c2)⟩ (by omega) rfl ?_;exact(.get rfl (af.int (by omega)) (.keep 15 rfl rfl))
 refine cc ?_;refine bB ?_;exact af.prop (by simp[heq.all (by omega) (by omega)])
theorem II{a b:List Int}:cQ Tryz.prog 64 [ai 1 dc a,ai 1 dc b] (ak (a=b)):=by
 refine In 26 Tryz.func64 fun _ _ _=>?_;refine .fact (t:=0) rfl (fun S w v h=>bn h) fun hlen=>?_;refine kR ?_;refine Cd (fun c0=>?_) fun c0=>?_
 ·
  refine Z7 ?_;refine bB ?_;exact af.prop (mQ c0).symm
 refine cc ?_;refine .aS (σ:=Nat) (fun _=>[]) (fun k=>[(13,ag .i64 (k:Int))]) (fun k=>k≤a.length∧ue a b k) (fun k=>a.length-k) 0 ⟨by omega,ue.zero _ _⟩ rfl ?_ ?_
 · exact(.get rfl (af.refl _) (.refl _ _))
 rintro k ⟨hk,heq⟩;refine Z6 ?_;refine Cd (fun c1=>?_) fun c1=>?_
 ·
  obtain⟨x,hx⟩:=ah (xs:=a) (k:=k) (by omega);obtain⟨y,hy⟩:=ah (xs:=b) (k:=k) (by omega);refine cc ?_;refine .br 8 1 FM.out (by kernel_rfl) (k:= ?_);refine Z2 ?_;refine .p (cI _) ?_;refine Z3 ?_;refine .p (cI _) ?_;refine Z5 ?_;refine Cd (fun c2=>?_) fun c2=>?_
  ·
   refine cc ?_;refine bB ?_;exact af.prop (q9 hx hy c2).symm
  refine Z7 ?_;refine .round (k+1) ⟨by omega,heq.succ hx hy (Classical.not_not.1 c2)⟩ (by omega) rfl ?_;exact(.get rfl (af.int (by omega)) (.keep 15 rfl rfl))
 refine cc ?_;refine bB ?_;exact af.prop (by simp[heq.all (by omega) (by omega)])
theorem IJ{a b:List Int}:cQ Tryz.prog 128 [ai 1 dh a,ai 1 dh b] (ak (a=b)):=by
 refine In 26 Tryz.func128 fun _ _ _=>?_;refine .fact (t:=0) rfl (fun S w v h=>bn h) fun hlen=>?_;refine kR ?_;refine Cd (fun c0=>?_) fun c0=>?_
 ·
  refine Z7 ?_;refine bB ?_;exact af.prop (mQ c0).symm
 refine cc ?_;refine .aS (σ:=Nat) (fun _=>[]) (fun k=>[(13,ag .i64 (k:Int))]) (fun k=>k≤a.length∧ue a b k) (fun k=>a.length-k) 0 ⟨by omega,ue.zero _ _⟩ rfl ?_ ?_
 · exact(.get rfl (af.refl _) (.refl _ _))
 rintro k ⟨hk,heq⟩;refine Z6 ?_;refine Cd (fun c1=>?_) fun c1=>?_
 ·
  obtain⟨x,hx⟩:=ah (xs:=a) (k:=k) (by omega);obtain⟨y,hy⟩:=ah (xs:=b) (k:=k) (by omega);refine cc ?_;refine .br 8 1 FM.out (by kernel_rfl) (k:= ?_);refine Z2 ?_;refine .p (cI _) ?_;refine Z3 ?_;refine .p (cI _) ?_;refine Z5 ?_;refine Cd (fun c2=>?_) fun c2=>?_
  ·
   refine cc ?_;refine bB ?_;exact af.prop (q9 hx hy c2).symm
  refine Z7 ?_;refine .round (k+1) ⟨by omega,heq.succ hx hy (Classical.not_not.1 c2)⟩ (by omega) rfl ?_;exact(.get rfl (af.int (by omega)) (.keep 15 rfl rfl))
 refine cc ?_;refine bB ?_;exact af.prop (by simp[heq.all (by omega) (by omega)])
theorem A5{a b:List gu}:cQ Tryz.prog 70 [ai 3 iG a,ai 3 iG b] (ak (a=b)):=by
 refine In 26 Tryz.func70 fun _ _ _=>?_;refine .fact (t:=0) rfl (fun S w v h=>bn h) fun hlen=>?_;refine kR ?_;refine Cd (fun c0=>?_) fun c0=>?_
 ·
  refine Z7 ?_;refine bB ?_;exact af.prop (mQ c0).symm
 refine cc ?_;refine .aS (σ:=Nat) (fun _=>[]) (fun k=>[(13,ag .i64 (k:Int))]) (fun k=>k≤a.length∧ue a b k) (fun k=>a.length-k) 0 ⟨by omega,ue.zero _ _⟩ rfl ?_ ?_
 · exact(.get rfl (af.refl _) (.refl _ _))
 rintro k ⟨hk,heq⟩;refine Z6 ?_;refine Cd (fun c1=>?_) fun c1=>?_
 ·
  obtain⟨x,hx⟩:=ah (xs:=a) (k:=k) (by omega);obtain⟨y,hy⟩:=ah (xs:=b) (k:=k) (by omega);refine cc ?_;refine .br 8 1 FM.out (by kernel_rfl) (k:= ?_);refine Z2 ?_;refine .p (cI _) ?_;refine Z3 ?_;refine .p (cI _) ?_;refine Z2 ?_;refine .p (CB Tryz.underlying185 Tryz.W6 Tryz.W7 (.t rfl) (.t rfl) (.cons (by decide) rfl rfl (.str FU.out) (.cons (by decide) rfl rfl (.str FU.out) (.cons (by decide) rfl rfl (.int FU.out) .nil)))) rfl ?_;refine Z2 ?_;refine .cond (.le (.t rfl) (af.prop (not_congr Ma))) (fun c2=>?_) (fun c2=>?_)
  ·
   refine cc ?_;refine bB ?_;exact af.prop (q9 hx hy c2).symm
  refine Z7 ?_;refine .round (k+1) ⟨by omega,heq.succ hx hy (Classical.not_not.1 c2)⟩ (by omega) rfl ?_;exact(.get rfl (af.int (by omega)) (.keep 15 rfl rfl))
 refine cc ?_;refine bB ?_;exact af.prop (by simp[heq.all (by omega) (by omega)])
theorem A6{a b:List dR}:cQ Tryz.prog 71 [ai 3 ek a,ai 3 ek b] (ak (a=b)):=by
 refine In 26 Tryz.func71 fun _ _ _=>?_;refine .fact (t:=0) rfl (fun S w v h=>bn h) fun hlen=>?_;refine kR ?_;refine Cd (fun c0=>?_) fun c0=>?_
 ·
  refine Z7 ?_;refine bB ?_;exact af.prop (mQ c0).symm
 refine cc ?_;refine .aS (σ:=Nat) (fun _=>[]) (fun k=>[(13,ag .i64 (k:Int))]) (fun k=>k≤a.length∧ue a b k) (fun k=>a.length-k) 0 ⟨by omega,ue.zero _ _⟩ rfl ?_ ?_
 · exact(.get rfl (af.refl _) (.refl _ _))
 rintro k ⟨hk,heq⟩;refine Z6 ?_;refine Cd (fun c1=>?_) fun c1=>?_
 ·
  obtain⟨x,hx⟩:=ah (xs:=a) (k:=k) (by omega);obtain⟨y,hy⟩:=ah (xs:=b) (k:=k) (by omega);refine cc ?_;refine .br 8 1 FM.out (by kernel_rfl) (k:= ?_);refine Z2 ?_;refine .p (cI _) ?_;refine Z3 ?_;refine .p (cI _) ?_;refine Z2 ?_;refine .p (CB Tryz.underlying141 Tryz.W4 Tryz.W5 (.t rfl) (.t rfl) (.cons (by decide) rfl rfl (.int FU.out) (.cons (by decide) rfl rfl (.int FU.out) (.cons (by decide) rfl rfl (.bool FU.out) .nil)))) rfl ?_;refine Z2 ?_;refine .cond (.le (.t rfl) (af.prop (not_congr Mb))) (fun c2=>?_) (fun c2=>?_)
  ·
   refine cc ?_;refine bB ?_;exact af.prop (q9 hx hy c2).symm
  refine Z7 ?_;refine .round (k+1) ⟨by omega,heq.succ hx hy (Classical.not_not.1 c2)⟩ (by omega) rfl ?_;exact(.get rfl (af.int (by omega)) (.keep 15 rfl rfl))
 refine cc ?_;refine bB ?_;exact af.prop (by simp[heq.all (by omega) (by omega)])
theorem A7{a b:List gy}:cQ Tryz.prog 72 [ai 3 dX a,ai 3 dX b] (ak (a=b)):=by
 refine In 26 Tryz.func72 fun _ _ _=>?_;refine .fact (t:=0) rfl (fun S w v h=>bn h) fun hlen=>?_;refine kR ?_;refine Cd (fun c0=>?_) fun c0=>?_
 ·
  refine Z7 ?_;refine bB ?_;exact af.prop (mQ c0).symm
 refine cc ?_;refine .aS (σ:=Nat) (fun _=>[]) (fun k=>[(13,ag .i64 (k:Int))]) (fun k=>k≤a.length∧ue a b k) (fun k=>a.length-k) 0 ⟨by omega,ue.zero _ _⟩ rfl ?_ ?_
 · exact(.get rfl (af.refl _) (.refl _ _))
 rintro k ⟨hk,heq⟩;refine Z6 ?_;refine Cd (fun c1=>?_) fun c1=>?_
 ·
  obtain⟨x,hx⟩:=ah (xs:=a) (k:=k) (by omega);obtain⟨y,hy⟩:=ah (xs:=b) (k:=k) (by omega);refine cc ?_;refine .br 8 1 FM.out (by kernel_rfl) (k:= ?_);refine Z2 ?_;refine .p (cI _) ?_;refine Z3 ?_;refine .p (cI _) ?_;refine Z2 ?_;refine .p (CB Tryz.underlying81 Tryz.am7 Tryz.am8 (.t rfl) (.t rfl) (.cons (by decide) rfl rfl (.int FU.out) (.cons (by decide) rfl rfl (.bool FU.out) (.cons (by decide) rfl rfl (.int FU.out) .nil)))) rfl ?_;refine Z2 ?_;refine .cond (.le (.t rfl) (af.prop (not_congr Mc))) (fun c2=>?_) (fun c2=>?_)
  ·
   refine cc ?_;refine bB ?_;exact af.prop (q9 hx hy c2).symm
  refine Z7 ?_;refine .round (k+1) ⟨by omega,heq.succ hx hy (Classical.not_not.1 c2)⟩ (by omega) rfl ?_;exact(.get rfl (af.int (by omega)) (.keep 15 rfl rfl))
 refine cc ?_;refine bB ?_;exact af.prop (by simp[heq.all (by omega) (by omega)])
theorem A8{a b:List dH}:cQ Tryz.prog 73 [ai 3 dG a,ai 3 dG b] (ak (a=b)):=by
 refine In 26 Tryz.func73 fun _ _ _=>?_;refine .fact (t:=0) rfl (fun S w v h=>bn h) fun hlen=>?_;refine kR ?_;refine Cd (fun c0=>?_) fun c0=>?_
 ·
  refine Z7 ?_;refine bB ?_;exact af.prop (mQ c0).symm
 refine cc ?_;refine .aS (σ:=Nat) (fun _=>[]) (fun k=>[(13,ag .i64 (k:Int))]) (fun k=>k≤a.length∧ue a b k) (fun k=>a.length-k) 0 ⟨by omega,ue.zero _ _⟩ rfl ?_ ?_
 · exact(.get rfl (af.refl _) (.refl _ _))
 rintro k ⟨hk,heq⟩;refine Z6 ?_;refine Cd (fun c1=>?_) fun c1=>?_
 ·
  obtain⟨x,hx⟩:=ah (xs:=a) (k:=k) (by omega);obtain⟨y,hy⟩:=ah (xs:=b) (k:=k) (by omega);refine cc ?_;refine .br 8 1 FM.out (by kernel_rfl) (k:= ?_);refine Z2 ?_;refine .p (cI _) ?_;refine Z3 ?_;refine .p (cI _) ?_;refine Z2 ?_;refine .p (CB Tryz.underlying190 Tryz.W8 Tryz.W9 (.t rfl) (.t rfl) (.cons (by decide) rfl rfl (.str FU.out) (.cons (by decide) rfl rfl (.int FU.out) (.cons (by decide) rfl rfl (.int FU.out) .nil)))) rfl ?_;refine Z2 ?_;refine .cond (.le (.t rfl) (af.prop (not_congr Md))) (fun c2=>?_) (fun c2=>?_)
  ·
   refine cc ?_;refine bB ?_;exact af.prop (q9 hx hy c2).symm
  refine Z7 ?_;refine .round (k+1) ⟨by omega,heq.succ hx hy (Classical.not_not.1 c2)⟩ (by omega) rfl ?_;exact(.get rfl (af.int (by omega)) (.keep 15 rfl rfl))
 refine cc ?_;refine bB ?_;exact af.prop (by simp[heq.all (by omega) (by omega)])
theorem Dm{a b:List UInt8}:cQ Tryz.prog 67 [ai 1 aj a,ai 1 aj b] (ak (a=b)):=by
 refine In 10 Tryz.func67 fun _ _ _=>?_;refine AY ?_;refine bB ?_;exact .z
theorem IK{a b:kY}:cQ Tryz.prog 69 [aC (bS a),aC (bS b)] (ak (a=b)):=by
 refine In 17 Tryz.func69 fun _ _ _=>?_;refine jP ?_;refine .p (cA (h:=oH)) rfl ?_;refine Z5 ?_;refine .g (bU.gT rfl rfl rfl rfl (fun hg=>bA (oH) FB.out (.cons (.when (.t rfl) hg) (.cons (.when (.t rfl) hg) .nil)))) rfl rfl ?_;refine Z5 ?_;refine bB ?_;exact af.prop UP
theorem IL{a b:ay}:cQ Tryz.prog 107 [aC (aK a),aC (aK b)] (ak (a=b)):=by
 refine In 38 Tryz.func107 fun _ _ _=>?_;refine YZ ?_;refine .g (bU.gT rfl rfl rfl rfl (fun hg=>bA (IJ) FB.out (.cons (.when (.t rfl) hg) (.cons (.when (.t rfl) hg) .nil)))) rfl rfl ?_;refine Z5 ?_;refine bB ?_;exact af.prop Pd
theorem A9{a b:List ay}:cQ Tryz.prog 106 [ai 5 aK a,ai 5 aK b,mM Tryz.prog (fun _:ay×ay=>True) (fun p=>[aC (aK p.1),aC (aK p.2)]) (fun p=>ak (p.1=p.2))] (ak (a=b)):=by
 refine In 32 Tryz.func106 fun _ _ _=>?_;refine .fact (t:=0) rfl (fun S w v h=>bn h) fun hlen=>?_;refine kR ?_;refine Cd (fun c0=>?_) fun c0=>?_
 ·
  refine Z7 ?_;refine bB ?_;exact af.prop (mQ c0).symm
 refine cc ?_;refine .aS (σ:=Nat) (fun _=>[]) (fun k=>[(17,ag .i64 (k:Int))]) (fun k=>k≤a.length∧ue a b k) (fun k=>a.length-k) 0 ⟨by omega,ue.zero _ _⟩ rfl ?_ ?_
 · exact(.get rfl (af.refl _) (.refl _ _))
 rintro k ⟨hk,heq⟩;refine Z6 ?_;refine Cd (fun c1=>?_) fun c1=>?_
 ·
  obtain⟨x,hx⟩:=ah (xs:=a) (k:=k) (by omega);obtain⟨y,hy⟩:=ah (xs:=b) (k:=k) (by omega);refine Z7 ?_;refine .p (cI _) rfl ?_;refine Z1 ?_;refine .n (au FZ.out) rfl fun b8 _=>?_;refine Z4 ?_;refine .share (t:=8) (i:=0) rfl rfl ?_;refine Z4 ?_;refine .p (cI _) rfl ?_;refine Z1 ?_;refine .n (au FZ.out) rfl fun b9 _=>?_;refine Z3 ?_;refine .share (t:=9) (i:=0) rfl rfl ?_;refine Z5 ?_;refine .p (cV (x,y)) rfl ?_;refine Z3 ?_;refine Cd (fun c2=>?_) fun c2=>?_
  ·
   refine cc ?_;refine bB ?_;exact af.prop (q9 hx hy c2).symm
  refine Z7 ?_;refine .round (k+1) ⟨by omega,heq.succ hx hy (Classical.not_not.1 c2)⟩ (by omega) rfl ?_;exact(.get rfl (af.int (by omega)) (.keep 21 rfl rfl))
 refine cc ?_;refine bB ?_;exact af.prop (by simp[heq.all (by omega) (by omega)])
theorem IM{a b:jJ}:cQ Tryz.prog 61 [aC (gw a),aC (gw b)] (ak (a=b)):=by
 refine In 17 Tryz.func61 fun _ _ _=>?_;refine jP ?_;refine .p (cA (h:=oH)) rfl ?_;refine Z5 ?_;refine .g (bU.gT rfl rfl rfl rfl (fun hg=>bA (A9) FB.out (.cons (.when (.t rfl) hg) (.cons (.when (.t rfl) hg) (.cons (.le (.f _) (l8 (A:=ay×ay) FB.out (fun p _=>IL))) .nil))))) rfl rfl ?_;refine Z5 ?_;refine bB ?_;exact af.prop RI
theorem FD{x y:cN}:cQ Tryz.prog 60 [aC (fo x),aC (fo y)] (ak (x=y)):=by
 refine In 17 Tryz.func60 fun _ _ _=>?_;refine Ek ?_;refine .g (bU.gT rfl rfl rfl rfl (fun hg=>bA (IM (a:=x.Body) (b:=y.Body)) FB.out (.cons (.when (.t rfl) hg) (.cons (.when (.t rfl) hg) .nil)))) rfl rfl ?_;refine Z5 ?_;refine bB ?_;exact af.prop RJ
theorem FE{x y:ez}:cQ Tryz.prog 63 [aC (dS x),aC (dS y)] (ak (x=y)):=by
 refine In 17 Tryz.func63 fun _ _ _=>?_;refine Ek ?_;refine .g (bU.gT rfl rfl rfl rfl (fun hg=>bA (II) FB.out (.cons (.when (.t rfl) hg) (.cons (.when (.t rfl) hg) .nil)))) rfl rfl ?_;refine Z5 ?_;refine bB ?_;exact af.prop RK
theorem FG{x y:fV}:cQ Tryz.prog 66 [aC (eA x),aC (eA y)] (ak (x=y)):=by
 refine In 24 Tryz.func66 fun _ _ _=>?_;refine YY ?_;refine .g (bU.gT rfl rfl rfl rfl (fun hg=>bA (Dm) FB.out (.cons (.when (.t rfl) hg) (.cons (.when (.t rfl) hg) .nil)))) rfl rfl ?_;refine Z5 ?_;refine bB ?_;exact af.prop RL
theorem Dn{a b:List cN}:cQ Tryz.prog 59 [ai 3 fo a,ai 3 fo b,mM Tryz.prog (fun _:cN×cN=>True) (fun p=>[aC (fo p.1),aC (fo p.2)]) (fun p=>ak (p.1=p.2))] (ak (a=b)):=by
 refine In 32 Tryz.func59 fun _ _ _=>?_;refine .fact (t:=0) rfl (fun S w v h=>bn h) fun hlen=>?_;refine kR ?_;refine Cd (fun c0=>?_) fun c0=>?_
 ·
  refine Z7 ?_;refine bB ?_;exact af.prop (mQ c0).symm
 refine cc ?_;refine .aS (σ:=Nat) (fun _=>[]) (fun k=>[(17,ag .i64 (k:Int))]) (fun k=>k≤a.length∧ue a b k) (fun k=>a.length-k) 0 ⟨by omega,ue.zero _ _⟩ rfl ?_ ?_
 · exact(.get rfl (af.refl _) (.refl _ _))
 rintro k ⟨hk,heq⟩;refine Z6 ?_;refine Cd (fun c1=>?_) fun c1=>?_
 ·
  obtain⟨x,hx⟩:=ah (xs:=a) (k:=k) (by omega);obtain⟨y,hy⟩:=ah (xs:=b) (k:=k) (by omega);refine Z7 ?_;refine .p (cI _) rfl ?_;refine Z1 ?_;refine .n (au FZ.out) rfl fun b8 _=>?_;refine Z4 ?_;refine .share (t:=8) (i:=0) rfl rfl ?_;refine Z4 ?_;refine .p (cI _) rfl ?_;refine Z1 ?_;refine .n (au FZ.out) rfl fun b9 _=>?_;refine Z3 ?_;refine .share (t:=9) (i:=0) rfl rfl ?_;refine Z5 ?_;refine .p (cV (x,y)) rfl ?_;refine Z3 ?_;refine Cd (fun c2=>?_) fun c2=>?_
  ·
   refine cc ?_;refine bB ?_;exact af.prop (q9 hx hy c2).symm
  refine Z7 ?_;refine .round (k+1) ⟨by omega,heq.succ hx hy (Classical.not_not.1 c2)⟩ (by omega) rfl ?_;exact(.get rfl (af.int (by omega)) (.keep 21 rfl rfl))
 refine cc ?_;refine bB ?_;exact af.prop (by simp[heq.all (by omega) (by omega)])
theorem Dp{a b:List ez}:cQ Tryz.prog 62 [ai 2 dS a,ai 2 dS b,mM Tryz.prog (fun _:ez×ez=>True) (fun p=>[aC (dS p.1),aC (dS p.2)]) (fun p=>ak (p.1=p.2))] (ak (a=b)):=by
 refine In 32 Tryz.func62 fun _ _ _=>?_;refine .fact (t:=0) rfl (fun S w v h=>bn h) fun hlen=>?_;refine kR ?_;refine Cd (fun c0=>?_) fun c0=>?_
 ·
  refine Z7 ?_;refine bB ?_;exact af.prop (mQ c0).symm
 refine cc ?_;refine .aS (σ:=Nat) (fun _=>[]) (fun k=>[(17,ag .i64 (k:Int))]) (fun k=>k≤a.length∧ue a b k) (fun k=>a.length-k) 0 ⟨by omega,ue.zero _ _⟩ rfl ?_ ?_
 · exact(.get rfl (af.refl _) (.refl _ _))
 rintro k ⟨hk,heq⟩;refine Z6 ?_;refine Cd (fun c1=>?_) fun c1=>?_
 ·
  obtain⟨x,hx⟩:=ah (xs:=a) (k:=k) (by omega);obtain⟨y,hy⟩:=ah (xs:=b) (k:=k) (by omega);refine Z7 ?_;refine .p (cI _) rfl ?_;refine Z1 ?_;refine .n (au FZ.out) rfl fun b8 _=>?_;refine Z4 ?_;refine .share (t:=8) (i:=0) rfl rfl ?_;refine Z4 ?_;refine .p (cI _) rfl ?_;refine Z1 ?_;refine .n (au FZ.out) rfl fun b9 _=>?_;refine Z3 ?_;refine .share (t:=9) (i:=0) rfl rfl ?_;refine Z5 ?_;refine .p (cV (x,y)) rfl ?_;refine Z3 ?_;refine Cd (fun c2=>?_) fun c2=>?_
  ·
   refine cc ?_;refine bB ?_;exact af.prop (q9 hx hy c2).symm
  refine Z7 ?_;refine .round (k+1) ⟨by omega,heq.succ hx hy (Classical.not_not.1 c2)⟩ (by omega) rfl ?_;exact(.get rfl (af.int (by omega)) (.keep 21 rfl rfl))
 refine cc ?_;refine bB ?_;exact af.prop (by simp[heq.all (by omega) (by omega)])
theorem Dq{a b:List fV}:cQ Tryz.prog 65 [ai 3 eA a,ai 3 eA b,mM Tryz.prog (fun _:fV×fV=>True) (fun p=>[aC (eA p.1),aC (eA p.2)]) (fun p=>ak (p.1=p.2))] (ak (a=b)):=by
 refine In 32 Tryz.func65 fun _ _ _=>?_;refine .fact (t:=0) rfl (fun S w v h=>bn h) fun hlen=>?_;refine kR ?_;refine Cd (fun c0=>?_) fun c0=>?_
 ·
  refine Z7 ?_;refine bB ?_;exact af.prop (mQ c0).symm
 refine cc ?_;refine .aS (σ:=Nat) (fun _=>[]) (fun k=>[(17,ag .i64 (k:Int))]) (fun k=>k≤a.length∧ue a b k) (fun k=>a.length-k) 0 ⟨by omega,ue.zero _ _⟩ rfl ?_ ?_
 · exact(.get rfl (af.refl _) (.refl _ _))
 rintro k ⟨hk,heq⟩;refine Z6 ?_;refine Cd (fun c1=>?_) fun c1=>?_
 ·
  obtain⟨x,hx⟩:=ah (xs:=a) (k:=k) (by omega);obtain⟨y,hy⟩:=ah (xs:=b) (k:=k) (by omega);refine Z7 ?_;refine .p (cI _) rfl ?_;refine Z1 ?_;refine .n (au FZ.out) rfl fun b8 _=>?_;refine Z4 ?_;refine .share (t:=8) (i:=0) rfl rfl ?_;refine Z4 ?_;refine .p (cI _) rfl ?_;refine Z1 ?_;refine .n (au FZ.out) rfl fun b9 _=>?_;refine Z3 ?_;refine .share (t:=9) (i:=0) rfl rfl ?_;refine Z5 ?_;refine .p (cV (x,y)) rfl ?_;refine Z3 ?_;refine Cd (fun c2=>?_) fun c2=>?_
  ·
   refine cc ?_;refine bB ?_;exact af.prop (q9 hx hy c2).symm
  refine Z7 ?_;refine .round (k+1) ⟨by omega,heq.succ hx hy (Classical.not_not.1 c2)⟩ (by omega) rfl ?_;exact(.get rfl (af.int (by omega)) (.keep 21 rfl rfl))
 refine cc ?_;refine bB ?_;exact af.prop (by simp[heq.all (by omega) (by omega)])
theorem FH{a b:List kY}:cQ Tryz.prog 68 [ai 2 bS a,ai 2 bS b,mM Tryz.prog (fun _:kY×kY=>True) (fun p=>[aC (bS p.1),aC (bS p.2)]) (fun p=>ak (p.1=p.2))] (ak (a=b)):=by
 refine In 32 Tryz.func68 fun _ _ _=>?_;refine .fact (t:=0) rfl (fun S w v h=>bn h) fun hlen=>?_;refine kR ?_;refine Cd (fun c0=>?_) fun c0=>?_
 ·
  refine Z7 ?_;refine bB ?_;exact af.prop (mQ c0).symm
 refine cc ?_;refine .aS (σ:=Nat) (fun _=>[]) (fun k=>[(17,ag .i64 (k:Int))]) (fun k=>k≤a.length∧ue a b k) (fun k=>a.length-k) 0 ⟨by omega,ue.zero _ _⟩ rfl ?_ ?_
 · exact(.get rfl (af.refl _) (.refl _ _))
 rintro k ⟨hk,heq⟩;refine Z6 ?_;refine Cd (fun c1=>?_) fun c1=>?_
 ·
  obtain⟨x,hx⟩:=ah (xs:=a) (k:=k) (by omega);obtain⟨y,hy⟩:=ah (xs:=b) (k:=k) (by omega);refine Z7 ?_;refine .p (cI _) rfl ?_;refine Z1 ?_;refine .n (au FZ.out) rfl fun b8 _=>?_;refine Z4 ?_;refine .share (t:=8) (i:=0) rfl rfl ?_;refine Z4 ?_;refine .p (cI _) rfl ?_;refine Z1 ?_;refine .n (au FZ.out) rfl fun b9 _=>?_;refine Z3 ?_;refine .share (t:=9) (i:=0) rfl rfl ?_;refine Z5 ?_;refine .p (cV (x,y)) rfl ?_;refine Z3 ?_;refine Cd (fun c2=>?_) fun c2=>?_
  ·
   refine cc ?_;refine bB ?_;exact af.prop (q9 hx hy c2).symm
  refine Z7 ?_;refine .round (k+1) ⟨by omega,heq.succ hx hy (Classical.not_not.1 c2)⟩ (by omega) rfl ?_;exact(.get rfl (af.int (by omega)) (.keep 21 rfl rfl))
 refine cc ?_;refine bB ?_;exact af.prop (by simp[heq.all (by omega) (by omega)])
theorem IN{a b:aT}:cQ Tryz.prog 28 [bT (bf a),bT (bf b)] (ak (a=b)):=by
 refine In 128 Tryz.func28 fun _ _ _=>?_;refine AY ?_;refine Cd (fun c0=>?_) fun c0=>?_
 · exact absurd c0 (by simp)
 refine Z3 ?_;refine .br 8 2 FM.out (by kernel_rfl) (k:= ?_);refine Z9 ?_;refine .p (bA (Dn) FB.out (.cons (.t rfl) (.cons (.t rfl) (.cons (.le (.f _) (l8 (A:=cN×cN) FB.out (fun p _=>FD))) .nil)))) rfl ?_;refine Z4 ?_;refine .br 8 2 FM.out (by kernel_rfl) (k:= ?_);refine Z9 ?_;refine .p (bA (Dp) FB.out (.cons (.t rfl) (.cons (.t rfl) (.cons (.le (.f _) (l8 (A:=ez×ez) FB.out (fun p _=>FE))) .nil)))) rfl ?_;refine Z4 ?_;refine .br 8 2 FM.out (by kernel_rfl) (k:= ?_);refine Z9 ?_;refine .p (bA (Dq) FB.out (.cons (.t rfl) (.cons (.t rfl) (.cons (.le (.f _) (l8 (A:=fV×fV) FB.out (fun p _=>FG))) .nil)))) rfl ?_;refine Z4 ?_;refine .br 82 3 FM.out (by kernel_rfl) (k:= ?_);refine AY ?_;refine .cons (bU.gT rfl rfl rfl rfl (fun hg=>bA (FH) FB.out (.cons (.when (.t rfl) hg) (.cons (.when (.t rfl) hg) (.cons (.le (.f _) (l8 (A:=kY×kY) FB.out (fun p _=>IK))) .nil))))) ?_;refine cD ?_;refine .cons (bU.gT rfl rfl rfl rfl (fun hg=>bA (A5) FB.out (.cons (.when (.t rfl) hg) (.cons (.when (.t rfl) hg) .nil)))) ?_;refine UD ?_;refine .cons (bU.gT rfl rfl rfl rfl (fun hg=>bA (A6) FB.out (.cons (.when (.t rfl) hg) (.cons (.when (.t rfl) hg) .nil)))) ?_;refine cD ?_;refine .cons (bU.gT rfl rfl rfl rfl (fun hg=>bA (A7) FB.out (.cons (.when (.t rfl) hg) (.cons (.when (.t rfl) hg) .nil)))) ?_;refine cD ?_;refine .cons (bU.gT rfl rfl rfl rfl (fun hg=>bA (A8) FB.out (.cons (.when (.t rfl) hg) (.cons (.when (.t rfl) hg) .nil)))) ?_;refine EX ?_;refine bB ?_;exact af.prop mod_eq
end Go.Proofs.YtpfobikpggmleaaGreatDoor
end
