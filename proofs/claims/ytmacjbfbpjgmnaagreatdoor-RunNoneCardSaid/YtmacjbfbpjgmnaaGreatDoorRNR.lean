/-
  What the statement's proof leans on, several texts in one (packed by a program).
-/
import Derived.Test.YtmacjbfbpjgmnaaGreatDoorRNQ
set_option linter.all false
set_option maxRecDepth 1000000
set_option maxHeartbeats 4000000
section
namespace Go.Proofs.YtmacjbfbpjgmnaaGreatDoor
open Go.Hl Go.RowKit
variable {b:Nat} {x:aq} {A:qG} {K:eU} {F:Nat} {bs:List Nat} {m:mV} {c:cg} {at_:Nat}
open Classical in
theorem KE(aj:lZ A K)(aQ:O5 K)(bu:bs.length=K.own.length)(cZ:(bt c).fn<K.own.length)(jy:MI K x)(qH:∀v∈c.tb,v≤K.cH+K.own.length):bk Tryz.prog 100 [ai b 0,aK (aE x),nV at_] [dJ A K (mE b F bs) m,aM A K c,dS (K.own.zip bs)] (γ:=Unit) (fun _=>True) (fun _=>[dJ A K (mE b F bs) ((aW K x at_ (m,c)).getD (m,c)).1,aM A K ((aW K x at_ (m,c)).getD (m,c)).2,dS (K.own.zip bs)]) (fun _=>ak ((aW K x at_ (m,c)).isSome=true)):=by
 refine In 68 Tryz.func100 fun _ _ _=>?_;refine .oy fun qQ=>?_;have gG:=qQ.pop;have NK:=jy.w.A0;have Zo:=jy.w.PY;have hLn:=jy.w.Ln;have hni:=aQ.ni;have hno:=aQ.no;refine KR ?_;refine Cd (fun c0=>?_) fun c0=>?_
 ·
  have hC:aW K x at_ (m,c)=some (mF 1 (m,c)):=by unfold aW;repeat (first|rw[if_pos (by assumption)]|rw[if_neg (by assumption)]);try rfl
  rw[hC];refine Z2 ?_;refine .n (cE (h:=jS (E:=mE b F bs) (m:=m) (c:=c) (t:=1) aj)) rfl fun oH h12=>?_;refine Z9 ?_;refine aX ?_;exact ag.prop (by simp)
 refine Z6 ?_;refine Cd (fun c1=>?_) fun c1=>?_
 ·
  have hC:aW K x at_ (m,c)=some (m,if (aC c).1=0 then zI K at_ (aC c).2 else(aC c).2):=by unfold aW;repeat (first|rw[if_pos (by assumption)]|rw[if_neg (by assumption)]);try rfl
  rw[hC];refine Z3 ?_;refine .n (cE (h:=de (E:=mE b F bs) aj)) rfl fun RH P9=>?_;refine Z3 ?_;refine Cd (fun c2=>?_) fun c2=>?_
  ·
   rw[if_pos (show(aC c).1=0 by omega)];refine Z3 ?_;refine .n (cE (h:=xV (c:=(aC c).2) aj aQ bu cZ)) rfl fun NG NH=>?_;refine Z9 ?_;refine aX ?_;exact ag.prop (by simp)
  rw[if_neg (show ¬(aC c).1=0 by omega)];refine Z9 ?_;refine aX ?_;exact ag.prop (by simp)
 refine Z6 ?_;refine Cd (fun c3=>?_) fun c3=>?_
 ·
  have hC:aW K x at_ (m,c)=some (m,zI K at_ c):=by unfold aW;repeat (first|rw[if_pos (by assumption)]|rw[if_neg (by assumption)]);try rfl
  rw[hC];refine Z3 ?_;refine .n (cE (h:=xV aj aQ bu cZ)) rfl fun NI Pv=>?_;refine Z9 ?_;refine aX ?_;exact ag.prop (by simp)
 refine Z6 ?_;refine Cd (fun c4=>?_) fun c4=>?_
 ·
  have hC:aW K x at_ (m,c)=some (m,uH K at_ 0 c):=by unfold aW;repeat (first|rw[if_pos (by assumption)]|rw[if_neg (by assumption)]);try rfl
  rw[hC];refine Z3 ?_;refine .n (cE (h:=rW aj aQ bu cZ (k:=0))) rfl fun Zf h30=>?_;refine Z9 ?_;refine aX ?_;exact ag.prop (by simp)
 refine Z6 ?_;refine Cd (fun c5=>?_) fun c5=>?_
 ·
  have hC:aW K x at_ (m,c)=some (m,if (aC c).1≠0 then uH K at_ 0 (aC c).2 else(aC c).2):=by unfold aW;repeat (first|rw[if_pos (by assumption)]|rw[if_neg (by assumption)]);try rfl
  rw[hC];refine Z3 ?_;refine .n (cE (h:=de (E:=mE b F bs) aj)) rfl fun NJ R1=>?_;refine Z3 ?_;refine Cd (fun c6=>?_) fun c6=>?_
  ·
   rw[if_pos (show(aC c).1≠0 by omega)];refine Z3 ?_;refine .n (cE (h:=rW (c:=(aC c).2) aj aQ bu cZ (k:=0))) rfl fun O9 Sp=>?_;refine Z9 ?_;refine aX ?_;exact ag.prop (by simp)
  rw[if_neg (show ¬(aC c).1≠0 by omega)];refine Z9 ?_;refine aX ?_;exact ag.prop (by simp)
 refine Z6 ?_;refine Cd (fun c7=>?_) fun c7=>?_
 ·
  have hC:aW K x at_ (m,c)=some (m,uH K at_ ((min (aC c).1 x.L.length:Nat):Int) (aC c).2):=by unfold aW;repeat (first|rw[if_pos (by assumption)]|rw[if_neg (by assumption)]);try rfl
  rw[hC];refine .bF [(0,0),(1,0),(2,0),(4,0),(5,0),(6,0),(7,0),(3,2),(8,0),(9,0)] 10 1 FM.out (by kernel_rfl) (k:= ?_);refine Z7 ?_;refine .e rfl (cE (h:=de (E:=mE b F bs) aj)) fun YU h44=>?_;refine .p rfl (fun _=>vG (.t rfl) (.t rfl)) ?_;refine .p rfl (fun _=>(gW FU.out FU.out (.t rfl) bW).le (ag.int (show _=((min (aC c).1 x.L.length:Nat):Int) by omega))) ?_;refine .fin ?_;refine .n (cE (h:=rW (c:=(aC c).2) aj aQ bu cZ (k:=((min (aC c).1 x.L.length:Nat):Int)))) rfl fun g51 h51=>?_;refine Z9 ?_;refine aX ?_;exact ag.prop (by simp)
 refine Z6 ?_;refine Cd (fun c8=>?_) fun c8=>?_
 ·
  have hC:aW K x at_ (m,c)=some (js K (m,c)):=by unfold aW;repeat (first|rw[if_pos (by assumption)]|rw[if_neg (by assumption)]);try rfl
  rw[hC];refine Z2 ?_;refine .n (cE (h:=uT aj aQ bu cZ)) rfl fun g55 h55=>?_;refine Z9 ?_;refine aX ?_;exact ag.prop (by simp)
 refine Z6 ?_;refine Cd (fun c9=>?_) fun c9=>?_
 ·
  have hC:aW K x at_ (m,c)=some (iT K x.A.toNat (m,c)):=by unfold aW;repeat (first|rw[if_pos (by assumption)]|rw[if_neg (by assumption)]);try rfl
  rw[hC];have Ab:=jy.call (by assumption);refine Z4 ?_;refine .p ((gW FU.out FU.out (.t rfl) bW).le (ag.int (show x.A=((x.A.toNat:Nat):Int) by omega))) rfl ?_;refine .n (cE (h:=pW aj aQ bu (f:=x.A.toNat) (by omega))) rfl fun Sr NF=>?_;refine Z9 ?_;refine aX ?_;exact ag.prop (by simp)
 refine Z6 ?_;refine Cd (fun zD=>?_) fun zD=>?_
 ·
  have hC:aW K x at_ (m,c)=some (pF K x (m,c)):=by unfold aW;repeat (first|rw[if_pos (by assumption)]|rw[if_neg (by assumption)]);try rfl
  rw[hC];refine Z3 ?_;refine .n (cE (h:=Ed aj aQ bu jy.w (jy.sig (by assumption)) qH)) rfl fun g67 h67=>?_;refine Z9 ?_;refine aX ?_;exact ag.prop (by simp)
 have hC:aW K x at_ (m,c)=none:=by unfold aW;repeat (first|rw[if_pos (by assumption)]|rw[if_neg (by assumption)]);try rfl
 rw[hC];refine Z8 ?_;refine aX ?_;exact ag.prop (by simp)
open Classical in
theorem KF(aj:lZ A K)(aQ:MI K x):bk Tryz.prog 101 [ai b 0,aK (aE x),nV at_] [dJ A K (mE b F bs) m,aM A K c] (γ:=Unit) (fun _=>True) (fun _=>[dJ A K (mE b F bs) m,aM A K ((bf K x c).getD c)]) (fun _=>ak ((bf K x c).isSome=true)):=by
 refine In 116 Tryz.func101 fun _ _ _=>?_;refine .oy fun qQ=>?_;have gG:=qQ.pop;have NK:=aQ.w.A0;have Zo:=aQ.w.PY;refine KR ?_;refine Cd (fun c0=>?_) fun c0=>?_
 ·
  have hC:bf K x c=some (aC c).2:=by unfold bf;repeat (first|rw[if_pos (by assumption)]|rw[if_neg (by assumption)]);try rfl
  rw[hC];refine Z2 ?_;refine .n (cE (h:=de (E:=mE b F bs) aj)) rfl fun Uy Sy=>?_;refine Z9 ?_;refine aX ?_;exact ag.prop (by simp)
 refine Z6 ?_;refine Cd (fun c1=>?_) fun c1=>?_
 ·
  have hC:bf K x c=some (dX K [if (aC c).1=0 then(aC (aC c).2).1 else(aC (aC (aC c).2).2).1] (aC (aC (aC c).2).2).2):=by unfold bf;repeat (first|rw[if_pos (by assumption)]|rw[if_neg (by assumption)]);try rfl
  rw[hC];have bu:(aC (aC c).2).1<18446744073709551616:=qQ.TW;have cZ:(aC (aC (aC c).2).2).1<18446744073709551616:=qQ.YP;refine Z3 ?_;refine .n (cE (h:=de (E:=mE b F bs) aj)) rfl fun NI Pv=>?_;refine Z1 ?_;refine .n (cE (h:=de (E:=mE b F bs) aj)) rfl fun g27 h27=>?_;refine Z1 ?_;refine .n (cE (h:=de (E:=mE b F bs) aj)) rfl fun g29 h29=>?_;refine fW ?_;refine Cd (fun c2=>?_) fun c2=>?_
  ·
   have hsz:(aC c).1=0:=by omega
   refine Z7 ?_;refine .p ((eK (.t rfl)).le (ag.int (show _=(((if (aC c).1=0 then(aC (aC c).2).1 else(aC (aC (aC c).2).2).1):Nat):Int) by first|rw[if_pos hsz]|rw[if_neg hsz]))) rfl ?_;refine .p (cB ig [if (aC c).1=0 then(aC (aC c).2).1 else(aC (aC (aC c).2).2).1]) rfl ?_;refine .n (cE (h:=ee (E:=mE b F bs) (c:=(aC (aC (aC c).2).2).2) aj (lP (by split<;>assumption)))) rfl fun Up Sx=>?_;refine Z9 ?_;refine aX ?_;exact ag.prop (by simp)
  have hsz:¬(aC c).1=0:=by omega
  refine Z4 ?_;refine .p ((eK (.t rfl)).le (ag.int (show _=(((if (aC c).1=0 then(aC (aC c).2).1 else(aC (aC (aC c).2).2).1):Nat):Int) by first|rw[if_pos hsz]|rw[if_neg hsz]))) rfl ?_;refine .p (cB ig [if (aC c).1=0 then(aC (aC c).2).1 else(aC (aC (aC c).2).2).1]) rfl ?_;refine .n (cE (h:=ee (E:=mE b F bs) (c:=(aC (aC (aC c).2).2).2) aj (lP (by split<;>assumption)))) rfl fun Up Sx=>?_;refine Z9 ?_;refine aX ?_;exact ag.prop (by simp)
 refine Z6 ?_;refine Cd (fun c3=>?_) fun c3=>?_
 ·
  have hC:bf K x c=some (dX K [ve (pG x c) c] c):=by unfold bf;repeat (first|rw[if_pos (by assumption)]|rw[if_neg (by assumption)]);try rfl
  rw[hC];have hlc:x.A.toNat≤4294967295:=by(have h9:=aQ.loc (by omega);omega)
  refine Z1 ?_;refine .bF [(0,0),(1,0),(2,0),(3,1),(4,0),(5,0),(6,0),(7,4),(8,4),(9,0),(10,0),(11,0),(12,0)] 13 1 FM.out (by kernel_rfl) (k:= ?_);refine Z6 ?_;refine .p rfl (fun _=>(oK FA.out (.t rfl)).le (ag.int (show x.A=((x.A.toNat:Nat):Int) by omega))) ?_;refine .a rfl ((cE (h:=pV aj (n:=x.A.toNat) hlc)).same (fun _ _=>aA.refl _) (fun _ _=>ag.refl _)) (fun _ _=>aA.refl _) fun _ _=>?_;refine .a rfl ((fU [_] [1,0] (h:=zY aj)).same (fun _ _=>aA.perm (Perm.idx [1,0] rfl rfl)) (fun _ _=>ag.refl _)) (fun _ _=>aA.refl _) fun _ _=>?_;refine Z1 ?_;refine .p rfl (fun _=>(dA (.t rfl) rfl).le (ag.int (show _=((ve (pG x c) c:Nat):Int) from congrArg Nat.cast ((if_pos (Int.natCast_nonneg _)).trans rfl)))) ?_;refine Z2 ?_;refine .fin ?_;refine Z6 ?_;refine .p (cB ig [ve (pG x c) c]) rfl ?_;refine .n (cE (h:=ee (E:=mE b F bs) aj (lP (Iw qQ.sv _)))) rfl fun Ss Su=>?_;refine Z9 ?_;refine aX ?_;exact ag.prop (by simp)
 refine Z6 ?_;refine Cd (fun c4=>?_) fun c4=>?_
 ·
  have hC:bf K x c=some (Mw (pG x (aC c).2) (aC c).1 (aC c).2):=by unfold bf;repeat (first|rw[if_pos (by assumption)]|rw[if_neg (by assumption)]);try rfl
  rw[hC];have hlc:x.A.toNat≤4294967295:=by(have h9:=aQ.loc (by omega);omega)
  refine Z3 ?_;refine .n (cE (h:=de (E:=mE b F bs) aj)) rfl fun g58 h58=>?_;refine Z3 ?_;refine .bF [(0,0),(1,0),(2,0),(3,1),(4,0),(5,0),(6,0),(8,0),(7,4)] 9 1 FM.out (by kernel_rfl) (k:= ?_);refine Z6 ?_;refine .p rfl (fun _=>(oK FA.out (.t rfl)).le (ag.int (show x.A=((x.A.toNat:Nat):Int) by omega))) ?_;refine Z1 ?_;refine .a rfl ((cE (h:=pV (c:=(aC c).2) aj (n:=x.A.toNat) hlc)).same (fun _ _=>aA.refl _) (fun _ _=>ag.refl _)) (fun _ _=>aA.refl _) fun _ _=>?_;refine .fin ?_;refine .n (fU [_] [1,0] (h:=zZ aj gG)) rfl fun g68 h68=>?_;refine Z9 ?_;refine Post.aO rfl (()) (by trivial) (aA.fI [1,0] [] rfl rfl) (.rt rfl) ?_;exact ag.prop (by simp)
 refine Z6 ?_;refine Cd (fun c5=>?_) fun c5=>?_
 ·
  have hC:bf K x c=some (dX K [(aC c).1] (Mw (pG x (aC c).2) (aC c).1 (aC c).2)):=by unfold bf;repeat (first|rw[if_pos (by assumption)]|rw[if_neg (by assumption)]);try rfl
  rw[hC];have hlc:x.A.toNat≤4294967295:=by(have h9:=aQ.loc (by omega);omega)
  refine Z3 ?_;refine .n (cE (h:=de (E:=mE b F bs) aj)) rfl fun W8 W9=>?_;refine Z4 ?_;refine .bF [(0,0),(1,0),(2,0),(3,1),(4,0),(5,0),(6,0),(8,0),(7,4)] 9 1 FM.out (by kernel_rfl) (k:= ?_);refine Z6 ?_;refine .p rfl (fun _=>(oK FA.out (.t rfl)).le (ag.int (show x.A=((x.A.toNat:Nat):Int) by omega))) ?_;refine Z1 ?_;refine .a rfl ((cE (h:=pV (c:=(aC c).2) aj (n:=x.A.toNat) hlc)).same (fun _ _=>aA.refl _) (fun _ _=>ag.refl _)) (fun _ _=>aA.refl _) fun _ _=>?_;refine .fin ?_;refine .n (fU [_] [1,0] (h:=zZ aj gG)) rfl fun g82 h82=>?_;refine Z5 ?_;refine .p (cB ig [(aC c).1]) rfl ?_;refine .n (fU [] [1,0] (h:=ee (E:=mE b F bs) aj (lP gG))) rfl fun Y9 W3=>?_;refine Z9 ?_;refine aX ?_;exact ag.prop (by simp)
 refine Z6 ?_;refine Cd (fun c6=>?_) fun c6=>?_
 ·
  have hC:bf K x c=some (dX K [(c.gl[x.A.toNat]?).getD 0] c):=by unfold bf;repeat (first|rw[if_pos (by assumption)]|rw[if_neg (by assumption)]);try rfl
  rw[hC];have No:x.A.toNat<K.m.aH.length:=by(have h9:=aQ.O8 (by omega);omega)
  have hga:=aj.gl;refine Z1 ?_;refine .bF [(0,0),(1,0),(2,0),(3,1),(4,0),(5,0),(6,0),(7,4),(8,0),(9,0),(10,0),(11,0)] 12 1 FM.out (by kernel_rfl) (k:= ?_);refine Z6 ?_;refine .p rfl (fun _=>(gW FU.out FU.out (.t rfl) bW).le (ag.int (show x.A=((x.A.toNat:Nat):Int) by omega))) ?_;refine .a rfl ((fU [_] [1,0] (h:=Bu aj (i:=x.A.toNat) No)).same (fun _ _=>aA.perm (Perm.idx [1,0] rfl rfl)) (fun _ _=>ag.refl _)) (fun _ _=>aA.refl _) fun _ _=>?_;refine Z4 ?_;refine .fin ?_;refine Z6 ?_;refine .p (cB ig [(c.gl[x.A.toNat]?).getD 0]) rfl ?_;refine .n (cE (h:=ee (E:=mE b F bs) aj (lP (ML qQ.gv _)))) rfl fun bh0 bh1=>?_;refine Z9 ?_;refine aX ?_;exact ag.prop (by simp)
 refine Z6 ?_;refine Cd (fun c7=>?_) fun c7=>?_
 ·
  have No:x.A.toNat<K.m.aH.length:=by(have h9:=aQ.O8 (by omega);omega)
  have hga:=aj.gl;obtain⟨gz,hgz⟩:=ah (xs:=K.m.aH) (k:=x.A.toNat) No;have hgt:Av K.m x.A.toNat=gz:=HX hgz;have hC:bf K x c=some (cg.mk (aC c).2.stk (aC c).2.cN ((aC c).2.gl.set x.A.toNat (o7 (Av K.m x.A.toNat).Ty (aC c).1)) (aC c).2.tb (aC c).2.ms (aC c).2.co (aC c).2.mm):=by unfold bf;repeat (first|rw[if_pos (by assumption)]|rw[if_neg (by assumption)]);try rfl
  rw[hC];rw[hgt];refine .HD (FR:=[dJ A K (mE b F bs) m]) [(0,0),(1,0),(2,0),(3,1),(4,0),(5,0),(6,0),(7,0),(8,4)] 9 1 FM.out (by kernel_rfl) ?_;refine Z3 ?_;refine .o rfl (ff (i:=0) FA.out (.t rfl) rfl rfl) (aA.fI [0] [1] rfl rfl) ?_;refine Z2 ?_;refine .p rfl (fun _=>(gW FU.out FU.out (.t rfl) bW).le (ag.int (show x.A=((x.A.toNat:Nat):Int) by omega))) ?_;refine Z1 ?_;refine .a rfl (cE (h:=de (E:=mE b F bs) aj)) (fun _ _=>(aA.fI [0] [1] rfl rfl)) fun bh2 bh3=>?_;refine .fin ?_;refine .n (fU [_] [1,0] (h:=GW (c:=(aC c).2) aj hgz gG)) rfl fun bh4 bh5=>?_;refine Z9 ?_;refine Post.aO rfl (()) (by trivial) (aA.fI [1,0] [] rfl rfl) (.rt rfl) ?_;exact ag.prop (by simp)
 have hC:bf K x c=none:=by unfold bf;repeat (first|rw[if_pos (by assumption)]|rw[if_neg (by assumption)]);try rfl
 rw[hC];refine Z8 ?_;refine aX ?_;exact ag.prop (by simp)
theorem Bx:cw Tryz.prog 161 [aK (aE x)] (nV (iM x.Code)):=by
 refine In 22 Tryz.func161 fun _ _ _=>?_;refine dH ?_;refine .p (cA (h:=find_spec)) rfl ?_;refine Z3 ?_;refine .n (ay FZ.out) rfl fun b3 _=>?_;refine j4 ?_;refine .g (bB.gT rfl rfl rfl rfl (fun hg=>dL (j:=0) FU.out FC.out rfl (.when (.t rfl) hg) (.c _) rfl (IZ hg))) rfl rfl ?_;refine Z5 ?_;refine Cd (fun c0=>?_) fun c0=>?_
 ·
  refine Z7 ?_;refine aX ?_;exact ag.int (by unfold iM dY;rw[if_pos (MJ.2 c0)];rfl)
 refine Z8 ?_;refine aX ?_;exact ag.int (by unfold iM dY;rw[if_neg (fun h=>c0 (MJ.1 h))];rfl)
theorem KG{c:Int}:cw Tryz.prog 159 [aa .i64 c] (aS [nV (au c).1,ak (au c).2]):=by
 refine In 17 Tryz.func159 fun _ _ _=>?_;refine KR ?_;refine Cd (fun c0=>?_) fun c0=>?_
 ·
  refine Z2 ?_;refine Cd (fun c1=>?_) fun c1=>?_
  ·
   refine ek ?_;refine fj ?_ ?_
   · first|(exfalso;omega)|exact ag.int (by unfold au;(repeat (first|rw[if_pos (by omega)]|rw[if_neg (by omega)]));first|done|rfl)
   first|(exfalso;omega)|exact ag.prop (by unfold au;(repeat (first|rw[if_pos (by omega)]|rw[if_neg (by omega)]));first|done|(simp;done)|(simp;omega))
  refine Z7 ?_;refine Cd (fun c2=>?_) fun c2=>?_
  ·
   refine Z2 ?_;refine Cd (fun c3=>?_) fun c3=>?_
   ·
    refine Z9 ?_;refine fj ?_ ?_
    · first|(exfalso;omega)|exact ag.int (by unfold au;(repeat (first|rw[if_pos (by omega)]|rw[if_neg (by omega)]));first|done|rfl)
    first|(exfalso;omega)|exact ag.prop (by unfold au;(repeat (first|rw[if_pos (by omega)]|rw[if_neg (by omega)]));first|done|(simp;done)|(simp;omega))
   refine Z7 ?_;refine Cd (fun c4=>?_) fun c4=>?_
   ·
    refine Z2 ?_;refine Cd (fun c5=>?_) fun c5=>?_
    ·
     refine Z9 ?_;refine fj ?_ ?_
     · first|(exfalso;omega)|exact ag.int (by unfold au;(repeat (first|rw[if_pos (by omega)]|rw[if_neg (by omega)]));first|done|rfl)
     first|(exfalso;omega)|exact ag.prop (by unfold au;(repeat (first|rw[if_pos (by omega)]|rw[if_neg (by omega)]));first|done|(simp;done)|(simp;omega))
    refine dH ?_;refine fj ?_ ?_
    · first|(exfalso;omega)|exact ag.int (by unfold au;(repeat (first|rw[if_pos (by omega)]|rw[if_neg (by omega)]));first|done|rfl)
    first|(exfalso;omega)|exact ag.prop (by unfold au;(repeat (first|rw[if_pos (by omega)]|rw[if_neg (by omega)]));first|done|(simp;done)|(simp;omega))
   refine Z5 ?_;refine Cd (fun c6=>?_) fun c6=>?_
   ·
    refine Z9 ?_;refine fj ?_ ?_
    · first|(exfalso;omega)|exact ag.int (by unfold au;(repeat (first|rw[if_pos (by omega)]|rw[if_neg (by omega)]));first|done|rfl)
    first|(exfalso;omega)|exact ag.prop (by unfold au;(repeat (first|rw[if_pos (by omega)]|rw[if_neg (by omega)]));first|done|(simp;done)|(simp;omega))
   refine dH ?_;refine fj ?_ ?_
   · first|(exfalso;omega)|exact ag.int (by unfold au;(repeat (first|rw[if_pos (by omega)]|rw[if_neg (by omega)]));first|done|rfl)
   first|(exfalso;omega)|exact ag.prop (by unfold au;(repeat (first|rw[if_pos (by omega)]|rw[if_neg (by omega)]));first|done|(simp;done)|(simp;omega))
  refine Z5 ?_;refine Cd (fun c7=>?_) fun c7=>?_
  ·
   refine Z9 ?_;refine fj ?_ ?_
   · first|(exfalso;omega)|exact ag.int (by unfold au;(repeat (first|rw[if_pos (by omega)]|rw[if_neg (by omega)]));first|done|rfl)
   first|(exfalso;omega)|exact ag.prop (by unfold au;(repeat (first|rw[if_pos (by omega)]|rw[if_neg (by omega)]));first|done|(simp;done)|(simp;omega))
  refine Z7 ?_;refine Cd (fun c8=>?_) fun c8=>?_
  ·
   refine Z2 ?_;refine Cd (fun c9=>?_) fun c9=>?_
   ·
    refine Z9 ?_;refine fj ?_ ?_
    · first|(exfalso;omega)|exact ag.int (by unfold au;(repeat (first|rw[if_pos (by omega)]|rw[if_neg (by omega)]));first|done|rfl)
    first|(exfalso;omega)|exact ag.prop (by unfold au;(repeat (first|rw[if_pos (by omega)]|rw[if_neg (by omega)]));first|done|(simp;done)|(simp;omega))
   refine dH ?_;refine fj ?_ ?_
   · first|(exfalso;omega)|exact ag.int (by unfold au;(repeat (first|rw[if_pos (by omega)]|rw[if_neg (by omega)]));first|done|rfl)
   first|(exfalso;omega)|exact ag.prop (by unfold au;(repeat (first|rw[if_pos (by omega)]|rw[if_neg (by omega)]));first|done|(simp;done)|(simp;omega))
  refine Z5 ?_;refine Cd (fun zD=>?_) fun zD=>?_
  ·
   refine Z9 ?_;refine fj ?_ ?_
   · first|(exfalso;omega)|exact ag.int (by unfold au;(repeat (first|rw[if_pos (by omega)]|rw[if_neg (by omega)]));first|done|rfl)
   first|(exfalso;omega)|exact ag.prop (by unfold au;(repeat (first|rw[if_pos (by omega)]|rw[if_neg (by omega)]));first|done|(simp;done)|(simp;omega))
  refine dH ?_;refine fj ?_ ?_
  · first|(exfalso;omega)|exact ag.int (by unfold au;(repeat (first|rw[if_pos (by omega)]|rw[if_neg (by omega)]));first|done|rfl)
  first|(exfalso;omega)|exact ag.prop (by unfold au;(repeat (first|rw[if_pos (by omega)]|rw[if_neg (by omega)]));first|done|(simp;done)|(simp;omega))
 refine Z6 ?_;refine Cd (fun BH=>?_) fun BH=>?_
 ·
  refine Z2 ?_;refine Cd (fun OC=>?_) fun OC=>?_
  ·
   refine ek ?_;refine fj ?_ ?_
   · first|(exfalso;omega)|exact ag.int (by unfold au;(repeat (first|rw[if_pos (by omega)]|rw[if_neg (by omega)]));first|done|rfl)
   first|(exfalso;omega)|exact ag.prop (by unfold au;(repeat (first|rw[if_pos (by omega)]|rw[if_neg (by omega)]));first|done|(simp;done)|(simp;omega))
  refine Z7 ?_;refine Cd (fun OD=>?_) fun OD=>?_
  ·
   refine Z2 ?_;refine Cd (fun Sj=>?_) fun Sj=>?_
   ·
    refine Z9 ?_;refine fj ?_ ?_
    · first|(exfalso;omega)|exact ag.int (by unfold au;(repeat (first|rw[if_pos (by omega)]|rw[if_neg (by omega)]));first|done|rfl)
    first|(exfalso;omega)|exact ag.prop (by unfold au;(repeat (first|rw[if_pos (by omega)]|rw[if_neg (by omega)]));first|done|(simp;done)|(simp;omega))
   refine Z7 ?_;refine Cd (fun Zp=>?_) fun Zp=>?_
   ·
    refine Z2 ?_;refine Cd (fun Zq=>?_) fun Zq=>?_
    ·
     refine Z9 ?_;refine fj ?_ ?_
     · first|(exfalso;omega)|exact ag.int (by unfold au;(repeat (first|rw[if_pos (by omega)]|rw[if_neg (by omega)]));first|done|rfl)
     first|(exfalso;omega)|exact ag.prop (by unfold au;(repeat (first|rw[if_pos (by omega)]|rw[if_neg (by omega)]));first|done|(simp;done)|(simp;omega))
    refine dH ?_;refine fj ?_ ?_
    · first|(exfalso;omega)|exact ag.int (by unfold au;(repeat (first|rw[if_pos (by omega)]|rw[if_neg (by omega)]));first|done|rfl)
    first|(exfalso;omega)|exact ag.prop (by unfold au;(repeat (first|rw[if_pos (by omega)]|rw[if_neg (by omega)]));first|done|(simp;done)|(simp;omega))
   refine Z5 ?_;refine Cd (fun Zr=>?_) fun Zr=>?_
   ·
    refine Z9 ?_;refine fj ?_ ?_
    · first|(exfalso;omega)|exact ag.int (by unfold au;(repeat (first|rw[if_pos (by omega)]|rw[if_neg (by omega)]));first|done|rfl)
    first|(exfalso;omega)|exact ag.prop (by unfold au;(repeat (first|rw[if_pos (by omega)]|rw[if_neg (by omega)]));first|done|(simp;done)|(simp;omega))
   refine dH ?_;refine fj ?_ ?_
   · first|(exfalso;omega)|exact ag.int (by unfold au;(repeat (first|rw[if_pos (by omega)]|rw[if_neg (by omega)]));first|done|rfl)
   first|(exfalso;omega)|exact ag.prop (by unfold au;(repeat (first|rw[if_pos (by omega)]|rw[if_neg (by omega)]));first|done|(simp;done)|(simp;omega))
  refine Z5 ?_;refine Cd (fun Zs=>?_) fun Zs=>?_
  ·
   refine Z9 ?_;refine fj ?_ ?_
   · first|(exfalso;omega)|exact ag.int (by unfold au;(repeat (first|rw[if_pos (by omega)]|rw[if_neg (by omega)]));first|done|rfl)
   first|(exfalso;omega)|exact ag.prop (by unfold au;(repeat (first|rw[if_pos (by omega)]|rw[if_neg (by omega)]));first|done|(simp;done)|(simp;omega))
  refine Z7 ?_;refine Cd (fun Zt=>?_) fun Zt=>?_
  ·
   refine Z2 ?_;refine Cd (fun Zu=>?_) fun Zu=>?_
   ·
    refine Z9 ?_;refine fj ?_ ?_
    · first|(exfalso;omega)|exact ag.int (by unfold au;(repeat (first|rw[if_pos (by omega)]|rw[if_neg (by omega)]));first|done|rfl)
    first|(exfalso;omega)|exact ag.prop (by unfold au;(repeat (first|rw[if_pos (by omega)]|rw[if_neg (by omega)]));first|done|(simp;done)|(simp;omega))
   refine dH ?_;refine fj ?_ ?_
   · first|(exfalso;omega)|exact ag.int (by unfold au;(repeat (first|rw[if_pos (by omega)]|rw[if_neg (by omega)]));first|done|rfl)
   first|(exfalso;omega)|exact ag.prop (by unfold au;(repeat (first|rw[if_pos (by omega)]|rw[if_neg (by omega)]));first|done|(simp;done)|(simp;omega))
  refine Z5 ?_;refine Cd (fun Zv=>?_) fun Zv=>?_
  ·
   refine Z9 ?_;refine fj ?_ ?_
   · first|(exfalso;omega)|exact ag.int (by unfold au;(repeat (first|rw[if_pos (by omega)]|rw[if_neg (by omega)]));first|done|rfl)
   first|(exfalso;omega)|exact ag.prop (by unfold au;(repeat (first|rw[if_pos (by omega)]|rw[if_neg (by omega)]));first|done|(simp;done)|(simp;omega))
  refine dH ?_;refine fj ?_ ?_
  · first|(exfalso;omega)|exact ag.int (by unfold au;(repeat (first|rw[if_pos (by omega)]|rw[if_neg (by omega)]));first|done|rfl)
  first|(exfalso;omega)|exact ag.prop (by unfold au;(repeat (first|rw[if_pos (by omega)]|rw[if_neg (by omega)]));first|done|(simp;done)|(simp;omega))
 refine Z5 ?_;refine Cd (fun Zw=>?_) fun Zw=>?_
 ·
  refine ek ?_;refine fj ?_ ?_
  · first|(exfalso;omega)|exact ag.int (by unfold au;(repeat (first|rw[if_pos (by omega)]|rw[if_neg (by omega)]));first|done|rfl)
  first|(exfalso;omega)|exact ag.prop (by unfold au;(repeat (first|rw[if_pos (by omega)]|rw[if_neg (by omega)]));first|done|(simp;done)|(simp;omega))
 refine Z7 ?_;refine Cd (fun Zx=>?_) fun Zx=>?_
 ·
  refine Z2 ?_;refine Cd (fun c24=>?_) fun c24=>?_
  ·
   refine Z9 ?_;refine fj ?_ ?_
   · first|(exfalso;omega)|exact ag.int (by unfold au;(repeat (first|rw[if_pos (by omega)]|rw[if_neg (by omega)]));first|done|rfl)
   first|(exfalso;omega)|exact ag.prop (by unfold au;(repeat (first|rw[if_pos (by omega)]|rw[if_neg (by omega)]));first|done|(simp;done)|(simp;omega))
  refine Z7 ?_;refine Cd (fun c25=>?_) fun c25=>?_
  ·
   refine Z2 ?_;refine Cd (fun c26=>?_) fun c26=>?_
   ·
    refine Z9 ?_;refine fj ?_ ?_
    · first|(exfalso;omega)|exact ag.int (by unfold au;(repeat (first|rw[if_pos (by omega)]|rw[if_neg (by omega)]));first|done|rfl)
    first|(exfalso;omega)|exact ag.prop (by unfold au;(repeat (first|rw[if_pos (by omega)]|rw[if_neg (by omega)]));first|done|(simp;done)|(simp;omega))
   refine dH ?_;refine fj ?_ ?_
   · first|(exfalso;omega)|exact ag.int (by unfold au;(repeat (first|rw[if_pos (by omega)]|rw[if_neg (by omega)]));first|done|rfl)
   first|(exfalso;omega)|exact ag.prop (by unfold au;(repeat (first|rw[if_pos (by omega)]|rw[if_neg (by omega)]));first|done|(simp;done)|(simp;omega))
  refine Z5 ?_;refine Cd (fun c27=>?_) fun c27=>?_
  ·
   refine Z9 ?_;refine fj ?_ ?_
   · first|(exfalso;omega)|exact ag.int (by unfold au;(repeat (first|rw[if_pos (by omega)]|rw[if_neg (by omega)]));first|done|rfl)
   first|(exfalso;omega)|exact ag.prop (by unfold au;(repeat (first|rw[if_pos (by omega)]|rw[if_neg (by omega)]));first|done|(simp;done)|(simp;omega))
  refine dH ?_;refine fj ?_ ?_
  · first|(exfalso;omega)|exact ag.int (by unfold au;(repeat (first|rw[if_pos (by omega)]|rw[if_neg (by omega)]));first|done|rfl)
  first|(exfalso;omega)|exact ag.prop (by unfold au;(repeat (first|rw[if_pos (by omega)]|rw[if_neg (by omega)]));first|done|(simp;done)|(simp;omega))
 refine Z5 ?_;refine Cd (fun c28=>?_) fun c28=>?_
 ·
  refine Z9 ?_;refine fj ?_ ?_
  · first|(exfalso;omega)|exact ag.int (by unfold au;(repeat (first|rw[if_pos (by omega)]|rw[if_neg (by omega)]));first|done|rfl)
  first|(exfalso;omega)|exact ag.prop (by unfold au;(repeat (first|rw[if_pos (by omega)]|rw[if_neg (by omega)]));first|done|(simp;done)|(simp;omega))
 refine Z7 ?_;refine Cd (fun c29=>?_) fun c29=>?_
 ·
  refine Z2 ?_;refine Cd (fun c30=>?_) fun c30=>?_
  ·
   refine Z9 ?_;refine fj ?_ ?_
   · first|(exfalso;omega)|exact ag.int (by unfold au;(repeat (first|rw[if_pos (by omega)]|rw[if_neg (by omega)]));first|done|rfl)
   first|(exfalso;omega)|exact ag.prop (by unfold au;(repeat (first|rw[if_pos (by omega)]|rw[if_neg (by omega)]));first|done|(simp;done)|(simp;omega))
  refine dH ?_;refine fj ?_ ?_
  · first|(exfalso;omega)|exact ag.int (by unfold au;(repeat (first|rw[if_pos (by omega)]|rw[if_neg (by omega)]));first|done|rfl)
  first|(exfalso;omega)|exact ag.prop (by unfold au;(repeat (first|rw[if_pos (by omega)]|rw[if_neg (by omega)]));first|done|(simp;done)|(simp;omega))
 refine Z5 ?_;refine Cd (fun c31=>?_) fun c31=>?_
 ·
  refine Z9 ?_;refine fj ?_ ?_
  · first|(exfalso;omega)|exact ag.int (by unfold au;(repeat (first|rw[if_pos (by omega)]|rw[if_neg (by omega)]));first|done|rfl)
  first|(exfalso;omega)|exact ag.prop (by unfold au;(repeat (first|rw[if_pos (by omega)]|rw[if_neg (by omega)]));first|done|(simp;done)|(simp;omega))
 refine dH ?_;refine fj ?_ ?_
 · first|(exfalso;omega)|exact ag.int (by unfold au;(repeat (first|rw[if_pos (by omega)]|rw[if_neg (by omega)]));first|done|rfl)
 first|(exfalso;omega)|exact ag.prop (by unfold au;(repeat (first|rw[if_pos (by omega)]|rw[if_neg (by omega)]));first|done|(simp;done)|(simp;omega))
theorem KH(aj:(dY x.Code).Form≠8∧(dY x.Code).Form≠9∧(dY x.Code).Form≠10):bk Tryz.prog 102 [ai b 0,aK (aE x),nV at_] [] (γ:=Unit) (fun _=>True) (fun _=>[]) (fun _=>ak False):=by
 refine In 158 Tryz.func102 fun _ _ _=>?_;obtain⟨Bi,hn2,R8⟩:=aj;have hir:dY x.Code=(dy x.Code).getD LR:=rfl;rw[hir] at Bi hn2 R8;refine dH ?_;refine .p (cA (h:=find_spec)) rfl ?_;refine Z3 ?_;refine .n (ay FZ.out) rfl fun b7 _=>?_;refine Z22 ?_;refine Cd (fun c0=>?_) fun c0=>?_
 ·
  refine Z7 ?_;refine Post.aO rfl (()) (by trivial) (aA.fI [] [0] rfl rfl) (.rt rfl) ?_;exact .z
 exact(c0 ⟨⟨Bi,hn2⟩,R8⟩).elim
theorem GY(aj:lZ A K):bk Tryz.prog 135 [ai b 0,aK (aE x)] [dJ A K (mE b F bs) m,aM A K c] (γ:=Unit) (fun _=>True) (fun _=>[dJ A K (mE b F bs) m,aM A K c]) (fun _=>wV (bZ x c)):=by
 refine In 32 Tryz.func135 fun _ _ _=>?_;refine .oy fun qQ=>?_;have Ab:=aj.cells;have hcs:=qQ.sl;have RI:=Iw qQ.sv (c.stk.length-1);refine Jd ?_;refine Cd (fun c0=>?_) fun c0=>?_
 ·
  have Nv:bZ x c=1:=if_neg (by omega);refine Z7 ?_;refine aX ?_;exact ag.int (by rw[Nv];rfl)
 have Nv:bZ x c=1+ve (c.stk.length-1) c/64:=if_pos (by omega);have hge:(if 0≤(c.stk.length:Int)-1 then(c.stk[((c.stk.length:Int)-1).toNat]?).getD 0 else 0)=ve (c.stk.length-1) c:=by(unfold ve;by_cases h9:0≤(c.stk.length:Int)-1;(rw[if_pos h9,show((c.stk.length:Int)-1).toNat=c.stk.length-1 by omega]);(rw[if_neg h9,List.getElem?_eq_none (by omega)];rfl))
 refine Z3 ?_;refine .bF [(0,0),(1,0),(2,0),(3,1),(4,0),(5,0),(6,0),(7,1),(8,4),(9,0),(10,4),(11,0),(12,0),(13,0),(14,0)] 15 1 FM.out (by kernel_rfl) (k:= ?_);refine Z8 ?_;refine .a rfl ((fU [_] [1,0] (h:=oh)).same (fun _ _=>aA.perm (Perm.idx [1,0] rfl rfl)) (fun _ _=>ag.refl _)) (fun _ _=>aA.refl _) fun _ _=>?_;refine Z1 ?_;refine .a rfl ((fU [_] [1,0] (h:=zY aj)).same (fun _ _=>aA.perm (Perm.idx [1,0] rfl rfl)) (fun _ _=>ag.refl _)) (fun _ _=>aA.refl _) fun _ _=>?_;refine Z1 ?_;refine .p rfl (fun _=>(dA (.t rfl) rfl).le (ag.int (congrArg Nat.cast hge))) ?_;refine Z2 ?_;refine .fin ?_;refine Z6 ?_;refine .p (y8 (b:=64) (a:=ve (c.stk.length-1) c) ⟨by decide,RI⟩ (.t rfl) (.c _)) rfl ?_;refine .p ((gf (.c _) (.t rfl) bW).le (ag.int (show _=((1+ve (c.stk.length-1) c/64:Nat):Int) by omega))) rfl ?_;refine Z4 ?_;refine aX ?_;exact ag.int (by rw[Nv])
variable {a:Nat}
theorem GZ(aj:a<18446744073709551616):cw Tryz.prog 270 [uV a] (iV (64-(tj a:Int))):=by
 refine In 6 Tryz.func270 fun _ _ _=>?_;have hb:=Mc (a:=a) (n:=64) aj;refine Z8 ?_;refine .p (cA (h:=xm aj)) rfl ?_;refine Z5 ?_;refine aX ?_;exact ag.refl _
theorem G0(aj:a<18446744073709551616):bk Tryz.prog 271 [uV a] [nK 1 .u8 Lib.deBruijn64tab] (γ:=Unit) (fun _=>True) (fun _=>[]) (fun _=>iV (Lib.ctz 64 a:Int)):=by
 refine In 14 Tryz.func271 fun _ _ _=>?_;refine fW ?_;refine Cd (fun c0=>?_) fun c0=>?_
 ·
  have ha0:a=0:=by omega
  subst ha0;refine Z7 ?_;refine aX ?_;exact ag.refl _
 have ha0:a≠0:=by omega
 obtain⟨Zy,hk⟩:=Lib.lowest_bit 64 a ha0 aj;obtain⟨hi,Pz⟩:=Lib.deBruijn64_at _ hk;refine Z6 ?_;refine .p ((PR (.t rfl)).le (ag.int (show _=((18446744073709551616-a:Nat):Int) by rw[IntKind.wrap_u64];omega))) rfl ?_;refine .p ((gZ (by omega) (by omega) (.t rfl) (.t rfl)).le (ag.int (congrArg Nat.cast Zy))) rfl ?_;refine .p ((y6 (a:=2^Lib.ctz 64 a) (b:=285870213051353865) (.t rfl) (.c _)).le (ag.refl _)) rfl ?_;refine .p (iA (s:=58) (.t rfl) (.c _) (by decide)) rfl ?_;refine .p (dc (2^Lib.ctz 64 a*285870213051353865%18446744073709551616/2^58) FU.out FC.out rfl (.g 1) (.t rfl) rfl (by omega)) rfl ?_;refine .p ((I9 (i:=0) FA.out (.t rfl) rfl (by have OK:Lib.deBruijn64tab.length=64:=rfl;rw[Nat.zero_add,Nat.mul_one,OK];exact hi)).le (ag.int (show _=((Lib.ctz 64 a:Nat):Int) from congrArg Nat.cast (by rw[Nat.zero_add,Nat.mul_one];exact Pz)))) rfl ?_;refine Z5 ?_;refine aX ?_;exact ag.refl _
theorem G3(aj:a<18446744073709551616):cw Tryz.prog 272 [uV a] (iV (dD 64 a:Int)):=by
 refine In 35 Tryz.func272 fun _ _ _=>?_;obtain⟨z1,z2,z3,z4,z5,z6⟩:= @Rw a _ _ _ _ _ aj rfl rfl rfl rfl rfl;generalize hy1:(a/2 &&& 6148914691236517205)+(a &&& 6148914691236517205)=y1 at*;generalize hy2:(y1/4 &&& 3689348814741910323)+(y1 &&& 3689348814741910323)=y2 at*;generalize hy3:(y2/16+y2) &&& 1085102592571150095=y3 at*;refine Z8 ?_;refine .p (iA (s:=1) (.t rfl) (.c _) (by decide)) rfl ?_;refine .p (gZ (b:=6148914691236517205) (by omega) (by decide) (.t rfl) (.c _)) rfl ?_;refine Z1 ?_;refine .p (gZ (b:=6148914691236517205) (by omega) (by decide) (.t rfl) (.c _)) rfl ?_;refine .p ((jF (.t rfl) (.t rfl)).le (ag.int (show _=(y1:Int) by rw[←hy1];rw[←hy1] at z1;exact congrArg Nat.cast (Nat.mod_eq_of_lt z1)))) rfl ?_;refine Z6 ?_;refine .p (iA (s:=2) (.t rfl) (.c _) (by decide)) rfl ?_;refine .p (gZ (b:=3689348814741910323) (by omega) (by decide) (.t rfl) (.c _)) rfl ?_;refine Z1 ?_;refine .p (gZ (b:=3689348814741910323) (by omega) (by decide) (.t rfl) (.c _)) rfl ?_;refine .p ((jF (.t rfl) (.t rfl)).le (ag.int (show _=(y2:Int) by rw[←hy2];rw[←hy2] at z2;exact congrArg Nat.cast (Nat.mod_eq_of_lt z2)))) rfl ?_;refine Z6 ?_;refine .p (iA (s:=4) (.t rfl) (.c _) (by decide)) rfl ?_;refine Z1 ?_;refine .p ((jF (.t rfl) (.t rfl)).le (ag.int (show _=((y2/16+y2:Nat):Int) from congrArg Nat.cast (Nat.mod_eq_of_lt z3)))) rfl ?_;refine .p ((gZ (b:=1085102592571150095) (by omega) (by decide) (.t rfl) (.c _)).le (ag.int (congrArg Nat.cast hy3))) rfl ?_;refine Z7 ?_;refine .p (iA (s:=8) (.t rfl) (.c _) (by decide)) rfl ?_;refine .p ((jF (.t rfl) (.t rfl)).le (ag.int (show _=((y3+y3/256:Nat):Int) from congrArg Nat.cast (Nat.mod_eq_of_lt (by omega))))) rfl ?_;refine Z7 ?_;refine .p (iA (s:=16) (.t rfl) (.c _) (by decide)) rfl ?_;refine .p ((jF (.t rfl) (.t rfl)).le (ag.int (show _=(((y3+y3/256)+(y3+y3/256)/65536:Nat):Int) from congrArg Nat.cast (Nat.mod_eq_of_lt (by omega))))) rfl ?_;refine Z7 ?_;refine .p (iA (s:=32) (.t rfl) (.c _) (by decide)) rfl ?_;refine .p ((jF (.t rfl) (.t rfl)).le (ag.int (show _=((((y3+y3/256)+(y3+y3/256)/65536)+((y3+y3/256)+(y3+y3/256)/65536)/4294967296:Nat):Int) from congrArg Nat.cast (Nat.mod_eq_of_lt (by omega))))) rfl ?_;refine Z7 ?_;refine .p (I5 (b:=127) (by omega) (by decide) (.t rfl) (.c _)) rfl ?_;refine Z4 ?_;refine aX ?_;exact ag.int (congrArg Nat.cast ((Rx _).trans z5))
variable {k:Int}
theorem Ee(aj:a<4294967296):cw Tryz.prog 387 [aa .u32 (a:Int),iV k] (aa .u32 (rD 32 a (k%32).toNat:Int)):=by
 refine In 17 Tryz.func387 fun _ _ _=>?_;have OP:=Int.emod_nonneg k (show(32:Int)≠0 by decide);have vL:=Int.emod_lt_of_pos k (show(0:Int)<32 by decide);have hda:=Nat.div_le_self a;refine Z8 ?_;refine .p ((dM FU.out FU.out (.t rfl)).le (ag.int (nv k))) rfl ?_;refine .p ((gZ (b:=31) (by omega) (by decide) (.t rfl) (.c _)).le (ag.int (congrArg Nat.cast (TL k)))) rfl ?_;refine Z7 ?_;refine .p (I6 (.t rfl) (.t rfl) (by omega)) rfl ?_;refine Z2 ?_;refine .p ((tG (a:=32) (by omega) (.c _) (.t rfl)).le (ag.int (show _=((32-(k%32).toNat:Nat):Int) by omega))) rfl ?_;refine .p (iA (.t rfl) (.t rfl) (by show _≤32;omega)) rfl ?_;refine .p (Lo (Nat.mod_lt _ (by decide)) (Nat.lt_of_le_of_lt (hda _) aj) (.t rfl) (.t rfl)) rfl ?_;refine Z4 ?_;refine aX ?_;exact ag.int (congrArg Nat.cast (Mu (n:=32) aj (by omega)))
theorem Ef(aj:a<18446744073709551616):cw Tryz.prog 388 [aa .u64 (a:Int),iV k] (aa .u64 (rD 64 a (k%64).toNat:Int)):=by
 refine In 17 Tryz.func388 fun _ _ _=>?_;have OP:=Int.emod_nonneg k (show(64:Int)≠0 by decide);have vL:=Int.emod_lt_of_pos k (show(0:Int)<64 by decide);have hda:=Nat.div_le_self a;refine Z8 ?_;refine .p ((dM FU.out FU.out (.t rfl)).le (ag.int (nv k))) rfl ?_;refine .p ((gZ (b:=63) (by omega) (by decide) (.t rfl) (.c _)).le (ag.int (congrArg Nat.cast (TM k)))) rfl ?_;refine Z7 ?_;refine .p (lg (.t rfl) (.t rfl) (by omega)) rfl ?_;refine Z2 ?_;refine .p ((tG (a:=64) (by omega) (.c _) (.t rfl)).le (ag.int (show _=((64-(k%64).toNat:Nat):Int) by omega))) rfl ?_;refine .p (iA (.t rfl) (.t rfl) (by show _≤64;omega)) rfl ?_;refine .p (vX (Nat.mod_lt _ (by decide)) (Nat.lt_of_le_of_lt (hda _) aj) (.t rfl) (.t rfl)) rfl ?_;refine Z4 ?_;refine aX ?_;exact ag.int (congrArg Nat.cast (Mu (n:=64) aj (by omega)))
theorem pX{m:Int}:cw Tryz.prog 269 [iV m] (ak (m=32∨m=64)):=by
 refine In 9 Tryz.func269 fun _ _ _=>?_;refine EA ?_;refine aX ?_;exact ag.refl _
variable {n:Nat}
theorem iq(aj:WN n)(aQ:a<18446744073709551616):cw Tryz.prog 59 [iV (n:Int),uV a] (uV (a%2^n)):=by
 refine In 11 Tryz.func59 fun _ _ _=>?_;refine fW ?_;refine Cd (fun c0=>?_) fun c0=>?_
 ·
  have hn:n=32:=by omega
  subst hn;refine Z3 ?_;refine .p (dM FU.out FU.out (.t rfl)) rfl ?_;refine .p (dM FU.out FU.out (.t rfl)) rfl ?_;refine Z5 ?_;refine aX ?_;exact ag.int (by rw[IntKind.wrap_u64,IntKind.wrap_u32];omega)
 have hn:n=64:=by rcases aj with h|h<;>omega
 subst hn;refine Z9 ?_;refine aX ?_;exact ag.int (by omega)
theorem gU(aj:WN n)(aQ:a<2^n):cw Tryz.prog 336 [iV (n:Int),uV a] (iV (nw n a)):=by
 refine In 12 Tryz.func336 fun _ _ _=>?_;refine fW ?_;refine Cd (fun c0=>?_) fun c0=>?_
 ·
  have hn:n=32:=by omega
  subst hn;refine Z3 ?_;refine .p (dM FU.out FU.out (.t rfl)) rfl ?_;refine .p (dM FU.out FU.out (.t rfl)) rfl ?_;refine Z5 ?_;refine aX ?_;exact ag.int (by rw[←TA,Nat.mod_eq_of_lt aQ])
 have hn:n=64:=by rcases aj with h|h<;>omega
 subst hn;refine Z5 ?_;refine .p (dM FU.out FU.out (.t rfl)) rfl ?_;refine Z4 ?_;refine aX ?_;exact ag.int (TB aQ).symm
theorem G4{a b:Int}(aj:b≠0):cw Tryz.prog 337 [iV a,iV b] (iV (a.tmod b)):=by
 refine In 10 Tryz.func337 fun _ _ _=>?_;refine fW ?_;refine Cd (fun c0=>?_) fun c0=>?_
 ·
  refine Z7 ?_;refine aX ?_;exact ag.int (by rw[c0,Int.tmod_neg,Int.tmod_one])
 refine Z6 ?_;refine .p (QH (.t rfl) (.t rfl) aj) rfl ?_;refine Z4 ?_;refine aX ?_;exact ag.refl _
theorem xW(aj:WN n)(aQ:a<2^n):cw Tryz.prog 338 [iV (n:Int),uV a,iV k] (uV (rD n a (k%n).toNat)):=by
 refine In 17 Tryz.func338 fun _ _ _=>?_;refine fW ?_;refine Cd (fun c0=>?_) fun c0=>?_
 ·
  have hn:n=32:=by omega
  subst hn;have hr:=wP (n:=32) (k:=(k%32).toNat) aQ (by omega);refine Z5 ?_;refine .p (cA (h:=Ee aQ)) rfl ?_;refine Z6 ?_;refine aX ?_;exact ag.refl _
 have hn:n=64:=by rcases aj with h|h<;>omega
 subst hn;refine Z6 ?_;refine .p (cA (h:=Ef aQ)) rfl ?_;refine Z4 ?_;refine aX ?_;exact ag.refl _
theorem cc{p:Prop}:cw Tryz.prog 273 [ak p] (uV (P7 p)):=by
 refine In 4 Tryz.func273 fun _ _ _=>?_;refine ek ?_;refine Cd (fun c0=>?_) fun c0=>?_
 ·
  refine Z7 ?_;refine aX ?_;exact ag.int (by rw[Ip c0];rfl)
 refine Z8 ?_;refine aX ?_;exact ag.int (by rw[Iq c0];rfl)
theorem bI{s:Prop}[Decidable s](aj:WN n)(aQ:a<2^n)(bu:b<2^n):cw Tryz.prog 274 [ak s,iV (n:Int),uV a,uV b] (ak (sL n s a b)):=by
 refine In 20 Tryz.func274 fun _ _ _=>?_;refine ek ?_;refine Cd (fun c0=>?_) fun c0=>?_
 ·
  refine Z4 ?_;refine .p (cA (h:=gU aj aQ)) rfl ?_;refine Z2 ?_;refine .p (cA (h:=gU aj bu)) rfl ?_;refine Z6 ?_;refine aX ?_;exact ag.prop (by unfold sL;rw[if_pos c0])
 refine ek ?_;refine aX ?_;exact ag.prop (by unfold sL;rw[if_neg c0];omega)
variable {op:Int} {B:Nat}
theorem yH{A:Nat}(aj:WN n)(aQ:A<2^n)(bu:B<2^n):cw Tryz.prog 275 [iV op,iV (n:Int),uV A,uV B] (iV (lM n op A B)):=by
 refine In 35 Tryz.func275 fun _ _ _=>?_;have Bi:1≤n∧n≤64:=by rcases aj with rfl|rfl<;>omega
 have Qx:1*2^(n-1)%18446744073709551616=2^(n-1):=by rcases aj with rfl|rfl<;>rfl
 refine E7 ?_;refine Cd (fun c0=>?_) fun c0=>?_
 ·
  refine Z9 ?_;refine aX ?_;exact ag.int (by unfold lM;rw[if_pos c0])
 refine Z7 ?_;refine Cd (fun c1=>?_) fun c1=>?_
 ·
  refine Z8 ?_;refine aX ?_;exact ag.int (by unfold lM;rw[if_neg c0,if_pos (by omega)])
 refine Z7 ?_;refine .g (bB.gT rfl rfl rfl rfl (fun hg=>bg (gU aj bu) FB.out (.cons (.when (.t rfl) hg) (.cons (.when (.t rfl) hg) .nil)))) rfl rfl ?_;refine Z6 ?_;refine .g (bB.gT rfl rfl rfl rfl (fun hg=>(lg (a:=1) (s:=n-1) (.c _) (.le (.when (.t rfl) hg) (ag.int (by omega))) (by omega)).le (ag.int (congrArg Nat.cast Qx)))) rfl rfl ?_;refine Z5 ?_;refine Cd (fun c2=>?_) fun c2=>?_
 ·
  refine Z8 ?_;refine aX ?_;exact ag.int (by unfold lM;rw[if_neg c0,if_neg (by omega),if_pos ⟨c2.1.1,c2.1.2,by omega⟩])
 refine Z9 ?_;refine aX ?_;exact ag.int (by unfold lM;rw[if_neg c0,if_neg (by omega),if_neg (fun h=>c2 ⟨⟨h.1,h.2.1⟩,by omega⟩)])
theorem Eg{A:Nat}(aj:WN n)(aQ:A<2^n)(bu:B<2^n)(cZ:0≤op)(jy:op<7)(qH:3≤op→B≠0):cw Tryz.prog 276 [iV op,iV (n:Int),uV A,uV B] (uV (jL n op A B)):=by
 refine In 53 Tryz.func276 fun _ _ _=>?_;have yD:=tU aj aQ;have R4:=tU aj bu;refine E7 ?_;refine Cd (fun c0=>?_) fun c0=>?_
 ·
  refine Z4 ?_;refine .p (jF (.t rfl) (.t rfl)) rfl ?_;refine Z6 ?_;refine aX ?_;exact ag.int (by unfold jL;rw[if_pos c0])
 refine Z6 ?_;refine Cd (fun c1=>?_) fun c1=>?_
 ·
  refine Z4 ?_;refine .p (tG (by omega) (.t rfl) (.t rfl)) rfl ?_;refine Z6 ?_;refine aX ?_;exact ag.int (by unfold jL;rw[if_neg c0,if_pos c1])
 refine Z6 ?_;refine Cd (fun c2=>?_) fun c2=>?_
 ·
  refine Z4 ?_;refine .p (y6 (.t rfl) (.t rfl)) rfl ?_;refine Z6 ?_;refine aX ?_;exact ag.int (by unfold jL;rw[if_neg c0,if_neg c1,if_pos c2])
 refine Z6 ?_;refine Cd (fun c3=>?_) fun c3=>?_
 ·
  refine Z4 ?_;refine .p (cA (h:=gU aj aQ)) rfl ?_;refine Z2 ?_;refine .p (cA (h:=gU aj bu)) rfl ?_;refine .p (QG (.t rfl) (.t rfl) (Ib aj bu (qH (by omega)))) rfl ?_;refine .p (dM FU.out FU.out (.t rfl)) rfl ?_;refine Z6 ?_;refine aX ?_;exact ag.int (by unfold jL;rw[if_neg c0,if_neg c1,if_neg c2,if_pos c3];try (rw[←nv];rw[IntKind.wrap_u64,IntKind.wrap_u64,IntKind.wrap_i64];omega))
 refine Z6 ?_;refine Cd (fun c4=>?_) fun c4=>?_
 ·
  refine Z4 ?_;refine .p (y8 ⟨Nat.pos_of_ne_zero (qH (by omega)),yD⟩ (.t rfl) (.t rfl)) rfl ?_;refine Z6 ?_;refine aX ?_;exact ag.int (by unfold jL;rw[if_neg c0,if_neg c1,if_neg c2,if_neg c3,if_pos c4])
 refine Z6 ?_;refine Cd (fun c5=>?_) fun c5=>?_
 ·
  refine Z4 ?_;refine .p (cA (h:=gU aj aQ)) rfl ?_;refine Z2 ?_;refine .p (cA (h:=gU aj bu)) rfl ?_;refine .p (cA (h:=G4 (Ib aj bu (qH (by omega))))) rfl ?_;refine .p (dM FU.out FU.out (.t rfl)) rfl ?_;refine Z6 ?_;refine aX ?_;exact ag.int (by unfold jL;rw[if_neg c0,if_neg c1,if_neg c2,if_neg c3,if_neg c4,if_pos c5];exact nv _)
 refine Z7 ?_;refine .p (y7 (Nat.pos_of_ne_zero (qH (by omega))) (.t rfl) (.t rfl)) rfl ?_;refine Z4 ?_;refine aX ?_;exact ag.int (by unfold jL;rw[if_neg c0,if_neg c1,if_neg c2,if_neg c3,if_neg c4,if_neg c5])
theorem yI{A:Nat}(aj:WN n)(aQ:A<2^n)(bu:B<2^n)(cZ:7≤op):cw Tryz.prog 277 [iV op,iV (n:Int),uV A,uV B] (uV (mA n op A B)):=by
 refine In 60 Tryz.func277 fun _ _ _=>?_;have yD:=tU aj aQ;have R4:=tU aj bu;have Bi:1≤n∧n≤64:=by rcases aj with rfl|rfl<;>omega
 have hk:=Nat.mod_lt B (show 0<n by omega);refine dH ?_;refine .p (y7 (by omega) (.t rfl) (.t rfl)) rfl ?_;refine EA ?_;refine Cd (fun c0=>?_) fun c0=>?_
 ·
  refine Z4 ?_;refine .p (gZ (by omega) (by omega) (.t rfl) (.t rfl)) rfl ?_;refine Z6 ?_;refine aX ?_;exact ag.int (by unfold mA;rw[if_pos c0])
 refine Z6 ?_;refine Cd (fun c1=>?_) fun c1=>?_
 ·
  refine Z4 ?_;refine .p (vX (by omega) (by omega) (.t rfl) (.t rfl)) rfl ?_;refine Z6 ?_;refine aX ?_;exact ag.int (by unfold mA;rw[if_neg c0,if_pos c1])
 refine Z6 ?_;refine Cd (fun c2=>?_) fun c2=>?_
 ·
  refine Z4 ?_;refine .p (I4 (by omega) (by omega) (.t rfl) (.t rfl)) rfl ?_;refine Z6 ?_;refine aX ?_;exact ag.int (by unfold mA;rw[if_neg c0,if_neg c1,if_pos c2])
 refine Z6 ?_;refine Cd (fun c3=>?_) fun c3=>?_
 ·
  refine Z4 ?_;refine .p (lg (.t rfl) (.t rfl) (by omega)) rfl ?_;refine Z6 ?_;refine aX ?_;exact ag.int (by unfold mA;rw[if_neg c0,if_neg c1,if_neg c2,if_pos c3])
 refine Z6 ?_;refine Cd (fun c4=>?_) fun c4=>?_
 ·
  refine Z4 ?_;refine .p (cA (h:=gU aj aQ)) rfl ?_;refine Z1 ?_;refine .p (HF (.t rfl) (.t rfl) (by show _≤64;omega)) rfl ?_;refine .p ((dM FU.out FU.out (.t rfl)).le (ag.int (nv _))) rfl ?_;refine Z6 ?_;refine aX ?_;exact ag.int (by unfold mA;rw[if_neg c0,if_neg c1,if_neg c2,if_neg c3,if_pos c4])
 refine Z6 ?_;refine Cd (fun c5=>?_) fun c5=>?_
 ·
  refine Z4 ?_;refine .p (iA (.t rfl) (.t rfl) (by show _≤64;omega)) rfl ?_;refine Z6 ?_;refine aX ?_;exact ag.int (by unfold mA;rw[if_neg c0,if_neg c1,if_neg c2,if_neg c3,if_neg c4,if_pos c5])
 refine Z6 ?_;refine Cd (fun c6=>?_) fun c6=>?_
 ·
  refine Z5 ?_;refine .p (cA (h:=xW aj aQ)) rfl ?_;refine Z6 ?_;refine aX ?_;exact ag.int (by unfold mA;rw[if_neg c0,if_neg c1,if_neg c2,if_neg c3,if_neg c4,if_neg c5,if_pos c6];rw[OV hk])
 refine Z8 ?_;refine .p (QF (.t rfl) bW) rfl ?_;refine .p (cA (h:=xW aj aQ)) rfl ?_;refine Z4 ?_;refine aX ?_;exact ag.int (by unfold mA;rw[if_neg c0,if_neg c1,if_neg c2,if_neg c3,if_neg c4,if_neg c5,if_neg c6];rw[OW hk])
theorem By(aj:WN n)(aQ:a<18446744073709551616)(bu:b<18446744073709551616)(cZ:0≤op)(jy:op<15):cw Tryz.prog 216 [iV op,iV (n:Int),uV a,uV b] (aS [uV (CN n op (a%2^n) (b%2^n)),iV (lM n op (a%2^n) (b%2^n)),iV 0]):=by
 refine In 48 Tryz.func216 fun _ _ _=>?_;have hA:=Nat.mod_lt a (Nat.two_pow_pos n);have hB:=Nat.mod_lt b (Nat.two_pow_pos n);generalize hAe:a%2^n=A at*;generalize hBe:b%2^n=B at*;refine ek ?_;refine .p (cA (h:=pX)) rfl ?_;refine ek ?_;refine Cd (fun c0=>?_) fun c0=>?_
 ·
  exfalso;rcases aj with rfl|rfl<;>omega
 refine Z6 ?_;refine .p ((cA (h:=iq aj aQ)).le (ag.int (congrArg Nat.cast hAe))) rfl ?_;refine Z2 ?_;refine .p ((cA (h:=iq aj bu)).le (ag.int (congrArg Nat.cast hBe))) rfl ?_;refine ek ?_;refine .p (cA (h:=yH aj hA hB)) rfl ?_;refine Z9 ?_;refine Cd (fun c1=>?_) fun c1=>?_
 ·
  refine dH ?_;refine N8 ?_ ?_ ?_
  · exact ag.int (by unfold CN;rw[if_neg c1];rfl)
  · exact ag.refl _
  exact ag.refl _
 refine Z4 ?_;refine .p (dK (.le (.f _) ((pZ FB.out (fun z h=>Eg h.1 h.2.1 h.2.2.1 h.2.2.2.1 h.2.2.2.2.1 h.2.2.2.2.2):ag _ (mM Tryz.prog (A:=Int×Nat×Nat×Nat) (fun z=>WN z.2.1∧z.2.2.1<2^z.2.1∧z.2.2.2<2^z.2.1∧0≤z.1∧z.1<7∧(3≤z.1→z.2.2.2≠0)) (fun z=>[iV z.1,iV (z.2.1:Int),uV z.2.2.1,uV z.2.2.2]) (fun z=>uV (jL z.2.1 z.1 z.2.2.1 z.2.2.2))))))) rfl ?_;refine Z9 ?_;refine Cd (fun c2=>?_) fun c2=>?_
 ·
  refine Z1 ?_;refine .p (dK (.le (.f _) ((pZ FB.out (fun z h=>yI h.1 h.2.1 h.2.2.1 h.2.2.2):ag _ (mM Tryz.prog (A:=Int×Nat×Nat×Nat) (fun z=>WN z.2.1∧z.2.2.1<2^z.2.1∧z.2.2.2<2^z.2.1∧7≤z.1) (fun z=>[iV z.1,iV (z.2.1:Int),uV z.2.2.1,uV z.2.2.2]) (fun z=>uV (mA z.2.1 z.1 z.2.2.1 z.2.2.2))))))) rfl ?_;refine dH ?_;refine .p (cV (op,n,A,B) (h:=by first|exact⟨aj,hA,hB,by omega⟩|exact⟨aj,hA,hB,by omega,by omega,fun h=>Ir (n:=n) (A:=A) (B:=B) (op:=op) (by omega) h (by omega)⟩)) rfl ?_;refine .p (cA (h:=iq aj (by first|exact Ic aj hA hB|exact CP aj hA hB))) rfl ?_;refine Z6 ?_;refine N8 ?_ ?_ ?_
  · exact ag.int (by unfold CN;rw[if_pos (Classical.not_not.1 c1),CO aj (by omega) hA hB])
  · exact ag.int (Classical.not_not.1 c1).symm
  exact ag.refl _
 refine dH ?_;refine .p (cV (op,n,A,B) (h:=by first|exact⟨aj,hA,hB,by omega⟩|exact⟨aj,hA,hB,by omega,by omega,fun h=>Ir (n:=n) (A:=A) (B:=B) (op:=op) (by omega) h (by omega)⟩)) rfl ?_;refine .p (cA (h:=iq aj (by first|exact Ic aj hA hB|exact CP aj hA hB))) rfl ?_;refine Z6 ?_;refine N8 ?_ ?_ ?_
 · exact ag.int (by unfold CN;rw[if_pos (Classical.not_not.1 c1),zE aj (by omega) hA hB (by omega)])
 · exact ag.int (Classical.not_not.1 c1).symm
 exact ag.refl _
theorem G5(aj:WN n)(aQ:a<18446744073709551616)(bu:b<18446744073709551616)(cZ:0≤op)(jy:op<10):cw Tryz.prog 215 [iV op,iV (n:Int),uV a,uV b] (aS [uV (wR n op (a%2^n) (b%2^n)),iV 0]):=by
 refine In 79 Tryz.func215 fun _ _ _=>?_;have hA:=Nat.mod_lt a (Nat.two_pow_pos n);have hB:=Nat.mod_lt b (Nat.two_pow_pos n);generalize hAe:a%2^n=A at*;generalize hBe:b%2^n=B at*;refine dH ?_;refine .p (cA (h:=pX)) rfl ?_;refine ek ?_;refine Cd (fun c0=>?_) fun c0=>?_
 ·
  exfalso;rcases aj with rfl|rfl<;>omega
 refine Z6 ?_;refine .p ((cA (h:=iq aj aQ)).le (ag.int (congrArg Nat.cast hAe))) rfl ?_;refine Z2 ?_;refine .p ((cA (h:=iq aj bu)).le (ag.int (congrArg Nat.cast hBe))) rfl ?_;refine Z7 ?_;refine .p (PI (.t rfl) (.c _) (by omega) (by omega)) rfl ?_;refine EA ?_;refine Cd (fun c1=>?_) fun c1=>?_
 ·
  refine Z5 ?_;refine .p (cA (h:=cc)) rfl ?_;refine Z7 ?_;refine fj ?_ ?_
  · first|(exfalso;omega)|exact ag.int (congrArg Nat.cast (ck (by unfold fL;(repeat (first|rw[if_pos (by omega)]|rw[if_neg (by omega)]));all_goals first|omega|exact Iff.rfl)).symm)
  exact ag.refl _
 refine Z6 ?_;refine Cd (fun c2=>?_) fun c2=>?_
 ·
  refine Z5 ?_;refine .p (cA (h:=cc)) rfl ?_;refine Z7 ?_;refine fj ?_ ?_
  · first|(exfalso;omega)|exact ag.int (congrArg Nat.cast (ck (by unfold fL;(repeat (first|rw[if_pos (by omega)]|rw[if_neg (by omega)]));all_goals first|omega|exact Iff.rfl)).symm)
  exact ag.refl _
 refine Z7 ?_;refine Cd (fun c3=>?_) fun c3=>?_
 ·
  refine Z2 ?_;refine Cd (fun c4=>?_) fun c4=>?_
  ·
   refine Z6 ?_;refine .p (cA (h:=bI aj hA hB)) rfl ?_;refine .p (cA (h:=cc)) rfl ?_;refine Z7 ?_;refine fj ?_ ?_
   · first|(exfalso;omega)|exact ag.int (congrArg Nat.cast (ck (by unfold fL;(repeat (first|rw[if_pos (by omega)]|rw[if_neg (by omega)]));all_goals first|omega|exact Iff.rfl)).symm)
   exact ag.refl _
  refine Z7 ?_;refine Cd (fun c5=>?_) fun c5=>?_
  ·
   refine Z2 ?_;refine Cd (fun c6=>?_) fun c6=>?_
   ·
    refine Z6 ?_;refine .p (cA (h:=bI aj hB hA)) rfl ?_;refine .p (cA (h:=cc)) rfl ?_;refine Z7 ?_;refine fj ?_ ?_
    · first|(exfalso;omega)|exact ag.int (congrArg Nat.cast (ck (by unfold fL;(repeat (first|rw[if_pos (by omega)]|rw[if_neg (by omega)]));all_goals first|omega|exact Iff.rfl)).symm)
    exact ag.refl _
   refine Z7 ?_;refine Cd (fun c7=>?_) fun c7=>?_
   ·
    refine Z2 ?_;refine Cd (fun c8=>?_) fun c8=>?_
    ·
     refine Z6 ?_;refine .p (cA (h:=bI aj hB hA)) rfl ?_;refine Z1 ?_;refine .p (cA (h:=cc)) rfl ?_;refine Z7 ?_;refine fj ?_ ?_
     · first|(exfalso;omega)|exact ag.int (congrArg Nat.cast (ck (by unfold fL;(repeat (first|rw[if_pos (by omega)]|rw[if_neg (by omega)]));all_goals first|omega|exact Iff.rfl)).symm)
     exact ag.refl _
    refine Z9 ?_;refine .p (cA (h:=bI aj hA hB)) rfl ?_;refine Z1 ?_;refine .p (cA (h:=cc)) rfl ?_;refine Z5 ?_;refine fj ?_ ?_
    · first|(exfalso;omega)|exact ag.int (congrArg Nat.cast (ck (by unfold fL;(repeat (first|rw[if_pos (by omega)]|rw[if_neg (by omega)]));all_goals first|omega|exact Iff.rfl)).symm)
    exact ag.refl _
   refine Z5 ?_;refine Cd (fun c9=>?_) fun c9=>?_
   ·
    refine Z6 ?_;refine .p (cA (h:=bI aj hB hA)) rfl ?_;refine Z1 ?_;refine .p (cA (h:=cc)) rfl ?_;refine Z7 ?_;refine fj ?_ ?_
    · first|(exfalso;omega)|exact ag.int (congrArg Nat.cast (ck (by unfold fL;(repeat (first|rw[if_pos (by omega)]|rw[if_neg (by omega)]));all_goals first|omega|exact Iff.rfl)).symm)
    exact ag.refl _
   refine Z9 ?_;refine .p (cA (h:=bI aj hA hB)) rfl ?_;refine Z1 ?_;refine .p (cA (h:=cc)) rfl ?_;refine Z5 ?_;refine fj ?_ ?_
   · first|(exfalso;omega)|exact ag.int (congrArg Nat.cast (ck (by unfold fL;(repeat (first|rw[if_pos (by omega)]|rw[if_neg (by omega)]));all_goals first|omega|exact Iff.rfl)).symm)
   exact ag.refl _
  refine Z5 ?_;refine Cd (fun zD=>?_) fun zD=>?_
  ·
   refine Z6 ?_;refine .p (cA (h:=bI aj hB hA)) rfl ?_;refine .p (cA (h:=cc)) rfl ?_;refine Z7 ?_;refine fj ?_ ?_
   · first|(exfalso;omega)|exact ag.int (congrArg Nat.cast (ck (by unfold fL;(repeat (first|rw[if_pos (by omega)]|rw[if_neg (by omega)]));all_goals first|omega|exact Iff.rfl)).symm)
   exact ag.refl _
  refine Z7 ?_;refine Cd (fun BH=>?_) fun BH=>?_
  ·
   refine Z2 ?_;refine Cd (fun OC=>?_) fun OC=>?_
   ·
    refine Z6 ?_;refine .p (cA (h:=bI aj hB hA)) rfl ?_;refine Z1 ?_;refine .p (cA (h:=cc)) rfl ?_;refine Z7 ?_;refine fj ?_ ?_
    · first|(exfalso;omega)|exact ag.int (congrArg Nat.cast (ck (by unfold fL;(repeat (first|rw[if_pos (by omega)]|rw[if_neg (by omega)]));all_goals first|omega|exact Iff.rfl)).symm)
    exact ag.refl _
   refine Z9 ?_;refine .p (cA (h:=bI aj hA hB)) rfl ?_;refine Z1 ?_;refine .p (cA (h:=cc)) rfl ?_;refine Z5 ?_;refine fj ?_ ?_
   · first|(exfalso;omega)|exact ag.int (congrArg Nat.cast (ck (by unfold fL;(repeat (first|rw[if_pos (by omega)]|rw[if_neg (by omega)]));all_goals first|omega|exact Iff.rfl)).symm)
   exact ag.refl _
  refine Z5 ?_;refine Cd (fun OD=>?_) fun OD=>?_
  ·
   refine Z6 ?_;refine .p (cA (h:=bI aj hB hA)) rfl ?_;refine Z1 ?_;refine .p (cA (h:=cc)) rfl ?_;refine Z7 ?_;refine fj ?_ ?_
   · first|(exfalso;omega)|exact ag.int (congrArg Nat.cast (ck (by unfold fL;(repeat (first|rw[if_pos (by omega)]|rw[if_neg (by omega)]));all_goals first|omega|exact Iff.rfl)).symm)
   exact ag.refl _
  refine Z9 ?_;refine .p (cA (h:=bI aj hA hB)) rfl ?_;refine Z1 ?_;refine .p (cA (h:=cc)) rfl ?_;refine Z5 ?_;refine fj ?_ ?_
  · first|(exfalso;omega)|exact ag.int (congrArg Nat.cast (ck (by unfold fL;(repeat (first|rw[if_pos (by omega)]|rw[if_neg (by omega)]));all_goals first|omega|exact Iff.rfl)).symm)
  exact ag.refl _
 refine Z5 ?_;refine Cd (fun Sj=>?_) fun Sj=>?_
 ·
  refine Z6 ?_;refine .p (cA (h:=bI aj hA hB)) rfl ?_;refine .p (cA (h:=cc)) rfl ?_;refine Z7 ?_;refine fj ?_ ?_
  · first|(exfalso;omega)|exact ag.int (congrArg Nat.cast (ck (by unfold fL;(repeat (first|rw[if_pos (by omega)]|rw[if_neg (by omega)]));all_goals first|omega|exact Iff.rfl)).symm)
  exact ag.refl _
 refine Z7 ?_;refine Cd (fun Zp=>?_) fun Zp=>?_
 ·
  refine Z2 ?_;refine Cd (fun Zq=>?_) fun Zq=>?_
  ·
   refine Z6 ?_;refine .p (cA (h:=bI aj hB hA)) rfl ?_;refine .p (cA (h:=cc)) rfl ?_;refine Z7 ?_;refine fj ?_ ?_
   · first|(exfalso;omega)|exact ag.int (congrArg Nat.cast (ck (by unfold fL;(repeat (first|rw[if_pos (by omega)]|rw[if_neg (by omega)]));all_goals first|omega|exact Iff.rfl)).symm)
   exact ag.refl _
  refine Z7 ?_;refine Cd (fun Zr=>?_) fun Zr=>?_
  ·
   refine Z2 ?_;refine Cd (fun Zs=>?_) fun Zs=>?_
   ·
    refine Z6 ?_;refine .p (cA (h:=bI aj hB hA)) rfl ?_;refine Z1 ?_;refine .p (cA (h:=cc)) rfl ?_;refine Z7 ?_;refine fj ?_ ?_
    · first|(exfalso;omega)|exact ag.int (congrArg Nat.cast (ck (by unfold fL;(repeat (first|rw[if_pos (by omega)]|rw[if_neg (by omega)]));all_goals first|omega|exact Iff.rfl)).symm)
    exact ag.refl _
   refine Z9 ?_;refine .p (cA (h:=bI aj hA hB)) rfl ?_;refine Z1 ?_;refine .p (cA (h:=cc)) rfl ?_;refine Z5 ?_;refine fj ?_ ?_
   · first|(exfalso;omega)|exact ag.int (congrArg Nat.cast (ck (by unfold fL;(repeat (first|rw[if_pos (by omega)]|rw[if_neg (by omega)]));all_goals first|omega|exact Iff.rfl)).symm)
   exact ag.refl _
  refine Z5 ?_;refine Cd (fun Zt=>?_) fun Zt=>?_
  ·
   refine Z6 ?_;refine .p (cA (h:=bI aj hB hA)) rfl ?_;refine Z1 ?_;refine .p (cA (h:=cc)) rfl ?_;refine Z7 ?_;refine fj ?_ ?_
   · first|(exfalso;omega)|exact ag.int (congrArg Nat.cast (ck (by unfold fL;(repeat (first|rw[if_pos (by omega)]|rw[if_neg (by omega)]));all_goals first|omega|exact Iff.rfl)).symm)
   exact ag.refl _
  refine Z9 ?_;refine .p (cA (h:=bI aj hA hB)) rfl ?_;refine Z1 ?_;refine .p (cA (h:=cc)) rfl ?_;refine Z5 ?_;refine fj ?_ ?_
  · first|(exfalso;omega)|exact ag.int (congrArg Nat.cast (ck (by unfold fL;(repeat (first|rw[if_pos (by omega)]|rw[if_neg (by omega)]));all_goals first|omega|exact Iff.rfl)).symm)
  exact ag.refl _
 refine Z5 ?_;refine Cd (fun Zu=>?_) fun Zu=>?_
 ·
  refine Z6 ?_;refine .p (cA (h:=bI aj hB hA)) rfl ?_;refine .p (cA (h:=cc)) rfl ?_;refine Z7 ?_;refine fj ?_ ?_
  · first|(exfalso;omega)|exact ag.int (congrArg Nat.cast (ck (by unfold fL;(repeat (first|rw[if_pos (by omega)]|rw[if_neg (by omega)]));all_goals first|omega|exact Iff.rfl)).symm)
  exact ag.refl _
 refine Z7 ?_;refine Cd (fun Zv=>?_) fun Zv=>?_
 ·
  refine Z2 ?_;refine Cd (fun Zw=>?_) fun Zw=>?_
  ·
   refine Z6 ?_;refine .p (cA (h:=bI aj hB hA)) rfl ?_;refine Z1 ?_;refine .p (cA (h:=cc)) rfl ?_;refine Z7 ?_;refine fj ?_ ?_
   · first|(exfalso;omega)|exact ag.int (congrArg Nat.cast (ck (by unfold fL;(repeat (first|rw[if_pos (by omega)]|rw[if_neg (by omega)]));all_goals first|omega|exact Iff.rfl)).symm)
   exact ag.refl _
  refine Z9 ?_;refine .p (cA (h:=bI aj hA hB)) rfl ?_;refine Z1 ?_;refine .p (cA (h:=cc)) rfl ?_;refine Z5 ?_;refine fj ?_ ?_
  · first|(exfalso;omega)|exact ag.int (congrArg Nat.cast (ck (by unfold fL;(repeat (first|rw[if_pos (by omega)]|rw[if_neg (by omega)]));all_goals first|omega|exact Iff.rfl)).symm)
  exact ag.refl _
 refine Z5 ?_;refine Cd (fun Zx=>?_) fun Zx=>?_
 ·
  refine Z6 ?_;refine .p (cA (h:=bI aj hB hA)) rfl ?_;refine Z1 ?_;refine .p (cA (h:=cc)) rfl ?_;refine Z7 ?_;refine fj ?_ ?_
  · first|(exfalso;omega)|exact ag.int (congrArg Nat.cast (ck (by unfold fL;(repeat (first|rw[if_pos (by omega)]|rw[if_neg (by omega)]));all_goals first|omega|exact Iff.rfl)).symm)
  exact ag.refl _
 refine Z9 ?_;refine .p (cA (h:=bI aj hA hB)) rfl ?_;refine Z1 ?_;refine .p (cA (h:=cc)) rfl ?_;refine Z5 ?_;refine fj ?_ ?_
 · first|(exfalso;omega)|exact ag.int (congrArg Nat.cast (ck (by unfold fL;(repeat (first|rw[if_pos (by omega)]|rw[if_neg (by omega)]));all_goals first|omega|exact Iff.rfl)).symm)
 exact ag.refl _
theorem Eh(aj:WN n)(aQ:a<18446744073709551616)(bu:0≤op)(cZ:op<4):bk Tryz.prog 214 [iV op,iV (n:Int),uV a] [nK 1 .u8 Lib.deBruijn64tab] (γ:=Unit) (fun _=>True) (fun _=>[]) (fun _=>aS [uV (TC n op (a%2^n)),iV 0]):=by
 refine In 44 Tryz.func214 fun _ _ _=>?_;have hA:=Nat.mod_lt a (Nat.two_pow_pos n);have yD:=tU aj hA;generalize hAe:a%2^n=A at*;have Bi:1≤n∧n≤64:=by rcases aj with rfl|rfl<;>omega
 have x5:=Mc hA;have hct:=Ro Bi.2 hA;have Ab:Lib.ctz 64 A≤64:=Ry yD;have Qx:=TQ Bi.2 hA;have gG:=vv 64 A;refine dH ?_;refine .p (cA (h:=pX)) rfl ?_;refine ek ?_;refine Cd (fun c0=>?_) fun c0=>?_
 ·
  exfalso;rcases aj with rfl|rfl<;>omega
 refine Z6 ?_;refine .p ((cA (h:=iq aj aQ)).le (ag.int (congrArg Nat.cast hAe))) rfl ?_;refine Z6 ?_;refine .p (cA (h:=GZ yD)) rfl ?_;refine Z3 ?_;refine .p ((gW FU.out FU.out (.t rfl) bW).le (ag.int (show _=((n-tj A:Nat):Int) by omega))) rfl ?_;refine Z1 ?_;refine .p (cD 0 (h:=G0 yD)) rfl ?_;refine Z1 ?_;refine .p (vG (.t rfl) (.t rfl)) rfl ?_;refine .p ((gW FU.out FU.out (.t rfl) bW).le (ag.int (show _=((Md n A:Nat):Int) by rw[←hct];omega))) rfl ?_;refine Z1 ?_;refine .p (cA (h:=G3 yD)) rfl ?_;refine .p ((gW FU.out FU.out (.t rfl) bW).le (ag.int (show _=((dD n A:Nat):Int) by rw[←Qx]))) rfl ?_;refine Z2 ?_;refine .p (cA (h:=cc)) rfl ?_;refine .p (dB FR.out FZ.out (.cons (.t rfl) (.cons (.t rfl) (.cons (.t rfl) (.cons (.t rfl) .nil)))) rfl) rfl ?_;refine .n (ay FZ.out) rfl fun b8 _=>?_;refine Z4 ?_;have hop:op=0∨op=1∨op=2∨op=3:=by omega
 rcases hop with rfl|rfl|rfl|rfl
 ·
  refine Z2 ?_;refine .p (dc 0 FU.out FC.out rfl (.t rfl) (.t rfl) rfl (by omega)) rfl ?_;refine Z6 ?_;refine fj ?_ ?_
  · first|exact ag.refl _|exact ag.int (congrArg Nat.cast (sS A))
  exact ag.refl _
 ·
  refine Z2 ?_;refine .p (dc 1 FU.out FC.out rfl (.t rfl) (.t rfl) rfl (by omega)) rfl ?_;refine Z6 ?_;refine fj ?_ ?_
  · first|exact ag.refl _|exact ag.int (congrArg Nat.cast (sS A))
  exact ag.refl _
 ·
  refine Z2 ?_;refine .p (dc 2 FU.out FC.out rfl (.t rfl) (.t rfl) rfl (by omega)) rfl ?_;refine Z6 ?_;refine fj ?_ ?_
  · first|exact ag.refl _|exact ag.int (congrArg Nat.cast (sS A))
  exact ag.refl _
 refine Z2 ?_;refine .p (dc 3 FU.out FC.out rfl (.t rfl) (.t rfl) rfl (by omega)) rfl ?_;refine Z6 ?_;refine fj ?_ ?_
 · first|exact ag.refl _|exact ag.int (congrArg Nat.cast (sS A))
 exact ag.refl _
theorem Ei{a b:Int}:cw Tryz.prog 212 [iV a,iV b] (ak ((a=8∨a=16∨a=32)∧(b=32∨b=64))):=by
 refine In 23 Tryz.func212 fun _ _ _=>?_;refine XH ?_;refine aX ?_;exact ag.prop (by simp only[or_assoc])
theorem G6(aj:a<18446744073709551616):cw Tryz.prog 158 [uV a] (uV (a%4294967296)):=by
 refine In 5 Tryz.func158 fun _ _ _=>?_;refine Z8 ?_;refine .p (cA (h:=iq (n:=32) (.inl rfl) aj)) rfl ?_;refine Z4 ?_;refine aX ?_;exact ag.refl _
theorem Bz{fr t:Nat}{s:Prop}[Decidable s](aj:fr=8∨fr=16∨fr=32)(aQ:t=32∨t=64)(bu:a<18446744073709551616):cw Tryz.prog 160 [iV (fr:Int),iV (t:Int),ak s,uV a] (aS [uV (rI fr t s a),iV 0]):=by
 refine In 32 Tryz.func160 fun _ _ _=>?_;refine ek ?_;refine .p (cA (h:=Ei)) rfl ?_;refine Z3 ?_;refine Cd (fun c0=>?_) fun c0=>?_
 ·
  exfalso;omega
 refine Z5 ?_;refine .p ((gj (.c _) (.t rfl) bW).le (ag.int (show _=((64-fr:Nat):Int) by omega))) rfl ?_;refine Z9 ?_;refine Cd (fun c1=>?_) fun c1=>?_
 ·
  refine Z5 ?_;refine .p (lg (.t rfl) (.t rfl) (by omega)) rfl ?_;refine .p (dM FU.out FU.out (.t rfl)) rfl ?_;refine Z1 ?_;refine .p (HF (.t rfl) (.t rfl) (by show _≤64;omega)) rfl ?_;refine .p ((dM FU.out FU.out (.t rfl)).le (ag.int (nv _))) rfl ?_;refine .p (cA (h:=iq (n:=t) (show WN t from aQ) (by omega))) rfl ?_;refine Z6 ?_;refine fj ?_ ?_
  · exact ag.int (congrArg Nat.cast ((TP aj aQ).trans (OX c1).symm))
  exact ag.refl _
 refine Z6 ?_;refine .p (lg (.t rfl) (.t rfl) (by omega)) rfl ?_;refine Z1 ?_;refine .p (iA (.t rfl) (.t rfl) (by show _≤64;omega)) rfl ?_;refine Z5 ?_;refine fj ?_ ?_
 · exact ag.int (congrArg Nat.cast ((TO aj).trans (OY c1).symm))
 exact ag.refl _
open Classical in
theorem yJ(aj:lZ A K)(aQ:m.over=false):bk Tryz.prog 162 [ai b 0,aK (aE x)] [dJ A K (mE b F bs) m,aM A K c,nK 1 .u8 Lib.deBruijn64tab] (γ:=Unit) (fun _=>True) (fun _=>[dJ A K (mE b F bs) ((cJ K x (m,c)).getD (m,c)).1,aM A K ((cJ K x (m,c)).getD (m,c)).2,nK 1 .u8 Lib.deBruijn64tab]) (fun _=>ak ((cJ K x (m,c)).isSome=true)):=by
 refine In 63 Tryz.func162 fun _ _ _=>?_;refine .oy fun qQ=>?_;have gG:=qQ.pop;have hp2l:=qQ.TW;refine dH ?_;refine .p (cA (h:=s6)) rfl ?_;refine E7 ?_;refine Cd (fun c0=>?_) fun c0=>?_
 ·
  have hno:kS x.Code=none:=by(cases h9:kS x.Code with|none=>rfl|some p=>exact absurd (by rw[h9];rfl) c0)
  have hC:cJ K x (m,c)=none:=by unfold cJ;rw[hno]
  rw[hC];refine Z7 ?_;refine aX ?_;exact ag.prop (by simp)
 obtain⟨⟨g,n,w⟩,hno⟩:=Option.isSome_iff_exists.1 (Classical.not_not.1 c0);simp only[hno,Option.getD_some];obtain⟨hn0,hg,hw⟩:=uC hno;have hwn:w=((w.toNat:Nat):Int):=by omega
 have hW:WN w.toNat:=by unfold WN;omega
 have Sq:=Nat.mod_lt (aC c).1 (Nat.two_pow_pos w.toNat);have hm2:=Nat.mod_lt (aC (aC c).2).1 (Nat.two_pow_pos w.toNat);refine Z5 ?_;refine .n (cE (h:=de (E:=mE b F bs) aj)) rfl fun g23 h23=>?_;refine XG ?_;refine Cd (fun c1=>?_) fun c1=>?_
 ·
  obtain⟨v,hv⟩:∃v,v=TC w.toNat n ((aC c).1%2^w.toNat):=⟨_,rfl⟩;have hvl:v<18446744073709551616:=hv▸RQ hW Sq;have hC:cJ K x (m,c)=some (m,dX K [v] (aC c).2):=by unfold cJ;rw[hno,hv];exact if_pos c1
  rw[hC];have R9:(0:Int)=((0:Nat):Int):=rfl;refine Z2 ?_;refine .p ((eK (.t rfl)).le (ag.int hwn)) rfl ?_;refine Z1 ?_;refine .p (cD 2 (h:=Eh (n:=w.toNat) (a:=(aC c).1) (op:=n) hW gG hn0 (by omega))) rfl ?_;refine ek ?_;refine .p ((eK (.t rfl)).le (ag.int R9)) rfl ?_;refine .n (cE (h:=xU (E:=mE b F bs) aj)) rfl fun W1 Sv=>?_;refine Z3 ?_;refine Cd (fun c2=>?_) fun c2=>?_
  ·
   obtain⟨ht0,UB⟩:=MM c2;rw[UB];refine Z2 ?_;refine .p ((eK (.t rfl)).le (ag.int (congrArg Nat.cast hv.symm))) rfl ?_;refine .p (cB ig [v]) rfl ?_;refine .n (cE (h:=ee (E:=mE b F bs) (m:=m) aj (lP hvl))) rfl fun Sr NF=>?_;refine Z8 ?_;refine aX ?_;exact ag.prop (by simp)
  exact((FV aQ (Classical.not_not.1 c2)).1 rfl).elim
 refine Z6 ?_;refine Cd (fun c3=>?_) fun c3=>?_
 ·
  obtain⟨v,hv⟩:∃v,v=wR w.toNat n ((aC (aC c).2).1%2^w.toNat) ((aC c).1%2^w.toNat):=⟨_,rfl⟩;have hvl:v<18446744073709551616:=by(have h9:v<2:=hv▸MW;omega)
  have hC:cJ K x (m,c)=some (m,dX K [v] (aC (aC c).2).2):=by unfold cJ;rw[hno,hv];exact(if_neg c1).trans (if_pos c3)
  rw[hC];have R9:(0:Int)=((0:Nat):Int):=rfl;refine Z2 ?_;refine .p ((eK (.t rfl)).le (ag.int hwn)) rfl ?_;refine Z1 ?_;refine .n (cE (h:=de (E:=mE b F bs) aj)) rfl fun Zc Uq=>?_;refine Z1 ?_;refine .p (cA (h:=G5 (n:=w.toNat) (a:=(aC (aC c).2).1) (b:=(aC c).1) (op:=n) hW hp2l gG hn0 (by omega))) rfl ?_;refine ek ?_;refine .p ((eK (.t rfl)).le (ag.int R9)) rfl ?_;refine .n (cE (h:=xU (E:=mE b F bs) aj)) rfl fun W1 Sv=>?_;refine Z3 ?_;refine Cd (fun c4=>?_) fun c4=>?_
  ·
   obtain⟨ht0,UB⟩:=MM c4;rw[UB];refine Z2 ?_;refine .p ((eK (.t rfl)).le (ag.int (congrArg Nat.cast hv.symm))) rfl ?_;refine .p (cB ig [v]) rfl ?_;refine .n (cE (h:=ee (E:=mE b F bs) (m:=m) aj (lP hvl))) rfl fun Sr NF=>?_;refine Z8 ?_;refine aX ?_;exact ag.prop (by simp)
  exact((FV aQ (Classical.not_not.1 c4)).1 rfl).elim
 obtain⟨v,hv⟩:∃v,v=CN w.toNat n ((aC (aC c).2).1%2^w.toNat) ((aC c).1%2^w.toNat):=⟨_,rfl⟩;have hvl:v<18446744073709551616:=hv▸Pf hW hm2 Sq hn0;obtain⟨tr,Zz⟩:∃tr,tr=lM w.toNat n ((aC (aC c).2).1%2^w.toNat) ((aC c).1%2^w.toNat):=⟨_,rfl⟩;have R9:lM w.toNat n ((aC (aC c).2).1%2^w.toNat) ((aC c).1%2^w.toNat)=((tr.toNat:Nat):Int):=by(rw[←Zz];exact(Int.toNat_of_nonneg (Zz▸MN)).symm)
 refine Z2 ?_;refine .p ((eK (.t rfl)).le (ag.int hwn)) rfl ?_;refine Z1 ?_;refine .n (cE (h:=de (E:=mE b F bs) aj)) rfl fun g29 h29=>?_;refine Z1 ?_;refine .p (cA (h:=By (n:=w.toNat) (a:=(aC (aC c).2).1) (b:=(aC c).1) (op:=n) hW hp2l gG hn0 (by omega))) rfl ?_;refine jz ?_;refine .p ((eK (.t rfl)).le (ag.int R9)) rfl ?_;refine .n (cE (h:=xU (E:=mE b F bs) aj)) rfl fun W1 Sv=>?_;refine Z3 ?_;refine Cd (fun c5=>?_) fun c5=>?_
 ·
  obtain⟨ht0,UB⟩:=MM c5;rw[UB];have hC:cJ K x (m,c)=some (m,dX K [v] (aC (aC c).2).2):=by unfold cJ;rw[hno,hv];exact(if_neg c1).trans ((if_neg c3).trans (if_neg (by rw[R9];omega)))
  rw[hC];refine Z2 ?_;refine .p ((eK (.t rfl)).le (ag.int (congrArg Nat.cast hv.symm))) rfl ?_;refine .p (cB ig [v]) rfl ?_;refine .n (cE (h:=ee (E:=mE b F bs) (m:=m) aj (lP hvl))) rfl fun Sr NF=>?_;refine Z8 ?_;refine aX ?_;exact ag.prop (by simp)
 obtain⟨htn,hi1⟩:=FV aQ (Classical.not_not.1 c5);rw[hi1];have hC:cJ K x (m,c)=some (mF tr.toNat (m,(aC (aC c).2).2)):=by unfold cJ;rw[hno,Zz];exact(if_neg c1).trans ((if_neg c3).trans (if_pos (by rw[R9];omega)))
 rw[hC];refine Z8 ?_;refine aX ?_;exact ag.prop (by simp)
open Classical in
theorem BA(aj:lZ A K)(aQ:m.over=false)(bu:nX x):bk Tryz.prog 103 [ai b 0,aK (aE x),nV at_] [dJ A K (mE b F bs) m,aM A K c,nK 1 .u8 Lib.deBruijn64tab] (γ:=Unit) (fun _=>True) (fun _=>[dJ A K (mE b F bs) ((cF K x (m,c)).getD (m,c)).1,aM A K ((cF K x (m,c)).getD (m,c)).2,nK 1 .u8 Lib.deBruijn64tab]) (fun _=>ak ((cF K x (m,c)).isSome=true)):=by
 refine In 61 Tryz.func103 fun _ _ _=>?_;refine .oy fun qQ=>?_;have gG:=qQ.pop;have NK:=bu.A0;have Zo:=bu.PY;refine ek ?_;refine .p (cA (h:=find_spec)) rfl ?_;refine Z3 ?_;refine .n (ay FZ.out) rfl fun b7 _=>?_;refine ek ?_;refine Cd (fun c0=>?_) fun c0=>?_
 ·
  have h11:(dY x.Code).Form=11:=c0;have hC:cF K x (m,c)=some (m,dX K [x.A.toNat] c):=if_pos h11;rw[hC];refine Z4 ?_;refine .p ((oK FA.out (.t rfl)).le (ag.int (show x.A=((x.A.toNat:Nat):Int) by omega))) rfl ?_;refine .p (cB ig [x.A.toNat]) rfl ?_;refine .n (fU [_,_] [1,2,0,3] (h:=ee (E:=mE b F bs) (l:=[x.A.toNat]) aj (lP (by omega)))) rfl fun GH Qg=>?_;refine Z9 ?_;refine Post.aO rfl (()) (by trivial) (aA.fI [0,1,3] [2] rfl rfl) (.rt rfl) ?_;exact ag.prop (by simp)
 have h11:¬(dY x.Code).Form=11:=c0;refine dH ?_;refine Cd (fun c1=>?_) fun c1=>?_
 ·
  have hC:cF K x (m,c)=some (m,dX K [(aC c).1%4294967296] (aC c).2):=(if_neg h11).trans (if_pos c1);rw[hC];refine Z4 ?_;refine .n (fU [_,_] [1,2,0,3] (h:=de (E:=mE b F bs) aj)) rfl fun Ni Pa=>?_;refine .p (cA (h:=G6 gG)) rfl ?_;refine .p (cB ig [(aC c).1%4294967296]) rfl ?_;refine .n (cE (h:=ee (E:=mE b F bs) (l:=[(aC c).1%4294967296]) aj (lP (by omega)))) rfl fun g35 h35=>?_;refine Z9 ?_;refine Post.aO rfl (()) (by trivial) (aA.fI [0,1,3] [2] rfl rfl) (.rt rfl) ?_;exact ag.prop (by simp)
 refine Z7 ?_;refine .p (cA (h:=KG)) rfl ?_;refine jz ?_;refine Cd (fun c2=>?_) fun c2=>?_
 ·
  have hC:cF K x (m,c)=some (m,dX K [rI (au x.Code).1 (iM x.Code) (au x.Code).2 (aC c).1] (aC c).2):=(if_neg h11).trans ((if_neg c1).trans (if_pos (by omega)));rw[hC];refine Z4 ?_;refine .p (cA (h:=Bx)) rfl ?_;refine Z2 ?_;refine .n (fU [_,_] [1,2,0,3] (h:=de (E:=mE b F bs) aj)) rfl fun Zc Uq=>?_;refine .p (cA (h:=Bz (Dc c2) (Dd x.Code) gG)) rfl ?_;refine ek ?_;refine .p (cB ig [rI (au x.Code).1 (iM x.Code) (au x.Code).2 (aC c).1]) rfl ?_;refine .n (cE (h:=ee (E:=mE b F bs) (l:=[rI (au x.Code).1 (iM x.Code) (au x.Code).2 (aC c).1]) aj (lP (Pg (Dc c2) (Dd x.Code))))) rfl fun W1 Sv=>?_;refine Z9 ?_;refine Post.aO rfl (()) (by trivial) (aA.fI [0,1,3] [2] rfl rfl) (.rt rfl) ?_;exact ag.prop (by simp)
 have hC:cF K x (m,c)=cJ K x (m,c):=(if_neg h11).trans ((if_neg c1).trans (if_neg (by omega)));rw[hC];refine Z6 ?_;refine .n (fU [_] [1,2,3,0] (h:=yJ aj aQ)) rfl fun Ui W2=>?_;refine Z4 ?_;refine Post.aO rfl (()) (by trivial) (aA.fI [0,1,2] [3] rfl rfl) (.rt rfl) ?_;exact ag.refl _
theorem KI(aj:lZ A K)(aQ:m.fuel≤10000000)(bu:m.bN≤1000000000000):bk Tryz.prog 98 [ai b 0,aK (aE x)] [dJ A K (mE b F bs) m,aM A K c] (γ:=Unit) (fun _=>True) (fun _=>[dJ A K (mE b F bs) (if m.fuel<bZ x c then mD 10 (m,c) else({m with fuel:=m.fuel-bZ x c,bN:=m.bN+bZ x c},c)).1,aM A K (if m.fuel<bZ x c then mD 10 (m,c) else({m with fuel:=m.fuel-bZ x c,bN:=m.bN+bZ x c},c)).2]) (fun _=>ak (¬m.fuel<bZ x c)):=by
 refine In 33 Tryz.func98 fun _ _ _=>?_;refine dH ?_;refine .n ((cE (h:=GY aj)).same (fun _ _=>aA.refl _) (fun _ _=>ag.refl _)) rfl fun _ _=>?_;refine uZ ?_;refine Cd (fun c0=>?_) fun c0=>?_
 ·
  have hlt:m.fuel<bZ x c:=by omega
  rw[if_pos hlt];refine Z3 ?_;refine .n (cE (h:=jR (E:=mE b F bs) aj)) rfl fun J5 ED=>?_;refine Z9 ?_;refine aX ?_;exact ag.prop (by simp[hlt])
 have hlt:¬m.fuel<bZ x c:=by omega
 rw[if_neg hlt];have hwr:IntKind.i64.wrap ((m.bN:Int)+(bZ x c:Int))=((m.bN+bZ x c:Nat):Int):=by rw[IntKind.wrap_i64];omega
 refine dH ?_;refine .p ((gj (.t rfl) (.t rfl) bW).le (ag.int (show _=((m.fuel-bZ x c:Nat):Int) by omega))) rfl ?_;refine fW ?_;refine .n (cE (h:=KD (n:=(m.bN:Int)) (m:=(bZ x c:Int)) rfl)) rfl fun Ni Pa=>?_;refine Z2 ?_;rw[hwr];refine Z6 ?_;refine aX ?_;exact ag.prop (by simp[hlt])
open Classical in
theorem G7{Z:Nat}(aj:lZ A K)(aQ:O5 K)(bu:bs.length=K.own.length)(cZ:c.cN≠[])(jy:∀f∈c.cN,f.fn<K.own.length)(qH:∀v∈c.tb,v≤K.cH+K.own.length)(BJ:m.over=false)(Kl:m.fuel≤10000000)(UA:m.bN≤1000000000000)(SC:∀i,i<K.own.length→∀x∈(K.made i).body.L,MI K x):bk Tryz.prog 64 [ai b 0] [dJ A K (mE b F bs) m,aM A K c,dS (K.own.zip bs),nK 1 .u8 Lib.deBruijn64tab] (γ:=Unit) (fun _=>True) (fun _=>[dJ A K (mE b F bs) (eE K Z (m,c)).1,aM A K (eE K Z (m,c)).2,dS (K.own.zip bs),nK 1 .u8 Lib.deBruijn64tab]) (fun _=>aS []):=by
 refine In 61 Tryz.func64 fun _ _ _=>?_;refine .oy fun qQ=>?_;have UC:(bt c).fn<K.own.length:=jy _ (IB cZ);obtain⟨EF,hz⟩:=xb bu UC;obtain⟨NM,hml⟩:=aQ.ow _ UC;have yZ:=NM.len;have hle:((K.made (bt c).fn),EF).1.body.L.length=(K.made (bt c).fn).body.L.length:=rfl;have gG:=qQ.top.pl;refine Z3 ?_;refine .n ((cE (h:=qB (E:=mE b F bs) aj)).same (fun _ _=>aA.refl _) (fun _ _=>ag.refl _)) rfl fun _ _=>?_;refine .n (ay FZ.out) rfl fun b2 _=>?_;refine Z4 ?_;refine .bz 6 5 FM.out (by kernel_rfl) (k:= ?_);refine Z7 ?_;refine .p (cI ((bt c).fn) (h:=hz)) rfl ?_;refine Jc ?_;refine Cd (fun c0=>?_) fun c0=>?_
 ·
  have hS:eE K Z (m,c)=js K (m,c):=by unfold eE;simp only[List.getElem?_eq_none (show(K.made (bt c).fn).body.L.length≤(bt c).pl by omega)]
  rw[hS];refine Z3 ?_;refine .n (fU [_,_,_] [1,2,0,3,4] (h:=uT aj aQ bu UC)) rfl fun NI Pv=>?_;refine Z4 ?_;refine Post.sr rfl (()) (by trivial) (aA.fI [0,1,3,4] [2] rfl rfl) rfl
 obtain⟨x,hx⟩:=ah (xs:=(K.made (bt c).fn).body.L) (k:=(bt c).pl) (by omega);have EE:=SC _ UC x (List.mem_of_getElem? hx);have hS:eE K Z (m,c)=(if m.fuel<bZ x c then mD 10 (m,c) else zJ K Z x (bt c).pl ({m with fuel:=m.fuel-bZ x c,bN:=m.bN+bZ x c},vz (((bt c).pl:Int)+1) c)):=by unfold eE;simp only[hx]
 refine Z7 ?_;refine .p (cI ((bt c).pl) (h:=hx)) rfl ?_;refine Z1 ?_;refine .n (ay FZ.out) rfl fun b4 _=>?_;refine Z8 ?_;refine .n (fU [_,_,_,_] [2,3,0,1,4,5] (h:=KI aj Kl UA)) rfl fun RZ Uo=>?_;refine Z3 ?_;refine Cd (fun c1=>?_) fun c1=>?_
 ·
  have hlt:m.fuel<bZ x c:=Classical.not_not.1 c1;rw[hS,if_pos hlt,if_pos hlt];refine Z2 ?_;refine Post.sr rfl (()) (by trivial) (aA.fI [0,1,4,5] [2,3] rfl rfl) rfl
 have hlt:¬m.fuel<bZ x c:=fun h=>c1 (fun h2=>h2 h);rw[hS,if_neg hlt,if_neg hlt];obtain⟨m1,Sq⟩:∃m1,m1=({m with fuel:=m.fuel-bZ x c,bN:=m.bN+bZ x c}:mV):=⟨_,rfl⟩;rw[←Sq];have Ey:m1.over=false:=by rw[Sq];exact BJ
 refine Z3 ?_;refine .bz 7 1 FM.out (by kernel_rfl) (k:= ?_);refine Z8 ?_;refine .n (fU [_,_,_,_,_] [1,0,2,3,4,5] (h:=xS aj (p:=((bt c).pl:Int)+1))) rfl fun Nj Nk=>?_;refine Z2 ?_;generalize hgc:vz (((bt c).pl:Int)+1) c=cq;have ZA:(bt cq).fn<K.own.length:=by rw[←hgc,RF];exact UC
 have ZB:∀v∈cq.tb,v≤K.cH+K.own.length:=by rw[←hgc,TZ];exact qH
 refine Z3 ?_;refine .p (mj (.t rfl)) rfl ?_;refine Z1 ?_;refine .p (mj (.t rfl)) rfl ?_;refine Z1 ?_;refine .p (mj (.t rfl)) rfl ?_;refine Z1 ?_;refine .p (mj (.t rfl)) rfl ?_;refine .p (dB FR.out FZ.out (.cons (.t rfl) (.cons (.t rfl) (.cons (.t rfl) (.cons (.t rfl) .nil)))) rfl) rfl ?_;refine Z4 ?_;refine .own (aA.perm (Perm.idx [2,3,1,0,4,5] rfl rfl)) ?_;refine .bP (σ:=Nat) (fun _=>[aF b4 (aE x),aF b2 (ki (bt c)),dJ A K (mE b F bs) m1,aM A K cq,dS (K.own.zip bs),nK 1 .u8 Lib.deBruijn64tab]) (fun k=>[(52,aa .i64 (k:Int))]) (fun k=>k≤4∧(1≤k→aW K x (bt c).pl (m1,cq)=none)∧(2≤k→bf K x cq=none)∧(3≤k→fq K Z x (m1,cq)=none)∧(4≤k→cF K x (m1,cq)=none)) (fun k=>4-k) 0 ⟨Nat.zero_le _,fun h=>absurd h (by decide),fun h=>absurd h (by decide),fun h=>absurd h (by decide),fun h=>absurd h (by decide)⟩ rfl ?_ ?_
 · exact(.get rfl (ag.refl _) (.refl _ _))
 rintro k hk;have vM:=hk.1;refine Z6 ?_;refine Cd (fun c2=>?_) fun c2=>?_
 ·
  refine Z5 ?_;rcases(show k=0∨k=1∨k=2∨k=3 by omega) with rfl|rfl|rfl|rfl
  ·
   refine Z1 ?_;refine .p (dW FU.out FC.out FA.out (.t rfl) rfl (.t rfl) rfl rfl) rfl ?_;refine Z9 ?_;refine .n (sW (rest:=[_,_,_]) (KE (m:=m1) (c:=cq) aj aQ bu ZA EE ZB) FB.out (.t rfl) (.cons (.t rfl) (.cons (.t rfl) .nil)) (Perm.idx [2,3,4,0,1,5] rfl rfl)) rfl fun ZC ZD=>?_;refine Z2 ?_;refine Cd (fun c3=>?_) fun c3=>?_
   ·
    obtain⟨s9,Qj⟩:=Option.isSome_iff_exists.1 c3;have hD:zJ K Z x (bt c).pl (m1,cq)=s9:=by unfold zJ;simp only[Qj]
    rw[Qj,hD];refine Z5 ?_;refine Post.bT rfl (()) (by trivial) (aA.fI [0,1,2,5] [3,4] rfl rfl) rfl
   have hn0:aW K x (bt c).pl (m1,cq)=none:=(by cases h9:aW K x (bt c).pl (m1,cq) with|none=>rfl|some s9=>exact absurd (by rw[h9];rfl) c3);rw[hn0];refine Z7 ?_;refine .own (aA.perm (Perm.idx [3,4,0,1,2,5] rfl rfl)) (bx.round 1 ⟨by decide,fun _=>(by first|exact hn0|rfl),fun h=>absurd h (by decide),fun h=>absurd h (by decide),fun h=>absurd h (by decide)⟩ (by omega) rfl ?_);exact(.get rfl (ag.int rfl) ((.keep 11 rfl rfl)))
  ·
   refine Z1 ?_;refine .p (dW FU.out FC.out FA.out (.t rfl) rfl (.t rfl) rfl rfl) rfl ?_;refine Z9 ?_;refine .n (sW (rest:=[_,_,_,_]) (KF (m:=m1) (c:=cq) (at_:=(bt c).pl) aj EE) FB.out (.t rfl) (.cons (.t rfl) (.cons (.t rfl) .nil)) (Perm.idx [2,3,0,1,4,5] rfl rfl)) rfl fun ZC ZD=>?_;refine Z2 ?_;refine Cd (fun c3=>?_) fun c3=>?_
   ·
    have hn0:aW K x (bt c).pl (m1,cq)=none:=hk.2.1 (by decide);obtain⟨s9,Qj⟩:=Option.isSome_iff_exists.1 c3;have hD:zJ K Z x (bt c).pl (m1,cq)=(m1,s9):=by unfold zJ;simp only[hn0,Qj]
    rw[Qj,hD];refine Z5 ?_;refine Post.bT rfl (()) (by trivial) (aA.fI [0,1,4,5] [2,3] rfl rfl) rfl
   have hn0:aW K x (bt c).pl (m1,cq)=none:=hk.2.1 (by decide);have Bi:bf K x cq=none:=(by cases h9:bf K x cq with|none=>rfl|some s9=>exact absurd (by rw[h9];rfl) c3);rw[Bi];refine Z7 ?_;refine .own (aA.perm (Perm.idx [2,3,0,1,4,5] rfl rfl)) (bx.round 2 ⟨by decide,fun _=>(by first|exact hn0|rfl),fun _=>(by first|exact Bi|rfl),fun h=>absurd h (by decide),fun h=>absurd h (by decide)⟩ (by omega) rfl ?_);exact(.get rfl (ag.int rfl) ((.keep 11 rfl rfl)))
  ·
   refine Z1 ?_;refine .p (dW FU.out FC.out FA.out (.t rfl) rfl (.t rfl) rfl rfl) rfl ?_;refine Z9 ?_;refine .n (sW (rest:=[_,_,_,_,_,_]) (KH (b:=b) (x:=x) (at_:=(bt c).pl) EE.P8) FB.out (.t rfl) (.cons (.t rfl) (.cons (.t rfl) .nil)) (Perm.idx [0,1,2,3,4,5] rfl rfl)) rfl fun ZC ZD=>?_;refine Z2 ?_;refine CT fun c3=>?_;have hn0:aW K x (bt c).pl (m1,cq)=none:=hk.2.1 (by decide);have Bi:bf K x cq=none:=hk.2.2.1 (by decide);have hn2:fq K Z x (m1,cq)=none:=if_neg (fun h=>by(obtain⟨h1,h2,h3⟩:=EE.P8;rcases h with h|h|h;exact h1 h;exact h2 h;exact h3 h));refine Z7 ?_;refine .round 3 ⟨by decide,fun _=>(by first|exact hn0|rfl),fun _=>(by first|exact Bi|rfl),fun _=>(by first|exact hn2|rfl),fun h=>absurd h (by decide)⟩ (by omega) rfl ?_;exact(.get rfl (ag.int rfl) ((.keep 11 rfl rfl)))
  refine Z1 ?_;refine .p (dW FU.out FC.out FA.out (.t rfl) rfl (.t rfl) rfl rfl) rfl ?_;refine Z9 ?_;refine .n (sW (rest:=[_,_,_]) (BA (m:=m1) (c:=cq) (at_:=(bt c).pl) aj Ey EE.w) FB.out (.t rfl) (.cons (.t rfl) (.cons (.t rfl) .nil)) (Perm.idx [2,3,5,0,1,4] rfl rfl)) rfl fun ZC ZD=>?_;refine Z2 ?_;refine Cd (fun c3=>?_) fun c3=>?_
  ·
   have hn0:aW K x (bt c).pl (m1,cq)=none:=hk.2.1 (by decide);have Bi:bf K x cq=none:=hk.2.2.1 (by decide);have hn2:fq K Z x (m1,cq)=none:=hk.2.2.2.1 (by decide);obtain⟨s9,Qj⟩:=Option.isSome_iff_exists.1 c3;have hD:zJ K Z x (bt c).pl (m1,cq)=s9:=by unfold zJ;simp only[hn0,Bi,hn2,Qj];rfl
   rw[Qj,hD];refine Z5 ?_;refine Post.bT rfl (()) (by trivial) (aA.fI [0,1,5,2] [3,4] rfl rfl) rfl
  have hn0:aW K x (bt c).pl (m1,cq)=none:=hk.2.1 (by decide);have Bi:bf K x cq=none:=hk.2.2.1 (by decide);have hn2:fq K Z x (m1,cq)=none:=hk.2.2.2.1 (by decide);have R8:cF K x (m1,cq)=none:=(by cases h9:cF K x (m1,cq) with|none=>rfl|some s9=>exact absurd (by rw[h9];rfl) c3);rw[R8];refine Z7 ?_;refine .own (aA.perm (Perm.idx [3,4,0,1,5,2] rfl rfl)) (bx.round 4 ⟨by decide,fun _=>(by first|exact hn0|rfl),fun _=>(by first|exact Bi|rfl),fun _=>(by first|exact hn2|rfl),fun _=>(by first|exact R8|rfl)⟩ (by omega) rfl ?_);exact(.get rfl (ag.int rfl) ((.keep 11 rfl rfl)))
 have qO:k=4:=by omega
 subst qO;have hn0:aW K x (bt c).pl (m1,cq)=none:=hk.2.1 (by decide);have Bi:bf K x cq=none:=hk.2.2.1 (by decide);have hn2:fq K Z x (m1,cq)=none:=hk.2.2.2.1 (by decide);have R8:cF K x (m1,cq)=none:=hk.2.2.2.2 (by decide);have hD:zJ K Z x (bt c).pl (m1,cq)=(m1,cq):=by unfold zJ;simp only[hn0,Bi,hn2,R8];rfl
 rw[hD];refine Z4 ?_;refine Post.bT rfl (()) (by trivial) (aA.fI [2,3,4,5] [0,1] rfl rfl) rfl
theorem xX{Z:Nat}(aj:lZ A K)(aQ:O5 K)(bu:bs.length=K.own.length)(cZ:dF K (m,c))(jy:m.fuel+m.bN≤1000000)(qH:∀i,i<K.own.length→∀x∈(K.made i).body.L,MI K x)(BJ:∀i x,x∈(K.made i).body.L→yw K.m x)(Kl:K.own.length=K.m.aB.length):bk Tryz.prog 29 [ai b 0] [dJ A K (mE b F bs) m,aM A K c,dS (K.own.zip bs),nK 1 .u8 Lib.deBruijn64tab] (γ:=Nat) (fun n=>(bM K Z n (m,c)).1.over=true) (fun n=>[dJ A K (mE b F bs) {(bM K Z n (m,c)).1 with over:=false},aM A K (bM K Z n (m,c)).2,dS (K.own.zip bs),nK 1 .u8 Lib.deBruijn64tab]) (fun n=>aK (iU (bM K Z n (m,c)).1.out)):=by
 refine In 17 Tryz.func29 fun _ _ _=>?_;refine Z2 ?_;refine .n (ay FZ.out) rfl fun b2 _=>?_;refine Z4 ?_;refine .bP (σ:=Nat) (fun n=>[aF b2 (List.map af [.int .i64 0, .slice none 0 0, .int .i64 0, .int .i64 0, .int .i64 0]),dJ A K (mE b F bs) (bM K Z n (m,c)).1,aM A K (bM K Z n (m,c)).2,dS (K.own.zip bs),nK 1 .u8 Lib.deBruijn64tab]) (fun n=>[]) (fun n=>dF K (bM K Z n (m,c))) (fun n=>So K (bM K Z n (m,c))) 0 cZ rfl ?_ ?_
 · exact(.refl _ _)
 rintro n hi;have hsum:=xA (K:=K) (Z:=Z) n (m,c);simp only at hsum;refine dH ?_;refine Cd (fun c0=>?_) fun c0=>?_
 ·
  have ho:(bM K Z n (m,c)).1.over=false:=Bool.eq_false_iff.2 (fun h=>c0 (ME.2 h));have qP:(bM K Z (n+1) (m,c))=eE K Z (bM K Z n (m,c)):=by rw[rQ n 1];show(if (bM K Z n (m,c)).1.over=true then _ else _)=_;rw[if_neg (by rw[ho];exact Bool.false_ne_true)];rfl
  refine Z5 ?_;refine .n (fU [_] [1,2,3,4,0] (h:=G7 (m:=(bM K Z n (m,c)).1) (c:=(bM K Z n (m,c)).2) (Z:=Z) aj aQ bu (hi.run ho) hi.c.cN hi.c.tb ho (by omega) (by omega) qH)) rfl fun g9 h9=>?_;refine Z1 ?_;refine .oy fun qQ=>?_;refine Z1 ?_;refine .own (aA.perm (Perm.idx [4,0,1,2,3] rfl rfl)) (bx.round (n+1) (by rw[qP];exact MU hi BJ Kl) (by rw[qP];exact MV ho (hi.run ho) qQ.fl) (by rw[qP];rfl) ?_);exact((.keep 7 rfl rfl))
 have ho:(bM K Z n (m,c)).1.over=true:=ME.1 (Classical.not_not.1 c0);refine E7 ?_;refine .p ((mZ (i:=1) FA.out FC.out rfl (.t rfl) rfl rfl).le ((by exact show ag _ (aK (iU (bM K Z n (m,c)).1.out)) from ag.refl _))) rfl ?_;refine Z4 ?_;refine Post.aO rfl (n) (by exact ho) (aA.fI [1,2,3,4] [0] rfl rfl) (.ra (i:=0) FA.out FC.out rfl rfl rfl rfl) ?_;exact ag.refl _
variable {off:Nat} {cs:List VP}
theorem uU{n:Int}(aj:cs[off]?=some (aa .u32 n)):bk Tryz.prog 51 [ai b off] [aF b cs] (γ:=Unit) (fun _=>True) (fun _=>[aF b cs]) (fun _=>ak (n≠0)):=by
 refine In 8 Tryz.func51 fun _ _ _=>?_;refine dH ?_;refine .p (FQ (i:=0) Tryz.func81 (by kernel_rfl) (by kernel_rfl) (by kernel_rfl) (by kernel_rfl) (.t rfl) rfl aj) rfl ?_;refine Z5 ?_;refine aX ?_;exact ag.refl _
theorem KJ:cw Tryz.prog 121 [ak True] (aa .u32 1):=by
 refine In 4 Tryz.func121 fun _ _ _=>?_;refine ek ?_;refine CF fun c0=>?_;refine Z7 ?_;refine aX ?_;exact ag.refl _
theorem Ej(aj:cs[off]?=some (aa .i32 0)):bk Tryz.prog 118 [ai b off] [aF b cs] (γ:=Unit) (fun _=>True) (fun _=>[aF b (cs.set off (aa .i32 1))]) (fun _=>aS []):=by
 refine In 13 Tryz.func118 fun _ _ _=>?_;have hlt:=(List.getElem?_eq_some_iff.1 aj).1;have ZE:(cs.set off (aa .i32 1))[off]?=some (aa .i32 1):=by rw[List.getElem?_set,if_pos rfl,if_pos hlt]
 refine Z2 ?_;refine .p (vA (run_call_mark0 Tryz.func175 (by kernel_rfl) (by kernel_rfl) (by kernel_rfl) .disable (by kernel_rfl))) rfl ?_;refine Z8 ?_;refine .n (JX (i:=0) Tryz.func176 (by kernel_rfl) (by kernel_rfl) (by kernel_rfl) (by kernel_rfl) (.t rfl) (.c _) (.c _) rfl aj) rfl fun _ _=>?_;refine Z2 ?_;refine CF fun c0=>?_;refine Z1 ?_;refine CF fun c1=>?_;refine Z2 ?_;refine .p (vA (run_call_mark0 Tryz.func177 (by kernel_rfl) (by kernel_rfl) (by kernel_rfl) .enable (by kernel_rfl))) rfl ?_;refine Z4 ?_;refine .p (C9 (i:=0) FU.out Tryz.underlying321 (by kernel_rfl) (.t rfl) rfl ZE) rfl ?_;refine .p (Iv (run_call_marked Tryz.func178 (by kernel_rfl) (by kernel_rfl) (by kernel_rfl) .acquire (by kernel_rfl)) (.t rfl)) rfl ?_;refine Z4 ?_;refine Post.sr rfl (()) (by trivial) (fun _ _ _ h=>h) rfl
instance:FB Tryz.prog 118:=⟨by kernel_rfl⟩
theorem Ek(aj:cs[off]?=some (aa .i32 0)):bk Tryz.prog 82 [ai b off] [aF b cs] (γ:=Unit) (fun _=>True) (fun _=>[aF b (cs.set off (aa .i32 1))]) (fun _=>aS []):=by
 refine In 6 Tryz.func82 fun _ _ _=>?_;refine Z4 ?_;refine .n (cE (h:=Ej aj)) rfl fun g5 h5=>?_;refine Z1 ?_;refine Post.bT rfl (()) (by trivial) (fun _ _ _ h=>h) rfl
theorem yK(aj:cs[off]?=some (aa .i32 1)):bk Tryz.prog 119 [ai b off] [aF b cs] (γ:=Unit) (fun _=>True) (fun _=>[aF b (cs.set off (aa .i32 0))]) (fun _=>aS []):=by
 refine In 21 Tryz.func119 fun _ _ _=>?_;refine Z1 ?_;refine CF fun c0=>?_;refine Z5 ?_;refine .p (ff (i:=0) FA.out (.t rfl) rfl aj) rfl ?_;refine Z5 ?_;refine .p (C9 (i:=0) FU.out Tryz.underlying321 (by kernel_rfl) (.t rfl) rfl aj) rfl ?_;refine .p (Iv (run_call_marked Tryz.func180 (by kernel_rfl) (by kernel_rfl) (by kernel_rfl) .releaseMerge (by kernel_rfl)) (.t rfl)) rfl ?_;refine Z3 ?_;refine .p (vA (run_call_mark0 Tryz.func175 (by kernel_rfl) (by kernel_rfl) (by kernel_rfl) .disable (by kernel_rfl))) rfl ?_;refine Z7 ?_;refine .n (JY (i:=0) (s:=0) Tryz.func181 (by kernel_rfl) (by kernel_rfl) (by kernel_rfl) (by kernel_rfl) (.t rfl) (.c _) rfl aj (by decide)) rfl fun _ _=>?_;refine dH ?_;refine Cd (fun c1=>?_) fun c1=>?_
 · exact(c1 rfl).elim
 refine Z3 ?_;refine .p (vA (run_call_mark0 Tryz.func177 (by kernel_rfl) (by kernel_rfl) (by kernel_rfl) .enable (by kernel_rfl))) rfl ?_;refine Z1 ?_;refine Post.bT rfl (()) (by trivial) (fun _ _ _ h=>h) rfl
instance:FB Tryz.prog 119:=⟨by kernel_rfl⟩
theorem yL(aj:cs[off]?=some (aa .i32 1)):RD Tryz.prog 83 [ai b off] [aF b cs] (γ:=Unit) (fun _=>True) (fun _=>[aF b (cs.set off (aa .i32 0))]) (fun _=>aS []):=by
 refine RD.intro 6 Tryz.func83 rfl rfl rfl fun w0 S0 M=>?_;refine Z4 ?_;refine .n (cE (h:=yK aj)) rfl fun g5 h5=>?_;refine Z1 ?_;refine Post.bT rfl (()) (by trivial) (fun _ _ _ h=>h) rfl
theorem BB{n:Int}(aj:cs[off]?=some (aa .u32 n)):RD Tryz.prog 84 [ai b off,af (.bool true)] [aF b cs] (γ:=Unit) (fun _=>True) (fun _=>[aF b (cs.set off (aa .u32 1))]) (fun _=>aS []):=by
 refine RD.intro 10 Tryz.func84 rfl rfl rfl fun w0 S0 M=>?_;refine .bz 5 1 FM.out (by kernel_rfl) (k:= ?_);refine Z3 ?_;refine .p ((eK (.t rfl)).le ((show ag (af (.bool true)) (ak True) from fun S w v h=>⟨true,h,by simp⟩))) ?_;refine .p (cA (h:=KJ)) ?_;refine Z1 ?_;refine .n (C8 (i:=0) Tryz.func120 (by kernel_rfl) (by kernel_rfl) (by kernel_rfl) (by kernel_rfl) (.t rfl) (.t rfl) rfl aj) rfl fun _ _=>?_;refine Z1 ?_;refine Post.bT rfl (()) (by trivial) (fun _ _ _ h=>h) rfl
theorem yM{hs:HP}{γ:Type}{φ:γ→Prop}{NN:γ→List VP}{uj:γ→HP}{fi:FuncId}{ps:List VP}(aj:cs[off]?=some (aa .u32 0))(aQ:cs[off+1]?=some (aa .i32 0))(bu:∀g,φ g→(NN g)[off]?=some (aa .u32 0)∧(NN g)[off+1]?=some (aa .i32 1))(cZ:iu Tryz.prog fi=true)(jy:bk Tryz.prog fi ps [aF b (cs.set (off+1) (aa .i32 1)),hs] φ (fun g=>[aF b (NN g),uj g]) (fun _=>aS [])):bk Tryz.prog 52 [ai b off,ux fi ps] [aF b cs,hs] (γ:=γ) φ (fun g=>[aF b (((NN g).set off (aa .u32 1)).set (off+1) (aa .i32 0)),uj g]) (fun _=>aS []):=by
 refine bk.RE 21 Tryz.func52 rfl rfl rfl fun w0 S0 M=>?_;have hlt:=(List.getElem?_eq_some_iff.1 aQ).1;have hs0:(cs.set (off+1) (aa .i32 1))[off]?=some (aa .u32 0):=by rw[List.getElem?_set,if_neg (by omega)];exact aj
 refine Z5 ?_;refine .n (cE (h:=Ek aQ)) rfl fun g7 h7=>?_;refine Z7 ?_;refine .MC (vs:=[.pointer (some ⟨b,off+1,none⟩)]) rfl (.cons (.t rfl) .nil) ?_;refine Z7 ?_;refine .n ((cE (h:=uU hs0)).same (fun _ _=>aA.refl _) (fun _ _=>ag.refl _)) rfl fun _ _=>?_;refine Z3 ?_;refine Cd (fun c0=>?_) fun c0=>?_
 ·
  refine Z5 ?_;refine .MC (vs:=[.pointer (some ⟨b,off,none⟩), .bool true]) rfl (.cons (.t rfl) (.cons (.c _) .nil)) ?_;refine Z4 ?_;refine .n (FT (ps:=[]) (rest:=[]) jy cZ (.t rfl) .nil (Perm.idx [0,1] rfl rfl)) rfl fun NG NH=>?_;refine Z1 ?_;refine .AT (rest:=[uj NG]) (BB (bu NG NH).1) FB.out (fun S w=>AS [_,_]) (Perm.idx [0,1] rfl rfl) (bx.AT (rest:=[uj NG]) (yL (by rw[List.getElem?_set,if_neg (by omega)];exact(bu NG NH).2)) FB.out (fun S w=>AS [_]) (Perm.idx [0,1] rfl rfl) (bx.YR (Post.bT rfl (NG) (by exact NH) (fun _ _ _ h=>h) rfl)))
 exact(c0 (fun h=>h rfl)).elim
theorem El{hs:HP}{γ:Type}{φ:γ→Prop}{NN:γ→List VP}{uj:γ→HP}{fi:FuncId}{ps:List VP}(aj:cs[off]?=some (aa .u32 0))(aQ:cs[off+1]?=some (aa .i32 0))(bu:∀g,φ g→(NN g)[off]?=some (aa .u32 0)∧(NN g)[off+1]?=some (aa .i32 1))(cZ:iu Tryz.prog fi=true)(jy:bk Tryz.prog fi ps [aF b (cs.set (off+1) (aa .i32 1)),hs] φ (fun g=>[aF b (NN g),uj g]) (fun _=>aS [])):bk Tryz.prog 22 [ai b off,ux fi ps] [aF b cs,hs] (γ:=γ) φ (fun g=>[aF b (((NN g).set off (aa .u32 1)).set (off+1) (aa .i32 0)),uj g]) (fun _=>aS []):=by
 refine In 12 Tryz.func22 fun _ _ _=>?_;refine Z5 ?_;refine .n ((cE (h:=uU aj)).same (fun _ _=>aA.refl _) (fun _ _=>ag.refl _)) rfl fun _ _=>?_;refine Z3 ?_;refine Cd (fun c0=>?_) fun c0=>?_
 ·
  refine Z3 ?_;refine .n (cE (h:=yM aj aQ bu cZ jy)) rfl fun Nm h11=>?_;refine Z1 ?_;refine Post.bT rfl (Nm) (by exact h11) (fun _ _ _ h=>h) rfl
 exact(c0 (fun h=>h rfl)).elim
variable {l:List aq}
theorem BC(aj:l.length≤50000)(aQ:mS (l.map (·.Code)) []):bk Tryz.prog 86 [an 5 aE l] [] (γ:=Unit) (fun _=>True) (fun _=>[]) (fun _=>aS [an 3 bE (jr l),aa .i64 0,aa .i64 0]):=by
 refine In 24 Tryz.func86 fun _ _ _=>?_;refine ek ?_;refine .n (gX (.t rfl)) rfl fun Sz _=>?_;refine Z5 ?_;refine .own (hs':=AM Sz l ⟨none,none,[],[],False,0⟩) (aA.trans (aA.E3 (cs':=[an 5 aE l,af (.slice none 0 0),af (.slice none 0 0),ak False,aa .i64 0]) (.cons (.refl _) (.cons (.refl _) (.cons (.refl _) (.cons tQ (.cons (.refl _) .nil)))))) (aA.cons _ Ih)) ?_;refine Z2 ?_;refine .n (cE (h:=xO (z:=⟨none,none,[],[],False,0⟩) aj (fM.nil _ _) rfl rfl (fun h=>h))) rfl fun Uw SA=>?_;refine jz ?_;refine Cd (fun c0=>?_) fun c0=>?_
 · exact absurd (SA.1.2 aQ) c0
 refine Z3 ?_;have hsp:=SA.2 (SA.1.2 aQ);refine .nF (i:=1) (j:=0) (f:=1) rfl rfl rfl ?_;refine ek ?_;refine Post.bY rfl rfl (()) (by trivial) (aA.fI [] [0,1] rfl rfl) rfl (.cons (.rt rfl) ?_ (.cons (.rt rfl) ?_ (.cons (.rt rfl) ?_ .nil)))
 · exact ag.of_eq (by rw[hsp])
 · exact ag.refl _
 exact ag.refl _
theorem Nt{xs:List hH}:bk Tryz.prog 186 [an 3 bE xs] [] (γ:=Unit) (fun _=>True) (fun _=>[]) (fun _=>ux 252 [bH [an 3 bE xs]]):=by
 refine In 4 Tryz.func186 fun _ _ _=>?_;refine Z8 ?_;refine .p (q9 (.cons (.t rfl) .nil)) rfl ?_;refine Z4 ?_;refine aX ?_;exact .z
theorem KK{l:Nat}{xs:List hH}{J:Nat→List HP}(aj:xs.length≤50000)(aQ:∀j,j<xs.length→LF Tryz.prog l [aa .i64 ((xs.length:Int)-1-(j:Int)),aK (bE (pR xs j))] (J j) (J (j+1))):bk Tryz.prog 252 [yV l,bH [an 3 bE xs]] (J 0) (γ:=Unit) (fun _=>True) (fun _=>J xs.length) (fun _=>aS []):=by
 refine In 19 Tryz.func252 fun _ _ _=>?_;refine Z9 ?_;refine .bP (σ:=Nat) (fun j=>J j) (fun j=>[(3,aa .i64 ((xs.length:Int)-1-(j:Int)))]) (fun j=>j≤xs.length) (fun j=>xs.length-j) 0 (Nat.zero_le _) rfl ?_ ?_
 · exact(.get rfl (ag.int (by omega)) (.refl _ _))
 rintro j hj;refine Z7 ?_;refine Cd (fun c0=>?_) fun c0=>?_
 ·
  have hjN:j<xs.length:=by omega
  have hx:=M1 hjN;refine dH ?_;refine .p (cI (xs.length-1-j) (h:=hx)) rfl ?_;refine Z1 ?_;refine .yld (aQ j hjN) (.t rfl) (.cons (.t rfl) (.cons (.t rfl) .nil)) (List.Perm.of_eq (List.append_nil _).symm) rfl ?_;refine Z3 ?_;refine Cd (fun c1=>?_) fun c1=>?_
  · exact(c1 trivial).elim
  refine Z8 ?_;refine .round (j+1) hjN (by omega) (List.append_nil _) ?_;exact(.get rfl (ag.int (by omega)) ((.keep 14 rfl rfl)))
 have hjN:j=xs.length:=by omega
 subst hjN;refine Z4 ?_;refine Post.bT rfl (()) (by trivial) (fun _ _ _ h=>h) rfl
variable {sp:List hH} {hts:List Nat} {res:Nat} {sb:Nat}
theorem yN(aj:sp.length≤50000):bk Tryz.prog 124 [bH [an 5 aE l,an 3 bE sp,an 1 jC hts,nV res,ai sb 0],nV at_] [] (γ:=Unit) (fun _=>True) (fun _=>[]) (fun _=>an 3 bE (fS sp (at_:Int))):=by
 refine bk.Q1 30 Tryz.func124 rfl rfl rfl fun w0 S0 M=>?_;refine Z8 ?_;refine .n (ay FZ.out) rfl fun b5 _=>?_;refine Z9 ?_;refine .p (cA (h:=Nt (xs:=sp))) rfl ?_;refine Z3 ?_;refine .own (aA.trans (uw (n:=3) (enc:=bE)) (aA.trans (aA.perm (Perm.idx [1,0] rfl rfl)) (rS (sb:=none) (xs:=([]:List hH))))) ?_;refine .Q2 sp.length (fun j=>[AT 3 bE b5 (Ke sp (at_:Int) j)]) (fun j=>[aa .i64 ((sp.length:Int)-1-(j:Int)),aK (bE (pR sp j))]) rfl rfl rfl FB.out (.t rfl) rfl (by decide) (fun _ _=>rfl) (fun l D r hY=>KK (xs:=sp) (J:=fun j=>kB l D .ready r _::[AT 3 bE b5 (Ke sp (at_:Int) j)]) aj hY) (fun l D fn tmps j hj w0 S0 M=>?_) (fun D=>?_)
 ·
  refine .own (aA.perm (Perm.idx [1,0] rfl rfl)) ?_;refine .M4 fun sb5=>?_;refine Z1 ?_;refine .n (ay FZ.out) rfl fun b7 _=>?_;refine Z2 ?_;refine .share (t:=7) (i:=0) rfl rfl (bx.own (aA.perm (Perm.idx [2,0,1] rfl rfl)) (bx.begin ?_));refine uZ ?_;refine Cd (fun c0=>?_) fun c0=>?_
  ·
   refine Z3 ?_;refine .p (cB bE [pR sp j]) rfl ?_;refine .n (bn (i:=2) FU.out FU.out FC.out rfl FZ.out rfl FY.out (.t rfl) (.t rfl) rfl (by have h9:=Ba (sp:=sp) (at_:=(at_:Int)) (j:=j);simp only[List.length_cons,List.length_nil];omega) (by have h9:=Ba (sp:=sp) (at_:=(at_:Int)) (j:=j);simp only[List.length_cons,List.length_nil];omega)) rfl fun Qa _=>?_;refine Z3 ?_;refine .own (aA.perm (Perm.idx [1,2,0] rfl rfl)) (bx.own (aA.trans rS (aA.trans (aA.HN (show _=AT 3 bE b5 (Ke sp (at_:Int) (j+1)) by first|rw[←IF hj c0]|rw[←M3 hj c0])) (aA.perm (Perm.idx [1,0] rfl rfl)))) (bx.endRound))
  refine Z2 ?_;refine .own (aA.perm (Perm.idx [1,2,0] rfl rfl)) (bx.own (aA.trans rS (aA.trans (aA.HN (show _=AT 3 bE b5 (Ke sp (at_:Int) (j+1)) by first|rw[←IF hj c0]|rw[←M3 hj c0])) (aA.perm (Perm.idx [1,0] rfl rfl)))) (bx.endRound))
 refine Z3 ?_;refine .own (aA.perm (Perm.idx [1,0] rfl rfl)) ?_;refine .M4 fun sb5=>?_;refine Z5 ?_;refine .gJ (t:=4) (i:=1) rfl rfl ?_;refine Z1 ?_;refine .own (aA.perm (Perm.idx [1,0] rfl rfl)) (wq.aO rfl (()) (by trivial) (aA.fI [] [0] rfl rfl) (.rt rfl) ?_);exact ag.of_eq (by rw[IE])
theorem Em{x:hH}(aj:rR l.length x):cw Tryz.prog 189 [bH [an 5 aE l,an 3 bE sp,an 1 jC hts,nV res,ai sb 0],aK (bE x)] (aa .i64 (DG l x)):=by
 refine In 15 Tryz.func189 fun _ _ _=>?_;have x2:=aj;have hlo:=x2.lo;have hhi:=x2.hi;have hel:=x2.el;have ZF:=x2.en;obtain⟨y,hy⟩:=ah (xs:=l) (k:=x.1.toNat) (by omega);have KO:=pS (show x.1=((x.1.toNat:Nat):Int) by omega) hy;refine Z8 ?_;refine .bz 6 4 FM.out (by kernel_rfl) (k:= ?_);refine Z7 ?_;refine .p (cI x.1.toNat (h:=hy)) rfl ?_;refine Z5 ?_;refine Cd (fun c0=>?_) fun c0=>?_
 ·
  refine Z7 ?_;refine aX ?_;exact ag.int (by unfold DG;rw[KO,if_pos c0])
 refine Z8 ?_;refine aX ?_;exact ag.int (by unfold DG;rw[KO,if_neg c0])
theorem tc{x:hH}(aj:rR l.length x)(aQ:hts.length=l.length)(bu:xZ hts≤40000):cw Tryz.prog 188 [bH [an 5 aE l,an 3 bE sp,an 1 jC hts,nV res,ai sb 0],aK (bE x)] (aa .i64 (jw l hts x)):=by
 refine In 28 Tryz.func188 fun _ _ _=>?_;have x2:=aj;have hlo:=x2.lo;have hhi:=x2.hi;have hel:=x2.el;have ZF:=x2.en;obtain⟨y,hy⟩:=ah (xs:=l) (k:=x.1.toNat) (by omega);have KO:=pS (show x.1=((x.1.toNat:Nat):Int) by omega) hy;obtain⟨h,hh⟩:=ah (xs:=hts) (k:=x.1.toNat) (by omega);have hhm:h≤40000:=by(have h9:=M6 (l:=hts) (i:=x.1.toNat);rw[hh] at h9;exact Nat.le_trans h9 bu)
 have hB:jw l hts x=if y.Code=4 then max ((h:Int)-1) 0 else(h:Int):=by unfold jw;rw[KO,hh];rfl
 refine Z7 ?_;refine .bz 6 3 FM.out (by kernel_rfl) (k:= ?_);refine Z7 ?_;refine .p (cI x.1.toNat (h:=hh)) rfl ?_;refine Z6 ?_;refine .bz 6 4 FM.out (by kernel_rfl) (k:= ?_);refine Z7 ?_;refine .p (cI x.1.toNat (h:=hy)) rfl ?_;refine Z5 ?_;refine Cd (fun c0=>?_) fun c0=>?_
 ·
  refine dH ?_;refine aX ?_;exact ag.int (by rw[hB,if_pos c0])
 refine Z9 ?_;refine aX ?_;exact ag.int (by rw[hB,if_neg c0])
theorem uW{ar:List hH}{n:Int}(aj:∀x∈ar,rR l.length x)(aQ:hts.length=l.length)(bu:xZ hts≤40000)(cZ:l.length≤5000)(jy:0≤n)(qH:ar.length≤50000):bk Tryz.prog 126 [bH [an 5 aE l,an 3 bE sp,an 1 jC hts,nV res,ai sb 0],an 3 bE ar,aa .i64 n] [] (γ:=Unit) (fun _=>True) (fun _=>[]) (fun _=>aK (ju (oA l hts res ar n))):=by
 refine In 53 Tryz.func126 fun _ _ _=>?_;refine Z2 ?_;refine .n (ay FZ.out) rfl fun b6 _=>?_;refine ek ?_;refine Cd (fun c0=>?_) fun c0=>?_
 ·
  have hJ:oA l hts res ar n=⟨(l.length:Int),(res:Int),0⟩:=if_pos c0;refine Z1 ?_;refine .bz 9 2 FM.out (by kernel_rfl) (k:= ?_);refine Jc ?_;refine Post.aO rfl (()) (by trivial) (aA.fI [] [0] rfl rfl) (.ra (i:=0) FA.out FC.out rfl rfl rfl rfl) ?_;exact ag.of_eq (by rw[hJ];rfl)
 obtain⟨x,hx⟩:=ah (xs:=ar) (k:=n.toNat) (by omega);have x2:=aj x (List.mem_of_getElem? hx);have hlo:=x2.lo;have hhi:=x2.hi;have hel:=x2.el;have ZF:=x2.en;obtain⟨y,hy⟩:=ah (xs:=l) (k:=x.1.toNat) (by omega);have KO:=pS (show x.1=((x.1.toNat:Nat):Int) by omega) hy;have hJ:oA l hts res ar n=if y.Code=3 then⟨x.1+1,0,jw l hts x⟩ else⟨x.2.2+1,DG l x,jw l hts x⟩:=by unfold oA;rw[if_neg c0,hx];simp only[Option.getD_some];rw[KO]
 refine Z6 ?_;refine .p (cI n.toNat (h:=hx)) rfl ?_;refine Z1 ?_;refine .n (ay FZ.out) rfl fun b7 _=>?_;refine Z3 ?_;refine .share (t:=7) (i:=0) rfl rfl ?_;refine Z2 ?_;refine .bz 6 4 FM.out (by kernel_rfl) (k:= ?_);refine Z7 ?_;refine .p (cI x.1.toNat (h:=hy)) rfl ?_;refine Z5 ?_;refine Cd (fun c1=>?_) fun c1=>?_
 ·
  rw[if_pos c1] at hJ;refine Z1 ?_;refine .bz 6 2 FM.out (by kernel_rfl) (k:= ?_);refine Z5 ?_;refine .p (cA (h:=tc x2 aQ bu)) ?_;refine Z7 ?_;refine Post.aO rfl (()) (by trivial) (aA.fI [] [0] rfl rfl) (.ra (i:=0) FA.out FC.out rfl rfl rfl rfl) ?_;exact ag.of_eq (by rw[hJ];rfl)
 rw[if_neg c1] at hJ;refine Z3 ?_;refine .bz 9 2 FM.out (by kernel_rfl) (k:= ?_);refine Z5 ?_;refine .p (cA (h:=Em x2)) ?_;refine Z2 ?_;refine .p (cA (h:=tc x2 aQ bu)) ?_;refine Z6 ?_;refine Post.aO rfl (()) (by trivial) (aA.fI [] [0] rfl rfl) (.ra (i:=0) FA.out FC.out rfl rfl rfl rfl) ?_;exact ag.of_eq (by rw[hJ];rfl)
theorem uX{l:List Int}(aj:l.length≤60000):bk Tryz.prog 187 [an 1 cK l] [] (γ:=SB) (fun _=>True) (fun g=>[aI g 1 cK l]) (fun g=>af (bA g l.length)):=by
 refine In 8 Tryz.func187 fun _ _ _=>?_;refine .N3 (t:=0) rfl fun p hp=>?_;refine Z9 ?_;refine .p (Ja FU.out (.t rfl) (.c _)) rfl ?_;refine Z2 ?_;refine Cd (fun c0=>?_) fun c0=>?_
 ·
  refine Z7 ?_;refine Post.aO rfl (none) (by trivial) (by rw[hp c0];exact uw) (.rt rfl) ?_;exact ag.of_eq (by rw[hp c0];rfl)
 refine Z4 ?_;refine .n (jT cK ([]:List Int) FU.out FC.out rfl FZ.out rfl .nil rfl rfl rfl rfl rfl) rfl fun g5 _=>?_;refine Z1 ?_;refine .n (bn (i:=0) FU.out FU.out FC.out rfl FZ.out rfl FY.out (.t rfl) (.le (.t rfl) E1) rfl (by simp<;>omega) (by simp<;>omega)) rfl fun g7 _=>?_;refine Z4 ?_;refine Post.aO rfl (g7) (by trivial) (fun _ _ _ h=>by simpa using h) (.rt rfl) ?_;exact ag.of_eq (by simp)
theorem yO(aj:nX x):bk Tryz.prog 125 [aK (aE x)] [] (γ:=Unit) (fun _=>True) (fun _=>[]) (fun _=>an 1 cK (cy x)):=by
 refine In 20 Tryz.func125 fun _ _ _=>?_;have yZ:=aj.Ln;refine Ti ?_;refine Cd (fun c0=>?_) fun c0=>?_
 ·
  refine Z2 ?_;refine Cd (fun c1=>?_) fun c1=>?_
  ·
   refine Z4 ?_;refine .p (cB cK [x.A]) rfl ?_;refine Z6 ?_;refine aX ?_
   first|(exfalso;omega)|exact ag.of_eq (by unfold cy;(repeat (first|rw[if_pos (by omega)]|rw[if_neg (by omega)]));first|done|rfl)|(rw[show cy x=[] by unfold cy;(repeat (first|rw[if_pos (by omega)]|rw[if_neg (by omega)]))];exact aN 1 cK)
  refine Z6 ?_;refine Cd (fun c2=>?_) fun c2=>?_
  ·
   refine Z1 ?_;refine .bF [(0,0),(1,0),(3,0),(4,0),(5,0),(2,2)] 6 2 FM.out (by kernel_rfl) (k:= ?_);refine Z4 ?_;refine .p rfl (fun _=>bV (enc:=cK) [x.A] FU.out FC.out rfl FZ.out rfl (.cons (.t rfl) .nil) rfl rfl rfl rfl rfl) ?_;refine .e rfl (cE (h:=uX yZ)) fun uc KX=>?_;refine .fin ?_;refine .n (fN.gJ (G:=fun g=>g) (qP:=fun _=>_) (xs:=fun _=>_) (bn (i:=0) FU.out FU.out FC.out rfl FZ.out rfl FY.out (.t rfl) (.t rfl) rfl (by simp only[List.length_cons,List.length_nil];omega) (by simp only[List.length_cons,List.length_nil];omega))) rfl fun _ _=>?_;refine Z6 ?_;refine aX ?_
   first|(exfalso;omega)|exact ag.of_eq (by unfold cy;(repeat (first|rw[if_pos (by omega)]|rw[if_neg (by omega)]));first|done|rfl)|(rw[show cy x=[] by unfold cy;(repeat (first|rw[if_pos (by omega)]|rw[if_neg (by omega)]))];exact aN 1 cK)
  refine Z9 ?_;refine aX ?_
  first|(exfalso;omega)|exact ag.of_eq (by unfold cy;(repeat (first|rw[if_pos (by omega)]|rw[if_neg (by omega)]));first|done|rfl)|(rw[show cy x=[] by unfold cy;(repeat (first|rw[if_pos (by omega)]|rw[if_neg (by omega)]))];exact aN 1 cK)
 refine Z5 ?_;refine Cd (fun c3=>?_) fun c3=>?_
 ·
  refine Z4 ?_;refine .p (cB cK [x.A]) rfl ?_;refine Z6 ?_;refine aX ?_
  first|(exfalso;omega)|exact ag.of_eq (by unfold cy;(repeat (first|rw[if_pos (by omega)]|rw[if_neg (by omega)]));first|done|rfl)|(rw[show cy x=[] by unfold cy;(repeat (first|rw[if_pos (by omega)]|rw[if_neg (by omega)]))];exact aN 1 cK)
 refine Z6 ?_;refine Cd (fun c4=>?_) fun c4=>?_
 ·
  refine Z1 ?_;refine .bF [(0,0),(1,0),(3,0),(4,0),(5,0),(2,2)] 6 2 FM.out (by kernel_rfl) (k:= ?_);refine Z4 ?_;refine .p rfl (fun _=>bV (enc:=cK) [x.A] FU.out FC.out rfl FZ.out rfl (.cons (.t rfl) .nil) rfl rfl rfl rfl rfl) ?_;refine .e rfl (cE (h:=uX yZ)) fun uc KX=>?_;refine .fin ?_;refine .n (fN.gJ (G:=fun g=>g) (qP:=fun _=>_) (xs:=fun _=>_) (bn (i:=0) FU.out FU.out FC.out rfl FZ.out rfl FY.out (.t rfl) (.t rfl) rfl (by simp only[List.length_cons,List.length_nil];omega) (by simp only[List.length_cons,List.length_nil];omega))) rfl fun _ _=>?_;refine Z6 ?_;refine aX ?_
  first|(exfalso;omega)|exact ag.of_eq (by unfold cy;(repeat (first|rw[if_pos (by omega)]|rw[if_neg (by omega)]));first|done|rfl)|(rw[show cy x=[] by unfold cy;(repeat (first|rw[if_pos (by omega)]|rw[if_neg (by omega)]))];exact aN 1 cK)
 refine Z9 ?_;refine aX ?_
 first|(exfalso;omega)|exact ag.of_eq (by unfold cy;(repeat (first|rw[if_pos (by omega)]|rw[if_neg (by omega)]));first|done|rfl)|(rw[show cy x=[] by unfold cy;(repeat (first|rw[if_pos (by omega)]|rw[if_neg (by omega)]))];exact aN 1 cK)
theorem yP{I:pK}{J:List (cP×mU)}{C S:List (Int×Int)}{go:SB}{o:List cP}{y:aq}(aj:hts.length=l.length)(aQ:xZ hts≤40000)(bu:l.length≤5000)(cZ:∀x∈sp,rR l.length x)(jy:sp.length≤5000)(qH:l[at_]?=some y)(BJ:nX y)(Kl:∀n∈cy y,0≤n∧n≤100000)(UA:o.length≤1000000000):bk Tryz.prog 87 [bH [an 5 aE l,an 3 bE sp,an 1 jC hts,nV res,ai I.b 0],nV at_] (mX I J C S go o) (γ:=List (Int×Int)×SB×List cP) (fun r=>r.2.2.length≤o.length+100000) (fun r=>mX I (yx l hts res (fS sp (at_:Int)) (at_:Int) (cy y) J (cy y).length) r.1 S r.2.1 r.2.2) (fun _=>aS []):=by
 refine In 73 Tryz.func87 fun _ _ _=>?_;have hlL:(cy y).length≤60001:=by(have h9:=BJ.Ln;unfold cy;split;(simp);split;(simp;omega);simp)
 have hal:=Gp (sp:=sp) (at_:=(at_:Int));have hin:=Kf (at_:=(at_:Int)) cZ;refine Z4 ?_;refine .p (cA (h:=yN (by omega))) rfl ?_;refine dH ?_;refine .p (cI at_ (h:=qH)) rfl ?_;refine Z1 ?_;refine .p (cA (h:=yO BJ)) rfl ?_;refine ek ?_;refine Cd (fun c0=>?_) fun c0=>?_
 ·
  refine ek ?_;refine .s (um (i:=2) _ Tryz.ur Tryz.underlying114 (.t rfl) (.t rfl) (.t rfl) rfl) ?_;refine Z2 ?_;generalize ew C (at_:Int) ((cy y).length:Int)=C1;refine Z8 ?_;refine .bP (σ:=Nat×SB×List cP) (fun r=>mX I (yx l hts res (fS sp (at_:Int)) (at_:Int) (cy y) J r.1) C1 S r.2.1 r.2.2) (fun r=>[(34,aa .i64 (r.1:Int))]) (fun r=>r.1≤(cy y).length∧r.2.2.length=o.length+r.1) (fun r=>(cy y).length-r.1) (0,go,o) ⟨Nat.zero_le _,rfl⟩ rfl ?_ ?_
  · exact(.get rfl (ag.refl _) (.refl _ _))
  rintro⟨k,gk,ok⟩ hk;simp only at hk ⊢;refine Z6 ?_;refine Cd (fun c1=>?_) fun c1=>?_
  ·
   obtain⟨n,hn⟩:=ah (xs:=cy y) (k:=k) (by omega);have hnb:=Kl n (List.mem_of_getElem? hn);refine Z7 ?_;refine .p (cI k (h:=hn)) rfl ?_;refine Z6 ?_;refine .bz 15 1 FM.out (by kernel_rfl) (k:= ?_);refine j4 ?_;refine .p (cA (h:=uW (ar:=fS sp (at_:Int)) (n:=n) hin aj aQ bu hnb.1 (by omega))) ?_;refine Z1 ?_;refine .s (um (i:=1) (vq:=fun j=>aK (ju j)) (oA l hts res (fS sp (at_:Int)) n) Tryz.Lx Tryz.underlying214 (.t rfl) (.le (.t rfl) (show ag (aK [aa .i64 (at_:Int),aa .i64 (k:Int)]) _ from vW (a:=((at_:Int),(k:Int))))) (.t rfl) rfl) ?_;refine Z2 ?_;refine .bF [(0,0),(1,0),(2,0),(3,0),(4,0),(5,0),(6,0),(7,0),(8,0),(9,0),(10,1),(11,0),(12,0),(13,0),(14,0),(15,2)] 16 3 FM.out (by kernel_rfl) (k:= ?_);refine j4 ?_;refine .p rfl (fun _=>bV (enc:=uN) [((at_:Int),(k:Int))] FU.out FC.out rfl FZ.out rfl (.cons (.t rfl) .nil) rfl rfl rfl rfl rfl) ?_;refine .e rfl (bn (i:=4) FU.out FU.out FC.out rfl FZ.out rfl FY.out (.t rfl) (.t rfl) rfl (by simp only[List.length_cons,List.length_nil];omega) (by simp only[List.length_cons,List.length_nil];omega)) fun ZG _=>?_;refine .fin ?_;refine dH ?_;refine .round (k+1,ZG,ok++[((at_:Int),(k:Int))]) (by simp only[List.length_append,List.length_cons,List.length_nil];omega) (by show(cy y).length-(k+1)<(cy y).length-k;omega) (by simp only[M5 hn];try rfl) ?_;exact(.get rfl (ag.int (by show(_:Int)=((k+1:Nat):Int);omega)) ((.keep 42 rfl rfl)))
  have qO:k=(cy y).length:=by omega
  subst qO;refine Z4 ?_;refine Post.bT rfl ((C1,gk,ok)) (by show ok.length≤_;omega) (fun _ _ _ h=>h) rfl
 obtain⟨C1,hC1⟩:∃C1,C1=C:=⟨_,rfl⟩;rw[←hC1];refine dH ?_;refine .bP (σ:=Nat×SB×List cP) (fun r=>mX I (yx l hts res (fS sp (at_:Int)) (at_:Int) (cy y) J r.1) C1 S r.2.1 r.2.2) (fun r=>[(34,aa .i64 (r.1:Int))]) (fun r=>r.1≤(cy y).length∧r.2.2.length=o.length+r.1) (fun r=>(cy y).length-r.1) (0,go,o) ⟨Nat.zero_le _,rfl⟩ rfl ?_ ?_
 · exact(.get rfl (ag.refl _) (.refl _ _))
 rintro⟨k,gk,ok⟩ hk;simp only at hk ⊢;refine Z6 ?_;refine Cd (fun c2=>?_) fun c2=>?_
 ·
  obtain⟨n,hn⟩:=ah (xs:=cy y) (k:=k) (by omega);have hnb:=Kl n (List.mem_of_getElem? hn);refine Z7 ?_;refine .p (cI k (h:=hn)) rfl ?_;refine Z6 ?_;refine .bz 15 1 FM.out (by kernel_rfl) (k:= ?_);refine j4 ?_;refine .p (cA (h:=uW (ar:=fS sp (at_:Int)) (n:=n) hin aj aQ bu hnb.1 (by omega))) ?_;refine Z1 ?_;refine .s (um (i:=1) (vq:=fun j=>aK (ju j)) (oA l hts res (fS sp (at_:Int)) n) Tryz.Lx Tryz.underlying214 (.t rfl) (.le (.t rfl) (show ag (aK [aa .i64 (at_:Int),aa .i64 (k:Int)]) _ from vW (a:=((at_:Int),(k:Int))))) (.t rfl) rfl) ?_;refine Z2 ?_;refine .bF [(0,0),(1,0),(2,0),(3,0),(4,0),(5,0),(6,0),(7,0),(8,0),(9,0),(10,1),(11,0),(12,0),(13,0),(14,0),(15,2)] 16 3 FM.out (by kernel_rfl) (k:= ?_);refine j4 ?_;refine .p rfl (fun _=>bV (enc:=uN) [((at_:Int),(k:Int))] FU.out FC.out rfl FZ.out rfl (.cons (.t rfl) .nil) rfl rfl rfl rfl rfl) ?_;refine .e rfl (bn (i:=4) FU.out FU.out FC.out rfl FZ.out rfl FY.out (.t rfl) (.t rfl) rfl (by simp only[List.length_cons,List.length_nil];omega) (by simp only[List.length_cons,List.length_nil];omega)) fun ZG _=>?_;refine .fin ?_;refine dH ?_;refine .round (k+1,ZG,ok++[((at_:Int),(k:Int))]) (by simp only[List.length_append,List.length_cons,List.length_nil];omega) (by show(cy y).length-(k+1)<(cy y).length-k;omega) (by simp only[M5 hn];try rfl) ?_;exact(.get rfl (ag.int (by show(_:Int)=((k+1:Nat):Int);omega)) ((.keep 42 rfl rfl)))
 have qO:k=(cy y).length:=by omega
 subst qO;refine Z4 ?_;refine Post.bT rfl ((C1,gk,ok)) (by show ok.length≤_;omega) (fun _ _ _ h=>h) rfl
theorem BD{I:pK}{J:List (cP×mU)}{C S:List (Int×Int)}{go:SB}{o:List cP}{x:hH}(aj:rR l.length x)(aQ:l.length≤5000):bk Tryz.prog 88 [bH [an 5 aE l,an 3 bE sp,an 1 jC hts,nV res,ai I.b 0],aK (bE x)] (mX I J C S go o) (γ:=Unit) (fun _=>True) (fun _=>mX I J C (xC l x S) go o) (fun _=>aS []):=by
 refine In 51 Tryz.func88 fun _ _ _=>?_;have x2:=aj;have hlo:=x2.lo;have hhi:=x2.hi;have hel:=x2.el;have ZF:=x2.en;obtain⟨y,hy⟩:=ah (xs:=l) (k:=x.1.toNat) (by omega);have KO:=pS (show x.1=((x.1.toNat:Nat):Int) by omega) hy;refine Z7 ?_;refine .bz 6 4 FM.out (by kernel_rfl) (k:= ?_);refine Z7 ?_;refine .p (cI x.1.toNat (h:=hy)) rfl ?_;refine Z5 ?_;refine Cd (fun c0=>?_) fun c0=>?_
 ·
  have hF:xC l x S=S:=if_pos (by rw[KO];exact c0);refine Z2 ?_;refine Post.sr rfl (()) (by trivial) (aA.of_eq (by rw[hF];first|done|rfl)) rfl
 have h4:¬(pQ l x.1).Code≠4:=by rw[KO];exact c0
 refine Z3 ?_;refine .bz 11 1 FM.out (by kernel_rfl) (k:= ?_);refine fW ?_;refine .s (um (i:=3) _ Tryz.ur Tryz.underlying114 (.t rfl) (.t rfl) (.t rfl) rfl) ?_;refine Z9 ?_;refine Cd (fun c1=>?_) fun c1=>?_
 ·
  have hF:xC l x S=ew (ew (ew S x.1 x.2.2) x.1 (x.2.1+1)) x.2.1 x.2.2:=(if_neg h4).trans (if_pos c1);refine Z1 ?_;refine .bz 12 1 FM.out (by kernel_rfl) (k:= ?_);refine jz ?_;refine .s (um (i:=3) _ Tryz.ur Tryz.underlying114 (.t rfl) (.t rfl) (.t rfl) rfl) ?_;refine Z2 ?_;refine .bz 11 1 FM.out (by kernel_rfl) (k:= ?_);refine fW ?_;refine .s (um (i:=3) _ Tryz.ur Tryz.underlying114 (.t rfl) (.t rfl) (.t rfl) rfl) ?_;refine Z1 ?_;refine Post.bT rfl (()) (by trivial) (aA.of_eq (by rw[hF];first|done|rfl)) rfl
 have hF:xC l x S=ew S x.1 x.2.2:=(if_neg h4).trans (if_neg c1);refine Z1 ?_;refine Post.bT rfl (()) (by trivial) (aA.of_eq (by rw[hF];first|done|rfl)) rfl
end Go.Proofs.YtmacjbfbpjgmnaaGreatDoor
end
