/-
  What the statement's proof leans on, several texts in one (packed by a program).
-/
import Derived.Test.YtmacjbfbpjgmnaaGreatDoorRNO
set_option linter.all false
set_option maxRecDepth 1000000
set_option maxHeartbeats 4000000
section
namespace Go.Proofs.YtmacjbfbpjgmnaaGreatDoor
open Go.Hl Go.RowKit
variable {cb:Nat} {m:aR} {f:bU} {gs:SB} {n:Int} {nb:Nat} {ns:Nat} {gb:SB}
theorem pU(aj:wL m f)(aQ:0≤n):uY Tryz.prog 390 377 [ai cb 0,aa .u64 (n)] [H7 cb m f gs ns gb nb] (dI (bJ m f).aY n=none) (γ:=UInt8) (fun t=>dI (bJ m f).aY n=some t) (fun _=>[H7 cb m f gs ns gb nb]) (fun t=>aa .u8 ((t:UInt8).toNat:Int)):=by
 refine BG 23 Tryz.func377 fun _ _ _=>?_;have RK:=aj.lo;refine Jc ?_;refine .x (cX (h:=dZ (e:=2) (by decide))) rfl (fun h=>wK (fun e=>h e)) fun Qe yz=>?_;refine Z3 ?_;obtain⟨t,ht,RO⟩:=vr aQ yz;refine Z7 ?_;refine .p (cI n.toNat (h:=RO)) rfl ?_;refine Z5 ?_;refine .jj (Post.aO rfl (t) (by exact ht) (fun _ _ _ h=>h) (.rt rfl) ?_);exact ag.refl _
theorem s5(aj:wL m f)(aQ:0≤n):uY Tryz.prog 390 378 [ai cb 0,aa .u64 (n)] [H7 cb m f gs ns gb nb] (dI m.aH n=none) (γ:=kQ) (fun t=>dI m.aH n=some t) (fun _=>[H7 cb m f gs ns gb nb]) (fun t=>aK (lp t)):=by
 refine BG 29 Tryz.func378 fun _ _ _=>?_;have RK:=aj.fits.lens.2.2.2.1;refine Z2 ?_;refine .n (ay FZ.out) rfl fun b4 _=>?_;refine Jc ?_;refine .x (cX (h:=dZ (e:=2) (by decide))) rfl (fun h=>wK (fun e=>h e)) fun J5 ED=>?_;refine Z3 ?_;obtain⟨t,ht,RO⟩:=vr aQ ED;refine dH ?_;refine .p (cI n.toNat (h:=RO)) rfl ?_;refine Z5 ?_;refine .jj (Post.aO rfl (t) (by exact ht) (aA.fI [1] [0] rfl rfl) (.ra (i:=0) FA.out FC.out rfl rfl rfl rfl) ?_);exact ag.refl _
theorem og(aj:wL m f)(aQ:0≤n):uY Tryz.prog 390 380 [ai cb 0,aa .u64 (n)] [H7 cb m f gs ns gb nb] (dI m.dU n=none) (γ:=jV) (fun t=>dI m.dU n=some t) (fun _=>[H7 cb m f gs ns gb nb]) (fun t=>aK (iZ t)):=by
 refine BG 29 Tryz.func380 fun _ _ _=>?_;have RK:=aj.fits.lens.2.2.1;refine Z2 ?_;refine .n (ay FZ.out) rfl fun b4 _=>?_;refine Jc ?_;refine .x (cX (h:=dZ (e:=2) (by decide))) rfl (fun h=>wK (fun e=>h e)) fun J5 ED=>?_;refine Z3 ?_;obtain⟨t,ht,RO⟩:=vr aQ ED;refine dH ?_;refine .p (cI n.toNat (h:=RO)) rfl ?_;refine Z5 ?_;refine .jj (Post.aO rfl (t) (by exact ht) (aA.fI [1] [0] rfl rfl) (.ra (i:=0) FA.out FC.out rfl rfl rfl rfl) ?_);exact ag.refl _
theorem mY{l:jV}:cw Tryz.prog 381 [aK (iZ l)] (aa .u8 ((eD l.bX:UInt8).toNat:Int)):=by
 refine In 5 Tryz.func381 fun _ _ _=>?_;refine jz ?_;refine Cd (fun c0=>?_) fun c0=>?_
 ·
  refine Z7 ?_;refine aX ?_;exact ag.of_eq (by unfold eD;rw[if_pos c0];rfl)
 refine Z8 ?_;refine aX ?_;exact ag.of_eq (by unfold eD;rw[if_neg c0];rfl)
variable {bb:Nat} {bc:Nat} {L0:List UInt8} {B:List JB} {k:fm} {s:jW}
theorem mJ{g:nc}(aj:(L0++s.1).length≤60000)(aQ:g.R.length≤60000):uY Tryz.prog 390 327 [ai cb 0,aK (dQ g)] (wJ cb m f gs bb bc L0 B k s) (oF s g.P g.R=none) (γ:=SB×jW) (fun z=>oF s g.P g.R=some z.2) (fun z=>wJ cb m f z.1 bb bc L0 B k z.2) (fun _=>aS []):=by
 refine BG 12 Tryz.func327 fun _ _ _=>?_;refine dH ?_;refine .x (cX (h:=gR (s:=s) (l:=g.P))) rfl (fun h=>by unfold oF;rw[h];rfl) fun g7 h7=>?_;refine Z6 ?_;refine .n (cE (h:=fT (st:=L0++g7.1) (l:=g.R) (E6:=L0++(cQ g7 g.R).1) (by simp only[List.length_append] at aj ⊢;have:=rA h7;omega) aQ (by simp[cQ]))) rfl fun Nm h11=>?_;refine Z1 ?_;refine .oZ (Post.bT rfl ((Nm,cQ g7 g.R)) (by exact(by unfold oF;rw[h7];rfl)) (fun _ _ _ h=>h) rfl)
variable {x:aq}
theorem xI{labs:List (List UInt8)}(aj:(L0++s.1).length≤60000)(aQ:wL m f)(bu:nt x):uY Tryz.prog 390 323 [ai cb 0,aK (aE x)] (wJ cb m f gs bb bc L0 B k s) (fH x.Code∧gN (bJ m f) x s labs=none) (γ:=SB×jW) (fun z=>(fH x.Code∧gN (bJ m f) x s labs=some z.2)∨(¬fH x.Code∧z=(gs,s))) (fun z=>wJ cb m f z.1 bb bc L0 B k z.2) (fun _=>ak (fH x.Code)):=by
 refine BG 62 Tryz.func323 fun _ _ _=>?_;refine KR ?_;refine Cd (fun c0=>?_) fun c0=>?_
 ·
  refine Z5 ?_;refine .x (cX (h:=pU aQ bu.A0)) rfl (fun h=>⟨by unfold fH;omega,by rw[L7 c0,h];rfl⟩) fun uc KX=>?_;refine .p (cB aL [_]) rfl ?_;refine .n (cE (h:=fT (st:=L0++s.1) (l:=[uc]) (E6:=L0++(cQ s [uc]).1) (by simp only[List.length_append] at aj ⊢;omega) (by simp) (by simp[cQ]))) rfl fun J5 ED=>?_;refine Z9 ?_;refine .jj (Post.aO rfl ((J5,cQ s [uc])) (by exact .inl ⟨by unfold fH;omega,by rw[L7 c0,KX];rfl⟩) (fun _ _ _ h=>h) (.rt rfl) ?_);exact ag.prop ⟨fun _=>by unfold fH;omega,fun _=>trivial⟩
 refine Z6 ?_;refine Cd (fun c1=>?_) fun c1=>?_
 ·
  refine Z5 ?_;refine .x (cX (h:=pU aQ bu.A0)) rfl (fun h=>⟨by unfold fH;omega,by rw[Fv c1,h];rfl⟩) fun J1 FW=>?_;refine .x (cX (h:=ey (s:=s) (w:=J1))) rfl (fun h=>⟨by unfold fH;omega,by rw[Fv c1,FW,Option.bind_some,fQ,h];rfl⟩) fun NI Pv=>?_;refine Z9 ?_;refine .jj (Post.aO rfl ((gs,NI.1)) (by exact .inl ⟨by unfold fH;omega,by rw[Fv c1,FW,Option.bind_some,fQ,Pv];rfl⟩) (fun _ _ _ h=>h) (.rt rfl) ?_);exact ag.prop ⟨fun _=>by unfold fH;omega,fun _=>trivial⟩
 refine Z6 ?_;refine Cd (fun c2=>?_) fun c2=>?_
 ·
  refine Z5 ?_;refine .x (cX (h:=pU aQ bu.A0)) rfl (fun h=>⟨by unfold fH;omega,by rw[Fw c2,h];rfl⟩) fun Kn R0=>?_;refine Z7 ?_;refine .x (cX (h:=ey (s:=s) (w:=Kn))) rfl (fun h=>⟨by unfold fH;omega,by rw[Fw c2,R0,Option.bind_some,oF,fQ,h];rfl⟩) fun NJ R1=>?_;refine Z5 ?_;refine .p (cB aL [_]) rfl ?_;refine .n (cE (h:=fT (st:=L0++NJ.1.1) (l:=[Kn]) (E6:=L0++(cQ NJ.1 [Kn]).1) (by simp only[List.length_append] at aj ⊢;have:=lK R1;omega) (by simp) (by simp[cQ]))) rfl fun O9 Sp=>?_;refine Z9 ?_;refine .jj (Post.aO rfl ((O9,cQ NJ.1 [Kn])) (by exact .inl ⟨by unfold fH;omega,by rw[Fw c2,R0,Option.bind_some,oF,fQ,R1];rfl⟩) (fun _ _ _ h=>h) (.rt rfl) ?_);exact ag.prop ⟨fun _=>by unfold fH;omega,fun _=>trivial⟩
 refine Z6 ?_;refine Cd (fun c3=>?_) fun c3=>?_
 ·
  refine Z5 ?_;refine .x (cX (h:=s5 aQ bu.A0)) rfl (fun h=>⟨by unfold fH;omega,by rw[L8 c3];rw[show(bJ m f).aH=m.aH.map (·.Ty) from rfl,bK,h];rfl⟩) fun Ex W0=>?_;refine .p (aT.le (v7 (T:=172) (i:=0) (off:=0) (by kernel_rfl) Tryz.Tk.out (.t rfl) rfl) (ag.refl (aa .u8 (Ex.Ty.toNat:Int)))) rfl ?_;refine .p (cB aL [_]) rfl ?_;refine .n (cE (h:=fT (st:=L0++s.1) (l:=[Ex.Ty]) (E6:=L0++(cQ s [Ex.Ty]).1) (by simp only[List.length_append] at aj ⊢;omega) (by simp) (by simp[cQ]))) rfl fun KV h48=>?_;refine Z9 ?_;refine .jj (Post.aO rfl ((KV,cQ s [Ex.Ty])) (by exact .inl ⟨by unfold fH;omega,by rw[L8 c3];rw[show(bJ m f).aH=m.aH.map (·.Ty) from rfl,bK,W0];rfl⟩) (fun _ _ _ h=>h) (.rt rfl) ?_);exact ag.prop ⟨fun _=>by unfold fH;omega,fun _=>trivial⟩
 refine Z6 ?_;refine Cd (fun c4=>?_) fun c4=>?_
 ·
  refine Z5 ?_;refine .x (cX (h:=s5 aQ bu.A0)) rfl (fun h=>⟨by unfold fH;omega,by rw[AG c4];rw[show(bJ m f).aH=m.aH.map (·.Ty) from rfl,bK,h];rfl⟩) fun Ss Su=>?_;refine .n (ay FZ.out) rfl fun b6 _=>?_;refine Z3 ?_;refine .share (t:=6) (i:=0) rfl rfl ?_;refine Z4 ?_;refine .x (cX (h:=dZ (e:=5) (by decide))) rfl (fun h=>⟨by unfold fH;omega,by rw[AG c4];rw[show(bJ m f).aH=m.aH.map (·.Ty) from rfl,show(bJ m f).fP=m.aH.map (·.fP) from rfl,bK,bK,Su];simp only[Option.map_some,Option.bind_some];rw[if_neg h]⟩) fun W1 Sv=>?_;refine Z6 ?_;refine .x (cX (h:=ey (s:=s) (w:=Ss.Ty))) rfl (fun h=>⟨by unfold fH;omega,by rw[AG c4];rw[show(bJ m f).aH=m.aH.map (·.Ty) from rfl,show(bJ m f).fP=m.aH.map (·.fP) from rfl,bK,bK,Su];simp only[Option.map_some,Option.bind_some];rw[if_pos Sv,fQ,h];rfl⟩) fun Uf Ug=>?_;refine Z9 ?_;refine .jj (Post.aO rfl ((gs,Uf.1)) (by exact .inl ⟨by unfold fH;omega,by rw[AG c4];rw[show(bJ m f).aH=m.aH.map (·.Ty) from rfl,show(bJ m f).fP=m.aH.map (·.fP) from rfl,bK,bK,Su];simp only[Option.map_some,Option.bind_some];rw[if_pos Sv,fQ,Ug];rfl⟩) (fun _ _ _ h=>h) (.rt rfl) ?_);exact ag.prop ⟨fun _=>by unfold fH;omega,fun _=>trivial⟩
 refine Z8 ?_;refine .jj (Post.aO rfl ((gs,s)) (by exact .inr ⟨by unfold fH;omega,rfl⟩) (fun _ _ _ h=>h) (.rt rfl) ?_);exact ag.prop ⟨fun h=>h.elim,fun h=>by unfold fH at h;omega⟩
variable {l:List UInt8}
theorem oB{s:List UInt8}:cw Tryz.prog 262 [cW l,cW s] (ak (kr l s)):=by
 refine In 21 Tryz.func262 fun _ _ _=>?_;refine .fact (t:=0) rfl (fun S w v h=>jY h) fun hl=>?_;refine .fact (t:=1) rfl (fun S w v h=>jY h) fun NR=>?_;refine Jd ?_;refine .g (bB.gT rfl rfl rfl rfl (fun hg=>vR FU.out (.when (.t rfl) hg) (.when (.t rfl) hg) (by omega:_=((l.length-s.length:Nat):Int)) (by omega))) rfl rfl ?_;refine Z7 ?_;refine aX ?_;exact ag.prop (by unfold kr;constructor<;>(rintro⟨h1,h2⟩;exact⟨by omega,h2⟩))
theorem vg{s:List UInt8}:cw Tryz.prog 263 [cW l,cW s] (ak (tE l s)):=by
 refine In 18 Tryz.func263 fun _ _ _=>?_;refine .fact (t:=0) rfl (fun S w v h=>jY h) fun hl=>?_;refine .fact (t:=1) rfl (fun S w v h=>jY h) fun NR=>?_;refine Jc ?_;refine .g (bB.gT rfl rfl rfl rfl (fun hg=>q5 FU.out (.when (.t rfl) hg) (.when (.t rfl) hg) rfl (by omega))) rfl rfl ?_;refine Z7 ?_;refine aX ?_;exact ag.prop (by unfold tE;constructor<;>(rintro⟨h1,h2⟩;exact⟨by omega,h2⟩))
theorem xJ{s:List UInt8}:cw Tryz.prog 204 [cW l,cW s] (ak (kr l s)):=by
 refine In 8 Tryz.func204 fun _ _ _=>?_;refine Z9 ?_;refine .p (cA (h:=oB)) rfl ?_;refine Z4 ?_;refine aX ?_;exact ag.refl _
theorem xK{s:List UInt8}:cw Tryz.prog 205 [cW l,cW s] (ak (tE l s)):=by
 refine In 8 Tryz.func205 fun _ _ _=>?_;refine Z9 ?_;refine .p (cA (h:=vg)) rfl ?_;refine Z4 ?_;refine aX ?_;exact ag.refl _
theorem ud{s:List UInt8}:cw Tryz.prog 261 [cW l,cW s] (cW (p9 l s)):=by
 refine In 16 Tryz.func261 fun _ _ _=>?_;refine .fact (t:=0) rfl (fun S w v h=>jY h) fun hl=>?_;refine .fact (t:=1) rfl (fun S w v h=>jY h) fun NR=>?_;refine Z2 ?_;refine .p (dK (.s [] rfl rfl)) rfl ?_;refine Z7 ?_;refine .p (cA (h:=oB)) rfl ?_;refine Z2 ?_;refine Cd (fun c0=>?_) fun c0=>?_
 ·
  have hle:=c0.1;refine Z8 ?_;refine .p (q5 FU.out (.t rfl) (.t rfl) (by omega:_=((l.length-s.length:Nat):Int)) (by omega)) rfl ?_;refine Z5 ?_;refine aX ?_;exact ag.of_eq (by unfold p9;rw[if_pos c0])
 refine Z9 ?_;refine aX ?_;exact ag.of_eq (by unfold p9;rw[if_neg c0])
theorem oC{s:List UInt8}:cw Tryz.prog 203 [cW l,cW s] (cW (p9 l s)):=by
 refine In 8 Tryz.func203 fun _ _ _=>?_;refine Z2 ?_;refine .p (dK (.s [] rfl rfl)) rfl ?_;refine Z6 ?_;refine .p (cA (h:=ud)) rfl ?_;refine Z4 ?_;refine aX ?_;exact ag.refl _
variable {b:UInt8}
theorem Bk:cw Tryz.prog 382 [cW l,aa .u8 (b.toNat:Int)] (aa .i64 (Lib.indexByte l b)):=by
 refine In 8 Tryz.func382 fun _ _ _=>?_;refine Z9 ?_;refine .p (EO Tryz.Tj (.cons (.t rfl) (.cons (.t rfl) .nil))) rfl ?_;refine Z4 ?_;refine aX ?_;exact ag.refl _
theorem Ko(aj:l≠[b]):cw Tryz.prog 332 [cW l,cW [b]] (aa .i64 (Lib.indexByte l b)):=by
 refine In 143 Tryz.func332 fun _ _ _=>?_;refine XG ?_;refine Cd (fun c0=>?_) fun c0=>?_
 · exfalso;simp at c0;exact aj c0.symm
 refine Z7 ?_;refine CF fun c1=>?_;refine Z4 ?_;refine .p (r9 FU.out (.t rfl) (.c _) rfl (show[b][0]?=some b from rfl)) rfl ?_;refine .p (cA (h:=Bk)) rfl ?_;refine Z6 ?_;refine aX ?_;exact ag.refl _
theorem Kq(aj:l≠[b]):cw Tryz.prog 260 [cW l,cW [b]] (aS [cW (tF l b).1,cW (tF l b).2.1,ak ((tF l b).2.2=true)]):=by
 refine In 23 Tryz.func260 fun _ _ _=>?_;refine .fact (t:=0) rfl (fun S w v h=>jY h) fun hl=>?_;have hlt:=Ai l b;refine Z2 ?_;refine .p (dK (.s [] rfl rfl)) rfl ?_;refine .p (dK (.s [] rfl rfl)) rfl ?_;refine Z8 ?_;refine .p (cA (h:=Ko aj)) rfl ?_;refine Z9 ?_;refine Cd (fun c0=>?_) fun c0=>?_
 ·
  have hj:Lib.indexByte l b=(((Lib.indexByte l b).toNat:Nat):Int):=by omega
  refine Z1 ?_;refine .bz 10 2 FM.out (by kernel_rfl) (k:= ?_);refine Z2 ?_;refine .p (q5 FU.out (.t rfl) (.t rfl) hj (by omega)) ?_;refine Z4 ?_;refine .p (gf (.t rfl) (.t rfl) (cG (by simp only[List.length_cons,List.length_nil];omega) (by simp only[List.length_cons,List.length_nil];omega))) ?_;refine .p (vR FU.out (.t rfl) (.t rfl) (by simp only[List.length_cons,List.length_nil];omega:_=(((Lib.indexByte l b).toNat+1:Nat):Int)) (by omega)) ?_;refine Z8 ?_;refine N8 ?_ ?_ ?_
  · exact ag.of_eq (by unfold tF;rw[if_pos c0])
  · exact ag.of_eq (by unfold tF;rw[if_pos c0])
  exact ag.prop (by unfold tF;rw[if_pos c0];simp)
 refine Z6 ?_;refine .p (dK (.s [] rfl rfl)) rfl ?_;refine Z4 ?_;refine N8 ?_ ?_ ?_
 · exact ag.of_eq (by unfold tF;rw[if_neg c0])
 · exact ag.of_eq (by unfold tF;rw[if_neg c0])
 exact ag.prop (by unfold tF;rw[if_neg c0];simp)
theorem Nn(aj:l≠[b]):cw Tryz.prog 202 [cW l,cW [b]] (aS [cW (tF l b).1,cW (tF l b).2.1,ak ((tF l b).2.2=true)]):=by
 refine In 13 Tryz.func202 fun _ _ _=>?_;refine Z2 ?_;refine .p (dK (.s [] rfl rfl)) rfl ?_;refine .p (dK (.s [] rfl rfl)) rfl ?_;refine Z7 ?_;refine .p (cA (h:=Kq aj)) rfl ?_;refine Z9 ?_;refine N8 ?_ ?_ ?_
 · exact ag.refl _
 · exact ag.refl _
 exact ag.refl _
theorem qV:cw Tryz.prog 329 [] (aK (Ju.flatMap jn)):=by
 refine In 2 Tryz.func329 fun _ _ _=>?_;refine Z2 ?_;refine .n (ay FZ.out) rfl fun b0 _=>?_;refine Z4 ?_;refine .p (dB (cs:=Ju.flatMap jn) FR.out FZ.out (.cons (.s [97,100,100] rfl rfl) (.cons (.s [115,117,98] rfl rfl) (.cons (.s [109,117,108] rfl rfl) (.cons (.s [100,105,118,95,115] rfl rfl) (.cons (.s [100,105,118,95,117] rfl rfl) (.cons (.s [114,101,109,95,115] rfl rfl) (.cons (.s [114,101,109,95,117] rfl rfl) (.cons (.s [97,110,100] rfl rfl) (.cons (.s [111,114] rfl rfl) (.cons (.s [120,111,114] rfl rfl) (.cons (.s [115,104,108] rfl rfl) (.cons (.s [115,104,114,95,115] rfl rfl) (.cons (.s [115,104,114,95,117] rfl rfl) (.cons (.s [114,111,116,108] rfl rfl) (.cons (.s [114,111,116,114] rfl rfl) .nil))))))))))))))) rfl) rfl ?_;refine Z4 ?_;refine Post.aO rfl () trivial (fun _ _ _ _=>trivial) (.ra (i:=0) FA.out FC.out rfl rfl rfl rfl) ?_;exact ag.refl _
theorem xL:cw Tryz.prog 330 [] (aK (zp.flatMap jn)):=by
 refine In 2 Tryz.func330 fun _ _ _=>?_;refine Z2 ?_;refine .n (ay FZ.out) rfl fun b0 _=>?_;refine Z4 ?_;refine .p (dB (cs:=zp.flatMap jn) FR.out FZ.out (.cons (.s [101,113] rfl rfl) (.cons (.s [110,101] rfl rfl) (.cons (.s [108,116,95,115] rfl rfl) (.cons (.s [108,116,95,117] rfl rfl) (.cons (.s [103,116,95,115] rfl rfl) (.cons (.s [103,116,95,117] rfl rfl) (.cons (.s [108,101,95,115] rfl rfl) (.cons (.s [108,101,95,117] rfl rfl) (.cons (.s [103,101,95,115] rfl rfl) (.cons (.s [103,101,95,117] rfl rfl) .nil)))))))))) rfl) rfl ?_;refine Z4 ?_;refine Post.aO rfl () trivial (fun _ _ _ _=>trivial) (.ra (i:=0) FA.out FC.out rfl rfl rfl rfl) ?_;exact ag.refl _
theorem kV:cw Tryz.prog 331 [] (aK (Om.flatMap jn)):=by
 refine In 2 Tryz.func331 fun _ _ _=>?_;refine Z2 ?_;refine .n (ay FZ.out) rfl fun b0 _=>?_;refine Z4 ?_;refine .p (dB (cs:=Om.flatMap jn) FR.out FZ.out (.cons (.s [99,108,122] rfl rfl) (.cons (.s [99,116,122] rfl rfl) (.cons (.s [112,111,112,99,110,116] rfl rfl) (.cons (.s [101,113,122] rfl rfl) .nil)))) rfl) rfl ?_;refine Z4 ?_;refine Post.aO rfl () trivial (fun _ _ _ _=>trivial) (.ra (i:=0) FA.out FC.out rfl rfl rfl rfl) ?_;exact ag.refl _
theorem Kr:cw Tryz.prog 256 [] (aK (gB.flatMap fC)):=by
 refine In 49 Tryz.func256 fun _ _ _=>?_;refine Z2 ?_;refine .n (ay FZ.out) rfl fun b0 _=>?_;refine Z4 ?_;refine .p (az FP.out FZ.out (.cons (.c _) (.cons (.s [117,110,114,101,97,99,104,97,98,108,101] rfl rfl) (.cons (.c _) (.cons (.s [] rfl rfl) (.cons (.s [] rfl rfl) .nil))))) rfl) rfl ?_;refine .p (az FP.out FZ.out (.cons (.c _) (.cons (.s [110,111,112] rfl rfl) (.cons (.c _) (.cons (.s [] rfl rfl) (.cons (.s [] rfl rfl) .nil))))) rfl) rfl ?_;refine .p (az FP.out FZ.out (.cons (.c _) (.cons (.s [98,108,111,99,107] rfl rfl) (.cons (.c _) (.cons (.s [] rfl rfl) (.cons (.s [] rfl rfl) .nil))))) rfl) rfl ?_;refine .p (az FP.out FZ.out (.cons (.c _) (.cons (.s [108,111,111,112] rfl rfl) (.cons (.c _) (.cons (.s [] rfl rfl) (.cons (.s [] rfl rfl) .nil))))) rfl) rfl ?_;refine .p (az FP.out FZ.out (.cons (.c _) (.cons (.s [105,102] rfl rfl) (.cons (.c _) (.cons (.s [] rfl rfl) (.cons (.s [] rfl rfl) .nil))))) rfl) rfl ?_;refine .p (az FP.out FZ.out (.cons (.c _) (.cons (.s [101,108,115,101] rfl rfl) (.cons (.c _) (.cons (.s [] rfl rfl) (.cons (.s [] rfl rfl) .nil))))) rfl) rfl ?_;refine .p (az FP.out FZ.out (.cons (.c _) (.cons (.s [101,110,100] rfl rfl) (.cons (.c _) (.cons (.s [] rfl rfl) (.cons (.s [] rfl rfl) .nil))))) rfl) rfl ?_;refine .p (az FP.out FZ.out (.cons (.c _) (.cons (.s [98,114] rfl rfl) (.cons (.c _) (.cons (.s [] rfl rfl) (.cons (.s [] rfl rfl) .nil))))) rfl) rfl ?_;refine .p (az FP.out FZ.out (.cons (.c _) (.cons (.s [98,114,95,105,102] rfl rfl) (.cons (.c _) (.cons (.s [] rfl rfl) (.cons (.s [] rfl rfl) .nil))))) rfl) rfl ?_;refine .p (az FP.out FZ.out (.cons (.c _) (.cons (.s [98,114,95,116,97,98,108,101] rfl rfl) (.cons (.c _) (.cons (.s [] rfl rfl) (.cons (.s [] rfl rfl) .nil))))) rfl) rfl ?_;refine .p (az FP.out FZ.out (.cons (.c _) (.cons (.s [114,101,116,117,114,110] rfl rfl) (.cons (.c _) (.cons (.s [] rfl rfl) (.cons (.s [] rfl rfl) .nil))))) rfl) rfl ?_;refine .p (az FP.out FZ.out (.cons (.c _) (.cons (.s [99,97,108,108] rfl rfl) (.cons (.c _) (.cons (.s [] rfl rfl) (.cons (.s [] rfl rfl) .nil))))) rfl) rfl ?_;refine .p (az FP.out FZ.out (.cons (.c _) (.cons (.s [99,97,108,108,95,105,110,100,105,114,101,99,116] rfl rfl) (.cons (.c _) (.cons (.s [] rfl rfl) (.cons (.s [] rfl rfl) .nil))))) rfl) rfl ?_;refine .p (az FP.out FZ.out (.cons (.c _) (.cons (.s [100,114,111,112] rfl rfl) (.cons (.c _) (.cons (.s [] rfl rfl) (.cons (.s [] rfl rfl) .nil))))) rfl) rfl ?_;refine .p (az FP.out FZ.out (.cons (.c _) (.cons (.s [115,101,108,101,99,116] rfl rfl) (.cons (.c _) (.cons (.s [] rfl rfl) (.cons (.s [] rfl rfl) .nil))))) rfl) rfl ?_;refine .p (az FP.out FZ.out (.cons (.c _) (.cons (.s [108,111,99,97,108,46,103,101,116] rfl rfl) (.cons (.c _) (.cons (.s [] rfl rfl) (.cons (.s [] rfl rfl) .nil))))) rfl) rfl ?_;refine .p (az FP.out FZ.out (.cons (.c _) (.cons (.s [108,111,99,97,108,46,115,101,116] rfl rfl) (.cons (.c _) (.cons (.s [] rfl rfl) (.cons (.s [] rfl rfl) .nil))))) rfl) rfl ?_;refine .p (az FP.out FZ.out (.cons (.c _) (.cons (.s [108,111,99,97,108,46,116,101,101] rfl rfl) (.cons (.c _) (.cons (.s [] rfl rfl) (.cons (.s [] rfl rfl) .nil))))) rfl) rfl ?_;refine .p (az FP.out FZ.out (.cons (.c _) (.cons (.s [103,108,111,98,97,108,46,103,101,116] rfl rfl) (.cons (.c _) (.cons (.s [] rfl rfl) (.cons (.s [] rfl rfl) .nil))))) rfl) rfl ?_;refine .p (az FP.out FZ.out (.cons (.c _) (.cons (.s [103,108,111,98,97,108,46,115,101,116] rfl rfl) (.cons (.c _) (.cons (.s [] rfl rfl) (.cons (.s [] rfl rfl) .nil))))) rfl) rfl ?_;refine .p (az FP.out FZ.out (.cons (.c _) (.cons (.s [105,51,50,46,108,111,97,100] rfl rfl) (.cons (.c _) (.cons (.s [105] rfl rfl) (.cons (.s [105] rfl rfl) .nil))))) rfl) rfl ?_;refine .p (az FP.out FZ.out (.cons (.c _) (.cons (.s [105,54,52,46,108,111,97,100] rfl rfl) (.cons (.c _) (.cons (.s [105] rfl rfl) (.cons (.s [108] rfl rfl) .nil))))) rfl) rfl ?_;refine .p (az FP.out FZ.out (.cons (.c _) (.cons (.s [105,51,50,46,108,111,97,100,56,95,115] rfl rfl) (.cons (.c _) (.cons (.s [105] rfl rfl) (.cons (.s [105] rfl rfl) .nil))))) rfl) rfl ?_;refine .p (az FP.out FZ.out (.cons (.c _) (.cons (.s [105,51,50,46,108,111,97,100,56,95,117] rfl rfl) (.cons (.c _) (.cons (.s [105] rfl rfl) (.cons (.s [105] rfl rfl) .nil))))) rfl) rfl ?_;refine .p (az FP.out FZ.out (.cons (.c _) (.cons (.s [105,51,50,46,108,111,97,100,49,54,95,115] rfl rfl) (.cons (.c _) (.cons (.s [105] rfl rfl) (.cons (.s [105] rfl rfl) .nil))))) rfl) rfl ?_;refine .p (az FP.out FZ.out (.cons (.c _) (.cons (.s [105,51,50,46,108,111,97,100,49,54,95,117] rfl rfl) (.cons (.c _) (.cons (.s [105] rfl rfl) (.cons (.s [105] rfl rfl) .nil))))) rfl) rfl ?_;refine .p (az FP.out FZ.out (.cons (.c _) (.cons (.s [105,54,52,46,108,111,97,100,56,95,115] rfl rfl) (.cons (.c _) (.cons (.s [105] rfl rfl) (.cons (.s [108] rfl rfl) .nil))))) rfl) rfl ?_;refine .p (az FP.out FZ.out (.cons (.c _) (.cons (.s [105,54,52,46,108,111,97,100,56,95,117] rfl rfl) (.cons (.c _) (.cons (.s [105] rfl rfl) (.cons (.s [108] rfl rfl) .nil))))) rfl) rfl ?_;refine .p (az FP.out FZ.out (.cons (.c _) (.cons (.s [105,54,52,46,108,111,97,100,49,54,95,115] rfl rfl) (.cons (.c _) (.cons (.s [105] rfl rfl) (.cons (.s [108] rfl rfl) .nil))))) rfl) rfl ?_;refine .p (az FP.out FZ.out (.cons (.c _) (.cons (.s [105,54,52,46,108,111,97,100,49,54,95,117] rfl rfl) (.cons (.c _) (.cons (.s [105] rfl rfl) (.cons (.s [108] rfl rfl) .nil))))) rfl) rfl ?_;refine .p (az FP.out FZ.out (.cons (.c _) (.cons (.s [105,54,52,46,108,111,97,100,51,50,95,115] rfl rfl) (.cons (.c _) (.cons (.s [105] rfl rfl) (.cons (.s [108] rfl rfl) .nil))))) rfl) rfl ?_;refine .p (az FP.out FZ.out (.cons (.c _) (.cons (.s [105,54,52,46,108,111,97,100,51,50,95,117] rfl rfl) (.cons (.c _) (.cons (.s [105] rfl rfl) (.cons (.s [108] rfl rfl) .nil))))) rfl) rfl ?_;refine .p (az FP.out FZ.out (.cons (.c _) (.cons (.s [105,51,50,46,115,116,111,114,101] rfl rfl) (.cons (.c _) (.cons (.s [105,105] rfl rfl) (.cons (.s [] rfl rfl) .nil))))) rfl) rfl ?_;refine .p (az FP.out FZ.out (.cons (.c _) (.cons (.s [105,54,52,46,115,116,111,114,101] rfl rfl) (.cons (.c _) (.cons (.s [105,108] rfl rfl) (.cons (.s [] rfl rfl) .nil))))) rfl) rfl ?_;refine .p (az FP.out FZ.out (.cons (.c _) (.cons (.s [105,51,50,46,115,116,111,114,101,56] rfl rfl) (.cons (.c _) (.cons (.s [105,105] rfl rfl) (.cons (.s [] rfl rfl) .nil))))) rfl) rfl ?_;refine .p (az FP.out FZ.out (.cons (.c _) (.cons (.s [105,51,50,46,115,116,111,114,101,49,54] rfl rfl) (.cons (.c _) (.cons (.s [105,105] rfl rfl) (.cons (.s [] rfl rfl) .nil))))) rfl) rfl ?_;refine .p (az FP.out FZ.out (.cons (.c _) (.cons (.s [105,54,52,46,115,116,111,114,101,56] rfl rfl) (.cons (.c _) (.cons (.s [105,108] rfl rfl) (.cons (.s [] rfl rfl) .nil))))) rfl) rfl ?_;refine .p (az FP.out FZ.out (.cons (.c _) (.cons (.s [105,54,52,46,115,116,111,114,101,49,54] rfl rfl) (.cons (.c _) (.cons (.s [105,108] rfl rfl) (.cons (.s [] rfl rfl) .nil))))) rfl) rfl ?_;refine .p (az FP.out FZ.out (.cons (.c _) (.cons (.s [105,54,52,46,115,116,111,114,101,51,50] rfl rfl) (.cons (.c _) (.cons (.s [105,108] rfl rfl) (.cons (.s [] rfl rfl) .nil))))) rfl) rfl ?_;refine .p (az FP.out FZ.out (.cons (.c _) (.cons (.s [109,101,109,111,114,121,46,115,105,122,101] rfl rfl) (.cons (.c _) (.cons (.s [] rfl rfl) (.cons (.s [105] rfl rfl) .nil))))) rfl) rfl ?_;refine .p (az FP.out FZ.out (.cons (.c _) (.cons (.s [109,101,109,111,114,121,46,103,114,111,119] rfl rfl) (.cons (.c _) (.cons (.s [105] rfl rfl) (.cons (.s [105] rfl rfl) .nil))))) rfl) rfl ?_;refine .p (az FP.out FZ.out (.cons (.c _) (.cons (.s [105,51,50,46,99,111,110,115,116] rfl rfl) (.cons (.c _) (.cons (.s [] rfl rfl) (.cons (.s [105] rfl rfl) .nil))))) rfl) rfl ?_;refine .p (az FP.out FZ.out (.cons (.c _) (.cons (.s [105,54,52,46,99,111,110,115,116] rfl rfl) (.cons (.c _) (.cons (.s [] rfl rfl) (.cons (.s [108] rfl rfl) .nil))))) rfl) rfl ?_;refine .p (az FP.out FZ.out (.cons (.c _) (.cons (.s [105,51,50,46,119,114,97,112,95,105,54,52] rfl rfl) (.cons (.c _) (.cons (.s [108] rfl rfl) (.cons (.s [105] rfl rfl) .nil))))) rfl) rfl ?_;refine .p (az FP.out FZ.out (.cons (.c _) (.cons (.s [105,54,52,46,101,120,116,101,110,100,95,105,51,50,95,115] rfl rfl) (.cons (.c _) (.cons (.s [105] rfl rfl) (.cons (.s [108] rfl rfl) .nil))))) rfl) rfl ?_;refine .p (az FP.out FZ.out (.cons (.c _) (.cons (.s [105,54,52,46,101,120,116,101,110,100,95,105,51,50,95,117] rfl rfl) (.cons (.c _) (.cons (.s [105] rfl rfl) (.cons (.s [108] rfl rfl) .nil))))) rfl) rfl ?_;refine .p (az FP.out FZ.out (.cons (.c _) (.cons (.s [105,51,50,46,101,120,116,101,110,100,56,95,115] rfl rfl) (.cons (.c _) (.cons (.s [105] rfl rfl) (.cons (.s [105] rfl rfl) .nil))))) rfl) rfl ?_;refine .p (dB (cs:=gB.flatMap fC) FR.out FZ.out (.cons (.t rfl) (.cons (.t rfl) (.cons (.t rfl) (.cons (.t rfl) (.cons (.t rfl) (.cons (.t rfl) (.cons (.t rfl) (.cons (.t rfl) (.cons (.t rfl) (.cons (.t rfl) (.cons (.t rfl) (.cons (.t rfl) (.cons (.t rfl) (.cons (.t rfl) (.cons (.t rfl) (.cons (.t rfl) (.cons (.t rfl) (.cons (.t rfl) (.cons (.t rfl) (.cons (.t rfl) (.cons (.t rfl) (.cons (.t rfl) (.cons (.t rfl) (.cons (.t rfl) (.cons (.t rfl) (.cons (.t rfl) (.cons (.t rfl) (.cons (.t rfl) (.cons (.t rfl) (.cons (.t rfl) (.cons (.t rfl) (.cons (.t rfl) (.cons (.t rfl) (.cons (.t rfl) (.cons (.t rfl) (.cons (.t rfl) (.cons (.t rfl) (.cons (.t rfl) (.cons (.t rfl) (.cons (.t rfl) (.cons (.t rfl) (.cons (.t rfl) (.cons (.t rfl) (.cons (.t rfl) (.cons (.t rfl) (.cons (.t rfl) (.cons (.t rfl) .nil))))))))))))))))))))))))))))))))))))))))))))))) rfl) rfl ?_;refine Z4 ?_;refine Post.aO rfl () trivial (fun _ _ _ _=>trivial) (.ra (i:=0) FA.out FC.out rfl rfl rfl rfl) ?_;exact ag.refl _
theorem Ks:cw Tryz.prog 257 [] (aK (iw.flatMap fC)):=by
 refine In 8 Tryz.func257 fun _ _ _=>?_;refine Z2 ?_;refine .n (ay FZ.out) rfl fun b0 _=>?_;refine Z4 ?_;refine .p (az FP.out FZ.out (.cons (.c _) (.cons (.s [105,51,50,46,101,120,116,101,110,100,49,54,95,115] rfl rfl) (.cons (.c _) (.cons (.s [105] rfl rfl) (.cons (.s [105] rfl rfl) .nil))))) rfl) rfl ?_;refine .p (az FP.out FZ.out (.cons (.c _) (.cons (.s [105,54,52,46,101,120,116,101,110,100,56,95,115] rfl rfl) (.cons (.c _) (.cons (.s [108] rfl rfl) (.cons (.s [108] rfl rfl) .nil))))) rfl) rfl ?_;refine .p (az FP.out FZ.out (.cons (.c _) (.cons (.s [105,54,52,46,101,120,116,101,110,100,49,54,95,115] rfl rfl) (.cons (.c _) (.cons (.s [108] rfl rfl) (.cons (.s [108] rfl rfl) .nil))))) rfl) rfl ?_;refine .p (az FP.out FZ.out (.cons (.c _) (.cons (.s [105,54,52,46,101,120,116,101,110,100,51,50,95,115] rfl rfl) (.cons (.c _) (.cons (.s [108] rfl rfl) (.cons (.s [108] rfl rfl) .nil))))) rfl) rfl ?_;refine .p (az FP.out FZ.out (.cons (.c _) (.cons (.s [109,101,109,111,114,121,46,99,111,112,121] rfl rfl) (.cons (.c _) (.cons (.s [105,105,105] rfl rfl) (.cons (.s [] rfl rfl) .nil))))) rfl) rfl ?_;refine .p (az FP.out FZ.out (.cons (.c _) (.cons (.s [109,101,109,111,114,121,46,102,105,108,108] rfl rfl) (.cons (.c _) (.cons (.s [105,105,105] rfl rfl) (.cons (.s [] rfl rfl) .nil))))) rfl) rfl ?_;refine .p (dB (cs:=iw.flatMap fC) FR.out FZ.out (.cons (.t rfl) (.cons (.t rfl) (.cons (.t rfl) (.cons (.t rfl) (.cons (.t rfl) (.cons (.t rfl) .nil)))))) rfl) rfl ?_;refine Z4 ?_;refine Post.aO rfl () trivial (fun _ _ _ _=>trivial) (.ra (i:=0) FA.out FC.out rfl rfl rfl rfl) ?_;exact ag.refl _
theorem Gz:cw Tryz.prog 268 [] (aK (fD.flatMap qo)):=by
 refine In 10 Tryz.func268 fun _ _ _=>?_;refine Z2 ?_;refine .n (ay FZ.out) rfl fun b0 _=>?_;refine fW ?_;refine .p (dB (cs:=fD.flatMap qo) FR.out FZ.out (.cons (.t rfl) (.cons (.t rfl) (.cons (.t rfl) (.cons (.t rfl) (.cons (.t rfl) (.cons (.t rfl) (.cons (.t rfl) (.cons (.t rfl) .nil)))))))) rfl) rfl ?_;refine Z4 ?_;refine Post.aO rfl () trivial (fun _ _ _ _=>trivial) (.ra (i:=0) FA.out FC.out rfl rfl rfl rfl) ?_;exact ag.refl _
variable {code:Int}
theorem s6:cw Tryz.prog 213 [aa .i64 code] (aS [aa .i64 ((kS code).getD (0,0,0)).1,aa .i64 ((kS code).getD (0,0,0)).2.1,aa .i64 ((kS code).getD (0,0,0)).2.2,ak (kS code).isSome]):=by
 refine In 37 Tryz.func213 fun _ _ _=>?_;refine ek ?_;refine .p (cA (h:=Gz)) rfl ?_;refine Z4 ?_;refine .bP (σ:=Nat) (fun _=>[]) (fun k=>[(9,aa .i64 (k:Int))]) (fun k=>k≤fD.length∧fc (fun s=>mT code s=true) fD k) (fun k=>fD.length-k) 0 ⟨by omega,fc.zero _ _⟩ rfl ?_ ?_
 · exact(.get rfl (ag.refl _) (.refl _ _))
 rintro k ⟨hk,hn⟩;refine Z6 ?_;refine Cd (fun c0=>?_) fun c0=>?_
 ·
  have DT:k<fD.length:=by have:fD.length=8:=rfl;omega
  obtain⟨x,EE⟩:=ah (xs:=fD) (k:=k) DT;have hb:=LS x (List.mem_of_getElem? EE);refine Z6 ?_;refine .p (sn fD FU.out FC.out rfl FA.out (.t rfl) rfl rfl (.t rfl) rfl (by assumption)) rfl ?_;refine .n (ay FZ.out) rfl fun b7 _=>?_;refine Z3 ?_;refine .share (t:=7) (i:=0) rfl rfl ?_;refine EA ?_;refine Cd (fun c1=>?_) fun c1=>?_
  ·
   have hno:=Oo EE (by simpa[mT] using c1) hn;refine Z1 ?_;refine .bz 13 2 FM.out (by kernel_rfl) (k:= ?_);refine Z24 ?_;refine Rt4 ?_ ?_ ?_ ?_
   · exact ag.int (by rw[hno];rfl)
   · exact ag.int (by rw[hno];rfl)
   · exact ag.int (by rw[hno];rfl)
   exact ag.prop (by rw[hno];simp)
  refine Z7 ?_;refine .round (k+1) ⟨by omega,hn.succ EE (by simpa[mT] using c1)⟩ (by omega) rfl ?_;exact(.get rfl (ag.int (by omega)) (.keep 20 rfl rfl))
 have QE:k=fD.length:=by have:fD.length=8:=rfl;omega
 subst QE;refine j4 ?_;refine Rt4 ?_ ?_ ?_ ?_
 · exact ag.int (by rw[qp hn];rfl)
 · exact ag.int (by rw[qp hn];rfl)
 · exact ag.int (by rw[qp hn];rfl)
 exact ag.prop (by rw[qp hn];simp)
theorem yA:cw Tryz.prog 258 [aa .i64 code] (aS [aK (fC ((fF code).getD PX)),ak (fF code).isSome]):=by
 refine In 69 Tryz.func258 fun _ _ _=>?_;refine Z2 ?_;refine .n (ay FZ.out) rfl fun b2 _=>?_;refine Z6 ?_;refine .p (cA (h:=s6)) rfl ?_;refine E7 ?_;refine Cd (fun c0=>?_) fun c0=>?_
 ·
  have hno:kS code=none:=by simpa using c0
  have hnm:=x8 hno;refine Z9 ?_;refine Post.bY rfl rfl () trivial (fun _ _ _ _=>trivial) rfl (.cons (.ra (i:=0) FA.out FC.out rfl rfl rfl rfl) ?_ (.cons (.rt rfl) ?_ .nil))
  · simp only[hnm,Option.getD_none];exact ag.agg (.cons (ag.refl _) (.cons oM (.cons (ag.refl _) (.cons oM (.cons oM .nil)))))
  exact ag.prop (by rw[hnm];simp)
 obtain⟨⟨g,n,b⟩,hno⟩:=Option.isSome_iff_exists.1 (Classical.not_not.1 c0);obtain⟨hn0,hng,hnb⟩:=uC hno;have hnm:=x7 hno;simp only[hno,Option.getD_some];have vM:=Cv b;have hlb:=sJ Cw n.toNat;have hlt:=sJ zu n.toNat;have hlu:=sJ AA n.toNat;refine Z4 ?_;refine .p (dK (.s [105,51,50,46] rfl rfl)) rfl ?_;refine .p (dK (.s [105] rfl rfl)) rfl ?_;refine Z9 ?_;refine Cd (fun c1=>?_) fun c1=>?_
 ·
  refine Z1 ?_;refine .p (dK (.s [105,54,52,46] rfl rfl)) rfl ?_;refine .p (dK (.s [108] rfl rfl)) rfl ?_;refine ek ?_;refine Cd (fun c2=>?_) fun c2=>?_
  ·
   refine Z4 ?_;refine .p (cA (h:=qV)) rfl ?_;refine Z1 ?_;refine .p (dW FU.out FC.out FA.out (.t rfl) rfl (.t rfl) (by omega:_=((n.toNat:Nat):Int)) (kU (by have:Ju.length=15:=rfl;omega))) rfl ?_;refine .p (oo (.t rfl) (.t rfl) (by simp only[List.length_cons,List.length_nil];omega)) rfl ?_;refine Z2 ?_;refine .p (oo (.t rfl) (.t rfl) (by simp only[List.length_cons,List.length_nil];omega)) rfl ?_;refine Z9 ?_;refine Post.bY rfl rfl () trivial (fun _ _ _ _=>trivial) rfl (.cons (.ra (i:=0) FA.out FC.out rfl rfl rfl rfl) ?_ (.cons (.rt rfl) ?_ .nil))
   · simp only[hnm,Option.getD_some];exact ag.of_eq (by simp[jI,fC,kI,lY, *];try rfl)
   exact ag.prop (by rw[hnm];simp)
  refine Z7 ?_;refine Cd (fun c3=>?_) fun c3=>?_
  ·
   refine Z4 ?_;refine .p (cA (h:=xL)) rfl ?_;refine Z1 ?_;refine .p (dW FU.out FC.out FA.out (.t rfl) rfl (.t rfl) (by omega:_=((n.toNat:Nat):Int)) (kU (by have:zp.length=10:=rfl;omega))) rfl ?_;refine .p (oo (.t rfl) (.t rfl) (by simp only[List.length_cons,List.length_nil];omega)) rfl ?_;refine Z2 ?_;refine .p (oo (.t rfl) (.t rfl) (by simp only[List.length_cons,List.length_nil];omega)) rfl ?_;refine .p (az FP.out FZ.out (.cons (.t rfl) (.cons (.t rfl) (.cons (.c _) (.cons (.t rfl) (.cons (.s [105] rfl rfl) .nil))))) rfl) rfl ?_;refine Z7 ?_;refine Post.bY rfl rfl () trivial (fun _ _ _ _=>trivial) rfl (.cons (.ra (i:=0) FA.out FC.out rfl rfl rfl rfl) ?_ (.cons (.rt rfl) ?_ .nil))
   · simp only[hnm,Option.getD_some];exact ag.of_eq (by simp[jI,fC,kI,lY, *];try rfl)
   exact ag.prop (by rw[hnm];simp)
  refine Z7 ?_;refine Cd (fun c4=>?_) fun c4=>?_
  ·
   refine Z4 ?_;refine .p (cA (h:=kV)) rfl ?_;refine Z1 ?_;refine .p (dW FU.out FC.out FA.out (.t rfl) rfl (.t rfl) (by omega:_=((n.toNat:Nat):Int)) (kU (by have:Om.length=4:=rfl;omega))) rfl ?_;refine .p (oo (.t rfl) (.t rfl) (by simp only[List.length_cons,List.length_nil];omega)) rfl ?_;refine Z1 ?_;refine .p (az FP.out FZ.out (.cons (.t rfl) (.cons (.t rfl) (.cons (.c _) (.cons (.t rfl) (.cons (.s [105] rfl rfl) .nil))))) rfl) rfl ?_;refine Z7 ?_;refine Post.bY rfl rfl () trivial (fun _ _ _ _=>trivial) rfl (.cons (.ra (i:=0) FA.out FC.out rfl rfl rfl rfl) ?_ (.cons (.rt rfl) ?_ .nil))
   · simp only[hnm,Option.getD_some];exact ag.of_eq (by simp[jI,fC,kI,lY, *];try rfl)
   exact ag.prop (by rw[hnm];simp)
  refine Z7 ?_;refine .p (cA (h:=kV)) rfl ?_;refine Z1 ?_;refine .p (dW FU.out FC.out FA.out (.t rfl) rfl (.t rfl) (by omega:_=((n.toNat:Nat):Int)) (kU (by have:Om.length=4:=rfl;omega))) rfl ?_;refine .p (oo (.t rfl) (.t rfl) (by simp only[List.length_cons,List.length_nil];omega)) rfl ?_;refine Z8 ?_;refine Post.bY rfl rfl () trivial (fun _ _ _ _=>trivial) rfl (.cons (.ra (i:=0) FA.out FC.out rfl rfl rfl rfl) ?_ (.cons (.rt rfl) ?_ .nil))
  · simp only[hnm,Option.getD_some];exact ag.of_eq (by simp[jI,fC,kI,lY, *];try rfl)
  exact ag.prop (by rw[hnm];simp)
 refine ek ?_;refine Cd (fun c5=>?_) fun c5=>?_
 ·
  refine Z4 ?_;refine .p (cA (h:=qV)) rfl ?_;refine Z1 ?_;refine .p (dW FU.out FC.out FA.out (.t rfl) rfl (.t rfl) (by omega:_=((n.toNat:Nat):Int)) (kU (by have:Ju.length=15:=rfl;omega))) rfl ?_;refine .p (oo (.t rfl) (.t rfl) (by simp only[List.length_cons,List.length_nil];omega)) rfl ?_;refine Z2 ?_;refine .p (oo (.t rfl) (.t rfl) (by simp only[List.length_cons,List.length_nil];omega)) rfl ?_;refine Z9 ?_;refine Post.bY rfl rfl () trivial (fun _ _ _ _=>trivial) rfl (.cons (.ra (i:=0) FA.out FC.out rfl rfl rfl rfl) ?_ (.cons (.rt rfl) ?_ .nil))
  · simp only[hnm,Option.getD_some];exact ag.of_eq (by simp[jI,fC,kI,lY, *];try rfl)
  exact ag.prop (by rw[hnm];simp)
 refine Z7 ?_;refine Cd (fun c6=>?_) fun c6=>?_
 ·
  refine Z4 ?_;refine .p (cA (h:=xL)) rfl ?_;refine Z1 ?_;refine .p (dW FU.out FC.out FA.out (.t rfl) rfl (.t rfl) (by omega:_=((n.toNat:Nat):Int)) (kU (by have:zp.length=10:=rfl;omega))) rfl ?_;refine .p (oo (.t rfl) (.t rfl) (by simp only[List.length_cons,List.length_nil];omega)) rfl ?_;refine Z2 ?_;refine .p (oo (.t rfl) (.t rfl) (by simp only[List.length_cons,List.length_nil];omega)) rfl ?_;refine .p (az FP.out FZ.out (.cons (.t rfl) (.cons (.t rfl) (.cons (.c _) (.cons (.t rfl) (.cons (.s [105] rfl rfl) .nil))))) rfl) rfl ?_;refine Z7 ?_;refine Post.bY rfl rfl () trivial (fun _ _ _ _=>trivial) rfl (.cons (.ra (i:=0) FA.out FC.out rfl rfl rfl rfl) ?_ (.cons (.rt rfl) ?_ .nil))
  · simp only[hnm,Option.getD_some];exact ag.of_eq (by simp[jI,fC,kI,lY, *];try rfl)
  exact ag.prop (by rw[hnm];simp)
 refine Z7 ?_;refine Cd (fun c7=>?_) fun c7=>?_
 ·
  refine Z4 ?_;refine .p (cA (h:=kV)) rfl ?_;refine Z1 ?_;refine .p (dW FU.out FC.out FA.out (.t rfl) rfl (.t rfl) (by omega:_=((n.toNat:Nat):Int)) (kU (by have:Om.length=4:=rfl;omega))) rfl ?_;refine .p (oo (.t rfl) (.t rfl) (by simp only[List.length_cons,List.length_nil];omega)) rfl ?_;refine Z1 ?_;refine .p (az FP.out FZ.out (.cons (.t rfl) (.cons (.t rfl) (.cons (.c _) (.cons (.t rfl) (.cons (.s [105] rfl rfl) .nil))))) rfl) rfl ?_;refine Z7 ?_;refine Post.bY rfl rfl () trivial (fun _ _ _ _=>trivial) rfl (.cons (.ra (i:=0) FA.out FC.out rfl rfl rfl rfl) ?_ (.cons (.rt rfl) ?_ .nil))
  · simp only[hnm,Option.getD_some];exact ag.of_eq (by simp[jI,fC,kI,lY, *];try rfl)
  exact ag.prop (by rw[hnm];simp)
 refine Z7 ?_;refine .p (cA (h:=kV)) rfl ?_;refine Z1 ?_;refine .p (dW FU.out FC.out FA.out (.t rfl) rfl (.t rfl) (by omega:_=((n.toNat:Nat):Int)) (kU (by have:Om.length=4:=rfl;omega))) rfl ?_;refine .p (oo (.t rfl) (.t rfl) (by simp only[List.length_cons,List.length_nil];omega)) rfl ?_;refine Z8 ?_;refine Post.bY rfl rfl () trivial (fun _ _ _ _=>trivial) rfl (.cons (.ra (i:=0) FA.out FC.out rfl rfl rfl rfl) ?_ (.cons (.rt rfl) ?_ .nil))
 · simp only[hnm,Option.getD_some];exact ag.of_eq (by simp[jI,fC,kI,lY, *];try rfl)
 exact ag.prop (by rw[hnm];simp)
theorem IM:cw Tryz.prog 200 [aa .i64 code] (aS [aK (fC ((qD code).getD PX)),ak (qD code).isSome]):=by
 refine In 32 Tryz.func200 fun _ _ _=>?_;refine Z2 ?_;refine .n (ay FZ.out) rfl fun b2 _=>?_;refine Z6 ?_;refine .p (cA (h:=Kr)) rfl ?_;refine Z4 ?_;refine .bP (σ:=Nat) (fun _=>_) (fun k=>[(9,aa .i64 (k:Int))]) (fun k=>k≤gB.length∧fc (fun r:lJ=>r.code=code) gB k) (fun k=>gB.length-k) 0 ⟨by omega,fc.zero _ _⟩ rfl ?_ ?_
 · exact(.get rfl (ag.refl _) (.refl _ _))
 rintro k ⟨hk,hn⟩;refine Z6 ?_;refine Cd (fun c0=>?_) fun c0=>?_
 ·
  have DT:k<gB.length:=by have:gB.length=47:=rfl;omega
  obtain⟨x,EE⟩:=ah (xs:=gB) (k:=k) DT;refine Z6 ?_;refine .p (sn gB FU.out FC.out rfl FA.out (.t rfl) rfl rfl (.t rfl) rfl (by assumption)) rfl ?_;refine .n (ay FZ.out) rfl fun b5 _=>?_;refine Z3 ?_;refine .share (t:=5) (i:=0) rfl rfl ?_;refine Z8 ?_;refine Cd (fun c1=>?_) fun c1=>?_
  ·
   have hro:=Rg EE c1 hn;refine jz ?_;refine Post.bY rfl rfl () trivial (fun _ _ _ _=>trivial) rfl (.cons (.ra (i:=0) FA.out FC.out rfl rfl rfl rfl) ?_ (.cons (.rt rfl) ?_ .nil))
   · rw[hro];exact ag.refl _
   exact ag.prop (by rw[hro];simp)
  refine Z7 ?_;refine .round (k+1) ⟨by omega,hn.succ EE c1⟩ (by omega) rfl ?_;exact(.get rfl (ag.int (by omega)) (.keep 11 rfl rfl))
 have QE:k=gB.length:=by have:gB.length=47:=rfl;omega
 subst QE;refine Z8 ?_;refine .p (cA (h:=Ks)) rfl ?_;refine Z4 ?_;refine .bP (σ:=Nat) (fun _=>_) (fun j=>[(19,aa .i64 (j:Int))]) (fun j=>j≤iw.length∧fc (fun r:lJ=>r.code=code) iw j) (fun j=>iw.length-j) 0 ⟨by omega,fc.zero _ _⟩ rfl ?_ ?_
 · exact(.get rfl (ag.refl _) (.refl _ _))
 rintro j ⟨hj,hm⟩;refine Z6 ?_;refine Cd (fun c2=>?_) fun c2=>?_
 ·
  have Y7:j<iw.length:=by have:iw.length=6:=rfl;omega
  obtain⟨y,hxj⟩:=ah (xs:=iw) (k:=j) Y7;refine Z6 ?_;refine .p (sn iw FU.out FC.out rfl FA.out (.t rfl) rfl rfl (.t rfl) rfl (by assumption)) rfl ?_;refine .n (ay FZ.out) rfl fun b7 _=>?_;refine Z3 ?_;refine .share (t:=7) (i:=0) rfl rfl ?_;refine Z8 ?_;refine Cd (fun c3=>?_) fun c3=>?_
  ·
   have hro:=Rh hn hxj c3 hm;refine jz ?_;refine Post.bY rfl rfl () trivial (fun _ _ _ _=>trivial) rfl (.cons (.ra (i:=0) FA.out FC.out rfl rfl rfl rfl) ?_ (.cons (.rt rfl) ?_ .nil))
   · rw[hro];exact ag.refl _
   exact ag.prop (by rw[hro];simp)
  refine Z7 ?_;refine .round (j+1) ⟨by omega,hm.succ hxj c3⟩ (by omega) rfl ?_;exact(.get rfl (ag.int (by omega)) (.keep 11 rfl rfl))
 have hej:j=iw.length:=by have:iw.length=6:=rfl;omega
 subst hej;refine Z8 ?_;refine .p (cA (h:=yA)) rfl ?_;refine Z7 ?_;refine Post.bY rfl rfl () trivial (fun _ _ _ _=>trivial) rfl (.cons (.ra (i:=0) FA.out FC.out rfl rfl rfl rfl) ?_ (.cons (.rt rfl) ?_ .nil))
 · rw[LU hn hm];exact ag.refl _
 exact ag.prop (by rw[LU hn hm])
theorem rT(aj:ou l)(aQ:l.length≤65536):cw Tryz.prog 259 [cW l] (an 1 aL (fE l)):=by
 refine In 20 Tryz.func259 fun _ _ _=>?_;refine j4 ?_;refine .n (B4 FU.out (.t rfl)) rfl fun b7 _=>?_;refine Z3 ?_;refine .iO 1 aL ?_;refine .bP (σ:=Nat×SB) (fun s=>[aI s.2 1 aL (fE (l.take s.1)),vP b7 l s.1]) (fun s=>[(3,af (bA s.2 (fE (l.take s.1)).length))]) (fun s=>s.1≤l.length) (fun s=>l.length-s.1) (0,none) (by simp) (by simp[fE]) ?_ ?_
 · exact(.get rfl (ag.of_eq (by simp[bA])) (.refl _ _))
 rintro s hk;have htl:=wF (l.take s.1);have Uh:(l.take s.1).length≤l.length:=by simp;omega
 refine Z2 ?_;refine .n (Hw (i:=1) aj (by omega) (.t rfl) rfl) rfl fun _ _=>?_;refine .p (Hx (.t rfl)) rfl ?_;refine Z3 ?_;refine Cd (fun c0=>?_) fun c0=>?_
 ·
  obtain⟨x,hx⟩:=ah (xs:=l) (k:=s.1) c0;rw[show min (s.1+1) l.length=s.1+1 by omega];refine Z5 ?_;refine .p (Hy (by assumption) (.t rfl)) rfl ?_;refine Z9 ?_;refine Cd (fun c1=>?_) fun c1=>?_
  ·
   refine Z2 ?_;refine .p (cB aL [126]) rfl ?_;refine .n (bn (i:=0) FU.out FU.out FC.out rfl FZ.out rfl FY.out (.t rfl) (.t rfl) rfl (by first|omega|(simp<;>omega)) (by first|omega|(simp<;>omega))) rfl fun uc _=>?_;refine Z3 ?_;refine .round (s.1+1,(by first|exact uc|exact yt)) (by omega) (by omega) (by first|(rw[j7 hx c1];rfl)|(rw[j8 hx c1];rfl)) ?_
   first|exact(.get rfl (ag.of_eq (by rw[j7 hx c1])) (.keep 11 rfl rfl))|exact(.get rfl (ag.of_eq (by rw[j8 hx c1])) (.keep 11 rfl rfl))
  refine Z2 ?_;refine .p (cB aL [127]) rfl ?_;refine .n (bn (i:=0) FU.out FU.out FC.out rfl FZ.out rfl FY.out (.t rfl) (.t rfl) rfl (by first|omega|(simp<;>omega)) (by first|omega|(simp<;>omega))) rfl fun yt _=>?_;refine Z3 ?_;refine .round (s.1+1,(by first|exact uc|exact yt)) (by omega) (by omega) (by first|(rw[j7 hx c1];rfl)|(rw[j8 hx c1];rfl)) ?_
  first|exact(.get rfl (ag.of_eq (by rw[j7 hx c1])) (.keep 11 rfl rfl))|exact(.get rfl (ag.of_eq (by rw[j8 hx c1])) (.keep 11 rfl rfl))
 have hall:l.take s.1=l:=List.take_of_length_le (by omega);rw[hall];refine .gJ (n:=1) (enc:=aL) (i:=0) (t:=3) rfl rfl ?_;refine fW ?_;refine aX ?_;exact ag.refl _
theorem Kt{r:lJ}(aj:Ct r):cw Tryz.prog 201 [aK (fC r)] (aK (qn (ry r))):=by
 refine In 16 Tryz.func201 fun _ _ _=>?_;refine Z3 ?_;refine .n (ay FZ.out) rfl fun b2 _=>?_;refine Z3 ?_;refine .bz 12 2 FM.out (by kernel_rfl) (k:= ?_);refine Z8 ?_;refine .p (cA (h:=rT aj.1 (by have:=aj.2.2.1;omega))) ?_;refine Z2 ?_;refine .p (cA (h:=rT aj.2.1 (by have:=aj.2.2.2;omega))) ?_;refine Z6 ?_;refine Post.aO rfl () trivial (fun _ _ _ _=>trivial) (.ra (i:=0) FA.out FC.out rfl rfl rfl rfl) ?_;exact ag.refl _
theorem find_spec:cw Tryz.prog 146 [aa .i64 code] (aS [aK (qn ((dy code).getD LR)),ak (dy code).isSome]):=by
 refine In 16 Tryz.func146 fun _ _ _=>?_;refine Z2 ?_;refine .n (ay FZ.out) rfl fun b2 _=>?_;refine Z6 ?_;refine .p (cA (h:=IM)) rfl ?_;refine Z3 ?_;refine .n (ay FZ.out) rfl fun b4 _=>?_;refine Z4 ?_;refine .share (t:=4) (i:=0) rfl rfl ?_;refine Z7 ?_;refine Cd (fun c0=>?_) fun c0=>?_
 ·
  have hro:qD code=none:=by simpa using c0
  have qN:dy code=none:=by unfold dy;rw[hro];rfl
  refine Z9 ?_;refine Post.bY rfl rfl () trivial (fun _ _ _ _=>trivial) rfl (.cons (.ra (i:=0) FA.out FC.out rfl rfl rfl rfl) ?_ (.cons (.rt rfl) ?_ .nil))
  · rw[qN];exact ag.agg (.cons (ag.refl _) (.cons oM (.cons (ag.refl _) (.cons (aN _ _) (.cons (aN _ _) .nil)))))
  exact ag.prop (by rw[qN];simp)
 obtain⟨r,hro⟩:=Option.isSome_iff_exists.1 (Classical.not_not.1 c0);have qN:dy code=some (ry r):=by unfold dy;rw[hro];rfl
 have hok:=HY hro;simp only[hro,Option.getD_some];refine Z5 ?_;refine .p (cA (h:=Kt hok)) rfl ?_;refine Z5 ?_;refine Post.bY rfl rfl () trivial (fun _ _ _ _=>trivial) rfl (.cons (.ra (i:=0) FA.out FC.out rfl rfl rfl rfl) ?_ (.cons (.rt rfl) ?_ .nil))
 · rw[qN];exact ag.refl _
 exact ag.prop (by rw[qN];simp)
theorem GA:cw Tryz.prog 148 [aa .i64 code] (aS [aa .i64 ((iC code).getD 0),ak (iC code).isSome]):=by
 refine In 47 Tryz.func148 fun _ _ _=>?_;refine Z9 ?_;refine .p (cA (h:=find_spec)) rfl ?_;refine Z3 ?_;refine .n (ay FZ.out) rfl fun b4 _=>?_;refine Z4 ?_;refine .share (t:=4) (i:=0) rfl rfl ?_;refine fW ?_;refine Cd (fun c0=>?_) fun c0=>?_
 ·
  have Pw:iC code=none:=by
   cases hf:dy code with
   |none=>exact uE hf
   |some x=>
    refine Cx hf (fun h8=>?_);rw[hf] at c0;simp[h8] at c0
  refine Z8 ?_;refine fj ?_ ?_
  · exact ag.int (by rw[Pw];rfl)
  exact ag.prop (by rw[Pw];simp)
 obtain⟨x,qN⟩:∃x,dy code=some x:=Option.isSome_iff_exists.1 (Classical.byContradiction fun h=>c0 (.inl h));simp only[qN,Option.getD_some] at c0 ⊢;have hf8:x.Form=8:=by simpa using c0
 have Pw:=Fm qN hf8;obtain⟨hne,hnl⟩:=Oq qN;refine Z5 ?_;refine .p (dB (cs:=gC.flatMap jn) FR.out FZ.out (.cons (.s [56] rfl rfl) (.cons (.s [49,54] rfl rfl) (.cons (.s [51,50] rfl rfl) .nil))) rfl) rfl ?_;refine Z4 ?_;refine .bP (σ:=Nat) (fun _=>[]) (fun k=>[(24,aa .i64 (k:Int))]) (fun k=>k≤gC.length∧fc (fun s=>kr (wE x.Name) s) gC k) (fun k=>gC.length-k) 0 ⟨by omega,fc.zero _ _⟩ rfl ?_ ?_
 · exact(.get rfl (ag.refl _) (.refl _ _))
 rintro k ⟨hk,hn⟩;refine Z6 ?_;refine Cd (fun c1=>?_) fun c1=>?_
 ·
  have DT:k<gC.length:=by have:gC.length=3:=rfl;omega
  obtain⟨s,EE⟩:=ah (xs:=gC) (k:=k) DT;have hgk:gC.getD k []=s:=by rw[List.getD_eq_getElem?_getD,EE];rfl
  refine Z7 ?_;refine .p (dW FU.out FC.out FA.out (.t rfl) rfl (.t rfl) rfl (kU DT)) rfl ?_;refine Z8 ?_;refine .p (bg (Nn hne) FB.out (.cons (.t rfl) (.cons (.s [46] rfl rfl) .nil))) rfl ?_;refine fW ?_;refine .p (bg (oC) FB.out (.cons (.t rfl) (.cons (.s [95,115] rfl rfl) .nil))) rfl ?_;refine .p (bg (oC) FB.out (.cons (.t rfl) (.cons (.s [95,117] rfl rfl) .nil))) rfl ?_;refine Z7 ?_;refine .p (cA (h:=xJ)) rfl ?_;refine Z2 ?_;refine Cd (fun c2=>?_) fun c2=>?_
  ·
   rw[hgk] at c2;refine Z3 ?_;refine .p (Hz (.c _) (.t rfl) (by have h3:k<3:=DT;show k≤64;omega)) rfl ?_;refine dH ?_;refine fj ?_ ?_
   · exact ag.int (by rw[Pw,Jy EE c2 hn];exact YE DT)
   exact ag.prop (by rw[Pw];simp)
  rw[hgk] at c2;refine Z7 ?_;refine .round (k+1) ⟨by omega,hn.succ EE c2⟩ (by omega) rfl ?_;exact(.get rfl (ag.int (by omega)) (.keep 25 rfl rfl))
 have QE:k=gC.length:=by have:gC.length=3:=rfl;omega
 subst QE;refine dH ?_;refine .p (bg (xK) FB.out (.cons (.t rfl) (.cons (.s [105,54,52] rfl rfl) .nil))) rfl ?_;refine Z2 ?_;refine Cd (fun c3=>?_) fun c3=>?_
 ·
  refine Z8 ?_;refine fj ?_ ?_
  · exact ag.int (by rw[Pw,zw hn,if_pos (by assumption)];rfl)
  exact ag.prop (by rw[Pw];simp)
 refine Z9 ?_;refine fj ?_ ?_
 · exact ag.int (by rw[Pw,zw hn,if_neg (by assumption)];rfl)
 exact ag.prop (by rw[Pw];simp)
theorem GB{labs:List (List UInt8)}(aj:(L0++s.1).length≤60000)(aQ:wL m f)(bu:nt x):uY Tryz.prog 390 324 [ai cb 0,aK (aE x)] (wJ cb m f gs bb bc L0 B k s) (di x.Code∧gN (bJ m f) x s labs=none) (γ:=SB×jW) (fun z=>(di x.Code∧gN (bJ m f) x s labs=some z.2)∨(¬di x.Code∧z=(gs,s))) (fun z=>wJ cb m f z.1 bb bc L0 B k z.2) (fun _=>ak (di x.Code)):=by
 refine BG 93 Tryz.func324 fun _ _ _=>?_;have NR:=aQ.fits.lens.1;refine KR ?_;refine Cd (fun c0=>?_) fun c0=>?_
 ·
  refine Z1 ?_;refine .bF [(0,0),(1,0),(2,0),(3,0),(4,1),(5,0),(6,0),(7,0),(8,0),(9,0),(10,0),(11,0),(12,4),(13,3)] 14 1 FM.out (by kernel_rfl) (k:= ?_);refine Z7 ?_;refine .p rfl (fun _=>gW FU.out FU.out (.t rfl) (cG (by have:=bu.A0;omega) (by have:=bu.A16 c0;omega))) ?_;refine .p rfl (fun _=>bg (ga (m:=m) (f:=x.A)) FB.out (.cons (.t rfl) (.cons (.t rfl) .nil))) ?_;refine Z3 ?_;refine .a rfl (ay FZ.out) (fun _ _=>aA.drop (aA.refl _)) fun b5 _=>?_;refine .s rfl (gY (i:=0) FC.out rfl (.t rfl) (.t rfl) rfl rfl rfl) ?_;refine .fin ?_;refine Z3 ?_;refine .share (t:=5) (i:=0) rfl rfl ?_;refine Z3 ?_;refine .x (cX (h:=dZ (e:=2) (by decide))) rfl (fun h=>⟨by unfold di;omega,by rw[Fu c0,nu (f:=f) aQ.fits,show eM m x.A=none by simpa using h];rfl⟩) fun NI Pv=>?_;refine Z2 ?_;obtain⟨g,hg⟩:=Option.isSome_iff_exists.1 Pv;simp only[hg,Option.getD_some];have No:dI (bJ m f).aB x.A=some g:=(nu (f:=f) aQ.fits).trans hg;refine Z3 ?_;refine .x (cX (h:=mJ (s:=s) (g:=g) aj (by have:=(aQ.fits.EB g (Au hg)).2;omega))) rfl (fun h=>⟨by unfold di;omega,by rw[Fu c0,No];exact h⟩) fun Qa Pb=>?_;refine Z9 ?_;refine .jj (Post.aO rfl (Qa) (by exact .inl ⟨by unfold di;omega,by rw[Fu c0,No];exact Pb⟩) (fun _ _ _ h=>h) (.rt rfl) ?_);exact ag.prop ⟨fun _=>by unfold di;omega,fun _=>trivial⟩
 refine Z6 ?_;refine Cd (fun c1=>?_) fun c1=>?_
 ·
  refine Z1 ?_;have NK:=bu.A0;refine .bz 12 18 FM.out (by kernel_rfl) (k:= ?_);refine Z30 ?_;refine .x (cX (h:=dZ (e:=2) (by decide))) rfl (fun h=>⟨by unfold di;omega,by(rw[AE c1];cases hgg:dI (bJ m f).cY x.A with|none=>rfl|some g=>exact if_neg (fun e=>h ⟨⟨(L3 hgg).2.1,e.1⟩,e.2⟩))⟩) fun Ui W2=>?_;refine Z3 ?_;obtain⟨⟨hlt,hB⟩,hTb⟩:=W2;obtain⟨g,hg,No⟩:=vr (L:=m.cY) bu.A0 hlt;have Y8:dI (bJ m f).cY x.A=some g:=hg;refine Z2 ?_;refine .x (cX (h:=ey (s:=s) (w:=127))) rfl (fun h=>⟨by unfold di;omega,by rw[AE c1,Y8,Option.bind_some,if_pos ⟨hB,hTb⟩,oF,iI,h];rfl⟩) fun Sr NF=>?_;refine Z2 ?_;refine .bz 13 1 FM.out (by kernel_rfl) (k:= ?_);refine ek ?_;refine .p (cI x.A.toNat (h:=No) (hi:=by have:=bu.A0;omega)) ?_;refine Z2 ?_;refine .x (cX (h:=mJ (s:=Sr.1) (g:=g) (by simp only[List.length_append] at aj ⊢;have:=lK NF;omega) (by have:=(aQ.fits.EB g (List.mem_of_getElem? No)).2;omega))) rfl (fun h=>⟨by unfold di;omega,by rw[AE c1,Y8,Option.bind_some,if_pos ⟨hB,hTb⟩,oF,iI,NF];exact h⟩) fun Uj Uk=>?_;refine Z9 ?_;refine .jj (Post.aO rfl (Uj) (by exact .inl ⟨by unfold di;omega,by rw[AE c1,Y8,Option.bind_some,if_pos ⟨hB,hTb⟩,oF,iI,NF];exact Uk⟩) (fun _ _ _ h=>h) (.rt rfl) ?_);exact ag.prop ⟨fun _=>by unfold di;omega,fun _=>trivial⟩
 refine Z6 ?_;refine Cd (fun c2=>?_) fun c2=>?_
 ·
  refine Z2 ?_;refine .x (cX (h:=ey (s:=s) (w:=0))) rfl (fun h=>⟨by unfold di;omega,by rw[L6 c2,h];rfl⟩) fun g80 h80=>?_;refine Z9 ?_;refine .jj (Post.aO rfl ((gs,g80.1)) (by exact .inl ⟨by unfold di;omega,by rw[L6 c2,h80];rfl⟩) (fun _ _ _ h=>h) (.rt rfl) ?_);exact ag.prop ⟨fun _=>by unfold di;omega,fun _=>trivial⟩
 refine Z6 ?_;refine Cd (fun c3=>?_) fun c3=>?_
 ·
  refine Z3 ?_;refine .x (cX (h:=ey (s:=s) (w:=127))) rfl (fun h=>⟨by unfold di;omega,by rw[AF c3,fQ,h];rfl⟩) fun g84 Ul=>?_;refine Z5 ?_;refine .x (cX (h:=ey (s:=g84.1) (w:=0))) rfl (fun h=>⟨by unfold di;omega,by rw[AF c3,fQ,Ul];simp only[Option.map_some,Option.bind_some];rw[h];rfl⟩) fun Y9 W3=>?_;refine Z7 ?_;refine .x (cX (h:=ey (s:=Y9.1) (w:=Y9.2))) rfl (fun h=>⟨by unfold di;omega,by rw[AF c3,fQ,Ul];simp only[Option.map_some,Option.bind_some];rw[W3,Option.bind_some,h];rfl⟩) fun Sw h90=>?_;refine .p (cB aL [_]) rfl ?_;refine .n (cE (h:=fT (st:=L0++Sw.1.1) (l:=[Sw.2]) (E6:=L0++(cQ Sw.1 [Sw.2]).1) (by simp only[List.length_append] at aj ⊢;have:=lK Ul;have:=lK W3;have:=lK h90;omega) (by simp) (by simp[cQ]))) rfl fun Um Un=>?_;refine Z9 ?_;refine .jj (Post.aO rfl ((Um,cQ Sw.1 [Sw.2])) (by exact .inl ⟨by unfold di;omega,by rw[AF c3,fQ,Ul];simp only[Option.map_some,Option.bind_some];rw[W3,Option.bind_some,h90];rfl⟩) (fun _ _ _ h=>h) (.rt rfl) ?_);exact ag.prop ⟨fun _=>by unfold di;omega,fun _=>trivial⟩
 refine Z8 ?_;refine .jj (Post.aO rfl ((gs,s)) (by exact .inr ⟨by unfold di;omega,rfl⟩) (fun _ _ _ h=>h) (.rt rfl) ?_);exact ag.prop ⟨fun h=>h.elim,fun h=>by unfold di at h;omega⟩
theorem Bl(aj:B.length≤50000)(aQ:nt x):uY Tryz.prog 390 376 [ai cb 0,aK (aE x)] (wJ cb m f gs bb bc L0 B k s) (∀v:Fo,x.Code=14→gN v x s ((B++[j9 L0.length k s]).map yb)=none) (γ:=Unit) (fun _=>∀v:Fo,x.Code=14→gN v x s ((B++[j9 L0.length k s]).map yb)=some gA) (fun _=>wJ cb m f gs bb bc L0 B k gA) (fun _=>aS []):=by
 refine BG 45 Tryz.func376 fun _ _ _=>?_;have hBl:(B++[j9 L0.length k s]).length≤60000:=by simp;omega
 have hLn:=aQ.Ln;refine dH ?_;refine .x (Jb [_] [0,2,1] (h:=kq (n:=x.A) hBl aQ.A0)) rfl (fun h v yz=>by rw[rB yz,h];rfl) fun oH h12=>?_;refine jz ?_;refine .bP (σ:=Nat) (fun _=>_) (fun j=>[(16,aa .i64 (j:Int))]) (fun j=>j≤x.L.length) (fun j=>x.L.length-j) 0 (Nat.zero_le _) rfl ?_ ?_
 · exact(.get rfl (ag.refl _) (.refl _ _))
 rintro j hj;refine Z6 ?_;refine Cd (fun c0=>?_) fun c0=>?_
 ·
  obtain⟨n0,hn0⟩:=ah (xs:=x.L) (k:=j) (by omega);have hnp:=aQ.L0 n0 (List.mem_of_getElem? hn0);refine Z6 ?_;refine .p (cI j (h:=hn0)) rfl ?_;refine Z7 ?_;refine .x (cX (h:=kq (n:=n0) hBl hnp)) rfl (fun h v yz=>by rw[rB yz,h12,Option.bind_some,if_neg (fun e=>by have h9:=e n0 (List.mem_of_getElem? hn0);rw[h] at h9;cases h9)]) fun MQ NC=>?_;refine Z7 ?_;refine .round (j+1) (by omega) (by omega) rfl ?_;exact(.get rfl (ag.int (by omega)) ((.keep 10 rfl rfl)))
 refine uZ ?_;refine .bP (σ:=Nat) (fun _=>_) (fun j=>[(27,aa .i64 (j:Int))]) (fun j=>j≤x.L.length∧∀n∈x.L.take j,gM ((B++[j9 L0.length k s]).map yb) n=some oH) (fun j=>x.L.length-j) 0 ⟨Nat.zero_le _,fun n hn=>by simp at hn⟩ rfl ?_ ?_
 · exact(.get rfl (ag.refl _) (.refl _ _))
 rintro j ⟨hj,hall⟩;refine Z6 ?_;refine Cd (fun c1=>?_) fun c1=>?_
 ·
  obtain⟨n0,hn0⟩:=ah (xs:=x.L) (k:=j) (by omega);have hnp:=aQ.L0 n0 (List.mem_of_getElem? hn0);refine Z6 ?_;refine .p (cI j (h:=hn0)) rfl ?_;refine Z7 ?_;refine .x (cX (h:=kq (n:=n0) hBl hnp)) rfl (fun h v yz=>by rw[rB yz,h12,Option.bind_some,if_neg (fun e=>by have h9:=e n0 (List.mem_of_getElem? hn0);rw[h] at h9;cases h9)]) fun RZ Uo=>?_;refine Z1 ?_;refine .p (cA (h:=pM)) rfl ?_;refine .x (cX (h:=dZ (e:=5) (by decide))) rfl (fun h v yz=>by rw[rB yz,h12,Option.bind_some,if_neg (fun e=>by have h9:=e n0 (List.mem_of_getElem? hn0);rw[Uo] at h9;exact h (Option.some.inj h9))]) fun Up Sx=>?_;refine Z7 ?_;refine .round (j+1) ⟨by omega,fun n hn=>by(rw[←cu hn0] at hn;rcases List.mem_append.1 hn with hn|hn;exact hall n hn;(simp only[List.mem_singleton] at hn;subst hn;rw[Uo,Sx]))⟩ (by omega) rfl ?_;exact(.get rfl (ag.int (by omega)) ((.keep 13 rfl rfl)))
 have Np:∀n∈x.L,gM ((B++[j9 L0.length k s]).map yb) n=some oH:=fun n hn=>hall n (by rw[List.take_of_length_le (by omega)];exact hn);refine Z8 ?_;refine .x (Jb [] [0,2,1] (h:=ey (s:=s) (w:=127))) rfl (fun h v yz=>by rw[rB yz,h12,Option.bind_some,if_pos Np,iI,h];rfl) fun W4 Px=>?_;refine Z6 ?_;refine .x (cX (h:=gR (s:=W4.1) (l:=oH))) rfl (fun h v yz=>by rw[rB yz,h12,Option.bind_some,if_pos Np,iI,Px,Option.bind_some,h];rfl) fun Nj Nk=>?_;refine Z4 ?_;refine .n (cE (h:=oe (s:=Nj))) rfl fun YU h44=>?_;refine Z1 ?_;refine .oZ (Post.bT rfl (()) (by exact fun v yz=>by rw[rB yz,h12,Option.bind_some,if_pos Np,iI,Px,Option.bind_some,Nk];rfl) (fun _ _ _ h=>h) rfl)
theorem DU(aj:ou l)(aQ:l.length≤65536):bk Tryz.prog 259 [cW l] [] (γ:=SB) (fun _=>True) (fun g=>[aI g 1 aL (fE l)]) (fun g=>af (bA g (fE l).length)):=by
 refine In 20 Tryz.func259 fun _ _ _=>?_;refine j4 ?_;refine .n (B4 FU.out (.t rfl)) rfl fun b7 _=>?_;refine Z3 ?_;refine .iO 1 aL ?_;refine .bP (σ:=Nat×SB) (fun s=>[aI s.2 1 aL (fE (l.take s.1)),vP b7 l s.1]) (fun s=>[(3,af (bA s.2 (fE (l.take s.1)).length))]) (fun s=>s.1≤l.length) (fun s=>l.length-s.1) (0,none) (by simp) (by simp[fE]) ?_ ?_
 · exact(.get rfl (ag.of_eq (by simp[bA])) (.refl _ _))
 rintro s hk;have htl:=wF (l.take s.1);have Uh:(l.take s.1).length≤l.length:=by simp;omega
 refine Z2 ?_;refine .n (Hw (i:=1) aj (by omega) (.t rfl) rfl) rfl fun _ _=>?_;refine .p (Hx (.t rfl)) rfl ?_;refine Z3 ?_;refine Cd (fun c0=>?_) fun c0=>?_
 ·
  obtain⟨x,hx⟩:=ah (xs:=l) (k:=s.1) c0;rw[show min (s.1+1) l.length=s.1+1 by omega];refine Z5 ?_;refine .p (Hy (by assumption) (.t rfl)) rfl ?_;refine Z9 ?_;refine Cd (fun c1=>?_) fun c1=>?_
  ·
   refine Z2 ?_;refine .p (cB aL [126]) rfl ?_;refine .n (bn (i:=0) FU.out FU.out FC.out rfl FZ.out rfl FY.out (.t rfl) (.t rfl) rfl (by first|omega|(simp<;>omega)) (by first|omega|(simp<;>omega))) rfl fun uc _=>?_;refine Z3 ?_;refine .round (s.1+1,(by first|exact uc|exact yt)) (by omega) (by omega) (by first|(rw[j7 hx c1];rfl)|(rw[j8 hx c1];rfl)) ?_
   first|exact(.get rfl (ag.of_eq (by rw[j7 hx c1])) (.keep 11 rfl rfl))|exact(.get rfl (ag.of_eq (by rw[j8 hx c1])) (.keep 11 rfl rfl))
  refine Z2 ?_;refine .p (cB aL [127]) rfl ?_;refine .n (bn (i:=0) FU.out FU.out FC.out rfl FZ.out rfl FY.out (.t rfl) (.t rfl) rfl (by first|omega|(simp<;>omega)) (by first|omega|(simp<;>omega))) rfl fun yt _=>?_;refine Z3 ?_;refine .round (s.1+1,(by first|exact uc|exact yt)) (by omega) (by omega) (by first|(rw[j7 hx c1];rfl)|(rw[j8 hx c1];rfl)) ?_
  first|exact(.get rfl (ag.of_eq (by rw[j7 hx c1])) (.keep 11 rfl rfl))|exact(.get rfl (ag.of_eq (by rw[j8 hx c1])) (.keep 11 rfl rfl))
 have hall:l.take s.1=l:=List.take_of_length_le (by omega);rw[hall];refine fW ?_;refine Post.aO rfl (s.2) (by trivial) (aA.fI [0] [1] rfl rfl) (.rt rfl) ?_;exact ag.refl _
theorem GC{r:lJ}(aj:Ct r):bk Tryz.prog 201 [aK (fC r)] [] (γ:=SB) (fun _=>True) (fun g=>[aI g 1 aL (ry r).sF]) (fun g=>aK (kg (ry r) g)):=by
 refine In 16 Tryz.func201 fun _ _ _=>?_;refine Z3 ?_;refine .n (ay FZ.out) rfl fun b2 _=>?_;refine Z3 ?_;refine .bF [(0,0),(1,0),(2,0),(3,0),(4,0),(5,0),(6,0),(7,0),(9,0),(10,0),(8,2),(11,0)] 12 2 FM.out (by kernel_rfl) (k:= ?_);refine dH ?_;refine .e rfl (cE (h:=DU aj.1 (by have:=aj.2.2.1;omega))) fun Nm h11=>?_;refine .p rfl (fun _=>bg (rT aj.2.1 (by have:=aj.2.2.2;omega)) FB.out (.cons (.t rfl) .nil)) ?_;refine .fin ?_;refine .p (aT.le (az FP.out FZ.out (.cons (.t rfl) (.cons (.t rfl) (.cons (.t rfl) (.cons (.t rfl) (.cons (.t rfl) .nil))))) rfl) (ag.refl (aK (kg (ry r) Nm)))) rfl ?_;refine Z4 ?_;refine Post.aO rfl (Nm) (by trivial) (aA.fI [0] [1] rfl rfl) (.ra (i:=1) FA.out FC.out rfl rfl rfl rfl) ?_;exact ag.refl _
variable {i:mq}
theorem GD(aj:dy code=some i):bk Tryz.prog 146 [aa .i64 code] [] (γ:=SB) (fun _=>True) (fun g=>[aI g 1 aL i.sF]) (fun g=>aS [aK (kg i g),ak True]):=by
 refine In 16 Tryz.func146 fun _ _ _=>?_;refine Z2 ?_;refine .n (ay FZ.out) rfl fun b2 _=>?_;refine Z6 ?_;refine .p (cA (h:=IM)) rfl ?_;refine Z3 ?_;refine .n (ay FZ.out) rfl fun b4 _=>?_;refine Z4 ?_;refine .share (t:=4) (i:=0) rfl rfl ?_;refine Z7 ?_;refine Cd (fun c0=>?_) fun c0=>?_
 ·
  exfalso;have hro:qD code=none:=by simpa using c0
  unfold dy at aj;rw[hro] at aj;cases aj
 obtain⟨r,hro⟩:=Option.isSome_iff_exists.1 (Classical.not_not.1 c0);have qN:i=ry r:=by unfold dy at aj;rw[hro] at aj;exact(Option.some.inj aj).symm
 subst qN;have hok:=HY hro;simp only[hro,Option.getD_some];refine Z5 ?_;refine .n (cE (h:=GC hok)) rfl fun uc KX=>?_;refine Z5 ?_;refine Post.bY rfl rfl (uc) (by trivial) (aA.fI [0] [1] rfl rfl) rfl (.cons (.ra (i:=1) FA.out FC.out rfl rfl rfl rfl) ?_ (.cons (.rt rfl) ?_ .nil))
 · exact ag.refl _
 exact ag.refl _
theorem Bm{gi:SB}(aj:(L0++s.1).length≤60000)(aQ:wL m f)(bu:nt x)(cZ:aP x.Code=8)(jy:dy x.Code=some i):uY Tryz.prog 390 325 [ai cb 0,aK (aE x),aK (kg i gi)] (aI gi 1 aL i.sF::wJ cb m f gs bb bc L0 B k s) (nW (bJ m f) x s=none) (γ:=SB×jW) (fun z=>nW (bJ m f) x s=some z.2) (fun z=>wJ cb m f z.1 bb bc L0 B k z.2) (fun _=>aS []):=by
 refine BG 50 Tryz.func325 fun _ _ _=>?_;obtain⟨t0,tl,Uh⟩:=OE cZ;have hin:=jo jy;have hiT:i.sF=t0::tl:=hin.2.2.2.2.1.trans Uh;have RI:i.o9.length≤3:=by rw[hin.2.2.2.2.2.1];exact(tO x.Code).2
 unfold kg;rw[hiT];refine Z3 ?_;refine .n (gX (.t rfl)) rfl fun b5 _=>?_;refine Z7 ?_;refine .x (Jb [_,_,_,_] [2,0,1,3,4] (h:=og aQ bu.A0)) rfl (fun h=>by rw[wM cZ,show(bJ m f).bX=m.dU.map (·.bX) from rfl,bK,h];rfl) fun oH h12=>?_;refine .n (ay FZ.out) rfl fun b6 _=>?_;refine Z3 ?_;refine .share (t:=6) (i:=0) rfl rfl ?_;refine Z9 ?_;refine .x (cX (h:=dZ (e:=2) (by decide))) rfl (fun h=>by rw[wM cZ,show(bJ m f).bX=m.dU.map (·.bX) from rfl,bK,h12];exact if_pos (.inl ⟨fun hw=>h (.inl hw),by have:¬x.B≤4294967295:=fun hb=>h (.inr hb);omega⟩)) fun NG NH=>?_;refine Z6 ?_;refine .p (cA (h:=GA (code:=x.Code))) rfl ?_;refine uZ ?_;refine .g (bB.gT rfl rfl rfl rfl (fun hg=>(Hz (s:=x.eT.toNat) (.c _) (.le (.when (.t rfl) hg) (ag.int (by have:=bu.a0;omega))) (by show _≤64;have:=bu.Tx;omega)).le (ag.int (OF hg)))) rfl rfl ?_;refine Z3 ?_;refine .x (cX (h:=dZ (e:=5) (by decide))) rfl (fun h=>by rw[wM cZ,show(bJ m f).bX=m.dU.map (·.bX) from rfl,bK,h12];exact if_pos (.inr (Classical.byContradiction fun hn=>h (wO.2 hn)))) fun g37 h37=>?_;refine Z3 ?_;refine .iY 2 rfl (by simp) fun ib ic No=>?_;subst No;refine .bz 4 2 FM.out (by kernel_rfl) (k:= ?_);refine Z3 ?_;refine .p (cA (h:=mY (l:=oH))) ?_;refine Z1 ?_;refine .p (ej 0 FU.out FC.out rfl (.t rfl) (.c _) rfl (by simp)) rfl ?_;refine .s (oY (enc:=aL) (i:=2) (r:=0) (eD oH.bX) rfl FC.out (.t rfl) (.t rfl) rfl (show(t0::tl)[0]?=some t0 from rfl) rfl rfl) ?_;refine Z2 ?_;refine .nF (i:=2) (j:=1) (f:=3) rfl rfl rfl ?_;refine Z7 ?_;refine .x (Jb [_] [0,2,3,1] (h:=mJ (s:=s) (g:=⟨eD oH.bX::tl,i.o9⟩) aj (by show i.o9.length≤60000;omega))) rfl (fun h=>by rw[wM cZ,show(bJ m f).bX=m.dU.map (·.bX) from rfl,bK,h12];exact(if_neg (by rintro(⟨a,b⟩|a);(rcases NH with h9|h9;exact a h9;omega);exact wO.1 h37 a)).trans (by rw[Uh,←hin.2.2.2.2.2.1];exact h)) fun Sm WX=>?_;refine Z1 ?_;refine .oZ (Post.bT rfl (Sm) (by exact(by rw[wM cZ,show(bJ m f).bX=m.dU.map (·.bX) from rfl,bK,h12];exact(if_neg (by rintro(⟨a,b⟩|a);(rcases NH with h9|h9;exact a h9;omega);exact wO.1 h37 a)).trans (by rw[Uh,←hin.2.2.2.2.2.1];exact WX))) (aA.fI [0,1,2] [3] rfl rfl) rfl)
theorem GF{gi:SB}(aj:(L0++s.1).length≤60000)(aQ:wL m f)(bu:nt x)(cZ:aP x.Code=9∨aP x.Code=10):uY Tryz.prog 390 326 [ai cb 0,aK (aE x),aK (kg i gi)] (wJ cb m f gs bb bc L0 B k s) (nW (bJ m f) x s=none) (γ:=SB×jW) (fun z=>nW (bJ m f) x s=some z.2) (fun z=>wJ cb m f z.1 bb bc L0 B k z.2) (fun _=>aS []):=by
 refine BG 55 Tryz.func326 fun _ _ _=>?_;have hcs:x.Code=63∨x.Code=64∨x.Code=64523∨x.Code=64522:=cZ.elim (fun h=>by have:=Rk h;omega) (fun h=>by have:=OB h;omega);refine ek ?_;refine .x (cX (h:=og aQ bu.A0)) rfl (fun h=>by(rcases hcs with h9|h9|h9|h9;rw[H9 h9,show(bJ m f).bX=m.dU.map (·.bX) from rfl,bK,h];rfl;rw[AH h9,show(bJ m f).bX=m.dU.map (·.bX) from rfl,bK,h];rfl;rw[tR h9,show(bJ m f).bX=m.dU.map (·.bX) from rfl,bK,h];rfl;rw[qq h9,show(bJ m f).bX=m.dU.map (·.bX) from rfl,bK,h];rfl)) fun oH h12=>?_;refine .p (cA (h:=mY (l:=oH))) rfl ?_;refine Jc ?_;refine Cd (fun c0=>?_) fun c0=>?_
 ·
  refine Z3 ?_;refine .p (cB aL [eD oH.bX]) rfl ?_;refine .n (cE (h:=fT (st:=L0++s.1) (l:=[eD oH.bX]) (E6:=L0++(cQ s [eD oH.bX]).1) (by simp only[List.length_append] at aj ⊢;omega) (by simp) (by simp[cQ]))) rfl fun O9 Sp=>?_;refine Z2 ?_;refine .oZ (Post.bT rfl ((O9,cQ s [eD oH.bX])) (by exact(by rw[H9 c0,show(bJ m f).bX=m.dU.map (·.bX) from rfl,bK,h12];rfl)) (fun _ _ _ h=>h) rfl)
 refine Z6 ?_;refine Cd (fun c1=>?_) fun c1=>?_
 ·
  refine Z4 ?_;refine .x (cX (h:=ey (s:=s) (w:=eD oH.bX))) rfl (fun h=>by rw[AH c1,show(bJ m f).bX=m.dU.map (·.bX) from rfl,bK,h12];simp only[Option.map_some,Option.bind_some];rw[oF,fQ,h];rfl) fun Za h43=>?_;refine Z5 ?_;refine .p (cB aL [eD oH.bX]) rfl ?_;refine .n (cE (h:=fT (st:=L0++Za.1.1) (l:=[eD oH.bX]) (E6:=L0++(cQ Za.1 [eD oH.bX]).1) (by simp only[List.length_append] at aj ⊢;have:=lK h43;omega) (by simp) (by simp[cQ]))) rfl fun Zb h47=>?_;refine Z2 ?_;refine .oZ (Post.bT rfl ((Zb,cQ Za.1 [eD oH.bX])) (by exact(by rw[AH c1,show(bJ m f).bX=m.dU.map (·.bX) from rfl,bK,h12];simp only[Option.map_some,Option.bind_some];rw[oF,fQ,h43];rfl)) (fun _ _ _ h=>h) rfl)
 refine Z6 ?_;refine Cd (fun c2=>?_) fun c2=>?_
 ·
  refine Z4 ?_;refine .p (cB aL [eD oH.bX,127,eD oH.bX]) rfl ?_;refine .x (cX (h:=gR (s:=s) (l:=[eD oH.bX,127,eD oH.bX]))) rfl (fun h=>by rw[tR c2,show(bJ m f).bX=m.dU.map (·.bX) from rfl,bK,h12];exact h) fun Ss Su=>?_;refine Z2 ?_;refine .oZ (Post.bT rfl ((gs,Ss)) (by exact(by rw[tR c2,show(bJ m f).bX=m.dU.map (·.bX) from rfl,bK,h12];exact Su)) (fun _ _ _ h=>h) rfl)
 refine Z5 ?_;refine .x (cX (h:=og aQ bu.B0)) rfl (fun h=>by rw[qq (by omega),show(bJ m f).bX=m.dU.map (·.bX) from rfl,bK,bK,h12,h];rfl) fun KW Ud=>?_;refine .p (cA (h:=mY (l:=KW))) rfl ?_;refine Z8 ?_;refine .cut (σ:=Unit) (fun _=>wJ cb m f gs bb bc L0 B k s) (fun _=>[(8,aa .u8 ((eD (oH.bX∧KW.bX):UInt8).toNat:Int))]) (fun _=>True) ?_ ?_
 ·
  refine dH ?_;refine Cd (fun c3=>?_) fun c3=>?_
  ·
   refine Z3 ?_;refine .meet () trivial rfl (.get rfl (ag.of_eq (by rw[show eD (oH.bX∧KW.bX)=126 from if_pos ⟨sK.1 c3.1,sK.1 c3.2⟩];rfl)) (.keep 7 rfl rfl))
  refine Z1 ?_;refine .meet () trivial rfl (.get rfl (ag.of_eq (by rw[show eD (oH.bX∧KW.bX)=127 from if_neg (fun h=>c3 ⟨sK.2 h.1,sK.2 h.2⟩)];rfl)) (.keep 6 rfl rfl))
 intro _ _;refine Z5 ?_;refine .p (cB aL [eD oH.bX,eD KW.bX,eD (oH.bX∧KW.bX)]) rfl ?_;refine .x (cX (h:=gR (s:=s) (l:=[eD oH.bX,eD KW.bX,eD (oH.bX∧KW.bX)]))) rfl (fun h=>by rw[qq (by omega),show(bJ m f).bX=m.dU.map (·.bX) from rfl,bK,bK,h12,Ud];exact h) fun Ni Pa=>?_;refine Z2 ?_;refine .oZ (Post.bT rfl ((gs,Ni)) (by exact(by rw[qq (by omega),show(bJ m f).bX=m.dU.map (·.bX) from rfl,bK,bK,h12,Ud];exact Pa)) (fun _ _ _ h=>h) rfl)
variable {fs:List fm}
theorem yB{b:fm}(aj:(cL fs++b.st.1).length≤60000)(aQ:wL m f)(bu:nt x)(cZ:fs.length≤50000)(jy:AJ (fs++[b]))(qH:iR x.Code):uY Tryz.prog 390 322 [ai cb 0,aK (aE x)] (L1 cb m f gs (some (bb,bc)) (cL fs++b.st.1) (iH fs++[j9 (cL fs).length b b.st])) (gO m f x fs b=none) (γ:=PZ) (fun z=>Ia m f x fs b z) (fun z=>WU cb m f z) (fun _=>ak True):=by
 refine BG 74 Tryz.func322 fun _ _ _=>?_;have hBl:(iH fs).length≤50000:=by rw[CA];exact cZ
 have R2:(iH fs++[j9 (cL fs).length b b.st]).length≤60000:=by simp;omega
 have Sc:b.res.length≤20:=jy b (by simp);have Ev:(cL fs).length≤60000:=by simp only[List.length_append] at aj;omega
 unfold iR at qH;refine KR ?_;refine Cd (fun c0=>?_) fun c0=>?_
 ·
  refine Z2 ?_;refine .n (cE (h:=oe (k:=b) (s:=b.st))) rfl fun Nm h11=>?_;refine Z9 ?_;refine .jj (Post.aO rfl ((gs,some (bb,bc),cL fs++(gA).1,iH fs++[j9 (cL fs).length b (gA)])) (by exact fY (by omega) (by omega) (by unfold aV;omega) (by rw[←fG fs b b.st,Tz (by omega)])) (fun _ _ _ h=>h) (.rt rfl) ?_);exact ag.refl _
 refine Z6 ?_;refine Cd (fun c1=>?_) fun c1=>?_
 ·
  refine Z3 ?_;refine .x (cX (h:=ey (k:=b) (s:=b.st) (w:=127))) rfl (fun h=>by rw[rC (by unfold aV;omega),if_pos c1,fQ,h];rfl) fun uc KX=>?_;refine Z5 ?_;refine .n (cE (h:=xH (x:=x) (B:=iH fs++[j9 (cL fs).length b uc.1]) (by simp;omega) bu.A0)) rfl fun yt RJ=>?_;refine Z9 ?_;refine .jj (Post.aO rfl ((gs,yt,cL fs++uc.1.1,(iH fs++[j9 (cL fs).length b uc.1])++[j9 (cL fs++uc.1.1).length ⟨x.Code=3,x.Code=4,iG x,([],False)⟩ ([],False)])) (by exact⟨_,by rw[rC (by unfold aV;omega),if_pos c1,fQ,KX];rfl,zA fs b uc.1 x⟩) (fun _ _ _ h=>h) (.rt rfl) ?_);exact ag.refl _
 refine .cut (σ:=Unit) (fun _=>L1 cb m f gs (some (bb,bc)) (cL fs++b.st.1) (iH fs++[j9 (cL fs).length b b.st])) (fun _=>[(19,ak (x.Code=2∨x.Code=3))]) (fun _=>True) ?_ ?_
 ·
  refine Z6 ?_;refine Cd (fun c2=>?_) fun c2=>?_
  ·
   refine Z1 ?_;refine .meet () trivial rfl (.get rfl (ag.prop (by omega)) (.keep 2 rfl rfl))
  refine Z4 ?_;refine .meet () trivial rfl (.get rfl (ag.prop (by omega)) (.keep 4 rfl rfl))
 intro _ _;refine Cd (fun c3=>?_) fun c3=>?_
 ·
  refine Z3 ?_;refine .n (cE (h:=xH (x:=x) (B:=iH fs++[j9 (cL fs).length b b.st]) R2 bu.A0)) rfl fun J1 FW=>?_;refine Z9 ?_;refine .jj (Post.aO rfl ((gs,J1,cL fs++b.st.1,(iH fs++[j9 (cL fs).length b b.st])++[j9 (cL fs++b.st.1).length ⟨x.Code=3,x.Code=4,iG x,([],False)⟩ ([],False)])) (by exact⟨_,by rw[rC (by unfold aV;omega),if_neg c1];rfl,zA fs b b.st x⟩) (fun _ _ _ h=>h) (.rt rfl) ?_);exact ag.refl _
 refine Z6 ?_;refine Cd (fun c4=>?_) fun c4=>?_
 ·
  refine Z2 ?_;refine .x (cX (h:=DS (k:=b) (s:=b.st) (by omega))) rfl (fun h=>yd (by omega) h) fun Qa Pb=>?_;refine Z9 ?_;refine .jj (Post.aO rfl ((gs,Qa,cL fs,iH fs++[j9 (cL fs).length ⟨b.loop,False,b.res,([],False)⟩ ([],False)])) (by exact⟨_,Fx (by omega) Pb,JG fs b⟩) (fun _ _ _ h=>h) (.rt rfl) ?_);exact ag.refl _
 refine Z6 ?_;refine Cd (fun c5=>?_) fun c5=>?_
 ·
  refine Z2 ?_;refine .x (cX (h:=Km (k:=b) (s:=b.st) Ev (by omega))) rfl (fun h=>AI (by omega) h) fun Ni Pa=>?_;refine Z9 ?_;refine .jj (Post.aO rfl ((Ni,some (bb,bc),cL fs++b.res,iH fs)) (by exact⟨_,JF (by omega) Pa,L9 fs b.res⟩) (fun _ _ _ h=>h) (.rt rfl) ?_);exact ag.refl _
 refine Z6 ?_;refine Cd (fun c6=>?_) fun c6=>?_
 ·
  refine Z6 ?_;refine .x (Jb [_] [0,2,1] (h:=kq (n:=x.A) R2 bu.A0)) rfl (fun h=>dm (by omega) (by omega) (by unfold aV;omega) (by rw[←fG fs b b.st,Ft (by omega),h];rfl)) fun W4 Px=>?_;refine .x (Jb [] [0,2,1] (h:=gR (k:=b) (s:=b.st) (l:=W4))) rfl (fun h=>dm (by omega) (by omega) (by unfold aV;omega) (by rw[←fG fs b b.st,Ft (by omega),Px,Option.bind_some,h];rfl)) fun J6 Qb=>?_;refine Z4 ?_;refine .n (cE (h:=oe (k:=b) (s:=J6))) rfl fun Nj Nk=>?_;refine Z9 ?_;refine .jj (Post.aO rfl ((gs,some (bb,bc),cL fs++(gA).1,iH fs++[j9 (cL fs).length b (gA)])) (by exact fY (by omega) (by omega) (by unfold aV;omega) (by rw[←fG fs b b.st,Ft (by omega),Px,Option.bind_some,Qb];rfl)) (fun _ _ _ h=>h) (.rt rfl) ?_);exact ag.refl _
 refine Z6 ?_;refine Cd (fun c7=>?_) fun c7=>?_
 ·
  refine Z5 ?_;refine .x (Jb [_] [0,2,1] (h:=kq (n:=x.A) R2 bu.A0)) rfl (fun h=>dm (by omega) (by omega) (by unfold aV;omega) (by rw[←fG fs b b.st,AD (by omega),h];rfl)) fun KV h48=>?_;refine Z6 ?_;refine .x (Jb [] [0,2,1] (h:=ey (k:=b) (s:=b.st) (w:=127))) rfl (fun h=>dm (by omega) (by omega) (by unfold aV;omega) (by rw[←fG fs b b.st,AD (by omega),h48,Option.bind_some,oF,iI,h];rfl)) fun Zc Uq=>?_;refine Z6 ?_;refine .x (cX (h:=gR (k:=b) (s:=Zc.1) (l:=KV))) rfl (fun h=>dm (by omega) (by omega) (by unfold aV;omega) (by rw[←fG fs b b.st,AD (by omega),h48,Option.bind_some,oF,iI,Uq,Option.bind_some,h];rfl)) fun ND W5=>?_;refine Z5 ?_;refine .n (cE (h:=fT (st:=cL fs++ND.1) (l:=KV) (E6:=cL fs++(cQ ND KV).1) (by simp only[List.length_append] at aj ⊢;have:=lK Uq;have:=rA W5;omega) (by rw[fG] at h48;have:=OH jy h48;omega) (by simp[cQ]))) rfl fun NL R3=>?_;refine Z9 ?_;refine .jj (Post.aO rfl ((NL,some (bb,bc),cL fs++(cQ ND KV).1,iH fs++[j9 (cL fs).length b (cQ ND KV)])) (by exact fY (by omega) (by omega) (by unfold aV;omega) (by rw[←fG fs b b.st,AD (by omega),h48,Option.bind_some,oF,iI,Uq,Option.bind_some,W5];rfl)) (fun _ _ _ h=>h) (.rt rfl) ?_);exact ag.refl _
 refine Z6 ?_;refine Cd (fun c8=>?_) fun c8=>?_
 ·
  refine Z3 ?_;refine .x (cX (h:=Bl (k:=b) (s:=b.st) hBl bu)) rfl (fun h=>dm (by omega) (by omega) (by unfold aV;omega) (by rw[←fG fs b b.st];exact h _ (by omega))) fun Uf Ug=>?_;refine Z9 ?_;refine .jj (Post.aO rfl ((gs,some (bb,bc),cL fs++gA.1,iH fs++[j9 (cL fs).length b gA])) (by exact fY (by omega) (by omega) (by unfold aV;omega) (by rw[←fG fs b b.st];exact Ug _ (by omega))) (fun _ _ _ h=>h) (.rt rfl) ?_);exact ag.refl _
 refine Z6 ?_;refine CF fun c9=>?_;refine Z9 ?_;refine .x (cX (h:=gR (k:=b) (s:=b.st) (l:=(bC m f.gq).R))) rfl (fun h=>dm (by omega) (by omega) (by unfold aV;omega) (by rw[←fG fs b b.st,L5 (by omega)];rw[show(bJ m f).cT.R=(bC m f.gq).R from rfl,h];rfl)) fun Ur h71=>?_;refine Z4 ?_;refine .n (cE (h:=oe (k:=b) (s:=Ur))) rfl fun g73 h73=>?_;refine Z9 ?_;refine .jj (Post.aO rfl ((gs,some (bb,bc),cL fs++(gA).1,iH fs++[j9 (cL fs).length b (gA)])) (by exact fY (by omega) (by omega) (by unfold aV;omega) (by rw[←fG fs b b.st,L5 (by omega)];rw[show(bJ m f).cT.R=(bC m f.gq).R from rfl,h71];rfl)) (fun _ _ _ h=>h) (.rt rfl) ?_);exact ag.refl _
theorem lU(aj:¬iR x.Code):cw Tryz.prog 322 [dg,aK (aE x)] (ak False):=by
 refine In 74 Tryz.func322 fun _ _ _=>?_;unfold iR at aj;refine KR ?_;refine CT fun c0=>?_;refine Z6 ?_;refine CT fun c1=>?_;refine .cut (σ:=Unit) (fun _=>[]) (fun _=>[(19,ak (x.Code=2∨x.Code=3))]) (fun _=>True) ?_ ?_
 ·
  refine Z6 ?_;refine CT fun c2=>?_;refine Z4 ?_;refine .meet () trivial rfl (.get rfl (ag.prop (by omega)) (.keep 4 rfl rfl))
 intro _ _;refine CT fun c3=>?_;refine Z6 ?_;refine CT fun c4=>?_;refine Z6 ?_;refine CT fun c5=>?_;refine Z6 ?_;refine CT fun c6=>?_;refine Z6 ?_;refine CT fun c7=>?_;refine Z6 ?_;refine CT fun c8=>?_;refine Z6 ?_;refine CT fun c9=>?_;refine Z8 ?_;refine aX ?_;exact .z
theorem oD(aj:¬fH x.Code):cw Tryz.prog 323 [dg,aK (aE x)] (ak False):=by
 refine In 62 Tryz.func323 fun _ _ _=>?_;unfold fH at aj;refine KR ?_;refine CT fun c0=>?_;refine Z6 ?_;refine CT fun c1=>?_;refine Z6 ?_;refine CT fun c2=>?_;refine Z6 ?_;refine CT fun c3=>?_;refine Z6 ?_;refine CT fun c4=>?_;refine Z8 ?_;refine aX ?_;exact .z
theorem DV(aj:¬di x.Code):cw Tryz.prog 324 [dg,aK (aE x)] (ak False):=by
 refine In 93 Tryz.func324 fun _ _ _=>?_;unfold di at aj;refine KR ?_;refine CT fun c0=>?_;refine Z6 ?_;refine CT fun c1=>?_;refine Z6 ?_;refine CT fun c2=>?_;refine Z6 ?_;refine CT fun c3=>?_;refine Z8 ?_;refine aX ?_;exact .z
theorem GG{b:fm}(aj:(cL fs++b.st.1).length≤60000)(aQ:wL m f)(bu:nt x)(cZ:fs.length≤50000)(jy:AJ (fs++[b]))(qH:iF x.Code≠[]):uY Tryz.prog 390 247 [ai cb 0,aK (aE x)] (L1 cb m f gs (some (bb,bc)) (cL fs++b.st.1) (iH fs++[j9 (cL fs).length b b.st])) (gO m f x fs b=none) (γ:=PZ) (fun z=>Ia m f x fs b z) (fun z=>WU cb m f z) (fun _=>aS []):=by
 refine BG 54 Tryz.func247 fun _ _ _=>?_;obtain⟨i,hi⟩:∃i,dy x.Code=some i:=Option.isSome_iff_exists.1 (LW.2 qH);have hin:=jo hi;have RI:i.o9.length≤3:=by rw[hin.2.2.2.2.2.1];exact(tO x.Code).2
 refine Z9 ?_;refine .n (cE (h:=GD hi)) rfl fun g9 h9=>?_;refine Z3 ?_;refine .n (ay FZ.out) rfl fun b4 _=>?_;refine Z6 ?_;have hcase:iR x.Code∨(¬iR x.Code∧fH x.Code)∨(¬iR x.Code∧¬fH x.Code∧di x.Code)∨(¬iR x.Code∧¬fH x.Code∧¬di x.Code):=by by_cases h1:iR x.Code<;>by_cases h2:fH x.Code<;>by_cases h3:di x.Code<;>simp[h1,h2,h3]
 rcases hcase with hc|⟨hc,hv⟩|⟨hc,hv,hk⟩|⟨hc,hv,hk⟩
 ·
  refine Z3 ?_;refine .x (Jb [_,_] [2,3,4,0,1] (h:=yB aj aQ bu cZ jy hc)) rfl (fun h=>h) fun MQ NC=>?_;refine Z3 ?_;refine .Ls rfl rfl rfl rfl rfl (by simp) rfl ?_;refine .p (Al (.t rfl) trivial .ct) rfl ?_;refine Z3 ?_;refine .Ls rfl rfl rfl rfl rfl (by simp) rfl ?_;refine .p (Al (.t rfl) trivial .ct) rfl ?_;refine Z3 ?_;refine CF fun c0=>?_;refine Z2 ?_;refine .oZ (Post.bT rfl (MQ) (by exact NC) (aA.fI [0,1,2] [3,4] rfl rfl) rfl)
 ·
  refine Z3 ?_;refine .p (bg (lU hc) FB.out (.cons (.le (.t rfl) ag.any) (.cons (.t rfl) .nil))) rfl ?_;refine Z3 ?_;refine .gx rfl rfl rfl (by simp) (v5 (rest:=[_,_]) (xI (k:=b) (s:=b.st) (labs:=((fs++[b]).map sE)) aj aQ bu) FB.out (.cons (.when (.t rfl) (fun h=>h)) (.cons (.when (.t rfl) (fun h=>h)) .nil)) (Perm.idx [2,3,4,0,1] rfl rfl)) rfl (fun h=>dm (by unfold fH at hv;omega) (by unfold fH at hv;omega) (by unfold fH at hv;unfold aV;omega) h.2) fun GH Qg=>?_;refine .p (HH (.t rfl) (fun h=>h) (.t rfl)) rfl ?_;refine Z3 ?_;refine .Ls rfl rfl rfl rfl rfl (by simpa using hv) rfl ?_;refine .p (Al (.t rfl) hv .ct) rfl ?_;refine Z3 ?_;refine CF fun c0=>?_;refine Z2 ?_;refine .oZ (Post.bT rfl ((GH.1,some (bb,bc),cL fs++GH.2.1,iH fs++[j9 (cL fs).length b GH.2])) (by(rcases Qg with⟨_,h⟩|⟨h,_⟩;exact fY (by unfold fH at hv;omega) (by unfold fH at hv;omega) (by unfold fH at hv;unfold aV;omega) h;exact absurd hv h)) (aA.fI [0,1,2] [3,4] rfl rfl) rfl)
 ·
  refine Z3 ?_;refine .p (bg (lU hc) FB.out (.cons (.le (.t rfl) ag.any) (.cons (.t rfl) .nil))) rfl ?_;refine Z3 ?_;refine .g (bB.gF rfl rfl rfl rfl (fun hg=>bg (oD hv) FB.out (.cons (.le (.when (.t rfl) hg) ag.any) (.cons (.when (.t rfl) hg) .nil)))) rfl rfl ?_;refine Z4 ?_;refine .gx rfl rfl rfl (by simp) (v5 (rest:=[_,_]) (GB (k:=b) (s:=b.st) (labs:=((fs++[b]).map sE)) aj aQ bu) FB.out (.cons (.when (.t rfl) (fun h=>h.elim id id)) (.cons (.when (.t rfl) (fun h=>h.elim id id)) .nil)) (Perm.idx [2,3,4,0,1] rfl rfl)) rfl (fun h=>dm (by unfold di at hk;omega) (by unfold di at hk;omega) (by unfold di at hk;unfold aV;omega) h.2) fun Kn R0=>?_;refine .p (HH (.t rfl) (fun h=>h.elim id id) (.t rfl)) rfl ?_;refine Z3 ?_;refine Cd (fun c0=>?_) fun c0=>?_
  ·
   refine Z2 ?_;refine .oZ (Post.bT rfl ((Kn.1,some (bb,bc),cL fs++Kn.2.1,iH fs++[j9 (cL fs).length b Kn.2])) (by(rcases R0 with⟨_,h⟩|⟨h,_⟩;exact fY (by unfold di at hk;omega) (by unfold di at hk;omega) (by unfold di at hk;unfold aV;omega) h;exact absurd hk h)) (aA.fI [0,1,2] [3,4] rfl rfl) rfl)
  exact absurd hk c0
 refine Z3 ?_;refine .p (bg (lU hc) FB.out (.cons (.le (.t rfl) ag.any) (.cons (.t rfl) .nil))) rfl ?_;refine Z3 ?_;refine .g (bB.gF rfl rfl rfl rfl (fun hg=>bg (oD hv) FB.out (.cons (.le (.when (.t rfl) hg) ag.any) (.cons (.when (.t rfl) hg) .nil)))) rfl rfl ?_;refine Z4 ?_;refine .g (bB.gF rfl rfl rfl rfl (fun hg=>bg (DV hk) FB.out (.cons (.le (.when (.t rfl) hg) ag.any) (.cons (.when (.t rfl) hg) .nil)))) rfl rfl ?_;refine Z4 ?_;refine Cd (fun c0=>?_) fun c0=>?_
 · exfalso;simp at c0
 refine Z8 ?_;refine Cd (fun c1=>?_) fun c1=>?_
 ·
  have hxf:=hin.2.2.2.1;refine Z4 ?_;refine .x (Jb [_] [1,2,3,4,0] (h:=Bm (k:=b) (s:=b.st) aj aQ bu (hin.2.2.2.1.symm.trans c1) hi)) rfl (fun h=>dm (by unfold iR at hc;omega) (by unfold iR at hc;omega) (by unfold iR at hc;unfold aV;omega) ((vu hc hv hk (by omega)).trans h)) fun J6 Qb=>?_;refine Z2 ?_;refine .oZ (Post.bT rfl ((J6.1,some (bb,bc),cL fs++J6.2.1,iH fs++[j9 (cL fs).length b J6.2])) (by exact fY (by unfold iR at hc;omega) (by unfold iR at hc;omega) (by unfold iR at hc;unfold aV;omega) ((vu hc hv hk (by omega)).trans Qb)) (aA.fI [0,1,2] [3] rfl rfl) rfl)
 have hxf:=hin.2.2.2.1;refine jz ?_;refine Cd (fun c2=>?_) fun c2=>?_
 ·
  refine Z4 ?_;refine .x (Jb [_,_] [2,3,4,0,1] (h:=GF (k:=b) (s:=b.st) aj aQ bu (c2.imp (fun h=>hin.2.2.2.1.symm.trans h) (fun h=>hin.2.2.2.1.symm.trans h)))) rfl (fun h=>dm (by unfold iR at hc;omega) (by unfold iR at hc;omega) (by unfold iR at hc;unfold aV;omega) ((vu hc hv hk (by omega)).trans h)) fun ND W5=>?_;refine Z2 ?_;refine .oZ (Post.bT rfl ((ND.1,some (bb,bc),cL fs++ND.2.1,iH fs++[j9 (cL fs).length b ND.2])) (by exact fY (by unfold iR at hc;omega) (by unfold iR at hc;omega) (by unfold iR at hc;unfold aV;omega) ((vu hc hv hk (by omega)).trans W5)) (aA.fI [0,1,2] [3,4] rfl rfl) rfl)
 have hff:aP x.Code<8∨10<aP x.Code:=by have:¬(i.Form=9∨i.Form=10):=c2;omega
 refine .nF (i:=1) (j:=0) (f:=3) rfl rfl rfl ?_;refine Z7 ?_;refine .x (Jb [_] [1,2,3,0] (h:=mJ (k:=b) (s:=b.st) (g:=⟨i.sF,i.o9⟩) aj (by show i.o9.length≤60000;omega))) rfl (fun h=>dm (by unfold iR at hc;omega) (by unfold iR at hc;omega) (by unfold iR at hc;unfold aV;omega) ((CH hc hv hk hff).trans (by rw[←hin.2.2.2.2.1,←hin.2.2.2.2.2.1];exact h))) fun yt RJ=>?_;refine Z2 ?_;refine .oZ (Post.bT rfl ((yt.1,some (bb,bc),cL fs++yt.2.1,iH fs++[j9 (cL fs).length b yt.2])) (by exact fY (by unfold iR at hc;omega) (by unfold iR at hc;omega) (by unfold iR at hc;unfold aV;omega) ((CH hc hv hk hff).trans (by rw[←hin.2.2.2.2.1,←hin.2.2.2.2.2.1];exact RJ))) (aA.fI [0,1,2] [3] rfl rfl) rfl)
theorem GI(w:World):(Instr.typeAssert Value.nilIface 20 390 true).run Tryz.prog w= .ok (.tuple #[.agg #[.int .i64 0], .bool false]) w:=by
 kernel_rfl
theorem Bn(e:Int)(w:World):(Instr.typeAssert (kz 390 e) 20 390 true).run Tryz.prog w= .ok (.tuple #[.agg #[.int .i64 e], .bool true]) w:=by
 kernel_rfl
theorem GJ(p:Value)(w:World):
    CallsD Tryz.prog 246 #[p] .returning w fun e u' w'=>e= .returned (.tuple #[])∧u'= .returning∧Below w.heap.size w w':=by
  refine callsD_of_wpS Tryz.func246 rfl fun c₀ cs hu=>?_;apply wpS_seq;apply wpS_region;simp[wpOpsS,go_sem,recoverD,hu,Tryz.ntmps246,Exit.thenS,GI];apply wpS_seq;apply wpS_region;simp[wpOpsS,go_sem,Exit.thenS];refine wpS_cond (t:=false) (by simp[Act.eval,Array.replicate]) ?_;simp only[Bool.false_eq_true,if_false];refine wpS_of_wp (wp_skip ?_);have hb:Below w.heap.size w (w.alloc (Obj.cells #[Value.int IntKind.i64 0] 390)):=(Below.refl _ _).alloc (Nat.le_refl _) _;generalize w.alloc (Obj.cells #[Value.int IntKind.i64 0] 390)=w1 at hb;cases c₀
  simp_all [bodyPostS,results,Tryz.results246]
theorem GK{eb:Nat}{ch:List PanicEntry}(hc:vY 390 ch):
    Catch Tryz.prog 246 (.pointer (some ⟨eb,0,none⟩)) ch [aF eb [aa .i64 0]] (δ:=Int) (fun e=>e≠0) (fun e=>[aF eb [aa .i64 e]]):=by
  obtain⟨e,he,rfl⟩:=hc;intro w S F hS hF hSF hown;obtain⟨F1,F2,f1,f2,⟨hFb,arr,T,hh,hn,hcs⟩,_⟩:=hown;obtain⟨u0,Sh,HB⟩:=hcs 0 _ rfl;simp only[af] at HB;subst HB
  have r7:arr= #[.int .i64 0]:=by
    refine Array.ext (by simpa using hn) fun i h1 h2=>?_;have:i=0:=by simp at h2;omega
    subst this;have h3:arr[0]?=some arr[0]:=by simp at hn;simp[hn]
    rw[h3] at Sh;simpa using Sh
  subst r7;refine callsD_of_wpS Tryz.func246 rfl fun c₀ cs hu=>?_;apply wpS_seq;apply wpS_region;have Us:recoverD (c₀::cs)=some (kz 390 e,{c₀ with mode:= .panicking [{v:=kz 390 e,recovered:=true}]}::cs):=by simp only[recoverD,hu]
  generalize B9:kz 390 e=fv at Us;have Zd:∀w:World,(Instr.typeAssert fv 20 390 true).run Tryz.prog w= .ok (.tuple #[.agg #[.int .i64 e], .bool true]) w:=fun w=>by rw[←B9];exact Bn e w
  simp[wpOpsS,go_sem,Us,Tryz.ntmps246,Exit.thenS,Zd];generalize Ze:({fn:=c₀.fn,tmps:=c₀.tmps,todo:=c₀.todo,defers:=c₀.defers,mode:=FrameMode.panicking [{v:=fv,recovered:=true}],kind:=c₀.kind,roundOf:=c₀.roundOf}::cs:List Frame)=cs1;generalize hw1:w.alloc (Obj.cells #[Value.int IntKind.i64 e] 390)=w1;apply wpS_seq;apply wpS_region;simp[wpOpsS,go_sem,Exit.thenS];refine wpS_cond (t:=true) (by simp[Act.eval,Array.replicate]) ?_;simp only[if_true]
  have ax:ir ⟨w,S,F,11,none,[]⟩ w1 S (fun k=>k=w.heap.size∨F k):=by
    rw[←hw1];exact(show ir ⟨w,S,F,11,none,[]⟩ w S F from⟨rfl,rfl,rfl,Nat.le_refl _,fun _ _ _=>rfl,hSF,hS,hF,fun k hk=> .inl hk,fun k hk=> .inl hk,fun _ hk=>hk⟩).eL _
  have lW:∀k,F1 k→F k:=fun k hk=>(f1 k hk).1
  have Ut:cT [aF w.heap.size [aa .i64 e],aF eb [aa .i64 0]] (fun k=>k=w.heap.size∨F k) S w1:=by
    rw[←hw1];refine cT.eL ?_ hS hF _ (qZ hS rfl fun j q hj=>?_)
    · exact⟨F1,fun _=>False,fun k hk=>⟨lW k hk,fun h=>h⟩,fun k hk=>hk.elim,⟨hFb,_,T,hh,hn,hcs⟩,trivial⟩
    · match j,hj with
      |0,hj=>simp at hj;subst hj;exact⟨_,rfl,rfl⟩
      |j+1,hj=>simp at hj
  refine wpS_of_wp (wpIn_wide.1 (show Code.wpIn Fence.wide 0 _ _ _ _ _ from ?_))
  have key:∀{Q:Exit→Act→World→Prop},(∀a w',St ⟨w,S,F,11,none,[]⟩ [aF eb [aa .i64 e],aF w.heap.size [aa .i64 e]] [] a w'→Q .normal a w')→
      aJ Tryz.prog Q ⟨w,S,F,11,none,[]⟩ (Code.region 2 #[⟨some 9, .fieldAddr 390 (.tmp 1) 0,0,"check.go:328", #[],none⟩,⟨some 10, .load 28 (.tmp 9),28,"check.go:328", #[⟨0, .data⟩],none⟩,⟨none, .store 28 (.tmp 0) (.tmp 10),0,"check.go:328", #[⟨1, .data⟩,⟨0, .phase⟩,⟨1, .phase⟩],none⟩] false)
        [aF eb [aa .i64 0],aF w.heap.size [aa .i64 e]] [(0,ai eb 0),(1,ai w.heap.size 0)]:=by
    intro Q hQ;refine aJ.region (.p (BT FF.out (.t rfl)) rfl<| .p (ff (i:=1) FA.out (.t rfl) rfl rfl) rfl<| .s (je (i:=0) FC.out (.t rfl) (.t rfl) rfl rfl)<| .nil ?_);exact fun a w' hst=>hQ a w' (hst.mono (fun _ _ _ _ t q h=>by cases h))
  refine key (fun a w' hst=>?_) _ _ ⟨rfl,by simp,S,_,ax,Ut.perm (List.Perm.swap _ _ _),?_⟩
  · obtain⟨h1,h2,S',F',h3,h4,h5⟩:=hst
    refine⟨h1,_,Ze.symm, .tuple #[],?_,rfl,⟨fv,rfl⟩,S',F',e,he,⟨h3.os,h3.tape,h3.output,h3.size,h3.kept,h3.cR,h3.bD,h3.bO,h3.own,h3.shr,h3.base⟩,?_⟩
    · simp[results,Tryz.results246]
    · obtain⟨G1,G2,g1,g2,g3,g4⟩:=h4
      exact⟨G1,fun _=>False,fun k hk=>⟨(g1 k hk).1,fun h=>h⟩,fun k hk=>hk.elim,g3,trivial⟩
  · intro t q hl
    rw[bw,bw] at hl
    split at hl
    · rename_i h0;subst h0;cases hl;simp[Array.replicate,af]
    split at hl
    · rename_i h1;subst h1;cases hl;simp[Array.replicate,af]
    · cases hl
theorem Uu{f:FuncId}{v:Value}:ag (ux f [af v]) (af (.func (.func f) #[] #[v])):=fun S w u ⟨lb,hv,h1,h2⟩=>by
 match lb,h1,h2 with
 |[x],_,h2=>
  have:=h2 0 _ x rfl rfl;simp only[af] at this;subst this;exact hv
def Qh(m:aR)(f:bU)(x:aq)(fs:List fm)(b:fm)(g:Option PZ×Int):Prop:=match g.1 with|some z=>g.2=0∧Ia m f x fs b z|none=>g.2≠0∧gO m f x fs b=none
abbrev Nq(cb:Nat)(m:aR)(f:bU)(g:Option PZ×Int):List HP:=match g.1 with|some z=>WU cb m f z|none=>[]
theorem GL{b:fm}(aj:(cL fs++b.st.1).length≤60000)(aQ:wL m f)(bu:nt x)(cZ:fs.length≤50000)(jy:AJ (fs++[b]))(qH:iF x.Code≠[]):
    bk Tryz.prog 184 [ai cb 0,aK (aE x)] (L1 cb m f gs (some (bb,bc)) (cL fs++b.st.1) (iH fs++[j9 (cL fs).length b b.st])) (γ:=Option PZ×Int) (Qh m f x fs b) (Nq cb m f) (fun g=>aa .i64 g.2):=by
  refine bk.HG 9 Tryz.func184 rfl rfl rfl fun w0 S0 M=>?_;refine aJ.seq ?_;refine aJ.region (.p (K5 (.t rfl)) rfl<| .n (ay FZ.out) rfl<|fun b4 _=> .nil ?_);refine bx.BN ?_;refine aJ.seq ?_;refine aJ.region (.p (q9 (.cons (.t rfl) .nil)) rfl<| .N5 rfl (.le (.t rfl) Uu)<| .nil ?_);refine bx.BN ?_;refine aJ.seq ?_
  refine aJ.region (.p (eK (.t rfl)) rfl<| .p (pY FA.out FC.out rfl (.t rfl) rfl) rfl<|
    .xd (qa (rest:=[aF b4 [af (.int .i64 0)]]) (GG aj aQ bu cZ jy qH) FB.out (.cons (.t rfl) (.cons (.t rfl) .nil)) (Perm.idx [1,2,3,0] rfl rfl)) rfl (fun ch hD hc=>?_) (fun z hz=> .nil ?_))
  · refine fun a w hst=>bx.Te (c:=⟨w0,S0,M,9,none,[]⟩) (φ:=Qh m f x fs b) (hs':=Nq cb m f) (q:=fun g=>aa .i64 g.2) (GK hc) rfl rfl FB.out (fun e he=>?_) a w hst
    refine Post.aO rfl (none,e) ⟨he,hD⟩ (fun _ _ _ _=>trivial) (.rc (i:=0) FA.out rfl rfl rfl) ?_;exact ag.refl _
  refine bx.BN ?_;refine aJ.seq ?_;refine aJ.region (.s (je (i:=3) FC.out (.t rfl) (.c _) rfl rfl)<| .nil ?_);refine bx.BN ?_;refine aJ.ret ?_;refine bx.Td (c:=⟨w0,S0,M,9,none,[]⟩) (fun w=>GJ _ w) rfl rfl FB.out ?_;refine Post.aO rfl (some z,0) ⟨rfl,hz⟩ (aA.fI [0,1,2] [3] rfl rfl) (.rc (i:=3) FA.out rfl rfl rfl) ?_;exact ag.refl _
theorem xM:cw Tryz.prog 318 [aK (aE x)] (aa .i64 (qS x)):=by
 refine In 15 Tryz.func318 fun _ _ _=>?_;refine dH ?_;refine .p (cA (h:=find_spec)) rfl ?_;refine Z3 ?_;refine .n (ay FZ.out) rfl fun b3 _=>?_;refine Z4 ?_;refine .share (t:=3) (i:=0) rfl rfl ?_;refine Z7 ?_;refine Cd (fun c0=>?_) fun c0=>?_
 ·
  have hf:dy x.Code=none:=by simpa using c0
  refine Z7 ?_;refine aX ?_;exact ag.int (by unfold qS;rw[hf];rfl)
 obtain⟨i,hf⟩:=Option.isSome_iff_exists.1 (Classical.not_not.1 c0);refine dH ?_;refine aX ?_;exact ag.int (by unfold qS;rw[hf];rfl)
theorem jP{b al l:Int}:cw Tryz.prog 361 [aK (aE x),aa .u64 (b),aa .i64 (al),aa .i64 (l)] (ak (x.B=b∧x.eT=al∧(x.L.length:Int)=l)):=by
 refine In 26 Tryz.func361 fun _ _ _=>?_;refine XH ?_;refine aX ?_;exact ag.prop and_assoc
theorem yC:cw Tryz.prog 362 [aa .u64 (n)] (ak (n=64∨n=127∨n=126)):=by
 refine In 13 Tryz.func362 fun _ _ _=>?_;refine Ti ?_;refine aX ?_;exact ag.prop or_assoc
theorem gS:cw Tryz.prog 363 [aa .u64 (n)] (ak (th n)):=by
 refine In 5 Tryz.func363 fun _ _ _=>?_;refine jz ?_;refine aX ?_;exact ag.refl _
theorem Bo:cw Tryz.prog 365 [aa .u64 (n)] (ak (¬th n)):=by
 refine In 6 Tryz.func365 fun _ _ _=>?_;refine Z8 ?_;refine .p (cA (h:=gS)) rfl ?_;refine Z5 ?_;refine aX ?_;exact ag.refl _
theorem DW{l:List Int}{p:Int→Prop}:cw Tryz.prog 395 [an 1 cK l,mM Tryz.prog (fun _:Int=>True) (fun x=>[aa .u64 x]) (fun x=>ak (p x))] (aa .i64 (oE p l)):=by
 refine In 19 Tryz.func395 fun _ _ _=>?_;refine .fact (t:=0) rfl (fun S w v h=>eA h) fun hlen=>?_;refine j4 ?_;refine .bP (σ:=Nat) (fun _=>[]) (fun k=>[(8,aa .i64 (k:Int))]) (fun k=>k≤l.length∧fc p l k) (fun k=>l.length-k) 0 ⟨by omega,fc.zero p l⟩ rfl ?_ ?_
 · exact(.get rfl (ag.refl _) (.refl _ _))
 rintro k ⟨hk,hnot⟩;refine Z6 ?_;refine Cd (fun c0=>?_) fun c0=>?_
 ·
  obtain⟨x,hx⟩:=ah (xs:=l) (k:=k) (by omega);refine uZ ?_;refine .p (cI _) rfl ?_;refine Z1 ?_;refine .p (cV x) rfl ?_;refine Z2 ?_;refine Cd (fun c1=>?_) fun c1=>?_
  ·
   refine fW ?_;refine aX ?_;exact ag.int (qf hx (by assumption) hnot).symm
  refine Z7 ?_;refine .round (k+1) ⟨by omega,hnot.succ hx (by assumption)⟩ (by omega) rfl ?_;exact(.get rfl (ag.int (by omega)) (.keep 12 rfl rfl))
 refine ek ?_;refine aX ?_;exact ag.int (m9 (hnot.all (by omega))).symm
theorem DX{l:List Int}{p:Int→Prop}:cw Tryz.prog 364 [an 1 cK l,mM Tryz.prog (fun _:Int=>True) (fun x=>[aa .u64 x]) (fun x=>ak (p x))] (ak (∃x∈l,p x)):=by
 refine In 9 Tryz.func364 fun _ _ _=>?_;refine Z9 ?_;refine .p (cA (h:=DW)) rfl ?_;refine Z5 ?_;refine aX ?_;exact ag.prop gL
theorem uQ(aj:0≤x.A)(aQ:0≤x.B):cw Tryz.prog 314 [aK (aE x)] (ak (iQ x)):=by
 refine In 114 Tryz.func314 fun _ _ _=>?_;have hR:=Mg aj aQ;generalize hF:qS x=fi at hR;refine dH ?_;refine .p ((cA (h:=xM)).le (ag.int hF)) rfl ?_;refine Z9 ?_;refine Cd (fun c0=>?_) fun c0=>?_
 ·
  refine Z7 ?_;refine .g (bB.gT rfl rfl rfl rfl (fun hg=>bg (jP) FB.out (.cons (.when (.t rfl) hg) (.cons (.c _) (.cons (.c _) (.cons (.c _) .nil)))))) rfl rfl ?_;refine Z7 ?_;refine aX ?_;exact ag.prop (by rw[hR];unfold kD mz;simp[*,List.length_eq_zero_iff,Int.natCast_eq_zero,and_assoc,th]<;>omega)
 refine Z6 ?_;refine Cd (fun c1=>?_) fun c1=>?_
 ·
  refine Z4 ?_;refine .p (cA (h:=yC)) rfl ?_;refine Z2 ?_;refine .g (bB.gT rfl rfl rfl rfl (fun hg=>bg (jP) FB.out (.cons (.when (.t rfl) hg) (.cons (.c _) (.cons (.c _) (.cons (.c _) .nil)))))) rfl rfl ?_;refine Z7 ?_;refine aX ?_;exact ag.prop (by rw[hR];unfold kD mz;simp[*,List.length_eq_zero_iff,Int.natCast_eq_zero,and_assoc,th]<;>omega)
 refine .cut (σ:=Unit) (fun _=>[]) (fun _=>[(24,ak (fi=2∨fi=4∨fi=6∨fi=7∨fi=9))]) (fun _=>True) ?_ ?_
 ·
  refine Z6 ?_;refine Cd (fun c2=>?_) fun c2=>?_
  ·
   refine Z1 ?_;refine .meet () trivial rfl (.get rfl (ag.prop (by omega)) (.keep 2 rfl rfl))
  refine Z6 ?_;refine Cd (fun c3=>?_) fun c3=>?_
  ·
   refine Z1 ?_;refine .meet () trivial rfl (.get rfl (ag.prop (by omega)) (.keep 4 rfl rfl))
  refine Z6 ?_;refine Cd (fun c4=>?_) fun c4=>?_
  ·
   refine Z1 ?_;refine .meet () trivial rfl (.get rfl (ag.prop (by omega)) (.keep 6 rfl rfl))
  refine Z6 ?_;refine Cd (fun c5=>?_) fun c5=>?_
  ·
   refine Z1 ?_;refine .meet () trivial rfl (.get rfl (ag.prop (by omega)) (.keep 8 rfl rfl))
  refine Z4 ?_;refine .meet () trivial rfl (.get rfl (ag.prop (by omega)) (.keep 10 rfl rfl))
 intro _ _;refine Cd (fun c6=>?_) fun c6=>?_
 ·
  refine Z4 ?_;refine .p (cA (h:=gS)) rfl ?_;refine Z2 ?_;refine .g (bB.gT rfl rfl rfl rfl (fun hg=>bg (jP) FB.out (.cons (.when (.t rfl) hg) (.cons (.c _) (.cons (.c _) (.cons (.c _) .nil)))))) rfl rfl ?_;refine Z7 ?_;refine aX ?_;exact ag.prop (by rw[hR];unfold kD mz;simp[*,List.length_eq_zero_iff,Int.natCast_eq_zero,and_assoc,th]<;>omega)
 refine Z6 ?_;refine Cd (fun c7=>?_) fun c7=>?_
 ·
  refine Z4 ?_;refine .p (bg (DX (l:=x.L) (p:=fun n=>¬th n)) FB.out (.cons (.t rfl) (.cons (.le (.f _) (pZ FB.out (fun(n:Int) (_:True)=>Bo (n:=n)))) .nil))) rfl ?_;refine Z7 ?_;refine .p (cA (h:=gS)) rfl ?_;refine uZ ?_;refine .g (bB.gT rfl rfl rfl rfl (fun hg=>bg (jP) FB.out (.cons (.when (.t rfl) hg) (.cons (.c _) (.cons (.c _) (.cons (.when (.t rfl) hg) .nil)))))) rfl rfl ?_;refine Z7 ?_;refine aX ?_;exact ag.prop (by rw[hR];unfold kD mz;simp[*,List.length_eq_zero_iff,Int.natCast_eq_zero,and_assoc,th]<;>omega)
 refine .cut (σ:=Unit) (fun _=>[]) (fun _=>[(62,ak (fi=5∨fi=10))]) (fun _=>True) ?_ ?_
 ·
  refine Z6 ?_;refine Cd (fun c8=>?_) fun c8=>?_
  ·
   refine Z1 ?_;refine .meet () trivial rfl (.get rfl (ag.prop (by omega)) (.keep 2 rfl rfl))
  refine Z4 ?_;refine .meet () trivial rfl (.get rfl (ag.prop (by omega)) (.keep 4 rfl rfl))
 intro _ _;refine Cd (fun c9=>?_) fun c9=>?_
 ·
  refine Z4 ?_;refine .p (cA (h:=gS)) rfl ?_;refine Z3 ?_;refine .g (bB.gT rfl rfl rfl rfl (fun hg=>bg (gS) FB.out (.cons (.when (.t rfl) hg) .nil))) rfl rfl ?_;refine Z5 ?_;refine .g (bB.gT rfl rfl rfl rfl (fun hg=>bg (jP) FB.out (.cons (.when (.t rfl) hg) (.cons (.when (.t rfl) hg) (.cons (.c _) (.cons (.c _) .nil)))))) rfl rfl ?_;refine Z7 ?_;refine aX ?_;exact ag.prop (by rw[hR];unfold kD mz;simp[*,List.length_eq_zero_iff,Int.natCast_eq_zero,and_assoc,th]<;>omega)
 refine Z6 ?_;refine Cd (fun zD=>?_) fun zD=>?_
 ·
  refine Z4 ?_;refine .p (cA (h:=gS)) rfl ?_;refine Z22 ?_;refine aX ?_;exact ag.prop (by rw[hR];unfold kD mz;simp[*,List.length_eq_zero_iff,Int.natCast_eq_zero,and_assoc,th]<;>omega)
 refine Z6 ?_;refine Cd (fun BH=>?_) fun BH=>?_
 ·
  refine Z8 ?_;refine .g (bB.gF rfl rfl rfl rfl (fun hg=>bg (gS) FB.out (.cons (.when (.t rfl) hg) .nil))) rfl rfl ?_;refine Z3 ?_;refine .g (bB.gT rfl rfl rfl rfl (fun hg=>bg (jP) FB.out (.cons (.when (.t rfl) hg) (.cons (.c _) (.cons (.c _) (.cons (.c _) .nil)))))) rfl rfl ?_;refine Z7 ?_;refine aX ?_;exact ag.prop (by rw[hR];unfold kD mz;simp[*,List.length_eq_zero_iff,Int.natCast_eq_zero,and_assoc,th]<;>omega)
 refine Z9 ?_;refine aX ?_;exact ag.prop (by rw[hR];unfold kD mz;simp[*,List.length_eq_zero_iff,Int.natCast_eq_zero,and_assoc,th]<;>omega)
variable {g:SB} {xs:List UInt8}
theorem qA{n:Nat}(aj:n<18446744073709551616)(aQ:xs.length≤100000):bk Tryz.prog 244 [af (bA g xs.length),aa .u64 ((n:Int))] [aI g 1 aL xs] (γ:=SB×List UInt8) (fun z=>z.2.length=xs.length+jA n) (fun z=>[aI z.1 1 aL z.2]) (fun z=>af (bA z.1 z.2.length)):=by
 refine In 21 Tryz.func244 fun _ _ _=>?_;have Uv:=iL aj;refine Z7 ?_;refine .bP (σ:=SB×List UInt8×Nat) (fun z=>[aI z.1 1 aL z.2.1]) (fun z=>[(0,af (bA z.1 z.2.1.length)),(1,aa .u64 (z.2.2:Int))]) (fun z=>z.2.1.length+jA z.2.2=xs.length+jA n∧z.2.2≤n) (fun z=>z.2.2) (g,xs,n) ⟨rfl,Nat.le_refl _⟩ rfl ?_ ?_
 · exact(.get rfl (ag.refl _) (.get rfl (ag.refl _) (.refl _ _)))
 rintro⟨g1,ys,j⟩ ⟨hl,hk⟩;simp only at hl hk ⊢;refine Z7 ?_;refine Cd (fun c0=>?_) fun c0=>?_
 ·
  refine Z7 ?_;refine .p ((dM FU.out FU.out (.t rfl)).le (ag.int (show _=((j%256:Nat):Int) by rw[zF];omega))) rfl ?_;refine .p (wS (b:=127) (by omega) (by decide) (.t rfl) (.c _)) rfl ?_;refine .p ((Ie (b:=128) (CQ _) (by decide) (.t rfl) (.c _)).le (zG (Mf (CQ _)))) rfl ?_;refine .p (cB aL [(UInt8.ofNat ((j%256 &&& 127)|||128))]) rfl ?_;refine .n (bn (i:=0) FU.out FU.out FC.out rfl FZ.out rfl FY.out (.t rfl) (.t rfl) rfl (by simp only[List.length_cons,List.length_nil];omega) (by simp only[List.length_cons,List.length_nil];omega)) rfl fun Uw _=>?_;refine Z5 ?_;refine .p ((iA (s:=7) (.t rfl) (.c _) (by decide)).le (ag.int (show((j/2^7:Nat):Int)=((j/128:Nat):Int) from rfl))) rfl ?_;refine Z3 ?_;refine .round (Uw,ys++[(UInt8.ofNat ((j%256 &&& 127)|||128))],j/128) ⟨by(show(ys++[_]).length+jA (j/128)=_;rw[List.length_append];simp only[List.length_cons,List.length_nil];have:=HZ (n:=j) (by omega);omega),by show j/128≤n;omega⟩ (by show j/128<j;omega) rfl ?_;exact(.get rfl (ag.refl _) (.get rfl (ag.refl _) ((.keep 15 rfl rfl))))
 refine Z9 ?_;refine .p ((dM FU.out FU.out (.t rfl)).le (ag.trans (ag.int (show _=((j:Nat):Int) by rw[zF];omega)) (zG (by omega)))) rfl ?_;refine .p (cB aL [UInt8.ofNat j]) rfl ?_;refine .n (bn (i:=0) FU.out FU.out FC.out rfl FZ.out rfl FY.out (.t rfl) (.t rfl) rfl (by simp only[List.length_cons,List.length_nil];omega) (by simp only[List.length_cons,List.length_nil];omega)) rfl fun NG _=>?_;refine Z4 ?_;refine Post.aO rfl ((NG,ys++[UInt8.ofNat j])) (by exact(by(show(ys++[_]).length=_;rw[List.length_append];simp only[List.length_cons,List.length_nil];have:=AB (n:=j) (by omega);omega))) (fun _ _ _ h=>h) (.rt rfl) ?_;exact ag.refl _
theorem DY{a:Nat}(aj:a≤1000):cw Tryz.prog 403 [aa .i64 ((a:Int))] (aa .i64 ((((a+6)/7:Nat):Int))):=by
 refine In 7 Tryz.func403 fun _ _ _=>?_;refine dH ?_;refine .p (PJ (.t rfl) (.c _) (by omega) (by omega) bW) rfl ?_;refine Z4 ?_;refine aX ?_;exact ag.int (by omega)
theorem DZ(aj: -9223372036854775808≤n)(aQ:n≤9223372036854775807):cw Tryz.prog 396 [aa .i64 (n)] (aa .i64 ((kC n:Int))):=by
 refine In 12 Tryz.func396 fun _ _ _=>?_;refine Z5 ?_;refine .cut (σ:=Unit) (fun _=>[]) (fun _=>[(0,aa .i64 (if n<0 then-n-1 else n))]) (fun _=>True) ?_ ?_
 ·
  refine Z6 ?_;refine Cd (fun c0=>?_) fun c0=>?_
  ·
   refine Z2 ?_;refine .p (JN aj aQ (.t rfl)) rfl ?_;refine Z2 ?_;refine .meet () trivial rfl (.get rfl (ag.int (by rw[if_pos c0])) (.keep 5 rfl rfl))
  refine Z1 ?_;refine .meet () trivial rfl (.get rfl (ag.int (by rw[if_neg c0])) (.keep 2 rfl rfl))
 intro _ _;have ht:0≤(if n<0 then-n-1 else n)∧(if n<0 then-n-1 else n)≤9223372036854775807:=by split<;>omega
 generalize htn:(if n<0 then-n-1 else n)=t at ht;have bg2:=TE (a:=t.toNat) (by omega);have hls:kC n=(tj t.toNat+7)/7:=by rw[OM,←htn];split<;>rfl
 refine Z4 ?_;refine .p (bg (xm (a:=t.toNat) (by omega)) FB.out (.cons (.le (.t rfl) (ag.int (show t=((t.toNat:Nat):Int) by omega))) .nil)) rfl ?_;refine .p ((gf (.t rfl) (.c _) bW).le (ag.int (show _=((tj t.toNat+1:Nat):Int) by omega))) rfl ?_;refine .p (cA (h:=DY (a:=tj t.toNat+1) (by omega))) rfl ?_;refine Z4 ?_;refine aX ?_;exact ag.int (by rw[hls])
theorem GM(aj: -9223372036854775808≤n)(aQ:n≤9223372036854775807)(bu:xs.length≤100000):bk Tryz.prog 367 [af (bA g xs.length),aa .i64 (n)] [aI g 1 aL xs] (γ:=SB×List UInt8) (fun z=>z.2.length=xs.length+kC n) (fun z=>[aI z.1 1 aL z.2]) (fun z=>af (bA z.1 z.2.length)):=by
 refine In 27 Tryz.func367 fun _ _ _=>?_;have Uv:=H6 aj (by omega:n<9223372036854775808);have Ev:=LY n;refine Z9 ?_;refine .p (cA (h:=DZ aj aQ)) rfl ?_;refine Z4 ?_;refine .bP (σ:=SB×List UInt8×Nat×Int) (fun z=>[aI z.1 1 aL z.2.1]) (fun z=>[(0,af (bA z.1 z.2.1.length)),(1,aa .i64 z.2.2.2),(5,aa .i64 (z.2.2.1:Int))]) (fun z=>z.2.1.length+z.2.2.1=xs.length+kC n∧1≤z.2.2.1) (fun z=>z.2.2.1) (g,xs,kC n,n) ⟨rfl,Ev⟩ rfl ?_ ?_
 · exact(.get rfl (ag.refl _) (.get rfl (ag.refl _) (.get rfl (ag.refl _) (.refl _ _))))
 rintro⟨g1,ys,j,v⟩ ⟨hl,hk⟩;simp only at hl hk ⊢;refine Z7 ?_;refine Cd (fun c0=>?_) fun c0=>?_
 ·
  refine Z8 ?_;refine .p ((dM FU.out FU.out (.t rfl)).le (ag.int (show _=(((v%256).toNat%256:Nat):Int) by rw[zF];omega))) rfl ?_;refine .p (wS (b:=127) (by omega) (by decide) (.t rfl) (.c _)) rfl ?_;refine .p ((Ie (b:=128) (CQ _) (by decide) (.t rfl) (.c _)).le (zG (Mf (CQ _)))) rfl ?_;refine .p (cB aL [(UInt8.ofNat (((v%256).toNat%256 &&& 127)|||128))]) rfl ?_;refine .n (bn (i:=0) FU.out FU.out FC.out rfl FZ.out rfl FY.out (.t rfl) (.t rfl) rfl (by simp only[List.length_cons,List.length_nil];omega) (by simp only[List.length_cons,List.length_nil];omega)) rfl fun yt _=>?_;refine Z5 ?_;refine .p (HF (s:=7) (.t rfl) (.c _) (by decide)) rfl ?_;refine Z9 ?_;refine .round (yt,ys++[(UInt8.ofNat (((v%256).toNat%256 &&& 127)|||128))],j-1,v/2^7) ⟨by(show(ys++[_]).length+(j-1)=_;rw[List.length_append];simp only[List.length_cons,List.length_nil];omega),by show 1≤j-1;omega⟩ (by show j-1<j;omega) rfl ?_;exact(.get rfl (ag.refl _) (.get rfl (ag.refl _) (.get rfl (ag.int (by show(_:Int)=((j-1:Nat):Int);omega)) ((.keep 19 rfl rfl)))))
 refine Z9 ?_;refine .p ((dM FU.out FU.out (.t rfl)).le (ag.int (show _=(((v%256).toNat%256:Nat):Int) by rw[zF];omega))) rfl ?_;refine .p ((wS (b:=127) (by omega) (by decide) (.t rfl) (.c _)).le (zG (CQ _))) rfl ?_;refine .p (cB aL [UInt8.ofNat ((v%256).toNat%256 &&& 127)]) rfl ?_;refine .n (bn (i:=0) FU.out FU.out FC.out rfl FZ.out rfl FY.out (.t rfl) (.t rfl) rfl (by simp only[List.length_cons,List.length_nil];omega) (by simp only[List.length_cons,List.length_nil];omega)) rfl fun GH _=>?_;refine Z4 ?_;refine Post.aO rfl ((GH,ys++[UInt8.ofNat ((v%256).toNat%256 &&& 127)])) (by exact(by(show(ys++[_]).length=_;rw[List.length_append];simp only[List.length_cons,List.length_nil];omega))) (fun _ _ _ h=>h) (.rt rfl) ?_;exact ag.refl _
theorem iW{l:List Int}(aj:∀n∈l,0≤n∧n<18446744073709551616)(aQ:xs.length≤50000)(bu:l.length≤200):bk Tryz.prog 319 [af (bA g xs.length),an 1 cK l] [aI g 1 aL xs] (γ:=SB×List UInt8) (fun z=>z.2.length=xs.length+rF l) (fun z=>[aI z.1 1 aL z.2]) (fun z=>af (bA z.1 z.2.length)):=by
 refine In 18 Tryz.func319 fun _ _ _=>?_;refine j4 ?_;refine .bP (σ:=SB×List UInt8×Nat) (fun z=>[aI z.1 1 aL z.2.1]) (fun z=>[(0,af (bA z.1 z.2.1.length)),(9,aa .i64 (z.2.2:Int))]) (fun z=>z.2.1.length=xs.length+rF (l.take z.2.2)∧z.2.2≤l.length) (fun z=>l.length-z.2.2) (g,xs,0) ⟨by simp[rF],Nat.zero_le _⟩ rfl ?_ ?_
 · exact(.get rfl (ag.refl _) (.get rfl (ag.refl _) (.refl _ _)))
 rintro⟨g1,ys,j⟩ ⟨hl,hk⟩;simp only at hl hk ⊢;have hsu:=qt (l.take j) (fun n hn=>aj n (List.mem_of_mem_take hn));have htl:(l.take j).length≤l.length:=by simp;omega
 refine Z6 ?_;refine Cd (fun c0=>?_) fun c0=>?_
 ·
  obtain⟨x,hx⟩:=ah (xs:=l) (k:=j) (by omega);obtain⟨hx0,bg3⟩:=aj x (List.mem_of_getElem? hx);refine Z6 ?_;refine .p (cI j (h:=hx)) rfl ?_;refine Z7 ?_;refine .n (kM (rest:=[]) (qA (n:=x.toNat) (by omega) (by omega)) FB.out (.cons (.t rfl) (.cons (.le (.t rfl) (ag.int (show x=((x.toNat:Nat):Int) by omega))) .nil)) (Perm.idx [0] rfl rfl)) rfl fun uc KX=>?_;refine Z8 ?_;refine .round (uc.1,uc.2,j+1) ⟨by(show uc.2.length=_;rw[KX,hl,←cu hx,JO];unfold eJ;omega),by show j+1≤_;omega⟩ (by show l.length-(j+1)<l.length-j;omega) rfl ?_;exact(.get rfl (ag.refl _) (.get rfl (ag.int (by show(_:Int)=((j+1:Nat):Int);omega)) ((.keep 12 rfl rfl))))
 have hjl:l.take j=l:=List.take_of_length_le (by omega);refine fW ?_;refine Post.aO rfl ((g1,ys)) (by exact(by(show ys.length=_;rw[hl,hjl]))) (fun _ _ _ h=>h) (.rt rfl) ?_;exact ag.refl _
theorem GN(aj:iF x.Code≠[]):bk Tryz.prog 317 [aK (aE x)] [] (γ:=SB×List UInt8) (fun z=>z.2.length=uG x) (fun z=>[aI z.1 1 aL z.2]) (fun z=>af (bA z.1 z.2.length)):=by
 refine In 16 Tryz.func317 fun _ _ _=>?_;have hci:=AL aj;refine j4 ?_;refine Cd (fun c0=>?_) fun c0=>?_
 ·
  refine Z4 ?_;refine .p ((dM FU.out FU.out (.t rfl)).le (ag.trans (ag.int (show _=((x.Code.toNat:Nat):Int) by rw[zF];omega)) (zG (by omega)))) rfl ?_;refine .n (jT aL [UInt8.ofNat x.Code.toNat] FU.out FC.out rfl FZ.out rfl (.cons (.t rfl) .nil) rfl rfl rfl rfl rfl) rfl fun g9 _=>?_;refine Z5 ?_;refine Post.aO rfl ((g9,[UInt8.ofNat x.Code.toNat])) (by exact(by unfold uG;rw[if_neg (by omega)];rfl)) (fun _ _ _ h=>h) (.rt rfl) ?_;exact ag.refl _
 refine Z4 ?_;refine .n (jT aL [252] FU.out FC.out rfl FZ.out rfl (.cons (.c _) .nil) rfl rfl rfl rfl rfl) rfl fun Ix _=>?_;refine Z4 ?_;refine .n (kM (rest:=[]) (qA (xs:=[252]) (n:=(x.Code-64512).toNat) (by omega) (by simp)) FB.out (.cons (.t rfl) (.cons (.le (.t rfl) (ag.int (show x.Code-64512=(((x.Code-64512).toNat:Nat):Int) by omega))) .nil)) (Perm.idx [0] rfl rfl)) rfl fun uc KX=>?_;refine Z4 ?_;refine Post.aO rfl (uc) (by exact(by rw[KX];unfold uG;rw[if_pos (by omega)];rfl)) (fun _ _ _ h=>h) (.rt rfl) ?_;exact ag.refl _
theorem Ku(aj:0≤x.A)(aQ:x.A<18446744073709551616)(bu:0≤x.B)(cZ:x.B<18446744073709551616)(jy:0≤x.eT)(qH:x.eT≤31)(BJ:xs.length≤50000):bk Tryz.prog 320 [aK (aE x),af (bA g xs.length)] [aI g 1 aL xs] (γ:=SB×List UInt8) (fun z=>z.2.length=xs.length+JP x) (fun z=>[aI z.1 1 aL z.2]) (fun z=>af (bA z.1 z.2.length)):=by
 refine In 27 Tryz.func320 fun _ _ _=>?_;refine j4 ?_;refine Cd (fun c0=>?_) fun c0=>?_
 ·
  refine Z8 ?_;refine .p (cB cK [x.eT,x.B]) rfl ?_;refine .n (cE (h:=iW (l:=[x.eT,x.B]) (by simp;omega) BJ (by simp))) rfl fun uc KX=>?_;refine Z5 ?_;refine Post.aO rfl (uc) (by exact(by rw[KX];unfold JP;rw[if_pos c0];simp[rF])) (fun _ _ _ h=>h) (.rt rfl) ?_;exact ag.refl _
 refine jz ?_;refine .p (cB cK [x.eT+64,x.A,x.B]) rfl ?_;refine .n (cE (h:=iW (l:=[x.eT+64,x.A,x.B]) (by simp;omega) BJ (by simp))) rfl fun GH Qg=>?_;refine Z4 ?_;refine Post.aO rfl (GH) (by exact(by rw[Qg];unfold JP;rw[if_neg c0];simp[rF];omega)) (fun _ _ _ h=>h) (.rt rfl) ?_;exact ag.refl _
theorem GO(aj:0≤x.A)(aQ:x.A<18446744073709551616)(bu:x.Code=65∨x.Code=66)(cZ:x.Code=65→x.A≤4294967295)(jy:xs.length≤50000):bk Tryz.prog 321 [aK (aE x),af (bA g xs.length)] [aI g 1 aL xs] (γ:=SB×List UInt8) (fun z=>z.2.length=xs.length+kC (ox x)) (fun z=>[aI z.1 1 aL z.2]) (fun z=>af (bA z.1 z.2.length)):=by
 refine In 19 Tryz.func321 fun _ _ _=>?_;refine dH ?_;refine .p ((dM FU.out FU.out (.t rfl)).le (ag.int (ON aj aQ))) rfl ?_;refine Z3 ?_;refine .cut (σ:=Unit) (fun _=>[aI g 1 aL xs]) (fun _=>[(5,aa .i64 (ox x))]) (fun _=>True) ?_ ?_
 ·
  refine Z7 ?_;refine Cd (fun c0=>?_) fun c0=>?_
  ·
   refine Z3 ?_;refine .p ((dM FU.out FU.out (.t rfl)).le (ag.int (OO aj (cZ (by omega))))) rfl ?_;refine .p (gW FU.out FU.out (.t rfl) (cG (by split<;>omega) (by split<;>omega))) rfl ?_;refine Z2 ?_;refine .meet () trivial rfl (.get rfl (ag.int (by rw[show ox x=(if x.A<2147483648 then x.A else x.A-4294967296) from if_pos (by omega)])) (.keep 8 rfl rfl))
  refine Z1 ?_;refine .meet () trivial rfl (.get rfl (ag.int (by rw[show ox x=(if x.A<9223372036854775808 then x.A else x.A-18446744073709551616) from if_neg (by omega)])) (.keep 3 rfl rfl))
 intro _ _;have hwv: -9223372036854775808≤ox x∧ox x≤9223372036854775807:=by unfold ox;(repeat split)<;>omega
 refine Z4 ?_;refine .n (cE (h:=GM (n:=ox x) hwv.1 hwv.2 (by omega))) rfl fun yt RJ=>?_;refine Z4 ?_;refine Post.aO rfl (yt) (by exact RJ) (fun _ _ _ h=>h) (.rt rfl) ?_;exact ag.refl _
end Go.Proofs.YtmacjbfbpjgmnaaGreatDoor
end
