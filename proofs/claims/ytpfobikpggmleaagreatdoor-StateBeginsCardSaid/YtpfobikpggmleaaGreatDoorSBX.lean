/-
  What the statement's proof leans on, several texts in one (packed by a program).
-/
import Derived.Test.YtpfobikpggmleaaGreatDoorSBW
import Derived.Lib.LaidTab
set_option linter.all false
set_option maxRecDepth 1000000
set_option maxHeartbeats 4000000
section
namespace Go.Hl
open Go.RowKit
instance (m:aT):bH (bf m):=by unfold bf;infer_instance
def NO(x:ay):Prop:=(0≤x.A∧x.A<18446744073709551616)∧(0≤x.B∧x.B<18446744073709551616)∧∀n∈x.L,0≤n
theorem uO{x:aT}(hb:Ir x):0≤qC x∧qC x≤17100*281474976710656:=by
 have h5:=(zO hb).2.2.2.2;have hq:=iS (xs:=x.bl) (g:=xN) (cap:=25) 281474976710656 (by decide) hb.data;unfold qC;omega
theorem Ti{x:aT}(h:vl x)(hw:∀f∈x.aA,∀y∈f.Body.L,NO y)(h0:qC x+max ((x.aA.length:Int)-12) 0+max ((x.bl.length:Int)-4) 0≤0):wP x∧lI x∧x.aA.length≤60000:=by
 have hb:=uO (pO h);have hs:wP x:=Dc h (by omega);refine⟨hs,⟨fun f hf y hy=>?_,fun f hf=>?_,fun f hf=>?_⟩,by omega⟩
 · obtain⟨⟨a1,a2⟩,⟨b1,b2⟩,c⟩:=hw f hf y hy
   exact⟨a1,a2,b1,b2,c,by have:=(hs.fn f hf).all y hy;omega⟩
 · have:=(hs.fn f hf).l;omega
 · have:=(hs.fn f hf).locals;omega
end Go.Hl
end
section
namespace Go.Proofs.YtpfobikpggmleaaGreatDoor
open Go.Hl Go.RowKit
theorem Ef{x:aT}:cQ Tryz.prog 7 [aC (bf x)] (ag .i64 (qC x+max ((x.aA.length:Int)-12) 0+max ((x.bl.length:Int)-4) 0)):=by
 refine In 17 Tryz.func7 fun _ _ _=>?_;refine .fact (t:=0) rfl (fun S w v h=>sk h) fun hlen=>?_;have hall:=hlen;obtain⟨⟨hl0,j7,kX,mG,mH,mI,mJ,mK⟩,⟨TY,hi1,hi2,SM,hi4⟩,PA⟩:=hlen;have TZ:=uO (pO hall);refine Z7 ?_;refine .br 13 2 FM.out (by kernel_rfl) (k:= ?_);refine Z1 ?_;refine .p (cA (h:=J2)) ?_;refine EX ?_;refine bB ?_;exact af.refl _
theorem Kg{sb pb:Nat}{X:ox}{a:ej}{m:aT}{num t:Int}{g:Nat}{mv:VP}{i:Int}{v:Nat}(az:dy X a)(hp1:g+8*m.an.length≤X.size)(hp2:v<18446744073709551616)(fI:∀z∈m.an,eP z.Ty=32∨eP z.Ty=64)(oe:m.an.length≤60000):cv Tryz.prog 22 [aD sb 0,ag .i64 i,ag .u64 (v:Int)] (lB sb X pb m num (g:Int) t mv::pP X a) (γ:=Unit) (fun _=>True) (fun _=>lB sb X pb m num (g:Int) t mv::pP X (tu m g a i v)) (fun _=>ag .i64 (SF m i)):=by
 by_cases hi:gA i m.an.length
 · have hi2:=hi
   unfold gA at hi2;obtain⟨z,hz⟩:=ah (xs:=m.an) (k:=i.toNat) (by omega);have e1:tu m g a i v=a.put (g+8*i.toNat) (xK (pQ z.Ty v) 8):=by unfold tu;rw[if_pos hi,yD hz]
   have e2:SF m i=0:=if_pos hi;rw[e1,e2,show i=((i.toNat:Nat):Int) by omega];exact B8 (i:=i.toNat) hz az (by omega) hp2 (fI z (List.mem_of_getElem? hz)) oe
 · have e1:tu m g a i v=a:=if_neg hi
   have e2:SF m i=2:=if_neg hi;rw[e1,e2];exact Jv (by unfold gA at hi;omega)
theorem v8{x:aT}{num gi:Int}{v:Nat}(az:∀f∈x.aA,∀y∈f.Body.L,NO y)(hp1:U8 x)(hp2:v<18446744073709551616):cQ Tryz.prog 6 [aC (bf x),ag .i64 num,ag .i64 gi,ag .u64 (v:Int)] (ak True):=by
 refine In 207 Tryz.func6 fun _ _ _=>?_;refine .fact (t:=0) rfl (fun S w v h=>sk h) fun hlen=>?_;have hall:=hlen;obtain⟨⟨hl0,j7,kX,mG,mH,mI,mJ,mK⟩,⟨TY,hi1,hi2,SM,hi4⟩,PA⟩:=hlen;have hgm:=uO (pO hall);refine cD ?_;refine .p (cA (h:=Ef)) rfl ?_;refine Z2 ?_;refine .g (bU.gF rfl rfl rfl rfl (fun hg=>bA (vT) FB.out .nil)) rfl rfl ?_;refine Z4 ?_;refine Cd (fun c0=>?_) fun c0=>?_
 ·
  refine Z2 ?_;refine .p (cA (h:=vT)) rfl ?_;refine Z5 ?_;refine bB ?_;exact af.refl _
 obtain⟨yz,hmo,hfl⟩:=Ti hall az (by omega);have hd4:x.bl.length≤4:=by omega
 clear hall hgm c0;refine Z4 ?_;refine .n (cE (h:=wW (n:=8192) (by decide))) rfl fun AW KQ=>?_;refine Z8 ?_;have hAo:dy AW (lE 8192):=Jr KQ (by decide);have hcs:¬j8 x∨(j8 x∧(num<0∨1073741824<num))∨∃(_:j8 x) (hm:nM x) (he:Ju x),0≤num∧num≤1073741824:=by(by_cases hv:j8 x;exact .inr (if hn:num<0∨1073741824<num then .inl ⟨hv,hn⟩ else .inr ⟨hv,XI hv.1 hp1 yz,Vf hv.1 yz,by omega,by omega⟩);exact .inl hv)
 rcases hcs with hv|⟨hv,hn⟩|⟨hv,hm,he,hn0,R6⟩
 ·
  refine Z2 ?_;refine .p (cA (h:=qR yz)) rfl ?_;refine Z1 ?_;refine .n (cE (h:=nj (fr:=3))) rfl fun yJ Qk=>?_;refine Z1 ?_;refine .p (cA (h:=JZ (X:=AW) hmo hfl hv)) rfl ?_;refine jP ?_;refine .n (cE (h:=sJ hmo hfl)) rfl fun QU QV=>?_;refine Z3 ?_;refine Cd (fun c1=>?_) fun c1=>?_
  ·
   refine EX ?_;refine bB ?_;exact af.prop (by simp)
  exact(hv (QV.2.1 (by omega))).elim
 ·
  refine Z2 ?_;refine .p (cA (h:=qR yz)) rfl ?_;refine Z1 ?_;refine .n (cE (h:=nj (fr:=3))) rfl fun yJ Qk=>?_;refine Z1 ?_;refine .p (cA (h:=J1 (X:=AW) hmo hfl hv hn)) rfl ?_;refine jP ?_;refine .n (cE (h:=sJ hmo hfl)) rfl fun QU QV=>?_;refine Z3 ?_;refine Cd (fun c1=>?_) fun c1=>?_
  · exact absurd (QV.2.2 hv) (by omega)
  refine jP ?_;refine Cd (fun c2=>?_) fun c2=>?_
  ·
   refine jP ?_;refine bB ?_;exact af.prop (by simp)
  exact(c2 (by omega)).elim
 obtain⟨hq1,QO⟩:=Qj yz.globals hm.r2.2.2;have bj8:=yz.globals;have Em:=hm.r1.1;have Dw:=hm.r2.1;have htl:=hm.r2.2.2
 refine Z2 ?_;refine .p (cA (h:=qR yz)) rfl ?_;refine Z1 ?_;refine .n (cE (h:=nj (fr:=3))) rfl fun yJ Qk=>?_;refine Z1 ?_;refine .n (kL [] [1,2,3,4,0] (h:=yc (a:=(lE 8192)) (m:=x) (num:=num) (mm:=0) (Co:=oD 64) hAo hm hmo hfl hv (by rw[KQ];show 0+_≤_;omega) hn0 R6 (by have:=Pu hm x.bl.length;omega))) rfl fun g44 h44=>?_;refine Z9 ?_;obtain⟨Q7,tw,ke,kd,tr⟩:=g44;obtain⟨wk,Q4⟩:=h44;simp only at wk Q4;have hle:=Q4.le;simp only at hle;refine Z4 ?_;refine .n (cE (h:=sJ hmo hfl)) rfl fun QU QV=>?_;refine Z3 ?_;refine Cd (fun c1=>?_) fun c1=>?_
 · exact absurd (QV.2.2 hv) (by omega)
 refine jP ?_;refine CT fun c2=>?_;refine Z5 ?_;refine .n (cE (h:=No hm (by omega))) rfl fun g75 h75=>?_;refine Z3 ?_;refine .n (au FZ.out) rfl fun b14 _=>?_;refine Z4 ?_;have hu:=Q4.uniq h75;subst hu;have Tj:=DJ (X:=AW) (m:=x) hAo hm (by rw[KQ];show 0+_≤_;omega) ke;have hSA:=Bh.begin hAo hm he (by rw[KQ];show 0+_≤_;omega) hle.1 hle.2.1 kd;have hSC:=Gw.begin (num:=num) hm hn0 kd hle.2.2;have R1:=SG (X:=AW) (m:=x) (g:=(lE 8192).height) (i:=gi) (v:=v) Tj.1 (by rw[KQ];show 0+_≤_;omega);have as8:=hSA.tv (m:=x) (i:=gi) (v:=v) Tj.1 (show _≤(lE 8192).height+lp x by omega) (by rw[KQ];show 0+_≤_;omega) hp2 (by simp[lG]);have GL:=DN (m:=x) (a:=(lE 8192)) hm.gl rfl rfl List.nodup_nil;have QK:(lG x ke kd).gl.length=x.an.length:=by simp[lG]
 have hlv:(nL (nL (tu x (lE 8192).height (vK x (lE 8192) ke) gi v) ((lE 8192).height:Int) (lp x)) (((lE 8192).height+lp x:Nat):Int) (B3 x)).live=0:=by(simp only[nL];rw[R1.2.live,Tj.2.live];simp[lE])
 refine Z2 ?_;refine .bP [(0,0),(1,0),(2,0),(3,0),(4,0),(5,0),(6,0),(7,0),(8,0),(9,1),(10,4),(11,0),(12,0),(13,0),(14,0),(16,0),(15,4)] 17 4 FM.out (by kernel_rfl) (k:= ?_);refine Z9 ?_;refine .og rfl (bU.gF rfl rfl rfl rfl (fun hg=>bp.le (gG (i:=0) FA.out FC.out rfl (.t rfl) rfl rfl) (af.refl (aC (oP (lG x ke kd)))))) ?_;refine .aGF rfl rfl rfl rfl (by simp) (fun hg=>(kL [_,_,_] [1,2,3,4,7,0,5,6] (h:=yd (X:=AW) (a:=(vK x (lE 8192) ke)) (m:=x) (num:=num) (g0:=(lE 8192).height) (t0:=(lE 8192).height+lp x) (mm:=0+AV x x.bl.length) (nn:=kd) (bs:=tw) (ms:=B5 x num x.bz.length) (Co:=sr x num (oD 64) kd) (s:=(lG x ke kd)) Tj.1 hm.gl hm.r2.2.2 (by rw[KQ];show 0+_≤_;omega) (by rw[KQ];show 0+_+_≤_;omega) (by simp[lG]) (nX x ke) hSA hSC (by rw[oG];exact wk) (by rw[oG];exact hm.ml) (by omega))).same (fun _ _=>aB.perm (Perm.idx [5,0,1,2,3,6,7,4] rfl rfl)) (fun _ _=>af.refl _)) (fun _ _=>aB.refl _) fun _ _=>?_;refine Z5 ?_;refine .aGF rfl rfl rfl rfl (by simp) (fun hg=>(kL [_,_,_,_,_,_,_] [2,0,1,3,4,5,6,7] (h:=MY (sb:=Q7) (X:=AW) (pb:=yJ.pb) (m:=x) (num:=num) (g:=((lE 8192).height:Int)) (t:=(((lE 8192).height+lp x:Nat):Int)) (mv:=ai 1 eG tw))).same (fun _ _=>aB.perm (Perm.idx [1,2,0,3,4,5,6,7] rfl rfl)) (fun _ _=>af.refl _)) (fun _ _=>aB.refl _) fun _ _=>?_;refine .fin ?_;refine .g (bU.gF rfl rfl rfl rfl (fun hg=>bA (qR yz) FB.out (.cons (.when (.t rfl) hg) .nil))) rfl rfl ?_;refine .g (bU.gF rfl rfl rfl rfl (fun hg=>bA (IN) FB.out (.cons (.t rfl) (.cons (.when (.t rfl) hg) .nil)))) rfl rfl ?_;refine Z4 ?_;refine Cd (fun c3=>?_) fun c3=>?_
 · exact absurd c3 (by simp)
 refine Z7 ?_;refine .n (kL [_,_,_,_,_] [2,3,4,0,1,5,6,7] (h:=Kg (sb:=Q7) (X:=AW) (pb:=yJ.pb) (m:=x) (num:=num) (g:=(lE 8192).height) (t:=(((lE 8192).height+lp x:Nat):Int)) (mv:=ai 1 eG tw) (i:=gi) Tj.1 (by rw[KQ];show 0+_≤_;omega) hp2 (fun z hz=>(hm.gv z hz).2.2) hm.gl)) rfl fun YJ bG6=>?_;refine Z3 ?_;refine .own (aB.perm (Perm.idx [3,4,0,1,2,5,6,7] rfl rfl)) ?_;refine .own (aB.cons _ (aB.cons _ (aB.cons _ (B4 (X:=AW) (a:=(tu x (lE 8192).height (vK x (lE 8192) ke) gi v)) R1.2.taken)))) ?_;refine Kx ?_;refine .p (N9 FU.out (.t rfl) (.t rfl)) rfl ?_;refine cD ?_;refine Cd (fun c4=>?_) fun c4=>?_
 · exfalso;revert c4;unfold SF;rw[QK];by_cases hi:gA gi x.an.length<;>(have hi2:=hi;unfold gA at hi2;simp[hi,hi2])
 refine Z2 ?_;refine .cut (σ:=List Int) (fun q=>ax b14 [ai 1 dh q,ai 1 dc (sH x ke),ai 3 fN (lu x kd)]::jl yJ.pb tw (B5 x num x.bz.length)::(lB Q7 AW yJ.pb x num ((lE 8192).height:Int) (((lE 8192).height+lp x:Nat):Int) (ai 1 eG tw))::eW AW (tu x (lE 8192).height (vK x (lE 8192) ke) gi v)++[eE yJ 64 4096 (fun _=>True) (sr x num (oD 64) kd) (0+AV x x.bl.length) yl]) (fun q=>[]) (fun q=>q=(tv x (lG x ke kd) gi v).gl) ?_ ?_
 ·
  refine Z5 ?_;refine Cd (fun c5=>?_) fun c5=>?_
  ·
   have hi2:gA gi x.an.length:=by(unfold gA;rw[QK] at c5;exact c5)
   have SM:=hi2;unfold gA at SM
   obtain⟨zg,YN⟩:=ah (xs:=x.an) (k:=gi.toNat) (by omega);have hgo:(lG x ke kd).gl[gi.toNat]?=some zg.Value:=by(show(x.an.map (·.Value))[gi.toNat]?=_;rw[List.getElem?_map,YN];rfl)
   refine Z2 ?_;refine .n (cg dh [] FU.out FC.out rfl FZ.out rfl .nil rfl rfl rfl rfl rfl) rfl fun YL _=>?_;refine Z2 ?_;refine .n (aF (i:=0) FU.out FU.out FC.out rfl FZ.out rfl FY.out (.t rfl) (.t rfl) rfl (by simp only[List.length_nil,lG,List.length_map];omega) (by simp only[List.length_nil,lG,List.length_map];omega)) rfl fun bG7 _=>?_;refine Z5 ?_;refine .gL 0 rfl (fun e=>by(have e2:(lG x ke kd).gl=[]:=e;rw[e2] at hgo;cases hgo)) fun fb cap TZ=>?_;subst TZ;refine Z5 ?_;refine .p (aX gi.toNat FU.out FC.out rfl (.t rfl) (.t rfl) (by omega) (by rw[List.nil_append,QK];omega)) rfl ?_;refine .s (fE (enc:=dh) (i:=0) (r:=0) (v:Int) rfl FC.out (.t rfl) (.t rfl) rfl hgo rfl rfl) ?_;refine Z7 ?_;refine .p (cI gi.toNat (h:=YN)) rfl ?_;refine Z5 ?_;refine Cd (fun c6=>?_) fun c6=>?_
   ·
    have as9:=jj (x:=(v:Int)) hgo;refine Z5 ?_;refine .p (By (.t rfl) (.c _) (by omega) (by omega)) rfl ?_;refine .p (aX gi.toNat FU.out FC.out rfl (.t rfl) (.t rfl) (by omega) (by rw[List.nil_append,QK];omega)) rfl ?_;refine .s (fE (enc:=dh) (i:=0) (r:=0) ((v:Int)%4294967296) rfl FC.out (.t rfl) (.t rfl) rfl as9 rfl rfl) ?_;refine Z1 ?_;refine .dO (i:=0) (j:=0) (f:=0) rfl rfl (by simp only[List.length_set];rfl) ?_;refine .meet ((([]++(lG x ke kd).gl).set gi.toNat (v:Int)).set gi.toNat ((v:Int)%4294967296)) (by rw[Lb hi2 YN,SI (by omega)];simp) rfl (.keep 24 rfl rfl)
   refine .dO (i:=0) (j:=0) (f:=0) rfl rfl (by simp only[List.length_set];rfl) ?_;refine Z1 ?_;refine .meet (([]++(lG x ke kd).gl).set gi.toNat (v:Int)) (by rw[Lb hi2 YN,SJ (by omega) (hm.gv zg (List.mem_of_getElem? YN)).2.2 hp2];simp) rfl (.keep 18 rfl rfl)
  refine Z1 ?_;refine .meet (lG x ke kd).gl (SH (fun hi=>c5 (by rw[QK];exact hi))).symm rfl (.keep 1 rfl rfl)
 intro q hq;subst hq;refine Z3 ?_;refine .n ((kL [_,_,_,_,_,_,_] [2,0,1,3,4,5,6,7] (h:=vP (sb:=Q7) (X:=AW) (pb:=yJ.pb) (m:=x) (num:=num) (g:=((lE 8192).height:Int)) (t:=(((lE 8192).height+lp x:Nat):Int)) (mv:=ai 1 eG tw) (i:= -1) (.inl (by decide)))).same (fun _ _=>aB.perm (Perm.idx [1,2,0,3,4,5,6,7] rfl rfl)) (fun _ _=>af.refl _)) rfl fun _ _=>?_;refine kR ?_;refine .n ((kL [_,_,_,_,_,_,_] [2,0,1,3,4,5,6,7] (h:=vP (sb:=Q7) (X:=AW) (pb:=yJ.pb) (m:=x) (num:=num) (g:=((lE 8192).height:Int)) (t:=(((lE 8192).height+lp x:Nat):Int)) (mv:=ai 1 eG tw) (i:=max x.Table 0) (.inr (by omega)))).same (fun _ _=>aB.perm (Perm.idx [1,2,0,3,4,5,6,7] rfl rfl)) (fun _ _=>af.refl _)) rfl fun _ _=>?_;refine jb ?_;refine .p ((Ew rfl Tryz.underlying25 (.t rfl)).le (af.int (show _=((tw.length:Nat):Int) by rw[wk]))) rfl ?_;refine .n ((kL [_,_,_,_,_,_,_] [2,0,1,3,4,5,6,7] (h:=Jw (sb:=Q7) (X:=AW) (pb:=yJ.pb) (m:=x) (num:=num) (g:=((lE 8192).height:Int)) (t:=(((lE 8192).height+lp x:Nat):Int)) (bs:=tw))).same (fun _ _=>aB.perm (Perm.idx [1,2,0,3,4,5,6,7] rfl rfl)) (fun _ _=>af.refl _)) rfl fun _ _=>?_;refine Z8 ?_;refine .own (aB.cons _ (aB.cons _ (aB.cons _ Mj))) ?_;refine Z2 ?_;refine .p ((gG (i:=0) FA.out FC.out rfl (.t rfl) rfl rfl).le ((show af _ (aC (oP (tv x (lG x ke kd) gi v))) from af.of_eq (by unfold oP;rw[vO.1,vO.2.1];rfl)))) rfl ?_;refine .n ((kL [_,_,_] [1,2,3,4,7,0,5,6] (h:=yd (X:=AW) (a:=(tu x (lE 8192).height (vK x (lE 8192) ke) gi v)) (m:=x) (num:=num) (g0:=(lE 8192).height) (t0:=(lE 8192).height+lp x) (mm:=0+AV x x.bl.length) (nn:=kd) (bs:=tw) (ms:=B5 x num x.bz.length) (Co:=sr x num (oD 64) kd) (s:=(tv x (lG x ke kd) gi v)) R1.1 hm.gl hm.r2.2.2 (by rw[KQ];show 0+_≤_;omega) (by rw[KQ];show 0+_+_≤_;omega) (vO.2.2.trans (by simp[lG])) ((congrArg List.length vO.2.1).trans (nX x ke)) as8 (vO (m:=x) (s:=lG x ke kd) (i:=gi) (v:=v)|>.1▸hSC) (by rw[oG];exact wk) (by rw[oG];exact hm.ml) (by omega))).same (fun _ _=>aB.perm (Perm.idx [5,0,1,2,3,6,7,4] rfl rfl)) (fun _ _=>af.refl _)) rfl fun _ _=>?_;refine kR ?_;refine .egI ((ax b14 [ai 1 dh (tv x (lG x ke kd) gi v).gl,ai 1 dc (sH x ke),ai 3 fN (lu x kd)]::jl yJ.pb tw (B5 x num x.bz.length)::ax Q7 [bT (bf x),aD AW.ab 0,aD yJ.pb 0,ag .i64 num,ag .i64 ((lE 8192).height:Int),ag .i64 (((lE 8192).height+lp x:Nat):Int),ai 1 eG tw,ak True]::um AW (nL (nL (tu x (lE 8192).height (vK x (lE 8192) ke) gi v) ((lE 8192).height:Int) (lp x)) (((lE 8192).height+lp x:Nat):Int) (B3 x)) (0+2)++[eE yJ 64 4096 (fun _=>True) (GF (sr x num (oD 64) kd) num tw.length) (0+AV x x.bl.length) yl])) rfl rfl rfl rfl (fun hg=>(kL [_,_] [2,3,4,5,6,7,0,1] (h:=GJ (sb:=Q7) (pg:=yJ) (X:=AW) (a:=(tu x (lE 8192).height (vK x (lE 8192) ke) gi v)) (m:=x) (num:=num) (g0:=(lE 8192).height) (t0:=(lE 8192).height+lp x) (mm:=0+AV x x.bl.length) (n:=0) (c1:=lp x) (c2:=B3 x) (bs:=tw) (Co:=sr x num (oD 64) kd) (by rw[R1.2.taken,Tj.2.taken];exact GL.1) (by rw[R1.2.taken,Tj.2.taken];exact GL.2) (by rw[R1.2.live,Tj.2.live];simp[lE]) (by rw[R1.2.live,Tj.2.live];simp[lE];omega) (by decide) hn0 R6 (by rw[wk];exact hm.ml))).conv (fun _ _=>aB.perm (Perm.idx [6,7,0,1,2,3,4,5] rfl rfl)) (fun _ _=>af.refl _)) (fun hg=>(hg (by simp)).elim) rfl rfl ?_;refine Z4 ?_;refine .egT rfl rfl rfl rfl (fun hg=>((kL [_,_,_,_,_,_,_] [3,0,1,2,4,5,6,7] (h:=IS (X:=AW) (a:=nL (nL (tu x (lE 8192).height (vK x (lE 8192) ke) gi v) ((lE 8192).height:Int) (lp x)) (((lE 8192).height+lp x:Nat):Int) (B3 x)))).same (fun _ _=>aB.perm (Perm.idx [1,2,3,0,4,5,6,7] rfl rfl)) (fun _ _=>af.refl _)).same (fun _ _=>aB.refl _) (fun _ _=>af.refl _)) rfl rfl ?_;refine Z4 ?_;refine .egT rfl rfl rfl rfl (fun hg=>((kL [_,_,_,_,_,_,_] [2,0,1,3,4,5,6,7] (h:=DO (sb:=Q7) (X:=AW) (pb:=yJ.pb) (m:=x) (num:=num) (g:=((lE 8192).height:Int)) (t:=(((lE 8192).height+lp x:Nat):Int)) (mv:=ai 1 eG tw))).same (fun _ _=>aB.perm (Perm.idx [1,2,0,3,4,5,6,7] rfl rfl)) (fun _ _=>af.refl _)).same (fun _ _=>aB.refl _) (fun _ _=>af.refl _)) rfl rfl ?_;refine Z4 ?_;refine .egT rfl rfl rfl rfl (fun hg=>((kL [_,_,_,_,_,_,_] [2,0,1,3,4,5,6,7] (h:=Jx (sb:=Q7) (X:=AW) (pb:=yJ.pb) (m:=x) (num:=num) (g:=((lE 8192).height:Int)) (t:=(((lE 8192).height+lp x:Nat):Int)) (mv:=ai 1 eG tw))).same (fun _ _=>aB.perm (Perm.idx [1,2,0,3,4,5,6,7] rfl rfl)) (fun _ _=>af.refl _)).same (fun _ _=>aB.refl _) (fun _ _=>af.refl _)) rfl rfl ?_;refine Z6 ?_;refine bB ?_;exact af.prop (by(push_cast at hlv ⊢;simp[hlv]))
end Go.Proofs.YtpfobikpggmleaaGreatDoor
end
section
namespace Go.Hl
open Go.RowKit
theorem VP.ext'{a b:VP}(h:∀S w v,a.p S w v↔b.p S w v):a=b:=by
 cases a;cases b
 congr
 funext S w v
 exact propext (h S w v)
theorem l7{α β:Type}{n:Nat}{enc:β→List VP}{f:α→β}{l:List α}:ai n (fun a=>enc (f a)) l=ai n enc (l.map f):=by
 refine VP.ext' fun S w v=>⟨fun⟨a,cap,h1,h2,h3,h4⟩=>⟨a,cap,by rw[List.length_map];exact h1,by rw[List.length_map];exact h2,by rw[List.length_map];exact h3,?_⟩,fun⟨a,cap,h1,h2,h3,h4⟩=>⟨a,cap,by rw[List.length_map] at h1;exact h1,by rw[List.length_map] at h2;exact h2,by rw[List.length_map] at h3;exact h3,?_⟩⟩
 · cases a with
   |none=>exact h4
   |some ad=>
    intro h0;obtain⟨k1,k2,k3⟩:=h4 h0;refine⟨k1,k2,fun i x hx=>?_⟩;rw[List.getElem?_map] at hx;obtain⟨y,hy,rfl⟩:=Option.map_eq_some_iff.1 hx;exact k3 i y hy
 · cases a with
   |none=>exact h4
   |some ad=>
    intro h0;obtain⟨k1,k2,k3⟩:=h4 h0;exact⟨k1,k2,fun i x hx=>k3 i (f x) (by rw[List.getElem?_map,hx];rfl)⟩
abbrev yY(n:pE .u64):List VP:=dh n.1
abbrev IWm:={x:ay//NO x}
theorem u64_in(a:pE .u64):0≤a.1∧a.1<18446744073709551616:=by
 have h:=a.2;have e1:IntKind.u64.min=0:=by decide
 have e2:IntKind.u64.max=18446744073709551615:=by decide
 simp[Lit.wf] at h;omega
def Ua(c:Int)(a b:pE .u64)(al:Int)(l:List (pE .u64)):IWm:=⟨⟨c,a.1,b.1,al,l.map (·.1)⟩,u64_in a,u64_in b,fun n hn=>by
 obtain⟨y,_,rfl⟩:=List.mem_map.1 hn;exact(u64_in y).1⟩
abbrev xz(x:IWm):List VP:=aK x.1
instance:gZ 5 xz:=⟨fun x=>(inferInstance:gZ 5 aK).len x.1,fun x q h=>(inferInstance:gZ 5 aK).flat x.1 q h⟩
abbrev QL:={b:jJ//∀y∈b.L,NO y}
def Lg(t:List UInt8)(l:List IWm):QL:=⟨⟨t,l.map (·.1)⟩,fun y hy=>by
 obtain⟨z,_,rfl⟩:=List.mem_map.1 hy;exact z.2⟩
abbrev AT(b:QL):List VP:=gw b.1
instance:gZ 2 AT:=⟨fun x=>(inferInstance:gZ 2 gw).len x.1,fun x q h=>(inferInstance:gZ 2 gw).flat x.1 q h⟩
abbrev Lh:={f:cN//∀y∈f.Body.L,NO y}
def Tk(s:Int)(b:QL):Lh:=⟨⟨s,b.1⟩,b.2⟩
abbrev sK(f:Lh):List VP:=fo f.1
instance:gZ 3 sK:=⟨fun x=>(inferInstance:gZ 3 fo).len x.1,fun x q h=>(inferInstance:gZ 3 fo).flat x.1 q h⟩
theorem NP(c:Int)(a b:pE .u64)(al:Int)(l:List (pE .u64)):[ag .i64 c,ag .u64 a.1,ag .u64 b.1,ag .i64 al,ai 1 yY l]=xz (Ua c a b al l):=by
 rw[show ai 1 yY l=ai 1 dh (l.map (·.1)) from l7 (enc:=dh) (f:=Subtype.val)];rfl
theorem Hu(t:List UInt8)(l:List IWm):[ai 1 aj t,ai 5 xz l]=AT (Lg t l):=by
 rw[show ai 5 xz l=ai 5 aK (l.map (·.1)) from l7 (enc:=aK) (f:=Subtype.val)];rfl
abbrev Li:={x:gy//0≤x.Value∧x.Value<18446744073709551616}
def Tl(a:UInt8)(b:Prop)(c:pE .u64):Li:=⟨⟨a,b,c.1⟩,u64_in c⟩
abbrev sL(x:Li):List VP:=dX x.1
instance:gZ 3 sL:=⟨fun x=>(inferInstance:gZ 3 dX).len x.1,fun x q h=>(inferInstance:gZ 3 dX).flat x.1 q h⟩
abbrev Lj:={x:ez//0≤x.At∧x.At<18446744073709551616}
def Tm(a:pE .u64)(l:List Int):Lj:=⟨⟨a.1,l⟩,u64_in a⟩
abbrev sM(x:Lj):List VP:=dS x.1
instance:gZ 2 sM:=⟨fun x=>(inferInstance:gZ 2 dS).len x.1,fun x q h=>(inferInstance:gZ 2 dS).flat x.1 q h⟩
abbrev Tn:={x:fV//0≤x.At∧x.At<18446744073709551616}
def VI(m:Int)(a:pE .u64)(l:List UInt8):Tn:=⟨⟨m,a.1,l⟩,u64_in a⟩
abbrev we(x:Tn):List VP:=eA x.1
instance:gZ 3 we:=⟨fun x=>(inferInstance:gZ 3 eA).len x.1,fun x q h=>(inferInstance:gZ 3 eA).flat x.1 q h⟩
abbrev VJ:={m:aT//(∀f∈m.aA,∀y∈f.Body.L,NO y)∧U8 m}
def QM(a:List kY)(b:List gu)(c:List Lh)(d:Int)(e:List dR)(f:List Li)(g:List dH)(h:Int)(i:List Lj)(j:List Tn):VJ:=⟨⟨a,b,c.map (·.1),d,e,f.map (·.1),g,h,i.map (·.1),j.map (·.1)⟩,fun f hf=>by
 obtain⟨z,_,rfl⟩:=List.mem_map.1 hf;exact z.2,fun z hz=>by obtain⟨y,_,rfl⟩:=List.mem_map.1 hz;exact y.2,fun z hz=>by obtain⟨y,_,rfl⟩:=List.mem_map.1 hz;exact y.2,fun z hz=>by obtain⟨y,_,rfl⟩:=List.mem_map.1 hz;exact y.2⟩
abbrev Eg(m:VJ):List VP:=bf m.1
theorem Kh(a:List kY)(b:List gu)(c:List Lh)(d:Int)(e:List dR)(f:List Li)(g:List dH)(h:Int)(i:List Lj)(j:List Tn):
    [ai 2 bS a,ai 3 iG b,ai 3 sK c,ag .i64 d,ai 3 ek e,ai 3 sL f,ai 3 dG g,ag .i64 h,ai 2 sM i,ai 3 we j]=Eg (QM a b c d e f g h i j):=by
  rw[show ai 3 sK c=ai 3 fo (c.map (·.1)) from l7 (enc:=fo) (f:=Subtype.val),show ai 3 sL f=ai 3 dX (f.map (·.1)) from l7 (enc:=dX) (f:=Subtype.val),show ai 2 sM i=ai 2 dS (i.map (·.1)) from l7 (enc:=dS) (f:=Subtype.val),show ai 3 we j=ai 3 eA (j.map (·.1)) from l7 (enc:=eA) (f:=Subtype.val)];rfl
theorem YO(a:pE .u64):∃m:Nat,a.1=(m:Int)∧m<18446744073709551616:=⟨a.1.toNat,by have:=u64_in a;omega,by have:=u64_in a;omega⟩
end Go.Hl
end
section
namespace Go.Proofs.YtpfobikpggmleaaGreatDoor
open Go.Hl Go.RowKit
theorem wg{x:VJ}{num gi:Int}{v:pE .u64}:cQ Tryz.prog 6 [aC (bf x.1),ag .i64 num,ag .i64 gi,ag .u64 v.1] (ak True):=by
 obtain⟨k,hk,hlt⟩:=YO v;rw[hk];exact v8 x.2.1 x.2.2 hlt
end Go.Proofs.YtpfobikpggmleaaGreatDoor
end
