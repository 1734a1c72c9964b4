/-
  What the statement's proof leans on, several texts in one (packed by a program).
-/
import Derived.Test.YtmacjbfbpjgmnaaGreatDoorRNP
set_option linter.all false
set_option maxRecDepth 1000000
set_option maxHeartbeats 4000000
section
namespace Go.Proofs.YtmacjbfbpjgmnaaGreatDoor
open Go.Hl Go.RowKit
variable {x:aq}
theorem Bp(aj:nt x)(aQ:iQ x):bk Tryz.prog 245 [aK (aE x)] [] (γ:=List UInt8) (fun l=>l.length=rz x) (fun _=>[]) (fun l=>aS [an 1 aL l,aa .i64 0]):=by
 refine In 68 Tryz.func245 fun _ _ _=>?_;obtain⟨hf,hne⟩:=FD aj.A0 aj.B0 aQ;obtain⟨r1,r2,r3,r4,r5,r6⟩:=id aQ;have hL100:x.L.length≤100:=r6.elim (fun h=>by rw[h];simp) (fun h=>h.2);have NK:=aj.A0;have yD:=aj.PY;have hB0:=aj.B0;have R4:=aj.B64;have hfb:=wW x.Code;have hhd:uG x≤20:=by unfold uG eJ;split<;>(try have:=iL (n:=(x.Code-64512).toNat) (by have:=AL hne;omega))<;>omega
 refine ek ?_;refine .p (cA (h:=uQ aj.A0 aj.B0)) rfl ?_;refine Z3 ?_;refine Cd (fun c0=>?_) fun c0=>?_
 · exact absurd aQ c0
 refine Z5 ?_;refine .n (cE (h:=GN hne)) rfl fun g9 h9=>?_;refine Z3 ?_;refine .cut (σ:=SB×List UInt8) (fun z=>[aI z.1 1 aL z.2]) (fun z=>[(4,af (bA z.1 z.2.length))]) (fun z=>z.2.length=rz x) ?_ ?_
 ·
  refine Z3 ?_;refine .p ((cA (h:=xM)).le (ag.int hf)) rfl ?_;refine Z9 ?_;refine Cd (fun c1=>?_) fun c1=>?_
  ·
   refine Z4 ?_;refine .p ((dM FU.out FU.out (.t rfl)).le (ag.trans (ag.int (show _=((x.A.toNat%256:Nat):Int) by rw[zF];omega)) (zG (by omega)))) rfl ?_;refine .p (cB aL [UInt8.ofNat (x.A.toNat%256)]) rfl ?_;refine .n (bn (i:=0) FU.out FU.out FC.out rfl FZ.out rfl FY.out (.t rfl) (.t rfl) rfl (by simp only[List.length_cons,List.length_nil];omega) (by simp only[List.length_cons,List.length_nil];omega)) rfl fun KW _=>?_;refine Z3 ?_;refine .meet (KW,g9.2++[UInt8.ofNat (x.A.toNat%256)]) (by(show((KW,g9.2++[UInt8.ofNat (x.A.toNat%256)])).2.length=rz x;rw[mB];rw[if_pos c1];simp[h9])) rfl (.get rfl (ag.refl _) (.keep 11 rfl rfl))
  refine .cut (σ:=Unit) (fun _=>[aI g9.1 1 aL g9.2]) (fun _=>[(20,ak (aP x.Code=2∨aP x.Code=4∨aP x.Code=6∨aP x.Code=7∨aP x.Code=9))]) (fun _=>True) ?_ ?_
  ·
   refine Z6 ?_;refine Cd (fun c2=>?_) fun c2=>?_
   ·
    refine Z1 ?_;refine .meet () trivial rfl (.get rfl (ag.prop (by omega)) (.keep 2 rfl rfl))
   refine Z6 ?_;refine Cd (fun c3=>?_) fun c3=>?_
   ·
    refine Z1 ?_;refine .meet () trivial rfl (.get rfl (ag.prop (by omega)) (.keep 4 rfl rfl))
   refine Z6 ?_;refine Cd (fun c4=>?_) fun c4=>?_
   ·
    refine Z1 ?_;refine .meet () trivial rfl (.get rfl (ag.prop (by omega)) (.keep 6 rfl rfl))
   refine Z6 ?_;refine Cd (fun c5=>?_) fun c5=>?_
   ·
    refine Z1 ?_;refine .meet () trivial rfl (.get rfl (ag.prop (by omega)) (.keep 8 rfl rfl))
   refine Z4 ?_;refine .meet () trivial rfl (.get rfl (ag.prop (by omega)) (.keep 10 rfl rfl))
  intro _ _;refine Cd (fun c6=>?_) fun c6=>?_
  ·
   refine Z4 ?_;refine .p (cB cK [x.A]) rfl ?_;refine .n (cE (h:=iW (l:=[x.A]) (by simp;omega) (by omega) (by simp))) rfl fun Zf h30=>?_;refine Z3 ?_;refine .meet Zf (by(show(Zf).2.length=rz x;rw[h30,h9,mB];rw[if_neg c1,if_pos c6];simp[rF])) rfl (.get rfl (ag.refl _) (.keep 11 rfl rfl))
  refine Z6 ?_;refine Cd (fun c7=>?_) fun c7=>?_
  ·
   refine .bF [(0,0),(1,0),(2,0),(3,0),(4,0),(5,0),(7,0),(8,0),(10,0),(11,0),(12,0),(6,2),(9,2)] 13 2 FM.out (by kernel_rfl) (k:= ?_);refine Z5 ?_;refine .p rfl (fun _=>bV (enc:=cK) [(x.L.length:Int)] FU.out FC.out rfl FZ.out rfl (.cons (.t rfl) .nil) rfl rfl rfl rfl rfl) ?_;refine Z4 ?_;refine .p rfl (fun _=>bV (enc:=cK) [x.A] FU.out FC.out rfl FZ.out rfl (.cons (.t rfl) .nil) rfl rfl rfl rfl rfl) ?_;refine .e rfl (cE (h:=iW (l:=[(x.L.length:Int)]) (by simp;omega) (by omega) (by simp))) fun W4 Px=>?_;refine .e rfl (cE (h:=iW (l:=x.L) (fun n hn=>⟨aj.L0 n hn,by have h9:n≤4294967295:=r5 n hn;omega⟩) (by rw[Px,h9];have:=qt [(x.L.length:Int)] (by simp;omega);simp only[List.length_cons,List.length_nil] at this;omega) (by omega))) fun Nj Nk=>?_;refine .fin ?_;refine .n (cE (h:=iW (l:=[x.A]) (by simp;omega) (by rw[Nk,Px,h9];have:=qt [(x.L.length:Int)] (by simp;omega);have h8:=qt x.L (fun n hn=>⟨aj.L0 n hn,by have h9:n≤4294967295:=r5 n hn;omega⟩);simp only[List.length_cons,List.length_nil] at this;omega) (by simp))) rfl fun KY h46=>?_;refine Z3 ?_;refine .meet KY (by(show(KY).2.length=rz x;rw[h46,Nk,Px,h9,mB];rw[if_neg c1,if_neg c6,if_pos c7];simp[rF,eJ];omega)) rfl (.get rfl (ag.refl _) (.keep 22 rfl rfl))
  refine .cut (σ:=Unit) (fun _=>[aI g9.1 1 aL g9.2]) (fun _=>[(47,ak (aP x.Code=5∨aP x.Code=10))]) (fun _=>True) ?_ ?_
  ·
   refine Z6 ?_;refine Cd (fun c8=>?_) fun c8=>?_
   ·
    refine Z1 ?_;refine .meet () trivial rfl (.get rfl (ag.prop (by omega)) (.keep 2 rfl rfl))
   refine Z4 ?_;refine .meet () trivial rfl (.get rfl (ag.prop (by omega)) (.keep 4 rfl rfl))
  intro _ _;refine Cd (fun c9=>?_) fun c9=>?_
  ·
   refine Z6 ?_;refine .p (cB cK [x.A,x.B]) rfl ?_;refine .n (cE (h:=iW (l:=[x.A,x.B]) (by simp;omega) (by omega) (by simp))) rfl fun NL R3=>?_;refine Z3 ?_;refine .meet NL (by(show(NL).2.length=rz x;rw[R3,h9,mB];rw[if_neg c1,if_neg c6,if_neg c7,if_pos c9];simp[rF])) rfl (.get rfl (ag.refl _) (.keep 16 rfl rfl))
  refine Z6 ?_;refine Cd (fun zD=>?_) fun zD=>?_
  ·
   refine Z3 ?_;refine .n (cE (h:=Ku NK yD hB0 R4 aj.a0 aj.Tx (by omega))) rfl fun Uf Ug=>?_;refine Z3 ?_;refine .meet Uf (by(show(Uf).2.length=rz x;rw[Ug,h9,mB];rw[if_neg c1,if_neg c6,if_neg c7,if_neg c9,if_pos zD])) rfl (.get rfl (ag.refl _) (.keep 14 rfl rfl))
  refine Z6 ?_;refine Cd (fun BH=>?_) fun BH=>?_
  ·
   refine Z3 ?_;refine .n (cE (h:=GO NK yD (Ig BH) (fun Rl=>Classical.byContradiction fun h9=>r2 (.inr (.inl ⟨Rl,h9⟩))) (by omega))) rfl fun Zg WV=>?_;refine Z3 ?_;refine .meet Zg (by(show(Zg).2.length=rz x;rw[WV,h9,mB];rw[if_neg c1,if_neg c6,if_neg c7,if_neg c9,if_neg zD,if_pos BH])) rfl (.get rfl (ag.refl _) (.keep 16 rfl rfl))
  refine Z2 ?_;refine .meet g9 (by(show(g9).2.length=rz x;rw[h9,mB];rw[if_neg c1,if_neg c6,if_neg c7,if_neg c9,if_neg zD,if_neg BH];rfl)) rfl (.get rfl (ag.refl _) (.keep 12 rfl rfl))
 intro z hz;refine Z1 ?_;refine .gJ (t:=4) (i:=0) (g:=z.1) (xs:=z.2) rfl rfl ?_;refine Z7 ?_;refine Post.bY rfl rfl (z.2) (by exact hz) (fun _ _ _ h=>h) rfl (.cons (.rt rfl) ?_ (.cons (.rt rfl) ?_ .nil))
 · exact ag.refl _
 exact ag.refl _
theorem D0:cw Tryz.prog 248 [aK (aE x)] (ak (aV x.Code)):=by
 refine In 16 Tryz.func248 fun _ _ _=>?_;refine XF ?_;refine aX ?_;exact ag.prop or_assoc
variable {l:List aq} {nb:Nat}
theorem zW{pb pc p:Nat}{go:SB}{sp:List hH}{o:List Nat}{cl:Prop}{dp:Int}{s:hH}(aj:sp[p]?=some s):bk Tryz.prog 328 [ai nb 0] (AM nb l ⟨some (pb,pc),go,sp,o++[p],cl,dp⟩) (γ:=Unit) (fun _=>True) (fun _=>AM nb l ⟨some (pb,pc),go,sp,o++[p],cl,dp⟩) (fun _=>aS [ai pb (p*3),ak True]):=by
 refine In 27 Tryz.func328 fun _ _ _=>?_;refine .iY 2 rfl (by simp) fun qb qc hq=>?_;simp only at hq;subst hq;refine .vm 2 rfl fun xY=>?_;simp only[List.length_append,List.length_cons,List.length_nil] at xY;have hps:=(List.getElem?_eq_some_iff.1 aj).1;refine EA ?_;refine Cd (fun c0=>?_) fun c0=>?_
 · exfalso;simp at c0;omega
 refine Z3 ?_;refine .bz 16 3 FM.out (by kernel_rfl) (k:= ?_);refine jz ?_;refine .p (gj (.t rfl) (.c _) (cG (by simp<;>omega) (by simp<;>omega))) ?_;refine .p (ej o.length FU.out FC.out rfl (.t rfl) (.t rfl) (by simp) (by simp)) ?_;refine .p (kN (i:=2) (r:=0) FA.out (.t rfl) rfl (AN (o:=o) (p:=p)) rfl) ?_;refine Z1 ?_;refine .p (ej p FU.out FC.out rfl (.t rfl) (.t rfl) rfl hps) rfl ?_;refine Z5 ?_;refine fj ?_ ?_
 · exact ag.refl _
 exact ag.refl _
theorem xN{gp go:SB}{sp:List hH}{cl:Prop}{dp:Int}:bk Tryz.prog 328 [ai nb 0] (AM nb l ⟨gp,go,sp,[],cl,dp⟩) (γ:=Unit) (fun _=>True) (fun _=>AM nb l ⟨gp,go,sp,[],cl,dp⟩) (fun _=>aS [af (.pointer none),ak False]):=by
 refine In 27 Tryz.func328 fun _ _ _=>?_;refine EA ?_;refine CF fun c0=>?_;refine Z8 ?_;refine fj ?_ ?_
 · exact ag.refl _
 exact ag.refl _
variable {z:Mh}
theorem D1{i:Nat}(aj:z.op.length≤64)(aQ:z.sp.length≤50000):bk Tryz.prog 249 [ai nb 0,aa .i64 ((i:Int))] (AM nb l z) (γ:=Int×Mh) (fun g=>(z.op.length=64∧g.1≠0)∨(z.op.length≠64∧g.1=0∧g.2.sp=z.sp++[((i:Int),-1,-1)]∧g.2.op=z.op++[z.sp.length]∧g.2.cl=z.cl)) (fun g=>AM nb l g.2) (fun g=>aa .i64 g.1):=by
 refine In 49 Tryz.func249 fun _ _ _=>?_;refine Jc ?_;refine Cd (fun c0=>?_) fun c0=>?_
 ·
  refine Z7 ?_;refine Post.aO rfl ((15,z)) (by exact .inl ⟨by omega,by show(15:Int)≠0;decide⟩) (fun _ _ _ h=>h) (.rt rfl) ?_;exact ag.refl _
 refine Z3 ?_;refine .bF [(0,0),(1,0),(2,0),(3,0),(4,1),(5,0),(6,0),(7,0),(8,1),(9,1),(10,0),(11,2)] 12 3 FM.out (by kernel_rfl) (k:= ?_);refine dH ?_;refine .p rfl (fun _=>bV (enc:=jC) [z.sp.length] FU.out FC.out rfl FZ.out rfl (.cons (.t rfl) .nil) rfl rfl rfl rfl rfl) ?_;refine .e rfl (bn (i:=2) FU.out FU.out FC.out rfl FZ.out rfl FY.out (.t rfl) (.t rfl) rfl (by simp only[List.length_cons,List.length_nil];omega) (by simp only[List.length_cons,List.length_nil];omega)) fun MQ _=>?_;refine .fin ?_;refine j4 ?_;refine .p (cB bE [((i:Int),-1,-1)]) rfl ?_;refine .n (bn (i:=1) FU.out FU.out FC.out rfl FZ.out rfl FY.out (.t rfl) (.t rfl) rfl (by simp only[List.length_cons,List.length_nil];omega) (by simp only[List.length_cons,List.length_nil];omega)) rfl fun RZ _=>?_;refine Z6 ?_;refine .bz 11 3 FM.out (by kernel_rfl) (k:= ?_);refine Z23 ?_;refine Post.aO rfl ((0,⟨RZ,MQ,z.sp++[((i:Int),-1,-1)],z.op++[z.sp.length],z.cl,max z.dp ((z.op++[z.sp.length]).length:Int)⟩)) (by exact .inr ⟨by omega,rfl,rfl,rfl,rfl⟩) (fun _ _ _ h=>h) (.rt rfl) ?_;exact ag.refl _
variable {rs:List (Int×Bool)} {j:Nat}
theorem D2(aj:fM l z.sp z.op rs)(aQ:z.op.length≤64)(bu:z.sp.length≤50000)(cZ:¬z.cl):bk Tryz.prog 250 [ai nb 0,aa .i64 ((j:Int))] (AM nb l z) (γ:=Int×Mh) (fun g=>YI l False rs 5 j z g.1 g.2) (fun g=>AM nb l g.2) (fun g=>aa .i64 g.1):=by
 refine In 39 Tryz.func250 fun _ _ _=>?_;refine Z6 ?_;rcases List.eq_nil_or_concat z.op with hop|⟨o,p,hop⟩;have R5:rs=[]:=by have:=aj.len;rw[hop] at this;exact List.eq_nil_of_length_eq_zero this.symm
 obtain⟨gp,go,sp,op,cl,dp⟩:=z;simp only at hop aj aQ bu cZ;subst hop;subst R5
 rotate_left
 obtain⟨gp,go,sp,op,cl,dp⟩:=z;simp only[List.concat_eq_append] at hop aj aQ bu cZ;subst hop;obtain⟨Kv,ce,R5⟩:∃Kv ce,rs=Kv++[ce]:=mw (fun e=>by have:=aj.len;rw[e] at this;simp at this);obtain⟨cb,ce⟩:=ce;subst R5;obtain⟨bi,el,en,y,hs,hy,IS,hce⟩:=aj.top;simp only at IS hce;refine .iY 1 rfl (fun e=>by(have h9:=(List.getElem?_eq_some_iff.1 hs).1;simp only at e;rw[e] at h9;simp at h9)) fun pb pc Ux=>?_;simp only at Ux;subst Ux
 ·
  refine Z2 ?_;refine .n ((cE (h:=zW hs)).same (fun _ _=>aA.refl _) (fun _ _=>ag.refl _)) rfl fun _ _=>?_;refine Z9 ?_;refine .bz 11 12 FM.out (by kernel_rfl) (k:= ?_);refine dH ?_;refine .cons (bB.gF rfl rfl rfl rfl (fun hg=>kN (i:=1) (r:=0) FA.out (.when (.t rfl) hg) rfl hs rfl)) ?_;refine Z1 ?_;refine .g (bB.gF rfl rfl rfl rfl (fun hg=>dL (j:=bi) FU.out FC.out rfl (.when (.t rfl) hg) (.when (.t rfl) hg) rfl hy)) rfl rfl ?_;refine Z8 ?_;refine .g (bB.gF rfl rfl rfl rfl (fun hg=>kN (i:=1) (r:=1) FA.out (.when (.t rfl) hg) rfl hs rfl)) rfl rfl ?_;refine Z4 ?_;refine Cd (fun c0=>?_) fun c0=>?_
  ·
   refine Z7 ?_;refine Post.aO rfl ((4,⟨some (pb,pc),go,sp,o++[p],cl,dp⟩)) (by exact .inr ⟨by show(4:Int)≠0;decide,fun r h=>by(have h9:=(wX.1 h).1;rcases c0 with(h8|h8)|h8;exact h8 trivial;exact h8 (IS.trans h9.1);have h7:=hce.2 h8;rw[h9.2] at h7;cases h7)⟩) (fun _ _ _ h=>h) (.rt rfl) ?_;exact ag.refl _
  refine Z8 ?_;refine .s (oY (enc:=bE) (i:=1) (r:=1) ((bi:Int),(j:Int),en) rfl FC.out (.t rfl) (.t rfl) rfl hs rfl rfl) ?_;refine Z2 ?_;refine .own (hs':=AM nb l ⟨some (pb,pc),go,sp.set p ((bi:Int),(j:Int),en),o++[p],cl,dp⟩) (aA.of_eq (by simp)) ?_;refine Z6 ?_;refine Post.aO rfl ((0,⟨some (pb,pc),go,sp.set p ((bi:Int),(j:Int),en),o++[p],cl,dp⟩)) (by exact .inl ⟨rfl,(Mj hs).symm,by(show(sp.set p _).length≤sp.length+1;rw[List.length_set];omega),aQ,Kv++[(cb,true)],aj.other hs hy IS,fun r=>by(show er False (Kv++[(cb,ce)]) (5::r)↔er cl (Kv++[(cb,true)]) r;rw[wX];have h4:cb=4:=IS.symm.trans (Classical.byContradiction fun h=>c0 (.inl (.inr h)));have hf:ce=false:=Bool.eq_false_iff.2 (fun h8=>c0 (.inr (hce.1 h8)));rw[show(cl=False) from eq_false cZ];exact⟨fun h=>h.2,fun h=>⟨⟨h4,hf⟩,h⟩⟩)⟩) (fun _ _ _ h=>h) (.rt rfl) ?_;exact ag.refl _
 refine Z2 ?_;refine .n ((cE (h:=xN)).same (fun _ _=>aA.refl _) (fun _ _=>ag.refl _)) rfl fun _ _=>?_;refine Z9 ?_;refine .bz 11 12 FM.out (by kernel_rfl) (k:= ?_);refine Z3 ?_;refine .cons (bB.gF rfl rfl rfl rfl (fun hg=>dO (q:=dg) (hg (fun h=>h)))) ?_;refine .cons (bB.gF rfl rfl rfl rfl (fun hg=>dO (q:=dg) (hg (fun h=>h)))) ?_;refine .cons (bB.gF rfl rfl rfl rfl (fun hg=>dO (q:=dg) (hg (fun h=>h)))) ?_;refine .cons (bB.gF rfl rfl rfl rfl (fun hg=>dO (q:=dg) (hg (fun h=>h)))) ?_;refine .cons (bB.gF rfl rfl rfl rfl (fun hg=>dO (q:=dg) (hg (fun h=>h)))) ?_;refine .cons (bB.gF rfl rfl rfl rfl (fun hg=>dO (q:=dg) (hg (fun h=>h)))) ?_;refine .cons (bB.gF rfl rfl rfl rfl (fun hg=>dO (q:=dg) (hg (fun h=>h)))) ?_;refine .cons (bB.gF rfl rfl rfl rfl (fun hg=>dO (q:=dg) (hg (fun h=>h)))) ?_;refine Z1 ?_;refine .g (bB.gF rfl rfl rfl rfl (fun hg=>dO (q:=dg) (hg (fun h=>h)))) rfl rfl ?_;refine .g (bB.gF rfl rfl rfl rfl (fun hg=>dO (q:=dg) (hg (fun h=>h)))) rfl rfl ?_;refine .g (bB.gF rfl rfl rfl rfl (fun hg=>dO (q:=dg) (hg (fun h=>h)))) rfl rfl ?_;refine .g (bB.gF rfl rfl rfl rfl (fun hg=>dO (q:=ak True) (hg (fun h=>h)))) rfl rfl ?_;refine Z2 ?_;refine .g (bB.gF rfl rfl rfl rfl (fun hg=>dO (q:=dg) (hg (.inl (fun h=>h))))) rfl rfl ?_;refine .g (bB.gF rfl rfl rfl rfl (fun hg=>dO (q:=dg) (hg (.inl (fun h=>h))))) rfl rfl ?_;refine .g (bB.gF rfl rfl rfl rfl (fun hg=>dO (q:=dg) (hg (.inl (fun h=>h))))) rfl rfl ?_;refine .g (bB.gF rfl rfl rfl rfl (fun hg=>dO (q:=dg) (hg (.inl (fun h=>h))))) rfl rfl ?_;refine .g (bB.gF rfl rfl rfl rfl (fun hg=>dO (q:=ak True) (hg (.inl (fun h=>h))))) rfl rfl ?_;refine Z3 ?_;refine Cd (fun c0=>?_) fun c0=>?_
 ·
  refine Z7 ?_;refine Post.aO rfl ((4,⟨gp,go,sp,[],cl,dp⟩)) (by exact .inr ⟨by show(4:Int)≠0;decide,fun r=>ye⟩) (fun _ _ _ h=>h) (.rt rfl) ?_;exact ag.refl _
 exact absurd (.inl (.inl (fun h=>h))) c0
theorem Kw(aj:fM l z.sp z.op rs)(aQ:z.op.length≤64)(bu:z.sp.length≤50000)(cZ:¬z.cl):bk Tryz.prog 251 [ai nb 0,aa .i64 ((j:Int))] (AM nb l z) (γ:=Mh) (fun g=>YI l False rs 11 j z 0 g) (fun g=>AM nb l g) (fun g=>aS []):=by
 refine In 34 Tryz.func251 fun _ _ _=>?_;refine Z1 ?_;rcases List.eq_nil_or_concat z.op with hop|⟨o,p,hop⟩;have R5:rs=[]:=by have:=aj.len;rw[hop] at this;exact List.eq_nil_of_length_eq_zero this.symm
 obtain⟨gp,go,sp,op,cl,dp⟩:=z;simp only at hop aj aQ bu cZ;subst hop;subst R5
 rotate_left
 obtain⟨gp,go,sp,op,cl,dp⟩:=z;simp only[List.concat_eq_append] at hop aj aQ bu cZ;subst hop;obtain⟨Kv,ce,R5⟩:∃Kv ce,rs=Kv++[ce]:=mw (fun e=>by have:=aj.len;rw[e] at this;simp at this);obtain⟨cb,ce⟩:=ce;subst R5;obtain⟨bi,el,en,y,hs,hy,IS,hce⟩:=aj.top;simp only at IS hce;refine .iY 1 rfl (fun e=>by(have h9:=(List.getElem?_eq_some_iff.1 hs).1;simp only at e;rw[e] at h9;simp at h9)) fun pb pc Ux=>?_;simp only at Ux;subst Ux
 ·
  refine Z2 ?_;refine .n ((cE (h:=zW hs)).same (fun _ _=>aA.refl _) (fun _ _=>ag.refl _)) rfl fun _ _=>?_;refine j4 ?_;refine Cd (fun c0=>?_) fun c0=>?_
  · exact absurd trivial c0
  refine Z8 ?_;refine .s (oY (enc:=bE) (i:=1) (r:=2) ((bi:Int),el,(j:Int)) rfl FC.out (.t rfl) (.t rfl) rfl hs rfl rfl) ?_;refine Z2 ?_;refine .own (hs':=AM nb l ⟨some (pb,pc),go,sp.set p ((bi:Int),el,(j:Int)),o++[p],cl,dp⟩) (aA.of_eq (by simp)) ?_;refine .bz 12 3 FM.out (by kernel_rfl) (k:= ?_);refine dH ?_;refine .p (gj (.t rfl) (.c _) (cG (by simp only[List.length_append,List.length_cons,List.length_nil] at*;omega) (by simp only[List.length_append,List.length_cons,List.length_nil] at*;omega))) ?_;refine .p (nL (i:=2) (h:=o.length) FU.out FC.out rfl (.t rfl) (.t rfl) (by simp) rfl rfl (by simp)) ?_;refine Z5 ?_;refine .own (aA.cons _ (aA.cons _ (aA.Lu o (vt _ _)))) ?_;refine Post.bT rfl (⟨some (pb,pc),go,sp.set p ((bi:Int),el,(j:Int)),o,cl,dp⟩) (by exact .inl ⟨rfl,(OQ hs).symm,by(show(sp.set p _).length≤sp.length+1;rw[List.length_set];omega),by(show o.length≤64;simp only[List.length_append,List.length_cons,List.length_nil] at aQ;omega),Kv,aj.pop _,fun r=>by(show er False (Kv++[(cb,ce)]) (11::r)↔er cl Kv r;rw[JQ,show(cl=False) from eq_false cZ])⟩) (fun _ _ _ h=>h) rfl
 refine Z2 ?_;refine .n ((cE (h:=xN)).same (fun _ _=>aA.refl _) (fun _ _=>ag.refl _)) rfl fun _ _=>?_;refine j4 ?_;refine Cd (fun c0=>?_) fun c0=>?_
 ·
  refine dH ?_;refine Post.sr rfl (⟨gp,go,sp,[],True,dp⟩) (by exact .inl ⟨rfl,Mk.symm,Nat.le_succ _,by simp,[],fM.nil _ _,fun r=>wY⟩) (fun _ _ _ h=>h) rfl
 exact absurd (fun h=>h) c0
theorem GP(aj:fM l z.sp z.op rs)(aQ:z.op.length≤64)(bu:z.sp.length≤50000)(cZ:l[j]?=some x):bk Tryz.prog 185 [ai nb 0,aa .i64 ((j:Int))] (AM nb l z) (γ:=Int×Mh) (fun g=>YI l z.cl rs x.Code j z g.1 g.2) (fun g=>AM nb l g.2) (fun g=>aa .i64 g.1):=by
 refine In 48 Tryz.func185 fun _ _ _=>?_;refine Jc ?_;refine Cd (fun c0=>?_) fun c0=>?_
 ·
  refine Z8 ?_;refine Post.aO rfl ((4,z)) (by exact .inr ⟨by show(4:Int)≠0;decide,fun r=>by rw[show z.cl=True from eq_true c0];exact AO⟩) (fun _ _ _ h=>h) (.rt rfl) ?_;exact ag.refl _
 have Kx:z.cl=False:=eq_false c0;refine Z7 ?_;refine .p (cI j (h:=cZ)) rfl ?_;refine Z1 ?_;refine .p (cA (h:=D0)) rfl ?_;refine Z3 ?_;refine Cd (fun c1=>?_) fun c1=>?_
 ·
  refine Z4 ?_;refine .n (cE (h:=D1 aQ bu)) rfl fun Uy Sy=>?_;refine Z6 ?_;refine Post.aO rfl (Uy) (by exact(by rw[Kx];rcases Sy with⟨h1,h2⟩|⟨h1,h2,h3,h4,h5⟩;exact .inr ⟨h2,fun r=>FG c1 (aj.len▸h1)⟩;exact .inl ⟨h2,by(show(_,_)=_;rw[Mi c1,h3,h4]),by(rw[h3];simp),by(rw[h4];simp;omega),rs++[(x.Code,false)],by(rw[h3,h4];exact aj.begin cZ),fun r=>by(rw[h5,Kx];exact FE c1 (aj.len▸h1) (aj.len▸aQ))⟩)) (fun _ _ _ h=>h) (.rt rfl) ?_;exact ag.refl _
 refine Z7 ?_;refine .p (cI j (h:=cZ)) rfl ?_;refine Z6 ?_;refine Cd (fun c2=>?_) fun c2=>?_
 ·
  refine Z4 ?_;refine .n (cE (h:=D2 aj aQ bu c0)) rfl fun NJ R1=>?_;refine Z6 ?_;refine Post.aO rfl (NJ) (by exact(by rw[Kx,c2];exact R1)) (fun _ _ _ h=>h) (.rt rfl) ?_;exact ag.refl _
 refine Z7 ?_;refine .p (cI j (h:=cZ)) rfl ?_;refine Z6 ?_;refine Cd (fun c3=>?_) fun c3=>?_
 ·
  refine Z3 ?_;refine .n (cE (h:=Kw aj aQ bu c0)) rfl fun Zb h47=>?_;refine Z9 ?_;refine Post.aO rfl ((0,Zb)) (by exact(by rw[Kx,c3];exact h47)) (fun _ _ _ h=>h) (.rt rfl) ?_;exact ag.refl _
 refine Z9 ?_;refine Post.aO rfl ((0,z)) (by exact(by rw[Kx];exact .inl ⟨rfl,(JS c1 c2 c3).symm,Nat.le_succ _,aQ,rs,aj,fun r=>by rw[Kx];exact CS c1 c2 c3⟩)) (fun _ _ _ h=>h) (.rt rfl) ?_;exact ag.refl _
theorem xO(aj:l.length≤50000)(aQ:fM l z.sp z.op [])(bu:z.op=[])(cZ:z.sp=[])(jy:¬z.cl):bk Tryz.prog 123 [ai nb 0] (AM nb l z) (γ:=Int×Int×Mh) (fun g=>(g.2.1=0↔mS (l.map (·.Code)) [])∧(g.2.1=0→g.2.2.sp=jr l)) (fun g=>AM nb l g.2.2) (fun g=>aS [aa .i64 g.1,aa .i64 g.2.1]):=by
 refine In 32 Tryz.func123 fun _ _ _=>?_;refine E7 ?_;refine .bP (σ:=Nat×Mh) (fun g=>AM nb l g.2) (fun g=>[(11,aa .i64 (g.1:Int))]) (fun g=>g.1≤l.length∧(g.2.sp,g.2.op)=Ii l g.1∧g.2.op.length≤64∧g.2.sp.length≤g.1∧∃rs,fM l g.2.sp g.2.op rs∧(mS (l.map (·.Code)) []↔er g.2.cl rs ((l.drop g.1).map (·.Code)))) (fun g=>l.length-g.1) (0,z) ⟨Nat.zero_le _,by(show(z.sp,z.op)=([],[]);rw[bu,cZ]),by rw[bu];simp,by rw[cZ];simp,[],aQ,by rw[eq_false jy];simp[er]⟩ rfl ?_ ?_
 · exact(.get rfl (ag.refl _) (.refl _ _))
 rintro⟨i,y⟩ ⟨hi,Zh,ho,hsp,rs,hr,hn⟩;simp only at hi Zh ho hsp hr hn ⊢;refine Z6 ?_;refine Cd (fun c0=>?_) fun c0=>?_
 ·
  obtain⟨x,hx⟩:=ah (xs:=l) (k:=i) (by omega);have hdr:(l.drop i).map (·.Code)=x.Code::(l.drop (i+1)).map (·.Code):=by rw[List.drop_eq_getElem_cons (by omega),List.map_cons];rw[show l[i]=x from by rw[List.getElem?_eq_getElem (by omega)] at hx;exact Option.some.inj hx]
  refine j4 ?_;refine .n (cE (h:=GP hr ho (by omega) hx)) rfl fun RH P9=>?_;refine Z9 ?_;refine Cd (fun c1=>?_) fun c1=>?_
  ·
   refine j4 ?_;refine Post.bY rfl rfl ((i,RH)) (by exact(by rcases P9 with⟨h1,_⟩|⟨h1,h2⟩;exact absurd h1 c1;exact⟨⟨fun h=>absurd h h1,fun h=>absurd (hdr▸hn.1 h) (h2 _)⟩,fun h=>absurd h h1⟩)) (fun _ _ _ h=>h) rfl (.cons (.rt rfl) ?_ (.cons (.rt rfl) ?_ .nil))
   · exact ag.refl _
   exact ag.refl _
  refine Z7 ?_;refine .round (i+1,RH.2) (by rcases P9 with⟨h1,h6,h5,h2,Kv,h3,h4⟩|⟨h1,_⟩;exact⟨by show i+1≤_;omega,(by(show(_,_)=Ii l (i+1);rw[TF hx,←Zh];exact h6)),h2,by show RH.2.sp.length≤i+1;omega,Kv,h3,hn.trans (by rw[hdr];exact h4 _)⟩;exact absurd h1 (fun h=>c1 h)) (by show l.length-(i+1)<l.length-i;omega) rfl ?_;exact(.get rfl (ag.int (by show(_:Int)=((i+1:Nat):Int);omega)) ((.keep 12 rfl rfl)))
 have Zi:i=l.length:=by omega
 have Nx:l.drop i=[]:=List.drop_eq_nil_of_le (by omega);rw[Nx] at hn;simp only[List.map_nil] at hn;rw[JR] at hn;refine uZ ?_;refine Cd (fun c2=>?_) fun c2=>?_
 ·
  refine jz ?_;refine Post.bY rfl rfl (((l.length:Int),4,y)) (by exact⟨⟨fun h=>by simp at h,fun h=>absurd (hn.1 h) c2⟩,fun h=>by simp at h⟩) (fun _ _ _ h=>h) rfl (.cons (.rt rfl) ?_ (.cons (.rt rfl) ?_ .nil))
  · exact ag.refl _
  exact ag.refl _
 refine Z9 ?_;refine Post.bY rfl rfl ((0,0,y)) (by exact⟨⟨fun _=>hn.2 (Classical.not_not.1 c2),fun _=>rfl⟩,fun _=>by(subst Zi;exact congrArg Prod.fst Zh)⟩) (fun _ _ _ h=>h) rfl (.cons (.rt rfl) ?_ (.cons (.rt rfl) ?_ .nil))
 · exact ag.refl _
 exact ag.refl _
theorem D3(aj:l.length≤50000):bk Tryz.prog 86 [an 5 aE l] [] (γ:=Int) (fun e=>e=0↔mS (l.map (·.Code)) []) (fun _=>[]) (fun e=>aS [dg,dg,aa .i64 e]):=by
 refine In 24 Tryz.func86 fun _ _ _=>?_;refine ek ?_;refine .n (gX (.t rfl)) rfl fun Sz _=>?_;refine Z5 ?_;refine .own (hs':=AM Sz l ⟨none,none,[],[],False,0⟩) (aA.trans (aA.E3 (cs':=[an 5 aE l,af (.slice none 0 0),af (.slice none 0 0),ak False,aa .i64 0]) (.cons (.refl _) (.cons (.refl _) (.cons (.refl _) (.cons tQ (.cons (.refl _) .nil)))))) (aA.cons _ Ih)) ?_;refine Z2 ?_;refine .n (cE (h:=xO (z:=⟨none,none,[],[],False,0⟩) aj (fM.nil _ _) rfl rfl (fun h=>h))) rfl fun Uw SA=>?_;refine jz ?_;refine Cd (fun c0=>?_) fun c0=>?_
 ·
  refine ek ?_;refine Post.bY rfl rfl (Uw.2.1) (by exact SA.1) (aA.fI [] [0,1,2] rfl rfl) rfl (.cons (.rt rfl) ?_ (.cons (.rt rfl) ?_ (.cons (.rt rfl) ?_ .nil)))
  · exact ag.any
  · exact ag.any
  exact ag.refl _
 refine j4 ?_;refine Post.bY rfl rfl (Uw.2.1) (by exact SA.1) (aA.fI [] [0,1,2] rfl rfl) rfl (.cons (.rt rfl) ?_ (.cons (.rt rfl) ?_ (.cons (.rt rfl) ?_ .nil)))
 · exact ag.any
 · exact ag.any
 exact ag.int (by omega)
theorem GQ{l:List UInt8}(aj:l.length≤60000):cw Tryz.prog 243 [an 1 aL l] (an 2 n3 (l.foldl aZ [])):=by
 refine In 43 Tryz.func243 fun _ _ _=>?_;refine .iO 2 n3 ?_;refine Jd ?_;refine .bP (σ:=Nat×SB×List (Nat×UInt8)) (fun z=>[aI z.2.1 2 n3 z.2.2]) (fun z=>[(3,af (bA z.2.1 z.2.2.length)),(9,aa .i64 (z.1:Int))]) (fun z=>z.1≤l.length∧z.2.2=(l.take z.1).foldl aZ []) (fun z=>l.length-z.1) (0,none,[]) ⟨Nat.zero_le _,rfl⟩ rfl ?_ ?_
 · exact(.get rfl (ag.of_eq rfl) (.get rfl (ag.refl _) (.refl _ _)))
 rintro⟨k,g1,o⟩ ⟨hk,ho⟩;simp only at hk ho ⊢;refine Z6 ?_;refine Cd (fun c0=>?_) fun c0=>?_
 ·
  obtain⟨t,hx⟩:=ah (xs:=l) (k:=k) (by omega);have xY:=(vw (l.take k) [] 0 (by simp)).2;rw[←ho] at xY;simp only[List.length_nil,List.length_take] at xY;have hoc:=(vw (l.take k) [] 0 (by simp)).1;rw[←ho] at hoc;refine Z6 ?_;refine .p (cI k (h:=hx)) rfl ?_;refine Z5 ?_;rcases List.eq_nil_or_concat o with W6|⟨m,q,W6⟩
  rotate_left
  obtain⟨n,t2⟩:=q;rw[List.concat_eq_append] at W6;subst W6;refine .iY 0 rfl (by simp) fun ob oc hg=>?_;subst hg;have PL:=hoc (n,t2) (by simp);simp only[List.length_take] at PL;simp only[List.length_append,List.length_cons,List.length_nil] at xY
  rotate_left
  subst W6
  rotate_left
  ·
   refine jz ?_;refine .g (bB.gT rfl rfl rfl rfl (fun hg=>gj (.when (.t rfl) hg) (.c _) (cG (by simp<;>omega) (by simp<;>omega)))) rfl rfl ?_;refine .g (bB.gT rfl rfl rfl rfl (fun hg=>ej m.length FU.out FC.out rfl (.when (.t rfl) hg) (.when (.t rfl) hg) (by simp) (by simp))) rfl rfl ?_;refine Z1 ?_;refine .g (bB.gT rfl rfl rfl rfl (fun hg=>kN (i:=0) (r:=1) FA.out (.when (.t rfl) hg) rfl (jZ m (n,t2)) rfl)) rfl rfl ?_;refine Z5 ?_;refine Cd (fun c1=>?_) fun c1=>?_
   ·
    refine Z3 ?_;refine .p (gj (.t rfl) (.c _) (cG (by simp<;>omega) (by simp<;>omega))) rfl ?_;refine .p (ej m.length FU.out FC.out rfl (.t rfl) (.t rfl) (by simp) (by simp)) rfl ?_;refine Z1 ?_;refine .p (kN (i:=0) (r:=0) FA.out (.t rfl) rfl (jZ m (n,t2)) rfl) rfl ?_;refine Z1 ?_;refine .p (ej m.length FU.out FC.out rfl (.t rfl) (.t rfl) (by simp) (by simp)) rfl ?_;refine Z1 ?_;refine .s (oY (enc:=n3) (i:=0) (r:=0) (n+1,t2) rfl FC.out (.t rfl) (.t rfl) rfl (jZ m (n,t2)) rfl rfl) ?_;refine Z1 ?_;rw[Ce];rw[show(m++[(n,t2)]).length=(m++[(n+1,t2)]).length by simp];refine Z6 ?_;refine .round (k+1,some (ob,oc),m++[(n+1,t2)]) ⟨by show k+1≤_;omega,by(show m++[(n+1,t2)]=_;rw[rG hx,←ho,←HU.1 c1.2,sN])⟩ (by show l.length-(k+1)<l.length-k;omega) rfl ?_;exact(.get rfl (ag.refl _) (.get rfl (ag.int (by show(_:Int)=((k+1:Nat):Int);omega)) ((.keep 32 rfl rfl))))
   refine Z4 ?_;refine .p (cB n3 [(1,t)]) rfl ?_;refine .n (bn (i:=0) FU.out FU.out FC.out rfl FZ.out rfl FY.out (.t rfl) (.t rfl) rfl (by simp only[List.length_append,List.length_cons,List.length_nil];omega) (by simp only[List.length_append,List.length_cons,List.length_nil];omega)) rfl fun J6 _=>?_;refine Z8 ?_;refine .round (k+1,J6,(m++[(n,t2)])++[(1,t)]) ⟨by show k+1≤_;omega,by(show(m++[(n,t2)])++[(1,t)]=_;rw[rG hx,←ho,qT _ _ (fun e=>c1 ⟨by simp<;>omega,HU.2 e⟩)])⟩ (by show l.length-(k+1)<l.length-k;omega) rfl ?_;exact(.get rfl (ag.refl _) (.get rfl (ag.int (by show(_:Int)=((k+1:Nat):Int);omega)) ((.keep 29 rfl rfl))))
  refine ek ?_;refine .g (bB.gT rfl rfl rfl rfl (fun hg=>dO (q:=dg) (by simp at hg))) rfl rfl ?_;refine .g (bB.gT rfl rfl rfl rfl (fun hg=>dO (q:=dg) (by simp at hg))) rfl rfl ?_;refine .g (bB.gT rfl rfl rfl rfl (fun hg=>dO (q:=dg) (by simp at hg))) rfl rfl ?_;refine .g (bB.gT rfl rfl rfl rfl (fun hg=>dO (q:=dg) (by simp at hg))) rfl rfl ?_;refine .g (bB.gT rfl rfl rfl rfl (fun hg=>dO (q:=dg) (by simp at hg))) rfl rfl ?_;refine .g (bB.gT rfl rfl rfl rfl (fun hg=>dO (q:=dg) (by simp at hg))) rfl rfl ?_;refine .g (bB.gT rfl rfl rfl rfl (fun hg=>dO (q:=dg) (by simp at hg))) rfl rfl ?_;refine .g (bB.gT rfl rfl rfl rfl (fun hg=>dO (q:=ak True) (by simp at hg))) rfl rfl ?_;refine Z3 ?_;refine Cd (fun c1=>?_) fun c1=>?_
  · exfalso;simp at c1
  refine Z4 ?_;refine .p (cB n3 [(1,t)]) rfl ?_;refine .n (bn (i:=0) FU.out FU.out FC.out rfl FZ.out rfl FY.out (.t rfl) (.t rfl) rfl (by simp only[List.length_append,List.length_cons,List.length_nil];omega) (by simp only[List.length_append,List.length_cons,List.length_nil];omega)) rfl fun J6 _=>?_;refine Z8 ?_;refine .round (k+1,J6,[]++[(1,t)]) ⟨by show k+1≤_;omega,by(show[]++[(1,t)]=_;rw[rG hx,←ho];rfl)⟩ (by show l.length-(k+1)<l.length-k;omega) rfl ?_;exact(.get rfl (ag.refl _) (.get rfl (ag.int (by show(_:Int)=((k+1:Nat):Int);omega)) ((.keep 29 rfl rfl))))
 have KP:l.take k=l:=List.take_of_length_le (by omega);rw[KP] at ho;refine Z6 ?_;refine .gJ (t:=3) (i:=0) rfl rfl ?_;refine Z6 ?_;refine aX ?_;exact ag.of_eq (by rw[ho])
theorem Bq(aj:0≤x.A)(aQ:0≤x.B):cw Tryz.prog 313 [aK (aE x)] (ak (¬iQ x)):=by
 refine In 6 Tryz.func313 fun _ _ _=>?_;refine Z9 ?_;refine .p (cA (h:=uQ aj aQ)) rfl ?_;refine Z5 ?_;refine aX ?_;exact ag.refl _
theorem Br{t:UInt8}:cw Tryz.prog 316 [aa .u8 (t.toNat:Int)] (ak (eC t=0)):=by
 refine In 6 Tryz.func316 fun _ _ _=>?_;refine Z8 ?_;refine .p (cA (h:=nB)) rfl ?_;refine Z5 ?_;refine aX ?_;exact ag.refl _
theorem yE{p:aq→Prop}(aj:∀x∈l,0≤x.A∧0≤x.B):cw Tryz.prog 360 [an 5 aE l,mM Tryz.prog (fun x:aq=>0≤x.A∧0≤x.B) (fun x=>[aK (aE x)]) (fun x=>ak (p x))] (aa .i64 (oE p l)):=by
 refine In 19 Tryz.func360 fun _ _ _=>?_;refine .fact (t:=0) rfl (fun S w v h=>eA h) fun hlen=>?_;refine j4 ?_;refine .bP (σ:=Nat) (fun _=>[]) (fun k=>[(8,aa .i64 (k:Int))]) (fun k=>k≤l.length∧fc p l k) (fun k=>l.length-k) 0 ⟨by omega,fc.zero p l⟩ rfl ?_ ?_
 · exact(.get rfl (ag.refl _) (.refl _ _))
 rintro k ⟨hk,hnot⟩;refine Z6 ?_;refine Cd (fun c0=>?_) fun c0=>?_
 ·
  obtain⟨x,hx⟩:=ah (xs:=l) (k:=k) (by omega);refine uZ ?_;refine .p (cI _) rfl ?_;refine Z1 ?_;refine .p (cV x (h:=aj x (List.mem_of_getElem? hx))) rfl ?_;refine Z2 ?_;refine Cd (fun c1=>?_) fun c1=>?_
  ·
   refine fW ?_;refine aX ?_;exact ag.int (qf hx (by assumption) hnot).symm
  refine Z7 ?_;refine .round (k+1) ⟨by omega,hnot.succ hx (by assumption)⟩ (by omega) rfl ?_;exact(.get rfl (ag.int (by omega)) (.keep 12 rfl rfl))
 refine ek ?_;refine aX ?_;exact ag.int (m9 (hnot.all (by omega))).symm
theorem yF{p:aq→Prop}(aj:∀x∈l,0≤x.A∧0≤x.B):cw Tryz.prog 312 [an 5 aE l,mM Tryz.prog (fun x:aq=>0≤x.A∧0≤x.B) (fun x=>[aK (aE x)]) (fun x=>ak (p x))] (ak (∃x∈l,p x)):=by
 refine In 9 Tryz.func312 fun _ _ _=>?_;refine Z9 ?_;refine .p (cA (h:=yE (by first|assumption|omega))) rfl ?_;refine Z5 ?_;refine aX ?_;exact ag.prop gL
theorem xP{b:nh}(aj:Rq b):cw Tryz.prog 242 [aK (mg b)] (ak ((∀x∈b.L,iQ x)∧(∀t∈b.aY,t=126∨t=127)∧b.aY.length≤50)):=by
 refine In 23 Tryz.func242 fun _ _ _=>?_;refine dH ?_;refine .p (bg (yF (l:=b.L) (p:=fun x=>¬iQ x) (fun x hx=>⟨(aj.ins x hx).A0,(aj.ins x hx).B0⟩)) FB.out (.cons (.t rfl) (.cons (.le (.f _) (pZ FB.out (fun(x:aq) (h:0≤x.A∧0≤x.B)=>Bq h.1 h.2))) .nil))) rfl ?_;refine Z7 ?_;refine .p (bg (sX (l:=b.aY) (p:=fun t=>eC t=0)) FB.out (.cons (.t rfl) (.cons (.le (.f _) (pZ FB.out (fun(b:UInt8) (_:True)=>Br (t:=b)))) .nil))) rfl ?_;refine Ti ?_;refine aX ?_;exact ag.prop (by simp only[not_exists,not_and,Classical.not_not,wu,and_assoc];exact and_congr_right fun _=>and_congr_right fun _=>by omega)
theorem Bs{b:nh}(aj:Rq b):bk Tryz.prog 183 [aK (mg b)] [] (γ:=Int) (fun e=>e=0↔zy b) (fun _=>[]) (fun e=>aS [dg,aa .i64 e]):=by
 refine In 71 Tryz.func183 fun _ _ _=>?_;refine ek ?_;refine .p (cA (h:=xP aj)) rfl ?_;refine Z3 ?_;refine Cd (fun c0=>?_) fun c0=>?_
 ·
  have hno:¬zy b:=fun h=>c0 ⟨h.1,h.2.1,h.2.2.1⟩;refine Z8 ?_;refine Post.bY rfl rfl (1) (by exact⟨fun h=>by simp at h,fun h=>absurd h hno⟩) (fun _ _ _ h=>h) rfl (.cons (.rt rfl) ?_ (.cons (.rt rfl) ?_ .nil))
  · exact ag.any
  exact ag.refl _
 obtain⟨R6,htl,hlo⟩:=Classical.not_not.1 c0;refine Z7 ?_;refine .n (cE (h:=D3 (by have:=aj.len;omega))) rfl fun Uy Sy=>?_;refine uZ ?_;refine Cd (fun c1=>?_) fun c1=>?_
 ·
  refine Z9 ?_;refine Post.bY rfl rfl (Uy) (by exact⟨fun h=>absurd h c1,fun h=>Sy.2 h.2.2.2.1⟩) (fun _ _ _ h=>h) rfl (.cons (.rt rfl) ?_ (.cons (.rt rfl) ?_ .nil))
  · exact ag.any
  exact ag.refl _
 have YF:=Sy.1 (Classical.not_not.1 c1);obtain⟨hrc,hrl⟩:=vw b.aY [] 0 (by simp);simp only[List.length_nil,Nat.zero_add] at hrc hrl;have Uv:jA (b.aY.foldl aZ []).length≤10:=iL (by omega);refine Z6 ?_;refine .p (cA (h:=GQ aj.loc)) rfl ?_;refine Z4 ?_;refine .iO 1 aL ?_;refine Z4 ?_;refine .n (cE (h:=qA (g:=none) (xs:=[]) (n:=(b.aY.foldl aZ []).length) (by omega) (by simp))) rfl fun NJ R1=>?_;refine fW ?_;refine .bP (σ:=Nat×SB×List UInt8) (fun z=>[aI z.2.1 1 aL z.2.2]) (fun z=>[(8,af (bA z.2.1 z.2.2.length)),(37,aa .i64 (z.1:Int))]) (fun z=>z.1≤(b.aY.foldl aZ []).length∧z.2.2.length=jA (b.aY.foldl aZ []).length+wZ ((b.aY.foldl aZ []).take z.1)) (fun z=>(b.aY.foldl aZ []).length-z.1) (0,NJ.1,NJ.2) ⟨Nat.zero_le _,by(show NJ.2.length=_;rw[R1];simp[wZ])⟩ rfl ?_ ?_
 · exact(.get rfl (ag.refl _) (.get rfl (ag.refl _) (.refl _ _)))
 rintro⟨k,g1,ys⟩ ⟨hk,hys⟩;simp only at hk hys ⊢;have hsr:=AP ((b.aY.foldl aZ []).take k) (fun p hp=>by have:=hrc p (List.mem_of_mem_take hp);omega);rw[List.length_take] at hsr;refine Z6 ?_;refine Cd (fun c2=>?_) fun c2=>?_
 ·
  obtain⟨r,hr⟩:=ah (xs:=(b.aY.foldl aZ [])) (k:=k) (by omega);have hrn:=hrc r (List.mem_of_getElem? hr);have bg4:jA r.1≤10:=iL (by omega);refine Z6 ?_;refine .p (cI k (h:=hr)) rfl ?_;refine Z1 ?_;refine .n (ay FZ.out) rfl fun Sz _=>?_;refine Z3 ?_;refine .share (t:=10) (i:=0) rfl rfl ?_;refine .bF [(0,0),(1,0),(2,0),(3,0),(5,0),(6,0),(7,0),(4,2)] 8 2 FM.out (by kernel_rfl) (k:= ?_);refine Z6 ?_;refine .p rfl (fun _=>bV (enc:=aL) [r.2] FU.out FC.out rfl FZ.out rfl (.cons (.t rfl) .nil) rfl rfl rfl rfl rfl) ?_;refine .e rfl (cE (h:=qA (n:=r.1) (by omega) (by omega))) fun Ex W0=>?_;refine .fin ?_;refine .n (bn (i:=0) FU.out FU.out FC.out rfl FZ.out rfl FY.out (.t rfl) (.t rfl) rfl (by simp only[List.length_cons,List.length_nil];omega) (by simp only[List.length_cons,List.length_nil];omega)) rfl fun Sm _=>?_;refine Z8 ?_;refine .round (k+1,Sm,Ex.2++[r.2]) ⟨by show k+1≤_;omega,by(show(Ex.2++[r.2]).length=_;rw[List.length_append,W0,hys,←cu hr,JU];simp only[List.length_cons,List.length_nil];omega)⟩ (by show(b.aY.foldl aZ []).length-(k+1)<(b.aY.foldl aZ []).length-k;omega) rfl ?_;exact(.get rfl (ag.refl _) (.get rfl (ag.int (by show(_:Int)=((k+1:Nat):Int);omega)) ((.keep 19 rfl rfl))))
 have hkr:(b.aY.foldl aZ []).take k=(b.aY.foldl aZ []):=List.take_of_length_le (by omega);rw[hkr] at hys;refine uZ ?_;refine .bP (σ:=Nat×SB×List UInt8) (fun z=>[aI z.2.1 1 aL z.2.2]) (fun z=>[(8,af (bA z.2.1 z.2.2.length)),(54,aa .i64 (z.1:Int))]) (fun z=>z.1≤b.L.length∧z.2.2.length=jA (b.aY.foldl aZ []).length+wZ (b.aY.foldl aZ [])+yf (b.L.take z.1)) (fun z=>b.L.length-z.1) (0,g1,ys) ⟨Nat.zero_le _,by(show ys.length=_;rw[hys];simp[yf])⟩ rfl ?_ ?_
 · exact(.get rfl (ag.refl _) (.get rfl (ag.refl _) (.refl _ _)))
 rintro⟨i,g2,ws⟩ ⟨hi,hzs⟩;simp only at hi hzs ⊢;have hsi:=Ik (b.L.take i) (fun x hx=>⟨.of (aj.ins x (List.mem_of_mem_take hx)) (R6 x (List.mem_of_mem_take hx)),R6 x (List.mem_of_mem_take hx)⟩);rw[List.length_take] at hsi;have bg5:=AP (b.aY.foldl aZ []) (fun p hp=>by have:=hrc p hp;omega);have x5:=aj.len;refine Z6 ?_;refine Cd (fun c3=>?_) fun c3=>?_
 ·
  obtain⟨x,hx⟩:=ah (xs:=b.L) (k:=i) (by omega);have hxl:=Ij (.of (aj.ins x (List.mem_of_getElem? hx)) (R6 x (List.mem_of_getElem? hx))) (R6 x (List.mem_of_getElem? hx));refine Z6 ?_;refine .p (cI i (h:=hx)) rfl ?_;refine Z1 ?_;refine .n (ay FZ.out) rfl fun Zj _=>?_;refine Z3 ?_;refine .share (t:=12) (i:=0) rfl rfl ?_;refine Z3 ?_;refine .n (cE (h:=Bp (.of (aj.ins x (List.mem_of_getElem? hx)) (R6 x (List.mem_of_getElem? hx))) (R6 x (List.mem_of_getElem? hx)))) rfl fun Ui W2=>?_;refine dH ?_;refine .n (bn (i:=0) (xs:=ws) (ys:=Ui) FU.out FU.out FC.out rfl FZ.out rfl FY.out (.t rfl) (.t rfl) rfl (by omega) (by omega)) rfl fun g65 _=>?_;refine Z8 ?_;refine .round (i+1,g65,ws++Ui) ⟨by show i+1≤_;omega,by(show(ws++Ui).length=_;rw[List.length_append,W2,hzs,←cu hx,JT];omega)⟩ (by show b.L.length-(i+1)<b.L.length-i;omega) rfl ?_;exact(.get rfl (ag.refl _) (.get rfl (ag.int (by show(_:Int)=((i+1:Nat):Int);omega)) ((.keep 20 rfl rfl))))
 have Nx:b.L.take i=b.L:=List.take_of_length_le (by omega);rw[Nx] at hzs;have htot:ws.length=LZ b:=by rw[hzs,OR]
 refine Z9 ?_;refine .p (HI (xs:=ws) (i:=0) rfl Tryz.underlying61 (.t rfl) rfl rfl) rfl ?_;refine Z3 ?_;refine Cd (fun c4=>?_) fun c4=>?_
 ·
  refine Z8 ?_;refine Post.bY rfl rfl (15) (by exact⟨fun h=>by simp at h,fun h=>by have:=h.2.2.2.2;omega⟩) (aA.fI [] [0] rfl rfl) rfl (.cons (.rt rfl) ?_ (.cons (.rt rfl) ?_ .nil))
  · exact ag.any
  exact ag.refl _
 refine dH ?_;refine Post.bY rfl rfl (0) (by exact⟨fun _=>⟨R6,htl,hlo,YF,by omega⟩,fun _=>rfl⟩) (aA.fI [] [0] rfl rfl) rfl (.cons (.rt rfl) ?_ (.cons (.rt rfl) ?_ .nil))
 · exact ag.any
 exact ag.refl _
end Go.Proofs.YtmacjbfbpjgmnaaGreatDoor
end
section
namespace Go.Proofs.YtmacjbfbpjgmnaaGreatDoor
open Go.Hl
theorem IN{m:aR}:(rK m).2=0↔fA m:=by
 rw[MP];constructor
 · intro h
   simp only[kG,List.mem_cons,List.not_mem_nil,or_false] at h;exact⟨h _ (.inl rfl),h _ (.inr (.inl rfl)),h _ (.inr (.inr (.inl rfl))),h _ (.inr (.inr (.inr (.inl rfl)))),h _ (.inr (.inr (.inr (.inr (.inl rfl))))),h _ (.inr (.inr (.inr (.inr (.inr (.inl rfl)))))),h _ (.inr (.inr (.inr (.inr (.inr (.inr (.inl rfl))))))),h _ (.inr (.inr (.inr (.inr (.inr (.inr (.inr (.inl rfl)))))))),h _ (.inr (.inr (.inr (.inr (.inr (.inr (.inr (.inr (.inl rfl))))))))),h _ (.inr (.inr (.inr (.inr (.inr (.inr (.inr (.inr (.inr rfl)))))))))⟩
 · intro h p hp
   simp only[kG,List.mem_cons,List.not_mem_nil,or_false] at hp;rcases hp with rfl|rfl|rfl|rfl|rfl|rfl|rfl|rfl|rfl|rfl
   · exact h.sigs
   · exact h.imports
   · exact h.funcs
   · exact h.table
   · exact h.jG
   · exact h.globals
   · exact h.cM
   · exact h.start
   · exact h.elems
   · exact h.fK
theorem uR{m:aR}(h:fA m):(rK m).2=0:=IN.2 h
end Go.Proofs.YtmacjbfbpjgmnaaGreatDoor
end
section
namespace Go.Proofs.YtmacjbfbpjgmnaaGreatDoor
open Go.Hl Go.RowKit
variable {m:aR} {f:bU} {i:Nat}
theorem s7(aj:fA m)(aQ:gD m)(bu:m.aB[i]?=some f):cw Tryz.prog 89 [bH (bp m),aa .i64 ((i:Int))] (aS [an 1 aL ((bJ m f).aY),ak True]):=by
 refine In 49 Tryz.func89 fun _ _ _=>?_;have q7:f∈m.aB:=List.mem_of_getElem? bu;have Nx:=(List.getElem?_eq_some_iff.1 bu).1;have hlens:=aj.lens;have T6:(m.av.length:Int)+(m.aB.length:Int)≤100:=hlens.2.2.2.2;have EG:=(lq (nx aj q7)).2;have hP:=(aj.EB _ EG).1;have hlo:=aQ.loc f q7;refine XG ?_;refine Cd (fun c0=>?_) fun c0=>?_
 · exfalso;rcases c0 with(h|h)|h;exact h;omega;omega
 refine fW ?_;refine .p ((cA (h:=ga (m:=m) (f:=(m.av.length:Int)+(i:Int)))).le (ag.of_eq (show aS [aK (dQ ((eM m ((m.av.length:Int)+(i:Int))).getD ⟨[],[]⟩)),ak (eM m ((m.av.length:Int)+(i:Int))).isSome]=aS [aK (dQ (bC m f.gq)),ak ((some (bC m f.gq)).isSome=true)] by rw[lu aj bu];rfl))) rfl ?_;refine Z3 ?_;refine .n (ay FZ.out) rfl fun b6 _=>?_;refine Z4 ?_;refine .share (t:=6) (i:=0) rfl rfl ?_;refine Z1 ?_;refine .bz 15 1 FM.out (by kernel_rfl) (k:= ?_);refine Z7 ?_;refine .p (cI i (h:=bu)) ?_;refine Z3 ?_;refine .p (cB AQ [(bC m f.gq).P,f.Body.aY]) ?_;refine .p (cA (h:=Bj (ls:=[(bC m f.gq).P,f.Body.aY]) (by simp;omega))) ?_;refine Z7 ?_;refine fj ?_ ?_
 · exact ag.of_eq (by simp[bJ])
 exact ag.prop (by simp)
theorem zX(aj:fA m)(aQ:gD m)(bu:m.aB[i]?=some f):bk Tryz.prog 122 [bH (bp m),aa .i64 ((i:Int))] [] (γ:=Int×Int×List Nat×SB) (fun g=>(g.2.1=0∧zy f.Body∧cj m f=some g.2.2.1)∨(g.2.1≠0∧¬wH m f∧g.2.2.1=[])) (fun g=>[aI g.2.2.2 1 jC g.2.2.1]) (fun g=>aS [af (bA g.2.2.2 g.2.2.1.length),aa .i64 g.1,aa .i64 g.2.1]):=by
 refine In 99 Tryz.func122 fun _ _ _=>?_;have q7:f∈m.aB:=List.mem_of_getElem? bu;have Nx:=(List.getElem?_eq_some_iff.1 bu).1;have hlens:=aj.lens;have T6:(m.av.length:Int)+(m.aB.length:Int)≤100:=hlens.2.2.2.2;have EG:=(lq (nx aj q7)).2;have RK:=aQ.len f q7;have hfit:(rK m).2=0:=uR aj;refine ek ?_;refine .p (cA (h:=Dq (m:=m))) rfl ?_;refine Z2 ?_;refine .p ((dA (.t rfl) rfl).le (ag.int hfit)) rfl ?_;refine dH ?_;refine CT fun c0=>?_;refine Z6 ?_;refine .p (cA (h:=s7 aj aQ bu)) rfl ?_;refine j4 ?_;refine Cd (fun c1=>?_) fun c1=>?_
 · exact absurd trivial c1
 refine Z9 ?_;refine .p (cI i (h:=bu)) rfl ?_;refine Z2 ?_;refine .n (ay FZ.out) rfl fun b11 _=>?_;refine Z3 ?_;refine .share (t:=11) (i:=0) rfl rfl ?_;refine Z4 ?_;refine .n (cE (h:=Bs (aQ.bd q7))) rfl fun KY h46=>?_;refine jz ?_;refine Cd (fun c2=>?_) fun c2=>?_
 ·
  have hno:¬wH m f:=fun h=>c2 (h46.2 h.1);refine dH ?_;refine Post.bY rfl rfl ((0,KY,[],none)) (by exact .inr ⟨c2,hno,rfl⟩) (fun F S w h=>⟨fun _=>False,F,fun _ h=>h.elim,fun _ h=>h,rfl,trivial⟩) rfl (.cons (.rt rfl) ?_ (.cons (.rt rfl) ?_ (.cons (.rt rfl) ?_ .nil)))
  · exact ag.of_eq rfl
  · exact ag.refl _
  exact ag.refl _
 have oP:=h46.1 (Classical.not_not.1 c2);have I0:wL m f:=⟨aj,by(show((bC m f.gq).P++f.Body.aY).length≤60000;rw[List.length_append];have h1:=(aj.EB _ EG).1;have h2:=oP.2.2.1;omega),EG⟩;refine fW ?_;refine .p ((cA (h:=ga (m:=m) (f:=(m.av.length:Int)+(i:Int)))).le (ag.of_eq (show aS [aK (dQ ((eM m ((m.av.length:Int)+(i:Int))).getD ⟨[],[]⟩)),ak (eM m ((m.av.length:Int)+(i:Int))).isSome]=aS [aK (dQ (bC m f.gq)),ak ((some (bC m f.gq)).isSome=true)] by rw[lu aj bu];rfl))) rfl ?_;refine Z3 ?_;refine .n (ay FZ.out) rfl fun b14 _=>?_;refine Z4 ?_;refine .share (t:=14) (i:=0) rfl rfl ?_;refine Z8 ?_;refine .p ((az FP.out FZ.out (.cons (.t rfl) .nil) rfl).le ((show ag _ (aK (jq (j9 0 ⟨False,False,(bC m f.gq).R,([],False)⟩ ([],False)))) from ag.agg (.cons tQ (.cons tQ (.cons (.refl _) (.cons (.refl _) (.cons tQ .nil)))))))) rfl ?_;refine .n (jT jq [j9 0 ⟨False,False,(bC m f.gq).R,([],False)⟩ ([],False)] FU.out FC.out rfl FZ.out rfl (.cons (.t rfl) .nil) rfl rfl rfl rfl rfl) rfl fun Ur _=>?_;refine .p (aT.le (az FP.out FZ.out (.cons (.t rfl) (.cons (.t rfl) .nil)) rfl) (ag.refl (aK [bH (bp m),an 1 aL (bJ m f).aY,an 1 aL (bC m f.gq).P,an 1 aL (bC m f.gq).R,af (bA none 0),af (bA Ur 1)]))) rfl ?_;refine .n (gX (.t rfl)) rfl fun b73 _=>?_;refine Z4 ?_;refine .iO 1 aL ?_;refine .iO 1 jC ?_;refine j4 ?_;refine .own (aA.perm (Perm.idx [0,2,1,3] rfl rfl)) ?_;refine .bP (σ:=Nat×SB×List Nat×PZ) (fun g=>aI g.2.1 1 jC g.2.2.1::WU b73 m f g.2.2.2) (fun g=>[(17,af (bA g.2.1 g.2.2.1.length)),(77,aa .i64 (g.1:Int))]) (fun g=>g.1≤f.Body.L.length∧g.2.2.1.length≤g.1∧∃fs,JD fs g.2.2.2.2.2.1 g.2.2.2.2.2.2∧sO m f g.1 g.2.2.1 fs) (fun g=>f.Body.L.length-g.1) (0,none,[],(none,Ur,[],[j9 0 ⟨False,False,(bC m f.gq).R,([],False)⟩ ([],False)])) ⟨Nat.zero_le _,Nat.le_refl _,_,⟨rfl,fun _=>rfl⟩,sO.init aj EG oP.2.2.2.1⟩ rfl ?_ ?_
 · exact(.get rfl (ag.of_eq rfl) (.get rfl (ag.refl _) (.refl _ _)))
 rintro⟨j,gh,hts,z⟩ ⟨hj,hhl,fs,hz,hR⟩;simp only at hj hhl hz hR ⊢;refine Z6 ?_;refine Cd (fun c3=>?_) fun c3=>?_
 ·
  obtain⟨x,hx⟩:=ah (xs:=f.Body.L) (k:=j) (by omega);obtain⟨fs,b,hfb⟩:=CW (sP hx▸hR.nest);subst hfb;obtain⟨zs,zb,zst,zB⟩:=z;obtain⟨hB,hst⟩:=hz;simp only at hB hst;have hst:=hst (by simp);rw[jK] at hB;rw[fX] at hst;subst hB;subst hst;refine .iY 3 rfl (by simp) fun bb bc hg=>?_;simp only at hg;subst hg;refine Z7 ?_;refine .p (cI j (h:=hx)) rfl ?_;refine Z1 ?_;refine .n (ay FZ.out) rfl fun b19 _=>?_;refine Z4 ?_;refine .share (t:=19) (i:=0) rfl rfl ?_;refine Z8 ?_;refine .p (cB jC [(cL fs++b.st.1).length]) rfl ?_;refine .n (bn (i:=0) FU.out FU.out FC.out rfl FZ.out rfl FY.out (.t rfl) (.t rfl) rfl (by simp only[List.length_cons,List.length_nil];omega) (by simp only[List.length_cons,List.length_nil];omega)) rfl fun g89 _=>?_;refine Z7 ?_;refine .n (fU [_] [1,2,3,0] (h:=GL (x:=x) (by rw[←fX,wI];have:=hR.hgt;omega) I0 (.of (aQ.ins f q7 x (List.mem_of_getElem? hx)) (oP.1 x (List.mem_of_getElem? hx))) (by have:=hR.len;simp at this;omega) hR.EB (oP.1 x (List.mem_of_getElem? hx)).1)) rfl fun Um Un=>?_;refine Z9 ?_;refine Cd (fun c4=>?_) fun c4=>?_
  ·
   refine uZ ?_;refine Post.bY rfl rfl (((j:Int),Um.2,[],none)) (by exact .inr ⟨c4,fun h=>by(obtain⟨hs,hh⟩:=h.2;obtain⟨oz,e92⟩:=Um;cases oz with|some z2=>exact c4 Un.1|none=>(have h8:=hR.TG hx Un.2;rw[hh] at h8;cases h8)),rfl⟩) (fun F S w h=>⟨fun _=>False,F,fun _ h=>h.elim,fun _ h=>h,rfl,trivial⟩) rfl (.cons (.rt rfl) ?_ (.cons (.rt rfl) ?_ (.cons (.rt rfl) ?_ .nil)))
   · exact ag.of_eq rfl
   · exact ag.refl _
   exact ag.refl _
  obtain⟨oz,e92⟩:=Um;obtain rfl|⟨z2,rfl⟩:oz=none∨∃z2,oz=some z2:=by cases oz with|none=>exact .inl rfl|some z2=>exact .inr ⟨z2,rfl⟩
  exact absurd Un.1 c4;obtain⟨h92a,fs2,uj,x4⟩:=Un;have hRn:=hR.next aj hx uj;simp only[Nq];refine Z7 ?_;refine .own (aA.perm (Perm.idx [3,0,1,2] rfl rfl)) (bx.round (j+1,g89,hts++[(cL fs++b.st.1).length],z2) ⟨by show j+1≤_;omega,by(show(hts++[_]).length≤j+1;rw[List.length_append];simp only[List.length_cons,List.length_nil];omega),fs2,x4,by(show sO m f (j+1) (hts++[(cL fs++b.st.1).length]) fs2;rw[←fX,wI];exact hRn)⟩ (by show f.Body.L.length-(j+1)<f.Body.L.length-j;omega) rfl ?_);exact(.get rfl (ag.refl _) (.get rfl (ag.int (by show(_:Int)=((j+1:Nat):Int);omega)) ((.keep 26 rfl rfl))))
 have hdone:=hR.done (by omega);refine j4 ?_;refine Post.bY rfl rfl ((0,0,hts,gh)) (by exact .inl ⟨rfl,oP,hdone⟩) (aA.fI [0] [1,2,3] rfl rfl) rfl (.cons (.rt rfl) ?_ (.cons (.rt rfl) ?_ (.cons (.rt rfl) ?_ .nil)))
 · exact ag.refl _
 · exact ag.refl _
 exact ag.refl _
theorem GR(aj:fA m)(aQ:gD m)(bu:m.aB[i]?=some f):bk Tryz.prog 164 [bH (bp m),aa .i64 ((i:Int))] [] (γ:=Int×Int) (fun g=>g.2=0↔wH m f) (fun _=>[]) (fun g=>aS [aa .i64 g.1,aa .i64 g.2]):=by
 refine In 18 Tryz.func164 fun _ _ _=>?_;refine dH ?_;refine .n (cE (h:=zX aj aQ bu)) rfl fun oH h12=>?_;refine E7 ?_;refine Post.bY rfl rfl ((oH.1,oH.2.1)) (by exact(by rcases h12 with⟨h1,h2,h3⟩|⟨h1,h2,h3⟩;exact⟨fun _=>⟨h2,_,h3⟩,fun _=>h1⟩;exact⟨fun h=>absurd h h1,fun h=>absurd h h2⟩)) (aA.fI [] [0] rfl rfl) rfl (.cons (.rt rfl) ?_ (.cons (.rt rfl) ?_ .nil))
 · exact ag.refl _
 exact ag.refl _
theorem Ky(aj:gD m)(aQ:m.aB.length≤60000):bk Tryz.prog 106 [bH (bp m)] [] (γ:=List (List UInt8×Int×Int×Int)) (fun l=>l=[]↔ec m) (fun _=>[]) (fun l=>an 4 n4 l):=by
 refine In 45 Tryz.func106 fun _ _ _=>?_;refine Z9 ?_;refine .p (cA (h:=Dq (m:=m))) rfl ?_;refine jz ?_;refine Cd (fun c0=>?_) fun c0=>?_
 ·
  have hnv:¬ec m:=fun h=>c0 (uR h.1);refine Z5 ?_;refine .p (cB n4 [((rK m).1,-1,0,(rK m).2)]) rfl ?_;refine Z5 ?_;refine Post.aO rfl ([((rK m).1,-1,0,(rK m).2)]) (by exact⟨fun h=>absurd h (by simp),fun h=>absurd h hnv⟩) (fun _ _ _ h=>h) (.rt rfl) ?_;exact ag.refl _
 have hfits:fA m:=IN.1 (Classical.not_not.1 c0);refine Z9 ?_;refine .iO 4 n4 ?_;refine dH ?_;refine .bP (σ:=Nat×SB×List (List UInt8×Int×Int×Int)) (fun g=>[aI g.2.1 4 n4 g.2.2]) (fun g=>[(5,af (bA g.2.1 g.2.2.length)),(25,aa .i64 (g.1:Int))]) (fun g=>g.1≤m.aB.length∧g.2.2.length≤g.1∧(g.2.2=[]↔∀f∈m.aB.take g.1,wH m f)) (fun g=>m.aB.length-g.1) (0,none,[]) ⟨Nat.zero_le _,Nat.le_refl _,by simp⟩ rfl ?_ ?_
 · exact(.get rfl (ag.of_eq rfl) (.get rfl (ag.refl _) (.refl _ _)))
 rintro⟨j,gl,l⟩ ⟨hj,RK,hv⟩;simp only at hj RK hv ⊢;refine Z6 ?_;refine Cd (fun c1=>?_) fun c1=>?_
 ·
  obtain⟨f,hf⟩:=ah (xs:=m.aB) (k:=j) (by omega);refine j4 ?_;refine .n (cE (h:=GR hfits aj hf)) rfl fun Kn R0=>?_;refine jz ?_;refine Cd (fun c2=>?_) fun c2=>?_
  ·
   refine Z5 ?_;refine .p (az FP.out FZ.out (.cons (.s [102,117,110,99] rfl rfl) (.cons (.t rfl) (.cons (.t rfl) (.cons (.t rfl) .nil)))) rfl) rfl ?_;refine .p (cB n4 [([102,117,110,99],(j:Int),Kn.1,Kn.2)]) rfl ?_;refine .n (bn (i:=0) FU.out FU.out FC.out rfl FZ.out rfl FY.out (.t rfl) (.t rfl) rfl (by simp only[List.length_cons,List.length_nil];omega) (by simp only[List.length_cons,List.length_nil];omega)) rfl fun Nj _=>?_;refine Z8 ?_;refine .round (j+1,Nj,l++[([102,117,110,99],(j:Int),Kn.1,Kn.2)]) ⟨by show j+1≤_;omega,by(show(l++[_]).length≤j+1;rw[List.length_append];simp only[List.length_cons,List.length_nil];omega),⟨fun h=>absurd h (by simp),fun h=>absurd (R0.2 (h f (by rw[←cu hf];simp))) c2⟩⟩ (by show m.aB.length-(j+1)<m.aB.length-j;omega) rfl ?_;exact(.get rfl (ag.refl _) (.get rfl (ag.int (by show(_:Int)=((j+1:Nat):Int);omega)) ((.keep 25 rfl rfl))))
  refine Z7 ?_;refine .round (j+1,gl,l) ⟨by show j+1≤_;omega,by(show l.length≤j+1;omega),by(show l=[]↔_;rw[hv,←cu hf];have h9:=R0.1 (Classical.not_not.1 c2);constructor;intro h g hg;rcases List.mem_append.1 hg with hg|hg;exact h g hg;(simp only[List.mem_singleton] at hg;subst hg;exact h9);intro h g hg;exact h g (List.mem_append_left _ hg))⟩ (by show m.aB.length-(j+1)<m.aB.length-j;omega) rfl ?_;exact(.get rfl (ag.refl _) (.get rfl (ag.int (by show(_:Int)=((j+1:Nat):Int);omega)) ((.keep 17 rfl rfl))))
 have hall:m.aB.take j=m.aB:=List.take_of_length_le (by omega);rw[hall] at hv;refine .gJ (t:=5) (i:=0) (g:=gl) (xs:=l) rfl rfl ?_;refine fW ?_;refine Post.aO rfl (l) (by exact⟨fun h=>⟨hfits,hv.1 h⟩,fun h=>hv.2 h.2⟩) (fun _ _ _ h=>h) (.rt rfl) ?_;exact ag.refl _
theorem D4(aj:gD m)(aQ:m.aB.length≤60000):bk Tryz.prog 69 [bH (bp m)] [] (γ:=List UInt8×Int×Int×Int) (fun _=>True) (fun _=>[]) (fun y=>aS [aK (n4 y),ak (¬ec m)]):=by
 refine In 14 Tryz.func69 fun _ _ _=>?_;refine Z2 ?_;refine .n (ay FZ.out) rfl fun b2 _=>?_;refine Z6 ?_;refine .n (cE (h:=Ky aj aQ)) rfl fun g6 h6=>?_;refine ek ?_;refine Cd (fun c0=>?_) fun c0=>?_
 ·
  have hv:ec m:=h6.1 (List.eq_nil_of_length_eq_zero (by omega));refine Z9 ?_;refine Post.bY rfl rfl (([],0,0,0)) (by trivial) (aA.fI [] [0] rfl rfl) rfl (.cons (.ra (i:=0) FA.out FC.out rfl rfl rfl rfl) ?_ (.cons (.rt rfl) ?_ .nil))
  · exact ag.agg (.cons oM (.cons (ag.refl _) (.cons (ag.refl _) (.cons (ag.refl _) .nil))))
  exact ag.prop ⟨fun h=>h.elim,fun h=>absurd hv h⟩
 have hne:g6≠[]:=fun e=>c0 (by rw[e];rfl);have hv:¬ec m:=fun h=>hne (h6.2 h);obtain⟨y,hy⟩:=ah (xs:=g6) (k:=0) (List.length_pos_iff.2 hne);refine Z5 ?_;refine .p (cI 0 (h:=hy)) rfl ?_;refine Z6 ?_;refine Post.bY rfl rfl (y) (by trivial) (aA.fI [] [0] rfl rfl) rfl (.cons (.ra (i:=0) FA.out FC.out rfl rfl rfl rfl) ?_ (.cons (.rt rfl) ?_ .nil))
 · exact ag.refl _
 exact ag.prop ⟨fun _=>hv,fun _=>trivial⟩
theorem D5(aj:gD m)(aQ:m.aB.length≤60000):bk Tryz.prog 36 [bH (bp m)] [] (γ:=Unit) (fun _=>True) (fun _=>[]) (fun _=>ak (ec m)):=by
 refine In 12 Tryz.func36 fun _ _ _=>?_;refine Z8 ?_;refine .n (cE (h:=D4 aj aQ)) rfl fun g7 h7=>?_;refine Z3 ?_;refine .n (ay FZ.out) rfl fun b3 _=>?_;refine Z4 ?_;refine .share (t:=3) (i:=0) rfl rfl ?_;refine Z8 ?_;refine aX ?_;exact ag.prop Classical.not_not
variable {pb:Nat} {X:m7} {a:cS} {num:Int}
theorem D6{sb:Nat}{t:Int}{g:Nat}(aj:cC X a)(aQ:u9 m)(bu:g+8*m.aH.length≤X.size)(cZ:m.dU=[]):bk Tryz.prog 38 [ai sb 0] (lX sb X pb m num (g:Int) t (af (.slice none 0 0))::gy X a) (γ:=Unit) (fun _=>True) (fun _=>lX sb X pb m num (g:Int) t (af (.slice none 0 0))::gy X (Nz m g a m.aH.length)) (fun _=>aS []):=by
 refine In 71 Tryz.func38 fun _ _ _=>?_;have RI:=aQ.gl;have hml:=aQ.ml;have hkm:=aj.most
 refine uZ ?_;refine .bP (σ:=Nat) (fun k=>lX sb X pb m num (g:Int) t (af (.slice none 0 0))::gy X (Nz m g a k)) (fun k=>[(16,aa .i64 (k:Int))]) (fun k=>k≤m.aH.length) (fun k=>m.aH.length-k) 0 (Nat.zero_le _) rfl ?_ ?_
 · exact(.get rfl (ag.refl _) (.refl _ _))
 rintro k hk;refine Z6 ?_;refine Cd (fun c0=>?_) fun c0=>?_
 ·
  obtain⟨z,hz⟩:=ah (xs:=m.aH) (k:=k) (by omega);have hzv:=aQ.gv z (List.mem_of_getElem? hz);refine Z7 ?_;refine .p (cI k (h:=hz)) rfl ?_;refine Z1 ?_;refine .n (ay FZ.out) rfl fun b3 _=>?_;refine Z4 ?_;refine .share (t:=3) (i:=0) rfl rfl ?_;refine Z4 ?_;refine .p ((oK FA.out (.t rfl)).le (ag.int (show z.Value=((z.Value.toNat:Nat):Int) by omega))) rfl ?_;refine .n (cE (h:=zP (a:=Nz m g a k) (g:=g) (i:=k) (v:=z.Value.toNat) (z:=z) hz (Ax aj k (by omega)) (by omega) (by omega) hzv.2.2 RI)) rfl fun NI Pv=>?_;refine Z7 ?_;refine .round (k+1) (by omega) (by omega) (by show _=_::gy X ((Nz m g a k).put (g+8*k) (kO (o7 (Av m k).Ty (Av m k).Value.toNat) 8));rw[HX hz];try rfl) ?_;exact(.get rfl (ag.int (by(show(k:Int)+1=((k+1:Nat):Int);omega))) ((.keep 15 rfl rfl)))
 have qO:k=m.aH.length:=by omega
 subst qO;refine Jd ?_;refine .bP (σ:=Nat) (fun _=>lX sb X pb m num (g:Int) t (af (.slice none 0 0))::gy X (Nz m g a m.aH.length)) (fun k=>[(35,aa .i64 (k:Int))]) (fun k=>k=0) (fun k=>0) 0 rfl rfl ?_ ?_
 · exact(.get rfl (ag.refl _) (.refl _ _))
 rintro k hk;refine Z6 ?_;refine Cd (fun c1=>?_) fun c1=>?_
 · exfalso;rw[cZ] at c1;simp only[List.length_nil] at c1;omega
 refine Z4 ?_;refine Post.bT rfl (()) (by trivial) (fun _ _ _ h=>h) rfl
theorem D7{sb:Nat}{g:Int}{t0:Nat}(aj:cC X a)(aQ:u9 m)(bu:t0+4*fB m≤X.size)(cZ:m.fV=[]):bk Tryz.prog 39 [ai sb 0] (lX sb X pb m num g (t0:Int) (af (.slice none 0 0))::gy X (tM m t0 a 0)) (γ:=Nat×Nat×Int) (fun r=>Az m r) (fun r=>(lX sb X pb m num g (t0:Int) (af (.slice none 0 0))::gy X (tM m t0 a r.1))) (fun r=>aS [aa .i64 r.2.2,aa .i64 0]):=by
 refine In 67 Tryz.func39 fun _ _ _=>?_;have RK:=aQ.ll;refine Ti ?_;refine .bP (σ:=Nat) (fun k=>(lX sb X pb m num g (t0:Int) (af (.slice none 0 0))::gy X (tM m t0 a k))) (fun k=>[(19,aa .i64 (k:Int))]) (fun k=>k≤m.dw.length∧ot m k) (fun k=>m.dw.length-k) 0 ⟨Nat.zero_le _,ot.nil⟩ rfl ?_ ?_
 · exact(.get rfl (ag.refl _) (.refl _ _))
 rintro k ⟨hk,Zk⟩;refine Z6 ?_;refine Cd (fun c0=>?_) fun c0=>?_
 ·
  obtain⟨z,hz⟩:=ah (xs:=m.dw) (k:=k) (by omega);have hzm:=List.mem_of_getElem? hz;have hok:=Ay (X:=X) (t:=t0) aj aQ bu k;refine Z6 ?_;refine .p (cI k (h:=hz)) rfl ?_;refine Z1 ?_;refine .n (ay FZ.out) rfl fun b5 _=>?_;refine Z3 ?_;refine .share (t:=5) (i:=0) rfl rfl ?_;refine Z3 ?_;refine .p (aT.le (pY FA.out FC.out rfl (.t rfl) rfl) (ag.refl (aK (nN z)))) rfl ?_;refine .n (cE (h:=Gw (a:=tM m t0 a k) (e:=z) hok.1 aQ bu hzm)) rfl fun NI Pv=>?_;refine Z9 ?_;refine Cd (fun c1=>?_) fun c1=>?_
  ·
   have Uz:lI m z:=Ol c1;have hel:NA m t0 z (tM m t0 a k)=tM m t0 a k:=if_pos Uz;rw[hel];refine jz ?_;refine Post.bY rfl rfl ((k,0,5)) (by exact Az.el hz Zk Uz) (fun _ _ _ h=>h) rfl (.cons (.rt rfl) ?_ (.cons (.rt rfl) ?_ .nil))
   · exact ag.int (show Rb m z=5 from if_pos Uz)
   exact ag.refl _
  have Uz:¬lI m z:=Re c1;refine Z7 ?_;refine .round (k+1) ⟨by omega,Zk.next hz Uz⟩ (by omega) (by simp only[Rc hz];try rfl) ?_;exact(.get rfl (ag.int (by(show(k:Int)+1=((k+1:Nat):Int);omega))) ((.keep 14 rfl rfl)))
 have qO:k=m.dw.length:=by omega
 subst qO;refine KR ?_;refine .bP (σ:=Nat) (fun _=>(lX sb X pb m num g (t0:Int) (af (.slice none 0 0))::gy X (tM m t0 a m.dw.length))) (fun k=>[(38,aa .i64 (k:Int))]) (fun k=>k=0) (fun k=>0) 0 rfl rfl ?_ ?_
 · exact(.get rfl (ag.refl _) (.refl _ _))
 rintro k hk;refine Z6 ?_;refine Cd (fun c2=>?_) fun c2=>?_
 · exfalso;rw[cZ] at c2;simp only[List.length_nil] at c2;omega
 refine fW ?_;refine Post.bY rfl rfl ((m.dw.length,m.fV.length,0)) (by exact Az.all Zk (fun j d hj=>by rw[cZ] at hj;simp at hj)) (fun _ _ _ h=>h) rfl (.cons (.rt rfl) ?_ (.cons (.rt rfl) ?_ .nil))
 · exact .z
 exact .z
theorem s8(aj:cC X a)(aQ:u9 m)(bu:gD m)(cZ:m.aB.length≤60000)(jy:ec m)(qH:a.height+(zo m+LP m)≤X.size)(BJ:0≤num)(Kl:num≤1073741824)(UA:m.dU=[])(SC:m.fV=[]):bk Tryz.prog 10 [bH (bp m),ai X.ab 0,ai pb 0,aa .i64 num] (eo X a) (γ:=Nat×Nat×Nat×Int) (fun r=>Az m r.2) (fun r=>lX r.1 X pb m num (a.height:Int) ((a.height+zo m:Nat):Int) (af (.slice none 0 0))::eo X (Mm m a r.2.1)) (fun r=>aS [ai r.1 0,aa .i64 r.2.2.2,aa .i64 0]):=by
 refine In 58 Tryz.func10 fun _ _ _=>?_;have hr1:=aQ.r1;have hr2:=aQ.r2;have hkh:=aj.hi;have hkm:=aj.most
 have hRo:cC X (rq a m):=nS (nS aj (by omega)) (by simp only;omega);have hGo:=Ax (m:=m) (g:=a.height) hRo m.aH.length (by omega);refine fW ?_;refine .p (bS FU.out (.t rfl)) rfl ?_;refine Z2 ?_;refine .g (bB.gF rfl rfl rfl rfl (fun hg=>bS FU.out (.when (.t rfl) hg))) rfl rfl ?_;refine Z4 ?_;refine Cd (fun c0=>?_) fun c0=>?_
 · exact(c0.elim id id).elim
 refine Z3 ?_;refine .n (cE (h:=D5 bu cZ)) rfl fun J1 FW=>?_;refine Z4 ?_;refine Cd (fun c1=>?_) fun c1=>?_
 · exact absurd jy c1
 refine ek ?_;refine CT fun c2=>?_;refine Z9 ?_;refine .p ((az FP.out FZ.out (.cons (.t rfl) (.cons (.t rfl) (.cons (.t rfl) (.cons (.t rfl) .nil)))) rfl).le ((by exact show ag _ (aK [bH (bp m),ai X.ab 0,ai pb 0,aa .i64 num,aa .i64 0,aa .i64 0,af (.slice none 0 0),ak False]) from ag.agg (.cons (.refl _) (.cons (.refl _) (.cons (.refl _) (.cons (.refl _) (.cons (.refl _) (.cons (.refl _) (.cons (.refl _) (.cons lD .nil))))))))))) rfl ?_;refine .n (gX (.t rfl)) rfl fun b38 _=>?_;refine Z7 ?_;refine .n (cE (h:=DP aj aQ qH)) rfl fun J6 Qb=>?_;refine Z9 ?_;refine CT fun c3=>?_;refine Z5 ?_;refine .n (cE (h:=D6 (a:=rq a m) (g:=a.height) hRo aQ (by omega) UA)) rfl fun Ex W0=>?_;refine Z5 ?_;refine .n (cE (h:=D7 (a:=Nz m a.height (rq a m) m.aH.length) (t0:=a.height+zo m) hGo aQ (by omega) SC)) rfl fun KV h48=>?_;refine j4 ?_;refine CT fun c4=>?_;refine fW ?_;refine Post.bY rfl rfl ((b38,KV)) (by exact h48) (aA.cons _ (Js (X:=X) (a:=Mm m a KV.1) (Im aj aQ qH KV.1).2.taken)) rfl (.cons (.rt rfl) ?_ (.cons (.rt rfl) ?_ (.cons (.rt rfl) ?_ .nil)))
 · exact .z
 · exact .z
 exact .z
theorem rU{l:List UInt8}(aj:l.length≤65536):cw Tryz.prog 41 [an 1 aL l] (an 1 aL l):=by
 refine In 19 Tryz.func41 fun _ _ _=>?_;refine EA ?_;refine .iO 1 aL ?_;refine .bP (σ:=Nat×SB) (fun s=>[aI s.2 1 aL (l.take s.1)]) (fun s=>[(3,af (bA s.2 (l.take s.1).length)),(4,aa .i64 (s.1:Int))]) (fun s=>s.1≤l.length) (fun s=>l.length-s.1) (0,none) (by simp) (by simp) ?_ ?_
 · exact(.get rfl (ag.of_eq (by simp[bA])) (.get rfl (ag.refl _) (.refl _ _)))
 rintro s hk;refine Z9 ?_;refine Cd (fun c0=>?_) fun c0=>?_
 ·
  obtain⟨x,hx⟩:=ah (xs:=l) (k:=s.1) (by omega);refine Z8 ?_;refine .p (cI _) rfl ?_;refine Z1 ?_;refine .p (cB aL [_]) rfl ?_;refine .n (bn (i:=0) FU.out FU.out FC.out rfl FZ.out rfl FY.out (.t rfl) (.t rfl) rfl (by first|omega|(simp<;>omega)) (by first|omega|(simp<;>omega))) rfl fun J5 _=>?_;refine Z9 ?_;refine .round (s.1+1,J5) (by omega) (by omega) (by simp only[cu hx];rfl) ?_;exact(.get rfl (ag.of_eq (by simp only[cu hx])) (.get rfl (ag.int (by omega)) (.keep 17 rfl rfl)))
 have hall:l.take s.1=l:=List.take_of_length_le (by omega);rw[hall];refine .gJ (n:=1) (enc:=aL) (i:=0) (t:=3) rfl rfl ?_;refine fW ?_;refine aX ?_;exact .z
theorem GS{x:aq}(aj:x.L.length≤65536):cw Tryz.prog 116 [aK (aE x)] (aK (aE x)):=by
 refine In 16 Tryz.func116 fun _ _ _=>?_;refine Z3 ?_;refine .n (ay FZ.out) rfl fun b2 _=>?_;refine Z3 ?_;refine .bz 12 2 FM.out (by kernel_rfl) (k:= ?_);refine Z8 ?_;refine .p (Af FU.out FC.out rfl FZ.out rfl) ?_;refine Z2 ?_;refine .p (IW FU.out FU.out FC.out rfl FZ.out rfl FY.out (.t rfl) (.t rfl) (by omega)) ?_;refine Z6 ?_;refine Post.aO rfl () trivial (fun _ _ _ _=>trivial) (.ra (i:=0) FA.out FC.out rfl rfl rfl rfl) ?_;exact .z
theorem Bt{l:List aq}(aj:l.length≤65536)(aQ:∀x∈l,x.L.length≤65536):cw Tryz.prog 76 [an 5 aE l] (an 5 aE l):=by
 refine In 20 Tryz.func76 fun _ _ _=>?_;refine EA ?_;refine .iO 5 aE ?_;refine .bP (σ:=Nat×SB) (fun s=>[aI s.2 5 aE (l.take s.1)]) (fun s=>[(3,af (bA s.2 (l.take s.1).length)),(4,aa .i64 (s.1:Int))]) (fun s=>s.1≤l.length) (fun s=>l.length-s.1) (0,none) (by simp) (by simp) ?_ ?_
 · exact(.get rfl (ag.of_eq (by simp[bA])) (.get rfl (ag.refl _) (.refl _ _)))
 rintro s hk;refine Z9 ?_;refine Cd (fun c0=>?_) fun c0=>?_
 ·
  obtain⟨x,hx⟩:=ah (xs:=l) (k:=s.1) (by omega);have hxl:=aQ x (List.mem_of_getElem? hx);refine Z8 ?_;refine .p (cI _) rfl ?_;refine Z1 ?_;refine .p (cA (h:=GS (by first|assumption|omega))) rfl ?_;refine .p (cB aE [_]) rfl ?_;refine .n (bn (i:=0) FU.out FU.out FC.out rfl FZ.out rfl FY.out (.t rfl) (.t rfl) rfl (by first|omega|(simp<;>omega)) (by first|omega|(simp<;>omega))) rfl fun yt _=>?_;refine Z9 ?_;refine .round (s.1+1,yt) (by omega) (by omega) (by simp only[cu hx];rfl) ?_;exact(.get rfl (ag.of_eq (by simp only[cu hx])) (.get rfl (ag.int (by omega)) (.keep 18 rfl rfl)))
 have hall:l.take s.1=l:=List.take_of_length_le (by omega);rw[hall];refine .gJ (n:=5) (enc:=aE) (i:=0) (t:=3) rfl rfl ?_;refine fW ?_;refine aX ?_;exact .z
theorem GU{b:nh}(aj:Ff b):cw Tryz.prog 42 [aK (mg b)] (aK (mg b)):=by
 refine In 10 Tryz.func42 fun _ _ _=>?_;refine Z3 ?_;refine .n (ay FZ.out) rfl fun b2 _=>?_;refine Z3 ?_;refine .bz 5 3 FM.out (by kernel_rfl) (k:= ?_);refine Z2 ?_;refine .p (cA (h:=rU (by have:=aj.locals;omega))) ?_;refine Z3 ?_;refine .p (cA (h:=Bt (by have:=aj.l;omega) (fun x hx=>by have:=aj.all x hx;omega))) rfl ?_;refine Z5 ?_;refine Post.aO rfl () trivial (fun _ _ _ _=>trivial) (.ra (i:=0) FA.out FC.out rfl rfl rfl rfl) ?_;exact .z
theorem xQ{x:aR}(aj:ri x):cw Tryz.prog 11 [aK (bp x)] (bH (bp x)):=by
 refine In 86 Tryz.func11 fun _ _ _=>?_;have EH:=aj.sigs;have Xo:=aj.funcs;refine XF ?_;refine .n (gX (.t rfl)) rfl fun b23 _=>?_;refine dH ?_;refine .iO 2 dQ ?_;refine .bP (σ:=Nat×SB) (fun s=>[aI s.2 2 dQ (x.cY.take s.1),aF b23 (HV x (af (bA s.2 (x.cY.take s.1).length)) (af (.slice none 0 0)))]) (fun s=>[(4,aa .i64 (s.1:Int))]) (fun s=>s.1≤x.cY.length) (fun s=>x.cY.length-s.1) (0,none) (by simp) rfl ?_ ?_
 · exact(.get rfl (ag.refl _) (.refl _ _))
 rintro s hk;refine dH ?_;refine Cd (fun c0=>?_) fun c0=>?_
 ·
  obtain⟨y,hx⟩:=ah (xs:=x.cY) (k:=s.1) (by omega);refine Z4 ?_;refine .bF [(0,0),(1,0),(2,0),(3,0),(4,1),(5,0),(6,0),(7,0),(8,0),(9,0),(10,0),(11,0),(12,0),(13,0),(14,0),(15,0),(16,0),(17,0),(18,0),(19,0),(20,0),(21,2)] 22 3 FM.out (by kernel_rfl) (k:= ?_);refine Z8 ?_;refine .p rfl (fun _=>dL FU.out FC.out rfl (.t rfl) (.t rfl) rfl (by assumption)) ?_;refine Z2 ?_;refine .p rfl (fun _=>bg (rU (by have:=aj.sig y (List.mem_of_getElem? hx);omega)) FB.out (.cons (.t rfl) .nil)) ?_;refine Z3 ?_;refine .p rfl (fun _=>dL FU.out FC.out rfl (.t rfl) (.t rfl) rfl (by assumption)) ?_;refine Z2 ?_;refine .p rfl (fun _=>bg (rU (by have:=aj.sig y (List.mem_of_getElem? hx);omega)) FB.out (.cons (.t rfl) .nil)) ?_;refine Z1 ?_;refine .p rfl (fun _=>bV (enc:=dQ) [y] FU.out FC.out rfl FZ.out rfl (.cons (.t rfl) .nil) rfl rfl rfl rfl rfl) ?_;refine .e rfl (bn (i:=0) FU.out FU.out FC.out rfl FZ.out rfl FY.out (.t rfl) (.t rfl) rfl (by first|omega|(simp<;>omega)) (by first|omega|(simp<;>omega))) fun Zl _=>?_;refine .fin ?_;refine ek ?_;refine .round (s.1+1,Zl) (by omega) (by omega) (by simp only[cu hx];rfl) ?_;exact(.get rfl (ag.int (by omega)) (.keep 33 rfl rfl))
 have hall:x.cY.take s.1=x.cY:=List.take_of_length_le (by omega);rw[hall];refine .nF (n:=2) (enc:=dQ) (i:=0) (j:=0) (f:=0) rfl rfl rfl ?_;refine fW ?_;refine .iO 3 jU ?_;refine .bP (σ:=Nat×SB) (fun s=>[aI s.2 3 jU (x.aB.take s.1),aF b23 (HV x (an 2 dQ x.cY) (af (bA s.2 (x.aB.take s.1).length)))]) (fun s=>[(5,aa .i64 (s.1:Int))]) (fun s=>s.1≤x.aB.length) (fun s=>x.aB.length-s.1) (0,none) (by simp) rfl ?_ ?_
 · exact(.get rfl (ag.refl _) (.refl _ _))
 rintro s hk;refine dH ?_;refine Cd (fun c1=>?_) fun c1=>?_
 ·
  obtain⟨y,hx⟩:=ah (xs:=x.aB) (k:=s.1) (by omega);refine Z4 ?_;refine .bF [(0,0),(1,0),(2,0),(3,0),(4,1),(5,0),(6,0),(7,0),(8,0),(9,0),(10,0),(11,0),(12,0),(13,0),(14,0),(15,0),(16,0),(17,0),(18,0),(19,0),(20,2)] 21 3 FM.out (by kernel_rfl) (k:= ?_);refine Z8 ?_;refine .p rfl (fun _=>dL FU.out FC.out rfl (.t rfl) (.t rfl) rfl (by assumption)) ?_;refine Z5 ?_;refine .p rfl (fun _=>dL FU.out FC.out rfl (.t rfl) (.t rfl) rfl (by assumption)) ?_;refine Z2 ?_;refine .p rfl (fun _=>bg (GU (aj.fn y (List.mem_of_getElem? hx))) FB.out (.cons (.t rfl) .nil)) ?_;refine Z1 ?_;refine .p rfl (fun _=>bV (enc:=jU) [y] FU.out FC.out rfl FZ.out rfl (.cons (.t rfl) .nil) rfl rfl rfl rfl rfl) ?_;refine .e rfl (bn (i:=0) FU.out FU.out FC.out rfl FZ.out rfl FY.out (.t rfl) (.t rfl) rfl (by first|omega|(simp<;>omega)) (by first|omega|(simp<;>omega))) fun g82 _=>?_;refine .fin ?_;refine ek ?_;refine .round (s.1+1,g82) (by omega) (by omega) (by simp only[cu hx];rfl) ?_;exact(.get rfl (ag.int (by omega)) (.keep 32 rfl rfl))
 have hall:x.aB.take s.1=x.aB:=List.take_of_length_le (by omega);rw[hall];refine .nF (n:=3) (enc:=jU) (i:=0) (j:=0) (f:=2) rfl rfl rfl ?_;refine .share (t:=3) (i:=0) rfl rfl ?_;refine fW ?_;refine aX ?_;exact .z
theorem GV:bk Tryz.prog 18 [aK (bp eX),aK [nV 10,nV 2,nV 4],aa .i64 1] [] (γ:=qG×Nat) (fun g=>lZ g.1 K0) (fun g=>[dJ g.1 K0 ⟨g.2,4,none,False⟩ Kk,aM g.1 K0 DN]) (fun g=>aS [ai g.2 0,ai g.1.sb 0,ai g.1.X.ab 0]):=by
 refine In 50 Tryz.func18 fun _ _ _=>?_;refine ek ?_;refine .n (cE (h:=qy (n:=1048576) (by decide))) rfl fun J5 ED=>?_;refine dH ?_;refine .p (cA (h:=xQ RX)) rfl ?_;refine Z2 ?_;refine .n (cE (h:=Bh (fr:=1))) rfl fun NI Pv=>?_;refine .n (cE (h:=s8 (pb:=NI) (X:=J5) (a:=Sk 1048576) (m:=eX) (num:=0) (FK ED (by decide)) uO.md okR (by decide) Nd (by rw[uO.rm.1,uO.rm.2,ED];decide) (by decide) (by decide) rfl rfl)) rfl fun GH Qg=>?_;refine Z9 ?_;obtain⟨b26,r26⟩:=GH;have hr:=uO.seg Qg;simp only at hr;subst hr;refine ek ?_;refine Cd (fun c0=>?_) fun c0=>?_
 · exact(c0.elim (fun h=>h rfl) (fun h=>h rfl)).elim
 refine Z7 ?_;refine .n (cE (h:=zS (a:=BI eX 1048576) (cells:=10) (frames:=2) (fuel:=4) (Bf uO ED (by decide) (by decide)).1 (by decide) (by decide) (by decide) (by decide) (by decide) (Nh ED))) rfl fun WW h41=>?_;refine j4 ?_;refine CT fun c1=>?_;refine jz ?_;refine Post.bY rfl rfl ((RY J5 NI b26 WW.2.1 WW.2.2,WW.1)) (by exact(IL ED).1) (aA.cons _ (aA.trans (Ng (K:=K0) (c:=DN) (r:=[_,_]) (IL ED).2 rfl rfl) (aA.cons _ (aA.nil _)))) rfl (.cons (.rt rfl) ?_ (.cons (.rt rfl) ?_ (.cons (.rt rfl) ?_ .nil)))
 · exact .z
 · exact .z
 exact .z
end Go.Proofs.YtmacjbfbpjgmnaaGreatDoor
end
section
namespace Go.Hl
open Go.RowKit
section
variable {P:Program} {f:FuncId} {ps:List VP} {A:qG} {K:eU} {c:cg} {q':VP} {a a':cS}
theorem jQ{hs rest:cS→List HP}(h:∀a,eZ A K a c→bk P f ps (hs a) (γ:=Unit) (fun _=>True) (fun _=>hs a) (fun _=>q'))(hp:∀a,(ny A K a c).Perm (hs a++rest a)):bk P f ps [aM A K c] (γ:=Unit) (fun _=>True) (fun _=>[aM A K c]) (fun _=>q'):=
 .core fun a hV=> .Is (d:=fun _=>a) (h a hV) (hp a) (fun _ _=>hV) (fun _ _=>aA.perm (hp a).symm) (fun _ _=>ag.refl _)
theorem eZ.Zm(h:eZ A K a c)(hA:lZ A K){i v:Nat}(hi:i<K.m.aH.length)(hv:v<18446744073709551616):eZ A K (a.put (A.g0+8*i) (kO v 8)) {c with gl:=c.gl.set i v}:=by
 have h1:=hA.kf;have h2:=hA.tk;have h3:=hA.gt;have h4:=h.gn;have h5:=h.tn;have h6:=hA.fx;have h7:=h.sl
 have k:w5 A.X a (a.put (A.g0+8*i) (kO v 8)) A.g0 (A.g0+8*K.m.aH.length):= .Rr h.ok (by omega) (by omega) (by omega);refine⟨k.ok,h.same.trans k.same,h.stk.tq k (by omega),h.cN.tq k (by omega),?_,h.tb.tq k (by omega),h.sl,h.fl,by rw[List.length_set];exact h.gn,h.tn⟩;intro j w hw;rcases Am hw with⟨rfl,rfl⟩|⟨e,hw⟩
 · rw[ia h.ok (by omega)];exact Nat.mod_eq_of_lt hv
 · have:=(List.getElem?_eq_some_iff.1 hw).1
   rw[gP h.ok (by omega) (by omega)];exact h.gl j w hw
theorem Nr(l:List Nat):dX K l c={c with stk:=w8 K.cells c.stk l}:=by unfold dX w8;split<;>rfl
theorem Ns(n:Nat):iJ n c=((pH n c.stk).1,{c with stk:=(pH n c.stk).2}):=by unfold iJ pH;split<;>rfl
theorem Py(k h:Int):sV k h c={c with stk:=JW k h c.stk}:=by unfold sV JW;split<;>rfl
theorem R7(p:Int):vz p c={c with cN:=NB p c.cN}:=by unfold vz NB;split<;>rfl
end
end Go.Hl
namespace Go.Proofs.YtmacjbfbpjgmnaaGreatDoor
open Go.Hl Go.RowKit
section
variable {A:qG} {K:eU} {c:cg}
theorem oh:bk Tryz.prog 62 [ai A.kb 0] [aM A K c] (γ:=Unit) (fun _=>True) (fun _=>[aM A K c]) (fun _=>nV c.stk.length):=jQ (fun _ _=>yu) (fun _=>Perm.idx [0,1,2,3,4,5] rfl rfl)
theorem xR(hA:lZ A K){l:List Nat}(hl:∀v∈l,v<18446744073709551616):bk Tryz.prog 25 [ai A.kb 0,an 1 ig l] [aM A K c] (γ:=Unit) (fun _=>True) (fun _=>[aM A K (dX K l c)]) (fun _=>aa .i64 (if l.length≤K.cells-c.stk.length then 0 else 11)):=nA hA _ (fun a h=>uJ h hl) (Nr l)
theorem rV(hA:lZ A K){k:Nat}:bk Tryz.prog 61 [ai A.kb 0,nV k] [aM A K c] (γ:=Unit) (fun _=>True) (fun _=>[aM A K (iJ k c).2]) (fun _=>aS [an 1 ig (iJ k c).1,aa .i64 (if k≤c.stk.length then 0 else 2)]):=by rw[Ns];exact nA hA _ (fun a h=>pN h)
theorem Kz(hA:lZ A K):bk Tryz.prog 194 [ai A.kb 0] [aM A K c] (γ:=Unit) (fun _=>True) (fun _=>[aM A K (aC c).2]) (fun _=>aS [wV (aC c).1,aa .i64 (if 1≤c.stk.length then 0 else 2)]):=nA hA _ (fun a h=>Gc h)
theorem zY(hA:lZ A K){i:Int}:bk Tryz.prog 142 [ai A.kb 0,aa .i64 i] [aM A K c] (γ:=Unit) (fun _=>True) (fun _=>[aM A K c]) (fun _=>aS [wV (if 0≤i then(c.stk[i.toNat]?).getD 0 else 0),dg]):=nA hA c.stk (fun a h=>Gd h)
theorem zZ(hA:lZ A K){i v:Nat}(hv:v<18446744073709551616):bk Tryz.prog 144 [ai A.kb 0,nV i,wV v] [aM A K c] (γ:=Unit) (fun _=>True) (fun _=>[aM A K (Mw i v c)]) (fun _=>dg):=nA hA _ (fun a h=>Ge h hv)
theorem z7(hA:lZ A K){k h:Int}:bk Tryz.prog 134 [ai A.kb 0,aa .i64 k,aa .i64 h] [aM A K c] (γ:=Unit) (fun _=>True) (fun _=>[aM A K (sV k h c)]) (fun _=>dg):=nA hA _ (fun a h=>Gf h) (Py k h)
theorem uS:bk Tryz.prog 30 [ai A.fb 0] [aM A K c] (γ:=Unit) (fun _=>True) (fun _=>[aM A K c]) (fun _=>nV c.cN.length):=jQ (fun _ _=>sY) (fun _=>Perm.idx [1,0,2,3,4,5] rfl rfl)
theorem KA(hA:lZ A K):bk Tryz.prog 132 [ai A.fb 0] [aM A K c] (γ:=Unit) (fun _=>True) (fun _=>[aM A K c]) (fun _=>aS [aK (ki (bt c)),aa .i64 (if 1≤c.cN.length then 0 else 2)]):=pI hA c.cN (fun a h=>rN h)
theorem KB(hA:lZ A K):bk Tryz.prog 133 [ai A.fb 0] [aM A K c] (γ:=Unit) (fun _=>True) (fun _=>[aM A K {c with cN:=c.cN.dropLast}]) (fun _=>aS [aK (ki (bt c)),dg]):=pI hA _ (fun a h=>Gh h)
theorem xS(hA:lZ A K){p:Int}:bk Tryz.prog 99 [ai A.fb 0,aa .i64 p] [aM A K c] (γ:=Unit) (fun _=>True) (fun _=>[aM A K (vz p c)]) (fun _=>dg):=pI hA _ (fun a h=>J8 h) (R7 p)
theorem D8(hA:lZ A K):bk Tryz.prog 66 [ai A.fb 0] [aM A K c] (γ:=Unit) (fun _=>True) (fun _=>[aM A K {c with cN:=[]}]) (fun _=>aS []):=pI hA _ (fun a h=>A1 h)
theorem xT(hA:lZ A K){f:jx}(hf:lN f):bk Tryz.prog 63 [ai A.fb 0,aK (ki f)] [aM A K c] (γ:=Unit) (fun _=>True) (fun _=>[aM A K {c with cN:=rJ K.frames c.cN f}]) (fun _=>aa .i64 (if c.cN.length=K.frames then 11 else 0)):=pI hA _ (fun a h=>Dv h hf)
theorem D9{x y z:Int}(hz:z<0):bk Tryz.prog 63 [ai A.fb 0,aK [aa .i64 x,aa .i64 y,aa .i64 z]] [aM A K c] (γ:=Unit) (fun _=>True) (fun _=>[aM A K c]) (fun _=>aa .i64 1):=jQ (fun _ _=>A2 hz) (fun _=>Perm.idx [1,0,2,3,4,5] rfl rfl)
theorem nD:bk Tryz.prog 20 [ai A.sb 0] [aM A K c] (γ:=Unit) (fun _=>True) (fun _=>[aM A K c]) (fun _=>bH (bp K.m)):=jQ (fun _ _=>nC) (fun _=>Perm.idx [2,0,1,3,4,5] rfl rfl)
theorem Bu(hA:lZ A K){i:Nat}(hi:i<K.m.aH.length):bk Tryz.prog 145 [ai A.sb 0,nV i] [aM A K c] (γ:=Unit) (fun _=>True) (fun _=>[aM A K c]) (fun _=>aS [wV ((c.gl[i]?).getD 0),aa .i64 0]):=
 jQ (hs:=fun a=>lX A.sb A.X A.pb K.m A.num (A.g0:Int) (A.t0:Int) (an 1 sD A.bs)::gy A.X a) (fun a hV=>by
  have h1:=hA.gt;have h2:=hA.tk;have h3:=hA.kf;have h4:=hA.fx
  have h:=A4 (sb:=A.sb) (pb:=A.pb) (X:=A.X) (a:=a) (m:=K.m) (num:=A.num) (t:=(A.t0:Int)) (g:=A.g0) (mv:=an 1 sD A.bs) hi hV.ok (by omega) hA.gl;obtain⟨v,hv⟩:=ah (xs:=c.gl) (k:=i) (by rw[hV.gn];exact hi);have e:oI ((a.bytes.drop (A.g0+8*i)).take 8)=(c.gl[i]?).getD 0:=by rw[hv];exact hV.gl i v hv
  rw[e] at h;exact h) (fun _=>Perm.idx [2,3,4,0,1,5] rfl rfl)
theorem Ea(hA:lZ A K){i:Nat}(hi:i<fB K.m):bk Tryz.prog 197 [ai A.sb 0,nV i] [aM A K c] (γ:=Unit) (fun _=>True) (fun _=>[aM A K c]) (fun _=>aS [aa .i64 (if (c.tb[i]?).getD 0=0 then 0 else(((c.tb[i]?).getD 0:Nat):Int)-1),ak ((c.tb[i]?).getD 0≠0),aa .i64 0]):=
 jQ (hs:=fun a=>lX A.sb A.X A.pb K.m A.num (A.g0:Int) (A.t0:Int) (an 1 sD A.bs)::gy A.X a) (fun a hV=>by
  have h1:=hA.gt;have h2:=hA.tk;have h3:=hA.kf;have h4:=hA.fx
  have h:=Dy (sb:=A.sb) (pb:=A.pb) (X:=A.X) (a:=a) (m:=K.m) (num:=A.num) (g:=(A.g0:Int)) (t0:=A.t0) (mv:=an 1 sD A.bs) hi hV.ok (by omega);obtain⟨v,hv⟩:=ah (xs:=c.tb) (k:=i) (by rw[hV.tn];exact hi);have e:oI ((a.bytes.drop (A.t0+4*i)).take 4)=(c.tb[i]?).getD 0:=by rw[hv];exact hV.tb i v hv
  rw[e] at h;exact h) (fun _=>Perm.idx [2,3,4,0,1,5] rfl rfl)
theorem ta{i:Int}(hi:i<0∨K.m.Table≤i):bk Tryz.prog 197 [ai A.sb 0,aa .i64 i] [aM A K c] (γ:=Unit) (fun _=>True) (fun _=>[aM A K c]) (fun _=>aS [aa .i64 0,ak False,aa .i64 2]):=jQ (fun _ _=>A3 hi) (fun _=>Perm.idx [2,0,1,3,4,5] rfl rfl)
theorem GW(hA:lZ A K){i v:Nat}{z:kQ}(hz:K.m.aH[i]?=some z)(hv:v<18446744073709551616):bk Tryz.prog 70 [ai A.sb 0,nV i,wV v] [aM A K c] (γ:=Unit) (fun _=>True) (fun _=>[aM A K {c with gl:=c.gl.set i (o7 z.Ty v)}]) (fun _=>aa .i64 0):=
 .core fun a hV=>by
  have h1:=hA.gt;have h2:=hA.tk;have h3:=hA.kf;have h4:=hA.fx
  have hi:=(List.getElem?_eq_some_iff.1 hz).1;exact .Is (d:=fun _=>a.put (A.g0+8*i) (kO (o7 z.Ty v) 8)) (zP (sb:=A.sb) (pb:=A.pb) (X:=A.X) (a:=a) (m:=K.m) (num:=A.num) (t:=(A.t0:Int)) (g:=A.g0) (mv:=an 1 sD A.bs) hz hV.ok (by omega) hv (hA.bits z (List.mem_of_getElem? hz)) hA.gl) (Perm.idx [2,3,4,0,1,5] rfl rfl) (fun _ _=>hV.Zm hA hi (Aw hv)) (fun _ _=>aA.perm (Perm.idx [3,4,0,1,2,5] rfl rfl)) (fun _ _=>ag.refl _)
end
end Go.Proofs.YtmacjbfbpjgmnaaGreatDoor
end
section
namespace Go.Proofs.YtmacjbfbpjgmnaaGreatDoor
open Go.Hl Go.RowKit
variable {A:qG} {K:eU} {m:mV} {c:cg} {E:O4}
theorem de(aj:lZ A K):bk Tryz.prog 138 [ai E.b 0] [dJ A K E m,aM A K c] (γ:=Unit) (fun _=>True) (fun _=>[dJ A K E m,aM A K (aC c).2]) (fun _=>wV (aC c).1):=by
 refine In 14 Tryz.func138 fun _ _ _=>?_;refine ek ?_;refine .n (fU [_] [1,0] (h:=Kz aj)) rfl fun Ix h10=>?_;refine j4 ?_;refine Post.aO rfl (()) (by trivial) (aA.fI [1,0] [] rfl rfl) (.rt rfl) ?_;exact .z
theorem ee{l:List Nat}(aj:lZ A K)(aQ:∀v∈l,v<18446744073709551616):bk Tryz.prog 32 [ai E.b 0,an 1 ig l] [dJ A K E m,aM A K c] (γ:=Unit) (fun _=>True) (fun _=>[dJ A K E m,aM A K (dX K l c)]) (fun _=>aS []):=by
 refine In 10 Tryz.func32 fun _ _ _=>?_;refine Z6 ?_;refine .n (fU [_] [1,0] (h:=xR aj aQ)) rfl fun g9 h9=>?_;refine Z1 ?_;refine Post.bT rfl (()) (by trivial) (aA.fI [1,0] [] rfl rfl) rfl
theorem qB(aj:lZ A K):bk Tryz.prog 96 [ai E.b 0] [dJ A K E m,aM A K c] (γ:=Unit) (fun _=>True) (fun _=>[dJ A K E m,aM A K c]) (fun _=>aK (ki (bt c))):=by
 refine In 14 Tryz.func96 fun _ _ _=>?_;refine Z2 ?_;refine .n (ay FZ.out) rfl fun b2 _=>?_;refine Z8 ?_;refine .n ((fU [_,_] [2,0,1] (h:=KA aj)).same (fun _ _=>aA.perm (Perm.idx [1,2,0] rfl rfl)) (fun _ _=>ag.refl _)) rfl fun _ _=>?_;refine Z3 ?_;refine .n (ay FZ.out) rfl fun b3 _=>?_;refine ek ?_;refine Post.aO rfl (()) (by trivial) (aA.fI [2,3] [0,1] rfl rfl) (.ra (i:=1) FA.out FC.out rfl rfl rfl rfl) ?_;exact ag.refl _
theorem qC{o:C3}(aj:lZ A K):bk Tryz.prog 31 [ai E.b 0,aK (iU o)] [dJ A K E m,aM A K c] (γ:=Unit) (fun _=>True) (fun _=>[dJ A K E (qF o (m,c)).1,aM A K (qF o (m,c)).2]) (fun _=>aS []):=by
 refine In 42 Tryz.func31 fun _ _ _=>?_;have hT:(iJ c.stk.length c).2={c with stk:=[]}:=by simp[iJ]
 refine Z31 ?_;refine Cd (fun c0=>?_) fun c0=>?_
 ·
  have hE:qF o (m,c)=({m with out:=o,over:=true},{c with stk:=[],cN:=[]}):=by(unfold qF;rw[if_neg (by omega),if_pos (by omega)])
  refine Z1 ?_;refine .bF [(0,0),(1,0),(2,0),(3,1),(4,0),(5,0),(6,0),(7,1),(8,4)] 9 1 FM.out (by kernel_rfl) (k:= ?_);refine Z8 ?_;refine .a rfl ((fU [_] [1,0] (h:=oh)).same (fun _ _=>aA.perm (Perm.idx [1,0] rfl rfl)) (fun _ _=>ag.refl _)) (fun _ _=>aA.refl _) fun _ _=>?_;refine .fin ?_;refine .n (fU [_] [1,0] (h:=rV aj (k:=c.stk.length))) rfl fun Qa Pb=>?_;refine Z2 ?_;rw[hT];refine Z5 ?_;refine .n (cE (h:=D8 aj)) rfl fun RZ Uo=>?_;refine Z9 ?_;refine CT fun c1=>?_;refine Z1 ?_;refine Post.bT rfl (()) (by trivial) (aA.trans (aA.perm (Perm.idx [1,0] rfl rfl)) (aA.of_eq (by rw[hE];rfl))) rfl
 refine Z9 ?_;refine Cd (fun c2=>?_) fun c2=>?_
 ·
  have hE:qF o (m,c)=({m with out:=o,over:=true,fault:=o.err},c):=by(unfold qF;rw[if_pos (by omega),if_neg (by omega)])
  refine Z8 ?_;refine Post.bT rfl (()) (by trivial) (aA.of_eq (by rw[hE];rfl)) rfl
 have hE:qF o (m,c)=({m with out:=o,over:=true},c):=by(unfold qF;rw[if_neg (by omega),if_neg (by omega)])
 refine Z1 ?_;refine Post.bT rfl (()) (by trivial) (aA.of_eq (by rw[hE];rfl)) rfl
theorem jR{e:Nat}(aj:lZ A K):bk Tryz.prog 27 [ai E.b 0,nV e] [dJ A K E m,aM A K c] (γ:=Unit) (fun _=>True) (fun _=>[dJ A K E (mD e (m,c)).1,aM A K (mD e (m,c)).2]) (fun _=>aS []):=by
 refine In 8 Tryz.func27 fun _ _ _=>?_;refine Z3 ?_;refine .p ((az FP.out FZ.out (.cons (.c _) (.cons (.t rfl) .nil)) rfl).le ((by exact show ag _ (aK (iU ⟨3,[],0,0,e⟩)) from ag.agg (.cons (.refl _) (.cons (aN _ _) (.cons (.refl _) (.cons (.refl _) (.cons (.refl _) .nil)))))))) rfl ?_;refine .n (cE (h:=qC (o:=⟨3,[],0,0,e⟩) aj)) rfl fun g7 h7=>?_;refine Z1 ?_;refine Post.bT rfl (()) (by trivial) (fun _ _ _ h=>h) rfl
theorem jS{t:Nat}(aj:lZ A K):bk Tryz.prog 137 [ai E.b 0,nV t] [dJ A K E m,aM A K c] (γ:=Unit) (fun _=>True) (fun _=>[dJ A K E (mF t (m,c)).1,aM A K (mF t (m,c)).2]) (fun _=>aS []):=by
 refine In 8 Tryz.func137 fun _ _ _=>?_;refine Z3 ?_;refine .p ((az FP.out FZ.out (.cons (.c _) (.cons (.t rfl) .nil)) rfl).le ((by exact show ag _ (aK (iU ⟨1,[],t,0,0⟩)) from ag.agg (.cons (.refl _) (.cons (aN _ _) (.cons (.refl _) (.cons (.refl _) (.cons (.refl _) .nil)))))))) rfl ?_;refine .n (cE (h:=qC (o:=⟨1,[],t,0,0⟩) aj)) rfl fun g7 h7=>?_;refine Z1 ?_;refine Post.bT rfl (()) (by trivial) (fun _ _ _ h=>h) rfl
theorem xU{t e:Nat}(aj:lZ A K):bk Tryz.prog 155 [ai E.b 0,nV t,nV e] [dJ A K E m,aM A K c] (γ:=Unit) (fun _=>True) (fun _=>[dJ A K E (yh t e (m,c)).1,aM A K (yh t e (m,c)).2]) (fun _=>ak (tP (yh t e (m,c)).1.over)):=by
 refine In 23 Tryz.func155 fun _ _ _=>?_;refine j4 ?_;refine Cd (fun c0=>?_) fun c0=>?_
 ·
  have hI:yh t e (m,c)=mD e (m,c):=if_pos (by omega);rw[hI];refine Z3 ?_;refine .n (cE (h:=jR aj)) rfl fun oH h12=>?_;refine jz ?_;refine aX ?_;exact .z
 refine Z7 ?_;refine Cd (fun c1=>?_) fun c1=>?_
 ·
  have hI:yh t e (m,c)=mF t (m,c):=(if_neg (by omega)).trans (if_pos (by omega));rw[hI];refine Z3 ?_;refine .n (cE (h:=jS aj)) rfl fun yt RJ=>?_;refine jz ?_;refine aX ?_;exact .z
 have hI:yh t e (m,c)=(m,c):=(if_neg (by omega)).trans (if_neg (by omega));rw[hI];refine jz ?_;refine aX ?_;exact .z
theorem KC{L:List UInt8}{l:List Nat}(aj:l.length≤L.length)(aQ:L.length≤1000)(bu:∀t∈L,eC t=32∨eC t=64)(cZ:∀v∈l,v<18446744073709551616):bk Tryz.prog 26 [an 1 aL L,an 1 ig l] [] (γ:=Unit) (fun _=>True) (fun _=>[]) (fun _=>an 1 ig (eG L l)):=by
 refine In 27 Tryz.func26 fun _ _ _=>?_;refine Jd ?_;refine .own (uw (n:=1) (enc:=ig)) ?_;refine .bP (σ:=SB×Nat) (fun q=>[aI q.1 1 ig (eG L (l.take q.2))]) (fun q=>[(5,af (bA q.1 (eG L (l.take q.2)).length)),(10,aa .i64 (q.2:Int))]) (fun q=>q.2≤l.length) (fun q=>l.length-q.2) (none,0) (Nat.zero_le _) (by cases L<;>rfl) ?_ ?_
 · exact(.get rfl (ag.of_eq (by cases L<;>rfl)) (.get rfl (ag.refl _) (.refl _ _)))
 rintro⟨s1,q⟩ hq;simp only at hq ⊢;refine Z6 ?_;refine Cd (fun c0=>?_) fun c0=>?_
 ·
  obtain⟨v,hv⟩:=ah (xs:=l) (k:=q) (by omega);obtain⟨t,ht⟩:=ah (xs:=L) (k:=q) (by omega);refine Z7 ?_;refine .p (cI q (h:=hv)) rfl ?_;refine Z9 ?_;refine .p (cI q (h:=ht)) rfl ?_;refine Z1 ?_;refine .p (cA (h:=nB)) rfl ?_;refine Z1 ?_;refine .p (cA (h:=xp (bu t (List.mem_of_getElem? ht)) (cZ v (List.mem_of_getElem? hv)))) rfl ?_;refine .p (cB ig [o7 t v]) rfl ?_;refine .n (bn (i:=0) (xs:=eG L (l.take q)) (ys:=[o7 t v]) FU.out FU.out FC.out rfl FZ.out rfl FY.out (.t rfl) (.t rfl) rfl (by rw[Db (by rw[List.length_take];omega),List.length_take];simp only[List.length_cons,List.length_nil];omega) (by rw[Db (by rw[List.length_take];omega),List.length_take];simp only[List.length_cons,List.length_nil];omega)) rfl fun J1 _=>?_;refine Z8 ?_;refine .round (J1,q+1) (by show q+1≤_;omega) (by show l.length-(q+1)<l.length-q;omega) (by simp only[zL ht hv];try rfl) ?_;exact(.get rfl (ag.of_eq (by simp only[zL ht hv])) (.get rfl (ag.int (by(show(q:Int)+1=((q+1:Nat):Int);omega))) ((.keep 21 rfl rfl))))
 have YV:q=l.length:=by omega
 subst YV;rw[List.take_length];refine Z6 ?_;refine .gJ (t:=5) (i:=0) rfl rfl ?_;refine Z6 ?_;refine aX ?_;exact .z
theorem Eb(aj:¬E.cl):bk Tryz.prog 19 [ai E.b 0] [dJ A K E m,aM A K c] (γ:=Unit) (fun _=>True) (fun _=>[dJ A K E m,aM A K c]) (fun _=>ak (m.fault≠0)):=by
 refine In 26 Tryz.func19 fun _ _ _=>?_;refine Z8 ?_;refine .p (bS FU.out (.t rfl)) rfl ?_;refine E7 ?_;refine .UM rfl rfl rfl rfl (fun hg=>((fU [_] [1,0] (h:=nD)).same (fun _ _=>aA.perm (Perm.idx [1,0] rfl rfl)) (fun _ _=>ag.refl _)).same (fun _ _=>aA.refl _) (fun _ _=>ag.refl _)) rfl rfl ?_;refine Z6 ?_;refine aX ?_;exact ag.prop (by simp[aj])
theorem GX:bk Tryz.prog 13 [ai E.b 0] [dJ A K E m] (γ:=Unit) (fun _=>True) (fun _=>[dJ A K E m]) (fun _=>nV m.fuel):=by
 refine In 9 Tryz.func13 fun _ _ _=>?_;refine Z9 ?_;refine .p (bS FU.out (.t rfl)) rfl ?_;refine Z2 ?_;refine CT fun c0=>?_;refine fW ?_;refine aX ?_;exact .z
variable {b:Nat}
theorem KD{off:Nat}{cs:List VP}{n m:Int}(aj:cs[off]?=some (dP n)):bk Tryz.prog 136 [ai b off,dP m] [aF b cs] (γ:=Unit) (fun _=>True) (fun _=>[aF b (cs.set off (dP (IntKind.i64.wrap (n+m))))]) (fun _=>dP (IntKind.i64.wrap (n+m))):=by
 refine In 10 Tryz.func136 fun _ _ _=>?_;refine ek ?_;refine .n (I3 (i:=0) Tryz.func193 (by kernel_rfl) (by kernel_rfl) (by kernel_rfl) (by kernel_rfl) (.t rfl) (.t rfl) rfl aj) rfl fun _ _=>?_;refine Z4 ?_;refine aX ?_;exact .z
variable {F:Nat} {bs:List Nat}
theorem uT(aj:lZ A K)(aQ:O5 K)(bu:bs.length=K.own.length)(cZ:(bt c).fn<K.own.length):bk Tryz.prog 97 [ai b 0] [dJ A K (mE b F bs) m,aM A K c] (γ:=Unit) (fun _=>True) (fun _=>[dJ A K (mE b F bs) (js K (m,c)).1,aM A K (js K (m,c)).2]) (fun _=>aS []):=by
 refine In 53 Tryz.func97 fun _ _ _=>?_;obtain⟨EF,hz⟩:=xb bu cZ;obtain⟨NM,hml⟩:=aQ.ow _ cZ;have hres:=NM.res;have hL:js K (m,c)=(if (sV ((K.made (bt c).fn).sig.R.length:Int) ((bt c).bs:Int) {c with cN:=c.cN.dropLast}).cN=[] then qF ⟨0,(iJ (K.made (bt c).fn).sig.R.length (sV ((K.made (bt c).fn).sig.R.length:Int) ((bt c).bs:Int) {c with cN:=c.cN.dropLast})).1,0,0,0⟩ (m,(iJ (K.made (bt c).fn).sig.R.length (sV ((K.made (bt c).fn).sig.R.length:Int) ((bt c).bs:Int) {c with cN:=c.cN.dropLast})).2) else(m,sV ((K.made (bt c).fn).sig.R.length:Int) ((bt c).bs:Int) {c with cN:=c.cN.dropLast})):=rfl;generalize hu:sV ((K.made (bt c).fn).sig.R.length:Int) ((bt c).bs:Int) {c with cN:=c.cN.dropLast}=u at hL;refine Z6 ?_;refine .n (fU [_] [1,0] (h:=KB aj)) rfl fun oH h12=>?_;refine Z3 ?_;refine .n (ay FZ.out) rfl fun b2 _=>?_;refine Z5 ?_;refine .bz 6 6 FM.out (by kernel_rfl) (k:= ?_);refine Z7 ?_;refine .p (cI ((bt c).fn) (h:=hz)) rfl ?_;refine Z8 ?_;refine .bz 7 1 FM.out (by kernel_rfl) (k:= ?_);refine Z8 ?_;refine .n (fU [_,_] [1,0,2] (h:=z7 aj)) rfl fun RZ Uo=>?_;refine Z2 ?_;rw[hu];refine Z6 ?_;refine .n ((cE (h:=uS)).same (fun _ _=>aA.refl _) (fun _ _=>ag.refl _)) rfl fun _ _=>?_;refine Z3 ?_;refine Cd (fun c0=>?_) fun c0=>?_
 ·
  have Zn:u.cN=[]:=List.eq_nil_of_length_eq_zero (by omega);rw[hL,if_pos Zn];refine Z7 ?_;refine .n (cE (h:=rV aj (k:=(K.made (bt c).fn).sig.R.length))) rfl fun KY h46=>?_;refine dH ?_;refine .p ((az FP.out FZ.out (.cons (.c _) (.cons (.t rfl) .nil)) rfl).le ((by exact show ag _ (aK (iU ⟨0,(iJ (K.made (bt c).fn).sig.R.length u).1,0,0,0⟩)) from ag.refl _))) rfl ?_;refine .n (fU [_] [2,0,1] (h:=qC (E:=mE b F bs) (o:=⟨0,(iJ (K.made (bt c).fn).sig.R.length u).1,0,0,0⟩) aj)) rfl fun Zl h52=>?_;refine Z1 ?_;refine Post.bT rfl (()) (by trivial) (aA.fI [0,1] [2] rfl rfl) rfl
 have Zn:¬u.cN=[]:=fun e=>c0 (by rw[e];rfl);rw[hL,if_neg Zn];refine Z1 ?_;refine Post.bT rfl (()) (by trivial) (aA.fI [2,0] [1] rfl rfl) rfl
variable {i:Int} {k:Int}
theorem yG{I:pK}{J:List (cP×mU)}{C0 S0:List (Int×Int)}{ov:VP}:bk Tryz.prog 196 [ai I.b 0,aa .i64 i,aa .i64 k] (pL I J C0 S0 ov) (γ:=Unit) (fun _=>True) (fun _=>pL I J C0 S0 ov) (fun _=>aS [aK (ju ((br J (i,k)).getD ⟨0,0,0⟩)),dg]):=by
 refine In 26 Tryz.func196 fun _ _ _=>?_;refine Z2 ?_;refine .n (ay FZ.out) rfl fun b6 _=>?_;refine Z7 ?_;refine .p (bS FU.out (.t rfl)) rfl ?_;refine Z2 ?_;refine CT fun c0=>?_;refine ek ?_;refine .p (vS (i:=2) (a:=(i,k)) Tryz.Lx Tryz.underlying214 (fun w=>vV (T:=264) (v:= .agg #[.int .i64 0, .int .i64 0, .int .i64 0]) (by kernel_rfl) w) (.t rfl) (.le (.t rfl) (show ag (aK [aa .i64 i,aa .i64 k]) _ from vW (a:=(i,k)))) rfl) rfl ?_;refine Z1 ?_;refine .p ((dA (.t rfl) rfl).le (O7)) rfl ?_;refine Z1 ?_;refine .n (ay FZ.out) rfl fun b8 _=>?_;refine jz ?_;refine Post.bY rfl rfl (()) (by trivial) (aA.fI [2,3,4,5] [0,1] rfl rfl) rfl (.cons (.ra (i:=1) FA.out FC.out rfl rfl rfl rfl) ?_ (.cons (.rt rfl) ?_ .nil))
 · exact ag.refl _
 exact ag.any
theorem Bv{I:pK}{J:List (cP×mU)}{C0 S0:List (Int×Int)}{ov:VP}:bk Tryz.prog 195 [ai I.b 0,aa .i64 i] (pL I J C0 S0 ov) (γ:=Unit) (fun _=>True) (fun _=>pL I J C0 S0 ov) (fun _=>aS [aa .i64 ((br S0 i).getD 0),dg]):=by
 refine In 21 Tryz.func195 fun _ _ _=>?_;refine dH ?_;refine .p (bS FU.out (.t rfl)) rfl ?_;refine Z2 ?_;refine CT fun c0=>?_;refine Z9 ?_;refine .p (vS (i:=3) Tryz.ur Tryz.underlying114 (fun w=>vV Tryz.zv3 w) (.t rfl) (.t rfl) rfl) rfl ?_;refine Z1 ?_;refine .p ((dA (.t rfl) rfl).le (MH)) rfl ?_;refine j4 ?_;refine fj ?_ ?_
 · exact ag.refl _
 exact ag.any
theorem Bw{d:gE}:bk Tryz.prog 196 [ai b 0,aa .i64 i,aa .i64 k] [kj b d] (γ:=Unit) (fun _=>True) (fun _=>[kj b d]) (fun _=>aS [aK (ju (d.jump i k)),dg]):= .side fun I C ov h=>by subst h;exact yG
theorem Ec{d:gE}:bk Tryz.prog 195 [ai b 0,aa .i64 i] [kj b d] (γ:=Unit) (fun _=>True) (fun _=>[kj b d]) (fun _=>aS [aa .i64 (d.skip i),dg]):= .side fun I C ov h=>by subst h;exact Bv
theorem rW{at_:Nat}(aj:lZ A K)(aQ:O5 K)(bu:bs.length=K.own.length)(cZ:(bt c).fn<K.own.length):bk Tryz.prog 140 [ai b 0,nV at_,aa .i64 k] [dJ A K (mE b F bs) m,aM A K c,dS (K.own.zip bs)] (γ:=Unit) (fun _=>True) (fun _=>[dJ A K (mE b F bs) m,aM A K (uH K at_ k c),dS (K.own.zip bs)]) (fun _=>aS []):=by
 refine In 50 Tryz.func140 fun _ _ _=>?_;obtain⟨EF,hz⟩:=xb bu cZ;obtain⟨NM,hml⟩:=aQ.ow _ cZ;refine .oy fun qQ=>?_;have hft:=qQ.top;have Xw:=hft.bs;have hjh:=NM.jh (at_:Int) k;have hlo:((K.made (bt c).fn),EF).1.locals≤2000:=NM.loc;refine Z3 ?_;refine .n ((cE (h:=qB (E:=mE b F bs) aj)).same (fun _ _=>aA.refl _) (fun _ _=>ag.refl _)) rfl fun _ _=>?_;refine .n (ay FZ.out) rfl fun b6 _=>?_;refine Z4 ?_;refine .bF [(0,0),(1,0),(2,0),(3,1),(4,0),(5,1),(6,0),(7,0),(8,4)] 9 1 FM.out (by kernel_rfl) (k:= ?_);refine Z6 ?_;refine .p rfl (fun _=>dL (j:=(bt c).fn) FU.out FC.out rfl (.t rfl) (.t rfl) rfl hz) ?_;refine Z1 ?_;refine .a rfl (ay FZ.out) (fun _ _=>aA.drop (aA.refl _)) fun b7 _=>?_;refine .fin ?_;refine Z4 ?_;refine .own (aA.perm (Perm.idx [4,0,1,2,3] rfl rfl)) ?_;refine .own (zK hz) ?_;refine Z5 ?_;refine .n ((cE (h:=Bw (d:=(K.made (bt c).fn)) (i:=(at_:Int)) (k:=k))).same (fun _ _=>aA.refl _) (fun _ _=>ag.refl _)) rfl fun _ _=>?_;refine Z3 ?_;refine .n (ay FZ.out) rfl fun b8 _=>?_;refine Z4 ?_;refine .own (aA.perm (Perm.idx [1,2,0,3,4,5,6] rfl rfl)) ?_;refine .own (Da hz) ?_;refine Z1 ?_;refine .bz 14 1 FM.out (by kernel_rfl) (k:= ?_);refine Z3 ?_;refine .p (ff (i:=4) FA.out (.t rfl) rfl rfl) ?_;refine ek ?_;refine .n (fU [_,_,_,_,_] [5,0,1,2,3,4] (h:=z7 aj)) rfl fun Nj Nk=>?_;refine Z2 ?_;refine .bz 6 1 FM.out (by kernel_rfl) (k:= ?_);refine Z3 ?_;refine .p (ff (i:=5) FA.out (.t rfl) rfl rfl) ?_;refine Z3 ?_;refine .n (cE (h:=xS aj)) rfl fun Sm WX=>?_;refine Z1 ?_;refine Post.bT rfl (()) (by trivial) (aA.fI [5,0,1] [2,3,4] rfl rfl) rfl
theorem xV{at_:Nat}(aj:lZ A K)(aQ:O5 K)(bu:bs.length=K.own.length)(cZ:(bt c).fn<K.own.length):bk Tryz.prog 139 [ai b 0,nV at_] [dJ A K (mE b F bs) m,aM A K c,dS (K.own.zip bs)] (γ:=Unit) (fun _=>True) (fun _=>[dJ A K (mE b F bs) m,aM A K (zI K at_ c),dS (K.own.zip bs)]) (fun _=>aS []):=by
 refine In 27 Tryz.func139 fun _ _ _=>?_;obtain⟨EF,hz⟩:=xb bu cZ;obtain⟨NM,hml⟩:=aQ.ow _ cZ;refine Z1 ?_;refine .own (aA.perm (Perm.idx [2,0,1] rfl rfl)) ?_;refine .own (zK hz) ?_;refine .bF [(0,0),(1,0),(2,0),(3,1),(4,0),(10,0),(5,4),(6,0),(7,0),(8,0),(9,0),(11,4),(12,0),(13,0),(14,0),(15,0)] 16 1 FM.out (by kernel_rfl) (k:= ?_);refine Z6 ?_;refine .a rfl ((fU [_,_] [2,3,0,1] (h:=qB (E:=mE b F bs) aj)).same (fun _ _=>aA.perm (Perm.idx [2,3,0,1] rfl rfl)) (fun _ _=>ag.refl _)) (fun _ _=>aA.refl _) fun _ _=>?_;refine .p rfl (fun _=>v7 (T:=161) (i:=0) (off:=0) (by kernel_rfl) Tryz.XI.out (.t rfl) rfl) ?_;refine .p rfl (fun _=>dL (j:=(bt c).fn) FU.out FC.out rfl (.t rfl) (.t rfl) rfl hz) ?_;refine Z2 ?_;refine .a rfl ((cE (h:=Ec (d:=(K.made (bt c).fn)) (i:=(at_:Int)))).same (fun _ _=>aA.refl _) (fun _ _=>ag.refl _)) (fun _ _=>aA.refl _) fun _ _=>?_;refine Z4 ?_;refine .fin ?_;refine Z3 ?_;refine .own (Da hz) ?_;refine Z6 ?_;refine .n (fU [_,_] [2,0,1] (h:=xS aj)) rfl fun GH Qg=>?_;refine Z1 ?_;refine Post.bT rfl (()) (by trivial) (aA.fI [2,0,1] [] rfl rfl) rfl
theorem pV{n:Nat}(aj:lZ A K)(aQ:n≤4294967295):bk Tryz.prog 143 [ai b 0,wV n] [dJ A K (mE b F bs) m,aM A K c] (γ:=Unit) (fun _=>True) (fun _=>[dJ A K (mE b F bs) m,aM A K c]) (fun _=>nV ((bt c).bs+n)):=by
 refine In 11 Tryz.func143 fun _ _ _=>?_;refine .oy fun qQ=>?_;have Xw:=qQ.top.bs;refine Z8 ?_;refine .n ((cE (h:=qB (E:=mE b F bs) aj)).same (fun _ _=>aA.refl _) (fun _ _=>ag.refl _)) rfl fun _ _=>?_;refine .p (v7 (T:=161) (i:=2) (off:=2) (by kernel_rfl) Tryz.XI.out (.t rfl) rfl) rfl ?_;refine Z7 ?_;refine aX ?_;exact ag.int (by omega)
theorem pW{f:Nat}(aj:lZ A K)(aQ:O5 K)(bu:bs.length=K.own.length)(cZ:f<K.cH+K.own.length):bk Tryz.prog 28 [ai b 0,nV f] [dJ A K (mE b F bs) m,aM A K c] (γ:=Unit) (fun _=>True) (fun _=>[dJ A K (mE b F bs) (iT K f (m,c)).1,aM A K (iT K f (m,c)).2]) (fun _=>aS []):=by
 refine In 133 Tryz.func28 fun _ _ _=>?_;refine .oy fun qQ=>?_;have NR:=(aQ.sl f).1;have hni:=aQ.ni;have SD:=aQ.sg f;have PL:K.cH=K.m.av.length:=rfl;have Ab:=aj.cells;have hcs:=qQ.sl;have hno:=aQ.no;refine Z6 ?_;refine .n ((fU [_] [1,0] (h:=nD)).same (fun _ _=>aA.perm (Perm.idx [1,0] rfl rfl)) (fun _ _=>ag.refl _)) rfl fun _ _=>?_;refine Z7 ?_;refine .p (cA (h:=ga (m:=K.m) (f:=(f:Int)))) rfl ?_;refine Z1 ?_;refine .p ((dA (.t rfl) rfl).le (ag.of_eq (by rw[SD]))) rfl ?_;refine Z1 ?_;refine .n (ay FZ.out) rfl fun b5 _=>?_;refine Jc ?_;refine Cd (fun c0=>?_) fun c0=>?_
 ·
  have hE:iT K f (m,c)=qF ⟨2,(iJ (K.sig f).P.length c).1,0,f,0⟩ ({m with waits:=true,host:=f},(iJ (K.sig f).P.length c).2):=if_pos (by omega);rw[hE];refine Z1 ?_;refine .bF [(0,0),(1,0),(2,0),(3,1),(4,0),(5,1),(6,0),(7,2),(8,0),(9,0),(10,0),(11,0)] 12 1 FM.out (by kernel_rfl) (k:= ?_);refine Z7 ?_;refine .e rfl (fU [_,_] [2,0,1] (h:=rV aj (k:=(K.sig f).P.length))) fun O9 Sp=>?_;refine Z4 ?_;refine .fin ?_;refine Ti ?_;refine .p ((az FP.out FZ.out (.cons (.c _) (.cons (.t rfl) (.cons (.t rfl) .nil))) rfl).le ((by exact show ag _ (aK (iU ⟨2,(iJ (K.sig f).P.length c).1,0,f,0⟩)) from ag.refl _))) rfl ?_;refine .n (fU [_] [2,0,1] (h:=qC (E:=mE b F bs) (m:={m with waits:=true,host:=f}) (c:=(iJ (K.sig f).P.length c).2) (o:=⟨2,(iJ (K.sig f).P.length c).1,0,f,0⟩) aj)) rfl fun Zl h52=>?_;refine Z4 ?_;refine Post.sr rfl (()) (by trivial) (aA.fI [0,1] [2] rfl rfl) rfl
 have qN:¬f<K.cH:=by omega
 obtain⟨EF,hz⟩:=xb bu (i:=f-K.cH) (by omega);obtain⟨NM,hml⟩:=aQ.ow (f-K.cH) (by omega);rw[show K.cH+(f-K.cH)=f by omega] at hml;have hnd: -100000≤((K.made (f-K.cH)),EF).1.kJ∧((K.made (f-K.cH)),EF).1.kJ≤100000:=NM.need;have hlo:((K.made (f-K.cH)),EF).1.locals≤2000:=NM.loc;have bg6:(K.sig f).P.length≤((K.made (f-K.cH)),EF).1.locals:=hml;refine dH ?_;refine .p ((gj (.t rfl) (.t rfl) bW).le (ag.int (show _=((f-K.cH:Nat):Int) by omega))) rfl ?_;refine dH ?_;refine .p (cI (f-K.cH) (h:=hz)) rfl ?_;refine Z1 ?_;refine .n (ay FZ.out) rfl fun Sz _=>?_;refine Z4 ?_;refine .bF [(0,0),(1,0),(2,0),(3,1),(5,0),(6,1),(7,0),(4,4)] 8 2 FM.out (by kernel_rfl) (k:= ?_);refine Z7 ?_;refine .a rfl ((fU [_,_,_] [3,0,1,2] (h:=oh)).same (fun _ _=>aA.perm (Perm.idx [1,2,3,0] rfl rfl)) (fun _ _=>ag.refl _)) (fun _ _=>aA.refl _) fun _ _=>?_;refine .fin ?_;refine Z6 ?_;have W7:iT K f (m,c)=(if (K.cells:Int)<((c.stk.length:Int)-((K.sig f).P.length:Int))+((K.made (f-K.cH)),EF).1.kJ∨((c.stk.length:Int)-((K.sig f).P.length:Int))<0∨c.cN.length=K.frames then mD 11 (m,c) else({m with lE:=(max m.lE.1 (((c.stk.length:Int)-((K.sig f).P.length:Int))+(K.made (f-K.cH)).kJ),max m.lE.2 ((c.cN.length:Int)+1))},dX K (List.replicate ((K.made (f-K.cH)).locals-(K.sig f).P.length) 0) {c with cN:=c.cN++[⟨f-K.cH,0,((c.stk.length:Int)-((K.sig f).P.length:Int)).toNat⟩]})):=if_neg qN;rcases(show(K.cells:Int)<((c.stk.length:Int)-((K.sig f).P.length:Int))+((K.made (f-K.cH)),EF).1.kJ∨(¬(K.cells:Int)<((c.stk.length:Int)-((K.sig f).P.length:Int))+((K.made (f-K.cH)),EF).1.kJ∧((c.stk.length:Int)-((K.sig f).P.length:Int))<0)∨(¬(K.cells:Int)<((c.stk.length:Int)-((K.sig f).P.length:Int))+((K.made (f-K.cH)),EF).1.kJ∧0≤((c.stk.length:Int)-((K.sig f).P.length:Int))∧c.cN.length=K.frames)∨(¬(K.cells:Int)<((c.stk.length:Int)-((K.sig f).P.length:Int))+((K.made (f-K.cH)),EF).1.kJ∧0≤((c.stk.length:Int)-((K.sig f).P.length:Int))∧¬c.cN.length=K.frames) by omega) with hA|⟨hA,hB⟩|⟨hA,hB,hC⟩|⟨hA,hB,hC⟩
 ·
  refine .bz 18 3 FM.out (by kernel_rfl) (k:= ?_);refine Jd ?_;refine .g (bB.gF rfl rfl rfl rfl (fun hg=>dO (q:=aa .i64 0) (hg (by omega)))) rfl rfl ?_;refine Z4 ?_;refine CF fun c1=>?_;rw[W7,if_pos (.inl hA)];refine Z3 ?_;refine .n (fU [_,_] [2,3,0,1] (h:=jR (E:=mE b F bs) (m:=m) (c:=c) aj)) rfl fun g98 h98=>?_;refine Z4 ?_;refine Post.sr rfl (()) (by trivial) (aA.fI [0,1] [2,3] rfl rfl) rfl
 ·
  refine .bz 18 3 FM.out (by kernel_rfl) (k:= ?_);refine Jd ?_;refine .YQ rfl rfl rfl rfl ((by omega)) (fun hg=>(fU [_,_,_] [3,0,1,2] (h:=D9 (x:=((f-K.cH:Nat):Int)) (y:=0) (z:=((c.stk.length:Int)-((K.sig f).P.length:Int))) hB)).same (fun _ _=>aA.perm (Perm.idx [1,2,3,0] rfl rfl)) (fun _ _=>ag.refl _)) rfl fun _ _=>?_;refine Z4 ?_;refine CF fun c1=>?_;rw[W7,if_pos (.inr (.inl hB))];refine Z3 ?_;refine .n (fU [_,_] [2,3,0,1] (h:=jR (E:=mE b F bs) (m:=m) (c:=c) aj)) rfl fun g98 h98=>?_;refine Z4 ?_;refine Post.sr rfl (()) (by trivial) (aA.fI [0,1] [2,3] rfl rfl) rfl
 ·
  have hfr:lN ⟨f-K.cH,0,((c.stk.length:Int)-((K.sig f).P.length:Int)).toNat⟩:=⟨by(show f-K.cH<_;omega),by(show(0:Nat)<_;decide),by(show((c.stk.length:Int)-((K.sig f).P.length:Int)).toNat<_;omega)⟩;have WZ:rJ K.frames c.cN ⟨f-K.cH,0,((c.stk.length:Int)-((K.sig f).P.length:Int)).toNat⟩=c.cN:=if_pos hC;refine .bz 18 3 FM.out (by kernel_rfl) (k:= ?_);refine EA ?_;refine .cons (bB.gF rfl rfl rfl rfl (fun hg=>(az FP.out FZ.out (.cons (.when (.t rfl) hg) (.cons (.when (.t rfl) hg) .nil)) rfl).le ((by exact show ag (aK [nV (f-K.cH),nV 0,aa .i64 ((c.stk.length:Int)-((K.sig f).P.length:Int))]) (aK (ki ⟨f-K.cH,0,((c.stk.length:Int)-((K.sig f).P.length:Int)).toNat⟩)) from ag.agg (.cons (.refl _) (.cons (.refl _) (.cons (ag.int (show((c.stk.length:Int)-((K.sig f).P.length:Int))=((((c.stk.length:Int)-((K.sig f).P.length:Int)).toNat:Nat):Int) by omega)) .nil))))))) ?_;refine Z1 ?_;refine .YQ rfl rfl rfl rfl ((by omega)) (fun hg=>kM (rest:=[_,_,_]) (xT aj (f:=⟨f-K.cH,0,((c.stk.length:Int)-((K.sig f).P.length:Int)).toNat⟩) hfr) FB.out (.cons (.when (.t rfl) hg) (.cons (.when (.t rfl) hg) .nil)) (Perm.idx [3,0,1,2] rfl rfl)) rfl fun g94 h94=>?_;refine Z4 ?_;rw[WZ];refine Cd (fun c1=>?_) fun c1=>?_
  ·
   rw[W7,if_pos (.inr (.inr hC))];refine Z3 ?_;refine .n (fU [_,_] [3,0,1,2] (h:=jR (E:=mE b F bs) (m:=m) (c:=c) aj)) rfl fun g98 h98=>?_;refine Z4 ?_;refine Post.sr rfl (()) (by trivial) (aA.fI [0,1] [2,3] rfl rfl) rfl
  exfalso;rw[if_pos hC] at c1;omega
 have hfr:lN ⟨f-K.cH,0,((c.stk.length:Int)-((K.sig f).P.length:Int)).toNat⟩:=⟨by(show f-K.cH<_;omega),by(show(0:Nat)<_;decide),by(show((c.stk.length:Int)-((K.sig f).P.length:Int)).toNat<_;omega)⟩;have WZ:rJ K.frames c.cN ⟨f-K.cH,0,((c.stk.length:Int)-((K.sig f).P.length:Int)).toNat⟩=c.cN++[⟨f-K.cH,0,((c.stk.length:Int)-((K.sig f).P.length:Int)).toNat⟩]:=if_neg hC;refine .bz 18 3 FM.out (by kernel_rfl) (k:= ?_);refine EA ?_;refine .cons (bB.gF rfl rfl rfl rfl (fun hg=>(az FP.out FZ.out (.cons (.when (.t rfl) hg) (.cons (.when (.t rfl) hg) .nil)) rfl).le ((by exact show ag (aK [nV (f-K.cH),nV 0,aa .i64 ((c.stk.length:Int)-((K.sig f).P.length:Int))]) (aK (ki ⟨f-K.cH,0,((c.stk.length:Int)-((K.sig f).P.length:Int)).toNat⟩)) from ag.agg (.cons (.refl _) (.cons (.refl _) (.cons (ag.int (show((c.stk.length:Int)-((K.sig f).P.length:Int))=((((c.stk.length:Int)-((K.sig f).P.length:Int)).toNat:Nat):Int) by omega)) .nil))))))) ?_;refine Z1 ?_;refine .YQ rfl rfl rfl rfl ((by omega)) (fun hg=>kM (rest:=[_,_,_]) (xT aj (f:=⟨f-K.cH,0,((c.stk.length:Int)-((K.sig f).P.length:Int)).toNat⟩) hfr) FB.out (.cons (.when (.t rfl) hg) (.cons (.when (.t rfl) hg) .nil)) (Perm.idx [3,0,1,2] rfl rfl)) rfl fun g94 h94=>?_;refine Z4 ?_;rw[WZ];refine Cd (fun c1=>?_) fun c1=>?_
 · exfalso;rw[if_neg hC] at c1;omega
 rw[W7,if_neg (by omega)];refine Z3 ?_;refine .bF [(0,0),(1,0),(2,0),(3,0),(4,0),(5,1),(6,0),(7,0),(8,1),(9,0),(10,0),(11,0),(12,0),(13,0),(14,0),(15,1),(16,0),(17,0),(18,0),(19,1),(20,4),(21,0),(22,0)] 23 3 FM.out (by kernel_rfl) (k:= ?_);refine Z4 ?_;refine .p rfl (fun _=>dc 0 FU.out FC.out rfl (.t rfl) (.c _) rfl (by omega)) ?_;refine Z9 ?_;refine .p rfl (fun _=>dc 1 FU.out FC.out rfl (.t rfl) (.c _) rfl (by omega)) ?_;refine Z5 ?_;refine .a rfl ((cE (h:=uS)).same (fun _ _=>aA.refl _) (fun _ _=>ag.refl _)) (fun _ _=>aA.refl _) fun _ _=>?_;refine .p rfl (fun _=>(K7 (.t rfl) (.t rfl)).le (ag.int (show _=max m.lE.2 ((c.cN.length:Int)+1) by simp))) ?_;refine .p rfl (fun _=>dB FR.out FZ.out (.cons (.t rfl) (.cons (.t rfl) .nil)) rfl) ?_;refine .fin ?_;refine Z2 ?_;refine .s (gY (i:=3) FC.out rfl (.t rfl) (.t rfl) rfl rfl rfl) ?_;refine dH ?_;refine .n (I8 (enc:=ig) (0) FU.out FC.out FY.out FZ.out rfl (ag.refl _) (.t rfl) (show _=((((K.made (f-K.cH)),EF).1.locals-(K.sig f).P.length:Nat):Int) by omega) (by omega) (by omega)) rfl fun _ _=>?_;refine .n (fU [_,_] [3,0,1,2] (h:=ee (E:=mE b F bs) (m:={m with lE:=(max m.lE.1 (((c.stk.length:Int)-((K.sig f).P.length:Int))+(K.made (f-K.cH)).kJ),max m.lE.2 ((c.cN.length:Int)+1))}) (c:={c with cN:=c.cN++[⟨f-K.cH,0,((c.stk.length:Int)-((K.sig f).P.length:Int)).toNat⟩]}) (l:=List.replicate ((K.made (f-K.cH)).locals-(K.sig f).P.length) 0) aj (fun v hv=>by rw[List.eq_of_mem_replicate hv];decide))) rfl fun bg7 bg8=>?_;refine Z1 ?_;refine Post.bT rfl (()) (by trivial) (aA.fI [0,1] [2,3] rfl rfl) rfl
open Classical in
theorem Ed{x:aq}(aj:lZ A K)(aQ:O5 K)(bu:bs.length=K.own.length)(cZ:nX x)(jy:x.A<(K.m.cY.length:Int))(qH:∀v∈c.tb,v≤K.cH+K.own.length):bk Tryz.prog 141 [ai b 0,aK (aE x)] [dJ A K (mE b F bs) m,aM A K c] (γ:=Unit) (fun _=>True) (fun _=>[dJ A K (mE b F bs) (pF K x (m,c)).1,aM A K (pF K x (m,c)).2]) (fun _=>aS []):=by
 refine In 59 Tryz.func141 fun _ _ _=>?_;refine .oy fun qQ=>?_;have gG:=qQ.pop;have htn:=qQ.tn;have hkt:=aQ.tn;have NK:=cZ.A0;have Zo:=cZ.PY;have hni:=aQ.ni;have hno:=aQ.no;obtain⟨sg,SD⟩:=ah (xs:=K.m.cY) (k:=x.A.toNat) (by omega);have Qi:pF K x (m,c)=(if ((c.tb[(aC c).1]?).getD 0)=0 then mF 5 (m,(aC c).2) else if K.sig (((c.tb[(aC c).1]?).getD 0)-1)=(K.m.cY[x.A.toNat]?).getD ⟨[],[]⟩ then iT K (((c.tb[(aC c).1]?).getD 0)-1) (m,(aC c).2) else mF 6 (m,(aC c).2)):=rfl;rw[show(K.m.cY[x.A.toNat]?).getD ⟨[],[]⟩=sg by rw[SD];rfl] at Qi;refine ek ?_;refine .n ((fU [_] [1,0] (h:=nD)).same (fun _ _=>aA.perm (Perm.idx [1,0] rfl rfl)) (fun _ _=>ag.refl _)) rfl fun _ _=>?_;refine Z6 ?_;refine .n (cE (h:=de (E:=mE b F bs) aj)) rfl fun J5 ED=>?_;refine Z4 ?_;rcases(show(aC c).1<fB K.m∨(¬(aC c).1<fB K.m∧(aC c).1<9223372036854775808)∨(¬(aC c).1<fB K.m∧9223372036854775808≤(aC c).1) by omega) with hN|⟨hN,hM⟩|⟨hN,hM⟩
 ·
  generalize hv:((c.tb[(aC c).1]?).getD 0)=v at Qi;have hve:(((aC c).2).tb[(aC c).1]?).getD 0=v:=hv;have bg9:v≤K.cH+K.own.length:=by(rw[←hv];cases h9:c.tb[(aC c).1]? with|none=>exact Nat.zero_le _|some w=>exact qH w (List.mem_of_getElem? h9))
  refine Z7 ?_;refine .n ((fU [_] [1,0] (h:=Ea (c:=(aC c).2) aj (i:=(aC c).1) hN)).same (fun _ _=>aA.perm (Perm.idx [1,0] rfl rfl)) (fun _ _=>ag.refl _)) rfl fun _ _=>?_;refine Z1 ?_;refine .p ((dA (.t rfl) rfl).le (ag.of_eq (by rw[hve]))) rfl ?_;refine .p ((dA (.t rfl) rfl).le (ag.of_eq (by rw[hve]))) rfl ?_;refine EA ?_;refine Cd (fun c0=>?_) fun c0=>?_
  ·
   have Sl:v=0:=by omega
   rw[Qi,if_pos Sl];refine Z3 ?_;refine .n (cE (h:=jS (E:=mE b F bs) (m:=m) (c:=(aC c).2) (t:=5) aj)) rfl fun Up Sx=>?_;refine Z4 ?_;refine Post.sr rfl (()) (by trivial) (fun _ _ _ h=>h) rfl
  have Sl:¬v=0:=by omega
  rw[if_neg Sl] at Qi;refine Z5 ?_;refine .p ((eK (.t rfl)).le (ag.int (show(if v=0 then(0:Int) else(v:Int)-1)=((v-1:Nat):Int) by rw[if_neg Sl];omega))) rfl ?_;refine .p (cA (h:=ga (m:=K.m) (f:=((v-1:Nat):Int)))) rfl ?_;refine Z1 ?_;refine .p ((dA (.t rfl) rfl).le (ag.of_eq (by rw[aQ.sg]))) rfl ?_;refine Z1 ?_;refine .n (ay FZ.out) rfl fun b9 _=>?_;refine Z6 ?_;refine .bz 9 2 FM.out (by kernel_rfl) (k:= ?_);refine Z7 ?_;refine .p (cI x.A.toNat (h:=SD)) ?_;refine Z2 ?_;refine .p (cA (h:=Ga)) rfl ?_;refine Z3 ?_;refine Cd (fun c1=>?_) fun c1=>?_
  ·
   have hne:¬K.sig (v-1)=sg:=c1;rw[Qi,if_neg hne];refine Z3 ?_;refine .n (fU [_] [1,2,0] (h:=jS (E:=mE b F bs) (m:=m) (c:=(aC c).2) (t:=6) aj)) rfl fun g55 h55=>?_;refine Z4 ?_;refine Post.sr rfl (()) (by trivial) (aA.fI [0,1] [2] rfl rfl) rfl
  have heq:K.sig (v-1)=sg:=Classical.not_not.1 c1;rw[Qi,if_pos heq];refine Z4 ?_;refine .p ((eK (.t rfl)).le (ag.int (show(if v=0 then(0:Int) else(v:Int)-1)=((v-1:Nat):Int) by rw[if_neg Sl];omega))) rfl ?_;refine .n (fU [_] [1,2,0] (h:=pW (m:=m) (c:=(aC c).2) aj aQ bu (f:=v-1) (by omega))) rfl fun g58 h58=>?_;refine Z1 ?_;refine Post.bT rfl (()) (by trivial) (aA.fI [0,1] [2] rfl rfl) rfl
 ·
  refine Z7 ?_;refine .n ((fU [_] [1,0] (h:=ta (c:=(aC c).2) (i:=((aC c).1:Int)) (.inr (by unfold fB at hN;omega)))).same (fun _ _=>aA.perm (Perm.idx [1,0] rfl rfl)) (fun _ _=>ag.refl _)) rfl fun _ _=>?_;refine KR ?_;refine Cd (fun c0=>?_) fun c0=>?_
  ·
   rw[Qi,if_pos (MK (c:=c) htn hN)];refine Z3 ?_;refine .n (cE (h:=jS (E:=mE b F bs) (m:=m) (c:=(aC c).2) (t:=5) aj)) rfl fun Up Sx=>?_;refine Z4 ?_;refine Post.sr rfl (()) (by trivial) (fun _ _ _ h=>h) rfl
  exact(c0 (.inl (by decide))).elim
 refine Z6 ?_;refine .p ((dM FU.out FU.out (.t rfl)).le (ag.int (show IntKind.i64.wrap ((aC c).1:Int)=((aC c).1:Int)-18446744073709551616 by rw[IntKind.wrap_i64];omega))) rfl ?_;refine .n ((fU [_] [1,0] (h:=ta (c:=(aC c).2) (i:=((aC c).1:Int)-18446744073709551616) (.inl (by omega)))).same (fun _ _=>aA.perm (Perm.idx [1,0] rfl rfl)) (fun _ _=>ag.refl _)) rfl fun _ _=>?_;refine KR ?_;refine Cd (fun c0=>?_) fun c0=>?_
 ·
  rw[Qi,if_pos (MK (c:=c) htn hN)];refine Z3 ?_;refine .n (cE (h:=jS (E:=mE b F bs) (m:=m) (c:=(aC c).2) (t:=5) aj)) rfl fun Up Sx=>?_;refine Z4 ?_;refine Post.sr rfl (()) (by trivial) (fun _ _ _ h=>h) rfl
 exact(c0 (.inl (by decide))).elim
end Go.Proofs.YtmacjbfbpjgmnaaGreatDoor
end
