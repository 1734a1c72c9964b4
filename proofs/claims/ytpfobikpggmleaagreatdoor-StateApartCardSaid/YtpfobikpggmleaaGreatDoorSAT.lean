/-
  What the statement's proof leans on, several texts in one (packed by a program).
-/
import Derived.Test.YtpfobikpggmleaaGreatDoorSAS
set_option linter.all false
set_option maxRecDepth 1000000
set_option maxHeartbeats 4000000
section
namespace Go.Proofs.YtpfobikpggmleaaGreatDoor
open Go.Hl Go.RowKit
variable {l:List aA} {nb:Nat} {z:Qm} {rs:List (Int×Bool)} {j:Nat}
theorem Gy (av:iu l z.sp z.op rs) (hp1:z.op.length≤64) (hp2:z.sp.length≤50000) (fI:¬z.cl):cw Tryz.prog 287 [aI nb 0,ag .i64 ((j:Int))] (D3 nb l z) (γ:=Int×Qm) (fun g=>nsP l False rs 5 (z.sp.length+1) g.1 g.2) (fun g=>D3 nb l g.2) (fun g=>ag .i64 g.1):=by
 refine In 39 Tryz.func287 fun _ _ _=> ?_
 refine Z6 ?_
 rcases List.eq_nil_or_concat z.op with hop|⟨o,p,hop⟩
 have Qg:rs=[]:=by have:=av.len;rw [hop] at this;exact List.eq_nil_of_length_eq_zero this.symm
 obtain ⟨gp,go,sp,op,cl,dp⟩:=z
 simp only at hop av hp1 hp2 fI
 subst hop
 subst Qg
 rotate_left
 obtain ⟨gp,go,sp,op,cl,dp⟩:=z
 simp only [List.concat_eq_append] at hop av hp1 hp2 fI
 subst hop
 obtain ⟨MH,ce,Qg⟩:∃MH ce,rs=MH++[ce]:=vw (fun e=>by have:=av.len;rw [e] at this;simp at this)
 obtain ⟨cb,ce⟩:=ce
 subst Qg
 obtain ⟨bi,el,en,y,hs,hy,Ef,hce⟩:=av.top
 simp only at Ef hce
 refine .iy 1 rfl (fun e=>by (have h9:=(List.getElem?_eq_some_iff.1 hs).1;simp only at e;rw [e] at h9;simp at h9)) fun pb pc Xk=> ?_
 simp only at Xk
 subst Xk
 ·
  refine Z2 ?_
  refine .n ((cE (h:=Cf hs)).same (fun _ _=>aB.refl _) (fun _ _=>af.refl _)) rfl fun _ _=> ?_
  refine Z9 ?_
  refine .bx 11 12 FM.out (by kernel_rfl) (k:= ?_)
  refine cK ?_
  refine .cons (cm.gF rfl rfl rfl rfl (fun hg=>fC (i:=1) (r:=0) FA.out (.when (.t rfl) hg) rfl hs rfl)) ?_
  refine Z1 ?_
  refine .g (cm.gF rfl rfl rfl rfl (fun hg=>aO (j:=bi) FU.out FC.out rfl (.when (.t rfl) hg) (.when (.t rfl) hg) rfl hy)) rfl rfl ?_
  refine Z8 ?_
  refine .g (cm.gF rfl rfl rfl rfl (fun hg=>fC (i:=1) (r:=1) FA.out (.when (.t rfl) hg) rfl hs rfl)) rfl rfl ?_
  refine Z4 ?_
  refine Cd (fun c0=> ?_) fun c0=> ?_
  ·
   refine Z7 ?_
   refine Post.aP rfl ((4,⟨some (pb,pc),go,sp,o++[p],cl,dp⟩)) (by exact .inr ⟨by show (4:Int)≠0;decide,fun r h=>by (have h9:=(Au.1 h).1;rcases c0 with (h8|h8)|h8;exact h8 trivial;exact h8 (Ef.trans h9.1);have h7:=hce.2 h8;rw [h9.2] at h7;cases h7)⟩) (fun _ _ _ h=>h) (.rt rfl) ?_
   exact af.refl _
  refine Z8 ?_
  refine .s (gC (enc:=gM) (i:=1) (r:=1) ((bi:Int),(j:Int),en) rfl FC.out (.t rfl) (.t rfl) rfl hs rfl rfl) ?_
  refine Z2 ?_
  refine .own (hs':=D3 nb l ⟨some (pb,pc),go,sp.set p ((bi:Int),(j:Int),en),o++[p],cl,dp⟩) (aB.of_eq (by simp)) ?_
  refine Z6 ?_
  refine Post.aP rfl ((0,⟨some (pb,pc),go,sp.set p ((bi:Int),(j:Int),en),o++[p],cl,dp⟩)) (by exact .inl ⟨rfl,by (show (sp.set p _).length≤sp.length+1;rw [List.length_set];omega),hp1,MH++[(cb,true)],av.other hs hy Ef,fun r=>by (show eV False (MH++[(cb,ce)]) (5::r)↔eV cl (MH++[(cb,true)]) r;rw [Au];have h4:cb=4:=Ef.symm.trans (Classical.byContradiction fun h=>c0 (.inl (.inr h)));have hf:ce=false:=Bool.eq_false_iff.2 (fun h8=>c0 (.inr (hce.1 h8)));rw [show (cl=False) from eq_false fI];exact ⟨fun h=>h.2,fun h=>⟨⟨h4,hf⟩,h⟩⟩)⟩) (fun _ _ _ h=>h) (.rt rfl) ?_
  exact af.refl _
 refine Z2 ?_
 refine .n ((cE (h:=AM)).same (fun _ _=>aB.refl _) (fun _ _=>af.refl _)) rfl fun _ _=> ?_
 refine Z9 ?_
 refine .bx 11 12 FM.out (by kernel_rfl) (k:= ?_)
 refine Z3 ?_
 refine .cons (cm.gF rfl rfl rfl rfl (fun hg=>mG (q:=jA) (hg (fun h=>h)))) ?_
 refine .cons (cm.gF rfl rfl rfl rfl (fun hg=>mG (q:=jA) (hg (fun h=>h)))) ?_
 refine .cons (cm.gF rfl rfl rfl rfl (fun hg=>mG (q:=jA) (hg (fun h=>h)))) ?_
 refine .cons (cm.gF rfl rfl rfl rfl (fun hg=>mG (q:=jA) (hg (fun h=>h)))) ?_
 refine .cons (cm.gF rfl rfl rfl rfl (fun hg=>mG (q:=jA) (hg (fun h=>h)))) ?_
 refine .cons (cm.gF rfl rfl rfl rfl (fun hg=>mG (q:=jA) (hg (fun h=>h)))) ?_
 refine .cons (cm.gF rfl rfl rfl rfl (fun hg=>mG (q:=jA) (hg (fun h=>h)))) ?_
 refine .cons (cm.gF rfl rfl rfl rfl (fun hg=>mG (q:=jA) (hg (fun h=>h)))) ?_
 refine Z1 ?_
 refine .g (cm.gF rfl rfl rfl rfl (fun hg=>mG (q:=jA) (hg (fun h=>h)))) rfl rfl ?_
 refine .g (cm.gF rfl rfl rfl rfl (fun hg=>mG (q:=jA) (hg (fun h=>h)))) rfl rfl ?_
 refine .g (cm.gF rfl rfl rfl rfl (fun hg=>mG (q:=jA) (hg (fun h=>h)))) rfl rfl ?_
 refine .g (cm.gF rfl rfl rfl rfl (fun hg=>mG (q:=aq True) (hg (fun h=>h)))) rfl rfl ?_
 refine Z2 ?_
 refine .g (cm.gF rfl rfl rfl rfl (fun hg=>mG (q:=jA) (hg (.inl (fun h=>h))))) rfl rfl ?_
 refine .g (cm.gF rfl rfl rfl rfl (fun hg=>mG (q:=jA) (hg (.inl (fun h=>h))))) rfl rfl ?_
 refine .g (cm.gF rfl rfl rfl rfl (fun hg=>mG (q:=jA) (hg (.inl (fun h=>h))))) rfl rfl ?_
 refine .g (cm.gF rfl rfl rfl rfl (fun hg=>mG (q:=jA) (hg (.inl (fun h=>h))))) rfl rfl ?_
 refine .g (cm.gF rfl rfl rfl rfl (fun hg=>mG (q:=aq True) (hg (.inl (fun h=>h))))) rfl rfl ?_
 refine Z3 ?_
 refine Cd (fun c0=> ?_) fun c0=> ?_
 ·
  refine Z7 ?_
  refine Post.aP rfl ((4,⟨gp,go,sp,[],cl,dp⟩)) (by exact .inr ⟨by show (4:Int)≠0;decide,fun r=>A8⟩) (fun _ _ _ h=>h) (.rt rfl) ?_
  exact af.refl _
 exact absurd (.inl (.inl (fun h=>h))) c0
theorem MI (av:iu l z.sp z.op rs) (hp1:z.op.length≤64) (hp2:z.sp.length≤50000) (fI:¬z.cl):cw Tryz.prog 288 [aI nb 0,ag .i64 ((j:Int))] (D3 nb l z) (γ:=Qm) (fun g=>nsP l False rs 11 (z.sp.length+1) 0 g) (fun g=>D3 nb l g) (fun g=>bD []):=by
 refine In 34 Tryz.func288 fun _ _ _=> ?_
 refine Z1 ?_
 rcases List.eq_nil_or_concat z.op with hop|⟨o,p,hop⟩
 have Qg:rs=[]:=by have:=av.len;rw [hop] at this;exact List.eq_nil_of_length_eq_zero this.symm
 obtain ⟨gp,go,sp,op,cl,dp⟩:=z
 simp only at hop av hp1 hp2 fI
 subst hop
 subst Qg
 rotate_left
 obtain ⟨gp,go,sp,op,cl,dp⟩:=z
 simp only [List.concat_eq_append] at hop av hp1 hp2 fI
 subst hop
 obtain ⟨MH,ce,Qg⟩:∃MH ce,rs=MH++[ce]:=vw (fun e=>by have:=av.len;rw [e] at this;simp at this)
 obtain ⟨cb,ce⟩:=ce
 subst Qg
 obtain ⟨bi,el,en,y,hs,hy,Ef,hce⟩:=av.top
 simp only at Ef hce
 refine .iy 1 rfl (fun e=>by (have h9:=(List.getElem?_eq_some_iff.1 hs).1;simp only at e;rw [e] at h9;simp at h9)) fun pb pc Xk=> ?_
 simp only at Xk
 subst Xk
 ·
  refine Z2 ?_
  refine .n ((cE (h:=Cf hs)).same (fun _ _=>aB.refl _) (fun _ _=>af.refl _)) rfl fun _ _=> ?_
  refine iW ?_
  refine Cd (fun c0=> ?_) fun c0=> ?_
  · exact absurd trivial c0
  refine Z8 ?_
  refine .s (gC (enc:=gM) (i:=1) (r:=2) ((bi:Int),el,(j:Int)) rfl FC.out (.t rfl) (.t rfl) rfl hs rfl rfl) ?_
  refine Z2 ?_
  refine .own (hs':=D3 nb l ⟨some (pb,pc),go,sp.set p ((bi:Int),el,(j:Int)),o++[p],cl,dp⟩) (aB.of_eq (by simp)) ?_
  refine .bx 12 3 FM.out (by kernel_rfl) (k:= ?_)
  refine cK ?_
  refine .p (jZ (.t rfl) (.c _) (bY (by simp only [List.length_append,List.length_cons,List.length_nil] at*;omega) (by simp only [List.length_append,List.length_cons,List.length_nil] at*;omega))) ?_
  refine .p (qp (i:=2) (h:=o.length) FU.out FC.out rfl (.t rfl) (.t rfl) (by simp) rfl rfl (by simp)) ?_
  refine Z5 ?_
  refine .own (aB.cons _ (aB.cons _ (aB.N4 o (yJ _ _)))) ?_
  refine Post.ij rfl (⟨some (pb,pc),go,sp.set p ((bi:Int),el,(j:Int)),o,cl,dp⟩) (by exact .inl ⟨rfl,by (show (sp.set p _).length≤sp.length+1;rw [List.length_set];omega),by (show o.length≤64;simp only [List.length_append,List.length_cons,List.length_nil] at hp1;omega),MH,av.pop _,fun r=>by (show eV False (MH++[(cb,ce)]) (11::r)↔eV cl MH r;rw [Mm,show (cl=False) from eq_false fI])⟩) (fun _ _ _ h=>h) rfl
 refine Z2 ?_
 refine .n ((cE (h:=AM)).same (fun _ _=>aB.refl _) (fun _ _=>af.refl _)) rfl fun _ _=> ?_
 refine iW ?_
 refine Cd (fun c0=> ?_) fun c0=> ?_
 ·
  refine cK ?_
  refine Post.TI rfl (⟨gp,go,sp,[],True,dp⟩) (by exact .inl ⟨rfl,Nat.le_succ _,by simp,[],iu.nil _ _,fun r=>Av⟩) (fun _ _ _ h=>h) rfl
 exact absurd (fun h=>h) c0
theorem Jn {x:aA} (av:iu l z.sp z.op rs) (hp1:z.op.length≤64) (hp2:z.sp.length≤50000) (fI:l[j]?=some x):cw Tryz.prog 265 [aI nb 0,ag .i64 ((j:Int))] (D3 nb l z) (γ:=Int×Qm) (fun g=>nsP l z.cl rs x.Code (z.sp.length+1) g.1 g.2) (fun g=>D3 nb l g.2) (fun g=>ag .i64 g.1):=by
 refine In 48 Tryz.func265 fun _ _ _=> ?_
 refine D0 ?_
 refine Cd (fun c0=> ?_) fun c0=> ?_
 ·
  refine Z8 ?_
  refine Post.aP rfl ((4,z)) (by exact .inr ⟨by show (4:Int)≠0;decide,fun r=>by rw [show z.cl=True from eq_true c0];exact Dn⟩) (fun _ _ _ h=>h) (.rt rfl) ?_
  exact af.refl _
 have MJ:z.cl=False:=eq_false c0
 refine Z7 ?_
 refine .p (cI j (h:=fI)) rfl ?_
 refine Z1 ?_
 refine .p (cA (h:=Gw)) rfl ?_
 refine Z3 ?_
 refine Cd (fun c1=> ?_) fun c1=> ?_
 ·
  refine Z4 ?_
  refine .n (cE (h:=Gx hp1 hp2)) rfl fun g21 LV=> ?_
  refine Z6 ?_
  refine Post.aP rfl (g21) (by exact (by rw [MJ];rcases LV with ⟨h1,h2⟩|⟨h1,h2,h3,h4,h5⟩;exact .inr ⟨h2,fun r=>IQ c1 (av.len▸h1)⟩;exact .inl ⟨h2,by (rw [h3];simp),by (rw [h4];simp;omega),rs++[(x.Code,false)],by (rw [h3,h4];exact av.begin fI),fun r=>by (rw [h5,MJ];exact IP c1 (av.len▸h1) (av.len▸hp1))⟩)) (fun _ _ _ h=>h) (.rt rfl) ?_
  exact af.refl _
 refine Z7 ?_
 refine .p (cI j (h:=fI)) rfl ?_
 refine Z6 ?_
 refine Cd (fun c2=> ?_) fun c2=> ?_
 ·
  refine Z4 ?_
  refine .n (cE (h:=Gy av hp1 hp2 c0)) rfl fun No Np=> ?_
  refine Z6 ?_
  refine Post.aP rfl (No) (by exact (by rw [MJ,c2];exact Np)) (fun _ _ _ h=>h) (.rt rfl) ?_
  exact af.refl _
 refine Z7 ?_
 refine .p (cI j (h:=fI)) rfl ?_
 refine Z6 ?_
 refine Cd (fun c3=> ?_) fun c3=> ?_
 ·
  refine Z3 ?_
  refine .n (cE (h:=MI av hp1 hp2 c0)) rfl fun Xc h47=> ?_
  refine Z9 ?_
  refine Post.aP rfl ((0,Xc)) (by exact (by rw [MJ,c3];exact h47)) (fun _ _ _ h=>h) (.rt rfl) ?_
  exact af.refl _
 refine Z9 ?_
 refine Post.aP rfl ((0,z)) (by exact (by rw [MJ];exact .inl ⟨rfl,Nat.le_succ _,hp1,rs,av,fun r=>by rw [MJ];exact F3 c1 c2 c3⟩)) (fun _ _ _ h=>h) (.rt rfl) ?_
 exact af.refl _
theorem Jo (av:l.length≤50000) (hp1:iu l z.sp z.op []) (hp2:z.op=[]) (fI:z.sp=[]) (oe:¬z.cl):cw Tryz.prog 245 [aI nb 0] (D3 nb l z) (γ:=Int×Int×Qm) (fun g=>g.2.1=0↔eZ (l.map (·.Code)) []) (fun g=>D3 nb l g.2.2) (fun g=>bD [ag .i64 g.1,ag .i64 g.2.1]):=by
 refine In 32 Tryz.func245 fun _ _ _=> ?_
 refine AU ?_
 refine .aT (σ:=Nat×Qm) (fun g=>D3 nb l g.2) (fun g=>[(11,ag .i64 (g.1:Int))]) (fun g=>g.1≤l.length∧g.2.op.length≤64∧g.2.sp.length≤g.1∧∃rs,iu l g.2.sp g.2.op rs∧(eZ (l.map (·.Code)) []↔eV g.2.cl rs ((l.drop g.1).map (·.Code)))) (fun g=>l.length-g.1) (0,z) ⟨Nat.zero_le _,by rw [hp2];simp,by rw [fI];simp,[],hp1,by rw [eq_false oe];simp [eV]⟩ rfl ?_ ?_
 · exact (.get rfl (af.refl _) (.refl _ _))
 rintro ⟨i,y⟩ ⟨hi,ho,hsp,rs,hr,hn⟩
 simp only at hi ho hsp hr hn ⊢
 refine Z6 ?_
 refine Cd (fun c0=> ?_) fun c0=> ?_
 ·
  obtain ⟨x,hx⟩:=ah (xs:=l) (k:=i) (by omega)
  have hdr:(l.drop i).map (·.Code)=x.Code::(l.drop (i+1)).map (·.Code):=by rw [List.drop_eq_getElem_cons (by omega),List.map_cons];rw [show l[i]=x from by rw [List.getElem?_eq_getElem (by omega)] at hx;exact Option.some.inj hx]
  refine iW ?_
  refine .n (cE (h:=Jn hr ho (by omega) hx)) rfl fun g16 T6=> ?_
  refine Z9 ?_
  refine Cd (fun c1=> ?_) fun c1=> ?_
  ·
   refine iW ?_
   refine Post.bf rfl rfl ((i,g16)) (by exact (by rcases T6 with ⟨h1,_⟩|⟨h1,h2⟩;exact absurd h1 c1;exact ⟨fun h=>absurd h h1,fun h=>absurd (hdr▸hn.1 h) (h2 _)⟩)) (fun _ _ _ h=>h) rfl (.cons (.rt rfl) ?_ (.cons (.rt rfl) ?_ .nil))
   · exact af.refl _
   exact af.refl _
  refine Z7 ?_
  refine .round (i+1,g16.2) (by rcases T6 with ⟨h1,h5,h2,MH,h3,h4⟩|⟨h1,_⟩;exact ⟨by show i+1≤_;omega,h2,by show g16.2.sp.length≤i+1;omega,MH,h3,hn.trans (by rw [hdr];exact h4 _)⟩;exact absurd h1 (fun h=>c1 h)) (by show l.length-(i+1)<l.length-i;omega) rfl ?_
  exact (.get rfl (af.int (by show (_:Int)=((i+1:Nat):Int);omega)) ((.keep 12 rfl rfl)))
 have oQ:l.drop i=[]:=List.drop_eq_nil_of_le (by omega)
 rw [oQ] at hn
 simp only [List.map_nil] at hn
 rw [Mn] at hn
 refine nZ ?_
 refine Cd (fun c2=> ?_) fun c2=> ?_
 ·
  refine lg ?_
  refine Post.bf rfl rfl (((l.length:Int),4,y)) (by exact ⟨fun h=>by simp at h,fun h=>absurd (hn.1 h) c2⟩) (fun _ _ _ h=>h) rfl (.cons (.rt rfl) ?_ (.cons (.rt rfl) ?_ .nil))
  · exact af.refl _
  exact af.refl _
 refine Z9 ?_
 refine Post.bf rfl rfl ((0,0,y)) (by exact ⟨fun _=>hn.2 (Classical.not_not.1 c2),fun _=>rfl⟩) (fun _ _ _ h=>h) rfl (.cons (.rt rfl) ?_ (.cons (.rt rfl) ?_ .nil))
 · exact af.refl _
 exact af.refl _
theorem Gz (av:l.length≤50000):cw Tryz.prog 228 [ai 5 aK l] [] (γ:=Int) (fun e=>e=0↔eZ (l.map (·.Code)) []) (fun _=>[]) (fun e=>bD [jA,jA,ag .i64 e]):=by
 refine In 24 Tryz.func228 fun _ _ _=> ?_
 refine cT ?_
 refine .n (bT (.t rfl)) rfl fun b10 _=> ?_
 refine Z5 ?_
 refine .own (hs':=D3 b10 l ⟨none,none,[],[],False,0⟩) (aB.trans (aB.Hv (cs':=[ai 5 aK l,aa (.slice none 0 0),aa (.slice none 0 0),aq False,ag .i64 0]) (.cons (.refl _) (.cons (.refl _) (.cons (.refl _) (.cons wY (.cons (.refl _) .nil)))))) (aB.cons _ RG)) ?_
 refine Z2 ?_
 refine .n (cE (h:=Jo (z:=⟨none,none,[],[],False,0⟩) av (iu.nil _ _) rfl rfl (fun h=>h))) rfl fun g13 h13=> ?_
 refine lg ?_
 refine Cd (fun c0=> ?_) fun c0=> ?_
 ·
  refine cT ?_
  refine Post.bf rfl rfl (g13.2.1) (by exact h13) (aB.dD [] [0,1,2] rfl rfl) rfl (.cons (.rt rfl) ?_ (.cons (.rt rfl) ?_ (.cons (.rt rfl) ?_ .nil)))
  · exact af.any
  · exact af.any
  exact af.refl _
 refine iW ?_
 refine Post.bf rfl rfl (g13.2.1) (by exact h13) (aB.dD [] [0,1,2] rfl rfl) rfl (.cons (.rt rfl) ?_ (.cons (.rt rfl) ?_ (.cons (.rt rfl) ?_ .nil)))
 · exact af.any
 · exact af.any
 exact af.int (by omega)
theorem Jp {l:List UInt8} (av:l.length≤60000):cW Tryz.prog 229 [ai 1 aj l] (ai 2 qK (l.foldl bz [])):=by
 refine In 43 Tryz.func229 fun _ _ _=> ?_
 refine .eu 2 qK ?_
 refine EC ?_
 refine .aT (σ:=Nat×SB×List (Nat×UInt8)) (fun z=>[au z.2.1 2 qK z.2.2]) (fun z=>[(3,aa (bq z.2.1 z.2.2.length)),(9,ag .i64 (z.1:Int))]) (fun z=>z.1≤l.length∧z.2.2=(l.take z.1).foldl bz []) (fun z=>l.length-z.1) (0,none,[]) ⟨Nat.zero_le _,rfl⟩ rfl ?_ ?_
 · exact (.get rfl (af.of_eq rfl) (.get rfl (af.refl _) (.refl _ _)))
 rintro ⟨k,g1,o⟩ ⟨hk,ho⟩
 simp only at hk ho ⊢
 refine Z6 ?_
 refine Cd (fun c0=> ?_) fun c0=> ?_
 ·
  obtain ⟨t,hx⟩:=ah (xs:=l) (k:=k) (by omega)
  have yw:=(yM (l.take k) [] 0 (by simp)).2
  rw [←ho] at yw
  simp only [List.length_nil,List.length_take] at yw
  have hoc:=(yM (l.take k) [] 0 (by simp)).1
  rw [←ho] at hoc
  refine Z6 ?_
  refine .p (cI k (h:=hx)) rfl ?_
  refine Z5 ?_
  rcases List.eq_nil_or_concat o with hoe|⟨m,q,hoe⟩
  rotate_left
  obtain ⟨n,t2⟩:=q
  rw [List.concat_eq_append] at hoe
  subst hoe
  refine .iy 0 rfl (by simp) fun ob oc hg=> ?_
  subst hg
  have K3:=hoc (n,t2) (by simp)
  simp only [List.length_take] at K3
  simp only [List.length_append,List.length_cons,List.length_nil] at yw
  rotate_left
  subst hoe
  rotate_left
  ·
   refine lg ?_
   refine .g (cm.gT rfl rfl rfl rfl (fun hg=>jZ (.when (.t rfl) hg) (.c _) (bY (by simp<;>omega) (by simp<;>omega)))) rfl rfl ?_
   refine .g (cm.gT rfl rfl rfl rfl (fun hg=>aX m.length FU.out FC.out rfl (.when (.t rfl) hg) (.when (.t rfl) hg) (by simp) (by simp))) rfl rfl ?_
   refine Z1 ?_
   refine .g (cm.gT rfl rfl rfl rfl (fun hg=>fC (i:=0) (r:=1) FA.out (.when (.t rfl) hg) rfl (l7 m (n,t2)) rfl)) rfl rfl ?_
   refine Z5 ?_
   refine Cd (fun c1=> ?_) fun c1=> ?_
   ·
    refine Z3 ?_
    refine .p (jZ (.t rfl) (.c _) (bY (by simp<;>omega) (by simp<;>omega))) rfl ?_
    refine .p (aX m.length FU.out FC.out rfl (.t rfl) (.t rfl) (by simp) (by simp)) rfl ?_
    refine Z1 ?_
    refine .p (fC (i:=0) (r:=0) FA.out (.t rfl) rfl (l7 m (n,t2)) rfl) rfl ?_
    refine Z1 ?_
    refine .p (aX m.length FU.out FC.out rfl (.t rfl) (.t rfl) (by simp) (by simp)) rfl ?_
    refine Z1 ?_
    refine .s (gC (enc:=qK) (i:=0) (r:=0) (n+1,t2) rfl FC.out (.t rfl) (.t rfl) rfl (l7 m (n,t2)) rfl rfl) ?_
    refine Z1 ?_
    rw [EA]
    rw [show (m++[(n,t2)]).length=(m++[(n+1,t2)]).length by simp]
    refine Z6 ?_
    refine .round (k+1,some (ob,oc),m++[(n+1,t2)]) ⟨by show k+1≤_;omega,by (show m++[(n+1,t2)]=_;rw [ur hx,←ho,←BQ.1 c1.2,vC])⟩ (by show l.length-(k+1)<l.length-k;omega) rfl ?_
    exact (.get rfl (af.refl _) (.get rfl (af.int (by show (_:Int)=((k+1:Nat):Int);omega)) ((.keep 32 rfl rfl))))
   refine Z4 ?_
   refine .p (cB qK [(1,t)]) rfl ?_
   refine .n (aD (i:=0) FU.out FU.out FC.out rfl FZ.out rfl FY.out (.t rfl) (.t rfl) rfl (by simp only [List.length_append,List.length_cons,List.length_nil];omega) (by simp only [List.length_append,List.length_cons,List.length_nil];omega)) rfl fun xe _=> ?_
   refine Z8 ?_
   refine .round (k+1,xe,(m++[(n,t2)])++[(1,t)]) ⟨by show k+1≤_;omega,by (show (m++[(n,t2)])++[(1,t)]=_;rw [ur hx,←ho,tE _ _ (fun e=>c1 ⟨by simp<;>omega,BQ.2 e⟩)])⟩ (by show l.length-(k+1)<l.length-k;omega) rfl ?_
   exact (.get rfl (af.refl _) (.get rfl (af.int (by show (_:Int)=((k+1:Nat):Int);omega)) ((.keep 29 rfl rfl))))
  refine cT ?_
  refine .g (cm.gT rfl rfl rfl rfl (fun hg=>mG (q:=jA) (by simp at hg))) rfl rfl ?_
  refine .g (cm.gT rfl rfl rfl rfl (fun hg=>mG (q:=jA) (by simp at hg))) rfl rfl ?_
  refine .g (cm.gT rfl rfl rfl rfl (fun hg=>mG (q:=jA) (by simp at hg))) rfl rfl ?_
  refine .g (cm.gT rfl rfl rfl rfl (fun hg=>mG (q:=jA) (by simp at hg))) rfl rfl ?_
  refine .g (cm.gT rfl rfl rfl rfl (fun hg=>mG (q:=jA) (by simp at hg))) rfl rfl ?_
  refine .g (cm.gT rfl rfl rfl rfl (fun hg=>mG (q:=jA) (by simp at hg))) rfl rfl ?_
  refine .g (cm.gT rfl rfl rfl rfl (fun hg=>mG (q:=jA) (by simp at hg))) rfl rfl ?_
  refine .g (cm.gT rfl rfl rfl rfl (fun hg=>mG (q:=aq True) (by simp at hg))) rfl rfl ?_
  refine Z3 ?_
  refine Cd (fun c1=> ?_) fun c1=> ?_
  · exfalso;simp at c1
  refine Z4 ?_
  refine .p (cB qK [(1,t)]) rfl ?_
  refine .n (aD (i:=0) FU.out FU.out FC.out rfl FZ.out rfl FY.out (.t rfl) (.t rfl) rfl (by simp only [List.length_append,List.length_cons,List.length_nil];omega) (by simp only [List.length_append,List.length_cons,List.length_nil];omega)) rfl fun xe _=> ?_
  refine Z8 ?_
  refine .round (k+1,xe,[]++[(1,t)]) ⟨by show k+1≤_;omega,by (show []++[(1,t)]=_;rw [ur hx,←ho];rfl)⟩ (by show l.length-(k+1)<l.length-k;omega) rfl ?_
  exact (.get rfl (af.refl _) (.get rfl (af.int (by show (_:Int)=((k+1:Nat):Int);omega)) ((.keep 29 rfl rfl))))
 have Hi:l.take k=l:=List.take_of_length_le (by omega)
 rw [Hi] at ho
 refine Z6 ?_
 refine .er (t:=3) (i:=0) rfl rfl ?_
 refine Z6 ?_
 refine bL ?_
 exact af.of_eq (by rw [ho])
theorem DF {x:aA} (av:0≤x.A) (hp1:0≤x.B):cW Tryz.prog 242 [aC (aK x)] (aq (¬iJ x)):=by
 refine In 6 Tryz.func242 fun _ _ _=> ?_
 refine Z9 ?_
 refine .p (cA (h:=x7 av hp1)) rfl ?_
 refine Z5 ?_
 refine bL ?_
 exact af.refl _
theorem DG {t:UInt8}:cW Tryz.prog 244 [ag .u8 (t.toNat:Int)] (aq (gE t=0)):=by
 refine In 6 Tryz.func244 fun _ _ _=> ?_
 refine Z8 ?_
 refine .p (cA (h:=sU)) rfl ?_
 refine Z5 ?_
 refine bL ?_
 exact af.refl _
theorem Be {p:aA→Prop} (av:∀x∈l,0≤x.A∧0≤x.B):cW Tryz.prog 259 [ai 5 aK l,o9 Tryz.prog (fun x:aA=>0≤x.A∧0≤x.B) (fun x=>[aC (aK x)]) (fun x=>aq (p x))] (ag .i64 (nC p l)):=by
 refine In 19 Tryz.func259 fun _ _ _=> ?_
 refine .fact (t:=0) rfl (fun S w v h=>bM h) fun hlen=> ?_
 refine iW ?_
 refine .aT (σ:=Nat) (fun _=>[]) (fun k=>[(8,ag .i64 (k:Int))]) (fun k=>k≤l.length∧cN p l k) (fun k=>l.length-k) 0 ⟨by omega,cN.zero p l⟩ rfl ?_ ?_
 · exact (.get rfl (af.refl _) (.refl _ _))
 rintro k ⟨hk,hnot⟩
 refine Z6 ?_
 refine Cd (fun c0=> ?_) fun c0=> ?_
 ·
  obtain ⟨x,hx⟩:=ah (xs:=l) (k:=k) (by omega)
  refine nZ ?_
  refine .p (cI _) rfl ?_
  refine Z1 ?_
  refine .p (cV x (h:=av x (List.mem_of_getElem? hx))) rfl ?_
  refine Z2 ?_
  refine Cd (fun c1=> ?_) fun c1=> ?_
  ·
   refine dM ?_
   refine bL ?_
   exact af.int (qu hx (by assumption) hnot).symm
  refine Z7 ?_
  refine .round (k+1) ⟨by omega,hnot.succ hx (by assumption)⟩ (by omega) rfl ?_
  exact (.get rfl (af.int (by omega)) (.keep 12 rfl rfl))
 refine cT ?_
 refine bL ?_
 exact af.int (nh (hnot.all (by omega))).symm
theorem Bf {p:aA→Prop} (av:∀x∈l,0≤x.A∧0≤x.B):cW Tryz.prog 241 [ai 5 aK l,o9 Tryz.prog (fun x:aA=>0≤x.A∧0≤x.B) (fun x=>[aC (aK x)]) (fun x=>aq (p x))] (aq (∃x∈l,p x)):=by
 refine In 9 Tryz.func241 fun _ _ _=> ?_
 refine Z9 ?_
 refine .p (cA (h:=Be (by first|assumption|omega))) rfl ?_
 refine Z5 ?_
 refine bL ?_
 exact af.prop je
theorem AN {b:kr} (av:RI b):cW Tryz.prog 227 [aC (iL b)] (aq ((∀x∈b.L,iJ x)∧(∀t∈b.aV,t=126∨t=127)∧b.aV.length≤50)):=by
 refine In 23 Tryz.func227 fun _ _ _=> ?_
 refine cK ?_
 refine .p (bQ (Bf (l:=b.L) (p:=fun x=>¬iJ x) (fun x hx=>⟨(av.ins x hx).A0,(av.ins x hx).B0⟩)) FB.out (.cons (.t rfl) (.cons (.le (.f _) (uJ FB.out (fun (x:aA) (h:0≤x.A∧0≤x.B)=>DF h.1 h.2))) .nil))) rfl ?_
 refine Z7 ?_
 refine .p (bQ (vj (l:=b.aV) (p:=fun t=>gE t=0)) FB.out (.cons (.t rfl) (.cons (.le (.f _) (uJ FB.out (fun (b:UInt8) (_:True)=>DG (t:=b)))) .nil))) rfl ?_
 refine Vf ?_
 refine bL ?_
 exact af.prop (by simp only [not_exists,not_and,Classical.not_not,qx,and_assoc];exact and_congr_right fun _=>and_congr_right fun _=>by omega)
theorem DH {b:kr} (av:RI b):cw Tryz.prog 210 [aC (iL b)] [] (γ:=Int) (fun e=>e=0↔oF b) (fun _=>[]) (fun e=>bD [jA,ag .i64 e]):=by
 refine In 71 Tryz.func210 fun _ _ _=> ?_
 refine cT ?_
 refine .p (cA (h:=AN av)) rfl ?_
 refine Z3 ?_
 refine Cd (fun c0=> ?_) fun c0=> ?_
 ·
  have hno:¬oF b:=fun h=>c0 ⟨h.1,h.2.1,h.2.2.1⟩
  refine Z8 ?_
  refine Post.bf rfl rfl (1) (by exact ⟨fun h=>by simp at h,fun h=>absurd h hno⟩) (fun _ _ _ h=>h) rfl (.cons (.rt rfl) ?_ (.cons (.rt rfl) ?_ .nil))
  · exact af.any
  exact af.refl _
 obtain ⟨Jq,htl,hlo⟩:=Classical.not_not.1 c0
 refine Z7 ?_
 refine .n (cE (h:=Gz (by have:=av.len;omega))) rfl fun g21 LV=> ?_
 refine nZ ?_
 refine Cd (fun c1=> ?_) fun c1=> ?_
 ·
  refine Z9 ?_
  refine Post.bf rfl rfl (g21) (by exact ⟨fun h=>absurd h c1,fun h=>LV.2 h.2.2.2.1⟩) (fun _ _ _ h=>h) rfl (.cons (.rt rfl) ?_ (.cons (.rt rfl) ?_ .nil))
  · exact af.any
  exact af.refl _
 have WU:=LV.1 (Classical.not_not.1 c1)
 obtain ⟨hrc,hrl⟩:=yM b.aV [] 0 (by simp)
 simp only [List.length_nil,Nat.zero_add] at hrc hrl
 have MF:fK (b.aV.foldl bz []).length≤10:=dF (by omega)
 refine Z6 ?_
 refine .p (cA (h:=Jp av.loc)) rfl ?_
 refine Z4 ?_
 refine .eu 1 aj ?_
 refine Z4 ?_
 refine .n (cE (h:=s8 (g:=none) (xs:=[]) (n:=(b.aV.foldl bz []).length) (by omega) (by simp))) rfl fun No Np=> ?_
 refine dM ?_
 refine .aT (σ:=Nat×SB×List UInt8) (fun z=>[au z.2.1 1 aj z.2.2]) (fun z=>[(8,aa (bq z.2.1 z.2.2.length)),(37,ag .i64 (z.1:Int))]) (fun z=>z.1≤(b.aV.foldl bz []).length∧z.2.2.length=fK (b.aV.foldl bz []).length+Aw ((b.aV.foldl bz []).take z.1)) (fun z=>(b.aV.foldl bz []).length-z.1) (0,No.1,No.2) ⟨Nat.zero_le _,by (show No.2.length=_;rw [Np];simp [Aw])⟩ rfl ?_ ?_
 · exact (.get rfl (af.refl _) (.get rfl (af.refl _) (.refl _ _)))
 rintro ⟨k,g1,ys⟩ ⟨hk,hys⟩
 simp only at hk hys ⊢
 have hsr:=Dr ((b.aV.foldl bz []).take k) (fun p hp=>by have:=hrc p (List.mem_of_mem_take hp);omega)
 rw [List.length_take] at hsr
 refine Z6 ?_
 refine Cd (fun c2=> ?_) fun c2=> ?_
 ·
  obtain ⟨r,hr⟩:=ah (xs:=(b.aV.foldl bz [])) (k:=k) (by omega)
  have hrn:=hrc r (List.mem_of_getElem? hr)
  have bv1:fK r.1≤10:=dF (by omega)
  refine Z6 ?_
  refine .p (cI k (h:=hr)) rfl ?_
  refine Z1 ?_
  refine .n (ax FZ.out) rfl fun b10 _=> ?_
  refine Z3 ?_
  refine .share (t:=10) (i:=0) rfl rfl ?_
  refine .bP [(0,0),(1,0),(2,0),(3,0),(5,0),(6,0),(7,0),(4,2)] 8 2 FM.out (by kernel_rfl) (k:= ?_)
  refine Z6 ?_
  refine .p rfl (fun _=>bF (enc:=aj) [r.2] FU.out FC.out rfl FZ.out rfl (.cons (.t rfl) .nil) rfl rfl rfl rfl rfl) ?_
  refine .e rfl (cE (h:=s8 (n:=r.1) (by omega) (by omega))) fun DY Vz=> ?_
  refine .fin ?_
  refine .n (aD (i:=0) FU.out FU.out FC.out rfl FZ.out rfl FY.out (.t rfl) (.t rfl) rfl (by simp only [List.length_cons,List.length_nil];omega) (by simp only [List.length_cons,List.length_nil];omega)) rfl fun Uc _=> ?_
  refine Z8 ?_
  refine .round (k+1,Uc,DY.2++[r.2]) ⟨by show k+1≤_;omega,by (show (DY.2++[r.2]).length=_;rw [List.length_append,Vz,hys,←bn hr,Mo];simp only [List.length_cons,List.length_nil];omega)⟩ (by show (b.aV.foldl bz []).length-(k+1)<(b.aV.foldl bz []).length-k;omega) rfl ?_
  exact (.get rfl (af.refl _) (.get rfl (af.int (by show (_:Int)=((k+1:Nat):Int);omega)) ((.keep 19 rfl rfl))))
 have hkr:(b.aV.foldl bz []).take k=(b.aV.foldl bz []):=List.take_of_length_le (by omega)
 rw [hkr] at hys
 refine nZ ?_
 refine .aT (σ:=Nat×SB×List UInt8) (fun z=>[au z.2.1 1 aj z.2.2]) (fun z=>[(8,aa (bq z.2.1 z.2.2.length)),(54,ag .i64 (z.1:Int))]) (fun z=>z.1≤b.L.length∧z.2.2.length=fK (b.aV.foldl bz []).length+Aw (b.aV.foldl bz [])+w8 (b.L.take z.1)) (fun z=>b.L.length-z.1) (0,g1,ys) ⟨Nat.zero_le _,by (show ys.length=_;rw [hys];simp [w8])⟩ rfl ?_ ?_
 · exact (.get rfl (af.refl _) (.get rfl (af.refl _) (.refl _ _)))
 rintro ⟨i,g2,ws⟩ ⟨hi,hzs⟩
 simp only at hi hzs ⊢
 have hsi:=Dq (b.L.take i) (fun x hx=>⟨.of (av.ins x (List.mem_of_mem_take hx)) (Jq x (List.mem_of_mem_take hx)),Jq x (List.mem_of_mem_take hx)⟩)
 rw [List.length_take] at hsi
 have bv2:=Dr (b.aV.foldl bz []) (fun p hp=>by have:=hrc p hp;omega)
 have xz:=av.len
 refine Z6 ?_
 refine Cd (fun c3=> ?_) fun c3=> ?_
 ·
  obtain ⟨x,hx⟩:=ah (xs:=b.L) (k:=i) (by omega)
  have hxl:=Dp (.of (av.ins x (List.mem_of_getElem? hx)) (Jq x (List.mem_of_getElem? hx))) (Jq x (List.mem_of_getElem? hx))
  refine Z6 ?_
  refine .p (cI i (h:=hx)) rfl ?_
  refine Z1 ?_
  refine .n (ax FZ.out) rfl fun Rl _=> ?_
  refine Z3 ?_
  refine .share (t:=12) (i:=0) rfl rfl ?_
  refine Z3 ?_
  refine .n (cE (h:=DE (.of (av.ins x (List.mem_of_getElem? hx)) (Jq x (List.mem_of_getElem? hx))) (Jq x (List.mem_of_getElem? hx)))) rfl fun Tc W9=> ?_
  refine cK ?_
  refine .n (aD (i:=0) (xs:=ws) (ys:=Tc) FU.out FU.out FC.out rfl FZ.out rfl FY.out (.t rfl) (.t rfl) rfl (by omega) (by omega)) rfl fun g65 _=> ?_
  refine Z8 ?_
  refine .round (i+1,g65,ws++Tc) ⟨by show i+1≤_;omega,by (show (ws++Tc).length=_;rw [List.length_append,W9,hzs,←bn hx,B8];omega)⟩ (by show b.L.length-(i+1)<b.L.length-i;omega) rfl ?_
  exact (.get rfl (af.refl _) (.get rfl (af.int (by show (_:Int)=((i+1:Nat):Int);omega)) ((.keep 20 rfl rfl))))
 have oQ:b.L.take i=b.L:=List.take_of_length_le (by omega)
 rw [oQ] at hzs
 have htot:ws.length=Ma b:=by rw [hzs,RH]
 refine Z9 ?_
 refine .p (J1 (xs:=ws) (i:=0) rfl Tryz.underlying59 (.t rfl) rfl rfl) rfl ?_
 refine Z3 ?_
 refine Cd (fun c4=> ?_) fun c4=> ?_
 ·
  refine Z8 ?_
  refine Post.bf rfl rfl (15) (by exact ⟨fun h=>by simp at h,fun h=>by have:=h.2.2.2.2;omega⟩) (aB.dD [] [0] rfl rfl) rfl (.cons (.rt rfl) ?_ (.cons (.rt rfl) ?_ .nil))
  · exact af.any
  exact af.refl _
 refine cK ?_
 refine Post.bf rfl rfl (0) (by exact ⟨fun _=>⟨Jq,htl,hlo,WU,by omega⟩,fun _=>rfl⟩) (aB.dD [] [0] rfl rfl) rfl (.cons (.rt rfl) ?_ (.cons (.rt rfl) ?_ .nil))
 · exact af.any
 exact af.refl _
end Go.Proofs.YtpfobikpggmleaaGreatDoor
end
section
namespace Go.Proofs.YtpfobikpggmleaaGreatDoor
open Go.Hl
theorem KI {m:aR}:(ud m).2=0↔dK m:=by
 rw [OT]
 constructor
 · intro h
   simp only [mJ,List.mem_cons,List.not_mem_nil,or_false] at h
   exact ⟨h _ (.inl rfl),h _ (.inr (.inl rfl)),h _ (.inr (.inr (.inl rfl))),h _ (.inr (.inr (.inr (.inl rfl)))),h _ (.inr (.inr (.inr (.inr (.inl rfl))))),h _ (.inr (.inr (.inr (.inr (.inr (.inl rfl)))))),h _ (.inr (.inr (.inr (.inr (.inr (.inr (.inl rfl))))))),h _ (.inr (.inr (.inr (.inr (.inr (.inr (.inr (.inl rfl)))))))),h _ (.inr (.inr (.inr (.inr (.inr (.inr (.inr (.inr (.inl rfl))))))))),h _ (.inr (.inr (.inr (.inr (.inr (.inr (.inr (.inr (.inr rfl)))))))))⟩
 · intro h p hp
   simp only [mJ,List.mem_cons,List.not_mem_nil,or_false] at hp
   rcases hp with rfl|rfl|rfl|rfl|rfl|rfl|rfl|rfl|rfl|rfl
   · exact h.sigs
   · exact h.imports
   · exact h.funcs
   · exact h.table
   · exact h.dR
   · exact h.globals
   · exact h.aY
   · exact h.start
   · exact h.elems
   · exact h.bU
theorem x8 {m:aR} (h:dK m):(ud m).2=0:=KI.2 h
end Go.Proofs.YtpfobikpggmleaaGreatDoor
end
section
namespace Go.Proofs.YtpfobikpggmleaaGreatDoor
open Go.Hl Go.RowKit
variable {m:aR} {i:Nat} {f:cU}
theorem DI (av:dK m) (hp1:mA m) (hp2:m.ay[i]?=some f):cW Tryz.prog 209 [cr (br m),ag .i64 ((i:Int))] (bD [ai 1 aj ((cC m f).aV),aq True]):=by
 refine In 49 Tryz.func209 fun _ _ _=> ?_
 have Cz:f∈m.ay:=List.mem_of_getElem? hp2
 have oQ:=(List.getElem?_eq_some_iff.1 hp2).1
 have hlens:=av.lens
 have hcn:(m.aH.length:Int)+(m.ay.length:Int)≤100:=hlens.2.2.2.2
 have G6:=(kE (nU av Cz)).2
 have hP:=(av.tu _ G6).1
 have hlo:=hp1.loc f Cz
 refine Z26 ?_
 refine Cd (fun c0=> ?_) fun c0=> ?_
 · exfalso;rcases c0 with (h|h)|h;exact h;omega;omega
 refine dM ?_
 refine .p ((cA (h:=sV (m:=m) (f:=(m.aH.length:Int)+(i:Int)))).le (af.of_eq (show bD [aC (cu ((iU m ((m.aH.length:Int)+(i:Int))).getD ⟨[],[]⟩)),aq (iU m ((m.aH.length:Int)+(i:Int))).isSome]=bD [aC (cu (cv m f.iA)),aq ((some (cv m f.iA)).isSome=true)] by rw [B9 av hp2];rfl))) rfl ?_
 refine Z3 ?_
 refine .n (ax FZ.out) rfl fun b6 _=> ?_
 refine Z4 ?_
 refine .share (t:=6) (i:=0) rfl rfl ?_
 refine Z1 ?_
 refine .bx 15 1 FM.out (by kernel_rfl) (k:= ?_)
 refine Z7 ?_
 refine .p (cI i (h:=hp2)) ?_
 refine Z3 ?_
 refine .p (cB dP [(cv m f.iA).P,f.Body.aV]) ?_
 refine .p (cA (h:=Dx (ls:=[(cv m f.iA).P,f.Body.aV]) (by simp;omega))) ?_
 refine Z7 ?_
 refine j9 ?_ ?_
 · exact af.of_eq (by simp [cC])
 exact af.prop (by simp)
theorem MK (av:dK m) (hp1:mA m) (hp2:m.ay[i]?=some f):cw Tryz.prog 156 [cr (br m),ag .i64 ((i:Int))] [] (γ:=Int×Int×List Nat×SB) (fun g=>(g.2.1=0∧oF f.Body∧jk m f=some g.2.2.1)∨(g.2.1≠0∧¬qG m f∧g.2.2.1=[])) (fun g=>[au g.2.2.2 1 iS g.2.2.1]) (fun g=>bD [aa (bq g.2.2.2 g.2.2.1.length),ag .i64 g.1,ag .i64 g.2.1]):=by
 refine In 99 Tryz.func156 fun _ _ _=> ?_
 have Cz:f∈m.ay:=List.mem_of_getElem? hp2
 have oQ:=(List.getElem?_eq_some_iff.1 hp2).1
 have hlens:=av.lens
 have hcn:(m.aH.length:Int)+(m.ay.length:Int)≤100:=hlens.2.2.2.2
 have G6:=(kE (nU av Cz)).2
 have Kl:=hp1.len f Cz
 have hfit:(ud m).2=0:=x8 av
 refine cT ?_
 refine .p (cA (h:=Ff (m:=m))) rfl ?_
 refine Z2 ?_
 refine .p ((lC (.t rfl) rfl).le (af.int hfit)) rfl ?_
 refine cK ?_
 refine Cd (fun c0=> ?_) fun c0=> ?_
 · exact absurd rfl c0
 refine Z6 ?_
 refine .p (cA (h:=DI av hp1 hp2)) rfl ?_
 refine iW ?_
 refine Cd (fun c1=> ?_) fun c1=> ?_
 · exact absurd trivial c1
 refine Z9 ?_
 refine .p (cI i (h:=hp2)) rfl ?_
 refine Z2 ?_
 refine .n (ax FZ.out) rfl fun Vn _=> ?_
 refine Z3 ?_
 refine .share (t:=11) (i:=0) rfl rfl ?_
 refine Z4 ?_
 refine .n (cE (h:=DH (hp1.bd Cz))) rfl fun W1 h46=> ?_
 refine lg ?_
 refine Cd (fun c2=> ?_) fun c2=> ?_
 ·
  have hno:¬qG m f:=fun h=>c2 (h46.2 h.1)
  refine cK ?_
  refine Post.bf rfl rfl ((0,W1,[],none)) (by exact .inr ⟨c2,hno,rfl⟩) (fun F S w h=>⟨fun _=>False,F,fun _ h=>h.elim,fun _ h=>h,rfl,trivial⟩) rfl (.cons (.rt rfl) ?_ (.cons (.rt rfl) ?_ (.cons (.rt rfl) ?_ .nil)))
  · exact af.of_eq rfl
  · exact af.refl _
  exact af.refl _
 have pn:=h46.1 (Classical.not_not.1 c2)
 have K0:Ah m f:=⟨av,by (show ((cv m f.iA).P++f.Body.aV).length≤60000;rw [List.length_append];have h1:=(av.tu _ G6).1;have h2:=pn.2.2.1;omega),G6⟩
 refine dM ?_
 refine .p ((cA (h:=sV (m:=m) (f:=(m.aH.length:Int)+(i:Int)))).le (af.of_eq (show bD [aC (cu ((iU m ((m.aH.length:Int)+(i:Int))).getD ⟨[],[]⟩)),aq (iU m ((m.aH.length:Int)+(i:Int))).isSome]=bD [aC (cu (cv m f.iA)),aq ((some (cv m f.iA)).isSome=true)] by rw [B9 av hp2];rfl))) rfl ?_
 refine Z3 ?_
 refine .n (ax FZ.out) rfl fun b14 _=> ?_
 refine Z4 ?_
 refine .share (t:=14) (i:=0) rfl rfl ?_
 refine Z8 ?_
 refine .p ((aL FP.out FZ.out (.cons (.t rfl) .nil) rfl).le ((show af _ (aC (kX (mq 0 ⟨False,False,(cv m f.iA).R,([],False)⟩ ([],False)))) from af.agg (.cons wY (.cons wY (.cons (.refl _) (.cons (.refl _) (.cons wY .nil)))))))) rfl ?_
 refine .n (cq kX [mq 0 ⟨False,False,(cv m f.iA).R,([],False)⟩ ([],False)] FU.out FC.out rfl FZ.out rfl (.cons (.t rfl) .nil) rfl rfl rfl rfl rfl) rfl fun g71 _=> ?_
 refine .p (bl.le (aL FP.out FZ.out (.cons (.t rfl) (.cons (.t rfl) .nil)) rfl) (af.refl (aC [cr (br m),ai 1 aj (cC m f).aV,ai 1 aj (cv m f.iA).P,ai 1 aj (cv m f.iA).R,aa (bq none 0),aa (bq g71 1)]))) rfl ?_
 refine .n (bT (.t rfl)) rfl fun b73 _=> ?_
 refine Z4 ?_
 refine .eu 1 aj ?_
 refine .eu 1 iS ?_
 refine iW ?_
 refine .own (aB.perm (Perm.idx [0,2,1,3] rfl rfl)) ?_
 refine .aT (σ:=Nat×SB×List Nat×S5) (fun g=>au g.2.1 1 iS g.2.2.1::ckZ b73 m f g.2.2.2) (fun g=>[(17,aa (bq g.2.1 g.2.2.1.length)),(77,ag .i64 (g.1:Int))]) (fun g=>g.1≤f.Body.L.length∧g.2.2.1.length≤g.1∧∃fs,Mc fs g.2.2.2.2.2.1 g.2.2.2.2.2.2∧yo m f g.1 g.2.2.1 fs) (fun g=>f.Body.L.length-g.1) (0,none,[],(none,g71,[],[mq 0 ⟨False,False,(cv m f.iA).R,([],False)⟩ ([],False)])) ⟨Nat.zero_le _,Nat.le_refl _,_,⟨rfl,fun _=>rfl⟩,yo.init av G6 pn.2.2.2.1⟩ rfl ?_ ?_
 · exact (.get rfl (af.of_eq rfl) (.get rfl (af.refl _) (.refl _ _)))
 rintro ⟨j,gh,hts,z⟩ ⟨hj,hhl,fs,hz,hR⟩
 simp only at hj hhl hz hR ⊢
 refine Z6 ?_
 refine Cd (fun c3=> ?_) fun c3=> ?_
 ·
  obtain ⟨x,hx⟩:=ah (xs:=f.Body.L) (k:=j) (by omega)
  obtain ⟨fs,b,hfb⟩:=Pf (yN hx▸hR.nest)
  subst hfb
  obtain ⟨zs,zb,zst,zB⟩:=z
  obtain ⟨hB,hst⟩:=hz
  simp only at hB hst
  have hst:=hst (by simp)
  rw [lU] at hB
  rw [iE] at hst
  subst hB
  subst hst
  refine .iy 3 rfl (by simp) fun bb bc hg=> ?_
  simp only at hg
  subst hg
  refine Z7 ?_
  refine .p (cI j (h:=hx)) rfl ?_
  refine Z1 ?_
  refine .n (ax FZ.out) rfl fun b19 _=> ?_
  refine Z4 ?_
  refine .share (t:=19) (i:=0) rfl rfl ?_
  refine Z8 ?_
  refine .p (cB iS [(de fs++b.st.1).length]) rfl ?_
  refine .n (aD (i:=0) FU.out FU.out FC.out rfl FZ.out rfl FY.out (.t rfl) (.t rfl) rfl (by simp only [List.length_cons,List.length_nil];omega) (by simp only [List.length_cons,List.length_nil];omega)) rfl fun g89 _=> ?_
  refine Z7 ?_
  refine .n (kZ [_] [1,2,3,0] (h:=Jj (x:=x) (by rw [←iE,Ad];have:=hR.hgt;omega) K0 (.of (hp1.ins f Cz x (List.mem_of_getElem? hx)) (pn.1 x (List.mem_of_getElem? hx))) (by have:=hR.len;simp at this;omega) hR.tu (pn.1 x (List.mem_of_getElem? hx)).1)) rfl fun Td Ut=> ?_
  refine Z9 ?_
  refine Cd (fun c4=> ?_) fun c4=> ?_
  ·
   refine nZ ?_
   refine Post.bf rfl rfl (((j:Int),Td.2,[],none)) (by exact .inr ⟨c4,fun h=>by (obtain ⟨hs,hh⟩:=h.2;obtain ⟨oz,e92⟩:=Td;cases oz with|some z2=>exact c4 Ut.1|none=>(have h8:=hR.WX hx Ut.2;rw [hh] at h8;cases h8)),rfl⟩) (fun F S w h=>⟨fun _=>False,F,fun _ h=>h.elim,fun _ h=>h,rfl,trivial⟩) rfl (.cons (.rt rfl) ?_ (.cons (.rt rfl) ?_ (.cons (.rt rfl) ?_ .nil)))
   · exact af.of_eq rfl
   · exact af.refl _
   exact af.refl _
  obtain ⟨oz,e92⟩:=Td
  obtain rfl|⟨z2,rfl⟩:oz=none∨∃z2,oz=some z2:=by cases oz with|none=>exact .inl rfl|some z2=>exact .inr ⟨z2,rfl⟩
  exact absurd Ut.1 c4
  obtain ⟨h92a,fs2,hs2,v7⟩:=Ut
  have hRn:=hR.next av hx hs2
  simp only [PD]
  refine Z7 ?_
  refine .own (aB.perm (Perm.idx [3,0,1,2] rfl rfl)) (bK.round (j+1,g89,hts++[(de fs++b.st.1).length],z2) ⟨by show j+1≤_;omega,by (show (hts++[_]).length≤j+1;rw [List.length_append];simp only [List.length_cons,List.length_nil];omega),fs2,v7,by (show yo m f (j+1) (hts++[(de fs++b.st.1).length]) fs2;rw [←iE,Ad];exact hRn)⟩ (by show f.Body.L.length-(j+1)<f.Body.L.length-j;omega) rfl ?_)
  exact (.get rfl (af.refl _) (.get rfl (af.int (by show (_:Int)=((j+1:Nat):Int);omega)) ((.keep 26 rfl rfl))))
 have hdone:=hR.done (by omega)
 refine iW ?_
 refine Post.bf rfl rfl ((0,0,hts,gh)) (by exact .inl ⟨rfl,pn,hdone⟩) (aB.dD [0] [1,2,3] rfl rfl) rfl (.cons (.rt rfl) ?_ (.cons (.rt rfl) ?_ (.cons (.rt rfl) ?_ .nil)))
 · exact af.refl _
 · exact af.refl _
 exact af.refl _
theorem Jr (av:dK m) (hp1:mA m) (hp2:m.ay[i]?=some f):cw Tryz.prog 130 [cr (br m),ag .i64 ((i:Int))] [] (γ:=Int×Int) (fun g=>g.2=0↔qG m f) (fun _=>[]) (fun g=>bD [ag .i64 g.1,ag .i64 g.2]):=by
 refine In 18 Tryz.func130 fun _ _ _=> ?_
 refine cK ?_
 refine .n (cE (h:=MK av hp1 hp2)) rfl fun g12 h12=> ?_
 refine AU ?_
 refine Post.bf rfl rfl ((g12.1,g12.2.1)) (by exact (by rcases h12 with ⟨h1,h2,h3⟩|⟨h1,h2,h3⟩;exact ⟨fun _=>⟨h2,_,h3⟩,fun _=>h1⟩;exact ⟨fun h=>absurd h h1,fun h=>absurd h h2⟩)) (aB.dD [] [0] rfl rfl) rfl (.cons (.rt rfl) ?_ (.cons (.rt rfl) ?_ .nil))
 · exact af.refl _
 exact af.refl _
theorem ML (av:mA m) (hp1:m.ay.length≤60000):cw Tryz.prog 109 [cr (br m)] [] (γ:=List (List UInt8×Int×Int×Int)) (fun l=>l=[]↔lS m) (fun _=>[]) (fun l=>ai 4 qL l):=by
 refine In 45 Tryz.func109 fun _ _ _=> ?_
 refine Z9 ?_
 refine .p (cA (h:=Ff (m:=m))) rfl ?_
 refine lg ?_
 refine Cd (fun c0=> ?_) fun c0=> ?_
 ·
  have hnv:¬lS m:=fun h=>c0 (x8 h.1)
  refine Z5 ?_
  refine .p (cB qL [((ud m).1,-1,0,(ud m).2)]) rfl ?_
  refine Z5 ?_
  refine Post.aP rfl ([((ud m).1,-1,0,(ud m).2)]) (by exact ⟨fun h=>absurd h (by simp),fun h=>absurd h hnv⟩) (fun _ _ _ h=>h) (.rt rfl) ?_
  exact af.refl _
 have hfits:dK m:=KI.1 (Classical.not_not.1 c0)
 refine Z9 ?_
 refine .eu 4 qL ?_
 refine cK ?_
 refine .aT (σ:=Nat×SB×List (List UInt8×Int×Int×Int)) (fun g=>[au g.2.1 4 qL g.2.2]) (fun g=>[(5,aa (bq g.2.1 g.2.2.length)),(25,ag .i64 (g.1:Int))]) (fun g=>g.1≤m.ay.length∧g.2.2.length≤g.1∧(g.2.2=[]↔∀f∈m.ay.take g.1,qG m f)) (fun g=>m.ay.length-g.1) (0,none,[]) ⟨Nat.zero_le _,Nat.le_refl _,by simp⟩ rfl ?_ ?_
 · exact (.get rfl (af.of_eq rfl) (.get rfl (af.refl _) (.refl _ _)))
 rintro ⟨j,gl,l⟩ ⟨hj,Kl,hv⟩
 simp only at hj Kl hv ⊢
 refine Z6 ?_
 refine Cd (fun c1=> ?_) fun c1=> ?_
 ·
  obtain ⟨f,hf⟩:=ah (xs:=m.ay) (k:=j) (by omega)
  refine iW ?_
  refine .n (cE (h:=Jr hfits av hf)) rfl fun My Ur=> ?_
  refine lg ?_
  refine Cd (fun c2=> ?_) fun c2=> ?_
  ·
   refine Z5 ?_
   refine .p (aL FP.out FZ.out (.cons (.s [102,117,110,99] rfl rfl) (.cons (.t rfl) (.cons (.t rfl) (.cons (.t rfl) .nil)))) rfl) rfl ?_
   refine .p (cB qL [([102,117,110,99],(j:Int),My.1,My.2)]) rfl ?_
   refine .n (aD (i:=0) FU.out FU.out FC.out rfl FZ.out rfl FY.out (.t rfl) (.t rfl) rfl (by simp only [List.length_cons,List.length_nil];omega) (by simp only [List.length_cons,List.length_nil];omega)) rfl fun Ud _=> ?_
   refine Z8 ?_
   refine .round (j+1,Ud,l++[([102,117,110,99],(j:Int),My.1,My.2)]) ⟨by show j+1≤_;omega,by (show (l++[_]).length≤j+1;rw [List.length_append];simp only [List.length_cons,List.length_nil];omega),⟨fun h=>absurd h (by simp),fun h=>absurd (Ur.2 (h f (by rw [←bn hf];simp))) c2⟩⟩ (by show m.ay.length-(j+1)<m.ay.length-j;omega) rfl ?_
   exact (.get rfl (af.refl _) (.get rfl (af.int (by show (_:Int)=((j+1:Nat):Int);omega)) ((.keep 25 rfl rfl))))
  refine Z7 ?_
  refine .round (j+1,gl,l) ⟨by show j+1≤_;omega,by (show l.length≤j+1;omega),by (show l=[]↔_;rw [hv,←bn hf];have h9:=Ur.1 (Classical.not_not.1 c2);constructor;intro h g hg;rcases List.mem_append.1 hg with hg|hg;exact h g hg;(simp only [List.mem_singleton] at hg;subst hg;exact h9);intro h g hg;exact h g (List.mem_append_left _ hg))⟩ (by show m.ay.length-(j+1)<m.ay.length-j;omega) rfl ?_
  exact (.get rfl (af.refl _) (.get rfl (af.int (by show (_:Int)=((j+1:Nat):Int);omega)) ((.keep 17 rfl rfl))))
 have hall:m.ay.take j=m.ay:=List.take_of_length_le (by omega)
 rw [hall] at hv
 refine .er (t:=5) (i:=0) (g:=gl) (xs:=l) rfl rfl ?_
 refine dM ?_
 refine Post.aP rfl (l) (by exact ⟨fun h=>⟨hfits,hv.1 h⟩,fun h=>hv.2 h.2⟩) (fun _ _ _ h=>h) (.rt rfl) ?_
 exact af.refl _
theorem GA (av:mA m) (hp1:m.ay.length≤60000):cw Tryz.prog 78 [cr (br m)] [] (γ:=List UInt8×Int×Int×Int) (fun _=>True) (fun _=>[]) (fun y=>bD [aC (qL y),aq (¬lS m)]):=by
 refine In 14 Tryz.func78 fun _ _ _=> ?_
 refine Z2 ?_
 refine .n (ax FZ.out) rfl fun b2 _=> ?_
 refine Z6 ?_
 refine .n (cE (h:=ML av hp1)) rfl fun g6 h6=> ?_
 refine cT ?_
 refine Cd (fun c0=> ?_) fun c0=> ?_
 ·
  have hv:lS m:=h6.1 (List.eq_nil_of_length_eq_zero (by omega))
  refine Z9 ?_
  refine Post.bf rfl rfl (([],0,0,0)) (by trivial) (aB.dD [] [0] rfl rfl) rfl (.cons (.ra (i:=0) FA.out FC.out rfl rfl rfl rfl) ?_ (.cons (.rt rfl) ?_ .nil))
  · exact af.agg (.cons rE (.cons (af.refl _) (.cons (af.refl _) (.cons (af.refl _) .nil))))
  exact af.prop ⟨fun h=>h.elim,fun h=>absurd hv h⟩
 have hne:g6≠[]:=fun e=>c0 (by rw [e];rfl)
 have hv:¬lS m:=fun h=>hne (h6.2 h)
 obtain ⟨y,hy⟩:=ah (xs:=g6) (k:=0) (List.length_pos_iff.2 hne)
 refine Z5 ?_
 refine .p (cI 0 (h:=hy)) rfl ?_
 refine Z6 ?_
 refine Post.bf rfl rfl (y) (by trivial) (aB.dD [] [0] rfl rfl) rfl (.cons (.ra (i:=0) FA.out FC.out rfl rfl rfl rfl) ?_ (.cons (.rt rfl) ?_ .nil))
 · exact af.refl _
 exact af.prop ⟨fun _=>hv,fun _=>trivial⟩
theorem PE (av:mA m) (hp1:m.ay.length≤60000):cw Tryz.prog 35 [cr (br m)] [] (γ:=Unit) (fun _=>True) (fun _=>[]) (fun _=>aq (lS m)):=by
 refine In 12 Tryz.func35 fun _ _ _=> ?_
 refine Z8 ?_
 refine .n (cE (h:=GA av hp1)) rfl fun g7 h7=> ?_
 refine Z3 ?_
 refine .n (ax FZ.out) rfl fun b3 _=> ?_
 refine Z4 ?_
 refine .share (t:=3) (i:=0) rfl rfl ?_
 refine Z8 ?_
 refine bL ?_
 exact af.prop Classical.not_not
variable {X:oT} {a:dX} {num:Int}
theorem sE {pg:tq} {mm:Nat} {Co:Cont} (av:dm X a) (hp1:nK m) (hp2:mA m) (fI:m.ay.length≤60000) (oe:lS m) (yE:a.height+(fH m+oE m)≤X.size) (Ql:0≤num) (Rm:num≤1073741824) (Xl:mm+yB m m.aZ.length≤4096):cw Tryz.prog 11 [cr (br m),aI X.ab 0,aI pg.pb 0,ag .i64 num] (ez X a++[ek pg 64 4096 (fun _=>True) (Co) (mm) wB]) (γ:=Nat×List Nat×Nat×Nat×Int) (fun r=>r.2.1.length=m.bp.length∧od m r.2.2) (fun r=>fZ pg.pb r.2.1 (yj m num m.bp.length)::nJ r.1 X pg.pb m num (a.height:Int) ((a.height+fH m:Nat):Int) (ai 1 fz r.2.1)::ez X (jo m a r.2.2.1)++[ek pg 64 4096 (fun _=>True) (pQ m num Co r.2.2.2.1) (mm+yB m m.aZ.length) wB]) (fun r=>bD [aI r.1 0,ag .i64 r.2.2.2.2,ag .i64 0]):=by
 refine In 58 Tryz.func11 fun _ _ _=> ?_
 have EO:=hp1.r1;have D2:=hp1.r2;have hkh:=av.hi;have hkm:=av.most
 have hRo:dm X (mI a m):=r8 (r8 av (by omega)) (by simp only;omega)
 have hGo:=r9 (m:=m) (g:=a.height) hRo m.an.length (by omega)
 refine dM ?_
 refine .p (cO FU.out (.t rfl)) rfl ?_
 refine Z2 ?_
 refine .g (cm.gF rfl rfl rfl rfl (fun hg=>cO FU.out (.when (.t rfl) hg))) rfl rfl ?_
 refine Z4 ?_
 refine Cd (fun c0=> ?_) fun c0=> ?_
 · exact (c0.elim id id).elim
 refine Z3 ?_
 refine .n (cE (h:=PE hp2 fI)) rfl fun g24 Kj=> ?_
 refine Z4 ?_
 refine Cd (fun c1=> ?_) fun c1=> ?_
 · exact absurd oe c1
 refine cT ?_
 refine Cd (fun c2=> ?_) fun c2=> ?_
 · exfalso;omega
 refine Z9 ?_
 refine .p ((aL FP.out FZ.out (.cons (.t rfl) (.cons (.t rfl) (.cons (.t rfl) (.cons (.t rfl) .nil)))) rfl).le ((by exact show af _ (aC [cr (br m),aI X.ab 0,aI pg.pb 0,ag .i64 num,ag .i64 0,ag .i64 0,aa (.slice none 0 0),aq False]) from af.agg (.cons (.refl _) (.cons (.refl _) (.cons (.refl _) (.cons (.refl _) (.cons (.refl _) (.cons (.refl _) (.cons (.refl _) (.cons lH .nil))))))))))) rfl ?_
 refine .n (bT (.t rfl)) rfl fun b38 _=> ?_
 refine Z7 ?_
 refine .n (cE (h:=Gk av hp1 yE)) rfl fun xe VD=> ?_
 refine Z9 ?_
 refine Cd (fun c3=> ?_) fun c3=> ?_
 · exact absurd rfl c3
 refine Z5 ?_
 refine .n (cE (h:=I4 (a:=mI a m) (g:=a.height) hRo hp1 (by omega) Ql Rm)) rfl fun DY Vz=> ?_
 refine Z2 ?_
 refine .eR (i:=1) (j:=1) (f:=6) rfl rfl rfl ?_
 refine Z3 ?_
 refine .n (kZ [_,_] [0,1,2,3,6,4,5] (h:=I6 (a:=HZ m a.height (mI a m) m.an.length) (t0:=a.height+fH m) (mm:=mm) (Co:=Co) hGo hp1 (by omega) Vz Ql Xl)) rfl fun Mw h48=> ?_
 refine iW ?_
 refine Cd (fun c4=> ?_) fun c4=> ?_
 · exact absurd rfl c4
 refine dM ?_
 refine Post.bf rfl rfl ((b38,DY.2,Mw)) (by exact ⟨Vz,h48⟩) (aB.trans (aB.perm (Perm.idx [0,1,2,3,5,6,4] rfl rfl)) (aB.cons _ (aB.cons _ (LM (X:=X) (a:=jo m a Mw.1) (yO av hp1 yE Mw.1).2.taken)))) rfl (.cons (.rt rfl) ?_ (.cons (.rt rfl) ?_ (.cons (.rt rfl) ?_ .nil)))
 · exact .z
 · exact .z
 exact .z
variable {sb:Nat}
theorem vI {pb:Nat} {t:Int} {g:Nat} {mv:VP} (av:i<m.an.length) (hp1:dm X a) (hp2:g+8*(i+1)≤X.size) (fI:m.an.length≤60000):cw Tryz.prog 32 [aI sb 0,ag .i64 (i:Int)] (nJ sb X pb m num (g:Int) t mv::ru X a) (γ:=Unit) (fun _=>True) (fun _=>nJ sb X pb m num (g:Int) t mv::ru X a) (fun _=>bD [ag .u64 (rq ((a.bytes.drop (g+8*i)).take 8):Int),ag .i64 0]):=by
 refine In 29 Tryz.func32 fun _ _ _=> ?_
 have hmo:=hp1.most
 refine dM ?_
 refine .p (CW (.t rfl)) rfl ?_
 refine .n ((cE (h:=zX (sb:=sb) (X:=X) (pb:=pb) (m:=m) (num:=num) (g:=(g:Int)) (t:=t) (mv:=mv) (i:=(i:Int)) (by omega) (by omega))).same (fun _ _=>aB.refl _) (fun _ _=>af.refl _)) rfl fun _ _=> ?_
 refine Z9 ?_
 refine Cd (fun c0=> ?_) fun c0=> ?_
 · exact absurd rfl c0
 refine Z3 ?_
 refine .bP [(0,0),(1,0),(2,0),(3,1),(4,0),(5,0),(6,0),(7,1),(8,0),(9,0),(10,0),(11,4),(12,0),(13,0)] 14 2 FM.out (by kernel_rfl) (k:= ?_)
 refine cK ?_
 refine .p rfl (fun _=>(ep (.t rfl) (.t rfl) dL).le (af.int (show _=((g+8*i:Nat):Int) by omega))) ?_
 refine .a rfl ((kZ [_] [1,2,0] (h:=BV (at_:=g+8*i) (w:=8) hp1 (by omega) (.inl rfl))).same (fun _ _=>aB.perm (Perm.idx [2,0,1] rfl rfl)) (fun _ _=>af.refl _)) (fun _ _=>aB.refl _) fun _ _=> ?_
 refine Z2 ?_
 refine .fin ?_
 refine Z5 ?_
 refine j9 ?_ ?_
 · exact .z
 exact .z
theorem x9 {pg:tq} {g0 t0 mm nn:Nat} {bs:List Nat} {ms:List u9} {Co:Cont} {s:Vu} (av:dm X a) (hp1:m.an.length≤60000) (hp2:eC m≤1000) (fI:g0+8*m.an.length≤X.size) (oe:t0+4*eC m≤X.size) (yE:s.gl.length=m.an.length) (Ql:s.tb.length=eC m) (Rm:A9 a g0 t0 s) (Xl:Ga ms s.ms Co nn) (hp9:bs.length=ms.length) (am6:ms.length≤60000) (bv3:nn≤5000):cw Tryz.prog 26 [aI sb 0,aC (pW s)] (fZ pg.pb bs ms::nJ sb X pg.pb m num (g0:Int) (t0:Int) (ai 1 fz bs)::ru X a++[ek pg 64 4096 (fun _=>True) Co mm wB]) (γ:=Unit) (fun _=>True) (fun _=>(fZ pg.pb bs ms::nJ sb X pg.pb m num (g0:Int) (t0:Int) (ai 1 fz bs)::ru X a++[ek pg 64 4096 (fun _=>True) Co mm wB])) (fun _=>ag .i64 0):=by
 refine In 189 Tryz.func26 fun _ _ _=> ?_
 have Cp:=Xl.len
 refine AU ?_
 refine .aT (σ:=Nat) (fun _=>(fZ pg.pb bs ms::nJ sb X pg.pb m num (g0:Int) (t0:Int) (ai 1 fz bs)::ru X a++[ek pg 64 4096 (fun _=>True) Co mm wB])) (fun i=>[(6,ag .i64 (i:Int)),(5,ag .i64 0)]) (fun i=>i≤s.gl.length) (fun i=>s.gl.length-i) 0 (Nat.zero_le _) rfl ?_ ?_
 · exact (.get rfl (af.refl _) (.get rfl (af.refl _) (.refl _ _)))
 rintro i hi
 refine cK ?_
 refine Cd (fun c0=> ?_) fun c0=> ?_
 ·
  obtain ⟨v,hv⟩:=ah (xs:=s.gl) (k:=i) (by omega)
  have hgv:=Rm.gl i v hv
  unfold dX.get at hgv
  refine Z8 ?_
  refine .n ((kZ [_,_] [1,2,3,0,4] (h:=vI (a:=a) (m:=m) (g:=g0) (i:=i) (by omega) av (by omega) hp1)).same (fun _ _=>aB.perm (Perm.idx [3,0,1,2,4] rfl rfl)) (fun _ _=>af.refl _)) rfl fun _ _=> ?_
  refine lg ?_
  refine .p (cI i (h:=hv)) rfl ?_
  refine Z8 ?_
  refine Cd (fun c1=> ?_) fun c1=> ?_
  · exfalso;omega
  refine Z8 ?_
  refine .round (i+1) (by omega) (by omega) rfl ?_
  exact (.get rfl (af.int (by (show (i:Int)+1=((i+1:Nat):Int);omega))) (.get rfl (af.refl _) ((.keep 29 rfl rfl))))
 have hie:i=s.gl.length:=by omega
 subst hie
 refine dM ?_
 refine .aT (σ:=Nat) (fun _=>(fZ pg.pb bs ms::nJ sb X pg.pb m num (g0:Int) (t0:Int) (ai 1 fz bs)::ru X a++[ek pg 64 4096 (fun _=>True) Co mm wB])) (fun i=>[(9,ag .i64 (i:Int)),(5,ag .i64 0)]) (fun i=>i≤s.tb.length) (fun i=>s.tb.length-i) 0 (Nat.zero_le _) rfl ?_ ?_
 · exact (.get rfl (af.refl _) (.get rfl (af.refl _) (.refl _ _)))
 rintro i hi
 refine cK ?_
 refine Cd (fun c2=> ?_) fun c2=> ?_
 ·
  obtain ⟨v,hv⟩:=ah (xs:=s.tb) (k:=i) (by omega)
  have htv:=Rm.tb i v hv
  unfold dX.get at htv
  have hvl:=Gb (a.bytes.drop (t0+4*i))
  refine Z8 ?_
  refine .n ((kZ [_,_] [1,2,3,0,4] (h:=Gd (a:=a) (m:=m) (t0:=t0) (i:=i) (by omega) av (by omega))).same (fun _ _=>aB.perm (Perm.idx [3,0,1,2,4] rfl rfl)) (fun _ _=>af.refl _)) rfl fun _ _=> ?_
  refine AU ?_
  refine .g (cm.gF rfl rfl rfl rfl (fun hg=>aO (j:=i) FU.out FC.out rfl (.when (.t rfl) hg) (.when (.t rfl) hg) rfl hv)) rfl rfl ?_
  refine Z2 ?_
  refine .g (cm.gF rfl rfl rfl rfl (fun hg=>To FU.out (.when (.t rfl) hg) (.when (.t rfl) hg))) rfl rfl ?_
  refine Z8 ?_
  refine .g (cm.hT rfl rfl rfl rfl (fun hg=>aO (j:=i) FU.out FC.out rfl (.when (.t rfl) hg) (.when (.t rfl) hg) rfl hv)) rfl rfl ?_
  refine Z7 ?_
  refine Cd (fun c3=> ?_) fun c3=> ?_
  · exfalso;by_cases VZ:(rq ((a.bytes.drop (t0+4*i)).take 4))=0<;>simp [VZ] at c3 htv<;>omega
  refine Z8 ?_
  refine .round (i+1) (by omega) (by omega) rfl ?_
  exact (.get rfl (af.int (by (show (i:Int)+1=((i+1:Nat):Int);omega))) (.get rfl (af.refl _) ((.keep 45 rfl rfl))))
 have hie:i=s.tb.length:=by omega
 subst hie
 refine Z8 ?_
 refine .n ((cE (h:=Ge (ms:=ms) (bs:=bs) hp9 am6)).same (fun _ _=>aB.refl _) (fun _ _=>af.refl _)) rfl fun _ _=> ?_
 refine iW ?_
 refine Cd (fun c4=> ?_) fun c4=> ?_
 · exfalso;have rB:(Mp ms).length=ms.length:=(by simp [Mp]);omega
 refine Z9 ?_
 refine .aT (σ:=Nat) (fun _=>(fZ pg.pb bs ms::nJ sb X pg.pb m num (g0:Int) (t0:Int) (ai 1 fz bs)::ru X a++[ek pg 64 4096 (fun _=>True) Co mm wB])) (fun i=>[(14,ag .i64 (i:Int)),(5,ag .i64 0)]) (fun i=>i≤s.ms.length) (fun i=>s.ms.length-i) 0 (Nat.zero_le _) rfl ?_ ?_
 · exact (.get rfl (af.refl _) (.get rfl (af.refl _) (.refl _ _)))
 rintro i hi
 refine cK ?_
 refine Cd (fun c5=> ?_) fun c5=> ?_
 ·
  obtain ⟨r,hr⟩:=ah (xs:=s.ms) (k:=i) (by omega)
  obtain ⟨M,hM⟩:=ah (xs:=ms) (k:=i) (by omega)
  obtain ⟨b,hb⟩:=ah (xs:=bs) (k:=i) (by omega)
  have hS:=Xl.all i M r hM hr
  have hpg:=Po hM
  have Rf:=hS.pages
  have hpf:=hS.iw.tu
  refine Z8 ?_
  refine .n ((kZ [_,_,_,_] [1,0,2,3,4] (h:=Cc (bs:=bs) (i:=i) (b:=b) hb)).same (fun _ _=>aB.perm (Perm.idx [1,0,2,3,4] rfl rfl)) (fun _ _=>af.refl _)) rfl fun _ _=> ?_
  refine Z9 ?_
  refine .bx 13 2 FM.out (by kernel_rfl) (k:= ?_)
  refine Z5 ?_
  refine .cons (cm.gF rfl rfl rfl rfl (fun hg=>aO (j:=i) FU.out FC.out rfl (.when (.t rfl) hg) (.when (.t rfl) hg) rfl hpg)) ?_
  refine Z4 ?_
  refine .cons (cm.gF rfl rfl rfl rfl (fun hg=>aO (j:=i) FU.out FC.out rfl (.when (.t rfl) hg) (.when (.t rfl) hg) rfl hr)) ?_
  refine Z7 ?_
  refine Cd (fun c6=> ?_) fun c6=> ?_
  · exfalso;simp at c6;omega
  refine Z8 ?_
  refine .aT (σ:=Nat) (fun _=>(fZ pg.pb bs ms::nJ sb X pg.pb m num (g0:Int) (t0:Int) (ai 1 fz bs)::ru X a++[ek pg 64 4096 (fun _=>True) Co mm wB])) (fun k=>[(17,ag .i64 (k:Int)),(5,ag .i64 0)]) (fun k=>k≤r.iw.length) (fun k=>r.iw.length-k) 0 (Nat.zero_le _) rfl ?_ ?_
  · exact (.get rfl (af.refl _) (.get rfl (af.refl _) (.refl _ _)))
  rintro k hk
  refine Z7 ?_
  refine .p (cI i (h:=hr)) rfl ?_
  refine Z9 ?_
  refine Cd (fun c7=> ?_) fun c7=> ?_
  ·
   obtain ⟨y,hy⟩:=ah (xs:=r.iw) (k:=k) (by omega)
   have NI:=List.mem_of_getElem? hy
   have Ox:=hS.iw.len y NI
   have Yh:=hS.iw.fit y NI
   have hyp:=hS.iw.pages
   have hld:=hS.load NI
   have hrd:=hS.read y.1 y.2.length
   refine Z9 ?_
   refine .p (cI i (h:=hr)) rfl ?_
   refine Z3 ?_
   refine .p (cI k (h:=hy)) rfl ?_
   refine .p (bl.le (kK FA.out FC.out rfl (.t rfl) rfl) (af.refl (aC (sx y)))) rfl ?_
   refine .n (ax FZ.out) rfl fun b18 _=> ?_
   refine Z3 ?_
   refine .share (t:=18) (i:=0) rfl rfl ?_
   refine Z1 ?_
   refine .own (vi hb hM) ?_
   refine Z7 ?_
   refine .n (kZ [_,_,_,_] [0,5,1,2,3,4] (h:=IB (mb:=b) (mm:=M) (X:=pg) (z:=64) (q:=4096) (m:=mm) (T:=fun _=>True) (C:=Co) (R:=wB) (a:=y.1) (o:=0) (n:=(y.2.length:Int)) (zG _) (by decide) (by decide) hS.ok (by omega) (by decide))) rfl fun bv4 bv5=> ?_
   refine Z9 ?_
   refine .own (aB.perm (Perm.idx [0,2,3,4,5,1] rfl rfl)) ?_
   refine .own (yC hb hM) ?_
   refine Z1 ?_
   refine .bx 21 2 FM.out (by kernel_rfl) (k:= ?_)
   refine dM ?_
   refine .cons (cm.gF rfl rfl rfl rfl (fun hg=>aO (j:=i) FU.out FC.out rfl (.when (.t rfl) hg) (.when (.t rfl) hg) rfl hr)) ?_
   refine .cons (cm.gF rfl rfl rfl rfl (fun hg=>bl.le (kK FA.out FC.out rfl (.when (.t rfl) hg) rfl) (af.refl (aC (gf r))))) ?_
   refine Z5 ?_
   refine .cons (cm.gF rfl rfl rfl rfl (fun hg=>bQ (I2 (r:=r) (a:=y.1) (n:=y.2.length) (by omega) (by omega) hS.iw.len Ox) FB.out (.cons (.when (.t rfl) hg) (.cons (.when (.t rfl) hg) (.cons (.when (.t rfl) hg) .nil))))) ?_
   refine Z6 ?_
   refine Cd (fun c8=> ?_) fun c8=> ?_
   · exfalso;simp [hld,hrd] at c8
   refine Z8 ?_
   refine .round (k+1) (by omega) (by omega) rfl ?_
   exact (.get rfl (af.int (by (show (k:Int)+1=((k+1:Nat):Int);omega))) (.get rfl (af.refl _) ((.keep 65 rfl rfl))))
  have hke:k=r.iw.length:=by (simp only [and_true] at c7;omega)
  subst hke
  refine cT ?_
  refine .round (i+1) (by omega) (by omega) rfl ?_
  exact (.get rfl (af.int (by (show (i:Int)+1=((i+1:Nat):Int);omega))) (.get rfl (af.refl _) ((.keep 48 rfl rfl))))
 have hie:i=s.ms.length:=by omega
 subst hie
 refine dM ?_
 refine bL ?_
 exact .z
theorem MM (av:nK m) (hp1:m.aZ.length≤4000):cw Tryz.prog 21 [aC (br m)] [] (γ:=Nat×Nat×Int) (fun r=>od m r) (fun _=>[]) (fun r=>bD [aC (pW (uw m r.1 r.2.1)),ag .i64 r.2.2]):=by
 refine In 121 Tryz.func21 fun _ _ _=> ?_
 have Vm:=av.gl;have hml:=av.ml;have Kl:=av.ll;have GZ:=av.dl;have htb:=av.r2.2.2
 have htn:(max m.Table 0)=((eC m:Nat):Int):=by unfold eC;omega
 refine Z3 ?_
 refine .n (ax FZ.out) rfl fun b2 _=> ?_
 refine Z5 ?_
 refine .n (ax FZ.out) rfl fun b4 _=> ?_
 refine Z9 ?_
 refine .own (tv (n:=1) (enc:=eA)) ?_
 refine .aT (σ:=SB×Nat) (fun q=>[au q.1 1 eA ((m.an.map (·.Value)).take q.2),az b4 [aa (bq q.1 ((m.an.map (·.Value)).take q.2).length),aa (.slice none 0 0),aa (.slice none 0 0)],az b2 [aa (.slice none 0 0),aa (.slice none 0 0),aa (.slice none 0 0)]]) (fun q=>[(5,ag .i64 (q.2:Int))]) (fun q=>q.2≤m.an.length) (fun q=>m.an.length-q.2) (none,0) (Nat.zero_le _) rfl ?_ ?_
 · exact (.get rfl (af.refl _) (.refl _ _))
 rintro ⟨s1,k⟩ hk
 simp only at hk ⊢
 refine cK ?_
 refine Cd (fun c0=> ?_) fun c0=> ?_
 ·
  obtain ⟨z,hz⟩:=ah (xs:=m.an) (k:=k) (by omega)
  have W2:(m.an.map (·.Value))[k]?=some z.Value:=by rw [List.getElem?_map,hz];rfl
  refine Z4 ?_
  refine .bx 9 3 FM.out (by kernel_rfl) (k:= ?_)
  refine Z5 ?_
  refine .p (cI k (h:=hz)) ?_
  refine Z2 ?_
  refine .p (cB eA [z.Value]) ?_
  refine Z1 ?_
  refine .n (aD (i:=0) (xs:=((m.an.map (·.Value)).take k)) (ys:=[z.Value]) FU.out FU.out FC.out rfl FZ.out rfl FY.out (.t rfl) (.t rfl) rfl (by rw [List.length_take];simp only [List.length_cons,List.length_nil];omega) (by rw [List.length_take];simp only [List.length_cons,List.length_nil];omega)) rfl fun Vp _=> ?_
  refine cK ?_
  refine .round (Vp,k+1) (by show k+1≤_;omega) (by show m.an.length-(k+1)<m.an.length-k;omega) (by simp only [←bn W2];try rfl) ?_
  exact (.get rfl (af.int (by (show (k:Int)+1=((k+1:Nat):Int);omega))) ((.keep 20 rfl rfl)))
 have hke:k=m.an.length:=by omega
 subst hke
 rw [show (m.an.map (·.Value)).take m.an.length=(m.an.map (·.Value)) from List.take_of_length_le (by simp)]
 refine Z6 ?_
 refine .eR (i:=0) (j:=0) (f:=0) rfl rfl rfl ?_
 refine Z4 ?_
 refine .n (K7 (enc:=dJ) ((0:Int)) FU.out FC.out FY.out FZ.out rfl (af.refl _) (.t rfl) htn (by omega) (by omega)) rfl fun _ _=> ?_
 refine cT ?_
 refine .own (tv (n:=3) (enc:=gf)) ?_
 refine .aT (σ:=SB×Nat) (fun q=>[au q.1 3 gf ((m.bp.map F8).take q.2),az b4 [ai 1 eA (m.an.map (·.Value)),ai 1 dJ (List.replicate (eC m) (0:Int)),aa (bq q.1 ((m.bp.map F8).take q.2).length)],az b2 [aa (.slice none 0 0),aa (.slice none 0 0),aa (.slice none 0 0)]]) (fun q=>[(6,ag .i64 (q.2:Int))]) (fun q=>q.2≤m.bp.length) (fun q=>m.bp.length-q.2) (none,0) (Nat.zero_le _) rfl ?_ ?_
 · exact (.get rfl (af.refl _) (.refl _ _))
 rintro ⟨s1,k⟩ hk
 simp only at hk ⊢
 refine cK ?_
 refine Cd (fun c1=> ?_) fun c1=> ?_
 ·
  obtain ⟨z,hz⟩:=ah (xs:=m.bp) (k:=k) (by omega)
  have W2:(m.bp.map F8)[k]?=some (F8 z):=by rw [List.getElem?_map,hz];rfl
  have RS:=(E1 av (List.mem_of_getElem? hz) (n:=0) (Int.le_refl _)).2.1
  refine Z9 ?_
  refine .p (cI k (h:=hz)) rfl ?_
  refine Z5 ?_
  refine .cut (σ:=Unit) (fun _=>[au s1 3 gf ((m.bp.map F8).take k),az b4 [ai 1 eA (m.an.map (·.Value)),ai 1 dJ (List.replicate (eC m) (0:Int)),aa (bq s1 ((m.bp.map F8).take k).length)],az b2 [aa (.slice none 0 0),aa (.slice none 0 0),aa (.slice none 0 0)]]) (fun _=>[(7,ag .i64 (nM z:Int))]) (fun _=>True) ?_ ?_
  ·
   refine Z6 ?_
   refine Cd (fun c2=> ?_) fun c2=> ?_
   ·
    refine Z3 ?_
    refine .meet () trivial rfl (.get rfl (af.int (by unfold nM;rw [if_pos (by omega)];rfl)) (.keep 3 rfl rfl))
   refine Z1 ?_
   refine .meet () trivial rfl (.get rfl (af.int (by unfold nM;rw [if_neg (by omega)];omega)) (.keep 2 rfl rfl))
  intro _ _
  refine .bx 11 3 FM.out (by kernel_rfl) (k:= ?_)
  refine Z5 ?_
  refine .p (cI k (h:=hz)) ?_
  refine Z1 ?_
  refine .p ((mE FA.out (.t rfl)).le (af.int RS)) ?_
  refine Z1 ?_
  refine .p ((aL FP.out FZ.out (.cons (.t rfl) (.cons (.t rfl) .nil)) rfl).le ((by exact show af _ (aC (gf (F8 z))) from af.agg (.cons (.refl _) (.cons (.refl _) (.cons (aG _ _) .nil)))))) ?_
  refine .p (cB gf [F8 z]) ?_
  refine Z1 ?_
  refine .n (aD (i:=0) (xs:=((m.bp.map F8).take k)) (ys:=[F8 z]) FU.out FU.out FC.out rfl FZ.out rfl FY.out (.t rfl) (.t rfl) rfl (by rw [List.length_take];simp only [List.length_cons,List.length_nil];omega) (by rw [List.length_take];simp only [List.length_cons,List.length_nil];omega)) rfl fun Da _=> ?_
  refine cK ?_
  refine .round (Da,k+1) (by show k+1≤_;omega) (by show m.bp.length-(k+1)<m.bp.length-k;omega) (by simp only [←bn W2];try rfl) ?_
  exact (.get rfl (af.int (by (show (k:Int)+1=((k+1:Nat):Int);omega))) ((.keep 30 rfl rfl)))
 have hke:k=m.bp.length:=by omega
 subst hke
 rw [show (m.bp.map F8).take m.bp.length=(m.bp.map F8) from List.take_of_length_le (by simp)]
 refine Z6 ?_
 refine .eR (i:=0) (j:=0) (f:=2) rfl rfl rfl ?_
 refine cT ?_
 refine .own (tv (n:=2) (enc:=fS)) ?_
 refine .aT (σ:=SB×Nat) (fun q=>[au q.1 2 fS (m.bt.take q.2),az b4 [ai 1 eA (m.an.map (·.Value)),ai 1 dJ (List.replicate (eC m) (0:Int)),ai 3 gf (m.bp.map F8)],az b2 [aa (.slice none 0 0),aa (.slice none 0 0),aa (.slice none 0 0)]]) (fun q=>[(8,aa (bq q.1 (m.bt.take q.2).length)),(9,ag .i64 (q.2:Int))]) (fun q=>q.2≤m.bt.length) (fun q=>m.bt.length-q.2) (none,0) (Nat.zero_le _) rfl ?_ ?_
 · exact (.get rfl (af.refl _) (.get rfl (af.refl _) (.refl _ _)))
 rintro ⟨s1,k⟩ hk
 simp only at hk ⊢
 refine cK ?_
 refine Cd (fun c3=> ?_) fun c3=> ?_
 ·
  obtain ⟨z,hz⟩:=ah (xs:=m.bt) (k:=k) (by omega)
  refine Z4 ?_
  refine .bx 15 2 FM.out (by kernel_rfl) (k:= ?_)
  refine Z4 ?_
  refine .p (cI k (h:=hz)) ?_
  refine Z5 ?_
  refine .p (cI k (h:=hz)) ?_
  refine Z2 ?_
  refine .p (bl.le (aL FP.out FZ.out (.cons (.t rfl) (.cons (.t rfl) .nil)) rfl) (af.refl (aC (fS z)))) ?_
  refine .p (cB fS [z]) ?_
  refine Z1 ?_
  refine .n (aD (i:=0) (xs:=m.bt.take k) (ys:=[z]) FU.out FU.out FC.out rfl FZ.out rfl FY.out (.t rfl) (.t rfl) rfl (by rw [List.length_take];simp only [List.length_cons,List.length_nil];omega) (by rw [List.length_take];simp only [List.length_cons,List.length_nil];omega)) rfl fun g85 _=> ?_
  refine Z9 ?_
  refine .round (g85,k+1) (by show k+1≤_;omega) (by show m.bt.length-(k+1)<m.bt.length-k;omega) (by simp only [←bn hz];try rfl) ?_
  exact (.get rfl (af.of_eq (by simp only [←bn hz])) (.get rfl (af.int (by (show (k:Int)+1=((k+1:Nat):Int);omega))) ((.keep 27 rfl rfl))))
 have hke:k=m.bt.length:=by omega
 subst hke
 rw [List.take_length]
 refine Z6 ?_
 refine .er (t:=8) (i:=0) rfl rfl ?_
 refine cT ?_
 refine .own (tv (n:=3) (enc:=gV)) ?_
 refine .aT (σ:=SB×Nat) (fun q=>[au q.1 3 gV (m.aZ.take q.2),az b4 [ai 1 eA (m.an.map (·.Value)),ai 1 dJ (List.replicate (eC m) (0:Int)),ai 3 gf (m.bp.map F8)],az b2 [aa (.slice none 0 0),aa (.slice none 0 0),aa (.slice none 0 0)]]) (fun q=>[(10,aa (bq q.1 (m.aZ.take q.2).length)),(11,ag .i64 (q.2:Int))]) (fun q=>q.2≤m.aZ.length) (fun q=>m.aZ.length-q.2) (none,0) (Nat.zero_le _) rfl ?_ ?_
 · exact (.get rfl (af.refl _) (.get rfl (af.refl _) (.refl _ _)))
 rintro ⟨s1,k⟩ hk
 simp only at hk ⊢
 refine cK ?_
 refine Cd (fun c4=> ?_) fun c4=> ?_
 ·
  obtain ⟨z,hz⟩:=ah (xs:=m.aZ) (k:=k) (by omega)
  refine Z4 ?_
  refine .bx 21 2 FM.out (by kernel_rfl) (k:= ?_)
  refine Z4 ?_
  refine .p (cI k (h:=hz)) ?_
  refine Z5 ?_
  refine .p (cI k (h:=hz)) ?_
  refine Z5 ?_
  refine .p (cI k (h:=hz)) ?_
  refine Z2 ?_
  refine .p (bl.le (aL FP.out FZ.out (.cons (.t rfl) (.cons (.t rfl) (.cons (.t rfl) .nil))) rfl) (af.refl (aC (gV z)))) ?_
  refine .p (cB gV [z]) ?_
  refine Z1 ?_
  refine .n (aD (i:=0) (xs:=m.aZ.take k) (ys:=[z]) FU.out FU.out FC.out rfl FZ.out rfl FY.out (.t rfl) (.t rfl) rfl (by rw [List.length_take];simp only [List.length_cons,List.length_nil];omega) (by rw [List.length_take];simp only [List.length_cons,List.length_nil];omega)) rfl fun am7 _=> ?_
  refine Z9 ?_
  refine .round (am7,k+1) (by show k+1≤_;omega) (by show m.aZ.length-(k+1)<m.aZ.length-k;omega) (by simp only [←bn hz];try rfl) ?_
  exact (.get rfl (af.of_eq (by simp only [←bn hz])) (.get rfl (af.int (by (show (k:Int)+1=((k+1:Nat):Int);omega))) ((.keep 33 rfl rfl))))
 have hke:k=m.aZ.length:=by omega
 subst hke
 rw [List.take_length]
 refine Z6 ?_
 refine .er (t:=10) (i:=0) rfl rfl ?_
 refine Z1 ?_
 refine .p (bl.le (iX (i:=0) FA.out FC.out rfl (.t rfl) rfl rfl) (af.refl (aC (pW (uw m 0 0))))) rfl ?_
 refine Z2 ?_
 refine .n (cE (h:=Mv av hp1)) rfl fun Uy am8=> ?_
 refine Z7 ?_
 refine Post.bf rfl rfl (Uy) (by exact am8) (aB.dD [] [0,1] rfl rfl) rfl (.cons (.ra (i:=1) FA.out FC.out rfl rfl rfl rfl) ?_ (.cons (.rt rfl) ?_ .nil))
 · exact .z
 exact .z
theorem MN {Y:oT} {z q n:Nat} {a0:dX} (av:SV Y a0 a0 (aW z) 0) (hp1:0<n) (hp2:n≤64) (fI:z≤1024) (oe:q≤4096) (yE:a0.height+n*aW z≤Y.size):cw Tryz.prog 18 [aI Y.ab 0,aI sb 0,aS (n:Int)] (dB sb ⟨z,(q:Int),0,0,-1,false,[]⟩::ez Y a0) (γ:=tq×dX) (fun g=>g.1.Y=Y∧g.1.sb=sb∧g.1.n=n∧g.1.lo=a0.height∧g.1.hi=a0.height+n*aW z∧SV Y a0 g.2 (aW z) n∧CN g.1 z q Oh ⟨Lt a0.height (aW z) n,0,[],[],0,false⟩ g.2 ⟨z,(q:Int),0,0,-1,false,[]⟩ (pL z) 0) (fun g=>qw g.1 ⟨Lt a0.height (aW z) n,0,[],[],0,false⟩ g.2 ⟨z,(q:Int),0,0,-1,false,[]⟩) (fun g=>bD [aI g.1.pb 0,aS 0]):=by
 refine In 58 Tryz.func18 fun _ _ _=> ?_
 refine cT ?_
 refine .p (cO FU.out (.t rfl)) rfl ?_
 refine Z2 ?_
 refine .g (cm.gF rfl rfl rfl rfl (fun hg=>cO FU.out (.when (.t rfl) hg))) rfl rfl ?_
 refine Z4 ?_
 refine Cd (fun c0=> ?_) fun c0=> ?_
 · exact (show False by simp at c0).elim
 refine cT ?_
 refine Cd (fun c1=> ?_) fun c1=> ?_
 · exfalso;omega
 refine Z7 ?_
 refine .n (uQ xF aS) rfl fun m27 _=> ?_
 refine .n (uQ xF aS) rfl fun m28 _=> ?_
 refine Z1 ?_
 refine .n (bT (.t rfl)) rfl fun b30 _=> ?_
 refine Z3 ?_
 refine .own (tv (n:=6) (enc:=q6)) ?_
 refine .own (aB.perm (Perm.idx [1,0,2,3,4,5,6,7,8] rfl rfl)) ?_
 refine Z8 ?_
 refine .aT (σ:=SB×dX×Nat) (fun g=>az b30 [aI Y.ab 0,aI sb 0,aa (bq g.1 (Lt a0.height (aW z) g.2.2).length),aS 0,aa (.map (some m27)),aa (.map (some m28)),aS 0,aa (.bool false)]::au g.1 6 q6 (Lt a0.height (aW z) g.2.2)::jL m28 xF aS ([]:List (bA×Int))::jL m27 xF aS ([]:List (bA×Int))::dB sb ⟨z,(q:Int),0,0,-1,false,[]⟩::ez Y g.2.1) (fun g=>[(32,aS (g.2.2:Int))]) (fun g=>SV Y a0 g.2.1 (aW z) g.2.2∧g.2.2≤n) (fun g=>n-g.2.2) (none,a0,0) ⟨av,Nat.zero_le _⟩ rfl ?_ ?_
 · exact (.get rfl (af.refl _) (.refl _ _))
 rintro ⟨gb1,a1,j1⟩ ⟨Xm,hj⟩
 simp only at Xm hj ⊢
 refine Z6 ?_
 refine Cd (fun c2=> ?_) fun c2=> ?_
 ·
  have hj1:a0.height+(j1+1)*aW z≤Y.size:=Nat.le_trans (Nat.add_le_add_left (Nat.mul_le_mul_right _ (by omega)) _) yE
  refine Z8 ?_
  refine .n ((kZ [_,_,_,_,_,_,_,_] [4,0,1,2,3,5,6,7,8] (h:=uf (s:=⟨z,(q:Int),0,0,-1,false,[]⟩))).same (fun _ _=>aB.perm (Perm.idx [1,2,3,4,0,5,6,7,8] rfl rfl)) (fun _ _=>af.refl _)) rfl fun _ _=> ?_
  refine .n (kZ [_,_,_,_,_] [5,6,7,8,0,1,2,3,4] (h:=uc (X:=Y) (a:=a1) (n:=z) Xm.ok)) rfl fun Qf Rk=> ?_
  refine Z7 ?_
  obtain ⟨a2,at2,e2⟩:=Qf
  obtain ⟨Hq,Xn,hA2⟩:=Xm.take (n:=z) (by omega) hj1 Rk
  simp only at Hq Xn hA2
  subst Hq
  subst Xn
  have hfl:=sO a0.height (aW z) j1
  refine Z7 ?_
  refine Cd (fun c3=> ?_) fun c3=> ?_
  · exact absurd rfl c3
  refine Z7 ?_
  refine .p (fB (i:=4) FA.out (.t rfl) rfl rfl) rfl ?_
  refine Z1 ?_
  refine .p ((aL FP.out FZ.out (.cons (.t rfl) .nil) rfl).le (af.agg (.cons (af.refl _) (.cons (.refl _) (.cons (.refl _) (.cons lH (.cons lH (.cons lH .nil)))))))) rfl ?_
  refine .p (cB q6 [(⟨a0.height+j1*aW z,(0,0),false,false,false⟩:Fr)]) rfl ?_
  refine .n (aD (i:=5) (xs:=Lt a0.height (aW z) j1) (ys:=[(⟨a0.height+j1*aW z,(0,0),false,false,false⟩:Fr)]) FU.out FU.out FC.out rfl FZ.out rfl FY.out (.t rfl) (.t rfl) rfl (by (simp only [sO,List.length_cons,List.length_nil];omega)) (by (simp only [sO,List.length_cons,List.length_nil];omega))) rfl fun ME _=> ?_
  refine Z2 ?_
  refine .s (iY (i:=4) FC.out (.t rfl) (.t rfl) rfl rfl) ?_
  refine Z7 ?_
  refine .own (aB.perm (Perm.idx [4,5,6,7,8,0,1,2,3] rfl rfl)) (bK.round (ME,a2,j1+1) ⟨hA2,by (show j1+1≤n;omega)⟩ (by (show n-(j1+1)<n-j1;omega)) (by (simp only [Oj];rfl)) ?_)
  exact (.get rfl (af.int (by (show (j1:Int)+1=((j1+1:Nat):Int);omega))) ((.keep 26 rfl rfl)))
 have hjn:j1=n:=by omega
 subst hjn
 refine .iy 1 rfl (fun e=>by (have h9:=congrArg List.length e;rw [sO] at h9;simp at h9;omega)) fun fb cap Vw=> ?_
 subst Vw
 refine lg ?_
 refine Post.bf rfl rfl ((⟨b30,sb,fb,cap,m27,m28,j1,a0.height,a0.height+j1*aW z,Y⟩,a1)) (by exact ⟨rfl,rfl,rfl,rfl,rfl,Xm,QX hp1 hp2 fI oe Xm rfl rfl⟩) (aB.trans (aB.cells (.cons (.refl _) (.cons (.refl _) (.cons (af.of_eq (by rw [sO])) (.cons (.refl _) (.cons (.refl _) (.cons (.refl _) (.cons (.refl _) (.cons lH .nil))))))))) (aB.perm (Perm.idx [0,1,3,2,4,5,6,7,8] rfl rfl))) rfl (.cons (.rt rfl) ?_ (.cons (.rt rfl) ?_ .nil))
 · exact .z
 exact .z
theorem vJ {fr:Int}:cw Tryz.prog 12 [aS fr] [] (γ:=tq) (fun _=>True) (fun X=>[ek X 64 4096 (fun _=>True) (pL 64) 0 wB]) (fun X=>aI X.pb 0):=by
 refine In 28 Tryz.func12 fun _ _ _=> ?_
 have Ua:aW 64=64:=by decide
 refine Z7 ?_
 refine .n (cE (h:=wR (n:=65536) (by decide))) rfl fun g10 h10=> ?_
 refine Z9 ?_
 refine .n (cE (h:=LR (n:=64) (cap:=4096) (by decide) (by decide) (by decide) (by decide))) rfl fun g14 yF=> ?_
 refine lg ?_
 refine .p (Ec (.t rfl) (.c _)) rfl ?_
 refine .p ((ep (.c _) (.t rfl) dL).le (af.int (show _=(((1+min (max fr 0) 63).toNat:Nat):Int) by omega))) rfl ?_
 refine .n (cE (h:=MN (Y:=g10) (sb:=g14) (z:=64) (q:=4096) (n:=(1+min (max fr 0) 63).toNat) (a0:=⟨List.replicate 65536 0,0,0,[]⟩) (QZ h10 (by decide)) (by omega) (by omega) (by decide) (by decide) (by (show 0+(1+min (max fr 0) 63).toNat*aW 64≤_);rw [h10,Ua];omega))) rfl fun g24 Kj=> ?_
 refine Z7 ?_
 obtain ⟨X24,a24⟩:=g24
 obtain ⟨hX,hX2,hX1,hlo,hhi,hAT,hInv⟩:=Kj
 simp only at hX hX2 hX1 hlo hhi hAT hInv
 subst hX2
 refine .own (QW hInv) ?_
 refine .own (u5 (T':=fun _=>True) fun _ _=>trivial) ?_
 refine Z7 ?_
 refine Post.aP rfl (X24) (by trivial) (fun _ _ _ h=>h) (.rt rfl) ?_
 exact .z
theorem vK:cW Tryz.prog 8 [] (aq True):=by
 refine In 45 Tryz.func8 fun _ _ _=> ?_
 refine Z7 ?_
 refine .p ((aL FP.out FZ.out (.cons (.c _) (.cons (.c _) .nil)) rfl).le ((by exact show af _ (aC (eG ⟨127,False,5⟩)) from af.agg (.cons (.refl _) (.cons lH (.cons (.refl _) .nil)))))) rfl ?_
 refine .p ((aL FP.out FZ.out (.cons (.c _) (.cons (.c _) .nil)) rfl).le ((by exact show af _ (aC (eG ⟨126,False,6⟩)) from af.agg (.cons (.refl _) (.cons lH (.cons (.refl _) .nil)))))) rfl ?_
 refine .p (cB eG [⟨127,False,5⟩,⟨126,False,6⟩]) rfl ?_
 refine .p ((aL FP.out FZ.out (.cons (.c _) (.cons (.c _) (.cons (.t rfl) .nil))) rfl).le ((by exact show af _ (aC (br lz)) from af.agg (.cons (aG _ _) (.cons (aG _ _) (.cons (aG _ _) (.cons (.refl _) (.cons (aG _ _) (.cons (.refl _) (.cons (aG _ _) (.cons (.refl _) (.cons (aG _ _) (.cons (aG _ _) .nil))))))))))))) rfl ?_
 refine Z6 ?_
 refine .n (cE (h:=wR (n:=1000) (by decide))) rfl fun g15 D5=> ?_
 refine cT ?_
 refine .n (cE (h:=vJ (fr:=2))) rfl fun g21 LV=> ?_
 refine .n (kZ [] [1,2,3,4,0] (h:=sE (a:=jX 1000) (m:=lz) (num:=0) (mm:=0) (Co:=pL 64) (IW D5 (by decide)) KA RL (by decide) IV (by rw [D5];exact F6) (by decide) (by decide) (by decide))) rfl fun g22 Vr=> ?_
 refine Z9 ?_
 obtain ⟨b22,bv6,r22⟩:=g22
 obtain ⟨Qx,RY⟩:=Vr
 simp only at Qx RY
 have hr:=Ph RY
 subst hr
 refine Z3 ?_
 refine .n ((kZ [_,_,_,_] [1,2,3,0,4,5,6] (h:=vI (m:=lz) (a:=WY) (g:=0) (i:=1) (by decide) (yO (IW D5 (by decide)) KA (by rw [D5];exact F6) 0).1 (by rw [D5];decide) (by decide))).same (fun _ _=>aB.perm (Perm.idx [3,0,1,2,4,5,6] rfl rfl)) (fun _ _=>af.refl _)) rfl fun _ _=> ?_
 refine Z1 ?_
 refine .p ((lC (.t rfl) rfl).le (af.int (show _=(6:Int) by rw [Nat.zero_add];exact congrArg Nat.cast WZ))) rfl ?_
 refine Vg ?_
 refine bL ?_
 exact af.prop (by simp)
theorem Bg {b:kr}:cW Tryz.prog 76 [aC (iL b)] (ag .i64 (r7 b)):=by
 refine In 39 Tryz.func76 fun _ _ _=> ?_
 refine .fact (t:=0) rfl (fun S w v h=>OD h) fun hlen=> ?_
 have ko:=hlen.locals
 have lp:=hlen.l
 refine Z29 ?_
 refine .aT (σ:=Nat) (fun _=>[]) (fun k=>[(4,ag .i64 (k:Int)),(3,ag .i64 (max ((b.aV.length:Int)-60) 0+max ((b.L.length:Int)-150) 0+kJ (oA b.L qB) k))]) (fun k=>k≤b.L.length∧k≤150) (fun k=>b.L.length-k) 0 ⟨by omega,by omega⟩ rfl ?_ ?_
 · exact (.get rfl (af.refl _) (.get rfl (af.int (by simp [kJ])) (.refl _ _)))
 rintro k ⟨hk,hk2⟩
 have hq:=lN (by omega) (wL hlen) k
 refine iW ?_
 refine Cd (fun c0=> ?_) fun c0=> ?_
 ·
  obtain ⟨x,hx⟩:=ah (xs:=b.L) (k:=k) (by omega)
  have hxl:=hlen.all k x hx
  refine Z9 ?_
  refine .p (cI _) rfl ?_
  refine nZ ?_
  refine .round (k+1) ⟨by omega,by omega⟩ (by omega) rfl ?_
  exact (.get rfl (af.int (by omega)) (.get rfl (af.int (by rw [qA hx];unfold qB;omega)) (.keep 26 rfl rfl)))
 refine dM ?_
 refine bL ?_
 exact af.int (by unfold r7 rZ;rw [show min b.L.length 150=k by omega])
theorem Js {x:aR}:cW Tryz.prog 31 [aC (br x)] (ag .i64 (qC x)):=by
 refine In 204 Tryz.func31 fun _ _ _=> ?_
 refine .fact (t:=0) rfl (fun S w v h=>pP h) fun hlen=> ?_
 have hall:=hlen
 obtain ⟨⟨hl0,ko,lp,mK,mL,mM,mN,mO⟩,⟨Uq,hi1,hi2,Vx,hi4⟩,Qj⟩:=hlen
 have hb:=ni hall
 have hb0:=hb.n0
 obtain ⟨zh,Pp,PF,hb4,hb5⟩:=zL hb
 refine Z40 ?_
 refine Vg ?_
 refine .aT (σ:=Nat) (fun _=>[]) (fun k0=>[(4,ag .i64 (k0:Int)),(3,ag .i64 (oV x+kJ (oA x.bR HT) k0))]) (fun k0=>k0≤x.bR.length∧k0≤60) (fun k0=>x.bR.length-k0) 0 ⟨by omega,by omega⟩ rfl ?_ ?_
 · exact (.get rfl (af.refl _) (.get rfl (af.int (by simp only [kJ];unfold oV;omega)) (.refl _ _)))
 rintro k0 ⟨Nr,hc0⟩
 have JX:=lN (by omega) hb.sig k0
 refine iW ?_
 refine Cd (fun c0=> ?_) fun c0=> ?_
 ·
  obtain ⟨y,hx⟩:=ah (xs:=x.bR) (k:=k0) (by omega)
  have hy1:=Uq k0 y hx
  refine Z4 ?_
  refine .bx 18 2 FM.out (by kernel_rfl) (k:= ?_)
  refine Z4 ?_
  refine .p (cI _) ?_
  refine Z6 ?_
  refine .p (cI _) ?_
  refine Hy ?_
  refine .round (k0+1) ⟨by omega,by omega⟩ (by omega) rfl ?_
  exact (.get rfl (af.int (by omega)) (.get rfl (af.int (by rw [qA hx];unfold HT;omega)) (.keep 34 rfl rfl)))
 refine dM ?_
 refine .aT (σ:=Nat) (fun _=>[]) (fun k1=>[(5,ag .i64 (k1:Int)),(3,ag .i64 (tU x+kJ (oA x.aH HU) k1))]) (fun k1=>k1≤x.aH.length∧k1≤25) (fun k1=>x.aH.length-k1) 0 ⟨by omega,by omega⟩ rfl ?_ ?_
 · exact (.get rfl (af.refl _) (.get rfl (af.int (by simp only [kJ];unfold tU rZ;rw [show min x.bR.length 60=k0 by omega];omega)) (.refl _ _)))
 rintro k1 ⟨Cs,hc1⟩
 have hq1:=lN (by omega) hb.imp k1
 refine iW ?_
 refine Cd (fun c1=> ?_) fun c1=> ?_
 ·
  obtain ⟨y,hx⟩:=ah (xs:=x.aH) (k:=k1) (by omega)
  have hy1:=hi1 k1 y hx
  refine Z4 ?_
  refine .bx 18 2 FM.out (by kernel_rfl) (k:= ?_)
  refine Z4 ?_
  refine .p (cI _) ?_
  refine Z6 ?_
  refine .p (cI _) ?_
  refine Hy ?_
  refine .round (k1+1) ⟨by omega,by omega⟩ (by omega) rfl ?_
  exact (.get rfl (af.int (by omega)) (.get rfl (af.int (by rw [qA hx];unfold HU;omega)) (.keep 34 rfl rfl)))
 refine dM ?_
 refine .aT (σ:=Nat) (fun _=>[]) (fun k2=>[(6,ag .i64 (k2:Int)),(3,ag .i64 (tV x+kJ (oA x.ay Vk) k2))]) (fun k2=>k2≤x.ay.length∧k2≤110) (fun k2=>x.ay.length-k2) 0 ⟨by omega,by omega⟩ rfl ?_ ?_
 · exact (.get rfl (af.refl _) (.get rfl (af.int (by simp only [kJ];unfold tV rZ;rw [show min x.aH.length 25=k1 by omega];omega)) (.refl _ _)))
 rintro k2 ⟨hk2,U6⟩
 have Qc:=lN (by omega) hb.fn k2
 refine iW ?_
 refine Cd (fun c2=> ?_) fun c2=> ?_
 ·
  obtain ⟨y,hx⟩:=ah (xs:=x.ay) (k:=k2) (by omega)
  have hy1:=hb.fn k2 y hx
  unfold Vk at hy1
  refine Z9 ?_
  refine .p (cI _) rfl ?_
  refine Z2 ?_
  refine .p (cA (h:=Bg)) rfl ?_
  refine cK ?_
  refine .round (k2+1) ⟨by omega,by omega⟩ (by omega) rfl ?_
  exact (.get rfl (af.int (by omega)) (.get rfl (af.int (by rw [qA hx];unfold Vk;omega)) (.keep 24 rfl rfl)))
 refine dM ?_
 refine .aT (σ:=Nat) (fun _=>[]) (fun k3=>[(7,ag .i64 (k3:Int)),(3,ag .i64 (tW x+kJ (oA x.bJ HV) k3))]) (fun k3=>k3≤x.bJ.length∧k3≤60) (fun k3=>x.bJ.length-k3) 0 ⟨by omega,by omega⟩ rfl ?_ ?_
 · exact (.get rfl (af.refl _) (.get rfl (af.int (by simp only [kJ];unfold tW rZ;rw [show min x.ay.length 110=k2 by omega];omega)) (.refl _ _)))
 rintro k3 ⟨H8,hc3⟩
 have hq3:=lN (by omega) hb.exp k3
 refine iW ?_
 refine Cd (fun c3=> ?_) fun c3=> ?_
 ·
  obtain ⟨y,hx⟩:=ah (xs:=x.bJ) (k:=k3) (by omega)
  have hy1:=hi2 k3 y hx
  refine Z9 ?_
  refine .p (cI _) rfl ?_
  refine nZ ?_
  refine .round (k3+1) ⟨by omega,by omega⟩ (by omega) rfl ?_
  exact (.get rfl (af.int (by omega)) (.get rfl (af.int (by rw [qA hx];unfold HV;omega)) (.keep 26 rfl rfl)))
 refine dM ?_
 refine .aT (σ:=Nat) (fun _=>[]) (fun k4=>[(8,ag .i64 (k4:Int)),(3,ag .i64 (tX x+kJ (oA x.bt zK) k4))]) (fun k4=>k4≤x.bt.length∧k4≤25) (fun k4=>x.bt.length-k4) 0 ⟨by omega,by omega⟩ rfl ?_ ?_
 · exact (.get rfl (af.refl _) (.get rfl (af.int (by simp only [kJ];unfold tX rZ;rw [show min x.bJ.length 60=k3 by omega];omega)) (.refl _ _)))
 rintro k4 ⟨DX,hc4⟩
 have hq4:=lN (by omega) hb.elem k4
 refine iW ?_
 refine Cd (fun c4=> ?_) fun c4=> ?_
 ·
  obtain ⟨y,hx⟩:=ah (xs:=x.bt) (k:=k4) (by omega)
  have hy1:=Vx k4 y hx
  refine Z9 ?_
  refine .p (cI _) rfl ?_
  refine nZ ?_
  refine .round (k4+1) ⟨by omega,by omega⟩ (by omega) rfl ?_
  exact (.get rfl (af.int (by omega)) (.get rfl (af.int (by rw [qA hx];unfold zK;omega)) (.keep 26 rfl rfl)))
 refine dM ?_
 refine .aT (σ:=Nat) (fun _=>[]) (fun k5=>[(9,ag .i64 (k5:Int)),(3,ag .i64 (tY x+kJ (oA x.aZ xK) k5))]) (fun k5=>k5≤x.aZ.length∧k5≤25) (fun k5=>x.aZ.length-k5) 0 ⟨by omega,by omega⟩ rfl ?_ ?_
 · exact (.get rfl (af.refl _) (.get rfl (af.int (by simp only [kJ];unfold tY rZ;rw [show min x.bt.length 25=k4 by omega];omega)) (.refl _ _)))
 rintro k5 ⟨Rb,hc5⟩
 have hq5:=lN (by omega) hb.data k5
 refine iW ?_
 refine Cd (fun c5=> ?_) fun c5=> ?_
 ·
  obtain ⟨y,hx⟩:=ah (xs:=x.aZ) (k:=k5) (by omega)
  have hy1:=hi4 k5 y hx
  refine Z9 ?_
  refine .p (cI _) rfl ?_
  refine nZ ?_
  refine .round (k5+1) ⟨by omega,by omega⟩ (by omega) rfl ?_
  exact (.get rfl (af.int (by omega)) (.get rfl (af.int (by rw [qA hx];unfold xK;omega)) (.keep 26 rfl rfl)))
 refine dM ?_
 refine bL ?_
 exact af.int (by unfold qC rZ;rw [show min x.aZ.length 25=k5 by omega])
theorem uz {l:List UInt8} (av:l.length≤65536):cW Tryz.prog 33 [ai 1 aj l] (ai 1 aj l):=by
 refine In 19 Tryz.func33 fun _ _ _=> ?_
 refine Hy ?_
 refine .eu 1 aj ?_
 refine .aT (σ:=Nat×SB) (fun s=>[au s.2 1 aj (l.take s.1)]) (fun s=>[(3,aa (bq s.2 (l.take s.1).length)),(4,ag .i64 (s.1:Int))]) (fun s=>s.1≤l.length) (fun s=>l.length-s.1) (0,none) (by simp) (by simp) ?_ ?_
 · exact (.get rfl (af.of_eq (by simp [bq])) (.get rfl (af.refl _) (.refl _ _)))
 rintro s hk
 refine Z9 ?_
 refine Cd (fun c0=> ?_) fun c0=> ?_
 ·
  obtain ⟨x,hx⟩:=ah (xs:=l) (k:=s.1) (by omega)
  refine Z8 ?_
  refine .p (cI _) rfl ?_
  refine Z1 ?_
  refine .p (cB aj [_]) rfl ?_
  refine .n (aD (i:=0) FU.out FU.out FC.out rfl FZ.out rfl FY.out (.t rfl) (.t rfl) rfl (by first|omega|(simp<;>omega)) (by first|omega|(simp<;>omega))) rfl fun g17 _=> ?_
  refine Z9 ?_
  refine .round (s.1+1,g17) (by omega) (by omega) (by simp only [bn hx];rfl) ?_
  exact (.get rfl (af.of_eq (by simp only [bn hx])) (.get rfl (af.int (by omega)) (.keep 17 rfl rfl)))
 have hall:l.take s.1=l:=List.take_of_length_le (by omega)
 rw [hall]
 refine .er (n:=1) (enc:=aj) (i:=0) (t:=3) rfl rfl ?_
 refine dM ?_
 refine bL ?_
 exact .z
theorem Jt {x:aA} (av:x.L.length≤65536):cW Tryz.prog 108 [aC (aK x)] (aC (aK x)):=by
 refine In 16 Tryz.func108 fun _ _ _=> ?_
 refine Z3 ?_
 refine .n (ax FZ.out) rfl fun b2 _=> ?_
 refine Z3 ?_
 refine .bx 12 2 FM.out (by kernel_rfl) (k:= ?_)
 refine Z8 ?_
 refine .p (kL FU.out FC.out rfl FZ.out rfl) ?_
 refine Z2 ?_
 refine .p (sJ FU.out FU.out FC.out rfl FZ.out rfl FY.out (.t rfl) (.t rfl) (by omega)) ?_
 refine Z6 ?_
 refine Post.aP rfl () trivial (fun _ _ _ _=>trivial) (.ra (i:=0) FA.out FC.out rfl rfl rfl rfl) ?_
 exact .z
theorem DJ {l:List aA} (av:l.length≤65536) (hp1:∀x∈l,x.L.length≤65536):cW Tryz.prog 77 [ai 5 aK l] (ai 5 aK l):=by
 refine In 20 Tryz.func77 fun _ _ _=> ?_
 refine Hy ?_
 refine .eu 5 aK ?_
 refine .aT (σ:=Nat×SB) (fun s=>[au s.2 5 aK (l.take s.1)]) (fun s=>[(3,aa (bq s.2 (l.take s.1).length)),(4,ag .i64 (s.1:Int))]) (fun s=>s.1≤l.length) (fun s=>l.length-s.1) (0,none) (by simp) (by simp) ?_ ?_
 · exact (.get rfl (af.of_eq (by simp [bq])) (.get rfl (af.refl _) (.refl _ _)))
 rintro s hk
 refine Z9 ?_
 refine Cd (fun c0=> ?_) fun c0=> ?_
 ·
  obtain ⟨x,hx⟩:=ah (xs:=l) (k:=s.1) (by omega)
  have hxl:=hp1 x (List.mem_of_getElem? hx)
  refine Z8 ?_
  refine .p (cI _) rfl ?_
  refine Z1 ?_
  refine .p (cA (h:=Jt (by first|assumption|omega))) rfl ?_
  refine .p (cB aK [_]) rfl ?_
  refine .n (aD (i:=0) FU.out FU.out FC.out rfl FZ.out rfl FY.out (.t rfl) (.t rfl) rfl (by first|omega|(simp<;>omega)) (by first|omega|(simp<;>omega))) rfl fun g18 _=> ?_
  refine Z9 ?_
  refine .round (s.1+1,g18) (by omega) (by omega) (by simp only [bn hx];rfl) ?_
  exact (.get rfl (af.of_eq (by simp only [bn hx])) (.get rfl (af.int (by omega)) (.keep 18 rfl rfl)))
 have hall:l.take s.1=l:=List.take_of_length_le (by omega)
 rw [hall]
 refine .er (n:=5) (enc:=aK) (i:=0) (t:=3) rfl rfl ?_
 refine dM ?_
 refine bL ?_
 exact .z
theorem Ju {b:kr} (av:HN b):cW Tryz.prog 34 [aC (iL b)] (aC (iL b)):=by
 refine In 10 Tryz.func34 fun _ _ _=> ?_
 refine Z3 ?_
 refine .n (ax FZ.out) rfl fun b2 _=> ?_
 refine Z3 ?_
 refine .bx 5 3 FM.out (by kernel_rfl) (k:= ?_)
 refine Z2 ?_
 refine .p (cA (h:=uz (by have:=av.locals;omega))) ?_
 refine Z3 ?_
 refine .p (cA (h:=DJ (by have:=av.l;omega) (fun x hx=>by have:=av.all x hx;omega))) rfl ?_
 refine Z5 ?_
 refine Post.aP rfl () trivial (fun _ _ _ _=>trivial) (.ra (i:=0) FA.out FC.out rfl rfl rfl rfl) ?_
 exact .z
theorem AO {x:aR} (av:wJ x):cW Tryz.prog 10 [aC (br x)] (cr (br x)):=by
 refine In 86 Tryz.func10 fun _ _ _=> ?_
 have hc1:=av.sigs
 have U6:=av.funcs
 refine Vg ?_
 refine .n (bT (.t rfl)) rfl fun b23 _=> ?_
 refine cK ?_
 refine .eu 2 cu ?_
 refine .aT (σ:=Nat×SB) (fun s=>[au s.2 2 cu (x.bR.take s.1),az b23 (Kb x (aa (bq s.2 (x.bR.take s.1).length)) (aa (.slice none 0 0)))]) (fun s=>[(4,ag .i64 (s.1:Int))]) (fun s=>s.1≤x.bR.length) (fun s=>x.bR.length-s.1) (0,none) (by simp) rfl ?_ ?_
 · exact (.get rfl (af.refl _) (.refl _ _))
 rintro s hk
 refine cK ?_
 refine Cd (fun c0=> ?_) fun c0=> ?_
 ·
  obtain ⟨y,hx⟩:=ah (xs:=x.bR) (k:=s.1) (by omega)
  refine Z4 ?_
  refine .bP [(0,0),(1,0),(2,0),(3,0),(4,1),(5,0),(6,0),(7,0),(8,0),(9,0),(10,0),(11,0),(12,0),(13,0),(14,0),(15,0),(16,0),(17,0),(18,0),(19,0),(20,0),(21,2)] 22 3 FM.out (by kernel_rfl) (k:= ?_)
  refine Z8 ?_
  refine .p rfl (fun _=>aO FU.out FC.out rfl (.t rfl) (.t rfl) rfl (by assumption)) ?_
  refine Z2 ?_
  refine .p rfl (fun _=>bQ (uz (by have:=av.sig y (List.mem_of_getElem? hx);omega)) FB.out (.cons (.t rfl) .nil)) ?_
  refine Z3 ?_
  refine .p rfl (fun _=>aO FU.out FC.out rfl (.t rfl) (.t rfl) rfl (by assumption)) ?_
  refine Z2 ?_
  refine .p rfl (fun _=>bQ (uz (by have:=av.sig y (List.mem_of_getElem? hx);omega)) FB.out (.cons (.t rfl) .nil)) ?_
  refine Z1 ?_
  refine .p rfl (fun _=>bF (enc:=cu) [y] FU.out FC.out rfl FZ.out rfl (.cons (.t rfl) .nil) rfl rfl rfl rfl rfl) ?_
  refine .e rfl (aD (i:=0) FU.out FU.out FC.out rfl FZ.out rfl FY.out (.t rfl) (.t rfl) rfl (by first|omega|(simp<;>omega)) (by first|omega|(simp<;>omega))) fun GB _=> ?_
  refine .fin ?_
  refine cT ?_
  refine .round (s.1+1,GB) (by omega) (by omega) (by simp only [bn hx];rfl) ?_
  exact (.get rfl (af.int (by omega)) (.keep 33 rfl rfl))
 have hall:x.bR.take s.1=x.bR:=List.take_of_length_le (by omega)
 rw [hall]
 refine .eR (n:=2) (enc:=cu) (i:=0) (j:=0) (f:=0) rfl rfl rfl ?_
 refine dM ?_
 refine .eu 3 jE ?_
 refine .aT (σ:=Nat×SB) (fun s=>[au s.2 3 jE (x.ay.take s.1),az b23 (Kb x (ai 2 cu x.bR) (aa (bq s.2 (x.ay.take s.1).length)))]) (fun s=>[(5,ag .i64 (s.1:Int))]) (fun s=>s.1≤x.ay.length) (fun s=>x.ay.length-s.1) (0,none) (by simp) rfl ?_ ?_
 · exact (.get rfl (af.refl _) (.refl _ _))
 rintro s hk
 refine cK ?_
 refine Cd (fun c1=> ?_) fun c1=> ?_
 ·
  obtain ⟨y,hx⟩:=ah (xs:=x.ay) (k:=s.1) (by omega)
  refine Z4 ?_
  refine .bP [(0,0),(1,0),(2,0),(3,0),(4,1),(5,0),(6,0),(7,0),(8,0),(9,0),(10,0),(11,0),(12,0),(13,0),(14,0),(15,0),(16,0),(17,0),(18,0),(19,0),(20,2)] 21 3 FM.out (by kernel_rfl) (k:= ?_)
  refine Z8 ?_
  refine .p rfl (fun _=>aO FU.out FC.out rfl (.t rfl) (.t rfl) rfl (by assumption)) ?_
  refine Z5 ?_
  refine .p rfl (fun _=>aO FU.out FC.out rfl (.t rfl) (.t rfl) rfl (by assumption)) ?_
  refine Z2 ?_
  refine .p rfl (fun _=>bQ (Ju (av.fn y (List.mem_of_getElem? hx))) FB.out (.cons (.t rfl) .nil)) ?_
  refine Z1 ?_
  refine .p rfl (fun _=>bF (enc:=jE) [y] FU.out FC.out rfl FZ.out rfl (.cons (.t rfl) .nil) rfl rfl rfl rfl rfl) ?_
  refine .e rfl (aD (i:=0) FU.out FU.out FC.out rfl FZ.out rfl FY.out (.t rfl) (.t rfl) rfl (by first|omega|(simp<;>omega)) (by first|omega|(simp<;>omega))) fun VG _=> ?_
  refine .fin ?_
  refine cT ?_
  refine .round (s.1+1,VG) (by omega) (by omega) (by simp only [bn hx];rfl) ?_
  exact (.get rfl (af.int (by omega)) (.keep 32 rfl rfl))
 have hall:x.ay.take s.1=x.ay:=List.take_of_length_le (by omega)
 rw [hall]
 refine .eR (n:=3) (enc:=jE) (i:=0) (j:=0) (f:=2) rfl rfl rfl ?_
 refine .share (t:=3) (i:=0) rfl rfl ?_
 refine dM ?_
 refine bL ?_
 exact .z
end Go.Proofs.YtpfobikpggmleaaGreatDoor
end
section
namespace Go.Hl
theorem pY {α:Type} {x:α} {r s:List α} (h:(x::r)<:+s):r<:+s:=(List.suffix_cons x r).trans h
theorem jY {α:Type} {r s:List α} (h:r<:+s):r.length≤s.length:=h.length_le
theorem vL:∀(f:Nat) (s:List Int) (d:Nat) (r:List Int),dS f s d=some r→r<:+s:=by
 intro f
 induction f with
 |zero=>intro s d r h;simp [dS] at h
 | succ f ih =>
  intro s d r h
  cases s with
  |nil=>simp [dS] at h;subst h;exact List.suffix_refl _
  | cons c s =>
   simp only [dS] at h
   split at h
   · cases h;exact List.suffix_refl _
   split at h
   · split at h
     · cases h
     · split at h
       · cases h
       · cases h
       · rename_i c2 r2 h1
         have e1:=ih _ _ _ h1
         split at h
         · split at h
           · split at h
             · cases h
             · cases h
             · rename_i c3 r3 h2
               have e2:=ih _ _ _ h2
               split at h
               · cases h
               · exact ((ih _ _ _ h).trans (pY (e2.trans (pY e1)))).trans (List.suffix_cons _ _)
           · cases h
         · exact ((ih _ _ _ h).trans (pY e1)).trans (List.suffix_cons _ _)
   · exact (ih _ _ _ h).trans (List.suffix_cons _ _)
theorem nq:∀(f g:Nat) (s:List Int) (d:Nat),s.length<f→s.length<g→dS f s d=dS g s d:=by
 intro f
 induction f with
 |zero=>intro g s d h;omega
 | succ f ih =>
  intro g s d h hg
  cases g with
  |zero=>omega
  | succ g =>
   cases s with
   |nil=>rfl
   | cons c s =>
    simp only [List.length_cons] at h hg
    have i1:dS f s (d+1)=dS g s (d+1):=ih g s _ (by omega) (by omega)
    have i2:dS f s d=dS g s d:=ih g s _ (by omega) (by omega)
    simp only [dS,i1,i2]
    split
    · rfl
    split
    · split
      · rfl
      · split
        · rfl
        · rfl
        · rename_i c2 r2 h1
          have l1:=jY (vL _ _ _ _ h1)
          simp only [List.length_cons] at l1
          have i3:dS f r2 (d+1)=dS g r2 (d+1):=ih g r2 _ (by omega) (by omega)
          have i4:dS f r2 d=dS g r2 d:=ih g r2 _ (by omega) (by omega)
          rw [i3,i4]
          split
          · split
            · split
              · rfl
              · rfl
              · rename_i c3 r3 h2
                have l2:=jY (vL _ _ _ _ h2)
                simp only [List.length_cons] at l2
                split
                · rfl
                · exact ih g r3 _ (by omega) (by omega)
            · rfl
          · rfl
    · rfl
section
variable {ι:Type} (cd:ι→Int) (rr:ι→List UInt8) (pl:ι→dw→List (List UInt8)→Option dw)
theorem kY:∀(f:Nat) (s:List ι) (labs:List (List UInt8)) (res:List UInt8) (st:dw) (base:Nat) (hs:List Nat) (rest:List ι),jR cd rr pl f s labs res st base=some (hs,rest)→rest<:+s:=by
 intro f
 induction f with
 |zero=>intro s _ _ _ _ _ _ h;simp [jR] at h
 | succ f ih=>
  intro s labs res st base hs rest h
  cases s with
  |nil=>simp [jR] at h;rw [←h.2];exact List.suffix_refl _
  | cons x s=>
   simp only [jR] at h
   split at h
   · split at h
     · cases h;exact List.suffix_refl _
     · cases h
   split at h
   · obtain ⟨s1,_,h⟩:=Option.bind_eq_some_iff.1 h
     obtain ⟨⟨hs1,l1⟩,zh,h⟩:=Option.bind_eq_some_iff.1 h
     have e1:=ih _ _ _ _ _ _ _ zh
     cases l1 with
     |nil=>cases h
     |cons x2 r2=>
      simp only at h
      split at h
      · obtain ⟨⟨hs2,l2⟩,Pp,h⟩:=Option.bind_eq_some_iff.1 h
        have e2:=ih _ _ _ _ _ _ _ Pp
        cases l2 with
        |nil=>cases h
        |cons x3 r3=>
         simp only at h
         obtain ⟨⟨SZ,l3⟩,PF,h⟩:=Option.map_eq_some_iff.1 h
         cases h
         exact ((ih _ _ _ _ _ _ _ PF).trans (pY (e2.trans (pY e1)))).trans (List.suffix_cons _ _)
      split at h
      · cases h
      · obtain ⟨⟨SZ,l3⟩,PF,h⟩:=Option.map_eq_some_iff.1 h
        cases h
        exact ((ih _ _ _ _ _ _ _ PF).trans (pY e1)).trans (List.suffix_cons _ _)
   · obtain ⟨s1,_,h⟩:=Option.bind_eq_some_iff.1 h
     obtain ⟨⟨hs1,l1⟩,zh,h⟩:=Option.map_eq_some_iff.1 h
     cases h
     exact (ih _ _ _ _ _ _ _ zh).trans (List.suffix_cons _ _)
theorem xg:∀(f g:Nat) (s:List ι) (labs:List (List UInt8)) (res:List UInt8) (st:dw) (base:Nat),s.length<f→s.length<g→jR cd rr pl f s labs res st base=jR cd rr pl g s labs res st base:=by
 intro f
 induction f with
 |zero=>intro g s _ _ _ _ h;omega
 | succ f ih=>
  intro g s labs res st base h hg
  cases g with
  |zero=>omega
  | succ g=>
   cases s with
   |nil=>rfl
   | cons x s=>
    simp only [List.length_cons] at h hg
    simp only [jR]
    split
    · rfl
    split
    · refine Option.bind_congr fun s1 _=> ?_
      rw [ih g s _ _ _ _ (by omega) (by omega)]
      refine Option.bind_congr fun p hp=> ?_
      obtain ⟨hs1,l1⟩:=p
      have e1:=jY (kY cd rr pl _ _ _ _ _ _ _ _ hp)
      cases l1 with
      |nil=>rfl
      |cons x2 r2=>
       simp only [List.length_cons] at e1
       simp only
       split
       · rw [ih g r2 _ _ _ _ (by omega) (by omega)]
         refine Option.bind_congr fun p hp=> ?_
         obtain ⟨hs2,l2⟩:=p
         have e2:=jY (kY cd rr pl _ _ _ _ _ _ _ _ hp)
         cases l2 with
         |nil=>rfl
         |cons x3 r3=>
          simp only [List.length_cons] at e2
          simp only
          rw [ih g r3 _ _ _ _ (by omega) (by omega)]
       split
       · rfl
       · rw [ih g r2 _ _ _ _ (by omega) (by omega)]
    · refine Option.bind_congr fun s1 _=> ?_
      rw [ih g s _ _ _ _ (by omega) (by omega)]
noncomputable def GC (s:List ι) (labs:List (List UInt8)) (res:List UInt8) (st:dw) (base:Nat):Option (List Nat×List ι):=jR cd rr pl (s.length+1) s labs res st base
def oo (s:List ι) (d:Nat):Prop:=∃iP,dS (s.length+1) (s.map cd) d=some iP∧iP≠[]
variable {cd rr pl} {x:ι} {r:List ι} {labs:List (List UInt8)} {res:List UInt8} {st:dw} {base d:Nat}
theorem RZ (h:cd x=11∨cd x=5) (hc:∃s',cQ st res=some s'∧s'.1=[]):GC cd rr pl (x::r) labs res st base=some ([base+st.1.length],x::r):=by
 simp only [GC,jR,h,hc,if_true]
theorem Jv (h:cd x=11∨cd x=5) (hc:¬∃s',cQ st res=some s'∧s'.1=[]):GC cd rr pl (x::r) labs res st base=none:=by
 simp only [GC,jR,h,if_true];rw [if_neg hc]
theorem MO (h1:¬(cd x=11∨cd x=5)) (h2:¬aQ (cd x)):GC cd rr pl (x::r) labs res st base=(pl x st labs).bind fun s1=>(GC cd rr pl r labs res s1 base).map fun p=>((base+st.1.length)::p.1,p.2):=by
 simp only [GC,jR,h1,h2,if_false,List.length_cons]
theorem PG (h1:¬(cd x=11∨cd x=5)) (h2:aQ (cd x)):GC cd rr pl (x::r) labs res st base=
    (if cd x=4 then cQ st [127] else some st).bind fun s1=>
      (GC cd rr pl r (labs++[if cd x=3 then [] else rr x]) (rr x) ([],False) (base+s1.1.length)).bind fun p=>
      match p.2 with
      |[]=>none
      | x2::r2=>
        if cd x2=5 then
          (GC cd rr pl r2 (labs++[if cd x=3 then [] else rr x]) (rr x) ([],False) (base+s1.1.length)).bind fun p2=>
          match p2.2 with
          |[]=>none
          |_::r3=>(GC cd rr pl r3 labs res (bC s1 (rr x)) base).map fun p3=>((base+st.1.length)::p.1++p2.1++p3.1,p3.2)
        else if cd x=4∧rr x≠[] then none
        else (GC cd rr pl r2 labs res (bC s1 (rr x)) base).map fun p3=>((base+st.1.length)::p.1++p3.1,p3.2):=by
  simp only [GC,jR,h1,h2,if_false,if_true,List.length_cons]
  refine Option.bind_congr fun s1 _=>Option.bind_congr fun p hp=> ?_
  obtain ⟨hs1,l1⟩:=p
  have e1:=jY (kY cd rr pl _ _ _ _ _ _ _ _ hp)
  cases l1 with
  |nil=>rfl
  | cons x2 r2=>
    simp only [List.length_cons] at e1
    simp only
    split
    · rw [xg cd rr pl (r.length+1) (r2.length+1) r2 _ _ _ _ (by omega) (by omega)]
      refine Option.bind_congr fun p hp=> ?_
      obtain ⟨hs2,l2⟩:=p
      have e2:=jY (kY cd rr pl _ _ _ _ _ _ _ _ hp)
      cases l2 with
      |nil=>rfl
      | cons x3 r3=>
        simp only [List.length_cons] at e2
        simp only
        rw [xg cd rr pl (r.length+1) (r3.length+1) r3 _ _ _ _ (by omega) (by omega)]
    split
    · rfl
    · rw [xg cd rr pl (r.length+1) (r2.length+1) r2 _ _ _ _ (by omega) (by omega)]
theorem xh:∀(f:Nat) (s:List ι) (d:Nat) (labs:List (List UInt8)) (res:List UInt8) (st:dw) (base:Nat) (hs:List Nat) (rest:List ι) (iP:List Int),s.length<f→dS f (s.map cd) d=some iP→jR cd rr pl f s labs res st base=some (hs,rest)→rest.map cd=iP:=by
 intro f
 induction f with
 |zero=>intro s d _ _ _ _ _ _ _ h;omega
 | succ f ih =>
  intro s d labs res st base hs rest iP h hr hb
  cases s with
  |nil=>simp only [jR,Option.some.injEq,Prod.mk.injEq] at hb;simp [dS] at hr;rw [hr,←hb.2];rfl
  | cons x r =>
   simp only [List.length_cons] at h
   simp only [List.map_cons,dS] at hr
   simp only [jR] at hb
   by_cases h1:cd x=11∨cd x=5
   · simp only [h1,if_true,Option.some.injEq] at hr hb
     split at hb
     · cases hb;rw [←hr];rfl
     · cases hb
   by_cases h2:aQ (cd x)
   · simp only [h1,if_false,h2,if_true] at hr hb
     by_cases h3:64≤d
     · simp [h3] at hr
     simp only [h3,if_false] at hr
     obtain ⟨s1,_,hb⟩:=Option.bind_eq_some_iff.1 hb
     obtain ⟨⟨hs1,l1⟩,zh,hb⟩:=Option.bind_eq_some_iff.1 hb
     cases EO:dS f (r.map cd) (d+1) with
     |none=>simp [EO] at hr
     | some Fv=>
      simp only [EO] at hr
      have e1:=ih r (d+1) _ _ _ _ _ _ _ (by omega) EO zh
      have l1s:=jY (kY cd rr pl _ _ _ _ _ _ _ _ zh)
      subst e1
      cases l1 with
      |nil=>cases hb
      | cons x2 r2=>
       simp only [List.length_cons] at l1s
       simp only [List.map_cons] at hr
       simp only at hb
       by_cases h5:cd x2=5
       · simp only [h5,if_true] at hr hb
         by_cases h4:cd x=4
         · simp only [h4,if_true] at hr
           obtain ⟨⟨hs2,l2⟩,Pp,hb⟩:=Option.bind_eq_some_iff.1 hb
           cases D2:dS f (r2.map cd) (d+1) with
           |none=>simp [D2] at hr
           | some xU=>
            simp only [D2] at hr
            have e2:=ih r2 (d+1) _ _ _ _ _ _ _ (by omega) D2 Pp
            have l2s:=jY (kY cd rr pl _ _ _ _ _ _ _ _ Pp)
            subst e2
            cases l2 with
            |nil=>cases hb
            |cons x3 r3=>
             simp only [List.length_cons] at l2s
             simp only [List.map_cons] at hr
             simp only at hb
             split at hr
             · cases hr
             · obtain ⟨⟨SZ,l3⟩,PF,hb⟩:=Option.map_eq_some_iff.1 hb
               cases hb
               exact ih r3 d _ _ _ _ _ _ _ (by omega) hr PF
         · simp [h4] at hr
       · simp only [h5,if_false] at hr hb
         split at hb
         · cases hb
         · obtain ⟨⟨SZ,l3⟩,PF,hb⟩:=Option.map_eq_some_iff.1 hb
           cases hb
           exact ih r2 d _ _ _ _ _ _ _ (by omega) hr PF
   · simp only [h1,if_false,h2] at hr hb
     obtain ⟨s1,_,hb⟩:=Option.bind_eq_some_iff.1 hb
     obtain ⟨⟨hs1,l1⟩,zh,hb⟩:=Option.map_eq_some_iff.1 hb
     cases hb
     exact ih r d _ _ _ _ _ _ _ (by omega) hr zh
theorem Jw (h:oo cd (x::r) d) (h1:¬(cd x=11∨cd x=5)) (h2:¬aQ (cd x)):oo cd r d:=by
 obtain ⟨iP,h3,h4⟩:=h
 simp only [List.length_cons,List.map_cons,dS,h1,h2,if_false] at h3
 exact ⟨iP,h3,h4⟩
theorem R1 (h:oo cd (x::r) d) (h2:aQ (cd x)):oo cd r (d+1)∧¬64≤d:=by
 obtain ⟨iP,h3,h4⟩:=h
 have h1:¬(cd x=11∨cd x=5):=by unfold aQ at h2;omega
 simp only [List.length_cons,List.map_cons,dS,h1,h2,if_false,if_true] at h3
 split at h3
 · cases h3
 · rename_i h5
   split at h3
   · cases h3
   · cases h3
   · rename_i c2 r2 h6
     exact ⟨⟨_,h6,by simp⟩,h5⟩
theorem R2 {labs':List (List UInt8)} {hs:List Nat} {l:List ι} (h:oo cd r d) (hb:GC cd rr pl r labs res st base=some (hs,l)):∃x2 r2,l=x2::r2∧(x2::r2)<:+r:=by
 obtain ⟨iP,h3,h4⟩:=h
 have e:=xh _ _ _ _ _ _ _ _ _ _ (by omega) h3 hb
 have e2:=kY cd rr pl _ _ _ _ _ _ _ _ hb
 cases l with
 |nil=>exact absurd e.symm h4
 |cons x2 r2=>exact ⟨x2,r2,rfl,e2⟩
theorem uA {hs1:List Nat} {x2:ι} {r2:List ι} (h:oo cd (x::r) d) (h2:aQ (cd x)) (hb:GC cd rr pl r labs res st base=some (hs1,x2::r2)):
    (cd x2=11∧oo cd r2 d)∨(cd x2=5∧cd x=4∧oo cd r2 (d+1)∧∀labs' res' st' base' hs2 l2,GC cd rr pl r2 labs' res' st' base'=some (hs2,l2)→∃x3 r3,l2=x3::r3∧cd x3=11∧(x3::r3)<:+r2∧oo cd r3 d):=by
  obtain ⟨iP,h3,h4⟩:=h
  have h1:¬(cd x=11∨cd x=5):=by unfold aQ at h2;omega
  simp only [List.length_cons,List.map_cons,dS,h1,h2,if_false,if_true] at h3
  split at h3
  · cases h3
  · rename_i h5
    have hd:d+1≤64:=by omega
    cases EO:dS (r.length+1) (r.map cd) (d+1) with
    |none=>simp [EO] at h3
    | some Fv=>
      simp only [EO] at h3
      have e:=xh _ _ _ _ _ _ _ _ _ _ (by omega) EO hb
      have e2:=jY (kY cd rr pl _ _ _ _ _ _ _ _ hb)
      have k1:=((nj (r.length+1) (r.map cd) (d+1) (by simp) hd).2 _ EO).2.1
      subst e
      simp only [List.length_cons] at e2
      simp only [List.map_cons] at h3 k1
      rcases k1 _ _ rfl with e5|e5
      · refine .inl ⟨e5, ?_⟩
        simp only [e5,show ¬((11:Int)=5) by decide,if_false] at h3
        exact ⟨iP,by rw [←h3];exact nq _ _ _ _ (by simp) (by simp;omega),h4⟩
      · simp only [e5,if_true] at h3
        split at h3
        · rename_i e4
          refine .inr ⟨e5,e4, ?_⟩
          cases D2:dS (r.length+1) (r2.map cd) (d+1) with
          |none=>simp [D2] at h3
          | some xU=>
            simp only [D2] at h3
            have hr2':dS (r2.length+1) (r2.map cd) (d+1)=some xU:=by rw [←D2];exact nq _ _ _ _ (by simp) (by simp;omega)
            have hne:xU≠[]:=by intro e;subst e;cases h3
            refine ⟨⟨xU,hr2',hne⟩,fun labs' res' st' base' hs2 l2 Pp=> ?_⟩
            have e7:=xh _ _ _ _ _ _ _ _ _ _ (by omega) hr2' Pp
            have e8:=kY cd rr pl _ _ _ _ _ _ _ _ Pp
            have k2:=((nj (r2.length+1) (r2.map cd) (d+1) (by simp) hd).2 _ hr2').2.1
            subst e7
            cases l2 with
            |nil=>exact absurd rfl hne
            | cons x3 r3=>
              have e9:=jY e8
              simp only [List.length_cons] at e9
              simp only [List.map_cons] at h3 k2
              split at h3
              · cases h3
              · rename_i hn5
                refine ⟨x3,r3,rfl,(k2 _ _ rfl).resolve_right hn5,e8,⟨iP, ?_,h4⟩⟩
                rw [←h3];exact nq _ _ _ _ (by simp) (by simp;omega)
        · cases h3
end
end Go.Hl
end
section
namespace Go.Hl
open Go.RowKit
def ck (l:List aA):List Int:=l.map (·.Code)
def rc (s:List Int) (d:Nat):Option (List Int):=dS (s.length+1) s d
theorem Uz {c:Int} {r:List Int} {d:Nat} (h:c=11∨c=5):rc (c::r) d=some (c::r):=by simp only [rc,List.length_cons,dS,h,if_true]
theorem PI {c:Int} {r:List Int} {d:Nat} (h:¬(c=11∨c=5)) (h2:¬aQ c):rc (c::r) d=rc r d:=by simp only [rc,List.length_cons,dS,h,h2,if_false]
theorem R3 {c:Int} {r:List Int} {d:Nat} (h2:aQ c) (h3:64≤d):rc (c::r) d=none:=by
 have h:¬(c=11∨c=5):=by unfold aQ at h2;omega
 simp only [rc,List.length_cons,dS,h,h2,h3,if_false,if_true]
theorem vM {c:Int} {r:List Int} {d:Nat} (h2:aQ c) (h3:¬64≤d):rc (c::r) d=match rc r (d+1) with
    |none=>none
    |some []=>none
    |some (c2::r2)=>if c2=5 then (if c=4 then (match rc r2 (d+1) with|none=>none|some []=>none|some (c3::r3)=>if c3=5 then none else rc r3 d) else none) else rc r2 d:=by
  have h:¬(c=11∨c=5):=by unfold aQ at h2;omega
  simp only [rc,List.length_cons,dS,h,h2,h3,if_false,if_true]
  cases hr:dS (r.length+1) r (d+1) with
  |none=>rfl
  | some s =>
    cases s with
    |nil=>rfl
    | cons c2 r2=>
      have e1:=jY (vL _ _ _ _ hr)
      simp only [List.length_cons] at e1
      simp only
      rw [nq (r.length+1) (r2.length+1) r2 (d+1) (by omega) (by omega),nq (r.length+1) (r2.length+1) r2 d (by omega) (by omega)]
      split
      · split
        · cases D2:dS (r2.length+1) r2 (d+1) with
          |none=>rfl
          | some s2=>
            cases s2 with
            |nil=>rfl
            | cons c3 r3=>
              have e2:=jY (vL _ _ _ _ D2)
              simp only [List.length_cons] at e2
              simp only
              rw [nq (r.length+1) (r3.length+1) r3 d (by omega) (by omega)]
        · rfl
      · rfl
theorem R4 {s r:List Int} {c:Int} {d:Nat} (hd:d≤64) (h:rc s d=some (c::r)):c=11∨c=5:=((nj (s.length+1) s d (by omega) hd).2 _ h).2.1 c r rfl
theorem Cg (l:List aA):(ck l).length=l.length:=by simp [ck]
theorem fA {l:List aA} {i:Nat} {x:aA} (h:l[i]?=some x):(ck l).drop i=x.Code::(ck l).drop (i+1):=by
 refine yN ?_
 rw [ck,List.getElem?_map,h];rfl
theorem nr {l:List aA} {i:Nat} (h:l.length≤i):(ck l).drop i=[]:=List.drop_eq_nil_of_le (by rw [Cg];exact h)
def Xo (l:List aA) (a d:Nat) (en:Int) (sp:List A7) (e:Int):Prop:=
 (e=0∧∃n:Nat,en=(n:Int)∧rc ((ck l).drop a) d=some ((ck l).drop n)∧a≤n∧n≤l.length∧sp.length+a≤n)∨(e≠0∧rc ((ck l).drop a) d=none∧sp=[])
theorem yQ {l:List aA} {a d:Nat} {en:Int} {sp:List A7} {e:Int} (h:Xo l a d en sp e):sp.length≤l.length:=by
 rcases h with ⟨_,n,_,_,_,h5,h6⟩|⟨_,_,h⟩
 · omega
 · rw [h];simp
def rcM (l:List aA) (i d:Nat) (en:Int) (sp:List A7) (e:Int):Prop:=
 (e≠0∧rc ((ck l).drop i) d=none∧sp.length≤20000)∨(e=0∧en=(l.length:Int)∧rc ((ck l).drop i) d=none∧sp.length≤20000)∨
 (e=0∧∃n:Nat,en=(n:Int)∧n<l.length∧rc ((ck l).drop i) d=rc ((ck l).drop (n+1)) d∧i+1≤n∧sp.length+i+1≤n)
theorem aB.none {α:Type} {n:Nat} {enc:α→List VP} {r:List HP}:aB r (au none n enc ([]:List α)::r):=fun F S w h=>⟨fun _=>False,F,fun _ h=>h.elim,fun _ h=>h,rfl,h⟩
section
variable {l:List aA} {i d:Nat} {x:aA}
theorem Jx (hx:l[i]?=some x) (ho:aQ x.Code) (hd:¬64≤d) {n:Nat} {y:aA} (hr:rc ((ck l).drop (i+1)) (d+1)=some ((ck l).drop n)) (hy:l[n]?=some y) (h5:y.Code=5) (h4:x.Code≠4):rc ((ck l).drop i) d=none:=by
 rw [fA hx,vM ho hd,hr,fA hy]
 simp only [h5,if_true,h4,if_false]
theorem UA {n:Nat} {y:aA} (hx:l[i]?=some x) (ho:aQ x.Code) (hd:¬64≤d) (hr:rc ((ck l).drop (i+1)) (d+1)=some ((ck l).drop n)) (hy:l[n]?=some y) (h5:y.Code=5) (h4:x.Code=4):
    rc ((ck l).drop i) d=match rc ((ck l).drop (n+1)) (d+1) with|none=>none|some []=>none|some (c3::r3)=>if c3=5 then none else rc r3 d:=by
  rw [fA hx,vM ho hd,hr,fA hy]
  simp only [h5,if_true,h4]
theorem UB {n:Nat} {y:aA} (hx:l[i]?=some x) (ho:aQ x.Code) (hd:¬64≤d) (hr:rc ((ck l).drop (i+1)) (d+1)=some ((ck l).drop n)) (hy:l[n]?=some y) (h5:y.Code≠5):
    rc ((ck l).drop i) d=rc ((ck l).drop (n+1)) d:=by
  rw [fA hx,vM ho hd,hr,fA hy]
  simp only [h5,if_false]
theorem R5 (hx:l[i]?=some x) (ho:aQ x.Code) (hd:¬64≤d) (hr:rc ((ck l).drop (i+1)) (d+1)=none):rc ((ck l).drop i) d=none:=by
 rw [fA hx,vM ho hd,hr]
theorem PJ (hx:l[i]?=some x) (ho:aQ x.Code) (hd:¬64≤d) {n:Nat} (hn:l.length≤n) (hr:rc ((ck l).drop (i+1)) (d+1)=some ((ck l).drop n)):rc ((ck l).drop i) d=none:=by
 rw [fA hx,vM ho hd,hr,nr hn]
theorem R6 (hx:l[i]?=some x) (ho:aQ x.Code) (hd:¬64≤d) {en e:Int} {sp:List A7} (h:Xo l (i+1) (d+1) en sp e) (Kl:l.length≤10000) (hn:¬((e=0∧en<(l.length:Int))∧(gI l en.toNat).Code=5)):rcM l i d en sp e:=by
 rcases h with ⟨h1,n,h2,h3,h4,h5,h6⟩|⟨h1,h2,h3⟩
 · by_cases hlt:n<l.length
   · refine .inr (.inr ⟨h1,n,h2,hlt, ?_,h4,by omega⟩)
     have hy:l[n]?=some (gI l n):=vG hlt
     exact UB hx ho hd h3 hy (fun h9=>hn ⟨⟨h1,by omega⟩,by rw [h2];simpa using h9⟩)
   · exact .inr (.inl ⟨h1,by omega,PJ hx ho hd (by omega) h3,by omega⟩)
 · exact .inl ⟨h1,R5 hx ho hd h2,by rw [h3];simp⟩
theorem KJ (hx:l[i]?=some x) (ho:aQ x.Code) (hd:¬64≤d) (bv7:d≤64) {en e UC e2:Int} {sp sp2:List A7} (h:Xo l (i+1) (d+1) en sp e) (Kl:l.length≤10000) (hn:(e=0∧en<(l.length:Int))∧(gI l en.toNat).Code=5) (h4:x.Code=4) (h':Xo l (en.toNat+1) (d+1) UC sp2 e2):
    (((e2=0∧UC<(l.length:Int))∧(gI l UC.toNat).Code=5)→rc ((ck l).drop i) d=none)∧(¬((e2=0∧UC<(l.length:Int))∧(gI l UC.toNat).Code=5)→rcM l i d UC (sp++sp2) e2):=by
  rcases h with ⟨_,n,h2,h3,h4',h5,h6⟩|⟨h1,h2,h3⟩
  · obtain ⟨⟨h1,h1'⟩,Vv⟩:=hn
    have hlt:n<l.length:=by omega
    have hen:en.toNat=n:=by omega
    rw [hen] at Vv h'
    have hy:l[n]?=some (gI l n):=vG hlt
    have hk:=UA hx ho hd h3 hy Vv h4
    rw [hk]
    rcases h' with ⟨k1,n2,k2,k3,k4,k5,k6⟩|⟨k1,k2,k3⟩
    · by_cases Xp:n2<l.length
      · have hy2:l[n2]?=some (gI l n2):=vG Xp
        have hn2:UC.toNat=n2:=by omega
        rw [k3,fA hy2]
        simp only
        refine ⟨fun h9=> ?_,fun h9=> ?_⟩
        · rw [if_pos (by rw [hn2] at h9;exact h9.2)]
        · refine .inr (.inr ⟨k1,n2,k2,Xp, ?_,by omega,by rw [List.length_append];omega⟩)
          rw [hk,k3,fA hy2]
          simp only
          rw [if_neg (fun h8=>h9 ⟨⟨k1,by omega⟩,by rw [hn2];exact h8⟩)]
      · have he:=nr (l:=l) (i:=n2) (by omega)
        rw [k3,he]
        refine ⟨fun _=>rfl,fun _=> .inr (.inl ⟨k1,by omega,by rw [hk,k3,he],by rw [List.length_append];omega⟩)⟩
    · rw [k2]
      exact ⟨fun _=>rfl,fun _=> .inl ⟨k1,by rw [hk,k2],by rw [List.length_append,k3];simp;omega⟩⟩
  · exact absurd hn.1.1 h1
end
theorem yR (l:List aA):eZ (ck l) []↔rc (ck l) 0=some [11]:=wV (by omega)
end Go.Hl
namespace Go.Hl
theorem yS (v:Int):v.tmod 128=if 0≤v then v%128 else-((-v)%128):=by
 split
 · rename_i h;exact Int.tmod_eq_emod_of_nonneg h
 · rename_i h
   have h1:v.tmod 128= -((-v).tmod 128):=by rw [Int.neg_tmod];omega
   rw [h1,Int.tmod_eq_emod_of_nonneg (by omega)]
theorem R7 {v:Int} (h1: -9223372036854775680≤v) (h2:v≤9223372036854775807):IntKind.i64.wrap ((IntKind.i64.wrap (v-v%128)).tdiv 128)=v/128:=by
 have hw:IntKind.i64.wrap (v-v%128)=128*(v/128):=by rw [eE (bY (by omega) (by omega))];omega
 rw [hw,Int.mul_tdiv_cancel_left _ (by decide)];exact eE (bY (by omega) (by omega))
theorem MP {v:Int} (h:(v/128=0∧v%128<64)∨(v/128= -1∧64≤v%128)):lu v=1:=vv (by omega)
theorem R8 {v:Int} (h:¬((v/128=0∧v%128<64)∨(v/128= -1∧64≤v%128))):lu v=lu (v/128)+1:=Ac (by omega)
theorem MQ (t:UInt8):∀(n:Nat) (l:List UInt8),0<n→n≤l.length→(∀j,j<n→l[j]?=some t)→l[n]?≠some t→gO l=n::gO (l.drop n):=by
 intro n
 induction n with
 |zero=>intro l h;omega
 | succ n ih=>
  intro l _ hl ha hn
  cases l with
  |nil=>simp at hl
  |cons a l=>
   have h0:=ha 0 (by omega)
   simp only [List.getElem?_cons_zero,Option.some.injEq] at h0
   subst h0
   simp only [List.drop_succ_cons]
   by_cases h:n=0
   · subst h
     simp only [List.drop_zero]
     cases l with
     |nil=>rfl
     |cons b r=>
      have hb:b≠a:=fun e=>hn (by simp [e])
      obtain ⟨k,s,hk⟩:=Ap b r
      have e:gO (a::b::r)=match gO (b::r) with|n::r=>if b=a then (n+1)::r else 1::n::r|_=>[1]:=by rw [gO.eq_def];simp only;split<;>simp_all
      rw [e,hk]
      simp only
      rw [if_neg hb]
   · have i1:=ih l (by omega) (by simp at hl;omega) (fun j hj=>by have:=ha (j+1) (by omega);simpa using this) (fun e=>hn (by simpa using e))
     cases l with
     |nil=>simp at hl;omega
     |cons b r=>
      have hb:b=a:=by have:=ha 1 (by omega);simpa using this
      have e:gO (a::b::r)=match gO (b::r) with|n::r=>if b=a then (n+1)::r else 1::n::r|_=>[1]:=by rw [gO.eq_def];simp only;split<;>simp_all
      rw [e,i1]
      simp only
      rw [if_pos hb]
def vN (p:List Nat):Nat:=(p.map fun n=>fK n+1).sum
theorem MR (p:List Nat) (n:Nat):vN (p++[n])=vN p+(fK n+1):=by simp [vN]
theorem GD:∀(p:List Nat),(∀n∈p,n≤1000000)→vN p≤11*p.length
 |[],_=>by simp [vN]
 |n::p,h=>by
  have h1:=GD p (fun q hq=>h q (List.mem_cons_of_mem _ hq))
  have h2:=h n (List.mem_cons_self ..)
  have h3:fK n≤10:=dF (by omega)
  simp only [vN,List.map_cons,List.sum_cons,List.length_cons] at h1 ⊢
  omega
theorem PK (b:kr):Ma b=fK (gO b.aV).length+vN (gO b.aV)+w8 b.L:=rfl
theorem MS:gO []=[]:=rfl
end Go.Hl
namespace Go.Hl
theorem PL {t:UInt8}:(t.toNat:Int)=126↔t=126:=by rw [←UInt8.toNat_inj];simp;omega
theorem PM {t:UInt8}:(t.toNat:Int)=127↔t=127:=by rw [←UInt8.toNat_inj];simp;omega
def gU (l:List UInt8) (j:Nat):UInt8:=l.getD j 0
theorem KK {l:List UInt8} {j:Nat} (h:j<l.length):l[j]?=some (gU l j):=by unfold gU;rw [List.getD_eq_getElem?_getD,List.getElem?_eq_getElem h];rfl
theorem R9 {l:List UInt8} {k k2:Nat} {t:UInt8} (hk:k<k2) (h2:k2≤l.length) (ha:∀j,j<k2-k→(l.drop k)[j]?=some t) (hn:¬((k2:Int)<(l.length:Int)∧((gU l k2).toNat:Int)=(t.toNat:Int))):gO (l.drop k)=(k2-k)::gO (l.drop k2):=by
 have h9:=MQ t (k2-k) (l.drop k) (by omega) (by rw [List.length_drop];omega) ha (fun e=>by
  rw [List.getElem?_drop,show k+(k2-k)=k2 by omega] at e
  have hl:=(List.getElem?_eq_some_iff.1 e).1
  rw [KK hl] at e
  exact hn ⟨by omega,by rw [Option.some.inj e]⟩)
 rw [List.drop_drop,show k+(k2-k)=k2 by omega] at h9
 exact h9
theorem PN {l:List UInt8} {k k2:Nat} {t:UInt8} (hk:k≤k2) (ht:l[k]?=some t) (hn:¬((k2:Int)<(l.length:Int)∧((gU l k2).toNat:Int)=(t.toNat:Int))):k<k2:=by
 rcases Nat.lt_or_ge k k2 with h|h
 · exact h
 · have he:k2=k:=by omega
   subst he
   have hl:=(List.getElem?_eq_some_iff.1 ht).1
   rw [KK hl] at ht
   exact absurd ⟨by omega,by rw [Option.some.inj ht]⟩ hn
end Go.Hl
end
