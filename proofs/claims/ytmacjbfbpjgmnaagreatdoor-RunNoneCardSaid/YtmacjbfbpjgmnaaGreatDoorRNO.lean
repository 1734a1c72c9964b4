/-
  What the statement's proof leans on, several texts in one (packed by a program).
-/
import Derived.Test.YtmacjbfbpjgmnaaGreatDoorRNN
set_option linter.all false
set_option maxRecDepth 1000000
set_option maxHeartbeats 4000000
section
namespace Go.Hl
open Go.RowKit Classical
def fJ(a b:Nat)(s:bl):bl:=({s.1 with fuel:=a,bN:=b},s.2)
section
variable {K:eU} {Z:Nat} {a b:Nat}
theorem zQ(s:bl):fJ s.1.fuel s.1.bN s=s:=rfl
theorem tX{p:Prop}[Decidable p]{x y u v:bl}{f:bl→bl}(h1:x=f y)(h2:u=f v):(if p then x else u)=f (if p then y else v):=by split<;>assumption
theorem rO{p:Prop}[Decidable p]{x y:bl}{u v:Option bl}{f:bl→bl}(h1:x=f y)(h2:u=v.map f):(if p then some x else u)=(if p then some y else v).map f:=by
 split
 · rw[h1];rfl
 · exact h2
theorem Iy(t e:Nat)(s:bl):yh t e (fJ a b s)=fJ a b (yh t e s):=tX rfl (tX rfl rfl)
theorem xy(t e:Nat)(c:cg)(s:bl):yh t e ((fJ a b s).1,c)=fJ a b (yh t e (s.1,c)):=Iy t e (s.1,c)
theorem rP(f:Nat)(s:bl):iT K f (fJ a b s)=fJ a b (iT K f s):=tX rfl (tX (f:=fJ a b) rfl rfl)
theorem xz(s:bl):js K (fJ a b s)=fJ a b (js K s):=tX rfl rfl
theorem Gj(x:aq)(s:bl):pF K x (fJ a b s)=fJ a b (pF K x s):=tX rfl (tX (rP _ (s.1,(aC s.2).2)) rfl)
theorem A5(x:aq)(at_:Nat)(s:bl):aW K x at_ (fJ a b s)=(aW K x at_ s).map (fJ a b):=
 rO rfl (rO rfl (rO rfl (rO rfl (rO rfl (rO rfl (rO (xz _) (rO (rP _ _) (rO (Gj _ _) rfl))))))))
theorem MR(x:aq)(n:Nat)(s:bl):Rz K Z x n (fJ a b s)=fJ a b (Rz K Z x n s):=tX rfl (Iy _ _ (s.1,(aC s.2).2))
theorem MS(x:aq)(n:Nat)(s:bl):OZ Z x n (fJ a b s)=fJ a b (OZ Z x n s):=by
 unfold OZ;exact xy _ _ _ s
theorem J9(x:aq)(s:bl):C4 Z x (fJ a b s)=fJ a b (C4 Z x s):=by
 unfold C4;exact xy _ _ _ s
theorem Ka(x:aq)(s:bl):C5 Z x (fJ a b s)=fJ a b (C5 Z x s):=by
 unfold C5;exact xy _ _ _ s
theorem DA(x:aq)(s:bl):fq K Z x (fJ a b s)=(fq K Z x s).map (fJ a b):=by
 unfold fq;by_cases h:(dY x.Code).Form=8∨(dY x.Code).Form=9∨(dY x.Code).Form=10
 · rw[if_pos h,if_pos h]
   cases iC x.Code with
   |some n=>exact congrArg some (tX (MR _ _ _) (MS _ _ _))
   |none=>exact congrArg some (tX rfl (tX rfl (tX (J9 _ _) (tX (Ka _ _) rfl))))
 · rw[if_neg h,if_neg h];rfl
theorem A6(x:aq)(s:bl):cJ K x (fJ a b s)=(cJ K x s).map (fJ a b):=by
 unfold cJ;cases kS x.Code with
 |none=>rfl
 |some g=>exact rO rfl (rO rfl (rO rfl rfl))
theorem DB(x:aq)(s:bl):cF K x (fJ a b s)=(cF K x s).map (fJ a b):=rO rfl (rO rfl (rO rfl (A6 _ _)))
theorem Iz(x:aq)(at_:Nat)(s:bl):zJ K Z x at_ (fJ a b s)=fJ a b (zJ K Z x at_ s):=by
 unfold zJ;rw[A5];cases aW K x at_ s with
 |some s'=>rfl
 | none=>
  show(match bf K x s.2 with|some c=>_|none=>_)=fJ a b (match bf K x s.2 with|some c=>_|none=>_)
  cases bf K x s.2 with
  |some c=>rfl
  | none=>
   show(match fq K Z x (fJ a b s) with|some s'=>_|none=>_)=fJ a b (match fq K Z x s with|some s'=>_|none=>_)
   rw[DA];cases fq K Z x s with
   |some s'=>rfl
   |none=>
    show(cF K x (fJ a b s)).getD (fJ a b s)=fJ a b ((cF K x s).getD s)
    rw[DB];cases cF K x s<;>rfl
theorem Kb(s:bl):(eE K Z s).1.fuel+(eE K Z s).1.bN=s.1.fuel+s.1.bN:=by
 unfold eE;simp only;cases (K.made (bt s.2).fn).body.L[(bt s.2).pl]? with
 |none=>
  have h:=xz (K:=K) (a:=s.1.fuel) (b:=s.1.bN) s;rw[zQ] at h;rw[h];rfl
 |some x=>
  show(if s.1.fuel<bZ x s.2 then mD 10 s else _:bl).1.fuel+(if s.1.fuel<bZ x s.2 then mD 10 s else _:bl).1.bN=_
  by_cases hc:s.1.fuel<bZ x s.2
  · rw[if_pos hc];rfl
  · rw[if_neg hc]
    have h:=Iz (K:=K) (Z:=Z) (a:=s.1.fuel-bZ x s.2) (b:=s.1.bN+bZ x s.2) x (bt s.2).pl ({s.1 with fuel:=s.1.fuel-bZ x s.2,bN:=s.1.bN+bZ x s.2},vz (((bt s.2).pl:Int)+1) s.2);rw[show fJ (s.1.fuel-bZ x s.2) (s.1.bN+bZ x s.2) (({s.1 with fuel:=s.1.fuel-bZ x s.2,bN:=s.1.bN+bZ x s.2},vz (((bt s.2).pl:Int)+1) s.2):bl)=({s.1 with fuel:=s.1.fuel-bZ x s.2,bN:=s.1.bN+bZ x s.2},vz (((bt s.2).pl:Int)+1) s.2) from rfl] at h;rw[h]
    show s.1.fuel-bZ x s.2+(s.1.bN+bZ x s.2)=_
    omega
theorem ko(n:Nat)(s:bl)(h:s.1.over=true):bM K Z n s=s:=by
 cases n with
 |zero=>rfl
 |succ n=>unfold bM;rw[if_pos h]
theorem rQ(n k:Nat):∀s:bl,bM K Z (n+k) s=bM K Z k (bM K Z n s):=by
 induction n with
 |zero=>intro s;rw[Nat.zero_add];rfl
 |succ n ih=>
  intro s;rw[show n+1+k=(n+k)+1 by omega];by_cases h:s.1.over=true
  · rw[ko _ s h,ko _ s h,ko _ s h]
  · show(if s.1.over=true then s else _)=bM K Z k (if s.1.over=true then s else _)
    rw[if_neg h,if_neg h,ih]
theorem uL{n k:Nat}{s:bl}(h1:(bM K Z n s).1.over=true)(h2:(bM K Z k s).1.over=true):bM K Z n s=bM K Z k s:=by
 rcases Nat.le_total n k with h|h
 · obtain⟨d,rfl⟩:=Nat.le.dest h
   rw[rQ,ko _ _ h1]
 · obtain⟨d,rfl⟩:=Nat.le.dest h
   rw[rQ,ko _ _ h2]
theorem xA:∀(n:Nat) (s:bl),(bM K Z n s).1.fuel+(bM K Z n s).1.bN=s.1.fuel+s.1.bN
 |0,_=>rfl
 |n+1,s=>by
  show(if s.1.over=true then s else _:bl).1.fuel+(if s.1.over=true then s else _:bl).1.bN=_
  split
  · rfl
  · rw[xA n,Kb]
end
section
variable {K:eU} {Z:Nat}
structure YZ where
 bN:Nat
 lE:Int×Int
 out:C3
 host:Nat
section
variable {s:bl} (c:YZ) (h:s.1.over=false)
include h
end
end
theorem IA{ι:Type}{cd:ι→Int}{rr:ι→List UInt8}{pl:ι→jW→List (List UInt8)→Option jW}:∀{l:List ι} {fs:List fm} {hs:List Nat},nT cd rr pl l fs=some hs→∀x∈l,∃fs' b,eg cd rr pl x fs' b≠none
 |[],_,_,_,x,hx=>by cases hx
 | y ::r,fs,hs,h,x,hx=>by
  unfold nT at h;cases hl:fs.getLast? with
  |none=>rw[hl] at h;cases h
  | some b=>
   rw[hl] at h;simp only at h;cases hst:eg cd rr pl y fs.dropLast b with
   |none=>rw[hst] at h;cases h
   | some fs'=>
    rw[hst] at h;simp only[Option.bind_some] at h;cases hr:nT cd rr pl r fs' with
    |none=>rw[hr] at h;cases h
    |some hs'=>
     rcases List.mem_cons.1 hx with rfl|hx
     · exact⟨_,_,by rw[hst];exact fun e=>by cases e⟩
     · exact IA hr x hx
variable {α:Type}
theorem jb{l:List α}{n:Int}{x:α}(h:dI l n=some x):0≤n∧n<(l.length:Int)∧l[n.toNat]?=some x:=by
 unfold dI at h
 split at h
 · rename_i hn;exact⟨hn.2,hn.1,h⟩
 · cases h
structure yw(m:aR)(x:aq):Prop where
 call:x.Code=16→0≤x.A∧x.A<(m.av.length:Int)+(m.aB.length:Int)
 sig:x.Code=17→0≤x.A∧x.A<(m.cY.length:Int)
 O8:x.Code=35∨x.Code=36→0≤x.A∧x.A<(m.aH.length:Int)
 mt:x.Code=36→∃z,m.aH[x.A.toNat]?=some z∧z.fP
 mem:aP x.Code=8∨aP x.Code=9∨aP x.Code=10→0≤x.A∧x.A<(m.dU.length:Int)
 bg1:aP x.Code=10→0≤x.B∧x.B<(m.dU.length:Int)
theorem jv{β:Type}{o:Option α}{f:α→Option β}(h:o.bind f≠none):∃a,o=some a∧f a≠none:=by
 cases o with
 |none=>exact absurd rfl h
 |some a=>exact⟨a,rfl,h⟩
theorem A7{β:Type}{o:Option α}{f:α→β}(h:o.map f≠none):o≠none:=fun e=>h (by rw[e];rfl)
variable {m:aR} {x:aq}
theorem yw.no(h:x.Code≠16∧x.Code≠17∧x.Code≠35∧x.Code≠36)(hf:aP x.Code≠8∧aP x.Code≠9∧aP x.Code≠10):yw m x:=
 ⟨fun e=>absurd e h.1,fun e=>absurd e h.2.1,fun e=>e.elim (fun e=>absurd e h.2.2.1) (fun e=>absurd e h.2.2.2),fun e=>absurd e h.2.2.2,fun e=>e.elim (fun e=>absurd e hf.1) (fun e=>e.elim (fun e=>absurd e hf.2.1) (fun e=>absurd e hf.2.2)),fun e=>absurd e hf.2.2⟩
theorem MT{f:bU}{s:jW}{labs:List (List UInt8)}(h:gN (bJ m f) x s labs≠none)(hb:¬aV x.Code∧x.Code≠5∧x.Code≠11):yw m x:=by
 have key:∀c:Int,aP c=8∨aP c=9∨aP c=10→c≠0∧c≠12∧c≠13∧c≠14∧c≠15∧c≠16∧c≠17∧c≠26∧c≠27∧c≠32∧c≠33∧c≠34∧c≠35∧c≠36:=fun c hc=>by
  refine⟨?_,?_,?_,?_,?_,?_,?_,?_,?_,?_,?_,?_,?_,?_⟩<;>(rintro rfl;revert hc;decide)
 have hmem:aP x.Code=8∨aP x.Code=9∨aP x.Code=10→nW (bJ m f) x s≠none:=fun hf=>by
  obtain⟨a0,a1,a2,a3,a4,a5,a6,a7,a8,a9,b0,b1,b2,b3⟩:=key _ hf;unfold gN at h;rw[if_neg a0,if_neg a1,if_neg a2,if_neg a3,if_neg a4,if_neg a5,if_neg a6,if_neg a7,if_neg a8,if_neg a9,if_neg b0,if_neg b1,if_neg b2,if_neg b3,if_neg (by omega)] at h;exact h
 refine⟨fun e=>?_,fun e=>?_,fun e=>?_,fun e=>?_,fun e=>?_,fun e=>?_⟩
 · unfold gN at h
   rw[if_neg (by rw[e];decide),if_neg (by rw[e];decide),if_neg (by rw[e];decide),if_neg (by rw[e];decide),if_neg (by rw[e];decide),if_pos e] at h;obtain⟨g,hg,_⟩:=jv h;obtain⟨h1,h2,_⟩:=jb hg;refine⟨h1,?_⟩;simp[bJ] at h2;omega
 · unfold gN at h
   rw[if_neg (by rw[e];decide),if_neg (by rw[e];decide),if_neg (by rw[e];decide),if_neg (by rw[e];decide),if_neg (by rw[e];decide),if_neg (by rw[e];decide),if_pos e] at h;obtain⟨g,hg,_⟩:=jv h;obtain⟨h1,h2,_⟩:=jb hg;exact⟨h1,h2⟩
 · unfold gN at h
   rcases e with e|e
   · rw[if_neg (by rw[e];decide),if_neg (by rw[e];decide),if_neg (by rw[e];decide),if_neg (by rw[e];decide),if_neg (by rw[e];decide),if_neg (by rw[e];decide),if_neg (by rw[e];decide),if_neg (by rw[e];decide),if_neg (by rw[e];decide),if_neg (by rw[e];decide),if_neg (by rw[e];decide),if_neg (by rw[e];decide),if_pos e] at h
     have h9:=A7 h;obtain⟨g,hg⟩:=Option.ne_none_iff_exists'.1 h9;obtain⟨h1,h2,_⟩:=jb hg;exact⟨h1,by simpa[bJ] using h2⟩
   · rw[if_neg (by rw[e];decide),if_neg (by rw[e];decide),if_neg (by rw[e];decide),if_neg (by rw[e];decide),if_neg (by rw[e];decide),if_neg (by rw[e];decide),if_neg (by rw[e];decide),if_neg (by rw[e];decide),if_neg (by rw[e];decide),if_neg (by rw[e];decide),if_neg (by rw[e];decide),if_neg (by rw[e];decide),if_neg (by rw[e];decide),if_pos e] at h
     obtain⟨g,hg,_⟩:=jv h;obtain⟨h1,h2,_⟩:=jb hg;exact⟨h1,by simpa[bJ] using h2⟩
 · unfold gN at h
   rw[if_neg (by rw[e];decide),if_neg (by rw[e];decide),if_neg (by rw[e];decide),if_neg (by rw[e];decide),if_neg (by rw[e];decide),if_neg (by rw[e];decide),if_neg (by rw[e];decide),if_neg (by rw[e];decide),if_neg (by rw[e];decide),if_neg (by rw[e];decide),if_neg (by rw[e];decide),if_neg (by rw[e];decide),if_neg (by rw[e];decide),if_pos e] at h;obtain⟨g,_,h2⟩:=jv h;obtain⟨p,hp,h3⟩:=jv h2;obtain⟨_,_,h4⟩:=jb hp;have h5:(m.aH.map (·.fP))[x.A.toNat]?=some p:=h4;rw[List.getElem?_map] at h5;obtain⟨z,hz,rfl⟩:=Option.map_eq_some_iff.1 h5;refine⟨z,hz,?_⟩;by_cases hm:z.fP
   · exact hm
   · rw[if_neg hm] at h3;exact absurd rfl h3
 · obtain⟨wa,hwa,_⟩:=jv (hmem e)
   obtain⟨h1,h2,_⟩:=jb hwa;exact⟨h1,by simpa[bJ] using h2⟩
 · obtain⟨wa,hwa,h3⟩:=jv (hmem (.inr (.inr e)))
   obtain⟨wb,T3,_⟩:=jv h3;rw[if_pos e] at T3;obtain⟨h1,h2,_⟩:=jb T3;exact⟨h1,by simpa[bJ] using h2⟩
theorem xB{f:bU}(hv:ec m)(hf:f∈m.aB)(hx:x∈f.Body.L):yw m x:=by
 obtain⟨_,hs,h⟩:=hv.2 f hf;obtain⟨fs,b,hst⟩:=IA h x hx;by_cases h11:x.Code=11
 · exact .no (by omega) (by rw[h11];decide)
 by_cases h5:x.Code=5
 · exact .no (by omega) (by rw[h5];decide)
 by_cases ho:aV x.Code
 · have h2:x.Code=2∨x.Code=3∨x.Code=4:=by unfold aV at ho;omega
   exact .no (by omega) (by rcases h2 with h2|h2|h2<;>rw[h2]<;>decide)
 · unfold eg at hst
   rw[if_neg h11,if_neg h5,if_neg ho] at hst;exact MT (A7 hst) ⟨ho,h5,h11⟩
structure pO(K:eU)(c:cg):Prop where
 cN:∀f∈c.cN,f.fn<K.own.length
 tb:∀v∈c.tb,v≤K.cH+K.own.length
structure dF(K:eU)(s:bl):Prop where
 c:pO K s.2
 run:s.1.over=false→s.2.cN≠[]
section
variable {K:eU} {Z:Nat}
def gH(c:cg):List jx×List Nat:=(c.cN,c.tb)
theorem pO.of{c d:cg}(h:pO K c)(e:gH d=gH c):pO K d:=by
 have e1:d.cN=c.cN:=congrArg Prod.fst e;have e2:d.tb=c.tb:=congrArg Prod.snd e;exact⟨e1▸h.cN,e2▸h.tb⟩
theorem dF.of{s:bl}{c:cg}{m:mV}(h:dF K s)(e:gH c=gH s.2)(ho:m.over=false→s.1.over=false):dF K (m,c):=
 ⟨h.c.of e,fun hm=>by have e1:c.cN=s.2.cN:=congrArg Prod.fst e;show c.cN≠[];rw[e1];exact h.run (ho hm)⟩
theorem vC{p:Prop}[Decidable p]{x y c:cg}(h1:gH x=gH c)(h2:gH y=gH c):gH (if p then x else y)=gH c:=by split<;>assumption
theorem eH(l:List Nat)(c:cg):gH (dX K l c)=gH c:=vC rfl rfl
theorem DC(n:Nat)(c:cg):gH (iJ n c).2=gH c:=by unfold iJ;split<;>rfl
theorem A8(k h:Int)(c:cg):gH (sV k h c)=gH c:=vC rfl rfl
theorem dF.end_{s:bl}(h:pO K s.2)(o:C3):dF K (qF o s):=by
 refine⟨?_,fun e=>by cases e⟩
 show pO K (if o.kind=0∨o.kind=1 then _ else _)
 split
 · exact⟨fun f hf=>(by cases hf),h.tb⟩
 · exact h
theorem fR{p:Prop}[Decidable p]{x y:bl}(h1:p→dF K x)(h2:¬p→dF K y):dF K (if p then x else y):=by
 by_cases hp:p
 · rw[if_pos hp];exact h1 hp
 · rw[if_neg hp];exact h2 hp
theorem IB{c:cg}(h:c.cN≠[]):bt c∈c.cN:=by
 unfold bt;cases hl:c.cN.getLast? with
 |none=>exact absurd (List.getLast?_eq_none_iff.1 hl) h
 |some f=>exact List.mem_of_getLast? hl
theorem pO.enter{s:bl}(h:pO K s.2){f:Nat}(hf:f<K.cH+K.own.length):dF K (iT K f s):=
 fR (fun _=> .end_ (s:=(_,_)) (h.of (DC _ _)) _) fun hn=>fR (fun _=> .end_ h _) fun _=>by
  have hc:pO K {s.2 with cN:=s.2.cN++[⟨f-K.cH,0,((s.2.stk.length:Int)-((K.sig f).P.length:Int)).toNat⟩]}:=⟨fun g hg=>by
   rcases List.mem_append.1 hg with hg|hg
   · exact h.cN g hg
   · rw[List.mem_singleton.1 hg];show f-K.cH<_;omega,h.tb⟩
  refine⟨hc.of (eH _ _),fun _=>?_⟩;have e:=congrArg Prod.fst (eH (K:=K) (List.replicate ((K.made (f-K.cH)).locals-(K.sig f).P.length) 0) {s.2 with cN:=s.2.cN++[⟨f-K.cH,0,((s.2.stk.length:Int)-((K.sig f).P.length:Int)).toNat⟩]});intro e2;have e3:=e.symm.trans e2;simp[gH] at e3
theorem dF.enter{s:bl}(h:dF K s){f:Nat}(hf:f<K.cH+K.own.length):dF K (iT K f s):=pO.enter h.c hf
theorem dF.leave{s:bl}(h:dF K s):dF K (js K s):=by
 have hc:pO K (sV ((K.made (bt s.2).fn).sig.R.length:Int) ((bt s.2).bs:Int) {s.2 with cN:=s.2.cN.dropLast}):=
  (⟨fun f hf=>h.c.cN f (List.dropLast_subset _ hf),h.c.tb⟩:pO K {s.2 with cN:=s.2.cN.dropLast}).of (A8 _ _ _)
 exact fR (fun _=> .end_ (s:=(_,_)) (hc.of (DC _ _)) _) fun hn=>⟨hc,fun _=>hn⟩
theorem Pc{c:cg}(h:pO K c)(p:Int):pO K (vz p c)∧(c.cN≠[]→(vz p c).cN≠[]):=by
 unfold vz;by_cases hp:c.cN=[]∨p<0∨4294967295<p
 · rw[if_pos hp];exact⟨h,id⟩
 · rw[if_neg hp]
   refine⟨⟨fun f hf=>?_,h.tb⟩,fun _=>by simp⟩;rcases List.mem_append.1 hf with hf|hf
   · exact h.cN f (List.dropLast_subset _ hf)
   · rw[List.mem_singleton.1 hf]
     exact h.cN (bt c) (IB fun e=>hp (.inl e))
theorem dF.go{s:bl}(h:dF K s){c:cg}(e:gH c=gH s.2)(p:Int):dF K (s.1,vz p c):=by
 have h1:=Pc (h.c.of e) p;exact⟨h1.1,fun ho=>h1.2 (by have e1:c.cN=s.2.cN:=congrArg Prod.fst e;rw[e1];exact h.run ho)⟩
theorem dF.jump{s:bl}(h:dF K s){c:cg}(e:gH c=gH s.2)(at_:Nat)(k:Int):dF K (s.1,uH K at_ k c):=h.go ((A8 _ _ _).trans e) _
theorem dF.skip{s:bl}(h:dF K s){c:cg}(e:gH c=gH s.2)(at_:Nat):dF K (s.1,zI K at_ c):=h.go e _
theorem dF.on{s:bl}(h:dF K s){c:cg}(e:gH c=gH s.2):dF K (s.1,c):=h.of e id
theorem dF.T4{s:bl}(h:dF K s)(x:aq):dF K (pF K x s):=
 fR (fun _=> .end_ h.c _) fun hn=>fR (fun _=>(h.on (c:=(aC s.2).2) rfl).enter (f:=((aC s.2).2.tb[(aC s.2).1]?).getD 0-1) (by
  have h2:((aC s.2).2.tb[(aC s.2).1]?).getD 0≤K.cH+K.own.length:=by
   cases ht:(aC s.2).2.tb[(aC s.2).1]? with
   |none=>exact Nat.zero_le _
   |some v=>exact h.c.tb v (List.mem_of_getElem? ht)
  omega)) fun _=> .end_ (s:=(_,_)) h.c _
theorem dG{p:Prop}[Decidable p]{x:bl}{u:Option bl}(h1:p→dF K x)(h2:∀y,u=some y→dF K y):∀y,(if p then some x else u)=some y→dF K y:=by
 intro y hy
 split at hy
 · rename_i hp;cases hy;exact h1 hp
 · exact h2 y hy
theorem dF.WY{s:bl}(h:dF K s){c:cg}(e:gH c=gH s.2)(t n:Nat):dF K (yh t n (s.1,c)):=
 fR (fun _=> .end_ (s:=(_,_)) (h.c.of e) _) fun _=>fR (fun _=> .end_ (s:=(_,_)) (h.c.of e) _) fun _=>h.on e
theorem IC{p:Prop}[Decidable p]{m:mV}{c d:cg}(h1:dF K (m,c))(h2:dF K (m,d)):dF K (m,if p then c else d):=by split<;>assumption
theorem DD{s:bl}(h:dF K s){x:aq}(hx:yw K.m x)(hn:K.own.length=K.m.aB.length)(at_:Nat):∀y,aW K x at_ s=some y→dF K y:=
 dG (fun _=> .end_ h.c _) (dG (fun _=>IC (h.skip (by rfl) _) (h.on (by rfl))) (dG (fun _=>h.skip (by rfl) _) (dG (fun _=>h.jump (by rfl) _ _) (dG (fun _=>IC (h.jump (by rfl) _ _) (h.on (by rfl))) (dG (fun _=>h.jump (by rfl) _ _) (dG (fun _=>h.leave) (dG (fun e=>h.enter (by have:=hx.call e;unfold eU.cH;omega)) (dG (fun _=>h.T4 x) (fun _ h=>by cases h)))))))))
theorem jO{p:Prop}[Decidable p]{x:cg}{u:Option cg}{c:cg}(h1:gH x=gH c)(h2:∀y,u=some y→gH y=gH c):∀y,(if p then some x else u)=some y→gH y=gH c:=by
 intro y hy
 split at hy
 · cases hy;exact h1
 · exact h2 y hy
theorem A9(x:aq)(c:cg):∀y,bf K x c=some y→gH y=gH c:=
 jO rfl (jO (eH _ _) (jO (eH _ _) (jO rfl (jO ((eH _ _).trans rfl) (jO (eH _ _) (jO rfl (fun _ h=>by cases h)))))))
theorem Gk{s:bl}(h:dF K s)(x:aq):∀y,fq K Z x s=some y→dF K y:=by
 unfold fq;by_cases hf:(dY x.Code).Form=8∨(dY x.Code).Form=9∨(dY x.Code).Form=10
 · rw[if_pos hf]
   cases iC x.Code with
   |some n=>
    intro y hy;cases hy
    exact fR (fun _=>fR (fun _=>h.on (eH _ _)) fun _=>h.WY (by rfl) _ _) fun _=>h.WY (by rfl) _ _
   |none=>
    intro y hy;cases hy
    exact fR (fun _=>h.on (eH _ _)) fun _=>fR (fun _=>h.on ((eH _ _).trans rfl)) fun _=>fR (fun _=>(by unfold C4;exact h.WY (vC (by rfl) (by rfl)) _ _)) fun _=>fR (fun _=>(by unfold C5;exact h.WY (vC (by rfl) (by rfl)) _ _)) fun _=>h
 · rw[if_neg hf];intro y hy;cases hy
theorem DE{s:bl}(h:dF K s)(x:aq):∀y,cJ K x s=some y→dF K y:=by
 unfold cJ;cases kS x.Code with
 |none=>intro y hy;cases hy
 |some g=>exact dG (fun _=>h.on (eH _ _)) (dG (fun _=>h.on (eH _ _)) (dG (fun _=> .end_ (s:=(_,_)) (h.c.of rfl) _) (fun y hy=>by cases hy;exact h.on (eH _ _))))
theorem Gl{s:bl}(h:dF K s)(x:aq):∀y,cF K x s=some y→dF K y:=
 dG (fun _=>h.on (eH _ _)) (dG (fun _=>h.on (eH _ _)) (dG (fun _=>h.on (eH _ _)) (DE h x)))
theorem RP{s:bl}(h:dF K s){x:aq}(hx:yw K.m x)(hn:K.own.length=K.m.aB.length)(at_:Nat):dF K (zJ K Z x at_ s):=by
 unfold zJ;cases hc:aW K x at_ s with
 |some s'=>exact DD h hx hn at_ s' hc
 | none=>
  cases hv:bf K x s.2 with
  |some c=>exact h.on (A9 x s.2 c hv)
  | none=>
   cases hm:fq K Z x s with
   |some s'=>exact Gk h x s' hm
   |none=>
    cases hu:cF K x s with
    |some s'=>exact Gl h x s' hu
    |none=>exact h
theorem MU{s:bl}(h:dF K s)(hx:∀i x,x∈(K.made i).body.L→yw K.m x)(hn:K.own.length=K.m.aB.length):dF K (eE K Z s):=by
 unfold eE;simp only;cases hl:(K.made (bt s.2).fn).body.L[(bt s.2).pl]? with
 |none=>exact h.leave
 |some x=>
  have h2:dF K (({s.1 with fuel:=s.1.fuel-bZ x s.2,bN:=s.1.bN+bZ x s.2},vz (((bt s.2).pl:Int)+1) s.2):bl):=(h.go (c:=s.2) rfl (((bt s.2).pl:Int)+1)).of rfl id;exact fR (fun _=> .end_ h.c _) fun _=>RP h2 (hx _ x (List.mem_of_getElem? hl)) hn _
def So(K:eU)(s:bl):Nat:=if s.1.over=true then 0 else 1+s.1.fuel*(K.frames+1)+s.2.cN.length
theorem Kc(x:aq)(c:cg):1≤bZ x c:=by unfold bZ;split<;>omega
theorem Pd(x:aq)(at_:Nat)(s:bl):(zJ K Z x at_ s).1.fuel=s.1.fuel∧(zJ K Z x at_ s).1.bN=s.1.bN:=by
 have h:=Iz (K:=K) (Z:=Z) (a:=s.1.fuel) (b:=s.1.bN) x at_ s;rw[zQ] at h;rw[h];exact⟨rfl,rfl⟩
theorem MV{s:bl}(h0:s.1.over=false)(hne:s.2.cN≠[])(hf:(eE K Z s).2.cN.length≤K.frames):So K (eE K Z s)<So K s:=by
 have e0:So K s=1+s.1.fuel*(K.frames+1)+s.2.cN.length:=if_neg (by rw[h0];exact Bool.false_ne_true);rw[e0];by_cases ho:(eE K Z s).1.over=true
 · have:So K (eE K Z s)=0:=if_pos ho
   omega
 · have e1:So K (eE K Z s)=1+(eE K Z s).1.fuel*(K.frames+1)+(eE K Z s).2.cN.length:=if_neg ho
   rw[e1];unfold eE at ho hf ⊢;simp only at ho hf ⊢;cases hl:(K.made (bt s.2).fn).body.L[(bt s.2).pl]? with
   |none=>
    rw[hl] at ho;simp only at ho ⊢;unfold js at ho ⊢;simp only at ho ⊢;by_cases hc:(sV ((K.made (bt s.2).fn).sig.R.length:Int) ((bt s.2).bs:Int) {s.2 with cN:=s.2.cN.dropLast}).cN=[]
    · rw[if_pos hc] at ho;exact absurd rfl ho
    · rw[if_neg hc]
      have e2:=congrArg Prod.fst (A8 ((K.made (bt s.2).fn).sig.R.length:Int) ((bt s.2).bs:Int) {s.2 with cN:=s.2.cN.dropLast});simp only[gH] at e2;have h3:=List.length_pos_iff.2 hne
      show 1+s.1.fuel*(K.frames+1)+(sV _ _ _).cN.length<_
      rw[e2,List.length_dropLast];omega
   |some x=>
    rw[hl] at ho hf;simp only at ho hf ⊢;by_cases hc:s.1.fuel<bZ x s.2
    · rw[if_pos hc] at ho;exact absurd rfl ho
    · rw[if_neg hc] at hf ⊢
      rw[(Pd x _ _).1];have h1:=Kc x s.2;have h3:=List.length_pos_iff.2 hne
      have h4:(s.1.fuel-bZ x s.2)*(K.frames+1)+(K.frames+1)≤s.1.fuel*(K.frames+1):=by
       rw[←Nat.succ_mul];exact Nat.mul_le_mul_right _ (by omega)
      simp only;omega
end
end Go.Hl
end
section
namespace Go.Hl
def T5(p:Prop):List VP:=[ak p]
instance:iy 1 T5:=⟨fun _=>rfl,fun x q h=>by simp only[T5,List.mem_cons,List.not_mem_nil,or_false] at h;subst h;infer_instance⟩
def sgP(n:Nat)(op:Int)(A:Nat):Prop:=(op=3∨op=5)∧2^(n-1)≤A
instance {n:Nat} {op:Int} {A:Nat}:Decidable (sgP n op A):=by unfold sgP;infer_instance
def isC(x:aq):Prop:=x.Code=65∨x.Code=66
instance (x:aq):Decidable (isC x):=by unfold isC;infer_instance
variable {n:Nat} {op:Int} {A:Nat} {B:Nat}
theorem MW:wR n op A B<2:=by unfold wR;split<;>decide
theorem RQ(hn:WN n)(hA:A<2^n):TC n op A<18446744073709551616:=by
 have h1:=Me n A;have h2:=vv n A
 unfold TC;rcases hn with rfl|rfl<;>(repeat' split)<;>omega
theorem Pe(hn:WN n)(hA:A<2^n)(hB:B<2^n)(h0:0≤op):JK n op A B<2^n:=by
 rcases Int.lt_or_le op 7 with h|h
 · rw[←zE hn h hA hB h0];exact Nat.mod_lt _ (Nat.two_pow_pos n)
 · rw[←CO hn h hA hB];exact Nat.mod_lt _ (Nat.two_pow_pos n)
theorem Pf(hn:WN n)(hA:A<2^n)(hB:B<2^n)(h0:0≤op):CN n op A B<18446744073709551616:=by
 have:=Pe hn hA hB h0;unfold CN
 split
 · exact tU hn this
 · decide
theorem Pg{f t:Nat}{s:Prop}[Decidable s]{a:Nat}(hf:f=8∨f=16∨f=32)(ht:t=32∨t=64):rI f t s a<18446744073709551616:=by
 unfold rI;rcases hf with rfl|rfl|rfl<;>rcases ht with rfl|rfl<;>split<;>omega
def Qc(c:Int):Prop:=((c=0∨c=12)∨c=14)∨c=15
def MX(c:Int):Prop:=(2≤c∧c≤5)∨c=11
instance (c:Int):Decidable (Qc c):=by unfold Qc;infer_instance
instance (c:Int):Decidable (MX c):=by unfold MX;infer_instance
section
variable {m:aR} {f:bU}
def xZ:List Nat→Nat
 |[]=>0
 |h::l=>max h (xZ l)
noncomputable abbrev cr(m:aR)(f:bU)(l:List aq)(fs:List fm):Option (List Nat):=nT (·.Code) iG (gN (bJ m f)) l fs
end
theorem DF(l:List Nat)(x:Nat):xZ (l++[x])=max (xZ l) x:=by
 induction l with
 |nil=>show max x 0=max 0 x;omega
 |cons a l ih=>show max a (xZ (l++[x]))=max (max a (xZ l)) x;rw[ih];omega
theorem Ph{l:List Nat}{x:Nat}(h:l[0]?=some x):(x:Int)=((xZ (l.take 1):Nat):Int):=by
 cases l with
 |nil=>cases h
 |cons a l=>cases h;show(x:Int)=((max x 0:Nat):Int);omega
theorem pP{m:aR}{f:bU}{hs:List Nat}(h:cj m f=some hs):hs.length=f.Body.L.length:=by
 suffices H:∀(l:List aq) (fs:List fm) (hs:List Nat),cr m f l fs=some hs→hs.length=l.length from H _ _ _ h
 intro l
 induction l with
 |nil=>intro fs hs h;cases h;rfl
 | cons x l ih=>
  intro fs hs h;rcases List.eq_nil_or_concat fs with rfl|⟨gs,b,rfl⟩
  · simp[cr,nT] at h
  rw[List.concat_eq_append] at h;unfold cr at h;rw[qm] at h;cases hst:eg (fun x:aq=>x.Code) iG (gN (bJ m f)) x gs b with
  |none=>rw[hst] at h;cases h
  |some r=>
   rw[hst] at h;obtain⟨t,ht,rfl⟩:=Option.map_eq_some_iff.1 h;rw[List.length_cons,ih _ _ ht,List.length_cons]
theorem MY{m:aR}{f:bU}(hm:fA m):∀n i hts fs t,f.Body.L.length-i=n→i≤f.Body.L.length→sO m f i hts fs→cr m f (f.Body.L.drop i) fs=some t→xZ t≤20*f.Body.L.length
 |0,i,hts,fs,t,hn,hi,h,ht=>by
  rw[List.drop_eq_nil_of_le (by omega)] at ht;cases ht;exact Nat.zero_le _
 | n+1,i,hts,fs,t,hn,hi,h,ht=>by
  obtain⟨x,hx⟩:=ah (xs:=f.Body.L) (k:=i) (by omega);obtain⟨gs,b,rfl⟩:=CW (sP hx▸h.nest);rw[sP hx] at ht;unfold cr at ht;rw[qm] at ht;cases hst:eg (fun x:aq=>x.Code) iG (gN (bJ m f)) x gs b with
  |none=>rw[hst] at ht;cases ht
  |some r=>
   rw[hst] at ht;obtain⟨u,hu,rfl⟩:=Option.map_eq_some_iff.1 ht;have h1:=MY hm n (i+1) _ r u (by omega) (by omega) (h.next hm hx hst) hu;have h2:=h.hgt
   show max _ _≤_
   omega
theorem Gm{m:aR}{f:bU}{hs:List Nat}(hm:ec m)(hf:f∈m.aB)(h:cj m f=some hs):xZ hs≤20*f.Body.L.length:=by
 have oP:=(hm.2 f hf).1;exact MY hm.1 _ 0 [] _ hs rfl (Nat.zero_le _) (sO.init hm.1 (lq (nx hm.1 hf)).2 oP.2.2.2.1) h
def uM(m:aR)(f:bU)(hs:List Nat):Int:=((bJ m f).aY.length:Int)+((xZ hs:Nat):Int)+((bC m f.gq).R.length:Int)
end Go.Hl
end
section
namespace Go.Hl
open Go.RowKit Classical
noncomputable section
def fS(sp:List hH)(at_:Int):List hH:=sp.reverse.filter fun x=>decide (x.1<at_∧at_<x.2.2)
def pQ(l:List aq)(i:Int):aq:=(l[i.toNat]?).getD ⟨0,0,0,0,[]⟩
def DG(l:List aq)(x:hH):Int:=if (pQ l x.1).A=64 then 0 else 1
def jw(l:List aq)(hts:List Nat)(x:hH):Int:=if (pQ l x.1).Code=4 then max (((hts[x.1.toNat]?).getD 0:Nat)-1:Int) 0 else((hts[x.1.toNat]?).getD 0:Nat)
def oA(l:List aq)(hts:List Nat)(res:Nat)(ar:List hH)(n:Int):mU:=
 if (ar.length:Int)≤n then⟨(l.length:Int),(res:Int),0⟩
 else
  let x:=(ar[n.toNat]?).getD (0,0,0)
  if (pQ l x.1).Code=3 then⟨x.1+1,0,jw l hts x⟩ else⟨x.2.2+1,DG l x,jw l hts x⟩
def cy(x:aq):List Int:=if x.Code=12∨x.Code=13 then[x.A] else if x.Code=14 then x.L++[x.A] else[]
def yx(l:List aq)(hts:List Nat)(res:Nat)(ar:List hH)(at_:Int)(ns:List Int)(J:List (cP×mU)):Nat→List (cP×mU)
 |0=>J
 |k+1=>ew (yx l hts res ar at_ ns J k) (at_,(k:Int)) (oA l hts res ar ((ns[k]?).getD 0))
def mW(l:List aq)(hts:List Nat)(res:Nat)(sp:List hH):Nat→List (cP×mU)
 |0=>[]
 |i+1=>yx l hts res (fS sp (i:Int)) (i:Int) (cy (pQ l (i:Int))) (mW l hts res sp i) (cy (pQ l (i:Int))).length
def xC(l:List aq)(x:hH)(S:List (Int×Int)):List (Int×Int):=
 if (pQ l x.1).Code≠4 then S
 else if 0≤x.2.1 then ew (ew (ew S x.1 x.2.2) x.1 (x.2.1+1)) x.2.1 x.2.2 else ew S x.1 x.2.2
def tY(l:List aq)(sp:List hH):Nat→List (Int×Int)
 |0=>[]
 |i+1=>xC l ((sp[i]?).getD (0,0,0)) (tY l sp i)
def qU(m:aR)(f:bU):gE:=
 let hts:=(cj m f).getD []
 ⟨f.Body,bC m f.gq,(bJ m f).aY.length,uM m f hts,mW f.Body.L hts (bC m f.gq).R.length (jr f.Body.L) f.Body.L.length,tY f.Body.L (jr f.Body.L) (jr f.Body.L).length⟩
def runK(m:aR)(cells frames:Nat):eU:=⟨m,cells,frames,m.aB.map (qU m)⟩
theorem lS{m:aR}{cells frames:Nat}:(runK m cells frames).own.length=m.aB.length:=by simp[runK]
theorem MZ{m:aR}{cells frames:Nat}(hv:ec m):∀i x,x∈((runK m cells frames).made i).body.L→yw m x:=by
 intro i x hx;unfold eU.made runK at hx;simp only[List.getElem?_map] at hx;cases hf:m.aB[i]? with
 |none=>rw[hf] at hx;cases hx
 |some f=>rw[hf] at hx;exact xB hv (List.mem_of_getElem? hf) hx
end
structure rR(n:Nat)(x:hH):Prop where
 lo:0≤x.1
 hi:x.1<(n:Int)
 el: -1≤x.2.1∧x.2.1<(n:Int)
 en: -1≤x.2.2∧x.2.2<(n:Int)
theorem rR.mono{a b:Nat}{x:hH}(h:rR a x)(k:a≤b):rR b x:=⟨h.lo,by have:=h.hi;omega,⟨h.el.1,by have:=h.el.2;omega⟩,⟨h.en.1,by have:=h.en.2;omega⟩⟩
theorem RR{c:Int}{j:Nat}{s:List hH×List Nat}(h:∀x∈s.1,rR j x):∀x∈(CU c j s).1,rR (j+1) x:=by
 have h':∀x∈s.1,rR (j+1) x:=fun x hx=>(h x hx).mono (Nat.le_succ _);unfold CU
 split
 · intro x hx
   rcases List.mem_append.1 hx with hx|hx
   · exact h' x hx
   · rw[List.mem_singleton.1 hx]
     exact⟨by show(0:Int)≤(j:Int);omega,by show(j:Int)<((j+1:Nat):Int);omega,⟨by show(-1:Int)≤ -1;decide,by show(-1:Int)<((j+1:Nat):Int);omega⟩,⟨by show(-1:Int)≤ -1;decide,by show(-1:Int)<((j+1:Nat):Int);omega⟩⟩
 · split
   · exact h'
   · split
     · exact h'
     · rename_i b el en hp
       have hb:=h' _ (List.mem_of_getElem? hp)
       split
       · intro x hx
         rcases List.mem_or_eq_of_mem_set hx with hx|rfl
         · exact h' x hx
         · exact⟨hb.lo,hb.hi,⟨by show(-1:Int)≤(j:Int);omega,by show(j:Int)<((j+1:Nat):Int);omega⟩,hb.en⟩
       · split
         · intro x hx
           rcases List.mem_or_eq_of_mem_set hx with hx|rfl
           · exact h' x hx
           · exact⟨hb.lo,hb.hi,hb.el,⟨by show(-1:Int)≤(j:Int);omega,by show(j:Int)<((j+1:Nat):Int);omega⟩⟩
         · exact h'
theorem Gn(l:List aq):∀i,∀x∈(Ii l i).1,rR i x
 |0=>fun x hx=>by cases hx
 |i+1=>fun x hx=>by
  unfold Ii at hx
  split at hx
  · exact RR (Gn l i) x hx
  · exact(Gn l i x hx).mono (Nat.le_succ _)
theorem M0(l:List aq):∀x∈jr l,rR l.length x:=Gn l l.length
theorem Pj(c:Int)(j:Nat)(s:List hH×List Nat):(CU c j s).1.length≤s.1.length+1:=by
 unfold CU
 split
 · simp
 · split
   · omega
   · split
     · omega
     · split
       · simp
       · split<;>simp
theorem ID(l:List aq):∀i,(Ii l i).1.length≤i
 |0=>Nat.le_refl _
 |i+1=>by
  have h1:=ID l i;unfold Ii
  split
  · have h2:=Pj (by assumption:aq).Code i (Ii l i);omega
  · omega
theorem Kd(l:List aq):(jr l).length≤l.length:=ID l l.length
def pR(sp:List hH)(j:Nat):hH:=(sp.reverse[j]?).getD (0,0,0)
def Ke(sp:List hH)(at_:Int)(j:Nat):List hH:=(sp.reverse.take j).filter fun x=>decide (x.1<at_∧at_<x.2.2)
theorem IE{sp:List hH}{at_:Int}:Ke sp at_ sp.length=fS sp at_:=by unfold Ke fS;rw[List.take_of_length_le (by simp)]
theorem tZ{sp:List hH}{j:Nat}(h:j<sp.length):sp.reverse[j]?=some (pR sp j):=by
 obtain⟨x,hx⟩:=ah (xs:=sp.reverse) (k:=j) (by rw[List.length_reverse];exact h);unfold pR;rw[hx];rfl
theorem M1{sp:List hH}{j:Nat}(h:j<sp.length):sp[sp.length-1-j]?=some (pR sp j):=by rw[←List.getElem?_reverse h];exact tZ h
theorem IF{sp:List hH}{at_:Int}{j:Nat}(h:j<sp.length)(c:(pR sp j).1<at_∧at_<(pR sp j).2.2):Ke sp at_ j++[pR sp j]=Ke sp at_ (j+1):=by
 unfold Ke;rw[List.take_add_one,tZ h,List.filter_append];simp[c]
theorem M3{sp:List hH}{at_:Int}{j:Nat}(h:j<sp.length)(c:¬((pR sp j).1<at_∧at_<(pR sp j).2.2)):Ke sp at_ j=Ke sp at_ (j+1):=by
 unfold Ke;rw[List.take_add_one,tZ h,List.filter_append];simp only[Option.toList,List.filter_cons,List.filter_nil,decide_eq_true_eq,if_neg c,List.append_nil]
theorem Ba{sp:List hH}{at_:Int}{j:Nat}:(Ke sp at_ j).length≤sp.length:=Nat.le_trans (List.length_filter_le _ _) (by rw[List.length_take,List.length_reverse];omega)
theorem Kf{l:List aq}{sp:List hH}{at_:Int}(h:∀x∈sp,rR l.length x):∀x∈fS sp at_,rR l.length x:=fun x hx=>h x (List.mem_reverse.1 (List.mem_filter.1 hx).1)
theorem Gp{sp:List hH}{at_:Int}:(fS sp at_).length≤sp.length:=by rw[←IE];exact Ba
def AT{α:Type}(n:Nat)(enc:α→List VP)[iy n enc](b:Nat)(xs:List α):HP:=NZ fun sb:SB=>ku [aF b [af (bA sb xs.length)],aI sb n enc xs]
theorem rS{α:Type}{n:Nat}{enc:α→List VP}[iy n enc]{b:Nat}{sb:SB}{xs:List α}{r:List HP}:aA (aF b [af (bA sb xs.length)]::aI sb n enc xs::r) (AT n enc b xs::r):=
 (aA.pack (l:=[aF b [af (bA sb xs.length)],aI sb n enc xs])).trans (aA.ex (f:=fun sb:SB=>ku [aF b [af (bA sb xs.length)],aI sb n enc xs]) sb)
theorem aJ.M4{α:Type}{n:Nat}{enc:α→List VP}[iy n enc]{P:Program}{Q:Exit→Act→World→Prop}{c:Ctx}{x:Code}{env:Env}{b:Nat}{xs:List α}{r:List HP}(k:∀sb:SB,aJ P Q c x (aF b [af (bA sb xs.length)]::aI sb n enc xs::r) env):aJ P Q c x (AT n enc b xs::r) env:=
 aJ.opens fun sb=>aJ.own (aA.unpack (l:=[aF b [af (bA sb xs.length)],aI sb n enc xs])) (k sb)
def uN(x:cP):List VP:=[aa .i64 x.1,aa .i64 x.2]
instance:iy 2 uN:=⟨fun _=>rfl,fun x q h=>by simp only[uN,List.mem_cons,List.not_mem_nil,or_false] at h;rcases h with h|h<;>rw[h]<;>infer_instance⟩
instance (x:cP):bq (uN x):=bq.of x
abbrev mX(I:pK)(J:List (cP×mU))(C S:List (Int×Int))(go:SB)(o:List cP):List HP:=
 [aF I.b [af (.map (some I.jm)),af (.map (some I.cm)),af (.map (some I.sm)),af (bA go o.length)],iD I.jm (EW .i64 .i64) (fun j=>aK (ju j)) J,iD I.cm (Value.int .i64) dP C,iD I.sm (Value.int .i64) dP S,aI go 2 uN o]
theorem pS{l:List aq}{i:Int}{k:Nat}{y:aq}(hk:i=(k:Int))(h:l[k]?=some y):pQ l i=y:=by subst hk;unfold pQ;rw[Int.toNat_natCast,h];rfl
theorem M5{l:List aq}{hts:List Nat}{res:Nat}{ar:List hH}{at_:Int}{ns:List Int}{J:List (cP×mU)}{k:Nat}{n:Int}(h:ns[k]?=some n):yx l hts res ar at_ ns J (k+1)=ew (yx l hts res ar at_ ns J k) (at_,(k:Int)) (oA l hts res ar n):=by
 show ew _ _ (oA l hts res ar ((ns[k]?).getD 0))=_;rw[h];rfl
section
variable {ι:Type} {cd:ι→Int} {rr:ι→List UInt8} {pl:ι→jW→List (List UInt8)→Option jW}
theorem Kg{x:ι}{fs fs':List fm}{b:fm}(h:eg cd rr pl x fs b=some fs'):fs'.length≤fs.length+2:=by
 unfold eg at h
 split at h
 · split at h
   · cases h
     split
     · simp
     · simp;omega
   · cases h
 · split at h
   · split at h
     · cases h;simp
     · cases h
   · split at h
     · obtain⟨s,_,rfl⟩:=Option.map_eq_some_iff.1 h;simp
     · obtain⟨s,_,rfl⟩:=Option.map_eq_some_iff.1 h;simp
theorem xD:∀{l:List ι} {fs:List fm} {hs:List Nat},nT cd rr pl l fs=some hs→∀x∈l,∃fs' b,fs'.length≤fs.length+l.length∧eg cd rr pl x fs' b≠none
 |[],_,_,_,x,hx=>by cases hx
 | y ::r,fs,hs,h,x,hx=>by
  unfold nT at h;cases hl:fs.getLast? with
  |none=>rw[hl] at h;cases h
  | some b=>
   rw[hl] at h;simp only at h;have hne:fs≠[]:=fun e=>by rw[e] at hl;cases hl
   have hpos:0<fs.length:=List.length_pos_iff.2 hne;cases hst:eg cd rr pl y fs.dropLast b with
   |none=>rw[hst] at h;cases h
   | some fs'=>
    rw[hst] at h;simp only[Option.bind_some] at h;have rM:=Kg hst;rw[List.length_dropLast] at rM;cases hr:nT cd rr pl r fs' with
    |none=>rw[hr] at h;cases h
    |some hs'=>
     rcases List.mem_cons.1 hx with rfl|hx
     · exact⟨fs.dropLast,b,by rw[List.length_dropLast];omega,by rw[hst];exact fun e=>by cases e⟩
     · obtain⟨f2,b2,h1,h2⟩:=xD hr x hx
       exact⟨f2,b2,by rw[List.length_cons];omega,h2⟩
end
theorem xE{m:aR}{f:bU}{x:aq}{fs:List fm}{b:fm}(h:eg (·.Code) iG (gN (bJ m f)) x fs b≠none)(h1:x.Code≠11)(h2:x.Code≠5)(h3:¬aV x.Code):gN (bJ m f) x b.st ((fs++[b]).map sE)≠none:=by
 unfold eg at h;rw[if_neg h1,if_neg h2,if_neg h3] at h;exact A7 h
theorem Kh{l:List (List UInt8)}{n:Int}{w:List UInt8}(h:gM l n=some w):0≤n∧n<(l.length:Int):=by
 unfold gM at h
 split at h
 · rename_i hn;exact⟨hn.2,hn.1⟩
 · cases h
theorem Ki{m:aR}{f:bU}(hv:ec m)(ho:gD m)(hf:f∈m.aB){x:aq}(hx:x∈f.Body.L):∀n∈cy x,0≤n∧n≤100000:=by
 obtain⟨_,hs,h⟩:=hv.2 f hf;obtain⟨fs,b,hl,hst⟩:=xD h x hx;have hlen:=ho.len f hf
 have tu:∀n w,gM ((fs++[b]).map sE) n=some w→0≤n∧n≤100000:=fun n w hw=>by
  obtain⟨h1,h2⟩:=Kh hw;simp only[List.length_map,List.length_append,List.length_cons,List.length_nil] at h2 hl;omega
 intro n hn;unfold cy at hn
 split at hn
 · rename_i hc
   rw[List.mem_singleton.1 hn];have gG:=xE hst (by omega) (by omega) (by unfold aV;omega);unfold gN at gG;rcases hc with hc|hc
   · rw[if_neg (by omega),if_pos hc] at gG
     obtain⟨w,hw,_⟩:=jv gG;exact tu _ _ hw
   · rw[if_neg (by omega),if_neg (by omega),if_pos hc] at gG
     obtain⟨w,hw,_⟩:=jv gG;exact tu _ _ hw
 · split at hn
   · rename_i hc
     have gG:=xE hst (by omega) (by omega) (by unfold aV;omega);unfold gN at gG;rw[if_neg (by omega),if_neg (by omega),if_neg (by omega),if_pos hc] at gG;obtain⟨w,hw,h3⟩:=jv gG;by_cases hall:∀n∈x.L,gM ((fs++[b]).map sE) n=some w
     · rcases List.mem_append.1 hn with hn|hn
       · exact tu _ _ (hall n hn)
       · rw[List.mem_singleton.1 hn];exact tu _ _ hw
     · rw[if_neg hall] at h3;exact absurd rfl h3
   · cases hn
theorem xF{m:aR}{f:bU}(hv:ec m)(hf:f∈m.aB):(bJ m f).aY.length≤70:=by
 have h1:=(hv.1.EB _ (lq (nx hv.1 hf)).2).1;have h2:=(hv.2 f hf).1.2.2.1
 show((bC m f.gq).P++f.Body.aY).length≤70
 rw[List.length_append];omega
theorem Kj{m:aR}{f:bU}(hv:ec m)(hf:f∈m.aB){x:aq}(hx:x∈f.Body.L)(hc:x.Code=32∨x.Code=33∨x.Code=34):x.A≤4294967295:=by
 obtain⟨_,hs,h⟩:=hv.2 f hf;obtain⟨fs,b,hl,hst⟩:=xD h x hx;have hlo:=xF hv hf;have gG:=xE hst (by omega) (by omega) (by unfold aV;omega);have hg:∀{α:Type} {o:Option UInt8} {g:UInt8→Option α},o.bind g≠none→o≠none:=fun h e=>h (by rw[e];rfl)
 have I1:dI (bJ m f).aY x.A≠none:=by
  unfold gN at gG;rw[if_neg (by omega),if_neg (by omega),if_neg (by omega),if_neg (by omega),if_neg (by omega),if_neg (by omega),if_neg (by omega),if_neg (by omega),if_neg (by omega)] at gG;rcases hc with hc|hc|hc
  · rw[if_pos hc] at gG;exact A7 gG
  · rw[if_neg (by omega),if_pos hc] at gG;exact hg gG
  · rw[if_neg (by omega),if_neg (by omega),if_pos hc] at gG;exact hg gG
 obtain⟨t,ht⟩:=Option.ne_none_iff_exists'.1 I1;have:=(jb ht).2.1;omega
theorem DH{c:Int}(h:(dY c).Form=8∨(dY c).Form=9∨(dY c).Form=10):aP c=8∨aP c=9∨aP c=10:=by
 unfold dY at h;cases hf:dy c with
 |none=>rw[hf] at h;exact absurd h (by decide)
 |some x=>
  rw[hf] at h;have:=(jo hf).2.2.2.1;simp only[Option.getD_some] at h;rw[←this];exact h
theorem M6{l:List Nat}{i:Nat}:(l[i]?).getD 0≤xZ l:=by
 induction l generalizing i with
 |nil=>simp
 |cons a l ih=>
  cases i with
  |zero=>show a≤max a (xZ l);omega
  |succ i=>have:=ih (i:=i);rw[List.getElem?_cons_succ];show _≤max a (xZ l);omega
theorem M7{l:List aq}{hts:List Nat}{x:hH}(h:xZ hts≤40000):0≤jw l hts x∧jw l hts x≤40000:=by
 have:=M6 (l:=hts) (i:=x.1.toNat);unfold jw
 split<;>omega
theorem Pk{l:List aq}{hts:List Nat}{res:Nat}{ar:List hH}{n:Int}(h:xZ hts≤40000): -100000≤(oA l hts res ar n).height∧(oA l hts res ar n).height≤100000:=by
 unfold oA
 split
 · exact⟨by show(-100000:Int)≤0;decide,by show(0:Int)≤100000;decide⟩
 · have hb:=M7 (l:=l) (x:=(ar[n.toNat]?).getD (0,0,0)) h
   dsimp only
   split
   · exact⟨by show(-100000:Int)≤jw _ _ _;omega,by show jw _ _ _≤(100000:Int);omega⟩
   · exact⟨by show(-100000:Int)≤jw _ _ _;omega,by show jw _ _ _≤(100000:Int);omega⟩
def Gq(J:List (cP×mU)):Prop:=∀p j,br J p=some j→ -100000≤j.height∧j.height≤100000
theorem Gq.ue{J:List (cP×mU)}(h:Gq J){k:cP}{v:mU}(hv: -100000≤v.height∧v.height≤100000):Gq (ew J k v):=fun p j hj=>by
 rw[zn] at hj
 split at hj
 · cases hj;exact hv
 · exact h p j hj
theorem M8{l:List aq}{hts:List Nat}{res:Nat}{ar:List hH}{at_:Int}{ns:List Int}{J:List (cP×mU)}(h:xZ hts≤40000)(hJ:Gq J):∀k,Gq (yx l hts res ar at_ ns J k)
 |0=>hJ
 |k+1=>(M8 h hJ k).ue (Pk h)
theorem DI{l:List aq}{hts:List Nat}{res:Nat}{sp:List hH}(h:xZ hts≤40000):∀i,Gq (mW l hts res sp i)
 |0=>fun p j hj=>by cases hj
 |i+1=>M8 h (DI h i) _
theorem Pm{m:aR}{f:bU}(hv:ec m)(ho:gD m)(hf:f∈m.aB):AU (qU m f):=by
 obtain⟨_,hs,h⟩:=hv.2 f hf;have hlo:=xF hv hf;have hpk:=Gm hv hf h;have yZ:=ho.len f hf;have hR:=(hv.1.EB _ (lq (nx hv.1 hf)).2).2;have hg:(cj m f).getD []=hs:=by rw[h];rfl
 refine⟨?_,?_,?_,?_,?_⟩
 · show(bJ m f).aY.length≤2000;omega
 · show-100000≤uM m f ((cj m f).getD [])∧uM m f ((cj m f).getD [])≤100000
   rw[hg];unfold uM;omega
 · show f.Body.L.length≤5000;omega
 · show(bC m f.gq).R.length≤1000;omega
 · show Gq (mW f.Body.L ((cj m f).getD []) _ _ _)
   rw[hg];exact DI (by omega) _
theorem M9{l:List aq}{hts:List Nat}{res:Nat}{sp:List hH}{i:Nat}{y:aq}(h:l[i]?=some y):mW l hts res sp (i+1)=yx l hts res (fS sp (i:Int)) (i:Int) (cy y) (mW l hts res sp i) (cy y).length:=by
 show yx l hts res (fS sp (i:Int)) (i:Int) (cy (pQ l (i:Int))) (mW l hts res sp i) (cy (pQ l (i:Int))).length=_
 rw[pS rfl h]
theorem Na{l:List aq}{sp:List hH}{i:Nat}{x:hH}(h:sp[i]?=some x):tY l sp (i+1)=xC l x (tY l sp i):=by
 show xC l ((sp[i]?).getD (0,0,0)) (tY l sp i)=_;rw[h];rfl
theorem Bb{I:pK}{b:Nat}{d:gE}{J:List (cP×mU)}{C S:List (Int×Int)}{go:SB}{o:List cP}(hb:I.b=b)(hj:d.jumps=J)(hs:d.sU=S):aA (mX I J C S go o) [kj b d]:=by
 subst hj;subst hs
 exact(aA.left (a:=pL I d.jumps C d.sU (af (bA go o.length))) (b:=[aI go 2 uN o])).trans ((aA.of_eq (List.append_nil _).symm).trans (xe (r:=[]) hb))
theorem IG{l:List gE}{d:gE}{i:Nat}{bs:List Nat}{b:Nat}(h:l[i]?=some d)(hl:bs.length=i):(l.take (i+1)).zip (bs++[b])=(l.take i).zip bs++[(d,b)]:=by
 have hi:=(List.getElem?_eq_some_iff.1 h).1;rw[List.take_add_one,h];simp only[Option.toList];rw[List.zip_append (by rw[List.length_take];omega)];rfl
theorem Nb{m:aR}(hm:fA m)(f:Int):eM m f=if 0≤f∧f<(m.av.length:Int)+(m.aB.length:Int) then(if f.toNat<m.av.length then(m.av[f.toNat]?).map fun i=>bC m i.gq else(m.aB[f.toNat-m.av.length]?).map fun g=>bC m g.gq) else none:=by
 rw[←nu (f:=⟨0,⟨[],[]⟩⟩) hm];have hl:(bJ m ⟨0,⟨[],[]⟩⟩).aB.length=m.av.length+m.aB.length:=by simp[bJ]
 unfold dI;rw[hl];by_cases hc:0≤f∧f<(m.av.length:Int)+(m.aB.length:Int)
 · rw[if_pos ⟨by push_cast;omega,hc.1⟩,if_pos hc]
   show(m.av.map (fun i=>bC m i.gq)++m.aB.map (fun g=>bC m g.gq))[f.toNat]?=_
   by_cases h2:f.toNat<m.av.length
   · rw[List.getElem?_append_left (by simpa using h2),if_pos h2,List.getElem?_map]
   · rw[List.getElem?_append_right (by simp;omega),if_neg h2,List.getElem?_map,List.length_map]
 · rw[if_neg (fun h=>hc ⟨h.2,by have:=h.1;push_cast at this;omega⟩),if_neg hc]
theorem Bc{m:aR}{cells frames:Nat}(hm:fA m)(f:Nat):(eM m (f:Int)).getD ⟨[],[]⟩=(runK m cells frames).sig f:=by
 rw[Nb hm];unfold eU.sig eU.cH
 show _=if f<m.av.length then _ else _
 simp only[Int.toNat_natCast];by_cases h1:f<m.av.length
 · rw[if_pos (by omega),if_pos h1,if_pos h1];rfl
 · rw[if_neg h1,if_neg h1]
   by_cases h2:f<m.av.length+m.aB.length
   · rw[if_pos (by omega)];rfl
   · rw[if_neg (by omega)]
     show _=((m.aB[f-m.av.length]?).map _).getD _
     rw[List.getElem?_eq_none (by omega)];rfl
theorem Nc{m:aR}{cells frames:Nat}(hm:fA m)(f:Nat):(runK m cells frames).sig f=⟨[],[]⟩∨(runK m cells frames).sig f∈m.cY:=by
 rw[←Bc hm];cases h:eM m (f:Int) with
 |none=>exact .inl rfl
 |some s=>exact .inr (Au h)
theorem DJ{m:aR}(hm:fA m){s:nc}(hs:s∈m.cY):nO s.P∧nO s.R:=by
 have h1:∀z∈m.cY,LG z=0:=qe.1 (iP.1 hm.sigs).2;exact Classical.not_not.1 ((m8 (by decide)).1 (h1 s hs))
theorem xG{l:List UInt8}(h:nO l):∀t∈l,eC t=32∨eC t=64:=fun t ht=>by
 rcases h.2 t ht with rfl|rfl
 · exact .inr (by decide)
 · exact .inl (by decide)
theorem Bd{m:aR}{cells frames i:Nat}{f:bU}(h:m.aB[i]?=some f):(runK m cells frames).made i=qU m f:=by
 unfold eU.made runK;simp only[List.getElem?_map,h];rfl
theorem kok{m:aR}{cells frames:Nat}(hv:ec m)(ho:gD m):O5 (runK m cells frames):=by
 obtain⟨l1,l2,l3,l4,l5⟩:=hv.1.lens;have T6:(m.av.length:Int)+(m.aB.length:Int)≤100:=l5;have hon:(runK m cells frames).own.length=m.aB.length:=lS;refine⟨Bc hv.1,fun f=>?_,fun f=>?_,fun f=>?_,?_,?_,?_,fun i hi=>?_⟩
 · show(eM m f).isSome↔0≤f∧f<(m.av.length:Int)+_
   rw[hon,Nb hv.1];by_cases hc:0≤f∧f<(m.av.length:Int)+(m.aB.length:Int)
   · rw[if_pos hc]
     refine⟨fun _=>hc,fun _=>?_⟩;by_cases h2:f.toNat<m.av.length
     · rw[if_pos h2,List.getElem?_eq_getElem h2];rfl
     · rw[if_neg h2,List.getElem?_eq_getElem (show f.toNat-m.av.length<m.aB.length by omega)];rfl
   · rw[if_neg hc];exact⟨fun h=>(Bool.false_ne_true h).elim,fun h=>absurd h hc⟩
 · rcases Nc (cells:=cells) (frames:=frames) hv.1 f with h|h
   · rw[h];exact⟨by decide,by decide⟩
   · have:=hv.1.EB _ h;omega
 · rcases Nc (cells:=cells) (frames:=frames) hv.1 f with h|h
   · rw[h];exact⟨fun t ht=>by(cases ht),fun t ht=>by(cases ht)⟩
   · exact⟨xG (DJ hv.1 h).1,xG (DJ hv.1 h).2⟩
 · show m.av.length≤1000;omega
 · rw[hon];omega
 · show fB m≤1000000
   have h1:=hv.1.table;unfold nQ at h1
   split at h1
   · exact absurd h1 (by decide)
   · have h2:=(m8 (by decide)).1 h1
     unfold fB;omega
 · rw[hon] at hi
   obtain⟨f,hf⟩:=ah (xs:=m.aB) (k:=i) hi;have q7:=List.mem_of_getElem? hf;rw[Bd hf];refine⟨Pm hv ho q7,?_⟩
   have hs:(runK m cells frames).sig ((runK m cells frames).cH+i)=bC m f.gq:=by
    rw[←Bc hv.1];have:(((runK m cells frames).cH+i:Nat):Int)=(m.av.length:Int)+(i:Int):=by show((m.av.length+i:Nat):Int)=_;omega
    rw[this,lu hv.1 hf];rfl
   rw[hs]
   show(bC m f.gq).P.length≤((bC m f.gq).P++f.Body.aY).length
   rw[List.length_append];omega
theorem T7{m:aR}{cells frames:Nat}(hv:ec m)(ho:gD m)(hn:m.dU=[]):∀i,i<(runK m cells frames).own.length→∀x∈((runK m cells frames).made i).body.L,MI (runK m cells frames) x:=fun i hi x hx=>by
 rw[lS] at hi;obtain⟨f,hf⟩:=ah (xs:=m.aB) (k:=i) hi;have q7:=List.mem_of_getElem? hf;rw[Bd hf] at hx;have hx':x∈f.Body.L:=hx;have hr:=xB hv q7 hx';refine⟨ho.ins f q7 x hx',fun e=>?_,fun e=>(hr.sig e).2,fun e=>(hr.O8 e).2,fun e=>Kj hv q7 hx' e,?_⟩
 · rw[lS];exact(hr.call e).2
 · have hno:¬((dY x.Code).Form=8∨(dY x.Code).Form=9∨(dY x.Code).Form=10):=fun h=>by
    have h2:=hr.mem (DH h);rw[hn] at h2;simp at h2;omega
   exact⟨fun h=>hno (.inl h),fun h=>hno (.inr (.inl h)),fun h=>hno (.inr (.inr h))⟩
theorem DK{m:aR}{cells frames:Nat}(hv:ec m):∀i x,x∈((runK m cells frames).made i).body.L→yw m x:=MZ hv
end Go.Hl
end
section
namespace Go.Hl
open Go.RowKit
def i65(n:Int):aq:=⟨65,n,0,0,[]⟩
def i106:aq:=⟨106,0,0,0,[]⟩
def i11:aq:=⟨11,0,0,0,[]⟩
def mI:nh:=⟨[],[i65 2,i65 3,i106,i11]⟩
def yy:bU:=⟨0,mI⟩
def eX:aR:=⟨[⟨[],[127]⟩],[],[yy],-1,[],[],[],-1,[],[]⟩
theorem Qd{P:aq→Prop}(h1:P (i65 2))(h2:P (i65 3))(h3:P i106)(h4:P i11):∀x∈mI.L,P x:=fun x hx=>by
 simp only[mI,List.mem_cons,List.not_mem_nil,or_false] at hx;rcases hx with rfl|rfl|rfl|rfl<;>assumption
theorem Pn{P:bU→Prop}(h:P yy):∀f∈eX.aB,P f:=fun f hf=>by
 simp only[eX,List.mem_singleton] at hf;subst hf;exact h
theorem okR:gD eX:=by
 refine⟨Pn (Qd ?_ ?_ ?_ ?_),Pn (by simp[yy,mI]),Pn (by simp[yy,mI])⟩<;>exact⟨by decide,by decide,by decide,by decide,by simp[i65,i106,i11],by simp[i65,i106,i11]⟩
theorem T8:fA eX:=by
 refine⟨?_,?_,?_,?_,?_,?_,?_,?_,?_,?_⟩<;>simp[eX,yy,mI,zf,nj,lG,nQ,zg,nk,nq,lH,tI,tJ,mh,fO,eB,iE,u6,LG,uA,Ap,nO,ql]
theorem II{n:Int}(h:n=2∨n=3):iQ (i65 n):=by
 have h1:iF 65≠[]:=by decide
 have h2:aP 65=11:=by decide
 refine⟨h1,?_,?_,?_,by simp[i65], .inl rfl⟩<;>simp[i65,h2,th]<;>omega
theorem RS:∀x∈mI.L,iQ x:=by
 refine Qd (II (.inl rfl)) (II (.inr rfl)) ?_ ?_
 · have h1:iF 106≠[]:=by decide
   have h2:aP 106=0:=by decide
   refine⟨h1,?_,?_,?_,by simp[i106], .inl rfl⟩<;>simp[i106,h2,th]
 · have h1:iF 11≠[]:=by decide
   have h2:aP 11=0:=by decide
   refine⟨h1,?_,?_,?_,by simp[i11], .inl rfl⟩<;>simp[i11,h2,th]
theorem DL:cj eX yy=some [0,1,2,1]:=by
 have e1:aP 65=11:=by decide
 have e2:aP 106=0:=by decide
 have t1:dR 65=([],[127]):=by decide
 have t2:dR 106=([127,127],[127]):=by decide
 have p1:∀(n:Int) (l:List UInt8) (labs:List (List UInt8)),gN (bJ eX yy) (i65 n) (l,False) labs=some (l++[127],False):=fun n l labs=>by
  simp[gN,i65,e1,t1,oF,fe,vb,cQ]
 have p2:∀(labs:List (List UInt8)),gN (bJ eX yy) i106 ([127,127],False) labs=some ([127],False):=fun labs=>by
  simp[gN,i106,e2,t2,oF,fe,vb,cQ,jl]
 have hs:(bC eX yy.gq).R=[127]:=rfl;unfold cj;rw[hs];have hc:ru (fm.mk False False [127] ([127],False)):=⟨([],False),by simp[fe,vb,jl],rfl⟩
 have s1:∀(n:Int) (l:List UInt8),eg (·.Code) iG (gN (bJ eX yy)) (i65 n) [] (fm.mk False False [127] (l,False))=some [fm.mk False False [127] (l++[127],False)]:=fun n l=>by
  unfold eg
  show(if (65:Int)=11 then _ else if (65:Int)=5 then _ else if aV 65 then _ else _)=_
  rw[if_neg (by decide),if_neg (by decide),if_neg (by unfold aV;decide),p1];rfl
 have s2:eg (·.Code) iG (gN (bJ eX yy)) i106 [] (fm.mk False False [127] ([127,127],False))=some [fm.mk False False [127] ([127],False)]:=by
  unfold eg;rw[if_neg (show ¬i106.Code=11 by decide),if_neg (show ¬i106.Code=5 by decide),if_neg (show ¬aV i106.Code by unfold aV;decide),p2];rfl
 have s3:eg (·.Code) iG (gN (bJ eX yy)) i11 [] (fm.mk False False [127] ([127],False))=some []:=by
  unfold eg;rw[if_pos (show i11.Code=11 by decide),if_pos ⟨hc,fun h=>h.elim⟩];rfl
 show nT _ _ _ [i65 2,i65 3,i106,i11] _=_
 simp only[nT,List.getLast?_singleton,List.dropLast_singleton,s1,Option.bind_some,List.nil_append,List.cons_append,s2,s3,List.getLast?_nil,Option.map_some,o8,List.map_cons,List.map_nil,List.length_nil,List.length_cons,List.sum_cons,List.sum_nil,Nat.add_zero,Nat.zero_add]
theorem Nd:ec eX:=by
 refine⟨T8,Pn ⟨⟨RS,by simp[yy,mI],by simp[yy,mI],?_,?_⟩,_,DL⟩⟩
 · show mS [65,65,106,11] []
   simp[mS,aV]
 · have h1:aP 65=11:=by decide
   have h2:aP 11=0:=by decide
   have h4:aP 106=0:=by decide
   have h3:jA 0≤1:=by unfold jA;simp
   have h5:kC 2≤1:=by unfold kC;simp
   have h6:kC 3≤1:=by unfold kC;simp
   simp[LZ,yy,mI,pn,i65,i106,i11,rz,h1,h2,h4];omega
end Go.Hl
end
section
namespace Go.Hl
open Go.RowKit Classical
section
variable {K:eU} {Z:Nat}
theorem zR{m:mV}{c:cg}(h:pO K c){F f:Nat}(hf:f<K.cH+K.own.length)(args:List Nat):dF K (eV K F f args (m,c)):=by
 unfold eV
 dsimp only
 exact fR (fun _=> .end_ (s:=(_,_)) h _) fun _=>pO.enter (s:=(({m with fuel:=F,over:=false},{c with stk:=c.stk++eG (K.sig f).P args}):bl)) (h.of rfl) hf
theorem oa(F f:Nat)(args:List Nat)(s:bl):(eV K F f args s).1.fuel=F∧(eV K F f args s).1.bN=s.1.bN:=by
 unfold eV
 dsimp only
 split
 · exact⟨rfl,rfl⟩
 · have h:=rP (K:=K) (a:=F) (b:=s.1.bN) f (({s.1 with fuel:=F,over:=false},{s.2 with stk:=s.2.stk++eG (K.sig f).P args}):bl)
   have e:fJ F s.1.bN (({s.1 with fuel:=F,over:=false},{s.2 with stk:=s.2.stk++eG (K.sig f).P args}):bl)=({s.1 with fuel:=F,over:=false},{s.2 with stk:=s.2.stk++eG (K.sig f).P args}):=rfl;rw[e] at h;rw[h];exact⟨rfl,rfl⟩
theorem Po{s:bl}{x:aq}(hx:(K.made (bt s.2).fn).body.L[(bt s.2).pl]?=some x)(hc:¬s.1.fuel<bZ x s.2):eE K Z s=zJ K Z x (bt s.2).pl ({s.1 with fuel:=s.1.fuel-bZ x s.2,bN:=s.1.bN+bZ x s.2},vz (((bt s.2).pl:Int)+1) s.2):=by
 unfold eE;simp only[hx];rw[if_neg hc]
theorem RT{s:bl}{x:aq}{at_:Nat}(h:x.Code=65∨x.Code=106∨x.Code=11):zJ K Z x at_ s=(cF K x s).getD s:=by
 have h1:aW K x at_ s=none:=by rcases h with h|h|h<;>simp[aW,h]
 have h2:bf K x s.2=none:=by rcases h with h|h|h<;>simp[bf,h]
 have h3:fq K Z x s=none:=by
  refine if_neg fun hf=>?_;have h4:=DH hf;rcases h with h|h|h<;>rw[h] at h4<;>revert h4<;>decide
 unfold zJ;simp only[h1,h2,h3]
end
section
variable {Z:Nat}
noncomputable abbrev K0:eU:=runK eX 10 2
def oJ(m:mV)(fu sp:Nat)(l:List Nat)(p:Nat)(c:cg):bl:=({m with fuel:=fu,bN:=sp,over:=false},{c with stk:=l,cN:=[⟨0,p,0⟩]})
theorem DM:K0.made 0=qU eX yy:=Bd rfl
theorem Y0(m:mV)(fu sp:Nat)(l:List Nat){p:Nat}(hp:p<10)(c:cg):vz ((p:Int)+1) (oJ m fu sp l p c).2=(oJ m fu sp l (p+1) c).2:=by
 unfold vz;rw[if_neg (fun h=>by rcases h with h|h|h;exact(List.cons_ne_nil _ _ h);omega;omega)]
 show({c with stk:=l,cN:=[⟨0,((p:Int)+1).toNat,0⟩]}:cg)=_
 rw[show((p:Int)+1).toNat=p+1 by omega];rfl
theorem Be{m:mV}{fu sp:Nat}{l:List Nat}{p:Nat}{c:cg}{x:aq}(hx:mI.L[p]?=some x)(hp:p<10)(h:x.Code=65∨x.Code=106∨x.Code=11):eE K0 Z (oJ m (fu+1) sp l p c)=(cF K0 x (oJ m fu (sp+1) l (p+1) c)).getD (oJ m fu (sp+1) l (p+1) c):=by
 have hc:bZ x (oJ m (fu+1) sp l p c).2=1:=if_neg (by omega);have e:=Po (K:=K0) (Z:=Z) (s:=oJ m (fu+1) sp l p c) (x:=x) (by show(K0.made 0).body.L[p]?=_;rw[DM];exact hx) (by rw[hc];show ¬fu+1<1;omega);rw[e,hc,RT h];have e2:(({(oJ m (fu+1) sp l p c).1 with fuel:=(oJ m (fu+1) sp l p c).1.fuel-1,bN:=(oJ m (fu+1) sp l p c).1.bN+1},vz (((bt (oJ m (fu+1) sp l p c).2).pl:Int)+1) (oJ m (fu+1) sp l p c).2):bl)=oJ m fu (sp+1) l (p+1) c:=Prod.ext rfl (Y0 m (fu+1) sp l hp c);rw[e2]
theorem Nf{m:mV}{fu sp:Nat}{l:List Nat}{p:Nat}{c:cg}(v:Nat)(h:l.length<10):(((oJ m fu sp l p c).1,dX K0 [v] (oJ m fu sp l p c).2):bl)=oJ m fu sp (l++[v]) p c:=by
 unfold dX;rw[if_pos (by show 1≤10-l.length;omega)];rfl
theorem T9{m:mV}{fu sp:Nat}{l:List Nat}{p:Nat}{c:cg}(n:Int)(h:l.length<10):cF K0 (i65 n) (oJ m fu sp l p c)=some (oJ m fu sp (l++[n.toNat]) p c):=by
 unfold cF;rw[if_pos (show(dY (i65 n).Code).Form=11 from show(dY 65).Form=11 by decide)];exact congrArg some (Nf n.toNat h)
theorem Ua{m:mV}{fu sp:Nat}{p:Nat}{c:cg}:cF K0 i106 (oJ m fu sp [2,3] p c)=some (oJ m fu sp [5] p c):=by
 unfold cF;rw[if_neg (show ¬(dY i106.Code).Form=11 by decide),if_neg (show ¬i106.Code=167 by decide),if_neg (show ¬0<(au i106.Code).1 by simp[au,i106])];unfold cJ;rw[show kS i106.Code=some (0,0,32) by decide];exact congrArg some (Nf (l:=[]) 5 (by decide))
theorem Y1{s:bl}:cF K0 i11 s=none:=by
 unfold cF;rw[if_neg (show ¬(dY i11.Code).Form=11 by decide),if_neg (show ¬i11.Code=167 by decide),if_neg (show ¬0<(au i11.Code).1 by simp[au,i11])];unfold cJ;rw[show kS i11.Code=none by decide]
theorem Pp(m:mV)(c:cg)(hs:c.stk=[])(hf:c.cN=[]):∃pk,eV K0 4 0 [] (m,c)=oJ {m with lE:=pk} 4 m.bN [] 0 c:=by
 obtain⟨l,fr,gl,tb,ms,co,mm⟩:=c;simp only at hs hf;subst hs hf;have hn:uM eX yy ((cj eX yy).getD [])=3:=by rw[DL];decide
 have hp:eG (K0.sig 0).P []=[]:=by cases (K0.sig 0).P<;>rfl
 have hz:(K0.sig 0).P.length=0:=rfl;have hm:(K0.made 0).kJ=3:=by rw[DM];exact hn
 have hl:(K0.made 0).locals=0:=by rw[DM];rfl
 refine⟨(max m.lE.1 ((([]:List Nat).length:Int)-((0:Nat):Int)+3),max m.lE.2 ((([]:List jx).length:Int)+1)),?_⟩;unfold eV
 dsimp only
 rw[hp];rw[if_neg (show ¬K0.cells-([]:List Nat).length<([]:List Nat).length by decide)];unfold iT;rw[if_neg (show ¬0<K0.cH by decide)]
 dsimp only
 have h0:0-K0.cH=0:=rfl;rw[h0,hm,hl,hz];rw[if_neg (by rintro(h|h|h)<;>revert h<;>decide)];rfl
theorem Pq{m:mV}{sp:Nat}{c:cg}:(eE K0 Z (oJ m 0 sp [5] 4 c)).1.over=true∧(eE K0 Z (oJ m 0 sp [5] 4 c)).1.out=⟨0,[5],0,0,0⟩∧(eE K0 Z (oJ m 0 sp [5] 4 c)).1.fuel=0:=by
 have e:eE K0 Z (oJ m 0 sp [5] 4 c)=js K0 (oJ m 0 sp [5] 4 c):=by
  unfold eE;have h:(K0.made (bt (oJ m 0 sp [5] 4 c).2).fn).body.L[(bt (oJ m 0 sp [5] 4 c).2).pl]?=none:=by show(K0.made 0).body.L[4]?=_;rw[DM];rfl
  simp only[h]
 have hn:(K0.made 0).sig.R.length=1:=by rw[DM];rfl
 have e2:js K0 (oJ m 0 sp [5] 4 c)=qF ⟨0,[5],0,0,0⟩ ((oJ m 0 sp [5] 4 c).1,{c with stk:=[],cN:=[]}):=by
  unfold js;have h:(bt (oJ m 0 sp [5] 4 c).2).fn=0:=rfl;simp only[h,hn];rfl
 rw[e,e2];exact⟨rfl,rfl,rfl⟩
theorem s4{K:eU}{n:Nat}{s:bl}(h:s.1.over=false):bM K Z (n+1) s=bM K Z n (eE K Z s):=by
 show(if s.1.over=true then _ else _)=_
 rw[if_neg (by rw[h];exact Bool.false_ne_true)]
theorem IJ(m:mV)(c:cg)(hs:c.stk=[])(hf:c.cN=[]):(bM K0 Z 5 (eV K0 4 0 [] (m,c))).1.over=true∧(bM K0 Z 5 (eV K0 4 0 [] (m,c))).1.out=⟨0,[5],0,0,0⟩∧(bM K0 Z 5 (eV K0 4 0 [] (m,c))).1.fuel=0:=by
 obtain⟨pk,h⟩:=Pp m c hs hf;have h1:=Be (Z:=Z) (m:={m with lE:=pk}) (fu:=3) (sp:=m.bN) (l:=[]) (p:=0) (c:=c) (x:=i65 2) rfl (by decide) (.inl rfl);have h2:=Be (Z:=Z) (m:={m with lE:=pk}) (fu:=2) (sp:=m.bN+1) (l:=[2]) (p:=1) (c:=c) (x:=i65 3) rfl (by decide) (.inl rfl);have h3:=Be (Z:=Z) (m:={m with lE:=pk}) (fu:=1) (sp:=m.bN+1+1) (l:=[2,3]) (p:=2) (c:=c) (x:=i106) rfl (by decide) (.inr (.inl rfl));have h4:=Be (Z:=Z) (m:={m with lE:=pk}) (fu:=0) (sp:=m.bN+1+1+1) (l:=[5]) (p:=3) (c:=c) (x:=i11) rfl (by decide) (.inr (.inr rfl));rw[T9 2 (by decide)] at h1;rw[T9 3 (by decide)] at h2;rw[Ua] at h3;rw[Y1] at h4
 have e:bM K0 Z 5 (eV K0 4 0 [] (m,c))=eE K0 Z (oJ {m with lE:=pk} 0 (m.bN+1+1+1+1) [5] 4 c):=by
  rw[h,s4 rfl,h1]
  show bM K0 Z 4 (oJ _ 3 _ [2] 1 c)=_
  rw[s4 rfl,h2]
  show bM K0 Z 3 (oJ _ 2 _ [2,3] 2 c)=_
  rw[s4 rfl,h3]
  show bM K0 Z 2 (oJ _ 1 _ [5] 3 c)=_
  rw[s4 rfl,h4]
  show bM K0 Z 1 (oJ _ 0 _ [5] 4 c)=_
  rw[s4 rfl];rfl
 rw[e];exact Pq
end
noncomputable section
def Kk:mV:=⟨0,0,false,0,0,(0,0),YM,false⟩
abbrev Y2(b sb:Nat)(cells frames fuel:Nat)(kb fb:Nat):HP:=aF b [ai sb 0,nV cells,nV frames,nV fuel,ai kb 0,ai fb 0,aa .u32 0,aa .i32 0,aa .u32 0,af (.slice none 0 0),nV 0,nV 0,ak False,nV 0,nV 0,ak False,aa .i64 0,aa .i64 0,nV 0,an 1 ig [],nV 0,nV 0,nV 0,ak False]
def Pr(X:m7)(a:cS)(pb sb kb fb g0 t0 k0 f0:Nat):qG:=⟨X,pb,a,sb,kb,fb,[],0,g0,t0,k0,f0,64,fun _ _ _=>eY True⟩
variable {X:m7}
theorem Ng{K:eU}{c:cg}{a:cS}{pb sb kb fb g0 t0 k0 f0:Nat}{r:List HP}(hV:eZ (Pr X a pb sb kb fb g0 t0 k0 f0) K a c)(hs:c.stk=[])(hf:c.cN=[]):
    aA (ij kb X k0 K.cells 0::iS fb X f0 K.frames 0::lX sb X pb K.m 0 (g0:Int) (t0:Int) (af (.slice none 0 0))::gy X a++r) (aM (Pr X a pb sb kb fb g0 t0 k0 f0) K c::r):=by
  refine aA.trans ?_ (w7 hV)
  have e:ny (Pr X a pb sb kb fb g0 t0 k0 f0) K a c=[ij kb X k0 K.cells 0,iS fb X f0 K.frames 0,lX sb X pb K.m 0 (g0:Int) (t0:Int) (an 1 sD []),tK X a,m6 X.db a.bytes,eY True]:=by
    unfold ny;rw[hs,hf];rfl
  rw[e];exact .cons _ (.cons _ (.trans (.cells (.cons (.refl _) (.cons (.refl _) (.cons (.refl _) (.cons (.refl _) (.cons (.refl _) (.cons (.refl _) (.cons (aN _ _) (.cons (.refl _) .nil))))))))) (.cons _ (.cons _ (.cons _ (.pure trivial))))))
structure Gr(m:aR):Prop where
 gl:m.aH=[]
 tb:m.Table= -1
 ms:m.dU=[]
 el:m.dw=[]
 da:m.fV=[]
section
variable {m:aR} (h:Gr m)
include h
theorem Gr.md:u9 m:=by
 refine⟨by rw[h.gl];decide,fun z hz=>?_,by rw[h.tb];decide,fun z hz=>?_,by rw[h.ms];decide,by rw[h.el];decide,fun z hz=>?_,by rw[h.da];decide,fun z hz=>?_⟩
 · rw[h.gl] at hz;cases hz
 · rw[h.ms] at hz;cases hz
 · rw[h.el] at hz;cases hz
 · rw[h.da] at hz;cases hz
theorem Gr.seg{r:Nat×Nat×Int}(k:Az m r):r=(0,0,0):=by
 rcases k with⟨k,e,h1,_⟩|⟨_,k,d,h1,_⟩|⟨_,_,k⟩
 · rw[h.el] at h1;cases h1
 · rw[h.da] at h1;cases h1
 · rw[h.el,h.da] at k;exact k
theorem Gr.rm:zo m=16∧LP m=16:=by
 have ht:fB m=0:=by unfold fB;rw[h.tb];rfl
 constructor
 · unfold zo;rw[h.gl];decide
 · unfold LP;rw[ht];decide
end
def DN:cg:=⟨[],[],[],[],[],Ck 64,0⟩
abbrev BI(m:aR)(n:Nat):cS:=Mm m (Sk n) 0
theorem Bf{m:aR}(h:Gr m){n:Nat}(hX:X.size=n)(h1:32≤n)(h2:n≤4194304):cC X (BI m n)∧(BI m n).height=32∧(BI m n).live=32:=by
 obtain⟨e1,e2⟩:=h.rm;have hk:=Im (X:=X) (m:=m) (FK hX h2) h.md (by rw[e1,e2,hX];show 0+(16+16)≤n;omega) 0;refine⟨hk.1,?_,?_⟩
 · rw[hk.2.height];show 0+zo m+LP m=32;rw[e1,e2]
 · rw[hk.2.live];show 0+zo m+LP m=32;rw[e1,e2]
abbrev RU(m:aR)(n cells frames:Nat):cS:=EC (EC (BI m n) (aG (8*cells))) (aG (12*frames))
def vf:aR:=⟨[],[],[],-1,[],[],[],-1,[],[]⟩
theorem DO:Gr vf:=⟨rfl,rfl,rfl,rfl,rfl⟩
theorem okN:gD vf:=by
 refine⟨?_,?_,?_⟩<;>intro f hf<;>cases hf
theorem RV:ec vf:=by
 refine⟨?_,fun f hf=>by cases hf⟩;refine⟨?_,?_,?_,?_,?_,?_,?_,?_,?_,?_⟩<;>simp[vf,zf,nj,lG,nQ,zg,nk,nq,lH,tI,tJ,mh,fO,eB,iE]
theorem RW:ri vf:=by
 refine ri.of ⟨?_,?_,?_,?_,?_,?_,?_,?_⟩ ?_ ?_ ?_ ?_ ?_ ?_<;>simp[vf]
theorem RX:ri eX:=by
 refine ri.of ⟨?_,?_,?_,?_,?_,?_,?_,?_⟩ ?_ ?_ ?_ ?_ ?_ ?_<;>simp[eX,yy]
 constructor<;>simp[mI,i65,i106,i11]
theorem IK{k:Int}{v:Nat}:ag (aK [aa .i64 k,aa .u64 (v:Int),af (.int .u64 0),af (.int .i64 0),af (.slice none 0 0)]) (aK (aE ⟨k,(v:Int),0,0,[]⟩)):=
 ag.agg (.cons (ag.refl _) (.cons (ag.refl _) (.cons (ag.refl _) (.cons (ag.refl _) (.cons (aN 1 cK) .nil)))))
structure Pt where
 cells:Int
 frames:Int
 fuel:Int
def pT(c:Pt):List VP:=[aa .i64 c.cells,aa .i64 c.frames,aa .i64 c.fuel]
instance:iy 3 pT:=⟨fun _=>rfl,fun x q h=>by simp only[pT,List.mem_cons,List.not_mem_nil,or_false] at h;rcases h with h|h|h<;>subst h<;>infer_instance⟩
instance (c:Pt):bq (pT c):=bq.of c
theorem uO:Gr eX:=⟨rfl,rfl,rfl,rfl,rfl⟩
abbrev RY(X:m7)(pb sb kb fb:Nat):qG:=Pr X (RU eX 1048576 10 2) pb sb kb fb (Sk 1048576).height ((Sk 1048576).height+zo eX) (BI eX 1048576).height (EC (BI eX 1048576) (aG (8*10))).height
theorem Nh(hX:X.size=1048576):(BI eX 1048576).height+aG (8*10)+aG (12*2)≤X.size:=by
 rw[(Bf uO hX (by decide) (by decide)).2.1,hX];decide
theorem IL{pb sb kb fb:Nat}(hX:X.size=1048576):lZ (RY X pb sb kb fb) K0∧eZ (RY X pb sb kb fb) K0 (RU eX 1048576 10 2) DN:=by
 obtain⟨h1,h2,_⟩:=Bf uO hX (by decide) (by decide);have c1:aG (8*10)=128:=by decide
 have c2:aG (12*2)=32:=by decide
 have h3:cC X (EC (BI eX 1048576) (aG (8*10))):=nS h1 (by rw[h2,c1,hX];decide);have h4:cC X (RU eX 1048576 10 2):=nS h3 (by show(BI eX 1048576).height+aG (8*10)+aG (12*2)≤_;rw[h2,c1,c2,hX];decide);have h5:fB eX=0:=rfl;refine⟨⟨by show 0+8*0≤0+zo eX;omega,?_,?_,?_,by show 0≤60000;decide,by show 10≤65536;decide,by show 2≤10000;decide,by show 0<64∧64≤1024;decide,fun z hz=>by cases hz⟩,⟨h4,mo.refl _, .nil, .nil,fun i v h=>(by cases h),fun i v h=>(by cases h),by show 0≤10;decide,by show 0≤2;decide,rfl,rfl⟩⟩
 · show 0+zo eX+4*fB eX≤(BI eX 1048576).height;rw[h2,h5,uO.rm.1];decide
 · show(BI eX 1048576).height+8*10≤(BI eX 1048576).height+aG (8*10);rw[c1];omega
 · show(BI eX 1048576).height+aG (8*10)+12*2≤X.size;rw[h2,c1,hX];decide
end
end Go.Hl
end
section
namespace Go.Proofs.YtmacjbfbpjgmnaaGreatDoor
open Go.Hl Go.RowKit
variable {X:m7} {a:cS} {n:Nat}
theorem Bg{kb:Nat}{at_ h ca:Nat}(aj:br a.taken (at_:Int)=some (ca:Int))(aQ:ca≤a.live)(bu:a.live≤4194304):bk Tryz.prog 35 [ai kb 0] (ij kb X at_ n h::eo X a) (γ:=Unit) (fun _=>True) (fun _=>[]) (fun _=>dg):=by
 refine In 17 Tryz.func35 fun _ _ _=>?_;refine Z9 ?_;refine .n ((cE (h:=gQ)).same (fun _ _=>aA.refl _) (fun _ _=>ag.refl _)) rfl fun _ _=>?_;refine Z2 ?_;refine CT fun c0=>?_;refine ek ?_;refine .own (aA.trans (aA.perm (Perm.idx [1,2,3,4,0] rfl rfl)) ((Jp (X:=X) (a:=a)).trans (LM (k:=1) (by decide)))) ?_;refine .bz 8 2 FM.out (by kernel_rfl) (k:= ?_);refine Z3 ?_;refine .p (ff (i:=4) FA.out (.t rfl) rfl rfl) ?_;refine Z3 ?_;refine .p (ff (i:=4) FA.out (.t rfl) rfl rfl) ?_;refine Z1 ?_;refine .n (cE (h:=Gb (a:=a) (at_:=(at_:Int)) (c:=ca) (n:=1) aj aQ bu (by decide))) rfl fun RH P9=>?_;refine Z4 ?_;refine Post.aO rfl (()) (by trivial) (aA.nil _) (.rt rfl) ?_;exact ag.any
variable {sb:Nat} {pb:Nat} {m:aR} {num:Int} {mv:VP} {g:Int} {t:Int}
theorem zS{cells frames fuel:Nat}(aj:cC X a)(aQ:1≤cells)(bu:cells≤65536)(cZ:1≤frames)(jy:frames≤10000)(qH:fuel≤10000000)(BJ:a.height+aG (8*cells)+aG (12*frames)≤X.size):bk Tryz.prog 8 [ai sb 0,ai X.ab 0,aK [nV cells,nV frames,nV fuel]] (lX sb X pb m num g t mv::eo X a) (γ:=Nat×Nat×Nat) (fun _=>True) (fun r=>Y2 r.1 sb cells frames fuel r.2.1 r.2.2::ij r.2.1 X a.height cells 0::iS r.2.2 X (EC a (aG (8*cells))).height frames 0::lX sb X pb m num g t mv::eo X (EC (EC a (aG (8*cells))) (aG (12*frames)))) (fun r=>aS [ai r.1 0,aa .i64 0]):=by
 refine In 56 Tryz.func8 fun _ _ _=>?_;refine fW ?_;refine .n ((cE (h:=nC)).same (fun _ _=>aA.refl _) (fun _ _=>ag.refl _)) rfl fun _ _=>?_;refine Z3 ?_;refine .g (bB.gF rfl rfl rfl rfl (fun hg=>bS FU.out (.when (.t rfl) hg))) rfl rfl ?_;refine Z4 ?_;refine Cd (fun c0=>?_) fun c0=>?_
 · exact(c0.elim id id).elim
 refine jz ?_;refine CT fun c1=>?_;refine Z8 ?_;refine .n (fU [_] [1,2,3,4,0] (h:=xw (X:=X) (a:=a) (n:=cells) aj aQ bu (by omega))) rfl fun Ni Pa=>?_;refine j4 ?_;refine CT fun c2=>?_;refine Z7 ?_;refine .n (fU [_,_] [1,2,3,4,0,5] (h:=Gi (X:=X) (a:=(EC a (aG (8*cells)))) (n:=frames) (nS aj (by omega)) cZ jy BJ)) rfl fun Nj Nk=>?_;refine j4 ?_;refine CT fun c3=>?_;refine Z8 ?_;refine .p ((az FP.out FZ.out (.cons (.t rfl) (.cons (.t rfl) (.cons (.t rfl) (.cons (.t rfl) .nil)))) rfl).le ((by exact show ag _ (aK [ai sb 0,nV cells,nV frames,nV fuel,ai Ni 0,ai Nj 0,aa .u32 0,aa .i32 0,aa .u32 0,af (.slice none 0 0),nV 0,nV 0,ak False,nV 0,nV 0,ak False,aa .i64 0,aa .i64 0,nV 0,an 1 ig [],nV 0,nV 0,nV 0,ak False]) from ag.agg (.cons (.refl _) (.cons (.refl _) (.cons (.refl _) (.cons (.refl _) (.cons (.refl _) (.cons (.refl _) (.cons (.refl _) (.cons (.refl _) (.cons (.refl _) (.cons (.refl _) (.cons (.refl _) (.cons (.refl _) (.cons lD (.cons (.refl _) (.cons (.refl _) (.cons lD (.cons (.refl _) (.cons (.refl _) (.cons (.refl _) (.cons (aN _ _) (.cons (.refl _) (.cons (.refl _) (.cons (.refl _) (.cons lD (.nil)))))))))))))))))))))))))))) rfl ?_;refine .n (gX (.t rfl)) rfl fun b55 _=>?_;refine Z5 ?_;refine Post.bY rfl rfl ((b55,Ni,Nj)) (by trivial) (aA.fI [0,6,1,7,2,3,4,5] [] rfl rfl) rfl (.cons (.rt rfl) ?_ (.cons (.rt rfl) ?_ .nil))
 · exact .z
 exact .z
variable {cells:Int} {frames:Int} {fuel:Int}
theorem Gs(aj:fuel<0∨10000000<fuel):bk Tryz.prog 8 [ai sb 0,ai X.ab 0,aK [aa .i64 cells,aa .i64 frames,aa .i64 fuel]] (lX sb X pb m num g t mv::eo X a) (γ:=Unit) (fun _=>True) (fun _=>[]) (fun _=>aS [kK,aa .i64 1]):=by
 refine In 56 Tryz.func8 fun _ _ _=>?_;refine fW ?_;refine .n ((cE (h:=nC)).same (fun _ _=>aA.refl _) (fun _ _=>ag.refl _)) rfl fun _ _=>?_;refine Z3 ?_;refine .g (bB.gF rfl rfl rfl rfl (fun hg=>bS FU.out (.when (.t rfl) hg))) rfl rfl ?_;refine Z4 ?_;refine Cd (fun c0=>?_) fun c0=>?_
 · exact(c0.elim id id).elim
 refine jz ?_;refine CF fun c1=>?_;refine Z9 ?_;refine Post.bY rfl rfl (()) (by trivial) (aA.nil _) rfl (.cons (.rt rfl) ?_ (.cons (.rt rfl) ?_ .nil))
 · exact .z
 exact .z
theorem Gt(aj:0≤fuel)(aQ:fuel≤10000000)(bu:cells<1∨65536<cells):bk Tryz.prog 8 [ai sb 0,ai X.ab 0,aK [aa .i64 cells,aa .i64 frames,aa .i64 fuel]] (lX sb X pb m num g t mv::eo X a) (γ:=Unit) (fun _=>True) (fun _=>[]) (fun _=>aS [kK,aa .i64 1]):=by
 refine In 56 Tryz.func8 fun _ _ _=>?_;refine fW ?_;refine .n ((cE (h:=nC)).same (fun _ _=>aA.refl _) (fun _ _=>ag.refl _)) rfl fun _ _=>?_;refine Z3 ?_;refine .g (bB.gF rfl rfl rfl rfl (fun hg=>bS FU.out (.when (.t rfl) hg))) rfl rfl ?_;refine Z4 ?_;refine Cd (fun c0=>?_) fun c0=>?_
 · exact(c0.elim id id).elim
 refine jz ?_;refine CT fun c1=>?_;refine Z8 ?_;refine .p (cA (h:=Du (ab:=X.ab) (n:=cells) bu)) rfl ?_;refine j4 ?_;refine Cd (fun c2=>?_) fun c2=>?_
 ·
  refine Z9 ?_;refine Post.bY rfl rfl (()) (by trivial) (aA.nil _) rfl (.cons (.rt rfl) ?_ (.cons (.rt rfl) ?_ .nil))
  · exact .z
  exact .z
 exact(c2 (by decide)).elim
theorem Gu{k:Nat}(aj:0≤fuel)(aQ:fuel≤10000000)(bu:frames<1∨10000<frames)(cZ:cells=(k:Int))(jy:1≤k)(qH:k≤65536)(BJ:cC X a)(Kl:a.height+aG (8*k)≤X.size):bk Tryz.prog 8 [ai sb 0,ai X.ab 0,aK [aa .i64 cells,aa .i64 frames,aa .i64 fuel]] (lX sb X pb m num g t mv::eo X a) (γ:=Unit) (fun _=>True) (fun _=>[]) (fun _=>aS [kK,aa .i64 1]):=by
 refine In 56 Tryz.func8 fun _ _ _=>?_;refine fW ?_;refine .n ((cE (h:=nC)).same (fun _ _=>aA.refl _) (fun _ _=>ag.refl _)) rfl fun _ _=>?_;refine Z3 ?_;refine .g (bB.gF rfl rfl rfl rfl (fun hg=>bS FU.out (.when (.t rfl) hg))) rfl rfl ?_;refine Z4 ?_;refine Cd (fun c0=>?_) fun c0=>?_
 · exact(c0.elim id id).elim
 refine jz ?_;refine CT fun c1=>?_;refine Z7 ?_;refine .p ((oK FA.out (.t rfl)).le (ag.int cZ)) rfl ?_;refine .n (fU [_] [1,2,3,4,0] (h:=xw (X:=X) (a:=a) (n:=k) BJ jy qH Kl)) rfl fun Ni Pa=>?_;refine j4 ?_;refine CT fun c2=>?_;refine Z7 ?_;refine .p (cA (h:=Dw (ab:=X.ab) (n:=frames) bu)) rfl ?_;refine j4 ?_;refine Cd (fun c3=>?_) fun c3=>?_
 ·
  refine Z3 ?_;refine .n (cE (h:=Bg (a:=EC a (aG (8*k))) (ca:=aG (8*k)) (by rw[zn,if_pos rfl]) (by simp only;omega) (by have h1:=BJ.live;have h2:=BJ.most;simp only;omega))) rfl fun KV h48=>?_;refine ek ?_;refine Post.bY rfl rfl (()) (by trivial) (aA.nil _) rfl (.cons (.rt rfl) ?_ (.cons (.rt rfl) ?_ .nil))
  · exact .z
  exact .z
 exact(c3 (by decide)).elim
theorem qy(aj:n≤4194304):bk Tryz.prog 9 [dP (n:Int)] [] (γ:=m7) (fun X=>X.size=n) (fun X=>eo X ⟨List.replicate n 0,0,0,[]⟩) (fun X=>aS [ai X.ab 0,dP 0]):=by
 refine In 16 Tryz.func9 fun _ _ _=>?_;refine EA ?_;refine CT fun c0=>?_;refine Z5 ?_;refine .n (I2 FU.out FC.out FY.out FZ.out (.t rfl) rfl (by omega)) rfl fun b11 _=>?_;refine .n (mc (Value.int .i64) dP) rfl fun m12 _=>?_;refine .n (mc (Value.int .i64) (fun _:Unit=>oR)) rfl fun m13 _=>?_;refine Z1 ?_;refine .n (gX (.t rfl)) rfl fun b15 _=>?_;refine Z5 ?_;refine Post.bY rfl rfl (⟨b15,b11,m12,m13,n⟩) (by rfl) (aA.fI [0,3,2,1] [] rfl rfl) rfl (.cons (.rt rfl) ?_ (.cons (.rt rfl) ?_ .nil))
 · exact .z
 exact .z
theorem zT{cap:Int}(aj:16≤n)(aQ:n≤1024)(bu:0≤cap)(cZ:cap≤4096):bk Tryz.prog 43 [dP (n:Int),dP cap] [] (γ:=Nat) (fun _=>True) (fun sb=>[o4 sb ⟨n,cap,0,0,-1,false,[]⟩]) (fun sb=>aS [ai sb 0,dP 0]):=by
 refine In 25 Tryz.func43 fun _ _ _=>?_;refine XF ?_;refine CT fun c0=>?_;refine Z6 ?_;refine .n (mc (Value.int .i64) (fun b=>oW b 0 n)) rfl fun m22 _=>?_;refine Z1 ?_;refine .n (gX (.t rfl)) rfl fun b24 _=>?_;refine Z5 ?_;refine Post.bY rfl rfl (b24) (by trivial) (uv (E:=[]) (mb:=m22) (sz:=n) (s:=⟨n,cap,0,0,-1,false,[]⟩) rfl rfl|>aA.trans (aA.trans (aA.cons _ (aA.cons _ iO)) (aA.cells (.cons (.refl _) (.cons (.refl _) (.cons (.refl _) (.cons (.refl _) (.cons (.refl _) (.cons (.refl _) (.cons lD .nil)))))))))) rfl (.cons (.rt rfl) ?_ (.cons (.rt rfl) ?_ .nil))
 · exact .z
 exact .z
theorem Gv{s:KS}:bk Tryz.prog 77 [ai sb 0] [o4 sb s] (γ:=Unit) (fun _=>True) (fun _=>[o4 sb s]) (fun _=>dP (s.size:Int)):=by
 refine In 9 Tryz.func77 fun _ _ _=>?_;refine .To fun mb E hE=>?_;refine Z9 ?_;refine .p (bS FU.out (.t rfl)) rfl ?_;refine Z2 ?_;refine CT fun c0=>?_;refine fW ?_;refine Post.aO rfl (()) (by trivial) (uv hE rfl) (.rt rfl) ?_;exact .z
theorem zU{Y:m7}{z q:Nat}{a0:cS}(aj:PV Y a0 a0 (aG z) 0)(aQ:0<n)(bu:n≤64)(cZ:z≤1024)(jy:q≤4096)(qH:a0.height+n*aG z≤Y.size):bk Tryz.prog 44 [ai Y.ab 0,ai sb 0,dP (n:Int)] (o4 sb ⟨z,(q:Int),0,0,-1,false,[]⟩::eo Y a0) (γ:=Ch×cS) (fun g=>g.1.Y=Y∧g.1.sb=sb∧g.1.n=n∧g.1.lo=a0.height∧g.1.hi=a0.height+n*aG z∧PV Y a0 g.2 (aG z) n∧Ji g.1 z q LA ⟨cN a0.height (aG z) n,0,[],[],0,false⟩ g.2 ⟨z,(q:Int),0,0,-1,false,[]⟩ (Ck z) 0) (fun g=>Cj g.1 ⟨cN a0.height (aG z) n,0,[],[],0,false⟩ g.2 ⟨z,(q:Int),0,0,-1,false,[]⟩) (fun g=>aS [ai g.1.pb 0,dP 0]):=by
 refine In 58 Tryz.func44 fun _ _ _=>?_;refine ek ?_;refine .p (bS FU.out (.t rfl)) rfl ?_;refine Z2 ?_;refine .g (bB.gF rfl rfl rfl rfl (fun hg=>bS FU.out (.when (.t rfl) hg))) rfl rfl ?_;refine Z4 ?_;refine Cd (fun c0=>?_) fun c0=>?_
 · exact(show False by simp at c0).elim
 refine ek ?_;refine CT fun c1=>?_;refine Z7 ?_;refine .n (mc y4 dP) rfl fun Y3 _=>?_;refine .n (mc y4 dP) rfl fun Y4 _=>?_;refine Z1 ?_;refine .n (gX (.t rfl)) rfl fun b30 _=>?_;refine Z3 ?_;refine .own (uw (n:=6) (enc:=zc)) ?_;refine .own (aA.perm (Perm.idx [1,0,2,3,4,5,6,7,8] rfl rfl)) ?_;refine Z8 ?_;refine .bP (σ:=SB×cS×Nat) (fun g=>aF b30 [ai Y.ab 0,ai sb 0,af (bA g.1 (cN a0.height (aG z) g.2.2).length),dP 0,af (.map (some Y3)),af (.map (some Y4)),dP 0,af (.bool false)]::aI g.1 6 zc (cN a0.height (aG z) g.2.2)::iD Y4 y4 dP ([]:List (cP×Int))::iD Y3 y4 dP ([]:List (cP×Int))::o4 sb ⟨z,(q:Int),0,0,-1,false,[]⟩::eo Y g.2.1) (fun g=>[(32,dP (g.2.2:Int))]) (fun g=>PV Y a0 g.2.1 (aG z) g.2.2∧g.2.2≤n) (fun g=>n-g.2.2) (none,a0,0) ⟨aj,Nat.zero_le _⟩ rfl ?_ ?_
 · exact(.get rfl (ag.refl _) (.refl _ _))
 rintro⟨gb1,a1,j1⟩ ⟨Ub,hj⟩;simp only at Ub hj ⊢;refine Z6 ?_;refine Cd (fun c2=>?_) fun c2=>?_
 ·
  have hj1:a0.height+(j1+1)*aG z≤Y.size:=Nat.le_trans (Nat.add_le_add_left (Nat.mul_le_mul_right _ (by omega)) _) qH;refine Z8 ?_;refine .n ((fU [_,_,_,_,_,_,_,_] [4,0,1,2,3,5,6,7,8] (h:=Gv (s:=⟨z,(q:Int),0,0,-1,false,[]⟩))).same (fun _ _=>aA.perm (Perm.idx [1,2,3,4,0,5,6,7,8] rfl rfl)) (fun _ _=>ag.refl _)) rfl fun _ _=>?_;refine .n (fU [_,_,_,_,_] [5,6,7,8,0,1,2,3,4] (h:=lQ (X:=Y) (a:=a1) (n:=z) Ub.ok)) rfl fun O9 Sp=>?_;refine Z7 ?_;obtain⟨a2,at2,e2⟩:=O9;obtain⟨KQ,Uc,hA2⟩:=Ub.take (n:=z) (by omega) hj1 Sp;simp only at KQ Uc hA2;subst KQ;subst Uc;have hfl:=qg a0.height (aG z) j1;refine Z7 ?_;refine CT fun c3=>?_;refine Z7 ?_;refine .p (ff (i:=4) FA.out (.t rfl) rfl rfl) rfl ?_;refine Z1 ?_;refine .p ((az FP.out FZ.out (.cons (.t rfl) .nil) rfl).le (ag.agg (.cons (ag.refl _) (.cons (.refl _) (.cons (.refl _) (.cons lD (.cons lD (.cons lD .nil)))))))) rfl ?_;refine .p (cB zc [(⟨a0.height+j1*aG z,(0,0),false,false,false⟩:Fr)]) rfl ?_;refine .n (bn (i:=5) (xs:=cN a0.height (aG z) j1) (ys:=[(⟨a0.height+j1*aG z,(0,0),false,false,false⟩:Fr)]) FU.out FU.out FC.out rfl FZ.out rfl FY.out (.t rfl) (.t rfl) rfl (by(simp only[qg,List.length_cons,List.length_nil];omega)) (by(simp only[qg,List.length_cons,List.length_nil];omega))) rfl fun ND _=>?_;refine Z2 ?_;refine .s (je (i:=4) FC.out (.t rfl) (.t rfl) rfl rfl) ?_;refine Z7 ?_;refine .own (aA.perm (Perm.idx [4,5,6,7,8,0,1,2,3] rfl rfl)) (bx.round (ND,a2,j1+1) ⟨hA2,by(show j1+1≤n;omega)⟩ (by(show n-(j1+1)<n-j1;omega)) (by(simp only[LD];rfl)) ?_);exact(.get rfl (ag.int (by(show(j1:Int)+1=((j1+1:Nat):Int);omega))) ((.keep 26 rfl rfl)))
 have hjn:j1=n:=by omega
 subst hjn;refine .iY 1 rfl (fun e=>by(have h9:=congrArg List.length e;rw[qg] at h9;simp at h9;omega)) fun fb cap hgb=>?_;subst hgb;refine jz ?_;refine Post.bY rfl rfl ((⟨b30,sb,fb,cap,Y3,Y4,j1,a0.height,a0.height+j1*aG z,Y⟩,a1)) (by exact⟨rfl,rfl,rfl,rfl,rfl,Ub,Od aQ bu cZ jy Ub rfl rfl⟩) (aA.trans (aA.cells (.cons (.refl _) (.cons (.refl _) (.cons (ag.of_eq (by rw[qg])) (.cons (.refl _) (.cons (.refl _) (.cons (.refl _) (.cons (.refl _) (.cons lD .nil))))))))) (aA.perm (Perm.idx [0,1,3,2,4,5,6,7,8] rfl rfl))) rfl (.cons (.rt rfl) ?_ (.cons (.rt rfl) ?_ .nil))
 · exact .z
 exact .z
theorem Bh{fr:Int}:bk Tryz.prog 47 [dP fr] [] (γ:=Nat) (fun _=>True) (fun _=>[]) (fun pb=>ai pb 0):=by
 refine In 28 Tryz.func47 fun _ _ _=>?_;have Y5:aG 256=256:=by decide
 refine Z7 ?_;refine .n (cE (h:=qy (n:=65536) (by decide))) rfl fun Ix h10=>?_;refine Z9 ?_;refine .n (cE (h:=zT (n:=256) (cap:=4096) (by decide) (by decide) (by decide) (by decide))) rfl fun Qe yz=>?_;refine jz ?_;refine .p (vG (.t rfl) (.c _)) rfl ?_;refine .p ((gf (.c _) (.t rfl) bW).le (ag.int (show _=(((1+min (max fr 0) 63).toNat:Nat):Int) by omega))) rfl ?_;refine .n (cE (h:=zU (Y:=Ix) (sb:=Qe) (z:=256) (q:=4096) (n:=(1+min (max fr 0) 63).toNat) (a0:=⟨List.replicate 65536 0,0,0,[]⟩) (HQ h10 (by decide)) (by omega) (by omega) (by decide) (by decide) (by(show 0+(1+min (max fr 0) 63).toNat*aG 256≤_);rw[h10,Y5];omega))) rfl fun J1 FW=>?_;refine j4 ?_;refine Post.aO rfl (J1.1.pb) (by trivial) (aA.nil _) (.rt rfl) ?_;exact .z
theorem DP(aj:cC X a)(aQ:u9 m)(bu:a.height+(zo m+LP m)≤X.size):bk Tryz.prog 37 [ai sb 0] (lX sb X pb m num 0 0 mv::eo X a) (γ:=Unit) (fun _=>True) (fun _=>lX sb X pb m num (a.height:Int) ((a.height+zo m:Nat):Int) mv::eo X (rq a m)) (fun _=>aa .i64 0):=by
 refine In 59 Tryz.func37 fun _ _ _=>?_;have Sq:zo m=aG (8*m.aH.length):=rfl;have hm2:LP m=aG (4*fB m):=rfl;have hr1:=aQ.r1;have hr2:=aQ.r2;have hkh:=aj.hi;have hkm:=aj.most;have KP:=aj.live
 have RI:=aQ.gl;have htn:(max m.Table 0)=((fB m:Nat):Int):=by unfold fB;omega
 refine fW ?_;refine .bF [(0,0),(1,0),(2,0),(3,0),(4,1),(5,0),(6,0),(7,0),(8,1),(9,0),(10,0),(11,0),(12,0),(13,0),(14,2),(15,0),(16,0),(17,0),(18,0),(19,0),(20,3)] 21 1 FM.out (by kernel_rfl) (k:= ?_);refine jz ?_;refine .p rfl (fun _=>(vE (.c _) (.t rfl) bW).le (ag.int (show _=((8*m.aH.length:Nat):Int) by omega))) ?_;refine .e rfl (fU [_] [1,2,3,4,0] (h:=lQ (X:=X) (a:=a) (n:=8*m.aH.length) aj)) fun KW Ud=>?_;refine Z5 ?_;refine .s rfl (je (i:=4) FC.out (.t rfl) (.t rfl) rfl rfl) ?_;refine .fin ?_;refine Z3 ?_;rw[sC aj (by omega) (by omega)] at Ud;subst Ud;refine Z6 ?_;refine CT fun c0=>?_;refine Z4 ?_;refine .bF [(0,0),(1,0),(2,0),(3,0),(4,1),(5,0),(6,0),(7,0),(8,1),(9,0),(10,0),(11,0),(12,0),(13,0),(14,2),(15,0),(16,0),(17,0),(18,0),(19,0),(20,3)] 21 1 FM.out (by kernel_rfl) (k:= ?_);refine Z4 ?_;refine .o rfl (ff (i:=4) FA.out (.t rfl) rfl rfl) ?_;refine Z3 ?_;refine .o rfl (ff (i:=4) FA.out (.t rfl) rfl rfl) ?_;refine Z4 ?_;refine .p rfl (fun _=>(vE (.c _) (.t rfl) (by rw[htn];exact cG (by omega) (by omega))).le (ag.int (show _=((4*fB m:Nat):Int) by rw[htn];omega))) ?_;refine .e rfl (cE (h:=lQ (X:=X) (a:=EC a (zo m)) (n:=4*fB m) (nS aj (by omega)))) fun Nj Nk=>?_;refine Z5 ?_;refine .s rfl (je (i:=4) FC.out (.t rfl) (.t rfl) rfl rfl) ?_;refine .fin ?_;refine Z3 ?_;rw[sC (nS aj (by omega)) (by omega) (by simp only;omega)] at Nk;subst Nk;refine Z6 ?_;refine CT fun c1=>?_;refine Z9 ?_;refine Post.aO rfl (()) (by trivial) (aA.fI [4,0,1,2,3] [] rfl rfl) (.rt rfl) ?_;exact .z
theorem Gw{t0:Nat}{e:kH}(aj:cC X a)(aQ:u9 m)(bu:t0+4*fB m≤X.size)(cZ:e∈m.dw):bk Tryz.prog 73 [ai sb 0,aK (nN e)] (lX sb X pb m num g (t0:Int) mv::gy X a) (γ:=Unit) (fun _=>True) (fun _=>lX sb X pb m num g (t0:Int) mv::gy X (NA m t0 e a)) (fun _=>aa .i64 (Rb m e)):=by
 refine In 60 Tryz.func73 fun _ _ _=>?_;obtain⟨UN,HA,KQ,Xx⟩:=aQ.el e cZ;have hr2:=aQ.r2;have hkm:=aj.most
 have htn:(max m.Table 0)=((fB m:Nat):Int):=by unfold fB;omega
 have hbd:lI m e↔((fB m:Int)<e.At∨(fB m:Int)-e.At<(e.aB.length:Int)):=Iff.rfl;refine uZ ?_;refine .p ((K7 (.t rfl) (.c _)).le (ag.int htn)) rfl ?_;refine .p ((gW FU.out FU.out (.t rfl) bW).le (ag.int (show _=((fB m:Nat):Int) by omega))) rfl ?_;refine Z23 ?_;refine Cd (fun c0=>?_) fun c0=>?_
 ·
  have hb:lI m e:=hbd.2 (by omega);have RL:NA m t0 e a=a:=if_pos hb;have Sn:Rb m e=5:=if_pos hb;refine Z7 ?_;refine Post.aO rfl (()) (by trivial) (aA.of_eq (by rw[RL])) (.rt rfl) ?_;exact ag.int (by rw[Sn])
 have hb:¬lI m e:=fun h=>c0 (by have h2:=hbd.1 h;omega);have RL:NA m t0 e a=PW t0 e a e.aB.length:=if_neg hb;have Sn:Rb m e=0:=if_neg hb;have hin:e.At+(e.aB.length:Int)≤(fB m:Int):=by(have h3:=fun h=>hb (hbd.2 h);omega)
 refine fW ?_;refine .bP (σ:=Nat) (fun k=>lX sb X pb m num g (t0:Int) mv::gy X (PW t0 e a k)) (fun k=>[(35,aa .i64 (k:Int))]) (fun k=>k≤e.aB.length) (fun k=>e.aB.length-k) 0 (Nat.zero_le _) rfl ?_ ?_
 · exact(.get rfl (ag.refl _) (.refl _ _))
 rintro k hk;refine Z6 ?_;refine Cd (fun c1=>?_) fun c1=>?_
 ·
  obtain⟨z,hz⟩:=ah (xs:=e.aB) (k:=k) (by omega);have x4:=Xx z (List.mem_of_getElem? hz);refine Z7 ?_;refine .p (cI k (h:=hz)) rfl ?_;refine Z5 ?_;refine .bz 18 1 FM.out (by kernel_rfl) (k:= ?_);refine Jd ?_;refine .n (kM (rest:=[_]) (qw (a:=PW t0 e a k) (at_:=t0+4*(e.At.toNat+k)) (w:=4) (v:=z.toNat+1) (Fi aj k (by omega)) (by omega) (.inr rfl) (by omega)) FB.out (.cons (.t rfl) (.cons (.le (.t rfl) (ag.int (show _=((t0+4*(e.At.toNat+k):Nat):Int) by omega))) (.cons (.c _) (.cons (.le (.t rfl) (ag.int (show _=((z.toNat+1:Nat):Int) by omega))) .nil)))) (Perm.idx [1,2,0] rfl rfl)) rfl fun g58 h58=>?_;refine Z7 ?_;refine .own (aA.perm (Perm.idx [2,0,1] rfl rfl)) (bx.round (k+1) (by omega) (by omega) (by show _=_::gy X ((PW t0 e a k).put (t0+4*(e.At.toNat+k)) (kO (((e.aB[k]?).getD 0).toNat+1) 4));rw[hz];try rfl) ?_);exact(.get rfl (ag.int (by(show(k:Int)+1=((k+1:Nat):Int);omega))) ((.keep 28 rfl rfl)))
 have qO:k=e.aB.length:=by omega
 subst qO;refine ek ?_;refine Post.aO rfl (()) (by trivial) (aA.of_eq (by rw[RL])) (.rt rfl) ?_;exact ag.int (by rw[Sn])
end Go.Proofs.YtmacjbfbpjgmnaaGreatDoor
end
section
namespace Go.Hl
open Go.RowKit
section
variable {P:Program} {hs:List HP} {env:Env} {q:VP} {dst:Option Tmp} {ty T T' E:TypeId} {pos:String} {after:Array Edge} {gd:Option (Nat×Bool)} {x y z:Operand}
theorem Gx{α:Type}{n N by_:Nat}{i:Int}{k:IntKind}{enc:α→List VP}{zs:List Value}(hT:P.underlying T=some (.slice E))(PE:P.underlying T'=some (.int k))(hn:P.cellsOf E=N)(h0:Nat.blt 0 N=true)
    (hz:jd P E=some zs) (hzl:zs.length=N) (hb:P.bytesOf E=by_) (hx:aU env x (af (.slice none 0 0))) (hy:aU env y (aa .i64 i)) (hi:i=(n:Int)) (Bi:0<n) (hroom:(2*n+256)*by_≤281474976710656) (hlen:n≤281474976710656):
    fN P hs env ⟨dst, .call ⟨.builtin .append, #[x,y], #[T,T']⟩,ty,pos,after,gd⟩ (γ:=Nat×Nat) (fun _=>True) (fun g=>aI (some g) N enc ([]:List α)::hs) (fun g=>af (bA (some g) n)):=by
  intro c a w S F ax hown lV K Q hk;have hv:=hx S w a lV;simp only[af] at hv
  have K9:=hy S w a lV;simp only[af] at K9
  subst hi;have hsz:=run_sizeOf hn h0 w;obtain⟨info,hi1,hi2⟩:=ep hn h0 w;have hbytes:info.bytes=by_:=hi2.trans hb;have hw:IntKind.i64.wrap (n:Int)=(n:Int):=eu (cG (by omega) (by omega));have PL:¬((n:Int)<0):=by omega
  have NS:=nextslicecap_le (need:=n) (cap:=0) (by omega);have hcapB:Builtin.nextslicecap n 0*by_≤281474976710656:=Nat.le_trans (Nat.mul_le_mul_right _ NS) hroom;obtain⟨zv',hz1',hz2'⟩:=gI hz w.drew;obtain⟨info',hi1',hi2'⟩:=ep hn h0 w.drew;generalize BV:Question.cut (.appendCap n 0 E) (w.tape w.drawn (.appendCap n 0 E))=newCap;have hge:n≤newCap:=by rw[←BV];simp only[Question.cut];omega
  have hN0:0<N:=by simpa using h0
  have hnN:¬(n*N=0):=Nat.mul_ne_zero (by omega) (by omega)
  let row:Array Value:=Builtin.zeroCells zv'.cells n++Builtin.zeroCells zv'.cells (newCap-n)
  have hr:(execOp a.eval ⟨dst, .call ⟨.builtin .append, #[x,y], #[T,T']⟩,ty,pos,after,gd⟩).run P w= .ok (.value (.slice (some ⟨w.heap.size,0,none⟩) n newCap)) (w.drew.alloc (.cells row E)):=by
    have hnot:¬(n≤0):=by omega
    have hn0:¬(n=0):=by omega
    have Y6:¬(N=0):=by omega
    have Aa:¬((9223372036854775807:Int)<(n:Int)):=by omega
    have BW:¬(281474976710656<Builtin.nextslicecap n 0*by_):=by omega
    have hnb:n*by_≤281474976710656:=Nat.le_trans (Nat.mul_le_mul_right _ (by omega)) hroom;have Ue:¬((281474976710656:Int)<(n:Int)*(by_:Int)):=by rw[←Int.natCast_mul];omega
    have hvx2':(Builtin.firstCells N 0 (.slice none 0 0)).run P w.drew= .ok #[] w.drew:=by simp[Builtin.firstCells]
    simp[execOp,resolve,invoke,builtin,Builtin.append_,hv,K9,run_underlying hT,run_underlying PE,hsz,asInt,asIntOf,hw,PL,hn0,Y6,Aa,hi1,hbytes,BW,Ue,hnN,Question.forced,BV,hi1',hvx2',hz1',newRow,row]
    done
  generalize hw':w.drew.alloc (.cells row E)=w' at hr;unfold Oper.wp;rw[hr];have qP:ir c w.drew S F:=ax.grow (ez.drew w S);have Ey:cT hs F S w.drew:=(ez.drew w S).x3 ax.bD ax.bO hown;subst hw';refine hk (w.heap.size,newCap) _ _ S _ trivial (qP.eL _) (fun _ h=>h) (fun k hk=>bL w _ k (ax.bD k hk)) (Ey.eL ax.bD ax.bO _ ⟨rfl,Nat.zero_le _,by simp,row,E,by show(w.heap.push _)[w.heap.size]?=_;simp,?_,fun j q h=>by simp at h⟩) rfl;simp only[row,Array.size_append];have Pu:∀m,(Builtin.zeroCells zv'.cells m).size=m*N:=fun m=>by rw[hz2'];simp[Builtin.zeroCells,hzl]
  rw[Pu,Pu,←Nat.add_mul,Nat.add_sub_cancel' hge]
theorem DQ{b cap len N:Nat}{i:Int}(hT:P.underlying T=some (.slice E))(hn:P.cellsOf E=N)(h0:Nat.blt 0 N=true)(hx:aU env x (af (bA (some (b,cap)) len)))(hy:aU env y (aa .i64 i))(hi:i=0):
    aT P hs env ⟨dst, .slice T x none (some y) none,ty,pos,after,gd⟩ (af (bA (some (b,cap)) 0)):=
  aT.aD fun ρ w S F _ he=>by
    have hv:=he.o _ _ hx;have h2:=he.o _ _ hy;simp only[af,bA] at hv h2
    subst hi;have hs:=run_sizeOf (T:=E) hn h0 w;refine⟨.slice (some ⟨b,0,none⟩) 0 cap,?_,rfl⟩;simp[execOp,hv,h2,Instr.sliceAt,Instr.slice,Instr.sliceBounds,Instr.sliceBound,asIntOf,run_underlying hT,hs,Addr.add]
def Qf(l:List aq):List VP:=[an 5 aE l]
instance:iy 1 Qf:=⟨fun _=>rfl,fun x q h=>by simp only[Qf,List.mem_cons,List.not_mem_nil,or_false] at h;subst h;infer_instance⟩
theorem Nl{ats:Array TypeId}(ug:ats[0]?=some T)(hT:P.underlying T=some (.slice E))(hx:aU env x (af (.slice none 0 0))):aT P hs env ⟨dst, .call ⟨.builtin .cap, #[x],ats⟩,ty,pos,after,gd⟩ (aa .i64 0):=
 aT.aD fun ρ w S F _ he=>by
  have hv:=he.o _ _ hx;simp only[af] at hv
  exact⟨_,by simp[execOp,resolve,invoke,builtin,Builtin.cap_,ug,hv,run_underlying hT,goInt],rfl⟩
theorem qz{α:Type}{ls:List (List α)}{k:Nat}{l:List α}(h:ls[k]?=some l):(ls.take (k+1)).flatten=(ls.take k).flatten++l:=by
 rw[List.take_add_one,h];simp
theorem zV{α:Type}(ls:List (List α))(k:Nat):(ls.take k).flatten.length≤ls.flatten.length:=by
 have h:(ls.take k).flatten++(ls.drop k).flatten=ls.flatten:=by rw[←List.flatten_append,List.take_append_drop]
 have:=congrArg List.length h;rw[List.length_append] at this;omega
end
section
variable {P:Program} {hs:List HP} {env:Env} {q:VP} {dst:Option Tmp} {ty T T' E:TypeId} {pos:String} {after:Array Edge} {gd:Option (Nat×Bool)} {x y z:Operand}
theorem DR{N:Nat}{i:Int}(hT:P.underlying T=some (.slice E))(hn:P.cellsOf E=N)(h0:Nat.blt 0 N=true)(hx:aU env x (af (.slice none 0 0)))(hy:aU env y (aa .i64 i))(hi:i=0):
    aT P hs env ⟨dst, .slice T x none (some y) none,ty,pos,after,gd⟩ (af (.slice none 0 0)):=
  aT.aD fun ρ w S F _ he=>by
    have hv:=he.o _ _ hx;have h2:=he.o _ _ hy;simp only[af] at hv h2
    subst hi;have hs:=run_sizeOf (T:=E) hn h0 w;refine⟨.slice none 0 0,?_,rfl⟩;simp[execOp,hv,h2,Instr.sliceAt,Instr.slice,Instr.sliceBounds,Instr.sliceBound,asIntOf,run_underlying hT,hs]
end
def xfS(c:Int):Prop:=if c=172∨c=173 then c=172 else if c=192∨c=193 then True else if c=194∨c=195∨c=196 then True else False
instance (c:Int):Decidable (xfS c):=by unfold xfS;infer_instance
end Go.Hl
end
section
namespace Go.Proofs.YtmacjbfbpjgmnaaGreatDoor
open Go.Hl Go.RowKit
theorem Gy{n:Nat}(aj:n≤65536):bk Tryz.prog 190 [af (.slice none 0 0),aa .i64 (n:Int)] [] (γ:=SB) (fun _=>True) (fun g=>[aI g 1 aL ([]:List UInt8)]) (fun g=>af (bA g 0)):=by
 refine In 27 Tryz.func190 fun _ _ _=>?_;refine fW ?_;refine Cd (fun c0=>?_) fun c0=>?_
 ·
  exfalso;omega
 refine Z7 ?_;refine .p (Nl rfl Tryz.underlying95 (.t rfl)) rfl ?_;refine Z1 ?_;refine .p (Hp rfl Tryz.underlying95 (.le (.t rfl) (aN 1 aL))) rfl ?_;refine .p (gj (.t rfl) (.t rfl) (cG (by simp<;>omega) (by simp<;>omega))) rfl ?_;refine .p ((gj (.t rfl) (.t rfl) (cG (by simp<;>omega) (by simp<;>omega))).le (ag.int (show _=(n:Int) by simp))) rfl ?_;refine Z9 ?_;refine Cd (fun c1=>?_) fun c1=>?_
 ·
  refine Z3 ?_;refine .p (Nl rfl Tryz.underlying95 (.t rfl)) rfl ?_;refine .p (DR FU.out FC.out rfl (.t rfl) (.t rfl) rfl) rfl ?_;refine Z1 ?_;refine .n (Gx (α:=UInt8) (N:=1) (enc:=aL) FU.out FU.out FC.out rfl FZ.out rfl FY.out (.t rfl) (.t rfl) rfl (by omega) (by omega) (by omega)) rfl fun MQ _=>?_;refine Z1 ?_;refine .p (Hp rfl Tryz.underlying95 (.le (.t rfl) (aN 1 aL))) rfl ?_;refine .p (DQ FU.out FC.out rfl (.t rfl) (.t rfl) rfl) rfl ?_;refine dH ?_;refine Post.aO rfl (some MQ) (by trivial) (fun _ _ _ h=>h) (.rt rfl) ?_;exact ag.refl _
 have hn0:n=0:=by omega
 refine .iO (α:=UInt8) 1 aL ?_;refine Z9 ?_;refine Post.aO rfl (none) (by trivial) (fun _ _ _ h=>h) (.rt rfl) ?_;exact ag.refl _
theorem Bj{ls:List (List UInt8)}(aj:ls.flatten.length≤65536):cw Tryz.prog 127 [an 1 AQ ls] (an 1 aL (ls.flatten)):=by
 refine In 36 Tryz.func127 fun _ _ _=>?_;refine .fact (t:=0) rfl (fun S w v h=>eA h) fun yZ=>?_;refine Jd ?_;refine .bP (σ:=Nat) (fun _=>[]) (fun k=>[(11,aa .i64 (k:Int)),(3,aa .i64 ((ls.take k).flatten.length:Int))]) (fun k=>k≤ls.length) (fun k=>ls.length-k) 0 (Nat.zero_le _) rfl ?_ ?_
 · exact(.get rfl (ag.refl _) (.get rfl (ag.int (by simp)) (.refl _ _)))
 rintro k hk;refine Z6 ?_;refine Cd (fun c0=>?_) fun c0=>?_
 ·
  obtain⟨l,hx⟩:=ah (xs:=ls) (k:=k) (by omega);have WZ:=zV ls (k+1);have hfl:(ls.take (k+1)).flatten.length=(ls.take k).flatten.length+l.length:=by rw[qz hx,List.length_append]
  refine Z6 ?_;refine .p (cI k (h:=hx)) rfl ?_;refine Jd ?_;refine Cd (fun c1=>?_) fun c1=>?_
  ·
   exfalso;omega
  refine Z7 ?_;refine .round (k+1) (by omega) (by omega) rfl ?_;exact(.get rfl (ag.int (by(show(k:Int)+1=((k+1:Nat):Int);omega))) (.get rfl (ag.int (by omega)) ((.keep 15 rfl rfl))))
 have KP:ls.take k=ls:=List.take_of_length_le (by omega);rw[KP];refine Z8 ?_;refine .n (cE (h:=Gy aj)) rfl fun J1 FW=>?_;refine fW ?_;refine .bP (σ:=SB×Nat) (fun g=>[aI g.1 1 aL (ls.take g.2).flatten]) (fun g=>[(6,af (bA g.1 (ls.take g.2).flatten.length)),(27,aa .i64 (g.2:Int))]) (fun g=>g.2≤ls.length) (fun g=>ls.length-g.2) (J1,0) (Nat.zero_le _) rfl ?_ ?_
 · exact(.get rfl (ag.refl _) (.get rfl (ag.refl _) (.refl _ _)))
 rintro⟨sb,j⟩ hj;simp only at hj ⊢;refine Z6 ?_;refine Cd (fun c2=>?_) fun c2=>?_
 ·
  obtain⟨m,hy⟩:=ah (xs:=ls) (k:=j) (by omega);have hfq:=zV ls (j+1);have q7:(ls.take (j+1)).flatten.length=(ls.take j).flatten.length+m.length:=by rw[qz hy,List.length_append]
  refine Z6 ?_;refine .p (cI j (h:=hy)) rfl ?_;refine Z7 ?_;refine .n (bn (i:=0) (xs:=(ls.take j).flatten) (ys:=m) FU.out FU.out FC.out rfl FZ.out rfl FY.out (.t rfl) (.t rfl) rfl (by omega) (by omega)) rfl fun RZ _=>?_;refine Z8 ?_;refine .round (RZ,j+1) (by show j+1≤_;omega) (by(show ls.length-(j+1)<ls.length-j;omega)) (by simp only[qz hy];rfl) ?_;exact(.get rfl (ag.of_eq (by simp only[qz hy])) (.get rfl (ag.int (by(show(j:Int)+1=((j+1:Nat):Int);omega))) ((.keep 12 rfl rfl))))
 have hjl:ls.take j=ls:=List.take_of_length_le (by omega);rw[hjl];refine .gJ (t:=6) (i:=0) rfl rfl ?_;refine fW ?_;refine aX ?_;exact ag.refl _
theorem dZ{p:Prop}{e:Int}(aj:e≠0):uY Tryz.prog 390 379 [ak p,aa .i64 (e)] [] (¬p) (γ:=Unit) (fun _=>p) (fun _=>[]) (fun _=>aS []):=by
 refine BG 9 Tryz.func379 fun _ _ _=>?_;refine Z6 ?_;refine Cd (fun c0=>?_) fun c0=>?_
 · exact aJ.region (.p (eK (.t rfl)) rfl<| .p (az FP.out FZ.out (.cons (.t rfl) .nil) rfl) rfl<| .p (Lt Tryz.underlying390 (.t rfl)) rfl<| .QJ (.t rfl) aj c0)
 refine Z1 ?_;refine .oZ (Post.bT rfl (()) (by exact Classical.not_not.1 c0) (fun _ _ _ h=>h) rfl)
variable {cb:Nat} {m:aR} {f:bU} {gs:SB} {B:List JB} {bb:Nat} {bc:Nat}
theorem ua{ns:Nat}{b:JB}:bk Tryz.prog 397 [ai cb 0] [H7 cb m f gs ns (some (bb,bc)) (B++[b]).length,aI (some (bb,bc)) 5 jq (B++[b])] (γ:=Unit) (fun _=>True) (fun _=>[H7 cb m f gs ns (some (bb,bc)) (B++[b]).length,aI (some (bb,bc)) 5 jq (B++[b])]) (fun _=>ai bb (B.length*5)):=by
 refine In 14 Tryz.func397 fun _ _ _=>?_;refine .vm 1 rfl fun x5=>?_;simp only[List.length_append,List.length_cons,List.length_nil] at x5;refine Z6 ?_;refine .bz 10 2 FM.out (by kernel_rfl) (k:= ?_);refine Z8 ?_;refine .p (EX rfl Tryz.underlying330 (.t rfl)) ?_;refine .p (gj (.t rfl) (.c _) (cG (by simp<;>omega) (by simp<;>omega))) ?_;refine Z1 ?_;refine .p (ej B.length FU.out FC.out rfl (.t rfl) (.t rfl) (by simp) (by simp)) rfl ?_;refine Z4 ?_;refine aX ?_;exact ag.refl _
theorem fT{nb:Nat}{gb:SB}{st l E6:List UInt8}(aj:st.length≤60000)(aQ:l.length≤60000)(bu:E6=st++l):bk Tryz.prog 375 [ai cb 0,an 1 aL (l)] [H7 cb m f gs st.length gb nb,aI gs 1 aL st] (γ:=SB) (fun _=>True) (fun g=>[H7 cb m f g E6.length gb nb,aI g 1 aL E6]) (fun _=>aS []):=by
 refine In 13 Tryz.func375 fun _ _ _=>?_;subst bu;refine Z7 ?_;refine .n (bn (i:=1) FU.out FU.out FC.out rfl FZ.out rfl FY.out (.t rfl) (.t rfl) rfl (by omega) (by omega)) rfl fun Ix _=>?_;refine Z4 ?_;refine Post.bT rfl (Ix) (by trivial) (fun _ _ _ h=>h) rfl
variable {L0:List UInt8} {k:fm} {s:jW}
theorem ey{w:UInt8}:uY Tryz.prog 390 369 [ai cb 0,aa .u8 ((w:UInt8).toNat:Int)] (wJ cb m f gs bb bc L0 B k s) (jl s w=none) (γ:=jW×UInt8) (fun g=>jl s w=some g) (fun g=>wJ cb m f gs bb bc L0 B k g.1) (fun g=>aa .u8 (g.2.toNat:Int)):=by
 refine BG 67 Tryz.func369 fun _ _ _=>?_;obtain⟨sl,sd⟩:=s;refine Z8 ?_;refine .n ((fU [_] [0,2,1] (h:=ua)).same (fun _ _=>aA.perm (Perm.idx [0,2,1] rfl rfl)) (fun _ _=>ag.refl _)) rfl fun _ _=>?_;refine Z5 ?_;refine .bz 9 1 FM.out (by kernel_rfl) (k:= ?_);refine Z8 ?_;refine .p (kN (i:=2) (r:=3) FA.out (.t rfl) rfl (jZ _ _) rfl) ?_;refine Z4 ?_;refine Cd (fun c0=>?_) fun c0=>?_
 ·
  have NR:sl=[]:=by(simp[j9] at c0;first|exact c0|exact List.eq_nil_of_length_eq_zero (by omega))
  subst NR;refine Z5 ?_;refine .p (kN (i:=2) (r:=4) FA.out (.t rfl) rfl (jZ _ _) rfl) rfl ?_;refine .x (cX (h:=dZ (e:=5) (by decide))) rfl (fun h=>Fq h) fun g23 h23=>?_;refine dH ?_;refine .jj (Post.aO rfl ((([],sd),w)) (by exact Oy (by first|exact h23|assumption)) (fun _ _ _ h=>h) (.rt rfl) ?_);exact ag.refl _
 obtain⟨l,x,rfl⟩:=mw (l:=sl) (fun e=>c0 (by rw[e];simp[j9]));refine .vm 1 rfl fun x5=>?_;simp only[List.length_append,List.length_cons,List.length_nil] at x5;refine .iY 1 rfl (by simp) fun sb sc hg=>?_;subst hg;refine Z3 ?_;refine .bz 10 3 FM.out (by kernel_rfl) (k:= ?_);refine Z9 ?_;refine .p (gj (.t rfl) (.c _) (cG (by simp<;>omega) (by simp<;>omega))) ?_;refine Z1 ?_;refine .p (ej (L0++l).length FU.out FC.out rfl (.t rfl) (.t rfl) (by simp<;>omega) (by simp)) rfl ?_;refine .p (kN (i:=1) (r:=0) FA.out (.t rfl) rfl (show(L0++(l++[x]))[(L0++l).length]?=some x by simp) rfl) rfl ?_;refine Z4 ?_;refine .bz 12 3 FM.out (by kernel_rfl) (k:= ?_);refine dH ?_;refine .p (gj (.t rfl) (.c _) (cG (by simp<;>omega) (by simp<;>omega))) ?_;refine .p (nL (i:=1) (h:=(L0++l).length) FU.out FC.out rfl (.t rfl) (.t rfl) (by simp<;>omega) rfl rfl (by simp)) ?_;refine Z6 ?_;refine .own (aA.cons _ (aA.Lu (L0++l) (by rw[←List.append_assoc];exact vt _ _))) ?_;refine jz ?_;refine .x (cX (h:=dZ (e:=5) (by decide))) rfl (fun h=>CD (fun e=>h (Fs.2 e))) fun Sr NF=>?_;refine Z9 ?_;refine Cd (fun c1=>?_) fun c1=>?_
 ·
  refine Z8 ?_;refine .jj (Post.aO rfl (((l,sd),if x=0 then w else x)) (by exact CC (Fs.1 NF)) (fun _ _ _ h=>h) (.rt rfl) ?_);exact ag.of_eq (by rw[if_pos ((vo x).1 c1)])
 refine Z9 ?_;refine .jj (Post.aO rfl (((l,sd),if x=0 then w else x)) (by exact CC (Fs.1 NF)) (fun _ _ _ h=>h) (.rt rfl) ?_);exact ag.of_eq (by rw[if_neg (fun e=>c1 ((vo x).2 e))])
theorem gR{l:List UInt8}:uY Tryz.prog 390 373 [ai cb 0,an 1 aL (l)] (wJ cb m f gs bb bc L0 B k s) (fe s l=none) (γ:=jW) (fun g=>fe s l=some g) (fun g=>wJ cb m f gs bb bc L0 B k g) (fun _=>aS []):=by
 refine BG 18 Tryz.func373 fun _ _ _=>?_;refine .fact (t:=1) rfl (fun S w v h=>eA h) fun yZ=>?_;refine Z9 ?_;refine .bP (σ:=Nat×jW) (fun g=>wJ cb m f gs bb bc L0 B k g.2) (fun g=>[(4,aa .i64 ((g.1:Int)-1))]) (fun g=>g.1≤l.length∧fe g.2 (l.take g.1)=fe s l) (fun g=>g.1) (l.length,s) ⟨Nat.le_refl _,by simp⟩ rfl ?_ ?_
 · exact(.get rfl (ag.refl _) (.refl _ _))
 rintro⟨j,s1⟩ ⟨hj,hinv⟩;simp only at hj hinv ⊢;refine Z7 ?_;refine Cd (fun c0=>?_) fun c0=>?_
 ·
  obtain⟨t,ht⟩:=ah (xs:=l) (k:=j-1) (by omega);have hjt:fe s1 (l.take j)=(jl s1 t).bind fun p=>fe p.1 (l.take (j-1)):=by(have h9:=Rj (s:=s1) ht;rwa [show j-1+1=j by omega] at h9)
  refine Z8 ?_;refine .p (cI (j-1) (h:=ht)) rfl ?_;refine Z1 ?_;refine .x (cX (h:=ey (s:=s1) (w:=t))) rfl (fun h=>by rw[←hinv,hjt,h];rfl) fun J5 ED=>?_;refine Z8 ?_;refine .round (j-1,J5.1) ⟨by show j-1≤_;omega,by rw[←hinv,hjt,ED];rfl⟩ (by show j-1<j;omega) rfl ?_;exact(.get rfl (ag.int (by show(_:Int)=((j-1:Nat):Int)-1;omega)) ((.keep 12 rfl rfl)))
 have hj0:j=0:=by omega
 subst hj0;refine Z4 ?_;refine .oZ (Post.bT rfl (s1) (by exact(by rw[←hinv];rfl)) (fun _ _ _ h=>h) rfl)
theorem oe:bk Tryz.prog 368 [ai cb 0] (wJ cb m f gs bb bc L0 B k s) (γ:=Unit) (fun _=>True) (fun _=>wJ cb m f gs bb bc L0 B k gA) (fun _=>aS []):=by
 refine In 20 Tryz.func368 fun _ _ _=>?_;refine Z3 ?_;refine .n ((fU [_] [0,2,1] (h:=ua)).same (fun _ _=>aA.perm (Perm.idx [0,2,1] rfl rfl)) (fun _ _=>ag.refl _)) rfl fun _ _=>?_;refine Z3 ?_;refine .bF [(0,0),(1,0),(2,0),(3,0),(4,0),(5,1),(6,0),(7,0),(8,0),(9,1),(10,1),(11,0),(12,0),(13,3)] 14 3 FM.out (by kernel_rfl) (k:= ?_);refine Z9 ?_;refine .o rfl (kN (i:=2) (r:=3) FA.out (.t rfl) rfl (jZ _ _) rfl) ?_;refine .o rfl (nL (i:=1) (h:=(L0++([]:List UInt8)).length) FU.out FC.out rfl (.t rfl) (.t rfl) (by simp[j9]) rfl rfl (by simp)) ?_;refine Z2 ?_;refine .s rfl (je (i:=0) FC.out (.t rfl) (.t rfl) rfl rfl) ?_;refine .fin ?_;refine Z2 ?_;refine .s (oY (i:=2) (r:=4) (j9 L0.length k gA) rfl FC.out (.t rfl) .ct rfl (jZ _ _) rfl rfl) ?_;refine Z1 ?_;rw[Ce,show(B++[j9 L0.length k s]).length=(B++[j9 L0.length k gA]).length by simp];refine .own (aA.cons _ (aA.Lu (L0++([]:List UInt8)) (by simp))) ?_;refine Post.bT rfl (()) (by trivial) (fun _ _ _ h=>h) rfl
theorem kq{ns:Nat}{n:Int}(aj:B.length≤60000)(aQ:0≤n):uY Tryz.prog 390 374 [ai cb 0,aa .u64 (n)] [H7 cb m f gs ns (some (bb,bc)) B.length,aI (some (bb,bc)) 5 jq B] (gM (B.map yb) n=none) (γ:=List UInt8) (fun w=>gM (B.map yb) n=some w) (fun _=>[H7 cb m f gs ns (some (bb,bc)) B.length,aI (some (bb,bc)) 5 jq B]) (fun w=>an 1 aL (w)):=by
 refine BG 34 Tryz.func374 fun _ _ _=>?_;refine fW ?_;refine .p (EX rfl Tryz.underlying330 (.t rfl)) rfl ?_;refine Z2 ?_;refine .x (cX (h:=dZ (e:=2) (by decide))) rfl (fun h=>JC (fun e=>h (by simpa using e))) fun Qe yz=>?_;refine Z3 ?_;have hlt:n<(B.length:Int):=yz;obtain⟨b,hb⟩:=ah (xs:=B) (k:=B.length-1-n.toNat) (by omega);obtain⟨w,hw,hw2⟩:=L2 (L:=B.map yb) aQ (by simpa using hlt);have T3:yb b=w:=by(rw[List.length_map,List.getElem?_map,hb] at hw2;exact Option.some.inj hw2)
 refine .bF [(0,0),(1,0),(2,0),(3,1),(4,0),(5,0),(6,0),(7,1),(8,0),(9,0),(10,0),(11,0),(12,0),(13,0),(14,1),(15,4)] 16 1 FM.out (by kernel_rfl) (k:= ?_);refine Z8 ?_;refine .p rfl (fun _=>EX rfl Tryz.underlying330 (.t rfl)) ?_;refine Z4 ?_;refine .p rfl (fun _=>ej (B.length-1-n.toNat) FU.out FC.out rfl (.t rfl) (.t rfl) (by omega) (by omega)) ?_;refine .o rfl (B8 (i:=1) (r:=0) FA.out FC.out rfl (.t rfl) rfl hb rfl) ?_;refine .a rfl (ay FZ.out) (fun _ _=>aA.drop (aA.refl _)) fun b5 _=>?_;refine .fin ?_;refine Z3 ?_;refine .share (t:=5) (i:=0) rfl rfl ?_;refine Z7 ?_;refine Cd (fun c0=>?_) fun c0=>?_
 ·
  refine Z7 ?_;refine .jj (Post.aO rfl (w) (by exact hw) (fun _ _ _ h=>h) (.rt rfl) ?_);exact(show ag (af (.slice none 0 0)) _ from(show w=[] by rw[←T3];exact if_pos c0)▸aN 1 aL)
 refine dH ?_;refine .jj (Post.aO rfl (w) (by exact hw) (fun _ _ _ h=>h) (.rt rfl) ?_);exact ag.of_eq (by rw[show w=b.res by rw[←T3];exact if_neg c0])
theorem xH{gb:SB}{st:List UInt8}{x:aq}(aj:B.length≤60000)(aQ:0≤x.A):bk Tryz.prog 370 [ai cb 0,aK (aE x)] (L1 cb m f gs gb st B) (γ:=SB) (fun _=>True) (fun g=>L1 cb m f gs g st (B++[j9 st.length ⟨x.Code=3,x.Code=4,iG x,([],False)⟩ ([],False)])) (fun _=>aS []):=by
 refine In 35 Tryz.func370 fun _ _ _=>?_;refine Z6 ?_;refine .bF [(0,0),(1,0),(2,0),(3,0),(4,0),(5,0),(6,0),(7,0),(8,0),(9,1),(10,1),(11,0),(12,4)] 13 1 FM.out (by kernel_rfl) (k:= ?_);refine fW ?_;refine .a rfl (ay FZ.out) (fun _ _=>aA.drop (aA.refl _)) fun b4 _=>?_;refine .fin ?_;refine Z3 ?_;refine .cut (σ:=Unit) (fun _=>[aF b4 [ak (x.Code=3),ak (x.Code=4),an 1 aL (iG x),aa .i64 (st.length:Int),ak False],H7 cb m f gs st.length gb B.length,aI gs 1 aL st,aI gb 5 jq B]) (fun _=>[]) (fun _=>True) ?_ ?_
 ·
  refine Z1 ?_;refine .own (aA.E3 (cs':=[ak (x.Code=3),ak (x.Code=4),an 1 aL [],aa .i64 (st.length:Int),ak False]) (.cons (.refl _) (.cons (.refl _) (.cons (aN 1 aL) (.cons (.refl _) (.cons tQ .nil)))))) ?_;refine Z6 ?_;refine Cd (fun c0=>?_) fun c0=>?_
  ·
   refine Z3 ?_;refine .p ((dM FU.out FU.out (.t rfl)).le (ag.int (OA aQ))) rfl ?_;refine .p (cB aL [UInt8.ofNat x.A.toNat]) rfl ?_;refine Z3 ?_;refine .meet () trivial (by first|(rw[show iG x=[UInt8.ofNat x.A.toNat] from if_neg c0];done)|(rw[show iG x=[UInt8.ofNat x.A.toNat] from if_neg c0];rfl)|(rw[show iG x=[] from if_pos (Classical.not_not.1 c0)];done)|(rw[show iG x=[] from if_pos (Classical.not_not.1 c0)];rfl)) (.keep 8 rfl rfl)
  refine Z1 ?_;refine .meet () trivial (by first|(rw[show iG x=[UInt8.ofNat x.A.toNat] from if_neg c0];done)|(rw[show iG x=[UInt8.ofNat x.A.toNat] from if_neg c0];rfl)|(rw[show iG x=[] from if_pos (Classical.not_not.1 c0)];done)|(rw[show iG x=[] from if_pos (Classical.not_not.1 c0)];rfl)) (.keep 3 rfl rfl)
 intro _ _;refine .bF [(0,0),(1,0),(2,0),(3,0),(4,1),(5,1),(6,0),(7,2)] 8 3 FM.out (by kernel_rfl) (k:= ?_);refine Z6 ?_;refine .p rfl (fun _=>bV (enc:=jq) [j9 st.length ⟨x.Code=3,x.Code=4,iG x,([],False)⟩ ([],False)] FU.out FC.out rfl FZ.out rfl (.cons (.t rfl) .nil) rfl rfl rfl rfl rfl) ?_;refine .e rfl (bn (i:=3) FU.out FU.out FC.out rfl FZ.out rfl FY.out (.t rfl) (.t rfl) rfl (by simp<;>omega) (by simp<;>omega)) fun Ni _=>?_;refine .fin ?_;refine Z4 ?_;refine Post.bT rfl (Ni) (by trivial) (aA.fI [1,2,3] [0] rfl rfl) rfl
theorem uP:uY Tryz.prog 390 398 [ai cb 0] (wJ cb m f gs bb bc L0 B k s) (¬yc k.res s) (γ:=Unit) (fun _=>yc k.res s) (fun _=>L1 cb m f gs (some (bb,bc)) L0 B) (fun _=>aK (jq (j9 L0.length k s))):=by
 refine BG 36 Tryz.func398 fun _ _ _=>?_;refine Z2 ?_;refine .n (ay FZ.out) rfl fun b2 _=>?_;refine Z5 ?_;refine .n ((fU [_,_] [1,3,0,2] (h:=ua)).same (fun _ _=>aA.perm (Perm.idx [2,0,3,1] rfl rfl)) (fun _ _=>ag.refl _)) rfl fun _ _=>?_;refine Z1 ?_;refine .p (B8 (i:=3) (r:=0) FA.out FC.out rfl (.t rfl) rfl (jZ _ _) rfl) rfl ?_;refine .n (ay FZ.out) rfl fun b3 _=>?_;refine Z3 ?_;refine .share (t:=3) (i:=0) rfl rfl ?_;refine Z5 ?_;refine .x (Jb [_] [1,2,3,0] (h:=gR (l:=k.res))) rfl (fun h=>by(rintro⟨z,h1,_⟩;rw[h] at h1;cases h1)) fun Nm h11=>?_;refine Z3 ?_;refine .vm 2 rfl fun x5=>?_;simp only[List.length_append,List.length_cons,List.length_nil] at x5;refine .bz 7 2 FM.out (by kernel_rfl) (k:= ?_);refine Z9 ?_;refine .x (cX (h:=dZ (e:=5) (by decide))) rfl (fun h=>by(rintro⟨z,h1,h2⟩;rw[h11] at h1;cases h1;exact h (by rw[h2];simp[j9]))) fun NG NH=>?_;refine Z3 ?_;have hz:Nm.1=[]:=by(simp[j9] at NH;first|exact NH|exact List.eq_nil_of_length_eq_zero (by omega))
 refine .bz 12 3 FM.out (by kernel_rfl) (k:= ?_);refine dH ?_;refine .p (gj (.t rfl) (.c _) (cG (by simp<;>omega) (by simp<;>omega))) ?_;refine .p (nL (i:=2) (h:=B.length) FU.out FC.out rfl (.t rfl) (.t rfl) (by simp) rfl rfl (by simp)) ?_;refine Z6 ?_;rw[show(L0++Nm.1).length=L0.length by rw[hz];simp];refine .own (aA.cons _ (aA.trans (aA.Lu L0 (vt _ _)) (aA.cons _ (aA.Lu B (vt _ _))))) ?_;refine Z3 ?_;refine .s (gY (i:=3) FC.out rfl (.t rfl) (.t rfl) rfl rfl rfl) ?_;refine Z3 ?_;refine .jj (Post.aO rfl (()) (by exact⟨Nm,h11,hz⟩) (aA.fI [0,1,2] [3] rfl rfl) (.ra (i:=3) FA.out FC.out rfl rfl rfl rfl) ?_);exact ag.refl _
theorem DS(aj:B.length≤60000):uY Tryz.prog 390 371 [ai cb 0] (wJ cb m f gs bb bc L0 B k s) (¬yc k.res s) (γ:=SB) (fun _=>yc k.res s) (fun g=>L1 cb m f gs g L0 (B++[j9 L0.length ⟨k.loop,False,k.res,([],False)⟩ ([],False)])) (fun _=>aS []):=by
 refine BG 17 Tryz.func371 fun _ _ _=>?_;refine Z3 ?_;refine .x (cX (h:=uP (s:=s))) rfl (fun h=>h) fun g4 h4=>?_;refine .n (ay FZ.out) rfl fun b2 _=>?_;refine ek ?_;refine .bF [(0,0),(1,0),(2,0),(3,0),(4,1),(5,1),(6,0),(7,2)] 8 3 FM.out (by kernel_rfl) (k:= ?_);refine Z6 ?_;refine .p rfl (fun _=>bV (enc:=jq) [j9 L0.length ⟨k.loop,False,k.res,([],False)⟩ ([],False)] FU.out FC.out rfl FZ.out rfl (.cons (.t rfl) .nil) rfl rfl rfl rfl rfl) ?_;refine .e rfl (bn (i:=3) FU.out FU.out FC.out rfl FZ.out rfl FY.out (.t rfl) (.t rfl) rfl (by simp<;>omega) (by simp<;>omega)) fun Qe _=>?_;refine .fin ?_;refine Z4 ?_;refine .oZ (Post.bT rfl (Qe) (by exact h4) (aA.fI [1,2,3] [0] rfl rfl) rfl)
theorem Km(aj:L0.length≤60000)(aQ:k.res.length≤60000):uY Tryz.prog 390 372 [ai cb 0] (wJ cb m f gs bb bc L0 B k s) (¬(yc k.res s∧(k.is→k.res=[]))) (γ:=SB) (fun _=>yc k.res s∧(k.is→k.res=[])) (fun g=>L1 cb m f g (some (bb,bc)) (L0++k.res) B) (fun _=>aS []):=by
 refine BG 19 Tryz.func372 fun _ _ _=>?_;refine Z3 ?_;refine .x (cX (h:=uP (s:=s))) rfl (fun h h2=>h h2.1) fun g4 h4=>?_;refine .n (ay FZ.out) rfl fun b2 _=>?_;refine Z3 ?_;refine .share (t:=2) (i:=0) rfl rfl ?_;refine ek ?_;refine .x (cX (h:=dZ (e:=5) (by decide))) rfl (fun h h2=>h (by by_cases hk:k.is;exact .inr (show(k.res.length:Int)=0 by rw[h2.2 hk];rfl);exact .inl hk)) fun Qe yz=>?_;refine Z6 ?_;refine .n (cE (h:=fT (st:=L0) (l:=k.res) (by omega) aQ rfl)) rfl fun yt RJ=>?_;refine Z1 ?_;refine .oZ (Post.bT rfl (yt) (by exact⟨h4,fun hk=>by(rcases yz with h|h;exact absurd hk h;exact List.eq_nil_of_length_eq_zero (by have h9:(k.res.length:Int)=0:=h;omega))⟩) (fun _ _ _ h=>h) rfl)
end Go.Proofs.YtmacjbfbpjgmnaaGreatDoor
end
