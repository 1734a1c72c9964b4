/-
  What the statement's proof leans on, several texts in one (packed by a program).
-/
import Derived.Test.YtpfobikpggmleaaGreatDoorSBT
set_option linter.all false
set_option maxRecDepth 1000000
set_option maxHeartbeats 4000000
section
namespace Go.Hl
theorem pX{α:Type}{x:α}{r s:List α}(h:(x::r)<:+s):r<:+s:=(List.suffix_cons x r).trans h
theorem jY{α:Type}{r s:List α}(h:r<:+s):r.length≤s.length:=h.length_le
theorem vU:∀(f:Nat) (s:List Int) (d:Nat) (r:List Int),dY f s d=some r→r<:+s:=by
 intro f
 induction f with
 |zero=>intro s d r h;simp[dY] at h
 | succ f ih =>
  intro s d r h;cases s with
  |nil=>simp[dY] at h;subst h;exact List.suffix_refl _
  | cons c s =>
   simp only[dY] at h
   split at h
   · cases h;exact List.suffix_refl _
   split at h
   · split at h
     · cases h
     · split at h
       · cases h
       · cases h
       · rename_i c2 r2 h1
         have e1:=ih _ _ _ h1
         split at h
         · split at h
           · split at h
             · cases h
             · cases h
             · rename_i c3 r3 h2
               have e2:=ih _ _ _ h2
               split at h
               · cases h
               · exact((ih _ _ _ h).trans (pX (e2.trans (pX e1)))).trans (List.suffix_cons _ _)
           · cases h
         · exact((ih _ _ _ h).trans (pX e1)).trans (List.suffix_cons _ _)
   · exact(ih _ _ _ h).trans (List.suffix_cons _ _)
theorem nt:∀(f g:Nat) (s:List Int) (d:Nat),s.length<f→s.length<g→dY f s d=dY g s d:=by
 intro f
 induction f with
 |zero=>intro g s d h;omega
 | succ f ih =>
  intro g s d h hg;cases g with
  |zero=>omega
  | succ g =>
   cases s with
   |nil=>rfl
   | cons c s =>
    simp only[List.length_cons] at h hg;have i1:dY f s (d+1)=dY g s (d+1):=ih g s _ (by omega) (by omega);have i2:dY f s d=dY g s d:=ih g s _ (by omega) (by omega);simp only[dY,i1,i2]
    split
    · rfl
    split
    · split
      · rfl
      · split
        · rfl
        · rfl
        · rename_i c2 r2 h1
          have l1:=jY (vU _ _ _ _ h1);simp only[List.length_cons] at l1;have i3:dY f r2 (d+1)=dY g r2 (d+1):=ih g r2 _ (by omega) (by omega);have i4:dY f r2 d=dY g r2 d:=ih g r2 _ (by omega) (by omega);rw[i3,i4]
          split
          · split
            · split
              · rfl
              · rfl
              · rename_i c3 r3 h2
                have l2:=jY (vU _ _ _ _ h2);simp only[List.length_cons] at l2
                split
                · rfl
                · exact ih g r3 _ (by omega) (by omega)
            · rfl
          · rfl
    · rfl
section
variable {ι:Type} (cd:ι→Int) (rr:ι→List UInt8) (pl:ι→dD→List (List UInt8)→Option dD)
theorem lz:∀(f:Nat) (s:List ι) (labs:List (List UInt8)) (res:List UInt8) (st:dD) (base:Nat) (hs:List Nat) (rest:List ι),jS cd rr pl f s labs res st base=some (hs,rest)→rest<:+s:=by
 intro f
 induction f with
 |zero=>intro s _ _ _ _ _ _ h;simp[jS] at h
 | succ f ih=>
  intro s labs res st base hs rest h;cases s with
  |nil=>simp[jS] at h;rw[←h.2];exact List.suffix_refl _
  | cons x s=>
   simp only[jS] at h
   split at h
   · split at h
     · cases h;exact List.suffix_refl _
     · cases h
   split at h
   · obtain⟨s1,_,h⟩:=Option.bind_eq_some_iff.1 h
     obtain⟨⟨hs1,l1⟩,zk,h⟩:=Option.bind_eq_some_iff.1 h;have e1:=ih _ _ _ _ _ _ _ zk;cases l1 with
     |nil=>cases h
     |cons x2 r2=>
      simp only at h
      split at h
      · obtain⟨⟨hs2,l2⟩,Qb,h⟩:=Option.bind_eq_some_iff.1 h
        have e2:=ih _ _ _ _ _ _ _ Qb;cases l2 with
        |nil=>cases h
        |cons x3 r3=>
         simp only at h;obtain⟨⟨TP,l3⟩,Qp,h⟩:=Option.map_eq_some_iff.1 h;cases h;exact((ih _ _ _ _ _ _ _ Qp).trans (pX (e2.trans (pX e1)))).trans (List.suffix_cons _ _)
      split at h
      · cases h
      · obtain⟨⟨TP,l3⟩,Qp,h⟩:=Option.map_eq_some_iff.1 h
        cases h;exact((ih _ _ _ _ _ _ _ Qp).trans (pX e1)).trans (List.suffix_cons _ _)
   · obtain⟨s1,_,h⟩:=Option.bind_eq_some_iff.1 h
     obtain⟨⟨hs1,l1⟩,zk,h⟩:=Option.map_eq_some_iff.1 h;cases h;exact(ih _ _ _ _ _ _ _ zk).trans (List.suffix_cons _ _)
theorem xq:∀(f g:Nat) (s:List ι) (labs:List (List UInt8)) (res:List UInt8) (st:dD) (base:Nat),s.length<f→s.length<g→jS cd rr pl f s labs res st base=jS cd rr pl g s labs res st base:=by
 intro f
 induction f with
 |zero=>intro g s _ _ _ _ h;omega
 | succ f ih=>
  intro g s labs res st base h hg;cases g with
  |zero=>omega
  | succ g=>
   cases s with
   |nil=>rfl
   | cons x s=>
    simp only[List.length_cons] at h hg;simp only[jS]
    split
    · rfl
    split
    · refine Option.bind_congr fun s1 _=>?_
      rw[ih g s _ _ _ _ (by omega) (by omega)];refine Option.bind_congr fun p hp=>?_;obtain⟨hs1,l1⟩:=p;have e1:=jY (lz cd rr pl _ _ _ _ _ _ _ _ hp);cases l1 with
      |nil=>rfl
      |cons x2 r2=>
       simp only[List.length_cons] at e1;simp only
       split
       · rw[ih g r2 _ _ _ _ (by omega) (by omega)]
         refine Option.bind_congr fun p hp=>?_;obtain⟨hs2,l2⟩:=p;have e2:=jY (lz cd rr pl _ _ _ _ _ _ _ _ hp);cases l2 with
         |nil=>rfl
         |cons x3 r3=>
          simp only[List.length_cons] at e2;simp only;rw[ih g r3 _ _ _ _ (by omega) (by omega)]
       split
       · rfl
       · rw[ih g r2 _ _ _ _ (by omega) (by omega)]
    · refine Option.bind_congr fun s1 _=>?_
      rw[ih g s _ _ _ _ (by omega) (by omega)]
noncomputable def G6(s:List ι)(labs:List (List UInt8))(res:List UInt8)(st:dD)(base:Nat):Option (List Nat×List ι):=jS cd rr pl (s.length+1) s labs res st base
def oo(s:List ι)(d:Nat):Prop:=∃iU,dY (s.length+1) (s.map cd) d=some iU∧iU≠[]
variable {cd rr pl} {x:ι} {r:List ι} {labs:List (List UInt8)} {res:List UInt8} {st:dD} {base d:Nat}
theorem SS(h:cd x=11∨cd x=5)(hc:∃s',cU st res=some s'∧s'.1=[]):G6 cd rr pl (x::r) labs res st base=some ([base+st.1.length],x::r):=by
 simp only[G6,jS,h,hc,if_true]
theorem J5(h:cd x=11∨cd x=5)(hc:¬∃s',cU st res=some s'∧s'.1=[]):G6 cd rr pl (x::r) labs res st base=none:=by
 simp only[G6,jS,h,if_true];rw[if_neg hc]
theorem Nq(h1:¬(cd x=11∨cd x=5))(h2:¬aQ (cd x)):G6 cd rr pl (x::r) labs res st base=(pl x st labs).bind fun s1=>(G6 cd rr pl r labs res s1 base).map fun p=>((base+st.1.length)::p.1,p.2):=by
 simp only[G6,jS,h1,h2,if_false,List.length_cons]
theorem Qq(h1:¬(cd x=11∨cd x=5))(h2:aQ (cd x)):G6 cd rr pl (x::r) labs res st base=
    (if cd x=4 then cU st [127] else some st).bind fun s1=>
      (G6 cd rr pl r (labs++[if cd x=3 then[] else rr x]) (rr x) ([],False) (base+s1.1.length)).bind fun p=>
      match p.2 with
      |[]=>none
      | x2::r2=>
        if cd x2=5 then
          (G6 cd rr pl r2 (labs++[if cd x=3 then[] else rr x]) (rr x) ([],False) (base+s1.1.length)).bind fun p2=>
          match p2.2 with
          |[]=>none
          |_::r3=>(G6 cd rr pl r3 labs res (bG s1 (rr x)) base).map fun p3=>((base+st.1.length)::p.1++p2.1++p3.1,p3.2)
        else if cd x=4∧rr x≠[] then none
        else(G6 cd rr pl r2 labs res (bG s1 (rr x)) base).map fun p3=>((base+st.1.length)::p.1++p3.1,p3.2):=by
  simp only[G6,jS,h1,h2,if_false,if_true,List.length_cons];refine Option.bind_congr fun s1 _=>Option.bind_congr fun p hp=>?_;obtain⟨hs1,l1⟩:=p;have e1:=jY (lz cd rr pl _ _ _ _ _ _ _ _ hp);cases l1 with
  |nil=>rfl
  | cons x2 r2=>
    simp only[List.length_cons] at e1;simp only
    split
    · rw[xq cd rr pl (r.length+1) (r2.length+1) r2 _ _ _ _ (by omega) (by omega)]
      refine Option.bind_congr fun p hp=>?_;obtain⟨hs2,l2⟩:=p;have e2:=jY (lz cd rr pl _ _ _ _ _ _ _ _ hp);cases l2 with
      |nil=>rfl
      | cons x3 r3=>
        simp only[List.length_cons] at e2;simp only;rw[xq cd rr pl (r.length+1) (r3.length+1) r3 _ _ _ _ (by omega) (by omega)]
    split
    · rfl
    · rw[xq cd rr pl (r.length+1) (r2.length+1) r2 _ _ _ _ (by omega) (by omega)]
theorem xu:∀(f:Nat) (s:List ι) (d:Nat) (labs:List (List UInt8)) (res:List UInt8) (st:dD) (base:Nat) (hs:List Nat) (rest:List ι) (iU:List Int),s.length<f→dY f (s.map cd) d=some iU→jS cd rr pl f s labs res st base=some (hs,rest)→rest.map cd=iU:=by
 intro f
 induction f with
 |zero=>intro s d _ _ _ _ _ _ _ h;omega
 | succ f ih =>
  intro s d labs res st base hs rest iU h hr hb;cases s with
  |nil=>simp only[jS,Option.some.injEq,Prod.mk.injEq] at hb;simp[dY] at hr;rw[hr,←hb.2];rfl
  | cons x r =>
   simp only[List.length_cons] at h;simp only[List.map_cons,dY] at hr;simp only[jS] at hb;by_cases h1:cd x=11∨cd x=5
   · simp only[h1,if_true,Option.some.injEq] at hr hb
     split at hb
     · cases hb;rw[←hr];rfl
     · cases hb
   by_cases h2:aQ (cd x)
   · simp only [h1,if_false,h2,if_true] at hr hb
     by_cases h3:64≤d
     · simp[h3] at hr
     simp only[h3,if_false] at hr;obtain⟨s1,_,hb⟩:=Option.bind_eq_some_iff.1 hb;obtain⟨⟨hs1,l1⟩,zk,hb⟩:=Option.bind_eq_some_iff.1 hb;cases Em:dY f (r.map cd) (d+1) with
     |none=>simp[Em] at hr
     | some F4=>
      simp only[Em] at hr;have e1:=ih r (d+1) _ _ _ _ _ _ _ (by omega) Em zk;have l1s:=jY (lz cd rr pl _ _ _ _ _ _ _ _ zk);subst e1;cases l1 with
      |nil=>cases hb
      | cons x2 r2=>
       simp only[List.length_cons] at l1s;simp only[List.map_cons] at hr;simp only at hb;by_cases h5:cd x2=5
       · simp only[h5,if_true] at hr hb
         by_cases h4:cd x=4
         · simp only[h4,if_true] at hr
           obtain⟨⟨hs2,l2⟩,Qb,hb⟩:=Option.bind_eq_some_iff.1 hb;cases Dw:dY f (r2.map cd) (d+1) with
           |none=>simp[Dw] at hr
           | some xX=>
            simp only[Dw] at hr;have e2:=ih r2 (d+1) _ _ _ _ _ _ _ (by omega) Dw Qb;have l2s:=jY (lz cd rr pl _ _ _ _ _ _ _ _ Qb);subst e2;cases l2 with
            |nil=>cases hb
            |cons x3 r3=>
             simp only[List.length_cons] at l2s;simp only[List.map_cons] at hr;simp only at hb
             split at hr
             · cases hr
             · obtain⟨⟨TP,l3⟩,Qp,hb⟩:=Option.map_eq_some_iff.1 hb
               cases hb;exact ih r3 d _ _ _ _ _ _ _ (by omega) hr Qp
         · simp[h4] at hr
       · simp only[h5,if_false] at hr hb
         split at hb
         · cases hb
         · obtain⟨⟨TP,l3⟩,Qp,hb⟩:=Option.map_eq_some_iff.1 hb
           cases hb;exact ih r2 d _ _ _ _ _ _ _ (by omega) hr Qp
   · simp only[h1,if_false,h2] at hr hb
     obtain⟨s1,_,hb⟩:=Option.bind_eq_some_iff.1 hb;obtain⟨⟨hs1,l1⟩,zk,hb⟩:=Option.map_eq_some_iff.1 hb;cases hb;exact ih r d _ _ _ _ _ _ _ (by omega) hr zk
theorem J6(h:oo cd (x::r) d)(h1:¬(cd x=11∨cd x=5))(h2:¬aQ (cd x)):oo cd r d:=by
 obtain⟨iU,h3,h4⟩:=h;simp only[List.length_cons,List.map_cons,dY,h1,h2,if_false] at h3;exact⟨iU,h3,h4⟩
theorem SU(h:oo cd (x::r) d)(h2:aQ (cd x)):oo cd r (d+1)∧¬64≤d:=by
 obtain⟨iU,h3,h4⟩:=h;have h1:¬(cd x=11∨cd x=5):=by unfold aQ at h2;omega
 simp only[List.length_cons,List.map_cons,dY,h1,h2,if_false,if_true] at h3
 split at h3
 · cases h3
 · rename_i h5
   split at h3
   · cases h3
   · cases h3
   · rename_i c2 r2 h6
     exact⟨⟨_,h6,by simp⟩,h5⟩
theorem SV{labs':List (List UInt8)}{hs:List Nat}{l:List ι}(h:oo cd r d)(hb:G6 cd rr pl r labs res st base=some (hs,l)):∃x2 r2,l=x2::r2∧(x2::r2)<:+r:=by
 obtain⟨iU,h3,h4⟩:=h;have e:=xu _ _ _ _ _ _ _ _ _ _ (by omega) h3 hb;have e2:=lz cd rr pl _ _ _ _ _ _ _ _ hb;cases l with
 |nil=>exact absurd e.symm h4
 |cons x2 r2=>exact⟨x2,r2,rfl,e2⟩
theorem uI{hs1:List Nat}{x2:ι}{r2:List ι}(h:oo cd (x::r) d)(h2:aQ (cd x))(hb:G6 cd rr pl r labs res st base=some (hs1,x2::r2)):
    (cd x2=11∧oo cd r2 d)∨(cd x2=5∧cd x=4∧oo cd r2 (d+1)∧∀labs' res' st' base' hs2 l2,G6 cd rr pl r2 labs' res' st' base'=some (hs2,l2)→∃x3 r3,l2=x3::r3∧cd x3=11∧(x3::r3)<:+r2∧oo cd r3 d):=by
  obtain⟨iU,h3,h4⟩:=h;have h1:¬(cd x=11∨cd x=5):=by unfold aQ at h2;omega
  simp only[List.length_cons,List.map_cons,dY,h1,h2,if_false,if_true] at h3
  split at h3
  · cases h3
  · rename_i h5
    have hd:d+1≤64:=by omega
    cases Em:dY (r.length+1) (r.map cd) (d+1) with
    |none=>simp[Em] at h3
    | some F4=>
      simp only[Em] at h3;have e:=xu _ _ _ _ _ _ _ _ _ _ (by omega) Em hb;have e2:=jY (lz cd rr pl _ _ _ _ _ _ _ _ hb);have k1:=((nq (r.length+1) (r.map cd) (d+1) (by simp) hd).2 _ Em).2.1;subst e;simp only[List.length_cons] at e2;simp only[List.map_cons] at h3 k1;rcases k1 _ _ rfl with e5|e5
      · refine .inl ⟨e5,?_⟩
        simp only[e5,show ¬((11:Int)=5) by decide,if_false] at h3;exact⟨iU,by rw[←h3];exact nt _ _ _ _ (by simp) (by simp;omega),h4⟩
      · simp only[e5,if_true] at h3
        split at h3
        · rename_i e4
          refine .inr ⟨e5,e4,?_⟩;cases Dw:dY (r.length+1) (r2.map cd) (d+1) with
          |none=>simp[Dw] at h3
          | some xX=>
            simp only[Dw] at h3;have hr2':dY (r2.length+1) (r2.map cd) (d+1)=some xX:=by rw[←Dw];exact nt _ _ _ _ (by simp) (by simp;omega)
            have hne:xX≠[]:=by intro e;subst e;cases h3
            refine⟨⟨xX,hr2',hne⟩,fun labs' res' st' base' hs2 l2 Qb=>?_⟩;have e7:=xu _ _ _ _ _ _ _ _ _ _ (by omega) hr2' Qb;have e8:=lz cd rr pl _ _ _ _ _ _ _ _ Qb;have k2:=((nq (r2.length+1) (r2.map cd) (d+1) (by simp) hd).2 _ hr2').2.1;subst e7;cases l2 with
            |nil=>exact absurd rfl hne
            | cons x3 r3=>
              have e9:=jY e8;simp only[List.length_cons] at e9;simp only[List.map_cons] at h3 k2
              split at h3
              · cases h3
              · rename_i hn5
                refine⟨x3,r3,rfl,(k2 _ _ rfl).resolve_right hn5,e8,⟨iU,?_,h4⟩⟩;rw[←h3];exact nt _ _ _ _ (by simp) (by simp;omega)
        · cases h3
end
end Go.Hl
end
section
namespace Go.Hl
open Go.RowKit
def cu(l:List ay):List Int:=l.map (·.Code)
def rc(s:List Int)(d:Nat):Option (List Int):=dY (s.length+1) s d
theorem Vp{c:Int}{r:List Int}{d:Nat}(h:c=11∨c=5):rc (c::r) d=some (c::r):=by simp only[rc,List.length_cons,dY,h,if_true]
theorem Qr{c:Int}{r:List Int}{d:Nat}(h:¬(c=11∨c=5))(h2:¬aQ c):rc (c::r) d=rc r d:=by simp only[rc,List.length_cons,dY,h,h2,if_false]
theorem SX{c:Int}{r:List Int}{d:Nat}(h2:aQ c)(h3:64≤d):rc (c::r) d=none:=by
 have h:¬(c=11∨c=5):=by unfold aQ at h2;omega
 simp only[rc,List.length_cons,dY,h,h2,h3,if_false,if_true]
theorem vV{c:Int}{r:List Int}{d:Nat}(h2:aQ c)(h3:¬64≤d):rc (c::r) d=match rc r (d+1) with
    |none=>none
    |some []=>none
    |some (c2::r2)=>if c2=5 then(if c=4 then(match rc r2 (d+1) with|none=>none|some []=>none|some (c3::r3)=>if c3=5 then none else rc r3 d) else none) else rc r2 d:=by
  have h:¬(c=11∨c=5):=by unfold aQ at h2;omega
  simp only[rc,List.length_cons,dY,h,h2,h3,if_false,if_true];cases hr:dY (r.length+1) r (d+1) with
  |none=>rfl
  | some s =>
    cases s with
    |nil=>rfl
    | cons c2 r2=>
      have e1:=jY (vU _ _ _ _ hr);simp only[List.length_cons] at e1;simp only;rw[nt (r.length+1) (r2.length+1) r2 (d+1) (by omega) (by omega),nt (r.length+1) (r2.length+1) r2 d (by omega) (by omega)]
      split
      · split
        · cases Dw:dY (r2.length+1) r2 (d+1) with
          |none=>rfl
          | some s2=>
            cases s2 with
            |nil=>rfl
            | cons c3 r3=>
              have e2:=jY (vU _ _ _ _ Dw);simp only[List.length_cons] at e2;simp only;rw[nt (r.length+1) (r3.length+1) r3 d (by omega) (by omega)]
        · rfl
      · rfl
theorem SY{s r:List Int}{c:Int}{d:Nat}(hd:d≤64)(h:rc s d=some (c::r)):c=11∨c=5:=((nq (s.length+1) s d (by omega) hd).2 _ h).2.1 c r rfl
theorem Cs(l:List ay):(cu l).length=l.length:=by simp[cu]
theorem fJ{l:List ay}{i:Nat}{x:ay}(h:l[i]?=some x):(cu l).drop i=x.Code::(cu l).drop (i+1):=by
 refine yR ?_;rw[cu,List.getElem?_map,h];rfl
theorem nu{l:List ay}{i:Nat}(h:l.length≤i):(cu l).drop i=[]:=List.drop_eq_nil_of_le (by rw[Cs];exact h)
def Ya(l:List ay)(a d:Nat)(en:Int)(sp:List rD)(e:Int):Prop:=
 (e=0∧∃n:Nat,en=(n:Int)∧rc ((cu l).drop a) d=some ((cu l).drop n)∧a≤n∧n≤l.length∧sp.length+a≤n)∨(e≠0∧rc ((cu l).drop a) d=none∧sp=[])
theorem yT{l:List ay}{a d:Nat}{en:Int}{sp:List rD}{e:Int}(h:Ya l a d en sp e):sp.length≤l.length:=by
 rcases h with⟨_,n,_,_,_,h5,h6⟩|⟨_,_,h⟩
 · omega
 · rw[h];simp
def rcM(l:List ay)(i d:Nat)(en:Int)(sp:List rD)(e:Int):Prop:=
 (e≠0∧rc ((cu l).drop i) d=none∧sp.length≤20000)∨(e=0∧en=(l.length:Int)∧rc ((cu l).drop i) d=none∧sp.length≤20000)∨
 (e=0∧∃n:Nat,en=(n:Int)∧n<l.length∧rc ((cu l).drop i) d=rc ((cu l).drop (n+1)) d∧i+1≤n∧sp.length+i+1≤n)
theorem aB.none{α:Type}{n:Nat}{enc:α→List VP}{r:List HP}:aB r (av none n enc ([]:List α)::r):=fun F S w h=>⟨fun _=>False,F,fun _ h=>h.elim,fun _ h=>h,rfl,h⟩
section
variable {l:List ay} {i d:Nat} {x:ay}
theorem J7(hx:l[i]?=some x)(ho:aQ x.Code)(hd:¬64≤d){n:Nat}{y:ay}(hr:rc ((cu l).drop (i+1)) (d+1)=some ((cu l).drop n))(hy:l[n]?=some y)(h5:y.Code=5)(h4:x.Code≠4):rc ((cu l).drop i) d=none:=by
 rw[fJ hx,vV ho hd,hr,fJ hy];simp only[h5,if_true,h4,if_false]
theorem Vq{n:Nat}{y:ay}(hx:l[i]?=some x)(ho:aQ x.Code)(hd:¬64≤d)(hr:rc ((cu l).drop (i+1)) (d+1)=some ((cu l).drop n))(hy:l[n]?=some y)(h5:y.Code=5)(h4:x.Code=4):
    rc ((cu l).drop i) d=match rc ((cu l).drop (n+1)) (d+1) with|none=>none|some []=>none|some (c3::r3)=>if c3=5 then none else rc r3 d:=by
  rw[fJ hx,vV ho hd,hr,fJ hy];simp only[h5,if_true,h4]
theorem Vr{n:Nat}{y:ay}(hx:l[i]?=some x)(ho:aQ x.Code)(hd:¬64≤d)(hr:rc ((cu l).drop (i+1)) (d+1)=some ((cu l).drop n))(hy:l[n]?=some y)(h5:y.Code≠5):
    rc ((cu l).drop i) d=rc ((cu l).drop (n+1)) d:=by
  rw[fJ hx,vV ho hd,hr,fJ hy];simp only[h5,if_false]
theorem SZ(hx:l[i]?=some x)(ho:aQ x.Code)(hd:¬64≤d)(hr:rc ((cu l).drop (i+1)) (d+1)=none):rc ((cu l).drop i) d=none:=by
 rw[fJ hx,vV ho hd,hr]
theorem Qs(hx:l[i]?=some x)(ho:aQ x.Code)(hd:¬64≤d){n:Nat}(hn:l.length≤n)(hr:rc ((cu l).drop (i+1)) (d+1)=some ((cu l).drop n)):rc ((cu l).drop i) d=none:=by
 rw[fJ hx,vV ho hd,hr,nu hn]
theorem S1(hx:l[i]?=some x)(ho:aQ x.Code)(hd:¬64≤d){en e:Int}{sp:List rD}(h:Ya l (i+1) (d+1) en sp e)(KP:l.length≤10000)(hn:¬((e=0∧en<(l.length:Int))∧(gI l en.toNat).Code=5)):rcM l i d en sp e:=by
 rcases h with⟨h1,n,h2,h3,h4,h5,h6⟩|⟨h1,h2,h3⟩
 · by_cases hlt:n<l.length
   · refine .inr (.inr ⟨h1,n,h2,hlt,?_,h4,by omega⟩)
     have hy:l[n]?=some (gI l n):=vQ hlt;exact Vr hx ho hd h3 hy (fun h9=>hn ⟨⟨h1,by omega⟩,by rw[h2];simpa using h9⟩)
   · exact .inr (.inl ⟨h1,by omega,Qs hx ho hd (by omega) h3,by omega⟩)
 · exact .inl ⟨h1,SZ hx ho hd h2,by rw[h3];simp⟩
theorem Le(hx:l[i]?=some x)(ho:aQ x.Code)(hd:¬64≤d)(bC3:d≤64){en e Vs e2:Int}{sp sp2:List rD}(h:Ya l (i+1) (d+1) en sp e)(KP:l.length≤10000)(hn:(e=0∧en<(l.length:Int))∧(gI l en.toNat).Code=5)(h4:x.Code=4)(h':Ya l (en.toNat+1) (d+1) Vs sp2 e2):
    (((e2=0∧Vs<(l.length:Int))∧(gI l Vs.toNat).Code=5)→rc ((cu l).drop i) d=none)∧(¬((e2=0∧Vs<(l.length:Int))∧(gI l Vs.toNat).Code=5)→rcM l i d Vs (sp++sp2) e2):=by
  rcases h with⟨_,n,h2,h3,h4',h5,h6⟩|⟨h1,h2,h3⟩
  · obtain⟨⟨h1,h1'⟩,We⟩:=hn
    have hlt:n<l.length:=by omega
    have hen:en.toNat=n:=by omega
    rw[hen] at We h';have hy:l[n]?=some (gI l n):=vQ hlt;have hk:=Vq hx ho hd h3 hy We h4;rw[hk];rcases h' with⟨k1,n2,k2,k3,k4,k5,k6⟩|⟨k1,k2,k3⟩
    · by_cases Yb:n2<l.length
      · have hy2:l[n2]?=some (gI l n2):=vQ Yb
        have hn2:Vs.toNat=n2:=by omega
        rw[k3,fJ hy2];simp only;refine⟨fun h9=>?_,fun h9=>?_⟩
        · rw[if_pos (by rw[hn2] at h9;exact h9.2)]
        · refine .inr (.inr ⟨k1,n2,k2,Yb,?_,by omega,by rw[List.length_append];omega⟩)
          rw[hk,k3,fJ hy2];simp only;rw[if_neg (fun h8=>h9 ⟨⟨k1,by omega⟩,by rw[hn2];exact h8⟩)]
      · have he:=nu (l:=l) (i:=n2) (by omega)
        rw[k3,he];refine⟨fun _=>rfl,fun _=> .inr (.inl ⟨k1,by omega,by rw[hk,k3,he],by rw[List.length_append];omega⟩)⟩
    · rw[k2]
      exact⟨fun _=>rfl,fun _=> .inl ⟨k1,by rw[hk,k2],by rw[List.length_append,k3];simp;omega⟩⟩
  · exact absurd hn.1.1 h1
end
theorem yU(l:List ay):fB (cu l) []↔rc (cu l) 0=some [11]:=w5 (by omega)
end Go.Hl
namespace Go.Hl
theorem yW(v:Int):v.tmod 128=if 0≤v then v%128 else-((-v)%128):=by
 split
 · rename_i h;exact Int.tmod_eq_emod_of_nonneg h
 · rename_i h
   have h1:v.tmod 128= -((-v).tmod 128):=by rw[Int.neg_tmod];omega
   rw[h1,Int.tmod_eq_emod_of_nonneg (by omega)]
theorem S2{v:Int}(h1: -9223372036854775680≤v)(h2:v≤9223372036854775807):IntKind.i64.wrap ((IntKind.i64.wrap (v-v%128)).tdiv 128)=v/128:=by
 have hw:IntKind.i64.wrap (v-v%128)=128*(v/128):=by rw[eM (cn (by omega) (by omega))];omega
 rw[hw,Int.mul_tdiv_cancel_left _ (by decide)];exact eM (cn (by omega) (by omega))
theorem Nr{v:Int}(h:(v/128=0∧v%128<64)∨(v/128= -1∧64≤v%128)):lC v=1:=vE (by omega)
theorem S3{v:Int}(h:¬((v/128=0∧v%128<64)∨(v/128= -1∧64≤v%128))):lC v=lC (v/128)+1:=Ag (by omega)
theorem Ns(t:UInt8):∀(n:Nat) (l:List UInt8),0<n→n≤l.length→(∀j,j<n→l[j]?=some t)→l[n]?≠some t→gY l=n::gY (l.drop n):=by
 intro n
 induction n with
 |zero=>intro l h;omega
 | succ n ih=>
  intro l _ hl ha hn;cases l with
  |nil=>simp at hl
  |cons a l=>
   have h0:=ha 0 (by omega);simp only[List.getElem?_cons_zero,Option.some.injEq] at h0;subst h0;simp only[List.drop_succ_cons];by_cases h:n=0
   · subst h
     simp only[List.drop_zero];cases l with
     |nil=>rfl
     |cons b r=>
      have hb:b≠a:=fun e=>hn (by simp[e]);obtain⟨k,s,hk⟩:=Av b r;have e:gY (a::b::r)=match gY (b::r) with|n::r=>if b=a then(n+1)::r else 1::n::r|_=>[1]:=by rw[gY.eq_def];simp only;split<;>simp_all
      rw[e,hk];simp only;rw[if_neg hb]
   · have i1:=ih l (by omega) (by simp at hl;omega) (fun j hj=>by have:=ha (j+1) (by omega);simpa using this) (fun e=>hn (by simpa using e))
     cases l with
     |nil=>simp at hl;omega
     |cons b r=>
      have hb:b=a:=by have:=ha 1 (by omega);simpa using this
      have e:gY (a::b::r)=match gY (b::r) with|n::r=>if b=a then(n+1)::r else 1::n::r|_=>[1]:=by rw[gY.eq_def];simp only;split<;>simp_all
      rw[e,i1];simp only;rw[if_pos hb]
def vW(p:List Nat):Nat:=(p.map fun n=>fO n+1).sum
theorem Nt(p:List Nat)(n:Nat):vW (p++[n])=vW p+(fO n+1):=by simp[vW]
theorem G7:∀(p:List Nat),(∀n∈p,n≤1000000)→vW p≤11*p.length
 |[],_=>by simp[vW]
 |n::p,h=>by
  have h1:=G7 p (fun q hq=>h q (List.mem_cons_of_mem _ hq));have h2:=h n (List.mem_cons_self ..);have h3:fO n≤10:=dI (by omega);simp only[vW,List.map_cons,List.sum_cons,List.length_cons] at h1 ⊢;omega
theorem Qt(b:jJ):MG b=fO (gY b.aW).length+vW (gY b.aW)+xh b.L:=rfl
theorem Nu:gY []=[]:=rfl
end Go.Hl
namespace Go.Hl
theorem Qu{t:UInt8}:(t.toNat:Int)=126↔t=126:=by rw[←UInt8.toNat_inj];simp;omega
theorem Qv{t:UInt8}:(t.toNat:Int)=127↔t=127:=by rw[←UInt8.toNat_inj];simp;omega
def gU(l:List UInt8)(j:Nat):UInt8:=l.getD j 0
theorem Lf{l:List UInt8}{j:Nat}(h:j<l.length):l[j]?=some (gU l j):=by unfold gU;rw[List.getD_eq_getElem?_getD,List.getElem?_eq_getElem h];rfl
theorem S4{l:List UInt8}{k k2:Nat}{t:UInt8}(hk:k<k2)(h2:k2≤l.length)(ha:∀j,j<k2-k→(l.drop k)[j]?=some t)(hn:¬((k2:Int)<(l.length:Int)∧((gU l k2).toNat:Int)=(t.toNat:Int))):gY (l.drop k)=(k2-k)::gY (l.drop k2):=by
 have h9:=Ns t (k2-k) (l.drop k) (by omega) (by rw[List.length_drop];omega) ha (fun e=>by
  rw[List.getElem?_drop,show k+(k2-k)=k2 by omega] at e;have hl:=(List.getElem?_eq_some_iff.1 e).1;rw[Lf hl] at e;exact hn ⟨by omega,by rw[Option.some.inj e]⟩)
 rw[List.drop_drop,show k+(k2-k)=k2 by omega] at h9;exact h9
theorem Qw{l:List UInt8}{k k2:Nat}{t:UInt8}(hk:k≤k2)(ht:l[k]?=some t)(hn:¬((k2:Int)<(l.length:Int)∧((gU l k2).toNat:Int)=(t.toNat:Int))):k<k2:=by
 rcases Nat.lt_or_ge k k2 with h|h
 · exact h
 · have he:k2=k:=by omega
   subst he;have hl:=(List.getElem?_eq_some_iff.1 ht).1;rw[Lf hl] at ht;exact absurd ⟨by omega,by rw[Option.some.inj ht]⟩ hn
end Go.Hl
end
section
namespace Go.Hl
open Go.RowKit
def bg(s:dD)(base:Int):List VP:=[ai 1 aj s.1,ak s.2,ag .i64 base]
instance (s:dD) (base:Int):bH (bg s base):=⟨fun q h=>by simp only[bg,List.mem_cons,List.not_mem_nil,or_false] at h;rcases h with h|h|h<;>subst h<;>infer_instance⟩
def pY(p:Prop):List VP:=[ak p]
instance:gZ 1 pY:=⟨fun _=>rfl,fun x q h=>by simp only[pY,List.mem_cons,List.not_mem_nil,or_false] at h;subst h;infer_instance⟩
def eH(v:nS):List VP:=[ai 2 bS v.aA,ai 2 bS v.bQ,ai 1 pY v.bO,ai 1 aj v.an,ai 1 pY v.eO,ak v.Table,ai 1 aj v.de.P,ai 1 aj v.de.R,ai 1 aj v.aW]
instance (v:nS):bH (eH v):=⟨fun q h=>by simp only[eH,List.mem_cons,List.not_mem_nil,or_false] at h;rcases h with h|h|h|h|h|h|h|h|h<;>subst h<;>infer_instance⟩
instance {cs:List VP} {q:VP} {n:Nat} [h:bH cs] [h2:Flat q]:bH (cs.set n q):=⟨fun p hp=>(List.mem_or_eq_of_mem_set hp).elim (h.flat p) (fun e=>e▸h2)⟩
def plR(o:Option dD)(g:dD×Int):Prop:=(g.2=0∧o=some g.1)∨(g.2≠0∧o=none)
def Q5(s:dD)(l:List UInt8)(g:dD×Int):Prop:=plR (cU s l) g∧g.1.1.length≤s.1.length
def Qx(s:dD)(w:UInt8)(g:dD×UInt8×Int):Prop:=((g.2.2=0∧jm s w=some (g.1,g.2.1))∨(g.2.2≠0∧jm s w=none))∧g.1.1.length≤s.1.length
variable {s:dD} {g:dD×Int} {l:List UInt8}
theorem Q5.ok(h:Q5 s l g)(he:g.2=0):cU s l=some g.1:=h.1.elim (fun h=>h.2) (fun h=>absurd he h.1)
theorem Q5.no(h:Q5 s l g)(he:g.2≠0):cU s l=none:=h.1.elim (fun h=>absurd h.1 he) (fun h=>h.2)
variable {w:UInt8}
theorem Qx.ok{g:dD×UInt8×Int}(h:Qx s w g)(he:g.2.2=0):jm s w=some (g.1,g.2.1):=h.1.elim (fun h=>h.2) (fun h=>absurd he h.1)
theorem Qx.no{g:dD×UInt8×Int}(h:Qx s w g)(he:g.2.2≠0):jm s w=none:=h.1.elim (fun h=>absurd h.1 he) (fun h=>h.2)
variable {i:List UInt8}
theorem Yc{o:List UInt8}(h:Q5 s i g):plR (pS s i o) (bG g.1 o,g.2):=by
 unfold pS;rcases h.1 with⟨h1,h2⟩|⟨h1,h2⟩
 · exact .inl ⟨h1,by rw[h2];rfl⟩
 · exact .inr ⟨h1,by rw[h2];rfl⟩
def yw(s:dD)(o:Option dD)(g:dD×Int):Prop:=plR o g∧g.1.1.length≤s.1.length+20
theorem er{o:Option dD}{t:dD}{e:Int}(he:e≠0)(h:o=none)(hl:t.1.length≤s.1.length+20):yw s o (t,e):=⟨.inr ⟨he,h⟩,hl⟩
theorem uJ{o:Option dD}{t:dD}(h:o=some t)(hl:t.1.length≤s.1.length+20):yw s o (t,0):=⟨.inl ⟨rfl,h⟩,hl⟩
theorem qS{o:List UInt8}{p:Option dD}(hp:p=pS s i o)(h:Q5 s i g)(ho:o.length≤20):yw s p (bG g.1 o,g.2):=
 ⟨by rw[hp];exact Yc h,by have:=h.2;simp only[bG,List.length_append];omega⟩
theorem Qy{p:Option dD}(hp:p=cU s i)(h:Q5 s i g):yw s p g:=⟨by rw[hp];exact h.1,by have:=h.2;omega⟩
theorem xw(s:dD)(l:List UInt8)(t:UInt8):cU s (l++[t])=(cU s [t]).bind fun p=>cU p l:=by
 rw[js,gC];cases jm s t<;>rfl
theorem uK{w:Prop}(h:w):bV w=126:=if_pos h
theorem uL{w:Prop}(h:¬w):bV w=127:=if_neg h
theorem ar2{k:Nat}(h:k≤31):(0:Int)<2^k∧(2:Int)^k≤2147483648:=by
 have h1:(2:Int)^k=((2^k:Nat):Int):=by norm_cast
 have h2:2^k≤2^31:=Nat.pow_le_pow_right (by decide) h;have h3:0<2^k:=Nat.two_pow_pos k;rw[h1];omega
structure J8(v:nS):Prop where
 F:v.aA.length≤60000
 S:v.bQ.length≤60000
 L:v.aW.length≤60000
 G:v.an.length≤60000
 W:v.bO.length≤60000
 mu:v.eO.length=v.an.length
 sf:∀g∈v.aA,g.P.length≤20∧g.R.length≤20
 ss:∀g∈v.bQ,g.P.length≤20∧g.R.length≤20
 own:v.de.R.length≤20
structure o8(v:nS)(x:ay)(s:dD)(labs:List (List UInt8)):Prop where
 env:J8 v
 ins:mW x
 stk:s.1.length≤50000
 Ct:labs.length≤60000
 lbw:∀w∈labs,w.length≤20
variable {n:Int}
theorem iZ{α:Type}{L:List α}(h0:0≤n)(h:¬n≥(L.length:Int)):∃w,eo L n=some w∧L[n.toNat]?=some w:=vG h0 (by omega)
theorem vX{L:List (List UInt8)}(h0:0≤n)(h:¬n≥(L.length:Int)):∃w,jq L n=some w∧L[L.length-1-n.toNat]?=some w:=Gh h0 (by omega)
theorem jH{α:Type}{L:List α}(h:n≥(L.length:Int)):eo L n=none:=vH (by omega)
theorem vY{L:List (List UInt8)}(h:n≥(L.length:Int)):jq L n=none:=Cg (by omega)
theorem S5{d:Prop}{g:UInt8}(h:(((g.toNat:Int)≠0)∧((w.toNat:Int)≠0))∧((g.toNat:Int)≠(w.toNat:Int))):jm (l++[g],d) w=none:=
 x5 fun e=>by
  obtain⟨⟨h1,h2⟩,h3⟩:=h;rcases e with e|e|e
  · exact h3 (by rw[e])
  · exact h1 (by rw[e];rfl)
  · exact h2 (by rw[e];rfl)
theorem G8{d:Prop}{g:UInt8}(h:¬((((g.toNat:Int)≠0)∧((w.toNat:Int)≠0))∧((g.toNat:Int)≠(w.toNat:Int)))):jm (l++[g],d) w=some ((l,d),if g=0 then w else g):=by
 refine Ak (Classical.byContradiction fun e=>h ⟨⟨fun h1=>?_,fun h1=>?_⟩,fun h1=>?_⟩)
 · exact e (.inr (.inl ((oJ g).1 h1)))
 · exact e (.inr (.inr ((oJ w).1 h1)))
 · exact e (.inl (zL.1 h1))
end Go.Hl
end
section
namespace Go.Proofs.YtpfobikpggmleaaGreatDoor
open Go.Hl Go.RowKit
variable {code:Int}
theorem J9:cQ Tryz.prog 131 [ag .i64 code] (cZ (jo code)):=by
 refine In 20 Tryz.func131 fun _ _ _=>?_;refine Z2 ?_;refine .p (bh (.s [] rfl rfl)) rfl ?_;refine kR ?_;refine Cd (fun c0=>?_) fun c0=>?_
 ·
  refine Z2 ?_;refine .p (bh (.s [109,101,109,111,114,121,46,99,111,112,121] rfl rfl)) rfl ?_;refine Z5 ?_;refine bB ?_;exact af.of_eq (by unfold jo;rw[if_pos c0])
 refine Z6 ?_;refine Cd (fun c1=>?_) fun c1=>?_
 ·
  refine Z2 ?_;refine .p (bh (.s [109,101,109,111,114,121,46,102,105,108,108] rfl rfl)) rfl ?_;refine Z5 ?_;refine bB ?_;exact af.of_eq (by unfold jo;rw[if_neg c0,if_pos c1])
 refine jb ?_;refine Cd (fun c2=>?_) fun c2=>?_
 ·
  refine Z2 ?_;refine .p (bh (.s [] rfl rfl)) rfl ?_;refine Z4 ?_;refine bB ?_;exact af.of_eq (by unfold jo;rw[if_neg c0,if_neg c1,if_pos c2])
 refine Z4 ?_;refine .p (bI (enc:=jW) Ab FU.out FC.out rfl FZ.out rfl (.cons (.s [117,110,114,101,97,99,104,97,98,108,101] rfl rfl) (.cons (.s [110,111,112] rfl rfl) (.cons (.s [98,108,111,99,107] rfl rfl) (.cons (.s [108,111,111,112] rfl rfl) (.cons (.s [105,102] rfl rfl) (.cons (.s [101,108,115,101] rfl rfl) (.cons (.s [] rfl rfl) (.cons (.s [] rfl rfl) (.cons (.s [] rfl rfl) (.cons (.s [] rfl rfl) (.cons (.s [] rfl rfl) (.cons (.s [101,110,100] rfl rfl) (.cons (.s [98,114] rfl rfl) (.cons (.s [98,114,95,105,102] rfl rfl) (.cons (.s [98,114,95,116,97,98,108,101] rfl rfl) (.cons (.s [114,101,116,117,114,110] rfl rfl) (.cons (.s [99,97,108,108] rfl rfl) (.cons (.s [99,97,108,108,95,105,110,100,105,114,101,99,116] rfl rfl) (.cons (.s [] rfl rfl) (.cons (.s [] rfl rfl) (.cons (.s [] rfl rfl) (.cons (.s [] rfl rfl) (.cons (.s [] rfl rfl) (.cons (.s [] rfl rfl) (.cons (.s [] rfl rfl) (.cons (.s [] rfl rfl) (.cons (.s [100,114,111,112] rfl rfl) (.cons (.s [115,101,108,101,99,116] rfl rfl) (.cons (.s [] rfl rfl) (.cons (.s [] rfl rfl) (.cons (.s [] rfl rfl) (.cons (.s [] rfl rfl) (.cons (.s [108,111,99,97,108,46,103,101,116] rfl rfl) (.cons (.s [108,111,99,97,108,46,115,101,116] rfl rfl) (.cons (.s [108,111,99,97,108,46,116,101,101] rfl rfl) (.cons (.s [103,108,111,98,97,108,46,103,101,116] rfl rfl) (.cons (.s [103,108,111,98,97,108,46,115,101,116] rfl rfl) (.cons (.s [] rfl rfl) (.cons (.s [] rfl rfl) (.cons (.s [] rfl rfl) (.cons (.s [105,51,50,46,108,111,97,100] rfl rfl) (.cons (.s [105,54,52,46,108,111,97,100] rfl rfl) (.cons (.s [] rfl rfl) (.cons (.s [] rfl rfl) (.cons (.s [105,51,50,46,108,111,97,100,56,95,115] rfl rfl) (.cons (.s [105,51,50,46,108,111,97,100,56,95,117] rfl rfl) (.cons (.s [105,51,50,46,108,111,97,100,49,54,95,115] rfl rfl) (.cons (.s [105,51,50,46,108,111,97,100,49,54,95,117] rfl rfl) (.cons (.s [105,54,52,46,108,111,97,100,56,95,115] rfl rfl) (.cons (.s [105,54,52,46,108,111,97,100,56,95,117] rfl rfl) (.cons (.s [105,54,52,46,108,111,97,100,49,54,95,115] rfl rfl) (.cons (.s [105,54,52,46,108,111,97,100,49,54,95,117] rfl rfl) (.cons (.s [105,54,52,46,108,111,97,100,51,50,95,115] rfl rfl) (.cons (.s [105,54,52,46,108,111,97,100,51,50,95,117] rfl rfl) (.cons (.s [105,51,50,46,115,116,111,114,101] rfl rfl) (.cons (.s [105,54,52,46,115,116,111,114,101] rfl rfl) (.cons (.s [] rfl rfl) (.cons (.s [] rfl rfl) (.cons (.s [105,51,50,46,115,116,111,114,101,56] rfl rfl) (.cons (.s [105,51,50,46,115,116,111,114,101,49,54] rfl rfl) (.cons (.s [105,54,52,46,115,116,111,114,101,56] rfl rfl) (.cons (.s [105,54,52,46,115,116,111,114,101,49,54] rfl rfl) (.cons (.s [105,54,52,46,115,116,111,114,101,51,50] rfl rfl) (.cons (.s [109,101,109,111,114,121,46,115,105,122,101] rfl rfl) (.cons (.s [109,101,109,111,114,121,46,103,114,111,119] rfl rfl) (.cons (.s [105,51,50,46,99,111,110,115,116] rfl rfl) (.cons (.s [105,54,52,46,99,111,110,115,116] rfl rfl) (.cons (.s [] rfl rfl) (.cons (.s [] rfl rfl) (.cons (.s [105,51,50,46,101,113,122] rfl rfl) (.cons (.s [105,51,50,46,101,113] rfl rfl) (.cons (.s [105,51,50,46,110,101] rfl rfl) (.cons (.s [105,51,50,46,108,116,95,115] rfl rfl) (.cons (.s [105,51,50,46,108,116,95,117] rfl rfl) (.cons (.s [105,51,50,46,103,116,95,115] rfl rfl) (.cons (.s [105,51,50,46,103,116,95,117] rfl rfl) (.cons (.s [105,51,50,46,108,101,95,115] rfl rfl) (.cons (.s [105,51,50,46,108,101,95,117] rfl rfl) (.cons (.s [105,51,50,46,103,101,95,115] rfl rfl) (.cons (.s [105,51,50,46,103,101,95,117] rfl rfl) (.cons (.s [105,54,52,46,101,113,122] rfl rfl) (.cons (.s [105,54,52,46,101,113] rfl rfl) (.cons (.s [105,54,52,46,110,101] rfl rfl) (.cons (.s [105,54,52,46,108,116,95,115] rfl rfl) (.cons (.s [105,54,52,46,108,116,95,117] rfl rfl) (.cons (.s [105,54,52,46,103,116,95,115] rfl rfl) (.cons (.s [105,54,52,46,103,116,95,117] rfl rfl) (.cons (.s [105,54,52,46,108,101,95,115] rfl rfl) (.cons (.s [105,54,52,46,108,101,95,117] rfl rfl) (.cons (.s [105,54,52,46,103,101,95,115] rfl rfl) (.cons (.s [105,54,52,46,103,101,95,117] rfl rfl) (.cons (.s [] rfl rfl) (.cons (.s [] rfl rfl) (.cons (.s [] rfl rfl) (.cons (.s [] rfl rfl) (.cons (.s [] rfl rfl) (.cons (.s [] rfl rfl) (.cons (.s [] rfl rfl) (.cons (.s [] rfl rfl) (.cons (.s [] rfl rfl) (.cons (.s [] rfl rfl) (.cons (.s [] rfl rfl) (.cons (.s [] rfl rfl) (.cons (.s [105,51,50,46,99,108,122] rfl rfl) (.cons (.s [105,51,50,46,99,116,122] rfl rfl) (.cons (.s [105,51,50,46,112,111,112,99,110,116] rfl rfl) (.cons (.s [105,51,50,46,97,100,100] rfl rfl) (.cons (.s [105,51,50,46,115,117,98] rfl rfl) (.cons (.s [105,51,50,46,109,117,108] rfl rfl) (.cons (.s [105,51,50,46,100,105,118,95,115] rfl rfl) (.cons (.s [105,51,50,46,100,105,118,95,117] rfl rfl) (.cons (.s [105,51,50,46,114,101,109,95,115] rfl rfl) (.cons (.s [105,51,50,46,114,101,109,95,117] rfl rfl) (.cons (.s [105,51,50,46,97,110,100] rfl rfl) (.cons (.s [105,51,50,46,111,114] rfl rfl) (.cons (.s [105,51,50,46,120,111,114] rfl rfl) (.cons (.s [105,51,50,46,115,104,108] rfl rfl) (.cons (.s [105,51,50,46,115,104,114,95,115] rfl rfl) (.cons (.s [105,51,50,46,115,104,114,95,117] rfl rfl) (.cons (.s [105,51,50,46,114,111,116,108] rfl rfl) (.cons (.s [105,51,50,46,114,111,116,114] rfl rfl) (.cons (.s [105,54,52,46,99,108,122] rfl rfl) (.cons (.s [105,54,52,46,99,116,122] rfl rfl) (.cons (.s [105,54,52,46,112,111,112,99,110,116] rfl rfl) (.cons (.s [105,54,52,46,97,100,100] rfl rfl) (.cons (.s [105,54,52,46,115,117,98] rfl rfl) (.cons (.s [105,54,52,46,109,117,108] rfl rfl) (.cons (.s [105,54,52,46,100,105,118,95,115] rfl rfl) (.cons (.s [105,54,52,46,100,105,118,95,117] rfl rfl) (.cons (.s [105,54,52,46,114,101,109,95,115] rfl rfl) (.cons (.s [105,54,52,46,114,101,109,95,117] rfl rfl) (.cons (.s [105,54,52,46,97,110,100] rfl rfl) (.cons (.s [105,54,52,46,111,114] rfl rfl) (.cons (.s [105,54,52,46,120,111,114] rfl rfl) (.cons (.s [105,54,52,46,115,104,108] rfl rfl) (.cons (.s [105,54,52,46,115,104,114,95,115] rfl rfl) (.cons (.s [105,54,52,46,115,104,114,95,117] rfl rfl) (.cons (.s [105,54,52,46,114,111,116,108] rfl rfl) (.cons (.s [105,54,52,46,114,111,116,114] rfl rfl) (.cons (.s [] rfl rfl) (.cons (.s [] rfl rfl) (.cons (.s [] rfl rfl) (.cons (.s [] rfl rfl) (.cons (.s [] rfl rfl) (.cons (.s [] rfl rfl) (.cons (.s [] rfl rfl) (.cons (.s [] rfl rfl) (.cons (.s [] rfl rfl) (.cons (.s [] rfl rfl) (.cons (.s [] rfl rfl) (.cons (.s [] rfl rfl) (.cons (.s [] rfl rfl) (.cons (.s [] rfl rfl) (.cons (.s [] rfl rfl) (.cons (.s [] rfl rfl) (.cons (.s [] rfl rfl) (.cons (.s [] rfl rfl) (.cons (.s [] rfl rfl) (.cons (.s [] rfl rfl) (.cons (.s [] rfl rfl) (.cons (.s [] rfl rfl) (.cons (.s [] rfl rfl) (.cons (.s [] rfl rfl) (.cons (.s [] rfl rfl) (.cons (.s [] rfl rfl) (.cons (.s [] rfl rfl) (.cons (.s [] rfl rfl) (.cons (.s [105,51,50,46,119,114,97,112,95,105,54,52] rfl rfl) (.cons (.s [] rfl rfl) (.cons (.s [] rfl rfl) (.cons (.s [] rfl rfl) (.cons (.s [] rfl rfl) (.cons (.s [105,54,52,46,101,120,116,101,110,100,95,105,51,50,95,115] rfl rfl) (.cons (.s [105,54,52,46,101,120,116,101,110,100,95,105,51,50,95,117] rfl rfl) (.cons (.s [] rfl rfl) (.cons (.s [] rfl rfl) (.cons (.s [] rfl rfl) (.cons (.s [] rfl rfl) (.cons (.s [] rfl rfl) (.cons (.s [] rfl rfl) (.cons (.s [] rfl rfl) (.cons (.s [] rfl rfl) (.cons (.s [] rfl rfl) (.cons (.s [] rfl rfl) (.cons (.s [] rfl rfl) (.cons (.s [] rfl rfl) (.cons (.s [] rfl rfl) (.cons (.s [] rfl rfl) (.cons (.s [] rfl rfl) (.cons (.s [] rfl rfl) (.cons (.s [] rfl rfl) (.cons (.s [] rfl rfl) (.cons (.s [105,51,50,46,101,120,116,101,110,100,56,95,115] rfl rfl) (.cons (.s [105,51,50,46,101,120,116,101,110,100,49,54,95,115] rfl rfl) (.cons (.s [105,54,52,46,101,120,116,101,110,100,56,95,115] rfl rfl) (.cons (.s [105,54,52,46,101,120,116,101,110,100,49,54,95,115] rfl rfl) (.cons (.s [105,54,52,46,101,120,116,101,110,100,51,50,95,115] rfl rfl) .nil))))))))))))))))))))))))))))))))))))))))))))))))))))))))))))))))))))))))))))))))))))))))))))))))))))))))))))))))))))))))))))))))))))))))))))))))))))))))))))))))))))))))))))))))))))))))))))))))))))) rfl rfl rfl rfl rfl) rfl ?_;refine Z7 ?_;refine .p (cI _ (h:=show Ab[code.toNat]?=some (Ab.getD code.toNat []) by rw[List.getD_eq_getElem?_getD,List.getElem?_eq_getElem (by rw[MD];omega)];rfl)) rfl ?_;refine Z5 ?_;refine bB ?_;exact af.of_eq (by unfold jo;rw[if_neg c0,if_neg c1,if_neg c2])
theorem jx:cQ Tryz.prog 132 [ag .i64 code] (ag .i64 (aV code)):=by
 refine In 68 Tryz.func132 fun _ _ _=>?_;refine BE ?_;refine Cd (fun c0=>?_) fun c0=>?_
 ·
  refine Z8 ?_;refine bB ?_;exact af.int (by unfold aV;repeat (first|rfl|rw[if_pos (by assumption)]|rw[if_neg (by assumption)]))
 refine cc ?_;refine Cd (fun c1=>?_) fun c1=>?_
 ·
  refine Z8 ?_;refine bB ?_;exact af.int (by unfold aV;repeat (first|rfl|rw[if_pos (by assumption)]|rw[if_neg (by assumption)]))
 refine Z7 ?_;refine Cd (fun c2=>?_) fun c2=>?_
 ·
  refine Z8 ?_;refine bB ?_;exact af.int (by unfold aV;repeat (first|rfl|rw[if_pos (by assumption)]|rw[if_neg (by assumption)]))
 refine Z7 ?_;refine Cd (fun c3=>?_) fun c3=>?_
 ·
  refine Z8 ?_;refine bB ?_;exact af.int (by unfold aV;repeat (first|rfl|rw[if_pos (by assumption)]|rw[if_neg (by assumption)]))
 refine Z7 ?_;refine Cd (fun c4=>?_) fun c4=>?_
 ·
  refine Z8 ?_;refine bB ?_;exact af.int (by unfold aV;repeat (first|rfl|rw[if_pos (by assumption)]|rw[if_neg (by assumption)]))
 refine cc ?_;refine Cd (fun c5=>?_) fun c5=>?_
 ·
  refine Z8 ?_;refine bB ?_;exact af.int (by unfold aV;repeat (first|rfl|rw[if_pos (by assumption)]|rw[if_neg (by assumption)]))
 refine cc ?_;refine Cd (fun c6=>?_) fun c6=>?_
 ·
  refine Z8 ?_;refine bB ?_;exact af.int (by unfold aV;repeat (first|rfl|rw[if_pos (by assumption)]|rw[if_neg (by assumption)]))
 refine cc ?_;refine Cd (fun c7=>?_) fun c7=>?_
 ·
  refine Z8 ?_;refine bB ?_;exact af.int (by unfold aV;repeat (first|rfl|rw[if_pos (by assumption)]|rw[if_neg (by assumption)]))
 refine kR ?_;refine Cd (fun c8=>?_) fun c8=>?_
 ·
  refine Z8 ?_;refine bB ?_;exact af.int (by unfold aV;repeat (first|rfl|rw[if_pos (by assumption)]|rw[if_neg (by assumption)]))
 refine Z7 ?_;refine Cd (fun c9=>?_) fun c9=>?_
 ·
  refine Z8 ?_;refine bB ?_;exact af.int (by unfold aV;repeat (first|rfl|rw[if_pos (by assumption)]|rw[if_neg (by assumption)]))
 refine cc ?_;refine Cd (fun nV=>?_) fun nV=>?_
 ·
  refine Z8 ?_;refine bB ?_;exact af.int (by unfold aV;repeat (first|rfl|rw[if_pos (by assumption)]|rw[if_neg (by assumption)]))
 refine Z9 ?_;refine bB ?_;exact af.int (by unfold aV;repeat (first|rfl|rw[if_pos (by assumption)]|rw[if_neg (by assumption)]))
theorem kG:cQ Tryz.prog 160 [ag .i64 code] (bE [ai 1 aj (aO code).1,ai 1 aj (aO code).2]):=by
 refine In 169 Tryz.func160 fun _ _ _=>?_;refine UD ?_;refine Cd (fun c0=>?_) fun c0=>?_
 ·
  refine Z9 ?_;refine j4 ?_ ?_
  · first|(refine af.trans (aI 1 aj) (af.of_eq ?_);unfold aO;repeat (first|rfl|rw[if_pos (by assumption)]|rw[if_neg (by assumption)]))|(refine af.of_eq ?_;unfold aO;repeat (first|rfl|rw[if_pos (by assumption)]|rw[if_neg (by assumption)]))
  first|(refine af.trans (aI 1 aj) (af.of_eq ?_);unfold aO;repeat (first|rfl|rw[if_pos (by assumption)]|rw[if_neg (by assumption)]))|(refine af.of_eq ?_;unfold aO;repeat (first|rfl|rw[if_pos (by assumption)]|rw[if_neg (by assumption)]))
 refine kR ?_;refine Cd (fun c1=>?_) fun c1=>?_
 ·
  refine Z3 ?_;refine .p (cB aj [127]) rfl ?_;refine Z1 ?_;refine .p (cB aj [127]) rfl ?_;refine Z7 ?_;refine j4 ?_ ?_
  · first|(refine af.trans (aI 1 aj) (af.of_eq ?_);unfold aO;repeat (first|rfl|rw[if_pos (by assumption)]|rw[if_neg (by assumption)]))|(refine af.of_eq ?_;unfold aO;repeat (first|rfl|rw[if_pos (by assumption)]|rw[if_neg (by assumption)]))
  first|(refine af.trans (aI 1 aj) (af.of_eq ?_);unfold aO;repeat (first|rfl|rw[if_pos (by assumption)]|rw[if_neg (by assumption)]))|(refine af.of_eq ?_;unfold aO;repeat (first|rfl|rw[if_pos (by assumption)]|rw[if_neg (by assumption)]))
 refine kR ?_;refine Cd (fun c2=>?_) fun c2=>?_
 ·
  refine Z3 ?_;refine .p (cB aj [127]) rfl ?_;refine Z1 ?_;refine .p (cB aj [126]) rfl ?_;refine Z7 ?_;refine j4 ?_ ?_
  · first|(refine af.trans (aI 1 aj) (af.of_eq ?_);unfold aO;repeat (first|rfl|rw[if_pos (by assumption)]|rw[if_neg (by assumption)]))|(refine af.of_eq ?_;unfold aO;repeat (first|rfl|rw[if_pos (by assumption)]|rw[if_neg (by assumption)]))
  first|(refine af.trans (aI 1 aj) (af.of_eq ?_);unfold aO;repeat (first|rfl|rw[if_pos (by assumption)]|rw[if_neg (by assumption)]))|(refine af.of_eq ?_;unfold aO;repeat (first|rfl|rw[if_pos (by assumption)]|rw[if_neg (by assumption)]))
 refine kR ?_;refine Cd (fun c3=>?_) fun c3=>?_
 ·
  refine Z4 ?_;refine .p (cB aj [127,127]) rfl ?_;refine Z7 ?_;refine j4 ?_ ?_
  · first|(refine af.trans (aI 1 aj) (af.of_eq ?_);unfold aO;repeat (first|rfl|rw[if_pos (by assumption)]|rw[if_neg (by assumption)]))|(refine af.of_eq ?_;unfold aO;repeat (first|rfl|rw[if_pos (by assumption)]|rw[if_neg (by assumption)]))
  first|(refine af.trans (aI 1 aj) (af.of_eq ?_);unfold aO;repeat (first|rfl|rw[if_pos (by assumption)]|rw[if_neg (by assumption)]))|(refine af.of_eq ?_;unfold aO;repeat (first|rfl|rw[if_pos (by assumption)]|rw[if_neg (by assumption)]))
 refine Z7 ?_;refine Cd (fun c4=>?_) fun c4=>?_
 ·
  refine Z4 ?_;refine .p (cB aj [127,126]) rfl ?_;refine Z7 ?_;refine j4 ?_ ?_
  · first|(refine af.trans (aI 1 aj) (af.of_eq ?_);unfold aO;repeat (first|rfl|rw[if_pos (by assumption)]|rw[if_neg (by assumption)]))|(refine af.of_eq ?_;unfold aO;repeat (first|rfl|rw[if_pos (by assumption)]|rw[if_neg (by assumption)]))
  first|(refine af.trans (aI 1 aj) (af.of_eq ?_);unfold aO;repeat (first|rfl|rw[if_pos (by assumption)]|rw[if_neg (by assumption)]))|(refine af.of_eq ?_;unfold aO;repeat (first|rfl|rw[if_pos (by assumption)]|rw[if_neg (by assumption)]))
 refine cc ?_;refine Cd (fun c5=>?_) fun c5=>?_
 ·
  refine Z3 ?_;refine .p (cB aj [127]) rfl ?_;refine Z7 ?_;refine j4 ?_ ?_
  · first|(refine af.trans (aI 1 aj) (af.of_eq ?_);unfold aO;repeat (first|rfl|rw[if_pos (by assumption)]|rw[if_neg (by assumption)]))|(refine af.of_eq ?_;unfold aO;repeat (first|rfl|rw[if_pos (by assumption)]|rw[if_neg (by assumption)]))
  first|(refine af.trans (aI 1 aj) (af.of_eq ?_);unfold aO;repeat (first|rfl|rw[if_pos (by assumption)]|rw[if_neg (by assumption)]))|(refine af.of_eq ?_;unfold aO;repeat (first|rfl|rw[if_pos (by assumption)]|rw[if_neg (by assumption)]))
 refine Z7 ?_;refine Cd (fun c6=>?_) fun c6=>?_
 ·
  refine Z3 ?_;refine .p (cB aj [126]) rfl ?_;refine Z7 ?_;refine j4 ?_ ?_
  · first|(refine af.trans (aI 1 aj) (af.of_eq ?_);unfold aO;repeat (first|rfl|rw[if_pos (by assumption)]|rw[if_neg (by assumption)]))|(refine af.of_eq ?_;unfold aO;repeat (first|rfl|rw[if_pos (by assumption)]|rw[if_neg (by assumption)]))
  first|(refine af.trans (aI 1 aj) (af.of_eq ?_);unfold aO;repeat (first|rfl|rw[if_pos (by assumption)]|rw[if_neg (by assumption)]))|(refine af.of_eq ?_;unfold aO;repeat (first|rfl|rw[if_pos (by assumption)]|rw[if_neg (by assumption)]))
 refine cc ?_;refine Cd (fun c7=>?_) fun c7=>?_
 ·
  refine Z3 ?_;refine .p (cB aj [126]) rfl ?_;refine Z1 ?_;refine .p (cB aj [127]) rfl ?_;refine Z7 ?_;refine j4 ?_ ?_
  · first|(refine af.trans (aI 1 aj) (af.of_eq ?_);unfold aO;repeat (first|rfl|rw[if_pos (by assumption)]|rw[if_neg (by assumption)]))|(refine af.of_eq ?_;unfold aO;repeat (first|rfl|rw[if_pos (by assumption)]|rw[if_neg (by assumption)]))
  first|(refine af.trans (aI 1 aj) (af.of_eq ?_);unfold aO;repeat (first|rfl|rw[if_pos (by assumption)]|rw[if_neg (by assumption)]))|(refine af.of_eq ?_;unfold aO;repeat (first|rfl|rw[if_pos (by assumption)]|rw[if_neg (by assumption)]))
 refine Ek ?_;refine Cd (fun c8=>?_) fun c8=>?_
 ·
  refine Z4 ?_;refine .p (cB aj [127,127]) rfl ?_;refine Z1 ?_;refine .p (cB aj [127]) rfl ?_;refine Z7 ?_;refine j4 ?_ ?_
  · first|(refine af.trans (aI 1 aj) (af.of_eq ?_);unfold aO;repeat (first|rfl|rw[if_pos (by assumption)]|rw[if_neg (by assumption)]))|(refine af.of_eq ?_;unfold aO;repeat (first|rfl|rw[if_pos (by assumption)]|rw[if_neg (by assumption)]))
  first|(refine af.trans (aI 1 aj) (af.of_eq ?_);unfold aO;repeat (first|rfl|rw[if_pos (by assumption)]|rw[if_neg (by assumption)]))|(refine af.of_eq ?_;unfold aO;repeat (first|rfl|rw[if_pos (by assumption)]|rw[if_neg (by assumption)]))
 refine cc ?_;refine Cd (fun c9=>?_) fun c9=>?_
 ·
  refine Z4 ?_;refine .p (cB aj [126,126]) rfl ?_;refine Z1 ?_;refine .p (cB aj [127]) rfl ?_;refine Z7 ?_;refine j4 ?_ ?_
  · first|(refine af.trans (aI 1 aj) (af.of_eq ?_);unfold aO;repeat (first|rfl|rw[if_pos (by assumption)]|rw[if_neg (by assumption)]))|(refine af.of_eq ?_;unfold aO;repeat (first|rfl|rw[if_pos (by assumption)]|rw[if_neg (by assumption)]))
  first|(refine af.trans (aI 1 aj) (af.of_eq ?_);unfold aO;repeat (first|rfl|rw[if_pos (by assumption)]|rw[if_neg (by assumption)]))|(refine af.of_eq ?_;unfold aO;repeat (first|rfl|rw[if_pos (by assumption)]|rw[if_neg (by assumption)]))
 refine cc ?_;refine Cd (fun nV=>?_) fun nV=>?_
 ·
  refine Z4 ?_;refine .p (cB aj [126,126]) rfl ?_;refine Z1 ?_;refine .p (cB aj [126]) rfl ?_;refine Z7 ?_;refine j4 ?_ ?_
  · first|(refine af.trans (aI 1 aj) (af.of_eq ?_);unfold aO;repeat (first|rfl|rw[if_pos (by assumption)]|rw[if_neg (by assumption)]))|(refine af.of_eq ?_;unfold aO;repeat (first|rfl|rw[if_pos (by assumption)]|rw[if_neg (by assumption)]))
  first|(refine af.trans (aI 1 aj) (af.of_eq ?_);unfold aO;repeat (first|rfl|rw[if_pos (by assumption)]|rw[if_neg (by assumption)]))|(refine af.of_eq ?_;unfold aO;repeat (first|rfl|rw[if_pos (by assumption)]|rw[if_neg (by assumption)]))
 refine cc ?_;refine Cd (fun qI=>?_) fun qI=>?_
 ·
  refine Z3 ?_;refine .p (cB aj [127]) rfl ?_;refine Z1 ?_;refine .p (cB aj [126]) rfl ?_;refine Z7 ?_;refine j4 ?_ ?_
  · first|(refine af.trans (aI 1 aj) (af.of_eq ?_);unfold aO;repeat (first|rfl|rw[if_pos (by assumption)]|rw[if_neg (by assumption)]))|(refine af.of_eq ?_;unfold aO;repeat (first|rfl|rw[if_pos (by assumption)]|rw[if_neg (by assumption)]))
  first|(refine af.trans (aI 1 aj) (af.of_eq ?_);unfold aO;repeat (first|rfl|rw[if_pos (by assumption)]|rw[if_neg (by assumption)]))|(refine af.of_eq ?_;unfold aO;repeat (first|rfl|rw[if_pos (by assumption)]|rw[if_neg (by assumption)]))
 refine Ek ?_;refine Cd (fun tg=>?_) fun tg=>?_
 ·
  refine Z3 ?_;refine .p (cB aj [126]) rfl ?_;refine Z1 ?_;refine .p (cB aj [126]) rfl ?_;refine Z7 ?_;refine j4 ?_ ?_
  · first|(refine af.trans (aI 1 aj) (af.of_eq ?_);unfold aO;repeat (first|rfl|rw[if_pos (by assumption)]|rw[if_neg (by assumption)]))|(refine af.of_eq ?_;unfold aO;repeat (first|rfl|rw[if_pos (by assumption)]|rw[if_neg (by assumption)]))
  first|(refine af.trans (aI 1 aj) (af.of_eq ?_);unfold aO;repeat (first|rfl|rw[if_pos (by assumption)]|rw[if_neg (by assumption)]))|(refine af.of_eq ?_;unfold aO;repeat (first|rfl|rw[if_pos (by assumption)]|rw[if_neg (by assumption)]))
 refine Z7 ?_;refine Cd (fun As=>?_) fun As=>?_
 ·
  refine Z5 ?_;refine .p (cB aj [127,127,127]) rfl ?_;refine Z7 ?_;refine j4 ?_ ?_
  · first|(refine af.trans (aI 1 aj) (af.of_eq ?_);unfold aO;repeat (first|rfl|rw[if_pos (by assumption)]|rw[if_neg (by assumption)]))|(refine af.of_eq ?_;unfold aO;repeat (first|rfl|rw[if_pos (by assumption)]|rw[if_neg (by assumption)]))
  first|(refine af.trans (aI 1 aj) (af.of_eq ?_);unfold aO;repeat (first|rfl|rw[if_pos (by assumption)]|rw[if_neg (by assumption)]))|(refine af.of_eq ?_;unfold aO;repeat (first|rfl|rw[if_pos (by assumption)]|rw[if_neg (by assumption)]))
 refine Z6 ?_;refine .p (cB aj [127]) rfl ?_;refine Z1 ?_;refine .p (cB aj [127]) rfl ?_;refine Z5 ?_;refine j4 ?_ ?_
 · first|(refine af.trans (aI 1 aj) (af.of_eq ?_);unfold aO;repeat (first|rfl|rw[if_pos (by assumption)]|rw[if_neg (by assumption)]))|(refine af.of_eq ?_;unfold aO;repeat (first|rfl|rw[if_pos (by assumption)]|rw[if_neg (by assumption)]))
 first|(refine af.trans (aI 1 aj) (af.of_eq ?_);unfold aO;repeat (first|rfl|rw[if_pos (by assumption)]|rw[if_neg (by assumption)]))|(refine af.of_eq ?_;unfold aO;repeat (first|rfl|rw[if_pos (by assumption)]|rw[if_neg (by assumption)]))
theorem G9:cQ Tryz.prog 161 [ag .i64 code] (ag .i64 (iq code)):=by
 refine In 27 Tryz.func161 fun _ _ _=>?_;refine dN ?_;refine .cut (σ:=Unit) (fun _=>[]) (fun _=>[(4,ak (code=40∨code=52∨code=53∨code=54∨code=62))]) (fun _=>True) ?_ ?_
 ·
  refine Z6 ?_;refine Cd (fun c0=>?_) fun c0=>?_
  ·
   refine Z1 ?_;refine .meet () trivial rfl (.get rfl (af.prop (by omega)) (.keep 2 rfl rfl))
  refine Z6 ?_;refine Cd (fun c1=>?_) fun c1=>?_
  ·
   refine Z1 ?_;refine .meet () trivial rfl (.get rfl (af.prop (by omega)) (.keep 4 rfl rfl))
  refine Z6 ?_;refine Cd (fun c2=>?_) fun c2=>?_
  ·
   refine Z1 ?_;refine .meet () trivial rfl (.get rfl (af.prop (by omega)) (.keep 6 rfl rfl))
  refine Z6 ?_;refine Cd (fun c3=>?_) fun c3=>?_
  ·
   refine Z1 ?_;refine .meet () trivial rfl (.get rfl (af.prop (by omega)) (.keep 8 rfl rfl))
  refine Z4 ?_;refine .meet () trivial rfl (.get rfl (af.prop (by omega)) (.keep 10 rfl rfl))
 intro _ _;refine Cd (fun c4=>?_) fun c4=>?_
 ·
  refine Z8 ?_;refine bB ?_;exact af.int (by unfold iq;repeat (first|rfl|rw[if_pos (by assumption)]|rw[if_neg (by assumption)]))
 refine .cut (σ:=Unit) (fun _=>[]) (fun _=>[(10,ak (code=41∨code=55))]) (fun _=>True) ?_ ?_
 ·
  refine Z6 ?_;refine Cd (fun c5=>?_) fun c5=>?_
  ·
   refine Z1 ?_;refine .meet () trivial rfl (.get rfl (af.prop (by omega)) (.keep 2 rfl rfl))
  refine Z4 ?_;refine .meet () trivial rfl (.get rfl (af.prop (by omega)) (.keep 4 rfl rfl))
 intro _ _;refine Cd (fun c6=>?_) fun c6=>?_
 ·
  refine Z8 ?_;refine bB ?_;exact af.int (by unfold iq;repeat (first|rfl|rw[if_pos (by assumption)]|rw[if_neg (by assumption)]))
 refine .cut (σ:=Unit) (fun _=>[]) (fun _=>[(13,ak (code=44∨code=45∨code=48∨code=49∨code=58∨code=60))]) (fun _=>True) ?_ ?_
 ·
  refine Z6 ?_;refine Cd (fun c7=>?_) fun c7=>?_
  ·
   refine Z1 ?_;refine .meet () trivial rfl (.get rfl (af.prop (by omega)) (.keep 2 rfl rfl))
  refine Z6 ?_;refine Cd (fun c8=>?_) fun c8=>?_
  ·
   refine Z1 ?_;refine .meet () trivial rfl (.get rfl (af.prop (by omega)) (.keep 4 rfl rfl))
  refine Z6 ?_;refine Cd (fun c9=>?_) fun c9=>?_
  ·
   refine Z1 ?_;refine .meet () trivial rfl (.get rfl (af.prop (by omega)) (.keep 6 rfl rfl))
  refine Z6 ?_;refine Cd (fun nV=>?_) fun nV=>?_
  ·
   refine Z1 ?_;refine .meet () trivial rfl (.get rfl (af.prop (by omega)) (.keep 8 rfl rfl))
  refine Z6 ?_;refine Cd (fun qI=>?_) fun qI=>?_
  ·
   refine Z1 ?_;refine .meet () trivial rfl (.get rfl (af.prop (by omega)) (.keep 10 rfl rfl))
  refine Z4 ?_;refine .meet () trivial rfl (.get rfl (af.prop (by omega)) (.keep 12 rfl rfl))
 intro _ _;refine Cd (fun tg=>?_) fun tg=>?_
 ·
  refine Z8 ?_;refine bB ?_;exact af.int (by unfold iq;repeat (first|rfl|rw[if_pos (by assumption)]|rw[if_neg (by assumption)]))
 refine .cut (σ:=Unit) (fun _=>[]) (fun _=>[(20,ak (code=46∨code=47∨code=50∨code=51∨code=59∨code=61))]) (fun _=>True) ?_ ?_
 ·
  refine Z6 ?_;refine Cd (fun As=>?_) fun As=>?_
  ·
   refine Z1 ?_;refine .meet () trivial rfl (.get rfl (af.prop (by omega)) (.keep 2 rfl rfl))
  refine Z6 ?_;refine Cd (fun uC=>?_) fun uC=>?_
  ·
   refine Z1 ?_;refine .meet () trivial rfl (.get rfl (af.prop (by omega)) (.keep 4 rfl rfl))
  refine Z6 ?_;refine Cd (fun ye=>?_) fun ye=>?_
  ·
   refine Z1 ?_;refine .meet () trivial rfl (.get rfl (af.prop (by omega)) (.keep 6 rfl rfl))
  refine Z6 ?_;refine Cd (fun xx=>?_) fun xx=>?_
  ·
   refine Z1 ?_;refine .meet () trivial rfl (.get rfl (af.prop (by omega)) (.keep 8 rfl rfl))
  refine Z6 ?_;refine Cd (fun T6=>?_) fun T6=>?_
  ·
   refine Z1 ?_;refine .meet () trivial rfl (.get rfl (af.prop (by omega)) (.keep 10 rfl rfl))
  refine Z4 ?_;refine .meet () trivial rfl (.get rfl (af.prop (by omega)) (.keep 12 rfl rfl))
 intro _ _;refine Cd (fun Qz=>?_) fun Qz=>?_
 ·
  refine Z8 ?_;refine bB ?_;exact af.int (by unfold iq;repeat (first|rfl|rw[if_pos (by assumption)]|rw[if_neg (by assumption)]))
 refine Z9 ?_;refine bB ?_;exact af.int (by unfold iq;repeat (first|rfl|rw[if_pos (by assumption)]|rw[if_neg (by assumption)]))
variable {s:dD} {base:Int}
theorem qT{w:UInt8}(az:s.1.length≤60000):cv Tryz.prog 157 [aC (bg s base),ag .u8 ((w:UInt8).toNat:Int)] [] (γ:=dD×UInt8×Int) (Qx s w) (fun _=>[]) (fun g=>bE [aC (bg g.1 base),ag .u8 (g.2.1.toNat:Int),ag .i64 g.2.2]):=by
 refine In 52 Tryz.func157 fun _ _ _=>?_;obtain⟨sl,sd⟩:=s;simp only at az;refine Z2 ?_;refine .n (bW (.t rfl)) rfl fun b2 _=>?_;refine .n (au FZ.out) rfl fun b4 _=>?_;refine Ek ?_;refine Cd (fun c0=>?_) fun c0=>?_
 ·
  have Cy:sl=[]:=List.eq_nil_of_length_eq_zero (by have:(sl.length:Int)=0:=c0;omega);subst Cy;refine Z8 ?_;refine Cd (fun c1=>?_) fun c1=>?_
  ·
   refine cc ?_;refine Post.bk rfl rfl ((([],sd),0,5)) (by exact⟨.inr ⟨by show(5:Int)≠0;decide,Aj c1⟩,Nat.le_refl _⟩) (aB.dF [] [0,1] rfl rfl) rfl (.cons (.ra (i:=0) FA.out FC.out rfl rfl rfl rfl) ?_ (.cons (.rt rfl) ?_ (.cons (.rt rfl) ?_ .nil)))
   · exact af.refl _
   · exact af.refl _
   exact af.refl _
  refine jP ?_;refine Post.bk rfl rfl ((([],sd),w,0)) (by exact⟨.inl ⟨rfl,KU (Classical.not_not.1 c1)⟩,Nat.le_refl _⟩) (aB.dF [] [0,1] rfl rfl) rfl (.cons (.ra (i:=0) FA.out FC.out rfl rfl rfl rfl) ?_ (.cons (.rt rfl) ?_ (.cons (.rt rfl) ?_ .nil)))
  · exact af.refl _
  · exact af.refl _
  exact af.refl _
 obtain⟨l,x,rfl⟩:=vF (l:=sl) (fun e=>c0 (by rw[e];rfl));simp only[List.length_append,List.length_cons,List.length_nil] at az;refine Z7 ?_;refine .p (jZ (.t rfl) (.c _) (cn (by simp<;>omega) (by simp<;>omega))) rfl ?_;refine .p (cI l.length (h:=show(l++[x])[l.length]?=some x by simp) (hi:=by simp)) rfl ?_;refine Z6 ?_;refine .p (kM FU.out FC.out rfl FZ.out rfl) rfl ?_;refine Z3 ?_;refine .p (jZ (.t rfl) (.c _) (cn (by simp<;>omega) (by simp<;>omega))) rfl ?_;refine .p (wv (h:=l.length) FU.out FC.out rfl (.t rfl) (.t rfl) (by simp) (by simp)) rfl ?_;refine .p (sQ FU.out FU.out FC.out rfl FZ.out rfl FY.out (.t rfl) (.t rfl) (by simp<;>omega)) rfl ?_;refine Kx ?_;refine Cd (fun c2=>?_) fun c2=>?_
 ·
  refine cD ?_;refine Post.bk rfl rfl (((l,sd),0,5)) (by exact⟨.inr ⟨by show(5:Int)≠0;decide,S5 c2⟩,by(show l.length≤_;simp)⟩) (aB.dF [] [0,1] rfl rfl) rfl (.cons (.ra (i:=0) FA.out FC.out rfl rfl rfl rfl) ?_ (.cons (.rt rfl) ?_ (.cons (.rt rfl) ?_ .nil)))
  · exact af.agg (.cons (af.of_eq (by simp)) (.cons (af.refl _) (.cons (af.refl _) .nil)))
  · exact af.refl _
  exact af.refl _
 refine Z9 ?_;refine Cd (fun c3=>?_) fun c3=>?_
 ·
  refine cc ?_;refine Post.bk rfl rfl (((l,sd),w,0)) (by exact⟨.inl ⟨rfl,by rw[G8 c2,if_pos ((oJ x).1 c3)]⟩,by(show l.length≤_;simp)⟩) (aB.dF [] [0,1] rfl rfl) rfl (.cons (.ra (i:=0) FA.out FC.out rfl rfl rfl rfl) ?_ (.cons (.rt rfl) ?_ (.cons (.rt rfl) ?_ .nil)))
  · exact af.agg (.cons (af.of_eq (by simp)) (.cons (af.refl _) (.cons (af.refl _) .nil)))
  · exact af.refl _
  exact af.refl _
 refine dN ?_;refine Post.bk rfl rfl (((l,sd),x,0)) (by exact⟨.inl ⟨rfl,by rw[G8 c2,if_neg (fun e=>c3 ((oJ x).2 e))]⟩,by(show l.length≤_;simp)⟩) (aB.dF [] [0,1] rfl rfl) rfl (.cons (.ra (i:=0) FA.out FC.out rfl rfl rfl rfl) ?_ (.cons (.rt rfl) ?_ (.cons (.rt rfl) ?_ .nil)))
 · exact af.agg (.cons (af.of_eq (by simp)) (.cons (af.refl _) (.cons (af.refl _) .nil)))
 · exact af.refl _
 exact af.refl _
theorem bZ{l:List UInt8}(az:s.1.length≤60000):cv Tryz.prog 135 [aC (bg s base),ai 1 aj (l)] [] (γ:=dD×Int) (Q5 s l) (fun _=>[]) (fun g=>bE [aC (bg g.1 base),ag .i64 g.2]):=by
 refine In 30 Tryz.func135 fun _ _ _=>?_;refine .fact (t:=1) rfl (fun S w v h=>bn h) fun qY=>?_;refine Z2 ?_;refine .n (bW (.t rfl)) rfl fun b2 _=>?_;refine .n (au FZ.out) rfl fun b4 _=>?_;refine jP ?_;refine .own (aB.perm (Perm.idx [1,0] rfl rfl)) ?_;refine .aS (σ:=Nat×dD) (fun g=>[ax b2 (bg g.2 base),ax b4 (List.map aa [.slice none 0 0, .bool false, .int .i64 0])]) (fun g=>[(6,ag .i64 ((g.1:Int)-1))]) (fun g=>g.1≤l.length∧cU g.2 (l.take g.1)=cU s l∧g.2.1.length≤s.1.length) (fun g=>g.1) (l.length,s) ⟨Nat.le_refl _,by simp,Nat.le_refl _⟩ rfl ?_ ?_
 · exact(.get rfl (af.refl _) (.refl _ _))
 rintro⟨j,s1⟩ ⟨hj,hinv,Cy⟩;simp only at hj hinv Cy ⊢;refine Z7 ?_;refine Cd (fun c0=>?_) fun c0=>?_
 ·
  obtain⟨t,ht⟩:=ah (xs:=l) (k:=j-1) (by omega);have hjt:cU s1 (l.take j)=(jm s1 t).bind fun p=>cU p.1 (l.take (j-1)):=by(have h9:=PM (s:=s1) ht;rwa [show j-1+1=j by omega] at h9)
  refine cD ?_;refine .bP [(0,1),(1,0),(2,0),(3,0),(4,0),(5,2),(6,0),(7,0),(8,0),(9,0),(10,3)] 11 1 FM.out (by kernel_rfl) (k:= ?_);refine Z3 ?_;refine .p rfl (fun _=>aP (j:=j-1) FU.out FC.out rfl (.t rfl) (.t rfl) (by omega) ht) ?_;refine Z1 ?_;refine .e rfl (cE (h:=qT (s:=s1) (w:=t) (by omega))) fun g21 Ms=>?_;refine Z4 ?_;refine .s rfl (gJ (i:=0) FC.out rfl (.t rfl) (.t rfl) rfl rfl rfl) ?_;refine .fin ?_;refine Z9 ?_;refine Cd (fun c1=>?_) fun c1=>?_
  ·
   refine jb ?_;refine Post.bk rfl rfl ((g21.1,g21.2.2)) (by exact⟨.inr ⟨c1,by rw[←hinv,hjt,Ms.no c1];rfl⟩,Nat.le_trans Ms.2 Cy⟩) (aB.dF [] [0,1] rfl rfl) rfl (.cons (.ra (i:=1) FA.out FC.out rfl rfl rfl rfl) ?_ (.cons (.rt rfl) ?_ .nil))
   · exact af.refl _
   exact af.refl _
  refine Z8 ?_;refine .round (j-1,g21.1) ⟨by show j-1≤_;omega,by(show cU g21.1 _=_;rw[←hinv,hjt,Ms.ok (Classical.not_not.1 c1)];rfl),Nat.le_trans Ms.2 Cy⟩ (by show j-1<j;omega) rfl ?_;exact(.get rfl (af.int (by show(_:Int)=((j-1:Nat):Int)-1;omega)) ((.keep 21 rfl rfl)))
 have hj0:j=0:=by omega
 subst hj0;refine jP ?_;refine Post.bk rfl rfl ((s1,0)) (by exact⟨.inl ⟨rfl,by rw[←hinv];rfl⟩,Cy⟩) (aB.dF [] [0,1] rfl rfl) rfl (.cons (.ra (i:=1) FA.out FC.out rfl rfl rfl rfl) ?_ (.cons (.rt rfl) ?_ .nil))
 · exact af.refl _
 exact af.refl _
theorem dW{l:List UInt8}(az:s.1.length≤60000)(hp1:l.length≤60000):cv Tryz.prog 137 [aC (bg s base),ai 1 aj (l)] [] (γ:=Unit) (fun _=>True) (fun _=>[]) (fun _=>aC (bg (bG s l) base)):=by
 refine In 13 Tryz.func137 fun _ _ _=>?_;refine Z2 ?_;refine .n (bW (.t rfl)) rfl fun b2 _=>?_;refine .n (au FZ.out) rfl fun b4 _=>?_;refine Z4 ?_;refine .n (cg aj ([]:List UInt8) FU.out FC.out rfl FZ.out rfl .nil rfl rfl rfl rfl rfl) rfl fun g5 _=>?_;refine Z2 ?_;refine .n (aF (i:=0) FU.out FU.out FC.out rfl FZ.out rfl FY.out (.t rfl) (.t rfl) rfl (by simp<;>omega) (by simp<;>omega)) rfl fun g8 _=>?_;refine Z1 ?_;refine .n (fZ.eB (G:=fun g=>g) (hs1:=fun _=>_) (xs:=fun _=>_) (aF (i:=0) FU.out FU.out FC.out rfl FZ.out rfl FY.out (.t rfl) (.t rfl) rfl (by simp<;>omega) (by simp<;>omega))) rfl fun _ _=>?_;refine cc ?_;refine Post.aR rfl (()) (by trivial) (aB.dF [] [0,1] rfl rfl) (.ra (i:=0) FA.out FC.out rfl rfl rfl rfl) ?_;exact af.agg (.cons (af.of_eq (by simp[bG])) (.cons (af.refl _) (.cons (af.refl _) .nil)))
theorem qU:cv Tryz.prog 158 [aC (bg s base)] [] (γ:=Unit) (fun _=>True) (fun _=>[]) (fun _=>aC (bg eZ base)):=by
 refine In 6 Tryz.func158 fun _ _ _=>?_;refine Z3 ?_;refine .n (au FZ.out) rfl fun b2 _=>?_;refine cc ?_;refine Post.aR rfl (()) (by trivial) (aB.dF [] [0] rfl rfl) (.ra (i:=0) FA.out FC.out rfl rfl rfl rfl) ?_;exact af.agg (.cons (aI 1 aj) (.cons (af.refl _) (.cons (af.refl _) .nil)))
theorem Ka{a b:List UInt8}:cQ Tryz.prog 159 [ai 1 aj (a),ai 1 aj (b)] (ak (a=b)):=by
 refine In 10 Tryz.func159 fun _ _ _=>?_;refine AY ?_;refine bB ?_;exact af.refl _
variable {v:nS} {x:ay} {labs:List (List UInt8)}
theorem QA(az:o8 v x s labs)(hp1:x.Code=0):cv Tryz.prog 136 [aC (eH v),aC (aK x),aC (bg s base),ai 1 dV labs] [] (γ:=dD×Int) (yw s (iy v x s labs)) (fun _=>[]) (fun g=>bE [aC (bg g.1 base),ag .i64 g.2]):=by
 refine In 517 Tryz.func136 fun _ _ _=>?_;have hs5:=az.stk;have oR:=az.ins.A0;have D3:=az.ins.yq;have qY:=az.Ct;have hE:=az.env;have AI:=hE.F;have AJ:=hE.S;have D4:=hE.L;have D5:=hE.G;have rz:=hE.W;refine Z4 ?_;refine .n (bW (.t rfl)) rfl fun b6 _=>?_;refine .n (au FZ.out) rfl fun b8 _=>?_;refine BF ?_;refine CF fun c0=>?_;refine Z3 ?_;refine .n (cE (h:=qU (s:=s))) rfl fun g37 h37=>?_;refine Z7 ?_;refine Post.bk rfl rfl ((eZ,0)) (by exact uJ (TT hp1) (by simp[eZ])) (aB.dF [] [0,1] rfl rfl) rfl (.cons (.ra (i:=0) FA.out FC.out rfl rfl rfl rfl) ?_ (.cons (.rt rfl) ?_ .nil))
 · exact af.refl _
 exact af.refl _
theorem Nv(az:o8 v x s labs)(hp1:x.Code=12):cv Tryz.prog 136 [aC (eH v),aC (aK x),aC (bg s base),ai 1 dV labs] [] (γ:=dD×Int) (yw s (iy v x s labs)) (fun _=>[]) (fun g=>bE [aC (bg g.1 base),ag .i64 g.2]):=by
 refine In 517 Tryz.func136 fun _ _ _=>?_;have hs5:=az.stk;have oR:=az.ins.A0;have D3:=az.ins.yq;have qY:=az.Ct;have hE:=az.env;have AI:=hE.F;have AJ:=hE.S;have D4:=hE.L;have D5:=hE.G;have rz:=hE.W;refine Z4 ?_;refine .n (bW (.t rfl)) rfl fun b6 _=>?_;refine .n (au FZ.out) rfl fun b8 _=>?_;refine BF ?_;refine CT fun c0=>?_;refine Z7 ?_;refine CF fun c1=>?_;refine Z2 ?_;refine CF fun c2=>?_;refine cD ?_;refine Cd (fun c3=>?_) fun c3=>?_
 ·
  have hno:=vY (L:=labs) c3;refine cc ?_;refine Post.bk rfl rfl ((s,2)) (by exact er (by decide) (by rw[xb hp1,hno];rfl) (by omega)) (aB.dF [] [0,1] rfl rfl) rfl (.cons (.ra (i:=0) FA.out FC.out rfl rfl rfl rfl) ?_ (.cons (.rt rfl) ?_ .nil))
  · exact af.refl _
  exact af.refl _
 obtain⟨w,hw,p8⟩:=vX (L:=labs) oR c3;have hwl:w.length≤20:=az.lbw w (List.mem_of_getElem? p8);refine cc ?_;refine .p (cI (labs.length-1-x.A.toNat) (h:=p8)) rfl ?_;refine dN ?_;refine CT fun c4=>?_;refine Z6 ?_;refine .n (cE (h:=bZ (s:=s) (l:=w) (by omega))) rfl fun Vm Q3=>?_;refine jb ?_;refine Cd (fun c5=>?_) fun c5=>?_
 ·
  refine dN ?_;refine Post.bk rfl rfl (Vm) (by exact er c5 (by rw[xb hp1,hw,Option.bind_some,Q3.no c5];rfl) (by have:=Q3.2;omega)) (aB.dF [] [0,1] rfl rfl) rfl (.cons (.ra (i:=0) FA.out FC.out rfl rfl rfl rfl) ?_ (.cons (.rt rfl) ?_ .nil))
  · exact af.refl _
  exact af.refl _
 refine cD ?_;refine CF fun c6=>?_;refine Z3 ?_;refine .n (cE (h:=qU (s:=Vm.1))) rfl fun g84 XX=>?_;refine Z8 ?_;refine Post.bk rfl rfl ((eZ,0)) (by exact uJ (by rw[xb hp1,hw,Option.bind_some,Q3.ok (Classical.not_not.1 c5)];rfl) (by simp[eZ])) (aB.dF [] [0,1] rfl rfl) rfl (.cons (.ra (i:=0) FA.out FC.out rfl rfl rfl rfl) ?_ (.cons (.rt rfl) ?_ .nil))
 · exact af.refl _
 exact af.refl _
theorem Nw(az:o8 v x s labs)(hp1:x.Code=13):cv Tryz.prog 136 [aC (eH v),aC (aK x),aC (bg s base),ai 1 dV labs] [] (γ:=dD×Int) (yw s (iy v x s labs)) (fun _=>[]) (fun g=>bE [aC (bg g.1 base),ag .i64 g.2]):=by
 refine In 517 Tryz.func136 fun _ _ _=>?_;have hs5:=az.stk;have oR:=az.ins.A0;have D3:=az.ins.yq;have qY:=az.Ct;have hE:=az.env;have AI:=hE.F;have AJ:=hE.S;have D4:=hE.L;have D5:=hE.G;have rz:=hE.W;refine Z4 ?_;refine .n (bW (.t rfl)) rfl fun b6 _=>?_;refine .n (au FZ.out) rfl fun b8 _=>?_;refine BF ?_;refine CT fun c0=>?_;refine Z7 ?_;refine CT fun c1=>?_;refine Z5 ?_;refine CF fun c2=>?_;refine cD ?_;refine Cd (fun c3=>?_) fun c3=>?_
 ·
  have hno:=vY (L:=labs) c3;refine cc ?_;refine Post.bk rfl rfl ((s,2)) (by exact er (by decide) (by rw[sB hp1,hno];rfl) (by omega)) (aB.dF [] [0,1] rfl rfl) rfl (.cons (.ra (i:=0) FA.out FC.out rfl rfl rfl rfl) ?_ (.cons (.rt rfl) ?_ .nil))
  · exact af.refl _
  exact af.refl _
 obtain⟨w,hw,p8⟩:=vX (L:=labs) oR c3;have hwl:w.length≤20:=az.lbw w (List.mem_of_getElem? p8);refine cc ?_;refine .p (cI (labs.length-1-x.A.toNat) (h:=p8)) rfl ?_;refine dN ?_;refine CF fun c4=>?_;refine Z4 ?_;refine .p (cB aj [127]) rfl ?_;refine .n (cE (h:=bZ (s:=s) (l:=[127]) (by omega))) rfl fun g63 h63=>?_;refine jP ?_;refine Cd (fun c5=>?_) fun c5=>?_
 ·
  refine dN ?_;refine Post.bk rfl rfl (g63) (by exact er c5 (by rw[sB hp1,hw,Option.bind_some,pS,xw,h63.no c5];rfl) (by have:=h63.2;omega)) (aB.dF [] [0,1] rfl rfl) rfl (.cons (.ra (i:=0) FA.out FC.out rfl rfl rfl rfl) ?_ (.cons (.rt rfl) ?_ .nil))
  · exact af.refl _
  exact af.refl _
 refine Z6 ?_;refine .n (cE (h:=bZ (s:=g63.1) (l:=w) (by have:=h63.2;omega))) rfl fun Vm Q3=>?_;refine jb ?_;refine Cd (fun c6=>?_) fun c6=>?_
 ·
  refine dN ?_;refine Post.bk rfl rfl (Vm) (by exact er c6 (by rw[sB hp1,hw,Option.bind_some,pS,xw,h63.ok (Classical.not_not.1 c5),Option.bind_some,Q3.no c6];rfl) (by have:=h63.2;have:=Q3.2;omega)) (aB.dF [] [0,1] rfl rfl) rfl (.cons (.ra (i:=0) FA.out FC.out rfl rfl rfl rfl) ?_ (.cons (.rt rfl) ?_ .nil))
  · exact af.refl _
  exact af.refl _
 refine cD ?_;refine CT fun c7=>?_;refine Z6 ?_;refine .n (cE (h:=dW (s:=Vm.1) (l:=w) (by have:=h63.2;have:=Q3.2;omega) (by omega))) rfl fun g87 h87=>?_;refine Z7 ?_;refine Post.bk rfl rfl ((bG Vm.1 w,0)) (by exact uJ (by rw[sB hp1,hw,Option.bind_some,pS,xw,h63.ok (Classical.not_not.1 c5),Option.bind_some,Q3.ok (Classical.not_not.1 c6)];rfl) (by have:=h63.2;have:=Q3.2;simp only[bG,List.length_append];omega)) (aB.dF [] [0,1] rfl rfl) rfl (.cons (.ra (i:=0) FA.out FC.out rfl rfl rfl rfl) ?_ (.cons (.rt rfl) ?_ .nil))
 · exact af.refl _
 exact af.refl _
theorem Nx(az:o8 v x s labs)(hp1:x.Code=15):cv Tryz.prog 136 [aC (eH v),aC (aK x),aC (bg s base),ai 1 dV labs] [] (γ:=dD×Int) (yw s (iy v x s labs)) (fun _=>[]) (fun g=>bE [aC (bg g.1 base),ag .i64 g.2]):=by
 refine In 517 Tryz.func136 fun _ _ _=>?_;have hs5:=az.stk;have oR:=az.ins.A0;have D3:=az.ins.yq;have qY:=az.Ct;have hE:=az.env;have AI:=hE.F;have AJ:=hE.S;have D4:=hE.L;have D5:=hE.G;have rz:=hE.W;refine Z4 ?_;refine .n (bW (.t rfl)) rfl fun b6 _=>?_;refine .n (au FZ.out) rfl fun b8 _=>?_;refine BF ?_;refine CT fun c0=>?_;refine Z7 ?_;refine CT fun c1=>?_;refine Z5 ?_;refine CT fun c2=>?_;refine Z6 ?_;refine CT fun c3=>?_;refine Z6 ?_;refine CF fun c4=>?_;refine Z6 ?_;refine .n (cE (h:=bZ (s:=s) (l:=v.de.R) (by omega))) rfl fun Yd Vt=>?_;refine jb ?_;refine Cd (fun c5=>?_) fun c5=>?_
 ·
  refine dN ?_;refine Post.bk rfl rfl (Yd) (by exact er c5 (by rw[Dz hp1,Vt.no c5];rfl) (by have:=Vt.2;omega)) (aB.dF [] [0,1] rfl rfl) rfl (.cons (.ra (i:=0) FA.out FC.out rfl rfl rfl rfl) ?_ (.cons (.rt rfl) ?_ .nil))
  · exact af.refl _
  exact af.refl _
 refine Z5 ?_;refine .n (cE (h:=qU (s:=Yd.1))) rfl fun bC4 bC5=>?_;refine Z7 ?_;refine Post.bk rfl rfl ((eZ,0)) (by exact uJ (by rw[Dz hp1,Vt.ok (Classical.not_not.1 c5)];rfl) (by simp[eZ])) (aB.dF [] [0,1] rfl rfl) rfl (.cons (.ra (i:=0) FA.out FC.out rfl rfl rfl rfl) ?_ (.cons (.rt rfl) ?_ .nil))
 · exact af.refl _
 exact af.refl _
theorem Ny(az:o8 v x s labs)(hp1:x.Code=16):cv Tryz.prog 136 [aC (eH v),aC (aK x),aC (bg s base),ai 1 dV labs] [] (γ:=dD×Int) (yw s (iy v x s labs)) (fun _=>[]) (fun g=>bE [aC (bg g.1 base),ag .i64 g.2]):=by
 refine In 517 Tryz.func136 fun _ _ _=>?_;have hs5:=az.stk;have oR:=az.ins.A0;have D3:=az.ins.yq;have qY:=az.Ct;have hE:=az.env;have AI:=hE.F;have AJ:=hE.S;have D4:=hE.L;have D5:=hE.G;have rz:=hE.W;refine Z4 ?_;refine .n (bW (.t rfl)) rfl fun b6 _=>?_;refine .n (au FZ.out) rfl fun b8 _=>?_;refine BF ?_;refine CT fun c0=>?_;refine Z7 ?_;refine CT fun c1=>?_;refine Z5 ?_;refine CT fun c2=>?_;refine Z6 ?_;refine CT fun c3=>?_;refine Z6 ?_;refine CT fun c4=>?_;refine Z6 ?_;refine CF fun c5=>?_;refine dN ?_;refine Cd (fun c6=>?_) fun c6=>?_
 ·
  have hno:=jH (L:=v.aA) c6;refine cc ?_;refine Post.bk rfl rfl ((s,2)) (by exact er (by decide) (by rw[An hp1,hno];rfl) (by omega)) (aB.dF [] [0,1] rfl rfl) rfl (.cons (.ra (i:=0) FA.out FC.out rfl rfl rfl rfl) ?_ (.cons (.rt rfl) ?_ .nil))
  · exact af.refl _
  exact af.refl _
 obtain⟨sg,hw,p8⟩:=iZ (L:=v.aA) oR c6;refine Z3 ?_;have Q4:=hE.sf sg (List.mem_of_getElem? p8);refine .bP [(0,1),(1,0),(2,0),(3,0),(4,0),(5,0),(6,0),(7,0),(8,2),(9,0),(10,0),(11,0),(12,3)] 13 1 FM.out (by kernel_rfl) (k:= ?_);refine Z5 ?_;refine .p rfl (fun _=>aP (j:=x.A.toNat) FU.out FC.out rfl (.t rfl) (.t rfl) (by omega) p8) ?_;refine Z2 ?_;refine .e rfl (cE (h:=bZ (s:=s) (l:=sg.P) (by omega))) fun Vu Ye=>?_;refine Z3 ?_;refine .s rfl (gJ (i:=1) FC.out rfl (.t rfl) (.t rfl) rfl rfl rfl) ?_;refine .fin ?_;refine Z4 ?_;refine .bP [(0,1),(1,0),(2,0),(3,0),(4,0),(5,0),(6,0),(7,0),(9,0),(8,2),(10,3)] 11 1 FM.out (by kernel_rfl) (k:= ?_);refine Z5 ?_;refine .p rfl (fun _=>aP (j:=x.A.toNat) FU.out FC.out rfl (.t rfl) (.t rfl) (by omega) p8) ?_;refine Z3 ?_;refine .e rfl (cE (h:=dW (s:=Vu.1) (l:=sg.R) (by have:=Ye.2;omega) (by omega))) fun bC6 bC7=>?_;refine .s rfl (gJ (i:=0) FC.out rfl (.t rfl) (.t rfl) rfl rfl rfl) ?_;refine .fin ?_;refine Z6 ?_;refine Post.bk rfl rfl ((bG Vu.1 sg.R,Vu.2)) (by exact qS (by rw[An hp1,hw,Option.bind_some]) Ye Q4.2) (aB.dF [] [0,1] rfl rfl) rfl (.cons (.ra (i:=0) FA.out FC.out rfl rfl rfl rfl) ?_ (.cons (.rt rfl) ?_ .nil))
 · exact af.refl _
 exact af.refl _
theorem Nz(az:o8 v x s labs)(hp1:x.Code=26):cv Tryz.prog 136 [aC (eH v),aC (aK x),aC (bg s base),ai 1 dV labs] [] (γ:=dD×Int) (yw s (iy v x s labs)) (fun _=>[]) (fun g=>bE [aC (bg g.1 base),ag .i64 g.2]):=by
 refine In 517 Tryz.func136 fun _ _ _=>?_;have hs5:=az.stk;have oR:=az.ins.A0;have D3:=az.ins.yq;have qY:=az.Ct;have hE:=az.env;have AI:=hE.F;have AJ:=hE.S;have D4:=hE.L;have D5:=hE.G;have rz:=hE.W;refine Z4 ?_;refine .n (bW (.t rfl)) rfl fun b6 _=>?_;refine .n (au FZ.out) rfl fun b8 _=>?_;refine BF ?_;refine CT fun c0=>?_;refine Z7 ?_;refine CT fun c1=>?_;refine Z5 ?_;refine CT fun c2=>?_;refine Z6 ?_;refine CT fun c3=>?_;refine Z6 ?_;refine CT fun c4=>?_;refine Z6 ?_;refine CT fun c5=>?_;refine Z6 ?_;refine CT fun c6=>?_;refine Z6 ?_;refine CF fun c7=>?_;refine Z3 ?_;refine .n (cE (h:=qT (s:=s) (w:=0) (by omega))) rfl fun Vv Yf=>?_;refine Ek ?_;refine Post.bk rfl rfl ((Vv.1,Vv.2.2)) (by exact⟨by(rw[Jg hp1];rcases Yf.1 with⟨h1,h2⟩|⟨h1,h2⟩;exact .inl ⟨h1,by rw[h2];rfl⟩;exact .inr ⟨h1,by rw[h2];rfl⟩),by have:=Yf.2;(show Vv.1.1.length≤_;omega)⟩) (aB.dF [] [0,1] rfl rfl) rfl (.cons (.ra (i:=0) FA.out FC.out rfl rfl rfl rfl) ?_ (.cons (.rt rfl) ?_ .nil))
 · exact af.refl _
 exact af.refl _
theorem NA(az:o8 v x s labs)(hp1:x.Code=27):cv Tryz.prog 136 [aC (eH v),aC (aK x),aC (bg s base),ai 1 dV labs] [] (γ:=dD×Int) (yw s (iy v x s labs)) (fun _=>[]) (fun g=>bE [aC (bg g.1 base),ag .i64 g.2]):=by
 refine In 517 Tryz.func136 fun _ _ _=>?_;have hs5:=az.stk;have oR:=az.ins.A0;have D3:=az.ins.yq;have qY:=az.Ct;have hE:=az.env;have AI:=hE.F;have AJ:=hE.S;have D4:=hE.L;have D5:=hE.G;have rz:=hE.W;refine Z4 ?_;refine .n (bW (.t rfl)) rfl fun b6 _=>?_;refine .n (au FZ.out) rfl fun b8 _=>?_;refine BF ?_;refine CT fun c0=>?_;refine Z7 ?_;refine CT fun c1=>?_;refine Z5 ?_;refine CT fun c2=>?_;refine Z6 ?_;refine CT fun c3=>?_;refine Z6 ?_;refine CT fun c4=>?_;refine Z6 ?_;refine CT fun c5=>?_;refine Z6 ?_;refine CT fun c6=>?_;refine Z6 ?_;refine CT fun c7=>?_;refine Z6 ?_;refine CF fun c8=>?_;refine Z4 ?_;refine .p (cB aj [127]) rfl ?_;refine .n (cE (h:=bZ (s:=s) (l:=[127]) (by omega))) rfl fun Yg D6=>?_;refine jb ?_;refine Cd (fun c9=>?_) fun c9=>?_
 ·
  refine dN ?_;refine Post.bk rfl rfl (Yg) (by exact er c9 (by rw[uz hp1,D6.no c9];rfl) (by have:=D6.2;omega)) (aB.dF [] [0,1] rfl rfl) rfl (.cons (.ra (i:=0) FA.out FC.out rfl rfl rfl rfl) ?_ (.cons (.rt rfl) ?_ .nil))
  · exact af.refl _
  exact af.refl _
 refine cc ?_;refine .n (cE (h:=qT (s:=Yg.1) (w:=0) (by have:=D6.2;omega))) rfl fun S6 NB=>?_;refine AY ?_;refine Cd (fun nV=>?_) fun nV=>?_
 ·
  refine dN ?_;refine Post.bk rfl rfl ((S6.1,S6.2.2)) (by exact er nV (by rw[uz hp1,D6.ok (Classical.not_not.1 c9),Option.bind_some,NB.no nV];rfl) (by have:=D6.2;have:=NB.2;omega)) (aB.dF [] [0,1] rfl rfl) rfl (.cons (.ra (i:=0) FA.out FC.out rfl rfl rfl rfl) ?_ (.cons (.rt rfl) ?_ .nil))
  · exact af.refl _
  exact af.refl _
 refine Z6 ?_;refine .n (cE (h:=qT (s:=S6.1) (w:=S6.2.1) (by have:=D6.2;have:=NB.2;omega))) rfl fun Kb Vw=>?_;refine jP ?_;refine .p (cB aj [Kb.2.1]) rfl ?_;refine .n (cE (h:=dW (s:=Kb.1) (l:=[Kb.2.1]) (by have:=D6.2;have:=NB.2;have:=Vw.2;omega) (by simp))) rfl fun bC8 bC9=>?_;refine Z8 ?_;refine Post.bk rfl rfl ((bG Kb.1 [Kb.2.1],Kb.2.2)) (by exact⟨by(rw[uz hp1,D6.ok (Classical.not_not.1 c9),Option.bind_some,NB.ok (Classical.not_not.1 nV),Option.bind_some];rcases Vw.1 with⟨h1,h2⟩|⟨h1,h2⟩;exact .inl ⟨h1,by rw[h2];rfl⟩;exact .inr ⟨h1,by rw[h2];rfl⟩),by have:=D6.2;have:=NB.2;have:=Vw.2;(show(Kb.1.1++_).length≤_;rw[List.length_append];simp only[List.length_cons,List.length_nil];omega)⟩) (aB.dF [] [0,1] rfl rfl) rfl (.cons (.ra (i:=0) FA.out FC.out rfl rfl rfl rfl) ?_ (.cons (.rt rfl) ?_ .nil))
 · exact af.refl _
 exact af.refl _
theorem NC(az:o8 v x s labs)(hp1:x.Code=14):cv Tryz.prog 136 [aC (eH v),aC (aK x),aC (bg s base),ai 1 dV labs] [] (γ:=dD×Int) (yw s (iy v x s labs)) (fun _=>[]) (fun g=>bE [aC (bg g.1 base),ag .i64 g.2]):=by
 refine In 517 Tryz.func136 fun _ _ _=>?_;have hs5:=az.stk;have oR:=az.ins.A0;have D3:=az.ins.yq;have qY:=az.Ct;have hE:=az.env;have AI:=hE.F;have AJ:=hE.S;have D4:=hE.L;have D5:=hE.G;have rz:=hE.W;have hLn:=az.ins.Ln;refine Z4 ?_;refine .n (bW (.t rfl)) rfl fun b6 _=>?_;refine .n (au FZ.out) rfl fun b8 _=>?_;refine BF ?_;refine CT fun c0=>?_;refine Z7 ?_;refine CT fun c1=>?_;refine Z5 ?_;refine CT fun c2=>?_;refine Z6 ?_;refine CF fun c3=>?_;refine cD ?_;refine Cd (fun c4=>?_) fun c4=>?_
 ·
  have hno:=vY (L:=labs) c4;refine cc ?_;refine Post.bk rfl rfl ((s,2)) (by exact er (by decide) (by rw[mS hp1,hno];rfl) (by omega)) (aB.dF [] [0,1] rfl rfl) rfl (.cons (.ra (i:=0) FA.out FC.out rfl rfl rfl rfl) ?_ (.cons (.rt rfl) ?_ .nil))
  · exact af.refl _
  exact af.refl _
 obtain⟨w,hw,p8⟩:=vX (L:=labs) oR c4;have hwl:w.length≤20:=az.lbw w (List.mem_of_getElem? p8);refine cc ?_;refine .p (cI (labs.length-1-x.A.toNat) (h:=p8)) rfl ?_;refine cc ?_;refine .aS (σ:=Nat) (fun _=>[ax b8 (List.map aa [.slice none 0 0, .bool false, .int .i64 0]),ax b6 (bg s base)]) (fun k=>[(16,ag .i64 (k:Int))]) (fun k=>k≤x.L.length∧∀n∈x.L.take k,n<(labs.length:Int)) (fun k=>x.L.length-k) 0 ⟨Nat.zero_le _,by simp⟩ rfl ?_ ?_
 · exact(.get rfl (af.refl _) (.refl _ _))
 rintro k ⟨hk,hall⟩;refine cD ?_;refine Cd (fun c5=>?_) fun c5=>?_
 ·
  obtain⟨n,hn⟩:=ah (xs:=x.L) (k:=k) (by omega);have hn0:=az.ins.L0 n (List.mem_of_getElem? hn);refine Z9 ?_;refine .p (cI k (h:=hn)) rfl ?_;refine Z6 ?_;refine Cd (fun c6=>?_) fun c6=>?_
  ·
   refine kR ?_;refine Post.bk rfl rfl ((s,2)) (by exact er (by decide) (by rw[mS hp1,hw,Option.bind_some];exact if_neg (fun h=>by have h9:=h n (List.mem_of_getElem? hn);rw[vY c6] at h9;cases h9)) (by omega)) (aB.dF [] [0,1] rfl rfl) rfl (.cons (.ra (i:=0) FA.out FC.out rfl rfl rfl rfl) ?_ (.cons (.rt rfl) ?_ .nil))
   · exact af.refl _
   exact af.refl _
  refine Z8 ?_;refine .round (k+1) ⟨by omega,fun y hy=>by(rw[←bq hn] at hy;rcases List.mem_append.1 hy with hy|hy;exact hall y hy;(simp only[List.mem_singleton] at hy;subst hy;omega))⟩ (by omega) rfl ?_;exact(.get rfl (af.int (by omega)) ((.keep 17 rfl rfl)))
 have QB:∀n∈x.L,n<(labs.length:Int):=fun n hn=>hall n (by rw[List.take_of_length_le (by omega)];exact hn);refine dN ?_;refine .aS (σ:=Nat) (fun _=>[ax b8 (List.map aa [.slice none 0 0, .bool false, .int .i64 0]),ax b6 (bg s base)]) (fun k=>[(17,ag .i64 (k:Int))]) (fun k=>k≤x.L.length∧∀n∈x.L.take k,jq labs n=some w) (fun k=>x.L.length-k) 0 ⟨Nat.zero_le _,by simp⟩ rfl ?_ ?_
 · exact(.get rfl (af.refl _) (.refl _ _))
 rintro k ⟨hk,hall⟩;refine cD ?_;refine Cd (fun c7=>?_) fun c7=>?_
 ·
  obtain⟨n,hn⟩:=ah (xs:=x.L) (k:=k) (by omega);have hnm:=List.mem_of_getElem? hn;have hn0:=az.ins.L0 n hnm;have R6:=QB n hnm;obtain⟨w2,QZ,hw4⟩:=vX (L:=labs) hn0 (by omega);refine dN ?_;refine .p (cI k (h:=hn)) rfl ?_;refine Z3 ?_;refine .p (cI (labs.length-1-n.toNat) (h:=hw4)) rfl ?_;refine Z2 ?_;refine .p (cA (h:=Ka)) rfl ?_;refine Z3 ?_;refine Cd (fun c8=>?_) fun c8=>?_
  ·
   refine kR ?_;refine Post.bk rfl rfl ((s,5)) (by exact er (by decide) (by rw[mS hp1,hw,Option.bind_some];exact if_neg (fun h=>c8 (by have h9:=h n hnm;rw[QZ] at h9;exact Option.some.inj h9))) (by omega)) (aB.dF [] [0,1] rfl rfl) rfl (.cons (.ra (i:=0) FA.out FC.out rfl rfl rfl rfl) ?_ (.cons (.rt rfl) ?_ .nil))
   · exact af.refl _
   exact af.refl _
  refine Z8 ?_;refine .round (k+1) ⟨by omega,fun y hy=>by(rw[←bq hn] at hy;rcases List.mem_append.1 hy with hy|hy;exact hall y hy;(simp only[List.mem_singleton] at hy;subst hy;exact QZ.trans (by rw[Classical.not_not.1 c8])))⟩ (by omega) rfl ?_;exact(.get rfl (af.int (by omega)) ((.keep 24 rfl rfl)))
 have tQ:∀n∈x.L,jq labs n=some w:=fun n hn=>hall n (by rw[List.take_of_length_le (by omega)];exact hn);refine Z6 ?_;refine .CK (FR:=[ax b6 (bg s base)]) [(0,1),(2,0),(4,0),(5,0),(1,4),(3,4),(6,4),(7,4),(8,0),(9,0),(10,0),(11,3)] 12 1 FM.out (by kernel_rfl) ?_;refine .o rfl (gG (i:=0) FA.out FC.out rfl (.t rfl) rfl rfl) (aB.dF [1] [0] rfl rfl) ?_;refine Z2 ?_;refine .p rfl (fun _=>bI (enc:=aj) [127] FU.out FC.out rfl FZ.out rfl (.cons (.t rfl) .nil) rfl rfl rfl rfl rfl) ?_;refine .a rfl (cg aj ([]:List UInt8) FU.out FC.out rfl FZ.out rfl .nil rfl rfl rfl rfl rfl) (fun _ _=>(aB.dF [2] [0,1] rfl rfl)) fun ar3 _=>?_;refine .a rfl (aF (i:=0) FU.out FU.out FC.out rfl FZ.out rfl FY.out (.t rfl) (.t rfl) rfl (by simp<;>omega) (by simp<;>omega)) (fun _ _=>(aB.dF [2] [0,1] rfl rfl)) fun bD0 _=>?_;refine .a rfl (fZ.eB (G:=fun g=>g) (hs1:=fun _=>_) (xs:=fun _=>_) (aF (i:=0) FU.out FU.out FC.out rfl FZ.out rfl FY.out (.t rfl) (.t rfl) rfl (by simp<;>omega) (by simp<;>omega))) (fun _ _=>(aB.dF [1] [0] rfl rfl)) fun _ _=>?_;refine .a rfl (cE (h:=bZ (s:=s) (l:=([]++w)++[127]) (by omega))) (fun _ _=>(aB.dF [1] [0] rfl rfl)) fun Vx Vy=>?_;refine Z3 ?_;refine .s rfl (gJ (i:=1) FC.out rfl (.t rfl) (.t rfl) rfl rfl rfl) ?_;refine .fin ?_;refine cD ?_;refine Cd (fun c9=>?_) fun c9=>?_
 ·
  refine dN ?_;refine Post.bk rfl rfl (Vx) (by exact er c9 (by rw[mS hp1,hw,Option.bind_some];exact(if_pos tQ).trans (by rw[show cU s (w++[127])=none from Vy.no c9];rfl)) (by have:=Vy.2;omega)) (aB.dF [] [0,1] rfl rfl) rfl (.cons (.ra (i:=0) FA.out FC.out rfl rfl rfl rfl) ?_ (.cons (.rt rfl) ?_ .nil))
  · exact af.refl _
  exact af.refl _
 refine Z5 ?_;refine .n (cE (h:=qU (s:=Vx.1))) rfl fun bD1 bD2=>?_;refine Z7 ?_;refine Post.bk rfl rfl ((eZ,0)) (by exact uJ (by rw[mS hp1,hw,Option.bind_some];exact(if_pos tQ).trans (by rw[show cU s (w++[127])=some Vx.1 from Vy.ok (Classical.not_not.1 c9)];rfl)) (by simp[eZ])) (aB.dF [] [0,1] rfl rfl) rfl (.cons (.ra (i:=0) FA.out FC.out rfl rfl rfl rfl) ?_ (.cons (.rt rfl) ?_ .nil))
 · exact af.refl _
 exact af.refl _
theorem ND(az:o8 v x s labs)(hp1:x.Code=17):cv Tryz.prog 136 [aC (eH v),aC (aK x),aC (bg s base),ai 1 dV labs] [] (γ:=dD×Int) (yw s (iy v x s labs)) (fun _=>[]) (fun g=>bE [aC (bg g.1 base),ag .i64 g.2]):=by
 refine In 517 Tryz.func136 fun _ _ _=>?_;have hs5:=az.stk;have oR:=az.ins.A0;have D3:=az.ins.yq;have qY:=az.Ct;have hE:=az.env;have AI:=hE.F;have AJ:=hE.S;have D4:=hE.L;have D5:=hE.G;have rz:=hE.W;refine Z4 ?_;refine .n (bW (.t rfl)) rfl fun b6 _=>?_;refine .n (au FZ.out) rfl fun b8 _=>?_;refine BF ?_;refine CT fun c0=>?_;refine Z7 ?_;refine CT fun c1=>?_;refine Z5 ?_;refine CT fun c2=>?_;refine Z6 ?_;refine CT fun c3=>?_;refine Z6 ?_;refine CT fun c4=>?_;refine Z6 ?_;refine CT fun c5=>?_;refine Z6 ?_;refine CF fun c6=>?_;refine Z22 ?_;refine Cd (fun c7=>?_) fun c7=>?_
 ·
  refine cc ?_;refine Post.bk rfl rfl ((s,2)) (by exact er (by decide) (by(rw[xe hp1];rcases c7 with(h|h)|h;(rw[jH h];rfl);(cases eo v.bQ x.A with|none=>rfl|some g=>exact if_neg (fun h2=>h h2.1));(cases eo v.bQ x.A with|none=>rfl|some g=>exact if_neg (fun h2=>h h2.2)))) (by omega)) (aB.dF [] [0,1] rfl rfl) rfl (.cons (.ra (i:=0) FA.out FC.out rfl rfl rfl rfl) ?_ (.cons (.rt rfl) ?_ .nil))
  · exact af.refl _
  exact af.refl _
 obtain⟨sg,hw,p8⟩:=iZ (L:=v.bQ) oR (fun h=>c7 (.inl (.inl h)));have hxB:x.B=0:=Classical.byContradiction fun h=>c7 (.inl (.inr h));have hvT:v.Table:=Classical.byContradiction fun h=>c7 (.inr h);have Q4:=hE.ss sg (List.mem_of_getElem? p8);refine Z3 ?_;refine .CK (FR:=[ax b6 (bg s base)]) [(0,1),(2,0),(3,0),(4,0),(5,0),(6,0),(7,0),(8,0),(10,0),(11,0),(1,4),(9,4),(12,4),(13,4),(14,0),(15,0),(16,0),(17,3)] 18 1 FM.out (by kernel_rfl) ?_;refine .o rfl (gG (i:=0) FA.out FC.out rfl (.t rfl) rfl rfl) (aB.dF [1] [0] rfl rfl) ?_;refine Z4 ?_;refine .p rfl (fun _=>aP (j:=x.A.toNat) FU.out FC.out rfl (.t rfl) (.t rfl) (by omega) p8) ?_;refine Z3 ?_;refine .p rfl (fun _=>bI (enc:=aj) [127] FU.out FC.out rfl FZ.out rfl (.cons (.t rfl) .nil) rfl rfl rfl rfl rfl) ?_;refine .a rfl (cg aj ([]:List UInt8) FU.out FC.out rfl FZ.out rfl .nil rfl rfl rfl rfl rfl) (fun _ _=>(aB.dF [2] [0,1] rfl rfl)) fun bD3 _=>?_;refine .a rfl (aF (i:=0) FU.out FU.out FC.out rfl FZ.out rfl FY.out (.t rfl) (.t rfl) rfl (by simp<;>omega) (by simp<;>omega)) (fun _ _=>(aB.dF [2] [0,1] rfl rfl)) fun bD4 _=>?_;refine .a rfl (fZ.eB (G:=fun g=>g) (hs1:=fun _=>_) (xs:=fun _=>_) (aF (i:=0) FU.out FU.out FC.out rfl FZ.out rfl FY.out (.t rfl) (.t rfl) rfl (by simp<;>omega) (by simp<;>omega))) (fun _ _=>(aB.dF [1] [0] rfl rfl)) fun _ _=>?_;refine .a rfl (cE (h:=bZ (s:=s) (l:=([]++sg.P)++[127]) (by omega))) (fun _ _=>(aB.dF [1] [0] rfl rfl)) fun Vz Yh=>?_;refine Z3 ?_;refine .s rfl (gJ (i:=1) FC.out rfl (.t rfl) (.t rfl) rfl rfl rfl) ?_;refine .fin ?_;refine Z4 ?_;refine .bP [(0,1),(1,0),(2,0),(3,0),(4,0),(5,0),(6,0),(7,0),(9,0),(8,2),(10,3)] 11 1 FM.out (by kernel_rfl) (k:= ?_);refine Z5 ?_;refine .p rfl (fun _=>aP (j:=x.A.toNat) FU.out FC.out rfl (.t rfl) (.t rfl) (by omega) p8) ?_;refine Z3 ?_;refine .e rfl (cE (h:=dW (s:=Vz.1) (l:=sg.R) (by have:=Yh.2;omega) (by omega))) fun bD5 bD6=>?_;refine .s rfl (gJ (i:=0) FC.out rfl (.t rfl) (.t rfl) rfl rfl rfl) ?_;refine .fin ?_;refine Z6 ?_;refine Post.bk rfl rfl ((bG Vz.1 sg.R,Vz.2)) (by exact qS (i:=sg.P++[127]) (by rw[xe hp1,hw,Option.bind_some];exact if_pos ⟨hxB,hvT⟩) Yh Q4.2) (aB.dF [] [0,1] rfl rfl) rfl (.cons (.ra (i:=0) FA.out FC.out rfl rfl rfl rfl) ?_ (.cons (.rt rfl) ?_ .nil))
 · exact af.refl _
 exact af.refl _
theorem NF(az:o8 v x s labs)(hp1:x.Code=32):cv Tryz.prog 136 [aC (eH v),aC (aK x),aC (bg s base),ai 1 dV labs] [] (γ:=dD×Int) (yw s (iy v x s labs)) (fun _=>[]) (fun g=>bE [aC (bg g.1 base),ag .i64 g.2]):=by
 refine In 517 Tryz.func136 fun _ _ _=>?_;have hs5:=az.stk;have oR:=az.ins.A0;have D3:=az.ins.yq;have qY:=az.Ct;have hE:=az.env;have AI:=hE.F;have AJ:=hE.S;have D4:=hE.L;have D5:=hE.G;have rz:=hE.W;refine Z4 ?_;refine .n (bW (.t rfl)) rfl fun b6 _=>?_;refine .n (au FZ.out) rfl fun b8 _=>?_;refine BF ?_;refine CT fun c0=>?_;refine Z7 ?_;refine CT fun c1=>?_;refine Z5 ?_;refine CT fun c2=>?_;refine Z6 ?_;refine CT fun c3=>?_;refine Z6 ?_;refine CT fun c4=>?_;refine Z6 ?_;refine CT fun c5=>?_;refine Z6 ?_;refine CT fun c6=>?_;refine Z6 ?_;refine CT fun c7=>?_;refine Z6 ?_;refine CT fun c8=>?_;refine Z7 ?_;refine CF fun c9=>?_;refine Z2 ?_;refine CF fun nV=>?_;refine dN ?_;refine Cd (fun qI=>?_) fun qI=>?_
 ·
  have hno:=jH (L:=v.aW) qI;refine cc ?_;refine Post.bk rfl rfl ((s,2)) (by exact er (by decide) (by rw[DA hp1,hno];rfl) (by omega)) (aB.dF [] [0,1] rfl rfl) rfl (.cons (.ra (i:=0) FA.out FC.out rfl rfl rfl rfl) ?_ (.cons (.rt rfl) ?_ .nil))
  · exact af.refl _
  exact af.refl _
 obtain⟨t,hw,p8⟩:=iZ (L:=v.aW) oR qI;refine Z8 ?_;refine .p (cI x.A.toNat (h:=p8)) rfl ?_;refine Z1 ?_;refine .p (cB aj [t]) rfl ?_;refine cc ?_;refine CT fun tg=>?_;refine cD ?_;refine CF fun As=>?_;refine Z3 ?_;refine .n (cE (h:=dW (s:=s) (l:=[t]) (by omega) (by simp))) rfl fun ar4 ar5=>?_;refine jb ?_;refine Post.bk rfl rfl ((bG s [t],0)) (by exact uJ (by rw[DA hp1,hw];rfl) (by simp only[bG,List.length_append,List.length_cons,List.length_nil];omega)) (aB.dF [] [0,1] rfl rfl) rfl (.cons (.ra (i:=0) FA.out FC.out rfl rfl rfl rfl) ?_ (.cons (.rt rfl) ?_ .nil))
 · exact af.refl _
 exact af.refl _
theorem NG(az:o8 v x s labs)(hp1:x.Code=33):cv Tryz.prog 136 [aC (eH v),aC (aK x),aC (bg s base),ai 1 dV labs] [] (γ:=dD×Int) (yw s (iy v x s labs)) (fun _=>[]) (fun g=>bE [aC (bg g.1 base),ag .i64 g.2]):=by
 refine In 517 Tryz.func136 fun _ _ _=>?_;have hs5:=az.stk;have oR:=az.ins.A0;have D3:=az.ins.yq;have qY:=az.Ct;have hE:=az.env;have AI:=hE.F;have AJ:=hE.S;have D4:=hE.L;have D5:=hE.G;have rz:=hE.W;refine Z4 ?_;refine .n (bW (.t rfl)) rfl fun b6 _=>?_;refine .n (au FZ.out) rfl fun b8 _=>?_;refine BF ?_;refine CT fun c0=>?_;refine Z7 ?_;refine CT fun c1=>?_;refine Z5 ?_;refine CT fun c2=>?_;refine Z6 ?_;refine CT fun c3=>?_;refine Z6 ?_;refine CT fun c4=>?_;refine Z6 ?_;refine CT fun c5=>?_;refine Z6 ?_;refine CT fun c6=>?_;refine Z6 ?_;refine CT fun c7=>?_;refine Z6 ?_;refine CT fun c8=>?_;refine Z7 ?_;refine CT fun c9=>?_;refine Z6 ?_;refine CF fun nV=>?_;refine Z2 ?_;refine CF fun qI=>?_;refine dN ?_;refine Cd (fun tg=>?_) fun tg=>?_
 ·
  have hno:=jH (L:=v.aW) tg;refine cc ?_;refine Post.bk rfl rfl ((s,2)) (by exact er (by decide) (by rw[Ao hp1,hno];rfl) (by omega)) (aB.dF [] [0,1] rfl rfl) rfl (.cons (.ra (i:=0) FA.out FC.out rfl rfl rfl rfl) ?_ (.cons (.rt rfl) ?_ .nil))
  · exact af.refl _
  exact af.refl _
 obtain⟨t,hw,p8⟩:=iZ (L:=v.aW) oR tg;refine Z8 ?_;refine .p (cI x.A.toNat (h:=p8)) rfl ?_;refine Z1 ?_;refine .p (cB aj [t]) rfl ?_;refine cc ?_;refine CF fun As=>?_;refine Z3 ?_;refine .n (cE (h:=bZ (s:=s) (l:=[t]) (by omega))) rfl fun QC S7=>?_;refine kR ?_;refine CT fun uC=>?_;refine jP ?_;refine Post.bk rfl rfl (QC) (by exact Qy (by rw[Ao hp1,hw];rfl) S7) (aB.dF [] [0,1] rfl rfl) rfl (.cons (.ra (i:=0) FA.out FC.out rfl rfl rfl rfl) ?_ (.cons (.rt rfl) ?_ .nil))
 · exact af.refl _
 exact af.refl _
theorem NH(az:o8 v x s labs)(hp1:x.Code=34):cv Tryz.prog 136 [aC (eH v),aC (aK x),aC (bg s base),ai 1 dV labs] [] (γ:=dD×Int) (yw s (iy v x s labs)) (fun _=>[]) (fun g=>bE [aC (bg g.1 base),ag .i64 g.2]):=by
 refine In 517 Tryz.func136 fun _ _ _=>?_;have hs5:=az.stk;have oR:=az.ins.A0;have D3:=az.ins.yq;have qY:=az.Ct;have hE:=az.env;have AI:=hE.F;have AJ:=hE.S;have D4:=hE.L;have D5:=hE.G;have rz:=hE.W;refine Z4 ?_;refine .n (bW (.t rfl)) rfl fun b6 _=>?_;refine .n (au FZ.out) rfl fun b8 _=>?_;refine BF ?_;refine CT fun c0=>?_;refine Z7 ?_;refine CT fun c1=>?_;refine Z5 ?_;refine CT fun c2=>?_;refine Z6 ?_;refine CT fun c3=>?_;refine Z6 ?_;refine CT fun c4=>?_;refine Z6 ?_;refine CT fun c5=>?_;refine Z6 ?_;refine CT fun c6=>?_;refine Z6 ?_;refine CT fun c7=>?_;refine Z6 ?_;refine CT fun c8=>?_;refine Z7 ?_;refine CT fun c9=>?_;refine Z6 ?_;refine CT fun nV=>?_;refine Z5 ?_;refine CF fun qI=>?_;refine dN ?_;refine Cd (fun tg=>?_) fun tg=>?_
 ·
  have hno:=jH (L:=v.aW) tg;refine cc ?_;refine Post.bk rfl rfl ((s,2)) (by exact er (by decide) (by rw[Ap hp1,hno];rfl) (by omega)) (aB.dF [] [0,1] rfl rfl) rfl (.cons (.ra (i:=0) FA.out FC.out rfl rfl rfl rfl) ?_ (.cons (.rt rfl) ?_ .nil))
  · exact af.refl _
  exact af.refl _
 obtain⟨t,hw,p8⟩:=iZ (L:=v.aW) oR tg;refine Z8 ?_;refine .p (cI x.A.toNat (h:=p8)) rfl ?_;refine Z1 ?_;refine .p (cB aj [t]) rfl ?_;refine cc ?_;refine CF fun As=>?_;refine Z3 ?_;refine .n (cE (h:=bZ (s:=s) (l:=[t]) (by omega))) rfl fun QC S7=>?_;refine kR ?_;refine CF fun uC=>?_;refine Z3 ?_;refine .n (cE (h:=dW (s:=QC.1) (l:=[t]) (by have:=S7.2;omega) (by simp))) rfl fun ar4 ar5=>?_;refine jb ?_;refine Post.bk rfl rfl ((bG QC.1 [t],QC.2)) (by exact qS (by rw[Ap hp1,hw];rfl) S7 (by simp)) (aB.dF [] [0,1] rfl rfl) rfl (.cons (.ra (i:=0) FA.out FC.out rfl rfl rfl rfl) ?_ (.cons (.rt rfl) ?_ .nil))
 · exact af.refl _
 exact af.refl _
theorem NI(az:o8 v x s labs)(hp1:x.Code=35):cv Tryz.prog 136 [aC (eH v),aC (aK x),aC (bg s base),ai 1 dV labs] [] (γ:=dD×Int) (yw s (iy v x s labs)) (fun _=>[]) (fun g=>bE [aC (bg g.1 base),ag .i64 g.2]):=by
 refine In 517 Tryz.func136 fun _ _ _=>?_;have hs5:=az.stk;have oR:=az.ins.A0;have D3:=az.ins.yq;have qY:=az.Ct;have hE:=az.env;have AI:=hE.F;have AJ:=hE.S;have D4:=hE.L;have D5:=hE.G;have rz:=hE.W;refine Z4 ?_;refine .n (bW (.t rfl)) rfl fun b6 _=>?_;refine .n (au FZ.out) rfl fun b8 _=>?_;refine BF ?_;refine CT fun c0=>?_;refine Z7 ?_;refine CT fun c1=>?_;refine Z5 ?_;refine CT fun c2=>?_;refine Z6 ?_;refine CT fun c3=>?_;refine Z6 ?_;refine CT fun c4=>?_;refine Z6 ?_;refine CT fun c5=>?_;refine Z6 ?_;refine CT fun c6=>?_;refine Z6 ?_;refine CT fun c7=>?_;refine Z6 ?_;refine CT fun c8=>?_;refine Z7 ?_;refine CT fun c9=>?_;refine Z6 ?_;refine CT fun nV=>?_;refine Z5 ?_;refine CT fun qI=>?_;refine Z7 ?_;refine CF fun tg=>?_;refine Z2 ?_;refine CF fun As=>?_;refine dN ?_;refine Cd (fun uC=>?_) fun uC=>?_
 ·
  have hno:=jH (L:=v.an) uC;refine cc ?_;refine Post.bk rfl rfl ((s,2)) (by exact er (by decide) (by rw[DB hp1,hno];rfl) (by omega)) (aB.dF [] [0,1] rfl rfl) rfl (.cons (.ra (i:=0) FA.out FC.out rfl rfl rfl rfl) ?_ (.cons (.rt rfl) ?_ .nil))
  · exact af.refl _
  exact af.refl _
 obtain⟨t,hw,p8⟩:=iZ (L:=v.an) oR uC;refine Z8 ?_;refine .p (cI x.A.toNat (h:=p8)) rfl ?_;refine Z1 ?_;refine .p (cB aj [t]) rfl ?_;refine cc ?_;refine CF fun ye=>?_;refine Z4 ?_;refine .n (cE (h:=dW (s:=s) (l:=[t]) (by omega) (by simp))) rfl fun bD7 bD8=>?_;refine Z8 ?_;refine Post.bk rfl rfl ((bG s [t],0)) (by exact uJ (by rw[DB hp1,hw];rfl) (by simp only[bG,List.length_append,List.length_cons,List.length_nil];omega)) (aB.dF [] [0,1] rfl rfl) rfl (.cons (.ra (i:=0) FA.out FC.out rfl rfl rfl rfl) ?_ (.cons (.rt rfl) ?_ .nil))
 · exact af.refl _
 exact af.refl _
theorem NJ(az:o8 v x s labs)(hp1:x.Code=36):cv Tryz.prog 136 [aC (eH v),aC (aK x),aC (bg s base),ai 1 dV labs] [] (γ:=dD×Int) (yw s (iy v x s labs)) (fun _=>[]) (fun g=>bE [aC (bg g.1 base),ag .i64 g.2]):=by
 refine In 517 Tryz.func136 fun _ _ _=>?_;have hs5:=az.stk;have oR:=az.ins.A0;have D3:=az.ins.yq;have qY:=az.Ct;have hE:=az.env;have AI:=hE.F;have AJ:=hE.S;have D4:=hE.L;have D5:=hE.G;have rz:=hE.W;refine Z4 ?_;refine .n (bW (.t rfl)) rfl fun b6 _=>?_;refine .n (au FZ.out) rfl fun b8 _=>?_;refine BF ?_;refine CT fun c0=>?_;refine Z7 ?_;refine CT fun c1=>?_;refine Z5 ?_;refine CT fun c2=>?_;refine Z6 ?_;refine CT fun c3=>?_;refine Z6 ?_;refine CT fun c4=>?_;refine Z6 ?_;refine CT fun c5=>?_;refine Z6 ?_;refine CT fun c6=>?_;refine Z6 ?_;refine CT fun c7=>?_;refine Z6 ?_;refine CT fun c8=>?_;refine Z7 ?_;refine CT fun c9=>?_;refine Z6 ?_;refine CT fun nV=>?_;refine Z5 ?_;refine CT fun qI=>?_;refine Z7 ?_;refine CT fun tg=>?_;refine Z5 ?_;refine CF fun As=>?_;refine dN ?_;refine Cd (fun uC=>?_) fun uC=>?_
 ·
  have hno:=jH (L:=v.an) uC;refine cc ?_;refine Post.bk rfl rfl ((s,2)) (by exact er (by decide) (by rw[uA hp1,hno];rfl) (by omega)) (aB.dF [] [0,1] rfl rfl) rfl (.cons (.ra (i:=0) FA.out FC.out rfl rfl rfl rfl) ?_ (.cons (.rt rfl) ?_ .nil))
  · exact af.refl _
  exact af.refl _
 obtain⟨t,hw,p8⟩:=iZ (L:=v.an) oR uC;refine Z8 ?_;refine .p (cI x.A.toNat (h:=p8)) rfl ?_;refine Z1 ?_;refine .p (cB aj [t]) rfl ?_;refine cc ?_;refine CT fun ye=>?_;obtain⟨mu,hm,hm2⟩:=iZ (L:=v.eO) oR (by rw[hE.mu];exact uC);refine Z9 ?_;refine .p (cI x.A.toNat (h:=hm2)) rfl ?_;refine Z4 ?_;refine Cd (fun xx=>?_) fun xx=>?_
 ·
  refine cc ?_;refine Post.bk rfl rfl ((s,5)) (by exact er (by decide) (by rw[uA hp1,hw,Option.bind_some,hm,Option.bind_some];exact if_neg xx) (by omega)) (aB.dF [] [0,1] rfl rfl) rfl (.cons (.ra (i:=0) FA.out FC.out rfl rfl rfl rfl) ?_ (.cons (.rt rfl) ?_ .nil))
  · exact af.refl _
  exact af.refl _
 refine Z6 ?_;refine .n (cE (h:=bZ (s:=s) (l:=[t]) (by omega))) rfl fun ar6 ar7=>?_;refine Z9 ?_;refine Post.bk rfl rfl (ar6) (by exact Qy (by rw[uA hp1,hw,Option.bind_some,hm,Option.bind_some];exact if_pos (Classical.not_not.1 xx)) ar7) (aB.dF [] [0,1] rfl rfl) rfl (.cons (.ra (i:=0) FA.out FC.out rfl rfl rfl rfl) ?_ (.cons (.rt rfl) ?_ .nil))
 · exact af.refl _
 exact af.refl _
theorem He(az:o8 v x s labs)(hp1:¬fP x.Code)(hp2:¬ep x.Code)(fI:¬cL x.Code)(oe:aV x.Code<8∨10<aV x.Code):cv Tryz.prog 136 [aC (eH v),aC (aK x),aC (bg s base),ai 1 dV labs] [] (γ:=dD×Int) (yw s (iy v x s labs)) (fun _=>[]) (fun g=>bE [aC (bg g.1 base),ag .i64 g.2]):=by
 refine In 517 Tryz.func136 fun _ _ _=>?_;have hs5:=az.stk;have oR:=az.ins.A0;have D3:=az.ins.yq;have qY:=az.Ct;have hE:=az.env;have AI:=hE.F;have AJ:=hE.S;have D4:=hE.L;have D5:=hE.G;have rz:=hE.W;have hp1b:=hp1;have hp2b:=hp2;have hp3b:=fI;unfold fP at hp1b;unfold ep at hp2b;unfold cL at hp3b;have htl:=jG x.Code;refine Z4 ?_;refine .n (bW (.t rfl)) rfl fun b6 _=>?_;refine .n (au FZ.out) rfl fun b8 _=>?_;refine BF ?_;refine CT fun c0=>?_;refine Z7 ?_;refine CT fun c1=>?_;refine Z5 ?_;refine CT fun c2=>?_;refine Z6 ?_;refine CT fun c3=>?_;refine Z6 ?_;refine CT fun c4=>?_;refine Z6 ?_;refine CT fun c5=>?_;refine Z6 ?_;refine CT fun c6=>?_;refine Z6 ?_;refine CT fun c7=>?_;refine Z6 ?_;refine CT fun c8=>?_;refine Z7 ?_;refine CT fun c9=>?_;refine Z6 ?_;refine CT fun nV=>?_;refine Z5 ?_;refine CT fun qI=>?_;refine Z7 ?_;refine CT fun tg=>?_;refine Z5 ?_;refine CT fun As=>?_;refine Z7 ?_;refine .p (cA (h:=jx)) rfl ?_;refine Z7 ?_;refine .p (cA (h:=kG)) rfl ?_;refine BE ?_;refine Cd (fun uC=>?_) fun uC=>?_
 ·
  refine Z4 ?_;refine .n (cE (h:=bZ (s:=s) (l:=(aO x.Code).1) (by omega))) rfl fun VA Yi=>?_;refine cc ?_;refine .n (cE (h:=dW (s:=VA.1) (l:=(aO x.Code).2) (by have:=Yi.2;omega) (by omega))) rfl fun bD9 bE0=>?_;refine Z7 ?_;refine Post.bk rfl rfl ((bG VA.1 (aO x.Code).2,VA.2)) (by exact qS (Aq hp1 hp2 fI oe) Yi (by omega)) (aB.dF [] [0,1] rfl rfl) rfl (.cons (.ra (i:=0) FA.out FC.out rfl rfl rfl rfl) ?_ (.cons (.rt rfl) ?_ .nil))
  · exact af.refl _
  exact af.refl _
 exact absurd oe uC
end Go.Proofs.YtpfobikpggmleaaGreatDoor
end
