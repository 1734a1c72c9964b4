/-
  What the statement's proof leans on, several texts in one (packed by a program).
-/
import Derived.Test.YtpfobikpggmleaaGreatDoorSRQ
set_option linter.all false
set_option maxRecDepth 1000000
set_option maxHeartbeats 4000000
section
namespace Go.Hl
theorem nO {α:Type} {x:α} {r s:List α} (h:(x::r)<:+s):r<:+s:=(List.suffix_cons x r).trans h
theorem iZ {α:Type} {r s:List α} (h:r<:+s):r.length≤s.length:=h.length_le
theorem tq:∀(f:Nat) (s:List Int) (d:Nat) (r:List Int),dD f s d=some r→r<:+s:=by
 intro f
 induction f with
 |zero=>intro s d r h;simp [dD] at h
 | succ f ih =>
  intro s d r h
  cases s with
  |nil=>simp [dD] at h;subst h;exact List.suffix_refl _
  | cons c s =>
   simp only [dD] at h
   split at h
   · cases h;exact List.suffix_refl _
   split at h
   · split at h
     · cases h
     · split at h
       · cases h
       · cases h
       · rename_i c2 r2 h1
         have e1:=ih _ _ _ h1
         split at h
         · split at h
           · split at h
             · cases h
             · cases h
             · rename_i c3 r3 h2
               have e2:=ih _ _ _ h2
               split at h
               · cases h
               · exact ((ih _ _ _ h).trans (nO (e2.trans (nO e1)))).trans (List.suffix_cons _ _)
           · cases h
         · exact ((ih _ _ _ h).trans (nO e1)).trans (List.suffix_cons _ _)
   · exact (ih _ _ _ h).trans (List.suffix_cons _ _)
theorem lQ:∀(f g:Nat) (s:List Int) (d:Nat),s.length<f→s.length<g→dD f s d=dD g s d:=by
 intro f
 induction f with
 |zero=>intro g s d h;omega
 | succ f ih =>
  intro g s d h hg
  cases g with
  |zero=>omega
  | succ g =>
   cases s with
   |nil=>rfl
   | cons c s =>
    simp only [List.length_cons] at h hg
    have i1:dD f s (d+1)=dD g s (d+1):=ih g s _ (by omega) (by omega)
    have i2:dD f s d=dD g s d:=ih g s _ (by omega) (by omega)
    simp only [dD,i1,i2]
    split
    · rfl
    split
    · split
      · rfl
      · split
        · rfl
        · rfl
        · rename_i c2 r2 h1
          have l1:=iZ (tq _ _ _ _ h1)
          simp only [List.length_cons] at l1
          have i3:dD f r2 (d+1)=dD g r2 (d+1):=ih g r2 _ (by omega) (by omega)
          have i4:dD f r2 d=dD g r2 d:=ih g r2 _ (by omega) (by omega)
          rw [i3,i4]
          split
          · split
            · split
              · rfl
              · rfl
              · rename_i c3 r3 h2
                have l2:=iZ (tq _ _ _ _ h2)
                simp only [List.length_cons] at l2
                split
                · rfl
                · exact ih g r3 _ (by omega) (by omega)
            · rfl
          · rfl
    · rfl
section
variable {ι:Type} (cd:ι→Int) (rr:ι→List UInt8) (pl:ι→cU→List (List UInt8)→Option cU)
theorem jG:∀(f:Nat) (s:List ι) (labs:List (List UInt8)) (res:List UInt8) (st:cU) (base:Nat) (hs:List Nat) (rest:List ι),iP cd rr pl f s labs res st base=some (hs,rest)→rest<:+s:=by
 intro f
 induction f with
 |zero=>intro s _ _ _ _ _ _ h;simp [iP] at h
 | succ f ih=>
  intro s labs res st base hs rest h
  cases s with
  |nil=>simp [iP] at h;rw [←h.2];exact List.suffix_refl _
  | cons x s=>
   simp only [iP] at h
   split at h
   · split at h
     · cases h;exact List.suffix_refl _
     · cases h
   split at h
   · obtain ⟨s1,_,h⟩:=Option.bind_eq_some_iff.1 h
     obtain ⟨⟨oP,l1⟩,yc,h⟩:=Option.bind_eq_some_iff.1 h
     have e1:=ih _ _ _ _ _ _ _ yc
     cases l1 with
     |nil=>cases h
     |cons x2 r2=>
      simp only at h
      split at h
      · obtain ⟨⟨tE,l2⟩,MQ,h⟩:=Option.bind_eq_some_iff.1 h
        have e2:=ih _ _ _ _ _ _ _ MQ
        cases l2 with
        |nil=>cases h
        |cons x3 r3=>
         simp only at h
         obtain ⟨⟨Pm,l3⟩,Mb,h⟩:=Option.map_eq_some_iff.1 h
         cases h
         exact ((ih _ _ _ _ _ _ _ Mb).trans (nO (e2.trans (nO e1)))).trans (List.suffix_cons _ _)
      split at h
      · cases h
      · obtain ⟨⟨Pm,l3⟩,Mb,h⟩:=Option.map_eq_some_iff.1 h
        cases h
        exact ((ih _ _ _ _ _ _ _ Mb).trans (nO e1)).trans (List.suffix_cons _ _)
   · obtain ⟨s1,_,h⟩:=Option.bind_eq_some_iff.1 h
     obtain ⟨⟨oP,l1⟩,yc,h⟩:=Option.map_eq_some_iff.1 h
     cases h
     exact (ih _ _ _ _ _ _ _ yc).trans (List.suffix_cons _ _)
theorem uC:∀(f g:Nat) (s:List ι) (labs:List (List UInt8)) (res:List UInt8) (st:cU) (base:Nat),s.length<f→s.length<g→iP cd rr pl f s labs res st base=iP cd rr pl g s labs res st base:=by
 intro f
 induction f with
 |zero=>intro g s _ _ _ _ h;omega
 | succ f ih=>
  intro g s labs res st base h hg
  cases g with
  |zero=>omega
  | succ g=>
   cases s with
   |nil=>rfl
   | cons x s=>
    simp only [List.length_cons] at h hg
    simp only [iP]
    split
    · rfl
    split
    · refine Option.bind_congr fun s1 _=> ?_
      rw [ih g s _ _ _ _ (by omega) (by omega)]
      refine Option.bind_congr fun p hp=> ?_
      obtain ⟨oP,l1⟩:=p
      have e1:=iZ (jG cd rr pl _ _ _ _ _ _ _ _ hp)
      cases l1 with
      |nil=>rfl
      |cons x2 r2=>
       simp only [List.length_cons] at e1
       simp only
       split
       · rw [ih g r2 _ _ _ _ (by omega) (by omega)]
         refine Option.bind_congr fun p hp=> ?_
         obtain ⟨tE,l2⟩:=p
         have e2:=iZ (jG cd rr pl _ _ _ _ _ _ _ _ hp)
         cases l2 with
         |nil=>rfl
         |cons x3 r3=>
          simp only [List.length_cons] at e2
          simp only
          rw [ih g r3 _ _ _ _ (by omega) (by omega)]
       split
       · rfl
       · rw [ih g r2 _ _ _ _ (by omega) (by omega)]
    · refine Option.bind_congr fun s1 _=> ?_
      rw [ih g s _ _ _ _ (by omega) (by omega)]
noncomputable def Dw (s:List ι) (labs:List (List UInt8)) (res:List UInt8) (st:cU) (base:Nat):Option (List Nat×List ι):=iP cd rr pl (s.length+1) s labs res st base
def mG (s:List ι) (d:Nat):Prop:=∃gE,dD (s.length+1) (s.map cd) d=some gE∧gE≠[]
variable {cd rr pl} {x:ι} {r:List ι} {labs:List (List UInt8)} {res:List UInt8} {st:cU} {base d:Nat}
theorem Oj (h:cd x=11∨cd x=5) (hc:∃s',cF st res=some s'∧s'.1=[]):Dw cd rr pl (x::r) labs res st base=some ([base+st.1.length],x::r):=by
 simp only [Dw,iP,h,hc,if_true]
theorem Gg (h:cd x=11∨cd x=5) (hc:¬∃s',cF st res=some s'∧s'.1=[]):Dw cd rr pl (x::r) labs res st base=none:=by
 simp only [Dw,iP,h,if_true];rw [if_neg hc]
theorem Jy (h1:¬(cd x=11∨cd x=5)) (h2:¬aO (cd x)):Dw cd rr pl (x::r) labs res st base=(pl x st labs).bind fun s1=>(Dw cd rr pl r labs res s1 base).map fun p=>((base+st.1.length)::p.1,p.2):=by
 simp only [Dw,iP,h1,h2,if_false,List.length_cons]
theorem Mc (h1:¬(cd x=11∨cd x=5)) (h2:aO (cd x)):Dw cd rr pl (x::r) labs res st base=
    (if cd x=4 then cF st [127] else some st).bind fun s1=>
      (Dw cd rr pl r (labs++[if cd x=3 then [] else rr x]) (rr x) ([],False) (base+s1.1.length)).bind fun p=>
      match p.2 with
      |[]=>none
      | x2::r2=>
        if cd x2=5 then
          (Dw cd rr pl r2 (labs++[if cd x=3 then [] else rr x]) (rr x) ([],False) (base+s1.1.length)).bind fun p2=>
          match p2.2 with
          |[]=>none
          |_::r3=>(Dw cd rr pl r3 labs res (bq s1 (rr x)) base).map fun p3=>((base+st.1.length)::p.1++p2.1++p3.1,p3.2)
        else if cd x=4∧rr x≠[] then none
        else (Dw cd rr pl r2 labs res (bq s1 (rr x)) base).map fun p3=>((base+st.1.length)::p.1++p3.1,p3.2):=by
  simp only [Dw,iP,h1,h2,if_false,if_true,List.length_cons]
  refine Option.bind_congr fun s1 _=>Option.bind_congr fun p hp=> ?_
  obtain ⟨oP,l1⟩:=p
  have e1:=iZ (jG cd rr pl _ _ _ _ _ _ _ _ hp)
  cases l1 with
  |nil=>rfl
  | cons x2 r2=>
    simp only [List.length_cons] at e1
    simp only
    split
    · rw [uC cd rr pl (r.length+1) (r2.length+1) r2 _ _ _ _ (by omega) (by omega)]
      refine Option.bind_congr fun p hp=> ?_
      obtain ⟨tE,l2⟩:=p
      have e2:=iZ (jG cd rr pl _ _ _ _ _ _ _ _ hp)
      cases l2 with
      |nil=>rfl
      | cons x3 r3=>
        simp only [List.length_cons] at e2
        simp only
        rw [uC cd rr pl (r.length+1) (r3.length+1) r3 _ _ _ _ (by omega) (by omega)]
    split
    · rfl
    · rw [uC cd rr pl (r.length+1) (r2.length+1) r2 _ _ _ _ (by omega) (by omega)]
theorem uD:∀(f:Nat) (s:List ι) (d:Nat) (labs:List (List UInt8)) (res:List UInt8) (st:cU) (base:Nat) (hs:List Nat) (rest:List ι) (gE:List Int),s.length<f→dD f (s.map cd) d=some gE→iP cd rr pl f s labs res st base=some (hs,rest)→rest.map cd=gE:=by
 intro f
 induction f with
 |zero=>intro s d _ _ _ _ _ _ _ h;omega
 | succ f ih =>
  intro s d labs res st base hs rest gE h hr hb
  cases s with
  |nil=>simp only [iP,Option.some.injEq,Prod.mk.injEq] at hb;simp [dD] at hr;rw [hr,←hb.2];rfl
  | cons x r =>
   simp only [List.length_cons] at h
   simp only [List.map_cons,dD] at hr
   simp only [iP] at hb
   by_cases h1:cd x=11∨cd x=5
   · simp only [h1,if_true,Option.some.injEq] at hr hb
     split at hb
     · cases hb;rw [←hr];rfl
     · cases hb
   by_cases h2:aO (cd x)
   · simp only [h1,if_false,h2,if_true] at hr hb
     by_cases h3:64≤d
     · simp [h3] at hr
     simp only [h3,if_false] at hr
     obtain ⟨s1,_,hb⟩:=Option.bind_eq_some_iff.1 hb
     obtain ⟨⟨oP,l1⟩,yc,hb⟩:=Option.bind_eq_some_iff.1 hb
     cases DV:dD f (r.map cd) (d+1) with
     |none=>simp [DV] at hr
     | some CR=>
      simp only [DV] at hr
      have e1:=ih r (d+1) _ _ _ _ _ _ _ (by omega) DV yc
      have l1s:=iZ (jG cd rr pl _ _ _ _ _ _ _ _ yc)
      subst e1
      cases l1 with
      |nil=>cases hb
      | cons x2 r2=>
       simp only [List.length_cons] at l1s
       simp only [List.map_cons] at hr
       simp only at hb
       by_cases h5:cd x2=5
       · simp only [h5,if_true] at hr hb
         by_cases h4:cd x=4
         · simp only [h4,if_true] at hr
           obtain ⟨⟨tE,l2⟩,MQ,hb⟩:=Option.bind_eq_some_iff.1 hb
           cases Bo:dD f (r2.map cd) (d+1) with
           |none=>simp [Bo] at hr
           | some uZ=>
            simp only [Bo] at hr
            have e2:=ih r2 (d+1) _ _ _ _ _ _ _ (by omega) Bo MQ
            have l2s:=iZ (jG cd rr pl _ _ _ _ _ _ _ _ MQ)
            subst e2
            cases l2 with
            |nil=>cases hb
            |cons x3 r3=>
             simp only [List.length_cons] at l2s
             simp only [List.map_cons] at hr
             simp only at hb
             split at hr
             · cases hr
             · obtain ⟨⟨Pm,l3⟩,Mb,hb⟩:=Option.map_eq_some_iff.1 hb
               cases hb
               exact ih r3 d _ _ _ _ _ _ _ (by omega) hr Mb
         · simp [h4] at hr
       · simp only [h5,if_false] at hr hb
         split at hb
         · cases hb
         · obtain ⟨⟨Pm,l3⟩,Mb,hb⟩:=Option.map_eq_some_iff.1 hb
           cases hb
           exact ih r2 d _ _ _ _ _ _ _ (by omega) hr Mb
   · simp only [h1,if_false,h2] at hr hb
     obtain ⟨s1,_,hb⟩:=Option.bind_eq_some_iff.1 hb
     obtain ⟨⟨oP,l1⟩,yc,hb⟩:=Option.map_eq_some_iff.1 hb
     cases hb
     exact ih r d _ _ _ _ _ _ _ (by omega) hr yc
theorem Gh (h:mG cd (x::r) d) (h1:¬(cd x=11∨cd x=5)) (h2:¬aO (cd x)):mG cd r d:=by
 obtain ⟨gE,h3,h4⟩:=h
 simp only [List.length_cons,List.map_cons,dD,h1,h2,if_false] at h3
 exact ⟨gE,h3,h4⟩
theorem Ok (h:mG cd (x::r) d) (h2:aO (cd x)):mG cd r (d+1)∧¬64≤d:=by
 obtain ⟨gE,h3,h4⟩:=h
 have h1:¬(cd x=11∨cd x=5):=by unfold aO at h2;omega
 simp only [List.length_cons,List.map_cons,dD,h1,h2,if_false,if_true] at h3
 split at h3
 · cases h3
 · rename_i h5
   split at h3
   · cases h3
   · cases h3
   · rename_i c2 r2 h6
     exact ⟨⟨_,h6,by simp⟩,h5⟩
theorem Ol {labs':List (List UInt8)} {hs:List Nat} {l:List ι} (h:mG cd r d) (hb:Dw cd rr pl r labs res st base=some (hs,l)):∃x2 r2,l=x2::r2∧(x2::r2)<:+r:=by
 obtain ⟨gE,h3,h4⟩:=h
 have e:=uD _ _ _ _ _ _ _ _ _ _ (by omega) h3 hb
 have e2:=jG cd rr pl _ _ _ _ _ _ _ _ hb
 cases l with
 |nil=>exact absurd e.symm h4
 |cons x2 r2=>exact ⟨x2,r2,rfl,e2⟩
theorem sk {oP:List Nat} {x2:ι} {r2:List ι} (h:mG cd (x::r) d) (h2:aO (cd x)) (hb:Dw cd rr pl r labs res st base=some (oP,x2::r2)):
    (cd x2=11∧mG cd r2 d)∨(cd x2=5∧cd x=4∧mG cd r2 (d+1)∧∀labs' res' st' base' tE l2,Dw cd rr pl r2 labs' res' st' base'=some (tE,l2)→∃x3 r3,l2=x3::r3∧cd x3=11∧(x3::r3)<:+r2∧mG cd r3 d):=by
  obtain ⟨gE,h3,h4⟩:=h
  have h1:¬(cd x=11∨cd x=5):=by unfold aO at h2;omega
  simp only [List.length_cons,List.map_cons,dD,h1,h2,if_false,if_true] at h3
  split at h3
  · cases h3
  · rename_i h5
    have hd:d+1≤64:=by omega
    cases DV:dD (r.length+1) (r.map cd) (d+1) with
    |none=>simp [DV] at h3
    | some CR=>
      simp only [DV] at h3
      have e:=uD _ _ _ _ _ _ _ _ _ _ (by omega) DV hb
      have e2:=iZ (jG cd rr pl _ _ _ _ _ _ _ _ hb)
      have k1:=((lO (r.length+1) (r.map cd) (d+1) (by simp) hd).2 _ DV).2.1
      subst e
      simp only [List.length_cons] at e2
      simp only [List.map_cons] at h3 k1
      rcases k1 _ _ rfl with e5|e5
      · refine .inl ⟨e5, ?_⟩
        simp only [e5,show ¬((11:Int)=5) by decide,if_false] at h3
        exact ⟨gE,by rw [←h3];exact lQ _ _ _ _ (by simp) (by simp;omega),h4⟩
      · simp only [e5,if_true] at h3
        split at h3
        · rename_i e4
          refine .inr ⟨e5,e4, ?_⟩
          cases Bo:dD (r.length+1) (r2.map cd) (d+1) with
          |none=>simp [Bo] at h3
          | some uZ=>
            simp only [Bo] at h3
            have hr2':dD (r2.length+1) (r2.map cd) (d+1)=some uZ:=by rw [←Bo];exact lQ _ _ _ _ (by simp) (by simp;omega)
            have hne:uZ≠[]:=by intro e;subst e;cases h3
            refine ⟨⟨uZ,hr2',hne⟩,fun labs' res' st' base' tE l2 MQ=> ?_⟩
            have e7:=uD _ _ _ _ _ _ _ _ _ _ (by omega) hr2' MQ
            have e8:=jG cd rr pl _ _ _ _ _ _ _ _ MQ
            have k2:=((lO (r2.length+1) (r2.map cd) (d+1) (by simp) hd).2 _ hr2').2.1
            subst e7
            cases l2 with
            |nil=>exact absurd rfl hne
            | cons x3 r3=>
              have e9:=iZ e8
              simp only [List.length_cons] at e9
              simp only [List.map_cons] at h3 k2
              split at h3
              · cases h3
              · rename_i Y9
                refine ⟨x3,r3,rfl,(k2 _ _ rfl).resolve_right Y9,e8,⟨gE, ?_,h4⟩⟩
                rw [←h3];exact lQ _ _ _ _ (by simp) (by simp;omega)
        · cases h3
end
end Go.Hl
end
section
namespace Go.Hl
open Go.RowKit
def bW (l:List au):List Int:=l.map (·.Code)
def rc (s:List Int) (d:Nat):Option (List Int):=dD (s.length+1) s d
theorem Q2 {c:Int} {r:List Int} {d:Nat} (h:c=11∨c=5):rc (c::r) d=some (c::r):=by simp only [rc,List.length_cons,dD,h,if_true]
theorem Md {c:Int} {r:List Int} {d:Nat} (h:¬(c=11∨c=5)) (h2:¬aO c):rc (c::r) d=rc r d:=by simp only [rc,List.length_cons,dD,h,h2,if_false]
theorem Om {c:Int} {r:List Int} {d:Nat} (h2:aO c) (h3:64≤d):rc (c::r) d=none:=by
 have h:¬(c=11∨c=5):=by unfold aO at h2;omega
 simp only [rc,List.length_cons,dD,h,h2,h3,if_false,if_true]
theorem tr {c:Int} {r:List Int} {d:Nat} (h2:aO c) (h3:¬64≤d):rc (c::r) d=match rc r (d+1) with
    |none=>none
    |some []=>none
    |some (c2::r2)=>if c2=5 then (if c=4 then (match rc r2 (d+1) with|none=>none|some []=>none|some (c3::r3)=>if c3=5 then none else rc r3 d) else none) else rc r2 d:=by
  have h:¬(c=11∨c=5):=by unfold aO at h2;omega
  simp only [rc,List.length_cons,dD,h,h2,h3,if_false,if_true]
  cases hr:dD (r.length+1) r (d+1) with
  |none=>rfl
  | some s =>
    cases s with
    |nil=>rfl
    | cons c2 r2=>
      have e1:=iZ (tq _ _ _ _ hr)
      simp only [List.length_cons] at e1
      simp only
      rw [lQ (r.length+1) (r2.length+1) r2 (d+1) (by omega) (by omega),lQ (r.length+1) (r2.length+1) r2 d (by omega) (by omega)]
      split
      · split
        · cases Bo:dD (r2.length+1) r2 (d+1) with
          |none=>rfl
          | some s2=>
            cases s2 with
            |nil=>rfl
            | cons c3 r3=>
              have e2:=iZ (tq _ _ _ _ Bo)
              simp only [List.length_cons] at e2
              simp only
              rw [lQ (r.length+1) (r3.length+1) r3 d (by omega) (by omega)]
        · rfl
      · rfl
theorem On {s r:List Int} {c:Int} {d:Nat} (hd:d≤64) (h:rc s d=some (c::r)):c=11∨c=5:=((lO (s.length+1) s d (by omega) hd).2 _ h).2.1 c r rfl
theorem zH (l:List au):(bW l).length=l.length:=by simp [bW]
theorem eH {l:List au} {i:Nat} {x:au} (h:l[i]?=some x):(bW l).drop i=x.Code::(bW l).drop (i+1):=by
 refine vS ?_
 rw [bW,List.getElem?_map,h];rfl
theorem lR {l:List au} {i:Nat} (h:l.length≤i):(bW l).drop i=[]:=List.drop_eq_nil_of_le (by rw [zH];exact h)
def TH (l:List au) (a d:Nat) (en:Int) (sp:List yz) (e:Int):Prop:=
 (e=0∧∃n:Nat,en=(n:Int)∧rc ((bW l).drop a) d=some ((bW l).drop n)∧a≤n∧n≤l.length∧sp.length+a≤n)∨(e≠0∧rc ((bW l).drop a) d=none∧sp=[])
theorem vT {l:List au} {a d:Nat} {en:Int} {sp:List yz} {e:Int} (h:TH l a d en sp e):sp.length≤l.length:=by
 rcases h with ⟨_,n,_,_,_,h5,h6⟩|⟨_,_,h⟩
 · omega
 · rw [h];simp
def Za (l:List au) (i d:Nat) (en:Int) (sp:List yz) (e:Int):Prop:=
 (e≠0∧rc ((bW l).drop i) d=none∧sp.length≤20000)∨(e=0∧en=(l.length:Int)∧rc ((bW l).drop i) d=none∧sp.length≤20000)∨
 (e=0∧∃n:Nat,en=(n:Int)∧n<l.length∧rc ((bW l).drop i) d=rc ((bW l).drop (n+1)) d∧i+1≤n∧sp.length+i+1≤n)
theorem aB.none {α:Type} {n:Nat} {enc:α→List VP} {r:List HP}:aB r (av none n enc ([]:List α)::r):=fun F S w h=>⟨fun _=>False,F,fun _ h=>h.elim,fun _ h=>h,rfl,h⟩
section
variable {l:List au} {i d:Nat} {x:au}
theorem Gi (hx:l[i]?=some x) (ho:aO x.Code) (hd:¬64≤d) {n:Nat} {y:au} (hr:rc ((bW l).drop (i+1)) (d+1)=some ((bW l).drop n)) (hy:l[n]?=some y) (h5:y.Code=5) (h4:x.Code≠4):rc ((bW l).drop i) d=none:=by
 rw [eH hx,tr ho hd,hr,eH hy]
 simp only [h5,if_true,h4,if_false]
theorem Q3 {n:Nat} {y:au} (hx:l[i]?=some x) (ho:aO x.Code) (hd:¬64≤d) (hr:rc ((bW l).drop (i+1)) (d+1)=some ((bW l).drop n)) (hy:l[n]?=some y) (h5:y.Code=5) (h4:x.Code=4):
    rc ((bW l).drop i) d=match rc ((bW l).drop (n+1)) (d+1) with|none=>none|some []=>none|some (c3::r3)=>if c3=5 then none else rc r3 d:=by
  rw [eH hx,tr ho hd,hr,eH hy]
  simp only [h5,if_true,h4]
theorem Q4 {n:Nat} {y:au} (hx:l[i]?=some x) (ho:aO x.Code) (hd:¬64≤d) (hr:rc ((bW l).drop (i+1)) (d+1)=some ((bW l).drop n)) (hy:l[n]?=some y) (h5:y.Code≠5):
    rc ((bW l).drop i) d=rc ((bW l).drop (n+1)) d:=by
  rw [eH hx,tr ho hd,hr,eH hy]
  simp only [h5,if_false]
theorem Oo (hx:l[i]?=some x) (ho:aO x.Code) (hd:¬64≤d) (hr:rc ((bW l).drop (i+1)) (d+1)=none):rc ((bW l).drop i) d=none:=by
 rw [eH hx,tr ho hd,hr]
theorem Me (hx:l[i]?=some x) (ho:aO x.Code) (hd:¬64≤d) {n:Nat} (hn:l.length≤n) (hr:rc ((bW l).drop (i+1)) (d+1)=some ((bW l).drop n)):rc ((bW l).drop i) d=none:=by
 rw [eH hx,tr ho hd,hr,lR hn]
theorem Oq (hx:l[i]?=some x) (ho:aO x.Code) (hd:¬64≤d) {en e:Int} {sp:List yz} (h:TH l (i+1) (d+1) en sp e) (J9:l.length≤10000) (hn:¬((e=0∧en<(l.length:Int))∧(gI l en.toNat).Code=5)):Za l i d en sp e:=by
 rcases h with ⟨h1,n,h2,h3,h4,h5,h6⟩|⟨h1,h2,h3⟩
 · by_cases hlt:n<l.length
   · refine .inr (.inr ⟨h1,n,h2,hlt, ?_,h4,by omega⟩)
     have hy:l[n]?=some (gI l n):=tg hlt
     exact Q4 hx ho hd h3 hy (fun h9=>hn ⟨⟨h1,by omega⟩,by rw [h2];simpa using h9⟩)
   · exact .inr (.inl ⟨h1,by omega,Me hx ho hd (by omega) h3,by omega⟩)
 · exact .inl ⟨h1,Oo hx ho hd h2,by rw [h3];simp⟩
theorem Hu (hx:l[i]?=some x) (ho:aO x.Code) (hd:¬64≤d) (aZ0:d≤64) {en e Q5 e2:Int} {sp sp2:List yz} (h:TH l (i+1) (d+1) en sp e) (J9:l.length≤10000) (hn:(e=0∧en<(l.length:Int))∧(gI l en.toNat).Code=5) (h4:x.Code=4) (h':TH l (en.toNat+1) (d+1) Q5 sp2 e2):
    (((e2=0∧Q5<(l.length:Int))∧(gI l Q5.toNat).Code=5)→rc ((bW l).drop i) d=none)∧(¬((e2=0∧Q5<(l.length:Int))∧(gI l Q5.toNat).Code=5)→Za l i d Q5 (sp++sp2) e2):=by
  rcases h with ⟨_,n,h2,h3,h4',h5,h6⟩|⟨h1,h2,h3⟩
  · obtain ⟨⟨h1,h1'⟩,YL⟩:=hn
    have hlt:n<l.length:=by omega
    have hen:en.toNat=n:=by omega
    rw [hen] at YL h'
    have hy:l[n]?=some (gI l n):=tg hlt
    have hk:=Q3 hx ho hd h3 hy YL h4
    rw [hk]
    rcases h' with ⟨k1,n2,k2,k3,k4,k5,k6⟩|⟨k1,k2,k3⟩
    · by_cases TI:n2<l.length
      · have PC:l[n2]?=some (gI l n2):=tg TI
        have hn2:Q5.toNat=n2:=by omega
        rw [k3,eH PC]
        simp only
        refine ⟨fun h9=> ?_,fun h9=> ?_⟩
        · rw [if_pos (by rw [hn2] at h9;exact h9.2)]
        · refine .inr (.inr ⟨k1,n2,k2,TI, ?_,by omega,by rw [List.length_append];omega⟩)
          rw [hk,k3,eH PC]
          simp only
          rw [if_neg (fun h8=>h9 ⟨⟨k1,by omega⟩,by rw [hn2];exact h8⟩)]
      · have he:=lR (l:=l) (i:=n2) (by omega)
        rw [k3,he]
        refine ⟨fun _=>rfl,fun _=> .inr (.inl ⟨k1,by omega,by rw [hk,k3,he],by rw [List.length_append];omega⟩)⟩
    · rw [k2]
      exact ⟨fun _=>rfl,fun _=> .inl ⟨k1,by rw [hk,k2],by rw [List.length_append,k3];simp;omega⟩⟩
  · exact absurd hn.1.1 h1
end
theorem vU (l:List au):ey (bW l) []↔rc (bW l) 0=some [11]:=uq (by omega)
end Go.Hl
namespace Go.Hl
theorem vV (v:Int):v.tmod 128=if 0≤v then v%128 else-((-v)%128):=by
 split
 · rename_i h;exact Int.tmod_eq_emod_of_nonneg h
 · rename_i h
   have h1:v.tmod 128= -((-v).tmod 128):=by rw [Int.neg_tmod];omega
   rw [h1,Int.tmod_eq_emod_of_nonneg (by omega)]
theorem Ot {v:Int} (h1: -9223372036854775680≤v) (h2:v≤9223372036854775807):IntKind.i64.wrap ((IntKind.i64.wrap (v-v%128)).tdiv 128)=v/128:=by
 have hw:IntKind.i64.wrap (v-v%128)=128*(v/128):=by rw [eM (bN (by omega) (by omega))];omega
 rw [hw,Int.mul_tdiv_cancel_left _ (by decide)];exact eM (bN (by omega) (by omega))
theorem Jz {v:Int} (h:(v/128=0∧v%128<64)∨(v/128= -1∧64≤v%128)):jJ v=1:=s7 (by omega)
theorem Ou {v:Int} (h:¬((v/128=0∧v%128<64)∨(v/128= -1∧64≤v%128))):jJ v=jJ (v/128)+1:=xB (by omega)
theorem JA (t:UInt8):∀(n:Nat) (l:List UInt8),0<n→n≤l.length→(∀j,j<n→l[j]?=some t)→l[n]?≠some t→fI l=n::fI (l.drop n):=by
 intro n
 induction n with
 |zero=>intro l h;omega
 | succ n ih=>
  intro l _ hl ha hn
  cases l with
  |nil=>simp at hl
  |cons a l=>
   have h0:=ha 0 (by omega)
   simp only [List.getElem?_cons_zero,Option.some.injEq] at h0
   subst h0
   simp only [List.drop_succ_cons]
   by_cases h:n=0
   · subst h
     simp only [List.drop_zero]
     cases l with
     |nil=>rfl
     |cons b r=>
      have hb:b≠a:=fun e=>hn (by simp [e])
      obtain ⟨k,s,hk⟩:=xO b r
      have e:fI (a::b::r)=match fI (b::r) with|n::r=>if b=a then (n+1)::r else 1::n::r|_=>[1]:=by rw [fI.eq_def];simp only;split<;>simp_all
      rw [e,hk]
      simp only
      rw [if_neg hb]
   · have i1:=ih l (by omega) (by simp at hl;omega) (fun j hj=>by have:=ha (j+1) (by omega);simpa using this) (fun e=>hn (by simpa using e))
     cases l with
     |nil=>simp at hl;omega
     |cons b r=>
      have hb:b=a:=by have:=ha 1 (by omega);simpa using this
      have e:fI (a::b::r)=match fI (b::r) with|n::r=>if b=a then (n+1)::r else 1::n::r|_=>[1]:=by rw [fI.eq_def];simp only;split<;>simp_all
      rw [e,i1]
      simp only
      rw [if_pos hb]
def tu (p:List Nat):Nat:=(p.map fun n=>eK n+1).sum
theorem JB (p:List Nat) (n:Nat):tu (p++[n])=tu p+(eK n+1):=by simp [tu]
theorem Dx:∀(p:List Nat),(∀n∈p,n≤1000000)→tu p≤11*p.length
 |[],_=>by simp [tu]
 |n::p,h=>by
  have h1:=Dx p (fun q hq=>h q (List.mem_cons_of_mem _ hq))
  have h2:=h n (List.mem_cons_self ..)
  have h3:eK n≤10:=cZ (by omega)
  simp only [tu,List.map_cons,List.sum_cons,List.length_cons] at h1 ⊢
  omega
theorem Mf (b:jm):I4 b=eK (fI b.aS).length+tu (fI b.aS)+uz b.L:=rfl
theorem JC:fI []=[]:=rfl
end Go.Hl
namespace Go.Hl
theorem Mg {t:UInt8}:(t.toNat:Int)=126↔t=126:=by rw [←UInt8.toNat_inj];simp;omega
theorem Mh {t:UInt8}:(t.toNat:Int)=127↔t=127:=by rw [←UInt8.toNat_inj];simp;omega
def gU (l:List UInt8) (j:Nat):UInt8:=l.getD j 0
theorem Hv {l:List UInt8} {j:Nat} (h:j<l.length):l[j]?=some (gU l j):=by unfold gU;rw [List.getD_eq_getElem?_getD,List.getElem?_eq_getElem h];rfl
theorem Ov {l:List UInt8} {k k2:Nat} {t:UInt8} (hk:k<k2) (h2:k2≤l.length) (ha:∀j,j<k2-k→(l.drop k)[j]?=some t) (hn:¬((k2:Int)<(l.length:Int)∧((gU l k2).toNat:Int)=(t.toNat:Int))):fI (l.drop k)=(k2-k)::fI (l.drop k2):=by
 have h9:=JA t (k2-k) (l.drop k) (by omega) (by rw [List.length_drop];omega) ha (fun e=>by
  rw [List.getElem?_drop,show k+(k2-k)=k2 by omega] at e
  have hl:=(List.getElem?_eq_some_iff.1 e).1
  rw [Hv hl] at e
  exact hn ⟨by omega,by rw [Option.some.inj e]⟩)
 rw [List.drop_drop,show k+(k2-k)=k2 by omega] at h9
 exact h9
theorem Mi {l:List UInt8} {k k2:Nat} {t:UInt8} (hk:k≤k2) (ht:l[k]?=some t) (hn:¬((k2:Int)<(l.length:Int)∧((gU l k2).toNat:Int)=(t.toNat:Int))):k<k2:=by
 rcases Nat.lt_or_ge k k2 with h|h
 · exact h
 · have he:k2=k:=by omega
   subst he
   have hl:=(List.getElem?_eq_some_iff.1 ht).1
   rw [Hv hl] at ht
   exact absurd ⟨by omega,by rw [Option.some.inj ht]⟩ hn
end Go.Hl
end
section
namespace Go.Hl
open Go.RowKit
def aW (s:cU) (base:Int):List VP:=[ah 1 aj s.1,ak s.2,ag .i64 base]
instance (s:cU) (base:Int):bC (aW s base):=⟨fun q h=>by simp only [aW,List.mem_cons,List.not_mem_nil,or_false] at h;rcases h with h|h|h<;>subst h<;>infer_instance⟩
def nP (p:Prop):List VP:=[ak p]
instance:gN 1 nP:=⟨fun _=>rfl,fun x q h=>by simp only [nP,List.mem_cons,List.not_mem_nil,or_false] at h;subst h;infer_instance⟩
def dU (v:mw):List VP:=[ah 2 cj v.ax,ah 2 cj v.bF,ah 1 nP v.bE,ah 1 aj v.ay,ah 1 nP v.eI,ak v.Table,ah 1 aj v.cL.P,ah 1 aj v.cL.R,ah 1 aj v.aS]
instance (v:mw):bC (dU v):=⟨fun q h=>by simp only [dU,List.mem_cons,List.not_mem_nil,or_false] at h;rcases h with h|h|h|h|h|h|h|h|h<;>subst h<;>infer_instance⟩
instance {cs:List VP} {q:VP} {n:Nat} [h:bC cs] [h2:Flat q]:bC (cs.set n q):=⟨fun p hp=>(List.mem_or_eq_of_mem_set hp).elim (h.flat p) (fun e=>e▸h2)⟩
def Zb (o:Option cU) (g:cU×Int):Prop:=(g.2=0∧o=some g.1)∨(g.2≠0∧o=none)
def MR (s:cU) (l:List UInt8) (g:cU×Int):Prop:=Zb (cF s l) g∧g.1.1.length≤s.1.length
def Mj (s:cU) (w:UInt8) (g:cU×UInt8×Int):Prop:=((g.2.2=0∧hH s w=some (g.1,g.2.1))∨(g.2.2≠0∧hH s w=none))∧g.1.1.length≤s.1.length
variable {s:cU} {g:cU×Int} {l:List UInt8}
theorem MR.ok (h:MR s l g) (he:g.2=0):cF s l=some g.1:=h.1.elim (fun h=>h.2) (fun h=>absurd he h.1)
theorem MR.no (h:MR s l g) (he:g.2≠0):cF s l=none:=h.1.elim (fun h=>absurd h.1 he) (fun h=>h.2)
variable {w:UInt8}
theorem Mj.ok {g:cU×UInt8×Int} (h:Mj s w g) (he:g.2.2=0):hH s w=some (g.1,g.2.1):=h.1.elim (fun h=>h.2) (fun h=>absurd he h.1)
theorem Mj.no {g:cU×UInt8×Int} (h:Mj s w g) (he:g.2.2≠0):hH s w=none:=h.1.elim (fun h=>absurd h.1 he) (fun h=>h.2)
variable {i:List UInt8}
theorem TJ {o:List UInt8} (h:MR s i g):Zb (nL s i o) (bq g.1 o,g.2):=by
 unfold nL
 rcases h.1 with ⟨h1,h2⟩|⟨h1,h2⟩
 · exact .inl ⟨h1,by rw [h2];rfl⟩
 · exact .inr ⟨h1,by rw [h2];rfl⟩
def vu (s:cU) (o:Option cU) (g:cU×Int):Prop:=Zb o g∧g.1.1.length≤s.1.length+20
theorem dN {o:Option cU} {t:cU} {e:Int} (he:e≠0) (h:o=none) (hl:t.1.length≤s.1.length+20):vu s o (t,e):=⟨.inr ⟨he,h⟩,hl⟩
theorem sn {o:Option cU} {t:cU} (h:o=some t) (hl:t.1.length≤s.1.length+20):vu s o (t,0):=⟨.inl ⟨rfl,h⟩,hl⟩
theorem oJ {o:List UInt8} {p:Option cU} (hp:p=nL s i o) (h:MR s i g) (ho:o.length≤20):vu s p (bq g.1 o,g.2):=
 ⟨by rw [hp];exact TJ h,by have:=h.2;simp only [bq,List.length_append];omega⟩
theorem Mk {p:Option cU} (hp:p=cF s i) (h:MR s i g):vu s p g:=⟨by rw [hp];exact h.1,by have:=h.2;omega⟩
theorem uE (s:cU) (l:List UInt8) (t:UInt8):cF s (l++[t])=(cF s [t]).bind fun p=>cF p l:=by
 rw [ig,fm];cases hH s t<;>rfl
theorem so {w:Prop} (h:w):bL w=126:=if_pos h
theorem sq {w:Prop} (h:¬w):bL w=127:=if_neg h
theorem Zc {k:Nat} (h:k≤31):(0:Int)<2^k∧(2:Int)^k≤2147483648:=by
 have h1:(2:Int)^k=((2^k:Nat):Int):=by norm_cast
 have h2:2^k≤2^31:=Nat.pow_le_pow_right (by decide) h
 have h3:0<2^k:=Nat.two_pow_pos k
 rw [h1];omega
structure Gj (v:mw):Prop where
 F:v.ax.length≤60000
 S:v.bF.length≤60000
 L:v.aS.length≤60000
 G:v.ay.length≤60000
 W:v.bE.length≤60000
 mu:v.eI.length=v.ay.length
 sf:∀g∈v.ax,g.P.length≤20∧g.R.length≤20
 ss:∀g∈v.bF,g.P.length≤20∧g.R.length≤20
 own:v.cL.R.length≤20
structure nq (v:mw) (x:au) (s:cU) (labs:List (List UInt8)):Prop where
 env:Gj v
 ins:lA x
 stk:s.1.length≤50000
 zI:labs.length≤60000
 Zd:∀w∈labs,w.length≤20
variable {n:Int}
theorem gK {α:Type} {L:List α} (h0:0≤n) (h:¬n≥(L.length:Int)):∃w,dL L n=some w∧L[n.toNat]?=some w:=s9 h0 (by omega)
theorem tv {L:List (List UInt8)} (h0:0≤n) (h:¬n≥(L.length:Int)):∃w,hU L n=some w∧L[L.length-1-n.toNat]?=some w:=C4 h0 (by omega)
theorem iF {α:Type} {L:List α} (h:n≥(L.length:Int)):dL L n=none:=ta (by omega)
theorem tw {L:List (List UInt8)} (h:n≥(L.length:Int)):hU L n=none:=zy (by omega)
theorem Ow {d:Prop} {g:UInt8} (h:(((g.toNat:Int)≠0)∧((w.toNat:Int)≠0))∧((g.toNat:Int)≠(w.toNat:Int))):hH (l++[g],d) w=none:=
 u9 fun e=>by
  obtain ⟨⟨h1,h2⟩,h3⟩:=h
  rcases e with e|e|e
  · exact h3 (by rw [e])
  · exact h1 (by rw [e];rfl)
  · exact h2 (by rw [e];rfl)
theorem Dy {d:Prop} {g:UInt8} (h:¬((((g.toNat:Int)≠0)∧((w.toNat:Int)≠0))∧((g.toNat:Int)≠(w.toNat:Int)))):hH (l++[g],d) w=some ((l,d),if g=0 then w else g):=by
 refine xF (Classical.byContradiction fun e=>h ⟨⟨fun h1=> ?_,fun h1=> ?_⟩,fun h1=> ?_⟩)
 · exact e (.inr (.inl ((mT g).1 h1)))
 · exact e (.inr (.inr ((mT w).1 h1)))
 · exact e (.inl (zh.1 h1))
end Go.Hl
end
section
namespace Go.Proofs.YtpfobikpggmleaaGreatDoor
open Go.Hl Go.RowKit
variable {code:Int}
theorem Gk:cQ Tryz.prog 131 [ag .i64 code] (cM (hJ code)):=by
 refine In 20 Tryz.func131 fun _ _ _=> ?_
 refine Z2 ?_
 refine .p (aX (.s [] rfl rfl)) rfl ?_
 refine mM ?_
 refine Cd (fun c0=> ?_) fun c0=> ?_
 ·
  refine Z2 ?_
  refine .p (aX (.s [109,101,109,111,114,121,46,99,111,112,121] rfl rfl)) rfl ?_
  refine Z5 ?_
  refine bJ ?_
  exact aa.of_eq (by unfold hJ;rw [if_pos c0])
 refine Z6 ?_
 refine Cd (fun c1=> ?_) fun c1=> ?_
 ·
  refine Z2 ?_
  refine .p (aX (.s [109,101,109,111,114,121,46,102,105,108,108] rfl rfl)) rfl ?_
  refine Z5 ?_
  refine bJ ?_
  exact aa.of_eq (by unfold hJ;rw [if_neg c0,if_pos c1])
 refine iw ?_
 refine Cd (fun c2=> ?_) fun c2=> ?_
 ·
  refine Z2 ?_
  refine .p (aX (.s [] rfl rfl)) rfl ?_
  refine Z4 ?_
  refine bJ ?_
  exact aa.of_eq (by unfold hJ;rw [if_neg c0,if_neg c1,if_pos c2])
 refine Z4 ?_
 refine .p (bu (enc:=iX) xw FU.out FC.out rfl FZ.out rfl (.cons (.s [117,110,114,101,97,99,104,97,98,108,101] rfl rfl) (.cons (.s [110,111,112] rfl rfl) (.cons (.s [98,108,111,99,107] rfl rfl) (.cons (.s [108,111,111,112] rfl rfl) (.cons (.s [105,102] rfl rfl) (.cons (.s [101,108,115,101] rfl rfl) (.cons (.s [] rfl rfl) (.cons (.s [] rfl rfl) (.cons (.s [] rfl rfl) (.cons (.s [] rfl rfl) (.cons (.s [] rfl rfl) (.cons (.s [101,110,100] rfl rfl) (.cons (.s [98,114] rfl rfl) (.cons (.s [98,114,95,105,102] rfl rfl) (.cons (.s [98,114,95,116,97,98,108,101] rfl rfl) (.cons (.s [114,101,116,117,114,110] rfl rfl) (.cons (.s [99,97,108,108] rfl rfl) (.cons (.s [99,97,108,108,95,105,110,100,105,114,101,99,116] rfl rfl) (.cons (.s [] rfl rfl) (.cons (.s [] rfl rfl) (.cons (.s [] rfl rfl) (.cons (.s [] rfl rfl) (.cons (.s [] rfl rfl) (.cons (.s [] rfl rfl) (.cons (.s [] rfl rfl) (.cons (.s [] rfl rfl) (.cons (.s [100,114,111,112] rfl rfl) (.cons (.s [115,101,108,101,99,116] rfl rfl) (.cons (.s [] rfl rfl) (.cons (.s [] rfl rfl) (.cons (.s [] rfl rfl) (.cons (.s [] rfl rfl) (.cons (.s [108,111,99,97,108,46,103,101,116] rfl rfl) (.cons (.s [108,111,99,97,108,46,115,101,116] rfl rfl) (.cons (.s [108,111,99,97,108,46,116,101,101] rfl rfl) (.cons (.s [103,108,111,98,97,108,46,103,101,116] rfl rfl) (.cons (.s [103,108,111,98,97,108,46,115,101,116] rfl rfl) (.cons (.s [] rfl rfl) (.cons (.s [] rfl rfl) (.cons (.s [] rfl rfl) (.cons (.s [105,51,50,46,108,111,97,100] rfl rfl) (.cons (.s [105,54,52,46,108,111,97,100] rfl rfl) (.cons (.s [] rfl rfl) (.cons (.s [] rfl rfl) (.cons (.s [105,51,50,46,108,111,97,100,56,95,115] rfl rfl) (.cons (.s [105,51,50,46,108,111,97,100,56,95,117] rfl rfl) (.cons (.s [105,51,50,46,108,111,97,100,49,54,95,115] rfl rfl) (.cons (.s [105,51,50,46,108,111,97,100,49,54,95,117] rfl rfl) (.cons (.s [105,54,52,46,108,111,97,100,56,95,115] rfl rfl) (.cons (.s [105,54,52,46,108,111,97,100,56,95,117] rfl rfl) (.cons (.s [105,54,52,46,108,111,97,100,49,54,95,115] rfl rfl) (.cons (.s [105,54,52,46,108,111,97,100,49,54,95,117] rfl rfl) (.cons (.s [105,54,52,46,108,111,97,100,51,50,95,115] rfl rfl) (.cons (.s [105,54,52,46,108,111,97,100,51,50,95,117] rfl rfl) (.cons (.s [105,51,50,46,115,116,111,114,101] rfl rfl) (.cons (.s [105,54,52,46,115,116,111,114,101] rfl rfl) (.cons (.s [] rfl rfl) (.cons (.s [] rfl rfl) (.cons (.s [105,51,50,46,115,116,111,114,101,56] rfl rfl) (.cons (.s [105,51,50,46,115,116,111,114,101,49,54] rfl rfl) (.cons (.s [105,54,52,46,115,116,111,114,101,56] rfl rfl) (.cons (.s [105,54,52,46,115,116,111,114,101,49,54] rfl rfl) (.cons (.s [105,54,52,46,115,116,111,114,101,51,50] rfl rfl) (.cons (.s [109,101,109,111,114,121,46,115,105,122,101] rfl rfl) (.cons (.s [109,101,109,111,114,121,46,103,114,111,119] rfl rfl) (.cons (.s [105,51,50,46,99,111,110,115,116] rfl rfl) (.cons (.s [105,54,52,46,99,111,110,115,116] rfl rfl) (.cons (.s [] rfl rfl) (.cons (.s [] rfl rfl) (.cons (.s [105,51,50,46,101,113,122] rfl rfl) (.cons (.s [105,51,50,46,101,113] rfl rfl) (.cons (.s [105,51,50,46,110,101] rfl rfl) (.cons (.s [105,51,50,46,108,116,95,115] rfl rfl) (.cons (.s [105,51,50,46,108,116,95,117] rfl rfl) (.cons (.s [105,51,50,46,103,116,95,115] rfl rfl) (.cons (.s [105,51,50,46,103,116,95,117] rfl rfl) (.cons (.s [105,51,50,46,108,101,95,115] rfl rfl) (.cons (.s [105,51,50,46,108,101,95,117] rfl rfl) (.cons (.s [105,51,50,46,103,101,95,115] rfl rfl) (.cons (.s [105,51,50,46,103,101,95,117] rfl rfl) (.cons (.s [105,54,52,46,101,113,122] rfl rfl) (.cons (.s [105,54,52,46,101,113] rfl rfl) (.cons (.s [105,54,52,46,110,101] rfl rfl) (.cons (.s [105,54,52,46,108,116,95,115] rfl rfl) (.cons (.s [105,54,52,46,108,116,95,117] rfl rfl) (.cons (.s [105,54,52,46,103,116,95,115] rfl rfl) (.cons (.s [105,54,52,46,103,116,95,117] rfl rfl) (.cons (.s [105,54,52,46,108,101,95,115] rfl rfl) (.cons (.s [105,54,52,46,108,101,95,117] rfl rfl) (.cons (.s [105,54,52,46,103,101,95,115] rfl rfl) (.cons (.s [105,54,52,46,103,101,95,117] rfl rfl) (.cons (.s [] rfl rfl) (.cons (.s [] rfl rfl) (.cons (.s [] rfl rfl) (.cons (.s [] rfl rfl) (.cons (.s [] rfl rfl) (.cons (.s [] rfl rfl) (.cons (.s [] rfl rfl) (.cons (.s [] rfl rfl) (.cons (.s [] rfl rfl) (.cons (.s [] rfl rfl) (.cons (.s [] rfl rfl) (.cons (.s [] rfl rfl) (.cons (.s [105,51,50,46,99,108,122] rfl rfl) (.cons (.s [105,51,50,46,99,116,122] rfl rfl) (.cons (.s [105,51,50,46,112,111,112,99,110,116] rfl rfl) (.cons (.s [105,51,50,46,97,100,100] rfl rfl) (.cons (.s [105,51,50,46,115,117,98] rfl rfl) (.cons (.s [105,51,50,46,109,117,108] rfl rfl) (.cons (.s [105,51,50,46,100,105,118,95,115] rfl rfl) (.cons (.s [105,51,50,46,100,105,118,95,117] rfl rfl) (.cons (.s [105,51,50,46,114,101,109,95,115] rfl rfl) (.cons (.s [105,51,50,46,114,101,109,95,117] rfl rfl) (.cons (.s [105,51,50,46,97,110,100] rfl rfl) (.cons (.s [105,51,50,46,111,114] rfl rfl) (.cons (.s [105,51,50,46,120,111,114] rfl rfl) (.cons (.s [105,51,50,46,115,104,108] rfl rfl) (.cons (.s [105,51,50,46,115,104,114,95,115] rfl rfl) (.cons (.s [105,51,50,46,115,104,114,95,117] rfl rfl) (.cons (.s [105,51,50,46,114,111,116,108] rfl rfl) (.cons (.s [105,51,50,46,114,111,116,114] rfl rfl) (.cons (.s [105,54,52,46,99,108,122] rfl rfl) (.cons (.s [105,54,52,46,99,116,122] rfl rfl) (.cons (.s [105,54,52,46,112,111,112,99,110,116] rfl rfl) (.cons (.s [105,54,52,46,97,100,100] rfl rfl) (.cons (.s [105,54,52,46,115,117,98] rfl rfl) (.cons (.s [105,54,52,46,109,117,108] rfl rfl) (.cons (.s [105,54,52,46,100,105,118,95,115] rfl rfl) (.cons (.s [105,54,52,46,100,105,118,95,117] rfl rfl) (.cons (.s [105,54,52,46,114,101,109,95,115] rfl rfl) (.cons (.s [105,54,52,46,114,101,109,95,117] rfl rfl) (.cons (.s [105,54,52,46,97,110,100] rfl rfl) (.cons (.s [105,54,52,46,111,114] rfl rfl) (.cons (.s [105,54,52,46,120,111,114] rfl rfl) (.cons (.s [105,54,52,46,115,104,108] rfl rfl) (.cons (.s [105,54,52,46,115,104,114,95,115] rfl rfl) (.cons (.s [105,54,52,46,115,104,114,95,117] rfl rfl) (.cons (.s [105,54,52,46,114,111,116,108] rfl rfl) (.cons (.s [105,54,52,46,114,111,116,114] rfl rfl) (.cons (.s [] rfl rfl) (.cons (.s [] rfl rfl) (.cons (.s [] rfl rfl) (.cons (.s [] rfl rfl) (.cons (.s [] rfl rfl) (.cons (.s [] rfl rfl) (.cons (.s [] rfl rfl) (.cons (.s [] rfl rfl) (.cons (.s [] rfl rfl) (.cons (.s [] rfl rfl) (.cons (.s [] rfl rfl) (.cons (.s [] rfl rfl) (.cons (.s [] rfl rfl) (.cons (.s [] rfl rfl) (.cons (.s [] rfl rfl) (.cons (.s [] rfl rfl) (.cons (.s [] rfl rfl) (.cons (.s [] rfl rfl) (.cons (.s [] rfl rfl) (.cons (.s [] rfl rfl) (.cons (.s [] rfl rfl) (.cons (.s [] rfl rfl) (.cons (.s [] rfl rfl) (.cons (.s [] rfl rfl) (.cons (.s [] rfl rfl) (.cons (.s [] rfl rfl) (.cons (.s [] rfl rfl) (.cons (.s [] rfl rfl) (.cons (.s [105,51,50,46,119,114,97,112,95,105,54,52] rfl rfl) (.cons (.s [] rfl rfl) (.cons (.s [] rfl rfl) (.cons (.s [] rfl rfl) (.cons (.s [] rfl rfl) (.cons (.s [105,54,52,46,101,120,116,101,110,100,95,105,51,50,95,115] rfl rfl) (.cons (.s [105,54,52,46,101,120,116,101,110,100,95,105,51,50,95,117] rfl rfl) (.cons (.s [] rfl rfl) (.cons (.s [] rfl rfl) (.cons (.s [] rfl rfl) (.cons (.s [] rfl rfl) (.cons (.s [] rfl rfl) (.cons (.s [] rfl rfl) (.cons (.s [] rfl rfl) (.cons (.s [] rfl rfl) (.cons (.s [] rfl rfl) (.cons (.s [] rfl rfl) (.cons (.s [] rfl rfl) (.cons (.s [] rfl rfl) (.cons (.s [] rfl rfl) (.cons (.s [] rfl rfl) (.cons (.s [] rfl rfl) (.cons (.s [] rfl rfl) (.cons (.s [] rfl rfl) (.cons (.s [] rfl rfl) (.cons (.s [105,51,50,46,101,120,116,101,110,100,56,95,115] rfl rfl) (.cons (.s [105,51,50,46,101,120,116,101,110,100,49,54,95,115] rfl rfl) (.cons (.s [105,54,52,46,101,120,116,101,110,100,56,95,115] rfl rfl) (.cons (.s [105,54,52,46,101,120,116,101,110,100,49,54,95,115] rfl rfl) (.cons (.s [105,54,52,46,101,120,116,101,110,100,51,50,95,115] rfl rfl) .nil))))))))))))))))))))))))))))))))))))))))))))))))))))))))))))))))))))))))))))))))))))))))))))))))))))))))))))))))))))))))))))))))))))))))))))))))))))))))))))))))))))))))))))))))))))))))))))))))))))) rfl rfl rfl rfl rfl) rfl ?_
 refine Z7 ?_
 refine .p (cI _ (h:=show xw[code.toNat]?=some (xw.getD code.toNat []) by rw [List.getD_eq_getElem?_getD,List.getElem?_eq_getElem (by rw [I1];omega)];rfl)) rfl ?_
 refine Z5 ?_
 refine bJ ?_
 exact aa.of_eq (by unfold hJ;rw [if_neg c0,if_neg c1,if_neg c2])
theorem iu:cQ Tryz.prog 132 [ag .i64 code] (ag .i64 (aQ code)):=by
 refine In 68 Tryz.func132 fun _ _ _=> ?_
 refine DP ?_
 refine Cd (fun c0=> ?_) fun c0=> ?_
 ·
  refine Z8 ?_
  refine bJ ?_
  exact aa.int (by unfold aQ;repeat (first|rfl|rw [if_pos (by assumption)]|rw [if_neg (by assumption)]))
 refine dw ?_
 refine Cd (fun c1=> ?_) fun c1=> ?_
 ·
  refine Z8 ?_
  refine bJ ?_
  exact aa.int (by unfold aQ;repeat (first|rfl|rw [if_pos (by assumption)]|rw [if_neg (by assumption)]))
 refine Z7 ?_
 refine Cd (fun c2=> ?_) fun c2=> ?_
 ·
  refine Z8 ?_
  refine bJ ?_
  exact aa.int (by unfold aQ;repeat (first|rfl|rw [if_pos (by assumption)]|rw [if_neg (by assumption)]))
 refine Z7 ?_
 refine Cd (fun c3=> ?_) fun c3=> ?_
 ·
  refine Z8 ?_
  refine bJ ?_
  exact aa.int (by unfold aQ;repeat (first|rfl|rw [if_pos (by assumption)]|rw [if_neg (by assumption)]))
 refine Z7 ?_
 refine Cd (fun c4=> ?_) fun c4=> ?_
 ·
  refine Z8 ?_
  refine bJ ?_
  exact aa.int (by unfold aQ;repeat (first|rfl|rw [if_pos (by assumption)]|rw [if_neg (by assumption)]))
 refine dw ?_
 refine Cd (fun c5=> ?_) fun c5=> ?_
 ·
  refine Z8 ?_
  refine bJ ?_
  exact aa.int (by unfold aQ;repeat (first|rfl|rw [if_pos (by assumption)]|rw [if_neg (by assumption)]))
 refine dw ?_
 refine Cd (fun c6=> ?_) fun c6=> ?_
 ·
  refine Z8 ?_
  refine bJ ?_
  exact aa.int (by unfold aQ;repeat (first|rfl|rw [if_pos (by assumption)]|rw [if_neg (by assumption)]))
 refine dw ?_
 refine Cd (fun c7=> ?_) fun c7=> ?_
 ·
  refine Z8 ?_
  refine bJ ?_
  exact aa.int (by unfold aQ;repeat (first|rfl|rw [if_pos (by assumption)]|rw [if_neg (by assumption)]))
 refine mM ?_
 refine Cd (fun c8=> ?_) fun c8=> ?_
 ·
  refine Z8 ?_
  refine bJ ?_
  exact aa.int (by unfold aQ;repeat (first|rfl|rw [if_pos (by assumption)]|rw [if_neg (by assumption)]))
 refine Z7 ?_
 refine Cd (fun c9=> ?_) fun c9=> ?_
 ·
  refine Z8 ?_
  refine bJ ?_
  exact aa.int (by unfold aQ;repeat (first|rfl|rw [if_pos (by assumption)]|rw [if_neg (by assumption)]))
 refine dw ?_
 refine Cd (fun jH=> ?_) fun jH=> ?_
 ·
  refine Z8 ?_
  refine bJ ?_
  exact aa.int (by unfold aQ;repeat (first|rfl|rw [if_pos (by assumption)]|rw [if_neg (by assumption)]))
 refine Z9 ?_
 refine bJ ?_
 exact aa.int (by unfold aQ;repeat (first|rfl|rw [if_pos (by assumption)]|rw [if_neg (by assumption)]))
theorem jq:cQ Tryz.prog 160 [ag .i64 code] (bz [ah 1 aj (aK code).1,ah 1 aj (aK code).2]):=by
 refine In 169 Tryz.func160 fun _ _ _=> ?_
 refine RD ?_
 refine Cd (fun c0=> ?_) fun c0=> ?_
 ·
  refine Z9 ?_
  refine jr ?_ ?_
  · first|(refine aa.trans (aD 1 aj) (aa.of_eq ?_);unfold aK;repeat (first|rfl|rw [if_pos (by assumption)]|rw [if_neg (by assumption)]))|(refine aa.of_eq ?_;unfold aK;repeat (first|rfl|rw [if_pos (by assumption)]|rw [if_neg (by assumption)]))
  first|(refine aa.trans (aD 1 aj) (aa.of_eq ?_);unfold aK;repeat (first|rfl|rw [if_pos (by assumption)]|rw [if_neg (by assumption)]))|(refine aa.of_eq ?_;unfold aK;repeat (first|rfl|rw [if_pos (by assumption)]|rw [if_neg (by assumption)]))
 refine mM ?_
 refine Cd (fun c1=> ?_) fun c1=> ?_
 ·
  refine Z3 ?_
  refine .p (cB aj [127]) rfl ?_
  refine Z1 ?_
  refine .p (cB aj [127]) rfl ?_
  refine Z7 ?_
  refine jr ?_ ?_
  · first|(refine aa.trans (aD 1 aj) (aa.of_eq ?_);unfold aK;repeat (first|rfl|rw [if_pos (by assumption)]|rw [if_neg (by assumption)]))|(refine aa.of_eq ?_;unfold aK;repeat (first|rfl|rw [if_pos (by assumption)]|rw [if_neg (by assumption)]))
  first|(refine aa.trans (aD 1 aj) (aa.of_eq ?_);unfold aK;repeat (first|rfl|rw [if_pos (by assumption)]|rw [if_neg (by assumption)]))|(refine aa.of_eq ?_;unfold aK;repeat (first|rfl|rw [if_pos (by assumption)]|rw [if_neg (by assumption)]))
 refine mM ?_
 refine Cd (fun c2=> ?_) fun c2=> ?_
 ·
  refine Z3 ?_
  refine .p (cB aj [127]) rfl ?_
  refine Z1 ?_
  refine .p (cB aj [126]) rfl ?_
  refine Z7 ?_
  refine jr ?_ ?_
  · first|(refine aa.trans (aD 1 aj) (aa.of_eq ?_);unfold aK;repeat (first|rfl|rw [if_pos (by assumption)]|rw [if_neg (by assumption)]))|(refine aa.of_eq ?_;unfold aK;repeat (first|rfl|rw [if_pos (by assumption)]|rw [if_neg (by assumption)]))
  first|(refine aa.trans (aD 1 aj) (aa.of_eq ?_);unfold aK;repeat (first|rfl|rw [if_pos (by assumption)]|rw [if_neg (by assumption)]))|(refine aa.of_eq ?_;unfold aK;repeat (first|rfl|rw [if_pos (by assumption)]|rw [if_neg (by assumption)]))
 refine mM ?_
 refine Cd (fun c3=> ?_) fun c3=> ?_
 ·
  refine Z4 ?_
  refine .p (cB aj [127,127]) rfl ?_
  refine Z7 ?_
  refine jr ?_ ?_
  · first|(refine aa.trans (aD 1 aj) (aa.of_eq ?_);unfold aK;repeat (first|rfl|rw [if_pos (by assumption)]|rw [if_neg (by assumption)]))|(refine aa.of_eq ?_;unfold aK;repeat (first|rfl|rw [if_pos (by assumption)]|rw [if_neg (by assumption)]))
  first|(refine aa.trans (aD 1 aj) (aa.of_eq ?_);unfold aK;repeat (first|rfl|rw [if_pos (by assumption)]|rw [if_neg (by assumption)]))|(refine aa.of_eq ?_;unfold aK;repeat (first|rfl|rw [if_pos (by assumption)]|rw [if_neg (by assumption)]))
 refine Z7 ?_
 refine Cd (fun c4=> ?_) fun c4=> ?_
 ·
  refine Z4 ?_
  refine .p (cB aj [127,126]) rfl ?_
  refine Z7 ?_
  refine jr ?_ ?_
  · first|(refine aa.trans (aD 1 aj) (aa.of_eq ?_);unfold aK;repeat (first|rfl|rw [if_pos (by assumption)]|rw [if_neg (by assumption)]))|(refine aa.of_eq ?_;unfold aK;repeat (first|rfl|rw [if_pos (by assumption)]|rw [if_neg (by assumption)]))
  first|(refine aa.trans (aD 1 aj) (aa.of_eq ?_);unfold aK;repeat (first|rfl|rw [if_pos (by assumption)]|rw [if_neg (by assumption)]))|(refine aa.of_eq ?_;unfold aK;repeat (first|rfl|rw [if_pos (by assumption)]|rw [if_neg (by assumption)]))
 refine dw ?_
 refine Cd (fun c5=> ?_) fun c5=> ?_
 ·
  refine Z3 ?_
  refine .p (cB aj [127]) rfl ?_
  refine Z7 ?_
  refine jr ?_ ?_
  · first|(refine aa.trans (aD 1 aj) (aa.of_eq ?_);unfold aK;repeat (first|rfl|rw [if_pos (by assumption)]|rw [if_neg (by assumption)]))|(refine aa.of_eq ?_;unfold aK;repeat (first|rfl|rw [if_pos (by assumption)]|rw [if_neg (by assumption)]))
  first|(refine aa.trans (aD 1 aj) (aa.of_eq ?_);unfold aK;repeat (first|rfl|rw [if_pos (by assumption)]|rw [if_neg (by assumption)]))|(refine aa.of_eq ?_;unfold aK;repeat (first|rfl|rw [if_pos (by assumption)]|rw [if_neg (by assumption)]))
 refine Z7 ?_
 refine Cd (fun c6=> ?_) fun c6=> ?_
 ·
  refine Z3 ?_
  refine .p (cB aj [126]) rfl ?_
  refine Z7 ?_
  refine jr ?_ ?_
  · first|(refine aa.trans (aD 1 aj) (aa.of_eq ?_);unfold aK;repeat (first|rfl|rw [if_pos (by assumption)]|rw [if_neg (by assumption)]))|(refine aa.of_eq ?_;unfold aK;repeat (first|rfl|rw [if_pos (by assumption)]|rw [if_neg (by assumption)]))
  first|(refine aa.trans (aD 1 aj) (aa.of_eq ?_);unfold aK;repeat (first|rfl|rw [if_pos (by assumption)]|rw [if_neg (by assumption)]))|(refine aa.of_eq ?_;unfold aK;repeat (first|rfl|rw [if_pos (by assumption)]|rw [if_neg (by assumption)]))
 refine dw ?_
 refine Cd (fun c7=> ?_) fun c7=> ?_
 ·
  refine Z3 ?_
  refine .p (cB aj [126]) rfl ?_
  refine Z1 ?_
  refine .p (cB aj [127]) rfl ?_
  refine Z7 ?_
  refine jr ?_ ?_
  · first|(refine aa.trans (aD 1 aj) (aa.of_eq ?_);unfold aK;repeat (first|rfl|rw [if_pos (by assumption)]|rw [if_neg (by assumption)]))|(refine aa.of_eq ?_;unfold aK;repeat (first|rfl|rw [if_pos (by assumption)]|rw [if_neg (by assumption)]))
  first|(refine aa.trans (aD 1 aj) (aa.of_eq ?_);unfold aK;repeat (first|rfl|rw [if_pos (by assumption)]|rw [if_neg (by assumption)]))|(refine aa.of_eq ?_;unfold aK;repeat (first|rfl|rw [if_pos (by assumption)]|rw [if_neg (by assumption)]))
 refine Eh ?_
 refine Cd (fun c8=> ?_) fun c8=> ?_
 ·
  refine Z4 ?_
  refine .p (cB aj [127,127]) rfl ?_
  refine Z1 ?_
  refine .p (cB aj [127]) rfl ?_
  refine Z7 ?_
  refine jr ?_ ?_
  · first|(refine aa.trans (aD 1 aj) (aa.of_eq ?_);unfold aK;repeat (first|rfl|rw [if_pos (by assumption)]|rw [if_neg (by assumption)]))|(refine aa.of_eq ?_;unfold aK;repeat (first|rfl|rw [if_pos (by assumption)]|rw [if_neg (by assumption)]))
  first|(refine aa.trans (aD 1 aj) (aa.of_eq ?_);unfold aK;repeat (first|rfl|rw [if_pos (by assumption)]|rw [if_neg (by assumption)]))|(refine aa.of_eq ?_;unfold aK;repeat (first|rfl|rw [if_pos (by assumption)]|rw [if_neg (by assumption)]))
 refine dw ?_
 refine Cd (fun c9=> ?_) fun c9=> ?_
 ·
  refine Z4 ?_
  refine .p (cB aj [126,126]) rfl ?_
  refine Z1 ?_
  refine .p (cB aj [127]) rfl ?_
  refine Z7 ?_
  refine jr ?_ ?_
  · first|(refine aa.trans (aD 1 aj) (aa.of_eq ?_);unfold aK;repeat (first|rfl|rw [if_pos (by assumption)]|rw [if_neg (by assumption)]))|(refine aa.of_eq ?_;unfold aK;repeat (first|rfl|rw [if_pos (by assumption)]|rw [if_neg (by assumption)]))
  first|(refine aa.trans (aD 1 aj) (aa.of_eq ?_);unfold aK;repeat (first|rfl|rw [if_pos (by assumption)]|rw [if_neg (by assumption)]))|(refine aa.of_eq ?_;unfold aK;repeat (first|rfl|rw [if_pos (by assumption)]|rw [if_neg (by assumption)]))
 refine dw ?_
 refine Cd (fun jH=> ?_) fun jH=> ?_
 ·
  refine Z4 ?_
  refine .p (cB aj [126,126]) rfl ?_
  refine Z1 ?_
  refine .p (cB aj [126]) rfl ?_
  refine Z7 ?_
  refine jr ?_ ?_
  · first|(refine aa.trans (aD 1 aj) (aa.of_eq ?_);unfold aK;repeat (first|rfl|rw [if_pos (by assumption)]|rw [if_neg (by assumption)]))|(refine aa.of_eq ?_;unfold aK;repeat (first|rfl|rw [if_pos (by assumption)]|rw [if_neg (by assumption)]))
  first|(refine aa.trans (aD 1 aj) (aa.of_eq ?_);unfold aK;repeat (first|rfl|rw [if_pos (by assumption)]|rw [if_neg (by assumption)]))|(refine aa.of_eq ?_;unfold aK;repeat (first|rfl|rw [if_pos (by assumption)]|rw [if_neg (by assumption)]))
 refine dw ?_
 refine Cd (fun lH=> ?_) fun lH=> ?_
 ·
  refine Z3 ?_
  refine .p (cB aj [127]) rfl ?_
  refine Z1 ?_
  refine .p (cB aj [126]) rfl ?_
  refine Z7 ?_
  refine jr ?_ ?_
  · first|(refine aa.trans (aD 1 aj) (aa.of_eq ?_);unfold aK;repeat (first|rfl|rw [if_pos (by assumption)]|rw [if_neg (by assumption)]))|(refine aa.of_eq ?_;unfold aK;repeat (first|rfl|rw [if_pos (by assumption)]|rw [if_neg (by assumption)]))
  first|(refine aa.trans (aD 1 aj) (aa.of_eq ?_);unfold aK;repeat (first|rfl|rw [if_pos (by assumption)]|rw [if_neg (by assumption)]))|(refine aa.of_eq ?_;unfold aK;repeat (first|rfl|rw [if_pos (by assumption)]|rw [if_neg (by assumption)]))
 refine Eh ?_
 refine Cd (fun nj=> ?_) fun nj=> ?_
 ·
  refine Z3 ?_
  refine .p (cB aj [126]) rfl ?_
  refine Z1 ?_
  refine .p (cB aj [126]) rfl ?_
  refine Z7 ?_
  refine jr ?_ ?_
  · first|(refine aa.trans (aD 1 aj) (aa.of_eq ?_);unfold aK;repeat (first|rfl|rw [if_pos (by assumption)]|rw [if_neg (by assumption)]))|(refine aa.of_eq ?_;unfold aK;repeat (first|rfl|rw [if_pos (by assumption)]|rw [if_neg (by assumption)]))
  first|(refine aa.trans (aD 1 aj) (aa.of_eq ?_);unfold aK;repeat (first|rfl|rw [if_pos (by assumption)]|rw [if_neg (by assumption)]))|(refine aa.of_eq ?_;unfold aK;repeat (first|rfl|rw [if_pos (by assumption)]|rw [if_neg (by assumption)]))
 refine Z7 ?_
 refine Cd (fun qJ=> ?_) fun qJ=> ?_
 ·
  refine Z5 ?_
  refine .p (cB aj [127,127,127]) rfl ?_
  refine Z7 ?_
  refine jr ?_ ?_
  · first|(refine aa.trans (aD 1 aj) (aa.of_eq ?_);unfold aK;repeat (first|rfl|rw [if_pos (by assumption)]|rw [if_neg (by assumption)]))|(refine aa.of_eq ?_;unfold aK;repeat (first|rfl|rw [if_pos (by assumption)]|rw [if_neg (by assumption)]))
  first|(refine aa.trans (aD 1 aj) (aa.of_eq ?_);unfold aK;repeat (first|rfl|rw [if_pos (by assumption)]|rw [if_neg (by assumption)]))|(refine aa.of_eq ?_;unfold aK;repeat (first|rfl|rw [if_pos (by assumption)]|rw [if_neg (by assumption)]))
 refine Z6 ?_
 refine .p (cB aj [127]) rfl ?_
 refine Z1 ?_
 refine .p (cB aj [127]) rfl ?_
 refine Z5 ?_
 refine jr ?_ ?_
 · first|(refine aa.trans (aD 1 aj) (aa.of_eq ?_);unfold aK;repeat (first|rfl|rw [if_pos (by assumption)]|rw [if_neg (by assumption)]))|(refine aa.of_eq ?_;unfold aK;repeat (first|rfl|rw [if_pos (by assumption)]|rw [if_neg (by assumption)]))
 first|(refine aa.trans (aD 1 aj) (aa.of_eq ?_);unfold aK;repeat (first|rfl|rw [if_pos (by assumption)]|rw [if_neg (by assumption)]))|(refine aa.of_eq ?_;unfold aK;repeat (first|rfl|rw [if_pos (by assumption)]|rw [if_neg (by assumption)]))
theorem Dz:cQ Tryz.prog 161 [ag .i64 code] (ag .i64 (fL code)):=by
 refine In 27 Tryz.func161 fun _ _ _=> ?_
 refine dH ?_
 refine .cut (σ:=Unit) (fun _=>[]) (fun _=>[(4,ak (code=40∨code=52∨code=53∨code=54∨code=62))]) (fun _=>True) ?_ ?_
 ·
  refine Z6 ?_
  refine Cd (fun c0=> ?_) fun c0=> ?_
  ·
   refine Z1 ?_
   refine .meet () trivial rfl (.get rfl (aa.prop (by omega)) (.keep 2 rfl rfl))
  refine Z6 ?_
  refine Cd (fun c1=> ?_) fun c1=> ?_
  ·
   refine Z1 ?_
   refine .meet () trivial rfl (.get rfl (aa.prop (by omega)) (.keep 4 rfl rfl))
  refine Z6 ?_
  refine Cd (fun c2=> ?_) fun c2=> ?_
  ·
   refine Z1 ?_
   refine .meet () trivial rfl (.get rfl (aa.prop (by omega)) (.keep 6 rfl rfl))
  refine Z6 ?_
  refine Cd (fun c3=> ?_) fun c3=> ?_
  ·
   refine Z1 ?_
   refine .meet () trivial rfl (.get rfl (aa.prop (by omega)) (.keep 8 rfl rfl))
  refine Z4 ?_
  refine .meet () trivial rfl (.get rfl (aa.prop (by omega)) (.keep 10 rfl rfl))
 intro _ _
 refine Cd (fun c4=> ?_) fun c4=> ?_
 ·
  refine Z8 ?_
  refine bJ ?_
  exact aa.int (by unfold fL;repeat (first|rfl|rw [if_pos (by assumption)]|rw [if_neg (by assumption)]))
 refine .cut (σ:=Unit) (fun _=>[]) (fun _=>[(10,ak (code=41∨code=55))]) (fun _=>True) ?_ ?_
 ·
  refine Z6 ?_
  refine Cd (fun c5=> ?_) fun c5=> ?_
  ·
   refine Z1 ?_
   refine .meet () trivial rfl (.get rfl (aa.prop (by omega)) (.keep 2 rfl rfl))
  refine Z4 ?_
  refine .meet () trivial rfl (.get rfl (aa.prop (by omega)) (.keep 4 rfl rfl))
 intro _ _
 refine Cd (fun c6=> ?_) fun c6=> ?_
 ·
  refine Z8 ?_
  refine bJ ?_
  exact aa.int (by unfold fL;repeat (first|rfl|rw [if_pos (by assumption)]|rw [if_neg (by assumption)]))
 refine .cut (σ:=Unit) (fun _=>[]) (fun _=>[(13,ak (code=44∨code=45∨code=48∨code=49∨code=58∨code=60))]) (fun _=>True) ?_ ?_
 ·
  refine Z6 ?_
  refine Cd (fun c7=> ?_) fun c7=> ?_
  ·
   refine Z1 ?_
   refine .meet () trivial rfl (.get rfl (aa.prop (by omega)) (.keep 2 rfl rfl))
  refine Z6 ?_
  refine Cd (fun c8=> ?_) fun c8=> ?_
  ·
   refine Z1 ?_
   refine .meet () trivial rfl (.get rfl (aa.prop (by omega)) (.keep 4 rfl rfl))
  refine Z6 ?_
  refine Cd (fun c9=> ?_) fun c9=> ?_
  ·
   refine Z1 ?_
   refine .meet () trivial rfl (.get rfl (aa.prop (by omega)) (.keep 6 rfl rfl))
  refine Z6 ?_
  refine Cd (fun jH=> ?_) fun jH=> ?_
  ·
   refine Z1 ?_
   refine .meet () trivial rfl (.get rfl (aa.prop (by omega)) (.keep 8 rfl rfl))
  refine Z6 ?_
  refine Cd (fun lH=> ?_) fun lH=> ?_
  ·
   refine Z1 ?_
   refine .meet () trivial rfl (.get rfl (aa.prop (by omega)) (.keep 10 rfl rfl))
  refine Z4 ?_
  refine .meet () trivial rfl (.get rfl (aa.prop (by omega)) (.keep 12 rfl rfl))
 intro _ _
 refine Cd (fun nj=> ?_) fun nj=> ?_
 ·
  refine Z8 ?_
  refine bJ ?_
  exact aa.int (by unfold fL;repeat (first|rfl|rw [if_pos (by assumption)]|rw [if_neg (by assumption)]))
 refine .cut (σ:=Unit) (fun _=>[]) (fun _=>[(20,ak (code=46∨code=47∨code=50∨code=51∨code=59∨code=61))]) (fun _=>True) ?_ ?_
 ·
  refine Z6 ?_
  refine Cd (fun qJ=> ?_) fun qJ=> ?_
  ·
   refine Z1 ?_
   refine .meet () trivial rfl (.get rfl (aa.prop (by omega)) (.keep 2 rfl rfl))
  refine Z6 ?_
  refine Cd (fun oT=> ?_) fun oT=> ?_
  ·
   refine Z1 ?_
   refine .meet () trivial rfl (.get rfl (aa.prop (by omega)) (.keep 4 rfl rfl))
  refine Z6 ?_
  refine Cd (fun tH=> ?_) fun tH=> ?_
  ·
   refine Z1 ?_
   refine .meet () trivial rfl (.get rfl (aa.prop (by omega)) (.keep 6 rfl rfl))
  refine Z6 ?_
  refine Cd (fun uF=> ?_) fun uF=> ?_
  ·
   refine Z1 ?_
   refine .meet () trivial rfl (.get rfl (aa.prop (by omega)) (.keep 8 rfl rfl))
  refine Z6 ?_
  refine Cd (fun JD=> ?_) fun JD=> ?_
  ·
   refine Z1 ?_
   refine .meet () trivial rfl (.get rfl (aa.prop (by omega)) (.keep 10 rfl rfl))
  refine Z4 ?_
  refine .meet () trivial rfl (.get rfl (aa.prop (by omega)) (.keep 12 rfl rfl))
 intro _ _
 refine Cd (fun Gl=> ?_) fun Gl=> ?_
 ·
  refine Z8 ?_
  refine bJ ?_
  exact aa.int (by unfold fL;repeat (first|rfl|rw [if_pos (by assumption)]|rw [if_neg (by assumption)]))
 refine Z9 ?_
 refine bJ ?_
 exact aa.int (by unfold fL;repeat (first|rfl|rw [if_pos (by assumption)]|rw [if_neg (by assumption)]))
variable {s:cU} {base:Int}
theorem oK {w:UInt8} (aq:s.1.length≤60000):cH Tryz.prog 157 [aE (aW s base),ag .u8 ((w:UInt8).toNat:Int)] [] (γ:=cU×UInt8×Int) (Mj s w) (fun _=>[]) (fun g=>bz [aE (aW g.1 base),ag .u8 (g.2.1.toNat:Int),ag .i64 g.2.2]):=by
 refine In 52 Tryz.func157 fun _ _ _=> ?_
 obtain ⟨sl,sd⟩:=s
 simp only at aq
 refine Z2 ?_
 refine .n (bV (.t rfl)) rfl fun b2 _=> ?_
 refine .n (az FZ.out) rfl fun b4 _=> ?_
 refine Eh ?_
 refine Cd (fun c0=> ?_) fun c0=> ?_
 ·
  have GA:sl=[]:=List.eq_nil_of_length_eq_zero (by have:(sl.length:Int)=0:=c0;omega)
  subst GA
  refine Z8 ?_
  refine Cd (fun c1=> ?_) fun c1=> ?_
  ·
   refine dw ?_
   refine Post.aZ rfl rfl ((([],sd),0,5)) (by exact ⟨.inr ⟨by show (5:Int)≠0;decide,xE c1⟩,Nat.le_refl _⟩) (aB.dc [] [0,1] rfl rfl) rfl (.cons (.ra (i:=0) FA.out FC.out rfl rfl rfl rfl) ?_ (.cons (.rt rfl) ?_ (.cons (.rt rfl) ?_ .nil)))
   · exact aa.refl _
   · exact aa.refl _
   exact aa.refl _
  refine jN ?_
  refine Post.aZ rfl rfl ((([],sd),w,0)) (by exact ⟨.inl ⟨rfl,G9 (Classical.not_not.1 c1)⟩,Nat.le_refl _⟩) (aB.dc [] [0,1] rfl rfl) rfl (.cons (.ra (i:=0) FA.out FC.out rfl rfl rfl rfl) ?_ (.cons (.rt rfl) ?_ (.cons (.rt rfl) ?_ .nil)))
  · exact aa.refl _
  · exact aa.refl _
  exact aa.refl _
 obtain ⟨l,x,rfl⟩:=s8 (l:=sl) (fun e=>c0 (by rw [e];rfl))
 simp only [List.length_append,List.length_cons,List.length_nil] at aq
 refine Z7 ?_
 refine .p (ja (.t rfl) (.c _) (bN (by simp<;>omega) (by simp<;>omega))) rfl ?_
 refine .p (cI l.length (h:=show (l++[x])[l.length]?=some x by simp) (hi:=by simp)) rfl ?_
 refine Z6 ?_
 refine .p (lB FU.out FC.out rfl FZ.out rfl) rfl ?_
 refine Z3 ?_
 refine .p (ja (.t rfl) (.c _) (bN (by simp<;>omega) (by simp<;>omega))) rfl ?_
 refine .p (tM (h:=l.length) FU.out FC.out rfl (.t rfl) (.t rfl) (by simp) (by simp)) rfl ?_
 refine .p (tO FU.out FU.out FC.out rfl FZ.out rfl FY.out (.t rfl) (.t rfl) (by simp<;>omega)) rfl ?_
 refine J4 ?_
 refine Cd (fun c2=> ?_) fun c2=> ?_
 ·
  refine cJ ?_
  refine Post.aZ rfl rfl (((l,sd),0,5)) (by exact ⟨.inr ⟨by show (5:Int)≠0;decide,Ow c2⟩,by (show l.length≤_;simp)⟩) (aB.dc [] [0,1] rfl rfl) rfl (.cons (.ra (i:=0) FA.out FC.out rfl rfl rfl rfl) ?_ (.cons (.rt rfl) ?_ (.cons (.rt rfl) ?_ .nil)))
  · exact aa.agg (.cons (aa.of_eq (by simp)) (.cons (aa.refl _) (.cons (aa.refl _) .nil)))
  · exact aa.refl _
  exact aa.refl _
 refine Z9 ?_
 refine Cd (fun c3=> ?_) fun c3=> ?_
 ·
  refine dw ?_
  refine Post.aZ rfl rfl (((l,sd),w,0)) (by exact ⟨.inl ⟨rfl,by rw [Dy c2,if_pos ((mT x).1 c3)]⟩,by (show l.length≤_;simp)⟩) (aB.dc [] [0,1] rfl rfl) rfl (.cons (.ra (i:=0) FA.out FC.out rfl rfl rfl rfl) ?_ (.cons (.rt rfl) ?_ (.cons (.rt rfl) ?_ .nil)))
  · exact aa.agg (.cons (aa.of_eq (by simp)) (.cons (aa.refl _) (.cons (aa.refl _) .nil)))
  · exact aa.refl _
  exact aa.refl _
 refine dH ?_
 refine Post.aZ rfl rfl (((l,sd),x,0)) (by exact ⟨.inl ⟨rfl,by rw [Dy c2,if_neg (fun e=>c3 ((mT x).2 e))]⟩,by (show l.length≤_;simp)⟩) (aB.dc [] [0,1] rfl rfl) rfl (.cons (.ra (i:=0) FA.out FC.out rfl rfl rfl rfl) ?_ (.cons (.rt rfl) ?_ (.cons (.rt rfl) ?_ .nil)))
 · exact aa.agg (.cons (aa.of_eq (by simp)) (.cons (aa.refl _) (.cons (aa.refl _) .nil)))
 · exact aa.refl _
 exact aa.refl _
theorem bQ {l:List UInt8} (aq:s.1.length≤60000):cH Tryz.prog 135 [aE (aW s base),ah 1 aj (l)] [] (γ:=cU×Int) (MR s l) (fun _=>[]) (fun g=>bz [aE (aW g.1 base),ag .i64 g.2]):=by
 refine In 30 Tryz.func135 fun _ _ _=> ?_
 refine .fact (t:=1) rfl (fun S w v h=>bH h) fun oY=> ?_
 refine Z2 ?_
 refine .n (bV (.t rfl)) rfl fun b2 _=> ?_
 refine .n (az FZ.out) rfl fun b4 _=> ?_
 refine jN ?_
 refine .own (aB.perm (Perm.idx [1,0] rfl rfl)) ?_
 refine .aY (σ:=Nat×cU) (fun g=>[aF b2 (aW g.2 base),aF b4 (List.map af [.slice none 0 0, .bool false, .int .i64 0])]) (fun g=>[(6,ag .i64 ((g.1:Int)-1))]) (fun g=>g.1≤l.length∧cF g.2 (l.take g.1)=cF s l∧g.2.1.length≤s.1.length) (fun g=>g.1) (l.length,s) ⟨Nat.le_refl _,by simp,Nat.le_refl _⟩ rfl ?_ ?_
 · exact (.get rfl (aa.refl _) (.refl _ _))
 rintro ⟨j,s1⟩ ⟨hj,hinv,GA⟩
 simp only at hj hinv GA ⊢
 refine Z7 ?_
 refine Cd (fun c0=> ?_) fun c0=> ?_
 ·
  obtain ⟨t,ht⟩:=ai (xs:=l) (k:=j-1) (by omega)
  have hjt:cF s1 (l.take j)=(hH s1 t).bind fun p=>cF p.1 (l.take (j-1)):=by (have h9:=LP (s:=s1) ht;rwa [show j-1+1=j by omega] at h9)
  refine cJ ?_
  refine .bG [(0,1),(1,0),(2,0),(3,0),(4,0),(5,2),(6,0),(7,0),(8,0),(9,0),(10,3)] 11 1 FM.out (by kernel_rfl) (k:= ?_)
  refine Z3 ?_
  refine .p rfl (fun _=>aP (j:=j-1) FU.out FC.out rfl (.t rfl) (.t rfl) (by omega) ht) ?_
  refine Z1 ?_
  refine .e rfl (cE (h:=oK (s:=s1) (w:=t) (by omega))) fun MH IP=> ?_
  refine Z4 ?_
  refine .s rfl (fy (i:=0) FC.out rfl (.t rfl) (.t rfl) rfl rfl rfl) ?_
  refine .fin ?_
  refine Z9 ?_
  refine Cd (fun c1=> ?_) fun c1=> ?_
  ·
   refine iw ?_
   refine Post.aZ rfl rfl ((MH.1,MH.2.2)) (by exact ⟨.inr ⟨c1,by rw [←hinv,hjt,IP.no c1];rfl⟩,Nat.le_trans IP.2 GA⟩) (aB.dc [] [0,1] rfl rfl) rfl (.cons (.ra (i:=1) FA.out FC.out rfl rfl rfl rfl) ?_ (.cons (.rt rfl) ?_ .nil))
   · exact aa.refl _
   exact aa.refl _
  refine Z8 ?_
  refine .round (j-1,MH.1) ⟨by show j-1≤_;omega,by (show cF MH.1 _=_;rw [←hinv,hjt,IP.ok (Classical.not_not.1 c1)];rfl),Nat.le_trans IP.2 GA⟩ (by show j-1<j;omega) rfl ?_
  exact (.get rfl (aa.int (by show (_:Int)=((j-1:Nat):Int)-1;omega)) ((.keep 21 rfl rfl)))
 have hj0:j=0:=by omega
 subst hj0
 refine jN ?_
 refine Post.aZ rfl rfl ((s1,0)) (by exact ⟨.inl ⟨rfl,by rw [←hinv];rfl⟩,GA⟩) (aB.dc [] [0,1] rfl rfl) rfl (.cons (.ra (i:=1) FA.out FC.out rfl rfl rfl rfl) ?_ (.cons (.rt rfl) ?_ .nil))
 · exact aa.refl _
 exact aa.refl _
theorem dB {l:List UInt8} (aq:s.1.length≤60000) (aT:l.length≤60000):cH Tryz.prog 137 [aE (aW s base),ah 1 aj (l)] [] (γ:=Unit) (fun _=>True) (fun _=>[]) (fun _=>aE (aW (bq s l) base)):=by
 refine In 13 Tryz.func137 fun _ _ _=> ?_
 refine Z2 ?_
 refine .n (bV (.t rfl)) rfl fun b2 _=> ?_
 refine .n (az FZ.out) rfl fun b4 _=> ?_
 refine Z4 ?_
 refine .n (cO aj ([]:List UInt8) FU.out FC.out rfl FZ.out rfl .nil rfl rfl rfl rfl rfl) rfl fun g5 _=> ?_
 refine Z2 ?_
 refine .n (aH (i:=0) FU.out FU.out FC.out rfl FZ.out rfl FY.out (.t rfl) (.t rfl) rfl (by simp<;>omega) (by simp<;>omega)) rfl fun g8 _=> ?_
 refine Z1 ?_
 refine .n (gL.fu (G:=fun g=>g) (oP:=fun _=>_) (xs:=fun _=>_) (aH (i:=0) FU.out FU.out FC.out rfl FZ.out rfl FY.out (.t rfl) (.t rfl) rfl (by simp<;>omega) (by simp<;>omega))) rfl fun _ _=> ?_
 refine dw ?_
 refine Post.aN rfl (()) (by trivial) (aB.dc [] [0,1] rfl rfl) (.ra (i:=0) FA.out FC.out rfl rfl rfl rfl) ?_
 exact aa.agg (.cons (aa.of_eq (by simp [bq])) (.cons (aa.refl _) (.cons (aa.refl _) .nil)))
theorem oL:cH Tryz.prog 158 [aE (aW s base)] [] (γ:=Unit) (fun _=>True) (fun _=>[]) (fun _=>aE (aW ef base)):=by
 refine In 6 Tryz.func158 fun _ _ _=> ?_
 refine Z3 ?_
 refine .n (az FZ.out) rfl fun b2 _=> ?_
 refine dw ?_
 refine Post.aN rfl (()) (by trivial) (aB.dc [] [0] rfl rfl) (.ra (i:=0) FA.out FC.out rfl rfl rfl rfl) ?_
 exact aa.agg (.cons (aD 1 aj) (.cons (aa.refl _) (.cons (aa.refl _) .nil)))
theorem Gm {a b:List UInt8}:cQ Tryz.prog 159 [ah 1 aj (a),ah 1 aj (b)] (ak (a=b)):=by
 refine In 10 Tryz.func159 fun _ _ _=> ?_
 refine BY ?_
 refine bJ ?_
 exact aa.refl _
variable {v:mw} {x:au} {labs:List (List UInt8)}
theorem Ml (aq:nq v x s labs) (aT:x.Code=0):cH Tryz.prog 136 [aE (dU v),aE (aG x),aE (aW s base),ah 1 dA labs] [] (γ:=cU×Int) (vu s (fP v x s labs)) (fun _=>[]) (fun g=>bz [aE (aW g.1 base),ag .i64 g.2]):=by
 refine In 517 Tryz.func136 fun _ _ _=> ?_
 have A3:=aq.stk
 have m4:=aq.ins.A0
 have A4:=aq.ins.vo
 have oY:=aq.zI
 have hE:=aq.env
 have xq:=hE.F
 have xu:=hE.S
 have A5:=hE.L
 have A6:=hE.G
 have rT:=hE.W
 refine Z4 ?_
 refine .n (bV (.t rfl)) rfl fun b6 _=> ?_
 refine .n (az FZ.out) rfl fun b8 _=> ?_
 refine yX ?_
 refine Cd (fun c0=> ?_) fun c0=> ?_
 ·
  refine Z3 ?_
  refine .n (cE (h:=oL (s:=s))) rfl fun WZ Og=> ?_
  refine Z7 ?_
  refine Post.aZ rfl rfl ((ef,0)) (by exact sn (Pv aT) (by simp [ef])) (aB.dc [] [0,1] rfl rfl) rfl (.cons (.ra (i:=0) FA.out FC.out rfl rfl rfl rfl) ?_ (.cons (.rt rfl) ?_ .nil))
  · exact aa.refl _
  exact aa.refl _
 exfalso;omega
theorem JE (aq:nq v x s labs) (aT:x.Code=12):cH Tryz.prog 136 [aE (dU v),aE (aG x),aE (aW s base),ah 1 dA labs] [] (γ:=cU×Int) (vu s (fP v x s labs)) (fun _=>[]) (fun g=>bz [aE (aW g.1 base),ag .i64 g.2]):=by
 refine In 517 Tryz.func136 fun _ _ _=> ?_
 have A3:=aq.stk
 have m4:=aq.ins.A0
 have A4:=aq.ins.vo
 have oY:=aq.zI
 have hE:=aq.env
 have xq:=hE.F
 have xu:=hE.S
 have A5:=hE.L
 have A6:=hE.G
 have rT:=hE.W
 refine Z4 ?_
 refine .n (bV (.t rfl)) rfl fun b6 _=> ?_
 refine .n (az FZ.out) rfl fun b8 _=> ?_
 refine yX ?_
 refine Cd (fun c0=> ?_) fun c0=> ?_
 · exfalso;omega
 refine Z7 ?_
 refine Cd (fun c1=> ?_) fun c1=> ?_
 ·
  refine Z2 ?_
  refine Cd (fun c2=> ?_) fun c2=> ?_
  ·
   refine cJ ?_
   refine Cd (fun c3=> ?_) fun c3=> ?_
   ·
    have hno:=tw (L:=labs) c3
    refine dw ?_
    refine Post.aZ rfl rfl ((s,2)) (by exact dN (by decide) (by rw [uw aT,hno];rfl) (by omega)) (aB.dc [] [0,1] rfl rfl) rfl (.cons (.ra (i:=0) FA.out FC.out rfl rfl rfl rfl) ?_ (.cons (.rt rfl) ?_ .nil))
    · exact aa.refl _
    exact aa.refl _
   obtain ⟨w,hw,nS⟩:=tv (L:=labs) m4 c3
   have hwl:w.length≤20:=aq.Zd w (List.mem_of_getElem? nS)
   refine dw ?_
   refine .p (cI (labs.length-1-x.A.toNat) (h:=nS)) rfl ?_
   refine dH ?_
   refine Cd (fun c4=> ?_) fun c4=> ?_
   · exfalso;omega
   refine Z6 ?_
   refine .n (cE (h:=bQ (s:=s) (l:=w) (by omega))) rfl fun QZ MP=> ?_
   refine iw ?_
   refine Cd (fun c5=> ?_) fun c5=> ?_
   ·
    refine dH ?_
    refine Post.aZ rfl rfl (QZ) (by exact dN c5 (by rw [uw aT,hw,Option.bind_some,MP.no c5];rfl) (by have:=MP.2;omega)) (aB.dc [] [0,1] rfl rfl) rfl (.cons (.ra (i:=0) FA.out FC.out rfl rfl rfl rfl) ?_ (.cons (.rt rfl) ?_ .nil))
    · exact aa.refl _
    exact aa.refl _
   refine cJ ?_
   refine Cd (fun c6=> ?_) fun c6=> ?_
   ·
    refine Z3 ?_
    refine .n (cE (h:=oL (s:=QZ.1))) rfl fun g84 Ts=> ?_
    refine Z8 ?_
    refine Post.aZ rfl rfl ((ef,0)) (by exact sn (by rw [uw aT,hw,Option.bind_some,MP.ok (Classical.not_not.1 c5)];rfl) (by simp [ef])) (aB.dc [] [0,1] rfl rfl) rfl (.cons (.ra (i:=0) FA.out FC.out rfl rfl rfl rfl) ?_ (.cons (.rt rfl) ?_ .nil))
    · exact aa.refl _
    exact aa.refl _
   exfalso;omega
  exfalso;omega
 exfalso;omega
theorem JF (aq:nq v x s labs) (aT:x.Code=13):cH Tryz.prog 136 [aE (dU v),aE (aG x),aE (aW s base),ah 1 dA labs] [] (γ:=cU×Int) (vu s (fP v x s labs)) (fun _=>[]) (fun g=>bz [aE (aW g.1 base),ag .i64 g.2]):=by
 refine In 517 Tryz.func136 fun _ _ _=> ?_
 have A3:=aq.stk
 have m4:=aq.ins.A0
 have A4:=aq.ins.vo
 have oY:=aq.zI
 have hE:=aq.env
 have xq:=hE.F
 have xu:=hE.S
 have A5:=hE.L
 have A6:=hE.G
 have rT:=hE.W
 refine Z4 ?_
 refine .n (bV (.t rfl)) rfl fun b6 _=> ?_
 refine .n (az FZ.out) rfl fun b8 _=> ?_
 refine yX ?_
 refine Cd (fun c0=> ?_) fun c0=> ?_
 · exfalso;omega
 refine Z7 ?_
 refine Cd (fun c1=> ?_) fun c1=> ?_
 · exfalso;omega
 refine Z5 ?_
 refine Cd (fun c2=> ?_) fun c2=> ?_
 ·
  refine cJ ?_
  refine Cd (fun c3=> ?_) fun c3=> ?_
  ·
   have hno:=tw (L:=labs) c3
   refine dw ?_
   refine Post.aZ rfl rfl ((s,2)) (by exact dN (by decide) (by rw [qh aT,hno];rfl) (by omega)) (aB.dc [] [0,1] rfl rfl) rfl (.cons (.ra (i:=0) FA.out FC.out rfl rfl rfl rfl) ?_ (.cons (.rt rfl) ?_ .nil))
   · exact aa.refl _
   exact aa.refl _
  obtain ⟨w,hw,nS⟩:=tv (L:=labs) m4 c3
  have hwl:w.length≤20:=aq.Zd w (List.mem_of_getElem? nS)
  refine dw ?_
  refine .p (cI (labs.length-1-x.A.toNat) (h:=nS)) rfl ?_
  refine dH ?_
  refine Cd (fun c4=> ?_) fun c4=> ?_
  ·
   refine Z4 ?_
   refine .p (cB aj [127]) rfl ?_
   refine .n (cE (h:=bQ (s:=s) (l:=[127]) (by omega))) rfl fun g63 h63=> ?_
   refine jN ?_
   refine Cd (fun c5=> ?_) fun c5=> ?_
   ·
    refine dH ?_
    refine Post.aZ rfl rfl (g63) (by exact dN c5 (by rw [qh aT,hw,Option.bind_some,nL,uE,h63.no c5];rfl) (by have:=h63.2;omega)) (aB.dc [] [0,1] rfl rfl) rfl (.cons (.ra (i:=0) FA.out FC.out rfl rfl rfl rfl) ?_ (.cons (.rt rfl) ?_ .nil))
    · exact aa.refl _
    exact aa.refl _
   refine Z6 ?_
   refine .n (cE (h:=bQ (s:=g63.1) (l:=w) (by have:=h63.2;omega))) rfl fun QZ MP=> ?_
   refine iw ?_
   refine Cd (fun c6=> ?_) fun c6=> ?_
   ·
    refine dH ?_
    refine Post.aZ rfl rfl (QZ) (by exact dN c6 (by rw [qh aT,hw,Option.bind_some,nL,uE,h63.ok (Classical.not_not.1 c5),Option.bind_some,MP.no c6];rfl) (by have:=h63.2;have:=MP.2;omega)) (aB.dc [] [0,1] rfl rfl) rfl (.cons (.ra (i:=0) FA.out FC.out rfl rfl rfl rfl) ?_ (.cons (.rt rfl) ?_ .nil))
    · exact aa.refl _
    exact aa.refl _
   refine cJ ?_
   refine Cd (fun c7=> ?_) fun c7=> ?_
   · exfalso;omega
   refine Z6 ?_
   refine .n (cE (h:=dB (s:=QZ.1) (l:=w) (by have:=h63.2;have:=MP.2;omega) (by omega))) rfl fun g87 h87=> ?_
   refine Z7 ?_
   refine Post.aZ rfl rfl ((bq QZ.1 w,0)) (by exact sn (by rw [qh aT,hw,Option.bind_some,nL,uE,h63.ok (Classical.not_not.1 c5),Option.bind_some,MP.ok (Classical.not_not.1 c6)];rfl) (by have:=h63.2;have:=MP.2;simp only [bq,List.length_append];omega)) (aB.dc [] [0,1] rfl rfl) rfl (.cons (.ra (i:=0) FA.out FC.out rfl rfl rfl rfl) ?_ (.cons (.rt rfl) ?_ .nil))
   · exact aa.refl _
   exact aa.refl _
  exfalso;omega
 exfalso;omega
theorem JG (aq:nq v x s labs) (aT:x.Code=15):cH Tryz.prog 136 [aE (dU v),aE (aG x),aE (aW s base),ah 1 dA labs] [] (γ:=cU×Int) (vu s (fP v x s labs)) (fun _=>[]) (fun g=>bz [aE (aW g.1 base),ag .i64 g.2]):=by
 refine In 517 Tryz.func136 fun _ _ _=> ?_
 have A3:=aq.stk
 have m4:=aq.ins.A0
 have A4:=aq.ins.vo
 have oY:=aq.zI
 have hE:=aq.env
 have xq:=hE.F
 have xu:=hE.S
 have A5:=hE.L
 have A6:=hE.G
 have rT:=hE.W
 refine Z4 ?_
 refine .n (bV (.t rfl)) rfl fun b6 _=> ?_
 refine .n (az FZ.out) rfl fun b8 _=> ?_
 refine yX ?_
 refine Cd (fun c0=> ?_) fun c0=> ?_
 · exfalso;omega
 refine Z7 ?_
 refine Cd (fun c1=> ?_) fun c1=> ?_
 · exfalso;omega
 refine Z5 ?_
 refine Cd (fun c2=> ?_) fun c2=> ?_
 · exfalso;omega
 refine Z6 ?_
 refine Cd (fun c3=> ?_) fun c3=> ?_
 · exfalso;omega
 refine Z6 ?_
 refine Cd (fun c4=> ?_) fun c4=> ?_
 ·
  refine Z6 ?_
  refine .n (cE (h:=bQ (s:=s) (l:=v.cL.R) (by omega))) rfl fun TK Q6=> ?_
  refine iw ?_
  refine Cd (fun c5=> ?_) fun c5=> ?_
  ·
   refine dH ?_
   refine Post.aZ rfl rfl (TK) (by exact dN c5 (by rw [AD aT,Q6.no c5];rfl) (by have:=Q6.2;omega)) (aB.dc [] [0,1] rfl rfl) rfl (.cons (.ra (i:=0) FA.out FC.out rfl rfl rfl rfl) ?_ (.cons (.rt rfl) ?_ .nil))
   · exact aa.refl _
   exact aa.refl _
  refine Z5 ?_
  refine .n (cE (h:=oL (s:=TK.1))) rfl fun aZ1 aZ2=> ?_
  refine Z7 ?_
  refine Post.aZ rfl rfl ((ef,0)) (by exact sn (by rw [AD aT,Q6.ok (Classical.not_not.1 c5)];rfl) (by simp [ef])) (aB.dc [] [0,1] rfl rfl) rfl (.cons (.ra (i:=0) FA.out FC.out rfl rfl rfl rfl) ?_ (.cons (.rt rfl) ?_ .nil))
  · exact aa.refl _
  exact aa.refl _
 exfalso;omega
theorem JH (aq:nq v x s labs) (aT:x.Code=16):cH Tryz.prog 136 [aE (dU v),aE (aG x),aE (aW s base),ah 1 dA labs] [] (γ:=cU×Int) (vu s (fP v x s labs)) (fun _=>[]) (fun g=>bz [aE (aW g.1 base),ag .i64 g.2]):=by
 refine In 517 Tryz.func136 fun _ _ _=> ?_
 have A3:=aq.stk
 have m4:=aq.ins.A0
 have A4:=aq.ins.vo
 have oY:=aq.zI
 have hE:=aq.env
 have xq:=hE.F
 have xu:=hE.S
 have A5:=hE.L
 have A6:=hE.G
 have rT:=hE.W
 refine Z4 ?_
 refine .n (bV (.t rfl)) rfl fun b6 _=> ?_
 refine .n (az FZ.out) rfl fun b8 _=> ?_
 refine yX ?_
 refine Cd (fun c0=> ?_) fun c0=> ?_
 · exfalso;omega
 refine Z7 ?_
 refine Cd (fun c1=> ?_) fun c1=> ?_
 · exfalso;omega
 refine Z5 ?_
 refine Cd (fun c2=> ?_) fun c2=> ?_
 · exfalso;omega
 refine Z6 ?_
 refine Cd (fun c3=> ?_) fun c3=> ?_
 · exfalso;omega
 refine Z6 ?_
 refine Cd (fun c4=> ?_) fun c4=> ?_
 · exfalso;omega
 refine Z6 ?_
 refine Cd (fun c5=> ?_) fun c5=> ?_
 ·
  refine dH ?_
  refine Cd (fun c6=> ?_) fun c6=> ?_
  ·
   have hno:=iF (L:=v.ax) c6
   refine dw ?_
   refine Post.aZ rfl rfl ((s,2)) (by exact dN (by decide) (by rw [xI aT,hno];rfl) (by omega)) (aB.dc [] [0,1] rfl rfl) rfl (.cons (.ra (i:=0) FA.out FC.out rfl rfl rfl rfl) ?_ (.cons (.rt rfl) ?_ .nil))
   · exact aa.refl _
   exact aa.refl _
  obtain ⟨sg,hw,nS⟩:=gK (L:=v.ax) m4 c6
  refine Z3 ?_
  have R1:=hE.sf sg (List.mem_of_getElem? nS)
  refine .bG [(0,1),(1,0),(2,0),(3,0),(4,0),(5,0),(6,0),(7,0),(8,2),(9,0),(10,0),(11,0),(12,3)] 13 1 FM.out (by kernel_rfl) (k:= ?_)
  refine Z5 ?_
  refine .p rfl (fun _=>aP (j:=x.A.toNat) FU.out FC.out rfl (.t rfl) (.t rfl) (by omega) nS) ?_
  refine Z2 ?_
  refine .e rfl (cE (h:=bQ (s:=s) (l:=sg.P) (by omega))) fun Q7 TL=> ?_
  refine Z3 ?_
  refine .s rfl (fy (i:=1) FC.out rfl (.t rfl) (.t rfl) rfl rfl rfl) ?_
  refine .fin ?_
  refine Z4 ?_
  refine .bG [(0,1),(1,0),(2,0),(3,0),(4,0),(5,0),(6,0),(7,0),(9,0),(8,2),(10,3)] 11 1 FM.out (by kernel_rfl) (k:= ?_)
  refine Z5 ?_
  refine .p rfl (fun _=>aP (j:=x.A.toNat) FU.out FC.out rfl (.t rfl) (.t rfl) (by omega) nS) ?_
  refine Z3 ?_
  refine .e rfl (cE (h:=dB (s:=Q7.1) (l:=sg.R) (by have:=TL.2;omega) (by omega))) fun aZ3 aZ4=> ?_
  refine .s rfl (fy (i:=0) FC.out rfl (.t rfl) (.t rfl) rfl rfl rfl) ?_
  refine .fin ?_
  refine Z6 ?_
  refine Post.aZ rfl rfl ((bq Q7.1 sg.R,Q7.2)) (by exact oJ (by rw [xI aT,hw,Option.bind_some]) TL R1.2) (aB.dc [] [0,1] rfl rfl) rfl (.cons (.ra (i:=0) FA.out FC.out rfl rfl rfl rfl) ?_ (.cons (.rt rfl) ?_ .nil))
  · exact aa.refl _
  exact aa.refl _
 exfalso;omega
theorem JI (aq:nq v x s labs) (aT:x.Code=26):cH Tryz.prog 136 [aE (dU v),aE (aG x),aE (aW s base),ah 1 dA labs] [] (γ:=cU×Int) (vu s (fP v x s labs)) (fun _=>[]) (fun g=>bz [aE (aW g.1 base),ag .i64 g.2]):=by
 refine In 517 Tryz.func136 fun _ _ _=> ?_
 have A3:=aq.stk
 have m4:=aq.ins.A0
 have A4:=aq.ins.vo
 have oY:=aq.zI
 have hE:=aq.env
 have xq:=hE.F
 have xu:=hE.S
 have A5:=hE.L
 have A6:=hE.G
 have rT:=hE.W
 refine Z4 ?_
 refine .n (bV (.t rfl)) rfl fun b6 _=> ?_
 refine .n (az FZ.out) rfl fun b8 _=> ?_
 refine yX ?_
 refine Cd (fun c0=> ?_) fun c0=> ?_
 · exfalso;omega
 refine Z7 ?_
 refine Cd (fun c1=> ?_) fun c1=> ?_
 · exfalso;omega
 refine Z5 ?_
 refine Cd (fun c2=> ?_) fun c2=> ?_
 · exfalso;omega
 refine Z6 ?_
 refine Cd (fun c3=> ?_) fun c3=> ?_
 · exfalso;omega
 refine Z6 ?_
 refine Cd (fun c4=> ?_) fun c4=> ?_
 · exfalso;omega
 refine Z6 ?_
 refine Cd (fun c5=> ?_) fun c5=> ?_
 · exfalso;omega
 refine Z6 ?_
 refine Cd (fun c6=> ?_) fun c6=> ?_
 · exfalso;omega
 refine Z6 ?_
 refine Cd (fun c7=> ?_) fun c7=> ?_
 ·
  refine Z3 ?_
  refine .n (cE (h:=oK (s:=s) (w:=0) (by omega))) rfl fun Q8 TM=> ?_
  refine Eh ?_
  refine Post.aZ rfl rfl ((Q8.1,Q8.2.2)) (by exact ⟨by (rw [Fm aT];rcases TM.1 with ⟨h1,h2⟩|⟨h1,h2⟩;exact .inl ⟨h1,by rw [h2];rfl⟩;exact .inr ⟨h1,by rw [h2];rfl⟩),by have:=TM.2;(show Q8.1.1.length≤_;omega)⟩) (aB.dc [] [0,1] rfl rfl) rfl (.cons (.ra (i:=0) FA.out FC.out rfl rfl rfl rfl) ?_ (.cons (.rt rfl) ?_ .nil))
  · exact aa.refl _
  exact aa.refl _
 exfalso;omega
theorem JJ (aq:nq v x s labs) (aT:x.Code=27):cH Tryz.prog 136 [aE (dU v),aE (aG x),aE (aW s base),ah 1 dA labs] [] (γ:=cU×Int) (vu s (fP v x s labs)) (fun _=>[]) (fun g=>bz [aE (aW g.1 base),ag .i64 g.2]):=by
 refine In 517 Tryz.func136 fun _ _ _=> ?_
 have A3:=aq.stk
 have m4:=aq.ins.A0
 have A4:=aq.ins.vo
 have oY:=aq.zI
 have hE:=aq.env
 have xq:=hE.F
 have xu:=hE.S
 have A5:=hE.L
 have A6:=hE.G
 have rT:=hE.W
 refine Z4 ?_
 refine .n (bV (.t rfl)) rfl fun b6 _=> ?_
 refine .n (az FZ.out) rfl fun b8 _=> ?_
 refine yX ?_
 refine Cd (fun c0=> ?_) fun c0=> ?_
 · exfalso;omega
 refine Z7 ?_
 refine Cd (fun c1=> ?_) fun c1=> ?_
 · exfalso;omega
 refine Z5 ?_
 refine Cd (fun c2=> ?_) fun c2=> ?_
 · exfalso;omega
 refine Z6 ?_
 refine Cd (fun c3=> ?_) fun c3=> ?_
 · exfalso;omega
 refine Z6 ?_
 refine Cd (fun c4=> ?_) fun c4=> ?_
 · exfalso;omega
 refine Z6 ?_
 refine Cd (fun c5=> ?_) fun c5=> ?_
 · exfalso;omega
 refine Z6 ?_
 refine Cd (fun c6=> ?_) fun c6=> ?_
 · exfalso;omega
 refine Z6 ?_
 refine Cd (fun c7=> ?_) fun c7=> ?_
 · exfalso;omega
 refine Z6 ?_
 refine Cd (fun c8=> ?_) fun c8=> ?_
 ·
  refine Z4 ?_
  refine .p (cB aj [127]) rfl ?_
  refine .n (cE (h:=bQ (s:=s) (l:=[127]) (by omega))) rfl fun TN A7=> ?_
  refine iw ?_
  refine Cd (fun c9=> ?_) fun c9=> ?_
  ·
   refine dH ?_
   refine Post.aZ rfl rfl (TN) (by exact dN c9 (by rw [rX aT,A7.no c9];rfl) (by have:=A7.2;omega)) (aB.dc [] [0,1] rfl rfl) rfl (.cons (.ra (i:=0) FA.out FC.out rfl rfl rfl rfl) ?_ (.cons (.rt rfl) ?_ .nil))
   · exact aa.refl _
   exact aa.refl _
  refine dw ?_
  refine .n (cE (h:=oK (s:=TN.1) (w:=0) (by have:=A7.2;omega))) rfl fun Ox JK=> ?_
  refine BY ?_
  refine Cd (fun jH=> ?_) fun jH=> ?_
  ·
   refine dH ?_
   refine Post.aZ rfl rfl ((Ox.1,Ox.2.2)) (by exact dN jH (by rw [rX aT,A7.ok (Classical.not_not.1 c9),Option.bind_some,JK.no jH];rfl) (by have:=A7.2;have:=JK.2;omega)) (aB.dc [] [0,1] rfl rfl) rfl (.cons (.ra (i:=0) FA.out FC.out rfl rfl rfl rfl) ?_ (.cons (.rt rfl) ?_ .nil))
   · exact aa.refl _
   exact aa.refl _
  refine Z6 ?_
  refine .n (cE (h:=oK (s:=Ox.1) (w:=Ox.2.1) (by have:=A7.2;have:=JK.2;omega))) rfl fun Gn Q9=> ?_
  refine jN ?_
  refine .p (cB aj [Gn.2.1]) rfl ?_
  refine .n (cE (h:=dB (s:=Gn.1) (l:=[Gn.2.1]) (by have:=A7.2;have:=JK.2;have:=Q9.2;omega) (by simp))) rfl fun aZ5 aZ6=> ?_
  refine Z8 ?_
  refine Post.aZ rfl rfl ((bq Gn.1 [Gn.2.1],Gn.2.2)) (by exact ⟨by (rw [rX aT,A7.ok (Classical.not_not.1 c9),Option.bind_some,JK.ok (Classical.not_not.1 jH),Option.bind_some];rcases Q9.1 with ⟨h1,h2⟩|⟨h1,h2⟩;exact .inl ⟨h1,by rw [h2];rfl⟩;exact .inr ⟨h1,by rw [h2];rfl⟩),by have:=A7.2;have:=JK.2;have:=Q9.2;(show (Gn.1.1++_).length≤_;rw [List.length_append];simp only [List.length_cons,List.length_nil];omega)⟩) (aB.dc [] [0,1] rfl rfl) rfl (.cons (.ra (i:=0) FA.out FC.out rfl rfl rfl rfl) ?_ (.cons (.rt rfl) ?_ .nil))
  · exact aa.refl _
  exact aa.refl _
 exfalso;omega
theorem JL (aq:nq v x s labs) (aT:x.Code=14):cH Tryz.prog 136 [aE (dU v),aE (aG x),aE (aW s base),ah 1 dA labs] [] (γ:=cU×Int) (vu s (fP v x s labs)) (fun _=>[]) (fun g=>bz [aE (aW g.1 base),ag .i64 g.2]):=by
 refine In 517 Tryz.func136 fun _ _ _=> ?_
 have A3:=aq.stk
 have m4:=aq.ins.A0
 have A4:=aq.ins.vo
 have oY:=aq.zI
 have hE:=aq.env
 have xq:=hE.F
 have xu:=hE.S
 have A5:=hE.L
 have A6:=hE.G
 have rT:=hE.W
 have hLn:=aq.ins.Ln
 refine Z4 ?_
 refine .n (bV (.t rfl)) rfl fun b6 _=> ?_
 refine .n (az FZ.out) rfl fun b8 _=> ?_
 refine yX ?_
 refine Cd (fun c0=> ?_) fun c0=> ?_
 · exfalso;omega
 refine Z7 ?_
 refine Cd (fun c1=> ?_) fun c1=> ?_
 · exfalso;omega
 refine Z5 ?_
 refine Cd (fun c2=> ?_) fun c2=> ?_
 · exfalso;omega
 refine Z6 ?_
 refine Cd (fun c3=> ?_) fun c3=> ?_
 ·
  refine cJ ?_
  refine Cd (fun c4=> ?_) fun c4=> ?_
  ·
   have hno:=tw (L:=labs) c4
   refine dw ?_
   refine Post.aZ rfl rfl ((s,2)) (by exact dN (by decide) (by rw [lp aT,hno];rfl) (by omega)) (aB.dc [] [0,1] rfl rfl) rfl (.cons (.ra (i:=0) FA.out FC.out rfl rfl rfl rfl) ?_ (.cons (.rt rfl) ?_ .nil))
   · exact aa.refl _
   exact aa.refl _
  obtain ⟨w,hw,nS⟩:=tv (L:=labs) m4 c4
  have hwl:w.length≤20:=aq.Zd w (List.mem_of_getElem? nS)
  refine dw ?_
  refine .p (cI (labs.length-1-x.A.toNat) (h:=nS)) rfl ?_
  refine dw ?_
  refine .aY (σ:=Nat) (fun _=>[aF b8 (List.map af [.slice none 0 0, .bool false, .int .i64 0]),aF b6 (aW s base)]) (fun k=>[(16,ag .i64 (k:Int))]) (fun k=>k≤x.L.length∧∀n∈x.L.take k,n<(labs.length:Int)) (fun k=>x.L.length-k) 0 ⟨Nat.zero_le _,by simp⟩ rfl ?_ ?_
  · exact (.get rfl (aa.refl _) (.refl _ _))
  rintro k ⟨hk,hall⟩
  refine cJ ?_
  refine Cd (fun c5=> ?_) fun c5=> ?_
  ·
   obtain ⟨n,hn⟩:=ai (xs:=x.L) (k:=k) (by omega)
   have hn0:=aq.ins.L0 n (List.mem_of_getElem? hn)
   refine Z9 ?_
   refine .p (cI k (h:=hn)) rfl ?_
   refine Z6 ?_
   refine Cd (fun c6=> ?_) fun c6=> ?_
   ·
    refine mM ?_
    refine Post.aZ rfl rfl ((s,2)) (by exact dN (by decide) (by rw [lp aT,hw,Option.bind_some];exact if_neg (fun h=>by have h9:=h n (List.mem_of_getElem? hn);rw [tw c6] at h9;cases h9)) (by omega)) (aB.dc [] [0,1] rfl rfl) rfl (.cons (.ra (i:=0) FA.out FC.out rfl rfl rfl rfl) ?_ (.cons (.rt rfl) ?_ .nil))
    · exact aa.refl _
    exact aa.refl _
   refine Z8 ?_
   refine .round (k+1) ⟨by omega,fun y hy=>by (rw [←bt hn] at hy;rcases List.mem_append.1 hy with hy|hy;exact hall y hy;(simp only [List.mem_singleton] at hy;subst hy;omega))⟩ (by omega) rfl ?_
   exact (.get rfl (aa.int (by omega)) ((.keep 17 rfl rfl)))
  have Mm:∀n∈x.L,n<(labs.length:Int):=fun n hn=>hall n (by rw [List.take_of_length_le (by omega)];exact hn)
  refine dH ?_
  refine .aY (σ:=Nat) (fun _=>[aF b8 (List.map af [.slice none 0 0, .bool false, .int .i64 0]),aF b6 (aW s base)]) (fun k=>[(17,ag .i64 (k:Int))]) (fun k=>k≤x.L.length∧∀n∈x.L.take k,hU labs n=some w) (fun k=>x.L.length-k) 0 ⟨Nat.zero_le _,by simp⟩ rfl ?_ ?_
  · exact (.get rfl (aa.refl _) (.refl _ _))
  rintro k ⟨hk,hall⟩
  refine cJ ?_
  refine Cd (fun c7=> ?_) fun c7=> ?_
  ·
   obtain ⟨n,hn⟩:=ai (xs:=x.L) (k:=k) (by omega)
   have hnm:=List.mem_of_getElem? hn
   have hn0:=aq.ins.L0 n hnm
   have S6:=Mm n hnm
   obtain ⟨w2,ML,hw4⟩:=tv (L:=labs) hn0 (by omega)
   refine dH ?_
   refine .p (cI k (h:=hn)) rfl ?_
   refine Z3 ?_
   refine .p (cI (labs.length-1-n.toNat) (h:=hw4)) rfl ?_
   refine Z2 ?_
   refine .p (cA (h:=Gm)) rfl ?_
   refine Z3 ?_
   refine Cd (fun c8=> ?_) fun c8=> ?_
   ·
    refine mM ?_
    refine Post.aZ rfl rfl ((s,5)) (by exact dN (by decide) (by rw [lp aT,hw,Option.bind_some];exact if_neg (fun h=>c8 (by have h9:=h n hnm;rw [ML] at h9;exact Option.some.inj h9))) (by omega)) (aB.dc [] [0,1] rfl rfl) rfl (.cons (.ra (i:=0) FA.out FC.out rfl rfl rfl rfl) ?_ (.cons (.rt rfl) ?_ .nil))
    · exact aa.refl _
    exact aa.refl _
   refine Z8 ?_
   refine .round (k+1) ⟨by omega,fun y hy=>by (rw [←bt hn] at hy;rcases List.mem_append.1 hy with hy|hy;exact hall y hy;(simp only [List.mem_singleton] at hy;subst hy;exact ML.trans (by rw [Classical.not_not.1 c8])))⟩ (by omega) rfl ?_
   exact (.get rfl (aa.int (by omega)) ((.keep 24 rfl rfl)))
  have rm:∀n∈x.L,hU labs n=some w:=fun n hn=>hall n (by rw [List.take_of_length_le (by omega)];exact hn)
  refine Z6 ?_
  refine .zU (FR:=[aF b6 (aW s base)]) [(0,1),(2,0),(4,0),(5,0),(1,4),(3,4),(6,4),(7,4),(8,0),(9,0),(10,0),(11,3)] 12 1 FM.out (by kernel_rfl) ?_
  refine .o rfl (nu (i:=0) FA.out FC.out rfl (.t rfl) rfl rfl) (aB.dc [1] [0] rfl rfl) ?_
  refine Z2 ?_
  refine .p rfl (fun _=>bu (enc:=aj) [127] FU.out FC.out rfl FZ.out rfl (.cons (.t rfl) .nil) rfl rfl rfl rfl rfl) ?_
  refine .a rfl (cO aj ([]:List UInt8) FU.out FC.out rfl FZ.out rfl .nil rfl rfl rfl rfl rfl) (fun _ _=>(aB.dc [2] [0,1] rfl rfl)) fun Ze _=> ?_
  refine .a rfl (aH (i:=0) FU.out FU.out FC.out rfl FZ.out rfl FY.out (.t rfl) (.t rfl) rfl (by simp<;>omega) (by simp<;>omega)) (fun _ _=>(aB.dc [2] [0,1] rfl rfl)) fun aZ7 _=> ?_
  refine .a rfl (gL.fu (G:=fun g=>g) (oP:=fun _=>_) (xs:=fun _=>_) (aH (i:=0) FU.out FU.out FC.out rfl FZ.out rfl FY.out (.t rfl) (.t rfl) rfl (by simp<;>omega) (by simp<;>omega))) (fun _ _=>(aB.dc [1] [0] rfl rfl)) fun _ _=> ?_
  refine .a rfl (cE (h:=bQ (s:=s) (l:=([]++w)++[127]) (by omega))) (fun _ _=>(aB.dc [1] [0] rfl rfl)) fun Ra Rb=> ?_
  refine Z3 ?_
  refine .s rfl (fy (i:=1) FC.out rfl (.t rfl) (.t rfl) rfl rfl rfl) ?_
  refine .fin ?_
  refine cJ ?_
  refine Cd (fun c9=> ?_) fun c9=> ?_
  ·
   refine dH ?_
   refine Post.aZ rfl rfl (Ra) (by exact dN c9 (by rw [lp aT,hw,Option.bind_some];exact (if_pos rm).trans (by rw [show cF s (w++[127])=none from Rb.no c9];rfl)) (by have:=Rb.2;omega)) (aB.dc [] [0,1] rfl rfl) rfl (.cons (.ra (i:=0) FA.out FC.out rfl rfl rfl rfl) ?_ (.cons (.rt rfl) ?_ .nil))
   · exact aa.refl _
   exact aa.refl _
  refine Z5 ?_
  refine .n (cE (h:=oL (s:=Ra.1))) rfl fun aZ8 aZ9=> ?_
  refine Z7 ?_
  refine Post.aZ rfl rfl ((ef,0)) (by exact sn (by rw [lp aT,hw,Option.bind_some];exact (if_pos rm).trans (by rw [show cF s (w++[127])=some Ra.1 from Rb.ok (Classical.not_not.1 c9)];rfl)) (by simp [ef])) (aB.dc [] [0,1] rfl rfl) rfl (.cons (.ra (i:=0) FA.out FC.out rfl rfl rfl rfl) ?_ (.cons (.rt rfl) ?_ .nil))
  · exact aa.refl _
  exact aa.refl _
 exfalso;omega
theorem JM (aq:nq v x s labs) (aT:x.Code=17):cH Tryz.prog 136 [aE (dU v),aE (aG x),aE (aW s base),ah 1 dA labs] [] (γ:=cU×Int) (vu s (fP v x s labs)) (fun _=>[]) (fun g=>bz [aE (aW g.1 base),ag .i64 g.2]):=by
 refine In 517 Tryz.func136 fun _ _ _=> ?_
 have A3:=aq.stk
 have m4:=aq.ins.A0
 have A4:=aq.ins.vo
 have oY:=aq.zI
 have hE:=aq.env
 have xq:=hE.F
 have xu:=hE.S
 have A5:=hE.L
 have A6:=hE.G
 have rT:=hE.W
 refine Z4 ?_
 refine .n (bV (.t rfl)) rfl fun b6 _=> ?_
 refine .n (az FZ.out) rfl fun b8 _=> ?_
 refine yX ?_
 refine Cd (fun c0=> ?_) fun c0=> ?_
 · exfalso;omega
 refine Z7 ?_
 refine Cd (fun c1=> ?_) fun c1=> ?_
 · exfalso;omega
 refine Z5 ?_
 refine Cd (fun c2=> ?_) fun c2=> ?_
 · exfalso;omega
 refine Z6 ?_
 refine Cd (fun c3=> ?_) fun c3=> ?_
 · exfalso;omega
 refine Z6 ?_
 refine Cd (fun c4=> ?_) fun c4=> ?_
 · exfalso;omega
 refine Z6 ?_
 refine Cd (fun c5=> ?_) fun c5=> ?_
 · exfalso;omega
 refine Z6 ?_
 refine Cd (fun c6=> ?_) fun c6=> ?_
 ·
  refine XF ?_
  refine Cd (fun c7=> ?_) fun c7=> ?_
  ·
   refine dw ?_
   refine Post.aZ rfl rfl ((s,2)) (by exact dN (by decide) (by (rw [ux aT];rcases c7 with (h|h)|h;(rw [iF h];rfl);(cases dL v.bF x.A with|none=>rfl|some g=>exact if_neg (fun h2=>h h2.1));(cases dL v.bF x.A with|none=>rfl|some g=>exact if_neg (fun h2=>h h2.2)))) (by omega)) (aB.dc [] [0,1] rfl rfl) rfl (.cons (.ra (i:=0) FA.out FC.out rfl rfl rfl rfl) ?_ (.cons (.rt rfl) ?_ .nil))
   · exact aa.refl _
   exact aa.refl _
  obtain ⟨sg,hw,nS⟩:=gK (L:=v.bF) m4 (fun h=>c7 (.inl (.inl h)))
  have hxB:x.B=0:=Classical.byContradiction fun h=>c7 (.inl (.inr h))
  have hvT:v.Table:=Classical.byContradiction fun h=>c7 (.inr h)
  have R1:=hE.ss sg (List.mem_of_getElem? nS)
  refine Z3 ?_
  refine .zU (FR:=[aF b6 (aW s base)]) [(0,1),(2,0),(3,0),(4,0),(5,0),(6,0),(7,0),(8,0),(10,0),(11,0),(1,4),(9,4),(12,4),(13,4),(14,0),(15,0),(16,0),(17,3)] 18 1 FM.out (by kernel_rfl) ?_
  refine .o rfl (nu (i:=0) FA.out FC.out rfl (.t rfl) rfl rfl) (aB.dc [1] [0] rfl rfl) ?_
  refine Z4 ?_
  refine .p rfl (fun _=>aP (j:=x.A.toNat) FU.out FC.out rfl (.t rfl) (.t rfl) (by omega) nS) ?_
  refine Z3 ?_
  refine .p rfl (fun _=>bu (enc:=aj) [127] FU.out FC.out rfl FZ.out rfl (.cons (.t rfl) .nil) rfl rfl rfl rfl rfl) ?_
  refine .a rfl (cO aj ([]:List UInt8) FU.out FC.out rfl FZ.out rfl .nil rfl rfl rfl rfl rfl) (fun _ _=>(aB.dc [2] [0,1] rfl rfl)) fun ba0 _=> ?_
  refine .a rfl (aH (i:=0) FU.out FU.out FC.out rfl FZ.out rfl FY.out (.t rfl) (.t rfl) rfl (by simp<;>omega) (by simp<;>omega)) (fun _ _=>(aB.dc [2] [0,1] rfl rfl)) fun ba1 _=> ?_
  refine .a rfl (gL.fu (G:=fun g=>g) (oP:=fun _=>_) (xs:=fun _=>_) (aH (i:=0) FU.out FU.out FC.out rfl FZ.out rfl FY.out (.t rfl) (.t rfl) rfl (by simp<;>omega) (by simp<;>omega))) (fun _ _=>(aB.dc [1] [0] rfl rfl)) fun _ _=> ?_
  refine .a rfl (cE (h:=bQ (s:=s) (l:=([]++sg.P)++[127]) (by omega))) (fun _ _=>(aB.dc [1] [0] rfl rfl)) fun Rc TO=> ?_
  refine Z3 ?_
  refine .s rfl (fy (i:=1) FC.out rfl (.t rfl) (.t rfl) rfl rfl rfl) ?_
  refine .fin ?_
  refine Z4 ?_
  refine .bG [(0,1),(1,0),(2,0),(3,0),(4,0),(5,0),(6,0),(7,0),(9,0),(8,2),(10,3)] 11 1 FM.out (by kernel_rfl) (k:= ?_)
  refine Z5 ?_
  refine .p rfl (fun _=>aP (j:=x.A.toNat) FU.out FC.out rfl (.t rfl) (.t rfl) (by omega) nS) ?_
  refine Z3 ?_
  refine .e rfl (cE (h:=dB (s:=Rc.1) (l:=sg.R) (by have:=TO.2;omega) (by omega))) fun ba2 ba3=> ?_
  refine .s rfl (fy (i:=0) FC.out rfl (.t rfl) (.t rfl) rfl rfl rfl) ?_
  refine .fin ?_
  refine Z6 ?_
  refine Post.aZ rfl rfl ((bq Rc.1 sg.R,Rc.2)) (by exact oJ (i:=sg.P++[127]) (by rw [ux aT,hw,Option.bind_some];exact if_pos ⟨hxB,hvT⟩) TO R1.2) (aB.dc [] [0,1] rfl rfl) rfl (.cons (.ra (i:=0) FA.out FC.out rfl rfl rfl rfl) ?_ (.cons (.rt rfl) ?_ .nil))
  · exact aa.refl _
  exact aa.refl _
 exfalso;omega
theorem JN (aq:nq v x s labs) (aT:x.Code=32):cH Tryz.prog 136 [aE (dU v),aE (aG x),aE (aW s base),ah 1 dA labs] [] (γ:=cU×Int) (vu s (fP v x s labs)) (fun _=>[]) (fun g=>bz [aE (aW g.1 base),ag .i64 g.2]):=by
 refine In 517 Tryz.func136 fun _ _ _=> ?_
 have A3:=aq.stk
 have m4:=aq.ins.A0
 have A4:=aq.ins.vo
 have oY:=aq.zI
 have hE:=aq.env
 have xq:=hE.F
 have xu:=hE.S
 have A5:=hE.L
 have A6:=hE.G
 have rT:=hE.W
 refine Z4 ?_
 refine .n (bV (.t rfl)) rfl fun b6 _=> ?_
 refine .n (az FZ.out) rfl fun b8 _=> ?_
 refine yX ?_
 refine Cd (fun c0=> ?_) fun c0=> ?_
 · exfalso;omega
 refine Z7 ?_
 refine Cd (fun c1=> ?_) fun c1=> ?_
 · exfalso;omega
 refine Z5 ?_
 refine Cd (fun c2=> ?_) fun c2=> ?_
 · exfalso;omega
 refine Z6 ?_
 refine Cd (fun c3=> ?_) fun c3=> ?_
 · exfalso;omega
 refine Z6 ?_
 refine Cd (fun c4=> ?_) fun c4=> ?_
 · exfalso;omega
 refine Z6 ?_
 refine Cd (fun c5=> ?_) fun c5=> ?_
 · exfalso;omega
 refine Z6 ?_
 refine Cd (fun c6=> ?_) fun c6=> ?_
 · exfalso;omega
 refine Z6 ?_
 refine Cd (fun c7=> ?_) fun c7=> ?_
 · exfalso;omega
 refine Z6 ?_
 refine Cd (fun c8=> ?_) fun c8=> ?_
 · exfalso;omega
 refine Z7 ?_
 refine Cd (fun c9=> ?_) fun c9=> ?_
 ·
  refine Z2 ?_
  refine Cd (fun jH=> ?_) fun jH=> ?_
  ·
   refine dH ?_
   refine Cd (fun lH=> ?_) fun lH=> ?_
   ·
    have hno:=iF (L:=v.aS) lH
    refine dw ?_
    refine Post.aZ rfl rfl ((s,2)) (by exact dN (by decide) (by rw [AE aT,hno];rfl) (by omega)) (aB.dc [] [0,1] rfl rfl) rfl (.cons (.ra (i:=0) FA.out FC.out rfl rfl rfl rfl) ?_ (.cons (.rt rfl) ?_ .nil))
    · exact aa.refl _
    exact aa.refl _
   obtain ⟨t,hw,nS⟩:=gK (L:=v.aS) m4 lH
   refine Z8 ?_
   refine .p (cI x.A.toNat (h:=nS)) rfl ?_
   refine Z1 ?_
   refine .p (cB aj [t]) rfl ?_
   refine dw ?_
   refine Cd (fun nj=> ?_) fun nj=> ?_
   · exfalso;omega
   refine cJ ?_
   refine Cd (fun qJ=> ?_) fun qJ=> ?_
   ·
    refine Z3 ?_
    refine .n (cE (h:=dB (s:=s) (l:=[t]) (by omega) (by simp))) rfl fun Zf Zg=> ?_
    refine iw ?_
    refine Post.aZ rfl rfl ((bq s [t],0)) (by exact sn (by rw [AE aT,hw];rfl) (by simp only [bq,List.length_append,List.length_cons,List.length_nil];omega)) (aB.dc [] [0,1] rfl rfl) rfl (.cons (.ra (i:=0) FA.out FC.out rfl rfl rfl rfl) ?_ (.cons (.rt rfl) ?_ .nil))
    · exact aa.refl _
    exact aa.refl _
   exfalso;omega
  exfalso;omega
 exfalso;omega
theorem JO (aq:nq v x s labs) (aT:x.Code=33):cH Tryz.prog 136 [aE (dU v),aE (aG x),aE (aW s base),ah 1 dA labs] [] (γ:=cU×Int) (vu s (fP v x s labs)) (fun _=>[]) (fun g=>bz [aE (aW g.1 base),ag .i64 g.2]):=by
 refine In 517 Tryz.func136 fun _ _ _=> ?_
 have A3:=aq.stk
 have m4:=aq.ins.A0
 have A4:=aq.ins.vo
 have oY:=aq.zI
 have hE:=aq.env
 have xq:=hE.F
 have xu:=hE.S
 have A5:=hE.L
 have A6:=hE.G
 have rT:=hE.W
 refine Z4 ?_
 refine .n (bV (.t rfl)) rfl fun b6 _=> ?_
 refine .n (az FZ.out) rfl fun b8 _=> ?_
 refine yX ?_
 refine Cd (fun c0=> ?_) fun c0=> ?_
 · exfalso;omega
 refine Z7 ?_
 refine Cd (fun c1=> ?_) fun c1=> ?_
 · exfalso;omega
 refine Z5 ?_
 refine Cd (fun c2=> ?_) fun c2=> ?_
 · exfalso;omega
 refine Z6 ?_
 refine Cd (fun c3=> ?_) fun c3=> ?_
 · exfalso;omega
 refine Z6 ?_
 refine Cd (fun c4=> ?_) fun c4=> ?_
 · exfalso;omega
 refine Z6 ?_
 refine Cd (fun c5=> ?_) fun c5=> ?_
 · exfalso;omega
 refine Z6 ?_
 refine Cd (fun c6=> ?_) fun c6=> ?_
 · exfalso;omega
 refine Z6 ?_
 refine Cd (fun c7=> ?_) fun c7=> ?_
 · exfalso;omega
 refine Z6 ?_
 refine Cd (fun c8=> ?_) fun c8=> ?_
 · exfalso;omega
 refine Z7 ?_
 refine Cd (fun c9=> ?_) fun c9=> ?_
 · exfalso;omega
 refine Z6 ?_
 refine Cd (fun jH=> ?_) fun jH=> ?_
 ·
  refine Z2 ?_
  refine Cd (fun lH=> ?_) fun lH=> ?_
  ·
   refine dH ?_
   refine Cd (fun nj=> ?_) fun nj=> ?_
   ·
    have hno:=iF (L:=v.aS) nj
    refine dw ?_
    refine Post.aZ rfl rfl ((s,2)) (by exact dN (by decide) (by rw [xJ aT,hno];rfl) (by omega)) (aB.dc [] [0,1] rfl rfl) rfl (.cons (.ra (i:=0) FA.out FC.out rfl rfl rfl rfl) ?_ (.cons (.rt rfl) ?_ .nil))
    · exact aa.refl _
    exact aa.refl _
   obtain ⟨t,hw,nS⟩:=gK (L:=v.aS) m4 nj
   refine Z8 ?_
   refine .p (cI x.A.toNat (h:=nS)) rfl ?_
   refine Z1 ?_
   refine .p (cB aj [t]) rfl ?_
   refine dw ?_
   refine Cd (fun qJ=> ?_) fun qJ=> ?_
   ·
    refine Z3 ?_
    refine .n (cE (h:=bQ (s:=s) (l:=[t]) (by omega))) rfl fun Mn Oy=> ?_
    refine mM ?_
    refine Cd (fun oT=> ?_) fun oT=> ?_
    · exfalso;omega
    refine jN ?_
    refine Post.aZ rfl rfl (Mn) (by exact Mk (by rw [xJ aT,hw];rfl) Oy) (aB.dc [] [0,1] rfl rfl) rfl (.cons (.ra (i:=0) FA.out FC.out rfl rfl rfl rfl) ?_ (.cons (.rt rfl) ?_ .nil))
    · exact aa.refl _
    exact aa.refl _
   exfalso;omega
  exfalso;omega
 exfalso;omega
theorem JP (aq:nq v x s labs) (aT:x.Code=34):cH Tryz.prog 136 [aE (dU v),aE (aG x),aE (aW s base),ah 1 dA labs] [] (γ:=cU×Int) (vu s (fP v x s labs)) (fun _=>[]) (fun g=>bz [aE (aW g.1 base),ag .i64 g.2]):=by
 refine In 517 Tryz.func136 fun _ _ _=> ?_
 have A3:=aq.stk
 have m4:=aq.ins.A0
 have A4:=aq.ins.vo
 have oY:=aq.zI
 have hE:=aq.env
 have xq:=hE.F
 have xu:=hE.S
 have A5:=hE.L
 have A6:=hE.G
 have rT:=hE.W
 refine Z4 ?_
 refine .n (bV (.t rfl)) rfl fun b6 _=> ?_
 refine .n (az FZ.out) rfl fun b8 _=> ?_
 refine yX ?_
 refine Cd (fun c0=> ?_) fun c0=> ?_
 · exfalso;omega
 refine Z7 ?_
 refine Cd (fun c1=> ?_) fun c1=> ?_
 · exfalso;omega
 refine Z5 ?_
 refine Cd (fun c2=> ?_) fun c2=> ?_
 · exfalso;omega
 refine Z6 ?_
 refine Cd (fun c3=> ?_) fun c3=> ?_
 · exfalso;omega
 refine Z6 ?_
 refine Cd (fun c4=> ?_) fun c4=> ?_
 · exfalso;omega
 refine Z6 ?_
 refine Cd (fun c5=> ?_) fun c5=> ?_
 · exfalso;omega
 refine Z6 ?_
 refine Cd (fun c6=> ?_) fun c6=> ?_
 · exfalso;omega
 refine Z6 ?_
 refine Cd (fun c7=> ?_) fun c7=> ?_
 · exfalso;omega
 refine Z6 ?_
 refine Cd (fun c8=> ?_) fun c8=> ?_
 · exfalso;omega
 refine Z7 ?_
 refine Cd (fun c9=> ?_) fun c9=> ?_
 · exfalso;omega
 refine Z6 ?_
 refine Cd (fun jH=> ?_) fun jH=> ?_
 · exfalso;omega
 refine Z5 ?_
 refine Cd (fun lH=> ?_) fun lH=> ?_
 ·
  refine dH ?_
  refine Cd (fun nj=> ?_) fun nj=> ?_
  ·
   have hno:=iF (L:=v.aS) nj
   refine dw ?_
   refine Post.aZ rfl rfl ((s,2)) (by exact dN (by decide) (by rw [xK aT,hno];rfl) (by omega)) (aB.dc [] [0,1] rfl rfl) rfl (.cons (.ra (i:=0) FA.out FC.out rfl rfl rfl rfl) ?_ (.cons (.rt rfl) ?_ .nil))
   · exact aa.refl _
   exact aa.refl _
  obtain ⟨t,hw,nS⟩:=gK (L:=v.aS) m4 nj
  refine Z8 ?_
  refine .p (cI x.A.toNat (h:=nS)) rfl ?_
  refine Z1 ?_
  refine .p (cB aj [t]) rfl ?_
  refine dw ?_
  refine Cd (fun qJ=> ?_) fun qJ=> ?_
  ·
   refine Z3 ?_
   refine .n (cE (h:=bQ (s:=s) (l:=[t]) (by omega))) rfl fun Mn Oy=> ?_
   refine mM ?_
   refine Cd (fun oT=> ?_) fun oT=> ?_
   ·
    refine Z3 ?_
    refine .n (cE (h:=dB (s:=Mn.1) (l:=[t]) (by have:=Oy.2;omega) (by simp))) rfl fun Zf Zg=> ?_
    refine iw ?_
    refine Post.aZ rfl rfl ((bq Mn.1 [t],Mn.2)) (by exact oJ (by rw [xK aT,hw];rfl) Oy (by simp)) (aB.dc [] [0,1] rfl rfl) rfl (.cons (.ra (i:=0) FA.out FC.out rfl rfl rfl rfl) ?_ (.cons (.rt rfl) ?_ .nil))
    · exact aa.refl _
    exact aa.refl _
   exfalso;omega
  exfalso;omega
 exfalso;omega
theorem JQ (aq:nq v x s labs) (aT:x.Code=35):cH Tryz.prog 136 [aE (dU v),aE (aG x),aE (aW s base),ah 1 dA labs] [] (γ:=cU×Int) (vu s (fP v x s labs)) (fun _=>[]) (fun g=>bz [aE (aW g.1 base),ag .i64 g.2]):=by
 refine In 517 Tryz.func136 fun _ _ _=> ?_
 have A3:=aq.stk
 have m4:=aq.ins.A0
 have A4:=aq.ins.vo
 have oY:=aq.zI
 have hE:=aq.env
 have xq:=hE.F
 have xu:=hE.S
 have A5:=hE.L
 have A6:=hE.G
 have rT:=hE.W
 refine Z4 ?_
 refine .n (bV (.t rfl)) rfl fun b6 _=> ?_
 refine .n (az FZ.out) rfl fun b8 _=> ?_
 refine yX ?_
 refine Cd (fun c0=> ?_) fun c0=> ?_
 · exfalso;omega
 refine Z7 ?_
 refine Cd (fun c1=> ?_) fun c1=> ?_
 · exfalso;omega
 refine Z5 ?_
 refine Cd (fun c2=> ?_) fun c2=> ?_
 · exfalso;omega
 refine Z6 ?_
 refine Cd (fun c3=> ?_) fun c3=> ?_
 · exfalso;omega
 refine Z6 ?_
 refine Cd (fun c4=> ?_) fun c4=> ?_
 · exfalso;omega
 refine Z6 ?_
 refine Cd (fun c5=> ?_) fun c5=> ?_
 · exfalso;omega
 refine Z6 ?_
 refine Cd (fun c6=> ?_) fun c6=> ?_
 · exfalso;omega
 refine Z6 ?_
 refine Cd (fun c7=> ?_) fun c7=> ?_
 · exfalso;omega
 refine Z6 ?_
 refine Cd (fun c8=> ?_) fun c8=> ?_
 · exfalso;omega
 refine Z7 ?_
 refine Cd (fun c9=> ?_) fun c9=> ?_
 · exfalso;omega
 refine Z6 ?_
 refine Cd (fun jH=> ?_) fun jH=> ?_
 · exfalso;omega
 refine Z5 ?_
 refine Cd (fun lH=> ?_) fun lH=> ?_
 · exfalso;omega
 refine Z7 ?_
 refine Cd (fun nj=> ?_) fun nj=> ?_
 ·
  refine Z2 ?_
  refine Cd (fun qJ=> ?_) fun qJ=> ?_
  ·
   refine dH ?_
   refine Cd (fun oT=> ?_) fun oT=> ?_
   ·
    have hno:=iF (L:=v.ay) oT
    refine dw ?_
    refine Post.aZ rfl rfl ((s,2)) (by exact dN (by decide) (by rw [AF aT,hno];rfl) (by omega)) (aB.dc [] [0,1] rfl rfl) rfl (.cons (.ra (i:=0) FA.out FC.out rfl rfl rfl rfl) ?_ (.cons (.rt rfl) ?_ .nil))
    · exact aa.refl _
    exact aa.refl _
   obtain ⟨t,hw,nS⟩:=gK (L:=v.ay) m4 oT
   refine Z8 ?_
   refine .p (cI x.A.toNat (h:=nS)) rfl ?_
   refine Z1 ?_
   refine .p (cB aj [t]) rfl ?_
   refine dw ?_
   refine Cd (fun tH=> ?_) fun tH=> ?_
   ·
    refine Z4 ?_
    refine .n (cE (h:=dB (s:=s) (l:=[t]) (by omega) (by simp))) rfl fun ba4 ba5=> ?_
    refine Z8 ?_
    refine Post.aZ rfl rfl ((bq s [t],0)) (by exact sn (by rw [AF aT,hw];rfl) (by simp only [bq,List.length_append,List.length_cons,List.length_nil];omega)) (aB.dc [] [0,1] rfl rfl) rfl (.cons (.ra (i:=0) FA.out FC.out rfl rfl rfl rfl) ?_ (.cons (.rt rfl) ?_ .nil))
    · exact aa.refl _
    exact aa.refl _
   exfalso;omega
  exfalso;omega
 exfalso;omega
theorem JR (aq:nq v x s labs) (aT:x.Code=36):cH Tryz.prog 136 [aE (dU v),aE (aG x),aE (aW s base),ah 1 dA labs] [] (γ:=cU×Int) (vu s (fP v x s labs)) (fun _=>[]) (fun g=>bz [aE (aW g.1 base),ag .i64 g.2]):=by
 refine In 517 Tryz.func136 fun _ _ _=> ?_
 have A3:=aq.stk
 have m4:=aq.ins.A0
 have A4:=aq.ins.vo
 have oY:=aq.zI
 have hE:=aq.env
 have xq:=hE.F
 have xu:=hE.S
 have A5:=hE.L
 have A6:=hE.G
 have rT:=hE.W
 refine Z4 ?_
 refine .n (bV (.t rfl)) rfl fun b6 _=> ?_
 refine .n (az FZ.out) rfl fun b8 _=> ?_
 refine yX ?_
 refine Cd (fun c0=> ?_) fun c0=> ?_
 · exfalso;omega
 refine Z7 ?_
 refine Cd (fun c1=> ?_) fun c1=> ?_
 · exfalso;omega
 refine Z5 ?_
 refine Cd (fun c2=> ?_) fun c2=> ?_
 · exfalso;omega
 refine Z6 ?_
 refine Cd (fun c3=> ?_) fun c3=> ?_
 · exfalso;omega
 refine Z6 ?_
 refine Cd (fun c4=> ?_) fun c4=> ?_
 · exfalso;omega
 refine Z6 ?_
 refine Cd (fun c5=> ?_) fun c5=> ?_
 · exfalso;omega
 refine Z6 ?_
 refine Cd (fun c6=> ?_) fun c6=> ?_
 · exfalso;omega
 refine Z6 ?_
 refine Cd (fun c7=> ?_) fun c7=> ?_
 · exfalso;omega
 refine Z6 ?_
 refine Cd (fun c8=> ?_) fun c8=> ?_
 · exfalso;omega
 refine Z7 ?_
 refine Cd (fun c9=> ?_) fun c9=> ?_
 · exfalso;omega
 refine Z6 ?_
 refine Cd (fun jH=> ?_) fun jH=> ?_
 · exfalso;omega
 refine Z5 ?_
 refine Cd (fun lH=> ?_) fun lH=> ?_
 · exfalso;omega
 refine Z7 ?_
 refine Cd (fun nj=> ?_) fun nj=> ?_
 · exfalso;omega
 refine Z5 ?_
 refine Cd (fun qJ=> ?_) fun qJ=> ?_
 ·
  refine dH ?_
  refine Cd (fun oT=> ?_) fun oT=> ?_
  ·
   have hno:=iF (L:=v.ay) oT
   refine dw ?_
   refine Post.aZ rfl rfl ((s,2)) (by exact dN (by decide) (by rw [rY aT,hno];rfl) (by omega)) (aB.dc [] [0,1] rfl rfl) rfl (.cons (.ra (i:=0) FA.out FC.out rfl rfl rfl rfl) ?_ (.cons (.rt rfl) ?_ .nil))
   · exact aa.refl _
   exact aa.refl _
  obtain ⟨t,hw,nS⟩:=gK (L:=v.ay) m4 oT
  refine Z8 ?_
  refine .p (cI x.A.toNat (h:=nS)) rfl ?_
  refine Z1 ?_
  refine .p (cB aj [t]) rfl ?_
  refine dw ?_
  refine Cd (fun tH=> ?_) fun tH=> ?_
  · exfalso;omega
  obtain ⟨mu,hm,hm2⟩:=gK (L:=v.eI) m4 (by rw [hE.mu];exact oT)
  refine Z9 ?_
  refine .p (cI x.A.toNat (h:=hm2)) rfl ?_
  refine Z4 ?_
  refine Cd (fun uF=> ?_) fun uF=> ?_
  ·
   refine dw ?_
   refine Post.aZ rfl rfl ((s,5)) (by exact dN (by decide) (by rw [rY aT,hw,Option.bind_some,hm,Option.bind_some];exact if_neg uF) (by omega)) (aB.dc [] [0,1] rfl rfl) rfl (.cons (.ra (i:=0) FA.out FC.out rfl rfl rfl rfl) ?_ (.cons (.rt rfl) ?_ .nil))
   · exact aa.refl _
   exact aa.refl _
  refine Z6 ?_
  refine .n (cE (h:=bQ (s:=s) (l:=[t]) (by omega))) rfl fun Zh Zi=> ?_
  refine Z9 ?_
  refine Post.aZ rfl rfl (Zh) (by exact Mk (by rw [rY aT,hw,Option.bind_some,hm,Option.bind_some];exact if_pos (Classical.not_not.1 uF)) Zi) (aB.dc [] [0,1] rfl rfl) rfl (.cons (.ra (i:=0) FA.out FC.out rfl rfl rfl rfl) ?_ (.cons (.rt rfl) ?_ .nil))
  · exact aa.refl _
  exact aa.refl _
 exfalso;omega
theorem DA (aq:nq v x s labs) (aT:¬eL x.Code) (dh:¬dM x.Code) (fX:¬cq x.Code) (ox:aQ x.Code<8∨10<aQ x.Code):cH Tryz.prog 136 [aE (dU v),aE (aG x),aE (aW s base),ah 1 dA labs] [] (γ:=cU×Int) (vu s (fP v x s labs)) (fun _=>[]) (fun g=>bz [aE (aW g.1 base),ag .i64 g.2]):=by
 refine In 517 Tryz.func136 fun _ _ _=> ?_
 have A3:=aq.stk
 have m4:=aq.ins.A0
 have A4:=aq.ins.vo
 have oY:=aq.zI
 have hE:=aq.env
 have xq:=hE.F
 have xu:=hE.S
 have A5:=hE.L
 have A6:=hE.G
 have rT:=hE.W
 have hp1b:=aT
 have hp2b:=dh
 have hp3b:=fX
 unfold eL at hp1b
 unfold dM at hp2b
 unfold cq at hp3b
 have htl:=iE x.Code
 refine Z4 ?_
 refine .n (bV (.t rfl)) rfl fun b6 _=> ?_
 refine .n (az FZ.out) rfl fun b8 _=> ?_
 refine yX ?_
 refine Cd (fun c0=> ?_) fun c0=> ?_
 · exfalso;omega
 refine Z7 ?_
 refine Cd (fun c1=> ?_) fun c1=> ?_
 · exfalso;omega
 refine Z5 ?_
 refine Cd (fun c2=> ?_) fun c2=> ?_
 · exfalso;omega
 refine Z6 ?_
 refine Cd (fun c3=> ?_) fun c3=> ?_
 · exfalso;omega
 refine Z6 ?_
 refine Cd (fun c4=> ?_) fun c4=> ?_
 · exfalso;omega
 refine Z6 ?_
 refine Cd (fun c5=> ?_) fun c5=> ?_
 · exfalso;omega
 refine Z6 ?_
 refine Cd (fun c6=> ?_) fun c6=> ?_
 · exfalso;omega
 refine Z6 ?_
 refine Cd (fun c7=> ?_) fun c7=> ?_
 · exfalso;omega
 refine Z6 ?_
 refine Cd (fun c8=> ?_) fun c8=> ?_
 · exfalso;omega
 refine Z7 ?_
 refine Cd (fun c9=> ?_) fun c9=> ?_
 · exfalso;omega
 refine Z6 ?_
 refine Cd (fun jH=> ?_) fun jH=> ?_
 · exfalso;omega
 refine Z5 ?_
 refine Cd (fun lH=> ?_) fun lH=> ?_
 · exfalso;omega
 refine Z7 ?_
 refine Cd (fun nj=> ?_) fun nj=> ?_
 · exfalso;omega
 refine Z5 ?_
 refine Cd (fun qJ=> ?_) fun qJ=> ?_
 · exfalso;omega
 refine Z7 ?_
 refine .p (cA (h:=iu)) rfl ?_
 refine Z7 ?_
 refine .p (cA (h:=jq)) rfl ?_
 refine DP ?_
 refine Cd (fun oT=> ?_) fun oT=> ?_
 ·
  refine Z4 ?_
  refine .n (cE (h:=bQ (s:=s) (l:=(aK x.Code).1) (by omega))) rfl fun Rd TP=> ?_
  refine dw ?_
  refine .n (cE (h:=dB (s:=Rd.1) (l:=(aK x.Code).2) (by have:=TP.2;omega) (by omega))) rfl fun ba6 ba7=> ?_
  refine Z7 ?_
  refine Post.aZ rfl rfl ((bq Rd.1 (aK x.Code).2,Rd.2)) (by exact oJ (xL aT dh fX ox) TP (by omega)) (aB.dc [] [0,1] rfl rfl) rfl (.cons (.ra (i:=0) FA.out FC.out rfl rfl rfl rfl) ?_ (.cons (.rt rfl) ?_ .nil))
  · exact aa.refl _
  exact aa.refl _
 exact absurd ox oT
end Go.Proofs.YtpfobikpggmleaaGreatDoor
end
