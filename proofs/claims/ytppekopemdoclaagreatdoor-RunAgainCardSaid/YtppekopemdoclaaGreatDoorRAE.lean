/-
  Parts of the proof.
-/
import Derived.Test.YtppekopemdoclaaGreatDoorRAD
import Derived.StillTail
set_option linter.all false
set_option maxRecDepth 1000000
set_option maxHeartbeats 4000000
section
namespace Go.Hl
open Go.RowKit
abbrev iz:=List (Nat×Nat×VP)
def waits(after:Array Edge)(j:Nat):Bool:=after.toList.any λe=>Nat.beq e.on j && Region.binds .any e
def dg(after:Array Edge):iz->Env
 |[]=>[]
 |(j,d,q)::r=>bif waits after j then(d,q)::dg after r else dg after r
def gP:iz->Env
 |[]=>[]
 |(_,d,q)::r=>(d,q)::gP r
def strip(ds:List Nat):Env->Env
 |[]=>[]
 |(t,q)::r=>bif ds.contains t then strip ds r else(t,q)::strip ds r
def dstsOf:List Oper->List Nat
 |[]=>[]
 |o::l=>match o.dst with|some d=>d::dstsOf l|none=>dstsOf l
def ou(P:Program)(ops:Array Oper)(n:Nat)(hs:List HP)(e0:Env):Nat->iz->List Oper->iz->Prop
 |_,done,[],all=>done=all
 |i,done,o::l,all=>∃d q,o.dst=some d/\de P ops n hs (dg o.after done++e0) o q/\ou P ops n hs e0 (i+1) ((i,d,q)::done) l all
section
variable {P:Program} {ops:Array Oper} {n:Nat} {hs:List HP} {e0:Env} {Q:Exit->Act->World->Prop} {c:Ctx}
theorem ou.nil{i:Nat}{done:iz}:ou P ops n hs e0 i done [] done:=rfl
theorem ou.cons{i:Nat}{done all:iz}{d:Tmp}{q:VP}{op:Op}{ty:TypeId}{pos:String}{after:Array Edge}{gd:Option (Nat×Bool)}{l:List Oper}
    (h:de P ops n hs (dg after done++e0) ⟨some d,op,ty,pos,after,gd⟩ q) (k:ou P ops n hs e0 (i+1) ((i,d,q)::done) l all):ou P ops n hs e0 i done (⟨some d,op,ty,pos,after,gd⟩::l) all:=
  ⟨d,q,rfl,h,k⟩
theorem ou.p{i:Nat}{done all:iz}{d:Tmp}{q:VP}{op:Op}{ty:TypeId}{pos:String}{after:Array Edge}{l:List Oper}
    (h:bw P hs (dg after done++e0) ⟨some d,op,ty,pos,after,none⟩ q) (k:ou P ops n hs e0 (i+1) ((i,d,q)::done) l all):ou P ops n hs e0 i done (⟨some d,op,ty,pos,after,none⟩::l) all:=
  ⟨d,q,rfl,de.plain h rfl,k⟩
theorem sH{a b:Env}{t:Nat}{q:VP}(h:look (a++b) t=some q):look a t=some q\/look b t=some q:=by
 induction a with
 |nil=>exact .inr h
 |cons p a ih=>
  obtain⟨s,x⟩:=p;rw[List.cons_append,bX] at h;rw[bX];by_cases e:s=t
  · rw[if_pos e] at h ⊢;exact .inl h
  · rw[if_neg e] at h ⊢;exact ih h
theorem uZ{after:Array Edge}{done:iz}{t:Nat}{q:VP}(h:look (dg after done) t=some q):∃j,(j,t,q)∈done/\waits after j=true:=by
 induction done with
 |nil=>cases h
 | cons p done ih=>
  obtain⟨j,d,x⟩:=p;simp only[dg] at h;cases hw:waits after j with
  |false=>rw[hw] at h;obtain⟨j',h1,h2⟩:=ih (by simpa using h);exact⟨j',List.mem_cons_of_mem _ h1,h2⟩
  |true=>
   rw[hw] at h;simp only[cond_true,bX] at h;by_cases e:d=t
   · rw[if_pos e] at h;cases h;subst e;exact⟨j,List.mem_cons_self ..,hw⟩
   · rw[if_neg e] at h;obtain⟨j',h1,h2⟩:=ih h;exact⟨j',List.mem_cons_of_mem _ h1,h2⟩
theorem qS{done:iz}{t:Nat}{q:VP}(h:look (gP done) t=some q):∃j,(j,t,q)∈done:=by
 induction done with
 |nil=>cases h
 |cons p done ih=>
  obtain⟨j,d,x⟩:=p;simp only[gP,bX] at h;by_cases e:d=t
  · rw[if_pos e] at h;cases h;subst e;exact⟨j,List.mem_cons_self ..⟩
  · rw[if_neg e] at h;obtain⟨j',h1⟩:=ih h;exact⟨j',List.mem_cons_of_mem _ h1⟩
theorem me{ds:List Nat}{e:Env}{t:Nat}{q:VP}(h:look (strip ds e) t=some q):look e t=some q/\ds.contains t=false:=by
 induction e with
 |nil=>cases h
 | cons p e ih=>
  obtain⟨s,x⟩:=p;simp only[strip] at h;cases hc:ds.contains s with
  |true=>
   rw[hc] at h;obtain⟨h1,h2⟩:=ih (by simpa using h);have hne:s≠t:=λe=>by subst e;rw[hc] at h2;cases h2
   exact⟨by rw[bX,if_neg hne];exact h1,h2⟩
  |false=>
   rw[hc] at h;simp only[cond_false,bX] at h;rw[bX];by_cases e:s=t
   · rw[if_pos e] at h ⊢;subst e;exact⟨h,hc⟩
   · rw[if_neg e] at h ⊢;exact ih h
theorem qT{a b:Env}{t:Nat}{q:VP}(h:look (a++b) t=some q):look a t=some q\/(look a t=none/\look b t=some q):=by
 induction a with
 |nil=>exact .inr ⟨rfl,h⟩
 |cons p a ih=>
  obtain⟨s,x⟩:=p;rw[List.cons_append,bX] at h;rw[bX];by_cases e:s=t
  · rw[if_pos e] at h ⊢;exact .inl h
  · rw[if_neg e] at h ⊢;exact ih h
theorem pY{done:iz}{j d:Nat}{q:VP}(h:(j,d,q)∈done):look (gP done) d≠none:=by
 induction done with
 |nil=>cases h
 |cons p done ih=>
  obtain⟨j',d',q'⟩:=p;simp only[gP,bX];by_cases e:d'=d
  · rw[if_pos e];simp
  · rw[if_neg e]
    rcases List.mem_cons.1 h with h|h
    · cases h;exact absurd rfl e
    · exact ih h
theorem pZ{ds:List Nat}{e:Env}{t:Nat}{q:VP}(h:look e t=some q)(hc:ds.contains t=false):look (strip ds e) t=some q:=by
 induction e with
 |nil=>cases h
 |cons p e ih=>
  obtain⟨s,x⟩:=p;rw[bX] at h;simp only[strip];by_cases e1:s=t
  · rw[if_pos e1] at h;subst e1;rw[hc];simp only[cond_false,bX,if_true];exact h
  · rw[if_neg e1] at h
    cases hs:ds.contains s with
    |true=>simp only[cond_true];exact ih h
    |false=>simp only[cond_false,bX,if_neg e1];exact ih h
theorem Ae{l:List Oper}{d:Nat}(h:(dstsOf l).contains d=true):∃(j:Nat) (o:Oper),l[j]?=some o/\o.dst=some d:=by
 induction l with
 |nil=>simp[dstsOf] at h
 | cons o l ih=>
  simp only[dstsOf] at h;cases ho:o.dst with
  |none=>
   rw[ho] at h;obtain⟨j,o',h1,h2⟩:=ih h;exact⟨j+1,o',by simpa using h1,h2⟩
  |some d'=>
   rw[ho] at h;simp only[List.contains_cons,Bool.or_eq_true,beq_iff_eq] at h;rcases h with h|h
   · exact⟨0,o,rfl,by rw[ho,h]⟩
   · obtain⟨j,o',h1,h2⟩:=ih h;exact⟨j+1,o',by simpa using h1,h2⟩
theorem ox{l:List Oper}{j:Nat}{o:Oper}{d:Nat}(h:l[j]?=some o)(hd:o.dst=some d):(dstsOf l).contains d=true:=by
 induction l generalizing j with
 |nil=>simp at h
 | cons x l ih=>
  cases j with
  |zero=>simp at h;subst h;simp[dstsOf,hd]
  |succ j=>
   have:=ih (j:=j) (by simpa using h);simp only[dstsOf]
   split
   · simp only[List.contains_cons,this,Bool.or_true]
   · exact this
theorem ou.spec{l:List Oper}{i:Nat}{done all:iz}(h:ou P ops n hs e0 i done l all):
    ∃ new:iz,all=new++done/\(∀j d q,(j,d,q)∈new->i<=j/\j<i+l.length)/\∀j o,l[j]?=some o->∃d q dn,(i+j,d,q)∈new/\o.dst=some d/\de P ops n hs (dg o.after dn++e0) o q/\
      (∀x,x∈dn->x∈all)/\(∀j' d' q',(j',d',q')∈all->j'=i+j->(∀x∈done,x.1<i)->d'=d/\q'=q):=by
  induction l generalizing i done with
  |nil=>exact⟨[],by simp[ou] at h;exact h.symm,by simp,by simp⟩
  | cons o l ih=>
    obtain⟨d,q,hd,hop,hr⟩:=h;obtain⟨new,h1,h2,h3⟩:=ih hr;refine⟨new++[(i,d,q)],by simp[h1],?_,?_⟩
    · intro j d' q' hm
      rcases List.mem_append.1 hm with hm|hm
      · have:=h2 j d' q' hm;simp;omega
      · simp at hm;obtain⟨rfl,_,_⟩:=hm;simp
    · intro j o' ho
      cases j with
      | zero=>
        simp at ho;subst ho
        refine⟨d,q,done,by simp,hd,hop,λx hx=>by rw[h1];simp[hx],?_⟩;intro j' d' q' hm hj hdone;rw[h1] at hm;rcases List.mem_append.1 hm with hm|hm
        · have:=h2 _ _ _ hm;omega
        · rcases List.mem_cons.1 hm with hm|hm
          · cases hm;exact⟨rfl,rfl⟩
          · have:=hdone _ hm;simp at this;omega
      | succ j=>
        obtain⟨d1,q1,dn,g1,g2,g3,g4,g5⟩:=h3 j o' (by simpa using ho);refine⟨d1,q1,dn,by rw[show i+(j+1)=i+1+j by omega];simp[g1],g2,g3,g4,λj' d' q' hm hj hdone=>g5 j' d' q' hm (by omega) ?_⟩;intro x hx;rcases List.mem_cons.1 hx with hx|hx
        · subst hx;simp
        · have:=hdone x hx;omega
def Gt(ops:Array Oper)(m g n:Nat):Bool:=
 Nat.beq (m+g) ops.size && (dstsOf (ops.toList.take m)).Nodup && (ops.toList.take m).all (λo=>match o.dst with|some d=>Nat.blt d n|none=>false) &&
 (List.range m).all (λi=>match ops[i]? with|some o=>o.after.toList.all (λe=> !Region.binds .any e||Nat.blt e.on i)|none=>false) &&
 (Nat.beq g 0||(Region.sinkB .any ops m && Region.chainB .any ops m)) && Region.seqB .any ops g m ((List.replicate m true++List.replicate g false).toArray)
def count(m:Nat)(listed:Array Bool):Nat:=((List.range m).filter λi=> !listed.getD i false).length
theorem jH{m:Nat}{listed:Array Bool}(h:count m listed=0):∀i,i<m->listed.getD i false=true:=by
 intro i hi;have h0:(List.range m).filter (λi=> !listed.getD i false)=[]:=List.length_eq_zero_iff.1 h;have:=List.filter_eq_nil_iff.1 h0 i (List.mem_range.2 hi);simpa using this
theorem Af(l:List Nat)(hn:l.Nodup)(listed:Array Bool)(i:Nat)(hi:i∈l)(hu:listed.getD i false=false)(hs:i<listed.size):
    (l.filter λj=> !(listed.setIfInBounds i true).getD j false).length+1=(l.filter λj=> !listed.getD j false).length:=by
  induction l with
  |nil=>cases hi
  | cons x l ih=>
    rw[List.nodup_cons] at hn;rcases List.mem_cons.1 hi with he|hm
    · subst he
      have h1:(listed.setIfInBounds i true).getD i false=true:=by simp[hs]
      have h2:l.filter (λj=> !(listed.setIfInBounds i true).getD j false)=l.filter (λj=> !listed.getD j false):=by
        apply List.filter_congr;intro j hj;have hne:i≠j:=λe=>hn.1 (e▸hj);rw[getD_set_ne false hne]
      simp only[List.filter_cons,h1,hu,h2];simp
    · have hne:i≠x:=λe=>hn.1 (e▸hm)
      have:=ih hn.2 hm;simp only[List.filter_cons,getD_set_ne false hne]
      split
      · simp only[List.length_cons];omega
      · exact this
theorem count_set{m:Nat}{listed:Array Bool}{i:Nat}(hi:i<m)(hu:listed.getD i false=false)(hs:i<listed.size):count m (listed.setIfInBounds i true)+1=count m listed:=
 Af (List.range m) List.nodup_range listed i (List.mem_range.2 hi) hu hs
theorem sI{ops:Array Oper}{m:Nat}{listed:Array Bool}(hm:m<=ops.size)(hsz:listed.size=ops.size)(hb:(List.range m).all (λi=>match ops[i]? with|some o=>o.after.toList.all (λe=> !Region.binds .any e||Nat.blt e.on i)|none=>false)=true)
    (h:count m listed≠0):Region.ready .any ops listed≠[]:=by
  have hex:∃i,i<m/\listed.getD i false=false:=by
    cases hf:(List.range m).filter (λi=> !listed.getD i false) with
    |nil=>exact absurd (by unfold count;rw[hf];rfl) h
    | cons x l=>
      have:x∈(List.range m).filter (λi=> !listed.getD i false):=by rw[hf];exact List.mem_cons_self ..
      rw[List.mem_filter,List.mem_range] at this;exact⟨x,this.1,by simpa using this.2⟩
  obtain ⟨i,hi,hu,hmin⟩:∃i,i<m/\listed.getD i false=false/\∀j,j<i->listed.getD j false=true:=by
    obtain⟨i,hi⟩:=hex
    induction i using Nat.strongRecOn with
    | _ i ih=>
      by_cases hc:∃j,j<i/\listed.getD j false=false
      · obtain⟨j,hj,hju⟩:=hc;exact ih j hj ⟨by omega,hju⟩
      · exact⟨i,hi.1,hi.2,λj hj=>by
          cases hl:listed.getD j false
          · exact(hc ⟨j,hj,hl⟩).elim
          · rfl⟩
  have ZF:i<ops.size:=by omega
  intro aD4
  have:i∈Region.ready .any ops listed:=by
    rw[mem_ready];refine⟨getD_in (by rw[hsz];exact ZF) hu,ops[i],by simp[ZF],λe he hbi=>?_⟩;have h1:=List.all_eq_true.1 hb i (List.mem_range.2 hi);simp only[Array.getElem?_eq_getElem ZF] at h1;have h2:=List.all_eq_true.1 h1 e (by simpa using he);simp only[hbi,Bool.not_true,Bool.false_or] at h2;exact hmin _ (by simpa using h2)
  rw[aD4] at this;cases this
structure ab6(P:Program)(c:Ctx)(hs:List HP)(e0:Env)(all:iz)(m:Nat)(listed:Array Bool)(a:Act)(w:World):Prop where
 df:a.defers=c.df
 sz:a.tmps.size=c.n
 st:∃S F,j6 c w S F/\dR hs F S w/\dI e0 S w a.tmps/\∀j d q,(j,d,q)∈all->listed.getD j false=true->q.p S w (a.tmps.getD d undef)
theorem sJ{a:Act}{d t:Nat}{v:Value}(h:d≠t):(a.put (some d) v).tmps.getD t undef=a.tmps.getD t undef:=by
 simp only[Act.put,Array.getD_eq_getD_getElem?];rw[Array.getElem?_setIfInBounds_ne h]
theorem NZ{l:List Oper}(hn:(dstsOf l).Nodup)(ha:∀o∈l,∃d,o.dst=some d){i j:Nat}{oi oj:Oper}{d:Nat}(hi:l[i]?=some oi)(hj:l[j]?=some oj)(h1:oi.dst=some d)(h2:oj.dst=some d):i=j:=by
 induction l generalizing i j with
 |nil=>simp at hi
 | cons x l ih=>
  obtain⟨dx,hx⟩:=ha x (List.mem_cons_self ..);simp only[dstsOf,hx,List.nodup_cons] at hn;cases i with
  | zero=>
   cases j with
   |zero=>rfl
   |succ j=>
    simp at hi hj;subst hi
    rw[hx] at h1;cases h1
    have:=ox hj h2;exact absurd (by simpa using this) hn.1
  | succ i=>
   cases j with
   |zero=>
    simp at hi hj;subst hj
    rw[hx] at h2;cases h2
    have:=ox hi h1;exact absurd (by simpa using this) hn.1
   |succ j=>
    have:=ih hn.2 (λo ho=>ha o (List.mem_cons_of_mem _ ho)) (i:=i) (j:=j) (by simpa using hi) (by simpa using hj);rw[this]
theorem lJ{F:Fence}{n:Nat}{md:Region.Mode}{ops:Array Oper}{Q':Exit->Act->World->Prop}:∀(l:List Oper) (k:Nat) (listed:Array Bool) (a:Act) (w:World),(∀j,l[j]?=ops[k+j]?)->
    Region.seqB md ops l.length k listed=true->wpListIn F n P ops Q' l a w->wpAnyIn F n P md ops Q' l.length listed a w
  |[],_,_,_,_,_,hB,h=>⟨by simpa[Region.seqB] using hB,h⟩
  | o::l,k,listed,a,w,hl,hB,h=>by
    have h0:ops[k]?=some o:=by simpa using(hl 0).symm
    simp only[List.length_cons,Region.seqB,Bool.and_eq_true,decide_eq_true_eq] at hB;refine⟨λh1=>(by rw[hB.1] at h1;cases h1),λi hi=>?_⟩;rw[hB.1] at hi;have hik:i=k:=by simpa using hi
    subst hik;have hw:wpOpIn F n P ops Q' i (wpListIn F n P ops Q' l) a w:=by unfold wpOpIn;simp only[h0];exact h
    exact wpOpIn_mono (λa' w' h'=>lJ l (i+1) _ a' w' (λj=>by have:=hl (j+1);simpa[Nat.add_assoc,Nat.add_comm 1 j] using this) hB.2 h') hw
theorem Q3{m g:Nat}{env:Env}{all:iz}(hB:Gt ops m g c.n=true)(h:ou P ops c.n hs (strip (dstsOf (ops.toList.take m)) env) 0 [] (ops.toList.take m) all)
    (ht:cv P ops Q c (ops.toList.drop m) hs (gP all++env)):
    ∀(u:Nat) (listed:Array Bool) (a:Act) (w:World),count m listed=u->HeadInv .any ops m listed->ab6 P c hs (strip (dstsOf (ops.toList.take m)) env) all m listed a w->wpAnyIn (WF c.ro) 0 P .any ops Q (u+g) listed a w:=by
  simp only[Gt,Bool.and_eq_true] at hB;obtain⟨⟨⟨⟨⟨hsum,hnd⟩,hds⟩,hback⟩,hsc⟩,Q4⟩:=hB;have yH:m+g=ops.size:=by simpa using hsum
  have Q5:(dstsOf (ops.toList.take m)).Nodup:=by simpa using hnd
  have Cj:∀o∈ops.toList.take m,∃d,o.dst=some d/\d<c.n:=λo ho=>by
    have:=List.all_eq_true.1 hds o ho;cases hd:o.dst with
    |none=>rw[hd] at this;cases this
    |some d=>rw[hd] at this;exact⟨d,rfl,by simpa using this⟩
  obtain⟨new,hall,hrange,hspec⟩:=h.spec;simp only[List.append_nil] at hall;subst hall;have hlen:(ops.toList.take m).length=m:=by simp;omega
  intro u
  induction u with
  | zero =>
    intro listed a w hc inv hu;rw[Nat.zero_add]
    have hl:listed=(List.replicate m true++List.replicate g false).toArray:=by
      apply Array.ext
      · simp[inv.size];omega
      · intro i h1 h2
        have hi:i<ops.size:=by rw[<-inv.size];exact h1
        by_cases xR:i<m
        · have:=jH hc i xR
          simp[h1] at this;simp[xR,this]
        · have:=inv.tail i (by omega) hi
          simp[h1] at this;simp[List.getElem_append,xR,this]
    have TT:(ops.toList.drop m).length=g:=by simp;omega
    have hw:wpListIn (WF c.ro) 0 P ops Q (ops.toList.drop m) a w:=by
      obtain⟨S,F,h1,h2,h3,h4⟩:=hu.st;refine ht a w ⟨hu.df,hu.sz,S,F,h1,h2,λt q hl=>?_⟩;rcases qT hl with h5|⟨h6,h5⟩
      · obtain⟨j,hj⟩:=qS h5
        have:=hrange j t q hj;exact h4 j t q hj (jH hc j (by rw[hlen] at this;omega))
      · refine h3 t q (pZ h5 ?_)
        cases hct:(dstsOf (ops.toList.take m)).contains t with
        |false=>rfl
        | true=>
          obtain⟨j,o,ho,hd⟩:=Ae hct;obtain⟨d,q',dn,hm,hd',_⟩:=hspec j o ho;rw[hd] at hd';cases hd'
          exact absurd h6 (pY hm)
    have:=lJ (F:=WF c.ro) (n:=0) (md:= .any) (P:=P) (ops:=ops) (Q':=Q) (ops.toList.drop m) m listed a w (λj=>by simp[List.getElem?_drop]) (by rw[TT,hl];exact Q4) hw
    rwa [TT] at this
  | succ u ih=>
    intro listed a w hc inv hu;rw[show u+1+g=(u+g)+1 by omega];refine⟨λh0=>absurd h0 (sI (by omega) inv.size hback (by omega)),λi hi=>?_⟩
    have xR:i<m:=by
      rcases Nat.lt_or_ge i m with h|h
      · exact h
      · exfalso
        have ZF:i<ops.size:=by
          obtain⟨_,o,ho,_⟩:=mem_ready.1 hi;exact(Array.getElem?_eq_some_iff.1 ho).1
        have hg:Nat.beq g 0=false:=by
          cases hg:Nat.beq g 0
          · rfl
          · have:g=0:=by simpa using hg
            omega
        rw[hg] at hsc;simp only[Bool.false_or,Bool.and_eq_true] at hsc
        obtain⟨k,u5,hk2⟩:∃k,k<m/\listed.getD k false=false:=by
          cases hf:(List.range m).filter (λi=> !listed.getD i false) with
          |nil=>rw[count,hf] at hc;simp at hc
          | cons x l=>
            have:x∈(List.range m).filter (λi=> !listed.getD i false):=by rw[hf];exact List.mem_cons_self ..
            rw[List.mem_filter,List.mem_range] at this;exact⟨x,this.1,by simpa using this.2⟩
        exact tail_waits hsc.1 hsc.2 (by omega) inv _ k rfl u5 (getD_in (by rw[inv.size];omega) hk2) i h hi
    obtain⟨hun,o,ho,JI⟩:=mem_ready.1 hi;have Ec:=getD_both hun
    have zy:(ops.toList.take m)[i]?=some o:=by
      rw[List.getElem?_take,if_pos xR];simpa using ho
    obtain⟨d,q,dn,hmem,o4,hop,hdn,huniq⟩:=hspec i o zy;obtain⟨d',hd',u6⟩:=Cj o (List.mem_of_getElem? zy);rw[o4] at hd';cases hd'
    obtain⟨S,F,h1,h2,h3,h4⟩:=hu.st
    have sA:dI (dg o.after dn++strip (dstsOf (ops.toList.take m)) env) S w a.tmps:=λt x hx=>by
      rcases sH hx with h5|h5
      · obtain⟨j,hj,hw⟩:=uZ h5
        refine h4 j t x (hdn _ hj) ?_;unfold waits at hw;obtain⟨e,he,hb⟩:=List.any_eq_true.1 hw;simp only[Bool.and_eq_true] at hb;have:e.on=j:=by simpa using hb.1
        rw[<-this];exact JI e (by simpa using he) hb.2
      · exact h3 t x h5
    unfold wpOpIn;simp only[ho]
    have key:=hop a w S F hu.sz h1.bZ h1.cK h1.eg h2 sA (wpAnyIn (WF c.ro) 0 P .any ops Q (u+g) (listed.setIfInBounds i true)) Q (λv w' S' gr hq=>by
      refine ih _ _ _ ?_ (inv.set hi xR) ⟨by rw[Act.ek];exact hu.df,by rw[Act.iw];exact hu.sz,S',F,h1.grow gr,gr.zZ h1.bZ h1.cK h2,?_,?_⟩
      · have:=count_set xR Ec (by rw[inv.size];omega);omega
      · intro t x hx
        have hne:d≠t:=λe=>by
          subst e;have:=(me hx).2;rw[ox zy o4] at this;cases this
        rw[o4,sJ hne];exact gr.vp h1.bZ (h3 t x hx)
      · intro j dj qj zz Jy
        by_cases hij:j=i
        · subst hij
          obtain⟨rfl,rfl⟩:=huniq j dj qj zz (by omega) (by simp);rw[o4];have:dj<a.tmps.size:=by rw[hu.sz];exact u6
          simpa[Act.put,this] using hq
        · rw[getD_set_ne false (λe=>hij e.symm)] at Jy
          have hne:d≠dj:=λe=>by
            subst e;have hjr:=hrange j d qj zz;have Q6:j<m:=by rw[hlen] at hjr;omega
            obtain⟨oj,ZG⟩:∃oj,(ops.toList.take m)[j]?=some oj:=⟨_,List.getElem?_eq_getElem (by rw[hlen];exact Q6)⟩;obtain⟨d2,q2,_,hm2,aD5,_,_,hu2⟩:=hspec j oj ZG;obtain⟨e1,e2⟩:=hu2 j d qj zz (by omega) (by simp);subst e1;exact hij (NZ Q5 (λo ho=>⟨_,(Cj o ho).choose_spec.1⟩) ZG zy aD5 o4)
          rw[o4,sJ hne];exact gr.vp h1.bZ (h4 j dj qj zz Jy))
    by_cases hw:Region.wanted o (yielded ops a.tmps)=true
    · rw[if_pos hw] at key ⊢;exact Oper.rX (de.jV hop hu.sz h1 h2 sA hw) key
    · rw[if_neg hw] at key ⊢;exact⟨λ_ _=>trivial,key⟩
theorem aU.draw{l:List Oper}{id:Nat}{env:Env}{all:iz}(m g:Nat)(hm:P.follows .mixedOrders=true)(hB:Gt l.toArray m g c.n=true)
    (h:ou P l.toArray c.n hs (strip (dstsOf (l.take m)) env) 0 [] (l.take m) all)
    (ht:cv P l.toArray Q c (l.drop m) hs (gP all++env)):aU P Q c (.region id l.toArray true) hs env:=by
  intro a w hst;refine wpIn_region_any hm ?_;obtain⟨h1,h2,S,F,h3,h4,h5⟩:=hst
  have hsum:m+g=l.toArray.size:=by
    simp only[Gt,Bool.and_eq_true] at hB;simpa using hB.1.1.1.1.1
  have g0:=gq.drew w S;have key:=Q3 (P:=P) (Q:=Q) (ops:=l.toArray) (hs:=hs) (c:=c) (env:=env) hB h ht m (Array.replicate l.toArray.size false) a {w with drawn:=w.drawn+1} ?_ ?_ ?_
  · rw[hsum] at key;exact key
  · unfold count
    rw[List.filter_eq_self.2 (λi hi=>by rw[getD_replicate_false];rfl)];simp
  · exact⟨by simp,λj oj _ hl=>(by rw[getD_replicate_false] at hl;cases hl),λt _ ht=>getD_in (by simpa using ht) (getD_replicate_false _ _)⟩
  · exact⟨h1,h2,S,F,h3.grow g0,g0.zZ h3.bZ h3.cK h4,λt q hl=>g0.vp h3.bZ (h5 t q (me hl).1),λj d q _ hl=>by rw[getD_replicate_false] at hl;cases hl⟩
end
def uK(ops:Array Oper):Nat->Nat->Nat->Bool
 |0,_,_=>false
 |f+1,i,j=>match ops[i]? with
  |some o=>o.after.toList.any λe=>Region.binds .any e && (Nat.beq e.on j||uK ops f e.on j)
  |none=>false
theorem qU{ops:Array Oper}{m:Nat}{listed:Array Bool}(inv:HeadInv .any ops m listed):∀(f i j:Nat),(∀o,ops[i]?=some o->∀e∈o.after,Region.binds .any e=true->listed.getD e.on false=true)->uK ops f i j=true->listed.getD j false=true
 |0,_,_,_,h=>by simp[uK] at h
 | f +1,i,j,hi,h=>by
  simp only[uK] at h;cases ho:ops[i]? with
  |none=>rw[ho] at h;cases h
  |some o=>
   rw[ho] at h;obtain⟨e,he,hb⟩:=List.any_eq_true.1 h;simp only[Bool.and_eq_true,Bool.or_eq_true] at hb;have hl:=hi o ho e (by simpa using he) hb.1;rcases hb.2 with h1|h1
   · have:e.on=j:=by simpa using h1
     rw[<-this];exact hl
   · exact qU inv f e.on j (λo' ho' e' he' hb'=>inv.closed _ o' ho' hl e' he' hb') h1
def aF(hs hs':List HP):Prop:=∀F S w,dR hs F S w->dR hs' F S w
theorem de.own{P:Program}{ops:Array Oper}{n:Nat}{hs hs':List HP}{env:Env}{o:Oper}{q:VP}(h:de P ops n hs env o q)(hl:aF hs' hs):de P ops n hs' env o q:=
 λa w S F h1 h2 h3 h4 h5=>h a w S F h1 h2 h3 h4 (hl _ _ _ h5)
def ZH:VP:=⟨λ_ _ _=>True,λ_ _ _=>trivial⟩
def Want(ops:Array Oper)(n:Nat)(env:Env)(o:Oper):Prop:=∀S w (tmps:Array Value),tmps.size=n->dI env S w tmps->Region.wanted o (yielded ops tmps)=true
theorem Want.none{ops:Array Oper}{n:Nat}{env:Env}{o:Oper}(h:o.guard=none):Want ops n env o:=λ_ _ _ _ _=>by simp[Region.wanted,h]
theorem Want.g{ops:Array Oper}{n:Nat}{env:Env}{o:Oper}{j t:Nat}{p:Prop}{want:Bool}(hl:look env t=some (av p))(uG:o.guard=some (j,want))(hj:(ops[j]?).bind (·.dst)=some t)(ht:Nat.blt t n=true)(hp:if want then p else ¬p):Want ops n env o:=λS w tmps hn he=>by
 have ht':t<tmps.size:=by rw[hn];simpa using ht
 have h6:tmps[t]?=some (tmps.getD t undef):=by simp[ht']
 obtain⟨b,hb,Ch⟩:=he t _ hl;have hy:yielded ops tmps j=some b:=by unfold yielded;rw[hj];simp only[Option.bind_some,h6,hb]
 have hw:b=want:=by
  cases want
  · simp at hp;cases b
    · rfl
    · exact absurd (Ch.1 rfl) hp
  · simp at hp;exact Ch.2 hp
 simp[Region.wanted,uG,hy,hw]
def dG(P:Program)(l:List Oper)(n:Nat)(e0:Env)(T:iz->List HP->Prop):List (Nat×Nat)->iz->List HP->Prop
 |[],done,hs=>T done hs
 |(i,0)::r,done,hs=>∃o d q,l[i]?=some o/\o.dst=some d/\(∀hs',de P l.toArray n hs' (dg o.after done++e0) o q)/\dG P l n e0 T r ((i,d,q)::done) hs
 |(i,1)::r,done,hs=>∃o d q,l[i]?=some o/\o.dst=some d/\de P l.toArray n hs (dg o.after done++e0) o q/\dG P l n e0 T r ((i,d,q)::done) hs
 |(i,2)::r,done,hs=>∃(o:Oper) (d:Tmp),l[i]?=some o/\o.dst=some d/\Want l.toArray n (dg o.after done++e0) o/\∃(γ:Type) (φ:γ->Prop) (hs':γ->List HP) (q:γ->VP),gW P hs (dg o.after done++e0) o φ hs' q/\∀g,φ g->dG P l n e0 T r ((i,d,q g)::done) (hs' g)
 |(i,3)::r,done,hs=>∃(o:Oper),l[i]?=some o/\o.dst=none/\Want l.toArray n (dg o.after done++e0) o/\∃(γ:Type) (φ:γ->Prop) (hs':γ->List HP) (q:γ->VP),gW P hs (dg o.after done++e0) o φ hs' q/\∀g,φ g->dG P l n e0 T r ((i,n,ZH)::done) (hs' g)
 |(i,4)::r,done,hs=>∃(o:Oper) (d:Tmp),l[i]?=some o/\o.dst=some d/\Want l.toArray n (dg o.after done++e0) o/\∃(γ:Type) (φ:γ->Prop) (hs':γ->List HP) (q:γ->VP),gW P hs (dg o.after done++e0) o φ hs' q/\(∀g,φ g->aF (hs' g) hs)/\∀g,φ g->dG P l n e0 T r ((i,d,q g)::done) (hs' g)
 |(_,_+5)::_,_,_=>False
section
variable {P:Program} {l:List Oper} {n:Nat} {hs:List HP} {e0:Env} {T:iz->List HP->Prop} {Q:Exit->Act->World->Prop} {c:Ctx} {done:iz} {r:List (Nat×Nat)} {i:Nat}
theorem dG.p{d:Tmp}{q:VP}{op:Op}{ty:TypeId}{pos:String}{after:Array Edge}(ho:l[i]?=some ⟨some d,op,ty,pos,after,none⟩)
    (h:∀hs',bw P hs' (dg after done++e0) ⟨some d,op,ty,pos,after,none⟩ q) (k:dG P l n e0 T r ((i,d,q)::done) hs):dG P l n e0 T ((i,0)::r) done hs:=
  ⟨_,d,q,ho,rfl,λhs'=>de.plain (h hs') rfl,k⟩
theorem dG.g{d:Tmp}{q:VP}{op:Op}{ty:TypeId}{pos:String}{after:Array Edge}{gd:Option (Nat×Bool)}(ho:l[i]?=some ⟨some d,op,ty,pos,after,gd⟩)
    (h:∀hs',de P l.toArray n hs' (dg after done++e0) ⟨some d,op,ty,pos,after,gd⟩ q) (k:dG P l n e0 T r ((i,d,q)::done) hs):dG P l n e0 T ((i,0)::r) done hs:=
  ⟨_,d,q,ho,rfl,h,k⟩
theorem dG.o{d:Tmp}{q:VP}{op:Op}{ty:TypeId}{pos:String}{after:Array Edge}(ho:l[i]?=some ⟨some d,op,ty,pos,after,none⟩)
    (h:bw P hs (dg after done++e0) ⟨some d,op,ty,pos,after,none⟩ q) (k:dG P l n e0 T r ((i,d,q)::done) hs):dG P l n e0 T ((i,1)::r) done hs:=
  ⟨_,d,q,ho,rfl,de.plain h rfl,k⟩
theorem dG.e{d:Tmp}{op:Op}{ty:TypeId}{pos:String}{after:Array Edge}{γ:Type}{φ:γ->Prop}{hs':γ->List HP}{q:γ->VP}(ho:l[i]?=some ⟨some d,op,ty,pos,after,none⟩)
    (h:gW P hs (dg after done++e0) ⟨some d,op,ty,pos,after,none⟩ φ hs' q) (k:∀g,φ g->dG P l n e0 T r ((i,d,q g)::done) (hs' g)):dG P l n e0 T ((i,2)::r) done hs:=
  ⟨_,d,ho,rfl, .none rfl,γ,φ,hs',q,h,k⟩
theorem dG.a{d:Tmp}{op:Op}{ty:TypeId}{pos:String}{after:Array Edge}{γ:Type}{φ:γ->Prop}{hs':γ->List HP}{q:γ->VP}(ho:l[i]?=some ⟨some d,op,ty,pos,after,none⟩)
    (h:gW P hs (dg after done++e0) ⟨some d,op,ty,pos,after,none⟩ φ hs' q) (hl:∀g,φ g->aF (hs' g) hs) (k:∀g,φ g->dG P l n e0 T r ((i,d,q g)::done) (hs' g)):dG P l n e0 T ((i,4)::r) done hs:=
  ⟨_,d,ho,rfl, .none rfl,γ,φ,hs',q,h,hl,k⟩
theorem dG.aG{d:Tmp}{op:Op}{ty:TypeId}{pos:String}{after:Array Edge}{γ:Type}{φ:γ->Prop}{hs':γ->List HP}{q:γ->VP}{j t:Nat}{p:Prop}{want:Bool}(ho:l[i]?=some ⟨some d,op,ty,pos,after,some (j,want)⟩)
    (hj:(l.toArray[j]?).bind (·.dst)=some t) (ht:Nat.blt t n=true) (hlk:look (dg after done++e0) t=some (av p)) (hp:if want then p else ¬p)
    (h:(if want then p else ¬p)->gW P hs (dg after done++e0) ⟨some d,op,ty,pos,after,some (j,want)⟩ φ hs' q) (hl:∀g,φ g->aF (hs' g) hs) (k:∀g,φ g->dG P l n e0 T r ((i,d,q g)::done) (hs' g)):dG P l n e0 T ((i,4)::r) done hs:=
  ⟨_,d,ho,rfl, .g hlk rfl hj ht hp,γ,φ,hs',q,h hp,hl,k⟩
theorem dG.aGT{d:Tmp}{op:Op}{ty:TypeId}{pos:String}{after:Array Edge}{γ:Type}{φ:γ->Prop}{hs':γ->List HP}{q:γ->VP}{j t:Nat}{p:Prop}(ho:l[i]?=some ⟨some d,op,ty,pos,after,some (j,true)⟩)
    (hj:(l.toArray[j]?).bind (·.dst)=some t) (ht:Nat.blt t n=true) (hlk:look (dg after done++e0) t=some (av p)) (hp:p)
    (h:p->gW P hs (dg after done++e0) ⟨some d,op,ty,pos,after,some (j,true)⟩ φ hs' q) (hl:∀g,φ g->aF (hs' g) hs) (k:∀g,φ g->dG P l n e0 T r ((i,d,q g)::done) (hs' g)):dG P l n e0 T ((i,4)::r) done hs:=
  .aG ho hj ht hlk (by simpa using hp) (λ_=>h hp) hl k
theorem dG.s{op:Op}{ty:TypeId}{pos:String}{after:Array Edge}{hs':List HP}{q:Unit->VP}(ho:l[i]?=some ⟨none,op,ty,pos,after,none⟩)
    (h:gW P hs (dg after done++e0) ⟨none,op,ty,pos,after,none⟩ (γ:=Unit) (λ_=>True) (λ_=>hs') q) (k:dG P l n e0 T r ((i,n,ZH)::done) hs'):dG P l n e0 T ((i,3)::r) done hs:=
  ⟨_,ho,rfl, .none rfl,Unit,_,_,q,h,λ_ _=>k⟩
theorem dG.head{s:List (Nat×Nat)}:∀{k:Nat},2<=k->k<=4->dG P l n e0 T ((i,k)::s) done hs->∃(o:Oper) (dd:Nat) (γ:Type) (φ:γ->Prop) (hs':γ->List HP) (q:γ->VP),l[i]?=some o/\(o.dst=some dd\/o.dst=none/\dd=n)/\Want l.toArray n (dg o.after done++e0) o/\gW P hs (dg o.after done++e0) o φ hs' q/\(k=4->∀g,φ g->aF (hs' g) hs)/\
    ∀g,φ g->∃q':VP,(∀S w v,(q g).p S w v->(o.dst=some dd->q'.p S w v))/\(o.dst=none->∀S w v,q'.p S w v)/\dG P l n e0 T s ((i,dd,q')::done) (hs' g)
  |0,h,_,_=>absurd h (by omega)
  |1,h,_,_=>absurd h (by omega)
  |2,_,_,⟨o',d',g1,g2,g3,γ,φ,hs',q,g4,g5⟩=>⟨o',d',γ,φ,hs',q,g1, .inl g2,g3,g4,(λh=>by cases h),λg hg=>⟨q g,λ_ _ _ h _=>h,(λh=>by rw[g2] at h;cases h),g5 g hg⟩⟩
  |3,_,_,⟨o',g1,g2,g3,γ,φ,hs',q,g4,g5⟩=>⟨o',n,γ,φ,hs',q,g1, .inr ⟨g2,rfl⟩,g3,g4,(λh=>by cases h),λg hg=>⟨ZH,λ_ _ _ _ _=>trivial,λ_ _ _ _=>trivial,g5 g hg⟩⟩
  |4,_,_,⟨o',d',g1,g2,g3,γ,φ,hs',q,g4,g6,g5⟩=>⟨o',d',γ,φ,hs',q,g1, .inl g2,g3,g4,(λ_=>g6),λg hg=>⟨q g,λ_ _ _ h _=>h,(λh=>by rw[g2] at h;cases h),g5 g hg⟩⟩
  |_+5,_,h,_=>absurd h (by omega)
def ab7(P:Program)(l:List Oper)(n:Nat)(e0:Env)(hs:List HP)(done:iz)(p:Nat×Nat):Prop:=
 ∃o d q dn,l[p.1]?=some o/\o.dst=some d/\(p.1,d,q)∈done/\(∀x,x∈dn->x∈done)/\de P l.toArray n hs (dg o.after dn++e0) o q/\(p.2=0->∀hs',de P l.toArray n hs' (dg o.after dn++e0) o q)
theorem dG.expand:∀(r:List (Nat×Nat)) (done:iz),dG P l n e0 T r done hs->∃B r' done',r=B++r'/\(r'=[]\/∃i k s,r'=(i,k)::s/\2<=k)/\dG P l n e0 T r' done' hs/\(∀x,x∈done->x∈done')/\
    done'.map (·.1)=(B.map (·.1)).reverse++done.map (·.1)/\(∀x,x∈done'->x∈done\/((∃o,l[x.1]?=some o/\o.dst=some x.2.1)/\∃p∈B,p.1=x.1))/\(∀p,p∈B->ab7 P l n e0 hs done' p)/\∀p,p∈B->p.2<2
  |[],done,h=>⟨[],[],done,rfl, .inl rfl,h,λ_ h=>h,rfl,λx hx=> .inl hx,λp hp=>by simp at hp,λp hp=>by simp at hp⟩
  | (i, 0)::r,done,h=>by
    obtain⟨o,d,q,h1,h2,h3,h4⟩:=h;obtain⟨B,r',done',g1,g2,g3,g4,g5,g6,g7,g8⟩:=dG.expand r _ h4;refine⟨(i,0)::B,r',done',by rw[g1];rfl,g2,g3,λx hx=>g4 x (List.mem_cons_of_mem _ hx),by rw[g5];simp,λx hx=>?_,λp hp=>?_,λp hp=>?_⟩
    · rcases g6 x hx with h|⟨h,p,hp,he⟩
      · rcases List.mem_cons.1 h with h|h
        · subst h;exact .inr ⟨⟨o,h1,h2⟩,(i,0),List.mem_cons_self ..,rfl⟩
        · exact .inl h
      · exact .inr ⟨h,p,List.mem_cons_of_mem _ hp,he⟩
    · rcases List.mem_cons.1 hp with h|h
      · subst h;exact⟨o,d,q,done,h1,h2,g4 _ (List.mem_cons_self ..),λx hx=>g4 x (List.mem_cons_of_mem _ hx),h3 hs,λ_=>h3⟩
      · exact g7 p h
    · rcases List.mem_cons.1 hp with h|h
      · subst h;simp
      · exact g8 p h
  | (i, 1)::r,done,h=>by
    obtain⟨o,d,q,h1,h2,h3,h4⟩:=h;obtain⟨B,r',done',g1,g2,g3,g4,g5,g6,g7,g8⟩:=dG.expand r _ h4;refine⟨(i,1)::B,r',done',by rw[g1];rfl,g2,g3,λx hx=>g4 x (List.mem_cons_of_mem _ hx),by rw[g5];simp,λx hx=>?_,λp hp=>?_,λp hp=>?_⟩
    · rcases g6 x hx with h|⟨h,p,hp,he⟩
      · rcases List.mem_cons.1 h with h|h
        · subst h;exact .inr ⟨⟨o,h1,h2⟩,(i,1),List.mem_cons_self ..,rfl⟩
        · exact .inl h
      · exact .inr ⟨h,p,List.mem_cons_of_mem _ hp,he⟩
    · rcases List.mem_cons.1 hp with h|h
      · subst h;exact⟨o,d,q,done,h1,h2,g4 _ (List.mem_cons_self ..),λx hx=>g4 x (List.mem_cons_of_mem _ hx),h3,λh=>by simp at h⟩
      · exact g7 p h
    · rcases List.mem_cons.1 hp with h|h
      · subst h;simp
      · exact g8 p h
  |(i,2)::r,done,h=>⟨[],(i,2)::r,done,rfl, .inr ⟨i,2,r,rfl,by omega⟩,h,λ_ h=>h,rfl,λx hx=> .inl hx,λp hp=>by simp at hp,λp hp=>by simp at hp⟩
  |(i,3)::r,done,h=>⟨[],(i,3)::r,done,rfl, .inr ⟨i,3,r,rfl,by omega⟩,h,λ_ h=>h,rfl,λx hx=> .inl hx,λp hp=>by simp at hp,λp hp=>by simp at hp⟩
  |(i,4)::r,done,h=>⟨[],(i,4)::r,done,rfl, .inr ⟨i,4,r,rfl,by omega⟩,h,λ_ h=>h,rfl,λx hx=> .inl hx,λp hp=>by simp at hp,λp hp=>by simp at hp⟩
  |(_,_+5)::_,_,h=>h.elim
def Mq(ops:Array Oper)(f:Nat):List (Nat×Nat)->List (Nat×Nat)->Bool
 |_,[]=>true
 |pre,p::r=>(Nat.blt p.2 2||(r.all (λq=>uK ops f q.1 p.1) && (Nat.beq p.2 4||pre.all (λq=> !Nat.beq q.2 1||uK ops f p.1 q.1)))) && Mq ops f (p::pre) r
theorem qm{ops:Array Oper}{f:Nat}:∀{pre r:List (Nat×Nat)},Mq ops f pre r=true->∀{a b:List (Nat×Nat)} {i k:Nat},2<=k->r=a++(i,k)::b->(∀q∈b,uK ops f q.1 i=true)/\(k≠4->∀q,q∈pre\/q∈a->q.2=1->uK ops f i q.1=true)
 |pre,[],_,a,b,i,k,hk,e=>by simp at e
 | pre,p::r,h,a,b,i,k,hk,e=>by
  simp only[Mq,Bool.and_eq_true] at h;cases a with
  |nil=>
   simp at e;obtain⟨rfl,rfl⟩:=e;have h1:=h.1;simp only[Bool.or_eq_true,Bool.and_eq_true] at h1;rcases h1 with h1|h1
   · have h2:k<2:=by simpa using h1
     omega
   · refine⟨λq hq=>List.all_eq_true.1 h1.1 q hq,λv5 q hq WD=>?_⟩
     have h12:=h1.2.resolve_left (by simpa using v5);rcases hq with hq|hq
     · have:=List.all_eq_true.1 h12 q hq
       simpa[WD] using this
     · simp at hq
  |cons x a=>
   simp at e;obtain⟨rfl,rfl⟩:=e;obtain⟨g1,g2⟩:=qm h.2 (a:=a) (b:=b) (i:=i) hk rfl;refine⟨g1,λv5 q hq WD=>g2 v5 q ?_ WD⟩;rcases hq with hq|hq
   · exact .inl (List.mem_cons_of_mem _ hq)
   · rcases List.mem_cons.1 hq with hq|hq
     · exact .inl (hq▸List.mem_cons_self ..)
     · exact .inr hq
def Gu(ops:Array Oper)(m g n:Nat):Bool:=
 Nat.beq (m+g) ops.size && (dstsOf (ops.toList.take m)).Nodup && (ops.toList.take m).all (λo=>match o.dst with|some d=>Nat.blt d n|none=>true) &&
 (List.range m).all (λi=>match ops[i]? with|some o=>o.after.toList.all (λe=> !Region.binds .any e||Nat.blt e.on i)|none=>false) &&
 (Nat.beq g 0||(Region.sinkB .any ops m && Region.chainB .any ops m)) && Region.seqB .any ops g m ((List.replicate m true++List.replicate g false).toArray)
theorem Ag{l:List Oper}(hn:(dstsOf l).Nodup){i j:Nat}{oi oj:Oper}{d:Nat}(hi:l[i]?=some oi)(hj:l[j]?=some oj)(h1:oi.dst=some d)(h2:oj.dst=some d):i=j:=by
 induction l generalizing i j with
 |nil=>simp at hi
 | cons x l ih=>
  have hn2:(dstsOf l).Nodup:=by
   simp only[dstsOf] at hn
   split at hn
   · exact(List.nodup_cons.1 hn).2
   · exact hn
  cases i with
  | zero=>
   cases j with
   |zero=>rfl
   |succ j=>
    simp at hi hj;subst hi
    simp only[dstsOf,h1,List.nodup_cons] at hn;have:=ox hj h2;exact absurd (by simpa using this) hn.1
  | succ i=>
   cases j with
   |zero=>
    simp at hi hj;subst hj
    simp only[dstsOf,h2,List.nodup_cons] at hn;have:=ox hi h1;exact absurd (by simpa using this) hn.1
   |succ j=>
    have:=ih hn2 (i:=i) (j:=j) (by simpa using hi) (by simpa using hj);rw[this]
theorem gQ{a:Act}{o:Option Tmp}{t:Nat}{v:Value}(h:∀d,o=some d->d≠t):(a.put o v).tmps.getD t undef=a.tmps.getD t undef:=by
 cases o with
 |none=>rfl
 |some d=>exact sJ (h d rfl)
def nM(ops:Array Oper)(plan:List (Nat×Nat))(m g n:Nat):Bool:=
 Gu ops m g n && (plan.map (·.1)).Nodup && Nat.beq plan.length m && plan.all (λp=>Nat.blt p.1 m && Nat.ble p.2 4) && (List.range m).all (λi=>plan.any λp=>Nat.beq p.1 i) && Mq ops (m+1) [] plan
structure aD6(P:Program)(l:List Oper)(c:Ctx)(e0:Env)(T:iz->List HP->Prop)(plan:List (Nat×Nat))(pre r:List (Nat×Nat))(done:iz)(hs:List HP)(listed:Array Bool)(a:Act)(w:World):Prop where
 df:a.defers=c.df
 sz:a.tmps.size=c.n
 split:plan=pre++r
 dr:dG P l c.n e0 T r done hs
 hd:r=[]\/∃i k s,r=(i,k)::s/\2<=k
 un:∀p∈r,listed.getD p.1 false=false
 idx:done.map (·.1)=(pre.map (·.1)).reverse
 dst:∀x∈done,∃o,l[x.1]?=some o/\(o.dst=some x.2.1\/o.dst=none/\x.2.1=c.n)
 JJ:∀p∈pre,listed.getD p.1 false=false->ab7 P l c.n e0 hs done p
 st:∃S F,j6 c w S F/\dR hs F S w/\dI e0 S w a.tmps/\∀j d q,(j,d,q)∈done->listed.getD j false=true->q.p S w (a.tmps.getD d undef)
theorem tX{done:iz}{x:Nat×Nat×VP}(h:x∈done):x.1∈done.map (·.1):=List.mem_map.2 ⟨x,h,rfl⟩
theorem tY{done:iz}(hn:(done.map (·.1)).Nodup){j d d':Nat}{q q':VP}(h:(j,d,q)∈done)(h':(j,d',q')∈done):d=d'/\q=q':=by
 induction done with
 |nil=>cases h
 |cons x done ih=>
  simp only[List.map_cons,List.nodup_cons] at hn;rcases List.mem_cons.1 h with e|e<;>rcases List.mem_cons.1 h' with e'|e'
  · subst e;cases e';exact⟨rfl,rfl⟩
  · subst e;exact(hn.1 (show j∈done.map (·.1) from tX e')).elim
  · subst e';exact(hn.1 (show j∈done.map (·.1) from tX e)).elim
  · exact ih hn.2 e e'
theorem JK{m g:Nat}{env:Env}{plan:List (Nat×Nat)}(hB:nM l.toArray plan m g c.n=true)(hT:∀done hs,T done hs->cv P l.toArray Q c (l.drop m) hs (gP done++env)):
    ∀(u:Nat) (listed:Array Bool) (a:Act) (w:World) (pre r:List (Nat×Nat)) (done:iz) (hs:List HP),count m listed=u->HeadInv .any l.toArray m listed->aD6 P l c (strip (dstsOf (l.take m)) env) T plan pre r done hs listed a w->wpAnyIn (WF c.ro) 0 P .any l.toArray Q (u+g) listed a w:=by
  simp only[nM,Gu,Bool.and_eq_true] at hB;obtain⟨⟨⟨⟨⟨⟨⟨⟨⟨⟨hsum,hnd⟩,hds⟩,hback⟩,hsc⟩,Q4⟩,Q7⟩,jg⟩,hpm⟩,hpc⟩,ZI⟩:=hB;have yH:m+g=l.toArray.size:=by simpa using hsum
  have Q5:(dstsOf (l.take m)).Nodup:=by simpa using hnd
  have Ah:(plan.map (·.1)).Nodup:=by simpa using Q7
  have aD7:plan.length=m:=by simpa using jg
  have Q8:∀p∈plan,p.1<m/\p.2<=4:=λp hp=>by have:=List.all_eq_true.1 hpm p hp;simpa using this
  have JL:∀p∈plan,p.1<m:=λp hp=>(Q8 p hp).1
  have Cj:∀o∈l.take m,∀d,o.dst=some d->d<c.n:=λo ho d hd=>by
    have:=List.all_eq_true.1 hds o (by simpa using ho);rw[hd] at this;simpa using this
  have hlen:(l.take m).length=m:=by simp at yH ⊢;omega
  have Q9:∀i,i<m->∃k,(i,k)∈plan:=λi hi=>by
    obtain⟨p,hp,he⟩:=List.any_eq_true.1 (List.all_eq_true.1 hpc i (List.mem_range.2 hi));have:p.1=i:=by simpa using he
    exact⟨p.2,by rw[<-this];exact hp⟩
  intro u
  induction u with
  | zero =>
    intro listed a w pre r done hs hc inv hu;rw[Nat.zero_add]
    have hr:r=[]:=by
      cases r with
      |nil=>rfl
      | cons p r=>
        have h1:=hu.un p (List.mem_cons_self ..);have h2:=jH hc p.1 (JL p (by rw[hu.split];simp));rw[h1] at h2;cases h2
    subst hr
    have hl:listed=(List.replicate m true++List.replicate g false).toArray:=by
      apply Array.ext
      · simp[inv.size] at yH ⊢;omega
      · intro i h1 h2
        have hi:i<l.toArray.size:=by rw[<-inv.size];exact h1
        by_cases xR:i<m
        · have:=jH hc i xR
          simp[h1] at this;simp[xR,this]
        · have:=inv.tail i (by omega) hi
          simp[h1] at this;simp[List.getElem_append,xR,this]
    have TT:(l.drop m).length=g:=by simp at yH ⊢;omega
    have hw:wpListIn (WF c.ro) 0 P l.toArray Q (l.drop m) a w:=by
      obtain⟨S,F,h1,h2,h3,h4⟩:=hu.st;refine hT done hs hu.dr a w ⟨hu.df,hu.sz,S,F,h1,h2,λt q hl=>?_⟩
      have hin:∀j,j<m->j∈done.map (·.1):=λj hj=>by
        obtain⟨k,hk⟩:=Q9 j hj;rw[hu.idx,List.mem_reverse];refine List.mem_map.2 ⟨(j,k),?_,rfl⟩;rw[hu.split] at hk;simpa using hk
      rcases qT hl with h5|⟨h6,h5⟩
      · obtain⟨j,hj⟩:=qS h5
        refine h4 j t q hj (jH hc j ?_)
        have:j∈pre.map (·.1):=by
          have:=tX hj;rw[hu.idx,List.mem_reverse] at this;exact this
        obtain⟨p,hp,rfl⟩:=List.mem_map.1 this;exact JL p (by rw[hu.split];simp[hp])
      · refine h3 t q (pZ h5 ?_)
        cases hct:(dstsOf (l.take m)).contains t with
        |false=>rfl
        | true=>
          obtain⟨j,o,ho,hd⟩:=Ae hct;have Q6:j<m:=by have:=(List.getElem?_eq_some_iff.1 ho).1;omega
          obtain⟨x,hx,he⟩:=List.mem_map.1 (hin j Q6);obtain⟨o',ho',hd'⟩:=hu.dst x hx;rw[he] at ho';rw[List.getElem?_take,if_pos Q6] at ho;rw[ho] at ho';cases ho'
          rw[hd] at hd';have ZJ:t=x.2.1:=hd'.elim (λh=>Option.some.inj h) (λh=>by cases h.1);subst ZJ;exact absurd h6 (pY (j:=x.1) (q:=x.2.2) hx)
    have:=lJ (F:=WF c.ro) (n:=0) (md:= .any) (P:=P) (ops:=l.toArray) (Q':=Q) (l.drop m) m listed a w (λj=>by simp[List.getElem?_drop]) (by rw[TT,hl];exact Q4) hw
    rwa [TT] at this
  | succ u ih =>
    intro listed a w pre r done hs hc inv hu;rw[show u+1+g=(u+g)+1 by omega];refine⟨λh0=>absurd h0 (sI (by omega) inv.size hback (by omega)),λi hi=>?_⟩
    have xR:i<m:=by
      rcases Nat.lt_or_ge i m with h|h
      · exact h
      · exfalso
        have ZF:i<l.toArray.size:=by
          obtain⟨_,o,ho,_⟩:=mem_ready.1 hi;exact(Array.getElem?_eq_some_iff.1 ho).1
        have hg:Nat.beq g 0=false:=by
          cases hg:Nat.beq g 0
          · rfl
          · have:g=0:=by simpa using hg
            omega
        rw[hg] at hsc;simp only[Bool.false_or,Bool.and_eq_true] at hsc
        obtain⟨k,u5,hk2⟩:∃k,k<m/\listed.getD k false=false:=by
          cases hf:(List.range m).filter (λi=> !listed.getD i false) with
          |nil=>rw[count,hf] at hc;simp at hc
          | cons x l=>
            have:x∈(List.range m).filter (λi=> !listed.getD i false):=by rw[hf];exact List.mem_cons_self ..
            rw[List.mem_filter,List.mem_range] at this;exact⟨x,this.1,by simpa using this.2⟩
        exact tail_waits hsc.1 hsc.2 (by omega) inv _ k rfl u5 (getD_in (by rw[inv.size];omega) hk2) i h hi
    obtain⟨hun,o,ho,JI⟩:=mem_ready.1 hi;have Ec:=getD_both hun;have Ed:l[i]?=some o:=by simpa using ho
    have zy:(l.take m)[i]?=some o:=by rw[List.getElem?_take,if_pos xR];exact Ed
    obtain⟨S,F,h1,h2,h3,h4⟩:=hu.st
    have XB:(done.map (·.1)).Nodup:=by
      rw[hu.idx];have:=Ah;rw[hu.split,List.map_append] at this;exact(List.reverse_perm _).nodup_iff.2 (List.nodup_append.1 this).1
    have hneed:∀j,uK l.toArray (m+1) i j=true->listed.getD j false=true:=λj hj=>qU inv _ i j (λo' ho'=>by
      rw[ho] at ho';cases ho';exact JI) hj
    have sA:∀dn:iz,(∀x,x∈dn->x∈done)->dI (dg o.after dn++strip (dstsOf (l.take m)) env) S w a.tmps:=λdn hdn t x hx=>by
      rcases sH hx with h5|h5
      · obtain⟨j,hj,hw⟩:=uZ h5
        refine h4 j t x (hdn _ hj) ?_;unfold waits at hw;obtain⟨e,he,hb⟩:=List.any_eq_true.1 hw;simp only[Bool.and_eq_true] at hb;have:e.on=j:=by simpa using hb.1
        rw[<-this];exact JI e (by simpa using he) hb.2
      · exact h3 t x h5
    have hslot:∀j dj qj,(j,dj,qj)∈done->j≠i->∀d,o.dst=some d->d≠dj:=λj dj qj zz hij d o4 e=>by
      subst e;obtain⟨oj,ZG,XC⟩:=hu.dst _ zz;have u6:=Cj o (List.mem_of_getElem? zy) d o4;have XC:oj.dst=some d:=XC.resolve_right (λh=>by have h9:d=c.n:=h.2;rw[h9] at u6;exact Nat.lt_irrefl _ u6)
      have Q6:j<m:=by
        have:j∈pre.map (·.1):=by
          have:=tX zz;rw[hu.idx,List.mem_reverse] at this;exact this
        obtain⟨p,hp,rfl⟩:=List.mem_map.1 this;exact JL p (by rw[hu.split];simp[hp])
      have XD:(l.take m)[j]?=some oj:=by rw[List.getElem?_take,if_pos Q6];exact ZG
      exact hij (Ag Q5 XD zy XC o4)
    have Ra:∀t x,look (strip (dstsOf (l.take m)) env) t=some x->∀d,o.dst=some d->d≠t:=λt x hx d o4 e=>by
      subst e;have:=(me hx).2;rw[ox zy o4] at this;cases this
    have Rb:count m (listed.setIfInBounds i true)=u:=by have:=count_set xR Ec (by rw[inv.size];omega);omega
    obtain⟨k,hk⟩:=Q9 i xR;rw[hu.split] at hk;rcases List.mem_append.1 hk with hpre|hrest
    ·
      obtain⟨o',d,q,dn,g1,o4,g3,g4,g5,g6⟩:=hu.JJ _ hpre Ec;simp only at g1;rw[Ed] at g1;cases g1
      have u6:=Cj o (List.mem_of_getElem? zy) d o4
      have hne_r:∀p∈r,p.1≠i:=λp hp e=>by
        have h7:=Ah;rw[hu.split,List.map_append] at h7;exact(List.nodup_append.1 h7).2.2 i (List.mem_map.2 ⟨_,hpre,rfl⟩) p.1 (List.mem_map.2 ⟨p,hp,rfl⟩) e.symm
      unfold wpOpIn;simp only[ho]
      have key:=g5 a w S F hu.sz h1.bZ h1.cK h1.eg h2 (sA dn g4) (wpAnyIn (WF c.ro) 0 P .any l.toArray Q (u+g) (listed.setIfInBounds i true)) Q (λv w' S' gr hq=>by
        refine ih _ _ _ pre r done hs Rb (inv.set hi xR) ⟨by rw[Act.ek];exact hu.df,by rw[Act.iw];exact hu.sz,hu.split,hu.dr,hu.hd,λp hp=>?_,hu.idx,hu.dst,λp hp Ck=>?_,S',F,h1.grow gr,gr.zZ h1.bZ h1.cK h2,?_,?_⟩
        · rw[getD_set_ne false (λe=>hne_r p hp e.symm)];exact hu.un p hp
        · refine hu.JJ p hp ?_
          by_cases e:i=p.1
          · rw[<-e];exact Ec
          · rw[getD_set_ne false e] at Ck;exact Ck
        · intro t x hx
          rw[gQ (Ra t x hx)];exact gr.vp h1.bZ (h3 t x hx)
        · intro j dj qj zz Jy
          by_cases hij:j=i
          · subst hij
            obtain⟨rfl,rfl⟩:=tY XB zz g3;rw[o4];have:dj<a.tmps.size:=by rw[hu.sz];exact u6
            simpa[Act.put,this] using hq
          · rw[getD_set_ne false (λe=>hij e.symm)] at Jy
            rw[gQ (hslot j dj qj zz hij)];exact gr.vp h1.bZ (h4 j dj qj zz Jy))
      by_cases hw:Region.wanted o (yielded l.toArray a.tmps)=true
      · rw[if_pos hw] at key ⊢;exact Oper.rX (de.jV g5 hu.sz h1 h2 (sA dn g4) hw) key
      · rw[if_neg hw] at key ⊢;exact⟨λ_ _=>trivial,key⟩
    ·
      obtain⟨i0,k0,s,rfl,hk2⟩:∃i0 k0 s,r=(i0,k0)::s/\2<=k0:=hu.hd.resolve_left (λe=>by rw[e] at hrest;cases hrest);obtain⟨hafter,hread⟩:=qm ZI hk2 hu.split
      have hii:i0=i:=by
        rcases List.mem_cons.1 hrest with e|e
        · cases e;rfl
        · have:=hneed i0 (hafter _ e)
          rw[hu.un (i0,k0) (List.mem_cons_self ..)] at this;cases this
      subst hii
      have Us:∀p∈s,p.1≠i0:=λp hp e=>by
        have h7:=Ah;rw[hu.split,List.map_append,List.map_cons] at h7;exact(List.nodup_cons.1 (List.nodup_append.1 h7).2.1).1 (List.mem_map.2 ⟨p,hp,e⟩)
      have hnp:∀p∈pre,p.1≠i0:=λp hp e=>by
        have h7:=Ah;rw[hu.split,List.map_append] at h7;exact(List.nodup_append.1 h7).2.2 p.1 (List.mem_map.2 ⟨p,hp,rfl⟩) i0 (by simp) e
      obtain⟨dd,γ,φ,hs',q,hdd,g3,g4,Jz,g5⟩:∃(dd:Nat) (γ:Type) (φ:γ->Prop) (hs':γ->List HP) (q:γ->VP),(o.dst=some dd\/o.dst=none/\dd=c.n)/\Want l.toArray c.n (dg o.after done++strip (dstsOf (l.take m)) env) o/\gW P hs (dg o.after done++strip (dstsOf (l.take m)) env) o φ hs' q/\(k0=4->∀g,φ g->aF (hs' g) hs)/\
          ∀g,φ g->∃q':VP,(∀S w v,(q g).p S w v->(o.dst=some dd->q'.p S w v))/\(o.dst=none->∀S w v,q'.p S w v)/\dG P l c.n (strip (dstsOf (l.take m)) env) T s ((i0,dd,q')::done) (hs' g):=by
        obtain⟨o',dd,γ,φ,hs',q,g1,g2,g3,g4,Jz,g5⟩:=dG.head hk2 (Q8 (i0,k0) (by rw[hu.split];simp)).2 hu.dr;rw[Ed] at g1;cases g1
        exact⟨dd,γ,φ,hs',q,g2,g3,g4,Jz,g5⟩
      unfold wpOpIn;simp only[ho];rw[if_pos (g3 S w a.tmps hu.sz (sA done (λ_ h=>h)))];refine Oper.rX (gW.jV g4 h1 h2 (sA done (λ_ h=>h))) (g4 c a w S F h1 h2 (sA done (λ_ h=>h)) _ _ λgh v w' S' F' hφ aI hSS hag hown hq=>?_);obtain⟨q',WD,ZK,g6⟩:=g5 gh hφ;obtain⟨B,r',done',e1,e2,e3,e4,e5,e6,e7,e8⟩:=dG.expand s _ g6;refine ih _ _ _ (pre++(i0,k0)::B) r' done' (hs' gh) Rb (inv.set hi xR) ⟨by rw[Act.ek];exact hu.df,by rw[Act.iw];exact hu.sz,by rw[hu.split,e1];simp,e3,e2,λp hp=>?_,by rw[e5];simp[hu.idx],λx hx=>?_,λp hp Ck=>?_,S',F',aI,hown,?_,?_⟩
      · have hp':p∈s:=by rw[e1];simp[hp]
        rw[getD_set_ne false (λe=>Us p hp' e.symm)];exact hu.un p (List.mem_cons_of_mem _ hp')
      · rcases e6 x hx with h|h
        · rcases List.mem_cons.1 h with h|h
          · subst h;exact⟨o,Ed,hdd⟩
          · exact hu.dst x h
        · obtain⟨⟨o1,f1,f2⟩,_⟩:=h
          exact⟨o1,f1, .inl f2⟩
      · rcases List.mem_append.1 hp with h|h
        · have Gv:listed.getD p.1 false=false:=by
            rw[getD_set_ne false (λe=>hnp p h e.symm)] at Ck;exact Ck
          obtain⟨o1,d1,q1,dn,f1,f2,f3,f4,f5,f6⟩:=hu.JJ p h Gv;by_cases v5:k0=4
          · exact⟨o1,d1,q1,dn,f1,f2,e4 _ (List.mem_cons_of_mem _ f3),λx hx=>e4 x (List.mem_cons_of_mem _ (f4 x hx)),f5.own (Jz v5 gh hφ),f6⟩
          have ak:p.2=0:=by
            have hkind:p.2≠1:=λh1=>by
              have:=hneed p.1 (hread v5 p (.inr h) h1);rw[Gv] at this;cases this
            have hk2:¬2<=p.2:=λh2=>by
              obtain⟨a1,b1,hab⟩:=List.append_of_mem h;have:=(qm ZI (a:=a1) (b:=b1++(i0,k0)::s) (i:=p.1) h2 (by rw[hu.split,hab];simp)).1 (i0,k0) (by simp);have:=hneed p.1 this;rw[Gv] at this;cases this
            omega
          exact⟨o1,d1,q1,dn,f1,f2,e4 _ (List.mem_cons_of_mem _ f3),λx hx=>e4 x (List.mem_cons_of_mem _ (f4 x hx)),f6 ak _,λ_=>f6 ak⟩
        · rcases List.mem_cons.1 h with h|h
          · subst h
            have:i0<listed.size:=by rw[inv.size];omega
            simp[this] at Ck
          · exact e7 p h
      · intro t x hx
        rw[gQ (Ra t x hx)];exact x.mono hSS hag (h3 t x hx)
      · intro j dj qj zz Jy
        by_cases hij:j=i0
        · subst hij
          have XE:(done'.map (·.1)).Nodup:=by
            rw[e5];have h7:=Ah;rw[hu.split,e1] at h7;simp only[List.map_append,List.map_cons,hu.idx] at h7 ⊢;refine(List.Perm.nodup_iff ?_).1 (List.nodup_append.1 (by simpa using h7:((pre.map (·.1)++j::B.map (·.1))++r'.map (·.1)).Nodup)).1
            have q1:(pre.map (·.1)++j::B.map (·.1)).Perm (B.map (·.1)++(j::pre.map (·.1))):=by
              refine List.perm_append_comm.trans ?_;simp only[List.cons_append];exact(List.perm_middle.symm)
            exact q1.trans ((List.reverse_perm _).symm.append ((List.reverse_perm _).symm.cons j))
          obtain⟨rfl,rfl⟩:=tY XE zz (e4 _ (List.mem_cons_self ..));rcases hdd with o4|⟨o4,_⟩
          · have u6:=Cj o (List.mem_of_getElem? zy) dj o4
            rw[o4];have:dj<a.tmps.size:=by rw[hu.sz];exact u6
            simpa[Act.put,this] using WD _ _ _ hq o4
          · exact ZK o4 _ _ _
        · rw [getD_set_ne false (λe=>hij e.symm)] at Jy
          rcases e6 _ zz with h|⟨_,p,hp,hpe⟩
          · rcases List.mem_cons.1 h with h|h
            · cases h;exact absurd rfl hij
            · rw[gQ (hslot j dj qj h hij)]
              exact qj.mono hSS hag (h4 j dj qj h Jy)
          · simp only at hpe
            have:=hu.un p (List.mem_cons_of_mem _ (by rw[e1];simp[hp]));rw[hpe,Jy] at this;cases this
theorem dG.fin{ops:Array Oper}{tl:List Oper}{env:Env}(h:cv P ops Q c tl hs (gP done++env)):dG P l n e0 (λdone hs=>cv P ops Q c tl hs (gP done++env)) [] done hs:=h
theorem aU.XF{id:Nat}{env:Env}(plan:List (Nat×Nat))(m g:Nat)(hm:P.follows .mixedOrders=true)(hB:nM l.toArray plan m g c.n=true)
    (h:dG P l c.n (strip (dstsOf (l.take m)) env) (λdone hs=>cv P l.toArray Q c (l.drop m) hs (gP done++env)) plan [] hs):aU P Q c (.region id l.toArray true) hs env:=by
  intro a w hst;refine wpIn_region_any hm ?_;obtain⟨h1,h2,S,F,h3,h4,h5⟩:=hst
  have hsum:m+g=l.toArray.size:=by
    simp only[nM,Gu,Bool.and_eq_true] at hB;simpa using hB.1.1.1.1.1.1.1.1.1.1
  have g0:=gq.drew w S;obtain⟨B,r',done',e1,e2,e3,e4,e5,e6,e7,e8⟩:=dG.expand plan [] h;have key:=JK (P:=P) (Q:=Q) (l:=l) (c:=c) (env:=env) hB (λ_ _ h=>h) m (Array.replicate l.toArray.size false) a {w with drawn:=w.drawn+1} B r' done' hs ?_ ?_ ?_
  · rw[hsum] at key;exact key
  · unfold count
    rw[List.filter_eq_self.2 (λi hi=>by rw[getD_replicate_false];rfl)];simp
  · exact⟨by simp,λj oj _ hl=>(by rw[getD_replicate_false] at hl;cases hl),λt _ ht=>getD_in (by simpa using ht) (getD_replicate_false _ _)⟩
  · exact⟨h1,h2,e1,e3,e2,λp _=>getD_replicate_false _ _,by simpa using e5,λx hx=>(e6 x hx).elim (λh=>by cases h) (λh=>let ⟨o,f1,f2⟩:=h.1;⟨o,f1, .inl f2⟩),λp hp _=>e7 p hp,S,F,h3.grow g0,g0.zZ h3.bZ h3.cK h4,λt q hl=>g0.vp h3.bZ (h5 t q (me hl).1),λj d q _ hl=>by rw[getD_replicate_false] at hl;cases hl⟩
end
section
variable {P:Program} {hs:List HP} {env:Env} {q:VP} {dst:Option Tmp} {ty T T' E:TypeId} {pos:String} {after:Array Edge} {gd:Option (Nat×Bool)} {x y z:Operand}
def mQ(w:World)(b:Nat)(o:Obj):World:={w with heap:=w.heap.setIfInBounds b o}
def Ai(b:Nat)(l:List UInt8)(k:Nat):HP:=
 ⟨λF S w=>F b/\w.heap[b]?=some (.stringIter ⟨l.toArray⟩ k),λh1 h2 h3 h4 ⟨hF,hh⟩=>⟨h1 b hF,(h3 b hF).trans hh⟩⟩
theorem Gw{l:List UInt8}(hT:P.underlying T=some .string)(hx:bA env x (dV l)):gW P hs env ⟨dst, .range T x,ty,pos,after,gd⟩ (γ:=Nat) (λ_=>True) (λb=>Ai b l 0::hs) (λb=>ax b 0):=by
 intro c a w S F aI hown he K Q hk;have hv:=(hx S w a he).1
 have hr:(execOp a.eval ⟨dst, .range T x,ty,pos,after,gd⟩).run P w= .ok (.value (.pointer (some ⟨w.heap.size,0,none⟩))) {w with heap:=w.heap.push (.stringIter ⟨l.toArray⟩ 0)}:=by
  simp[execOp,hv,Instr.range,run_underlying hT,newObj,Sem.run]
 unfold Oper.wp;rw[hr];exact hk w.heap.size _ _ S _ trivial (aI.gJ _) (λ_ h=>h) (λk hk=>cL w _ k (aI.bZ k hk)) (hown.gJ aI.bZ aI.cK _ ⟨rfl,by simp⟩) rfl
def JM(l:List UInt8)(k:Nat):VP:=⟨λ_ _ v=>(k<l.length->v= .tuple #[.bool true, .int .i64 (k:Int), .int .i32 ((l.getD k 0).toNat:Int)])/\(¬k<l.length->v= .tuple #[.bool false]),λ_ _ h=>h⟩
theorem decode_ascii{l:List UInt8}{k:Nat}(hk:k<l.length)(h:∀b∈l,b<128):Utf8.decode ⟨l.toArray⟩ k=((l.getD k 0).toNat,1):=by
 have hb:(l.getD k 0)<128:=by
  rw[List.getD_eq_getElem?_getD,List.getElem?_eq_getElem hk];exact h _ (List.getElem_mem hk)
 have h0:(ByteArray.mk l.toArray).get! (k+0)=l.getD k 0:=by
  simp[ByteArray.get!,List.getD_eq_getElem?_getD,hk]
 have hb':(l.getD k 0).toNat<128:=by simpa[UInt8.lt_iff_toNat_lt] using hb
 unfold Utf8.decode;simp only[h0];rw[if_pos hb']
theorem Mr{l:List UInt8}{b k i:Nat}(h:∀b∈l,b<128)(JN:k<=l.length)(hx:bA env x (ax b 0))(hi:hs[i]?=some (Ai b l k)):
    gW P hs env ⟨dst, .next x true,ty,pos,after,gd⟩ (γ:=Unit) (λ_=>True) (λ_=>hs.set i (Ai b l (min (k+1) l.length))) (λ_=>JM l k):=by
  intro c a w S F aI hown he K Q hk;have hv:=hx S w a he;simp only[ag] at hv
  obtain⟨F1,F2,f1,f2,f3,_,f4⟩:=hown.zj hi;obtain⟨hFb,hb⟩:=f3;have hbs:b<w.heap.size:=aI.cK b (f1 b hFb).1;by_cases Rc:k<l.length
  · have hr:(execOp a.eval ⟨dst, .next x true,ty,pos,after,gd⟩).run P w= .ok (.value (.tuple #[.bool true, .int .i64 (k:Int), .int .i32 ((l.getD k 0).toNat:Int)])) (mQ w b (.stringIter ⟨l.toArray⟩ (k+1))):=by
      have hd:=decode_ascii Rc h;have hsz:k<(ByteArray.mk l.toArray).size:=by simpa[ByteArray.size] using Rc
      simp[execOp,hv,Instr.next,getObj,setObj,Sem.run,hb,hd,hsz,mQ,goInt]
    unfold Oper.wp;rw[hr];have hne:∀k',k'≠b->(mQ w b (.stringIter ⟨l.toArray⟩ (k+1))).heap[k']?=w.heap[k']?:=λk' hk'=>by simp[mQ,Array.getElem?_setIfInBounds_ne (λe=>hk' e.symm)]
    have hag:∀k',S k'->(mQ w b (.stringIter ⟨l.toArray⟩ (k+1))).heap[k']?=w.heap[k']?:=λk' hk'=>hne k' (λe=>aI.eg k' hk' (e▸(f1 b hFb).1));refine hk () _ _ S F trivial (aI.write (f1 b hFb).1 rfl rfl rfl (by simp[mQ]) hne) (λ_ h=>h) hag ?_ ⟨λ_=>rfl,λh'=>absurd Rc h'⟩
    have:=f4 S F1 (mQ w b (.stringIter ⟨l.toArray⟩ (k+1))) (Ai b l (min (k+1) l.length)) (λk hk=>(f1 k hk).2) (λ_ h=>h) (λk hk=>hne k (λe=>(f1 b hFb).2 (e▸hk))) hag
      ⟨hFb,by rw[show min (k+1) l.length=k+1 by omega];simp[mQ,hbs]⟩
    exact this.mono (λk hk=>hk.elim (λh=>(f1 k h).1) (f2 k)) (λ_ h=>h) (λ_ _=>rfl) (λ_ _=>rfl)
  · have hr:(execOp a.eval ⟨dst, .next x true,ty,pos,after,gd⟩).run P w= .ok (.value (.tuple #[.bool false])) w:=by
      have hsz:¬k<(ByteArray.mk l.toArray).size:=by simpa[ByteArray.size] using Rc
      simp[execOp,hv,Instr.next,getObj,Sem.run,hb,hsz]
    unfold Oper.wp;rw[hr];refine hk () _ _ S F trivial aI (λ_ h=>h) (λ_ _=>rfl) ?_ ⟨λh'=>absurd h' Rc,λ_=>rfl⟩;have:=f4 S F1 w (Ai b l (min (k+1) l.length)) (λk hk=>(f1 k hk).2) (λ_ h=>h) (λ_ _=>rfl) (λ_ _=>rfl) ⟨hFb,by rw[show min (k+1) l.length=k by omega];exact hb⟩;exact this.mono (λk hk=>hk.elim (λh=>(f1 k h).1) (f2 k)) (λ_ h=>h) (λ_ _=>rfl) (λ_ _=>rfl)
theorem Ms{l:List UInt8}{k:Nat}(hx:bA env x (JM l k)):bw P hs env ⟨dst, .extract x 0,ty,pos,after,gd⟩ (av (k<l.length)):=
 bw.aM λρ w S F _ he=>by
  have hv:=he.o _ _ hx;by_cases h:k<l.length
  · exact⟨.bool true,by simp[execOp,hv.1 h,Instr.extract],true,rfl,by simp[h]⟩
  · exact⟨.bool false,by simp[execOp,hv.2 h,Instr.extract],false,rfl,by simp[h]⟩
theorem Mt{l:List UInt8}{k:Nat}{e:UInt8}(h:l[k]?=some e)(hx:bA env x (JM l k)):bw P hs env ⟨dst, .extract x 2,ty,pos,after,gd⟩ (af .i32 (e.toNat:Int)):=
 bw.aM λρ w S F _ he=>by
  have hv:=he.o _ _ hx;have hk:=(List.getElem?_eq_some_iff.1 h).1;have he':l.getD k 0=e:=by rw[List.getD_eq_getElem?_getD,h];rfl
  exact⟨_,by simp[execOp,hv.1 hk,Instr.extract];rw[<-List.getD_eq_getElem?_getD,he'],rfl⟩
instance {α:Type} {n:Nat} {enc:α->List VP} [h:gX n enc] {xs:List α}:bD (xs.flatMap enc):=⟨λq hq=>let ⟨x,_,hx⟩:=List.mem_flatMap.1 hq;h.flat x q hx⟩
variable {k k':IntKind} {n m:Int}
theorem WE(hx:bA env x (af k n))(hy:bA env y (af k m))(h0:0<=n)(hm:0<m):bw P hs env ⟨dst, .binOp .rem T x y T',ty,pos,after,gd⟩ (af k (n%m)):=
 bw.aM λρ w S F _ he=>by
  have h1:=he.o _ _ hx;have h2:=he.o _ _ hy;simp only[ag] at h1 h2
  refine⟨.int k (n.tmod m),by simp[execOp,h1,h2,go_sem,Op.intDiv];omega,?_⟩
  show Value.int k _=Value.int k _
  rw[Int.tmod_eq_emod_of_nonneg h0]
theorem WG(hx:bA env x (af k n))(hy:bA env y (af k m))(h0:0<=n)(hm:0<m)(hf:fits k (n/m)):bw P hs env ⟨dst, .binOp .quo T x y T',ty,pos,after,gd⟩ (af k (n/m)):=
 bw.aM λρ w S F _ he=>by
  have h1:=he.o _ _ hx;have h2:=he.o _ _ hy;simp only[ag] at h1 h2
  refine⟨.int k (k.wrap (n.tdiv m)),by simp[execOp,h1,h2,go_sem,Op.intDiv];omega,?_⟩
  show Value.int k _=Value.int k _
  rw[Int.tdiv_eq_ediv_of_nonneg h0,fm hf]
theorem Mu{s:Nat}{hs':List HP}(hx:bA env x (af k n))(hy:bA env y (af k' (s:Int)))(h:s<=k.bits):bw P hs' env ⟨dst, .binOp .shl T x y T',ty,pos,after,gd⟩ (af k (k.wrap (n*2^s))):=
 bw.aM λρ w S F _ he=>by
  have h1:=he.o _ _ hx;have h2:=he.o _ _ hy;simp only[ag] at h1 h2
  have qR:min (s:Nat) k.bits=s:=Nat.min_eq_left h;have hn:¬((s:Int)<0):=by omega
  refine⟨.int k (k.wrap (n*2^s)),?_,rfl⟩;cases k<;>simp only[IntKind.bits] at h<;>simp[execOp,h1,h2,go_sem,Op.shift,hn,Nat.min_eq_left h]
end
end Go.Hl
end
