/-
  What the statement's proof leans on, several texts in one (packed by a program).
-/
import Derived.Test.YtpfobikpggmleaaGreatDoorSBK
import Derived.Laws.IdiomRangeMap
set_option linter.all false
set_option maxRecDepth 1000000
set_option maxHeartbeats 4000000
section
namespace Go.Hl
open Go.RowKit
section
variable {P:Program} {hs:List HP} {env:Env} {q:VP} {dst:Option Tmp} {ty T T' K V:TypeId} {pos:String} {after:Array Edge} {gd:Option (Nat×Bool)} {x y z:Operand}
def vg{κ ν:Type}[DecidableEq κ](it m:Nat)(kenc:κ→Value)(vq:ν→VP)(D:List (κ×ν))(seen:List Nat):HP:=
  ⟨fun F S w=>(F m∧F it∧m≠it)∧∃(es:Array MapEntry) (clock:Nat) (sa:Array Nat),w.heap[m]?=some (.map es clock)∧w.heap[it]?=some (.mapIter (some m) clock sa clock)∧es.toList.map (·.key)=D.map (fun p=>kenc p.1)∧(∀(i:Nat) (p:κ×ν),D[i]?=some p→(∃e,es[i]?=some e∧(vq p.2).p S w e.val))∧nB es clock∧
      sa.toList.map some=seen.map fun j=>(es[j]?).map (·.born),
   fun h1 h2 h3 h4 ⟨⟨hF,hG,hn⟩,es,cl,sa,hh,hi,hk,hv,hb,hs⟩=>⟨⟨h1 m hF,h1 it hG,hn⟩,es,cl,sa,(h3 m hF).trans hh,(h3 it hG).trans hi,hk,fun i p hp=>let ⟨e,he,hq⟩:=hv i p hp;⟨e,he,(vq p.2).mono h2 h4 hq⟩,hb,hs⟩⟩
theorem O0{κ ν:Type}[DecidableEq κ]{it m:Nat}{kenc:κ→Value}{vq:ν→VP}{D:List (κ×ν)}{seen:List Nat}{r:List HP}:aB (vg it m kenc vq D seen::r) (jL m kenc vq D::r):=fun F S w ⟨F1,F2,h1,h2,⟨⟨hF,hG,hn⟩,es,cl,sa,hh,hi,hk,hv,hb,hs⟩,h4⟩=>
 ⟨F1,F2,h1,h2,⟨hF,es,cl,hh,hk,hv,hb⟩,h4⟩
theorem O1{κ ν:Type}[DecidableEq κ]{kenc:κ→Value}{vq:ν→VP}{D:List (κ×ν)}{m i:Nat}(hT:P.underlying T=some (.map K V))(hx:bx env x (aa (.map (some m))))(hi:hs[i]?=some (jL m kenc vq D)):
    fZ P hs env ⟨dst, .range T x,ty,pos,after,gd⟩ (γ:=Nat) (fun _=>True) (fun it=>hs.set i (vg it m kenc vq D [])) (fun it=>aD it 0):=by
  intro c a w S F aH hown he Kp Q hk;have hv:=hx S w a he;simp only[aa] at hv
  obtain⟨F1,F2,f1,f2,⟨hFm,es,cl,hh,hke,V5,HM⟩,_,f4⟩:=hown.xA hi;have YU:m<w.heap.size:=(Array.getElem?_eq_some_iff.1 hh).1
  have hr:(execOp a.eval ⟨dst, .range T x,ty,pos,after,gd⟩).run P w= .ok (.value (.pointer (some ⟨w.heap.size,0,none⟩))) {w with heap:=w.heap.push (.mapIter (some m) cl #[] cl)}:=by
    simp[execOp,hv,Instr.range,run_underlying hT,getObj,newObj,Sem.run,hh]
  have hag:∀k,S k→({w with heap:=w.heap.push (.mapIter (some m) cl #[] cl)}:World).heap[k]?=w.heap[k]?:=fun k hk=>bF w _ k (aH.bR k hk);unfold Oper.wp;rw[hr];refine hk w.heap.size _ _ S _ trivial (aH.eV _) (fun _ h=>h) hag ?_ rfl
  have:=f4 S (fun k=>F1 k∨k=w.heap.size) {w with heap:=w.heap.push (.mapIter (some m) cl #[] cl)} (vg w.heap.size m kenc vq D []) (fun k hk=>hk.elim (fun h=>(f1 k h).2) (fun e h=>by have:=aH.cq k (f2 k h);omega)) (fun _ h=>h)
    (fun k hk=>bF w _ k (aH.cq k (f2 k hk))) hag ⟨⟨.inl hFm, .inr rfl,by omega⟩,es,cl, #[],(bF w _ m YU).trans hh,by simp,hke,fun j p hj=>let ⟨e,Ej,hq⟩:=V5 j p hj;⟨e,Ej,(vq p.2).mono (fun _ h=>h) hag hq⟩,HM,rfl⟩
  exact this.mono (fun k hk=>hk.elim (fun h=>h.elim (fun h=> .inr (f1 k h).1) .inl) (fun h=> .inr (f2 k h))) (fun _ h=>h) (fun _ _=>rfl) (fun _ _=>rfl)
theorem L3(w:World)(ty:TypeId)(r m:Nat)(sa:Array Nat)(es:Array MapEntry)(clock:Nat)(hr:w.heap[r]?=some (.mapIter (some m) clock sa clock))(hb:w.heap[m]?=some (.map es clock))(hold:∀x∈es.toList,x.born<clock):
    ((leftOf es sa).size=0∧(Instr.next (.pointer (some ⟨r,0,none⟩)) false ty).run P w= .ok (.tuple #[.bool false]) w)∨
    ∃e∈(leftOf es sa).toList,∃w1:World,(w1=w∨w1=w.drew)∧(Instr.next (.pointer (some ⟨r,0,none⟩)) false ty).run P w= .ok (.tuple #[.bool true,e.key,e.val]) (ia w1 r (.mapIter (some m) clock (sa.push e.born) clock)):=by
  simp only[Instr.next,getObj,Sem.run_bind,Sem.run,hr,hb,Result.andThen,next_test_false sa es clock clock hold (Nat.le_refl _),Bool.false_eq_true,if_false];unfold leftOf;have hmem:∀x∈(Array.filter (fun e=> !sa.contains e.born) es).toList,x.born<clock:=fun x hx=>hold x (by simp at hx ⊢;exact hx.1);generalize Array.filter (fun e=> !sa.contains e.born) es=L at hmem ⊢;have e1:L.filter (fun x=>decide (x.born<clock))=L:=Array.filter_eq_self.2 (fun x hx=>by simpa using hmem x (by simpa using hx))
  have e2:L.filter (fun x=>decide (x.born≥clock))= #[]:=by
    rw[Array.filter_eq_empty_iff];intro x hx;have:=hmem x (by simpa using hx);simp;omega
  simp only[e1,e2,Array.append_empty];by_cases h0:L.size=0
  · left
    have:L= #[]:=Array.eq_empty_of_size_eq_zero h0;subst this;refine⟨rfl,?_⟩;simp[choose,Sem.run,Question.forced]
  · right
    have hne:L.isEmpty=false:=by simp[Array.isEmpty,h0]
    simp only[hne,Bool.false_eq_true,if_false,Array.empty_append,Array.size_map]
    have hch:∃(j:Nat) (w1:World),j<L.size∧(w1=w∨w1=w.drew)∧(choose (Question.mapNext L.size)).run P w= .ok j w1:=by
      by_cases hf:L.size≤1
      · exact⟨0,w,by omega, .inl rfl,by simp[choose,Sem.run,Question.forced,hf]⟩
      · exact⟨_,w.drew,Nat.mod_lt _ (by omega), .inr rfl,by
          simp only[choose,Sem.run,Question.forced,decide_eq_true_eq,hf,if_false,Question.cut];rfl⟩
    obtain⟨j,w1,hj,hal,hrun⟩:=hch;refine⟨L[j],by simp,w1,hal,?_⟩;have Em:w1.heap[r]?=some (.mapIter (some m) clock sa clock):=by rcases hal with rfl|rfl<;>exact hr
    simp only[hrun,Array.getElem?_map,Array.getElem?_eq_getElem hj,Option.map_some,Sem.run_bind,Result.andThen];simp[setObj,Sem.run,Em,ia]
def O2(b:Prop):VP:=⟨fun _ _ v=>∃(vs:Array Value) (c:Bool),v= .tuple vs∧vs[0]?=some (.bool c)∧(c=true↔b),fun _ _ h=>h⟩
theorem O3{b:Prop}(hx:bx env x (O2 b)):bp P hs env ⟨dst, .extract x 0,ty,pos,after,gd⟩ (ak b):=
 bp.aL fun ρ w S F _ he=>by
  obtain⟨vs,c,hv,h0,hc⟩:=he.o _ _ hx;exact⟨.bool c,by simp[execOp,hv,Instr.extract,h0],c,rfl,hc⟩
def Xh(seen:List Nat):Option Nat→List Nat
 |none=>seen
 |some j=>seen++[j]
theorem RF{κ ν:Type}[DecidableEq κ]{kenc:κ→Value}{vq:ν→VP}{D:List (κ×ν)}{it m i:Nat}{seen:List Nat}(hx:bx env x (aD it 0))(hi:hs[i]?=some (vg it m kenc vq D seen)):
    fZ P hs env ⟨dst, .next x false,ty,pos,after,gd⟩ (γ:=Option Nat) (fun g=>(g=none→∀j,j<D.length→j∈seen)∧∀j,g=some j→j<D.length∧j∉seen) (fun g=>hs.set i (vg it m kenc vq D (Xh seen g))) (fun g=>O2 (g.isSome=true)):=by
  intro c a w S F aH hown he Kp Q hk;have hv:=hx S w a he;simp only[aa] at hv
  obtain⟨F1,F2,f1,f2,⟨⟨hFm,hFi,hni⟩,es,cl,sa,hh,hit,hke,V5,HM,Xi⟩,_,f4⟩:=hown.xA hi;have hlen:es.size=D.length:=by have:=congrArg List.length hke;simpa using this
  have hseen:∀(j:Nat) (e:MapEntry),es[j]?=some e→(e.born∈sa.toList↔j∈seen):=fun j e hj=>by
    have e1:(some e.born∈sa.toList.map some)↔e.born∈sa.toList:=by simp
    rw[←e1,Xi,List.mem_map];constructor
    · rintro⟨t,ht,h2⟩
      cases het:es[t]? with
      |none=>rw[het] at h2;cases h2
      | some e'=>
        rw[het] at h2;simp only[Option.map_some,Option.some.injEq] at h2;have h3:(es.toList.map (·.born))[t]?=some e'.born:=by simp[het]
        have h4:(es.toList.map (·.born))[j]?=some e.born:=by simp[hj]
        have h5:t=j:=by
          have ht1:=(List.getElem?_eq_some_iff.1 h3).1;have hj1:=(List.getElem?_eq_some_iff.1 h4).1;exact(List.getElem?_inj ht1 HM.1).1 (by rw[h3,h4,h2])
        exact h5▸ht
    · intro h;exact⟨j,h,by rw[hj];rfl⟩
  rcases L3 (P:=P) w ty it m sa es cl hit hh HM.2 with⟨h0,hr⟩|⟨e,hem,w1,hw1,hr⟩
  · have hr':(execOp a.eval ⟨dst, .next x false,ty,pos,after,gd⟩).run P w= .ok (.value (.tuple #[.bool false])) w:=by
      simp[execOp,hv,hr]
    unfold Oper.wp;rw[hr'];refine hk none _ w S F ⟨fun _ j hj=>?_,fun j e=>(by cases e)⟩ aH (fun _ h=>h) (fun _ _=>rfl) ?_ ⟨_,false,rfl,rfl,by simp⟩
    · have hje:es[j]?=some es[j]:=Array.getElem?_eq_getElem (by omega)
      rw[←hseen j _ hje];apply Classical.byContradiction;intro hn
      have:es[j]∈leftOf es sa:=by
        unfold leftOf;rw[Array.mem_filter];exact⟨Array.getElem_mem _,by simpa using fun h=>hn (by simpa using h)⟩
      have h1:=Array.size_pos_of_mem this;omega
    · have:=f4 S F1 w (vg it m kenc vq D seen) (fun k hk=>(f1 k hk).2) (fun _ h=>h) (fun _ _=>rfl) (fun _ _=>rfl) ⟨⟨hFm,hFi,hni⟩,es,cl,sa,hh,hit,hke,V5,HM,Xi⟩
      exact this.mono (fun k hk=>hk.elim (fun h=>(f1 k h).1) (f2 k)) (fun _ h=>h) (fun _ _=>rfl) (fun _ _=>rfl)
  · obtain⟨Ej,HN⟩:e∈es.toList∧e.born∉sa.toList:=by
      unfold leftOf at hem;have:=Array.mem_filter.1 (by simpa using hem:e∈Array.filter (fun e=> !sa.contains e.born) es);exact⟨by simpa using this.1,by simpa using this.2⟩
    obtain⟨j,hj⟩:=List.mem_iff_getElem?.1 Ej;have hj':es[j]?=some e:=by simpa using hj
    have QS:j<es.size:=(Array.getElem?_eq_some_iff.1 hj').1
    have hr':(execOp a.eval ⟨dst, .next x false,ty,pos,after,gd⟩).run P w= .ok (.value (.tuple #[.bool true,e.key,e.val])) (ia w1 it (.mapIter (some m) cl (sa.push e.born) cl)):=by
      simp[execOp,hv,hr]
    have ap1:it<w.heap.size:=(Array.getElem?_eq_some_iff.1 hit).1;have KE:w1.heap=w.heap∧w1.os=w.os∧w1.tape=w.tape∧w1.output=w.output:=by rcases hw1 with rfl|rfl<;>exact⟨rfl,rfl,rfl,rfl⟩
    have hne:∀k',k'≠it→(ia w1 it (.mapIter (some m) cl (sa.push e.born) cl)).heap[k']?=w.heap[k']?:=fun k' hk'=>by
      show(w1.heap.setIfInBounds it _)[k']?=_
      rw[KE.1,Array.getElem?_setIfInBounds_ne (fun e=>hk' e.symm)]
    have hag:∀k',S k'→(ia w1 it (.mapIter (some m) cl (sa.push e.born) cl)).heap[k']?=w.heap[k']?:=fun k' hk'=>hne k' (fun e=>aH.dJ k' hk' (e▸(f1 it hFi).1));unfold Oper.wp;rw[hr'];refine hk (some j) _ _ S F ⟨fun e=>(by cases e),fun j' e'=>(by cases e';exact⟨by omega,fun h=>HN ((hseen j e hj').2 h)⟩)⟩ (aH.write (f1 it hFi).1 KE.2.1 KE.2.2.1 KE.2.2.2 (by show(w1.heap.setIfInBounds it _).size=_;rw[Array.size_setIfInBounds,KE.1]) hne) (fun _ h=>h) hag ?_ ⟨_,true,rfl,rfl,by simp⟩
    have:=f4 S F1 (ia w1 it (.mapIter (some m) cl (sa.push e.born) cl)) (vg it m kenc vq D (seen++[j])) (fun k hk=>(f1 k hk).2) (fun _ h=>h) (fun k hk=>hne k (fun e=>(f1 it hFi).2 (e▸hk))) hag
      ⟨⟨hFm,hFi,hni⟩,es,cl,sa.push e.born,(hne m hni).trans hh,by(show(w1.heap.setIfInBounds it _)[it]?=_;rw[KE.1];simp[ap1]),hke,fun t p ht=>let ⟨u,hu,hq⟩:=V5 t p ht;⟨u,hu,(vq p.2).mono (fun _ h=>h) hag hq⟩,HM,by(rw[Array.toList_push,List.map_append,List.map_append,Xi];simp[hj'])⟩
    exact this.mono (fun k hk=>hk.elim (fun h=>(f1 k h).1) (f2 k)) (fun _ h=>h) (fun _ _=>rfl) (fun _ _=>rfl)
theorem O4{κ ν:Type}[DecidableEq κ]{kenc:κ→Value}{vq:ν→VP}{D:List (κ×ν)}{it m i j:Nat}{seen:List Nat}{p:κ×ν}(hx:bx env x (aD it 0))(hi:hs[i]?=some (vg it m kenc vq D (seen++[j])))(hj:D[j]?=some p):
    bp P hs env ⟨dst, .entry x,ty,pos,after,gd⟩ (bE [aa (kenc p.1),vq p.2]):=
  bp.aL fun ρ w S F ho he=>by
    have hv:=he.o _ _ hx;simp only[aa] at hv
    obtain⟨F1,_,⟨hFm,hFi,hni⟩,es,cl,sa,hh,hit,hke,V5,HM,Xi⟩:=ho.get hi;obtain⟨e,Xj,hq⟩:=V5 j p hj
    have hb:sa.back?=some e.born:=by
      have h1:(sa.toList.map some).getLast?=some (some e.born):=by rw[Xi];simp[Xj]
      rw[List.getLast?_map] at h1;rw[←Array.getLast?_toList];cases hl:sa.toList.getLast? with
      |none=>rw[hl] at h1;cases h1
      |some y=>rw[hl] at h1;simpa using h1
    have OA:e.key=kenc p.1:=by
      have:=congrArg (fun l=>l[j]?) hke;simp only[List.getElem?_map,Array.getElem?_toList,Xj,hj,Option.map_some,Option.some.injEq] at this;exact this
    have rP:es.find? (·.born==e.born)=some e:=by
      rw[←Array.find?_toList];exact find_born e es.toList HM.1 (by rw[List.mem_iff_getElem?];exact⟨j,by simpa using Xj⟩)
    refine⟨.tuple #[e.key,e.val],?_,_,rfl,rfl,fun t p' v' ht o9=>?_⟩
    · simp[execOp,hv,Instr.entry,getObj,Sem.run,hit,hb,hh,rP]
    · match t,ht,o9 with
      |0,ht,o9=>simp at ht o9;subst ht;subst o9;exact OA
      |1,ht,o9=>simp at ht o9;subst ht;subst o9;exact hq
end
end Go.Hl
end
