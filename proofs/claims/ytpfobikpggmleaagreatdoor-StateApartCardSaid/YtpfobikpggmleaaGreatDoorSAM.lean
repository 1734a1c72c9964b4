/-
  What the statement's proof leans on, several texts in one (packed by a program).
-/
import Derived.Test.YtpfobikpggmleaaGreatDoorSAL
import Derived.RangeFuncIn
import Derived.RangeFuncRecord
import Derived.RangeFuncLeaves
set_option linter.all false
set_option maxRecDepth 1000000
set_option maxHeartbeats 4000000
section
namespace Go.Hl
open Go.RowKit
def EP (f:FuncId) (ps:List VP):VP:=⟨fun S w v=>∃lb:List Value,v= .func (.func f) #[] lb.toArray∧gN ps S w lb,fun h1 h2 ⟨lb,hv,h⟩=>⟨lb,hv,h.mono h1 h2⟩⟩
instance (f:FuncId) (ps:List VP):Flat (EP f ps):=⟨fun ⟨_,h,_⟩=>by subst h;exact ⟨rfl,rfl⟩⟩
structure zH where
 fn:FuncId
 tmps:Array Value
 ps:Array Tmp
 assign:Code
 body:Code
def zH.loop (r:zH) (D:Nat) (st:LoopState):Loop:={state:=st,pending:=none,fn:=r.fn,tmps:=r.tmps,params:=r.ps,assign:=r.assign,body:=r.body,defers:=D}
def mc (l D:Nat) (st:LoopState) (r:zH) (e:Env):HP:=
 ⟨fun F S w=>(F l∧F D∧l≠D)∧w.heap[l]?=some (.loop (r.loop D st))∧w.heap[D]?=some (.deferred (some []))∧cL e S w r.tmps,
  fun h1 h2 h3 h4 ⟨⟨a,b,c⟩,h,k,he⟩=>⟨⟨h1 _ a,h1 _ b,c⟩,(h3 _ a).trans h,(h3 _ b).trans k,he.mono h2 h4⟩⟩
def ER (D:Nat):HP:=⟨fun F S w=>F D∧w.heap[D]?=some (.deferred (some [])),fun h1 h2 h3 h4 ⟨a,h⟩=>⟨h1 _ a,(h3 _ a).trans h⟩⟩
abbrev yV (l:Nat):VP:=aa (.func (.yield l) #[] #[])
variable {c:Ctx}
theorem kI.over {w w':World} {S F F1 F2 S' F1':BS} {hs' rest:List HP} (aF:kI c w S F) (qn:∀k,F1 k→F k∧¬F2 k) (xC:∀k,F2 k→F k) (SC:cS rest F2 S w) {nn:Nat} {ρ:Option Nat} {df:List Deferred} (h2:kI ⟨w,S,F1,nn,ρ,df⟩ w' S' F1') (uP:cS hs' F1' S' w'):
    kI c w' S' (fun k=>F1' k∨F2 k)∧(∀k,S k→S' k)∧(∀k,S k→w'.heap[k]?=w.heap[k]?)∧cS (hs'++rest) (fun k=>F1' k∨F2 k) S' w':=by
  have hSF:∀k,S k→¬F1 k:=fun k hk hf=>aF.dG k hk (qn k hf).1
  have hoS:∀k,S k→w'.heap[k]?=w.heap[k]?:=fun k hk=>h2.kept k (aF.bO k hk) (hSF k hk)
  have ho2F:∀k,F2 k→¬F1 k:=fun k hk hf=>(qn k hf).2 hk
  refine ⟨⟨h2.os.trans aF.os,h2.tape.trans aF.tape,h2.output.trans aF.output,Nat.le_trans aF.size h2.size,fun k hk hm=> ?_,fun k hk hf=> ?_,h2.bO,fun k hk=> ?_,fun k hk=> ?_,fun k hk=> ?_,fun k hk=>h2.base k (aF.base k hk)⟩,h2.base,hoS, ?_⟩
  · have hnF:¬F1 k:=fun hf=>(aF.own k (qn k hf).1).elim hm (fun h=>by omega)
    exact (h2.kept k (Nat.lt_of_lt_of_le hk aF.size) hnF).trans (aF.kept k hk hm)
  · rcases hf with hf|hf
    · exact h2.dG k hk hf
    · rcases h2.shr k hk with h|h|h
      · exact aF.dG k h (xC k hf)
      · exact (qn k h).2 hf
      · exact Nat.lt_irrefl _ (Nat.lt_of_lt_of_le (aF.bZ k (xC k hf)) h)
  · rcases hk with hk|hk
    · exact h2.bZ k hk
    · exact Nat.lt_of_lt_of_le (aF.bZ k (xC k hk)) h2.size
  · rcases hk with hk|hk
    · rcases h2.own k hk with h|h
      · exact aF.own k (qn k h).1
      · exact .inr (Nat.le_trans aF.size h)
    · exact aF.own k (xC k hk)
  · rcases h2.shr k hk with h|h|h
    · exact aF.shr k h
    · exact .inr (aF.own k (qn k h).1)
    · exact .inr (.inr (Nat.le_trans aF.size h))
  · refine cS.append.2 ⟨F1',F2,fun k hk=>⟨.inl hk,fun hf=> ?_⟩,fun k hk=> .inr hk,uP,SC.mono (fun _ h=>h) h2.base (fun k hk=>h2.kept k (aF.bZ k (xC k hk)) (ho2F k hk)) hoS⟩
    rcases h2.own k hk with h|h
    · exact (qn k h).2 hf
    · exact Nat.lt_irrefl _ (Nat.lt_of_lt_of_le (aF.bZ k (xC k hf)) h)
def Wy (c:Ctx) (hs':List HP):Ending→World→Prop:=fun e w'=>e= .returned (.bool true)∧∃S' F',kI ⟨c.w0,c.S0,c.M,0,none,[]⟩ w' S' F'∧cS hs' F' S' w'
def Ow (P:Program) (l:Nat) (ps:List VP) (hs hs':List HP):Prop:=
 ∀(w:World) (S F:BS) (vs:List Value),(∀k,S k→k<w.heap.size)→(∀k,F k→k<w.heap.size)→(∀k,S k→¬F k)→cS hs F S w→gN ps S w vs→
  ∃(fn:FuncId) (tmps:Array Value) (assign body:Code),(Instr.yield l vs.toArray).run P w= .ok (.round l fn tmps assign body) w∧RoundIn (WF none) 0 P l fn tmps assign body w (Wy ⟨w,S,F,0,none,[]⟩ hs')
section
variable {P:Program} {ops:Array Oper} {Q:Exit→Act→World→Prop} {c:Ctx} {hs:List HP} {env:Env} {q:VP} {dst:Option Tmp} {ty T T':TypeId} {pos:String} {after:Array Edge} {gd:Option (Nat×Bool)} {x y z:Operand}
theorem zI {f:FuncId} {cs:List VP} {ys:List Operand} (h2:l5 env ys cs):bl P hs env ⟨dst, .makeFunc (.func f) #[] ys.toArray,ty,pos,after,gd⟩ (EP f cs):=by
 intro a w S F _ _ _ _ he K Q hk
 unfold Oper.wp
 exact hk _ w S (Grow.refl _ _) ⟨_,by simp,h2 S w a he⟩
theorem cc.yld {lst:List Oper} {l d:Nat} {ys:List Operand} {ats:Array TypeId} {ps:List VP} {hs0 hs1 rest:List HP} (hY:Ow P l ps hs0 hs1) (hx:bu env x (yV l)) (hys:l5 env ys ps) (hp:hs.Perm (hs0++rest)) (hd:Nat.blt d c.n=true)
    (k:cc P ops Q c lst (hs1++rest) ((d,aq True)::env)):cc P ops Q c (⟨some d, .call ⟨.value x,ys.toArray,ats⟩,ty,pos,after,none⟩::lst) hs env:=by
  intro a w hst
  obtain ⟨h1,h2,S,F,h3,h4,h5⟩:=hst
  obtain ⟨F1,F2,qn,xC,TD,SC⟩:=cS.append.1 (h4.perm hp)
  have SD:∀k,F1 k→k<w.heap.size:=fun k hk=>h3.bZ k (qn k hk).1
  have hSF:∀k,S k→¬F1 k:=fun k hk hf=>h3.dG k hk (qn k hf).1
  obtain ⟨fn,tmps,assign,body,Ox,hrd⟩:=hY w S F1 _ h3.bO SD hSF TD (hys S w a h5)
  have hv:=hx S w a h5;simp only [aa] at hv
  refine wpListIn_plain rfl fun K hK=>⟨fun _ _=>trivial, ?_⟩
  rw [Oper.semAt_eq _ _ _ (fun _ e=>by cases e)]
  have hr:(execOp a.eval ⟨some d, .call ⟨.value x,ys.toArray,ats⟩,ty,pos,after,none⟩).run P w= .ok (.round l fn tmps assign body) w:=by
    simp [execOp,resolve,Deferred.ofValue,invoke,hv] at Ox ⊢
    exact Ox
  rw [hr]
  refine ⟨fun h=>(by cases h),RoundIn.mono (F:=WF c.ro) hrd ?_⟩
  rintro e w' ⟨rfl,S',F1',hs',ho'⟩
  obtain ⟨k1,k2,k3,k4⟩:=h3.over qn xC SC hs' ho'
  refine hK _ _ (k _ _ ⟨?_, ?_,S',_,k1,k4, ?_⟩)
  · rw [Act.dA];exact h1
  · rw [Act.gw];exact h2
  · exact (h5.mono k2 k3).put ⟨true,rfl,by simp⟩ (by rw [h2];simpa using hd)
def TT (P:Program) (l:Nat) (c:Ctx) (hs':List HP):Exit→Act→World→Prop:=roundPost P l (Wy c hs')
def TU (P:Program) (l:Nat) (c:Ctx) (hs':List HP) (body:Code):Exit→Act→World→Prop:=Exit.then (fun a w=>∃w₂,(Instr.beginRound l).run P w= .ok () w₂∧body.wpIn (WF (some l)) 0 P (TT P l c hs') a w₂) (fun _ _ _=>False)
theorem kI.TV {c:Ctx} {w:World} {S F:BS} {h0 h1:HP} (aF:kI c w S F) (hown:cS (h0::hs) F S w) {m:Nat} {o:Obj} (hF:∀F1,h0.p F1 S w→F1 m) (hp:∀F1,(∀k,S k→(w.putObj m o).heap[k]?=w.heap[k]?)→h0.p F1 S w→h1.p F1 S (w.putObj m o)):kI c (w.putObj m o) S F∧cS (h1::hs) F S (w.putObj m o)∧(∀k,S k→(w.putObj m o).heap[k]?=w.heap[k]?):=by
 obtain ⟨F1,F2,f1,f2,f3,f4⟩:=hown
 have hFm:=hF F1 f3
 have hne:∀k,k≠m→(w.putObj m o).heap[k]?=w.heap[k]?:=fun k hk=>World.putObj_heap_other hk
 have hag:∀k,S k→(w.putObj m o).heap[k]?=w.heap[k]?:=fun k hk=>hne k (fun e=>aF.dG k hk (e▸(f1 m hFm).1))
 exact ⟨aF.write (f1 m hFm).1 rfl rfl rfl World.putObj_size hne,⟨F1,F2,f1,f2,hp F1 hag f3,f4.mono (fun _ h=>h) (fun _ h=>h) (fun k hk=>hne k (fun e=>(f1 m hFm).2 (e▸hk))) hag⟩,hag⟩
theorem mc.Ho {l D:Nat} {st st':LoopState} {r:zH} {e0:Env} {F1 S:BS} {w:World} (hag:∀k,S k→(w.putObj l (.loop (r.loop D st'))).heap[k]?=w.heap[k]?) (h:(mc l D st r e0).p F1 S w):(mc l D st' r e0).p F1 S (w.putObj l (.loop (r.loop D st'))):=by
 obtain ⟨⟨a,b,c⟩,h,k,he⟩:=h
 exact ⟨⟨a,b,c⟩,World.putObj_heap_same (Array.getElem?_eq_some_iff.1 h).1,(World.putObj_heap_other (fun e=>c e.symm)).trans k,he.mono (fun _ h=>h) hag⟩
theorem bK.begin {l D:Nat} {r:zH} {e0:Env} {hs':List HP} {body:Code} {c':Ctx} (h:aM P (TT P l c' hs') c body (mc l D .busy r e0::hs) env) (hro:c.ro=some l:=by rfl):bK (TU P l c' hs' body) .normal c (mc l D .ready r e0::hs) env:=by
 intro a w hst
 obtain ⟨h1,h2,S,F,h3,h4,h5⟩:=hst
 obtain ⟨F1,F2,f1,f2,f3,f4⟩:=id h4
 have hl:=f3.2.1
 obtain ⟨k1,k2,k3⟩:=h3.TV (h1:=mc l D .busy r e0) (m:=l) (o:= .loop (r.loop D .busy)) h4 (fun F1 h=>h.1.1) (fun F1 hag h=>mc.Ho hag h)
 refine ⟨_,run_beginRound hl rfl, ?_⟩
 have:=h a _ ⟨h1,h2,S,F,k1,k2,h5.mono (fun _ h=>h) k3⟩
 rw [hro] at this;exact this
theorem bK.endRound {l D:Nat} {r:zH} {e0:Env} {hs':List HP} {c':Ctx} (hc:c'.w0=c.w0∧c'.S0=c.S0∧c'.M=c.M:=by exact ⟨rfl,rfl,rfl⟩):bK (TT P l c' (mc l D .ready r e0::hs')) .normal c (mc l D .busy r e0::hs') env:=by
 intro a w hst
 obtain ⟨h1,h2,S,F,h3,h4,h5⟩:=hst
 obtain ⟨F1,F2,f1,f2,f3,f4⟩:=id h4
 have hl:=f3.2.1
 obtain ⟨k1,k2,k3⟩:=h3.TV (h1:=mc l D .ready r e0) (m:=l) (o:= .loop (r.loop D .ready)) h4 (fun F1 h=>h.1.1) (fun F1 hag h=>mc.Ho hag h)
 refine ⟨_,_,run_endRound none hl,rfl,S,F, ?_,k2⟩
 obtain ⟨e1,e2,e3⟩:=hc
 rw [e1,e2,e3]
 exact ⟨k1.os,k1.tape,k1.output,k1.size,k1.kept,k1.dG,k1.bO,k1.bZ,k1.own,k1.shr,k1.base⟩
def argsAt:List Tmp→List VP→Env
 |t::ts,p::ps=>(t,p)::argsAt ts ps
 |_,_=>[]
theorem BH {S:BS} {w:World} {env:Env}:∀(ts:List Tmp) (ps:List VP) (vs:List Value) (tmps:Array Value),ts.length=ps.length→gN ps S w vs→cL env S w tmps→(∀t∈ts,t<tmps.size)→ts.Nodup→
    cL (argsAt ts ps++env) S w ((ts.zip vs).foldl (fun tmps (p:Tmp×Value)=>tmps.setIfInBounds p.1 p.2) tmps)
  | [],ps,vs,tmps,hl,hv,he,_,_=>by
    cases ps with
    |nil=>cases vs<;>exact he
    |cons p ps=>simp at hl
  | t ::ts,ps,vs,tmps,hl,hv,he,ht,hn=>by
    cases ps with
    |nil=>simp at hl
    | cons p ps =>
      cases vs with
      |nil=>have:=hv.1;simp at this
      | cons v vs=>
        rw [List.nodup_cons] at hn
        have h0:p.p S w v:=hv.2 0 p v rfl rfl
        have p8:gN ps S w vs:=⟨by have:=hv.1;simpa using this,fun j q u hq hu=>hv.2 (j+1) q u (by simpa using hq) (by simpa using hu)⟩
        have he':cL ((t,p)::env) S w (tmps.setIfInBounds t v):=cL.put (a:={tmps:=tmps,defers:=[]}) he h0 (ht t (List.mem_cons_self ..))
        have ih:=BH ts ps vs (tmps.setIfInBounds t v) (by simpa using hl) p8 he' (fun u hu=>by simp;exact ht u (List.mem_cons_of_mem _ hu)) hn.2
        intro u q hq
        refine ih u q ?_
        have key:∀(ts:List Tmp) (ps:List VP),t∉ts→look ((t,p)::(argsAt ts ps++env)) u=some q→look (argsAt ts ps++(t,p)::env) u=some q:=by
          intro ts
          induction ts with
          |nil=>intro ps _ h;cases ps<;>exact h
          | cons s ts ih2=>
            intro ps hs h
            cases ps with
            |nil=>exact h
            | cons p2 ps=>
              simp only [argsAt,List.cons_append,bH] at h ⊢
              by_cases e:s=u
              · rw [if_pos e] at h ⊢
                rw [if_neg (fun e2:t=u=>hs (by rw [e2,←e];exact List.mem_cons_self ..))] at h;exact h
              · rw [if_neg e] at h ⊢
                exact ih2 ps (fun hm=>hs (List.mem_cons_of_mem _ hm)) (by rw [bH];exact h)
        exact key ts ps hn.1 hq
theorem CO {l D:Nat} {r:zH} {e0:Env} {n:Nat} {arg:List VP} {hs hs':List HP} (hlen:r.ps.toList.length=arg.length) (hsz:r.tmps.size=n) (hlt:∀t∈r.ps.toList,t<n) (hnd:r.ps.toList.Nodup)
    (hround:∀(w0:World) (S0 M:BS),aM P (TU P l ⟨w0,S0,M,n,some l,[]⟩ (mc l D .ready r e0::hs') r.body) ⟨w0,S0,M,n,some l,[]⟩ r.assign (mc l D .ready r e0::hs) (argsAt r.ps.toList arg++e0)):Ow P l arg (mc l D .ready r e0::hs) (mc l D .ready r e0::hs'):=by
  intro w S F vs hS hF hSF hown hall
  obtain ⟨F1,F2,f1,f2,f3,f4⟩:=id hown
  have hl:=f3.2.1
  have hvl:vs.length=r.ps.size:=by rw [←hall.1,←hlen];simp
  refine ⟨r.fn,_,r.assign,r.body,run_yield hl (by simpa [zH.loop] using hvl), ?_⟩
  refine roundIn_of_wpIn (F:=WF none) trivial ?_
  refine hround w S F {tmps:=_,defers:=[]} w ⟨rfl, ?_,S,F,⟨rfl,rfl,rfl,Nat.le_refl _,fun _ _ _=>rfl,hSF,hS,hF,fun k hk=> .inl hk,fun k hk=> .inl hk,fun _ hk=>hk⟩,hown, ?_⟩
  · have Ni:∀(l:List (Tmp×Value)) (tmps:Array Value),(l.foldl (fun tmps (p:Tmp×Value)=>tmps.setIfInBounds p.1 p.2) tmps).size=tmps.size:=by
      intro l
      induction l with
      |nil=>intro _;rfl
      |cons p l ih=>intro tmps;rw [List.foldl_cons,ih];simp
    show ((r.ps.zip vs.toArray).foldl (fun tmps (p:Tmp×Value)=>tmps.setIfInBounds p.1 p.2) r.tmps).size=n
    rw [←Array.foldl_toList]
    exact (Ni _ _).trans hsz
  · have:=BH (env:=e0) r.ps.toList arg vs r.tmps hlen hall f3.2.2.2 (fun t ht=>by rw [hsz];exact hlt t ht) hnd
    show cL _ S w ((r.ps.zip vs.toArray).foldl (fun tmps (p:Tmp×Value)=>tmps.setIfInBounds p.1 p.2) r.tmps)
    rw [←Array.foldl_toList]
    have e:(r.ps.zip vs.toArray).toList=r.ps.toList.zip vs:=by simp
    rw [e];exact this
end
def rV (P:Program) (fn:Func) (c:Ctx) {γ:Type} (φ:γ→Prop) (hs':γ→List HP) (q:γ→VP):Exit→Act→World→Prop:=
 bodyPostM (WF none) 0 P fn fun e w'=>∃v S' F' g,e= .returned v∧kI ⟨c.w0,c.S0,c.M,0,none,[]⟩ w' S' F'∧φ g∧cS (hs' g) F' S' w'∧(q g).p S' w' v
variable {P:Program} {hs:List HP}
theorem cw.Oy {f:FuncId} {fn:Func} {x:Code} {ps:List VP} {γ:Type} {φ:γ→Prop} {hs':γ→List HP} {q:γ→VP}
    (n:Nat) (hf:P.funcs[f]?=some fn) (hb:fn.body=some x) (hnt:fn.ntmps=n) (hn:Nat.ble ps.length n=true)
    (h:∀(w0:World) (S0 M:BS),aM P (rV P fn ⟨w0,S0,M,n,none,[]⟩ φ hs' q) ⟨w0,S0,M,n,none,[]⟩ x hs (args ps)):cw P f ps hs φ hs' q:=by
  intro w S F vs hS hF hSF hown hall
  have hlen:ps.length=vs.size:=by simpa using hall.1
  have hn':ps.length≤n:=by simpa using hn
  refine callsIn_wide.1 (callsIn_of_wp_marks (F:=WF none) (n:=0) hf hb trivial (h w S F _ _ ⟨rfl, ?_,S,F, ?_,hown, ?_⟩))
  · simp;omega
  · exact ⟨rfl,rfl,rfl,Nat.le_refl _,fun _ _ _=>rfl,hSF,hS,hF,fun k hk=> .inl hk,fun k hk=> .inl hk,fun _ hk=>hk⟩
  · intro t q' hl
    obtain ⟨j,hj,hq⟩:=o8 ps 0 t q' hl
    have vV:t=j:=by omega
    subst vV
    have hjl:t<ps.length:=(List.getElem?_eq_some_iff.1 hq).1
    have Nw:t<vs.size:=by omega
    have:(vs++Array.replicate (fn.ntmps-vs.size) undef).getD t undef=vs[t]:=by simp [Array.getElem?_append,Nw]
    rw [this]
    exact hall.2 t q' _ hq (by simp [Nw])
section
variable {P:Program} {Q:Exit→Act→World→Prop} {c:Ctx} {hs:List HP} {env:Env}
abbrev u7 (D:Nat):List Deferred:=[{target:= .collected D,args:= #[]}]
theorem rV.leave {fn:Func} {c0:Ctx} {γ:Type} {φ:γ→Prop} {hs':γ→List HP} {q:γ→VP} {D:Nat} (hdf:c.df=u7 D) (hc:c0.w0=c.w0∧c0.S0=c.S0∧c0.M=c.M) (g:γ) (hφ:φ g) (hh:∀F S w,cS hs F S w→cS (hs' g) F S w)
    (hres:∀F S w (tmps:Array Value),cS hs F S w→cL env S w tmps→∃v,(results fn tmps).run P w= .ok v w∧(q g).p S w v):bK (rV P fn c0 φ hs' q) .ret c (ER D::hs) env:=by
  intro a w hst
  obtain ⟨h1,h2,S,F,h3,h4,h5⟩:=hst
  obtain ⟨F1,F2,f1,f2,f3,f4⟩:=id h4
  obtain ⟨hFD,hD⟩:=f3
  have hne:∀k,k≠D→(w.putObj D (.deferred none)).heap[k]?=w.heap[k]?:=fun k hk=>World.putObj_heap_other hk
  have hag:∀k,S k→(w.putObj D (.deferred none)).heap[k]?=w.heap[k]?:=fun k hk=>hne k (fun e=>h3.dG k hk (e▸(f1 D hFD).1))
  have k1:kI c (w.putObj D (.deferred none)) S F:=h3.write (f1 D hFD).1 rfl rfl rfl World.putObj_size hne
  have k2:cS hs F S (w.putObj D (.deferred none)):=f4.mono f2 (fun _ h=>h) (fun k hk=>hne k (fun e=>(f1 D hFD).2 (e▸hk))) hag
  obtain ⟨v,hv,hq⟩:=hres _ _ _ a.tmps k2 (h5.mono (fun _ h=>h) hag)
  obtain ⟨e1,e2,e3⟩:=hc
  show LeavesInM (WF none) 0 P fn a.tmps _ a.defers .returning w
  rw [h1,hdf]
  refine ⟨fun e=>(by cases e), .inl ⟨D,_,rfl,run_takeDeferred hD,v,hv,v,S,F,g,rfl, ?_,hφ,hh _ _ _ k2,hq⟩⟩
  rw [e1,e2,e3]
  exact ⟨k1.os,k1.tape,k1.output,k1.size,k1.kept,k1.dG,k1.bO,k1.bZ,k1.own,k1.shr,k1.base⟩
theorem rV.aP {fn:Func} {c0:Ctx} {γ:Type} {φ:γ→Prop} {hs':γ→List HP} {q:γ→VP} {r:ResultVar} {q0:VP} {D:Nat} (hr:fn.results= #[r]) (g:γ) (hφ:φ g) (hh:∀F S w,cS hs F S w→cS (hs' g) F S w) (h:Sy P hs env r q0) (hq:af q0 (q g))
    (hdf:c.df=u7 D:=by rfl) (hc:c0.w0=c.w0∧c0.S0=c.S0∧c0.M=c.M:=by exact ⟨rfl,rfl,rfl⟩):bK (rV P fn c0 φ hs' q) .ret c (ER D::hs) env:=
  rV.leave hdf hc g hφ hh fun F S w tmps ho he=>by
    obtain ⟨vs,e1,e2⟩:=ow (P:=P) hr (ye.cons h hq ye.nil) ho he
    match vs,e2 with
    |[v],e2=>exact ⟨v,e1,e2.2 0 _ v rfl rfl⟩
theorem rV.bf {fn:Func} {c0:Ctx} {γ:Type} {φ:γ→Prop} {hs':γ→List HP} {q:γ→VP} {rs:List ResultVar} {qs:List VP} {D:Nat} (hr:fn.results=rs.toArray) (hn:Nat.beq qs.length 1=false) (g:γ) (hφ:φ g) (hh:∀F S w,cS hs F S w→cS (hs' g) F S w) (hq:q g=bD qs) (h:ye P hs env rs qs)
    (hdf:c.df=u7 D:=by rfl) (hc:c0.w0=c.w0∧c0.S0=c.S0∧c0.M=c.M:=by exact ⟨rfl,rfl,rfl⟩):bK (rV P fn c0 φ hs' q) .ret c (ER D::hs) env:=
  rV.leave hdf hc g hφ hh fun F S w tmps ho he=>by
    obtain ⟨vs,e1,e2⟩:=ow (P:=P) hr h ho he
    have hne:¬vs.toArray.size=1:=by
      rw [List.size_toArray,←e2.1];intro e;rw [e] at hn;cases hn
    rw [dif_neg hne] at e1
    exact ⟨_,e1,by rw [hq];exact ⟨vs.toArray,rfl,by simpa using e2⟩⟩
theorem aM.Oz {g:Operand} {ps:Array Tmp} {assign body:Code} {f:FuncId} {psb:List VP} {qi:VP} (N:Nat) (J:Nat→List HP) (arg:Nat→List VP) (hro:c.ro=none) (hdf:c.df=[]) (hh:hs=J 0)
    (hcb:mR P f=true) (hg:bu env g (EP f psb)) (hps:(ps.toList.all fun t=>Nat.blt t c.n)=true) (hnd:ps.toList.Nodup) (hlen:∀j,j<N→(arg j).length=ps.toList.length)
    (hit:∀(l D:Nat) (r:zH),(∀j,j<N→Ow P l (arg j) (mc l D .ready r env::J j) (mc l D .ready r env::J (j+1)))→cw P f (yV l::psb) (mc l D .ready r env::J 0) (γ:=Unit) (fun _=>True) (fun _=>mc l D .ready r env::J N) (fun _=>qi))
    (hround:∀(l D:Nat) (fn:FuncId) (tmps:Array Value) (j:Nat),j<N→∀(w0:World) (S0 M:BS),aM P (TU P l ⟨w0,S0,M,c.n,some l,[]⟩ (mc l D .ready ⟨fn,tmps,ps,assign,body⟩ env::J (j+1)) body) ⟨w0,S0,M,c.n,some l,[]⟩ assign (mc l D .ready ⟨fn,tmps,ps,assign,body⟩ env::J j) (argsAt ps.toList (arg j)++env))
    (hend:∀D,bK Q .normal {c with df:=u7 D} (ER D::J N) env):aM P Q c (.rangeFunc g ps assign body) hs env:=by
  intro a w hst
  obtain ⟨h1,h2,S,F,h3,h4,h5⟩:=hst
  subst hh
  obtain ⟨lb,hv,hlb⟩:=hg S w a h5
  rw [show WF c.ro=WF none by rw [hro]]
  refine wpIn_rangeFunc fun fn _=> ?_
  let r:zH:=⟨fn,a.tmps,ps,assign,body⟩
  let D:=w.heap.size
  let l:=w.heap.size+1
  let w1:World:=(w.alloc (.deferred (some []))).alloc (.loop (r.loop D .ready))
  have s1:kI c w1 S (fun k=>k=l∨(k=D∨F k)):=by
    have:=(h3.eN (.deferred (some []))).eN (.loop (r.loop D .ready))
    have e:({w with heap:=w.heap.push (.deferred (some []))}:World).heap.size=l:=by simp [l]
    rw [e] at this;exact this
  have hold:∀k,k<w.heap.size→w1.heap[k]?=w.heap[k]?:=fun k hk=>by
    show ((w.heap.push _).push _)[k]?=_
    rw [Array.getElem?_push_lt (by simp;omega)]
    simp [Array.getElem_push_lt hk,hk]
  have hagS:∀k,S k→w1.heap[k]?=w.heap[k]?:=fun k hk=>hold k (h3.bO k hk)
  have o1:cS (mc l D .ready r env::J 0) (fun k=>k=l∨(k=D∨F k)) S w1:=by
    refine ⟨fun k=>k=l∨k=D,F,fun k hk=>⟨hk.elim .inl fun e=> .inr (.inl e),fun hf=> ?_⟩,fun k hk=> .inr (.inr hk),⟨⟨.inl rfl, .inr rfl,by simp [l,D]⟩, ?_, ?_,h5.mono (fun _ h=>h) hagS⟩,h4.mono (fun _ h=>h) (fun _ h=>h) (fun k hk=>hold k (h3.bZ k hk)) hagS⟩
    · have:=h3.bZ k hf
      rcases hk with e|e<;>(simp only [l,D] at e;omega)
    · show ((w.heap.push _).push _)[w.heap.size+1]?=_
      have:w.heap.size+1=(w.heap.push (Obj.deferred (some []))).size:=by simp
      rw [this,Array.getElem?_push_size]
    · show ((w.heap.push _).push _)[w.heap.size]?=_
      rw [Array.getElem?_push_lt (by simp)]
      simp
  have hy:∀j,j<N→Ow P l (arg j) (mc l D .ready r env::J j) (mc l D .ready r env::J (j+1)):=fun j hj=>
    CO (n:=c.n) (hlen j hj).symm h2 (fun t ht=>by simpa using List.all_eq_true.1 hps t ht) hnd fun w0 S0 M=>hround l D fn a.tmps j hj w0 S0 M
  have hcall:=hit l D r hy w1 S _ (#[.func (.yield l) #[] #[]]++lb.toArray) s1.bO s1.bZ s1.dG o1 (by
    have:gN (yV l::psb) S w1 (.func (.yield l) #[] #[]::lb):=⟨by simp [hlb.1],fun j p v hj p8=>by
      cases j with
      |zero=>simp at hj p8;subst hj;subst p8;rfl
      |succ j=>exact (hlb.mono (fun _ h=>h) hagS).2 j p v (by simpa using hj) (by simpa using p8)⟩
    simpa using this)
  have hent:(Instr.enterLoop fn a.tmps ps assign body none).run P w= .ok (l,u7 D) w1:=run_enterLoop_outer fn a.tmps ps assign body
  have hres:(resolve a.eval (rangeCall g l) 0).run P w1= .ok {target:= .fn (.func f) lb.toArray,args:= #[.func (.yield l) #[] #[]]} w1:=by
    have e:a.eval (.const (.func (.yield l) #[] #[]))= .func (.yield l) #[] #[]:=rfl
    simp [resolve,rangeCall,hv,Deferred.ofValue,e]
  have hinv:(invoke (.fn (.func f) lb.toArray) #[.func (.yield l) #[] #[]]).run P w1= .ok (.enter f (#[.func (.yield l) #[] #[]]++lb.toArray)) w1:=by
    have:=jw hcb (#[.func (.yield l) #[] #[]]++lb.toArray) w1
    simp [invoke] at this ⊢
    exact this
  have qf:CallsIn (WF none) (0-1) P f (#[.func (.yield l) #[] #[]]++lb.toArray) w1 (rangePost (WF none) 0 P l Q {a with defers:=u7 D++a.defers}):=by
    refine CallsIn.mono (D7 hcall) ?_
    rintro e w' ⟨v,S',F',_,rfl,hs',_,ho',_⟩
    obtain ⟨k1,k2,k3,k4⟩:=s1.over (rest:=[]) (F2:=fun _=>False) (fun k hk=>⟨hk,id⟩) (fun k hk=>hk.elim) trivial hs' ho'
    rw [List.append_nil] at k4
    obtain ⟨G1,G2,g1,g2,g3,g4⟩:=id k4
    have hl:=g3.2.1
    obtain ⟨m1,m2,m3⟩:=k1.TV (h1:=ER D) (m:=l) (o:= .loop {r.loop D .ready with state:= .exhausted}) k4 (fun F1 h=>h.1.1) (fun F1 hag h=>⟨h.1.2.1,(World.putObj_heap_other (fun e=>h.1.2.2 e.symm)).trans h.2.2.1⟩)
    refine ⟨none,_,run_endLoop hl (by simp [zH.loop]), ?_⟩
    refine hend D _ _ ⟨?_,h2,S',_,⟨m1.os,m1.tape,m1.output,m1.size,m1.kept,m1.dG,m1.bO,m1.bZ,m1.own,m1.shr,m1.base⟩,m2,(h5.mono k2 (fun k hk=>(k3 k hk).trans (hagS k hk))).mono (fun _ h=>h) m3⟩
    show u7 D++a.defers=u7 D
    rw [h1,hdf];rfl
  exact ⟨l,u7 D,w1,_,w1,f,_,w1,hent,hres,fun _ _=>trivial,hinv,fun h=>(by cases h),qf⟩
end
variable {env:Env} {b:Nat}
theorem bK.share {Q:Exit→Act→World→Prop} {e0:Exit} {i off t:Nat} {cs:List VP} (hi:hs[i]?=some (az b cs)) (ht:look env t=some (aI b off)) (h:bK Q e0 c (hs.eraseIdx i) ((t,cr (cs.drop off))::env)):bK Q e0 c hs env:=by
 intro a w ⟨h1,h2,S,F,h3,h4,h5⟩
 obtain ⟨F1,F2,f1,f2,f3,f5,_⟩:=h4.xx hi
 have hb:=f1 b f3.1
 have hS:∀k,S k→S k∨k=b:=fun _ h=> .inl h
 have hc:bX (fun k=>S k∨k=b) w b 0 cs:=fun j q hj=>let ⟨v,hv,hq⟩:=lD f3 j q hj;⟨v,hv,q.mono hS (fun _ _=>rfl) hq⟩
 refine h a w ⟨h1,h2,fun k=>S k∨k=b,F2,⟨h3.os,h3.tape,h3.output,h3.size,h3.kept, ?_, ?_,fun k hk=>h3.bZ k (f2 k hk),fun k hk=>h3.own k (f2 k hk), ?_,fun k hk=> .inl (h3.base k hk)⟩,
  f5.mono (fun _ h=>h) hS (fun _ _=>rfl) (fun _ _=>rfl),fun s q hl=> ?_⟩
 · exact fun k hk hf=>hk.elim (fun h=>h3.dG k h (f2 k hf)) (fun e=>hb.2 (e▸hf))
 · exact fun k hk=>hk.elim (h3.bO k) (fun e=>h3.bZ k (e▸hb.1))
 · exact fun k hk=>hk.elim (h3.shr k) (fun e=>by
    rcases h3.own b hb.1 with h|h
    · exact .inr (.inl (e▸h))
    · exact .inr (.inr (e▸h)))
 · rw [bH] at hl
   by_cases e:t=s
   · rw [if_pos e] at hl;cases hl;subst e
     have hv:=h5 t _ ht;simp only [aa] at hv
     refine ⟨b,off,hv, .inr rfl, ?_⟩
     have:=hc.drop off;simpa using this
   · rw [if_neg e] at hl
     exact q.mono hS (fun _ _=>rfl) (h5 s q hl)
theorem Lw {dst:Option Tmp} {ty T E:TypeId} {pos:String} {after:Array Edge} {gd:Option (Nat×Bool)} {x:Operand} {n:Nat} {i:Int} {α:Type} {enc:α→List VP} (hT:P.underlying T=some (.slice E)) (hn:P.cellsOf E=1) (hb:P.bytesOf E=1) (hz:jI P E=some [.int .u8 0]) (hx:bu env x (ag .i64 i)) (hi:i=(n:Int)) (hle:n≤281474976710656):
    fV P hs env ⟨dst, .makeSlice T (.const (.int .i64 0)) x,ty,pos,after,gd⟩ (γ:=SB) (fun _=>True) (fun sb=>au sb 1 enc ([]:List α)::hs) (fun sb=>aa (bq sb 0)):=by
  intro c a w S F aF hown he K Q hk
  have hv:=hx S w a he;simp only [aa] at hv
  subst hi
  have hr:(execOp a.eval ⟨dst, .makeSlice T (.const (.int .i64 0)) x,ty,pos,after,gd⟩).run P w= .ok (.value (.slice (some ⟨w.heap.size,0,none⟩) 0 n)) {w with heap:=w.heap.push (.cells (mV (List.replicate n 0)).toArray E)}:=by
    obtain ⟨info,hi1,hi2⟩:=dg hn rfl w
    obtain ⟨zv,Ee,v7⟩:=gy hz w
    have hs1:=run_sizeOf hn rfl w
    have hw:IntKind.i64.wrap (n:Int)=(n:Int):=eE (bY (by omega) (by omega))
    have hw0:IntKind.i64.wrap 0=0:=by decide
    have hbytes:info.bytes=1:=hi2.trans hb
    have hcells:(Array.range (n*1)).map (fun t=>zv.cells[t%zv.cells.size]!)=(mV (List.replicate n 0)).toArray:=by
      rw [v7]
      apply Array.ext
      · simp [mV]
      · intro j h1 h2
        simp [mV,Nat.mod_one]
    have K3:¬((n:Int)<0):=by omega
    have v8:¬((281474976710656:Int)<(n:Int)):=by omega
    have hroom:∀m:Nat,(askRoom m).run P w= .ok () w:=fun m=>by unfold askRoom;split<;>simp [mark,Sem.run]
    have qZ:a.eval (.const (.int .i64 0))= .int .i64 0:=rfl
    by_cases h0:n=0
    · subst h0
      have JY:Array.map (fun _:Nat=>(default:Value)) (Array.range 0)=(mV []).toArray:=by apply Array.ext<;>simp [mV]
      simp [execOp,Instr.makeSlice,run_underlying hT,asInt,asIntOf,hv,qZ,hi1,hw0,hs1,newRow]
      exact congrArg (fun r=>w.alloc (.cells r E)) JY
    · simp [execOp,Instr.makeSlice,run_underlying hT,asInt,asIntOf,hv,qZ,hi1,hbytes,hw,hw0,K3,v8,hroom,hs1,h0,Ee,newRow]
      rw [Nat.mul_one] at hcells
      exact congrArg (fun r=>w.alloc (.cells r E)) hcells
  unfold Oper.wp
  rw [hr]
  refine hk (some (w.heap.size,n)) _ _ S _ trivial (aF.eN _) (fun _ h=>h) (fun k hk=>bB w _ k (aF.bO k hk)) (hown.eN aF.bO aF.bZ _ ⟨rfl,Nat.zero_le _,by simp,(mV (List.replicate n 0)).toArray,E,by simp,by simp [mV],fun j q h=>by simp at h⟩) rfl
structure u9 where
 num:Int
 pages:Nat
 most:Nat
 high:Nat
 wide:Prop
abbrev TW (pb:Nat) (M:u9):List VP:=[aI pb 0,aS M.num,aS (M.pages:Int),aS (M.most:Int),aS (M.high:Int),aq M.wide]
abbrev di (mb pb:Nat) (M:u9):HP:=az mb (TW pb M)
structure AW (M:u9):Prop where
 num:0≤M.num
 pages:M.pages≤M.most
 high:M.high≤M.most
 most:M.most≤65536
def jD (pages a n:Nat):Prop:=pages*65536<a+n
instance (p a n:Nat):Decidable (jD p a n):=inferInstanceAs (Decidable (_<_))
def cg (pages a o:Nat) (n:Int):Nat×Nat×Nat:=
 if n<0 then (0,0,1) else if 1048576<n then (0,0,15) else if jD pages (a+o) n.toNat then (0,4,0) else (a+o,0,0)
theorem sQ (a o:Nat) (ha:a<18446744073709551616) (ho:o<18446744073709551616):(a+o<18446744073709551616∧IntKind.u64.wrap ((a:Int)+(o:Int))=((a+o:Nat):Int))∨(18446744073709551616≤a+o∧IntKind.u64.wrap ((a:Int)+(o:Int))=((a+o-18446744073709551616:Nat):Int)):=by
 by_cases h:a+o<18446744073709551616
 · exact .inl ⟨h,by rw [eE (nt (by omega) (by omega))];omega⟩
 · refine .inr ⟨by omega, ?_⟩
   have e:IntKind.u64.wrap ((a:Int)+(o:Int))=((a:Int)+(o:Int))%18446744073709551616:=rfl
   rw [e];omega
theorem wG {pages a o:Nat} {n:Int} (h:cg pages a o n=(a+o,0,0)∨(cg pages a o n).2=(0,0)):0≤n∧n≤1048576∧a+o+n.toNat≤pages*65536∧(cg pages a o n).1=a+o:=by
 unfold cg at*
 by_cases h1:n<0
 · rw [if_pos h1] at h;simp at h
 · rw [if_neg h1] at h ⊢
   by_cases h2:1048576<n
   · rw [if_pos h2] at h;simp at h
   · rw [if_neg h2] at h ⊢
     by_cases h3:jD pages (a+o) n.toNat
     · rw [if_pos h3] at h;simp at h
     · rw [if_neg h3];unfold jD at h3;exact ⟨by omega,by omega,by omega,rfl⟩
def pM (M:u9) (n:Nat):u9×Nat×Bool:=if M.high-M.pages<n then (M,0,false) else ({M with pages:=M.pages+n},M.pages,true)
def Lx (b:Nat) (xs:List UInt8):HP:=Vb fun sb:SB=>j4 [az b [aa (bq sb xs.length)],au sb 1 aj xs]
theorem BI {sb:SB} {xs:List UInt8} {r:List HP}:aB (az b [aa (bq sb xs.length)]::au sb 1 aj xs::r) (Lx b xs::r):=
 aB.trans (aB.pack (l:=[az b [aa (bq sb xs.length)],au sb 1 aj xs])) (aB.ex (f:=fun sb:SB=>j4 [az b [aa (bq sb xs.length)],au sb 1 aj xs]) sb)
theorem aM.J9 {Q:Exit→Act→World→Prop} {x:Code} {xs:List UInt8} {r:List HP} (k:∀sb:SB,aM P Q c x (az b [aa (bq sb xs.length)]::au sb 1 aj xs::r) env):aM P Q c x (Lx b xs::r) env:=
 aM.opens fun sb=>aM.own (aB.unpack (l:=[az b [aa (bq sb xs.length)],au sb 1 aj xs])) (k sb)
end Go.Hl
end
section
namespace Go.Hl
def dJ (n:Int):List VP:=[ag .i64 n]
def eA (n:Int):List VP:=[ag .u64 n]
structure oa where
 P:List UInt8
 R:List UInt8
def cu (s:oa):List VP:=[ai 1 aj s.P,ai 1 aj s.R]
structure iK where
 Module:List UInt8
 Name:List UInt8
 iA:Int
def kq (x:iK):List VP:=[cZ x.Module,cZ x.Name,ag .i64 x.iA]
structure aA where
 Code:Int
 A:Int
 B:Int
 dz:Int
 L:List Int
def aK (x:aA):List VP:=[ag .i64 x.Code,ag .u64 x.A,ag .u64 x.B,ag .i64 x.dz,ai 1 eA x.L]
structure kr where
 aV:List UInt8
 L:List aA
def iL (x:kr):List VP:=[ai 1 aj x.aV,ai 5 aK x.L]
structure cU where
 iA:Int
 Body:kr
def jE (x:cU):List VP:=[ag .i64 x.iA,ai 1 aj x.Body.aV,ai 5 aK x.Body.L]
structure eo where
 Min:Int
 Max:Int
 bN:Prop
def eY (x:eo):List VP:=[ag .i64 x.Min,ag .i64 x.Max,aq x.bN]
structure jF where
 Ty:UInt8
 fD:Prop
 Value:Int
def eG (x:jF):List VP:=[ag .u8 (x.Ty.toNat:Int),aq x.fD,ag .u64 x.Value]
structure dW where
 Name:List UInt8
 Kind:Int
 Index:Int
def dZ (x:dW):List VP:=[cZ x.Name,ag .i64 x.Kind,ag .i64 x.Index]
structure fR where
 At:Int
 ay:List Int
def fS (x:fR):List VP:=[ag .u64 x.At,ai 1 dJ x.ay]
structure jJ where
 Mem:Int
 At:Int
 Bytes:List UInt8
def gV (x:jJ):List VP:=[ag .i64 x.Mem,ag .u64 x.At,ai 1 aj x.Bytes]
structure aR where
 bR:List oa
 aH:List iK
 ay:List cU
 Table:Int
 bp:List eo
 an:List jF
 bJ:List dW
 Start:Int
 bt:List fR
 aZ:List jJ
def br (m:aR):List VP:=[ai 2 cu m.bR,ai 3 kq m.aH,ai 3 jE m.ay,ag .i64 m.Table,ai 3 eY m.bp,ai 3 eG m.an,ai 3 dZ m.bJ,ag .i64 m.Start,ai 2 fS m.bt,ai 3 gV m.aZ]
instance:hU 1 dJ:=⟨fun _=>rfl,fun x q h=>by simp only [dJ,List.mem_cons,List.not_mem_nil,or_false] at h;rw [h];infer_instance⟩
instance:hU 1 eA:=⟨fun _=>rfl,fun x q h=>by simp only [eA,List.mem_cons,List.not_mem_nil,or_false] at h;rw [h];infer_instance⟩
instance:hU 2 cu:=⟨fun _=>rfl,fun x q h=>by simp only [cu,List.mem_cons,List.not_mem_nil,or_false] at h;rcases h with h|h<;>rw [h]<;>infer_instance⟩
instance:hU 3 kq:=⟨fun _=>rfl,fun x q h=>by simp only [kq,List.mem_cons,List.not_mem_nil,or_false] at h;rcases h with h|h|h<;>rw [h]<;>infer_instance⟩
instance:hU 5 aK:=⟨fun _=>rfl,fun x q h=>by simp only [aK,List.mem_cons,List.not_mem_nil,or_false] at h;rcases h with h|h|h|h|h<;>rw [h]<;>infer_instance⟩
instance:hU 2 iL:=⟨fun _=>rfl,fun x q h=>by simp only [iL,List.mem_cons,List.not_mem_nil,or_false] at h;rcases h with h|h<;>rw [h]<;>infer_instance⟩
instance:hU 3 jE:=⟨fun _=>rfl,fun x q h=>by simp only [jE,List.mem_cons,List.not_mem_nil,or_false] at h;rcases h with h|h|h<;>rw [h]<;>infer_instance⟩
instance:hU 3 eY:=⟨fun _=>rfl,fun x q h=>by simp only [eY,List.mem_cons,List.not_mem_nil,or_false] at h;rcases h with h|h|h<;>rw [h]<;>infer_instance⟩
instance:hU 3 eG:=⟨fun _=>rfl,fun x q h=>by simp only [eG,List.mem_cons,List.not_mem_nil,or_false] at h;rcases h with h|h|h<;>rw [h]<;>infer_instance⟩
instance:hU 3 dZ:=⟨fun _=>rfl,fun x q h=>by simp only [dZ,List.mem_cons,List.not_mem_nil,or_false] at h;rcases h with h|h|h<;>rw [h]<;>infer_instance⟩
instance:hU 2 fS:=⟨fun _=>rfl,fun x q h=>by simp only [fS,List.mem_cons,List.not_mem_nil,or_false] at h;rcases h with h|h<;>rw [h]<;>infer_instance⟩
instance:hU 3 gV:=⟨fun _=>rfl,fun x q h=>by simp only [gV,List.mem_cons,List.not_mem_nil,or_false] at h;rcases h with h|h|h<;>rw [h]<;>infer_instance⟩
theorem bE.of {α:Type} {n:Nat} {enc:α→List VP} [h:hU n enc] (x:α):bE (enc x):=⟨fun q hq=>h.flat x q hq⟩
instance (x:oa):bE (cu x):=bE.of x
instance (x:iK):bE (kq x):=bE.of x
instance (x:aA):bE (aK x):=bE.of x
instance (x:kr):bE (iL x):=bE.of x
instance (x:cU):bE (jE x):=bE.of x
instance (x:eo):bE (eY x):=bE.of x
instance (x:jF):bE (eG x):=bE.of x
instance (x:dW):bE (dZ x):=bE.of x
instance (x:fR):bE (fS x):=bE.of x
instance (x:jJ):bE (gV x):=bE.of x
def kV (l:List UInt8):Prop:=l.length≤20∧∀b∈l,b=126∨b=127
def jf (l:List UInt8):Prop:=(∀b∈l,33≤b.toNat∧b.toNat≤126)∧l≠[]∧l.length≤30
def jt (n many:Int):Prop:=0≤n∧n<many
def CP (l:eo) (most:Int):Prop:=0≤l.Min∧l.Min≤most∧(l.Max<0∨l.Min≤l.Max∧l.Max≤most)
end Go.Hl
namespace Go.Hl
def oD (n:Nat) (most:Int) (g:Nat→Int):Int:=if most<(n:Int) then 15 else gR g n
theorem bI {n:Nat} {most:Int} {g:Nat→Int}:oD n most g=0↔(n:Int)≤most∧gR g n=0:=by
 unfold oD;split
 · constructor
   · intro h;cases h
   · rintro ⟨h,_⟩;omega
 · constructor
   · intro h;exact ⟨by omega,h⟩
   · exact fun h=>h.2
def cG (m:aR):Int:=(m.aH.length:Int)+(m.ay.length:Int)
def CQ (s:oa):Prop:=kV s.P∧kV s.R
noncomputable def Ly (s:oa):Int:=ki (¬CQ s) 5
noncomputable def BJ (m:aR):Int:=oD m.bR.length 50 (oA m.bR Ly)
open Classical in
noncomputable def gj (m:aR) (x:iK):Int:=if ¬jf x.Module∨¬jf x.Name then 16 else ki (¬jt x.iA m.bR.length) 2
noncomputable def pN (m:aR):Int:=oD m.aH.length 20 (oA m.aH (gj m))
noncomputable def rW (m:aR) (x:cU):Int:=ki (¬jt x.iA m.bR.length) 2
noncomputable def kW (m:aR):Int:=if 100<cG m then 15 else gR (oA m.ay (rW m)) m.ay.length
noncomputable def nG (m:aR):Int:=if m.Table< -1 then 2 else ki (1000<m.Table) 15
noncomputable def OA (x:eo):Int:=ki (¬CP x 65536) 5
noncomputable def BK (m:aR):Int:=oD m.bp.length 4 (oA m.bp OA)
def gE (t:UInt8):Int:=if (t.toNat:Int)=127 then 32 else if (t.toNat:Int)=126 then 64 else 0
theorem qx (b:UInt8):gE b=0↔¬(b=126∨b=127):=by
 unfold gE
 by_cases h1:(b.toNat:Int)=127
 · have e:b=127:=UInt8.toNat_inj.1 (by simp;omega)
   subst e;simp
 · by_cases h2:(b.toNat:Int)=126
   · have e:b=126:=UInt8.toNat_inj.1 (by simp;omega)
     subst e;simp
   · rw [if_neg h1,if_neg h2]
     simp only [true_iff]
     rintro (e|e)<;>subst e<;>simp at h1 h2
theorem Lz {l:List UInt8}:((l.length:Int)≤20∧¬∃x∈l,gE x=0)↔kV l:=by
 unfold kV
 simp only [not_exists,not_and,qx,Classical.not_not]
 constructor<;>(rintro ⟨h1,h2⟩;exact ⟨by omega,h2⟩)
noncomputable def sR (x:jF):Int:=ki (gE x.Ty=0∨(x.Ty.toNat:Int)=127∧4294967295<x.Value) 5
noncomputable def pO (m:aR):Int:=oD m.an.length 50 (oA m.an sR)
def cnt (m:aR):Nat→Int
 |0=>cG m
 |1=>min (IntKind.i64.wrap (m.Table+1)) 1
 |2=>(m.bp.length:Int)
 |_=>(m.an.length:Int)
def nH (k:Int):Nat:=(max (min k 3) 0).toNat
def Ka (m:aR) (x:dW):Prop:=jt x.Kind 4∧jt x.Index (cnt m (nH x.Kind))
open Classical in
noncomputable def jU (m:aR) (i:Nat):Int:=match m.bJ[i]? with
 |none=>0
 |some x=>if ¬jf x.Name∨(∃y∈m.bJ.take i,y.Name=x.Name) then 16 else ki (¬Ka m x) 2
noncomputable def nI (m:aR):Int:=oD m.bJ.length 50 (jU m)
def fE (m:aR) (f:Int):Option Int:=
 if f<0∨cG m≤f then none else if f<(m.aH.length:Int) then (m.aH[f.toNat]?).map (·.iA) else (m.ay[(f-(m.aH.length:Int)).toNat]?).map (·.iA)
def iU (m:aR) (f:Int):Option oa:=match fE m f with
 |none=>none
 |some n=>if 0≤n then m.bR[n.toNat]? else none
noncomputable def jN (m:aR):Int:=if m.Start= -1 then 0 else match iU m m.Start with
 |none=>2
 |some s=>ki (0<(s.P.length:Int)+(s.R.length:Int)) 5
open Classical in
noncomputable def tw (m:aR) (x:fR):Int:=if 20<(x.ay.length:Int) then 15 else ki (m.Table= -1∨(∃f∈x.ay,¬jt f (cG m))∨4294967295<x.At) 2
noncomputable def wH (m:aR):Int:=oD m.bt.length 20 (oA m.bt (tw m))
open Classical in
noncomputable def tA (m:aR) (x:jJ):Int:=if 4096<(x.Bytes.length:Int) then 15 else
 ki (¬jt x.Mem m.bp.length∨(∃y,m.bp[x.Mem.toNat]?=some y∧¬y.bN∧4294967295<x.At)) 2
noncomputable def wI (m:aR):Int:=oD m.aZ.length 20 (oA m.aZ (tA m))
end Go.Hl
namespace Go.Hl
theorem me {cs:List VP} {S:BS} {w:World} {v:Value} (h:(cr cs).p S w v) {α:Type} {n:Nat} {enc:α→List VP} {xs:List α} (j:Nat) (hj:cs[j]?=some (ai n enc xs)):xs.length≤281474976710656:=by
 obtain ⟨b,off,_,_,hc⟩:=h
 obtain ⟨u,_,hq⟩:=hc j _ hj
 exact bM hq
theorem ir {cs:List VP} {S:BS} {w:World} {v:Value} (h:(aC cs).p S w v) {α:Type} {n:Nat} {enc:α→List VP} {xs:List α} (j:Nat) (hj:cs[j]?=some (ai n enc xs)):xs.length≤281474976710656:=by
 obtain ⟨arr,_,_,hc⟩:=h
 obtain ⟨u,_,hq⟩:=hc j _ hj
 exact bM hq
theorem Q2 {q:VP} {S:BS} {w:World} {v:Value} (h:(cr [q]).p S w v):∃u,q.p S w u:=by
 obtain ⟨b,off,_,_,hc⟩:=h
 obtain ⟨u,_,hq⟩:=hc 0 _ rfl
 exact ⟨u,hq⟩
structure vb (m:aR):Prop where
 sigs:m.bR.length≤281474976710656
 imports:m.aH.length≤281474976710656
 funcs:m.ay.length≤281474976710656
 dR:m.bp.length≤281474976710656
 globals:m.an.length≤281474976710656
 aY:m.bJ.length≤281474976710656
 elems:m.bt.length≤281474976710656
 bU:m.aZ.length≤281474976710656
theorem iM {m:aR} {S:BS} {w:World} {v:Value} (h:(cr (br m)).p S w v):vb m:=
 ⟨me h 0 rfl,me h 1 rfl,me h 2 rfl,me h 4 rfl,me h 5 rfl,me h 6 rfl,me h 8 rfl,me h 9 rfl⟩
theorem mg {m:aR} {S:BS} {w:World} {v:Value} (h:(cr [cr (br m)]).p S w v):vb m:=let ⟨_,h⟩:=Q2 h;iM h
theorem OB {m:aR} {S:BS} {w:World} {v:Value} (h:(aC (br m)).p S w v):vb m:=
 ⟨ir h 0 rfl,ir h 1 rfl,ir h 2 rfl,ir h 4 rfl,ir h 5 rfl,ir h 6 rfl,ir h 8 rfl,ir h 9 rfl⟩
end Go.Hl
namespace Go.Hl
theorem BL {l:List UInt8} {k:Nat} {x:UInt8} (hx:l[k]?=some x) (h:(x.toNat:Int)<33∨126<(x.toNat:Int)):jf l↔False:=by
 constructor
 · intro hn;have:=hn.1 x (List.mem_of_getElem? hx);omega
 · exact False.elim
theorem LA {l:List UInt8} (h:∀x∈l,¬((x.toNat:Int)<33∨126<(x.toNat:Int))):∀b∈l,33≤b.toNat∧b.toNat≤126:=fun b hb=>by have:=h b hb;omega
theorem BM {l:List UInt8} (h:∀x∈l,¬((x.toNat:Int)<33∨126<(x.toNat:Int))):(l≠[]∧(l.length:Int)≤30)↔jf l:=by
 have:=LA h
 unfold jf
 constructor
 · rintro ⟨h1,h2⟩;exact ⟨this,h1,by omega⟩
 · rintro ⟨_,h1,h2⟩;exact ⟨h1,by omega⟩
theorem HJ {l:List UInt8} (h:∀x∈l,¬((x.toNat:Int)<33∨126<(x.toNat:Int))):(0<(l.length:Int)∧(l.length:Int)≤30)↔jf l:=by
 rw [←BM h]
 have:0<(l.length:Int)↔l≠[]:=by
  rw [←List.length_pos_iff];omega
 rw [this]
theorem LB {l:List UInt8} {k:Nat} {x:UInt8} (hx:l[k]?=some x) (h:(x.toNat:Int)≠126∧(x.toNat:Int)≠127):kV l↔False:=by
 constructor
 · intro hn;rcases hn.2 x (List.mem_of_getElem? hx) with e|e<;>subst e<;>simp at h
 · exact False.elim
theorem HK {l:List UInt8} (h:∀x∈l,¬((x.toNat:Int)≠126∧(x.toNat:Int)≠127)):(l.length:Int)≤20↔kV l:=by
 unfold kV
 constructor
 · intro h1
   refine ⟨by omega,fun b hb=> ?_⟩
   have:=h b hb
   by_cases e:(b.toNat:Int)=126
   · exact .inl (UInt8.toNat_inj.1 (by simp;omega))
   · exact .inr (UInt8.toNat_inj.1 (by simp;omega))
 · rintro ⟨h1,_⟩;omega
end Go.Hl
namespace Go.Hl
theorem rX {m:aR} {j:Nat} {x:iK} (hj:j<m.aH.length) (hx:m.aH[j]?=some x):fE m (j:Int)=some x.iA:=by
 unfold fE cG
 rw [if_neg (by omega),if_pos (by omega)]
 simp [hx]
theorem vc {m:aR} {j:Nat} {x:cU} (hx:m.ay[j]?=some x):fE m ((m.aH.length:Int)+(j:Int))=some x.iA:=by
 have:=(List.getElem?_eq_some_iff.1 hx).1
 unfold fE cG
 rw [if_neg (by omega),if_neg (by omega)]
 rw [show ((m.aH.length:Int)+(j:Int)-(m.aH.length:Int)).toNat=j by omega]
 simp [hx]
theorem BN {m:aR} {f:Int} (h:¬(fE m f).isSome∨¬jt ((fE m f).getD 0) m.bR.length):iU m f=none:=by
 unfold iU
 cases hn:fE m f with
 |none=>rfl
 |some n=>
  rw [hn] at h
  simp only [Option.isSome_some,not_true,false_or,Option.getD_some] at h
  unfold jt at h
  simp only
  split
  · rw [List.getElem?_eq_none (by omega)]
  · rfl
theorem BO {m:aR} {f n:Int} {j:Nat} {x:oa} (hn:fE m f=some n) (hj:n=(j:Int)) (hx:m.bR[j]?=some x):iU m f=some x:=by
 unfold iU
 rw [hn];subst hj;simp [hx]
theorem af.ak9 {a b c d:VP} (h1:af a c) (h2:af b d):af (aC [a,b]) (aC [c,d]):=fun S w v ⟨arr,hv,hn,hc⟩=>⟨arr,hv,hn,fun j q hj=>by
 match j,hj with
 |0,hj=>simp at hj;subst hj;obtain ⟨u,hu,hq⟩:=hc 0 a rfl;exact ⟨u,hu,h1 _ _ _ hq⟩
 |1,hj=>simp at hj;subst hj;obtain ⟨u,hu,hq⟩:=hc 1 b rfl;exact ⟨u,hu,h2 _ _ _ hq⟩⟩
theorem ES {m:aR} (h0:¬m.Start= -1) (h:¬(iU m m.Start).isSome):jN m=2:=by
 unfold jN
 rw [if_neg h0]
 cases hs:iU m m.Start with
 |none=>rfl
 |some s=>rw [hs] at h;simp at h
theorem ET {m:aR} (h0:¬m.Start= -1) (h:¬¬(iU m m.Start).isSome):jN m=ki (0<((((iU m m.Start).getD ⟨[],[]⟩).P.length:Int)+(((iU m m.Start).getD ⟨[],[]⟩).R.length:Int))) 5:=by
 unfold jN
 rw [if_neg h0]
 cases hs:iU m m.Start with
 |none=>rw [hs] at h;simp at h
 |some s=>rfl
end Go.Hl
namespace Go.Hl
theorem TX (m:aR) (j:Nat) (hj:j<4):[ag .i64 (cnt m 0),ag .i64 (cnt m 1),ag .i64 (cnt m 2),ag .i64 (cnt m 3)][j]?=some (ag .i64 (cnt m j)):=by
 match j,hj with
 |0,_=>rfl
 |1,_=>rfl
 |2,_=>rfl
 |3,_=>rfl
theorem CR {m:aR} {i:Nat} {x:dW} (hx:m.bJ[i]?=some x) (h:¬jf x.Name∨∃y∈m.bJ.take i,y.Name=x.Name):jU m i=16:=by
 unfold jU;rw [hx];simp only;rw [if_pos h]
theorem ve {m:aR} {i:Nat} {x:dW} (hx:m.bJ[i]?=some x) (h:¬(¬jf x.Name∨∃y∈m.bJ.take i,y.Name=x.Name)):jU m i=ki (¬jt x.Kind 4∨¬jt x.Index (cnt m (nH x.Kind))) 2:=by
 unfold jU;rw [hx];simp only;rw [if_neg h]
 congr 1;unfold Ka;exact propext (by rw [Classical.not_and_iff_not_or_not])
theorem HL {m:aR} {x:fR} (h:¬20<(x.ay.length:Int)):tw m x=ki ((m.Table= -1∨∃f∈x.ay,¬jt f (cG m))∨4294967295<x.At) 2:=by
 unfold tw;rw [if_neg h];congr 1;exact propext (by rw [or_assoc])
theorem Q3 {x:jJ} {n:Nat} (h:jt x.Mem n):max (min x.Mem ((n:Int)-1)) 0=(x.Mem.toNat:Int):=by
 obtain ⟨h1,h2⟩:=h;omega
end Go.Hl
namespace Go.Hl
def OC (m:aR) (k:Nat):eo:=(m.bp[k]?).getD ⟨0,0,False⟩
theorem EU {m:aR} {x:jJ} (h:jt x.Mem m.bp.length):m.bp[x.Mem.toNat]?=some (OC m x.Mem.toNat):=by
 obtain ⟨h1,h2⟩:=h
 obtain ⟨y,hy⟩:=ah (xs:=m.bp) (k:=x.Mem.toNat) (by omega)
 unfold OC;rw [hy];rfl
theorem HM {m:aR} {x:jJ} (h:¬4096<(x.Bytes.length:Int)):tA m x=ki (¬jt x.Mem m.bp.length∨¬(OC m x.Mem.toNat).bN∧4294967295<x.At) 2:=by
 unfold tA;rw [if_neg h];congr 1;apply propext
 by_cases hi:jt x.Mem m.bp.length
 · have:=EU hi
   simp only [hi,not_true,false_or,this,Option.some.injEq,exists_eq_left']
 · simp only [hi,not_false_iff,true_or]
end Go.Hl
namespace Go.Hl
def Q4 {α:Type} (a b:List α) (k:Nat):Prop:=∀i,i<k→a[i]?=b[i]?
theorem Q4.zero {α:Type} (a b:List α):Q4 a b 0:=fun i h=>by omega
theorem Q4.succ {α:Type} {a b:List α} {k:Nat} {x y:α} (h:Q4 a b k) (hx:a[k]?=some x) (hy:b[k]?=some y) (e:x=y):Q4 a b (k+1):=fun i hi=>by
 by_cases e1:i=k
 · subst e1;rw [hx,hy,e]
 · exact h i (by omega)
theorem Q4.all {α:Type} {a b:List α} {k:Nat} (h:Q4 a b k) (hl:a.length=b.length) (hk:a.length≤k):a=b:=by
 apply List.ext_getElem?
 intro i
 by_cases hi:i<a.length
 · exact h i (by omega)
 · rw [List.getElem?_eq_none (by omega),List.getElem?_eq_none (by omega)]
theorem Wz {α:Type} {a b:List α} {k:Nat} {x y:α} (hx:a[k]?=some x) (hy:b[k]?=some y) (e:x≠y):a=b↔False:=by
 constructor
 · intro h;subst h;rw [hx] at hy;exact e (Option.some.inj hy)
 · exact False.elim
theorem TY {α:Type} {a b:List α} (h:(a.length:Int)≠(b.length:Int)):a=b↔False:=by
 constructor
 · intro e;subst e;exact h rfl
 · exact False.elim
theorem BQ {x y:UInt8}:((x.toNat:Int)=(y.toNat:Int))↔x=y:=by
 constructor
 · intro h;exact UInt8.toNat_inj.1 (by omega)
 · intro h;rw [h]
end Go.Hl
end
section
namespace Go.Hl
variable {S:BS} {w:World} {v:Value}
theorem qy {cs:List VP} (h:(aC cs).p S w v) (j:Nat) {q:VP} (hj:cs[j]?=some q):∃u,q.p S w u:=by
 obtain ⟨arr,_,_,hc⟩:=h
 obtain ⟨u,_,hq⟩:=hc j _ hj
 exact ⟨u,hq⟩
variable {α:Type} {xs:List α}
theorem fu {n:Nat} {enc:α→List VP} (h:(ai n enc xs).p S w v) {x:α} (hx:x∈xs) (j:Nat) {q:VP} (hj:(enc x)[j]?=some q):∃u,q.p S w u:=by
 obtain ⟨a,cap,_,hc,_,he⟩:=h
 obtain ⟨i,hi⟩:=List.mem_iff_getElem?.1 hx
 have oQ:i<xs.length:=(List.getElem?_eq_some_iff.1 hi).1
 cases a with
 |none=>have:cap=0:=he;omega
 |some ad=>
  obtain ⟨_,_,hel⟩:=he (by omega)
  obtain ⟨u,_,hq⟩:=hel i x hi j q hj
  exact ⟨u,hq⟩
structure rY (b:kr):Prop where
 locals:b.aV.length≤281474976710656
 l:b.L.length≤281474976710656
 all:∀(i:Nat) x,b.L[i]?=some x→x.L.length≤281474976710656
variable {b:kr}
theorem OD (h:(aC (iL b)).p S w v):rY b:=
 ⟨ir h 0 rfl,ir h 1 rfl,fun i x hx=>by
  obtain ⟨u,hu⟩:=qy h 1 rfl
  obtain ⟨u',JP⟩:=fu hu (List.mem_of_getElem? hx) 4 rfl
  exact bM JP⟩
structure HN (b:kr):Prop where
 locals:b.aV.length≤60
 l:b.L.length≤150
 all:∀x∈b.L,x.L.length≤110
structure SX (m:aR):Prop where
 sigs:∀(i:Nat) x,m.bR[i]?=some x→x.P.length≤281474976710656∧x.R.length≤281474976710656
 imports:∀(i:Nat) x,m.aH[i]?=some x→x.Module.length≤281474976710656∧x.Name.length≤281474976710656
 aY:∀(i:Nat) x,m.bJ[i]?=some x→x.Name.length≤281474976710656
 elems:∀(i:Nat) x,m.bt[i]?=some x→x.ay.length≤281474976710656
 bU:∀(i:Nat) x,m.aZ[i]?=some x→x.Bytes.length≤281474976710656
variable {m:aR}
theorem WA (h:(aC (br m)).p S w v):SX m where
 sigs i x hx:=by
  obtain ⟨u,hu⟩:=qy h 0 rfl
  obtain ⟨_,h1⟩:=fu hu (List.mem_of_getElem? hx) 0 rfl
  obtain ⟨_,h2⟩:=fu hu (List.mem_of_getElem? hx) 1 rfl
  exact ⟨bM h1,bM h2⟩
 imports i x hx:=by
  obtain ⟨u,hu⟩:=qy h 1 rfl
  obtain ⟨_,h1⟩:=fu hu (List.mem_of_getElem? hx) 0 rfl
  obtain ⟨_,h2⟩:=fu hu (List.mem_of_getElem? hx) 1 rfl
  exact ⟨ig h1,ig h2⟩
 aY i x hx:=by
  obtain ⟨u,hu⟩:=qy h 6 rfl
  obtain ⟨_,h1⟩:=fu hu (List.mem_of_getElem? hx) 0 rfl
  exact ig h1
 elems i x hx:=by
  obtain ⟨u,hu⟩:=qy h 8 rfl
  obtain ⟨_,h1⟩:=fu hu (List.mem_of_getElem? hx) 1 rfl
  exact bM h1
 bU i x hx:=by
  obtain ⟨u,hu⟩:=qy h 9 rfl
  obtain ⟨_,h1⟩:=fu hu (List.mem_of_getElem? hx) 2 rfl
  exact bM h1
structure wJ (m:aR):Prop where
 sigs:m.bR.length≤60
 imports:m.aH.length≤25
 funcs:m.ay.length≤110
 dR:m.bp.length≤8
 globals:m.an.length≤60
 aY:m.bJ.length≤60
 elems:m.bt.length≤25
 bU:m.aZ.length≤25
 sig:∀x∈m.bR,x.P.length+x.R.length≤60
 imp:∀x∈m.aH,x.Module.length+x.Name.length≤100
 fn:∀x∈m.ay,HN x.Body
 exp:∀x∈m.bJ,x.Name.length≤60
 elem:∀x∈m.bt,x.ay.length≤30
 data:∀x∈m.aZ,x.Bytes.length≤4100
def Kb (x:aR) (a f:VP):List VP:=[a,ai 3 kq x.aH,f,ag .i64 x.Table,ai 3 eY x.bp,ai 3 eG x.an,ai 3 dZ x.bJ,ag .i64 x.Start,ai 2 fS x.bt,ai 3 gV x.aZ]
structure dK (x:aR):Prop where
 sigs:BJ x=0
 imports:pN x=0
 funcs:kW x=0
 table:nG x=0
 dR:BK x=0
 globals:pO x=0
 aY:nI x=0
 start:jN x=0
 elems:wH x=0
 bU:wI x=0
variable {k:Nat}
theorem sS {most:Int} {f:α→Int} (h:(xs.length:Int)≤most) (hn:cN (fun z=>f z≠0) xs k) (hk:xs.length≤k):oD xs.length most (oA xs f)=0:=
 bI.2 ⟨h,eX.2 fun z hz=>Classical.not_not.1 (hn.all hk z hz)⟩
theorem OE {f:α→Int} (hn:cN (fun z=>f z≠0) xs k) (hk:xs.length≤k):gR (oA xs f) xs.length=0:=eX.2 fun z hz=>Classical.not_not.1 (hn.all hk z hz)
variable {s:oa}
theorem Q5 (h:kV s.P∧kV s.R):Ly s=0:=(cF (by decide)).2 (not_not_intro h)
theorem HO {x:iK} (h1:jf x.Module∧jf x.Name) (h2:jt x.iA m.bR.length):gj m x=0:=by
 unfold gj;rw [if_neg (by simp [h1])];exact (cF (by decide)).2 (not_not_intro h2)
theorem OF {x:cU} (h2:jt x.iA m.bR.length):rW m x=0:=(cF (by decide)).2 (not_not_intro h2)
theorem OG (h:(m.aH.length:Int)+(m.ay.length:Int)≤100) (hn:cN (fun z=>rW m z≠0) m.ay k) (hk:m.ay.length≤k):kW m=0:=by
 unfold kW cG;rw [if_neg (by omega)];exact OE hn hk
theorem LC (h: -1≤m.Table) (h2:m.Table≤1000):nG m=0:=by
 unfold nG;rw [if_neg (by omega)];exact (cF (by decide)).2 (by omega)
theorem Q6 {x:eo} (h:0≤x.Min∧x.Min≤65536∧(x.Max<0∨x.Min≤x.Max∧x.Max≤65536)):OA x=0:=(cF (by decide)).2 (not_not_intro h)
theorem HQ {x:jF} (h:(x.Ty.toNat:Int)=126∨(x.Ty.toNat:Int)=127∧x.Value≤4294967295):sR x=0:=by
 refine (cF (by decide)).2 fun h'=> ?_
 rcases h' with h'|h'
 · rw [qx] at h'
   apply h'
   rcases h with h|h
   · exact .inl (UInt8.toNat_inj.1 (by simpa using (by omega:x.Ty.toNat=126)))
   · exact .inr (UInt8.toNat_inj.1 (by simpa using (by omega:x.Ty.toNat=127)))
 · omega
theorem HR {i:Nat} {x:dW} (hx:m.bJ[i]?=some x) (h1:jf x.Name) (h2:cN (fun z:dW=>z.Name=x.Name) m.bJ i) (ht: -1≤m.Table) (ht2:m.Table≤1000)
    (h3:x.Kind=0∧jt x.Index (cG m)∨(x.Kind=1∧0≤m.Table)∧x.Index=0∨x.Kind=2∧jt x.Index m.bp.length∨x.Kind=3∧jt x.Index m.an.length):jU m i=0:=by
  rw [ve hx]
  · refine (cF (by decide)).2 fun h=> ?_
    have k0:nH 0=0:=by decide
    have k1:nH 1=1:=by decide
    have k2:nH 2=2:=by decide
    have k3:nH 3=3:=by decide
    unfold jt at h h3
    rcases h3 with ⟨h4,h5⟩|⟨⟨h4,h5⟩,h6⟩|⟨h4,h5⟩|⟨h4,h5⟩
    · rw [h4,k0] at h;simp only [cnt] at h;omega
    · rw [h4,k1] at h
      have hw:IntKind.i64.wrap (m.Table+1)=m.Table+1:=by unfold IntKind.wrap;simp [IntKind.signed,IntKind.bits];omega
      simp only [cnt,hw] at h;omega
    · rw [h4,k2] at h;simp only [cnt] at h;omega
    · rw [h4,k3] at h;simp only [cnt] at h;omega
  · rintro (h|⟨y,hy,he⟩)
    · exact h h1
    · obtain ⟨j,hj⟩:=List.mem_iff_getElem?.1 hy
      rw [List.getElem?_take] at hj
      split at hj
      · rename_i hlt;exact h2 j y hlt hj he
      · cases hj
theorem HS (h:(m.bJ.length:Int)≤50) (hn:∀j,j<k→jU m j=0) (hk:m.bJ.length≤k):nI m=0:=bI.2 ⟨h,l9.2 fun i hi=>hn i (by omega)⟩
theorem jt.at {n:Int} {k:Nat} (h:jt n k):n.toNat<k∧n=(n.toNat:Int):=by unfold jt at h;omega
variable {f:Int}
theorem wK (hf:jt f (cG m)) (h1:∀z∈m.aH,gj m z=0) (h2:∀z∈m.ay,rW m z=0):∃s,iU m f=some s:=by
 have hf':=hf
 unfold jt cG at hf'
 unfold iU fE
 rw [if_neg (by unfold cG;omega)]
 have key:∀n:Int,jt n m.bR.length→∃s,(match some n with|none=>none|some n=>if 0≤n then m.bR[n.toNat]? else none)=some s:=fun n hn=>by
  obtain ⟨h3,h4⟩:=hn.at
  simp only
  rw [if_pos (by omega)]
  exact ⟨_,List.getElem?_eq_getElem h3⟩
 by_cases hlt:f<(m.aH.length:Int)
 · rw [if_pos hlt]
   have hl:f.toNat<m.aH.length:=by omega
   rw [List.getElem?_eq_getElem hl]
   refine key _ ?_
   have:=h1 _ (List.getElem_mem hl)
   unfold gj at this
   split at this
   · cases this
   · exact Classical.not_not.1 ((cF (by decide)).1 this)
 · rw [if_neg hlt]
   have hl:(f-(m.aH.length:Int)).toNat<m.ay.length:=by omega
   rw [List.getElem?_eq_getElem hl]
   refine key _ ?_
   have:=h2 _ (List.getElem_mem hl)
   exact Classical.not_not.1 ((cF (by decide)).1 this)
theorem zJ (h:iU m f=some s) (hf:f<(m.aH.length:Int)):∃x:iK,m.aH[f.toNat]?=some x∧m.bR[x.iA.toNat]?=some s∧f=(f.toNat:Int)∧x.iA=(x.iA.toNat:Int):=by
 unfold iU fE at h
 split at h
 · cases h
 · rename_i n hn
   split at hn
   · cases hn
   · rename_i hc
     cases hx:m.aH[f.toNat]? with
     |none=>rw [hx] at hn;cases hn
     |some x=>
      rw [hx] at hn;cases hn
      split at h
      · rename_i h0;exact ⟨x,rfl,h,by omega,by have h1:0≤x.iA:=h0;omega⟩
      · cases h
theorem EV (h:iU m f=some s) (hf:¬f<(m.aH.length:Int)):∃x:cU,m.ay[(f-(m.aH.length:Int)).toNat]?=some x∧m.bR[x.iA.toNat]?=some s∧f-(m.aH.length:Int)=((f-(m.aH.length:Int)).toNat:Int)∧x.iA=(x.iA.toNat:Int)∧f<cG m:=by
 unfold iU fE at h
 split at h
 · cases h
 · rename_i n hn
   split at hn
   · cases hn
   · rename_i hc
     cases hx:m.ay[(f-(m.aH.length:Int)).toNat]? with
     |none=>rw [hx] at hn;cases hn
     |some x=>
      rw [hx] at hn;cases hn
      split at h
      · rename_i h0;exact ⟨x,rfl,h,by omega,by have h1:0≤x.iA:=h0;omega,by omega⟩
      · cases h
theorem LD (h:m.Start= -1):jN m=0:=by unfold jN;rw [if_pos h]
theorem LF (h:iU m m.Start=some s) (h2:¬0<(s.P.length:Int)+(s.R.length:Int)):jN m=0:=by
 unfold jN;split
 · rfl
 · rw [h];exact (cF (by decide)).2 h2
theorem OH {x:fR} (h:(x.ay.length:Int)≤20) (h1:0≤m.Table) (h2:x.At≤4294967295) (h3:cN (fun z:Int=>¬jt z (cG m)) x.ay k) (hk:x.ay.length≤k):tw m x=0:=by
 unfold tw;rw [if_neg (by omega)]
 refine (cF (by decide)).2 ?_
 rintro (h4|⟨f,hf,h5⟩|h6)
 · omega
 · exact h3.all hk f hf h5
 · omega
theorem OI {x:jJ} {y:eo} (h:(x.Bytes.length:Int)≤4096) (h1:jt x.Mem m.bp.length) (hy:m.bp[x.Mem.toNat]?=some y) (h2:¬(¬y.bN∧4294967295<x.At)):tA m x=0:=by
 unfold tA;rw [if_neg (by omega)]
 refine (cF (by decide)).2 ?_
 rintro (h4|⟨z,hz,h5⟩)
 · exact h4 h1
 · rw [hy] at hz;cases hz;exact h2 h5
theorem cN.Kc {f:α→Int} (hn:cN (fun z=>f z≠0) xs k) (hk:xs.length≤k):∀z∈xs,f z=0:=fun z hz=>Classical.not_not.1 (hn.all hk z hz)
theorem or4 {a b c d:Prop} (h:((a∨b)∨c)∨d):a∨b∨c∨d:=by simpa [or_assoc] using h
theorem CS (h:iU m f=some s):s∈m.bR:=by
 unfold iU at h
 split at h
 · cases h
 · split at h
   · exact List.mem_of_getElem? h
   · cases h
theorem qz (h:kW m=0):∀z∈m.ay,rW m z=0:=by
 unfold kW at h
 split at h
 · cases h
 · exact eX.1 h
theorem Kd (h1:∀z∈m.aH,gj m z=0) (h2:∀z∈m.ay,rW m z=0):(iU m f).isSome=true↔jt f (cG m):=by
 constructor
 · intro h
   obtain ⟨s,hs⟩:=Option.isSome_iff_exists.1 h
   unfold iU fE at hs
   unfold jt
   by_cases hc:f<0∨cG m≤f
   · rw [if_pos hc] at hs;cases hs
   · omega
 · intro h
   obtain ⟨s,hs⟩:=wK h h1 h2
   rw [hs];rfl
def kJ (f:Nat→Int):Nat→Int
 |0=>0
 |n+1=>kJ f n+f n
theorem CT {f:Nat→Int} {C:Int} (h:∀i,0≤f i∧f i≤C):∀n:Nat,0≤kJ f n∧kJ f n≤n*C
 |0=>by simp [kJ]
 |n+1=>by
  have h1:=CT h n
  have h2:=h n
  simp only [kJ]
  refine ⟨by omega, ?_⟩
  have:((n+1:Nat):Int)*C=n*C+C:=by rw [Int.natCast_add,Int.add_mul];simp
  omega
theorem BR {f:Nat→Int} (h:∀i,0≤f i):∀{n:Nat},kJ f n≤0→∀i,i<n→f i≤0
 |0,_,i,hi=>by omega
 | n+1,hs,i,hi=>by
  have h0:∀k:Nat,0≤kJ f k:=fun k=>by
   induction k with
   |zero=>simp [kJ]
   |succ k ih=>have:=h k;simp only [kJ];omega
  have h1:=h0 n
  have h2:=h n
  simp only [kJ] at hs
  by_cases e:i=n
  · subst e;omega
  · exact BR (n:=n) h (by omega) i (by omega)
variable {g:α→Int}
theorem OJ {C:Int} (hC:0≤C) (h:∀(i:Nat) x,xs[i]?=some x→0≤g x∧g x≤C) (i:Nat):0≤oA xs g i∧oA xs g i≤C:=by
 unfold oA
 split
 · rename_i x hx;exact h i x hx
 · exact ⟨by omega,hC⟩
def rZ (xs:List α) (g:α→Int) (cap:Nat):Int:=kJ (oA xs g) (min xs.length cap)
theorem iN {cap:Nat} (C:Int) (hC:0≤C) (h:∀(i:Nat) x,xs[i]?=some x→0≤g x∧g x≤C):0≤rZ xs g cap∧rZ xs g cap≤cap*C:=by
 have h1:=CT (OJ hC h) (min xs.length cap)
 refine ⟨h1.1,Int.le_trans h1.2 (Int.mul_le_mul_of_nonneg_right (by omega) hC)⟩
theorem lM {cap:Nat} (h:∀(i:Nat) x,xs[i]?=some x→0≤g x) (h0:rZ xs g cap≤0) (hl:xs.length≤cap):∀x∈xs,g x≤0:=fun x hx=>by
 obtain ⟨i,hi⟩:=List.mem_iff_getElem?.1 hx
 have:=BR (f:=oA xs g) (fun j=>by unfold oA;split;exact h j _ (by assumption);omega) h0 i (by have:=(List.getElem?_eq_some_iff.1 hi).1;omega)
 rwa [kS hi] at this
theorem lN {C:Int} (hC:0≤C) (h:∀(i:Nat) x,xs[i]?=some x→0≤g x∧g x≤C) (k:Nat):0≤kJ (oA xs g) k∧kJ (oA xs g) k≤k*C:=CT (OJ hC h) k
theorem qA {x:α} (hx:xs[k]?=some x):kJ (oA xs g) (k+1)=kJ (oA xs g) k+g x:=by simp only [kJ];rw [kS hx]
def qB (x:aA):Int:=max ((x.L.length:Int)-110) 0
def r7 (b:kr):Int:=max ((b.aV.length:Int)-60) 0+max ((b.L.length:Int)-150) 0+rZ b.L qB 150
theorem wL (h:rY b):∀(i:Nat) x,b.L[i]?=some x→0≤qB x∧qB x≤281474976710656:=fun i x hx=>by have:=h.all i x hx;unfold qB;omega
theorem LG (h:rY b):0≤r7 b∧r7 b≤152*281474976710656:=by
 have h1:=iN (cap:=150) 281474976710656 (by omega) (wL h)
 have h2:=h.locals
 have h3:=h.l
 unfold r7;omega
theorem CU (h:rY b) (h0:r7 b≤0):HN b:=by
 have h1:=iN (cap:=150) 281474976710656 (by omega) (wL h)
 unfold r7 at h0
 have h2:=lM (xs:=b.L) (g:=qB) (cap:=150) (fun i x _=>by unfold qB;omega) (by omega) (by omega)
 exact ⟨by omega,by omega,fun x hx=>by have:=h2 x hx;unfold qB at this;omega⟩
def HT (y:oa):Int:=max ((y.P.length:Int)+(y.R.length:Int)-60) 0
def HU (y:iK):Int:=max ((y.Module.length:Int)+(y.Name.length:Int)-100) 0
def Vk (y:cU):Int:=r7 y.Body
def HV (y:dW):Int:=max ((y.Name.length:Int)-60) 0
def zK (y:fR):Int:=max ((y.ay.length:Int)-30) 0
def xK (y:jJ):Int:=max ((y.Bytes.length:Int)-4100) 0
def oV (x:aR):Int:=max ((x.bR.length:Int)-60) 0+max ((x.aH.length:Int)-25) 0+max ((x.ay.length:Int)-110) 0+max ((x.bp.length:Int)-8) 0+max ((x.an.length:Int)-60) 0+max ((x.bJ.length:Int)-60) 0+max ((x.bt.length:Int)-25) 0+max ((x.aZ.length:Int)-25) 0
def tU (x:aR):Int:=oV x+rZ x.bR HT 60
def tV (x:aR):Int:=tU x+rZ x.aH HU 25
def tW (x:aR):Int:=tV x+rZ x.ay Vk 110
def tX (x:aR):Int:=tW x+rZ x.bJ HV 60
def tY (x:aR):Int:=tX x+rZ x.bt zK 25
def qC (x:aR):Int:=tY x+rZ x.aZ xK 25
structure vf (x:aR):Prop where
 top:vb x
 mid:SX x
 fns:∀(i:Nat) y,x.ay[i]?=some y→rY y.Body
theorem pP (h:(aC (br m)).p S w v):vf m:=
 ⟨OB h,WA h,fun i x hx=>by
  obtain ⟨u,hu⟩:=qy h 2 rfl
  obtain ⟨_,h1⟩:=fu hu (List.mem_of_getElem? hx) 1 rfl
  obtain ⟨_,h2⟩:=fu hu (List.mem_of_getElem? hx) 2 rfl
  exact ⟨bM h1,bM h2,fun j y hy=>by
   obtain ⟨_,h3⟩:=fu h2 (List.mem_of_getElem? hy) 4 rfl
   exact bM h3⟩⟩
structure HW (x:aR):Prop where
 n0:0≤oV x∧oV x≤8*281474976710656
 sig:∀(i:Nat) y,x.bR[i]?=some y→0≤HT y∧HT y≤2*281474976710656
 imp:∀(i:Nat) y,x.aH[i]?=some y→0≤HU y∧HU y≤2*281474976710656
 fn:∀(i:Nat) y,x.ay[i]?=some y→0≤Vk y∧Vk y≤152*281474976710656
 exp:∀(i:Nat) y,x.bJ[i]?=some y→0≤HV y∧HV y≤281474976710656
 elem:∀(i:Nat) y,x.bt[i]?=some y→0≤zK y∧zK y≤281474976710656
 data:∀(i:Nat) y,x.aZ[i]?=some y→0≤xK y∧xK y≤281474976710656
variable {x:aR}
theorem LH (h:vb x):0≤oV x∧oV x≤8*281474976710656:=by
 obtain ⟨h1,h2,h3,h4,h5,h6,h7,h8⟩:=h
 have mx:∀(n:Nat) (c:Int),0≤c→n≤281474976710656→0≤max ((n:Int)-c) 0∧max ((n:Int)-c) 0≤281474976710656:=fun n c _ _=>by omega
 have a1:=mx _ 60 (by omega) h1
 have a2:=mx _ 25 (by omega) h2
 have a3:=mx _ 110 (by omega) h3
 have a4:=mx _ 8 (by omega) h4
 have a5:=mx _ 60 (by omega) h5
 have a6:=mx _ 60 (by omega) h6
 have a7:=mx _ 25 (by omega) h7
 have a8:=mx _ 25 (by omega) h8
 unfold oV
 generalize max ((x.bR.length:Int)-60) 0=b1 at*
 generalize max ((x.aH.length:Int)-25) 0=b2 at*
 generalize max ((x.ay.length:Int)-110) 0=b3 at*
 generalize max ((x.bp.length:Int)-8) 0=b4 at*
 generalize max ((x.an.length:Int)-60) 0=b5 at*
 generalize max ((x.bJ.length:Int)-60) 0=b6 at*
 generalize max ((x.bt.length:Int)-25) 0=b7 at*
 generalize max ((x.aZ.length:Int)-25) 0=b8 at*
 omega
theorem ni (h:vf x):HW x:=
 ⟨LH h.top,fun i y hy=>by have:=h.mid.sigs i y hy;unfold HT;omega,fun i y hy=>by have:=h.mid.imports i y hy;unfold HU;omega,fun i y hy=>LG (h.fns i y hy),
  fun i y hy=>by have:=h.mid.aY i y hy;unfold HV;omega,fun i y hy=>by have:=h.mid.elems i y hy;unfold zK;omega,fun i y hy=>by have:=h.mid.bU i y hy;unfold xK;omega⟩
theorem CV (h:vf x) (h0:qC x≤0):wJ x:=by
 have hb:=ni h
 have n0:=hb.n0.1
 have n1:=(iN (cap:=60) _ (by omega) hb.sig).1
 have n2:=(iN (cap:=25) _ (by omega) hb.imp).1
 have n3:=(iN (cap:=110) _ (by omega) hb.fn).1
 have n4:=(iN (cap:=60) _ (by omega) hb.exp).1
 have n5:=(iN (cap:=25) _ (by omega) hb.elem).1
 have n6:=(iN (cap:=25) _ (by omega) hb.data).1
 unfold qC tY tX tW tV tU at h0
 have z0:oV x≤0:=by omega
 unfold oV at z0
 have g1:x.bR.length≤60:=by omega
 have g2:x.aH.length≤25:=by omega
 have g3:x.ay.length≤110:=by omega
 have g6:x.bJ.length≤60:=by omega
 have g7:x.bt.length≤25:=by omega
 have g8:x.aZ.length≤25:=by omega
 exact ⟨g1,g2,g3,by omega,by omega,g6,g7,g8,
  fun y hy=>by have:=lM (fun i y hy=>(hb.sig i y hy).1) (by omega) g1 y hy;unfold HT at this;omega,
  fun y hy=>by have:=lM (fun i y hy=>(hb.imp i y hy).1) (by omega) g2 y hy;unfold HU at this;omega,
  fun y hy=>by
   have h9:=lM (fun i y hy=>(hb.fn i y hy).1) (by omega) g3 y hy
   obtain ⟨i,hi⟩:=List.mem_iff_getElem?.1 hy
   exact CU (h.fns i y hi) h9,
  fun y hy=>by have:=lM (fun i y hy=>(hb.exp i y hy).1) (by omega) g6 y hy;unfold HV at this;omega,
  fun y hy=>by have:=lM (fun i y hy=>(hb.elem i y hy).1) (by omega) g7 y hy;unfold zK at this;omega,
  fun y hy=>by have:=lM (fun i y hy=>(hb.data i y hy).1) (by omega) g8 y hy;unfold xK at this;omega⟩
theorem zL (hb:HW x):(0≤tU x∧tU x≤128*281474976710656)∧(0≤tV x∧tV x≤178*281474976710656)∧(0≤tW x∧tW x≤16898*281474976710656)∧(0≤tX x∧tX x≤16958*281474976710656)∧(0≤tY x∧tY x≤16983*281474976710656):=by
 have n0:=hb.n0
 have n1:=iN (cap:=60) _ (by omega) hb.sig
 have n2:=iN (cap:=25) _ (by omega) hb.imp
 have n3:=iN (cap:=110) _ (by omega) hb.fn
 have n4:=iN (cap:=60) _ (by omega) hb.exp
 have n5:=iN (cap:=25) _ (by omega) hb.elem
 unfold tY tX tW tV tU
 omega
end Go.Hl
end
section
namespace Go.Hl
open Go.RowKit
section
variable {P:Program} {hs:List HP} {env:Env} {q:VP} {dst:Option Tmp} {ty T T' E:TypeId} {pos:String} {after:Array Edge} {gd:Option (Nat×Bool)} {x y z:Operand}
theorem CW {f:FuncId} {v:Value} (hx:bu env x (aa v)):bl P hs env ⟨dst, .makeFunc (.func f) #[x] #[],ty,pos,after,gd⟩ (aa (.func (.func f) #[v] #[])):=by
 intro a w S F _ _ _ _ he K Q hk
 unfold Oper.wp
 have hv:=hx S w a he;simp only [aa] at hv
 exact hk _ w S (Grow.refl _ _) (by simp [aa,hv])
theorem EW {f:FuncId} {v:Value} {ats:Array TypeId} {hs0 rest:List HP} {γ:Type} {φ:γ→Prop} {hs':γ→List HP} {q:γ→VP} (hf:cw P f [aa v] hs0 φ hs' q) (hb:mR P f=true) (hx:bu env x (aa (.func (.func f) #[v] #[]))) (hp:hs.Perm (hs0++rest)):
    fV P hs env ⟨dst, .call ⟨.value x, #[],ats⟩,ty,pos,after,gd⟩ φ (fun g=>hs' g++rest) q:=by
  intro c a w S F aF hown he K Q hk
  have h0:=cz (xs:=[.const v]) (ats:=ats) (dst:=dst) (ty:=ty) (pos:=pos) (after:=after) (gd:=gd) hf hb (.cons (.c _) .nil) hp c a w S F aF hown he K Q hk
  have hv:=hx S w a he;simp only [aa] at hv
  unfold Oper.wp at h0 ⊢
  rw [uI hb] at h0
  have e:(execOp a.eval ⟨dst, .call ⟨.value x, #[],ats⟩,ty,pos,after,gd⟩).run P w= .ok (.enter f #[v]) w:=by
    have h:=jw hb #[v] w
    simp [execOp,resolve,hv,Deferred.ofValue,invoke] at h ⊢;exact h
  rw [e]
  exact h0
end
abbrev WB (f sb:Nat):VP:=aa (.func (.func f) #[.pointer (some ⟨sb,0,none⟩)] #[])
variable {k:Nat} {v:Nat}
theorem Q7 {l:List UInt8} {at_ w:Nat} (hl:at_+w≤l.length) (hk:k<w):(l.take at_++yg v k++l.drop (at_+k)).set (at_+k) (QN v k)=l.take at_++yg v (k+1)++l.drop (at_+(k+1)):=by
 have h1:(l.take at_++yg v k).length=at_+k:=by rw [List.length_append,mW,List.length_take];omega
 have h2:l.drop (at_+k)=l[at_+k]'(by omega)::l.drop (at_+k+1):=List.drop_eq_getElem_cons (by omega)
 rw [List.set_append_right _ _ (by omega),h1,Nat.sub_self,h2,List.set_cons_zero]
 have h3:yg v (k+1)=yg v k++[QN v k]:=by unfold yg;rw [List.range_succ,List.map_append];rfl
 rw [h3]
 simp only [List.append_assoc,List.singleton_append]
 rfl
theorem OK (v k:Nat):IntKind.u8.wrap ((v/2^(8*k):Nat):Int)=((QN v k).toNat:Int):=by
 have e:∀n:Int,IntKind.u8.wrap n=n%256:=fun _=>rfl
 rw [e]
 unfold QN
 rw [UInt8.toNat_ofNat']
 omega
theorem TZ {l:List UInt8} {at_:Nat} {c:UInt8} (hc:l[at_+k]?=some c) (hk:k<8):((rq ((l.drop at_).take k))|||(c.toNat*2^(8*k)%18446744073709551616))=rq ((l.drop at_).take (k+1))∧rq ((l.drop at_).take k)<18446744073709551616:=by
 have hd:(l.drop at_)[k]?=some c:=by rw [List.getElem?_drop];exact hc
 have hlen:((l.drop at_).take k).length=k:=by
  have:=(List.getElem?_eq_some_iff.1 hd).1
  rw [List.length_take];omega
 have h1:=CB ((l.drop at_).take k)
 rw [hlen] at h1
 have h2:2^(8*k)≤2^56:=Nat.pow_le_pow_right (by decide) (by omega)
 have h3:=c.toNat_lt
 have h4:c.toNat*2^(8*k)≤255*2^56:=Nat.mul_le_mul (by omega) h2
 refine ⟨?_,by omega⟩
 rw [Nat.mod_eq_of_lt (by omega)]
 have h5:=TQ ((l.drop at_).take k) c
 rw [hlen] at h5
 rw [h5,←bn hd]
variable {a:dX} {X:oT}
theorem HX (h:dm X a) {x:Nat} {w:Nat} (hx:x+w≤X.size):dm X (a.put x (yg v w)):=h.put (by rw [mW];exact hx)
abbrev wM (X:oT) (a:dX):HP:=az X.ab [jM X.db 0 X.size,ag .i64 (a.height:Int),ag .i64 (a.live:Int),aa (.map (some X.tm)),aa (.map (some X.gm))]
def ru (X:oT) (a:dX):List HP:=[wM X a,iG X.db a.bytes]
abbrev yh:=List (Int×SB×List Int)
def oW (G:yh):List HP:=G.map fun e=>au e.2.1 1 dJ e.2.2
abbrev EX (G:yh):List (Int×Value):=G.map fun e=>(e.1,bq e.2.1 e.2.2.length)
def HY (gm:Nat) (G:yh):HP:=jL gm (Value.int .i64) aa (EX G)
def tB (G:yh) (n:Nat):Prop:=∀e∈G,e.2.2.length≤n
def Q8 (gm n:Nat):HP:=Vb fun G:yh=>j4 (l6 (tB G n)::HY gm G::oW G)
def tZ (X:oT) (a:dX) (n:Nat):List HP:=[wM X a,iG X.db a.bytes,jL X.tm (Value.int .i64) aS a.taken,Q8 X.gm n]
def vg (G:yh) (c:Int):SB×List Int:=(ak G c).getD (none,[])
variable {r:List HP} {κ:Type}
theorem map_nil {α β:Type} [DecidableEq κ] {m:Nat} {ke:κ→Value} {f:α→VP} {g:β→VP}:aB (jL m ke f []::r) (jL m ke g []::r):=fun F S w ⟨F1,F2,h1,h2,⟨hF,es,cl,hh,hk,_,hb⟩,h4⟩=>
 ⟨F1,F2,h1,h2,⟨hF,es,cl,hh,hk,fun i p hp=>by simp at hp,hb⟩,h4⟩
variable {gm:Nat}
theorem OL:aB (jL gm (Value.int .i64) (fun _:Unit=>qg) []::r) (Q8 gm 0::r):=
 map_nil.trans ((aB.pure (p:=tB [] 0) (fun e h=>by cases h)).trans ((aB.pack (l:=[l6 (tB [] 0),HY gm []])).trans (aB.ex (f:=fun G:yh=>j4 (l6 (tB G 0)::HY gm G::oW G)) [])))
theorem LI:aB (ez X a++r) (tZ X a 0++r):=aB.cons _ (aB.cons _ (aB.cons _ OL))
variable {G:yh} {c:Int}
theorem OM:af (tM aa (aa (.slice none 0 0)) (ak (EX G) c)) (aa (bq (vg G c).1 (vg G c).2.length)):=af.of_eq (by
 rw [lI (fun x:SB×List Int=>bq x.1 x.2.length)]
 unfold vg
 cases ak G c<;>rfl)
theorem wN {α:Type} {id:Int} (v:α):∀{E:List (Int×α)},ak E id≠none→fF E id v=gD E id v
 |[],h=>absurd rfl h
 | e ::E,h=>by
  unfold fF gD
  rw [List.map_cons,List.findIdx?_cons]
  by_cases he:e.1=id
  · simp [he]
  · have h':ak E id≠none:=fun e2=>h (by
     unfold ak at e2 ⊢
     rw [List.find?_cons_of_neg (by simpa using he)];exact e2)
    have ih:=wN v h'
    unfold fF at ih
    rw [if_neg he,←ih]
    simp only [he,decide_false,Bool.false_eq_true,if_false]
    cases (E.map (·.1)).findIdx? (fun k=>decide (k=id))<;>rfl
theorem BT {c:Int}:∀{G:yh} {x:SB×List Int},ak G c=some x→(oW G).Perm (au x.1 1 dJ x.2::oW (jd G c))
 |[],x,h=>by cases h
 |e::E,x,h=>by
  unfold ak at h
  by_cases he:e.1=c
  · rw [List.find?_cons_of_pos (by simpa using he)] at h
    simp at h
    unfold jd oW
    rw [List.eraseP_cons_of_pos (by simpa using he),List.map_cons,h]
  · rw [List.find?_cons_of_neg (by simpa using he)] at h
    have ih:=BT (c:=c) (G:=E) (x:=x) h
    unfold jd oW at ih ⊢
    rw [List.eraseP_cons_of_neg (by simpa using he),List.map_cons,List.map_cons]
    exact (ih.cons _).trans (List.Perm.swap _ _ _)
theorem Ke {c:Int} (y:SB×List Int):∀{G:yh},ak G c≠none→(au y.1 1 dJ y.2::oW (jd G c)).Perm (oW (gD G c y))
 |[],h=>absurd rfl h
 | e ::E,h=>by
  by_cases he:e.1=c
  · unfold jd oW gD
    rw [List.eraseP_cons_of_pos (by simpa using he),if_pos he,List.map_cons]
  · have h':ak E c≠none:=fun e2=>h (by
     unfold ak at e2 ⊢
     rw [List.find?_cons_of_neg (by simpa using he)];exact e2)
    have ih:=Ke y h'
    unfold oW jd at ih ⊢
    unfold gD
    rw [List.eraseP_cons_of_neg (by simpa using he),if_neg he,List.map_cons,List.map_cons]
    exact (List.Perm.swap _ _ _).trans (ih.cons _)
theorem zM {α:Type} {c:Int}:∀{G:List (Int×α)},ak G c=none→jd G c=G
 |[],_=>rfl
 |e::E,h=>by
  unfold ak at h
  by_cases he:e.1=c
  · rw [List.find?_cons_of_pos (by simpa using he)] at h;cases h
  · rw [List.find?_cons_of_neg (by simpa using he)] at h
    have ih:=zM (c:=c) (G:=E) h
    unfold jd at ih ⊢
    rw [List.eraseP_cons_of_neg (by simpa using he),ih]
variable {n:Nat}
theorem LJ (h:tB G n):(vg G c).2.length≤n:=by
 unfold vg
 cases hc:ak G c with
 |none=>exact Nat.zero_le _
 |some y=>exact h _ (tS hc)
theorem aM.T0 {P:Program} {Q:Exit→Act→World→Prop} {cx:Ctx} {x:Code} {env:Env} (c:Int) (k:∀G:yh,tB G n→aM P Q cx x (HY gm G::au (vg G c).1 1 dJ (vg G c).2::j4 (oW (jd G c))::r) env):aM P Q cx x (Q8 gm n::r) env:=
 aM.opens fun G=>aM.own aB.unpack (aM.l6 fun hG=>aM.own (aB.cons _ (by
  unfold vg
  cases h:ak G c with
  |none=>
   rw [zM h]
   exact aB.trans (aB.pack (l:=oW G)) tv
  |some y=>exact aB.trans (aB.perm ((BT h).append_right r)) (aB.cons _ (aB.pack (l:=oW (jd G c)))))) (k G hG))
theorem ON {ν:Type} [DecidableEq κ] {D:List (κ×ν)} {a:κ} {v:ν} {e:κ×ν} (h:e∈fF D a v):e=(a,v)∨e∈D:=by
 unfold fF at h
 split at h
 · rcases List.mem_or_eq_of_mem_set h with h|h
   · exact .inr h
   · exact .inl h
 · rcases List.mem_append.1 h with h|h
   · exact .inr h
   · exact .inl (List.mem_singleton.1 h)
theorem LK {sb:SB} {xs:List Int} (hG:tB G k) (hn:n=xs.length) (hx:xs.length≤k+1):aB (jL gm (Value.int .i64) aa (fF (EX G) c (bq sb n))::au sb 1 dJ xs::j4 (oW (jd G c))::r) (Q8 gm (k+1)::r):=by
 subst hn
 have e:fF (EX G) c (bq sb xs.length)=EX (fF G c (sb,xs))∧(au sb 1 dJ xs::oW (jd G c)).Perm (oW (fF G c (sb,xs))):=by
  cases h:ak G c with
  |none=>
   rw [kQ _ h,kQ _ (show ak (EX G) c=none by rw [lI (fun x:SB×List Int=>bq x.1 x.2.length),h];rfl),zM h]
   refine ⟨by simp [EX], ?_⟩
   have:oW (G++[(c,sb,xs)])=oW G++[au sb 1 dJ xs]:=by simp [oW]
   rw [this]
   exact (List.perm_append_singleton _ _).symm
  |some y=>
   have h1:ak G c≠none:=by rw [h];exact Option.some_ne_none _
   rw [wN _ h1,wN _ (show ak (EX G) c≠none by rw [lI (fun x:SB×List Int=>bq x.1 x.2.length),h];exact Option.some_ne_none _)]
   exact ⟨(uR (fun x:SB×List Int=>bq x.1 x.2.length) c (sb,xs) G).symm,Ke (sb,xs) h1⟩
 rw [e.1]
 refine (aB.cons _ (aB.cons _ aB.unpack)).trans ?_
 refine (aB.cons _ (aB.perm (e.2.append_right r))).trans ?_
 have hk:tB (fF G c (sb,xs)) (k+1):=fun e h=>by
  rcases ON h with rfl|h
  · exact hx
  · exact Nat.le_succ_of_le (hG e h)
 refine (aB.pure hk).trans ?_
 exact (aB.pack (l:=l6 (tB (fF G c (sb,xs)) (k+1))::HY gm (fF G c (sb,xs))::oW (fF G c (sb,xs)))).trans (aB.ex (f:=fun G:yh=>j4 (l6 (tB G (k+1))::HY gm G::oW G)) _)
theorem LL {ν:Type} [DecidableEq κ] (D:List (κ×ν)) (a b:κ) (v:ν):ak (fF D a v) b=if b=a then some v else ak D b:=by
 have key:∀(D:List (κ×ν)),ak (fF D a v) b=if b=a then some v else ak D b:=by
  intro D
  induction D with
  |nil=>
   by_cases h:b=a
   · subst h;simp [fF,ak]
   · have h2:¬a=b:=fun e=>h e.symm
     simp [fF,ak,h,h2]
  |cons p D ih=>
   by_cases hp:p.1=a
   · have h1:fF (p::D) a v=(a,v)::D:=by simp [fF,List.findIdx?_cons,hp]
     rw [h1]
     by_cases h:b=a
     · subst h;simp [ak]
     · have h2:¬a=b:=fun e=>h e.symm
       have h3:¬p.1=b:=fun e=>h2 (hp.symm.trans e)
       simp [ak,List.find?_cons,h,h2,h3]
   · have h1:fF (p::D) a v=p::fF D a v:=by
      simp only [fF,List.map_cons,List.findIdx?_cons,hp,decide_false,Bool.false_eq_true,if_false]
      cases hf:(D.map (·.1)).findIdx? (fun k=>decide (k=a)) with
      |none=>simp
      |some j=>simp
     rw [h1]
     by_cases h:p.1=b
     · have h2:¬b=a:=fun e=>hp (h.trans e)
       simp [ak,List.find?_cons,h,h2]
     · have e1:∀D':List (κ×ν),ak (p::D') b=ak D' b:=fun D'=>by simp [ak,List.find?_cons,h]
       rw [e1,e1,ih]
 exact key D
def fJ (a:dX) (at_:Int) (c:Nat):dX:={a with taken:=fG a.taken at_,live:=a.live-c}
def eC (m:aR):Nat:=(max m.Table 0).toNat
abbrev fH (m:aR):Nat:=aW (8*m.an.length)
abbrev oE (m:aR):Nat:=aW (4*eC m)
abbrev Q9 (a:dX) (c:Nat):dX:=⟨a.bytes.take a.height++List.replicate c 0++a.bytes.drop (a.height+c),a.height+c,a.live+c,fF a.taken (a.height:Int) (c:Int)⟩
theorem r8 {c:Nat} (h:dm X a) (hc:a.height+c≤X.size):dm X (Q9 a c):=by
 have hm:=h.most;have hh:=h.hi;have hlen:=h.len;have hlv:=h.live
 refine ⟨?_,by simp only;omega,hm,by simp only;omega⟩
 simp only [List.length_append,List.length_take,List.length_drop,List.length_replicate]
 omega
theorem EY (h:dm X a) (hn:n≤4194304) (hc:a.height+aW n≤X.size):xI X.size a n=(Q9 a (aW n),a.height,0):=by
 unfold xI;rw [if_neg (by omega),if_neg (by omega)]
abbrev mI (a:dX) (m:aR):dX:=Q9 (Q9 a (fH m)) (oE m)
theorem LM {t:List (Int×Int)} (h:a.taken=t):aB (wM X a::iG X.db a.bytes::jL X.tm (Value.int .i64) aS t::jL X.gm (Value.int .i64) (fun _:Unit=>qg) []::r) (ez X a++r):=by subst h;exact aB.refl _
abbrev nJ (sb:Nat) (X:oT) (pb:Nat) (m:aR) (num g t:Int) (mv:VP):HP:=az sb [cr (br m),aI X.ab 0,aI pb 0,ag .i64 num,ag .i64 g,ag .i64 t,mv,aq False]
structure nK (m:aR):Prop where
 gl:m.an.length≤60000
 gv:∀z∈m.an,0≤z.Value∧z.Value<18446744073709551616∧(gE z.Ty=32∨gE z.Ty=64)
 tb:m.Table≤1000
 ms:∀z∈m.bp,0≤z.Min∧z.Min≤65536∧(z.Max<0∨z.Min≤z.Max∧z.Max≤65536)
 ml:m.bp.length≤60000
 ll:m.bt.length≤60000
 el:∀e∈m.bt,0≤e.At∧e.At<18446744073709551616∧e.ay.length≤1000∧∀f∈e.ay,0≤f∧f<281474976710656
 dl:m.aZ.length≤60000
 da:∀d∈m.aZ,jt d.Mem m.bp.length∧0≤d.At∧d.At<18446744073709551616∧d.Bytes.length≤5000
variable {m:aR}
theorem nK.r1 (h:nK m):8*m.an.length≤fH m∧fH m≤8388608:=⟨wC (by have:=h.gl;omega),ox _⟩
theorem nK.r2 (h:nK m):4*eC m≤oE m∧oE m≤8388608∧eC m≤1000:=by
 have h2:eC m≤1000:=by have:=h.tb;unfold eC;omega
 exact ⟨wC (by omega),ox _,h2⟩
def LN (m:aR) (i:Nat):jF:=(m.an[i]?).getD ⟨0,False,0⟩
variable {i:Nat}
theorem Kf {z:jF} (h:m.an[i]?=some z):LN m i=z:=by unfold LN;rw [h];rfl
def wO (t:UInt8) (v:Nat):Nat:=v%2^(gE t).toNat
theorem Kg {t:UInt8} (h:v<18446744073709551616):wO t v<18446744073709551616:=Nat.lt_of_le_of_lt (Nat.mod_le _ _) h
def HZ (m:aR) (g:Nat) (a:dX):Nat→dX
 |0=>a
 |k+1=>(HZ m g a k).put (g+8*k) (yg (wO (LN m k).Ty (LN m k).Value.toNat) 8)
theorem r9 {X:oT} {m:aR} {g:Nat} {a:dX} (h:dm X a):∀k,g+8*k≤X.size→dm X (HZ m g a k)
 |0,_=>h
 |k+1,hk=>HX (r9 h k (by omega)) (by omega)
structure nL (a b:dX):Prop where
 height:b.height=a.height
 live:b.live=a.live
 taken:b.taken=a.taken
theorem nL.refl (a:dX):nL a a:=⟨rfl,rfl,rfl⟩
theorem nL.trans {a b c:dX} (h:nL a b) (k:nL b c):nL a c:=⟨k.1.trans h.1,k.2.trans h.2,k.3.trans h.3⟩
theorem EZ {m:aR} {g:Nat} {a:dX}:∀k,nL a (HZ m g a k)
 |0=> .refl _
 |k+1=>(EZ k).trans ⟨rfl,rfl,rfl⟩
def iO (m:aR) (e:fR):Prop:=(eC m:Int)<e.At∨(eC m:Int)-e.At<(e.ay.length:Int)
def Nn (t:Nat) (e:fR) (a:dX):Nat→dX
 |0=>a
 |k+1=>(Nn t e a k).put (t+4*(e.At.toNat+k)) (yg (((e.ay[k]?).getD 0).toNat+1) 4)
open Classical in
noncomputable def Kh (m:aR) (t:Nat) (e:fR) (a:dX):dX:=if iO m e then a else Nn t e a e.ay.length
open Classical in
noncomputable def T3 (m:aR) (e:fR):Int:=if iO m e then 5 else 0
def CX (m:aR) (i:Nat):fR:=(m.bt[i]?).getD ⟨0,[]⟩
theorem Ki {z:fR} (h:m.bt[i]?=some z):CX m i=z:=by unfold CX;rw [h];rfl
noncomputable def ua (m:aR) (t:Nat) (a:dX):Nat→dX
 |0=>a
 |k+1=>Kh m t (CX m k) (ua m t a k)
variable {e:fR}
theorem OO {t:Nat} (h:m.bt[k]?=some e):ua m t a (k+1)=Kh m t e (ua m t a k):=by show Kh m t (CX m k) _=_;rw [Ki h]
theorem wP {X:oT} {t:Nat} {e:fR} {a:dX} (h:dm X a):∀k,t+4*(e.At.toNat+k)≤X.size→dm X (Nn t e a k)
 |0,_=>h
 |k+1,hk=>HX (wP h k (by omega)) (by omega)
theorem E0 {t:Nat} {e:fR} {a:dX}:∀k,nL a (Nn t e a k)
 |0=> .refl _
 |k+1=>(E0 k).trans ⟨rfl,rfl,rfl⟩
theorem T4 {t:Nat} (h:dm X a) (ht:t+4*eC m≤X.size) (h0:0≤e.At):dm X (Kh m t e a)∧nL a (Kh m t e a):=by
 unfold Kh
 by_cases hb:iO m e
 · rw [if_pos hb];exact ⟨h, .refl _⟩
 · rw [if_neg hb]
   unfold iO at hb
   exact ⟨wP h _ (by omega),E0 _⟩
theorem yz {X:oT} {m:aR} {t:Nat} {a:dX} (h:dm X a) (hm:nK m) (ht:t+4*eC m≤X.size):∀k,dm X (ua m t a k)∧nL a (ua m t a k)
 |0=>⟨h, .refl _⟩
 | k+1=>by
  have ih:=yz (m:=m) (t:=t) h hm ht k
  have h0:0≤(CX m k).At:=by
   unfold CX
   cases he:m.bt[k]? with
   |none=>exact Int.le_refl _
   |some e=>exact (hm.el e (List.mem_of_getElem? he)).1
  have h2:=T4 (m:=m) (t:=t) ih.1 ht h0
  exact ⟨h2.1,ih.2.trans h2.2⟩
def nM (l:eo):Nat:=if l.Max<0 then 65536 else l.Max.toNat
abbrev OP (l:eo) (n:Int):u9:=⟨n,l.Min.toNat,nM l,nM l,l.bN⟩
def H6 (m:aR) (i:Nat):eo:=(m.bp[i]?).getD ⟨0,0,False⟩
variable {z:eo}
theorem yA (h:m.bp[i]?=some z):H6 m i=z:=by unfold H6;rw [h];rfl
def yj (m:aR) (num:Int) (k:Nat):List u9:=(List.range k).map fun i=>OP (H6 m i) (num+(i:Int))
theorem lX (m:aR) (num:Int) (k:Nat):(yj m num k).length=k:=by simp [yj]
variable {num:Int}
theorem WC (h:m.bp[k]?=some z):yj m num (k+1)=yj m num k++[OP z (num+(k:Int))]:=by
 unfold yj;rw [List.range_succ,List.map_append];simp [yA h]
theorem CY (h:m.bp[i]?=some z) (hi:i<k):(yj m num k)[i]?=some (OP z (num+(i:Int))):=by
 unfold yj;rw [List.getElem?_map,List.getElem?_range hi];simp [yA h]
theorem E1 (hm:nK m) (hz:z∈m.bp) {n:Int} (hn:0≤n):AW (OP z n)∧z.Min=((z.Min.toNat:Nat):Int)∧z.Min.toNat≤nM z∧nM z≤65536:=by
 obtain ⟨h1,h2,h3⟩:=hm.ms z hz
 have h4:z.Min.toNat≤nM z∧nM z≤65536:=by unfold nM;split<;>omega
 exact ⟨⟨hn,h4.1,Nat.le_refl _,h4.2⟩,by omega,h4.1,h4.2⟩
def vh (m:aR) (i:Nat):jJ:=(m.aZ[i]?).getD ⟨0,0,[]⟩
theorem CZ {z:jJ} (h:m.aZ[i]?=some z):vh m i=z:=by unfold vh;rw [h];rfl
def xL (m:aR) (d:jJ):Nat×Nat×Nat:=cg (H6 m d.Mem.toNat).Min.toNat d.At.toNat 0 (d.Bytes.length:Int)
def Vl (m:aR) (num:Int) (d:jJ) (C:Cont):Cont:=if (xL m d).2=(0,0) then wE 64 C (num+(d.Mem.toNat:Int)) (d.At.toNat+0) d.Bytes else C
def pQ (m:aR) (num:Int) (C:Cont):Nat→Cont
 |0=>C
 |k+1=>Vl m num (vh m k) (pQ m num C k)
def yB (m:aR):Nat→Nat
 |0=>0
 |k+1=>yB m k+((vh m k).Bytes.length/64+2)
theorem zN {m:aR} {k:Nat}:∀{n:Nat},k≤n→yB m k≤yB m n
 |0,h=>by rw [Nat.le_zero.1 h];exact Nat.le_refl _
 |n+1,h=>by
  by_cases e:k=n+1
  · rw [e];exact Nat.le_refl _
  · exact Nat.le_trans (zN (show k≤n by omega)) (Nat.le_add_right _ _)
theorem H7 {m:aR} (hm:nK m):∀n,yB m n≤n*81
 |0=>Nat.le_refl _
 | n+1=>by
  have ih:=H7 hm n
  have h:(vh m n).Bytes.length≤5000:=by
   unfold vh
   cases hd:m.aZ[n]? with
   |none=>exact Nat.zero_le _
   |some d=>exact (hm.da d (List.mem_of_getElem? hd)).2.2.2
  show yB m n+((vh m n).Bytes.length/64+2)≤_
  omega
variable {d:jJ}
theorem WD (h:d.Bytes.length≤5000):(xL m d).2.2=0:=by
 unfold xL cg
 rw [if_neg (by omega),if_neg (by omega)]
 split<;>rfl
theorem Ra (h:T3 m e≠0):iO m e:=Classical.byContradiction fun hb=>h (if_neg hb)
theorem T5 (h:¬T3 m e≠0):¬iO m e:=fun hb=>h (by have h2:T3 m e=5:=if_pos hb;omega)
theorem C0 {C:Cont} (h:m.aZ[k]?=some d):pQ m num C (k+1)=Vl m num d (pQ m num C k):=by show Vl m num (vh m k) _=_;rw [CZ h]
theorem SY (h:m.aZ[k]?=some d):yB m (k+1)=yB m k+(d.Bytes.length/64+2):=by show yB m k+((vh m k).Bytes.length/64+2)=_;rw [CZ h]
def ku (m:aR) (k:Nat):Prop:=∀j e,j<k→m.bt[j]?=some e→¬iO m e
theorem ku.nil:ku m 0:=fun _ _ h=>absurd h (Nat.not_lt_zero _)
theorem ku.next {z:fR} (h:ku m k) (hz:m.bt[k]?=some z) (hb:¬iO m z):ku m (k+1):=fun j e hj he=>by
 rcases Nat.lt_succ_iff_lt_or_eq.1 hj with hj|rfl
 · exact h j e hj he
 · rw [hz] at he;cases he;exact hb
def nN (m:aR) (k:Nat):Prop:=∀j d,j<k→m.aZ[j]?=some d→(xL m d).2=(0,0)
theorem nN.nil:nN m 0:=fun _ _ h=>absurd h (Nat.not_lt_zero _)
theorem nN.next {z:jJ} (h:nN m k) (hz:m.aZ[k]?=some z) (hb:(xL m z).2=(0,0)):nN m (k+1):=fun j e hj he=>by
 rcases Nat.lt_succ_iff_lt_or_eq.1 hj with hj|rfl
 · exact h j e hj he
 · rw [hz] at he;cases he;exact hb
def od (m:aR) (r:Nat×Nat×Int):Prop:=
 (∃k e,m.bt[k]?=some e∧ku m k∧iO m e∧r=(k,0,5))∨(ku m m.bt.length∧∃k d,m.aZ[k]?=some d∧nN m k∧(xL m d).2≠(0,0)∧r=(m.bt.length,k+1,((xL m d).2.1:Int)))∨
 (ku m m.bt.length∧nN m m.aZ.length∧r=(m.bt.length,m.aZ.length,0))
theorem od.el (h1:m.bt[k]?=some e) (h2:ku m k) (h3:iO m e):od m (k,0,5):= .inl ⟨k,e,h1,h2,h3,rfl⟩
theorem od.da (h1:m.aZ[k]?=some d) (h2:ku m m.bt.length) (h3:nN m k) (h4:(xL m d).2≠(0,0)):od m (m.bt.length,k+1,((xL m d).2.1:Int)):= .inr (.inl ⟨h2,k,d,h1,h3,h4,rfl⟩)
theorem od.all (h2:ku m m.bt.length) (h3:nN m m.aZ.length):od m (m.bt.length,m.aZ.length,0):= .inr (.inr ⟨h2,h3,rfl⟩)
def fz (b:Nat):List VP:=[aI b 0]
instance:hU 1 fz:=⟨fun _=>rfl,fun x q h=>by simp only [fz,List.mem_cons,List.not_mem_nil,or_false] at h;subst h;infer_instance⟩
def jg (pb:Nat) (bs:List Nat) (ms:List u9):List HP:=List.zipWith (fun b M=>di b pb M) bs ms
def fZ (pb:Nat) (bs:List Nat) (ms:List u9):HP:=j4 (jg pb bs ms)
theorem zO {pb:Nat} {b:Nat} {M:u9}:∀{bs:List Nat} {ms:List u9} {j:Nat},bs[j]?=some b→ms[j]?=some M→jg pb bs ms=jg pb (bs.take j) (ms.take j)++di b pb M::jg pb (bs.drop (j+1)) (ms.drop (j+1))
 |[],_,_,h,_=>by simp at h
 |_::_,[],_,_,h=>by simp at h
 |c::bs,N::ms,0,h1,h2=>by simp at h1 h2;subst h1;subst h2;rfl
 |c::bs,N::ms,j+1,h1,h2=>by
  have ih:=zO (pb:=pb) (bs:=bs) (ms:=ms) (j:=j) (by simpa using h1) (by simpa using h2)
  show di c pb N::jg pb bs ms=di c pb N::(jg pb (bs.take j) (ms.take j)++_)
  rw [ih];rfl
variable {pb:Nat} {b:Nat} {M:u9} {bs:List Nat} {ms:List u9}
theorem vi {j:Nat} (h1:bs[j]?=some b) (h2:ms[j]?=some M):aB (fZ pb bs ms::r) (di b pb M::j4 (jg pb (bs.take j) (ms.take j)++jg pb (bs.drop (j+1)) (ms.drop (j+1)))::r):=by
 refine (aB.unpack (l:=jg pb bs ms)).trans ?_
 rw [zO h1 h2,List.append_assoc]
 refine (aB.perm ?_).trans (aB.cons _ (aB.pack (l:=jg pb (bs.take j) (ms.take j)++jg pb (bs.drop (j+1)) (ms.drop (j+1)))))
 rw [List.append_assoc,List.cons_append]
 exact List.perm_middle
theorem yC {j:Nat} (h1:bs[j]?=some b) (h2:ms[j]?=some M):aB (di b pb M::j4 (jg pb (bs.take j) (ms.take j)++jg pb (bs.drop (j+1)) (ms.drop (j+1)))::r) (fZ pb bs ms::r):=by
 refine aB.trans ?_ (aB.pack (l:=jg pb bs ms))
 rw [zO h1 h2,List.append_assoc]
 refine (aB.cons _ (aB.unpack (l:=jg pb (bs.take j) (ms.take j)++jg pb (bs.drop (j+1)) (ms.drop (j+1))))).trans (aB.perm ?_)
 rw [List.append_assoc,List.cons_append]
 exact List.perm_middle.symm
theorem OQ (h:bs.length=ms.length):aB (di b pb M::fZ pb bs ms::r) (fZ pb (bs++[b]) (ms++[M])::r):=by
 refine (aB.cons _ (aB.unpack (l:=jg pb bs ms))).trans (aB.trans (aB.perm ?_) (aB.pack (l:=jg pb (bs++[b]) (ms++[M]))))
 have e:jg pb (bs++[b]) (ms++[M])=jg pb bs ms++[di b pb M]:=by unfold jg;rw [List.zipWith_append h];rfl
 rw [e,List.append_assoc]
 exact (List.perm_middle).symm
theorem OR:aB r (fZ pb [] []::r):=aB.pack (l:=[])
end Go.Hl
end
section
namespace Go.Proofs.YtpfobikpggmleaaGreatDoor
open Go.Hl Go.RowKit
variable {n:Nat}
theorem E3:cW Tryz.prog 15 [aS (n:Int)] (aS (aW n:Int)):=by
 refine In 12 Tryz.func15 fun _ _ _=> ?_
 refine dM ?_
 refine Cd (fun c0=> ?_) fun c0=> ?_
 ·
  refine Z7 ?_
  refine bL ?_
  exact af.int (by unfold aW;rw [if_pos (by omega)];rfl)
 refine Z9 ?_
 refine .aT (σ:=Nat×Nat) (fun _=>[]) (fun s=>[(3,aS (s.1:Int))]) (fun s=>s.1*2^s.2=16*2^19∧16≤s.1∧rQ s.2 s.1 n=aW n) (fun s=>s.2) (16,19) ⟨rfl,by decide,by unfold aW;rw [if_neg (by omega)]⟩ rfl ?_ ?_
 · exact (.get rfl (af.refl _) (.refl _ _))
 rintro ⟨c,k⟩ ⟨hk,T6,hd⟩
 simp only at hk T6 hd ⊢
 have hcm:c≤8388608:=by (have h2:0<2^k:=Nat.two_pow_pos k;have h3:c≤c*2^k:=Nat.le_mul_of_pos_right _ h2;omega)
 refine Z8 ?_
 refine Cd (fun c1=> ?_) fun c1=> ?_
 ·
  refine Z9 ?_
  refine .round (c*2,k-1) (by obtain ⟨k,rfl⟩:∃j,k=j+1:=⟨k-1,by (cases k with|zero=>simp at hk;omega|succ k=>omega)⟩;simp only [Nat.add_sub_cancel];exact ⟨by rw [←hk,Nat.pow_succ];simp only [Nat.mul_assoc,Nat.mul_comm,Nat.mul_left_comm],by omega,by (unfold rQ at hd;rw [if_pos (by omega)] at hd;exact hd)⟩) (by cases k with|zero=>simp at hk;omega|succ k=>simp) rfl ?_
  exact (.get rfl (af.int (by simp)) (.keep 7 rfl rfl))
 refine dM ?_
 refine bL ?_
 exact af.int (by rw [←hd,Lc (by omega)])
variable {X:oT} {a:dX}
theorem E4 {c:Nat} (av:dm X a) (hp1:c≤8388608):cw Tryz.prog 89 [aI X.ab 0,aS (c:Int)] (ez X a) (γ:=dX×Nat×Bool) (fun g=>g=qq X.size a c) (fun g=>ez X g.1) (fun g=>bD [aS (g.2.1:Int),aq (g.2.2=true)]):=by
 refine In 58 Tryz.func89 fun _ _ _=> ?_
 have Cs:=av.hi;have hk2:=av.most
 refine iW ?_
 refine .p (wm (i:=3) Tryz.TP Tryz.underlying92 (fun w=>lG Tryz.Wo w) (.t rfl) (.t rfl) rfl) rfl ?_
 refine Z6 ?_
 refine .p (JN rfl Tryz.underlying61 (.le (.t rfl) (aG 1 (fun n:Int=>[aS n])))) rfl ?_
 refine Z3 ?_
 refine Cd (fun c0=> ?_) fun c0=> ?_
 · simp at c0
 refine Z4 ?_
 refine .bx 11 1 FM.out (by kernel_rfl) (k:= ?_)
 refine Z5 ?_
 refine .p (nB rfl Tryz.underlying59 (.t rfl)) ?_
 refine Z9 ?_
 refine Cd (fun c1=> ?_) fun c1=> ?_
 ·
  refine Z8 ?_
  refine Post.bf rfl rfl ((a,0,false)) (by unfold qq;rw [if_pos (by omega)]) (fun _ _ _ h=>h) rfl (.cons (.rt rfl) ?_ (.cons (.rt rfl) ?_ .nil))
  · exact af.refl _
  exact af.prop (by simp)
 refine Z32 ?_
 refine Post.bf rfl rfl (({a with height:=a.height+c},a.height,true)) (by unfold qq;rw [if_neg (by omega)]) (fun _ _ _ h=>h) rfl (.cons (.rt rfl) ?_ (.cons (.rt rfl) ?_ .nil))
 · exact af.refl _
 exact af.prop (by simp)
theorem uc (av:dm X a):cw Tryz.prog 41 [aI X.ab 0,aS (n:Int)] (ez X a) (γ:=dX×Nat×Nat) (fun g=>g=xI X.size a n) (fun g=>ez X g.1) (fun g=>bD [aS (g.2.1:Int),aS (g.2.2:Int)]):=by
 refine In 53 Tryz.func41 fun _ _ _=> ?_
 have Cs:=av.hi;have hk2:=av.most;have H8:=av.len;have DX:=av.live;have Rb:=ox n
 refine cT ?_
 refine .p (cO FU.out (.t rfl)) rfl ?_
 refine Z3 ?_
 refine Cd (fun c0=> ?_) fun c0=> ?_
 · exact c0.elim
 refine cT ?_
 refine Cd (fun c1=> ?_) fun c1=> ?_
 ·
  refine Z9 ?_
  refine Post.bf rfl rfl ((a,0,1)) (by unfold xI;rw [if_pos (by omega)]) (fun _ _ _ h=>h) rfl (.cons (.rt rfl) ?_ (.cons (.rt rfl) ?_ .nil))
  · exact .z
  exact .z
 have hk6:¬4194304<n:=by omega
 refine Z6 ?_
 refine .p (cA (h:=E3)) rfl ?_
 refine Z7 ?_
 refine .n (cE (h:=E4 (by assumption) (by first|assumption|exact ox _))) rfl fun g24 Kj=> ?_
 refine iW ?_
 refine Cd (fun c2=> ?_) fun c2=> ?_
 ·
  obtain ⟨e24,T7⟩:=Ld (by rw [←Kj];exact c2)
  rw [e24] at Kj;subst Kj;dsimp only
  refine Z8 ?_
  refine Post.bf rfl rfl ((a,0,8)) (by unfold xI;rw [if_neg hk6,if_pos T7]) (fun _ _ _ h=>h) rfl (.cons (.rt rfl) ?_ (.cons (.rt rfl) ?_ .nil))
  · exact .z
  exact .z
 obtain ⟨e24,T7⟩:=Hz (by rw [←Kj];exact Classical.not_not.1 c2)
 rw [e24] at Kj;subst Kj;dsimp only
 refine dM ?_
 refine .p ((tN (l:=a.height) (h:=a.height+aW n) FU.out FC.out (.t rfl) (.t rfl) (.t rfl) rfl rfl (by omega) (by omega)).le (af.of_eq (show jM _ _ _=jM X.db a.height (aW n) by rw [Nat.zero_add,Nat.add_sub_cancel_left]))) rfl ?_
 refine .s (Ht (i:=1) rfl Tryz.underlying59 FC.out FZ.out (.t rfl) rfl (by dsimp only;omega)) ?_
 refine cK ?_
 refine .s (Eo (i:=2) _ Tryz.TN Tryz.underlying91 (.t rfl) (.t rfl) (.t rfl) rfl) ?_
 refine Z9 ?_
 refine .p (ep (.t rfl) (.t rfl) (bY (by dsimp only;omega) (by dsimp only;omega))) rfl ?_
 refine lg ?_
 refine Post.bf rfl rfl (({bytes:=a.bytes.take a.height++List.replicate (aW n) 0++a.bytes.drop (a.height+aW n),height:=a.height+aW n,live:=a.live+aW n,taken:=fF a.taken (a.height:Int) (aW n:Int)},a.height,0)) (by unfold xI;rw [if_neg hk6,if_neg T7]) (fun _ _ _ h=>h) rfl (.cons (.rt rfl) ?_ (.cons (.rt rfl) ?_ .nil))
 · exact .z
 exact .z
theorem apart_spec {at_:Nat} (av:dm X a) (hp1:at_+n≤X.size):cw Tryz.prog 116 [aI X.ab 0,aS (at_:Int),aS (n:Int)] (ez X a) (γ:=Unit) (fun _=>True) (fun _=>ez X a) (fun _=>bD [jM X.db at_ n,aS 0]):=by
 refine In 47 Tryz.func116 fun _ _ _=> ?_
 have hk2:=av.most
 refine cT ?_
 refine .p (cO FU.out (.t rfl)) rfl ?_
 refine Z3 ?_
 refine Cd (fun c0=> ?_) fun c0=> ?_
 · exact c0.elim
 refine iW ?_
 refine .g (cm.gF rfl rfl rfl rfl (fun hg=>nB rfl Tryz.underlying59 (.when (.t rfl) hg))) rfl rfl ?_
 refine Z8 ?_
 refine .g (cm.gF rfl rfl rfl rfl (fun hg=>nB rfl Tryz.underlying59 (.when (.t rfl) hg))) rfl rfl ?_
 refine Z7 ?_
 refine Cd (fun c1=> ?_) fun c1=> ?_
 · exfalso;omega
 refine lg ?_
 refine .p ((tN (l:=at_) (h:=at_+n) FU.out FC.out (.t rfl) (.t rfl) (.t rfl) rfl rfl (by omega) (by omega)).le (af.of_eq (show jM _ _ _=jM X.db at_ n by rw [Nat.zero_add,Nat.add_sub_cancel_left]))) rfl ?_
 refine Z5 ?_
 refine j9 ?_ ?_
 · exact .z
 exact .z
end Go.Proofs.YtpfobikpggmleaaGreatDoor
end
section
namespace Go.Proofs.YtpfobikpggmleaaGreatDoor
open Go.Hl
def yD (p:List UInt8×Int):List VP:=[cZ p.1,o9 Tryz.prog (fun _:Unit=>True) (fun _=>[]) (fun _=>ag .i64 p.2)]
instance:hU 2 yD:=⟨fun _=>rfl,fun x q h=>by simp only [yD,List.mem_cons,List.not_mem_nil,or_false] at h;rcases h with h|h<;>rw [h]<;>infer_instance⟩
instance (x:List UInt8×Int):bE (yD x):=bE.of x
noncomputable def mJ (m:aR):List (List UInt8×Int):=[([115,105,103,115],BJ m),([105,109,112,111,114,116,115],pN m),([102,117,110,99,115],kW m),([116,97,98,108,101],nG m),([109,101,109,115],BK m),([103,108,111,98,97,108,115],pO m),([101,120,112,111,114,116,115],nI m),([115,116,97,114,116],jN m),([101,108,101,109,115],wH m),([100,97,116,97],wI m)]
noncomputable def ud (m:aR):List UInt8×Int:=((mJ m).find? fun p=>p.2 !=0).getD ([],0)
variable {m:aR}
theorem OS {k:Nat} {p:List UInt8×Int} (h:cN (fun p:List UInt8×Int=>p.2≠0) (mJ m) k) (hp:(mJ m)[k]?=some p) (hn:p.2≠0):ud m=p:=by
 unfold ud
 have key:∀(l:List (List UInt8×Int)) (k:Nat),cN (fun p:List UInt8×Int=>p.2≠0) l k→l[k]?=some p→l.find? (fun p=>p.2 !=0)=some p:=by
  intro l
  induction l with
  |nil=>intro k _ h;simp at h
  | cons x l ih=>
   intro k h hk
   cases k with
   |zero=>simp at hk;subst hk;simp [hn]
   |succ k=>
    have h0:=h 0 x (by omega) rfl
    simp only [ne_eq,Classical.not_not] at h0
    rw [List.find?_cons_of_neg (by simp [h0])]
    exact ih k (fun j y hj hy=>h (j+1) y (by omega) (by simpa using hy)) (by simpa using hk)
 rw [key _ k h hp];rfl
theorem zP (h:∀p∈mJ m,¬p.2≠0):ud m=([],0):=by
 unfold ud
 rw [List.find?_eq_none.2 (fun p hp=>by have:=h p hp;simpa using this)];rfl
theorem OT:(ud m).2=0↔∀p∈mJ m,p.2=0:=by
 constructor
 · intro h p hp
   unfold ud at h
   cases hf:(mJ m).find? (fun p=>p.2 !=0) with
   |none=>have:=List.find?_eq_none.1 hf p hp;simpa using this
   |some x=>rw [hf] at h;have:=List.find?_some hf;simp at this h;exact absurd h this
 · intro h;rw [zP (fun p hp=>by simpa using h p hp)]
theorem wQ:(mJ m).length=10:=rfl
end Go.Proofs.YtpfobikpggmleaaGreatDoor
end
