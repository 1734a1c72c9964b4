/-
  What the statement's proof leans on, several texts in one (packed by a program).
-/
import Derived.Test.YtpfobikpggmleaaGreatDoorSRK
import Derived.Laws.IdiomRangeMap
import Derived.RangeFuncIn
import Derived.RangeFuncRecord
import Derived.RangeFuncLeaves
set_option linter.all false
set_option maxRecDepth 1000000
set_option maxHeartbeats 4000000
section
namespace Go.Hl
open Go.RowKit
def Cb (f:FuncId) (ps:List VP):VP:=⟨fun S w v=>∃lb:List Value,v= .func (.func f) #[] lb.toArray∧gO ps S w lb,fun h1 h2 ⟨lb,hv,h⟩=>⟨lb,hv,h.mono h1 h2⟩⟩
instance (f:FuncId) (ps:List VP):Flat (Cb f ps):=⟨fun ⟨_,h,_⟩=>by subst h;exact ⟨rfl,rfl⟩⟩
structure wV where
 fn:FuncId
 tmps:Array Value
 ps:Array Tmp
 assign:Code
 body:Code
def wV.loop (r:wV) (D:Nat) (st:LoopState):Loop:={state:=st,pending:=none,fn:=r.fn,tmps:=r.tmps,params:=r.ps,assign:=r.assign,body:=r.body,defers:=D}
def lf (l D:Nat) (st:LoopState) (r:wV) (e:Env):HP:=
 ⟨fun F S w=>(F l∧F D∧l≠D)∧w.heap[l]?=some (.loop (r.loop D st))∧w.heap[D]?=some (.deferred (some []))∧cy e S w r.tmps,
  fun h1 h2 h3 h4 ⟨⟨a,b,c⟩,h,k,he⟩=>⟨⟨h1 _ a,h1 _ b,c⟩,(h3 _ a).trans h,(h3 _ b).trans k,he.mono h2 h4⟩⟩
def GQ (D:Nat):HP:=⟨fun F S w=>F D∧w.heap[D]?=some (.deferred (some [])),fun h1 h2 h3 h4 ⟨a,h⟩=>⟨h1 _ a,(h3 _ a).trans h⟩⟩
abbrev yV (l:Nat):VP:=af (.func (.yield l) #[] #[])
theorem ju.over {c:Ctx} {w w':World} {S F F1 F2 S' F1':BS} {hs' rest:List HP} (aC:ju c w S F) (qw:∀k,F1 k→F k∧¬F2 k) (vC:∀k,F2 k→F k) (OU:cL rest F2 S w) {nn:Nat} {ρ:Option Nat} {df:List Deferred} (h2:ju ⟨w,S,F1,nn,ρ,df⟩ w' S' F1') (wq:cL hs' F1' S' w'):
    ju c w' S' (fun k=>F1' k∨F2 k)∧(∀k,S k→S' k)∧(∀k,S k→w'.heap[k]?=w.heap[k]?)∧cL (hs'++rest) (fun k=>F1' k∨F2 k) S' w':=by
  have hSF:∀k,S k→¬F1 k:=fun k hk hf=>aC.di k hk (qw k hf).1
  have hoS:∀k,S k→w'.heap[k]?=w.heap[k]?:=fun k hk=>h2.kept k (aC.bM k hk) (hSF k hk)
  have ho2F:∀k,F2 k→¬F1 k:=fun k hk hf=>(qw k hf).2 hk
  refine ⟨⟨h2.os.trans aC.os,h2.tape.trans aC.tape,h2.output.trans aC.output,Nat.le_trans aC.size h2.size,fun k hk hm=> ?_,fun k hk hf=> ?_,h2.bM,fun k hk=> ?_,fun k hk=> ?_,fun k hk=> ?_,fun k hk=>h2.base k (aC.base k hk)⟩,h2.base,hoS, ?_⟩
  · have hnF:¬F1 k:=fun hf=>(aC.own k (qw k hf).1).elim hm (fun h=>by omega)
    exact (h2.kept k (Nat.lt_of_lt_of_le hk aC.size) hnF).trans (aC.kept k hk hm)
  · rcases hf with hf|hf
    · exact h2.di k hk hf
    · rcases h2.shr k hk with h|h|h
      · exact aC.di k h (vC k hf)
      · exact (qw k h).2 hf
      · exact Nat.lt_irrefl _ (Nat.lt_of_lt_of_le (aC.cc k (vC k hf)) h)
  · rcases hk with hk|hk
    · exact h2.cc k hk
    · exact Nat.lt_of_lt_of_le (aC.cc k (vC k hk)) h2.size
  · rcases hk with hk|hk
    · rcases h2.own k hk with h|h
      · exact aC.own k (qw k h).1
      · exact .inr (Nat.le_trans aC.size h)
    · exact aC.own k (vC k hk)
  · rcases h2.shr k hk with h|h|h
    · exact aC.shr k h
    · exact .inr (aC.own k (qw k h).1)
    · exact .inr (.inr (Nat.le_trans aC.size h))
  · refine cL.append.2 ⟨F1',F2,fun k hk=>⟨.inl hk,fun hf=> ?_⟩,fun k hk=> .inr hk,wq,OU.mono (fun _ h=>h) h2.base (fun k hk=>h2.kept k (aC.cc k (vC k hk)) (ho2F k hk)) hoS⟩
    rcases h2.own k hk with h|h
    · exact (qw k h).2 hf
    · exact Nat.lt_irrefl _ (Nat.lt_of_lt_of_le (aC.cc k (vC k hf)) h)
def SP (c:Ctx) (hs':List HP):Ending→World→Prop:=fun e w'=>e= .returned (.bool true)∧∃S' F',ju ⟨c.w0,c.S0,c.M,0,none,[]⟩ w' S' F'∧cL hs' F' S' w'
def K6 (P:Program) (l:Nat) (ps:List VP) (hs hs':List HP):Prop:=
 ∀(w:World) (S F:BS) (vs:List Value),(∀k,S k→k<w.heap.size)→(∀k,F k→k<w.heap.size)→(∀k,S k→¬F k)→cL hs F S w→gO ps S w vs→
  ∃(fn:FuncId) (tmps:Array Value) (assign body:Code),(Instr.yield l vs.toArray).run P w= .ok (.round l fn tmps assign body) w∧RoundIn (WF none) 0 P l fn tmps assign body w (SP ⟨w,S,F,0,none,[]⟩ hs')
section
variable {P:Program} {ops:Array Oper} {Q:Exit→Act→World→Prop} {c:Ctx} {hs:List HP} {env:Env} {q:VP} {dst:Option Tmp} {ty T T':TypeId} {pos:String} {after:Array Edge} {gd:Option (Nat×Bool)} {x y z:Operand}
theorem wW {f:FuncId} {cs:List VP} {ys:List Operand} (h2:ko env ys cs):bg P hs env ⟨dst, .makeFunc (.func f) #[] ys.toArray,ty,pos,after,gd⟩ (Cb f cs):=by
 intro a w S F _ _ _ _ he K Q hk
 unfold Oper.wp
 exact hk _ w S (eB.refl _ _) ⟨_,by simp,h2 S w a he⟩
theorem bZ.yld {lst:List Oper} {l d:Nat} {ys:List Operand} {ats:Array TypeId} {ps:List VP} {hs0 oP rest:List HP} (hY:K6 P l ps hs0 oP) (hx:bp env x (yV l)) (hys:ko env ys ps) (hp:hs.Perm (hs0++rest)) (hd:Nat.blt d c.n=true)
    (k:bZ P ops Q c lst (oP++rest) ((d,ak True)::env)):bZ P ops Q c (⟨some d, .call ⟨.value x,ys.toArray,ats⟩,ty,pos,after,none⟩::lst) hs env:=by
  intro a w hst
  obtain ⟨h1,h2,S,F,h3,h4,h5⟩:=hst
  obtain ⟨F1,F2,qw,vC,P4,OU⟩:=cL.append.1 (h4.perm hp)
  have P5:∀k,F1 k→k<w.heap.size:=fun k hk=>h3.cc k (qw k hk).1
  have hSF:∀k,S k→¬F1 k:=fun k hk hf=>h3.di k hk (qw k hf).1
  obtain ⟨fn,tmps,assign,body,Qk,hrd⟩:=hY w S F1 _ h3.bM P5 hSF P4 (hys S w a h5)
  have hv:=hx S w a h5;simp only [af] at hv
  refine wpListIn_plain rfl fun K hK=>⟨fun _ _=>trivial, ?_⟩
  rw [Oper.semAt_eq _ _ _ (fun _ e=>by cases e)]
  have hr:(execOp a.eval ⟨some d, .call ⟨.value x,ys.toArray,ats⟩,ty,pos,after,none⟩).run P w= .ok (.round l fn tmps assign body) w:=by
    simp [execOp,resolve,Deferred.ofValue,invoke,hv] at Qk ⊢
    exact Qk
  rw [hr]
  refine ⟨fun h=>(by cases h),RoundIn.mono (F:=WF c.ro) hrd ?_⟩
  rintro e w' ⟨rfl,S',F1',hs',ho'⟩
  obtain ⟨k1,k2,k3,k4⟩:=h3.over qw vC OU hs' ho'
  refine hK _ _ (k _ _ ⟨?_, ?_,S',_,k1,k4, ?_⟩)
  · rw [Act.dm];exact h1
  · rw [Act.fQ];exact h2
  · exact (h5.mono k2 k3).put ⟨true,rfl,by simp⟩ (by rw [h2];simpa using hd)
def Ql (P:Program) (l:Nat) (c:Ctx) (hs':List HP):Exit→Act→World→Prop:=roundPost P l (SP c hs')
def Qm (P:Program) (l:Nat) (c:Ctx) (hs':List HP) (body:Code):Exit→Act→World→Prop:=Exit.then (fun a w=>∃w₂,(Instr.beginRound l).run P w= .ok () w₂∧body.wpIn (WF (some l)) 0 P (Ql P l c hs') a w₂) (fun _ _ _=>False)
theorem ju.Qn {c:Ctx} {w:World} {S F:BS} {h0 h1:HP} (aC:ju c w S F) (hown:cL (h0::hs) F S w) {m:Nat} {o:Obj} (hF:∀F1,h0.p F1 S w→F1 m) (hp:∀F1,(∀k,S k→(w.putObj m o).heap[k]?=w.heap[k]?)→h0.p F1 S w→h1.p F1 S (w.putObj m o)):ju c (w.putObj m o) S F∧cL (h1::hs) F S (w.putObj m o)∧(∀k,S k→(w.putObj m o).heap[k]?=w.heap[k]?):=by
 obtain ⟨F1,F2,f1,f2,f3,f4⟩:=hown
 have hFm:=hF F1 f3
 have hne:∀k,k≠m→(w.putObj m o).heap[k]?=w.heap[k]?:=fun k hk=>World.putObj_heap_other hk
 have hag:∀k,S k→(w.putObj m o).heap[k]?=w.heap[k]?:=fun k hk=>hne k (fun e=>aC.di k hk (e▸(f1 m hFm).1))
 exact ⟨aC.write (f1 m hFm).1 rfl rfl rfl World.putObj_size hne,⟨F1,F2,f1,f2,hp F1 hag f3,f4.mono (fun _ h=>h) (fun _ h=>h) (fun k hk=>hne k (fun e=>(f1 m hFm).2 (e▸hk))) hag⟩,hag⟩
theorem lf.D9 {l D:Nat} {st st':LoopState} {r:wV} {e0:Env} {F1 S:BS} {w:World} (hag:∀k,S k→(w.putObj l (.loop (r.loop D st'))).heap[k]?=w.heap[k]?) (h:(lf l D st r e0).p F1 S w):(lf l D st' r e0).p F1 S (w.putObj l (.loop (r.loop D st'))):=by
 obtain ⟨⟨a,b,c⟩,h,k,he⟩:=h
 exact ⟨⟨a,b,c⟩,World.putObj_heap_same (Array.getElem?_eq_some_iff.1 h).1,(World.putObj_heap_other (fun e=>c e.symm)).trans k,he.mono (fun _ h=>h) hag⟩
theorem bR.begin {l D:Nat} {r:wV} {e0:Env} {hs':List HP} {body:Code} {c':Ctx} (h:aM P (Ql P l c' hs') c body (lf l D .busy r e0::hs) env) (hro:c.ro=some l:=by rfl):bR (Qm P l c' hs' body) .normal c (lf l D .ready r e0::hs) env:=by
 intro a w hst
 obtain ⟨h1,h2,S,F,h3,h4,h5⟩:=hst
 obtain ⟨F1,F2,f1,f2,f3,f4⟩:=id h4
 have hl:=f3.2.1
 obtain ⟨k1,k2,k3⟩:=h3.Qn (h1:=lf l D .busy r e0) (m:=l) (o:= .loop (r.loop D .busy)) h4 (fun F1 h=>h.1.1) (fun F1 hag h=>lf.D9 hag h)
 refine ⟨_,run_beginRound hl rfl, ?_⟩
 have:=h a _ ⟨h1,h2,S,F,k1,k2,h5.mono (fun _ h=>h) k3⟩
 rw [hro] at this;exact this
theorem bR.endRound {l D:Nat} {r:wV} {e0:Env} {hs':List HP} {c':Ctx} (hc:c'.w0=c.w0∧c'.S0=c.S0∧c'.M=c.M:=by exact ⟨rfl,rfl,rfl⟩):bR (Ql P l c' (lf l D .ready r e0::hs')) .normal c (lf l D .busy r e0::hs') env:=by
 intro a w hst
 obtain ⟨h1,h2,S,F,h3,h4,h5⟩:=hst
 obtain ⟨F1,F2,f1,f2,f3,f4⟩:=id h4
 have hl:=f3.2.1
 obtain ⟨k1,k2,k3⟩:=h3.Qn (h1:=lf l D .ready r e0) (m:=l) (o:= .loop (r.loop D .ready)) h4 (fun F1 h=>h.1.1) (fun F1 hag h=>lf.D9 hag h)
 refine ⟨_,_,run_endRound none hl,rfl,S,F, ?_,k2⟩
 obtain ⟨e1,e2,e3⟩:=hc
 rw [e1,e2,e3]
 exact ⟨k1.os,k1.tape,k1.output,k1.size,k1.kept,k1.di,k1.bM,k1.cc,k1.own,k1.shr,k1.base⟩
def argsAt:List Tmp→List VP→Env
 |t::ts,p::ps=>(t,p)::argsAt ts ps
 |_,_=>[]
theorem y9 {S:BS} {w:World} {env:Env}:∀(ts:List Tmp) (ps:List VP) (vs:List Value) (tmps:Array Value),ts.length=ps.length→gO ps S w vs→cy env S w tmps→(∀t∈ts,t<tmps.size)→ts.Nodup→
    cy (argsAt ts ps++env) S w ((ts.zip vs).foldl (fun tmps (p:Tmp×Value)=>tmps.setIfInBounds p.1 p.2) tmps)
  | [],ps,vs,tmps,hl,hv,he,_,_=>by
    cases ps with
    |nil=>cases vs<;>exact he
    |cons p ps=>simp at hl
  | t ::ts,ps,vs,tmps,hl,hv,he,ht,hn=>by
    cases ps with
    |nil=>simp at hl
    | cons p ps =>
      cases vs with
      |nil=>have:=hv.1;simp at this
      | cons v vs=>
        rw [List.nodup_cons] at hn
        have h0:p.p S w v:=hv.2 0 p v rfl rfl
        have qP:gO ps S w vs:=⟨by have:=hv.1;simpa using this,fun j q u hq hu=>hv.2 (j+1) q u (by simpa using hq) (by simpa using hu)⟩
        have he':cy ((t,p)::env) S w (tmps.setIfInBounds t v):=cy.put (a:={tmps:=tmps,defers:=[]}) he h0 (ht t (List.mem_cons_self ..))
        have ih:=y9 ts ps vs (tmps.setIfInBounds t v) (by simpa using hl) qP he' (fun u hu=>by simp;exact ht u (List.mem_cons_of_mem _ hu)) hn.2
        intro u q hq
        refine ih u q ?_
        have key:∀(ts:List Tmp) (ps:List VP),t∉ts→look ((t,p)::(argsAt ts ps++env)) u=some q→look (argsAt ts ps++(t,p)::env) u=some q:=by
          intro ts
          induction ts with
          |nil=>intro ps _ h;cases ps<;>exact h
          | cons s ts ih2=>
            intro ps hs h
            cases ps with
            |nil=>exact h
            | cons p2 ps=>
              simp only [argsAt,List.cons_append,bx] at h ⊢
              by_cases e:s=u
              · rw [if_pos e] at h ⊢
                rw [if_neg (fun e2:t=u=>hs (by rw [e2,←e];exact List.mem_cons_self ..))] at h;exact h
              · rw [if_neg e] at h ⊢
                exact ih2 ps (fun hm=>hs (List.mem_cons_of_mem _ hm)) (by rw [bx];exact h)
        exact key ts ps hn.1 hq
theorem Ab {l D:Nat} {r:wV} {e0:Env} {n:Nat} {arg:List VP} {hs hs':List HP} (hlen:r.ps.toList.length=arg.length) (hsz:r.tmps.size=n) (hlt:∀t∈r.ps.toList,t<n) (hnd:r.ps.toList.Nodup)
    (hround:∀(w0:World) (S0 M:BS),aM P (Qm P l ⟨w0,S0,M,n,some l,[]⟩ (lf l D .ready r e0::hs') r.body) ⟨w0,S0,M,n,some l,[]⟩ r.assign (lf l D .ready r e0::hs) (argsAt r.ps.toList arg++e0)):K6 P l arg (lf l D .ready r e0::hs) (lf l D .ready r e0::hs'):=by
  intro w S F vs hS hF hSF hown hall
  obtain ⟨F1,F2,f1,f2,f3,f4⟩:=id hown
  have hl:=f3.2.1
  have hvl:vs.length=r.ps.size:=by rw [←hall.1,←hlen];simp
  refine ⟨r.fn,_,r.assign,r.body,run_yield hl (by simpa [wV.loop] using hvl), ?_⟩
  refine roundIn_of_wpIn (F:=WF none) trivial ?_
  refine hround w S F {tmps:=_,defers:=[]} w ⟨rfl, ?_,S,F,⟨rfl,rfl,rfl,Nat.le_refl _,fun _ _ _=>rfl,hSF,hS,hF,fun k hk=> .inl hk,fun k hk=> .inl hk,fun _ hk=>hk⟩,hown, ?_⟩
  · have J2:∀(l:List (Tmp×Value)) (tmps:Array Value),(l.foldl (fun tmps (p:Tmp×Value)=>tmps.setIfInBounds p.1 p.2) tmps).size=tmps.size:=by
      intro l
      induction l with
      |nil=>intro _;rfl
      |cons p l ih=>intro tmps;rw [List.foldl_cons,ih];simp
    show ((r.ps.zip vs.toArray).foldl (fun tmps (p:Tmp×Value)=>tmps.setIfInBounds p.1 p.2) r.tmps).size=n
    rw [←Array.foldl_toList]
    exact (J2 _ _).trans hsz
  · have:=y9 (env:=e0) r.ps.toList arg vs r.tmps hlen hall f3.2.2.2 (fun t ht=>by rw [hsz];exact hlt t ht) hnd
    show cy _ S w ((r.ps.zip vs.toArray).foldl (fun tmps (p:Tmp×Value)=>tmps.setIfInBounds p.1 p.2) r.tmps)
    rw [←Array.foldl_toList]
    have e:(r.ps.zip vs.toArray).toList=r.ps.toList.zip vs:=by simp
    rw [e];exact this
end
def wX (P:Program) (fn:Func) (c:Ctx) {γ:Type} (φ:γ→Prop) (hs':γ→List HP) (q:γ→VP):Exit→Act→World→Prop:=
 bodyPostM (WF none) 0 P fn fun e w'=>∃v S' F' g,e= .returned v∧ju ⟨c.w0,c.S0,c.M,0,none,[]⟩ w' S' F'∧φ g∧cL (hs' g) F' S' w'∧(q g).p S' w' v
theorem cH.Qo {P:Program} {f:FuncId} {fn:Func} {x:Code} {ps:List VP} {hs:List HP} {γ:Type} {φ:γ→Prop} {hs':γ→List HP} {q:γ→VP}
    (n:Nat) (hf:P.funcs[f]?=some fn) (hb:fn.body=some x) (hnt:fn.ntmps=n) (hn:Nat.ble ps.length n=true)
    (h:∀(w0:World) (S0 M:BS),aM P (wX P fn ⟨w0,S0,M,n,none,[]⟩ φ hs' q) ⟨w0,S0,M,n,none,[]⟩ x hs (args ps)):cH P f ps hs φ hs' q:=by
  intro w S F vs hS hF hSF hown hall
  have hlen:ps.length=vs.size:=by simpa using hall.1
  have hn':ps.length≤n:=by simpa using hn
  refine callsIn_wide.1 (callsIn_of_wp_marks (F:=WF none) (n:=0) hf hb trivial (h w S F _ _ ⟨rfl, ?_,S,F, ?_,hown, ?_⟩))
  · simp;omega
  · exact ⟨rfl,rfl,rfl,Nat.le_refl _,fun _ _ _=>rfl,hSF,hS,hF,fun k hk=> .inl hk,fun k hk=> .inl hk,fun _ hk=>hk⟩
  · intro t q' hl
    obtain ⟨j,hj,hq⟩:=nr ps 0 t q' hl
    have tD:t=j:=by omega
    subst tD
    have hjl:t<ps.length:=(List.getElem?_eq_some_iff.1 hq).1
    have Kf:t<vs.size:=by omega
    have:(vs++Array.replicate (fn.ntmps-vs.size) undef).getD t undef=vs[t]:=by simp [Array.getElem?_append,Kf]
    rw [this]
    exact hall.2 t q' _ hq (by simp [Kf])
section
variable {P:Program} {Q:Exit→Act→World→Prop} {c:Ctx} {hs:List HP} {env:Env}
abbrev uS (D:Nat):List Deferred:=[{target:= .collected D,args:= #[]}]
theorem wX.leave {fn:Func} {c0:Ctx} {γ:Type} {φ:γ→Prop} {hs':γ→List HP} {q:γ→VP} {D:Nat} (hdf:c.df=uS D) (hc:c0.w0=c.w0∧c0.S0=c.S0∧c0.M=c.M) (g:γ) (hφ:φ g) (hh:∀F S w,cL hs F S w→cL (hs' g) F S w)
    (hres:∀F S w (tmps:Array Value),cL hs F S w→cy env S w tmps→∃v,(results fn tmps).run P w= .ok v w∧(q g).p S w v):bR (wX P fn c0 φ hs' q) .ret c (GQ D::hs) env:=by
  intro a w hst
  obtain ⟨h1,h2,S,F,h3,h4,h5⟩:=hst
  obtain ⟨F1,F2,f1,f2,f3,f4⟩:=id h4
  obtain ⟨hFD,hD⟩:=f3
  have hne:∀k,k≠D→(w.putObj D (.deferred none)).heap[k]?=w.heap[k]?:=fun k hk=>World.putObj_heap_other hk
  have hag:∀k,S k→(w.putObj D (.deferred none)).heap[k]?=w.heap[k]?:=fun k hk=>hne k (fun e=>h3.di k hk (e▸(f1 D hFD).1))
  have k1:ju c (w.putObj D (.deferred none)) S F:=h3.write (f1 D hFD).1 rfl rfl rfl World.putObj_size hne
  have k2:cL hs F S (w.putObj D (.deferred none)):=f4.mono f2 (fun _ h=>h) (fun k hk=>hne k (fun e=>(f1 D hFD).2 (e▸hk))) hag
  obtain ⟨v,hv,hq⟩:=hres _ _ _ a.tmps k2 (h5.mono (fun _ h=>h) hag)
  obtain ⟨e1,e2,e3⟩:=hc
  show LeavesInM (WF none) 0 P fn a.tmps _ a.defers .returning w
  rw [h1,hdf]
  refine ⟨fun e=>(by cases e), .inl ⟨D,_,rfl,run_takeDeferred hD,v,hv,v,S,F,g,rfl, ?_,hφ,hh _ _ _ k2,hq⟩⟩
  rw [e1,e2,e3]
  exact ⟨k1.os,k1.tape,k1.output,k1.size,k1.kept,k1.di,k1.bM,k1.cc,k1.own,k1.shr,k1.base⟩
theorem wX.aN {fn:Func} {c0:Ctx} {γ:Type} {φ:γ→Prop} {hs':γ→List HP} {q:γ→VP} {r:ResultVar} {q0:VP} {D:Nat} (hr:fn.results= #[r]) (g:γ) (hφ:φ g) (hh:∀F S w,cL hs F S w→cL (hs' g) F S w) (h:OQ P hs env r q0) (hq:aa q0 (q g))
    (hdf:c.df=uS D:=by rfl) (hc:c0.w0=c.w0∧c0.S0=c.S0∧c0.M=c.M:=by exact ⟨rfl,rfl,rfl⟩):bR (wX P fn c0 φ hs' q) .ret c (GQ D::hs) env:=
  wX.leave hdf hc g hφ hh fun F S w tmps ho he=>by
    obtain ⟨vs,e1,e2⟩:=pH (P:=P) hr (v9.cons h hq v9.nil) ho he
    match vs,e2 with
    |[v],e2=>exact ⟨v,e1,e2.2 0 _ v rfl rfl⟩
theorem aM.Qp {g:Operand} {ps:Array Tmp} {assign body:Code} {f:FuncId} {psb:List VP} {qi:VP} (N:Nat) (J:Nat→List HP) (arg:Nat→List VP) (hro:c.ro=none) (hdf:c.df=[]) (hh:hs=J 0)
    (hcb:lu P f=true) (hg:bp env g (Cb f psb)) (hps:(ps.toList.all fun t=>Nat.blt t c.n)=true) (hnd:ps.toList.Nodup) (hlen:∀j,j<N→(arg j).length=ps.toList.length)
    (hit:∀(l D:Nat) (r:wV),(∀j,j<N→K6 P l (arg j) (lf l D .ready r env::J j) (lf l D .ready r env::J (j+1)))→cH P f (yV l::psb) (lf l D .ready r env::J 0) (γ:=Unit) (fun _=>True) (fun _=>lf l D .ready r env::J N) (fun _=>qi))
    (hround:∀(l D:Nat) (fn:FuncId) (tmps:Array Value) (j:Nat),j<N→∀(w0:World) (S0 M:BS),aM P (Qm P l ⟨w0,S0,M,c.n,some l,[]⟩ (lf l D .ready ⟨fn,tmps,ps,assign,body⟩ env::J (j+1)) body) ⟨w0,S0,M,c.n,some l,[]⟩ assign (lf l D .ready ⟨fn,tmps,ps,assign,body⟩ env::J j) (argsAt ps.toList (arg j)++env))
    (hend:∀D,bR Q .normal {c with df:=uS D} (GQ D::J N) env):aM P Q c (.rangeFunc g ps assign body) hs env:=by
  intro a w hst
  obtain ⟨h1,h2,S,F,h3,h4,h5⟩:=hst
  subst hh
  obtain ⟨lb,hv,hlb⟩:=hg S w a h5
  rw [show WF c.ro=WF none by rw [hro]]
  refine wpIn_rangeFunc fun fn _=> ?_
  let r:wV:=⟨fn,a.tmps,ps,assign,body⟩
  let D:=w.heap.size
  let l:=w.heap.size+1
  let w1:World:=(w.alloc (.deferred (some []))).alloc (.loop (r.loop D .ready))
  have s1:ju c w1 S (fun k=>k=l∨(k=D∨F k)):=by
    have:=(h3.fq (.deferred (some []))).fq (.loop (r.loop D .ready))
    have e:({w with heap:=w.heap.push (.deferred (some []))}:World).heap.size=l:=by simp [l]
    rw [e] at this;exact this
  have hold:∀k,k<w.heap.size→w1.heap[k]?=w.heap[k]?:=fun k hk=>by
    show ((w.heap.push _).push _)[k]?=_
    rw [Array.getElem?_push_lt (by simp;omega)]
    simp [Array.getElem_push_lt hk,hk]
  have hagS:∀k,S k→w1.heap[k]?=w.heap[k]?:=fun k hk=>hold k (h3.bM k hk)
  have o1:cL (lf l D .ready r env::J 0) (fun k=>k=l∨(k=D∨F k)) S w1:=by
    refine ⟨fun k=>k=l∨k=D,F,fun k hk=>⟨hk.elim .inl fun e=> .inr (.inl e),fun hf=> ?_⟩,fun k hk=> .inr (.inr hk),⟨⟨.inl rfl, .inr rfl,by simp [l,D]⟩, ?_, ?_,h5.mono (fun _ h=>h) hagS⟩,h4.mono (fun _ h=>h) (fun _ h=>h) (fun k hk=>hold k (h3.cc k hk)) hagS⟩
    · have:=h3.cc k hf
      rcases hk with e|e<;>(simp only [l,D] at e;omega)
    · show ((w.heap.push _).push _)[w.heap.size+1]?=_
      have:w.heap.size+1=(w.heap.push (Obj.deferred (some []))).size:=by simp
      rw [this,Array.getElem?_push_size]
    · show ((w.heap.push _).push _)[w.heap.size]?=_
      rw [Array.getElem?_push_lt (by simp)]
      simp
  have hy:∀j,j<N→K6 P l (arg j) (lf l D .ready r env::J j) (lf l D .ready r env::J (j+1)):=fun j hj=>
    Ab (n:=c.n) (hlen j hj).symm h2 (fun t ht=>by simpa using List.all_eq_true.1 hps t ht) hnd fun w0 S0 M=>hround l D fn a.tmps j hj w0 S0 M
  have hcall:=hit l D r hy w1 S _ (#[.func (.yield l) #[] #[]]++lb.toArray) s1.bM s1.cc s1.di o1 (by
    have:gO (yV l::psb) S w1 (.func (.yield l) #[] #[]::lb):=⟨by simp [hlb.1],fun j p v hj qP=>by
      cases j with
      |zero=>simp at hj qP;subst hj;subst qP;rfl
      |succ j=>exact (hlb.mono (fun _ h=>h) hagS).2 j p v (by simpa using hj) (by simpa using qP)⟩
    simpa using this)
  have hent:(Instr.enterLoop fn a.tmps ps assign body none).run P w= .ok (l,uS D) w1:=run_enterLoop_outer fn a.tmps ps assign body
  have hres:(resolve a.eval (rangeCall g l) 0).run P w1= .ok {target:= .fn (.func f) lb.toArray,args:= #[.func (.yield l) #[] #[]]} w1:=by
    have e:a.eval (.const (.func (.yield l) #[] #[]))= .func (.yield l) #[] #[]:=rfl
    simp [resolve,rangeCall,hv,Deferred.ofValue,e]
  have hinv:(invoke (.fn (.func f) lb.toArray) #[.func (.yield l) #[] #[]]).run P w1= .ok (.enter f (#[.func (.yield l) #[] #[]]++lb.toArray)) w1:=by
    have:=iy hcb (#[.func (.yield l) #[] #[]]++lb.toArray) w1
    simp [invoke] at this ⊢
    exact this
  have o6:CallsIn (WF none) (0-1) P f (#[.func (.yield l) #[] #[]]++lb.toArray) w1 (rangePost (WF none) 0 P l Q {a with defers:=uS D++a.defers}):=by
    refine CallsIn.mono (Bs hcall) ?_
    rintro e w' ⟨v,S',F',_,rfl,hs',_,ho',_⟩
    obtain ⟨k1,k2,k3,k4⟩:=s1.over (rest:=[]) (F2:=fun _=>False) (fun k hk=>⟨hk,id⟩) (fun k hk=>hk.elim) trivial hs' ho'
    rw [List.append_nil] at k4
    obtain ⟨G1,G2,g1,g2,g3,g4⟩:=id k4
    have hl:=g3.2.1
    obtain ⟨m1,m2,m3⟩:=k1.Qn (h1:=GQ D) (m:=l) (o:= .loop {r.loop D .ready with state:= .exhausted}) k4 (fun F1 h=>h.1.1) (fun F1 hag h=>⟨h.1.2.1,(World.putObj_heap_other (fun e=>h.1.2.2 e.symm)).trans h.2.2.1⟩)
    refine ⟨none,_,run_endLoop hl (by simp [wV.loop]), ?_⟩
    refine hend D _ _ ⟨?_,h2,S',_,⟨m1.os,m1.tape,m1.output,m1.size,m1.kept,m1.di,m1.bM,m1.cc,m1.own,m1.shr,m1.base⟩,m2,(h5.mono k2 (fun k hk=>(k3 k hk).trans (hagS k hk))).mono (fun _ h=>h) m3⟩
    show uS D++a.defers=uS D
    rw [h1,hdf];rfl
  exact ⟨l,uS D,w1,_,w1,f,_,w1,hent,hres,fun _ _=>trivial,hinv,fun h=>(by cases h),o6⟩
end
theorem bR.share {hs:List HP} {env:Env} {Q:Exit→Act→World→Prop} {c:Ctx} {e0:Exit} {i b off t:Nat} {cs:List VP} (hi:hs[i]?=some (aF b cs)) (ht:look env t=some (aJ b off)) (h:bR Q e0 c (hs.eraseIdx i) ((t,cg (cs.drop off))::env)):bR Q e0 c hs env:=by
 intro a w ⟨h1,h2,S,F,h3,h4,h5⟩
 obtain ⟨F1,F2,f1,f2,f3,f5,_⟩:=h4.vv hi
 have hb:=f1 b f3.1
 have hS:∀k,S k→S k∨k=b:=fun _ h=> .inl h
 have hc:bU (fun k=>S k∨k=b) w b 0 cs:=fun j q hj=>let ⟨v,hv,hq⟩:=jQ f3 j q hj;⟨v,hv,q.mono hS (fun _ _=>rfl) hq⟩
 refine h a w ⟨h1,h2,fun k=>S k∨k=b,F2,⟨h3.os,h3.tape,h3.output,h3.size,h3.kept, ?_, ?_,fun k hk=>h3.cc k (f2 k hk),fun k hk=>h3.own k (f2 k hk), ?_,fun k hk=> .inl (h3.base k hk)⟩,
  f5.mono (fun _ h=>h) hS (fun _ _=>rfl) (fun _ _=>rfl),fun s q hl=> ?_⟩
 · exact fun k hk hf=>hk.elim (fun h=>h3.di k h (f2 k hf)) (fun e=>hb.2 (e▸hf))
 · exact fun k hk=>hk.elim (h3.bM k) (fun e=>h3.cc k (e▸hb.1))
 · exact fun k hk=>hk.elim (h3.shr k) (fun e=>by
    rcases h3.own b hb.1 with h|h
    · exact .inr (.inl (e▸h))
    · exact .inr (.inr (e▸h)))
 · rw [bx] at hl
   by_cases e:t=s
   · rw [if_pos e] at hl;cases hl;subst e
     have hv:=h5 t _ ht;simp only [af] at hv
     refine ⟨b,off,hv, .inr rfl, ?_⟩
     have:=hc.drop off;simpa using this
   · rw [if_neg e] at hl
     exact q.mono hS (fun _ _=>rfl) (h5 s q hl)
structure J8 where
 num:Int
 pages:Nat
 most:Nat
 high:Nat
 wide:Prop
abbrev Qq (pb:Nat) (M:J8):List VP:=[aJ pb 0,bf M.num,bf (M.pages:Int),bf (M.most:Int),bf (M.high:Int),ak M.wide]
abbrev eY (mb pb:Nat) (M:J8):HP:=aF mb (Qq pb M)
structure Qr (M:J8):Prop where
 num:0≤M.num
 pages:M.pages≤M.most
 high:M.high≤M.most
 most:M.most≤65536
def mQ (pages a n:Nat):Prop:=pages*65536<a+n
instance (p a n:Nat):Decidable (mQ p a n):=inferInstanceAs (Decidable (_<_))
def dg (pages a o:Nat) (n:Int):Nat×Nat×Nat:=
 if n<0 then (0,0,1) else if 1048576<n then (0,0,15) else if mQ pages (a+o) n.toNat then (0,4,0) else (a+o,0,0)
theorem qA (a o:Nat) (ha:a<18446744073709551616) (ho:o<18446744073709551616):(a+o<18446744073709551616∧IntKind.u64.wrap ((a:Int)+(o:Int))=((a+o:Nat):Int))∨(18446744073709551616≤a+o∧IntKind.u64.wrap ((a:Int)+(o:Int))=((a+o-18446744073709551616:Nat):Int)):=by
 by_cases h:a+o<18446744073709551616
 · exact .inl ⟨h,by rw [eM (pz (by omega) (by omega))];omega⟩
 · refine .inr ⟨by omega, ?_⟩
   have e:IntKind.u64.wrap ((a:Int)+(o:Int))=((a:Int)+(o:Int))%18446744073709551616:=rfl
   rw [e];omega
theorem Io {pages a o:Nat} {n:Int} (h:dg pages a o n=(a+o,0,0)∨(dg pages a o n).2=(0,0)):0≤n∧n≤1048576∧a+o+n.toNat≤pages*65536∧(dg pages a o n).1=a+o:=by
 unfold dg at*
 by_cases h1:n<0
 · rw [if_pos h1] at h;simp at h
 · rw [if_neg h1] at h ⊢
   by_cases h2:1048576<n
   · rw [if_pos h2] at h;simp at h
   · rw [if_neg h2] at h ⊢
     by_cases h3:mQ pages (a+o) n.toNat
     · rw [if_pos h3] at h;simp at h
     · rw [if_neg h3];unfold mQ at h3;exact ⟨by omega,by omega,by omega,rfl⟩
end Go.Hl
end
section
namespace Go.Hl
def jf (n:Int):List VP:=[ag .i64 n]
def jg (n:Int):List VP:=[ag .u64 n]
structure mD where
 P:List UInt8
 R:List UInt8
def cj (s:mD):List VP:=[ah 1 aj s.P,ah 1 aj s.R]
structure gA where
 Module:List UInt8
 Name:List UInt8
 fV:Int
def jl (x:gA):List VP:=[cM x.Module,cM x.Name,ag .i64 x.fV]
structure au where
 Code:Int
 A:Int
 B:Int
 cR:Int
 L:List Int
def aG (x:au):List VP:=[ag .i64 x.Code,ag .u64 x.A,ag .u64 x.B,ag .i64 x.cR,ah 1 jg x.L]
structure jm where
 aS:List UInt8
 L:List au
def gB (x:jm):List VP:=[ah 1 aj x.aS,ah 5 aG x.L]
structure cK where
 fV:Int
 Body:jm
def iD (x:cK):List VP:=[ag .i64 x.fV,ah 1 aj x.Body.aS,ah 5 aG x.Body.L]
structure dY where
 Min:Int
 Max:Int
 bE:Prop
def ew (x:dY):List VP:=[ag .i64 x.Min,ag .i64 x.Max,ak x.bE]
structure iS where
 Ty:UInt8
 eI:Prop
 Value:Int
def dZ (x:iS):List VP:=[ag .u8 (x.Ty.toNat:Int),ak x.eI,ag .u64 x.Value]
structure dJ where
 Name:List UInt8
 Kind:Int
 Index:Int
def dK (x:dJ):List VP:=[cM x.Name,ag .i64 x.Kind,ag .i64 x.Index]
structure iN where
 At:Int
 ax:List Int
def iT (x:iN):List VP:=[ag .u64 x.At,ah 1 jf x.ax]
structure jO where
 Mem:Int
 At:Int
 Bytes:List UInt8
def j9 (x:jO):List VP:=[ag .i64 x.Mem,ag .u64 x.At,ah 1 aj x.Bytes]
structure aU where
 bF:List mD
 aA:List gA
 ax:List cK
 Table:Int
 bI:List dY
 ay:List iS
 bD:List dJ
 Start:Int
 bY:List iN
 bK:List jO
def bh (m:aU):List VP:=[ah 2 cj m.bF,ah 3 jl m.aA,ah 3 iD m.ax,ag .i64 m.Table,ah 3 ew m.bI,ah 3 dZ m.ay,ah 3 dK m.bD,ag .i64 m.Start,ah 2 iT m.bY,ah 3 j9 m.bK]
instance:gN 1 jf:=⟨fun _=>rfl,fun x q h=>by simp only [jf,List.mem_cons,List.not_mem_nil,or_false] at h;rw [h];infer_instance⟩
instance:gN 1 jg:=⟨fun _=>rfl,fun x q h=>by simp only [jg,List.mem_cons,List.not_mem_nil,or_false] at h;rw [h];infer_instance⟩
instance:gN 2 cj:=⟨fun _=>rfl,fun x q h=>by simp only [cj,List.mem_cons,List.not_mem_nil,or_false] at h;rcases h with h|h<;>rw [h]<;>infer_instance⟩
instance:gN 3 jl:=⟨fun _=>rfl,fun x q h=>by simp only [jl,List.mem_cons,List.not_mem_nil,or_false] at h;rcases h with h|h|h<;>rw [h]<;>infer_instance⟩
instance:gN 5 aG:=⟨fun _=>rfl,fun x q h=>by simp only [aG,List.mem_cons,List.not_mem_nil,or_false] at h;rcases h with h|h|h|h|h<;>rw [h]<;>infer_instance⟩
instance:gN 2 gB:=⟨fun _=>rfl,fun x q h=>by simp only [gB,List.mem_cons,List.not_mem_nil,or_false] at h;rcases h with h|h<;>rw [h]<;>infer_instance⟩
instance:gN 3 iD:=⟨fun _=>rfl,fun x q h=>by simp only [iD,List.mem_cons,List.not_mem_nil,or_false] at h;rcases h with h|h|h<;>rw [h]<;>infer_instance⟩
instance:gN 3 ew:=⟨fun _=>rfl,fun x q h=>by simp only [ew,List.mem_cons,List.not_mem_nil,or_false] at h;rcases h with h|h|h<;>rw [h]<;>infer_instance⟩
instance:gN 3 dZ:=⟨fun _=>rfl,fun x q h=>by simp only [dZ,List.mem_cons,List.not_mem_nil,or_false] at h;rcases h with h|h|h<;>rw [h]<;>infer_instance⟩
instance:gN 3 dK:=⟨fun _=>rfl,fun x q h=>by simp only [dK,List.mem_cons,List.not_mem_nil,or_false] at h;rcases h with h|h|h<;>rw [h]<;>infer_instance⟩
instance:gN 2 iT:=⟨fun _=>rfl,fun x q h=>by simp only [iT,List.mem_cons,List.not_mem_nil,or_false] at h;rcases h with h|h<;>rw [h]<;>infer_instance⟩
instance:gN 3 j9:=⟨fun _=>rfl,fun x q h=>by simp only [j9,List.mem_cons,List.not_mem_nil,or_false] at h;rcases h with h|h|h<;>rw [h]<;>infer_instance⟩
theorem bC.of {α:Type} {n:Nat} {enc:α→List VP} [h:gN n enc] (x:α):bC (enc x):=⟨fun q hq=>h.flat x q hq⟩
instance (x:mD):bC (cj x):=bC.of x
instance (x:gA):bC (jl x):=bC.of x
instance (x:au):bC (aG x):=bC.of x
instance (x:jm):bC (gB x):=bC.of x
instance (x:cK):bC (iD x):=bC.of x
instance (x:dY):bC (ew x):=bC.of x
instance (x:iS):bC (dZ x):=bC.of x
instance (x:dJ):bC (dK x):=bC.of x
instance (x:iN):bC (iT x):=bC.of x
instance (x:jO):bC (j9 x):=bC.of x
def jC (l:List UInt8):Prop:=l.length≤20∧∀b∈l,b=126∨b=127
def gZ (l:List UInt8):Prop:=(∀b∈l,33≤b.toNat∧b.toNat≤126)∧l≠[]∧l.length≤30
def iU (n many:Int):Prop:=0≤n∧n<many
def Ac (l:dY) (most:Int):Prop:=0≤l.Min∧l.Min≤most∧(l.Max<0∨l.Min≤l.Max∧l.Max≤most)
end Go.Hl
namespace Go.Hl
def mR (n:Nat) (most:Int) (g:Nat→Int):Int:=if most<(n:Int) then 15 else fK g n
theorem bB {n:Nat} {most:Int} {g:Nat→Int}:mR n most g=0↔(n:Int)≤most∧fK g n=0:=by
 unfold mR;split
 · constructor
   · intro h;cases h
   · rintro ⟨h,_⟩;omega
 · constructor
   · intro h;exact ⟨by omega,h⟩
   · exact fun h=>h.2
def cw (m:aU):Int:=(m.aA.length:Int)+(m.ax.length:Int)
def Ad (s:mD):Prop:=jC s.P∧jC s.R
noncomputable def Ip (s:mD):Int:=jk (¬Ad s) 5
noncomputable def za (m:aU):Int:=mR m.bF.length 50 (mP m.bF Ip)
open Classical in
noncomputable def fl (m:aU) (x:gA):Int:=if ¬gZ x.Module∨¬gZ x.Name then 16 else jk (¬iU x.fV m.bF.length) 2
noncomputable def nG (m:aU):Int:=mR m.aA.length 20 (mP m.aA (fl m))
noncomputable def pT (m:aU) (x:cK):Int:=jk (¬iU x.fV m.bF.length) 2
noncomputable def jD (m:aU):Int:=if 100<cw m then 15 else fK (mP m.ax (pT m)) m.ax.length
noncomputable def l9 (m:aU):Int:=if m.Table< -1 then 2 else jk (1000<m.Table) 15
noncomputable def K7 (x:dY):Int:=jk (¬Ac x 65536) 5
noncomputable def zc (m:aU):Int:=mR m.bI.length 4 (mP m.bI K7)
def fH (t:UInt8):Int:=if (t.toNat:Int)=127 then 32 else if (t.toNat:Int)=126 then 64 else 0
theorem oh (b:UInt8):fH b=0↔¬(b=126∨b=127):=by
 unfold fH
 by_cases h1:(b.toNat:Int)=127
 · have e:b=127:=UInt8.toNat_inj.1 (by simp;omega)
   subst e;simp
 · by_cases h2:(b.toNat:Int)=126
   · have e:b=126:=UInt8.toNat_inj.1 (by simp;omega)
     subst e;simp
   · rw [if_neg h1,if_neg h2]
     simp only [true_iff]
     rintro (e|e)<;>subst e<;>simp at h1 h2
theorem Iq {l:List UInt8}:((l.length:Int)≤20∧¬∃x∈l,fH x=0)↔jC l:=by
 unfold jC
 simp only [not_exists,not_and,oh,Classical.not_not]
 constructor<;>(rintro ⟨h1,h2⟩;exact ⟨by omega,h2⟩)
noncomputable def qB (x:iS):Int:=jk (fH x.Ty=0∨(x.Ty.toNat:Int)=127∧4294967295<x.Value) 5
noncomputable def nH (m:aU):Int:=mR m.ay.length 50 (mP m.ay qB)
def cnt (m:aU):Nat→Int
 |0=>cw m
 |1=>min (IntKind.i64.wrap (m.Table+1)) 1
 |2=>(m.bI.length:Int)
 |_=>(m.ay.length:Int)
def mc (k:Int):Nat:=(max (min k 3) 0).toNat
def GR (m:aU) (x:dJ):Prop:=iU x.Kind 4∧iU x.Index (cnt m (mc x.Kind))
open Classical in
noncomputable def iW (m:aU) (i:Nat):Int:=match m.bD[i]? with
 |none=>0
 |some x=>if ¬gZ x.Name∨(∃y∈m.bD.take i,y.Name=x.Name) then 16 else jk (¬GR m x) 2
noncomputable def me (m:aU):Int:=mR m.bD.length 50 (iW m)
def eJ (m:aU) (f:Int):Option Int:=
 if f<0∨cw m≤f then none else if f<(m.aA.length:Int) then (m.aA[f.toNat]?).map (·.fV) else (m.ax[(f-(m.aA.length:Int)).toNat]?).map (·.fV)
def gM (m:aU) (f:Int):Option mD:=match eJ m f with
 |none=>none
 |some n=>if 0≤n then m.bF[n.toNat]? else none
noncomputable def iJ (m:aU):Int:=if m.Start= -1 then 0 else match gM m m.Start with
 |none=>2
 |some s=>jk (0<(s.P.length:Int)+(s.R.length:Int)) 5
open Classical in
noncomputable def qZ (m:aU) (x:iN):Int:=if 20<(x.ax.length:Int) then 15 else jk (m.Table= -1∨(∃f∈x.ax,¬iU f (cw m))∨4294967295<x.At) 2
noncomputable def ua (m:aU):Int:=mR m.bY.length 20 (mP m.bY (qZ m))
open Classical in
noncomputable def q6 (m:aU) (x:jO):Int:=if 4096<(x.Bytes.length:Int) then 15 else
 jk (¬iU x.Mem m.bI.length∨(∃y,m.bI[x.Mem.toNat]?=some y∧¬y.bE∧4294967295<x.At)) 2
noncomputable def uc (m:aU):Int:=mR m.bK.length 20 (mP m.bK (q6 m))
end Go.Hl
namespace Go.Hl
theorem kH {cs:List VP} {S:BS} {w:World} {v:Value} (h:(cg cs).p S w v) {α:Type} {n:Nat} {enc:α→List VP} {xs:List α} (j:Nat) (hj:cs[j]?=some (ah n enc xs)):xs.length≤281474976710656:=by
 obtain ⟨b,off,_,_,hc⟩:=h
 obtain ⟨u,_,hq⟩:=hc j _ hj
 exact bH hq
theorem fT {cs:List VP} {S:BS} {w:World} {v:Value} (h:(aE cs).p S w v) {α:Type} {n:Nat} {enc:α→List VP} {xs:List α} (j:Nat) (hj:cs[j]?=some (ah n enc xs)):xs.length≤281474976710656:=by
 obtain ⟨arr,_,_,hc⟩:=h
 obtain ⟨u,_,hq⟩:=hc j _ hj
 exact bH hq
theorem Ns {q:VP} {S:BS} {w:World} {v:Value} (h:(cg [q]).p S w v):∃u,q.p S w u:=by
 obtain ⟨b,off,_,_,hc⟩:=h
 obtain ⟨u,_,hq⟩:=hc 0 _ rfl
 exact ⟨u,hq⟩
structure sO (m:aU):Prop where
 sigs:m.bF.length≤281474976710656
 imports:m.aA.length≤281474976710656
 funcs:m.ax.length≤281474976710656
 dI:m.bI.length≤281474976710656
 globals:m.ay.length≤281474976710656
 aV:m.bD.length≤281474976710656
 elems:m.bY.length≤281474976710656
 bO:m.bK.length≤281474976710656
theorem gC {m:aU} {S:BS} {w:World} {v:Value} (h:(cg (bh m)).p S w v):sO m:=
 ⟨kH h 0 rfl,kH h 1 rfl,kH h 2 rfl,kH h 4 rfl,kH h 5 rfl,kH h 6 rfl,kH h 8 rfl,kH h 9 rfl⟩
theorem kI {m:aU} {S:BS} {w:World} {v:Value} (h:(cg [cg (bh m)]).p S w v):sO m:=let ⟨_,h⟩:=Ns h;gC h
theorem K8 {m:aU} {S:BS} {w:World} {v:Value} (h:(aE (bh m)).p S w v):sO m:=
 ⟨fT h 0 rfl,fT h 1 rfl,fT h 2 rfl,fT h 4 rfl,fT h 5 rfl,fT h 6 rfl,fT h 8 rfl,fT h 9 rfl⟩
end Go.Hl
namespace Go.Hl
theorem zd {l:List UInt8} {k:Nat} {x:UInt8} (hx:l[k]?=some x) (h:(x.toNat:Int)<33∨126<(x.toNat:Int)):gZ l↔False:=by
 constructor
 · intro hn;have:=hn.1 x (List.mem_of_getElem? hx);omega
 · exact False.elim
theorem Ir {l:List UInt8} (h:∀x∈l,¬((x.toNat:Int)<33∨126<(x.toNat:Int))):∀b∈l,33≤b.toNat∧b.toNat≤126:=fun b hb=>by have:=h b hb;omega
theorem ze {l:List UInt8} (h:∀x∈l,¬((x.toNat:Int)<33∨126<(x.toNat:Int))):(l≠[]∧(l.length:Int)≤30)↔gZ l:=by
 have:=Ir h
 unfold gZ
 constructor
 · rintro ⟨h1,h2⟩;exact ⟨this,h1,by omega⟩
 · rintro ⟨_,h1,h2⟩;exact ⟨h1,by omega⟩
theorem Ev {l:List UInt8} (h:∀x∈l,¬((x.toNat:Int)<33∨126<(x.toNat:Int))):(0<(l.length:Int)∧(l.length:Int)≤30)↔gZ l:=by
 rw [←ze h]
 have:0<(l.length:Int)↔l≠[]:=by
  rw [←List.length_pos_iff];omega
 rw [this]
theorem Is {l:List UInt8} {k:Nat} {x:UInt8} (hx:l[k]?=some x) (h:(x.toNat:Int)≠126∧(x.toNat:Int)≠127):jC l↔False:=by
 constructor
 · intro hn;rcases hn.2 x (List.mem_of_getElem? hx) with e|e<;>subst e<;>simp at h
 · exact False.elim
theorem Ew {l:List UInt8} (h:∀x∈l,¬((x.toNat:Int)≠126∧(x.toNat:Int)≠127)):(l.length:Int)≤20↔jC l:=by
 unfold jC
 constructor
 · intro h1
   refine ⟨by omega,fun b hb=> ?_⟩
   have:=h b hb
   by_cases e:(b.toNat:Int)=126
   · exact .inl (UInt8.toNat_inj.1 (by simp;omega))
   · exact .inr (UInt8.toNat_inj.1 (by simp;omega))
 · rintro ⟨h1,_⟩;omega
end Go.Hl
namespace Go.Hl
theorem pU {m:aU} {j:Nat} {x:gA} (hj:j<m.aA.length) (hx:m.aA[j]?=some x):eJ m (j:Int)=some x.fV:=by
 unfold eJ cw
 rw [if_neg (by omega),if_pos (by omega)]
 simp [hx]
theorem sP {m:aU} {j:Nat} {x:cK} (hx:m.ax[j]?=some x):eJ m ((m.aA.length:Int)+(j:Int))=some x.fV:=by
 have:=(List.getElem?_eq_some_iff.1 hx).1
 unfold eJ cw
 rw [if_neg (by omega),if_neg (by omega)]
 rw [show ((m.aA.length:Int)+(j:Int)-(m.aA.length:Int)).toNat=j by omega]
 simp [hx]
theorem zf {m:aU} {f:Int} (h:¬(eJ m f).isSome∨¬iU ((eJ m f).getD 0) m.bF.length):gM m f=none:=by
 unfold gM
 cases hn:eJ m f with
 |none=>rfl
 |some n=>
  rw [hn] at h
  simp only [Option.isSome_some,not_true,false_or,Option.getD_some] at h
  unfold iU at h
  simp only
  split
  · rw [List.getElem?_eq_none (by omega)]
  · rfl
theorem zg {m:aU} {f n:Int} {j:Nat} {x:mD} (hn:eJ m f=some n) (hj:n=(j:Int)) (hx:m.bF[j]?=some x):gM m f=some x:=by
 unfold gM
 rw [hn];subst hj;simp [hx]
theorem aa.Yw {a b c d:VP} (h1:aa a c) (h2:aa b d):aa (aE [a,b]) (aE [c,d]):=fun S w v ⟨arr,hv,hn,hc⟩=>⟨arr,hv,hn,fun j q hj=>by
 match j,hj with
 |0,hj=>simp at hj;subst hj;obtain ⟨u,hu,hq⟩:=hc 0 a rfl;exact ⟨u,hu,h1 _ _ _ hq⟩
 |1,hj=>simp at hj;subst hj;obtain ⟨u,hu,hq⟩:=hc 1 b rfl;exact ⟨u,hu,h2 _ _ _ hq⟩⟩
theorem Cc {m:aU} (h0:¬m.Start= -1) (h:¬(gM m m.Start).isSome):iJ m=2:=by
 unfold iJ
 rw [if_neg h0]
 cases hs:gM m m.Start with
 |none=>rfl
 |some s=>rw [hs] at h;simp at h
theorem Ce {m:aU} (h0:¬m.Start= -1) (h:¬¬(gM m m.Start).isSome):iJ m=jk (0<((((gM m m.Start).getD ⟨[],[]⟩).P.length:Int)+(((gM m m.Start).getD ⟨[],[]⟩).R.length:Int))) 5:=by
 unfold iJ
 rw [if_neg h0]
 cases hs:gM m m.Start with
 |none=>rw [hs] at h;simp at h
 |some s=>rfl
end Go.Hl
namespace Go.Hl
theorem Qs (m:aU) (j:Nat) (hj:j<4):[ag .i64 (cnt m 0),ag .i64 (cnt m 1),ag .i64 (cnt m 2),ag .i64 (cnt m 3)][j]?=some (ag .i64 (cnt m j)):=by
 match j,hj with
 |0,_=>rfl
 |1,_=>rfl
 |2,_=>rfl
 |3,_=>rfl
theorem Ae {m:aU} {i:Nat} {x:dJ} (hx:m.bD[i]?=some x) (h:¬gZ x.Name∨∃y∈m.bD.take i,y.Name=x.Name):iW m i=16:=by
 unfold iW;rw [hx];simp only;rw [if_pos h]
theorem sQ {m:aU} {i:Nat} {x:dJ} (hx:m.bD[i]?=some x) (h:¬(¬gZ x.Name∨∃y∈m.bD.take i,y.Name=x.Name)):iW m i=jk (¬iU x.Kind 4∨¬iU x.Index (cnt m (mc x.Kind))) 2:=by
 unfold iW;rw [hx];simp only;rw [if_neg h]
 congr 1;unfold GR;exact propext (by rw [Classical.not_and_iff_not_or_not])
theorem Ex {m:aU} {x:iN} (h:¬20<(x.ax.length:Int)):qZ m x=jk ((m.Table= -1∨∃f∈x.ax,¬iU f (cw m))∨4294967295<x.At) 2:=by
 unfold qZ;rw [if_neg h];congr 1;exact propext (by rw [or_assoc])
theorem Nt {x:jO} {n:Nat} (h:iU x.Mem n):max (min x.Mem ((n:Int)-1)) 0=(x.Mem.toNat:Int):=by
 obtain ⟨h1,h2⟩:=h;omega
end Go.Hl
namespace Go.Hl
def K9 (m:aU) (k:Nat):dY:=(m.bI[k]?).getD ⟨0,0,False⟩
theorem Cf {m:aU} {x:jO} (h:iU x.Mem m.bI.length):m.bI[x.Mem.toNat]?=some (K9 m x.Mem.toNat):=by
 obtain ⟨h1,h2⟩:=h
 obtain ⟨y,hy⟩:=ai (xs:=m.bI) (k:=x.Mem.toNat) (by omega)
 unfold K9;rw [hy];rfl
theorem Ey {m:aU} {x:jO} (h:¬4096<(x.Bytes.length:Int)):q6 m x=jk (¬iU x.Mem m.bI.length∨¬(K9 m x.Mem.toNat).bE∧4294967295<x.At) 2:=by
 unfold q6;rw [if_neg h];congr 1;apply propext
 by_cases hi:iU x.Mem m.bI.length
 · have:=Cf hi
   simp only [hi,not_true,false_or,this,Option.some.injEq,exists_eq_left']
 · simp only [hi,not_false_iff,true_or]
end Go.Hl
namespace Go.Hl
def Nu {α:Type} (a b:List α) (k:Nat):Prop:=∀i,i<k→a[i]?=b[i]?
theorem Nu.zero {α:Type} (a b:List α):Nu a b 0:=fun i h=>by omega
theorem Nu.succ {α:Type} {a b:List α} {k:Nat} {x y:α} (h:Nu a b k) (hx:a[k]?=some x) (hy:b[k]?=some y) (e:x=y):Nu a b (k+1):=fun i hi=>by
 by_cases e1:i=k
 · subst e1;rw [hx,hy,e]
 · exact h i (by omega)
theorem Nu.all {α:Type} {a b:List α} {k:Nat} (h:Nu a b k) (hl:a.length=b.length) (hk:a.length≤k):a=b:=by
 apply List.ext_getElem?
 intro i
 by_cases hi:i<a.length
 · exact h i (by omega)
 · rw [List.getElem?_eq_none (by omega),List.getElem?_eq_none (by omega)]
theorem SQ {α:Type} {a b:List α} {k:Nat} {x y:α} (hx:a[k]?=some x) (hy:b[k]?=some y) (e:x≠y):a=b↔False:=by
 constructor
 · intro h;subst h;rw [hx] at hy;exact e (Option.some.inj hy)
 · exact False.elim
theorem Qt {α:Type} {a b:List α} (h:(a.length:Int)≠(b.length:Int)):a=b↔False:=by
 constructor
 · intro e;subst e;exact h rfl
 · exact False.elim
theorem zh {x y:UInt8}:((x.toNat:Int)=(y.toNat:Int))↔x=y:=by
 constructor
 · intro h;exact UInt8.toNat_inj.1 (by omega)
 · intro h;rw [h]
end Go.Hl
end
section
namespace Go.Hl
variable {S:BS} {w:World} {v:Value}
theorem om {cs:List VP} (h:(aE cs).p S w v) (j:Nat) {q:VP} (hj:cs[j]?=some q):∃u,q.p S w u:=by
 obtain ⟨arr,_,_,hc⟩:=h
 obtain ⟨u,_,hq⟩:=hc j _ hj
 exact ⟨u,hq⟩
variable {α:Type} {xs:List α}
theorem eG {n:Nat} {enc:α→List VP} (h:(ah n enc xs).p S w v) {x:α} (hx:x∈xs) (j:Nat) {q:VP} (hj:(enc x)[j]?=some q):∃u,q.p S w u:=by
 obtain ⟨a,cap,_,hc,_,he⟩:=h
 obtain ⟨i,hi⟩:=List.mem_iff_getElem?.1 hx
 have tF:i<xs.length:=(List.getElem?_eq_some_iff.1 hi).1
 cases a with
 |none=>have:cap=0:=he;omega
 |some ad=>
  obtain ⟨_,_,hel⟩:=he (by omega)
  obtain ⟨u,_,hq⟩:=hel i x hi j q hj
  exact ⟨u,hq⟩
structure pV (b:jm):Prop where
 locals:b.aS.length≤281474976710656
 l:b.L.length≤281474976710656
 all:∀(i:Nat) x,b.L[i]?=some x→x.L.length≤281474976710656
variable {b:jm}
theorem La (h:(aE (gB b)).p S w v):pV b:=
 ⟨fT h 0 rfl,fT h 1 rfl,fun i x hx=>by
  obtain ⟨u,hu⟩:=om h 1 rfl
  obtain ⟨u',Gz⟩:=eG hu (List.mem_of_getElem? hx) 4 rfl
  exact bH Gz⟩
structure Ez (b:jm):Prop where
 locals:b.aS.length≤60
 l:b.L.length≤150
 all:∀x∈b.L,x.L.length≤110
structure Pg (m:aU):Prop where
 sigs:∀(i:Nat) x,m.bF[i]?=some x→x.P.length≤281474976710656∧x.R.length≤281474976710656
 imports:∀(i:Nat) x,m.aA[i]?=some x→x.Module.length≤281474976710656∧x.Name.length≤281474976710656
 aV:∀(i:Nat) x,m.bD[i]?=some x→x.Name.length≤281474976710656
 elems:∀(i:Nat) x,m.bY[i]?=some x→x.ax.length≤281474976710656
 bO:∀(i:Nat) x,m.bK[i]?=some x→x.Bytes.length≤281474976710656
variable {m:aU}
theorem SR (h:(aE (bh m)).p S w v):Pg m where
 sigs i x hx:=by
  obtain ⟨u,hu⟩:=om h 0 rfl
  obtain ⟨_,h1⟩:=eG hu (List.mem_of_getElem? hx) 0 rfl
  obtain ⟨_,h2⟩:=eG hu (List.mem_of_getElem? hx) 1 rfl
  exact ⟨bH h1,bH h2⟩
 imports i x hx:=by
  obtain ⟨u,hu⟩:=om h 1 rfl
  obtain ⟨_,h1⟩:=eG hu (List.mem_of_getElem? hx) 0 rfl
  obtain ⟨_,h2⟩:=eG hu (List.mem_of_getElem? hx) 1 rfl
  exact ⟨fR h1,fR h2⟩
 aV i x hx:=by
  obtain ⟨u,hu⟩:=om h 6 rfl
  obtain ⟨_,h1⟩:=eG hu (List.mem_of_getElem? hx) 0 rfl
  exact fR h1
 elems i x hx:=by
  obtain ⟨u,hu⟩:=om h 8 rfl
  obtain ⟨_,h1⟩:=eG hu (List.mem_of_getElem? hx) 1 rfl
  exact bH h1
 bO i x hx:=by
  obtain ⟨u,hu⟩:=om h 9 rfl
  obtain ⟨_,h1⟩:=eG hu (List.mem_of_getElem? hx) 2 rfl
  exact bH h1
structure wY (m:aU):Prop where
 sigs:m.bF.length≤60
 imports:m.aA.length≤25
 funcs:m.ax.length≤110
 dI:m.bI.length≤8
 globals:m.ay.length≤60
 aV:m.bD.length≤60
 elems:m.bY.length≤25
 bO:m.bK.length≤25
 sig:∀x∈m.bF,x.P.length+x.R.length≤60
 imp:∀x∈m.aA,x.Module.length+x.Name.length≤100
 fn:∀x∈m.ax,Ez x.Body
 exp:∀x∈m.bD,x.Name.length≤60
 elem:∀x∈m.bY,x.ax.length≤30
 data:∀x∈m.bK,x.Bytes.length≤4100
def GS (x:aU) (a f:VP):List VP:=[a,ah 3 jl x.aA,f,ag .i64 x.Table,ah 3 ew x.bI,ah 3 dZ x.ay,ah 3 dK x.bD,ag .i64 x.Start,ah 2 iT x.bY,ah 3 j9 x.bK]
structure dy (x:aU):Prop where
 sigs:za x=0
 imports:nG x=0
 funcs:jD x=0
 table:l9 x=0
 dI:zc x=0
 globals:nH x=0
 aV:me x=0
 start:iJ x=0
 elems:ua x=0
 bO:uc x=0
variable {k:Nat}
theorem qC {most:Int} {f:α→Int} (h:(xs.length:Int)≤most) (hn:cD (fun z=>f z≠0) xs k) (hk:xs.length≤k):mR xs.length most (mP xs f)=0:=
 bB.2 ⟨h,eu.2 fun z hz=>Classical.not_not.1 (hn.all hk z hz)⟩
theorem Lb {f:α→Int} (hn:cD (fun z=>f z≠0) xs k) (hk:xs.length≤k):fK (mP xs f) xs.length=0:=eu.2 fun z hz=>Classical.not_not.1 (hn.all hk z hz)
variable {s:mD}
theorem Nv (h:jC s.P∧jC s.R):Ip s=0:=(cu (by decide)).2 (not_not_intro h)
theorem EA {x:gA} (h1:gZ x.Module∧gZ x.Name) (h2:iU x.fV m.bF.length):fl m x=0:=by
 unfold fl;rw [if_neg (by simp [h1])];exact (cu (by decide)).2 (not_not_intro h2)
theorem Lc {x:cK} (h2:iU x.fV m.bF.length):pT m x=0:=(cu (by decide)).2 (not_not_intro h2)
theorem Ld (h:(m.aA.length:Int)+(m.ax.length:Int)≤100) (hn:cD (fun z=>pT m z≠0) m.ax k) (hk:m.ax.length≤k):jD m=0:=by
 unfold jD cw;rw [if_neg (by omega)];exact Lb hn hk
theorem It (h: -1≤m.Table) (h2:m.Table≤1000):l9 m=0:=by
 unfold l9;rw [if_neg (by omega)];exact (cu (by decide)).2 (by omega)
theorem Nw {x:dY} (h:0≤x.Min∧x.Min≤65536∧(x.Max<0∨x.Min≤x.Max∧x.Max≤65536)):K7 x=0:=(cu (by decide)).2 (not_not_intro h)
theorem EB {x:iS} (h:(x.Ty.toNat:Int)=126∨(x.Ty.toNat:Int)=127∧x.Value≤4294967295):qB x=0:=by
 refine (cu (by decide)).2 fun h'=> ?_
 rcases h' with h'|h'
 · rw [oh] at h'
   apply h'
   rcases h with h|h
   · exact .inl (UInt8.toNat_inj.1 (by simpa using (by omega:x.Ty.toNat=126)))
   · exact .inr (UInt8.toNat_inj.1 (by simpa using (by omega:x.Ty.toNat=127)))
 · omega
theorem EC {i:Nat} {x:dJ} (hx:m.bD[i]?=some x) (h1:gZ x.Name) (h2:cD (fun z:dJ=>z.Name=x.Name) m.bD i) (ht: -1≤m.Table) (ht2:m.Table≤1000)
    (h3:x.Kind=0∧iU x.Index (cw m)∨(x.Kind=1∧0≤m.Table)∧x.Index=0∨x.Kind=2∧iU x.Index m.bI.length∨x.Kind=3∧iU x.Index m.ay.length):iW m i=0:=by
  rw [sQ hx]
  · refine (cu (by decide)).2 fun h=> ?_
    have k0:mc 0=0:=by decide
    have k1:mc 1=1:=by decide
    have k2:mc 2=2:=by decide
    have k3:mc 3=3:=by decide
    unfold iU at h h3
    rcases h3 with ⟨h4,h5⟩|⟨⟨h4,h5⟩,h6⟩|⟨h4,h5⟩|⟨h4,h5⟩
    · rw [h4,k0] at h;simp only [cnt] at h;omega
    · rw [h4,k1] at h
      have hw:IntKind.i64.wrap (m.Table+1)=m.Table+1:=by unfold IntKind.wrap;simp [IntKind.signed,IntKind.bits];omega
      simp only [cnt,hw] at h;omega
    · rw [h4,k2] at h;simp only [cnt] at h;omega
    · rw [h4,k3] at h;simp only [cnt] at h;omega
  · rintro (h|⟨y,hy,he⟩)
    · exact h h1
    · obtain ⟨j,hj⟩:=List.mem_iff_getElem?.1 hy
      rw [List.getElem?_take] at hj
      split at hj
      · rename_i hlt;exact h2 j y hlt hj he
      · cases hj
theorem ED (h:(m.bD.length:Int)≤50) (hn:∀j,j<k→iW m j=0) (hk:m.bD.length≤k):me m=0:=bB.2 ⟨h,kG.2 fun i hi=>hn i (by omega)⟩
theorem iU.at {n:Int} {k:Nat} (h:iU n k):n.toNat<k∧n=(n.toNat:Int):=by unfold iU at h;omega
variable {f:Int}
theorem ud (hf:iU f (cw m)) (h1:∀z∈m.aA,fl m z=0) (h2:∀z∈m.ax,pT m z=0):∃s,gM m f=some s:=by
 have hf':=hf
 unfold iU cw at hf'
 unfold gM eJ
 rw [if_neg (by unfold cw;omega)]
 have key:∀n:Int,iU n m.bF.length→∃s,(match some n with|none=>none|some n=>if 0≤n then m.bF[n.toNat]? else none)=some s:=fun n hn=>by
  obtain ⟨h3,h4⟩:=hn.at
  simp only
  rw [if_pos (by omega)]
  exact ⟨_,List.getElem?_eq_getElem h3⟩
 by_cases hlt:f<(m.aA.length:Int)
 · rw [if_pos hlt]
   have hl:f.toNat<m.aA.length:=by omega
   rw [List.getElem?_eq_getElem hl]
   refine key _ ?_
   have:=h1 _ (List.getElem_mem hl)
   unfold fl at this
   split at this
   · cases this
   · exact Classical.not_not.1 ((cu (by decide)).1 this)
 · rw [if_neg hlt]
   have hl:(f-(m.aA.length:Int)).toNat<m.ax.length:=by omega
   rw [List.getElem?_eq_getElem hl]
   refine key _ ?_
   have:=h2 _ (List.getElem_mem hl)
   exact Classical.not_not.1 ((cu (by decide)).1 this)
theorem wZ (h:gM m f=some s) (hf:f<(m.aA.length:Int)):∃x:gA,m.aA[f.toNat]?=some x∧m.bF[x.fV.toNat]?=some s∧f=(f.toNat:Int)∧x.fV=(x.fV.toNat:Int):=by
 unfold gM eJ at h
 split at h
 · cases h
 · rename_i n hn
   split at hn
   · cases hn
   · rename_i hc
     cases hx:m.aA[f.toNat]? with
     |none=>rw [hx] at hn;cases hn
     |some x=>
      rw [hx] at hn;cases hn
      split at h
      · rename_i h0;exact ⟨x,rfl,h,by omega,by have h1:0≤x.fV:=h0;omega⟩
      · cases h
theorem Cg (h:gM m f=some s) (hf:¬f<(m.aA.length:Int)):∃x:cK,m.ax[(f-(m.aA.length:Int)).toNat]?=some x∧m.bF[x.fV.toNat]?=some s∧f-(m.aA.length:Int)=((f-(m.aA.length:Int)).toNat:Int)∧x.fV=(x.fV.toNat:Int)∧f<cw m:=by
 unfold gM eJ at h
 split at h
 · cases h
 · rename_i n hn
   split at hn
   · cases hn
   · rename_i hc
     cases hx:m.ax[(f-(m.aA.length:Int)).toNat]? with
     |none=>rw [hx] at hn;cases hn
     |some x=>
      rw [hx] at hn;cases hn
      split at h
      · rename_i h0;exact ⟨x,rfl,h,by omega,by have h1:0≤x.fV:=h0;omega,by omega⟩
      · cases h
theorem Iu (h:m.Start= -1):iJ m=0:=by unfold iJ;rw [if_pos h]
theorem Iv (h:gM m m.Start=some s) (h2:¬0<(s.P.length:Int)+(s.R.length:Int)):iJ m=0:=by
 unfold iJ;split
 · rfl
 · rw [h];exact (cu (by decide)).2 h2
theorem Le {x:iN} (h:(x.ax.length:Int)≤20) (h1:0≤m.Table) (h2:x.At≤4294967295) (h3:cD (fun z:Int=>¬iU z (cw m)) x.ax k) (hk:x.ax.length≤k):qZ m x=0:=by
 unfold qZ;rw [if_neg (by omega)]
 refine (cu (by decide)).2 ?_
 rintro (h4|⟨f,hf,h5⟩|h6)
 · omega
 · exact h3.all hk f hf h5
 · omega
theorem Lf {x:jO} {y:dY} (h:(x.Bytes.length:Int)≤4096) (h1:iU x.Mem m.bI.length) (hy:m.bI[x.Mem.toNat]?=some y) (h2:¬(¬y.bE∧4294967295<x.At)):q6 m x=0:=by
 unfold q6;rw [if_neg (by omega)]
 refine (cu (by decide)).2 ?_
 rintro (h4|⟨z,hz,h5⟩)
 · exact h4 h1
 · rw [hy] at hz;cases hz;exact h2 h5
theorem cD.GU {f:α→Int} (hn:cD (fun z=>f z≠0) xs k) (hk:xs.length≤k):∀z∈xs,f z=0:=fun z hz=>Classical.not_not.1 (hn.all hk z hz)
theorem or4 {a b c d:Prop} (h:((a∨b)∨c)∨d):a∨b∨c∨d:=by simpa [or_assoc] using h
theorem Af (h:gM m f=some s):s∈m.bF:=by
 unfold gM at h
 split at h
 · cases h
 · split at h
   · exact List.mem_of_getElem? h
   · cases h
theorem oo (h:jD m=0):∀z∈m.ax,pT m z=0:=by
 unfold jD at h
 split at h
 · cases h
 · exact eu.1 h
theorem GV (h1:∀z∈m.aA,fl m z=0) (h2:∀z∈m.ax,pT m z=0):(gM m f).isSome=true↔iU f (cw m):=by
 constructor
 · intro h
   obtain ⟨s,hs⟩:=Option.isSome_iff_exists.1 h
   unfold gM eJ at hs
   unfold iU
   by_cases hc:f<0∨cw m≤f
   · rw [if_pos hc] at hs;cases hs
   · omega
 · intro h
   obtain ⟨s,hs⟩:=ud h h1 h2
   rw [hs];rfl
def jt (f:Nat→Int):Nat→Int
 |0=>0
 |n+1=>jt f n+f n
theorem Ag {f:Nat→Int} {C:Int} (h:∀i,0≤f i∧f i≤C):∀n:Nat,0≤jt f n∧jt f n≤n*C
 |0=>by simp [jt]
 |n+1=>by
  have h1:=Ag h n
  have h2:=h n
  simp only [jt]
  refine ⟨by omega, ?_⟩
  have:((n+1:Nat):Int)*C=n*C+C:=by rw [Int.natCast_add,Int.add_mul];simp
  omega
theorem zi {f:Nat→Int} (h:∀i,0≤f i):∀{n:Nat},jt f n≤0→∀i,i<n→f i≤0
 |0,_,i,hi=>by omega
 | n+1,hs,i,hi=>by
  have h0:∀k:Nat,0≤jt f k:=fun k=>by
   induction k with
   |zero=>simp [jt]
   |succ k ih=>have:=h k;simp only [jt];omega
  have h1:=h0 n
  have h2:=h n
  simp only [jt] at hs
  by_cases e:i=n
  · subst e;omega
  · exact zi (n:=n) h (by omega) i (by omega)
variable {g:α→Int}
theorem Lg {C:Int} (hC:0≤C) (h:∀(i:Nat) x,xs[i]?=some x→0≤g x∧g x≤C) (i:Nat):0≤mP xs g i∧mP xs g i≤C:=by
 unfold mP
 split
 · rename_i x hx;exact h i x hx
 · exact ⟨by omega,hC⟩
def pW (xs:List α) (g:α→Int) (cap:Nat):Int:=jt (mP xs g) (min xs.length cap)
theorem gD {cap:Nat} (C:Int) (hC:0≤C) (h:∀(i:Nat) x,xs[i]?=some x→0≤g x∧g x≤C):0≤pW xs g cap∧pW xs g cap≤cap*C:=by
 have h1:=Ag (Lg hC h) (min xs.length cap)
 refine ⟨h1.1,Int.le_trans h1.2 (Int.mul_le_mul_of_nonneg_right (by omega) hC)⟩
theorem jX {cap:Nat} (h:∀(i:Nat) x,xs[i]?=some x→0≤g x) (h0:pW xs g cap≤0) (hl:xs.length≤cap):∀x∈xs,g x≤0:=fun x hx=>by
 obtain ⟨i,hi⟩:=List.mem_iff_getElem?.1 hx
 have:=zi (f:=mP xs g) (fun j=>by unfold mP;split;exact h j _ (by assumption);omega) h0 i (by have:=(List.getElem?_eq_some_iff.1 hi).1;omega)
 rwa [jA hi] at this
theorem jY {C:Int} (hC:0≤C) (h:∀(i:Nat) x,xs[i]?=some x→0≤g x∧g x≤C) (k:Nat):0≤jt (mP xs g) k∧jt (mP xs g) k≤k*C:=Ag (Lg hC h) k
theorem oq {x:α} (hx:xs[k]?=some x):jt (mP xs g) (k+1)=jt (mP xs g) k+g x:=by simp only [jt];rw [jA hx]
def ot (x:au):Int:=max ((x.L.length:Int)-110) 0
def pX (b:jm):Int:=max ((b.aS.length:Int)-60) 0+max ((b.L.length:Int)-150) 0+pW b.L ot 150
theorem ue (h:pV b):∀(i:Nat) x,b.L[i]?=some x→0≤ot x∧ot x≤281474976710656:=fun i x hx=>by have:=h.all i x hx;unfold ot;omega
theorem Iw (h:pV b):0≤pX b∧pX b≤152*281474976710656:=by
 have h1:=gD (cap:=150) 281474976710656 (by omega) (ue h)
 have h2:=h.locals
 have h3:=h.l
 unfold pX;omega
theorem Ah (h:pV b) (h0:pX b≤0):Ez b:=by
 have h1:=gD (cap:=150) 281474976710656 (by omega) (ue h)
 unfold pX at h0
 have h2:=jX (xs:=b.L) (g:=ot) (cap:=150) (fun i x _=>by unfold ot;omega) (by omega) (by omega)
 exact ⟨by omega,by omega,fun x hx=>by have:=h2 x hx;unfold ot at this;omega⟩
def EE (y:mD):Int:=max ((y.P.length:Int)+(y.R.length:Int)-60) 0
def EF (y:gA):Int:=max ((y.Module.length:Int)+(y.Name.length:Int)-100) 0
def RJ (y:cK):Int:=pX y.Body
def EG (y:dJ):Int:=max ((y.Name.length:Int)-60) 0
def w4 (y:iN):Int:=max ((y.ax.length:Int)-30) 0
def uT (y:jO):Int:=max ((y.Bytes.length:Int)-4100) 0
def nc (x:aU):Int:=max ((x.bF.length:Int)-60) 0+max ((x.aA.length:Int)-25) 0+max ((x.ax.length:Int)-110) 0+max ((x.bI.length:Int)-8) 0+max ((x.ay.length:Int)-60) 0+max ((x.bD.length:Int)-60) 0+max ((x.bY.length:Int)-25) 0+max ((x.bK.length:Int)-25) 0
def rI (x:aU):Int:=nc x+pW x.bF EE 60
def rJ (x:aU):Int:=rI x+pW x.aA EF 25
def rK (x:aU):Int:=rJ x+pW x.ax RJ 110
def rL (x:aU):Int:=rK x+pW x.bD EG 60
def rM (x:aU):Int:=rL x+pW x.bY w4 25
def ou (x:aU):Int:=rM x+pW x.bK uT 25
structure sR (x:aU):Prop where
 top:sO x
 mid:Pg x
 fns:∀(i:Nat) y,x.ax[i]?=some y→pV y.Body
theorem pY (h:(aE (bh m)).p S w v):sR m:=
 ⟨K8 h,SR h,fun i x hx=>by
  obtain ⟨u,hu⟩:=om h 2 rfl
  obtain ⟨_,h1⟩:=eG hu (List.mem_of_getElem? hx) 1 rfl
  obtain ⟨_,h2⟩:=eG hu (List.mem_of_getElem? hx) 2 rfl
  exact ⟨bH h1,bH h2,fun j y hy=>by
   obtain ⟨_,h3⟩:=eG h2 (List.mem_of_getElem? hy) 4 rfl
   exact bH h3⟩⟩
structure EH (x:aU):Prop where
 n0:0≤nc x∧nc x≤8*281474976710656
 sig:∀(i:Nat) y,x.bF[i]?=some y→0≤EE y∧EE y≤2*281474976710656
 imp:∀(i:Nat) y,x.aA[i]?=some y→0≤EF y∧EF y≤2*281474976710656
 fn:∀(i:Nat) y,x.ax[i]?=some y→0≤RJ y∧RJ y≤152*281474976710656
 exp:∀(i:Nat) y,x.bD[i]?=some y→0≤EG y∧EG y≤281474976710656
 elem:∀(i:Nat) y,x.bY[i]?=some y→0≤w4 y∧w4 y≤281474976710656
 data:∀(i:Nat) y,x.bK[i]?=some y→0≤uT y∧uT y≤281474976710656
variable {x:aU}
theorem Ix (h:sO x):0≤nc x∧nc x≤8*281474976710656:=by
 obtain ⟨h1,h2,h3,h4,h5,h6,h7,h8⟩:=h
 have mx:∀(n:Nat) (c:Int),0≤c→n≤281474976710656→0≤max ((n:Int)-c) 0∧max ((n:Int)-c) 0≤281474976710656:=fun n c _ _=>by omega
 have a1:=mx _ 60 (by omega) h1
 have a2:=mx _ 25 (by omega) h2
 have a3:=mx _ 110 (by omega) h3
 have a4:=mx _ 8 (by omega) h4
 have a5:=mx _ 60 (by omega) h5
 have a6:=mx _ 60 (by omega) h6
 have a7:=mx _ 25 (by omega) h7
 have a8:=mx _ 25 (by omega) h8
 unfold nc
 generalize max ((x.bF.length:Int)-60) 0=b1 at*
 generalize max ((x.aA.length:Int)-25) 0=b2 at*
 generalize max ((x.ax.length:Int)-110) 0=b3 at*
 generalize max ((x.bI.length:Int)-8) 0=b4 at*
 generalize max ((x.ay.length:Int)-60) 0=b5 at*
 generalize max ((x.bD.length:Int)-60) 0=b6 at*
 generalize max ((x.bY.length:Int)-25) 0=b7 at*
 generalize max ((x.bK.length:Int)-25) 0=b8 at*
 omega
theorem nI (h:sR x):EH x:=
 ⟨Ix h.top,fun i y hy=>by have:=h.mid.sigs i y hy;unfold EE;omega,fun i y hy=>by have:=h.mid.imports i y hy;unfold EF;omega,fun i y hy=>Iw (h.fns i y hy),
  fun i y hy=>by have:=h.mid.aV i y hy;unfold EG;omega,fun i y hy=>by have:=h.mid.elems i y hy;unfold w4;omega,fun i y hy=>by have:=h.mid.bO i y hy;unfold uT;omega⟩
theorem Ai (h:sR x) (h0:ou x≤0):wY x:=by
 have hb:=nI h
 have n0:=hb.n0.1
 have n1:=(gD (cap:=60) _ (by omega) hb.sig).1
 have n2:=(gD (cap:=25) _ (by omega) hb.imp).1
 have n3:=(gD (cap:=110) _ (by omega) hb.fn).1
 have n4:=(gD (cap:=60) _ (by omega) hb.exp).1
 have n5:=(gD (cap:=25) _ (by omega) hb.elem).1
 have n6:=(gD (cap:=25) _ (by omega) hb.data).1
 unfold ou rM rL rK rJ rI at h0
 have z0:nc x≤0:=by omega
 unfold nc at z0
 have g1:x.bF.length≤60:=by omega
 have g2:x.aA.length≤25:=by omega
 have g3:x.ax.length≤110:=by omega
 have g6:x.bD.length≤60:=by omega
 have g7:x.bY.length≤25:=by omega
 have g8:x.bK.length≤25:=by omega
 exact ⟨g1,g2,g3,by omega,by omega,g6,g7,g8,
  fun y hy=>by have:=jX (fun i y hy=>(hb.sig i y hy).1) (by omega) g1 y hy;unfold EE at this;omega,
  fun y hy=>by have:=jX (fun i y hy=>(hb.imp i y hy).1) (by omega) g2 y hy;unfold EF at this;omega,
  fun y hy=>by
   have h9:=jX (fun i y hy=>(hb.fn i y hy).1) (by omega) g3 y hy
   obtain ⟨i,hi⟩:=List.mem_iff_getElem?.1 hy
   exact Ah (h.fns i y hi) h9,
  fun y hy=>by have:=jX (fun i y hy=>(hb.exp i y hy).1) (by omega) g6 y hy;unfold EG at this;omega,
  fun y hy=>by have:=jX (fun i y hy=>(hb.elem i y hy).1) (by omega) g7 y hy;unfold w4 at this;omega,
  fun y hy=>by have:=jX (fun i y hy=>(hb.data i y hy).1) (by omega) g8 y hy;unfold uT at this;omega⟩
theorem w5 (hb:EH x):(0≤rI x∧rI x≤128*281474976710656)∧(0≤rJ x∧rJ x≤178*281474976710656)∧(0≤rK x∧rK x≤16898*281474976710656)∧(0≤rL x∧rL x≤16958*281474976710656)∧(0≤rM x∧rM x≤16983*281474976710656):=by
 have n0:=hb.n0
 have n1:=gD (cap:=60) _ (by omega) hb.sig
 have n2:=gD (cap:=25) _ (by omega) hb.imp
 have n3:=gD (cap:=110) _ (by omega) hb.fn
 have n4:=gD (cap:=60) _ (by omega) hb.exp
 have n5:=gD (cap:=25) _ (by omega) hb.elem
 unfold rM rL rK rJ rI
 omega
end Go.Hl
end
section
namespace Go.Hl
open Go.RowKit
section
variable {P:Program} {hs:List HP} {env:Env} {q:VP} {dst:Option Tmp} {ty T T' E:TypeId} {pos:String} {after:Array Edge} {gd:Option (Nat×Bool)} {x y z:Operand}
theorem GW {f:FuncId} {v:Value} (hx:bp env x (af v)):bg P hs env ⟨dst, .makeFunc (.func f) #[x] #[],ty,pos,after,gd⟩ (af (.func (.func f) #[v] #[])):=by
 intro a w S F _ _ _ _ he K Q hk
 unfold Oper.wp
 have hv:=hx S w a he;simp only [af] at hv
 exact hk _ w S (eB.refl _ _) (by simp [af,hv])
theorem Lh {f:FuncId} {v:Value} {ats:Array TypeId} {hs0 rest:List HP} {γ:Type} {φ:γ→Prop} {hs':γ→List HP} {q:γ→VP} (hf:cH P f [af v] hs0 φ hs' q) (hb:lu P f=true) (hx:bp env x (af (.func (.func f) #[v] #[]))) (hp:hs.Perm (hs0++rest)):
    gL P hs env ⟨dst, .call ⟨.value x, #[],ats⟩,ty,pos,after,gd⟩ φ (fun g=>hs' g++rest) q:=by
  intro c a w S F aC hown he K Q hk
  have h0:=cC (xs:=[.const v]) (ats:=ats) (dst:=dst) (ty:=ty) (pos:=pos) (after:=after) (gd:=gd) hf hb (.cons (.c _) .nil) hp c a w S F aC hown he K Q hk
  have hv:=hx S w a he;simp only [af] at hv
  unfold Oper.wp at h0 ⊢
  rw [sA hb] at h0
  have e:(execOp a.eval ⟨dst, .call ⟨.value x, #[],ats⟩,ty,pos,after,gd⟩).run P w= .ok (.enter f #[v]) w:=by
    have h:=iy hb #[v] w
    simp [execOp,resolve,hv,Deferred.ofValue,invoke] at h ⊢;exact h
  rw [e]
  exact h0
end
abbrev Yx (f sb:Nat):VP:=af (.func (.func f) #[.pointer (some ⟨sb,0,none⟩)] #[])
variable {k:Nat} {v:Nat}
theorem Nx {l:List UInt8} {at_ w:Nat} (hl:at_+w≤l.length) (hk:k<w):(l.take at_++DQ v k++l.drop (at_+k)).set (at_+k) (RF v k)=l.take at_++DQ v (k+1)++l.drop (at_+(k+1)):=by
 have h1:(l.take at_++DQ v k).length=at_+k:=by rw [List.length_append,vG,List.length_take];omega
 have h2:l.drop (at_+k)=l[at_+k]'(by omega)::l.drop (at_+k+1):=List.drop_eq_getElem_cons (by omega)
 rw [List.set_append_right _ _ (by omega),h1,Nat.sub_self,h2,List.set_cons_zero]
 have h3:DQ v (k+1)=DQ v k++[RF v k]:=by unfold DQ;rw [List.range_succ,List.map_append];rfl
 rw [h3]
 simp only [List.append_assoc,List.singleton_append]
 rfl
theorem Li (v k:Nat):IntKind.u8.wrap ((v/2^(8*k):Nat):Int)=((RF v k).toNat:Int):=by
 have e:∀n:Int,IntKind.u8.wrap n=n%256:=fun _=>rfl
 rw [e]
 unfold RF
 rw [UInt8.toNat_ofNat']
 omega
theorem Qu {l:List UInt8} {at_:Nat} {c:UInt8} (hc:l[at_+k]?=some c) (hk:k<8):((BZ ((l.drop at_).take k))|||(c.toNat*2^(8*k)%18446744073709551616))=BZ ((l.drop at_).take (k+1))∧BZ ((l.drop at_).take k)<18446744073709551616:=by
 have hd:(l.drop at_)[k]?=some c:=by rw [List.getElem?_drop];exact hc
 have hlen:((l.drop at_).take k).length=k:=by
  have:=(List.getElem?_eq_some_iff.1 hd).1
  rw [List.length_take];omega
 have h1:=Ei ((l.drop at_).take k)
 rw [hlen] at h1
 have h2:2^(8*k)≤2^56:=Nat.pow_le_pow_right (by decide) (by omega)
 have h3:=c.toNat_lt
 have h4:c.toNat*2^(8*k)≤255*2^56:=Nat.mul_le_mul (by omega) h2
 refine ⟨?_,by omega⟩
 rw [Nat.mod_eq_of_lt (by omega)]
 have h5:=Qi ((l.drop at_).take k) c
 rw [hlen] at h5
 rw [h5,←bt hd]
variable {a:eO} {X:yd}
theorem Lj (h:eg X a) {x:Nat} {w:Nat} (hx:x+w≤X.size):eg X (a.put x (DQ v w)):=h.put (by rw [vG];exact hx)
abbrev uf (X:yd) (a:eO):HP:=aF X.ab [iI X.db 0 X.size,ag .i64 (a.height:Int),ag .i64 (a.live:Int),af (.map (some X.tm)),af (.map (some X.gm))]
def sS (X:yd) (a:eO):List HP:=[uf X a,gk X.db a.bytes]
abbrev vl:=List (Int×SB×List Int)
def ng (G:vl):List HP:=G.map fun e=>av e.2.1 1 jf e.2.2
abbrev Ch (G:vl):List (Int×Value):=G.map fun e=>(e.1,br e.2.1 e.2.2.length)
def EI (gm:Nat) (G:vl):HP:=jb gm (Value.int .i64) af (Ch G)
def q7 (G:vl) (n:Nat):Prop:=∀e∈G,e.2.2.length≤n
def Iy (gm n:Nat):HP:=Su fun G:vl=>jI (kq (q7 G n)::EI gm G::ng G)
def rN (X:yd) (a:eO) (n:Nat):List HP:=[uf X a,gk X.db a.bytes,jb X.tm (Value.int .i64) bf a.taken,Iy X.gm n]
def sU (G:vl) (c:Int):SB×List Int:=(an G c).getD (none,[])
variable {r:List HP} {κ:Type}
theorem map_nil {α β:Type} [DecidableEq κ] {m:Nat} {ke:κ→Value} {f:α→VP} {g:β→VP}:aB (jb m ke f []::r) (jb m ke g []::r):=fun F S w ⟨F1,F2,h1,h2,⟨hF,es,cl,hh,hk,_,hb⟩,h4⟩=>
 ⟨F1,F2,h1,h2,⟨hF,es,cl,hh,hk,fun i p hp=>by simp at hp,hb⟩,h4⟩
variable {gm:Nat}
theorem Ll:aB (jb gm (Value.int .i64) (fun _:Unit=>nV) []::r) (Iy gm 0::r):=
 map_nil.trans ((aB.pure (p:=q7 [] 0) (fun e h=>by cases h)).trans ((aB.pack (l:=[kq (q7 [] 0),EI gm []])).trans (aB.ex (f:=fun G:vl=>jI (kq (q7 G 0)::EI gm G::ng G)) [])))
theorem zj:aB (dS X a++r) (rN X a 0++r):=aB.cons _ (aB.cons _ (aB.cons _ Ll))
variable {n:Nat}
theorem Lm (h:n≤k):aB (Iy gm n::r) (Iy gm k::r):=fun F S w ⟨F1,F2,h1,h2,⟨G,h3⟩,h4⟩=>
 ⟨F1,F2,h1,h2,⟨G,by obtain ⟨G1,G2,g1,g2,g3,g4⟩:=h3;exact ⟨G1,G2,g1,g2,fun e he=>Nat.le_trans (g3 e he) h,g4⟩⟩,h4⟩
theorem Lo (h:n≤k):aB (rN X a n++r) (rN X a k++r):=aB.cons _ (aB.cons _ (aB.cons _ (Lm h)))
variable {G:vl} {c:Int}
theorem Lp:aa (rA af (af (.slice none 0 0)) (an (Ch G) c)) (af (br (sU G c).1 (sU G c).2.length)):=aa.of_eq (by
 rw [jT (fun x:SB×List Int=>br x.1 x.2.length)]
 unfold sU
 cases an G c<;>rfl)
theorem ug {α:Type} {id:Int} (v:α):∀{E:List (Int×α)},an E id≠none→fk E id v=fA E id v
 |[],h=>absurd rfl h
 | e ::E,h=>by
  unfold fk fA
  rw [List.map_cons,List.findIdx?_cons]
  by_cases he:e.1=id
  · simp [he]
  · have h':an E id≠none:=fun e2=>h (by
     unfold an at e2 ⊢
     rw [List.find?_cons_of_neg (by simpa using he)];exact e2)
    have ih:=ug v h'
    unfold fk at ih
    rw [if_neg he,←ih]
    simp only [he,decide_false,Bool.false_eq_true,if_false]
    cases (E.map (·.1)).findIdx? (fun k=>decide (k=id))<;>rfl
theorem zk {c:Int}:∀{G:vl} {x:SB×List Int},an G c=some x→(ng G).Perm (av x.1 1 jf x.2::ng (gX G c))
 |[],x,h=>by cases h
 |e::E,x,h=>by
  unfold an at h
  by_cases he:e.1=c
  · rw [List.find?_cons_of_pos (by simpa using he)] at h
    simp at h
    unfold gX ng
    rw [List.eraseP_cons_of_pos (by simpa using he),List.map_cons,h]
  · rw [List.find?_cons_of_neg (by simpa using he)] at h
    have ih:=zk (c:=c) (G:=E) (x:=x) h
    unfold gX ng at ih ⊢
    rw [List.eraseP_cons_of_neg (by simpa using he),List.map_cons,List.map_cons]
    exact (ih.cons _).trans (List.Perm.swap _ _ _)
theorem GX {c:Int} (y:SB×List Int):∀{G:vl},an G c≠none→(av y.1 1 jf y.2::ng (gX G c)).Perm (ng (fA G c y))
 |[],h=>absurd rfl h
 | e ::E,h=>by
  by_cases he:e.1=c
  · unfold gX ng fA
    rw [List.eraseP_cons_of_pos (by simpa using he),if_pos he,List.map_cons]
  · have h':an E c≠none:=fun e2=>h (by
     unfold an at e2 ⊢
     rw [List.find?_cons_of_neg (by simpa using he)];exact e2)
    have ih:=GX y h'
    unfold ng gX at ih ⊢
    unfold fA
    rw [List.eraseP_cons_of_neg (by simpa using he),if_neg he,List.map_cons,List.map_cons]
    exact (List.Perm.swap _ _ _).trans (ih.cons _)
theorem w6 {α:Type} {c:Int}:∀{G:List (Int×α)},an G c=none→gX G c=G
 |[],_=>rfl
 |e::E,h=>by
  unfold an at h
  by_cases he:e.1=c
  · rw [List.find?_cons_of_pos (by simpa using he)] at h;cases h
  · rw [List.find?_cons_of_neg (by simpa using he)] at h
    have ih:=w6 (c:=c) (G:=E) h
    unfold gX at ih ⊢
    rw [List.eraseP_cons_of_neg (by simpa using he),ih]
theorem Iz (h:q7 G n):(sU G c).2.length≤n:=by
 unfold sU
 cases hc:an G c with
 |none=>exact Nat.zero_le _
 |some y=>exact h _ (wO hc)
theorem aM.Qv {P:Program} {Q:Exit→Act→World→Prop} {cx:Ctx} {x:Code} {env:Env} (c:Int) (k:∀G:vl,q7 G n→aM P Q cx x (EI gm G::av (sU G c).1 1 jf (sU G c).2::jI (ng (gX G c))::r) env):aM P Q cx x (Iy gm n::r) env:=
 aM.opens fun G=>aM.own aB.unpack (aM.kq fun hG=>aM.own (aB.cons _ (by
  unfold sU
  cases h:an G c with
  |none=>
   rw [w6 h]
   exact aB.trans (aB.pack (l:=ng G)) K3
  |some y=>exact aB.trans (aB.perm ((zk h).append_right r)) (aB.cons _ (aB.pack (l:=ng (gX G c)))))) (k G hG))
theorem Lr {ν:Type} [DecidableEq κ] {D:List (κ×ν)} {a:κ} {v:ν} {e:κ×ν} (h:e∈fk D a v):e=(a,v)∨e∈D:=by
 unfold fk at h
 split at h
 · rcases List.mem_or_eq_of_mem_set h with h|h
   · exact .inr h
   · exact .inl h
 · rcases List.mem_append.1 h with h|h
   · exact .inr h
   · exact .inl (List.mem_singleton.1 h)
theorem IA {sb:SB} {xs:List Int} (hG:q7 G k) (hn:n=xs.length) (hx:xs.length≤k+1):aB (jb gm (Value.int .i64) af (fk (Ch G) c (br sb n))::av sb 1 jf xs::jI (ng (gX G c))::r) (Iy gm (k+1)::r):=by
 subst hn
 have e:fk (Ch G) c (br sb xs.length)=Ch (fk G c (sb,xs))∧(av sb 1 jf xs::ng (gX G c)).Perm (ng (fk G c (sb,xs))):=by
  cases h:an G c with
  |none=>
   rw [l5 _ h,l5 _ (show an (Ch G) c=none by rw [jT (fun x:SB×List Int=>br x.1 x.2.length),h];rfl),w6 h]
   refine ⟨by simp [Ch], ?_⟩
   have:ng (G++[(c,sb,xs)])=ng G++[av sb 1 jf xs]:=by simp [ng]
   rw [this]
   exact (List.perm_append_singleton _ _).symm
  |some y=>
   have h1:an G c≠none:=by rw [h];exact Option.some_ne_none _
   rw [ug _ h1,ug _ (show an (Ch G) c≠none by rw [jT (fun x:SB×List Int=>br x.1 x.2.length),h];exact Option.some_ne_none _)]
   exact ⟨(sJ (fun x:SB×List Int=>br x.1 x.2.length) c (sb,xs) G).symm,GX (sb,xs) h1⟩
 rw [e.1]
 refine (aB.cons _ (aB.cons _ aB.unpack)).trans ?_
 refine (aB.cons _ (aB.perm (e.2.append_right r))).trans ?_
 have hk:q7 (fk G c (sb,xs)) (k+1):=fun e h=>by
  rcases Lr h with rfl|h
  · exact hx
  · exact Nat.le_succ_of_le (hG e h)
 refine (aB.pure hk).trans ?_
 exact (aB.pack (l:=kq (q7 (fk G c (sb,xs)) (k+1))::EI gm (fk G c (sb,xs))::ng (fk G c (sb,xs)))).trans (aB.ex (f:=fun G:vl=>jI (kq (q7 G (k+1))::EI gm G::ng G)) _)
theorem IB {ν:Type} [DecidableEq κ] (D:List (κ×ν)) (a b:κ) (v:ν):an (fk D a v) b=if b=a then some v else an D b:=by
 have key:∀(D:List (κ×ν)),an (fk D a v) b=if b=a then some v else an D b:=by
  intro D
  induction D with
  |nil=>
   by_cases h:b=a
   · subst h;simp [fk,an]
   · have h2:¬a=b:=fun e=>h e.symm
     simp [fk,an,h,h2]
  |cons p D ih=>
   by_cases hp:p.1=a
   · have h1:fk (p::D) a v=(a,v)::D:=by simp [fk,List.findIdx?_cons,hp]
     rw [h1]
     by_cases h:b=a
     · subst h;simp [an]
     · have h2:¬a=b:=fun e=>h e.symm
       have h3:¬p.1=b:=fun e=>h2 (hp.symm.trans e)
       simp [an,List.find?_cons,h,h2,h3]
   · have h1:fk (p::D) a v=p::fk D a v:=by
      simp only [fk,List.map_cons,List.findIdx?_cons,hp,decide_false,Bool.false_eq_true,if_false]
      cases hf:(D.map (·.1)).findIdx? (fun k=>decide (k=a)) with
      |none=>simp
      |some j=>simp
     rw [h1]
     by_cases h:p.1=b
     · have h2:¬b=a:=fun e=>hp (h.trans e)
       simp [an,List.find?_cons,h,h2]
     · have e1:∀D':List (κ×ν),an (p::D') b=an D' b:=fun D'=>by simp [an,List.find?_cons,h]
       rw [e1,e1,ih]
 exact key D
def Ls (a:eO) (at_:Int) (c:Nat):eO:={a with taken:=jc a.taken at_,live:=a.live-c}
def gw (m:aU):Nat:=(max m.Table 0).toNat
abbrev rO (m:aU):Nat:=aR (8*m.ay.length)
abbrev DT (m:aU):Nat:=aR (4*gw m)
abbrev MC (a:eO) (c:Nat):eO:=⟨a.bytes.take a.height++List.replicate c 0++a.bytes.drop (a.height+c),a.height+c,a.live+c,fk a.taken (a.height:Int) (c:Int)⟩
theorem pZ {c:Nat} (h:eg X a) (hc:a.height+c≤X.size):eg X (MC a c):=by
 have hm:=h.most;have hh:=h.hi;have hlen:=h.len;have hlv:=h.live
 refine ⟨?_,by simp only;omega,hm,by simp only;omega⟩
 simp only [List.length_append,List.length_take,List.length_drop,List.length_replicate]
 omega
theorem w7 (h:eg X a) (hn:n≤4194304) (hc:a.height+aR n≤X.size):qV X.size a n=(MC a (aR n),a.height,0):=by
 unfold qV;rw [if_neg (by omega),if_neg (by omega)]
theorem GY (h:eg X a) (hn:n≤4194304) (hc:¬a.height+aR n≤X.size):qV X.size a n=(a,0,8):=by
 have:=h.hi
 unfold qV;rw [if_neg (by omega),if_pos (by omega)]
abbrev p4 (a:eO) (m:aU):eO:=MC (MC a (rO m)) (DT m)
theorem IC {t:List (Int×Int)} (h:a.taken=t):aB (uf X a::gk X.db a.bytes::jb X.tm (Value.int .i64) bf t::jb X.gm (Value.int .i64) (fun _:Unit=>nV) []::r) (dS X a++r):=by subst h;exact aB.refl _
abbrev uU (sb:Nat) (X:yd) (pb:Nat) (m:aU) (num g t:Int) (mv:VP):HP:=aF sb [cg (bh m),aJ X.ab 0,aJ pb 0,ag .i64 num,ag .i64 g,ag .i64 t,mv,ak False]
structure o4 (m:aU):Prop where
 gl:m.ay.length≤60000
 gv:∀z∈m.ay,0≤z.Value∧z.Value<18446744073709551616∧(fH z.Ty=32∨fH z.Ty=64)
 tb:m.Table≤1000
 ms:∀z∈m.bI,0≤z.Min∧z.Min≤65536∧(z.Max<0∨z.Min≤z.Max∧z.Max≤65536)
 ml:m.bI.length≤60000
 ll:m.bY.length≤60000
 el:∀e∈m.bY,0≤e.At∧e.At<18446744073709551616∧e.ax.length≤1000∧∀f∈e.ax,0≤f∧f<281474976710656
 dl:m.bK.length≤60000
 da:∀d∈m.bK,iU d.Mem m.bI.length∧0≤d.At∧d.At<18446744073709551616∧d.Bytes.length≤5000
variable {m:aU}
theorem o4.r1 (h:o4 m):8*m.ay.length≤rO m∧rO m≤8388608:=⟨tZ (by have:=h.gl;omega),mN _⟩
theorem o4.r2 (h:o4 m):4*gw m≤DT m∧DT m≤8388608∧gw m≤1000:=by
 have h2:gw m≤1000:=by have:=h.tb;unfold gw;omega
 exact ⟨tZ (by omega),mN _,h2⟩
def ID (m:aU) (i:Nat):iS:=(m.ay[i]?).getD ⟨0,False,0⟩
variable {i:Nat}
theorem Ny {z:iS} (h:m.ay[i]?=some z):ID m i=z:=by unfold ID;rw [h];rfl
def Aj (t:UInt8) (v:Nat):Nat:=v%2^(fH t).toNat
theorem Nz {t:UInt8} (h:v<18446744073709551616):Aj t v<18446744073709551616:=Nat.lt_of_le_of_lt (Nat.mod_le _ _) h
def Lt (m:aU) (g:Nat) (a:eO):Nat→eO
 |0=>a
 |k+1=>(Lt m g a k).put (g+8*k) (DQ (Aj (ID m k).Ty (ID m k).Value.toNat) 8)
theorem Ak {X:yd} {m:aU} {g:Nat} {a:eO} (h:eg X a):∀k,g+8*k≤X.size→eg X (Lt m g a k)
 |0,_=>h
 |k+1,hk=>Lj (Ak h k (by omega)) (by omega)
structure p6 (a b:eO):Prop where
 height:b.height=a.height
 live:b.live=a.live
 taken:b.taken=a.taken
theorem p6.refl (a:eO):p6 a a:=⟨rfl,rfl,rfl⟩
theorem p6.trans {a b c:eO} (h:p6 a b) (k:p6 b c):p6 a c:=⟨k.1.trans h.1,k.2.trans h.2,k.3.trans h.3⟩
theorem Ci {m:aU} {g:Nat} {a:eO}:∀k,p6 a (Lt m g a k)
 |0=> .refl _
 |k+1=>(Ci k).trans ⟨rfl,rfl,rfl⟩
def mg (m:aU) (e:iN):Prop:=(gw m:Int)<e.At∨(gw m:Int)-e.At<(e.ax.length:Int)
def Ph (t:Nat) (e:iN) (a:eO):Nat→eO
 |0=>a
 |k+1=>(Ph t e a k).put (t+4*(e.At.toNat+k)) (DQ (((e.ax[k]?).getD 0).toNat+1) 4)
open Classical in
noncomputable def MD (m:aU) (t:Nat) (e:iN) (a:eO):eO:=if mg m e then a else Ph t e a e.ax.length
open Classical in
noncomputable def Qw (m:aU) (e:iN):Int:=if mg m e then 5 else 0
def IE (m:aU) (i:Nat):iN:=(m.bY[i]?).getD ⟨0,[]⟩
theorem NA {z:iN} (h:m.bY[i]?=some z):IE m i=z:=by unfold IE;rw [h];rfl
noncomputable def uh (m:aU) (t:Nat) (a:eO):Nat→eO
 |0=>a
 |k+1=>MD m t (IE m k) (uh m t a k)
variable {e:iN}
theorem Qx {t:Nat} (h:m.bY[k]?=some e):uh m t a (k+1)=MD m t e (uh m t a k):=by show MD m t (IE m k) _=_;rw [NA h]
theorem EJ {X:yd} {t:Nat} {e:iN} {a:eO} (h:eg X a):∀k,t+4*(e.At.toNat+k)≤X.size→eg X (Ph t e a k)
 |0,_=>h
 |k+1,hk=>Lj (EJ h k (by omega)) (by omega)
theorem Cj {t:Nat} {e:iN} {a:eO}:∀k,p6 a (Ph t e a k)
 |0=> .refl _
 |k+1=>(Cj k).trans ⟨rfl,rfl,rfl⟩
theorem Qy {t:Nat} (h:eg X a) (ht:t+4*gw m≤X.size) (h0:0≤e.At):eg X (MD m t e a)∧p6 a (MD m t e a):=by
 unfold MD
 by_cases hb:mg m e
 · rw [if_pos hb];exact ⟨h, .refl _⟩
 · rw [if_neg hb]
   unfold mg at hb
   exact ⟨EJ h _ (by omega),Cj _⟩
theorem Al {X:yd} {m:aU} {t:Nat} {a:eO} (h:eg X a) (hm:o4 m) (ht:t+4*gw m≤X.size):∀k,eg X (uh m t a k)∧p6 a (uh m t a k)
 |0=>⟨h, .refl _⟩
 | k+1=>by
  have ih:=Al (m:=m) (t:=t) h hm ht k
  have h0:0≤(IE m k).At:=by
   unfold IE
   cases he:m.bY[k]? with
   |none=>exact Int.le_refl _
   |some e=>exact (hm.el e (List.mem_of_getElem? he)).1
  have h2:=Qy (m:=m) (t:=t) ih.1 ht h0
  exact ⟨h2.1,ih.2.trans h2.2⟩
def p7 (l:dY):Nat:=if l.Max<0 then 65536 else l.Max.toNat
abbrev Lu (l:dY) (n:Int):J8:=⟨n,l.Min.toNat,p7 l,p7 l,l.bE⟩
def NB (m:aU) (i:Nat):dY:=(m.bI[i]?).getD ⟨0,0,False⟩
variable {z:dY}
theorem Am (h:m.bI[i]?=some z):NB m i=z:=by unfold NB;rw [h];rfl
def GZ (m:aU) (num:Int) (k:Nat):List J8:=(List.range k).map fun i=>Lu (NB m i) (num+(i:Int))
theorem NC (m:aU) (num:Int) (k:Nat):(GZ m num k).length=k:=by simp [GZ]
variable {num:Int}
theorem SS (h:m.bI[k]?=some z):GZ m num (k+1)=GZ m num k++[Lu z (num+(k:Int))]:=by
 unfold GZ;rw [List.range_succ,List.map_append];simp [Am h]
theorem Qz (h:m.bI[i]?=some z) (hi:i<k):(GZ m num k)[i]?=some (Lu z (num+(i:Int))):=by
 unfold GZ;rw [List.getElem?_map,List.getElem?_range hi];simp [Am h]
theorem Pj (hm:o4 m) (hz:z∈m.bI) {n:Int} (hn:0≤n):Qr (Lu z n)∧z.Min=((z.Min.toNat:Nat):Int)∧z.Min.toNat≤p7 z∧p7 z≤65536:=by
 obtain ⟨h1,h2,h3⟩:=hm.ms z hz
 have h4:z.Min.toNat≤p7 z∧p7 z≤65536:=by unfold p7;split<;>omega
 exact ⟨⟨hn,h4.1,Nat.le_refl _,h4.2⟩,by omega,h4.1,h4.2⟩
def An (m:aU) (i:Nat):jO:=(m.bK[i]?).getD ⟨0,0,[]⟩
theorem G0 {z:jO} (h:m.bK[i]?=some z):An m i=z:=by unfold An;rw [h];rfl
def G3 (m:aU) (d:jO):Nat×Nat×Nat:=dg (NB m d.Mem.toNat).Min.toNat d.At.toNat 0 (d.Bytes.length:Int)
def WH (m:aU) (num:Int) (d:jO) (C:Cont):Cont:=if (G3 m d).2=(0,0) then y8 64 C (num+(d.Mem.toNat:Int)) (d.At.toNat+0) d.Bytes else C
def yj (m:aU) (num:Int) (C:Cont):Nat→Cont
 |0=>C
 |k+1=>WH m num (An m k) (yj m num C k)
def Ck (m:aU):Nat→Nat
 |0=>0
 |k+1=>Ck m k+((An m k).Bytes.length/64+2)
theorem w8 {m:aU} {k:Nat}:∀{n:Nat},k≤n→Ck m k≤Ck m n
 |0,h=>by rw [Nat.le_zero.1 h];exact Nat.le_refl _
 |n+1,h=>by
  by_cases e:k=n+1
  · rw [e];exact Nat.le_refl _
  · exact Nat.le_trans (w8 (show k≤n by omega)) (Nat.le_add_right _ _)
theorem Lv {m:aU} (hm:o4 m):∀n,Ck m n≤n*81
 |0=>Nat.le_refl _
 | n+1=>by
  have ih:=Lv hm n
  have h:(An m n).Bytes.length≤5000:=by
   unfold An
   cases hd:m.bK[n]? with
   |none=>exact Nat.zero_le _
   |some d=>exact (hm.da d (List.mem_of_getElem? hd)).2.2.2
  show Ck m n+((An m n).Bytes.length/64+2)≤_
  omega
variable {d:jO}
theorem SU (h:d.Bytes.length≤5000):(G3 m d).2.2=0:=by
 unfold G3 dg
 rw [if_neg (by omega),if_neg (by omega)]
 split<;>rfl
theorem ND (h:Qw m e≠0):mg m e:=Classical.byContradiction fun hb=>h (if_neg hb)
theorem QA (h:¬Qw m e≠0):¬mg m e:=fun hb=>h (by have h2:Qw m e=5:=if_pos hb;omega)
theorem Lw {C:Cont} (h:m.bK[k]?=some d):yj m num C (k+1)=WH m num d (yj m num C k):=by show WH m num (An m k) _=_;rw [G0 h]
theorem Pk (h:m.bK[k]?=some d):Ck m (k+1)=Ck m k+(d.Bytes.length/64+2):=by show Ck m k+((An m k).Bytes.length/64+2)=_;rw [G0 h]
def nJ (m:aU) (k:Nat):Prop:=∀j e,j<k→m.bY[j]?=some e→¬mg m e
theorem nJ.nil:nJ m 0:=fun _ _ h=>absurd h (Nat.not_lt_zero _)
theorem nJ.next {z:iN} (h:nJ m k) (hz:m.bY[k]?=some z) (hb:¬mg m z):nJ m (k+1):=fun j e hj he=>by
 rcases Nat.lt_succ_iff_lt_or_eq.1 hj with hj|rfl
 · exact h j e hj he
 · rw [hz] at he;cases he;exact hb
def p8 (m:aU) (k:Nat):Prop:=∀j d,j<k→m.bK[j]?=some d→(G3 m d).2=(0,0)
theorem p8.nil:p8 m 0:=fun _ _ h=>absurd h (Nat.not_lt_zero _)
theorem p8.next {z:jO} (h:p8 m k) (hz:m.bK[k]?=some z) (hb:(G3 m z).2=(0,0)):p8 m (k+1):=fun j e hj he=>by
 rcases Nat.lt_succ_iff_lt_or_eq.1 hj with hj|rfl
 · exact h j e hj he
 · rw [hz] at he;cases he;exact hb
def vm (m:aU) (r:Nat×Nat×Int):Prop:=
 (∃k e,m.bY[k]?=some e∧nJ m k∧mg m e∧r=(k,0,5))∨(nJ m m.bY.length∧∃k d,m.bK[k]?=some d∧p8 m k∧(G3 m d).2≠(0,0)∧r=(m.bY.length,k+1,((G3 m d).2.1:Int)))∨
 (nJ m m.bY.length∧p8 m m.bK.length∧r=(m.bY.length,m.bK.length,0))
theorem vm.el (h1:m.bY[k]?=some e) (h2:nJ m k) (h3:mg m e):vm m (k,0,5):= .inl ⟨k,e,h1,h2,h3,rfl⟩
theorem vm.da (h1:m.bK[k]?=some d) (h2:nJ m m.bY.length) (h3:p8 m k) (h4:(G3 m d).2≠(0,0)):vm m (m.bY.length,k+1,((G3 m d).2.1:Int)):= .inr (.inl ⟨h2,k,d,h1,h3,h4,rfl⟩)
theorem vm.all (h2:nJ m m.bY.length) (h3:p8 m m.bK.length):vm m (m.bY.length,m.bK.length,0):= .inr (.inr ⟨h2,h3,rfl⟩)
def p9 (b:Nat):List VP:=[aJ b 0]
instance:gN 1 p9:=⟨fun _=>rfl,fun x q h=>by simp only [p9,List.mem_cons,List.not_mem_nil,or_false] at h;subst h;infer_instance⟩
def iO (pb:Nat) (bs:List Nat) (ms:List J8):List HP:=List.zipWith (fun b M=>eY b pb M) bs ms
def oR (pb:Nat) (bs:List Nat) (ms:List J8):HP:=jI (iO pb bs ms)
theorem w9 {pb:Nat} {b:Nat} {M:J8}:∀{bs:List Nat} {ms:List J8} {j:Nat},bs[j]?=some b→ms[j]?=some M→iO pb bs ms=iO pb (bs.take j) (ms.take j)++eY b pb M::iO pb (bs.drop (j+1)) (ms.drop (j+1))
 |[],_,_,h,_=>by simp at h
 |_::_,[],_,_,h=>by simp at h
 |c::bs,N::ms,0,h1,h2=>by simp at h1 h2;subst h1;subst h2;rfl
 |c::bs,N::ms,j+1,h1,h2=>by
  have ih:=w9 (pb:=pb) (bs:=bs) (ms:=ms) (j:=j) (by simpa using h1) (by simpa using h2)
  show eY c pb N::iO pb bs ms=eY c pb N::(iO pb (bs.take j) (ms.take j)++_)
  rw [ih];rfl
variable {pb:Nat} {b:Nat} {M:J8} {bs:List Nat} {ms:List J8}
theorem Lx {j:Nat} (h1:bs[j]?=some b) (h2:ms[j]?=some M):aB (oR pb bs ms::r) (eY b pb M::jI (iO pb (bs.take j) (ms.take j)++iO pb (bs.drop (j+1)) (ms.drop (j+1)))::r):=by
 refine (aB.unpack (l:=iO pb bs ms)).trans ?_
 rw [w9 h1 h2,List.append_assoc]
 refine (aB.perm ?_).trans (aB.cons _ (aB.pack (l:=iO pb (bs.take j) (ms.take j)++iO pb (bs.drop (j+1)) (ms.drop (j+1)))))
 rw [List.append_assoc,List.cons_append]
 exact List.perm_middle
theorem NF {j:Nat} (h1:bs[j]?=some b) (h2:ms[j]?=some M):aB (eY b pb M::jI (iO pb (bs.take j) (ms.take j)++iO pb (bs.drop (j+1)) (ms.drop (j+1)))::r) (oR pb bs ms::r):=by
 refine aB.trans ?_ (aB.pack (l:=iO pb bs ms))
 rw [w9 h1 h2,List.append_assoc]
 refine (aB.cons _ (aB.unpack (l:=iO pb (bs.take j) (ms.take j)++iO pb (bs.drop (j+1)) (ms.drop (j+1))))).trans (aB.perm ?_)
 rw [List.append_assoc,List.cons_append]
 exact List.perm_middle.symm
theorem Ly (h:bs.length=ms.length):aB (eY b pb M::oR pb bs ms::r) (oR pb (bs++[b]) (ms++[M])::r):=by
 refine (aB.cons _ (aB.unpack (l:=iO pb bs ms))).trans (aB.trans (aB.perm ?_) (aB.pack (l:=iO pb (bs++[b]) (ms++[M]))))
 have e:iO pb (bs++[b]) (ms++[M])=iO pb bs ms++[eY b pb M]:=by unfold iO;rw [List.zipWith_append h];rfl
 rw [e,List.append_assoc]
 exact (List.perm_middle).symm
theorem Lz:aB r (oR pb [] []::r):=aB.pack (l:=[])
end Go.Hl
end
section
namespace Go.Proofs.YtpfobikpggmleaaGreatDoor
open Go.Hl Go.RowKit
variable {n:Nat}
theorem kJ:cQ Tryz.prog 15 [bf (n:Int)] (bf (aR n:Int)):=by
 refine In 12 Tryz.func15 fun _ _ _=> ?_
 refine dH ?_
 refine Cd (fun c0=> ?_) fun c0=> ?_
 ·
  refine Z7 ?_
  refine bJ ?_
  exact aa.int (by unfold aR;rw [if_pos (by omega)];rfl)
 refine Z9 ?_
 refine .aY (σ:=Nat×Nat) (fun _=>[]) (fun s=>[(3,bf (s.1:Int))]) (fun s=>s.1*2^s.2=16*2^19∧16≤s.1∧vk s.2 s.1 n=aR n) (fun s=>s.2) (16,19) ⟨rfl,by decide,by unfold aR;rw [if_neg (by omega)]⟩ rfl ?_ ?_
 · exact (.get rfl (aa.refl _) (.refl _ _))
 rintro ⟨c,k⟩ ⟨hk,QB,hd⟩
 simp only at hk QB hd ⊢
 have hcm:c≤8388608:=by (have h2:0<2^k:=Nat.two_pow_pos k;have h3:c≤c*2^k:=Nat.le_mul_of_pos_right _ h2;omega)
 refine Z8 ?_
 refine Cd (fun c1=> ?_) fun c1=> ?_
 ·
  refine Z9 ?_
  refine .round (c*2,k-1) (by obtain ⟨k,rfl⟩:∃j,k=j+1:=⟨k-1,by (cases k with|zero=>simp at hk;omega|succ k=>omega)⟩;simp only [Nat.add_sub_cancel];exact ⟨by rw [←hk,Nat.pow_succ];simp only [Nat.mul_assoc,Nat.mul_comm,Nat.mul_left_comm],by omega,by (unfold vk at hd;rw [if_pos (by omega)] at hd;exact hd)⟩) (by cases k with|zero=>simp at hk;omega|succ k=>simp) rfl ?_
  exact (.get rfl (aa.int (by simp)) (.keep 7 rfl rfl))
 refine dH ?_
 refine bJ ?_
 exact aa.int (by rw [←hd,HU (by omega)])
variable {X:yd} {a:eO}
theorem Cl {c:Nat} (aq:eg X a) (aT:c≤8388608):cH Tryz.prog 89 [aJ X.ab 0,bf (c:Int)] (dS X a) (γ:=eO×Nat×Bool) (fun g=>g=n8 X.size a c) (fun g=>dS X g.1) (fun g=>bz [bf (g.2.1:Int),ak (g.2.2=true)]):=by
 refine In 58 Tryz.func89 fun _ _ _=> ?_
 have Bk:=aq.hi;have hk2:=aq.most
 refine iw ?_
 refine .p (tS (i:=3) Tryz.Qh Tryz.underlying92 (fun w=>jS Tryz.SJ w) (.t rfl) (.t rfl) rfl) rfl ?_
 refine Z6 ?_
 refine .p (Gx rfl Tryz.underlying61 (.le (.t rfl) (aD 1 (fun n:Int=>[bf n])))) rfl ?_
 refine Z3 ?_
 refine Cd (fun c0=> ?_) fun c0=> ?_
 · simp at c0
 refine Z4 ?_
 refine .bA 11 1 FM.out (by kernel_rfl) (k:= ?_)
 refine Z5 ?_
 refine .p (lX rfl Tryz.underlying59 (.t rfl)) ?_
 refine Z9 ?_
 refine Cd (fun c1=> ?_) fun c1=> ?_
 ·
  refine Z8 ?_
  refine Post.aZ rfl rfl ((a,0,false)) (by unfold n8;rw [if_pos (by omega)]) (fun _ _ _ h=>h) rfl (.cons (.rt rfl) ?_ (.cons (.rt rfl) ?_ .nil))
  · exact aa.refl _
  exact aa.prop (by simp)
 refine Z32 ?_
 refine Post.aZ rfl rfl (({a with height:=a.height+c},a.height,true)) (by unfold n8;rw [if_neg (by omega)]) (fun _ _ _ h=>h) rfl (.cons (.rt rfl) ?_ (.cons (.rt rfl) ?_ .nil))
 · exact aa.refl _
 exact aa.prop (by simp)
theorem mh (aq:eg X a):cH Tryz.prog 41 [aJ X.ab 0,bf (n:Int)] (dS X a) (γ:=eO×Nat×Nat) (fun g=>g=qV X.size a n) (fun g=>dS X g.1) (fun g=>bz [bf (g.2.1:Int),bf (g.2.2:Int)]):=by
 refine In 53 Tryz.func41 fun _ _ _=> ?_
 have Bk:=aq.hi;have hk2:=aq.most;have EK:=aq.len;have Bl:=aq.live;have QC:=mN n
 refine dw ?_
 refine .p (cm FU.out (.t rfl)) rfl ?_
 refine Z3 ?_
 refine Cd (fun c0=> ?_) fun c0=> ?_
 · exact c0.elim
 refine dw ?_
 refine Cd (fun c1=> ?_) fun c1=> ?_
 ·
  refine Z9 ?_
  refine Post.aZ rfl rfl ((a,0,1)) (by unfold qV;rw [if_pos (by omega)]) (fun _ _ _ h=>h) rfl (.cons (.rt rfl) ?_ (.cons (.rt rfl) ?_ .nil))
  · exact .z
  exact .z
 have hk6:¬4194304<n:=by omega
 refine Z6 ?_
 refine .p (cA (h:=kJ)) rfl ?_
 refine Z7 ?_
 refine .n (cE (h:=Cl (by assumption) (by first|assumption|exact mN _))) rfl fun LA DU=> ?_
 refine iw ?_
 refine Cd (fun c2=> ?_) fun c2=> ?_
 ·
  obtain ⟨Yy,QD⟩:=HV (by rw [←DU];exact c2)
  rw [Yy] at DU;subst DU;dsimp only
  refine Z8 ?_
  refine Post.aZ rfl rfl ((a,0,8)) (by unfold qV;rw [if_neg hk6,if_pos QD]) (fun _ _ _ h=>h) rfl (.cons (.rt rfl) ?_ (.cons (.rt rfl) ?_ .nil))
  · exact .z
  exact .z
 obtain ⟨Yy,QD⟩:=Ej (by rw [←DU];exact Classical.not_not.1 c2)
 rw [Yy] at DU;subst DU;dsimp only
 refine dH ?_
 refine .p ((rB (l:=a.height) (h:=a.height+aR n) FU.out FC.out (.t rfl) (.t rfl) (.t rfl) rfl rfl (by omega) (by omega)).le (aa.of_eq (show iI _ _ _=iI X.db a.height (aR n) by rw [Nat.zero_add,Nat.add_sub_cancel_left]))) rfl ?_
 refine .s (Ec (i:=1) rfl Tryz.underlying59 FC.out FZ.out (.t rfl) rfl (by dsimp only;omega)) ?_
 refine cJ ?_
 refine .s (BL (i:=2) _ Tryz.Qf Tryz.underlying91 (.t rfl) (.t rfl) (.t rfl) rfl) ?_
 refine Z9 ?_
 refine .p (eX (.t rfl) (.t rfl) (bN (by dsimp only;omega) (by dsimp only;omega))) rfl ?_
 refine jN ?_
 refine Post.aZ rfl rfl (({bytes:=a.bytes.take a.height++List.replicate (aR n) 0++a.bytes.drop (a.height+aR n),height:=a.height+aR n,live:=a.live+aR n,taken:=fk a.taken (a.height:Int) (aR n:Int)},a.height,0)) (by unfold qV;rw [if_neg hk6,if_neg QD]) (fun _ _ _ h=>h) rfl (.cons (.rt rfl) ?_ (.cons (.rt rfl) ?_ .nil))
 · exact .z
 exact .z
theorem apart_spec {at_:Nat} (aq:eg X a) (aT:at_+n≤X.size):cH Tryz.prog 116 [aJ X.ab 0,bf (at_:Int),bf (n:Int)] (dS X a) (γ:=Unit) (fun _=>True) (fun _=>dS X a) (fun _=>bz [iI X.db at_ n,bf 0]):=by
 refine In 47 Tryz.func116 fun _ _ _=> ?_
 have hk2:=aq.most
 refine dw ?_
 refine .p (cm FU.out (.t rfl)) rfl ?_
 refine Z3 ?_
 refine Cd (fun c0=> ?_) fun c0=> ?_
 · exact c0.elim
 refine iw ?_
 refine .g (cr.gF rfl rfl rfl rfl (fun hg=>lX rfl Tryz.underlying59 (.when (.t rfl) hg))) rfl rfl ?_
 refine Z8 ?_
 refine .g (cr.gF rfl rfl rfl rfl (fun hg=>lX rfl Tryz.underlying59 (.when (.t rfl) hg))) rfl rfl ?_
 refine Z7 ?_
 refine Cd (fun c1=> ?_) fun c1=> ?_
 · exfalso;omega
 refine jN ?_
 refine .p ((rB (l:=at_) (h:=at_+n) FU.out FC.out (.t rfl) (.t rfl) (.t rfl) rfl rfl (by omega) (by omega)).le (aa.of_eq (show iI _ _ _=iI X.db at_ n by rw [Nat.zero_add,Nat.add_sub_cancel_left]))) rfl ?_
 refine Z5 ?_
 refine jr ?_ ?_
 · exact .z
 exact .z
end Go.Proofs.YtpfobikpggmleaaGreatDoor
end
section
namespace Go.Proofs.YtpfobikpggmleaaGreatDoor
open Go.Hl
def vH (p:List UInt8×Int):List VP:=[cM p.1,nt Tryz.prog (fun _:Unit=>True) (fun _=>[]) (fun _=>ag .i64 p.2)]
instance:gN 2 vH:=⟨fun _=>rfl,fun x q h=>by simp only [vH,List.mem_cons,List.not_mem_nil,or_false] at h;rcases h with h|h<;>rw [h]<;>infer_instance⟩
instance (x:List UInt8×Int):bC (vH x):=bC.of x
noncomputable def lg (m:aU):List (List UInt8×Int):=[([115,105,103,115],za m),([105,109,112,111,114,116,115],nG m),([102,117,110,99,115],jD m),([116,97,98,108,101],l9 m),([109,101,109,115],zc m),([103,108,111,98,97,108,115],nH m),([101,120,112,111,114,116,115],me m),([115,116,97,114,116],iJ m),([101,108,101,109,115],ua m),([100,97,116,97],uc m)]
noncomputable def rP (m:aU):List UInt8×Int:=((lg m).find? fun p=>p.2 !=0).getD ([],0)
variable {m:aU}
theorem LB {k:Nat} {p:List UInt8×Int} (h:cD (fun p:List UInt8×Int=>p.2≠0) (lg m) k) (hp:(lg m)[k]?=some p) (hn:p.2≠0):rP m=p:=by
 unfold rP
 have key:∀(l:List (List UInt8×Int)) (k:Nat),cD (fun p:List UInt8×Int=>p.2≠0) l k→l[k]?=some p→l.find? (fun p=>p.2 !=0)=some p:=by
  intro l
  induction l with
  |nil=>intro k _ h;simp at h
  | cons x l ih=>
   intro k h hk
   cases k with
   |zero=>simp at hk;subst hk;simp [hn]
   |succ k=>
    have h0:=h 0 x (by omega) rfl
    simp only [ne_eq,Classical.not_not] at h0
    rw [List.find?_cons_of_neg (by simp [h0])]
    exact ih k (fun j y hj hy=>h (j+1) y (by omega) (by simpa using hy)) (by simpa using hk)
 rw [key _ k h hp];rfl
theorem xb (h:∀p∈lg m,¬p.2≠0):rP m=([],0):=by
 unfold rP
 rw [List.find?_eq_none.2 (fun p hp=>by have:=h p hp;simpa using this)];rfl
theorem LC:(rP m).2=0↔∀p∈lg m,p.2=0:=by
 constructor
 · intro h p hp
   unfold rP at h
   cases hf:(lg m).find? (fun p=>p.2 !=0) with
   |none=>have:=List.find?_eq_none.1 hf p hp;simpa using this
   |some x=>rw [hf] at h;have:=List.find?_some hf;simp at this h;exact absurd h this
 · intro h;rw [xb (fun p hp=>by simpa using h p hp)]
theorem uj:(lg m).length=10:=rfl
end Go.Proofs.YtpfobikpggmleaaGreatDoor
end
