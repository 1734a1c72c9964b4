/-
  What the statement's proof leans on, several texts in one (packed by a program).
-/
import Derived.Test.YtmacjbfbpjgmnaaGreatDoorRNJ
import Derived.Laws.IdiomRangeMap
import Derived.RangeFuncIn
import Derived.RangeFuncRecord
import Derived.RangeFuncLeaves
set_option linter.all false
set_option maxRecDepth 1000000
set_option maxHeartbeats 4000000
section
namespace Go.Hl
open Go.RowKit
def ux(f:FuncId)(ps:List VP):VP:=⟨fun S w v=>∃lb:List Value,v= .func (.func f) #[] lb.toArray∧e9 ps S w lb,fun h1 h2 ⟨lb,hv,h⟩=>⟨lb,hv,h.mono h1 h2⟩⟩
instance (f:FuncId) (ps:List VP):Flat (ux f ps):=⟨fun⟨_,h,_⟩=>by subst h;exact⟨rfl,rfl⟩⟩
structure wo where
 fn:FuncId
 tmps:Array Value
 ps:Array Tmp
 assign:Code
 body:Code
def wo.loop(r:wo)(D:Nat)(st:LoopState):Loop:={state:=st,pending:=none,fn:=r.fn,tmps:=r.tmps,params:=r.ps,assign:=r.assign,body:=r.body,defers:=D}
def kB(l D:Nat)(st:LoopState)(r:wo)(e:Env):HP:=
 ⟨fun F S w=>(F l∧F D∧l≠D)∧w.heap[l]?=some (.loop (r.loop D st))∧w.heap[D]?=some (.deferred (some []))∧cn e S w r.tmps,
  fun h1 h2 h3 h4 ⟨⟨a,b,c⟩,h,k,he⟩=>⟨⟨h1 _ a,h1 _ b,c⟩,(h3 _ a).trans h,(h3 _ b).trans k,he.mono h2 h4⟩⟩
def HR(D:Nat):HP:=⟨fun F S w=>F D∧w.heap[D]?=some (.deferred (some [])),fun h1 h2 h3 h4 ⟨a,h⟩=>⟨h1 _ a,(h3 _ a).trans h⟩⟩
abbrev yV(l:Nat):VP:=af (.func (.yield l) #[] #[])
theorem ir.over{c:Ctx}{w w':World}{S F F1 F2 S' F1':BS}{hs' rest:List HP}(ax:ir c w S F)(lW:∀k,F1 k→F k∧¬F2 k)(rZ:∀k,F2 k→F k)(EP:cT rest F2 S w){nn:Nat}{ρ:Option Nat}{df:List Deferred}(h2:ir ⟨w,S,F1,nn,ρ,df⟩ w' S' F1')(lC:cT hs' F1' S' w'):
    ir c w' S' (fun k=>F1' k∨F2 k)∧(∀k,S k→S' k)∧(∀k,S k→w'.heap[k]?=w.heap[k]?)∧cT (hs'++rest) (fun k=>F1' k∨F2 k) S' w':=by
  have hSF:∀k,S k→¬F1 k:=fun k hk hf=>ax.cR k hk (lW k hf).1;have hoS:∀k,S k→w'.heap[k]?=w.heap[k]?:=fun k hk=>h2.kept k (ax.bD k hk) (hSF k hk);have ho2F:∀k,F2 k→¬F1 k:=fun k hk hf=>(lW k hf).2 hk;refine⟨⟨h2.os.trans ax.os,h2.tape.trans ax.tape,h2.output.trans ax.output,Nat.le_trans ax.size h2.size,fun k hk hm=>?_,fun k hk hf=>?_,h2.bD,fun k hk=>?_,fun k hk=>?_,fun k hk=>?_,fun k hk=>h2.base k (ax.base k hk)⟩,h2.base,hoS,?_⟩
  · have hnF:¬F1 k:=fun hf=>(ax.own k (lW k hf).1).elim hm (fun h=>by omega)
    exact(h2.kept k (Nat.lt_of_lt_of_le hk ax.size) hnF).trans (ax.kept k hk hm)
  · rcases hf with hf|hf
    · exact h2.cR k hk hf
    · rcases h2.shr k hk with h|h|h
      · exact ax.cR k h (rZ k hf)
      · exact(lW k h).2 hf
      · exact Nat.lt_irrefl _ (Nat.lt_of_lt_of_le (ax.bO k (rZ k hf)) h)
  · rcases hk with hk|hk
    · exact h2.bO k hk
    · exact Nat.lt_of_lt_of_le (ax.bO k (rZ k hk)) h2.size
  · rcases hk with hk|hk
    · rcases h2.own k hk with h|h
      · exact ax.own k (lW k h).1
      · exact .inr (Nat.le_trans ax.size h)
    · exact ax.own k (rZ k hk)
  · rcases h2.shr k hk with h|h|h
    · exact ax.shr k h
    · exact .inr (ax.own k (lW k h).1)
    · exact .inr (.inr (Nat.le_trans ax.size h))
  · refine cT.append.2 ⟨F1',F2,fun k hk=>⟨.inl hk,fun hf=>?_⟩,fun k hk=> .inr hk,lC,EP.mono (fun _ h=>h) h2.base (fun k hk=>h2.kept k (ax.bO k (rZ k hk)) (ho2F k hk)) hoS⟩
    rcases h2.own k hk with h|h
    · exact(lW k h).2 hf
    · exact Nat.lt_irrefl _ (Nat.lt_of_lt_of_le (ax.bO k (rZ k hf)) h)
def Ts(c:Ctx)(hs':List HP):Ending→World→Prop:=fun e w'=>e= .returned (.bool true)∧∃S' F',ir ⟨c.w0,c.S0,c.M,0,none,[]⟩ w' S' F'∧cT hs' F' S' w'
def LF(P:Program)(l:Nat)(ps:List VP)(hs hs':List HP):Prop:=
 ∀(w:World) (S F:BS) (vs:List Value),(∀k,S k→k<w.heap.size)→(∀k,F k→k<w.heap.size)→(∀k,S k→¬F k)→cT hs F S w→e9 ps S w vs→
  ∃(fn:FuncId) (tmps:Array Value) (assign body:Code),(Instr.yield l vs.toArray).run P w= .ok (.round l fn tmps assign body) w∧RoundIn (WF none) 0 P l fn tmps assign body w (Ts ⟨w,S,F,0,none,[]⟩ hs')
section
variable {P:Program} {ops:Array Oper} {Q:Exit→Act→World→Prop} {c:Ctx} {hs:List HP} {env:Env} {q:VP} {dst:Option Tmp} {ty T T':TypeId} {pos:String} {after:Array Edge} {gd:Option (Nat×Bool)} {x y z:Operand}
theorem q9{f:FuncId}{cs:List VP}{ys:List Operand}(h2:iN env ys cs):aT P hs env ⟨dst, .makeFunc (.func f) #[] ys.toArray,ty,pos,after,gd⟩ (ux f cs):=by
 intro a w S F _ _ _ _ he K Q hk;unfold Oper.wp;exact hk _ w S (ez.refl _ _) ⟨_,by simp,h2 S w a he⟩
theorem bG.yld{lst:List Oper}{l d:Nat}{ys:List Operand}{ats:Array TypeId}{ps:List VP}{hs0 qP rest:List HP}(hY:LF P l ps hs0 qP)(hx:aU env x (yV l))(hys:iN env ys ps)(hp:hs.Perm (hs0++rest))(hd:Nat.blt d c.n=true)
    (k:bG P ops Q c lst (qP++rest) ((d,ak True)::env)):bG P ops Q c (⟨some d, .call ⟨.value x,ys.toArray,ats⟩,ty,pos,after,none⟩::lst) hs env:=by
  intro a w hst;obtain⟨h1,h2,S,F,h3,h4,h5⟩:=hst;obtain⟨F1,F2,lW,rZ,Ey,EP⟩:=cT.append.1 (h4.perm hp);have IZ:∀k,F1 k→k<w.heap.size:=fun k hk=>h3.bO k (lW k hk).1;have hSF:∀k,S k→¬F1 k:=fun k hk hf=>h3.cR k hk (lW k hf).1;obtain⟨fn,tmps,assign,body,hyl,hrd⟩:=hY w S F1 _ h3.bD IZ hSF Ey (hys S w a h5);have hv:=hx S w a h5;simp only[af] at hv
  refine wpListIn_plain rfl fun K hK=>⟨fun _ _=>trivial,?_⟩;rw[Oper.semAt_eq _ _ _ (fun _ e=>by cases e)]
  have hr:(execOp a.eval ⟨some d, .call ⟨.value x,ys.toArray,ats⟩,ty,pos,after,none⟩).run P w= .ok (.round l fn tmps assign body) w:=by
    simp[execOp,resolve,Deferred.ofValue,invoke,hv] at hyl ⊢;exact hyl
  rw[hr];refine⟨fun h=>(by cases h),RoundIn.mono (F:=WF c.ro) hrd ?_⟩;rintro e w' ⟨rfl,S',F1',hs',ho'⟩;obtain⟨k1,k2,k3,k4⟩:=h3.over lW rZ EP hs' ho';refine hK _ _ (k _ _ ⟨?_,?_,S',_,k1,k4,?_⟩)
  · rw[Act.cU];exact h1
  · rw[Act.fy];exact h2
  · exact(h5.mono k2 k3).put ⟨true,rfl,by simp⟩ (by rw[h2];simpa using hd)
def QY(P:Program)(l:Nat)(c:Ctx)(hs':List HP):Exit→Act→World→Prop:=roundPost P l (Ts c hs')
def QZ(P:Program)(l:Nat)(c:Ctx)(hs':List HP)(body:Code):Exit→Act→World→Prop:=Exit.then (fun a w=>∃w₂,(Instr.beginRound l).run P w= .ok () w₂∧body.wpIn (WF (some l)) 0 P (QY P l c hs') a w₂) (fun _ _ _=>False)
theorem ir.Q0{c:Ctx}{w:World}{S F:BS}{h0 h1:HP}(ax:ir c w S F)(hown:cT (h0::hs) F S w){m:Nat}{o:Obj}(hF:∀F1,h0.p F1 S w→F1 m)(hp:∀F1,(∀k,S k→(w.putObj m o).heap[k]?=w.heap[k]?)→h0.p F1 S w→h1.p F1 S (w.putObj m o)):ir c (w.putObj m o) S F∧cT (h1::hs) F S (w.putObj m o)∧(∀k,S k→(w.putObj m o).heap[k]?=w.heap[k]?):=by
 obtain⟨F1,F2,f1,f2,f3,f4⟩:=hown;have hFm:=hF F1 f3;have hne:∀k,k≠m→(w.putObj m o).heap[k]?=w.heap[k]?:=fun k hk=>World.putObj_heap_other hk;have hag:∀k,S k→(w.putObj m o).heap[k]?=w.heap[k]?:=fun k hk=>hne k (fun e=>ax.cR k hk (e▸(f1 m hFm).1));exact⟨ax.write (f1 m hFm).1 rfl rfl rfl World.putObj_size hne,⟨F1,F2,f1,f2,hp F1 hag f3,f4.mono (fun _ h=>h) (fun _ h=>h) (fun k hk=>hne k (fun e=>(f1 m hFm).2 (e▸hk))) hag⟩,hag⟩
theorem kB.ES{l D:Nat}{st st':LoopState}{r:wo}{e0:Env}{F1 S:BS}{w:World}(hag:∀k,S k→(w.putObj l (.loop (r.loop D st'))).heap[k]?=w.heap[k]?)(h:(kB l D st r e0).p F1 S w):(kB l D st' r e0).p F1 S (w.putObj l (.loop (r.loop D st'))):=by
 obtain⟨⟨a,b,c⟩,h,k,he⟩:=h;exact⟨⟨a,b,c⟩,World.putObj_heap_same (Array.getElem?_eq_some_iff.1 h).1,(World.putObj_heap_other (fun e=>c e.symm)).trans k,he.mono (fun _ h=>h) hag⟩
theorem bx.begin{l D:Nat}{r:wo}{e0:Env}{hs':List HP}{body:Code}{c':Ctx}(h:aJ P (QY P l c' hs') c body (kB l D .busy r e0::hs) env)(hro:c.ro=some l:=by rfl):bx (QZ P l c' hs' body) .normal c (kB l D .ready r e0::hs) env:=by
 intro a w hst;obtain⟨h1,h2,S,F,h3,h4,h5⟩:=hst;obtain⟨F1,F2,f1,f2,f3,f4⟩:=id h4;have hl:=f3.2.1;obtain⟨k1,k2,k3⟩:=h3.Q0 (h1:=kB l D .busy r e0) (m:=l) (o:= .loop (r.loop D .busy)) h4 (fun F1 h=>h.1.1) (fun F1 hag h=>kB.ES hag h);refine⟨_,run_beginRound hl rfl,?_⟩;have:=h a _ ⟨h1,h2,S,F,k1,k2,h5.mono (fun _ h=>h) k3⟩;rw[hro] at this;exact this
theorem bx.endRound{l D:Nat}{r:wo}{e0:Env}{hs':List HP}{c':Ctx}(hc:c'.w0=c.w0∧c'.S0=c.S0∧c'.M=c.M:=by exact⟨rfl,rfl,rfl⟩):bx (QY P l c' (kB l D .ready r e0::hs')) .normal c (kB l D .busy r e0::hs') env:=by
 intro a w hst;obtain⟨h1,h2,S,F,h3,h4,h5⟩:=hst;obtain⟨F1,F2,f1,f2,f3,f4⟩:=id h4;have hl:=f3.2.1;obtain⟨k1,k2,k3⟩:=h3.Q0 (h1:=kB l D .ready r e0) (m:=l) (o:= .loop (r.loop D .ready)) h4 (fun F1 h=>h.1.1) (fun F1 hag h=>kB.ES hag h);refine⟨_,_,run_endRound none hl,rfl,S,F,?_,k2⟩;obtain⟨e1,e2,e3⟩:=hc;rw[e1,e2,e3];exact⟨k1.os,k1.tape,k1.output,k1.size,k1.kept,k1.cR,k1.bD,k1.bO,k1.own,k1.shr,k1.base⟩
def argsAt:List Tmp→List VP→Env
 |t::ts,p::ps=>(t,p)::argsAt ts ps
 |_,_=>[]
theorem ze{S:BS}{w:World}{env:Env}:∀(ts:List Tmp) (ps:List VP) (vs:List Value) (tmps:Array Value),ts.length=ps.length→e9 ps S w vs→cn env S w tmps→(∀t∈ts,t<tmps.size)→ts.Nodup→
    cn (argsAt ts ps++env) S w ((ts.zip vs).foldl (fun tmps (p:Tmp×Value)=>tmps.setIfInBounds p.1 p.2) tmps)
  | [],ps,vs,tmps,hl,hv,he,_,_=>by
    cases ps with
    |nil=>cases vs<;>exact he
    |cons p ps=>simp at hl
  | t ::ts,ps,vs,tmps,hl,hv,he,ht,hn=>by
    cases ps with
    |nil=>simp at hl
    | cons p ps =>
      cases vs with
      |nil=>have:=hv.1;simp at this
      | cons v vs=>
        rw[List.nodup_cons] at hn;have h0:p.p S w v:=hv.2 0 p v rfl rfl;have qI:e9 ps S w vs:=⟨by have:=hv.1;simpa using this,fun j q u hq hu=>hv.2 (j+1) q u (by simpa using hq) (by simpa using hu)⟩;have he':cn ((t,p)::env) S w (tmps.setIfInBounds t v):=cn.put (a:={tmps:=tmps,defers:=[]}) he h0 (ht t (List.mem_cons_self ..));have ih:=ze ts ps vs (tmps.setIfInBounds t v) (by simpa using hl) qI he' (fun u hu=>by simp;exact ht u (List.mem_cons_of_mem _ hu)) hn.2;intro u q hq;refine ih u q ?_
        have key:∀(ts:List Tmp) (ps:List VP),t∉ts→look ((t,p)::(argsAt ts ps++env)) u=some q→look (argsAt ts ps++(t,p)::env) u=some q:=by
          intro ts
          induction ts with
          |nil=>intro ps _ h;cases ps<;>exact h
          | cons s ts ih2=>
            intro ps hs h;cases ps with
            |nil=>exact h
            | cons p2 ps=>
              simp only[argsAt,List.cons_append,bw] at h ⊢;by_cases e:s=u
              · rw[if_pos e] at h ⊢
                rw[if_neg (fun e2:t=u=>hs (by rw[e2,←e];exact List.mem_cons_self ..))] at h;exact h
              · rw[if_neg e] at h ⊢
                exact ih2 ps (fun hm=>hs (List.mem_cons_of_mem _ hm)) (by rw[bw];exact h)
        exact key ts ps hn.1 hq
theorem An{l D:Nat}{r:wo}{e0:Env}{n:Nat}{arg:List VP}{hs hs':List HP}(hlen:r.ps.toList.length=arg.length)(hsz:r.tmps.size=n)(hlt:∀t∈r.ps.toList,t<n)(hnd:r.ps.toList.Nodup)
    (hround:∀(w0:World) (S0 M:BS),aJ P (QZ P l ⟨w0,S0,M,n,some l,[]⟩ (kB l D .ready r e0::hs') r.body) ⟨w0,S0,M,n,some l,[]⟩ r.assign (kB l D .ready r e0::hs) (argsAt r.ps.toList arg++e0)):LF P l arg (kB l D .ready r e0::hs) (kB l D .ready r e0::hs'):=by
  intro w S F vs hS hF hSF hown hall;obtain⟨F1,F2,f1,f2,f3,f4⟩:=id hown;have hl:=f3.2.1;have hvl:vs.length=r.ps.size:=by rw[←hall.1,←hlen];simp
  refine⟨r.fn,_,r.assign,r.body,run_yield hl (by simpa[wo.loop] using hvl),?_⟩;refine roundIn_of_wpIn (F:=WF none) trivial ?_;refine hround w S F {tmps:=_,defers:=[]} w ⟨rfl,?_,S,F,⟨rfl,rfl,rfl,Nat.le_refl _,fun _ _ _=>rfl,hSF,hS,hF,fun k hk=> .inl hk,fun k hk=> .inl hk,fun _ hk=>hk⟩,hown,?_⟩
  · have N6:∀(l:List (Tmp×Value)) (tmps:Array Value),(l.foldl (fun tmps (p:Tmp×Value)=>tmps.setIfInBounds p.1 p.2) tmps).size=tmps.size:=by
      intro l
      induction l with
      |nil=>intro _;rfl
      |cons p l ih=>intro tmps;rw[List.foldl_cons,ih];simp
    show((r.ps.zip vs.toArray).foldl (fun tmps (p:Tmp×Value)=>tmps.setIfInBounds p.1 p.2) r.tmps).size=n
    rw[←Array.foldl_toList];exact(N6 _ _).trans hsz
  · have:=ze (env:=e0) r.ps.toList arg vs r.tmps hlen hall f3.2.2.2 (fun t ht=>by rw[hsz];exact hlt t ht) hnd
    show cn _ S w ((r.ps.zip vs.toArray).foldl (fun tmps (p:Tmp×Value)=>tmps.setIfInBounds p.1 p.2) r.tmps)
    rw[←Array.foldl_toList];have e:(r.ps.zip vs.toArray).toList=r.ps.toList.zip vs:=by simp
    rw[e];exact this
end
def wq(P:Program)(fn:Func)(c:Ctx){γ:Type}(φ:γ→Prop)(hs':γ→List HP)(q:γ→VP):Exit→Act→World→Prop:=
 bodyPostM (WF none) 0 P fn fun e w'=>∃v S' F' g,e= .returned v∧ir ⟨c.w0,c.S0,c.M,0,none,[]⟩ w' S' F'∧φ g∧cT (hs' g) F' S' w'∧(q g).p S' w' v
theorem bk.Q1{P:Program}{f:FuncId}{fn:Func}{x:Code}{ps:List VP}{hs:List HP}{γ:Type}{φ:γ→Prop}{hs':γ→List HP}{q:γ→VP}
    (n:Nat) (hf:P.funcs[f]?=some fn) (hb:fn.body=some x) (hnt:fn.ntmps=n) (hn:Nat.ble ps.length n=true)
    (h:∀(w0:World) (S0 M:BS),aJ P (wq P fn ⟨w0,S0,M,n,none,[]⟩ φ hs' q) ⟨w0,S0,M,n,none,[]⟩ x hs (args ps)):bk P f ps hs φ hs' q:=by
  intro w S F vs hS hF hSF hown hall;have hlen:ps.length=vs.size:=by simpa using hall.1
  have hn':ps.length≤n:=by simpa using hn
  refine callsIn_wide.1 (callsIn_of_wp_marks (F:=WF none) (n:=0) hf hb trivial (h w S F _ _ ⟨rfl,?_,S,F,?_,hown,?_⟩))
  · simp;omega
  · exact⟨rfl,rfl,rfl,Nat.le_refl _,fun _ _ _=>rfl,hSF,hS,hF,fun k hk=> .inl hk,fun k hk=> .inl hk,fun _ hk=>hk⟩
  · intro t q' hl
    obtain⟨j,hj,hq⟩:=ld ps 0 t q' hl;have rY:t=j:=by omega
    subst rY;have hjl:t<ps.length:=(List.getElem?_eq_some_iff.1 hq).1;have Hj:t<vs.size:=by omega
    have:(vs++Array.replicate (fn.ntmps-vs.size) undef).getD t undef=vs[t]:=by simp[Array.getElem?_append,Hj]
    rw[this];exact hall.2 t q' _ hq (by simp[Hj])
section
variable {P:Program} {Q:Exit→Act→World→Prop} {c:Ctx} {hs:List HP} {env:Env}
abbrev uy(D:Nat):List Deferred:=[{target:= .collected D,args:= #[]}]
theorem wq.leave{fn:Func}{c0:Ctx}{γ:Type}{φ:γ→Prop}{hs':γ→List HP}{q:γ→VP}{D:Nat}(hdf:c.df=uy D)(hc:c0.w0=c.w0∧c0.S0=c.S0∧c0.M=c.M)(g:γ)(hφ:φ g)(hh:∀F S w,cT hs F S w→cT (hs' g) F S w)
    (hres:∀F S w (tmps:Array Value),cT hs F S w→cn env S w tmps→∃v,(results fn tmps).run P w= .ok v w∧(q g).p S w v):bx (wq P fn c0 φ hs' q) .ret c (HR D::hs) env:=by
  intro a w hst;obtain⟨h1,h2,S,F,h3,h4,h5⟩:=hst;obtain⟨F1,F2,f1,f2,f3,f4⟩:=id h4;obtain⟨hFD,hD⟩:=f3;have hne:∀k,k≠D→(w.putObj D (.deferred none)).heap[k]?=w.heap[k]?:=fun k hk=>World.putObj_heap_other hk;have hag:∀k,S k→(w.putObj D (.deferred none)).heap[k]?=w.heap[k]?:=fun k hk=>hne k (fun e=>h3.cR k hk (e▸(f1 D hFD).1));have k1:ir c (w.putObj D (.deferred none)) S F:=h3.write (f1 D hFD).1 rfl rfl rfl World.putObj_size hne;have k2:cT hs F S (w.putObj D (.deferred none)):=f4.mono f2 (fun _ h=>h) (fun k hk=>hne k (fun e=>(f1 D hFD).2 (e▸hk))) hag;obtain⟨v,hv,hq⟩:=hres _ _ _ a.tmps k2 (h5.mono (fun _ h=>h) hag);obtain⟨e1,e2,e3⟩:=hc
  show LeavesInM (WF none) 0 P fn a.tmps _ a.defers .returning w
  rw[h1,hdf];refine⟨fun e=>(by cases e), .inl ⟨D,_,rfl,run_takeDeferred hD,v,hv,v,S,F,g,rfl,?_,hφ,hh _ _ _ k2,hq⟩⟩;rw[e1,e2,e3];exact⟨k1.os,k1.tape,k1.output,k1.size,k1.kept,k1.cR,k1.bD,k1.bO,k1.own,k1.shr,k1.base⟩
theorem wq.aO{fn:Func}{c0:Ctx}{γ:Type}{φ:γ→Prop}{hs':γ→List HP}{q:γ→VP}{r:ResultVar}{q0:VP}{D:Nat}(hr:fn.results= #[r])(g:γ)(hφ:φ g)(hh:∀F S w,cT hs F S w→cT (hs' g) F S w)(h:PF P hs env r q0)(hq:ag q0 (q g))
    (hdf:c.df=uy D:=by rfl) (hc:c0.w0=c.w0∧c0.S0=c.S0∧c0.M=c.M:=by exact⟨rfl,rfl,rfl⟩):bx (wq P fn c0 φ hs' q) .ret c (HR D::hs) env:=
  wq.leave hdf hc g hφ hh fun F S w tmps ho he=>by
    obtain⟨vs,e1,e2⟩:=oQ (P:=P) hr (vH.cons h hq vH.nil) ho he
    match vs,e2 with
    |[v],e2=>exact⟨v,e1,e2.2 0 _ v rfl rfl⟩
theorem aJ.Q2{g:Operand}{ps:Array Tmp}{assign body:Code}{f:FuncId}{psb:List VP}{qi:VP}(N:Nat)(J:Nat→List HP)(arg:Nat→List VP)(hro:c.ro=none)(hdf:c.df=[])(hh:hs=J 0)
    (hcb:iu P f=true) (hg:aU env g (ux f psb)) (hps:(ps.toList.all fun t=>Nat.blt t c.n)=true) (hnd:ps.toList.Nodup) (hlen:∀j,j<N→(arg j).length=ps.toList.length)
    (hit:∀(l D:Nat) (r:wo),(∀j,j<N→LF P l (arg j) (kB l D .ready r env::J j) (kB l D .ready r env::J (j+1)))→bk P f (yV l::psb) (kB l D .ready r env::J 0) (γ:=Unit) (fun _=>True) (fun _=>kB l D .ready r env::J N) (fun _=>qi))
    (hround:∀(l D:Nat) (fn:FuncId) (tmps:Array Value) (j:Nat),j<N→∀(w0:World) (S0 M:BS),aJ P (QZ P l ⟨w0,S0,M,c.n,some l,[]⟩ (kB l D .ready ⟨fn,tmps,ps,assign,body⟩ env::J (j+1)) body) ⟨w0,S0,M,c.n,some l,[]⟩ assign (kB l D .ready ⟨fn,tmps,ps,assign,body⟩ env::J j) (argsAt ps.toList (arg j)++env))
    (hend:∀D,bx Q .normal {c with df:=uy D} (HR D::J N) env):aJ P Q c (.rangeFunc g ps assign body) hs env:=by
  intro a w hst;obtain⟨h1,h2,S,F,h3,h4,h5⟩:=hst;subst hh;obtain⟨lb,hv,hlb⟩:=hg S w a h5;rw[show WF c.ro=WF none by rw[hro]];refine wpIn_rangeFunc fun fn _=>?_
  let r:wo:=⟨fn,a.tmps,ps,assign,body⟩
  let D:=w.heap.size
  let l:=w.heap.size+1
  let w1:World:=(w.alloc (.deferred (some []))).alloc (.loop (r.loop D .ready))
  have s1:ir c w1 S (fun k=>k=l∨(k=D∨F k)):=by
    have:=(h3.eL (.deferred (some []))).eL (.loop (r.loop D .ready));have e:({w with heap:=w.heap.push (.deferred (some []))}:World).heap.size=l:=by simp[l]
    rw[e] at this;exact this
  have hold:∀k,k<w.heap.size→w1.heap[k]?=w.heap[k]?:=fun k hk=>by
    show((w.heap.push _).push _)[k]?=_
    rw[Array.getElem?_push_lt (by simp;omega)];simp[Array.getElem_push_lt hk,hk]
  have hagS:∀k,S k→w1.heap[k]?=w.heap[k]?:=fun k hk=>hold k (h3.bD k hk)
  have o1:cT (kB l D .ready r env::J 0) (fun k=>k=l∨(k=D∨F k)) S w1:=by
    refine⟨fun k=>k=l∨k=D,F,fun k hk=>⟨hk.elim .inl fun e=> .inr (.inl e),fun hf=>?_⟩,fun k hk=> .inr (.inr hk),⟨⟨.inl rfl, .inr rfl,by simp[l,D]⟩,?_,?_,h5.mono (fun _ h=>h) hagS⟩,h4.mono (fun _ h=>h) (fun _ h=>h) (fun k hk=>hold k (h3.bO k hk)) hagS⟩
    · have:=h3.bO k hf
      rcases hk with e|e<;>(simp only[l,D] at e;omega)
    · show((w.heap.push _).push _)[w.heap.size+1]?=_
      have:w.heap.size+1=(w.heap.push (Obj.deferred (some []))).size:=by simp
      rw[this,Array.getElem?_push_size]
    · show((w.heap.push _).push _)[w.heap.size]?=_
      rw[Array.getElem?_push_lt (by simp)];simp
  have hy:∀j,j<N→LF P l (arg j) (kB l D .ready r env::J j) (kB l D .ready r env::J (j+1)):=fun j hj=>
    An (n:=c.n) (hlen j hj).symm h2 (fun t ht=>by simpa using List.all_eq_true.1 hps t ht) hnd fun w0 S0 M=>hround l D fn a.tmps j hj w0 S0 M
  have hcall:=hit l D r hy w1 S _ (#[.func (.yield l) #[] #[]]++lb.toArray) s1.bD s1.bO s1.cR o1 (by
    have:e9 (yV l::psb) S w1 (.func (.yield l) #[] #[]::lb):=⟨by simp[hlb.1],fun j p v hj qI=>by
      cases j with
      |zero=>simp at hj qI;subst hj;subst qI;rfl
      |succ j=>exact(hlb.mono (fun _ h=>h) hagS).2 j p v (by simpa using hj) (by simpa using qI)⟩
    simpa using this)
  have hent:(Instr.enterLoop fn a.tmps ps assign body none).run P w= .ok (l,uy D) w1:=run_enterLoop_outer fn a.tmps ps assign body
  have hres:(resolve a.eval (rangeCall g l) 0).run P w1= .ok {target:= .fn (.func f) lb.toArray,args:= #[.func (.yield l) #[] #[]]} w1:=by
    have e:a.eval (.const (.func (.yield l) #[] #[]))= .func (.yield l) #[] #[]:=rfl;simp[resolve,rangeCall,hv,Deferred.ofValue,e]
  have hinv:(invoke (.fn (.func f) lb.toArray) #[.func (.yield l) #[] #[]]).run P w1= .ok (.enter f (#[.func (.yield l) #[] #[]]++lb.toArray)) w1:=by
    have:=ei hcb (#[.func (.yield l) #[] #[]]++lb.toArray) w1;simp[invoke] at this ⊢;exact this
  have Ab:CallsIn (WF none) (0-1) P f (#[.func (.yield l) #[] #[]]++lb.toArray) w1 (rangePost (WF none) 0 P l Q {a with defers:=uy D++a.defers}):=by
    refine CallsIn.mono (BL hcall) ?_;rintro e w' ⟨v,S',F',_,rfl,hs',_,ho',_⟩;obtain⟨k1,k2,k3,k4⟩:=s1.over (rest:=[]) (F2:=fun _=>False) (fun k hk=>⟨hk,id⟩) (fun k hk=>hk.elim) trivial hs' ho';rw[List.append_nil] at k4;obtain⟨G1,G2,g1,g2,g3,g4⟩:=id k4;have hl:=g3.2.1;obtain⟨m1,m2,m3⟩:=k1.Q0 (h1:=HR D) (m:=l) (o:= .loop {r.loop D .ready with state:= .exhausted}) k4 (fun F1 h=>h.1.1) (fun F1 hag h=>⟨h.1.2.1,(World.putObj_heap_other (fun e=>h.1.2.2 e.symm)).trans h.2.2.1⟩);refine⟨none,_,run_endLoop hl (by simp[wo.loop]),?_⟩;refine hend D _ _ ⟨?_,h2,S',_,⟨m1.os,m1.tape,m1.output,m1.size,m1.kept,m1.cR,m1.bD,m1.bO,m1.own,m1.shr,m1.base⟩,m2,(h5.mono k2 (fun k hk=>(k3 k hk).trans (hagS k hk))).mono (fun _ h=>h) m3⟩
    show uy D++a.defers=uy D
    rw[h1,hdf];rfl
  exact⟨l,uy D,w1,_,w1,f,_,w1,hent,hres,fun _ _=>trivial,hinv,fun h=>(by cases h),Ab⟩
end
theorem bx.share{hs:List HP}{env:Env}{Q:Exit→Act→World→Prop}{c:Ctx}{e0:Exit}{i b off t:Nat}{cs:List VP}(hi:hs[i]?=some (aF b cs))(ht:look env t=some (ai b off))(h:bx Q e0 c (hs.eraseIdx i) ((t,bH (cs.drop off))::env)):bx Q e0 c hs env:=by
 intro a w ⟨h1,h2,S,F,h3,h4,h5⟩;obtain⟨F1,F2,f1,f2,f3,f5,_⟩:=h4.ue hi;have hb:=f1 b f3.1;have hS:∀k,S k→S k∨k=b:=fun _ h=> .inl h;have hc:bQ (fun k=>S k∨k=b) w b 0 cs:=fun j q hj=>let ⟨v,hv,hq⟩:=jD f3 j q hj;⟨v,hv,q.mono hS (fun _ _=>rfl) hq⟩
 refine h a w ⟨h1,h2,fun k=>S k∨k=b,F2,⟨h3.os,h3.tape,h3.output,h3.size,h3.kept,?_,?_,fun k hk=>h3.bO k (f2 k hk),fun k hk=>h3.own k (f2 k hk),?_,fun k hk=> .inl (h3.base k hk)⟩,
  f5.mono (fun _ h=>h) hS (fun _ _=>rfl) (fun _ _=>rfl),fun s q hl=>?_⟩
 · exact fun k hk hf=>hk.elim (fun h=>h3.cR k h (f2 k hf)) (fun e=>hb.2 (e▸hf))
 · exact fun k hk=>hk.elim (h3.bD k) (fun e=>h3.bO k (e▸hb.1))
 · exact fun k hk=>hk.elim (h3.shr k) (fun e=>by
    rcases h3.own b hb.1 with h|h
    · exact .inr (.inl (e▸h))
    · exact .inr (.inr (e▸h)))
 · rw[bw] at hl
   by_cases e:t=s
   · rw[if_pos e] at hl;cases hl;subst e
     have hv:=h5 t _ ht;simp only[af] at hv
     refine⟨b,off,hv, .inr rfl,?_⟩;have:=hc.drop off;simpa using this
   · rw[if_neg e] at hl
     exact q.mono hS (fun _ _=>rfl) (h5 s q hl)
structure Tt where
 num:Int
 pages:Nat
 most:Nat
 high:Nat
 wide:Prop
def sx(pages a n:Nat):Prop:=pages*65536<a+n
instance (p a n:Nat):Decidable (sx p a n):=inferInstanceAs (Decidable (_<_))
def Fb(pages a o:Nat)(n:Int):Nat×Nat×Nat:=
 if n<0 then(0,0,1) else if 1048576<n then(0,0,15) else if sx pages (a+o) n.toNat then(0,4,0) else(a+o,0,0)
def Tu(M:Tt)(n:Nat):Tt×Nat×Bool:=if M.high-M.pages<n then(M,0,false) else({M with pages:=M.pages+n},M.pages,true)
end Go.Hl
end
section
namespace Go.Hl
def jk(n:Int):List VP:=[aa .i64 n]
def cK(n:Int):List VP:=[aa .u64 n]
structure nc where
 P:List UInt8
 R:List UInt8
def dQ(s:nc):List VP:=[an 1 aL s.P,an 1 aL s.R]
structure qk where
 Module:List UInt8
 Name:List UInt8
 gq:Int
def ng(x:qk):List VP:=[cW x.Module,cW x.Name,aa .i64 x.gq]
structure aq where
 Code:Int
 A:Int
 B:Int
 eT:Int
 L:List Int
def aE(x:aq):List VP:=[aa .i64 x.Code,aa .u64 x.A,aa .u64 x.B,aa .i64 x.eT,an 1 cK x.L]
structure nh where
 aY:List UInt8
 L:List aq
def mg(x:nh):List VP:=[an 1 aL x.aY,an 5 aE x.L]
structure bU where
 gq:Int
 Body:nh
def jU(x:bU):List VP:=[aa .i64 x.gq,an 1 aL x.Body.aY,an 5 aE x.Body.L]
structure jV where
 Min:Int
 Max:Int
 bX:Prop
def iZ(x:jV):List VP:=[aa .i64 x.Min,aa .i64 x.Max,ak x.bX]
structure kQ where
 Ty:UInt8
 fP:Prop
 Value:Int
def lp(x:kQ):List VP:=[aa .u8 (x.Ty.toNat:Int),ak x.fP,aa .u64 x.Value]
structure gu where
 Name:List UInt8
 Kind:Int
 Index:Int
def eN(x:gu):List VP:=[cW x.Name,aa .i64 x.Kind,aa .i64 x.Index]
structure kH where
 At:Int
 aB:List Int
def nN(x:kH):List VP:=[aa .u64 x.At,an 1 jk x.aB]
structure uz where
 Mem:Int
 At:Int
 Bytes:List UInt8
def sy(x:uz):List VP:=[aa .i64 x.Mem,aa .u64 x.At,an 1 aL x.Bytes]
structure aR where
 cY:List nc
 av:List qk
 aB:List bU
 Table:Int
 dU:List jV
 aH:List kQ
 fk:List gu
 Start:Int
 dw:List kH
 fV:List uz
def bp(m:aR):List VP:=[an 2 dQ m.cY,an 3 ng m.av,an 3 jU m.aB,aa .i64 m.Table,an 3 iZ m.dU,an 3 lp m.aH,an 3 eN m.fk,aa .i64 m.Start,an 2 nN m.dw,an 3 sy m.fV]
instance:iy 1 jk:=⟨fun _=>rfl,fun x q h=>by simp only[jk,List.mem_cons,List.not_mem_nil,or_false] at h;rw[h];infer_instance⟩
instance:iy 1 cK:=⟨fun _=>rfl,fun x q h=>by simp only[cK,List.mem_cons,List.not_mem_nil,or_false] at h;rw[h];infer_instance⟩
instance:iy 2 dQ:=⟨fun _=>rfl,fun x q h=>by simp only[dQ,List.mem_cons,List.not_mem_nil,or_false] at h;rcases h with h|h<;>rw[h]<;>infer_instance⟩
instance:iy 3 ng:=⟨fun _=>rfl,fun x q h=>by simp only[ng,List.mem_cons,List.not_mem_nil,or_false] at h;rcases h with h|h|h<;>rw[h]<;>infer_instance⟩
instance:iy 5 aE:=⟨fun _=>rfl,fun x q h=>by simp only[aE,List.mem_cons,List.not_mem_nil,or_false] at h;rcases h with h|h|h|h|h<;>rw[h]<;>infer_instance⟩
instance:iy 2 mg:=⟨fun _=>rfl,fun x q h=>by simp only[mg,List.mem_cons,List.not_mem_nil,or_false] at h;rcases h with h|h<;>rw[h]<;>infer_instance⟩
instance:iy 3 jU:=⟨fun _=>rfl,fun x q h=>by simp only[jU,List.mem_cons,List.not_mem_nil,or_false] at h;rcases h with h|h|h<;>rw[h]<;>infer_instance⟩
instance:iy 3 iZ:=⟨fun _=>rfl,fun x q h=>by simp only[iZ,List.mem_cons,List.not_mem_nil,or_false] at h;rcases h with h|h|h<;>rw[h]<;>infer_instance⟩
instance:iy 3 lp:=⟨fun _=>rfl,fun x q h=>by simp only[lp,List.mem_cons,List.not_mem_nil,or_false] at h;rcases h with h|h|h<;>rw[h]<;>infer_instance⟩
instance:iy 3 eN:=⟨fun _=>rfl,fun x q h=>by simp only[eN,List.mem_cons,List.not_mem_nil,or_false] at h;rcases h with h|h|h<;>rw[h]<;>infer_instance⟩
instance:iy 2 nN:=⟨fun _=>rfl,fun x q h=>by simp only[nN,List.mem_cons,List.not_mem_nil,or_false] at h;rcases h with h|h<;>rw[h]<;>infer_instance⟩
instance:iy 3 sy:=⟨fun _=>rfl,fun x q h=>by simp only[sy,List.mem_cons,List.not_mem_nil,or_false] at h;rcases h with h|h|h<;>rw[h]<;>infer_instance⟩
theorem bq.of{α:Type}{n:Nat}{enc:α→List VP}[h:iy n enc](x:α):bq (enc x):=⟨fun q hq=>h.flat x q hq⟩
instance (x:nc):bq (dQ x):=bq.of x
instance (x:qk):bq (ng x):=bq.of x
instance (x:aq):bq (aE x):=bq.of x
instance (x:nh):bq (mg x):=bq.of x
instance (x:bU):bq (jU x):=bq.of x
instance (x:jV):bq (iZ x):=bq.of x
instance (x:kQ):bq (lp x):=bq.of x
instance (x:gu):bq (eN x):=bq.of x
instance (x:kH):bq (nN x):=bq.of x
instance (x:uz):bq (sy x):=bq.of x
def nO(l:List UInt8):Prop:=l.length≤20∧∀b∈l,b=126∨b=127
def nP(l:List UInt8):Prop:=(∀b∈l,33≤b.toNat∧b.toNat≤126)∧l≠[]∧l.length≤30
def ql(n many:Int):Prop:=0≤n∧n<many
def Ao(l:jV)(most:Int):Prop:=0≤l.Min∧l.Min≤most∧(l.Max<0∨l.Min≤l.Max∧l.Max≤most)
end Go.Hl
namespace Go.Hl
def mh(n:Nat)(most:Int)(g:Nat→Int):Int:=if most<(n:Int) then 15 else fO g n
theorem iP{n:Nat}{most:Int}{g:Nat→Int}:mh n most g=0↔(n:Int)≤most∧fO g n=0:=by
 unfold mh;split
 · constructor
   · intro h;cases h
   · rintro⟨h,_⟩;omega
 · constructor
   · intro h;exact⟨by omega,h⟩
   · exact fun h=>h.2
def eB(m:aR):Int:=(m.av.length:Int)+(m.aB.length:Int)
def Ap(s:nc):Prop:=nO s.P∧nO s.R
noncomputable def LG(s:nc):Int:=iE (¬Ap s) 5
noncomputable def zf(m:aR):Int:=mh m.cY.length 50 (u6 m.cY LG)
open Classical in
noncomputable def kR(m:aR)(x:qk):Int:=if ¬nP x.Module∨¬nP x.Name then 16 else iE (¬ql x.gq m.cY.length) 2
noncomputable def nj(m:aR):Int:=mh m.av.length 20 (u6 m.av (kR m))
noncomputable def uA(m:aR)(x:bU):Int:=iE (¬ql x.gq m.cY.length) 2
noncomputable def lG(m:aR):Int:=if 100<eB m then 15 else fO (u6 m.aB (uA m)) m.aB.length
noncomputable def nQ(m:aR):Int:=if m.Table< -1 then 2 else iE (1000<m.Table) 15
noncomputable def Q3(x:jV):Int:=iE (¬Ao x 65536) 5
noncomputable def zg(m:aR):Int:=mh m.dU.length 4 (u6 m.dU Q3)
def eC(t:UInt8):Int:=if (t.toNat:Int)=127 then 32 else if (t.toNat:Int)=126 then 64 else 0
theorem wu(b:UInt8):eC b=0↔¬(b=126∨b=127):=by
 unfold eC;by_cases h1:(b.toNat:Int)=127
 · have e:b=127:=UInt8.toNat_inj.1 (by simp;omega)
   subst e;simp
 · by_cases h2:(b.toNat:Int)=126
   · have e:b=126:=UInt8.toNat_inj.1 (by simp;omega)
     subst e;simp
   · rw[if_neg h1,if_neg h2]
     simp only[true_iff];rintro(e|e)<;>subst e<;>simp at h1 h2
theorem Jk{l:List UInt8}:((l.length:Int)≤20∧¬∃x∈l,eC x=0)↔nO l:=by
 unfold nO;simp only[not_exists,not_and,wu,Classical.not_not];constructor<;>(rintro⟨h1,h2⟩;exact⟨by omega,h2⟩)
noncomputable def Aq(x:kQ):Int:=iE (eC x.Ty=0∨(x.Ty.toNat:Int)=127∧4294967295<x.Value) 5
noncomputable def nk(m:aR):Int:=mh m.aH.length 50 (u6 m.aH Aq)
def cnt(m:aR):Nat→Int
 |0=>eB m
 |1=>min (IntKind.i64.wrap (m.Table+1)) 1
 |2=>(m.dU.length:Int)
 |_=>(m.aH.length:Int)
def wv(k:Int):Nat:=(max (min k 3) 0).toNat
def HS(m:aR)(x:gu):Prop:=ql x.Kind 4∧ql x.Index (cnt m (wv x.Kind))
open Classical in
noncomputable def nR(m:aR)(i:Nat):Int:=match m.fk[i]? with
 |none=>0
 |some x=>if ¬nP x.Name∨(∃y∈m.fk.take i,y.Name=x.Name) then 16 else iE (¬HS m x) 2
noncomputable def nq(m:aR):Int:=mh m.fk.length 50 (nR m)
def eI(m:aR)(f:Int):Option Int:=
 if f<0∨eB m≤f then none else if f<(m.av.length:Int) then(m.av[f.toNat]?).map (·.gq) else(m.aB[(f-(m.av.length:Int)).toNat]?).map (·.gq)
def eM(m:aR)(f:Int):Option nc:=match eI m f with
 |none=>none
 |some n=>if 0≤n then m.cY[n.toNat]? else none
noncomputable def lH(m:aR):Int:=if m.Start= -1 then 0 else match eM m m.Start with
 |none=>2
 |some s=>iE (0<(s.P.length:Int)+(s.R.length:Int)) 5
open Classical in
noncomputable def zh(m:aR)(x:kH):Int:=if 20<(x.aB.length:Int) then 15 else iE (m.Table= -1∨(∃f∈x.aB,¬ql f (eB m))∨4294967295<x.At) 2
noncomputable def tI(m:aR):Int:=mh m.dw.length 20 (u6 m.dw (zh m))
open Classical in
noncomputable def zi(m:aR)(x:uz):Int:=if 4096<(x.Bytes.length:Int) then 15 else
 iE (¬ql x.Mem m.dU.length∨(∃y,m.dU[x.Mem.toNat]?=some y∧¬y.bX∧4294967295<x.At)) 2
noncomputable def tJ(m:aR):Int:=mh m.fV.length 20 (u6 m.fV (zi m))
end Go.Hl
namespace Go.Hl
theorem j5{cs:List VP}{S:BS}{w:World}{v:Value}(h:(bH cs).p S w v){α:Type}{n:Nat}{enc:α→List VP}{xs:List α}(j:Nat)(hj:cs[j]?=some (an n enc xs)):xs.length≤281474976710656:=by
 obtain⟨b,off,_,_,hc⟩:=h;obtain⟨u,_,hq⟩:=hc j _ hj;exact eA hq
theorem Cl{cs:List VP}{S:BS}{w:World}{v:Value}(h:(aK cs).p S w v){α:Type}{n:Nat}{enc:α→List VP}{xs:List α}(j:Nat)(hj:cs[j]?=some (an n enc xs)):xs.length≤281474976710656:=by
 obtain⟨arr,_,_,hc⟩:=h;obtain⟨u,_,hq⟩:=hc j _ hj;exact eA hq
theorem Of{q:VP}{S:BS}{w:World}{v:Value}(h:(bH [q]).p S w v):∃u,q.p S w u:=by
 obtain⟨b,off,_,_,hc⟩:=h;obtain⟨u,_,hq⟩:=hc 0 _ rfl;exact⟨u,hq⟩
structure HT(m:aR):Prop where
 sigs:m.cY.length≤281474976710656
 imports:m.av.length≤281474976710656
 funcs:m.aB.length≤281474976710656
 jG:m.dU.length≤281474976710656
 globals:m.aH.length≤281474976710656
 cM:m.fk.length≤281474976710656
 elems:m.dw.length≤281474976710656
 fK:m.fV.length≤281474976710656
theorem gw{m:aR}{S:BS}{w:World}{v:Value}(h:(bH (bp m)).p S w v):HT m:=
 ⟨j5 h 0 rfl,j5 h 1 rfl,j5 h 2 rfl,j5 h 4 rfl,j5 h 5 rfl,j5 h 6 rfl,j5 h 8 rfl,j5 h 9 rfl⟩
theorem j6{m:aR}{S:BS}{w:World}{v:Value}(h:(bH [bH (bp m)]).p S w v):HT m:=let ⟨_,h⟩:=Of h;gw h
end Go.Hl
namespace Go.Hl
theorem Jl{l:List UInt8}{k:Nat}{x:UInt8}(hx:l[k]?=some x)(h:(x.toNat:Int)<33∨126<(x.toNat:Int)):nP l↔False:=by
 constructor
 · intro hn;have:=hn.1 x (List.mem_of_getElem? hx);omega
 · exact False.elim
theorem Jm{l:List UInt8}(h:∀x∈l,¬((x.toNat:Int)<33∨126<(x.toNat:Int))):∀b∈l,33≤b.toNat∧b.toNat≤126:=fun b hb=>by have:=h b hb;omega
theorem Jn{l:List UInt8}(h:∀x∈l,¬((x.toNat:Int)<33∨126<(x.toNat:Int))):(l≠[]∧(l.length:Int)≤30)↔nP l:=by
 have:=Jm h;unfold nP;constructor
 · rintro⟨h1,h2⟩;exact⟨this,h1,by omega⟩
 · rintro⟨_,h1,h2⟩;exact⟨h1,by omega⟩
end Go.Hl
namespace Go.Hl
theorem o6{m:aR}{j:Nat}{x:qk}(hj:j<m.av.length)(hx:m.av[j]?=some x):eI m (j:Int)=some x.gq:=by
 unfold eI eB;rw[if_neg (by omega),if_pos (by omega)];simp[hx]
theorem sA{m:aR}{j:Nat}{x:bU}(hx:m.aB[j]?=some x):eI m ((m.av.length:Int)+(j:Int))=some x.gq:=by
 have:=(List.getElem?_eq_some_iff.1 hx).1;unfold eI eB;rw[if_neg (by omega),if_neg (by omega)];rw[show((m.av.length:Int)+(j:Int)-(m.av.length:Int)).toNat=j by omega];simp[hx]
theorem zj{m:aR}{f:Int}(h:¬(eI m f).isSome∨¬ql ((eI m f).getD 0) m.cY.length):eM m f=none:=by
 unfold eM;cases hn:eI m f with
 |none=>rfl
 |some n=>
  rw[hn] at h;simp only[Option.isSome_some,not_true,false_or,Option.getD_some] at h;unfold ql at h;simp only
  split
  · rw[List.getElem?_eq_none (by omega)]
  · rfl
theorem zk{m:aR}{f n:Int}{j:Nat}{x:nc}(hn:eI m f=some n)(hj:n=(j:Int))(hx:m.cY[j]?=some x):eM m f=some x:=by
 unfold eM;rw[hn];subst hj;simp[hx]
theorem ag.YB{a b c d:VP}(h1:ag a c)(h2:ag b d):ag (aK [a,b]) (aK [c,d]):=fun S w v ⟨arr,hv,hn,hc⟩=>⟨arr,hv,hn,fun j q hj=>by
 match j,hj with
 |0,hj=>simp at hj;subst hj;obtain⟨u,hu,hq⟩:=hc 0 a rfl;exact⟨u,hu,h1 _ _ _ hq⟩
 |1,hj=>simp at hj;subst hj;obtain⟨u,hu,hq⟩:=hc 1 b rfl;exact⟨u,hu,h2 _ _ _ hq⟩⟩
theorem Cm{m:aR}(h0:¬m.Start= -1)(h:¬(eM m m.Start).isSome):lH m=2:=by
 unfold lH;rw[if_neg h0];cases hs:eM m m.Start with
 |none=>rfl
 |some s=>rw[hs] at h;simp at h
theorem Cn{m:aR}(h0:¬m.Start= -1)(h:¬¬(eM m m.Start).isSome):lH m=iE (0<((((eM m m.Start).getD ⟨[],[]⟩).P.length:Int)+(((eM m m.Start).getD ⟨[],[]⟩).R.length:Int))) 5:=by
 unfold lH;rw[if_neg h0];cases hs:eM m m.Start with
 |none=>rw[hs] at h;simp at h
 |some s=>rfl
end Go.Hl
namespace Go.Hl
theorem Q4(m:aR)(j:Nat)(hj:j<4):[aa .i64 (cnt m 0),aa .i64 (cnt m 1),aa .i64 (cnt m 2),aa .i64 (cnt m 3)][j]?=some (aa .i64 (cnt m j)):=by
 match j,hj with
 |0,_=>rfl
 |1,_=>rfl
 |2,_=>rfl
 |3,_=>rfl
theorem Ar{m:aR}{i:Nat}{x:gu}(hx:m.fk[i]?=some x)(h:¬nP x.Name∨∃y∈m.fk.take i,y.Name=x.Name):nR m i=16:=by
 unfold nR;rw[hx];simp only;rw[if_pos h]
theorem As{m:aR}{i:Nat}{x:gu}(hx:m.fk[i]?=some x)(h:¬(¬nP x.Name∨∃y∈m.fk.take i,y.Name=x.Name)):nR m i=iE (¬ql x.Kind 4∨¬ql x.Index (cnt m (wv x.Kind))) 2:=by
 unfold nR;rw[hx];simp only;rw[if_neg h]
 congr 1;unfold HS;exact propext (by rw[Classical.not_and_iff_not_or_not])
theorem Fc{m:aR}{x:kH}(h:¬20<(x.aB.length:Int)):zh m x=iE ((m.Table= -1∨∃f∈x.aB,¬ql f (eB m))∨4294967295<x.At) 2:=by
 unfold zh;rw[if_neg h];congr 1;exact propext (by rw[or_assoc])
theorem Og{x:uz}{n:Nat}(h:ql x.Mem n):max (min x.Mem ((n:Int)-1)) 0=(x.Mem.toNat:Int):=by
 obtain⟨h1,h2⟩:=h;omega
end Go.Hl
namespace Go.Hl
def LH(m:aR)(k:Nat):jV:=(m.dU[k]?).getD ⟨0,0,False⟩
theorem Co{m:aR}{x:uz}(h:ql x.Mem m.dU.length):m.dU[x.Mem.toNat]?=some (LH m x.Mem.toNat):=by
 obtain⟨h1,h2⟩:=h;obtain⟨y,hy⟩:=ah (xs:=m.dU) (k:=x.Mem.toNat) (by omega);unfold LH;rw[hy];rfl
theorem Fe{m:aR}{x:uz}(h:¬4096<(x.Bytes.length:Int)):zi m x=iE (¬ql x.Mem m.dU.length∨¬(LH m x.Mem.toNat).bX∧4294967295<x.At) 2:=by
 unfold zi;rw[if_neg h];congr 1;apply propext
 by_cases hi:ql x.Mem m.dU.length
 · have:=Co hi
   simp only[hi,not_true,false_or,this,Option.some.injEq,exists_eq_left']
 · simp only[hi,not_false_iff,true_or]
end Go.Hl
namespace Go.Hl
def Oh{α:Type}(a b:List α)(k:Nat):Prop:=∀i,i<k→a[i]?=b[i]?
theorem Oh.zero{α:Type}(a b:List α):Oh a b 0:=fun i h=>by omega
theorem Oh.succ{α:Type}{a b:List α}{k:Nat}{x y:α}(h:Oh a b k)(hx:a[k]?=some x)(hy:b[k]?=some y)(e:x=y):Oh a b (k+1):=fun i hi=>by
 by_cases e1:i=k
 · subst e1;rw[hx,hy,e]
 · exact h i (by omega)
theorem Oh.all{α:Type}{a b:List α}{k:Nat}(h:Oh a b k)(hl:a.length=b.length)(hk:a.length≤k):a=b:=by
 apply List.ext_getElem?;intro i;by_cases hi:i<a.length
 · exact h i (by omega)
 · rw[List.getElem?_eq_none (by omega),List.getElem?_eq_none (by omega)]
theorem Tv{α:Type}{a b:List α}{k:Nat}{x y:α}(hx:a[k]?=some x)(hy:b[k]?=some y)(e:x≠y):a=b↔False:=by
 constructor
 · intro h;subst h;rw[hx] at hy;exact e (Option.some.inj hy)
 · exact False.elim
theorem Q5{α:Type}{a b:List α}(h:(a.length:Int)≠(b.length:Int)):a=b↔False:=by
 constructor
 · intro e;subst e;exact h rfl
 · exact False.elim
theorem HU{x y:UInt8}:((x.toNat:Int)=(y.toNat:Int))↔x=y:=by
 constructor
 · intro h;exact UInt8.toNat_inj.1 (by omega)
 · intro h;rw[h]
theorem Q6{x y:nc}:(x.P=y.P∧x.R=y.R)↔x=y:=by
 constructor
 · rintro⟨h1,h2⟩;cases x;cases y;simp_all
 · intro h;subst h;simp
end Go.Hl
end
section
namespace Go.Hl
structure Ff(b:nh):Prop where
 locals:b.aY.length≤60
 l:b.L.length≤150
 all:∀x∈b.L,x.L.length≤110
structure ri(m:aR):Prop where
 sigs:m.cY.length≤60
 imports:m.av.length≤25
 funcs:m.aB.length≤110
 jG:m.dU.length≤8
 globals:m.aH.length≤60
 cM:m.fk.length≤60
 elems:m.dw.length≤25
 fK:m.fV.length≤25
 sig:∀x∈m.cY,x.P.length+x.R.length≤60
 imp:∀x∈m.av,x.Module.length+x.Name.length≤100
 fn:∀x∈m.aB,Ff x.Body
 exp:∀x∈m.fk,x.Name.length≤60
 elem:∀x∈m.dw,x.aB.length≤30
 data:∀x∈m.fV,x.Bytes.length≤4100
structure Q7(m:aR):Prop where
 sigs:m.cY.length≤60
 imports:m.av.length≤25
 funcs:m.aB.length≤110
 jG:m.dU.length≤8
 globals:m.aH.length≤60
 cM:m.fk.length≤60
 elems:m.dw.length≤25
 fK:m.fV.length≤25
variable {m:aR}
theorem ri.of(h:Q7 m)(h1:∀x∈m.cY,x.P.length+x.R.length≤60)(h2:∀x∈m.av,x.Module.length+x.Name.length≤100)(h3:∀x∈m.aB,Ff x.Body)(h4:∀x∈m.fk,x.Name.length≤60)(h5:∀x∈m.dw,x.aB.length≤30)(h6:∀x∈m.fV,x.Bytes.length≤4100):ri m:=
 ⟨h.sigs,h.imports,h.funcs,h.jG,h.globals,h.cM,h.elems,h.fK,h1,h2,h3,h4,h5,h6⟩
def HV(x:aR)(a f:VP):List VP:=[a,an 3 ng x.av,f,aa .i64 x.Table,an 3 iZ x.dU,an 3 lp x.aH,an 3 eN x.fk,aa .i64 x.Start,an 2 nN x.dw,an 3 sy x.fV]
structure fA(x:aR):Prop where
 sigs:zf x=0
 imports:nj x=0
 funcs:lG x=0
 table:nQ x=0
 jG:zg x=0
 globals:nk x=0
 cM:nq x=0
 start:lH x=0
 elems:tI x=0
 fK:tJ x=0
theorem ql.at{n:Int}{k:Nat}(h:ql n k):n.toNat<k∧n=(n.toNat:Int):=by unfold ql at h;omega
variable {f:Int}
theorem zl(hf:ql f (eB m))(h1:∀z∈m.av,kR m z=0)(h2:∀z∈m.aB,uA m z=0):∃s,eM m f=some s:=by
 have hf':=hf;unfold ql eB at hf';unfold eM eI;rw[if_neg (by unfold eB;omega)]
 have key:∀n:Int,ql n m.cY.length→∃s,(match some n with|none=>none|some n=>if 0≤n then m.cY[n.toNat]? else none)=some s:=fun n hn=>by
  obtain⟨h3,h4⟩:=hn.at;simp only;rw[if_pos (by omega)];exact⟨_,List.getElem?_eq_getElem h3⟩
 by_cases hlt:f<(m.av.length:Int)
 · rw[if_pos hlt]
   have hl:f.toNat<m.av.length:=by omega
   rw[List.getElem?_eq_getElem hl];refine key _ ?_;have:=h1 _ (List.getElem_mem hl);unfold kR at this
   split at this
   · cases this
   · exact Classical.not_not.1 ((m8 (by decide)).1 this)
 · rw[if_neg hlt]
   have hl:(f-(m.av.length:Int)).toNat<m.aB.length:=by omega
   rw[List.getElem?_eq_getElem hl];refine key _ ?_;have:=h2 _ (List.getElem_mem hl);exact Classical.not_not.1 ((m8 (by decide)).1 this)
variable {s:nc}
theorem Fg(h:eM m f=some s)(hf:f<(m.av.length:Int)):∃x:qk,m.av[f.toNat]?=some x∧m.cY[x.gq.toNat]?=some s∧f=(f.toNat:Int)∧x.gq=(x.gq.toNat:Int):=by
 unfold eM eI at h
 split at h
 · cases h
 · rename_i n hn
   split at hn
   · cases hn
   · rename_i hc
     cases hx:m.av[f.toNat]? with
     |none=>rw[hx] at hn;cases hn
     |some x=>
      rw[hx] at hn;cases hn
      split at h
      · rename_i h0;exact⟨x,rfl,h,by omega,by have h1:0≤x.gq:=h0;omega⟩
      · cases h
theorem LI(h:eM m f=some s)(hf:¬f<(m.av.length:Int)):∃x:bU,m.aB[(f-(m.av.length:Int)).toNat]?=some x∧m.cY[x.gq.toNat]?=some s∧f-(m.av.length:Int)=((f-(m.av.length:Int)).toNat:Int)∧x.gq=(x.gq.toNat:Int)∧f<eB m:=by
 unfold eM eI at h
 split at h
 · cases h
 · rename_i n hn
   split at hn
   · cases hn
   · rename_i hc
     cases hx:m.aB[(f-(m.av.length:Int)).toNat]? with
     |none=>rw[hx] at hn;cases hn
     |some x=>
      rw[hx] at hn;cases hn
      split at h
      · rename_i h0;exact⟨x,rfl,h,by omega,by have h1:0≤x.gq:=h0;omega,by omega⟩
      · cases h
theorem Au(h:eM m f=some s):s∈m.cY:=by
 unfold eM at h
 split at h
 · cases h
 · split at h
   · exact List.mem_of_getElem? h
   · cases h
theorem wz(h:lG m=0):∀z∈m.aB,uA m z=0:=by
 unfold lG at h
 split at h
 · cases h
 · exact qe.1 h
theorem Oi(h1:∀z∈m.av,kR m z=0)(h2:∀z∈m.aB,uA m z=0):(eM m f).isSome=true↔ql f (eB m):=by
 constructor
 · intro h
   obtain⟨s,hs⟩:=Option.isSome_iff_exists.1 h;unfold eM eI at hs;unfold ql;by_cases hc:f<0∨eB m≤f
   · rw[if_pos hc] at hs;cases hs
   · omega
 · intro h
   obtain⟨s,hs⟩:=zl h h1 h2;rw[hs];rfl
end Go.Hl
end
section
namespace Go.Hl
open Go.RowKit
section
variable {P:Program} {hs:List HP} {env:Env} {q:VP} {dst:Option Tmp} {ty T T' E:TypeId} {pos:String} {after:Array Edge} {gd:Option (Nat×Bool)} {x y z:Operand}
theorem mj{f:FuncId}{v:Value}(hx:aU env x (af v)):aT P hs env ⟨dst, .makeFunc (.func f) #[x] #[],ty,pos,after,gd⟩ (af (.func (.func f) #[v] #[])):=by
 intro a w S F _ _ _ _ he K Q hk;unfold Oper.wp;have hv:=hx S w a he;simp only[af] at hv
 exact hk _ w S (ez.refl _ _) (by simp[af,hv])
theorem wA{f:FuncId}{v:Value}{ats:Array TypeId}{hs0 rest:List HP}{γ:Type}{φ:γ→Prop}{hs':γ→List HP}{q:γ→VP}(hf:bk P f [af v] hs0 φ hs' q)(hb:iu P f=true)(hx:aU env x (af (.func (.func f) #[v] #[])))(hp:hs.Perm (hs0++rest)):
    fN P hs env ⟨dst, .call ⟨.value x, #[],ats⟩,ty,pos,after,gd⟩ φ (fun g=>hs' g++rest) q:=by
  intro c a w S F ax hown he K Q hk;have h0:=kM (xs:=[.const v]) (ats:=ats) (dst:=dst) (ty:=ty) (pos:=pos) (after:=after) (gd:=gd) hf hb (.cons (.c _) .nil) hp c a w S F ax hown he K Q hk;have hv:=hx S w a he;simp only[af] at hv
  unfold Oper.wp at h0 ⊢;rw[oL hb] at h0
  have e:(execOp a.eval ⟨dst, .call ⟨.value x, #[],ats⟩,ty,pos,after,gd⟩).run P w= .ok (.enter f #[v]) w:=by
    have h:=ei hb #[v] w;simp[execOp,resolve,hv,Deferred.ofValue,invoke] at h ⊢;exact h
  rw[e];exact h0
end
abbrev Q8(f sb:Nat):VP:=af (.func (.func f) #[.pointer (some ⟨sb,0,none⟩)] #[])
variable {k:Nat} {v:Nat}
theorem Oj{l:List UInt8}{at_ w:Nat}(hl:at_+w≤l.length)(hk:k<w):(l.take at_++kO v k++l.drop (at_+k)).set (at_+k) (Oa v k)=l.take at_++kO v (k+1)++l.drop (at_+(k+1)):=by
 have h1:(l.take at_++kO v k).length=at_+k:=by rw[List.length_append,kP,List.length_take];omega
 have h2:l.drop (at_+k)=l[at_+k]'(by omega)::l.drop (at_+k+1):=List.drop_eq_getElem_cons (by omega);rw[List.set_append_right _ _ (by omega),h1,Nat.sub_self,h2,List.set_cons_zero];have h3:kO v (k+1)=kO v k++[Oa v k]:=by unfold kO;rw[List.range_succ,List.map_append];rfl
 rw[h3];simp only[List.append_assoc,List.singleton_append];rfl
theorem LJ(v k:Nat):IntKind.u8.wrap ((v/2^(8*k):Nat):Int)=((Oa v k).toNat:Int):=by
 have e:∀n:Int,IntKind.u8.wrap n=n%256:=fun _=>rfl;rw[e];unfold Oa;rw[UInt8.toNat_ofNat'];omega
theorem Q9{l:List UInt8}{at_:Nat}{c:UInt8}(hc:l[at_+k]?=some c)(hk:k<8):((oI ((l.drop at_).take k))|||(c.toNat*2^(8*k)%18446744073709551616))=oI ((l.drop at_).take (k+1))∧oI ((l.drop at_).take k)<18446744073709551616:=by
 have hd:(l.drop at_)[k]?=some c:=by rw[List.getElem?_drop];exact hc
 have hlen:((l.drop at_).take k).length=k:=by
  have:=(List.getElem?_eq_some_iff.1 hd).1;rw[List.length_take];omega
 have h1:=v9 ((l.drop at_).take k);rw[hlen] at h1;have h2:2^(8*k)≤2^56:=Nat.pow_le_pow_right (by decide) (by omega);have h3:=c.toNat_lt;have h4:c.toNat*2^(8*k)≤255*2^56:=Nat.mul_le_mul (by omega) h2;refine⟨?_,by omega⟩;rw[Nat.mod_eq_of_lt (by omega)];have h5:=QO ((l.drop at_).take k) c;rw[hlen] at h5;rw[h5,←cu hd]
variable {a:cS} {X:m7}
theorem rj(h:cC X a){x:Nat}{w:Nat}(hx:x+w≤X.size):cC X (a.put x (kO v w)):=h.put (by rw[kP];exact hx)
abbrev tK(X:m7)(a:cS):HP:=aF X.ab [oW X.db 0 X.size,aa .i64 (a.height:Int),aa .i64 (a.live:Int),af (.map (some X.tm)),af (.map (some X.gm))]
def gy(X:m7)(a:cS):List HP:=[tK X a,m6 X.db a.bytes]
abbrev u7:=List (Int×SB×List Int)
def mR(G:u7):List HP:=G.map fun e=>aI e.2.1 1 jk e.2.2
abbrev Cp(G:u7):List (Int×Value):=G.map fun e=>(e.1,bA e.2.1 e.2.2.length)
def Fh(gm:Nat)(G:u7):HP:=iD gm (Value.int .i64) af (Cp G)
def qR(G:u7)(n:Nat):Prop:=∀e∈G,e.2.2.length≤n
def Jo(gm n:Nat):HP:=NZ fun G:u7=>ku (eY (qR G n)::Fh gm G::mR G)
def wB(X:m7)(a:cS)(n:Nat):List HP:=[tK X a,m6 X.db a.bytes,iD X.tm (Value.int .i64) dP a.taken,Jo X.gm n]
def sB(G:u7)(c:Int):SB×List Int:=(br G c).getD (none,[])
variable {r:List HP} {κ:Type}
theorem map_nil{α β:Type}[DecidableEq κ]{m:Nat}{ke:κ→Value}{f:α→VP}{g:β→VP}:aA (iD m ke f []::r) (iD m ke g []::r):=fun F S w ⟨F1,F2,h1,h2,⟨hF,es,cl,hh,hk,_,hb⟩,h4⟩=>
 ⟨F1,F2,h1,h2,⟨hF,es,cl,hh,hk,fun i p hp=>by simp at hp,hb⟩,h4⟩
variable {gm:Nat}
theorem LK:aA (iD gm (Value.int .i64) (fun _:Unit=>oR) []::r) (Jo gm 0::r):=
 map_nil.trans ((aA.pure (p:=qR [] 0) (fun e h=>by cases h)).trans ((aA.pack (l:=[eY (qR [] 0),Fh gm []])).trans (aA.ex (f:=fun G:u7=>ku (eY (qR G 0)::Fh gm G::mR G)) [])))
theorem Jp:aA (eo X a++r) (wB X a 0++r):=aA.cons _ (aA.cons _ (aA.cons _ LK))
variable {n:Nat}
theorem LL(h:n≤k):aA (Jo gm n::r) (Jo gm k::r):=fun F S w ⟨F1,F2,h1,h2,⟨G,h3⟩,h4⟩=>
 ⟨F1,F2,h1,h2,⟨G,by obtain⟨G1,G2,g1,g2,g3,g4⟩:=h3;exact⟨G1,G2,g1,g2,fun e he=>Nat.le_trans (g3 e he) h,g4⟩⟩,h4⟩
theorem LM(h:n≤k):aA (wB X a n++r) (wB X a k++r):=aA.cons _ (aA.cons _ (aA.cons _ (LL h)))
variable {G:u7} {c:Int}
theorem LN:ag (ER af (af (.slice none 0 0)) (br (Cp G) c)) (af (bA (sB G c).1 (sB G c).2.length)):=ag.of_eq (by
 rw[qd (fun x:SB×List Int=>bA x.1 x.2.length)];unfold sB;cases br G c<;>rfl)
theorem tL{α:Type}{id:Int}(v:α):∀{E:List (Int×α)},br E id≠none→ew E id v=wj E id v
 |[],h=>absurd rfl h
 | e ::E,h=>by
  unfold ew wj;rw[List.map_cons,List.findIdx?_cons];by_cases he:e.1=id
  · simp[he]
  · have h':br E id≠none:=fun e2=>h (by
     unfold br at e2 ⊢;rw[List.find?_cons_of_neg (by simpa using he)];exact e2)
    have ih:=tL v h';unfold ew at ih;rw[if_neg he,←ih];simp only[he,decide_false,Bool.false_eq_true,if_false];cases (E.map (·.1)).findIdx? (fun k=>decide (k=id))<;>rfl
theorem zm{c:Int}:∀{G:u7} {x:SB×List Int},br G c=some x→(mR G).Perm (aI x.1 1 jk x.2::mR (u5 G c))
 |[],x,h=>by cases h
 |e::E,x,h=>by
  unfold br at h;by_cases he:e.1=c
  · rw[List.find?_cons_of_pos (by simpa using he)] at h
    simp at h;unfold u5 mR;rw[List.eraseP_cons_of_pos (by simpa using he),List.map_cons,h]
  · rw[List.find?_cons_of_neg (by simpa using he)] at h
    have ih:=zm (c:=c) (G:=E) (x:=x) h;unfold u5 mR at ih ⊢;rw[List.eraseP_cons_of_neg (by simpa using he),List.map_cons,List.map_cons];exact(ih.cons _).trans (List.Perm.swap _ _ _)
theorem HW{c:Int}(y:SB×List Int):∀{G:u7},br G c≠none→(aI y.1 1 jk y.2::mR (u5 G c)).Perm (mR (wj G c y))
 |[],h=>absurd rfl h
 | e ::E,h=>by
  by_cases he:e.1=c
  · unfold u5 mR wj
    rw[List.eraseP_cons_of_pos (by simpa using he),if_pos he,List.map_cons]
  · have h':br E c≠none:=fun e2=>h (by
     unfold br at e2 ⊢;rw[List.find?_cons_of_neg (by simpa using he)];exact e2)
    have ih:=HW y h';unfold mR u5 at ih ⊢;unfold wj;rw[List.eraseP_cons_of_neg (by simpa using he),if_neg he,List.map_cons,List.map_cons];exact(List.Perm.swap _ _ _).trans (ih.cons _)
theorem wC{α:Type}{c:Int}:∀{G:List (Int×α)},br G c=none→u5 G c=G
 |[],_=>rfl
 |e::E,h=>by
  unfold br at h;by_cases he:e.1=c
  · rw[List.find?_cons_of_pos (by simpa using he)] at h;cases h
  · rw[List.find?_cons_of_neg (by simpa using he)] at h
    have ih:=wC (c:=c) (G:=E) h;unfold u5 at ih ⊢;rw[List.eraseP_cons_of_neg (by simpa using he),ih]
theorem Jq(h:qR G n):(sB G c).2.length≤n:=by
 unfold sB;cases hc:br G c with
 |none=>exact Nat.zero_le _
 |some y=>exact h _ (wm hc)
theorem aJ.Ra{P:Program}{Q:Exit→Act→World→Prop}{cx:Ctx}{x:Code}{env:Env}(c:Int)(k:∀G:u7,qR G n→aJ P Q cx x (Fh gm G::aI (sB G c).1 1 jk (sB G c).2::ku (mR (u5 G c))::r) env):aJ P Q cx x (Jo gm n::r) env:=
 aJ.opens fun G=>aJ.own aA.unpack (aJ.eY fun hG=>aJ.own (aA.cons _ (by
  unfold sB;cases h:br G c with
  |none=>
   rw[wC h];exact aA.trans (aA.pack (l:=mR G)) uw
  |some y=>exact aA.trans (aA.perm ((zm h).append_right r)) (aA.cons _ (aA.pack (l:=mR (u5 G c)))))) (k G hG))
theorem LO{ν:Type}[DecidableEq κ]{D:List (κ×ν)}{a:κ}{v:ν}{e:κ×ν}(h:e∈ew D a v):e=(a,v)∨e∈D:=by
 unfold ew at h
 split at h
 · rcases List.mem_or_eq_of_mem_set h with h|h
   · exact .inr h
   · exact .inl h
 · rcases List.mem_append.1 h with h|h
   · exact .inr h
   · exact .inl (List.mem_singleton.1 h)
theorem Jr{sb:SB}{xs:List Int}(hG:qR G k)(hn:n=xs.length)(hx:xs.length≤k+1):aA (iD gm (Value.int .i64) af (ew (Cp G) c (bA sb n))::aI sb 1 jk xs::ku (mR (u5 G c))::r) (Jo gm (k+1)::r):=by
 subst hn
 have e:ew (Cp G) c (bA sb xs.length)=Cp (ew G c (sb,xs))∧(aI sb 1 jk xs::mR (u5 G c)).Perm (mR (ew G c (sb,xs))):=by
  cases h:br G c with
  |none=>
   rw[Cg _ h,Cg _ (show br (Cp G) c=none by rw[qd (fun x:SB×List Int=>bA x.1 x.2.length),h];rfl),wC h];refine⟨by simp[Cp],?_⟩;have:mR (G++[(c,sb,xs)])=mR G++[aI sb 1 jk xs]:=by simp[mR]
   rw[this];exact(List.perm_append_singleton _ _).symm
  |some y=>
   have h1:br G c≠none:=by rw[h];exact Option.some_ne_none _
   rw[tL _ h1,tL _ (show br (Cp G) c≠none by rw[qd (fun x:SB×List Int=>bA x.1 x.2.length),h];exact Option.some_ne_none _)];exact⟨(Cf (fun x:SB×List Int=>bA x.1 x.2.length) c (sb,xs) G).symm,HW (sb,xs) h1⟩
 rw[e.1];refine(aA.cons _ (aA.cons _ aA.unpack)).trans ?_;refine(aA.cons _ (aA.perm (e.2.append_right r))).trans ?_
 have hk:qR (ew G c (sb,xs)) (k+1):=fun e h=>by
  rcases LO h with rfl|h
  · exact hx
  · exact Nat.le_succ_of_le (hG e h)
 refine(aA.pure hk).trans ?_;exact(aA.pack (l:=eY (qR (ew G c (sb,xs)) (k+1))::Fh gm (ew G c (sb,xs))::mR (ew G c (sb,xs)))).trans (aA.ex (f:=fun G:u7=>ku (eY (qR G (k+1))::Fh gm G::mR G)) _)
theorem zn{ν:Type}[DecidableEq κ](D:List (κ×ν))(a b:κ)(v:ν):br (ew D a v) b=if b=a then some v else br D b:=by
 have key:∀(D:List (κ×ν)),br (ew D a v) b=if b=a then some v else br D b:=by
  intro D
  induction D with
  |nil=>
   by_cases h:b=a
   · subst h;simp[ew,br]
   · have h2:¬a=b:=fun e=>h e.symm
     simp[ew,br,h,h2]
  |cons p D ih=>
   by_cases hp:p.1=a
   · have h1:ew (p::D) a v=(a,v)::D:=by simp[ew,List.findIdx?_cons,hp]
     rw[h1];by_cases h:b=a
     · subst h;simp[br]
     · have h2:¬a=b:=fun e=>h e.symm
       have h3:¬p.1=b:=fun e=>h2 (hp.symm.trans e);simp[br,List.find?_cons,h,h2,h3]
   · have h1:ew (p::D) a v=p::ew D a v:=by
      simp only[ew,List.map_cons,List.findIdx?_cons,hp,decide_false,Bool.false_eq_true,if_false];cases hf:(D.map (·.1)).findIdx? (fun k=>decide (k=a)) with
      |none=>simp
      |some j=>simp
     rw[h1];by_cases h:p.1=b
     · have h2:¬b=a:=fun e=>hp (h.trans e)
       simp[br,List.find?_cons,h,h2]
     · have e1:∀D':List (κ×ν),br (p::D') b=br D' b:=fun D'=>by simp[br,List.find?_cons,h]
       rw[e1,e1,ih]
 exact key D
def Tw(a:cS)(at_:Int)(c:Nat):cS:={a with taken:=B5 a.taken at_,live:=a.live-c}
def fB(m:aR):Nat:=(max m.Table 0).toNat
abbrev zo(m:aR):Nat:=aG (8*m.aH.length)
abbrev LP(m:aR):Nat:=aG (4*fB m)
abbrev EC(a:cS)(c:Nat):cS:=⟨a.bytes.take a.height++List.replicate c 0++a.bytes.drop (a.height+c),a.height+c,a.live+c,ew a.taken (a.height:Int) (c:Int)⟩
theorem nS{c:Nat}(h:cC X a)(hc:a.height+c≤X.size):cC X (EC a c):=by
 have hm:=h.most;have hh:=h.hi;have hlen:=h.len;have hlv:=h.live
 refine⟨?_,by simp only;omega,hm,by simp only;omega⟩;simp only[List.length_append,List.length_take,List.length_drop,List.length_replicate];omega
theorem sC(h:cC X a)(hn:n≤4194304)(hc:a.height+aG n≤X.size):uu X.size a n=(EC a (aG n),a.height,0):=by
 unfold uu;rw[if_neg (by omega),if_neg (by omega)]
abbrev rq(a:cS)(m:aR):cS:=EC (EC a (zo m)) (LP m)
theorem Js{t:List (Int×Int)}(h:a.taken=t):aA (tK X a::m6 X.db a.bytes::iD X.tm (Value.int .i64) dP t::iD X.gm (Value.int .i64) (fun _:Unit=>oR) []::r) (eo X a++r):=by subst h;exact aA.refl _
abbrev lX(sb:Nat)(X:m7)(pb:Nat)(m:aR)(num g t:Int)(mv:VP):HP:=aF sb [bH (bp m),ai X.ab 0,ai pb 0,aa .i64 num,aa .i64 g,aa .i64 t,mv,ak False]
structure u9(m:aR):Prop where
 gl:m.aH.length≤60000
 gv:∀z∈m.aH,0≤z.Value∧z.Value<18446744073709551616∧(eC z.Ty=32∨eC z.Ty=64)
 tb:m.Table≤1000
 ms:∀z∈m.dU,0≤z.Min∧z.Min≤65536∧(z.Max<0∨z.Min≤z.Max∧z.Max≤65536)
 ml:m.dU.length≤60000
 ll:m.dw.length≤60000
 el:∀e∈m.dw,0≤e.At∧e.At<18446744073709551616∧e.aB.length≤1000∧∀f∈e.aB,0≤f∧f<281474976710656
 dl:m.fV.length≤60000
 da:∀d∈m.fV,ql d.Mem m.dU.length∧0≤d.At∧d.At<18446744073709551616∧d.Bytes.length≤5000
variable {m:aR}
theorem u9.r1(h:u9 m):8*m.aH.length≤zo m∧zo m≤8388608:=⟨tH (by have:=h.gl;omega),me _⟩
theorem u9.r2(h:u9 m):4*fB m≤LP m∧LP m≤8388608∧fB m≤1000:=by
 have h2:fB m≤1000:=by have:=h.tb;unfold fB;omega
 exact⟨tH (by omega),me _,h2⟩
def Av(m:aR)(i:Nat):kQ:=(m.aH[i]?).getD ⟨0,False,0⟩
theorem HX{i:Nat}{z:kQ}(h:m.aH[i]?=some z):Av m i=z:=by unfold Av;rw[h];rfl
def o7(t:UInt8)(v:Nat):Nat:=v%2^(eC t).toNat
theorem Aw{t:UInt8}(h:v<18446744073709551616):o7 t v<18446744073709551616:=Nat.lt_of_le_of_lt (Nat.mod_le _ _) h
def Nz(m:aR)(g:Nat)(a:cS):Nat→cS
 |0=>a
 |k+1=>(Nz m g a k).put (g+8*k) (kO (o7 (Av m k).Ty (Av m k).Value.toNat) 8)
theorem Ax{X:m7}{m:aR}{g:Nat}{a:cS}(h:cC X a):∀k,g+8*k≤X.size→cC X (Nz m g a k)
 |0,_=>h
 |k+1,hk=>rj (Ax h k (by omega)) (by omega)
structure mo(a b:cS):Prop where
 height:b.height=a.height
 live:b.live=a.live
 taken:b.taken=a.taken
theorem mo.refl(a:cS):mo a a:=⟨rfl,rfl,rfl⟩
theorem mo.trans{a b c:cS}(h:mo a b)(k:mo b c):mo a c:=⟨k.1.trans h.1,k.2.trans h.2,k.3.trans h.3⟩
theorem Cq{m:aR}{g:Nat}{a:cS}:∀k,mo a (Nz m g a k)
 |0=> .refl _
 |k+1=>(Cq k).trans ⟨rfl,rfl,rfl⟩
def lI(m:aR)(e:kH):Prop:=(fB m:Int)<e.At∨(fB m:Int)-e.At<(e.aB.length:Int)
def PW(t:Nat)(e:kH)(a:cS):Nat→cS
 |0=>a
 |k+1=>(PW t e a k).put (t+4*(e.At.toNat+k)) (kO (((e.aB[k]?).getD 0).toNat+1) 4)
open Classical in
noncomputable def NA(m:aR)(t:Nat)(e:kH)(a:cS):cS:=if lI m e then a else PW t e a e.aB.length
open Classical in
noncomputable def Rb(m:aR)(e:kH):Int:=if lI m e then 5 else 0
def Jt(m:aR)(i:Nat):kH:=(m.dw[i]?).getD ⟨0,[]⟩
theorem Ok{i:Nat}{z:kH}(h:m.dw[i]?=some z):Jt m i=z:=by unfold Jt;rw[h];rfl
noncomputable def tM(m:aR)(t:Nat)(a:cS):Nat→cS
 |0=>a
 |k+1=>NA m t (Jt m k) (tM m t a k)
variable {e:kH}
theorem Rc{t:Nat}(h:m.dw[k]?=some e):tM m t a (k+1)=NA m t e (tM m t a k):=by show NA m t (Jt m k) _=_;rw[Ok h]
theorem Fi{X:m7}{t:Nat}{e:kH}{a:cS}(h:cC X a):∀k,t+4*(e.At.toNat+k)≤X.size→cC X (PW t e a k)
 |0,_=>h
 |k+1,hk=>rj (Fi h k (by omega)) (by omega)
theorem Cr{t:Nat}{e:kH}{a:cS}:∀k,mo a (PW t e a k)
 |0=> .refl _
 |k+1=>(Cr k).trans ⟨rfl,rfl,rfl⟩
theorem Rd{t:Nat}(h:cC X a)(ht:t+4*fB m≤X.size)(h0:0≤e.At):cC X (NA m t e a)∧mo a (NA m t e a):=by
 unfold NA;by_cases hb:lI m e
 · rw[if_pos hb];exact⟨h, .refl _⟩
 · rw[if_neg hb]
   unfold lI at hb;exact⟨Fi h _ (by omega),Cr _⟩
theorem Ay{X:m7}{m:aR}{t:Nat}{a:cS}(h:cC X a)(hm:u9 m)(ht:t+4*fB m≤X.size):∀k,cC X (tM m t a k)∧mo a (tM m t a k)
 |0=>⟨h, .refl _⟩
 | k+1=>by
  have ih:=Ay (m:=m) (t:=t) h hm ht k
  have h0:0≤(Jt m k).At:=by
   unfold Jt;cases he:m.dw[k]? with
   |none=>exact Int.le_refl _
   |some e=>exact(hm.el e (List.mem_of_getElem? he)).1
  have h2:=Rd (m:=m) (t:=t) ih.1 ht h0;exact⟨h2.1,ih.2.trans h2.2⟩
def YC(m:aR)(i:Nat):jV:=(m.dU[i]?).getD ⟨0,0,False⟩
def YD(m:aR)(d:uz):Nat×Nat×Nat:=Fb (YC m d.Mem.toNat).Min.toNat d.At.toNat 0 (d.Bytes.length:Int)
theorem Ol(h:Rb m e≠0):lI m e:=Classical.byContradiction fun hb=>h (if_neg hb)
theorem Re(h:¬Rb m e≠0):¬lI m e:=fun hb=>h (by have h2:Rb m e=5:=if_pos hb;omega)
def ot(m:aR)(k:Nat):Prop:=∀j e,j<k→m.dw[j]?=some e→¬lI m e
theorem ot.nil:ot m 0:=fun _ _ h=>absurd h (Nat.not_lt_zero _)
theorem ot.next{z:kH}(h:ot m k)(hz:m.dw[k]?=some z)(hb:¬lI m z):ot m (k+1):=fun j e hj he=>by
 rcases Nat.lt_succ_iff_lt_or_eq.1 hj with hj|rfl
 · exact h j e hj he
 · rw[hz] at he;cases he;exact hb
def LQ(m:aR)(k:Nat):Prop:=∀j d,j<k→m.fV[j]?=some d→(YD m d).2=(0,0)
def Az(m:aR)(r:Nat×Nat×Int):Prop:=
 (∃k e,m.dw[k]?=some e∧ot m k∧lI m e∧r=(k,0,5))∨(ot m m.dw.length∧∃k d,m.fV[k]?=some d∧LQ m k∧(YD m d).2≠(0,0)∧r=(m.dw.length,k+1,((YD m d).2.1:Int)))∨
 (ot m m.dw.length∧LQ m m.fV.length∧r=(m.dw.length,m.fV.length,0))
theorem Az.el(h1:m.dw[k]?=some e)(h2:ot m k)(h3:lI m e):Az m (k,0,5):= .inl ⟨k,e,h1,h2,h3,rfl⟩
theorem Az.all(h2:ot m m.dw.length)(h3:LQ m m.fV.length):Az m (m.dw.length,m.fV.length,0):= .inr (.inr ⟨h2,h3,rfl⟩)
def sD(b:Nat):List VP:=[ai b 0]
instance:iy 1 sD:=⟨fun _=>rfl,fun x q h=>by simp only[sD,List.mem_cons,List.not_mem_nil,or_false] at h;subst h;infer_instance⟩
end Go.Hl
end
section
namespace Go.Hl
def aV(c:Int):Prop:=c=2∨c=3∨c=4
instance (c:Int):Decidable (aV c):=inferInstanceAs (Decidable (_∨_))
def mS:List Int→List (Int×Bool)→Prop
 |[],_=>False
 | c::r,st=>
  if aV c then st.length<64∧mS r ((c,false)::st)
  else if c=5 then match st with
   |[]=>False
   |(b,e)::t=>(b=4∧e=false)∧mS r ((b,true)::t)
  else if c=11 then match st with
   |[]=>r=[]
   |_::t=>mS r t
  else mS r st
theorem ja(c:Int)(r:List Int)(st:List (Int×Bool)):mS (c::r) st=(if aV c then st.length<64∧mS r ((c,false)::st)
    else if c=5 then match st with
      |[]=>False
      |(b,e)::t=>(b=4∧e=false)∧mS r ((b,true)::t)
    else if c=11 then match st with
      |[]=>r=[]
      |_::t=>mS r t
    else mS r st):=by
  rw[mS.eq_def]
end Go.Hl
end
section
namespace Go.Hl
abbrev jW:=List UInt8×Prop
open Classical in
noncomputable def jl(s:jW)(want:UInt8):Option (jW×UInt8):=
 match s.1.getLast? with
 |none=>if s.2 then some (s,want) else none
 |some got=>if got=want∨got=0∨want=0 then some ((s.1.dropLast,s.2),if got=0 then want else got) else none
noncomputable def vb(s:jW):List UInt8→Option jW
 |[]=>some s
 |t::l=>(jl s t).bind fun p=>vb p.1 l
noncomputable def fe(s:jW)(l:List UInt8):Option jW:=vb s l.reverse
def cQ(s:jW)(l:List UInt8):jW:=(s.1++l,s.2)
def gA:jW:=([],True)
structure fm where
 loop:Prop
 is:Prop
 res:List UInt8
 st:jW
open Classical in
noncomputable def sE(b:fm):List UInt8:=if b.loop then[] else b.res
def o8(fs:List fm):Nat:=(fs.map fun b=>b.st.1.length).sum
section
variable {ι:Type} (cd:ι→Int) (rr:ι→List UInt8) (pl:ι→jW→List (List UInt8)→Option jW)
open Classical
noncomputable def ru(b:fm):Prop:=∃s,fe b.st b.res=some s∧s.1=[]
noncomputable def eg(x:ι)(fs:List fm)(b:fm):Option (List fm):=
 if cd x=11 then
  if ru b∧(b.is→b.res=[]) then some (match fs.getLast? with
   |none=>[]
   |some t=>fs.dropLast++[{t with st:=cQ t.st b.res}]) else none
 else if cd x=5 then if ru b then some (fs++[{b with is:=False,st:=([],False)}]) else none
 else if aV (cd x) then(if cd x=4 then fe b.st [127] else some b.st).map fun s=>fs++[{b with st:=s}]++[⟨cd x=3,cd x=4,rr x,([],False)⟩]
 else(pl x b.st ((fs++[b]).map sE)).map fun s=>fs++[{b with st:=s}]
noncomputable def nT:List ι→List fm→Option (List Nat)
 |[],_=>some []
 |x::r,fs=>match fs.getLast? with
  |none=>none
  |some b=>(eg cd rr pl x fs.dropLast b).bind fun fs'=>(nT r fs').map (o8 fs:: ·)
theorem qm(x:ι)(r:List ι)(fs:List fm)(b:fm):nT cd rr pl (x::r) (fs++[b])=(eg cd rr pl x fs b).bind fun fs'=>(nT cd rr pl r fs').map (o8 (fs++[b]):: ·):=by
 simp[nT]
theorem jH(fs:List fm)(b:fm):o8 (fs++[b])=o8 fs+b.st.1.length:=by simp[o8]
end
end Go.Hl
end
section
namespace Go.Hl
structure mq where
 Code:Int
 Name:List UInt8
 Form:Int
 sF:List UInt8
 o9:List UInt8
 deriving DecidableEq
structure lJ where
 code:Int
 name:List UInt8
 form:Int
 takes:List UInt8
 uB:List UInt8
 deriving DecidableEq
structure Cs where
 first:Int
 many:Int
 group:Int
 bits:Int
 from_:Int
 deriving DecidableEq
def qn(x:mq):List VP:=[aa .i64 x.Code,cW x.Name,aa .i64 x.Form,an 1 aL x.sF,an 1 aL x.o9]
def fC(x:lJ):List VP:=[aa .i64 x.code,cW x.name,aa .i64 x.form,cW x.takes,cW x.uB]
def qo(x:Cs):List VP:=[aa .i64 x.first,aa .i64 x.many,aa .i64 x.group,aa .i64 x.bits,aa .i64 x.from_]
def sG(x:Int×Int):List VP:=[aa .i64 x.1,aa .i64 x.2]
def jn(x:List UInt8):List VP:=[cW x]
instance:iy 5 qn:=⟨fun _=>rfl,fun x q h=>by simp only[qn,List.mem_cons,List.not_mem_nil,or_false] at h;rcases h with h|h|h|h|h<;>rw[h]<;>infer_instance⟩
instance:iy 5 fC:=⟨fun _=>rfl,fun x q h=>by simp only[fC,List.mem_cons,List.not_mem_nil,or_false] at h;rcases h with h|h|h|h|h<;>rw[h]<;>infer_instance⟩
instance:iy 5 qo:=⟨fun _=>rfl,fun x q h=>by simp only[qo,List.mem_cons,List.not_mem_nil,or_false] at h;rcases h with h|h|h|h|h<;>rw[h]<;>infer_instance⟩
instance:iy 2 sG:=⟨fun _=>rfl,fun x q h=>by simp only[sG,List.mem_cons,List.not_mem_nil,or_false] at h;rcases h with h|h<;>rw[h]<;>infer_instance⟩
instance:iy 1 jn:=⟨fun _=>rfl,fun x q h=>by simp only[jn,List.mem_cons,List.not_mem_nil,or_false] at h;rw[h];infer_instance⟩
instance (x:mq):bq (qn x):=⟨fun q h=>(inferInstance:iy 5 qn).flat x q h⟩
instance (x:lJ):bq (fC x):=⟨fun q h=>(inferInstance:iy 5 fC).flat x q h⟩
instance (x:Cs):bq (qo x):=⟨fun q h=>(inferInstance:iy 5 qo).flat x q h⟩
instance (x:Int×Int):bq (sG x):=⟨fun q h=>(inferInstance:iy 2 sG).flat x q h⟩
def gB:List lJ:=[
 ⟨0,[117,110,114,101,97,99,104,97,98,108,101],0,[],[]⟩,
 ⟨1,[110,111,112],0,[],[]⟩,
 ⟨2,[98,108,111,99,107],1,[],[]⟩,
 ⟨3,[108,111,111,112],1,[],[]⟩,
 ⟨4,[105,102],1,[],[]⟩,
 ⟨5,[101,108,115,101],0,[],[]⟩,
 ⟨11,[101,110,100],0,[],[]⟩,
 ⟨12,[98,114],2,[],[]⟩,
 ⟨13,[98,114,95,105,102],2,[],[]⟩,
 ⟨14,[98,114,95,116,97,98,108,101],3,[],[]⟩,
 ⟨15,[114,101,116,117,114,110],0,[],[]⟩,
 ⟨16,[99,97,108,108],4,[],[]⟩,
 ⟨17,[99,97,108,108,95,105,110,100,105,114,101,99,116],5,[],[]⟩,
 ⟨26,[100,114,111,112],0,[],[]⟩,
 ⟨27,[115,101,108,101,99,116],0,[],[]⟩,
 ⟨32,[108,111,99,97,108,46,103,101,116],6,[],[]⟩,
 ⟨33,[108,111,99,97,108,46,115,101,116],6,[],[]⟩,
 ⟨34,[108,111,99,97,108,46,116,101,101],6,[],[]⟩,
 ⟨35,[103,108,111,98,97,108,46,103,101,116],7,[],[]⟩,
 ⟨36,[103,108,111,98,97,108,46,115,101,116],7,[],[]⟩,
 ⟨40,[105,51,50,46,108,111,97,100],8,[105],[105]⟩,
 ⟨41,[105,54,52,46,108,111,97,100],8,[105],[108]⟩,
 ⟨44,[105,51,50,46,108,111,97,100,56,95,115],8,[105],[105]⟩,
 ⟨45,[105,51,50,46,108,111,97,100,56,95,117],8,[105],[105]⟩,
 ⟨46,[105,51,50,46,108,111,97,100,49,54,95,115],8,[105],[105]⟩,
 ⟨47,[105,51,50,46,108,111,97,100,49,54,95,117],8,[105],[105]⟩,
 ⟨48,[105,54,52,46,108,111,97,100,56,95,115],8,[105],[108]⟩,
 ⟨49,[105,54,52,46,108,111,97,100,56,95,117],8,[105],[108]⟩,
 ⟨50,[105,54,52,46,108,111,97,100,49,54,95,115],8,[105],[108]⟩,
 ⟨51,[105,54,52,46,108,111,97,100,49,54,95,117],8,[105],[108]⟩,
 ⟨52,[105,54,52,46,108,111,97,100,51,50,95,115],8,[105],[108]⟩,
 ⟨53,[105,54,52,46,108,111,97,100,51,50,95,117],8,[105],[108]⟩,
 ⟨54,[105,51,50,46,115,116,111,114,101],8,[105,105],[]⟩,
 ⟨55,[105,54,52,46,115,116,111,114,101],8,[105,108],[]⟩,
 ⟨58,[105,51,50,46,115,116,111,114,101,56],8,[105,105],[]⟩,
 ⟨59,[105,51,50,46,115,116,111,114,101,49,54],8,[105,105],[]⟩,
 ⟨60,[105,54,52,46,115,116,111,114,101,56],8,[105,108],[]⟩,
 ⟨61,[105,54,52,46,115,116,111,114,101,49,54],8,[105,108],[]⟩,
 ⟨62,[105,54,52,46,115,116,111,114,101,51,50],8,[105,108],[]⟩,
 ⟨63,[109,101,109,111,114,121,46,115,105,122,101],9,[],[105]⟩,
 ⟨64,[109,101,109,111,114,121,46,103,114,111,119],9,[105],[105]⟩,
 ⟨65,[105,51,50,46,99,111,110,115,116],11,[],[105]⟩,
 ⟨66,[105,54,52,46,99,111,110,115,116],11,[],[108]⟩,
 ⟨167,[105,51,50,46,119,114,97,112,95,105,54,52],0,[108],[105]⟩,
 ⟨172,[105,54,52,46,101,120,116,101,110,100,95,105,51,50,95,115],0,[105],[108]⟩,
 ⟨173,[105,54,52,46,101,120,116,101,110,100,95,105,51,50,95,117],0,[105],[108]⟩,
 ⟨192,[105,51,50,46,101,120,116,101,110,100,56,95,115],0,[105],[105]⟩]
def iw:List lJ:=[
 ⟨193,[105,51,50,46,101,120,116,101,110,100,49,54,95,115],0,[105],[105]⟩,
 ⟨194,[105,54,52,46,101,120,116,101,110,100,56,95,115],0,[108],[108]⟩,
 ⟨195,[105,54,52,46,101,120,116,101,110,100,49,54,95,115],0,[108],[108]⟩,
 ⟨196,[105,54,52,46,101,120,116,101,110,100,51,50,95,115],0,[108],[108]⟩,
 ⟨64522,[109,101,109,111,114,121,46,99,111,112,121],10,[105,105,105],[]⟩,
 ⟨64523,[109,101,109,111,114,121,46,102,105,108,108],9,[105,105,105],[]⟩]
def fD:List Cs:=[⟨69,1,2,32,3⟩,⟨70,10,1,32,0⟩,⟨80,1,2,64,3⟩,⟨81,10,1,64,0⟩,⟨103,3,2,32,0⟩,⟨106,15,0,32,0⟩,⟨121,3,2,64,0⟩,⟨124,15,0,64,0⟩]
def Ju:List (List UInt8):=[[97,100,100],[115,117,98],[109,117,108],[100,105,118,95,115],[100,105,118,95,117],[114,101,109,95,115],[114,101,109,95,117],[97,110,100],[111,114],[120,111,114],[115,104,108],[115,104,114,95,115],[115,104,114,95,117],[114,111,116,108],[114,111,116,114]]
def zp:List (List UInt8):=[[101,113],[110,101],[108,116,95,115],[108,116,95,117],[103,116,95,115],[103,116,95,117],[108,101,95,115],[108,101,95,117],[103,101,95,115],[103,101,95,117]]
def Om:List (List UInt8):=[[99,108,122],[99,116,122],[112,111,112,99,110,116],[101,113,122]]
def Rf:List (List UInt8):=[[117,110,114,101,97,99,104,97,98,108,101],
 [110,111,112],
 [98,108,111,99,107],
 [108,111,111,112],
 [105,102],
 [101,108,115,101],
 [],
 [],
 [],
 [],
 [],
 [101,110,100],
 [98,114],
 [98,114,95,105,102],
 [98,114,95,116,97,98,108,101],
 [114,101,116,117,114,110],
 [99,97,108,108],
 [99,97,108,108,95,105,110,100,105,114,101,99,116],
 [],
 [],
 [],
 [],
 [],
 [],
 [],
 [],
 [100,114,111,112],
 [115,101,108,101,99,116],
 [],
 [],
 [],
 [],
 [108,111,99,97,108,46,103,101,116],
 [108,111,99,97,108,46,115,101,116],
 [108,111,99,97,108,46,116,101,101],
 [103,108,111,98,97,108,46,103,101,116],
 [103,108,111,98,97,108,46,115,101,116],
 [],
 [],
 [],
 [105,51,50,46,108,111,97,100],
 [105,54,52,46,108,111,97,100],
 [],
 [],
 [105,51,50,46,108,111,97,100,56,95,115],
 [105,51,50,46,108,111,97,100,56,95,117],
 [105,51,50,46,108,111,97,100,49,54,95,115],
 [105,51,50,46,108,111,97,100,49,54,95,117],
 [105,54,52,46,108,111,97,100,56,95,115],
 [105,54,52,46,108,111,97,100,56,95,117],
 [105,54,52,46,108,111,97,100,49,54,95,115],
 [105,54,52,46,108,111,97,100,49,54,95,117],
 [105,54,52,46,108,111,97,100,51,50,95,115],
 [105,54,52,46,108,111,97,100,51,50,95,117],
 [105,51,50,46,115,116,111,114,101],
 [105,54,52,46,115,116,111,114,101],
 [],
 [],
 [105,51,50,46,115,116,111,114,101,56],
 [105,51,50,46,115,116,111,114,101,49,54],
 [105,54,52,46,115,116,111,114,101,56],
 [105,54,52,46,115,116,111,114,101,49,54],
 [105,54,52,46,115,116,111,114,101,51,50],
 [109,101,109,111,114,121,46,115,105,122,101],
 [109,101,109,111,114,121,46,103,114,111,119],
 [105,51,50,46,99,111,110,115,116],
 [105,54,52,46,99,111,110,115,116],
 [],
 [],
 [105,51,50,46,101,113,122],
 [105,51,50,46,101,113],
 [105,51,50,46,110,101],
 [105,51,50,46,108,116,95,115],
 [105,51,50,46,108,116,95,117],
 [105,51,50,46,103,116,95,115],
 [105,51,50,46,103,116,95,117],
 [105,51,50,46,108,101,95,115],
 [105,51,50,46,108,101,95,117],
 [105,51,50,46,103,101,95,115],
 [105,51,50,46,103,101,95,117],
 [105,54,52,46,101,113,122],
 [105,54,52,46,101,113],
 [105,54,52,46,110,101],
 [105,54,52,46,108,116,95,115],
 [105,54,52,46,108,116,95,117],
 [105,54,52,46,103,116,95,115],
 [105,54,52,46,103,116,95,117],
 [105,54,52,46,108,101,95,115],
 [105,54,52,46,108,101,95,117],
 [105,54,52,46,103,101,95,115],
 [105,54,52,46,103,101,95,117],
 [],
 [],
 [],
 [],
 [],
 [],
 [],
 [],
 [],
 [],
 [],
 [],
 [105,51,50,46,99,108,122],
 [105,51,50,46,99,116,122],
 [105,51,50,46,112,111,112,99,110,116],
 [105,51,50,46,97,100,100],
 [105,51,50,46,115,117,98],
 [105,51,50,46,109,117,108],
 [105,51,50,46,100,105,118,95,115],
 [105,51,50,46,100,105,118,95,117],
 [105,51,50,46,114,101,109,95,115],
 [105,51,50,46,114,101,109,95,117],
 [105,51,50,46,97,110,100],
 [105,51,50,46,111,114],
 [105,51,50,46,120,111,114],
 [105,51,50,46,115,104,108],
 [105,51,50,46,115,104,114,95,115],
 [105,51,50,46,115,104,114,95,117],
 [105,51,50,46,114,111,116,108],
 [105,51,50,46,114,111,116,114],
 [105,54,52,46,99,108,122],
 [105,54,52,46,99,116,122],
 [105,54,52,46,112,111,112,99,110,116],
 [105,54,52,46,97,100,100],
 [105,54,52,46,115,117,98],
 [105,54,52,46,109,117,108],
 [105,54,52,46,100,105,118,95,115],
 [105,54,52,46,100,105,118,95,117],
 [105,54,52,46,114,101,109,95,115],
 [105,54,52,46,114,101,109,95,117],
 [105,54,52,46,97,110,100],
 [105,54,52,46,111,114],
 [105,54,52,46,120,111,114],
 [105,54,52,46,115,104,108],
 [105,54,52,46,115,104,114,95,115],
 [105,54,52,46,115,104,114,95,117],
 [105,54,52,46,114,111,116,108],
 [105,54,52,46,114,111,116,114],
 [],
 [],
 [],
 [],
 [],
 [],
 [],
 [],
 [],
 [],
 [],
 [],
 [],
 [],
 [],
 [],
 [],
 [],
 [],
 [],
 [],
 [],
 [],
 [],
 [],
 [],
 [],
 [],
 [105,51,50,46,119,114,97,112,95,105,54,52],
 [],
 [],
 [],
 [],
 [105,54,52,46,101,120,116,101,110,100,95,105,51,50,95,115],
 [105,54,52,46,101,120,116,101,110,100,95,105,51,50,95,117],
 [],
 [],
 [],
 [],
 [],
 [],
 [],
 [],
 [],
 [],
 [],
 [],
 [],
 [],
 [],
 [],
 [],
 [],
 [105,51,50,46,101,120,116,101,110,100,56,95,115],
 [105,51,50,46,101,120,116,101,110,100,49,54,95,115],
 [105,54,52,46,101,120,116,101,110,100,56,95,115],
 [105,54,52,46,101,120,116,101,110,100,49,54,95,115],
 [105,54,52,46,101,120,116,101,110,100,51,50,95,115]]
def wD:List (Int×Int):=[(28,28),(37,38),(42,43),(56,57),(67,68),(91,102),(139,166),(168,171),(174,191),(208,210),(253,253),(64512,64519),(64520,64521),(64524,64526),(64527,64529)]
theorem sH{α:Type}{p:α→Bool}:∀{l:List α} {k:Nat} {x:α},l[k]?=some x→p x=true→(∀j y,j<k→l[j]?=some y→p y=false)→l.find? p=some x
 |[],_,_,h,_,_=>by simp at h
 |y::l,0,x,h,hp,_=>by simp at h;subst h;simp[hp]
 |y::l,k+1,x,h,hp,hn=>by
  rw[List.find?_cons_of_neg (by simpa using hn 0 y (by omega) rfl)];exact sH (l:=l) (k:=k) (by simpa using h) hp (fun j z hj hz=>hn (j+1) z (by omega) (by simpa using hz))
def fE(l:List UInt8):List UInt8:=l.map fun c=>if c=108 then 126 else 127
def ou(l:List UInt8):Prop:=∀b∈l,b<128
instance (l:List UInt8):Decidable (ou l):=inferInstanceAs (Decidable (∀b∈l,b<128))
def ry(r:lJ):mq:=⟨r.code,r.name,r.form,fE r.takes,fE r.uB⟩
def LR:mq:=⟨0,[],0,[],[]⟩
def PX:lJ:=⟨0,[],0,[],[]⟩
def mT(code:Int)(s:Cs):Bool:=decide (s.first≤code∧code<s.first+s.many)
def kS(code:Int):Option (Int×Int×Int):=(fD.find? (mT code)).map fun s=>(s.group,s.from_+code-s.first,s.bits)
def kI(b:Int):List UInt8:=if b=64 then[105,54,52,46] else[105,51,50,46]
def lY(b:Int):List UInt8:=if b=64 then[108] else[105]
def jI(code g n b:Int):lJ:=
 if g=0 then⟨code,kI b++Ju.getD n.toNat [],0,lY b++lY b,lY b⟩
 else if g=1 then⟨code,kI b++zp.getD n.toNat [],0,lY b++lY b,[105]⟩
 else if n=3 then⟨code,kI b++Om.getD n.toNat [],0,lY b,[105]⟩
 else⟨code,kI b++Om.getD n.toNat [],0,lY b,lY b⟩
def fF(code:Int):Option lJ:=(kS code).map fun p=>jI code p.1 p.2.1 p.2.2
def iK(code:Int)(r:lJ):Bool:=decide (r.code=code)
def qD(code:Int):Option lJ:=match gB.find? (iK code) with|some r=>some r|none=>match iw.find? (iK code) with|some r=>some r|none=>fF code
def dy(code:Int):Option mq:=(qD code).map ry
def pg(code:Int):Prop:=∃r∈wD,r.1≤code∧code≤r.2
instance (code:Int):Decidable (pg code):=inferInstanceAs (Decidable (∃r∈wD,r.1≤code∧code≤r.2))
def gC:List (List UInt8):=[[56],[49,54],[51,50]]
def wE(name:List UInt8):List UInt8:=p9 (p9 (tF name 46).2.1 [95,115]) [95,117]
def tN(name:List UInt8):Int:=if kr (wE name) [56] then 1 else if kr (wE name) [49,54] then 2 else if kr (wE name) [51,50] then 4 else if tE name [105,54,52] then 8 else 4
def iC(code:Int):Option Int:=match dy code with|none=>none|some x=>if x.Form=8 then some (tN x.Name) else none
def iF(code:Int):List UInt8:=if code=64522 then[109,101,109,111,114,121,46,99,111,112,121] else if code=64523 then[109,101,109,111,114,121,46,102,105,108,108] else if code<0∨196<code then[] else Rf.getD code.toNat []
def aP(c:Int):Int:=
 if 2≤c∧c≤4 then 1 else if c=12∨c=13 then 2 else if c=14 then 3 else if c=16 then 4 else if c=17 then 5 else if 32≤c∧c≤34 then 6 else if c=35∨c=36 then 7 else if 40≤c∧c≤62 then 8 else if (c=63∨c=64)∨c=64523 then 9 else if c=64522 then 10 else if c=65∨c=66 then 11 else 0
def dR(c:Int):List UInt8×List UInt8:=
 if c<40 then([],[]) else if c=40∨44≤c∧c≤47 then([127],[127]) else if c=41∨48≤c∧c≤53 then([127],[126]) else if (c=54∨c=58)∨c=59 then([127,127],[])
 else if c≤62 then([127,126],[]) else if c=63∨c=65 then([],[127]) else if c=66 then([],[126]) else if c=80∨c=167 then([126],[127])
 else if (70≤c∧c≤79)∨106≤c∧c≤120 then([127,127],[127]) else if 81≤c∧c≤90 then([126,126],[127]) else if 124≤c∧c≤138 then([126,126],[126])
 else if c=172∨c=173 then([127],[126]) else if (121≤c∧c≤123)∨194≤c∧c≤196 then([126],[126]) else if 64522≤c then([127,127,127],[]) else([127],[127])
def jJ(c:Int):Int:=
 if c=40∨c=52∨c=53∨c=54∨c=62 then 4 else if c=41∨c=55 then 8 else if c=44∨c=45∨c=48∨c=49∨c=58∨c=60 then 1 else if c=46∨c=47∨c=50∨c=51∨c=59∨c=61 then 2 else 0
def sI(c:Int):Prop:=
 (c=28∨c=37∨c=38∨c=42∨c=43∨c=56∨c=57∨c=67∨c=68∨c=208∨c=209∨c=210∨c=253)∨(91≤c∧c≤102∨139≤c∧c≤166∨168≤c∧c≤171∨174≤c∧c≤191∨64512≤c∧c≤64521∨64524≤c∧c≤64529)
instance (c:Int):Decidable (sI c):=inferInstanceAs (Decidable (_∨_))
theorem Fj:∀r∈gB,ou r.takes∧ou r.uB∧r.takes.length≤3∧r.uB.length≤3:=by decide
theorem Fk:∀r∈iw,ou r.takes∧ou r.uB∧r.takes.length≤3∧r.uB.length≤3:=by decide
def Ct(r:lJ):Prop:=ou r.takes∧ou r.uB∧r.takes.length≤3∧r.uB.length≤3
theorem On(b:Int):ou (lY b)∧(lY b).length=1:=by unfold lY;split<;>exact⟨by decide,rfl⟩
theorem Fl(b:Int):ou (lY b++lY b):=by unfold lY;split<;>decide
theorem Jv(code g n b:Int):Ct (jI code g n b):=by
 have h:=On b;have h2:=Fl b;have h3:ou [105]:=by decide
 unfold jI Ct
 split
 · exact⟨h2,h.1,by simp[h.2],by simp[h.2]⟩
 split
 · exact⟨h2,h3,by simp[h.2],by simp⟩
 split
 · exact⟨h.1,h3,by simp[h.2],by simp⟩
 · exact⟨h.1,h.1,by simp[h.2],by simp[h.2]⟩
theorem HY{code:Int}{r:lJ}(h:qD code=some r):Ct r:=by
 unfold qD at h
 split at h
 · rename_i r' hr;cases h;exact Fj r (List.mem_of_find?_eq_some hr)
 · split at h
   · rename_i r' hr;cases h;exact Fk r (List.mem_of_find?_eq_some hr)
   · unfold fF at h
     cases hn:kS code with
     |none=>rw[hn] at h;cases h
     |some p=>rw[hn] at h;cases h;exact Jv _ _ _ _
theorem Jw:∀s∈fD,0≤s.from_∧(s.group=0∧s.from_+s.many≤15∨s.group=1∧s.from_+s.many≤10∨s.group=2∧s.from_+s.many≤4)∧(s.bits=32∨s.bits=64):=by decide
theorem uC{code g n b:Int}(h:kS code=some (g,n,b)):0≤n∧(g=0∧n<15∨g=1∧n<10∨g=2∧n<4)∧(b=32∨b=64):=by
 unfold kS at h;cases hs:fD.find? (mT code) with
 |none=>rw[hs] at h;cases h
 |some s=>
  rw[hs] at h;cases h
  have h1:=Jw s (List.mem_of_find?_eq_some hs);have h2:=List.find?_some hs;simp only[mT,decide_eq_true_eq] at h2;omega
end Go.Hl
namespace Go.Hl
theorem LS:∀s∈fD,0≤s.first∧s.first≤200∧0≤s.many∧s.many≤20∧0≤s.from_∧s.from_≤10:=by decide
theorem Oo{code:Int}{k:Nat}{s:Cs}(hx:fD[k]?=some s)(hc:mT code s=true)(hn:fc (fun s=>mT code s=true) fD k):kS code=some (s.group,s.from_+code-s.first,s.bits):=by
 unfold kS;rw[sH hx hc (fun j y hj hy=>by simpa using hn j y hj hy)];rfl
theorem qp{code:Int}(hn:fc (fun s=>mT code s=true) fD fD.length):kS code=none:=by
 unfold kS;rw[List.find?_eq_none.2 (fun x hx=>hn.all (Nat.le_refl _) x hx)];rfl
theorem Rg{code:Int}{k:Nat}{r:lJ}(hx:gB[k]?=some r)(hc:r.code=code)(hn:fc (fun r=>r.code=code) gB k):qD code=some r:=by
 unfold qD;rw[sH hx (by simpa[iK] using hc) (fun j y hj hy=>by simpa[iK] using hn j y hj hy)]
theorem zq{code:Int}(hn:fc (fun r:lJ=>r.code=code) gB gB.length):gB.find? (iK code)=none:=
 List.find?_eq_none.2 (fun x hx=>by have:=hn.all (Nat.le_refl _) x hx;simpa[iK] using this)
theorem Jx{code:Int}(hn:fc (fun r:lJ=>r.code=code) iw iw.length):iw.find? (iK code)=none:=
 List.find?_eq_none.2 (fun x hx=>by have:=hn.all (Nat.le_refl _) x hx;simpa[iK] using this)
theorem Rh{code:Int}{k:Nat}{r:lJ}(h1:fc (fun r:lJ=>r.code=code) gB gB.length)(hx:iw[k]?=some r)(hc:r.code=code)(hn:fc (fun r=>r.code=code) iw k):qD code=some r:=by
 unfold qD;rw[zq h1];simp only;rw[sH hx (by simpa[iK] using hc) (fun j y hj hy=>by simpa[iK] using hn j y hj hy)]
theorem LU{code:Int}(h1:fc (fun r:lJ=>r.code=code) gB gB.length)(h2:fc (fun r:lJ=>r.code=code) iw iw.length):qD code=fF code:=by
 unfold qD;rw[zq h1];simp only;rw[Jx h2]
theorem x7{code:Int}{p:Int×Int×Int}(h:kS code=some p):fF code=some (jI code p.1 p.2.1 p.2.2):=by unfold fF;rw[h];rfl
theorem x8{code:Int}(h:kS code=none):fF code=none:=by unfold fF;rw[h];rfl
theorem uD{l:List UInt8}{k:Nat}{x:UInt8}(h:l[k]?=some x):fE (l.take (k+1))=fE (l.take k)++[if x=108 then 126 else 127]:=by
 rw[←cu h];simp[fE]
theorem j7{l:List UInt8}{k:Nat}{x:UInt8}(h:l[k]?=some x)(hc:(x.toNat:Int)=108):fE (l.take (k+1))=fE (l.take k)++[126]:=by
 have:x=108:=UInt8.toNat_inj.1 (by simp;omega);rw[uD h,if_pos this]
theorem j8{l:List UInt8}{k:Nat}{x:UInt8}(h:l[k]?=some x)(hc:¬(x.toNat:Int)=108):fE (l.take (k+1))=fE (l.take k)++[127]:=by
 have:¬x=108:=fun e=>hc (by subst e;rfl);rw[uD h,if_neg this]
theorem wF(l:List UInt8):(fE l).length=l.length:=by simp[fE]
theorem Cu:∀l:List (List UInt8),l.flatMap jn=l.map cW
 |[]=>rfl
 |x::l=>by rw[List.flatMap_cons,List.map_cons,Cu l];rfl
theorem kU{l:List (List UInt8)}{j:Nat}(h:j<l.length):(l.flatMap jn)[j]?=some (cW (l.getD j [])):=by
 rw[Cu,List.getElem?_map,List.getElem?_eq_getElem h,List.getD_eq_getElem?_getD,List.getElem?_eq_getElem h];rfl
theorem Cv(b:Int):(kI b).length=4:=by unfold kI;split<;>rfl
theorem Cw:∀s∈Ju,s.length≤10:=by decide
theorem zu:∀s∈zp,s.length≤10:=by decide
theorem AA:∀s∈Om,s.length≤10:=by decide
theorem sJ{l:List (List UInt8)}(h:∀s∈l,s.length≤10)(j:Nat):(l.getD j []).length≤10:=by
 rw[List.getD_eq_getElem?_getD];cases hj:l[j]? with
 |none=>simp
 |some s=>exact h s (List.mem_of_getElem? hj)
end Go.Hl
namespace Go.Hl
theorem Oq{code:Int}{x:mq}(h:dy code=some x):x.Name≠[46]∧x.Name.length≤20:=by
 unfold dy at h;cases hr:qD code with
 |none=>rw[hr] at h;cases h
 | some r=>
  rw[hr] at h;cases h
  show r.name≠[46]∧r.name.length≤20
  have h1:∀r∈gB,r.name≠[46]∧r.name.length≤20:=by decide
  have h2:∀r∈iw,r.name≠[46]∧r.name.length≤20:=by decide
  unfold qD at hr
  split at hr
  · rename_i r' hf;cases hr;exact h1 _ (List.mem_of_find?_eq_some hf)
  · split at hr
    · rename_i r' hf;cases hr;exact h2 _ (List.mem_of_find?_eq_some hf)
    · unfold fF at hr
      cases hn:kS code with
      |none=>rw[hn] at hr;cases hr
      | some p=>
       rw[hn] at hr;cases hr
       have hk:=Cv p.2.2
       have key:∀(T:List (List UInt8)),(∀s∈T,s.length≤10)→kI p.2.2++T.getD p.2.1.toNat []≠[46]∧(kI p.2.2++T.getD p.2.1.toNat []).length≤20:=fun T hT=>by
        have hl:=sJ hT p.2.1.toNat;refine⟨fun e=>?_,by rw[List.length_append];omega⟩;have:=congrArg List.length e;rw[List.length_append] at this;simp at this;omega
       unfold jI
       dsimp only
       split
       · exact key _ Cw
       split
       · exact key _ zu
       split
       · exact key _ AA
       · exact key _ AA
theorem uE{code:Int}(h:dy code=none):iC code=none:=by unfold iC;rw[h]
theorem Cx{code:Int}{x:mq}(h:dy code=some x)(hf:x.Form≠8):iC code=none:=by unfold iC;rw[h];simp[hf]
theorem Fm{code:Int}{x:mq}(h:dy code=some x)(hf:x.Form=8):iC code=some (tN x.Name):=by unfold iC;rw[h];simp[hf]
theorem Jy{name s:List UInt8}{k:Nat}(hs:gC[k]?=some s)(hc:kr (wE name) s)(hn:fc (fun s=>kr (wE name) s) gC k):tN name=2^k:=by
 unfold tN
 match k,hs with
 |0,hs=>cases hs;rw[if_pos hc];rfl
 |1,hs=>cases hs;rw[if_neg (hn 0 _ (by omega) rfl),if_pos hc];rfl
 |2,hs=>cases hs;rw[if_neg (hn 0 _ (by omega) rfl),if_neg (hn 1 _ (by omega) rfl),if_pos hc];rfl
theorem zw{name:List UInt8}(hn:fc (fun s=>kr (wE name) s) gC gC.length):tN name=if tE name [105,54,52] then 8 else 4:=by
 unfold tN;rw[if_neg (hn 0 _ (by decide) rfl),if_neg (hn 1 _ (by decide) rfl),if_neg (hn 2 _ (by decide) rfl)]
theorem YE:∀{k:Nat},k<3→IntKind.i64.wrap (1*2^k)=(2:Int)^k
 |0,_=>rfl
 |1,_=>rfl
 |2,_=>rfl
 |k+3,h=>by omega
end Go.Hl
end
section
namespace Go.Hl
def zx(c:Int):Prop:=(iC c=if 0<jJ c then some (jJ c) else none)∧(pg c↔sI c)∧
 match dy c with
 |none=>iF c=[]
 |some x=>x.Code=c∧x.Name=iF c∧iF c≠[]∧x.Form=aP c∧x.sF=(dR c).1∧x.o9=(dR c).2∧¬pg c
instance (c:Int):Decidable (zx c):=by unfold zx;cases dy c<;>infer_instance
theorem Ot:∀c:Fin 256,zx (c.val:Int):=by decide+kernel
theorem Ou:∀c:Fin 18,zx ((c.val:Int)+64512):=by decide+kernel
variable {c:Int}
theorem Cy(h:c<0∨196<c∧c<64522∨64523<c):dy c=none:=by
 have h1:∀r∈gB,0≤r.code∧r.code≤196:=by decide
 have h2:∀r∈iw,0≤r.code∧r.code≤196∨64522≤r.code∧r.code≤64523:=by decide
 have h3:∀s∈fD,0≤s.first∧s.first+s.many≤197:=by decide
 unfold dy qD fF kS;rw[List.find?_eq_none.2 (fun r hr=>by have:=h1 r hr;simp[iK];omega)];simp only;rw[List.find?_eq_none.2 (fun r hr=>by have:=h2 r hr;simp[iK];omega)];simp only;rw[List.find?_eq_none.2 (fun s hs=>by have:=h3 s hs;simp[mT];omega)];rfl
theorem LV(h:c<0∨255<c∧c<64512∨64529<c):zx c:=by
 have hf:dy c=none:=Cy (by omega);have h4:∀r∈wD,0≤r.1∧r.2≤255∨64512≤r.1∧r.2≤64529:=by decide
 have hno:¬pg c:=fun⟨r,hr,hc⟩=>by have:=h4 r hr;omega
 have YF:¬sI c:=by unfold sI;omega
 have hw:jJ c=0:=by unfold jJ;repeat rw[if_neg (by omega)]
 refine⟨?_,⟨fun h=>(hno h).elim,fun h=>(YF h).elim⟩,?_⟩
 · rw[uE hf,hw];rfl
 · rw[hf]
   show iF c=[]
   unfold iF;rw[if_neg (by omega),if_neg (by omega)];by_cases h0:c<0∨196<c
   · rw[if_pos h0]
   · omega
theorem wG(c:Int):zx c:=by
 by_cases h1:0≤c∧c<256
 · have:=Ot ⟨c.toNat,by omega⟩
   rwa [show((⟨c.toNat,by omega⟩:Fin 256).val:Int)=c by simp;omega] at this
 by_cases h2:64512≤c∧c<64530
 · have:=Ou ⟨(c-64512).toNat,by omega⟩
   rwa [show((⟨(c-64512).toNat,by omega⟩:Fin 18).val:Int)+64512=c by simp;omega] at this
 · exact LV (by omega)
theorem nU(h:dy c=none):iF c=[]:=by have:=(wG c).2.2;rw[h] at this;exact this
theorem jo{x:mq}(h:dy c=some x):x.Code=c∧x.Name=iF c∧iF c≠[]∧x.Form=aP c∧x.sF=(dR c).1∧x.o9=(dR c).2∧¬pg c:=by
 have:=(wG c).2.2;rw[h] at this;exact this
theorem LW:(dy c).isSome↔iF c≠[]:=by
 cases h:dy c with
 |none=>simp[nU h]
 |some x=>simp[(jo h).2.2.1]
theorem Jz(c:Int):(iC c).getD 0=jJ c∧((iC c).isSome↔0<jJ c):=by
 rw[(wG c).1];have h0:0≤jJ c:=by unfold jJ;repeat (first|split|omega)
 split
 · rename_i h;simp[h]
 · rename_i h;simp;omega
theorem LX{α:Type}{P:α→Prop}{c:Prop}[Decidable c]{a b:α}(ha:P a)(hb:P b):P (if c then a else b):=by split<;>assumption
theorem tO(c:Int):(dR c).1.length≤3∧(dR c).2.length≤3:=by
 suffices h:(fun p:List UInt8×List UInt8=>p.1.length≤3∧p.2.length≤3) (dR c) from h
 unfold dR
 iterate 14 refine LX (P:=fun p:List UInt8×List UInt8=>p.1.length≤3∧p.2.length≤3) ⟨by simp,by simp⟩ ?_
 exact⟨by simp,by simp⟩
end Go.Hl
end
section
namespace Go.Hl
structure Fo where
 aB:List nc
 cY:List nc
 bX:List Prop
 aH:List UInt8
 fP:List Prop
 Table:Prop
 cT:nc
 aY:List UInt8
open Classical
noncomputable def oF(s:jW)(i o:List UInt8):Option jW:=(fe s i).map (cQ · o)
noncomputable def eD(w:Prop):UInt8:=if w then 126 else 127
def gM(labs:List (List UInt8))(n:Int):Option (List UInt8):=if n<(labs.length:Int)∧0≤n then labs[labs.length-1-n.toNat]? else none
def dI{α:Type}(l:List α)(n:Int):Option α:=if n<(l.length:Int)∧0≤n then l[n.toNat]? else none
noncomputable def nW(v:Fo)(x:aq)(s:jW):Option jW:=
 (dI v.bX x.A).bind fun wa=>
 (if aP x.Code=10 then dI v.bX x.B else some wa).bind fun wb=>
 if aP x.Code=8 then
  if (¬wa∧4294967295<x.B)∨jJ x.Code<2^x.eT.toNat then none
  else oF s (eD wa::(dR x.Code).1.tail) (dR x.Code).2
 else if x.Code=63 then oF s (dR x.Code).1 [eD wa]
 else if x.Code=64 then oF s [eD wa] [eD wa]
 else if x.Code=64523 then oF s [eD wa,127,eD wa] (dR x.Code).2
 else oF s [eD wa,eD wb,eD (wa∧wb)] (dR x.Code).2
noncomputable def gN(v:Fo)(x:aq)(s:jW)(labs:List (List UInt8)):Option jW:=
 if x.Code=0 then some gA
 else if x.Code=12 then(gM labs x.A).bind fun w=>(fe s w).map fun _=>gA
 else if x.Code=13 then(gM labs x.A).bind fun w=>oF s (w++[127]) w
 else if x.Code=14 then(gM labs x.A).bind fun w=>if ∀n∈x.L,gM labs n=some w then(fe s (w++[127])).map fun _=>gA else none
 else if x.Code=15 then(fe s v.cT.R).map fun _=>gA
 else if x.Code=16 then(dI v.aB x.A).bind fun g=>oF s g.P g.R
 else if x.Code=17 then(dI v.cY x.A).bind fun g=>if x.B=0∧v.Table then oF s (g.P++[127]) g.R else none
 else if x.Code=26 then(jl s 0).map Prod.fst
 else if x.Code=27 then(fe s [127]).bind fun s=>(jl s 0).bind fun p=>(jl p.1 p.2).map fun p=>cQ p.1 [p.2]
 else if x.Code=32 then(dI v.aY x.A).map fun t=>cQ s [t]
 else if x.Code=33 then(dI v.aY x.A).bind fun t=>fe s [t]
 else if x.Code=34 then(dI v.aY x.A).bind fun t=>oF s [t] [t]
 else if x.Code=35 then(dI v.aH x.A).map fun t=>cQ s [t]
 else if x.Code=36 then(dI v.aH x.A).bind fun t=>(dI v.fP x.A).bind fun m=>if m then fe s [t] else none
 else if aP x.Code<8∨10<aP x.Code then oF s (dR x.Code).1 (dR x.Code).2
 else nW v x s
end Go.Hl
end
section
namespace Go.Hl
def jA(n:Nat):Nat:=if n<128 then 1 else jA (n/128)+1
termination_by n
decreasing_by omega
def kC(n:Int):Nat:=if-64≤n∧n<64 then 1 else kC (n/128)+1
termination_by n.natAbs
decreasing_by omega
theorem LY(n:Int):0<kC n:=by unfold kC;split<;>omega
variable {n:Nat}
theorem AB(h:n<128):jA n=1:=by unfold jA;simp[h]
theorem HZ(h:128≤n):jA n=jA (n/128)+1:=by rw[jA];simp[Nat.not_lt.2 h]
theorem vn{n:Int}(h: -64≤n∧n<64):kC n=1:=by unfold kC;simp[h]
theorem Cz{n:Int}(h:¬(-64≤n∧n<64)):kC n=kC (n/128)+1:=by rw[kC];simp[h]
theorem Ov:∀(k n:Nat),n<128^(k+1)→jA n≤k+1:=by
 intro k
 induction k with
 |zero=>intro n h;rw[AB (by simpa using h)];omega
 |succ k ih=>
  intro n h;by_cases h1:n<128
  · rw[AB h1];omega
  · rw[HZ (by omega)]
    have:=ih (n/128) (by rw[Nat.div_lt_iff_lt_mul (by omega)];rw[←Nat.pow_succ];exact h);omega
theorem iL(h:n<18446744073709551616):jA n≤10:=Ov 9 n (Nat.lt_of_lt_of_le h (by decide))
theorem Ow:∀(k:Nat) (n:Int),-(64*128^k:Int)≤n→n<64*128^k→kC n≤k+1:=by
 intro k
 induction k with
 |zero=>intro n h1 h2;rw[vn (by omega)];omega
 |succ k ih=>
  intro n h1 h2;by_cases h: -64≤n∧n<64
  · rw[vn h];omega
  · rw[Cz h]
    have e:(64*128^(k+1):Int)=(64*128^k)*128:=by rw[Int.pow_succ];omega
    rw[e] at h1 h2;have:=ih (n/128) (by omega) (by omega);omega
theorem H6{n:Int}(h1: -9223372036854775808≤n)(h2:n<9223372036854775808):kC n≤10:=Ow 9 n (by omega) (by omega)
def KT(m:Nat):Nat:=if m=0 then 0 else Nat.log2 m+1
theorem Ox(m:Nat)(h:128≤m):KT m=KT (m/128)+7:=by
 have h0:m/128≠0:=by omega
 simp only[KT,h0,if_false,show m≠0 by omega];have e:m/128=m/2/2/2/2/2/2/2:=by simp[Nat.div_div_eq_div_mul]
 have l:∀k:Nat,2≤k→Nat.log2 k=Nat.log2 (k/2)+1:=fun k hk=>by rw[Nat.log2_def];simp[hk]
 rw[e,l m (by omega),l (m/2) (by omega),l (m/2/2) (by omega),l (m/2/2/2) (by omega),l (m/2/2/2/2) (by omega),l (m/2/2/2/2/2) (by omega),l (m/2/2/2/2/2/2) (by omega)]
theorem Fp{m k:Nat}(h:m<2^k):KT m≤k:=by
 unfold KT;split
 · omega
 · rename_i h0;have:=(Nat.log2_lt h0).2 h;omega
theorem Ri{m k:Nat}(h:2^k≤m):k<KT m:=by
 unfold KT;have h0:m≠0:=by have:=Nat.two_pow_pos k;omega
 rw[if_neg h0];have:=(Nat.le_log2 h0).2 h;omega
theorem JA:∀(k:Nat) (n:Int),n.natAbs≤k→kC n=(KT (if n<0 then(-n-1).toNat else n.toNat)+7)/7:=by
  intro k
  induction k with
  | zero => intro n h;have:n=0:=by omega
            subst this;rw[vn (by omega)];simp[KT]
  | succ k ih=>
    intro n h;generalize hm:(if n<0 then(-n-1).toNat else n.toNat)=m;by_cases h1: -64≤n∧n<64
    · rw[vn h1];have:=Fp (m:=m) (k:=6) (by split at hm<;>omega);omega
    · rw[Cz h1,ih (n/128) (by omega)]
      have e:(if n/128<0 then(-(n/128)-1).toNat else(n/128).toNat)=m/128:=by split at hm<;>split<;>omega
      rw[e];by_cases h2:128≤m
      · rw[Ox m h2];omega
      · have h3:m/128=0:=by omega
        have a:=Fp (m:=m) (k:=7) (by omega);have b:=Ri (m:=m) (k:=6) (by split at hm<;>omega);rw[h3];simp only[KT,if_true]
        simp only[KT] at a b;omega
def th(n:Int):Prop:=n≤4294967295
def iQ(x:aq):Prop:=
 iF x.Code≠[]∧¬(aP x.Code≠11∧¬th x.A∨x.Code=65∧¬th x.A∨aP x.Code≠8∧¬th x.B)∧
 ¬(aP x.Code=0∧x.A≠0∨aP x.Code=1∧x.A≠64∧x.A≠126∧x.A≠127)∧
 ¬(aP x.Code≠5∧aP x.Code≠8∧aP x.Code≠10∧x.B≠0∨aP x.Code≠8∧x.eT≠0∨x.eT<0∨31<x.eT)∧
 (∀n∈x.L,th n)∧(x.L=[]∨aP x.Code=3∧x.L.length≤100)
def eJ(n:Int):Nat:=jA n.toNat
def rz(x:aq):Nat:=
 (if 64512≤x.Code then 1+eJ (x.Code-64512) else 1)+
 (if aP x.Code=1 then 1
  else if aP x.Code=2∨aP x.Code=4∨aP x.Code=6∨aP x.Code=7∨aP x.Code=9 then eJ x.A
  else if aP x.Code=3 then jA x.L.length+(x.L.map eJ).sum+eJ x.A
  else if aP x.Code=5∨aP x.Code=10 then eJ x.A+eJ x.B
  else if aP x.Code=8 then(if x.A=0 then eJ x.eT else eJ (x.eT+64)+eJ x.A)+eJ x.B
  else if aP x.Code=11 then kC (if x.Code=65 then(if x.A<2147483648 then x.A else x.A-4294967296) else(if x.A<9223372036854775808 then x.A else x.A-18446744073709551616))
  else 0)
def pn:List UInt8→List Nat
 |[]=>[]
 |t::l=>match l,pn l with
  |t'::_,n::r=>if t'=t then(n+1)::r else 1::n::r
  |_,_=>[1]
def LZ(b:nh):Nat:=jA (pn b.aY).length+((pn b.aY).map fun n=>jA n+1).sum+(b.L.map rz).sum
def zy(b:nh):Prop:=
 (∀x∈b.L,iQ x)∧(∀t∈b.aY,t=126∨t=127)∧b.aY.length≤50∧mS (b.L.map (·.Code)) []∧LZ b≤4096
def bC(m:aR)(n:Int):nc:=(m.cY[n.toNat]?).getD ⟨[],[]⟩
def bJ(m:aR)(f:bU):Fo where
 aB:=m.av.map (fun i=>bC m i.gq)++m.aB.map (fun g=>bC m g.gq)
 cY:=m.cY
 bX:=m.dU.map (·.bX)
 aH:=m.aH.map (·.Ty)
 fP:=m.aH.map (·.fP)
 Table:=0≤m.Table
 cT:=bC m f.gq
 aY:=(bC m f.gq).P++f.Body.aY
def iG(x:aq):List UInt8:=if x.A=64 then[] else[UInt8.ofNat x.A.toNat]
noncomputable def cj(m:aR)(f:bU):Option (List Nat):=
 nT (·.Code) iG (gN (bJ m f)) f.Body.L [fm.mk False False (bC m f.gq).R ([],False)]
def wH(m:aR)(f:bU):Prop:=zy f.Body∧∃hs,cj m f=some hs
def ec(m:aR):Prop:=fA m∧∀f∈m.aB,wH m f
end Go.Hl
end
section
namespace Go.Hl
open Go.RowKit
structure JB where
 loop:Prop
 is:Prop
 res:List UInt8
 h:Nat
 dead:Prop
def jq(b:JB):List VP:=[ak b.loop,ak b.is,an 1 aL b.res,aa .i64 (b.h:Int),ak b.dead]
instance:iy 5 jq:=⟨fun _=>rfl,fun x q h=>by simp only[jq,List.mem_cons,List.not_mem_nil,or_false] at h;rcases h with h|h|h|h|h<;>rw[h]<;>infer_instance⟩
instance (x:JB):bq (jq x):=bq.of x
def j9(h:Nat)(k:fm)(s:jW):JB:=⟨k.loop,k.is,k.res,h,s.2⟩
def cL(fs:List fm):List UInt8:=fs.flatMap (·.st.1)
def x9:Nat→List fm→List JB
 |_,[]=>[]
 |h,k::fs=>j9 h k k.st::x9 (h+k.st.1.length) fs
abbrev iH(fs:List fm):List JB:=x9 0 fs
theorem zz(k:fm):∀(fs:List fm) (h:Nat),x9 h (fs++[k])=x9 h fs++[j9 (h+o8 fs) k k.st]
 |[],h=>by simp[x9,o8]
 |k'::fs,h=>by simp[x9,zz k fs,o8,Nat.add_assoc]
theorem CA:∀(fs:List fm) (h:Nat),(x9 h fs).length=fs.length
 |[],_=>rfl
 |_::fs,h=>by simp[x9,CA fs]
theorem wI(fs:List fm):(cL fs).length=o8 fs:=by
 induction fs with
 |nil=>rfl
 |cons k fs ih=>simp only[cL,List.flatMap_cons,List.length_append] at ih ⊢;rw[ih];simp[o8]
theorem fX(fs:List fm)(k:fm):cL (fs++[k])=cL fs++k.st.1:=by simp[cL]
theorem jK(fs:List fm)(k:fm):iH (fs++[k])=iH fs++[j9 (cL fs).length k k.st]:=by rw[iH,zz,Nat.zero_add,wI]
open Classical in
noncomputable def yb(b:JB):List UInt8:=if b.loop then[] else b.res
theorem CB:∀(fs:List fm) (h:Nat),(x9 h fs).map yb=fs.map sE
 |[],_=>rfl
 |k::fs,h=>by simp only[x9,List.map_cons,CB fs];rfl
abbrev H7(cb:Nat)(m:aR)(f:bU)(gs:SB)(ns:Nat)(gb:SB)(nb:Nat):HP:=aF cb [bH (bp m),an 1 aL (bJ m f).aY,an 1 aL (bC m f.gq).P,an 1 aL (bC m f.gq).R,af (bA gs ns),af (bA gb nb)]
abbrev L1(cb:Nat)(m:aR)(f:bU)(gs gb:SB)(st:List UInt8)(B:List JB):List HP:=[H7 cb m f gs st.length gb B.length,aI gs 1 aL st,aI gb 5 jq B]
abbrev wJ(cb:Nat)(m:aR)(f:bU)(gs:SB)(bb bc:Nat)(S0:List UInt8)(B:List JB)(k:fm)(s:jW):List HP:=L1 cb m f gs (some (bb,bc)) (S0++s.1) (B++[j9 S0.length k s])
variable {w:UInt8} {d:Prop}
theorem Oy(h:d):jl ([],d) w=some (([],d),w):=by simp[jl,h]
theorem Fq(h:¬d):jl ([],d) w=none:=by simp[jl,h]
variable {l:List UInt8}
theorem CC{g:UInt8}(h:g=w∨g=0∨w=0):jl (l++[g],d) w=some ((l,d),if g=0 then w else g):=by
 simp[jl,h]
theorem CD{g:UInt8}(h:¬(g=w∨g=0∨w=0)):jl (l++[g],d) w=none:=by
 simp only[jl,List.getLast?_append,List.getLast?_singleton,Option.some_or];rw[if_neg h]
theorem vo(a:UInt8):(a.toNat:Int)=0↔a=0:=by
 rw[←UInt8.toNat_inj];simp
variable {α:Type}
theorem mw{l:List α}(h:l≠[]):∃m x,l=m++[x]:=⟨l.dropLast,l.getLast h,(List.dropLast_concat_getLast h).symm⟩
theorem CE(s:jW)(a b:List UInt8):vb s (a++b)=(vb s a).bind fun s=>vb s b:=by
 induction a generalizing s with
 |nil=>rfl
 |cons t a ih=>
  simp only[List.cons_append,vb];cases jl s t with
  |none=>rfl
  |some p=>simp only[Option.bind_some];exact ih _
theorem Oz(s:jW)(a b:List UInt8):fe s (a++b)=(fe s b).bind fun s=>fe s a:=by
 unfold fe;rw[List.reverse_append,CE]
theorem fQ(s:jW)(t:UInt8):fe s [t]=(jl s t).map Prod.fst:=by
 simp only[fe,List.reverse_cons,List.reverse_nil,List.nil_append,vb];cases jl s t<;>rfl
theorem iI(s:jW)(l:List UInt8)(t:UInt8):fe s (l++[t])=(jl s t).bind fun p=>fe p.1 l:=by
 rw[Oz,fQ];cases jl s t<;>rfl
variable {s:jW}
theorem Rj{i:Nat}{t:UInt8}(h:l[i]?=some t):fe s (l.take (i+1))=(jl s t).bind fun p=>fe p.1 (l.take i):=by
 rw[←cu h,iI]
theorem nr(s:jW)(l:List UInt8):(cQ s l).1.length=s.1.length+l.length:=by simp[cQ]
theorem lK{p:jW×UInt8}(h:jl s w=some p):p.1.1.length≤s.1.length:=by
 unfold jl at h
 split at h
 · split at h
   · cases h;exact Nat.le_refl _
   · cases h
 · split at h
   · cases h;simp
   · cases h
theorem H8:∀(l:List UInt8) {s s':jW},vb s l=some s'→s'.1.length≤s.1.length
 |[],s,s',h=>by cases h;exact Nat.le_refl _
 |t::l,s,s',h=>by
  simp only[vb] at h;cases h1:jl s t with
  |none=>rw[h1] at h;cases h
  |some p=>rw[h1] at h;exact Nat.le_trans (H8 l h) (lK h1)
theorem rA{s':jW}(h:fe s l=some s'):s'.1.length≤s.1.length:=H8 _ h
variable {n:Int}
theorem L2{L:List (List UInt8)}(h0:0≤n)(h:n<(L.length:Int)):∃w,gM L n=some w∧L[L.length-1-n.toNat]?=some w:=by
 have:L.length-1-n.toNat<L.length:=by omega
 exact⟨L[L.length-1-n.toNat],by unfold gM;rw[if_pos ⟨h,h0⟩];exact List.getElem?_eq_getElem this,List.getElem?_eq_getElem this⟩
theorem JC{L:List (List UInt8)}(h:¬n<(L.length:Int)):gM L n=none:=by unfold gM;rw[if_neg (fun e=>h e.1)]
variable {L:List α}
theorem vr(h0:0≤n)(h:n<(L.length:Int)):∃w,dI L n=some w∧L[n.toNat]?=some w:=by
 have:n.toNat<L.length:=by omega
 exact⟨L[n.toNat],by unfold dI;rw[if_pos ⟨h,h0⟩];exact List.getElem?_eq_getElem this,List.getElem?_eq_getElem this⟩
theorem wK(h:¬n<(L.length:Int)):dI L n=none:=by unfold dI;rw[if_neg (fun e=>h e.1)]
theorem L3{w:α}(h:dI L n=some w):0≤n∧n<(L.length:Int)∧L[n.toNat]?=some w:=by
 unfold dI at h
 split at h
 · rename_i hc;exact⟨hc.2,hc.1,h⟩
 · cases h
def yc(res:List UInt8)(s:jW):Prop:=∃s',fe s res=some s'∧s'.1=[]
theorem Fs{x:UInt8}:(((x.toNat:Int)=(w.toNat:Int)∨(x.toNat:Int)=0)∨(w.toNat:Int)=0)↔(x=w∨x=0∨w=0):=by
 rw[HU,vo,vo,or_assoc]
theorem vt(a b:List α):a<+:a++b:=List.prefix_append a b
theorem OA(h:0≤n):IntKind.u8.wrap n=((UInt8.ofNat n.toNat).toNat:Int):=by
 unfold IntKind.wrap;simp[IntKind.signed,IntKind.bits];omega
theorem tQ:ag (af (.bool false)) (ak False):=fun S w v h=>⟨false,h,by simp⟩
end Go.Hl
end
