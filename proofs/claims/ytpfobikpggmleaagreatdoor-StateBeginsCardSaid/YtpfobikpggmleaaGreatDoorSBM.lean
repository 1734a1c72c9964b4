/-
  What the statement's proof leans on, several texts in one (packed by a program).
-/
import Derived.Test.YtpfobikpggmleaaGreatDoorSBL
import Derived.RangeFuncIn
import Derived.RangeFuncRecord
import Derived.RangeFuncLeaves
set_option linter.all false
set_option maxRecDepth 1000000
set_option maxHeartbeats 4000000
section
namespace Go.Hl
open Go.RowKit
def Fa(f:FuncId)(ps:List VP):VP:=⟨fun S w v=>∃lb:List Value,v= .func (.func f) #[] lb.toArray∧gW ps S w lb,fun h1 h2 ⟨lb,hv,h⟩=>⟨lb,hv,h.mono h1 h2⟩⟩
instance (f:FuncId) (ps:List VP):Flat (Fa f ps):=⟨fun⟨_,h,_⟩=>by subst h;exact⟨rfl,rfl⟩⟩
structure zJ where
 fn:FuncId
 tmps:Array Value
 ps:Array Tmp
 assign:Code
 body:Code
def zJ.loop(r:zJ)(D:Nat)(st:LoopState):Loop:={state:=st,pending:=none,fn:=r.fn,tmps:=r.tmps,params:=r.ps,assign:=r.assign,body:=r.body,defers:=D}
def mo(l D:Nat)(st:LoopState)(r:zJ)(e:Env):HP:=
 ⟨fun F S w=>(F l∧F D∧l≠D)∧w.heap[l]?=some (.loop (r.loop D st))∧w.heap[D]?=some (.deferred (some []))∧cS e S w r.tmps,
  fun h1 h2 h3 h4 ⟨⟨a,b,c⟩,h,k,he⟩=>⟨⟨h1 _ a,h1 _ b,c⟩,(h3 _ a).trans h,(h3 _ b).trans k,he.mono h2 h4⟩⟩
def Fb(D:Nat):HP:=⟨fun F S w=>F D∧w.heap[D]?=some (.deferred (some [])),fun h1 h2 h3 h4 ⟨a,h⟩=>⟨h1 _ a,(h3 _ a).trans h⟩⟩
abbrev yV(l:Nat):VP:=aa (.func (.yield l) #[] #[])
variable {c:Ctx}
theorem kH.over{w w':World}{S F F1 F2 S' F1':BS}{hs' rest:List HP}(aH:kH c w S F)(qn:∀k,F1 k→F k∧¬F2 k)(xE:∀k,F2 k→F k)(Tt:de rest F2 S w){nn:Nat}{ρ:Option Nat}{df:List Deferred}(h2:kH ⟨w,S,F1,nn,ρ,df⟩ w' S' F1')(uX:de hs' F1' S' w'):
    kH c w' S' (fun k=>F1' k∨F2 k)∧(∀k,S k→S' k)∧(∀k,S k→w'.heap[k]?=w.heap[k]?)∧de (hs'++rest) (fun k=>F1' k∨F2 k) S' w':=by
  have hSF:∀k,S k→¬F1 k:=fun k hk hf=>aH.dJ k hk (qn k hf).1;have hoS:∀k,S k→w'.heap[k]?=w.heap[k]?:=fun k hk=>h2.kept k (aH.bR k hk) (hSF k hk);have ho2F:∀k,F2 k→¬F1 k:=fun k hk hf=>(qn k hf).2 hk;refine⟨⟨h2.os.trans aH.os,h2.tape.trans aH.tape,h2.output.trans aH.output,Nat.le_trans aH.size h2.size,fun k hk hm=>?_,fun k hk hf=>?_,h2.bR,fun k hk=>?_,fun k hk=>?_,fun k hk=>?_,fun k hk=>h2.base k (aH.base k hk)⟩,h2.base,hoS,?_⟩
  · have hnF:¬F1 k:=fun hf=>(aH.own k (qn k hf).1).elim hm (fun h=>by omega)
    exact(h2.kept k (Nat.lt_of_lt_of_le hk aH.size) hnF).trans (aH.kept k hk hm)
  · rcases hf with hf|hf
    · exact h2.dJ k hk hf
    · rcases h2.shr k hk with h|h|h
      · exact aH.dJ k h (xE k hf)
      · exact(qn k h).2 hf
      · exact Nat.lt_irrefl _ (Nat.lt_of_lt_of_le (aH.cq k (xE k hf)) h)
  · rcases hk with hk|hk
    · exact h2.cq k hk
    · exact Nat.lt_of_lt_of_le (aH.cq k (xE k hk)) h2.size
  · rcases hk with hk|hk
    · rcases h2.own k hk with h|h
      · exact aH.own k (qn k h).1
      · exact .inr (Nat.le_trans aH.size h)
    · exact aH.own k (xE k hk)
  · rcases h2.shr k hk with h|h|h
    · exact aH.shr k h
    · exact .inr (aH.own k (qn k h).1)
    · exact .inr (.inr (Nat.le_trans aH.size h))
  · refine de.append.2 ⟨F1',F2,fun k hk=>⟨.inl hk,fun hf=>?_⟩,fun k hk=> .inr hk,uX,Tt.mono (fun _ h=>h) h2.base (fun k hk=>h2.kept k (aH.cq k (xE k hk)) (ho2F k hk)) hoS⟩
    rcases h2.own k hk with h|h
    · exact(qn k h).2 hf
    · exact Nat.lt_irrefl _ (Nat.lt_of_lt_of_le (aH.cq k (xE k hf)) h)
def Xk(c:Ctx)(hs':List HP):Ending→World→Prop:=fun e w'=>e= .returned (.bool true)∧∃S' F',kH ⟨c.w0,c.S0,c.M,0,none,[]⟩ w' S' F'∧de hs' F' S' w'
def O5(P:Program)(l:Nat)(ps:List VP)(hs hs':List HP):Prop:=
 ∀(w:World) (S F:BS) (vs:List Value),(∀k,S k→k<w.heap.size)→(∀k,F k→k<w.heap.size)→(∀k,S k→¬F k)→de hs F S w→gW ps S w vs→
  ∃(fn:FuncId) (tmps:Array Value) (assign body:Code),(Instr.yield l vs.toArray).run P w= .ok (.round l fn tmps assign body) w∧RoundIn (WF none) 0 P l fn tmps assign body w (Xk ⟨w,S,F,0,none,[]⟩ hs')
section
variable {P:Program} {ops:Array Oper} {Q:Exit→Act→World→Prop} {c:Ctx} {hs:List HP} {env:Env} {q:VP} {dst:Option Tmp} {ty T T':TypeId} {pos:String} {after:Array Edge} {gd:Option (Nat×Bool)} {x y z:Operand}
theorem zK{f:FuncId}{cs:List VP}{ys:List Operand}(h2:mc env ys cs):bp P hs env ⟨dst, .makeFunc (.func f) #[] ys.toArray,ty,pos,after,gd⟩ (Fa f cs):=by
 intro a w S F _ _ _ _ he K Q hk;unfold Oper.wp;exact hk _ w S (Grow.refl _ _) ⟨_,by simp,h2 S w a he⟩
theorem cr.yld{lst:List Oper}{l d:Nat}{ys:List Operand}{ats:Array TypeId}{ps:List VP}{hs0 hs1 rest:List HP}(hY:O5 P l ps hs0 hs1)(hx:bx env x (yV l))(hys:mc env ys ps)(hp:hs.Perm (hs0++rest))(hd:Nat.blt d c.n=true)
    (k:cr P ops Q c lst (hs1++rest) ((d,ak True)::env)):cr P ops Q c (⟨some d, .call ⟨.value x,ys.toArray,ats⟩,ty,pos,after,none⟩::lst) hs env:=by
  intro a w hst;obtain⟨h1,h2,S,F,h3,h4,h5⟩:=hst;obtain⟨F1,F2,qn,xE,Ut,Tt⟩:=de.append.1 (h4.perm hp);have Tu:∀k,F1 k→k<w.heap.size:=fun k hk=>h3.cq k (qn k hk).1;have hSF:∀k,S k→¬F1 k:=fun k hk hf=>h3.dJ k hk (qn k hf).1;obtain⟨fn,tmps,assign,body,O6,hrd⟩:=hY w S F1 _ h3.bR Tu hSF Ut (hys S w a h5);have hv:=hx S w a h5;simp only[aa] at hv
  refine wpListIn_plain rfl fun K hK=>⟨fun _ _=>trivial,?_⟩;rw[Oper.semAt_eq _ _ _ (fun _ e=>by cases e)]
  have hr:(execOp a.eval ⟨some d, .call ⟨.value x,ys.toArray,ats⟩,ty,pos,after,none⟩).run P w= .ok (.round l fn tmps assign body) w:=by
    simp[execOp,resolve,Deferred.ofValue,invoke,hv] at O6 ⊢;exact O6
  rw[hr];refine⟨fun h=>(by cases h),RoundIn.mono (F:=WF c.ro) hrd ?_⟩;rintro e w' ⟨rfl,S',F1',hs',ho'⟩;obtain⟨k1,k2,k3,k4⟩:=h3.over qn xE Tt hs' ho';refine hK _ _ (k _ _ ⟨?_,?_,S',_,k1,k4,?_⟩)
  · rw[Act.dA];exact h1
  · rw[Act.gE];exact h2
  · exact(h5.mono k2 k3).put ⟨true,rfl,by simp⟩ (by rw[h2];simpa using hd)
def UK(P:Program)(l:Nat)(c:Ctx)(hs':List HP):Exit→Act→World→Prop:=roundPost P l (Xk c hs')
def UL(P:Program)(l:Nat)(c:Ctx)(hs':List HP)(body:Code):Exit→Act→World→Prop:=Exit.then (fun a w=>∃w₂,(Instr.beginRound l).run P w= .ok () w₂∧body.wpIn (WF (some l)) 0 P (UK P l c hs') a w₂) (fun _ _ _=>False)
theorem kH.UM{c:Ctx}{w:World}{S F:BS}{h0 h1:HP}(aH:kH c w S F)(hown:de (h0::hs) F S w){m:Nat}{o:Obj}(hF:∀F1,h0.p F1 S w→F1 m)(hp:∀F1,(∀k,S k→(w.putObj m o).heap[k]?=w.heap[k]?)→h0.p F1 S w→h1.p F1 S (w.putObj m o)):kH c (w.putObj m o) S F∧de (h1::hs) F S (w.putObj m o)∧(∀k,S k→(w.putObj m o).heap[k]?=w.heap[k]?):=by
 obtain⟨F1,F2,f1,f2,f3,f4⟩:=hown;have hFm:=hF F1 f3;have hne:∀k,k≠m→(w.putObj m o).heap[k]?=w.heap[k]?:=fun k hk=>World.putObj_heap_other hk;have hag:∀k,S k→(w.putObj m o).heap[k]?=w.heap[k]?:=fun k hk=>hne k (fun e=>aH.dJ k hk (e▸(f1 m hFm).1));exact⟨aH.write (f1 m hFm).1 rfl rfl rfl World.putObj_size hne,⟨F1,F2,f1,f2,hp F1 hag f3,f4.mono (fun _ h=>h) (fun _ h=>h) (fun k hk=>hne k (fun e=>(f1 m hFm).2 (e▸hk))) hag⟩,hag⟩
theorem mo.HL{l D:Nat}{st st':LoopState}{r:zJ}{e0:Env}{F1 S:BS}{w:World}(hag:∀k,S k→(w.putObj l (.loop (r.loop D st'))).heap[k]?=w.heap[k]?)(h:(mo l D st r e0).p F1 S w):(mo l D st' r e0).p F1 S (w.putObj l (.loop (r.loop D st'))):=by
 obtain⟨⟨a,b,c⟩,h,k,he⟩:=h;exact⟨⟨a,b,c⟩,World.putObj_heap_same (Array.getElem?_eq_some_iff.1 h).1,(World.putObj_heap_other (fun e=>c e.symm)).trans k,he.mono (fun _ h=>h) hag⟩
theorem bN.begin{l D:Nat}{r:zJ}{e0:Env}{hs':List HP}{body:Code}{c':Ctx}(h:aM P (UK P l c' hs') c body (mo l D .busy r e0::hs) env)(hro:c.ro=some l:=by rfl):bN (UL P l c' hs' body) .normal c (mo l D .ready r e0::hs) env:=by
 intro a w hst;obtain⟨h1,h2,S,F,h3,h4,h5⟩:=hst;obtain⟨F1,F2,f1,f2,f3,f4⟩:=id h4;have hl:=f3.2.1;obtain⟨k1,k2,k3⟩:=h3.UM (h1:=mo l D .busy r e0) (m:=l) (o:= .loop (r.loop D .busy)) h4 (fun F1 h=>h.1.1) (fun F1 hag h=>mo.HL hag h);refine⟨_,run_beginRound hl rfl,?_⟩;have:=h a _ ⟨h1,h2,S,F,k1,k2,h5.mono (fun _ h=>h) k3⟩;rw[hro] at this;exact this
theorem bN.endRound{l D:Nat}{r:zJ}{e0:Env}{hs':List HP}{c':Ctx}(hc:c'.w0=c.w0∧c'.S0=c.S0∧c'.M=c.M:=by exact⟨rfl,rfl,rfl⟩):bN (UK P l c' (mo l D .ready r e0::hs')) .normal c (mo l D .busy r e0::hs') env:=by
 intro a w hst;obtain⟨h1,h2,S,F,h3,h4,h5⟩:=hst;obtain⟨F1,F2,f1,f2,f3,f4⟩:=id h4;have hl:=f3.2.1;obtain⟨k1,k2,k3⟩:=h3.UM (h1:=mo l D .ready r e0) (m:=l) (o:= .loop (r.loop D .ready)) h4 (fun F1 h=>h.1.1) (fun F1 hag h=>mo.HL hag h);refine⟨_,_,run_endRound none hl,rfl,S,F,?_,k2⟩;obtain⟨e1,e2,e3⟩:=hc;rw[e1,e2,e3];exact⟨k1.os,k1.tape,k1.output,k1.size,k1.kept,k1.dJ,k1.bR,k1.cq,k1.own,k1.shr,k1.base⟩
def argsAt:List Tmp→List VP→Env
 |t::ts,p::ps=>(t,p)::argsAt ts ps
 |_,_=>[]
theorem BR{S:BS}{w:World}{env:Env}:∀(ts:List Tmp) (ps:List VP) (vs:List Value) (tmps:Array Value),ts.length=ps.length→gW ps S w vs→cS env S w tmps→(∀t∈ts,t<tmps.size)→ts.Nodup→
    cS (argsAt ts ps++env) S w ((ts.zip vs).foldl (fun tmps (p:Tmp×Value)=>tmps.setIfInBounds p.1 p.2) tmps)
  | [],ps,vs,tmps,hl,hv,he,_,_=>by
    cases ps with
    |nil=>cases vs<;>exact he
    |cons p ps=>simp at hl
  | t ::ts,ps,vs,tmps,hl,hv,he,ht,hn=>by
    cases ps with
    |nil=>simp at hl
    | cons p ps =>
      cases vs with
      |nil=>have:=hv.1;simp at this
      | cons v vs=>
        rw[List.nodup_cons] at hn;have h0:p.p S w v:=hv.2 0 p v rfl rfl;have o9:gW ps S w vs:=⟨by have:=hv.1;simpa using this,fun j q u hq hu=>hv.2 (j+1) q u (by simpa using hq) (by simpa using hu)⟩;have he':cS ((t,p)::env) S w (tmps.setIfInBounds t v):=cS.put (a:={tmps:=tmps,defers:=[]}) he h0 (ht t (List.mem_cons_self ..));have ih:=BR ts ps vs (tmps.setIfInBounds t v) (by simpa using hl) o9 he' (fun u hu=>by simp;exact ht u (List.mem_cons_of_mem _ hu)) hn.2;intro u q hq;refine ih u q ?_
        have key:∀(ts:List Tmp) (ps:List VP),t∉ts→look ((t,p)::(argsAt ts ps++env)) u=some q→look (argsAt ts ps++(t,p)::env) u=some q:=by
          intro ts
          induction ts with
          |nil=>intro ps _ h;cases ps<;>exact h
          | cons s ts ih2=>
            intro ps hs h;cases ps with
            |nil=>exact h
            | cons p2 ps=>
              simp only[argsAt,List.cons_append,bL] at h ⊢;by_cases e:s=u
              · rw[if_pos e] at h ⊢
                rw[if_neg (fun e2:t=u=>hs (by rw[e2,←e];exact List.mem_cons_self ..))] at h;exact h
              · rw[if_neg e] at h ⊢
                exact ih2 ps (fun hm=>hs (List.mem_cons_of_mem _ hm)) (by rw[bL];exact h)
        exact key ts ps hn.1 hq
theorem C5{l D:Nat}{r:zJ}{e0:Env}{n:Nat}{arg:List VP}{hs hs':List HP}(hlen:r.ps.toList.length=arg.length)(hsz:r.tmps.size=n)(hlt:∀t∈r.ps.toList,t<n)(hnd:r.ps.toList.Nodup)
    (hround:∀(w0:World) (S0 M:BS),aM P (UL P l ⟨w0,S0,M,n,some l,[]⟩ (mo l D .ready r e0::hs') r.body) ⟨w0,S0,M,n,some l,[]⟩ r.assign (mo l D .ready r e0::hs) (argsAt r.ps.toList arg++e0)):O5 P l arg (mo l D .ready r e0::hs) (mo l D .ready r e0::hs'):=by
  intro w S F vs hS hF hSF hown hall;obtain⟨F1,F2,f1,f2,f3,f4⟩:=id hown;have hl:=f3.2.1;have hvl:vs.length=r.ps.size:=by rw[←hall.1,←hlen];simp
  refine⟨r.fn,_,r.assign,r.body,run_yield hl (by simpa[zJ.loop] using hvl),?_⟩;refine roundIn_of_wpIn (F:=WF none) trivial ?_;refine hround w S F {tmps:=_,defers:=[]} w ⟨rfl,?_,S,F,⟨rfl,rfl,rfl,Nat.le_refl _,fun _ _ _=>rfl,hSF,hS,hF,fun k hk=> .inl hk,fun k hk=> .inl hk,fun _ hk=>hk⟩,hown,?_⟩
  · have NS:∀(l:List (Tmp×Value)) (tmps:Array Value),(l.foldl (fun tmps (p:Tmp×Value)=>tmps.setIfInBounds p.1 p.2) tmps).size=tmps.size:=by
      intro l
      induction l with
      |nil=>intro _;rfl
      |cons p l ih=>intro tmps;rw[List.foldl_cons,ih];simp
    show((r.ps.zip vs.toArray).foldl (fun tmps (p:Tmp×Value)=>tmps.setIfInBounds p.1 p.2) r.tmps).size=n
    rw[←Array.foldl_toList];exact(NS _ _).trans hsz
  · have:=BR (env:=e0) r.ps.toList arg vs r.tmps hlen hall f3.2.2.2 (fun t ht=>by rw[hsz];exact hlt t ht) hnd
    show cS _ S w ((r.ps.zip vs.toArray).foldl (fun tmps (p:Tmp×Value)=>tmps.setIfInBounds p.1 p.2) r.tmps)
    rw[←Array.foldl_toList];have e:(r.ps.zip vs.toArray).toList=r.ps.toList.zip vs:=by simp
    rw[e];exact this
end
def rY(P:Program)(fn:Func)(c:Ctx){γ:Type}(φ:γ→Prop)(hs':γ→List HP)(q:γ→VP):Exit→Act→World→Prop:=
 bodyPostM (WF none) 0 P fn fun e w'=>∃v S' F' g,e= .returned v∧kH ⟨c.w0,c.S0,c.M,0,none,[]⟩ w' S' F'∧φ g∧de (hs' g) F' S' w'∧(q g).p S' w' v
variable {P:Program} {hs:List HP}
theorem cv.O7{f:FuncId}{fn:Func}{x:Code}{ps:List VP}{γ:Type}{φ:γ→Prop}{hs':γ→List HP}{q:γ→VP}
    (n:Nat) (hf:P.funcs[f]?=some fn) (hb:fn.body=some x) (hnt:fn.ntmps=n) (hn:Nat.ble ps.length n=true)
    (h:∀(w0:World) (S0 M:BS),aM P (rY P fn ⟨w0,S0,M,n,none,[]⟩ φ hs' q) ⟨w0,S0,M,n,none,[]⟩ x hs (args ps)):cv P f ps hs φ hs' q:=by
  intro w S F vs hS hF hSF hown hall;have hlen:ps.length=vs.size:=by simpa using hall.1
  have hn':ps.length≤n:=by simpa using hn
  refine callsIn_wide.1 (callsIn_of_wp_marks (F:=WF none) (n:=0) hf hb trivial (h w S F _ _ ⟨rfl,?_,S,F,?_,hown,?_⟩))
  · simp;omega
  · exact⟨rfl,rfl,rfl,Nat.le_refl _,fun _ _ _=>rfl,hSF,hS,hF,fun k hk=> .inl hk,fun k hk=> .inl hk,fun _ hk=>hk⟩
  · intro t q' hl
    obtain⟨j,hj,hq⟩:=pn ps 0 t q' hl;have wh:t=j:=by omega
    subst wh;have hjl:t<ps.length:=(List.getElem?_eq_some_iff.1 hq).1;have N5:t<vs.size:=by omega
    have:(vs++Array.replicate (fn.ntmps-vs.size) undef).getD t undef=vs[t]:=by simp[Array.getElem?_append,N5]
    rw[this];exact hall.2 t q' _ hq (by simp[N5])
section
variable {P:Program} {Q:Exit→Act→World→Prop} {c:Ctx} {hs:List HP} {env:Env}
abbrev vh(D:Nat):List Deferred:=[{target:= .collected D,args:= #[]}]
theorem rY.leave{fn:Func}{c0:Ctx}{γ:Type}{φ:γ→Prop}{hs':γ→List HP}{q:γ→VP}{D:Nat}(hdf:c.df=vh D)(hc:c0.w0=c.w0∧c0.S0=c.S0∧c0.M=c.M)(g:γ)(hφ:φ g)(hh:∀F S w,de hs F S w→de (hs' g) F S w)
    (hres:∀F S w (tmps:Array Value),de hs F S w→cS env S w tmps→∃v,(results fn tmps).run P w= .ok v w∧(q g).p S w v):bN (rY P fn c0 φ hs' q) .ret c (Fb D::hs) env:=by
  intro a w hst;obtain⟨h1,h2,S,F,h3,h4,h5⟩:=hst;obtain⟨F1,F2,f1,f2,f3,f4⟩:=id h4;obtain⟨hFD,hD⟩:=f3;have hne:∀k,k≠D→(w.putObj D (.deferred none)).heap[k]?=w.heap[k]?:=fun k hk=>World.putObj_heap_other hk;have hag:∀k,S k→(w.putObj D (.deferred none)).heap[k]?=w.heap[k]?:=fun k hk=>hne k (fun e=>h3.dJ k hk (e▸(f1 D hFD).1));have k1:kH c (w.putObj D (.deferred none)) S F:=h3.write (f1 D hFD).1 rfl rfl rfl World.putObj_size hne;have k2:de hs F S (w.putObj D (.deferred none)):=f4.mono f2 (fun _ h=>h) (fun k hk=>hne k (fun e=>(f1 D hFD).2 (e▸hk))) hag;obtain⟨v,hv,hq⟩:=hres _ _ _ a.tmps k2 (h5.mono (fun _ h=>h) hag);obtain⟨e1,e2,e3⟩:=hc
  show LeavesInM (WF none) 0 P fn a.tmps _ a.defers .returning w
  rw[h1,hdf];refine⟨fun e=>(by cases e), .inl ⟨D,_,rfl,run_takeDeferred hD,v,hv,v,S,F,g,rfl,?_,hφ,hh _ _ _ k2,hq⟩⟩;rw[e1,e2,e3];exact⟨k1.os,k1.tape,k1.output,k1.size,k1.kept,k1.dJ,k1.bR,k1.cq,k1.own,k1.shr,k1.base⟩
theorem rY.aR{fn:Func}{c0:Ctx}{γ:Type}{φ:γ→Prop}{hs':γ→List HP}{q:γ→VP}{r:ResultVar}{q0:VP}{D:Nat}(hr:fn.results= #[r])(g:γ)(hφ:φ g)(hh:∀F S w,de hs F S w→de (hs' g) F S w)(h:Tq P hs env r q0)(hq:af q0 (q g))
    (hdf:c.df=vh D:=by rfl) (hc:c0.w0=c.w0∧c0.S0=c.S0∧c0.M=c.M:=by exact⟨rfl,rfl,rfl⟩):bN (rY P fn c0 φ hs' q) .ret c (Fb D::hs) env:=
  rY.leave hdf hc g hφ hh fun F S w tmps ho he=>by
    obtain⟨vs,e1,e2⟩:=ow (P:=P) hr (yh.cons h hq yh.nil) ho he
    match vs,e2 with
    |[v],e2=>exact⟨v,e1,e2.2 0 _ v rfl rfl⟩
theorem rY.bk{fn:Func}{c0:Ctx}{γ:Type}{φ:γ→Prop}{hs':γ→List HP}{q:γ→VP}{rs:List ResultVar}{qs:List VP}{D:Nat}(hr:fn.results=rs.toArray)(hn:Nat.beq qs.length 1=false)(g:γ)(hφ:φ g)(hh:∀F S w,de hs F S w→de (hs' g) F S w)(hq:q g=bE qs)(h:yh P hs env rs qs)
    (hdf:c.df=vh D:=by rfl) (hc:c0.w0=c.w0∧c0.S0=c.S0∧c0.M=c.M:=by exact⟨rfl,rfl,rfl⟩):bN (rY P fn c0 φ hs' q) .ret c (Fb D::hs) env:=
  rY.leave hdf hc g hφ hh fun F S w tmps ho he=>by
    obtain⟨vs,e1,e2⟩:=ow (P:=P) hr h ho he
    have hne:¬vs.toArray.size=1:=by
      rw[List.size_toArray,←e2.1];intro e;rw[e] at hn;cases hn
    rw[dif_neg hne] at e1;exact⟨_,e1,by rw[hq];exact⟨vs.toArray,rfl,by simpa using e2⟩⟩
theorem aM.O8{g:Operand}{ps:Array Tmp}{assign body:Code}{f:FuncId}{psb:List VP}{qi:VP}(N:Nat)(J:Nat→List HP)(arg:Nat→List VP)(hro:c.ro=none)(hdf:c.df=[])(hh:hs=J 0)
    (hcb:mU P f=true) (hg:bx env g (Fa f psb)) (hps:(ps.toList.all fun t=>Nat.blt t c.n)=true) (hnd:ps.toList.Nodup) (hlen:∀j,j<N→(arg j).length=ps.toList.length)
    (hit:∀(l D:Nat) (r:zJ),(∀j,j<N→O5 P l (arg j) (mo l D .ready r env::J j) (mo l D .ready r env::J (j+1)))→cv P f (yV l::psb) (mo l D .ready r env::J 0) (γ:=Unit) (fun _=>True) (fun _=>mo l D .ready r env::J N) (fun _=>qi))
    (hround:∀(l D:Nat) (fn:FuncId) (tmps:Array Value) (j:Nat),j<N→∀(w0:World) (S0 M:BS),aM P (UL P l ⟨w0,S0,M,c.n,some l,[]⟩ (mo l D .ready ⟨fn,tmps,ps,assign,body⟩ env::J (j+1)) body) ⟨w0,S0,M,c.n,some l,[]⟩ assign (mo l D .ready ⟨fn,tmps,ps,assign,body⟩ env::J j) (argsAt ps.toList (arg j)++env))
    (hend:∀D,bN Q .normal {c with df:=vh D} (Fb D::J N) env):aM P Q c (.rangeFunc g ps assign body) hs env:=by
  intro a w hst;obtain⟨h1,h2,S,F,h3,h4,h5⟩:=hst;subst hh;obtain⟨lb,hv,hlb⟩:=hg S w a h5;rw[show WF c.ro=WF none by rw[hro]];refine wpIn_rangeFunc fun fn _=>?_
  let r:zJ:=⟨fn,a.tmps,ps,assign,body⟩
  let D:=w.heap.size
  let l:=w.heap.size+1
  let w1:World:=(w.alloc (.deferred (some []))).alloc (.loop (r.loop D .ready))
  have s1:kH c w1 S (fun k=>k=l∨(k=D∨F k)):=by
    have:=(h3.eV (.deferred (some []))).eV (.loop (r.loop D .ready));have e:({w with heap:=w.heap.push (.deferred (some []))}:World).heap.size=l:=by simp[l]
    rw[e] at this;exact this
  have hold:∀k,k<w.heap.size→w1.heap[k]?=w.heap[k]?:=fun k hk=>by
    show((w.heap.push _).push _)[k]?=_
    rw[Array.getElem?_push_lt (by simp;omega)];simp[Array.getElem_push_lt hk,hk]
  have hagS:∀k,S k→w1.heap[k]?=w.heap[k]?:=fun k hk=>hold k (h3.bR k hk)
  have o1:de (mo l D .ready r env::J 0) (fun k=>k=l∨(k=D∨F k)) S w1:=by
    refine⟨fun k=>k=l∨k=D,F,fun k hk=>⟨hk.elim .inl fun e=> .inr (.inl e),fun hf=>?_⟩,fun k hk=> .inr (.inr hk),⟨⟨.inl rfl, .inr rfl,by simp[l,D]⟩,?_,?_,h5.mono (fun _ h=>h) hagS⟩,h4.mono (fun _ h=>h) (fun _ h=>h) (fun k hk=>hold k (h3.cq k hk)) hagS⟩
    · have:=h3.cq k hf
      rcases hk with e|e<;>(simp only[l,D] at e;omega)
    · show((w.heap.push _).push _)[w.heap.size+1]?=_
      have:w.heap.size+1=(w.heap.push (Obj.deferred (some []))).size:=by simp
      rw[this,Array.getElem?_push_size]
    · show((w.heap.push _).push _)[w.heap.size]?=_
      rw[Array.getElem?_push_lt (by simp)];simp
  have hy:∀j,j<N→O5 P l (arg j) (mo l D .ready r env::J j) (mo l D .ready r env::J (j+1)):=fun j hj=>
    C5 (n:=c.n) (hlen j hj).symm h2 (fun t ht=>by simpa using List.all_eq_true.1 hps t ht) hnd fun w0 S0 M=>hround l D fn a.tmps j hj w0 S0 M
  have hcall:=hit l D r hy w1 S _ (#[.func (.yield l) #[] #[]]++lb.toArray) s1.bR s1.cq s1.dJ o1 (by
    have:gW (yV l::psb) S w1 (.func (.yield l) #[] #[]::lb):=⟨by simp[hlb.1],fun j p v hj o9=>by
      cases j with
      |zero=>simp at hj o9;subst hj;subst o9;rfl
      |succ j=>exact(hlb.mono (fun _ h=>h) hagS).2 j p v (by simpa using hj) (by simpa using o9)⟩
    simpa using this)
  have hent:(Instr.enterLoop fn a.tmps ps assign body none).run P w= .ok (l,vh D) w1:=run_enterLoop_outer fn a.tmps ps assign body
  have hres:(resolve a.eval (rangeCall g l) 0).run P w1= .ok {target:= .fn (.func f) lb.toArray,args:= #[.func (.yield l) #[] #[]]} w1:=by
    have e:a.eval (.const (.func (.yield l) #[] #[]))= .func (.yield l) #[] #[]:=rfl;simp[resolve,rangeCall,hv,Deferred.ofValue,e]
  have hinv:(invoke (.fn (.func f) lb.toArray) #[.func (.yield l) #[] #[]]).run P w1= .ok (.enter f (#[.func (.yield l) #[] #[]]++lb.toArray)) w1:=by
    have:=jA hcb (#[.func (.yield l) #[] #[]]++lb.toArray) w1;simp[invoke] at this ⊢;exact this
  have qf:CallsIn (WF none) (0-1) P f (#[.func (.yield l) #[] #[]]++lb.toArray) w1 (rangePost (WF none) 0 P l Q {a with defers:=vh D++a.defers}):=by
    refine CallsIn.mono (Er hcall) ?_;rintro e w' ⟨v,S',F',_,rfl,hs',_,ho',_⟩;obtain⟨k1,k2,k3,k4⟩:=s1.over (rest:=[]) (F2:=fun _=>False) (fun k hk=>⟨hk,id⟩) (fun k hk=>hk.elim) trivial hs' ho';rw[List.append_nil] at k4;obtain⟨G1,G2,g1,g2,g3,g4⟩:=id k4;have hl:=g3.2.1;obtain⟨m1,m2,m3⟩:=k1.UM (h1:=Fb D) (m:=l) (o:= .loop {r.loop D .ready with state:= .exhausted}) k4 (fun F1 h=>h.1.1) (fun F1 hag h=>⟨h.1.2.1,(World.putObj_heap_other (fun e=>h.1.2.2 e.symm)).trans h.2.2.1⟩);refine⟨none,_,run_endLoop hl (by simp[zJ.loop]),?_⟩;refine hend D _ _ ⟨?_,h2,S',_,⟨m1.os,m1.tape,m1.output,m1.size,m1.kept,m1.dJ,m1.bR,m1.cq,m1.own,m1.shr,m1.base⟩,m2,(h5.mono k2 (fun k hk=>(k3 k hk).trans (hagS k hk))).mono (fun _ h=>h) m3⟩
    show vh D++a.defers=vh D
    rw[h1,hdf];rfl
  exact⟨l,vh D,w1,_,w1,f,_,w1,hent,hres,fun _ _=>trivial,hinv,fun h=>(by cases h),qf⟩
end
variable {env:Env} {b:Nat}
theorem bN.share{Q:Exit→Act→World→Prop}{e0:Exit}{i off t:Nat}{cs:List VP}(hi:hs[i]?=some (ax b cs))(ht:look env t=some (aD b off))(h:bN Q e0 c (hs.eraseIdx i) ((t,bT (cs.drop off))::env)):bN Q e0 c hs env:=by
 intro a w ⟨h1,h2,S,F,h3,h4,h5⟩;obtain⟨F1,F2,f1,f2,f3,f5,_⟩:=h4.xA hi;have hb:=f1 b f3.1;have hS:∀k,S k→S k∨k=b:=fun _ h=> .inl h;have hc:ck (fun k=>S k∨k=b) w b 0 cs:=fun j q hj=>let ⟨v,hv,hq⟩:=lK f3 j q hj;⟨v,hv,q.mono hS (fun _ _=>rfl) hq⟩
 refine h a w ⟨h1,h2,fun k=>S k∨k=b,F2,⟨h3.os,h3.tape,h3.output,h3.size,h3.kept,?_,?_,fun k hk=>h3.cq k (f2 k hk),fun k hk=>h3.own k (f2 k hk),?_,fun k hk=> .inl (h3.base k hk)⟩,
  f5.mono (fun _ h=>h) hS (fun _ _=>rfl) (fun _ _=>rfl),fun s q hl=>?_⟩
 · exact fun k hk hf=>hk.elim (fun h=>h3.dJ k h (f2 k hf)) (fun e=>hb.2 (e▸hf))
 · exact fun k hk=>hk.elim (h3.bR k) (fun e=>h3.cq k (e▸hb.1))
 · exact fun k hk=>hk.elim (h3.shr k) (fun e=>by
    rcases h3.own b hb.1 with h|h
    · exact .inr (.inl (e▸h))
    · exact .inr (.inr (e▸h)))
 · rw[bL] at hl
   by_cases e:t=s
   · rw[if_pos e] at hl;cases hl;subst e
     have hv:=h5 t _ ht;simp only[aa] at hv
     refine⟨b,off,hv, .inr rfl,?_⟩;have:=hc.drop off;simpa using this
   · rw[if_neg e] at hl
     exact q.mono hS (fun _ _=>rfl) (h5 s q hl)
theorem L4{dst:Option Tmp}{ty T E:TypeId}{pos:String}{after:Array Edge}{gd:Option (Nat×Bool)}{x:Operand}{n:Nat}{i:Int}{α:Type}{enc:α→List VP}(hT:P.underlying T=some (.slice E))(hn:P.cellsOf E=1)(hb:P.bytesOf E=1)(hz:jI P E=some [.int .u8 0])(hx:bx env x (ag .i64 i))(hi:i=(n:Int))(hle:n≤281474976710656):
    fZ P hs env ⟨dst, .makeSlice T (.const (.int .i64 0)) x,ty,pos,after,gd⟩ (γ:=SB) (fun _=>True) (fun sb=>av sb 1 enc ([]:List α)::hs) (fun sb=>aa (bt sb 0)):=by
  intro c a w S F aH hown he K Q hk;have hv:=hx S w a he;simp only[aa] at hv
  subst hi
  have hr:(execOp a.eval ⟨dst, .makeSlice T (.const (.int .i64 0)) x,ty,pos,after,gd⟩).run P w= .ok (.value (.slice (some ⟨w.heap.size,0,none⟩) 0 n)) {w with heap:=w.heap.push (.cells (mZ (List.replicate n 0)).toArray E)}:=by
    obtain⟨info,hi1,hi2⟩:=dw hn rfl w;obtain⟨zv,Ez,wq⟩:=gH hz w;have hs1:=run_sizeOf hn rfl w;have hw:IntKind.i64.wrap (n:Int)=(n:Int):=eM (cn (by omega) (by omega));have hw0:IntKind.i64.wrap 0=0:=by decide
    have hbytes:info.bytes=1:=hi2.trans hb
    have hcells:(Array.range (n*1)).map (fun t=>zv.cells[t%zv.cells.size]!)=(mZ (List.replicate n 0)).toArray:=by
      rw[wq];apply Array.ext
      · simp[mZ]
      · intro j h1 h2
        simp[mZ,Nat.mod_one]
    have LA:¬((n:Int)<0):=by omega
    have wu:¬((281474976710656:Int)<(n:Int)):=by omega
    have hroom:∀m:Nat,(askRoom m).run P w= .ok () w:=fun m=>by unfold askRoom;split<;>simp[mark,Sem.run]
    have q6:a.eval (.const (.int .i64 0))= .int .i64 0:=rfl;by_cases h0:n=0
    · subst h0
      have Kt:Array.map (fun _:Nat=>(default:Value)) (Array.range 0)=(mZ []).toArray:=by apply Array.ext<;>simp[mZ]
      simp[execOp,Instr.makeSlice,run_underlying hT,asInt,asIntOf,hv,q6,hi1,hw0,hs1,newRow];exact congrArg (fun r=>w.alloc (.cells r E)) Kt
    · simp[execOp,Instr.makeSlice,run_underlying hT,asInt,asIntOf,hv,q6,hi1,hbytes,hw,hw0,LA,wu,hroom,hs1,h0,Ez,newRow]
      rw[Nat.mul_one] at hcells;exact congrArg (fun r=>w.alloc (.cells r E)) hcells
  unfold Oper.wp;rw[hr];refine hk (some (w.heap.size,n)) _ _ S _ trivial (aH.eV _) (fun _ h=>h) (fun k hk=>bF w _ k (aH.bR k hk)) (hown.eV aH.bR aH.cq _ ⟨rfl,Nat.zero_le _,by simp,(mZ (List.replicate n 0)).toArray,E,by simp,by simp[mZ],fun j q h=>by simp at h⟩) rfl
structure A1 where
 num:Int
 pages:Nat
 most:Nat
 high:Nat
 wide:Prop
abbrev UN(pb:Nat)(M:A1):List VP:=[aD pb 0,aU M.num,aU (M.pages:Int),aU (M.most:Int),aU (M.high:Int),ak M.wide]
abbrev dQ(mb pb:Nat)(M:A1):HP:=ax mb (UN pb M)
structure O9(M:A1):Prop where
 num:0≤M.num
 pages:M.pages≤M.most
 high:M.high≤M.most
 most:M.most≤65536
def jF(pages a n:Nat):Prop:=pages*65536<a+n
instance (p a n:Nat):Decidable (jF p a n):=inferInstanceAs (Decidable (_<_))
def cz(pages a o:Nat)(n:Int):Nat×Nat×Nat:=
 if n<0 then(0,0,1) else if 1048576<n then(0,0,15) else if jF pages (a+o) n.toNat then(0,4,0) else(a+o,0,0)
theorem sY(a o:Nat)(ha:a<18446744073709551616)(ho:o<18446744073709551616):(a+o<18446744073709551616∧IntKind.u64.wrap ((a:Int)+(o:Int))=((a+o:Nat):Int))∨(18446744073709551616≤a+o∧IntKind.u64.wrap ((a:Int)+(o:Int))=((a+o-18446744073709551616:Nat):Int)):=by
 by_cases h:a+o<18446744073709551616
 · exact .inl ⟨h,by rw[eM (nv (by omega) (by omega))];omega⟩
 · refine .inr ⟨by omega,?_⟩
   have e:IntKind.u64.wrap ((a:Int)+(o:Int))=((a:Int)+(o:Int))%18446744073709551616:=rfl;rw[e];omega
theorem wM{pages a o:Nat}{n:Int}(h:cz pages a o n=(a+o,0,0)∨(cz pages a o n).2=(0,0)):0≤n∧n≤1048576∧a+o+n.toNat≤pages*65536∧(cz pages a o n).1=a+o:=by
 unfold cz at*;by_cases h1:n<0
 · rw[if_pos h1] at h;simp at h
 · rw[if_neg h1] at h ⊢
   by_cases h2:1048576<n
   · rw[if_pos h2] at h;simp at h
   · rw[if_neg h2] at h ⊢
     by_cases h3:jF pages (a+o) n.toNat
     · rw[if_pos h3] at h;simp at h
     · rw[if_neg h3];unfold jF at h3;exact⟨by omega,by omega,by omega,rfl⟩
def L5(b:Nat)(xs:List UInt8):HP:=VZ fun sb:SB=>kJ [ax b [aa (bt sb xs.length)],av sb 1 aj xs]
theorem BT{sb:SB}{xs:List UInt8}{r:List HP}:aB (ax b [aa (bt sb xs.length)]::av sb 1 aj xs::r) (L5 b xs::r):=
 aB.trans (aB.pack (l:=[ax b [aa (bt sb xs.length)],av sb 1 aj xs])) (aB.ex (f:=fun sb:SB=>kJ [ax b [aa (bt sb xs.length)],av sb 1 aj xs]) sb)
theorem aM.KF{Q:Exit→Act→World→Prop}{x:Code}{xs:List UInt8}{r:List HP}(k:∀sb:SB,aM P Q c x (ax b [aa (bt sb xs.length)]::av sb 1 aj xs::r) env):aM P Q c x (L5 b xs::r) env:=
 aM.opens fun sb=>aM.own (aB.unpack (l:=[ax b [aa (bt sb xs.length)],av sb 1 aj xs])) (k sb)
end Go.Hl
end
section
namespace Go.Hl
def dc(n:Int):List VP:=[ag .i64 n]
def dh(n:Int):List VP:=[ag .u64 n]
structure kY where
 P:List UInt8
 R:List UInt8
def bS(s:kY):List VP:=[ai 1 aj s.P,ai 1 aj s.R]
structure gu where
 Module:List UInt8
 Name:List UInt8
 gX:Int
def iG(x:gu):List VP:=[cZ x.Module,cZ x.Name,ag .i64 x.gX]
structure ay where
 Code:Int
 A:Int
 B:Int
 dm:Int
 L:List Int
def aK(x:ay):List VP:=[ag .i64 x.Code,ag .u64 x.A,ag .u64 x.B,ag .i64 x.dm,ai 1 dh x.L]
structure jJ where
 aW:List UInt8
 L:List ay
def gw(x:jJ):List VP:=[ai 1 aj x.aW,ai 5 aK x.L]
structure cN where
 gX:Int
 Body:jJ
def fo(x:cN):List VP:=[ag .i64 x.gX,ai 1 aj x.Body.aW,ai 5 aK x.Body.L]
structure dR where
 Min:Int
 Max:Int
 bO:Prop
def ek(x:dR):List VP:=[ag .i64 x.Min,ag .i64 x.Max,ak x.bO]
structure gy where
 Ty:UInt8
 eO:Prop
 Value:Int
def dX(x:gy):List VP:=[ag .u8 (x.Ty.toNat:Int),ak x.eO,ag .u64 x.Value]
structure dH where
 Name:List UInt8
 Kind:Int
 Index:Int
def dG(x:dH):List VP:=[cZ x.Name,ag .i64 x.Kind,ag .i64 x.Index]
structure ez where
 At:Int
 aA:List Int
def dS(x:ez):List VP:=[ag .u64 x.At,ai 1 dc x.aA]
structure fV where
 Mem:Int
 At:Int
 Bytes:List UInt8
def eA(x:fV):List VP:=[ag .i64 x.Mem,ag .u64 x.At,ai 1 aj x.Bytes]
structure aT where
 bQ:List kY
 aJ:List gu
 aA:List cN
 Table:Int
 bz:List dR
 an:List gy
 bK:List dH
 Start:Int
 bw:List ez
 bl:List fV
def bf(m:aT):List VP:=[ai 2 bS m.bQ,ai 3 iG m.aJ,ai 3 fo m.aA,ag .i64 m.Table,ai 3 ek m.bz,ai 3 dX m.an,ai 3 dG m.bK,ag .i64 m.Start,ai 2 dS m.bw,ai 3 eA m.bl]
instance:gZ 1 dc:=⟨fun _=>rfl,fun x q h=>by simp only[dc,List.mem_cons,List.not_mem_nil,or_false] at h;rw[h];infer_instance⟩
instance:gZ 1 dh:=⟨fun _=>rfl,fun x q h=>by simp only[dh,List.mem_cons,List.not_mem_nil,or_false] at h;rw[h];infer_instance⟩
instance:gZ 2 bS:=⟨fun _=>rfl,fun x q h=>by simp only[bS,List.mem_cons,List.not_mem_nil,or_false] at h;rcases h with h|h<;>rw[h]<;>infer_instance⟩
instance:gZ 3 iG:=⟨fun _=>rfl,fun x q h=>by simp only[iG,List.mem_cons,List.not_mem_nil,or_false] at h;rcases h with h|h|h<;>rw[h]<;>infer_instance⟩
instance:gZ 5 aK:=⟨fun _=>rfl,fun x q h=>by simp only[aK,List.mem_cons,List.not_mem_nil,or_false] at h;rcases h with h|h|h|h|h<;>rw[h]<;>infer_instance⟩
instance:gZ 2 gw:=⟨fun _=>rfl,fun x q h=>by simp only[gw,List.mem_cons,List.not_mem_nil,or_false] at h;rcases h with h|h<;>rw[h]<;>infer_instance⟩
instance:gZ 3 fo:=⟨fun _=>rfl,fun x q h=>by simp only[fo,List.mem_cons,List.not_mem_nil,or_false] at h;rcases h with h|h|h<;>rw[h]<;>infer_instance⟩
instance:gZ 3 ek:=⟨fun _=>rfl,fun x q h=>by simp only[ek,List.mem_cons,List.not_mem_nil,or_false] at h;rcases h with h|h|h<;>rw[h]<;>infer_instance⟩
instance:gZ 3 dX:=⟨fun _=>rfl,fun x q h=>by simp only[dX,List.mem_cons,List.not_mem_nil,or_false] at h;rcases h with h|h|h<;>rw[h]<;>infer_instance⟩
instance:gZ 3 dG:=⟨fun _=>rfl,fun x q h=>by simp only[dG,List.mem_cons,List.not_mem_nil,or_false] at h;rcases h with h|h|h<;>rw[h]<;>infer_instance⟩
instance:gZ 2 dS:=⟨fun _=>rfl,fun x q h=>by simp only[dS,List.mem_cons,List.not_mem_nil,or_false] at h;rcases h with h|h<;>rw[h]<;>infer_instance⟩
instance:gZ 3 eA:=⟨fun _=>rfl,fun x q h=>by simp only[eA,List.mem_cons,List.not_mem_nil,or_false] at h;rcases h with h|h|h<;>rw[h]<;>infer_instance⟩
theorem bH.of{α:Type}{n:Nat}{enc:α→List VP}[h:gZ n enc](x:α):bH (enc x):=⟨fun q hq=>h.flat x q hq⟩
instance (x:kY):bH (bS x):=bH.of x
instance (x:gu):bH (iG x):=bH.of x
instance (x:ay):bH (aK x):=bH.of x
instance (x:jJ):bH (gw x):=bH.of x
instance (x:cN):bH (fo x):=bH.of x
instance (x:dR):bH (ek x):=bH.of x
instance (x:gy):bH (dX x):=bH.of x
instance (x:dH):bH (dG x):=bH.of x
instance (x:ez):bH (dS x):=bH.of x
instance (x:fV):bH (eA x):=bH.of x
def kZ(l:List UInt8):Prop:=l.length≤20∧∀b∈l,b=126∨b=127
def jk(l:List UInt8):Prop:=(∀b∈l,33≤b.toNat∧b.toNat≤126)∧l≠[]∧l.length≤30
def gA(n many:Int):Prop:=0≤n∧n<many
def C6(l:dR)(most:Int):Prop:=0≤l.Min∧l.Min≤most∧(l.Max<0∨l.Min≤l.Max∧l.Max≤most)
end Go.Hl
namespace Go.Hl
def oF(n:Nat)(most:Int)(g:Nat→Int):Int:=if most<(n:Int) then 15 else ig g n
theorem bM{n:Nat}{most:Int}{g:Nat→Int}:oF n most g=0↔(n:Int)≤most∧ig g n=0:=by
 unfold oF;split
 · constructor
   · intro h;cases h
   · rintro⟨h,_⟩;omega
 · constructor
   · intro h;exact⟨by omega,h⟩
   · exact fun h=>h.2
def cO(m:aT):Int:=(m.aJ.length:Int)+(m.aA.length:Int)
def C7(s:kY):Prop:=kZ s.P∧kZ s.R
noncomputable def L6(s:kY):Int:=kn (¬C7 s) 5
noncomputable def BU(m:aT):Int:=oF m.bQ.length 50 (oB m.bQ L6)
open Classical in
noncomputable def gB(m:aT)(x:gu):Int:=if ¬jk x.Module∨¬jk x.Name then 16 else kn (¬gA x.gX m.bQ.length) 2
noncomputable def pM(m:aT):Int:=oF m.aJ.length 20 (oB m.aJ (gB m))
noncomputable def rZ(m:aT)(x:cN):Int:=kn (¬gA x.gX m.bQ.length) 2
noncomputable def lg(m:aT):Int:=if 100<cO m then 15 else ig (oB m.aA (rZ m)) m.aA.length
noncomputable def nI(m:aT):Int:=if m.Table< -1 then 2 else kn (1000<m.Table) 15
noncomputable def Pa(x:dR):Int:=kn (¬C6 x 65536) 5
noncomputable def BV(m:aT):Int:=oF m.bz.length 4 (oB m.bz Pa)
def eP(t:UInt8):Int:=if (t.toNat:Int)=127 then 32 else if (t.toNat:Int)=126 then 64 else 0
theorem qx(b:UInt8):eP b=0↔¬(b=126∨b=127):=by
 unfold eP;by_cases h1:(b.toNat:Int)=127
 · have e:b=127:=UInt8.toNat_inj.1 (by simp;omega)
   subst e;simp
 · by_cases h2:(b.toNat:Int)=126
   · have e:b=126:=UInt8.toNat_inj.1 (by simp;omega)
     subst e;simp
   · rw[if_neg h1,if_neg h2]
     simp only[true_iff];rintro(e|e)<;>subst e<;>simp at h1 h2
theorem L7{l:List UInt8}:((l.length:Int)≤20∧¬∃x∈l,eP x=0)↔kZ l:=by
 unfold kZ;simp only[not_exists,not_and,qx,Classical.not_not];constructor<;>(rintro⟨h1,h2⟩;exact⟨by omega,h2⟩)
noncomputable def sZ(x:gy):Int:=kn (eP x.Ty=0∨(x.Ty.toNat:Int)=127∧4294967295<x.Value) 5
noncomputable def pN(m:aT):Int:=oF m.an.length 50 (oB m.an sZ)
def cnt(m:aT):Nat→Int
 |0=>cO m
 |1=>min (IntKind.i64.wrap (m.Table+1)) 1
 |2=>(m.bz.length:Int)
 |_=>(m.an.length:Int)
def nJ(k:Int):Nat:=(max (min k 3) 0).toNat
def KG(m:aT)(x:dH):Prop:=gA x.Kind 4∧gA x.Index (cnt m (nJ x.Kind))
open Classical in
noncomputable def jV(m:aT)(i:Nat):Int:=match m.bK[i]? with
 |none=>0
 |some x=>if ¬jk x.Name∨(∃y∈m.bK.take i,y.Name=x.Name) then 16 else kn (¬KG m x) 2
noncomputable def nK(m:aT):Int:=oF m.bK.length 50 (jV m)
def fM(m:aT)(f:Int):Option Int:=
 if f<0∨cO m≤f then none else if f<(m.aJ.length:Int) then(m.aJ[f.toNat]?).map (·.gX) else(m.aA[(f-(m.aJ.length:Int)).toNat]?).map (·.gX)
def ja(m:aT)(f:Int):Option kY:=match fM m f with
 |none=>none
 |some n=>if 0≤n then m.bQ[n.toNat]? else none
noncomputable def jN(m:aT):Int:=if m.Start= -1 then 0 else match ja m m.Start with
 |none=>2
 |some s=>kn (0<(s.P.length:Int)+(s.R.length:Int)) 5
open Classical in
noncomputable def tI(m:aT)(x:ez):Int:=if 20<(x.aA.length:Int) then 15 else kn (m.Table= -1∨(∃f∈x.aA,¬gA f (cO m))∨4294967295<x.At) 2
noncomputable def wN(m:aT):Int:=oF m.bw.length 20 (oB m.bw (tI m))
open Classical in
noncomputable def tJ(m:aT)(x:fV):Int:=if 4096<(x.Bytes.length:Int) then 15 else
 kn (¬gA x.Mem m.bz.length∨(∃y,m.bz[x.Mem.toNat]?=some y∧¬y.bO∧4294967295<x.At)) 2
noncomputable def wO(m:aT):Int:=oF m.bl.length 20 (oB m.bl (tJ m))
end Go.Hl
namespace Go.Hl
theorem mq{cs:List VP}{S:BS}{w:World}{v:Value}(h:(bT cs).p S w v){α:Type}{n:Nat}{enc:α→List VP}{xs:List α}(j:Nat)(hj:cs[j]?=some (ai n enc xs)):xs.length≤281474976710656:=by
 obtain⟨b,off,_,_,hc⟩:=h;obtain⟨u,_,hq⟩:=hc j _ hj;exact bn hq
theorem iC{cs:List VP}{S:BS}{w:World}{v:Value}(h:(aC cs).p S w v){α:Type}{n:Nat}{enc:α→List VP}{xs:List α}(j:Nat)(hj:cs[j]?=some (ai n enc xs)):xs.length≤281474976710656:=by
 obtain⟨arr,_,_,hc⟩:=h;obtain⟨u,_,hq⟩:=hc j _ hj;exact bn hq
theorem RG{q:VP}{S:BS}{w:World}{v:Value}(h:(bT [q]).p S w v):∃u,q.p S w u:=by
 obtain⟨b,off,_,_,hc⟩:=h;obtain⟨u,_,hq⟩:=hc 0 _ rfl;exact⟨u,hq⟩
structure vi(m:aT):Prop where
 sigs:m.bQ.length≤281474976710656
 imports:m.aJ.length≤281474976710656
 funcs:m.aA.length≤281474976710656
 ei:m.bz.length≤281474976710656
 globals:m.an.length≤281474976710656
 aZ:m.bK.length≤281474976710656
 elems:m.bw.length≤281474976710656
 bX:m.bl.length≤281474976710656
theorem iR{m:aT}{S:BS}{w:World}{v:Value}(h:(bT (bf m)).p S w v):vi m:=
 ⟨mq h 0 rfl,mq h 1 rfl,mq h 2 rfl,mq h 4 rfl,mq h 5 rfl,mq h 6 rfl,mq h 8 rfl,mq h 9 rfl⟩
theorem mw{m:aT}{S:BS}{w:World}{v:Value}(h:(bT [bT (bf m)]).p S w v):vi m:=let ⟨_,h⟩:=RG h;iR h
theorem Pb{m:aT}{S:BS}{w:World}{v:Value}(h:(aC (bf m)).p S w v):vi m:=
 ⟨iC h 0 rfl,iC h 1 rfl,iC h 2 rfl,iC h 4 rfl,iC h 5 rfl,iC h 6 rfl,iC h 8 rfl,iC h 9 rfl⟩
end Go.Hl
namespace Go.Hl
theorem BW{l:List UInt8}{k:Nat}{x:UInt8}(hx:l[k]?=some x)(h:(x.toNat:Int)<33∨126<(x.toNat:Int)):jk l↔False:=by
 constructor
 · intro hn;have:=hn.1 x (List.mem_of_getElem? hx);omega
 · exact False.elim
theorem L8{l:List UInt8}(h:∀x∈l,¬((x.toNat:Int)<33∨126<(x.toNat:Int))):∀b∈l,33≤b.toNat∧b.toNat≤126:=fun b hb=>by have:=h b hb;omega
theorem BX{l:List UInt8}(h:∀x∈l,¬((x.toNat:Int)<33∨126<(x.toNat:Int))):(l≠[]∧(l.length:Int)≤30)↔jk l:=by
 have:=L8 h;unfold jk;constructor
 · rintro⟨h1,h2⟩;exact⟨this,h1,by omega⟩
 · rintro⟨_,h1,h2⟩;exact⟨h1,by omega⟩
theorem Ic{l:List UInt8}(h:∀x∈l,¬((x.toNat:Int)<33∨126<(x.toNat:Int))):(0<(l.length:Int)∧(l.length:Int)≤30)↔jk l:=by
 rw[←BX h]
 have:0<(l.length:Int)↔l≠[]:=by
  rw[←List.length_pos_iff];omega
 rw[this]
theorem L9{l:List UInt8}{k:Nat}{x:UInt8}(hx:l[k]?=some x)(h:(x.toNat:Int)≠126∧(x.toNat:Int)≠127):kZ l↔False:=by
 constructor
 · intro hn;rcases hn.2 x (List.mem_of_getElem? hx) with e|e<;>subst e<;>simp at h
 · exact False.elim
theorem Ie{l:List UInt8}(h:∀x∈l,¬((x.toNat:Int)≠126∧(x.toNat:Int)≠127)):(l.length:Int)≤20↔kZ l:=by
 unfold kZ;constructor
 · intro h1
   refine⟨by omega,fun b hb=>?_⟩;have:=h b hb;by_cases e:(b.toNat:Int)=126
   · exact .inl (UInt8.toNat_inj.1 (by simp;omega))
   · exact .inr (UInt8.toNat_inj.1 (by simp;omega))
 · rintro⟨h1,_⟩;omega
end Go.Hl
namespace Go.Hl
theorem r7{m:aT}{j:Nat}{x:gu}(hj:j<m.aJ.length)(hx:m.aJ[j]?=some x):fM m (j:Int)=some x.gX:=by
 unfold fM cO;rw[if_neg (by omega),if_pos (by omega)];simp[hx]
theorem vj{m:aT}{j:Nat}{x:cN}(hx:m.aA[j]?=some x):fM m ((m.aJ.length:Int)+(j:Int))=some x.gX:=by
 have:=(List.getElem?_eq_some_iff.1 hx).1;unfold fM cO;rw[if_neg (by omega),if_neg (by omega)];rw[show((m.aJ.length:Int)+(j:Int)-(m.aJ.length:Int)).toNat=j by omega];simp[hx]
theorem BY{m:aT}{f:Int}(h:¬(fM m f).isSome∨¬gA ((fM m f).getD 0) m.bQ.length):ja m f=none:=by
 unfold ja;cases hn:fM m f with
 |none=>rfl
 |some n=>
  rw[hn] at h;simp only[Option.isSome_some,not_true,false_or,Option.getD_some] at h;unfold gA at h;simp only
  split
  · rw[List.getElem?_eq_none (by omega)]
  · rfl
theorem BZ{m:aT}{f n:Int}{j:Nat}{x:kY}(hn:fM m f=some n)(hj:n=(j:Int))(hx:m.bQ[j]?=some x):ja m f=some x:=by
 unfold ja;rw[hn];subst hj;simp[hx]
theorem af.ap2{a b c d:VP}(h1:af a c)(h2:af b d):af (aC [a,b]) (aC [c,d]):=fun S w v ⟨arr,hv,hn,hc⟩=>⟨arr,hv,hn,fun j q hj=>by
 match j,hj with
 |0,hj=>simp at hj;subst hj;obtain⟨u,hu,hq⟩:=hc 0 a rfl;exact⟨u,hu,h1 _ _ _ hq⟩
 |1,hj=>simp at hj;subst hj;obtain⟨u,hu,hq⟩:=hc 1 b rfl;exact⟨u,hu,h2 _ _ _ hq⟩⟩
theorem Fc{m:aT}(h0:¬m.Start= -1)(h:¬(ja m m.Start).isSome):jN m=2:=by
 unfold jN;rw[if_neg h0];cases hs:ja m m.Start with
 |none=>rfl
 |some s=>rw[hs] at h;simp at h
theorem Fe{m:aT}(h0:¬m.Start= -1)(h:¬¬(ja m m.Start).isSome):jN m=kn (0<((((ja m m.Start).getD ⟨[],[]⟩).P.length:Int)+(((ja m m.Start).getD ⟨[],[]⟩).R.length:Int))) 5:=by
 unfold jN;rw[if_neg h0];cases hs:ja m m.Start with
 |none=>rw[hs] at h;simp at h
 |some s=>rfl
end Go.Hl
namespace Go.Hl
theorem UO(m:aT)(j:Nat)(hj:j<4):[ag .i64 (cnt m 0),ag .i64 (cnt m 1),ag .i64 (cnt m 2),ag .i64 (cnt m 3)][j]?=some (ag .i64 (cnt m j)):=by
 match j,hj with
 |0,_=>rfl
 |1,_=>rfl
 |2,_=>rfl
 |3,_=>rfl
theorem C8{m:aT}{i:Nat}{x:dH}(hx:m.bK[i]?=some x)(h:¬jk x.Name∨∃y∈m.bK.take i,y.Name=x.Name):jV m i=16:=by
 unfold jV;rw[hx];simp only;rw[if_pos h]
theorem vk{m:aT}{i:Nat}{x:dH}(hx:m.bK[i]?=some x)(h:¬(¬jk x.Name∨∃y∈m.bK.take i,y.Name=x.Name)):jV m i=kn (¬gA x.Kind 4∨¬gA x.Index (cnt m (nJ x.Kind))) 2:=by
 unfold jV;rw[hx];simp only;rw[if_neg h]
 congr 1;unfold KG;exact propext (by rw[Classical.not_and_iff_not_or_not])
theorem Ig{m:aT}{x:ez}(h:¬20<(x.aA.length:Int)):tI m x=kn ((m.Table= -1∨∃f∈x.aA,¬gA f (cO m))∨4294967295<x.At) 2:=by
 unfold tI;rw[if_neg h];congr 1;exact propext (by rw[or_assoc])
theorem RH{x:fV}{n:Nat}(h:gA x.Mem n):max (min x.Mem ((n:Int)-1)) 0=(x.Mem.toNat:Int):=by
 obtain⟨h1,h2⟩:=h;omega
end Go.Hl
namespace Go.Hl
def Pc(m:aT)(k:Nat):dR:=(m.bz[k]?).getD ⟨0,0,False⟩
theorem Ff{m:aT}{x:fV}(h:gA x.Mem m.bz.length):m.bz[x.Mem.toNat]?=some (Pc m x.Mem.toNat):=by
 obtain⟨h1,h2⟩:=h;obtain⟨y,hy⟩:=ah (xs:=m.bz) (k:=x.Mem.toNat) (by omega);unfold Pc;rw[hy];rfl
theorem Ih{m:aT}{x:fV}(h:¬4096<(x.Bytes.length:Int)):tJ m x=kn (¬gA x.Mem m.bz.length∨¬(Pc m x.Mem.toNat).bO∧4294967295<x.At) 2:=by
 unfold tJ;rw[if_neg h];congr 1;apply propext
 by_cases hi:gA x.Mem m.bz.length
 · have:=Ff hi
   simp only[hi,not_true,false_or,this,Option.some.injEq,exists_eq_left']
 · simp only[hi,not_false_iff,true_or]
end Go.Hl
namespace Go.Hl
def ue{α:Type}(a b:List α)(k:Nat):Prop:=∀i,i<k→a[i]?=b[i]?
theorem ue.zero{α:Type}(a b:List α):ue a b 0:=fun i h=>by omega
theorem ue.succ{α:Type}{a b:List α}{k:Nat}{x y:α}(h:ue a b k)(hx:a[k]?=some x)(hy:b[k]?=some y)(e:x=y):ue a b (k+1):=fun i hi=>by
 by_cases e1:i=k
 · subst e1;rw[hx,hy,e]
 · exact h i (by omega)
theorem ue.all{α:Type}{a b:List α}{k:Nat}(h:ue a b k)(hl:a.length=b.length)(hk:a.length≤k):a=b:=by
 apply List.ext_getElem?;intro i;by_cases hi:i<a.length
 · exact h i (by omega)
 · rw[List.getElem?_eq_none (by omega),List.getElem?_eq_none (by omega)]
theorem q9{α:Type}{a b:List α}{k:Nat}{x y:α}(hx:a[k]?=some x)(hy:b[k]?=some y)(e:x≠y):a=b↔False:=by
 constructor
 · intro h;subst h;rw[hx] at hy;exact e (Option.some.inj hy)
 · exact False.elim
theorem mQ{α:Type}{a b:List α}(h:(a.length:Int)≠(b.length:Int)):a=b↔False:=by
 constructor
 · intro e;subst e;exact h rfl
 · exact False.elim
theorem zL{x y:UInt8}:((x.toNat:Int)=(y.toNat:Int))↔x=y:=by
 constructor
 · intro h;exact UInt8.toNat_inj.1 (by omega)
 · intro h;rw[h]
theorem Ma{x y:gu}:(x.Module=y.Module∧x.Name=y.Name∧x.gX=y.gX∧True)↔x=y:=by
 constructor
 · rintro⟨h1,h2,h3,_⟩;cases x;cases y;simp_all
 · intro h;subst h;simp
theorem Mb{x y:dR}:(x.Min=y.Min∧x.Max=y.Max∧(x.bO↔y.bO)∧True)↔x=y:=by
 constructor
 · rintro⟨h1,h2,h3,_⟩;cases x;cases y;simp at h1 h2 h3 ⊢;exact⟨h1,h2,h3⟩
 · intro h;subst h;simp
theorem Mc{x y:gy}:((x.Ty.toNat:Int)=(y.Ty.toNat:Int)∧(x.eO↔y.eO)∧x.Value=y.Value∧True)↔x=y:=by
 rw[zL];constructor
 · rintro⟨h1,h2,h3,_⟩;cases x;cases y;simp at h1 h2 h3 ⊢;exact⟨h1,h2,h3⟩
 · intro h;subst h;simp
theorem Md{x y:dH}:(x.Name=y.Name∧x.Kind=y.Kind∧x.Index=y.Index∧True)↔x=y:=by
 constructor
 · rintro⟨h1,h2,h3,_⟩;cases x;cases y;simp_all
 · intro h;subst h;simp
theorem UP{x y:kY}:(x.P=y.P∧x.R=y.R)↔x=y:=by
 constructor
 · rintro⟨h1,h2⟩;cases x;cases y;simp_all
 · intro h;subst h;simp
theorem RI{x y:jJ}:(x.aW=y.aW∧x.L=y.L)↔x=y:=by
 constructor
 · rintro⟨h1,h2⟩;cases x;cases y;simp_all
 · intro h;subst h;simp
theorem RJ{x y:cN}:(x.gX=y.gX∧x.Body=y.Body)↔x=y:=by
 constructor
 · rintro⟨h1,h2⟩;cases x;cases y;simp_all
 · intro h;subst h;simp
theorem RK{x y:ez}:(x.At=y.At∧x.aA=y.aA)↔x=y:=by
 constructor
 · rintro⟨h1,h2⟩;cases x;cases y;simp_all
 · intro h;subst h;simp
theorem RL{x y:fV}:((x.Mem=y.Mem∧x.At=y.At)∧x.Bytes=y.Bytes)↔x=y:=by
 constructor
 · rintro⟨⟨h1,h2⟩,h3⟩;cases x;cases y;simp_all
 · intro h;subst h;simp
theorem Pd{x y:ay}:((((x.Code=y.Code∧x.A=y.A)∧x.B=y.B)∧x.dm=y.dm)∧x.L=y.L)↔x=y:=by
 constructor
 · rintro⟨⟨⟨⟨h1,h2⟩,h3⟩,h4⟩,h5⟩;cases x;cases y;simp_all
 · intro h;subst h;simp
theorem mod_eq{x y:aT}:(((((((((x.aA=y.aA∧x.bw=y.bw)∧x.bl=y.bl)∧x.bQ=y.bQ)∧x.aJ=y.aJ)∧x.Table=y.Table)∧x.bz=y.bz)∧x.an=y.an)∧x.bK=y.bK)∧x.Start=y.Start)↔x=y:=by
 constructor
 · rintro⟨⟨⟨⟨⟨⟨⟨⟨⟨h1,h2⟩,h3⟩,h4⟩,h5⟩,h6⟩,h7⟩,h8⟩,h9⟩,h10⟩;cases x;cases y;simp_all
 · intro h;subst h;simp
end Go.Hl
end
section
namespace Go.Hl
variable {S:BS} {w:World} {v:Value}
theorem qy{cs:List VP}(h:(aC cs).p S w v)(j:Nat){q:VP}(hj:cs[j]?=some q):∃u,q.p S w u:=by
 obtain⟨arr,_,_,hc⟩:=h;obtain⟨u,_,hq⟩:=hc j _ hj;exact⟨u,hq⟩
variable {α:Type} {xs:List α}
theorem fH{n:Nat}{enc:α→List VP}(h:(ai n enc xs).p S w v){x:α}(hx:x∈xs)(j:Nat){q:VP}(hj:(enc x)[j]?=some q):∃u,q.p S w u:=by
 obtain⟨a,cap,_,hc,_,he⟩:=h;obtain⟨i,hi⟩:=List.mem_iff_getElem?.1 hx;have p7:i<xs.length:=(List.getElem?_eq_some_iff.1 hi).1;cases a with
 |none=>have:cap=0:=he;omega
 |some ad=>
  obtain⟨_,_,hel⟩:=he (by omega);obtain⟨u,_,hq⟩:=hel i x hi j q hj;exact⟨u,hq⟩
structure r8(b:jJ):Prop where
 locals:b.aW.length≤281474976710656
 l:b.L.length≤281474976710656
 all:∀(i:Nat) x,b.L[i]?=some x→x.L.length≤281474976710656
variable {b:jJ}
theorem Pe(h:(aC (gw b)).p S w v):r8 b:=
 ⟨iC h 0 rfl,iC h 1 rfl,fun i x hx=>by
  obtain⟨u,hu⟩:=qy h 1 rfl;obtain⟨u',Hv⟩:=fH hu (List.mem_of_getElem? hx) 4 rfl;exact bn Hv⟩
structure Ii(b:jJ):Prop where
 locals:b.aW.length≤60
 l:b.L.length≤150
 all:∀x∈b.L,x.L.length≤110
structure TN(m:aT):Prop where
 sigs:∀(i:Nat) x,m.bQ[i]?=some x→x.P.length≤281474976710656∧x.R.length≤281474976710656
 imports:∀(i:Nat) x,m.aJ[i]?=some x→x.Module.length≤281474976710656∧x.Name.length≤281474976710656
 aZ:∀(i:Nat) x,m.bK[i]?=some x→x.Name.length≤281474976710656
 elems:∀(i:Nat) x,m.bw[i]?=some x→x.aA.length≤281474976710656
 bX:∀(i:Nat) x,m.bl[i]?=some x→x.Bytes.length≤281474976710656
variable {m:aT}
theorem Xl(h:(aC (bf m)).p S w v):TN m where
 sigs i x hx:=by
  obtain⟨u,hu⟩:=qy h 0 rfl;obtain⟨_,h1⟩:=fH hu (List.mem_of_getElem? hx) 0 rfl;obtain⟨_,h2⟩:=fH hu (List.mem_of_getElem? hx) 1 rfl;exact⟨bn h1,bn h2⟩
 imports i x hx:=by
  obtain⟨u,hu⟩:=qy h 1 rfl;obtain⟨_,h1⟩:=fH hu (List.mem_of_getElem? hx) 0 rfl;obtain⟨_,h2⟩:=fH hu (List.mem_of_getElem? hx) 1 rfl;exact⟨iz h1,iz h2⟩
 aZ i x hx:=by
  obtain⟨u,hu⟩:=qy h 6 rfl;obtain⟨_,h1⟩:=fH hu (List.mem_of_getElem? hx) 0 rfl;exact iz h1
 elems i x hx:=by
  obtain⟨u,hu⟩:=qy h 8 rfl;obtain⟨_,h1⟩:=fH hu (List.mem_of_getElem? hx) 1 rfl;exact bn h1
 bX i x hx:=by
  obtain⟨u,hu⟩:=qy h 9 rfl;obtain⟨_,h1⟩:=fH hu (List.mem_of_getElem? hx) 2 rfl;exact bn h1
structure wP(m:aT):Prop where
 sigs:m.bQ.length≤60
 imports:m.aJ.length≤25
 funcs:m.aA.length≤110
 ei:m.bz.length≤8
 globals:m.an.length≤60
 aZ:m.bK.length≤60
 elems:m.bw.length≤25
 bX:m.bl.length≤25
 sig:∀x∈m.bQ,x.P.length+x.R.length≤60
 imp:∀x∈m.aJ,x.Module.length+x.Name.length≤100
 fn:∀x∈m.aA,Ii x.Body
 exp:∀x∈m.bK,x.Name.length≤60
 elem:∀x∈m.bw,x.aA.length≤30
 data:∀x∈m.bl,x.Bytes.length≤4100
def KH(x:aT)(a f:VP):List VP:=[a,ai 3 iG x.aJ,f,ag .i64 x.Table,ai 3 ek x.bz,ai 3 dX x.an,ai 3 dG x.bK,ag .i64 x.Start,ai 2 dS x.bw,ai 3 eA x.bl]
structure dM(x:aT):Prop where
 sigs:BU x=0
 imports:pM x=0
 funcs:lg x=0
 table:nI x=0
 ei:BV x=0
 globals:pN x=0
 aZ:nK x=0
 start:jN x=0
 elems:wN x=0
 bX:wO x=0
variable {k:Nat}
theorem s4{most:Int}{f:α→Int}(h:(xs.length:Int)≤most)(hn:cT (fun z=>f z≠0) xs k)(hk:xs.length≤k):oF xs.length most (oB xs f)=0:=
 bM.2 ⟨h,fA.2 fun z hz=>Classical.not_not.1 (hn.all hk z hz)⟩
theorem Pf{f:α→Int}(hn:cT (fun z=>f z≠0) xs k)(hk:xs.length≤k):ig (oB xs f) xs.length=0:=fA.2 fun z hz=>Classical.not_not.1 (hn.all hk z hz)
variable {s:kY}
theorem RN(h:kZ s.P∧kZ s.R):L6 s=0:=(cM (by decide)).2 (not_not_intro h)
theorem Ij{x:gu}(h1:jk x.Module∧jk x.Name)(h2:gA x.gX m.bQ.length):gB m x=0:=by
 unfold gB;rw[if_neg (by simp[h1])];exact(cM (by decide)).2 (not_not_intro h2)
theorem Pg{x:cN}(h2:gA x.gX m.bQ.length):rZ m x=0:=(cM (by decide)).2 (not_not_intro h2)
theorem Ph(h:(m.aJ.length:Int)+(m.aA.length:Int)≤100)(hn:cT (fun z=>rZ m z≠0) m.aA k)(hk:m.aA.length≤k):lg m=0:=by
 unfold lg cO;rw[if_neg (by omega)];exact Pf hn hk
theorem Me(h: -1≤m.Table)(h2:m.Table≤1000):nI m=0:=by
 unfold nI;rw[if_neg (by omega)];exact(cM (by decide)).2 (by omega)
theorem RO{x:dR}(h:0≤x.Min∧x.Min≤65536∧(x.Max<0∨x.Min≤x.Max∧x.Max≤65536)):Pa x=0:=(cM (by decide)).2 (not_not_intro h)
theorem Ik{x:gy}(h:(x.Ty.toNat:Int)=126∨(x.Ty.toNat:Int)=127∧x.Value≤4294967295):sZ x=0:=by
 refine(cM (by decide)).2 fun h'=>?_;rcases h' with h'|h'
 · rw[qx] at h'
   apply h';rcases h with h|h
   · exact .inl (UInt8.toNat_inj.1 (by simpa using(by omega:x.Ty.toNat=126)))
   · exact .inr (UInt8.toNat_inj.1 (by simpa using(by omega:x.Ty.toNat=127)))
 · omega
theorem Il{i:Nat}{x:dH}(hx:m.bK[i]?=some x)(h1:jk x.Name)(h2:cT (fun z:dH=>z.Name=x.Name) m.bK i)(ht: -1≤m.Table)(ht2:m.Table≤1000)
    (h3:x.Kind=0∧gA x.Index (cO m)∨(x.Kind=1∧0≤m.Table)∧x.Index=0∨x.Kind=2∧gA x.Index m.bz.length∨x.Kind=3∧gA x.Index m.an.length):jV m i=0:=by
  rw[vk hx]
  · refine(cM (by decide)).2 fun h=>?_
    have k0:nJ 0=0:=by decide
    have k1:nJ 1=1:=by decide
    have k2:nJ 2=2:=by decide
    have k3:nJ 3=3:=by decide
    unfold gA at h h3;rcases h3 with⟨h4,h5⟩|⟨⟨h4,h5⟩,h6⟩|⟨h4,h5⟩|⟨h4,h5⟩
    · rw[h4,k0] at h;simp only[cnt] at h;omega
    · rw[h4,k1] at h
      have hw:IntKind.i64.wrap (m.Table+1)=m.Table+1:=by unfold IntKind.wrap;simp[IntKind.signed,IntKind.bits];omega
      simp only[cnt,hw] at h;omega
    · rw[h4,k2] at h;simp only[cnt] at h;omega
    · rw[h4,k3] at h;simp only[cnt] at h;omega
  · rintro(h|⟨y,hy,he⟩)
    · exact h h1
    · obtain⟨j,hj⟩:=List.mem_iff_getElem?.1 hy
      rw[List.getElem?_take] at hj
      split at hj
      · rename_i hlt;exact h2 j y hlt hj he
      · cases hj
theorem Im(h:(m.bK.length:Int)≤50)(hn:∀j,j<k→jV m j=0)(hk:m.bK.length≤k):nK m=0:=bM.2 ⟨h,mj.2 fun i hi=>hn i (by omega)⟩
theorem gA.at{n:Int}{k:Nat}(h:gA n k):n.toNat<k∧n=(n.toNat:Int):=by unfold gA at h;omega
variable {f:Int}
theorem wQ(hf:gA f (cO m))(h1:∀z∈m.aJ,gB m z=0)(h2:∀z∈m.aA,rZ m z=0):∃s,ja m f=some s:=by
 have hf':=hf;unfold gA cO at hf';unfold ja fM;rw[if_neg (by unfold cO;omega)]
 have key:∀n:Int,gA n m.bQ.length→∃s,(match some n with|none=>none|some n=>if 0≤n then m.bQ[n.toNat]? else none)=some s:=fun n hn=>by
  obtain⟨h3,h4⟩:=hn.at;simp only;rw[if_pos (by omega)];exact⟨_,List.getElem?_eq_getElem h3⟩
 by_cases hlt:f<(m.aJ.length:Int)
 · rw[if_pos hlt]
   have hl:f.toNat<m.aJ.length:=by omega
   rw[List.getElem?_eq_getElem hl];refine key _ ?_;have:=h1 _ (List.getElem_mem hl);unfold gB at this
   split at this
   · cases this
   · exact Classical.not_not.1 ((cM (by decide)).1 this)
 · rw[if_neg hlt]
   have hl:(f-(m.aJ.length:Int)).toNat<m.aA.length:=by omega
   rw[List.getElem?_eq_getElem hl];refine key _ ?_;have:=h2 _ (List.getElem_mem hl);exact Classical.not_not.1 ((cM (by decide)).1 this)
theorem zM(h:ja m f=some s)(hf:f<(m.aJ.length:Int)):∃x:gu,m.aJ[f.toNat]?=some x∧m.bQ[x.gX.toNat]?=some s∧f=(f.toNat:Int)∧x.gX=(x.gX.toNat:Int):=by
 unfold ja fM at h
 split at h
 · cases h
 · rename_i n hn
   split at hn
   · cases hn
   · rename_i hc
     cases hx:m.aJ[f.toNat]? with
     |none=>rw[hx] at hn;cases hn
     |some x=>
      rw[hx] at hn;cases hn
      split at h
      · rename_i h0;exact⟨x,rfl,h,by omega,by have h1:0≤x.gX:=h0;omega⟩
      · cases h
theorem Fg(h:ja m f=some s)(hf:¬f<(m.aJ.length:Int)):∃x:cN,m.aA[(f-(m.aJ.length:Int)).toNat]?=some x∧m.bQ[x.gX.toNat]?=some s∧f-(m.aJ.length:Int)=((f-(m.aJ.length:Int)).toNat:Int)∧x.gX=(x.gX.toNat:Int)∧f<cO m:=by
 unfold ja fM at h
 split at h
 · cases h
 · rename_i n hn
   split at hn
   · cases hn
   · rename_i hc
     cases hx:m.aA[(f-(m.aJ.length:Int)).toNat]? with
     |none=>rw[hx] at hn;cases hn
     |some x=>
      rw[hx] at hn;cases hn
      split at h
      · rename_i h0;exact⟨x,rfl,h,by omega,by have h1:0≤x.gX:=h0;omega,by omega⟩
      · cases h
theorem Mf(h:m.Start= -1):jN m=0:=by unfold jN;rw[if_pos h]
theorem Mg(h:ja m m.Start=some s)(h2:¬0<(s.P.length:Int)+(s.R.length:Int)):jN m=0:=by
 unfold jN;split
 · rfl
 · rw[h];exact(cM (by decide)).2 h2
theorem Pj{x:ez}(h:(x.aA.length:Int)≤20)(h1:0≤m.Table)(h2:x.At≤4294967295)(h3:cT (fun z:Int=>¬gA z (cO m)) x.aA k)(hk:x.aA.length≤k):tI m x=0:=by
 unfold tI;rw[if_neg (by omega)]
 refine(cM (by decide)).2 ?_;rintro(h4|⟨f,hf,h5⟩|h6)
 · omega
 · exact h3.all hk f hf h5
 · omega
theorem Pk{x:fV}{y:dR}(h:(x.Bytes.length:Int)≤4096)(h1:gA x.Mem m.bz.length)(hy:m.bz[x.Mem.toNat]?=some y)(h2:¬(¬y.bO∧4294967295<x.At)):tJ m x=0:=by
 unfold tJ;rw[if_neg (by omega)]
 refine(cM (by decide)).2 ?_;rintro(h4|⟨z,hz,h5⟩)
 · exact h4 h1
 · rw[hy] at hz;cases hz;exact h2 h5
theorem cT.KI{f:α→Int}(hn:cT (fun z=>f z≠0) xs k)(hk:xs.length≤k):∀z∈xs,f z=0:=fun z hz=>Classical.not_not.1 (hn.all hk z hz)
theorem or4{a b c d:Prop}(h:((a∨b)∨c)∨d):a∨b∨c∨d:=by simpa[or_assoc] using h
theorem C9(h:ja m f=some s):s∈m.bQ:=by
 unfold ja at h
 split at h
 · cases h
 · split at h
   · exact List.mem_of_getElem? h
   · cases h
theorem qz(h:lg m=0):∀z∈m.aA,rZ m z=0:=by
 unfold lg at h
 split at h
 · cases h
 · exact fA.1 h
theorem KJ(h1:∀z∈m.aJ,gB m z=0)(h2:∀z∈m.aA,rZ m z=0):(ja m f).isSome=true↔gA f (cO m):=by
 constructor
 · intro h
   obtain⟨s,hs⟩:=Option.isSome_iff_exists.1 h;unfold ja fM at hs;unfold gA;by_cases hc:f<0∨cO m≤f
   · rw[if_pos hc] at hs;cases hs
   · omega
 · intro h
   obtain⟨s,hs⟩:=wQ h h1 h2;rw[hs];rfl
def kK(f:Nat→Int):Nat→Int
 |0=>0
 |n+1=>kK f n+f n
theorem Da{f:Nat→Int}{C:Int}(h:∀i,0≤f i∧f i≤C):∀n:Nat,0≤kK f n∧kK f n≤n*C
 |0=>by simp[kK]
 |n+1=>by
  have h1:=Da h n;have h2:=h n;simp only[kK];refine⟨by omega,?_⟩;have:((n+1:Nat):Int)*C=n*C+C:=by rw[Int.natCast_add,Int.add_mul];simp
  omega
theorem B1{f:Nat→Int}(h:∀i,0≤f i):∀{n:Nat},kK f n≤0→∀i,i<n→f i≤0
 |0,_,i,hi=>by omega
 | n+1,hs,i,hi=>by
  have h0:∀k:Nat,0≤kK f k:=fun k=>by
   induction k with
   |zero=>simp[kK]
   |succ k ih=>have:=h k;simp only[kK];omega
  have h1:=h0 n;have h2:=h n;simp only[kK] at hs;by_cases e:i=n
  · subst e;omega
  · exact B1 (n:=n) h (by omega) i (by omega)
variable {g:α→Int}
theorem Pm{C:Int}(hC:0≤C)(h:∀(i:Nat) x,xs[i]?=some x→0≤g x∧g x≤C)(i:Nat):0≤oB xs g i∧oB xs g i≤C:=by
 unfold oB
 split
 · rename_i x hx;exact h i x hx
 · exact⟨by omega,hC⟩
def r9(xs:List α)(g:α→Int)(cap:Nat):Int:=kK (oB xs g) (min xs.length cap)
theorem iS{cap:Nat}(C:Int)(hC:0≤C)(h:∀(i:Nat) x,xs[i]?=some x→0≤g x∧g x≤C):0≤r9 xs g cap∧r9 xs g cap≤cap*C:=by
 have h1:=Da (Pm hC h) (min xs.length cap);refine⟨h1.1,Int.le_trans h1.2 (Int.mul_le_mul_of_nonneg_right (by omega) hC)⟩
theorem lU{cap:Nat}(h:∀(i:Nat) x,xs[i]?=some x→0≤g x)(h0:r9 xs g cap≤0)(hl:xs.length≤cap):∀x∈xs,g x≤0:=fun x hx=>by
 obtain⟨i,hi⟩:=List.mem_iff_getElem?.1 hx;have:=B1 (f:=oB xs g) (fun j=>by unfold oB;split;exact h j _ (by assumption);omega) h0 i (by have:=(List.getElem?_eq_some_iff.1 hi).1;omega)
 rwa [kV hi] at this
theorem lV{C:Int}(hC:0≤C)(h:∀(i:Nat) x,xs[i]?=some x→0≤g x∧g x≤C)(k:Nat):0≤kK (oB xs g) k∧kK (oB xs g) k≤k*C:=Da (Pm hC h) k
theorem qA{x:α}(hx:xs[k]?=some x):kK (oB xs g) (k+1)=kK (oB xs g) k+g x:=by simp only[kK];rw[kV hx]
def qB(x:ay):Int:=max ((x.L.length:Int)-110) 0
def sj(b:jJ):Int:=max ((b.aW.length:Int)-60) 0+max ((b.L.length:Int)-150) 0+r9 b.L qB 150
theorem wR(h:r8 b):∀(i:Nat) x,b.L[i]?=some x→0≤qB x∧qB x≤281474976710656:=fun i x hx=>by have:=h.all i x hx;unfold qB;omega
theorem Mh(h:r8 b):0≤sj b∧sj b≤152*281474976710656:=by
 have h1:=iS (cap:=150) 281474976710656 (by omega) (wR h);have h2:=h.locals;have h3:=h.l;unfold sj;omega
theorem Db(h:r8 b)(h0:sj b≤0):Ii b:=by
 have h1:=iS (cap:=150) 281474976710656 (by omega) (wR h);unfold sj at h0;have h2:=lU (xs:=b.L) (g:=qB) (cap:=150) (fun i x _=>by unfold qB;omega) (by omega) (by omega);exact⟨by omega,by omega,fun x hx=>by have:=h2 x hx;unfold qB at this;omega⟩
def Io(y:kY):Int:=max ((y.P.length:Int)+(y.R.length:Int)-60) 0
def Ip(y:gu):Int:=max ((y.Module.length:Int)+(y.Name.length:Int)-100) 0
def V6(y:cN):Int:=sj y.Body
def Iq(y:dH):Int:=max ((y.Name.length:Int)-60) 0
def zN(y:ez):Int:=max ((y.aA.length:Int)-30) 0
def xN(y:fV):Int:=max ((y.Bytes.length:Int)-4100) 0
def oZ(x:aT):Int:=max ((x.bQ.length:Int)-60) 0+max ((x.aJ.length:Int)-25) 0+max ((x.aA.length:Int)-110) 0+max ((x.bz.length:Int)-8) 0+max ((x.an.length:Int)-60) 0+max ((x.bK.length:Int)-60) 0+max ((x.bw.length:Int)-25) 0+max ((x.bl.length:Int)-25) 0
def uf(x:aT):Int:=oZ x+r9 x.bQ Io 60
def ug(x:aT):Int:=uf x+r9 x.aJ Ip 25
def uh(x:aT):Int:=ug x+r9 x.aA V6 110
def uj(x:aT):Int:=uh x+r9 x.bK Iq 60
def uk(x:aT):Int:=uj x+r9 x.bw zN 25
def qC(x:aT):Int:=uk x+r9 x.bl xN 25
structure vl(x:aT):Prop where
 top:vi x
 mid:TN x
 fns:∀(i:Nat) y,x.aA[i]?=some y→r8 y.Body
theorem sk(h:(aC (bf m)).p S w v):vl m:=
 ⟨Pb h,Xl h,fun i x hx=>by
  obtain⟨u,hu⟩:=qy h 2 rfl;obtain⟨_,h1⟩:=fH hu (List.mem_of_getElem? hx) 1 rfl;obtain⟨_,h2⟩:=fH hu (List.mem_of_getElem? hx) 2 rfl
  exact⟨bn h1,bn h2,fun j y hy=>by
   obtain⟨_,h3⟩:=fH h2 (List.mem_of_getElem? hy) 4 rfl;exact bn h3⟩⟩
structure Ir(x:aT):Prop where
 n0:0≤oZ x∧oZ x≤8*281474976710656
 sig:∀(i:Nat) y,x.bQ[i]?=some y→0≤Io y∧Io y≤2*281474976710656
 imp:∀(i:Nat) y,x.aJ[i]?=some y→0≤Ip y∧Ip y≤2*281474976710656
 fn:∀(i:Nat) y,x.aA[i]?=some y→0≤V6 y∧V6 y≤152*281474976710656
 exp:∀(i:Nat) y,x.bK[i]?=some y→0≤Iq y∧Iq y≤281474976710656
 elem:∀(i:Nat) y,x.bw[i]?=some y→0≤zN y∧zN y≤281474976710656
 data:∀(i:Nat) y,x.bl[i]?=some y→0≤xN y∧xN y≤281474976710656
variable {x:aT}
theorem Mi(h:vi x):0≤oZ x∧oZ x≤8*281474976710656:=by
 obtain⟨h1,h2,h3,h4,h5,h6,h7,h8⟩:=h;have mx:∀(n:Nat) (c:Int),0≤c→n≤281474976710656→0≤max ((n:Int)-c) 0∧max ((n:Int)-c) 0≤281474976710656:=fun n c _ _=>by omega
 have a1:=mx _ 60 (by omega) h1;have a2:=mx _ 25 (by omega) h2;have a3:=mx _ 110 (by omega) h3;have a4:=mx _ 8 (by omega) h4;have a5:=mx _ 60 (by omega) h5;have a6:=mx _ 60 (by omega) h6;have a7:=mx _ 25 (by omega) h7;have a8:=mx _ 25 (by omega) h8;unfold oZ;generalize max ((x.bQ.length:Int)-60) 0=b1 at*;generalize max ((x.aJ.length:Int)-25) 0=b2 at*;generalize max ((x.aA.length:Int)-110) 0=b3 at*;generalize max ((x.bz.length:Int)-8) 0=b4 at*;generalize max ((x.an.length:Int)-60) 0=b5 at*;generalize max ((x.bK.length:Int)-60) 0=b6 at*;generalize max ((x.bw.length:Int)-25) 0=b7 at*;generalize max ((x.bl.length:Int)-25) 0=b8 at*;omega
theorem pO(h:vl x):Ir x:=
 ⟨Mi h.top,fun i y hy=>by have:=h.mid.sigs i y hy;unfold Io;omega,fun i y hy=>by have:=h.mid.imports i y hy;unfold Ip;omega,fun i y hy=>Mh (h.fns i y hy),
  fun i y hy=>by have:=h.mid.aZ i y hy;unfold Iq;omega,fun i y hy=>by have:=h.mid.elems i y hy;unfold zN;omega,fun i y hy=>by have:=h.mid.bX i y hy;unfold xN;omega⟩
theorem Dc(h:vl x)(h0:qC x≤0):wP x:=by
 have hb:=pO h;have n0:=hb.n0.1;have n1:=(iS (cap:=60) _ (by omega) hb.sig).1;have n2:=(iS (cap:=25) _ (by omega) hb.imp).1;have n3:=(iS (cap:=110) _ (by omega) hb.fn).1;have n4:=(iS (cap:=60) _ (by omega) hb.exp).1;have n5:=(iS (cap:=25) _ (by omega) hb.elem).1;have n6:=(iS (cap:=25) _ (by omega) hb.data).1;unfold qC uk uj uh ug uf at h0;have z0:oZ x≤0:=by omega
 unfold oZ at z0;have g1:x.bQ.length≤60:=by omega
 have g2:x.aJ.length≤25:=by omega
 have g3:x.aA.length≤110:=by omega
 have g6:x.bK.length≤60:=by omega
 have g7:x.bw.length≤25:=by omega
 have g8:x.bl.length≤25:=by omega
 exact⟨g1,g2,g3,by omega,by omega,g6,g7,g8,
  fun y hy=>by have:=lU (fun i y hy=>(hb.sig i y hy).1) (by omega) g1 y hy;unfold Io at this;omega,
  fun y hy=>by have:=lU (fun i y hy=>(hb.imp i y hy).1) (by omega) g2 y hy;unfold Ip at this;omega,
  fun y hy=>by
   have h9:=lU (fun i y hy=>(hb.fn i y hy).1) (by omega) g3 y hy;obtain⟨i,hi⟩:=List.mem_iff_getElem?.1 hy;exact Db (h.fns i y hi) h9,
  fun y hy=>by have:=lU (fun i y hy=>(hb.exp i y hy).1) (by omega) g6 y hy;unfold Iq at this;omega,
  fun y hy=>by have:=lU (fun i y hy=>(hb.elem i y hy).1) (by omega) g7 y hy;unfold zN at this;omega,
  fun y hy=>by have:=lU (fun i y hy=>(hb.data i y hy).1) (by omega) g8 y hy;unfold xN at this;omega⟩
theorem zO(hb:Ir x):(0≤uf x∧uf x≤128*281474976710656)∧(0≤ug x∧ug x≤178*281474976710656)∧(0≤uh x∧uh x≤16898*281474976710656)∧(0≤uj x∧uj x≤16958*281474976710656)∧(0≤uk x∧uk x≤16983*281474976710656):=by
 have n0:=hb.n0;have n1:=iS (cap:=60) _ (by omega) hb.sig;have n2:=iS (cap:=25) _ (by omega) hb.imp;have n3:=iS (cap:=110) _ (by omega) hb.fn;have n4:=iS (cap:=60) _ (by omega) hb.exp;have n5:=iS (cap:=25) _ (by omega) hb.elem;unfold uk uj uh ug uf;omega
end Go.Hl
end
section
namespace Go.Hl
open Go.RowKit
section
variable {P:Program} {hs:List HP} {env:Env} {q:VP} {dst:Option Tmp} {ty T T' E:TypeId} {pos:String} {after:Array Edge} {gd:Option (Nat×Bool)} {x y z:Operand}
theorem vm{f:FuncId}{v:Value}(hx:bx env x (aa v)):bp P hs env ⟨dst, .makeFunc (.func f) #[x] #[],ty,pos,after,gd⟩ (aa (.func (.func f) #[v] #[])):=by
 intro a w S F _ _ _ _ he K Q hk;unfold Oper.wp;have hv:=hx S w a he;simp only[aa] at hv
 exact hk _ w S (Grow.refl _ _) (by simp[aa,hv])
theorem vn{f:FuncId}{v:Value}{ats:Array TypeId}{hs0 rest:List HP}{γ:Type}{φ:γ→Prop}{hs':γ→List HP}{q:γ→VP}(hf:cv P f [aa v] hs0 φ hs' q)(hb:mU P f=true)(hx:bx env x (aa (.func (.func f) #[v] #[])))(hp:hs.Perm (hs0++rest)):
    fZ P hs env ⟨dst, .call ⟨.value x, #[],ats⟩,ty,pos,after,gd⟩ φ (fun g=>hs' g++rest) q:=by
  intro c a w S F aH hown he K Q hk;have h0:=cG (xs:=[.const v]) (ats:=ats) (dst:=dst) (ty:=ty) (pos:=pos) (after:=after) (gd:=gd) hf hb (.cons (.c _) .nil) hp c a w S F aH hown he K Q hk;have hv:=hx S w a he;simp only[aa] at hv
  unfold Oper.wp at h0 ⊢;rw[uR hb] at h0
  have e:(execOp a.eval ⟨dst, .call ⟨.value x, #[],ats⟩,ty,pos,after,gd⟩).run P w= .ok (.enter f #[v]) w:=by
    have h:=jA hb #[v] w;simp[execOp,resolve,hv,Deferred.ofValue,invoke] at h ⊢;exact h
  rw[e];exact h0
end
abbrev RP(f sb:Nat):VP:=aa (.func (.func f) #[.pointer (some ⟨sb,0,none⟩)] #[])
variable {k:Nat} {v:Nat}
theorem RQ{l:List UInt8}{at_ w:Nat}(hl:at_+w≤l.length)(hk:k<w):(l.take at_++xK v k++l.drop (at_+k)).set (at_+k) (Ru v k)=l.take at_++xK v (k+1)++l.drop (at_+(k+1)):=by
 have h1:(l.take at_++xK v k).length=at_+k:=by rw[List.length_append,nc,List.length_take];omega
 have h2:l.drop (at_+k)=l[at_+k]'(by omega)::l.drop (at_+k+1):=List.drop_eq_getElem_cons (by omega);rw[List.set_append_right _ _ (by omega),h1,Nat.sub_self,h2,List.set_cons_zero];have h3:xK v (k+1)=xK v k++[Ru v k]:=by unfold xK;rw[List.range_succ,List.map_append];rfl
 rw[h3];simp only[List.append_assoc,List.singleton_append];rfl
theorem Pn(v k:Nat):IntKind.u8.wrap ((v/2^(8*k):Nat):Int)=((Ru v k).toNat:Int):=by
 have e:∀n:Int,IntKind.u8.wrap n=n%256:=fun _=>rfl;rw[e];unfold Ru;rw[UInt8.toNat_ofNat'];omega
theorem UQ{l:List UInt8}{at_:Nat}{c:UInt8}(hc:l[at_+k]?=some c)(hk:k<8):((ry ((l.drop at_).take k))|||(c.toNat*2^(8*k)%18446744073709551616))=ry ((l.drop at_).take (k+1))∧ry ((l.drop at_).take k)<18446744073709551616:=by
 have hd:(l.drop at_)[k]?=some c:=by rw[List.getElem?_drop];exact hc
 have hlen:((l.drop at_).take k).length=k:=by
  have:=(List.getElem?_eq_some_iff.1 hd).1;rw[List.length_take];omega
 have h1:=CN ((l.drop at_).take k);rw[hlen] at h1;have h2:2^(8*k)≤2^56:=Nat.pow_le_pow_right (by decide) (by omega);have h3:=c.toNat_lt;have h4:c.toNat*2^(8*k)≤255*2^56:=Nat.mul_le_mul (by omega) h2;refine⟨?_,by omega⟩;rw[Nat.mod_eq_of_lt (by omega)];have h5:=UH ((l.drop at_).take k) c;rw[hlen] at h5;rw[h5,←bq hd]
variable {a:ej} {X:ox}
theorem Is(h:dy X a){x:Nat}{w:Nat}(hx:x+w≤X.size):dy X (a.put x (xK v w)):=h.put (by rw[nc];exact hx)
abbrev wS(X:ox)(a:ej):HP:=ax X.ab [jM X.db 0 X.size,ag .i64 (a.height:Int),ag .i64 (a.live:Int),aa (.map (some X.tm)),aa (.map (some X.gm))]
def pP(X:ox)(a:ej):List HP:=[wS X a,iM X.db a.bytes]
abbrev yo:=List (Int×SB×List Int)
def o4(G:yo):List HP:=G.map fun e=>av e.2.1 1 dc e.2.2
abbrev Fh(G:yo):List (Int×Value):=G.map fun e=>(e.1,bt e.2.1 e.2.2.length)
def It(gm:Nat)(G:yo):HP:=jL gm (Value.int .i64) aa (Fh G)
def tK(G:yo)(n:Nat):Prop:=∀e∈G,e.2.2.length≤n
def RR(gm n:Nat):HP:=VZ fun G:yo=>kJ (me (tK G n)::It gm G::o4 G)
def um(X:ox)(a:ej)(n:Nat):List HP:=[wS X a,iM X.db a.bytes,jL X.tm (Value.int .i64) aU a.taken,RR X.gm n]
def vo(G:yo)(c:Int):SB×List Int:=(aq G c).getD (none,[])
variable {r:List HP} {κ:Type}
theorem map_nil{α β:Type}[DecidableEq κ]{m:Nat}{ke:κ→Value}{f:α→VP}{g:β→VP}:aB (jL m ke f []::r) (jL m ke g []::r):=fun F S w ⟨F1,F2,h1,h2,⟨hF,es,cl,hh,hk,_,hb⟩,h4⟩=>
 ⟨F1,F2,h1,h2,⟨hF,es,cl,hh,hk,fun i p hp=>by simp at hp,hb⟩,h4⟩
variable {gm:Nat}
theorem Po:aB (jL gm (Value.int .i64) (fun _:Unit=>qg) []::r) (RR gm 0::r):=
 map_nil.trans ((aB.pure (p:=tK [] 0) (fun e h=>by cases h)).trans ((aB.pack (l:=[me (tK [] 0),It gm []])).trans (aB.ex (f:=fun G:yo=>kJ (me (tK G 0)::It gm G::o4 G)) [])))
theorem Mj:aB (eW X a++r) (um X a 0++r):=aB.cons _ (aB.cons _ (aB.cons _ Po))
variable {G:yo} {c:Int}
theorem Pp:af (tV aa (aa (.slice none 0 0)) (aq (Fh G) c)) (aa (bt (vo G c).1 (vo G c).2.length)):=af.of_eq (by
 rw[lQ (fun x:SB×List Int=>bt x.1 x.2.length)];unfold vo;cases aq G c<;>rfl)
theorem wT{α:Type}{id:Int}(v:α):∀{E:List (Int×α)},aq E id≠none→eY E id v=gM E id v
 |[],h=>absurd rfl h
 | e ::E,h=>by
  unfold eY gM;rw[List.map_cons,List.findIdx?_cons];by_cases he:e.1=id
  · simp[he]
  · have h':aq E id≠none:=fun e2=>h (by
     unfold aq at e2 ⊢;rw[List.find?_cons_of_neg (by simpa using he)];exact e2)
    have ih:=wT v h';unfold eY at ih;rw[if_neg he,←ih];simp only[he,decide_false,Bool.false_eq_true,if_false];cases (E.map (·.1)).findIdx? (fun k=>decide (k=id))<;>rfl
theorem B2{c:Int}:∀{G:yo} {x:SB×List Int},aq G c=some x→(o4 G).Perm (av x.1 1 dc x.2::o4 (jh G c))
 |[],x,h=>by cases h
 |e::E,x,h=>by
  unfold aq at h;by_cases he:e.1=c
  · rw[List.find?_cons_of_pos (by simpa using he)] at h
    simp at h;unfold jh o4;rw[List.eraseP_cons_of_pos (by simpa using he),List.map_cons,h]
  · rw[List.find?_cons_of_neg (by simpa using he)] at h
    have ih:=B2 (c:=c) (G:=E) (x:=x) h;unfold jh o4 at ih ⊢;rw[List.eraseP_cons_of_neg (by simpa using he),List.map_cons,List.map_cons];exact(ih.cons _).trans (List.Perm.swap _ _ _)
theorem KK{c:Int}(y:SB×List Int):∀{G:yo},aq G c≠none→(av y.1 1 dc y.2::o4 (jh G c)).Perm (o4 (gM G c y))
 |[],h=>absurd rfl h
 | e ::E,h=>by
  by_cases he:e.1=c
  · unfold jh o4 gM
    rw[List.eraseP_cons_of_pos (by simpa using he),if_pos he,List.map_cons]
  · have h':aq E c≠none:=fun e2=>h (by
     unfold aq at e2 ⊢;rw[List.find?_cons_of_neg (by simpa using he)];exact e2)
    have ih:=KK y h';unfold o4 jh at ih ⊢;unfold gM;rw[List.eraseP_cons_of_neg (by simpa using he),if_neg he,List.map_cons,List.map_cons];exact(List.Perm.swap _ _ _).trans (ih.cons _)
theorem zP{α:Type}{c:Int}:∀{G:List (Int×α)},aq G c=none→jh G c=G
 |[],_=>rfl
 |e::E,h=>by
  unfold aq at h;by_cases he:e.1=c
  · rw[List.find?_cons_of_pos (by simpa using he)] at h;cases h
  · rw[List.find?_cons_of_neg (by simpa using he)] at h
    have ih:=zP (c:=c) (G:=E) h;unfold jh at ih ⊢;rw[List.eraseP_cons_of_neg (by simpa using he),ih]
variable {n:Nat}
theorem Mk(h:tK G n):(vo G c).2.length≤n:=by
 unfold vo;cases hc:aq G c with
 |none=>exact Nat.zero_le _
 |some y=>exact h _ (uc hc)
theorem aM.UR{P:Program}{Q:Exit→Act→World→Prop}{cx:Ctx}{x:Code}{env:Env}(c:Int)(k:∀G:yo,tK G n→aM P Q cx x (It gm G::av (vo G c).1 1 dc (vo G c).2::kJ (o4 (jh G c))::r) env):aM P Q cx x (RR gm n::r) env:=
 aM.opens fun G=>aM.own aB.unpack (aM.me fun hG=>aM.own (aB.cons _ (by
  unfold vo;cases h:aq G c with
  |none=>
   rw[zP h];exact aB.trans (aB.pack (l:=o4 G)) tH
  |some y=>exact aB.trans (aB.perm ((B2 h).append_right r)) (aB.cons _ (aB.pack (l:=o4 (jh G c)))))) (k G hG))
theorem Pq{ν:Type}[DecidableEq κ]{D:List (κ×ν)}{a:κ}{v:ν}{e:κ×ν}(h:e∈eY D a v):e=(a,v)∨e∈D:=by
 unfold eY at h
 split at h
 · rcases List.mem_or_eq_of_mem_set h with h|h
   · exact .inr h
   · exact .inl h
 · rcases List.mem_append.1 h with h|h
   · exact .inr h
   · exact .inl (List.mem_singleton.1 h)
theorem Ml{sb:SB}{xs:List Int}(hG:tK G k)(hn:n=xs.length)(hx:xs.length≤k+1):aB (jL gm (Value.int .i64) aa (eY (Fh G) c (bt sb n))::av sb 1 dc xs::kJ (o4 (jh G c))::r) (RR gm (k+1)::r):=by
 subst hn
 have e:eY (Fh G) c (bt sb xs.length)=Fh (eY G c (sb,xs))∧(av sb 1 dc xs::o4 (jh G c)).Perm (o4 (eY G c (sb,xs))):=by
  cases h:aq G c with
  |none=>
   rw[kS _ h,kS _ (show aq (Fh G) c=none by rw[lQ (fun x:SB×List Int=>bt x.1 x.2.length),h];rfl),zP h];refine⟨by simp[Fh],?_⟩;have:o4 (G++[(c,sb,xs)])=o4 G++[av sb 1 dc xs]:=by simp[o4]
   rw[this];exact(List.perm_append_singleton _ _).symm
  |some y=>
   have h1:aq G c≠none:=by rw[h];exact Option.some_ne_none _
   rw[wT _ h1,wT _ (show aq (Fh G) c≠none by rw[lQ (fun x:SB×List Int=>bt x.1 x.2.length),h];exact Option.some_ne_none _)];exact⟨(uZ (fun x:SB×List Int=>bt x.1 x.2.length) c (sb,xs) G).symm,KK (sb,xs) h1⟩
 rw[e.1];refine(aB.cons _ (aB.cons _ aB.unpack)).trans ?_;refine(aB.cons _ (aB.perm (e.2.append_right r))).trans ?_
 have hk:tK (eY G c (sb,xs)) (k+1):=fun e h=>by
  rcases Pq h with rfl|h
  · exact hx
  · exact Nat.le_succ_of_le (hG e h)
 refine(aB.pure hk).trans ?_;exact(aB.pack (l:=me (tK (eY G c (sb,xs)) (k+1))::It gm (eY G c (sb,xs))::o4 (eY G c (sb,xs)))).trans (aB.ex (f:=fun G:yo=>kJ (me (tK G (k+1))::It gm G::o4 G)) _)
theorem s6{ν:Type}[DecidableEq κ](D:List (κ×ν))(a b:κ)(v:ν):aq (eY D a v) b=if b=a then some v else aq D b:=by
 have key:∀(D:List (κ×ν)),aq (eY D a v) b=if b=a then some v else aq D b:=by
  intro D
  induction D with
  |nil=>
   by_cases h:b=a
   · subst h;simp[eY,aq]
   · have h2:¬a=b:=fun e=>h e.symm
     simp[eY,aq,h,h2]
  |cons p D ih=>
   by_cases hp:p.1=a
   · have h1:eY (p::D) a v=(a,v)::D:=by simp[eY,List.findIdx?_cons,hp]
     rw[h1];by_cases h:b=a
     · subst h;simp[aq]
     · have h2:¬a=b:=fun e=>h e.symm
       have h3:¬p.1=b:=fun e=>h2 (hp.symm.trans e);simp[aq,List.find?_cons,h,h2,h3]
   · have h1:eY (p::D) a v=p::eY D a v:=by
      simp only[eY,List.map_cons,List.findIdx?_cons,hp,decide_false,Bool.false_eq_true,if_false];cases hf:(D.map (·.1)).findIdx? (fun k=>decide (k=a)) with
      |none=>simp
      |some j=>simp
     rw[h1];by_cases h:p.1=b
     · have h2:¬b=a:=fun e=>hp (h.trans e)
       simp[aq,List.find?_cons,h,h2]
     · have e1:∀D':List (κ×ν),aq (p::D') b=aq D' b:=fun D'=>by simp[aq,List.find?_cons,h]
       rw[e1,e1,ih]
 exact key D
def nL(a:ej)(at_:Int)(c:Nat):ej:={a with taken:=gf a.taken at_,live:=a.live-c}
def fq(m:aT):Nat:=(max m.Table 0).toNat
abbrev lp(m:aT):Nat:=aY (8*m.an.length)
abbrev B3(m:aT):Nat:=aY (4*fq m)
abbrev RS(a:ej)(c:Nat):ej:=⟨a.bytes.take a.height++List.replicate c 0++a.bytes.drop (a.height+c),a.height+c,a.live+c,eY a.taken (a.height:Int) (c:Int)⟩
theorem sn{c:Nat}(h:dy X a)(hc:a.height+c≤X.size):dy X (RS a c):=by
 have hm:=h.most;have hh:=h.hi;have hlen:=h.len;have hlv:=h.live
 refine⟨?_,by simp only;omega,hm,by simp only;omega⟩;simp only[List.length_append,List.length_take,List.length_drop,List.length_replicate];omega
theorem Fi(h:dy X a)(hn:n≤4194304)(hc:a.height+aY n≤X.size):xL X.size a n=(RS a (aY n),a.height,0):=by
 unfold xL;rw[if_neg (by omega),if_neg (by omega)]
abbrev lW(a:ej)(m:aT):ej:=RS (RS a (lp m)) (B3 m)
theorem B4{t:List (Int×Int)}(h:a.taken=t):aB (wS X a::iM X.db a.bytes::jL X.tm (Value.int .i64) aU t::jL X.gm (Value.int .i64) (fun _:Unit=>qg) []::r) (eW X a++r):=by subst h;exact aB.refl _
abbrev lB(sb:Nat)(X:ox)(pb:Nat)(m:aT)(num g t:Int)(mv:VP):HP:=ax sb [bT (bf m),aD X.ab 0,aD pb 0,ag .i64 num,ag .i64 g,ag .i64 t,mv,ak False]
structure nM(m:aT):Prop where
 gl:m.an.length≤60000
 gv:∀z∈m.an,0≤z.Value∧z.Value<18446744073709551616∧(eP z.Ty=32∨eP z.Ty=64)
 tb:m.Table≤1000
 ms:∀z∈m.bz,0≤z.Min∧z.Min≤65536∧(z.Max<0∨z.Min≤z.Max∧z.Max≤65536)
 ml:m.bz.length≤60000
 ll:m.bw.length≤60000
 el:∀e∈m.bw,0≤e.At∧e.At<18446744073709551616∧e.aA.length≤1000∧∀f∈e.aA,0≤f∧f<281474976710656
 dl:m.bl.length≤60000
 da:∀d∈m.bl,gA d.Mem m.bz.length∧0≤d.At∧d.At<18446744073709551616∧d.Bytes.length≤5000
variable {m:aT}
theorem nM.r1(h:nM m):8*m.an.length≤lp m∧lp m≤8388608:=⟨wK (by have:=h.gl;omega),oy _⟩
theorem nM.r2(h:nM m):4*fq m≤B3 m∧B3 m≤8388608∧fq m≤1000:=by
 have h2:fq m≤1000:=by have:=h.tb;unfold fq;omega
 exact⟨wK (by omega),oy _,h2⟩
def Fj(m:aT)(i:Nat):gy:=(m.an[i]?).getD ⟨0,False,0⟩
variable {i:Nat}
theorem yD{z:gy}(h:m.an[i]?=some z):Fj m i=z:=by unfold Fj;rw[h];rfl
def pQ(t:UInt8)(v:Nat):Nat:=v%2^(eP t).toNat
theorem Dd{t:UInt8}(h:v<18446744073709551616):pQ t v<18446744073709551616:=Nat.lt_of_le_of_lt (Nat.mod_le _ _) h
def Iu(m:aT)(g:Nat)(a:ej):Nat→ej
 |0=>a
 |k+1=>(Iu m g a k).put (g+8*k) (xK (pQ (Fj m k).Ty (Fj m k).Value.toNat) 8)
theorem sq{X:ox}{m:aT}{g:Nat}{a:ej}(h:dy X a):∀k,g+8*k≤X.size→dy X (Iu m g a k)
 |0,_=>h
 |k+1,hk=>Is (sq h k (by omega)) (by omega)
structure ri(a b:ej):Prop where
 height:b.height=a.height
 live:b.live=a.live
 taken:b.taken=a.taken
theorem ri.refl(a:ej):ri a a:=⟨rfl,rfl,rfl⟩
theorem ri.trans{a b c:ej}(h:ri a b)(k:ri b c):ri a c:=⟨k.1.trans h.1,k.2.trans h.2,k.3.trans h.3⟩
theorem Fk{m:aT}{g:Nat}{a:ej}:∀k,ri a (Iu m g a k)
 |0=> .refl _
 |k+1=>(Fk k).trans ⟨rfl,rfl,rfl⟩
def iT(m:aT)(e:ez):Prop:=(fq m:Int)<e.At∨(fq m:Int)-e.At<(e.aA.length:Int)
def NW(t:Nat)(e:ez)(a:ej):Nat→ej
 |0=>a
 |k+1=>(NW t e a k).put (t+4*(e.At.toNat+k)) (xK (((e.aA[k]?).getD 0).toNat+1) 4)
open Classical in
noncomputable def KL(m:aT)(t:Nat)(e:ez)(a:ej):ej:=if iT m e then a else NW t e a e.aA.length
open Classical in
noncomputable def US(m:aT)(e:ez):Int:=if iT m e then 5 else 0
def De(m:aT)(i:Nat):ez:=(m.bw[i]?).getD ⟨0,[]⟩
theorem KM{z:ez}(h:m.bw[i]?=some z):De m i=z:=by unfold De;rw[h];rfl
noncomputable def uo(m:aT)(t:Nat)(a:ej):Nat→ej
 |0=>a
 |k+1=>KL m t (De m k) (uo m t a k)
variable {e:ez}
theorem Pr{t:Nat}(h:m.bw[k]?=some e):uo m t a (k+1)=KL m t e (uo m t a k):=by show KL m t (De m k) _=_;rw[KM h]
theorem wU{X:ox}{t:Nat}{e:ez}{a:ej}(h:dy X a):∀k,t+4*(e.At.toNat+k)≤X.size→dy X (NW t e a k)
 |0,_=>h
 |k+1,hk=>Is (wU h k (by omega)) (by omega)
theorem Fl{t:Nat}{e:ez}{a:ej}:∀k,ri a (NW t e a k)
 |0=> .refl _
 |k+1=>(Fl k).trans ⟨rfl,rfl,rfl⟩
theorem UT{t:Nat}(h:dy X a)(ht:t+4*fq m≤X.size)(h0:0≤e.At):dy X (KL m t e a)∧ri a (KL m t e a):=by
 unfold KL;by_cases hb:iT m e
 · rw[if_pos hb];exact⟨h, .refl _⟩
 · rw[if_neg hb]
   unfold iT at hb;exact⟨wU h _ (by omega),Fl _⟩
theorem yE{X:ox}{m:aT}{t:Nat}{a:ej}(h:dy X a)(hm:nM m)(ht:t+4*fq m≤X.size):∀k,dy X (uo m t a k)∧ri a (uo m t a k)
 |0=>⟨h, .refl _⟩
 | k+1=>by
  have ih:=yE (m:=m) (t:=t) h hm ht k
  have h0:0≤(De m k).At:=by
   unfold De;cases he:m.bw[k]? with
   |none=>exact Int.le_refl _
   |some e=>exact(hm.el e (List.mem_of_getElem? he)).1
  have h2:=UT (m:=m) (t:=t) ih.1 ht h0;exact⟨h2.1,ih.2.trans h2.2⟩
def nN(l:dR):Nat:=if l.Max<0 then 65536 else l.Max.toNat
abbrev Pt(l:dR)(n:Int):A1:=⟨n,l.Min.toNat,nN l,nN l,l.bO⟩
def Iv(m:aT)(i:Nat):dR:=(m.bz[i]?).getD ⟨0,0,False⟩
variable {z:dR}
theorem yF(h:m.bz[i]?=some z):Iv m i=z:=by unfold Iv;rw[h];rfl
def B5(m:aT)(num:Int)(k:Nat):List A1:=(List.range k).map fun i=>Pt (Iv m i) (num+(i:Int))
theorem oG(m:aT)(num:Int)(k:Nat):(B5 m num k).length=k:=by simp[B5]
variable {num:Int}
theorem Xm(h:m.bz[k]?=some z):B5 m num (k+1)=B5 m num k++[Pt z (num+(k:Int))]:=by
 unfold B5;rw[List.range_succ,List.map_append];simp[yF h]
theorem Iw(h:m.bz[i]?=some z)(hi:i<k):(B5 m num k)[i]?=some (Pt z (num+(i:Int))):=by
 unfold B5;rw[List.getElem?_map,List.getElem?_range hi];simp[yF h]
theorem KN(hm:nM m)(hz:z∈m.bz){n:Int}(hn:0≤n):O9 (Pt z n)∧z.Min=((z.Min.toNat:Nat):Int)∧z.Min.toNat≤nN z∧nN z≤65536:=by
 obtain⟨h1,h2,h3⟩:=hm.ms z hz;have h4:z.Min.toNat≤nN z∧nN z≤65536:=by unfold nN;split<;>omega
 exact⟨⟨hn,h4.1,Nat.le_refl _,h4.2⟩,by omega,h4.1,h4.2⟩
def vr(m:aT)(i:Nat):fV:=(m.bl[i]?).getD ⟨0,0,[]⟩
theorem Df{z:fV}(h:m.bl[i]?=some z):vr m i=z:=by unfold vr;rw[h];rfl
def xO(m:aT)(d:fV):Nat×Nat×Nat:=cz (Iv m d.Mem.toNat).Min.toNat d.At.toNat 0 (d.Bytes.length:Int)
def Xn(m:aT)(num:Int)(d:fV)(C:Cont):Cont:=if (xO m d).2=(0,0) then ym 64 C (num+(d.Mem.toNat:Int)) (d.At.toNat+0) d.Bytes else C
def sr(m:aT)(num:Int)(C:Cont):Nat→Cont
 |0=>C
 |k+1=>Xn m num (vr m k) (sr m num C k)
def AV(m:aT):Nat→Nat
 |0=>0
 |k+1=>AV m k+((vr m k).Bytes.length/64+2)
theorem zQ{m:aT}{k:Nat}:∀{n:Nat},k≤n→AV m k≤AV m n
 |0,h=>by rw[Nat.le_zero.1 h];exact Nat.le_refl _
 |n+1,h=>by
  by_cases e:k=n+1
  · rw[e];exact Nat.le_refl _
  · exact Nat.le_trans (zQ (show k≤n by omega)) (Nat.le_add_right _ _)
theorem Pu{m:aT}(hm:nM m):∀n,AV m n≤n*81
 |0=>Nat.le_refl _
 | n+1=>by
  have ih:=Pu hm n
  have h:(vr m n).Bytes.length≤5000:=by
   unfold vr;cases hd:m.bl[n]? with
   |none=>exact Nat.zero_le _
   |some d=>exact(hm.da d (List.mem_of_getElem? hd)).2.2.2
  show AV m n+((vr m n).Bytes.length/64+2)≤_
  omega
variable {d:fV}
theorem Xo(h:d.Bytes.length≤5000):(xO m d).2.2=0:=by
 unfold xO cz;rw[if_neg (by omega),if_neg (by omega)]
 split<;>rfl
theorem RT(h:US m e≠0):iT m e:=Classical.byContradiction fun hb=>h (if_neg hb)
theorem UU(h:¬US m e≠0):¬iT m e:=fun hb=>h (by have h2:US m e=5:=if_pos hb;omega)
theorem Ix{C:Cont}(h:m.bl[k]?=some d):sr m num C (k+1)=Xn m num d (sr m num C k):=by show Xn m num (vr m k) _=_;rw[Df h]
theorem TO(h:m.bl[k]?=some d):AV m (k+1)=AV m k+(d.Bytes.length/64+2):=by show AV m k+((vr m k).Bytes.length/64+2)=_;rw[Df h]
def kq(m:aT)(k:Nat):Prop:=∀j e,j<k→m.bw[j]?=some e→¬iT m e
theorem kq.nil:kq m 0:=fun _ _ h=>absurd h (Nat.not_lt_zero _)
theorem kq.next{z:ez}(h:kq m k)(hz:m.bw[k]?=some z)(hb:¬iT m z):kq m (k+1):=fun j e hj he=>by
 rcases Nat.lt_succ_iff_lt_or_eq.1 hj with hj|rfl
 · exact h j e hj he
 · rw[hz] at he;cases he;exact hb
def nO(m:aT)(k:Nat):Prop:=∀j d,j<k→m.bl[j]?=some d→(xO m d).2=(0,0)
theorem nO.nil:nO m 0:=fun _ _ h=>absurd h (Nat.not_lt_zero _)
theorem nO.next{z:fV}(h:nO m k)(hz:m.bl[k]?=some z)(hb:(xO m z).2=(0,0)):nO m (k+1):=fun j e hj he=>by
 rcases Nat.lt_succ_iff_lt_or_eq.1 hj with hj|rfl
 · exact h j e hj he
 · rw[hz] at he;cases he;exact hb
def od(m:aT)(r:Nat×Nat×Int):Prop:=
 (∃k e,m.bw[k]?=some e∧kq m k∧iT m e∧r=(k,0,5))∨(kq m m.bw.length∧∃k d,m.bl[k]?=some d∧nO m k∧(xO m d).2≠(0,0)∧r=(m.bw.length,k+1,((xO m d).2.1:Int)))∨
 (kq m m.bw.length∧nO m m.bl.length∧r=(m.bw.length,m.bl.length,0))
theorem od.el(h1:m.bw[k]?=some e)(h2:kq m k)(h3:iT m e):od m (k,0,5):= .inl ⟨k,e,h1,h2,h3,rfl⟩
theorem od.da(h1:m.bl[k]?=some d)(h2:kq m m.bw.length)(h3:nO m k)(h4:(xO m d).2≠(0,0)):od m (m.bw.length,k+1,((xO m d).2.1:Int)):= .inr (.inl ⟨h2,k,d,h1,h3,h4,rfl⟩)
theorem od.all(h2:kq m m.bw.length)(h3:nO m m.bl.length):od m (m.bw.length,m.bl.length,0):= .inr (.inr ⟨h2,h3,rfl⟩)
def eG(b:Nat):List VP:=[aD b 0]
instance:gZ 1 eG:=⟨fun _=>rfl,fun x q h=>by simp only[eG,List.mem_cons,List.not_mem_nil,or_false] at h;subst h;infer_instance⟩
def jR(pb:Nat)(bs:List Nat)(ms:List A1):List HP:=List.zipWith (fun b M=>dQ b pb M) bs ms
def jl(pb:Nat)(bs:List Nat)(ms:List A1):HP:=kJ (jR pb bs ms)
theorem zR{pb:Nat}{b:Nat}{M:A1}:∀{bs:List Nat} {ms:List A1} {j:Nat},bs[j]?=some b→ms[j]?=some M→jR pb bs ms=jR pb (bs.take j) (ms.take j)++dQ b pb M::jR pb (bs.drop (j+1)) (ms.drop (j+1))
 |[],_,_,h,_=>by simp at h
 |_::_,[],_,_,h=>by simp at h
 |c::bs,N::ms,0,h1,h2=>by simp at h1 h2;subst h1;subst h2;rfl
 |c::bs,N::ms,j+1,h1,h2=>by
  have ih:=zR (pb:=pb) (bs:=bs) (ms:=ms) (j:=j) (by simpa using h1) (by simpa using h2)
  show dQ c pb N::jR pb bs ms=dQ c pb N::(jR pb (bs.take j) (ms.take j)++_)
  rw[ih];rfl
variable {pb:Nat} {b:Nat} {M:A1} {bs:List Nat} {ms:List A1}
theorem zS{j:Nat}(h1:bs[j]?=some b)(h2:ms[j]?=some M):aB (jl pb bs ms::r) (dQ b pb M::kJ (jR pb (bs.take j) (ms.take j)++jR pb (bs.drop (j+1)) (ms.drop (j+1)))::r):=by
 refine(aB.unpack (l:=jR pb bs ms)).trans ?_;rw[zR h1 h2,List.append_assoc];refine(aB.perm ?_).trans (aB.cons _ (aB.pack (l:=jR pb (bs.take j) (ms.take j)++jR pb (bs.drop (j+1)) (ms.drop (j+1)))));rw[List.append_assoc,List.cons_append];exact List.perm_middle
theorem Dg{j:Nat}(h1:bs[j]?=some b)(h2:ms[j]?=some M):aB (dQ b pb M::kJ (jR pb (bs.take j) (ms.take j)++jR pb (bs.drop (j+1)) (ms.drop (j+1)))::r) (jl pb bs ms::r):=by
 refine aB.trans ?_ (aB.pack (l:=jR pb bs ms));rw[zR h1 h2,List.append_assoc];refine(aB.cons _ (aB.unpack (l:=jR pb (bs.take j) (ms.take j)++jR pb (bs.drop (j+1)) (ms.drop (j+1))))).trans (aB.perm ?_);rw[List.append_assoc,List.cons_append];exact List.perm_middle.symm
theorem Pv(h:bs.length=ms.length):aB (dQ b pb M::jl pb bs ms::r) (jl pb (bs++[b]) (ms++[M])::r):=by
 refine(aB.cons _ (aB.unpack (l:=jR pb bs ms))).trans (aB.trans (aB.perm ?_) (aB.pack (l:=jR pb (bs++[b]) (ms++[M]))));have e:jR pb (bs++[b]) (ms++[M])=jR pb bs ms++[dQ b pb M]:=by unfold jR;rw[List.zipWith_append h];rfl
 rw[e,List.append_assoc];exact(List.perm_middle).symm
theorem Pw:aB r (jl pb [] []::r):=aB.pack (l:=[])
end Go.Hl
end
section
namespace Go.Proofs.YtpfobikpggmleaaGreatDoor
open Go.Hl Go.RowKit
variable {n:Nat}
theorem Fm:cQ Tryz.prog 15 [aU (n:Int)] (aU (aY n:Int)):=by
 refine In 12 Tryz.func15 fun _ _ _=>?_;refine dN ?_;refine Cd (fun c0=>?_) fun c0=>?_
 ·
  refine Z7 ?_;refine bB ?_;exact af.int (by unfold aY;rw[if_pos (by omega)];rfl)
 refine Z9 ?_;refine .aS (σ:=Nat×Nat) (fun _=>[]) (fun s=>[(3,aU (s.1:Int))]) (fun s=>s.1*2^s.2=16*2^19∧16≤s.1∧rS s.2 s.1 n=aY n) (fun s=>s.2) (16,19) ⟨rfl,by decide,by unfold aY;rw[if_neg (by omega)]⟩ rfl ?_ ?_
 · exact(.get rfl (af.refl _) (.refl _ _))
 rintro⟨c,k⟩ ⟨hk,UW,hd⟩;simp only at hk UW hd ⊢;have hcm:c≤8388608:=by(have h2:0<2^k:=Nat.two_pow_pos k;have h3:c≤c*2^k:=Nat.le_mul_of_pos_right _ h2;omega)
 refine Z8 ?_;refine Cd (fun c1=>?_) fun c1=>?_
 ·
  refine Z9 ?_;refine .round (c*2,k-1) (by obtain⟨k,rfl⟩:∃j,k=j+1:=⟨k-1,by(cases k with|zero=>simp at hk;omega|succ k=>omega)⟩;simp only[Nat.add_sub_cancel];exact⟨by rw[←hk,Nat.pow_succ];simp only[Nat.mul_assoc,Nat.mul_comm,Nat.mul_left_comm],by omega,by(unfold rS at hd;rw[if_pos (by omega)] at hd;exact hd)⟩) (by cases k with|zero=>simp at hk;omega|succ k=>simp) rfl ?_;exact(.get rfl (af.int (by simp)) (.keep 7 rfl rfl))
 refine dN ?_;refine bB ?_;exact af.int (by rw[←hd,LK (by omega)])
variable {X:ox} {a:ej}
theorem Fo{c:Nat}(az:dy X a)(hp1:c≤8388608):cv Tryz.prog 89 [aD X.ab 0,aU (c:Int)] (eW X a) (γ:=ej×Nat×Bool) (fun g=>g=qq X.size a c) (fun g=>eW X g.1) (fun g=>bE [aU (g.2.1:Int),ak (g.2.2=true)]):=by
 refine In 58 Tryz.func89 fun _ _ _=>?_;have CD:=az.hi;have hk2:=az.most
 refine jb ?_;refine .p (wD (i:=3) Tryz.UG Tryz.underlying92 (fun w=>lN Tryz.Xa w) (.t rfl) (.t rfl) rfl) rfl ?_;refine Z6 ?_;refine .p (Ew rfl Tryz.underlying61 (.le (.t rfl) (aI 1 (fun n:Int=>[aU n])))) rfl ?_;refine Z3 ?_;refine Cd (fun c0=>?_) fun c0=>?_
 · simp at c0
 refine Z4 ?_;refine .br 11 1 FM.out (by kernel_rfl) (k:= ?_);refine Z5 ?_;refine .p (nD rfl Tryz.underlying59 (.t rfl)) ?_;refine Z9 ?_;refine Cd (fun c1=>?_) fun c1=>?_
 ·
  refine Z8 ?_;refine Post.bk rfl rfl ((a,0,false)) (by unfold qq;rw[if_pos (by omega)]) (fun _ _ _ h=>h) rfl (.cons (.rt rfl) ?_ (.cons (.rt rfl) ?_ .nil))
  · exact af.refl _
  exact af.prop (by simp)
 refine Z32 ?_;refine Post.bk rfl rfl (({a with height:=a.height+c},a.height,true)) (by unfold qq;rw[if_neg (by omega)]) (fun _ _ _ h=>h) rfl (.cons (.rt rfl) ?_ (.cons (.rt rfl) ?_ .nil))
 · exact af.refl _
 exact af.prop (by simp)
theorem uq(az:dy X a):cv Tryz.prog 41 [aD X.ab 0,aU (n:Int)] (eW X a) (γ:=ej×Nat×Nat) (fun g=>g=xL X.size a n) (fun g=>eW X g.1) (fun g=>bE [aU (g.2.1:Int),aU (g.2.2:Int)]):=by
 refine In 53 Tryz.func41 fun _ _ _=>?_;have CD:=az.hi;have hk2:=az.most;have Iy:=az.len;have Eh:=az.live;have RU:=oy n
 refine cc ?_;refine .p (cm FU.out (.t rfl)) rfl ?_;refine Z3 ?_;refine CT fun c0=>?_;refine cc ?_;refine Cd (fun c1=>?_) fun c1=>?_
 ·
  refine Z9 ?_;refine Post.bk rfl rfl ((a,0,1)) (by unfold xL;rw[if_pos (by omega)]) (fun _ _ _ h=>h) rfl (.cons (.rt rfl) ?_ (.cons (.rt rfl) ?_ .nil))
  · exact .z
  exact .z
 have hk6:¬4194304<n:=by omega
 refine Z6 ?_;refine .p (cA (h:=Fm)) rfl ?_;refine Z7 ?_;refine .n (cE (h:=Fo (by assumption) (by first|assumption|exact oy _))) rfl fun g24 Hy=>?_;refine jb ?_;refine Cd (fun c2=>?_) fun c2=>?_
 ·
  obtain⟨e24,UX⟩:=LL (by rw[←Hy];exact c2);rw[e24] at Hy;subst Hy;dsimp only
  refine Z8 ?_;refine Post.bk rfl rfl ((a,0,8)) (by unfold xL;rw[if_neg hk6,if_pos UX]) (fun _ _ _ h=>h) rfl (.cons (.rt rfl) ?_ (.cons (.rt rfl) ?_ .nil))
  · exact .z
  exact .z
 obtain⟨e24,UX⟩:=HW (by rw[←Hy];exact Classical.not_not.1 c2);rw[e24] at Hy;subst Hy;dsimp only
 refine dN ?_;refine .p ((tW (l:=a.height) (h:=a.height+aY n) FU.out FC.out (.t rfl) (.t rfl) (.t rfl) rfl rfl (by omega) (by omega)).le (af.of_eq (show jM _ _ _=jM X.db a.height (aY n) by rw[Nat.zero_add,Nat.add_sub_cancel_left]))) rfl ?_;refine .s (HR (i:=1) rfl Tryz.underlying59 FC.out FZ.out (.t rfl) rfl (by dsimp only;omega)) ?_;refine cD ?_;refine .s (EJ (i:=2) _ Tryz.UE Tryz.underlying91 (.t rfl) (.t rfl) (.t rfl) rfl) ?_;refine Z9 ?_;refine .p (eU (.t rfl) (.t rfl) (cn (by dsimp only;omega) (by dsimp only;omega))) rfl ?_;refine jP ?_;refine Post.bk rfl rfl (({bytes:=a.bytes.take a.height++List.replicate (aY n) 0++a.bytes.drop (a.height+aY n),height:=a.height+aY n,live:=a.live+aY n,taken:=eY a.taken (a.height:Int) (aY n:Int)},a.height,0)) (by unfold xL;rw[if_neg hk6,if_neg UX]) (fun _ _ _ h=>h) rfl (.cons (.rt rfl) ?_ (.cons (.rt rfl) ?_ .nil))
 · exact .z
 exact .z
theorem apart_spec{at_:Nat}(az:dy X a)(hp1:at_+n≤X.size):cv Tryz.prog 116 [aD X.ab 0,aU (at_:Int),aU (n:Int)] (eW X a) (γ:=Unit) (fun _=>True) (fun _=>eW X a) (fun _=>bE [jM X.db at_ n,aU 0]):=by
 refine In 47 Tryz.func116 fun _ _ _=>?_;have hk2:=az.most;refine cc ?_;refine .p (cm FU.out (.t rfl)) rfl ?_;refine Z3 ?_;refine CT fun c0=>?_;refine jb ?_;refine .g (bU.gF rfl rfl rfl rfl (fun hg=>nD rfl Tryz.underlying59 (.when (.t rfl) hg))) rfl rfl ?_;refine Z8 ?_;refine .g (bU.gF rfl rfl rfl rfl (fun hg=>nD rfl Tryz.underlying59 (.when (.t rfl) hg))) rfl rfl ?_;refine Z7 ?_;refine CT fun c1=>?_;refine jP ?_;refine .p ((tW (l:=at_) (h:=at_+n) FU.out FC.out (.t rfl) (.t rfl) (.t rfl) rfl rfl (by omega) (by omega)).le (af.of_eq (show jM _ _ _=jM X.db at_ n by rw[Nat.zero_add,Nat.add_sub_cancel_left]))) rfl ?_;refine Z5 ?_;refine j4 ?_ ?_
 · exact .z
 exact .z
end Go.Proofs.YtpfobikpggmleaaGreatDoor
end
section
namespace Go.Proofs.YtpfobikpggmleaaGreatDoor
open Go.Hl
def yG(p:List UInt8×Int):List VP:=[cZ p.1,mM Tryz.prog (fun _:Unit=>True) (fun _=>[]) (fun _=>ag .i64 p.2)]
instance:gZ 2 yG:=⟨fun _=>rfl,fun x q h=>by simp only[yG,List.mem_cons,List.not_mem_nil,or_false] at h;rcases h with h|h<;>rw[h]<;>infer_instance⟩
instance (x:List UInt8×Int):bH (yG x):=bH.of x
noncomputable def mR(m:aT):List (List UInt8×Int):=[([115,105,103,115],BU m),([105,109,112,111,114,116,115],pM m),([102,117,110,99,115],lg m),([116,97,98,108,101],nI m),([109,101,109,115],BV m),([103,108,111,98,97,108,115],pN m),([101,120,112,111,114,116,115],nK m),([115,116,97,114,116],jN m),([101,108,101,109,115],wN m),([100,97,116,97],wO m)]
noncomputable def ur(m:aT):List UInt8×Int:=((mR m).find? fun p=>p.2 !=0).getD ([],0)
variable {m:aT}
theorem Px{k:Nat}{p:List UInt8×Int}(h:cT (fun p:List UInt8×Int=>p.2≠0) (mR m) k)(hp:(mR m)[k]?=some p)(hn:p.2≠0):ur m=p:=by
 unfold ur
 have key:∀(l:List (List UInt8×Int)) (k:Nat),cT (fun p:List UInt8×Int=>p.2≠0) l k→l[k]?=some p→l.find? (fun p=>p.2 !=0)=some p:=by
  intro l
  induction l with
  |nil=>intro k _ h;simp at h
  | cons x l ih=>
   intro k h hk;cases k with
   |zero=>simp at hk;subst hk;simp[hn]
   |succ k=>
    have h0:=h 0 x (by omega) rfl;simp only[ne_eq,Classical.not_not] at h0;rw[List.find?_cons_of_neg (by simp[h0])];exact ih k (fun j y hj hy=>h (j+1) y (by omega) (by simpa using hy)) (by simpa using hk)
 rw[key _ k h hp];rfl
theorem zT(h:∀p∈mR m,¬p.2≠0):ur m=([],0):=by
 unfold ur;rw[List.find?_eq_none.2 (fun p hp=>by have:=h p hp;simpa using this)];rfl
theorem Py:(ur m).2=0↔∀p∈mR m,p.2=0:=by
 constructor
 · intro h p hp
   unfold ur at h;cases hf:(mR m).find? (fun p=>p.2 !=0) with
   |none=>have:=List.find?_eq_none.1 hf p hp;simpa using this
   |some x=>rw[hf] at h;have:=List.find?_some hf;simp at this h;exact absurd h this
 · intro h;rw[zT (fun p hp=>by simpa using h p hp)]
theorem wV:(mR m).length=10:=rfl
end Go.Proofs.YtpfobikpggmleaaGreatDoor
end
