/-
  Parts of the proof.
-/
import Derived.Test.YtppekopemdoclaaGreatDoorRAJ
import Derived.Laws.IdiomRangeMap
import Derived.RangeFuncIn
import Derived.RangeFuncRecord
import Derived.RangeFuncLeaves
set_option linter.all false
set_option maxRecDepth 1000000
set_option maxHeartbeats 4000000
section
namespace Go.Hl
open Go.RowKit
def yM(f:FuncId)(ps:List VP):VP:=⟨λS w v=>∃lb:List Value,v= .func (.func f) #[] lb.toArray/\hU ps S w lb,λh1 h2 ⟨lb,hv,h⟩=>⟨lb,hv,h.mono h1 h2⟩⟩
instance (f:FuncId) (ps:List VP):Flat (yM f ps):=⟨λ⟨_,h,_⟩=>by subst h;exact⟨rfl,rfl⟩⟩
structure AB where
 fn:FuncId
 tmps:Array Value
 ps:Array Tmp
 assign:Code
 body:Code
def AB.loop(r:AB)(D:Nat)(st:LoopState):Loop:={state:=st,pending:=none,fn:=r.fn,tmps:=r.tmps,params:=r.ps,assign:=r.assign,body:=r.body,defers:=D}
def nw(l D:Nat)(st:LoopState)(r:AB)(e:Env):HP:=
 ⟨λF S w=>(F l/\F D/\l≠D)/\w.heap[l]?=some (.loop (r.loop D st))/\w.heap[D]?=some (.deferred (some []))/\dI e S w r.tmps,
  λh1 h2 h3 h4 ⟨⟨a,b,c⟩,h,k,he⟩=>⟨⟨h1 _ a,h1 _ b,c⟩,(h3 _ a).trans h,(h3 _ b).trans k,he.mono h2 h4⟩⟩
def MH(D:Nat):HP:=⟨λF S w=>F D/\w.heap[D]?=some (.deferred (some [])),λh1 h2 h3 h4 ⟨a,h⟩=>⟨h1 _ a,(h3 _ a).trans h⟩⟩
abbrev yV(l:Nat):VP:=ag (.func (.yield l) #[] #[])
theorem j6.over{c:Ctx}{w w':World}{S F F1 F2 S' F1':BS}{hs' rest:List HP}(aI:j6 c w S F)(oU:∀k,F1 k->F k/\¬F2 k)(v7:∀k,F2 k->F k)(JP:dR rest F2 S w){nn:Nat}{ρ:Option Nat}{df:List Deferred}(h2:j6 ⟨w,S,F1,nn,ρ,df⟩ w' S' F1')(oy:dR hs' F1' S' w'):
    j6 c w' S' (λk=>F1' k\/F2 k)/\(∀k,S k->S' k)/\(∀k,S k->w'.heap[k]?=w.heap[k]?)/\dR (hs'++rest) (λk=>F1' k\/F2 k) S' w':=by
  have hSF:∀k,S k->¬F1 k:=λk hk hf=>aI.eg k hk (oU k hf).1;have hoS:∀k,S k->w'.heap[k]?=w.heap[k]?:=λk hk=>h2.kept k (aI.bZ k hk) (hSF k hk);have ho2F:∀k,F2 k->¬F1 k:=λk hk hf=>(oU k hf).2 hk;refine⟨⟨h2.os.trans aI.os,h2.tape.trans aI.tape,h2.output.trans aI.output,Nat.le_trans aI.size h2.size,λk hk hm=>?_,λk hk hf=>?_,h2.bZ,λk hk=>?_,λk hk=>?_,λk hk=>?_,λk hk=>h2.base k (aI.base k hk)⟩,h2.base,hoS,?_⟩
  · have hnF:¬F1 k:=λhf=>(aI.own k (oU k hf).1).elim hm (λh=>by omega)
    exact(h2.kept k (Nat.lt_of_lt_of_le hk aI.size) hnF).trans (aI.kept k hk hm)
  · rcases hf with hf|hf
    · exact h2.eg k hk hf
    · rcases h2.shr k hk with h|h|h
      · exact aI.eg k h (v7 k hf)
      · exact(oU k h).2 hf
      · exact Nat.lt_irrefl _ (Nat.lt_of_lt_of_le (aI.cK k (v7 k hf)) h)
  · rcases hk with hk|hk
    · exact h2.cK k hk
    · exact Nat.lt_of_lt_of_le (aI.cK k (v7 k hk)) h2.size
  · rcases hk with hk|hk
    · rcases h2.own k hk with h|h
      · exact aI.own k (oU k h).1
      · exact .inr (Nat.le_trans aI.size h)
    · exact aI.own k (v7 k hk)
  · rcases h2.shr k hk with h|h|h
    · exact aI.shr k h
    · exact .inr (aI.own k (oU k h).1)
    · exact .inr (.inr (Nat.le_trans aI.size h))
  · refine dR.append.2 ⟨F1',F2,λk hk=>⟨.inl hk,λhf=>?_⟩,λk hk=> .inr hk,oy,JP.mono (λ_ h=>h) h2.base (λk hk=>h2.kept k (aI.cK k (v7 k hk)) (ho2F k hk)) hoS⟩
    rcases h2.own k hk with h|h
    · exact(oU k h).2 hf
    · exact Nat.lt_irrefl _ (Nat.lt_of_lt_of_le (aI.cK k (v7 k hf)) h)
def ae6(c:Ctx)(hs':List HP):Ending->World->Prop:=λe w'=>e= .returned (.bool true)/\∃S' F',j6 ⟨c.w0,c.S0,c.M,0,none,[]⟩ w' S' F'/\dR hs' F' S' w'
def Rv(P:Program)(l:Nat)(ps:List VP)(hs hs':List HP):Prop:=
 ∀(w:World) (S F:BS) (vs:List Value),(∀k,S k->k<w.heap.size)->(∀k,F k->k<w.heap.size)->(∀k,S k->¬F k)->dR hs F S w->hU ps S w vs->
  ∃(fn:FuncId) (tmps:Array Value) (assign body:Code),(Instr.yield l vs.toArray).run P w= .ok (.round l fn tmps assign body) w/\RoundIn (WF none) 0 P l fn tmps assign body w (ae6 ⟨w,S,F,0,none,[]⟩ hs')
section
variable {P:Program} {ops:Array Oper} {Q:Exit->Act->World->Prop} {c:Ctx} {hs:List HP} {env:Env} {q:VP} {dst:Option Tmp} {ty T T':TypeId} {pos:String} {after:Array Edge} {gd:Option (Nat×Bool)} {x y z:Operand}
theorem qY{f:FuncId}{cs:List VP}{ys:List Operand}(h2:kU env ys cs):bw P hs env ⟨dst, .makeFunc (.func f) #[] ys.toArray,ty,pos,after,gd⟩ (yM f cs):=by
 intro a w S F _ _ _ _ he K Q hk;unfold Oper.wp;exact hk _ w S (gq.refl _ _) ⟨_,by simp,h2 S w a he⟩
theorem cv.yld{lst:List Oper}{l d:Nat}{ys:List Operand}{ats:Array TypeId}{ps:List VP}{hs0 l6 rest:List HP}(hY:Rv P l ps hs0 l6)(hx:bA env x (yV l))(hys:kU env ys ps)(hp:hs.Perm (hs0++rest))(hd:Nat.blt d c.n=true)
    (k:cv P ops Q c lst (l6++rest) ((d,av True)::env)):cv P ops Q c (⟨some d, .call ⟨.value x,ys.toArray,ats⟩,ty,pos,after,none⟩::lst) hs env:=by
  intro a w hst;obtain⟨h1,h2,S,F,h3,h4,h5⟩:=hst;obtain⟨F1,F2,oU,v7,Dc,JP⟩:=dR.append.1 (h4.perm hp);have N0:∀k,F1 k->k<w.heap.size:=λk hk=>h3.cK k (oU k hk).1;have hSF:∀k,S k->¬F1 k:=λk hk hf=>h3.eg k hk (oU k hf).1;obtain⟨fn,tmps,assign,body,hyl,hrd⟩:=hY w S F1 _ h3.bZ N0 hSF Dc (hys S w a h5);have hv:=hx S w a h5;simp only[ag] at hv
  refine wpListIn_plain rfl λK hK=>⟨λ_ _=>trivial,?_⟩;rw[Oper.semAt_eq _ _ _ (λ_ e=>by cases e)]
  have hr:(execOp a.eval ⟨some d, .call ⟨.value x,ys.toArray,ats⟩,ty,pos,after,none⟩).run P w= .ok (.round l fn tmps assign body) w:=by
    simp[execOp,resolve,Deferred.ofValue,invoke,hv] at hyl ⊢;exact hyl
  rw[hr];refine⟨λh=>(by cases h),RoundIn.mono (F:=WF c.ro) hrd ?_⟩;rintro e w' ⟨rfl,S',F1',hs',ho'⟩;obtain⟨k1,k2,k3,k4⟩:=h3.over oU v7 JP hs' ho';refine hK _ _ (k _ _ ⟨?_,?_,S',_,k1,k4,?_⟩)
  · rw[Act.ek];exact h1
  · rw[Act.iw];exact h2
  · exact(h5.mono k2 k3).put ⟨true,rfl,by simp⟩ (by rw[h2];simpa using hd)
def XY(P:Program)(l:Nat)(c:Ctx)(hs':List HP):Exit->Act->World->Prop:=roundPost P l (ae6 c hs')
def XZ(P:Program)(l:Nat)(c:Ctx)(hs':List HP)(body:Code):Exit->Act->World->Prop:=Exit.then (λa w=>∃w₂,(Instr.beginRound l).run P w= .ok () w₂/\body.wpIn (WF (some l)) 0 P (XY P l c hs') a w₂) (λ_ _ _=>False)
theorem j6.X0{c:Ctx}{w:World}{S F:BS}{h0 h1:HP}(aI:j6 c w S F)(hown:dR (h0::hs) F S w){m:Nat}{o:Obj}(hF:∀F1,h0.p F1 S w->F1 m)(hp:∀F1,(∀k,S k->(w.putObj m o).heap[k]?=w.heap[k]?)->h0.p F1 S w->h1.p F1 S (w.putObj m o)):j6 c (w.putObj m o) S F/\dR (h1::hs) F S (w.putObj m o)/\(∀k,S k->(w.putObj m o).heap[k]?=w.heap[k]?):=by
 obtain⟨F1,F2,f1,f2,f3,f4⟩:=hown;have hFm:=hF F1 f3;have hne:∀k,k≠m->(w.putObj m o).heap[k]?=w.heap[k]?:=λk hk=>World.putObj_heap_other hk;have hag:∀k,S k->(w.putObj m o).heap[k]?=w.heap[k]?:=λk hk=>hne k (λe=>aI.eg k hk (e▸(f1 m hFm).1));exact⟨aI.write (f1 m hFm).1 rfl rfl rfl World.putObj_size hne,⟨F1,F2,f1,f2,hp F1 hag f3,f4.mono (λ_ h=>h) (λ_ h=>h) (λk hk=>hne k (λe=>(f1 m hFm).2 (e▸hk))) hag⟩,hag⟩
theorem nw.Rd{l D:Nat}{st st':LoopState}{r:AB}{e0:Env}{F1 S:BS}{w:World}(hag:∀k,S k->(w.putObj l (.loop (r.loop D st'))).heap[k]?=w.heap[k]?)(h:(nw l D st r e0).p F1 S w):(nw l D st' r e0).p F1 S (w.putObj l (.loop (r.loop D st'))):=by
 obtain⟨⟨a,b,c⟩,h,k,he⟩:=h;exact⟨⟨a,b,c⟩,World.putObj_heap_same (Array.getElem?_eq_some_iff.1 h).1,(World.putObj_heap_other (λe=>c e.symm)).trans k,he.mono (λ_ h=>h) hag⟩
theorem bS.begin{l D:Nat}{r:AB}{e0:Env}{hs':List HP}{body:Code}{c':Ctx}(h:aU P (XY P l c' hs') c body (nw l D .busy r e0::hs) env)(hro:c.ro=some l:=by rfl):bS (XZ P l c' hs' body) .normal c (nw l D .ready r e0::hs) env:=by
 intro a w hst;obtain⟨h1,h2,S,F,h3,h4,h5⟩:=hst;obtain⟨F1,F2,f1,f2,f3,f4⟩:=id h4;have hl:=f3.2.1;obtain⟨k1,k2,k3⟩:=h3.X0 (h1:=nw l D .busy r e0) (m:=l) (o:= .loop (r.loop D .busy)) h4 (λF1 h=>h.1.1) (λF1 hag h=>nw.Rd hag h);refine⟨_,run_beginRound hl rfl,?_⟩;have:=h a _ ⟨h1,h2,S,F,k1,k2,h5.mono (λ_ h=>h) k3⟩;rw[hro] at this;exact this
theorem bS.endRound{l D:Nat}{r:AB}{e0:Env}{hs':List HP}{c':Ctx}(hc:c'.w0=c.w0/\c'.S0=c.S0/\c'.M=c.M:=by exact⟨rfl,rfl,rfl⟩):bS (XY P l c' (nw l D .ready r e0::hs')) .normal c (nw l D .busy r e0::hs') env:=by
 intro a w hst;obtain⟨h1,h2,S,F,h3,h4,h5⟩:=hst;obtain⟨F1,F2,f1,f2,f3,f4⟩:=id h4;have hl:=f3.2.1;obtain⟨k1,k2,k3⟩:=h3.X0 (h1:=nw l D .ready r e0) (m:=l) (o:= .loop (r.loop D .ready)) h4 (λF1 h=>h.1.1) (λF1 hag h=>nw.Rd hag h);refine⟨_,_,run_endRound none hl,rfl,S,F,?_,k2⟩;obtain⟨e1,e2,e3⟩:=hc;rw[e1,e2,e3];exact⟨k1.os,k1.tape,k1.output,k1.size,k1.kept,k1.eg,k1.bZ,k1.cK,k1.own,k1.shr,k1.base⟩
def argsAt:List Tmp->List VP->Env
 |t::ts,p::ps=>(t,p)::argsAt ts ps
 |_,_=>[]
theorem Dm{S:BS}{w:World}{env:Env}:∀(ts:List Tmp) (ps:List VP) (vs:List Value) (tmps:Array Value),ts.length=ps.length->hU ps S w vs->dI env S w tmps->(∀t∈ts,t<tmps.size)->ts.Nodup->
    dI (argsAt ts ps++env) S w ((ts.zip vs).foldl (λtmps (p:Tmp×Value)=>tmps.setIfInBounds p.1 p.2) tmps)
  | [],ps,vs,tmps,hl,hv,he,_,_=>by
    cases ps with
    |nil=>cases vs<;>exact he
    |cons p ps=>simp at hl
  | t ::ts,ps,vs,tmps,hl,hv,he,ht,hn=>by
    cases ps with
    |nil=>simp at hl
    | cons p ps =>
      cases vs with
      |nil=>have:=hv.1;simp at this
      | cons v vs=>
        rw[List.nodup_cons] at hn;have h0:p.p S w v:=hv.2 0 p v rfl rfl;have uH:hU ps S w vs:=⟨by have:=hv.1;simpa using this,λj q u hq hu=>hv.2 (j+1) q u (by simpa using hq) (by simpa using hu)⟩;have he':dI ((t,p)::env) S w (tmps.setIfInBounds t v):=dI.put (a:={tmps:=tmps,defers:=[]}) he h0 (ht t (List.mem_cons_self ..));have ih:=Dm ts ps vs (tmps.setIfInBounds t v) (by simpa using hl) uH he' (λu hu=>by simp;exact ht u (List.mem_cons_of_mem _ hu)) hn.2;intro u q hq;refine ih u q ?_
        have key:∀(ts:List Tmp) (ps:List VP),t∉ts->look ((t,p)::(argsAt ts ps++env)) u=some q->look (argsAt ts ps++(t,p)::env) u=some q:=by
          intro ts
          induction ts with
          |nil=>intro ps _ h;cases ps<;>exact h
          | cons s ts ih2=>
            intro ps hs h;cases ps with
            |nil=>exact h
            | cons p2 ps=>
              simp only[argsAt,List.cons_append,bX] at h ⊢;by_cases e:s=u
              · rw[if_pos e] at h ⊢
                rw[if_neg (λe2:t=u=>hs (by rw[e2,<-e];exact List.mem_cons_self ..))] at h;exact h
              · rw[if_neg e] at h ⊢
                exact ih2 ps (λhm=>hs (List.mem_cons_of_mem _ hm)) (by rw[bX];exact h)
        exact key ts ps hn.1 hq
theorem Ek{l D:Nat}{r:AB}{e0:Env}{n:Nat}{arg:List VP}{hs hs':List HP}(hlen:r.ps.toList.length=arg.length)(hsz:r.tmps.size=n)(hlt:∀t∈r.ps.toList,t<n)(hnd:r.ps.toList.Nodup)
    (hround:∀(w0:World) (S0 M:BS),aU P (XZ P l ⟨w0,S0,M,n,some l,[]⟩ (nw l D .ready r e0::hs') r.body) ⟨w0,S0,M,n,some l,[]⟩ r.assign (nw l D .ready r e0::hs) (argsAt r.ps.toList arg++e0)):Rv P l arg (nw l D .ready r e0::hs) (nw l D .ready r e0::hs'):=by
  intro w S F vs hS hF hSF hown hall;obtain⟨F1,F2,f1,f2,f3,f4⟩:=id hown;have hl:=f3.2.1;have hvl:vs.length=r.ps.size:=by rw[<-hall.1,<-hlen];simp
  refine⟨r.fn,_,r.assign,r.body,run_yield hl (by simpa[AB.loop] using hvl),?_⟩;refine roundIn_of_wpIn (F:=WF none) trivial ?_;refine hround w S F {tmps:=_,defers:=[]} w ⟨rfl,?_,S,F,⟨rfl,rfl,rfl,Nat.le_refl _,λ_ _ _=>rfl,hSF,hS,hF,λk hk=> .inl hk,λk hk=> .inl hk,λ_ hk=>hk⟩,hown,?_⟩
  · have Qx:∀(l:List (Tmp×Value)) (tmps:Array Value),(l.foldl (λtmps (p:Tmp×Value)=>tmps.setIfInBounds p.1 p.2) tmps).size=tmps.size:=by
      intro l
      induction l with
      |nil=>intro _;rfl
      |cons p l ih=>intro tmps;rw[List.foldl_cons,ih];simp
    show((r.ps.zip vs.toArray).foldl (λtmps (p:Tmp×Value)=>tmps.setIfInBounds p.1 p.2) r.tmps).size=n
    rw[<-Array.foldl_toList];exact(Qx _ _).trans hsz
  · have:=Dm (env:=e0) r.ps.toList arg vs r.tmps hlen hall f3.2.2.2 (λt ht=>by rw[hsz];exact hlt t ht) hnd
    show dI _ S w ((r.ps.zip vs.toArray).foldl (λtmps (p:Tmp×Value)=>tmps.setIfInBounds p.1 p.2) r.tmps)
    rw[<-Array.foldl_toList];have e:(r.ps.zip vs.toArray).toList=r.ps.toList.zip vs:=by simp
    rw[e];exact this
end
def AD(P:Program)(fn:Func)(c:Ctx){γ:Type}(φ:γ->Prop)(hs':γ->List HP)(q:γ->VP):Exit->Act->World->Prop:=
 bodyPostM (WF none) 0 P fn λe w'=>∃v S' F' g,e= .returned v/\j6 ⟨c.w0,c.S0,c.M,0,none,[]⟩ w' S' F'/\φ g/\dR (hs' g) F' S' w'/\(q g).p S' w' v
theorem bu.X1{P:Program}{f:FuncId}{fn:Func}{x:Code}{ps:List VP}{hs:List HP}{γ:Type}{φ:γ->Prop}{hs':γ->List HP}{q:γ->VP}
    (n:Nat) (hf:P.funcs[f]?=some fn) (hb:fn.body=some x) (hnt:fn.ntmps=n) (hn:Nat.ble ps.length n=true)
    (h:∀(w0:World) (S0 M:BS),aU P (AD P fn ⟨w0,S0,M,n,none,[]⟩ φ hs' q) ⟨w0,S0,M,n,none,[]⟩ x hs (args ps)):bu P f ps hs φ hs' q:=by
  intro w S F vs hS hF hSF hown hall;have hlen:ps.length=vs.size:=by simpa using hall.1
  have hn':ps.length<=n:=by simpa using hn
  refine callsIn_wide.1 (callsIn_of_wp_marks (F:=WF none) (n:=0) hf hb trivial (h w S F _ _ ⟨rfl,?_,S,F,?_,hown,?_⟩))
  · simp;omega
  · exact⟨rfl,rfl,rfl,Nat.le_refl _,λ_ _ _=>rfl,hSF,hS,hF,λk hk=> .inl hk,λk hk=> .inl hk,λ_ hk=>hk⟩
  · intro t q' hl
    obtain⟨j,hj,hq⟩:=nX ps 0 t q' hl;have xO:t=j:=by omega
    subst xO;have hjl:t<ps.length:=(List.getElem?_eq_some_iff.1 hq).1;have Mi:t<vs.size:=by omega
    have:(vs++Array.replicate (fn.ntmps-vs.size) undef).getD t undef=vs[t]:=by simp[Array.getElem?_append,Mi]
    rw[this];exact hall.2 t q' _ hq (by simp[Mi])
section
variable {P:Program} {Q:Exit->Act->World->Prop} {c:Ctx} {hs:List HP} {env:Env}
abbrev yN(D:Nat):List Deferred:=[{target:= .collected D,args:= #[]}]
theorem AD.leave{fn:Func}{c0:Ctx}{γ:Type}{φ:γ->Prop}{hs':γ->List HP}{q:γ->VP}{D:Nat}(hdf:c.df=yN D)(hc:c0.w0=c.w0/\c0.S0=c.S0/\c0.M=c.M)(g:γ)(hφ:φ g)(hh:∀F S w,dR hs F S w->dR (hs' g) F S w)
    (hres:∀F S w (tmps:Array Value),dR hs F S w->dI env S w tmps->∃v,(results fn tmps).run P w= .ok v w/\(q g).p S w v):bS (AD P fn c0 φ hs' q) .ret c (MH D::hs) env:=by
  intro a w hst;obtain⟨h1,h2,S,F,h3,h4,h5⟩:=hst;obtain⟨F1,F2,f1,f2,f3,f4⟩:=id h4;obtain⟨hFD,hD⟩:=f3;have hne:∀k,k≠D->(w.putObj D (.deferred none)).heap[k]?=w.heap[k]?:=λk hk=>World.putObj_heap_other hk;have hag:∀k,S k->(w.putObj D (.deferred none)).heap[k]?=w.heap[k]?:=λk hk=>hne k (λe=>h3.eg k hk (e▸(f1 D hFD).1));have k1:j6 c (w.putObj D (.deferred none)) S F:=h3.write (f1 D hFD).1 rfl rfl rfl World.putObj_size hne;have k2:dR hs F S (w.putObj D (.deferred none)):=f4.mono f2 (λ_ h=>h) (λk hk=>hne k (λe=>(f1 D hFD).2 (e▸hk))) hag;obtain⟨v,hv,hq⟩:=hres _ _ _ a.tmps k2 (h5.mono (λ_ h=>h) hag);obtain⟨e1,e2,e3⟩:=hc
  show LeavesInM (WF none) 0 P fn a.tmps _ a.defers .returning w
  rw[h1,hdf];refine⟨λe=>(by cases e), .inl ⟨D,_,rfl,run_takeDeferred hD,v,hv,v,S,F,g,rfl,?_,hφ,hh _ _ _ k2,hq⟩⟩;rw[e1,e2,e3];exact⟨k1.os,k1.tape,k1.output,k1.size,k1.kept,k1.eg,k1.bZ,k1.cK,k1.own,k1.shr,k1.base⟩
theorem AD.aS{fn:Func}{c0:Ctx}{γ:Type}{φ:γ->Prop}{hs':γ->List HP}{q:γ->VP}{r:ResultVar}{q0:VP}{D:Nat}(hr:fn.results= #[r])(g:γ)(hφ:φ g)(hh:∀F S w,dR hs F S w->dR (hs' g) F S w)(h:WA P hs env r q0)(hq:aa q0 (q g))
    (hdf:c.df=yN D:=by rfl) (hc:c0.w0=c.w0/\c0.S0=c.S0/\c0.M=c.M:=by exact⟨rfl,rfl,rfl⟩):bS (AD P fn c0 φ hs' q) .ret c (MH D::hs) env:=
  AD.leave hdf hc g hφ hh λF S w tmps ho he=>by
    obtain⟨vs,e1,e2⟩:=sF (P:=P) hr (Ad.cons h hq Ad.nil) ho he
    match vs,e2 with
    |[v],e2=>exact⟨v,e1,e2.2 0 _ v rfl rfl⟩
theorem aU.X2{g:Operand}{ps:Array Tmp}{assign body:Code}{f:FuncId}{psb:List VP}{qi:VP}(N:Nat)(J:Nat->List HP)(arg:Nat->List VP)(hro:c.ro=none)(hdf:c.df=[])(hh:hs=J 0)
    (hcb:j7 P f=true) (hg:bA env g (yM f psb)) (hps:(ps.toList.all λt=>Nat.blt t c.n)=true) (hnd:ps.toList.Nodup) (hlen:∀j,j<N->(arg j).length=ps.toList.length)
    (hit:∀(l D:Nat) (r:AB),(∀j,j<N->Rv P l (arg j) (nw l D .ready r env::J j) (nw l D .ready r env::J (j+1)))->bu P f (yV l::psb) (nw l D .ready r env::J 0) (γ:=Unit) (λ_=>True) (λ_=>nw l D .ready r env::J N) (λ_=>qi))
    (hround:∀(l D:Nat) (fn:FuncId) (tmps:Array Value) (j:Nat),j<N->∀(w0:World) (S0 M:BS),aU P (XZ P l ⟨w0,S0,M,c.n,some l,[]⟩ (nw l D .ready ⟨fn,tmps,ps,assign,body⟩ env::J (j+1)) body) ⟨w0,S0,M,c.n,some l,[]⟩ assign (nw l D .ready ⟨fn,tmps,ps,assign,body⟩ env::J j) (argsAt ps.toList (arg j)++env))
    (hend:∀D,bS Q .normal {c with df:=yN D} (MH D::J N) env):aU P Q c (.rangeFunc g ps assign body) hs env:=by
  intro a w hst;obtain⟨h1,h2,S,F,h3,h4,h5⟩:=hst;subst hh;obtain⟨lb,hv,hlb⟩:=hg S w a h5;rw[show WF c.ro=WF none by rw[hro]];refine wpIn_rangeFunc λfn _=>?_
  let r:AB:=⟨fn,a.tmps,ps,assign,body⟩
  let D:=w.heap.size
  let l:=w.heap.size+1
  let w1:World:=(w.alloc (.deferred (some []))).alloc (.loop (r.loop D .ready))
  have s1:j6 c w1 S (λk=>k=l\/(k=D\/F k)):=by
    have:=(h3.gJ (.deferred (some []))).gJ (.loop (r.loop D .ready));have e:({w with heap:=w.heap.push (.deferred (some []))}:World).heap.size=l:=by simp[l]
    rw[e] at this;exact this
  have hold:∀k,k<w.heap.size->w1.heap[k]?=w.heap[k]?:=λk hk=>by
    show((w.heap.push _).push _)[k]?=_
    rw[Array.getElem?_push_lt (by simp;omega)];simp[Array.getElem_push_lt hk,hk]
  have hagS:∀k,S k->w1.heap[k]?=w.heap[k]?:=λk hk=>hold k (h3.bZ k hk)
  have o1:dR (nw l D .ready r env::J 0) (λk=>k=l\/(k=D\/F k)) S w1:=by
    refine⟨λk=>k=l\/k=D,F,λk hk=>⟨hk.elim .inl λe=> .inr (.inl e),λhf=>?_⟩,λk hk=> .inr (.inr hk),⟨⟨.inl rfl, .inr rfl,by simp[l,D]⟩,?_,?_,h5.mono (λ_ h=>h) hagS⟩,h4.mono (λ_ h=>h) (λ_ h=>h) (λk hk=>hold k (h3.cK k hk)) hagS⟩
    · have:=h3.cK k hf
      rcases hk with e|e<;>(simp only[l,D] at e;omega)
    · show((w.heap.push _).push _)[w.heap.size+1]?=_
      have:w.heap.size+1=(w.heap.push (Obj.deferred (some []))).size:=by simp
      rw[this,Array.getElem?_push_size]
    · show((w.heap.push _).push _)[w.heap.size]?=_
      rw[Array.getElem?_push_lt (by simp)];simp
  have hy:∀j,j<N->Rv P l (arg j) (nw l D .ready r env::J j) (nw l D .ready r env::J (j+1)):=λj hj=>
    Ek (n:=c.n) (hlen j hj).symm h2 (λt ht=>by simpa using List.all_eq_true.1 hps t ht) hnd λw0 S0 M=>hround l D fn a.tmps j hj w0 S0 M
  have hcall:=hit l D r hy w1 S _ (#[.func (.yield l) #[] #[]]++lb.toArray) s1.bZ s1.cK s1.eg o1 (by
    have:hU (yV l::psb) S w1 (.func (.yield l) #[] #[]::lb):=⟨by simp[hlb.1],λj p v hj uH=>by
      cases j with
      |zero=>simp at hj uH;subst hj;subst uH;rfl
      |succ j=>exact(hlb.mono (λ_ h=>h) hagS).2 j p v (by simpa using hj) (by simpa using uH)⟩
    simpa using this)
  have hent:(Instr.enterLoop fn a.tmps ps assign body none).run P w= .ok (l,yN D) w1:=run_enterLoop_outer fn a.tmps ps assign body
  have hres:(resolve a.eval (rangeCall g l) 0).run P w1= .ok {target:= .fn (.func f) lb.toArray,args:= #[.func (.yield l) #[] #[]]} w1:=by
    have e:a.eval (.const (.func (.yield l) #[] #[]))= .func (.yield l) #[] #[]:=rfl;simp[resolve,rangeCall,hv,Deferred.ofValue,e]
  have hinv:(invoke (.fn (.func f) lb.toArray) #[.func (.yield l) #[] #[]]).run P w1= .ok (.enter f (#[.func (.yield l) #[] #[]]++lb.toArray)) w1:=by
    have:=fX hcb (#[.func (.yield l) #[] #[]]++lb.toArray) w1;simp[invoke] at this ⊢;exact this
  have zk:CallsIn (WF none) (0-1) P f (#[.func (.yield l) #[] #[]]++lb.toArray) w1 (rangePost (WF none) 0 P l Q {a with defers:=yN D++a.defers}):=by
    refine CallsIn.mono (Ge hcall) ?_;rintro e w' ⟨v,S',F',_,rfl,hs',_,ho',_⟩;obtain⟨k1,k2,k3,k4⟩:=s1.over (rest:=[]) (F2:=λ_=>False) (λk hk=>⟨hk,id⟩) (λk hk=>hk.elim) trivial hs' ho';rw[List.append_nil] at k4;obtain⟨G1,G2,g1,g2,g3,g4⟩:=id k4;have hl:=g3.2.1;obtain⟨m1,m2,m3⟩:=k1.X0 (h1:=MH D) (m:=l) (o:= .loop {r.loop D .ready with state:= .exhausted}) k4 (λF1 h=>h.1.1) (λF1 hag h=>⟨h.1.2.1,(World.putObj_heap_other (λe=>h.1.2.2 e.symm)).trans h.2.2.1⟩);refine⟨none,_,run_endLoop hl (by simp[AB.loop]),?_⟩;refine hend D _ _ ⟨?_,h2,S',_,⟨m1.os,m1.tape,m1.output,m1.size,m1.kept,m1.eg,m1.bZ,m1.cK,m1.own,m1.shr,m1.base⟩,m2,(h5.mono k2 (λk hk=>(k3 k hk).trans (hagS k hk))).mono (λ_ h=>h) m3⟩
    show yN D++a.defers=yN D
    rw[h1,hdf];rfl
  exact⟨l,yN D,w1,_,w1,f,_,w1,hent,hres,λ_ _=>trivial,hinv,λh=>(by cases h),zk⟩
end
theorem bS.share{hs:List HP}{env:Env}{Q:Exit->Act->World->Prop}{c:Ctx}{e0:Exit}{i b off t:Nat}{cs:List VP}(hi:hs[i]?=some (az b cs))(ht:look env t=some (ax b off))(h:bS Q e0 c (hs.eraseIdx i) ((t,ck (cs.drop off))::env)):bS Q e0 c hs env:=by
 intro a w ⟨h1,h2,S,F,h3,h4,h5⟩;obtain⟨F1,F2,f1,f2,f3,f5,_⟩:=h4.zj hi;have hb:=f1 b f3.1;have hS:∀k,S k->S k\/k=b:=λ_ h=> .inl h;have hc:cT (λk=>S k\/k=b) w b 0 cs:=λj q hj=>let ⟨v,hv,hq⟩:=mc f3 j q hj;⟨v,hv,q.mono hS (λ_ _=>rfl) hq⟩
 refine h a w ⟨h1,h2,λk=>S k\/k=b,F2,⟨h3.os,h3.tape,h3.output,h3.size,h3.kept,?_,?_,λk hk=>h3.cK k (f2 k hk),λk hk=>h3.own k (f2 k hk),?_,λk hk=> .inl (h3.base k hk)⟩,
  f5.mono (λ_ h=>h) hS (λ_ _=>rfl) (λ_ _=>rfl),λs q hl=>?_⟩
 · exact λk hk hf=>hk.elim (λh=>h3.eg k h (f2 k hf)) (λe=>hb.2 (e▸hf))
 · exact λk hk=>hk.elim (h3.bZ k) (λe=>h3.cK k (e▸hb.1))
 · exact λk hk=>hk.elim (h3.shr k) (λe=>by
    rcases h3.own b hb.1 with h|h
    · exact .inr (.inl (e▸h))
    · exact .inr (.inr (e▸h)))
 · rw[bX] at hl
   by_cases e:t=s
   · rw[if_pos e] at hl;cases hl;subst e
     have hv:=h5 t _ ht;simp only[ag] at hv
     refine⟨b,off,hv, .inr rfl,?_⟩;have:=hc.drop off;simpa using this
   · rw[if_neg e] at hl
     exact q.mono hS (λ_ _=>rfl) (h5 s q hl)
structure ZN where
 num:Int
 pages:Nat
 most:Nat
 high:Nat
 wide:Prop
def wF(pages a n:Nat):Prop:=pages*65536<a+n
instance (p a n:Nat):Decidable (wF p a n):=inferInstanceAs (Decidable (_<_))
def J6(pages a o:Nat)(n:Int):Nat×Nat×Nat:=
 if n<0 then(0,0,1) else if 1048576<n then(0,0,15) else if wF pages (a+o) n.toNat then(0,4,0) else(a+o,0,0)
def ae7(M:ZN)(n:Nat):ZN×Nat×Bool:=if M.high-M.pages<n then(M,0,false) else({M with pages:=M.pages+n},M.pages,true)
end Go.Hl
end
section
namespace Go.Hl
def sQ(n:Int):List VP:=[af .i64 n]
def eo(n:Int):List VP:=[af .u64 n]
structure mj where
 P:List UInt8
 R:List UInt8
def bW(s:mj):List VP:=[ai 1 an s.P,ai 1 an s.R]
structure jt where
 Module:List UInt8
 Name:List UInt8
 fW:Int
def lq(x:jt):List VP:=[dV x.Module,dV x.Name,af .i64 x.fW]
structure aj where
 Code:Int
 A:Int
 B:Int
 ei:Int
 L:List Int
def aB(x:aj):List VP:=[af .i64 x.Code,af .u64 x.A,af .u64 x.B,af .i64 x.ei,ai 1 eo x.L]
structure j8 where
 aV:List UInt8
 L:List aj
def iT(x:j8):List VP:=[ai 1 an x.aV,ai 5 aB x.L]
structure cn where
 fW:Int
 Body:j8
def iU(x:cn):List VP:=[af .i64 x.fW,ai 1 an x.Body.aV,ai 5 aB x.Body.L]
structure gG where
 Min:Int
 Max:Int
 cj:Prop
def iA(x:gG):List VP:=[af .i64 x.Min,af .i64 x.Max,av x.cj]
structure ju where
 Ty:UInt8
 eu:Prop
 Value:Int
def iB(x:ju):List VP:=[af .u8 (x.Ty.toNat:Int),av x.eu,af .u64 x.Value]
structure eW where
 Name:List UInt8
 Kind:Int
 Index:Int
def fz(x:eW):List VP:=[dV x.Name,af .i64 x.Kind,af .i64 x.Index]
structure gR where
 At:Int
 aq:List Int
def kM(x:gR):List VP:=[af .u64 x.At,ai 1 sQ x.aq]
structure oD where
 Mem:Int
 At:Int
 Bytes:List UInt8
def mN(x:oD):List VP:=[af .i64 x.Mem,af .u64 x.At,ai 1 an x.Bytes]
structure aT where
 bQ:List mj
 ay:List jt
 aq:List cn
 Table:Int
 cP:List gG
 aA:List ju
 bV:List eW
 Start:Int
 bN:List gR
 dA:List oD
def bp(m:aT):List VP:=[ai 2 bW m.bQ,ai 3 lq m.ay,ai 3 iU m.aq,af .i64 m.Table,ai 3 iA m.cP,ai 3 iB m.aA,ai 3 fz m.bV,af .i64 m.Start,ai 2 kM m.bN,ai 3 mN m.dA]
instance:gX 1 sQ:=⟨λ_=>rfl,λx q h=>by simp only[sQ,List.mem_cons,List.not_mem_nil,or_false] at h;rw[h];infer_instance⟩
instance:gX 1 eo:=⟨λ_=>rfl,λx q h=>by simp only[eo,List.mem_cons,List.not_mem_nil,or_false] at h;rw[h];infer_instance⟩
instance:gX 2 bW:=⟨λ_=>rfl,λx q h=>by simp only[bW,List.mem_cons,List.not_mem_nil,or_false] at h;rcases h with h|h<;>rw[h]<;>infer_instance⟩
instance:gX 3 lq:=⟨λ_=>rfl,λx q h=>by simp only[lq,List.mem_cons,List.not_mem_nil,or_false] at h;rcases h with h|h|h<;>rw[h]<;>infer_instance⟩
instance:gX 5 aB:=⟨λ_=>rfl,λx q h=>by simp only[aB,List.mem_cons,List.not_mem_nil,or_false] at h;rcases h with h|h|h|h|h<;>rw[h]<;>infer_instance⟩
instance:gX 2 iT:=⟨λ_=>rfl,λx q h=>by simp only[iT,List.mem_cons,List.not_mem_nil,or_false] at h;rcases h with h|h<;>rw[h]<;>infer_instance⟩
instance:gX 3 iU:=⟨λ_=>rfl,λx q h=>by simp only[iU,List.mem_cons,List.not_mem_nil,or_false] at h;rcases h with h|h|h<;>rw[h]<;>infer_instance⟩
instance:gX 3 iA:=⟨λ_=>rfl,λx q h=>by simp only[iA,List.mem_cons,List.not_mem_nil,or_false] at h;rcases h with h|h|h<;>rw[h]<;>infer_instance⟩
instance:gX 3 iB:=⟨λ_=>rfl,λx q h=>by simp only[iB,List.mem_cons,List.not_mem_nil,or_false] at h;rcases h with h|h|h<;>rw[h]<;>infer_instance⟩
instance:gX 3 fz:=⟨λ_=>rfl,λx q h=>by simp only[fz,List.mem_cons,List.not_mem_nil,or_false] at h;rcases h with h|h|h<;>rw[h]<;>infer_instance⟩
instance:gX 2 kM:=⟨λ_=>rfl,λx q h=>by simp only[kM,List.mem_cons,List.not_mem_nil,or_false] at h;rcases h with h|h<;>rw[h]<;>infer_instance⟩
instance:gX 3 mN:=⟨λ_=>rfl,λx q h=>by simp only[mN,List.mem_cons,List.not_mem_nil,or_false] at h;rcases h with h|h|h<;>rw[h]<;>infer_instance⟩
theorem bD.of{α:Type}{n:Nat}{enc:α->List VP}[h:gX n enc](x:α):bD (enc x):=⟨λq hq=>h.flat x q hq⟩
instance (x:mj):bD (bW x):=bD.of x
instance (x:jt):bD (lq x):=bD.of x
instance (x:aj):bD (aB x):=bD.of x
instance (x:j8):bD (iT x):=bD.of x
instance (x:cn):bD (iU x):=bD.of x
instance (x:gG):bD (iA x):=bD.of x
instance (x:ju):bD (iB x):=bD.of x
instance (x:eW):bD (fz x):=bD.of x
instance (x:gR):bD (kM x):=bD.of x
instance (x:oD):bD (mN x):=bD.of x
def jJ(l:List UInt8):Prop:=l.length<=20/\∀b∈l,b=126\/b=127
def jK(l:List UInt8):Prop:=(∀b∈l,33<=b.toNat/\b.toNat<=126)/\l≠[]/\l.length<=30
def kE(n many:Int):Prop:=0<=n/\n<many
def El(l:gG)(most:Int):Prop:=0<=l.Min/\l.Min<=most/\(l.Max<0\/l.Min<=l.Max/\l.Max<=most)
end Go.Hl
namespace Go.Hl
def pn(n:Nat)(most:Int)(g:Nat->Int):Int:=if most<(n:Int) then 15 else iS g n
theorem bT{n:Nat}{most:Int}{g:Nat->Int}:pn n most g=0↔(n:Int)<=most/\iS g n=0:=by
 unfold pn;split
 · constructor
   · intro h;cases h
   · rintro⟨h,_⟩;omega
 · constructor
   · intro h;exact⟨by omega,h⟩
   · exact λh=>h.2
def dc(m:aT):Int:=(m.ay.length:Int)+(m.aq.length:Int)
def Em(s:mj):Prop:=jJ s.P/\jJ s.R
noncomputable def J7(s:mj):Int:=lp (¬Em s) 5
noncomputable def Dn(m:aT):Int:=pn m.bQ.length 50 (pg m.bQ J7)
open Classical in
noncomputable def iq(m:aT)(x:jt):Int:=if ¬jK x.Module\/¬jK x.Name then 16 else lp (¬kE x.fW m.bQ.length) 2
noncomputable def qp(m:aT):Int:=pn m.ay.length 20 (pg m.ay (iq m))
noncomputable def sR(m:aT)(x:cn):Int:=lp (¬kE x.fW m.bQ.length) 2
noncomputable def lO(m:aT):Int:=if 100<dc m then 15 else iS (pg m.aq (sR m)) m.aq.length
noncomputable def nx(m:aT):Int:=if m.Table< -1 then 2 else lp (1000<m.Table) 15
noncomputable def Rw(x:gG):Int:=lp (¬El x 65536) 5
noncomputable def Dp(m:aT):Int:=pn m.cP.length 4 (pg m.cP Rw)
def fG(t:UInt8):Int:=if (t.toNat:Int)=127 then 32 else if (t.toNat:Int)=126 then 64 else 0
theorem qZ(b:UInt8):fG b=0↔¬(b=126\/b=127):=by
 unfold fG;by_cases h1:(b.toNat:Int)=127
 · have e:b=127:=UInt8.toNat_inj.1 (by simp;omega)
   subst e;simp
 · by_cases h2:(b.toNat:Int)=126
   · have e:b=126:=UInt8.toNat_inj.1 (by simp;omega)
     subst e;simp
   · rw[if_neg h1,if_neg h2]
     simp only[true_iff];rintro(e|e)<;>subst e<;>simp at h1 h2
theorem Oi{l:List UInt8}:((l.length:Int)<=20/\¬∃x∈l,fG x=0)↔jJ l:=by
 unfold jJ;simp only[not_exists,not_and,qZ,Classical.not_not];constructor<;>(rintro⟨h1,h2⟩;exact⟨by omega,h2⟩)
noncomputable def wG(x:ju):Int:=lp (fG x.Ty=0\/(x.Ty.toNat:Int)=127/\4294967295<x.Value) 5
noncomputable def qq(m:aT):Int:=pn m.aA.length 50 (pg m.aA wG)
def cnt(m:aT):Nat->Int
 |0=>dc m
 |1=>min (IntKind.i64.wrap (m.Table+1)) 1
 |2=>(m.cP.length:Int)
 |_=>(m.aA.length:Int)
def oE(k:Int):Nat:=(max (min k 3) 0).toNat
def MI(m:aT)(x:eW):Prop:=kE x.Kind 4/\kE x.Index (cnt m (oE x.Kind))
open Classical in
noncomputable def kN(m:aT)(i:Nat):Int:=match m.bV[i]? with
 |none=>0
 |some x=>if ¬jK x.Name\/(∃y∈m.bV.take i,y.Name=x.Name) then 16 else lp (¬MI m x) 2
noncomputable def oF(m:aT):Int:=pn m.bV.length 50 (kN m)
def gH(m:aT)(f:Int):Option Int:=
 if f<0\/dc m<=f then none else if f<(m.ay.length:Int) then(m.ay[f.toNat]?).map (·.fW) else(m.aq[(f-(m.ay.length:Int)).toNat]?).map (·.fW)
def eY(m:aT)(f:Int):Option mj:=match gH m f with
 |none=>none
 |some n=>if 0<=n then m.bQ[n.toNat]? else none
noncomputable def ko(m:aT):Int:=if m.Start= -1 then 0 else match eY m m.Start with
 |none=>2
 |some s=>lp (0<(s.P.length:Int)+(s.R.length:Int)) 5
open Classical in
noncomputable def uN(m:aT)(x:gR):Int:=if 20<(x.aq.length:Int) then 15 else lp (m.Table= -1\/(∃f∈x.aq,¬kE f (dc m))\/4294967295<x.At) 2
noncomputable def xV(m:aT):Int:=pn m.bN.length 20 (pg m.bN (uN m))
open Classical in
noncomputable def uO(m:aT)(x:oD):Int:=if 4096<(x.Bytes.length:Int) then 15 else
 lp (¬kE x.Mem m.cP.length\/(∃y,m.cP[x.Mem.toNat]?=some y/\¬y.cj/\4294967295<x.At)) 2
noncomputable def xW(m:aT):Int:=pn m.dA.length 20 (pg m.dA (uO m))
end Go.Hl
namespace Go.Hl
theorem mV{cs:List VP}{S:BS}{w:World}{v:Value}(h:(ck cs).p S w v){α:Type}{n:Nat}{enc:α->List VP}{xs:List α}(j:Nat)(hj:cs[j]?=some (ai n enc xs)):xs.length<=281474976710656:=by
 obtain⟨b,off,_,_,hc⟩:=h;obtain⟨u,_,hq⟩:=hc j _ hj;exact cw hq
theorem ji{cs:List VP}{S:BS}{w:World}{v:Value}(h:(aC cs).p S w v){α:Type}{n:Nat}{enc:α->List VP}{xs:List α}(j:Nat)(hj:cs[j]?=some (ai n enc xs)):xs.length<=281474976710656:=by
 obtain⟨arr,_,_,hc⟩:=h;obtain⟨u,_,hq⟩:=hc j _ hj;exact cw hq
theorem UL{q:VP}{S:BS}{w:World}{v:Value}(h:(ck [q]).p S w v):∃u,q.p S w u:=by
 obtain⟨b,off,_,_,hc⟩:=h;obtain⟨u,_,hq⟩:=hc 0 _ rfl;exact⟨u,hq⟩
structure wH(m:aT):Prop where
 sigs:m.bQ.length<=281474976710656
 imports:m.ay.length<=281474976710656
 funcs:m.aq.length<=281474976710656
 eE:m.cP.length<=281474976710656
 globals:m.aA.length<=281474976710656
 bg:m.bV.length<=281474976710656
 elems:m.bN.length<=281474976710656
 cu:m.dA.length<=281474976710656
theorem jv{m:aT}{S:BS}{w:World}{v:Value}(h:(ck (bp m)).p S w v):wH m:=
 ⟨mV h 0 rfl,mV h 1 rfl,mV h 2 rfl,mV h 4 rfl,mV h 5 rfl,mV h 6 rfl,mV h 8 rfl,mV h 9 rfl⟩
theorem mW{m:aT}{S:BS}{w:World}{v:Value}(h:(ck [ck (bp m)]).p S w v):wH m:=let ⟨_,h⟩:=UL h;jv h
theorem Rx{m:aT}{S:BS}{w:World}{v:Value}(h:(aC (bp m)).p S w v):wH m:=
 ⟨ji h 0 rfl,ji h 1 rfl,ji h 2 rfl,ji h 4 rfl,ji h 5 rfl,ji h 6 rfl,ji h 8 rfl,ji h 9 rfl⟩
end Go.Hl
namespace Go.Hl
theorem Dq{l:List UInt8}{k:Nat}{x:UInt8}(hx:l[k]?=some x)(h:(x.toNat:Int)<33\/126<(x.toNat:Int)):jK l↔False:=by
 constructor
 · intro hn;have:=hn.1 x (List.mem_of_getElem? hx);omega
 · exact False.elim
theorem Oj{l:List UInt8}(h:∀x∈l,¬((x.toNat:Int)<33\/126<(x.toNat:Int))):∀b∈l,33<=b.toNat/\b.toNat<=126:=λb hb=>by have:=h b hb;omega
theorem Dr{l:List UInt8}(h:∀x∈l,¬((x.toNat:Int)<33\/126<(x.toNat:Int))):(l≠[]/\(l.length:Int)<=30)↔jK l:=by
 have:=Oj h;unfold jK;constructor
 · rintro⟨h1,h2⟩;exact⟨this,h1,by omega⟩
 · rintro⟨_,h1,h2⟩;exact⟨h1,by omega⟩
theorem J8{l:List UInt8}(h:∀x∈l,¬((x.toNat:Int)<33\/126<(x.toNat:Int))):(0<(l.length:Int)/\(l.length:Int)<=30)↔jK l:=by
 rw[<-Dr h]
 have:0<(l.length:Int)↔l≠[]:=by
  rw[<-List.length_pos_iff];omega
 rw[this]
theorem Ok{l:List UInt8}{k:Nat}{x:UInt8}(hx:l[k]?=some x)(h:(x.toNat:Int)≠126/\(x.toNat:Int)≠127):jJ l↔False:=by
 constructor
 · intro hn;rcases hn.2 x (List.mem_of_getElem? hx) with e|e<;>subst e<;>simp at h
 · exact False.elim
theorem J9{l:List UInt8}(h:∀x∈l,¬((x.toNat:Int)≠126/\(x.toNat:Int)≠127)):(l.length:Int)<=20↔jJ l:=by
 unfold jJ;constructor
 · intro h1
   refine⟨by omega,λb hb=>?_⟩;have:=h b hb;by_cases e:(b.toNat:Int)=126
   · exact .inl (UInt8.toNat_inj.1 (by simp;omega))
   · exact .inr (UInt8.toNat_inj.1 (by simp;omega))
 · rintro⟨h1,_⟩;omega
end Go.Hl
namespace Go.Hl
theorem sS{m:aT}{j:Nat}{x:jt}(hj:j<m.ay.length)(hx:m.ay[j]?=some x):gH m (j:Int)=some x.fW:=by
 unfold gH dc;rw[if_neg (by omega),if_pos (by omega)];simp[hx]
theorem wI{m:aT}{j:Nat}{x:cn}(hx:m.aq[j]?=some x):gH m ((m.ay.length:Int)+(j:Int))=some x.fW:=by
 have:=(List.getElem?_eq_some_iff.1 hx).1;unfold gH dc;rw[if_neg (by omega),if_neg (by omega)];rw[show((m.ay.length:Int)+(j:Int)-(m.ay.length:Int)).toNat=j by omega];simp[hx]
theorem Ds{m:aT}{f:Int}(h:¬(gH m f).isSome\/¬kE ((gH m f).getD 0) m.bQ.length):eY m f=none:=by
 unfold eY;cases hn:gH m f with
 |none=>rfl
 |some n=>
  rw[hn] at h;simp only[Option.isSome_some,not_true,false_or,Option.getD_some] at h;unfold kE at h;simp only
  split
  · rw[List.getElem?_eq_none (by omega)]
  · rfl
theorem Dt{m:aT}{f n:Int}{j:Nat}{x:mj}(hn:gH m f=some n)(hj:n=(j:Int))(hx:m.bQ[j]?=some x):eY m f=some x:=by
 unfold eY;rw[hn];subst hj;simp[hx]
theorem aa.aK3{a b c d:VP}(h1:aa a c)(h2:aa b d):aa (aC [a,b]) (aC [c,d]):=λS w v ⟨arr,hv,hn,hc⟩=>⟨arr,hv,hn,λj q hj=>by
 match j,hj with
 |0,hj=>simp at hj;subst hj;obtain⟨u,hu,hq⟩:=hc 0 a rfl;exact⟨u,hu,h1 _ _ _ hq⟩
 |1,hj=>simp at hj;subst hj;obtain⟨u,hu,hq⟩:=hc 1 b rfl;exact⟨u,hu,h2 _ _ _ hq⟩⟩
theorem GJ{m:aT}(h0:¬m.Start= -1)(h:¬(eY m m.Start).isSome):ko m=2:=by
 unfold ko;rw[if_neg h0];cases hs:eY m m.Start with
 |none=>rfl
 |some s=>rw[hs] at h;simp at h
theorem GK{m:aT}(h0:¬m.Start= -1)(h:¬¬(eY m m.Start).isSome):ko m=lp (0<((((eY m m.Start).getD ⟨[],[]⟩).P.length:Int)+(((eY m m.Start).getD ⟨[],[]⟩).R.length:Int))) 5:=by
 unfold ko;rw[if_neg h0];cases hs:eY m m.Start with
 |none=>rw[hs] at h;simp at h
 |some s=>rfl
end Go.Hl
namespace Go.Hl
theorem X3(m:aT)(j:Nat)(hj:j<4):[af .i64 (cnt m 0),af .i64 (cnt m 1),af .i64 (cnt m 2),af .i64 (cnt m 3)][j]?=some (af .i64 (cnt m j)):=by
 match j,hj with
 |0,_=>rfl
 |1,_=>rfl
 |2,_=>rfl
 |3,_=>rfl
theorem En{m:aT}{i:Nat}{x:eW}(hx:m.bV[i]?=some x)(h:¬jK x.Name\/∃y∈m.bV.take i,y.Name=x.Name):kN m i=16:=by
 unfold kN;rw[hx];simp only;rw[if_pos h]
theorem wJ{m:aT}{i:Nat}{x:eW}(hx:m.bV[i]?=some x)(h:¬(¬jK x.Name\/∃y∈m.bV.take i,y.Name=x.Name)):kN m i=lp (¬kE x.Kind 4\/¬kE x.Index (cnt m (oE x.Kind))) 2:=by
 unfold kN;rw[hx];simp only;rw[if_neg h]
 congr 1;unfold MI;exact propext (by rw[Classical.not_and_iff_not_or_not])
theorem Ka{m:aT}{x:gR}(h:¬20<(x.aq.length:Int)):uN m x=lp ((m.Table= -1\/∃f∈x.aq,¬kE f (dc m))\/4294967295<x.At) 2:=by
 unfold uN;rw[if_neg h];congr 1;exact propext (by rw[or_assoc])
theorem UM{x:oD}{n:Nat}(h:kE x.Mem n):max (min x.Mem ((n:Int)-1)) 0=(x.Mem.toNat:Int):=by
 obtain⟨h1,h2⟩:=h;omega
end Go.Hl
namespace Go.Hl
def Ry(m:aT)(k:Nat):gG:=(m.cP[k]?).getD ⟨0,0,False⟩
theorem GL{m:aT}{x:oD}(h:kE x.Mem m.cP.length):m.cP[x.Mem.toNat]?=some (Ry m x.Mem.toNat):=by
 obtain⟨h1,h2⟩:=h;obtain⟨y,hy⟩:=ah (xs:=m.cP) (k:=x.Mem.toNat) (by omega);unfold Ry;rw[hy];rfl
theorem Kb{m:aT}{x:oD}(h:¬4096<(x.Bytes.length:Int)):uO m x=lp (¬kE x.Mem m.cP.length\/¬(Ry m x.Mem.toNat).cj/\4294967295<x.At) 2:=by
 unfold uO;rw[if_neg h];congr 1;apply propext
 by_cases hi:kE x.Mem m.cP.length
 · have:=GL hi
   simp only[hi,not_true,false_or,this,Option.some.injEq,exists_eq_left']
 · simp only[hi,not_false_iff,true_or]
end Go.Hl
namespace Go.Hl
def UN{α:Type}(a b:List α)(k:Nat):Prop:=∀i,i<k->a[i]?=b[i]?
theorem UN.zero{α:Type}(a b:List α):UN a b 0:=λi h=>by omega
theorem UN.succ{α:Type}{a b:List α}{k:Nat}{x y:α}(h:UN a b k)(hx:a[k]?=some x)(hy:b[k]?=some y)(e:x=y):UN a b (k+1):=λi hi=>by
 by_cases e1:i=k
 · subst e1;rw[hx,hy,e]
 · exact h i (by omega)
theorem UN.all{α:Type}{a b:List α}{k:Nat}(h:UN a b k)(hl:a.length=b.length)(hk:a.length<=k):a=b:=by
 apply List.ext_getElem?;intro i;by_cases hi:i<a.length
 · exact h i (by omega)
 · rw[List.getElem?_eq_none (by omega),List.getElem?_eq_none (by omega)]
theorem ae8{α:Type}{a b:List α}{k:Nat}{x y:α}(hx:a[k]?=some x)(hy:b[k]?=some y)(e:x≠y):a=b↔False:=by
 constructor
 · intro h;subst h;rw[hx] at hy;exact e (Option.some.inj hy)
 · exact False.elim
theorem X4{α:Type}{a b:List α}(h:(a.length:Int)≠(b.length:Int)):a=b↔False:=by
 constructor
 · intro e;subst e;exact h rfl
 · exact False.elim
theorem Du{x y:UInt8}:((x.toNat:Int)=(y.toNat:Int))↔x=y:=by
 constructor
 · intro h;exact UInt8.toNat_inj.1 (by omega)
 · intro h;rw[h]
theorem X5{x y:mj}:(x.P=y.P/\x.R=y.R)↔x=y:=by
 constructor
 · rintro⟨h1,h2⟩;cases x;cases y;simp_all
 · intro h;subst h;simp
end Go.Hl
end
section
namespace Go.Hl
variable {S:BS} {w:World} {v:Value}
theorem q6{cs:List VP}(h:(aC cs).p S w v)(j:Nat){q:VP}(hj:cs[j]?=some q):∃u,q.p S w u:=by
 obtain⟨arr,_,_,hc⟩:=h;obtain⟨u,_,hq⟩:=hc j _ hj;exact⟨u,hq⟩
variable {α:Type} {xs:List α}
theorem gw{n:Nat}{enc:α->List VP}(h:(ai n enc xs).p S w v){x:α}(hx:x∈xs)(j:Nat){q:VP}(hj:(enc x)[j]?=some q):∃u,q.p S w u:=by
 obtain⟨a,cap,_,hc,_,he⟩:=h;obtain⟨i,hi⟩:=List.mem_iff_getElem?.1 hx;have Ca:i<xs.length:=(List.getElem?_eq_some_iff.1 hi).1;cases a with
 |none=>have:cap=0:=he;omega
 |some ad=>
  obtain⟨_,_,hel⟩:=he (by omega);obtain⟨u,_,hq⟩:=hel i x hi j q hj;exact⟨u,hq⟩
structure sU(b:j8):Prop where
 locals:b.aV.length<=281474976710656
 l:b.L.length<=281474976710656
 all:∀(i:Nat) x,b.L[i]?=some x->x.L.length<=281474976710656
variable {b:j8}
theorem Rz(h:(aC (iT b)).p S w v):sU b:=
 ⟨ji h 0 rfl,ji h 1 rfl,λi x hx=>by
  obtain⟨u,hu⟩:=q6 h 1 rfl;obtain⟨u',F6⟩:=gw hu (List.mem_of_getElem? hx) 4 rfl;exact cw F6⟩
structure Eo(b:j8):Prop where
 locals:b.aV.length<=60
 l:b.L.length<=150
 all:∀x∈b.L,x.L.length<=110
structure WW(m:aT):Prop where
 sigs:∀(i:Nat) x,m.bQ[i]?=some x->x.P.length<=281474976710656/\x.R.length<=281474976710656
 imports:∀(i:Nat) x,m.ay[i]?=some x->x.Module.length<=281474976710656/\x.Name.length<=281474976710656
 bg:∀(i:Nat) x,m.bV[i]?=some x->x.Name.length<=281474976710656
 elems:∀(i:Nat) x,m.bN[i]?=some x->x.aq.length<=281474976710656
 cu:∀(i:Nat) x,m.dA[i]?=some x->x.Bytes.length<=281474976710656
variable {m:aT}
theorem ae9(h:(aC (bp m)).p S w v):WW m where
 sigs i x hx:=by
  obtain⟨u,hu⟩:=q6 h 0 rfl;obtain⟨_,h1⟩:=gw hu (List.mem_of_getElem? hx) 0 rfl;obtain⟨_,h2⟩:=gw hu (List.mem_of_getElem? hx) 1 rfl;exact⟨cw h1,cw h2⟩
 imports i x hx:=by
  obtain⟨u,hu⟩:=q6 h 1 rfl;obtain⟨_,h1⟩:=gw hu (List.mem_of_getElem? hx) 0 rfl;obtain⟨_,h2⟩:=gw hu (List.mem_of_getElem? hx) 1 rfl;exact⟨je h1,je h2⟩
 bg i x hx:=by
  obtain⟨u,hu⟩:=q6 h 6 rfl;obtain⟨_,h1⟩:=gw hu (List.mem_of_getElem? hx) 0 rfl;exact je h1
 elems i x hx:=by
  obtain⟨u,hu⟩:=q6 h 8 rfl;obtain⟨_,h1⟩:=gw hu (List.mem_of_getElem? hx) 1 rfl;exact cw h1
 cu i x hx:=by
  obtain⟨u,hu⟩:=q6 h 9 rfl;obtain⟨_,h1⟩:=gw hu (List.mem_of_getElem? hx) 2 rfl;exact cw h1
structure ny(m:aT):Prop where
 sigs:m.bQ.length<=60
 imports:m.ay.length<=25
 funcs:m.aq.length<=110
 eE:m.cP.length<=8
 globals:m.aA.length<=60
 bg:m.bV.length<=60
 elems:m.bN.length<=25
 cu:m.dA.length<=25
 sig:∀x∈m.bQ,x.P.length+x.R.length<=60
 imp:∀x∈m.ay,x.Module.length+x.Name.length<=100
 fn:∀x∈m.aq,Eo x.Body
 exp:∀x∈m.bV,x.Name.length<=60
 elem:∀x∈m.bN,x.aq.length<=30
 data:∀x∈m.dA,x.Bytes.length<=4100
structure X6(m:aT):Prop where
 sigs:m.bQ.length<=60
 imports:m.ay.length<=25
 funcs:m.aq.length<=110
 eE:m.cP.length<=8
 globals:m.aA.length<=60
 bg:m.bV.length<=60
 elems:m.bN.length<=25
 cu:m.dA.length<=25
theorem ny.of(h:X6 m)(h1:∀x∈m.bQ,x.P.length+x.R.length<=60)(h2:∀x∈m.ay,x.Module.length+x.Name.length<=100)(h3:∀x∈m.aq,Eo x.Body)(h4:∀x∈m.bV,x.Name.length<=60)(h5:∀x∈m.bN,x.aq.length<=30)(h6:∀x∈m.dA,x.Bytes.length<=4100):ny m:=
 ⟨h.sigs,h.imports,h.funcs,h.eE,h.globals,h.bg,h.elems,h.cu,h1,h2,h3,h4,h5,h6⟩
def MJ(x:aT)(a f:VP):List VP:=[a,ai 3 lq x.ay,f,af .i64 x.Table,ai 3 iA x.cP,ai 3 iB x.aA,ai 3 fz x.bV,af .i64 x.Start,ai 2 kM x.bN,ai 3 mN x.dA]
structure dB(x:aT):Prop where
 sigs:Dn x=0
 imports:qp x=0
 funcs:lO x=0
 table:nx x=0
 eE:Dp x=0
 globals:qq x=0
 bg:oF x=0
 start:ko x=0
 elems:xV x=0
 cu:xW x=0
variable {k:Nat}
theorem ug{most:Int}{f:α->Int}(h:(xs.length:Int)<=most)(hn:dJ (λz=>f z≠0) xs k)(hk:xs.length<=k):pn xs.length most (pg xs f)=0:=
 bT.2 ⟨h,fM.2 λz hz=>Classical.not_not.1 (hn.all hk z hz)⟩
theorem RA{f:α->Int}(hn:dJ (λz=>f z≠0) xs k)(hk:xs.length<=k):iS (pg xs f) xs.length=0:=fM.2 λz hz=>Classical.not_not.1 (hn.all hk z hz)
variable {s:mj}
theorem UO(h:jJ s.P/\jJ s.R):J7 s=0:=(cW (by decide)).2 (not_not_intro h)
theorem Kc{x:jt}(h1:jK x.Module/\jK x.Name)(h2:kE x.fW m.bQ.length):iq m x=0:=by
 unfold iq;rw[if_neg (by simp[h1])];exact(cW (by decide)).2 (not_not_intro h2)
theorem RB{x:cn}(h2:kE x.fW m.bQ.length):sR m x=0:=(cW (by decide)).2 (not_not_intro h2)
theorem RC(h:(m.ay.length:Int)+(m.aq.length:Int)<=100)(hn:dJ (λz=>sR m z≠0) m.aq k)(hk:m.aq.length<=k):lO m=0:=by
 unfold lO dc;rw[if_neg (by omega)];exact RA hn hk
theorem Ol(h: -1<=m.Table)(h2:m.Table<=1000):nx m=0:=by
 unfold nx;rw[if_neg (by omega)];exact(cW (by decide)).2 (by omega)
theorem UP{x:gG}(h:0<=x.Min/\x.Min<=65536/\(x.Max<0\/x.Min<=x.Max/\x.Max<=65536)):Rw x=0:=(cW (by decide)).2 (not_not_intro h)
theorem Kd{x:ju}(h:(x.Ty.toNat:Int)=126\/(x.Ty.toNat:Int)=127/\x.Value<=4294967295):wG x=0:=by
 refine(cW (by decide)).2 λh'=>?_;rcases h' with h'|h'
 · rw[qZ] at h'
   apply h';rcases h with h|h
   · exact .inl (UInt8.toNat_inj.1 (by simpa using(by omega:x.Ty.toNat=126)))
   · exact .inr (UInt8.toNat_inj.1 (by simpa using(by omega:x.Ty.toNat=127)))
 · omega
theorem Ke{i:Nat}{x:eW}(hx:m.bV[i]?=some x)(h1:jK x.Name)(h2:dJ (λz:eW=>z.Name=x.Name) m.bV i)(ht: -1<=m.Table)(ht2:m.Table<=1000)
    (h3:x.Kind=0/\kE x.Index (dc m)\/(x.Kind=1/\0<=m.Table)/\x.Index=0\/x.Kind=2/\kE x.Index m.cP.length\/x.Kind=3/\kE x.Index m.aA.length):kN m i=0:=by
  rw[wJ hx]
  · refine(cW (by decide)).2 λh=>?_
    have k0:oE 0=0:=by decide
    have k1:oE 1=1:=by decide
    have k2:oE 2=2:=by decide
    have k3:oE 3=3:=by decide
    unfold kE at h h3;rcases h3 with⟨h4,h5⟩|⟨⟨h4,h5⟩,h6⟩|⟨h4,h5⟩|⟨h4,h5⟩
    · rw[h4,k0] at h;simp only[cnt] at h;omega
    · rw[h4,k1] at h
      have hw:IntKind.i64.wrap (m.Table+1)=m.Table+1:=by unfold IntKind.wrap;simp[IntKind.signed,IntKind.bits];omega
      simp only[cnt,hw] at h;omega
    · rw[h4,k2] at h;simp only[cnt] at h;omega
    · rw[h4,k3] at h;simp only[cnt] at h;omega
  · rintro(h|⟨y,hy,he⟩)
    · exact h h1
    · obtain⟨j,hj⟩:=List.mem_iff_getElem?.1 hy
      rw[List.getElem?_take] at hj
      split at hj
      · rename_i hlt;exact h2 j y hlt hj he
      · cases hj
theorem Kf(h:(m.bV.length:Int)<=50)(hn:∀j,j<k->kN m j=0)(hk:m.bV.length<=k):oF m=0:=bT.2 ⟨h,mU.2 λi hi=>hn i (by omega)⟩
theorem kE.at{n:Int}{k:Nat}(h:kE n k):n.toNat<k/\n=(n.toNat:Int):=by unfold kE at h;omega
variable {f:Int}
theorem xX(hf:kE f (dc m))(h1:∀z∈m.ay,iq m z=0)(h2:∀z∈m.aq,sR m z=0):∃s,eY m f=some s:=by
 have hf':=hf;unfold kE dc at hf';unfold eY gH;rw[if_neg (by unfold dc;omega)]
 have key:∀n:Int,kE n m.bQ.length->∃s,(match some n with|none=>none|some n=>if 0<=n then m.bQ[n.toNat]? else none)=some s:=λn hn=>by
  obtain⟨h3,h4⟩:=hn.at;simp only;rw[if_pos (by omega)];exact⟨_,List.getElem?_eq_getElem h3⟩
 by_cases hlt:f<(m.ay.length:Int)
 · rw[if_pos hlt]
   have hl:f.toNat<m.ay.length:=by omega
   rw[List.getElem?_eq_getElem hl];refine key _ ?_;have:=h1 _ (List.getElem_mem hl);unfold iq at this
   split at this
   · cases this
   · exact Classical.not_not.1 ((cW (by decide)).1 this)
 · rw[if_neg hlt]
   have hl:(f-(m.ay.length:Int)).toNat<m.aq.length:=by omega
   rw[List.getElem?_eq_getElem hl];refine key _ ?_;have:=h2 _ (List.getElem_mem hl);exact Classical.not_not.1 ((cW (by decide)).1 this)
theorem AE(h:eY m f=some s)(hf:f<(m.ay.length:Int)):∃x:jt,m.ay[f.toNat]?=some x/\m.bQ[x.fW.toNat]?=some s/\f=(f.toNat:Int)/\x.fW=(x.fW.toNat:Int):=by
 unfold eY gH at h
 split at h
 · cases h
 · rename_i n hn
   split at hn
   · cases hn
   · rename_i hc
     cases hx:m.ay[f.toNat]? with
     |none=>rw[hx] at hn;cases hn
     |some x=>
      rw[hx] at hn;cases hn
      split at h
      · rename_i h0;exact⟨x,rfl,h,by omega,by have h1:0<=x.fW:=h0;omega⟩
      · cases h
theorem GM(h:eY m f=some s)(hf:¬f<(m.ay.length:Int)):∃x:cn,m.aq[(f-(m.ay.length:Int)).toNat]?=some x/\m.bQ[x.fW.toNat]?=some s/\f-(m.ay.length:Int)=((f-(m.ay.length:Int)).toNat:Int)/\x.fW=(x.fW.toNat:Int)/\f<dc m:=by
 unfold eY gH at h
 split at h
 · cases h
 · rename_i n hn
   split at hn
   · cases hn
   · rename_i hc
     cases hx:m.aq[(f-(m.ay.length:Int)).toNat]? with
     |none=>rw[hx] at hn;cases hn
     |some x=>
      rw[hx] at hn;cases hn
      split at h
      · rename_i h0;exact⟨x,rfl,h,by omega,by have h1:0<=x.fW:=h0;omega,by omega⟩
      · cases h
theorem Om(h:m.Start= -1):ko m=0:=by unfold ko;rw[if_pos h]
theorem On(h:eY m m.Start=some s)(h2:¬0<(s.P.length:Int)+(s.R.length:Int)):ko m=0:=by
 unfold ko;split
 · rfl
 · rw[h];exact(cW (by decide)).2 h2
theorem RD{x:gR}(h:(x.aq.length:Int)<=20)(h1:0<=m.Table)(h2:x.At<=4294967295)(h3:dJ (λz:Int=>¬kE z (dc m)) x.aq k)(hk:x.aq.length<=k):uN m x=0:=by
 unfold uN;rw[if_neg (by omega)]
 refine(cW (by decide)).2 ?_;rintro(h4|⟨f,hf,h5⟩|h6)
 · omega
 · exact h3.all hk f hf h5
 · omega
theorem RE{x:oD}{y:gG}(h:(x.Bytes.length:Int)<=4096)(h1:kE x.Mem m.cP.length)(hy:m.cP[x.Mem.toNat]?=some y)(h2:¬(¬y.cj/\4294967295<x.At)):uO m x=0:=by
 unfold uO;rw[if_neg (by omega)]
 refine(cW (by decide)).2 ?_;rintro(h4|⟨z,hz,h5⟩)
 · exact h4 h1
 · rw[hy] at hz;cases hz;exact h2 h5
theorem dJ.MK{f:α->Int}(hn:dJ (λz=>f z≠0) xs k)(hk:xs.length<=k):∀z∈xs,f z=0:=λz hz=>Classical.not_not.1 (hn.all hk z hz)
theorem or4{a b c d:Prop}(h:((a\/b)\/c)\/d):a\/b\/c\/d:=by simpa[or_assoc] using h
theorem zG(h:eY m f=some s):s∈m.bQ:=by
 unfold eY at h
 split at h
 · cases h
 · split at h
   · exact List.mem_of_getElem? h
   · cases h
theorem q7(h:lO m=0):∀z∈m.aq,sR m z=0:=by
 unfold lO at h
 split at h
 · cases h
 · exact fM.1 h
theorem ML(h1:∀z∈m.ay,iq m z=0)(h2:∀z∈m.aq,sR m z=0):(eY m f).isSome=true↔kE f (dc m):=by
 constructor
 · intro h
   obtain⟨s,hs⟩:=Option.isSome_iff_exists.1 h;unfold eY gH at hs;unfold kE;by_cases hc:f<0\/dc m<=f
   · rw[if_pos hc] at hs;cases hs
   · omega
 · intro h
   obtain⟨s,hs⟩:=xX h h1 h2;rw[hs];rfl
def lC(f:Nat->Int):Nat->Int
 |0=>0
 |n+1=>lC f n+f n
theorem Ep{f:Nat->Int}{C:Int}(h:∀i,0<=f i/\f i<=C):∀n:Nat,0<=lC f n/\lC f n<=n*C
 |0=>by simp[lC]
 |n+1=>by
  have h1:=Ep h n;have h2:=h n;simp only[lC];refine⟨by omega,?_⟩;have:((n+1:Nat):Int)*C=n*C+C:=by rw[Int.natCast_add,Int.add_mul];simp
  omega
theorem Dv{f:Nat->Int}(h:∀i,0<=f i):∀{n:Nat},lC f n<=0->∀i,i<n->f i<=0
 |0,_,i,hi=>by omega
 | n+1,hs,i,hi=>by
  have h0:∀k:Nat,0<=lC f k:=λk=>by
   induction k with
   |zero=>simp[lC]
   |succ k ih=>have:=h k;simp only[lC];omega
  have h1:=h0 n;have h2:=h n;simp only[lC] at hs;by_cases e:i=n
  · subst e;omega
  · exact Dv (n:=n) h (by omega) i (by omega)
variable {g:α->Int}
theorem RF{C:Int}(hC:0<=C)(h:∀(i:Nat) x,xs[i]?=some x->0<=g x/\g x<=C)(i:Nat):0<=pg xs g i/\pg xs g i<=C:=by
 unfold pg
 split
 · rename_i x hx;exact h i x hx
 · exact⟨by omega,hC⟩
def sV(xs:List α)(g:α->Int)(cap:Nat):Int:=lC (pg xs g) (min xs.length cap)
theorem jw{cap:Nat}(C:Int)(hC:0<=C)(h:∀(i:Nat) x,xs[i]?=some x->0<=g x/\g x<=C):0<=sV xs g cap/\sV xs g cap<=cap*C:=by
 have h1:=Ep (RF hC h) (min xs.length cap);refine⟨h1.1,Int.le_trans h1.2 (Int.mul_le_mul_of_nonneg_right (by omega) hC)⟩
theorem mo{cap:Nat}(h:∀(i:Nat) x,xs[i]?=some x->0<=g x)(h0:sV xs g cap<=0)(hl:xs.length<=cap):∀x∈xs,g x<=0:=λx hx=>by
 obtain⟨i,hi⟩:=List.mem_iff_getElem?.1 hx;have:=Dv (f:=pg xs g) (λj=>by unfold pg;split;exact h j _ (by assumption);omega) h0 i (by have:=(List.getElem?_eq_some_iff.1 hi).1;omega)
 rwa [lN hi] at this
theorem mq{C:Int}(hC:0<=C)(h:∀(i:Nat) x,xs[i]?=some x->0<=g x/\g x<=C)(k:Nat):0<=lC (pg xs g) k/\lC (pg xs g) k<=k*C:=Ep (RF hC h) k
theorem q8{x:α}(hx:xs[k]?=some x):lC (pg xs g) (k+1)=lC (pg xs g) k+g x:=by simp only[lC];rw[lN hx]
def q9(x:aj):Int:=max ((x.L.length:Int)-110) 0
def sW(b:j8):Int:=max ((b.aV.length:Int)-60) 0+max ((b.L.length:Int)-150) 0+sV b.L q9 150
theorem xY(h:sU b):∀(i:Nat) x,b.L[i]?=some x->0<=q9 x/\q9 x<=281474976710656:=λi x hx=>by have:=h.all i x hx;unfold q9;omega
theorem Oo(h:sU b):0<=sW b/\sW b<=152*281474976710656:=by
 have h1:=jw (cap:=150) 281474976710656 (by omega) (xY h);have h2:=h.locals;have h3:=h.l;unfold sW;omega
theorem Er(h:sU b)(h0:sW b<=0):Eo b:=by
 have h1:=jw (cap:=150) 281474976710656 (by omega) (xY h);unfold sW at h0;have h2:=mo (xs:=b.L) (g:=q9) (cap:=150) (λi x _=>by unfold q9;omega) (by omega) (by omega);exact⟨by omega,by omega,λx hx=>by have:=h2 x hx;unfold q9 at this;omega⟩
def Kg(y:mj):Int:=max ((y.P.length:Int)+(y.R.length:Int)-60) 0
def Kh(y:jt):Int:=max ((y.Module.length:Int)+(y.Name.length:Int)-100) 0
def ZO(y:cn):Int:=sW y.Body
def Ki(y:eW):Int:=max ((y.Name.length:Int)-60) 0
def AF(y:gR):Int:=max ((y.aq.length:Int)-30) 0
def yO(y:oD):Int:=max ((y.Bytes.length:Int)-4100) 0
def p4(x:aT):Int:=max ((x.bQ.length:Int)-60) 0+max ((x.ay.length:Int)-25) 0+max ((x.aq.length:Int)-110) 0+max ((x.cP.length:Int)-8) 0+max ((x.aA.length:Int)-60) 0+max ((x.bV.length:Int)-60) 0+max ((x.bN.length:Int)-25) 0+max ((x.dA.length:Int)-25) 0
def ve(x:aT):Int:=p4 x+sV x.bQ Kg 60
def vf(x:aT):Int:=ve x+sV x.ay Kh 25
def vg(x:aT):Int:=vf x+sV x.aq ZO 110
def vi(x:aT):Int:=vg x+sV x.bV Ki 60
def vj(x:aT):Int:=vi x+sV x.bN AF 25
def ri(x:aT):Int:=vj x+sV x.dA yO 25
structure wK(x:aT):Prop where
 top:wH x
 mid:WW x
 fns:∀(i:Nat) y,x.aq[i]?=some y->sU y.Body
theorem sX(h:(aC (bp m)).p S w v):wK m:=
 ⟨Rx h,ae9 h,λi x hx=>by
  obtain⟨u,hu⟩:=q6 h 2 rfl;obtain⟨_,h1⟩:=gw hu (List.mem_of_getElem? hx) 1 rfl;obtain⟨_,h2⟩:=gw hu (List.mem_of_getElem? hx) 2 rfl
  exact⟨cw h1,cw h2,λj y hy=>by
   obtain⟨_,h3⟩:=gw h2 (List.mem_of_getElem? hy) 4 rfl;exact cw h3⟩⟩
structure Kj(x:aT):Prop where
 n0:0<=p4 x/\p4 x<=8*281474976710656
 sig:∀(i:Nat) y,x.bQ[i]?=some y->0<=Kg y/\Kg y<=2*281474976710656
 imp:∀(i:Nat) y,x.ay[i]?=some y->0<=Kh y/\Kh y<=2*281474976710656
 fn:∀(i:Nat) y,x.aq[i]?=some y->0<=ZO y/\ZO y<=152*281474976710656
 exp:∀(i:Nat) y,x.bV[i]?=some y->0<=Ki y/\Ki y<=281474976710656
 elem:∀(i:Nat) y,x.bN[i]?=some y->0<=AF y/\AF y<=281474976710656
 data:∀(i:Nat) y,x.dA[i]?=some y->0<=yO y/\yO y<=281474976710656
variable {x:aT}
theorem Oq(h:wH x):0<=p4 x/\p4 x<=8*281474976710656:=by
 obtain⟨h1,h2,h3,h4,h5,h6,h7,h8⟩:=h;have mx:∀(n:Nat) (c:Int),0<=c->n<=281474976710656->0<=max ((n:Int)-c) 0/\max ((n:Int)-c) 0<=281474976710656:=λn c _ _=>by omega
 have a1:=mx _ 60 (by omega) h1;have a2:=mx _ 25 (by omega) h2;have a3:=mx _ 110 (by omega) h3;have a4:=mx _ 8 (by omega) h4;have a5:=mx _ 60 (by omega) h5;have a6:=mx _ 60 (by omega) h6;have a7:=mx _ 25 (by omega) h7;have a8:=mx _ 25 (by omega) h8;unfold p4;generalize max ((x.bQ.length:Int)-60) 0=b1 at*;generalize max ((x.ay.length:Int)-25) 0=b2 at*;generalize max ((x.aq.length:Int)-110) 0=b3 at*;generalize max ((x.cP.length:Int)-8) 0=b4 at*;generalize max ((x.aA.length:Int)-60) 0=b5 at*;generalize max ((x.bV.length:Int)-60) 0=b6 at*;generalize max ((x.bN.length:Int)-25) 0=b7 at*;generalize max ((x.dA.length:Int)-25) 0=b8 at*;omega
theorem qt(h:wK x):Kj x:=
 ⟨Oq h.top,λi y hy=>by have:=h.mid.sigs i y hy;unfold Kg;omega,λi y hy=>by have:=h.mid.imports i y hy;unfold Kh;omega,λi y hy=>Oo (h.fns i y hy),
  λi y hy=>by have:=h.mid.bg i y hy;unfold Ki;omega,λi y hy=>by have:=h.mid.elems i y hy;unfold AF;omega,λi y hy=>by have:=h.mid.cu i y hy;unfold yO;omega⟩
theorem Es(h:wK x)(h0:ri x<=0):ny x:=by
 have hb:=qt h;have n0:=hb.n0.1;have n1:=(jw (cap:=60) _ (by omega) hb.sig).1;have n2:=(jw (cap:=25) _ (by omega) hb.imp).1;have n3:=(jw (cap:=110) _ (by omega) hb.fn).1;have n4:=(jw (cap:=60) _ (by omega) hb.exp).1;have n5:=(jw (cap:=25) _ (by omega) hb.elem).1;have n6:=(jw (cap:=25) _ (by omega) hb.data).1;unfold ri vj vi vg vf ve at h0;have z0:p4 x<=0:=by omega
 unfold p4 at z0;have g1:x.bQ.length<=60:=by omega
 have g2:x.ay.length<=25:=by omega
 have g3:x.aq.length<=110:=by omega
 have g6:x.bV.length<=60:=by omega
 have g7:x.bN.length<=25:=by omega
 have g8:x.dA.length<=25:=by omega
 exact⟨g1,g2,g3,by omega,by omega,g6,g7,g8,
  λy hy=>by have:=mo (λi y hy=>(hb.sig i y hy).1) (by omega) g1 y hy;unfold Kg at this;omega,
  λy hy=>by have:=mo (λi y hy=>(hb.imp i y hy).1) (by omega) g2 y hy;unfold Kh at this;omega,
  fun y hy=>by
   have h9:=mo (λi y hy=>(hb.fn i y hy).1) (by omega) g3 y hy;obtain⟨i,hi⟩:=List.mem_iff_getElem?.1 hy;exact Er (h.fns i y hi) h9,
  λy hy=>by have:=mo (λi y hy=>(hb.exp i y hy).1) (by omega) g6 y hy;unfold Ki at this;omega,
  λy hy=>by have:=mo (λi y hy=>(hb.elem i y hy).1) (by omega) g7 y hy;unfold AF at this;omega,
  λy hy=>by have:=mo (λi y hy=>(hb.data i y hy).1) (by omega) g8 y hy;unfold yO at this;omega⟩
theorem AG(hb:Kj x):(0<=ve x/\ve x<=128*281474976710656)/\(0<=vf x/\vf x<=178*281474976710656)/\(0<=vg x/\vg x<=16898*281474976710656)/\(0<=vi x/\vi x<=16958*281474976710656)/\(0<=vj x/\vj x<=16983*281474976710656):=by
 have n0:=hb.n0;have n1:=jw (cap:=60) _ (by omega) hb.sig;have n2:=jw (cap:=25) _ (by omega) hb.imp;have n3:=jw (cap:=110) _ (by omega) hb.fn;have n4:=jw (cap:=60) _ (by omega) hb.exp;have n5:=jw (cap:=25) _ (by omega) hb.elem;unfold vj vi vg vf ve;omega
end Go.Hl
end
section
namespace Go.Hl
open Go.RowKit
section
variable {P:Program} {hs:List HP} {env:Env} {q:VP} {dst:Option Tmp} {ty T T' E:TypeId} {pos:String} {after:Array Edge} {gd:Option (Nat×Bool)} {x y z:Operand}
theorem pz{f:FuncId}{v:Value}(hx:bA env x (ag v)):bw P hs env ⟨dst, .makeFunc (.func f) #[x] #[],ty,pos,after,gd⟩ (ag (.func (.func f) #[v] #[])):=by
 intro a w S F _ _ _ _ he K Q hk;unfold Oper.wp;have hv:=hx S w a he;simp only[ag] at hv
 exact hk _ w S (gq.refl _ _) (by simp[ag,hv])
theorem AH{f:FuncId}{v:Value}{ats:Array TypeId}{hs0 rest:List HP}{γ:Type}{φ:γ->Prop}{hs':γ->List HP}{q:γ->VP}(hf:bu P f [ag v] hs0 φ hs' q)(hb:j7 P f=true)(hx:bA env x (ag (.func (.func f) #[v] #[])))(hp:hs.Perm (hs0++rest)):
    gW P hs env ⟨dst, .call ⟨.value x, #[],ats⟩,ty,pos,after,gd⟩ φ (λg=>hs' g++rest) q:=by
  intro c a w S F aI hown he K Q hk;have h0:=eV (xs:=[.const v]) (ats:=ats) (dst:=dst) (ty:=ty) (pos:=pos) (after:=after) (gd:=gd) hf hb (.cons (.c _) .nil) hp c a w S F aI hown he K Q hk;have hv:=hx S w a he;simp only[ag] at hv
  unfold Oper.wp at h0 ⊢;rw[sB hb] at h0
  have e:(execOp a.eval ⟨dst, .call ⟨.value x, #[],ats⟩,ty,pos,after,gd⟩).run P w= .ok (.enter f #[v]) w:=by
    have h:=fX hb #[v] w;simp[execOp,resolve,hv,Deferred.ofValue,invoke] at h ⊢;exact h
  rw[e];exact h0
end
abbrev X7(f sb:Nat):VP:=ag (.func (.func f) #[.pointer (some ⟨sb,0,none⟩)] #[])
variable {k:Nat} {v:Nat}
theorem UQ{l:List UInt8}{at_ w:Nat}(hl:at_+w<=l.length)(hk:k<w):(l.take at_++nO v k++l.drop (at_+k)).set (at_+k) (UH v k)=l.take at_++nO v (k+1)++l.drop (at_+(k+1)):=by
 have h1:(l.take at_++nO v k).length=at_+k:=by rw[List.length_append,nP,List.length_take];omega
 have h2:l.drop (at_+k)=l[at_+k]'(by omega)::l.drop (at_+k+1):=List.drop_eq_getElem_cons (by omega);rw[List.set_append_right _ _ (by omega),h1,Nat.sub_self,h2,List.set_cons_zero];have h3:nO v (k+1)=nO v k++[UH v k]:=by unfold nO;rw[List.range_succ,List.map_append];rfl
 rw[h3];simp only[List.append_assoc,List.singleton_append];rfl
theorem RG(v k:Nat):IntKind.u8.wrap ((v/2^(8*k):Nat):Int)=((UH v k).toNat:Int):=by
 have e:∀n:Int,IntKind.u8.wrap n=n%256:=λ_=>rfl;rw[e];unfold UH;rw[UInt8.toNat_ofNat'];omega
theorem X8{l:List UInt8}{at_:Nat}{c:UInt8}(hc:l[at_+k]?=some c)(hk:k<8):((nv ((l.drop at_).take k))|||(c.toNat*2^(8*k)%18446744073709551616))=nv ((l.drop at_).take (k+1))/\nv ((l.drop at_).take k)<18446744073709551616:=by
 have hd:(l.drop at_)[k]?=some c:=by rw[List.getElem?_drop];exact hc
 have hlen:((l.drop at_).take k).length=k:=by
  have:=(List.getElem?_eq_some_iff.1 hd).1;rw[List.length_take];omega
 have h1:=Av ((l.drop at_).take k);rw[hlen] at h1;have h2:2^(8*k)<=2^56:=Nat.pow_le_pow_right (by decide) (by omega);have h3:=c.toNat_lt;have h4:c.toNat*2^(8*k)<=255*2^56:=Nat.mul_le_mul (by omega) h2;refine⟨?_,by omega⟩;rw[Nat.mod_eq_of_lt (by omega)];have h5:=XS ((l.drop at_).take k) c;rw[hlen] at h5;rw[h5,<-bE hd]
variable {a:ep} {X:oB}
theorem vk(h:dz X a){x:Nat}{w:Nat}(hx:x+w<=X.size):dz X (a.put x (nO v w)):=h.put (by rw[nP];exact hx)
abbrev Et(X:oB)(a:ep):HP:=az X.ab [sK X.db 0 X.size,af .i64 (a.height:Int),af .i64 (a.live:Int),ag (.map (some X.tm)),ag (.map (some X.gm))]
def jx(X:oB)(a:ep):List HP:=[Et X a,qV X.db a.bytes]
theorem Ot{κ ν:Type}[DecidableEq κ](D:List (κ×ν))(a b:κ)(v:ν):er (ki D a v) b=if b=a then some v else er D b:=by
 have key:∀(D:List (κ×ν)),er (ki D a v) b=if b=a then some v else er D b:=by
  intro D
  induction D with
  |nil=>
   by_cases h:b=a
   · subst h;simp[ki,er]
   · have h2:¬a=b:=λe=>h e.symm
     simp[ki,er,h,h2]
  |cons p D ih=>
   by_cases hp:p.1=a
   · have h1:ki (p::D) a v=(a,v)::D:=by simp[ki,List.findIdx?_cons,hp]
     rw[h1];by_cases h:b=a
     · subst h;simp[er]
     · have h2:¬a=b:=λe=>h e.symm
       have h3:¬p.1=b:=λe=>h2 (hp.symm.trans e);simp[er,List.find?_cons,h,h2,h3]
   · have h1:ki (p::D) a v=p::ki D a v:=by
      simp only[ki,List.map_cons,List.findIdx?_cons,hp,decide_false,Bool.false_eq_true,if_false];cases hf:(D.map (·.1)).findIdx? (λk=>decide (k=a)) with
      |none=>simp
      |some j=>simp
     rw[h1];by_cases h:p.1=b
     · have h2:¬b=a:=λe=>hp (h.trans e)
       simp[er,List.find?_cons,h,h2]
     · have e1:∀D':List (κ×ν),er (p::D') b=er D' b:=λD'=>by simp[er,List.find?_cons,h]
       rw[e1,e1,ih]
 exact key D
def fH(m:aT):Nat:=(max m.Table 0).toNat
abbrev rj(m:aT):Nat:=aJ (8*m.aA.length)
abbrev Cp(m:aT):Nat:=aJ (4*fH m)
abbrev uP(a:ep)(c:Nat):ep:=⟨a.bytes.take a.height++List.replicate c 0++a.bytes.drop (a.height+c),a.height+c,a.live+c,ki a.taken (a.height:Int) (c:Int)⟩
theorem mw{c:Nat}(h:dz X a)(hc:a.height+c<=X.size):dz X (uP a c):=by
 have hm:=h.most;have hh:=h.hi;have hlen:=h.len;have hlv:=h.live
 refine⟨?_,by simp only;omega,hm,by simp only;omega⟩;simp only[List.length_append,List.length_take,List.length_drop,List.length_replicate];omega
theorem wL{n:Nat}(h:dz X a)(hn:n<=4194304)(hc:a.height+aJ n<=X.size):yK X.size a n=(uP a (aJ n),a.height,0):=by
 unfold yK;rw[if_neg (by omega),if_neg (by omega)]
abbrev sY(a:ep)(m:aT):ep:=uP (uP a (rj m)) (Cp m)
theorem Ou{t:List (Int×Int)}(h:a.taken=t){r:List HP}:aF (Et X a::qV X.db a.bytes::oW X.tm (Value.int .i64) fP t::oW X.gm (Value.int .i64) (λ_:Unit=>uY) []::r) (iR X a++r):=by subst h;exact aF.refl _
abbrev p5(sb:Nat)(X:oB)(pb:Nat)(m:aT)(num g t:Int)(mv:VP):HP:=az sb [ck (bp m),ax X.ab 0,ax pb 0,af .i64 num,af .i64 g,af .i64 t,mv,av False]
structure rq(m:aT):Prop where
 gl:m.aA.length<=60000
 gv:∀z∈m.aA,0<=z.Value/\z.Value<18446744073709551616/\(fG z.Ty=32\/fG z.Ty=64)
 tb:m.Table<=1000
 ms:∀z∈m.cP,0<=z.Min/\z.Min<=65536/\(z.Max<0\/z.Min<=z.Max/\z.Max<=65536)
 ml:m.cP.length<=60000
 ll:m.bN.length<=60000
 el:∀e∈m.bN,0<=e.At/\e.At<18446744073709551616/\e.aq.length<=1000/\∀f∈e.aq,0<=f/\f<281474976710656
 dl:m.dA.length<=60000
 da:∀d∈m.dA,kE d.Mem m.cP.length/\0<=d.At/\d.At<18446744073709551616/\d.Bytes.length<=5000
variable {m:aT}
theorem rq.r1(h:rq m):8*m.aA.length<=rj m/\rj m<=8388608:=⟨qo (by have:=h.gl;omega),o9 _⟩
theorem rq.r2(h:rq m):4*fH m<=Cp m/\Cp m<=8388608/\fH m<=1000:=by
 have h2:fH m<=1000:=by have:=h.tb;unfold fH;omega
 exact⟨qo (by omega),o9 _,h2⟩
def Eu(m:aT)(i:Nat):ju:=(m.aA[i]?).getD ⟨0,False,0⟩
theorem Ev{i:Nat}{z:ju}(h:m.aA[i]?=some z):Eu m i=z:=by unfold Eu;rw[h];rfl
def qu(t:UInt8)(v:Nat):Nat:=v%2^(fG t).toNat
theorem zH{t:UInt8}(h:v<18446744073709551616):qu t v<18446744073709551616:=Nat.lt_of_le_of_lt (Nat.mod_le _ _) h
def MM(m:aT)(g:Nat)(a:ep):Nat->ep
 |0=>a
 |k+1=>(MM m g a k).put (g+8*k) (nO (qu (Eu m k).Ty (Eu m k).Value.toNat) 8)
theorem sZ{X:oB}{m:aT}{g:Nat}{a:ep}(h:dz X a):∀k,g+8*k<=X.size->dz X (MM m g a k)
 |0,_=>h
 |k+1,hk=>vk (sZ h k (by omega)) (by omega)
structure pE(a b:ep):Prop where
 height:b.height=a.height
 live:b.live=a.live
 taken:b.taken=a.taken
theorem pE.refl(a:ep):pE a a:=⟨rfl,rfl,rfl⟩
theorem pE.trans{a b c:ep}(h:pE a b)(k:pE b c):pE a c:=⟨k.1.trans h.1,k.2.trans h.2,k.3.trans h.3⟩
theorem GN{m:aT}{g:Nat}{a:ep}:∀k,pE a (MM m g a k)
 |0=> .refl _
 |k+1=>(GN k).trans ⟨rfl,rfl,rfl⟩
def lP(m:aT)(e:gR):Prop:=(fH m:Int)<e.At\/(fH m:Int)-e.At<(e.aq.length:Int)
def Qy(t:Nat)(e:gR)(a:ep):Nat->ep
 |0=>a
 |k+1=>(Qy t e a k).put (t+4*(e.At.toNat+k)) (nO (((e.aq[k]?).getD 0).toNat+1) 4)
open Classical in
noncomputable def MN(m:aT)(t:Nat)(e:gR)(a:ep):ep:=if lP m e then a else Qy t e a e.aq.length
open Classical in
noncomputable def X9(m:aT)(e:gR):Int:=if lP m e then 5 else 0
def Ew(m:aT)(i:Nat):gR:=(m.bN[i]?).getD ⟨0,[]⟩
theorem MO{i:Nat}{z:gR}(h:m.bN[i]?=some z):Ew m i=z:=by unfold Ew;rw[h];rfl
noncomputable def vl(m:aT)(t:Nat)(a:ep):Nat->ep
 |0=>a
 |k+1=>MN m t (Ew m k) (vl m t a k)
variable {e:gR}
theorem RH{t:Nat}(h:m.bN[k]?=some e):vl m t a (k+1)=MN m t e (vl m t a k):=by show MN m t (Ew m k) _=_;rw[MO h]
theorem xZ{X:oB}{t:Nat}{e:gR}{a:ep}(h:dz X a):∀k,t+4*(e.At.toNat+k)<=X.size->dz X (Qy t e a k)
 |0,_=>h
 |k+1,hk=>vk (xZ h k (by omega)) (by omega)
theorem GO{t:Nat}{e:gR}{a:ep}:∀k,pE a (Qy t e a k)
 |0=> .refl _
 |k+1=>(GO k).trans ⟨rfl,rfl,rfl⟩
theorem Ya{t:Nat}(h:dz X a)(ht:t+4*fH m<=X.size)(h0:0<=e.At):dz X (MN m t e a)/\pE a (MN m t e a):=by
 unfold MN;by_cases hb:lP m e
 · rw[if_pos hb];exact⟨h, .refl _⟩
 · rw[if_neg hb]
   unfold lP at hb;exact⟨xZ h _ (by omega),GO _⟩
theorem zI{X:oB}{m:aT}{t:Nat}{a:ep}(h:dz X a)(hm:rq m)(ht:t+4*fH m<=X.size):∀k,dz X (vl m t a k)/\pE a (vl m t a k)
 |0=>⟨h, .refl _⟩
 | k+1=>by
  have ih:=zI (m:=m) (t:=t) h hm ht k
  have h0:0<=(Ew m k).At:=by
   unfold Ew;cases he:m.bN[k]? with
   |none=>exact Int.le_refl _
   |some e=>exact(hm.el e (List.mem_of_getElem? he)).1
  have h2:=Ya (m:=m) (t:=t) ih.1 ht h0;exact⟨h2.1,ih.2.trans h2.2⟩
def af0(l:gG):Nat:=if l.Max<0 then 65536 else l.Max.toNat
def aK4(m:aT)(i:Nat):gG:=(m.cP[i]?).getD ⟨0,0,False⟩
def aK5(m:aT)(i:Nat):oD:=(m.dA[i]?).getD ⟨0,0,[]⟩
def daW(m:aT)(d:oD):Nat×Nat×Nat:=J6 (aK4 m d.Mem.toNat).Min.toNat d.At.toNat 0 (d.Bytes.length:Int)
theorem UR(h:X9 m e≠0):lP m e:=Classical.byContradiction λhb=>h (if_neg hb)
theorem Yb(h:¬X9 m e≠0):¬lP m e:=λhb=>h (by have h2:X9 m e=5:=if_pos hb;omega)
def nF(m:aT)(k:Nat):Prop:=∀j e,j<k->m.bN[j]?=some e->¬lP m e
theorem nF.nil:nF m 0:=λ_ _ h=>absurd h (Nat.not_lt_zero _)
theorem nF.next{z:gR}(h:nF m k)(hz:m.bN[k]?=some z)(hb:¬lP m z):nF m (k+1):=λj e hj he=>by
 rcases Nat.lt_succ_iff_lt_or_eq.1 hj with hj|rfl
 · exact h j e hj he
 · rw[hz] at he;cases he;exact hb
def RI(m:aT)(k:Nat):Prop:=∀j d,j<k->m.dA[j]?=some d->(daW m d).2=(0,0)
def Cq(m:aT)(r:Nat×Nat×Int):Prop:=
 (∃k e,m.bN[k]?=some e/\nF m k/\lP m e/\r=(k,0,5))\/(nF m m.bN.length/\∃k d,m.dA[k]?=some d/\RI m k/\(daW m d).2≠(0,0)/\r=(m.bN.length,k+1,((daW m d).2.1:Int)))\/
 (nF m m.bN.length/\RI m m.dA.length/\r=(m.bN.length,m.dA.length,0))
theorem Cq.el(h1:m.bN[k]?=some e)(h2:nF m k)(h3:lP m e):Cq m (k,0,5):= .inl ⟨k,e,h1,h2,h3,rfl⟩
theorem Cq.all(h2:nF m m.bN.length)(h3:RI m m.dA.length):Cq m (m.bN.length,m.dA.length,0):= .inr (.inr ⟨h2,h3,rfl⟩)
def wM(b:Nat):List VP:=[ax b 0]
instance:gX 1 wM:=⟨λ_=>rfl,λx q h=>by simp only[wM,List.mem_cons,List.not_mem_nil,or_false] at h;subst h;infer_instance⟩
end Go.Hl
end
section
namespace Go.Hl
structure US(m:aT):Prop where
 sigs:(m.bQ.length:Int)<=50
 imports:(m.ay.length:Int)<=20
 funcs:(m.ay.length:Int)+(m.aq.length:Int)<=100
 eE:(m.cP.length:Int)<=4
 globals:(m.aA.length:Int)<=50
 bg:(m.bV.length:Int)<=50
 elems:(m.bN.length:Int)<=20
 cu:(m.dA.length:Int)<=20
 table: -1<=m.Table/\m.Table<=1000
variable {m:aT}
theorem dw(h:dB m):US m where
 sigs:=(bT.1 h.sigs).1
 imports:=(bT.1 h.imports).1
 funcs:=by
  have h5:=h.funcs;unfold lO at h5
  split at h5
  · cases h5
  · unfold dc at*;omega
 eE:=(bT.1 h.eE).1
 globals:=(bT.1 h.globals).1
 bg:=(bT.1 h.bg).1
 elems:=(bT.1 h.elems).1
 cu:=(bT.1 h.cu).1
 table:=by
  have h5:=h.table;unfold nx at h5
  split at h5
  · cases h5
  · have h6:=(cW (by decide)).1 h5;omega
theorem Yc(h:dB m){z:mj}(hz:z∈m.bQ):jJ z.P/\jJ z.R:=Classical.not_not.1 ((cW (by decide)).1 (fM.1 (bT.1 h.sigs).2 z hz))
theorem RJ(h:dB m){z:jt}(hz:z∈m.ay):jK z.Module/\jK z.Name/\kE z.fW m.bQ.length:=by
 have h1:=fM.1 (bT.1 h.imports).2 z hz;unfold iq at h1
 split at h1
 · cases h1
 · rename_i h2
   exact⟨Classical.byContradiction λe=>h2 (.inl e),Classical.byContradiction λe=>h2 (.inr e),Classical.not_not.1 ((cW (by decide)).1 h1)⟩
theorem UT(h:dB m){z:cn}(hz:z∈m.aq):kE z.fW m.bQ.length:=Classical.not_not.1 ((cW (by decide)).1 (q7 h.funcs z hz))
theorem RK(h:dB m){z:gG}(hz:z∈m.cP):0<=z.Min/\z.Min<=65536/\(z.Max<0\/z.Min<=z.Max/\z.Max<=65536):=Classical.not_not.1 ((cW (by decide)).1 (fM.1 (bT.1 h.eE).2 z hz))
theorem x4(h:dB m){z:ju}(hz:z∈m.aA):(z.Ty.toNat:Int)=126\/(z.Ty.toNat:Int)=127/\z.Value<=4294967295:=by
 have h1:=(cW (by decide)).1 (fM.1 (bT.1 h.globals).2 z hz);have h2:¬fG z.Ty=0:=λe=>h1 (.inl e);have h3:¬((z.Ty.toNat:Int)=127/\4294967295<z.Value):=λe=>h1 (.inr e);rw[qZ,Classical.not_not] at h2;rcases h2 with e|e
 · exact .inl (by rw[e];rfl)
 · exact .inr ⟨by rw[e];rfl,Classical.byContradiction λh4=>h3 ⟨by rw[e];rfl,by omega⟩⟩
theorem x5(h:dB m){i:Nat}{x:eW}(hx:m.bV[i]?=some x):jK x.Name/\(∀j y,j<i->m.bV[j]?=some y->y.Name≠x.Name)/\
    (((x.Kind=0/\kE x.Index (dc m)\/(x.Kind=1/\0<=m.Table)/\x.Index=0)\/x.Kind=2/\kE x.Index m.cP.length)\/x.Kind=3/\kE x.Index m.aA.length):=by
  have hi:=(List.getElem?_eq_some_iff.1 hx).1;have h1:kN m i=0:=mU.1 (bT.1 h.bg).2 i hi;unfold kN at h1;rw[hx] at h1;simp only at h1
  split at h1
  · cases h1
  · rename_i h2
    have h3:=Classical.not_not.1 ((cW (by decide)).1 h1);have ht:=(dw h).table;refine⟨Classical.byContradiction λe=>h2 (.inl e),λj y hj hy e=>h2 (.inr ⟨y,List.mem_iff_getElem?.2 ⟨j,by rw[List.getElem?_take,if_pos hj];exact hy⟩,e⟩),?_⟩;obtain⟨h4,h5⟩:=h3;unfold kE at h4;have hw:IntKind.i64.wrap (m.Table+1)=m.Table+1:=by unfold IntKind.wrap;simp[IntKind.signed,IntKind.bits];omega
    have k0:oE 0=0:=by decide
    have k1:oE 1=1:=by decide
    have k2:oE 2=2:=by decide
    have k3:oE 3=3:=by decide
    rcases(by omega:x.Kind=0\/x.Kind=1\/x.Kind=2\/x.Kind=3) with e|e|e|e
    · rw[e,k0] at h5;exact .inl (.inl (.inl ⟨e,h5⟩))
    · rw[e,k1] at h5;unfold kE at h5;simp only[cnt,hw] at h5;exact .inl (.inl (.inr ⟨⟨e,by omega⟩,by omega⟩))
    · rw[e,k2] at h5;exact .inl (.inr ⟨e,h5⟩)
    · rw[e,k3] at h5;exact .inr ⟨e,h5⟩
theorem GP(h:dB m)(hn:m.Start≠ -1):kE m.Start (dc m)/\∀s,eY m m.Start=some s->¬0<(s.P.length:Int)+(s.R.length:Int):=by
 have h1:=h.start;unfold ko at h1;rw[if_neg hn] at h1;have hI:∀z∈m.ay,iq m z=0:=fM.1 (bT.1 h.imports).2;cases hs:eY m m.Start with
 |none=>rw[hs] at h1;cases h1
 |some s=>
  rw[hs] at h1;refine⟨(ML hI (q7 h.funcs)).1 (by rw[hs];rfl),λs' e=>?_⟩;cases e;exact(cW (by decide)).1 h1
theorem ru(h:dB m){z:gR}(hz:z∈m.bN):(z.aq.length:Int)<=20/\0<=m.Table/\z.At<=4294967295/\∀f∈z.aq,kE f (dc m):=by
 have h1:=fM.1 (bT.1 h.elems).2 z hz;unfold uN at h1
 split at h1
 · cases h1
 · have h2:=(cW (by decide)).1 h1
   have ht:=(dw h).table;have h3:m.Table≠ -1:=λe=>h2 (.inl e);exact⟨by omega,by omega,Classical.byContradiction λe=>h2 (.inr (.inr (by omega))),λf hf=>Classical.byContradiction λe=>h2 (.inr (.inl ⟨f,hf,e⟩))⟩
theorem wN(h:dB m){z:oD}(hz:z∈m.dA):(z.Bytes.length:Int)<=4096/\kE z.Mem m.cP.length/\∀y,m.cP[z.Mem.toNat]?=some y->¬(¬y.cj/\4294967295<z.At):=by
 have h1:=fM.1 (bT.1 h.cu).2 z hz;unfold uO at h1
 split at h1
 · cases h1
 · have h2:=(cW (by decide)).1 h1
   exact⟨by omega,Classical.byContradiction λe=>h2 (.inl e),λy hy e=>h2 (.inr ⟨y,hy,e⟩)⟩
def aN(c:Int):Prop:=c=2\/c=3\/c=4
instance (c:Int):Decidable (aN c):=inferInstanceAs (Decidable (_\/_))
def fQ:List Int->List (Int×Bool)->Prop
 |[],_=>False
 | c::r,st=>
  if aN c then st.length<64/\fQ r ((c,false)::st)
  else if c=5 then match st with
   |[]=>False
   |(b,e)::t=>(b=4/\e=false)/\fQ r ((b,true)::t)
  else if c=11 then match st with
   |[]=>r=[]
   |_::t=>fQ r t
  else fQ r st
theorem jj(c:Int)(r:List Int)(st:List (Int×Bool)):fQ (c::r) st=(if aN c then st.length<64/\fQ r ((c,false)::st)
    else if c=5 then match st with
      |[]=>False
      |(b,e)::t=>(b=4/\e=false)/\fQ r ((b,true)::t)
    else if c=11 then match st with
      |[]=>r=[]
      |_::t=>fQ r t
    else fQ r st):=by
  rw[fQ.eq_def]
def eM:Nat->List Int->Nat->Option (List Int)
 |0,_,_=>none
 |_+1,[],_=>some []
 | f +1,c::r,d=>
  if c=11\/c=5 then some (c::r)
  else if aN c then
   if 64<=d then none else
   match eM f r (d+1) with
   |none=>none
   |some []=>none
   | some (c2::r2)=>
    if c2=5 then
     if c=4 then
      match eM f r2 (d+1) with
      |none=>none
      |some []=>none
      |some (c3::r3)=>if c3=5 then none else eM f r3 d
     else none
    else eM f r2 d
  else eM f r d
theorem nZ :∀(f:Nat) (s:List Int) (d:Nat),s.length<f->d<=64->
    (eM f s d=none->∀st,st.length=d->¬fQ s st)/\
    (∀r,eM f s d=some r->r.length<=s.length/\(∀c r',r=c::r'->c=11\/c=5)/\∀st,st.length=d->(fQ s st↔fQ r st)):=by
  intro f
  induction f with
  |zero=>intro s d h;omega
  | succ f ih =>
    intro s d h hd;cases s with
    |nil=>simp[eM]
    | cons c r =>
      simp only[List.length_cons] at h;by_cases h1:c=11\/c=5
      · simp only[eM,h1,if_true]
        refine⟨by simp,λr' hr=>?_⟩;cases hr;exact⟨Nat.le_refl _,λc' r' e=>by cases e;exact h1,λst _=>Iff.rfl⟩
      by_cases h2:aN c
      · simp only [eM,h1,if_false,h2,if_true]
        have hn:∀st,fQ (c::r) st↔st.length<64/\fQ r ((c,false)::st):=λst=>by rw[jj];simp[h2]
        by_cases h3:64<=d
        · simp only[h3,if_true]
          refine⟨λ_ st hs hh=>?_,by simp⟩;have:=((hn st).1 hh).1;omega
        simp only[h3,if_false];have i1:=ih r (d+1) (by omega) (by omega);generalize eM f r (d+1)=o1 at i1;have q:∀st,st.length=d->(fQ (c::r) st↔fQ r ((c,false)::st)):=λst hs=>(hn st).trans ⟨λx=>x.2,λx=>⟨by omega,x⟩⟩
        match o1,i1 with
        |none,i1=>exact⟨λ_ st hs hh=>i1.1 rfl ((c,false)::st) (by simp[hs]) ((q st hs).1 hh),by simp⟩
        | some [],i1=>
          obtain⟨_,_,i3⟩:=i1.2 [] rfl;exact⟨λ_ st hs hh=>by have:=(i3 ((c,false)::st) (by simp[hs])).1 ((q st hs).1 hh);exact this,by simp⟩
        | some (c2::r2),i1=>
          obtain⟨l2,k2,i3⟩:=i1.2 _ rfl;simp only[List.length_cons] at l2;have q2:∀st,st.length=d->(fQ (c::r) st↔fQ (c2::r2) ((c,false)::st)):=λst hs=>(q st hs).trans (i3 _ (by simp[hs]));rcases k2 c2 r2 rfl with e|e
          · subst e
            have hi:=ih r2 d (by omega) hd;have q3:∀st,st.length=d->(fQ (c::r) st↔fQ r2 st):=λst hs=>(q2 st hs).trans (by rw[fQ];simp[aN]);simp only[show ¬((11:Int)=5) by decide,if_false];exact⟨λe st hs hh=>hi.1 e st hs ((q3 st hs).1 hh),λr' e=>⟨by have:=(hi.2 r' e).1;simp;omega,(hi.2 r' e).2.1,λst hs=>(q3 st hs).trans ((hi.2 r' e).2.2 st hs)⟩⟩
          · subst e
            simp only[if_true];by_cases h4:c=4
            · subst h4
              simp only[if_true];have q3:∀st,st.length=d->(fQ (4::r) st↔fQ r2 ((4,true)::st)):=λst hs=>(q2 st hs).trans (by rw[fQ];simp[aN]);have i4:=ih r2 (d+1) (by omega) (by omega);generalize eM f r2 (d+1)=o2 at i4
              match o2,i4 with
              |none,i4=>exact⟨λ_ st hs hh=>i4.1 rfl _ (by simp[hs]) ((q3 st hs).1 hh),by simp⟩
              | some [],i4=>
                obtain⟨_,_,i5⟩:=i4.2 [] rfl;exact⟨λ_ st hs hh=>(i5 ((4,true)::st) (by simp[hs])).1 ((q3 st hs).1 hh),by simp⟩
              | some (c3::r3),i4=>
                obtain⟨l3,k3,i5⟩:=i4.2 _ rfl;simp only[List.length_cons] at l3;have q4:∀st,st.length=d->(fQ (4::r) st↔fQ (c3::r3) ((4,true)::st)):=λst hs=>(q3 st hs).trans (i5 _ (by simp[hs]));rcases k3 c3 r3 rfl with e|e
                · subst e
                  have hi:=ih r3 d (by omega) hd;have q5:∀st,st.length=d->(fQ (4::r) st↔fQ r3 st):=λst hs=>(q4 st hs).trans (by rw[fQ];simp[aN]);simp only[show ¬((11:Int)=5) by decide,if_false];exact⟨λe st hs hh=>hi.1 e st hs ((q5 st hs).1 hh),λr' e=>⟨by have:=(hi.2 r' e).1;simp;omega,(hi.2 r' e).2.1,λst hs=>(q5 st hs).trans ((hi.2 r' e).2.2 st hs)⟩⟩
                · subst e
                  simp only[if_true];exact⟨λ_ st hs hh=>by have:=(q4 st hs).1 hh;rw[fQ] at this;simp[aN] at this,by simp⟩
            · simp only[h4,if_false]
              exact⟨λ_ st hs hh=>by have:=(q2 st hs).1 hh;rw[fQ] at this;simp[aN,h4] at this,by simp⟩
      · simp only[eM,h1,if_false,h2]
        have hn:∀st,fQ (c::r) st↔fQ r st:=λst=>by
          rw[jj];simp only[h2,if_false]
          rw[if_neg (λe=>h1 (.inr e)),if_neg (λe=>h1 (.inl e))]
        have hi:=ih r d (by omega) hd;exact⟨λe st hs hh=>hi.1 e st hs ((hn st).1 hh),λr' e=>⟨by have:=(hi.2 r' e).1;simp;omega,(hi.2 r' e).2.1,λst hs=>(hn st).trans ((hi.2 r' e).2.2 st hs)⟩⟩
theorem x6{f:Nat}{s:List Int}(h:s.length<f):fQ s []↔eM f s 0=some [11]:=by
 have hi:=nZ f s 0 h (by omega);generalize eM f s 0=o at hi
 match o,hi with
 |none,hi=>simp[hi.1 rfl [] rfl]
 |some [],hi=>simp[(hi.2 [] rfl).2.2 [] rfl,fQ]
 |some (c::r),hi=>
  obtain⟨_,k,q⟩:=hi.2 _ rfl;rw[q [] rfl];rcases k c r rfl with e|e<;>subst e<;>simp[fQ,aN]
end Go.Hl
end
section
namespace Go.Hl
abbrev ee:=List UInt8×Prop
open Classical in
noncomputable def jq(s:ee)(want:UInt8):Option (ee×UInt8):=
 match s.1.getLast? with
 |none=>if s.2 then some (s,want) else none
 |some got=>if got=want\/got=0\/want=0 then some ((s.1.dropLast,s.2),if got=0 then want else got) else none
noncomputable def zm(s:ee):List UInt8->Option ee
 |[]=>some s
 |t::l=>(jq s t).bind λp=>zm p.1 l
noncomputable def dD(s:ee)(l:List UInt8):Option ee:=zm s l.reverse
def bG(s:ee)(l:List UInt8):ee:=(s.1++l,s.2)
def fT:ee:=([],True)
structure eT where
 loop:Prop
 is:Prop
 res:List UInt8
 st:ee
open Classical in
noncomputable def qw(b:eT):List UInt8:=if b.loop then[] else b.res
def su(fs:List eT):Nat:=(fs.map λb=>b.st.1.length).sum
section
variable {ι:Type} (cd:ι->Int) (rr:ι->List UInt8) (pl:ι->ee->List (List UInt8)->Option ee)
open Classical
noncomputable def oG(b:eT):Prop:=∃s,dD b.st b.res=some s/\s.1=[]
noncomputable def cR(x:ι)(fs:List eT)(b:eT):Option (List eT):=
 if cd x=11 then
  if oG b/\(b.is->b.res=[]) then some (match fs.getLast? with
   |none=>[]
   |some t=>fs.dropLast++[{t with st:=bG t.st b.res}]) else none
 else if cd x=5 then if oG b then some (fs++[{b with is:=False,st:=([],False)}]) else none
 else if aN (cd x) then(if cd x=4 then dD b.st [127] else some b.st).map λs=>fs++[{b with st:=s}]++[⟨cd x=3,cd x=4,rr x,([],False)⟩]
 else(pl x b.st ((fs++[b]).map qw)).map λs=>fs++[{b with st:=s}]
noncomputable def kG:List ι->List eT->Option (List Nat)
 |[],_=>some []
 |x::r,fs=>match fs.getLast? with
  |none=>none
  |some b=>(cR cd rr pl x fs.dropLast b).bind λfs'=>(kG r fs').map (su fs:: ·)
noncomputable def kH:Nat->List ι->List (List UInt8)->List UInt8->ee->Nat->Option (List Nat×List ι)
 |0,_,_,_,_,_=>none
 |_+1,[],_,_,_,_=>some ([],[])
 | f +1,x::r,labs,res,s,base=>
  if cd x=11\/cd x=5 then
   if ∃s',dD s res=some s'/\s'.1=[] then some ([base+s.1.length],x::r) else none
  else if aN (cd x) then
   (if cd x=4 then dD s [127] else some s).bind λs1=>
   (kH f r (labs++[if cd x=3 then[] else rr x]) (rr x) ([],False) (base+s1.1.length)).bind λp=>
   match p.2 with
   |[]=>none
   | x2::r2=>
    if cd x2=5 then
     (kH f r2 (labs++[if cd x=3 then[] else rr x]) (rr x) ([],False) (base+s1.1.length)).bind λp2=>
     match p2.2 with
     |[]=>none
     |_::r3=>(kH f r3 labs res (bG s1 (rr x)) base).map λp3=>((base+s.1.length)::p.1++p2.1++p3.1,p3.2)
    else if cd x=4/\rr x≠[] then none
    else(kH f r2 labs res (bG s1 (rr x)) base).map λp3=>((base+s.1.length)::p.1++p3.1,p3.2)
  else(pl x s labs).bind λs1=>(kH f r labs res s1 base).map λp=>((base+s.1.length)::p.1,p.2)
theorem qx(x:ι)(r:List ι)(fs:List eT)(b:eT):kG cd rr pl (x::r) (fs++[b])=(cR cd rr pl x fs b).bind λfs'=>(kG cd rr pl r fs').map (su (fs++[b]):: ·):=by
 simp[kG]
theorem jk(fs:List eT)(b:eT):su (fs++[b])=su fs+b.st.1.length:=by simp[su]
theorem Ov : ∀        (f:Nat) (s:List ι) (d:Nat) (labs:List (List UInt8)) (res:List UInt8) (st:ee) (base:Nat) (fs:List eT) (loop is:Prop) (jy:List Int),
    s.length<f->eM f (s.map cd) d=some jy->jy≠[]->labs=(fs++[eT.mk loop is res st]).map qw->base=su fs->
    (kH cd rr pl f s labs res st base=none->kG cd rr pl s (fs++[eT.mk loop is res st])=none)/\
    (∀hs rest,kH cd rr pl f s labs res st base=some (hs,rest)->rest.map cd=jy/\∃st',(∃s',dD st' res=some s'/\s'.1=[])/\
      ∀x r,rest=x::r->kG cd rr pl s (fs++[eT.mk loop is res st])=(cR cd rr pl x fs ⟨loop,is,res,st'⟩).bind λfs'=>(kG cd rr pl r fs').map (hs++ ·)):=by
  intro f
  induction f with
  |zero=>intro s _ _ _ _ _ _ _ _ _ h;omega
  | succ f ih =>
    intro s d labs res st base fs loop is jy h hr hne hl hb;cases s with
    |nil=>simp[eM] at hr;exact absurd hr hne
    | cons x r =>
      simp only[List.length_cons] at h;rw[qx,jk,<-hb];simp only[List.map_cons,eM] at hr;by_cases h1:cd x=11\/cd x=5
      · simp only[h1,if_true,Option.some.injEq] at hr
        simp only[kH,h1,if_true];by_cases hc:∃s',dD st res=some s'/\s'.1=[]
        · simp only[hc,if_true]
          refine⟨by simp,λhs rest e=>?_⟩;simp only[Option.some.injEq,Prod.mk.injEq] at e;obtain⟨rfl,rfl⟩:=e;refine⟨by simpa using hr,st,hc,λx' r' e=>?_⟩;cases e;rfl
        · simp only[hc,if_false]
          refine⟨λ_=>?_,by simp⟩
          have:cR cd rr pl x fs ⟨loop,is,res,st⟩=none:=by
            unfold cR;rcases h1 with h1|h1<;>simp[h1,oG]<;>intros<;>simp_all
          rw[this];rfl
      simp only[h1,if_false] at hr;have h11:cd x≠11:=λe=>h1 (.inl e);have h5:cd x≠5:=λe=>h1 (.inr e);by_cases h2:aN (cd x)
      · simp only [h2,if_true] at hr
        by_cases h3:64<=d
        · simp[h3] at hr
        simp only[h3,if_false] at hr
        have hx0:cR cd rr pl x fs (eT.mk loop is res st)=(if cd x=4 then dD st [127] else some st).map λs=>fs++[eT.mk loop is res s]++[eT.mk (cd x=3) (cd x=4) (rr x) ([],False)]:=by
          simp only[cR,h11,h5,h2,if_true,if_false]
        rw[hx0];simp only[kH,h1,if_false,h2,if_true];generalize (if cd x=4 then dD st [127] else some st)=o1
        match o1 with
        |none=>simp
        | some s1 =>
          simp only[Option.map_some,Option.bind_some];cases JB:eM f (r.map cd) (d+1) with
          |none=>simp[JB] at hr
          | some GQ =>
            simp only[JB] at hr;have af1:GQ≠[]:=by intro e;simp[e] at hr
            have i1:=ih r (d+1) (labs++[if cd x=3 then[] else rr x]) (rr x) ([],False) (base+s1.1.length) (fs++[eT.mk loop is res s1]) (cd x=3) (cd x=4) GQ (by omega) JB af1
              (by rw[hl];simp[qw]) (by rw[jk,hb])
            obtain⟨af2,k1,_⟩:=(nZ f (r.map cd) (d+1) (by simpa using(by omega:r.length<f)) (by omega)).2 GQ JB;simp only[List.length_map] at af2;generalize kH cd rr pl f r (labs++[if cd x=3 then[] else rr x]) (rr x) ([],False) (base+s1.1.length)=o2 at i1
            match o2,i1 with
            |none,i1=>rw[i1.1 rfl];simp
            |some (l6,[]),i1=>exact absurd (i1.2 l6 [] rfl).1.symm (by simpa using af1)
            | some (l6, x2 ::r2),i1=>
              obtain⟨e1,XQ,zk,q1⟩:=i1.2 _ _ rfl;have q1:=q1 x2 r2 rfl;simp only[Option.bind_some];rw[q1];subst e1;simp only[List.map_cons,List.length_cons,List.length_map] at hr af2
              have key:∀(f':Prop) (xK:ee) (r3:List ι) (hsA:List Nat) (x3:ι),cd x3=11->(∃s',dD xK (rr x)=some s'/\s'.1=[])->r3.length<f->eM f (r3.map cd) d=some jy->
                  ((f'/\rr x≠[]->(((cR cd rr pl x3 (fs++[eT.mk loop is res s1]) (eT.mk (cd x=3) f' (rr x) xK)).bind λfs'=>(kG cd rr pl r3 fs').map (hsA++ ·))=none))/\
                  (¬ (f'/\rr x≠[])->(kH cd rr pl f r3 labs res (bG s1 (rr x)) base=none->(((cR cd rr pl x3 (fs++[eT.mk loop is res s1]) (eT.mk (cd x=3) f' (rr x) xK)).bind λfs'=>(kG cd rr pl r3 fs').map (hsA++ ·))=none))/\
                    (∀WX MP,kH cd rr pl f r3 labs res (bG s1 (rr x)) base=some (WX,MP)->MP.map cd=jy/\∃st',(∃s',dD st' res=some s'/\s'.1=[])/\
                      ∀y r',MP=y::r'->((cR cd rr pl x3 (fs++[eT.mk loop is res s1]) (eT.mk (cd x=3) f' (rr x) xK)).bind λfs'=>(kG cd rr pl r3 fs').map (hsA++ ·))=(cR cd rr pl y fs ⟨loop,is,res,st'⟩).bind λfs'=>(kG cd rr pl r' fs').map ((hsA++WX)++ ·)))):=by
                intro f' xK r3 hsA x3 h3 hc3 hlen hr3
                have hst:cR cd rr pl x3 (fs++[eT.mk loop is res s1]) (eT.mk (cd x=3) f' (rr x) xK)=if (f'->rr x=[]) then some (fs++[eT.mk loop is res (bG s1 (rr x))]) else none:=by
                  have r7:oG (eT.mk (cd x=3) f' (rr x) xK):=hc3;simp[cR,h3,r7]
                rw[hst];refine⟨λhf=>by rw[if_neg (λe=>hf.2 (e hf.1))];rfl,λhf=>?_⟩;rw[if_pos (λe=>Classical.byContradiction λe'=>hf ⟨e,e'⟩)];simp only[Option.bind_some];have i3:=ih r3 d labs res (bG s1 (rr x)) base fs loop is jy hlen hr3 hne (by rw[hl];simp[qw]) hb;refine⟨λe=>by rw[i3.1 e];rfl,λWX MP e=>?_⟩;obtain⟨a1,st',a2,a3⟩:=i3.2 _ _ e;refine⟨a1,st',a2,λy r' e'=>?_⟩;rw[a3 y r' e'];cases cR cd rr pl y fs ⟨loop,is,res,st'⟩ with
                |none=>rfl
                |some z=>simp only[Option.bind_some,Option.map_map];congr 1;funext l;simp
              have done:∀{o:Option (List Nat)} {z:Nat} {g:List Nat->List Nat},(Option.map (z:: ·) (Option.map g o))=Option.map (λl=>z::g l) o:=λ{o z g}=>by cases o<;>rfl
              rcases k1 (cd x2) _ rfl with e|e
              · have hr':eM f (r2.map cd) d=some jy:=by simpa[e] using hr
                obtain⟨kA,kB⟩:=key (cd x=4) XQ r2 l6 x2 e zk (by omega) hr';simp only[e,show ¬((11:Int)=5) by decide,if_false];by_cases hf:cd x=4/\rr x≠[]
                · rw[if_pos hf,kA hf]
                  exact⟨λ_=>rfl,by simp⟩
                · rw[if_neg hf]
                  obtain⟨kC,kD⟩:=kB hf;refine⟨λe'=>?_,λhs rest e'=>?_⟩
                  · rw[kC (by simpa using e')];rfl
                  · obtain⟨p3,e3,e4⟩:=Option.map_eq_some_iff.1 e'
                    simp only[Prod.mk.injEq] at e4;obtain⟨rfl,rfl⟩:=e4;obtain⟨a1,st',a2,a3⟩:=kD _ _ (by rw[e3]);refine⟨a1,st',a2,λy r' e5=>?_⟩;rw[a3 y r' e5];cases cR cd rr pl y fs ⟨loop,is,res,st'⟩ with
                    |none=>rfl
                    |some z=>simp only[Option.bind_some];rw[done];rfl
              · simp only [e,if_true] at hr ⊢
                by_cases h4:cd x=4
                · simp only [h4,if_true] at hr
                  cases Ga:eM f (r2.map cd) (d+1) with
                  |none=>simp[Ga] at hr
                  | some yP=>
                    simp only[Ga] at hr;have af3:yP≠[]:=by intro e;simp[e] at hr
                    have i2:=ih r2 (d+1) (labs++[if cd x=3 then[] else rr x]) (rr x) ([],False) (base+s1.1.length) (fs++[eT.mk loop is res s1]) (cd x=3) False yP (by omega) Ga af3
                      (by rw[hl];simp[qw]) (by rw[jk,hb])
                    obtain⟨af4,k2,_⟩:=(nZ f (r2.map cd) (d+1) (by simpa using(by omega:r2.length<f)) (by omega)).2 yP Ga;simp only[List.length_map] at af4
                    have aK6:cR cd rr pl x2 (fs++[eT.mk loop is res s1]) (eT.mk (cd x=3) (cd x=4) (rr x) XQ)=some (fs++[eT.mk loop is res s1]++[eT.mk (cd x=3) False (rr x) ([],False)]):=by
                      have r7:oG (eT.mk (cd x=3) (cd x=4) (rr x) XQ):=zk;simp only[cR,e,show ¬((5:Int)=11) by decide,if_false,if_true,r7]
                    rw[aK6];simp only[Option.bind_some];generalize kH cd rr pl f r2 (labs++[if cd x=3 then[] else rr x]) (rr x) ([],False) (base+s1.1.length)=o3 at i2
                    match o3,i2 with
                    |none,i2=>rw[i2.1 rfl];simp
                    |some (qR,[]),i2=>exact absurd (i2.2 qR [] rfl).1.symm (by simpa using af3)
                    | some (qR,x3::r3),i2=>
                      obtain⟨e2,xK,aK7,q2⟩:=i2.2 _ _ rfl;rw[q2 x3 r3 rfl];subst e2;simp only[List.map_cons,List.length_cons,List.length_map] at hr af4;rcases k2 (cd x3) _ rfl with e3|e3
                      · have hr':eM f (r3.map cd) d=some jy:=by simpa[e3] using hr
                        obtain⟨kA,kB⟩:=key False xK r3 (l6++qR) x3 e3 aK7 (by omega) hr';obtain⟨kC,kD⟩:=kB (λh=>h.1)
                        have hmm:(Option.map (l6++ ·) ((cR cd rr pl x3 (fs++[eT.mk loop is res s1]) (eT.mk (cd x=3) False (rr x) xK)).bind λfs'=>(kG cd rr pl r3 fs').map (qR++ ·)))=
                            ((cR cd rr pl x3 (fs++[eT.mk loop is res s1]) (eT.mk (cd x=3) False (rr x) xK)).bind λfs'=>(kG cd rr pl r3 fs').map (l6++qR++ ·)):=by
                          cases cR cd rr pl x3 (fs++[eT.mk loop is res s1]) (eT.mk (cd x=3) False (rr x) xK) with
                          |none=>rfl
                          |some z=>simp only[Option.bind_some];cases kG cd rr pl r3 z<;>simp
                        rw[hmm];simp only[Option.bind_some];refine⟨λe'=>?_,λhs rest e'=>?_⟩
                        · rw[kC (by simpa using e')];rfl
                        · obtain⟨p3,e3,e4⟩:=Option.map_eq_some_iff.1 e'
                          simp only[Prod.mk.injEq] at e4;obtain⟨rfl,rfl⟩:=e4;obtain⟨a1,st',a2,a3⟩:=kD _ _ (by rw[e3]);refine⟨a1,st',a2,λy r' e5=>?_⟩;rw[a3 y r' e5];cases cR cd rr pl y fs ⟨loop,is,res,st'⟩ with
                          |none=>rfl
                          |some z=>simp only[Option.bind_some];rw[done];rfl
                      · simp[e3] at hr
                · simp[h4] at hr
      · simp only[h2,if_false] at hr
        have hx0:cR cd rr pl x fs (eT.mk loop is res st)=(pl x st labs).map λs=>fs++[eT.mk loop is res s]:=by
          simp only[cR,h11,h5,h2,if_false,hl]
        rw[hx0];simp only[kH,h1,if_false,h2];cases pl x st labs with
        |none=>simp
        | some s1=>
          simp only[Option.map_some,Option.bind_some];have i1:=ih r d labs res s1 base fs loop is jy (by omega) hr hne (by rw[hl];simp[qw]) hb;refine⟨λe'=>?_,λhs rest e'=>?_⟩
          · rw[i1.1 (by simpa using e')];rfl
          · obtain⟨p3,e3,e4⟩:=Option.map_eq_some_iff.1 e'
            simp only[Prod.mk.injEq] at e4;obtain⟨rfl,rfl⟩:=e4;obtain⟨a1,st',a2,a3⟩:=i1.2 _ _ (by rw[e3]);refine⟨a1,st',a2,λy r' e5=>?_⟩;rw[a3 y r' e5];cases cR cd rr pl y fs ⟨loop,is,res,st'⟩ with
            |none=>rfl
            |some z=>simp only[Option.bind_some];cases kG cd rr pl r' z<;>rfl
theorem Ow{f:Nat}{s:List ι}{res:List UInt8}(h:s.length<f)(hr:eM f (s.map cd) 0=some [11]):
    kG cd rr pl s [eT.mk False False res ([],False)]=(kH cd rr pl f s [res] res ([],False) 0).map Prod.fst:=by
  have i:=Ov cd rr pl f s 0 [res] res ([],False) 0 [] False False [11] h hr (by simp) (by simp[qw]) rfl;generalize kH cd rr pl f s [res] res ([],False) 0=o at i
  match o,i with
  |none,i=>simpa using i.1 rfl
  | some (hs,rest),i=>
    obtain⟨e,st',hc,q⟩:=i.2 _ _ rfl
    obtain⟨x,rfl⟩:∃x,rest=[x]:=by
      cases rest with
      |nil=>simp at e
      | cons x t=>cases t with
        |nil=>exact⟨x,rfl⟩
        |cons y t=>simp at e
    have q:=q x [] rfl;simp only[List.nil_append] at q;have hx:cd x=11:=by simpa using e
    have r7:oG (eT.mk False False res st'):=hc;rw[q];simp[cR,hx,r7,kG]
end
end Go.Hl
end
section
namespace Go.Hl
structure pF where
 Code:Int
 Name:List UInt8
 Form:Int
 wO:List UInt8
 s4:List UInt8
 deriving DecidableEq
structure oH where
 code:Int
 name:List UInt8
 form:Int
 takes:List UInt8
 yQ:List UInt8
 deriving DecidableEq
structure GR where
 first:Int
 many:Int
 group:Int
 bits:Int
 from_:Int
 deriving DecidableEq
def uh(x:pF):List VP:=[af .i64 x.Code,dV x.Name,af .i64 x.Form,ai 1 an x.wO,ai 1 an x.s4]
def iC(x:oH):List VP:=[af .i64 x.code,dV x.name,af .i64 x.form,dV x.takes,dV x.yQ]
def uj(x:GR):List VP:=[af .i64 x.first,af .i64 x.many,af .i64 x.group,af .i64 x.bits,af .i64 x.from_]
def wP(x:Int×Int):List VP:=[af .i64 x.1,af .i64 x.2]
def kO(x:List UInt8):List VP:=[dV x]
instance:gX 5 uh:=⟨λ_=>rfl,λx q h=>by simp only[uh,List.mem_cons,List.not_mem_nil,or_false] at h;rcases h with h|h|h|h|h<;>rw[h]<;>infer_instance⟩
instance:gX 5 iC:=⟨λ_=>rfl,λx q h=>by simp only[iC,List.mem_cons,List.not_mem_nil,or_false] at h;rcases h with h|h|h|h|h<;>rw[h]<;>infer_instance⟩
instance:gX 5 uj:=⟨λ_=>rfl,λx q h=>by simp only[uj,List.mem_cons,List.not_mem_nil,or_false] at h;rcases h with h|h|h|h|h<;>rw[h]<;>infer_instance⟩
instance:gX 2 wP:=⟨λ_=>rfl,λx q h=>by simp only[wP,List.mem_cons,List.not_mem_nil,or_false] at h;rcases h with h|h<;>rw[h]<;>infer_instance⟩
instance:gX 1 kO:=⟨λ_=>rfl,λx q h=>by simp only[kO,List.mem_cons,List.not_mem_nil,or_false] at h;rw[h];infer_instance⟩
instance (x:pF):bD (uh x):=⟨λq h=>(inferInstance:gX 5 uh).flat x q h⟩
instance (x:oH):bD (iC x):=⟨λq h=>(inferInstance:gX 5 iC).flat x q h⟩
instance (x:GR):bD (uj x):=⟨λq h=>(inferInstance:gX 5 uj).flat x q h⟩
instance (x:Int×Int):bD (wP x):=⟨λq h=>(inferInstance:gX 2 wP).flat x q h⟩
def jz:List oH:=[
 ⟨0,[117,110,114,101,97,99,104,97,98,108,101],0,[],[]⟩,
 ⟨1,[110,111,112],0,[],[]⟩,
 ⟨2,[98,108,111,99,107],1,[],[]⟩,
 ⟨3,[108,111,111,112],1,[],[]⟩,
 ⟨4,[105,102],1,[],[]⟩,
 ⟨5,[101,108,115,101],0,[],[]⟩,
 ⟨11,[101,110,100],0,[],[]⟩,
 ⟨12,[98,114],2,[],[]⟩,
 ⟨13,[98,114,95,105,102],2,[],[]⟩,
 ⟨14,[98,114,95,116,97,98,108,101],3,[],[]⟩,
 ⟨15,[114,101,116,117,114,110],0,[],[]⟩,
 ⟨16,[99,97,108,108],4,[],[]⟩,
 ⟨17,[99,97,108,108,95,105,110,100,105,114,101,99,116],5,[],[]⟩,
 ⟨26,[100,114,111,112],0,[],[]⟩,
 ⟨27,[115,101,108,101,99,116],0,[],[]⟩,
 ⟨32,[108,111,99,97,108,46,103,101,116],6,[],[]⟩,
 ⟨33,[108,111,99,97,108,46,115,101,116],6,[],[]⟩,
 ⟨34,[108,111,99,97,108,46,116,101,101],6,[],[]⟩,
 ⟨35,[103,108,111,98,97,108,46,103,101,116],7,[],[]⟩,
 ⟨36,[103,108,111,98,97,108,46,115,101,116],7,[],[]⟩,
 ⟨40,[105,51,50,46,108,111,97,100],8,[105],[105]⟩,
 ⟨41,[105,54,52,46,108,111,97,100],8,[105],[108]⟩,
 ⟨44,[105,51,50,46,108,111,97,100,56,95,115],8,[105],[105]⟩,
 ⟨45,[105,51,50,46,108,111,97,100,56,95,117],8,[105],[105]⟩,
 ⟨46,[105,51,50,46,108,111,97,100,49,54,95,115],8,[105],[105]⟩,
 ⟨47,[105,51,50,46,108,111,97,100,49,54,95,117],8,[105],[105]⟩,
 ⟨48,[105,54,52,46,108,111,97,100,56,95,115],8,[105],[108]⟩,
 ⟨49,[105,54,52,46,108,111,97,100,56,95,117],8,[105],[108]⟩,
 ⟨50,[105,54,52,46,108,111,97,100,49,54,95,115],8,[105],[108]⟩,
 ⟨51,[105,54,52,46,108,111,97,100,49,54,95,117],8,[105],[108]⟩,
 ⟨52,[105,54,52,46,108,111,97,100,51,50,95,115],8,[105],[108]⟩,
 ⟨53,[105,54,52,46,108,111,97,100,51,50,95,117],8,[105],[108]⟩,
 ⟨54,[105,51,50,46,115,116,111,114,101],8,[105,105],[]⟩,
 ⟨55,[105,54,52,46,115,116,111,114,101],8,[105,108],[]⟩,
 ⟨58,[105,51,50,46,115,116,111,114,101,56],8,[105,105],[]⟩,
 ⟨59,[105,51,50,46,115,116,111,114,101,49,54],8,[105,105],[]⟩,
 ⟨60,[105,54,52,46,115,116,111,114,101,56],8,[105,108],[]⟩,
 ⟨61,[105,54,52,46,115,116,111,114,101,49,54],8,[105,108],[]⟩,
 ⟨62,[105,54,52,46,115,116,111,114,101,51,50],8,[105,108],[]⟩,
 ⟨63,[109,101,109,111,114,121,46,115,105,122,101],9,[],[105]⟩,
 ⟨64,[109,101,109,111,114,121,46,103,114,111,119],9,[105],[105]⟩,
 ⟨65,[105,51,50,46,99,111,110,115,116],11,[],[105]⟩,
 ⟨66,[105,54,52,46,99,111,110,115,116],11,[],[108]⟩,
 ⟨167,[105,51,50,46,119,114,97,112,95,105,54,52],0,[108],[105]⟩,
 ⟨172,[105,54,52,46,101,120,116,101,110,100,95,105,51,50,95,115],0,[105],[108]⟩,
 ⟨173,[105,54,52,46,101,120,116,101,110,100,95,105,51,50,95,117],0,[105],[108]⟩,
 ⟨192,[105,51,50,46,101,120,116,101,110,100,56,95,115],0,[105],[105]⟩]
def j9:List oH:=[
 ⟨193,[105,51,50,46,101,120,116,101,110,100,49,54,95,115],0,[105],[105]⟩,
 ⟨194,[105,54,52,46,101,120,116,101,110,100,56,95,115],0,[108],[108]⟩,
 ⟨195,[105,54,52,46,101,120,116,101,110,100,49,54,95,115],0,[108],[108]⟩,
 ⟨196,[105,54,52,46,101,120,116,101,110,100,51,50,95,115],0,[108],[108]⟩,
 ⟨64522,[109,101,109,111,114,121,46,99,111,112,121],10,[105,105,105],[]⟩,
 ⟨64523,[109,101,109,111,114,121,46,102,105,108,108],9,[105,105,105],[]⟩]
def iD:List GR:=[⟨69,1,2,32,3⟩,⟨70,10,1,32,0⟩,⟨80,1,2,64,3⟩,⟨81,10,1,64,0⟩,⟨103,3,2,32,0⟩,⟨106,15,0,32,0⟩,⟨121,3,2,64,0⟩,⟨124,15,0,64,0⟩]
def Ox:List (List UInt8):=[[97,100,100],[115,117,98],[109,117,108],[100,105,118,95,115],[100,105,118,95,117],[114,101,109,95,115],[114,101,109,95,117],[97,110,100],[111,114],[120,111,114],[115,104,108],[115,104,114,95,115],[115,104,114,95,117],[114,111,116,108],[114,111,116,114]]
def Dw:List (List UInt8):=[[101,113],[110,101],[108,116,95,115],[108,116,95,117],[103,116,95,115],[103,116,95,117],[108,101,95,115],[108,101,95,117],[103,101,95,115],[103,101,95,117]]
def UU:List (List UInt8):=[[99,108,122],[99,116,122],[112,111,112,99,110,116],[101,113,122]]
def AI:List (List UInt8):=[[117,110,114,101,97,99,104,97,98,108,101],
 [110,111,112],
 [98,108,111,99,107],
 [108,111,111,112],
 [105,102],
 [101,108,115,101],
 [],
 [],
 [],
 [],
 [],
 [101,110,100],
 [98,114],
 [98,114,95,105,102],
 [98,114,95,116,97,98,108,101],
 [114,101,116,117,114,110],
 [99,97,108,108],
 [99,97,108,108,95,105,110,100,105,114,101,99,116],
 [],
 [],
 [],
 [],
 [],
 [],
 [],
 [],
 [100,114,111,112],
 [115,101,108,101,99,116],
 [],
 [],
 [],
 [],
 [108,111,99,97,108,46,103,101,116],
 [108,111,99,97,108,46,115,101,116],
 [108,111,99,97,108,46,116,101,101],
 [103,108,111,98,97,108,46,103,101,116],
 [103,108,111,98,97,108,46,115,101,116],
 [],
 [],
 [],
 [105,51,50,46,108,111,97,100],
 [105,54,52,46,108,111,97,100],
 [],
 [],
 [105,51,50,46,108,111,97,100,56,95,115],
 [105,51,50,46,108,111,97,100,56,95,117],
 [105,51,50,46,108,111,97,100,49,54,95,115],
 [105,51,50,46,108,111,97,100,49,54,95,117],
 [105,54,52,46,108,111,97,100,56,95,115],
 [105,54,52,46,108,111,97,100,56,95,117],
 [105,54,52,46,108,111,97,100,49,54,95,115],
 [105,54,52,46,108,111,97,100,49,54,95,117],
 [105,54,52,46,108,111,97,100,51,50,95,115],
 [105,54,52,46,108,111,97,100,51,50,95,117],
 [105,51,50,46,115,116,111,114,101],
 [105,54,52,46,115,116,111,114,101],
 [],
 [],
 [105,51,50,46,115,116,111,114,101,56],
 [105,51,50,46,115,116,111,114,101,49,54],
 [105,54,52,46,115,116,111,114,101,56],
 [105,54,52,46,115,116,111,114,101,49,54],
 [105,54,52,46,115,116,111,114,101,51,50],
 [109,101,109,111,114,121,46,115,105,122,101],
 [109,101,109,111,114,121,46,103,114,111,119],
 [105,51,50,46,99,111,110,115,116],
 [105,54,52,46,99,111,110,115,116],
 [],
 [],
 [105,51,50,46,101,113,122],
 [105,51,50,46,101,113],
 [105,51,50,46,110,101],
 [105,51,50,46,108,116,95,115],
 [105,51,50,46,108,116,95,117],
 [105,51,50,46,103,116,95,115],
 [105,51,50,46,103,116,95,117],
 [105,51,50,46,108,101,95,115],
 [105,51,50,46,108,101,95,117],
 [105,51,50,46,103,101,95,115],
 [105,51,50,46,103,101,95,117],
 [105,54,52,46,101,113,122],
 [105,54,52,46,101,113],
 [105,54,52,46,110,101],
 [105,54,52,46,108,116,95,115],
 [105,54,52,46,108,116,95,117],
 [105,54,52,46,103,116,95,115],
 [105,54,52,46,103,116,95,117],
 [105,54,52,46,108,101,95,115],
 [105,54,52,46,108,101,95,117],
 [105,54,52,46,103,101,95,115],
 [105,54,52,46,103,101,95,117],
 [],
 [],
 [],
 [],
 [],
 [],
 [],
 [],
 [],
 [],
 [],
 [],
 [105,51,50,46,99,108,122],
 [105,51,50,46,99,116,122],
 [105,51,50,46,112,111,112,99,110,116],
 [105,51,50,46,97,100,100],
 [105,51,50,46,115,117,98],
 [105,51,50,46,109,117,108],
 [105,51,50,46,100,105,118,95,115],
 [105,51,50,46,100,105,118,95,117],
 [105,51,50,46,114,101,109,95,115],
 [105,51,50,46,114,101,109,95,117],
 [105,51,50,46,97,110,100],
 [105,51,50,46,111,114],
 [105,51,50,46,120,111,114],
 [105,51,50,46,115,104,108],
 [105,51,50,46,115,104,114,95,115],
 [105,51,50,46,115,104,114,95,117],
 [105,51,50,46,114,111,116,108],
 [105,51,50,46,114,111,116,114],
 [105,54,52,46,99,108,122],
 [105,54,52,46,99,116,122],
 [105,54,52,46,112,111,112,99,110,116],
 [105,54,52,46,97,100,100],
 [105,54,52,46,115,117,98],
 [105,54,52,46,109,117,108],
 [105,54,52,46,100,105,118,95,115],
 [105,54,52,46,100,105,118,95,117],
 [105,54,52,46,114,101,109,95,115],
 [105,54,52,46,114,101,109,95,117],
 [105,54,52,46,97,110,100],
 [105,54,52,46,111,114],
 [105,54,52,46,120,111,114],
 [105,54,52,46,115,104,108],
 [105,54,52,46,115,104,114,95,115],
 [105,54,52,46,115,104,114,95,117],
 [105,54,52,46,114,111,116,108],
 [105,54,52,46,114,111,116,114],
 [],
 [],
 [],
 [],
 [],
 [],
 [],
 [],
 [],
 [],
 [],
 [],
 [],
 [],
 [],
 [],
 [],
 [],
 [],
 [],
 [],
 [],
 [],
 [],
 [],
 [],
 [],
 [],
 [105,51,50,46,119,114,97,112,95,105,54,52],
 [],
 [],
 [],
 [],
 [105,54,52,46,101,120,116,101,110,100,95,105,51,50,95,115],
 [105,54,52,46,101,120,116,101,110,100,95,105,51,50,95,117],
 [],
 [],
 [],
 [],
 [],
 [],
 [],
 [],
 [],
 [],
 [],
 [],
 [],
 [],
 [],
 [],
 [],
 [],
 [105,51,50,46,101,120,116,101,110,100,56,95,115],
 [105,51,50,46,101,120,116,101,110,100,49,54,95,115],
 [105,54,52,46,101,120,116,101,110,100,56,95,115],
 [105,54,52,46,101,120,116,101,110,100,49,54,95,115],
 [105,54,52,46,101,120,116,101,110,100,51,50,95,115]]
def AJ:List (Int×Int):=[(28,28),(37,38),(42,43),(56,57),(67,68),(91,102),(139,166),(168,171),(174,191),(208,210),(253,253),(64512,64519),(64520,64521),(64524,64526),(64527,64529)]
theorem wQ{α:Type}{p:α->Bool}:∀{l:List α} {k:Nat} {x:α},l[k]?=some x->p x=true->(∀j y,j<k->l[j]?=some y->p y=false)->l.find? p=some x
 |[],_,_,h,_,_=>by simp at h
 |y::l,0,x,h,hp,_=>by simp at h;subst h;simp[hp]
 |y::l,k+1,x,h,hp,hn=>by
  rw[List.find?_cons_of_neg (by simpa using hn 0 y (by omega) rfl)];exact wQ (l:=l) (k:=k) (by simpa using h) hp (λj z hj hz=>hn (j+1) z (by omega) (by simpa using hz))
def iE(l:List UInt8):List UInt8:=l.map λc=>if c=108 then 126 else 127
def r8(l:List UInt8):Prop:=∀b∈l,b<128
instance (l:List UInt8):Decidable (r8 l):=inferInstanceAs (Decidable (∀b∈l,b<128))
def vm(r:oH):pF:=⟨r.code,r.name,r.form,iE r.takes,iE r.yQ⟩
def RL:pF:=⟨0,[],0,[],[]⟩
def WY:oH:=⟨0,[],0,[],[]⟩
def p6(code:Int)(s:GR):Bool:=decide (s.first<=code/\code<s.first+s.many)
def mz(code:Int):Option (Int×Int×Int):=(iD.find? (p6 code)).map λs=>(s.group,s.from_+code-s.first,s.bits)
def nH(b:Int):List UInt8:=if b=64 then[105,54,52,46] else[105,51,50,46]
def oX(b:Int):List UInt8:=if b=64 then[108] else[105]
def mA(code g n b:Int):oH:=
 if g=0 then⟨code,nH b++Ox.getD n.toNat [],0,oX b++oX b,oX b⟩
 else if g=1 then⟨code,nH b++Dw.getD n.toNat [],0,oX b++oX b,[105]⟩
 else if n=3 then⟨code,nH b++UU.getD n.toNat [],0,oX b,[105]⟩
 else⟨code,nH b++UU.getD n.toNat [],0,oX b,oX b⟩
def iF(code:Int):Option oH:=(mz code).map λp=>mA code p.1 p.2.1 p.2.2
def kP(code:Int)(r:oH):Bool:=decide (r.code=code)
def uC(code:Int):Option oH:=match jz.find? (kP code) with|some r=>some r|none=>match j9.find? (kP code) with|some r=>some r|none=>iF code
def eZ(code:Int):Option pF:=(uC code).map vm
def s5(code:Int):Prop:=∃r∈AJ,r.1<=code/\code<=r.2
instance (code:Int):Decidable (s5 code):=inferInstanceAs (Decidable (∃r∈AJ,r.1<=code/\code<=r.2))
def jA:List (List UInt8):=[[56],[49,54],[51,50]]
def AK(name:List UInt8):List UInt8:=tZ (tZ (xT name 46).2.1 [95,115]) [95,117]
def x7(name:List UInt8):Int:=if nr (AK name) [56] then 1 else if nr (AK name) [49,54] then 2 else if nr (AK name) [51,50] then 4 else if xS name [105,54,52] then 8 else 4
def jL(code:Int):Option Int:=match eZ code with|none=>none|some x=>if x.Form=8 then some (x7 x.Name) else none
def iO(code:Int):List UInt8:=if code=64522 then[109,101,109,111,114,121,46,99,111,112,121] else if code=64523 then[109,101,109,111,114,121,46,102,105,108,108] else if code<0\/196<code then[] else AI.getD code.toNat []
def aP(c:Int):Int:=
 if 2<=c/\c<=4 then 1 else if c=12\/c=13 then 2 else if c=14 then 3 else if c=16 then 4 else if c=17 then 5 else if 32<=c/\c<=34 then 6 else if c=35\/c=36 then 7 else if 40<=c/\c<=62 then 8 else if (c=63\/c=64)\/c=64523 then 9 else if c=64522 then 10 else if c=65\/c=66 then 11 else 0
def aQ(c:Int):List UInt8×List UInt8:=
 if c<40 then([],[]) else if c=40\/44<=c/\c<=47 then([127],[127]) else if c=41\/48<=c/\c<=53 then([127],[126]) else if (c=54\/c=58)\/c=59 then([127,127],[])
 else if c<=62 then([127,126],[]) else if c=63\/c=65 then([],[127]) else if c=66 then([],[126]) else if c=80\/c=167 then([126],[127])
 else if (70<=c/\c<=79)\/106<=c/\c<=120 then([127,127],[127]) else if 81<=c/\c<=90 then([126,126],[127]) else if 124<=c/\c<=138 then([126,126],[126])
 else if c=172\/c=173 then([127],[126]) else if (121<=c/\c<=123)\/194<=c/\c<=196 then([126],[126]) else if 64522<=c then([127,127,127],[]) else([127],[127])
def iW(c:Int):Int:=
 if c=40\/c=52\/c=53\/c=54\/c=62 then 4 else if c=41\/c=55 then 8 else if c=44\/c=45\/c=48\/c=49\/c=58\/c=60 then 1 else if c=46\/c=47\/c=50\/c=51\/c=59\/c=61 then 2 else 0
def wR(c:Int):Prop:=
 (c=28\/c=37\/c=38\/c=42\/c=43\/c=56\/c=57\/c=67\/c=68\/c=208\/c=209\/c=210\/c=253)\/(91<=c/\c<=102\/139<=c/\c<=166\/168<=c/\c<=171\/174<=c/\c<=191\/64512<=c/\c<=64521\/64524<=c/\c<=64529)
instance (c:Int):Decidable (wR c):=inferInstanceAs (Decidable (_\/_))
theorem Kk:∀r∈jz,r8 r.takes/\r8 r.yQ/\r.takes.length<=3/\r.yQ.length<=3:=by decide
theorem Kl:∀r∈j9,r8 r.takes/\r8 r.yQ/\r.takes.length<=3/\r.yQ.length<=3:=by decide
def GS(r:oH):Prop:=r8 r.takes/\r8 r.yQ/\r.takes.length<=3/\r.yQ.length<=3
theorem UW(b:Int):r8 (oX b)/\(oX b).length=1:=by unfold oX;split<;>exact⟨by decide,rfl⟩
theorem Km(b:Int):r8 (oX b++oX b):=by unfold oX;split<;>decide
theorem Oy(code g n b:Int):GS (mA code g n b):=by
 have h:=UW b;have h2:=Km b;have h3:r8 [105]:=by decide
 unfold mA GS
 split
 · exact⟨h2,h.1,by simp[h.2],by simp[h.2]⟩
 split
 · exact⟨h2,h3,by simp[h.2],by simp⟩
 split
 · exact⟨h.1,h3,by simp[h.2],by simp⟩
 · exact⟨h.1,h.1,by simp[h.2],by simp[h.2]⟩
theorem MQ{code:Int}{r:oH}(h:uC code=some r):GS r:=by
 unfold uC at h
 split at h
 · rename_i r' hr;cases h;exact Kk r (List.mem_of_find?_eq_some hr)
 · split at h
   · rename_i r' hr;cases h;exact Kl r (List.mem_of_find?_eq_some hr)
   · unfold iF at h
     cases hn:mz code with
     |none=>rw[hn] at h;cases h
     |some p=>rw[hn] at h;cases h;exact Oy _ _ _ _
theorem Oz:∀s∈iD,0<=s.from_/\(s.group=0/\s.from_+s.many<=15\/s.group=1/\s.from_+s.many<=10\/s.group=2/\s.from_+s.many<=4)/\(s.bits=32\/s.bits=64):=by decide
theorem yR{code g n b:Int}(h:mz code=some (g,n,b)):0<=n/\(g=0/\n<15\/g=1/\n<10\/g=2/\n<4)/\(b=32\/b=64):=by
 unfold mz at h;cases hs:iD.find? (p6 code) with
 |none=>rw[hs] at h;cases h
 |some s=>
  rw[hs] at h;cases h
  have h1:=Oz s (List.mem_of_find?_eq_some hs);have h2:=List.find?_some hs;simp only[p6,decide_eq_true_eq] at h2;omega
end Go.Hl
namespace Go.Hl
theorem RN:∀s∈iD,0<=s.first/\s.first<=200/\0<=s.many/\s.many<=20/\0<=s.from_/\s.from_<=10:=by decide
theorem UX{code:Int}{k:Nat}{s:GR}(hx:iD[k]?=some s)(hc:p6 code s=true)(hn:dJ (λs=>p6 code s=true) iD k):mz code=some (s.group,s.from_+code-s.first,s.bits):=by
 unfold mz;rw[wQ hx hc (λj y hj hy=>by simpa using hn j y hj hy)];rfl
theorem uk{code:Int}(hn:dJ (λs=>p6 code s=true) iD iD.length):mz code=none:=by
 unfold mz;rw[List.find?_eq_none.2 (λx hx=>hn.all (Nat.le_refl _) x hx)];rfl
theorem Yd{code:Int}{k:Nat}{r:oH}(hx:jz[k]?=some r)(hc:r.code=code)(hn:dJ (λr=>r.code=code) jz k):uC code=some r:=by
 unfold uC;rw[wQ hx (by simpa[kP] using hc) (λj y hj hy=>by simpa[kP] using hn j y hj hy)]
theorem Dx{code:Int}(hn:dJ (λr:oH=>r.code=code) jz jz.length):jz.find? (kP code)=none:=
 List.find?_eq_none.2 (λx hx=>by have:=hn.all (Nat.le_refl _) x hx;simpa[kP] using this)
theorem OA{code:Int}(hn:dJ (λr:oH=>r.code=code) j9 j9.length):j9.find? (kP code)=none:=
 List.find?_eq_none.2 (λx hx=>by have:=hn.all (Nat.le_refl _) x hx;simpa[kP] using this)
theorem Ye{code:Int}{k:Nat}{r:oH}(h1:dJ (λr:oH=>r.code=code) jz jz.length)(hx:j9[k]?=some r)(hc:r.code=code)(hn:dJ (λr=>r.code=code) j9 k):uC code=some r:=by
 unfold uC;rw[Dx h1];simp only;rw[wQ hx (by simpa[kP] using hc) (λj y hj hy=>by simpa[kP] using hn j y hj hy)]
theorem RO{code:Int}(h1:dJ (λr:oH=>r.code=code) jz jz.length)(h2:dJ (λr:oH=>r.code=code) j9 j9.length):uC code=iF code:=by
 unfold uC;rw[Dx h1];simp only;rw[OA h2]
theorem Cr{code:Int}{p:Int×Int×Int}(h:mz code=some p):iF code=some (mA code p.1 p.2.1 p.2.2):=by unfold iF;rw[h];rfl
theorem Cs{code:Int}(h:mz code=none):iF code=none:=by unfold iF;rw[h];rfl
theorem yS{l:List UInt8}{k:Nat}{x:UInt8}(h:l[k]?=some x):iE (l.take (k+1))=iE (l.take k)++[if x=108 then 126 else 127]:=by
 rw[<-bE h];simp[iE]
theorem mX{l:List UInt8}{k:Nat}{x:UInt8}(h:l[k]?=some x)(hc:(x.toNat:Int)=108):iE (l.take (k+1))=iE (l.take k)++[126]:=by
 have:x=108:=UInt8.toNat_inj.1 (by simp;omega);rw[yS h,if_pos this]
theorem mY{l:List UInt8}{k:Nat}{x:UInt8}(h:l[k]?=some x)(hc:¬(x.toNat:Int)=108):iE (l.take (k+1))=iE (l.take k)++[127]:=by
 have:¬x=108:=λe=>hc (by subst e;rfl);rw[yS h,if_neg this]
theorem AL(l:List UInt8):(iE l).length=l.length:=by simp[iE]
theorem GU:∀l:List (List UInt8),l.flatMap kO=l.map dV
 |[]=>rfl
 |x::l=>by rw[List.flatMap_cons,List.map_cons,GU l];rfl
theorem nQ{l:List (List UInt8)}{j:Nat}(h:j<l.length):(l.flatMap kO)[j]?=some (dV (l.getD j [])):=by
 rw[GU,List.getElem?_map,List.getElem?_eq_getElem h,List.getD_eq_getElem?_getD,List.getElem?_eq_getElem h];rfl
theorem GV(b:Int):(nH b).length=4:=by unfold nH;split<;>rfl
theorem GW:∀s∈Ox,s.length<=10:=by decide
theorem Dy:∀s∈Dw,s.length<=10:=by decide
theorem Ex:∀s∈UU,s.length<=10:=by decide
theorem wS{l:List (List UInt8)}(h:∀s∈l,s.length<=10)(j:Nat):(l.getD j []).length<=10:=by
 rw[List.getD_eq_getElem?_getD];cases hj:l[j]? with
 |none=>simp
 |some s=>exact h s (List.mem_of_getElem? hj)
end Go.Hl
namespace Go.Hl
theorem UY{code:Int}{x:pF}(h:eZ code=some x):x.Name≠[46]/\x.Name.length<=20:=by
 unfold eZ at h;cases hr:uC code with
 |none=>rw[hr] at h;cases h
 | some r=>
  rw[hr] at h;cases h
  show r.name≠[46]/\r.name.length<=20
  have h1:∀r∈jz,r.name≠[46]/\r.name.length<=20:=by decide
  have h2:∀r∈j9,r.name≠[46]/\r.name.length<=20:=by decide
  unfold uC at hr
  split at hr
  · rename_i r' hf;cases hr;exact h1 _ (List.mem_of_find?_eq_some hf)
  · split at hr
    · rename_i r' hf;cases hr;exact h2 _ (List.mem_of_find?_eq_some hf)
    · unfold iF at hr
      cases hn:mz code with
      |none=>rw[hn] at hr;cases hr
      | some p=>
       rw[hn] at hr;cases hr
       have hk:=GV p.2.2
       have key:∀(T:List (List UInt8)),(∀s∈T,s.length<=10)->nH p.2.2++T.getD p.2.1.toNat []≠[46]/\(nH p.2.2++T.getD p.2.1.toNat []).length<=20:=λT hT=>by
        have hl:=wS hT p.2.1.toNat;refine⟨λe=>?_,by rw[List.length_append];omega⟩;have:=congrArg List.length e;rw[List.length_append] at this;simp at this;omega
       unfold mA
       dsimp only
       split
       · exact key _ GW
       split
       · exact key _ Dy
       split
       · exact key _ Ex
       · exact key _ Ex
theorem yT{code:Int}(h:eZ code=none):jL code=none:=by unfold jL;rw[h]
theorem GX{code:Int}{x:pF}(h:eZ code=some x)(hf:x.Form≠8):jL code=none:=by unfold jL;rw[h];simp[hf]
theorem Kn{code:Int}{x:pF}(h:eZ code=some x)(hf:x.Form=8):jL code=some (x7 x.Name):=by unfold jL;rw[h];simp[hf]
theorem OB{name s:List UInt8}{k:Nat}(hs:jA[k]?=some s)(hc:nr (AK name) s)(hn:dJ (λs=>nr (AK name) s) jA k):x7 name=2^k:=by
 unfold x7
 match k,hs with
 |0,hs=>cases hs;rw[if_pos hc];rfl
 |1,hs=>cases hs;rw[if_neg (hn 0 _ (by omega) rfl),if_pos hc];rfl
 |2,hs=>cases hs;rw[if_neg (hn 0 _ (by omega) rfl),if_neg (hn 1 _ (by omega) rfl),if_pos hc];rfl
theorem Dz{name:List UInt8}(hn:dJ (λs=>nr (AK name) s) jA jA.length):x7 name=if xS name [105,54,52] then 8 else 4:=by
 unfold x7;rw[if_neg (hn 0 _ (by decide) rfl),if_neg (hn 1 _ (by decide) rfl),if_neg (hn 2 _ (by decide) rfl)]
theorem OC:AI.length=197:=by decide+kernel
theorem aK8:∀{k:Nat},k<3->IntKind.i64.wrap (1*2^k)=(2:Int)^k
 |0,_=>rfl
 |1,_=>rfl
 |2,_=>rfl
 |k+3,h=>by omega
end Go.Hl
end
section
namespace Go.Hl
def DA(c:Int):Prop:=(jL c=if 0<iW c then some (iW c) else none)/\(s5 c↔wR c)/\
 match eZ c with
 |none=>iO c=[]
 |some x=>x.Code=c/\x.Name=iO c/\iO c≠[]/\x.Form=aP c/\x.wO=(aQ c).1/\x.s4=(aQ c).2/\¬s5 c
instance (c:Int):Decidable (DA c):=by unfold DA;cases eZ c<;>infer_instance
theorem UZ:∀c:Fin 256,DA (c.val:Int):=by decide+kernel
theorem U0:∀c:Fin 18,DA ((c.val:Int)+64512):=by decide+kernel
variable {c:Int}
theorem GY(h:c<0\/196<c/\c<64522\/64523<c):eZ c=none:=by
 have h1:∀r∈jz,0<=r.code/\r.code<=196:=by decide
 have h2:∀r∈j9,0<=r.code/\r.code<=196\/64522<=r.code/\r.code<=64523:=by decide
 have h3:∀s∈iD,0<=s.first/\s.first+s.many<=197:=by decide
 unfold eZ uC iF mz;rw[List.find?_eq_none.2 (λr hr=>by have:=h1 r hr;simp[kP];omega)];simp only;rw[List.find?_eq_none.2 (λr hr=>by have:=h2 r hr;simp[kP];omega)];simp only;rw[List.find?_eq_none.2 (λs hs=>by have:=h3 s hs;simp[p6];omega)];rfl
theorem RP(h:c<0\/255<c/\c<64512\/64529<c):DA c:=by
 have hf:eZ c=none:=GY (by omega);have h4:∀r∈AJ,0<=r.1/\r.2<=255\/64512<=r.1/\r.2<=64529:=by decide
 have hno:¬s5 c:=λ⟨r,hr,hc⟩=>by have:=h4 r hr;omega
 have hnr:¬wR c:=by unfold wR;omega
 have hw:iW c=0:=by unfold iW;repeat rw[if_neg (by omega)]
 refine⟨?_,⟨λh=>(hno h).elim,λh=>(hnr h).elim⟩,?_⟩
 · rw[yT hf,hw];rfl
 · rw[hf]
   show iO c=[]
   unfold iO;rw[if_neg (by omega),if_neg (by omega)];by_cases h0:c<0\/196<c
   · rw[if_pos h0]
   · omega
theorem AM(c:Int):DA c:=by
 by_cases h1:0<=c/\c<256
 · have:=UZ ⟨c.toNat,by omega⟩
   rwa [show((⟨c.toNat,by omega⟩:Fin 256).val:Int)=c by simp;omega] at this
 by_cases h2:64512<=c/\c<64530
 · have:=U0 ⟨(c-64512).toNat,by omega⟩
   rwa [show((⟨(c-64512).toNat,by omega⟩:Fin 18).val:Int)+64512=c by simp;omega] at this
 · exact RP (by omega)
theorem ry(h:eZ c=none):iO c=[]:=by have:=(AM c).2.2;rw[h] at this;exact this
theorem lQ{x:pF}(h:eZ c=some x):x.Code=c/\x.Name=iO c/\iO c≠[]/\x.Form=aP c/\x.wO=(aQ c).1/\x.s4=(aQ c).2/\¬s5 c:=by
 have:=(AM c).2.2;rw[h] at this;exact this
theorem RQ:(eZ c).isSome↔iO c≠[]:=by
 cases h:eZ c with
 |none=>simp[ry h]
 |some x=>simp[(lQ h).2.2.1]
theorem OD(c:Int):(jL c).getD 0=iW c/\((jL c).isSome↔0<iW c):=by
 rw[(AM c).1];have h0:0<=iW c:=by unfold iW;repeat (first|split|omega)
 split
 · rename_i h;simp[h]
 · rename_i h;simp;omega
theorem RR{α:Type}{P:α->Prop}{c:Prop}[Decidable c]{a b:α}(ha:P a)(hb:P b):P (if c then a else b):=by split<;>assumption
theorem jZ(c:Int):(aQ c).1.length<=3/\(aQ c).2.length<=3:=by
 suffices h:(λp:List UInt8×List UInt8=>p.1.length<=3/\p.2.length<=3) (aQ c) from h
 unfold aQ
 iterate 14 refine RR (P:=λp:List UInt8×List UInt8=>p.1.length<=3/\p.2.length<=3) ⟨by simp,by simp⟩ ?_
 exact⟨by simp,by simp⟩
end Go.Hl
end
section
namespace Go.Hl
structure oY where
 aq:List mj
 bQ:List mj
 cj:List Prop
 aA:List UInt8
 eu:List Prop
 Table:Prop
 dR:mj
 aV:List UInt8
open Classical
noncomputable def p7(s:ee)(i o:List UInt8):Option ee:=(dD s i).map (bG · o)
noncomputable def cz(w:Prop):UInt8:=if w then 126 else 127
def iG(labs:List (List UInt8))(n:Int):Option (List UInt8):=if n<(labs.length:Int)/\0<=n then labs[labs.length-1-n.toNat]? else none
def eG{α:Type}(l:List α)(n:Int):Option α:=if n<(l.length:Int)/\0<=n then l[n.toNat]? else none
noncomputable def rz(v:oY)(x:aj)(s:ee):Option ee:=
 (eG v.cj x.A).bind λwa=>
 (if aP x.Code=10 then eG v.cj x.B else some wa).bind λwb=>
 if aP x.Code=8 then
  if (¬wa/\4294967295<x.B)\/iW x.Code<2^x.ei.toNat then none
  else p7 s (cz wa::(aQ x.Code).1.tail) (aQ x.Code).2
 else if x.Code=63 then p7 s (aQ x.Code).1 [cz wa]
 else if x.Code=64 then p7 s [cz wa] [cz wa]
 else if x.Code=64523 then p7 s [cz wa,127,cz wa] (aQ x.Code).2
 else p7 s [cz wa,cz wb,cz (wa/\wb)] (aQ x.Code).2
noncomputable def fZ(v:oY)(x:aj)(s:ee)(labs:List (List UInt8)):Option ee:=
 if x.Code=0 then some fT
 else if x.Code=12 then(iG labs x.A).bind λw=>(dD s w).map λ_=>fT
 else if x.Code=13 then(iG labs x.A).bind λw=>p7 s (w++[127]) w
 else if x.Code=14 then(iG labs x.A).bind λw=>if ∀n∈x.L,iG labs n=some w then(dD s (w++[127])).map λ_=>fT else none
 else if x.Code=15 then(dD s v.dR.R).map λ_=>fT
 else if x.Code=16 then(eG v.aq x.A).bind λg=>p7 s g.P g.R
 else if x.Code=17 then(eG v.bQ x.A).bind λg=>if x.B=0/\v.Table then p7 s (g.P++[127]) g.R else none
 else if x.Code=26 then(jq s 0).map Prod.fst
 else if x.Code=27 then(dD s [127]).bind λs=>(jq s 0).bind λp=>(jq p.1 p.2).map λp=>bG p.1 [p.2]
 else if x.Code=32 then(eG v.aV x.A).map λt=>bG s [t]
 else if x.Code=33 then(eG v.aV x.A).bind λt=>dD s [t]
 else if x.Code=34 then(eG v.aV x.A).bind λt=>p7 s [t] [t]
 else if x.Code=35 then(eG v.aA x.A).map λt=>bG s [t]
 else if x.Code=36 then(eG v.aA x.A).bind λt=>(eG v.eu x.A).bind λm=>if m then dD s [t] else none
 else if aP x.Code<8\/10<aP x.Code then p7 s (aQ x.Code).1 (aQ x.Code).2
 else rz v x s
end Go.Hl
end
section
namespace Go.Hl
def gy(n:Nat):Nat:=if n<128 then 1 else gy (n/128)+1
termination_by n
decreasing_by omega
def kI(n:Int):Nat:=if-64<=n/\n<64 then 1 else kI (n/128)+1
termination_by n.natAbs
decreasing_by omega
theorem GZ(n:Int):0<kI n:=by unfold kI;split<;>omega
variable {n:Nat}
theorem wT(h:n<128):gy n=1:=by unfold gy;simp[h]
theorem zJ(h:128<=n):gy n=gy (n/128)+1:=by rw[gy];simp[Nat.not_lt.2 h]
theorem wU{n:Int}(h: -64<=n/\n<64):kI n=1:=by unfold kI;simp[h]
theorem AN{n:Int}(h:¬(-64<=n/\n<64)):kI n=kI (n/128)+1:=by rw[kI];simp[h]
theorem U1:∀(k n:Nat),n<128^(k+1)->gy n<=k+1:=by
 intro k
 induction k with
 |zero=>intro n h;rw[wT (by simpa using h)];omega
 |succ k ih=>
  intro n h;by_cases h1:n<128
  · rw[wT h1];omega
  · rw[zJ (by omega)]
    have:=ih (n/128) (by rw[Nat.div_lt_iff_lt_mul (by omega)];rw[<-Nat.pow_succ];exact h);omega
theorem ew(h:n<18446744073709551616):gy n<=10:=U1 9 n (Nat.lt_of_lt_of_le h (by decide))
theorem U2:∀(k:Nat) (n:Int),-(64*128^k:Int)<=n->n<64*128^k->kI n<=k+1:=by
 intro k
 induction k with
 |zero=>intro n h1 h2;rw[wU (by omega)];omega
 |succ k ih=>
  intro n h1 h2;by_cases h: -64<=n/\n<64
  · rw[wU h];omega
  · rw[AN h]
    have e:(64*128^(k+1):Int)=(64*128^k)*128:=by rw[Int.pow_succ];omega
    rw[e] at h1 h2;have:=ih (n/128) (by omega) (by omega);omega
theorem zK{n:Int}(h1: -9223372036854775808<=n)(h2:n<9223372036854775808):kI n<=10:=U2 9 n (by omega) (by omega)
def Qz(m:Nat):Nat:=if m=0 then 0 else Nat.log2 m+1
theorem U3(m:Nat)(h:128<=m):Qz m=Qz (m/128)+7:=by
 have h0:m/128≠0:=by omega
 simp only[Qz,h0,if_false,show m≠0 by omega];have e:m/128=m/2/2/2/2/2/2/2:=by simp[Nat.div_div_eq_div_mul]
 have l:∀k:Nat,2<=k->Nat.log2 k=Nat.log2 (k/2)+1:=λk hk=>by rw[Nat.log2_def];simp[hk]
 rw[e,l m (by omega),l (m/2) (by omega),l (m/2/2) (by omega),l (m/2/2/2) (by omega),l (m/2/2/2/2) (by omega),l (m/2/2/2/2/2) (by omega),l (m/2/2/2/2/2/2) (by omega)]
variable {k:Nat}
theorem Ko{m:Nat}(h:m<2^k):Qz m<=k:=by
 unfold Qz;split
 · omega
 · rename_i h0;have:=(Nat.log2_lt h0).2 h;omega
theorem Yf{m:Nat}(h:2^k<=m):k<Qz m:=by
 unfold Qz;have h0:m≠0:=by have:=Nat.two_pow_pos k;omega
 rw[if_neg h0];have:=(Nat.le_log2 h0).2 h;omega
theorem OE:∀(k:Nat) (n:Int),n.natAbs<=k->kI n=(Qz (if n<0 then(-n-1).toNat else n.toNat)+7)/7:=by
  intro k
  induction k with
  | zero => intro n h;have:n=0:=by omega
            subst this;rw[wU (by omega)];simp[Qz]
  | succ k ih=>
    intro n h;generalize hm:(if n<0 then(-n-1).toNat else n.toNat)=m;by_cases h1: -64<=n/\n<64
    · rw[wU h1];have:=Ko (m:=m) (k:=6) (by split at hm<;>omega);omega
    · rw[AN h1,ih (n/128) (by omega)]
      have e:(if n/128<0 then(-(n/128)-1).toNat else(n/128).toNat)=m/128:=by split at hm<;>split<;>omega
      rw[e];by_cases h2:128<=m
      · rw[U3 m h2];omega
      · have h3:m/128=0:=by omega
        have a:=Ko (m:=m) (k:=7) (by omega);have b:=Yf (m:=m) (k:=6) (by split at hm<;>omega);rw[h3];simp only[Qz,if_true]
        simp only[Qz] at a b;omega
def um(n:Int):Prop:=n<=4294967295
def iH(x:aj):Prop:=
 iO x.Code≠[]/\¬(aP x.Code≠11/\¬um x.A\/x.Code=65/\¬um x.A\/aP x.Code≠8/\¬um x.B)/\
 ¬(aP x.Code=0/\x.A≠0\/aP x.Code=1/\x.A≠64/\x.A≠126/\x.A≠127)/\
 ¬(aP x.Code≠5/\aP x.Code≠8/\aP x.Code≠10/\x.B≠0\/aP x.Code≠8/\x.ei≠0\/x.ei<0\/31<x.ei)/\
 (∀n∈x.L,um n)/\(x.L=[]\/aP x.Code=3/\x.L.length<=100)
def bU(n:Int):Nat:=gy n.toNat
def nR(x:aj):Nat:=
 (if 64512<=x.Code then 1+bU (x.Code-64512) else 1)+
 (if aP x.Code=1 then 1
  else if aP x.Code=2\/aP x.Code=4\/aP x.Code=6\/aP x.Code=7\/aP x.Code=9 then bU x.A
  else if aP x.Code=3 then gy x.L.length+(x.L.map bU).sum+bU x.A
  else if aP x.Code=5\/aP x.Code=10 then bU x.A+bU x.B
  else if aP x.Code=8 then(if x.A=0 then bU x.ei else bU (x.ei+64)+bU x.A)+bU x.B
  else if aP x.Code=11 then kI (if x.Code=65 then(if x.A<2147483648 then x.A else x.A-4294967296) else(if x.A<9223372036854775808 then x.A else x.A-18446744073709551616))
  else 0)
def iI:List UInt8->List Nat
 |[]=>[]
 |t::l=>match l,iI l with
  |t'::_,n::r=>if t'=t then(n+1)::r else 1::n::r
  |_,_=>[1]
def Kq(b:j8):Nat:=gy (iI b.aV).length+((iI b.aV).map λn=>gy n+1).sum+(b.L.map nR).sum
def nI(b:j8):Prop:=
 (∀x∈b.L,iH x)/\(∀t∈b.aV,t=126\/t=127)/\b.aV.length<=50/\fQ (b.L.map (·.Code)) []/\Kq b<=4096
def bJ(m:aT)(n:Int):mj:=(m.bQ[n.toNat]?).getD ⟨[],[]⟩
def bR(m:aT)(f:cn):oY where
 aq:=m.ay.map (λi=>bJ m i.fW)++m.aq.map (λg=>bJ m g.fW)
 bQ:=m.bQ
 cj:=m.cP.map (·.cj)
 aA:=m.aA.map (·.Ty)
 eu:=m.aA.map (·.eu)
 Table:=0<=m.Table
 dR:=bJ m f.fW
 aV:=(bJ m f.fW).P++f.Body.aV
def eH(x:aj):List UInt8:=if x.A=64 then[] else[UInt8.ofNat x.A.toNat]
noncomputable def cN(m:aT)(f:cn):Option (List Nat):=
 kG (·.Code) eH (fZ (bR m f)) f.Body.L [eT.mk False False (bJ m f.fW).R ([],False)]
def rA(m:aT)(f:cn):Prop:=nI f.Body/\∃hs,cN m f=some hs
def dK(m:aT):Prop:=dB m/\∀f∈m.aq,rA m f
theorem Ey{m:aT}{f:cn}(h:nI f.Body)(hk:f.Body.L.length<k):
    cN m f=(kH (·.Code) eH (fZ (bR m f)) k f.Body.L [(bJ m f.fW).R] (bJ m f.fW).R ([],False) 0).map Prod.fst:=
  Ow _ _ _ hk ((x6 (by simpa using hk)).1 h.2.2.2.1)
end Go.Hl
end
section
namespace Go.Hl
open Go.RowKit
structure QA where
 loop:Prop
 is:Prop
 res:List UInt8
 h:Nat
 dead:Prop
def lR(b:QA):List VP:=[av b.loop,av b.is,ai 1 an b.res,af .i64 (b.h:Int),av b.dead]
instance:gX 5 lR:=⟨λ_=>rfl,λx q h=>by simp only[lR,List.mem_cons,List.not_mem_nil,or_false] at h;rcases h with h|h|h|h|h<;>rw[h]<;>infer_instance⟩
instance (x:QA):bD (lR x):=bD.of x
def mZ(h:Nat)(k:eT)(s:ee):QA:=⟨k.loop,k.is,k.res,h,s.2⟩
def dU(fs:List eT):List UInt8:=fs.flatMap (·.st.1)
def Ct:Nat->List eT->List QA
 |_,[]=>[]
 |h,k::fs=>mZ h k k.st::Ct (h+k.st.1.length) fs
abbrev kJ(fs:List eT):List QA:=Ct 0 fs
theorem DB(k:eT):∀(fs:List eT) (h:Nat),Ct h (fs++[k])=Ct h fs++[mZ (h+su fs) k k.st]
 |[],h=>by simp[Ct,su]
 |k'::fs,h=>by simp[Ct,DB k fs,su,Nat.add_assoc]
theorem G0:∀(fs:List eT) (h:Nat),(Ct h fs).length=fs.length
 |[],_=>rfl
 |_::fs,h=>by simp[Ct,G0 fs]
theorem AO(fs:List eT):(dU fs).length=su fs:=by
 induction fs with
 |nil=>rfl
 |cons k fs ih=>simp only[dU,List.flatMap_cons,List.length_append] at ih ⊢;rw[ih];simp[su]
theorem jl(fs:List eT)(k:eT):dU (fs++[k])=dU fs++k.st.1:=by simp[dU]
theorem mB(fs:List eT)(k:eT):kJ (fs++[k])=kJ fs++[mZ (dU fs).length k k.st]:=by rw[kJ,DB,Nat.zero_add,AO]
open Classical in
noncomputable def Cu(b:QA):List UInt8:=if b.loop then[] else b.res
theorem G3:∀(fs:List eT) (h:Nat),(Ct h fs).map Cu=fs.map qw
 |[],_=>rfl
 |k::fs,h=>by simp only[Ct,List.map_cons,G3 fs];rfl
abbrev MR(cb:Nat)(m:aT)(f:cn)(gs:SB)(ns:Nat)(gb:SB)(nb:Nat):HP:=az cb [ck (bp m),ai 1 an (bR m f).aV,ai 1 an (bJ m f.fW).P,ai 1 an (bJ m f.fW).R,ag (bI gs ns),ag (bI gb nb)]
abbrev RS(cb:Nat)(m:aT)(f:cn)(gs gb:SB)(st:List UInt8)(B:List QA):List HP:=[MR cb m f gs st.length gb B.length,aH gs 1 an st,aH gb 5 lR B]
abbrev AP(cb:Nat)(m:aT)(f:cn)(gs:SB)(bb bc:Nat)(S0:List UInt8)(B:List QA)(k:eT)(s:ee):List HP:=RS cb m f gs (some (bb,bc)) (S0++s.1) (B++[mZ S0.length k s])
variable {w:UInt8} {d:Prop}
theorem MS(h:d):jq ([],d) w=some (([],d),w):=by simp[jq,h]
theorem AQ(h:¬d):jq ([],d) w=none:=by simp[jq,h]
variable {l:List UInt8}
theorem AR{g:UInt8}(h:g=w\/g=0\/w=0):jq (l++[g],d) w=some ((l,d),if g=0 then w else g):=by
 simp[jq,h]
theorem yU{g:UInt8}(h:¬(g=w\/g=0\/w=0)):jq (l++[g],d) w=none:=by
 simp only[jq,List.getLast?_append,List.getLast?_singleton,Option.some_or];rw[if_neg h]
theorem pG(a:UInt8):(a.toNat:Int)=0↔a=0:=by
 rw[<-UInt8.toNat_inj];simp
variable {α:Type}
theorem nS{l:List α}(h:l≠[]):∃m x,l=m++[x]:=⟨l.dropLast,l.getLast h,(List.dropLast_concat_getLast h).symm⟩
theorem G4(s:ee)(a b:List UInt8):zm s (a++b)=(zm s a).bind λs=>zm s b:=by
 induction a generalizing s with
 |nil=>rfl
 |cons t a ih=>
  simp only[List.cons_append,zm];cases jq s t with
  |none=>rfl
  |some p=>simp only[Option.bind_some];exact ih _
theorem U4(s:ee)(a b:List UInt8):dD s (a++b)=(dD s b).bind λs=>dD s a:=by
 unfold dD;rw[List.reverse_append,G4]
theorem ir(s:ee)(t:UInt8):dD s [t]=(jq s t).map Prod.fst:=by
 simp only[dD,List.reverse_cons,List.reverse_nil,List.nil_append,zm];cases jq s t<;>rfl
theorem jM(s:ee)(l:List UInt8)(t:UInt8):dD s (l++[t])=(jq s t).bind λp=>dD p.1 l:=by
 rw[U4,ir];cases jq s t<;>rfl
variable {s:ee}
theorem RT{i:Nat}{t:UInt8}(h:l[i]?=some t):dD s (l.take (i+1))=(jq s t).bind λp=>dD p.1 (l.take i):=by
 rw[<-bE h,jM]
theorem qy(s:ee)(l:List UInt8):(bG s l).1.length=s.1.length+l.length:=by simp[bG]
theorem oI{p:ee×UInt8}(h:jq s w=some p):p.1.1.length<=s.1.length:=by
 unfold jq at h
 split at h
 · split at h
   · cases h;exact Nat.le_refl _
   · cases h
 · split at h
   · cases h;simp
   · cases h
theorem MT:∀(l:List UInt8) {s s':ee},zm s l=some s'->s'.1.length<=s.1.length
 |[],s,s',h=>by cases h;exact Nat.le_refl _
 |t::l,s,s',h=>by
  simp only[zm] at h;cases h1:jq s t with
  |none=>rw[h1] at h;cases h
  |some p=>rw[h1] at h;exact Nat.le_trans (MT l h) (oI h1)
theorem vn{s':ee}(h:dD s l=some s'):s'.1.length<=s.1.length:=MT _ h
variable {n:Int}
theorem G5{L:List (List UInt8)}(h0:0<=n)(h:n<(L.length:Int)):∃w,iG L n=some w/\L[L.length-1-n.toNat]?=some w:=by
 have:L.length-1-n.toNat<L.length:=by omega
 exact⟨L[L.length-1-n.toNat],by unfold iG;rw[if_pos ⟨h,h0⟩];exact List.getElem?_eq_getElem this,List.getElem?_eq_getElem this⟩
theorem DC{L:List (List UInt8)}(h:¬n<(L.length:Int)):iG L n=none:=by unfold iG;rw[if_neg (λe=>h e.1)]
variable {L:List α}
theorem wW(h0:0<=n)(h:n<(L.length:Int)):∃w,eG L n=some w/\L[n.toNat]?=some w:=by
 have:n.toNat<L.length:=by omega
 exact⟨L[n.toNat],by unfold eG;rw[if_pos ⟨h,h0⟩];exact List.getElem?_eq_getElem this,List.getElem?_eq_getElem this⟩
theorem wX(h:¬n<(L.length:Int)):eG L n=none:=by unfold eG;rw[if_neg (λe=>h e.1)]
theorem RU{w:α}(h:eG L n=some w):0<=n/\n<(L.length:Int)/\L[n.toNat]?=some w:=by
 unfold eG at h
 split at h
 · rename_i hc;exact⟨hc.2,hc.1,h⟩
 · cases h
def Cv(res:List UInt8)(s:ee):Prop:=∃s',dD s res=some s'/\s'.1=[]
theorem Kr{x:UInt8}:(((x.toNat:Int)=(w.toNat:Int)\/(x.toNat:Int)=0)\/(w.toNat:Int)=0)↔(x=w\/x=0\/w=0):=by
 rw[Du,pG,pG,or_assoc]
theorem zL(a b:List α):a<+:a++b:=List.prefix_append a b
theorem MU(h:0<=n):IntKind.u8.wrap n=((UInt8.ofNat n.toNat).toNat:Int):=by
 unfold IntKind.wrap;simp[IntKind.signed,IntKind.bits];omega
theorem vo:aa (ag (.bool false)) (av False):=λS w v h=>⟨false,h,by simp⟩
structure AS(m:aT)(f:cn):Prop where
 fits:dB m
 lo:(bR m f).aV.length<=60000
 own:bJ m f.fW∈m.bQ
structure p9(x:aj):Prop where
 A0:0<=x.A
 wY:x.A<18446744073709551616
 B0:0<=x.B
 B64:x.B<18446744073709551616
 L0:∀n∈x.L,0<=n
 Ln:x.L.length<=60000
structure nJ(x:aj):Prop extends p9 x where
 A16:x.Code=16->x.A<=4294967295
 a0:0<=x.ei
 Yg:x.ei<=31
variable {m:aT}
theorem dB.Co(h:dB m):∀g∈m.bQ,g.P.length<=20/\g.R.length<=20:=λg hg=>by
 have h1:=fM.1 (bT.1 h.sigs).2 g hg;have h2:Em g:=Classical.not_not.1 ((cW (by decide)).1 h1);exact⟨h2.1.1,h2.2.1⟩
theorem dB.lens(h:dB m):m.bQ.length<=50/\m.ay.length<=20/\m.cP.length<=4/\m.aA.length<=50/\dc m<=100:=by
 have h1:=(bT.1 h.sigs).1;have h2:=(bT.1 h.imports).1;have h3:=(bT.1 h.eE).1;have h4:=(bT.1 h.globals).1;have h5:=h.funcs;unfold lO at h5
 split at h5
 · cases h5
 · exact⟨by omega,by omega,by omega,by omega,by omega⟩
theorem gL(h:kE n m.bQ.length):m.bQ[n.toNat]?=some (bJ m n)/\bJ m n∈m.bQ:=by
 obtain⟨h1,h2⟩:=h.at;have:m.bQ[n.toNat]?=some (bJ m n):=by unfold bJ;rw[List.getElem?_eq_getElem h1];rfl
 exact⟨this,List.mem_of_getElem? this⟩
theorem G6{s:mj}(h:m.bQ[n.toNat]?=some s):bJ m n=s:=by unfold bJ;rw[h];rfl
theorem qz{f:cn}(h:dB m):eG (bR m f).aq n=eY m n:=by
 have h1:∀z∈m.ay,iq m z=0:=fM.1 (bT.1 h.imports).2;have h2:∀z∈m.aq,sR m z=0:=q7 h.funcs;have hlen:(bR m f).aq.length=m.ay.length+m.aq.length:=by simp[bR]
 by_cases hc:kE n (dc m)
 · obtain⟨s,hs⟩:=xX hc h1 h2
   rw[hs];have Xx:=hc;unfold kE dc at Xx;unfold eG;rw[if_pos (by rw[hlen];omega)];by_cases hl:n<(m.ay.length:Int)
   · obtain⟨x,hx,zM,_,_⟩:=AE hs hl
     show(m.ay.map (λi=>bJ m i.fW)++m.aq.map (λg=>bJ m g.fW))[n.toNat]?=some s
     rw[List.getElem?_append_left (by simp;omega),List.getElem?_map,hx];exact congrArg some (G6 zM)
   · obtain⟨x,hx,zM,_,_,_⟩:=GM hs hl
     show(m.ay.map (λi=>bJ m i.fW)++m.aq.map (λg=>bJ m g.fW))[n.toNat]?=some s
     rw[List.getElem?_append_right (by simp;omega),List.getElem?_map,List.length_map];rw[show n.toNat-m.ay.length=(n-(m.ay.length:Int)).toNat by omega,hx];exact congrArg some (G6 zM)
 · have hno:¬(eY m n).isSome=true:=λe=>hc ((ML h1 h2).1 e)
   have:eY m n=none:=by simpa using hno
   rw[this];unfold eG;rw[if_neg (by rw[hlen];unfold kE dc at hc;omega)]
theorem cF{β:Type}{g:α->β}:eG (L.map g) n=(eG L n).map g:=by
 unfold eG;rw[List.length_map]
 split
 · rw[List.getElem?_map]
 · rfl
theorem iJ(fs:List eT)(b:eT)(s:ee):(kJ fs++[mZ (dU fs).length b s]).map Cu=(fs++[b]).map qw:=by
 rw[List.map_append,List.map_append,G3];rfl
def OF(fs:List eT)(st:List UInt8)(B:List QA):Prop:=B=kJ fs/\(fs≠[]->st=dU fs)
theorem RV(fs:List eT)(b:eT)(s:ee):OF (fs++[{b with st:=s}]) (dU fs++s.1) (kJ fs++[mZ (dU fs).length b s]):=
 ⟨by rw[mB];rfl,λ_=>by rw[jl]⟩
theorem OG(s:ee):bG s []=s:=by simp[bG]
theorem pH(s:ee)(i:List UInt8):p7 s i []=dD s i:=by
 unfold p7;cases dD s i<;>simp[OG]
section
variable {v:oY} {x:aj} {s:ee} {labs:List (List UInt8)}
theorem WZ(h:x.Code=0):fZ v x s labs=some fT:=by unfold fZ;rw[if_pos h]
theorem x8(h:x.Code=12):fZ v x s labs=(iG labs x.A).bind λw=>(dD s w).map λ_=>fT:=by unfold fZ;rw[if_neg (by omega),if_pos h]
theorem s6(h:x.Code=13):fZ v x s labs=(iG labs x.A).bind λw=>p7 s (w++[127]) w:=by unfold fZ;rw[if_neg (by omega),if_neg (by omega),if_pos h]
open Classical in
theorem nA(h:x.Code=14):fZ v x s labs=(iG labs x.A).bind λw=>if ∀n∈x.L,iG labs n=some w then(dD s (w++[127])).map λ_=>fT else none:=by unfold fZ;rw[if_neg (by omega),if_neg (by omega),if_neg (by omega),if_pos h]
theorem Ez (h : x.Code = 15) : fZ v x s labs = (dD s v.dR.R).map fun _ => fT := by            unfold fZ;iterate 4 rw[if_neg (by omega)]
                                                                                              rw[if_pos h]
theorem AT(h:x.Code=16):fZ v x s labs=(eG v.aq x.A).bind λg=>p7 s g.P g.R:=by
 unfold fZ;iterate 5 rw[if_neg (by omega)]
 rw[if_pos h]
open Classical in
theorem x9(h:x.Code=17):fZ v x s labs=(eG v.bQ x.A).bind λg=>if x.B=0/\v.Table then p7 s (g.P++[127]) g.R else none:=by
 unfold fZ;iterate 6 rw[if_neg (by omega)]
 rw[if_pos h]
theorem Ks(h:x.Code=26):fZ v x s labs=(jq s 0).map Prod.fst:=by
 unfold fZ;iterate 7 rw[if_neg (by omega)]
 rw[if_pos h]
theorem vr(h:x.Code=27):fZ v x s labs=(dD s [127]).bind λs=>(jq s 0).bind λp=>(jq p.1 p.2).map λp=>bG p.1 [p.2]:=by
 unfold fZ;iterate 8 rw[if_neg (by omega)]
 rw[if_pos h]
theorem EA(h:x.Code=32):fZ v x s labs=(eG v.aV x.A).map λt=>bG s [t]:=by
 unfold fZ;iterate 9 rw[if_neg (by omega)]
 rw[if_pos h]
theorem AU(h:x.Code=33):fZ v x s labs=(eG v.aV x.A).bind λt=>dD s [t]:=by
 unfold fZ;iterate 10 rw[if_neg (by omega)]
 rw[if_pos h]
theorem AV(h:x.Code=34):fZ v x s labs=(eG v.aV x.A).bind λt=>p7 s [t] [t]:=by
 unfold fZ;iterate 11 rw[if_neg (by omega)]
 rw[if_pos h]
theorem EB(h:x.Code=35):fZ v x s labs=(eG v.aA x.A).map λt=>bG s [t]:=by
 unfold fZ;iterate 12 rw[if_neg (by omega)]
 rw[if_pos h]
open Classical in
theorem vt(h:x.Code=36):fZ v x s labs=(eG v.aA x.A).bind λt=>(eG v.eu x.A).bind λm=>if m then dD s [t] else none:=by
 unfold fZ;iterate 13 rw[if_neg (by omega)]
 rw[if_pos h]
def fA(c:Int):Prop:=32<=c/\c<=36
def di(c:Int):Prop:=c=16\/c=17\/c=26\/c=27
def gK(c:Int):Prop:=c=0\/c=2\/c=3\/c=4\/c=5\/c=11\/c=12\/c=13\/c=14\/c=15
theorem AW(h1:¬gK x.Code)(h2:¬fA x.Code)(h3:¬di x.Code)(hf:aP x.Code<8\/10<aP x.Code):fZ v x s labs=p7 s (aQ x.Code).1 (aQ x.Code).2:=by
 unfold gK at h1;unfold fA at h2;unfold di at h3
 unfold fZ;iterate 14 rw[if_neg (by omega)]
 rw[if_pos hf]
theorem iu(h1:¬gK x.Code)(h2:¬fA x.Code)(h3:¬di x.Code)(hf:¬(aP x.Code<8\/10<aP x.Code)):fZ v x s labs=rz v x s:=by
 unfold gK at h1;unfold fA at h2;unfold di at h3
 unfold fZ;iterate 14 rw[if_neg (by omega)]
 rw[if_neg hf]
open Classical in
theorem rB(hf:aP x.Code=8):rz v x s=(eG v.cj x.A).bind λwa=>if (¬wa/\4294967295<x.B)\/iW x.Code<2^x.ei.toNat then none else p7 s (cz wa::(aQ x.Code).1.tail) (aQ x.Code).2:=by
 unfold rz;refine Option.bind_congr λwa _=>?_;rw[if_neg (by omega),Option.bind_some,if_pos hf]
theorem RW{c:Int}(h:aP c=9):c=63\/c=64\/c=64523:=by
 unfold aP at h
 repeat' split at h
 all_goals omega
theorem MV{c:Int}(h:aP c=10):c=64522:=by
 unfold aP at h
 repeat' split at h
 all_goals omega
theorem zN(h:x.Code=63):rz v x s=(eG v.cj x.A).bind λwa=>some (bG s [cz wa]):=by
 unfold rz;have hf:aP x.Code=9:=by rw[h];decide
 refine Option.bind_congr λwa _=>?_;rw[if_neg (by omega),Option.bind_some,if_neg (by omega),if_pos h,h];rfl
theorem wZ(h:x.Code=64):rz v x s=(eG v.cj x.A).bind λwa=>p7 s [cz wa] [cz wa]:=by
 unfold rz;have hf:aP x.Code=9:=by rw[h];decide
 refine Option.bind_congr λwa _=>?_;rw[if_neg (by omega),Option.bind_some,if_neg (by omega),if_neg (by omega),if_pos h]
theorem qA(h:x.Code=64523):rz v x s=(eG v.cj x.A).bind λwa=>dD s [cz wa,127,cz wa]:=by
 unfold rz;have hf:aP x.Code=9:=by rw[h];decide
 refine Option.bind_congr λwa _=>?_;rw[if_neg (by omega),Option.bind_some,if_neg (by omega),if_neg (by omega),if_neg (by omega),if_pos h,h];exact pH _ _
theorem n7(h:x.Code=64522):rz v x s=(eG v.cj x.A).bind λwa=>(eG v.cj x.B).bind λwb=>dD s [cz wa,cz wb,cz (wa/\wb)]:=by
 unfold rz;have hf:aP x.Code=10:=by rw[h];decide
 refine Option.bind_congr λwa _=>?_;rw[if_pos hf];refine Option.bind_congr λwb _=>?_;rw[if_neg (by omega),if_neg (by omega),if_neg (by omega),if_neg (by omega),h];exact pH _ _
end
theorem m0{w:Prop}:((cz w).toNat:Int)=126↔w:=by
 unfold cz;split<;>simp_all
noncomputable abbrev jN(m:aT)(f:cn)(x:aj)(fs:List eT)(b:eT):Option (List eT):=cR (·.Code) eH (fZ (bR m f)) x fs b
section
variable {m:aT} {f:cn} {x:aj} {fs:List eT} {b:eT}
theorem AX(h11:x.Code≠11)(h5:x.Code≠5)(ho:¬aN x.Code):jN m f x fs b=(fZ (bR m f) x b.st ((fs++[b]).map qw)).map λs=>fs++[{b with st:=s}]:=by
 unfold jN cR;rw[if_neg h11,if_neg h5,if_neg ho]
open Classical in
theorem vu(ho:aN x.Code):jN m f x fs b=(if x.Code=4 then dD b.st [127] else some b.st).map λs=>fs++[{b with st:=s}]++[⟨x.Code=3,x.Code=4,eH x,([],False)⟩]:=by
 have ho':=ho;unfold aN at ho';have e1:¬x.Code=11:=by omega
 have e2:¬x.Code=5:=by omega
 unfold jN cR;rw[if_neg e1,if_neg e2,if_pos ho]
theorem Kt(h:x.Code=5)(hc:Cv b.res b.st):jN m f x fs b=some (fs++[{b with is:=False,st:=([],False)}]):=by
 have e1:¬x.Code=11:=by omega
 unfold jN cR;rw[if_neg e1,if_pos h,if_pos (show oG b from hc)]
theorem Cw(h:x.Code=5)(hc:¬Cv b.res b.st):jN m f x fs b=none:=by
 have e1:¬x.Code=11:=by omega
 unfold jN cR;rw[if_neg e1,if_pos h,if_neg (show ¬oG b from hc)]
theorem OH(h:x.Code=11)(hc:Cv b.res b.st/\(b.is->b.res=[])):jN m f x fs b=some (match fs.getLast? with|none=>[]|some t=>fs.dropLast++[{t with st:=bG t.st b.res}]):=by
 unfold jN cR;rw[if_pos h,if_pos (show oG b/\(b.is->b.res=[]) from hc)];try rfl
theorem EC(h:x.Code=11)(hc:¬(Cv b.res b.st/\(b.is->b.res=[]))):jN m f x fs b=none:=by
 unfold jN cR;rw[if_pos h,if_neg (show ¬(oG b/\(b.is->b.res=[])) from hc)]
theorem RX(fs:List eT)(r:List UInt8):OF (match fs.getLast? with|none=>[]|some t=>fs.dropLast++[{t with st:=bG t.st r}]) (dU fs++r) (kJ fs):=by
 rcases List.eq_nil_or_concat fs with rfl|⟨gs,t,rfl⟩
 · exact⟨rfl,λh=>absurd rfl h⟩
 · simp only[List.concat_eq_append,List.getLast?_append,List.getLast?_singleton,Option.some_or,List.dropLast_concat]
   refine⟨?_,λ_=>?_⟩
   · rw[mB,mB];first|done|rfl
   · rw[jl,jl];first|done|simp[bG,List.append_assoc]
theorem DD(fs:List eT)(b:eT)(s:ee)(x:aj):OF (fs++[{b with st:=s}]++[⟨x.Code=3,x.Code=4,eH x,([],False)⟩]) (dU fs++s.1) ((kJ fs++[mZ (dU fs).length b s])++[mZ (dU fs++s.1).length ⟨x.Code=3,x.Code=4,eH x,([],False)⟩ ([],False)]):=
 ⟨by rw[mB,mB,jl];rfl,λ_=>by rw[jl,jl];simp⟩
theorem OI(fs:List eT)(b:eT):OF (fs++[{b with is:=False,st:=([],False)}]) (dU fs) (kJ fs++[mZ (dU fs).length ⟨b.loop,False,b.res,([],False)⟩ ([],False)]):=
 ⟨by rw[mB],λ_=>by rw[jl];simp⟩
end
end Go.Hl
end
section
namespace Go.Hl
variable {s:ee} {s':ee}
theorem mO{i o:List UInt8}(h:p7 s i o=some s'):s'.1.length<=s.1.length+o.length:=by
 unfold p7 at h;obtain⟨t,h1,rfl⟩:=Option.map_eq_some_iff.1 h;rw[qy];have:=vn h1;omega
theorem yb{w:List UInt8}(h:((dD s w).map λ_=>fT)=some s'):s'.1.length<=s.1.length:=by
 obtain⟨t,h1,rfl⟩:=Option.map_eq_some_iff.1 h;simp[fT]
theorem DE{L:List (List UInt8)}{n:Int}{w:List UInt8}(h:iG L n=some w):w∈L:=by
 unfold iG at h
 split at h
 · exact List.mem_of_getElem? h
 · cases h
theorem G7{α:Type}{L:List α}{n:Int}{w:α}(h:eG L n=some w):w∈L:=by
 unfold eG at h
 split at h
 · exact List.mem_of_getElem? h
 · cases h
variable {v:oY} {x:aj}
theorem OJ(ht:(aQ x.Code).2.length<=20)(h:rz v x s=some s'):s'.1.length<=s.1.length+20:=by
 unfold rz at h;obtain⟨wa,_,h⟩:=Option.bind_eq_some_iff.1 h;obtain⟨wb,_,h⟩:=Option.bind_eq_some_iff.1 h
 split at h
 · split at h
   · cases h
   · have:=mO h;omega
 split at h
 · have:=mO h;simp only[List.length_cons,List.length_nil] at this;omega
 split at h
 · have:=mO h;simp only[List.length_cons,List.length_nil] at this;omega
 split at h
 · have:=mO h;omega
 · have:=mO h;omega
theorem RY{labs:List (List UInt8)}(hl:∀w∈labs,w.length<=20)(hF:∀g∈v.aq,g.R.length<=20)(hS:∀g∈v.bQ,g.R.length<=20)(ht:(aQ x.Code).2.length<=20)
    (h:fZ v x s labs=some s'):s'.1.length<=s.1.length+20:=by
  unfold fZ at h;by_cases c0:x.Code=0
  · rw[if_pos c0] at h
    cases h;simp[fT]
  rw[if_neg c0] at h;by_cases c1:x.Code=12
  · rw[if_pos c1] at h
    obtain⟨w,hw,h⟩:=Option.bind_eq_some_iff.1 h;have:=yb h;omega
  rw[if_neg c1] at h;by_cases c2:x.Code=13
  · rw[if_pos c2] at h
    obtain⟨w,hw,h⟩:=Option.bind_eq_some_iff.1 h;have:=mO h;have:=hl w (DE hw);omega
  rw[if_neg c2] at h;by_cases c3:x.Code=14
  · rw[if_pos c3] at h
    obtain⟨w,hw,h⟩:=Option.bind_eq_some_iff.1 h
    split at h
    · have:=yb h;omega
    · cases h
  rw[if_neg c3] at h;by_cases c4:x.Code=15
  · rw[if_pos c4] at h
    have:=yb h;omega
  rw[if_neg c4] at h;by_cases c5:x.Code=16
  · rw[if_pos c5] at h
    obtain⟨g,hg,h⟩:=Option.bind_eq_some_iff.1 h;have:=mO h;have:=hF g (G7 hg);omega
  rw[if_neg c5] at h;by_cases c6:x.Code=17
  · rw[if_pos c6] at h
    obtain⟨g,hg,h⟩:=Option.bind_eq_some_iff.1 h
    split at h
    · have:=mO h;have:=hS g (G7 hg);omega
    · cases h
  rw[if_neg c6] at h;by_cases c7:x.Code=26
  · rw[if_pos c7] at h
    obtain⟨p,h1,rfl⟩:=Option.map_eq_some_iff.1 h;have:=oI h1;omega
  rw[if_neg c7] at h;by_cases c8:x.Code=27
  · rw[if_pos c8] at h
    obtain⟨p,h1,h⟩:=Option.bind_eq_some_iff.1 h;obtain⟨q,h2,h⟩:=Option.bind_eq_some_iff.1 h;obtain⟨r,h3,rfl⟩:=Option.map_eq_some_iff.1 h;have:=vn h1;have:=oI h2;have:=oI h3
    rw[qy];simp only[List.length_cons,List.length_nil];omega
  rw[if_neg c8] at h;by_cases c9:x.Code=32
  · rw[if_pos c9] at h
    obtain⟨t,_,rfl⟩:=Option.map_eq_some_iff.1 h;rw[qy];simp only[List.length_cons,List.length_nil];omega
  rw[if_neg c9] at h;by_cases lZ:x.Code=33
  · rw[if_pos lZ] at h
    obtain⟨t,_,h⟩:=Option.bind_eq_some_iff.1 h;have:=vn h;omega
  rw[if_neg lZ] at h;by_cases n8:x.Code=34
  · rw[if_pos n8] at h
    obtain⟨t,_,h⟩:=Option.bind_eq_some_iff.1 h;have:=mO h;simp only[List.length_cons,List.length_nil] at this;omega
  rw[if_neg n8] at h;by_cases qB:x.Code=35
  · rw[if_pos qB] at h
    obtain⟨t,_,rfl⟩:=Option.map_eq_some_iff.1 h;rw[qy];simp only[List.length_cons,List.length_nil];omega
  rw[if_neg qB] at h;by_cases v8:x.Code=36
  · rw[if_pos v8] at h
    obtain⟨t,_,h⟩:=Option.bind_eq_some_iff.1 h;obtain⟨mu,_,h⟩:=Option.bind_eq_some_iff.1 h
    split at h
    · have:=vn h;omega
    · cases h
  rw[if_neg v8] at h;by_cases s7:aP x.Code<8\/10<aP x.Code
  · rw[if_pos s7] at h
    have:=mO h;omega
  · rw[if_neg s7] at h;exact OJ ht h
def ED(fs:List eT):Prop:=∀k∈fs,k.res.length<=20
theorem G8{fs:List eT}(h:ED fs):∀w∈fs.map qw,w.length<=20:=λw hw=>by
 obtain⟨k,hk,rfl⟩:=List.mem_map.1 hw;unfold qw
 split
 · simp
 · exact h k hk
theorem Ku{fs fs':List eT}{b:eT}{rr:aj->List UInt8}(hr:(rr x).length<=20)(hb:ED (fs++[b]))(hF:∀g∈v.aq,g.R.length<=20)(hS:∀g∈v.bQ,g.R.length<=20)(ht:(aQ x.Code).2.length<=20)
    (h:cR (·.Code) rr (fZ v) x fs b=some fs'):ED fs'/\su fs'<=su (fs++[b])+20/\fs'.length<=fs.length+2:=by
  have Ac:b.res.length<=20:=hb b (by simp);have Qx:ED fs:=λk hk=>hb k (by simp[hk]);rw[jk];unfold cR at h
  split at h
  · split at h
    · simp only[Option.some.injEq] at h
      subst h;rcases List.eq_nil_or_concat fs with rfl|⟨gs,t,rfl⟩
      · exact⟨λk hk=>by simp at hk,by simp[su],by simp⟩
      · simp only[List.concat_eq_append,List.getLast?_append,List.getLast?_singleton,Option.some_or,List.dropLast_concat]
        refine⟨λk hk=>?_,?_,by simp⟩
        · rcases List.mem_append.1 hk with hk|hk
          · exact Qx k (by simp[hk])
          · simp only[List.mem_singleton] at hk;subst hk;exact Qx t (by simp)
        · rw[jk,jk];simp only[qy];omega
    · cases h
  split at h
  · split at h
    · simp only[Option.some.injEq] at h
      subst h;refine⟨λk hk=>?_,?_,by simp⟩
      · rcases List.mem_append.1 hk with hk|hk
        · exact Qx k hk
        · simp only[List.mem_singleton] at hk;subst hk;exact Ac
      · rw[jk];simp only[List.length_nil];omega
    · cases h
  split at h
  · obtain⟨s,h1,rfl⟩:=Option.map_eq_some_iff.1 h
    have hs:s.1.length<=b.st.1.length:=by
      split at h1
      · exact vn h1
      · cases h1;exact Nat.le_refl _
    refine⟨λk hk=>?_,?_,by simp⟩
    · rcases List.mem_append.1 hk with hk|hk
      · rcases List.mem_append.1 hk with hk|hk
        · exact Qx k hk
        · simp only[List.mem_singleton] at hk;subst hk;exact Ac
      · simp only[List.mem_singleton] at hk;subst hk;exact hr
    · rw[jk,jk];simp only[List.length_nil];omega
  · obtain⟨s,h1,rfl⟩:=Option.map_eq_some_iff.1 h
    have hs:=RY (G8 hb) hF hS ht h1;refine⟨λk hk=>?_,?_,by simp⟩
    · rcases List.mem_append.1 hk with hk|hk
      · exact Qx k hk
      · simp only[List.mem_singleton] at hk;subst hk;exact Ac
    · rw[jk];simp only;omega
end Go.Hl
end
section
namespace Go.Hl
open Go.RowKit
def m4(x:pF)(g:SB):List VP:=[af .i64 x.Code,dV x.Name,af .i64 x.Form,ag (bI g x.wO.length),ai 1 an x.s4]
instance (x:pF) (g:SB):bD (m4 x g):=⟨λq h=>by simp only[m4,List.mem_cons,List.not_mem_nil,or_false] at h;rcases h with h|h|h|h|h<;>subst h<;>infer_instance⟩
theorem MW{c:Int}(h:aP c=8):∃t tl,(aQ c).1=t::tl:=by
 have hc:40<=c/\c<=62:=by
  unfold aP at h
  repeat' split at h
  all_goals first|omega|assumption
 unfold aQ;rw[if_neg (by omega)];by_cases h1:c=40\/44<=c/\c<=47
 · rw[if_pos h1];exact⟨_,_,rfl⟩
 rw[if_neg h1];by_cases h2:c=41\/48<=c/\c<=53
 · rw[if_pos h2];exact⟨_,_,rfl⟩
 rw[if_neg h2];by_cases h3:(c=54\/c=58)\/c=59
 · rw[if_pos h3];exact⟨_,_,rfl⟩
 rw[if_neg h3,if_pos hc.2];exact⟨_,_,rfl⟩
theorem U5{a:Int}(h:a<8):IntKind.i64.wrap (1*2^a.toNat)=2^a.toNat:=by
 have:a.toNat=0\/a.toNat=1\/a.toNat=2\/a.toNat=3\/a.toNat=4\/a.toNat=5\/a.toNat=6\/a.toNat=7:=by omega
 rcases this with h|h|h|h|h|h|h|h<;>rw[h]<;>decide
theorem U6{a:Int}(h:¬a<8):(256:Int)<=2^a.toNat:=by
 have h8:8<=a.toNat:=by omega
 have h9:2^8<=2^a.toNat:=Nat.pow_le_pow_right (by decide) h8;have:((2^a.toNat:Nat):Int)=2^a.toNat:=by simp
 omega
theorem OK(c:Int):iW c<=8:=by unfold iW;repeat (first|split|omega)
variable {x:aj}
theorem AY:(x.ei<8/\2^x.ei.toNat<=(jL x.Code).getD 0)↔¬iW x.Code<2^x.ei.toNat:=by
 rw[(OD x.Code).1];constructor
 · rintro⟨h1,h2⟩;omega
 · intro h
   refine⟨Classical.byContradiction λh8=>?_,by omega⟩;have:=U6 h8;have:=OK x.Code;omega
abbrev W0:=SB×SB×List UInt8×List QA
abbrev ckZ(cb:Nat)(m:aT)(f:cn)(z:W0):List HP:=RS cb m f z.1 z.2.1 z.2.2.1 z.2.2.2
def MX(m:aT)(f:cn)(x:aj)(fs:List eT)(b:eT)(z:W0):Prop:=∃fs',jN m f x fs b=some fs'/\OF fs' z.2.2.1 z.2.2.2
variable {fs:List eT}
theorem jn{m:aT}{f:cn}{b:eT}{gs gb:SB}{s:ee}(h11:x.Code≠11)(h5:x.Code≠5)(ho:¬aN x.Code)(h:fZ (bR m f) x b.st ((fs++[b]).map qw)=some s):
    MX m f x fs b (gs,gb,dU fs++s.1,kJ fs++[mZ (dU fs).length b s]):=⟨_,by rw[AX h11 h5 ho,h];rfl,RV fs b s⟩
theorem eP{m:aT}{f:cn}{b:eT}(h11:x.Code≠11)(h5:x.Code≠5)(ho:¬aN x.Code)(h:fZ (bR m f) x b.st ((fs++[b]).map qw)=none):jN m f x fs b=none:=by rw[AX h11 h5 ho,h];rfl
theorem U7{n:Int}{w:List UInt8}(h:ED fs)(hw:iG (fs.map qw) n=some w):w.length<=20:=G8 h w (DE hw)
end Go.Hl
end
section
namespace Go.Hl
def pI(x:aj):Prop:=x.ei=0/\x.L=[]
def nB(x:aj)(f:Int):Prop:=
 (f=0/\x.A=0/\x.B=0/\pI x)\/(f=1/\(x.A=64\/x.A=127\/x.A=126)/\x.B=0/\pI x)\/
 ((f=2\/f=4\/f=6\/f=7\/f=9)/\um x.A/\x.B=0/\pI x)\/
 (f=3/\um x.A/\(∀n∈x.L,um n)/\x.L.length<=100/\x.B=0/\x.ei=0)\/
 ((f=5\/f=10)/\um x.A/\um x.B/\pI x)\/(f=8/\um x.A/\0<=x.ei/\x.ei<=31/\x.L=[])\/
 (f=11/\(x.Code=66\/um x.A)/\x.B=0/\pI x)
theorem G9{x:aj}(hA:0<=x.A)(hB:0<=x.B)(hf:0<=aP x.Code/\aP x.Code<=11)(W1:aP x.Code=11->x.Code=65\/x.Code=66)(OL:x.Code=65->aP x.Code=11):
    iH x↔iO x.Code≠[]/\nB x (aP x.Code):=by
  unfold iH nB pI;generalize aP x.Code=f at*;refine and_congr_right λ_=>?_;simp only[um];have hL:x.L=[]->∀n∈x.L,n<=4294967295:=λe n h=>by rw[e] at h;cases h
  obtain⟨h0,h1⟩:=hf;have hc:f=0\/f=1\/f=2\/f=3\/f=4\/f=5\/f=6\/f=7\/f=8\/f=9\/f=10\/f=11:=by omega
  generalize hQ:(∀n∈x.L,n<=4294967295)=Q at*;generalize hE:(x.L=[])=E at*;have hlen:E->x.L.length<=100:=λh=>by rw[<-hE] at h;simp[h]
  rcases hc with rfl|rfl|rfl|rfl|rfl|rfl|rfl|rfl|rfl|rfl|rfl|rfl<;>simp at OL W1 ⊢ <;>(by_cases e:E<;>by_cases q:Q<;>simp[e,q] at hL hlen ⊢)<;>omega
def bF(out:List (Nat×UInt8))(t:UInt8):List (Nat×UInt8):=
 match out.getLast? with
 |none=>[(1,t)]
 |some p=>if p.2=t then out.dropLast++[(p.1+1,t)] else out++[(1,t)]
theorem rC(o:List (Nat×UInt8))(n:Nat)(t t':UInt8):bF (o++[(n,t)]) t'=o++bF [(n,t)] t':=by
 simp only[bF,List.getLast?_append,List.getLast?_singleton,Option.some_or]
 split<;>simp_all
theorem OM(l:List UInt8):∀(o:List (Nat×UInt8)) (n:Nat) (t:UInt8),l.foldl bF (o++[(n,t)])=o++l.foldl bF [(n,t)]:=by
 induction l with
 |nil=>intros;rfl
 |cons a l ih=>
  intro o n t;simp only[List.foldl_cons,rC];by_cases h:t=a
  · subst h
    have e:bF [(n,t)] t=[(n+1,t)]:=by simp[bF]
    rw[e,ih]
  · have e:bF [(n,t)] a=[(n,t)]++[(1,a)]:=by simp[bF,h]
    rw[e,ih [(n,t)] 1 a,<-List.append_assoc,ih (o++[(n,t)]) 1 a,List.append_assoc]
theorem AZ(t:UInt8)(l:List UInt8):∃n r,iI (t::l)=(n+1)::r:=by
 simp only[iI]
 split
 · split
   · exact⟨_,_,rfl⟩
   · exact⟨0,_,rfl⟩
 · exact⟨0,[],rfl⟩
theorem RZ(l:List UInt8):∀(n:Nat) (t:UInt8) (k:Nat) (r:List Nat),iI (t::l)=(k+1)::r->(l.foldl bF [(n,t)]).map Prod.fst=(n+k)::r:=by
 induction l with
 |nil=>intro n t k r h;simp[iI] at h;obtain⟨rfl,rfl⟩:=h;simp
 | cons a l ih=>
  intro n t k r h;obtain⟨n2,r2,e2⟩:=AZ a l
  have h':iI (t::a::l)=if a=t then(n2+1+1)::r2 else 1::(n2+1)::r2:=by
   rw[iI];simp only[e2]
  rw[h'] at h;simp only[List.foldl_cons];by_cases e:a=t
  · subst e
    simp only[if_true,List.cons.injEq] at h;have e3:bF [(n,a)] a=[(n+1,a)]:=by simp[bF]
    rw[e3,ih (n+1) a n2 r2 e2];obtain⟨h1,rfl⟩:=h
    congr 1;omega
  · simp only[e,if_false,List.cons.injEq] at h
    have e3:bF [(n,t)] a=[(n,t)]++[(1,a)]:=by simp[bF,Ne.symm e]
    rw[e3,OM,List.map_append,ih 1 a n2 r2 e2];obtain⟨h1,rfl⟩:=h;simp;omega
theorem U8(l:List UInt8):(l.foldl bF []).map Prod.fst=iI l:=by
 cases l with
 |nil=>rfl
 |cons t l=>
  obtain⟨n,r,e⟩:=AZ t l;have:bF [] t=[(1,t)]:=rfl;rw[List.foldl_cons,this,RZ l 1 t n r e,e];congr 1;omega
def U9(b:Bool):Nat:=if b then 1 else 0
theorem Yh(b:Bool):U9 b<=1:=by cases b<;>decide
theorem He(A i:Nat):U9 (A.testBit i)=(A/2^i)%2:=by
 rw[Nat.testBit,Nat.shiftRight_eq_div_pow,Nat.and_comm,Nat.and_one_is_mod];rcases Nat.mod_two_eq_zero_or_one (A/2^i) with h|h<;>rw[h]<;>rfl
theorem rD(B i:Nat):B%2^(i+1)=B%2^i+2^i*U9 (B.testBit i):=by
 rw[He,Nat.pow_succ,Nat.mod_mul]
end Go.Hl
end
