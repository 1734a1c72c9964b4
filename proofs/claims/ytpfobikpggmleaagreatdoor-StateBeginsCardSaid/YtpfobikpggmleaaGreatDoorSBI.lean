/-
  What the statement's proof leans on, several texts in one (packed by a program).
-/
import Derived.Test.YtpfobikpggmleaaGreatDoorSBH
import Derived.Defers
import Derived.Recover
set_option linter.all false
set_option maxRecDepth 1000000
set_option maxHeartbeats 4000000
section
namespace Go.Hl
open Go.RowKit
def mP(tf:TypeId)(e:Int):Value:= .iface tf (.agg #[.int .i64 e])
def zm(tf:TypeId)(ch:List PanicEntry):Prop:=∃e:Int,e≠0∧ch=[{v:=mP tf e,recovered:=false}]
variable {γ:Type}
def WS(c:Ctx)(tf:TypeId)(D:Prop)(φ:γ→Prop)(hs':γ→List HP)(q:γ→VP)(e:Ending)(w':World):Prop:=
 (∃v S' F' g,e= .returned v∧kH ⟨c.w0,c.S0,c.M,0,none,[]⟩ w' S' F'∧φ g∧de (hs' g) F' S' w'∧(q g).p S' w' v)∨(D∧∃ch S' F',e= .panicked ch∧zm tf ch∧kH ⟨c.w0,c.S0,c.M,0,none,[]⟩ w' S' F')
def yj(P:Program)(tf:TypeId)(f:FuncId)(ps:List VP)(hs:List HP)(D:Prop)(φ:γ→Prop)(hs':γ→List HP)(q:γ→VP):Prop:=
 ∀(w:World) (S F:BS) (vs:Array Value),(∀k,S k→k<w.heap.size)→(∀k,F k→k<w.heap.size)→(∀k,S k→¬F k)→de hs F S w→gW ps S w vs.toList→
  Calls P f vs w fun e w'=>WS ⟨w,S,F,0,none,[]⟩ tf D φ hs' q e w'
def ES(P:Program)(fn:Func)(c:Ctx)(tf:TypeId)(D:Prop)(φ:γ→Prop)(hs':γ→List HP)(q:γ→VP):Exit→Act→World→Prop:=
 bodyPost P fn fun e w'=>WS c tf D φ hs' q e w'
theorem yj.intro{P:Program}{tf:TypeId}{D:Prop}{f:FuncId}{fn:Func}{x:Code}{ps:List VP}{hs:List HP}{γ:Type}{φ:γ→Prop}{hs':γ→List HP}{q:γ→VP}
    (n:Nat) (hf:P.funcs[f]?=some fn) (hb:fn.body=some x) (hnt:fn.ntmps=n) (hn:Nat.ble ps.length n=true)
    (h:∀(w0:World) (S0 M:BS),aM P (ES P fn ⟨w0,S0,M,n,none,[]⟩ tf D φ hs' q) ⟨w0,S0,M,n,none,[]⟩ x hs (args ps)):yj P tf f ps hs D φ hs' q:=by
  intro w S F vs hS hF hSF hown hall;have hlen:ps.length=vs.size:=by simpa using hall.1
  have hn':ps.length≤n:=by simpa using hn
  refine calls_of_wp hf hb (wpIn_wide.1 (h w S F _ _ ⟨rfl,?_,S,F,?_,hown,?_⟩))
  · simp;omega
  · exact⟨rfl,rfl,rfl,Nat.le_refl _,fun _ _ _=>rfl,hSF,hS,hF,fun k hk=> .inl hk,fun k hk=> .inl hk,fun _ hk=>hk⟩
  · intro t q' hl
    obtain⟨j,hj,hq⟩:=pn ps 0 t q' hl;have wh:t=j:=by omega
    subst wh;have hjl:t<ps.length:=(List.getElem?_eq_some_iff.1 hq).1;have N5:t<vs.size:=by omega
    have:(vs++Array.replicate (fn.ntmps-vs.size) undef).getD t undef=vs[t]:=by simp[Array.getElem?_append,N5]
    rw[this];exact hall.2 t q' _ hq (by simp[N5])
variable {P:Program} {hs:List HP} {env:Env} {c:Ctx} {fn:Func} {tf:TypeId} {D:Prop} {φ:γ→Prop} {hs':γ→List HP}
theorem bN.kQ{q:γ→VP}(h:bN (Post P fn c φ hs' q) .ret c hs env):bN (ES P fn c tf D φ hs' q) .ret c hs env:=
 fun a w hst=>let ⟨h1,v,h2,h3⟩:=h a w hst;⟨h1,v,h2, .inl h3⟩
theorem bN.rQ{q:γ→VP}(h:bN (Post P fn c φ hs' q) .normal c hs env):bN (ES P fn c tf D φ hs' q) .normal c hs env:=
 fun a w hst=>let ⟨h1,v,h2,h3⟩:=h a w hst;⟨h1,v,h2, .inl h3⟩
class ET(tf:TypeId)(D:outParam Prop)(Q:Exit→Act→World→Prop)(c:Ctx):Prop where
 WT:∀{ch:List PanicEntry} {hs:List HP} {env:Env},D→zm tf ch→bN Q (.panic ch) c hs env
instance {P:Program} {fn:Func} {w0:World} {S0 M:BS} {n:Nat} {ro:Option Nat} {tf:TypeId} {D:Prop} {γ:Type} (φ:γ→Prop) (hs':γ→List HP) (q:γ→VP):ET tf D (ES P fn ⟨w0,S0,M,n,ro,[]⟩ tf D φ hs' q) ⟨w0,S0,M,n,ro,[]⟩:=
 ⟨fun{ch hs env} hD hc a w hst=>by
  obtain⟨h1,h2,S,F,h3,h4,h5⟩:=hst;exact⟨h1, .inr ⟨hD,ch,S,F,rfl,hc,⟨h3.os,h3.tape,h3.output,h3.size,h3.kept,h3.dJ,h3.bR,h3.cq,h3.own,h3.shr,h3.base⟩⟩⟩⟩
instance {tf:TypeId} {D:Prop} {Q:Exit→Act→World→Prop} {K:Act→World→Prop} {c:Ctx} [h:ET tf D Q c]:ET tf D (Exit.then K Q) c:=⟨fun hD hc=>h.WT hD hc⟩
instance {tf:TypeId} {D:Prop} {Q:Exit→Act→World→Prop} {id:Nat} {c:Ctx} [h:ET tf D Q c]:ET tf D (Exit.inBlock id Q) c:=⟨fun hD hc=>h.WT hD hc⟩
theorem kH.through{w w':World}{S F F1 F2 S' F1':BS}(aH:kH c w S F)(qn:∀k,F1 k→F k∧¬F2 k)(xE:∀k,F2 k→F k)(h2:kH ⟨w,S,F1,0,none,[]⟩ w' S' F1'):
    kH c w' S' (fun k=>F1' k∨F2 k)∧(∀k,S k→w'.heap[k]?=w.heap[k]?)∧(∀k,F2 k→w'.heap[k]?=w.heap[k]?)∧(∀k,F1' k→¬F2 k):=by
  have hSF:∀k,S k→¬F1 k:=fun k hk hf=>aH.dJ k hk (qn k hf).1;have hoS:∀k,S k→w'.heap[k]?=w.heap[k]?:=fun k hk=>h2.kept k (aH.bR k hk) (hSF k hk);have ho2F:∀k,F2 k→¬F1 k:=fun k hk hf=>(qn k hf).2 hk
  have hn:∀k,F1' k→¬F2 k:=fun k hk hf=>by
    rcases h2.own k hk with h|h
    · exact(qn k h).2 hf
    · exact Nat.lt_irrefl _ (Nat.lt_of_lt_of_le (aH.cq k (xE k hf)) h)
  refine⟨⟨h2.os.trans aH.os,h2.tape.trans aH.tape,h2.output.trans aH.output,Nat.le_trans aH.size h2.size,fun k hk hm=>?_,fun k hk hf=>?_,h2.bR,fun k hk=>?_,fun k hk=>?_,fun k hk=>?_,fun k hk=>h2.base k (aH.base k hk)⟩,hoS,fun k hk=>h2.kept k (aH.cq k (xE k hk)) (ho2F k hk),hn⟩
  · have hnF:¬F1 k:=fun hf=>(aH.own k (qn k hf).1).elim hm (fun h=>by omega)
    exact(h2.kept k (Nat.lt_of_lt_of_le hk aH.size) hnF).trans (aH.kept k hk hm)
  · rcases hf with hf|hf
    · exact h2.dJ k hk hf
    · rcases h2.shr k hk with h|h|h
      · exact aH.dJ k h (xE k hf)
      · exact(qn k h).2 hf
      · exact Nat.lt_irrefl _ (Nat.lt_of_lt_of_le (aH.cq k (xE k hf)) h)
  · rcases hk with hk|hk
    · exact h2.cq k hk
    · exact Nat.lt_of_lt_of_le (aH.cq k (xE k hk)) h2.size
  · rcases hk with hk|hk
    · rcases h2.own k hk with h|h
      · exact aH.own k (qn k h).1
      · exact .inr (Nat.le_trans aH.size h)
    · exact aH.own k (xE k hk)
  · rcases h2.shr k hk with h|h|h
    · exact aH.shr k h
    · exact .inr ((aH.own k (qn k h).1).imp (fun h=>h) (fun h=>h))
    · exact .inr (.inr (Nat.le_trans aH.size h))
def Rm(P:Program)(tf:TypeId)(hs rest:List HP)(env:Env)(o:Oper)(D:Prop)(φ:γ→Prop)(hs':γ→List HP)(q:γ→VP):Prop:=
 ∀(c:Ctx) (a:Act) (w:World) (S F:BS),kH c w S F→de hs F S w→cS env S w a.tmps→
 ∀(K:Act→World→Prop) (Q:Exit→Act→World→Prop),
  (∀g v w' S' F',φ g→kH c w' S' F'→(∀k,S k→S' k)→(∀k,S k→w'.heap[k]?=w.heap[k]?)→de (hs' g) F' S' w'→(q g).p S' w' v→K (a.put o.dst v) w')→
  (∀ch w' S' F',D→zm tf ch→kH c w' S' F'→(∀k,S k→S' k)→(∀k,S k→w'.heap[k]?=w.heap[k]?)→de rest F' S' w'→Q (.panic ch) a w')→o.wp P a w K Q
variable {o:Oper}
theorem Rm.jy{rest:List HP}{q:γ→VP}(h:Rm P tf hs rest env o D φ hs' q){a:Act}{w:World}{S F:BS}(h3:kH c w S F)(h4:de hs F S w)(h5:cS env S w a.tmps)(hcall:∃cl,o.op= .call cl):∀cl,o.op≠ .defer cl:=by
 obtain⟨cl,e⟩:=hcall;intro cl' e';rw[e] at e';cases e'
section
variable {P:Program} {tf:TypeId} {ops:Array Oper} {Q:Exit→Act→World→Prop} {c:Ctx} {l:List Oper} {hs:List HP} {env:Env} {ty:TypeId} {pos:String} {after:Array Edge} {dst:Option Tmp}
theorem cr.xd{d:Tmp}{cl:Call}{rest:List HP}{D:Prop}{γ:Type}{φ:γ→Prop}{hs':γ→List HP}{q:γ→VP}(h:Rm P tf hs rest env ⟨some d, .call cl,ty,pos,after,none⟩ D φ hs' q)(hd:Nat.blt d c.n=true)(OE:∀ch,D→zm tf ch→bN Q (.panic ch) c rest env)
    (k:∀g,φ g→cr P ops Q c l (hs' g) ((d,q g)::env)):cr P ops Q c (⟨some d, .call cl,ty,pos,after,none⟩::l) hs env:=by
  intro a w hst;obtain⟨h1,h2,S,F,h3,h4,h5⟩:=hst;refine wpListIn_plain rfl fun K hK=>Oper.qW (h.jy h3 h4 h5 ⟨cl,rfl⟩)<|h c a w S F h3 h4 h5 K Q (fun g v w' S' F' hφ aH hsub hag hown hq=>hK _ _ (k g hφ _ _ ⟨?_,?_,S',F',aH,hown,?_⟩)) (fun ch w' S' F' hD hc aH hsub hag hown=>?_)
  · rw[Act.dA];exact h1
  · rw[Act.gE];exact h2
  · exact(h5.mono hsub hag).put hq (by rw[h2];simpa using hd)
  · exact OE ch hD hc a w' ⟨h1,h2,S',F',aH,hown,h5.mono hsub hag⟩
theorem cr.x{d:Tmp}{cl:Call}{rest:List HP}{D D':Prop}{γ:Type}{φ:γ→Prop}{hs':γ→List HP}{q:γ→VP}(h:Rm P tf hs rest env ⟨some d, .call cl,ty,pos,after,none⟩ D' φ hs' q)(hd:Nat.blt d c.n=true)[pq:ET tf D Q c](hD:D'→D)
    (k:∀g,φ g→cr P ops Q c l (hs' g) ((d,q g)::env)):cr P ops Q c (⟨some d, .call cl,ty,pos,after,none⟩::l) hs env:=cr.xd h hd (fun ch hd' hc=>pq.WT (hD hd') hc) k
theorem sV{D:Prop}{f:FuncId}{xs:List Operand}{ats:Array TypeId}{ps:List VP}{hs0 rest:List HP}{γ:Type}{φ:γ→Prop}{hs':γ→List HP}{q:γ→VP}(hf:yj P tf f ps hs0 D φ hs' q)(hb:mU P f=true)(hx:mc env xs ps)(hp:hs.Perm (hs0++rest)):
    Rm P tf hs rest env ⟨dst, .call ⟨.value (.func f),xs.toArray,ats⟩,ty,pos,after,none⟩ D φ (fun g=>hs' g++rest) q:=by
  intro c a w S F aH hown he K Q hk OE;obtain⟨F1,F2,qn,xE,Ut,Tt⟩:=de.append.1 (hown.perm hp);have Tu:∀k,F1 k→k<w.heap.size:=fun k hk=>aH.cq k (qn k hk).1;have hSF:∀k,S k→¬F1 k:=fun k hk hf=>aH.dJ k hk (qn k hf).1;have key:∀{w':World} {S' F1':BS},kH ⟨w,S,F1,0,none,[]⟩ w' S' F1'→_:=fun h2=>aH.through qn xE h2;unfold Oper.wp;rw[uR hb];refine(hf w S F1 _ aH.bR Tu hSF Ut (by simpa using hx S w a he)).mono ?_;rintro e w' (⟨v,S',F1',g,rfl,h2,hφ,uX,hq⟩|⟨hD,ch,S',F1',rfl,hc,h2⟩)
  · obtain⟨k1,k2,k3,k4⟩:=key h2
    exact hk g v w' S' _ hφ k1 h2.base k2 (de.append.2 ⟨F1',F2,fun k hk=>⟨.inl hk,k4 k hk⟩,fun k hk=> .inr hk,uX,Tt.mono (fun _ h=>h) h2.base k3 k2⟩) hq
  · obtain⟨k1,k2,k3,k4⟩:=key h2
    exact OE ch w' S' _ hD hc k1 h2.base k2 ((de.append (as:=[])).2 ⟨F1',F2,fun k hk=>⟨.inl hk,k4 k hk⟩,fun k hk=> .inr hk,trivial,Tt.mono (fun _ h=>h) h2.base k3 k2⟩)
theorem cr.Ux{x:Operand}{e:Int}(hx:bx env x (aa (mP tf e)))(he:e≠0){D:Prop}[pq:ET tf D Q c](hD:D):cr P ops Q c (⟨dst, .panic x,ty,pos,after,none⟩::l) hs env:=by
 intro a w hst;obtain⟨h1,h2,S,F,h3,h4,h5⟩:=hst;have hv:=hx S w a h5;simp only[aa] at hv
 refine wpListIn_plain rfl fun K hK=>Oper.qW (by intro cl e';cases e') ?_;unfold Oper.wp
 have hr:(execOp a.eval (⟨dst, .panic x,ty,pos,after,none⟩:Oper)).run P w= .halt (.panic (mP tf e)) w:=by
  have h0:(Instr.panic (mP tf e)).run P w= .halt (.panic (mP tf e)) w:=rfl;simp only[execOp,hv,Sem.run_bind,h0];rfl
 rw[hr];exact pq.WT (hs:=[]) (env:=env) hD ⟨e,he,rfl⟩ a w ⟨h1,h2,S,F,h3,trivial,h5⟩
end
def Catch(P:Program)(f:FuncId)(p:Value)(ch:List PanicEntry)(hs:List HP){δ:Type}(φ':δ→Prop)(hs2:δ→List HP):Prop:=
 ∀(w:World) (S F:BS),(∀k,S k→k<w.heap.size)→(∀k,F k→k<w.heap.size)→(∀k,S k→¬F k)→de hs F S w→
  CallsD P f #[p] (.panicking ch) w fun e u' w'=>e= .returned (.tuple #[])∧(∃v,u'= .panicking [{v,recovered:=true}])∧∃S' F' g,φ' g∧kH ⟨w,S,F,0,none,[]⟩ w' S' F'∧de (hs2 g) F' S' w'
def HU(P:Program)(fn:Func)(c:Ctx)(φ:γ→Prop)(hs':γ→List HP)(q:γ→VP):Exit→Act→World→Prop:=
 bodyPostD P fn fun e w'=>∃v S' F' g,e= .returned v∧kH ⟨c.w0,c.S0,c.M,0,none,[]⟩ w' S' F'∧φ g∧de (hs' g) F' S' w'∧(q g).p S' w' v
variable {f:FuncId} {ps:List VP}
theorem cv.Rn{x:Code}{q:γ→VP}
    (n:Nat) (hf:P.funcs[f]?=some fn) (hb:fn.body=some x) (hnt:fn.ntmps=n) (hn:Nat.ble ps.length n=true)
    (h:∀(w0:World) (S0 M:BS),aM P (HU P fn ⟨w0,S0,M,n,none,[]⟩ φ hs' q) ⟨w0,S0,M,n,none,[]⟩ x hs (args ps)):cv P f ps hs φ hs' q:=by
  intro w S F vs hS hF hSF hown hall;have hlen:ps.length=vs.size:=by simpa using hall.1
  have hn':ps.length≤n:=by simpa using hn
  refine calls_of_wp_defers hf hb (wpIn_wide.1 (h w S F _ _ ⟨rfl,?_,S,F,?_,hown,?_⟩))
  · simp;omega
  · exact⟨rfl,rfl,rfl,Nat.le_refl _,fun _ _ _=>rfl,hSF,hS,hF,fun k hk=> .inl hk,fun k hk=> .inl hk,fun _ hk=>hk⟩
  · intro t q' hl
    obtain⟨j,hj,hq⟩:=pn ps 0 t q' hl;have wh:t=j:=by omega
    subst wh;have hjl:t<ps.length:=(List.getElem?_eq_some_iff.1 hq).1;have N5:t<vs.size:=by omega
    have:(vs++Array.replicate (fn.ntmps-vs.size) undef).getD t undef=vs[t]:=by simp[Array.getElem?_append,N5]
    rw[this];exact hall.2 t q' _ hq (by simp[N5])
variable {ops:Array Oper} {Q:Exit→Act→World→Prop}
theorem cr.Ro{l:List Oper}{p:Value}{x:Operand}{ats:Array TypeId}{ty:TypeId}{pos:String}{after:Array Edge}
    (hro:c.ro=none) (hx:bx env x (aa (.func (.func f) #[] #[p]))) (k:cr P ops Q {c with df:=⟨.fn (.func f) #[p], #[]⟩::c.df} l hs env):
    cr P ops Q c (⟨none, .defer ⟨.value x, #[],ats⟩,ty,pos,after,none⟩::l) hs env:=by
  intro a w hst;obtain⟨h1,h2,S,F,h3,h4,h5⟩:=hst;refine wpListIn_plain rfl fun K hK=>⟨fun _ _=>trivial,?_⟩;have hv:=hx S w a h5;simp only[aa] at hv
  have hr:(execOp a.eval (⟨none, .defer ⟨.value x, #[],ats⟩,ty,pos,after,none⟩:Oper)).run P w= .ok (.defer ⟨.fn (.func f) #[p], #[]⟩) w:=by
    simp[execOp,resolve,hv,Deferred.ofValue]
  have hs0:(WF c.ro).round=none:=by rw[hro];rfl
  rw[hs0,Oper.semAt_none,hr,Oper.uponIn_defer];refine hK _ _ ?_;have:=k {a with defers:=⟨.fn (.func f) #[p], #[]⟩::a.defers} w ⟨by simp[h1],h2,S,F,⟨h3.os,h3.tape,h3.output,h3.size,h3.kept,h3.dJ,h3.bR,h3.cq,h3.own,h3.shr,h3.base⟩,h4,h5⟩;exact this
theorem bN.WU{c':Ctx}{q:γ→VP}{p:Value}
    (hd:∀w:World,CallsD P f #[p] .returning w fun e u' w'=>e= .returned (.tuple #[])∧u'= .returning∧Below w.heap.size w w') (hc:c'={c with df:=[⟨.fn (.func f) #[p], #[]⟩]})
    (Rp:c.df=[]) (hb:mU P f=true) (h:bN (Post P fn c φ hs' q) .ret c hs env):bN (HU P fn c φ hs' q) .ret c' hs env:=by
  subst hc;intro a w hst;obtain⟨h1,h2,S,F,h3,h4,h5⟩:=hst
  show Leaves P fn a.tmps _ a.defers .returning w
  have h1':a.defers=[⟨.fn (.func f) #[p], #[]⟩]:=h1;rw[h1'];refine leaves_cons (f:=f) (args:= #[p]) (by simp) (by have h9:=jA hb #[p] w;simpa[invoke] using h9) ?_;refine(hd w).mono ?_;rintro e u' w'' ⟨rfl,rfl,wk⟩;have g:Grow w w'' S S:=⟨wk.os,wk.tape,wk.output,wk.size,fun k hk=>wk.block k hk,fun _ h=>h,fun _ h=> .inl h⟩;have h3':kH c w S F:=⟨h3.os,h3.tape,h3.output,h3.size,h3.kept,h3.dJ,h3.bR,h3.cq,h3.own,h3.shr,h3.base⟩;have:=h {a with defers:=[]} w'' ⟨Rp.symm,h2,S,F,h3'.grow g,g.yZ h3.bR h3.cq h4,g.env h3.bR h5⟩;obtain⟨_,v,hr,hR⟩:=this;exact⟨v,hr,hR⟩
theorem bN.WV{c':Ctx}{δ:Type}{q:γ→VP}{p:Value}{ch:List PanicEntry}{φ':δ→Prop}{hs2:δ→List HP}
    (hd:Catch P f p ch hs φ' hs2) (hc:c'={c with df:=[⟨.fn (.func f) #[p], #[]⟩]}) (Rp:c.df=[]) (hb:mU P f=true)
    (h:∀g,φ' g→bN (Post P fn c φ hs' q) .ret c (hs2 g) env):bN (HU P fn c φ hs' q) (.panic ch) c' hs env:=by
  subst hc;intro a w hst;obtain⟨h1,h2,S,F,h3,h4,h5⟩:=hst
  show Leaves P fn a.tmps _ a.defers (.panicking ch) w
  have h1':a.defers=[⟨.fn (.func f) #[p], #[]⟩]:=h1;rw[h1'];refine leaves_cons (f:=f) (args:= #[p]) (by simp) (by have h9:=jA hb #[p] w;simpa[invoke] using h9) ?_;refine(hd w S F h3.bR h3.cq h3.dJ h4).mono ?_;rintro e u' w'' ⟨rfl,⟨v,rfl⟩,S',F',g,hφ,hs,ho⟩;have h3':kH c w S F:=⟨h3.os,h3.tape,h3.output,h3.size,h3.kept,h3.dJ,h3.bR,h3.cq,h3.own,h3.shr,h3.base⟩;obtain⟨k1,k2,k3,k4⟩:=h3'.through (F2:=fun _=>False) (fun k hk=>⟨hk,id⟩) (fun k hk=>hk.elim) hs;have:=h g hφ {a with defers:=[]} w'' ⟨Rp.symm,h2,S',_,k1,(de.append (as:=[]).2 ⟨fun _=>False,F',fun k hk=>hk.elim,fun k hk=> .inl hk,trivial,ho⟩),h5.mono hs.base k2⟩;obtain⟨_,v,hr,hR⟩:=this;exact⟨v,hr,hR⟩
abbrev aj8:VP:=aa undef
section
variable {P:Program} {tf:TypeId} {ops:Array Oper} {Q:Exit→Act→World→Prop} {c:Ctx} {l:List Oper} {hs:List HP} {env:Env} {ty:TypeId} {pos:String} {after:Array Edge} {dst:Option Tmp} {gd:Option (Nat×Bool)}
theorem EU{t j:Nat}{p:Prop}{a:Act}{w:World}{S:BS}(hl:look env t=some (ak p))(hj:(ops[j]?).bind (·.dst)=some t)(ht:Nat.blt t c.n=true)(h2:a.tmps.size=c.n)(h5:cS env S w a.tmps):∃b,yielded ops a.tmps j=some b∧(b=true↔p):=by
 have ht':t<a.tmps.size:=by rw[h2];simpa using ht
 have h6:a.tmps[t]?=some (a.tmps.getD t undef):=by simp[ht']
 obtain⟨b,hb,yx⟩:=h5 t _ hl;exact⟨b,by unfold yielded;rw[hj];simp only[Option.bind_some,h6,hb],yx⟩
theorem cr.gx{d:Tmp}{cl:Call}{j:Nat}{want:Bool}{t:Tmp}{p:Prop}{rest:List HP}{D D':Prop}{γ:Type}{φ:γ→Prop}{hs':γ→List HP}{q:γ→VP}(hl:look env t=some (ak p))(hj:(ops[j]?).bind (·.dst)=some t)(ht:Nat.blt t c.n=true)(hw:if want=true then p else ¬p)
    (h:Rm P tf hs rest env ⟨some d, .call cl,ty,pos,after,some (j,want)⟩ D' φ hs' q) (hd:Nat.blt d c.n=true) [pq:ET tf D Q c] (hD:D'→D)
    (k:∀g,φ g→cr P ops Q c l (hs' g) ((d,q g)::env)):cr P ops Q c (⟨some d, .call cl,ty,pos,after,some (j,want)⟩::l) hs env:=by
  intro a w hst;obtain⟨h1,h2,S,F,h3,h4,h5⟩:=hst;refine wpListIn_step fun K hK=>?_;obtain⟨b,hy,hb⟩:=EU (ops:=ops) hl hj ht h2 h5
  have V1:b=want:=by
    cases want
    · simp only[Bool.false_eq_true,if_false] at hw
      cases b with
      |false=>rfl
      |true=>exact absurd (hb.1 rfl) hw
    · simp only[if_true] at hw;exact hb.2 hw
  rw[if_pos (by simp[Region.wanted,hy,V1])];refine Oper.qW (h.jy h3 h4 h5 ⟨cl,rfl⟩)<|h c a w S F h3 h4 h5 K Q (fun g v w' S' F' hφ aH hsub hag hown hq=>hK _ _ (k g hφ _ _ ⟨?_,?_,S',F',aH,hown,?_⟩)) (fun ch w' S' F' hD' hc aH hsub hag hown=>?_)
  · rw[Act.dA];exact h1
  · rw[Act.gE];exact h2
  · exact(h5.mono hsub hag).put hq (by rw[h2];simpa using hd)
  · exact pq.WT (hD hD') hc a w' ⟨h1,h2,S',F',aH,hown,h5.mono hsub hag⟩
theorem cr.OF{o:Oper}{d:Tmp}{j:Nat}{want:Bool}{t:Tmp}{p:Prop}(hl:look env t=some (ak p))(sN:o.guard=some (j,want))(nZ:o.dst=some d)(hj:(ops[j]?).bind (·.dst)=some t)(ht:Nat.blt t c.n=true)(hw:if want=true then ¬p else p)(hd:Nat.blt d c.n=true)
    (k:cr P ops Q c l hs ((d,aj8)::env)):cr P ops Q c (o::l) hs env:=by
  intro a w hst;obtain⟨h1,h2,S,F,h3,h4,h5⟩:=hst;refine wpListIn_step fun K hK=>?_;obtain⟨b,hy,hb⟩:=EU (ops:=ops) hl hj ht h2 h5
  have V1:¬b=want:=by
    cases want
    · simp only[Bool.false_eq_true,if_false] at hw;rw[hb.2 hw];simp
    · simp only[if_true] at hw;intro e;exact hw (hb.1 e)
  rw[if_neg (by simp[Region.wanted,sN,hy,V1])];refine⟨fun _ _=>trivial,hK _ _ (k _ _ ⟨?_,?_,S,F,h3,h4,?_⟩)⟩
  · rw[Act.dA];exact h1
  · rw[Act.gE];exact h2
  · rw[nZ];exact h5.put (by simp only[aa]) (by rw[h2];simpa using hd)
theorem CM{x y z:Operand}{p:Prop}{q:VP}(hx:bx env x (ak p))(hp:p)(hy:bx env y q):bp P hs env ⟨dst, .pick x y z,ty,pos,after,gd⟩ q:=
 bp.aL fun ρ w S F _ he=>by
  obtain⟨b,hb,yx⟩:=he.o _ _ hx;have h2:=he.o _ _ hy;have:=yx.2 hp;subst this
  exact⟨_,by simp[execOp,hb,go_sem],h2⟩
theorem Ku{x y z:Operand}{p:Prop}{q:VP}(hx:bx env x (ak p))(hp:¬p)(hz:bx env z q):bp P hs env ⟨dst, .pick x y z,ty,pos,after,gd⟩ q:=
 bp.aL fun ρ w S F _ he=>by
  obtain⟨b,hb,yx⟩:=he.o _ _ hx;have h2:=he.o _ _ hz;cases b with
  |true=>exact absurd (yx.1 rfl) hp
  |false=>exact⟨_,by simp[execOp,hb,go_sem],h2⟩
theorem zn{D:Prop}{f:FuncId}{xs:List Operand}{ats:Array TypeId}{ps:List VP}{hs0 rest:List HP}{γ:Type}{φ:γ→Prop}{hs':γ→List HP}{q:γ→VP}(hf:yj P tf f ps hs0 D φ hs' q)(hb:mU P f=true)(hx:mc env xs ps)(hp:hs.Perm (hs0++rest)):
    Rm P tf hs rest env ⟨dst, .call ⟨.value (.func f),xs.toArray,ats⟩,ty,pos,after,gd⟩ D φ (fun g=>hs' g++rest) q:=
  fun c a w S F aH hown he K Q hk OE=>sV (dst:=dst) (ty:=ty) (pos:=pos) (after:=after) hf hb hx hp c a w S F aH hown he K Q hk OE
theorem OG{e:Int}{T:TypeId}{x:Operand}{fs:Array Field}(hT:P.underlying T=some (.struct fs))(hx:bx env x (aC [ag .i64 e])):bp P hs env ⟨dst, .makeInterface T x,ty,pos,after,gd⟩ (aa (mP T e)):=
 bp.aL fun ρ w S F _ he=>by
  obtain⟨arr,hv,hn,hc⟩:=he.o _ _ hx;obtain⟨u,hu,hq⟩:=hc 0 _ rfl;simp only[aa] at hq;subst hq
  have:arr= #[.int .i64 e]:=by
   refine Array.ext (by simpa using hn) fun i h1 h2=>?_;have:i=0:=by simp at h2;omega
   subst this;have h3:arr[0]?=some arr[0]:=by simp at hn;simp[hn]
   rw[h3] at hu;simpa using hu
  subst this;exact⟨mP T e,by simp[execOp,Instr.makeInterface,hv,run_underlying hT,mP],rfl⟩
theorem qp{α:Type}{g:SB}{n i h len:Nat}{k:IntKind}{ii:Int}{enc:α→List VP}{xs:List α}{T E:TypeId}{x y:Operand}(hT:P.underlying T=some (.slice E))(hn:P.cellsOf E=n)(h0:Nat.blt 0 n=true)(hx:bx env x (aa (bt g len)))(hy:bx env y (ag k ii))(hii:ii=(h:Int))
    (hi:hs[i]?=some (av g n enc xs)) (hl:len=xs.length) (hh:h≤len):bp P hs env ⟨dst, .slice T x none (some y) none,ty,pos,after,gd⟩ (aa (bt g h)):=
  bp.aL fun ρ w S F ho he=>by
    have hv:=he.o _ _ hx;have h2:=he.o _ _ hy;simp only[aa,bt] at hv h2
    subst hii;have hs:=run_sizeOf (T:=E) hn h0 w;obtain⟨F1,_,hp⟩:=ho.get hi;cases g with
    | none=>
      have hp':xs=[]:=hp;have Ts:h=0:=by rw[hp'] at hl;simp at hl;omega
      subst Ts;refine⟨.slice none 0 0,?_,rfl⟩;simp[execOp,hv,h2,Instr.sliceAt,Instr.slice,Instr.sliceBounds,Instr.sliceBound,asIntOf,run_underlying hT,hs]
    | some p=>
      obtain⟨b,cap⟩:=p;have hcap:h≤cap:=Nat.le_trans (by omega) hp.2.1;refine⟨.slice (some ⟨b,0,none⟩) h cap,?_,rfl⟩;simp[execOp,hv,h2,Instr.sliceAt,Instr.slice,Instr.sliceBounds,Instr.sliceBound,asIntOf,run_underlying hT,hs,hcap,Addr.add]
theorem Kv{α:Type}{g:SB}{n i len:Nat}{enc:α→List VP}{xs:List α}{T E:TypeId}{x:Operand}{ats:Array TypeId}(wj:ats[0]?=some T)(hT:P.underlying T=some (.slice E))(hx:bx env x (aa (bt g len)))(hi:hs[i]?=some (av g n enc xs))(hl:len=xs.length):
    bp P hs env ⟨dst, .call ⟨.builtin .len, #[x],ats⟩,ty,pos,after,gd⟩ (ag .i64 (len:Int)):=
  bp.aL fun ρ w S F ho he=>by
    have hv:=he.o _ _ hx;simp only[aa] at hv
    refine⟨.int .i64 (len:Int),?_,rfl⟩;obtain⟨F1,_,hp⟩:=ho.get hi;cases g with
    | none=>
      have hp':xs=[]:=hp;subst hp';subst hl;simp[execOp,resolve,invoke,builtin,Builtin.len_,wj,hv,bt,run_underlying hT,goInt]
    |some p=>simp[execOp,resolve,invoke,builtin,Builtin.len_,wj,hv,bt,run_underlying hT,goInt]
end
variable {α:Type} {n:Nat}
theorem aB.OH{g:SB}{enc:α→List VP}{xs:List α}(ys:List α)(h:ys<+:xs){r:List HP}:aB (av g n enc xs::r) (av g n enc ys::r):=fun F S w ⟨F1,F2,f1,f2,hp,hr⟩=>by
 refine⟨F1,F2,f1,f2,?_,hr⟩;obtain⟨t,rfl⟩:=h;cases g with
 |none=>exact(List.append_eq_nil_iff.1 (show ys++t=[] from hp)).1
 |some p=>
  obtain⟨h1,h2,h3,arr,T,h4,h5,h6⟩:=hp;simp only[List.length_append] at h2 h3;refine⟨h1,by omega,by omega,arr,T,h4,h5,fun j q hj=>h6 j q ?_⟩;rw[List.flatMap_append,List.getElem?_append_left ((List.getElem?_eq_some_iff.1 hj).1)];exact hj
theorem EV(B:List α)(x y:α):(B++[x]).set B.length y=B++[y]:=by simp
theorem mg(B:List α)(x:α):(B++[x])[B.length]?=some x:=by simp
theorem aB.of_eq{a b:List HP}(h:a=b):aB a b:=h▸aB.refl a
variable {s:Code}
theorem aM.yC{g:SB}{enc:α→List VP}{xs:List α}(i:Nat)(hi:hs[i]?=some (av g n enc xs))
    (h:xs.length≤281474976710656→aM P Q c s hs env):aM P Q c s hs env:=by
  intro a w hst;obtain⟨h1,h2,S,F,h3,h4,h5⟩:=hst;obtain⟨F1,_,hp⟩:=h4.get hi;refine h ?_ a w ⟨h1,h2,S,F,h3,h4,h5⟩;cases g with
  |none=>have h9:xs=[]:=hp;rw[h9];simp
  |some p=>exact hp.2.2.1
theorem Post.Uy{q:γ→VP}(hr:fn.results= #[])(g:γ)(hφ:φ g)(hh:∀F S w,de hs F S w→de (hs' g) F S w)(hq:q g=bE [])(hdf:c.df=[]:=by rfl):bN (Post P fn c φ hs' q) .ret c hs env:=
 Post.bk (rs:=[]) (qs:=[]) (by rw[hr]) rfl g hφ hh hq .nil hdf
theorem Post.iA{q:γ→VP}(hr:fn.results= #[])(g:γ)(hφ:φ g)(hh:∀F S w,de hs F S w→de (hs' g) F S w)(hq:q g=bE [])(hdf:c.df=[]:=by rfl):bN (Post P fn c φ hs' q) .normal c hs env:=
 fun a w hst=>Post.Uy hr g hφ hh hq hdf a w hst
def OI(P:Program)(T:TypeId)(i:Nat):Option (TypeId×Nat):=match P.underlying T with|some (.struct fs)=>(fs[i]?).map fun f=>(f.type,f.offset)|_=>none
variable {q:VP}
theorem EW{dst:Option Tmp}{ty:TypeId}{pos:String}{after:Array Edge}{gd:Option (Nat×Bool)}{T E:TypeId}{i off:Nat}{x:Operand}{cs:List VP}(hT:OI P T i=some (E,off))(hE:kI P E=some false)(hx:bx env x (aC cs))(hq:cs[off]?=some q):
    bp P hs env ⟨dst, .field T x i,ty,pos,after,gd⟩ q:=
  bp.aL fun ρ w S F _ he=>by
    obtain⟨arr,hv,hn,hc⟩:=he.o _ _ hx;obtain⟨u,hu,huq⟩:=hc off q hq;unfold OI at hT
    split at hT
    · rename_i fs NS
      obtain⟨f,hf,HN⟩:=Option.map_eq_some_iff.1 hT;simp only[Prod.mk.injEq] at HN;obtain⟨rfl,rfl⟩:=HN;have h1:=eN hE w;refine⟨u,?_,huq⟩;simp[execOp,Instr.field,run_underlying NS,hf,hv,asAgg,part,h1,hu]
    · cases hT
class FA(P:Program)(T:TypeId)(b:outParam Bool):Prop where
 out:kI P T=some b:=by kernel_rfl
class FC(P:Program)(T:TypeId)(n:outParam Nat):Prop where
 out:P.cellsOf T=n:=by kernel_rfl
class FU(P:Program)(T:TypeId)(u:outParam TypeDesc):Prop where
 out:P.underlying T=some u:=by kernel_rfl
class FF(P:Program)(T:TypeId)(f:Nat)(k:outParam Nat):Prop where
 out:y3 P T f=some k:=by kernel_rfl
class FZ(P:Program)(T:TypeId)(z:outParam (List Value)):Prop where
 out:jI P T=some z:=by kernel_rfl
class FP(P:Program)(T:TypeId)(l:outParam (List (Nat×Nat))):Prop where
 out:Cz P T=some l:=by kernel_rfl
class FY(P:Program)(T:TypeId)(n:outParam Nat):Prop where
 out:P.bytesOf T=n:=by kernel_rfl
class FB(P:Program)(f:FuncId):Prop where
 out:mU P f=true:=by kernel_rfl
class FR(P:Program)(T:TypeId)(x:outParam (Nat×Nat)):Prop where
 out:Uj P T=some x:=by kernel_rfl
class FM(P:Program):Prop where
 out:P.follows .mixedOrders=true:=by kernel_rfl
def Uz(a b:VP):Prop:=af a b
theorem Uz.id:Uz q q:=af.refl q
theorem Uz.when{c:Prop}(h:c):Uz (eu c q) q:=fun _ _ _ k=>k.1 h
theorem Uz.under{c p:Prop}(h:c):Uz (eu (c∧p) q) (eu p q):=fun _ _ _ k=>⟨fun hp=>k.1 ⟨h,hp⟩,fun hp=>k.2 fun h'=>hp h'.2⟩
theorem bx.via{t:Nat}{a:VP}(hl:look env t=some a)(h:Uz a q):bx env (.tmp t) q:=(bx.t hl).le h
theorem bx.z {x:Operand} (h:bx env x q:=by first
 |((with_reducible apply bx.via);exact rfl;first|with_reducible exact .when (by assumption)|with_reducible exact .when (And.left (by assumption))|with_reducible exact .id|with_reducible exact .under (by assumption)|exact .id|exact .when (by assumption)|exact .when (And.left (by assumption)))
 |with_reducible exact .ct
 |with_reducible exact .cf
 |with_reducible exact .c _
 |exact .c _
 |exact .g _):bx env x q:=h
theorem mc.z{env:Env}{xs:List Operand}{qs:List VP}(h:mc env xs qs:=by((repeat (refine mc.cons .z ?_));exact .nil)):mc env xs qs:=h
theorem lH.one{x:Operand}{k:Nat}{ps:List (Nat×Operand)}{cs:List (Nat×List VP)}{c:List VP}(h:bx env x q)(hp:Km q c)(t:lH env ps cs):lH env ((k,x)::ps) ((k,c)::cs):= .cons h t
theorem lH.z{env:Env}{ps:List (Nat×Operand)}{cs:List (Nat×List VP)}(h:lH env ps cs:=by((repeat (apply lH.one;exact .z;exact inferInstance));exact .nil)):lH env ps cs:=h
theorem ee {k:IntKind} {n:Int} (h:fits k n:=by first
 |(with_reducible apply cn)<;>omega
 |(with_reducible apply nv)<;>omega
 |(with_reducible apply N8)<;>omega
 |(with_reducible apply Kk)<;>omega):fits k n:=h
section
variable {P:Program} {hs:List HP} {env:Env} {q:VP} {dst:Option Tmp} {ty T E:TypeId} {pos:String} {after:Array Edge} {gd:Option (Nat×Bool)} {x y:Operand}
theorem UA(hx:bx env x q)(hf:Flat q):bp P hs env ⟨dst, .box T x,ty,pos,after,gd⟩ (bT [q]):=WB hx
theorem UB{α:Type}{n:Nat}{enc:α→List VP}{xs:List α}(hT:P.underlying T=some (.slice E))(hx:bx env x (ai n enc xs)):
    bp P hs env ⟨dst, .call ⟨.builtin .len, #[x], #[T]⟩,ty,pos,after,gd⟩ (ag .i64 (xs.length:Int)):=Ew rfl hT hx
theorem Rq{l:List UInt8}(hT:P.underlying T=some .string)(hx:bx env x (cZ l)):
    bp P hs env ⟨dst, .call ⟨.builtin .len, #[x], #[T]⟩,ty,pos,after,gd⟩ (ag .i64 (l.length:Int)):=Ug rfl hT hx
theorem HV{α:Type}{g:SB}{n i len:Nat}{enc:α→List VP}{xs:List α}(hT:P.underlying T=some (.slice E))(hx:bx env x (aa (bt g len)))(hi:hs[i]?=some (av g n enc xs))(hl:len=xs.length):
    bp P hs env ⟨dst, .call ⟨.builtin .len, #[x], #[T]⟩,ty,pos,after,gd⟩ (ag .i64 (len:Int)):=Kv rfl hT hx hi hl
end
section
variable {P:Program} {hs:List HP} {env:Env} {q:VP} {dst:Option Tmp} {ty T T2:TypeId} {pos:String} {after:Array Edge} {gd:Option (Nat×Bool)} {x y:Operand} {b:BinOp} {f:Builtin} {as:Array Operand} {ats:Array TypeId}
theorem aj9(h:bp P hs env ⟨dst, .load T x,ty,pos,after,gd⟩ q):bp P hs env ⟨dst, .load T x,ty,pos,after,gd⟩ q:=h
theorem WW(h:bp P hs env ⟨dst, .binOp b T x y T2,ty,pos,after,gd⟩ q):bp P hs env ⟨dst, .binOp b T x y T2,ty,pos,after,gd⟩ q:=h
theorem UC(h:bp P hs env ⟨dst, .call ⟨.builtin f,as,ats⟩,ty,pos,after,gd⟩ q):bp P hs env ⟨dst, .call ⟨.builtin f,as,ats⟩,ty,pos,after,gd⟩ q:=h
end
theorem bp.z {P:Program} {hs:List HP} {env:Env} {o:Oper} {q:VP} (h:bp P hs env o q:=by first
 |(with_reducible apply Cv);exact .z
 |(with_reducible apply bh);exact .z
 |(with_reducible apply aj9);first
  |(with_reducible apply mL);exact FA.out;exact .z
  |(with_reducible apply mX);exact FA.out;exact FC.out;rfl;exact .z;rfl
  |(with_reducible apply fK (i:=0));exact FA.out;exact .z;rfl;rfl
  |(with_reducible apply fK (i:=1));exact FA.out;exact .z;rfl;rfl
  |(with_reducible apply fK (i:=2));exact FA.out;exact .z;rfl;rfl
  |(with_reducible apply fK (i:=3));exact FA.out;exact .z;rfl;rfl
  |(with_reducible apply gG (i:=0));exact FA.out;exact FC.out;rfl;exact .z;rfl;rfl
  |(with_reducible apply gG (i:=1));exact FA.out;exact FC.out;rfl;exact .z;rfl;rfl
  |(with_reducible apply gG (i:=2));exact FA.out;exact FC.out;rfl;exact .z;rfl;rfl
  |(with_reducible apply gG (i:=3));exact FA.out;exact FC.out;rfl;exact .z;rfl;rfl
 |(with_reducible apply Q9);exact FF.out;exact .z
 |(with_reducible apply Ey);exact FF.out;exact .z
 |(with_reducible apply Oa);exact .z
 |(with_reducible apply Lo);exact .z
 |(with_reducible apply WW);first
  |(with_reducible apply Wx);exact .z;exact .z
  |(with_reducible apply Wy);exact .z;exact .z
  |(with_reducible apply Wt);exact .z;exact .z
  |(with_reducible apply Ww);exact .z;exact .z
  |(with_reducible apply Wv);exact .z;exact .z
  |(with_reducible apply Wu);exact .z;exact .z
  |(with_reducible apply eU);exact .z;exact .z;exact ee
  |(with_reducible apply jZ);exact .z;exact .z;exact ee
  |(with_reducible apply Hz);exact .z;exact .z;exact ee
  |(with_reducible apply HA);exact .z;exact .z
  |(with_reducible apply Oe);exact .z;exact .z
  |(with_reducible apply Ue);exact FU.out;exact .z;exact .z
  |(with_reducible apply Ob);exact FU.out;exact .z
  |(with_reducible apply Oc);exact FU.out;exact .z
  |(with_reducible apply Eu);exact FU.out;exact .z
  |(with_reducible apply Ev);exact FU.out;exact .z
 |(with_reducible apply WA);exact .z;exact .z
 |(with_reducible apply ai6);exact .z;exact .z
 |(with_reducible apply Wz);exact .z
 |(with_reducible apply lJ);exact .z;rfl
 |(with_reducible apply aN);exact FP.out;exact FZ.out;exact .z;rfl
 |(with_reducible apply Od);exact .z
 |(with_reducible apply UA);exact .z;exact inferInstance
 |(with_reducible apply qd);exact FU.out;exact FU.out;exact .z;exact ee
 |(with_reducible apply HC);exact FU.out;exact FU.out;exact FU.out;exact .z
 |(with_reducible apply UC);first
  |(with_reducible apply UB);exact FU.out;exact .z
  |(with_reducible apply Rq);exact FU.out;exact .z
  |(with_reducible apply Tp);exact .z;exact .z
  |(with_reducible apply HV (i:=0));exact FU.out;exact .z;rfl;rfl
  |(with_reducible apply HV (i:=1));exact FU.out;exact .z;rfl;rfl
  |(with_reducible apply HV (i:=2));exact FU.out;exact .z;rfl;rfl):bp P hs env o q:=h
section
variable {P:Program} {hs:List HP} {env:Env} {q:VP} {dst:Option Tmp} {ty T E:TypeId} {pos:String} {after:Array Edge} {gd:Option (Nat×Bool)} {x y:Operand}
theorem cA{f:FuncId}{xs:List Operand}{ats:Array TypeId}{ps:List VP}[hb:FB P f](hx:mc env xs ps:=by exact .z)(h:cQ P f ps q):
    bp P hs env ⟨dst, .call ⟨.value (.func f),xs.toArray,ats⟩,ty,pos,after,gd⟩ q:=bA h hb.out hx
theorem cV{A:Type}{ok:A→Prop}{arg:A→List VP}{res:A→VP}{xs:List Operand}{ats:Array TypeId}(a:A)(hx:bx env x (mM P ok arg res):=by exact .z)(hxs:mc env xs (arg a):=by exact .z)(h:ok a:=by trivial):
    bp P hs env ⟨dst, .call ⟨.value x,xs.toArray,ats⟩,ty,pos,after,gd⟩ (res a):=Ra a hx h hxs
theorem cI{α:Type}{n:Nat}{enc:α→List VP}{xs:List α}{k:IntKind}{i:Int}{e:α}[hT:FU P T (.slice E)][hE:FC P E n](j:Nat)(hx:bx env x (ai n enc xs):=by exact .z)(hy:bx env y (ag k i):=by exact .z)(h0:Nat.blt 0 n=true:=by rfl)(h:xs[j]?=some e:=by assumption)(hi:i=(j:Int):=by first|rfl|omega):
    bp P hs env ⟨dst, .indexAddr T x y,ty,pos,after,gd⟩ (bT (enc e)):=aP hT.out hE.out h0 hx hy hi h
theorem cB{α:Type}{n len:Nat}(enc:α→List VP)(ys:List α){ps:List (Nat×Operand)}{pcs:List (Nat×List VP)}{zs:List Value}{cs:List VP}[pz:gZ n enc][hT:FU P T (.slice E)][hn:FC P E n][hz:FZ P E zs](hp:lH env ps pcs:=by exact .z)(h0:Nat.blt 0 n=true:=by rfl)
    (hzl:zs.length=n:=by rfl) (yz:Nat.ble (len*n) 16777216=true:=by rfl) (hf:rI (fun i=>some (i*n,n)) (zeroV zs (len*n)) pcs=some cs:=by rfl) (hcs:cs=ys.flatMap enc:=by rfl) (hl:ys.length=len:=by rfl) (hs2:Nat.ble len 16777216=true:=by rfl):
    bp P hs env ⟨dst, .buildSlice T len ps.toArray,ty,pos,after,gd⟩ (ai n enc ys):=bI ys hT.out hn.out h0 hz.out hzl hp yz hf hcs hl hs2
end
section
variable {P:Program} {hs:List HP} {env:Env} {dst:Option Tmp} {ty T E tf:TypeId} {pos:String} {after:Array Edge} {gd:Option (Nat×Bool)} {x y:Operand} {D:Prop}
theorem cE{f:FuncId}{xs:List Operand}{ats:Array TypeId}{ps:List VP}{hs0 rest:List HP}{γ:Type}{φ:γ→Prop}{hs':γ→List HP}{q:γ→VP}[hb:FB P f](hx:mc env xs ps:=by exact .z)(hp:hs=hs0++rest:=by rfl)(h:cv P f ps hs0 φ hs' q):
    fZ P hs env ⟨dst, .call ⟨.value (.func f),xs.toArray,ats⟩,ty,pos,after,gd⟩ φ (fun g=>hs' g++rest) q:=cG h hb.out hx (.of_eq hp)
theorem kL{f:FuncId}{xs:List Operand}{ats:Array TypeId}{ps:List VP}{hs0:List HP}{γ:Type}{φ:γ→Prop}{hs':γ→List HP}{q:γ→VP}[hb:FB P f](rest:List HP)(ix:List Nat)(hx:mc env xs ps:=by exact .z)(h1:ix.filterMap (fun i=>hs[i]?)=hs0++rest:=by rfl)(h2:xI (List.range hs.length) ix=true:=by rfl)(h:cv P f ps hs0 φ hs' q):
    fZ P hs env ⟨dst, .call ⟨.value (.func f),xs.toArray,ats⟩,ty,pos,after,gd⟩ φ (fun g=>hs' g++rest) q:=cG h hb.out hx (Perm.idx ix h1 h2)
theorem cX{f:FuncId}{xs:List Operand}{ats:Array TypeId}{ps:List VP}{hs0 rest:List HP}{γ:Type}{φ:γ→Prop}{hs':γ→List HP}{q:γ→VP}[hb:FB P f](hx:mc env xs ps:=by exact .z)(hp:hs=hs0++rest:=by rfl)(h:yj P tf f ps hs0 D φ hs' q):
    Rm P tf hs rest env ⟨dst, .call ⟨.value (.func f),xs.toArray,ats⟩,ty,pos,after,none⟩ D φ (fun g=>hs' g++rest) q:=sV h hb.out hx (.of_eq hp)
theorem LH{f:FuncId}{xs:List Operand}{ats:Array TypeId}{ps:List VP}{hs0:List HP}{γ:Type}{φ:γ→Prop}{hs':γ→List HP}{q:γ→VP}[hb:FB P f](rest:List HP)(ix:List Nat)(hx:mc env xs ps:=by exact .z)(h1:ix.filterMap (fun i=>hs[i]?)=hs0++rest:=by rfl)(h2:xI (List.range hs.length) ix=true:=by rfl)(h:yj P tf f ps hs0 D φ hs' q):
    Rm P tf hs rest env ⟨dst, .call ⟨.value (.func f),xs.toArray,ats⟩,ty,pos,after,none⟩ D φ (fun g=>hs' g++rest) q:=sV h hb.out hx (Perm.idx ix h1 h2)
end
variable {j:Nat} {t:Tmp}
theorem bU.kT{p:Prop}(sN:o.guard=some (j,true))(hj:(ops[j]?).bind (·.dst)=some t)(ht:Nat.blt t n=true)(hl:look env t=some (ak p))(h:p→bp P hs env o q):bU P ops n hs env o (eu p q):= .gT hl sN hj ht h
theorem bU.kF{p:Prop}(sN:o.guard=some (j,false))(hj:(ops[j]?).bind (·.dst)=some t)(ht:Nat.blt t n=true)(hl:look env t=some (ak p))(h:¬p→bp P hs env o q):bU P ops n hs env o (eu (¬p) q):= .gF hl sN hj ht h
theorem bU.lT{c p:Prop}(sN:o.guard=some (j,true))(hj:(ops[j]?).bind (·.dst)=some t)(ht:Nat.blt t n=true)(hl:look env t=some (eu c (ak p)))(h:c∧p→bp P hs env o q):bU P ops n hs env o (eu (c∧p) q):= .hT hl sN hj ht h
theorem bU.lF{c p:Prop}(sN:o.guard=some (j,false))(hj:(ops[j]?).bind (·.dst)=some t)(ht:Nat.blt t n=true)(hl:look env t=some (eu c (ak p)))(h:c∧¬p→bp P hs env o q):bU P ops n hs env o (eu (c∧¬p) q):= .hF hl sN hj ht h
theorem bU.z {P:Program} {ops:Array Oper} {n:Nat} {hs:List HP} {env:Env} {o:Oper} {q:VP} (h:bU P ops n hs env o q:=by first
 |(with_reducible apply bU.kT);rfl;rfl;rfl;rfl;intro hg;exact .z
 |(with_reducible apply bU.kF);rfl;rfl;rfl;rfl;intro hg;exact .z
 |(with_reducible apply bU.lT);rfl;rfl;rfl;rfl;intro hg;exact .z
 |(with_reducible apply bU.lF);rfl;rfl;rfl;rfl;intro hg;exact .z):bU P ops n hs env o q:=h
section
variable {P:Program} {ops:Array Oper} {Q:Exit→Act→World→Prop} {c:Ctx} {l:List Oper} {hs:List HP} {env:Env} {q:VP} {ty T E:TypeId} {pos:String} {after:Array Edge} {x y:Operand}
theorem cr.st1(i:Nat){b off:Nat}{cs:List VP}(hn:P.cellsOf T=1)(hx:bx env x (aD b off))(hy:bx env y q)(hf:Flat q)(hi:hs[i]?=some (ax b cs))(hl:Nat.blt off cs.length=true)
    (k:cr P ops Q c l (hs.set i (ax b (cs.set off q))) env):cr P ops Q c (⟨none, .store T x y,ty,pos,after,none⟩::l) hs env:= .s (jc hn hx hy hi hl) k
theorem cr.st2(i:Nat){b off n:Nat}{cs new:List VP}(hn:P.cellsOf T=n)(h0:Nat.blt 0 n=true)(hx:bx env x (aD b off))(hy:bx env y (aC new))(hfl:bH new)(qY:Nat.beq new.length n=true)(hi:hs[i]?=some (ax b cs))(hl:Nat.ble (off+n) cs.length=true)
    (k:cr P ops Q c l (hs.set i (ax b (fS off new cs))) env):cr P ops Q c (⟨none, .store T x y,ty,pos,after,none⟩::l) hs env:= .s (gJ hn h0 hx hy qY hi hl) k
end
theorem af.z{a b:VP}(h:af a b:=by first|exact af.refl _|exact af.int (by omega)|exact af.prop (by omega)|exact af.prop (by simp_all)|exact af.prop (by simp;omega)):af a b:=h
variable {as:List α}
theorem Tz{a:α}{l:List α}(h:as.take n=l):(a::as).take (n+1)=a::l:=congrArg (List.cons a) h
theorem WX:as.take 0=[]:=rfl
theorem Kw{a:α}{l:List α}(h:as.drop n=l):(a::as).drop (n+1)=l:=h
theorem TA:as.drop 0=as:=rfl
def mh(P:Program)(ops:Array Oper)(n:Nat)(hs:List HP)(e0:Env)(i:Nat)(done:gK)(l:List Oper)(K:gK→Prop):Prop:=∃all,ny P ops n hs e0 i done l all∧K all
section
variable {P:Program} {ops:Array Oper} {n:Nat} {hs:List HP} {e0:Env} {K:gK→Prop} {i:Nat} {done:gK} {d:Tmp} {q:VP} {op:Op} {ty:TypeId} {pos:String} {after:Array Edge} {gd:Option (Nat×Bool)} {l:List Oper}
theorem mh.g(h:bU P ops n hs (cC after done++e0) ⟨some d,op,ty,pos,after,gd⟩ q)(k:mh P ops n hs e0 (i+1) ((i,d,q)::done) l K):mh P ops n hs e0 i done (⟨some d,op,ty,pos,after,gd⟩::l) K:=
 let ⟨all,k1,k2⟩:=k;⟨all, .cons h k1,k2⟩
theorem mh.cons(h:bU P ops n hs (cC after done++e0) ⟨some d,op,ty,pos,after,gd⟩ q)(k:mh P ops n hs e0 (i+1) ((i,d,q)::done) l K):mh P ops n hs e0 i done (⟨some d,op,ty,pos,after,gd⟩::l) K:= .g h k
theorem mh.p(h:bp P hs (cC after done++e0) ⟨some d,op,ty,pos,after,none⟩ q)(k:mh P ops n hs e0 (i+1) ((i,d,q)::done) l K):mh P ops n hs e0 i done (⟨some d,op,ty,pos,after,none⟩::l) K:=
 let ⟨all,k1,k2⟩:=k;⟨all, .p h k1,k2⟩
theorem mh.nil(k:K done):mh P ops n hs e0 i done [] K:=⟨_, .nil,k⟩
theorem aM.br{Q:Exit→Act→World→Prop}{c:Ctx}{l l1 l2:List Oper}{id:Nat}{env:Env}(m g:Nat)(hm:P.follows .mixedOrders=true)(hB:EE l.toArray m g c.n=true)(h1:l.take m=l1:=by((repeat (first|with_reducible apply Tz|apply Tz));exact WX))(h2:l.drop m=l2:=by((repeat (first|with_reducible apply Kw|apply Kw));exact TA))
    (k:mh P l.toArray c.n hs (strip (dstsOf l1) env) 0 [] l1 (fun all=>cr P l.toArray Q c l2 hs (fT all++env))):aM P Q c (.region id l.toArray true) hs env:=
  let ⟨all,k1,k2⟩:=k; .draw m g hm hB (h1▸k1) (h2▸k2)
theorem aM.bP{Q:Exit→Act→World→Prop}{c:Ctx}{l l2:List Oper}{id:Nat}{env:Env}(plan:List (Nat×Nat))(m g:Nat)(hm:P.follows .mixedOrders=true)(hB:mY l.toArray plan m g c.n=true)(h2:l.drop m=l2:=by((repeat (first|with_reducible apply Kw|apply Kw));exact TA))
    (k:cK P l c.n (strip (dstsOf (l.take m)) env) (fun done hs=>cr P l.toArray Q c l2 hs (fT done++env)) plan [] hs):aM P Q c (.region id l.toArray true) hs env:= .Us plan m g hm hB (h2▸k)
end
variable {h':Prop}
theorem eD {g:Prop} (k:h') (j:h'→g:=by first
 |(with_reducible apply cr.p);exact .z;rfl
 |(with_reducible exact cr.nil)
 |(with_reducible apply cr.g);exact .z;rfl;rfl
 |(with_reducible exact aM.seq)
 |(with_reducible exact aM.region)
 |(with_reducible exact fun k=>bN.Et k)
 |(with_reducible exact aM.block)
 |(with_reducible exact bN.ah9)
 |(with_reducible exact aM.skip)
 |(with_reducible exact aM.ret)
 |(with_reducible exact aM.exit)
 |(with_reducible exact bN.Wp)
 |(with_reducible exact bN.ai0)
 |(with_reducible exact bN.Wq)
 |(with_reducible exact bN.ai1)
 |(with_reducible apply bN.ai2);rfl
 |(with_reducible apply cr.st1 0);exact FC.out;exact .z;exact .z;exact inferInstance;rfl;rfl
 |(with_reducible apply cr.st1 1);exact FC.out;exact .z;exact .z;exact inferInstance;rfl;rfl
 |(with_reducible apply cr.st1 2);exact FC.out;exact .z;exact .z;exact inferInstance;rfl;rfl
 |(with_reducible apply cr.st2 0);exact FC.out;rfl;exact .z;exact .z;exact inferInstance;rfl;rfl;rfl
 |(with_reducible apply cr.st2 1);exact FC.out;rfl;exact .z;exact .z;exact inferInstance;rfl;rfl;rfl
 |(with_reducible apply cr.st2 2);exact FC.out;rfl;exact .z;exact .z;exact inferInstance;rfl;rfl;rfl
 |(with_reducible apply cK.p);rfl;intro _;exact .z
 |(with_reducible apply cK.o);rfl;exact .z
 |(with_reducible apply cK.g);rfl;intro _;exact .z
 |(with_reducible apply dZ.p);rfl;intro _;exact .z
 |(with_reducible apply dZ.g);rfl;intro _;exact .z
 |(with_reducible apply mh.p);exact .z
 |(with_reducible apply mh.g);exact .z
 |(with_reducible exact mh.nil)
 |(apply mh.p);exact .z
 |(apply mh.g);exact .z
 |(apply cr.p);exact .z;rfl
 |(exact cr.nil)):g:=j k
structure jg(p:Prop):Prop where
 out:p
theorem Z1{g:Prop}(k:h')(j:jg h'→g:=by(intro k;(iterate 1 refine eD ?_);exact k.out)):g:=j ⟨k⟩
theorem Z2{g:Prop}(k:h')(j:jg h'→g:=by(intro k;(iterate 2 refine eD ?_);exact k.out)):g:=j ⟨k⟩
theorem Z3{g:Prop}(k:h')(j:jg h'→g:=by(intro k;(iterate 3 refine eD ?_);exact k.out)):g:=j ⟨k⟩
theorem Z4{g:Prop}(k:h')(j:jg h'→g:=by(intro k;(iterate 4 refine eD ?_);exact k.out)):g:=j ⟨k⟩
theorem Z5{g:Prop}(k:h')(j:jg h'→g:=by(intro k;(iterate 5 refine eD ?_);exact k.out)):g:=j ⟨k⟩
theorem Z6{g:Prop}(k:h')(j:jg h'→g:=by(intro k;(iterate 6 refine eD ?_);exact k.out)):g:=j ⟨k⟩
theorem Z7{g:Prop}(k:h')(j:jg h'→g:=by(intro k;(iterate 7 refine eD ?_);exact k.out)):g:=j ⟨k⟩
theorem Z8{g:Prop}(k:h')(j:jg h'→g:=by(intro k;(iterate 8 refine eD ?_);exact k.out)):g:=j ⟨k⟩
theorem Z9{g:Prop}(k:h')(j:jg h'→g:=by(intro k;(iterate 9 refine eD ?_);exact k.out)):g:=j ⟨k⟩
theorem cD{g:Prop}(k:h')(j:jg h'→g:=by(intro k;(iterate 10 refine eD ?_);exact k.out)):g:=j ⟨k⟩
theorem cc{g:Prop}(k:h')(j:jg h'→g:=by(intro k;(iterate 11 refine eD ?_);exact k.out)):g:=j ⟨k⟩
theorem dN{g:Prop}(k:h')(j:jg h'→g:=by(intro k;(iterate 12 refine eD ?_);exact k.out)):g:=j ⟨k⟩
theorem jP{g:Prop}(k:h')(j:jg h'→g:=by(intro k;(iterate 13 refine eD ?_);exact k.out)):g:=j ⟨k⟩
theorem jb{g:Prop}(k:h')(j:jg h'→g:=by(intro k;(iterate 14 refine eD ?_);exact k.out)):g:=j ⟨k⟩
theorem kR{g:Prop}(k:h')(j:jg h'→g:=by(intro k;(iterate 15 refine eD ?_);exact k.out)):g:=j ⟨k⟩
theorem AY{g:Prop}(k:h')(j:jg h'→g:=by(intro k;(iterate 16 refine eD ?_);exact k.out)):g:=j ⟨k⟩
theorem EX{g:Prop}(k:h')(j:jg h'→g:=by(intro k;(iterate 17 refine eD ?_);exact k.out)):g:=j ⟨k⟩
theorem BE{g:Prop}(k:h')(j:jg h'→g:=by(intro k;(iterate 18 refine eD ?_);exact k.out)):g:=j ⟨k⟩
theorem Ek{g:Prop}(k:h')(j:jg h'→g:=by(intro k;(iterate 19 refine eD ?_);exact k.out)):g:=j ⟨k⟩
theorem Kx{g:Prop}(k:h')(j:jg h'→g:=by(intro k;(iterate 20 refine eD ?_);exact k.out)):g:=j ⟨k⟩
theorem UD{g:Prop}(k:h')(j:jg h'→g:=by(intro k;(iterate 21 refine eD ?_);exact k.out)):g:=j ⟨k⟩
theorem Z22{g:Prop}(k:h')(j:jg h'→g:=by(intro k;(iterate 22 refine eD ?_);exact k.out)):g:=j ⟨k⟩
theorem Z23{g:Prop}(k:h')(j:jg h'→g:=by(intro k;(iterate 23 refine eD ?_);exact k.out)):g:=j ⟨k⟩
theorem Z24{g:Prop}(k:h')(j:jg h'→g:=by(intro k;(iterate 24 refine eD ?_);exact k.out)):g:=j ⟨k⟩
theorem V2{g:Prop}(k:h')(j:jg h'→g:=by(intro k;(iterate 25 refine eD ?_);exact k.out)):g:=j ⟨k⟩
theorem YY{g:Prop}(k:h')(j:jg h'→g:=by(intro k;(iterate 26 refine eD ?_);exact k.out)):g:=j ⟨k⟩
theorem WY{g:Prop}(k:h')(j:jg h'→g:=by(intro k;(iterate 27 refine eD ?_);exact k.out)):g:=j ⟨k⟩
theorem Z29{g:Prop}(k:h')(j:jg h'→g:=by(intro k;(iterate 29 refine eD ?_);exact k.out)):g:=j ⟨k⟩
theorem Z30{g:Prop}(k:h')(j:jg h'→g:=by(intro k;(iterate 30 refine eD ?_);exact k.out)):g:=j ⟨k⟩
theorem Z32{g:Prop}(k:h')(j:jg h'→g:=by(intro k;(iterate 32 refine eD ?_);exact k.out)):g:=j ⟨k⟩
theorem Z33{g:Prop}(k:h')(j:jg h'→g:=by(intro k;(iterate 33 refine eD ?_);exact k.out)):g:=j ⟨k⟩
theorem Z34{g:Prop}(k:h')(j:jg h'→g:=by(intro k;(iterate 34 refine eD ?_);exact k.out)):g:=j ⟨k⟩
theorem BF{g:Prop}(k:h')(j:jg h'→g:=by(intro k;(iterate 35 refine eD ?_);exact k.out)):g:=j ⟨k⟩
theorem Z39{g:Prop}(k:h')(j:jg h'→g:=by(intro k;(iterate 39 refine eD ?_);exact k.out)):g:=j ⟨k⟩
theorem YZ{g:Prop}(k:h')(j:jg h'→g:=by(intro k;(iterate 40 refine eD ?_);exact k.out)):g:=j ⟨k⟩
theorem In{x:Code}{q:γ→VP}(n:Nat)
    (hf:P.funcs[f]?=some fn) (h:∀(w0:World) (S0 M:BS),aM P (Post P fn ⟨w0,S0,M,n,none,[]⟩ φ hs' q) ⟨w0,S0,M,n,none,[]⟩ x hs (args ps)) (hb:fn.body=some x:=by rfl) (hnt:fn.ntmps=n:=by rfl) (hn:Nat.ble ps.length n=true:=by rfl):cv P f ps hs φ hs' q:= .intro n hf hb hnt hn h
theorem El{x:Code}{q:γ→VP}(n:Nat)
    (hf:P.funcs[f]?=some fn) (h:∀(w0:World) (S0 M:BS),aM P (ES P fn ⟨w0,S0,M,n,none,[]⟩ tf D φ hs' q) ⟨w0,S0,M,n,none,[]⟩ x hs (args ps)) (hb:fn.body=some x:=by rfl) (hnt:fn.ntmps=n:=by rfl) (hn:Nat.ble ps.length n=true:=by rfl):yj P tf f ps hs D φ hs' q:= .intro n hf hb hnt hn h
theorem Cd{x:Operand}{p:Prop}{t:Code}(ht:p→aM P Q c s hs env)(hf:¬p→aM P Q c t hs env)(hx:bx env x (ak p):=by exact .z):aM P Q c (.cond x s t) hs env:= .cond hx ht hf
theorem CT{x:Operand}{p:Prop}{t:Code}(hf:¬p→aM P Q c t hs env)(hx:bx env x (ak p):=by exact .z)(no:p→False:=by(intro h;first|omega|exact h.elim|exact absurd rfl h)):aM P Q c (.cond x s t) hs env:= .cond hx (fun h=>(no h).elim) hf
theorem CF{x:Operand}{p:Prop}{t:Code}(ht:p→aM P Q c s hs env)(hx:bx env x (ak p):=by exact .z)(no:¬p→False:=by(intro h;first|omega|exact h trivial|exact h rfl)):aM P Q c (.cond x s t) hs env:= .cond hx ht (fun h=>(no h).elim)
variable {a:Prop}
theorem bB{g:Prop}(x:a)(j:a→g:=by(intro x;first|exact Post.ai5 rfl rfl x|exact Post.aR rfl () trivial (fun _ _ _ _=>trivial) (.rt rfl) x|exact Post.aR rfl () trivial (fun _ _ _ h=>h) (.rt rfl) x)):g:=j x
variable {b:Prop}
theorem j4{g:Prop}(x:a)(y:b)(j:a→b→g:=by(intro x y;first|exact Post.bk rfl rfl () trivial (fun _ _ _ _=>trivial) rfl (.cons (.rt rfl) x (.cons (.rt rfl) y .nil))|exact Post.bk rfl rfl () trivial (fun _ _ _ h=>h) rfl (.cons (.rt rfl) x (.cons (.rt rfl) y .nil)))):g:=j x y
theorem Rt4{g d e:Prop}(x:a)(y:b)(z:d)(u:e)(j:a→b→d→e→g:=by(intro x y z u;first|exact Post.bk rfl rfl () trivial (fun _ _ _ _=>trivial) rfl (.cons (.rt rfl) x (.cons (.rt rfl) y (.cons (.rt rfl) z (.cons (.rt rfl) u .nil))))|exact Post.bk rfl rfl () trivial (fun _ _ _ h=>h) rfl (.cons (.rt rfl) x (.cons (.rt rfl) y (.cons (.rt rfl) z (.cons (.rt rfl) u .nil)))))):g:=j x y z u
theorem LI{g d:Prop}(x:a)(y:b)(z:d)(j:a→b→d→g:=by(intro x y z;first|exact Post.bk rfl rfl () trivial (fun _ _ _ _=>trivial) rfl (.cons (.rt rfl) x (.cons (.rt rfl) y (.cons (.rt rfl) z .nil)))|exact Post.bk rfl rfl () trivial (fun _ _ _ h=>h) rfl (.cons (.rt rfl) x (.cons (.rt rfl) y (.cons (.rt rfl) z .nil))))):g:=j x y z
end Go.Hl
end
