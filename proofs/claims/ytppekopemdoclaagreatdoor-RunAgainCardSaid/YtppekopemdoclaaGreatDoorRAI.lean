/-
  Parts of the proof.
-/
import Derived.Test.YtppekopemdoclaaGreatDoorRAH
import Derived.Defers
import Derived.Recover
set_option linter.all false
set_option maxRecDepth 1000000
set_option maxHeartbeats 4000000
section
namespace Go.Hl
open Go.RowKit
def nu(tf:TypeId)(e:Int):Value:= .iface tf (.agg #[.int .i64 e])
def Aq(tf:TypeId)(ch:List PanicEntry):Prop:=∃e:Int,e≠0/\ch=[{v:=nu tf e,recovered:=false}]
variable {γ:Type}
def ac0(c:Ctx)(tf:TypeId)(D:Prop)(φ:γ->Prop)(hs':γ->List HP)(q:γ->VP)(e:Ending)(w':World):Prop:=
 (∃v S' F' g,e= .returned v/\j6 ⟨c.w0,c.S0,c.M,0,none,[]⟩ w' S' F'/\φ g/\dR (hs' g) F' S' w'/\(q g).p S' w' v)\/(D/\∃ch S' F',e= .panicked ch/\Aq tf ch/\j6 ⟨c.w0,c.S0,c.M,0,none,[]⟩ w' S' F')
def zl(P:Program)(tf:TypeId)(f:FuncId)(ps:List VP)(hs:List HP)(D:Prop)(φ:γ->Prop)(hs':γ->List HP)(q:γ->VP):Prop:=
 ∀(w:World) (S F:BS) (vs:Array Value),(∀k,S k->k<w.heap.size)->(∀k,F k->k<w.heap.size)->(∀k,S k->¬F k)->dR hs F S w->hU ps S w vs.toList->
  Calls P f vs w λe w'=>ac0 ⟨w,S,F,0,none,[]⟩ tf D φ hs' q e w'
def GC(P:Program)(fn:Func)(c:Ctx)(tf:TypeId)(D:Prop)(φ:γ->Prop)(hs':γ->List HP)(q:γ->VP):Exit->Act->World->Prop:=
 bodyPost P fn λe w'=>ac0 c tf D φ hs' q e w'
theorem zl.intro{P:Program}{tf:TypeId}{D:Prop}{f:FuncId}{fn:Func}{x:Code}{ps:List VP}{hs:List HP}{γ:Type}{φ:γ->Prop}{hs':γ->List HP}{q:γ->VP}
    (n:Nat) (hf:P.funcs[f]?=some fn) (hb:fn.body=some x) (hnt:fn.ntmps=n) (hn:Nat.ble ps.length n=true)
    (h:∀(w0:World) (S0 M:BS),aU P (GC P fn ⟨w0,S0,M,n,none,[]⟩ tf D φ hs' q) ⟨w0,S0,M,n,none,[]⟩ x hs (args ps)):zl P tf f ps hs D φ hs' q:=by
  intro w S F vs hS hF hSF hown hall;have hlen:ps.length=vs.size:=by simpa using hall.1
  have hn':ps.length<=n:=by simpa using hn
  refine calls_of_wp hf hb (wpIn_wide.1 (h w S F _ _ ⟨rfl,?_,S,F,?_,hown,?_⟩))
  · simp;omega
  · exact⟨rfl,rfl,rfl,Nat.le_refl _,λ_ _ _=>rfl,hSF,hS,hF,λk hk=> .inl hk,λk hk=> .inl hk,λ_ hk=>hk⟩
  · intro t q' hl
    obtain⟨j,hj,hq⟩:=nX ps 0 t q' hl;have xO:t=j:=by omega
    subst xO;have hjl:t<ps.length:=(List.getElem?_eq_some_iff.1 hq).1;have Mi:t<vs.size:=by omega
    have:(vs++Array.replicate (fn.ntmps-vs.size) undef).getD t undef=vs[t]:=by simp[Array.getElem?_append,Mi]
    rw[this];exact hall.2 t q' _ hq (by simp[Mi])
variable {P:Program} {hs:List HP} {env:Env} {c:Ctx} {fn:Func} {tf:TypeId} {D:Prop} {φ:γ->Prop} {hs':γ->List HP}
theorem bS.lM{q:γ->VP}(h:bS (Post P fn c φ hs' q) .ret c hs env):bS (GC P fn c tf D φ hs' q) .ret c hs env:=
 λa w hst=>let ⟨h1,v,h2,h3⟩:=h a w hst;⟨h1,v,h2, .inl h3⟩
theorem bS.sO{q:γ->VP}(h:bS (Post P fn c φ hs' q) .normal c hs env):bS (GC P fn c tf D φ hs' q) .normal c hs env:=
 λa w hst=>let ⟨h1,v,h2,h3⟩:=h a w hst;⟨h1,v,h2, .inl h3⟩
class GD(tf:TypeId)(D:outParam Prop)(Q:Exit->Act->World->Prop)(c:Ctx):Prop where
 pan:∀{ch:List PanicEntry} {hs:List HP} {env:Env},D->Aq tf ch->bS Q (.panic ch) c hs env
instance {P:Program} {fn:Func} {w0:World} {S0 M:BS} {n:Nat} {ro:Option Nat} {tf:TypeId} {D:Prop} {γ:Type} (φ:γ->Prop) (hs':γ->List HP) (q:γ->VP):GD tf D (GC P fn ⟨w0,S0,M,n,ro,[]⟩ tf D φ hs' q) ⟨w0,S0,M,n,ro,[]⟩:=
 ⟨λ{ch hs env} hD hc a w hst=>by
  obtain⟨h1,h2,S,F,h3,h4,h5⟩:=hst;exact⟨h1, .inr ⟨hD,ch,S,F,rfl,hc,⟨h3.os,h3.tape,h3.output,h3.size,h3.kept,h3.eg,h3.bZ,h3.cK,h3.own,h3.shr,h3.base⟩⟩⟩⟩
instance {tf:TypeId} {D:Prop} {Q:Exit->Act->World->Prop} {K:Act->World->Prop} {c:Ctx} [h:GD tf D Q c]:GD tf D (Exit.then K Q) c:=⟨λhD hc=>h.pan hD hc⟩
instance {tf:TypeId} {D:Prop} {Q:Exit->Act->World->Prop} {id:Nat} {c:Ctx} [h:GD tf D Q c]:GD tf D (Exit.inBlock id Q) c:=⟨λhD hc=>h.pan hD hc⟩
theorem j6.through{w w':World}{S F F1 F2 S' F1':BS}(aI:j6 c w S F)(oU:∀k,F1 k->F k/\¬F2 k)(v7:∀k,F2 k->F k)(h2:j6 ⟨w,S,F1,0,none,[]⟩ w' S' F1'):
    j6 c w' S' (λk=>F1' k\/F2 k)/\(∀k,S k->w'.heap[k]?=w.heap[k]?)/\(∀k,F2 k->w'.heap[k]?=w.heap[k]?)/\(∀k,F1' k->¬F2 k):=by
  have hSF:∀k,S k->¬F1 k:=λk hk hf=>aI.eg k hk (oU k hf).1;have hoS:∀k,S k->w'.heap[k]?=w.heap[k]?:=λk hk=>h2.kept k (aI.bZ k hk) (hSF k hk);have ho2F:∀k,F2 k->¬F1 k:=λk hk hf=>(oU k hf).2 hk
  have hn:∀k,F1' k->¬F2 k:=λk hk hf=>by
    rcases h2.own k hk with h|h
    · exact(oU k h).2 hf
    · exact Nat.lt_irrefl _ (Nat.lt_of_lt_of_le (aI.cK k (v7 k hf)) h)
  refine⟨⟨h2.os.trans aI.os,h2.tape.trans aI.tape,h2.output.trans aI.output,Nat.le_trans aI.size h2.size,λk hk hm=>?_,λk hk hf=>?_,h2.bZ,λk hk=>?_,λk hk=>?_,λk hk=>?_,λk hk=>h2.base k (aI.base k hk)⟩,hoS,λk hk=>h2.kept k (aI.cK k (v7 k hk)) (ho2F k hk),hn⟩
  · have hnF:¬F1 k:=λhf=>(aI.own k (oU k hf).1).elim hm (λh=>by omega)
    exact(h2.kept k (Nat.lt_of_lt_of_le hk aI.size) hnF).trans (aI.kept k hk hm)
  · rcases hf with hf|hf
    · exact h2.eg k hk hf
    · rcases h2.shr k hk with h|h|h
      · exact aI.eg k h (v7 k hf)
      · exact(oU k h).2 hf
      · exact Nat.lt_irrefl _ (Nat.lt_of_lt_of_le (aI.cK k (v7 k hf)) h)
  · rcases hk with hk|hk
    · exact h2.cK k hk
    · exact Nat.lt_of_lt_of_le (aI.cK k (v7 k hk)) h2.size
  · rcases hk with hk|hk
    · rcases h2.own k hk with h|h
      · exact aI.own k (oU k h).1
      · exact .inr (Nat.le_trans aI.size h)
    · exact aI.own k (v7 k hk)
  · rcases h2.shr k hk with h|h|h
    · exact aI.shr k h
    · exact .inr ((aI.own k (oU k h).1).imp (λh=>h) (λh=>h))
    · exact .inr (.inr (Nat.le_trans aI.size h))
def UC(P:Program)(tf:TypeId)(hs rest:List HP)(env:Env)(o:Oper)(D:Prop)(φ:γ->Prop)(hs':γ->List HP)(q:γ->VP):Prop:=
 ∀(c:Ctx) (a:Act) (w:World) (S F:BS),j6 c w S F->dR hs F S w->dI env S w a.tmps->
 ∀(K:Act->World->Prop) (Q:Exit->Act->World->Prop),
  (∀g v w' S' F',φ g->j6 c w' S' F'->(∀k,S k->S' k)->(∀k,S k->w'.heap[k]?=w.heap[k]?)->dR (hs' g) F' S' w'->(q g).p S' w' v->K (a.put o.dst v) w')->
  (∀ch w' S' F',D->Aq tf ch->j6 c w' S' F'->(∀k,S k->S' k)->(∀k,S k->w'.heap[k]?=w.heap[k]?)->dR rest F' S' w'->Q (.panic ch) a w')->o.wp P a w K Q
variable {o:Oper}
theorem UC.jV{rest:List HP}{q:γ->VP}(h:UC P tf hs rest env o D φ hs' q){a:Act}{w:World}{S F:BS}(h3:j6 c w S F)(h4:dR hs F S w)(h5:dI env S w a.tmps)(hcall:∃cl,o.op= .call cl):∀cl,o.op≠ .defer cl:=by
 obtain⟨cl,e⟩:=hcall;intro cl' e';rw[e] at e';cases e'
section
variable {P:Program} {tf:TypeId} {ops:Array Oper} {Q:Exit->Act->World->Prop} {c:Ctx} {l:List Oper} {hs:List HP} {env:Env} {ty:TypeId} {pos:String} {after:Array Edge} {dst:Option Tmp}
theorem cv.xd{d:Tmp}{cl:Call}{rest:List HP}{D:Prop}{γ:Type}{φ:γ->Prop}{hs':γ->List HP}{q:γ->VP}(h:UC P tf hs rest env ⟨some d, .call cl,ty,pos,after,none⟩ D φ hs' q)(hd:Nat.blt d c.n=true)(Rj:∀ch,D->Aq tf ch->bS Q (.panic ch) c rest env)
    (k:∀g,φ g->cv P ops Q c l (hs' g) ((d,q g)::env)):cv P ops Q c (⟨some d, .call cl,ty,pos,after,none⟩::l) hs env:=by
  intro a w hst;obtain⟨h1,h2,S,F,h3,h4,h5⟩:=hst;refine wpListIn_plain rfl λK hK=>Oper.rX (h.jV h3 h4 h5 ⟨cl,rfl⟩)<|h c a w S F h3 h4 h5 K Q (λg v w' S' F' hφ aI hsub hag hown hq=>hK _ _ (k g hφ _ _ ⟨?_,?_,S',F',aI,hown,?_⟩)) (λch w' S' F' hD hc aI hsub hag hown=>?_)
  · rw[Act.ek];exact h1
  · rw[Act.iw];exact h2
  · exact(h5.mono hsub hag).put hq (by rw[h2];simpa using hd)
  · exact Rj ch hD hc a w' ⟨h1,h2,S',F',aI,hown,h5.mono hsub hag⟩
theorem cv.x{d:Tmp}{cl:Call}{rest:List HP}{D D':Prop}{γ:Type}{φ:γ->Prop}{hs':γ->List HP}{q:γ->VP}(h:UC P tf hs rest env ⟨some d, .call cl,ty,pos,after,none⟩ D' φ hs' q)(hd:Nat.blt d c.n=true)[pq:GD tf D Q c](hD:D'->D)
    (k:∀g,φ g->cv P ops Q c l (hs' g) ((d,q g)::env)):cv P ops Q c (⟨some d, .call cl,ty,pos,after,none⟩::l) hs env:=cv.xd h hd (λch hd' hc=>pq.pan (hD hd') hc) k
theorem uc{D:Prop}{f:FuncId}{xs:List Operand}{ats:Array TypeId}{ps:List VP}{hs0 rest:List HP}{γ:Type}{φ:γ->Prop}{hs':γ->List HP}{q:γ->VP}(hf:zl P tf f ps hs0 D φ hs' q)(hb:j7 P f=true)(hx:kU env xs ps)(hp:hs.Perm (hs0++rest)):
    UC P tf hs rest env ⟨dst, .call ⟨.value (.func f),xs.toArray,ats⟩,ty,pos,after,none⟩ D φ (λg=>hs' g++rest) q:=by
  intro c a w S F aI hown he K Q hk Rj;obtain⟨F1,F2,oU,v7,Dc,JP⟩:=dR.append.1 (hown.perm hp);have N0:∀k,F1 k->k<w.heap.size:=λk hk=>aI.cK k (oU k hk).1;have hSF:∀k,S k->¬F1 k:=λk hk hf=>aI.eg k hk (oU k hf).1;have key:∀{w':World} {S' F1':BS},j6 ⟨w,S,F1,0,none,[]⟩ w' S' F1'->_:=λh2=>aI.through oU v7 h2;unfold Oper.wp;rw[sB hb];refine(hf w S F1 _ aI.bZ N0 hSF Dc (by simpa using hx S w a he)).mono ?_;rintro e w' (⟨v,S',F1',g,rfl,h2,hφ,oy,hq⟩|⟨hD,ch,S',F1',rfl,hc,h2⟩)
  · obtain⟨k1,k2,k3,k4⟩:=key h2
    exact hk g v w' S' _ hφ k1 h2.base k2 (dR.append.2 ⟨F1',F2,λk hk=>⟨.inl hk,k4 k hk⟩,λk hk=> .inr hk,oy,JP.mono (λ_ h=>h) h2.base k3 k2⟩) hq
  · obtain⟨k1,k2,k3,k4⟩:=key h2
    exact Rj ch w' S' _ hD hc k1 h2.base k2 ((dR.append (as:=[])).2 ⟨F1',F2,λk hk=>⟨.inl hk,k4 k hk⟩,λk hk=> .inr hk,trivial,JP.mono (λ_ h=>h) h2.base k3 k2⟩)
theorem cv.XL{x:Operand}{e:Int}(hx:bA env x (ag (nu tf e)))(he:e≠0){D:Prop}[pq:GD tf D Q c](hD:D):cv P ops Q c (⟨dst, .panic x,ty,pos,after,none⟩::l) hs env:=by
 intro a w hst;obtain⟨h1,h2,S,F,h3,h4,h5⟩:=hst;have hv:=hx S w a h5;simp only[ag] at hv
 refine wpListIn_plain rfl λK hK=>Oper.rX (by intro cl e';cases e') ?_;unfold Oper.wp
 have hr:(execOp a.eval (⟨dst, .panic x,ty,pos,after,none⟩:Oper)).run P w= .halt (.panic (nu tf e)) w:=by
  have h0:(Instr.panic (nu tf e)).run P w= .halt (.panic (nu tf e)) w:=rfl;simp only[execOp,hv,Sem.run_bind,h0];rfl
 rw[hr];exact pq.pan (hs:=[]) (env:=env) hD ⟨e,he,rfl⟩ a w ⟨h1,h2,S,F,h3,trivial,h5⟩
end
def Catch(P:Program)(f:FuncId)(p:Value)(ch:List PanicEntry)(hs:List HP){δ:Type}(φ':δ->Prop)(qR:δ->List HP):Prop:=
 ∀(w:World) (S F:BS),(∀k,S k->k<w.heap.size)->(∀k,F k->k<w.heap.size)->(∀k,S k->¬F k)->dR hs F S w->
  CallsD P f #[p] (.panicking ch) w λe u' w'=>e= .returned (.tuple #[])/\(∃v,u'= .panicking [{v,recovered:=true}])/\∃S' F' g,φ' g/\j6 ⟨w,S,F,0,none,[]⟩ w' S' F'/\dR (qR g) F' S' w'
def J0(P:Program)(fn:Func)(c:Ctx)(φ:γ->Prop)(hs':γ->List HP)(q:γ->VP):Exit->Act->World->Prop:=
 bodyPostD P fn λe w'=>∃v S' F' g,e= .returned v/\j6 ⟨c.w0,c.S0,c.M,0,none,[]⟩ w' S' F'/\φ g/\dR (hs' g) F' S' w'/\(q g).p S' w' v
variable {f:FuncId} {ps:List VP}
theorem bu.Mz{x:Code}{q:γ->VP}
    (n:Nat) (hf:P.funcs[f]?=some fn) (hb:fn.body=some x) (hnt:fn.ntmps=n) (hn:Nat.ble ps.length n=true)
    (h:∀(w0:World) (S0 M:BS),aU P (J0 P fn ⟨w0,S0,M,n,none,[]⟩ φ hs' q) ⟨w0,S0,M,n,none,[]⟩ x hs (args ps)):bu P f ps hs φ hs' q:=by
  intro w S F vs hS hF hSF hown hall;have hlen:ps.length=vs.size:=by simpa using hall.1
  have hn':ps.length<=n:=by simpa using hn
  refine calls_of_wp_defers hf hb (wpIn_wide.1 (h w S F _ _ ⟨rfl,?_,S,F,?_,hown,?_⟩))
  · simp;omega
  · exact⟨rfl,rfl,rfl,Nat.le_refl _,λ_ _ _=>rfl,hSF,hS,hF,λk hk=> .inl hk,λk hk=> .inl hk,λ_ hk=>hk⟩
  · intro t q' hl
    obtain⟨j,hj,hq⟩:=nX ps 0 t q' hl;have xO:t=j:=by omega
    subst xO;have hjl:t<ps.length:=(List.getElem?_eq_some_iff.1 hq).1;have Mi:t<vs.size:=by omega
    have:(vs++Array.replicate (fn.ntmps-vs.size) undef).getD t undef=vs[t]:=by simp[Array.getElem?_append,Mi]
    rw[this];exact hall.2 t q' _ hq (by simp[Mi])
variable {ops:Array Oper} {Q:Exit->Act->World->Prop}
theorem cv.UD{l:List Oper}{p:Value}{x:Operand}{ats:Array TypeId}{ty:TypeId}{pos:String}{after:Array Edge}
    (hro:c.ro=none) (hx:bA env x (ag (.func (.func f) #[] #[p]))) (k:cv P ops Q {c with df:=⟨.fn (.func f) #[p], #[]⟩::c.df} l hs env):
    cv P ops Q c (⟨none, .defer ⟨.value x, #[],ats⟩,ty,pos,after,none⟩::l) hs env:=by
  intro a w hst;obtain⟨h1,h2,S,F,h3,h4,h5⟩:=hst;refine wpListIn_plain rfl λK hK=>⟨λ_ _=>trivial,?_⟩;have hv:=hx S w a h5;simp only[ag] at hv
  have hr:(execOp a.eval (⟨none, .defer ⟨.value x, #[],ats⟩,ty,pos,after,none⟩:Oper)).run P w= .ok (.defer ⟨.fn (.func f) #[p], #[]⟩) w:=by
    simp[execOp,resolve,hv,Deferred.ofValue]
  have hs0:(WF c.ro).round=none:=by rw[hro];rfl
  rw[hs0,Oper.semAt_none,hr,Oper.uponIn_defer];refine hK _ _ ?_;have:=k {a with defers:=⟨.fn (.func f) #[p], #[]⟩::a.defers} w ⟨by simp[h1],h2,S,F,⟨h3.os,h3.tape,h3.output,h3.size,h3.kept,h3.eg,h3.bZ,h3.cK,h3.own,h3.shr,h3.base⟩,h4,h5⟩;exact this
theorem bS.ac1{c':Ctx}{q:γ->VP}{p:Value}
    (hd:∀w:World,CallsD P f #[p] .returning w λe u' w'=>e= .returned (.tuple #[])/\u'= .returning/\Below w.heap.size w w') (hc:c'={c with df:=[⟨.fn (.func f) #[p], #[]⟩]})
    (r7:c.df=[]) (hb:j7 P f=true) (h:bS (Post P fn c φ hs' q) .ret c hs env):bS (J0 P fn c φ hs' q) .ret c' hs env:=by
  subst hc;intro a w hst;obtain⟨h1,h2,S,F,h3,h4,h5⟩:=hst
  show Leaves P fn a.tmps _ a.defers .returning w
  have h1':a.defers=[⟨.fn (.func f) #[p], #[]⟩]:=h1;rw[h1'];refine leaves_cons (f:=f) (args:= #[p]) (by simp) (by have h9:=fX hb #[p] w;simpa[invoke] using h9) ?_;refine(hd w).mono ?_;rintro e u' w'' ⟨rfl,rfl,Ac⟩;have g:gq w w'' S S:=⟨Ac.os,Ac.tape,Ac.output,Ac.size,λk hk=>Ac.block k hk,λ_ h=>h,λ_ h=> .inl h⟩;have h3':j6 c w S F:=⟨h3.os,h3.tape,h3.output,h3.size,h3.kept,h3.eg,h3.bZ,h3.cK,h3.own,h3.shr,h3.base⟩;have:=h {a with defers:=[]} w'' ⟨r7.symm,h2,S,F,h3'.grow g,g.zZ h3.bZ h3.cK h4,g.env h3.bZ h5⟩;obtain⟨_,v,hr,hR⟩:=this;exact⟨v,hr,hR⟩
theorem bS.ac2{c':Ctx}{δ:Type}{q:γ->VP}{p:Value}{ch:List PanicEntry}{φ':δ->Prop}{qR:δ->List HP}
    (hd:Catch P f p ch hs φ' qR) (hc:c'={c with df:=[⟨.fn (.func f) #[p], #[]⟩]}) (r7:c.df=[]) (hb:j7 P f=true)
    (h:∀g,φ' g->bS (Post P fn c φ hs' q) .ret c (qR g) env):bS (J0 P fn c φ hs' q) (.panic ch) c' hs env:=by
  subst hc;intro a w hst;obtain⟨h1,h2,S,F,h3,h4,h5⟩:=hst
  show Leaves P fn a.tmps _ a.defers (.panicking ch) w
  have h1':a.defers=[⟨.fn (.func f) #[p], #[]⟩]:=h1;rw[h1'];refine leaves_cons (f:=f) (args:= #[p]) (by simp) (by have h9:=fX hb #[p] w;simpa[invoke] using h9) ?_;refine(hd w S F h3.bZ h3.cK h3.eg h4).mono ?_;rintro e u' w'' ⟨rfl,⟨v,rfl⟩,S',F',g,hφ,hs,ho⟩;have h3':j6 c w S F:=⟨h3.os,h3.tape,h3.output,h3.size,h3.kept,h3.eg,h3.bZ,h3.cK,h3.own,h3.shr,h3.base⟩;obtain⟨k1,k2,k3,k4⟩:=h3'.through (F2:=λ_=>False) (λk hk=>⟨hk,id⟩) (λk hk=>hk.elim) hs;have:=h g hφ {a with defers:=[]} w'' ⟨r7.symm,h2,S',_,k1,(dR.append (as:=[]).2 ⟨λ_=>False,F',λk hk=>hk.elim,λk hk=> .inl hk,trivial,ho⟩),h5.mono hs.base k2⟩;obtain⟨_,v,hr,hR⟩:=this;exact⟨v,hr,hR⟩
abbrev aE0:VP:=ag undef
section
variable {P:Program} {tf:TypeId} {ops:Array Oper} {Q:Exit->Act->World->Prop} {c:Ctx} {l:List Oper} {hs:List HP} {env:Env} {ty:TypeId} {pos:String} {after:Array Edge} {dst:Option Tmp} {gd:Option (Nat×Bool)}
theorem Ar{t j:Nat}{p:Prop}{a:Act}{w:World}{S:BS}(hl:look env t=some (av p))(hj:(ops[j]?).bind (·.dst)=some t)(ht:Nat.blt t c.n=true)(h2:a.tmps.size=c.n)(h5:dI env S w a.tmps):∃b,yielded ops a.tmps j=some b/\(b=true↔p):=by
 have ht':t<a.tmps.size:=by rw[h2];simpa using ht
 have h6:a.tmps[t]?=some (a.tmps.getD t undef):=by simp[ht']
 obtain⟨b,hb,Ch⟩:=h5 t _ hl;exact⟨b,by unfold yielded;rw[hj];simp only[Option.bind_some,h6,hb],Ch⟩
theorem cv.gx{d:Tmp}{cl:Call}{j:Nat}{want:Bool}{t:Tmp}{p:Prop}{rest:List HP}{D D':Prop}{γ:Type}{φ:γ->Prop}{hs':γ->List HP}{q:γ->VP}(hl:look env t=some (av p))(hj:(ops[j]?).bind (·.dst)=some t)(ht:Nat.blt t c.n=true)(hw:if want=true then p else ¬p)
    (h:UC P tf hs rest env ⟨some d, .call cl,ty,pos,after,some (j,want)⟩ D' φ hs' q) (hd:Nat.blt d c.n=true) [pq:GD tf D Q c] (hD:D'->D)
    (k:∀g,φ g->cv P ops Q c l (hs' g) ((d,q g)::env)):cv P ops Q c (⟨some d, .call cl,ty,pos,after,some (j,want)⟩::l) hs env:=by
  intro a w hst;obtain⟨h1,h2,S,F,h3,h4,h5⟩:=hst;refine wpListIn_step λK hK=>?_;obtain⟨b,hy,hb⟩:=Ar (ops:=ops) hl hj ht h2 h5
  have hbw:b=want:=by
    cases want
    · simp only[Bool.false_eq_true,if_false] at hw
      cases b with
      |false=>rfl
      |true=>exact absurd (hb.1 rfl) hw
    · simp only[if_true] at hw;exact hb.2 hw
  rw[if_pos (by simp[Region.wanted,hy,hbw])];refine Oper.rX (h.jV h3 h4 h5 ⟨cl,rfl⟩)<|h c a w S F h3 h4 h5 K Q (λg v w' S' F' hφ aI hsub hag hown hq=>hK _ _ (k g hφ _ _ ⟨?_,?_,S',F',aI,hown,?_⟩)) (λch w' S' F' hD' hc aI hsub hag hown=>?_)
  · rw[Act.ek];exact h1
  · rw[Act.iw];exact h2
  · exact(h5.mono hsub hag).put hq (by rw[h2];simpa using hd)
  · exact pq.pan (hD hD') hc a w' ⟨h1,h2,S',F',aI,hown,h5.mono hsub hag⟩
theorem cv.Rk{o:Oper}{d:Tmp}{j:Nat}{want:Bool}{t:Tmp}{p:Prop}(hl:look env t=some (av p))(uG:o.guard=some (j,want))(o4:o.dst=some d)(hj:(ops[j]?).bind (·.dst)=some t)(ht:Nat.blt t c.n=true)(hw:if want=true then ¬p else p)(hd:Nat.blt d c.n=true)
    (k:cv P ops Q c l hs ((d,aE0)::env)):cv P ops Q c (o::l) hs env:=by
  intro a w hst;obtain⟨h1,h2,S,F,h3,h4,h5⟩:=hst;refine wpListIn_step λK hK=>?_;obtain⟨b,hy,hb⟩:=Ar (ops:=ops) hl hj ht h2 h5
  have hbw:¬b=want:=by
    cases want
    · simp only[Bool.false_eq_true,if_false] at hw;rw[hb.2 hw];simp
    · simp only[if_true] at hw;intro e;exact hw (hb.1 e)
  rw[if_neg (by simp[Region.wanted,uG,hy,hbw])];refine⟨λ_ _=>trivial,hK _ _ (k _ _ ⟨?_,?_,S,F,h3,h4,?_⟩)⟩
  · rw[Act.ek];exact h1
  · rw[Act.iw];exact h2
  · rw[o4];exact h5.put (by simp only[ag]) (by rw[h2];simpa using hd)
theorem Ej{x y z:Operand}{p:Prop}{q:VP}(hx:bA env x (av p))(hp:p)(hy:bA env y q):bw P hs env ⟨dst, .pick x y z,ty,pos,after,gd⟩ q:=
 bw.aM λρ w S F _ he=>by
  obtain⟨b,hb,Ch⟩:=he.o _ _ hx;have h2:=he.o _ _ hy;have:=Ch.2 hp;subst this
  exact⟨_,by simp[execOp,hb,go_sem],h2⟩
theorem MA{x y z:Operand}{p:Prop}{q:VP}(hx:bA env x (av p))(hp:¬p)(hz:bA env z q):bw P hs env ⟨dst, .pick x y z,ty,pos,after,gd⟩ q:=
 bw.aM λρ w S F _ he=>by
  obtain⟨b,hb,Ch⟩:=he.o _ _ hx;have h2:=he.o _ _ hz;cases b with
  |true=>exact absurd (Ch.1 rfl) hp
  |false=>exact⟨_,by simp[execOp,hb,go_sem],h2⟩
theorem As{D:Prop}{f:FuncId}{xs:List Operand}{ats:Array TypeId}{ps:List VP}{hs0 rest:List HP}{γ:Type}{φ:γ->Prop}{hs':γ->List HP}{q:γ->VP}(hf:zl P tf f ps hs0 D φ hs' q)(hb:j7 P f=true)(hx:kU env xs ps)(hp:hs.Perm (hs0++rest)):
    UC P tf hs rest env ⟨dst, .call ⟨.value (.func f),xs.toArray,ats⟩,ty,pos,after,gd⟩ D φ (λg=>hs' g++rest) q:=
  λc a w S F aI hown he K Q hk Rj=>uc (dst:=dst) (ty:=ty) (pos:=pos) (after:=after) hf hb hx hp c a w S F aI hown he K Q hk Rj
theorem Rl{e:Int}{T:TypeId}{x:Operand}{fs:Array Field}(hT:P.underlying T=some (.struct fs))(hx:bA env x (aC [af .i64 e])):bw P hs env ⟨dst, .makeInterface T x,ty,pos,after,gd⟩ (ag (nu T e)):=
 bw.aM λρ w S F _ he=>by
  obtain⟨arr,hv,hn,hc⟩:=he.o _ _ hx;obtain⟨u,hu,hq⟩:=hc 0 _ rfl;simp only[ag] at hq;subst hq
  have:arr= #[.int .i64 e]:=by
   refine Array.ext (by simpa using hn) λi h1 h2=>?_;have:i=0:=by simp at h2;omega
   subst this;have h3:arr[0]?=some arr[0]:=by simp at hn;simp[hn]
   rw[h3] at hu;simpa using hu
  subst this;exact⟨nu T e,by simp[execOp,Instr.makeInterface,hv,run_underlying hT,nu],rfl⟩
theorem qW{α:Type}{g:SB}{n i h len:Nat}{k:IntKind}{ii:Int}{enc:α->List VP}{xs:List α}{T E:TypeId}{x y:Operand}(hT:P.underlying T=some (.slice E))(hn:P.cellsOf E=n)(h0:Nat.blt 0 n=true)(hx:bA env x (ag (bI g len)))(hy:bA env y (af k ii))(hii:ii=(h:Int))
    (hi:hs[i]?=some (aH g n enc xs)) (hl:len=xs.length) (hh:h<=len):bw P hs env ⟨dst, .slice T x none (some y) none,ty,pos,after,gd⟩ (ag (bI g h)):=
  bw.aM λρ w S F ho he=>by
    have hv:=he.o _ _ hx;have h2:=he.o _ _ hy;simp only[ag,bI] at hv h2
    subst hii;have hs:=run_sizeOf (T:=E) hn h0 w;obtain⟨F1,_,hp⟩:=ho.get hi;cases g with
    | none=>
      have hp':xs=[]:=hp;have WC:h=0:=by rw[hp'] at hl;simp at hl;omega
      subst WC;refine⟨.slice none 0 0,?_,rfl⟩;simp[execOp,hv,h2,Instr.sliceAt,Instr.slice,Instr.sliceBounds,Instr.sliceBound,asIntOf,run_underlying hT,hs]
    | some p=>
      obtain⟨b,cap⟩:=p;have hcap:h<=cap:=Nat.le_trans (by omega) hp.2.1;refine⟨.slice (some ⟨b,0,none⟩) h cap,?_,rfl⟩;simp[execOp,hv,h2,Instr.sliceAt,Instr.slice,Instr.sliceBounds,Instr.sliceBound,asIntOf,run_underlying hT,hs,hcap,Addr.add]
theorem MB{α:Type}{g:SB}{n i len:Nat}{enc:α->List VP}{xs:List α}{T E:TypeId}{x:Operand}{ats:Array TypeId}(Aa:ats[0]?=some T)(hT:P.underlying T=some (.slice E))(hx:bA env x (ag (bI g len)))(hi:hs[i]?=some (aH g n enc xs))(hl:len=xs.length):
    bw P hs env ⟨dst, .call ⟨.builtin .len, #[x],ats⟩,ty,pos,after,gd⟩ (af .i64 (len:Int)):=
  bw.aM λρ w S F ho he=>by
    have hv:=he.o _ _ hx;simp only[ag] at hv
    refine⟨.int .i64 (len:Int),?_,rfl⟩;obtain⟨F1,_,hp⟩:=ho.get hi;cases g with
    | none=>
      have hp':xs=[]:=hp;subst hp';subst hl;simp[execOp,resolve,invoke,builtin,Builtin.len_,Aa,hv,bI,run_underlying hT,goInt]
    |some p=>simp[execOp,resolve,invoke,builtin,Builtin.len_,Aa,hv,bI,run_underlying hT,goInt]
end
variable {α:Type} {n:Nat}
theorem aF.Rm{g:SB}{enc:α->List VP}{xs:List α}(ys:List α)(h:ys<+:xs){r:List HP}:aF (aH g n enc xs::r) (aH g n enc ys::r):=λF S w ⟨F1,F2,f1,f2,hp,hr⟩=>by
 refine⟨F1,F2,f1,f2,?_,hr⟩;obtain⟨t,rfl⟩:=h;cases g with
 |none=>exact(List.append_eq_nil_iff.1 (show ys++t=[] from hp)).1
 |some p=>
  obtain⟨h1,h2,h3,arr,T,h4,h5,h6⟩:=hp;simp only[List.length_append] at h2 h3;refine⟨h1,by omega,by omega,arr,T,h4,h5,λj q hj=>h6 j q ?_⟩;rw[List.flatMap_append,List.getElem?_append_left ((List.getElem?_eq_some_iff.1 hj).1)];exact hj
theorem GF(B:List α)(x y:α):(B++[x]).set B.length y=B++[y]:=by simp
theorem mS(B:List α)(x:α):(B++[x])[B.length]?=some x:=by simp
theorem aF.of_eq{a b:List HP}(h:a=b):aF a b:=h▸aF.refl a
variable {s:Code}
theorem aU.zD{g:SB}{enc:α->List VP}{xs:List α}(i:Nat)(hi:hs[i]?=some (aH g n enc xs))
    (h:xs.length<=281474976710656->aU P Q c s hs env):aU P Q c s hs env:=by
  intro a w hst;obtain⟨h1,h2,S,F,h3,h4,h5⟩:=hst;obtain⟨F1,_,hp⟩:=h4.get hi;refine h ?_ a w ⟨h1,h2,S,F,h3,h4,h5⟩;cases g with
  |none=>have h9:xs=[]:=hp;rw[h9];simp
  |some p=>exact hp.2.2.1
theorem Post.wC{q:γ->VP}(hr:fn.results= #[])(g:γ)(hφ:φ g)(hh:∀F S w,dR hs F S w->dR (hs' g) F S w)(hq:q g=aZ [])(hdf:c.df=[]:=by rfl):bS (Post P fn c φ hs' q) .ret c hs env:=
 Post.bh (rs:=[]) (qs:=[]) (by rw[hr]) rfl g hφ hh hq .nil hdf
theorem Post.cY{q:γ->VP}(hr:fn.results= #[])(g:γ)(hφ:φ g)(hh:∀F S w,dR hs F S w->dR (hs' g) F S w)(hq:q g=aZ [])(hdf:c.df=[]:=by rfl):bS (Post P fn c φ hs' q) .normal c hs env:=
 λa w hst=>Post.wC hr g hφ hh hq hdf a w hst
def Rn(P:Program)(T:TypeId)(i:Nat):Option (TypeId×Nat):=match P.underlying T with|some (.struct fs)=>(fs[i]?).map λf=>(f.type,f.offset)|_=>none
variable {q:VP}
theorem wD{dst:Option Tmp}{ty:TypeId}{pos:String}{after:Array Edge}{gd:Option (Nat×Bool)}{T E:TypeId}{i off:Nat}{x:Operand}{cs:List VP}(hT:Rn P T i=some (E,off))(hE:l9 P E=some false)(hx:bA env x (aC cs))(hq:cs[off]?=some q):
    bw P hs env ⟨dst, .field T x i,ty,pos,after,gd⟩ q:=
  bw.aM λρ w S F _ he=>by
    obtain⟨arr,hv,hn,hc⟩:=he.o _ _ hx;obtain⟨u,hu,huq⟩:=hc off q hq;unfold Rn at hT
    split at hT
    · rename_i fs Qx
      obtain⟨f,hf,TV⟩:=Option.map_eq_some_iff.1 hT;simp only[Prod.mk.injEq] at TV;obtain⟨rfl,rfl⟩:=TV;have h1:=fq hE w;refine⟨u,?_,huq⟩;simp[execOp,Instr.field,run_underlying Qx,hf,hv,asAgg,part,h1,hu]
    · cases hT
class FA(P:Program)(T:TypeId)(b:outParam Bool):Prop where
 out:l9 P T=some b:=by kernel_rfl
class FC(P:Program)(T:TypeId)(n:outParam Nat):Prop where
 out:P.cellsOf T=n:=by kernel_rfl
class FU(P:Program)(T:TypeId)(u:outParam TypeDesc):Prop where
 out:P.underlying T=some u:=by kernel_rfl
class FF(P:Program)(T:TypeId)(f:Nat)(k:outParam Nat):Prop where
 out:z9 P T f=some k:=by kernel_rfl
class FZ(P:Program)(T:TypeId)(z:outParam (List Value)):Prop where
 out:lG P T=some z:=by kernel_rfl
class FP(P:Program)(T:TypeId)(l:outParam (List (Nat×Nat))):Prop where
 out:D9 P T=some l:=by kernel_rfl
class FY(P:Program)(T:TypeId)(n:outParam Nat):Prop where
 out:P.bytesOf T=n:=by kernel_rfl
class FB(P:Program)(f:FuncId):Prop where
 out:j7 P f=true:=by kernel_rfl
class FR(P:Program)(T:TypeId)(x:outParam (Nat×Nat)):Prop where
 out:Xy P T=some x:=by kernel_rfl
class FM(P:Program):Prop where
 out:P.follows .mixedOrders=true:=by kernel_rfl
def XM(a b:VP):Prop:=aa a b
theorem XM.id:XM q q:=aa.refl q
theorem XM.when{c:Prop}(h:c):XM (fK c q) q:=λ_ _ _ k=>k.1 h
theorem XM.under{c p:Prop}(h:c):XM (fK (c/\p) q) (fK p q):=λ_ _ _ k=>⟨λhp=>k.1 ⟨h,hp⟩,λhp=>k.2 λh'=>hp h'.2⟩
theorem bA.via{t:Nat}{a:VP}(hl:look env t=some a)(h:XM a q):bA env (.tmp t) q:=(bA.t hl).le h
theorem bA.z {x:Operand} (h:bA env x q:=by first
 |((with_reducible apply bA.via);exact rfl;first|with_reducible exact .when (by assumption)|with_reducible exact .when (And.left (by assumption))|with_reducible exact .id|with_reducible exact .under (by assumption)|exact .id|exact .when (by assumption)|exact .when (And.left (by assumption)))
 |with_reducible exact .ct
 |with_reducible exact .cf
 |with_reducible exact .c _
 |exact .c _
 |exact .g _):bA env x q:=h
theorem kU.z{env:Env}{xs:List Operand}{qs:List VP}(h:kU env xs qs:=by((repeat (refine kU.cons .z ?_));exact .nil)):kU env xs qs:=h
theorem l7.one{x:Operand}{k:Nat}{ps:List (Nat×Operand)}{cs:List (Nat×List VP)}{c:List VP}(h:bA env x q)(hp:Mn q c)(t:l7 env ps cs):l7 env ((k,x)::ps) ((k,c)::cs):= .cons h t
theorem l7.z{env:Env}{ps:List (Nat×Operand)}{cs:List (Nat×List VP)}(h:l7 env ps cs:=by((repeat (apply l7.one;exact .z;exact inferInstance));exact .nil)):l7 env ps cs:=h
theorem bY {k:IntKind} {n:Int} (h:fits k n:=by first
 |(with_reducible apply cM)<;>omega
 |(with_reducible apply z7)<;>omega
 |(with_reducible apply Gh)<;>omega
 |(with_reducible apply Mj)<;>omega):fits k n:=h
section
variable {P:Program} {hs:List HP} {env:Env} {q:VP} {dst:Option Tmp} {ty T E:TypeId} {pos:String} {after:Array Edge} {gd:Option (Nat×Bool)} {x y:Operand}
theorem XN(hx:bA env x q)(hf:Flat q):bw P hs env ⟨dst, .box T x,ty,pos,after,gd⟩ (ck [q]):=ab0 hx
theorem XO{α:Type}{n:Nat}{enc:α->List VP}{xs:List α}(hT:P.underlying T=some (.slice E))(hx:bA env x (ai n enc xs)):
    bw P hs env ⟨dst, .call ⟨.builtin .len, #[x], #[T]⟩,ty,pos,after,gd⟩ (af .i64 (xs.length:Int)):=Mk rfl hT hx
theorem UE{l:List UInt8}(hT:P.underlying T=some .string)(hx:bA env x (dV l)):
    bw P hs env ⟨dst, .call ⟨.builtin .len, #[x], #[T]⟩,ty,pos,after,gd⟩ (af .i64 (l.length:Int)):=Xv rfl hT hx
theorem J1{α:Type}{g:SB}{n i len:Nat}{enc:α->List VP}{xs:List α}(hT:P.underlying T=some (.slice E))(hx:bA env x (ag (bI g len)))(hi:hs[i]?=some (aH g n enc xs))(hl:len=xs.length):
    bw P hs env ⟨dst, .call ⟨.builtin .len, #[x], #[T]⟩,ty,pos,after,gd⟩ (af .i64 (len:Int)):=MB rfl hT hx hi hl
end
section
variable {P:Program} {hs:List HP} {env:Env} {q:VP} {dst:Option Tmp} {ty T T2:TypeId} {pos:String} {after:Array Edge} {gd:Option (Nat×Bool)} {x y:Operand} {b:BinOp} {f:Builtin} {as:Array Operand} {ats:Array TypeId}
theorem aE1(h:bw P hs env ⟨dst, .load T x,ty,pos,after,gd⟩ q):bw P hs env ⟨dst, .load T x,ty,pos,after,gd⟩ q:=h
theorem ac3(h:bw P hs env ⟨dst, .binOp b T x y T2,ty,pos,after,gd⟩ q):bw P hs env ⟨dst, .binOp b T x y T2,ty,pos,after,gd⟩ q:=h
theorem XP(h:bw P hs env ⟨dst, .call ⟨.builtin f,as,ats⟩,ty,pos,after,gd⟩ q):bw P hs env ⟨dst, .call ⟨.builtin f,as,ats⟩,ty,pos,after,gd⟩ q:=h
end
theorem bw.z {P:Program} {hs:List HP} {env:Env} {o:Oper} {q:VP} (h:bw P hs env o q:=by first
 |(with_reducible apply gu);exact .z
 |(with_reducible apply bf);exact .z
 |(with_reducible apply aE1);first
  |(with_reducible apply pU);exact FA.out;exact .z
  |(with_reducible apply wj);exact FA.out;exact FC.out;rfl;exact .z;rfl
  |(with_reducible apply kK (i:=0));exact FA.out;exact .z;rfl;rfl
  |(with_reducible apply kK (i:=1));exact FA.out;exact .z;rfl;rfl
  |(with_reducible apply kK (i:=2));exact FA.out;exact .z;rfl;rfl
  |(with_reducible apply kK (i:=3));exact FA.out;exact .z;rfl;rfl
  |(with_reducible apply mP (i:=0));exact FA.out;exact FC.out;rfl;exact .z;rfl;rfl
  |(with_reducible apply mP (i:=1));exact FA.out;exact FC.out;rfl;exact .z;rfl;rfl
  |(with_reducible apply mP (i:=2));exact FA.out;exact FC.out;rfl;exact .z;rfl;rfl
  |(with_reducible apply mP (i:=3));exact FA.out;exact FC.out;rfl;exact .z;rfl;rfl
 |(with_reducible apply Up);exact FF.out;exact .z
 |(with_reducible apply Gk);exact FF.out;exact .z
 |(with_reducible apply QS);exact .z
 |(with_reducible apply NT);exact .z
 |(with_reducible apply ac3);first
  |(with_reducible apply aa6);exact .z;exact .z
  |(with_reducible apply aa7);exact .z;exact .z
  |(with_reducible apply aa2);exact .z;exact .z
  |(with_reducible apply aa5);exact .z;exact .z
  |(with_reducible apply aa4);exact .z;exact .z
  |(with_reducible apply aa3);exact .z;exact .z
  |(with_reducible apply ez);exact .z;exact .z;exact bY
  |(with_reducible apply iy);exact .z;exact .z;exact bY
  |(with_reducible apply z8);exact .z;exact .z;exact bY
  |(with_reducible apply QW);exact .z;exact .z
  |(with_reducible apply QX);exact .z;exact .z
  |(with_reducible apply Xt);exact FU.out;exact .z;exact .z
  |(with_reducible apply QT);exact FU.out;exact .z
  |(with_reducible apply QU);exact FU.out;exact .z
  |(with_reducible apply Gi);exact FU.out;exact .z
  |(with_reducible apply Gj);exact FU.out;exact .z
 |(with_reducible apply aa9);exact .z;exact .z
 |(with_reducible apply aC9);exact .z;exact .z
 |(with_reducible apply aa8);exact .z
 |(with_reducible apply dW);exact .z;rfl
 |(with_reducible apply aL);exact FP.out;exact FZ.out;exact .z;rfl
 |(with_reducible apply QV);exact .z
 |(with_reducible apply XN);exact .z;exact inferInstance
 |(with_reducible apply jW);exact FU.out;exact FU.out;exact .z;exact bY
 |(with_reducible apply JG);exact FU.out;exact FU.out;exact FU.out;exact .z
 |(with_reducible apply XP);first
  |(with_reducible apply XO);exact FU.out;exact .z
  |(with_reducible apply UE);exact FU.out;exact .z
  |(with_reducible apply QY);exact .z;exact .z
  |(with_reducible apply J1 (i:=0));exact FU.out;exact .z;rfl;rfl
  |(with_reducible apply J1 (i:=1));exact FU.out;exact .z;rfl;rfl
  |(with_reducible apply J1 (i:=2));exact FU.out;exact .z;rfl;rfl):bw P hs env o q:=h
section
variable {P:Program} {hs:List HP} {env:Env} {q:VP} {dst:Option Tmp} {ty T E:TypeId} {pos:String} {after:Array Edge} {gd:Option (Nat×Bool)} {x y:Operand}
theorem cA{f:FuncId}{xs:List Operand}{ats:Array TypeId}{ps:List VP}[hb:FB P f](hx:kU env xs ps:=by exact .z)(h:dF P f ps q):
    bw P hs env ⟨dst, .call ⟨.value (.func f),xs.toArray,ats⟩,ty,pos,after,gd⟩ q:=cg h hb.out hx
theorem cD(i:Nat){vh:HP}[dv:XK vh]{f:FuncId}{xs:List Operand}{ats:Array TypeId}{ps:List VP}[hb:FB P f](hx:kU env xs ps:=by exact .z)(hi:hs[i]?=some vh:=by rfl)(h:bu P f ps [vh] (γ:=Unit) (λ_=>True) (λ_=>[]) (λ_=>q)):
    bw P hs env ⟨dst, .call ⟨.value (.func f),xs.toArray,ats⟩,ty,pos,after,gd⟩ q:=Dg h hb.out hx hi
theorem cV{A:Type}{ok:A->Prop}{arg:A->List VP}{res:A->VP}{xs:List Operand}{ats:Array TypeId}(a:A)(hx:bA env x (pV P ok arg res):=by exact .z)(hxs:kU env xs (arg a):=by exact .z)(h:ok a:=by trivial):
    bw P hs env ⟨dst, .call ⟨.value x,xs.toArray,ats⟩,ty,pos,after,gd⟩ (res a):=Ur a hx h hxs
theorem cI{α:Type}{n:Nat}{enc:α->List VP}{xs:List α}{k:IntKind}{i:Int}{e:α}[hT:FU P T (.slice E)][hE:FC P E n](j:Nat)(hx:bA env x (ai n enc xs):=by exact .z)(hy:bA env y (af k i):=by exact .z)(h0:Nat.blt 0 n=true:=by rfl)(h:xs[j]?=some e:=by assumption)(hi:i=(j:Int):=by first|rfl|omega):
    bw P hs env ⟨dst, .indexAddr T x y,ty,pos,after,gd⟩ (ck (enc e)):=aW hT.out hE.out h0 hx hy hi h
theorem cB{α:Type}{n len:Nat}(enc:α->List VP)(ys:List α){ps:List (Nat×Operand)}{pcs:List (Nat×List VP)}{zs:List Value}{cs:List VP}[oV:gX n enc][hT:FU P T (.slice E)][hn:FC P E n][hz:FZ P E zs](hp:l7 env ps pcs:=by exact .z)(h0:Nat.blt 0 n=true:=by rfl)
    (hzl:zs.length=n:=by rfl) (F7:Nat.ble (len*n) 16777216=true:=by rfl) (hf:sD (λi=>some (i*n,n)) (zeroV zs (len*n)) pcs=some cs:=by rfl) (hcs:cs=ys.flatMap enc:=by rfl) (hl:ys.length=len:=by rfl) (qR:Nat.ble len 16777216=true:=by rfl):
    bw P hs env ⟨dst, .buildSlice T len ps.toArray,ty,pos,after,gd⟩ (ai n enc ys):=bC ys hT.out hn.out h0 hz.out hzl hp F7 hf hcs hl qR
end
section
variable {P:Program} {hs:List HP} {env:Env} {dst:Option Tmp} {ty T E tf:TypeId} {pos:String} {after:Array Edge} {gd:Option (Nat×Bool)} {x y:Operand} {D:Prop}
theorem cE{f:FuncId}{xs:List Operand}{ats:Array TypeId}{ps:List VP}{hs0 rest:List HP}{γ:Type}{φ:γ->Prop}{hs':γ->List HP}{q:γ->VP}[hb:FB P f](hx:kU env xs ps:=by exact .z)(hp:hs=hs0++rest:=by rfl)(h:bu P f ps hs0 φ hs' q):
    gW P hs env ⟨dst, .call ⟨.value (.func f),xs.toArray,ats⟩,ty,pos,after,gd⟩ φ (λg=>hs' g++rest) q:=eV h hb.out hx (.of_eq hp)
theorem hH{f:FuncId}{xs:List Operand}{ats:Array TypeId}{ps:List VP}{hs0:List HP}{γ:Type}{φ:γ->Prop}{hs':γ->List HP}{q:γ->VP}[hb:FB P f](rest:List HP)(ix:List Nat)(hx:kU env xs ps:=by exact .z)(h1:ix.filterMap (λi=>hs[i]?)=hs0++rest:=by rfl)(h2:yI (List.range hs.length) ix=true:=by rfl)(h:bu P f ps hs0 φ hs' q):
    gW P hs env ⟨dst, .call ⟨.value (.func f),xs.toArray,ats⟩,ty,pos,after,gd⟩ φ (λg=>hs' g++rest) q:=eV h hb.out hx (Perm.idx ix h1 h2)
theorem cX{f:FuncId}{xs:List Operand}{ats:Array TypeId}{ps:List VP}{hs0 rest:List HP}{γ:Type}{φ:γ->Prop}{hs':γ->List HP}{q:γ->VP}[hb:FB P f](hx:kU env xs ps:=by exact .z)(hp:hs=hs0++rest:=by rfl)(h:zl P tf f ps hs0 D φ hs' q):
    UC P tf hs rest env ⟨dst, .call ⟨.value (.func f),xs.toArray,ats⟩,ty,pos,after,none⟩ D φ (λg=>hs' g++rest) q:=uc h hb.out hx (.of_eq hp)
theorem Ob{f:FuncId}{xs:List Operand}{ats:Array TypeId}{ps:List VP}{hs0:List HP}{γ:Type}{φ:γ->Prop}{hs':γ->List HP}{q:γ->VP}[hb:FB P f](rest:List HP)(ix:List Nat)(hx:kU env xs ps:=by exact .z)(h1:ix.filterMap (λi=>hs[i]?)=hs0++rest:=by rfl)(h2:yI (List.range hs.length) ix=true:=by rfl)(h:zl P tf f ps hs0 D φ hs' q):
    UC P tf hs rest env ⟨dst, .call ⟨.value (.func f),xs.toArray,ats⟩,ty,pos,after,none⟩ D φ (λg=>hs' g++rest) q:=uc h hb.out hx (Perm.idx ix h1 h2)
end
variable {j:Nat} {t:Tmp}
theorem de.kT{p:Prop}(uG:o.guard=some (j,true))(hj:(ops[j]?).bind (·.dst)=some t)(ht:Nat.blt t n=true)(hl:look env t=some (av p))(h:p->bw P hs env o q):de P ops n hs env o (fK p q):= .gT hl uG hj ht h
theorem de.kF{p:Prop}(uG:o.guard=some (j,false))(hj:(ops[j]?).bind (·.dst)=some t)(ht:Nat.blt t n=true)(hl:look env t=some (av p))(h:¬p->bw P hs env o q):de P ops n hs env o (fK (¬p) q):= .gF hl uG hj ht h
theorem de.lT{c p:Prop}(uG:o.guard=some (j,true))(hj:(ops[j]?).bind (·.dst)=some t)(ht:Nat.blt t n=true)(hl:look env t=some (fK c (av p)))(h:c/\p->bw P hs env o q):de P ops n hs env o (fK (c/\p) q):= .hT hl uG hj ht h
theorem de.lF{c p:Prop}(uG:o.guard=some (j,false))(hj:(ops[j]?).bind (·.dst)=some t)(ht:Nat.blt t n=true)(hl:look env t=some (fK c (av p)))(h:c/\¬p->bw P hs env o q):de P ops n hs env o (fK (c/\¬p) q):= .hF hl uG hj ht h
theorem de.z {P:Program} {ops:Array Oper} {n:Nat} {hs:List HP} {env:Env} {o:Oper} {q:VP} (h:de P ops n hs env o q:=by first
 |(with_reducible apply de.kT);rfl;rfl;rfl;rfl;intro hg;exact .z
 |(with_reducible apply de.kF);rfl;rfl;rfl;rfl;intro hg;exact .z
 |(with_reducible apply de.lT);rfl;rfl;rfl;rfl;intro hg;exact .z
 |(with_reducible apply de.lF);rfl;rfl;rfl;rfl;intro hg;exact .z):de P ops n hs env o q:=h
section
variable {P:Program} {ops:Array Oper} {Q:Exit->Act->World->Prop} {c:Ctx} {l:List Oper} {hs:List HP} {env:Env} {q:VP} {ty T E:TypeId} {pos:String} {after:Array Edge} {x y:Operand}
theorem cv.XQ(i:Nat){b off:Nat}{cs:List VP}(hn:P.cellsOf T=1)(hx:bA env x (ax b off))(hy:bA env y q)(hf:Flat q)(hi:hs[i]?=some (az b cs))(hl:Nat.blt off cs.length=true)
    (k:cv P ops Q c l (hs.set i (az b (cs.set off q))) env):cv P ops Q c (⟨none, .store T x y,ty,pos,after,none⟩::l) hs env:= .s (jf hn hx hy hi hl) k
theorem cv.xK(i:Nat){b off n:Nat}{cs new:List VP}(hn:P.cellsOf T=n)(h0:Nat.blt 0 n=true)(hx:bA env x (ax b off))(hy:bA env y (aC new))(hfl:bD new)(pX:Nat.beq new.length n=true)(hi:hs[i]?=some (az b cs))(hl:Nat.ble (off+n) cs.length=true)
    (k:cv P ops Q c l (hs.set i (az b (ig off new cs))) env):cv P ops Q c (⟨none, .store T x y,ty,pos,after,none⟩::l) hs env:= .s (dQ hn h0 hx hy pX hi hl) k
end
theorem aa.z{a b:VP}(h:aa a b:=by first|exact aa.refl _|exact aa.int (by omega)|exact aa.prop (by omega)|exact aa.prop (by simp_all)|exact aa.prop (by simp;omega)):aa a b:=h
variable {as:List α}
theorem WM{a:α}{l:List α}(h:as.take n=l):(a::as).take (n+1)=a::l:=congrArg (List.cons a) h
theorem ac4:as.take 0=[]:=rfl
theorem MC{a:α}{l:List α}(h:as.drop n=l):(a::as).drop (n+1)=l:=h
theorem WO:as.drop 0=as:=rfl
def mT(P:Program)(ops:Array Oper)(n:Nat)(hs:List HP)(e0:Env)(i:Nat)(done:iz)(l:List Oper)(K:iz->Prop):Prop:=∃all,ou P ops n hs e0 i done l all/\K all
section
variable {P:Program} {ops:Array Oper} {n:Nat} {hs:List HP} {e0:Env} {K:iz->Prop} {i:Nat} {done:iz} {d:Tmp} {q:VP} {op:Op} {ty:TypeId} {pos:String} {after:Array Edge} {gd:Option (Nat×Bool)} {l:List Oper}
theorem mT.g(h:de P ops n hs (dg after done++e0) ⟨some d,op,ty,pos,after,gd⟩ q)(k:mT P ops n hs e0 (i+1) ((i,d,q)::done) l K):mT P ops n hs e0 i done (⟨some d,op,ty,pos,after,gd⟩::l) K:=
 let ⟨all,k1,k2⟩:=k;⟨all, .cons h k1,k2⟩
theorem mT.cons(h:de P ops n hs (dg after done++e0) ⟨some d,op,ty,pos,after,gd⟩ q)(k:mT P ops n hs e0 (i+1) ((i,d,q)::done) l K):mT P ops n hs e0 i done (⟨some d,op,ty,pos,after,gd⟩::l) K:= .g h k
theorem mT.p(h:bw P hs (dg after done++e0) ⟨some d,op,ty,pos,after,none⟩ q)(k:mT P ops n hs e0 (i+1) ((i,d,q)::done) l K):mT P ops n hs e0 i done (⟨some d,op,ty,pos,after,none⟩::l) K:=
 let ⟨all,k1,k2⟩:=k;⟨all, .p h k1,k2⟩
theorem mT.nil(k:K done):mT P ops n hs e0 i done [] K:=⟨_, .nil,k⟩
theorem aU.bL{Q:Exit->Act->World->Prop}{c:Ctx}{l l1 l2:List Oper}{id:Nat}{env:Env}(m g:Nat)(hm:P.follows .mixedOrders=true)(hB:Gt l.toArray m g c.n=true)(h1:l.take m=l1:=by((repeat (first|with_reducible apply WM|apply WM));exact ac4))(h2:l.drop m=l2:=by((repeat (first|with_reducible apply MC|apply MC));exact WO))
    (k:mT P l.toArray c.n hs (strip (dstsOf l1) env) 0 [] l1 (λall=>cv P l.toArray Q c l2 hs (gP all++env))):aU P Q c (.region id l.toArray true) hs env:=
  let ⟨all,k1,k2⟩:=k; .draw m g hm hB (h1▸k1) (h2▸k2)
theorem aU.bt{Q:Exit->Act->World->Prop}{c:Ctx}{l l2:List Oper}{id:Nat}{env:Env}(plan:List (Nat×Nat))(m g:Nat)(hm:P.follows .mixedOrders=true)(hB:nM l.toArray plan m g c.n=true)(h2:l.drop m=l2:=by((repeat (first|with_reducible apply MC|apply MC));exact WO))
    (k:dG P l c.n (strip (dstsOf (l.take m)) env) (λdone hs=>cv P l.toArray Q c l2 hs (gP done++env)) plan [] hs):aU P Q c (.region id l.toArray true) hs env:= .XF plan m g hm hB (h2▸k)
end
variable {h':Prop}
theorem fF {g:Prop} (k:h') (j:h'->g:=by first
 |(with_reducible apply cv.p);exact .z;rfl
 |(with_reducible exact cv.nil)
 |(with_reducible apply cv.g);exact .z;rfl;rfl
 |(with_reducible exact aU.seq)
 |(with_reducible exact aU.region)
 |(with_reducible exact λk=>bS.Gg k)
 |(with_reducible exact aU.block)
 |(with_reducible exact bS.aC2)
 |(with_reducible exact aU.skip)
 |(with_reducible exact aU.ret)
 |(with_reducible exact aU.exit)
 |(with_reducible exact bS.aa0)
 |(with_reducible exact bS.aC3)
 |(with_reducible exact bS.aa1)
 |(with_reducible exact bS.aC4)
 |(with_reducible apply bS.aC5);rfl
 |(with_reducible apply cv.XQ 0);exact FC.out;exact .z;exact .z;exact inferInstance;rfl;rfl
 |(with_reducible apply cv.XQ 1);exact FC.out;exact .z;exact .z;exact inferInstance;rfl;rfl
 |(with_reducible apply cv.XQ 2);exact FC.out;exact .z;exact .z;exact inferInstance;rfl;rfl
 |(with_reducible apply cv.xK 0);exact FC.out;rfl;exact .z;exact .z;exact inferInstance;rfl;rfl;rfl
 |(with_reducible apply cv.xK 1);exact FC.out;rfl;exact .z;exact .z;exact inferInstance;rfl;rfl;rfl
 |(with_reducible apply cv.xK 2);exact FC.out;rfl;exact .z;exact .z;exact inferInstance;rfl;rfl;rfl
 |(with_reducible apply dG.p);rfl;intro _;exact .z
 |(with_reducible apply dG.o);rfl;exact .z
 |(with_reducible apply dG.g);rfl;intro _;exact .z
 |(with_reducible apply eO.p);rfl;intro _;exact .z
 |(with_reducible apply eO.g);rfl;intro _;exact .z
 |(with_reducible apply mT.p);exact .z
 |(with_reducible apply mT.g);exact .z
 |(with_reducible exact mT.nil)
 |(apply mT.p);exact .z
 |(apply mT.g);exact .z
 |(apply cv.p);exact .z;rfl
 |(exact cv.nil)):g:=j k
structure jC(p:Prop):Prop where
 out:p
theorem Z1{g:Prop}(k:h')(j:jC h'->g:=by(intro k;(iterate 1 refine fF ?_);exact k.out)):g:=j ⟨k⟩
theorem Z2{g:Prop}(k:h')(j:jC h'->g:=by(intro k;(iterate 2 refine fF ?_);exact k.out)):g:=j ⟨k⟩
theorem Z3{g:Prop}(k:h')(j:jC h'->g:=by(intro k;(iterate 3 refine fF ?_);exact k.out)):g:=j ⟨k⟩
theorem Z4{g:Prop}(k:h')(j:jC h'->g:=by(intro k;(iterate 4 refine fF ?_);exact k.out)):g:=j ⟨k⟩
theorem Z5{g:Prop}(k:h')(j:jC h'->g:=by(intro k;(iterate 5 refine fF ?_);exact k.out)):g:=j ⟨k⟩
theorem Z6{g:Prop}(k:h')(j:jC h'->g:=by(intro k;(iterate 6 refine fF ?_);exact k.out)):g:=j ⟨k⟩
theorem Z7{g:Prop}(k:h')(j:jC h'->g:=by(intro k;(iterate 7 refine fF ?_);exact k.out)):g:=j ⟨k⟩
theorem Z8{g:Prop}(k:h')(j:jC h'->g:=by(intro k;(iterate 8 refine fF ?_);exact k.out)):g:=j ⟨k⟩
theorem Z9{g:Prop}(k:h')(j:jC h'->g:=by(intro k;(iterate 9 refine fF ?_);exact k.out)):g:=j ⟨k⟩
theorem cC{g:Prop}(k:h')(j:jC h'->g:=by(intro k;(iterate 10 refine fF ?_);exact k.out)):g:=j ⟨k⟩
theorem dh{g:Prop}(k:h')(j:jC h'->g:=by(intro k;(iterate 11 refine fF ?_);exact k.out)):g:=j ⟨k⟩
theorem eB{g:Prop}(k:h')(j:jC h'->g:=by(intro k;(iterate 12 refine fF ?_);exact k.out)):g:=j ⟨k⟩
theorem kL{g:Prop}(k:h')(j:jC h'->g:=by(intro k;(iterate 13 refine fF ?_);exact k.out)):g:=j ⟨k⟩
theorem ij{g:Prop}(k:h')(j:jC h'->g:=by(intro k;(iterate 14 refine fF ?_);exact k.out)):g:=j ⟨k⟩
theorem oA{g:Prop}(k:h')(j:jC h'->g:=by(intro k;(iterate 15 refine fF ?_);exact k.out)):g:=j ⟨k⟩
theorem Cm{g:Prop}(k:h')(j:jC h'->g:=by(intro k;(iterate 16 refine fF ?_);exact k.out)):g:=j ⟨k⟩
theorem Dh{g:Prop}(k:h')(j:jC h'->g:=by(intro k;(iterate 17 refine fF ?_);exact k.out)):g:=j ⟨k⟩
theorem zE{g:Prop}(k:h')(j:jC h'->g:=by(intro k;(iterate 18 refine fF ?_);exact k.out)):g:=j ⟨k⟩
theorem Cn{g:Prop}(k:h')(j:jC h'->g:=by(intro k;(iterate 19 refine fF ?_);exact k.out)):g:=j ⟨k⟩
theorem J2{g:Prop}(k:h')(j:jC h'->g:=by(intro k;(iterate 20 refine fF ?_);exact k.out)):g:=j ⟨k⟩
theorem XR{g:Prop}(k:h')(j:jC h'->g:=by(intro k;(iterate 21 refine fF ?_);exact k.out)):g:=j ⟨k⟩
theorem Z22{g:Prop}(k:h')(j:jC h'->g:=by(intro k;(iterate 22 refine fF ?_);exact k.out)):g:=j ⟨k⟩
theorem Z23{g:Prop}(k:h')(j:jC h'->g:=by(intro k;(iterate 23 refine fF ?_);exact k.out)):g:=j ⟨k⟩
theorem Z24{g:Prop}(k:h')(j:jC h'->g:=by(intro k;(iterate 24 refine fF ?_);exact k.out)):g:=j ⟨k⟩
theorem Z25{g:Prop}(k:h')(j:jC h'->g:=by(intro k;(iterate 25 refine fF ?_);exact k.out)):g:=j ⟨k⟩
theorem Z26{g:Prop}(k:h')(j:jC h'->g:=by(intro k;(iterate 26 refine fF ?_);exact k.out)):g:=j ⟨k⟩
theorem Z27{g:Prop}(k:h')(j:jC h'->g:=by(intro k;(iterate 27 refine fF ?_);exact k.out)):g:=j ⟨k⟩
theorem Z29{g:Prop}(k:h')(j:jC h'->g:=by(intro k;(iterate 29 refine fF ?_);exact k.out)):g:=j ⟨k⟩
theorem Z30{g:Prop}(k:h')(j:jC h'->g:=by(intro k;(iterate 30 refine fF ?_);exact k.out)):g:=j ⟨k⟩
theorem Z31{g:Prop}(k:h')(j:jC h'->g:=by(intro k;(iterate 31 refine fF ?_);exact k.out)):g:=j ⟨k⟩
theorem Z32{g:Prop}(k:h')(j:jC h'->g:=by(intro k;(iterate 32 refine fF ?_);exact k.out)):g:=j ⟨k⟩
theorem Z33{g:Prop}(k:h')(j:jC h'->g:=by(intro k;(iterate 33 refine fF ?_);exact k.out)):g:=j ⟨k⟩
theorem Z34{g:Prop}(k:h')(j:jC h'->g:=by(intro k;(iterate 34 refine fF ?_);exact k.out)):g:=j ⟨k⟩
theorem Di{g:Prop}(k:h')(j:jC h'->g:=by(intro k;(iterate 35 refine fF ?_);exact k.out)):g:=j ⟨k⟩
theorem Z39{g:Prop}(k:h')(j:jC h'->g:=by(intro k;(iterate 39 refine fF ?_);exact k.out)):g:=j ⟨k⟩
theorem Z40{g:Prop}(k:h')(j:jC h'->g:=by(intro k;(iterate 40 refine fF ?_);exact k.out)):g:=j ⟨k⟩
theorem In{x:Code}{q:γ->VP}(n:Nat)
    (hf:P.funcs[f]?=some fn) (h:∀(w0:World) (S0 M:BS),aU P (Post P fn ⟨w0,S0,M,n,none,[]⟩ φ hs' q) ⟨w0,S0,M,n,none,[]⟩ x hs (args ps)) (hb:fn.body=some x:=by rfl) (hnt:fn.ntmps=n:=by rfl) (hn:Nat.ble ps.length n=true:=by rfl):bu P f ps hs φ hs' q:= .intro n hf hb hnt hn h
theorem F9{x:Code}{q:γ->VP}(n:Nat)
    (hf:P.funcs[f]?=some fn) (h:∀(w0:World) (S0 M:BS),aU P (GC P fn ⟨w0,S0,M,n,none,[]⟩ tf D φ hs' q) ⟨w0,S0,M,n,none,[]⟩ x hs (args ps)) (hb:fn.body=some x:=by rfl) (hnt:fn.ntmps=n:=by rfl) (hn:Nat.ble ps.length n=true:=by rfl):zl P tf f ps hs D φ hs' q:= .intro n hf hb hnt hn h
theorem Cd{x:Operand}{p:Prop}{t:Code}(ht:p->aU P Q c s hs env)(hf:¬p->aU P Q c t hs env)(hx:bA env x (av p):=by exact .z):aU P Q c (.cond x s t) hs env:= .cond hx ht hf
theorem CT{x:Operand}{p:Prop}{t:Code}(hf:¬p->aU P Q c t hs env)(hx:bA env x (av p):=by exact .z)(no:p->False:=by(intro h;first|omega|exact h.elim|exact absurd rfl h)):aU P Q c (.cond x s t) hs env:= .cond hx (λh=>(no h).elim) hf
theorem CF{x:Operand}{p:Prop}{t:Code}(ht:p->aU P Q c s hs env)(hx:bA env x (av p):=by exact .z)(no:¬p->False:=by(intro h;first|omega|exact h trivial|exact h rfl)):aU P Q c (.cond x s t) hs env:= .cond hx ht (λh=>(no h).elim)
variable {a:Prop}
theorem br{g:Prop}(x:a)(j:a->g:=by(intro x;first|exact Post.aC8 rfl rfl x|exact Post.aS rfl () trivial (λ_ _ _ _=>trivial) (.rt rfl) x|exact Post.aS rfl () trivial (λ_ _ _ h=>h) (.rt rfl) x)):g:=j x
variable {b:Prop}
theorem eA{g:Prop}(x:a)(y:b)(j:a->b->g:=by(intro x y;first|exact Post.bh rfl rfl () trivial (λ_ _ _ _=>trivial) rfl (.cons (.rt rfl) x (.cons (.rt rfl) y .nil))|exact Post.bh rfl rfl () trivial (λ_ _ _ h=>h) rfl (.cons (.rt rfl) x (.cons (.rt rfl) y .nil)))):g:=j x y
theorem Rt4{g d e:Prop}(x:a)(y:b)(z:d)(u:e)(j:a->b->d->e->g:=by(intro x y z u;first|exact Post.bh rfl rfl () trivial (λ_ _ _ _=>trivial) rfl (.cons (.rt rfl) x (.cons (.rt rfl) y (.cons (.rt rfl) z (.cons (.rt rfl) u .nil))))|exact Post.bh rfl rfl () trivial (λ_ _ _ h=>h) rfl (.cons (.rt rfl) x (.cons (.rt rfl) y (.cons (.rt rfl) z (.cons (.rt rfl) u .nil)))))):g:=j x y z u
theorem TX{g d:Prop}(x:a)(y:b)(z:d)(j:a->b->d->g:=by(intro x y z;first|exact Post.bh rfl rfl () trivial (λ_ _ _ _=>trivial) rfl (.cons (.rt rfl) x (.cons (.rt rfl) y (.cons (.rt rfl) z .nil)))|exact Post.bh rfl rfl () trivial (λ_ _ _ h=>h) rfl (.cons (.rt rfl) x (.cons (.rt rfl) y (.cons (.rt rfl) z .nil))))):g:=j x y z
end Go.Hl
end
