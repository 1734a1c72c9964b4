/-
  What the statement's proof leans on, several texts in one (packed by a program).
-/
import Derived.Test.YtmacjbfbpjgmnaaGreatDoorRNH
import Derived.Defers
import Derived.Recover
set_option linter.all false
set_option maxRecDepth 1000000
set_option maxHeartbeats 4000000
section
namespace Go.Hl
open Go.RowKit
def kz(tf:TypeId)(e:Int):Value:= .iface tf (.agg #[.int .i64 e])
def vY(tf:TypeId)(ch:List PanicEntry):Prop:=∃e:Int,e≠0∧ch=[{v:=kz tf e,recovered:=false}]
variable {γ:Type}
def Tb(c:Ctx)(tf:TypeId)(D:Prop)(φ:γ→Prop)(hs':γ→List HP)(q:γ→VP)(e:Ending)(w':World):Prop:=
 (∃v S' F' g,e= .returned v∧ir ⟨c.w0,c.S0,c.M,0,none,[]⟩ w' S' F'∧φ g∧cT (hs' g) F' S' w'∧(q g).p S' w' v)∨(D∧∃ch S' F',e= .panicked ch∧vY tf ch∧ir ⟨c.w0,c.S0,c.M,0,none,[]⟩ w' S' F')
def uY(P:Program)(tf:TypeId)(f:FuncId)(ps:List VP)(hs:List HP)(D:Prop)(φ:γ→Prop)(hs':γ→List HP)(q:γ→VP):Prop:=
 ∀(w:World) (S F:BS) (vs:Array Value),(∀k,S k→k<w.heap.size)→(∀k,F k→k<w.heap.size)→(∀k,S k→¬F k)→cT hs F S w→e9 ps S w vs.toList→
  Calls P f vs w fun e w'=>Tb ⟨w,S,F,0,none,[]⟩ tf D φ hs' q e w'
def Cb(P:Program)(fn:Func)(c:Ctx)(tf:TypeId)(D:Prop)(φ:γ→Prop)(hs':γ→List HP)(q:γ→VP):Exit→Act→World→Prop:=
 bodyPost P fn fun e w'=>Tb c tf D φ hs' q e w'
theorem uY.intro{P:Program}{tf:TypeId}{D:Prop}{f:FuncId}{fn:Func}{x:Code}{ps:List VP}{hs:List HP}{γ:Type}{φ:γ→Prop}{hs':γ→List HP}{q:γ→VP}
    (n:Nat) (hf:P.funcs[f]?=some fn) (hb:fn.body=some x) (hnt:fn.ntmps=n) (hn:Nat.ble ps.length n=true)
    (h:∀(w0:World) (S0 M:BS),aJ P (Cb P fn ⟨w0,S0,M,n,none,[]⟩ tf D φ hs' q) ⟨w0,S0,M,n,none,[]⟩ x hs (args ps)):uY P tf f ps hs D φ hs' q:=by
  intro w S F vs hS hF hSF hown hall;have hlen:ps.length=vs.size:=by simpa using hall.1
  have hn':ps.length≤n:=by simpa using hn
  refine calls_of_wp hf hb (wpIn_wide.1 (h w S F _ _ ⟨rfl,?_,S,F,?_,hown,?_⟩))
  · simp;omega
  · exact⟨rfl,rfl,rfl,Nat.le_refl _,fun _ _ _=>rfl,hSF,hS,hF,fun k hk=> .inl hk,fun k hk=> .inl hk,fun _ hk=>hk⟩
  · intro t q' hl
    obtain⟨j,hj,hq⟩:=ld ps 0 t q' hl;have rY:t=j:=by omega
    subst rY;have hjl:t<ps.length:=(List.getElem?_eq_some_iff.1 hq).1;have Hj:t<vs.size:=by omega
    have:(vs++Array.replicate (fn.ntmps-vs.size) undef).getD t undef=vs[t]:=by simp[Array.getElem?_append,Hj]
    rw[this];exact hall.2 t q' _ hq (by simp[Hj])
variable {P:Program} {hs:List HP} {env:Env} {c:Ctx} {fn:Func} {tf:TypeId} {D:Prop} {φ:γ→Prop} {hs':γ→List HP}
theorem bx.jj{q:γ→VP}(h:bx (Post P fn c φ hs' q) .ret c hs env):bx (Cb P fn c tf D φ hs' q) .ret c hs env:=
 fun a w hst=>let ⟨h1,v,h2,h3⟩:=h a w hst;⟨h1,v,h2, .inl h3⟩
theorem bx.oZ{q:γ→VP}(h:bx (Post P fn c φ hs' q) .normal c hs env):bx (Cb P fn c tf D φ hs' q) .normal c hs env:=
 fun a w hst=>let ⟨h1,v,h2,h3⟩:=h a w hst;⟨h1,v,h2, .inl h3⟩
class Cc(tf:TypeId)(D:outParam Prop)(Q:Exit→Act→World→Prop)(c:Ctx):Prop where
 Tc:∀{ch:List PanicEntry} {hs:List HP} {env:Env},D→vY tf ch→bx Q (.panic ch) c hs env
instance {P:Program} {fn:Func} {w0:World} {S0 M:BS} {n:Nat} {ro:Option Nat} {tf:TypeId} {D:Prop} {γ:Type} (φ:γ→Prop) (hs':γ→List HP) (q:γ→VP):Cc tf D (Cb P fn ⟨w0,S0,M,n,ro,[]⟩ tf D φ hs' q) ⟨w0,S0,M,n,ro,[]⟩:=
 ⟨fun{ch hs env} hD hc a w hst=>by
  obtain⟨h1,h2,S,F,h3,h4,h5⟩:=hst;exact⟨h1, .inr ⟨hD,ch,S,F,rfl,hc,⟨h3.os,h3.tape,h3.output,h3.size,h3.kept,h3.cR,h3.bD,h3.bO,h3.own,h3.shr,h3.base⟩⟩⟩⟩
instance {tf:TypeId} {D:Prop} {Q:Exit→Act→World→Prop} {K:Act→World→Prop} {c:Ctx} [h:Cc tf D Q c]:Cc tf D (Exit.then K Q) c:=⟨fun hD hc=>h.Tc hD hc⟩
instance {tf:TypeId} {D:Prop} {Q:Exit→Act→World→Prop} {id:Nat} {c:Ctx} [h:Cc tf D Q c]:Cc tf D (Exit.inBlock id Q) c:=⟨fun hD hc=>h.Tc hD hc⟩
theorem ir.through{w w':World}{S F F1 F2 S' F1':BS}(ax:ir c w S F)(lW:∀k,F1 k→F k∧¬F2 k)(rZ:∀k,F2 k→F k)(h2:ir ⟨w,S,F1,0,none,[]⟩ w' S' F1'):
    ir c w' S' (fun k=>F1' k∨F2 k)∧(∀k,S k→w'.heap[k]?=w.heap[k]?)∧(∀k,F2 k→w'.heap[k]?=w.heap[k]?)∧(∀k,F1' k→¬F2 k):=by
  have hSF:∀k,S k→¬F1 k:=fun k hk hf=>ax.cR k hk (lW k hf).1;have hoS:∀k,S k→w'.heap[k]?=w.heap[k]?:=fun k hk=>h2.kept k (ax.bD k hk) (hSF k hk);have ho2F:∀k,F2 k→¬F1 k:=fun k hk hf=>(lW k hf).2 hk
  have hn:∀k,F1' k→¬F2 k:=fun k hk hf=>by
    rcases h2.own k hk with h|h
    · exact(lW k h).2 hf
    · exact Nat.lt_irrefl _ (Nat.lt_of_lt_of_le (ax.bO k (rZ k hf)) h)
  refine⟨⟨h2.os.trans ax.os,h2.tape.trans ax.tape,h2.output.trans ax.output,Nat.le_trans ax.size h2.size,fun k hk hm=>?_,fun k hk hf=>?_,h2.bD,fun k hk=>?_,fun k hk=>?_,fun k hk=>?_,fun k hk=>h2.base k (ax.base k hk)⟩,hoS,fun k hk=>h2.kept k (ax.bO k (rZ k hk)) (ho2F k hk),hn⟩
  · have hnF:¬F1 k:=fun hf=>(ax.own k (lW k hf).1).elim hm (fun h=>by omega)
    exact(h2.kept k (Nat.lt_of_lt_of_le hk ax.size) hnF).trans (ax.kept k hk hm)
  · rcases hf with hf|hf
    · exact h2.cR k hk hf
    · rcases h2.shr k hk with h|h|h
      · exact ax.cR k h (rZ k hf)
      · exact(lW k h).2 hf
      · exact Nat.lt_irrefl _ (Nat.lt_of_lt_of_le (ax.bO k (rZ k hf)) h)
  · rcases hk with hk|hk
    · exact h2.bO k hk
    · exact Nat.lt_of_lt_of_le (ax.bO k (rZ k hk)) h2.size
  · rcases hk with hk|hk
    · rcases h2.own k hk with h|h
      · exact ax.own k (lW k h).1
      · exact .inr (Nat.le_trans ax.size h)
    · exact ax.own k (rZ k hk)
  · rcases h2.shr k hk with h|h|h
    · exact ax.shr k h
    · exact .inr ((ax.own k (lW k h).1).imp (fun h=>h) (fun h=>h))
    · exact .inr (.inr (Nat.le_trans ax.size h))
def N4(P:Program)(tf:TypeId)(hs rest:List HP)(env:Env)(o:Oper)(D:Prop)(φ:γ→Prop)(hs':γ→List HP)(q:γ→VP):Prop:=
 ∀(c:Ctx) (a:Act) (w:World) (S F:BS),ir c w S F→cT hs F S w→cn env S w a.tmps→
 ∀(K:Act→World→Prop) (Q:Exit→Act→World→Prop),
  (∀g v w' S' F',φ g→ir c w' S' F'→(∀k,S k→S' k)→(∀k,S k→w'.heap[k]?=w.heap[k]?)→cT (hs' g) F' S' w'→(q g).p S' w' v→K (a.put o.dst v) w')→
  (∀ch w' S' F',D→vY tf ch→ir c w' S' F'→(∀k,S k→S' k)→(∀k,S k→w'.heap[k]?=w.heap[k]?)→cT rest F' S' w'→Q (.panic ch) a w')→o.wp P a w K Q
variable {o:Oper}
theorem N4.gV{rest:List HP}{q:γ→VP}(h:N4 P tf hs rest env o D φ hs' q){a:Act}{w:World}{S F:BS}(h3:ir c w S F)(h4:cT hs F S w)(h5:cn env S w a.tmps)(hcall:∃cl,o.op= .call cl):∀cl,o.op≠ .defer cl:=by
 obtain⟨cl,e⟩:=hcall;intro cl' e';rw[e] at e';cases e'
section
variable {P:Program} {tf:TypeId} {ops:Array Oper} {Q:Exit→Act→World→Prop} {c:Ctx} {l:List Oper} {hs:List HP} {env:Env} {ty:TypeId} {pos:String} {after:Array Edge} {dst:Option Tmp}
theorem bG.xd{d:Tmp}{cl:Call}{rest:List HP}{D:Prop}{γ:Type}{φ:γ→Prop}{hs':γ→List HP}{q:γ→VP}(h:N4 P tf hs rest env ⟨some d, .call cl,ty,pos,after,none⟩ D φ hs' q)(hd:Nat.blt d c.n=true)(Lr:∀ch,D→vY tf ch→bx Q (.panic ch) c rest env)
    (k:∀g,φ g→bG P ops Q c l (hs' g) ((d,q g)::env)):bG P ops Q c (⟨some d, .call cl,ty,pos,after,none⟩::l) hs env:=by
  intro a w hst;obtain⟨h1,h2,S,F,h3,h4,h5⟩:=hst;refine wpListIn_plain rfl fun K hK=>Oper.om (h.gV h3 h4 h5 ⟨cl,rfl⟩)<|h c a w S F h3 h4 h5 K Q (fun g v w' S' F' hφ ax hsub hag hown hq=>hK _ _ (k g hφ _ _ ⟨?_,?_,S',F',ax,hown,?_⟩)) (fun ch w' S' F' hD hc ax hsub hag hown=>?_)
  · rw[Act.cU];exact h1
  · rw[Act.fy];exact h2
  · exact(h5.mono hsub hag).put hq (by rw[h2];simpa using hd)
  · exact Lr ch hD hc a w' ⟨h1,h2,S',F',ax,hown,h5.mono hsub hag⟩
theorem bG.x{d:Tmp}{cl:Call}{rest:List HP}{D D':Prop}{γ:Type}{φ:γ→Prop}{hs':γ→List HP}{q:γ→VP}(h:N4 P tf hs rest env ⟨some d, .call cl,ty,pos,after,none⟩ D' φ hs' q)(hd:Nat.blt d c.n=true)[pq:Cc tf D Q c](hD:D'→D)
    (k:∀g,φ g→bG P ops Q c l (hs' g) ((d,q g)::env)):bG P ops Q c (⟨some d, .call cl,ty,pos,after,none⟩::l) hs env:=bG.xd h hd (fun ch hd' hc=>pq.Tc (hD hd') hc) k
theorem qa{D:Prop}{f:FuncId}{xs:List Operand}{ats:Array TypeId}{ps:List VP}{hs0 rest:List HP}{γ:Type}{φ:γ→Prop}{hs':γ→List HP}{q:γ→VP}(hf:uY P tf f ps hs0 D φ hs' q)(hb:iu P f=true)(hx:iN env xs ps)(hp:hs.Perm (hs0++rest)):
    N4 P tf hs rest env ⟨dst, .call ⟨.value (.func f),xs.toArray,ats⟩,ty,pos,after,none⟩ D φ (fun g=>hs' g++rest) q:=by
  intro c a w S F ax hown he K Q hk Lr;obtain⟨F1,F2,lW,rZ,Ey,EP⟩:=cT.append.1 (hown.perm hp);have IZ:∀k,F1 k→k<w.heap.size:=fun k hk=>ax.bO k (lW k hk).1;have hSF:∀k,S k→¬F1 k:=fun k hk hf=>ax.cR k hk (lW k hf).1;have key:∀{w':World} {S' F1':BS},ir ⟨w,S,F1,0,none,[]⟩ w' S' F1'→_:=fun h2=>ax.through lW rZ h2;unfold Oper.wp;rw[oL hb];refine(hf w S F1 _ ax.bD IZ hSF Ey (by simpa using hx S w a he)).mono ?_;rintro e w' (⟨v,S',F1',g,rfl,h2,hφ,lC,hq⟩|⟨hD,ch,S',F1',rfl,hc,h2⟩)
  · obtain⟨k1,k2,k3,k4⟩:=key h2
    exact hk g v w' S' _ hφ k1 h2.base k2 (cT.append.2 ⟨F1',F2,fun k hk=>⟨.inl hk,k4 k hk⟩,fun k hk=> .inr hk,lC,EP.mono (fun _ h=>h) h2.base k3 k2⟩) hq
  · obtain⟨k1,k2,k3,k4⟩:=key h2
    exact Lr ch w' S' _ hD hc k1 h2.base k2 ((cT.append (as:=[])).2 ⟨F1',F2,fun k hk=>⟨.inl hk,k4 k hk⟩,fun k hk=> .inr hk,trivial,EP.mono (fun _ h=>h) h2.base k3 k2⟩)
theorem bG.QJ{x:Operand}{e:Int}(hx:aU env x (af (kz tf e)))(he:e≠0){D:Prop}[pq:Cc tf D Q c](hD:D):bG P ops Q c (⟨dst, .panic x,ty,pos,after,none⟩::l) hs env:=by
 intro a w hst;obtain⟨h1,h2,S,F,h3,h4,h5⟩:=hst;have hv:=hx S w a h5;simp only[af] at hv
 refine wpListIn_plain rfl fun K hK=>Oper.om (by intro cl e';cases e') ?_;unfold Oper.wp
 have hr:(execOp a.eval (⟨dst, .panic x,ty,pos,after,none⟩:Oper)).run P w= .halt (.panic (kz tf e)) w:=by
  have h0:(Instr.panic (kz tf e)).run P w= .halt (.panic (kz tf e)) w:=rfl;simp only[execOp,hv,Sem.run_bind,h0];rfl
 rw[hr];exact pq.Tc (hs:=[]) (env:=env) hD ⟨e,he,rfl⟩ a w ⟨h1,h2,S,F,h3,trivial,h5⟩
end
def Catch(P:Program)(f:FuncId)(p:Value)(ch:List PanicEntry)(hs:List HP){δ:Type}(φ':δ→Prop)(uj:δ→List HP):Prop:=
 ∀(w:World) (S F:BS),(∀k,S k→k<w.heap.size)→(∀k,F k→k<w.heap.size)→(∀k,S k→¬F k)→cT hs F S w→
  CallsD P f #[p] (.panicking ch) w fun e u' w'=>e= .returned (.tuple #[])∧(∃v,u'= .panicking [{v,recovered:=true}])∧∃S' F' g,φ' g∧ir ⟨w,S,F,0,none,[]⟩ w' S' F'∧cT (uj g) F' S' w'
def E4(P:Program)(fn:Func)(c:Ctx)(φ:γ→Prop)(hs':γ→List HP)(q:γ→VP):Exit→Act→World→Prop:=
 bodyPostD P fn fun e w'=>∃v S' F' g,e= .returned v∧ir ⟨c.w0,c.S0,c.M,0,none,[]⟩ w' S' F'∧φ g∧cT (hs' g) F' S' w'∧(q g).p S' w' v
variable {f:FuncId} {ps:List VP}
theorem bk.HG{x:Code}{q:γ→VP}
    (n:Nat) (hf:P.funcs[f]?=some fn) (hb:fn.body=some x) (hnt:fn.ntmps=n) (hn:Nat.ble ps.length n=true)
    (h:∀(w0:World) (S0 M:BS),aJ P (E4 P fn ⟨w0,S0,M,n,none,[]⟩ φ hs' q) ⟨w0,S0,M,n,none,[]⟩ x hs (args ps)):bk P f ps hs φ hs' q:=by
  intro w S F vs hS hF hSF hown hall;have hlen:ps.length=vs.size:=by simpa using hall.1
  have hn':ps.length≤n:=by simpa using hn
  refine calls_of_wp_defers hf hb (wpIn_wide.1 (h w S F _ _ ⟨rfl,?_,S,F,?_,hown,?_⟩))
  · simp;omega
  · exact⟨rfl,rfl,rfl,Nat.le_refl _,fun _ _ _=>rfl,hSF,hS,hF,fun k hk=> .inl hk,fun k hk=> .inl hk,fun _ hk=>hk⟩
  · intro t q' hl
    obtain⟨j,hj,hq⟩:=ld ps 0 t q' hl;have rY:t=j:=by omega
    subst rY;have hjl:t<ps.length:=(List.getElem?_eq_some_iff.1 hq).1;have Hj:t<vs.size:=by omega
    have:(vs++Array.replicate (fn.ntmps-vs.size) undef).getD t undef=vs[t]:=by simp[Array.getElem?_append,Hj]
    rw[this];exact hall.2 t q' _ hq (by simp[Hj])
variable {ops:Array Oper} {Q:Exit→Act→World→Prop}
theorem bG.N5{l:List Oper}{p:Value}{x:Operand}{ats:Array TypeId}{ty:TypeId}{pos:String}{after:Array Edge}
    (hro:c.ro=none) (hx:aU env x (af (.func (.func f) #[] #[p]))) (k:bG P ops Q {c with df:=⟨.fn (.func f) #[p], #[]⟩::c.df} l hs env):
    bG P ops Q c (⟨none, .defer ⟨.value x, #[],ats⟩,ty,pos,after,none⟩::l) hs env:=by
  intro a w hst;obtain⟨h1,h2,S,F,h3,h4,h5⟩:=hst;refine wpListIn_plain rfl fun K hK=>⟨fun _ _=>trivial,?_⟩;have hv:=hx S w a h5;simp only[af] at hv
  have hr:(execOp a.eval (⟨none, .defer ⟨.value x, #[],ats⟩,ty,pos,after,none⟩:Oper)).run P w= .ok (.defer ⟨.fn (.func f) #[p], #[]⟩) w:=by
    simp[execOp,resolve,hv,Deferred.ofValue]
  have hs0:(WF c.ro).round=none:=by rw[hro];rfl
  rw[hs0,Oper.semAt_none,hr,Oper.uponIn_defer];refine hK _ _ ?_;have:=k {a with defers:=⟨.fn (.func f) #[p], #[]⟩::a.defers} w ⟨by simp[h1],h2,S,F,⟨h3.os,h3.tape,h3.output,h3.size,h3.kept,h3.cR,h3.bD,h3.bO,h3.own,h3.shr,h3.base⟩,h4,h5⟩;exact this
theorem bx.Td{c':Ctx}{q:γ→VP}{p:Value}
    (hd:∀w:World,CallsD P f #[p] .returning w fun e u' w'=>e= .returned (.tuple #[])∧u'= .returning∧Below w.heap.size w w') (hc:c'={c with df:=[⟨.fn (.func f) #[p], #[]⟩]})
    (qQ:c.df=[]) (hb:iu P f=true) (h:bx (Post P fn c φ hs' q) .ret c hs env):bx (E4 P fn c φ hs' q) .ret c' hs env:=by
  subst hc;intro a w hst;obtain⟨h1,h2,S,F,h3,h4,h5⟩:=hst
  show Leaves P fn a.tmps _ a.defers .returning w
  have h1':a.defers=[⟨.fn (.func f) #[p], #[]⟩]:=h1;rw[h1'];refine leaves_cons (f:=f) (args:= #[p]) (by simp) (by have h9:=ei hb #[p] w;simpa[invoke] using h9) ?_;refine(hd w).mono ?_;rintro e u' w'' ⟨rfl,rfl,x5⟩;have g:ez w w'' S S:=⟨x5.os,x5.tape,x5.output,x5.size,fun k hk=>x5.block k hk,fun _ h=>h,fun _ h=> .inl h⟩;have h3':ir c w S F:=⟨h3.os,h3.tape,h3.output,h3.size,h3.kept,h3.cR,h3.bD,h3.bO,h3.own,h3.shr,h3.base⟩;have:=h {a with defers:=[]} w'' ⟨qQ.symm,h2,S,F,h3'.grow g,g.x3 h3.bD h3.bO h4,g.env h3.bD h5⟩;obtain⟨_,v,hr,hR⟩:=this;exact⟨v,hr,hR⟩
theorem bx.Te{c':Ctx}{δ:Type}{q:γ→VP}{p:Value}{ch:List PanicEntry}{φ':δ→Prop}{uj:δ→List HP}
    (hd:Catch P f p ch hs φ' uj) (hc:c'={c with df:=[⟨.fn (.func f) #[p], #[]⟩]}) (qQ:c.df=[]) (hb:iu P f=true)
    (h:∀g,φ' g→bx (Post P fn c φ hs' q) .ret c (uj g) env):bx (E4 P fn c φ hs' q) (.panic ch) c' hs env:=by
  subst hc;intro a w hst;obtain⟨h1,h2,S,F,h3,h4,h5⟩:=hst
  show Leaves P fn a.tmps _ a.defers (.panicking ch) w
  have h1':a.defers=[⟨.fn (.func f) #[p], #[]⟩]:=h1;rw[h1'];refine leaves_cons (f:=f) (args:= #[p]) (by simp) (by have h9:=ei hb #[p] w;simpa[invoke] using h9) ?_;refine(hd w S F h3.bD h3.bO h3.cR h4).mono ?_;rintro e u' w'' ⟨rfl,⟨v,rfl⟩,S',F',g,hφ,hs,ho⟩;have h3':ir c w S F:=⟨h3.os,h3.tape,h3.output,h3.size,h3.kept,h3.cR,h3.bD,h3.bO,h3.own,h3.shr,h3.base⟩;obtain⟨k1,k2,k3,k4⟩:=h3'.through (F2:=fun _=>False) (fun k hk=>⟨hk,id⟩) (fun k hk=>hk.elim) hs;have:=h g hφ {a with defers:=[]} w'' ⟨qQ.symm,h2,S',_,k1,(cT.append (as:=[]).2 ⟨fun _=>False,F',fun k hk=>hk.elim,fun k hk=> .inl hk,trivial,ho⟩),h5.mono hs.base k2⟩;obtain⟨_,v,hr,hR⟩:=this;exact⟨v,hr,hR⟩
abbrev XC:VP:=af undef
section
variable {P:Program} {tf:TypeId} {ops:Array Oper} {Q:Exit→Act→World→Prop} {c:Ctx} {l:List Oper} {hs:List HP} {env:Env} {ty:TypeId} {pos:String} {after:Array Edge} {dst:Option Tmp} {gd:Option (Nat×Bool)}
theorem vZ{t j:Nat}{p:Prop}{a:Act}{w:World}{S:BS}(hl:look env t=some (ak p))(hj:(ops[j]?).bind (·.dst)=some t)(ht:Nat.blt t c.n=true)(h2:a.tmps.size=c.n)(h5:cn env S w a.tmps):∃b,yielded ops a.tmps j=some b∧(b=true↔p):=by
 have ht':t<a.tmps.size:=by rw[h2];simpa using ht
 have h6:a.tmps[t]?=some (a.tmps.getD t undef):=by simp[ht']
 obtain⟨b,hb,BF⟩:=h5 t _ hl;exact⟨b,by unfold yielded;rw[hj];simp only[Option.bind_some,h6,hb],BF⟩
theorem bG.gx{d:Tmp}{cl:Call}{j:Nat}{want:Bool}{t:Tmp}{p:Prop}{rest:List HP}{D D':Prop}{γ:Type}{φ:γ→Prop}{hs':γ→List HP}{q:γ→VP}(hl:look env t=some (ak p))(hj:(ops[j]?).bind (·.dst)=some t)(ht:Nat.blt t c.n=true)(hw:if want=true then p else ¬p)
    (h:N4 P tf hs rest env ⟨some d, .call cl,ty,pos,after,some (j,want)⟩ D' φ hs' q) (hd:Nat.blt d c.n=true) [pq:Cc tf D Q c] (hD:D'→D)
    (k:∀g,φ g→bG P ops Q c l (hs' g) ((d,q g)::env)):bG P ops Q c (⟨some d, .call cl,ty,pos,after,some (j,want)⟩::l) hs env:=by
  intro a w hst;obtain⟨h1,h2,S,F,h3,h4,h5⟩:=hst;refine wpListIn_step fun K hK=>?_;obtain⟨b,hy,hb⟩:=vZ (ops:=ops) hl hj ht h2 h5
  have Tf:b=want:=by
    cases want
    · simp only[Bool.false_eq_true,if_false] at hw
      cases b with
      |false=>rfl
      |true=>exact absurd (hb.1 rfl) hw
    · simp only[if_true] at hw;exact hb.2 hw
  rw[if_pos (by simp[Region.wanted,hy,Tf])];refine Oper.om (h.gV h3 h4 h5 ⟨cl,rfl⟩)<|h c a w S F h3 h4 h5 K Q (fun g v w' S' F' hφ ax hsub hag hown hq=>hK _ _ (k g hφ _ _ ⟨?_,?_,S',F',ax,hown,?_⟩)) (fun ch w' S' F' hD' hc ax hsub hag hown=>?_)
  · rw[Act.cU];exact h1
  · rw[Act.fy];exact h2
  · exact(h5.mono hsub hag).put hq (by rw[h2];simpa using hd)
  · exact pq.Tc (hD hD') hc a w' ⟨h1,h2,S',F',ax,hown,h5.mono hsub hag⟩
theorem bG.Ls{o:Oper}{d:Tmp}{j:Nat}{want:Bool}{t:Tmp}{p:Prop}(hl:look env t=some (ak p))(rX:o.guard=some (j,want))(l6:o.dst=some d)(hj:(ops[j]?).bind (·.dst)=some t)(ht:Nat.blt t c.n=true)(hw:if want=true then ¬p else p)(hd:Nat.blt d c.n=true)
    (k:bG P ops Q c l hs ((d,XC)::env)):bG P ops Q c (o::l) hs env:=by
  intro a w hst;obtain⟨h1,h2,S,F,h3,h4,h5⟩:=hst;refine wpListIn_step fun K hK=>?_;obtain⟨b,hy,hb⟩:=vZ (ops:=ops) hl hj ht h2 h5
  have Tf:¬b=want:=by
    cases want
    · simp only[Bool.false_eq_true,if_false] at hw;rw[hb.2 hw];simp
    · simp only[if_true] at hw;intro e;exact hw (hb.1 e)
  rw[if_neg (by simp[Region.wanted,rX,hy,Tf])];refine⟨fun _ _=>trivial,hK _ _ (k _ _ ⟨?_,?_,S,F,h3,h4,?_⟩)⟩
  · rw[Act.cU];exact h1
  · rw[Act.fy];exact h2
  · rw[l6];exact h5.put (by simp only[af]) (by rw[h2];simpa using hd)
theorem Al{x y z:Operand}{p:Prop}{q:VP}(hx:aU env x (ak p))(hp:p)(hy:aU env y q):aT P hs env ⟨dst, .pick x y z,ty,pos,after,gd⟩ q:=
 aT.aD fun ρ w S F _ he=>by
  obtain⟨b,hb,BF⟩:=he.o _ _ hx;have h2:=he.o _ _ hy;have:=BF.2 hp;subst this
  exact⟨_,by simp[execOp,hb,go_sem],h2⟩
theorem HH{x y z:Operand}{p:Prop}{q:VP}(hx:aU env x (ak p))(hp:¬p)(hz:aU env z q):aT P hs env ⟨dst, .pick x y z,ty,pos,after,gd⟩ q:=
 aT.aD fun ρ w S F _ he=>by
  obtain⟨b,hb,BF⟩:=he.o _ _ hx;have h2:=he.o _ _ hz;cases b with
  |true=>exact absurd (BF.1 rfl) hp
  |false=>exact⟨_,by simp[execOp,hb,go_sem],h2⟩
theorem v5{D:Prop}{f:FuncId}{xs:List Operand}{ats:Array TypeId}{ps:List VP}{hs0 rest:List HP}{γ:Type}{φ:γ→Prop}{hs':γ→List HP}{q:γ→VP}(hf:uY P tf f ps hs0 D φ hs' q)(hb:iu P f=true)(hx:iN env xs ps)(hp:hs.Perm (hs0++rest)):
    N4 P tf hs rest env ⟨dst, .call ⟨.value (.func f),xs.toArray,ats⟩,ty,pos,after,gd⟩ D φ (fun g=>hs' g++rest) q:=
  fun c a w S F ax hown he K Q hk Lr=>qa (dst:=dst) (ty:=ty) (pos:=pos) (after:=after) hf hb hx hp c a w S F ax hown he K Q hk Lr
theorem Lt{e:Int}{T:TypeId}{x:Operand}{fs:Array Field}(hT:P.underlying T=some (.struct fs))(hx:aU env x (aK [aa .i64 e])):aT P hs env ⟨dst, .makeInterface T x,ty,pos,after,gd⟩ (af (kz T e)):=
 aT.aD fun ρ w S F _ he=>by
  obtain⟨arr,hv,hn,hc⟩:=he.o _ _ hx;obtain⟨u,hu,hq⟩:=hc 0 _ rfl;simp only[af] at hq;subst hq
  have:arr= #[.int .i64 e]:=by
   refine Array.ext (by simpa using hn) fun i h1 h2=>?_;have:i=0:=by simp at h2;omega
   subst this;have h3:arr[0]?=some arr[0]:=by simp at hn;simp[hn]
   rw[h3] at hu;simpa using hu
  subst this;exact⟨kz T e,by simp[execOp,Instr.makeInterface,hv,run_underlying hT,kz],rfl⟩
theorem nL{α:Type}{g:SB}{n i h len:Nat}{k:IntKind}{ii:Int}{enc:α→List VP}{xs:List α}{T E:TypeId}{x y:Operand}(hT:P.underlying T=some (.slice E))(hn:P.cellsOf E=n)(h0:Nat.blt 0 n=true)(hx:aU env x (af (bA g len)))(hy:aU env y (aa k ii))(S3:ii=(h:Int))
    (hi:hs[i]?=some (aI g n enc xs)) (hl:len=xs.length) (hh:h≤len):aT P hs env ⟨dst, .slice T x none (some y) none,ty,pos,after,gd⟩ (af (bA g h)):=
  aT.aD fun ρ w S F ho he=>by
    have hv:=he.o _ _ hx;have h2:=he.o _ _ hy;simp only[af,bA] at hv h2
    subst S3;have hs:=run_sizeOf (T:=E) hn h0 w;obtain⟨F1,_,hp⟩:=ho.get hi;cases g with
    | none=>
      have hp':xs=[]:=hp;have PG:h=0:=by rw[hp'] at hl;simp at hl;omega
      subst PG;refine⟨.slice none 0 0,?_,rfl⟩;simp[execOp,hv,h2,Instr.sliceAt,Instr.slice,Instr.sliceBounds,Instr.sliceBound,asIntOf,run_underlying hT,hs]
    | some p=>
      obtain⟨b,cap⟩:=p;have hcap:h≤cap:=Nat.le_trans (by omega) hp.2.1;refine⟨.slice (some ⟨b,0,none⟩) h cap,?_,rfl⟩;simp[execOp,hv,h2,Instr.sliceAt,Instr.slice,Instr.sliceBounds,Instr.sliceBound,asIntOf,run_underlying hT,hs,hcap,Addr.add]
theorem HI{α:Type}{g:SB}{n i len:Nat}{enc:α→List VP}{xs:List α}{T E:TypeId}{x:Operand}{ats:Array TypeId}(ug:ats[0]?=some T)(hT:P.underlying T=some (.slice E))(hx:aU env x (af (bA g len)))(hi:hs[i]?=some (aI g n enc xs))(hl:len=xs.length):
    aT P hs env ⟨dst, .call ⟨.builtin .len, #[x],ats⟩,ty,pos,after,gd⟩ (aa .i64 (len:Int)):=
  aT.aD fun ρ w S F ho he=>by
    have hv:=he.o _ _ hx;simp only[af] at hv
    refine⟨.int .i64 (len:Int),?_,rfl⟩;obtain⟨F1,_,hp⟩:=ho.get hi;cases g with
    | none=>
      have hp':xs=[]:=hp;subst hp';subst hl;simp[execOp,resolve,invoke,builtin,Builtin.len_,ug,hv,bA,run_underlying hT,goInt]
    |some p=>simp[execOp,resolve,invoke,builtin,Builtin.len_,ug,hv,bA,run_underlying hT,goInt]
end
variable {α:Type} {n:Nat}
theorem aA.Lu{g:SB}{enc:α→List VP}{xs:List α}(ys:List α)(h:ys<+:xs){r:List HP}:aA (aI g n enc xs::r) (aI g n enc ys::r):=fun F S w ⟨F1,F2,f1,f2,hp,hr⟩=>by
 refine⟨F1,F2,f1,f2,?_,hr⟩;obtain⟨t,rfl⟩:=h;cases g with
 |none=>exact(List.append_eq_nil_iff.1 (show ys++t=[] from hp)).1
 |some p=>
  obtain⟨h1,h2,h3,arr,T,h4,h5,h6⟩:=hp;simp only[List.length_append] at h2 h3;refine⟨h1,by omega,by omega,arr,T,h4,h5,fun j q hj=>h6 j q ?_⟩;rw[List.flatMap_append,List.getElem?_append_left ((List.getElem?_eq_some_iff.1 hj).1)];exact hj
theorem Ce(B:List α)(x y:α):(B++[x]).set B.length y=B++[y]:=by simp
theorem jZ(B:List α)(x:α):(B++[x])[B.length]?=some x:=by simp
theorem aA.of_eq{a b:List HP}(h:a=b):aA a b:=h▸aA.refl a
variable {s:Code}
theorem aJ.vm{g:SB}{enc:α→List VP}{xs:List α}(i:Nat)(hi:hs[i]?=some (aI g n enc xs))
    (h:xs.length≤281474976710656→aJ P Q c s hs env):aJ P Q c s hs env:=by
  intro a w hst;obtain⟨h1,h2,S,F,h3,h4,h5⟩:=hst;obtain⟨F1,_,hp⟩:=h4.get hi;refine h ?_ a w ⟨h1,h2,S,F,h3,h4,h5⟩;cases g with
  |none=>have h9:xs=[]:=hp;rw[h9];simp
  |some p=>exact hp.2.2.1
theorem Post.sr{q:γ→VP}(hr:fn.results= #[])(g:γ)(hφ:φ g)(hh:∀F S w,cT hs F S w→cT (hs' g) F S w)(hq:q g=aS [])(hdf:c.df=[]:=by rfl):bx (Post P fn c φ hs' q) .ret c hs env:=
 Post.bY (rs:=[]) (qs:=[]) (by rw[hr]) rfl g hφ hh hq .nil hdf
theorem Post.bT{q:γ→VP}(hr:fn.results= #[])(g:γ)(hφ:φ g)(hh:∀F S w,cT hs F S w→cT (hs' g) F S w)(hq:q g=aS [])(hdf:c.df=[]:=by rfl):bx (Post P fn c φ hs' q) .normal c hs env:=
 fun a w hst=>Post.sr hr g hφ hh hq hdf a w hst
def Lv(P:Program)(T:TypeId)(i:Nat):Option (TypeId×Nat):=match P.underlying T with|some (.struct fs)=>(fs[i]?).map fun f=>(f.type,f.offset)|_=>none
variable {q:VP}
theorem v7{dst:Option Tmp}{ty:TypeId}{pos:String}{after:Array Edge}{gd:Option (Nat×Bool)}{T E:TypeId}{i off:Nat}{x:Operand}{cs:List VP}(hT:Lv P T i=some (E,off))(hE:jc P E=some false)(hx:aU env x (aK cs))(hq:cs[off]?=some q):
    aT P hs env ⟨dst, .field T x i,ty,pos,after,gd⟩ q:=
  aT.aD fun ρ w S F _ he=>by
    obtain⟨arr,hv,hn,hc⟩:=he.o _ _ hx;obtain⟨u,hu,huq⟩:=hc off q hq;unfold Lv at hT
    split at hT
    · rename_i fs N6
      obtain⟨f,hf,KQ⟩:=Option.map_eq_some_iff.1 hT;simp only[Prod.mk.injEq] at KQ;obtain⟨rfl,rfl⟩:=KQ;have h1:=dz hE w;refine⟨u,?_,huq⟩;simp[execOp,Instr.field,run_underlying N6,hf,hv,asAgg,part,h1,hu]
    · cases hT
class FA(P:Program)(T:TypeId)(b:outParam Bool):Prop where
 out:jc P T=some b:=by kernel_rfl
class FC(P:Program)(T:TypeId)(n:outParam Nat):Prop where
 out:P.cellsOf T=n:=by kernel_rfl
class FU(P:Program)(T:TypeId)(u:outParam TypeDesc):Prop where
 out:P.underlying T=some u:=by kernel_rfl
class FF(P:Program)(T:TypeId)(f:Nat)(k:outParam Nat):Prop where
 out:vF P T f=some k:=by kernel_rfl
class FZ(P:Program)(T:TypeId)(z:outParam (List Value)):Prop where
 out:jd P T=some z:=by kernel_rfl
class FP(P:Program)(T:TypeId)(l:outParam (List (Nat×Nat))):Prop where
 out:Ac P T=some l:=by kernel_rfl
class FY(P:Program)(T:TypeId)(n:outParam Nat):Prop where
 out:P.bytesOf T=n:=by kernel_rfl
class FB(P:Program)(f:FuncId):Prop where
 out:iu P f=true:=by kernel_rfl
class FR(P:Program)(T:TypeId)(x:outParam (Nat×Nat)):Prop where
 out:Qt P T=some x:=by kernel_rfl
class FM(P:Program):Prop where
 out:P.follows .mixedOrders=true:=by kernel_rfl
def QK(a b:VP):Prop:=ag a b
theorem QK.id:QK q q:=ag.refl q
theorem QK.when{c:Prop}(h:c):QK (dV c q) q:=fun _ _ _ k=>k.1 h
theorem QK.under{c p:Prop}(h:c):QK (dV (c∧p) q) (dV p q):=fun _ _ _ k=>⟨fun hp=>k.1 ⟨h,hp⟩,fun hp=>k.2 fun h'=>hp h'.2⟩
theorem aU.via{t:Nat}{a:VP}(hl:look env t=some a)(h:QK a q):aU env (.tmp t) q:=(aU.t hl).le h
theorem aU.z {x:Operand} (h:aU env x q:=by first
 |((with_reducible apply aU.via);exact rfl;first|with_reducible exact .when (by assumption)|with_reducible exact .when (And.left (by assumption))|with_reducible exact .id|with_reducible exact .under (by assumption)|exact .id|exact .when (by assumption)|exact .when (And.left (by assumption)))
 |with_reducible exact .ct
 |with_reducible exact .cf
 |with_reducible exact .c _
 |exact .c _
 |exact .g _):aU env x q:=h
theorem iN.z{env:Env}{xs:List Operand}{qs:List VP}(h:iN env xs qs:=by((repeat (refine iN.cons .z ?_));exact .nil)):iN env xs qs:=h
theorem jB.one{x:Operand}{k:Nat}{ps:List (Nat×Operand)}{cs:List (Nat×List VP)}{c:List VP}(h:aU env x q)(hp:Hs q c)(t:jB env ps cs):jB env ((k,x)::ps) ((k,c)::cs):= .cons h t
theorem jB.z{env:Env}{ps:List (Nat×Operand)}{cs:List (Nat×List VP)}(h:jB env ps cs:=by((repeat (apply jB.one;exact .z;exact inferInstance));exact .nil)):jB env ps cs:=h
theorem bW {k:IntKind} {n:Int} (h:fits k n:=by first
 |(with_reducible apply cG)<;>omega
 |(with_reducible apply vD)<;>omega
 |(with_reducible apply BO)<;>omega
 |(with_reducible apply Ho)<;>omega):fits k n:=h
section
variable {P:Program} {hs:List HP} {env:Env} {q:VP} {dst:Option Tmp} {ty T E:TypeId} {pos:String} {after:Array Edge} {gd:Option (Nat×Bool)} {x y:Operand}
theorem QL(hx:aU env x q)(hf:Flat q):aT P hs env ⟨dst, .box T x,ty,pos,after,gd⟩ (bH [q]):=SP hx
theorem QM{α:Type}{n:Nat}{enc:α→List VP}{xs:List α}(hT:P.underlying T=some (.slice E))(hx:aU env x (an n enc xs)):
    aT P hs env ⟨dst, .call ⟨.builtin .len, #[x], #[T]⟩,ty,pos,after,gd⟩ (aa .i64 (xs.length:Int)):=Hp rfl hT hx
theorem N7{l:List UInt8}(hT:P.underlying T=some .string)(hx:aU env x (cW l)):
    aT P hs env ⟨dst, .call ⟨.builtin .len, #[x], #[T]⟩,ty,pos,after,gd⟩ (aa .i64 (l.length:Int)):=Qp rfl hT hx
theorem E5{α:Type}{g:SB}{n i len:Nat}{enc:α→List VP}{xs:List α}(hT:P.underlying T=some (.slice E))(hx:aU env x (af (bA g len)))(hi:hs[i]?=some (aI g n enc xs))(hl:len=xs.length):
    aT P hs env ⟨dst, .call ⟨.builtin .len, #[x], #[T]⟩,ty,pos,after,gd⟩ (aa .i64 (len:Int)):=HI rfl hT hx hi hl
end
section
variable {P:Program} {hs:List HP} {env:Env} {q:VP} {dst:Option Tmp} {ty T T2:TypeId} {pos:String} {after:Array Edge} {gd:Option (Nat×Bool)} {x y:Operand} {b:BinOp} {f:Builtin} {as:Array Operand} {ats:Array TypeId}
theorem XD(h:aT P hs env ⟨dst, .load T x,ty,pos,after,gd⟩ q):aT P hs env ⟨dst, .load T x,ty,pos,after,gd⟩ q:=h
theorem Tg(h:aT P hs env ⟨dst, .binOp b T x y T2,ty,pos,after,gd⟩ q):aT P hs env ⟨dst, .binOp b T x y T2,ty,pos,after,gd⟩ q:=h
theorem QN(h:aT P hs env ⟨dst, .call ⟨.builtin f,as,ats⟩,ty,pos,after,gd⟩ q):aT P hs env ⟨dst, .call ⟨.builtin f,as,ats⟩,ty,pos,after,gd⟩ q:=h
end
theorem aT.z {P:Program} {hs:List HP} {env:Env} {o:Oper} {q:VP} (h:aT P hs env o q:=by first
 |(with_reducible apply eK);exact .z
 |(with_reducible apply dK);exact .z
 |(with_reducible apply XD);first
  |(with_reducible apply oK);exact FA.out;exact .z
  |(with_reducible apply pY);exact FA.out;exact FC.out;rfl;exact .z;rfl
  |(with_reducible apply ff (i:=0));exact FA.out;exact .z;rfl;rfl
  |(with_reducible apply ff (i:=1));exact FA.out;exact .z;rfl;rfl
  |(with_reducible apply ff (i:=2));exact FA.out;exact .z;rfl;rfl
  |(with_reducible apply ff (i:=3));exact FA.out;exact .z;rfl;rfl
  |(with_reducible apply mZ (i:=0));exact FA.out;exact FC.out;rfl;exact .z;rfl;rfl
  |(with_reducible apply mZ (i:=1));exact FA.out;exact FC.out;rfl;exact .z;rfl;rfl
  |(with_reducible apply mZ (i:=2));exact FA.out;exact FC.out;rfl;exact .z;rfl;rfl
  |(with_reducible apply mZ (i:=3));exact FA.out;exact FC.out;rfl;exact .z;rfl;rfl
 |(with_reducible apply NP);exact FF.out;exact .z
 |(with_reducible apply BT);exact FF.out;exact .z
 |(with_reducible apply K2);exact .z
 |(with_reducible apply IQ);exact .z
 |(with_reducible apply Tg);first
  |(with_reducible apply SL);exact .z;exact .z
  |(with_reducible apply SM);exact .z;exact .z
  |(with_reducible apply SH);exact .z;exact .z
  |(with_reducible apply SK);exact .z;exact .z
  |(with_reducible apply SJ);exact .z;exact .z
  |(with_reducible apply SI);exact .z;exact .z
  |(with_reducible apply gf);exact .z;exact .z;exact bW
  |(with_reducible apply gj);exact .z;exact .z;exact bW
  |(with_reducible apply vE);exact .z;exact .z;exact bW
  |(with_reducible apply Qq);exact .z;exact .z
  |(with_reducible apply K6);exact .z;exact .z
  |(with_reducible apply Qn);exact FU.out;exact .z;exact .z
  |(with_reducible apply K3);exact FU.out;exact .z
  |(with_reducible apply K4);exact FU.out;exact .z
  |(with_reducible apply BQ);exact FU.out;exact .z
  |(with_reducible apply BR);exact FU.out;exact .z
 |(with_reducible apply SO);exact .z;exact .z
 |(with_reducible apply Xh);exact .z;exact .z
 |(with_reducible apply SN);exact .z
 |(with_reducible apply dA);exact .z;rfl
 |(with_reducible apply az);exact FP.out;exact FZ.out;exact .z;rfl
 |(with_reducible apply K5);exact .z
 |(with_reducible apply QL);exact .z;exact inferInstance
 |(with_reducible apply gW);exact FU.out;exact FU.out;exact .z;exact bW
 |(with_reducible apply EI);exact FU.out;exact FU.out;exact FU.out;exact .z
 |(with_reducible apply QN);first
  |(with_reducible apply QM);exact FU.out;exact .z
  |(with_reducible apply N7);exact FU.out;exact .z
  |(with_reducible apply K7);exact .z;exact .z
  |(with_reducible apply E5 (i:=0));exact FU.out;exact .z;rfl;rfl
  |(with_reducible apply E5 (i:=1));exact FU.out;exact .z;rfl;rfl
  |(with_reducible apply E5 (i:=2));exact FU.out;exact .z;rfl;rfl):aT P hs env o q:=h
section
variable {P:Program} {hs:List HP} {env:Env} {q:VP} {dst:Option Tmp} {ty T E:TypeId} {pos:String} {after:Array Edge} {gd:Option (Nat×Bool)} {x y:Operand}
theorem cA{f:FuncId}{xs:List Operand}{ats:Array TypeId}{ps:List VP}[hb:FB P f](hx:iN env xs ps:=by exact .z)(h:cw P f ps q):
    aT P hs env ⟨dst, .call ⟨.value (.func f),xs.toArray,ats⟩,ty,pos,after,gd⟩ q:=bg h hb.out hx
theorem cD(i:Nat){vh:HP}[dv:QI vh]{f:FuncId}{xs:List Operand}{ats:Array TypeId}{ps:List VP}[hb:FB P f](hx:iN env xs ps:=by exact .z)(hi:hs[i]?=some vh:=by rfl)(h:bk P f ps [vh] (γ:=Unit) (fun _=>True) (fun _=>[]) (fun _=>q)):
    aT P hs env ⟨dst, .call ⟨.value (.func f),xs.toArray,ats⟩,ty,pos,after,gd⟩ q:=y9 h hb.out hx hi
theorem cV{A:Type}{ok:A→Prop}{arg:A→List VP}{res:A→VP}{xs:List Operand}{ats:Array TypeId}(a:A)(hx:aU env x (mM P ok arg res):=by exact .z)(hxs:iN env xs (arg a):=by exact .z)(h:ok a:=by trivial):
    aT P hs env ⟨dst, .call ⟨.value x,xs.toArray,ats⟩,ty,pos,after,gd⟩ (res a):=NQ a hx h hxs
theorem cI{α:Type}{n:Nat}{enc:α→List VP}{xs:List α}{k:IntKind}{i:Int}{e:α}[hT:FU P T (.slice E)][hE:FC P E n](j:Nat)(hx:aU env x (an n enc xs):=by exact .z)(hy:aU env y (aa k i):=by exact .z)(h0:Nat.blt 0 n=true:=by rfl)(h:xs[j]?=some e:=by assumption)(hi:i=(j:Int):=by first|rfl|omega):
    aT P hs env ⟨dst, .indexAddr T x y,ty,pos,after,gd⟩ (bH (enc e)):=dL hT.out hE.out h0 hx hy hi h
theorem cB{α:Type}{n len:Nat}(enc:α→List VP)(ys:List α){ps:List (Nat×Operand)}{pcs:List (Nat×List VP)}{zs:List Value}{cs:List VP}[oP:iy n enc][hT:FU P T (.slice E)][hn:FC P E n][hz:FZ P E zs](hp:jB env ps pcs:=by exact .z)(h0:Nat.blt 0 n=true:=by rfl)
    (hzl:zs.length=n:=by rfl) (EG:Nat.ble (len*n) 16777216=true:=by rfl) (hf:oN (fun i=>some (i*n,n)) (zeroV zs (len*n)) pcs=some cs:=by rfl) (hcs:cs=ys.flatMap enc:=by rfl) (hl:ys.length=len:=by rfl) (uj:Nat.ble len 16777216=true:=by rfl):
    aT P hs env ⟨dst, .buildSlice T len ps.toArray,ty,pos,after,gd⟩ (an n enc ys):=bV ys hT.out hn.out h0 hz.out hzl hp EG hf hcs hl uj
end
section
variable {P:Program} {hs:List HP} {env:Env} {dst:Option Tmp} {ty T E tf:TypeId} {pos:String} {after:Array Edge} {gd:Option (Nat×Bool)} {x y:Operand} {D:Prop}
theorem cE{f:FuncId}{xs:List Operand}{ats:Array TypeId}{ps:List VP}{hs0 rest:List HP}{γ:Type}{φ:γ→Prop}{hs':γ→List HP}{q:γ→VP}[hb:FB P f](hx:iN env xs ps:=by exact .z)(hp:hs=hs0++rest:=by rfl)(h:bk P f ps hs0 φ hs' q):
    fN P hs env ⟨dst, .call ⟨.value (.func f),xs.toArray,ats⟩,ty,pos,after,gd⟩ φ (fun g=>hs' g++rest) q:=kM h hb.out hx (.of_eq hp)
theorem fU{f:FuncId}{xs:List Operand}{ats:Array TypeId}{ps:List VP}{hs0:List HP}{γ:Type}{φ:γ→Prop}{hs':γ→List HP}{q:γ→VP}[hb:FB P f](rest:List HP)(ix:List Nat)(hx:iN env xs ps:=by exact .z)(h1:ix.filterMap (fun i=>hs[i]?)=hs0++rest:=by rfl)(h2:uo (List.range hs.length) ix=true:=by rfl)(h:bk P f ps hs0 φ hs' q):
    fN P hs env ⟨dst, .call ⟨.value (.func f),xs.toArray,ats⟩,ty,pos,after,gd⟩ φ (fun g=>hs' g++rest) q:=kM h hb.out hx (Perm.idx ix h1 h2)
theorem cX{f:FuncId}{xs:List Operand}{ats:Array TypeId}{ps:List VP}{hs0 rest:List HP}{γ:Type}{φ:γ→Prop}{hs':γ→List HP}{q:γ→VP}[hb:FB P f](hx:iN env xs ps:=by exact .z)(hp:hs=hs0++rest:=by rfl)(h:uY P tf f ps hs0 D φ hs' q):
    N4 P tf hs rest env ⟨dst, .call ⟨.value (.func f),xs.toArray,ats⟩,ty,pos,after,none⟩ D φ (fun g=>hs' g++rest) q:=qa h hb.out hx (.of_eq hp)
theorem Jb{f:FuncId}{xs:List Operand}{ats:Array TypeId}{ps:List VP}{hs0:List HP}{γ:Type}{φ:γ→Prop}{hs':γ→List HP}{q:γ→VP}[hb:FB P f](rest:List HP)(ix:List Nat)(hx:iN env xs ps:=by exact .z)(h1:ix.filterMap (fun i=>hs[i]?)=hs0++rest:=by rfl)(h2:uo (List.range hs.length) ix=true:=by rfl)(h:uY P tf f ps hs0 D φ hs' q):
    N4 P tf hs rest env ⟨dst, .call ⟨.value (.func f),xs.toArray,ats⟩,ty,pos,after,none⟩ D φ (fun g=>hs' g++rest) q:=qa h hb.out hx (Perm.idx ix h1 h2)
end
variable {j:Nat} {t:Tmp}
theorem bB.kT{p:Prop}(rX:o.guard=some (j,true))(hj:(ops[j]?).bind (·.dst)=some t)(ht:Nat.blt t n=true)(hl:look env t=some (ak p))(h:p→aT P hs env o q):bB P ops n hs env o (dV p q):= .gT hl rX hj ht h
theorem bB.kF{p:Prop}(rX:o.guard=some (j,false))(hj:(ops[j]?).bind (·.dst)=some t)(ht:Nat.blt t n=true)(hl:look env t=some (ak p))(h:¬p→aT P hs env o q):bB P ops n hs env o (dV (¬p) q):= .gF hl rX hj ht h
theorem bB.lT{c p:Prop}(rX:o.guard=some (j,true))(hj:(ops[j]?).bind (·.dst)=some t)(ht:Nat.blt t n=true)(hl:look env t=some (dV c (ak p)))(h:c∧p→aT P hs env o q):bB P ops n hs env o (dV (c∧p) q):= .hT hl rX hj ht h
theorem bB.lF{c p:Prop}(rX:o.guard=some (j,false))(hj:(ops[j]?).bind (·.dst)=some t)(ht:Nat.blt t n=true)(hl:look env t=some (dV c (ak p)))(h:c∧¬p→aT P hs env o q):bB P ops n hs env o (dV (c∧¬p) q):= .hF hl rX hj ht h
theorem bB.z {P:Program} {ops:Array Oper} {n:Nat} {hs:List HP} {env:Env} {o:Oper} {q:VP} (h:bB P ops n hs env o q:=by first
 |(with_reducible apply bB.kT);rfl;rfl;rfl;rfl;intro hg;exact .z
 |(with_reducible apply bB.kF);rfl;rfl;rfl;rfl;intro hg;exact .z
 |(with_reducible apply bB.lT);rfl;rfl;rfl;rfl;intro hg;exact .z
 |(with_reducible apply bB.lF);rfl;rfl;rfl;rfl;intro hg;exact .z):bB P ops n hs env o q:=h
section
variable {P:Program} {ops:Array Oper} {Q:Exit→Act→World→Prop} {c:Ctx} {l:List Oper} {hs:List HP} {env:Env} {q:VP} {ty T E:TypeId} {pos:String} {after:Array Edge} {x y:Operand}
theorem bG.XE(i:Nat){b off:Nat}{cs:List VP}(hn:P.cellsOf T=1)(hx:aU env x (ai b off))(hy:aU env y q)(hf:Flat q)(hi:hs[i]?=some (aF b cs))(hl:Nat.blt off cs.length=true)
    (k:bG P ops Q c l (hs.set i (aF b (cs.set off q))) env):bG P ops Q c (⟨none, .store T x y,ty,pos,after,none⟩::l) hs env:= .s (je hn hx hy hi hl) k
theorem bG.E6(i:Nat){b off n:Nat}{cs new:List VP}(hn:P.cellsOf T=n)(h0:Nat.blt 0 n=true)(hx:aU env x (ai b off))(hy:aU env y (aK new))(hfl:bq new)(yZ:Nat.beq new.length n=true)(hi:hs[i]?=some (aF b cs))(hl:Nat.ble (off+n) cs.length=true)
    (k:bG P ops Q c l (hs.set i (aF b (fh off new cs))) env):bG P ops Q c (⟨none, .store T x y,ty,pos,after,none⟩::l) hs env:= .s (gY hn h0 hx hy yZ hi hl) k
end
theorem ag.z{a b:VP}(h:ag a b:=by first|exact ag.refl _|exact ag.int (by omega)|exact ag.prop (by omega)|exact ag.prop (by simp_all)|exact ag.prop (by simp;omega)):ag a b:=h
variable {as:List α}
theorem PS{a:α}{l:List α}(h:as.take n=l):(a::as).take (n+1)=a::l:=congrArg (List.cons a) h
theorem Th:as.take 0=[]:=rfl
theorem HJ{a:α}{l:List α}(h:as.drop n=l):(a::as).drop (n+1)=l:=h
theorem PT:as.drop 0=as:=rfl
def j0(P:Program)(ops:Array Oper)(n:Nat)(hs:List HP)(e0:Env)(i:Nat)(done:fz)(l:List Oper)(K:fz→Prop):Prop:=∃all,lA P ops n hs e0 i done l all∧K all
section
variable {P:Program} {ops:Array Oper} {n:Nat} {hs:List HP} {e0:Env} {K:fz→Prop} {i:Nat} {done:fz} {d:Tmp} {q:VP} {op:Op} {ty:TypeId} {pos:String} {after:Array Edge} {gd:Option (Nat×Bool)} {l:List Oper}
theorem j0.g(h:bB P ops n hs (cv after done++e0) ⟨some d,op,ty,pos,after,gd⟩ q)(k:j0 P ops n hs e0 (i+1) ((i,d,q)::done) l K):j0 P ops n hs e0 i done (⟨some d,op,ty,pos,after,gd⟩::l) K:=
 let ⟨all,k1,k2⟩:=k;⟨all, .cons h k1,k2⟩
theorem j0.cons(h:bB P ops n hs (cv after done++e0) ⟨some d,op,ty,pos,after,gd⟩ q)(k:j0 P ops n hs e0 (i+1) ((i,d,q)::done) l K):j0 P ops n hs e0 i done (⟨some d,op,ty,pos,after,gd⟩::l) K:= .g h k
theorem j0.p(h:aT P hs (cv after done++e0) ⟨some d,op,ty,pos,after,none⟩ q)(k:j0 P ops n hs e0 (i+1) ((i,d,q)::done) l K):j0 P ops n hs e0 i done (⟨some d,op,ty,pos,after,none⟩::l) K:=
 let ⟨all,k1,k2⟩:=k;⟨all, .p h k1,k2⟩
theorem j0.nil(k:K done):j0 P ops n hs e0 i done [] K:=⟨_, .nil,k⟩
theorem aJ.bz{Q:Exit→Act→World→Prop}{c:Ctx}{l l1 l2:List Oper}{id:Nat}{env:Env}(m g:Nat)(hm:P.follows .mixedOrders=true)(hB:BZ l.toArray m g c.n=true)(h1:l.take m=l1:=by((repeat (first|with_reducible apply PS|apply PS));exact Th))(h2:l.drop m=l2:=by((repeat (first|with_reducible apply HJ|apply HJ));exact PT))
    (k:j0 P l.toArray c.n hs (strip (dstsOf l1) env) 0 [] l1 (fun all=>bG P l.toArray Q c l2 hs (eP all++env))):aJ P Q c (.region id l.toArray true) hs env:=
  let ⟨all,k1,k2⟩:=k; .draw m g hm hB (h1▸k1) (h2▸k2)
theorem aJ.bF{Q:Exit→Act→World→Prop}{c:Ctx}{l l2:List Oper}{id:Nat}{env:Env}(plan:List (Nat×Nat))(m g:Nat)(hm:P.follows .mixedOrders=true)(hB:kL l.toArray plan m g c.n=true)(h2:l.drop m=l2:=by((repeat (first|with_reducible apply HJ|apply HJ));exact PT))
    (k:cO P l c.n (strip (dstsOf (l.take m)) env) (fun done hs=>bG P l.toArray Q c l2 hs (eP done++env)) plan [] hs):aJ P Q c (.region id l.toArray true) hs env:= .QD plan m g hm hB (h2▸k)
end
variable {h':Prop}
theorem ef {g:Prop} (k:h') (j:h'→g:=by first
 |(with_reducible apply bG.p);exact .z;rfl
 |(with_reducible exact bG.nil)
 |(with_reducible apply bG.g);exact .z;rfl;rfl
 |(with_reducible exact aJ.seq)
 |(with_reducible exact aJ.region)
 |(with_reducible exact fun k=>bx.BN k)
 |(with_reducible exact aJ.block)
 |(with_reducible exact bx.Xa)
 |(with_reducible exact aJ.skip)
 |(with_reducible exact aJ.ret)
 |(with_reducible exact aJ.exit)
 |(with_reducible exact bx.SE)
 |(with_reducible exact bx.Xb)
 |(with_reducible exact bx.SF)
 |(with_reducible exact bx.Xc)
 |(with_reducible apply bx.Xd);rfl
 |(with_reducible apply bG.XE 0);exact FC.out;exact .z;exact .z;exact inferInstance;rfl;rfl
 |(with_reducible apply bG.XE 1);exact FC.out;exact .z;exact .z;exact inferInstance;rfl;rfl
 |(with_reducible apply bG.XE 2);exact FC.out;exact .z;exact .z;exact inferInstance;rfl;rfl
 |(with_reducible apply bG.E6 0);exact FC.out;rfl;exact .z;exact .z;exact inferInstance;rfl;rfl;rfl
 |(with_reducible apply bG.E6 1);exact FC.out;rfl;exact .z;exact .z;exact inferInstance;rfl;rfl;rfl
 |(with_reducible apply bG.E6 2);exact FC.out;rfl;exact .z;exact .z;exact inferInstance;rfl;rfl;rfl
 |(with_reducible apply cO.p);rfl;intro _;exact .z
 |(with_reducible apply cO.o);rfl;exact .z
 |(with_reducible apply cO.g);rfl;intro _;exact .z
 |(with_reducible apply dN.p);rfl;intro _;exact .z
 |(with_reducible apply dN.g);rfl;intro _;exact .z
 |(with_reducible apply j0.p);exact .z
 |(with_reducible apply j0.g);exact .z
 |(with_reducible exact j0.nil)
 |(apply j0.p);exact .z
 |(apply j0.g);exact .z
 |(apply bG.p);exact .z;rfl
 |(exact bG.nil)):g:=j k
structure iB(p:Prop):Prop where
 out:p
theorem Z1{g:Prop}(k:h')(j:iB h'→g:=by(intro k;(iterate 1 refine ef ?_);exact k.out)):g:=j ⟨k⟩
theorem Z2{g:Prop}(k:h')(j:iB h'→g:=by(intro k;(iterate 2 refine ef ?_);exact k.out)):g:=j ⟨k⟩
theorem Z3{g:Prop}(k:h')(j:iB h'→g:=by(intro k;(iterate 3 refine ef ?_);exact k.out)):g:=j ⟨k⟩
theorem Z4{g:Prop}(k:h')(j:iB h'→g:=by(intro k;(iterate 4 refine ef ?_);exact k.out)):g:=j ⟨k⟩
theorem Z5{g:Prop}(k:h')(j:iB h'→g:=by(intro k;(iterate 5 refine ef ?_);exact k.out)):g:=j ⟨k⟩
theorem Z6{g:Prop}(k:h')(j:iB h'→g:=by(intro k;(iterate 6 refine ef ?_);exact k.out)):g:=j ⟨k⟩
theorem Z7{g:Prop}(k:h')(j:iB h'→g:=by(intro k;(iterate 7 refine ef ?_);exact k.out)):g:=j ⟨k⟩
theorem Z8{g:Prop}(k:h')(j:iB h'→g:=by(intro k;(iterate 8 refine ef ?_);exact k.out)):g:=j ⟨k⟩
theorem Z9{g:Prop}(k:h')(j:iB h'→g:=by(intro k;(iterate 9 refine ef ?_);exact k.out)):g:=j ⟨k⟩
theorem dH{g:Prop}(k:h')(j:iB h'→g:=by(intro k;(iterate 10 refine ef ?_);exact k.out)):g:=j ⟨k⟩
theorem ek{g:Prop}(k:h')(j:iB h'→g:=by(intro k;(iterate 11 refine ef ?_);exact k.out)):g:=j ⟨k⟩
theorem fW{g:Prop}(k:h')(j:iB h'→g:=by(intro k;(iterate 12 refine ef ?_);exact k.out)):g:=j ⟨k⟩
theorem jz{g:Prop}(k:h')(j:iB h'→g:=by(intro k;(iterate 13 refine ef ?_);exact k.out)):g:=j ⟨k⟩
theorem j4{g:Prop}(k:h')(j:iB h'→g:=by(intro k;(iterate 14 refine ef ?_);exact k.out)):g:=j ⟨k⟩
theorem uZ{g:Prop}(k:h')(j:iB h'→g:=by(intro k;(iterate 15 refine ef ?_);exact k.out)):g:=j ⟨k⟩
theorem Jc{g:Prop}(k:h')(j:iB h'→g:=by(intro k;(iterate 16 refine ef ?_);exact k.out)):g:=j ⟨k⟩
theorem EA{g:Prop}(k:h')(j:iB h'→g:=by(intro k;(iterate 17 refine ef ?_);exact k.out)):g:=j ⟨k⟩
theorem E7{g:Prop}(k:h')(j:iB h'→g:=by(intro k;(iterate 18 refine ef ?_);exact k.out)):g:=j ⟨k⟩
theorem Jd{g:Prop}(k:h')(j:iB h'→g:=by(intro k;(iterate 19 refine ef ?_);exact k.out)):g:=j ⟨k⟩
theorem KR{g:Prop}(k:h')(j:iB h'→g:=by(intro k;(iterate 20 refine ef ?_);exact k.out)):g:=j ⟨k⟩
theorem Ti{g:Prop}(k:h')(j:iB h'→g:=by(intro k;(iterate 21 refine ef ?_);exact k.out)):g:=j ⟨k⟩
theorem Z22{g:Prop}(k:h')(j:iB h'→g:=by(intro k;(iterate 22 refine ef ?_);exact k.out)):g:=j ⟨k⟩
theorem Z23{g:Prop}(k:h')(j:iB h'→g:=by(intro k;(iterate 23 refine ef ?_);exact k.out)):g:=j ⟨k⟩
theorem Z24{g:Prop}(k:h')(j:iB h'→g:=by(intro k;(iterate 24 refine ef ?_);exact k.out)):g:=j ⟨k⟩
theorem XF{g:Prop}(k:h')(j:iB h'→g:=by(intro k;(iterate 25 refine ef ?_);exact k.out)):g:=j ⟨k⟩
theorem XG{g:Prop}(k:h')(j:iB h'→g:=by(intro k;(iterate 26 refine ef ?_);exact k.out)):g:=j ⟨k⟩
theorem UO{g:Prop}(k:h')(j:iB h'→g:=by(intro k;(iterate 28 refine ef ?_);exact k.out)):g:=j ⟨k⟩
theorem XH{g:Prop}(k:h')(j:iB h'→g:=by(intro k;(iterate 29 refine ef ?_);exact k.out)):g:=j ⟨k⟩
theorem Z30{g:Prop}(k:h')(j:iB h'→g:=by(intro k;(iterate 30 refine ef ?_);exact k.out)):g:=j ⟨k⟩
theorem Z31{g:Prop}(k:h')(j:iB h'→g:=by(intro k;(iterate 31 refine ef ?_);exact k.out)):g:=j ⟨k⟩
theorem Z32{g:Prop}(k:h')(j:iB h'→g:=by(intro k;(iterate 32 refine ef ?_);exact k.out)):g:=j ⟨k⟩
theorem Z39{g:Prop}(k:h')(j:iB h'→g:=by(intro k;(iterate 39 refine ef ?_);exact k.out)):g:=j ⟨k⟩
theorem UP{g:Prop}(k:h')(j:iB h'→g:=by(intro k;(iterate 40 refine ef ?_);exact k.out)):g:=j ⟨k⟩
theorem In{x:Code}{q:γ→VP}(n:Nat)
    (hf:P.funcs[f]?=some fn) (h:∀(w0:World) (S0 M:BS),aJ P (Post P fn ⟨w0,S0,M,n,none,[]⟩ φ hs' q) ⟨w0,S0,M,n,none,[]⟩ x hs (args ps)) (hb:fn.body=some x:=by rfl) (hnt:fn.ntmps=n:=by rfl) (hn:Nat.ble ps.length n=true:=by rfl):bk P f ps hs φ hs' q:= .intro n hf hb hnt hn h
theorem BG{x:Code}{q:γ→VP}(n:Nat)
    (hf:P.funcs[f]?=some fn) (h:∀(w0:World) (S0 M:BS),aJ P (Cb P fn ⟨w0,S0,M,n,none,[]⟩ tf D φ hs' q) ⟨w0,S0,M,n,none,[]⟩ x hs (args ps)) (hb:fn.body=some x:=by rfl) (hnt:fn.ntmps=n:=by rfl) (hn:Nat.ble ps.length n=true:=by rfl):uY P tf f ps hs D φ hs' q:= .intro n hf hb hnt hn h
theorem Cd{x:Operand}{p:Prop}{t:Code}(ht:p→aJ P Q c s hs env)(hf:¬p→aJ P Q c t hs env)(hx:aU env x (ak p):=by exact .z):aJ P Q c (.cond x s t) hs env:= .cond hx ht hf
theorem CT{x:Operand}{p:Prop}{t:Code}(hf:¬p→aJ P Q c t hs env)(hx:aU env x (ak p):=by exact .z)(no:p→False:=by(intro h;first|omega|exact h.elim|exact absurd rfl h)):aJ P Q c (.cond x s t) hs env:= .cond hx (fun h=>(no h).elim) hf
theorem CF{x:Operand}{p:Prop}{t:Code}(ht:p→aJ P Q c s hs env)(hx:aU env x (ak p):=by exact .z)(no:¬p→False:=by(intro h;first|omega|exact h trivial|exact h rfl)):aJ P Q c (.cond x s t) hs env:= .cond hx ht (fun h=>(no h).elim)
variable {a:Prop}
theorem aX{g:Prop}(x:a)(j:a→g:=by(intro x;first|exact Post.Xg rfl rfl x|exact Post.aO rfl () trivial (fun _ _ _ _=>trivial) (.rt rfl) x|exact Post.aO rfl () trivial (fun _ _ _ h=>h) (.rt rfl) x)):g:=j x
variable {b:Prop}
theorem fj{g:Prop}(x:a)(y:b)(j:a→b→g:=by(intro x y;first|exact Post.bY rfl rfl () trivial (fun _ _ _ _=>trivial) rfl (.cons (.rt rfl) x (.cons (.rt rfl) y .nil))|exact Post.bY rfl rfl () trivial (fun _ _ _ h=>h) rfl (.cons (.rt rfl) x (.cons (.rt rfl) y .nil)))):g:=j x y
theorem Rt4{g d e:Prop}(x:a)(y:b)(z:d)(u:e)(j:a→b→d→e→g:=by(intro x y z u;first|exact Post.bY rfl rfl () trivial (fun _ _ _ _=>trivial) rfl (.cons (.rt rfl) x (.cons (.rt rfl) y (.cons (.rt rfl) z (.cons (.rt rfl) u .nil))))|exact Post.bY rfl rfl () trivial (fun _ _ _ h=>h) rfl (.cons (.rt rfl) x (.cons (.rt rfl) y (.cons (.rt rfl) z (.cons (.rt rfl) u .nil)))))):g:=j x y z u
theorem N8{g d:Prop}(x:a)(y:b)(z:d)(j:a→b→d→g:=by(intro x y z;first|exact Post.bY rfl rfl () trivial (fun _ _ _ _=>trivial) rfl (.cons (.rt rfl) x (.cons (.rt rfl) y (.cons (.rt rfl) z .nil)))|exact Post.bY rfl rfl () trivial (fun _ _ _ h=>h) rfl (.cons (.rt rfl) x (.cons (.rt rfl) y (.cons (.rt rfl) z .nil))))):g:=j x y z
end Go.Hl
end
