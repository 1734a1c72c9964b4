/-
  Parts of the proof.
-/
import Derived.Test.YtppekopemdoclaaGreatDoorRAA
import Derived.WalkKit
import Derived.OrdersIn
import Derived.TacticsIn
import Derived.CallsIn
set_option linter.all false
set_option maxRecDepth 1000000
set_option maxHeartbeats 4000000
section
namespace Go.Hl
open Go.RowKit
abbrev BS:=Nat->Prop
structure VP where
 p:BS->World->Value->Prop
 mono:∀{S S':BS} {w w':World} {v:Value},(∀k,S k->S' k)->(∀k,S k->w'.heap[k]?=w.heap[k]?)->p S w v->p S' w' v
structure HP where
 p:BS->BS->World->Prop
 mono:∀{F F' S S':BS} {w w':World},(∀k,F k->F' k)->(∀k,S k->S' k)->(∀k,F k->w'.heap[k]?=w.heap[k]?)->(∀k,S k->w'.heap[k]?=w.heap[k]?)->p F S w->p F' S' w'
def dR:List HP->BS->BS->World->Prop
 |[],_,_,_=>True
 |h::hs,F,S,w=>∃F1 F2:BS,(∀k,F1 k->F k/\¬F2 k)/\(∀k,F2 k->F k)/\h.p F1 S w/\dR hs F2 S w
theorem dR.mono{hs:List HP}{F F' S S':BS}{w w':World}(hF:∀k,F k->F' k)(hS:∀k,S k->S' k)(eF:∀k,F k->w'.heap[k]?=w.heap[k]?)(eS:∀k,S k->w'.heap[k]?=w.heap[k]?)
    (h:dR hs F S w):dR hs F' S' w':=by
  induction hs generalizing F F' with
  |nil=>trivial
  | cons h' hs ih=>
    obtain⟨F1,F2,h1,h2,h3,h4⟩:=h
    exact⟨F1,F2,λk hk=>⟨hF k (h1 k hk).1,(h1 k hk).2⟩,λk hk=>hF k (h2 k hk),
      h'.mono (λ_ h=>h) hS (λk hk=>eF k (h1 k hk).1) eS h3,ih (λ_ h=>h) (λk hk=>eF k (h2 k hk)) h4⟩
variable {w:World} {S:BS} {F:BS}
theorem dR.append{as bs:List HP}:dR (as++bs) F S w↔∃F1 F2:BS,(∀k,F1 k->F k/\¬F2 k)/\(∀k,F2 k->F k)/\dR as F1 S w/\dR bs F2 S w:=by
 induction as generalizing F with
 |nil=>
  constructor
  · intro h;exact⟨λ_=>False,F,λ_ h=>h.elim,λ_ h=>h,trivial,h⟩
  · rintro⟨F1,F2,h1,h2,_,h4⟩;exact h4.mono h2 (λ_ h=>h) (λ_ _=>rfl) (λ_ _=>rfl)
 |cons a as ih=>
  constructor
  · rintro⟨F1,F2,h1,h2,h3,h4⟩
    obtain⟨G1,G2,g1,g2,g3,g4⟩:=ih.1 h4;refine⟨λk=>F1 k\/G1 k,G2,?_,λk hk=>h2 k (g2 k hk),⟨F1,G1,?_,λ_ h=> .inr h,h3,g3⟩,g4⟩
    · rintro k (hk|hk)
      · exact⟨(h1 k hk).1,λhg=>(h1 k hk).2 (g2 k hg)⟩
      · exact⟨h2 k (g1 k hk).1,(g1 k hk).2⟩
    · exact λk hk=>⟨.inl hk,λhg=>(h1 k hk).2 (g1 k hg).1⟩
  · rintro⟨F1,F2,h1,h2,⟨G1,G2,g1,g2,g3,g4⟩,h4⟩
    refine⟨G1,λk=>G2 k\/F2 k,?_,?_,g3,ih.2 ⟨G2,F2,?_,λ_ h=> .inr h,g4,h4⟩⟩
    · exact λk hk=>⟨(h1 k (g1 k hk).1).1,λh=>h.elim (g1 k hk).2 (h1 k (g1 k hk).1).2⟩
    · rintro k (hk|hk)
      · exact(h1 k (g2 k hk)).1
      · exact h2 k hk
    · exact λk hk=>⟨.inl hk,(h1 k (g2 k hk)).2⟩
theorem dR.perm{as bs:List HP}(hp:as.Perm bs)(h:dR as F S w):dR bs F S w:=by
 induction hp generalizing F with
 |nil=>exact h
 |cons x _ ih=>obtain⟨F1,F2,h1,h2,h3,h4⟩:=h;exact⟨F1,F2,h1,h2,h3,ih h4⟩
 |swap x y l=>
  have h':dR ([y]++([x]++l)) F S w:=h;obtain⟨F1,F2,h1,h2,h3,h4⟩:=dR.append.1 h';obtain⟨G1,G2,g1,g2,g3,g4⟩:=dR.append.1 h4;refine dR.append (as:=[x]) (bs:=[y]++l)|>.2 ⟨G1,λk=>F1 k\/G2 k,?_,?_,g3,dR.append.2 ⟨F1,G2,?_,λ_ h=> .inr h,h3,g4⟩⟩
  · exact λk hk=>⟨h2 k (g1 k hk).1,λh=>h.elim (λhf=>(h1 k hf).2 (g1 k hk).1) (g1 k hk).2⟩
  · rintro k (hk|hk)
    · exact(h1 k hk).1
    · exact h2 k (g2 k hk)
  · exact λk hk=>⟨.inl hk,λhg=>(h1 k hk).2 (g2 k hg)⟩
 |trans _ _ ih1 ih2=>exact ih2 (ih1 h)
abbrev Env:=List (Nat×VP)
def look:Env->Nat->Option VP
 |[],_=>none
 |(s,q)::r,t=>match Nat.beq s t with|true=>some q|false=>look r t
theorem bX(s:Nat)(q:VP)(r:Env)(t:Nat):look ((s,q)::r) t=if s=t then some q else look r t:=by
 simp only[look];cases h:Nat.beq s t
 · rw[if_neg (by intro e;simp[e] at h)]
 · rw[if_pos (by simpa using h)]
def dI(env:Env)(S:BS)(w:World)(tmps:Array Value):Prop:=∀t q,look env t=some q->q.p S w (tmps.getD t undef)
theorem dI.mono{env:Env}{S S':BS}{w w':World}{tmps:Array Value}(hS:∀k,S k->S' k)(eS:∀k,S k->w'.heap[k]?=w.heap[k]?)(h:dI env S w tmps):dI env S' w' tmps:=
 λt q hq=>q.mono hS eS (h t q hq)
theorem dI.put{env:Env}{S:BS}{w:World}{a:Act}{d:Nat}{q:VP}{v:Value}(h:dI env S w a.tmps)(hq:q.p S w v)(hd:d<a.tmps.size):
    dI ((d,q)::env) S w (a.put (some d) v).tmps:=by
  intro t q' hl;rw[bX] at hl;by_cases e:d=t
  · rw[if_pos e] at hl;cases hl;subst e;simpa[Act.put,hd] using hq
  · rw[if_neg e] at hl
    have:=h t q' hl;simp only[Act.put,Array.getD_eq_getD_getElem?] at this ⊢;rw[Array.getElem?_setIfInBounds_ne e];exact this
def Wx(e e':Env):Prop:=∀S w tmps,dI e S w tmps->dI e' S w tmps
def aa(q q':VP):Prop:=∀S w v,q.p S w v->q'.p S w v
theorem aa.refl(q:VP):aa q q:=λ_ _ _ h=>h
variable {q:VP} {q':VP}
theorem aa.of_eq(h:q=q'):aa q q':=h▸aa.refl q
theorem aa.trans{a b c:VP}(h:aa a b)(k:aa b c):aa a c:=λS w v x=>k S w v (h S w v x)
def dP(X:List Nat)(e e':Env):Prop:=∀t q',X.contains t=false->look e' t=some q'->∃q,look e t=some q/\aa q q'
variable {e':Env}
theorem dP.le{e:Env}(h:dP [] e e'):Wx e e':=λS w tmps ho t q' hl=>by
 obtain⟨q,hq,hle⟩:=h t q' rfl hl;exact hle _ _ _ (ho t q hq)
variable {X:List Nat}
theorem dP.cons{e:Env}{t:Nat}(hl:look e t=some q)(hq:aa q q')(h:dP (t::X) e e'):dP X e ((t,q')::e'):=by
 intro s x hs hx;rw[bX] at hx;by_cases hts:t=s
 · rw[if_pos hts] at hx;cases hx;subst hts;exact⟨q,hl,hq⟩
 · rw[if_neg hts] at hx
   refine h s x ?_ hx;simp only[List.contains_cons,Bool.or_eq_false_iff];exact⟨by simpa using λh=>hts h.symm,hs⟩
theorem dP.refl(X:List Nat)(e:Env):dP X e e:=λt q' _ h=>⟨q',h,aa.refl q'⟩
def xN:Env->Nat->Bool
 |[],_=>false
 |(s,_)::r,t=>Nat.beq s t||xN r t
theorem Gd{e:Env}{t:Nat}(h:look e t=some q):xN e t=true:=by
 induction e with
 |nil=>cases h
 |cons p e ih=>
  obtain⟨s,x⟩:=p;rw[bX] at h;by_cases hs:s=t
  · simp[xN,hs]
  · rw[if_neg hs] at h;simp[xN,ih h]
theorem dP.skip{e:Env}{t:Nat}(hk:(X.contains t|| !xN e' t)=true)(h:dP X e e'):dP X ((t,q)::e) e':=by
 intro s x hs hx
 have hne:t≠s:=by
  intro e1;subst e1
  rw[hs,Gd hx] at hk;simp at hk
 obtain⟨q',h1,h2⟩:=h s x hs hx;exact⟨q',by rw[bX,if_neg hne];exact h1,h2⟩
def Mg(X:List Nat)(e':Env):Nat->Env->Bool
 |0,_=>true
 |m+1,[]=>true
 |m+1,(t,_)::r=>(X.contains t|| !xN e' t) && Mg X e' m r
theorem dP.Mh{X:List Nat}{e':Env}:∀(m:Nat) (e:Env),Mg X e' m e=true->dP X (e.drop m) e'->dP X e e'
 |0,_,_,h=>h
 |m+1,[],_,h=>h
 |m+1,(t,q)::r,hb,h=>by
  simp only[Mg,Bool.and_eq_true] at hb;exact dP.skip hb.1 (dP.Mh m r hb.2 h)
theorem dP.keep{e:Env}(m:Nat)(he:e.drop m=e')(hb:Mg X e' m e=true):dP X e e':=
 dP.Mh m e hb (he▸dP.refl X _)
theorem dP.get{e:Env}{t:Nat}{r:Env}(hl:look e t=some q)(hq:aa q q')(h:dP (t::X) e r):dP X e ((t,q')::r):=dP.cons hl hq h
structure Ctx where
 w0:World
 S0:BS
 M:BS
 n:Nat
 ro:Option Nat
 df:List Deferred
structure j6(c:Ctx)(w:World)(S F:BS):Prop where
 os:w.os=c.w0.os
 tape:w.tape=c.w0.tape
 output:w.output=c.w0.output
 size:c.w0.heap.size<=w.heap.size
 kept:∀k,k<c.w0.heap.size->¬c.M k->w.heap[k]?=c.w0.heap[k]?
 eg:∀k,S k->¬F k
 bZ:∀k,S k->k<w.heap.size
 cK:∀k,F k->k<w.heap.size
 own:∀k,F k->c.M k\/c.w0.heap.size<=k
 shr:∀k,S k->c.S0 k\/c.M k\/c.w0.heap.size<=k
 base:∀k,c.S0 k->S k
def St(c:Ctx)(hs:List HP)(env:Env)(a:Act)(w:World):Prop:=
 a.defers=c.df/\a.tmps.size=c.n/\∃S F,j6 c w S F/\dR hs F S w/\dI env S w a.tmps
variable {hs:List HP} {a:Act}
theorem St.mono{c:Ctx}{e:Env}(h:St c hs e a w)(hle:Wx e e'):St c hs e' a w:=by
 obtain⟨h1,h2,S,F,h3,h4,h5⟩:=h;exact⟨h1,h2,S,F,h3,h4,hle _ _ _ h5⟩
structure gq(w w':World)(S S':BS):Prop where
 os:w'.os=w.os
 tape:w'.tape=w.tape
 output:w'.output=w.output
 size:w.heap.size<=w'.heap.size
 kept:∀k,k<w.heap.size->w'.heap[k]?=w.heap[k]?
 sub:∀k,S k->S' k
 new:∀k,S' k->S k\/(w.heap.size<=k/\k<w'.heap.size)
theorem gq.refl(w:World)(S:BS):gq w w S S:=⟨rfl,rfl,rfl,Nat.le_refl _,λ_ _=>rfl,λ_ h=>h,λ_ h=> .inl h⟩
variable {w':World} {S':BS}
theorem j6.grow{c:Ctx}(h:j6 c w S F)(g:gq w w' S S'):j6 c w' S' F where
 os:=g.os.trans h.os
 tape:=g.tape.trans h.tape
 output:=g.output.trans h.output
 size:=Nat.le_trans h.size g.size
 kept:=λk hk hm=>(g.kept k (Nat.lt_of_lt_of_le hk h.size)).trans (h.kept k hk hm)
 eg:=λk hk hf=>by
  rcases g.new k hk with h1|⟨h1,_⟩
  · exact h.eg k h1 hf
  · have:=h.cK k hf;omega
 bZ:=λk hk=>by
  rcases g.new k hk with h1|⟨_,h1⟩
  · exact Nat.lt_of_lt_of_le (h.bZ k h1) g.size
  · exact h1
 cK:=λk hk=>Nat.lt_of_lt_of_le (h.cK k hk) g.size
 own:=h.own
 shr:=λk hk=>by
  rcases g.new k hk with h1|⟨h1,_⟩
  · exact h.shr k h1
  · exact .inr (.inr (Nat.le_trans h.size h1))
 base:=λk hk=>g.sub k (h.base k hk)
theorem gq.env{w w':World}{S S':BS}{env:Env}{tmps:Array Value}(g:gq w w' S S')(hd:∀k,S k->k<w.heap.size)(h:dI env S w tmps):dI env S' w' tmps:=
 h.mono g.sub λk hk=>g.kept k (hd k hk)
theorem gq.vp{v:Value}(g:gq w w' S S')(hd:∀k,S k->k<w.heap.size)(h:q.p S w v):q.p S' w' v:=
 q.mono g.sub (λk hk=>g.kept k (hd k hk)) h
theorem gq.zZ(g:gq w w' S S')(hd:∀k,S k->k<w.heap.size)(hf:∀k,F k->k<w.heap.size)(h:dR hs F S w):dR hs F S' w':=
 h.mono (λ_ h=>h) g.sub (λk hk=>g.kept k (hf k hk)) (λk hk=>g.kept k (hd k hk))
theorem gq.drew(w:World)(S:BS):gq w {w with drawn:=w.drawn+1} S S:=⟨rfl,rfl,rfl,Nat.le_refl _,λ_ _=>rfl,λ_ h=>h,λ_ h=> .inl h⟩
def bA(env:Env)(x:Operand)(q:VP):Prop:=∀S w (a:Act),dI env S w a.tmps->q.p S w (a.eval x)
def ag(v:Value):VP:=⟨λ_ _ u=>u=v,λ_ _ h=>h⟩
abbrev af(k:IntKind)(n:Int):VP:=ag (.int k n)
def av(p:Prop):VP:=⟨λ_ _ v=>∃b:Bool,v= .bool b/\(b=true↔p),λ_ _ h=>h⟩
theorem bA.t{env:Env}{t:Nat}{q:VP}(h:look env t=some q):bA env (.tmp t) q:=λ_ _ _ he=>he t q h
theorem bA.c{env:Env}(v:Value):bA env (.const v) (ag v):=λ_ _ _ _=>rfl
theorem bA.ct{env:Env}:bA env (.const (.bool true)) (av True):=λ_ _ _ _=>⟨true,rfl,by simp⟩
theorem bA.cf{env:Env}:bA env (.const (.bool false)) (av False):=λ_ _ _ _=>⟨false,rfl,by simp⟩
theorem bA.f{env:Env}(f:FuncId):bA env (.func f) (ag (.func (.func f) #[] #[])):=λ_ _ _ _=>rfl
theorem bA.le{env:Env}{x:Operand}(h:bA env x q)(hq:aa q q'):bA env x q':=λS w a he=>hq _ _ _ (h S w a he)
theorem aa.prop{p q:Prop}(h:p↔q):aa (av p) (av q):=λ_ _ _ ⟨b,hb,hp⟩=>⟨b,hb,hp.trans h⟩
theorem aa.int{k:IntKind}{n m:Int}(h:n=m):aa (af k n) (af k m):=aa.of_eq (by rw[h])
def bw(P:Program)(hs:List HP)(env:Env)(o:Oper)(q:VP):Prop:=
 ∀(a:Act) (w:World) (S F:BS),(∀k,S k->k<w.heap.size)->(∀k,F k->k<w.heap.size)->(∀k,S k->¬F k)->dR hs F S w->dI env S w a.tmps->
 ∀(K:Act->World->Prop) (Q:Exit->Act->World->Prop),(∀v w' S',gq w w' S S'->q.p S' w' v->K (a.put o.dst v) w')->o.wp P a w K Q
variable {γ:Type}
def gW(P:Program)(hs:List HP)(env:Env)(o:Oper)(φ:γ->Prop)(hs':γ->List HP)(q:γ->VP):Prop:=
 ∀(c:Ctx) (a:Act) (w:World) (S F:BS),j6 c w S F->dR hs F S w->dI env S w a.tmps->
 ∀(K:Act->World->Prop) (Q:Exit->Act->World->Prop),
  (∀g v w' S' F',φ g->j6 c w' S' F'->(∀k,S k->S' k)->(∀k,S k->w'.heap[k]?=w.heap[k]?)->dR (hs' g) F' S' w'->(q g).p S' w' v->K (a.put o.dst v) w')->o.wp P a w K Q
variable {P:Program} {o:Oper}
theorem bw.toE{env:Env}(h:bw P hs env o q):gW P hs env o (γ:=Unit) (λ_=>True) (λ_=>hs) (λ_=>q):=
 fun c a w S F aI hown sA K Q hk=>h a w S F aI.bZ aI.cK aI.eg hown sA K Q λv w' S' g hq=>
  hk () v w' S' F trivial (aI.grow g) g.sub (λk hk=>g.kept k (aI.bZ k hk)) (g.zZ aI.bZ aI.cK hown) hq
theorem bw.le{env:Env}(h:bw P hs env o q)(hq:aa q q'):bw P hs env o q':=
 λa w S F h1 h2 h3 h4 h5 K Q hk=>h a w S F h1 h2 h3 h4 h5 K Q λv w' S' g hv=>hk v w' S' g (hq _ _ _ hv)
def WF(ρ:Option Nat):Fence:={Fence.wide with round:=ρ}
variable {ρ:Option Nat}
theorem Ge{n:Nat}{f:FuncId}{args:Array Value}{R:Ending->World->Prop}(h:Calls P f args w R):CallsIn (WF ρ) n P f args w R:=callsIn_wide.2 h
theorem Uo{n:Nat}{row:String}{args:Array Value}{R:Value->World->Prop}(h:Rows P row args w R):RowsIn (WF ρ) n P row args w R:=λc cs _=>
 let ⟨v,w',r,s⟩:=h c cs;⟨v,w',r,(stepsIn_wide (P:=P)).2 s⟩
theorem Oper.rX{K:Act->World->Prop}{Q:Exit->Act->World->Prop}(hd:∀c,o.op≠ .defer c)(h:o.wp P a w K Q):o.wpIn (WF ρ) 0 P a w K Q:=by
 refine⟨λ_ _=>trivial,?_⟩;rw[Oper.semAt_eq _ _ _ hd];unfold Oper.wp at h;cases hr:(execOp a.eval o).run P w with
 |ok v w'=>
  rw[hr] at h;cases v with
  |value v=>exact h
  |skip=>exact h
  |defer d=>exact h
  |enter f args=>exact⟨λh0=>(by cases h0),Ge h⟩
  |row r args=>exact⟨λh0=>(by cases h0),Uo h⟩
  |_=>exact h.elim
 |halt k w'=>
  rw[hr] at h;cases k with
  |panic v=>exact h
  |_=>exact h.elim
theorem Oper.Gf(h:o.wp P a w (λa' _=>a'.defers=a.defers) (λ_ _ _=>False)):∀c,o.op≠ .defer c:=by
 intro cl e;unfold Oper.wp at h
 have hx:execOp a.eval o=(do pure (.defer (<-resolve a.eval cl o.type))):=by
  cases o;simp only at e;subst e;rfl
 rw[hx] at h;simp only[Sem.run_bind] at h;cases hr:(resolve a.eval cl o.type).run P w with
 |ok d w'=>
  rw[hr] at h;have h2:({a with defers:=d::a.defers}.put o.dst undef).defers=a.defers:=h;have h3:({a with defers:=d::a.defers}.put o.dst undef).defers=d::a.defers:=by cases o.dst<;>rfl
  rw[h3] at h2;exact absurd (congrArg List.length h2) (by simp)
 |halt k w'=>
  rw[hr] at h;cases k with
  |panic v=>exact h
  |_=>exact h
def cv(P:Program)(ops:Array Oper)(Q:Exit->Act->World->Prop)(c:Ctx)(l:List Oper)(hs:List HP)(env:Env):Prop:=
 ∀a w,St c hs env a w->wpListIn (WF c.ro) 0 P ops Q l a w
def aU(P:Program)(Q:Exit->Act->World->Prop)(c:Ctx)(x:Code)(hs:List HP)(env:Env):Prop:=
 ∀a w,St c hs env a w->x.wpIn (WF c.ro) 0 P Q a w
def bS(Q:Exit->Act->World->Prop)(e:Exit)(c:Ctx)(hs:List HP)(env:Env):Prop:=∀a w,St c hs env a w->Q e a w
section
variable {P:Program} {ops:Array Oper} {Q:Exit->Act->World->Prop} {c:Ctx} {l:List Oper} {hs:List HP} {env:Env} {o:Oper} {q:VP}
theorem cv.nil(h:bS Q .normal c hs env):cv P ops Q c [] hs env:=λa w hst=>wpListIn_nil (h a w hst)
theorem Act.iw(a:Act)(d:Option Tmp)(v:Value):(a.put d v).tmps.size=a.tmps.size:=by cases d<;>simp[Act.put]
theorem Act.ek(a:Act)(d:Option Tmp)(v:Value):(a.put d v).defers=a.defers:=by cases d<;>rfl
def Env.zj(env:Env)(d:Option Tmp)(q:VP):Env:=match d with|some d=>(d,q)::env|none=>env
theorem dI.zj{env:Env}{S:BS}{w:World}{a:Act}{d:Option Tmp}{q:VP}{v:Value}(h:dI env S w a.tmps)(hq:q.p S w v)(hd:∀t,d=some t->t<a.tmps.size):
    dI (Env.zj env d q) S w (a.put d v).tmps:=by
  cases d with
  |none=>exact h
  |some t=>exact h.put hq (hd t rfl)
theorem gW.jV{γ:Type}{φ:γ->Prop}{hs':γ->List HP}{qs:γ->VP}(h:gW P hs env o φ hs' qs){a:Act}{w:World}{S F:BS}(h3:j6 c w S F)(h4:dR hs F S w)(h5:dI env S w a.tmps):∀cl,o.op≠ .defer cl:=
 Oper.Gf (h c a w S F h3 h4 h5 (λa' _=>a'.defers=a.defers) (λ_ _ _=>False) λg v w' S' F' _ _ _ _ _ _=>Act.ek a o.dst v)
theorem cv.e{γ:Type}{φ:γ->Prop}{hs':γ->List HP}{qs:γ->VP}(h:gW P hs env o φ hs' qs)(hg:o.guard=none)(hd:(match o.dst with|some t=>decide (t<c.n)|none=>true)=true)
    (k:∀g,φ g->cv P ops Q c l (hs' g) (Env.zj env o.dst (qs g))):cv P ops Q c (o::l) hs env:=by
  intro a w hst;obtain⟨h1,h2,S,F,h3,h4,h5⟩:=hst;refine wpListIn_plain hg λK hK=>Oper.rX (h.jV h3 h4 h5)<|h c a w S F h3 h4 h5 K Q λg v w' S' F' hφ aI hsub hag hown hq=>hK _ _ (k g hφ _ _ ⟨?_,?_,S',F',aI,hown,?_⟩)
  · rw[Act.ek];exact h1
  · rw[Act.iw];exact h2
  · refine(h5.mono hsub hag).zj hq λt ht=>?_
    rw[ht] at hd;rw[h2];simpa using hd
theorem cv.p{d:Tmp}{op:Op}{ty:TypeId}{pos:String}{after:Array Edge}(h:bw P hs env ⟨some d,op,ty,pos,after,none⟩ q)(hd:Nat.blt d c.n=true)
    (k:cv P ops Q c l hs ((d,q)::env)):cv P ops Q c (⟨some d,op,ty,pos,after,none⟩::l) hs env:=
  cv.e h.toE rfl (by simpa using hd) (λ_ _=>k)
def fK(p:Prop)(q:VP):VP:=⟨λS w v=>(p->q.p S w v)/\(¬p->v=undef),λh1 h2 h=>⟨λhp=>q.mono h1 h2 (h.1 hp),h.2⟩⟩
def de(P:Program)(ops:Array Oper)(n:Nat)(hs:List HP)(env:Env)(o:Oper)(q:VP):Prop:=
 ∀(a:Act) (w:World) (S F:BS),a.tmps.size=n->(∀k,S k->k<w.heap.size)->(∀k,F k->k<w.heap.size)->(∀k,S k->¬F k)->dR hs F S w->dI env S w a.tmps->
 ∀(K:Act->World->Prop) (Q:Exit->Act->World->Prop),(∀v w' S',gq w w' S S'->q.p S' w' v->K (a.put o.dst v) w')->
  if Region.wanted o (yielded ops a.tmps) then o.wp P a w K Q else K (a.put o.dst undef) w
theorem de.plain{n:Nat}(h:bw P hs env o q)(hg:o.guard=none):de P ops n hs env o q:=by
 intro a w S F hn h1 h2 h3 h4 h5 K Q hk;rw[if_pos (by simp[Region.wanted,hg])];exact h a w S F h1 h2 h3 h4 h5 K Q hk
theorem de.aux{n:Nat}{j:Nat}{want:Bool}{t:Tmp}{p:Prop}{c:Prop}(uG:o.guard=some (j,want))
    (hj:(ops[j]?).bind (·.dst)=some t) (ht:Nat.blt t n=true)
    (hb:∀S w (tmps:Array Value),dI env S w tmps->(c/\∃b,tmps.getD t undef= .bool b/\(b=true↔p))\/(¬c/\tmps.getD t undef=undef))
    (h:(c/\(if want then p else ¬p))->bw P hs env o q):de P ops n hs env o (fK (c/\(if want then p else ¬p)) q):=by
  intro a w S F hn h1 h2 h3 h4 h5 K Q hk;have ht':t<a.tmps.size:=by rw[hn];simpa using ht
  have h6:a.tmps[t]?=some (a.tmps.getD t undef):=by simp[ht']
  rcases hb S w a.tmps h5 with⟨hc,b,hb,Ch⟩|⟨hc,hu⟩
  · have hy:yielded ops a.tmps j=some b:=by
      unfold yielded;rw[hj];simp only[Option.bind_some,h6,hb]
    by_cases hw:b=want
    · have hp:(if want then p else ¬p):=by
        cases want
        · simp at hw ⊢;intro hp';rw[Ch.2 hp'] at hw;cases hw
        · simpa using Ch.1 hw
      rw[if_pos (by simp[Region.wanted,uG,hy,hw])];exact h ⟨hc,hp⟩ a w S F h1 h2 h3 h4 h5 K Q λv w' S' g hq=>hk v w' S' g ⟨λ_=>hq,λhn=>(hn ⟨hc,hp⟩).elim⟩
    · have hp:¬(if want then p else ¬p):=by
        cases want
        · simp at hw ⊢;exact Ch.1 hw
        · intro hp';exact hw (Ch.2 (by simpa using hp'))
      rw[if_neg (by simp[Region.wanted,uG,hy,hw])];exact hk _ _ S (gq.refl _ _) ⟨λhn=>(hp hn.2).elim,λ_=>rfl⟩
  · have hy:yielded ops a.tmps j=none:=by
      unfold yielded;rw[hj];simp only[Option.bind_some,h6,hu];rfl
    rw[if_neg (by simp[Region.wanted,uG,hy])];exact hk _ _ S (gq.refl _ _) ⟨λhn=>(hc hn.1).elim,λ_=>rfl⟩
theorem fK.congr{p p':Prop}(h:p↔p'){q:VP}:aa (fK p q) (fK p' q):=λ_ _ _ hv=>⟨λhp=>hv.1 (h.2 hp),λhp=>hv.2 (λh'=>hp (h.1 h'))⟩
theorem de.le{n:Nat}{q':VP}(h:de P ops n hs env o q)(hq:aa q q'):de P ops n hs env o q':=by
 intro a w S F hn h1 h2 h3 h4 h5 K Q hk;exact h a w S F hn h1 h2 h3 h4 h5 K Q λv w' S' g hv=>hk v w' S' g (hq _ _ _ hv)
theorem de.gT{n:Nat}{j:Nat}{t:Tmp}{p:Prop}(hl:look env t=some (av p))(uG:o.guard=some (j,true))(hj:(ops[j]?).bind (·.dst)=some t)(ht:Nat.blt t n=true)
    (h:p->bw P hs env o q):de P ops n hs env o (fK p q):=
  (de.aux (c:=True) (p:=p) uG hj ht (λS w tmps he=> .inl ⟨trivial,he t _ hl⟩) (λhp=>h (by simpa using hp.2))).le (fK.congr (by simp))
theorem de.gF{n:Nat}{j:Nat}{t:Tmp}{p:Prop}(hl:look env t=some (av p))(uG:o.guard=some (j,false))(hj:(ops[j]?).bind (·.dst)=some t)(ht:Nat.blt t n=true)
    (h:¬p->bw P hs env o q):de P ops n hs env o (fK (¬p) q):=
  (de.aux (c:=True) (p:=p) uG hj ht (λS w tmps he=> .inl ⟨trivial,he t _ hl⟩) (λhp=>h (by simpa using hp.2))).le (fK.congr (by simp))
theorem de.Xr{t:Tmp}{c p:Prop}(hl:look env t=some (fK c (av p)))(S:BS)(w:World)(tmps:Array Value)(he:dI env S w tmps):
    (c/\∃b,tmps.getD t undef= .bool b/\(b=true↔p))\/(¬c/\tmps.getD t undef=undef):=by
  have h:=he t _ hl;by_cases hc:c
  · exact .inl ⟨hc,h.1 hc⟩
  · exact .inr ⟨hc,h.2 hc⟩
theorem de.hT{n:Nat}{j:Nat}{t:Tmp}{c p:Prop}(hl:look env t=some (fK c (av p)))(uG:o.guard=some (j,true))(hj:(ops[j]?).bind (·.dst)=some t)(ht:Nat.blt t n=true)
    (h:c/\p->bw P hs env o q):de P ops n hs env o (fK (c/\p) q):=
  (de.aux (c:=c) (p:=p) uG hj ht (de.Xr hl) (λhp=>h (by simpa using hp))).le (fK.congr (by simp))
theorem de.hF{n:Nat}{j:Nat}{t:Tmp}{c p:Prop}(hl:look env t=some (fK c (av p)))(uG:o.guard=some (j,false))(hj:(ops[j]?).bind (·.dst)=some t)(ht:Nat.blt t n=true)
    (h:c/\¬p->bw P hs env o q):de P ops n hs env o (fK (c/\¬p) q):=
  (de.aux (c:=c) (p:=p) uG hj ht (de.Xr hl) (λhp=>h (by simpa using hp))).le (fK.congr (by simp))
theorem de.jV{n:Nat}(h:de P ops n hs env o q){a:Act}{w:World}{S F:BS}(hn:a.tmps.size=n)(h3:j6 c w S F)(h4:dR hs F S w)(h5:dI env S w a.tmps)(hw:Region.wanted o (yielded ops a.tmps)=true):∀cl,o.op≠ .defer cl:=by
 have:=h a w S F hn h3.bZ h3.cK h3.eg h4 h5 (λa' _=>a'.defers=a.defers) (λ_ _ _=>False) λv w' S' _ _=>Act.ek a o.dst v;rw[if_pos hw] at this;exact Oper.Gf this
theorem NS{n:Nat}(h:de P ops n hs env o q){a:Act}{w:World}{S F:BS}(hn:a.tmps.size=n)(h3:j6 c w S F)(h4:dR hs F S w)(h5:dI env S w a.tmps){ρ:Option Nat}{K:Act->World->Prop}(k:if Region.wanted o (yielded ops a.tmps) then o.wp P a w K Q else K (a.put o.dst undef) w):
    if Region.wanted o (yielded ops a.tmps) then o.wpIn (WF ρ) 0 P a w K Q else(∀f,o.about P w a.eval=some f->(WF ρ).fn f)/\K (a.put o.dst undef) w:=by
  by_cases hw:Region.wanted o (yielded ops a.tmps)=true
  · rw[if_pos hw] at k ⊢;exact Oper.rX (h.jV hn h3 h4 h5 hw) k
  · rw[if_neg hw] at k ⊢;exact⟨λ_ _=>trivial,k⟩
theorem cv.g{d:Tmp}(h:de P ops c.n hs env o q)(o4:o.dst=some d)(hd:Nat.blt d c.n=true)(k:cv P ops Q c l hs ((d,q)::env)):cv P ops Q c (o::l) hs env:=by
 intro a w hst;obtain⟨h1,h2,S,F,h3,h4,h5⟩:=hst;refine wpListIn_step λK hK=>NS h h2 h3 h4 h5 ?_;refine h a w S F h2 h3.bZ h3.cK h3.eg h4 h5 K Q λv w' S' g hq=>hK _ _ (k _ _ ⟨?_,?_,S',F,h3.grow g,g.zZ h3.bZ h3.cK h4,?_⟩)
 · rw[Act.ek];exact h1
 · rw[Act.iw];exact h2
 · rw[o4];exact(g.env h3.bZ h5).put hq (by rw[h2];simpa using hd)
theorem aU.region{id:Nat}(h:cv P l.toArray Q c l hs env):aU P Q c (.region id l.toArray false) hs env:=λa w hst=>wpIn_region_lit (h a w hst)
theorem aU.seq{x y:Code}(h:aU P (Exit.then (y.wpIn (WF c.ro) 0 P Q) Q) c x hs env):aU P Q c (.seq x y) hs env:=λa w hst=>wpIn_seq (h a w hst)
theorem aU.block{id:Nat}{x:Code}(h:aU P (Exit.inBlock id Q) c x hs env):aU P Q c (.block id x) hs env:=λa w hst=>wpIn_block (h a w hst)
theorem aU.skip(h:bS Q .normal c hs env):aU P Q c .skip hs env:=λa w hst=>wpIn_skip (h a w hst)
theorem aU.ret(h:bS Q .ret c hs env):aU P Q c .ret hs env:=λa w hst=>wpIn_ret (h a w hst)
theorem aU.exit{id:Nat}(h:bS Q (.exit id) c hs env):aU P Q c (.exit id) hs env:=λa w hst=>wpIn_exit (h a w hst)
theorem aU.cond{x:Operand}{p:Prop}{s t:Code}(hx:bA env x (av p))(ht:p->aU P Q c s hs env)(hf:¬p->aU P Q c t hs env):aU P Q c (.cond x s t) hs env:=by
 intro a w hst;obtain⟨b,hb,Ch⟩:=hx _ w a hst.2.2.choose_spec.choose_spec.2.2;refine wpIn_cond_split hb (λh=>ht (Ch.1 h) a w hst) (λh=>hf (λhp=>?_) a w hst);rw[Ch.2 hp] at h;cases h
theorem aU.fact{x:Code}{t:Nat}{p:Prop}(hl:look env t=some q)(hp:∀S w v,q.p S w v->p)(h:p->aU P Q c x hs env):aU P Q c x hs env:=by
 intro a w hst;exact h (hp _ _ _ (hst.2.2.choose_spec.choose_spec.2.2 t q hl)) a w hst
theorem aU.loop{x:Code}{σ:Type}(ih:σ->List HP)(ie:σ->Env)(φ:σ->Prop)(μ:σ->Nat)(s0:σ)(h0:φ s0)(Xs:∀a w,St c hs env a w->St c (ih s0) (ie s0) a w)
    (round:∀s,φ s->aU P (Exit.then (λa w=>∃s',φ s'/\μ s'<μ s/\St c (ih s') (ie s') a w) Q) c x (ih s) (ie s)):aU P Q c (.loop x) hs env:=by
  intro a w hst;intro b k cs hro hb hr
  have key:∀n s,μ s=n->φ s->∀a w,St c (ih s) (ie s) a w->
      ∃e a' w',Q e a' w'/\ArrivesIn (Machine.fenced P (WF c.ro)) P (lone (b.atR a (.code x:: .inLoop x::k)) cs w) b k cs e a' w':=by
    intro n
    induction n using Nat.strongRecOn with
    | _ n IH=>
      intro s hn hs a w hst;obtain⟨e,a₁,w₁,hq,wh⟩:=round s hs a w hst b (.inLoop x::k) cs hro hb hr;cases e with
      | normal=>
        obtain⟨s',h1,hlt,h2⟩:=hq;obtain⟨e₂,a₂,w₂,hq₂,harr₂⟩:=IH (μ s') (hn▸hlt) s' rfl h1 a₁ w₁ h2;exact⟨e₂,a₂,w₂,hq₂, .of_steps (StepsIn.trans wh (.one (fenced_calm hb hr rfl) stepR_inLoop)) harr₂⟩
      |exit id=>exact⟨_,a₁,w₁,hq, .pass (x:= .inLoop x) rfl (λ_ _=> .inl (by simp)) wh⟩
      |goto l=>exact⟨_,a₁,w₁,hq, .pass (x:= .inLoop x) rfl (λ_ _=> .inl (by simp)) wh⟩
      |ret=>exact⟨_,a₁,w₁,hq, .pass (x:= .inLoop x) rfl (λ_ _=> .inl (by simp)) wh⟩
      |panic ch=>exact⟨_,a₁,w₁,hq, .pass (x:= .inLoop x) rfl (λ_ _=> .inl (by simp)) wh⟩
      |outgrown=>exact⟨_,a₁,w₁,hq, .pass (x:= .inLoop x) rfl (λ_ _=> .inl (by simp)) wh⟩
  obtain⟨e,a',w',hq,wh⟩:=key _ s0 rfl h0 a w (Xs a w hst);exact⟨e,a',w',hq, .of_steps (.one (fenced_calm hb hr rfl) stepR_loop) wh⟩
end
section
variable {P:Program} {Q:Exit->Act->World->Prop} {c:Ctx} {hs:List HP} {env:Env}
theorem bS.Gg{x:Code}{ρ:Option Nat}(h:aU P Q c x hs env)(hro:c.ro=ρ:=by rfl):bS (Exit.then (x.wpIn (WF ρ) 0 P Q) Q) .normal c hs env:=hro▸h
theorem bS.aa0{K:Act->World->Prop}(h:bS Q .ret c hs env):bS (Exit.then K Q) .ret c hs env:=h
theorem bS.aa1{K:Act->World->Prop}{id:Nat}(h:bS Q (.exit id) c hs env):bS (Exit.then K Q) (.exit id) c hs env:=h
theorem bS.aC2{id:Nat}(h:bS Q .normal c hs env):bS (Exit.inBlock id Q) .normal c hs env:=h
theorem bS.aC3{id:Nat}(h:bS Q .ret c hs env):bS (Exit.inBlock id Q) .ret c hs env:=h
theorem bS.aC4{id:Nat}(h:bS Q .normal c hs env):bS (Exit.inBlock id Q) (.exit id) c hs env:=λa w hst=>by
 simp only[Exit.inBlock,if_true];exact h a w hst
theorem bS.aC5{id id':Nat}(hne:Nat.beq id' id=false)(h:bS Q (.exit id') c hs env):bS (Exit.inBlock id Q) (.exit id') c hs env:=λa w hst=>by
 have aC6:¬id'=id:=λe=>by subst e;simp at hne
 simp only[Exit.inBlock,if_neg aC6];exact h a w hst
theorem aU.bk{x:Code}{σ:Type}(ih:σ->List HP)(ov:σ->Env)(φ:σ->Prop)(μ:σ->Nat)(s0:σ)(h0:φ s0)(hh:hs=ih s0)(Xs:dP [] env (ov s0++env))
    (round:∀s,φ s->aU P (Exit.then (λa w=>∃s',φ s'/\μ s'<μ s/\St c (ih s') (ov s'++env) a w) Q) c x (ih s) (ov s++env)):aU P Q c (.loop x) hs env:=
  aU.loop ih (λs=>ov s++env) φ μ s0 h0 (λa w h=>(hh▸h).mono Xs.le) round
theorem bS.round{σ:Type}{ih:σ->List HP}{ov:σ->Env}{φ:σ->Prop}{m:σ->Prop}{QM:Env}(s':σ)(h1:φ s')(h2:m s')(hh:hs=ih s')(h3:dP [] env (ov s'++QM)):
    bS (Exit.then (λa w=>∃s',φ s'/\m s'/\St c (ih s') (ov s'++QM) a w) Q) .normal c hs env:=
  λa w hst=>⟨s',h1,h2,(hh▸hst).mono h3.le⟩
theorem aU.cut{x y:Code}{σ:Type}(ih:σ->List HP)(ov:σ->Env)(φ:σ->Prop)(h1:aU P (Exit.then (λa w=>∃s,φ s/\St c (ih s) (ov s++env) a w) Q) c x hs env)
    (h2:∀s,φ s->aU P Q c y (ih s) (ov s++env)):aU P Q c (.seq x y) hs env:=λa w hst=>
  wpIn_seq (Code.wpIn_mono (λe a w q=>by
    cases e with
    |normal=>obtain⟨s,hs,hst⟩:=q;exact h2 s hs a w hst
    |_=>exact q) (h1 a w hst))
theorem bS.meet{σ:Type}{ih:σ->List HP}{ov:σ->Env}{φ:σ->Prop}{QM:Env}(s':σ)(h1:φ s')(hh:hs=ih s')(h3:dP [] env (ov s'++QM)):
    bS (Exit.then (λa w=>∃s',φ s'/\St c (ih s') (ov s'++QM) a w) Q) .normal c hs env:=
  λa w hst=>⟨s',h1,(hh▸hst).mono h3.le⟩
end
def hU(ps:List VP)(S:BS)(w:World)(vs:List Value):Prop:=ps.length=vs.length/\∀(j:Nat) (p:VP) (v:Value),ps[j]?=some p->vs[j]?=some v->p.p S w v
def bu(P:Program)(f:FuncId)(ps:List VP)(hs:List HP)(φ:γ->Prop)(hs':γ->List HP)(q:γ->VP):Prop:=
 ∀(w:World) (S F:BS) (vs:Array Value),(∀k,S k->k<w.heap.size)->(∀k,F k->k<w.heap.size)->(∀k,S k->¬F k)->dR hs F S w->hU ps S w vs.toList->
  Calls P f vs w λe w'=>∃v S' F' g,e= .returned v/\j6 ⟨w,S,F,0,none,[]⟩ w' S' F'/\φ g/\dR (hs' g) F' S' w'/\(q g).p S' w' v
def dF(P:Program)(f:FuncId)(ps:List VP)(q:VP):Prop:=bu P f ps [] (γ:=Unit) (λ_=>True) (λ_=>[]) (λ_=>q)
def args(ps:List VP):Env:=ps.zipIdx.map λ(p,i)=>(i,p)
theorem nX:∀(ps:List VP) (k t:Nat) (q:VP),look ((ps.zipIdx k).map λ(p,i)=>(i,p)) t=some q->∃j,t=k+j/\ps[j]?=some q
 |[],_,_,_,h=>by cases h
 |p::ps,k,t,q,h=>by
  rw[List.zipIdx_cons,List.map_cons] at h;simp only[bX] at h;by_cases e:k=t
  · rw[if_pos e] at h;exact⟨0,by omega,by simpa using h⟩
  · rw[if_neg e] at h
    obtain⟨j,h1,h2⟩:=nX ps (k+1) t q h;exact⟨j+1,by omega,by simpa using h2⟩
def Post(P:Program)(fn:Func)(c:Ctx)(φ:γ->Prop)(hs':γ->List HP)(q:γ->VP):Exit->Act->World->Prop:=
 bodyPost P fn λe w'=>∃v S' F' g,e= .returned v/\j6 ⟨c.w0,c.S0,c.M,0,none,[]⟩ w' S' F'/\φ g/\dR (hs' g) F' S' w'/\(q g).p S' w' v
theorem bu.intro{P:Program}{f:FuncId}{fn:Func}{x:Code}{ps:List VP}{hs:List HP}{γ:Type}{φ:γ->Prop}{hs':γ->List HP}{q:γ->VP}
    (n:Nat) (hf:P.funcs[f]?=some fn) (hb:fn.body=some x) (hnt:fn.ntmps=n) (hn:Nat.ble ps.length n=true)
    (h:∀(w0:World) (S0 M:BS),aU P (Post P fn ⟨w0,S0,M,n,none,[]⟩ φ hs' q) ⟨w0,S0,M,n,none,[]⟩ x hs (args ps)):bu P f ps hs φ hs' q:=by
  intro w S F vs hS hF hSF hown hall;have hlen:ps.length=vs.size:=by simpa using hall.1
  have hn':ps.length<=n:=by simpa using hn
  refine calls_of_wp hf hb (wpIn_wide.1 (h w S F _ _ ⟨rfl,?_,S,F,?_,hown,?_⟩))
  · simp;omega
  · exact⟨rfl,rfl,rfl,Nat.le_refl _,λ_ _ _=>rfl,hSF,hS,hF,λk hk=> .inl hk,λk hk=> .inl hk,λ_ hk=>hk⟩
  · intro t q' hl
    obtain⟨j,hj,hq⟩:=nX ps 0 t q' hl;have xO:t=j:=by omega
    subst xO;have hjl:t<ps.length:=(List.getElem?_eq_some_iff.1 hq).1;have Mi:t<vs.size:=by omega
    have:(vs++Array.replicate (fn.ntmps-vs.size) undef).getD t undef=vs[t]:=by simp[Array.getElem?_append,Mi]
    rw[this];exact hall.2 t q' _ hq (by simp[Mi])
theorem Post.aC7{fn:Func}{c:Ctx}{φ:γ->Prop}{hs':γ->List HP}{q:γ->VP}{env:Env}{t:Tmp}{x:VP}
    (hr:fn.results= #[.tmp t]) (hl:look env t=some x) (g:γ) (hφ:φ g) (hh:∀F S w,dR hs F S w->dR (hs' g) F S w) (hx:aa x (q g)) (hdf:c.df=[]:=by rfl):bS (Post P fn c φ hs' q) .ret c hs env:=by
  intro a w hst;obtain⟨h1,h2,S,F,h3,h4,h5⟩:=hst;exact⟨h1.trans hdf,_,results_tmp hr _ _ _,_,S,F,g,rfl,⟨h3.os,h3.tape,h3.output,h3.size,h3.kept,h3.eg,h3.bZ,h3.cK,h3.own,h3.shr,h3.base⟩,hφ,hh _ _ _ h4,hx _ _ _ (h5 t x hl)⟩
theorem Post.aC8{fn:Func}{c:Ctx}{env:Env}{t:Tmp}{x:VP}
    (hr:fn.results= #[.tmp t]) (hl:look env t=some x) (hx:aa x q) (hdf:c.df=[]:=by rfl):bS (Post P fn c (γ:=Unit) (λ_=>True) (λ_=>[]) (λ_=>q)) .ret c hs env:=
  Post.aC7 hr hl () trivial (λ_ _ _ _=>trivial) hx hdf
def aZ(qs:List VP):VP:=⟨λS w v=>∃vs:Array Value,v= .tuple vs/\hU qs S w vs.toList,
 λh1 h2 ⟨vs,hv,hl,hp⟩=>⟨vs,hv,hl,λj p v hj uH=>p.mono h1 h2 (hp j p v hj uH)⟩⟩
section
variable {P:Program} {hs:List HP} {env:Env} {q:VP} {dst:Option Tmp} {ty T T':TypeId} {pos:String} {after:Array Edge} {g:Option (Nat×Bool)}
structure Rho(env:Env)(S:BS)(w:World)(ρ:Operand->Value):Prop where
 c:∀v,ρ (.const v)=v
 f:∀f,ρ (.func f)= .func (.func f) #[] #[]
 o:∀x q,bA env x q->q.p S w (ρ x)
theorem Rho.of{env:Env}{S:BS}{w:World}{a:Act}(h:dI env S w a.tmps):Rho env S w a.eval:=⟨λ_=>rfl,λ_=>rfl,λx q hx=>hx S w a h⟩
theorem bw.of_run {o:Oper} (h:∀(ρ:Operand->Value) (w:World) (S F:BS),(∀k,S k->k<w.heap.size)->(∀k,F k->k<w.heap.size)->(∀k,S k->¬F k)->dR hs F S w->Rho env S w ρ->
    ∃v w' S',(execOp ρ o).run P w= .ok (.value v) w'/\gq w w' S S'/\q.p S' w' v):bw P hs env o q:=by
  intro a w S F h1 h2 h3 h4 h5 K Q hk;obtain⟨v,w',S',hr,hg,hq⟩:=h a.eval w S F h1 h2 h3 h4 (Rho.of h5);unfold Oper.wp;rw[hr];exact hk v w' S' hg hq
theorem bw.aM{o:Oper}(h:∀(ρ:Operand->Value) (w:World) (S F:BS),dR hs F S w->Rho env S w ρ->∃v,(execOp ρ o).run P w= .ok (.value v) w/\q.p S w v):bw P hs env o q:=
 bw.of_run λa w S F _ _ _ h4 h5=>let ⟨v,h,hq⟩:=h a w S F h4 h5;⟨v,w,S,h,gq.refl _ _,hq⟩
theorem gu{x:Operand}(h:bA env x q):bw P hs env ⟨dst, .move x,ty,pos,after,g⟩ q:=
 bw.aM λρ w S F _ he=>⟨ρ x,rfl,he.o _ _ h⟩
theorem bf{x:Operand}(h:bA env x q):bw P hs env ⟨dst, .assign x,ty,pos,after,g⟩ q:=
 bw.aM λρ w S F _ he=>⟨ρ x,rfl,he.o _ _ h⟩
variable {k:IntKind} {n m:Int} {x y z:Operand}
theorem QN(hx:bA env x (af k n))(hy:bA env y (af k m)):bw P hs env ⟨dst, .binOp .add T x y T',ty,pos,after,g⟩ (af k (k.wrap (n+m))):=
 bw.aM λρ w S F _ he=>by
  have h1:=he.o _ _ hx;have h2:=he.o _ _ hy;simp only[ag] at h1 h2
  exact⟨_,by simp[execOp,h1,h2,go_sem,Op.intArith],rfl⟩
theorem QO(hx:bA env x (af k n))(hy:bA env y (af k m)):bw P hs env ⟨dst, .binOp .sub T x y T',ty,pos,after,g⟩ (af k (k.wrap (n-m))):=
 bw.aM λρ w S F _ he=>by
  have h1:=he.o _ _ hx;have h2:=he.o _ _ hy;simp only[ag] at h1 h2
  exact⟨_,by simp[execOp,h1,h2,go_sem,Op.intArith],rfl⟩
theorem Wy(hx:bA env x (af k n))(hy:bA env y (af k m)):bw P hs env ⟨dst, .binOp .mul T x y T',ty,pos,after,g⟩ (af k (k.wrap (n*m))):=
 bw.aM λρ w S F _ he=>by
  have h1:=he.o _ _ hx;have h2:=he.o _ _ hy;simp only[ag] at h1 h2
  exact⟨_,by simp[execOp,h1,h2,go_sem,Op.intArith],rfl⟩
def fits(k:IntKind)(n:Int):Prop:=k.min<=n/\n<=k.max
theorem fm{k:IntKind}{n:Int}(h:fits k n):k.wrap n=n:=by
 obtain⟨h1,h2⟩:=h;cases k<;>simp[IntKind.wrap,IntKind.min,IntKind.max,IntKind.signed,IntKind.bits] at* <;>omega
theorem cM{n:Int}(h1: -9223372036854775808<=n)(h2:n<=9223372036854775807):fits .i64 n:=by
 constructor<;>simp[IntKind.min,IntKind.max,IntKind.signed,IntKind.bits]<;>omega
theorem z7{n:Int}(h1:0<=n)(h2:n<=18446744073709551615):fits .u64 n:=by
 constructor<;>simp[IntKind.min,IntKind.max,IntKind.signed,IntKind.bits]<;>omega
theorem Mj{n:Int}(h1:0<=n)(h2:n<=255):fits .u8 n:=by
 constructor<;>simp[IntKind.min,IntKind.max,IntKind.signed,IntKind.bits]<;>omega
theorem Gh{n:Int}(h1:0<=n)(h2:n<=4294967295):fits .u32 n:=by
 constructor<;>simp[IntKind.min,IntKind.max,IntKind.signed,IntKind.bits]<;>omega
theorem ez(hx:bA env x (af k n))(hy:bA env y (af k m))(h:fits k (n+m)):bw P hs env ⟨dst, .binOp .add T x y T',ty,pos,after,g⟩ (af k (n+m)):=
 (QN hx hy).le (aa.int (fm h))
theorem iy(hx:bA env x (af k n))(hy:bA env y (af k m))(h:fits k (n-m)):bw P hs env ⟨dst, .binOp .sub T x y T',ty,pos,after,g⟩ (af k (n-m)):=
 (QO hx hy).le (aa.int (fm h))
theorem z8(hx:bA env x (af k n))(hy:bA env y (af k m))(h:fits k (n*m)):bw P hs env ⟨dst, .binOp .mul T x y T',ty,pos,after,g⟩ (af k (n*m)):=
 (Wy hx hy).le (aa.int (fm h))
theorem aa2(hx:bA env x (af k n))(hy:bA env y (af k m)):bw P hs env ⟨dst, .binOp .lss T x y T',ty,pos,after,g⟩ (av (n<m)):=
 bw.aM λρ w S F _ he=>by
  have h1:=he.o _ _ hx;have h2:=he.o _ _ hy;simp only[ag] at h1 h2
  exact⟨.bool (decide (n<m)),by simp[execOp,h1,h2,go_sem],_,rfl,by simp⟩
theorem aa3(hx:bA env x (af k n))(hy:bA env y (af k m)):bw P hs env ⟨dst, .binOp .leq T x y T',ty,pos,after,g⟩ (av (n<=m)):=
 bw.aM λρ w S F _ he=>by
  have h1:=he.o _ _ hx;have h2:=he.o _ _ hy;simp only[ag] at h1 h2
  exact⟨.bool (decide (n<=m)),by simp[execOp,h1,h2,go_sem],_,rfl,by simp⟩
theorem aa4(hx:bA env x (af k n))(hy:bA env y (af k m)):bw P hs env ⟨dst, .binOp .gtr T x y T',ty,pos,after,g⟩ (av (m<n)):=
 bw.aM λρ w S F _ he=>by
  have h1:=he.o _ _ hx;have h2:=he.o _ _ hy;simp only[ag] at h1 h2
  exact⟨.bool (decide (n>m)),by simp[execOp,h1,h2,go_sem],_,rfl,by simp⟩
theorem aa5(hx:bA env x (af k n))(hy:bA env y (af k m)):bw P hs env ⟨dst, .binOp .geq T x y T',ty,pos,after,g⟩ (av (m<=n)):=
 bw.aM λρ w S F _ he=>by
  have h1:=he.o _ _ hx;have h2:=he.o _ _ hy;simp only[ag] at h1 h2
  exact⟨.bool (decide (n≥m)),by simp[execOp,h1,h2,go_sem],_,rfl,by simp⟩
theorem aa6(hx:bA env x (af k n))(hy:bA env y (af k m)):bw P hs env ⟨dst, .binOp .eql T x y T',ty,pos,after,g⟩ (av (n=m)):=
 bw.aM λρ w S F _ he=>by
  have h1:=he.o _ _ hx;have h2:=he.o _ _ hy;simp only[ag] at h1 h2
  exact⟨.bool (n==m),by simp[execOp,h1,h2,go_sem],_,rfl,by simp⟩
theorem aa7(hx:bA env x (af k n))(hy:bA env y (af k m)):bw P hs env ⟨dst, .binOp .neq T x y T',ty,pos,after,g⟩ (av (n≠m)):=
 bw.aM λρ w S F _ he=>by
  have h1:=he.o _ _ hx;have h2:=he.o _ _ hy;simp only[ag] at h1 h2
  exact⟨.bool (n !=m),by simp[execOp,h1,h2,go_sem],_,rfl,by simp⟩
variable {p r:Prop}
theorem aa8(hx:bA env x (av p)):bw P hs env ⟨dst, .unOp .not T x,ty,pos,after,g⟩ (av (¬p)):=
 bw.aM λρ w S F _ he=>by
  obtain⟨b,hb,hp⟩:=he.o _ _ hx;exact⟨.bool (!b),by simp[execOp,hb,go_sem,Op.unary],_,rfl,by rw[<-hp];simp⟩
theorem Xt(hT:P.underlying T=some .bool)(hx:bA env x (av p))(hy:bA env y (av r)):bw P hs env ⟨dst, .binOp .eql T x y T',ty,pos,after,g⟩ (av (p↔r)):=
 bw.aM λρ w S F _ he=>by
  obtain⟨b,hb,hp⟩:=he.o _ _ hx;obtain⟨b',hb',hp'⟩:=he.o _ _ hy;exact⟨.bool (b==b'),by simp[execOp,hb,hb',go_sem,hT],_,rfl,by rw[<-hp,<-hp'];cases b<;>cases b'<;>simp⟩
theorem aa9(hx:bA env x (av p))(hy:bA env y (fK p (av r))):bw P hs env ⟨dst, .pick x y (.const (.bool false)),ty,pos,after,g⟩ (av (p/\r)):=
 bw.aM λρ w S F _ he=>by
  obtain⟨b,hb,hp⟩:=he.o _ _ hx;have h2:=he.o _ _ hy;cases b with
  |false=>exact⟨.bool false,by simp[execOp,hb,go_sem,he.c],_,rfl,by simp at hp ⊢;exact λh=>(hp h).elim⟩
  |true=>
   have hp':p:=hp.1 rfl;obtain⟨b',hb',hr⟩:=h2.1 hp';exact⟨.bool b',by simp[execOp,hb,hb',go_sem],_,rfl,by rw[hr];simp[hp']⟩
theorem aC9(hx:bA env x (av p))(hy:bA env y (fK (¬p) (av r))):bw P hs env ⟨dst, .pick x (.const (.bool true)) y,ty,pos,after,g⟩ (av (p\/r)):=
 bw.aM λρ w S F _ he=>by
  obtain⟨b,hb,hp⟩:=he.o _ _ hx;have h2:=he.o _ _ hy;cases b with
  |true=>exact⟨.bool true,by simp[execOp,hb,go_sem,he.c],_,rfl,by simp[hp.1 rfl]⟩
  |false=>
   have hp':¬p:=λh=>by have:=hp.2 h;cases this
   obtain⟨b',hb',hr⟩:=h2.1 hp';exact⟨.bool b',by simp[execOp,hb,hb',go_sem],_,rfl,by rw[hr];simp[hp']⟩
theorem bA.when{c:Prop}(hx:bA env x (fK c q))(h:c):bA env x q:=λS w a he=>(hx S w a he).1 h
class Flat(q:VP):Prop where
 flat:∀{S w v},q.p S w v->v.cells= #[v]/\v.oneCell'=true
instance (k:IntKind) (n:Int):Flat (ag (.int k n)):=⟨λh=>by subst h;exact⟨rfl,rfl⟩⟩
instance (b:Bool):Flat (ag (.bool b)):=⟨λh=>by subst h;exact⟨rfl,rfl⟩⟩
instance (s:ByteArray):Flat (ag (.string s)):=⟨λh=>by subst h;exact⟨rfl,rfl⟩⟩
instance (a:Option Addr):Flat (ag (.pointer a)):=⟨λh=>by subst h;exact⟨rfl,rfl⟩⟩
instance (a:Option Addr) (l c:Nat):Flat (ag (.slice a l c)):=⟨λh=>by subst h;exact⟨rfl,rfl⟩⟩
instance:Flat (ag .nilFunc):=⟨λh=>by subst h;exact⟨rfl,rfl⟩⟩
instance:Flat (ag .nilIface):=⟨λh=>by subst h;exact⟨rfl,rfl⟩⟩
instance (m:Option Nat):Flat (ag (.map m)):=⟨λh=>by subst h;exact⟨rfl,rfl⟩⟩
instance (f:Fn) (a b:Array Value):Flat (ag (.func f a b)):=⟨λh=>by subst h;exact⟨rfl,rfl⟩⟩
instance (p:Prop):Flat (av p):=⟨λ⟨b,h,_⟩=>by subst h;exact⟨rfl,rfl⟩⟩
def cT(S:BS)(w:World)(b off:Nat)(cs:List VP):Prop:=∀(j:Nat) (q:VP),cs[j]?=some q->∃v,w.cell? ⟨b,off+j,none⟩=some v/\q.p S w v
theorem C3{w w':World}{b off:Nat}(h:w'.heap[b]?=w.heap[b]?):w'.cell? ⟨b,off,none⟩=w.cell? ⟨b,off,none⟩:=by simp[World.cell?,h]
theorem cT.mono{S S':BS}{w w':World}{b off:Nat}{cs:List VP}(hS:∀k,S k->S' k)(eS:∀k,S k->w'.heap[k]?=w.heap[k]?)(hb:S b)(h:cT S w b off cs):cT S' w' b off cs:=
 λj q hj=>let ⟨v,hv,hq⟩:=h j q hj;⟨v,by rw[C3 (eS b hb)];exact hv,q.mono hS eS hq⟩
theorem cT.drop{S:BS}{w:World}{b off:Nat}{cs:List VP}(k:Nat)(h:cT S w b off cs):cT S w b (off+k) (cs.drop k):=
 λj q hj=>by have:=h (k+j) q (by rw[List.getElem?_drop] at hj;exact hj);rwa [<-Nat.add_assoc] at this
def ck(cs:List VP):VP:=⟨λS w v=>∃b off,v= .pointer (some ⟨b,off,none⟩)/\S b/\cT S w b off cs,
 λh1 h2 ⟨b,off,hv,hb,hc⟩=>⟨b,off,hv,h1 b hb,hc.mono h1 h2 hb⟩⟩
instance (cs:List VP):Flat (ck cs):=⟨λ⟨_,_,h,_⟩=>by subst h;exact⟨rfl,rfl⟩⟩
def aC(cs:List VP):VP:=⟨λS w v=>∃arr:Array Value,v= .agg arr/\arr.size=cs.length/\∀(j:Nat) (q:VP),cs[j]?=some q->∃u,arr[j]?=some u/\q.p S w u,
 λh1 h2 ⟨arr,hv,hn,hc⟩=>⟨arr,hv,hn,λj q hj=>let ⟨u,hu,hq⟩:=hc j q hj;⟨u,hu,q.mono h1 h2 hq⟩⟩⟩
def l9(P:Program)(T:TypeId):Option Bool:=(P.underlying T).map λ| .struct _| .array _ _=>true|_=>false
theorem fq{b:Bool}(h:l9 P T=some b)(w:World):(isAgg T).run P w= .ok b w:=by
 unfold l9 at h;cases hu:P.underlying T with
 |none=>simp[hu] at h
 |some d=>
  simp only[hu,Option.map_some,Option.some.injEq] at h;subst h;cases d<;>simp[isAgg,run_underlying hu]
theorem run_sizeOf{n:Nat}(h:P.cellsOf T=n)(hn:Nat.blt 0 n=true)(w:World):(sizeOf T).run P w= .ok n w:=by
 have hn':0<n:=by simpa using hn
 unfold Program.cellsOf at h;cases hi:P.info? T with
 |none=>simp[hi] at h;omega
 |some i=>simp[hi] at h;subst h;simp[sizeOf,typeInfo,hi]
theorem bH{α β:Type}{s:Sem α}{f:α->Sem β}{w w':World}{a:α}(h:s.run P w= .ok a w'):(s>>=f).run P w=(f a).run P w':=by
 rw[Sem.run_bind,h];rfl
theorem pU{cs:List VP}(hT:l9 P T=some false)(hx:bA env x (ck (q::cs))):bw P hs env ⟨dst, .load T x,ty,pos,after,g⟩ q:=
 bw.aM λρ w S F _ he=>by
  obtain⟨b,off,hv,hb,hc⟩:=he.o _ _ hx;obtain⟨v,uH,hq⟩:=hc 0 q rfl;refine⟨v,?_,hq⟩
  have h1:(loadVar T ⟨b,off,none⟩).run P w= .ok v w:=by
   unfold loadVar;rw[bH (fq hT w)];simp only[Nat.add_zero] at uH;simp[uH]
  simp[execOp,hv,Instr.loadAt,Instr.sureAddr,h1]
theorem run_loadCellsFrom{b off:Nat}:∀(n i:Nat) (acc:Array Value) (w:World) (vs:List Value),vs.length=n->(∀j v,vs[j]?=some v->w.cell? ⟨b,off+(i+j),none⟩=some v)->
    (loadCellsFrom ⟨b,off,none⟩ i n acc).run P w= .ok (acc++vs.toArray) w
  | 0,i,acc,w,vs,hn,h=>by
    have:vs=[]:=List.length_eq_zero_iff.1 hn;subst this;simp[loadCellsFrom,go_sem]
  |n+1,i,acc,w,[],hn,h=>by cases hn
  | n +1,i,acc,w,v::vs,hn,h=>by
    have h0:w.cell? (Addr.add ⟨b,off,none⟩ i)=some v:=by
      have:=h 0 v rfl;unfold Addr.add
      split
      · rename_i hi;subst hi;simpa using this
      · simpa using this
    have hl:(load (Addr.add ⟨b,off,none⟩ i)).run P w= .ok v w:=by simp[load,Sem.run,h0]
    unfold loadCellsFrom
    rw[bH hl,run_loadCellsFrom n (i+1) (acc.push v) w vs (by simpa using hn) (λj u hj=>by
      have:=h (j+1) u (by simpa using hj)
      rwa [show i+(j+1)=i+1+j by omega] at this)]
    simp
theorem qQ{S:BS}{w:World}{b off:Nat}:∀(cs:List VP),cT S w b off cs->∃vs:List Value,vs.length=cs.length/\(∀j v,vs[j]?=some v->w.cell? ⟨b,off+j,none⟩=some v)/\∀(j:Nat) (q:VP),cs[j]?=some q->∃u,vs[j]?=some u/\q.p S w u
 |[],_=>⟨[],rfl,λ_ _ h=>by simp at h,λ_ _ h=>by simp at h⟩
 |c::cs,h=>by
  obtain⟨v,hv,hq⟩:=h 0 c rfl;have h':cT S w b (off+1) cs:=h.drop 1;obtain⟨vs,h1,h2,h3⟩:=qQ cs h';refine⟨v::vs,by simp[h1],λj u hj=>?_,λj q hj=>?_⟩
  · cases j with
    |zero=>simp at hj;subst hj;simpa using hv
    |succ j=>have:=h2 j u (by simpa using hj);rwa [show off+(j+1)=off+1+j by omega]
  · cases j with
    |zero=>simp at hj;subst hj;exact⟨v,rfl,hq⟩
    |succ j=>obtain⟨u,hu,hq⟩:=h3 j q (by simpa using hj);exact⟨u,by simpa using hu,hq⟩
theorem cT.take{S:BS}{w:World}{b off:Nat}{cs:List VP}(k:Nat)(h:cT S w b off cs):cT S w b off (cs.take k):=
 fun j q hj=>h j q (by
  rw[List.getElem?_take] at hj
  split at hj
  · exact hj
  · cases hj)
theorem o5{S:BS}{w:World}{b off n:Nat}{cs:List VP}(hT:l9 P T=some true)(hn:P.cellsOf T=n)(h0:Nat.blt 0 n=true)(hl:cs.length=n)(hc:cT S w b off cs):
    ∃v,(loadVar T ⟨b,off,none⟩).run P w= .ok v w/\(aC cs).p S w v:=by
  obtain⟨vs,h1,h2,h3⟩:=qQ _ hc;refine⟨.agg vs.toArray,?_,vs.toArray,rfl,by simp[h1],λj q hj=>by obtain⟨u,hu,hq⟩:=h3 j q hj;exact⟨u,by simpa using hu,hq⟩⟩;unfold loadVar;rw[bH (fq hT w)];simp only[if_true]
  have:(loadCells ⟨b,off,none⟩ n).run P w= .ok vs.toArray w:=by
    have:=run_loadCellsFrom (P:=P) (b:=b) (off:=off) n 0 #[] w vs (by omega) (λj v hj=>by simpa using h2 j v hj);simpa[loadCells] using this
  simp[run_sizeOf hn h0 w,this]
theorem wj{cs:List VP}{n:Nat}(hT:l9 P T=some true)(hn:P.cellsOf T=n)(h0:Nat.blt 0 n=true)(hx:bA env x (ck cs))(hl:Nat.ble n cs.length=true):
    bw P hs env ⟨dst, .load T x,ty,pos,after,g⟩ (aC (cs.take n)):=
  bw.aM λρ w S F _ he=>by
    obtain⟨b,off,hv,hb,hc⟩:=he.o _ _ hx;have hl':n<=cs.length:=by simpa using hl
    obtain⟨v,hr,hq⟩:=o5 hT hn h0 (cs:=cs.take n) (by simp;omega) (hc.take n);refine⟨v,?_,hq⟩;simp[execOp,hv,Instr.loadAt,Instr.sureAddr,hr]
def z9(P:Program)(T:TypeId)(f:Nat):Option Nat:=
 match P.underlying T with
 |some (.struct fs)=>match fs[f]? with
  |some fd=>if P.cellsOf fd.type=0 then none else some fd.offset
  |none=>none
 |_=>none
theorem yF{f off k b:Nat}(h:z9 P T f=some k)(w:World):(Instr.fieldAt T (.pointer (some ⟨b,off,none⟩)) f).run P w= .ok (.pointer (some ⟨b,off+k,none⟩)) w:=by
 unfold z9 at h
 split at h
 · rename_i fs hu
   split at h
   · rename_i fd hf
     split at h
     · cases h
     · rename_i hz
       simp only[Option.some.injEq] at h;have hs:(sizeOf fd.type).run P w= .ok (P.cellsOf fd.type) w:=run_sizeOf rfl (by simp;omega) w
       have oo:Addr.add ⟨b,off,none⟩ fd.offset=⟨b,off+k,none⟩:=by
        unfold Addr.add
        split
        · rename_i h0;simp
        · simp[h]
       simp[Instr.fieldAt,Instr.sureAddr,run_underlying hu,hf,fieldPlace,hs,hz,oo]
   · cases h
 · cases h
theorem Up{cs:List VP}{f k:Nat}(h:z9 P T f=some k)(hx:bA env x (ck cs)):bw P hs env ⟨dst, .fieldAddr T x f,ty,pos,after,g⟩ (ck (cs.drop k)):=
 bw.aM λρ w S F _ he=>by
  obtain⟨b,off,hv,hb,hc⟩:=he.o _ _ hx;exact⟨_,by simp[execOp,hv,yF h],b,off+k,rfl,hb,hc.drop k⟩
theorem QS{cs:List VP}(hx:bA env x (ck cs)):bw P hs env ⟨dst, .nilCheck x,ty,pos,after,g⟩ (ck cs):=
 bw.aM λρ w S F _ he=>by
  have h:=he.o _ _ hx;obtain⟨b,off,hv,hb,hc⟩:=h;exact⟨_,by simp[execOp,hv,go_sem],b,off,rfl,hb,hc⟩
abbrev Uq:VP:=ag (.pointer none)
theorem QT{cs:List VP}{E:TypeId}(hT:P.underlying T=some (.pointer E))(hx:bA env x (ck cs)):bw P hs env ⟨dst, .binOp .eql T x (.const (.pointer none)) T',ty,pos,after,g⟩ (av False):=
 bw.aM λρ w S F _ he=>by
  obtain⟨b,off,hv,hb,hc⟩:=he.o _ _ hx;exact⟨.bool false,by simp[execOp,hv,he.c,go_sem,hT],_,rfl,by simp⟩
theorem QU{cs:List VP}{E:TypeId}(hT:P.underlying T=some (.pointer E))(hx:bA env x (ck cs)):bw P hs env ⟨dst, .binOp .neq T x (.const (.pointer none)) T',ty,pos,after,g⟩ (av True):=
 bw.aM λρ w S F _ he=>by
  obtain⟨b,off,hv,hb,hc⟩:=he.o _ _ hx;exact⟨.bool true,by simp[execOp,hv,he.c,go_sem,hT],_,rfl,by simp⟩
theorem Gi{E:TypeId}(hT:P.underlying T=some (.pointer E))(hx:bA env x Uq):bw P hs env ⟨dst, .binOp .eql T x (.const (.pointer none)) T',ty,pos,after,g⟩ (av True):=
 bw.aM λρ w S F _ he=>by
  have hv:=he.o _ _ hx;simp only[ag] at hv
  exact⟨.bool true,by simp[execOp,hv,he.c,go_sem,hT],_,rfl,by simp⟩
theorem Gj{E:TypeId}(hT:P.underlying T=some (.pointer E))(hx:bA env x Uq):bw P hs env ⟨dst, .binOp .neq T x (.const (.pointer none)) T',ty,pos,after,g⟩ (av False):=
 bw.aM λρ w S F _ he=>by
  have hv:=he.o _ _ hx;simp only[ag] at hv
  exact⟨.bool false,by simp[execOp,hv,he.c,go_sem,hT],_,rfl,by simp⟩
def ai{α:Type}(n:Nat)(enc:α->List VP)(xs:List α):VP:=
  ⟨fun S w v=>∃(a:Option Addr) (cap:Nat),v= .slice a xs.length cap/\xs.length<=cap/\xs.length<=281474976710656/\
      (match a with|none=>cap=0|some ad=>cap≠0->ad.spot=none/\S ad.block/\∀(i:Nat) (x:α),xs[i]?=some x->cT S w ad.block (ad.off+i*n) (enc x)),
   fun{S S' w w' v} h1 h2 ⟨a,cap,hv,hc,hm,h⟩=>⟨a,cap,hv,hc,hm,by
      cases a with
      |none=>exact h
      |some ad=>exact λh0=>let h:=h h0;⟨h.1,h1 _ h.2.1,λi x hx=>(h.2.2 i x hx).mono h1 h2 h.2.1⟩⟩⟩
instance {α:Type} (n:Nat) (enc:α->List VP) (xs:List α):Flat (ai n enc xs):=⟨λ⟨_,_,h,_⟩=>by subst h;exact⟨rfl,rfl⟩⟩
theorem cw{α:Type}{n:Nat}{enc:α->List VP}{xs:List α}{S:BS}{w:World}{v:Value}(h:(ai n enc xs).p S w v):xs.length<=281474976710656:=h.choose_spec.choose_spec.2.2.1
theorem aE{α:Type}(n:Nat)(enc:α->List VP):aa (ag (.slice none 0 0)) (ai n enc []):=
 λS w v h=>⟨none,0,h,by simp,by simp,rfl⟩
theorem Mk{α:Type}{n:Nat}{enc:α->List VP}{xs:List α}{E:TypeId}{ats:Array TypeId}(Aa:ats[0]?=some T)(hT:P.underlying T=some (.slice E))(hx:bA env x (ai n enc xs)):
    bw P hs env ⟨dst, .call ⟨.builtin .len, #[x],ats⟩,ty,pos,after,g⟩ (af .i64 (xs.length:Int)):=
  bw.aM λρ w S F _ he=>by
    obtain⟨ad,cap,hv,_⟩:=he.o _ _ hx;exact⟨_,by simp[execOp,resolve,invoke,builtin,Builtin.len_,Aa,hv,run_underlying hT,goInt],rfl⟩
theorem aW{α:Type}{n:Nat}{enc:α->List VP}{xs:List α}{E:TypeId}{i:Int}{j:Nat}{e:α}(hT:P.underlying T=some (.slice E))(hE:P.cellsOf E=n)(h0:Nat.blt 0 n=true)
    (hx:bA env x (ai n enc xs)) (hy:bA env y (af k i)) (hi:i=(j:Int)) (hj:xs[j]?=some e):bw P hs env ⟨dst, .indexAddr T x y,ty,pos,after,g⟩ (ck (enc e)):=
  bw.aM λρ w S F _ he=>by
    obtain⟨ad,cap,hv,hc,hm,h⟩:=he.o _ _ hx;have h2:=he.o _ _ hy;simp only[ag] at h2
    have hjl:j<xs.length:=(List.getElem?_eq_some_iff.1 hj).1;cases ad with
    |none=>simp at h;omega
    | some ad=>
      obtain⟨b,off,sp⟩:=ad;obtain⟨hsp,hb,hel⟩:=h (by omega);simp only at hsp hb hel;subst hsp
      refine⟨.pointer (some ⟨b,off+j*n,none⟩),?_,b,off+j*n,rfl,hb,hel j e hj⟩
      have oo:Addr.add ⟨b,off,none⟩ (j*n)=⟨b,off+j*n,none⟩:=by
        unfold Addr.add
        split
        · rename_i h0;simp
        · rfl
      have hs:=run_sizeOf (T:=E) hE h0 w;subst hi;simp[execOp,hv,h2,Instr.indexAt,asIntOf,run_underlying hT,hs,oo,hjl]
theorem cL(w:World)(o:Obj)(k:Nat)(h:k<w.heap.size):(w.heap.push o)[k]?=w.heap[k]?:=by
 rw[Array.getElem?_push,if_neg (by omega)]
theorem gq.new1(w:World)(S:BS)(o:Obj):gq w {w with heap:=w.heap.push o} S (λk=>S k\/k=w.heap.size):=
 ⟨rfl,rfl,rfl,by simp,λk hk=>cL w o k hk,λ_ h=> .inl h,λk hk=>hk.elim .inl (λh=> .inr ⟨by omega,by simp[h]⟩)⟩
theorem gq.Xu(w:World)(S:BS)(o:Obj):gq w {w with heap:=w.heap.push o} S S:=
 ⟨rfl,rfl,rfl,by simp,λk hk=>cL w o k hk,λ_ h=>h,λk hk=> .inl hk⟩
theorem xP{S:BS}{w:World}{cs:List VP}{arr:Array Value}{T:TypeId}(hd:∀k,S k->k<w.heap.size)(hn:arr.size=cs.length)(h:∀(j:Nat) (q:VP),cs[j]?=some q->∃u,arr[j]?=some u/\q.p S w u):
    cT (λk=>S k\/k=w.heap.size) {w with heap:=w.heap.push (.cells arr T)} w.heap.size 0 cs:=λj q hj=>by
  obtain⟨u,hu,hq⟩:=h j q hj;refine⟨u,?_,(gq.new1 w S (.cells arr T)).vp hd hq⟩;simp[World.cell?,hu]
theorem QV{cs:List VP}(hx:bA env x (aC cs)):bw P hs env ⟨dst, .box T x,ty,pos,after,g⟩ (ck cs):=
 bw.of_run λρ w S F hd _ _ _ he=>by
  obtain⟨arr,hv,hn,hc⟩:=he.o _ _ hx;refine⟨.pointer (some ⟨w.heap.size,0,none⟩),_,_,?_,gq.new1 w S (.cells arr T),w.heap.size,0,rfl, .inr rfl,xP hd hn hc⟩;simp[execOp,hv,Instr.box,newVar,newRow,Value.cells]
theorem ab0[Flat q](hx:bA env x q):bw P hs env ⟨dst, .box T x,ty,pos,after,g⟩ (ck [q]):=
 bw.of_run λρ w S F hd _ _ _ he=>by
  have hv:=he.o _ _ hx;have hf:=(Flat.flat hv).1;refine⟨.pointer (some ⟨w.heap.size,0,none⟩),_,_,?_,gq.new1 w S (.cells #[ρ x] T),w.heap.size,0,rfl, .inr rfl,xP hd (by simp) (λj q' hj=>?_)⟩
  · simp[execOp,Instr.box,newVar,newRow,hf]
  · cases j with
    |zero=>simp at hj;subst hj;exact⟨_,rfl,hv⟩
    |succ j=>simp at hj
def j7(P:Program)(f:FuncId):Bool:=match P.funcs[f]? with|some fn=> !(fn.name=="runtime.NumGoroutine") && fn.body.isSome|none=>false
theorem fX{f:FuncId}(h:j7 P f=true)(vs:Array Value)(w:World):(callFunc f vs).run P w= .ok (.enter f vs) w:=by
 unfold j7 at h
 split at h
 · rename_i fn hf
   simp only[Bool.and_eq_true,Bool.not_eq_true'] at h;have h3:¬fn.name="runtime.NumGoroutine":=by simpa using h.1
   obtain⟨c,hc⟩:=Option.isSome_iff_exists.1 h.2;simp[callFunc,hf,h3,hc]
 · cases h
def kU(env:Env)(xs:List Operand)(ps:List VP):Prop:=∀S w (a:Act),dI env S w a.tmps->hU ps S w (xs.map a.eval)
theorem kU.nil:kU env [] []:=λ_ _ _ _=>⟨rfl,λ_ _ _ h=>by simp at h⟩
theorem kU.cons{x:Operand}{xs:List Operand}{ps:List VP}(h:bA env x q)(t:kU env xs ps):kU env (x::xs) (q::ps):=λS w a he=>by
 obtain⟨h1,h2⟩:=t S w a he;refine⟨by simpa using h1,λj p v hp hv=>?_⟩;cases j with
 |zero=>simp at hp hv;subst hp;subst hv;exact h S w a he
 |succ j=>exact h2 j p v (by simpa using hp) (by simpa using hv)
theorem sB{f:FuncId}{xs:List Operand}{ats:Array TypeId}(hb:j7 P f=true)(a:Act)(w:World):
    (execOp a.eval ⟨dst, .call ⟨.value (.func f),xs.toArray,ats⟩,ty,pos,after,g⟩).run P w= .ok (.enter f (xs.map a.eval).toArray) w:=by
  have h:=fX hb (xs.map a.eval).toArray w;simp[execOp,resolve,Act.eval,Deferred.ofValue,invoke] at h ⊢;exact h
theorem cg{f:FuncId}{xs:List Operand}{ats:Array TypeId}{ps:List VP}(hf:dF P f ps q)(hb:j7 P f=true)(hx:kU env xs ps):
    bw P hs env ⟨dst, .call ⟨.value (.func f),xs.toArray,ats⟩,ty,pos,after,g⟩ q:=by
  intro a w S F h1 h2 h3 h4 h5 K Q hk;unfold Oper.wp;rw[sB hb];refine(hf w S (λ_=>False) _ h1 (λ_ h=>h.elim) (λ_ _ h=>h) trivial (by simpa using hx S w a h5)).mono ?_;rintro e w' ⟨v,S',F',_,rfl,aI,_,_,hq⟩;refine hk v w' S' ⟨aI.os,aI.tape,aI.output,aI.size,λk hk=>aI.kept k hk (λh=>h),aI.base,λk hk=>?_⟩ hq;rcases aI.shr k hk with h|h|h
  · exact .inl h
  · exact h.elim
  · exact .inr ⟨h,aI.bZ k hk⟩
theorem dW{ps:List VP}{i:Nat}(hx:bA env x (aZ ps))(hi:ps[i]?=some q):bw P hs env ⟨dst, .extract x i,ty,pos,after,g⟩ q:=
 bw.aM λρ w S F _ he=>by
  obtain⟨vs,hv,hl,hp⟩:=he.o _ _ hx;have hi':i<vs.size:=by have:=(List.getElem?_eq_some_iff.1 hi).1;simp at hl;omega
  refine⟨vs[i],?_,hp i q _ hi (by simp[hi'])⟩;simp[execOp,hv,Instr.extract,hi']
end
def pV(P:Program){A:Type}(ok:A->Prop)(arg:A->List VP)(res:A->VP):VP:=
  ⟨fun S w v=>∃(f:FuncId) (first cap:Array Value),v= .func (.func f) first cap/\j7 P f=true/\∀(S':BS) (w':World),(∀k,S k->S' k)->(∀k,S k->w'.heap[k]?=w.heap[k]?)->(∀k,S' k->k<w'.heap.size)->
      ∀a,ok a->∀vs:List Value,hU (arg a) S' w' vs->Calls P f (first++vs.toArray++cap) w' λe w''=>∃u S'' F'',e= .returned u/\j6 ⟨w',S',λ_=>False,0,none,[]⟩ w'' S'' F''/\(res a).p S'' w'' u,
   λ{S S' w w' v} h1 h2 ⟨f,fi,ca,hv,hc,h⟩=>⟨f,fi,ca,hv,hc,λS'' w'' g1 g2 g3=>h S'' w'' (λk hk=>g1 k (h1 k hk)) (λk hk=>(g2 k (h1 k hk)).trans (h2 k hk)) g3⟩⟩
theorem hU.app{ps qs:List VP}{vs us:List Value}(h:hU ps S w vs)(k:hU qs S w us):hU (ps++qs) S w (vs++us):=by
 refine⟨by simp[h.1,k.1],λj p v hp hv=>?_⟩;by_cases hj:j<ps.length
 · rw[List.getElem?_append_left hj] at hp
   rw[List.getElem?_append_left (by rw[<-h.1];exact hj)] at hv;exact h.2 j p v hp hv
 · rw[List.getElem?_append_right (by omega)] at hp
   rw[List.getElem?_append_right (by rw[<-h.1];omega)] at hv;rw[<-h.1] at hv;exact k.2 _ p v hp hv
theorem hU.mono{ps:List VP}{S S':BS}{w w':World}{vs:List Value}(h1:∀k,S k->S' k)(h2:∀k,S k->w'.heap[k]?=w.heap[k]?)(h:hU ps S w vs):hU ps S' w' vs:=
 ⟨h.1,λj p v hp hv=>p.mono h1 h2 (h.2 j p v hp hv)⟩
section
variable {P:Program} {hs:List HP} {env:Env} {q:VP} {dst:Option Tmp} {ty T T':TypeId} {pos:String} {after:Array Edge} {g:Option (Nat×Bool)} {x y z:Operand}
theorem Ml{A:Type}{ok:A->Prop}{arg:A->List VP}{res:A->VP}{f:FuncId}{fs cs:List VP}(hcb:j7 P f=true)(hf:∀a,ok a->dF P f (fs++arg a++cs) (res a)){S:BS}{w:World}{first cap:List Value}
    (h1:hU fs S w first) (h2:hU cs S w cap):(pV P ok arg res).p S w (.func (.func f) first.toArray cap.toArray):=by
  refine⟨f,_,_,rfl,hcb,λS' w' g1 g2 g3 a ha vs hvs=>?_⟩;refine(hf a ha w' S' (λ_=>False) _ g3 (λ_ h=>h.elim) (λ_ _ h=>h) trivial ?_).mono ?_
  · have:=((h1.mono g1 g2).app hvs).app (h2.mono g1 g2)
    simpa using this
  · rintro e w'' ⟨v,S'',F'',_,rfl,aI,_,_,hq⟩
    exact⟨v,S'',F'',rfl,aI,hq⟩
theorem tU{A:Type}{ok:A->Prop}{arg:A->List VP}{res:A->VP}{f:FuncId}(hcb:j7 P f=true)(hf:∀a,ok a->dF P f (arg a) (res a)):aa (ag (.func (.func f) #[] #[])) (pV P ok arg res):=
 fun S w v hv=>by
  subst hv;exact Ml (fs:=[]) (cs:=[]) (first:=[]) (cap:=[]) hcb (λa ha=>by simpa using hf a ha) ⟨rfl,λ_ _ _ h=>by simp at h⟩ ⟨rfl,λ_ _ _ h=>by simp at h⟩
theorem cU{A:Type}{ok:A->Prop}{arg:A->List VP}{res:A->VP}{f:FuncId}{fs cs:List VP}{xs ys:List Operand}(hcb:j7 P f=true)(h1:kU env xs fs)(h2:kU env ys cs)(hf:∀a,ok a->dF P f (fs++arg a++cs) (res a)):
    bw P hs env ⟨dst, .makeFunc (.func f) xs.toArray ys.toArray,ty,pos,after,g⟩ (pV P ok arg res):=by
  intro a w S F _ _ _ _ he K Q hk;unfold Oper.wp;refine hk _ w S (gq.refl _ _) ?_;have:=Ml (P:=P) hcb hf (h1 S w a he) (h2 S w a he);simpa using this
instance {A:Type} (ok:A->Prop) (arg:A->List VP) (res:A->VP):Flat (pV P ok arg res):=⟨λ⟨_,_,_,h,_⟩=>by subst h;exact⟨rfl,rfl⟩⟩
theorem Ur{A:Type}{ok:A->Prop}{arg:A->List VP}{res:A->VP}{xs:List Operand}{ats:Array TypeId}(a:A)(hx:bA env x (pV P ok arg res))(ha:ok a)(hxs:kU env xs (arg a)):
    bw P hs env ⟨dst, .call ⟨.value x,xs.toArray,ats⟩,ty,pos,after,g⟩ (res a):=by
  intro ac w S F h1 h2 h3 h4 h5 K Q hk;obtain⟨f,first,cap,hv,hcb,hc⟩:=hx S w ac h5
  have hr:(execOp ac.eval ⟨dst, .call ⟨.value x,xs.toArray,ats⟩,ty,pos,after,g⟩).run P w= .ok (.enter f (first++(xs.map ac.eval).toArray++cap)) w:=by
    have h:=fX hcb (first++(xs.map ac.eval).toArray++cap) w;simp[execOp,resolve,hv,Deferred.ofValue,invoke] at h ⊢;exact h
  unfold Oper.wp;rw[hr];refine(hc S w (λ_ h=>h) (λ_ _=>rfl) h1 a ha _ (hxs S w ac h5)).mono ?_;rintro e w' ⟨v,S',F',rfl,aI,hq⟩;refine hk v w' S' ⟨aI.os,aI.tape,aI.output,aI.size,λk hk=>aI.kept k hk (λh=>h),aI.base,λk hk=>?_⟩ hq;rcases aI.shr k hk with h|h|h
  · exact .inl h
  · exact h.elim
  · exact .inr ⟨h,aI.bZ k hk⟩
def dV(l:List UInt8):VP:=⟨λ_ _ v=>v= .string ⟨l.toArray⟩/\l.length<=281474976710656,λ_ _ h=>h⟩
instance (l:List UInt8):Flat (dV l):=⟨λ⟨h,_⟩=>by subst h;exact⟨rfl,rfl⟩⟩
theorem je{l:List UInt8}{S:BS}{w:World}{v:Value}(h:(dV l).p S w v):l.length<=281474976710656:=h.2
theorem sC:aa (ag (.string ⟨#[]⟩)) (dV []):=λ_ _ v hv=>⟨hv,by simp⟩
theorem bA.s{b:ByteArray}(l:List UInt8)(h:b.data.toList=l)(hl:Nat.ble l.length 281474976710656=true):bA env (.const (.string b)) (dV l):=λS w a _=>by
 subst h;exact⟨rfl,by simpa using hl⟩
theorem wk(b:ByteArray):b.toList=b.data.toList:=by
  have key:∀(n i:Nat) (r:List UInt8),b.size-i=n→ByteArray.toList.loop b i r=r.reverse++b.data.toList.drop i:=by
    intro n
    induction n with
    | zero=>
      intro i r h;unfold ByteArray.toList.loop;rw[if_neg (by omega)]
      have : b.data.toList.drop i = [] := List.drop_eq_nil_of_le (by have:b.data.toList.length=b.size:=Array.length_toList
                                                                     omega)
      simp[this]
    | succ n ih=>
      intro i r h;unfold ByteArray.toList.loop;have hi:i<b.size:=by omega
      rw[if_pos hi,ih (i+1) _ (by omega)]
      have hl : i < b.data.toList.length := by have:b.data.toList.length=b.size:=Array.length_toList
                                               omega
      rw[List.drop_eq_getElem_cons hl];have hd:b.data.size=b.size:=rfl;simp[ByteArray.get!,hi,hd]
  have:=key b.size 0 [] (by omega);simpa[ByteArray.toList] using this
theorem Xv{l:List UInt8}{ats:Array TypeId}(Aa:ats[0]?=some T)(hT:P.underlying T=some .string)(hx:bA env x (dV l)):bw P hs env ⟨dst, .call ⟨.builtin .len, #[x],ats⟩,ty,pos,after,g⟩ (af .i64 (l.length:Int)):=
 bw.aM λρ w S F _ he=>by
  obtain⟨hv,_⟩:=he.o _ _ hx;have hs:(ByteArray.mk l.toArray).size=l.length:=by show l.toArray.size=_;simp
  exact⟨.int .i64 (l.length:Int),by simp[execOp,resolve,invoke,builtin,Builtin.len_,Aa,hv,run_underlying hT,goInt,hs,-ByteArray.size_data],rfl⟩
theorem qk{l:List UInt8}{k:IntKind}{i:Int}{j:Nat}{e:UInt8}(hT:P.underlying T=some .string)(hx:bA env x (dV l))(hy:bA env y (af k i))(hi:i=(j:Int))(hj:l[j]?=some e):
    bw P hs env ⟨dst, .index T x y,ty,pos,after,g⟩ (af .u8 (e.toNat:Int)):=
  bw.aM λρ w S F _ he=>by
    obtain⟨hv,_⟩:=he.o _ _ hx;have h2:=he.o _ _ hy;simp only[ag] at h2
    subst hi;have hjl:j<l.length:=(List.getElem?_eq_some_iff.1 hj).1;have he':l[j]=e:=(List.getElem?_eq_some_iff.1 hj).2;have hs:(ByteArray.mk l.toArray).size=l.length:=by show l.toArray.size=_;simp
    have hg:(ByteArray.mk l.toArray)[j]?=some e:=by
      rw[getElem?_pos _ j (by rw[hs];exact hjl)];simp[ByteArray.getElem_eq_getElem_data,he']
    exact⟨.int .u8 (e.toNat:Int),by simp[execOp,hv,h2,Instr.index,asIntOf,run_underlying hT,hg],rfl⟩
theorem QW{l m:List UInt8}(hx:bA env x (dV l))(hy:bA env y (dV m)):bw P hs env ⟨dst, .binOp .eql T x y T',ty,pos,after,g⟩ (av (l=m)):=
 bw.aM λρ w S F _ he=>by
  obtain⟨hv,_⟩:=he.o _ _ hx;obtain⟨uH,_⟩:=he.o _ _ hy;exact⟨.bool (l==m),by simp[execOp,hv,uH,eqGuard,binOp,Op.stringOp,wk],_,rfl,by simp⟩
theorem QX{l m:List UInt8}(hx:bA env x (dV l))(hy:bA env y (dV m)):bw P hs env ⟨dst, .binOp .neq T x y T',ty,pos,after,g⟩ (av (l≠m)):=
 bw.aM λρ w S F _ he=>by
  obtain⟨hv,_⟩:=he.o _ _ hx;obtain⟨uH,_⟩:=he.o _ _ hy;exact⟨.bool (!(l==m)),by simp[execOp,hv,uH,eqGuard,binOp,Op.stringOp,wk],_,rfl,by simp⟩
theorem rY{l m:List UInt8}(hx:bA env x (dV l))(hy:bA env y (dV m))(hl:l.length+m.length<=281474976710656):bw P hs env ⟨dst, .binOp .add T x y T',ty,pos,after,g⟩ (dV (l++m)):=
 bw.aM λρ w S F _ he=>by
  obtain⟨hv,_⟩:=he.o _ _ hx;obtain⟨uH,_⟩:=he.o _ _ hy;refine⟨.string ⟨(l++m).toArray⟩,?_,rfl,by simpa using hl⟩
  have h1:¬(((ByteArray.mk l.toArray).size+(ByteArray.mk m.toArray).size:Nat):Int)>IntKind.i64.max:=by
   have e1:(ByteArray.mk l.toArray).size=l.length:=by show l.toArray.size=_;simp
   have e2:(ByteArray.mk m.toArray).size=m.length:=by show m.toArray.size=_;simp
   rw[e1,e2];simp[IntKind.max,IntKind.signed,IntKind.bits];omega
  have h2:ByteArray.mk l.toArray++ByteArray.mk m.toArray=ByteArray.mk (l++m).toArray:=by
   apply ByteArray.ext;simp
  simp[execOp,hv,uH,eqGuard,binOp,Op.stringOp,h2] at h1 ⊢;exact h1
theorem QY{k:IntKind}{n m:Int}{ats:Array TypeId}(hx:bA env x (af k n))(hy:bA env y (af k m)):bw P hs env ⟨dst, .call ⟨.builtin .max, #[x,y],ats⟩,ty,pos,after,g⟩ (af k (max n m)):=
 bw.aM λρ w S F _ he=>by
  have h1:=he.o _ _ hx;have h2:=he.o _ _ hy;simp only[ag] at h1 h2
  refine⟨.int k (if m>n then m else n),by simp[execOp,resolve,invoke,builtin,Builtin.max_,h1,h2,Builtin.max2],?_⟩
  show Value.int k _=Value.int k _
  congr 1;split<;>omega
theorem C4{k:IntKind}{n m:Int}{ats:Array TypeId}(hx:bA env x (af k n))(hy:bA env y (af k m)):bw P hs env ⟨dst, .call ⟨.builtin .min, #[x,y],ats⟩,ty,pos,after,g⟩ (af k (min n m)):=
 bw.aM λρ w S F _ he=>by
  have h1:=he.o _ _ hx;have h2:=he.o _ _ hy;simp only[ag] at h1 h2
  refine⟨.int k (if m<n then m else n),by simp[execOp,resolve,invoke,builtin,Builtin.min_,h1,h2,Builtin.min2],?_⟩
  show Value.int k _=Value.int k _
  congr 1;split<;>omega
theorem cO{k k':IntKind}{n:Int}{D:TypeDesc}(h1:P.underlying T=some D)(h2:P.underlying T'=some (.int k'))(hx:bA env x (af k n)):bw P hs env ⟨dst, .convert T T' x,ty,pos,after,g⟩ (af k' (k'.wrap n)):=
 bw.aM λρ w S F _ he=>by
  have hv:=he.o _ _ hx;simp only[ag] at hv
  exact⟨_,by simp[execOp,hv,convert,run_underlying h1,run_underlying h2,Conv.intToInt],rfl⟩
theorem jW{k k':IntKind}{n:Int}{D:TypeDesc}(h1:P.underlying T=some D)(h2:P.underlying T'=some (.int k'))(hx:bA env x (af k n))(h:fits k' n):bw P hs env ⟨dst, .convert T T' x,ty,pos,after,g⟩ (af k' n):=
 (cO h1 h2 hx).le (aa.int (fm h))
abbrev ax(b off:Nat):VP:=ag (.pointer (some ⟨b,off,none⟩))
def az(b:Nat)(cs:List VP):HP:=
 ⟨λF S w=>F b/\∃(arr:Array Value) (T:TypeId),w.heap[b]?=some (.cells arr T (0,0))/\arr.size=cs.length/\∀(j:Nat) (q:VP),cs[j]?=some q->∃u,arr[j]?=some u/\q.p S w u,
  λh1 h2 h3 h4 ⟨hF,arr,T,hh,hn,hc⟩=>⟨h1 b hF,arr,T,(h3 b hF).trans hh,hn,λj q hj=>let ⟨u,hu,hq⟩:=hc j q hj;⟨u,hu,q.mono h2 h4 hq⟩⟩⟩
theorem dR.zj{hs:List HP}{F S:BS}{w:World}(h:dR hs F S w){i:Nat}{h0:HP}(hi:hs[i]?=some h0):
    ∃ F1 F2:BS,(∀k,F1 k->F k/\¬F2 k)/\(∀k,F2 k->F k)/\h0.p F1 S w/\dR (hs.eraseIdx i) F2 S w/\
      ∀(S' F1':BS) (w':World) (h1:HP),(∀k,F1' k->¬F2 k)->(∀k,S k->S' k)->(∀k,F2 k->w'.heap[k]?=w.heap[k]?)->(∀k,S k->w'.heap[k]?=w.heap[k]?)->h1.p F1' S' w'->dR (hs.set i h1) (λk=>F1' k\/F2 k) S' w':=by
  induction hs generalizing F i with
  |nil=>simp at hi
  | cons a hs ih=>
    obtain⟨G1,G2,g1,g2,g3,g4⟩:=h;cases i with
    | zero=>
      simp at hi;subst hi
      refine⟨G1,G2,g1,g2,g3,g4,λS' F1' w' h1 k1 k2 k3 k4 k5=>⟨F1',G2,λk hk=>⟨.inl hk,k1 k hk⟩,λk hk=> .inr hk,k5,g4.mono (λ_ h=>h) k2 k3 k4⟩⟩
    | succ i=>
      obtain⟨F1,F2,f1,f2,f3,f5,f4⟩:=ih g4 (i:=i) (by simpa using hi);refine⟨F1,λk=>F2 k\/G1 k,λk hk=>⟨g2 k (f1 k hk).1,λh=>h.elim (f1 k hk).2 (λhg=>(g1 k hg).2 (f1 k hk).1)⟩,λk hk=>hk.elim (λh=>g2 k (f2 k h)) (λh=>(g1 k h).1),f3,?_,?_⟩
      · exact⟨G1,F2,λk hk=>⟨.inr hk,λhf=>(g1 k hk).2 (f2 k hf)⟩,λk hk=> .inl hk,g3,f5⟩
      intro S' F1' w' h1 k1 k2 k3 k4 k5;have:=f4 S' F1' w' h1 (λk hk hf=>k1 k hk (.inl hf)) k2 (λk hk=>k3 k (.inl hk)) k4 k5;refine⟨G1,λk=>F1' k\/F2 k,?_,?_,a.mono (λ_ h=>h) k2 (λk hk=>k3 k (.inr hk)) k4 g3,this⟩
      · exact λk hk=>⟨.inr (.inr hk),λh=>h.elim (λhf=>k1 k hf (.inr hk)) (λhf=>(g1 k hk).2 (f2 k hf))⟩
      · exact λk hk=>hk.elim .inl (λh=> .inr (.inl h))
theorem dR.get{hs:List HP}{F S:BS}{w:World}(h:dR hs F S w){i:Nat}{h0:HP}(hi:hs[i]?=some h0):∃F1:BS,(∀k,F1 k->F k)/\h0.p F1 S w:=
 let ⟨F1,_,h1,_,h3,_,_⟩:=h.zj hi;⟨F1,λk hk=>(h1 k hk).1,h3⟩
theorem mc{b:Nat}{cs:List VP}{F S:BS}{w:World}(h:(az b cs).p F S w):cT S w b 0 cs:=λj q hj=>by
 obtain⟨_,arr,T,hh,_,hc⟩:=h;obtain⟨u,hu,hq⟩:=hc j q hj;exact⟨u,by simp[World.cell?,hh,hu],hq⟩
theorem kK{cs:List VP}{b off i:Nat}(hT:l9 P T=some false)(hx:bA env x (ax b off))(hi:hs[i]?=some (az b cs))(hc:cs[off]?=some q):bw P hs env ⟨dst, .load T x,ty,pos,after,g⟩ q:=
 bw.aM λρ w S F ho he=>by
  have hv:=he.o _ _ hx;simp only[ag] at hv
  obtain⟨F1,_,hp⟩:=ho.get hi;obtain⟨v,uH,hq⟩:=mc hp off q hc;refine⟨v,?_,hq⟩
  have h1:(loadVar T ⟨b,off,none⟩).run P w= .ok v w:=by
   unfold loadVar;rw[bH (fq hT w)];simp only[Nat.zero_add] at uH;simp[uH]
  simp[execOp,hv,Instr.loadAt,Instr.sureAddr,h1]
theorem mP{cs:List VP}{b off i n:Nat}(hT:l9 P T=some true)(hn:P.cellsOf T=n)(h0:Nat.blt 0 n=true)(hx:bA env x (ax b off))(hi:hs[i]?=some (az b cs))(hl:Nat.ble (off+n) cs.length=true):
    bw P hs env ⟨dst, .load T x,ty,pos,after,g⟩ (aC ((cs.drop off).take n)):=
  bw.aM λρ w S F ho he=>by
    have hv:=he.o _ _ hx;simp only[ag] at hv
    obtain⟨F1,_,hp⟩:=ho.get hi;have hl':off+n<=cs.length:=by simpa using hl
    have hc:cT S w b off (cs.drop off):=by have:=(mc hp).drop off;simpa using this
    obtain⟨v,hr,hq⟩:=o5 hT hn h0 (cs:=(cs.drop off).take n) (by simp;omega) (hc.take n);exact⟨v,by simp[execOp,hv,Instr.loadAt,Instr.sureAddr,hr],hq⟩
theorem Gk{b off f k:Nat}(h:z9 P T f=some k)(hx:bA env x (ax b off)):bw P hs env ⟨dst, .fieldAddr T x f,ty,pos,after,g⟩ (ax b (off+k)):=
 bw.aM λρ w S F _ he=>by
  have hv:=he.o _ _ hx;simp only[ag] at hv
  exact⟨_,by simp[execOp,hv,yF h],rfl⟩
theorem NT{b off:Nat}(hx:bA env x (ax b off)):bw P hs env ⟨dst, .nilCheck x,ty,pos,after,g⟩ (ax b off):=
 bw.aM λρ w S F _ he=>by
  have hv:=he.o _ _ hx;simp only[ag] at hv
  exact⟨_,by simp[execOp,hv],rfl⟩
theorem dy{b off:Nat}{E:TypeId}(hT:P.underlying T=some (.pointer E))(hx:bA env x (ax b off)):bw P hs env ⟨dst, .binOp .eql T x (.const (.pointer none)) T',ty,pos,after,g⟩ (av False):=
 bw.aM λρ w S F _ he=>by
  have hv:=he.o _ _ hx;simp only[ag] at hv
  exact⟨.bool false,by simp[execOp,hv,he.c,go_sem,hT],_,rfl,by simp⟩
theorem C5{b off:Nat}{E:TypeId}(hT:P.underlying T=some (.pointer E))(hx:bA env x (ax b off)):bw P hs env ⟨dst, .binOp .neq T x (.const (.pointer none)) T',ty,pos,after,g⟩ (av True):=
 bw.aM λρ w S F _ he=>by
  have hv:=he.o _ _ hx;simp only[ag] at hv
  exact⟨.bool true,by simp[execOp,hv,he.c,go_sem,hT],_,rfl,by simp⟩
theorem j6.gJ{c:Ctx}{w:World}{S F:BS}(h:j6 c w S F)(o:Obj):j6 c {w with heap:=w.heap.push o} S (λk=>k=w.heap.size\/F k) where
  os:=h.os
  tape:=h.tape
  output:=h.output
  size:=by simp;have:=h.size;omega
  kept:=λk hk hm=>(cL w o k (Nat.lt_of_lt_of_le hk h.size)).trans (h.kept k hk hm)
  eg:=λk hk hf=>hf.elim (λe=>by have:=h.bZ k hk;omega) (h.eg k hk)
  bZ:=λk hk=>by have:=h.bZ k hk;simp;omega
  cK := fun k hk => by   rcases hk with hk|hk; · simp[hk]
                         · have:=h.cK k hk;simp;omega
  own:=λk hk=>hk.elim (λe=> .inr (e▸h.size)) (h.own k)
  shr:=h.shr
  base:=h.base
theorem dR.gJ{hs:List HP}{w:World}{S F:BS}(h:dR hs F S w)(hS:∀k,S k->k<w.heap.size)(hF:∀k,F k->k<w.heap.size)(o:Obj){h1:HP}(hp:h1.p (λk=>k=w.heap.size) S {w with heap:=w.heap.push o}):
    dR (h1::hs) (λk=>k=w.heap.size\/F k) S {w with heap:=w.heap.push o}:=
  ⟨fun k=>k=w.heap.size,F,λk hk=>⟨.inl hk,λhf=>by have:=hF k hf;omega⟩,λk hk=> .inr hk,hp,
    h.mono (λ_ h=>h) (λ_ h=>h) (λk hk=>cL w o k (hF k hk)) (λk hk=>cL w o k (hS k hk))⟩
theorem uX{S:BS}{w:World}{cs:List VP}{arr:Array Value}{T:TypeId}(hd:∀k,S k->k<w.heap.size)(hn:arr.size=cs.length)(h:∀(j:Nat) (q:VP),cs[j]?=some q->∃u,arr[j]?=some u/\q.p S w u):
    (az w.heap.size cs).p (λk=>k=w.heap.size) S {w with heap:=w.heap.push (.cells arr T)}:=
  ⟨rfl,arr,T,by simp,hn,λj q hj=>let ⟨u,hu,hq⟩:=h j q hj;⟨u,hu,(gq.Xu w S (.cells arr T)).vp hd hq⟩⟩
theorem cc{cs:List VP}(hx:bA env x (aC cs)):gW P hs env ⟨dst, .box T x,ty,pos,after,g⟩ (γ:=Nat) (λ_=>True) (λb=>az b cs::hs) (λb=>ax b 0):=by
 intro c a w S F aI hown he K Q hk;obtain⟨arr,hv,hn,hc⟩:=hx S w a he
 have hr:(execOp a.eval ⟨dst, .box T x,ty,pos,after,g⟩).run P w= .ok (.value (.pointer (some ⟨w.heap.size,0,none⟩))) {w with heap:=w.heap.push (.cells arr T)}:=by
  simp[execOp,hv,Instr.box,newVar,newRow,Value.cells]
 unfold Oper.wp;rw[hr];exact hk w.heap.size _ _ S _ trivial (aI.gJ _) (λ_ h=>h) (λk hk=>cL w _ k (aI.bZ k hk)) (hown.gJ aI.bZ aI.cK _ (uX aI.bZ hn hc)) rfl
def lG(P:Program)(T:TypeId):Option (List Value):=(P.info? T).bind λi=>i.zero.map λz=>z.cells.toList
theorem jG{zs:List Value}(h:lG P T=some zs)(w:World):∃z,(zeroValue T).run P w= .ok z w/\z.cells=zs.toArray:=by
 unfold lG at h;cases hi:P.info? T with
 |none=>simp[hi] at h
 | some i=>
  cases hz:i.zero with
  |none=>simp[hi,hz] at h
  |some z=>
   simp only[hi,Option.bind_some,hz,Option.map_some,Option.some.injEq] at h;exact⟨z,by simp[zeroValue,typeInfo,hi,hz],by simp[<-h]⟩
theorem au{zs:List Value}(hz:lG P T=some zs):gW P hs env ⟨dst, .alloc T,ty,pos,after,g⟩ (γ:=Nat) (λ_=>True) (λb=>az b (zs.map ag)::hs) (λb=>ax b 0):=by
 intro c a w S F aI hown he K Q hk;obtain⟨z,Mm,Ab⟩:=jG hz w
 have hr:(execOp a.eval ⟨dst, .alloc T,ty,pos,after,g⟩).run P w= .ok (.value (.pointer (some ⟨w.heap.size,0,none⟩))) {w with heap:=w.heap.push (.cells zs.toArray T)}:=by
  simp[execOp,Instr.alloc,Mm,newVar,newRow,Ab]
 unfold Oper.wp;rw[hr];refine hk w.heap.size _ _ S _ trivial (aI.gJ _) (λ_ h=>h) (λk hk=>cL w _ k (aI.bZ k hk)) (hown.gJ aI.bZ aI.cK _ (uX aI.bZ (by simp) λj q' hj=>?_)) rfl;rw[List.getElem?_map] at hj;cases QZ:zs[j]? with
 |none=>rw[QZ] at hj;cases hj
 |some u=>rw[QZ] at hj;cases hj;exact⟨u,by simpa using QZ,rfl⟩
theorem eN(w:World)(a:Addr)(u:Value)(k:Nat)(h:k≠a.block):(w.setCell a u).heap[k]?=w.heap[k]?:=Below.heap_setCell w a u k h
theorem j6.write{c:Ctx}{w w':World}{S F:BS}(h:j6 c w S F){b:Nat}(hb:F b)(h1:w'.os=w.os)(h2:w'.tape=w.tape)(h3:w'.output=w.output)(h4:w'.heap.size=w.heap.size)(h5:∀k,k≠b->w'.heap[k]?=w.heap[k]?):j6 c w' S F where
 os:=h1.trans h.os
 tape:=h2.trans h.tape
 output:=h3.trans h.output
 size:=h4▸h.size
 kept:=λk hk hm=>by
  have hne:k≠b:=λe=>by
   subst e;rcases h.own k hb with h'|h'
   · exact hm h'
   · omega
  exact(h5 k hne).trans (h.kept k hk hm)
 eg:=h.eg
 bZ:=λk hk=>h4▸h.bZ k hk
 cK:=λk hk=>h4▸h.cK k hk
 own:=h.own
 shr:=h.shr
 base:=h.base
theorem pW{v:Value}{b off:Nat}{arr:Array Value}{E:TypeId}{w:World}(hn:P.cellsOf T=1)(hf:v.cells= #[v]/\v.oneCell'=true)(hb:w.heap[b]?=some (.cells arr E (0,0)))(ho:off<arr.size):
    (storeVar T ⟨b,off,none⟩ v).run P w= .ok () (w.setCell ⟨b,off,none⟩ v):=by
  have h1:=hf.2
  have hst:(store ⟨b,off,none⟩ v).run P w= .ok () (w.setCell ⟨b,off,none⟩ v):=by
    rw[run_store _ _ _ _ _ h1];have:w.cell? ⟨b,off,none⟩=some arr[off]:=by simp[World.cell?,hb,ho]
    simp[this,World.frozen?,hb]
  unfold storeVar;rw[bH (run_sizeOf hn rfl w)];simp[hf.1,storeCells,Addr.add,hst]
theorem jf[Flat q]{cs:List VP}{b off i:Nat}(hn:P.cellsOf T=1)(hx:bA env x (ax b off))(hy:bA env y q)(hi:hs[i]?=some (az b cs))(hl:Nat.blt off cs.length=true):
    gW P hs env ⟨none, .store T x y,ty,pos,after,g⟩ (γ:=Unit) (λ_=>True) (λ_=>hs.set i (az b (cs.set off q))) (λ_=>ag undef):=by
  intro c a w S F aI hown he K Q hk;have hv:=hx S w a he;simp only[ag] at hv
  have hu:=hy S w a he;have hl':off<cs.length:=by simpa using hl
  obtain⟨F1,F2,f1,f2,f3,_,f4⟩:=hown.zj hi;obtain⟨hFb,arr,E,hb,hsz,hc⟩:=f3;have ho:off<arr.size:=by omega
  have hr:(execOp a.eval ⟨none, .store T x y,ty,pos,after,g⟩).run P w= .ok .skip (w.setCell ⟨b,off,none⟩ (a.eval y)):=by
    simp[execOp,hv,Instr.storeAt,Instr.sureAddr,pW hn (Flat.flat hu) hb ho]
  unfold Oper.wp;rw[hr];have hne:∀k,k≠b->(w.setCell ⟨b,off,none⟩ (a.eval y)).heap[k]?=w.heap[k]?:=λk hk=>eN w _ _ k hk;have hag:∀k,S k->(w.setCell ⟨b,off,none⟩ (a.eval y)).heap[k]?=w.heap[k]?:=λk hk=>hne k (λe=>aI.eg k hk (e▸(f1 b hFb).1));refine hk () undef _ S F trivial (aI.write (f1 b hFb).1 rfl rfl rfl (by simp[World.setCell]) hne) (λ_ h=>h) hag ?_ rfl
  have:=f4 S F1 (w.setCell ⟨b,off,none⟩ (a.eval y)) (az b (cs.set off q)) (λk hk=>(f1 k hk).2) (λ_ h=>h) (λk hk=>hne k (λe=>(f1 b hFb).2 (e▸hk))) hag
    ⟨hFb,arr.setIfInBounds off (a.eval y),E,by simp[World.setCell,Array.getElem?_modify,hb],by simp[hsz],λj q' hj=>?_⟩
  · exact this.mono (λk hk=>hk.elim (λh=>(f1 k h).1) (f2 k)) (λ_ h=>h) (λ_ _=>rfl) (λ_ _=>rfl)
  · rw[List.getElem?_set] at hj
    by_cases e:off=j
    · subst e
      rw[if_pos rfl,if_pos hl'] at hj;cases hj
      exact⟨a.eval y,by simp[ho],q.mono (λ_ h=>h) hag hu⟩
    · rw[if_neg e] at hj
      obtain⟨u,F6,hq⟩:=hc j q' hj;exact⟨u,by simp[Array.getElem?_setIfInBounds_ne e,F6],q'.mono (λ_ h=>h) hag hq⟩
theorem cv.s{ops:Array Oper}{Q:Exit->Act->World->Prop}{c:Ctx}{l:List Oper}{op:Op}{hs':List HP}{q':VP}(h:gW P hs env ⟨none,op,ty,pos,after,none⟩ (γ:=Unit) (λ_=>True) (λ_=>hs') (λ_=>q'))
    (k:cv P ops Q c l hs' env):cv P ops Q c (⟨none,op,ty,pos,after,none⟩::l) hs env:=cv.e h rfl rfl (λ_ _=>k)
theorem cv.n{ops:Array Oper}{Q:Exit->Act->World->Prop}{c:Ctx}{l:List Oper}{op:Op}{d:Tmp}{γ:Type}{φ:γ->Prop}{hs':γ->List HP}{q':γ->VP}(h:gW P hs env ⟨some d,op,ty,pos,after,none⟩ φ hs' q')(hd:Nat.blt d c.n=true)
    (k:∀b,φ b->cv P ops Q c l (hs' b) ((d,q' b)::env)):cv P ops Q c (⟨some d,op,ty,pos,after,none⟩::l) hs env:=cv.e h rfl (by simpa using hd) k
theorem aU.share{Q:Exit->Act->World->Prop}{c:Ctx}{s:Code}{i b off t:Nat}{cs:List VP}(hi:hs[i]?=some (az b cs))(ht:look env t=some (ax b off))(h:aU P Q c s (hs.eraseIdx i) ((t,ck (cs.drop off))::env)):aU P Q c s hs env:=by
 intro a w ⟨h1,h2,S,F,h3,h4,h5⟩;obtain⟨F1,F2,f1,f2,f3,f5,_⟩:=h4.zj hi;have hb:=f1 b f3.1;have hS:∀k,S k->S k\/k=b:=λ_ h=> .inl h;have hc:cT (λk=>S k\/k=b) w b 0 cs:=λj q hj=>let ⟨v,hv,hq⟩:=mc f3 j q hj;⟨v,hv,q.mono hS (λ_ _=>rfl) hq⟩
 refine h a w ⟨h1,h2,λk=>S k\/k=b,F2,⟨h3.os,h3.tape,h3.output,h3.size,h3.kept,?_,?_,λk hk=>h3.cK k (f2 k hk),λk hk=>h3.own k (f2 k hk),?_,λk hk=> .inl (h3.base k hk)⟩,
  f5.mono (λ_ h=>h) hS (λ_ _=>rfl) (λ_ _=>rfl),λs q hl=>?_⟩
 · exact λk hk hf=>hk.elim (λh=>h3.eg k h (f2 k hf)) (λe=>hb.2 (e▸hf))
 · exact λk hk=>hk.elim (h3.bZ k) (λe=>h3.cK k (e▸hb.1))
 · exact λk hk=>hk.elim (h3.shr k) (λe=>by
    rcases h3.own b hb.1 with h|h
    · exact .inr (.inl (e▸h))
    · exact .inr (.inr (e▸h)))
 · rw[bX] at hl
   by_cases e:t=s
   · rw[if_pos e] at hl;cases hl;subst e
     have hv:=h5 t _ ht;simp only[ag] at hv
     refine⟨b,off,hv, .inr rfl,?_⟩;have:=hc.drop off;simpa using this
   · rw[if_neg e] at hl
     exact q.mono hS (λ_ _=>rfl) (h5 s q hl)
end
class gX{α:Type}(n:outParam Nat)(enc:α->List VP):Prop where
 len:∀x,(enc x).length=n
 flat:∀x q,q∈enc x->Flat q
section
variable {α:Type} {n:Nat} {enc:α->List VP}
theorem gO(h:∀x,(enc x).length=n):∀xs:List α,(xs.flatMap enc).length=xs.length*n
 |[]=>by simp
 |x::xs=>by simp only[List.flatMap_cons,List.length_append,h,gO h xs,List.length_cons,Nat.succ_mul];omega
theorem ql(h:∀x,(enc x).length=n):∀(xs:List α) (i:Nat) (x:α) (j:Nat) (q:VP),xs[i]?=some x->(enc x)[j]?=some q->(xs.flatMap enc)[i*n+j]?=some q
 |[],_,_,_,_,hi,_=>by simp at hi
 |y::xs,0,x,j,q,hi,hj=>by
  simp at hi;subst hi
  have:j<(enc y).length:=(List.getElem?_eq_some_iff.1 hj).1;simp only[List.flatMap_cons,Nat.zero_mul,Nat.zero_add];rw[List.getElem?_append_left this];exact hj
 |y::xs,i+1,x,j,q,hi,hj=>by
  simp only[List.flatMap_cons];rw[List.getElem?_append_right (by rw[h];simp[Nat.succ_mul];omega),h];have:=ql h xs i x j q (by simpa using hi) hj
  rwa [show(i+1)*n+j-n=i*n+j by simp[Nat.succ_mul];omega]
theorem wm(h:∀x,(enc x).length=n)(hn:0<n):∀(xs:List α) (t:Nat) (q:VP),(xs.flatMap enc)[t]?=some q->∃x,xs[t/n]?=some x/\(enc x)[t%n]?=some q
 |[],_,_,ht=>by simp at ht
 |y::xs,t,q,ht=>by
  simp only[List.flatMap_cons] at ht;by_cases hl:t<n
  · rw[List.getElem?_append_left (by rw[h];exact hl)] at ht
    exact⟨y,by simp[Nat.div_eq_of_lt hl],by rwa [Nat.mod_eq_of_lt hl]⟩
  · rw[List.getElem?_append_right (by rw[h];omega),h] at ht
    obtain⟨x,h1,h2⟩:=wm h hn xs (t-n) q ht;have e1:t/n=(t-n)/n+1:=by rw[<-Nat.sub_add_cancel (show n<=t by omega),Nat.add_div_right _ hn];simp
    have e2:t%n=(t-n)%n:=by rw[Nat.mod_eq_sub_mod (by omega)]
    exact⟨x,by rw[e1];simpa using h1,by rw[e2];exact h2⟩
theorem D7(h:∀x,(enc x).length=n)(hn:0<n){S:BS}{w:World}{b off:Nat}{xs:List α}(hc:∀(i:Nat) (x:α),xs[i]?=some x->cT S w b (off+i*n) (enc x)):cT S w b off (xs.flatMap enc):=by
 intro t q ht;obtain⟨x,h1,h2⟩:=wm h hn xs t q ht;obtain⟨v,hv,hq⟩:=hc _ x h1 _ q h2;refine⟨v,?_,hq⟩;rw[Nat.add_assoc] at hv
 rwa [show t/n*n+t%n=t by rw[Nat.mul_comm];exact Nat.div_add_mod t n] at hv
theorem lH(h:∀x,(enc x).length=n){S:BS}{w:World}{b off:Nat}{xs:List α}(hc:cT S w b off (xs.flatMap enc))(i:Nat)(x:α)(hi:xs[i]?=some x):cT S w b (off+i*n) (enc x):=by
 intro j q hj;obtain⟨v,hv,hq⟩:=hc _ q (ql h xs i x j q hi hj);exact⟨v,by rwa [Nat.add_assoc],hq⟩
end
abbrev SB:=Option (Nat×Nat)
def bI(g:SB)(len:Nat):Value:=match g with|none=> .slice none 0 0|some (b,cap)=> .slice (some ⟨b,0,none⟩) len cap
instance (g:SB) (len:Nat):Flat (ag (bI g len)):=⟨λh=>by subst h;cases g<;>exact⟨rfl,rfl⟩⟩
def aH{α:Type}(g:SB)(n:Nat)(enc:α->List VP)(xs:List α):HP:=
  ⟨fun F S w=>match g with
      |none=>xs=[]
      |some (b,cap)=>F b/\xs.length<=cap/\xs.length<=281474976710656/\∃(arr:Array Value) (T:TypeId),w.heap[b]?=some (.cells arr T (0,0))/\arr.size=cap*n/\∀(j:Nat) (q:VP),(xs.flatMap enc)[j]?=some q->∃u,arr[j]?=some u/\q.p S w u,
   fun {F F' S S' w w'} h1 h2 h3 h4 h=>by
      cases g with
      |none=>exact h
      | some bc=>
        obtain⟨b,cap⟩:=bc;obtain⟨hF,hl,hm,arr,T,hh,hn,hc⟩:=h;exact⟨h1 b hF,hl,hm,arr,T,(h3 b hF).trans hh,hn,λj q hj=>let ⟨u,hu,hq⟩:=hc j q hj;⟨u,hu,q.mono h2 h4 hq⟩⟩⟩
theorem lI{P:Program}{b off:Nat}{T:TypeId}:∀(vs:List Value) (i:Nat) (w:World) (arr:Array Value),(∀v∈vs,v.oneCell'=true)->w.heap[b]?=some (.cells arr T (0,0))->off+i+vs.length<=arr.size->
    ∃ (w':World) (arr':Array Value),(storeCells ⟨b,off,none⟩ vs i).run P w= .ok () w'/\w'.os=w.os/\w'.tape=w.tape/\w'.output=w.output/\w'.heap.size=w.heap.size/\(∀k,k≠b->w'.heap[k]?=w.heap[k]?)/\
      w'.heap[b]?=some (.cells arr' T (0,0))/\arr'.size=arr.size/\(∀j,(j<off+i\/off+i+vs.length<=j)->arr'[j]?=arr[j]?)/\∀j v,vs[j]?=some v->arr'[off+i+j]?=some v
  |[],i,w,arr,_,hb,_=>⟨w,arr,by simp[storeCells],rfl,rfl,rfl,rfl,λ_ _=>rfl,hb,rfl,λ_ _=>rfl,λ_ _ h=>by simp at h⟩
  | v ::vs,i,w,arr,hv,hb,hsz=>by
    simp only[List.length_cons] at hsz
    have oo:Addr.add ⟨b,off,none⟩ i=⟨b,off+i,none⟩:=by
      unfold Addr.add
      split
      · rename_i h0;simp
      · rfl
    have hst:(store (Addr.add ⟨b,off,none⟩ i) v).run P w= .ok () (w.setCell ⟨b,off+i,none⟩ v):=by
      rw[oo,run_store _ _ _ _ _ (hv v (List.mem_cons_self ..))]
      have:w.cell? ⟨b,off+i,none⟩=some (arr[off+i]'(by omega)):=by
        have hlt:off+i<arr.size:=by omega
        simp[World.cell?,hb,hlt]
      simp[this,World.frozen?,hb]
    obtain⟨w',arr',h1,h2,h3,h4,h5,h6,h7,h8,h9,h10⟩:=lI (P:=P) (b:=b) (off:=off) (T:=T) vs (i+1) (w.setCell ⟨b,off+i,none⟩ v) (arr.setIfInBounds (off+i) v) (λu hu=>hv u (List.mem_cons_of_mem _ hu))
      (by simp[World.setCell,Array.getElem?_modify,hb]) (by simp;omega)
    refine⟨w',arr',?_,h2,h3,h4,by rw[h5];simp[World.setCell],λk hk=>(h6 k hk).trans (eN w _ _ k hk),h7,by rw[h8];simp,?_,?_⟩
    · unfold storeCells;rw[bH hst];exact h1
    · intro j hj
      rw[h9 j (by simp only[List.length_cons] at hj;omega),Array.getElem?_setIfInBounds_ne (by simp only[List.length_cons] at hj;omega)]
    · intro j u hj
      cases j with
      | zero=>
        simp at hj;subst hj
        rw[h9 (off+i+0) (.inl (by omega))];have:off+i<arr.size:=by omega
        simp[this]
      | succ j=>
        have:=h10 j u (by simpa using hj)
        rwa [show off+i+(j+1)=off+(i+1)+j by omega]
theorem C6(newLen:Nat):∀(r c:Nat),c<=newLen+newLen/4+192->Builtin.growBy newLen r c<=newLen+newLen/4+192
 |0,c,h=>h
 |r+1,c,h=>by
  unfold Builtin.growBy
  split
  · exact h
  · exact C6 newLen r _ (by omega)
theorem nextslicecap_le{need cap:Nat}(h:cap<need):Builtin.nextslicecap need cap<=2*need+256:=by
 unfold Builtin.nextslicecap
 split
 · omega
 · split
   · omega
   · have:=C6 need 4 cap (by omega);omega
section
variable {P:Program} {hs:List HP} {env:Env} {q:VP} {dst:Option Tmp} {ty T T2 T' E:TypeId} {pos:String} {after:Array Edge} {gd:Option (Nat×Bool)} {x y z:Operand}
theorem ga{n:Nat}(h:P.cellsOf E=n)(hn:Nat.blt 0 n=true)(w:World):∃i,(typeInfo E).run P w= .ok i w/\i.bytes=P.bytesOf E:=by
 have hn':0<n:=by simpa using hn
 unfold Program.cellsOf at h;cases hi:P.info? E with
 |none=>simp[hi] at h;omega
 |some i=>exact⟨i,by simp[typeInfo,hi],by simp[Program.bytesOf,hi]⟩
theorem o6{α:Type}{n:Nat}{enc:α->List VP}{xs:List α}(h:∀x,(enc x).length=n)(hn:0<n){S:BS}{w:World}{a:Option Addr}{cap:Nat}
    (hm:match a with|none=>cap=0|some ad=>cap≠0->ad.spot=none/\S ad.block/\∀(i:Nat) (x:α),xs[i]?=some x->cT S w ad.block (ad.off+i*n) (enc x)) (hc:xs.length<=cap):
    ∃vs:List Value,vs.length=xs.length*n/\(∀d:Nat,(Builtin.firstCells n xs.length (.slice a xs.length cap)).run P {w with drawn:=d}= .ok vs.toArray {w with drawn:=d})/\∀(j:Nat) (q:VP),(xs.flatMap enc)[j]?=some q->∃u,vs[j]?=some u/\q.p S w u:=by
  cases a with
  | none=>
    have : xs = [] := by have:xs.length=0:=by simp at hm;omega
                         exact List.length_eq_zero_iff.1 this
    subst this;exact⟨[],by simp,λd=>by simp[Builtin.firstCells],λj q hj=>by simp at hj⟩
  | some ad=>
    by_cases h0:xs=[]
    · subst h0
      exact⟨[],by simp,λd=>by simp[Builtin.firstCells,loadCells,loadCellsFrom],λj q hj=>by simp at hj⟩
    have hxp:0<xs.length:=List.length_pos_iff.2 h0;obtain⟨b,off,sp⟩:=ad;obtain⟨hsp,hb,hel⟩:=hm (by omega);simp only at hsp hb hel;subst hsp
    obtain⟨vs,h1,h2,h3⟩:=qQ _ (D7 h hn hel);refine⟨vs,by rw[h1,gO h],λd=>?_,h3⟩;have:=run_loadCellsFrom (P:=P) (b:=b) (off:=off) (xs.length*n) 0 #[] {w with drawn:=d} vs (by rw[h1,gO h]) (λj v hj=>by simpa[World.cell?] using h2 j v hj);simpa[Builtin.firstCells,loadCells] using this
theorem aK{α:Type}{g:SB}{n by_ i:Nat}{enc:α->List VP}{xs ys:List α}{zs:List Value}{E2:TypeId}[he:gX n enc](hT:P.underlying T=some (.slice E))(Wz:P.underlying T2=some (.slice E2))(hn:P.cellsOf E=n)(h0:Nat.blt 0 n=true)
    (hz:lG P E=some zs) (hzl:zs.length=n) (hb:P.bytesOf E=by_) (hx:bA env x (ag (bI g xs.length))) (hy:bA env y (ai n enc ys)) (hi:hs[i]?=some (aH g n enc xs)) (hroom:(2*(xs.length+ys.length)+256)*by_<=281474976710656) (hlen:xs.length+ys.length<=281474976710656):
    gW P hs env ⟨dst, .call ⟨.builtin .append, #[x,y], #[T,T2]⟩,ty,pos,after,gd⟩ (γ:=SB) (λ_=>True) (λg'=>hs.set i (aH g' n enc (xs++ys))) (λg'=>ag (bI g' (xs++ys).length)):=by
  intro c a w S F aI hown oT K Q hk;have hn0:0<n:=by simpa using h0
  have hv:=hx S w a oT;simp only[ag] at hv
  obtain⟨ya,ycap,Q0,NU,hym,Xw⟩:=hy S w a oT;obtain⟨F1,F2,f1,f2,f3,_,f4⟩:=hown.zj hi;obtain⟨vy,Gl,NV,Q1⟩:=o6 (P:=P) he.len hn0 Xw NU;have hsz:=run_sizeOf hn h0 w
  have aD0:∀v∈vy,v.oneCell'=true:=by
    intro v uH;obtain⟨j,hj⟩:=List.mem_iff_getElem?.1 uH;have hjl:j<(ys.flatMap enc).length:=by rw[gO he.len,<-Gl];exact(List.getElem?_eq_some_iff.1 hj).1
    obtain⟨u,hu,hq⟩:=Q1 j _ (List.getElem?_eq_getElem hjl);rw[hj] at hu;cases hu
    obtain⟨y0,h1,h2⟩:=wm he.len hn0 ys j _ (List.getElem?_eq_getElem hjl);exact((he.flat y0 _ (List.mem_of_getElem? h2)).flat hq).2
  have room:∀(b cap:Nat),g=some (b,cap)->xs.length+ys.length<=cap->Oper.wp P ⟨dst, .call ⟨.builtin .append, #[x,y], #[T,T2]⟩,ty,pos,after,gd⟩ a w K Q:=by
    intro b cap hg hfit;subst hg;obtain⟨hFb,hl,hm,arr,E',Ac,wh,hc⟩:=f3;have hsum:(xs.length+ys.length)*n<=cap*n:=Nat.mul_le_mul_right n hfit;rw[Nat.add_mul] at hsum;obtain⟨w',arr',k1,k2,k3,k4,k5,k6,k7,k8,k9,k10⟩:=lI (P:=P) (b:=b) (off:=xs.length*n) (T:=E') vy 0 w arr aD0 Ac (by rw[Gl,wh];omega)
    have oo:Addr.add ⟨b,0,none⟩ (xs.length*n)=⟨b,xs.length*n,none⟩:=by
      unfold Addr.add
      split
      · rename_i h0;simp
      · simp
    have hr:(execOp a.eval ⟨dst, .call ⟨.builtin .append, #[x,y], #[T,T2]⟩,ty,pos,after,gd⟩).run P w= .ok (.value (bI (some (b,cap)) (xs++ys).length)) w':=by
      simp[execOp,resolve,invoke,builtin,Builtin.append_,hv,Q0,bI,run_underlying hT,run_underlying Wz,hsz,Builtin.lenOf,hfit,NV w.drawn,oo,k1]
    unfold Oper.wp;rw[hr];have hag:∀k,S k->w'.heap[k]?=w.heap[k]?:=λk hk=>k6 k (λe=>aI.eg k hk (e▸(f1 b hFb).1));refine hk (some (b,cap)) _ w' S F trivial (aI.write (f1 b hFb).1 k2 k3 k4 k5 k6) (λ_ h=>h) hag ?_ rfl
    have:=f4 S F1 w' (aH (some (b,cap)) n enc (xs++ys)) (λk hk=>(f1 k hk).2) (λ_ h=>h) (λk hk=>k6 k (λe=>(f1 b hFb).2 (e▸hk))) hag
      ⟨hFb,by simpa using hfit,by simpa using hlen,arr',E',k7,by rw[k8,wh],λj q' hj=>?_⟩
    · exact this.mono (λk hk=>hk.elim (λh=>(f1 k h).1) (f2 k)) (λ_ h=>h) (λ_ _=>rfl) (λ_ _=>rfl)
    · rw[List.flatMap_append] at hj
      by_cases hjl:j<(xs.flatMap enc).length
      · rw[List.getElem?_append_left hjl] at hj
        obtain⟨u,hu,hq⟩:=hc j q' hj;rw[gO he.len] at hjl;exact⟨u,by rw[k9 j (.inl (by omega))];exact hu,q'.mono (λ_ h=>h) hag hq⟩
      · rw[List.getElem?_append_right (by omega)] at hj
        rw[gO he.len] at hj hjl;obtain⟨u,hu,hq⟩:=Q1 _ q' hj;have:=k10 _ u hu;rw[show xs.length*n+0+(j-xs.length*n)=j by omega] at this;exact⟨u,this,q'.mono (λ_ h=>h) hag hq⟩
  have grow:∀(sl:Value) (cap:Nat),sl=bI g xs.length->(∃base,sl= .slice base xs.length cap)->cap<xs.length+ys.length->
      (∃vx:List Value,vx.length=xs.length*n/\(∀d:Nat,(Builtin.firstCells n xs.length sl).run P {w with drawn:=d}= .ok vx.toArray {w with drawn:=d})/\∀(j:Nat) (q:VP),(xs.flatMap enc)[j]?=some q->∃u,vx[j]?=some u/\q.p S w u)->
      Oper.wp P ⟨dst, .call ⟨.builtin .append, #[x,y], #[T,T2]⟩,ty,pos,after,gd⟩ a w K Q:=by
    rintro sl cap Gm ⟨base,rfl⟩ hcap ⟨vx,NW,aD1,aD2⟩;obtain⟨info,hi1,hi2⟩:=ga hn h0 w;obtain⟨zv,Mm,Ab⟩:=jG hz w;obtain⟨zv',hz1',hz2'⟩:=jG hz w.drew;obtain⟨info',hi1',hi2'⟩:=ga hn h0 w.drew;have hbytes:info.bytes=by_:=hi2.trans hb;have an6:info'.bytes=by_:=hi2'.trans hb;have Us:=nextslicecap_le hcap;have hcapB:Builtin.nextslicecap (xs.length+ys.length) cap*by_<=281474976710656:=Nat.le_trans (Nat.mul_le_mul_right _ Us) hroom;have hvy2':(Builtin.firstCells n ys.length (.slice ya ys.length ycap)).run P w.drew= .ok vy.toArray w.drew:=NV (w.drawn+1);have hvx2':(Builtin.firstCells n xs.length (.slice base xs.length cap)).run P w.drew= .ok vx.toArray w.drew:=aD1 (w.drawn+1);generalize Gn:Question.cut (.appendCap (xs.length+ys.length) cap E) (w.tape w.drawn (.appendCap (xs.length+ys.length) cap E))=newCap;have hge:xs.length+ys.length<=newCap:=by rw[<-Gn];simp only[Question.cut];omega
    let row:Array Value:=vx.toArray++vy.toArray++Builtin.zeroCells zv'.cells (newCap-(xs.length+ys.length))
    have hr:(execOp a.eval ⟨dst, .call ⟨.builtin .append, #[x,y], #[T,T2]⟩,ty,pos,after,gd⟩).run P w= .ok (.value (bI (some (w.heap.size,newCap)) (xs++ys).length)) (w.drew.alloc (.cells row E)):=by
      have hnot:¬(xs.length+ys.length<=cap):=by omega
      have D8:¬((9223372036854775807:Int)<((xs.length:Int)+(ys.length:Int))):=by omega
      have Gp:¬(281474976710656<Builtin.nextslicecap (xs.length+ys.length) cap*info.bytes):=by rw[hbytes];omega
      have uH:a.eval x= .slice base xs.length cap:=hv.trans Gm.symm;simp[execOp,resolve,invoke,builtin,Builtin.append_,uH,Q0,bI,run_underlying hT,run_underlying Wz,hsz,Builtin.lenOf,hnot,D8,hi1,Gp,Question.forced,Gn,hi1',hvx2',hvy2',hz1',newRow,row]
    generalize hw':w.drew.alloc (.cells row E)=w' at hr;unfold Oper.wp;rw[hr];have hheap:w'.heap=w.heap.push (.cells row E):=by rw[<-hw'];rfl
    have hold:∀k,k<w.heap.size->w'.heap[k]?=w.heap[k]?:=λk hk=>by rw[hheap];exact cL w _ k hk
    have hag:∀k,S k->w'.heap[k]?=w.heap[k]?:=λk hk=>hold k (aI.bZ k hk);have ab1:zv'.cells.size=n:=by rw[hz2'];simpa using hzl
    have hrow:row.size=newCap*n:=by
      simp only[row,Array.size_append,List.size_toArray,NW,Gl,Builtin.zeroCells,Array.size_map,Array.size_range,ab1];rw[<-Nat.add_mul,<-Nat.add_mul];congr 1;omega
    have ab2:j6 c w' S (λk=>k=w.heap.size\/F k):=by
      have h1:=aI.gJ (.cells row E);exact⟨by rw[<-hw'];exact h1.os,by rw[<-hw'];exact h1.tape,by rw[<-hw'];exact h1.output,by rw[hheap];exact h1.size,λk h2 h3=>by rw[hheap];exact h1.kept k h2 h3,h1.eg,λk hk=>by rw[hheap];exact h1.bZ k hk,λk hk=>by rw[hheap];exact h1.cK k hk,h1.own,h1.shr,h1.base⟩
    have:=f4 S (λk=>k=w.heap.size) w' (aH (some (w.heap.size,newCap)) n enc (xs++ys)) (λk hk hf=>by have:=aI.cK k (f2 k hf);omega) (λ_ h=>h) (λk hk=>hold k (aI.cK k (f2 k hk))) hag
      ⟨rfl,by simpa using hge,by simpa using hlen,row,E,by rw[hheap];simp,hrow,λj q' hj=>?_⟩
    · exact hk (some (w.heap.size,newCap)) _ w' S _ trivial ab2 (λ_ h=>h) hag (this.mono (λk hk=>hk.elim .inl (λh=> .inr (f2 k h))) (λ_ h=>h) (λ_ _=>rfl) (λ_ _=>rfl)) rfl
    · rw[List.flatMap_append] at hj
      by_cases hjl:j<(xs.flatMap enc).length
      · rw[List.getElem?_append_left hjl] at hj
        obtain⟨u,hu,hq⟩:=aD2 j q' hj;rw[gO he.len] at hjl;refine⟨u,?_,q'.mono (λ_ h=>h) hag hq⟩;simp only[row];rw[Array.getElem?_append_left (by simp[NW,Gl];omega),Array.getElem?_append_left (by simp[NW];omega)];simpa using hu
      · rw[List.getElem?_append_right (by omega)] at hj
        have hj2:=(List.getElem?_eq_some_iff.1 hj).1;rw[gO he.len] at hj hjl hj2;rw[gO he.len] at hj2;obtain⟨u,hu,hq⟩:=Q1 _ q' hj;refine⟨u,?_,q'.mono (λ_ h=>h) hag hq⟩;simp only[row];rw[Array.getElem?_append_left (by simp[NW,Gl];omega),Array.getElem?_append_right (by simp[NW];omega)];simpa[NW] using hu
  cases g with
  | none=>
    have hxs:xs=[]:=f3;subst hxs;by_cases hy0:ys=[]
    · subst hy0
      have hr:(execOp a.eval ⟨dst, .call ⟨.builtin .append, #[x,y], #[T,T2]⟩,ty,pos,after,gd⟩).run P w= .ok (.value (bI none 0)) w:=by
        have:=NV w.drawn;simp at this;simp[execOp,resolve,invoke,builtin,Builtin.append_,hv,Q0,bI,run_underlying hT,run_underlying Wz,hsz,Builtin.lenOf,this]
      unfold Oper.wp;rw[hr];refine hk none _ w S F trivial aI (λ_ h=>h) (λ_ _=>rfl) ?_ rfl;have:=f4 S F1 w (aH none n enc ([]++[])) (λk hk=>(f1 k hk).2) (λ_ h=>h) (λ_ _=>rfl) (λ_ _=>rfl) (by show([]++[]:List α)=[];rfl);exact this.mono (λk hk=>hk.elim (λh=>(f1 k h).1) (f2 k)) (λ_ h=>h) (λ_ _=>rfl) (λ_ _=>rfl)
    · have hy1:ys.length≠0:=λh=>hy0 (List.length_eq_zero_iff.1 h)
      refine grow (.slice none 0 0) 0 rfl ⟨none,rfl⟩ (by simp;omega) ⟨[],by simp,λd=>by simp[Builtin.firstCells],λj q hj=>by simp at hj⟩
  | some bc=>
    obtain⟨b,cap⟩:=bc;by_cases hfit:xs.length+ys.length<=cap
    · exact room b cap rfl hfit
    · obtain⟨hFb,hl,hm,arr,E',Ac,wh,hc⟩:=f3
      have zk:cT S w b 0 (xs.flatMap enc):=λj q hj=>let ⟨u,hu,hq⟩:=hc j q hj;⟨u,by simp[World.cell?,Ac,hu],hq⟩
      obtain⟨vs,s1,s2,s3⟩:=qQ _ zk;refine grow _ cap rfl ⟨some ⟨b,0,none⟩,rfl⟩ (by omega) ⟨vs,by rw[s1,gO he.len],λd=>?_,s3⟩;have:=run_loadCellsFrom (P:=P) (b:=b) (off:=0) (xs.length*n) 0 #[] {w with drawn:=d} vs (by rw[s1,gO he.len]) (λj v hj=>by simpa[World.cell?] using s2 j v hj);simpa[Builtin.firstCells,loadCells,bI] using this
theorem aU.eC{Q:Exit->Act->World->Prop}{c:Ctx}{s:Code}{α:Type}{g:SB}{n i t:Nat}{enc:α->List VP}{xs:List α}[he:gX n enc](hi:hs[i]?=some (aH g n enc xs))(ht:look env t=some (ag (bI g xs.length)))
    (h:aU P Q c s (hs.eraseIdx i) ((t,ai n enc xs)::env)):aU P Q c s hs env:=by
  intro a w ⟨h1,h2,S,F,h3,h4,h5⟩;obtain⟨F1,F2,f1,f2,f3,f5,_⟩:=h4.zj hi;have hv:=h5 t _ ht;simp only[ag] at hv
  cases g with
  | none=>
    have hxs:xs=[]:=f3;subst hxs;refine h a w ⟨h1,h2,S,F2,⟨h3.os,h3.tape,h3.output,h3.size,h3.kept,λk hk hf=>h3.eg k hk (f2 k hf),h3.bZ,λk hk=>h3.cK k (f2 k hk),λk hk=>h3.own k (f2 k hk),h3.shr,h3.base⟩,f5,λs q hl=>?_⟩;rw[bX] at hl;by_cases e:t=s
    · rw[if_pos e] at hl;cases hl;subst e;exact⟨none,0,hv,by simp,by simp,rfl⟩
    · rw[if_neg e] at hl;exact h5 s q hl
  | some bc=>
    obtain⟨b,cap⟩:=bc;obtain⟨hFb,hl,hm,arr,T,hh,hn,hc⟩:=f3;have hb:=f1 b hFb;have hS:∀k,S k->S k\/k=b:=λ_ h=> .inl h;have zk:cT (λk=>S k\/k=b) w b 0 (xs.flatMap enc):=λj q hj=>let ⟨u,hu,hq⟩:=hc j q hj;⟨u,by simp[World.cell?,hh,hu],q.mono hS (λ_ _=>rfl) hq⟩
    refine h a w ⟨h1,h2,λk=>S k\/k=b,F2,⟨h3.os,h3.tape,h3.output,h3.size,h3.kept,?_,?_,λk hk=>h3.cK k (f2 k hk),λk hk=>h3.own k (f2 k hk),?_,λk hk=> .inl (h3.base k hk)⟩,
      f5.mono (λ_ h=>h) hS (λ_ _=>rfl) (λ_ _=>rfl),λs q hls=>?_⟩
    · exact λk hk hf=>hk.elim (λh=>h3.eg k h (f2 k hf)) (λe=>hb.2 (e▸hf))
    · exact λk hk=>hk.elim (h3.bZ k) (λe=>h3.cK k (e▸hb.1))
    · exact λk hk=>hk.elim (h3.shr k) (λe=>by
        rcases h3.own b hb.1 with h|h
        · exact .inr (.inl (e▸h))
        · exact .inr (.inr (e▸h)))
    · rw[bX] at hls
      by_cases e:t=s
      · rw[if_pos e] at hls;cases hls;subst e
        refine⟨some ⟨b,0,none⟩,cap,hv,hl,hm,λ_=>⟨rfl, .inr rfl,λi x hx=>?_⟩⟩;exact lH he.len zk i x hx
      · rw[if_neg e] at hls
        exact q.mono hS (λ_ _=>rfl) (h5 s q hls)
theorem aU.fO{Q:Exit->Act->World->Prop}{c:Ctx}{s:Code}{α:Type}(n:Nat)(enc:α->List VP)(h:aU P Q c s (aH none n enc []::hs) env):aU P Q c s hs env:=by
 intro a w ⟨h1,h2,S,F,h3,h4,h5⟩;exact h a w ⟨h1,h2,S,F,h3,⟨λ_=>False,F,λ_ h=>h.elim,λ_ h=>h,rfl,h4⟩,h5⟩
class Mn(q:VP)(cs:outParam (List VP)):Prop where
 part:∀{S w v},q.p S w v->v.cells.size=cs.length/\∀(j:Nat) (p:VP),cs[j]?=some p->∃u,v.cells[j]?=some u/\p.p S w u
instance (cs:List VP):Mn (aC cs) cs:=⟨λ⟨arr,hv,hn,hc⟩=>by subst hv;exact⟨hn,hc⟩⟩
instance [Flat q]:Mn q [q]:=⟨λhv=>by
 have:=(Flat.flat hv).1;rw[this];refine⟨rfl,λj p hj=>?_⟩;cases j with
 |zero=>simp at hj;subst hj;exact⟨_,rfl,hv⟩
 |succ j=>simp at hj⟩
def wo:List VP->List VP->List VP
 |[],base=>base
 |q::qs,_::base=>q::wo qs base
 |qs,[]=>qs
def ig:Nat->List VP->List VP->List VP
 |0,new,base=>wo new base
 |k+1,new,b::base=>b::ig k new base
 |_+1,_,[]=>[]
def sD(place:Nat->Option (Nat×Nat))(base:List VP):List (Nat×List VP)->Option (List VP)
 |[]=>some base
 |(i,new)::r=>match place i with
  |none=>none
  |some (off,size)=>bif Nat.beq new.length size && Nat.ble (off+size) base.length then sD place (ig off new base) r else none
def tV(S:BS)(w:World)(arr:Array Value)(cs:List VP):Prop:=arr.size=cs.length/\∀(j:Nat) (q:VP),cs[j]?=some q->∃u,arr[j]?=some u/\q.p S w u
theorem C7:∀(new base:List VP),new.length<=base.length->(wo new base).length=base.length
 |[],base,_=>rfl
 |q::qs,[],h=>by simp at h
 |q::qs,b::base,h=>by simp[wo,C7 qs base (by simpa using h)]
theorem C8:∀(new base:List VP) (j:Nat),new.length<=base.length->(wo new base)[j]?=if j<new.length then new[j]? else base[j]?
 |[],base,j,_=>by simp[wo]
 |q::qs,[],j,h=>by simp at h
 |q::qs,b::base,0,h=>by simp[wo]
 |q::qs,b::base,j+1,h=>by
  simp only[wo,List.getElem?_cons_succ,List.length_cons,Nat.add_lt_add_iff_right];exact C8 qs base j (by simpa using h)
theorem sE:∀(off:Nat) (new base:List VP),off+new.length<=base.length->(ig off new base).length=base.length
 |0,new,base,h=>C7 new base (by omega)
 |k+1,new,[],h=>by simp at h
 |k+1,new,b::base,h=>by simp[ig,sE k new base (by simp at h;omega)]
theorem o7:∀(off:Nat) (new base:List VP) (j:Nat),off+new.length<=base.length->(ig off new base)[j]?=if off<=j/\j<off+new.length then new[j-off]? else base[j]?
 |0,new,base,j,h=>by
  simp only[ig,C8 new base j (by omega)];simp
 |k+1,new,[],j,h=>by simp at h
 |k+1,new,b::base,0,h=>by simp[ig]
 |k+1,new,b::base,j+1,h=>by
  simp only[ig,List.getElem?_cons_succ];rw[o7 k new base j (by simp at h;omega)];simp only[show(k+1<=j+1/\j+1<k+1+new.length)↔(k<=j/\j<k+new.length) by omega,show j+1-(k+1)=j-k by omega]
theorem uI(vs:Array Value)(off:Nat):∀(l:List (Value×Nat)) (cs:Array Value),(∀p∈l,off+p.2<cs.size)->
    (l.foldl (λcs (p:Value×Nat)=>cs.setIfInBounds (off+p.2) p.1) cs).size=cs.size
  |[],cs,_=>rfl
  | p::l,cs,h=>by
    simp only[List.foldl_cons];rw[uI vs off l _ (λq hq=>by simp;exact h q (List.mem_cons_of_mem _ hq))];simp
theorem uJ(off:Nat):∀(vs:List Value) (k:Nat) (cs:Array Value),off+k+vs.length<=cs.size->∀j,
    ((vs.zipIdx k).foldl (λcs (p:Value×Nat)=>cs.setIfInBounds (off+p.2) p.1) cs)[j]?=if off+k<=j/\j<off+k+vs.length then vs[j-(off+k)]? else cs[j]?
  |[],k,cs,_,j=>by simp;omega
  | v ::vs,k,cs,h,j=>by
    simp only[List.zipIdx_cons,List.foldl_cons,List.length_cons] at h ⊢;rw[uJ off vs (k+1) _ (by simp;omega) j];by_cases h1:off+k=j
    · subst h1
      have:off+k<cs.size:=by omega
      rw[if_neg (by omega),if_pos (by omega)];simp[this]
    · rw[Array.getElem?_setIfInBounds_ne h1]
      by_cases h2:off+(k+1)<=j/\j<off+(k+1)+vs.length
      · rw[if_pos h2,if_pos (by omega)]
        rw[show j-(off+k)=(j-(off+(k+1)))+1 by omega];simp
      · rw[if_neg h2,if_neg (by omega)]
theorem tV.splice{S:BS}{w:World}{arr:Array Value}{cs new:List VP}{v:Value}{off:Nat}(h:tV S w arr cs)(hv:v.cells.size=new.length/\∀(j:Nat) (p:VP),new[j]?=some p->∃u,v.cells[j]?=some u/\p.p S w u)(hl:off+new.length<=cs.length):
    tV S w (v.cells.zipIdx.foldl (λcs (c,j)=>cs.setIfInBounds (off+j) c) arr) (ig off new cs):=by
  have e:v.cells.zipIdx.foldl (λcs (c,j)=>cs.setIfInBounds (off+j) c) arr=(v.cells.toList.zipIdx 0).foldl (λcs (p:Value×Nat)=>cs.setIfInBounds (off+p.2) p.1) arr:=by
    rw[<-Array.foldl_toList,Array.toList_zipIdx]
  have hg:=uJ off v.cells.toList 0 arr (by simp[hv.1,h.1];omega);rw[e];refine⟨?_,λj q hj=>?_⟩
  · rw[uI v.cells off _ _ (λp hp=>by
      have:=List.snd_lt_of_mem_zipIdx hp;simp at this;rw[hv.1] at this;rw[h.1];omega),sE off new cs hl,h.1]
  · rw[hg j]
    rw[o7 off new cs j hl] at hj;by_cases h1:off<=j/\j<off+new.length
    · rw[if_pos h1] at hj
      rw[if_pos (by simp[hv.1];omega)];obtain⟨u,hu,hq⟩:=hv.2 _ q hj;exact⟨u,by simpa using hu,hq⟩
    · rw[if_neg h1] at hj
      rw[if_neg (by simp[hv.1];omega)];exact h.2 j q hj
def l7(env:Env)(ps:List (Nat×Operand))(cs:List (Nat×List VP)):Prop:=∀S w (a:Act),dI env S w a.tmps->
 ps.length=cs.length/\∀(t:Nat) (p:Nat×Operand) (c:Nat×List VP),ps[t]?=some p->cs[t]?=some c->p.1=c.1/\(a.eval p.2).cells.size=c.2.length/\∀(j:Nat) (x:VP),c.2[j]?=some x->∃u,(a.eval p.2).cells[j]?=some u/\x.p S w u
theorem l7.nil:l7 env [] []:=λ_ _ _ _=>⟨rfl,λ_ _ _ h=>by simp at h⟩
theorem l7.cons{k:Nat}{ps:List (Nat×Operand)}{cs:List (Nat×List VP)}{c:List VP}[hp:Mn q c](h:bA env x q)(t:l7 env ps cs):l7 env ((k,x)::ps) ((k,c)::cs):=λS w a he=>by
 obtain⟨h1,h2⟩:=t S w a he;refine⟨by simpa using h1,λt p d hp' hd=>?_⟩;cases t with
 |zero=>simp at hp' hd;subst hp';subst hd;exact⟨rfl,hp.part (h S w a he)⟩
 |succ t=>exact h2 t p d (by simpa using hp') (by simpa using hd)
theorem zx{place:Nat->Option (Nat×Nat)}{S:BS}{w:World}:∀(parts:List (Nat×Value)) (cs:List (Nat×List VP)) (base:List VP) (arr:Array Value) (out:List VP),tV S w arr base->parts.length=cs.length->
    (∀(t:Nat) (p:Nat×Value) (c:Nat×List VP),parts[t]?=some p->cs[t]?=some c->p.1=c.1/\p.2.cells.size=c.2.length/\∀(j:Nat) (x:VP),c.2[j]?=some x->∃u,p.2.cells[j]?=some u/\x.p S w u)->
    sD place base cs=some out->∃arr',Instr.fill place arr parts=some arr'/\tV S w arr' out
  |[],[],base,arr,out,h,_,_,hf=>by simp[sD] at hf;subst hf;exact⟨arr,rfl,h⟩
  |[],c::cs,_,_,_,_,hl,_,_=>by simp at hl
  |p::ps,[],_,_,_,_,hl,_,_=>by simp at hl
  | (i, v)::ps,(i',new)::cs,base,arr,out,h,hl,hp,hf=>by
    obtain⟨e1,e2,e3⟩:=hp 0 _ _ rfl rfl;simp only at e1 e2 e3;subst e1
    simp only[sD] at hf;cases jg:place i with
    |none=>rw[jg] at hf;cases hf
    | some os=>
      obtain⟨off,size⟩:=os;rw[jg] at hf;simp only at hf;cases hc:(Nat.beq new.length size && Nat.ble (off+size) base.length) with
      |false=>rw[hc] at hf;cases hf
      | true=>
        rw[hc] at hf;simp only[Bool.and_eq_true] at hc;have c1:new.length=size:=by simpa using hc.1
        have c2:off+size<=base.length:=by simpa using hc.2
        have hsp:=h.splice (v:=v) (off:=off) ⟨e2,e3⟩ (by omega);obtain⟨arr',g1,g2⟩:=zx ps cs _ _ out hsp (by simpa using hl) (λt p c ht Xx=>hp (t+1) p c (by simpa using ht) (by simpa using Xx)) hf;refine⟨arr',?_,g2⟩;simp only[Instr.fill,jg];rw[if_neg (by simp[e2,c1,h.1];omega)];exact g1
def D9(P:Program)(T:TypeId):Option (List (Nat×Nat)):=
 match P.underlying T with
 |some (.struct fs)=>if fs.toList.all (λf=>Nat.blt 0 (P.cellsOf f.type)) then some (fs.toList.map λf=>(f.offset,P.cellsOf f.type)) else none
 |_=>none
theorem Gq{fs:List Field}(h:fs.all (λf=>Nat.blt 0 (P.cellsOf f.type))=true)(w:World):(fs.mapM λf=>do pure (f.offset,<-sizeOf f.type):Sem (List (Nat×Nat))).run P w= .ok (fs.map λf=>(f.offset,P.cellsOf f.type)) w:=by
 induction fs with
 |nil=>simp
 |cons f fs ih=>
  simp only[List.all_cons,Bool.and_eq_true] at h;have hs:=run_sizeOf (P:=P) (T:=f.type) rfl h.1 w;have:=ih h.2;simp only[List.mapM_cons,Sem.run_bind,hs,Result.andThen_ok,Sem.run_pure,this,List.map_cons]
theorem aL{ps:List (Nat×Operand)}{pcs:List (Nat×List VP)}{pl:List (Nat×Nat)}{zs:List Value}{cs:List VP}(jg:D9 P T=some pl)(hz:lG P T=some zs)(hp:l7 env ps pcs)(hf:sD (pl[·]?) (zs.map ag) pcs=some cs):
    bw P hs env ⟨dst, .build T ps.toArray,ty,pos,after,gd⟩ (aC cs):=by
  intro a w S F h1 h2 h3 h4 he K Q hk;obtain⟨z,Mm,Ab⟩:=jG hz w;unfold D9 at jg
  split at jg
  · rename_i fs hu
    split at jg
    · rename_i hall
      simp only[Option.some.injEq] at jg;obtain⟨g1,g2⟩:=hp S w a he;have hm:=Gq (P:=P) hall w
      obtain⟨arr',r1,r2⟩:=zx (S:=S) (w:=w) (place:=(pl[·]?)) (ps.map λ(i,x)=>(i,a.eval x)) pcs (zs.map ag) z.cells cs
        ⟨by rw[Ab];simp,λj q hj=>by
          rw[List.getElem?_map] at hj;cases QZ:zs[j]? with
          |none=>rw[QZ] at hj;cases hj
          |some u=>rw[QZ] at hj;cases hj;exact⟨u,by rw[Ab];simpa using QZ,rfl⟩⟩ (by simpa using g1)
        (fun t p c ht hc=>by
          rw[List.getElem?_map] at ht;cases Mo:ps[t]? with
          |none=>rw[Mo] at ht;cases ht
          |some p0=>rw[Mo] at ht;cases ht;exact g2 t p0 c Mo hc) hf
      have hr:(execOp a.eval ⟨dst, .build T ps.toArray,ty,pos,after,gd⟩).run P w= .ok (.value (.agg arr')) w:=by
        have hm2:(fs.mapM λf=>do pure (f.offset,<-sizeOf f.type):Sem (Array (Nat×Nat))).run P w= .ok pl.toArray w:=by
          rw[<-Array.toArray_toList (xs:=fs),List.mapM_toArray,<-jg];simp only[Sem.run_map,hm,Result.andThen_ok]
        have r1':Instr.fill (λx=>pl[x]?) z.cells (ps.map λx=>(x.1,a.eval x.2))=some arr':=by simpa using r1
        simp only[execOp,Instr.build,Sem.run_bind,Mm,Result.andThen_ok,run_underlying hu,hm2];simp[r1']
      unfold Oper.wp;rw[hr];exact hk _ w S (gq.refl _ _) ⟨arr',rfl,r2.1,r2.2⟩
    · cases jg
  · cases jg
end
section
variable {P:Program} {hs:List HP} {env:Env} {q:VP} {dst:Option Tmp} {ty T T2 T' E:TypeId} {pos:String} {after:Array Edge} {gd:Option (Nat×Bool)} {x y z:Operand}
class bD(cs:List VP):Prop where
 flat:∀q,q∈cs->Flat q
instance:bD []:=⟨λ_ h=>by cases h⟩
instance {q:VP} {cs:List VP} [h:Flat q] [t:bD cs]:bD (q::cs):=⟨λp hp=>by
 rcases List.mem_cons.1 hp with e|e
 · rw[e];exact h
 · exact t.flat p e⟩
instance {cs:List VP} {n:Nat} [h:bD cs]:bD (cs.take n):=⟨λq hq=>h.flat q (List.mem_of_mem_take hq)⟩
instance {cs:List VP} {n:Nat} [h:bD cs]:bD (cs.drop n):=⟨λq hq=>h.flat q (List.mem_of_mem_drop hq)⟩
instance:bD (List.map ag []):=⟨λq hq=>by cases hq⟩
instance {v:Value} {vs:List Value} [h:Flat (ag v)] [t:bD (List.map ag vs)]:bD (List.map ag (v::vs)):=⟨λq hq=>by
 rcases List.mem_cons.1 hq with e|e
 · rw[e];exact h
 · exact t.flat q e⟩
theorem C9:∀(a b:List VP) (q:VP),q∈wo a b->q∈a\/q∈b
 |[],b,q,h=> .inr h
 |x::a,[],q,h=> .inl h
 |x::a,y::b,q,h=>by
  rcases List.mem_cons.1 h with e|e
  · exact .inl (by rw[e];exact List.mem_cons_self ..)
  · rcases C9 a b q e with e|e
    · exact .inl (List.mem_cons_of_mem _ e)
    · exact .inr (List.mem_cons_of_mem _ e)
theorem yG:∀(k:Nat) (a b:List VP) (q:VP),q∈ig k a b->q∈a\/q∈b
 |0,a,b,q,h=>C9 a b q h
 |k+1,a,[],q,h=>by cases h
 |k+1,a,y::b,q,h=>by
  rcases List.mem_cons.1 h with e|e
  · exact .inr (by rw[e];exact List.mem_cons_self ..)
  · rcases yG k a b q e with e|e
    · exact .inl e
    · exact .inr (List.mem_cons_of_mem _ e)
instance {a b:List VP} {k:Nat} [h1:bD a] [h2:bD b]:bD (ig k a b):=⟨λq hq=>(yG k a b q hq).elim (h1.flat q) (h2.flat q)⟩
theorem dQ{cs new:List VP}{b off i n:Nat}[hfl:bD new](hn:P.cellsOf T=n)(h0:Nat.blt 0 n=true)(hx:bA env x (ax b off))(hy:bA env y (aC new))(pX:Nat.beq new.length n=true)(hi:hs[i]?=some (az b cs))(hl:Nat.ble (off+n) cs.length=true):
    gW P hs env ⟨none, .store T x y,ty,pos,after,gd⟩ (γ:=Unit) (λ_=>True) (λ_=>hs.set i (az b (ig off new cs))) (λ_=>ag undef):=by
  intro c a w S F aI hown he K Q hk;have hv:=hx S w a he;simp only[ag] at hv
  obtain⟨arr,Q0,hyn,NU⟩:=hy S w a he;have hl':off+n<=cs.length:=by simpa using hl
  have ab3:new.length=n:=by simpa using pX
  obtain⟨F1,F2,f1,f2,f3,_,f4⟩:=hown.zj hi;obtain⟨hFb,cur,E',hb,hsz,hc⟩:=f3
  have hone:∀v∈arr.toList,v.oneCell'=true:=by
    intro v uH;obtain⟨j,hj⟩:=List.mem_iff_getElem?.1 uH;have hjl:j<new.length:=by have:=(List.getElem?_eq_some_iff.1 hj).1;simp at this;omega
    obtain⟨u,hu,hq⟩:=NU j _ (List.getElem?_eq_getElem hjl);have:u=v:=by simp at hj hu;rw[hj] at hu;exact(Option.some.inj hu).symm
    subst this;exact((hfl.flat _ (List.getElem_mem hjl)).flat hq).2
  obtain⟨w',arr',k1,k2,k3,k4,k5,k6,k7,k8,k9,k10⟩:=lI (P:=P) (b:=b) (off:=off) (T:=E') arr.toList 0 w cur hone hb (by simp[hyn,hsz];omega)
  have hr:(execOp a.eval ⟨none, .store T x y,ty,pos,after,gd⟩).run P w= .ok .skip w':=by
    have hs:=run_sizeOf hn h0 w;have hne:¬arr.size≠n:=by simp[hyn,ab3]
    simp[execOp,hv,Q0,Instr.storeAt,Instr.sureAddr,storeVar,hs,Value.cells,hyn,ab3,k1]
  unfold Oper.wp;rw[hr];have hag:∀k,S k->w'.heap[k]?=w.heap[k]?:=λk hk=>k6 k (λe=>aI.eg k hk (e▸(f1 b hFb).1));refine hk () undef w' S F trivial (aI.write (f1 b hFb).1 k2 k3 k4 k5 k6) (λ_ h=>h) hag ?_ rfl
  have:=f4 S F1 w' (az b (ig off new cs)) (λk hk=>(f1 k hk).2) (λ_ h=>h) (λk hk=>k6 k (λe=>(f1 b hFb).2 (e▸hk))) hag
    ⟨hFb,arr',E',k7,by rw[k8,hsz,sE off new cs (by omega)],λj q' hj=>?_⟩
  · exact this.mono (λk hk=>hk.elim (λh=>(f1 k h).1) (f2 k)) (λ_ h=>h) (λ_ _=>rfl) (λ_ _=>rfl)
  · rw[o7 off new cs j (by omega)] at hj
    by_cases h1:off<=j/\j<off+new.length
    · rw[if_pos h1] at hj
      obtain⟨u,hu,hq⟩:=NU _ q' hj;have:=k10 (j-off) u (by simpa using hu);exact⟨u,by rwa [show off+0+(j-off)=j by omega] at this,q'.mono (λ_ h=>h) hag hq⟩
    · rw[if_neg h1] at hj
      obtain⟨u,hu,hq⟩:=hc j q' hj;have hlen:arr.toList.length=new.length:=by simp[hyn]
      exact⟨u,by rw[k9 j (by rw[hlen];omega)];exact hu,q'.mono (λ_ h=>h) hag hq⟩
def zeroV(zs:List Value)(m:Nat):List VP:=(List.range m).map λi=>ag (zs[i%zs.length]!)
theorem oq{α:Type}{n len:Nat}{enc:α->List VP}{ys:List α}{ps:List (Nat×Operand)}{pcs:List (Nat×List VP)}{zs:List Value}{cs:List VP}(hT:P.underlying T=some (.slice E))(hn:P.cellsOf E=n)(h0:Nat.blt 0 n=true)
    (hz:lG P E=some zs) (hzl:zs.length=n) (hp:l7 env ps pcs) (F7:Nat.ble (len*n) 16777216=true) (hf:sD (λi=>some (i*n,n)) (zeroV zs (len*n)) pcs=some cs) {S:BS} {w:World} {a:Act} (he:dI env S w a.tmps):
    ∃arr,(execOp a.eval ⟨dst, .buildSlice T len ps.toArray,ty,pos,after,gd⟩).run P w= .ok (.value (.slice (some ⟨w.heap.size,0,none⟩) len len)) {w with heap:=w.heap.push (.cells arr E)}/\tV S w arr cs:=by
  have hn0:0<n:=by simpa using h0
  obtain⟨z,Mm,Ab⟩:=jG hz w;obtain⟨g1,g2⟩:=hp S w a he;have bL2:len*n<=16777216:=by simpa using F7
  have ab1:z.cells.size=n:=by rw[Ab];simpa using hzl
  obtain⟨arr',r1,r2⟩:=zx (S:=S) (w:=w) (place:=λi=>some (i*n,n)) (ps.map λ(i,x)=>(i,a.eval x)) pcs (zeroV zs (len*n)) ((Array.range (len*n)).map (z.cells[· %z.cells.size]!)) cs
    ⟨by simp[zeroV],λj q hj=>by
      unfold zeroV at hj;rw[List.getElem?_map] at hj;by_cases hjl:j<len*n
      · rw[List.getElem?_range hjl] at hj
        simp at hj;subst hj
        refine⟨z.cells[j%z.cells.size]!,by simp[hjl],?_⟩
        show _=_
        rw[Ab];simp
      · rw[List.getElem?_eq_none (by simp;omega)] at hj;cases hj⟩ (by simpa using g1)
    (fun t p c ht hc=>by
      rw[List.getElem?_map] at ht;cases Mo:ps[t]? with
      |none=>rw[Mo] at ht;cases ht
      |some p0=>rw[Mo] at ht;cases ht;exact g2 t p0 c Mo hc) hf
  refine⟨arr',?_,r2⟩;have hs:=run_sizeOf hn h0 w;have hnb:¬(len*n>2^24):=by omega
  have e:(ps.toArray.map λx=>(x.1,a.eval x.2)).toList=ps.map λx=>(x.1,a.eval x.2):=by simp
  have r1':Instr.fill (λi=>some (i*n,n)) ((Array.range (len*n)).map (z.cells[· %z.cells.size]!)) (ps.map λx=>(x.1,a.eval x.2))=some arr':=by simpa using r1
  by_cases Ci:len*n=0
  · have hz0:∀f:Nat->Value,(Array.range (len*n)).map f= #[]:=λf=>Array.eq_empty_of_size_eq_zero (by simp[Ci])
    rw[hz0] at r1';simp only[execOp,Instr.buildSlice,Sem.run_bind,run_underlying hT,Result.andThen_ok,hs];rw[if_neg hnb,if_pos Ci];simp only[Sem.run_pure,Result.andThen_ok,hz0,e,r1',newRow,Sem.run_bind,run_newObj]
  · simp only[execOp,Instr.buildSlice,Sem.run_bind,run_underlying hT,Result.andThen_ok,hs]
    rw[if_neg hnb,if_neg Ci];simp only[Sem.run_bind,Mm,Result.andThen_ok,Sem.run_pure,e,r1',newRow,run_newObj]
theorem bC{α:Type}{n len:Nat}{enc:α->List VP}(ys:List α){ps:List (Nat×Operand)}{pcs:List (Nat×List VP)}{zs:List Value}{cs:List VP}[oV:gX n enc](hT:P.underlying T=some (.slice E))(hn:P.cellsOf E=n)(h0:Nat.blt 0 n=true)
    (hz:lG P E=some zs) (hzl:zs.length=n) (hp:l7 env ps pcs) (F7:Nat.ble (len*n) 16777216=true) (hf:sD (λi=>some (i*n,n)) (zeroV zs (len*n)) pcs=some cs) (hcs:cs=ys.flatMap enc) (hl:ys.length=len) (qR:Nat.ble len 16777216=true):
    bw P hs env ⟨dst, .buildSlice T len ps.toArray,ty,pos,after,gd⟩ (ai n enc ys):=by
  intro a w S F h1 h2 h3 h4 he K Q hk;obtain⟨arr,hr,TR⟩:=oq (enc:=enc) (ys:=ys) (dst:=dst) (ty:=ty) (pos:=pos) (after:=after) (gd:=gd) hT hn h0 hz hzl hp F7 hf he;unfold Oper.wp;rw[hr];have hs2':len<=16777216:=by simpa using qR
  refine hk _ _ _ (gq.new1 w S (.cells arr E)) ⟨some ⟨w.heap.size,0,none⟩,len,by rw[hl],by omega,by omega,λ_=>⟨rfl, .inr rfl,λi x hi=>?_⟩⟩;exact lH oV.len (xP h1 (hcs▸TR.1) (hcs▸TR.2)) i x hi
theorem dM{α:Type}{n len:Nat}(enc:α->List VP)(ys:List α){ps:List (Nat×Operand)}{pcs:List (Nat×List VP)}{zs:List Value}{cs:List VP}[oV:gX n enc](hT:P.underlying T=some (.slice E))(hn:P.cellsOf E=n)(h0:Nat.blt 0 n=true)
    (hz:lG P E=some zs) (hzl:zs.length=n) (hp:l7 env ps pcs) (F7:Nat.ble (len*n) 16777216=true) (hf:sD (λi=>some (i*n,n)) (zeroV zs (len*n)) pcs=some cs) (hcs:cs=ys.flatMap enc) (hl:ys.length=len) (qR:Nat.ble len 16777216=true):
    gW P hs env ⟨dst, .buildSlice T len ps.toArray,ty,pos,after,gd⟩ (γ:=SB) (λ_=>True) (λg=>aH g n enc ys::hs) (λg=>ag (bI g ys.length)):=by
  intro c a w S F aI hown he K Q hk;obtain⟨arr,hr,TR⟩:=oq (enc:=enc) (ys:=ys) (dst:=dst) (ty:=ty) (pos:=pos) (after:=after) (gd:=gd) hT hn h0 hz hzl hp F7 hf he;unfold Oper.wp;rw[hr];have hs2':len<=16777216:=by simpa using qR
  refine hk (some (w.heap.size,len)) _ _ S _ trivial (aI.gJ _) (λ_ h=>h) (λk hk=>cL w _ k (aI.bZ k hk)) (hown.gJ aI.bZ aI.cK _ ⟨rfl,by omega,by omega,arr,E,by simp,?_,λj q hj=>?_⟩) (by simp[bI,ag,hl])
  · rw[TR.1,hcs,gO oV.len,hl]
  · obtain⟨u,hu,hq⟩:=TR.2 j q (by rw[hcs];exact hj)
    exact⟨u,hu,(gq.Xu w S (.cells arr E)).vp aI.bZ hq⟩
def Xy(P:Program)(T:TypeId):Option (Nat×Nat):=
 match P.underlying T with
 |some (.array len e)=>if 0<P.cellsOf e then some (len,P.cellsOf e) else none
 |_=>none
theorem fy{ps:List (Nat×Operand)}{pcs:List (Nat×List VP)}{len n:Nat}{zs:List Value}{cs:List VP}(jg:Xy P T=some (len,n))(hz:lG P T=some zs)(hp:l7 env ps pcs)(hf:sD (λi=>some (i*n,n)) (zs.map ag) pcs=some cs):
    bw P hs env ⟨dst, .build T ps.toArray,ty,pos,after,gd⟩ (aC cs):=by
  intro a w S F h1 h2 h3 h4 he K Q hk;obtain⟨z,Mm,Ab⟩:=jG hz w;unfold Xy at jg
  split at jg
  · rename_i len' e hu
    split at jg
    · rename_i hpos
      simp only[Option.some.injEq,Prod.mk.injEq] at jg;obtain⟨rfl,hn⟩:=jg;obtain⟨g1,g2⟩:=hp S w a he
      obtain⟨arr',r1,r2⟩:=zx (S:=S) (w:=w) (place:=λi=>some (i*n,n)) (ps.map λ(i,x)=>(i,a.eval x)) pcs (zs.map ag) z.cells cs
        ⟨by rw[Ab];simp,λj q hj=>by
          rw[List.getElem?_map] at hj;cases QZ:zs[j]? with
          |none=>rw[QZ] at hj;cases hj
          |some u=>rw[QZ] at hj;cases hj;exact⟨u,by rw[Ab];simpa using QZ,rfl⟩⟩ (by simpa using g1)
        (fun t p c ht hc=>by
          rw[List.getElem?_map] at ht;cases Mo:ps[t]? with
          |none=>rw[Mo] at ht;cases ht
          |some p0=>rw[Mo] at ht;cases ht;exact g2 t p0 c Mo hc) hf
      have hs:=run_sizeOf (P:=P) (T:=e) hn (by simp;omega) w
      have hr:(execOp a.eval ⟨dst, .build T ps.toArray,ty,pos,after,gd⟩).run P w= .ok (.value (.agg arr')) w:=by
        have e2:(ps.toArray.map λx=>(x.1,a.eval x.2)).toList=ps.map λx=>(x.1,a.eval x.2):=by simp
        have r1':Instr.fill (λi=>some (i*n,n)) z.cells (ps.map λx=>(x.1,a.eval x.2))=some arr':=by simpa using r1
        simp only[execOp,Instr.build,Sem.run_bind,Mm,Result.andThen_ok,run_underlying hu,hs,e2,r1',Sem.run_pure]
      unfold Oper.wp;rw[hr];exact hk _ w S (gq.refl _ _) ⟨arr',rfl,r2.1,r2.2⟩
    · cases jg
  · cases jg
theorem wq{α:Type}{n len:Nat}{enc:α->List VP}(xs:List α){cs:List VP}{k:IntKind}{i:Int}{j:Nat}{e:α}[oV:gX n enc](hT:P.underlying T=some (.array len E))(hn:P.cellsOf E=n)(h0:Nat.blt 0 n=true)(hag:l9 P E=some true)
    (hx:bA env x (aC cs)) (hcs:cs=xs.flatMap enc) (hlen:xs.length=len) (hy:bA env y (af k i)) (hi:i=(j:Int)) (hj:xs[j]?=some e):bw P hs env ⟨dst, .index T x y,ty,pos,after,gd⟩ (aC (enc e)):=
  bw.aM λρ w S F _ he=>by
    obtain⟨arr,hv,hsz,hc⟩:=he.o _ _ hx;have h2:=he.o _ _ hy;simp only[ag] at h2
    subst hi;subst hcs
    have hjl:j<xs.length:=(List.getElem?_eq_some_iff.1 hj).1;rw[gO oV.len] at hsz;have hs:=run_sizeOf (T:=E) hn h0 w;have hisA:=fq hag w;have hle:j*n+n<=arr.size:=by rw[hsz,<-Nat.succ_mul];exact Nat.mul_le_mul_right n hjl
    refine⟨.agg (arr.extract (j*n) (j*n+n)),?_,_,rfl,by rw[oV.len];simp;omega,λt q ht=>?_⟩
    · have F8:j<len:=by omega
      simp[execOp,hv,h2,Instr.index,asIntOf,run_underlying hT,hs,part,hisA,F8]
    · have htl:t<n:=by rw[<-oV.len e];exact(List.getElem?_eq_some_iff.1 ht).1
      obtain⟨u,hu,hq⟩:=hc _ q (ql oV.len xs j e t q hj ht);refine⟨u,?_,hq⟩;rw[Array.getElem?_extract];rw[if_pos (by omega)];exact hu
theorem fL{len:Nat}{cs:List VP}{k:IntKind}{i:Int}{j:Nat}(hT:P.underlying T=some (.array len E))(hn:P.cellsOf E=1)(hag:l9 P E=some false)
    (hx:bA env x (aC cs)) (hlen:Nat.beq cs.length len=true) (hy:bA env y (af k i)) (hi:i=(j:Int)) (hj:cs[j]?=some q):bw P hs env ⟨dst, .index T x y,ty,pos,after,gd⟩ q:=
  bw.aM λρ w S F _ he=>by
    obtain⟨arr,hv,hsz,hc⟩:=he.o _ _ hx;have h2:=he.o _ _ hy;simp only[ag] at h2
    subst hi;have hlen':cs.length=len:=by simpa using hlen
    have hjl:j<cs.length:=(List.getElem?_eq_some_iff.1 hj).1;have hs:=run_sizeOf (T:=E) hn rfl w;have hisA:=fq hag w;obtain⟨u,hu,hq⟩:=hc j q hj;refine⟨u,?_,hq⟩;have F8:j<len:=by omega
    simp[execOp,hv,h2,Instr.index,asIntOf,run_underlying hT,hs,part,hisA,F8,hu]
theorem Ea{len n:Nat}{cs:List VP}{k:IntKind}{i:Int}(j:Nat)(hT:P.underlying T=some (.array len E))(hn:P.cellsOf E=n)(h0:Nat.blt 0 n=true)(hx:bA env x (ck cs))(hy:bA env y (af k i))(hi:i=(j:Int))(hj:j<len):
    bw P hs env ⟨dst, .indexAddr T x y,ty,pos,after,gd⟩ (ck (cs.drop (j*n))):=
  bw.aM λρ w S F _ he=>by
    obtain⟨b,off,hv,hb,hc⟩:=he.o _ _ hx;have h2:=he.o _ _ hy;simp only[ag] at h2
    subst hi;have hs:=run_sizeOf (T:=E) hn h0 w
    have oo:Addr.add ⟨b,off,none⟩ (j*n)=⟨b,off+j*n,none⟩:=by
      unfold Addr.add
      split
      · rename_i h0;simp
      · rfl
    refine⟨_,?_,b,off+j*n,rfl,hb,hc.drop _⟩;have F8:j<len:=by omega
    simp[execOp,hv,h2,Instr.indexAt,asIntOf,run_underlying hT,Instr.sureAddr,hs,oo,F8]
theorem eD{len n b off:Nat}{k:IntKind}{i:Int}(j:Nat)(hT:P.underlying T=some (.array len E))(hn:P.cellsOf E=n)(h0:Nat.blt 0 n=true)(hx:bA env x (ax b off))(hy:bA env y (af k i))(hi:i=(j:Int))(hj:j<len):
    bw P hs env ⟨dst, .indexAddr T x y,ty,pos,after,gd⟩ (ax b (off+j*n)):=
  bw.aM λρ w S F _ he=>by
    have hv:=he.o _ _ hx;simp only[ag] at hv
    have h2:=he.o _ _ hy;simp only[ag] at h2
    subst hi;have hs:=run_sizeOf (T:=E) hn h0 w
    have oo:Addr.add ⟨b,off,none⟩ (j*n)=⟨b,off+j*n,none⟩:=by
      unfold Addr.add
      split
      · rename_i h0;simp
      · rfl
    have F8:j<len:=by omega
    exact⟨_,by simp[execOp,hv,h2,Instr.indexAt,asIntOf,run_underlying hT,Instr.sureAddr,hs,oo,F8],rfl⟩
theorem Gr{α:Type}{n:Nat}{enc:α->List VP}{xs:List α}{S:BS}{w:World}{a:Option Addr}{cap h:Nat}(hh:h<=xs.length)(hc:xs.length<=cap)(hm:xs.length<=281474976710656)
    (he:match a with|none=>cap=0|some ad=>cap≠0->ad.spot=none/\S ad.block/\∀(i:Nat) (x:α),xs[i]?=some x->cT S w ad.block (ad.off+i*n) (enc x)):(ai n enc (xs.take h)).p S w (.slice a h cap):=by
  have hl:(xs.take h).length=h:=by simp;omega
  refine⟨a,cap,by rw[hl],by omega,by omega,?_⟩;cases a with
  |none=>exact he
  |some ad=>exact λh0=>let he:=he h0;⟨he.1,he.2.1,λi x hi=>he.2.2 i x (by
      rw[List.getElem?_take] at hi
      split at hi
      · exact hi
      · cases hi)⟩
theorem Da{α:Type}{n:Nat}{enc:α->List VP}{xs:List α}{k:IntKind}{i:Int}{h:Nat}(hT:P.underlying T=some (.slice E))(hn:P.cellsOf E=n)(h0:Nat.blt 0 n=true)(hx:bA env x (ai n enc xs))(hy:bA env y (af k i))(hi:i=(h:Int))(hh:h<=xs.length):
    bw P hs env ⟨dst, .slice T x none (some y) none,ty,pos,after,gd⟩ (ai n enc (xs.take h)):=
  bw.aM λρ w S F _ he=>by
    obtain⟨a,cap,hv,hc,hm,hel⟩:=he.o _ _ hx;have h2:=he.o _ _ hy;simp only[ag] at h2
    subst hi;have hs:=run_sizeOf (T:=E) hn h0 w;refine⟨.slice a h cap,?_,Gr hh hc hm hel⟩;have hle:h<=cap:=by omega
    cases a with
    | none=>
      simp[execOp,hv,h2,Instr.sliceAt,Instr.slice,Instr.sliceBounds,Instr.sliceBound,asIntOf,run_underlying hT,hs,hle]
    | some ad=>
      simp[execOp,hv,h2,Instr.sliceAt,Instr.slice,Instr.sliceBounds,Instr.sliceBound,asIntOf,run_underlying hT,hs,hle,Addr.add]
theorem NX{α:Type}{n:Nat}{enc:α->List VP}{xs:List α}{k:IntKind}{i:Int}{l:Nat}(hT:P.underlying T=some (.slice E))(hn:P.cellsOf E=n)(h0:Nat.blt 0 n=true)(hx:bA env x (ai n enc xs))(hy:bA env y (af k i))
    (hi:i=(l:Int)) (hlh:l<=xs.length):bw P hs env ⟨dst, .slice T x (some y) none none,ty,pos,after,gd⟩ (ai n enc (xs.drop l)):=
  bw.aM fun ρ w S F _ he=>by
    obtain⟨a,cap,hv,hc,hm,hel⟩:=he.o _ _ hx;have h2:=he.o _ _ hy;simp only[ag] at h2
    subst hi;have hs:=run_sizeOf (T:=E) hn h0 w;have aD3:l<=xs.length:=by omega
    refine⟨.slice (if cap=l then a else a.map (·.add (l*n))) (xs.length-l) (cap-l),?_,?_⟩
    · simp[execOp,hv,h2,Instr.sliceAt,Instr.slice,Instr.sliceBounds,Instr.sliceBound,asIntOf,run_underlying hT,hs,aD3]
    · have hlen:(xs.drop l).length=xs.length-l:=by simp
      refine⟨_,cap-l,by rw[hlen],by omega,by omega,?_⟩;by_cases zk:cap=l
      · rw[if_pos zk]
        cases a with
        |none=>show cap-l=0;omega
        | some ad=>
          exact λh0=>absurd (by omega) h0
      · rw [if_neg zk]
        cases a with
        |none=>show cap-l=0;have h9:cap=0:=hel;omega
        | some ad=>
          obtain⟨b,off,sp⟩:=ad;obtain⟨h4,h5,h6⟩:=hel (by omega);simp only at h4 h5 h6;subst h4
          have oo:Addr.add ⟨b,off,none⟩ (l*n)=⟨b,off+l*n,none⟩:=by
            unfold Addr.add
            split
            · rename_i h0;simp
            · rfl
          simp only[Option.map_some,oo];refine λ_=>⟨trivial,h5,λi x hi=>?_⟩;have hx':xs[l+i]?=some x:=by rw[List.getElem?_drop] at hi;exact hi
          have:=h6 _ x hx'
          rwa [Nat.add_mul,<-Nat.add_assoc] at this
def xQ(tmps:Array Value):ResultVar->Sem Value
 | .tmp t=>pure (tmps.getD t undef)
 | .cell a t=>do loadVar t (<-asAddr (tmps.getD a undef))
inductive WA(P:Program)(hs:List HP)(env:Env):ResultVar->VP->Prop
 |rt {t:Tmp} {q:VP} (h:look env t=some q):WA P hs env (.tmp t) q
 |rc {t:Tmp} {T:TypeId} {b off i:Nat} {cs:List VP} {q:VP} (hT:l9 P T=some false) (h:look env t=some (ax b off)) (hi:hs[i]?=some (az b cs)) (hc:cs[off]?=some q):WA P hs env (.cell t T) q
 |ra {t:Tmp} {T:TypeId} {b off i n:Nat} {cs:List VP} (hT:l9 P T=some true) (hn:P.cellsOf T=n) (h0:Nat.blt 0 n=true) (h:look env t=some (ax b off)) (hi:hs[i]?=some (az b cs)) (hl:Nat.ble (off+n) cs.length=true):WA P hs env (.cell t T) (aC ((cs.drop off).take n))
theorem WA.run{hs:List HP}{env:Env}{r:ResultVar}{q:VP}(h:WA P hs env r q){S F:BS}{w:World}{tmps:Array Value}(ho:dR hs F S w)(he:dI env S w tmps):
    ∃v,(xQ tmps r).run P w= .ok v w/\q.p S w v:=by
  cases h with
  |rt h=>exact⟨_,rfl,he _ _ h⟩
  | rc hT h hi hc=>
    have hv:=he _ _ h;simp only[ag] at hv
    obtain⟨F1,_,hp⟩:=ho.get hi;obtain⟨v,uH,hq⟩:=mc hp _ q hc;refine⟨v,?_,hq⟩;simp only[xQ,hv,asAddr];simp only[Sem.run_bind,Sem.run_pure,Result.andThen_ok];unfold loadVar;rw[bH (fq hT w)];simp only[Nat.zero_add] at uH;simp[uH]
  | @ra t T b off i n cs hT hn h0 h hi hl=>
    have hv:=he _ _ h;simp only[ag] at hv
    obtain⟨F1,_,hp⟩:=ho.get hi;have hl':=Nat.le_of_ble_eq_true hl;have hc:=(mc hp).drop off;simp only[Nat.zero_add] at hc;obtain⟨v,hr,hq⟩:=o5 hT hn h0 (cs:=(cs.drop off).take n) (by simp only[List.length_take,List.length_drop];omega) (hc.take n);refine⟨v,?_,hq⟩;simp only[xQ,hv,asAddr];simp only[Sem.run_bind,Sem.run_pure,Result.andThen_ok,hr]
inductive Ad(P:Program)(hs:List HP)(env:Env):List ResultVar->List VP->Prop
 |nil:Ad P hs env [] []
 |cons {r:ResultVar} {rs:List ResultVar} {q q':VP} {qs:List VP} (h:WA P hs env r q) (hq:aa q q') (t:Ad P hs env rs qs):Ad P hs env (r::rs) (q'::qs)
theorem Ad.run{hs:List HP}{env:Env}{rs:List ResultVar}{qs:List VP}(h:Ad P hs env rs qs){S F:BS}{w:World}{tmps:Array Value}(ho:dR hs F S w)(he:dI env S w tmps):
    ∃vs:List Value,(rs.mapM λr=>(xQ tmps r)).run P w= .ok vs w/\hU qs S w vs:=by
  induction h with
  |nil=>exact⟨[],by simp,rfl,λ_ _ _ h=>by simp at h⟩
  | cons h hq _ ih=>
    obtain⟨v,hv,hp⟩:=h.run ho he;obtain⟨vs,hvs,hl,ha⟩:=ih;refine⟨v::vs,by simp only[List.mapM_cons,Sem.run_bind,hv,hvs,Result.andThen_ok,Sem.run_pure],by simp[hl],λj p u hp' hu=>?_⟩;cases j with
    |zero=>simp at hp' hu;subst hp';subst hu;exact hq _ _ _ hp
    |succ j=>exact ha j p u (by simpa using hp') (by simpa using hu)
theorem sF{fn:Func}{rs:List ResultVar}(hr:fn.results=rs.toArray){hs:List HP}{env:Env}{qs:List VP}(h:Ad P hs env rs qs){S F:BS}{w:World}{tmps:Array Value}(ho:dR hs F S w)(he:dI env S w tmps):
    ∃vs:List Value,(results fn tmps).run P w= .ok (if h:vs.toArray.size=1 then vs.toArray[0] else .tuple vs.toArray) w/\hU qs S w vs:=by
  obtain⟨vs,h1,h2⟩:=h.run ho he;refine⟨vs,?_,h2⟩
  have hm:(rs.toArray.mapM (xQ tmps)).run P w= .ok vs.toArray w:=by
    rw[List.mapM_toArray];simp only[Sem.run_map,h1,Result.andThen_ok]
  have hfun:results fn tmps=(do let vs<-rs.toArray.mapM (xQ tmps);pure (if h:vs.size=1 then vs[0] else .tuple vs)):=by
    unfold results;rw[hr]
    congr 2
  rw[hfun,bH hm];rfl
theorem Post.aS{fn:Func}{c:Ctx}{γ:Type}{φ:γ->Prop}{hs':γ->List HP}{q:γ->VP}{r:ResultVar}{q0:VP}
    (hr:fn.results= #[r]) (g:γ) (hφ:φ g) (hh:∀F S w,dR hs F S w->dR (hs' g) F S w) (h:WA P hs env r q0) (hq:aa q0 (q g)) (hdf:c.df=[]:=by rfl):bS (Post P fn c φ hs' q) .ret c hs env:=by
  intro a w hst;obtain⟨h1,h2,S,F,h3,h4,h5⟩:=hst;obtain⟨vs,e1,e2⟩:=sF (P:=P) hr (Ad.cons h hq Ad.nil) h4 h5
  match vs,e2 with
  | [v],e2=>
    refine⟨h1.trans hdf,v,e1,_,S,F,g,rfl,⟨h3.os,h3.tape,h3.output,h3.size,h3.kept,h3.eg,h3.bZ,h3.cK,h3.own,h3.shr,h3.base⟩,hφ,hh _ _ _ h4,e2.2 0 _ v rfl rfl⟩
theorem Post.bh{fn:Func}{c:Ctx}{γ:Type}{φ:γ->Prop}{hs':γ->List HP}{q:γ->VP}{rs:List ResultVar}{qs:List VP}
    (hr:fn.results=rs.toArray) (hn:Nat.beq qs.length 1=false) (g:γ) (hφ:φ g) (hh:∀F S w,dR hs F S w->dR (hs' g) F S w) (hq:q g=aZ qs) (h:Ad P hs env rs qs) (hdf:c.df=[]:=by rfl):bS (Post P fn c φ hs' q) .ret c hs env:=by
  intro a w hst;obtain⟨h1,h2,S,F,h3,h4,h5⟩:=hst;obtain⟨vs,e1,e2⟩:=sF (P:=P) hr h h4 h5
  have hne:¬vs.toArray.size=1:=by
    rw[List.size_toArray,<-e2.1];intro e;rw[e] at hn;cases hn
  rw[dif_neg hne] at e1;exact⟨h1.trans hdf,_,e1,_,S,F,g,rfl,⟨h3.os,h3.tape,h3.output,h3.size,h3.kept,h3.eg,h3.bZ,h3.cK,h3.own,h3.shr,h3.base⟩,hφ,hh _ _ _ h4,by rw[hq];exact⟨vs.toArray,rfl,by simpa using e2⟩⟩
theorem St.jX{K:Act->World->Prop}{c:Ctx}{α:Type}{g:SB}{n i j f b:Nat}{enc:α->List VP}{xs:List α}{cs:List VP}[he:gX n enc](hi:hs[i]?=some (aH g n enc xs))(hj:(hs.eraseIdx i)[j]?=some (az b cs))(hf:cs[f]?=some (ag (bI g xs.length)))
    (h:∀a w,St c ((hs.eraseIdx i).set j (az b (cs.set f (ai n enc xs)))) env a w->K a w):∀a w,St c hs env a w->K a w:=by
  intro a w ⟨h1,h2,S,F,h3,h4,h5⟩;obtain⟨F1,F2,f1,f2,f3,f5,_⟩:=h4.zj hi;obtain⟨G1,G2,g1,g2,g3,_,g4⟩:=f5.zj hj;obtain⟨hFb,arr,T,hh,hn,hc⟩:=g3;have hfl:f<cs.length:=(List.getElem?_eq_some_iff.1 hf).1
  have key:∃S':BS,(∀k,S k->S' k)/\(∀k,S' k->S k\/F1 k)/\∀u,arr[f]?=some u->(ai n enc xs).p S' w u:=by
    cases g with
    | none=>
      have hxs:xs=[]:=f3;subst hxs;refine⟨S,λ_ h=>h,λ_ h=> .inl h,λu hu=>?_⟩;obtain⟨u',F6,hq⟩:=hc f _ hf;rw[hu] at F6;cases F6
      exact⟨none,0,hq,by simp,by simp,rfl⟩
    | some bc=>
      obtain⟨b',cap⟩:=bc;obtain⟨hFb',hl,hm,arr',T',hh',hn',Xx⟩:=f3;have hS:∀k,S k->S k\/k=b':=λ_ h=> .inl h;have zk:cT (λk=>S k\/k=b') w b' 0 (xs.flatMap enc):=λj q hj=>let ⟨u,hu,hq⟩:=Xx j q hj;⟨u,by simp[World.cell?,hh',hu],q.mono hS (λ_ _=>rfl) hq⟩
      refine⟨λk=>S k\/k=b',hS,λk hk=>hk.elim .inl (λe=> .inr (e▸hFb')),λu hu=>?_⟩;obtain⟨u',F6,hq⟩:=hc f _ hf;rw[hu] at F6;cases F6
      exact⟨some ⟨b',0,none⟩,cap,hq,hl,hm,λ_=>⟨rfl, .inr rfl,λi x hx=>lH he.len zk i x hx⟩⟩
  obtain⟨S',s1,s2,s3⟩:=key;have hG:∀k,G1 k->¬F1 k:=λk hk hf'=>(f1 k hf').2 (g1 k hk).1;have hnew:=g4 S' G1 w (az b (cs.set f (ai n enc xs))) (λk hk=>(g1 k hk).2) s1 (λ_ _=>rfl) (λ_ _=>rfl) ⟨hFb,arr,T,hh,by simp[hn],λt q ht=>?_⟩
  · refine h a w ⟨h1,h2,S',F2,⟨h3.os,h3.tape,h3.output,h3.size,h3.kept,?_,?_,λk hk=>h3.cK k (f2 k hk),λk hk=>h3.own k (f2 k hk),?_,λk hk=>s1 k (h3.base k hk)⟩,
      hnew.mono (λk hk=>hk.elim (λh=>(g1 k h).1) (g2 k)) (λ_ h=>h) (λ_ _=>rfl) (λ_ _=>rfl),h5.mono s1 (λ_ _=>rfl)⟩
    · exact λk hk hf'=>(s2 k hk).elim (λh=>h3.eg k h (f2 k hf')) (λh=>(f1 k h).2 hf')
    · exact λk hk=>(s2 k hk).elim (h3.bZ k) (λh=>h3.cK k (f1 k h).1)
    · exact λk hk=>(s2 k hk).elim (h3.shr k) (λh=>by
        rcases h3.own k (f1 k h).1 with h|h
        · exact .inr (.inl h)
        · exact .inr (.inr h))
  · rw[List.getElem?_set] at ht
    by_cases e:f=t
    · subst e
      rw[if_pos rfl,if_pos hfl] at ht;cases ht
      obtain⟨u',F6,_⟩:=hc f _ hf;exact⟨u',F6,s3 u' F6⟩
    · rw[if_neg e] at ht
      obtain⟨u,hu,hq⟩:=hc t q ht;exact⟨u,hu,q.mono s1 (λ_ _=>rfl) hq⟩
theorem aU.jX{Q:Exit->Act->World->Prop}{c:Ctx}{s:Code}{α:Type}{g:SB}{n i j f b:Nat}{enc:α->List VP}{xs:List α}{cs:List VP}[he:gX n enc](hi:hs[i]?=some (aH g n enc xs))(hj:(hs.eraseIdx i)[j]?=some (az b cs))(hf:cs[f]?=some (ag (bI g xs.length)))
    (h:aU P Q c s ((hs.eraseIdx i).set j (az b (cs.set f (ai n enc xs)))) env):aU P Q c s hs env:=St.jX hi hj hf h
inductive TS:List VP->List VP->Prop
 |nil:TS [] []
 |cons {q q':VP} {a b:List VP} (h:aa q q') (t:TS a b):TS (q::a) (q'::b)
theorem TS.get{a b:List VP}(h:TS a b):∀(j:Nat) (q':VP),b[j]?=some q'->∃q,a[j]?=some q/\aa q q':=by
 induction h with
 |nil=>intro j q' h;simp at h
 |cons h t ih=>
  intro j q' hj;cases j with
  |zero=>simp at hj;subst hj;exact⟨_,rfl,h⟩
  |succ j=>obtain⟨q,h1,h2⟩:=ih j q' (by simpa using hj);exact⟨q,by simpa using h1,h2⟩
theorem TS.len{a b:List VP}(h:TS a b):a.length=b.length:=by
 induction h with
 |nil=>rfl
 |cons _ _ ih=>simp[ih]
theorem aa.agg{a b:List VP}(h:TS a b):aa (aC a) (aC b):=λS w v ⟨arr,hv,hn,hc⟩=>⟨arr,hv,by rw[hn,h.len],λj q' hj=>let ⟨q,h1,h2⟩:=h.get j q' hj;let ⟨u,hu,hq⟩:=hc j q h1;⟨u,hu,h2 _ _ _ hq⟩⟩
theorem bE{α:Type}{xs:List α}{k:Nat}{x:α}(h:xs[k]?=some x):xs.take k++[x]=xs.take (k+1):=by
 obtain⟨h1,h2⟩:=List.getElem?_eq_some_iff.1 h;rw[List.take_succ_eq_append_getElem h1,h2]
theorem ah{α:Type}{xs:List α}{k:Nat}(h:k<xs.length):∃x,xs[k]?=some x:=⟨xs[k],by simp[h]⟩
end
end Go.Hl
end
