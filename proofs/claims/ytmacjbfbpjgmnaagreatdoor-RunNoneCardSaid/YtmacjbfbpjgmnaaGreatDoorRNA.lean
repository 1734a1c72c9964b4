/-
  What the statement's proof leans on, several texts in one (packed by a program).
-/
import Derived.WalkKit
import Derived.OrdersIn
import Derived.TacticsIn
import Derived.CallsIn
set_option linter.all false
set_option maxRecDepth 1000000
set_option maxHeartbeats 4000000
section
namespace Go.Hl
open Go.RowKit
abbrev BS:=Nat→Prop
structure VP where
 p:BS→World→Value→Prop
 mono:∀{S S':BS} {w w':World} {v:Value},(∀k,S k→S' k)→(∀k,S k→w'.heap[k]?=w.heap[k]?)→p S w v→p S' w' v
structure HP where
 p:BS→BS→World→Prop
 mono:∀{F F' S S':BS} {w w':World},(∀k,F k→F' k)→(∀k,S k→S' k)→(∀k,F k→w'.heap[k]?=w.heap[k]?)→(∀k,S k→w'.heap[k]?=w.heap[k]?)→p F S w→p F' S' w'
def cT:List HP→BS→BS→World→Prop
 |[],_,_,_=>True
 |h::hs,F,S,w=>∃F1 F2:BS,(∀k,F1 k→F k∧¬F2 k)∧(∀k,F2 k→F k)∧h.p F1 S w∧cT hs F2 S w
theorem cT.mono{hs:List HP}{F F' S S':BS}{w w':World}(hF:∀k,F k→F' k)(hS:∀k,S k→S' k)(eF:∀k,F k→w'.heap[k]?=w.heap[k]?)(eS:∀k,S k→w'.heap[k]?=w.heap[k]?)
    (h:cT hs F S w):cT hs F' S' w':=by
  induction hs generalizing F F' with
  |nil=>trivial
  | cons h' hs ih=>
    obtain⟨F1,F2,h1,h2,h3,h4⟩:=h
    exact⟨F1,F2,fun k hk=>⟨hF k (h1 k hk).1,(h1 k hk).2⟩,fun k hk=>hF k (h2 k hk),
      h'.mono (fun _ h=>h) hS (fun k hk=>eF k (h1 k hk).1) eS h3,ih (fun _ h=>h) (fun k hk=>eF k (h2 k hk)) h4⟩
variable {w:World} {S:BS} {F:BS}
theorem cT.append{as bs:List HP}:cT (as++bs) F S w↔∃F1 F2:BS,(∀k,F1 k→F k∧¬F2 k)∧(∀k,F2 k→F k)∧cT as F1 S w∧cT bs F2 S w:=by
 induction as generalizing F with
 |nil=>
  constructor
  · intro h;exact⟨fun _=>False,F,fun _ h=>h.elim,fun _ h=>h,trivial,h⟩
  · rintro⟨F1,F2,h1,h2,_,h4⟩;exact h4.mono h2 (fun _ h=>h) (fun _ _=>rfl) (fun _ _=>rfl)
 |cons a as ih=>
  constructor
  · rintro⟨F1,F2,h1,h2,h3,h4⟩
    obtain⟨G1,G2,g1,g2,g3,g4⟩:=ih.1 h4;refine⟨fun k=>F1 k∨G1 k,G2,?_,fun k hk=>h2 k (g2 k hk),⟨F1,G1,?_,fun _ h=> .inr h,h3,g3⟩,g4⟩
    · rintro k (hk|hk)
      · exact⟨(h1 k hk).1,fun hg=>(h1 k hk).2 (g2 k hg)⟩
      · exact⟨h2 k (g1 k hk).1,(g1 k hk).2⟩
    · exact fun k hk=>⟨.inl hk,fun hg=>(h1 k hk).2 (g1 k hg).1⟩
  · rintro⟨F1,F2,h1,h2,⟨G1,G2,g1,g2,g3,g4⟩,h4⟩
    refine⟨G1,fun k=>G2 k∨F2 k,?_,?_,g3,ih.2 ⟨G2,F2,?_,fun _ h=> .inr h,g4,h4⟩⟩
    · exact fun k hk=>⟨(h1 k (g1 k hk).1).1,fun h=>h.elim (g1 k hk).2 (h1 k (g1 k hk).1).2⟩
    · rintro k (hk|hk)
      · exact(h1 k (g2 k hk)).1
      · exact h2 k hk
    · exact fun k hk=>⟨.inl hk,(h1 k (g2 k hk)).2⟩
theorem cT.perm{as bs:List HP}(hp:as.Perm bs)(h:cT as F S w):cT bs F S w:=by
 induction hp generalizing F with
 |nil=>exact h
 |cons x _ ih=>obtain⟨F1,F2,h1,h2,h3,h4⟩:=h;exact⟨F1,F2,h1,h2,h3,ih h4⟩
 |swap x y l=>
  have h':cT ([y]++([x]++l)) F S w:=h;obtain⟨F1,F2,h1,h2,h3,h4⟩:=cT.append.1 h';obtain⟨G1,G2,g1,g2,g3,g4⟩:=cT.append.1 h4;refine cT.append (as:=[x]) (bs:=[y]++l)|>.2 ⟨G1,fun k=>F1 k∨G2 k,?_,?_,g3,cT.append.2 ⟨F1,G2,?_,fun _ h=> .inr h,h3,g4⟩⟩
  · exact fun k hk=>⟨h2 k (g1 k hk).1,fun h=>h.elim (fun hf=>(h1 k hf).2 (g1 k hk).1) (g1 k hk).2⟩
  · rintro k (hk|hk)
    · exact(h1 k hk).1
    · exact h2 k (g2 k hk)
  · exact fun k hk=>⟨.inl hk,fun hg=>(h1 k hk).2 (g2 k hg)⟩
 |trans _ _ ih1 ih2=>exact ih2 (ih1 h)
abbrev Env:=List (Nat×VP)
def look:Env→Nat→Option VP
 |[],_=>none
 |(s,q)::r,t=>match Nat.beq s t with|true=>some q|false=>look r t
theorem bw(s:Nat)(q:VP)(r:Env)(t:Nat):look ((s,q)::r) t=if s=t then some q else look r t:=by
 simp only[look];cases h:Nat.beq s t
 · rw[if_neg (by intro e;simp[e] at h)]
 · rw[if_pos (by simpa using h)]
def cn(env:Env)(S:BS)(w:World)(tmps:Array Value):Prop:=∀t q,look env t=some q→q.p S w (tmps.getD t undef)
theorem cn.mono{env:Env}{S S':BS}{w w':World}{tmps:Array Value}(hS:∀k,S k→S' k)(eS:∀k,S k→w'.heap[k]?=w.heap[k]?)(h:cn env S w tmps):cn env S' w' tmps:=
 fun t q hq=>q.mono hS eS (h t q hq)
theorem cn.put{env:Env}{S:BS}{w:World}{a:Act}{d:Nat}{q:VP}{v:Value}(h:cn env S w a.tmps)(hq:q.p S w v)(hd:d<a.tmps.size):
    cn ((d,q)::env) S w (a.put (some d) v).tmps:=by
  intro t q' hl;rw[bw] at hl;by_cases e:d=t
  · rw[if_pos e] at hl;cases hl;subst e;simpa[Act.put,hd] using hq
  · rw[if_neg e] at hl
    have:=h t q' hl;simp only[Act.put,Array.getD_eq_getD_getElem?] at this ⊢;rw[Array.getElem?_setIfInBounds_ne e];exact this
def PB(e e':Env):Prop:=∀S w tmps,cn e S w tmps→cn e' S w tmps
def ag(q q':VP):Prop:=∀S w v,q.p S w v→q'.p S w v
theorem ag.refl(q:VP):ag q q:=fun _ _ _ h=>h
variable {q:VP} {q':VP}
theorem ag.of_eq(h:q=q'):ag q q':=h▸ag.refl q
theorem ag.trans{a b c:VP}(h:ag a b)(k:ag b c):ag a c:=fun S w v x=>k S w v (h S w v x)
def cz(X:List Nat)(e e':Env):Prop:=∀t q',X.contains t=false→look e' t=some q'→∃q,look e t=some q∧ag q q'
variable {e':Env}
theorem cz.le{e:Env}(h:cz [] e e'):PB e e':=fun S w tmps ho t q' hl=>by
 obtain⟨q,hq,hle⟩:=h t q' rfl hl;exact hle _ _ _ (ho t q hq)
variable {X:List Nat}
theorem cz.cons{e:Env}{t:Nat}(hl:look e t=some q)(hq:ag q q')(h:cz (t::X) e e'):cz X e ((t,q')::e'):=by
 intro s x hs hx;rw[bw] at hx;by_cases hts:t=s
 · rw[if_pos hts] at hx;cases hx;subst hts;exact⟨q,hl,hq⟩
 · rw[if_neg hts] at hx
   refine h s x ?_ hx;simp only[List.contains_cons,Bool.or_eq_false_iff];exact⟨by simpa using fun h=>hts h.symm,hs⟩
theorem cz.refl(X:List Nat)(e:Env):cz X e e:=fun t q' _ h=>⟨q',h,ag.refl q'⟩
def tw:Env→Nat→Bool
 |[],_=>false
 |(s,_)::r,t=>Nat.beq s t||tw r t
theorem BK{e:Env}{t:Nat}(h:look e t=some q):tw e t=true:=by
 induction e with
 |nil=>cases h
 |cons p e ih=>
  obtain⟨s,x⟩:=p;rw[bw] at h;by_cases hs:s=t
  · simp[tw,hs]
  · rw[if_neg hs] at h;simp[tw,ih h]
theorem cz.skip{e:Env}{t:Nat}(hk:(X.contains t|| !tw e' t)=true)(h:cz X e e'):cz X ((t,q)::e) e':=by
 intro s x hs hx
 have hne:t≠s:=by
  intro e1;subst e1
  rw[hs,BK hx] at hk;simp at hk
 obtain⟨q',h1,h2⟩:=h s x hs hx;exact⟨q',by rw[bw,if_neg hne];exact h1,h2⟩
def Hh(X:List Nat)(e':Env):Nat→Env→Bool
 |0,_=>true
 |m+1,[]=>true
 |m+1,(t,_)::r=>(X.contains t|| !tw e' t) && Hh X e' m r
theorem cz.Hi{X:List Nat}{e':Env}:∀(m:Nat) (e:Env),Hh X e' m e=true→cz X (e.drop m) e'→cz X e e'
 |0,_,_,h=>h
 |m+1,[],_,h=>h
 |m+1,(t,q)::r,hb,h=>by
  simp only[Hh,Bool.and_eq_true] at hb;exact cz.skip hb.1 (cz.Hi m r hb.2 h)
theorem cz.keep{e:Env}(m:Nat)(he:e.drop m=e')(hb:Hh X e' m e=true):cz X e e':=
 cz.Hi m e hb (he▸cz.refl X _)
theorem cz.get{e:Env}{t:Nat}{r:Env}(hl:look e t=some q)(hq:ag q q')(h:cz (t::X) e r):cz X e ((t,q')::r):=cz.cons hl hq h
structure Ctx where
 w0:World
 S0:BS
 M:BS
 n:Nat
 ro:Option Nat
 df:List Deferred
structure ir(c:Ctx)(w:World)(S F:BS):Prop where
 os:w.os=c.w0.os
 tape:w.tape=c.w0.tape
 output:w.output=c.w0.output
 size:c.w0.heap.size≤w.heap.size
 kept:∀k,k<c.w0.heap.size→¬c.M k→w.heap[k]?=c.w0.heap[k]?
 cR:∀k,S k→¬F k
 bD:∀k,S k→k<w.heap.size
 bO:∀k,F k→k<w.heap.size
 own:∀k,F k→c.M k∨c.w0.heap.size≤k
 shr:∀k,S k→c.S0 k∨c.M k∨c.w0.heap.size≤k
 base:∀k,c.S0 k→S k
def St(c:Ctx)(hs:List HP)(env:Env)(a:Act)(w:World):Prop:=
 a.defers=c.df∧a.tmps.size=c.n∧∃S F,ir c w S F∧cT hs F S w∧cn env S w a.tmps
variable {hs:List HP} {a:Act}
theorem St.mono{c:Ctx}{e:Env}(h:St c hs e a w)(hle:PB e e'):St c hs e' a w:=by
 obtain⟨h1,h2,S,F,h3,h4,h5⟩:=h;exact⟨h1,h2,S,F,h3,h4,hle _ _ _ h5⟩
structure ez(w w':World)(S S':BS):Prop where
 os:w'.os=w.os
 tape:w'.tape=w.tape
 output:w'.output=w.output
 size:w.heap.size≤w'.heap.size
 kept:∀k,k<w.heap.size→w'.heap[k]?=w.heap[k]?
 sub:∀k,S k→S' k
 new:∀k,S' k→S k∨(w.heap.size≤k∧k<w'.heap.size)
theorem ez.refl(w:World)(S:BS):ez w w S S:=⟨rfl,rfl,rfl,Nat.le_refl _,fun _ _=>rfl,fun _ h=>h,fun _ h=> .inl h⟩
variable {w':World} {S':BS}
theorem ir.grow{c:Ctx}(h:ir c w S F)(g:ez w w' S S'):ir c w' S' F where
 os:=g.os.trans h.os
 tape:=g.tape.trans h.tape
 output:=g.output.trans h.output
 size:=Nat.le_trans h.size g.size
 kept:=fun k hk hm=>(g.kept k (Nat.lt_of_lt_of_le hk h.size)).trans (h.kept k hk hm)
 cR:=fun k hk hf=>by
  rcases g.new k hk with h1|⟨h1,_⟩
  · exact h.cR k h1 hf
  · have:=h.bO k hf;omega
 bD:=fun k hk=>by
  rcases g.new k hk with h1|⟨_,h1⟩
  · exact Nat.lt_of_lt_of_le (h.bD k h1) g.size
  · exact h1
 bO:=fun k hk=>Nat.lt_of_lt_of_le (h.bO k hk) g.size
 own:=h.own
 shr:=fun k hk=>by
  rcases g.new k hk with h1|⟨h1,_⟩
  · exact h.shr k h1
  · exact .inr (.inr (Nat.le_trans h.size h1))
 base:=fun k hk=>g.sub k (h.base k hk)
theorem ez.env{w w':World}{S S':BS}{env:Env}{tmps:Array Value}(g:ez w w' S S')(hd:∀k,S k→k<w.heap.size)(h:cn env S w tmps):cn env S' w' tmps:=
 h.mono g.sub fun k hk=>g.kept k (hd k hk)
theorem ez.vp{v:Value}(g:ez w w' S S')(hd:∀k,S k→k<w.heap.size)(h:q.p S w v):q.p S' w' v:=
 q.mono g.sub (fun k hk=>g.kept k (hd k hk)) h
theorem ez.x3(g:ez w w' S S')(hd:∀k,S k→k<w.heap.size)(hf:∀k,F k→k<w.heap.size)(h:cT hs F S w):cT hs F S' w':=
 h.mono (fun _ h=>h) g.sub (fun k hk=>g.kept k (hf k hk)) (fun k hk=>g.kept k (hd k hk))
theorem ez.drew(w:World)(S:BS):ez w {w with drawn:=w.drawn+1} S S:=⟨rfl,rfl,rfl,Nat.le_refl _,fun _ _=>rfl,fun _ h=>h,fun _ h=> .inl h⟩
def aU(env:Env)(x:Operand)(q:VP):Prop:=∀S w (a:Act),cn env S w a.tmps→q.p S w (a.eval x)
def af(v:Value):VP:=⟨fun _ _ u=>u=v,fun _ _ h=>h⟩
abbrev aa(k:IntKind)(n:Int):VP:=af (.int k n)
def ak(p:Prop):VP:=⟨fun _ _ v=>∃b:Bool,v= .bool b∧(b=true↔p),fun _ _ h=>h⟩
theorem aU.t{env:Env}{t:Nat}{q:VP}(h:look env t=some q):aU env (.tmp t) q:=fun _ _ _ he=>he t q h
theorem aU.c{env:Env}(v:Value):aU env (.const v) (af v):=fun _ _ _ _=>rfl
theorem aU.ct{env:Env}:aU env (.const (.bool true)) (ak True):=fun _ _ _ _=>⟨true,rfl,by simp⟩
theorem aU.cf{env:Env}:aU env (.const (.bool false)) (ak False):=fun _ _ _ _=>⟨false,rfl,by simp⟩
theorem aU.f{env:Env}(f:FuncId):aU env (.func f) (af (.func (.func f) #[] #[])):=fun _ _ _ _=>rfl
theorem aU.le{env:Env}{x:Operand}(h:aU env x q)(hq:ag q q'):aU env x q':=fun S w a he=>hq _ _ _ (h S w a he)
theorem ag.prop{p q:Prop}(h:p↔q):ag (ak p) (ak q):=fun _ _ _ ⟨b,hb,hp⟩=>⟨b,hb,hp.trans h⟩
theorem ag.int{k:IntKind}{n m:Int}(h:n=m):ag (aa k n) (aa k m):=ag.of_eq (by rw[h])
def aT(P:Program)(hs:List HP)(env:Env)(o:Oper)(q:VP):Prop:=
 ∀(a:Act) (w:World) (S F:BS),(∀k,S k→k<w.heap.size)→(∀k,F k→k<w.heap.size)→(∀k,S k→¬F k)→cT hs F S w→cn env S w a.tmps→
 ∀(K:Act→World→Prop) (Q:Exit→Act→World→Prop),(∀v w' S',ez w w' S S'→q.p S' w' v→K (a.put o.dst v) w')→o.wp P a w K Q
variable {γ:Type}
def fN(P:Program)(hs:List HP)(env:Env)(o:Oper)(φ:γ→Prop)(hs':γ→List HP)(q:γ→VP):Prop:=
 ∀(c:Ctx) (a:Act) (w:World) (S F:BS),ir c w S F→cT hs F S w→cn env S w a.tmps→
 ∀(K:Act→World→Prop) (Q:Exit→Act→World→Prop),
  (∀g v w' S' F',φ g→ir c w' S' F'→(∀k,S k→S' k)→(∀k,S k→w'.heap[k]?=w.heap[k]?)→cT (hs' g) F' S' w'→(q g).p S' w' v→K (a.put o.dst v) w')→o.wp P a w K Q
variable {P:Program} {o:Oper}
theorem aT.toE{env:Env}(h:aT P hs env o q):fN P hs env o (γ:=Unit) (fun _=>True) (fun _=>hs) (fun _=>q):=
 fun c a w S F ax hown qY K Q hk=>h a w S F ax.bD ax.bO ax.cR hown qY K Q fun v w' S' g hq=>
  hk () v w' S' F trivial (ax.grow g) g.sub (fun k hk=>g.kept k (ax.bD k hk)) (g.x3 ax.bD ax.bO hown) hq
theorem aT.le{env:Env}(h:aT P hs env o q)(hq:ag q q'):aT P hs env o q':=
 fun a w S F h1 h2 h3 h4 h5 K Q hk=>h a w S F h1 h2 h3 h4 h5 K Q fun v w' S' g hv=>hk v w' S' g (hq _ _ _ hv)
def WF(ρ:Option Nat):Fence:={Fence.wide with round:=ρ}
variable {ρ:Option Nat}
theorem BL{n:Nat}{f:FuncId}{args:Array Value}{R:Ending→World→Prop}(h:Calls P f args w R):CallsIn (WF ρ) n P f args w R:=callsIn_wide.2 h
theorem NO{n:Nat}{row:String}{args:Array Value}{R:Value→World→Prop}(h:Rows P row args w R):RowsIn (WF ρ) n P row args w R:=fun c cs _=>
 let ⟨v,w',r,s⟩:=h c cs;⟨v,w',r,(stepsIn_wide (P:=P)).2 s⟩
theorem Oper.om{K:Act→World→Prop}{Q:Exit→Act→World→Prop}(hd:∀c,o.op≠ .defer c)(h:o.wp P a w K Q):o.wpIn (WF ρ) 0 P a w K Q:=by
 refine⟨fun _ _=>trivial,?_⟩;rw[Oper.semAt_eq _ _ _ hd];unfold Oper.wp at h;cases hr:(execOp a.eval o).run P w with
 |ok v w'=>
  rw[hr] at h;cases v with
  |value v=>exact h
  |skip=>exact h
  |defer d=>exact h
  |enter f args=>exact⟨fun h0=>(by cases h0),BL h⟩
  |row r args=>exact⟨fun h0=>(by cases h0),NO h⟩
  |_=>exact h.elim
 |halt k w'=>
  rw[hr] at h;cases k with
  |panic v=>exact h
  |_=>exact h.elim
theorem Oper.BM(h:o.wp P a w (fun a' _=>a'.defers=a.defers) (fun _ _ _=>False)):∀c,o.op≠ .defer c:=by
 intro cl e;unfold Oper.wp at h
 have hx:execOp a.eval o=(do pure (.defer (←resolve a.eval cl o.type))):=by
  cases o;simp only at e;subst e;rfl
 rw[hx] at h;simp only[Sem.run_bind] at h;cases hr:(resolve a.eval cl o.type).run P w with
 |ok d w'=>
  rw[hr] at h;have h2:({a with defers:=d::a.defers}.put o.dst undef).defers=a.defers:=h;have h3:({a with defers:=d::a.defers}.put o.dst undef).defers=d::a.defers:=by cases o.dst<;>rfl
  rw[h3] at h2;exact absurd (congrArg List.length h2) (by simp)
 |halt k w'=>
  rw[hr] at h;cases k with
  |panic v=>exact h
  |_=>exact h
def bG(P:Program)(ops:Array Oper)(Q:Exit→Act→World→Prop)(c:Ctx)(l:List Oper)(hs:List HP)(env:Env):Prop:=
 ∀a w,St c hs env a w→wpListIn (WF c.ro) 0 P ops Q l a w
def aJ(P:Program)(Q:Exit→Act→World→Prop)(c:Ctx)(x:Code)(hs:List HP)(env:Env):Prop:=
 ∀a w,St c hs env a w→x.wpIn (WF c.ro) 0 P Q a w
def bx(Q:Exit→Act→World→Prop)(e:Exit)(c:Ctx)(hs:List HP)(env:Env):Prop:=∀a w,St c hs env a w→Q e a w
section
variable {P:Program} {ops:Array Oper} {Q:Exit→Act→World→Prop} {c:Ctx} {l:List Oper} {hs:List HP} {env:Env} {o:Oper} {q:VP}
theorem bG.nil(h:bx Q .normal c hs env):bG P ops Q c [] hs env:=fun a w hst=>wpListIn_nil (h a w hst)
theorem Act.fy(a:Act)(d:Option Tmp)(v:Value):(a.put d v).tmps.size=a.tmps.size:=by cases d<;>simp[Act.put]
theorem Act.cU(a:Act)(d:Option Tmp)(v:Value):(a.put d v).defers=a.defers:=by cases d<;>rfl
def Env.ue(env:Env)(d:Option Tmp)(q:VP):Env:=match d with|some d=>(d,q)::env|none=>env
theorem cn.ue{env:Env}{S:BS}{w:World}{a:Act}{d:Option Tmp}{q:VP}{v:Value}(h:cn env S w a.tmps)(hq:q.p S w v)(hd:∀t,d=some t→t<a.tmps.size):
    cn (Env.ue env d q) S w (a.put d v).tmps:=by
  cases d with
  |none=>exact h
  |some t=>exact h.put hq (hd t rfl)
theorem fN.gV{γ:Type}{φ:γ→Prop}{hs':γ→List HP}{qs:γ→VP}(h:fN P hs env o φ hs' qs){a:Act}{w:World}{S F:BS}(h3:ir c w S F)(h4:cT hs F S w)(h5:cn env S w a.tmps):∀cl,o.op≠ .defer cl:=
 Oper.BM (h c a w S F h3 h4 h5 (fun a' _=>a'.defers=a.defers) (fun _ _ _=>False) fun g v w' S' F' _ _ _ _ _ _=>Act.cU a o.dst v)
theorem bG.e{γ:Type}{φ:γ→Prop}{hs':γ→List HP}{qs:γ→VP}(h:fN P hs env o φ hs' qs)(hg:o.guard=none)(hd:(match o.dst with|some t=>decide (t<c.n)|none=>true)=true)
    (k:∀g,φ g→bG P ops Q c l (hs' g) (Env.ue env o.dst (qs g))):bG P ops Q c (o::l) hs env:=by
  intro a w hst;obtain⟨h1,h2,S,F,h3,h4,h5⟩:=hst;refine wpListIn_plain hg fun K hK=>Oper.om (h.gV h3 h4 h5)<|h c a w S F h3 h4 h5 K Q fun g v w' S' F' hφ ax hsub hag hown hq=>hK _ _ (k g hφ _ _ ⟨?_,?_,S',F',ax,hown,?_⟩)
  · rw[Act.cU];exact h1
  · rw[Act.fy];exact h2
  · refine(h5.mono hsub hag).ue hq fun t ht=>?_
    rw[ht] at hd;rw[h2];simpa using hd
theorem bG.p{d:Tmp}{op:Op}{ty:TypeId}{pos:String}{after:Array Edge}(h:aT P hs env ⟨some d,op,ty,pos,after,none⟩ q)(hd:Nat.blt d c.n=true)
    (k:bG P ops Q c l hs ((d,q)::env)):bG P ops Q c (⟨some d,op,ty,pos,after,none⟩::l) hs env:=
  bG.e h.toE rfl (by simpa using hd) (fun _ _=>k)
def dV(p:Prop)(q:VP):VP:=⟨fun S w v=>(p→q.p S w v)∧(¬p→v=undef),fun h1 h2 h=>⟨fun hp=>q.mono h1 h2 (h.1 hp),h.2⟩⟩
def bB(P:Program)(ops:Array Oper)(n:Nat)(hs:List HP)(env:Env)(o:Oper)(q:VP):Prop:=
 ∀(a:Act) (w:World) (S F:BS),a.tmps.size=n→(∀k,S k→k<w.heap.size)→(∀k,F k→k<w.heap.size)→(∀k,S k→¬F k)→cT hs F S w→cn env S w a.tmps→
 ∀(K:Act→World→Prop) (Q:Exit→Act→World→Prop),(∀v w' S',ez w w' S S'→q.p S' w' v→K (a.put o.dst v) w')→
  if Region.wanted o (yielded ops a.tmps) then o.wp P a w K Q else K (a.put o.dst undef) w
theorem bB.plain{n:Nat}(h:aT P hs env o q)(hg:o.guard=none):bB P ops n hs env o q:=by
 intro a w S F hn h1 h2 h3 h4 h5 K Q hk;rw[if_pos (by simp[Region.wanted,hg])];exact h a w S F h1 h2 h3 h4 h5 K Q hk
theorem bB.aux{n:Nat}{j:Nat}{want:Bool}{t:Tmp}{p:Prop}{c:Prop}(rX:o.guard=some (j,want))
    (hj:(ops[j]?).bind (·.dst)=some t) (ht:Nat.blt t n=true)
    (hb:∀S w (tmps:Array Value),cn env S w tmps→(c∧∃b,tmps.getD t undef= .bool b∧(b=true↔p))∨(¬c∧tmps.getD t undef=undef))
    (h:(c∧(if want then p else ¬p))→aT P hs env o q):bB P ops n hs env o (dV (c∧(if want then p else ¬p)) q):=by
  intro a w S F hn h1 h2 h3 h4 h5 K Q hk;have ht':t<a.tmps.size:=by rw[hn];simpa using ht
  have h6:a.tmps[t]?=some (a.tmps.getD t undef):=by simp[ht']
  rcases hb S w a.tmps h5 with⟨hc,b,hb,BF⟩|⟨hc,hu⟩
  · have hy:yielded ops a.tmps j=some b:=by
      unfold yielded;rw[hj];simp only[Option.bind_some,h6,hb]
    by_cases hw:b=want
    · have hp:(if want then p else ¬p):=by
        cases want
        · simp at hw ⊢;intro hp';rw[BF.2 hp'] at hw;cases hw
        · simpa using BF.1 hw
      rw[if_pos (by simp[Region.wanted,rX,hy,hw])];exact h ⟨hc,hp⟩ a w S F h1 h2 h3 h4 h5 K Q fun v w' S' g hq=>hk v w' S' g ⟨fun _=>hq,fun hn=>(hn ⟨hc,hp⟩).elim⟩
    · have hp:¬(if want then p else ¬p):=by
        cases want
        · simp at hw ⊢;exact BF.1 hw
        · intro hp';exact hw (BF.2 (by simpa using hp'))
      rw[if_neg (by simp[Region.wanted,rX,hy,hw])];exact hk _ _ S (ez.refl _ _) ⟨fun hn=>(hp hn.2).elim,fun _=>rfl⟩
  · have hy:yielded ops a.tmps j=none:=by
      unfold yielded;rw[hj];simp only[Option.bind_some,h6,hu];rfl
    rw[if_neg (by simp[Region.wanted,rX,hy])];exact hk _ _ S (ez.refl _ _) ⟨fun hn=>(hc hn.1).elim,fun _=>rfl⟩
theorem dV.congr{p p':Prop}(h:p↔p'){q:VP}:ag (dV p q) (dV p' q):=fun _ _ _ hv=>⟨fun hp=>hv.1 (h.2 hp),fun hp=>hv.2 (fun h'=>hp (h.1 h'))⟩
theorem bB.le{n:Nat}{q':VP}(h:bB P ops n hs env o q)(hq:ag q q'):bB P ops n hs env o q':=by
 intro a w S F hn h1 h2 h3 h4 h5 K Q hk;exact h a w S F hn h1 h2 h3 h4 h5 K Q fun v w' S' g hv=>hk v w' S' g (hq _ _ _ hv)
theorem bB.gT{n:Nat}{j:Nat}{t:Tmp}{p:Prop}(hl:look env t=some (ak p))(rX:o.guard=some (j,true))(hj:(ops[j]?).bind (·.dst)=some t)(ht:Nat.blt t n=true)
    (h:p→aT P hs env o q):bB P ops n hs env o (dV p q):=
  (bB.aux (c:=True) (p:=p) rX hj ht (fun S w tmps he=> .inl ⟨trivial,he t _ hl⟩) (fun hp=>h (by simpa using hp.2))).le (dV.congr (by simp))
theorem bB.gF{n:Nat}{j:Nat}{t:Tmp}{p:Prop}(hl:look env t=some (ak p))(rX:o.guard=some (j,false))(hj:(ops[j]?).bind (·.dst)=some t)(ht:Nat.blt t n=true)
    (h:¬p→aT P hs env o q):bB P ops n hs env o (dV (¬p) q):=
  (bB.aux (c:=True) (p:=p) rX hj ht (fun S w tmps he=> .inl ⟨trivial,he t _ hl⟩) (fun hp=>h (by simpa using hp.2))).le (dV.congr (by simp))
theorem bB.Ql{t:Tmp}{c p:Prop}(hl:look env t=some (dV c (ak p)))(S:BS)(w:World)(tmps:Array Value)(he:cn env S w tmps):
    (c∧∃b,tmps.getD t undef= .bool b∧(b=true↔p))∨(¬c∧tmps.getD t undef=undef):=by
  have h:=he t _ hl;by_cases hc:c
  · exact .inl ⟨hc,h.1 hc⟩
  · exact .inr ⟨hc,h.2 hc⟩
theorem bB.hT{n:Nat}{j:Nat}{t:Tmp}{c p:Prop}(hl:look env t=some (dV c (ak p)))(rX:o.guard=some (j,true))(hj:(ops[j]?).bind (·.dst)=some t)(ht:Nat.blt t n=true)
    (h:c∧p→aT P hs env o q):bB P ops n hs env o (dV (c∧p) q):=
  (bB.aux (c:=c) (p:=p) rX hj ht (bB.Ql hl) (fun hp=>h (by simpa using hp))).le (dV.congr (by simp))
theorem bB.hF{n:Nat}{j:Nat}{t:Tmp}{c p:Prop}(hl:look env t=some (dV c (ak p)))(rX:o.guard=some (j,false))(hj:(ops[j]?).bind (·.dst)=some t)(ht:Nat.blt t n=true)
    (h:c∧¬p→aT P hs env o q):bB P ops n hs env o (dV (c∧¬p) q):=
  (bB.aux (c:=c) (p:=p) rX hj ht (bB.Ql hl) (fun hp=>h (by simpa using hp))).le (dV.congr (by simp))
theorem bB.gV{n:Nat}(h:bB P ops n hs env o q){a:Act}{w:World}{S F:BS}(hn:a.tmps.size=n)(h3:ir c w S F)(h4:cT hs F S w)(h5:cn env S w a.tmps)(hw:Region.wanted o (yielded ops a.tmps)=true):∀cl,o.op≠ .defer cl:=by
 have:=h a w S F hn h3.bD h3.bO h3.cR h4 h5 (fun a' _=>a'.defers=a.defers) (fun _ _ _=>False) fun v w' S' _ _=>Act.cU a o.dst v;rw[if_pos hw] at this;exact Oper.BM this
theorem IP{n:Nat}(h:bB P ops n hs env o q){a:Act}{w:World}{S F:BS}(hn:a.tmps.size=n)(h3:ir c w S F)(h4:cT hs F S w)(h5:cn env S w a.tmps){ρ:Option Nat}{K:Act→World→Prop}(k:if Region.wanted o (yielded ops a.tmps) then o.wp P a w K Q else K (a.put o.dst undef) w):
    if Region.wanted o (yielded ops a.tmps) then o.wpIn (WF ρ) 0 P a w K Q else(∀f,o.about P w a.eval=some f→(WF ρ).fn f)∧K (a.put o.dst undef) w:=by
  by_cases hw:Region.wanted o (yielded ops a.tmps)=true
  · rw[if_pos hw] at k ⊢;exact Oper.om (h.gV hn h3 h4 h5 hw) k
  · rw[if_neg hw] at k ⊢;exact⟨fun _ _=>trivial,k⟩
theorem bG.g{d:Tmp}(h:bB P ops c.n hs env o q)(l6:o.dst=some d)(hd:Nat.blt d c.n=true)(k:bG P ops Q c l hs ((d,q)::env)):bG P ops Q c (o::l) hs env:=by
 intro a w hst;obtain⟨h1,h2,S,F,h3,h4,h5⟩:=hst;refine wpListIn_step fun K hK=>IP h h2 h3 h4 h5 ?_;refine h a w S F h2 h3.bD h3.bO h3.cR h4 h5 K Q fun v w' S' g hq=>hK _ _ (k _ _ ⟨?_,?_,S',F,h3.grow g,g.x3 h3.bD h3.bO h4,?_⟩)
 · rw[Act.cU];exact h1
 · rw[Act.fy];exact h2
 · rw[l6];exact(g.env h3.bD h5).put hq (by rw[h2];simpa using hd)
theorem aJ.region{id:Nat}(h:bG P l.toArray Q c l hs env):aJ P Q c (.region id l.toArray false) hs env:=fun a w hst=>wpIn_region_lit (h a w hst)
theorem aJ.seq{x y:Code}(h:aJ P (Exit.then (y.wpIn (WF c.ro) 0 P Q) Q) c x hs env):aJ P Q c (.seq x y) hs env:=fun a w hst=>wpIn_seq (h a w hst)
theorem aJ.block{id:Nat}{x:Code}(h:aJ P (Exit.inBlock id Q) c x hs env):aJ P Q c (.block id x) hs env:=fun a w hst=>wpIn_block (h a w hst)
theorem aJ.skip(h:bx Q .normal c hs env):aJ P Q c .skip hs env:=fun a w hst=>wpIn_skip (h a w hst)
theorem aJ.ret(h:bx Q .ret c hs env):aJ P Q c .ret hs env:=fun a w hst=>wpIn_ret (h a w hst)
theorem aJ.exit{id:Nat}(h:bx Q (.exit id) c hs env):aJ P Q c (.exit id) hs env:=fun a w hst=>wpIn_exit (h a w hst)
theorem aJ.cond{x:Operand}{p:Prop}{s t:Code}(hx:aU env x (ak p))(ht:p→aJ P Q c s hs env)(hf:¬p→aJ P Q c t hs env):aJ P Q c (.cond x s t) hs env:=by
 intro a w hst;obtain⟨b,hb,BF⟩:=hx _ w a hst.2.2.choose_spec.choose_spec.2.2;refine wpIn_cond_split hb (fun h=>ht (BF.1 h) a w hst) (fun h=>hf (fun hp=>?_) a w hst);rw[BF.2 hp] at h;cases h
theorem aJ.fact{x:Code}{t:Nat}{p:Prop}(hl:look env t=some q)(hp:∀S w v,q.p S w v→p)(h:p→aJ P Q c x hs env):aJ P Q c x hs env:=by
 intro a w hst;exact h (hp _ _ _ (hst.2.2.choose_spec.choose_spec.2.2 t q hl)) a w hst
theorem aJ.loop{x:Code}{σ:Type}(ih:σ→List HP)(ie:σ→Env)(φ:σ→Prop)(μ:σ→Nat)(s0:σ)(h0:φ s0)(Qm:∀a w,St c hs env a w→St c (ih s0) (ie s0) a w)
    (round:∀s,φ s→aJ P (Exit.then (fun a w=>∃s',φ s'∧μ s'<μ s∧St c (ih s') (ie s') a w) Q) c x (ih s) (ie s)):aJ P Q c (.loop x) hs env:=by
  intro a w hst;intro b k cs hro hb hr
  have key:∀n s,μ s=n→φ s→∀a w,St c (ih s) (ie s) a w→
      ∃e a' w',Q e a' w'∧ArrivesIn (Machine.fenced P (WF c.ro)) P (lone (b.atR a (.code x:: .inLoop x::k)) cs w) b k cs e a' w':=by
    intro n
    induction n using Nat.strongRecOn with
    | _ n IH=>
      intro s hn hs a w hst;obtain⟨e,a₁,w₁,hq,r7⟩:=round s hs a w hst b (.inLoop x::k) cs hro hb hr;cases e with
      | normal=>
        obtain⟨s',h1,hlt,h2⟩:=hq;obtain⟨e₂,a₂,w₂,hq₂,harr₂⟩:=IH (μ s') (hn▸hlt) s' rfl h1 a₁ w₁ h2;exact⟨e₂,a₂,w₂,hq₂, .of_steps (StepsIn.trans r7 (.one (fenced_calm hb hr rfl) stepR_inLoop)) harr₂⟩
      |exit id=>exact⟨_,a₁,w₁,hq, .pass (x:= .inLoop x) rfl (fun _ _=> .inl (by simp)) r7⟩
      |goto l=>exact⟨_,a₁,w₁,hq, .pass (x:= .inLoop x) rfl (fun _ _=> .inl (by simp)) r7⟩
      |ret=>exact⟨_,a₁,w₁,hq, .pass (x:= .inLoop x) rfl (fun _ _=> .inl (by simp)) r7⟩
      |panic ch=>exact⟨_,a₁,w₁,hq, .pass (x:= .inLoop x) rfl (fun _ _=> .inl (by simp)) r7⟩
      |outgrown=>exact⟨_,a₁,w₁,hq, .pass (x:= .inLoop x) rfl (fun _ _=> .inl (by simp)) r7⟩
  obtain⟨e,a',w',hq,r7⟩:=key _ s0 rfl h0 a w (Qm a w hst);exact⟨e,a',w',hq, .of_steps (.one (fenced_calm hb hr rfl) stepR_loop) r7⟩
end
section
variable {P:Program} {Q:Exit→Act→World→Prop} {c:Ctx} {hs:List HP} {env:Env}
theorem bx.BN{x:Code}{ρ:Option Nat}(h:aJ P Q c x hs env)(hro:c.ro=ρ:=by rfl):bx (Exit.then (x.wpIn (WF ρ) 0 P Q) Q) .normal c hs env:=hro▸h
theorem bx.SE{K:Act→World→Prop}(h:bx Q .ret c hs env):bx (Exit.then K Q) .ret c hs env:=h
theorem bx.SF{K:Act→World→Prop}{id:Nat}(h:bx Q (.exit id) c hs env):bx (Exit.then K Q) (.exit id) c hs env:=h
theorem bx.Xa{id:Nat}(h:bx Q .normal c hs env):bx (Exit.inBlock id Q) .normal c hs env:=h
theorem bx.Xb{id:Nat}(h:bx Q .ret c hs env):bx (Exit.inBlock id Q) .ret c hs env:=h
theorem bx.Xc{id:Nat}(h:bx Q .normal c hs env):bx (Exit.inBlock id Q) (.exit id) c hs env:=fun a w hst=>by
 simp only[Exit.inBlock,if_true];exact h a w hst
theorem bx.Xd{id id':Nat}(hne:Nat.beq id' id=false)(h:bx Q (.exit id') c hs env):bx (Exit.inBlock id Q) (.exit id') c hs env:=fun a w hst=>by
 have Xe:¬id'=id:=fun e=>by subst e;simp at hne
 simp only[Exit.inBlock,if_neg Xe];exact h a w hst
theorem aJ.bP{x:Code}{σ:Type}(ih:σ→List HP)(ov:σ→Env)(φ:σ→Prop)(μ:σ→Nat)(s0:σ)(h0:φ s0)(hh:hs=ih s0)(Qm:cz [] env (ov s0++env))
    (round:∀s,φ s→aJ P (Exit.then (fun a w=>∃s',φ s'∧μ s'<μ s∧St c (ih s') (ov s'++env) a w) Q) c x (ih s) (ov s++env)):aJ P Q c (.loop x) hs env:=
  aJ.loop ih (fun s=>ov s++env) φ μ s0 h0 (fun a w h=>(hh▸h).mono Qm.le) round
theorem bx.round{σ:Type}{ih:σ→List HP}{ov:σ→Env}{φ:σ→Prop}{m:σ→Prop}{KZ:Env}(s':σ)(h1:φ s')(h2:m s')(hh:hs=ih s')(h3:cz [] env (ov s'++KZ)):
    bx (Exit.then (fun a w=>∃s',φ s'∧m s'∧St c (ih s') (ov s'++KZ) a w) Q) .normal c hs env:=
  fun a w hst=>⟨s',h1,h2,(hh▸hst).mono h3.le⟩
theorem aJ.cut{x y:Code}{σ:Type}(ih:σ→List HP)(ov:σ→Env)(φ:σ→Prop)(h1:aJ P (Exit.then (fun a w=>∃s,φ s∧St c (ih s) (ov s++env) a w) Q) c x hs env)
    (h2:∀s,φ s→aJ P Q c y (ih s) (ov s++env)):aJ P Q c (.seq x y) hs env:=fun a w hst=>
  wpIn_seq (Code.wpIn_mono (fun e a w q=>by
    cases e with
    |normal=>obtain⟨s,hs,hst⟩:=q;exact h2 s hs a w hst
    |_=>exact q) (h1 a w hst))
theorem bx.meet{σ:Type}{ih:σ→List HP}{ov:σ→Env}{φ:σ→Prop}{KZ:Env}(s':σ)(h1:φ s')(hh:hs=ih s')(h3:cz [] env (ov s'++KZ)):
    bx (Exit.then (fun a w=>∃s',φ s'∧St c (ih s') (ov s'++KZ) a w) Q) .normal c hs env:=
  fun a w hst=>⟨s',h1,(hh▸hst).mono h3.le⟩
end
def e9(ps:List VP)(S:BS)(w:World)(vs:List Value):Prop:=ps.length=vs.length∧∀(j:Nat) (p:VP) (v:Value),ps[j]?=some p→vs[j]?=some v→p.p S w v
def bk(P:Program)(f:FuncId)(ps:List VP)(hs:List HP)(φ:γ→Prop)(hs':γ→List HP)(q:γ→VP):Prop:=
 ∀(w:World) (S F:BS) (vs:Array Value),(∀k,S k→k<w.heap.size)→(∀k,F k→k<w.heap.size)→(∀k,S k→¬F k)→cT hs F S w→e9 ps S w vs.toList→
  Calls P f vs w fun e w'=>∃v S' F' g,e= .returned v∧ir ⟨w,S,F,0,none,[]⟩ w' S' F'∧φ g∧cT (hs' g) F' S' w'∧(q g).p S' w' v
def cw(P:Program)(f:FuncId)(ps:List VP)(q:VP):Prop:=bk P f ps [] (γ:=Unit) (fun _=>True) (fun _=>[]) (fun _=>q)
def args(ps:List VP):Env:=ps.zipIdx.map fun(p,i)=>(i,p)
theorem ld:∀(ps:List VP) (k t:Nat) (q:VP),look ((ps.zipIdx k).map fun(p,i)=>(i,p)) t=some q→∃j,t=k+j∧ps[j]?=some q
 |[],_,_,_,h=>by cases h
 |p::ps,k,t,q,h=>by
  rw[List.zipIdx_cons,List.map_cons] at h;simp only[bw] at h;by_cases e:k=t
  · rw[if_pos e] at h;exact⟨0,by omega,by simpa using h⟩
  · rw[if_neg e] at h
    obtain⟨j,h1,h2⟩:=ld ps (k+1) t q h;exact⟨j+1,by omega,by simpa using h2⟩
def Post(P:Program)(fn:Func)(c:Ctx)(φ:γ→Prop)(hs':γ→List HP)(q:γ→VP):Exit→Act→World→Prop:=
 bodyPost P fn fun e w'=>∃v S' F' g,e= .returned v∧ir ⟨c.w0,c.S0,c.M,0,none,[]⟩ w' S' F'∧φ g∧cT (hs' g) F' S' w'∧(q g).p S' w' v
theorem bk.intro{P:Program}{f:FuncId}{fn:Func}{x:Code}{ps:List VP}{hs:List HP}{γ:Type}{φ:γ→Prop}{hs':γ→List HP}{q:γ→VP}
    (n:Nat) (hf:P.funcs[f]?=some fn) (hb:fn.body=some x) (hnt:fn.ntmps=n) (hn:Nat.ble ps.length n=true)
    (h:∀(w0:World) (S0 M:BS),aJ P (Post P fn ⟨w0,S0,M,n,none,[]⟩ φ hs' q) ⟨w0,S0,M,n,none,[]⟩ x hs (args ps)):bk P f ps hs φ hs' q:=by
  intro w S F vs hS hF hSF hown hall;have hlen:ps.length=vs.size:=by simpa using hall.1
  have hn':ps.length≤n:=by simpa using hn
  refine calls_of_wp hf hb (wpIn_wide.1 (h w S F _ _ ⟨rfl,?_,S,F,?_,hown,?_⟩))
  · simp;omega
  · exact⟨rfl,rfl,rfl,Nat.le_refl _,fun _ _ _=>rfl,hSF,hS,hF,fun k hk=> .inl hk,fun k hk=> .inl hk,fun _ hk=>hk⟩
  · intro t q' hl
    obtain⟨j,hj,hq⟩:=ld ps 0 t q' hl;have rY:t=j:=by omega
    subst rY;have hjl:t<ps.length:=(List.getElem?_eq_some_iff.1 hq).1;have Hj:t<vs.size:=by omega
    have:(vs++Array.replicate (fn.ntmps-vs.size) undef).getD t undef=vs[t]:=by simp[Array.getElem?_append,Hj]
    rw[this];exact hall.2 t q' _ hq (by simp[Hj])
theorem Post.Xf{fn:Func}{c:Ctx}{φ:γ→Prop}{hs':γ→List HP}{q:γ→VP}{env:Env}{t:Tmp}{x:VP}
    (hr:fn.results= #[.tmp t]) (hl:look env t=some x) (g:γ) (hφ:φ g) (hh:∀F S w,cT hs F S w→cT (hs' g) F S w) (hx:ag x (q g)) (hdf:c.df=[]:=by rfl):bx (Post P fn c φ hs' q) .ret c hs env:=by
  intro a w hst;obtain⟨h1,h2,S,F,h3,h4,h5⟩:=hst;exact⟨h1.trans hdf,_,results_tmp hr _ _ _,_,S,F,g,rfl,⟨h3.os,h3.tape,h3.output,h3.size,h3.kept,h3.cR,h3.bD,h3.bO,h3.own,h3.shr,h3.base⟩,hφ,hh _ _ _ h4,hx _ _ _ (h5 t x hl)⟩
theorem Post.Xg{fn:Func}{c:Ctx}{env:Env}{t:Tmp}{x:VP}
    (hr:fn.results= #[.tmp t]) (hl:look env t=some x) (hx:ag x q) (hdf:c.df=[]:=by rfl):bx (Post P fn c (γ:=Unit) (fun _=>True) (fun _=>[]) (fun _=>q)) .ret c hs env:=
  Post.Xf hr hl () trivial (fun _ _ _ _=>trivial) hx hdf
def aS(qs:List VP):VP:=⟨fun S w v=>∃vs:Array Value,v= .tuple vs∧e9 qs S w vs.toList,
 fun h1 h2 ⟨vs,hv,hl,hp⟩=>⟨vs,hv,hl,fun j p v hj qI=>p.mono h1 h2 (hp j p v hj qI)⟩⟩
section
variable {P:Program} {hs:List HP} {env:Env} {q:VP} {dst:Option Tmp} {ty T T':TypeId} {pos:String} {after:Array Edge} {g:Option (Nat×Bool)}
structure SG(env:Env)(S:BS)(w:World)(ρ:Operand→Value):Prop where
 c:∀v,ρ (.const v)=v
 f:∀f,ρ (.func f)= .func (.func f) #[] #[]
 o:∀x q,aU env x q→q.p S w (ρ x)
theorem SG.of{env:Env}{S:BS}{w:World}{a:Act}(h:cn env S w a.tmps):SG env S w a.eval:=⟨fun _=>rfl,fun _=>rfl,fun x q hx=>hx S w a h⟩
theorem aT.of_run {o:Oper} (h:∀(ρ:Operand→Value) (w:World) (S F:BS),(∀k,S k→k<w.heap.size)→(∀k,F k→k<w.heap.size)→(∀k,S k→¬F k)→cT hs F S w→SG env S w ρ→
    ∃v w' S',(execOp ρ o).run P w= .ok (.value v) w'∧ez w w' S S'∧q.p S' w' v):aT P hs env o q:=by
  intro a w S F h1 h2 h3 h4 h5 K Q hk;obtain⟨v,w',S',hr,hg,hq⟩:=h a.eval w S F h1 h2 h3 h4 (SG.of h5);unfold Oper.wp;rw[hr];exact hk v w' S' hg hq
theorem aT.aD{o:Oper}(h:∀(ρ:Operand→Value) (w:World) (S F:BS),cT hs F S w→SG env S w ρ→∃v,(execOp ρ o).run P w= .ok (.value v) w∧q.p S w v):aT P hs env o q:=
 aT.of_run fun a w S F _ _ _ h4 h5=>let ⟨v,h,hq⟩:=h a w S F h4 h5;⟨v,w,S,h,ez.refl _ _,hq⟩
theorem eK{x:Operand}(h:aU env x q):aT P hs env ⟨dst, .move x,ty,pos,after,g⟩ q:=
 aT.aD fun ρ w S F _ he=>⟨ρ x,rfl,he.o _ _ h⟩
theorem dK{x:Operand}(h:aU env x q):aT P hs env ⟨dst, .assign x,ty,pos,after,g⟩ q:=
 aT.aD fun ρ w S F _ he=>⟨ρ x,rfl,he.o _ _ h⟩
variable {k:IntKind} {n m:Int} {x y z:Operand}
theorem K1(hx:aU env x (aa k n))(hy:aU env y (aa k m)):aT P hs env ⟨dst, .binOp .add T x y T',ty,pos,after,g⟩ (aa k (k.wrap (n+m))):=
 aT.aD fun ρ w S F _ he=>by
  have h1:=he.o _ _ hx;have h2:=he.o _ _ hy;simp only[af] at h1 h2
  exact⟨_,by simp[execOp,h1,h2,go_sem,Op.intArith],rfl⟩
theorem PC(hx:aU env x (aa k n))(hy:aU env y (aa k m)):aT P hs env ⟨dst, .binOp .sub T x y T',ty,pos,after,g⟩ (aa k (k.wrap (n-m))):=
 aT.aD fun ρ w S F _ he=>by
  have h1:=he.o _ _ hx;have h2:=he.o _ _ hy;simp only[af] at h1 h2
  exact⟨_,by simp[execOp,h1,h2,go_sem,Op.intArith],rfl⟩
theorem PD(hx:aU env x (aa k n))(hy:aU env y (aa k m)):aT P hs env ⟨dst, .binOp .mul T x y T',ty,pos,after,g⟩ (aa k (k.wrap (n*m))):=
 aT.aD fun ρ w S F _ he=>by
  have h1:=he.o _ _ hx;have h2:=he.o _ _ hy;simp only[af] at h1 h2
  exact⟨_,by simp[execOp,h1,h2,go_sem,Op.intArith],rfl⟩
def fits(k:IntKind)(n:Int):Prop:=k.min≤n∧n≤k.max
theorem eu{k:IntKind}{n:Int}(h:fits k n):k.wrap n=n:=by
 obtain⟨h1,h2⟩:=h;cases k<;>simp[IntKind.wrap,IntKind.min,IntKind.max,IntKind.signed,IntKind.bits] at* <;>omega
theorem cG{n:Int}(h1: -9223372036854775808≤n)(h2:n≤9223372036854775807):fits .i64 n:=by
 constructor<;>simp[IntKind.min,IntKind.max,IntKind.signed,IntKind.bits]<;>omega
theorem vD{n:Int}(h1:0≤n)(h2:n≤18446744073709551615):fits .u64 n:=by
 constructor<;>simp[IntKind.min,IntKind.max,IntKind.signed,IntKind.bits]<;>omega
theorem Ho{n:Int}(h1:0≤n)(h2:n≤255):fits .u8 n:=by
 constructor<;>simp[IntKind.min,IntKind.max,IntKind.signed,IntKind.bits]<;>omega
theorem BO{n:Int}(h1:0≤n)(h2:n≤4294967295):fits .u32 n:=by
 constructor<;>simp[IntKind.min,IntKind.max,IntKind.signed,IntKind.bits]<;>omega
theorem gf(hx:aU env x (aa k n))(hy:aU env y (aa k m))(h:fits k (n+m)):aT P hs env ⟨dst, .binOp .add T x y T',ty,pos,after,g⟩ (aa k (n+m)):=
 (K1 hx hy).le (ag.int (eu h))
theorem gj(hx:aU env x (aa k n))(hy:aU env y (aa k m))(h:fits k (n-m)):aT P hs env ⟨dst, .binOp .sub T x y T',ty,pos,after,g⟩ (aa k (n-m)):=
 (PC hx hy).le (ag.int (eu h))
theorem vE(hx:aU env x (aa k n))(hy:aU env y (aa k m))(h:fits k (n*m)):aT P hs env ⟨dst, .binOp .mul T x y T',ty,pos,after,g⟩ (aa k (n*m)):=
 (PD hx hy).le (ag.int (eu h))
theorem SH(hx:aU env x (aa k n))(hy:aU env y (aa k m)):aT P hs env ⟨dst, .binOp .lss T x y T',ty,pos,after,g⟩ (ak (n<m)):=
 aT.aD fun ρ w S F _ he=>by
  have h1:=he.o _ _ hx;have h2:=he.o _ _ hy;simp only[af] at h1 h2
  exact⟨.bool (decide (n<m)),by simp[execOp,h1,h2,go_sem],_,rfl,by simp⟩
theorem SI(hx:aU env x (aa k n))(hy:aU env y (aa k m)):aT P hs env ⟨dst, .binOp .leq T x y T',ty,pos,after,g⟩ (ak (n≤m)):=
 aT.aD fun ρ w S F _ he=>by
  have h1:=he.o _ _ hx;have h2:=he.o _ _ hy;simp only[af] at h1 h2
  exact⟨.bool (decide (n≤m)),by simp[execOp,h1,h2,go_sem],_,rfl,by simp⟩
theorem SJ(hx:aU env x (aa k n))(hy:aU env y (aa k m)):aT P hs env ⟨dst, .binOp .gtr T x y T',ty,pos,after,g⟩ (ak (m<n)):=
 aT.aD fun ρ w S F _ he=>by
  have h1:=he.o _ _ hx;have h2:=he.o _ _ hy;simp only[af] at h1 h2
  exact⟨.bool (decide (n>m)),by simp[execOp,h1,h2,go_sem],_,rfl,by simp⟩
theorem SK(hx:aU env x (aa k n))(hy:aU env y (aa k m)):aT P hs env ⟨dst, .binOp .geq T x y T',ty,pos,after,g⟩ (ak (m≤n)):=
 aT.aD fun ρ w S F _ he=>by
  have h1:=he.o _ _ hx;have h2:=he.o _ _ hy;simp only[af] at h1 h2
  exact⟨.bool (decide (n≥m)),by simp[execOp,h1,h2,go_sem],_,rfl,by simp⟩
theorem SL(hx:aU env x (aa k n))(hy:aU env y (aa k m)):aT P hs env ⟨dst, .binOp .eql T x y T',ty,pos,after,g⟩ (ak (n=m)):=
 aT.aD fun ρ w S F _ he=>by
  have h1:=he.o _ _ hx;have h2:=he.o _ _ hy;simp only[af] at h1 h2
  exact⟨.bool (n==m),by simp[execOp,h1,h2,go_sem],_,rfl,by simp⟩
theorem SM(hx:aU env x (aa k n))(hy:aU env y (aa k m)):aT P hs env ⟨dst, .binOp .neq T x y T',ty,pos,after,g⟩ (ak (n≠m)):=
 aT.aD fun ρ w S F _ he=>by
  have h1:=he.o _ _ hx;have h2:=he.o _ _ hy;simp only[af] at h1 h2
  exact⟨.bool (n !=m),by simp[execOp,h1,h2,go_sem],_,rfl,by simp⟩
variable {p r:Prop}
theorem SN(hx:aU env x (ak p)):aT P hs env ⟨dst, .unOp .not T x,ty,pos,after,g⟩ (ak (¬p)):=
 aT.aD fun ρ w S F _ he=>by
  obtain⟨b,hb,hp⟩:=he.o _ _ hx;exact⟨.bool (!b),by simp[execOp,hb,go_sem,Op.unary],_,rfl,by rw[←hp];simp⟩
theorem Qn(hT:P.underlying T=some .bool)(hx:aU env x (ak p))(hy:aU env y (ak r)):aT P hs env ⟨dst, .binOp .eql T x y T',ty,pos,after,g⟩ (ak (p↔r)):=
 aT.aD fun ρ w S F _ he=>by
  obtain⟨b,hb,hp⟩:=he.o _ _ hx;obtain⟨b',hb',hp'⟩:=he.o _ _ hy;exact⟨.bool (b==b'),by simp[execOp,hb,hb',go_sem,hT],_,rfl,by rw[←hp,←hp'];cases b<;>cases b'<;>simp⟩
theorem z8(hT:P.underlying T=some .bool)(hx:aU env x (ak p))(hy:aU env y (ak r)):aT P hs env ⟨dst, .binOp .neq T x y T',ty,pos,after,g⟩ (ak (¬(p↔r))):=
 aT.aD fun ρ w S F _ he=>by
  obtain⟨b,hb,hp⟩:=he.o _ _ hx;obtain⟨b',hb',hp'⟩:=he.o _ _ hy;exact⟨.bool (!(b==b')),by simp[execOp,hb,hb',go_sem,hT],_,rfl,by rw[←hp,←hp'];cases b<;>cases b'<;>simp⟩
theorem SO(hx:aU env x (ak p))(hy:aU env y (dV p (ak r))):aT P hs env ⟨dst, .pick x y (.const (.bool false)),ty,pos,after,g⟩ (ak (p∧r)):=
 aT.aD fun ρ w S F _ he=>by
  obtain⟨b,hb,hp⟩:=he.o _ _ hx;have h2:=he.o _ _ hy;cases b with
  |false=>exact⟨.bool false,by simp[execOp,hb,go_sem,he.c],_,rfl,by simp at hp ⊢;exact fun h=>(hp h).elim⟩
  |true=>
   have hp':p:=hp.1 rfl;obtain⟨b',hb',hr⟩:=h2.1 hp';exact⟨.bool b',by simp[execOp,hb,hb',go_sem],_,rfl,by rw[hr];simp[hp']⟩
theorem Xh(hx:aU env x (ak p))(hy:aU env y (dV (¬p) (ak r))):aT P hs env ⟨dst, .pick x (.const (.bool true)) y,ty,pos,after,g⟩ (ak (p∨r)):=
 aT.aD fun ρ w S F _ he=>by
  obtain⟨b,hb,hp⟩:=he.o _ _ hx;have h2:=he.o _ _ hy;cases b with
  |true=>exact⟨.bool true,by simp[execOp,hb,go_sem,he.c],_,rfl,by simp[hp.1 rfl]⟩
  |false=>
   have hp':¬p:=fun h=>by have:=hp.2 h;cases this
   obtain⟨b',hb',hr⟩:=h2.1 hp';exact⟨.bool b',by simp[execOp,hb,hb',go_sem],_,rfl,by rw[hr];simp[hp']⟩
theorem aU.when{c:Prop}(hx:aU env x (dV c q))(h:c):aU env x q:=fun S w a he=>(hx S w a he).1 h
class Flat(q:VP):Prop where
 flat:∀{S w v},q.p S w v→v.cells= #[v]∧v.oneCell'=true
instance (k:IntKind) (n:Int):Flat (af (.int k n)):=⟨fun h=>by subst h;exact⟨rfl,rfl⟩⟩
instance (b:Bool):Flat (af (.bool b)):=⟨fun h=>by subst h;exact⟨rfl,rfl⟩⟩
instance (s:ByteArray):Flat (af (.string s)):=⟨fun h=>by subst h;exact⟨rfl,rfl⟩⟩
instance (a:Option Addr):Flat (af (.pointer a)):=⟨fun h=>by subst h;exact⟨rfl,rfl⟩⟩
instance (a:Option Addr) (l c:Nat):Flat (af (.slice a l c)):=⟨fun h=>by subst h;exact⟨rfl,rfl⟩⟩
instance:Flat (af .nilFunc):=⟨fun h=>by subst h;exact⟨rfl,rfl⟩⟩
instance:Flat (af .nilIface):=⟨fun h=>by subst h;exact⟨rfl,rfl⟩⟩
instance (m:Option Nat):Flat (af (.map m)):=⟨fun h=>by subst h;exact⟨rfl,rfl⟩⟩
instance (f:Fn) (a b:Array Value):Flat (af (.func f a b)):=⟨fun h=>by subst h;exact⟨rfl,rfl⟩⟩
instance (p:Prop):Flat (ak p):=⟨fun⟨b,h,_⟩=>by subst h;exact⟨rfl,rfl⟩⟩
def bQ(S:BS)(w:World)(b off:Nat)(cs:List VP):Prop:=∀(j:Nat) (q:VP),cs[j]?=some q→∃v,w.cell? ⟨b,off+j,none⟩=some v∧q.p S w v
theorem yS{w w':World}{b off:Nat}(h:w'.heap[b]?=w.heap[b]?):w'.cell? ⟨b,off,none⟩=w.cell? ⟨b,off,none⟩:=by simp[World.cell?,h]
theorem bQ.mono{S S':BS}{w w':World}{b off:Nat}{cs:List VP}(hS:∀k,S k→S' k)(eS:∀k,S k→w'.heap[k]?=w.heap[k]?)(hb:S b)(h:bQ S w b off cs):bQ S' w' b off cs:=
 fun j q hj=>let ⟨v,hv,hq⟩:=h j q hj;⟨v,by rw[yS (eS b hb)];exact hv,q.mono hS eS hq⟩
theorem bQ.drop{S:BS}{w:World}{b off:Nat}{cs:List VP}(k:Nat)(h:bQ S w b off cs):bQ S w b (off+k) (cs.drop k):=
 fun j q hj=>by have:=h (k+j) q (by rw[List.getElem?_drop] at hj;exact hj);rwa [←Nat.add_assoc] at this
def bH(cs:List VP):VP:=⟨fun S w v=>∃b off,v= .pointer (some ⟨b,off,none⟩)∧S b∧bQ S w b off cs,
 fun h1 h2 ⟨b,off,hv,hb,hc⟩=>⟨b,off,hv,h1 b hb,hc.mono h1 h2 hb⟩⟩
instance (cs:List VP):Flat (bH cs):=⟨fun⟨_,_,h,_⟩=>by subst h;exact⟨rfl,rfl⟩⟩
def aK(cs:List VP):VP:=⟨fun S w v=>∃arr:Array Value,v= .agg arr∧arr.size=cs.length∧∀(j:Nat) (q:VP),cs[j]?=some q→∃u,arr[j]?=some u∧q.p S w u,
 fun h1 h2 ⟨arr,hv,hn,hc⟩=>⟨arr,hv,hn,fun j q hj=>let ⟨u,hu,hq⟩:=hc j q hj;⟨u,hu,q.mono h1 h2 hq⟩⟩⟩
def jc(P:Program)(T:TypeId):Option Bool:=(P.underlying T).map fun| .struct _| .array _ _=>true|_=>false
theorem dz{b:Bool}(h:jc P T=some b)(w:World):(isAgg T).run P w= .ok b w:=by
 unfold jc at h;cases hu:P.underlying T with
 |none=>simp[hu] at h
 |some d=>
  simp only[hu,Option.map_some,Option.some.injEq] at h;subst h;cases d<;>simp[isAgg,run_underlying hu]
theorem run_sizeOf{n:Nat}(h:P.cellsOf T=n)(hn:Nat.blt 0 n=true)(w:World):(sizeOf T).run P w= .ok n w:=by
 have hn':0<n:=by simpa using hn
 unfold Program.cellsOf at h;cases hi:P.info? T with
 |none=>simp[hi] at h;omega
 |some i=>simp[hi] at h;subst h;simp[sizeOf,typeInfo,hi]
theorem bh{α β:Type}{s:Sem α}{f:α→Sem β}{w w':World}{a:α}(h:s.run P w= .ok a w'):(s>>=f).run P w=(f a).run P w':=by
 rw[Sem.run_bind,h];rfl
theorem oK{cs:List VP}(hT:jc P T=some false)(hx:aU env x (bH (q::cs))):aT P hs env ⟨dst, .load T x,ty,pos,after,g⟩ q:=
 aT.aD fun ρ w S F _ he=>by
  obtain⟨b,off,hv,hb,hc⟩:=he.o _ _ hx;obtain⟨v,qI,hq⟩:=hc 0 q rfl;refine⟨v,?_,hq⟩
  have h1:(loadVar T ⟨b,off,none⟩).run P w= .ok v w:=by
   unfold loadVar;rw[bh (dz hT w)];simp only[Nat.add_zero] at qI;simp[qI]
  simp[execOp,hv,Instr.loadAt,Instr.sureAddr,h1]
theorem run_loadCellsFrom{b off:Nat}:∀(n i:Nat) (acc:Array Value) (w:World) (vs:List Value),vs.length=n→(∀j v,vs[j]?=some v→w.cell? ⟨b,off+(i+j),none⟩=some v)→
    (loadCellsFrom ⟨b,off,none⟩ i n acc).run P w= .ok (acc++vs.toArray) w
  | 0,i,acc,w,vs,hn,h=>by
    have:vs=[]:=List.length_eq_zero_iff.1 hn;subst this;simp[loadCellsFrom,go_sem]
  |n+1,i,acc,w,[],hn,h=>by cases hn
  | n +1,i,acc,w,v::vs,hn,h=>by
    have h0:w.cell? (Addr.add ⟨b,off,none⟩ i)=some v:=by
      have:=h 0 v rfl;unfold Addr.add
      split
      · rename_i hi;subst hi;simpa using this
      · simpa using this
    have hl:(load (Addr.add ⟨b,off,none⟩ i)).run P w= .ok v w:=by simp[load,Sem.run,h0]
    unfold loadCellsFrom
    rw[bh hl,run_loadCellsFrom n (i+1) (acc.push v) w vs (by simpa using hn) (fun j u hj=>by
      have:=h (j+1) u (by simpa using hj)
      rwa [show i+(j+1)=i+1+j by omega] at this)]
    simp
theorem nE{S:BS}{w:World}{b off:Nat}:∀(cs:List VP),bQ S w b off cs→∃vs:List Value,vs.length=cs.length∧(∀j v,vs[j]?=some v→w.cell? ⟨b,off+j,none⟩=some v)∧∀(j:Nat) (q:VP),cs[j]?=some q→∃u,vs[j]?=some u∧q.p S w u
 |[],_=>⟨[],rfl,fun _ _ h=>by simp at h,fun _ _ h=>by simp at h⟩
 |c::cs,h=>by
  obtain⟨v,hv,hq⟩:=h 0 c rfl;have h':bQ S w b (off+1) cs:=h.drop 1;obtain⟨vs,h1,h2,h3⟩:=nE cs h';refine⟨v::vs,by simp[h1],fun j u hj=>?_,fun j q hj=>?_⟩
  · cases j with
    |zero=>simp at hj;subst hj;simpa using hv
    |succ j=>have:=h2 j u (by simpa using hj);rwa [show off+(j+1)=off+1+j by omega]
  · cases j with
    |zero=>simp at hj;subst hj;exact⟨v,rfl,hq⟩
    |succ j=>obtain⟨u,hu,hq⟩:=h3 j q (by simpa using hj);exact⟨u,by simpa using hu,hq⟩
theorem bQ.take{S:BS}{w:World}{b off:Nat}{cs:List VP}(k:Nat)(h:bQ S w b off cs):bQ S w b off (cs.take k):=
 fun j q hj=>h j q (by
  rw[List.getElem?_take] at hj
  split at hj
  · exact hj
  · cases hj)
theorem l7{S:BS}{w:World}{b off n:Nat}{cs:List VP}(hT:jc P T=some true)(hn:P.cellsOf T=n)(h0:Nat.blt 0 n=true)(hl:cs.length=n)(hc:bQ S w b off cs):
    ∃v,(loadVar T ⟨b,off,none⟩).run P w= .ok v w∧(aK cs).p S w v:=by
  obtain⟨vs,h1,h2,h3⟩:=nE _ hc;refine⟨.agg vs.toArray,?_,vs.toArray,rfl,by simp[h1],fun j q hj=>by obtain⟨u,hu,hq⟩:=h3 j q hj;exact⟨u,by simpa using hu,hq⟩⟩;unfold loadVar;rw[bh (dz hT w)];simp only[if_true]
  have:(loadCells ⟨b,off,none⟩ n).run P w= .ok vs.toArray w:=by
    have:=run_loadCellsFrom (P:=P) (b:=b) (off:=off) n 0 #[] w vs (by omega) (fun j v hj=>by simpa using h2 j v hj);simpa[loadCells] using this
  simp[run_sizeOf hn h0 w,this]
theorem pY{cs:List VP}{n:Nat}(hT:jc P T=some true)(hn:P.cellsOf T=n)(h0:Nat.blt 0 n=true)(hx:aU env x (bH cs))(hl:Nat.ble n cs.length=true):
    aT P hs env ⟨dst, .load T x,ty,pos,after,g⟩ (aK (cs.take n)):=
  aT.aD fun ρ w S F _ he=>by
    obtain⟨b,off,hv,hb,hc⟩:=he.o _ _ hx;have hl':n≤cs.length:=by simpa using hl
    obtain⟨v,hr,hq⟩:=l7 hT hn h0 (cs:=cs.take n) (by simp;omega) (hc.take n);refine⟨v,?_,hq⟩;simp[execOp,hv,Instr.loadAt,Instr.sureAddr,hr]
def vF(P:Program)(T:TypeId)(f:Nat):Option Nat:=
 match P.underlying T with
 |some (.struct fs)=>match fs[f]? with
  |some fd=>if P.cellsOf fd.type=0 then none else some fd.offset
  |none=>none
 |_=>none
theorem uf{f off k b:Nat}(h:vF P T f=some k)(w:World):(Instr.fieldAt T (.pointer (some ⟨b,off,none⟩)) f).run P w= .ok (.pointer (some ⟨b,off+k,none⟩)) w:=by
 unfold vF at h
 split at h
 · rename_i fs hu
   split at h
   · rename_i fd hf
     split at h
     · cases h
     · rename_i hz
       simp only[Option.some.injEq] at h;have hs:(sizeOf fd.type).run P w= .ok (P.cellsOf fd.type) w:=run_sizeOf rfl (by simp;omega) w
       have mL:Addr.add ⟨b,off,none⟩ fd.offset=⟨b,off+k,none⟩:=by
        unfold Addr.add
        split
        · rename_i h0;simp
        · simp[h]
       simp[Instr.fieldAt,Instr.sureAddr,run_underlying hu,hf,fieldPlace,hs,hz,mL]
   · cases h
 · cases h
theorem NP{cs:List VP}{f k:Nat}(h:vF P T f=some k)(hx:aU env x (bH cs)):aT P hs env ⟨dst, .fieldAddr T x f,ty,pos,after,g⟩ (bH (cs.drop k)):=
 aT.aD fun ρ w S F _ he=>by
  obtain⟨b,off,hv,hb,hc⟩:=he.o _ _ hx;exact⟨_,by simp[execOp,hv,uf h],b,off+k,rfl,hb,hc.drop k⟩
theorem K2{cs:List VP}(hx:aU env x (bH cs)):aT P hs env ⟨dst, .nilCheck x,ty,pos,after,g⟩ (bH cs):=
 aT.aD fun ρ w S F _ he=>by
  have h:=he.o _ _ hx;obtain⟨b,off,hv,hb,hc⟩:=h;exact⟨_,by simp[execOp,hv,go_sem],b,off,rfl,hb,hc⟩
abbrev kK:VP:=af (.pointer none)
theorem K3{cs:List VP}{E:TypeId}(hT:P.underlying T=some (.pointer E))(hx:aU env x (bH cs)):aT P hs env ⟨dst, .binOp .eql T x (.const (.pointer none)) T',ty,pos,after,g⟩ (ak False):=
 aT.aD fun ρ w S F _ he=>by
  obtain⟨b,off,hv,hb,hc⟩:=he.o _ _ hx;exact⟨.bool false,by simp[execOp,hv,he.c,go_sem,hT],_,rfl,by simp⟩
theorem K4{cs:List VP}{E:TypeId}(hT:P.underlying T=some (.pointer E))(hx:aU env x (bH cs)):aT P hs env ⟨dst, .binOp .neq T x (.const (.pointer none)) T',ty,pos,after,g⟩ (ak True):=
 aT.aD fun ρ w S F _ he=>by
  obtain⟨b,off,hv,hb,hc⟩:=he.o _ _ hx;exact⟨.bool true,by simp[execOp,hv,he.c,go_sem,hT],_,rfl,by simp⟩
theorem BQ{E:TypeId}(hT:P.underlying T=some (.pointer E))(hx:aU env x kK):aT P hs env ⟨dst, .binOp .eql T x (.const (.pointer none)) T',ty,pos,after,g⟩ (ak True):=
 aT.aD fun ρ w S F _ he=>by
  have hv:=he.o _ _ hx;simp only[af] at hv
  exact⟨.bool true,by simp[execOp,hv,he.c,go_sem,hT],_,rfl,by simp⟩
theorem BR{E:TypeId}(hT:P.underlying T=some (.pointer E))(hx:aU env x kK):aT P hs env ⟨dst, .binOp .neq T x (.const (.pointer none)) T',ty,pos,after,g⟩ (ak False):=
 aT.aD fun ρ w S F _ he=>by
  have hv:=he.o _ _ hx;simp only[af] at hv
  exact⟨.bool false,by simp[execOp,hv,he.c,go_sem,hT],_,rfl,by simp⟩
def an{α:Type}(n:Nat)(enc:α→List VP)(xs:List α):VP:=
  ⟨fun S w v=>∃(a:Option Addr) (cap:Nat),v= .slice a xs.length cap∧xs.length≤cap∧xs.length≤281474976710656∧
      (match a with|none=>cap=0|some ad=>cap≠0→ad.spot=none∧S ad.block∧∀(i:Nat) (x:α),xs[i]?=some x→bQ S w ad.block (ad.off+i*n) (enc x)),
   fun{S S' w w' v} h1 h2 ⟨a,cap,hv,hc,hm,h⟩=>⟨a,cap,hv,hc,hm,by
      cases a with
      |none=>exact h
      |some ad=>exact fun h0=>let h:=h h0;⟨h.1,h1 _ h.2.1,fun i x hx=>(h.2.2 i x hx).mono h1 h2 h.2.1⟩⟩⟩
instance {α:Type} (n:Nat) (enc:α→List VP) (xs:List α):Flat (an n enc xs):=⟨fun⟨_,_,h,_⟩=>by subst h;exact⟨rfl,rfl⟩⟩
theorem eA{α:Type}{n:Nat}{enc:α→List VP}{xs:List α}{S:BS}{w:World}{v:Value}(h:(an n enc xs).p S w v):xs.length≤281474976710656:=h.choose_spec.choose_spec.2.2.1
theorem aN{α:Type}(n:Nat)(enc:α→List VP):ag (af (.slice none 0 0)) (an n enc []):=
 fun S w v h=>⟨none,0,h,by simp,by simp,rfl⟩
theorem Hp{α:Type}{n:Nat}{enc:α→List VP}{xs:List α}{E:TypeId}{ats:Array TypeId}(ug:ats[0]?=some T)(hT:P.underlying T=some (.slice E))(hx:aU env x (an n enc xs)):
    aT P hs env ⟨dst, .call ⟨.builtin .len, #[x],ats⟩,ty,pos,after,g⟩ (aa .i64 (xs.length:Int)):=
  aT.aD fun ρ w S F _ he=>by
    obtain⟨ad,cap,hv,_⟩:=he.o _ _ hx;exact⟨_,by simp[execOp,resolve,invoke,builtin,Builtin.len_,ug,hv,run_underlying hT,goInt],rfl⟩
theorem dL{α:Type}{n:Nat}{enc:α→List VP}{xs:List α}{E:TypeId}{i:Int}{j:Nat}{e:α}(hT:P.underlying T=some (.slice E))(hE:P.cellsOf E=n)(h0:Nat.blt 0 n=true)
    (hx:aU env x (an n enc xs)) (hy:aU env y (aa k i)) (hi:i=(j:Int)) (hj:xs[j]?=some e):aT P hs env ⟨dst, .indexAddr T x y,ty,pos,after,g⟩ (bH (enc e)):=
  aT.aD fun ρ w S F _ he=>by
    obtain⟨ad,cap,hv,hc,hm,h⟩:=he.o _ _ hx;have h2:=he.o _ _ hy;simp only[af] at h2
    have hjl:j<xs.length:=(List.getElem?_eq_some_iff.1 hj).1;cases ad with
    |none=>simp at h;omega
    | some ad=>
      obtain⟨b,off,sp⟩:=ad;obtain⟨hsp,hb,hel⟩:=h (by omega);simp only at hsp hb hel;subst hsp
      refine⟨.pointer (some ⟨b,off+j*n,none⟩),?_,b,off+j*n,rfl,hb,hel j e hj⟩
      have mL:Addr.add ⟨b,off,none⟩ (j*n)=⟨b,off+j*n,none⟩:=by
        unfold Addr.add
        split
        · rename_i h0;simp
        · rfl
      have hs:=run_sizeOf (T:=E) hE h0 w;subst hi;simp[execOp,hv,h2,Instr.indexAt,asIntOf,run_underlying hT,hs,mL,hjl]
theorem bL(w:World)(o:Obj)(k:Nat)(h:k<w.heap.size):(w.heap.push o)[k]?=w.heap[k]?:=by
 rw[Array.getElem?_push,if_neg (by omega)]
theorem ez.new1(w:World)(S:BS)(o:Obj):ez w {w with heap:=w.heap.push o} S (fun k=>S k∨k=w.heap.size):=
 ⟨rfl,rfl,rfl,by simp,fun k hk=>bL w o k hk,fun _ h=> .inl h,fun k hk=>hk.elim .inl (fun h=> .inr ⟨by omega,by simp[h]⟩)⟩
theorem ez.Qo(w:World)(S:BS)(o:Obj):ez w {w with heap:=w.heap.push o} S S:=
 ⟨rfl,rfl,rfl,by simp,fun k hk=>bL w o k hk,fun _ h=>h,fun k hk=> .inl hk⟩
theorem tA{S:BS}{w:World}{cs:List VP}{arr:Array Value}{T:TypeId}(hd:∀k,S k→k<w.heap.size)(hn:arr.size=cs.length)(h:∀(j:Nat) (q:VP),cs[j]?=some q→∃u,arr[j]?=some u∧q.p S w u):
    bQ (fun k=>S k∨k=w.heap.size) {w with heap:=w.heap.push (.cells arr T)} w.heap.size 0 cs:=fun j q hj=>by
  obtain⟨u,hu,hq⟩:=h j q hj;refine⟨u,?_,(ez.new1 w S (.cells arr T)).vp hd hq⟩;simp[World.cell?,hu]
theorem K5{cs:List VP}(hx:aU env x (aK cs)):aT P hs env ⟨dst, .box T x,ty,pos,after,g⟩ (bH cs):=
 aT.of_run fun ρ w S F hd _ _ _ he=>by
  obtain⟨arr,hv,hn,hc⟩:=he.o _ _ hx;refine⟨.pointer (some ⟨w.heap.size,0,none⟩),_,_,?_,ez.new1 w S (.cells arr T),w.heap.size,0,rfl, .inr rfl,tA hd hn hc⟩;simp[execOp,hv,Instr.box,newVar,newRow,Value.cells]
theorem SP[Flat q](hx:aU env x q):aT P hs env ⟨dst, .box T x,ty,pos,after,g⟩ (bH [q]):=
 aT.of_run fun ρ w S F hd _ _ _ he=>by
  have hv:=he.o _ _ hx;have hf:=(Flat.flat hv).1;refine⟨.pointer (some ⟨w.heap.size,0,none⟩),_,_,?_,ez.new1 w S (.cells #[ρ x] T),w.heap.size,0,rfl, .inr rfl,tA hd (by simp) (fun j q' hj=>?_)⟩
  · simp[execOp,Instr.box,newVar,newRow,hf]
  · cases j with
    |zero=>simp at hj;subst hj;exact⟨_,rfl,hv⟩
    |succ j=>simp at hj
def iu(P:Program)(f:FuncId):Bool:=match P.funcs[f]? with|some fn=> !(fn.name=="runtime.NumGoroutine") && fn.body.isSome|none=>false
theorem ei{f:FuncId}(h:iu P f=true)(vs:Array Value)(w:World):(callFunc f vs).run P w= .ok (.enter f vs) w:=by
 unfold iu at h
 split at h
 · rename_i fn hf
   simp only[Bool.and_eq_true,Bool.not_eq_true'] at h;have h3:¬fn.name="runtime.NumGoroutine":=by simpa using h.1
   obtain⟨c,hc⟩:=Option.isSome_iff_exists.1 h.2;simp[callFunc,hf,h3,hc]
 · cases h
def iN(env:Env)(xs:List Operand)(ps:List VP):Prop:=∀S w (a:Act),cn env S w a.tmps→e9 ps S w (xs.map a.eval)
theorem iN.nil:iN env [] []:=fun _ _ _ _=>⟨rfl,fun _ _ _ h=>by simp at h⟩
theorem iN.cons{x:Operand}{xs:List Operand}{ps:List VP}(h:aU env x q)(t:iN env xs ps):iN env (x::xs) (q::ps):=fun S w a he=>by
 obtain⟨h1,h2⟩:=t S w a he;refine⟨by simpa using h1,fun j p v hp hv=>?_⟩;cases j with
 |zero=>simp at hp hv;subst hp;subst hv;exact h S w a he
 |succ j=>exact h2 j p v (by simpa using hp) (by simpa using hv)
theorem oL{f:FuncId}{xs:List Operand}{ats:Array TypeId}(hb:iu P f=true)(a:Act)(w:World):
    (execOp a.eval ⟨dst, .call ⟨.value (.func f),xs.toArray,ats⟩,ty,pos,after,g⟩).run P w= .ok (.enter f (xs.map a.eval).toArray) w:=by
  have h:=ei hb (xs.map a.eval).toArray w;simp[execOp,resolve,Act.eval,Deferred.ofValue,invoke] at h ⊢;exact h
theorem bg{f:FuncId}{xs:List Operand}{ats:Array TypeId}{ps:List VP}(hf:cw P f ps q)(hb:iu P f=true)(hx:iN env xs ps):
    aT P hs env ⟨dst, .call ⟨.value (.func f),xs.toArray,ats⟩,ty,pos,after,g⟩ q:=by
  intro a w S F h1 h2 h3 h4 h5 K Q hk;unfold Oper.wp;rw[oL hb];refine(hf w S (fun _=>False) _ h1 (fun _ h=>h.elim) (fun _ _ h=>h) trivial (by simpa using hx S w a h5)).mono ?_;rintro e w' ⟨v,S',F',_,rfl,ax,_,_,hq⟩;refine hk v w' S' ⟨ax.os,ax.tape,ax.output,ax.size,fun k hk=>ax.kept k hk (fun h=>h),ax.base,fun k hk=>?_⟩ hq;rcases ax.shr k hk with h|h|h
  · exact .inl h
  · exact h.elim
  · exact .inr ⟨h,ax.bD k hk⟩
theorem dA{ps:List VP}{i:Nat}(hx:aU env x (aS ps))(hi:ps[i]?=some q):aT P hs env ⟨dst, .extract x i,ty,pos,after,g⟩ q:=
 aT.aD fun ρ w S F _ he=>by
  obtain⟨vs,hv,hl,hp⟩:=he.o _ _ hx;have hi':i<vs.size:=by have:=(List.getElem?_eq_some_iff.1 hi).1;simp at hl;omega
  refine⟨vs[i],?_,hp i q _ hi (by simp[hi'])⟩;simp[execOp,hv,Instr.extract,hi']
end
def mM(P:Program){A:Type}(ok:A→Prop)(arg:A→List VP)(res:A→VP):VP:=
  ⟨fun S w v=>∃(f:FuncId) (first cap:Array Value),v= .func (.func f) first cap∧iu P f=true∧∀(S':BS) (w':World),(∀k,S k→S' k)→(∀k,S k→w'.heap[k]?=w.heap[k]?)→(∀k,S' k→k<w'.heap.size)→
      ∀a,ok a→∀vs:List Value,e9 (arg a) S' w' vs→Calls P f (first++vs.toArray++cap) w' fun e w''=>∃u S'' F'',e= .returned u∧ir ⟨w',S',fun _=>False,0,none,[]⟩ w'' S'' F''∧(res a).p S'' w'' u,
   fun{S S' w w' v} h1 h2 ⟨f,fi,ca,hv,hc,h⟩=>⟨f,fi,ca,hv,hc,fun S'' w'' g1 g2 g3=>h S'' w'' (fun k hk=>g1 k (h1 k hk)) (fun k hk=>(g2 k (h1 k hk)).trans (h2 k hk)) g3⟩⟩
theorem e9.app{ps qs:List VP}{vs us:List Value}(h:e9 ps S w vs)(k:e9 qs S w us):e9 (ps++qs) S w (vs++us):=by
 refine⟨by simp[h.1,k.1],fun j p v hp hv=>?_⟩;by_cases hj:j<ps.length
 · rw[List.getElem?_append_left hj] at hp
   rw[List.getElem?_append_left (by rw[←h.1];exact hj)] at hv;exact h.2 j p v hp hv
 · rw[List.getElem?_append_right (by omega)] at hp
   rw[List.getElem?_append_right (by rw[←h.1];omega)] at hv;rw[←h.1] at hv;exact k.2 _ p v hp hv
theorem e9.mono{ps:List VP}{S S':BS}{w w':World}{vs:List Value}(h1:∀k,S k→S' k)(h2:∀k,S k→w'.heap[k]?=w.heap[k]?)(h:e9 ps S w vs):e9 ps S' w' vs:=
 ⟨h.1,fun j p v hp hv=>p.mono h1 h2 (h.2 j p v hp hv)⟩
section
variable {P:Program} {hs:List HP} {env:Env} {q:VP} {dst:Option Tmp} {ty T T':TypeId} {pos:String} {after:Array Edge} {g:Option (Nat×Bool)} {x y z:Operand}
theorem Hq{A:Type}{ok:A→Prop}{arg:A→List VP}{res:A→VP}{f:FuncId}{fs cs:List VP}(hcb:iu P f=true)(hf:∀a,ok a→cw P f (fs++arg a++cs) (res a)){S:BS}{w:World}{first cap:List Value}
    (h1:e9 fs S w first) (h2:e9 cs S w cap):(mM P ok arg res).p S w (.func (.func f) first.toArray cap.toArray):=by
  refine⟨f,_,_,rfl,hcb,fun S' w' g1 g2 g3 a ha vs hvs=>?_⟩;refine(hf a ha w' S' (fun _=>False) _ g3 (fun _ h=>h.elim) (fun _ _ h=>h) trivial ?_).mono ?_
  · have:=((h1.mono g1 g2).app hvs).app (h2.mono g1 g2)
    simpa using this
  · rintro e w'' ⟨v,S'',F'',_,rfl,ax,_,_,hq⟩
    exact⟨v,S'',F'',rfl,ax,hq⟩
theorem pZ{A:Type}{ok:A→Prop}{arg:A→List VP}{res:A→VP}{f:FuncId}(hcb:iu P f=true)(hf:∀a,ok a→cw P f (arg a) (res a)):ag (af (.func (.func f) #[] #[])) (mM P ok arg res):=
 fun S w v hv=>by
  subst hv;exact Hq (fs:=[]) (cs:=[]) (first:=[]) (cap:=[]) hcb (fun a ha=>by simpa using hf a ha) ⟨rfl,fun _ _ _ h=>by simp at h⟩ ⟨rfl,fun _ _ _ h=>by simp at h⟩
theorem bR{A:Type}{ok:A→Prop}{arg:A→List VP}{res:A→VP}{f:FuncId}{fs cs:List VP}{xs ys:List Operand}(hcb:iu P f=true)(h1:iN env xs fs)(h2:iN env ys cs)(hf:∀a,ok a→cw P f (fs++arg a++cs) (res a)):
    aT P hs env ⟨dst, .makeFunc (.func f) xs.toArray ys.toArray,ty,pos,after,g⟩ (mM P ok arg res):=by
  intro a w S F _ _ _ _ he K Q hk;unfold Oper.wp;refine hk _ w S (ez.refl _ _) ?_;have:=Hq (P:=P) hcb hf (h1 S w a he) (h2 S w a he);simpa using this
instance {A:Type} (ok:A→Prop) (arg:A→List VP) (res:A→VP):Flat (mM P ok arg res):=⟨fun⟨_,_,_,h,_⟩=>by subst h;exact⟨rfl,rfl⟩⟩
theorem NQ{A:Type}{ok:A→Prop}{arg:A→List VP}{res:A→VP}{xs:List Operand}{ats:Array TypeId}(a:A)(hx:aU env x (mM P ok arg res))(ha:ok a)(hxs:iN env xs (arg a)):
    aT P hs env ⟨dst, .call ⟨.value x,xs.toArray,ats⟩,ty,pos,after,g⟩ (res a):=by
  intro ac w S F h1 h2 h3 h4 h5 K Q hk;obtain⟨f,first,cap,hv,hcb,hc⟩:=hx S w ac h5
  have hr:(execOp ac.eval ⟨dst, .call ⟨.value x,xs.toArray,ats⟩,ty,pos,after,g⟩).run P w= .ok (.enter f (first++(xs.map ac.eval).toArray++cap)) w:=by
    have h:=ei hcb (first++(xs.map ac.eval).toArray++cap) w;simp[execOp,resolve,hv,Deferred.ofValue,invoke] at h ⊢;exact h
  unfold Oper.wp;rw[hr];refine(hc S w (fun _ h=>h) (fun _ _=>rfl) h1 a ha _ (hxs S w ac h5)).mono ?_;rintro e w' ⟨v,S',F',rfl,ax,hq⟩;refine hk v w' S' ⟨ax.os,ax.tape,ax.output,ax.size,fun k hk=>ax.kept k hk (fun h=>h),ax.base,fun k hk=>?_⟩ hq;rcases ax.shr k hk with h|h|h
  · exact .inl h
  · exact h.elim
  · exact .inr ⟨h,ax.bD k hk⟩
def cW(l:List UInt8):VP:=⟨fun _ _ v=>v= .string ⟨l.toArray⟩∧l.length≤281474976710656,fun _ _ h=>h⟩
instance (l:List UInt8):Flat (cW l):=⟨fun⟨h,_⟩=>by subst h;exact⟨rfl,rfl⟩⟩
theorem jY{l:List UInt8}{S:BS}{w:World}{v:Value}(h:(cW l).p S w v):l.length≤281474976710656:=h.2
theorem oM:ag (af (.string ⟨#[]⟩)) (cW []):=fun _ _ v hv=>⟨hv,by simp⟩
theorem aU.s{b:ByteArray}(l:List UInt8)(h:b.data.toList=l)(hl:Nat.ble l.length 281474976710656=true):aU env (.const (.string b)) (cW l):=fun S w a _=>by
 subst h;exact⟨rfl,by simpa using hl⟩
theorem r8(b:ByteArray):b.toList=b.data.toList:=by
  have key:∀(n i:Nat) (r:List UInt8),b.size-i=n→ByteArray.toList.loop b i r=r.reverse++b.data.toList.drop i:=by
    intro n
    induction n with
    | zero=>
      intro i r h;unfold ByteArray.toList.loop;rw[if_neg (by omega)]
      have : b.data.toList.drop i = [] := List.drop_eq_nil_of_le (by have:b.data.toList.length=b.size:=Array.length_toList
                                                                     omega)
      simp[this]
    | succ n ih=>
      intro i r h;unfold ByteArray.toList.loop;have hi:i<b.size:=by omega
      rw[if_pos hi,ih (i+1) _ (by omega)]
      have hl : i < b.data.toList.length := by have:b.data.toList.length=b.size:=Array.length_toList
                                               omega
      rw[List.drop_eq_getElem_cons hl];have hd:b.data.size=b.size:=rfl;simp[ByteArray.get!,hi,hd]
  have:=key b.size 0 [] (by omega);simpa[ByteArray.toList] using this
theorem Qp{l:List UInt8}{ats:Array TypeId}(ug:ats[0]?=some T)(hT:P.underlying T=some .string)(hx:aU env x (cW l)):aT P hs env ⟨dst, .call ⟨.builtin .len, #[x],ats⟩,ty,pos,after,g⟩ (aa .i64 (l.length:Int)):=
 aT.aD fun ρ w S F _ he=>by
  obtain⟨hv,_⟩:=he.o _ _ hx;have hs:(ByteArray.mk l.toArray).size=l.length:=by show l.toArray.size=_;simp
  exact⟨.int .i64 (l.length:Int),by simp[execOp,resolve,invoke,builtin,Builtin.len_,ug,hv,run_underlying hT,goInt,hs,-ByteArray.size_data],rfl⟩
theorem r9{l:List UInt8}{k:IntKind}{i:Int}{j:Nat}{e:UInt8}(hT:P.underlying T=some .string)(hx:aU env x (cW l))(hy:aU env y (aa k i))(hi:i=(j:Int))(hj:l[j]?=some e):
    aT P hs env ⟨dst, .index T x y,ty,pos,after,g⟩ (aa .u8 (e.toNat:Int)):=
  aT.aD fun ρ w S F _ he=>by
    obtain⟨hv,_⟩:=he.o _ _ hx;have h2:=he.o _ _ hy;simp only[af] at h2
    subst hi;have hjl:j<l.length:=(List.getElem?_eq_some_iff.1 hj).1;have he':l[j]=e:=(List.getElem?_eq_some_iff.1 hj).2;have hs:(ByteArray.mk l.toArray).size=l.length:=by show l.toArray.size=_;simp
    have hg:(ByteArray.mk l.toArray)[j]?=some e:=by
      rw[getElem?_pos _ j (by rw[hs];exact hjl)];simp[ByteArray.getElem_eq_getElem_data,he']
    exact⟨.int .u8 (e.toNat:Int),by simp[execOp,hv,h2,Instr.index,asIntOf,run_underlying hT,hg],rfl⟩
theorem Qq{l m:List UInt8}(hx:aU env x (cW l))(hy:aU env y (cW m)):aT P hs env ⟨dst, .binOp .eql T x y T',ty,pos,after,g⟩ (ak (l=m)):=
 aT.aD fun ρ w S F _ he=>by
  obtain⟨hv,_⟩:=he.o _ _ hx;obtain⟨qI,_⟩:=he.o _ _ hy;exact⟨.bool (l==m),by simp[execOp,hv,qI,eqGuard,binOp,Op.stringOp,r8],_,rfl,by simp⟩
theorem K6{l m:List UInt8}(hx:aU env x (cW l))(hy:aU env y (cW m)):aT P hs env ⟨dst, .binOp .neq T x y T',ty,pos,after,g⟩ (ak (l≠m)):=
 aT.aD fun ρ w S F _ he=>by
  obtain⟨hv,_⟩:=he.o _ _ hx;obtain⟨qI,_⟩:=he.o _ _ hy;exact⟨.bool (!(l==m)),by simp[execOp,hv,qI,eqGuard,binOp,Op.stringOp,r8],_,rfl,by simp⟩
theorem oo{l m:List UInt8}(hx:aU env x (cW l))(hy:aU env y (cW m))(hl:l.length+m.length≤281474976710656):aT P hs env ⟨dst, .binOp .add T x y T',ty,pos,after,g⟩ (cW (l++m)):=
 aT.aD fun ρ w S F _ he=>by
  obtain⟨hv,_⟩:=he.o _ _ hx;obtain⟨qI,_⟩:=he.o _ _ hy;refine⟨.string ⟨(l++m).toArray⟩,?_,rfl,by simpa using hl⟩
  have h1:¬(((ByteArray.mk l.toArray).size+(ByteArray.mk m.toArray).size:Nat):Int)>IntKind.i64.max:=by
   have e1:(ByteArray.mk l.toArray).size=l.length:=by show l.toArray.size=_;simp
   have e2:(ByteArray.mk m.toArray).size=m.length:=by show m.toArray.size=_;simp
   rw[e1,e2];simp[IntKind.max,IntKind.signed,IntKind.bits];omega
  have h2:ByteArray.mk l.toArray++ByteArray.mk m.toArray=ByteArray.mk (l++m).toArray:=by
   apply ByteArray.ext;simp
  simp[execOp,hv,qI,eqGuard,binOp,Op.stringOp,h2] at h1 ⊢;exact h1
theorem K7{k:IntKind}{n m:Int}{ats:Array TypeId}(hx:aU env x (aa k n))(hy:aU env y (aa k m)):aT P hs env ⟨dst, .call ⟨.builtin .max, #[x,y],ats⟩,ty,pos,after,g⟩ (aa k (max n m)):=
 aT.aD fun ρ w S F _ he=>by
  have h1:=he.o _ _ hx;have h2:=he.o _ _ hy;simp only[af] at h1 h2
  refine⟨.int k (if m>n then m else n),by simp[execOp,resolve,invoke,builtin,Builtin.max_,h1,h2,Builtin.max2],?_⟩
  show Value.int k _=Value.int k _
  congr 1;split<;>omega
theorem vG{k:IntKind}{n m:Int}{ats:Array TypeId}(hx:aU env x (aa k n))(hy:aU env y (aa k m)):aT P hs env ⟨dst, .call ⟨.builtin .min, #[x,y],ats⟩,ty,pos,after,g⟩ (aa k (min n m)):=
 aT.aD fun ρ w S F _ he=>by
  have h1:=he.o _ _ hx;have h2:=he.o _ _ hy;simp only[af] at h1 h2
  refine⟨.int k (if m<n then m else n),by simp[execOp,resolve,invoke,builtin,Builtin.min_,h1,h2,Builtin.min2],?_⟩
  show Value.int k _=Value.int k _
  congr 1;split<;>omega
theorem dM{k k':IntKind}{n:Int}{D:TypeDesc}(h1:P.underlying T=some D)(h2:P.underlying T'=some (.int k'))(hx:aU env x (aa k n)):aT P hs env ⟨dst, .convert T T' x,ty,pos,after,g⟩ (aa k' (k'.wrap n)):=
 aT.aD fun ρ w S F _ he=>by
  have hv:=he.o _ _ hx;simp only[af] at hv
  exact⟨_,by simp[execOp,hv,convert,run_underlying h1,run_underlying h2,Conv.intToInt],rfl⟩
theorem gW{k k':IntKind}{n:Int}{D:TypeDesc}(h1:P.underlying T=some D)(h2:P.underlying T'=some (.int k'))(hx:aU env x (aa k n))(h:fits k' n):aT P hs env ⟨dst, .convert T T' x,ty,pos,after,g⟩ (aa k' n):=
 (dM h1 h2 hx).le (ag.int (eu h))
abbrev ai(b off:Nat):VP:=af (.pointer (some ⟨b,off,none⟩))
def aF(b:Nat)(cs:List VP):HP:=
 ⟨fun F S w=>F b∧∃(arr:Array Value) (T:TypeId),w.heap[b]?=some (.cells arr T (0,0))∧arr.size=cs.length∧∀(j:Nat) (q:VP),cs[j]?=some q→∃u,arr[j]?=some u∧q.p S w u,
  fun h1 h2 h3 h4 ⟨hF,arr,T,hh,hn,hc⟩=>⟨h1 b hF,arr,T,(h3 b hF).trans hh,hn,fun j q hj=>let ⟨u,hu,hq⟩:=hc j q hj;⟨u,hu,q.mono h2 h4 hq⟩⟩⟩
theorem cT.ue{hs:List HP}{F S:BS}{w:World}(h:cT hs F S w){i:Nat}{h0:HP}(hi:hs[i]?=some h0):
    ∃ F1 F2:BS,(∀k,F1 k→F k∧¬F2 k)∧(∀k,F2 k→F k)∧h0.p F1 S w∧cT (hs.eraseIdx i) F2 S w∧
      ∀(S' F1':BS) (w':World) (h1:HP),(∀k,F1' k→¬F2 k)→(∀k,S k→S' k)→(∀k,F2 k→w'.heap[k]?=w.heap[k]?)→(∀k,S k→w'.heap[k]?=w.heap[k]?)→h1.p F1' S' w'→cT (hs.set i h1) (fun k=>F1' k∨F2 k) S' w':=by
  induction hs generalizing F i with
  |nil=>simp at hi
  | cons a hs ih=>
    obtain⟨G1,G2,g1,g2,g3,g4⟩:=h;cases i with
    | zero=>
      simp at hi;subst hi
      refine⟨G1,G2,g1,g2,g3,g4,fun S' F1' w' h1 k1 k2 k3 k4 k5=>⟨F1',G2,fun k hk=>⟨.inl hk,k1 k hk⟩,fun k hk=> .inr hk,k5,g4.mono (fun _ h=>h) k2 k3 k4⟩⟩
    | succ i=>
      obtain⟨F1,F2,f1,f2,f3,f5,f4⟩:=ih g4 (i:=i) (by simpa using hi);refine⟨F1,fun k=>F2 k∨G1 k,fun k hk=>⟨g2 k (f1 k hk).1,fun h=>h.elim (f1 k hk).2 (fun hg=>(g1 k hg).2 (f1 k hk).1)⟩,fun k hk=>hk.elim (fun h=>g2 k (f2 k h)) (fun h=>(g1 k h).1),f3,?_,?_⟩
      · exact⟨G1,F2,fun k hk=>⟨.inr hk,fun hf=>(g1 k hk).2 (f2 k hf)⟩,fun k hk=> .inl hk,g3,f5⟩
      intro S' F1' w' h1 k1 k2 k3 k4 k5;have:=f4 S' F1' w' h1 (fun k hk hf=>k1 k hk (.inl hf)) k2 (fun k hk=>k3 k (.inl hk)) k4 k5;refine⟨G1,fun k=>F1' k∨F2 k,?_,?_,a.mono (fun _ h=>h) k2 (fun k hk=>k3 k (.inr hk)) k4 g3,this⟩
      · exact fun k hk=>⟨.inr (.inr hk),fun h=>h.elim (fun hf=>k1 k hf (.inr hk)) (fun hf=>(g1 k hk).2 (f2 k hf))⟩
      · exact fun k hk=>hk.elim .inl (fun h=> .inr (.inl h))
theorem cT.get{hs:List HP}{F S:BS}{w:World}(h:cT hs F S w){i:Nat}{h0:HP}(hi:hs[i]?=some h0):∃F1:BS,(∀k,F1 k→F k)∧h0.p F1 S w:=
 let ⟨F1,_,h1,_,h3,_,_⟩:=h.ue hi;⟨F1,fun k hk=>(h1 k hk).1,h3⟩
theorem jD{b:Nat}{cs:List VP}{F S:BS}{w:World}(h:(aF b cs).p F S w):bQ S w b 0 cs:=fun j q hj=>by
 obtain⟨_,arr,T,hh,_,hc⟩:=h;obtain⟨u,hu,hq⟩:=hc j q hj;exact⟨u,by simp[World.cell?,hh,hu],hq⟩
theorem ff{cs:List VP}{b off i:Nat}(hT:jc P T=some false)(hx:aU env x (ai b off))(hi:hs[i]?=some (aF b cs))(hc:cs[off]?=some q):aT P hs env ⟨dst, .load T x,ty,pos,after,g⟩ q:=
 aT.aD fun ρ w S F ho he=>by
  have hv:=he.o _ _ hx;simp only[af] at hv
  obtain⟨F1,_,hp⟩:=ho.get hi;obtain⟨v,qI,hq⟩:=jD hp off q hc;refine⟨v,?_,hq⟩
  have h1:(loadVar T ⟨b,off,none⟩).run P w= .ok v w:=by
   unfold loadVar;rw[bh (dz hT w)];simp only[Nat.zero_add] at qI;simp[qI]
  simp[execOp,hv,Instr.loadAt,Instr.sureAddr,h1]
theorem mZ{cs:List VP}{b off i n:Nat}(hT:jc P T=some true)(hn:P.cellsOf T=n)(h0:Nat.blt 0 n=true)(hx:aU env x (ai b off))(hi:hs[i]?=some (aF b cs))(hl:Nat.ble (off+n) cs.length=true):
    aT P hs env ⟨dst, .load T x,ty,pos,after,g⟩ (aK ((cs.drop off).take n)):=
  aT.aD fun ρ w S F ho he=>by
    have hv:=he.o _ _ hx;simp only[af] at hv
    obtain⟨F1,_,hp⟩:=ho.get hi;have hl':off+n≤cs.length:=by simpa using hl
    have hc:bQ S w b off (cs.drop off):=by have:=(jD hp).drop off;simpa using this
    obtain⟨v,hr,hq⟩:=l7 hT hn h0 (cs:=(cs.drop off).take n) (by simp;omega) (hc.take n);exact⟨v,by simp[execOp,hv,Instr.loadAt,Instr.sureAddr,hr],hq⟩
theorem BT{b off f k:Nat}(h:vF P T f=some k)(hx:aU env x (ai b off)):aT P hs env ⟨dst, .fieldAddr T x f,ty,pos,after,g⟩ (ai b (off+k)):=
 aT.aD fun ρ w S F _ he=>by
  have hv:=he.o _ _ hx;simp only[af] at hv
  exact⟨_,by simp[execOp,hv,uf h],rfl⟩
theorem IQ{b off:Nat}(hx:aU env x (ai b off)):aT P hs env ⟨dst, .nilCheck x,ty,pos,after,g⟩ (ai b off):=
 aT.aD fun ρ w S F _ he=>by
  have hv:=he.o _ _ hx;simp only[af] at hv
  exact⟨_,by simp[execOp,hv],rfl⟩
theorem bS{b off:Nat}{E:TypeId}(hT:P.underlying T=some (.pointer E))(hx:aU env x (ai b off)):aT P hs env ⟨dst, .binOp .eql T x (.const (.pointer none)) T',ty,pos,after,g⟩ (ak False):=
 aT.aD fun ρ w S F _ he=>by
  have hv:=he.o _ _ hx;simp only[af] at hv
  exact⟨.bool false,by simp[execOp,hv,he.c,go_sem,hT],_,rfl,by simp⟩
theorem yT{b off:Nat}{E:TypeId}(hT:P.underlying T=some (.pointer E))(hx:aU env x (ai b off)):aT P hs env ⟨dst, .binOp .neq T x (.const (.pointer none)) T',ty,pos,after,g⟩ (ak True):=
 aT.aD fun ρ w S F _ he=>by
  have hv:=he.o _ _ hx;simp only[af] at hv
  exact⟨.bool true,by simp[execOp,hv,he.c,go_sem,hT],_,rfl,by simp⟩
theorem ir.eL{c:Ctx}{w:World}{S F:BS}(h:ir c w S F)(o:Obj):ir c {w with heap:=w.heap.push o} S (fun k=>k=w.heap.size∨F k) where
  os:=h.os
  tape:=h.tape
  output:=h.output
  size:=by simp;have:=h.size;omega
  kept:=fun k hk hm=>(bL w o k (Nat.lt_of_lt_of_le hk h.size)).trans (h.kept k hk hm)
  cR:=fun k hk hf=>hf.elim (fun e=>by have:=h.bD k hk;omega) (h.cR k hk)
  bD:=fun k hk=>by have:=h.bD k hk;simp;omega
  bO := fun k hk => by   rcases hk with hk|hk; · simp[hk]
                         · have:=h.bO k hk;simp;omega
  own:=fun k hk=>hk.elim (fun e=> .inr (e▸h.size)) (h.own k)
  shr:=h.shr
  base:=h.base
theorem cT.eL{hs:List HP}{w:World}{S F:BS}(h:cT hs F S w)(hS:∀k,S k→k<w.heap.size)(hF:∀k,F k→k<w.heap.size)(o:Obj){h1:HP}(hp:h1.p (fun k=>k=w.heap.size) S {w with heap:=w.heap.push o}):
    cT (h1::hs) (fun k=>k=w.heap.size∨F k) S {w with heap:=w.heap.push o}:=
  ⟨fun k=>k=w.heap.size,F,fun k hk=>⟨.inl hk,fun hf=>by have:=hF k hf;omega⟩,fun k hk=> .inr hk,hp,
    h.mono (fun _ h=>h) (fun _ h=>h) (fun k hk=>bL w o k (hF k hk)) (fun k hk=>bL w o k (hS k hk))⟩
theorem qZ{S:BS}{w:World}{cs:List VP}{arr:Array Value}{T:TypeId}(hd:∀k,S k→k<w.heap.size)(hn:arr.size=cs.length)(h:∀(j:Nat) (q:VP),cs[j]?=some q→∃u,arr[j]?=some u∧q.p S w u):
    (aF w.heap.size cs).p (fun k=>k=w.heap.size) S {w with heap:=w.heap.push (.cells arr T)}:=
  ⟨rfl,arr,T,by simp,hn,fun j q hj=>let ⟨u,hu,hq⟩:=h j q hj;⟨u,hu,(ez.Qo w S (.cells arr T)).vp hd hq⟩⟩
theorem gX{cs:List VP}(hx:aU env x (aK cs)):fN P hs env ⟨dst, .box T x,ty,pos,after,g⟩ (γ:=Nat) (fun _=>True) (fun b=>aF b cs::hs) (fun b=>ai b 0):=by
 intro c a w S F ax hown he K Q hk;obtain⟨arr,hv,hn,hc⟩:=hx S w a he
 have hr:(execOp a.eval ⟨dst, .box T x,ty,pos,after,g⟩).run P w= .ok (.value (.pointer (some ⟨w.heap.size,0,none⟩))) {w with heap:=w.heap.push (.cells arr T)}:=by
  simp[execOp,hv,Instr.box,newVar,newRow,Value.cells]
 unfold Oper.wp;rw[hr];exact hk w.heap.size _ _ S _ trivial (ax.eL _) (fun _ h=>h) (fun k hk=>bL w _ k (ax.bD k hk)) (hown.eL ax.bD ax.bO _ (qZ ax.bD hn hc)) rfl
def jd(P:Program)(T:TypeId):Option (List Value):=(P.info? T).bind fun i=>i.zero.map fun z=>z.cells.toList
theorem gI{zs:List Value}(h:jd P T=some zs)(w:World):∃z,(zeroValue T).run P w= .ok z w∧z.cells=zs.toArray:=by
 unfold jd at h;cases hi:P.info? T with
 |none=>simp[hi] at h
 | some i=>
  cases hz:i.zero with
  |none=>simp[hi,hz] at h
  |some z=>
   simp only[hi,Option.bind_some,hz,Option.map_some,Option.some.injEq] at h;exact⟨z,by simp[zeroValue,typeInfo,hi,hz],by simp[←h]⟩
theorem ay{zs:List Value}(hz:jd P T=some zs):fN P hs env ⟨dst, .alloc T,ty,pos,after,g⟩ (γ:=Nat) (fun _=>True) (fun b=>aF b (zs.map af)::hs) (fun b=>ai b 0):=by
 intro c a w S F ax hown he K Q hk;obtain⟨z,Hr,x4⟩:=gI hz w
 have hr:(execOp a.eval ⟨dst, .alloc T,ty,pos,after,g⟩).run P w= .ok (.value (.pointer (some ⟨w.heap.size,0,none⟩))) {w with heap:=w.heap.push (.cells zs.toArray T)}:=by
  simp[execOp,Instr.alloc,Hr,newVar,newRow,x4]
 unfold Oper.wp;rw[hr];refine hk w.heap.size _ _ S _ trivial (ax.eL _) (fun _ h=>h) (fun k hk=>bL w _ k (ax.bD k hk)) (hown.eL ax.bD ax.bO _ (qZ ax.bD (by simp) fun j q' hj=>?_)) rfl;rw[List.getElem?_map] at hj;cases K8:zs[j]? with
 |none=>rw[K8] at hj;cases hj
 |some u=>rw[K8] at hj;cases hj;exact⟨u,by simpa using K8,rfl⟩
theorem dh(w:World)(a:Addr)(u:Value)(k:Nat)(h:k≠a.block):(w.setCell a u).heap[k]?=w.heap[k]?:=Below.heap_setCell w a u k h
theorem ir.write{c:Ctx}{w w':World}{S F:BS}(h:ir c w S F){b:Nat}(hb:F b)(h1:w'.os=w.os)(h2:w'.tape=w.tape)(h3:w'.output=w.output)(h4:w'.heap.size=w.heap.size)(h5:∀k,k≠b→w'.heap[k]?=w.heap[k]?):ir c w' S F where
 os:=h1.trans h.os
 tape:=h2.trans h.tape
 output:=h3.trans h.output
 size:=h4▸h.size
 kept:=fun k hk hm=>by
  have hne:k≠b:=fun e=>by
   subst e;rcases h.own k hb with h'|h'
   · exact hm h'
   · omega
  exact(h5 k hne).trans (h.kept k hk hm)
 cR:=h.cR
 bD:=fun k hk=>h4▸h.bD k hk
 bO:=fun k hk=>h4▸h.bO k hk
 own:=h.own
 shr:=h.shr
 base:=h.base
theorem mN{v:Value}{b off:Nat}{arr:Array Value}{E:TypeId}{w:World}(hn:P.cellsOf T=1)(hf:v.cells= #[v]∧v.oneCell'=true)(hb:w.heap[b]?=some (.cells arr E (0,0)))(ho:off<arr.size):
    (storeVar T ⟨b,off,none⟩ v).run P w= .ok () (w.setCell ⟨b,off,none⟩ v):=by
  have h1:=hf.2
  have hst:(store ⟨b,off,none⟩ v).run P w= .ok () (w.setCell ⟨b,off,none⟩ v):=by
    rw[run_store _ _ _ _ _ h1];have:w.cell? ⟨b,off,none⟩=some arr[off]:=by simp[World.cell?,hb,ho]
    simp[this,World.frozen?,hb]
  unfold storeVar;rw[bh (run_sizeOf hn rfl w)];simp[hf.1,storeCells,Addr.add,hst]
theorem je[Flat q]{cs:List VP}{b off i:Nat}(hn:P.cellsOf T=1)(hx:aU env x (ai b off))(hy:aU env y q)(hi:hs[i]?=some (aF b cs))(hl:Nat.blt off cs.length=true):
    fN P hs env ⟨none, .store T x y,ty,pos,after,g⟩ (γ:=Unit) (fun _=>True) (fun _=>hs.set i (aF b (cs.set off q))) (fun _=>af undef):=by
  intro c a w S F ax hown he K Q hk;have hv:=hx S w a he;simp only[af] at hv
  have hu:=hy S w a he;have hl':off<cs.length:=by simpa using hl
  obtain⟨F1,F2,f1,f2,f3,_,f4⟩:=hown.ue hi;obtain⟨hFb,arr,E,hb,hsz,hc⟩:=f3;have ho:off<arr.size:=by omega
  have hr:(execOp a.eval ⟨none, .store T x y,ty,pos,after,g⟩).run P w= .ok .skip (w.setCell ⟨b,off,none⟩ (a.eval y)):=by
    simp[execOp,hv,Instr.storeAt,Instr.sureAddr,mN hn (Flat.flat hu) hb ho]
  unfold Oper.wp;rw[hr];have hne:∀k,k≠b→(w.setCell ⟨b,off,none⟩ (a.eval y)).heap[k]?=w.heap[k]?:=fun k hk=>dh w _ _ k hk;have hag:∀k,S k→(w.setCell ⟨b,off,none⟩ (a.eval y)).heap[k]?=w.heap[k]?:=fun k hk=>hne k (fun e=>ax.cR k hk (e▸(f1 b hFb).1));refine hk () undef _ S F trivial (ax.write (f1 b hFb).1 rfl rfl rfl (by simp[World.setCell]) hne) (fun _ h=>h) hag ?_ rfl
  have:=f4 S F1 (w.setCell ⟨b,off,none⟩ (a.eval y)) (aF b (cs.set off q)) (fun k hk=>(f1 k hk).2) (fun _ h=>h) (fun k hk=>hne k (fun e=>(f1 b hFb).2 (e▸hk))) hag
    ⟨hFb,arr.setIfInBounds off (a.eval y),E,by simp[World.setCell,Array.getElem?_modify,hb],by simp[hsz],fun j q' hj=>?_⟩
  · exact this.mono (fun k hk=>hk.elim (fun h=>(f1 k h).1) (f2 k)) (fun _ h=>h) (fun _ _=>rfl) (fun _ _=>rfl)
  · rw[List.getElem?_set] at hj
    by_cases e:off=j
    · subst e
      rw[if_pos rfl,if_pos hl'] at hj;cases hj
      exact⟨a.eval y,by simp[ho],q.mono (fun _ h=>h) hag hu⟩
    · rw[if_neg e] at hj
      obtain⟨u,Eu,hq⟩:=hc j q' hj;exact⟨u,by simp[Array.getElem?_setIfInBounds_ne e,Eu],q'.mono (fun _ h=>h) hag hq⟩
theorem bG.s{ops:Array Oper}{Q:Exit→Act→World→Prop}{c:Ctx}{l:List Oper}{op:Op}{hs':List HP}{q':VP}(h:fN P hs env ⟨none,op,ty,pos,after,none⟩ (γ:=Unit) (fun _=>True) (fun _=>hs') (fun _=>q'))
    (k:bG P ops Q c l hs' env):bG P ops Q c (⟨none,op,ty,pos,after,none⟩::l) hs env:=bG.e h rfl rfl (fun _ _=>k)
theorem bG.n{ops:Array Oper}{Q:Exit→Act→World→Prop}{c:Ctx}{l:List Oper}{op:Op}{d:Tmp}{γ:Type}{φ:γ→Prop}{hs':γ→List HP}{q':γ→VP}(h:fN P hs env ⟨some d,op,ty,pos,after,none⟩ φ hs' q')(hd:Nat.blt d c.n=true)
    (k:∀b,φ b→bG P ops Q c l (hs' b) ((d,q' b)::env)):bG P ops Q c (⟨some d,op,ty,pos,after,none⟩::l) hs env:=bG.e h rfl (by simpa using hd) k
theorem aJ.share{Q:Exit→Act→World→Prop}{c:Ctx}{s:Code}{i b off t:Nat}{cs:List VP}(hi:hs[i]?=some (aF b cs))(ht:look env t=some (ai b off))(h:aJ P Q c s (hs.eraseIdx i) ((t,bH (cs.drop off))::env)):aJ P Q c s hs env:=by
 intro a w ⟨h1,h2,S,F,h3,h4,h5⟩;obtain⟨F1,F2,f1,f2,f3,f5,_⟩:=h4.ue hi;have hb:=f1 b f3.1;have hS:∀k,S k→S k∨k=b:=fun _ h=> .inl h;have hc:bQ (fun k=>S k∨k=b) w b 0 cs:=fun j q hj=>let ⟨v,hv,hq⟩:=jD f3 j q hj;⟨v,hv,q.mono hS (fun _ _=>rfl) hq⟩
 refine h a w ⟨h1,h2,fun k=>S k∨k=b,F2,⟨h3.os,h3.tape,h3.output,h3.size,h3.kept,?_,?_,fun k hk=>h3.bO k (f2 k hk),fun k hk=>h3.own k (f2 k hk),?_,fun k hk=> .inl (h3.base k hk)⟩,
  f5.mono (fun _ h=>h) hS (fun _ _=>rfl) (fun _ _=>rfl),fun s q hl=>?_⟩
 · exact fun k hk hf=>hk.elim (fun h=>h3.cR k h (f2 k hf)) (fun e=>hb.2 (e▸hf))
 · exact fun k hk=>hk.elim (h3.bD k) (fun e=>h3.bO k (e▸hb.1))
 · exact fun k hk=>hk.elim (h3.shr k) (fun e=>by
    rcases h3.own b hb.1 with h|h
    · exact .inr (.inl (e▸h))
    · exact .inr (.inr (e▸h)))
 · rw[bw] at hl
   by_cases e:t=s
   · rw[if_pos e] at hl;cases hl;subst e
     have hv:=h5 t _ ht;simp only[af] at hv
     refine⟨b,off,hv, .inr rfl,?_⟩;have:=hc.drop off;simpa using this
   · rw[if_neg e] at hl
     exact q.mono hS (fun _ _=>rfl) (h5 s q hl)
end
class iy{α:Type}(n:outParam Nat)(enc:α→List VP):Prop where
 len:∀x,(enc x).length=n
 flat:∀x q,q∈enc x→Flat q
section
variable {α:Type} {n:Nat} {enc:α→List VP}
theorem eO(h:∀x,(enc x).length=n):∀xs:List α,(xs.flatMap enc).length=xs.length*n
 |[]=>by simp
 |x::xs=>by simp only[List.flatMap_cons,List.length_append,h,eO h xs,List.length_cons,Nat.succ_mul];omega
theorem m0(h:∀x,(enc x).length=n):∀(xs:List α) (i:Nat) (x:α) (j:Nat) (q:VP),xs[i]?=some x→(enc x)[j]?=some q→(xs.flatMap enc)[i*n+j]?=some q
 |[],_,_,_,_,hi,_=>by simp at hi
 |y::xs,0,x,j,q,hi,hj=>by
  simp at hi;subst hi
  have:j<(enc y).length:=(List.getElem?_eq_some_iff.1 hj).1;simp only[List.flatMap_cons,Nat.zero_mul,Nat.zero_add];rw[List.getElem?_append_left this];exact hj
 |y::xs,i+1,x,j,q,hi,hj=>by
  simp only[List.flatMap_cons];rw[List.getElem?_append_right (by rw[h];simp[Nat.succ_mul];omega),h];have:=m0 h xs i x j q (by simpa using hi) hj
  rwa [show(i+1)*n+j-n=i*n+j by simp[Nat.succ_mul];omega]
theorem sj(h:∀x,(enc x).length=n)(hn:0<n):∀(xs:List α) (t:Nat) (q:VP),(xs.flatMap enc)[t]?=some q→∃x,xs[t/n]?=some x∧(enc x)[t%n]?=some q
 |[],_,_,ht=>by simp at ht
 |y::xs,t,q,ht=>by
  simp only[List.flatMap_cons] at ht;by_cases hl:t<n
  · rw[List.getElem?_append_left (by rw[h];exact hl)] at ht
    exact⟨y,by simp[Nat.div_eq_of_lt hl],by rwa [Nat.mod_eq_of_lt hl]⟩
  · rw[List.getElem?_append_right (by rw[h];omega),h] at ht
    obtain⟨x,h1,h2⟩:=sj h hn xs (t-n) q ht;have e1:t/n=(t-n)/n+1:=by rw[←Nat.sub_add_cancel (show n≤t by omega),Nat.add_div_right _ hn];simp
    have e2:t%n=(t-n)%n:=by rw[Nat.mod_eq_sub_mod (by omega)]
    exact⟨x,by rw[e1];simpa using h1,by rw[e2];exact h2⟩
theorem z9(h:∀x,(enc x).length=n)(hn:0<n){S:BS}{w:World}{b off:Nat}{xs:List α}(hc:∀(i:Nat) (x:α),xs[i]?=some x→bQ S w b (off+i*n) (enc x)):bQ S w b off (xs.flatMap enc):=by
 intro t q ht;obtain⟨x,h1,h2⟩:=sj h hn xs t q ht;obtain⟨v,hv,hq⟩:=hc _ x h1 _ q h2;refine⟨v,?_,hq⟩;rw[Nat.add_assoc] at hv
 rwa [show t/n*n+t%n=t by rw[Nat.mul_comm];exact Nat.div_add_mod t n] at hv
theorem jf(h:∀x,(enc x).length=n){S:BS}{w:World}{b off:Nat}{xs:List α}(hc:bQ S w b off (xs.flatMap enc))(i:Nat)(x:α)(hi:xs[i]?=some x):bQ S w b (off+i*n) (enc x):=by
 intro j q hj;obtain⟨v,hv,hq⟩:=hc _ q (m0 h xs i x j q hi hj);exact⟨v,by rwa [Nat.add_assoc],hq⟩
end
abbrev SB:=Option (Nat×Nat)
def bA(g:SB)(len:Nat):Value:=match g with|none=> .slice none 0 0|some (b,cap)=> .slice (some ⟨b,0,none⟩) len cap
instance (g:SB) (len:Nat):Flat (af (bA g len)):=⟨fun h=>by subst h;cases g<;>exact⟨rfl,rfl⟩⟩
def aI{α:Type}(g:SB)(n:Nat)(enc:α→List VP)(xs:List α):HP:=
  ⟨fun F S w=>match g with
      |none=>xs=[]
      |some (b,cap)=>F b∧xs.length≤cap∧xs.length≤281474976710656∧∃(arr:Array Value) (T:TypeId),w.heap[b]?=some (.cells arr T (0,0))∧arr.size=cap*n∧∀(j:Nat) (q:VP),(xs.flatMap enc)[j]?=some q→∃u,arr[j]?=some u∧q.p S w u,
   fun {F F' S S' w w'} h1 h2 h3 h4 h=>by
      cases g with
      |none=>exact h
      | some bc=>
        obtain⟨b,cap⟩:=bc;obtain⟨hF,hl,hm,arr,T,hh,hn,hc⟩:=h;exact⟨h1 b hF,hl,hm,arr,T,(h3 b hF).trans hh,hn,fun j q hj=>let ⟨u,hu,hq⟩:=hc j q hj;⟨u,hu,q.mono h2 h4 hq⟩⟩⟩
theorem jg{P:Program}{b off:Nat}{T:TypeId}:∀(vs:List Value) (i:Nat) (w:World) (arr:Array Value),(∀v∈vs,v.oneCell'=true)→w.heap[b]?=some (.cells arr T (0,0))→off+i+vs.length≤arr.size→
    ∃ (w':World) (arr':Array Value),(storeCells ⟨b,off,none⟩ vs i).run P w= .ok () w'∧w'.os=w.os∧w'.tape=w.tape∧w'.output=w.output∧w'.heap.size=w.heap.size∧(∀k,k≠b→w'.heap[k]?=w.heap[k]?)∧
      w'.heap[b]?=some (.cells arr' T (0,0))∧arr'.size=arr.size∧(∀j,(j<off+i∨off+i+vs.length≤j)→arr'[j]?=arr[j]?)∧∀j v,vs[j]?=some v→arr'[off+i+j]?=some v
  |[],i,w,arr,_,hb,_=>⟨w,arr,by simp[storeCells],rfl,rfl,rfl,rfl,fun _ _=>rfl,hb,rfl,fun _ _=>rfl,fun _ _ h=>by simp at h⟩
  | v ::vs,i,w,arr,hv,hb,hsz=>by
    simp only[List.length_cons] at hsz
    have mL:Addr.add ⟨b,off,none⟩ i=⟨b,off+i,none⟩:=by
      unfold Addr.add
      split
      · rename_i h0;simp
      · rfl
    have hst:(store (Addr.add ⟨b,off,none⟩ i) v).run P w= .ok () (w.setCell ⟨b,off+i,none⟩ v):=by
      rw[mL,run_store _ _ _ _ _ (hv v (List.mem_cons_self ..))]
      have:w.cell? ⟨b,off+i,none⟩=some (arr[off+i]'(by omega)):=by
        have hlt:off+i<arr.size:=by omega
        simp[World.cell?,hb,hlt]
      simp[this,World.frozen?,hb]
    obtain⟨w',arr',h1,h2,h3,h4,h5,h6,h7,h8,h9,h10⟩:=jg (P:=P) (b:=b) (off:=off) (T:=T) vs (i+1) (w.setCell ⟨b,off+i,none⟩ v) (arr.setIfInBounds (off+i) v) (fun u hu=>hv u (List.mem_cons_of_mem _ hu))
      (by simp[World.setCell,Array.getElem?_modify,hb]) (by simp;omega)
    refine⟨w',arr',?_,h2,h3,h4,by rw[h5];simp[World.setCell],fun k hk=>(h6 k hk).trans (dh w _ _ k hk),h7,by rw[h8];simp,?_,?_⟩
    · unfold storeCells;rw[bh hst];exact h1
    · intro j hj
      rw[h9 j (by simp only[List.length_cons] at hj;omega),Array.getElem?_setIfInBounds_ne (by simp only[List.length_cons] at hj;omega)]
    · intro j u hj
      cases j with
      | zero=>
        simp at hj;subst hj
        rw[h9 (off+i+0) (.inl (by omega))];have:off+i<arr.size:=by omega
        simp[this]
      | succ j=>
        have:=h10 j u (by simpa using hj)
        rwa [show off+i+(j+1)=off+(i+1)+j by omega]
theorem yU(newLen:Nat):∀(r c:Nat),c≤newLen+newLen/4+192→Builtin.growBy newLen r c≤newLen+newLen/4+192
 |0,c,h=>h
 |r+1,c,h=>by
  unfold Builtin.growBy
  split
  · exact h
  · exact yU newLen r _ (by omega)
theorem nextslicecap_le{need cap:Nat}(h:cap<need):Builtin.nextslicecap need cap≤2*need+256:=by
 unfold Builtin.nextslicecap
 split
 · omega
 · split
   · omega
   · have:=yU need 4 cap (by omega);omega
section
variable {P:Program} {hs:List HP} {env:Env} {q:VP} {dst:Option Tmp} {ty T T2 T' E:TypeId} {pos:String} {after:Array Edge} {gd:Option (Nat×Bool)} {x y z:Operand}
theorem ep{n:Nat}(h:P.cellsOf E=n)(hn:Nat.blt 0 n=true)(w:World):∃i,(typeInfo E).run P w= .ok i w∧i.bytes=P.bytesOf E:=by
 have hn':0<n:=by simpa using hn
 unfold Program.cellsOf at h;cases hi:P.info? E with
 |none=>simp[hi] at h;omega
 |some i=>exact⟨i,by simp[typeInfo,hi],by simp[Program.bytesOf,hi]⟩
theorem l8{α:Type}{n:Nat}{enc:α→List VP}{xs:List α}(h:∀x,(enc x).length=n)(hn:0<n){S:BS}{w:World}{a:Option Addr}{cap:Nat}
    (hm:match a with|none=>cap=0|some ad=>cap≠0→ad.spot=none∧S ad.block∧∀(i:Nat) (x:α),xs[i]?=some x→bQ S w ad.block (ad.off+i*n) (enc x)) (hc:xs.length≤cap):
    ∃vs:List Value,vs.length=xs.length*n∧(∀d:Nat,(Builtin.firstCells n xs.length (.slice a xs.length cap)).run P {w with drawn:=d}= .ok vs.toArray {w with drawn:=d})∧∀(j:Nat) (q:VP),(xs.flatMap enc)[j]?=some q→∃u,vs[j]?=some u∧q.p S w u:=by
  cases a with
  | none=>
    have : xs = [] := by have:xs.length=0:=by simp at hm;omega
                         exact List.length_eq_zero_iff.1 this
    subst this;exact⟨[],by simp,fun d=>by simp[Builtin.firstCells],fun j q hj=>by simp at hj⟩
  | some ad=>
    by_cases h0:xs=[]
    · subst h0
      exact⟨[],by simp,fun d=>by simp[Builtin.firstCells,loadCells,loadCellsFrom],fun j q hj=>by simp at hj⟩
    have hxp:0<xs.length:=List.length_pos_iff.2 h0;obtain⟨b,off,sp⟩:=ad;obtain⟨hsp,hb,hel⟩:=hm (by omega);simp only at hsp hb hel;subst hsp
    obtain⟨vs,h1,h2,h3⟩:=nE _ (z9 h hn hel);refine⟨vs,by rw[h1,eO h],fun d=>?_,h3⟩;have:=run_loadCellsFrom (P:=P) (b:=b) (off:=off) (xs.length*n) 0 #[] {w with drawn:=d} vs (by rw[h1,eO h]) (fun j v hj=>by simpa[World.cell?] using h2 j v hj);simpa[Builtin.firstCells,loadCells] using this
theorem bn{α:Type}{g:SB}{n by_ i:Nat}{enc:α→List VP}{xs ys:List α}{zs:List Value}{E2:TypeId}[he:iy n enc](hT:P.underlying T=some (.slice E))(PE:P.underlying T2=some (.slice E2))(hn:P.cellsOf E=n)(h0:Nat.blt 0 n=true)
    (hz:jd P E=some zs) (hzl:zs.length=n) (hb:P.bytesOf E=by_) (hx:aU env x (af (bA g xs.length))) (hy:aU env y (an n enc ys)) (hi:hs[i]?=some (aI g n enc xs)) (hroom:(2*(xs.length+ys.length)+256)*by_≤281474976710656) (hlen:xs.length+ys.length≤281474976710656):
    fN P hs env ⟨dst, .call ⟨.builtin .append, #[x,y], #[T,T2]⟩,ty,pos,after,gd⟩ (γ:=SB) (fun _=>True) (fun g'=>hs.set i (aI g' n enc (xs++ys))) (fun g'=>af (bA g' (xs++ys).length)):=by
  intro c a w S F ax hown lV K Q hk;have hn0:0<n:=by simpa using h0
  have hv:=hx S w a lV;simp only[af] at hv
  obtain⟨ya,ycap,K9,IS,SQ,Qr⟩:=hy S w a lV;obtain⟨F1,F2,f1,f2,f3,_,f4⟩:=hown.ue hi;obtain⟨vy,BU,IT,La⟩:=l8 (P:=P) he.len hn0 Qr IS;have hsz:=run_sizeOf hn h0 w
  have Xi:∀v∈vy,v.oneCell'=true:=by
    intro v qI;obtain⟨j,hj⟩:=List.mem_iff_getElem?.1 qI;have hjl:j<(ys.flatMap enc).length:=by rw[eO he.len,←BU];exact(List.getElem?_eq_some_iff.1 hj).1
    obtain⟨u,hu,hq⟩:=La j _ (List.getElem?_eq_getElem hjl);rw[hj] at hu;cases hu
    obtain⟨y0,h1,h2⟩:=sj he.len hn0 ys j _ (List.getElem?_eq_getElem hjl);exact((he.flat y0 _ (List.mem_of_getElem? h2)).flat hq).2
  have room:∀(b cap:Nat),g=some (b,cap)→xs.length+ys.length≤cap→Oper.wp P ⟨dst, .call ⟨.builtin .append, #[x,y], #[T,T2]⟩,ty,pos,after,gd⟩ a w K Q:=by
    intro b cap hg hfit;subst hg;obtain⟨hFb,hl,hm,arr,E',x5,r7,hc⟩:=f3;have hsum:(xs.length+ys.length)*n≤cap*n:=Nat.mul_le_mul_right n hfit;rw[Nat.add_mul] at hsum;obtain⟨w',arr',k1,k2,k3,k4,k5,k6,k7,k8,k9,Xj⟩:=jg (P:=P) (b:=b) (off:=xs.length*n) (T:=E') vy 0 w arr Xi x5 (by rw[BU,r7];omega)
    have mL:Addr.add ⟨b,0,none⟩ (xs.length*n)=⟨b,xs.length*n,none⟩:=by
      unfold Addr.add
      split
      · rename_i h0;simp
      · simp
    have hr:(execOp a.eval ⟨dst, .call ⟨.builtin .append, #[x,y], #[T,T2]⟩,ty,pos,after,gd⟩).run P w= .ok (.value (bA (some (b,cap)) (xs++ys).length)) w':=by
      simp[execOp,resolve,invoke,builtin,Builtin.append_,hv,K9,bA,run_underlying hT,run_underlying PE,hsz,Builtin.lenOf,hfit,IT w.drawn,mL,k1]
    unfold Oper.wp;rw[hr];have hag:∀k,S k→w'.heap[k]?=w.heap[k]?:=fun k hk=>k6 k (fun e=>ax.cR k hk (e▸(f1 b hFb).1));refine hk (some (b,cap)) _ w' S F trivial (ax.write (f1 b hFb).1 k2 k3 k4 k5 k6) (fun _ h=>h) hag ?_ rfl
    have:=f4 S F1 w' (aI (some (b,cap)) n enc (xs++ys)) (fun k hk=>(f1 k hk).2) (fun _ h=>h) (fun k hk=>k6 k (fun e=>(f1 b hFb).2 (e▸hk))) hag
      ⟨hFb,by simpa using hfit,by simpa using hlen,arr',E',k7,by rw[k8,r7],fun j q' hj=>?_⟩
    · exact this.mono (fun k hk=>hk.elim (fun h=>(f1 k h).1) (f2 k)) (fun _ h=>h) (fun _ _=>rfl) (fun _ _=>rfl)
    · rw[List.flatMap_append] at hj
      by_cases hjl:j<(xs.flatMap enc).length
      · rw[List.getElem?_append_left hjl] at hj
        obtain⟨u,hu,hq⟩:=hc j q' hj;rw[eO he.len] at hjl;exact⟨u,by rw[k9 j (.inl (by omega))];exact hu,q'.mono (fun _ h=>h) hag hq⟩
      · rw[List.getElem?_append_right (by omega)] at hj
        rw[eO he.len] at hj hjl;obtain⟨u,hu,hq⟩:=La _ q' hj;have:=Xj _ u hu;rw[show xs.length*n+0+(j-xs.length*n)=j by omega] at this;exact⟨u,this,q'.mono (fun _ h=>h) hag hq⟩
  have grow:∀(sl:Value) (cap:Nat),sl=bA g xs.length→(∃base,sl= .slice base xs.length cap)→cap<xs.length+ys.length→
      (∃vx:List Value,vx.length=xs.length*n∧(∀d:Nat,(Builtin.firstCells n xs.length sl).run P {w with drawn:=d}= .ok vx.toArray {w with drawn:=d})∧∀(j:Nat) (q:VP),(xs.flatMap enc)[j]?=some q→∃u,vx[j]?=some u∧q.p S w u)→
      Oper.wp P ⟨dst, .call ⟨.builtin .append, #[x,y], #[T,T2]⟩,ty,pos,after,gd⟩ a w K Q:=by
    rintro sl cap NR ⟨base,rfl⟩ hcap ⟨vx,IU,Xk,Xl⟩;obtain⟨info,hi1,hi2⟩:=ep hn h0 w;obtain⟨zv,Hr,x4⟩:=gI hz w;obtain⟨zv',hz1',hz2'⟩:=gI hz w.drew;obtain⟨info',hi1',hi2'⟩:=ep hn h0 w.drew;have hbytes:info.bytes=by_:=hi2.trans hb;have UK:info'.bytes=by_:=hi2'.trans hb;have NS:=nextslicecap_le hcap;have hcapB:Builtin.nextslicecap (xs.length+ys.length) cap*by_≤281474976710656:=Nat.le_trans (Nat.mul_le_mul_right _ NS) hroom;have hvy2':(Builtin.firstCells n ys.length (.slice ya ys.length ycap)).run P w.drew= .ok vy.toArray w.drew:=IT (w.drawn+1);have hvx2':(Builtin.firstCells n xs.length (.slice base xs.length cap)).run P w.drew= .ok vx.toArray w.drew:=Xk (w.drawn+1);generalize BV:Question.cut (.appendCap (xs.length+ys.length) cap E) (w.tape w.drawn (.appendCap (xs.length+ys.length) cap E))=newCap;have hge:xs.length+ys.length≤newCap:=by rw[←BV];simp only[Question.cut];omega
    let row:Array Value:=vx.toArray++vy.toArray++Builtin.zeroCells zv'.cells (newCap-(xs.length+ys.length))
    have hr:(execOp a.eval ⟨dst, .call ⟨.builtin .append, #[x,y], #[T,T2]⟩,ty,pos,after,gd⟩).run P w= .ok (.value (bA (some (w.heap.size,newCap)) (xs++ys).length)) (w.drew.alloc (.cells row E)):=by
      have hnot:¬(xs.length+ys.length≤cap):=by omega
      have Aa:¬((9223372036854775807:Int)<((xs.length:Int)+(ys.length:Int))):=by omega
      have BW:¬(281474976710656<Builtin.nextslicecap (xs.length+ys.length) cap*info.bytes):=by rw[hbytes];omega
      have qI:a.eval x= .slice base xs.length cap:=hv.trans NR.symm;simp[execOp,resolve,invoke,builtin,Builtin.append_,qI,K9,bA,run_underlying hT,run_underlying PE,hsz,Builtin.lenOf,hnot,Aa,hi1,BW,Question.forced,BV,hi1',hvx2',hvy2',hz1',newRow,row]
    generalize hw':w.drew.alloc (.cells row E)=w' at hr;unfold Oper.wp;rw[hr];have hheap:w'.heap=w.heap.push (.cells row E):=by rw[←hw'];rfl
    have hold:∀k,k<w.heap.size→w'.heap[k]?=w.heap[k]?:=fun k hk=>by rw[hheap];exact bL w _ k hk
    have hag:∀k,S k→w'.heap[k]?=w.heap[k]?:=fun k hk=>hold k (ax.bD k hk);have SR:zv'.cells.size=n:=by rw[hz2'];simpa using hzl
    have hrow:row.size=newCap*n:=by
      simp only[row,Array.size_append,List.size_toArray,IU,BU,Builtin.zeroCells,Array.size_map,Array.size_range,SR];rw[←Nat.add_mul,←Nat.add_mul];congr 1;omega
    have SS:ir c w' S (fun k=>k=w.heap.size∨F k):=by
      have h1:=ax.eL (.cells row E);exact⟨by rw[←hw'];exact h1.os,by rw[←hw'];exact h1.tape,by rw[←hw'];exact h1.output,by rw[hheap];exact h1.size,fun k h2 h3=>by rw[hheap];exact h1.kept k h2 h3,h1.cR,fun k hk=>by rw[hheap];exact h1.bD k hk,fun k hk=>by rw[hheap];exact h1.bO k hk,h1.own,h1.shr,h1.base⟩
    have:=f4 S (fun k=>k=w.heap.size) w' (aI (some (w.heap.size,newCap)) n enc (xs++ys)) (fun k hk hf=>by have:=ax.bO k (f2 k hf);omega) (fun _ h=>h) (fun k hk=>hold k (ax.bO k (f2 k hk))) hag
      ⟨rfl,by simpa using hge,by simpa using hlen,row,E,by rw[hheap];simp,hrow,fun j q' hj=>?_⟩
    · exact hk (some (w.heap.size,newCap)) _ w' S _ trivial SS (fun _ h=>h) hag (this.mono (fun k hk=>hk.elim .inl (fun h=> .inr (f2 k h))) (fun _ h=>h) (fun _ _=>rfl) (fun _ _=>rfl)) rfl
    · rw[List.flatMap_append] at hj
      by_cases hjl:j<(xs.flatMap enc).length
      · rw[List.getElem?_append_left hjl] at hj
        obtain⟨u,hu,hq⟩:=Xl j q' hj;rw[eO he.len] at hjl;refine⟨u,?_,q'.mono (fun _ h=>h) hag hq⟩;simp only[row];rw[Array.getElem?_append_left (by simp[IU,BU];omega),Array.getElem?_append_left (by simp[IU];omega)];simpa using hu
      · rw[List.getElem?_append_right (by omega)] at hj
        have hj2:=(List.getElem?_eq_some_iff.1 hj).1;rw[eO he.len] at hj hjl hj2;rw[eO he.len] at hj2;obtain⟨u,hu,hq⟩:=La _ q' hj;refine⟨u,?_,q'.mono (fun _ h=>h) hag hq⟩;simp only[row];rw[Array.getElem?_append_left (by simp[IU,BU];omega),Array.getElem?_append_right (by simp[IU];omega)];simpa[IU] using hu
  cases g with
  | none=>
    have hxs:xs=[]:=f3;subst hxs;by_cases hy0:ys=[]
    · subst hy0
      have hr:(execOp a.eval ⟨dst, .call ⟨.builtin .append, #[x,y], #[T,T2]⟩,ty,pos,after,gd⟩).run P w= .ok (.value (bA none 0)) w:=by
        have:=IT w.drawn;simp at this;simp[execOp,resolve,invoke,builtin,Builtin.append_,hv,K9,bA,run_underlying hT,run_underlying PE,hsz,Builtin.lenOf,this]
      unfold Oper.wp;rw[hr];refine hk none _ w S F trivial ax (fun _ h=>h) (fun _ _=>rfl) ?_ rfl;have:=f4 S F1 w (aI none n enc ([]++[])) (fun k hk=>(f1 k hk).2) (fun _ h=>h) (fun _ _=>rfl) (fun _ _=>rfl) (by show([]++[]:List α)=[];rfl);exact this.mono (fun k hk=>hk.elim (fun h=>(f1 k h).1) (f2 k)) (fun _ h=>h) (fun _ _=>rfl) (fun _ _=>rfl)
    · have hy1:ys.length≠0:=fun h=>hy0 (List.length_eq_zero_iff.1 h)
      refine grow (.slice none 0 0) 0 rfl ⟨none,rfl⟩ (by simp;omega) ⟨[],by simp,fun d=>by simp[Builtin.firstCells],fun j q hj=>by simp at hj⟩
  | some bc=>
    obtain⟨b,cap⟩:=bc;by_cases hfit:xs.length+ys.length≤cap
    · exact room b cap rfl hfit
    · obtain⟨hFb,hl,hm,arr,E',x5,r7,hc⟩:=f3
      have Ab:bQ S w b 0 (xs.flatMap enc):=fun j q hj=>let ⟨u,hu,hq⟩:=hc j q hj;⟨u,by simp[World.cell?,x5,hu],hq⟩
      obtain⟨vs,s1,s2,s3⟩:=nE _ Ab;refine grow _ cap rfl ⟨some ⟨b,0,none⟩,rfl⟩ (by omega) ⟨vs,by rw[s1,eO he.len],fun d=>?_,s3⟩;have:=run_loadCellsFrom (P:=P) (b:=b) (off:=0) (xs.length*n) 0 #[] {w with drawn:=d} vs (by rw[s1,eO he.len]) (fun j v hj=>by simpa[World.cell?] using s2 j v hj);simpa[Builtin.firstCells,loadCells,bA] using this
theorem aJ.gJ{Q:Exit→Act→World→Prop}{c:Ctx}{s:Code}{α:Type}{g:SB}{n i t:Nat}{enc:α→List VP}{xs:List α}[he:iy n enc](hi:hs[i]?=some (aI g n enc xs))(ht:look env t=some (af (bA g xs.length)))
    (h:aJ P Q c s (hs.eraseIdx i) ((t,an n enc xs)::env)):aJ P Q c s hs env:=by
  intro a w ⟨h1,h2,S,F,h3,h4,h5⟩;obtain⟨F1,F2,f1,f2,f3,f5,_⟩:=h4.ue hi;have hv:=h5 t _ ht;simp only[af] at hv
  cases g with
  | none=>
    have hxs:xs=[]:=f3;subst hxs;refine h a w ⟨h1,h2,S,F2,⟨h3.os,h3.tape,h3.output,h3.size,h3.kept,fun k hk hf=>h3.cR k hk (f2 k hf),h3.bD,fun k hk=>h3.bO k (f2 k hk),fun k hk=>h3.own k (f2 k hk),h3.shr,h3.base⟩,f5,fun s q hl=>?_⟩;rw[bw] at hl;by_cases e:t=s
    · rw[if_pos e] at hl;cases hl;subst e;exact⟨none,0,hv,by simp,by simp,rfl⟩
    · rw[if_neg e] at hl;exact h5 s q hl
  | some bc=>
    obtain⟨b,cap⟩:=bc;obtain⟨hFb,hl,hm,arr,T,hh,hn,hc⟩:=f3;have hb:=f1 b hFb;have hS:∀k,S k→S k∨k=b:=fun _ h=> .inl h;have Ab:bQ (fun k=>S k∨k=b) w b 0 (xs.flatMap enc):=fun j q hj=>let ⟨u,hu,hq⟩:=hc j q hj;⟨u,by simp[World.cell?,hh,hu],q.mono hS (fun _ _=>rfl) hq⟩
    refine h a w ⟨h1,h2,fun k=>S k∨k=b,F2,⟨h3.os,h3.tape,h3.output,h3.size,h3.kept,?_,?_,fun k hk=>h3.bO k (f2 k hk),fun k hk=>h3.own k (f2 k hk),?_,fun k hk=> .inl (h3.base k hk)⟩,
      f5.mono (fun _ h=>h) hS (fun _ _=>rfl) (fun _ _=>rfl),fun s q hls=>?_⟩
    · exact fun k hk hf=>hk.elim (fun h=>h3.cR k h (f2 k hf)) (fun e=>hb.2 (e▸hf))
    · exact fun k hk=>hk.elim (h3.bD k) (fun e=>h3.bO k (e▸hb.1))
    · exact fun k hk=>hk.elim (h3.shr k) (fun e=>by
        rcases h3.own b hb.1 with h|h
        · exact .inr (.inl (e▸h))
        · exact .inr (.inr (e▸h)))
    · rw[bw] at hls
      by_cases e:t=s
      · rw[if_pos e] at hls;cases hls;subst e
        refine⟨some ⟨b,0,none⟩,cap,hv,hl,hm,fun _=>⟨rfl, .inr rfl,fun i x hx=>?_⟩⟩;exact jf he.len Ab i x hx
      · rw[if_neg e] at hls
        exact q.mono hS (fun _ _=>rfl) (h5 s q hls)
theorem aJ.iO{Q:Exit→Act→World→Prop}{c:Ctx}{s:Code}{α:Type}(n:Nat)(enc:α→List VP)(h:aJ P Q c s (aI none n enc []::hs) env):aJ P Q c s hs env:=by
 intro a w ⟨h1,h2,S,F,h3,h4,h5⟩;exact h a w ⟨h1,h2,S,F,h3,⟨fun _=>False,F,fun _ h=>h.elim,fun _ h=>h,rfl,h4⟩,h5⟩
class Hs(q:VP)(cs:outParam (List VP)):Prop where
 part:∀{S w v},q.p S w v→v.cells.size=cs.length∧∀(j:Nat) (p:VP),cs[j]?=some p→∃u,v.cells[j]?=some u∧p.p S w u
instance (cs:List VP):Hs (aK cs) cs:=⟨fun⟨arr,hv,hn,hc⟩=>by subst hv;exact⟨hn,hc⟩⟩
instance [Flat q]:Hs q [q]:=⟨fun hv=>by
 have:=(Flat.flat hv).1;rw[this];refine⟨rfl,fun j p hj=>?_⟩;cases j with
 |zero=>simp at hj;subst hj;exact⟨_,rfl,hv⟩
 |succ j=>simp at hj⟩
def sk:List VP→List VP→List VP
 |[],base=>base
 |q::qs,_::base=>q::sk qs base
 |qs,[]=>qs
def fh:Nat→List VP→List VP→List VP
 |0,new,base=>sk new base
 |k+1,new,b::base=>b::fh k new base
 |_+1,_,[]=>[]
def oN(place:Nat→Option (Nat×Nat))(base:List VP):List (Nat×List VP)→Option (List VP)
 |[]=>some base
 |(i,new)::r=>match place i with
  |none=>none
  |some (off,size)=>bif Nat.beq new.length size && Nat.ble (off+size) base.length then oN place (fh off new base) r else none
def p4(S:BS)(w:World)(arr:Array Value)(cs:List VP):Prop:=arr.size=cs.length∧∀(j:Nat) (q:VP),cs[j]?=some q→∃u,arr[j]?=some u∧q.p S w u
theorem yW:∀(new base:List VP),new.length≤base.length→(sk new base).length=base.length
 |[],base,_=>rfl
 |q::qs,[],h=>by simp at h
 |q::qs,b::base,h=>by simp[sk,yW qs base (by simpa using h)]
theorem yX:∀(new base:List VP) (j:Nat),new.length≤base.length→(sk new base)[j]?=if j<new.length then new[j]? else base[j]?
 |[],base,j,_=>by simp[sk]
 |q::qs,[],j,h=>by simp at h
 |q::qs,b::base,0,h=>by simp[sk]
 |q::qs,b::base,j+1,h=>by
  simp only[sk,List.getElem?_cons_succ,List.length_cons,Nat.add_lt_add_iff_right];exact yX qs base j (by simpa using h)
theorem oO:∀(off:Nat) (new base:List VP),off+new.length≤base.length→(fh off new base).length=base.length
 |0,new,base,h=>yW new base (by omega)
 |k+1,new,[],h=>by simp at h
 |k+1,new,b::base,h=>by simp[fh,oO k new base (by simp at h;omega)]
theorem l9:∀(off:Nat) (new base:List VP) (j:Nat),off+new.length≤base.length→(fh off new base)[j]?=if off≤j∧j<off+new.length then new[j-off]? else base[j]?
 |0,new,base,j,h=>by
  simp only[fh,yX new base j (by omega)];simp
 |k+1,new,[],j,h=>by simp at h
 |k+1,new,b::base,0,h=>by simp[fh]
 |k+1,new,b::base,j+1,h=>by
  simp only[fh,List.getElem?_cons_succ];rw[l9 k new base j (by simp at h;omega)];simp only[show(k+1≤j+1∧j+1<k+1+new.length)↔(k≤j∧j<k+new.length) by omega,show j+1-(k+1)=j-k by omega]
theorem qJ(vs:Array Value)(off:Nat):∀(l:List (Value×Nat)) (cs:Array Value),(∀p∈l,off+p.2<cs.size)→
    (l.foldl (fun cs (p:Value×Nat)=>cs.setIfInBounds (off+p.2) p.1) cs).size=cs.size
  |[],cs,_=>rfl
  | p::l,cs,h=>by
    simp only[List.foldl_cons];rw[qJ vs off l _ (fun q hq=>by simp;exact h q (List.mem_cons_of_mem _ hq))];simp
theorem qK(off:Nat):∀(vs:List Value) (k:Nat) (cs:Array Value),off+k+vs.length≤cs.size→∀j,
    ((vs.zipIdx k).foldl (fun cs (p:Value×Nat)=>cs.setIfInBounds (off+p.2) p.1) cs)[j]?=if off+k≤j∧j<off+k+vs.length then vs[j-(off+k)]? else cs[j]?
  |[],k,cs,_,j=>by simp;omega
  | v ::vs,k,cs,h,j=>by
    simp only[List.zipIdx_cons,List.foldl_cons,List.length_cons] at h ⊢;rw[qK off vs (k+1) _ (by simp;omega) j];by_cases h1:off+k=j
    · subst h1
      have:off+k<cs.size:=by omega
      rw[if_neg (by omega),if_pos (by omega)];simp[this]
    · rw[Array.getElem?_setIfInBounds_ne h1]
      by_cases h2:off+(k+1)≤j∧j<off+(k+1)+vs.length
      · rw[if_pos h2,if_pos (by omega)]
        rw[show j-(off+k)=(j-(off+(k+1)))+1 by omega];simp
      · rw[if_neg h2,if_neg (by omega)]
theorem p4.splice{S:BS}{w:World}{arr:Array Value}{cs new:List VP}{v:Value}{off:Nat}(h:p4 S w arr cs)(hv:v.cells.size=new.length∧∀(j:Nat) (p:VP),new[j]?=some p→∃u,v.cells[j]?=some u∧p.p S w u)(hl:off+new.length≤cs.length):
    p4 S w (v.cells.zipIdx.foldl (fun cs (c,j)=>cs.setIfInBounds (off+j) c) arr) (fh off new cs):=by
  have e:v.cells.zipIdx.foldl (fun cs (c,j)=>cs.setIfInBounds (off+j) c) arr=(v.cells.toList.zipIdx 0).foldl (fun cs (p:Value×Nat)=>cs.setIfInBounds (off+p.2) p.1) arr:=by
    rw[←Array.foldl_toList,Array.toList_zipIdx]
  have hg:=qK off v.cells.toList 0 arr (by simp[hv.1,h.1];omega);rw[e];refine⟨?_,fun j q hj=>?_⟩
  · rw[qJ v.cells off _ _ (fun p hp=>by
      have:=List.snd_lt_of_mem_zipIdx hp;simp at this;rw[hv.1] at this;rw[h.1];omega),oO off new cs hl,h.1]
  · rw[hg j]
    rw[l9 off new cs j hl] at hj;by_cases h1:off≤j∧j<off+new.length
    · rw[if_pos h1] at hj
      rw[if_pos (by simp[hv.1];omega)];obtain⟨u,hu,hq⟩:=hv.2 _ q hj;exact⟨u,by simpa using hu,hq⟩
    · rw[if_neg h1] at hj
      rw[if_neg (by simp[hv.1];omega)];exact h.2 j q hj
def jB(env:Env)(ps:List (Nat×Operand))(cs:List (Nat×List VP)):Prop:=∀S w (a:Act),cn env S w a.tmps→
 ps.length=cs.length∧∀(t:Nat) (p:Nat×Operand) (c:Nat×List VP),ps[t]?=some p→cs[t]?=some c→p.1=c.1∧(a.eval p.2).cells.size=c.2.length∧∀(j:Nat) (x:VP),c.2[j]?=some x→∃u,(a.eval p.2).cells[j]?=some u∧x.p S w u
theorem jB.nil:jB env [] []:=fun _ _ _ _=>⟨rfl,fun _ _ _ h=>by simp at h⟩
theorem jB.cons{k:Nat}{ps:List (Nat×Operand)}{cs:List (Nat×List VP)}{c:List VP}[hp:Hs q c](h:aU env x q)(t:jB env ps cs):jB env ((k,x)::ps) ((k,c)::cs):=fun S w a he=>by
 obtain⟨h1,h2⟩:=t S w a he;refine⟨by simpa using h1,fun t p d hp' hd=>?_⟩;cases t with
 |zero=>simp at hp' hd;subst hp';subst hd;exact⟨rfl,hp.part (h S w a he)⟩
 |succ t=>exact h2 t p d (by simpa using hp') (by simpa using hd)
theorem vi{place:Nat→Option (Nat×Nat)}{S:BS}{w:World}:∀(parts:List (Nat×Value)) (cs:List (Nat×List VP)) (base:List VP) (arr:Array Value) (out:List VP),p4 S w arr base→parts.length=cs.length→
    (∀(t:Nat) (p:Nat×Value) (c:Nat×List VP),parts[t]?=some p→cs[t]?=some c→p.1=c.1∧p.2.cells.size=c.2.length∧∀(j:Nat) (x:VP),c.2[j]?=some x→∃u,p.2.cells[j]?=some u∧x.p S w u)→
    oN place base cs=some out→∃arr',Instr.fill place arr parts=some arr'∧p4 S w arr' out
  |[],[],base,arr,out,h,_,_,hf=>by simp[oN] at hf;subst hf;exact⟨arr,rfl,h⟩
  |[],c::cs,_,_,_,_,hl,_,_=>by simp at hl
  |p::ps,[],_,_,_,_,hl,_,_=>by simp at hl
  | (i, v)::ps,(i',new)::cs,base,arr,out,h,hl,hp,hf=>by
    obtain⟨e1,e2,e3⟩:=hp 0 _ _ rfl rfl;simp only at e1 e2 e3;subst e1
    simp only[oN] at hf;cases gG:place i with
    |none=>rw[gG] at hf;cases hf
    | some os=>
      obtain⟨off,size⟩:=os;rw[gG] at hf;simp only at hf;cases hc:(Nat.beq new.length size && Nat.ble (off+size) base.length) with
      |false=>rw[hc] at hf;cases hf
      | true=>
        rw[hc] at hf;simp only[Bool.and_eq_true] at hc;have c1:new.length=size:=by simpa using hc.1
        have c2:off+size≤base.length:=by simpa using hc.2
        have hsp:=h.splice (v:=v) (off:=off) ⟨e2,e3⟩ (by omega);obtain⟨arr',g1,g2⟩:=vi ps cs _ _ out hsp (by simpa using hl) (fun t p c ht Qs=>hp (t+1) p c (by simpa using ht) (by simpa using Qs)) hf;refine⟨arr',?_,g2⟩;simp only[Instr.fill,gG];rw[if_neg (by simp[e2,c1,h.1];omega)];exact g1
def Ac(P:Program)(T:TypeId):Option (List (Nat×Nat)):=
 match P.underlying T with
 |some (.struct fs)=>if fs.toList.all (fun f=>Nat.blt 0 (P.cellsOf f.type)) then some (fs.toList.map fun f=>(f.offset,P.cellsOf f.type)) else none
 |_=>none
theorem BX{fs:List Field}(h:fs.all (fun f=>Nat.blt 0 (P.cellsOf f.type))=true)(w:World):(fs.mapM fun f=>do pure (f.offset,←sizeOf f.type):Sem (List (Nat×Nat))).run P w= .ok (fs.map fun f=>(f.offset,P.cellsOf f.type)) w:=by
 induction fs with
 |nil=>simp
 |cons f fs ih=>
  simp only[List.all_cons,Bool.and_eq_true] at h;have hs:=run_sizeOf (P:=P) (T:=f.type) rfl h.1 w;have:=ih h.2;simp only[List.mapM_cons,Sem.run_bind,hs,Result.andThen_ok,Sem.run_pure,this,List.map_cons]
theorem az{ps:List (Nat×Operand)}{pcs:List (Nat×List VP)}{pl:List (Nat×Nat)}{zs:List Value}{cs:List VP}(gG:Ac P T=some pl)(hz:jd P T=some zs)(hp:jB env ps pcs)(hf:oN (pl[·]?) (zs.map af) pcs=some cs):
    aT P hs env ⟨dst, .build T ps.toArray,ty,pos,after,gd⟩ (aK cs):=by
  intro a w S F h1 h2 h3 h4 he K Q hk;obtain⟨z,Hr,x4⟩:=gI hz w;unfold Ac at gG
  split at gG
  · rename_i fs hu
    split at gG
    · rename_i hall
      simp only[Option.some.injEq] at gG;obtain⟨g1,g2⟩:=hp S w a he;have hm:=BX (P:=P) hall w
      obtain⟨arr',r1,r2⟩:=vi (S:=S) (w:=w) (place:=(pl[·]?)) (ps.map fun(i,x)=>(i,a.eval x)) pcs (zs.map af) z.cells cs
        ⟨by rw[x4];simp,fun j q hj=>by
          rw[List.getElem?_map] at hj;cases K8:zs[j]? with
          |none=>rw[K8] at hj;cases hj
          |some u=>rw[K8] at hj;cases hj;exact⟨u,by rw[x4];simpa using K8,rfl⟩⟩ (by simpa using g1)
        (fun t p c ht hc=>by
          rw[List.getElem?_map] at ht;cases Ht:ps[t]? with
          |none=>rw[Ht] at ht;cases ht
          |some p0=>rw[Ht] at ht;cases ht;exact g2 t p0 c Ht hc) hf
      have hr:(execOp a.eval ⟨dst, .build T ps.toArray,ty,pos,after,gd⟩).run P w= .ok (.value (.agg arr')) w:=by
        have hm2:(fs.mapM fun f=>do pure (f.offset,←sizeOf f.type):Sem (Array (Nat×Nat))).run P w= .ok pl.toArray w:=by
          rw[←Array.toArray_toList (xs:=fs),List.mapM_toArray,←gG];simp only[Sem.run_map,hm,Result.andThen_ok]
        have r1':Instr.fill (fun x=>pl[x]?) z.cells (ps.map fun x=>(x.1,a.eval x.2))=some arr':=by simpa using r1
        simp only[execOp,Instr.build,Sem.run_bind,Hr,Result.andThen_ok,run_underlying hu,hm2];simp[r1']
      unfold Oper.wp;rw[hr];exact hk _ w S (ez.refl _ _) ⟨arr',rfl,r2.1,r2.2⟩
    · cases gG
  · cases gG
end
end Go.Hl
end
