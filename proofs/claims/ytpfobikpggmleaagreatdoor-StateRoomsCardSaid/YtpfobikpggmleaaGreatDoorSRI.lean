/-
  What the statement's proof leans on, several texts in one (packed by a program).
-/
import Derived.Test.YtpfobikpggmleaaGreatDoorSRH
import Derived.Defers
import Derived.Recover
set_option linter.all false
set_option maxRecDepth 1000000
set_option maxHeartbeats 4000000
section
namespace Go.Hl
open Go.RowKit
def ld (tf:TypeId) (e:Int):Value:= .iface tf (.agg #[.int .i64 e])
def wC (tf:TypeId) (ch:List PanicEntry):Prop:=∃e:Int,e≠0∧ch=[{v:=ld tf e,recovered:=false}]
variable {γ:Type}
def Sv (c:Ctx) (tf:TypeId) (D:Prop) (φ:γ→Prop) (hs':γ→List HP) (q:γ→VP) (e:Ending) (w':World):Prop:=
 (∃v S' F' g,e= .returned v∧ju ⟨c.w0,c.S0,c.M,0,none,[]⟩ w' S' F'∧φ g∧cL (hs' g) F' S' w'∧(q g).p S' w' v)∨(D∧∃ch S' F',e= .panicked ch∧wC tf ch∧ju ⟨c.w0,c.S0,c.M,0,none,[]⟩ w' S' F')
def vj (P:Program) (tf:TypeId) (f:FuncId) (ps:List VP) (hs:List HP) (D:Prop) (φ:γ→Prop) (hs':γ→List HP) (q:γ→VP):Prop:=
 ∀(w:World) (S F:BS) (vs:Array Value),(∀k,S k→k<w.heap.size)→(∀k,F k→k<w.heap.size)→(∀k,S k→¬F k)→cL hs F S w→gO ps S w vs.toList→
  Calls P f vs w fun e w'=>Sv ⟨w,S,F,0,none,[]⟩ tf D φ hs' q e w'
def BT (P:Program) (fn:Func) (c:Ctx) (tf:TypeId) (D:Prop) (φ:γ→Prop) (hs':γ→List HP) (q:γ→VP):Exit→Act→World→Prop:=
 bodyPost P fn fun e w'=>Sv c tf D φ hs' q e w'
theorem vj.intro {P:Program} {tf:TypeId} {D:Prop} {f:FuncId} {fn:Func} {x:Code} {ps:List VP} {hs:List HP} {γ:Type} {φ:γ→Prop} {hs':γ→List HP} {q:γ→VP}
    (n:Nat) (hf:P.funcs[f]?=some fn) (hb:fn.body=some x) (hnt:fn.ntmps=n) (hn:Nat.ble ps.length n=true)
    (h:∀(w0:World) (S0 M:BS),aM P (BT P fn ⟨w0,S0,M,n,none,[]⟩ tf D φ hs' q) ⟨w0,S0,M,n,none,[]⟩ x hs (args ps)):vj P tf f ps hs D φ hs' q:=by
  intro w S F vs hS hF hSF hown hall
  have hlen:ps.length=vs.size:=by simpa using hall.1
  have hn':ps.length≤n:=by simpa using hn
  refine calls_of_wp hf hb (wpIn_wide.1 (h w S F _ _ ⟨rfl, ?_,S,F, ?_,hown, ?_⟩))
  · simp;omega
  · exact ⟨rfl,rfl,rfl,Nat.le_refl _,fun _ _ _=>rfl,hSF,hS,hF,fun k hk=> .inl hk,fun k hk=> .inl hk,fun _ hk=>hk⟩
  · intro t q' hl
    obtain ⟨j,hj,hq⟩:=nr ps 0 t q' hl
    have tD:t=j:=by omega
    subst tD
    have hjl:t<ps.length:=(List.getElem?_eq_some_iff.1 hq).1
    have Kf:t<vs.size:=by omega
    have:(vs++Array.replicate (fn.ntmps-vs.size) undef).getD t undef=vs[t]:=by simp [Array.getElem?_append,Kf]
    rw [this]
    exact hall.2 t q' _ hq (by simp [Kf])
variable {P:Program} {hs:List HP} {env:Env} {c:Ctx} {fn:Func} {tf:TypeId} {D:Prop} {φ:γ→Prop} {hs':γ→List HP}
theorem bR.jy {q:γ→VP} (h:bR (Post P fn c φ hs' q) .ret c hs env):bR (BT P fn c tf D φ hs' q) .ret c hs env:=
 fun a w hst=>let ⟨h1,v,h2,h3⟩:=h a w hst;⟨h1,v,h2, .inl h3⟩
theorem bR.pN {q:γ→VP} (h:bR (Post P fn c φ hs' q) .normal c hs env):bR (BT P fn c tf D φ hs' q) .normal c hs env:=
 fun a w hst=>let ⟨h1,v,h2,h3⟩:=h a w hst;⟨h1,v,h2, .inl h3⟩
class BU (tf:TypeId) (D:outParam Prop) (Q:Exit→Act→World→Prop) (c:Ctx):Prop where
 Sw:∀{ch:List PanicEntry} {hs:List HP} {env:Env},D→wC tf ch→bR Q (.panic ch) c hs env
instance {P:Program} {fn:Func} {w0:World} {S0 M:BS} {n:Nat} {ro:Option Nat} {tf:TypeId} {D:Prop} {γ:Type} (φ:γ→Prop) (hs':γ→List HP) (q:γ→VP):BU tf D (BT P fn ⟨w0,S0,M,n,ro,[]⟩ tf D φ hs' q) ⟨w0,S0,M,n,ro,[]⟩:=
 ⟨fun {ch hs env} hD hc a w hst=>by
  obtain ⟨h1,h2,S,F,h3,h4,h5⟩:=hst
  exact ⟨h1, .inr ⟨hD,ch,S,F,rfl,hc,⟨h3.os,h3.tape,h3.output,h3.size,h3.kept,h3.di,h3.bM,h3.cc,h3.own,h3.shr,h3.base⟩⟩⟩⟩
instance {tf:TypeId} {D:Prop} {Q:Exit→Act→World→Prop} {K:Act→World→Prop} {c:Ctx} [h:BU tf D Q c]:BU tf D (Exit.then K Q) c:=⟨fun hD hc=>h.Sw hD hc⟩
instance {tf:TypeId} {D:Prop} {Q:Exit→Act→World→Prop} {id:Nat} {c:Ctx} [h:BU tf D Q c]:BU tf D (Exit.inBlock id Q) c:=⟨fun hD hc=>h.Sw hD hc⟩
theorem ju.through {w w':World} {S F F1 F2 S' F1':BS} (aC:ju c w S F) (qw:∀k,F1 k→F k∧¬F2 k) (vC:∀k,F2 k→F k) (h2:ju ⟨w,S,F1,0,none,[]⟩ w' S' F1'):
    ju c w' S' (fun k=>F1' k∨F2 k)∧(∀k,S k→w'.heap[k]?=w.heap[k]?)∧(∀k,F2 k→w'.heap[k]?=w.heap[k]?)∧(∀k,F1' k→¬F2 k):=by
  have hSF:∀k,S k→¬F1 k:=fun k hk hf=>aC.di k hk (qw k hf).1
  have hoS:∀k,S k→w'.heap[k]?=w.heap[k]?:=fun k hk=>h2.kept k (aC.bM k hk) (hSF k hk)
  have ho2F:∀k,F2 k→¬F1 k:=fun k hk hf=>(qw k hf).2 hk
  have hn:∀k,F1' k→¬F2 k:=fun k hk hf=>by
    rcases h2.own k hk with h|h
    · exact (qw k h).2 hf
    · exact Nat.lt_irrefl _ (Nat.lt_of_lt_of_le (aC.cc k (vC k hf)) h)
  refine ⟨⟨h2.os.trans aC.os,h2.tape.trans aC.tape,h2.output.trans aC.output,Nat.le_trans aC.size h2.size,fun k hk hm=> ?_,fun k hk hf=> ?_,h2.bM,fun k hk=> ?_,fun k hk=> ?_,fun k hk=> ?_,fun k hk=>h2.base k (aC.base k hk)⟩,hoS,fun k hk=>h2.kept k (aC.cc k (vC k hk)) (ho2F k hk),hn⟩
  · have hnF:¬F1 k:=fun hf=>(aC.own k (qw k hf).1).elim hm (fun h=>by omega)
    exact (h2.kept k (Nat.lt_of_lt_of_le hk aC.size) hnF).trans (aC.kept k hk hm)
  · rcases hf with hf|hf
    · exact h2.di k hk hf
    · rcases h2.shr k hk with h|h|h
      · exact aC.di k h (vC k hf)
      · exact (qw k h).2 hf
      · exact Nat.lt_irrefl _ (Nat.lt_of_lt_of_le (aC.cc k (vC k hf)) h)
  · rcases hk with hk|hk
    · exact h2.cc k hk
    · exact Nat.lt_of_lt_of_le (aC.cc k (vC k hk)) h2.size
  · rcases hk with hk|hk
    · rcases h2.own k hk with h|h
      · exact aC.own k (qw k h).1
      · exact .inr (Nat.le_trans aC.size h)
    · exact aC.own k (vC k hk)
  · rcases h2.shr k hk with h|h|h
    · exact aC.shr k h
    · exact .inr ((aC.own k (qw k h).1).imp (fun h=>h) (fun h=>h))
    · exact .inr (.inr (Nat.le_trans aC.size h))
def Nb (P:Program) (tf:TypeId) (hs rest:List HP) (env:Env) (o:Oper) (D:Prop) (φ:γ→Prop) (hs':γ→List HP) (q:γ→VP):Prop:=
 ∀(c:Ctx) (a:Act) (w:World) (S F:BS),ju c w S F→cL hs F S w→cy env S w a.tmps→
 ∀(K:Act→World→Prop) (Q:Exit→Act→World→Prop),
  (∀g v w' S' F',φ g→ju c w' S' F'→(∀k,S k→S' k)→(∀k,S k→w'.heap[k]?=w.heap[k]?)→cL (hs' g) F' S' w'→(q g).p S' w' v→K (a.put o.dst v) w')→
  (∀ch w' S' F',D→wC tf ch→ju c w' S' F'→(∀k,S k→S' k)→(∀k,S k→w'.heap[k]?=w.heap[k]?)→cL rest F' S' w'→Q (.panic ch) a w')→o.wp P a w K Q
variable {o:Oper}
theorem Nb.iR {rest:List HP} {q:γ→VP} (h:Nb P tf hs rest env o D φ hs' q) {a:Act} {w:World} {S F:BS} (h3:ju c w S F) (h4:cL hs F S w) (h5:cy env S w a.tmps) (hcall:∃cl,o.op= .call cl):∀cl,o.op≠ .defer cl:=by
 obtain ⟨cl,e⟩:=hcall
 intro cl' e';rw [e] at e';cases e'
section
variable {P:Program} {tf:TypeId} {ops:Array Oper} {Q:Exit→Act→World→Prop} {c:Ctx} {l:List Oper} {hs:List HP} {env:Env} {ty:TypeId} {pos:String} {after:Array Edge} {dst:Option Tmp}
theorem bZ.xd {d:Tmp} {cl:Call} {rest:List HP} {D:Prop} {γ:Type} {φ:γ→Prop} {hs':γ→List HP} {q:γ→VP} (h:Nb P tf hs rest env ⟨some d, .call cl,ty,pos,after,none⟩ D φ hs' q) (hd:Nat.blt d c.n=true) (KM:∀ch,D→wC tf ch→bR Q (.panic ch) c rest env)
    (k:∀g,φ g→bZ P ops Q c l (hs' g) ((d,q g)::env)):bZ P ops Q c (⟨some d, .call cl,ty,pos,after,none⟩::l) hs env:=by
  intro a w hst
  obtain ⟨h1,h2,S,F,h3,h4,h5⟩:=hst
  refine wpListIn_plain rfl fun K hK=>Oper.pn (h.iR h3 h4 h5 ⟨cl,rfl⟩)<|h c a w S F h3 h4 h5 K Q (fun g v w' S' F' hφ aC hsub hag hown hq=>hK _ _ (k g hφ _ _ ⟨?_, ?_,S',F',aC,hown, ?_⟩)) (fun ch w' S' F' hD hc aC hsub hag hown=> ?_)
  · rw [Act.dm];exact h1
  · rw [Act.fQ];exact h2
  · exact (h5.mono hsub hag).put hq (by rw [h2];simpa using hd)
  · exact KM ch hD hc a w' ⟨h1,h2,S',F',aC,hown,h5.mono hsub hag⟩
theorem bZ.x {d:Tmp} {cl:Call} {rest:List HP} {D D':Prop} {γ:Type} {φ:γ→Prop} {hs':γ→List HP} {q:γ→VP} (h:Nb P tf hs rest env ⟨some d, .call cl,ty,pos,after,none⟩ D' φ hs' q) (hd:Nat.blt d c.n=true) [pq:BU tf D Q c] (hD:D'→D)
    (k:∀g,φ g→bZ P ops Q c l (hs' g) ((d,q g)::env)):bZ P ops Q c (⟨some d, .call cl,ty,pos,after,none⟩::l) hs env:=bZ.xd h hd (fun ch hd' hc=>pq.Sw (hD hd') hc) k
theorem qx {D:Prop} {f:FuncId} {xs:List Operand} {ats:Array TypeId} {ps:List VP} {hs0 rest:List HP} {γ:Type} {φ:γ→Prop} {hs':γ→List HP} {q:γ→VP} (hf:vj P tf f ps hs0 D φ hs' q) (hb:lu P f=true) (hx:ko env xs ps) (hp:hs.Perm (hs0++rest)):
    Nb P tf hs rest env ⟨dst, .call ⟨.value (.func f),xs.toArray,ats⟩,ty,pos,after,none⟩ D φ (fun g=>hs' g++rest) q:=by
  intro c a w S F aC hown he K Q hk KM
  obtain ⟨F1,F2,qw,vC,P4,OU⟩:=cL.append.1 (hown.perm hp)
  have P5:∀k,F1 k→k<w.heap.size:=fun k hk=>aC.cc k (qw k hk).1
  have hSF:∀k,S k→¬F1 k:=fun k hk hf=>aC.di k hk (qw k hf).1
  have key:∀{w':World} {S' F1':BS},ju ⟨w,S,F1,0,none,[]⟩ w' S' F1'→_:=fun h2=>aC.through qw vC h2
  unfold Oper.wp
  rw [sA hb]
  refine (hf w S F1 _ aC.bM P5 hSF P4 (by simpa using hx S w a he)).mono ?_
  rintro e w' (⟨v,S',F1',g,rfl,h2,hφ,wq,hq⟩|⟨hD,ch,S',F1',rfl,hc,h2⟩)
  · obtain ⟨k1,k2,k3,k4⟩:=key h2
    exact hk g v w' S' _ hφ k1 h2.base k2 (cL.append.2 ⟨F1',F2,fun k hk=>⟨.inl hk,k4 k hk⟩,fun k hk=> .inr hk,wq,OU.mono (fun _ h=>h) h2.base k3 k2⟩) hq
  · obtain ⟨k1,k2,k3,k4⟩:=key h2
    exact KM ch w' S' _ hD hc k1 h2.base k2 ((cL.append (as:=[])).2 ⟨F1',F2,fun k hk=>⟨.inl hk,k4 k hk⟩,fun k hk=> .inr hk,trivial,OU.mono (fun _ h=>h) h2.base k3 k2⟩)
theorem bZ.P9 {x:Operand} {e:Int} (hx:bp env x (af (ld tf e))) (he:e≠0) {D:Prop} [pq:BU tf D Q c] (hD:D):bZ P ops Q c (⟨dst, .panic x,ty,pos,after,none⟩::l) hs env:=by
 intro a w hst
 obtain ⟨h1,h2,S,F,h3,h4,h5⟩:=hst
 have hv:=hx S w a h5;simp only [af] at hv
 refine wpListIn_plain rfl fun K hK=>Oper.pn (by intro cl e';cases e') ?_
 unfold Oper.wp
 have hr:(execOp a.eval (⟨dst, .panic x,ty,pos,after,none⟩:Oper)).run P w= .halt (.panic (ld tf e)) w:=by
  have h0:(Instr.panic (ld tf e)).run P w= .halt (.panic (ld tf e)) w:=rfl
  simp only [execOp,hv,Sem.run_bind,h0]
  rfl
 rw [hr]
 exact pq.Sw (hs:=[]) (env:=env) hD ⟨e,he,rfl⟩ a w ⟨h1,h2,S,F,h3,trivial,h5⟩
end
def Catch (P:Program) (f:FuncId) (p:Value) (ch:List PanicEntry) (hs:List HP) {δ:Type} (φ':δ→Prop) (tE:δ→List HP):Prop:=
 ∀(w:World) (S F:BS),(∀k,S k→k<w.heap.size)→(∀k,F k→k<w.heap.size)→(∀k,S k→¬F k)→cL hs F S w→
  CallsD P f #[p] (.panicking ch) w fun e u' w'=>e= .returned (.tuple #[])∧(∃v,u'= .panicking [{v,recovered:=true}])∧∃S' F' g,φ' g∧ju ⟨w,S,F,0,none,[]⟩ w' S' F'∧cL (tE g) F' S' w'
def Ef (P:Program) (fn:Func) (c:Ctx) (φ:γ→Prop) (hs':γ→List HP) (q:γ→VP):Exit→Act→World→Prop:=
 bodyPostD P fn fun e w'=>∃v S' F' g,e= .returned v∧ju ⟨c.w0,c.S0,c.M,0,none,[]⟩ w' S' F'∧φ g∧cL (hs' g) F' S' w'∧(q g).p S' w' v
variable {f:FuncId} {ps:List VP}
theorem cH.Nc {x:Code} {q:γ→VP}
    (n:Nat) (hf:P.funcs[f]?=some fn) (hb:fn.body=some x) (hnt:fn.ntmps=n) (hn:Nat.ble ps.length n=true)
    (h:∀(w0:World) (S0 M:BS),aM P (Ef P fn ⟨w0,S0,M,n,none,[]⟩ φ hs' q) ⟨w0,S0,M,n,none,[]⟩ x hs (args ps)):cH P f ps hs φ hs' q:=by
  intro w S F vs hS hF hSF hown hall
  have hlen:ps.length=vs.size:=by simpa using hall.1
  have hn':ps.length≤n:=by simpa using hn
  refine calls_of_wp_defers hf hb (wpIn_wide.1 (h w S F _ _ ⟨rfl, ?_,S,F, ?_,hown, ?_⟩))
  · simp;omega
  · exact ⟨rfl,rfl,rfl,Nat.le_refl _,fun _ _ _=>rfl,hSF,hS,hF,fun k hk=> .inl hk,fun k hk=> .inl hk,fun _ hk=>hk⟩
  · intro t q' hl
    obtain ⟨j,hj,hq⟩:=nr ps 0 t q' hl
    have tD:t=j:=by omega
    subst tD
    have hjl:t<ps.length:=(List.getElem?_eq_some_iff.1 hq).1
    have Kf:t<vs.size:=by omega
    have:(vs++Array.replicate (fn.ntmps-vs.size) undef).getD t undef=vs[t]:=by simp [Array.getElem?_append,Kf]
    rw [this]
    exact hall.2 t q' _ hq (by simp [Kf])
variable {ops:Array Oper} {Q:Exit→Act→World→Prop}
theorem bZ.Nd {l:List Oper} {p:Value} {x:Operand} {ats:Array TypeId} {ty:TypeId} {pos:String} {after:Array Edge}
    (hro:c.ro=none) (hx:bp env x (af (.func (.func f) #[] #[p]))) (k:bZ P ops Q {c with df:=⟨.fn (.func f) #[p], #[]⟩::c.df} l hs env):
    bZ P ops Q c (⟨none, .defer ⟨.value x, #[],ats⟩,ty,pos,after,none⟩::l) hs env:=by
  intro a w hst
  obtain ⟨h1,h2,S,F,h3,h4,h5⟩:=hst
  refine wpListIn_plain rfl fun K hK=>⟨fun _ _=>trivial, ?_⟩
  have hv:=hx S w a h5;simp only [af] at hv
  have hr:(execOp a.eval (⟨none, .defer ⟨.value x, #[],ats⟩,ty,pos,after,none⟩:Oper)).run P w= .ok (.defer ⟨.fn (.func f) #[p], #[]⟩) w:=by
    simp [execOp,resolve,hv,Deferred.ofValue]
  have hs0:(WF c.ro).round=none:=by rw [hro];rfl
  rw [hs0,Oper.semAt_none,hr,Oper.uponIn_defer]
  refine hK _ _ ?_
  have:=k {a with defers:=⟨.fn (.func f) #[p], #[]⟩::a.defers} w ⟨by simp [h1],h2,S,F,⟨h3.os,h3.tape,h3.output,h3.size,h3.kept,h3.di,h3.bM,h3.cc,h3.own,h3.shr,h3.base⟩,h4,h5⟩
  exact this
theorem bR.Sx {c':Ctx} {q:γ→VP} {p:Value}
    (hd:∀w:World,CallsD P f #[p] .returning w fun e u' w'=>e= .returned (.tuple #[])∧u'= .returning∧Below w.heap.size w w') (hc:c'={c with df:=[⟨.fn (.func f) #[p], #[]⟩]})
    (Nf:c.df=[]) (hb:lu P f=true) (h:bR (Post P fn c φ hs' q) .ret c hs env):bR (Ef P fn c φ hs' q) .ret c' hs env:=by
  subst hc
  intro a w hst
  obtain ⟨h1,h2,S,F,h3,h4,h5⟩:=hst
  show Leaves P fn a.tmps _ a.defers .returning w
  have h1':a.defers=[⟨.fn (.func f) #[p], #[]⟩]:=h1
  rw [h1']
  refine leaves_cons (f:=f) (args:= #[p]) (by simp) (by have h9:=iy hb #[p] w;simpa [invoke] using h9) ?_
  refine (hd w).mono ?_
  rintro e u' w'' ⟨rfl,rfl,yb⟩
  have g:eB w w'' S S:=⟨yb.os,yb.tape,yb.output,yb.size,fun k hk=>yb.block k hk,fun _ h=>h,fun _ h=> .inl h⟩
  have h3':ju c w S F:=⟨h3.os,h3.tape,h3.output,h3.size,h3.kept,h3.di,h3.bM,h3.cc,h3.own,h3.shr,h3.base⟩
  have:=h {a with defers:=[]} w'' ⟨Nf.symm,h2,S,F,h3'.grow g,g.vY h3.bM h3.cc h4,g.env h3.bM h5⟩
  obtain ⟨_,v,hr,hR⟩:=this
  exact ⟨v,hr,hR⟩
theorem bR.Sy {c':Ctx} {δ:Type} {q:γ→VP} {p:Value} {ch:List PanicEntry} {φ':δ→Prop} {tE:δ→List HP}
    (hd:Catch P f p ch hs φ' tE) (hc:c'={c with df:=[⟨.fn (.func f) #[p], #[]⟩]}) (Nf:c.df=[]) (hb:lu P f=true)
    (h:∀g,φ' g→bR (Post P fn c φ hs' q) .ret c (tE g) env):bR (Ef P fn c φ hs' q) (.panic ch) c' hs env:=by
  subst hc
  intro a w hst
  obtain ⟨h1,h2,S,F,h3,h4,h5⟩:=hst
  show Leaves P fn a.tmps _ a.defers (.panicking ch) w
  have h1':a.defers=[⟨.fn (.func f) #[p], #[]⟩]:=h1
  rw [h1']
  refine leaves_cons (f:=f) (args:= #[p]) (by simp) (by have h9:=iy hb #[p] w;simpa [invoke] using h9) ?_
  refine (hd w S F h3.bM h3.cc h3.di h4).mono ?_
  rintro e u' w'' ⟨rfl,⟨v,rfl⟩,S',F',g,hφ,hs,ho⟩
  have h3':ju c w S F:=⟨h3.os,h3.tape,h3.output,h3.size,h3.kept,h3.di,h3.bM,h3.cc,h3.own,h3.shr,h3.base⟩
  obtain ⟨k1,k2,k3,k4⟩:=h3'.through (F2:=fun _=>False) (fun k hk=>⟨hk,id⟩) (fun k hk=>hk.elim) hs
  have:=h g hφ {a with defers:=[]} w'' ⟨Nf.symm,h2,S',_,k1,(cL.append (as:=[]).2 ⟨fun _=>False,F',fun k hk=>hk.elim,fun k hk=> .inl hk,trivial,ho⟩),h5.mono hs.base k2⟩
  obtain ⟨_,v,hr,hR⟩:=this
  exact ⟨v,hr,hR⟩
abbrev XC:VP:=af undef
section
variable {P:Program} {tf:TypeId} {ops:Array Oper} {Q:Exit→Act→World→Prop} {c:Ctx} {l:List Oper} {hs:List HP} {env:Env} {ty:TypeId} {pos:String} {after:Array Edge} {dst:Option Tmp} {gd:Option (Nat×Bool)}
theorem BV {t j:Nat} {p:Prop} {a:Act} {w:World} {S:BS} (hl:look env t=some (ak p)) (hj:(ops[j]?).bind (·.dst)=some t) (ht:Nat.blt t c.n=true) (h2:a.tmps.size=c.n) (h5:cy env S w a.tmps):∃b,yielded ops a.tmps j=some b∧(b=true↔p):=by
 have ht':t<a.tmps.size:=by rw [h2];simpa using ht
 have h6:a.tmps[t]?=some (a.tmps.getD t undef):=by simp [ht']
 obtain ⟨b,hb,Bi⟩:=h5 t _ hl
 exact ⟨b,by unfold yielded;rw [hj];simp only [Option.bind_some,h6,hb],Bi⟩
theorem bZ.gx {d:Tmp} {cl:Call} {j:Nat} {want:Bool} {t:Tmp} {p:Prop} {rest:List HP} {D D':Prop} {γ:Type} {φ:γ→Prop} {hs':γ→List HP} {q:γ→VP} (hl:look env t=some (ak p)) (hj:(ops[j]?).bind (·.dst)=some t) (ht:Nat.blt t c.n=true) (hw:if want=true then p else ¬p)
    (h:Nb P tf hs rest env ⟨some d, .call cl,ty,pos,after,some (j,want)⟩ D' φ hs' q) (hd:Nat.blt d c.n=true) [pq:BU tf D Q c] (hD:D'→D)
    (k:∀g,φ g→bZ P ops Q c l (hs' g) ((d,q g)::env)):bZ P ops Q c (⟨some d, .call cl,ty,pos,after,some (j,want)⟩::l) hs env:=by
  intro a w hst
  obtain ⟨h1,h2,S,F,h3,h4,h5⟩:=hst
  refine wpListIn_step fun K hK=> ?_
  obtain ⟨b,hy,hb⟩:=BV (ops:=ops) hl hj ht h2 h5
  have XD:b=want:=by
    cases want
    · simp only [Bool.false_eq_true,if_false] at hw
      cases b with
      |false=>rfl
      |true=>exact absurd (hb.1 rfl) hw
    · simp only [if_true] at hw;exact hb.2 hw
  rw [if_pos (by simp [Region.wanted,hy,XD])]
  refine Oper.pn (h.iR h3 h4 h5 ⟨cl,rfl⟩)<|h c a w S F h3 h4 h5 K Q (fun g v w' S' F' hφ aC hsub hag hown hq=>hK _ _ (k g hφ _ _ ⟨?_, ?_,S',F',aC,hown, ?_⟩)) (fun ch w' S' F' hD' hc aC hsub hag hown=> ?_)
  · rw [Act.dm];exact h1
  · rw [Act.fQ];exact h2
  · exact (h5.mono hsub hag).put hq (by rw [h2];simpa using hd)
  · exact pq.Sw (hD hD') hc a w' ⟨h1,h2,S',F',aC,hown,h5.mono hsub hag⟩
theorem bZ.KN {o:Oper} {d:Tmp} {j:Nat} {want:Bool} {t:Tmp} {p:Prop} (hl:look env t=some (ak p)) (sx:o.guard=some (j,want)) (mH:o.dst=some d) (hj:(ops[j]?).bind (·.dst)=some t) (ht:Nat.blt t c.n=true) (hw:if want=true then ¬p else p) (hd:Nat.blt d c.n=true)
    (k:bZ P ops Q c l hs ((d,XC)::env)):bZ P ops Q c (o::l) hs env:=by
  intro a w hst
  obtain ⟨h1,h2,S,F,h3,h4,h5⟩:=hst
  refine wpListIn_step fun K hK=> ?_
  obtain ⟨b,hy,hb⟩:=BV (ops:=ops) hl hj ht h2 h5
  have XD:¬b=want:=by
    cases want
    · simp only [Bool.false_eq_true,if_false] at hw;rw [hb.2 hw];simp
    · simp only [if_true] at hw;intro e;exact hw (hb.1 e)
  rw [if_neg (by simp [Region.wanted,sx,hy,XD])]
  refine ⟨fun _ _=>trivial,hK _ _ (k _ _ ⟨?_, ?_,S,F,h3,h4, ?_⟩)⟩
  · rw [Act.dm];exact h1
  · rw [Act.fQ];exact h2
  · rw [mH];exact h5.put (by simp only [af]) (by rw [h2];simpa using hd)
theorem zV {x y z:Operand} {p:Prop} {q:VP} (hx:bp env x (ak p)) (hp:p) (hy:bp env y q):bg P hs env ⟨dst, .pick x y z,ty,pos,after,gd⟩ q:=
 bg.aI fun ρ w S F _ he=>by
  obtain ⟨b,hb,Bi⟩:=he.o _ _ hx
  have h2:=he.o _ _ hy
  have:=Bi.2 hp;subst this
  exact ⟨_,by simp [execOp,hb,go_sem],h2⟩
theorem GJ {x y z:Operand} {p:Prop} {q:VP} (hx:bp env x (ak p)) (hp:¬p) (hz:bp env z q):bg P hs env ⟨dst, .pick x y z,ty,pos,after,gd⟩ q:=
 bg.aI fun ρ w S F _ he=>by
  obtain ⟨b,hb,Bi⟩:=he.o _ _ hx
  have h2:=he.o _ _ hz
  cases b with
  |true=>exact absurd (Bi.1 rfl) hp
  |false=>exact ⟨_,by simp [execOp,hb,go_sem],h2⟩
theorem wD {D:Prop} {f:FuncId} {xs:List Operand} {ats:Array TypeId} {ps:List VP} {hs0 rest:List HP} {γ:Type} {φ:γ→Prop} {hs':γ→List HP} {q:γ→VP} (hf:vj P tf f ps hs0 D φ hs' q) (hb:lu P f=true) (hx:ko env xs ps) (hp:hs.Perm (hs0++rest)):
    Nb P tf hs rest env ⟨dst, .call ⟨.value (.func f),xs.toArray,ats⟩,ty,pos,after,gd⟩ D φ (fun g=>hs' g++rest) q:=
  fun c a w S F aC hown he K Q hk KM=>qx (dst:=dst) (ty:=ty) (pos:=pos) (after:=after) hf hb hx hp c a w S F aC hown he K Q hk KM
theorem KO {e:Int} {T:TypeId} {x:Operand} {fs:Array Field} (hT:P.underlying T=some (.struct fs)) (hx:bp env x (aE [ag .i64 e])):bg P hs env ⟨dst, .makeInterface T x,ty,pos,after,gd⟩ (af (ld T e)):=
 bg.aI fun ρ w S F _ he=>by
  obtain ⟨arr,hv,hn,hc⟩:=he.o _ _ hx
  obtain ⟨u,hu,hq⟩:=hc 0 _ rfl
  simp only [af] at hq
  subst hq
  have:arr= #[.int .i64 e]:=by
   refine Array.ext (by simpa using hn) fun i h1 h2=> ?_
   have:i=0:=by simp at h2;omega
   subst this
   have h3:arr[0]?=some arr[0]:=by simp at hn;simp [hn]
   rw [h3] at hu
   simpa using hu
  subst this
  exact ⟨ld T e,by simp [execOp,Instr.makeInterface,hv,run_underlying hT,ld],rfl⟩
theorem n7 {α:Type} {g:SB} {n i h len:Nat} {k:IntKind} {ii:Int} {enc:α→List VP} {xs:List α} {T E:TypeId} {x y:Operand} (hT:P.underlying T=some (.slice E)) (hn:P.cellsOf E=n) (h0:Nat.blt 0 n=true) (hx:bp env x (af (br g len))) (hy:bp env y (ag k ii)) (So:ii=(h:Int))
    (hi:hs[i]?=some (av g n enc xs)) (hl:len=xs.length) (hh:h≤len):bg P hs env ⟨dst, .slice T x none (some y) none,ty,pos,after,gd⟩ (af (br g h)):=
  bg.aI fun ρ w S F ho he=>by
    have hv:=he.o _ _ hx;have h2:=he.o _ _ hy;simp only [af,br] at hv h2
    subst So
    have hs:=run_sizeOf (T:=E) hn h0 w
    obtain ⟨F1,_,hp⟩:=ho.get hi
    cases g with
    | none=>
      have hp':xs=[]:=hp
      have OS:h=0:=by rw [hp'] at hl;simp at hl;omega
      subst OS
      refine ⟨.slice none 0 0, ?_,rfl⟩
      simp [execOp,hv,h2,Instr.sliceAt,Instr.slice,Instr.sliceBounds,Instr.sliceBound,asIntOf,run_underlying hT,hs]
    | some p=>
      obtain ⟨b,cap⟩:=p
      have hcap:h≤cap:=Nat.le_trans (by omega) hp.2.1
      refine ⟨.slice (some ⟨b,0,none⟩) h cap, ?_,rfl⟩
      simp [execOp,hv,h2,Instr.sliceAt,Instr.slice,Instr.sliceBounds,Instr.sliceBound,asIntOf,run_underlying hT,hs,hcap,Addr.add]
theorem GK {α:Type} {g:SB} {n i len:Nat} {enc:α→List VP} {xs:List α} {T E:TypeId} {x:Operand} {ats:Array TypeId} (tK:ats[0]?=some T) (hT:P.underlying T=some (.slice E)) (hx:bp env x (af (br g len))) (hi:hs[i]?=some (av g n enc xs)) (hl:len=xs.length):
    bg P hs env ⟨dst, .call ⟨.builtin .len, #[x],ats⟩,ty,pos,after,gd⟩ (ag .i64 (len:Int)):=
  bg.aI fun ρ w S F ho he=>by
    have hv:=he.o _ _ hx;simp only [af] at hv
    refine ⟨.int .i64 (len:Int), ?_,rfl⟩
    obtain ⟨F1,_,hp⟩:=ho.get hi
    cases g with
    | none=>
      have hp':xs=[]:=hp
      subst hp'
      subst hl
      simp [execOp,resolve,invoke,builtin,Builtin.len_,tK,hv,br,run_underlying hT,goInt]
    |some p=>simp [execOp,resolve,invoke,builtin,Builtin.len_,tK,hv,br,run_underlying hT,goInt]
end
variable {α:Type} {n:Nat}
theorem aB.KP {g:SB} {enc:α→List VP} {xs:List α} (ys:List α) (h:ys<+:xs) {r:List HP}:aB (av g n enc xs::r) (av g n enc ys::r):=fun F S w ⟨F1,F2,f1,f2,hp,hr⟩=>by
 refine ⟨F1,F2,f1,f2, ?_,hr⟩
 obtain ⟨t,rfl⟩:=h
 cases g with
 |none=>exact (List.append_eq_nil_iff.1 (show ys++t=[] from hp)).1
 |some p=>
  obtain ⟨h1,h2,h3,arr,T,h4,h5,h6⟩:=hp
  simp only [List.length_append] at h2 h3
  refine ⟨h1,by omega,by omega,arr,T,h4,h5,fun j q hj=>h6 j q ?_⟩
  rw [List.flatMap_append,List.getElem?_append_left ((List.getElem?_eq_some_iff.1 hj).1)]
  exact hj
theorem BW (B:List α) (x y:α):(B++[x]).set B.length y=B++[y]:=by simp
theorem kr (B:List α) (x:α):(B++[x])[B.length]?=some x:=by simp
theorem aB.of_eq {a b:List HP} (h:a=b):aB a b:=h▸aB.refl a
theorem aM.vF {s:Code} {g:SB} {enc:α→List VP} {xs:List α} (i:Nat) (hi:hs[i]?=some (av g n enc xs))
    (h:xs.length≤281474976710656→aM P Q c s hs env):aM P Q c s hs env:=by
  intro a w hst
  obtain ⟨h1,h2,S,F,h3,h4,h5⟩:=hst
  obtain ⟨F1,_,hp⟩:=h4.get hi
  refine h ?_ a w ⟨h1,h2,S,F,h3,h4,h5⟩
  cases g with
  |none=>have h9:xs=[]:=hp;rw [h9];simp
  |some p=>exact hp.2.2.1
theorem Post.Sz {q:γ→VP} (hr:fn.results= #[]) (g:γ) (hφ:φ g) (hh:∀F S w,cL hs F S w→cL (hs' g) F S w) (hq:q g=bz []) (hdf:c.df=[]:=by rfl):bR (Post P fn c φ hs' q) .ret c hs env:=
 Post.aZ (rs:=[]) (qs:=[]) (by rw [hr]) rfl g hφ hh hq .nil hdf
theorem Post.gV {q:γ→VP} (hr:fn.results= #[]) (g:γ) (hφ:φ g) (hh:∀F S w,cL hs F S w→cL (hs' g) F S w) (hq:q g=bz []) (hdf:c.df=[]:=by rfl):bR (Post P fn c φ hs' q) .normal c hs env:=
 fun a w hst=>Post.Sz hr g hφ hh hq hdf a w hst
def KQ (P:Program) (T:TypeId) (i:Nat):Option (TypeId×Nat):=match P.underlying T with|some (.struct fs)=>(fs[i]?).map fun f=>(f.type,f.offset)|_=>none
variable {q:VP}
theorem BX {dst:Option Tmp} {ty:TypeId} {pos:String} {after:Array Edge} {gd:Option (Nat×Bool)} {T E:TypeId} {i off:Nat} {x:Operand} {cs:List VP} (hT:KQ P T i=some (E,off)) (hE:kn P E=some false) (hx:bp env x (aE cs)) (hq:cs[off]?=some q):
    bg P hs env ⟨dst, .field T x i,ty,pos,after,gd⟩ q:=
  bg.aI fun ρ w S F _ he=>by
    obtain ⟨arr,hv,hn,hc⟩:=he.o _ _ hx
    obtain ⟨u,hu,huq⟩:=hc off q hq
    unfold KQ at hT
    split at hT
    · rename_i fs J2
      obtain ⟨f,hf,HK⟩:=Option.map_eq_some_iff.1 hT
      simp only [Prod.mk.injEq] at HK
      obtain ⟨rfl,rfl⟩:=HK
      have h1:=er hE w
      refine ⟨u, ?_,huq⟩
      simp [execOp,Instr.field,run_underlying J2,hf,hv,asAgg,part,h1,hu]
    · cases hT
class FA (P:Program) (T:TypeId) (b:outParam Bool):Prop where
 out:kn P T=some b:=by kernel_rfl
class FC (P:Program) (T:TypeId) (n:outParam Nat):Prop where
 out:P.cellsOf T=n:=by kernel_rfl
class FU (P:Program) (T:TypeId) (u:outParam TypeDesc):Prop where
 out:P.underlying T=some u:=by kernel_rfl
class FF (P:Program) (T:TypeId) (f:Nat) (k:outParam Nat):Prop where
 out:vZ P T f=some k:=by kernel_rfl
class FZ (P:Program) (T:TypeId) (z:outParam (List Value)):Prop where
 out:jL P T=some z:=by kernel_rfl
class FP (P:Program) (T:TypeId) (l:outParam (List (Nat×Nat))):Prop where
 out:zN P T=some l:=by kernel_rfl
class FY (P:Program) (T:TypeId) (n:outParam Nat):Prop where
 out:P.bytesOf T=n:=by kernel_rfl
class FB (P:Program) (f:FuncId):Prop where
 out:lu P f=true:=by kernel_rfl
class FR (P:Program) (T:TypeId) (x:outParam (Nat×Nat)):Prop where
 out:PT P T=some x:=by kernel_rfl
class FM (P:Program):Prop where
 out:P.follows .mixedOrders=true:=by kernel_rfl
def Qa (a b:VP):Prop:=aa a b
theorem Qa.id:Qa q q:=aa.refl q
theorem Qa.when {c:Prop} (h:c):Qa (dX c q) q:=fun _ _ _ k=>k.1 h
theorem Qa.under {c p:Prop} (h:c):Qa (dX (c∧p) q) (dX p q):=fun _ _ _ k=>⟨fun hp=>k.1 ⟨h,hp⟩,fun hp=>k.2 fun h'=>hp h'.2⟩
theorem bp.via {t:Nat} {a:VP} (hl:look env t=some a) (h:Qa a q):bp env (.tmp t) q:=(bp.t hl).le h
theorem bp.z {x:Operand} (h:bp env x q:=by first
 |((with_reducible apply bp.via);exact rfl;first|with_reducible exact .when (by assumption)|with_reducible exact .when (And.left (by assumption))|with_reducible exact .id|with_reducible exact .under (by assumption)|exact .id|exact .when (by assumption)|exact .when (And.left (by assumption)))
 |with_reducible exact .ct
 |with_reducible exact .cf
 |with_reducible exact .c _
 |exact .c _
 |exact .g _):bp env x q:=h
theorem ko.z {env:Env} {xs:List Operand} {qs:List VP} (h:ko env xs qs:=by ((repeat (refine ko.cons .z ?_));exact .nil)):ko env xs qs:=h
theorem jM.one {x:Operand} {k:Nat} {ps:List (Nat×Operand)} {cs:List (Nat×List VP)} {c:List VP} (h:bp env x q) (hp:GB q c) (t:jM env ps cs):jM env ((k,x)::ps) ((k,c)::cs):= .cons h t
theorem jM.z {env:Env} {ps:List (Nat×Operand)} {cs:List (Nat×List VP)} (h:jM env ps cs:=by ((repeat (apply jM.one;exact .z;exact inferInstance));exact .nil)):jM env ps cs:=h
theorem de {k:IntKind} {n:Int} (h:fits k n:=by first
 |(with_reducible apply bN)<;>omega
 |(with_reducible apply pz)<;>omega
 |(with_reducible apply Ki)<;>omega
 |(with_reducible apply Gw)<;>omega):fits k n:=h
section
variable {P:Program} {hs:List HP} {env:Env} {q:VP} {dst:Option Tmp} {ty T E:TypeId} {pos:String} {after:Array Edge} {gd:Option (Nat×Bool)} {x y:Operand}
theorem Qb (hx:bp env x q) (hf:Flat q):bg P hs env ⟨dst, .box T x,ty,pos,after,gd⟩ (cg [q]):=Sg hx
theorem Qc {α:Type} {n:Nat} {enc:α→List VP} {xs:List α} (hT:P.underlying T=some (.slice E)) (hx:bp env x (ah n enc xs)):
    bg P hs env ⟨dst, .call ⟨.builtin .len, #[x], #[T]⟩,ty,pos,after,gd⟩ (ag .i64 (xs.length:Int)):=Gx rfl hT hx
theorem Ng {l:List UInt8} (hT:P.underlying T=some .string) (hx:bp env x (cM l)):
    bg P hs env ⟨dst, .call ⟨.builtin .len, #[x], #[T]⟩,ty,pos,after,gd⟩ (ag .i64 (l.length:Int)):=PN rfl hT hx
theorem Eg {α:Type} {g:SB} {n i len:Nat} {enc:α→List VP} {xs:List α} (hT:P.underlying T=some (.slice E)) (hx:bp env x (af (br g len))) (hi:hs[i]?=some (av g n enc xs)) (hl:len=xs.length):
    bg P hs env ⟨dst, .call ⟨.builtin .len, #[x], #[T]⟩,ty,pos,after,gd⟩ (ag .i64 (len:Int)):=GK rfl hT hx hi hl
end
section
variable {P:Program} {hs:List HP} {env:Env} {q:VP} {dst:Option Tmp} {ty T T2:TypeId} {pos:String} {after:Array Edge} {gd:Option (Nat×Bool)} {x y:Operand} {b:BinOp} {f:Builtin} {as:Array Operand} {ats:Array TypeId}
theorem XE (h:bg P hs env ⟨dst, .load T x,ty,pos,after,gd⟩ q):bg P hs env ⟨dst, .load T x,ty,pos,after,gd⟩ q:=h
theorem SA (h:bg P hs env ⟨dst, .binOp b T x y T2,ty,pos,after,gd⟩ q):bg P hs env ⟨dst, .binOp b T x y T2,ty,pos,after,gd⟩ q:=h
theorem Qd (h:bg P hs env ⟨dst, .call ⟨.builtin f,as,ats⟩,ty,pos,after,gd⟩ q):bg P hs env ⟨dst, .call ⟨.builtin f,as,ats⟩,ty,pos,after,gd⟩ q:=h
end
theorem bg.z {P:Program} {hs:List HP} {env:Env} {o:Oper} {q:VP} (h:bg P hs env o q:=by first
 |(with_reducible apply DX);exact .z
 |(with_reducible apply aX);exact .z
 |(with_reducible apply XE);first
  |(with_reducible apply tJ);exact FA.out;exact .z
  |(with_reducible apply vw);exact FA.out;exact FC.out;rfl;exact .z;rfl
  |(with_reducible apply eR (i:=0));exact FA.out;exact .z;rfl;rfl
  |(with_reducible apply eR (i:=1));exact FA.out;exact .z;rfl;rfl
  |(with_reducible apply eR (i:=2));exact FA.out;exact .z;rfl;rfl
  |(with_reducible apply eR (i:=3));exact FA.out;exact .z;rfl;rfl
  |(with_reducible apply nu (i:=0));exact FA.out;exact FC.out;rfl;exact .z;rfl;rfl
  |(with_reducible apply nu (i:=1));exact FA.out;exact FC.out;rfl;exact .z;rfl;rfl
  |(with_reducible apply nu (i:=2));exact FA.out;exact FC.out;rfl;exact .z;rfl;rfl
  |(with_reducible apply nu (i:=3));exact FA.out;exact FC.out;rfl;exact .z;rfl;rfl
 |(with_reducible apply MU);exact FF.out;exact .z
 |(with_reducible apply By);exact FF.out;exact .z
 |(with_reducible apply Kj);exact .z
 |(with_reducible apply HB);exact .z
 |(with_reducible apply SA);first
  |(with_reducible apply Sc);exact .z;exact .z
  |(with_reducible apply Sd);exact .z;exact .z
  |(with_reducible apply R8);exact .z;exact .z
  |(with_reducible apply Sb);exact .z;exact .z
  |(with_reducible apply Sa);exact .z;exact .z
  |(with_reducible apply R9);exact .z;exact .z
  |(with_reducible apply eX);exact .z;exact .z;exact de
  |(with_reducible apply ja);exact .z;exact .z;exact de
  |(with_reducible apply nT);exact .z;exact .z;exact de
  |(with_reducible apply DY);exact .z;exact .z
  |(with_reducible apply Kn);exact .z;exact .z
  |(with_reducible apply PL);exact FU.out;exact .z;exact .z
  |(with_reducible apply Kk);exact FU.out;exact .z
  |(with_reducible apply Kl);exact FU.out;exact .z
  |(with_reducible apply Bv);exact FU.out;exact .z
  |(with_reducible apply Bw);exact FU.out;exact .z
 |(with_reducible apply Sf);exact .z;exact .z
 |(with_reducible apply Xi);exact .z;exact .z
 |(with_reducible apply Se);exact .z
 |(with_reducible apply lK);exact .z;rfl
 |(with_reducible apply aL);exact FP.out;exact FZ.out;exact .z;rfl
 |(with_reducible apply Km);exact .z
 |(with_reducible apply Qb);exact .z;exact inferInstance
 |(with_reducible apply mJ);exact FU.out;exact FU.out;exact .z;exact de
 |(with_reducible apply D1);exact FU.out;exact FU.out;exact FU.out;exact .z
 |(with_reducible apply Qd);first
  |(with_reducible apply Qc);exact FU.out;exact .z
  |(with_reducible apply Ng);exact FU.out;exact .z
  |(with_reducible apply OP);exact .z;exact .z
  |(with_reducible apply Eg (i:=0));exact FU.out;exact .z;rfl;rfl
  |(with_reducible apply Eg (i:=1));exact FU.out;exact .z;rfl;rfl
  |(with_reducible apply Eg (i:=2));exact FU.out;exact .z;rfl;rfl):bg P hs env o q:=h
section
variable {P:Program} {hs:List HP} {env:Env} {q:VP} {dst:Option Tmp} {ty T E:TypeId} {pos:String} {after:Array Edge} {gd:Option (Nat×Bool)} {x y:Operand}
theorem cA {f:FuncId} {xs:List Operand} {ats:Array TypeId} {ps:List VP} [hb:FB P f] (hx:ko env xs ps:=by exact .z) (h:cQ P f ps q):
    bg P hs env ⟨dst, .call ⟨.value (.func f),xs.toArray,ats⟩,ty,pos,after,gd⟩ q:=bT h hb.out hx
theorem cV {A:Type} {ok:A→Prop} {arg:A→List VP} {res:A→VP} {xs:List Operand} {ats:Array TypeId} (a:A) (hx:bp env x (nt P ok arg res):=by exact .z) (hxs:ko env xs (arg a):=by exact .z) (h:ok a:=by trivial):
    bg P hs env ⟨dst, .call ⟨.value x,xs.toArray,ats⟩,ty,pos,after,gd⟩ (res a):=MW a hx h hxs
theorem cI {α:Type} {n:Nat} {enc:α→List VP} {xs:List α} {k:IntKind} {i:Int} {e:α} [hT:FU P T (.slice E)] [hE:FC P E n] (j:Nat) (hx:bp env x (ah n enc xs):=by exact .z) (hy:bp env y (ag k i):=by exact .z) (h0:Nat.blt 0 n=true:=by rfl) (h:xs[j]?=some e:=by assumption) (hi:i=(j:Int):=by first|rfl|omega):
    bg P hs env ⟨dst, .indexAddr T x y,ty,pos,after,gd⟩ (cg (enc e)):=aP hT.out hE.out h0 hx hy hi h
theorem cB {α:Type} {n len:Nat} (enc:α→List VP) (ys:List α) {ps:List (Nat×Operand)} {pcs:List (Nat×List VP)} {zs:List Value} {cs:List VP} [nw:gN n enc] [hT:FU P T (.slice E)] [hn:FC P E n] [hz:FZ P E zs] (hp:jM env ps pcs:=by exact .z) (h0:Nat.blt 0 n=true:=by rfl)
    (hzl:zs.length=n:=by rfl) (Bj:Nat.ble (len*n) 16777216=true:=by rfl) (hf:pF (fun i=>some (i*n,n)) (zeroV zs (len*n)) pcs=some cs:=by rfl) (hcs:cs=ys.flatMap enc:=by rfl) (hl:ys.length=len:=by rfl) (tE:Nat.ble len 16777216=true:=by rfl):
    bg P hs env ⟨dst, .buildSlice T len ps.toArray,ty,pos,after,gd⟩ (ah n enc ys):=bu ys hT.out hn.out h0 hz.out hzl hp Bj hf hcs hl tE
end
section
variable {P:Program} {hs:List HP} {env:Env} {dst:Option Tmp} {ty T E tf:TypeId} {pos:String} {after:Array Edge} {gd:Option (Nat×Bool)} {x y:Operand} {D:Prop}
theorem cE {f:FuncId} {xs:List Operand} {ats:Array TypeId} {ps:List VP} {hs0 rest:List HP} {γ:Type} {φ:γ→Prop} {hs':γ→List HP} {q:γ→VP} [hb:FB P f] (hx:ko env xs ps:=by exact .z) (hp:hs=hs0++rest:=by rfl) (h:cH P f ps hs0 φ hs' q):
    gL P hs env ⟨dst, .call ⟨.value (.func f),xs.toArray,ats⟩,ty,pos,after,gd⟩ φ (fun g=>hs' g++rest) q:=cC h hb.out hx (.of_eq hp)
theorem o7 {f:FuncId} {xs:List Operand} {ats:Array TypeId} {ps:List VP} {hs0:List HP} {γ:Type} {φ:γ→Prop} {hs':γ→List HP} {q:γ→VP} [hb:FB P f] (rest:List HP) (ix:List Nat) (hx:ko env xs ps:=by exact .z) (h1:ix.filterMap (fun i=>hs[i]?)=hs0++rest:=by rfl) (h2:uP (List.range hs.length) ix=true:=by rfl) (h:cH P f ps hs0 φ hs' q):
    gL P hs env ⟨dst, .call ⟨.value (.func f),xs.toArray,ats⟩,ty,pos,after,gd⟩ φ (fun g=>hs' g++rest) q:=cC h hb.out hx (Perm.idx ix h1 h2)
theorem cX {f:FuncId} {xs:List Operand} {ats:Array TypeId} {ps:List VP} {hs0 rest:List HP} {γ:Type} {φ:γ→Prop} {hs':γ→List HP} {q:γ→VP} [hb:FB P f] (hx:ko env xs ps:=by exact .z) (hp:hs=hs0++rest:=by rfl) (h:vj P tf f ps hs0 D φ hs' q):
    Nb P tf hs rest env ⟨dst, .call ⟨.value (.func f),xs.toArray,ats⟩,ty,pos,after,none⟩ D φ (fun g=>hs' g++rest) q:=qx h hb.out hx (.of_eq hp)
theorem HS {f:FuncId} {xs:List Operand} {ats:Array TypeId} {ps:List VP} {hs0:List HP} {γ:Type} {φ:γ→Prop} {hs':γ→List HP} {q:γ→VP} [hb:FB P f] (rest:List HP) (ix:List Nat) (hx:ko env xs ps:=by exact .z) (h1:ix.filterMap (fun i=>hs[i]?)=hs0++rest:=by rfl) (h2:uP (List.range hs.length) ix=true:=by rfl) (h:vj P tf f ps hs0 D φ hs' q):
    Nb P tf hs rest env ⟨dst, .call ⟨.value (.func f),xs.toArray,ats⟩,ty,pos,after,none⟩ D φ (fun g=>hs' g++rest) q:=qx h hb.out hx (Perm.idx ix h1 h2)
end
variable {j:Nat} {t:Tmp}
theorem cr.kT {p:Prop} (sx:o.guard=some (j,true)) (hj:(ops[j]?).bind (·.dst)=some t) (ht:Nat.blt t n=true) (hl:look env t=some (ak p)) (h:p→bg P hs env o q):cr P ops n hs env o (dX p q):= .gT hl sx hj ht h
theorem cr.kF {p:Prop} (sx:o.guard=some (j,false)) (hj:(ops[j]?).bind (·.dst)=some t) (ht:Nat.blt t n=true) (hl:look env t=some (ak p)) (h:¬p→bg P hs env o q):cr P ops n hs env o (dX (¬p) q):= .gF hl sx hj ht h
theorem cr.lT {c p:Prop} (sx:o.guard=some (j,true)) (hj:(ops[j]?).bind (·.dst)=some t) (ht:Nat.blt t n=true) (hl:look env t=some (dX c (ak p))) (h:c∧p→bg P hs env o q):cr P ops n hs env o (dX (c∧p) q):= .hT hl sx hj ht h
theorem cr.lF {c p:Prop} (sx:o.guard=some (j,false)) (hj:(ops[j]?).bind (·.dst)=some t) (ht:Nat.blt t n=true) (hl:look env t=some (dX c (ak p))) (h:c∧¬p→bg P hs env o q):cr P ops n hs env o (dX (c∧¬p) q):= .hF hl sx hj ht h
theorem cr.z {P:Program} {ops:Array Oper} {n:Nat} {hs:List HP} {env:Env} {o:Oper} {q:VP} (h:cr P ops n hs env o q:=by first
 |(with_reducible apply cr.kT);rfl;rfl;rfl;rfl;intro hg;exact .z
 |(with_reducible apply cr.kF);rfl;rfl;rfl;rfl;intro hg;exact .z
 |(with_reducible apply cr.lT);rfl;rfl;rfl;rfl;intro hg;exact .z
 |(with_reducible apply cr.lF);rfl;rfl;rfl;rfl;intro hg;exact .z):cr P ops n hs env o q:=h
section
variable {P:Program} {ops:Array Oper} {Q:Exit→Act→World→Prop} {c:Ctx} {l:List Oper} {hs:List HP} {env:Env} {q:VP} {ty T E:TypeId} {pos:String} {after:Array Edge} {x y:Operand}
theorem bZ.Qe (i:Nat) {b off:Nat} {cs:List VP} (hn:P.cellsOf T=1) (hx:bp env x (aJ b off)) (hy:bp env y q) (hf:Flat q) (hi:hs[i]?=some (aF b cs)) (hl:Nat.blt off cs.length=true)
    (k:bZ P ops Q c l (hs.set i (aF b (cs.set off q))) env):bZ P ops Q c (⟨none, .store T x y,ty,pos,after,none⟩::l) hs env:= .s (gQ hn hx hy hi hl) k
theorem bZ.tG (i:Nat) {b off n:Nat} {cs new:List VP} (hn:P.cellsOf T=n) (h0:Nat.blt 0 n=true) (hx:bp env x (aJ b off)) (hy:bp env y (aE new)) (hfl:bC new) (oY:Nat.beq new.length n=true) (hi:hs[i]?=some (aF b cs)) (hl:Nat.ble (off+n) cs.length=true)
    (k:bZ P ops Q c l (hs.set i (aF b (eT off new cs))) env):bZ P ops Q c (⟨none, .store T x y,ty,pos,after,none⟩::l) hs env:= .s (fy hn h0 hx hy oY hi hl) k
end
theorem aa.z {a b:VP} (h:aa a b:=by first|exact aa.refl _|exact aa.int (by omega)|exact aa.prop (by omega)|exact aa.prop (by simp_all)|exact aa.prop (by simp;omega)):aa a b:=h
variable {as:List α}
theorem OY {a:α} {l:List α} (h:as.take n=l):(a::as).take (n+1)=a::l:=congrArg (List.cons a) h
theorem SC:as.take 0=[]:=rfl
theorem GL {a:α} {l:List α} (h:as.drop n=l):(a::as).drop (n+1)=l:=h
theorem OZ:as.drop 0=as:=rfl
def ku (P:Program) (ops:Array Oper) (n:Nat) (hs:List HP) (e0:Env) (i:Nat) (done:fz) (l:List Oper) (K:fz→Prop):Prop:=∃all,lU P ops n hs e0 i done l all∧K all
section
variable {P:Program} {ops:Array Oper} {n:Nat} {hs:List HP} {e0:Env} {K:fz→Prop} {i:Nat} {done:fz} {d:Tmp} {q:VP} {op:Op} {ty:TypeId} {pos:String} {after:Array Edge} {gd:Option (Nat×Bool)} {l:List Oper}
theorem ku.g (h:cr P ops n hs (cz after done++e0) ⟨some d,op,ty,pos,after,gd⟩ q) (k:ku P ops n hs e0 (i+1) ((i,d,q)::done) l K):ku P ops n hs e0 i done (⟨some d,op,ty,pos,after,gd⟩::l) K:=
 let ⟨all,k1,k2⟩:=k;⟨all, .cons h k1,k2⟩
theorem ku.cons (h:cr P ops n hs (cz after done++e0) ⟨some d,op,ty,pos,after,gd⟩ q) (k:ku P ops n hs e0 (i+1) ((i,d,q)::done) l K):ku P ops n hs e0 i done (⟨some d,op,ty,pos,after,gd⟩::l) K:= .g h k
theorem ku.p (h:bg P hs (cz after done++e0) ⟨some d,op,ty,pos,after,none⟩ q) (k:ku P ops n hs e0 (i+1) ((i,d,q)::done) l K):ku P ops n hs e0 i done (⟨some d,op,ty,pos,after,none⟩::l) K:=
 let ⟨all,k1,k2⟩:=k;⟨all, .p h k1,k2⟩
theorem ku.nil (k:K done):ku P ops n hs e0 i done [] K:=⟨_, .nil,k⟩
theorem aM.bA {Q:Exit→Act→World→Prop} {c:Ctx} {l l1 l2:List Oper} {id:Nat} {env:Env} (m g:Nat) (hm:P.follows .mixedOrders=true) (hB:BE l.toArray m g c.n=true) (h1:l.take m=l1:=by ((repeat (first|with_reducible apply OY|apply OY));exact SC)) (h2:l.drop m=l2:=by ((repeat (first|with_reducible apply GL|apply GL));exact OZ))
    (k:ku P l.toArray c.n hs (strip (dstsOf l1) env) 0 [] l1 (fun all=>bZ P l.toArray Q c l2 hs (eU all++env))):aM P Q c (.region id l.toArray true) hs env:=
  let ⟨all,k1,k2⟩:=k; .draw m g hm hB (h1▸k1) (h2▸k2)
theorem aM.bG {Q:Exit→Act→World→Prop} {c:Ctx} {l l2:List Oper} {id:Nat} {env:Env} (plan:List (Nat×Nat)) (m g:Nat) (hm:P.follows .mixedOrders=true) (hB:lC l.toArray plan m g c.n=true) (h2:l.drop m=l2:=by ((repeat (first|with_reducible apply GL|apply GL));exact OZ))
    (k:cP P l c.n (strip (dstsOf (l.take m)) env) (fun done hs=>bZ P l.toArray Q c l2 hs (eU done++env)) plan [] hs):aM P Q c (.region id l.toArray true) hs env:= .P3 plan m g hm hB (h2▸k)
end
variable {h':Prop}
theorem dR {g:Prop} (k:h') (j:h'→g:=by first
 |(with_reducible apply bZ.p);exact .z;rfl
 |(with_reducible exact bZ.nil)
 |(with_reducible apply bZ.g);exact .z;rfl;rfl
 |(with_reducible exact aM.seq)
 |(with_reducible exact aM.region)
 |(with_reducible exact fun k=>bR.Bu k)
 |(with_reducible exact aM.block)
 |(with_reducible exact bR.Xb)
 |(with_reducible exact aM.skip)
 |(with_reducible exact aM.ret)
 |(with_reducible exact aM.exit)
 |(with_reducible exact bR.R4)
 |(with_reducible exact bR.Xc)
 |(with_reducible exact bR.R5)
 |(with_reducible exact bR.Xd)
 |(with_reducible apply bR.Xe);rfl
 |(with_reducible apply bZ.Qe 0);exact FC.out;exact .z;exact .z;exact inferInstance;rfl;rfl
 |(with_reducible apply bZ.Qe 1);exact FC.out;exact .z;exact .z;exact inferInstance;rfl;rfl
 |(with_reducible apply bZ.Qe 2);exact FC.out;exact .z;exact .z;exact inferInstance;rfl;rfl
 |(with_reducible apply bZ.tG 0);exact FC.out;rfl;exact .z;exact .z;exact inferInstance;rfl;rfl;rfl
 |(with_reducible apply bZ.tG 1);exact FC.out;rfl;exact .z;exact .z;exact inferInstance;rfl;rfl;rfl
 |(with_reducible apply bZ.tG 2);exact FC.out;rfl;exact .z;exact .z;exact inferInstance;rfl;rfl;rfl
 |(with_reducible apply cP.p);rfl;intro _;exact .z
 |(with_reducible apply cP.o);rfl;exact .z
 |(with_reducible apply cP.g);rfl;intro _;exact .z
 |(with_reducible apply dF.p);rfl;intro _;exact .z
 |(with_reducible apply dF.g);rfl;intro _;exact .z
 |(with_reducible apply ku.p);exact .z
 |(with_reducible apply ku.g);exact .z
 |(with_reducible exact ku.nil)
 |(apply ku.p);exact .z
 |(apply ku.g);exact .z
 |(apply bZ.p);exact .z;rfl
 |(exact bZ.nil)):g:=j k
structure gW (p:Prop):Prop where
 out:p
theorem Z1 {g:Prop} (k:h') (j:gW h'→g:=by (intro k;(iterate 1 refine dR ?_);exact k.out)):g:=j ⟨k⟩
theorem Z2 {g:Prop} (k:h') (j:gW h'→g:=by (intro k;(iterate 2 refine dR ?_);exact k.out)):g:=j ⟨k⟩
theorem Z3 {g:Prop} (k:h') (j:gW h'→g:=by (intro k;(iterate 3 refine dR ?_);exact k.out)):g:=j ⟨k⟩
theorem Z4 {g:Prop} (k:h') (j:gW h'→g:=by (intro k;(iterate 4 refine dR ?_);exact k.out)):g:=j ⟨k⟩
theorem Z5 {g:Prop} (k:h') (j:gW h'→g:=by (intro k;(iterate 5 refine dR ?_);exact k.out)):g:=j ⟨k⟩
theorem Z6 {g:Prop} (k:h') (j:gW h'→g:=by (intro k;(iterate 6 refine dR ?_);exact k.out)):g:=j ⟨k⟩
theorem Z7 {g:Prop} (k:h') (j:gW h'→g:=by (intro k;(iterate 7 refine dR ?_);exact k.out)):g:=j ⟨k⟩
theorem Z8 {g:Prop} (k:h') (j:gW h'→g:=by (intro k;(iterate 8 refine dR ?_);exact k.out)):g:=j ⟨k⟩
theorem Z9 {g:Prop} (k:h') (j:gW h'→g:=by (intro k;(iterate 9 refine dR ?_);exact k.out)):g:=j ⟨k⟩
theorem cJ {g:Prop} (k:h') (j:gW h'→g:=by (intro k;(iterate 10 refine dR ?_);exact k.out)):g:=j ⟨k⟩
theorem dw {g:Prop} (k:h') (j:gW h'→g:=by (intro k;(iterate 11 refine dR ?_);exact k.out)):g:=j ⟨k⟩
theorem dH {g:Prop} (k:h') (j:gW h'→g:=by (intro k;(iterate 12 refine dR ?_);exact k.out)):g:=j ⟨k⟩
theorem jN {g:Prop} (k:h') (j:gW h'→g:=by (intro k;(iterate 13 refine dR ?_);exact k.out)):g:=j ⟨k⟩
theorem iw {g:Prop} (k:h') (j:gW h'→g:=by (intro k;(iterate 14 refine dR ?_);exact k.out)):g:=j ⟨k⟩
theorem mM {g:Prop} (k:h') (j:gW h'→g:=by (intro k;(iterate 15 refine dR ?_);exact k.out)):g:=j ⟨k⟩
theorem BY {g:Prop} (k:h') (j:gW h'→g:=by (intro k;(iterate 16 refine dR ?_);exact k.out)):g:=j ⟨k⟩
theorem J3 {g:Prop} (k:h') (j:gW h'→g:=by (intro k;(iterate 17 refine dR ?_);exact k.out)):g:=j ⟨k⟩
theorem DP {g:Prop} (k:h') (j:gW h'→g:=by (intro k;(iterate 18 refine dR ?_);exact k.out)):g:=j ⟨k⟩
theorem Eh {g:Prop} (k:h') (j:gW h'→g:=by (intro k;(iterate 19 refine dR ?_);exact k.out)):g:=j ⟨k⟩
theorem J4 {g:Prop} (k:h') (j:gW h'→g:=by (intro k;(iterate 20 refine dR ?_);exact k.out)):g:=j ⟨k⟩
theorem RD {g:Prop} (k:h') (j:gW h'→g:=by (intro k;(iterate 21 refine dR ?_);exact k.out)):g:=j ⟨k⟩
theorem XF {g:Prop} (k:h') (j:gW h'→g:=by (intro k;(iterate 22 refine dR ?_);exact k.out)):g:=j ⟨k⟩
theorem Z23 {g:Prop} (k:h') (j:gW h'→g:=by (intro k;(iterate 23 refine dR ?_);exact k.out)):g:=j ⟨k⟩
theorem XG {g:Prop} (k:h') (j:gW h'→g:=by (intro k;(iterate 24 refine dR ?_);exact k.out)):g:=j ⟨k⟩
theorem RE {g:Prop} (k:h') (j:gW h'→g:=by (intro k;(iterate 25 refine dR ?_);exact k.out)):g:=j ⟨k⟩
theorem XH {g:Prop} (k:h') (j:gW h'→g:=by (intro k;(iterate 26 refine dR ?_);exact k.out)):g:=j ⟨k⟩
theorem SD {g:Prop} (k:h') (j:gW h'→g:=by (intro k;(iterate 27 refine dR ?_);exact k.out)):g:=j ⟨k⟩
theorem XI {g:Prop} (k:h') (j:gW h'→g:=by (intro k;(iterate 29 refine dR ?_);exact k.out)):g:=j ⟨k⟩
theorem Z30 {g:Prop} (k:h') (j:gW h'→g:=by (intro k;(iterate 30 refine dR ?_);exact k.out)):g:=j ⟨k⟩
theorem Z32 {g:Prop} (k:h') (j:gW h'→g:=by (intro k;(iterate 32 refine dR ?_);exact k.out)):g:=j ⟨k⟩
theorem Z33 {g:Prop} (k:h') (j:gW h'→g:=by (intro k;(iterate 33 refine dR ?_);exact k.out)):g:=j ⟨k⟩
theorem Z34 {g:Prop} (k:h') (j:gW h'→g:=by (intro k;(iterate 34 refine dR ?_);exact k.out)):g:=j ⟨k⟩
theorem yX {g:Prop} (k:h') (j:gW h'→g:=by (intro k;(iterate 35 refine dR ?_);exact k.out)):g:=j ⟨k⟩
theorem Z39 {g:Prop} (k:h') (j:gW h'→g:=by (intro k;(iterate 39 refine dR ?_);exact k.out)):g:=j ⟨k⟩
theorem Z40 {g:Prop} (k:h') (j:gW h'→g:=by (intro k;(iterate 40 refine dR ?_);exact k.out)):g:=j ⟨k⟩
theorem In {x:Code} {q:γ→VP} (n:Nat)
    (hf:P.funcs[f]?=some fn) (h:∀(w0:World) (S0 M:BS),aM P (Post P fn ⟨w0,S0,M,n,none,[]⟩ φ hs' q) ⟨w0,S0,M,n,none,[]⟩ x hs (args ps)) (hb:fn.body=some x:=by rfl) (hnt:fn.ntmps=n:=by rfl) (hn:Nat.ble ps.length n=true:=by rfl):cH P f ps hs φ hs' q:= .intro n hf hb hnt hn h
theorem Bm {x:Code} {q:γ→VP} (n:Nat)
    (hf:P.funcs[f]?=some fn) (h:∀(w0:World) (S0 M:BS),aM P (BT P fn ⟨w0,S0,M,n,none,[]⟩ tf D φ hs' q) ⟨w0,S0,M,n,none,[]⟩ x hs (args ps)) (hb:fn.body=some x:=by rfl) (hnt:fn.ntmps=n:=by rfl) (hn:Nat.ble ps.length n=true:=by rfl):vj P tf f ps hs D φ hs' q:= .intro n hf hb hnt hn h
theorem Cd {x:Operand} {p:Prop} {s t:Code} (ht:p→aM P Q c s hs env) (hf:¬p→aM P Q c t hs env) (hx:bp env x (ak p):=by exact .z):aM P Q c (.cond x s t) hs env:= .cond hx ht hf
variable {a:Prop}
theorem bJ {g:Prop} (x:a) (j:a→g:=by (intro x;first|exact Post.Xh rfl rfl x|exact Post.aN rfl () trivial (fun _ _ _ _=>trivial) (.rt rfl) x|exact Post.aN rfl () trivial (fun _ _ _ h=>h) (.rt rfl) x)):g:=j x
variable {b:Prop}
theorem jr {g:Prop} (x:a) (y:b) (j:a→b→g:=by (intro x y;first|exact Post.aZ rfl rfl () trivial (fun _ _ _ _=>trivial) rfl (.cons (.rt rfl) x (.cons (.rt rfl) y .nil))|exact Post.aZ rfl rfl () trivial (fun _ _ _ h=>h) rfl (.cons (.rt rfl) x (.cons (.rt rfl) y .nil)))):g:=j x y
theorem Rt4 {g d e:Prop} (x:a) (y:b) (z:d) (u:e) (j:a→b→d→e→g:=by (intro x y z u;first|exact Post.aZ rfl rfl () trivial (fun _ _ _ _=>trivial) rfl (.cons (.rt rfl) x (.cons (.rt rfl) y (.cons (.rt rfl) z (.cons (.rt rfl) u .nil))))|exact Post.aZ rfl rfl () trivial (fun _ _ _ h=>h) rfl (.cons (.rt rfl) x (.cons (.rt rfl) y (.cons (.rt rfl) z (.cons (.rt rfl) u .nil)))))):g:=j x y z u
theorem O0 {g d:Prop} (x:a) (y:b) (z:d) (j:a→b→d→g:=by (intro x y z;first|exact Post.aZ rfl rfl () trivial (fun _ _ _ _=>trivial) rfl (.cons (.rt rfl) x (.cons (.rt rfl) y (.cons (.rt rfl) z .nil)))|exact Post.aZ rfl rfl () trivial (fun _ _ _ h=>h) rfl (.cons (.rt rfl) x (.cons (.rt rfl) y (.cons (.rt rfl) z .nil))))):g:=j x y z
end Go.Hl
end
