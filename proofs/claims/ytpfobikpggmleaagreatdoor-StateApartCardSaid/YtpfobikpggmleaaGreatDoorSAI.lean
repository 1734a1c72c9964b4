/-
  What the statement's proof leans on, several texts in one (packed by a program).
-/
import Derived.Test.YtpfobikpggmleaaGreatDoorSAH
import Derived.Defers
import Derived.Recover
set_option linter.all false
set_option maxRecDepth 1000000
set_option maxHeartbeats 4000000
section
namespace Go.Hl
open Go.RowKit
def mH (tf:TypeId) (e:Int):Value:= .iface tf (.agg #[.int .i64 e])
def zj (tf:TypeId) (ch:List PanicEntry):Prop:=∃e:Int,e≠0∧ch=[{v:=mH tf e,recovered:=false}]
variable {γ:Type}
def Wb (c:Ctx) (tf:TypeId) (D:Prop) (φ:γ→Prop) (hs':γ→List HP) (q:γ→VP) (e:Ending) (w':World):Prop:=
 (∃v S' F' g,e= .returned v∧kI ⟨c.w0,c.S0,c.M,0,none,[]⟩ w' S' F'∧φ g∧cS (hs' g) F' S' w'∧(q g).p S' w' v)∨(D∧∃ch S' F',e= .panicked ch∧zj tf ch∧kI ⟨c.w0,c.S0,c.M,0,none,[]⟩ w' S' F')
def yf (P:Program) (tf:TypeId) (f:FuncId) (ps:List VP) (hs:List HP) (D:Prop) (φ:γ→Prop) (hs':γ→List HP) (q:γ→VP):Prop:=
 ∀(w:World) (S F:BS) (vs:Array Value),(∀k,S k→k<w.heap.size)→(∀k,F k→k<w.heap.size)→(∀k,S k→¬F k)→cS hs F S w→gN ps S w vs.toList→
  Calls P f vs w fun e w'=>Wb ⟨w,S,F,0,none,[]⟩ tf D φ hs' q e w'
def Ex (P:Program) (fn:Func) (c:Ctx) (tf:TypeId) (D:Prop) (φ:γ→Prop) (hs':γ→List HP) (q:γ→VP):Exit→Act→World→Prop:=
 bodyPost P fn fun e w'=>Wb c tf D φ hs' q e w'
theorem yf.intro {P:Program} {tf:TypeId} {D:Prop} {f:FuncId} {fn:Func} {x:Code} {ps:List VP} {hs:List HP} {γ:Type} {φ:γ→Prop} {hs':γ→List HP} {q:γ→VP}
    (n:Nat) (hf:P.funcs[f]?=some fn) (hb:fn.body=some x) (hnt:fn.ntmps=n) (hn:Nat.ble ps.length n=true)
    (h:∀(w0:World) (S0 M:BS),aM P (Ex P fn ⟨w0,S0,M,n,none,[]⟩ tf D φ hs' q) ⟨w0,S0,M,n,none,[]⟩ x hs (args ps)):yf P tf f ps hs D φ hs' q:=by
  intro w S F vs hS hF hSF hown hall
  have hlen:ps.length=vs.size:=by simpa using hall.1
  have hn':ps.length≤n:=by simpa using hn
  refine calls_of_wp hf hb (wpIn_wide.1 (h w S F _ _ ⟨rfl, ?_,S,F, ?_,hown, ?_⟩))
  · simp;omega
  · exact ⟨rfl,rfl,rfl,Nat.le_refl _,fun _ _ _=>rfl,hSF,hS,hF,fun k hk=> .inl hk,fun k hk=> .inl hk,fun _ hk=>hk⟩
  · intro t q' hl
    obtain ⟨j,hj,hq⟩:=o8 ps 0 t q' hl
    have vV:t=j:=by omega
    subst vV
    have hjl:t<ps.length:=(List.getElem?_eq_some_iff.1 hq).1
    have Nw:t<vs.size:=by omega
    have:(vs++Array.replicate (fn.ntmps-vs.size) undef).getD t undef=vs[t]:=by simp [Array.getElem?_append,Nw]
    rw [this]
    exact hall.2 t q' _ hq (by simp [Nw])
variable {P:Program} {hs:List HP} {env:Env} {c:Ctx} {fn:Func} {tf:TypeId} {D:Prop} {φ:γ→Prop} {hs':γ→List HP}
theorem bK.kP {q:γ→VP} (h:bK (Post P fn c φ hs' q) .ret c hs env):bK (Ex P fn c tf D φ hs' q) .ret c hs env:=
 fun a w hst=>let ⟨h1,v,h2,h3⟩:=h a w hst;⟨h1,v,h2, .inl h3⟩
theorem bK.rO {q:γ→VP} (h:bK (Post P fn c φ hs' q) .normal c hs env):bK (Ex P fn c tf D φ hs' q) .normal c hs env:=
 fun a w hst=>let ⟨h1,v,h2,h3⟩:=h a w hst;⟨h1,v,h2, .inl h3⟩
class Ey (tf:TypeId) (D:outParam Prop) (Q:Exit→Act→World→Prop) (c:Ctx):Prop where
 Wc:∀{ch:List PanicEntry} {hs:List HP} {env:Env},D→zj tf ch→bK Q (.panic ch) c hs env
instance {P:Program} {fn:Func} {w0:World} {S0 M:BS} {n:Nat} {ro:Option Nat} {tf:TypeId} {D:Prop} {γ:Type} (φ:γ→Prop) (hs':γ→List HP) (q:γ→VP):Ey tf D (Ex P fn ⟨w0,S0,M,n,ro,[]⟩ tf D φ hs' q) ⟨w0,S0,M,n,ro,[]⟩:=
 ⟨fun {ch hs env} hD hc a w hst=>by
  obtain ⟨h1,h2,S,F,h3,h4,h5⟩:=hst
  exact ⟨h1, .inr ⟨hD,ch,S,F,rfl,hc,⟨h3.os,h3.tape,h3.output,h3.size,h3.kept,h3.dG,h3.bO,h3.bZ,h3.own,h3.shr,h3.base⟩⟩⟩⟩
instance {tf:TypeId} {D:Prop} {Q:Exit→Act→World→Prop} {K:Act→World→Prop} {c:Ctx} [h:Ey tf D Q c]:Ey tf D (Exit.then K Q) c:=⟨fun hD hc=>h.Wc hD hc⟩
instance {tf:TypeId} {D:Prop} {Q:Exit→Act→World→Prop} {id:Nat} {c:Ctx} [h:Ey tf D Q c]:Ey tf D (Exit.inBlock id Q) c:=⟨fun hD hc=>h.Wc hD hc⟩
theorem kI.through {w w':World} {S F F1 F2 S' F1':BS} (aF:kI c w S F) (qn:∀k,F1 k→F k∧¬F2 k) (xC:∀k,F2 k→F k) (h2:kI ⟨w,S,F1,0,none,[]⟩ w' S' F1'):
    kI c w' S' (fun k=>F1' k∨F2 k)∧(∀k,S k→w'.heap[k]?=w.heap[k]?)∧(∀k,F2 k→w'.heap[k]?=w.heap[k]?)∧(∀k,F1' k→¬F2 k):=by
  have hSF:∀k,S k→¬F1 k:=fun k hk hf=>aF.dG k hk (qn k hf).1
  have hoS:∀k,S k→w'.heap[k]?=w.heap[k]?:=fun k hk=>h2.kept k (aF.bO k hk) (hSF k hk)
  have ho2F:∀k,F2 k→¬F1 k:=fun k hk hf=>(qn k hf).2 hk
  have hn:∀k,F1' k→¬F2 k:=fun k hk hf=>by
    rcases h2.own k hk with h|h
    · exact (qn k h).2 hf
    · exact Nat.lt_irrefl _ (Nat.lt_of_lt_of_le (aF.bZ k (xC k hf)) h)
  refine ⟨⟨h2.os.trans aF.os,h2.tape.trans aF.tape,h2.output.trans aF.output,Nat.le_trans aF.size h2.size,fun k hk hm=> ?_,fun k hk hf=> ?_,h2.bO,fun k hk=> ?_,fun k hk=> ?_,fun k hk=> ?_,fun k hk=>h2.base k (aF.base k hk)⟩,hoS,fun k hk=>h2.kept k (aF.bZ k (xC k hk)) (ho2F k hk),hn⟩
  · have hnF:¬F1 k:=fun hf=>(aF.own k (qn k hf).1).elim hm (fun h=>by omega)
    exact (h2.kept k (Nat.lt_of_lt_of_le hk aF.size) hnF).trans (aF.kept k hk hm)
  · rcases hf with hf|hf
    · exact h2.dG k hk hf
    · rcases h2.shr k hk with h|h|h
      · exact aF.dG k h (xC k hf)
      · exact (qn k h).2 hf
      · exact Nat.lt_irrefl _ (Nat.lt_of_lt_of_le (aF.bZ k (xC k hf)) h)
  · rcases hk with hk|hk
    · exact h2.bZ k hk
    · exact Nat.lt_of_lt_of_le (aF.bZ k (xC k hk)) h2.size
  · rcases hk with hk|hk
    · rcases h2.own k hk with h|h
      · exact aF.own k (qn k h).1
      · exact .inr (Nat.le_trans aF.size h)
    · exact aF.own k (xC k hk)
  · rcases h2.shr k hk with h|h|h
    · exact aF.shr k h
    · exact .inr ((aF.own k (qn k h).1).imp (fun h=>h) (fun h=>h))
    · exact .inr (.inr (Nat.le_trans aF.size h))
def QF (P:Program) (tf:TypeId) (hs rest:List HP) (env:Env) (o:Oper) (D:Prop) (φ:γ→Prop) (hs':γ→List HP) (q:γ→VP):Prop:=
 ∀(c:Ctx) (a:Act) (w:World) (S F:BS),kI c w S F→cS hs F S w→cL env S w a.tmps→
 ∀(K:Act→World→Prop) (Q:Exit→Act→World→Prop),
  (∀g v w' S' F',φ g→kI c w' S' F'→(∀k,S k→S' k)→(∀k,S k→w'.heap[k]?=w.heap[k]?)→cS (hs' g) F' S' w'→(q g).p S' w' v→K (a.put o.dst v) w')→
  (∀ch w' S' F',D→zj tf ch→kI c w' S' F'→(∀k,S k→S' k)→(∀k,S k→w'.heap[k]?=w.heap[k]?)→cS rest F' S' w'→Q (.panic ch) a w')→o.wp P a w K Q
variable {o:Oper}
theorem QF.jv {rest:List HP} {q:γ→VP} (h:QF P tf hs rest env o D φ hs' q) {a:Act} {w:World} {S F:BS} (h3:kI c w S F) (h4:cS hs F S w) (h5:cL env S w a.tmps) (hcall:∃cl,o.op= .call cl):∀cl,o.op≠ .defer cl:=by
 obtain ⟨cl,e⟩:=hcall
 intro cl' e';rw [e] at e';cases e'
section
variable {P:Program} {tf:TypeId} {ops:Array Oper} {Q:Exit→Act→World→Prop} {c:Ctx} {l:List Oper} {hs:List HP} {env:Env} {ty:TypeId} {pos:String} {after:Array Edge} {dst:Option Tmp}
theorem cc.xd {d:Tmp} {cl:Call} {rest:List HP} {D:Prop} {γ:Type} {φ:γ→Prop} {hs':γ→List HP} {q:γ→VP} (h:QF P tf hs rest env ⟨some d, .call cl,ty,pos,after,none⟩ D φ hs' q) (hd:Nat.blt d c.n=true) (N1:∀ch,D→zj tf ch→bK Q (.panic ch) c rest env)
    (k:∀g,φ g→cc P ops Q c l (hs' g) ((d,q g)::env)):cc P ops Q c (⟨some d, .call cl,ty,pos,after,none⟩::l) hs env:=by
  intro a w hst
  obtain ⟨h1,h2,S,F,h3,h4,h5⟩:=hst
  refine wpListIn_plain rfl fun K hK=>Oper.qV (h.jv h3 h4 h5 ⟨cl,rfl⟩)<|h c a w S F h3 h4 h5 K Q (fun g v w' S' F' hφ aF hsub hag hown hq=>hK _ _ (k g hφ _ _ ⟨?_, ?_,S',F',aF,hown, ?_⟩)) (fun ch w' S' F' hD hc aF hsub hag hown=> ?_)
  · rw [Act.dA];exact h1
  · rw [Act.gw];exact h2
  · exact (h5.mono hsub hag).put hq (by rw [h2];simpa using hd)
  · exact N1 ch hD hc a w' ⟨h1,h2,S',F',aF,hown,h5.mono hsub hag⟩
theorem cc.x {d:Tmp} {cl:Call} {rest:List HP} {D D':Prop} {γ:Type} {φ:γ→Prop} {hs':γ→List HP} {q:γ→VP} (h:QF P tf hs rest env ⟨some d, .call cl,ty,pos,after,none⟩ D' φ hs' q) (hd:Nat.blt d c.n=true) [pq:Ey tf D Q c] (hD:D'→D)
    (k:∀g,φ g→cc P ops Q c l (hs' g) ((d,q g)::env)):cc P ops Q c (⟨some d, .call cl,ty,pos,after,none⟩::l) hs env:=cc.xd h hd (fun ch hd' hc=>pq.Wc (hD hd') hc) k
theorem sN {D:Prop} {f:FuncId} {xs:List Operand} {ats:Array TypeId} {ps:List VP} {hs0 rest:List HP} {γ:Type} {φ:γ→Prop} {hs':γ→List HP} {q:γ→VP} (hf:yf P tf f ps hs0 D φ hs' q) (hb:mR P f=true) (hx:l5 env xs ps) (hp:hs.Perm (hs0++rest)):
    QF P tf hs rest env ⟨dst, .call ⟨.value (.func f),xs.toArray,ats⟩,ty,pos,after,none⟩ D φ (fun g=>hs' g++rest) q:=by
  intro c a w S F aF hown he K Q hk N1
  obtain ⟨F1,F2,qn,xC,TD,SC⟩:=cS.append.1 (hown.perm hp)
  have SD:∀k,F1 k→k<w.heap.size:=fun k hk=>aF.bZ k (qn k hk).1
  have hSF:∀k,S k→¬F1 k:=fun k hk hf=>aF.dG k hk (qn k hf).1
  have key:∀{w':World} {S' F1':BS},kI ⟨w,S,F1,0,none,[]⟩ w' S' F1'→_:=fun h2=>aF.through qn xC h2
  unfold Oper.wp
  rw [uI hb]
  refine (hf w S F1 _ aF.bO SD hSF TD (by simpa using hx S w a he)).mono ?_
  rintro e w' (⟨v,S',F1',g,rfl,h2,hφ,uP,hq⟩|⟨hD,ch,S',F1',rfl,hc,h2⟩)
  · obtain ⟨k1,k2,k3,k4⟩:=key h2
    exact hk g v w' S' _ hφ k1 h2.base k2 (cS.append.2 ⟨F1',F2,fun k hk=>⟨.inl hk,k4 k hk⟩,fun k hk=> .inr hk,uP,SC.mono (fun _ h=>h) h2.base k3 k2⟩) hq
  · obtain ⟨k1,k2,k3,k4⟩:=key h2
    exact N1 ch w' S' _ hD hc k1 h2.base k2 ((cS.append (as:=[])).2 ⟨F1',F2,fun k hk=>⟨.inl hk,k4 k hk⟩,fun k hk=> .inr hk,trivial,SC.mono (fun _ h=>h) h2.base k3 k2⟩)
theorem cc.TH {x:Operand} {e:Int} (hx:bu env x (aa (mH tf e))) (he:e≠0) {D:Prop} [pq:Ey tf D Q c] (hD:D):cc P ops Q c (⟨dst, .panic x,ty,pos,after,none⟩::l) hs env:=by
 intro a w hst
 obtain ⟨h1,h2,S,F,h3,h4,h5⟩:=hst
 have hv:=hx S w a h5;simp only [aa] at hv
 refine wpListIn_plain rfl fun K hK=>Oper.qV (by intro cl e';cases e') ?_
 unfold Oper.wp
 have hr:(execOp a.eval (⟨dst, .panic x,ty,pos,after,none⟩:Oper)).run P w= .halt (.panic (mH tf e)) w:=by
  have h0:(Instr.panic (mH tf e)).run P w= .halt (.panic (mH tf e)) w:=rfl
  simp only [execOp,hv,Sem.run_bind,h0]
  rfl
 rw [hr]
 exact pq.Wc (hs:=[]) (env:=env) hD ⟨e,he,rfl⟩ a w ⟨h1,h2,S,F,h3,trivial,h5⟩
end
def Catch (P:Program) (f:FuncId) (p:Value) (ch:List PanicEntry) (hs:List HP) {δ:Type} (φ':δ→Prop) (hs2:δ→List HP):Prop:=
 ∀(w:World) (S F:BS),(∀k,S k→k<w.heap.size)→(∀k,F k→k<w.heap.size)→(∀k,S k→¬F k)→cS hs F S w→
  CallsD P f #[p] (.panicking ch) w fun e u' w'=>e= .returned (.tuple #[])∧(∃v,u'= .panicking [{v,recovered:=true}])∧∃S' F' g,φ' g∧kI ⟨w,S,F,0,none,[]⟩ w' S' F'∧cS (hs2 g) F' S' w'
def Hw (P:Program) (fn:Func) (c:Ctx) (φ:γ→Prop) (hs':γ→List HP) (q:γ→VP):Exit→Act→World→Prop:=
 bodyPostD P fn fun e w'=>∃v S' F' g,e= .returned v∧kI ⟨c.w0,c.S0,c.M,0,none,[]⟩ w' S' F'∧φ g∧cS (hs' g) F' S' w'∧(q g).p S' w' v
variable {f:FuncId} {ps:List VP}
theorem cw.QG {x:Code} {q:γ→VP}
    (n:Nat) (hf:P.funcs[f]?=some fn) (hb:fn.body=some x) (hnt:fn.ntmps=n) (hn:Nat.ble ps.length n=true)
    (h:∀(w0:World) (S0 M:BS),aM P (Hw P fn ⟨w0,S0,M,n,none,[]⟩ φ hs' q) ⟨w0,S0,M,n,none,[]⟩ x hs (args ps)):cw P f ps hs φ hs' q:=by
  intro w S F vs hS hF hSF hown hall
  have hlen:ps.length=vs.size:=by simpa using hall.1
  have hn':ps.length≤n:=by simpa using hn
  refine calls_of_wp_defers hf hb (wpIn_wide.1 (h w S F _ _ ⟨rfl, ?_,S,F, ?_,hown, ?_⟩))
  · simp;omega
  · exact ⟨rfl,rfl,rfl,Nat.le_refl _,fun _ _ _=>rfl,hSF,hS,hF,fun k hk=> .inl hk,fun k hk=> .inl hk,fun _ hk=>hk⟩
  · intro t q' hl
    obtain ⟨j,hj,hq⟩:=o8 ps 0 t q' hl
    have vV:t=j:=by omega
    subst vV
    have hjl:t<ps.length:=(List.getElem?_eq_some_iff.1 hq).1
    have Nw:t<vs.size:=by omega
    have:(vs++Array.replicate (fn.ntmps-vs.size) undef).getD t undef=vs[t]:=by simp [Array.getElem?_append,Nw]
    rw [this]
    exact hall.2 t q' _ hq (by simp [Nw])
variable {ops:Array Oper} {Q:Exit→Act→World→Prop}
theorem cc.QH {l:List Oper} {p:Value} {x:Operand} {ats:Array TypeId} {ty:TypeId} {pos:String} {after:Array Edge}
    (hro:c.ro=none) (hx:bu env x (aa (.func (.func f) #[] #[p]))) (k:cc P ops Q {c with df:=⟨.fn (.func f) #[p], #[]⟩::c.df} l hs env):
    cc P ops Q c (⟨none, .defer ⟨.value x, #[],ats⟩,ty,pos,after,none⟩::l) hs env:=by
  intro a w hst
  obtain ⟨h1,h2,S,F,h3,h4,h5⟩:=hst
  refine wpListIn_plain rfl fun K hK=>⟨fun _ _=>trivial, ?_⟩
  have hv:=hx S w a h5;simp only [aa] at hv
  have hr:(execOp a.eval (⟨none, .defer ⟨.value x, #[],ats⟩,ty,pos,after,none⟩:Oper)).run P w= .ok (.defer ⟨.fn (.func f) #[p], #[]⟩) w:=by
    simp [execOp,resolve,hv,Deferred.ofValue]
  have hs0:(WF c.ro).round=none:=by rw [hro];rfl
  rw [hs0,Oper.semAt_none,hr,Oper.uponIn_defer]
  refine hK _ _ ?_
  have:=k {a with defers:=⟨.fn (.func f) #[p], #[]⟩::a.defers} w ⟨by simp [h1],h2,S,F,⟨h3.os,h3.tape,h3.output,h3.size,h3.kept,h3.dG,h3.bO,h3.bZ,h3.own,h3.shr,h3.base⟩,h4,h5⟩
  exact this
theorem bK.Wd {c':Ctx} {q:γ→VP} {p:Value}
    (hd:∀w:World,CallsD P f #[p] .returning w fun e u' w'=>e= .returned (.tuple #[])∧u'= .returning∧Below w.heap.size w w') (hc:c'={c with df:=[⟨.fn (.func f) #[p], #[]⟩]})
    (QI:c.df=[]) (hb:mR P f=true) (h:bK (Post P fn c φ hs' q) .ret c hs env):bK (Hw P fn c φ hs' q) .ret c' hs env:=by
  subst hc
  intro a w hst
  obtain ⟨h1,h2,S,F,h3,h4,h5⟩:=hst
  show Leaves P fn a.tmps _ a.defers .returning w
  have h1':a.defers=[⟨.fn (.func f) #[p], #[]⟩]:=h1
  rw [h1']
  refine leaves_cons (f:=f) (args:= #[p]) (by simp) (by have h9:=jw hb #[p] w;simpa [invoke] using h9) ?_
  refine (hd w).mono ?_
  rintro e u' w'' ⟨rfl,rfl,xz⟩
  have g:Grow w w'' S S:=⟨xz.os,xz.tape,xz.output,xz.size,fun k hk=>xz.block k hk,fun _ h=>h,fun _ h=> .inl h⟩
  have h3':kI c w S F:=⟨h3.os,h3.tape,h3.output,h3.size,h3.kept,h3.dG,h3.bO,h3.bZ,h3.own,h3.shr,h3.base⟩
  have:=h {a with defers:=[]} w'' ⟨QI.symm,h2,S,F,h3'.grow g,g.yX h3.bO h3.bZ h4,g.env h3.bO h5⟩
  obtain ⟨_,v,hr,hR⟩:=this
  exact ⟨v,hr,hR⟩
theorem bK.We {c':Ctx} {δ:Type} {q:γ→VP} {p:Value} {ch:List PanicEntry} {φ':δ→Prop} {hs2:δ→List HP}
    (hd:Catch P f p ch hs φ' hs2) (hc:c'={c with df:=[⟨.fn (.func f) #[p], #[]⟩]}) (QI:c.df=[]) (hb:mR P f=true)
    (h:∀g,φ' g→bK (Post P fn c φ hs' q) .ret c (hs2 g) env):bK (Hw P fn c φ hs' q) (.panic ch) c' hs env:=by
  subst hc
  intro a w hst
  obtain ⟨h1,h2,S,F,h3,h4,h5⟩:=hst
  show Leaves P fn a.tmps _ a.defers (.panicking ch) w
  have h1':a.defers=[⟨.fn (.func f) #[p], #[]⟩]:=h1
  rw [h1']
  refine leaves_cons (f:=f) (args:= #[p]) (by simp) (by have h9:=jw hb #[p] w;simpa [invoke] using h9) ?_
  refine (hd w S F h3.bO h3.bZ h3.dG h4).mono ?_
  rintro e u' w'' ⟨rfl,⟨v,rfl⟩,S',F',g,hφ,hs,ho⟩
  have h3':kI c w S F:=⟨h3.os,h3.tape,h3.output,h3.size,h3.kept,h3.dG,h3.bO,h3.bZ,h3.own,h3.shr,h3.base⟩
  obtain ⟨k1,k2,k3,k4⟩:=h3'.through (F2:=fun _=>False) (fun k hk=>⟨hk,id⟩) (fun k hk=>hk.elim) hs
  have:=h g hφ {a with defers:=[]} w'' ⟨QI.symm,h2,S',_,k1,(cS.append (as:=[]).2 ⟨fun _=>False,F',fun k hk=>hk.elim,fun k hk=> .inl hk,trivial,ho⟩),h5.mono hs.base k2⟩
  obtain ⟨_,v,hr,hR⟩:=this
  exact ⟨v,hr,hR⟩
abbrev af2:VP:=aa undef
section
variable {P:Program} {tf:TypeId} {ops:Array Oper} {Q:Exit→Act→World→Prop} {c:Ctx} {l:List Oper} {hs:List HP} {env:Env} {ty:TypeId} {pos:String} {after:Array Edge} {dst:Option Tmp} {gd:Option (Nat×Bool)}
theorem Ez {t j:Nat} {p:Prop} {a:Act} {w:World} {S:BS} (hl:look env t=some (aq p)) (hj:(ops[j]?).bind (·.dst)=some t) (ht:Nat.blt t c.n=true) (h2:a.tmps.size=c.n) (h5:cL env S w a.tmps):∃b,yielded ops a.tmps j=some b∧(b=true↔p):=by
 have ht':t<a.tmps.size:=by rw [h2];simpa using ht
 have h6:a.tmps[t]?=some (a.tmps.getD t undef):=by simp [ht']
 obtain ⟨b,hb,AS⟩:=h5 t _ hl
 exact ⟨b,by unfold yielded;rw [hj];simp only [Option.bind_some,h6,hb],AS⟩
theorem cc.gx {d:Tmp} {cl:Call} {j:Nat} {want:Bool} {t:Tmp} {p:Prop} {rest:List HP} {D D':Prop} {γ:Type} {φ:γ→Prop} {hs':γ→List HP} {q:γ→VP} (hl:look env t=some (aq p)) (hj:(ops[j]?).bind (·.dst)=some t) (ht:Nat.blt t c.n=true) (hw:if want=true then p else ¬p)
    (h:QF P tf hs rest env ⟨some d, .call cl,ty,pos,after,some (j,want)⟩ D' φ hs' q) (hd:Nat.blt d c.n=true) [pq:Ey tf D Q c] (hD:D'→D)
    (k:∀g,φ g→cc P ops Q c l (hs' g) ((d,q g)::env)):cc P ops Q c (⟨some d, .call cl,ty,pos,after,some (j,want)⟩::l) hs env:=by
  intro a w hst
  obtain ⟨h1,h2,S,F,h3,h4,h5⟩:=hst
  refine wpListIn_step fun K hK=> ?_
  obtain ⟨b,hy,hb⟩:=Ez (ops:=ops) hl hj ht h2 h5
  have Ve:b=want:=by
    cases want
    · simp only [Bool.false_eq_true,if_false] at hw
      cases b with
      |false=>rfl
      |true=>exact absurd (hb.1 rfl) hw
    · simp only [if_true] at hw;exact hb.2 hw
  rw [if_pos (by simp [Region.wanted,hy,Ve])]
  refine Oper.qV (h.jv h3 h4 h5 ⟨cl,rfl⟩)<|h c a w S F h3 h4 h5 K Q (fun g v w' S' F' hφ aF hsub hag hown hq=>hK _ _ (k g hφ _ _ ⟨?_, ?_,S',F',aF,hown, ?_⟩)) (fun ch w' S' F' hD' hc aF hsub hag hown=> ?_)
  · rw [Act.dA];exact h1
  · rw [Act.gw];exact h2
  · exact (h5.mono hsub hag).put hq (by rw [h2];simpa using hd)
  · exact pq.Wc (hD hD') hc a w' ⟨h1,h2,S',F',aF,hown,h5.mono hsub hag⟩
theorem cc.N2 {o:Oper} {d:Tmp} {j:Nat} {want:Bool} {t:Tmp} {p:Prop} (hl:look env t=some (aq p)) (tc:o.guard=some (j,want)) (nX:o.dst=some d) (hj:(ops[j]?).bind (·.dst)=some t) (ht:Nat.blt t c.n=true) (hw:if want=true then ¬p else p) (hd:Nat.blt d c.n=true)
    (k:cc P ops Q c l hs ((d,af2)::env)):cc P ops Q c (o::l) hs env:=by
  intro a w hst
  obtain ⟨h1,h2,S,F,h3,h4,h5⟩:=hst
  refine wpListIn_step fun K hK=> ?_
  obtain ⟨b,hy,hb⟩:=Ez (ops:=ops) hl hj ht h2 h5
  have Ve:¬b=want:=by
    cases want
    · simp only [Bool.false_eq_true,if_false] at hw;rw [hb.2 hw];simp
    · simp only [if_true] at hw;intro e;exact hw (hb.1 e)
  rw [if_neg (by simp [Region.wanted,tc,hy,Ve])]
  refine ⟨fun _ _=>trivial,hK _ _ (k _ _ ⟨?_, ?_,S,F,h3,h4, ?_⟩)⟩
  · rw [Act.dA];exact h1
  · rw [Act.gw];exact h2
  · rw [nX];exact h5.put (by simp only [aa]) (by rw [h2];simpa using hd)
theorem CA {x y z:Operand} {p:Prop} {q:VP} (hx:bu env x (aq p)) (hp:p) (hy:bu env y q):bl P hs env ⟨dst, .pick x y z,ty,pos,after,gd⟩ q:=
 bl.aJ fun ρ w S F _ he=>by
  obtain ⟨b,hb,AS⟩:=he.o _ _ hx
  have h2:=he.o _ _ hy
  have:=AS.2 hp;subst this
  exact ⟨_,by simp [execOp,hb,go_sem],h2⟩
theorem JZ {x y z:Operand} {p:Prop} {q:VP} (hx:bu env x (aq p)) (hp:¬p) (hz:bu env z q):bl P hs env ⟨dst, .pick x y z,ty,pos,after,gd⟩ q:=
 bl.aJ fun ρ w S F _ he=>by
  obtain ⟨b,hb,AS⟩:=he.o _ _ hx
  have h2:=he.o _ _ hz
  cases b with
  |true=>exact absurd (AS.1 rfl) hp
  |false=>exact ⟨_,by simp [execOp,hb,go_sem],h2⟩
theorem zk {D:Prop} {f:FuncId} {xs:List Operand} {ats:Array TypeId} {ps:List VP} {hs0 rest:List HP} {γ:Type} {φ:γ→Prop} {hs':γ→List HP} {q:γ→VP} (hf:yf P tf f ps hs0 D φ hs' q) (hb:mR P f=true) (hx:l5 env xs ps) (hp:hs.Perm (hs0++rest)):
    QF P tf hs rest env ⟨dst, .call ⟨.value (.func f),xs.toArray,ats⟩,ty,pos,after,gd⟩ D φ (fun g=>hs' g++rest) q:=
  fun c a w S F aF hown he K Q hk N1=>sN (dst:=dst) (ty:=ty) (pos:=pos) (after:=after) hf hb hx hp c a w S F aF hown he K Q hk N1
theorem N3 {e:Int} {T:TypeId} {x:Operand} {fs:Array Field} (hT:P.underlying T=some (.struct fs)) (hx:bu env x (aC [ag .i64 e])):bl P hs env ⟨dst, .makeInterface T x,ty,pos,after,gd⟩ (aa (mH T e)):=
 bl.aJ fun ρ w S F _ he=>by
  obtain ⟨arr,hv,hn,hc⟩:=he.o _ _ hx
  obtain ⟨u,hu,hq⟩:=hc 0 _ rfl
  simp only [aa] at hq
  subst hq
  have:arr= #[.int .i64 e]:=by
   refine Array.ext (by simpa using hn) fun i h1 h2=> ?_
   have:i=0:=by simp at h2;omega
   subst this
   have h3:arr[0]?=some arr[0]:=by simp at hn;simp [hn]
   rw [h3] at hu
   simpa using hu
  subst this
  exact ⟨mH T e,by simp [execOp,Instr.makeInterface,hv,run_underlying hT,mH],rfl⟩
theorem qp {α:Type} {g:SB} {n i h len:Nat} {k:IntKind} {ii:Int} {enc:α→List VP} {xs:List α} {T E:TypeId} {x y:Operand} (hT:P.underlying T=some (.slice E)) (hn:P.cellsOf E=n) (h0:Nat.blt 0 n=true) (hx:bu env x (aa (bq g len))) (hy:bu env y (ag k ii)) (hii:ii=(h:Int))
    (hi:hs[i]?=some (au g n enc xs)) (hl:len=xs.length) (hh:h≤len):bl P hs env ⟨dst, .slice T x none (some y) none,ty,pos,after,gd⟩ (aa (bq g h)):=
  bl.aJ fun ρ w S F ho he=>by
    have hv:=he.o _ _ hx;have h2:=he.o _ _ hy;simp only [aa,bq] at hv h2
    subst hii
    have hs:=run_sizeOf (T:=E) hn h0 w
    obtain ⟨F1,_,hp⟩:=ho.get hi
    cases g with
    | none=>
      have hp':xs=[]:=hp
      have SA:h=0:=by rw [hp'] at hl;simp at hl;omega
      subst SA
      refine ⟨.slice none 0 0, ?_,rfl⟩
      simp [execOp,hv,h2,Instr.sliceAt,Instr.slice,Instr.sliceBounds,Instr.sliceBound,asIntOf,run_underlying hT,hs]
    | some p=>
      obtain ⟨b,cap⟩:=p
      have hcap:h≤cap:=Nat.le_trans (by omega) hp.2.1
      refine ⟨.slice (some ⟨b,0,none⟩) h cap, ?_,rfl⟩
      simp [execOp,hv,h2,Instr.sliceAt,Instr.slice,Instr.sliceBounds,Instr.sliceBound,asIntOf,run_underlying hT,hs,hcap,Addr.add]
theorem J1 {α:Type} {g:SB} {n i len:Nat} {enc:α→List VP} {xs:List α} {T E:TypeId} {x:Operand} {ats:Array TypeId} (vW:ats[0]?=some T) (hT:P.underlying T=some (.slice E)) (hx:bu env x (aa (bq g len))) (hi:hs[i]?=some (au g n enc xs)) (hl:len=xs.length):
    bl P hs env ⟨dst, .call ⟨.builtin .len, #[x],ats⟩,ty,pos,after,gd⟩ (ag .i64 (len:Int)):=
  bl.aJ fun ρ w S F ho he=>by
    have hv:=he.o _ _ hx;simp only [aa] at hv
    refine ⟨.int .i64 (len:Int), ?_,rfl⟩
    obtain ⟨F1,_,hp⟩:=ho.get hi
    cases g with
    | none=>
      have hp':xs=[]:=hp
      subst hp'
      subst hl
      simp [execOp,resolve,invoke,builtin,Builtin.len_,vW,hv,bq,run_underlying hT,goInt]
    |some p=>simp [execOp,resolve,invoke,builtin,Builtin.len_,vW,hv,bq,run_underlying hT,goInt]
end
variable {α:Type} {n:Nat}
theorem aB.N4 {g:SB} {enc:α→List VP} {xs:List α} (ys:List α) (h:ys<+:xs) {r:List HP}:aB (au g n enc xs::r) (au g n enc ys::r):=fun F S w ⟨F1,F2,f1,f2,hp,hr⟩=>by
 refine ⟨F1,F2,f1,f2, ?_,hr⟩
 obtain ⟨t,rfl⟩:=h
 cases g with
 |none=>exact (List.append_eq_nil_iff.1 (show ys++t=[] from hp)).1
 |some p=>
  obtain ⟨h1,h2,h3,arr,T,h4,h5,h6⟩:=hp
  simp only [List.length_append] at h2 h3
  refine ⟨h1,by omega,by omega,arr,T,h4,h5,fun j q hj=>h6 j q ?_⟩
  rw [List.flatMap_append,List.getElem?_append_left ((List.getElem?_eq_some_iff.1 hj).1)]
  exact hj
theorem EA (B:List α) (x y:α):(B++[x]).set B.length y=B++[y]:=by simp
theorem l7 (B:List α) (x:α):(B++[x])[B.length]?=some x:=by simp
theorem aB.of_eq {a b:List HP} (h:a=b):aB a b:=h▸aB.refl a
theorem aM.yy {s:Code} {g:SB} {enc:α→List VP} {xs:List α} (i:Nat) (hi:hs[i]?=some (au g n enc xs))
    (h:xs.length≤281474976710656→aM P Q c s hs env):aM P Q c s hs env:=by
  intro a w hst
  obtain ⟨h1,h2,S,F,h3,h4,h5⟩:=hst
  obtain ⟨F1,_,hp⟩:=h4.get hi
  refine h ?_ a w ⟨h1,h2,S,F,h3,h4,h5⟩
  cases g with
  |none=>have h9:xs=[]:=hp;rw [h9];simp
  |some p=>exact hp.2.2.1
theorem Post.TI {q:γ→VP} (hr:fn.results= #[]) (g:γ) (hφ:φ g) (hh:∀F S w,cS hs F S w→cS (hs' g) F S w) (hq:q g=bD []) (hdf:c.df=[]:=by rfl):bK (Post P fn c φ hs' q) .ret c hs env:=
 Post.bf (rs:=[]) (qs:=[]) (by rw [hr]) rfl g hφ hh hq .nil hdf
theorem Post.ij {q:γ→VP} (hr:fn.results= #[]) (g:γ) (hφ:φ g) (hh:∀F S w,cS hs F S w→cS (hs' g) F S w) (hq:q g=bD []) (hdf:c.df=[]:=by rfl):bK (Post P fn c φ hs' q) .normal c hs env:=
 fun a w hst=>Post.TI hr g hφ hh hq hdf a w hst
def N5 (P:Program) (T:TypeId) (i:Nat):Option (TypeId×Nat):=match P.underlying T with|some (.struct fs)=>(fs[i]?).map fun f=>(f.type,f.offset)|_=>none
variable {q:VP}
theorem EB {dst:Option Tmp} {ty:TypeId} {pos:String} {after:Array Edge} {gd:Option (Nat×Bool)} {T E:TypeId} {i off:Nat} {x:Operand} {cs:List VP} (hT:N5 P T i=some (E,off)) (hE:lZ P E=some false) (hx:bu env x (aC cs)) (hq:cs[off]?=some q):
    bl P hs env ⟨dst, .field T x i,ty,pos,after,gd⟩ q:=
  bl.aJ fun ρ w S F _ he=>by
    obtain ⟨arr,hv,hn,hc⟩:=he.o _ _ hx
    obtain ⟨u,hu,huq⟩:=hc off q hq
    unfold N5 at hT
    split at hT
    · rename_i fs Ni
      obtain ⟨f,hf,Hq⟩:=Option.map_eq_some_iff.1 hT
      simp only [Prod.mk.injEq] at Hq
      obtain ⟨rfl,rfl⟩:=Hq
      have h1:=eW hE w
      refine ⟨u, ?_,huq⟩
      simp [execOp,Instr.field,run_underlying Ni,hf,hv,asAgg,part,h1,hu]
    · cases hT
class FA (P:Program) (T:TypeId) (b:outParam Bool):Prop where
 out:lZ P T=some b:=by kernel_rfl
class FC (P:Program) (T:TypeId) (n:outParam Nat):Prop where
 out:P.cellsOf T=n:=by kernel_rfl
class FU (P:Program) (T:TypeId) (u:outParam TypeDesc):Prop where
 out:P.underlying T=some u:=by kernel_rfl
class FF (P:Program) (T:TypeId) (f:Nat) (k:outParam Nat):Prop where
 out:yY P T f=some k:=by kernel_rfl
class FZ (P:Program) (T:TypeId) (z:outParam (List Value)):Prop where
 out:jI P T=some z:=by kernel_rfl
class FP (P:Program) (T:TypeId) (l:outParam (List (Nat×Nat))):Prop where
 out:Cq P T=some l:=by kernel_rfl
class FY (P:Program) (T:TypeId) (n:outParam Nat):Prop where
 out:P.bytesOf T=n:=by kernel_rfl
class FB (P:Program) (f:FuncId):Prop where
 out:mR P f=true:=by kernel_rfl
class FR (P:Program) (T:TypeId) (x:outParam (Nat×Nat)):Prop where
 out:Tt P T=some x:=by kernel_rfl
class FM (P:Program):Prop where
 out:P.follows .mixedOrders=true:=by kernel_rfl
def TJ (a b:VP):Prop:=af a b
theorem TJ.id:TJ q q:=af.refl q
theorem TJ.when {c:Prop} (h:c):TJ (ej c q) q:=fun _ _ _ k=>k.1 h
theorem TJ.under {c p:Prop} (h:c):TJ (ej (c∧p) q) (ej p q):=fun _ _ _ k=>⟨fun hp=>k.1 ⟨h,hp⟩,fun hp=>k.2 fun h'=>hp h'.2⟩
theorem bu.via {t:Nat} {a:VP} (hl:look env t=some a) (h:TJ a q):bu env (.tmp t) q:=(bu.t hl).le h
theorem bu.z {x:Operand} (h:bu env x q:=by first
 |((with_reducible apply bu.via);exact rfl;first|with_reducible exact .when (by assumption)|with_reducible exact .when (And.left (by assumption))|with_reducible exact .id|with_reducible exact .under (by assumption)|exact .id|exact .when (by assumption)|exact .when (And.left (by assumption)))
 |with_reducible exact .ct
 |with_reducible exact .cf
 |with_reducible exact .c _
 |exact .c _
 |exact .g _):bu env x q:=h
theorem l5.z {env:Env} {xs:List Operand} {qs:List VP} (h:l5 env xs qs:=by ((repeat (refine l5.cons .z ?_));exact .nil)):l5 env xs qs:=h
theorem lB.one {x:Operand} {k:Nat} {ps:List (Nat×Operand)} {cs:List (Nat×List VP)} {c:List VP} (h:bu env x q) (hp:JQ q c) (t:lB env ps cs):lB env ((k,x)::ps) ((k,c)::cs):= .cons h t
theorem lB.z {env:Env} {ps:List (Nat×Operand)} {cs:List (Nat×List VP)} (h:lB env ps cs:=by ((repeat (apply lB.one;exact .z;exact inferInstance));exact .nil)):lB env ps cs:=h
theorem dL {k:IntKind} {n:Int} (h:fits k n:=by first
 |(with_reducible apply bY)<;>omega
 |(with_reducible apply nt)<;>omega
 |(with_reducible apply Nz)<;>omega
 |(with_reducible apply JM)<;>omega):fits k n:=h
section
variable {P:Program} {hs:List HP} {env:Env} {q:VP} {dst:Option Tmp} {ty T E:TypeId} {pos:String} {after:Array Edge} {gd:Option (Nat×Bool)} {x y:Operand}
theorem TK (hx:bu env x q) (hf:Flat q):bl P hs env ⟨dst, .box T x,ty,pos,after,gd⟩ (cr [q]):=VW hx
theorem TL {α:Type} {n:Nat} {enc:α→List VP} {xs:List α} (hT:P.underlying T=some (.slice E)) (hx:bu env x (ai n enc xs)):
    bl P hs env ⟨dst, .call ⟨.builtin .len, #[x], #[T]⟩,ty,pos,after,gd⟩ (ag .i64 (xs.length:Int)):=JN rfl hT hx
theorem QJ {l:List UInt8} (hT:P.underlying T=some .string) (hx:bu env x (cZ l)):
    bl P hs env ⟨dst, .call ⟨.builtin .len, #[x], #[T]⟩,ty,pos,after,gd⟩ (ag .i64 (l.length:Int)):=Tq rfl hT hx
theorem Hx {α:Type} {g:SB} {n i len:Nat} {enc:α→List VP} {xs:List α} (hT:P.underlying T=some (.slice E)) (hx:bu env x (aa (bq g len))) (hi:hs[i]?=some (au g n enc xs)) (hl:len=xs.length):
    bl P hs env ⟨dst, .call ⟨.builtin .len, #[x], #[T]⟩,ty,pos,after,gd⟩ (ag .i64 (len:Int)):=J1 rfl hT hx hi hl
end
section
variable {P:Program} {hs:List HP} {env:Env} {q:VP} {dst:Option Tmp} {ty T T2:TypeId} {pos:String} {after:Array Edge} {gd:Option (Nat×Bool)} {x y:Operand} {b:BinOp} {f:Builtin} {as:Array Operand} {ats:Array TypeId}
theorem af3 (h:bl P hs env ⟨dst, .load T x,ty,pos,after,gd⟩ q):bl P hs env ⟨dst, .load T x,ty,pos,after,gd⟩ q:=h
theorem Wf (h:bl P hs env ⟨dst, .binOp b T x y T2,ty,pos,after,gd⟩ q):bl P hs env ⟨dst, .binOp b T x y T2,ty,pos,after,gd⟩ q:=h
theorem TM (h:bl P hs env ⟨dst, .call ⟨.builtin f,as,ats⟩,ty,pos,after,gd⟩ q):bl P hs env ⟨dst, .call ⟨.builtin f,as,ats⟩,ty,pos,after,gd⟩ q:=h
end
theorem bl.z {P:Program} {hs:List HP} {env:Env} {o:Oper} {q:VP} (h:bl P hs env o q:=by first
 |(with_reducible apply Cl);exact .z
 |(with_reducible apply bh);exact .z
 |(with_reducible apply af3);first
  |(with_reducible apply mE);exact FA.out;exact .z
  |(with_reducible apply kK);exact FA.out;exact FC.out;rfl;exact .z;rfl
  |(with_reducible apply fB (i:=0));exact FA.out;exact .z;rfl;rfl
  |(with_reducible apply fB (i:=1));exact FA.out;exact .z;rfl;rfl
  |(with_reducible apply fB (i:=2));exact FA.out;exact .z;rfl;rfl
  |(with_reducible apply fB (i:=3));exact FA.out;exact .z;rfl;rfl
  |(with_reducible apply iX (i:=0));exact FA.out;exact FC.out;rfl;exact .z;rfl;rfl
  |(with_reducible apply iX (i:=1));exact FA.out;exact FC.out;rfl;exact .z;rfl;rfl
  |(with_reducible apply iX (i:=2));exact FA.out;exact FC.out;rfl;exact .z;rfl;rfl
  |(with_reducible apply iX (i:=3));exact FA.out;exact FC.out;rfl;exact .z;rfl;rfl
 |(with_reducible apply Qv);exact FF.out;exact .z
 |(with_reducible apply Ed);exact FF.out;exact .z
 |(with_reducible apply NA);exact .z
 |(with_reducible apply KS);exact .z
 |(with_reducible apply Wf);first
  |(with_reducible apply VR);exact .z;exact .z
  |(with_reducible apply VS);exact .z;exact .z
  |(with_reducible apply VM);exact .z;exact .z
  |(with_reducible apply VQ);exact .z;exact .z
  |(with_reducible apply VO);exact .z;exact .z
  |(with_reducible apply VN);exact .z;exact .z
  |(with_reducible apply ep);exact .z;exact .z;exact dL
  |(with_reducible apply jZ);exact .z;exact .z;exact dL
  |(with_reducible apply G3);exact .z;exact .z;exact dL
  |(with_reducible apply G4);exact .z;exact .z
  |(with_reducible apply NF);exact .z;exact .z
  |(with_reducible apply Tn);exact FU.out;exact .z;exact .z
  |(with_reducible apply NB);exact FU.out;exact .z
  |(with_reducible apply NC);exact FU.out;exact .z
  |(with_reducible apply Ea);exact FU.out;exact .z
  |(with_reducible apply Eb);exact FU.out;exact .z
 |(with_reducible apply VU);exact .z;exact .z
 |(with_reducible apply ae0);exact .z;exact .z
 |(with_reducible apply VT);exact .z
 |(with_reducible apply lC);exact .z;rfl
 |(with_reducible apply aL);exact FP.out;exact FZ.out;exact .z;rfl
 |(with_reducible apply ND);exact .z
 |(with_reducible apply TK);exact .z;exact inferInstance
 |(with_reducible apply qd);exact FU.out;exact FU.out;exact .z;exact dL
 |(with_reducible apply G7);exact FU.out;exact FU.out;exact FU.out;exact .z
 |(with_reducible apply TM);first
  |(with_reducible apply TL);exact FU.out;exact .z
  |(with_reducible apply QJ);exact FU.out;exact .z
  |(with_reducible apply Sx);exact .z;exact .z
  |(with_reducible apply Hx (i:=0));exact FU.out;exact .z;rfl;rfl
  |(with_reducible apply Hx (i:=1));exact FU.out;exact .z;rfl;rfl
  |(with_reducible apply Hx (i:=2));exact FU.out;exact .z;rfl;rfl):bl P hs env o q:=h
section
variable {P:Program} {hs:List HP} {env:Env} {q:VP} {dst:Option Tmp} {ty T E:TypeId} {pos:String} {after:Array Edge} {gd:Option (Nat×Bool)} {x y:Operand}
theorem cA {f:FuncId} {xs:List Operand} {ats:Array TypeId} {ps:List VP} [hb:FB P f] (hx:l5 env xs ps:=by exact .z) (h:cW P f ps q):
    bl P hs env ⟨dst, .call ⟨.value (.func f),xs.toArray,ats⟩,ty,pos,after,gd⟩ q:=bQ h hb.out hx
theorem cV {A:Type} {ok:A→Prop} {arg:A→List VP} {res:A→VP} {xs:List Operand} {ats:Array TypeId} (a:A) (hx:bu env x (o9 P ok arg res):=by exact .z) (hxs:l5 env xs (arg a):=by exact .z) (h:ok a:=by trivial):
    bl P hs env ⟨dst, .call ⟨.value x,xs.toArray,ats⟩,ty,pos,after,gd⟩ (res a):=Qw a hx h hxs
theorem cI {α:Type} {n:Nat} {enc:α→List VP} {xs:List α} {k:IntKind} {i:Int} {e:α} [hT:FU P T (.slice E)] [hE:FC P E n] (j:Nat) (hx:bu env x (ai n enc xs):=by exact .z) (hy:bu env y (ag k i):=by exact .z) (h0:Nat.blt 0 n=true:=by rfl) (h:xs[j]?=some e:=by assumption) (hi:i=(j:Int):=by first|rfl|omega):
    bl P hs env ⟨dst, .indexAddr T x y,ty,pos,after,gd⟩ (cr (enc e)):=aO hT.out hE.out h0 hx hy hi h
theorem cB {α:Type} {n len:Nat} (enc:α→List VP) (ys:List α) {ps:List (Nat×Operand)} {pcs:List (Nat×List VP)} {zs:List Value} {cs:List VP} [pn:hU n enc] [hT:FU P T (.slice E)] [hn:FC P E n] [hz:FZ P E zs] (hp:lB env ps pcs:=by exact .z) (h0:Nat.blt 0 n=true:=by rfl)
    (hzl:zs.length=n:=by rfl) (G6:Nat.ble (len*n) 16777216=true:=by rfl) (hf:rG (fun i=>some (i*n,n)) (zeroV zs (len*n)) pcs=some cs:=by rfl) (hcs:cs=ys.flatMap enc:=by rfl) (hl:ys.length=len:=by rfl) (hs2:Nat.ble len 16777216=true:=by rfl):
    bl P hs env ⟨dst, .buildSlice T len ps.toArray,ty,pos,after,gd⟩ (ai n enc ys):=bF ys hT.out hn.out h0 hz.out hzl hp G6 hf hcs hl hs2
end
section
variable {P:Program} {hs:List HP} {env:Env} {dst:Option Tmp} {ty T E tf:TypeId} {pos:String} {after:Array Edge} {gd:Option (Nat×Bool)} {x y:Operand} {D:Prop}
theorem cE {f:FuncId} {xs:List Operand} {ats:Array TypeId} {ps:List VP} {hs0 rest:List HP} {γ:Type} {φ:γ→Prop} {hs':γ→List HP} {q:γ→VP} [hb:FB P f] (hx:l5 env xs ps:=by exact .z) (hp:hs=hs0++rest:=by rfl) (h:cw P f ps hs0 φ hs' q):
    fV P hs env ⟨dst, .call ⟨.value (.func f),xs.toArray,ats⟩,ty,pos,after,gd⟩ φ (fun g=>hs' g++rest) q:=cz h hb.out hx (.of_eq hp)
theorem kZ {f:FuncId} {xs:List Operand} {ats:Array TypeId} {ps:List VP} {hs0:List HP} {γ:Type} {φ:γ→Prop} {hs':γ→List HP} {q:γ→VP} [hb:FB P f] (rest:List HP) (ix:List Nat) (hx:l5 env xs ps:=by exact .z) (h1:ix.filterMap (fun i=>hs[i]?)=hs0++rest:=by rfl) (h2:xG (List.range hs.length) ix=true:=by rfl) (h:cw P f ps hs0 φ hs' q):
    fV P hs env ⟨dst, .call ⟨.value (.func f),xs.toArray,ats⟩,ty,pos,after,gd⟩ φ (fun g=>hs' g++rest) q:=cz h hb.out hx (Perm.idx ix h1 h2)
theorem cX {f:FuncId} {xs:List Operand} {ats:Array TypeId} {ps:List VP} {hs0 rest:List HP} {γ:Type} {φ:γ→Prop} {hs':γ→List HP} {q:γ→VP} [hb:FB P f] (hx:l5 env xs ps:=by exact .z) (hp:hs=hs0++rest:=by rfl) (h:yf P tf f ps hs0 D φ hs' q):
    QF P tf hs rest env ⟨dst, .call ⟨.value (.func f),xs.toArray,ats⟩,ty,pos,after,none⟩ D φ (fun g=>hs' g++rest) q:=sN h hb.out hx (.of_eq hp)
theorem K9 {f:FuncId} {xs:List Operand} {ats:Array TypeId} {ps:List VP} {hs0:List HP} {γ:Type} {φ:γ→Prop} {hs':γ→List HP} {q:γ→VP} [hb:FB P f] (rest:List HP) (ix:List Nat) (hx:l5 env xs ps:=by exact .z) (h1:ix.filterMap (fun i=>hs[i]?)=hs0++rest:=by rfl) (h2:xG (List.range hs.length) ix=true:=by rfl) (h:yf P tf f ps hs0 D φ hs' q):
    QF P tf hs rest env ⟨dst, .call ⟨.value (.func f),xs.toArray,ats⟩,ty,pos,after,none⟩ D φ (fun g=>hs' g++rest) q:=sN h hb.out hx (Perm.idx ix h1 h2)
end
variable {j:Nat} {t:Tmp}
theorem cm.kT {p:Prop} (tc:o.guard=some (j,true)) (hj:(ops[j]?).bind (·.dst)=some t) (ht:Nat.blt t n=true) (hl:look env t=some (aq p)) (h:p→bl P hs env o q):cm P ops n hs env o (ej p q):= .gT hl tc hj ht h
theorem cm.kF {p:Prop} (tc:o.guard=some (j,false)) (hj:(ops[j]?).bind (·.dst)=some t) (ht:Nat.blt t n=true) (hl:look env t=some (aq p)) (h:¬p→bl P hs env o q):cm P ops n hs env o (ej (¬p) q):= .gF hl tc hj ht h
theorem cm.lT {c p:Prop} (tc:o.guard=some (j,true)) (hj:(ops[j]?).bind (·.dst)=some t) (ht:Nat.blt t n=true) (hl:look env t=some (ej c (aq p))) (h:c∧p→bl P hs env o q):cm P ops n hs env o (ej (c∧p) q):= .hT hl tc hj ht h
theorem cm.lF {c p:Prop} (tc:o.guard=some (j,false)) (hj:(ops[j]?).bind (·.dst)=some t) (ht:Nat.blt t n=true) (hl:look env t=some (ej c (aq p))) (h:c∧¬p→bl P hs env o q):cm P ops n hs env o (ej (c∧¬p) q):= .hF hl tc hj ht h
theorem cm.z {P:Program} {ops:Array Oper} {n:Nat} {hs:List HP} {env:Env} {o:Oper} {q:VP} (h:cm P ops n hs env o q:=by first
 |(with_reducible apply cm.kT);rfl;rfl;rfl;rfl;intro hg;exact .z
 |(with_reducible apply cm.kF);rfl;rfl;rfl;rfl;intro hg;exact .z
 |(with_reducible apply cm.lT);rfl;rfl;rfl;rfl;intro hg;exact .z
 |(with_reducible apply cm.lF);rfl;rfl;rfl;rfl;intro hg;exact .z):cm P ops n hs env o q:=h
section
variable {P:Program} {ops:Array Oper} {Q:Exit→Act→World→Prop} {c:Ctx} {l:List Oper} {hs:List HP} {env:Env} {q:VP} {ty T E:TypeId} {pos:String} {after:Array Edge} {x y:Operand}
theorem cc.st1 (i:Nat) {b off:Nat} {cs:List VP} (hn:P.cellsOf T=1) (hx:bu env x (aI b off)) (hy:bu env y q) (hf:Flat q) (hi:hs[i]?=some (az b cs)) (hl:Nat.blt off cs.length=true)
    (k:cc P ops Q c l (hs.set i (az b (cs.set off q))) env):cc P ops Q c (⟨none, .store T x y,ty,pos,after,none⟩::l) hs env:= .s (iY hn hx hy hi hl) k
theorem cc.st2 (i:Nat) {b off n:Nat} {cs new:List VP} (hn:P.cellsOf T=n) (h0:Nat.blt 0 n=true) (hx:bu env x (aI b off)) (hy:bu env y (aC new)) (hfl:bE new) (qX:Nat.beq new.length n=true) (hi:hs[i]?=some (az b cs)) (hl:Nat.ble (off+n) cs.length=true)
    (k:cc P ops Q c l (hs.set i (az b (fO off new cs))) env):cc P ops Q c (⟨none, .store T x y,ty,pos,after,none⟩::l) hs env:= .s (gA hn h0 hx hy qX hi hl) k
end
theorem af.z {a b:VP} (h:af a b:=by first|exact af.refl _|exact af.int (by omega)|exact af.prop (by omega)|exact af.prop (by simp_all)|exact af.prop (by simp;omega)):af a b:=h
variable {as:List α}
theorem SH {a:α} {l:List α} (h:as.take n=l):(a::as).take (n+1)=a::l:=congrArg (List.cons a) h
theorem Wg:as.take 0=[]:=rfl
theorem J2 {a:α} {l:List α} (h:as.drop n=l):(a::as).drop (n+1)=l:=h
theorem SI:as.drop 0=as:=rfl
def l8 (P:Program) (ops:Array Oper) (n:Nat) (hs:List HP) (e0:Env) (i:Nat) (done:gB) (l:List Oper) (K:gB→Prop):Prop:=∃all,nw P ops n hs e0 i done l all∧K all
section
variable {P:Program} {ops:Array Oper} {n:Nat} {hs:List HP} {e0:Env} {K:gB→Prop} {i:Nat} {done:gB} {d:Tmp} {q:VP} {op:Op} {ty:TypeId} {pos:String} {after:Array Edge} {gd:Option (Nat×Bool)} {l:List Oper}
theorem l8.g (h:cm P ops n hs (cM after done++e0) ⟨some d,op,ty,pos,after,gd⟩ q) (k:l8 P ops n hs e0 (i+1) ((i,d,q)::done) l K):l8 P ops n hs e0 i done (⟨some d,op,ty,pos,after,gd⟩::l) K:=
 let ⟨all,k1,k2⟩:=k;⟨all, .cons h k1,k2⟩
theorem l8.cons (h:cm P ops n hs (cM after done++e0) ⟨some d,op,ty,pos,after,gd⟩ q) (k:l8 P ops n hs e0 (i+1) ((i,d,q)::done) l K):l8 P ops n hs e0 i done (⟨some d,op,ty,pos,after,gd⟩::l) K:= .g h k
theorem l8.p (h:bl P hs (cM after done++e0) ⟨some d,op,ty,pos,after,none⟩ q) (k:l8 P ops n hs e0 (i+1) ((i,d,q)::done) l K):l8 P ops n hs e0 i done (⟨some d,op,ty,pos,after,none⟩::l) K:=
 let ⟨all,k1,k2⟩:=k;⟨all, .p h k1,k2⟩
theorem l8.nil (k:K done):l8 P ops n hs e0 i done [] K:=⟨_, .nil,k⟩
theorem aM.bx {Q:Exit→Act→World→Prop} {c:Ctx} {l l1 l2:List Oper} {id:Nat} {env:Env} (m g:Nat) (hm:P.follows .mixedOrders=true) (hB:Ej l.toArray m g c.n=true) (h1:l.take m=l1:=by ((repeat (first|with_reducible apply SH|apply SH));exact Wg)) (h2:l.drop m=l2:=by ((repeat (first|with_reducible apply J2|apply J2));exact SI))
    (k:l8 P l.toArray c.n hs (strip (dstsOf l1) env) 0 [] l1 (fun all=>cc P l.toArray Q c l2 hs (fP all++env))):aM P Q c (.region id l.toArray true) hs env:=
  let ⟨all,k1,k2⟩:=k; .draw m g hm hB (h1▸k1) (h2▸k2)
theorem aM.bP {Q:Exit→Act→World→Prop} {c:Ctx} {l l2:List Oper} {id:Nat} {env:Env} (plan:List (Nat×Nat)) (m g:Nat) (hm:P.follows .mixedOrders=true) (hB:mU l.toArray plan m g c.n=true) (h2:l.drop m=l2:=by ((repeat (first|with_reducible apply J2|apply J2));exact SI))
    (k:dh P l c.n (strip (dstsOf (l.take m)) env) (fun done hs=>cc P l.toArray Q c l2 hs (fP done++env)) plan [] hs):aM P Q c (.region id l.toArray true) hs env:= .TC plan m g hm hB (h2▸k)
end
variable {h':Prop}
theorem ew {g:Prop} (k:h') (j:h'→g:=by first
 |(with_reducible apply cc.p);exact .z;rfl
 |(with_reducible exact cc.nil)
 |(with_reducible apply cc.g);exact .z;rfl;rfl
 |(with_reducible exact aM.seq)
 |(with_reducible exact aM.region)
 |(with_reducible exact fun k=>bK.D9 k)
 |(with_reducible exact aM.block)
 |(with_reducible exact bK.ad3)
 |(with_reducible exact aM.skip)
 |(with_reducible exact aM.ret)
 |(with_reducible exact aM.exit)
 |(with_reducible exact bK.VI)
 |(with_reducible exact bK.ad4)
 |(with_reducible exact bK.VJ)
 |(with_reducible exact bK.ad5)
 |(with_reducible apply bK.ad6);rfl
 |(with_reducible apply cc.st1 0);exact FC.out;exact .z;exact .z;exact inferInstance;rfl;rfl
 |(with_reducible apply cc.st1 1);exact FC.out;exact .z;exact .z;exact inferInstance;rfl;rfl
 |(with_reducible apply cc.st1 2);exact FC.out;exact .z;exact .z;exact inferInstance;rfl;rfl
 |(with_reducible apply cc.st2 0);exact FC.out;rfl;exact .z;exact .z;exact inferInstance;rfl;rfl;rfl
 |(with_reducible apply cc.st2 1);exact FC.out;rfl;exact .z;exact .z;exact inferInstance;rfl;rfl;rfl
 |(with_reducible apply cc.st2 2);exact FC.out;rfl;exact .z;exact .z;exact inferInstance;rfl;rfl;rfl
 |(with_reducible apply dh.p);rfl;intro _;exact .z
 |(with_reducible apply dh.o);rfl;exact .z
 |(with_reducible apply dh.g);rfl;intro _;exact .z
 |(with_reducible apply dU.p);rfl;intro _;exact .z
 |(with_reducible apply dU.g);rfl;intro _;exact .z
 |(with_reducible apply l8.p);exact .z
 |(with_reducible apply l8.g);exact .z
 |(with_reducible exact l8.nil)
 |(apply l8.p);exact .z
 |(apply l8.g);exact .z
 |(apply cc.p);exact .z;rfl
 |(exact cc.nil)):g:=j k
structure jc (p:Prop):Prop where
 out:p
theorem Z1 {g:Prop} (k:h') (j:jc h'→g:=by (intro k;(iterate 1 refine ew ?_);exact k.out)):g:=j ⟨k⟩
theorem Z2 {g:Prop} (k:h') (j:jc h'→g:=by (intro k;(iterate 2 refine ew ?_);exact k.out)):g:=j ⟨k⟩
theorem Z3 {g:Prop} (k:h') (j:jc h'→g:=by (intro k;(iterate 3 refine ew ?_);exact k.out)):g:=j ⟨k⟩
theorem Z4 {g:Prop} (k:h') (j:jc h'→g:=by (intro k;(iterate 4 refine ew ?_);exact k.out)):g:=j ⟨k⟩
theorem Z5 {g:Prop} (k:h') (j:jc h'→g:=by (intro k;(iterate 5 refine ew ?_);exact k.out)):g:=j ⟨k⟩
theorem Z6 {g:Prop} (k:h') (j:jc h'→g:=by (intro k;(iterate 6 refine ew ?_);exact k.out)):g:=j ⟨k⟩
theorem Z7 {g:Prop} (k:h') (j:jc h'→g:=by (intro k;(iterate 7 refine ew ?_);exact k.out)):g:=j ⟨k⟩
theorem Z8 {g:Prop} (k:h') (j:jc h'→g:=by (intro k;(iterate 8 refine ew ?_);exact k.out)):g:=j ⟨k⟩
theorem Z9 {g:Prop} (k:h') (j:jc h'→g:=by (intro k;(iterate 9 refine ew ?_);exact k.out)):g:=j ⟨k⟩
theorem cK {g:Prop} (k:h') (j:jc h'→g:=by (intro k;(iterate 10 refine ew ?_);exact k.out)):g:=j ⟨k⟩
theorem cT {g:Prop} (k:h') (j:jc h'→g:=by (intro k;(iterate 11 refine ew ?_);exact k.out)):g:=j ⟨k⟩
theorem dM {g:Prop} (k:h') (j:jc h'→g:=by (intro k;(iterate 12 refine ew ?_);exact k.out)):g:=j ⟨k⟩
theorem lg {g:Prop} (k:h') (j:jc h'→g:=by (intro k;(iterate 13 refine ew ?_);exact k.out)):g:=j ⟨k⟩
theorem iW {g:Prop} (k:h') (j:jc h'→g:=by (intro k;(iterate 14 refine ew ?_);exact k.out)):g:=j ⟨k⟩
theorem nZ {g:Prop} (k:h') (j:jc h'→g:=by (intro k;(iterate 15 refine ew ?_);exact k.out)):g:=j ⟨k⟩
theorem D0 {g:Prop} (k:h') (j:jc h'→g:=by (intro k;(iterate 16 refine ew ?_);exact k.out)):g:=j ⟨k⟩
theorem Hy {g:Prop} (k:h') (j:jc h'→g:=by (intro k;(iterate 17 refine ew ?_);exact k.out)):g:=j ⟨k⟩
theorem AU {g:Prop} (k:h') (j:jc h'→g:=by (intro k;(iterate 18 refine ew ?_);exact k.out)):g:=j ⟨k⟩
theorem EC {g:Prop} (k:h') (j:jc h'→g:=by (intro k;(iterate 19 refine ew ?_);exact k.out)):g:=j ⟨k⟩
theorem La {g:Prop} (k:h') (j:jc h'→g:=by (intro k;(iterate 20 refine ew ?_);exact k.out)):g:=j ⟨k⟩
theorem Vf {g:Prop} (k:h') (j:jc h'→g:=by (intro k;(iterate 21 refine ew ?_);exact k.out)):g:=j ⟨k⟩
theorem Z22 {g:Prop} (k:h') (j:jc h'→g:=by (intro k;(iterate 22 refine ew ?_);exact k.out)):g:=j ⟨k⟩
theorem Z23 {g:Prop} (k:h') (j:jc h'→g:=by (intro k;(iterate 23 refine ew ?_);exact k.out)):g:=j ⟨k⟩
theorem Z24 {g:Prop} (k:h') (j:jc h'→g:=by (intro k;(iterate 24 refine ew ?_);exact k.out)):g:=j ⟨k⟩
theorem Vg {g:Prop} (k:h') (j:jc h'→g:=by (intro k;(iterate 25 refine ew ?_);exact k.out)):g:=j ⟨k⟩
theorem Z26 {g:Prop} (k:h') (j:jc h'→g:=by (intro k;(iterate 26 refine ew ?_);exact k.out)):g:=j ⟨k⟩
theorem Wh {g:Prop} (k:h') (j:jc h'→g:=by (intro k;(iterate 27 refine ew ?_);exact k.out)):g:=j ⟨k⟩
theorem Z29 {g:Prop} (k:h') (j:jc h'→g:=by (intro k;(iterate 29 refine ew ?_);exact k.out)):g:=j ⟨k⟩
theorem Z30 {g:Prop} (k:h') (j:jc h'→g:=by (intro k;(iterate 30 refine ew ?_);exact k.out)):g:=j ⟨k⟩
theorem Z32 {g:Prop} (k:h') (j:jc h'→g:=by (intro k;(iterate 32 refine ew ?_);exact k.out)):g:=j ⟨k⟩
theorem Z33 {g:Prop} (k:h') (j:jc h'→g:=by (intro k;(iterate 33 refine ew ?_);exact k.out)):g:=j ⟨k⟩
theorem Z34 {g:Prop} (k:h') (j:jc h'→g:=by (intro k;(iterate 34 refine ew ?_);exact k.out)):g:=j ⟨k⟩
theorem Bw {g:Prop} (k:h') (j:jc h'→g:=by (intro k;(iterate 35 refine ew ?_);exact k.out)):g:=j ⟨k⟩
theorem Z39 {g:Prop} (k:h') (j:jc h'→g:=by (intro k;(iterate 39 refine ew ?_);exact k.out)):g:=j ⟨k⟩
theorem Z40 {g:Prop} (k:h') (j:jc h'→g:=by (intro k;(iterate 40 refine ew ?_);exact k.out)):g:=j ⟨k⟩
theorem In {x:Code} {q:γ→VP} (n:Nat)
    (hf:P.funcs[f]?=some fn) (h:∀(w0:World) (S0 M:BS),aM P (Post P fn ⟨w0,S0,M,n,none,[]⟩ φ hs' q) ⟨w0,S0,M,n,none,[]⟩ x hs (args ps)) (hb:fn.body=some x:=by rfl) (hnt:fn.ntmps=n:=by rfl) (hn:Nat.ble ps.length n=true:=by rfl):cw P f ps hs φ hs' q:= .intro n hf hb hnt hn h
theorem D1 {x:Code} {q:γ→VP} (n:Nat)
    (hf:P.funcs[f]?=some fn) (h:∀(w0:World) (S0 M:BS),aM P (Ex P fn ⟨w0,S0,M,n,none,[]⟩ tf D φ hs' q) ⟨w0,S0,M,n,none,[]⟩ x hs (args ps)) (hb:fn.body=some x:=by rfl) (hnt:fn.ntmps=n:=by rfl) (hn:Nat.ble ps.length n=true:=by rfl):yf P tf f ps hs D φ hs' q:= .intro n hf hb hnt hn h
theorem Cd {x:Operand} {p:Prop} {s t:Code} (ht:p→aM P Q c s hs env) (hf:¬p→aM P Q c t hs env) (hx:bu env x (aq p):=by exact .z):aM P Q c (.cond x s t) hs env:= .cond hx ht hf
variable {a:Prop}
theorem bL {g:Prop} (x:a) (j:a→g:=by (intro x;first|exact Post.ad9 rfl rfl x|exact Post.aP rfl () trivial (fun _ _ _ _=>trivial) (.rt rfl) x|exact Post.aP rfl () trivial (fun _ _ _ h=>h) (.rt rfl) x)):g:=j x
variable {b:Prop}
theorem j9 {g:Prop} (x:a) (y:b) (j:a→b→g:=by (intro x y;first|exact Post.bf rfl rfl () trivial (fun _ _ _ _=>trivial) rfl (.cons (.rt rfl) x (.cons (.rt rfl) y .nil))|exact Post.bf rfl rfl () trivial (fun _ _ _ h=>h) rfl (.cons (.rt rfl) x (.cons (.rt rfl) y .nil)))):g:=j x y
theorem Rt4 {g d e:Prop} (x:a) (y:b) (z:d) (u:e) (j:a→b→d→e→g:=by (intro x y z u;first|exact Post.bf rfl rfl () trivial (fun _ _ _ _=>trivial) rfl (.cons (.rt rfl) x (.cons (.rt rfl) y (.cons (.rt rfl) z (.cons (.rt rfl) u .nil))))|exact Post.bf rfl rfl () trivial (fun _ _ _ h=>h) rfl (.cons (.rt rfl) x (.cons (.rt rfl) y (.cons (.rt rfl) z (.cons (.rt rfl) u .nil)))))):g:=j x y z u
theorem Qe {g d:Prop} (x:a) (y:b) (z:d) (j:a→b→d→g:=by (intro x y z;first|exact Post.bf rfl rfl () trivial (fun _ _ _ _=>trivial) rfl (.cons (.rt rfl) x (.cons (.rt rfl) y (.cons (.rt rfl) z .nil)))|exact Post.bf rfl rfl () trivial (fun _ _ _ h=>h) rfl (.cons (.rt rfl) x (.cons (.rt rfl) y (.cons (.rt rfl) z .nil))))):g:=j x y z
end Go.Hl
end
