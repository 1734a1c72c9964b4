/-
  What the statement's proof leans on, several texts in one (packed by a program).
-/
import Derived.Test.YtpfobikpggmleaaGreatDoorSBF
import Derived.Laws.LoneSync
set_option linter.all false
set_option maxRecDepth 1000000
set_option maxHeartbeats 4000000
section
namespace Go.Hl
open Go.RowKit
def kJ(l:List HP):HP:=⟨fun F S w=>de l F S w,fun h1 h2 h3 h4 h=>de.mono h1 h2 h3 h4 h⟩
variable {α:Type}
def VZ(f:α→HP):HP:=⟨fun F S w=>∃a,(f a).p F S w,fun h1 h2 h3 h4 ⟨a,h⟩=>⟨a,(f a).mono h1 h2 h3 h4 h⟩⟩
def me(p:Prop):HP:=⟨fun _ _ _=>p,fun _ _ _ _ h=>h⟩
theorem aB.refl(hs:List HP):aB hs hs:=fun _ _ _ h=>h
variable {b:List HP}
theorem aB.trans{a c:List HP}(h:aB a b)(k:aB b c):aB a c:=fun F S w x=>k F S w (h F S w x)
theorem aB.perm{a b:List HP}(h:a.Perm b):aB a b:=fun _ _ _ x=>x.perm h
theorem aB.cons(h0:HP){a:List HP}(h:aB a b):aB (h0::a) (h0::b):=fun F S w ⟨F1,F2,h1,h2,h3,h4⟩=>⟨F1,F2,h1,h2,h3,h _ _ _ h4⟩
theorem aB.drop{h0:HP}{a:List HP}(h:aB a b):aB (h0::a) b:=fun F S w ⟨F1,F2,h1,h2,h3,h4⟩=>(h _ _ _ h4).mono h2 (fun _ h=>h) (fun _ _=>rfl) (fun _ _=>rfl)
theorem aB.nil(a:List HP):aB a []:=fun _ _ _ _=>trivial
variable {r:List HP}
theorem aB.pack{l:List HP}:aB (l++r) (kJ l::r):=fun F S w h=>by
 obtain⟨F1,F2,h1,h2,h3,h4⟩:=de.append.1 h;exact⟨F1,F2,h1,h2,h3,h4⟩
theorem aB.unpack{l:List HP}:aB (kJ l::r) (l++r):=fun F S w ⟨F1,F2,h1,h2,h3,h4⟩=>de.append.2 ⟨F1,F2,h1,h2,h3,h4⟩
theorem aB.ex{f:α→HP}(a:α):aB (f a::r) (VZ f::r):=fun F S w ⟨F1,F2,h1,h2,h3,h4⟩=>⟨F1,F2,h1,h2,⟨a,h3⟩,h4⟩
theorem aB.pure{p:Prop}(h:p):aB r (me p::r):=fun F S w x=>⟨fun _=>False,F,fun _ h=>h.elim,fun _ h=>h,h,x⟩
def xI:List Nat→List Nat→Bool
 |[],l=>l.isEmpty
 |i::ix,l=>l.contains i && xI ix (l.erase i)
theorem zh:∀{a b:List Nat},xI a b=true→a.Perm b
 |[],b,h=>by simp[xI] at h;subst h;exact .refl _
 |i::ix,b,h=>by
  simp only[xI,Bool.and_eq_true,List.contains_iff_mem] at h;exact((zh h.2).cons i).trans (List.perm_cons_erase h.1).symm
theorem Perm.idx{hs hs':List α}(ix:List Nat)(h1:ix.filterMap (fun i=>hs[i]?)=hs')(h2:xI (List.range hs.length) ix=true):hs.Perm hs':=by
 have e:(List.range hs.length).filterMap (fun i=>hs[i]?)=hs:=by
  have:∀(l:List α) (k:Nat) (pre:List α),pre.length=k→(List.range' k l.length).filterMap (fun i=>(pre++l)[i]?)=l:=by
   intro l
   induction l with
   |nil=>intro k pre _;rfl
   |cons a l ih=>
    intro k pre hp;rw[List.length_cons,List.range'_succ,List.filterMap_cons];have:(pre++a::l)[k]?=some a:=by rw[List.getElem?_append_right (by omega)];simp[hp]
    rw[this];have h3:=ih (k+1) (pre++[a]) (by simp[hp]);simp only[List.append_assoc,List.singleton_append] at h3;rw[h3]
  have h4:=this hs 0 [] rfl;rw[List.range_eq_range'];simpa using h4
 rw[←h1]
 conv=>lhs;rw[←e]
 exact(zh h2).filterMap _
theorem aB.left{a:List HP}:aB (a++b) a:=fun F S w h=>by
 obtain⟨F1,F2,h1,h2,h3,h4⟩:=de.append.1 h;exact h3.mono (fun k hk=>(h1 k hk).1) (fun _ h=>h) (fun _ _=>rfl) (fun _ _=>rfl)
theorem aB.dF{hs hs':List HP}(ix rest:List Nat)(h1:ix.filterMap (fun i=>hs[i]?)=hs')(h2:xI (List.range hs.length) (ix++rest)=true):aB hs hs':=by
 have h:=Perm.idx (hs:=hs) (ix++rest) rfl h2;rw[List.filterMap_append,h1] at h;exact(aB.perm h).trans aB.left
section
variable {P:Program} {hs:List HP} {env:Env} {q:VP} {dst:Option Tmp} {ty T T' E K V:TypeId} {pos:String} {after:Array Edge} {gd:Option (Nat×Bool)} {x y z:Operand}
theorem aM.own{Q:Exit→Act→World→Prop}{c:Ctx}{s:Code}{hs':List HP}(h:aB hs hs')(k:aM P Q c s hs' env):aM P Q c s hs env:=fun a w ⟨h1,h2,S,F,h3,h4,h5⟩=>k a w ⟨h1,h2,S,F,h3,h _ _ _ h4,h5⟩
theorem bN.own{Q:Exit→Act→World→Prop}{c:Ctx}{e:Exit}{hs':List HP}(h:aB hs hs')(k:bN Q e c hs' env):bN Q e c hs env:=fun a w ⟨h1,h2,S,F,h3,h4,h5⟩=>k a w ⟨h1,h2,S,F,h3,h _ _ _ h4,h5⟩
theorem aM.opens{Q:Exit→Act→World→Prop}{c:Ctx}{s:Code}{α:Type}{f:α→HP}{r:List HP}(k:∀a,aM P Q c s (f a::r) env):aM P Q c s (VZ f::r) env:=fun a w ⟨h1,h2,S,F,h3,⟨F1,F2,f1,f2,⟨b,f3⟩,f4⟩,h5⟩=>k b a w ⟨h1,h2,S,F,h3,⟨F1,F2,f1,f2,f3,f4⟩,h5⟩
theorem aM.me{Q:Exit→Act→World→Prop}{c:Ctx}{s:Code}{p:Prop}{r:List HP}(k:p→aM P Q c s r env):aM P Q c s (me p::r) env:=fun a w ⟨h1,h2,S,F,h3,⟨F1,F2,f1,f2,f3,f4⟩,h5⟩=>k f3 a w ⟨h1,h2,S,F,h3,f4.mono f2 (fun _ h=>h) (fun _ _=>rfl) (fun _ _=>rfl),h5⟩
def zi(P:Program)(T:TypeId):Option Value:=(P.info? T).bind fun i=>i.zero
theorem lN{v:Value}(h:zi P T=some v)(w:World):(zeroValue T).run P w= .ok v w:=by
 unfold zi at h;cases hi:P.info? T with
 |none=>simp[hi] at h
 |some i=>
  simp only[hi,Option.bind_some] at h;simp[zeroValue,typeInfo,hi,h]
theorem tX{b cap len:Nat}{ats:Array TypeId}(wj:ats[0]?=some T)(hT:P.underlying T=some (.slice E))(hx:bx env x (aa (bt (some (b,cap)) len))):bp P hs env ⟨dst, .call ⟨.builtin .len, #[x],ats⟩,ty,pos,after,gd⟩ (ag .i64 (len:Int)):=
 bp.aL fun ρ w S F _ he=>by
  have hv:=he.o _ _ hx;simp only[aa,bt] at hv
  exact⟨.int .i64 (len:Int),by simp[execOp,resolve,invoke,builtin,Builtin.len_,wj,hv,run_underlying hT,goInt],rfl⟩
theorem jf{a:bD}{k0 k1:IntKind}:af (aC [ag k0 a.1,ag k1 a.2]) (aa (NR k0 k1 a)):=fun S w v ⟨arr,hv,hn,hc⟩=>by
 obtain⟨u0,h0,e0⟩:=hc 0 _ rfl;obtain⟨u1,h1,e1⟩:=hc 1 _ rfl;simp only[aa] at e0 e1 ⊢;subst hv;subst e0;subst e1
 unfold NR
 congr 1
 apply Array.ext
 · simpa using hn
 · intro i h2 h3
   simp only[List.length_cons,List.length_nil] at hn
   match i,h2 with
   |0,_=>exact(Array.getElem?_eq_some_iff.1 h0).2
   |1,_=>exact(Array.getElem?_eq_some_iff.1 h1).2
   |i+2,h=>omega
theorem aX{b cap len n:Nat}{k:IntKind}{i:Int}(j:Nat)(hT:P.underlying T=some (.slice E))(hn:P.cellsOf E=n)(h0:Nat.blt 0 n=true)(hx:bx env x (aa (bt (some (b,cap)) len)))(hy:bx env y (ag k i))(hi:i=(j:Int))(hj:j<len):
    bp P hs env ⟨dst, .indexAddr T x y,ty,pos,after,gd⟩ (aD b (j*n)):=
  bp.aL fun ρ w S F _ he=>by
    have hv:=he.o _ _ hx;simp only[aa,bt] at hv
    have h2:=he.o _ _ hy;simp only[aa] at h2
    subst hi;have hs:=run_sizeOf (T:=E) hn h0 w
    have oS:Addr.add ⟨b,0,none⟩ (j*n)=⟨b,j*n,none⟩:=by
      unfold Addr.add
      split<;>simp
    exact⟨_,by simp[execOp,hv,h2,Instr.indexAt,asIntOf,run_underlying hT,Instr.sureAddr,hs,oS,hj],rfl⟩
theorem xJ{α:Type}{b cap n j r:Nat}{enc:α→List VP}[he:gZ n enc]{xs:List α}{e:α}{F S:BS}{w:World}(h:(av (some (b,cap)) n enc xs).p F S w)(hj:xs[j]?=some e)(hc:(enc e)[r]?=some q):∃u,w.cell? ⟨b,j*n+r,none⟩=some u∧q.p S w u:=by
 obtain⟨_,_,_,arr,T,hh,_,Uh⟩:=h;obtain⟨u,hu,hq⟩:=Uh _ _ (nw he.len xs j e r q hj hc);exact⟨u,by simp[World.cell?,hh,hu],hq⟩
theorem fL{α:Type}{b cap n j r i:Nat}{enc:α→List VP}{xs:List α}{e:α}[he:gZ n enc](hT:kI P T=some false)(hx:bx env x (aD b (j*n+r)))(hi:hs[i]?=some (av (some (b,cap)) n enc xs))(hj:xs[j]?=some e)(hc:(enc e)[r]?=some q):bp P hs env ⟨dst, .load T x,ty,pos,after,gd⟩ q:=
 bp.aL fun ρ w S F ho qe=>by
  have hv:=qe.o _ _ hx;simp only[aa] at hv
  obtain⟨F1,_,hp⟩:=ho.get hi;obtain⟨v,o9,hq⟩:=xJ hp hj hc;refine⟨v,?_,hq⟩
  have h1:(loadVar T ⟨b,j*n+r,none⟩).run P w= .ok v w:=by
   unfold loadVar;rw[bu (eN hT w)];simp[o9]
  simp[execOp,hv,Instr.loadAt,Instr.sureAddr,h1]
theorem kP{α:Type}{b cap n j r i m:Nat}{enc:α→List VP}{xs:List α}{e:α}[he:gZ n enc](hT:kI P T=some true)(hn:P.cellsOf T=m)(h0:Nat.blt 0 m=true)(hx:bx env x (aD b (j*n+r)))(hi:hs[i]?=some (av (some (b,cap)) n enc xs))(hj:xs[j]?=some e)(hl:Nat.ble (r+m) (enc e).length=true):
    bp P hs env ⟨dst, .load T x,ty,pos,after,gd⟩ (aC (((enc e).drop r).take m)):=
  bp.aL fun ρ w S F ho qe=>by
    have hv:=qe.o _ _ hx;simp only[aa] at hv
    obtain⟨F1,_,hp⟩:=ho.get hi;have hl':r+m≤(enc e).length:=by simpa using hl
    have hc:ck S w b (j*n+r) ((enc e).drop r):=fun t q hq=>by
      rw[List.getElem?_drop] at hq;obtain⟨u,hu,Rb⟩:=xJ hp hj hq;exact⟨u,by rw[Nat.add_assoc];exact hu,Rb⟩
    obtain⟨v,hr,hq⟩:=oq hT hn h0 (cs:=((enc e).drop r).take m) (by simp;omega) (hc.take m);exact⟨v,by simp[execOp,hv,Instr.loadAt,Instr.sureAddr,hr],hq⟩
theorem zj{α:Type}{b cap n j r:Nat}{enc:α→List VP}[he:gZ n enc]{xs:List α}{e e':α}{new:List VP}{vs:List Value}{F S:BS}{w w':World}(h:(av (some (b,cap)) n enc xs).p F S w)(hj:xs[j]?=some e)(hl:r+new.length≤(enc e).length)(hE:enc e'=fS r new (enc e))(h0:0<n)
    (hag:∀k,S k→w'.heap[k]?=w.heap[k]?) (hvl:vs.length=new.length) (hnew:∀(t:Nat) (q:VP),new[t]?=some q→∃u,vs[t]?=some u∧q.p S w u)
    (hw:∀arr T,w.heap[b]?=some (.cells arr T (0,0))→j*n+r+vs.length≤arr.size→∃arr',w'.heap[b]?=some (.cells arr' T (0,0))∧arr'.size=arr.size∧(∀t,(t<j*n+r∨j*n+r+vs.length≤t)→arr'[t]?=arr[t]?)∧∀t v,vs[t]?=some v→arr'[j*n+r+t]?=some v):
    (av (some (b,cap)) n enc (xs.set j e')).p F S w':=by
  obtain⟨hF,hlc,hm,arr,T,hh,hsz,hc⟩:=h;have hel:(enc e).length=n:=he.len e;have hjl:j<xs.length:=(List.getElem?_eq_some_iff.1 hj).1
  have hjn:j*n+n≤cap*n:=by
    have:(j+1)*n≤cap*n:=Nat.mul_le_mul_right _ (by omega);rw[Nat.add_mul,Nat.one_mul] at this;exact this
  obtain⟨arr',h1,h2,h3,h4⟩:=hw arr T hh (by rw[hsz,hvl];omega);refine⟨hF,by simpa using hlc,by simpa using hm,arr',T,h1,by rw[h2,hsz],fun t q hq=>?_⟩;obtain⟨y,hy,V0⟩:=rH he.len h0 _ t q hq;have YW:t=(t/n)*n+t%n:=by rw[Nat.mul_comm];exact(Nat.div_add_mod t n).symm
  have hmod:t%n<n:=Nat.mod_lt _ h0;rw[List.getElem?_set] at hy;by_cases wh:j=t/n
  · rw[if_pos wh,if_pos (by omega)] at hy
    cases hy;rw[hE,ou r new (enc e) _ hl] at V0;by_cases hin:r≤t%n∧t%n<r+new.length
    · rw[if_pos hin] at V0
      obtain⟨u,hu,Rb⟩:=hnew _ _ V0;have h5:=h4 _ u hu;have h6:j*n+r+(t%n-r)=t:=by rw[wh];omega
      rw[h6] at h5;exact⟨u,h5,q.mono (fun _ h=>h) hag Rb⟩
    · rw[if_neg hin] at V0
      obtain⟨u,hu,Rb⟩:=hc _ _ (nw he.len xs j e _ q hj V0);rw[wh,←YW] at hu;exact⟨u,by rw[h3 t (by rw[hvl,wh];omega)];exact hu,q.mono (fun _ h=>h) hag Rb⟩
  · rw[if_neg wh] at hy
    obtain⟨u,hu,Rb⟩:=hc _ _ (nw he.len xs (t/n) y _ q hy V0);rw[←YW] at hu
    suffices hout:t<j*n+r∨j*n+r+vs.length≤t by
      exact⟨u,(h3 t hout).trans hu,q.mono (fun _ h=>h) hag Rb⟩
    rw[hvl];rcases Nat.lt_or_gt_of_ne wh with h5|h5
    · right
      have:(j+1)*n≤(t/n)*n:=Nat.mul_le_mul_right _ h5;rw[Nat.add_mul,Nat.one_mul] at this;omega
    · left
      have:(t/n+1)*n≤j*n:=Nat.mul_le_mul_right _ h5;rw[Nat.add_mul,Nat.one_mul] at this;omega
theorem fE {α:Type}[Flat q]{b cap n j r i:Nat}{enc:α→List VP}{xs:List α}{e:α}(e':α)[he:gZ n enc](h0:Nat.blt 0 n=true)(hn:P.cellsOf T=1)(hx:bx env x (aD b (j*n+r)))(hy:bx env y q)(hi:hs[i]?=some (av (some (b,cap)) n enc xs))(hj:xs[j]?=some e)(hl:Nat.blt r (enc e).length=true)(hE:enc e'=fS r [q] (enc e)):
    fZ P hs env ⟨none, .store T x y,ty,pos,after,gd⟩ (γ:=Unit) (fun _=>True) (fun _=>hs.set i (av (some (b,cap)) n enc (xs.set j e'))) (fun _=>aa undef):=by
  intro c a w S F aH hown qe Kp Q hk;have hv:=hx S w a qe;simp only[aa] at hv
  have hu:=hy S w a qe;have hl':r<(enc e).length:=by simpa using hl
  have hel:(enc e).length=n:=he.len e;have hjl:j<xs.length:=(List.getElem?_eq_some_iff.1 hj).1;obtain⟨F1,F2,f1,f2,f3,_,f4⟩:=hown.xA hi;obtain⟨hFb,hlc,_,arr,E',hb,hsz,hc⟩:=f3
  have hjn:j*n+n≤cap*n:=by
    have:(j+1)*n≤cap*n:=Nat.mul_le_mul_right _ (by omega);rw[Nat.add_mul,Nat.one_mul] at this;exact this
  have ho:j*n+r<arr.size:=by omega
  have hr:(execOp a.eval ⟨none, .store T x y,ty,pos,after,gd⟩).run P w= .ok .skip (w.setCell ⟨b,j*n+r,none⟩ (a.eval y)):=by
    simp[execOp,hv,Instr.storeAt,Instr.sureAddr,oT hn (Flat.flat hu) hb ho]
  have hne:∀k,k≠b→(w.setCell ⟨b,j*n+r,none⟩ (a.eval y)).heap[k]?=w.heap[k]?:=fun k hk=>fQ w _ _ k hk;have hag:∀k,S k→(w.setCell ⟨b,j*n+r,none⟩ (a.eval y)).heap[k]?=w.heap[k]?:=fun k hk=>hne k (fun e=>aH.dJ k hk (e▸(f1 b hFb).1));unfold Oper.wp;rw[hr];refine hk () undef _ S F trivial (aH.write (f1 b hFb).1 rfl rfl rfl (by simp[World.setCell]) hne) (fun _ h=>h) hag ?_ rfl
  have := f4 S F1 (w.setCell ⟨b,j*n+r,none⟩ (a.eval y)) (av (some (b,cap)) n enc (xs.set j e')) (fun k hk=>(f1 k hk).2) (fun _ h=>h) (fun k hk=>hne k (fun e=>(f1 b hFb).2 (e▸hk))) hag
    (zj (new:=[q]) (vs:=[a.eval y]) ⟨hFb,hlc,by assumption,arr,E',hb,hsz,hc⟩ hj (by simp;omega) hE (by simpa using h0) hag rfl (fun t q' ht=>by
      cases t with
      |zero=>simp at ht;subst ht;exact⟨_,rfl,hu⟩
      | succ t => simp at ht) (fun Ri T1 zk hs1=>⟨Ri.setIfInBounds (j*n+r) (a.eval y),by simp[World.setCell,Array.getElem?_modify,zk],by simp,fun t ht=>Array.getElem?_setIfInBounds_ne (by simp at ht;omega),fun t v ht=>by
        cases t with
        | zero => simp at ht;subst ht;have h9:j*n+r<Ri.size:=by(simp at hs1;omega)
                  simp[h9]
        |succ t=>simp at ht⟩))
  exact this.mono (fun k hk=>hk.elim (fun h=>(f1 k h).1) (f2 k)) (fun _ h=>h) (fun _ _=>rfl) (fun _ _=>rfl)
theorem wE{α:Type}{new:List VP}[hfl:bH new]{b cap n j r i m:Nat}{enc:α→List VP}{xs:List α}{e:α}(e':α)[he:gZ n enc](h0:Nat.blt 0 n=true)(hn:P.cellsOf T=m)(hm:Nat.blt 0 m=true)(hx:bx env x (aD b (j*n+r)))(hy:bx env y (aC new))(qY:Nat.beq new.length m=true)(hi:hs[i]?=some (av (some (b,cap)) n enc xs))(hj:xs[j]?=some e)(hl:Nat.ble (r+m) (enc e).length=true)(hE:enc e'=fS r new (enc e)):
    fZ P hs env ⟨none, .store T x y,ty,pos,after,gd⟩ (γ:=Unit) (fun _=>True) (fun _=>hs.set i (av (some (b,cap)) n enc (xs.set j e'))) (fun _=>aa undef):=by
  intro c a w S F aH hown qe Kp Q hk;have hv:=hx S w a qe;simp only[aa] at hv
  obtain⟨va,Bt,Ui,EA⟩:=hy S w a qe;have hl':r+m≤(enc e).length:=by simpa using hl
  have Oj:new.length=m:=by simpa using qY
  have hel:(enc e).length=n:=he.len e;have hjl:j<xs.length:=(List.getElem?_eq_some_iff.1 hj).1;obtain⟨F1,F2,f1,f2,f3,_,f4⟩:=hown.xA hi;obtain⟨hFb,hlc,aj4,arr,E',hb,hsz,hc⟩:=f3
  have hjn:j*n+n≤cap*n:=by
    have:(j+1)*n≤cap*n:=Nat.mul_le_mul_right _ (by omega);rw[Nat.add_mul,Nat.one_mul] at this;exact this
  have hone:∀v∈va.toList,v.oneCell'=true:=by
    intro v o9;obtain⟨j,hj⟩:=List.mem_iff_getElem?.1 o9;have hjl:j<new.length:=by have:=(List.getElem?_eq_some_iff.1 hj).1;simp at this;omega
    obtain⟨u,hu,hq⟩:=EA j _ (List.getElem?_eq_getElem hjl);have:u=v:=by simp at hj hu;rw[hj] at hu;exact(Option.some.inj hu).symm
    subst this;exact((hfl.flat _ (List.getElem_mem hjl)).flat hq).2
  have hval:va.toList.length=m:=by simp[Ui,Oj]
  obtain⟨w',arr',k1,k2,k3,k4,k5,k6,k7,k8,k9,NQ⟩:=jd (P:=P) (b:=b) (off:=j*n+r) (T:=E') va.toList 0 w arr hone hb (by rw[hval,hsz];omega)
  have hr:(execOp a.eval ⟨none, .store T x y,ty,pos,after,gd⟩).run P w= .ok .skip w':=by
    have hs:=run_sizeOf hn hm w;simp[execOp,hv,Bt,Instr.storeAt,Instr.sureAddr,storeVar,hs,Value.cells,Ui,Oj,k1]
  have hag:∀k,S k→w'.heap[k]?=w.heap[k]?:=fun k hk=>k6 k (fun e=>aH.dJ k hk (e▸(f1 b hFb).1));unfold Oper.wp;rw[hr];refine hk () undef w' S F trivial (aH.write (f1 b hFb).1 k2 k3 k4 k5 k6) (fun _ h=>h) hag ?_ rfl
  have :=f4 S F1 w' (av (some (b,cap)) n enc (xs.set j e')) (fun k hk=>(f1 k hk).2) (fun _ h=>h) (fun k hk=>k6 k (fun e=>(f1 b hFb).2 (e▸hk))) hag
    (zj (new:=new) (vs:=va.toList) ⟨hFb,hlc,aj4,arr,E',hb,hsz,hc⟩ hj (by omega) hE (by simpa using h0) hag (by omega) (fun t q' ht=>by
      obtain⟨u,hu,hq⟩:=EA t q' ht
      exact⟨u,by simpa using hu,hq⟩) (fun Ri T1 zk hs1=>by
        have:Ri=arr∧T1=E':=by rw[hb] at zk;cases zk;exact⟨rfl,rfl⟩
        obtain⟨rfl,rfl⟩:=this;exact⟨arr',k7,k8,fun t ht=>k9 t (by simpa using ht),fun t v ht=>by simpa using NQ t v ht⟩))
  exact this.mono (fun k hk=>hk.elim (fun h=>(f1 k h).1) (f2 k)) (fun _ h=>h) (fun _ _=>rfl) (fun _ _=>rfl)
theorem LB{f:FuncId}{fn:Func}{cs:List VP}{b off i:Nat}{n m:Int}{ats:Array TypeId}(hf:P.funcs[f]?=some fn)(hname:(fn.name=="runtime.NumGoroutine")=false)(hb:fn.body.isNone=true)(hn:Extern.findNext fn=none)
    (he:Extern.find fn=some (Extern.Atomic.update (Op.intArith .add) .i64 true)) (hx:bx env x (aD b off)) (hy:bx env y (ag .i64 m)) (hi:hs[i]?=some (ax b cs)) (hc:cs[off]?=some (ag .i64 n)):
    fZ P hs env ⟨dst, .call ⟨.value (.func f), #[x,y],ats⟩,ty,pos,after,gd⟩ (γ:=Unit) (fun _=>True) (fun _=>hs.set i (ax b (cs.set off (ag .i64 (IntKind.i64.wrap (n+m)))))) (fun _=>ag .i64 (IntKind.i64.wrap (n+m))):=by
  intro c a w S F aH hown qe Kp Q hk;have hv:=hx S w a qe;simp only[aa] at hv
  have hu:=hy S w a qe;simp only[aa] at hu
  obtain⟨F0,_,az⟩:=hown.get hi;obtain⟨hF0,arr,E',hbb,hsz,hcc⟩:=az;have ho:off<cs.length:=(List.getElem?_eq_some_iff.1 hc).1;obtain⟨u0,YX,Ks⟩:=hcc _ _ hc;simp only[aa] at Ks;subst Ks
  have hcell:w.cell? ⟨b,off,none⟩=some (.int .i64 n):=by simp[World.cell?,hbb,YX]
  have hfr:w.frozen? ⟨b,off,none⟩=false:=by simp[World.frozen?,hbb]
  have oS:(Op.intArith .add .i64 n m).run P w= .ok (.int .i64 (IntKind.i64.wrap (n+m))) w:=by simp[Op.intArith]
  have hrun:=run_call_add hf hname hb hn .i64 he hcell hfr oS
  have hr:(execOp a.eval ⟨dst, .call ⟨.value (.func f), #[x,y],ats⟩,ty,pos,after,gd⟩).run P w= .ok (.value (.int .i64 (IntKind.i64.wrap (n+m)))) (w.setCell ⟨b,off,none⟩ (.int .i64 (IntKind.i64.wrap (n+m)))):=by
    have hfv:a.eval (.func f)= .func (.func f) #[] #[]:=rfl;simp[execOp,resolve,Deferred.ofValue,invoke,hv,hu,hfv,hrun]
  refine fZ.OC (m:=b) (h1:=ax b (cs.set off (ag .i64 (IntKind.i64.wrap (n+m))))) aH hown hi (fun F1 S w h=>h.1) hr rfl rfl rfl (by simp[World.setCell]) (fun k hk=>fQ w _ _ k hk) (fun F1 h=>?_) (fun hS hag hO=>hk () _ _ S F trivial hS (fun _ h=>h) hag hO rfl)
  have hag:∀k,S k→(w.setCell ⟨b,off,none⟩ (.int .i64 (IntKind.i64.wrap (n+m)))).heap[k]?=w.heap[k]?:=fun k hk=>fQ w _ _ k (fun e=>by
    obtain⟨F1',F2',f1,_,f3,_⟩:=hown.xA hi;exact aH.dJ k hk (e▸(f1 b f3.1).1))
  refine⟨h.1,arr.setIfInBounds off (.int .i64 (IntKind.i64.wrap (n+m))),E',by simp[World.setCell,Array.getElem?_modify,hbb],by simp[hsz],fun j q' hj=>?_⟩;rw[List.getElem?_set] at hj;by_cases e:off=j
  · subst e
    rw[if_pos rfl,if_pos ho] at hj;cases hj
    have h9:off<arr.size:=by omega
    exact⟨_,by simp[h9],rfl⟩
  · rw[if_neg e] at hj
    obtain⟨u,Hv,hq⟩:=hcc j q' hj;exact⟨u,by simp[Array.getElem?_setIfInBounds_ne e,Hv],q'.mono (fun _ h=>h) hag hq⟩
theorem EN{n:Nat}{i:Int}(hT:P.underlying T=some (.slice E))(hn:P.cellsOf E=1)(hb:P.bytesOf E=1)(hz:jI P E=some [.int .u8 0])(hx:bx env x (ag .i64 i))(hi:i=(n:Int))(hle:n≤281474976710656):
    bp P hs env ⟨dst, .makeSlice T x x,ty,pos,after,gd⟩ (ai 1 aj (List.replicate n 0)):=by
  intro a w S F h1 h2 h3 h4 qe K Q hk;have hv:=hx S w a qe;simp only[aa] at hv
  subst hi;have hr:=xF (dst:=dst) (ty:=ty) (pos:=pos) (after:=after) (gd:=gd) (w:=w) hT hn hb hz hv hle;unfold Oper.wp;rw[hr];refine hk _ _ _ (Grow.new1 w S _) ⟨some ⟨w.heap.size,0,none⟩,n,by simp,by simp,by simpa using hle,fun _=>⟨rfl, .inr rfl,fun t b hb j q hj=>?_⟩⟩
  have e0:j=0:=by
    have:=(List.getElem?_eq_some_iff.1 hj).1;simp[aj] at this;exact this
  subst e0;simp[aj] at hj;subst hj
  refine⟨.int .u8 (b.toNat:Int),?_,rfl⟩;have WR:(mZ (List.replicate n 0))[t]?=some (.int .u8 (b.toNat:Int)):=by rw[qo,hb];rfl
  simp[World.cell?];simpa using WR
theorem EO{off len:Nat}{o:Option Nat}(hT:P.underlying T=some (.slice E))(hx:bx env x (tV (fun b=>jM b off len) (aa (.slice none 0 0)) o))(hy:bx env y (aa (.slice none 0 0))):bp P hs env ⟨dst, .binOp .eql T x y T',ty,pos,after,gd⟩ (ak (o=none)):=by
 cases o with
 |some b=>exact(xG hT hx hy).le (af.prop (by simp))
 | none=>
  exact bp.aL fun ρ w S F _ he=>by
   have h1:=he.o _ _ hx;have h2:=he.o _ _ hy;simp only[tV,aa] at h1 h2
   have e2:(binOp .eql T (.slice none 0 0) (.slice none 0 0)).run P w= .ok (.bool true) w:=by
    show((do pure (.bool (←Op.equalIn (9999+1) T (.slice none 0 0) (.slice none 0 0)))):Sem Value).run P w=_
    rw[bu (kO 9999 none 0 0 hT)];rfl
   exact⟨.bool true,by simp[execOp,h1,h2,eqGuard,e2],_,rfl,by simp⟩
theorem EP{off len:Nat}{o:Option Nat}(hT:P.underlying T=some (.slice E))(hx:bx env x (tV (fun b=>jM b off len) (aa (.slice none 0 0)) o))(hy:bx env y (aa (.slice none 0 0))):bp P hs env ⟨dst, .binOp .neq T x y T',ty,pos,after,gd⟩ (ak (o≠none)):=by
 cases o with
 |some b=>exact(EL hT hx hy).le (af.prop (by simp))
 | none=>
  exact bp.aL fun ρ w S F _ he=>by
   have h1:=he.o _ _ hx;have h2:=he.o _ _ hy;simp only[tV,aa] at h1 h2
   have e2:(binOp .neq T (.slice none 0 0) (.slice none 0 0)).run P w= .ok (.bool false) w:=by
    show((do pure (.bool (!(←Op.equalIn (9999+1) T (.slice none 0 0) (.slice none 0 0))))):Sem Value).run P w=_
    rw[bu (kO 9999 none 0 0 hT)];rfl
   exact⟨.bool false,by simp[execOp,h1,h2,eqGuard,e2],_,rfl,by simp⟩
theorem fZ.same{o:Oper}{γ:Type}{φ:γ→Prop}{hs':γ→List HP}{q:γ→VP}{q':VP}(h:fZ P hs env o φ hs' q)(hl:∀g,φ g→aB (hs' g) hs)(hq:∀g,φ g→af (q g) q'):fZ P hs env o (γ:=Unit) (fun _=>True) (fun _=>hs) (fun _=>q'):=
 fun c a w S F h1 h2 h3 K Q hk=>h c a w S F h1 h2 h3 K Q fun g v w' S' F' hφ hs hS hag ho hqv=>hk () v w' S' F' trivial hs hS hag (hl g hφ _ _ _ ho) (hq g hφ _ _ _ hqv)
theorem cr.ge{ops:Array Oper}{Q:Exit→Act→World→Prop}{c:Ctx}{l:List Oper}{o:Oper}{d:Tmp}{j:Nat}{want:Bool}{t:Tmp}{c0 p:Prop}(hl:look env t=some (eu c0 (ak p))∨(look env t=some (ak p)∧c0=True))(sN:o.guard=some (j,want))(hj:(ops[j]?).bind (·.dst)=some t)(ht:Nat.blt t c.n=true)
    (h:(c0∧(if want then p else ¬p))→fZ P hs env o (γ:=Unit) (fun _=>True) (fun _=>hs) (fun _=>q)) (nZ:o.dst=some d) (hd:Nat.blt d c.n=true) (k:cr P ops Q c l hs ((d,eu (c0∧(if want then p else ¬p)) q)::env)):cr P ops Q c (o::l) hs env:=by
  intro a w hst;obtain⟨h1,h2,S,F,h3,h4,h5⟩:=hst;refine wpListIn_step fun K hK=>?_;have ht':t<a.tmps.size:=by rw[h2];simpa using ht
  have h6:a.tmps[t]?=some (a.tmps.getD t undef):=by simp[ht']
  have hk:∀v w' S' F',kH c w' S' F'→(∀k,S k→S' k)→(∀k,S k→w'.heap[k]?=w.heap[k]?)→de hs F' S' w'→(eu (c0∧(if want then p else ¬p)) q).p S' w' v→K (a.put o.dst v) w':=fun v w' S' F' k1 k2 k3 k4 k5=>hK _ _ (k _ _ ⟨by rw[Act.dA];exact h1,by rw[Act.gE];exact h2,S',F',k1,k4,by rw[nZ];exact(h5.mono k2 k3).put k5 (by rw[h2];simpa using hd)⟩)
  have hb:(c0∧∃b,a.tmps.getD t undef= .bool b∧(b=true↔p))∨(¬c0∧a.tmps.getD t undef=undef):=by
    rcases hl with hl|⟨hl,hc⟩
    · exact bU.Uc hl S w a.tmps h5
    · exact .inl ⟨hc▸trivial,h5 t _ hl⟩
  rcases hb with⟨hc,b,hb,yx⟩|⟨hc,hu⟩
  · have hy:yielded ops a.tmps j=some b:=by
      unfold yielded;rw[hj];simp only[Option.bind_some,h6,hb]
    by_cases hw:b=want
    · have hp:(if want then p else ¬p):=by
        cases want
        · simp at hw ⊢;intro hp';rw[yx.2 hp'] at hw;cases hw
        · simpa using yx.1 hw
      rw[if_pos (by simp[Region.wanted,sN,hy,hw])];exact Oper.qW ((h ⟨hc,hp⟩).jy h3 h4 h5) (h ⟨hc,hp⟩ c a w S F h3 h4 h5 K Q fun g v w' S' F' _ k1 k2 k3 k4 k5=>hk v w' S' F' k1 k2 k3 k4 ⟨fun _=>k5,fun hn=>(hn ⟨hc,hp⟩).elim⟩)
    · have hp:¬(if want then p else ¬p):=by
        cases want
        · simp at hw ⊢;exact yx.1 hw
        · intro hp';exact hw (yx.2 (by simpa using hp'))
      rw[if_neg (by simp[Region.wanted,sN,hy,hw])];exact⟨fun _ _=>trivial,hk _ _ S F h3 (fun _ h=>h) (fun _ _=>rfl) h4 ⟨fun hn=>(hp hn.2).elim,fun _=>rfl⟩⟩
  · have hy:yielded ops a.tmps j=none:=by
      unfold yielded;rw[hj];simp only[Option.bind_some,h6,hu];rfl
    rw[if_neg (by simp[Region.wanted,sN,hy])];exact⟨fun _ _=>trivial,hk _ _ S F h3 (fun _ h=>h) (fun _ _=>rfl) h4 ⟨fun hn=>(hc hn.1).elim,fun _=>rfl⟩⟩
theorem BB(t:Nat)(q:VP)(e:Env):look ((t,q)::e) t=some q:=by rw[bL,if_pos rfl]
theorem cr.egT{ops:Array Oper}{Q:Exit→Act→World→Prop}{c:Ctx}{l:List Oper}{o:Oper}{d:Tmp}{j:Nat}{t:Tmp}{p:Prop}(hl:look env t=some (ak p))(sN:o.guard=some (j,true))(hj:(ops[j]?).bind (·.dst)=some t)(ht:Nat.blt t c.n=true)
    (h:p→fZ P hs env o (γ:=Unit) (fun _=>True) (fun _=>hs) (fun _=>q)) (nZ:o.dst=some d) (hd:Nat.blt d c.n=true) (k:cr P ops Q c l hs ((d,eu (p) q)::env)):cr P ops Q c (o::l) hs env:=by
  have hr:(True∧(if (true:Bool)=true then p else ¬p))↔(p):=⟨fun h=>by simpa using h.2,fun h=>⟨trivial,by simpa using h⟩⟩;refine cr.ge (c0:=True) (p:=p) (want:=true) (.inr ⟨hl,rfl⟩) sN hj ht (fun h1=>h (hr.1 h1)) nZ hd fun a w hst=>k a w (hst.mono (cW.le (cW.cons (BB _ _ _) (eu.congr hr) ?_)));exact cW.skip (by simp) (cW.refl _ _)
theorem cr.Uu{ops:Array Oper}{Q:Exit→Act→World→Prop}{c:Ctx}{l:List Oper}{o:Oper}{d:Tmp}{j:Nat}{t:Tmp}{p:Prop}(hl:look env t=some (ak p))(sN:o.guard=some (j,false))(hj:(ops[j]?).bind (·.dst)=some t)(ht:Nat.blt t c.n=true)
    (h:¬p→fZ P hs env o (γ:=Unit) (fun _=>True) (fun _=>hs) (fun _=>q)) (nZ:o.dst=some d) (hd:Nat.blt d c.n=true) (k:cr P ops Q c l hs ((d,eu (¬p) q)::env)):cr P ops Q c (o::l) hs env:=by
  have hr:(True∧(if (false:Bool)=true then p else ¬p))↔(¬p):=⟨fun h=>by simpa using h.2,fun h=>⟨trivial,by simpa using h⟩⟩;refine cr.ge (c0:=True) (p:=p) (want:=false) (.inr ⟨hl,rfl⟩) sN hj ht (fun h1=>h (hr.1 h1)) nZ hd fun a w hst=>k a w (hst.mono (cW.le (cW.cons (BB _ _ _) (eu.congr hr) ?_)));exact cW.skip (by simp) (cW.refl _ _)
end
section
variable {P:Program} {hs:List HP} {env:Env} {q:VP} {o:Oper} {dst:Option Tmp} {ty T T':TypeId} {pos:String} {after:Array Edge} {gd:Option (Nat×Bool)} {x y:Operand}
theorem fZ.conv{γ:Type}{φ:γ→Prop}{hs':γ→List HP}{q:γ→VP}{q':VP}{hsX:List HP}(h:fZ P hs env o φ hs' q)(hl:∀g,φ g→aB (hs' g) hsX)(hq:∀g,φ g→af (q g) q'):fZ P hs env o (γ:=Unit) (fun _=>True) (fun _=>hsX) (fun _=>q'):=
 fun c a w S F h1 h2 h3 K Q hk=>h c a w S F h1 h2 h3 K Q fun g v w' S' F' hφ hs hS hag ho hqv=>hk () v w' S' F' trivial hs hS hag (hl g hφ _ _ _ ho) (hq g hφ _ _ _ hqv)
theorem cr.egI{ops:Array Oper}{Q:Exit→Act→World→Prop}{c:Ctx}{l:List Oper}{d:Tmp}{j:Nat}{t:Tmp}{p:Prop}(hsX:List HP)(hl:look env t=some (ak p))(sN:o.guard=some (j,true))(hj:(ops[j]?).bind (·.dst)=some t)(ht:Nat.blt t c.n=true)
    (h:p→fZ P hs env o (γ:=Unit) (fun _=>True) (fun _=>hsX) (fun _=>q)) (hF:¬p→aB hs hsX) (nZ:o.dst=some d) (hd:Nat.blt d c.n=true) (k:cr P ops Q c l hsX ((d,eu p q)::env)):cr P ops Q c (o::l) hs env:=by
  intro a w hst;obtain⟨h1,h2,S,F,h3,h4,h5⟩:=hst;refine wpListIn_step fun K hK=>?_;have ht':t<a.tmps.size:=by rw[h2];simpa using ht
  have h6:a.tmps[t]?=some (a.tmps.getD t undef):=by simp[ht']
  have hk:∀v w' S' F',kH c w' S' F'→(∀k,S k→S' k)→(∀k,S k→w'.heap[k]?=w.heap[k]?)→de hsX F' S' w'→(eu p q).p S' w' v→K (a.put o.dst v) w':=fun v w' S' F' k1 k2 k3 k4 k5=>hK _ _ (k _ _ ⟨by rw[Act.dA];exact h1,by rw[Act.gE];exact h2,S',F',k1,k4,by rw[nZ];exact(h5.mono k2 k3).put k5 (by rw[h2];simpa using hd)⟩);obtain⟨b,hb,yx⟩:=h5 t _ hl
  have hy:yielded ops a.tmps j=some b:=by
    unfold yielded;rw[hj];simp only[Option.bind_some,h6,hb]
  by_cases hp:p
  · have WR:b=true:=yx.2 hp
    rw[if_pos (by simp[Region.wanted,sN,hy,WR])];exact Oper.qW ((h hp).jy h3 h4 h5) (h hp c a w S F h3 h4 h5 K Q fun g v w' S' F' _ k1 k2 k3 k4 k5=>hk v w' S' F' k1 k2 k3 k4 ⟨fun _=>k5,fun hn=>(hn hp).elim⟩)
  · have WR:b=false:=by cases b with|false=>rfl|true=>exact absurd (yx.1 rfl) hp
    rw[if_neg (by simp[Region.wanted,sN,hy,WR])];exact⟨fun _ _=>trivial,hk _ _ S F h3 (fun _ h=>h) (fun _ _=>rfl) (hF hp _ _ _ h4) ⟨fun hn=>(hp hn).elim,fun _=>rfl⟩⟩
end
def dZ(P:Program)(l:List Oper)(n:Nat)(e0:Env)(T:gK→List HP→Prop)(FR:List HP):List (Nat×Nat)→gK→List HP→Prop
 |[],done,hs=>T done hs
 |(i,0)::r,done,hs=>∃o d q,l[i]?=some o∧o.dst=some d∧(∀hs',bU P l.toArray n hs' (cC o.after done++e0) o q)∧dZ P l n e0 T FR r ((i,d,q)::done) hs
 |(i,1)::r,done,hs=>∃o d q,l[i]?=some o∧o.dst=some d∧(∀hs',aB hs' FR→bU P l.toArray n hs' (cC o.after done++e0) o q)∧aB hs FR∧dZ P l n e0 T FR r ((i,d,q)::done) hs
 |(i,2)::r,done,hs=>∃(o:Oper) (d:Tmp),l[i]?=some o∧o.dst=some d∧o.guard=none∧∃(γ:Type) (φ:γ→Prop) (hs':γ→List HP) (q:γ→VP),fZ P hs (cC o.after done++e0) o φ hs' q∧∀g,φ g→dZ P l n e0 T FR r ((i,d,q g)::done) (hs' g)
 |(i,3)::r,done,hs=>∃(o:Oper),l[i]?=some o∧o.dst=none∧o.guard=none∧∃(γ:Type) (φ:γ→Prop) (hs':γ→List HP) (q:γ→VP),fZ P hs (cC o.after done++e0) o φ hs' q∧∀g,φ g→dZ P l n e0 T FR r ((i,n,VY)::done) (hs' g)
 |(i,4)::r,done,hs=>∃(o:Oper) (d:Tmp),l[i]?=some o∧o.dst=some d∧o.guard=none∧∃(γ:Type) (φ:γ→Prop) (hs':γ→List HP) (q:γ→VP),fZ P hs (cC o.after done++e0) o φ hs' q∧(∀g,φ g→aB (hs' g) FR)∧∀g,φ g→dZ P l n e0 T FR r ((i,d,q g)::done) (hs' g)
 |(_,_+5)::_,_,_=>False
section
variable {P:Program} {l:List Oper} {n:Nat} {hs:List HP} {e0:Env} {T:gK→List HP→Prop} {FR:List HP} {Q:Exit→Act→World→Prop} {c:Ctx} {done:gK} {r:List (Nat×Nat)} {i:Nat}
theorem dZ.p{d:Tmp}{q:VP}{op:Op}{ty:TypeId}{pos:String}{after:Array Edge}(ho:l[i]?=some ⟨some d,op,ty,pos,after,none⟩)
    (h:∀hs',bp P hs' (cC after done++e0) ⟨some d,op,ty,pos,after,none⟩ q) (k:dZ P l n e0 T FR r ((i,d,q)::done) hs):dZ P l n e0 T FR ((i,0)::r) done hs:=
  ⟨_,d,q,ho,rfl,fun hs'=>bU.plain (h hs') rfl,k⟩
theorem dZ.g{d:Tmp}{q:VP}{op:Op}{ty:TypeId}{pos:String}{after:Array Edge}{gd:Option (Nat×Bool)}(ho:l[i]?=some ⟨some d,op,ty,pos,after,gd⟩)
    (h:∀hs',bU P l.toArray n hs' (cC after done++e0) ⟨some d,op,ty,pos,after,gd⟩ q) (k:dZ P l n e0 T FR r ((i,d,q)::done) hs):dZ P l n e0 T FR ((i,0)::r) done hs:=
  ⟨_,d,q,ho,rfl,h,k⟩
theorem dZ.o{d:Tmp}{q:VP}{op:Op}{ty:TypeId}{pos:String}{after:Array Edge}(ho:l[i]?=some ⟨some d,op,ty,pos,after,none⟩)
    (h:bp P FR (cC after done++e0) ⟨some d,op,ty,pos,after,none⟩ q) (hl:aB hs FR) (k:dZ P l n e0 T FR r ((i,d,q)::done) hs):dZ P l n e0 T FR ((i,1)::r) done hs:=
  ⟨_,d,q,ho,rfl,fun _ hl'=>(bU.plain h rfl).own hl',hl,k⟩
theorem dZ.a{d:Tmp}{op:Op}{ty:TypeId}{pos:String}{after:Array Edge}{γ:Type}{φ:γ→Prop}{hs':γ→List HP}{q:γ→VP}(ho:l[i]?=some ⟨some d,op,ty,pos,after,none⟩)
    (h:fZ P hs (cC after done++e0) ⟨some d,op,ty,pos,after,none⟩ φ hs' q) (hl:∀g,φ g→aB (hs' g) FR) (k:∀g,φ g→dZ P l n e0 T FR r ((i,d,q g)::done) (hs' g)):dZ P l n e0 T FR ((i,4)::r) done hs:=
  ⟨_,d,ho,rfl,rfl,γ,φ,hs',q,h,hl,k⟩
theorem dZ.s{op:Op}{ty:TypeId}{pos:String}{after:Array Edge}{hs':List HP}{q:Unit→VP}(ho:l[i]?=some ⟨none,op,ty,pos,after,none⟩)
    (h:fZ P hs (cC after done++e0) ⟨none,op,ty,pos,after,none⟩ (γ:=Unit) (fun _=>True) (fun _=>hs') q) (k:dZ P l n e0 T FR r ((i,n,VY)::done) hs'):dZ P l n e0 T FR ((i,3)::r) done hs:=
  ⟨_,ho,rfl,rfl,Unit,_,_,q,h,fun _ _=>k⟩
theorem dZ.head{s:List (Nat×Nat)}:∀{k:Nat},2≤k→k≤4→dZ P l n e0 T FR ((i,k)::s) done hs→∃(o:Oper) (dd:Nat) (γ:Type) (φ:γ→Prop) (hs':γ→List HP) (q:γ→VP),l[i]?=some o∧(o.dst=some dd∨o.dst=none∧dd=n)∧o.guard=none∧fZ P hs (cC o.after done++e0) o φ hs' q∧(k=4→∀g,φ g→aB (hs' g) FR)∧
    ∀g,φ g→∃q':VP,(∀S w v,(q g).p S w v→(o.dst=some dd→q'.p S w v))∧(o.dst=none→∀S w v,q'.p S w v)∧dZ P l n e0 T FR s ((i,dd,q')::done) (hs' g)
  |0,h,_,_=>absurd h (by omega)
  |1,h,_,_=>absurd h (by omega)
  |2,_,_,⟨o',d',g1,g2,g3,γ,φ,hs',q,g4,g5⟩=>⟨o',d',γ,φ,hs',q,g1, .inl g2,g3,g4,(fun h=>by cases h),fun g hg=>⟨q g,fun _ _ _ h _=>h,(fun h=>by rw[g2] at h;cases h),g5 g hg⟩⟩
  |3,_,_,⟨o',g1,g2,g3,γ,φ,hs',q,g4,g5⟩=>⟨o',n,γ,φ,hs',q,g1, .inr ⟨g2,rfl⟩,g3,g4,(fun h=>by cases h),fun g hg=>⟨VY,fun _ _ _ _ _=>trivial,fun _ _ _ _=>trivial,g5 g hg⟩⟩
  |4,_,_,⟨o',d',g1,g2,g3,γ,φ,hs',q,g4,g6,g5⟩=>⟨o',d',γ,φ,hs',q,g1, .inl g2,g3,g4,(fun _=>g6),fun g hg=>⟨q g,fun _ _ _ h _=>h,(fun h=>by rw[g2] at h;cases h),g5 g hg⟩⟩
  |_+5,_,h,_=>absurd h (by omega)
def Tw(P:Program)(l:List Oper)(n:Nat)(e0:Env)(FR hs:List HP)(done:gK)(p:Nat×Nat):Prop:=
 ∃o d q dn,l[p.1]?=some o∧o.dst=some d∧(p.1,d,q)∈done∧(∀x,x∈dn→x∈done)∧bU P l.toArray n hs (cC o.after dn++e0) o q∧(p.2=0→∀hs',bU P l.toArray n hs' (cC o.after dn++e0) o q)∧(p.2=1→∀hs',aB hs' FR→bU P l.toArray n hs' (cC o.after dn++e0) o q)
theorem dZ.expand:∀(r:List (Nat×Nat)) (done:gK),dZ P l n e0 T FR r done hs→∃B r' done',r=B++r'∧(r'=[]∨∃i k s,r'=(i,k)::s∧2≤k)∧dZ P l n e0 T FR r' done' hs∧(∀x,x∈done→x∈done')∧
    done'.map (·.1)=(B.map (·.1)).reverse++done.map (·.1)∧(∀x,x∈done'→x∈done∨((∃o,l[x.1]?=some o∧o.dst=some x.2.1)∧∃p∈B,p.1=x.1))∧(∀p,p∈B→Tw P l n e0 FR hs done' p)∧∀p,p∈B→p.2<2
  |[],done,h=>⟨[],[],done,rfl, .inl rfl,h,fun _ h=>h,rfl,fun x hx=> .inl hx,fun p hp=>by simp at hp,fun p hp=>by simp at hp⟩
  | (i, 0)::r,done,h=>by
    obtain⟨o,d,q,h1,h2,h3,h4⟩:=h;obtain⟨B,r',done',g1,g2,g3,g4,g5,g6,g7,g8⟩:=dZ.expand r _ h4;refine⟨(i,0)::B,r',done',by rw[g1];rfl,g2,g3,fun x hx=>g4 x (List.mem_cons_of_mem _ hx),by rw[g5];simp,fun x hx=>?_,fun p hp=>?_,fun p hp=>?_⟩
    · rcases g6 x hx with h|⟨h,p,hp,he⟩
      · rcases List.mem_cons.1 h with h|h
        · subst h;exact .inr ⟨⟨o,h1,h2⟩,(i,0),List.mem_cons_self ..,rfl⟩
        · exact .inl h
      · exact .inr ⟨h,p,List.mem_cons_of_mem _ hp,he⟩
    · rcases List.mem_cons.1 hp with h|h
      · subst h;exact⟨o,d,q,done,h1,h2,g4 _ (List.mem_cons_self ..),fun x hx=>g4 x (List.mem_cons_of_mem _ hx),h3 hs,fun _=>h3,fun h=>by simp at h⟩
      · exact g7 p h
    · rcases List.mem_cons.1 hp with h|h
      · subst h;simp
      · exact g8 p h
  | (i, 1)::r,done,h=>by
    obtain⟨o,d,q,h1,h2,h3,h3b,h4⟩:=h;obtain⟨B,r',done',g1,g2,g3,g4,g5,g6,g7,g8⟩:=dZ.expand r _ h4;refine⟨(i,1)::B,r',done',by rw[g1];rfl,g2,g3,fun x hx=>g4 x (List.mem_cons_of_mem _ hx),by rw[g5];simp,fun x hx=>?_,fun p hp=>?_,fun p hp=>?_⟩
    · rcases g6 x hx with h|⟨h,p,hp,he⟩
      · rcases List.mem_cons.1 h with h|h
        · subst h;exact .inr ⟨⟨o,h1,h2⟩,(i,1),List.mem_cons_self ..,rfl⟩
        · exact .inl h
      · exact .inr ⟨h,p,List.mem_cons_of_mem _ hp,he⟩
    · rcases List.mem_cons.1 hp with h|h
      · subst h;exact⟨o,d,q,done,h1,h2,g4 _ (List.mem_cons_self ..),fun x hx=>g4 x (List.mem_cons_of_mem _ hx),h3 hs h3b,(fun h=>by simp at h),fun _=>h3⟩
      · exact g7 p h
    · rcases List.mem_cons.1 hp with h|h
      · subst h;simp
      · exact g8 p h
  |(i,2)::r,done,h=>⟨[],(i,2)::r,done,rfl, .inr ⟨i,2,r,rfl,by omega⟩,h,fun _ h=>h,rfl,fun x hx=> .inl hx,fun p hp=>by simp at hp,fun p hp=>by simp at hp⟩
  |(i,3)::r,done,h=>⟨[],(i,3)::r,done,rfl, .inr ⟨i,3,r,rfl,by omega⟩,h,fun _ h=>h,rfl,fun x hx=> .inl hx,fun p hp=>by simp at hp,fun p hp=>by simp at hp⟩
  |(i,4)::r,done,h=>⟨[],(i,4)::r,done,rfl, .inr ⟨i,4,r,rfl,by omega⟩,h,fun _ h=>h,rfl,fun x hx=> .inl hx,fun p hp=>by simp at hp,fun p hp=>by simp at hp⟩
  |(_,_+5)::_,_,h=>h.elim
structure aj5(P:Program)(l:List Oper)(c:Ctx)(e0:Env)(T:gK→List HP→Prop)(FR:List HP)(plan:List (Nat×Nat))(pre r:List (Nat×Nat))(done:gK)(hs:List HP)(listed:Array Bool)(a:Act)(w:World):Prop where
 df:a.defers=c.df
 sz:a.tmps.size=c.n
 split:plan=pre++r
 dr:dZ P l c.n e0 T FR r done hs
 hd:r=[]∨∃i k s,r=(i,k)::s∧2≤k
 un:∀p∈r,listed.getD p.1 false=false
 idx:done.map (·.1)=(pre.map (·.1)).reverse
 dst:∀x∈done,∃o,l[x.1]?=some o∧(o.dst=some x.2.1∨o.dst=none∧x.2.1=c.n)
 HF:∀p∈pre,listed.getD p.1 false=false→Tw P l c.n e0 FR hs done p
 st:∃S F,kH c w S F∧de hs F S w∧cS e0 S w a.tmps∧∀j d q,(j,d,q)∈done→listed.getD j false=true→q.p S w (a.tmps.getD d undef)
theorem ER{m g:Nat}{env:Env}{plan:List (Nat×Nat)}(hB:mY l.toArray plan m g c.n=true)(hT:∀done hs,T done hs→cr P l.toArray Q c (l.drop m) hs (fT done++env)):
    ∀(u:Nat) (listed:Array Bool) (a:Act) (w:World) (pre r:List (Nat×Nat)) (done:gK) (hs:List HP),count m listed=u→HeadInv .any l.toArray m listed→aj5 P l c (strip (dstsOf (l.take m)) env) T FR plan pre r done hs listed a w→wpAnyIn (WF c.ro) 0 P .any l.toArray Q (u+g) listed a w:=by
  simp only[mY,EF,Bool.and_eq_true] at hB;obtain⟨⟨⟨⟨⟨⟨⟨⟨⟨⟨hsum,hnd⟩,hds⟩,hback⟩,hsc⟩,On⟩,Uo⟩,rC⟩,WM⟩,hpc⟩,hpb⟩:=hB;have xD:m+g=l.toArray.size:=by simpa using hsum
  have Oo:(dstsOf (l.take m)).Nodup:=by simpa using hnd
  have za:(plan.map (·.1)).Nodup:=by simpa using Uo
  have aj2:plan.length=m:=by simpa using rC
  have Oq:∀p∈plan,p.1<m∧p.2≤4:=fun p hp=>by have:=List.all_eq_true.1 WM p hp;simpa using this
  have HH:∀p∈plan,p.1<m:=fun p hp=>(Oq p hp).1
  have AX:∀o∈l.take m,∀d,o.dst=some d→d<c.n:=fun o ho d hd=>by
    have:=List.all_eq_true.1 hds o (by simpa using ho);rw[hd] at this;simpa using this
  have hlen:(l.take m).length=m:=by simp at xD ⊢;omega
  have Ot:∀i,i<m→∃k,(i,k)∈plan:=fun i hi=>by
    obtain⟨p,hp,he⟩:=List.any_eq_true.1 (List.all_eq_true.1 hpc i (List.mem_range.2 hi));have:p.1=i:=by simpa using he
    exact⟨p.2,by rw[←this];exact hp⟩
  intro u
  induction u with
  | zero =>
    intro listed a w pre r done hs hc inv hu;rw[Nat.zero_add]
    have hr:r=[]:=by
      cases r with
      |nil=>rfl
      | cons p r=>
        have h1:=hu.un p (List.mem_cons_self ..);have h2:=je hc p.1 (HH p (by rw[hu.split];simp));rw[h1] at h2;cases h2
    subst hr
    have hl:listed=(List.replicate m true++List.replicate g false).toArray:=by
      apply Array.ext
      · simp[inv.size] at xD ⊢;omega
      · intro i h1 h2
        have hi:i<l.toArray.size:=by rw[←inv.size];exact h1
        by_cases him:i<m
        · have:=je hc i him
          simp[h1] at this;simp[him,this]
        · have:=inv.tail i (by omega) hi
          simp[h1] at this;simp[List.getElem_append,him,this]
    have Hw:(l.drop m).length=g:=by simp at xD ⊢;omega
    have hw:wpListIn (WF c.ro) 0 P l.toArray Q (l.drop m) a w:=by
      obtain⟨S,F,h1,h2,h3,h4⟩:=hu.st;refine hT done hs hu.dr a w ⟨hu.df,hu.sz,S,F,h1,h2,fun t q hl=>?_⟩
      have hin:∀j,j<m→j∈done.map (·.1):=fun j hj=>by
        obtain⟨k,hk⟩:=Ot j hj;rw[hu.idx,List.mem_reverse];refine List.mem_map.2 ⟨(j,k),?_,rfl⟩;rw[hu.split] at hk;simpa using hk
      rcases ql hl with h5|⟨h6,h5⟩
      · obtain⟨j,hj⟩:=qk h5
        refine h4 j t q hj (je hc j ?_)
        have:j∈pre.map (·.1):=by
          have:=sR hj;rw[hu.idx,List.mem_reverse] at this;exact this
        obtain⟨p,hp,rfl⟩:=List.mem_map.1 this;exact HH p (by rw[hu.split];simp[hp])
      · refine h3 t q (oV h5 ?_)
        cases hct:(dstsOf (l.take m)).contains t with
        |false=>rfl
        | true=>
          obtain⟨j,o,ho,hd⟩:=y7 hct;have hjm:j<m:=by have:=(List.getElem?_eq_some_iff.1 ho).1;omega
          obtain⟨x,hx,he⟩:=List.mem_map.1 (hin j hjm);obtain⟨o',ho',hd'⟩:=hu.dst x hx;rw[he] at ho';rw[List.getElem?_take,if_pos hjm] at ho;rw[ho] at ho';cases ho'
          rw[hd] at hd';have hd2:t=x.2.1:=hd'.elim (fun h=>Option.some.inj h) (fun h=>by cases h.1);subst hd2;exact absurd h6 (oU (j:=x.1) (q:=x.2.2) hx)
    have:=kN (F:=WF c.ro) (n:=0) (md:= .any) (P:=P) (ops:=l.toArray) (Q':=Q) (l.drop m) m listed a w (fun j=>by simp[List.getElem?_drop]) (by rw[Hw,hl];exact On) hw
    rwa [Hw] at this
  | succ u ih =>
    intro listed a w pre r done hs hc inv hu;rw[show u+1+g=(u+g)+1 by omega];refine⟨fun h0=>absurd h0 (rM (by omega) inv.size hback (by omega)),fun i hi=>?_⟩
    have him:i<m:=by
      rcases Nat.lt_or_ge i m with h|h
      · exact h
      · exfalso
        have VW:i<l.toArray.size:=by
          obtain⟨_,o,ho,_⟩:=mem_ready.1 hi;exact(Array.getElem?_eq_some_iff.1 ho).1
        have hg:Nat.beq g 0=false:=by
          cases hg:Nat.beq g 0
          · rfl
          · have:g=0:=by simpa using hg
            omega
        rw[hg] at hsc;simp only[Bool.false_or,Bool.and_eq_true] at hsc
        obtain⟨k,CD,hk2⟩:∃k,k<m∧listed.getD k false=false:=by
          cases hf:(List.range m).filter (fun i=> !listed.getD i false) with
          |nil=>rw[count,hf] at hc;simp at hc
          | cons x l=>
            have:x∈(List.range m).filter (fun i=> !listed.getD i false):=by rw[hf];exact List.mem_cons_self ..
            rw[List.mem_filter,List.mem_range] at this;exact⟨x,this.1,by simpa using this.2⟩
        exact tail_waits hsc.1 hsc.2 (by omega) inv _ k rfl CD (getD_in (by rw[inv.size];omega) hk2) i h hi
    obtain⟨hun,o,ho,HE⟩:=mem_ready.1 hi;have CE:=getD_both hun;have CG:l[i]?=some o:=by simpa using ho
    have yA:(l.take m)[i]?=some o:=by rw[List.getElem?_take,if_pos him];exact CG
    obtain⟨S,F,h1,h2,h3,h4⟩:=hu.st
    have Up:(done.map (·.1)).Nodup:=by
      rw[hu.idx];have:=za;rw[hu.split,List.map_append] at this;exact(List.reverse_perm _).nodup_iff.2 (List.nodup_append.1 this).1
    have hneed:∀j,tC l.toArray (m+1) i j=true→listed.getD j false=true:=fun j hj=>qm inv _ i j (fun o' ho'=>by
      rw[ho] at ho';cases ho';exact HE) hj
    have rF:∀dn:gK,(∀x,x∈dn→x∈done)→cS (cC o.after dn++strip (dstsOf (l.take m)) env) S w a.tmps:=fun dn hdn t x hx=>by
      rcases rL hx with h5|h5
      · obtain⟨j,hj,hw⟩:=tS h5
        refine h4 j t x (hdn _ hj) ?_;unfold waits at hw;obtain⟨e,he,hb⟩:=List.any_eq_true.1 hw;simp only[Bool.and_eq_true] at hb;have:e.on=j:=by simpa using hb.1
        rw[←this];exact HE e (by simpa using he) hb.2
      · exact h3 t x h5
    have hslot:∀j dj qj,(j,dj,qj)∈done→j≠i→∀d,o.dst=some d→d≠dj:=fun j dj qj wA hij d nZ e=>by
      subst e;obtain⟨oj,VX,hdj⟩:=hu.dst _ wA;have tT:=AX o (List.mem_of_getElem? yA) d nZ;have hdj:oj.dst=some d:=hdj.resolve_right (fun h=>by have h9:d=c.n:=h.2;rw[h9] at tT;exact Nat.lt_irrefl _ tT)
      have hjm:j<m:=by
        have:j∈pre.map (·.1):=by
          have:=sR wA;rw[hu.idx,List.mem_reverse] at this;exact this
        obtain⟨p,hp,rfl⟩:=List.mem_map.1 this;exact HH p (by rw[hu.split];simp[hp])
      have Uq:(l.take m)[j]?=some oj:=by rw[List.getElem?_take,if_pos hjm];exact VX
      exact hij (y9 Oo Uq yA hdj nZ)
    have Ou:∀t x,look (strip (dstsOf (l.take m)) env) t=some x→∀d,o.dst=some d→d≠t:=fun t x hx d nZ e=>by
      subst e;have:=(lM hx).2;rw[nA yA nZ] at this;cases this
    have Ov:count m (listed.setIfInBounds i true)=u:=by have:=count_set him CE (by rw[inv.size];omega);omega
    obtain⟨k,hk⟩:=Ot i him;rw[hu.split] at hk;rcases List.mem_append.1 hk with hpre|hrest
    ·
      obtain⟨o',d,q,dn,g1,nZ,g3,g4,g5,g6⟩:=hu.HF _ hpre CE;simp only at g1;rw[CG] at g1;cases g1
      have tT:=AX o (List.mem_of_getElem? yA) d nZ
      have hne_r:∀p∈r,p.1≠i:=fun p hp e=>by
        have h7:=za;rw[hu.split,List.map_append] at h7;exact(List.nodup_append.1 h7).2.2 i (List.mem_map.2 ⟨_,hpre,rfl⟩) p.1 (List.mem_map.2 ⟨p,hp,rfl⟩) e.symm
      unfold wpOpIn;simp only[ho]
      have key:=g5 a w S F hu.sz h1.bR h1.cq h1.dJ h2 (rF dn g4) (wpAnyIn (WF c.ro) 0 P .any l.toArray Q (u+g) (listed.setIfInBounds i true)) Q (fun v w' S' gr hq=>by
        refine ih _ _ _ pre r done hs Ov (inv.set hi him) ⟨by rw[Act.dA];exact hu.df,by rw[Act.gE];exact hu.sz,hu.split,hu.dr,hu.hd,fun p hp=>?_,hu.idx,hu.dst,fun p hp Lw=>?_,S',F,h1.grow gr,gr.yZ h1.bR h1.cq h2,?_,?_⟩
        · rw[getD_set_ne false (fun e=>hne_r p hp e.symm)];exact hu.un p hp
        · refine hu.HF p hp ?_
          by_cases e:i=p.1
          · rw[←e];exact CE
          · rw[getD_set_ne false e] at Lw;exact Lw
        · intro t x hx
          rw[fU (Ou t x hx)];exact gr.vp h1.bR (h3 t x hx)
        · intro j dj qj wA hlj
          by_cases hij:j=i
          · subst hij
            obtain⟨rfl,rfl⟩:=sS Up wA g3;rw[nZ];have:dj<a.tmps.size:=by rw[hu.sz];exact tT
            simpa[Act.put,this] using hq
          · rw[getD_set_ne false (fun e=>hij e.symm)] at hlj
            rw[fU (hslot j dj qj wA hij)];exact gr.vp h1.bR (h4 j dj qj wA hlj))
      by_cases hw:Region.wanted o (yielded l.toArray a.tmps)=true
      · rw[if_pos hw] at key ⊢;exact Oper.qW (bU.jy g5 hu.sz h1 h2 (rF dn g4) hw) key
      · rw[if_neg hw] at key ⊢;exact⟨fun _ _=>trivial,key⟩
    ·
      obtain⟨i0,k0,s,rfl,hk2⟩:∃i0 k0 s,r=(i0,k0)::s∧2≤k0:=hu.hd.resolve_left (fun e=>by rw[e] at hrest;cases hrest);obtain⟨hafter,hread⟩:=pF hpb hk2 hu.split
      have hii:i0=i:=by
        rcases List.mem_cons.1 hrest with e|e
        · cases e;rfl
        · have:=hneed i0 (hafter _ e)
          rw[hu.un (i0,k0) (List.mem_cons_self ..)] at this;cases this
      subst hii
      have Oi:∀p∈s,p.1≠i0:=fun p hp e=>by
        have h7:=za;rw[hu.split,List.map_append,List.map_cons] at h7;exact(List.nodup_cons.1 (List.nodup_append.1 h7).2.1).1 (List.mem_map.2 ⟨p,hp,e⟩)
      have hnp:∀p∈pre,p.1≠i0:=fun p hp e=>by
        have h7:=za;rw[hu.split,List.map_append] at h7;exact(List.nodup_append.1 h7).2.2 p.1 (List.mem_map.2 ⟨p,hp,rfl⟩) i0 (by simp) e
      obtain⟨dd,γ,φ,hs',q,WN,g3,g4,Ei,g5⟩:∃(dd:Nat) (γ:Type) (φ:γ→Prop) (hs':γ→List HP) (q:γ→VP),(o.dst=some dd∨o.dst=none∧dd=c.n)∧o.guard=none∧fZ P hs (cC o.after done++strip (dstsOf (l.take m)) env) o φ hs' q∧(k0=4→∀g,φ g→aB (hs' g) FR)∧
          ∀g,φ g→∃q':VP,(∀S w v,(q g).p S w v→(o.dst=some dd→q'.p S w v))∧(o.dst=none→∀S w v,q'.p S w v)∧dZ P l c.n (strip (dstsOf (l.take m)) env) T FR s ((i0,dd,q')::done) (hs' g):=by
        obtain⟨o',dd,γ,φ,hs',q,g1,g2,g3,g4,Ei,g5⟩:=dZ.head hk2 (Oq (i0,k0) (by rw[hu.split];simp)).2 hu.dr;rw[CG] at g1;cases g1
        exact⟨dd,γ,φ,hs',q,g2,g3,g4,Ei,g5⟩
      unfold wpOpIn;simp only[ho];rw[if_pos (by simp[Region.wanted,g3])];refine Oper.qW (fZ.jy g4 h1 h2 (rF done (fun _ h=>h))) (g4 c a w S F h1 h2 (rF done (fun _ h=>h)) _ _ fun gh v w' S' F' hφ aH hSS hag hown hq=>?_);obtain⟨q',hq1,QO,g6⟩:=g5 gh hφ;obtain⟨B,r',done',e1,e2,e3,e4,e5,e6,e7,e8⟩:=dZ.expand s _ g6;refine ih _ _ _ (pre++(i0,k0)::B) r' done' (hs' gh) Ov (inv.set hi him) ⟨by rw[Act.dA];exact hu.df,by rw[Act.gE];exact hu.sz,by rw[hu.split,e1];simp,e3,e2,fun p hp=>?_,by rw[e5];simp[hu.idx],fun x hx=>?_,fun p hp Lw=>?_,S',F',aH,hown,?_,?_⟩
      · have hp':p∈s:=by rw[e1];simp[hp]
        rw[getD_set_ne false (fun e=>Oi p hp' e.symm)];exact hu.un p (List.mem_cons_of_mem _ hp')
      · rcases e6 x hx with h|h
        · rcases List.mem_cons.1 h with h|h
          · subst h;exact⟨o,CG,WN⟩
          · exact hu.dst x h
        · obtain⟨⟨o1,f1,f2⟩,_⟩:=h
          exact⟨o1,f1, .inl f2⟩
      · rcases List.mem_append.1 hp with h|h
        · have EG:listed.getD p.1 false=false:=by
            rw[getD_set_ne false (fun e=>hnp p h e.symm)] at Lw;exact Lw
          obtain⟨o1,d1,q1,dn,f1,f2,f3,f4,f5,f6,f7⟩:=hu.HF p h EG
          have hk2':¬2≤p.2:=fun h2=>by
              obtain⟨a1,b1,hab⟩:=List.append_of_mem h;have:=(pF hpb (a:=a1) (b:=b1++(i0,k0)::s) (i:=p.1) h2 (by rw[hu.split,hab];simp)).1 (i0,k0) (by simp);have:=hneed p.1 this;rw[EG] at this;cases this
          by_cases Eh:k0=4
          · exact⟨o1,d1,q1,dn,f1,f2,e4 _ (List.mem_cons_of_mem _ f3),fun x hx=>e4 x (List.mem_cons_of_mem _ (f4 x hx)),(if h0:p.2=0 then f6 h0 _ else f7 (by omega) _ (Ei Eh gh hφ)),f6,f7⟩
          have az:p.2=0:=by
            have hkind:p.2≠1:=fun h1=>by
              have:=hneed p.1 (hread Eh p (.inr h) h1);rw[EG] at this;cases this
            have hk2:¬2≤p.2:=fun h2=>by
              obtain⟨a1,b1,hab⟩:=List.append_of_mem h;have:=(pF hpb (a:=a1) (b:=b1++(i0,k0)::s) (i:=p.1) h2 (by rw[hu.split,hab];simp)).1 (i0,k0) (by simp);have:=hneed p.1 this;rw[EG] at this;cases this
            omega
          exact⟨o1,d1,q1,dn,f1,f2,e4 _ (List.mem_cons_of_mem _ f3),fun x hx=>e4 x (List.mem_cons_of_mem _ (f4 x hx)),f6 az _,fun _=>f6 az,f7⟩
        · rcases List.mem_cons.1 h with h|h
          · subst h
            have:i0<listed.size:=by rw[inv.size];omega
            simp[this] at Lw
          · exact e7 p h
      · intro t x hx
        rw[fU (Ou t x hx)];exact x.mono hSS hag (h3 t x hx)
      · intro j dj qj wA hlj
        by_cases hij:j=i0
        · subst hij
          have Ur:(done'.map (·.1)).Nodup:=by
            rw[e5];have h7:=za;rw[hu.split,e1] at h7;simp only[List.map_append,List.map_cons,hu.idx] at h7 ⊢;refine(List.Perm.nodup_iff ?_).1 (List.nodup_append.1 (by simpa using h7:((pre.map (·.1)++j::B.map (·.1))++r'.map (·.1)).Nodup)).1
            have q1:(pre.map (·.1)++j::B.map (·.1)).Perm (B.map (·.1)++(j::pre.map (·.1))):=by
              refine List.perm_append_comm.trans ?_;simp only[List.cons_append];exact(List.perm_middle.symm)
            exact q1.trans ((List.reverse_perm _).symm.append ((List.reverse_perm _).symm.cons j))
          obtain⟨rfl,rfl⟩:=sS Ur wA (e4 _ (List.mem_cons_self ..));rcases WN with nZ|⟨nZ,_⟩
          · have tT:=AX o (List.mem_of_getElem? yA) dj nZ
            rw[nZ];have:dj<a.tmps.size:=by rw[hu.sz];exact tT
            simpa[Act.put,this] using hq1 _ _ _ hq nZ
          · exact QO nZ _ _ _
        · rw [getD_set_ne false (fun e=>hij e.symm)] at hlj
          rcases e6 _ wA with h|⟨_,p,hp,hpe⟩
          · rcases List.mem_cons.1 h with h|h
            · cases h;exact absurd rfl hij
            · rw[fU (hslot j dj qj h hij)]
              exact qj.mono hSS hag (h4 j dj qj h hlj)
          · simp only at hpe
            have:=hu.un p (List.mem_cons_of_mem _ (by rw[e1];simp[hp]));rw[hpe,hlj] at this;cases this
theorem dZ.fin{ops:Array Oper}{tl:List Oper}{env:Env}(h:cr P ops Q c tl hs (fT done++env)):dZ P l n e0 (fun done hs=>cr P ops Q c tl hs (fT done++env)) FR [] done hs:=h
theorem aM.CK{id:Nat}{env:Env}(plan:List (Nat×Nat))(m g:Nat)(hm:P.follows .mixedOrders=true)(hB:mY l.toArray plan m g c.n=true)
    (h:dZ P l c.n (strip (dstsOf (l.take m)) env) (fun done hs=>cr P l.toArray Q c (l.drop m) hs (fT done++env)) FR plan [] hs):aM P Q c (.region id l.toArray true) hs env:=by
  intro a w hst;refine wpIn_region_any hm ?_;obtain⟨h1,h2,S,F,h3,h4,h5⟩:=hst
  have hsum:m+g=l.toArray.size:=by
    simp only[mY,EF,Bool.and_eq_true] at hB;simpa using hB.1.1.1.1.1.1.1.1.1.1
  have g0:=Grow.drew w S;obtain⟨B,r',done',e1,e2,e3,e4,e5,e6,e7,e8⟩:=dZ.expand plan [] h;have key:=ER (FR:=FR) (P:=P) (Q:=Q) (l:=l) (c:=c) (env:=env) hB (fun _ _ h=>h) m (Array.replicate l.toArray.size false) a {w with drawn:=w.drawn+1} B r' done' hs ?_ ?_ ?_
  · rw[hsum] at key;exact key
  · unfold count
    rw[List.filter_eq_self.2 (fun i hi=>by rw[getD_replicate_false];rfl)];simp
  · exact⟨by simp,fun j oj _ hl=>(by rw[getD_replicate_false] at hl;cases hl),fun t _ ht=>getD_in (by simpa using ht) (getD_replicate_false _ _)⟩
  · exact⟨h1,h2,e1,e3,e2,fun p _=>getD_replicate_false _ _,by simpa using e5,fun x hx=>(e6 x hx).elim (fun h=>by cases h) (fun h=>let ⟨o,f1,f2⟩:=h.1;⟨o,f1, .inl f2⟩),fun p hp _=>e7 p hp,S,F,h3.grow g0,g0.yZ h3.bR h3.cq h4,fun t q hl=>g0.vp h3.bR (h5 t q (lM hl).1),fun j d q _ hl=>by rw[getD_replicate_false] at hl;cases hl⟩
end
end Go.Hl
end
