/-
  What the statement's proof leans on, several texts in one (packed by a program).
-/
import Derived.Test.YtpfobikpggmleaaGreatDoorSAF
import Derived.Laws.LoneSync
set_option linter.all false
set_option maxRecDepth 1000000
set_option maxHeartbeats 4000000
section
namespace Go.Hl
open Go.RowKit
def j4 (l:List HP):HP:=⟨fun F S w=>cS l F S w,fun h1 h2 h3 h4 h=>cS.mono h1 h2 h3 h4 h⟩
variable {α:Type}
def Vb (f:α→HP):HP:=⟨fun F S w=>∃a,(f a).p F S w,fun h1 h2 h3 h4 ⟨a,h⟩=>⟨a,(f a).mono h1 h2 h3 h4 h⟩⟩
def l6 (p:Prop):HP:=⟨fun _ _ _=>p,fun _ _ _ _ h=>h⟩
theorem aB.refl (hs:List HP):aB hs hs:=fun _ _ _ h=>h
variable {b:List HP}
theorem aB.trans {a c:List HP} (h:aB a b) (k:aB b c):aB a c:=fun F S w x=>k F S w (h F S w x)
theorem aB.perm {a b:List HP} (h:a.Perm b):aB a b:=fun _ _ _ x=>x.perm h
theorem aB.cons (h0:HP) {a:List HP} (h:aB a b):aB (h0::a) (h0::b):=fun F S w ⟨F1,F2,h1,h2,h3,h4⟩=>⟨F1,F2,h1,h2,h3,h _ _ _ h4⟩
theorem aB.drop {h0:HP} {a:List HP} (h:aB a b):aB (h0::a) b:=fun F S w ⟨F1,F2,h1,h2,h3,h4⟩=>(h _ _ _ h4).mono h2 (fun _ h=>h) (fun _ _=>rfl) (fun _ _=>rfl)
theorem aB.nil (a:List HP):aB a []:=fun _ _ _ _=>trivial
variable {r:List HP}
theorem aB.pack {l:List HP}:aB (l++r) (j4 l::r):=fun F S w h=>by
 obtain ⟨F1,F2,h1,h2,h3,h4⟩:=cS.append.1 h
 exact ⟨F1,F2,h1,h2,h3,h4⟩
theorem aB.unpack {l:List HP}:aB (j4 l::r) (l++r):=fun F S w ⟨F1,F2,h1,h2,h3,h4⟩=>cS.append.2 ⟨F1,F2,h1,h2,h3,h4⟩
theorem aB.ex {f:α→HP} (a:α):aB (f a::r) (Vb f::r):=fun F S w ⟨F1,F2,h1,h2,h3,h4⟩=>⟨F1,F2,h1,h2,⟨a,h3⟩,h4⟩
theorem aB.pure {p:Prop} (h:p):aB r (l6 p::r):=fun F S w x=>⟨fun _=>False,F,fun _ h=>h.elim,fun _ h=>h,h,x⟩
def xG:List Nat→List Nat→Bool
 |[],l=>l.isEmpty
 |i::ix,l=>l.contains i && xG ix (l.erase i)
theorem ze:∀{a b:List Nat},xG a b=true→a.Perm b
 |[],b,h=>by simp [xG] at h;subst h;exact .refl _
 |i::ix,b,h=>by
  simp only [xG,Bool.and_eq_true,List.contains_iff_mem] at h
  exact ((ze h.2).cons i).trans (List.perm_cons_erase h.1).symm
theorem Perm.idx {hs hs':List α} (ix:List Nat) (h1:ix.filterMap (fun i=>hs[i]?)=hs') (h2:xG (List.range hs.length) ix=true):hs.Perm hs':=by
 have e:(List.range hs.length).filterMap (fun i=>hs[i]?)=hs:=by
  have:∀(l:List α) (k:Nat) (pre:List α),pre.length=k→(List.range' k l.length).filterMap (fun i=>(pre++l)[i]?)=l:=by
   intro l
   induction l with
   |nil=>intro k pre _;rfl
   |cons a l ih=>
    intro k pre hp
    rw [List.length_cons,List.range'_succ,List.filterMap_cons]
    have:(pre++a::l)[k]?=some a:=by rw [List.getElem?_append_right (by omega)];simp [hp]
    rw [this]
    have h3:=ih (k+1) (pre++[a]) (by simp [hp])
    simp only [List.append_assoc,List.singleton_append] at h3
    rw [h3]
  have h4:=this hs 0 [] rfl
  rw [List.range_eq_range']
  simpa using h4
 rw [←h1]
 conv=>lhs;rw [←e]
 exact (ze h2).filterMap _
theorem aB.left {a:List HP}:aB (a++b) a:=fun F S w h=>by
 obtain ⟨F1,F2,h1,h2,h3,h4⟩:=cS.append.1 h
 exact h3.mono (fun k hk=>(h1 k hk).1) (fun _ h=>h) (fun _ _=>rfl) (fun _ _=>rfl)
theorem aB.dD {hs hs':List HP} (ix rest:List Nat) (h1:ix.filterMap (fun i=>hs[i]?)=hs') (h2:xG (List.range hs.length) (ix++rest)=true):aB hs hs':=by
 have h:=Perm.idx (hs:=hs) (ix++rest) rfl h2
 rw [List.filterMap_append,h1] at h
 exact (aB.perm h).trans aB.left
section
variable {P:Program} {hs:List HP} {env:Env} {q:VP} {dst:Option Tmp} {ty T T' E K V:TypeId} {pos:String} {after:Array Edge} {gd:Option (Nat×Bool)} {x y z:Operand}
theorem aM.own {Q:Exit→Act→World→Prop} {c:Ctx} {s:Code} {hs':List HP} (h:aB hs hs') (k:aM P Q c s hs' env):aM P Q c s hs env:=fun a w ⟨h1,h2,S,F,h3,h4,h5⟩=>k a w ⟨h1,h2,S,F,h3,h _ _ _ h4,h5⟩
theorem bK.own {Q:Exit→Act→World→Prop} {c:Ctx} {e:Exit} {hs':List HP} (h:aB hs hs') (k:bK Q e c hs' env):bK Q e c hs env:=fun a w ⟨h1,h2,S,F,h3,h4,h5⟩=>k a w ⟨h1,h2,S,F,h3,h _ _ _ h4,h5⟩
theorem aM.opens {Q:Exit→Act→World→Prop} {c:Ctx} {s:Code} {α:Type} {f:α→HP} {r:List HP} (k:∀a,aM P Q c s (f a::r) env):aM P Q c s (Vb f::r) env:=fun a w ⟨h1,h2,S,F,h3,⟨F1,F2,f1,f2,⟨b,f3⟩,f4⟩,h5⟩=>k b a w ⟨h1,h2,S,F,h3,⟨F1,F2,f1,f2,f3,f4⟩,h5⟩
theorem aM.l6 {Q:Exit→Act→World→Prop} {c:Ctx} {s:Code} {p:Prop} {r:List HP} (k:p→aM P Q c s r env):aM P Q c s (l6 p::r) env:=fun a w ⟨h1,h2,S,F,h3,⟨F1,F2,f1,f2,f3,f4⟩,h5⟩=>k f3 a w ⟨h1,h2,S,F,h3,f4.mono f2 (fun _ h=>h) (fun _ _=>rfl) (fun _ _=>rfl),h5⟩
def zf (P:Program) (T:TypeId):Option Value:=(P.info? T).bind fun i=>i.zero
theorem lG {v:Value} (h:zf P T=some v) (w:World):(zeroValue T).run P w= .ok v w:=by
 unfold zf at h
 cases hi:P.info? T with
 |none=>simp [hi] at h
 |some i=>
  simp only [hi,Option.bind_some] at h
  simp [zeroValue,typeInfo,hi,h]
theorem tO {b cap len:Nat} {ats:Array TypeId} (vW:ats[0]?=some T) (hT:P.underlying T=some (.slice E)) (hx:bu env x (aa (bq (some (b,cap)) len))):bl P hs env ⟨dst, .call ⟨.builtin .len, #[x],ats⟩,ty,pos,after,gd⟩ (ag .i64 (len:Int)):=
 bl.aJ fun ρ w S F _ he=>by
  have hv:=he.o _ _ hx;simp only [aa,bq] at hv
  exact ⟨.int .i64 (len:Int),by simp [execOp,resolve,invoke,builtin,Builtin.len_,vW,hv,run_underlying hT,goInt],rfl⟩
theorem jb {a:bA} {k0 k1:IntKind}:af (aC [ag k0 a.1,ag k1 a.2]) (aa (Nh k0 k1 a)):=fun S w v ⟨arr,hv,hn,hc⟩=>by
 obtain ⟨u0,h0,e0⟩:=hc 0 _ rfl
 obtain ⟨u1,h1,e1⟩:=hc 1 _ rfl
 simp only [aa] at e0 e1 ⊢
 subst hv;subst e0;subst e1
 unfold Nh
 congr 1
 apply Array.ext
 · simpa using hn
 · intro i h2 h3
   simp only [List.length_cons,List.length_nil] at hn
   match i,h2 with
   |0,_=>exact (Array.getElem?_eq_some_iff.1 h0).2
   |1,_=>exact (Array.getElem?_eq_some_iff.1 h1).2
   |i+2,h=>omega
theorem aX {b cap len n:Nat} {k:IntKind} {i:Int} (j:Nat) (hT:P.underlying T=some (.slice E)) (hn:P.cellsOf E=n) (h0:Nat.blt 0 n=true) (hx:bu env x (aa (bq (some (b,cap)) len))) (hy:bu env y (ag k i)) (hi:i=(j:Int)) (hj:j<len):
    bl P hs env ⟨dst, .indexAddr T x y,ty,pos,after,gd⟩ (aI b (j*n)):=
  bl.aJ fun ρ w S F _ he=>by
    have hv:=he.o _ _ hx;simp only [aa,bq] at hv
    have h2:=he.o _ _ hy;simp only [aa] at h2
    subst hi
    have hs:=run_sizeOf (T:=E) hn h0 w
    have oO:Addr.add ⟨b,0,none⟩ (j*n)=⟨b,j*n,none⟩:=by
      unfold Addr.add
      split<;>simp
    exact ⟨_,by simp [execOp,hv,h2,Instr.indexAt,asIntOf,run_underlying hT,Instr.sureAddr,hs,oO,hj],rfl⟩
theorem xH {α:Type} {b cap n j r:Nat} {enc:α→List VP} [he:hU n enc] {xs:List α} {e:α} {F S:BS} {w:World} (h:(au (some (b,cap)) n enc xs).p F S w) (hj:xs[j]?=some e) (hc:(enc e)[r]?=some q):∃u,w.cell? ⟨b,j*n+r,none⟩=some u∧q.p S w u:=by
 obtain ⟨_,_,_,arr,T,hh,_,Tr⟩:=h
 obtain ⟨u,hu,hq⟩:=Tr _ _ (nu he.len xs j e r q hj hc)
 exact ⟨u,by simp [World.cell?,hh,hu],hq⟩
theorem fC {α:Type} {b cap n j r i:Nat} {enc:α→List VP} {xs:List α} {e:α} [he:hU n enc] (hT:lZ P T=some false) (hx:bu env x (aI b (j*n+r))) (hi:hs[i]?=some (au (some (b,cap)) n enc xs)) (hj:xs[j]?=some e) (hc:(enc e)[r]?=some q):bl P hs env ⟨dst, .load T x,ty,pos,after,gd⟩ q:=
 bl.aJ fun ρ w S F ho qe=>by
  have hv:=qe.o _ _ hx;simp only [aa] at hv
  obtain ⟨F1,_,hp⟩:=ho.get hi
  obtain ⟨v,p8,hq⟩:=xH hp hj hc
  refine ⟨v, ?_,hq⟩
  have h1:(loadVar T ⟨b,j*n+r,none⟩).run P w= .ok v w:=by
   unfold loadVar
   rw [bw (eW hT w)]
   simp [p8]
  simp [execOp,hv,Instr.loadAt,Instr.sureAddr,h1]
theorem kO {α:Type} {b cap n j r i m:Nat} {enc:α→List VP} {xs:List α} {e:α} [he:hU n enc] (hT:lZ P T=some true) (hn:P.cellsOf T=m) (h0:Nat.blt 0 m=true) (hx:bu env x (aI b (j*n+r))) (hi:hs[i]?=some (au (some (b,cap)) n enc xs)) (hj:xs[j]?=some e) (hl:Nat.ble (r+m) (enc e).length=true):
    bl P hs env ⟨dst, .load T x,ty,pos,after,gd⟩ (aC (((enc e).drop r).take m)):=
  bl.aJ fun ρ w S F ho qe=>by
    have hv:=qe.o _ _ hx;simp only [aa] at hv
    obtain ⟨F1,_,hp⟩:=ho.get hi
    have hl':r+m≤(enc e).length:=by simpa using hl
    have hc:bX S w b (j*n+r) ((enc e).drop r):=fun t q hq=>by
      rw [List.getElem?_drop] at hq
      obtain ⟨u,hu,TE⟩:=xH hp hj hq
      exact ⟨u,by rw [Nat.add_assoc];exact hu,TE⟩
    obtain ⟨v,hr,hq⟩:=oq hT hn h0 (cs:=((enc e).drop r).take m) (by simp;omega) (hc.take m)
    exact ⟨v,by simp [execOp,hv,Instr.loadAt,Instr.sureAddr,hr],hq⟩
theorem zg {α:Type} {b cap n j r:Nat} {enc:α→List VP} [he:hU n enc] {xs:List α} {e e':α} {new:List VP} {vs:List Value} {F S:BS} {w w':World} (h:(au (some (b,cap)) n enc xs).p F S w) (hj:xs[j]?=some e) (hl:r+new.length≤(enc e).length) (hE:enc e'=fO r new (enc e)) (h0:0<n)
    (hag:∀k,S k→w'.heap[k]?=w.heap[k]?) (hvl:vs.length=new.length) (hnew:∀(t:Nat) (q:VP),new[t]?=some q→∃u,vs[t]?=some u∧q.p S w u)
    (hw:∀arr T,w.heap[b]?=some (.cells arr T (0,0))→j*n+r+vs.length≤arr.size→∃arr',w'.heap[b]?=some (.cells arr' T (0,0))∧arr'.size=arr.size∧(∀t,(t<j*n+r∨j*n+r+vs.length≤t)→arr'[t]?=arr[t]?)∧∀t v,vs[t]?=some v→arr'[j*n+r+t]?=some v):
    (au (some (b,cap)) n enc (xs.set j e')).p F S w':=by
  obtain ⟨hF,hlc,hm,arr,T,hh,hsz,hc⟩:=h
  have hel:(enc e).length=n:=he.len e
  have hjl:j<xs.length:=(List.getElem?_eq_some_iff.1 hj).1
  have hjn:j*n+n≤cap*n:=by
    have:(j+1)*n≤cap*n:=Nat.mul_le_mul_right _ (by omega)
    rw [Nat.add_mul,Nat.one_mul] at this;exact this
  obtain ⟨arr',h1,h2,h3,h4⟩:=hw arr T hh (by rw [hsz,hvl];omega)
  refine ⟨hF,by simpa using hlc,by simpa using hm,arr',T,h1,by rw [h2,hsz],fun t q hq=> ?_⟩
  obtain ⟨y,hy,Vc⟩:=rF he.len h0 _ t q hq
  have Yi:t=(t/n)*n+t%n:=by rw [Nat.mul_comm];exact (Nat.div_add_mod t n).symm
  have hmod:t%n<n:=Nat.mod_lt _ h0
  rw [List.getElem?_set] at hy
  by_cases vV:j=t/n
  · rw [if_pos vV,if_pos (by omega)] at hy
    cases hy
    rw [hE,ou r new (enc e) _ hl] at Vc
    by_cases hin:r≤t%n∧t%n<r+new.length
    · rw [if_pos hin] at Vc
      obtain ⟨u,hu,TE⟩:=hnew _ _ Vc
      have h5:=h4 _ u hu
      have h6:j*n+r+(t%n-r)=t:=by rw [vV];omega
      rw [h6] at h5
      exact ⟨u,h5,q.mono (fun _ h=>h) hag TE⟩
    · rw [if_neg hin] at Vc
      obtain ⟨u,hu,TE⟩:=hc _ _ (nu he.len xs j e _ q hj Vc)
      rw [vV,←Yi] at hu
      exact ⟨u,by rw [h3 t (by rw [hvl,vV];omega)];exact hu,q.mono (fun _ h=>h) hag TE⟩
  · rw [if_neg vV] at hy
    obtain ⟨u,hu,TE⟩:=hc _ _ (nu he.len xs (t/n) y _ q hy Vc)
    rw [←Yi] at hu
    suffices hout:t<j*n+r∨j*n+r+vs.length≤t by
      exact ⟨u,(h3 t hout).trans hu,q.mono (fun _ h=>h) hag TE⟩
    rw [hvl]
    rcases Nat.lt_or_gt_of_ne vV with h5|h5
    · right
      have:(j+1)*n≤(t/n)*n:=Nat.mul_le_mul_right _ h5
      rw [Nat.add_mul,Nat.one_mul] at this
      omega
    · left
      have:(t/n+1)*n≤j*n:=Nat.mul_le_mul_right _ h5
      rw [Nat.add_mul,Nat.one_mul] at this
      omega
theorem gC {α:Type} [Flat q] {b cap n j r i:Nat} {enc:α→List VP} {xs:List α} {e:α} (e':α) [he:hU n enc] (h0:Nat.blt 0 n=true) (hn:P.cellsOf T=1) (hx:bu env x (aI b (j*n+r))) (hy:bu env y q) (hi:hs[i]?=some (au (some (b,cap)) n enc xs)) (hj:xs[j]?=some e) (hl:Nat.blt r (enc e).length=true) (hE:enc e'=fO r [q] (enc e)):
    fV P hs env ⟨none, .store T x y,ty,pos,after,gd⟩ (γ:=Unit) (fun _=>True) (fun _=>hs.set i (au (some (b,cap)) n enc (xs.set j e'))) (fun _=>aa undef):=by
  intro c a w S F aF hown qe Kp Q hk
  have hv:=hx S w a qe;simp only [aa] at hv
  have hu:=hy S w a qe
  have hl':r<(enc e).length:=by simpa using hl
  have hel:(enc e).length=n:=he.len e
  have hjl:j<xs.length:=(List.getElem?_eq_some_iff.1 hj).1
  obtain ⟨F1,F2,f1,f2,f3,_,f4⟩:=hown.xx hi
  obtain ⟨hFb,hlc,_,arr,E',hb,hsz,hc⟩:=f3
  have hjn:j*n+n≤cap*n:=by
    have:(j+1)*n≤cap*n:=Nat.mul_le_mul_right _ (by omega)
    rw [Nat.add_mul,Nat.one_mul] at this;exact this
  have ho:j*n+r<arr.size:=by omega
  have hr:(execOp a.eval ⟨none, .store T x y,ty,pos,after,gd⟩).run P w= .ok .skip (w.setCell ⟨b,j*n+r,none⟩ (a.eval y)):=by
    simp [execOp,hv,Instr.storeAt,Instr.sureAddr,oP hn (Flat.flat hu) hb ho]
  have hne:∀k,k≠b→(w.setCell ⟨b,j*n+r,none⟩ (a.eval y)).heap[k]?=w.heap[k]?:=fun k hk=>fM w _ _ k hk
  have hag:∀k,S k→(w.setCell ⟨b,j*n+r,none⟩ (a.eval y)).heap[k]?=w.heap[k]?:=fun k hk=>hne k (fun e=>aF.dG k hk (e▸(f1 b hFb).1))
  unfold Oper.wp
  rw [hr]
  refine hk () undef _ S F trivial (aF.write (f1 b hFb).1 rfl rfl rfl (by simp [World.setCell]) hne) (fun _ h=>h) hag ?_ rfl
  have := f4 S F1 (w.setCell ⟨b,j*n+r,none⟩ (a.eval y)) (au (some (b,cap)) n enc (xs.set j e')) (fun k hk=>(f1 k hk).2) (fun _ h=>h) (fun k hk=>hne k (fun e=>(f1 b hFb).2 (e▸hk))) hag
    (zg (new:=[q]) (vs:=[a.eval y]) ⟨hFb,hlc,by assumption,arr,E',hb,hsz,hc⟩ hj (by simp;omega) hE (by simpa using h0) hag rfl (fun t q' ht=>by
      cases t with
      |zero=>simp at ht;subst ht;exact ⟨_,rfl,hu⟩
      | succ t => simp at ht) (fun QB T1 zh hs1=>⟨QB.setIfInBounds (j*n+r) (a.eval y),by simp [World.setCell,Array.getElem?_modify,zh],by simp,fun t ht=>Array.getElem?_setIfInBounds_ne (by simp at ht;omega),fun t v ht=>by
        cases t with
        | zero => simp at ht;subst ht;have h9:j*n+r<QB.size:=by (simp at hs1;omega)
                  simp [h9]
        |succ t=>simp at ht⟩))
  exact this.mono (fun k hk=>hk.elim (fun h=>(f1 k h).1) (f2 k)) (fun _ h=>h) (fun _ _=>rfl) (fun _ _=>rfl)
theorem wo {α:Type} {new:List VP} [hfl:bE new] {b cap n j r i m:Nat} {enc:α→List VP} {xs:List α} {e:α} (e':α) [he:hU n enc] (h0:Nat.blt 0 n=true) (hn:P.cellsOf T=m) (hm:Nat.blt 0 m=true) (hx:bu env x (aI b (j*n+r))) (hy:bu env y (aC new)) (qX:Nat.beq new.length m=true) (hi:hs[i]?=some (au (some (b,cap)) n enc xs)) (hj:xs[j]?=some e) (hl:Nat.ble (r+m) (enc e).length=true) (hE:enc e'=fO r new (enc e)):
    fV P hs env ⟨none, .store T x y,ty,pos,after,gd⟩ (γ:=Unit) (fun _=>True) (fun _=>hs.set i (au (some (b,cap)) n enc (xs.set j e'))) (fun _=>aa undef):=by
  intro c a w S F aF hown qe Kp Q hk
  have hv:=hx S w a qe;simp only [aa] at hv
  obtain ⟨va,Bl,Ts,Ef⟩:=hy S w a qe
  have hl':r+m≤(enc e).length:=by simpa using hl
  have NK:new.length=m:=by simpa using qX
  have hel:(enc e).length=n:=he.len e
  have hjl:j<xs.length:=(List.getElem?_eq_some_iff.1 hj).1
  obtain ⟨F1,F2,f1,f2,f3,_,f4⟩:=hown.xx hi
  obtain ⟨hFb,hlc,ae8,arr,E',hb,hsz,hc⟩:=f3
  have hjn:j*n+n≤cap*n:=by
    have:(j+1)*n≤cap*n:=Nat.mul_le_mul_right _ (by omega)
    rw [Nat.add_mul,Nat.one_mul] at this;exact this
  have hone:∀v∈va.toList,v.oneCell'=true:=by
    intro v p8
    obtain ⟨j,hj⟩:=List.mem_iff_getElem?.1 p8
    have hjl:j<new.length:=by have:=(List.getElem?_eq_some_iff.1 hj).1;simp at this;omega
    obtain ⟨u,hu,hq⟩:=Ef j _ (List.getElem?_eq_getElem hjl)
    have:u=v:=by simp at hj hu;rw [hj] at hu;exact (Option.some.inj hu).symm
    subst this
    exact ((hfl.flat _ (List.getElem_mem hjl)).flat hq).2
  have hval:va.toList.length=m:=by simp [Ts,NK]
  obtain ⟨w',arr',k1,k2,k3,k4,k5,k6,k7,k8,k9,Ng⟩:=iZ (P:=P) (b:=b) (off:=j*n+r) (T:=E') va.toList 0 w arr hone hb (by rw [hval,hsz];omega)
  have hr:(execOp a.eval ⟨none, .store T x y,ty,pos,after,gd⟩).run P w= .ok .skip w':=by
    have hs:=run_sizeOf hn hm w
    simp [execOp,hv,Bl,Instr.storeAt,Instr.sureAddr,storeVar,hs,Value.cells,Ts,NK,k1]
  have hag:∀k,S k→w'.heap[k]?=w.heap[k]?:=fun k hk=>k6 k (fun e=>aF.dG k hk (e▸(f1 b hFb).1))
  unfold Oper.wp
  rw [hr]
  refine hk () undef w' S F trivial (aF.write (f1 b hFb).1 k2 k3 k4 k5 k6) (fun _ h=>h) hag ?_ rfl
  have :=f4 S F1 w' (au (some (b,cap)) n enc (xs.set j e')) (fun k hk=>(f1 k hk).2) (fun _ h=>h) (fun k hk=>k6 k (fun e=>(f1 b hFb).2 (e▸hk))) hag
    (zg (new:=new) (vs:=va.toList) ⟨hFb,hlc,ae8,arr,E',hb,hsz,hc⟩ hj (by omega) hE (by simpa using h0) hag (by omega) (fun t q' ht=>by
      obtain ⟨u,hu,hq⟩:=Ef t q' ht
      exact ⟨u,by simpa using hu,hq⟩) (fun QB T1 zh hs1=>by
        have:QB=arr∧T1=E':=by rw [hb] at zh;cases zh;exact ⟨rfl,rfl⟩
        obtain ⟨rfl,rfl⟩:=this
        exact ⟨arr',k7,k8,fun t ht=>k9 t (by simpa using ht),fun t v ht=>by simpa using Ng t v ht⟩))
  exact this.mono (fun k hk=>hk.elim (fun h=>(f1 k h).1) (f2 k)) (fun _ h=>h) (fun _ _=>rfl) (fun _ _=>rfl)
theorem K4 {f:FuncId} {fn:Func} {cs:List VP} {b off i:Nat} {n m:Int} {ats:Array TypeId} (hf:P.funcs[f]?=some fn) (hname:(fn.name=="runtime.NumGoroutine")=false) (hb:fn.body.isNone=true) (hn:Extern.findNext fn=none)
    (he:Extern.find fn=some (Extern.Atomic.update (Op.intArith .add) .i64 true)) (hx:bu env x (aI b off)) (hy:bu env y (ag .i64 m)) (hi:hs[i]?=some (az b cs)) (hc:cs[off]?=some (ag .i64 n)):
    fV P hs env ⟨dst, .call ⟨.value (.func f), #[x,y],ats⟩,ty,pos,after,gd⟩ (γ:=Unit) (fun _=>True) (fun _=>hs.set i (az b (cs.set off (ag .i64 (IntKind.i64.wrap (n+m)))))) (fun _=>ag .i64 (IntKind.i64.wrap (n+m))):=by
  intro c a w S F aF hown qe Kp Q hk
  have hv:=hx S w a qe;simp only [aa] at hv
  have hu:=hy S w a qe;simp only [aa] at hu
  obtain ⟨F0,_,av⟩:=hown.get hi
  obtain ⟨hF0,arr,E',hbb,hsz,hcc⟩:=av
  have ho:off<cs.length:=(List.getElem?_eq_some_iff.1 hc).1
  obtain ⟨u0,Yj,JX⟩:=hcc _ _ hc
  simp only [aa] at JX;subst JX
  have hcell:w.cell? ⟨b,off,none⟩=some (.int .i64 n):=by simp [World.cell?,hbb,Yj]
  have hfr:w.frozen? ⟨b,off,none⟩=false:=by simp [World.frozen?,hbb]
  have oO:(Op.intArith .add .i64 n m).run P w= .ok (.int .i64 (IntKind.i64.wrap (n+m))) w:=by simp [Op.intArith]
  have hrun:=run_call_add hf hname hb hn .i64 he hcell hfr oO
  have hr:(execOp a.eval ⟨dst, .call ⟨.value (.func f), #[x,y],ats⟩,ty,pos,after,gd⟩).run P w= .ok (.value (.int .i64 (IntKind.i64.wrap (n+m)))) (w.setCell ⟨b,off,none⟩ (.int .i64 (IntKind.i64.wrap (n+m)))):=by
    have hfv:a.eval (.func f)= .func (.func f) #[] #[]:=rfl
    simp [execOp,resolve,Deferred.ofValue,invoke,hv,hu,hfv,hrun]
  refine fV.NZ (m:=b) (h1:=az b (cs.set off (ag .i64 (IntKind.i64.wrap (n+m))))) aF hown hi (fun F1 S w h=>h.1) hr rfl rfl rfl (by simp [World.setCell]) (fun k hk=>fM w _ _ k hk) (fun F1 h=> ?_) (fun hS hag hO=>hk () _ _ S F trivial hS (fun _ h=>h) hag hO rfl)
  have hag:∀k,S k→(w.setCell ⟨b,off,none⟩ (.int .i64 (IntKind.i64.wrap (n+m)))).heap[k]?=w.heap[k]?:=fun k hk=>fM w _ _ k (fun e=>by
    obtain ⟨F1',F2',f1,_,f3,_⟩:=hown.xx hi
    exact aF.dG k hk (e▸(f1 b f3.1).1))
  refine ⟨h.1,arr.setIfInBounds off (.int .i64 (IntKind.i64.wrap (n+m))),E',by simp [World.setCell,Array.getElem?_modify,hbb],by simp [hsz],fun j q' hj=> ?_⟩
  rw [List.getElem?_set] at hj
  by_cases e:off=j
  · subst e
    rw [if_pos rfl,if_pos ho] at hj;cases hj
    have h9:off<arr.size:=by omega
    exact ⟨_,by simp [h9],rfl⟩
  · rw [if_neg e] at hj
    obtain ⟨u,JP,hq⟩:=hcc j q' hj
    exact ⟨u,by simp [Array.getElem?_setIfInBounds_ne e,JP],q'.mono (fun _ h=>h) hag hq⟩
theorem Et {n:Nat} {i:Int} (hT:P.underlying T=some (.slice E)) (hn:P.cellsOf E=1) (hb:P.bytesOf E=1) (hz:jI P E=some [.int .u8 0]) (hx:bu env x (ag .i64 i)) (hi:i=(n:Int)) (hle:n≤281474976710656):
    bl P hs env ⟨dst, .makeSlice T x x,ty,pos,after,gd⟩ (ai 1 aj (List.replicate n 0)):=by
  intro a w S F h1 h2 h3 h4 qe K Q hk
  have hv:=hx S w a qe;simp only [aa] at hv
  subst hi
  have hr:=xD (dst:=dst) (ty:=ty) (pos:=pos) (after:=after) (gd:=gd) (w:=w) hT hn hb hz hv hle
  unfold Oper.wp
  rw [hr]
  refine hk _ _ _ (Grow.new1 w S _) ⟨some ⟨w.heap.size,0,none⟩,n,by simp,by simp,by simpa using hle,fun _=>⟨rfl, .inr rfl,fun t b hb j q hj=> ?_⟩⟩
  have e0:j=0:=by
    have:=(List.getElem?_eq_some_iff.1 hj).1
    simp [aj] at this;exact this
  subst e0
  simp [aj] at hj;subst hj
  refine ⟨.int .u8 (b.toNat:Int), ?_,rfl⟩
  have Wa:(mV (List.replicate n 0))[t]?=some (.int .u8 (b.toNat:Int)):=by rw [qo,hb];rfl
  simp [World.cell?]
  simpa using Wa
theorem Eu {off len:Nat} {o:Option Nat} (hT:P.underlying T=some (.slice E)) (hx:bu env x (tM (fun b=>jM b off len) (aa (.slice none 0 0)) o)) (hy:bu env y (aa (.slice none 0 0))):bl P hs env ⟨dst, .binOp .eql T x y T',ty,pos,after,gd⟩ (aq (o=none)):=by
 cases o with
 |some b=>exact (xE hT hx hy).le (af.prop (by simp))
 | none=>
  exact bl.aJ fun ρ w S F _ he=>by
   have h1:=he.o _ _ hx;have h2:=he.o _ _ hy;simp only [tM,aa] at h1 h2
   have e2:(binOp .eql T (.slice none 0 0) (.slice none 0 0)).run P w= .ok (.bool true) w:=by
    show ((do pure (.bool (←Op.equalIn (9999+1) T (.slice none 0 0) (.slice none 0 0)))):Sem Value).run P w=_
    rw [bw (kN 9999 none 0 0 hT)];rfl
   exact ⟨.bool true,by simp [execOp,h1,h2,eqGuard,e2],_,rfl,by simp⟩
theorem Ev {off len:Nat} {o:Option Nat} (hT:P.underlying T=some (.slice E)) (hx:bu env x (tM (fun b=>jM b off len) (aa (.slice none 0 0)) o)) (hy:bu env y (aa (.slice none 0 0))):bl P hs env ⟨dst, .binOp .neq T x y T',ty,pos,after,gd⟩ (aq (o≠none)):=by
 cases o with
 |some b=>exact (Er hT hx hy).le (af.prop (by simp))
 | none=>
  exact bl.aJ fun ρ w S F _ he=>by
   have h1:=he.o _ _ hx;have h2:=he.o _ _ hy;simp only [tM,aa] at h1 h2
   have e2:(binOp .neq T (.slice none 0 0) (.slice none 0 0)).run P w= .ok (.bool false) w:=by
    show ((do pure (.bool (!(←Op.equalIn (9999+1) T (.slice none 0 0) (.slice none 0 0))))):Sem Value).run P w=_
    rw [bw (kN 9999 none 0 0 hT)];rfl
   exact ⟨.bool false,by simp [execOp,h1,h2,eqGuard,e2],_,rfl,by simp⟩
theorem fV.same {o:Oper} {γ:Type} {φ:γ→Prop} {hs':γ→List HP} {q:γ→VP} {q':VP} (h:fV P hs env o φ hs' q) (hl:∀g,φ g→aB (hs' g) hs) (hq:∀g,φ g→af (q g) q'):fV P hs env o (γ:=Unit) (fun _=>True) (fun _=>hs) (fun _=>q'):=
 fun c a w S F h1 h2 h3 K Q hk=>h c a w S F h1 h2 h3 K Q fun g v w' S' F' hφ hs hS hag ho hqv=>hk () v w' S' F' trivial hs hS hag (hl g hφ _ _ _ ho) (hq g hφ _ _ _ hqv)
theorem cc.ge {ops:Array Oper} {Q:Exit→Act→World→Prop} {c:Ctx} {l:List Oper} {o:Oper} {d:Tmp} {j:Nat} {want:Bool} {t:Tmp} {c0 p:Prop} (hl:look env t=some (ej c0 (aq p))∨(look env t=some (aq p)∧c0=True)) (tc:o.guard=some (j,want)) (hj:(ops[j]?).bind (·.dst)=some t) (ht:Nat.blt t c.n=true)
    (h:(c0∧(if want then p else ¬p))→fV P hs env o (γ:=Unit) (fun _=>True) (fun _=>hs) (fun _=>q)) (nX:o.dst=some d) (hd:Nat.blt d c.n=true) (k:cc P ops Q c l hs ((d,ej (c0∧(if want then p else ¬p)) q)::env)):cc P ops Q c (o::l) hs env:=by
  intro a w hst
  obtain ⟨h1,h2,S,F,h3,h4,h5⟩:=hst
  refine wpListIn_step fun K hK=> ?_
  have ht':t<a.tmps.size:=by rw [h2];simpa using ht
  have h6:a.tmps[t]?=some (a.tmps.getD t undef):=by simp [ht']
  have hk:∀v w' S' F',kI c w' S' F'→(∀k,S k→S' k)→(∀k,S k→w'.heap[k]?=w.heap[k]?)→cS hs F' S' w'→(ej (c0∧(if want then p else ¬p)) q).p S' w' v→K (a.put o.dst v) w':=fun v w' S' F' k1 k2 k3 k4 k5=>hK _ _ (k _ _ ⟨by rw [Act.dA];exact h1,by rw [Act.gw];exact h2,S',F',k1,k4,by rw [nX];exact (h5.mono k2 k3).put k5 (by rw [h2];simpa using hd)⟩)
  have hb:(c0∧∃b,a.tmps.getD t undef= .bool b∧(b=true↔p))∨(¬c0∧a.tmps.getD t undef=undef):=by
    rcases hl with hl|⟨hl,hc⟩
    · exact cm.Tl hl S w a.tmps h5
    · exact .inl ⟨hc▸trivial,h5 t _ hl⟩
  rcases hb with ⟨hc,b,hb,AS⟩|⟨hc,hu⟩
  · have hy:yielded ops a.tmps j=some b:=by
      unfold yielded;rw [hj];simp only [Option.bind_some,h6,hb]
    by_cases hw:b=want
    · have hp:(if want then p else ¬p):=by
        cases want
        · simp at hw ⊢;intro hp';rw [AS.2 hp'] at hw;cases hw
        · simpa using AS.1 hw
      rw [if_pos (by simp [Region.wanted,tc,hy,hw])]
      exact Oper.qV ((h ⟨hc,hp⟩).jv h3 h4 h5) (h ⟨hc,hp⟩ c a w S F h3 h4 h5 K Q fun g v w' S' F' _ k1 k2 k3 k4 k5=>hk v w' S' F' k1 k2 k3 k4 ⟨fun _=>k5,fun hn=>(hn ⟨hc,hp⟩).elim⟩)
    · have hp:¬(if want then p else ¬p):=by
        cases want
        · simp at hw ⊢;exact AS.1 hw
        · intro hp';exact hw (AS.2 (by simpa using hp'))
      rw [if_neg (by simp [Region.wanted,tc,hy,hw])]
      exact ⟨fun _ _=>trivial,hk _ _ S F h3 (fun _ h=>h) (fun _ _=>rfl) h4 ⟨fun hn=>(hp hn.2).elim,fun _=>rfl⟩⟩
  · have hy:yielded ops a.tmps j=none:=by
      unfold yielded;rw [hj];simp only [Option.bind_some,h6,hu];rfl
    rw [if_neg (by simp [Region.wanted,tc,hy])]
    exact ⟨fun _ _=>trivial,hk _ _ S F h3 (fun _ h=>h) (fun _ _=>rfl) h4 ⟨fun hn=>(hc hn.1).elim,fun _=>rfl⟩⟩
theorem Bt (t:Nat) (q:VP) (e:Env):look ((t,q)::e) t=some q:=by rw [bH,if_pos rfl]
theorem cc.egT {ops:Array Oper} {Q:Exit→Act→World→Prop} {c:Ctx} {l:List Oper} {o:Oper} {d:Tmp} {j:Nat} {t:Tmp} {p:Prop} (hl:look env t=some (aq p)) (tc:o.guard=some (j,true)) (hj:(ops[j]?).bind (·.dst)=some t) (ht:Nat.blt t c.n=true)
    (h:p→fV P hs env o (γ:=Unit) (fun _=>True) (fun _=>hs) (fun _=>q)) (nX:o.dst=some d) (hd:Nat.blt d c.n=true) (k:cc P ops Q c l hs ((d,ej (p) q)::env)):cc P ops Q c (o::l) hs env:=by
  have hr:(True∧(if (true:Bool)=true then p else ¬p))↔(p):=⟨fun h=>by simpa using h.2,fun h=>⟨trivial,by simpa using h⟩⟩
  refine cc.ge (c0:=True) (p:=p) (want:=true) (.inr ⟨hl,rfl⟩) tc hj ht (fun h1=>h (hr.1 h1)) nX hd fun a w hst=>k a w (hst.mono (cR.le (cR.cons (Bt _ _ _) (ej.congr hr) ?_)))
  exact cR.skip (by simp) (cR.refl _ _)
theorem cc.Vd {ops:Array Oper} {Q:Exit→Act→World→Prop} {c:Ctx} {l:List Oper} {o:Oper} {d:Tmp} {j:Nat} {t:Tmp} {p:Prop} (hl:look env t=some (aq p)) (tc:o.guard=some (j,false)) (hj:(ops[j]?).bind (·.dst)=some t) (ht:Nat.blt t c.n=true)
    (h:¬p→fV P hs env o (γ:=Unit) (fun _=>True) (fun _=>hs) (fun _=>q)) (nX:o.dst=some d) (hd:Nat.blt d c.n=true) (k:cc P ops Q c l hs ((d,ej (¬p) q)::env)):cc P ops Q c (o::l) hs env:=by
  have hr:(True∧(if (false:Bool)=true then p else ¬p))↔(¬p):=⟨fun h=>by simpa using h.2,fun h=>⟨trivial,by simpa using h⟩⟩
  refine cc.ge (c0:=True) (p:=p) (want:=false) (.inr ⟨hl,rfl⟩) tc hj ht (fun h1=>h (hr.1 h1)) nX hd fun a w hst=>k a w (hst.mono (cR.le (cR.cons (Bt _ _ _) (ej.congr hr) ?_)))
  exact cR.skip (by simp) (cR.refl _ _)
end
section
variable {P:Program} {hs:List HP} {env:Env} {q:VP} {o:Oper} {dst:Option Tmp} {ty T T':TypeId} {pos:String} {after:Array Edge} {gd:Option (Nat×Bool)} {x y:Operand}
theorem fV.conv {γ:Type} {φ:γ→Prop} {hs':γ→List HP} {q:γ→VP} {q':VP} {hsX:List HP} (h:fV P hs env o φ hs' q) (hl:∀g,φ g→aB (hs' g) hsX) (hq:∀g,φ g→af (q g) q'):fV P hs env o (γ:=Unit) (fun _=>True) (fun _=>hsX) (fun _=>q'):=
 fun c a w S F h1 h2 h3 K Q hk=>h c a w S F h1 h2 h3 K Q fun g v w' S' F' hφ hs hS hag ho hqv=>hk () v w' S' F' trivial hs hS hag (hl g hφ _ _ _ ho) (hq g hφ _ _ _ hqv)
theorem cc.egJ {ops:Array Oper} {Q:Exit→Act→World→Prop} {c:Ctx} {l:List Oper} {d:Tmp} {j:Nat} {t:Tmp} {p:Prop} (hsX:List HP) (hl:look env t=some (aq p)) (tc:o.guard=some (j,false)) (hj:(ops[j]?).bind (·.dst)=some t) (ht:Nat.blt t c.n=true)
    (h:¬p→fV P hs env o (γ:=Unit) (fun _=>True) (fun _=>hsX) (fun _=>q)) (hF:p→aB hs hsX) (nX:o.dst=some d) (hd:Nat.blt d c.n=true) (k:cc P ops Q c l hsX ((d,ej (¬p) q)::env)):cc P ops Q c (o::l) hs env:=by
  intro a w hst
  obtain ⟨h1,h2,S,F,h3,h4,h5⟩:=hst
  refine wpListIn_step fun K hK=> ?_
  have ht':t<a.tmps.size:=by rw [h2];simpa using ht
  have h6:a.tmps[t]?=some (a.tmps.getD t undef):=by simp [ht']
  have hk:∀v w' S' F',kI c w' S' F'→(∀k,S k→S' k)→(∀k,S k→w'.heap[k]?=w.heap[k]?)→cS hsX F' S' w'→(ej (¬p) q).p S' w' v→K (a.put o.dst v) w':=fun v w' S' F' k1 k2 k3 k4 k5=>hK _ _ (k _ _ ⟨by rw [Act.dA];exact h1,by rw [Act.gw];exact h2,S',F',k1,k4,by rw [nX];exact (h5.mono k2 k3).put k5 (by rw [h2];simpa using hd)⟩)
  obtain ⟨b,hb,AS⟩:=h5 t _ hl
  have hy:yielded ops a.tmps j=some b:=by
    unfold yielded;rw [hj];simp only [Option.bind_some,h6,hb]
  by_cases hp:p
  · have Wa:b=true:=AS.2 hp
    rw [if_neg (by simp [Region.wanted,tc,hy,Wa])]
    exact ⟨fun _ _=>trivial,hk _ _ S F h3 (fun _ h=>h) (fun _ _=>rfl) (hF hp _ _ _ h4) ⟨fun hn=>(hn hp).elim,fun _=>rfl⟩⟩
  · have Wa:b=false:=by cases b with|false=>rfl|true=>exact absurd (AS.1 rfl) hp
    rw [if_pos (by simp [Region.wanted,tc,hy,Wa])]
    exact Oper.qV ((h hp).jv h3 h4 h5) (h hp c a w S F h3 h4 h5 K Q fun g v w' S' F' _ k1 k2 k3 k4 k5=>hk v w' S' F' k1 k2 k3 k4 ⟨fun _=>k5,fun hn=>(hn hp).elim⟩)
end
def dU (P:Program) (l:List Oper) (n:Nat) (e0:Env) (T:gB→List HP→Prop) (FR:List HP):List (Nat×Nat)→gB→List HP→Prop
 |[],done,hs=>T done hs
 |(i,0)::r,done,hs=>∃o d q,l[i]?=some o∧o.dst=some d∧(∀hs',cm P l.toArray n hs' (cM o.after done++e0) o q)∧dU P l n e0 T FR r ((i,d,q)::done) hs
 |(i,1)::r,done,hs=>∃o d q,l[i]?=some o∧o.dst=some d∧(∀hs',aB hs' FR→cm P l.toArray n hs' (cM o.after done++e0) o q)∧aB hs FR∧dU P l n e0 T FR r ((i,d,q)::done) hs
 |(i,2)::r,done,hs=>∃(o:Oper) (d:Tmp),l[i]?=some o∧o.dst=some d∧o.guard=none∧∃(γ:Type) (φ:γ→Prop) (hs':γ→List HP) (q:γ→VP),fV P hs (cM o.after done++e0) o φ hs' q∧∀g,φ g→dU P l n e0 T FR r ((i,d,q g)::done) (hs' g)
 |(i,3)::r,done,hs=>∃(o:Oper),l[i]?=some o∧o.dst=none∧o.guard=none∧∃(γ:Type) (φ:γ→Prop) (hs':γ→List HP) (q:γ→VP),fV P hs (cM o.after done++e0) o φ hs' q∧∀g,φ g→dU P l n e0 T FR r ((i,n,U9)::done) (hs' g)
 |(i,4)::r,done,hs=>∃(o:Oper) (d:Tmp),l[i]?=some o∧o.dst=some d∧o.guard=none∧∃(γ:Type) (φ:γ→Prop) (hs':γ→List HP) (q:γ→VP),fV P hs (cM o.after done++e0) o φ hs' q∧(∀g,φ g→aB (hs' g) FR)∧∀g,φ g→dU P l n e0 T FR r ((i,d,q g)::done) (hs' g)
 |(_,_+5)::_,_,_=>False
section
variable {P:Program} {l:List Oper} {n:Nat} {hs:List HP} {e0:Env} {T:gB→List HP→Prop} {FR:List HP} {Q:Exit→Act→World→Prop} {c:Ctx} {done:gB} {r:List (Nat×Nat)} {i:Nat}
theorem dU.p {d:Tmp} {q:VP} {op:Op} {ty:TypeId} {pos:String} {after:Array Edge} (ho:l[i]?=some ⟨some d,op,ty,pos,after,none⟩)
    (h:∀hs',bl P hs' (cM after done++e0) ⟨some d,op,ty,pos,after,none⟩ q) (k:dU P l n e0 T FR r ((i,d,q)::done) hs):dU P l n e0 T FR ((i,0)::r) done hs:=
  ⟨_,d,q,ho,rfl,fun hs'=>cm.plain (h hs') rfl,k⟩
theorem dU.g {d:Tmp} {q:VP} {op:Op} {ty:TypeId} {pos:String} {after:Array Edge} {gd:Option (Nat×Bool)} (ho:l[i]?=some ⟨some d,op,ty,pos,after,gd⟩)
    (h:∀hs',cm P l.toArray n hs' (cM after done++e0) ⟨some d,op,ty,pos,after,gd⟩ q) (k:dU P l n e0 T FR r ((i,d,q)::done) hs):dU P l n e0 T FR ((i,0)::r) done hs:=
  ⟨_,d,q,ho,rfl,h,k⟩
theorem dU.o {d:Tmp} {q:VP} {op:Op} {ty:TypeId} {pos:String} {after:Array Edge} (ho:l[i]?=some ⟨some d,op,ty,pos,after,none⟩)
    (h:bl P FR (cM after done++e0) ⟨some d,op,ty,pos,after,none⟩ q) (hl:aB hs FR) (k:dU P l n e0 T FR r ((i,d,q)::done) hs):dU P l n e0 T FR ((i,1)::r) done hs:=
  ⟨_,d,q,ho,rfl,fun _ hl'=>(cm.plain h rfl).own hl',hl,k⟩
theorem dU.a {d:Tmp} {op:Op} {ty:TypeId} {pos:String} {after:Array Edge} {γ:Type} {φ:γ→Prop} {hs':γ→List HP} {q:γ→VP} (ho:l[i]?=some ⟨some d,op,ty,pos,after,none⟩)
    (h:fV P hs (cM after done++e0) ⟨some d,op,ty,pos,after,none⟩ φ hs' q) (hl:∀g,φ g→aB (hs' g) FR) (k:∀g,φ g→dU P l n e0 T FR r ((i,d,q g)::done) (hs' g)):dU P l n e0 T FR ((i,4)::r) done hs:=
  ⟨_,d,ho,rfl,rfl,γ,φ,hs',q,h,hl,k⟩
theorem dU.s {op:Op} {ty:TypeId} {pos:String} {after:Array Edge} {hs':List HP} {q:Unit→VP} (ho:l[i]?=some ⟨none,op,ty,pos,after,none⟩)
    (h:fV P hs (cM after done++e0) ⟨none,op,ty,pos,after,none⟩ (γ:=Unit) (fun _=>True) (fun _=>hs') q) (k:dU P l n e0 T FR r ((i,n,U9)::done) hs'):dU P l n e0 T FR ((i,3)::r) done hs:=
  ⟨_,ho,rfl,rfl,Unit,_,_,q,h,fun _ _=>k⟩
theorem dU.head {s:List (Nat×Nat)}:∀{k:Nat},2≤k→k≤4→dU P l n e0 T FR ((i,k)::s) done hs→∃(o:Oper) (dd:Nat) (γ:Type) (φ:γ→Prop) (hs':γ→List HP) (q:γ→VP),l[i]?=some o∧(o.dst=some dd∨o.dst=none∧dd=n)∧o.guard=none∧fV P hs (cM o.after done++e0) o φ hs' q∧(k=4→∀g,φ g→aB (hs' g) FR)∧
    ∀g,φ g→∃q':VP,(∀S w v,(q g).p S w v→(o.dst=some dd→q'.p S w v))∧(o.dst=none→∀S w v,q'.p S w v)∧dU P l n e0 T FR s ((i,dd,q')::done) (hs' g)
  |0,h,_,_=>absurd h (by omega)
  |1,h,_,_=>absurd h (by omega)
  |2,_,_,⟨o',d',g1,g2,g3,γ,φ,hs',q,g4,g5⟩=>⟨o',d',γ,φ,hs',q,g1, .inl g2,g3,g4,(fun h=>by cases h),fun g hg=>⟨q g,fun _ _ _ h _=>h,(fun h=>by rw [g2] at h;cases h),g5 g hg⟩⟩
  |3,_,_,⟨o',g1,g2,g3,γ,φ,hs',q,g4,g5⟩=>⟨o',n,γ,φ,hs',q,g1, .inr ⟨g2,rfl⟩,g3,g4,(fun h=>by cases h),fun g hg=>⟨U9,fun _ _ _ _ _=>trivial,fun _ _ _ _=>trivial,g5 g hg⟩⟩
  |4,_,_,⟨o',d',g1,g2,g3,γ,φ,hs',q,g4,g6,g5⟩=>⟨o',d',γ,φ,hs',q,g1, .inl g2,g3,g4,(fun _=>g6),fun g hg=>⟨q g,fun _ _ _ h _=>h,(fun h=>by rw [g2] at h;cases h),g5 g hg⟩⟩
  |_+5,_,h,_=>absurd h (by omega)
def SF (P:Program) (l:List Oper) (n:Nat) (e0:Env) (FR hs:List HP) (done:gB) (p:Nat×Nat):Prop:=
 ∃o d q dn,l[p.1]?=some o∧o.dst=some d∧(p.1,d,q)∈done∧(∀x,x∈dn→x∈done)∧cm P l.toArray n hs (cM o.after dn++e0) o q∧(p.2=0→∀hs',cm P l.toArray n hs' (cM o.after dn++e0) o q)∧(p.2=1→∀hs',aB hs' FR→cm P l.toArray n hs' (cM o.after dn++e0) o q)
theorem dU.expand:∀(r:List (Nat×Nat)) (done:gB),dU P l n e0 T FR r done hs→∃B r' done',r=B++r'∧(r'=[]∨∃i k s,r'=(i,k)::s∧2≤k)∧dU P l n e0 T FR r' done' hs∧(∀x,x∈done→x∈done')∧
    done'.map (·.1)=(B.map (·.1)).reverse++done.map (·.1)∧(∀x,x∈done'→x∈done∨((∃o,l[x.1]?=some o∧o.dst=some x.2.1)∧∃p∈B,p.1=x.1))∧(∀p,p∈B→SF P l n e0 FR hs done' p)∧∀p,p∈B→p.2<2
  |[],done,h=>⟨[],[],done,rfl, .inl rfl,h,fun _ h=>h,rfl,fun x hx=> .inl hx,fun p hp=>by simp at hp,fun p hp=>by simp at hp⟩
  | (i, 0)::r,done,h=>by
    obtain ⟨o,d,q,h1,h2,h3,h4⟩:=h
    obtain ⟨B,r',done',g1,g2,g3,g4,g5,g6,g7,g8⟩:=dU.expand r _ h4
    refine ⟨(i,0)::B,r',done',by rw [g1];rfl,g2,g3,fun x hx=>g4 x (List.mem_cons_of_mem _ hx),by rw [g5];simp,fun x hx=> ?_,fun p hp=> ?_,fun p hp=> ?_⟩
    · rcases g6 x hx with h|⟨h,p,hp,he⟩
      · rcases List.mem_cons.1 h with h|h
        · subst h;exact .inr ⟨⟨o,h1,h2⟩,(i,0),List.mem_cons_self ..,rfl⟩
        · exact .inl h
      · exact .inr ⟨h,p,List.mem_cons_of_mem _ hp,he⟩
    · rcases List.mem_cons.1 hp with h|h
      · subst h;exact ⟨o,d,q,done,h1,h2,g4 _ (List.mem_cons_self ..),fun x hx=>g4 x (List.mem_cons_of_mem _ hx),h3 hs,fun _=>h3,fun h=>by simp at h⟩
      · exact g7 p h
    · rcases List.mem_cons.1 hp with h|h
      · subst h;simp
      · exact g8 p h
  | (i, 1)::r,done,h=>by
    obtain ⟨o,d,q,h1,h2,h3,h3b,h4⟩:=h
    obtain ⟨B,r',done',g1,g2,g3,g4,g5,g6,g7,g8⟩:=dU.expand r _ h4
    refine ⟨(i,1)::B,r',done',by rw [g1];rfl,g2,g3,fun x hx=>g4 x (List.mem_cons_of_mem _ hx),by rw [g5];simp,fun x hx=> ?_,fun p hp=> ?_,fun p hp=> ?_⟩
    · rcases g6 x hx with h|⟨h,p,hp,he⟩
      · rcases List.mem_cons.1 h with h|h
        · subst h;exact .inr ⟨⟨o,h1,h2⟩,(i,1),List.mem_cons_self ..,rfl⟩
        · exact .inl h
      · exact .inr ⟨h,p,List.mem_cons_of_mem _ hp,he⟩
    · rcases List.mem_cons.1 hp with h|h
      · subst h;exact ⟨o,d,q,done,h1,h2,g4 _ (List.mem_cons_self ..),fun x hx=>g4 x (List.mem_cons_of_mem _ hx),h3 hs h3b,(fun h=>by simp at h),fun _=>h3⟩
      · exact g7 p h
    · rcases List.mem_cons.1 hp with h|h
      · subst h;simp
      · exact g8 p h
  |(i,2)::r,done,h=>⟨[],(i,2)::r,done,rfl, .inr ⟨i,2,r,rfl,by omega⟩,h,fun _ h=>h,rfl,fun x hx=> .inl hx,fun p hp=>by simp at hp,fun p hp=>by simp at hp⟩
  |(i,3)::r,done,h=>⟨[],(i,3)::r,done,rfl, .inr ⟨i,3,r,rfl,by omega⟩,h,fun _ h=>h,rfl,fun x hx=> .inl hx,fun p hp=>by simp at hp,fun p hp=>by simp at hp⟩
  |(i,4)::r,done,h=>⟨[],(i,4)::r,done,rfl, .inr ⟨i,4,r,rfl,by omega⟩,h,fun _ h=>h,rfl,fun x hx=> .inl hx,fun p hp=>by simp at hp,fun p hp=>by simp at hp⟩
  |(_,_+5)::_,_,h=>h.elim
structure ae9 (P:Program) (l:List Oper) (c:Ctx) (e0:Env) (T:gB→List HP→Prop) (FR:List HP) (plan:List (Nat×Nat)) (pre r:List (Nat×Nat)) (done:gB) (hs:List HP) (listed:Array Bool) (a:Act) (w:World):Prop where
 df:a.defers=c.df
 sz:a.tmps.size=c.n
 split:plan=pre++r
 dr:dU P l c.n e0 T FR r done hs
 hd:r=[]∨∃i k s,r=(i,k)::s∧2≤k
 un:∀p∈r,listed.getD p.1 false=false
 idx:done.map (·.1)=(pre.map (·.1)).reverse
 dst:∀x∈done,∃o,l[x.1]?=some o∧(o.dst=some x.2.1∨o.dst=none∧x.2.1=c.n)
 He:∀p∈pre,listed.getD p.1 false=false→SF P l c.n e0 FR hs done p
 st:∃S F,kI c w S F∧cS hs F S w∧cL e0 S w a.tmps∧∀j d q,(j,d,q)∈done→listed.getD j false=true→q.p S w (a.tmps.getD d undef)
theorem Ew {m g:Nat} {env:Env} {plan:List (Nat×Nat)} (hB:mU l.toArray plan m g c.n=true) (hT:∀done hs,T done hs→cc P l.toArray Q c (l.drop m) hs (fP done++env)):
    ∀(u:Nat) (listed:Array Bool) (a:Act) (w:World) (pre r:List (Nat×Nat)) (done:gB) (hs:List HP),count m listed=u→HeadInv .any l.toArray m listed→ae9 P l c (strip (dstsOf (l.take m)) env) T FR plan pre r done hs listed a w→wpAnyIn (WF c.ro) 0 P .any l.toArray Q (u+g) listed a w:=by
  simp only [mU,Ek,Bool.and_eq_true] at hB
  obtain ⟨⟨⟨⟨⟨⟨⟨⟨⟨⟨hsum,hnd⟩,hds⟩,hback⟩,hsc⟩,NN⟩,Tx⟩,rB⟩,Va⟩,hpc⟩,hpb⟩:=hB
  have xB:m+g=l.toArray.size:=by simpa using hsum
  have NO:(dstsOf (l.take m)).Nodup:=by simpa using hnd
  have y8:(plan.map (·.1)).Nodup:=by simpa using Tx
  have ae6:plan.length=m:=by simpa using rB
  have NP:∀p∈plan,p.1<m∧p.2≤4:=fun p hp=>by have:=List.all_eq_true.1 Va p hp;simpa using this
  have Hg:∀p∈plan,p.1<m:=fun p hp=>(NP p hp).1
  have AT:∀o∈l.take m,∀d,o.dst=some d→d<c.n:=fun o ho d hd=>by
    have:=List.all_eq_true.1 hds o (by simpa using ho)
    rw [hd] at this;simpa using this
  have hlen:(l.take m).length=m:=by simp at xB ⊢;omega
  have NQ:∀i,i<m→∃k,(i,k)∈plan:=fun i hi=>by
    obtain ⟨p,hp,he⟩:=List.any_eq_true.1 (List.all_eq_true.1 hpc i (List.mem_range.2 hi))
    have:p.1=i:=by simpa using he
    exact ⟨p.2,by rw [←this];exact hp⟩
  intro u
  induction u with
  | zero =>
    intro listed a w pre r done hs hc inv hu
    rw [Nat.zero_add]
    have hr:r=[]:=by
      cases r with
      |nil=>rfl
      | cons p r=>
        have h1:=hu.un p (List.mem_cons_self ..)
        have h2:=ja hc p.1 (Hg p (by rw [hu.split];simp))
        rw [h1] at h2;cases h2
    subst hr
    have hl:listed=(List.replicate m true++List.replicate g false).toArray:=by
      apply Array.ext
      · simp [inv.size] at xB ⊢;omega
      · intro i h1 h2
        have hi:i<l.toArray.size:=by rw [←inv.size];exact h1
        by_cases him:i<m
        · have:=ja hc i him
          simp [h1] at this
          simp [him,this]
        · have:=inv.tail i (by omega) hi
          simp [h1] at this
          simp [List.getElem_append,him,this]
    have GZ:(l.drop m).length=g:=by simp at xB ⊢;omega
    have hw:wpListIn (WF c.ro) 0 P l.toArray Q (l.drop m) a w:=by
      obtain ⟨S,F,h1,h2,h3,h4⟩:=hu.st
      refine hT done hs hu.dr a w ⟨hu.df,hu.sz,S,F,h1,h2,fun t q hl=> ?_⟩
      have hin:∀j,j<m→j∈done.map (·.1):=fun j hj=>by
        obtain ⟨k,hk⟩:=NQ j hj
        rw [hu.idx,List.mem_reverse]
        refine List.mem_map.2 ⟨(j,k), ?_,rfl⟩
        rw [hu.split] at hk;simpa using hk
      rcases ql hl with h5|⟨h6,h5⟩
      · obtain ⟨j,hj⟩:=qk h5
        refine h4 j t q hj (ja hc j ?_)
        have:j∈pre.map (·.1):=by
          have:=sK hj
          rw [hu.idx,List.mem_reverse] at this;exact this
        obtain ⟨p,hp,rfl⟩:=List.mem_map.1 this
        exact Hg p (by rw [hu.split];simp [hp])
      · refine h3 t q (oS h5 ?_)
        cases hct:(dstsOf (l.take m)).contains t with
        |false=>rfl
        | true=>
          obtain ⟨j,o,ho,hd⟩:=y5 hct
          have hjm:j<m:=by have:=(List.getElem?_eq_some_iff.1 ho).1;omega
          obtain ⟨x,hx,he⟩:=List.mem_map.1 (hin j hjm)
          obtain ⟨o',ho',hd'⟩:=hu.dst x hx
          rw [he] at ho'
          rw [List.getElem?_take,if_pos hjm] at ho
          rw [ho] at ho';cases ho'
          rw [hd] at hd'
          have hd2:t=x.2.1:=hd'.elim (fun h=>Option.some.inj h) (fun h=>by cases h.1)
          subst hd2
          exact absurd h6 (oR (j:=x.1) (q:=x.2.2) hx)
    have:=kM (F:=WF c.ro) (n:=0) (md:= .any) (P:=P) (ops:=l.toArray) (Q':=Q) (l.drop m) m listed a w (fun j=>by simp [List.getElem?_drop]) (by rw [GZ,hl];exact NN) hw
    rwa [GZ] at this
  | succ u ih =>
    intro listed a w pre r done hs hc inv hu
    rw [show u+1+g=(u+g)+1 by omega]
    refine ⟨fun h0=>absurd h0 (rK (by omega) inv.size hback (by omega)),fun i hi=> ?_⟩
    have him:i<m:=by
      rcases Nat.lt_or_ge i m with h|h
      · exact h
      · exfalso
        have U7:i<l.toArray.size:=by
          obtain ⟨_,o,ho,_⟩:=mem_ready.1 hi
          exact (Array.getElem?_eq_some_iff.1 ho).1
        have hg:Nat.beq g 0=false:=by
          cases hg:Nat.beq g 0
          · rfl
          · have:g=0:=by simpa using hg
            omega
        rw [hg] at hsc
        simp only [Bool.false_or,Bool.and_eq_true] at hsc
        obtain ⟨k,Cs,hk2⟩:∃k,k<m∧listed.getD k false=false:=by
          cases hf:(List.range m).filter (fun i=> !listed.getD i false) with
          |nil=>rw [count,hf] at hc;simp at hc
          | cons x l=>
            have:x∈(List.range m).filter (fun i=> !listed.getD i false):=by rw [hf];exact List.mem_cons_self ..
            rw [List.mem_filter,List.mem_range] at this
            exact ⟨x,this.1,by simpa using this.2⟩
        exact tail_waits hsc.1 hsc.2 (by omega) inv _ k rfl Cs (getD_in (by rw [inv.size];omega) hk2) i h hi
    obtain ⟨hun,o,ho,G9⟩:=mem_ready.1 hi
    have Ct:=getD_both hun
    have Cu:l[i]?=some o:=by simpa using ho
    have yw:(l.take m)[i]?=some o:=by rw [List.getElem?_take,if_pos him];exact Cu
    obtain ⟨S,F,h1,h2,h3,h4⟩:=hu.st
    have Tz:(done.map (·.1)).Nodup:=by
      rw [hu.idx]
      have:=y8
      rw [hu.split,List.map_append] at this
      exact (List.reverse_perm _).nodup_iff.2 (List.nodup_append.1 this).1
    have hneed:∀j,th l.toArray (m+1) i j=true→listed.getD j false=true:=fun j hj=>qm inv _ i j (fun o' ho'=>by
      rw [ho] at ho';cases ho';exact G9) hj
    have rD:∀dn:gB,(∀x,x∈dn→x∈done)→cL (cM o.after dn++strip (dstsOf (l.take m)) env) S w a.tmps:=fun dn hdn t x hx=>by
      rcases rJ hx with h5|h5
      · obtain ⟨j,hj,hw⟩:=tJ h5
        refine h4 j t x (hdn _ hj) ?_
        unfold waits at hw
        obtain ⟨e,he,hb⟩:=List.any_eq_true.1 hw
        simp only [Bool.and_eq_true] at hb
        have:e.on=j:=by simpa using hb.1
        rw [←this];exact G9 e (by simpa using he) hb.2
      · exact h3 t x h5
    have hslot:∀j dj qj,(j,dj,qj)∈done→j≠i→∀d,o.dst=some d→d≠dj:=fun j dj qj wh hij d nX e=>by
      subst e
      obtain ⟨oj,U8,hdj⟩:=hu.dst _ wh
      have tK:=AT o (List.mem_of_getElem? yw) d nX
      have hdj:oj.dst=some d:=hdj.resolve_right (fun h=>by have h9:d=c.n:=h.2;rw [h9] at tK;exact Nat.lt_irrefl _ tK)
      have hjm:j<m:=by
        have:j∈pre.map (·.1):=by
          have:=sK wh
          rw [hu.idx,List.mem_reverse] at this;exact this
        obtain ⟨p,hp,rfl⟩:=List.mem_map.1 this
        exact Hg p (by rw [hu.split];simp [hp])
      have TA:(l.take m)[j]?=some oj:=by rw [List.getElem?_take,if_pos hjm];exact U8
      exact hij (y7 NO TA yw hdj nX)
    have NR:∀t x,look (strip (dstsOf (l.take m)) env) t=some x→∀d,o.dst=some d→d≠t:=fun t x hx d nX e=>by
      subst e
      have:=(lE hx).2
      rw [nx yw nX] at this;cases this
    have NS:count m (listed.setIfInBounds i true)=u:=by have:=count_set him Ct (by rw [inv.size];omega);omega
    obtain ⟨k,hk⟩:=NQ i him
    rw [hu.split] at hk
    rcases List.mem_append.1 hk with hpre|hrest
    ·
      obtain ⟨o',d,q,dn,g1,nX,g3,g4,g5,g6⟩:=hu.He _ hpre Ct
      simp only at g1
      rw [Cu] at g1;cases g1
      have tK:=AT o (List.mem_of_getElem? yw) d nX
      have hne_r:∀p∈r,p.1≠i:=fun p hp e=>by
        have h7:=y8
        rw [hu.split,List.map_append] at h7
        exact (List.nodup_append.1 h7).2.2 i (List.mem_map.2 ⟨_,hpre,rfl⟩) p.1 (List.mem_map.2 ⟨p,hp,rfl⟩) e.symm
      unfold wpOpIn
      simp only [ho]
      have key:=g5 a w S F hu.sz h1.bO h1.bZ h1.dG h2 (rD dn g4) (wpAnyIn (WF c.ro) 0 P .any l.toArray Q (u+g) (listed.setIfInBounds i true)) Q (fun v w' S' gr hq=>by
        refine ih _ _ _ pre r done hs NS (inv.set hi him) ⟨by rw [Act.dA];exact hu.df,by rw [Act.gw];exact hu.sz,hu.split,hu.dr,hu.hd,fun p hp=> ?_,hu.idx,hu.dst,fun p hp KZ=> ?_,S',F,h1.grow gr,gr.yX h1.bO h1.bZ h2, ?_, ?_⟩
        · rw [getD_set_ne false (fun e=>hne_r p hp e.symm)];exact hu.un p hp
        · refine hu.He p hp ?_
          by_cases e:i=p.1
          · rw [←e];exact Ct
          · rw [getD_set_ne false e] at KZ;exact KZ
        · intro t x hx
          rw [fQ (NR t x hx)]
          exact gr.vp h1.bO (h3 t x hx)
        · intro j dj qj wh hlj
          by_cases hij:j=i
          · subst hij
            obtain ⟨rfl,rfl⟩:=sL Tz wh g3
            rw [nX]
            have:dj<a.tmps.size:=by rw [hu.sz];exact tK
            simpa [Act.put,this] using hq
          · rw [getD_set_ne false (fun e=>hij e.symm)] at hlj
            rw [fQ (hslot j dj qj wh hij)]
            exact gr.vp h1.bO (h4 j dj qj wh hlj))
      by_cases hw:Region.wanted o (yielded l.toArray a.tmps)=true
      · rw [if_pos hw] at key ⊢;exact Oper.qV (cm.jv g5 hu.sz h1 h2 (rD dn g4) hw) key
      · rw [if_neg hw] at key ⊢;exact ⟨fun _ _=>trivial,key⟩
    ·
      obtain ⟨i0,k0,s,rfl,hk2⟩:∃i0 k0 s,r=(i0,k0)::s∧2≤k0:=hu.hd.resolve_left (fun e=>by rw [e] at hrest;cases hrest)
      obtain ⟨hafter,hread⟩:=pE hpb hk2 hu.split
      have hii:i0=i:=by
        rcases List.mem_cons.1 hrest with e|e
        · cases e;rfl
        · have:=hneed i0 (hafter _ e)
          rw [hu.un (i0,k0) (List.mem_cons_self ..)] at this;cases this
      subst hii
      have NJ:∀p∈s,p.1≠i0:=fun p hp e=>by
        have h7:=y8
        rw [hu.split,List.map_append,List.map_cons] at h7
        exact (List.nodup_cons.1 (List.nodup_append.1 h7).2.1).1 (List.mem_map.2 ⟨p,hp,e⟩)
      have hnp:∀p∈pre,p.1≠i0:=fun p hp e=>by
        have h7:=y8
        rw [hu.split,List.map_append] at h7
        exact (List.nodup_append.1 h7).2.2 p.1 (List.mem_map.2 ⟨p,hp,rfl⟩) i0 (by simp) e
      obtain ⟨dd,γ,φ,hs',q,V7,g3,g4,DY,g5⟩:∃(dd:Nat) (γ:Type) (φ:γ→Prop) (hs':γ→List HP) (q:γ→VP),(o.dst=some dd∨o.dst=none∧dd=c.n)∧o.guard=none∧fV P hs (cM o.after done++strip (dstsOf (l.take m)) env) o φ hs' q∧(k0=4→∀g,φ g→aB (hs' g) FR)∧
          ∀g,φ g→∃q':VP,(∀S w v,(q g).p S w v→(o.dst=some dd→q'.p S w v))∧(o.dst=none→∀S w v,q'.p S w v)∧dU P l c.n (strip (dstsOf (l.take m)) env) T FR s ((i0,dd,q')::done) (hs' g):=by
        obtain ⟨o',dd,γ,φ,hs',q,g1,g2,g3,g4,DY,g5⟩:=dU.head hk2 (NP (i0,k0) (by rw [hu.split];simp)).2 hu.dr
        rw [Cu] at g1;cases g1
        exact ⟨dd,γ,φ,hs',q,g2,g3,g4,DY,g5⟩
      unfold wpOpIn
      simp only [ho]
      rw [if_pos (by simp [Region.wanted,g3])]
      refine Oper.qV (fV.jv g4 h1 h2 (rD done (fun _ h=>h))) (g4 c a w S F h1 h2 (rD done (fun _ h=>h)) _ _ fun gh v w' S' F' hφ aF hSS hag hown hq=> ?_)
      obtain ⟨q',hq1,Qc,g6⟩:=g5 gh hφ
      obtain ⟨B,r',done',e1,e2,e3,e4,e5,e6,e7,e8⟩:=dU.expand s _ g6
      refine ih _ _ _ (pre++(i0,k0)::B) r' done' (hs' gh) NS (inv.set hi him) ⟨by rw [Act.dA];exact hu.df,by rw [Act.gw];exact hu.sz,by rw [hu.split,e1];simp,e3,e2,fun p hp=> ?_,by rw [e5];simp [hu.idx],fun x hx=> ?_,fun p hp KZ=> ?_,S',F',aF,hown, ?_, ?_⟩
      · have hp':p∈s:=by rw [e1];simp [hp]
        rw [getD_set_ne false (fun e=>NJ p hp' e.symm)];exact hu.un p (List.mem_cons_of_mem _ hp')
      · rcases e6 x hx with h|h
        · rcases List.mem_cons.1 h with h|h
          · subst h;exact ⟨o,Cu,V7⟩
          · exact hu.dst x h
        · obtain ⟨⟨o1,f1,f2⟩,_⟩:=h
          exact ⟨o1,f1, .inl f2⟩
      · rcases List.mem_append.1 hp with h|h
        · have El:listed.getD p.1 false=false:=by
            rw [getD_set_ne false (fun e=>hnp p h e.symm)] at KZ;exact KZ
          obtain ⟨o1,d1,q1,dn,f1,f2,f3,f4,f5,f6,f7⟩:=hu.He p h El
          have hk2':¬2≤p.2:=fun h2=>by
              obtain ⟨a1,b1,hab⟩:=List.append_of_mem h
              have:=(pE hpb (a:=a1) (b:=b1++(i0,k0)::s) (i:=p.1) h2 (by rw [hu.split,hab];simp)).1 (i0,k0) (by simp)
              have:=hneed p.1 this
              rw [El] at this;cases this
          by_cases DX:k0=4
          · exact ⟨o1,d1,q1,dn,f1,f2,e4 _ (List.mem_cons_of_mem _ f3),fun x hx=>e4 x (List.mem_cons_of_mem _ (f4 x hx)),(if h0:p.2=0 then f6 h0 _ else f7 (by omega) _ (DY DX gh hφ)),f6,f7⟩
          have av:p.2=0:=by
            have hkind:p.2≠1:=fun h1=>by
              have:=hneed p.1 (hread DX p (.inr h) h1)
              rw [El] at this;cases this
            have hk2:¬2≤p.2:=fun h2=>by
              obtain ⟨a1,b1,hab⟩:=List.append_of_mem h
              have:=(pE hpb (a:=a1) (b:=b1++(i0,k0)::s) (i:=p.1) h2 (by rw [hu.split,hab];simp)).1 (i0,k0) (by simp)
              have:=hneed p.1 this
              rw [El] at this;cases this
            omega
          exact ⟨o1,d1,q1,dn,f1,f2,e4 _ (List.mem_cons_of_mem _ f3),fun x hx=>e4 x (List.mem_cons_of_mem _ (f4 x hx)),f6 av _,fun _=>f6 av,f7⟩
        · rcases List.mem_cons.1 h with h|h
          · subst h
            have:i0<listed.size:=by rw [inv.size];omega
            simp [this] at KZ
          · exact e7 p h
      · intro t x hx
        rw [fQ (NR t x hx)]
        exact x.mono hSS hag (h3 t x hx)
      · intro j dj qj wh hlj
        by_cases hij:j=i0
        · subst hij
          have TB:(done'.map (·.1)).Nodup:=by
            rw [e5]
            have h7:=y8
            rw [hu.split,e1] at h7
            simp only [List.map_append,List.map_cons,hu.idx] at h7 ⊢
            refine (List.Perm.nodup_iff ?_).1 (List.nodup_append.1 (by simpa using h7:((pre.map (·.1)++j::B.map (·.1))++r'.map (·.1)).Nodup)).1
            have q1:(pre.map (·.1)++j::B.map (·.1)).Perm (B.map (·.1)++(j::pre.map (·.1))):=by
              refine List.perm_append_comm.trans ?_
              simp only [List.cons_append]
              exact (List.perm_middle.symm)
            exact q1.trans ((List.reverse_perm _).symm.append ((List.reverse_perm _).symm.cons j))
          obtain ⟨rfl,rfl⟩:=sL TB wh (e4 _ (List.mem_cons_self ..))
          rcases V7 with nX|⟨nX,_⟩
          · have tK:=AT o (List.mem_of_getElem? yw) dj nX
            rw [nX]
            have:dj<a.tmps.size:=by rw [hu.sz];exact tK
            simpa [Act.put,this] using hq1 _ _ _ hq nX
          · exact Qc nX _ _ _
        · rw [getD_set_ne false (fun e=>hij e.symm)] at hlj
          rcases e6 _ wh with h|⟨_,p,hp,hpe⟩
          · rcases List.mem_cons.1 h with h|h
            · cases h;exact absurd rfl hij
            · rw [fQ (hslot j dj qj h hij)]
              exact qj.mono hSS hag (h4 j dj qj h hlj)
          · simp only at hpe
            have:=hu.un p (List.mem_cons_of_mem _ (by rw [e1];simp [hp]))
            rw [hpe,hlj] at this;cases this
theorem dU.fin {ops:Array Oper} {tl:List Oper} {env:Env} (h:cc P ops Q c tl hs (fP done++env)):dU P l n e0 (fun done hs=>cc P ops Q c tl hs (fP done++env)) FR [] done hs:=h
theorem aM.Cy {id:Nat} {env:Env} (plan:List (Nat×Nat)) (m g:Nat) (hm:P.follows .mixedOrders=true) (hB:mU l.toArray plan m g c.n=true)
    (h:dU P l c.n (strip (dstsOf (l.take m)) env) (fun done hs=>cc P l.toArray Q c (l.drop m) hs (fP done++env)) FR plan [] hs):aM P Q c (.region id l.toArray true) hs env:=by
  intro a w hst
  refine wpIn_region_any hm ?_
  obtain ⟨h1,h2,S,F,h3,h4,h5⟩:=hst
  have hsum:m+g=l.toArray.size:=by
    simp only [mU,Ek,Bool.and_eq_true] at hB
    simpa using hB.1.1.1.1.1.1.1.1.1.1
  have g0:=Grow.drew w S
  obtain ⟨B,r',done',e1,e2,e3,e4,e5,e6,e7,e8⟩:=dU.expand plan [] h
  have key:=Ew (FR:=FR) (P:=P) (Q:=Q) (l:=l) (c:=c) (env:=env) hB (fun _ _ h=>h) m (Array.replicate l.toArray.size false) a {w with drawn:=w.drawn+1} B r' done' hs ?_ ?_ ?_
  · rw [hsum] at key;exact key
  · unfold count
    rw [List.filter_eq_self.2 (fun i hi=>by rw [getD_replicate_false];rfl)]
    simp
  · exact ⟨by simp,fun j oj _ hl=>(by rw [getD_replicate_false] at hl;cases hl),fun t _ ht=>getD_in (by simpa using ht) (getD_replicate_false _ _)⟩
  · exact ⟨h1,h2,e1,e3,e2,fun p _=>getD_replicate_false _ _,by simpa using e5,fun x hx=>(e6 x hx).elim (fun h=>by cases h) (fun h=>let ⟨o,f1,f2⟩:=h.1;⟨o,f1, .inl f2⟩),fun p hp _=>e7 p hp,S,F,h3.grow g0,g0.yX h3.bO h3.bZ h4,fun t q hl=>g0.vp h3.bO (h5 t q (lE hl).1),fun j d q _ hl=>by rw [getD_replicate_false] at hl;cases hl⟩
end
end Go.Hl
end
