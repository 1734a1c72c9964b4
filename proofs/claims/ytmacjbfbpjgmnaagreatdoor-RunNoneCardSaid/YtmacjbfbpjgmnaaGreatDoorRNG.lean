/-
  What the statement's proof leans on, several texts in one (packed by a program).
-/
import Derived.Test.YtmacjbfbpjgmnaaGreatDoorRNF
import Derived.Laws.LoneSync
set_option linter.all false
set_option maxRecDepth 1000000
set_option maxHeartbeats 4000000
section
namespace Go.Hl
open Go.RowKit
def ku(l:List HP):HP:=⟨fun F S w=>cT l F S w,fun h1 h2 h3 h4 h=>cT.mono h1 h2 h3 h4 h⟩
variable {α:Type}
def NZ(f:α→HP):HP:=⟨fun F S w=>∃a,(f a).p F S w,fun h1 h2 h3 h4 ⟨a,h⟩=>⟨a,(f a).mono h1 h2 h3 h4 h⟩⟩
def eY(p:Prop):HP:=⟨fun _ _ _=>p,fun _ _ _ _ h=>h⟩
theorem aA.refl(hs:List HP):aA hs hs:=fun _ _ _ h=>h
variable {b:List HP}
theorem aA.trans{a c:List HP}(h:aA a b)(k:aA b c):aA a c:=fun F S w x=>k F S w (h F S w x)
theorem aA.perm{a b:List HP}(h:a.Perm b):aA a b:=fun _ _ _ x=>x.perm h
theorem aA.cons(h0:HP){a:List HP}(h:aA a b):aA (h0::a) (h0::b):=fun F S w ⟨F1,F2,h1,h2,h3,h4⟩=>⟨F1,F2,h1,h2,h3,h _ _ _ h4⟩
theorem aA.drop{h0:HP}{a:List HP}(h:aA a b):aA (h0::a) b:=fun F S w ⟨F1,F2,h1,h2,h3,h4⟩=>(h _ _ _ h4).mono h2 (fun _ h=>h) (fun _ _=>rfl) (fun _ _=>rfl)
theorem aA.nil(a:List HP):aA a []:=fun _ _ _ _=>trivial
variable {r:List HP}
theorem aA.pack{l:List HP}:aA (l++r) (ku l::r):=fun F S w h=>by
 obtain⟨F1,F2,h1,h2,h3,h4⟩:=cT.append.1 h;exact⟨F1,F2,h1,h2,h3,h4⟩
theorem aA.unpack{l:List HP}:aA (ku l::r) (l++r):=fun F S w ⟨F1,F2,h1,h2,h3,h4⟩=>cT.append.2 ⟨F1,F2,h1,h2,h3,h4⟩
theorem aA.ex{f:α→HP}(a:α):aA (f a::r) (NZ f::r):=fun F S w ⟨F1,F2,h1,h2,h3,h4⟩=>⟨F1,F2,h1,h2,⟨a,h3⟩,h4⟩
theorem aA.pure{p:Prop}(h:p):aA r (eY p::r):=fun F S w x=>⟨fun _=>False,F,fun _ h=>h.elim,fun _ h=>h,h,x⟩
def uo:List Nat→List Nat→Bool
 |[],l=>l.isEmpty
 |i::ix,l=>l.contains i && uo ix (l.erase i)
theorem vU:∀{a b:List Nat},uo a b=true→a.Perm b
 |[],b,h=>by simp[uo] at h;subst h;exact .refl _
 |i::ix,b,h=>by
  simp only[uo,Bool.and_eq_true,List.contains_iff_mem] at h;exact((vU h.2).cons i).trans (List.perm_cons_erase h.1).symm
theorem Perm.idx{hs hs':List α}(ix:List Nat)(h1:ix.filterMap (fun i=>hs[i]?)=hs')(h2:uo (List.range hs.length) ix=true):hs.Perm hs':=by
 have e:(List.range hs.length).filterMap (fun i=>hs[i]?)=hs:=by
  have:∀(l:List α) (k:Nat) (pre:List α),pre.length=k→(List.range' k l.length).filterMap (fun i=>(pre++l)[i]?)=l:=by
   intro l
   induction l with
   |nil=>intro k pre _;rfl
   |cons a l ih=>
    intro k pre hp;rw[List.length_cons,List.range'_succ,List.filterMap_cons];have:(pre++a::l)[k]?=some a:=by rw[List.getElem?_append_right (by omega)];simp[hp]
    rw[this];have h3:=ih (k+1) (pre++[a]) (by simp[hp]);simp only[List.append_assoc,List.singleton_append] at h3;rw[h3]
  have h4:=this hs 0 [] rfl;rw[List.range_eq_range'];simpa using h4
 rw[←h1]
 conv=>lhs;rw[←e]
 exact(vU h2).filterMap _
theorem aA.left{a:List HP}:aA (a++b) a:=fun F S w h=>by
 obtain⟨F1,F2,h1,h2,h3,h4⟩:=cT.append.1 h;exact h3.mono (fun k hk=>(h1 k hk).1) (fun _ h=>h) (fun _ _=>rfl) (fun _ _=>rfl)
theorem aA.fI{hs hs':List HP}(ix rest:List Nat)(h1:ix.filterMap (fun i=>hs[i]?)=hs')(h2:uo (List.range hs.length) (ix++rest)=true):aA hs hs':=by
 have h:=Perm.idx (hs:=hs) (ix++rest) rfl h2;rw[List.filterMap_append,h1] at h;exact(aA.perm h).trans aA.left
section
variable {P:Program} {hs:List HP} {env:Env} {q:VP} {dst:Option Tmp} {ty T T' E K V:TypeId} {pos:String} {after:Array Edge} {gd:Option (Nat×Bool)} {x y z:Operand}
theorem aJ.own{Q:Exit→Act→World→Prop}{c:Ctx}{s:Code}{hs':List HP}(h:aA hs hs')(k:aJ P Q c s hs' env):aJ P Q c s hs env:=fun a w ⟨h1,h2,S,F,h3,h4,h5⟩=>k a w ⟨h1,h2,S,F,h3,h _ _ _ h4,h5⟩
theorem bx.own{Q:Exit→Act→World→Prop}{c:Ctx}{e:Exit}{hs':List HP}(h:aA hs hs')(k:bx Q e c hs' env):bx Q e c hs env:=fun a w ⟨h1,h2,S,F,h3,h4,h5⟩=>k a w ⟨h1,h2,S,F,h3,h _ _ _ h4,h5⟩
theorem aJ.opens{Q:Exit→Act→World→Prop}{c:Ctx}{s:Code}{α:Type}{f:α→HP}{r:List HP}(k:∀a,aJ P Q c s (f a::r) env):aJ P Q c s (NZ f::r) env:=fun a w ⟨h1,h2,S,F,h3,⟨F1,F2,f1,f2,⟨b,f3⟩,f4⟩,h5⟩=>k b a w ⟨h1,h2,S,F,h3,⟨F1,F2,f1,f2,f3,f4⟩,h5⟩
theorem aJ.eY{Q:Exit→Act→World→Prop}{c:Ctx}{s:Code}{p:Prop}{r:List HP}(k:p→aJ P Q c s r env):aJ P Q c s (eY p::r) env:=fun a w ⟨h1,h2,S,F,h3,⟨F1,F2,f1,f2,f3,f4⟩,h5⟩=>k f3 a w ⟨h1,h2,S,F,h3,f4.mono f2 (fun _ h=>h) (fun _ _=>rfl) (fun _ _=>rfl),h5⟩
def Ak(P:Program)(T:TypeId):Option Value:=(P.info? T).bind fun i=>i.zero
theorem vV{v:Value}(h:Ak P T=some v)(w:World):(zeroValue T).run P w= .ok v w:=by
 unfold Ak at h;cases hi:P.info? T with
 |none=>simp[hi] at h
 |some i=>
  simp only[hi,Option.bind_some] at h;simp[zeroValue,typeInfo,hi,h]
theorem EX{b cap len:Nat}{ats:Array TypeId}(ug:ats[0]?=some T)(hT:P.underlying T=some (.slice E))(hx:aU env x (af (bA (some (b,cap)) len))):aT P hs env ⟨dst, .call ⟨.builtin .len, #[x],ats⟩,ty,pos,after,gd⟩ (aa .i64 (len:Int)):=
 aT.aD fun ρ w S F _ he=>by
  have hv:=he.o _ _ hx;simp only[af,bA] at hv
  exact⟨.int .i64 (len:Int),by simp[execOp,resolve,invoke,builtin,Builtin.len_,ug,hv,run_underlying hT,goInt],rfl⟩
theorem vW{a:cP}{k0 k1:IntKind}:ag (aK [aa k0 a.1,aa k1 a.2]) (af (EW k0 k1 a)):=fun S w v ⟨arr,hv,hn,hc⟩=>by
 obtain⟨u0,h0,e0⟩:=hc 0 _ rfl;obtain⟨u1,h1,e1⟩:=hc 1 _ rfl;simp only[af] at e0 e1 ⊢;subst hv;subst e0;subst e1
 unfold EW
 congr 1
 apply Array.ext
 · simpa using hn
 · intro i h2 h3
   simp only[List.length_cons,List.length_nil] at hn
   match i,h2 with
   |0,_=>exact(Array.getElem?_eq_some_iff.1 h0).2
   |1,_=>exact(Array.getElem?_eq_some_iff.1 h1).2
   |i+2,h=>omega
theorem ej{b cap len n:Nat}{k:IntKind}{i:Int}(j:Nat)(hT:P.underlying T=some (.slice E))(hn:P.cellsOf E=n)(h0:Nat.blt 0 n=true)(hx:aU env x (af (bA (some (b,cap)) len)))(hy:aU env y (aa k i))(hi:i=(j:Int))(hj:j<len):
    aT P hs env ⟨dst, .indexAddr T x y,ty,pos,after,gd⟩ (ai b (j*n)):=
  aT.aD fun ρ w S F _ he=>by
    have hv:=he.o _ _ hx;simp only[af,bA] at hv
    have h2:=he.o _ _ hy;simp only[af] at h2
    subst hi;have hs:=run_sizeOf (T:=E) hn h0 w
    have mL:Addr.add ⟨b,0,none⟩ (j*n)=⟨b,j*n,none⟩:=by
      unfold Addr.add
      split<;>simp
    exact⟨_,by simp[execOp,hv,h2,Instr.indexAt,asIntOf,run_underlying hT,Instr.sureAddr,hs,mL,hj],rfl⟩
theorem uq{α:Type}{b cap n j r:Nat}{enc:α→List VP}[he:iy n enc]{xs:List α}{e:α}{F S:BS}{w:World}(h:(aI (some (b,cap)) n enc xs).p F S w)(hj:xs[j]?=some e)(hc:(enc e)[r]?=some q):∃u,w.cell? ⟨b,j*n+r,none⟩=some u∧q.p S w u:=by
 obtain⟨_,_,_,arr,T,hh,_,Qs⟩:=h;obtain⟨u,hu,hq⟩:=Qs _ _ (m0 he.len xs j e r q hj hc);exact⟨u,by simp[World.cell?,hh,hu],hq⟩
theorem kN{α:Type}{b cap n j r i:Nat}{enc:α→List VP}{xs:List α}{e:α}[he:iy n enc](hT:jc P T=some false)(hx:aU env x (ai b (j*n+r)))(hi:hs[i]?=some (aI (some (b,cap)) n enc xs))(hj:xs[j]?=some e)(hc:(enc e)[r]?=some q):aT P hs env ⟨dst, .load T x,ty,pos,after,gd⟩ q:=
 aT.aD fun ρ w S F ho lV=>by
  have hv:=lV.o _ _ hx;simp only[af] at hv
  obtain⟨F1,_,hp⟩:=ho.get hi;obtain⟨v,qI,hq⟩:=uq hp hj hc;refine⟨v,?_,hq⟩
  have h1:(loadVar T ⟨b,j*n+r,none⟩).run P w= .ok v w:=by
   unfold loadVar;rw[bh (dz hT w)];simp[qI]
  simp[execOp,hv,Instr.loadAt,Instr.sureAddr,h1]
theorem B8{α:Type}{b cap n j r i m:Nat}{enc:α→List VP}{xs:List α}{e:α}[he:iy n enc](hT:jc P T=some true)(hn:P.cellsOf T=m)(h0:Nat.blt 0 m=true)(hx:aU env x (ai b (j*n+r)))(hi:hs[i]?=some (aI (some (b,cap)) n enc xs))(hj:xs[j]?=some e)(hl:Nat.ble (r+m) (enc e).length=true):
    aT P hs env ⟨dst, .load T x,ty,pos,after,gd⟩ (aK (((enc e).drop r).take m)):=
  aT.aD fun ρ w S F ho lV=>by
    have hv:=lV.o _ _ hx;simp only[af] at hv
    obtain⟨F1,_,hp⟩:=ho.get hi;have hl':r+m≤(enc e).length:=by simpa using hl
    have hc:bQ S w b (j*n+r) ((enc e).drop r):=fun t q hq=>by
      rw[List.getElem?_drop] at hq;obtain⟨u,hu,NT⟩:=uq hp hj hq;exact⟨u,by rw[Nat.add_assoc];exact hu,NT⟩
    obtain⟨v,hr,hq⟩:=l7 hT hn h0 (cs:=((enc e).drop r).take m) (by simp;omega) (hc.take m);exact⟨v,by simp[execOp,hv,Instr.loadAt,Instr.sureAddr,hr],hq⟩
theorem EY{α:Type}{b cap n j r:Nat}{enc:α→List VP}[he:iy n enc]{xs:List α}{e e':α}{new:List VP}{vs:List Value}{F S:BS}{w w':World}(h:(aI (some (b,cap)) n enc xs).p F S w)(hj:xs[j]?=some e)(hl:r+new.length≤(enc e).length)(hE:enc e'=fh r new (enc e))(h0:0<n)
    (hag:∀k,S k→w'.heap[k]?=w.heap[k]?) (hvl:vs.length=new.length) (hnew:∀(t:Nat) (q:VP),new[t]?=some q→∃u,vs[t]?=some u∧q.p S w u)
    (hw:∀arr T,w.heap[b]?=some (.cells arr T (0,0))→j*n+r+vs.length≤arr.size→∃arr',w'.heap[b]?=some (.cells arr' T (0,0))∧arr'.size=arr.size∧(∀t,(t<j*n+r∨j*n+r+vs.length≤t)→arr'[t]?=arr[t]?)∧∀t v,vs[t]?=some v→arr'[j*n+r+t]?=some v):
    (aI (some (b,cap)) n enc (xs.set j e')).p F S w':=by
  obtain⟨hF,hlc,hm,arr,T,hh,hsz,hc⟩:=h;have hel:(enc e).length=n:=he.len e;have hjl:j<xs.length:=(List.getElem?_eq_some_iff.1 hj).1
  have hjn:j*n+n≤cap*n:=by
    have:(j+1)*n≤cap*n:=Nat.mul_le_mul_right _ (by omega);rw[Nat.add_mul,Nat.one_mul] at this;exact this
  obtain⟨arr',h1,h2,h3,h4⟩:=hw arr T hh (by rw[hsz,hvl];omega);refine⟨hF,by simpa using hlc,by simpa using hm,arr',T,h1,by rw[h2,hsz],fun t q hq=>?_⟩;obtain⟨y,hy,Sg⟩:=sj he.len h0 _ t q hq;have hdm:t=(t/n)*n+t%n:=by rw[Nat.mul_comm];exact(Nat.div_add_mod t n).symm
  have hmod:t%n<n:=Nat.mod_lt _ h0;rw[List.getElem?_set] at hy;by_cases rY:j=t/n
  · rw[if_pos rY,if_pos (by omega)] at hy
    cases hy;rw[hE,l9 r new (enc e) _ hl] at Sg;by_cases hin:r≤t%n∧t%n<r+new.length
    · rw[if_pos hin] at Sg
      obtain⟨u,hu,NT⟩:=hnew _ _ Sg;have h5:=h4 _ u hu;have h6:j*n+r+(t%n-r)=t:=by rw[rY];omega
      rw[h6] at h5;exact⟨u,h5,q.mono (fun _ h=>h) hag NT⟩
    · rw[if_neg hin] at Sg
      obtain⟨u,hu,NT⟩:=hc _ _ (m0 he.len xs j e _ q hj Sg);rw[rY,←hdm] at hu;exact⟨u,by rw[h3 t (by rw[hvl,rY];omega)];exact hu,q.mono (fun _ h=>h) hag NT⟩
  · rw[if_neg rY] at hy
    obtain⟨u,hu,NT⟩:=hc _ _ (m0 he.len xs (t/n) y _ q hy Sg);rw[←hdm] at hu
    suffices hout:t<j*n+r∨j*n+r+vs.length≤t by
      exact⟨u,(h3 t hout).trans hu,q.mono (fun _ h=>h) hag NT⟩
    rw[hvl];rcases Nat.lt_or_gt_of_ne rY with h5|h5
    · right
      have:(j+1)*n≤(t/n)*n:=Nat.mul_le_mul_right _ h5;rw[Nat.add_mul,Nat.one_mul] at this;omega
    · left
      have:(t/n+1)*n≤j*n:=Nat.mul_le_mul_right _ h5;rw[Nat.add_mul,Nat.one_mul] at this;omega
theorem oY {α:Type}[Flat q]{b cap n j r i:Nat}{enc:α→List VP}{xs:List α}{e:α}(e':α)[he:iy n enc](h0:Nat.blt 0 n=true)(hn:P.cellsOf T=1)(hx:aU env x (ai b (j*n+r)))(hy:aU env y q)(hi:hs[i]?=some (aI (some (b,cap)) n enc xs))(hj:xs[j]?=some e)(hl:Nat.blt r (enc e).length=true)(hE:enc e'=fh r [q] (enc e)):
    fN P hs env ⟨none, .store T x y,ty,pos,after,gd⟩ (γ:=Unit) (fun _=>True) (fun _=>hs.set i (aI (some (b,cap)) n enc (xs.set j e'))) (fun _=>af undef):=by
  intro c a w S F ax hown lV Kp Q hk;have hv:=hx S w a lV;simp only[af] at hv
  have hu:=hy S w a lV;have hl':r<(enc e).length:=by simpa using hl
  have hel:(enc e).length=n:=he.len e;have hjl:j<xs.length:=(List.getElem?_eq_some_iff.1 hj).1;obtain⟨F1,F2,f1,f2,f3,_,f4⟩:=hown.ue hi;obtain⟨hFb,hlc,_,arr,E',hb,hsz,hc⟩:=f3
  have hjn:j*n+n≤cap*n:=by
    have:(j+1)*n≤cap*n:=Nat.mul_le_mul_right _ (by omega);rw[Nat.add_mul,Nat.one_mul] at this;exact this
  have ho:j*n+r<arr.size:=by omega
  have hr:(execOp a.eval ⟨none, .store T x y,ty,pos,after,gd⟩).run P w= .ok .skip (w.setCell ⟨b,j*n+r,none⟩ (a.eval y)):=by
    simp[execOp,hv,Instr.storeAt,Instr.sureAddr,mN hn (Flat.flat hu) hb ho]
  have hne:∀k,k≠b→(w.setCell ⟨b,j*n+r,none⟩ (a.eval y)).heap[k]?=w.heap[k]?:=fun k hk=>dh w _ _ k hk;have hag:∀k,S k→(w.setCell ⟨b,j*n+r,none⟩ (a.eval y)).heap[k]?=w.heap[k]?:=fun k hk=>hne k (fun e=>ax.cR k hk (e▸(f1 b hFb).1));unfold Oper.wp;rw[hr];refine hk () undef _ S F trivial (ax.write (f1 b hFb).1 rfl rfl rfl (by simp[World.setCell]) hne) (fun _ h=>h) hag ?_ rfl
  have := f4 S F1 (w.setCell ⟨b,j*n+r,none⟩ (a.eval y)) (aI (some (b,cap)) n enc (xs.set j e')) (fun k hk=>(f1 k hk).2) (fun _ h=>h) (fun k hk=>hne k (fun e=>(f1 b hFb).2 (e▸hk))) hag
    (EY (new:=[q]) (vs:=[a.eval y]) ⟨hFb,hlc,by assumption,arr,E',hb,hsz,hc⟩ hj (by simp;omega) hE (by simpa using h0) hag rfl (fun t q' ht=>by
      cases t with
      |zero=>simp at ht;subst ht;exact⟨_,rfl,hu⟩
      | succ t => simp at ht) (fun Ta T1 hb1 qP=>⟨Ta.setIfInBounds (j*n+r) (a.eval y),by simp[World.setCell,Array.getElem?_modify,hb1],by simp,fun t ht=>Array.getElem?_setIfInBounds_ne (by simp at ht;omega),fun t v ht=>by
        cases t with
        | zero => simp at ht;subst ht;have h9:j*n+r<Ta.size:=by(simp at qP;omega)
                  simp[h9]
        |succ t=>simp at ht⟩))
  exact this.mono (fun k hk=>hk.elim (fun h=>(f1 k h).1) (f2 k)) (fun _ h=>h) (fun _ _=>rfl) (fun _ _=>rfl)
theorem I3{f:FuncId}{fn:Func}{cs:List VP}{b off i:Nat}{n m:Int}{ats:Array TypeId}(hf:P.funcs[f]?=some fn)(hname:(fn.name=="runtime.NumGoroutine")=false)(hb:fn.body.isNone=true)(hn:Extern.findNext fn=none)
    (he:Extern.find fn=some (Extern.Atomic.update (Op.intArith .add) .i64 true)) (hx:aU env x (ai b off)) (hy:aU env y (aa .i64 m)) (hi:hs[i]?=some (aF b cs)) (hc:cs[off]?=some (aa .i64 n)):
    fN P hs env ⟨dst, .call ⟨.value (.func f), #[x,y],ats⟩,ty,pos,after,gd⟩ (γ:=Unit) (fun _=>True) (fun _=>hs.set i (aF b (cs.set off (aa .i64 (IntKind.i64.wrap (n+m)))))) (fun _=>aa .i64 (IntKind.i64.wrap (n+m))):=by
  intro c a w S F ax hown lV Kp Q hk;have hv:=hx S w a lV;simp only[af] at hv
  have hu:=hy S w a lV;simp only[af] at hu
  obtain⟨F0,_,aj⟩:=hown.get hi;obtain⟨hF0,arr,E',PM,hsz,PN⟩:=aj;have ho:off<cs.length:=(List.getElem?_eq_some_iff.1 hc).1;obtain⟨u0,Sh,HB⟩:=PN _ _ hc;simp only[af] at HB;subst HB
  have hcell:w.cell? ⟨b,off,none⟩=some (.int .i64 n):=by simp[World.cell?,PM,Sh]
  have hfr:w.frozen? ⟨b,off,none⟩=false:=by simp[World.frozen?,PM]
  have mL:(Op.intArith .add .i64 n m).run P w= .ok (.int .i64 (IntKind.i64.wrap (n+m))) w:=by simp[Op.intArith]
  have hrun:=run_call_add hf hname hb hn .i64 he hcell hfr mL
  have hr:(execOp a.eval ⟨dst, .call ⟨.value (.func f), #[x,y],ats⟩,ty,pos,after,gd⟩).run P w= .ok (.value (.int .i64 (IntKind.i64.wrap (n+m)))) (w.setCell ⟨b,off,none⟩ (.int .i64 (IntKind.i64.wrap (n+m)))):=by
    have B9:a.eval (.func f)= .func (.func f) #[] #[]:=rfl;simp[execOp,resolve,Deferred.ofValue,invoke,hv,hu,B9,hrun]
  refine fN.HC (m:=b) (h1:=aF b (cs.set off (aa .i64 (IntKind.i64.wrap (n+m))))) ax hown hi (fun F1 S w h=>h.1) hr rfl rfl rfl (by simp[World.setCell]) (fun k hk=>dh w _ _ k hk) (fun F1 h=>?_) (fun hS hag hO=>hk () _ _ S F trivial hS (fun _ h=>h) hag hO rfl)
  have hag:∀k,S k→(w.setCell ⟨b,off,none⟩ (.int .i64 (IntKind.i64.wrap (n+m)))).heap[k]?=w.heap[k]?:=fun k hk=>dh w _ _ k (fun e=>by
    obtain⟨F1',F2',f1,_,f3,_⟩:=hown.ue hi;exact ax.cR k hk (e▸(f1 b f3.1).1))
  refine⟨h.1,arr.setIfInBounds off (.int .i64 (IntKind.i64.wrap (n+m))),E',by simp[World.setCell,Array.getElem?_modify,PM],by simp[hsz],fun j q' hj=>?_⟩;rw[List.getElem?_set] at hj;by_cases e:off=j
  · subst e
    rw[if_pos rfl,if_pos ho] at hj;cases hj
    have h9:off<arr.size:=by omega
    exact⟨_,by simp[h9],rfl⟩
  · rw[if_neg e] at hj
    obtain⟨u,Eu,hq⟩:=PN j q' hj;exact⟨u,by simp[Array.getElem?_setIfInBounds_ne e,Eu],q'.mono (fun _ h=>h) hag hq⟩
theorem fN.same{o:Oper}{γ:Type}{φ:γ→Prop}{hs':γ→List HP}{q:γ→VP}{q':VP}(h:fN P hs env o φ hs' q)(hl:∀g,φ g→aA (hs' g) hs)(hq:∀g,φ g→ag (q g) q'):fN P hs env o (γ:=Unit) (fun _=>True) (fun _=>hs) (fun _=>q'):=
 fun c a w S F h1 h2 h3 K Q hk=>h c a w S F h1 h2 h3 K Q fun g v w' S' F' hφ hs hS hag ho XA=>hk () v w' S' F' trivial hs hS hag (hl g hφ _ _ _ ho) (hq g hφ _ _ _ XA)
theorem bG.ge{ops:Array Oper}{Q:Exit→Act→World→Prop}{c:Ctx}{l:List Oper}{o:Oper}{d:Tmp}{j:Nat}{want:Bool}{t:Tmp}{c0 p:Prop}(hl:look env t=some (dV c0 (ak p))∨(look env t=some (ak p)∧c0=True))(rX:o.guard=some (j,want))(hj:(ops[j]?).bind (·.dst)=some t)(ht:Nat.blt t c.n=true)
    (h:(c0∧(if want then p else ¬p))→fN P hs env o (γ:=Unit) (fun _=>True) (fun _=>hs) (fun _=>q)) (l6:o.dst=some d) (hd:Nat.blt d c.n=true) (k:bG P ops Q c l hs ((d,dV (c0∧(if want then p else ¬p)) q)::env)):bG P ops Q c (o::l) hs env:=by
  intro a w hst;obtain⟨h1,h2,S,F,h3,h4,h5⟩:=hst;refine wpListIn_step fun K hK=>?_;have ht':t<a.tmps.size:=by rw[h2];simpa using ht
  have h6:a.tmps[t]?=some (a.tmps.getD t undef):=by simp[ht']
  have hk:∀v w' S' F',ir c w' S' F'→(∀k,S k→S' k)→(∀k,S k→w'.heap[k]?=w.heap[k]?)→cT hs F' S' w'→(dV (c0∧(if want then p else ¬p)) q).p S' w' v→K (a.put o.dst v) w':=fun v w' S' F' k1 k2 k3 k4 k5=>hK _ _ (k _ _ ⟨by rw[Act.cU];exact h1,by rw[Act.fy];exact h2,S',F',k1,k4,by rw[l6];exact(h5.mono k2 k3).put k5 (by rw[h2];simpa using hd)⟩)
  have hb:(c0∧∃b,a.tmps.getD t undef= .bool b∧(b=true↔p))∨(¬c0∧a.tmps.getD t undef=undef):=by
    rcases hl with hl|⟨hl,hc⟩
    · exact bB.Ql hl S w a.tmps h5
    · exact .inl ⟨hc▸trivial,h5 t _ hl⟩
  rcases hb with⟨hc,b,hb,BF⟩|⟨hc,hu⟩
  · have hy:yielded ops a.tmps j=some b:=by
      unfold yielded;rw[hj];simp only[Option.bind_some,h6,hb]
    by_cases hw:b=want
    · have hp:(if want then p else ¬p):=by
        cases want
        · simp at hw ⊢;intro hp';rw[BF.2 hp'] at hw;cases hw
        · simpa using BF.1 hw
      rw[if_pos (by simp[Region.wanted,rX,hy,hw])];exact Oper.om ((h ⟨hc,hp⟩).gV h3 h4 h5) (h ⟨hc,hp⟩ c a w S F h3 h4 h5 K Q fun g v w' S' F' _ k1 k2 k3 k4 k5=>hk v w' S' F' k1 k2 k3 k4 ⟨fun _=>k5,fun hn=>(hn ⟨hc,hp⟩).elim⟩)
    · have hp:¬(if want then p else ¬p):=by
        cases want
        · simp at hw ⊢;exact BF.1 hw
        · intro hp';exact hw (BF.2 (by simpa using hp'))
      rw[if_neg (by simp[Region.wanted,rX,hy,hw])];exact⟨fun _ _=>trivial,hk _ _ S F h3 (fun _ h=>h) (fun _ _=>rfl) h4 ⟨fun hn=>(hp hn.2).elim,fun _=>rfl⟩⟩
  · have hy:yielded ops a.tmps j=none:=by
      unfold yielded;rw[hj];simp only[Option.bind_some,h6,hu];rfl
    rw[if_neg (by simp[Region.wanted,rX,hy])];exact⟨fun _ _=>trivial,hk _ _ S F h3 (fun _ h=>h) (fun _ _=>rfl) h4 ⟨fun hn=>(hc hn.1).elim,fun _=>rfl⟩⟩
theorem y5(t:Nat)(q:VP)(e:Env):look ((t,q)::e) t=some q:=by rw[bw,if_pos rfl]
theorem bG.egT{ops:Array Oper}{Q:Exit→Act→World→Prop}{c:Ctx}{l:List Oper}{o:Oper}{d:Tmp}{j:Nat}{t:Tmp}{p:Prop}(hl:look env t=some (ak p))(rX:o.guard=some (j,true))(hj:(ops[j]?).bind (·.dst)=some t)(ht:Nat.blt t c.n=true)
    (h:p→fN P hs env o (γ:=Unit) (fun _=>True) (fun _=>hs) (fun _=>q)) (l6:o.dst=some d) (hd:Nat.blt d c.n=true) (k:bG P ops Q c l hs ((d,dV (p) q)::env)):bG P ops Q c (o::l) hs env:=by
  have hr:(True∧(if (true:Bool)=true then p else ¬p))↔(p):=⟨fun h=>by simpa using h.2,fun h=>⟨trivial,by simpa using h⟩⟩;refine bG.ge (c0:=True) (p:=p) (want:=true) (.inr ⟨hl,rfl⟩) rX hj ht (fun h1=>h (hr.1 h1)) l6 hd fun a w hst=>k a w (hst.mono (cz.le (cz.cons (y5 _ _ _) (dV.congr hr) ?_)));exact cz.skip (by simp) (cz.refl _ _)
theorem bG.UM{ops:Array Oper}{Q:Exit→Act→World→Prop}{c:Ctx}{l:List Oper}{o:Oper}{d:Tmp}{j:Nat}{t:Tmp}{p:Prop}(hl:look env t=some (ak p))(rX:o.guard=some (j,false))(hj:(ops[j]?).bind (·.dst)=some t)(ht:Nat.blt t c.n=true)
    (h:¬p→fN P hs env o (γ:=Unit) (fun _=>True) (fun _=>hs) (fun _=>q)) (l6:o.dst=some d) (hd:Nat.blt d c.n=true) (k:bG P ops Q c l hs ((d,dV (¬p) q)::env)):bG P ops Q c (o::l) hs env:=by
  have hr:(True∧(if (false:Bool)=true then p else ¬p))↔(¬p):=⟨fun h=>by simpa using h.2,fun h=>⟨trivial,by simpa using h⟩⟩;refine bG.ge (c0:=True) (p:=p) (want:=false) (.inr ⟨hl,rfl⟩) rX hj ht (fun h1=>h (hr.1 h1)) l6 hd fun a w hst=>k a w (hst.mono (cz.le (cz.cons (y5 _ _ _) (dV.congr hr) ?_)));exact cz.skip (by simp) (cz.refl _ _)
end
def dN(P:Program)(l:List Oper)(n:Nat)(e0:Env)(T:fz→List HP→Prop)(FR:List HP):List (Nat×Nat)→fz→List HP→Prop
 |[],done,hs=>T done hs
 |(i,0)::r,done,hs=>∃o d q,l[i]?=some o∧o.dst=some d∧(∀hs',bB P l.toArray n hs' (cv o.after done++e0) o q)∧dN P l n e0 T FR r ((i,d,q)::done) hs
 |(i,1)::r,done,hs=>∃o d q,l[i]?=some o∧o.dst=some d∧(∀hs',aA hs' FR→bB P l.toArray n hs' (cv o.after done++e0) o q)∧aA hs FR∧dN P l n e0 T FR r ((i,d,q)::done) hs
 |(i,2)::r,done,hs=>∃(o:Oper) (d:Tmp),l[i]?=some o∧o.dst=some d∧o.guard=none∧∃(γ:Type) (φ:γ→Prop) (hs':γ→List HP) (q:γ→VP),fN P hs (cv o.after done++e0) o φ hs' q∧∀g,φ g→dN P l n e0 T FR r ((i,d,q g)::done) (hs' g)
 |(i,3)::r,done,hs=>∃(o:Oper),l[i]?=some o∧o.dst=none∧o.guard=none∧∃(γ:Type) (φ:γ→Prop) (hs':γ→List HP) (q:γ→VP),fN P hs (cv o.after done++e0) o φ hs' q∧∀g,φ g→dN P l n e0 T FR r ((i,n,S1)::done) (hs' g)
 |(i,4)::r,done,hs=>∃(o:Oper) (d:Tmp),l[i]?=some o∧o.dst=some d∧o.guard=none∧∃(γ:Type) (φ:γ→Prop) (hs':γ→List HP) (q:γ→VP),fN P hs (cv o.after done++e0) o φ hs' q∧(∀g,φ g→aA (hs' g) FR)∧∀g,φ g→dN P l n e0 T FR r ((i,d,q g)::done) (hs' g)
 |(_,_+5)::_,_,_=>False
section
variable {P:Program} {l:List Oper} {n:Nat} {hs:List HP} {e0:Env} {T:fz→List HP→Prop} {FR:List HP} {Q:Exit→Act→World→Prop} {c:Ctx} {done:fz} {r:List (Nat×Nat)} {i:Nat}
theorem dN.p{d:Tmp}{q:VP}{op:Op}{ty:TypeId}{pos:String}{after:Array Edge}(ho:l[i]?=some ⟨some d,op,ty,pos,after,none⟩)
    (h:∀hs',aT P hs' (cv after done++e0) ⟨some d,op,ty,pos,after,none⟩ q) (k:dN P l n e0 T FR r ((i,d,q)::done) hs):dN P l n e0 T FR ((i,0)::r) done hs:=
  ⟨_,d,q,ho,rfl,fun hs'=>bB.plain (h hs') rfl,k⟩
theorem dN.g{d:Tmp}{q:VP}{op:Op}{ty:TypeId}{pos:String}{after:Array Edge}{gd:Option (Nat×Bool)}(ho:l[i]?=some ⟨some d,op,ty,pos,after,gd⟩)
    (h:∀hs',bB P l.toArray n hs' (cv after done++e0) ⟨some d,op,ty,pos,after,gd⟩ q) (k:dN P l n e0 T FR r ((i,d,q)::done) hs):dN P l n e0 T FR ((i,0)::r) done hs:=
  ⟨_,d,q,ho,rfl,h,k⟩
theorem dN.o{d:Tmp}{q:VP}{op:Op}{ty:TypeId}{pos:String}{after:Array Edge}(ho:l[i]?=some ⟨some d,op,ty,pos,after,none⟩)
    (h:aT P FR (cv after done++e0) ⟨some d,op,ty,pos,after,none⟩ q) (hl:aA hs FR) (k:dN P l n e0 T FR r ((i,d,q)::done) hs):dN P l n e0 T FR ((i,1)::r) done hs:=
  ⟨_,d,q,ho,rfl,fun _ hl'=>(bB.plain h rfl).own hl',hl,k⟩
theorem dN.a{d:Tmp}{op:Op}{ty:TypeId}{pos:String}{after:Array Edge}{γ:Type}{φ:γ→Prop}{hs':γ→List HP}{q:γ→VP}(ho:l[i]?=some ⟨some d,op,ty,pos,after,none⟩)
    (h:fN P hs (cv after done++e0) ⟨some d,op,ty,pos,after,none⟩ φ hs' q) (hl:∀g,φ g→aA (hs' g) FR) (k:∀g,φ g→dN P l n e0 T FR r ((i,d,q g)::done) (hs' g)):dN P l n e0 T FR ((i,4)::r) done hs:=
  ⟨_,d,ho,rfl,rfl,γ,φ,hs',q,h,hl,k⟩
theorem dN.head{s:List (Nat×Nat)}:∀{k:Nat},2≤k→k≤4→dN P l n e0 T FR ((i,k)::s) done hs→∃(o:Oper) (dd:Nat) (γ:Type) (φ:γ→Prop) (hs':γ→List HP) (q:γ→VP),l[i]?=some o∧(o.dst=some dd∨o.dst=none∧dd=n)∧o.guard=none∧fN P hs (cv o.after done++e0) o φ hs' q∧(k=4→∀g,φ g→aA (hs' g) FR)∧
    ∀g,φ g→∃q':VP,(∀S w v,(q g).p S w v→(o.dst=some dd→q'.p S w v))∧(o.dst=none→∀S w v,q'.p S w v)∧dN P l n e0 T FR s ((i,dd,q')::done) (hs' g)
  |0,h,_,_=>absurd h (by omega)
  |1,h,_,_=>absurd h (by omega)
  |2,_,_,⟨o',d',g1,g2,g3,γ,φ,hs',q,g4,g5⟩=>⟨o',d',γ,φ,hs',q,g1, .inl g2,g3,g4,(fun h=>by cases h),fun g hg=>⟨q g,fun _ _ _ h _=>h,(fun h=>by rw[g2] at h;cases h),g5 g hg⟩⟩
  |3,_,_,⟨o',g1,g2,g3,γ,φ,hs',q,g4,g5⟩=>⟨o',n,γ,φ,hs',q,g1, .inr ⟨g2,rfl⟩,g3,g4,(fun h=>by cases h),fun g hg=>⟨S1,fun _ _ _ _ _=>trivial,fun _ _ _ _=>trivial,g5 g hg⟩⟩
  |4,_,_,⟨o',d',g1,g2,g3,γ,φ,hs',q,g4,g6,g5⟩=>⟨o',d',γ,φ,hs',q,g1, .inl g2,g3,g4,(fun _=>g6),fun g hg=>⟨q g,fun _ _ _ h _=>h,(fun h=>by rw[g2] at h;cases h),g5 g hg⟩⟩
  |_+5,_,h,_=>absurd h (by omega)
def PO(P:Program)(l:List Oper)(n:Nat)(e0:Env)(FR hs:List HP)(done:fz)(p:Nat×Nat):Prop:=
 ∃o d q dn,l[p.1]?=some o∧o.dst=some d∧(p.1,d,q)∈done∧(∀x,x∈dn→x∈done)∧bB P l.toArray n hs (cv o.after dn++e0) o q∧(p.2=0→∀hs',bB P l.toArray n hs' (cv o.after dn++e0) o q)∧(p.2=1→∀hs',aA hs' FR→bB P l.toArray n hs' (cv o.after dn++e0) o q)
theorem dN.expand:∀(r:List (Nat×Nat)) (done:fz),dN P l n e0 T FR r done hs→∃B r' done',r=B++r'∧(r'=[]∨∃i k s,r'=(i,k)::s∧2≤k)∧dN P l n e0 T FR r' done' hs∧(∀x,x∈done→x∈done')∧
    done'.map (·.1)=(B.map (·.1)).reverse++done.map (·.1)∧(∀x,x∈done'→x∈done∨((∃o,l[x.1]?=some o∧o.dst=some x.2.1)∧∃p∈B,p.1=x.1))∧(∀p,p∈B→PO P l n e0 FR hs done' p)∧∀p,p∈B→p.2<2
  |[],done,h=>⟨[],[],done,rfl, .inl rfl,h,fun _ h=>h,rfl,fun x hx=> .inl hx,fun p hp=>by simp at hp,fun p hp=>by simp at hp⟩
  | (i, 0)::r,done,h=>by
    obtain⟨o,d,q,h1,h2,h3,h4⟩:=h;obtain⟨B,r',done',g1,g2,g3,g4,g5,g6,g7,g8⟩:=dN.expand r _ h4;refine⟨(i,0)::B,r',done',by rw[g1];rfl,g2,g3,fun x hx=>g4 x (List.mem_cons_of_mem _ hx),by rw[g5];simp,fun x hx=>?_,fun p hp=>?_,fun p hp=>?_⟩
    · rcases g6 x hx with h|⟨h,p,hp,he⟩
      · rcases List.mem_cons.1 h with h|h
        · subst h;exact .inr ⟨⟨o,h1,h2⟩,(i,0),List.mem_cons_self ..,rfl⟩
        · exact .inl h
      · exact .inr ⟨h,p,List.mem_cons_of_mem _ hp,he⟩
    · rcases List.mem_cons.1 hp with h|h
      · subst h;exact⟨o,d,q,done,h1,h2,g4 _ (List.mem_cons_self ..),fun x hx=>g4 x (List.mem_cons_of_mem _ hx),h3 hs,fun _=>h3,fun h=>by simp at h⟩
      · exact g7 p h
    · rcases List.mem_cons.1 hp with h|h
      · subst h;simp
      · exact g8 p h
  | (i, 1)::r,done,h=>by
    obtain⟨o,d,q,h1,h2,h3,h3b,h4⟩:=h;obtain⟨B,r',done',g1,g2,g3,g4,g5,g6,g7,g8⟩:=dN.expand r _ h4;refine⟨(i,1)::B,r',done',by rw[g1];rfl,g2,g3,fun x hx=>g4 x (List.mem_cons_of_mem _ hx),by rw[g5];simp,fun x hx=>?_,fun p hp=>?_,fun p hp=>?_⟩
    · rcases g6 x hx with h|⟨h,p,hp,he⟩
      · rcases List.mem_cons.1 h with h|h
        · subst h;exact .inr ⟨⟨o,h1,h2⟩,(i,1),List.mem_cons_self ..,rfl⟩
        · exact .inl h
      · exact .inr ⟨h,p,List.mem_cons_of_mem _ hp,he⟩
    · rcases List.mem_cons.1 hp with h|h
      · subst h;exact⟨o,d,q,done,h1,h2,g4 _ (List.mem_cons_self ..),fun x hx=>g4 x (List.mem_cons_of_mem _ hx),h3 hs h3b,(fun h=>by simp at h),fun _=>h3⟩
      · exact g7 p h
    · rcases List.mem_cons.1 hp with h|h
      · subst h;simp
      · exact g8 p h
  |(i,2)::r,done,h=>⟨[],(i,2)::r,done,rfl, .inr ⟨i,2,r,rfl,by omega⟩,h,fun _ h=>h,rfl,fun x hx=> .inl hx,fun p hp=>by simp at hp,fun p hp=>by simp at hp⟩
  |(i,3)::r,done,h=>⟨[],(i,3)::r,done,rfl, .inr ⟨i,3,r,rfl,by omega⟩,h,fun _ h=>h,rfl,fun x hx=> .inl hx,fun p hp=>by simp at hp,fun p hp=>by simp at hp⟩
  |(i,4)::r,done,h=>⟨[],(i,4)::r,done,rfl, .inr ⟨i,4,r,rfl,by omega⟩,h,fun _ h=>h,rfl,fun x hx=> .inl hx,fun p hp=>by simp at hp,fun p hp=>by simp at hp⟩
  |(_,_+5)::_,_,h=>h.elim
structure XB(P:Program)(l:List Oper)(c:Ctx)(e0:Env)(T:fz→List HP→Prop)(FR:List HP)(plan:List (Nat×Nat))(pre r:List (Nat×Nat))(done:fz)(hs:List HP)(listed:Array Bool)(a:Act)(w:World):Prop where
 df:a.defers=c.df
 sz:a.tmps.size=c.n
 split:plan=pre++r
 dr:dN P l c.n e0 T FR r done hs
 hd:r=[]∨∃i k s,r=(i,k)::s∧2≤k
 un:∀p∈r,listed.getD p.1 false=false
 idx:done.map (·.1)=(pre.map (·.1)).reverse
 dst:∀x∈done,∃o,l[x.1]?=some o∧(o.dst=some x.2.1∨o.dst=none∧x.2.1=c.n)
 EK:∀p∈pre,listed.getD p.1 false=false→PO P l c.n e0 FR hs done p
 st:∃S F,ir c w S F∧cT hs F S w∧cn e0 S w a.tmps∧∀j d q,(j,d,q)∈done→listed.getD j false=true→q.p S w (a.tmps.getD d undef)
theorem Ca{m g:Nat}{env:Env}{plan:List (Nat×Nat)}(hB:kL l.toArray plan m g c.n=true)(hT:∀done hs,T done hs→bG P l.toArray Q c (l.drop m) hs (eP done++env)):
    ∀(u:Nat) (listed:Array Bool) (a:Act) (w:World) (pre r:List (Nat×Nat)) (done:fz) (hs:List HP),count m listed=u→HeadInv .any l.toArray m listed→XB P l c (strip (dstsOf (l.take m)) env) T FR plan pre r done hs listed a w→wpAnyIn (WF c.ro) 0 P .any l.toArray Q (u+g) listed a w:=by
  simp only[kL,B1,Bool.and_eq_true] at hB;obtain⟨⟨⟨⟨⟨⟨⟨⟨⟨⟨hsum,hnd⟩,hds⟩,hback⟩,hsc⟩,Ld⟩,Qx⟩,gG⟩,Xs⟩,Xt⟩,Sf⟩:=hB;have uk:m+g=l.toArray.size:=by simpa using hsum
  have Le:(dstsOf (l.take m)).Nodup:=by simpa using hnd
  have vO:(plan.map (·.1)).Nodup:=by simpa using Qx
  have Xu:plan.length=m:=by simpa using gG
  have Lg:∀p∈plan,p.1<m∧p.2≤4:=fun p hp=>by have:=List.all_eq_true.1 Xs p hp;simpa using this
  have EM:∀p∈plan,p.1<m:=fun p hp=>(Lg p hp).1
  have x6:∀o∈l.take m,∀d,o.dst=some d→d<c.n:=fun o ho d hd=>by
    have:=List.all_eq_true.1 hds o (by simpa using ho);rw[hd] at this;simpa using this
  have hlen:(l.take m).length=m:=by simp at uk ⊢;omega
  have Lh:∀i,i<m→∃k,(i,k)∈plan:=fun i hi=>by
    obtain⟨p,hp,he⟩:=List.any_eq_true.1 (List.all_eq_true.1 Xt i (List.mem_range.2 hi));have:p.1=i:=by simpa using he
    exact⟨p.2,by rw[←this];exact hp⟩
  intro u
  induction u with
  | zero =>
    intro listed a w pre r done hs hc inv hu;rw[Nat.zero_add]
    have hr:r=[]:=by
      cases r with
      |nil=>rfl
      | cons p r=>
        have h1:=hu.un p (List.mem_cons_self ..);have h2:=gK hc p.1 (EM p (by rw[hu.split];simp));rw[h1] at h2;cases h2
    subst hr
    have hl:listed=(List.replicate m true++List.replicate g false).toArray:=by
      apply Array.ext
      · simp[inv.size] at uk ⊢;omega
      · intro i h1 h2
        have hi:i<l.toArray.size:=by rw[←inv.size];exact h1
        by_cases tD:i<m
        · have:=gK hc i tD
          simp[h1] at this;simp[tD,this]
        · have:=inv.tail i (by omega) hi
          simp[h1] at this;simp[List.getElem_append,tD,this]
    have Ny:(l.drop m).length=g:=by simp at uk ⊢;omega
    have hw:wpListIn (WF c.ro) 0 P l.toArray Q (l.drop m) a w:=by
      obtain⟨S,F,h1,h2,h3,h4⟩:=hu.st;refine hT done hs hu.dr a w ⟨hu.df,hu.sz,S,F,h1,h2,fun t q hl=>?_⟩
      have hin:∀j,j<m→j∈done.map (·.1):=fun j hj=>by
        obtain⟨k,hk⟩:=Lh j hj;rw[hu.idx,List.mem_reverse];refine List.mem_map.2 ⟨(j,k),?_,rfl⟩;rw[hu.split] at hk;simpa using hk
      rcases nI hl with h5|⟨h6,h5⟩
      · obtain⟨j,hj⟩:=nH h5
        refine h4 j t q hj (gK hc j ?_)
        have:j∈pre.map (·.1):=by
          have:=p6 hj;rw[hu.idx,List.mem_reverse] at this;exact this
        obtain⟨p,hp,rfl⟩:=List.mem_map.1 this;exact EM p (by rw[hu.split];simp[hp])
      · refine h3 t q (mP h5 ?_)
        cases hct:(dstsOf (l.take m)).contains t with
        |false=>rfl
        | true=>
          obtain⟨j,o,ho,hd⟩:=vJ hct;have Lf:j<m:=by have:=(List.getElem?_eq_some_iff.1 ho).1;omega
          obtain⟨x,hx,he⟩:=List.mem_map.1 (hin j Lf);obtain⟨o',ho',hd'⟩:=hu.dst x hx;rw[he] at ho';rw[List.getElem?_take,if_pos Lf] at ho;rw[ho] at ho';cases ho'
          rw[hd] at hd';have Xv:t=x.2.1:=hd'.elim (fun h=>Option.some.inj h) (fun h=>by cases h.1);subst Xv;exact absurd h6 (mO (j:=x.1) (q:=x.2.2) hx)
    have:=ji (F:=WF c.ro) (n:=0) (md:= .any) (P:=P) (ops:=l.toArray) (Q':=Q) (l.drop m) m listed a w (fun j=>by simp[List.getElem?_drop]) (by rw[Ny,hl];exact Ld) hw
    rwa [Ny] at this
  | succ u ih =>
    intro listed a w pre r done hs hc inv hu;rw[show u+1+g=(u+g)+1 by omega];refine⟨fun h0=>absurd h0 (oU (by omega) inv.size hback (by omega)),fun i hi=>?_⟩
    have tD:i<m:=by
      rcases Nat.lt_or_ge i m with h|h
      · exact h
      · exfalso
        have Sd:i<l.toArray.size:=by
          obtain⟨_,o,ho,_⟩:=mem_ready.1 hi;exact(Array.getElem?_eq_some_iff.1 ho).1
        have hg:Nat.beq g 0=false:=by
          cases hg:Nat.beq g 0
          · rfl
          · have:g=0:=by simpa using hg
            omega
        rw[hg] at hsc;simp only[Bool.false_or,Bool.and_eq_true] at hsc
        obtain⟨k,vL,hk2⟩:∃k,k<m∧listed.getD k false=false:=by
          cases hf:(List.range m).filter (fun i=> !listed.getD i false) with
          |nil=>rw[count,hf] at hc;simp at hc
          | cons x l=>
            have:x∈(List.range m).filter (fun i=> !listed.getD i false):=by rw[hf];exact List.mem_cons_self ..
            rw[List.mem_filter,List.mem_range] at this;exact⟨x,this.1,by simpa using this.2⟩
        exact tail_waits hsc.1 hsc.2 (by omega) inv _ k rfl vL (getD_in (by rw[inv.size];omega) hk2) i h hi
    obtain⟨hun,o,ho,EJ⟩:=mem_ready.1 hi;have Ag:=getD_both hun;have Ah:l[i]?=some o:=by simpa using ho
    have xY:(l.take m)[i]?=some o:=by rw[List.getElem?_take,if_pos tD];exact Ah
    obtain⟨S,F,h1,h2,h3,h4⟩:=hu.st
    have Qy:(done.map (·.1)).Nodup:=by
      rw[hu.idx];have:=vO;rw[hu.split,List.map_append] at this;exact(List.reverse_perm _).nodup_iff.2 (List.nodup_append.1 this).1
    have hneed:∀j,qL l.toArray (m+1) i j=true→listed.getD j false=true:=fun j hj=>nJ inv _ i j (fun o' ho'=>by
      rw[ho] at ho';cases ho';exact EJ) hj
    have qY:∀dn:fz,(∀x,x∈dn→x∈done)→cn (cv o.after dn++strip (dstsOf (l.take m)) env) S w a.tmps:=fun dn hdn t x hx=>by
      rcases oT hx with h5|h5
      · obtain⟨j,hj,hw⟩:=q3 h5
        refine h4 j t x (hdn _ hj) ?_;unfold waits at hw;obtain⟨e,he,hb⟩:=List.any_eq_true.1 hw;simp only[Bool.and_eq_true] at hb;have:e.on=j:=by simpa using hb.1
        rw[←this];exact EJ e (by simpa using he) hb.2
      · exact h3 t x h5
    have hslot:∀j dj qj,(j,dj,qj)∈done→j≠i→∀d,o.dst=some d→d≠dj:=fun j dj qj vj hij d l6 e=>by
      subst e;obtain⟨oj,Se,Qz⟩:=hu.dst _ vj;have q4:=x6 o (List.mem_of_getElem? xY) d l6;have Qz:oj.dst=some d:=Qz.resolve_right (fun h=>by have h9:d=c.n:=h.2;rw[h9] at q4;exact Nat.lt_irrefl _ q4)
      have Lf:j<m:=by
        have:j∈pre.map (·.1):=by
          have:=p6 vj;rw[hu.idx,List.mem_reverse] at this;exact this
        obtain⟨p,hp,rfl⟩:=List.mem_map.1 this;exact EM p (by rw[hu.split];simp[hp])
      have QA:(l.take m)[j]?=some oj:=by rw[List.getElem?_take,if_pos Lf];exact Se
      exact hij (vN Le QA xY Qz l6)
    have Li:∀t x,look (strip (dstsOf (l.take m)) env) t=some x→∀d,o.dst=some d→d≠t:=fun t x hx d l6 e=>by
      subst e;have:=(jE hx).2;rw[lB xY l6] at this;cases this
    have Lj:count m (listed.setIfInBounds i true)=u:=by have:=count_set tD Ag (by rw[inv.size];omega);omega
    obtain⟨k,hk⟩:=Lh i tD;rw[hu.split] at hk;rcases List.mem_append.1 hk with hpre|hrest
    ·
      obtain⟨o',d,q,dn,g1,l6,g3,g4,g5,g6⟩:=hu.EK _ hpre Ag;simp only at g1;rw[Ah] at g1;cases g1
      have q4:=x6 o (List.mem_of_getElem? xY) d l6
      have hne_r:∀p∈r,p.1≠i:=fun p hp e=>by
        have h7:=vO;rw[hu.split,List.map_append] at h7;exact(List.nodup_append.1 h7).2.2 i (List.mem_map.2 ⟨_,hpre,rfl⟩) p.1 (List.mem_map.2 ⟨p,hp,rfl⟩) e.symm
      unfold wpOpIn;simp only[ho]
      have key:=g5 a w S F hu.sz h1.bD h1.bO h1.cR h2 (qY dn g4) (wpAnyIn (WF c.ro) 0 P .any l.toArray Q (u+g) (listed.setIfInBounds i true)) Q (fun v w' S' gr hq=>by
        refine ih _ _ _ pre r done hs Lj (inv.set hi tD) ⟨by rw[Act.cU];exact hu.df,by rw[Act.fy];exact hu.sz,hu.split,hu.dr,hu.hd,fun p hp=>?_,hu.idx,hu.dst,fun p hp B2=>?_,S',F,h1.grow gr,gr.x3 h1.bD h1.bO h2,?_,?_⟩
        · rw[getD_set_ne false (fun e=>hne_r p hp e.symm)];exact hu.un p hp
        · refine hu.EK p hp ?_
          by_cases e:i=p.1
          · rw[←e];exact Ag
          · rw[getD_set_ne false e] at B2;exact B2
        · intro t x hx
          rw[eR (Li t x hx)];exact gr.vp h1.bD (h3 t x hx)
        · intro j dj qj vj Ew
          by_cases hij:j=i
          · subst hij
            obtain⟨rfl,rfl⟩:=p7 Qy vj g3;rw[l6];have:dj<a.tmps.size:=by rw[hu.sz];exact q4
            simpa[Act.put,this] using hq
          · rw[getD_set_ne false (fun e=>hij e.symm)] at Ew
            rw[eR (hslot j dj qj vj hij)];exact gr.vp h1.bD (h4 j dj qj vj Ew))
      by_cases hw:Region.wanted o (yielded l.toArray a.tmps)=true
      · rw[if_pos hw] at key ⊢;exact Oper.om (bB.gV g5 hu.sz h1 h2 (qY dn g4) hw) key
      · rw[if_neg hw] at key ⊢;exact⟨fun _ _=>trivial,key⟩
    ·
      obtain⟨i0,k0,s,rfl,hk2⟩:∃i0 k0 s,r=(i0,k0)::s∧2≤k0:=hu.hd.resolve_left (fun e=>by rw[e] at hrest;cases hrest);obtain⟨hafter,hread⟩:=m4 Sf hk2 hu.split
      have S3:i0=i:=by
        rcases List.mem_cons.1 hrest with e|e
        · cases e;rfl
        · have:=hneed i0 (hafter _ e)
          rw[hu.un (i0,k0) (List.mem_cons_self ..)] at this;cases this
      subst S3
      have NS:∀p∈s,p.1≠i0:=fun p hp e=>by
        have h7:=vO;rw[hu.split,List.map_append,List.map_cons] at h7;exact(List.nodup_cons.1 (List.nodup_append.1 h7).2.1).1 (List.mem_map.2 ⟨p,hp,e⟩)
      have hnp:∀p∈pre,p.1≠i0:=fun p hp e=>by
        have h7:=vO;rw[hu.split,List.map_append] at h7;exact(List.nodup_append.1 h7).2.2 p.1 (List.mem_map.2 ⟨p,hp,rfl⟩) i0 (by simp) e
      obtain⟨dd,γ,φ,hs',q,S4,g3,g4,Ex,g5⟩:∃(dd:Nat) (γ:Type) (φ:γ→Prop) (hs':γ→List HP) (q:γ→VP),(o.dst=some dd∨o.dst=none∧dd=c.n)∧o.guard=none∧fN P hs (cv o.after done++strip (dstsOf (l.take m)) env) o φ hs' q∧(k0=4→∀g,φ g→aA (hs' g) FR)∧
          ∀g,φ g→∃q':VP,(∀S w v,(q g).p S w v→(o.dst=some dd→q'.p S w v))∧(o.dst=none→∀S w v,q'.p S w v)∧dN P l c.n (strip (dstsOf (l.take m)) env) T FR s ((i0,dd,q')::done) (hs' g):=by
        obtain⟨o',dd,γ,φ,hs',q,g1,g2,g3,g4,Ex,g5⟩:=dN.head hk2 (Lg (i0,k0) (by rw[hu.split];simp)).2 hu.dr;rw[Ah] at g1;cases g1
        exact⟨dd,γ,φ,hs',q,g2,g3,g4,Ex,g5⟩
      unfold wpOpIn;simp only[ho];rw[if_pos (by simp[Region.wanted,g3])];refine Oper.om (fN.gV g4 h1 h2 (qY done (fun _ h=>h))) (g4 c a w S F h1 h2 (qY done (fun _ h=>h)) _ _ fun gh v w' S' F' hφ ax hSS hag hown hq=>?_);obtain⟨q',Qw,QB,g6⟩:=g5 gh hφ;obtain⟨B,r',done',e1,e2,e3,e4,e5,e6,e7,e8⟩:=dN.expand s _ g6;refine ih _ _ _ (pre++(i0,k0)::B) r' done' (hs' gh) Lj (inv.set hi tD) ⟨by rw[Act.cU];exact hu.df,by rw[Act.fy];exact hu.sz,by rw[hu.split,e1];simp,e3,e2,fun p hp=>?_,by rw[e5];simp[hu.idx],fun x hx=>?_,fun p hp B2=>?_,S',F',ax,hown,?_,?_⟩
      · have hp':p∈s:=by rw[e1];simp[hp]
        rw[getD_set_ne false (fun e=>NS p hp' e.symm)];exact hu.un p (List.mem_cons_of_mem _ hp')
      · rcases e6 x hx with h|h
        · rcases List.mem_cons.1 h with h|h
          · subst h;exact⟨o,Ah,S4⟩
          · exact hu.dst x h
        · obtain⟨⟨o1,f1,f2⟩,_⟩:=h
          exact⟨o1,f1, .inl f2⟩
      · rcases List.mem_append.1 hp with h|h
        · have B3:listed.getD p.1 false=false:=by
            rw[getD_set_ne false (fun e=>hnp p h e.symm)] at B2;exact B2
          obtain⟨o1,d1,q1,dn,f1,f2,f3,f4,f5,f6,f7⟩:=hu.EK p h B3
          have hk2':¬2≤p.2:=fun h2=>by
              obtain⟨a1,b1,hab⟩:=List.append_of_mem h;have:=(m4 Sf (a:=a1) (b:=b1++(i0,k0)::s) (i:=p.1) h2 (by rw[hu.split,hab];simp)).1 (i0,k0) (by simp);have:=hneed p.1 this;rw[B3] at this;cases this
          by_cases vM:k0=4
          · exact⟨o1,d1,q1,dn,f1,f2,e4 _ (List.mem_cons_of_mem _ f3),fun x hx=>e4 x (List.mem_cons_of_mem _ (f4 x hx)),(if h0:p.2=0 then f6 h0 _ else f7 (by omega) _ (Ex vM gh hφ)),f6,f7⟩
          have aj:p.2=0:=by
            have hkind:p.2≠1:=fun h1=>by
              have:=hneed p.1 (hread vM p (.inr h) h1);rw[B3] at this;cases this
            have hk2:¬2≤p.2:=fun h2=>by
              obtain⟨a1,b1,hab⟩:=List.append_of_mem h;have:=(m4 Sf (a:=a1) (b:=b1++(i0,k0)::s) (i:=p.1) h2 (by rw[hu.split,hab];simp)).1 (i0,k0) (by simp);have:=hneed p.1 this;rw[B3] at this;cases this
            omega
          exact⟨o1,d1,q1,dn,f1,f2,e4 _ (List.mem_cons_of_mem _ f3),fun x hx=>e4 x (List.mem_cons_of_mem _ (f4 x hx)),f6 aj _,fun _=>f6 aj,f7⟩
        · rcases List.mem_cons.1 h with h|h
          · subst h
            have:i0<listed.size:=by rw[inv.size];omega
            simp[this] at B2
          · exact e7 p h
      · intro t x hx
        rw[eR (Li t x hx)];exact x.mono hSS hag (h3 t x hx)
      · intro j dj qj vj Ew
        by_cases hij:j=i0
        · subst hij
          have QC:(done'.map (·.1)).Nodup:=by
            rw[e5];have h7:=vO;rw[hu.split,e1] at h7;simp only[List.map_append,List.map_cons,hu.idx] at h7 ⊢;refine(List.Perm.nodup_iff ?_).1 (List.nodup_append.1 (by simpa using h7:((pre.map (·.1)++j::B.map (·.1))++r'.map (·.1)).Nodup)).1
            have q1:(pre.map (·.1)++j::B.map (·.1)).Perm (B.map (·.1)++(j::pre.map (·.1))):=by
              refine List.perm_append_comm.trans ?_;simp only[List.cons_append];exact(List.perm_middle.symm)
            exact q1.trans ((List.reverse_perm _).symm.append ((List.reverse_perm _).symm.cons j))
          obtain⟨rfl,rfl⟩:=p7 QC vj (e4 _ (List.mem_cons_self ..));rcases S4 with l6|⟨l6,_⟩
          · have q4:=x6 o (List.mem_of_getElem? xY) dj l6
            rw[l6];have:dj<a.tmps.size:=by rw[hu.sz];exact q4
            simpa[Act.put,this] using Qw _ _ _ hq l6
          · exact QB l6 _ _ _
        · rw [getD_set_ne false (fun e=>hij e.symm)] at Ew
          rcases e6 _ vj with h|⟨_,p,hp,S5⟩
          · rcases List.mem_cons.1 h with h|h
            · cases h;exact absurd rfl hij
            · rw[eR (hslot j dj qj h hij)]
              exact qj.mono hSS hag (h4 j dj qj h Ew)
          · simp only at S5
            have:=hu.un p (List.mem_cons_of_mem _ (by rw[e1];simp[hp]));rw[S5,Ew] at this;cases this
theorem dN.fin{ops:Array Oper}{tl:List Oper}{env:Env}(h:bG P ops Q c tl hs (eP done++env)):dN P l n e0 (fun done hs=>bG P ops Q c tl hs (eP done++env)) FR [] done hs:=h
theorem aJ.HD{id:Nat}{env:Env}(plan:List (Nat×Nat))(m g:Nat)(hm:P.follows .mixedOrders=true)(hB:kL l.toArray plan m g c.n=true)
    (h:dN P l c.n (strip (dstsOf (l.take m)) env) (fun done hs=>bG P l.toArray Q c (l.drop m) hs (eP done++env)) FR plan [] hs):aJ P Q c (.region id l.toArray true) hs env:=by
  intro a w hst;refine wpIn_region_any hm ?_;obtain⟨h1,h2,S,F,h3,h4,h5⟩:=hst
  have hsum:m+g=l.toArray.size:=by
    simp only[kL,B1,Bool.and_eq_true] at hB;simpa using hB.1.1.1.1.1.1.1.1.1.1
  have g0:=ez.drew w S;obtain⟨B,r',done',e1,e2,e3,e4,e5,e6,e7,e8⟩:=dN.expand plan [] h;have key:=Ca (FR:=FR) (P:=P) (Q:=Q) (l:=l) (c:=c) (env:=env) hB (fun _ _ h=>h) m (Array.replicate l.toArray.size false) a {w with drawn:=w.drawn+1} B r' done' hs ?_ ?_ ?_
  · rw[hsum] at key;exact key
  · unfold count
    rw[List.filter_eq_self.2 (fun i hi=>by rw[getD_replicate_false];rfl)];simp
  · exact⟨by simp,fun j oj _ hl=>(by rw[getD_replicate_false] at hl;cases hl),fun t _ ht=>getD_in (by simpa using ht) (getD_replicate_false _ _)⟩
  · exact⟨h1,h2,e1,e3,e2,fun p _=>getD_replicate_false _ _,by simpa using e5,fun x hx=>(e6 x hx).elim (fun h=>by cases h) (fun h=>let ⟨o,f1,f2⟩:=h.1;⟨o,f1, .inl f2⟩),fun p hp _=>e7 p hp,S,F,h3.grow g0,g0.x3 h3.bD h3.bO h4,fun t q hl=>g0.vp h3.bD (h5 t q (jE hl).1),fun j d q _ hl=>by rw[getD_replicate_false] at hl;cases hl⟩
end
end Go.Hl
end
