/-
  Parts of the proof.
-/
import Derived.Test.YtppekopemdoclaaGreatDoorRAF
import Derived.Laws.LoneSync
set_option linter.all false
set_option maxRecDepth 1000000
set_option maxHeartbeats 4000000
section
namespace Go.Hl
open Go.RowKit
def sM(l:List HP):HP:=⟨λF S w=>dR l F S w,λh1 h2 h3 h4 h=>dR.mono h1 h2 h3 h4 h⟩
variable {α:Type}
def XI(f:α->HP):HP:=⟨λF S w=>∃a,(f a).p F S w,λh1 h2 h3 h4 ⟨a,h⟩=>⟨a,(f a).mono h1 h2 h3 h4 h⟩⟩
def lK(p:Prop):HP:=⟨λ_ _ _=>p,λ_ _ _ _ h=>h⟩
theorem aF.refl(hs:List HP):aF hs hs:=λ_ _ _ h=>h
variable {b:List HP}
theorem aF.trans{a c:List HP}(h:aF a b)(k:aF b c):aF a c:=λF S w x=>k F S w (h F S w x)
theorem aF.perm{a b:List HP}(h:a.Perm b):aF a b:=λ_ _ _ x=>x.perm h
theorem aF.cons(h0:HP){a:List HP}(h:aF a b):aF (h0::a) (h0::b):=λF S w ⟨F1,F2,h1,h2,h3,h4⟩=>⟨F1,F2,h1,h2,h3,h _ _ _ h4⟩
theorem aF.drop{h0:HP}{a:List HP}(h:aF a b):aF (h0::a) b:=λF S w ⟨F1,F2,h1,h2,h3,h4⟩=>(h _ _ _ h4).mono h2 (λ_ h=>h) (λ_ _=>rfl) (λ_ _=>rfl)
theorem aF.nil(a:List HP):aF a []:=λ_ _ _ _=>trivial
variable {r:List HP}
theorem aF.pack{l:List HP}:aF (l++r) (sM l::r):=λF S w h=>by
 obtain⟨F1,F2,h1,h2,h3,h4⟩:=dR.append.1 h;exact⟨F1,F2,h1,h2,h3,h4⟩
theorem aF.unpack{l:List HP}:aF (sM l::r) (l++r):=λF S w ⟨F1,F2,h1,h2,h3,h4⟩=>dR.append.2 ⟨F1,F2,h1,h2,h3,h4⟩
theorem aF.ex{f:α->HP}(a:α):aF (f a::r) (XI f::r):=λF S w ⟨F1,F2,h1,h2,h3,h4⟩=>⟨F1,F2,h1,h2,⟨a,h3⟩,h4⟩
theorem aF.pure{p:Prop}(h:p):aF r (lK p::r):=λF S w x=>⟨λ_=>False,F,λ_ h=>h.elim,λ_ h=>h,h,x⟩
def yI:List Nat->List Nat->Bool
 |[],l=>l.isEmpty
 |i::ix,l=>l.contains i && yI ix (l.erase i)
theorem An:∀{a b:List Nat},yI a b=true->a.Perm b
 |[],b,h=>by simp[yI] at h;subst h;exact .refl _
 |i::ix,b,h=>by
  simp only[yI,Bool.and_eq_true,List.contains_iff_mem] at h;exact((An h.2).cons i).trans (List.perm_cons_erase h.1).symm
theorem Perm.idx{hs hs':List α}(ix:List Nat)(h1:ix.filterMap (λi=>hs[i]?)=hs')(h2:yI (List.range hs.length) ix=true):hs.Perm hs':=by
 have e:(List.range hs.length).filterMap (λi=>hs[i]?)=hs:=by
  have:∀(l:List α) (k:Nat) (pre:List α),pre.length=k->(List.range' k l.length).filterMap (λi=>(pre++l)[i]?)=l:=by
   intro l
   induction l with
   |nil=>intro k pre _;rfl
   |cons a l ih=>
    intro k pre hp;rw[List.length_cons,List.range'_succ,List.filterMap_cons];have:(pre++a::l)[k]?=some a:=by rw[List.getElem?_append_right (by omega)];simp[hp]
    rw[this];have h3:=ih (k+1) (pre++[a]) (by simp[hp]);simp only[List.append_assoc,List.singleton_append] at h3;rw[h3]
  have h4:=this hs 0 [] rfl;rw[List.range_eq_range'];simpa using h4
 rw[<-h1]
 conv=>lhs;rw[<-e]
 exact(An h2).filterMap _
theorem aF.left{a:List HP}:aF (a++b) a:=λF S w h=>by
 obtain⟨F1,F2,h1,h2,h3,h4⟩:=dR.append.1 h;exact h3.mono (λk hk=>(h1 k hk).1) (λ_ h=>h) (λ_ _=>rfl) (λ_ _=>rfl)
theorem aF.cZ{hs hs':List HP}(ix rest:List Nat)(h1:ix.filterMap (λi=>hs[i]?)=hs')(h2:yI (List.range hs.length) (ix++rest)=true):aF hs hs':=by
 have h:=Perm.idx (hs:=hs) (ix++rest) rfl h2;rw[List.filterMap_append,h1] at h;exact(aF.perm h).trans aF.left
section
variable {P:Program} {hs:List HP} {env:Env} {q:VP} {dst:Option Tmp} {ty T T' E K V:TypeId} {pos:String} {after:Array Edge} {gd:Option (Nat×Bool)} {x y z:Operand}
theorem aU.own{Q:Exit->Act->World->Prop}{c:Ctx}{s:Code}{hs':List HP}(h:aF hs hs')(k:aU P Q c s hs' env):aU P Q c s hs env:=λa w ⟨h1,h2,S,F,h3,h4,h5⟩=>k a w ⟨h1,h2,S,F,h3,h _ _ _ h4,h5⟩
theorem bS.own{Q:Exit->Act->World->Prop}{c:Ctx}{e:Exit}{hs':List HP}(h:aF hs hs')(k:bS Q e c hs' env):bS Q e c hs env:=λa w ⟨h1,h2,S,F,h3,h4,h5⟩=>k a w ⟨h1,h2,S,F,h3,h _ _ _ h4,h5⟩
theorem aU.opens{Q:Exit->Act->World->Prop}{c:Ctx}{s:Code}{α:Type}{f:α->HP}{r:List HP}(k:∀a,aU P Q c s (f a::r) env):aU P Q c s (XI f::r) env:=λa w ⟨h1,h2,S,F,h3,⟨F1,F2,f1,f2,⟨b,f3⟩,f4⟩,h5⟩=>k b a w ⟨h1,h2,S,F,h3,⟨F1,F2,f1,f2,f3,f4⟩,h5⟩
theorem aU.lK{Q:Exit->Act->World->Prop}{c:Ctx}{s:Code}{p:Prop}{r:List HP}(k:p->aU P Q c s r env):aU P Q c s (lK p::r) env:=λa w ⟨h1,h2,S,F,h3,⟨F1,F2,f1,f2,f3,f4⟩,h5⟩=>k f3 a w ⟨h1,h2,S,F,h3,f4.mono f2 (λ_ h=>h) (λ_ _=>rfl) (λ_ _=>rfl),h5⟩
def Eg(P:Program)(T:TypeId):Option Value:=(P.info? T).bind λi=>i.zero
theorem JU{v:Value}(h:Eg P T=some v)(w:World):(zeroValue T).run P w= .ok v w:=by
 unfold Eg at h;cases hi:P.info? T with
 |none=>simp[hi] at h
 |some i=>
  simp only[hi,Option.bind_some] at h;simp[zeroValue,typeInfo,hi,h]
theorem JV{b cap len:Nat}{ats:Array TypeId}(Aa:ats[0]?=some T)(hT:P.underlying T=some (.slice E))(hx:bA env x (ag (bI (some (b,cap)) len))):bw P hs env ⟨dst, .call ⟨.builtin .len, #[x],ats⟩,ty,pos,after,gd⟩ (af .i64 (len:Int)):=
 bw.aM λρ w S F _ he=>by
  have hv:=he.o _ _ hx;simp only[ag,bI] at hv
  exact⟨.int .i64 (len:Int),by simp[execOp,resolve,invoke,builtin,Builtin.len_,Aa,hv,run_underlying hT,goInt],rfl⟩
theorem Ao{a:dX}{k0 k1:IntKind}:aa (aC [af k0 a.1,af k1 a.2]) (ag (JT k0 k1 a)):=λS w v ⟨arr,hv,hn,hc⟩=>by
 obtain⟨u0,h0,e0⟩:=hc 0 _ rfl;obtain⟨u1,h1,e1⟩:=hc 1 _ rfl;simp only[ag] at e0 e1 ⊢;subst hv;subst e0;subst e1
 unfold JT
 congr 1
 apply Array.ext
 · simpa using hn
 · intro i h2 h3
   simp only[List.length_cons,List.length_nil] at hn
   match i,h2 with
   |0,_=>exact(Array.getElem?_eq_some_iff.1 h0).2
   |1,_=>exact(Array.getElem?_eq_some_iff.1 h1).2
   |i+2,h=>omega
theorem fY{b cap len n:Nat}{k:IntKind}{i:Int}(j:Nat)(hT:P.underlying T=some (.slice E))(hn:P.cellsOf E=n)(h0:Nat.blt 0 n=true)(hx:bA env x (ag (bI (some (b,cap)) len)))(hy:bA env y (af k i))(hi:i=(j:Int))(hj:j<len):
    bw P hs env ⟨dst, .indexAddr T x y,ty,pos,after,gd⟩ (ax b (j*n)):=
  bw.aM λρ w S F _ he=>by
    have hv:=he.o _ _ hx;simp only[ag,bI] at hv
    have h2:=he.o _ _ hy;simp only[ag] at h2
    subst hi;have hs:=run_sizeOf (T:=E) hn h0 w
    have oo:Addr.add ⟨b,0,none⟩ (j*n)=⟨b,j*n,none⟩:=by
      unfold Addr.add
      split<;>simp
    exact⟨_,by simp[execOp,hv,h2,Instr.indexAt,asIntOf,run_underlying hT,Instr.sureAddr,hs,oo,hj],rfl⟩
theorem yJ{α:Type}{b cap n j r:Nat}{enc:α->List VP}[he:gX n enc]{xs:List α}{e:α}{F S:BS}{w:World}(h:(aH (some (b,cap)) n enc xs).p F S w)(hj:xs[j]?=some e)(hc:(enc e)[r]?=some q):∃u,w.cell? ⟨b,j*n+r,none⟩=some u/\q.p S w u:=by
 obtain⟨_,_,_,arr,T,hh,_,Xx⟩:=h;obtain⟨u,hu,hq⟩:=Xx _ _ (ql he.len xs j e r q hj hc);exact⟨u,by simp[World.cell?,hh,hu],hq⟩
theorem nN{α:Type}{b cap n j r i:Nat}{enc:α->List VP}{xs:List α}{e:α}[he:gX n enc](hT:l9 P T=some false)(hx:bA env x (ax b (j*n+r)))(hi:hs[i]?=some (aH (some (b,cap)) n enc xs))(hj:xs[j]?=some e)(hc:(enc e)[r]?=some q):bw P hs env ⟨dst, .load T x,ty,pos,after,gd⟩ q:=
 bw.aM λρ w S F ho oT=>by
  have hv:=oT.o _ _ hx;simp only[ag] at hv
  obtain⟨F1,_,hp⟩:=ho.get hi;obtain⟨v,uH,hq⟩:=yJ hp hj hc;refine⟨v,?_,hq⟩
  have h1:(loadVar T ⟨b,j*n+r,none⟩).run P w= .ok v w:=by
   unfold loadVar;rw[bH (fq hT w)];simp[uH]
  simp[execOp,hv,Instr.loadAt,Instr.sureAddr,h1]
theorem Gz{α:Type}{b cap n j r i m:Nat}{enc:α->List VP}{xs:List α}{e:α}[he:gX n enc](hT:l9 P T=some true)(hn:P.cellsOf T=m)(h0:Nat.blt 0 m=true)(hx:bA env x (ax b (j*n+r)))(hi:hs[i]?=some (aH (some (b,cap)) n enc xs))(hj:xs[j]?=some e)(hl:Nat.ble (r+m) (enc e).length=true):
    bw P hs env ⟨dst, .load T x,ty,pos,after,gd⟩ (aC (((enc e).drop r).take m)):=
  bw.aM λρ w S F ho oT=>by
    have hv:=oT.o _ _ hx;simp only[ag] at hv
    obtain⟨F1,_,hp⟩:=ho.get hi;have hl':r+m<=(enc e).length:=by simpa using hl
    have hc:cT S w b (j*n+r) ((enc e).drop r):=λt q hq=>by
      rw[List.getElem?_drop] at hq;obtain⟨u,hu,Ut⟩:=yJ hp hj hq;exact⟨u,by rw[Nat.add_assoc];exact hu,Ut⟩
    obtain⟨v,hr,hq⟩:=o5 hT hn h0 (cs:=((enc e).drop r).take m) (by simp;omega) (hc.take m);exact⟨v,by simp[execOp,hv,Instr.loadAt,Instr.sureAddr,hr],hq⟩
theorem JW{α:Type}{b cap n j r:Nat}{enc:α->List VP}[he:gX n enc]{xs:List α}{e e':α}{new:List VP}{vs:List Value}{F S:BS}{w w':World}(h:(aH (some (b,cap)) n enc xs).p F S w)(hj:xs[j]?=some e)(hl:r+new.length<=(enc e).length)(hE:enc e'=ig r new (enc e))(h0:0<n)
    (hag:∀k,S k->w'.heap[k]?=w.heap[k]?) (hvl:vs.length=new.length) (hnew:∀(t:Nat) (q:VP),new[t]?=some q->∃u,vs[t]?=some u/\q.p S w u)
    (hw:∀arr T,w.heap[b]?=some (.cells arr T (0,0))->j*n+r+vs.length<=arr.size->∃arr',w'.heap[b]?=some (.cells arr' T (0,0))/\arr'.size=arr.size/\(∀t,(t<j*n+r\/j*n+r+vs.length<=t)->arr'[t]?=arr[t]?)/\∀t v,vs[t]?=some v->arr'[j*n+r+t]?=some v):
    (aH (some (b,cap)) n enc (xs.set j e')).p F S w':=by
  obtain⟨hF,hlc,hm,arr,T,hh,hsz,hc⟩:=h;have hel:(enc e).length=n:=he.len e;have hjl:j<xs.length:=(List.getElem?_eq_some_iff.1 hj).1
  have hjn:j*n+n<=cap*n:=by
    have:(j+1)*n<=cap*n:=Nat.mul_le_mul_right _ (by omega);rw[Nat.add_mul,Nat.one_mul] at this;exact this
  obtain⟨arr',h1,h2,h3,h4⟩:=hw arr T hh (by rw[hsz,hvl];omega);refine⟨hF,by simpa using hlc,by simpa using hm,arr',T,h1,by rw[h2,hsz],λt q hq=>?_⟩;obtain⟨y,hy,ZL⟩:=wm he.len h0 _ t q hq;have hdm:t=(t/n)*n+t%n:=by rw[Nat.mul_comm];exact(Nat.div_add_mod t n).symm
  have hmod:t%n<n:=Nat.mod_lt _ h0;rw[List.getElem?_set] at hy;by_cases xO:j=t/n
  · rw[if_pos xO,if_pos (by omega)] at hy
    cases hy;rw[hE,o7 r new (enc e) _ hl] at ZL;by_cases hin:r<=t%n/\t%n<r+new.length
    · rw[if_pos hin] at ZL
      obtain⟨u,hu,Ut⟩:=hnew _ _ ZL;have h5:=h4 _ u hu;have h6:j*n+r+(t%n-r)=t:=by rw[xO];omega
      rw[h6] at h5;exact⟨u,h5,q.mono (λ_ h=>h) hag Ut⟩
    · rw[if_neg hin] at ZL
      obtain⟨u,hu,Ut⟩:=hc _ _ (ql he.len xs j e _ q hj ZL);rw[xO,<-hdm] at hu;exact⟨u,by rw[h3 t (by rw[hvl,xO];omega)];exact hu,q.mono (λ_ h=>h) hag Ut⟩
  · rw[if_neg xO] at hy
    obtain⟨u,hu,Ut⟩:=hc _ _ (ql he.len xs (t/n) y _ q hy ZL);rw[<-hdm] at hu
    suffices hout:t<j*n+r\/j*n+r+vs.length<=t by
      exact⟨u,(h3 t hout).trans hu,q.mono (λ_ h=>h) hag Ut⟩
    rw[hvl];rcases Nat.lt_or_gt_of_ne xO with h5|h5
    · right
      have:(j+1)*n<=(t/n)*n:=Nat.mul_le_mul_right _ h5;rw[Nat.add_mul,Nat.one_mul] at this;omega
    · left
      have:(t/n+1)*n<=j*n:=Nat.mul_le_mul_right _ h5;rw[Nat.add_mul,Nat.one_mul] at this;omega
theorem sN {α:Type}[Flat q]{b cap n j r i:Nat}{enc:α->List VP}{xs:List α}{e:α}(e':α)[he:gX n enc](h0:Nat.blt 0 n=true)(hn:P.cellsOf T=1)(hx:bA env x (ax b (j*n+r)))(hy:bA env y q)(hi:hs[i]?=some (aH (some (b,cap)) n enc xs))(hj:xs[j]?=some e)(hl:Nat.blt r (enc e).length=true)(hE:enc e'=ig r [q] (enc e)):
    gW P hs env ⟨none, .store T x y,ty,pos,after,gd⟩ (γ:=Unit) (λ_=>True) (λ_=>hs.set i (aH (some (b,cap)) n enc (xs.set j e'))) (λ_=>ag undef):=by
  intro c a w S F aI hown oT Kp Q hk;have hv:=hx S w a oT;simp only[ag] at hv
  have hu:=hy S w a oT;have hl':r<(enc e).length:=by simpa using hl
  have hel:(enc e).length=n:=he.len e;have hjl:j<xs.length:=(List.getElem?_eq_some_iff.1 hj).1;obtain⟨F1,F2,f1,f2,f3,_,f4⟩:=hown.zj hi;obtain⟨hFb,hlc,_,arr,E',hb,hsz,hc⟩:=f3
  have hjn:j*n+n<=cap*n:=by
    have:(j+1)*n<=cap*n:=Nat.mul_le_mul_right _ (by omega);rw[Nat.add_mul,Nat.one_mul] at this;exact this
  have ho:j*n+r<arr.size:=by omega
  have hr:(execOp a.eval ⟨none, .store T x y,ty,pos,after,gd⟩).run P w= .ok .skip (w.setCell ⟨b,j*n+r,none⟩ (a.eval y)):=by
    simp[execOp,hv,Instr.storeAt,Instr.sureAddr,pW hn (Flat.flat hu) hb ho]
  have hne:∀k,k≠b->(w.setCell ⟨b,j*n+r,none⟩ (a.eval y)).heap[k]?=w.heap[k]?:=λk hk=>eN w _ _ k hk;have hag:∀k,S k->(w.setCell ⟨b,j*n+r,none⟩ (a.eval y)).heap[k]?=w.heap[k]?:=λk hk=>hne k (λe=>aI.eg k hk (e▸(f1 b hFb).1));unfold Oper.wp;rw[hr];refine hk () undef _ S F trivial (aI.write (f1 b hFb).1 rfl rfl rfl (by simp[World.setCell]) hne) (λ_ h=>h) hag ?_ rfl
  have := f4 S F1 (w.setCell ⟨b,j*n+r,none⟩ (a.eval y)) (aH (some (b,cap)) n enc (xs.set j e')) (λk hk=>(f1 k hk).2) (λ_ h=>h) (λk hk=>hne k (λe=>(f1 b hFb).2 (e▸hk))) hag
    (JW (new:=[q]) (vs:=[a.eval y]) ⟨hFb,hlc,by assumption,arr,E',hb,hsz,hc⟩ hj (by simp;omega) hE (by simpa using h0) hag rfl (λt q' ht=>by
      cases t with
      |zero=>simp at ht;subst ht;exact⟨_,rfl,hu⟩
      | succ t => simp at ht) (λab9 T1 Cl l6=>⟨ab9.setIfInBounds (j*n+r) (a.eval y),by simp[World.setCell,Array.getElem?_modify,Cl],by simp,λt ht=>Array.getElem?_setIfInBounds_ne (by simp at ht;omega),λt v ht=>by
        cases t with
        | zero => simp at ht;subst ht;have h9:j*n+r<ab9.size:=by(simp at l6;omega)
                  simp[h9]
        |succ t=>simp at ht⟩))
  exact this.mono (λk hk=>hk.elim (λh=>(f1 k h).1) (f2 k)) (λ_ h=>h) (λ_ _=>rfl) (λ_ _=>rfl)
theorem N3{f:FuncId}{fn:Func}{cs:List VP}{b off i:Nat}{n m:Int}{ats:Array TypeId}(hf:P.funcs[f]?=some fn)(hname:(fn.name=="runtime.NumGoroutine")=false)(hb:fn.body.isNone=true)(hn:Extern.findNext fn=none)
    (he:Extern.find fn=some (Extern.Atomic.update (Op.intArith .add) .i64 true)) (hx:bA env x (ax b off)) (hy:bA env y (af .i64 m)) (hi:hs[i]?=some (az b cs)) (hc:cs[off]?=some (af .i64 n)):
    gW P hs env ⟨dst, .call ⟨.value (.func f), #[x,y],ats⟩,ty,pos,after,gd⟩ (γ:=Unit) (λ_=>True) (λ_=>hs.set i (az b (cs.set off (af .i64 (IntKind.i64.wrap (n+m)))))) (λ_=>af .i64 (IntKind.i64.wrap (n+m))):=by
  intro c a w S F aI hown oT Kp Q hk;have hv:=hx S w a oT;simp only[ag] at hv
  have hu:=hy S w a oT;simp only[ag] at hu
  obtain⟨F0,_,ak⟩:=hown.get hi;obtain⟨hF0,arr,E',WH,hsz,WI⟩:=ak;have ho:off<cs.length:=(List.getElem?_eq_some_iff.1 hc).1;obtain⟨u0,ZM,JA⟩:=WI _ _ hc;simp only[ag] at JA;subst JA
  have hcell:w.cell? ⟨b,off,none⟩=some (.int .i64 n):=by simp[World.cell?,WH,ZM]
  have hfr:w.frozen? ⟨b,off,none⟩=false:=by simp[World.frozen?,WH]
  have oo:(Op.intArith .add .i64 n m).run P w= .ok (.int .i64 (IntKind.i64.wrap (n+m))) w:=by simp[Op.intArith]
  have hrun:=run_call_add hf hname hb hn .i64 he hcell hfr oo
  have hr:(execOp a.eval ⟨dst, .call ⟨.value (.func f), #[x,y],ats⟩,ty,pos,after,gd⟩).run P w= .ok (.value (.int .i64 (IntKind.i64.wrap (n+m)))) (w.setCell ⟨b,off,none⟩ (.int .i64 (IntKind.i64.wrap (n+m)))):=by
    have GA:a.eval (.func f)= .func (.func f) #[] #[]:=rfl;simp[execOp,resolve,Deferred.ofValue,invoke,hv,hu,GA,hrun]
  refine gW.Mw (m:=b) (h1:=az b (cs.set off (af .i64 (IntKind.i64.wrap (n+m))))) aI hown hi (λF1 S w h=>h.1) hr rfl rfl rfl (by simp[World.setCell]) (λk hk=>eN w _ _ k hk) (λF1 h=>?_) (λhS hag hO=>hk () _ _ S F trivial hS (λ_ h=>h) hag hO rfl)
  have hag:∀k,S k->(w.setCell ⟨b,off,none⟩ (.int .i64 (IntKind.i64.wrap (n+m)))).heap[k]?=w.heap[k]?:=λk hk=>eN w _ _ k (λe=>by
    obtain⟨F1',F2',f1,_,f3,_⟩:=hown.zj hi;exact aI.eg k hk (e▸(f1 b f3.1).1))
  refine⟨h.1,arr.setIfInBounds off (.int .i64 (IntKind.i64.wrap (n+m))),E',by simp[World.setCell,Array.getElem?_modify,WH],by simp[hsz],λj q' hj=>?_⟩;rw[List.getElem?_set] at hj;by_cases e:off=j
  · subst e
    rw[if_pos rfl,if_pos ho] at hj;cases hj
    have h9:off<arr.size:=by omega
    exact⟨_,by simp[h9],rfl⟩
  · rw[if_neg e] at hj
    obtain⟨u,F6,hq⟩:=WI j q' hj;exact⟨u,by simp[Array.getElem?_setIfInBounds_ne e,F6],q'.mono (λ_ h=>h) hag hq⟩
theorem gW.same{o:Oper}{γ:Type}{φ:γ->Prop}{hs':γ->List HP}{q:γ->VP}{q':VP}(h:gW P hs env o φ hs' q)(hl:∀g,φ g->aF (hs' g) hs)(hq:∀g,φ g->aa (q g) q'):gW P hs env o (γ:=Unit) (λ_=>True) (λ_=>hs) (λ_=>q'):=
 λc a w S F h1 h2 h3 K Q hk=>h c a w S F h1 h2 h3 K Q λg v w' S' F' hφ hs hS hag ho hqv=>hk () v w' S' F' trivial hs hS hag (hl g hφ _ _ _ ho) (hq g hφ _ _ _ hqv)
theorem cv.ge{ops:Array Oper}{Q:Exit->Act->World->Prop}{c:Ctx}{l:List Oper}{o:Oper}{d:Tmp}{j:Nat}{want:Bool}{t:Tmp}{c0 p:Prop}(hl:look env t=some (fK c0 (av p))\/(look env t=some (av p)/\c0=True))(uG:o.guard=some (j,want))(hj:(ops[j]?).bind (·.dst)=some t)(ht:Nat.blt t c.n=true)
    (h:(c0/\(if want then p else ¬p))->gW P hs env o (γ:=Unit) (λ_=>True) (λ_=>hs) (λ_=>q)) (o4:o.dst=some d) (hd:Nat.blt d c.n=true) (k:cv P ops Q c l hs ((d,fK (c0/\(if want then p else ¬p)) q)::env)):cv P ops Q c (o::l) hs env:=by
  intro a w hst;obtain⟨h1,h2,S,F,h3,h4,h5⟩:=hst;refine wpListIn_step λK hK=>?_;have ht':t<a.tmps.size:=by rw[h2];simpa using ht
  have h6:a.tmps[t]?=some (a.tmps.getD t undef):=by simp[ht']
  have hk:∀v w' S' F',j6 c w' S' F'->(∀k,S k->S' k)->(∀k,S k->w'.heap[k]?=w.heap[k]?)->dR hs F' S' w'->(fK (c0/\(if want then p else ¬p)) q).p S' w' v->K (a.put o.dst v) w':=λv w' S' F' k1 k2 k3 k4 k5=>hK _ _ (k _ _ ⟨by rw[Act.ek];exact h1,by rw[Act.iw];exact h2,S',F',k1,k4,by rw[o4];exact(h5.mono k2 k3).put k5 (by rw[h2];simpa using hd)⟩)
  have hb:(c0/\∃b,a.tmps.getD t undef= .bool b/\(b=true↔p))\/(¬c0/\a.tmps.getD t undef=undef):=by
    rcases hl with hl|⟨hl,hc⟩
    · exact de.Xr hl S w a.tmps h5
    · exact .inl ⟨hc▸trivial,h5 t _ hl⟩
  rcases hb with⟨hc,b,hb,Ch⟩|⟨hc,hu⟩
  · have hy:yielded ops a.tmps j=some b:=by
      unfold yielded;rw[hj];simp only[Option.bind_some,h6,hb]
    by_cases hw:b=want
    · have hp:(if want then p else ¬p):=by
        cases want
        · simp at hw ⊢;intro hp';rw[Ch.2 hp'] at hw;cases hw
        · simpa using Ch.1 hw
      rw[if_pos (by simp[Region.wanted,uG,hy,hw])];exact Oper.rX ((h ⟨hc,hp⟩).jV h3 h4 h5) (h ⟨hc,hp⟩ c a w S F h3 h4 h5 K Q λg v w' S' F' _ k1 k2 k3 k4 k5=>hk v w' S' F' k1 k2 k3 k4 ⟨λ_=>k5,λhn=>(hn ⟨hc,hp⟩).elim⟩)
    · have hp:¬(if want then p else ¬p):=by
        cases want
        · simp at hw ⊢;exact Ch.1 hw
        · intro hp';exact hw (Ch.2 (by simpa using hp'))
      rw[if_neg (by simp[Region.wanted,uG,hy,hw])];exact⟨λ_ _=>trivial,hk _ _ S F h3 (λ_ h=>h) (λ_ _=>rfl) h4 ⟨λhn=>(hp hn.2).elim,λ_=>rfl⟩⟩
  · have hy:yielded ops a.tmps j=none:=by
      unfold yielded;rw[hj];simp only[Option.bind_some,h6,hu];rfl
    rw[if_neg (by simp[Region.wanted,uG,hy])];exact⟨λ_ _=>trivial,hk _ _ S F h3 (λ_ h=>h) (λ_ _=>rfl) h4 ⟨λhn=>(hc hn.1).elim,λ_=>rfl⟩⟩
theorem De(t:Nat)(q:VP)(e:Env):look ((t,q)::e) t=some q:=by rw[bX,if_pos rfl]
theorem cv.egT{ops:Array Oper}{Q:Exit->Act->World->Prop}{c:Ctx}{l:List Oper}{o:Oper}{d:Tmp}{j:Nat}{t:Tmp}{p:Prop}(hl:look env t=some (av p))(uG:o.guard=some (j,true))(hj:(ops[j]?).bind (·.dst)=some t)(ht:Nat.blt t c.n=true)
    (h:p->gW P hs env o (γ:=Unit) (λ_=>True) (λ_=>hs) (λ_=>q)) (o4:o.dst=some d) (hd:Nat.blt d c.n=true) (k:cv P ops Q c l hs ((d,fK (p) q)::env)):cv P ops Q c (o::l) hs env:=by
  have hr:(True/\(if (true:Bool)=true then p else ¬p))↔(p):=⟨λh=>by simpa using h.2,λh=>⟨trivial,by simpa using h⟩⟩;refine cv.ge (c0:=True) (p:=p) (want:=true) (.inr ⟨hl,rfl⟩) uG hj ht (λh1=>h (hr.1 h1)) o4 hd λa w hst=>k a w (hst.mono (dP.le (dP.cons (De _ _ _) (fK.congr hr) ?_)));exact dP.skip (by simp) (dP.refl _ _)
theorem cv.egF{ops:Array Oper}{Q:Exit->Act->World->Prop}{c:Ctx}{l:List Oper}{o:Oper}{d:Tmp}{j:Nat}{t:Tmp}{p:Prop}(hl:look env t=some (av p))(uG:o.guard=some (j,false))(hj:(ops[j]?).bind (·.dst)=some t)(ht:Nat.blt t c.n=true)
    (h:¬p->gW P hs env o (γ:=Unit) (λ_=>True) (λ_=>hs) (λ_=>q)) (o4:o.dst=some d) (hd:Nat.blt d c.n=true) (k:cv P ops Q c l hs ((d,fK (¬p) q)::env)):cv P ops Q c (o::l) hs env:=by
  have hr:(True/\(if (false:Bool)=true then p else ¬p))↔(¬p):=⟨λh=>by simpa using h.2,λh=>⟨trivial,by simpa using h⟩⟩;refine cv.ge (c0:=True) (p:=p) (want:=false) (.inr ⟨hl,rfl⟩) uG hj ht (λh1=>h (hr.1 h1)) o4 hd λa w hst=>k a w (hst.mono (dP.le (dP.cons (De _ _ _) (fK.congr hr) ?_)));exact dP.skip (by simp) (dP.refl _ _)
end
def eO(P:Program)(l:List Oper)(n:Nat)(e0:Env)(T:iz->List HP->Prop)(FR:List HP):List (Nat×Nat)->iz->List HP->Prop
 |[],done,hs=>T done hs
 |(i,0)::r,done,hs=>∃o d q,l[i]?=some o/\o.dst=some d/\(∀hs',de P l.toArray n hs' (dg o.after done++e0) o q)/\eO P l n e0 T FR r ((i,d,q)::done) hs
 |(i,1)::r,done,hs=>∃o d q,l[i]?=some o/\o.dst=some d/\(∀hs',aF hs' FR->de P l.toArray n hs' (dg o.after done++e0) o q)/\aF hs FR/\eO P l n e0 T FR r ((i,d,q)::done) hs
 |(i,2)::r,done,hs=>∃(o:Oper) (d:Tmp),l[i]?=some o/\o.dst=some d/\o.guard=none/\∃(γ:Type) (φ:γ->Prop) (hs':γ->List HP) (q:γ->VP),gW P hs (dg o.after done++e0) o φ hs' q/\∀g,φ g->eO P l n e0 T FR r ((i,d,q g)::done) (hs' g)
 |(i,3)::r,done,hs=>∃(o:Oper),l[i]?=some o/\o.dst=none/\o.guard=none/\∃(γ:Type) (φ:γ->Prop) (hs':γ->List HP) (q:γ->VP),gW P hs (dg o.after done++e0) o φ hs' q/\∀g,φ g->eO P l n e0 T FR r ((i,n,ZH)::done) (hs' g)
 |(i,4)::r,done,hs=>∃(o:Oper) (d:Tmp),l[i]?=some o/\o.dst=some d/\o.guard=none/\∃(γ:Type) (φ:γ->Prop) (hs':γ->List HP) (q:γ->VP),gW P hs (dg o.after done++e0) o φ hs' q/\(∀g,φ g->aF (hs' g) FR)/\∀g,φ g->eO P l n e0 T FR r ((i,d,q g)::done) (hs' g)
 |(_,_+5)::_,_,_=>False
section
variable {P:Program} {l:List Oper} {n:Nat} {hs:List HP} {e0:Env} {T:iz->List HP->Prop} {FR:List HP} {Q:Exit->Act->World->Prop} {c:Ctx} {done:iz} {r:List (Nat×Nat)} {i:Nat}
theorem eO.p{d:Tmp}{q:VP}{op:Op}{ty:TypeId}{pos:String}{after:Array Edge}(ho:l[i]?=some ⟨some d,op,ty,pos,after,none⟩)
    (h:∀hs',bw P hs' (dg after done++e0) ⟨some d,op,ty,pos,after,none⟩ q) (k:eO P l n e0 T FR r ((i,d,q)::done) hs):eO P l n e0 T FR ((i,0)::r) done hs:=
  ⟨_,d,q,ho,rfl,λhs'=>de.plain (h hs') rfl,k⟩
theorem eO.g{d:Tmp}{q:VP}{op:Op}{ty:TypeId}{pos:String}{after:Array Edge}{gd:Option (Nat×Bool)}(ho:l[i]?=some ⟨some d,op,ty,pos,after,gd⟩)
    (h:∀hs',de P l.toArray n hs' (dg after done++e0) ⟨some d,op,ty,pos,after,gd⟩ q) (k:eO P l n e0 T FR r ((i,d,q)::done) hs):eO P l n e0 T FR ((i,0)::r) done hs:=
  ⟨_,d,q,ho,rfl,h,k⟩
theorem eO.o{d:Tmp}{q:VP}{op:Op}{ty:TypeId}{pos:String}{after:Array Edge}(ho:l[i]?=some ⟨some d,op,ty,pos,after,none⟩)
    (h:bw P FR (dg after done++e0) ⟨some d,op,ty,pos,after,none⟩ q) (hl:aF hs FR) (k:eO P l n e0 T FR r ((i,d,q)::done) hs):eO P l n e0 T FR ((i,1)::r) done hs:=
  ⟨_,d,q,ho,rfl,λ_ hl'=>(de.plain h rfl).own hl',hl,k⟩
theorem eO.a{d:Tmp}{op:Op}{ty:TypeId}{pos:String}{after:Array Edge}{γ:Type}{φ:γ->Prop}{hs':γ->List HP}{q:γ->VP}(ho:l[i]?=some ⟨some d,op,ty,pos,after,none⟩)
    (h:gW P hs (dg after done++e0) ⟨some d,op,ty,pos,after,none⟩ φ hs' q) (hl:∀g,φ g->aF (hs' g) FR) (k:∀g,φ g->eO P l n e0 T FR r ((i,d,q g)::done) (hs' g)):eO P l n e0 T FR ((i,4)::r) done hs:=
  ⟨_,d,ho,rfl,rfl,γ,φ,hs',q,h,hl,k⟩
theorem eO.s{op:Op}{ty:TypeId}{pos:String}{after:Array Edge}{hs':List HP}{q:Unit->VP}(ho:l[i]?=some ⟨none,op,ty,pos,after,none⟩)
    (h:gW P hs (dg after done++e0) ⟨none,op,ty,pos,after,none⟩ (γ:=Unit) (λ_=>True) (λ_=>hs') q) (k:eO P l n e0 T FR r ((i,n,ZH)::done) hs'):eO P l n e0 T FR ((i,3)::r) done hs:=
  ⟨_,ho,rfl,rfl,Unit,_,_,q,h,λ_ _=>k⟩
theorem eO.head{s:List (Nat×Nat)}:∀{k:Nat},2<=k->k<=4->eO P l n e0 T FR ((i,k)::s) done hs->∃(o:Oper) (dd:Nat) (γ:Type) (φ:γ->Prop) (hs':γ->List HP) (q:γ->VP),l[i]?=some o/\(o.dst=some dd\/o.dst=none/\dd=n)/\o.guard=none/\gW P hs (dg o.after done++e0) o φ hs' q/\(k=4->∀g,φ g->aF (hs' g) FR)/\
    ∀g,φ g->∃q':VP,(∀S w v,(q g).p S w v->(o.dst=some dd->q'.p S w v))/\(o.dst=none->∀S w v,q'.p S w v)/\eO P l n e0 T FR s ((i,dd,q')::done) (hs' g)
  |0,h,_,_=>absurd h (by omega)
  |1,h,_,_=>absurd h (by omega)
  |2,_,_,⟨o',d',g1,g2,g3,γ,φ,hs',q,g4,g5⟩=>⟨o',d',γ,φ,hs',q,g1, .inl g2,g3,g4,(λh=>by cases h),λg hg=>⟨q g,λ_ _ _ h _=>h,(λh=>by rw[g2] at h;cases h),g5 g hg⟩⟩
  |3,_,_,⟨o',g1,g2,g3,γ,φ,hs',q,g4,g5⟩=>⟨o',n,γ,φ,hs',q,g1, .inr ⟨g2,rfl⟩,g3,g4,(λh=>by cases h),λg hg=>⟨ZH,λ_ _ _ _ _=>trivial,λ_ _ _ _=>trivial,g5 g hg⟩⟩
  |4,_,_,⟨o',d',g1,g2,g3,γ,φ,hs',q,g4,g6,g5⟩=>⟨o',d',γ,φ,hs',q,g1, .inl g2,g3,g4,(λ_=>g6),λg hg=>⟨q g,λ_ _ _ h _=>h,(λh=>by rw[g2] at h;cases h),g5 g hg⟩⟩
  |_+5,_,h,_=>absurd h (by omega)
def WJ(P:Program)(l:List Oper)(n:Nat)(e0:Env)(FR hs:List HP)(done:iz)(p:Nat×Nat):Prop:=
 ∃o d q dn,l[p.1]?=some o/\o.dst=some d/\(p.1,d,q)∈done/\(∀x,x∈dn->x∈done)/\de P l.toArray n hs (dg o.after dn++e0) o q/\(p.2=0->∀hs',de P l.toArray n hs' (dg o.after dn++e0) o q)/\(p.2=1->∀hs',aF hs' FR->de P l.toArray n hs' (dg o.after dn++e0) o q)
theorem eO.expand:∀(r:List (Nat×Nat)) (done:iz),eO P l n e0 T FR r done hs->∃B r' done',r=B++r'/\(r'=[]\/∃i k s,r'=(i,k)::s/\2<=k)/\eO P l n e0 T FR r' done' hs/\(∀x,x∈done->x∈done')/\
    done'.map (·.1)=(B.map (·.1)).reverse++done.map (·.1)/\(∀x,x∈done'->x∈done\/((∃o,l[x.1]?=some o/\o.dst=some x.2.1)/\∃p∈B,p.1=x.1))/\(∀p,p∈B->WJ P l n e0 FR hs done' p)/\∀p,p∈B->p.2<2
  |[],done,h=>⟨[],[],done,rfl, .inl rfl,h,λ_ h=>h,rfl,λx hx=> .inl hx,λp hp=>by simp at hp,λp hp=>by simp at hp⟩
  | (i, 0)::r,done,h=>by
    obtain⟨o,d,q,h1,h2,h3,h4⟩:=h;obtain⟨B,r',done',g1,g2,g3,g4,g5,g6,g7,g8⟩:=eO.expand r _ h4;refine⟨(i,0)::B,r',done',by rw[g1];rfl,g2,g3,λx hx=>g4 x (List.mem_cons_of_mem _ hx),by rw[g5];simp,λx hx=>?_,λp hp=>?_,λp hp=>?_⟩
    · rcases g6 x hx with h|⟨h,p,hp,he⟩
      · rcases List.mem_cons.1 h with h|h
        · subst h;exact .inr ⟨⟨o,h1,h2⟩,(i,0),List.mem_cons_self ..,rfl⟩
        · exact .inl h
      · exact .inr ⟨h,p,List.mem_cons_of_mem _ hp,he⟩
    · rcases List.mem_cons.1 hp with h|h
      · subst h;exact⟨o,d,q,done,h1,h2,g4 _ (List.mem_cons_self ..),λx hx=>g4 x (List.mem_cons_of_mem _ hx),h3 hs,λ_=>h3,λh=>by simp at h⟩
      · exact g7 p h
    · rcases List.mem_cons.1 hp with h|h
      · subst h;simp
      · exact g8 p h
  | (i, 1)::r,done,h=>by
    obtain⟨o,d,q,h1,h2,h3,h3b,h4⟩:=h;obtain⟨B,r',done',g1,g2,g3,g4,g5,g6,g7,g8⟩:=eO.expand r _ h4;refine⟨(i,1)::B,r',done',by rw[g1];rfl,g2,g3,λx hx=>g4 x (List.mem_cons_of_mem _ hx),by rw[g5];simp,λx hx=>?_,λp hp=>?_,λp hp=>?_⟩
    · rcases g6 x hx with h|⟨h,p,hp,he⟩
      · rcases List.mem_cons.1 h with h|h
        · subst h;exact .inr ⟨⟨o,h1,h2⟩,(i,1),List.mem_cons_self ..,rfl⟩
        · exact .inl h
      · exact .inr ⟨h,p,List.mem_cons_of_mem _ hp,he⟩
    · rcases List.mem_cons.1 hp with h|h
      · subst h;exact⟨o,d,q,done,h1,h2,g4 _ (List.mem_cons_self ..),λx hx=>g4 x (List.mem_cons_of_mem _ hx),h3 hs h3b,(λh=>by simp at h),λ_=>h3⟩
      · exact g7 p h
    · rcases List.mem_cons.1 hp with h|h
      · subst h;simp
      · exact g8 p h
  |(i,2)::r,done,h=>⟨[],(i,2)::r,done,rfl, .inr ⟨i,2,r,rfl,by omega⟩,h,λ_ h=>h,rfl,λx hx=> .inl hx,λp hp=>by simp at hp,λp hp=>by simp at hp⟩
  |(i,3)::r,done,h=>⟨[],(i,3)::r,done,rfl, .inr ⟨i,3,r,rfl,by omega⟩,h,λ_ h=>h,rfl,λx hx=> .inl hx,λp hp=>by simp at hp,λp hp=>by simp at hp⟩
  |(i,4)::r,done,h=>⟨[],(i,4)::r,done,rfl, .inr ⟨i,4,r,rfl,by omega⟩,h,λ_ h=>h,rfl,λx hx=> .inl hx,λp hp=>by simp at hp,λp hp=>by simp at hp⟩
  |(_,_+5)::_,_,h=>h.elim
structure aD9(P:Program)(l:List Oper)(c:Ctx)(e0:Env)(T:iz->List HP->Prop)(FR:List HP)(plan:List (Nat×Nat))(pre r:List (Nat×Nat))(done:iz)(hs:List HP)(listed:Array Bool)(a:Act)(w:World):Prop where
 df:a.defers=c.df
 sz:a.tmps.size=c.n
 split:plan=pre++r
 dr:eO P l c.n e0 T FR r done hs
 hd:r=[]\/∃i k s,r=(i,k)::s/\2<=k
 un:∀p∈r,listed.getD p.1 false=false
 idx:done.map (·.1)=(pre.map (·.1)).reverse
 dst:∀x∈done,∃o,l[x.1]?=some o/\(o.dst=some x.2.1\/o.dst=none/\x.2.1=c.n)
 JJ:∀p∈pre,listed.getD p.1 false=false->WJ P l c.n e0 FR hs done p
 st:∃S F,j6 c w S F/\dR hs F S w/\dI e0 S w a.tmps/\∀j d q,(j,d,q)∈done->listed.getD j false=true->q.p S w (a.tmps.getD d undef)
theorem GB{m g:Nat}{env:Env}{plan:List (Nat×Nat)}(hB:nM l.toArray plan m g c.n=true)(hT:∀done hs,T done hs->cv P l.toArray Q c (l.drop m) hs (gP done++env)):
    ∀(u:Nat) (listed:Array Bool) (a:Act) (w:World) (pre r:List (Nat×Nat)) (done:iz) (hs:List HP),count m listed=u->HeadInv .any l.toArray m listed->aD9 P l c (strip (dstsOf (l.take m)) env) T FR plan pre r done hs listed a w->wpAnyIn (WF c.ro) 0 P .any l.toArray Q (u+g) listed a w:=by
  simp only[nM,Gu,Bool.and_eq_true] at hB;obtain⟨⟨⟨⟨⟨⟨⟨⟨⟨⟨hsum,hnd⟩,hds⟩,hback⟩,hsc⟩,Q4⟩,Q7⟩,jg⟩,hpm⟩,hpc⟩,ZI⟩:=hB;have yH:m+g=l.toArray.size:=by simpa using hsum
  have Q5:(dstsOf (l.take m)).Nodup:=by simpa using hnd
  have Ah:(plan.map (·.1)).Nodup:=by simpa using Q7
  have aD7:plan.length=m:=by simpa using jg
  have Q8:∀p∈plan,p.1<m/\p.2<=4:=λp hp=>by have:=List.all_eq_true.1 hpm p hp;simpa using this
  have JL:∀p∈plan,p.1<m:=λp hp=>(Q8 p hp).1
  have Cj:∀o∈l.take m,∀d,o.dst=some d->d<c.n:=λo ho d hd=>by
    have:=List.all_eq_true.1 hds o (by simpa using ho);rw[hd] at this;simpa using this
  have hlen:(l.take m).length=m:=by simp at yH ⊢;omega
  have Q9:∀i,i<m->∃k,(i,k)∈plan:=λi hi=>by
    obtain⟨p,hp,he⟩:=List.any_eq_true.1 (List.all_eq_true.1 hpc i (List.mem_range.2 hi));have:p.1=i:=by simpa using he
    exact⟨p.2,by rw[<-this];exact hp⟩
  intro u
  induction u with
  | zero =>
    intro listed a w pre r done hs hc inv hu;rw[Nat.zero_add]
    have hr:r=[]:=by
      cases r with
      |nil=>rfl
      | cons p r=>
        have h1:=hu.un p (List.mem_cons_self ..);have h2:=jH hc p.1 (JL p (by rw[hu.split];simp));rw[h1] at h2;cases h2
    subst hr
    have hl:listed=(List.replicate m true++List.replicate g false).toArray:=by
      apply Array.ext
      · simp[inv.size] at yH ⊢;omega
      · intro i h1 h2
        have hi:i<l.toArray.size:=by rw[<-inv.size];exact h1
        by_cases xR:i<m
        · have:=jH hc i xR
          simp[h1] at this;simp[xR,this]
        · have:=inv.tail i (by omega) hi
          simp[h1] at this;simp[List.getElem_append,xR,this]
    have TT:(l.drop m).length=g:=by simp at yH ⊢;omega
    have hw:wpListIn (WF c.ro) 0 P l.toArray Q (l.drop m) a w:=by
      obtain⟨S,F,h1,h2,h3,h4⟩:=hu.st;refine hT done hs hu.dr a w ⟨hu.df,hu.sz,S,F,h1,h2,λt q hl=>?_⟩
      have hin:∀j,j<m->j∈done.map (·.1):=λj hj=>by
        obtain⟨k,hk⟩:=Q9 j hj;rw[hu.idx,List.mem_reverse];refine List.mem_map.2 ⟨(j,k),?_,rfl⟩;rw[hu.split] at hk;simpa using hk
      rcases qT hl with h5|⟨h6,h5⟩
      · obtain⟨j,hj⟩:=qS h5
        refine h4 j t q hj (jH hc j ?_)
        have:j∈pre.map (·.1):=by
          have:=tX hj;rw[hu.idx,List.mem_reverse] at this;exact this
        obtain⟨p,hp,rfl⟩:=List.mem_map.1 this;exact JL p (by rw[hu.split];simp[hp])
      · refine h3 t q (pZ h5 ?_)
        cases hct:(dstsOf (l.take m)).contains t with
        |false=>rfl
        | true=>
          obtain⟨j,o,ho,hd⟩:=Ae hct;have Q6:j<m:=by have:=(List.getElem?_eq_some_iff.1 ho).1;omega
          obtain⟨x,hx,he⟩:=List.mem_map.1 (hin j Q6);obtain⟨o',ho',hd'⟩:=hu.dst x hx;rw[he] at ho';rw[List.getElem?_take,if_pos Q6] at ho;rw[ho] at ho';cases ho'
          rw[hd] at hd';have ZJ:t=x.2.1:=hd'.elim (λh=>Option.some.inj h) (λh=>by cases h.1);subst ZJ;exact absurd h6 (pY (j:=x.1) (q:=x.2.2) hx)
    have:=lJ (F:=WF c.ro) (n:=0) (md:= .any) (P:=P) (ops:=l.toArray) (Q':=Q) (l.drop m) m listed a w (λj=>by simp[List.getElem?_drop]) (by rw[TT,hl];exact Q4) hw
    rwa [TT] at this
  | succ u ih =>
    intro listed a w pre r done hs hc inv hu;rw[show u+1+g=(u+g)+1 by omega];refine⟨λh0=>absurd h0 (sI (by omega) inv.size hback (by omega)),λi hi=>?_⟩
    have xR:i<m:=by
      rcases Nat.lt_or_ge i m with h|h
      · exact h
      · exfalso
        have ZF:i<l.toArray.size:=by
          obtain⟨_,o,ho,_⟩:=mem_ready.1 hi;exact(Array.getElem?_eq_some_iff.1 ho).1
        have hg:Nat.beq g 0=false:=by
          cases hg:Nat.beq g 0
          · rfl
          · have:g=0:=by simpa using hg
            omega
        rw[hg] at hsc;simp only[Bool.false_or,Bool.and_eq_true] at hsc
        obtain⟨k,u5,hk2⟩:∃k,k<m/\listed.getD k false=false:=by
          cases hf:(List.range m).filter (λi=> !listed.getD i false) with
          |nil=>rw[count,hf] at hc;simp at hc
          | cons x l=>
            have:x∈(List.range m).filter (λi=> !listed.getD i false):=by rw[hf];exact List.mem_cons_self ..
            rw[List.mem_filter,List.mem_range] at this;exact⟨x,this.1,by simpa using this.2⟩
        exact tail_waits hsc.1 hsc.2 (by omega) inv _ k rfl u5 (getD_in (by rw[inv.size];omega) hk2) i h hi
    obtain⟨hun,o,ho,JI⟩:=mem_ready.1 hi;have Ec:=getD_both hun;have Ed:l[i]?=some o:=by simpa using ho
    have zy:(l.take m)[i]?=some o:=by rw[List.getElem?_take,if_pos xR];exact Ed
    obtain⟨S,F,h1,h2,h3,h4⟩:=hu.st
    have XB:(done.map (·.1)).Nodup:=by
      rw[hu.idx];have:=Ah;rw[hu.split,List.map_append] at this;exact(List.reverse_perm _).nodup_iff.2 (List.nodup_append.1 this).1
    have hneed:∀j,uK l.toArray (m+1) i j=true->listed.getD j false=true:=λj hj=>qU inv _ i j (λo' ho'=>by
      rw[ho] at ho';cases ho';exact JI) hj
    have sA:∀dn:iz,(∀x,x∈dn->x∈done)->dI (dg o.after dn++strip (dstsOf (l.take m)) env) S w a.tmps:=λdn hdn t x hx=>by
      rcases sH hx with h5|h5
      · obtain⟨j,hj,hw⟩:=uZ h5
        refine h4 j t x (hdn _ hj) ?_;unfold waits at hw;obtain⟨e,he,hb⟩:=List.any_eq_true.1 hw;simp only[Bool.and_eq_true] at hb;have:e.on=j:=by simpa using hb.1
        rw[<-this];exact JI e (by simpa using he) hb.2
      · exact h3 t x h5
    have hslot:∀j dj qj,(j,dj,qj)∈done->j≠i->∀d,o.dst=some d->d≠dj:=λj dj qj zz hij d o4 e=>by
      subst e;obtain⟨oj,ZG,XC⟩:=hu.dst _ zz;have u6:=Cj o (List.mem_of_getElem? zy) d o4;have XC:oj.dst=some d:=XC.resolve_right (λh=>by have h9:d=c.n:=h.2;rw[h9] at u6;exact Nat.lt_irrefl _ u6)
      have Q6:j<m:=by
        have:j∈pre.map (·.1):=by
          have:=tX zz;rw[hu.idx,List.mem_reverse] at this;exact this
        obtain⟨p,hp,rfl⟩:=List.mem_map.1 this;exact JL p (by rw[hu.split];simp[hp])
      have XD:(l.take m)[j]?=some oj:=by rw[List.getElem?_take,if_pos Q6];exact ZG
      exact hij (Ag Q5 XD zy XC o4)
    have Ra:∀t x,look (strip (dstsOf (l.take m)) env) t=some x->∀d,o.dst=some d->d≠t:=λt x hx d o4 e=>by
      subst e;have:=(me hx).2;rw[ox zy o4] at this;cases this
    have Rb:count m (listed.setIfInBounds i true)=u:=by have:=count_set xR Ec (by rw[inv.size];omega);omega
    obtain⟨k,hk⟩:=Q9 i xR;rw[hu.split] at hk;rcases List.mem_append.1 hk with hpre|hrest
    ·
      obtain⟨o',d,q,dn,g1,o4,g3,g4,g5,g6⟩:=hu.JJ _ hpre Ec;simp only at g1;rw[Ed] at g1;cases g1
      have u6:=Cj o (List.mem_of_getElem? zy) d o4
      have hne_r:∀p∈r,p.1≠i:=λp hp e=>by
        have h7:=Ah;rw[hu.split,List.map_append] at h7;exact(List.nodup_append.1 h7).2.2 i (List.mem_map.2 ⟨_,hpre,rfl⟩) p.1 (List.mem_map.2 ⟨p,hp,rfl⟩) e.symm
      unfold wpOpIn;simp only[ho]
      have key:=g5 a w S F hu.sz h1.bZ h1.cK h1.eg h2 (sA dn g4) (wpAnyIn (WF c.ro) 0 P .any l.toArray Q (u+g) (listed.setIfInBounds i true)) Q (λv w' S' gr hq=>by
        refine ih _ _ _ pre r done hs Rb (inv.set hi xR) ⟨by rw[Act.ek];exact hu.df,by rw[Act.iw];exact hu.sz,hu.split,hu.dr,hu.hd,λp hp=>?_,hu.idx,hu.dst,λp hp Ck=>?_,S',F,h1.grow gr,gr.zZ h1.bZ h1.cK h2,?_,?_⟩
        · rw[getD_set_ne false (λe=>hne_r p hp e.symm)];exact hu.un p hp
        · refine hu.JJ p hp ?_
          by_cases e:i=p.1
          · rw[<-e];exact Ec
          · rw[getD_set_ne false e] at Ck;exact Ck
        · intro t x hx
          rw[gQ (Ra t x hx)];exact gr.vp h1.bZ (h3 t x hx)
        · intro j dj qj zz Jy
          by_cases hij:j=i
          · subst hij
            obtain⟨rfl,rfl⟩:=tY XB zz g3;rw[o4];have:dj<a.tmps.size:=by rw[hu.sz];exact u6
            simpa[Act.put,this] using hq
          · rw[getD_set_ne false (λe=>hij e.symm)] at Jy
            rw[gQ (hslot j dj qj zz hij)];exact gr.vp h1.bZ (h4 j dj qj zz Jy))
      by_cases hw:Region.wanted o (yielded l.toArray a.tmps)=true
      · rw[if_pos hw] at key ⊢;exact Oper.rX (de.jV g5 hu.sz h1 h2 (sA dn g4) hw) key
      · rw[if_neg hw] at key ⊢;exact⟨λ_ _=>trivial,key⟩
    ·
      obtain⟨i0,k0,s,rfl,hk2⟩:∃i0 k0 s,r=(i0,k0)::s/\2<=k0:=hu.hd.resolve_left (λe=>by rw[e] at hrest;cases hrest);obtain⟨hafter,hread⟩:=qm ZI hk2 hu.split
      have hii:i0=i:=by
        rcases List.mem_cons.1 hrest with e|e
        · cases e;rfl
        · have:=hneed i0 (hafter _ e)
          rw[hu.un (i0,k0) (List.mem_cons_self ..)] at this;cases this
      subst hii
      have Us:∀p∈s,p.1≠i0:=λp hp e=>by
        have h7:=Ah;rw[hu.split,List.map_append,List.map_cons] at h7;exact(List.nodup_cons.1 (List.nodup_append.1 h7).2.1).1 (List.mem_map.2 ⟨p,hp,e⟩)
      have hnp:∀p∈pre,p.1≠i0:=λp hp e=>by
        have h7:=Ah;rw[hu.split,List.map_append] at h7;exact(List.nodup_append.1 h7).2.2 p.1 (List.mem_map.2 ⟨p,hp,rfl⟩) i0 (by simp) e
      obtain⟨dd,γ,φ,hs',q,hdd,g3,g4,Jz,g5⟩:∃(dd:Nat) (γ:Type) (φ:γ->Prop) (hs':γ->List HP) (q:γ->VP),(o.dst=some dd\/o.dst=none/\dd=c.n)/\o.guard=none/\gW P hs (dg o.after done++strip (dstsOf (l.take m)) env) o φ hs' q/\(k0=4->∀g,φ g->aF (hs' g) FR)/\
          ∀g,φ g->∃q':VP,(∀S w v,(q g).p S w v->(o.dst=some dd->q'.p S w v))/\(o.dst=none->∀S w v,q'.p S w v)/\eO P l c.n (strip (dstsOf (l.take m)) env) T FR s ((i0,dd,q')::done) (hs' g):=by
        obtain⟨o',dd,γ,φ,hs',q,g1,g2,g3,g4,Jz,g5⟩:=eO.head hk2 (Q8 (i0,k0) (by rw[hu.split];simp)).2 hu.dr;rw[Ed] at g1;cases g1
        exact⟨dd,γ,φ,hs',q,g2,g3,g4,Jz,g5⟩
      unfold wpOpIn;simp only[ho];rw[if_pos (by simp[Region.wanted,g3])];refine Oper.rX (gW.jV g4 h1 h2 (sA done (λ_ h=>h))) (g4 c a w S F h1 h2 (sA done (λ_ h=>h)) _ _ λgh v w' S' F' hφ aI hSS hag hown hq=>?_);obtain⟨q',WD,ZK,g6⟩:=g5 gh hφ;obtain⟨B,r',done',e1,e2,e3,e4,e5,e6,e7,e8⟩:=eO.expand s _ g6;refine ih _ _ _ (pre++(i0,k0)::B) r' done' (hs' gh) Rb (inv.set hi xR) ⟨by rw[Act.ek];exact hu.df,by rw[Act.iw];exact hu.sz,by rw[hu.split,e1];simp,e3,e2,λp hp=>?_,by rw[e5];simp[hu.idx],λx hx=>?_,λp hp Ck=>?_,S',F',aI,hown,?_,?_⟩
      · have hp':p∈s:=by rw[e1];simp[hp]
        rw[getD_set_ne false (λe=>Us p hp' e.symm)];exact hu.un p (List.mem_cons_of_mem _ hp')
      · rcases e6 x hx with h|h
        · rcases List.mem_cons.1 h with h|h
          · subst h;exact⟨o,Ed,hdd⟩
          · exact hu.dst x h
        · obtain⟨⟨o1,f1,f2⟩,_⟩:=h
          exact⟨o1,f1, .inl f2⟩
      · rcases List.mem_append.1 hp with h|h
        · have Gv:listed.getD p.1 false=false:=by
            rw[getD_set_ne false (λe=>hnp p h e.symm)] at Ck;exact Ck
          obtain⟨o1,d1,q1,dn,f1,f2,f3,f4,f5,f6,f7⟩:=hu.JJ p h Gv
          have hk2':¬2<=p.2:=λh2=>by
              obtain⟨a1,b1,hab⟩:=List.append_of_mem h;have:=(qm ZI (a:=a1) (b:=b1++(i0,k0)::s) (i:=p.1) h2 (by rw[hu.split,hab];simp)).1 (i0,k0) (by simp);have:=hneed p.1 this;rw[Gv] at this;cases this
          by_cases v5:k0=4
          · exact⟨o1,d1,q1,dn,f1,f2,e4 _ (List.mem_cons_of_mem _ f3),λx hx=>e4 x (List.mem_cons_of_mem _ (f4 x hx)),(if h0:p.2=0 then f6 h0 _ else f7 (by omega) _ (Jz v5 gh hφ)),f6,f7⟩
          have ak:p.2=0:=by
            have hkind:p.2≠1:=λh1=>by
              have:=hneed p.1 (hread v5 p (.inr h) h1);rw[Gv] at this;cases this
            have hk2:¬2<=p.2:=λh2=>by
              obtain⟨a1,b1,hab⟩:=List.append_of_mem h;have:=(qm ZI (a:=a1) (b:=b1++(i0,k0)::s) (i:=p.1) h2 (by rw[hu.split,hab];simp)).1 (i0,k0) (by simp);have:=hneed p.1 this;rw[Gv] at this;cases this
            omega
          exact⟨o1,d1,q1,dn,f1,f2,e4 _ (List.mem_cons_of_mem _ f3),λx hx=>e4 x (List.mem_cons_of_mem _ (f4 x hx)),f6 ak _,λ_=>f6 ak,f7⟩
        · rcases List.mem_cons.1 h with h|h
          · subst h
            have:i0<listed.size:=by rw[inv.size];omega
            simp[this] at Ck
          · exact e7 p h
      · intro t x hx
        rw[gQ (Ra t x hx)];exact x.mono hSS hag (h3 t x hx)
      · intro j dj qj zz Jy
        by_cases hij:j=i0
        · subst hij
          have XE:(done'.map (·.1)).Nodup:=by
            rw[e5];have h7:=Ah;rw[hu.split,e1] at h7;simp only[List.map_append,List.map_cons,hu.idx] at h7 ⊢;refine(List.Perm.nodup_iff ?_).1 (List.nodup_append.1 (by simpa using h7:((pre.map (·.1)++j::B.map (·.1))++r'.map (·.1)).Nodup)).1
            have q1:(pre.map (·.1)++j::B.map (·.1)).Perm (B.map (·.1)++(j::pre.map (·.1))):=by
              refine List.perm_append_comm.trans ?_;simp only[List.cons_append];exact(List.perm_middle.symm)
            exact q1.trans ((List.reverse_perm _).symm.append ((List.reverse_perm _).symm.cons j))
          obtain⟨rfl,rfl⟩:=tY XE zz (e4 _ (List.mem_cons_self ..));rcases hdd with o4|⟨o4,_⟩
          · have u6:=Cj o (List.mem_of_getElem? zy) dj o4
            rw[o4];have:dj<a.tmps.size:=by rw[hu.sz];exact u6
            simpa[Act.put,this] using WD _ _ _ hq o4
          · exact ZK o4 _ _ _
        · rw [getD_set_ne false (λe=>hij e.symm)] at Jy
          rcases e6 _ zz with h|⟨_,p,hp,hpe⟩
          · rcases List.mem_cons.1 h with h|h
            · cases h;exact absurd rfl hij
            · rw[gQ (hslot j dj qj h hij)]
              exact qj.mono hSS hag (h4 j dj qj h Jy)
          · simp only at hpe
            have:=hu.un p (List.mem_cons_of_mem _ (by rw[e1];simp[hp]));rw[hpe,Jy] at this;cases this
theorem eO.fin{ops:Array Oper}{tl:List Oper}{env:Env}(h:cv P ops Q c tl hs (gP done++env)):eO P l n e0 (λdone hs=>cv P ops Q c tl hs (gP done++env)) FR [] done hs:=h
theorem aU.Eh{id:Nat}{env:Env}(plan:List (Nat×Nat))(m g:Nat)(hm:P.follows .mixedOrders=true)(hB:nM l.toArray plan m g c.n=true)
    (h:eO P l c.n (strip (dstsOf (l.take m)) env) (λdone hs=>cv P l.toArray Q c (l.drop m) hs (gP done++env)) FR plan [] hs):aU P Q c (.region id l.toArray true) hs env:=by
  intro a w hst;refine wpIn_region_any hm ?_;obtain⟨h1,h2,S,F,h3,h4,h5⟩:=hst
  have hsum:m+g=l.toArray.size:=by
    simp only[nM,Gu,Bool.and_eq_true] at hB;simpa using hB.1.1.1.1.1.1.1.1.1.1
  have g0:=gq.drew w S;obtain⟨B,r',done',e1,e2,e3,e4,e5,e6,e7,e8⟩:=eO.expand plan [] h;have key:=GB (FR:=FR) (P:=P) (Q:=Q) (l:=l) (c:=c) (env:=env) hB (λ_ _ h=>h) m (Array.replicate l.toArray.size false) a {w with drawn:=w.drawn+1} B r' done' hs ?_ ?_ ?_
  · rw[hsum] at key;exact key
  · unfold count
    rw[List.filter_eq_self.2 (λi hi=>by rw[getD_replicate_false];rfl)];simp
  · exact⟨by simp,λj oj _ hl=>(by rw[getD_replicate_false] at hl;cases hl),λt _ ht=>getD_in (by simpa using ht) (getD_replicate_false _ _)⟩
  · exact⟨h1,h2,e1,e3,e2,λp _=>getD_replicate_false _ _,by simpa using e5,λx hx=>(e6 x hx).elim (λh=>by cases h) (λh=>let ⟨o,f1,f2⟩:=h.1;⟨o,f1, .inl f2⟩),λp hp _=>e7 p hp,S,F,h3.grow g0,g0.zZ h3.bZ h3.cK h4,λt q hl=>g0.vp h3.bZ (h5 t q (me hl).1),λj d q _ hl=>by rw[getD_replicate_false] at hl;cases hl⟩
end
end Go.Hl
end
