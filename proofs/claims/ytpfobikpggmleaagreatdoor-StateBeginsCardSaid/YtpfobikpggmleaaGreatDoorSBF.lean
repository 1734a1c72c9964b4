/-
  What the statement's proof leans on, several texts in one (packed by a program).
-/
import Derived.Test.YtpfobikpggmleaaGreatDoorSBE
import Derived.Lib.Bytealg
set_option linter.all false
set_option maxRecDepth 1000000
set_option maxHeartbeats 4000000
section
namespace Go.Hl
open Go.RowKit
section
variable {P:Program} {hs:List HP} {env:Env} {q:VP} {dst:Option Tmp} {ty T T' E:TypeId} {pos:String} {after:Array Edge} {gd:Option (Nat×Bool)} {x y z:Operand} {k k':IntKind} {l:List UInt8}
theorem tD(l:List UInt8)(i j:Nat)(hij:i≤j)(hj:j≤l.length):(ByteArray.mk l.toArray).extract i j=⟨((l.take j).drop i).toArray⟩:=by
 apply ByteArray.ext;rw[ByteArray.data_extract];apply Array.toList_inj.1;simp[List.take_drop,show i+(j-i)=j by omega]
theorem zd(l:List UInt8):(ByteArray.mk l.toArray).size=l.length:=by show l.toArray.size=_;simp
theorem tU{i:Int}{h:Nat}(hT:P.underlying T=some .string)(hx:bx env x (cZ l))(hy:bx env y (ag k i))(hi:i=(h:Int))(hh:h≤l.length):
    bp P hs env ⟨dst, .slice T x none (some y) none,ty,pos,after,gd⟩ (cZ (l.take h)):=
  bp.aL fun ρ w S F _ he=>by
    obtain⟨hv,hm⟩:=he.o _ _ hx;have h2:=he.o _ _ hy;simp only[aa] at h2
    subst hi;have hs:=zd l;have he:=tD l 0 h (by omega) hh;simp only[List.drop_zero] at he;refine⟨.string ⟨(l.take h).toArray⟩,?_,rfl,by simp;omega⟩;simp[execOp,hv,h2,Instr.sliceAt,Instr.slice,Instr.sliceBounds,Instr.sliceBound,asIntOf,run_underlying hT,hs,hh,he,-ByteArray.size_data,-List.extract_toArray]
theorem ze{i:Int}{h:Nat}(hT:P.underlying T=some .string)(hx:bx env x (cZ l))(hy:bx env y (ag k i))(hi:i=(h:Int))(hh:h≤l.length):
    bp P hs env ⟨dst, .slice T x (some y) none none,ty,pos,after,gd⟩ (cZ (l.drop h)):=
  bp.aL fun ρ w S F _ he=>by
    obtain⟨hv,hm⟩:=he.o _ _ hx;have h2:=he.o _ _ hy;simp only[aa] at h2
    subst hi;have hs:=zd l;have he:=tD l h l.length (by omega) (by omega);rw[List.take_length] at he;refine⟨.string ⟨(l.drop h).toArray⟩,?_,rfl,by simp;omega⟩;simp[execOp,hv,h2,Instr.sliceAt,Instr.slice,Instr.sliceBounds,Instr.sliceBound,asIntOf,run_underlying hT,hs,hh,he,-ByteArray.size_data,-List.extract_toArray]
theorem Rf{f:FuncId}{xs:List Operand}{ats:Array TypeId}{ps:List VP}(hx:mc env xs ps)(hr:∀S w vs,gW ps S w vs→∃v,(callFunc f vs.toArray).run P w= .ok (.value v) w∧q.p S w v):
    bp P hs env ⟨dst, .call ⟨.value (.func f),xs.toArray,ats⟩,ty,pos,after,gd⟩ q:=by
  intro a w S F h1 h2 h3 h4 h5 K Q hk;obtain⟨v,hv,hq⟩:=hr S w _ (hx S w a h5);unfold Oper.wp
  have:(execOp a.eval ⟨dst, .call ⟨.value (.func f),xs.toArray,ats⟩,ty,pos,after,gd⟩).run P w= .ok (.value v) w:=by
    have h:=hv;simp[execOp,resolve,Act.eval,Deferred.ofValue,invoke] at h ⊢;exact h
  rw[this];exact hk v w S (Grow.refl _ _) hq
def WO(P:Program)(f:FuncId)(e:Array Value→Sem Value):Prop:=∀args w,(callFunc f args).run P w=((e args).run P w).andThen fun v w'=> .ok (.value v) w'
theorem HK{f:FuncId}{xs:List Operand}{ats:Array TypeId}{b:UInt8}(hf:WO P f Extern.BytealgIndexByte.indexByte)(hx:mc env xs [cZ l,ag .u8 (b.toNat:Int)]):
    bp P hs env ⟨dst, .call ⟨.value (.func f),xs.toArray,ats⟩,ty,pos,after,gd⟩ (ag .i64 (Lib.indexByte l b)):=
  Rf hx fun S w vs h=>by
    obtain⟨h1,h2⟩:=h
    match vs,h1,h2 with
    | [u,v],_,h2=>
      have hu:=(h2 0 _ u rfl rfl).1;have hv:=h2 1 _ v rfl rfl;simp only[aa] at hv
      subst hu;subst hv
      refine⟨_,?_,rfl⟩;rw[hf,Lib.run_indexByteString];simp[Result.andThen]
end
def mN(l s:List UInt8):Prop:=s.length≤l.length∧l.drop (l.length-s.length)=s
def wB(l s:List UInt8):Prop:=s.length≤l.length∧l.take s.length=s
instance (l s:List UInt8):Decidable (mN l s):=inferInstanceAs (Decidable (_∧_))
instance (l s:List UInt8):Decidable (wB l s):=inferInstanceAs (Decidable (_∧_))
def sU(l s:List UInt8):List UInt8:=if mN l s then l.take (l.length-s.length) else l
def wC(l:List UInt8)(b:UInt8):List UInt8×List UInt8×Bool:=if 0≤Lib.indexByte l b then(l.take (Lib.indexByte l b).toNat,l.drop ((Lib.indexByte l b).toNat+1),true) else(l,[],false)
theorem CH(l:List UInt8)(b:UInt8):Lib.indexByte l b<l.length:=by
 induction l with
 |nil=>simp[Lib.indexByte]
 |cons x l ih=>
  unfold Lib.indexByte
  split
  · simp only[List.length_cons];omega
  · split
    · simp only[List.length_cons];omega
    · simp only[List.length_cons];omega
section
variable {P:Program} {hs:List HP} {env:Env} {q:VP} {dst:Option Tmp} {ty T T' E:TypeId} {pos:String} {after:Array Edge} {gd:Option (Nat×Bool)} {x y z:Operand}
theorem cG{f:FuncId}{xs:List Operand}{ats:Array TypeId}{ps:List VP}{hs0 rest:List HP}{γ:Type}{φ:γ→Prop}{hs':γ→List HP}{q:γ→VP}(hf:cv P f ps hs0 φ hs' q)(hb:mU P f=true)(hx:mc env xs ps)(hp:hs.Perm (hs0++rest)):
    fZ P hs env ⟨dst, .call ⟨.value (.func f),xs.toArray,ats⟩,ty,pos,after,gd⟩ φ (fun g=>hs' g++rest) q:=by
  intro c a w S F aH hown he K Q hk;obtain⟨F1,F2,qn,xE,Ut,Tt⟩:=de.append.1 (hown.perm hp);have Tu:∀k,F1 k→k<w.heap.size:=fun k hk=>aH.cq k (qn k hk).1;have hSF:∀k,S k→¬F1 k:=fun k hk hf=>aH.dJ k hk (qn k hf).1;unfold Oper.wp;rw[uR hb];refine(hf w S F1 _ aH.bR Tu hSF Ut (by simpa using hx S w a he)).mono ?_;rintro e w' ⟨v,S',F1',g,rfl,h2,hφ,uX,hq⟩;have hoS:∀k,S k→w'.heap[k]?=w.heap[k]?:=fun k hk=>h2.kept k (aH.bR k hk) (hSF k hk);have ho2F:∀k,F2 k→¬F1 k:=fun k hk hf=>(qn k hf).2 hk;refine hk g v w' S' (fun k=>F1' k∨F2 k) hφ ⟨h2.os.trans aH.os,h2.tape.trans aH.tape,h2.output.trans aH.output,Nat.le_trans aH.size h2.size,fun k hk hm=>?_,fun k hk hf=>?_,h2.bR,fun k hk=>?_,fun k hk=>?_,fun k hk=>?_,fun k hk=>h2.base k (aH.base k hk)⟩ h2.base hoS ?_ hq
  · have hnF:¬F1 k:=fun hf=>(aH.own k (qn k hf).1).elim hm (fun h=>by omega)
    exact(h2.kept k (Nat.lt_of_lt_of_le hk aH.size) hnF).trans (aH.kept k hk hm)
  · rcases hf with hf|hf
    · exact h2.dJ k hk hf
    · rcases h2.shr k hk with h|h|h
      · exact aH.dJ k h (xE k hf)
      · exact(qn k h).2 hf
      · exact Nat.lt_irrefl _ (Nat.lt_of_lt_of_le (aH.cq k (xE k hf)) h)
  · rcases hk with hk|hk
    · exact h2.cq k hk
    · exact Nat.lt_of_lt_of_le (aH.cq k (xE k hk)) h2.size
  · rcases hk with hk|hk
    · rcases h2.own k hk with h|h
      · exact aH.own k (qn k h).1
      · exact .inr (Nat.le_trans aH.size h)
    · exact aH.own k (xE k hk)
  · rcases h2.shr k hk with h|h|h
    · exact aH.shr k h
    · exact .inr (aH.own k (qn k h).1)
    · exact .inr (.inr (Nat.le_trans aH.size h))
  · refine de.append.2 ⟨F1',F2,fun k hk=>⟨.inl hk,fun hf=>?_⟩,fun k hk=> .inr hk,uX,Tt.mono (fun _ h=>h) h2.base (fun k hk=>h2.kept k (aH.cq k (xE k hk)) (ho2F k hk)) hoS⟩
    rcases h2.own k hk with h|h
    · exact(qn k h).2 hf
    · exact Nat.lt_irrefl _ (Nat.lt_of_lt_of_le (aH.cq k (xE k hf)) h)
theorem aM.gL{Q:Exit→Act→World→Prop}{c:Ctx}{s:Code}{α:Type}{g:SB}{n:Nat}{enc:α→List VP}{xs:List α}(i:Nat)(hi:hs[i]?=some (av g n enc xs))(hne:xs≠[])
    (h:∀b cap,g=some (b,cap)→aM P Q c s hs env):aM P Q c s hs env:=by
  intro a w hst;obtain⟨h1,h2,S,F,h3,h4,h5⟩:=hst;obtain⟨F1,_,hp⟩:=h4.get hi;cases g with
  |none=>exact absurd hp hne
  |some p=>exact h p.1 p.2 rfl a w ⟨h1,h2,S,F,h3,h4,h5⟩
end
section
variable {P:Program} {hs:List HP} {env:Env} {q:VP} {dst:Option Tmp} {ty T T' K V:TypeId} {pos:String} {after:Array Edge} {gd:Option (Nat×Bool)} {x y z:Operand}
def qZ(es:List MapEntry)(i:Option Nat):Option (Nat×Value):=i.bind fun i=>(es[i]?).map fun e=>(i,e.val)
structure rO(P:Program)(K:TypeId){κ:Type}[DecidableEq κ](kenc:κ→Value):Prop where
 check:∀(a:κ) (e:Bool) (w:World),(Instr.checkKey e 10000 K (kenc a)).run P w= .ok () w
 find:∀(a:κ) (es:List MapEntry) (ks:List κ) (w:World),es.map (·.key)=ks.map kenc→(Instr.findKey K (kenc a) es).run P w= .ok (qZ es (ks.findIdx? fun k=>decide (k=a))) w
 same:∀a:κ,Instr.sameBits 10000 (kenc a) (kenc a)=true
theorem rO.int{k:IntKind}(h:P.underlying K=some (.int k)):rO P K (Value.int k) where
 check a e w:=by unfold Instr.checkKey;rw[bu (run_underlying h w)];rfl
 same a:=by unfold Instr.sameBits;simp
 find a es ks w hk:=by
  have key:∀(es:List MapEntry) (ks:List Int) (i:Nat),es.map (·.key)=ks.map (Value.int k)→Instr.findNow (.int k) (.int k a) es i=some ((ks.findIdx? fun b=>decide (b=a)).bind fun j=>(es[j]?).map fun e=>(i+j,e.val)):=by
   intro es
   induction es with
   |nil=>intro ks i hk;cases ks with
    |nil=>rfl
    |cons b ks=>simp at hk
   | cons e es ih=>
    intro ks i hk;cases ks with
    |nil=>simp at hk
    |cons b ks=>
     simp only[List.map_cons,List.cons.injEq] at hk;simp only[Instr.findNow,hk.1,Instr.sameNow,if_true];by_cases hab:a=b
     · subst hab;simp[List.findIdx?_cons]
     · have h1:(a==b)=false:=by simpa using hab
       have h2:¬b=a:=fun e=>hab e.symm;rw[h1];simp only[ih ks (i+1) hk.2,List.findIdx?_cons,h2,decide_false,if_neg (Bool.false_ne_true)];cases ks.findIdx? (fun b=>decide (b=a)) with
       |none=>rfl
       |some j=>simp[Nat.add_assoc,Nat.add_comm 1 j]
  have h0:=key es ks 0 hk;simp only[Instr.findKey,bu (run_underlying h w),h0];simp[qZ]
def nB(es:Array MapEntry)(clock:Nat):Prop:=(es.toList.map (·.born)).Nodup∧∀e∈es.toList,e.born<clock
theorem nB.push{es:Array MapEntry}{clock:Nat}(h:nB es clock)(e:MapEntry)(he:e.born=clock):nB (es.push e) (clock+1):=by
 obtain⟨h1,h2⟩:=h;refine⟨?_,fun x hx=>?_⟩
 · rw[Array.toList_push,List.map_append,List.nodup_append]
   refine⟨h1,by simp,fun a ha b hb e1=>?_⟩;obtain⟨x,hx,rfl⟩:=List.mem_map.1 ha;have:=h2 x hx;simp at hb;omega
 · rw[Array.toList_push,List.mem_append] at hx
   rcases hx with hx|hx
   · have:=h2 x hx;omega
   · simp at hx;subst hx;omega
theorem nB.same{es es':Array MapEntry}{clock:Nat}(h:nB es clock)(he:es'.toList.map (·.born)=es.toList.map (·.born)):nB es' clock:=
 ⟨he▸h.1,fun x hx=>by
  have h3:x.born∈es.toList.map (·.born):=he▸List.mem_map.2 ⟨x,hx,rfl⟩;obtain⟨y,hy,e⟩:=List.mem_map.1 h3;rw[←e];exact h.2 y hy⟩
theorem nB.sub{es es':Array MapEntry}{clock:Nat}(h:nB es clock)(he:List.Sublist es'.toList es.toList):nB es' clock:=
 ⟨h.1.sublist (he.map _),fun x hx=>h.2 x (he.subset hx)⟩
def jL{κ ν:Type}[DecidableEq κ](m:Nat)(kenc:κ→Value)(vq:ν→VP)(D:List (κ×ν)):HP:=
 ⟨fun F S w=>F m∧∃(es:Array MapEntry) (clock:Nat),w.heap[m]?=some (.map es clock)∧es.toList.map (·.key)=D.map (fun p=>kenc p.1)∧(∀(i:Nat) (p:κ×ν),D[i]?=some p→(∃e,es[i]?=some e∧(vq p.2).p S w e.val))∧nB es clock,
  fun h1 h2 h3 h4 ⟨hF,es,cl,hh,hk,hv,hb⟩=>⟨h1 m hF,es,cl,(h3 m hF).trans hh,hk,fun i p hp=>let ⟨e,he,hq⟩:=hv i p hp;⟨e,he,(vq p.2).mono h2 h4 hq⟩,hb⟩⟩
theorem uY{κ ν:Type}[DecidableEq κ](kenc:κ→Value)(vq:ν→VP):fZ P hs env ⟨dst, .makeMap T none,ty,pos,after,gd⟩ (γ:=Nat) (fun _=>True) (fun m=>jL m kenc vq []::hs) (fun m=>aa (.map (some m))):=by
 intro c a w S F aH hown he K Q hk
 have hr:(execOp a.eval ⟨dst, .makeMap T none,ty,pos,after,gd⟩).run P w= .ok (.value (.map (some w.heap.size))) {w with heap:=w.heap.push (.map #[] 0)}:=by
  simp[execOp,Instr.makeMap,newObj,Sem.run]
 unfold Oper.wp;rw[hr];exact hk w.heap.size _ _ S _ trivial (aH.eV _) (fun _ h=>h) (fun k hk=>bF w _ k (aH.bR k hk)) (hown.eV aH.bR aH.cq _ ⟨rfl, #[],0,by simp,rfl,fun i p h=>(by simp at h),⟨by simp,fun e he=>(by simp at he)⟩⟩) rfl
def aq{κ ν:Type}[DecidableEq κ](D:List (κ×ν))(a:κ):Option ν:=(D.find? fun p=>decide (p.1=a)).map (·.2)
def tV{ν:Type}(vq:ν→VP)(z:VP):Option ν→VP
 |some v=>vq v
 |none=>z
theorem pG{κ ν:Type}[DecidableEq κ](a:κ):∀D:List (κ×ν),match (D.map (·.1)).findIdx? (fun k=>decide (k=a)) with
    |none=>aq D a=none
    |some i=>∃v,D[i]?=some (a,v)∧aq D a=some v
  |[]=>rfl
  | p ::D=>by
    have ih:=pG a D
    have hl:aq (p::D) a=if p.1=a then some p.2 else aq D a:=by
      unfold aq;by_cases h:p.1=a
      · rw[List.find?_cons_of_pos (by simpa using h),if_pos h];rfl
      · rw[List.find?_cons_of_neg (by simpa using h),if_neg h]
    rw[hl,List.map_cons,List.findIdx?_cons];by_cases h:p.1=a
    · rw[if_pos (by simpa using h),if_pos h]
      exact⟨p.2,by rw[←h];rfl,rfl⟩
    · rw[if_neg (by simpa using h),if_neg h]
      cases hf:(D.map (·.1)).findIdx? (fun k=>decide (k=a)) with
      |none=>rw[hf] at ih;exact ih
      |some i=>rw[hf] at ih;simpa using ih
theorem keys_map{κ ν:Type}(kenc:κ→Value)(D:List (κ×ν)):D.map (fun p=>kenc p.1)=(D.map (·.1)).map kenc:=by simp
theorem wD{κ ν:Type}[DecidableEq κ]{kenc:κ→Value}{vq:ν→VP}{D:List (κ×ν)}{m i:Nat}{a:κ}{zs:Value}(hK:rO P K kenc)(hT:P.underlying T=some (.map K V))(hz:∀w,(zeroValue V).run P w= .ok zs w)
    (hx:bx env x (aa (.map (some m)))) (hy:bx env y (aa (kenc a))) (hi:hs[i]?=some (jL m kenc vq D)):bp P hs env ⟨dst, .lookup T x y false,ty,pos,after,gd⟩ (tV vq (aa zs) (aq D a)):=
  bp.aL fun ρ w S F ho he=>by
    have h1:=he.o _ _ hx;have h2:=he.o _ _ hy;simp only[aa] at h1 h2
    obtain⟨F1,_,_,es,cl,hh,hk,hv,_⟩:=ho.get hi;have Lx:=hK.check a es.isEmpty w;have hf:=hK.find a es.toList (D.map (·.1)) w (hk.trans (keys_map kenc D));have rP:=pG a D;cases CI:(D.map (·.1)).findIdx? (fun k=>decide (k=a)) with
    | none=>
      rw[CI] at hf rP;refine⟨zs,?_,by rw[rP];rfl⟩;simp only[qZ,Option.bind_none] at hf;simp[execOp,h1,h2,Instr.lookup,run_underlying hT,getObj,Sem.run,hh,Lx,hf,hz w]
    | some j=>
      rw[CI] at hf rP;obtain⟨v,hj,hl⟩:=rP;obtain⟨e,he,hq⟩:=hv j _ hj;refine⟨e.val,?_,by rw[hl];exact hq⟩;have he':es.toList[j]?=some e:=by simpa using he
      simp only[qZ,Option.bind_some,he',Option.map_some] at hf;simp[execOp,h1,h2,Instr.lookup,run_underlying hT,getObj,Sem.run,hh,Lx,hf]
theorem nC{κ ν:Type}[DecidableEq κ]{kenc:κ→Value}{vq:ν→VP}{D:List (κ×ν)}{m i:Nat}{a:κ}{zs:Value}(hK:rO P K kenc)(hT:P.underlying T=some (.map K V))(hz:∀w,(zeroValue V).run P w= .ok zs w)
    (hx:bx env x (aa (.map (some m)))) (hy:bx env y (aa (kenc a))) (hi:hs[i]?=some (jL m kenc vq D)):bp P hs env ⟨dst, .lookup T x y true,ty,pos,after,gd⟩ (bE [tV vq (aa zs) (aq D a),ak ((aq D a).isSome=true)]):=
  bp.aL fun ρ w S F ho he=>by
    have h1:=he.o _ _ hx;have h2:=he.o _ _ hy;simp only[aa] at h1 h2
    obtain⟨F1,_,_,es,cl,hh,hk,hv,_⟩:=ho.get hi;have Lx:=hK.check a es.isEmpty w;have hf:=hK.find a es.toList (D.map (·.1)) w (hk.trans (keys_map kenc D));have rP:=pG a D
    have tup:∀(u:Value) (b:Bool),(tV vq (aa zs) (aq D a)).p S w u→(b=true↔(aq D a).isSome=true)→(bE [tV vq (aa zs) (aq D a),ak ((aq D a).isSome=true)]).p S w (.tuple #[u, .bool b]):=fun u b hu hb=>
      ⟨_,rfl,rfl,fun j p v hj hv=>by
        match j,hj,hv with
        |0,hj,hv=>simp at hj hv;subst hj;subst hv;exact hu
        |1,hj,hv=>simp at hj hv;subst hj;subst hv;exact⟨b,rfl,hb⟩⟩
    cases CI:(D.map (·.1)).findIdx? (fun k=>decide (k=a)) with
    | none=>
      rw[CI] at hf rP;refine⟨.tuple #[zs, .bool false],?_,tup _ _ (by rw[rP];rfl) (by simp[rP])⟩;simp only[qZ,Option.bind_none] at hf;simp[execOp,h1,h2,Instr.lookup,run_underlying hT,getObj,Sem.run,hh,Lx,hf,hz w]
    | some j=>
      rw[CI] at hf rP;obtain⟨v,hj,hl⟩:=rP;obtain⟨e,he,hq⟩:=hv j _ hj;refine⟨.tuple #[e.val, .bool true],?_,tup _ _ (by rw[hl];exact hq) (by simp[hl])⟩;have he':es.toList[j]?=some e:=by simpa using he
      simp only[qZ,Option.bind_some,he',Option.map_some] at hf;simp[execOp,h1,h2,Instr.lookup,run_underlying hT,getObj,Sem.run,hh,Lx,hf]
theorem fZ.HL{o:Oper}{c:Ctx}{a:Act}{w:World}{S F:BS}(aH:kH c w S F)(hown:de hs F S w){m i:Nat}{h0 h1:HP}(hi:hs[i]?=some h0)(hF:∀F1 S w,h0.p F1 S w→F1 m){ob:Obj}{v:Value}{Kp:Act→World→Prop}{Q:Exit→Act→World→Prop}
    (hr:(execOp a.eval o).run P w= .ok (.value v) (ia w m ob)∨(execOp a.eval o).run P w= .ok .skip (ia w m ob)∧o.dst=none) (hp:∀F1,h0.p F1 S w→h1.p F1 S (ia w m ob))
    (hk:∀w',kH c w' S F→(∀k,S k→w'.heap[k]?=w.heap[k]?)→de (hs.set i h1) F S w'→Kp (a.put o.dst v) w'):o.wp P a w Kp Q:=by
  obtain⟨F1,F2,f1,f2,f3,_,f4⟩:=hown.xA hi;have hFm:=hF F1 S w f3;have hne:∀k',k'≠m→(ia w m ob).heap[k']?=w.heap[k']?:=fun k' hk'=>by simp[ia,Array.getElem?_setIfInBounds_ne (fun e=>hk' e.symm)]
  have hag:∀k',S k'→(ia w m ob).heap[k']?=w.heap[k']?:=fun k' hk'=>hne k' (fun e=>aH.dJ k' hk' (e▸(f1 m hFm).1))
  have hO:de (hs.set i h1) F S (ia w m ob):=by
    have:=f4 S F1 (ia w m ob) h1 (fun k hk=>(f1 k hk).2) (fun _ h=>h) (fun k hk=>hne k (fun e=>(f1 m hFm).2 (e▸hk))) hag (hp F1 f3);exact this.mono (fun k hk=>hk.elim (fun h=>(f1 k h).1) (f2 k)) (fun _ h=>h) (fun _ _=>rfl) (fun _ _=>rfl)
  have hS:kH c (ia w m ob) S F:=aH.write (f1 m hFm).1 rfl rfl rfl (by simp[ia]) hne;unfold Oper.wp;rcases hr with hr|⟨hr,hd⟩
  · rw[hr];exact hk _ hS hag hO
  · rw[hr]
    have h9:=hk _ hS hag hO
    show Kp (a.put o.dst undef) _
    rw[hd] at h9 ⊢;exact h9
def eY{κ ν:Type}[DecidableEq κ](D:List (κ×ν))(a:κ)(v:ν):List (κ×ν):=match (D.map (·.1)).findIdx? (fun k=>decide (k=a)) with
 |some i=>D.set i (a,v)
 |none=>D++[(a,v)]
def gf{κ ν:Type}[DecidableEq κ](D:List (κ×ν))(a:κ):List (κ×ν):=match (D.map (·.1)).findIdx? (fun k=>decide (k=a)) with
 |some i=>D.eraseIdx i
 |none=>D
theorem EI{κ ν:Type}[DecidableEq κ]{kenc:κ→Value}{D:List (κ×ν)}{a:κ}(hK:rO P K kenc){es:Array MapEntry}(hk:es.toList.map (·.key)=D.map (fun p=>kenc p.1))(w':World):
    (Instr.findKey K (kenc a) es.toList).run P w'= .ok (qZ es.toList ((D.map (·.1)).findIdx? fun k=>decide (k=a))) w':=hK.find a es.toList (D.map (·.1)) w' (hk.trans (keys_map kenc D))
theorem EJ{κ ν:Type}[DecidableEq κ]{kenc:κ→Value}{vq:ν→VP}{D:List (κ×ν)}{m i:Nat}{a:κ}(v:ν)(hK:rO P K kenc)(hT:P.underlying T=some (.map K V))
    (hx:bx env x (aa (.map (some m)))) (hy:bx env y (aa (kenc a))) (hz:bx env z (vq v)) (hi:hs[i]?=some (jL m kenc vq D)):
    fZ P hs env ⟨none, .mapUpdate T x y z,ty,pos,after,gd⟩ (γ:=Unit) (fun _=>True) (fun _=>hs.set i (jL m kenc vq (eY D a v))) (fun _=>aa undef):=by
  intro c ac w S F aH hown he Kp Q hk;have h1:=hx S w ac he;have h2:=hy S w ac he;simp only[aa] at h1 h2
  have h3:=hz S w ac he;obtain⟨F0,_,az⟩:=hown.get hi;obtain⟨_,es,cl,hh,hke,hv,HM⟩:=az;have Lx:=hK.check a false w;have hf:=EI (a:=a) hK hke w;have yz:=hK.same a;have hlen:es.size=D.length:=by have:=congrArg List.length hke;simpa using this
  have rP:=pG a D;cases CI:(D.map (·.1)).findIdx? (fun k=>decide (k=a)) with
  | none =>
    rw[CI] at hf rP;simp only[qZ,Option.bind_none] at hf;refine fZ.HL (v:=undef) (ob:= .map (es.push {key:=kenc a,val:=ac.eval z,born:=cl}) (cl+1)) (h1:=jL m kenc vq (eY D a v)) aH hown hi (fun F1 S w h=>h.1) (.inr ⟨?_,rfl⟩) (fun F1 hp=>?_) (fun w' hS hag hO=>hk () _ _ S F trivial hS (fun _ h=>h) hag hO rfl)
    · simp[execOp,h1,h2,Instr.mapUpdate,run_underlying hT,getObj,setObj,Sem.run,hh,Lx,hf,ia]
    · refine⟨hp.1,es.push {key:=kenc a,val:=ac.eval z,born:=cl},cl+1,by simp[ia,(Array.getElem?_eq_some_iff.1 hh).1],?_,fun j p hj=>?_,HM.push _ rfl⟩
      · unfold eY;rw[CI];simp[hke]
      · have Oz:eY D a v=D++[(a,v)]:=by unfold eY;rw[CI]
        have hag:∀k,S k→(ia w m (.map (es.push {key:=kenc a,val:=ac.eval z,born:=cl}) (cl+1))).heap[k]?=w.heap[k]?:=fun k hk=>by
          have hkm:k≠m:=fun e=>by
            obtain⟨F1',F2',f1,_,f3,_⟩:=hown.xA hi;exact aH.dJ k hk (e▸(f1 m f3.1).1)
          simp[ia,Array.getElem?_setIfInBounds_ne (fun e=>hkm e.symm)]
        rw[Oz] at hj;rcases Nat.lt_or_ge j D.length with h|h
        · rw[List.getElem?_append_left h] at hj
          obtain⟨e,Ej,hq⟩:=hv j p hj;exact⟨e,by rw[Array.getElem?_push_lt (by omega)];rw[←Ej];exact(Array.getElem?_eq_getElem (by omega)).symm,(vq p.2).mono (fun _ h=>h) hag hq⟩
        · rw[List.getElem?_append_right h] at hj
          have hj0:j=D.length:=by
            have:=(List.getElem?_eq_some_iff.1 hj).1;simp at this;omega
          subst hj0;simp at hj;subst hj
          exact⟨{key:=kenc a,val:=ac.eval z,born:=cl},by rw[←hlen];simp,(vq v).mono (fun _ h=>h) hag h3⟩
  | some j=>
    rw[CI] at hf rP;obtain⟨v0,hj,hl⟩:=rP;obtain⟨e,Ej,Ks⟩:=hv j _ hj;have he':es.toList[j]?=some e:=by simpa using Ej
    have QS:j<es.size:=(Array.getElem?_eq_some_iff.1 Ej).1
    have OA:e.key=kenc a:=by
      have:=congrArg (fun l=>l[j]?) hke;simp only[List.getElem?_map,he',hj,Option.map_some,Option.some.injEq] at this;exact this
    simp only[qZ,Option.bind_some,he',Option.map_some] at hf;have Oz:eY D a v=D.set j (a,v):=by unfold eY;rw[CI]
    refine fZ.HL (v:=undef) (ob:= .map (es.modify j fun e=>{e with key:=kenc a,val:=ac.eval z}) cl) (h1:=jL m kenc vq (eY D a v)) aH hown hi (fun F1 S w h=>h.1) (.inr ⟨?_,rfl⟩) (fun F1 hp=>?_) (fun w' hS hag hO=>hk () _ _ S F trivial hS (fun _ h=>h) hag hO rfl)
    · simp[execOp,h1,h2,Instr.mapUpdate,run_underlying hT,getObj,setObj,Sem.run,hh,Lx,hf,ia,Ej,OA,Instr.keyThatStays,yz]
    · have hag:∀k,S k→(ia w m (.map (es.modify j fun e=>{e with key:=kenc a,val:=ac.eval z}) cl)).heap[k]?=w.heap[k]?:=fun k hk=>by
        have hkm:k≠m:=fun e=>by
          obtain⟨F1',F2',f1,_,f3,_⟩:=hown.xA hi;exact aH.dJ k hk (e▸(f1 m f3.1).1)
        simp[ia,Array.getElem?_setIfInBounds_ne (fun e=>hkm e.symm)]
      refine⟨hp.1,es.modify j fun e=>{e with key:=kenc a,val:=ac.eval z},cl,by simp[ia,(Array.getElem?_eq_some_iff.1 hh).1],?_,fun t p ht=>?_,HM.same (List.ext_getElem? fun t=>?_)⟩
      · rw[Oz]
        apply List.ext_getElem?;intro t;have:=congrArg (fun l=>l[t]?) hke;simp only[List.getElem?_map] at this ⊢;simp only[Array.getElem?_toList,Array.getElem?_modify,List.getElem?_set] at this ⊢;by_cases wh:j=t
        · subst wh
          rw[if_pos rfl,if_pos rfl,Ej];have:j<D.length:=by omega
          simp[this]
        · rw[if_neg wh,if_neg wh];exact this
      · rw[Oz,List.getElem?_set] at ht
        by_cases wh:j=t
        · subst wh
          rw[if_pos rfl,if_pos (by omega)] at ht;cases ht;exact⟨_,by rw[Array.getElem?_modify,if_pos rfl,Ej];rfl,(vq v).mono (fun _ h=>h) hag h3⟩
        · rw[if_neg wh] at ht
          obtain⟨e2,HN,QO⟩:=hv t p ht;exact⟨e2,by rw[Array.getElem?_modify,if_neg wh];exact HN,(vq p.2).mono (fun _ h=>h) hag QO⟩
      · simp only[List.getElem?_map,Array.getElem?_toList,Array.getElem?_modify]
        by_cases wh:j=t
        · subst wh;rw[if_pos rfl,Ej];rfl
        · rw[if_neg wh]
theorem EK{κ ν:Type}[DecidableEq κ]{kenc:κ→Value}{vq:ν→VP}{D:List (κ×ν)}{m i:Nat}{a:κ}{ats:Array TypeId}(wj:ats[0]?=some T)(hK:rO P K kenc)(hT:P.underlying T=some (.map K V))
    (hx:bx env x (aa (.map (some m)))) (hy:bx env y (aa (kenc a))) (hi:hs[i]?=some (jL m kenc vq D)):
    fZ P hs env ⟨dst, .call ⟨.builtin .delete, #[x,y],ats⟩,ty,pos,after,gd⟩ (γ:=Unit) (fun _=>True) (fun _=>hs.set i (jL m kenc vq (gf D a))) (fun _=>bE []):=by
  intro c ac w S F aH hown he Kp Q hk;have h1:=hx S w ac he;have h2:=hy S w ac he;simp only[aa] at h1 h2
  obtain⟨F0,_,az⟩:=hown.get hi;obtain⟨_,es,cl,hh,hke,hv,HM⟩:=az;have Lx:=hK.check a es.isEmpty w;have hf:=EI (a:=a) hK hke w;have hlen:es.size=D.length:=by have:=congrArg List.length hke;simpa using this
  have rP:=pG a D;have bk0:(bE []).p S w (.tuple #[]):=⟨#[],rfl,rfl,fun j p v hj=>by simp at hj⟩;have Tv:∀w',(bE []).p S w' (.tuple #[]):=fun w'=>⟨#[],rfl,rfl,fun j p v hj=>by simp at hj⟩
  have WQ:∀(ob:Obj) k,S k→(ia w m ob).heap[k]?=w.heap[k]?:=fun ob k hk=>by
    have hkm:k≠m:=fun e=>by
      obtain⟨F1',F2',f1,_,f3,_⟩:=hown.xA hi;exact aH.dJ k hk (e▸(f1 m f3.1).1)
    simp[ia,Array.getElem?_setIfInBounds_ne (fun e=>hkm e.symm)]
  have YU:m<w.heap.size:=(Array.getElem?_eq_some_iff.1 hh).1;cases CI:(D.map (·.1)).findIdx? (fun k=>decide (k=a)) with
  | none=>
    rw[CI] at hf rP;simp only[qZ,Option.bind_none] at hf;have Oz:gf D a=D:=by unfold gf;rw[CI]
    refine fZ.HL (v:= .tuple #[]) (ob:= .map es cl) (h1:=jL m kenc vq (gf D a)) aH hown hi (fun F1 S w h=>h.1) (.inl ?_) (fun F1 hp=>?_) (fun w' hS hag hO=>hk () _ _ S F trivial hS (fun _ h=>h) hag hO (Tv _))
    · simp[execOp,resolve,invoke,builtin,Builtin.delete_,wj,h1,h2,run_underlying hT,getObj,setObj,Sem.run,hh,Lx,hf,ia]
    · rw[Oz]
      exact⟨hp.1,es,cl,by simp[ia,YU],hke,fun j p hj=>let ⟨e,Ej,hq⟩:=hv j p hj;⟨e,Ej,(vq p.2).mono (fun _ h=>h) (WQ _) hq⟩,HM⟩
  | some j=>
    rw[CI] at hf rP;obtain⟨v0,hj,hl⟩:=rP;obtain⟨e,Ej,Ks⟩:=hv j _ hj;have he':es.toList[j]?=some e:=by simpa using Ej
    have QS:j<es.size:=(Array.getElem?_eq_some_iff.1 Ej).1;simp only[qZ,Option.bind_some,he',Option.map_some] at hf;have Oz:gf D a=D.eraseIdx j:=by unfold gf;rw[CI]
    refine fZ.HL (v:= .tuple #[]) (ob:= .map (es.eraseIdxIfInBounds j) cl) (h1:=jL m kenc vq (gf D a)) aH hown hi (fun F1 S w h=>h.1) (.inl ?_) (fun F1 hp=>?_) (fun w' hS hag hO=>hk () _ _ S F trivial hS (fun _ h=>h) hag hO (Tv _))
    · simp[execOp,resolve,invoke,builtin,Builtin.delete_,wj,h1,h2,run_underlying hT,getObj,setObj,Sem.run,hh,Lx,hf,ia]
    · have hel:(es.eraseIdxIfInBounds j).toList=es.toList.eraseIdx j:=by
        unfold Array.eraseIdxIfInBounds;rw[dif_pos QS];simp
      refine⟨hp.1,es.eraseIdxIfInBounds j,cl,by simp[ia,YU],?_,fun t p ht=>?_,HM.sub (by rw[hel];exact List.eraseIdx_sublist _ _)⟩
      · rw[Oz,hel]
        have hme:∀{α β:Type} (g:α→β) (l:List α) (i:Nat),(l.eraseIdx i).map g=(l.map g).eraseIdx i:=fun g l i=>by
          apply List.ext_getElem?;intro t;simp only[List.getElem?_map,List.getElem?_eraseIdx]
          split<;>rfl
        rw[hme,hme,hke]
      · rw[Oz,List.getElem?_eraseIdx] at ht
        have key:∀t',D[t']?=some p→(es.eraseIdxIfInBounds j)[t]?=es[t']?→∃e,(es.eraseIdxIfInBounds j)[t]?=some e∧(vq p.2).p S (ia w m (.map (es.eraseIdxIfInBounds j) cl)) e.val:=fun t' hD HN=>by
          obtain⟨e2,he3,QO⟩:=hv t' p hD;exact⟨e2,HN.trans he3,(vq p.2).mono (fun _ h=>h) (WQ _) QO⟩
        have Ly:(es.eraseIdxIfInBounds j)[t]?=if t<j then es[t]? else es[t+1]?:=by
          rw[←Array.getElem?_toList,hel,List.getElem?_eraseIdx];simp
        by_cases wh:t<j
        · rw[if_pos wh] at ht Ly;exact key t ht Ly
        · rw[if_neg wh] at ht Ly;exact key (t+1) ht Ly
theorem OB{κ ν:Type}[DecidableEq κ]{kenc:κ→Value}{vq:ν→VP}{D:List (κ×ν)}{m i:Nat}{ats:Array TypeId}(wj:ats[0]?=some T)(hT:P.underlying T=some (.map K V))(hx:bx env x (aa (.map (some m))))(hi:hs[i]?=some (jL m kenc vq D)):
    bp P hs env ⟨dst, .call ⟨.builtin .len, #[x],ats⟩,ty,pos,after,gd⟩ (ag .i64 (D.length:Int)):=
  bp.aL fun ρ w S F ho he=>by
    have h1:=he.o _ _ hx;simp only[aa] at h1
    obtain⟨F1,_,_,es,cl,hh,hk,hv,_⟩:=ho.get hi;have hlen:es.size=D.length:=by have:=congrArg List.length hk;simpa using this
    exact⟨.int .i64 (D.length:Int),by simp[execOp,resolve,invoke,builtin,Builtin.len_,wj,h1,run_underlying hT,goInt,getObj,Sem.run,hh,hlen],rfl⟩
end
section
variable {P:Program} {hs:List HP} {env:Env} {q:VP} {dst:Option Tmp} {ty T T' T2 E:TypeId} {pos:String} {after:Array Edge} {gd:Option (Nat×Bool)} {x y z:Operand}
def mZ(l:List UInt8):List Value:=l.map fun b=> .int .u8 (b.toNat:Int)
def iM(b:Nat)(l:List UInt8):HP:=
 ⟨fun F S w=>F b∧∃T:TypeId,w.heap[b]?=some (.cells (mZ l).toArray T (0,0)),fun h1 h2 h3 h4 ⟨hF,T,hh⟩=>⟨h1 b hF,T,(h3 b hF).trans hh⟩⟩
def jM(b off len:Nat):VP:=⟨fun _ _ v=>∃o cap,v= .slice (some ⟨b,o,none⟩) len cap∧(len=0∨o=off)∧len≤cap∧cap≤281474976710656,fun _ _ h=>h⟩
instance (b off len:Nat):Flat (jM b off len):=⟨fun⟨_,_,h,_⟩=>by subst h;exact⟨rfl,rfl⟩⟩
def Src(P:Program)(hs:List HP)(env:Env)(y:Operand){α:Type}(n:Nat)(enc:α→List VP)(ys:List α):Prop:=
 ∀(S F:BS) (w:World) (a:Act),de hs F S w→cS env S w a.tmps→∃(ya:Option Addr) (ycap:Nat) (vy:List Value),a.eval y= .slice ya ys.length ycap∧ys.length≤281474976710656∧vy.length=ys.length*n∧
  (∀d:Nat,(Builtin.firstCells n ys.length (.slice ya ys.length ycap)).run P {w with drawn:=d}= .ok vy.toArray {w with drawn:=d})∧∀(j:Nat) (q:VP),(ys.flatMap enc)[j]?=some q→∃u,vy[j]?=some u∧q.p S w u
theorem qo{l:List UInt8}{j:Nat}:(mZ l)[j]?=(l[j]?).map fun b=> .int .u8 (b.toNat:Int):=by simp[mZ]
theorem CJ(l:List UInt8):(mZ l).length=l.length:=by simp[mZ]
theorem Rg{l:List UInt8}{S:BS}{w:World}{j:Nat}{q:VP}(h:(l.flatMap aj)[j]?=some q):∃u,(mZ l)[j]?=some u∧q.p S w u:=by
  have e:l.flatMap aj=l.map fun b=>ag .u8 (b.toNat:Int):=by
    induction l with
    |nil=>rfl
    |cons x l ih=>rw[List.flatMap_cons,List.map_cons];rw[show l.flatMap aj=l.map fun b=>ag .u8 (b.toNat:Int) from by
        clear ih h;induction l with
        |nil=>rfl
        |cons x l ih=>rw[List.flatMap_cons,List.map_cons,ih];rfl];rfl
  rw[e,List.getElem?_map] at h;cases hj:l[j]? with
  |none=>rw[hj] at h;cases h
  |some b=>rw[hj] at h;cases h;exact⟨_,by rw[qo,hj];rfl,rfl⟩
theorem Lz{b o len cap off:Nat}{l:List UInt8}{w:World}{T:TypeId}(hb:w.heap[b]?=some (.cells (mZ l).toArray T (0,0)))(ho:len=0∨o=off)(hl:off+len≤l.length)(d:Nat):
    (Builtin.firstCells 1 len (.slice (some ⟨b,o,none⟩) len cap)).run P {w with drawn:=d}= .ok (mZ ((l.drop off).take len)).toArray {w with drawn:=d}:=by
  have hlen:((l.drop off).take len).length=len:=by simp;omega
  rcases ho with h0|ho
  · subst h0
    simp[Builtin.firstCells,loadCells,loadCellsFrom,mZ]
  · subst ho
    have:=run_loadCellsFrom (P:=P) (b:=b) (off:=o) (len*1) 0 #[] {w with drawn:=d} (mZ ((l.drop o).take len)) (by rw[CJ,hlen];omega) (fun j v hj=>by
      rw[qo,List.getElem?_take] at hj
      split at hj
      · rw[List.getElem?_drop] at hj
        simp only[World.cell?,hb,Nat.zero_add];simpa[mZ] using hj
      · cases hj)
    simpa[Builtin.firstCells,loadCells] using this
theorem HO{α:Type}{n by_:Nat}{enc:α→List VP}{ys:List α}{zs:List Value}{E2:TypeId}[he:gZ n enc](hT:P.underlying T=some (.slice E))(Og:P.underlying T2=some (.slice E2))(hn:P.cellsOf E=n)(h0:Nat.blt 0 n=true)
    (hz:jI P E=some zs) (hzl:zs.length=n) (hb:P.bytesOf E=by_) (hx:bx env x qg) (hy:Src P hs env y n enc ys) (hroom:(2*ys.length+256)*by_≤281474976710656):
    bp P hs env ⟨dst, .call ⟨.builtin .append, #[x,y], #[T,T2]⟩,ty,pos,after,gd⟩ (ai n enc ys):=by
  intro a w S F h1 h2 h3 h4 qe K Q hk;have hn0:0<n:=by simpa using h0
  obtain⟨base,hv⟩:=hx S w a qe;obtain⟨ya,ycap,vy,Bt,Oh,y4,Cx,HB⟩:=hy S F w a h4 qe;have hsz:=run_sizeOf hn h0 w;by_cases hy0:ys=[]
  · subst hy0
    have hr:(execOp a.eval ⟨dst, .call ⟨.builtin .append, #[x,y], #[T,T2]⟩,ty,pos,after,gd⟩).run P w= .ok (.value (.slice base 0 0)) w:=by
      have h5:=Cx w.drawn;have:vy=[]:=List.length_eq_zero_iff.1 (by rw[y4];simp);subst this;simp at h5;cases base<;>simp[execOp,resolve,invoke,builtin,Builtin.append_,hv,Bt,run_underlying hT,run_underlying Og,hsz,Builtin.lenOf,h5,storeCells]
    unfold Oper.wp;rw[hr];exact hk _ w S (Grow.refl _ _) (uU n enc S w _ ⟨_,rfl⟩)
  · have hy1:0<ys.length:=List.length_pos_iff.2 hy0
    obtain⟨info,hi1,hi2⟩:=dw hn h0 w;obtain⟨zv',hz1',hz2'⟩:=gH hz w.drew;obtain⟨info',hi1',hi2'⟩:=dw hn h0 w.drew;have hbytes:info.bytes=by_:=hi2.trans hb;have Oi:=nextslicecap_le (need:=ys.length) (cap:=0) (by omega);have hcapB:Builtin.nextslicecap (ys.length) 0*by_≤281474976710656:=Nat.le_trans (Nat.mul_le_mul_right _ Oi) hroom;have hvy2':(Builtin.firstCells n ys.length (.slice ya ys.length ycap)).run P w.drew= .ok vy.toArray w.drew:=Cx (w.drawn+1);have hvx2':(Builtin.firstCells n 0 (.slice base 0 0)).run P w.drew= .ok #[] w.drew:=by cases base<;>simp[Builtin.firstCells,loadCells,loadCellsFrom]
    generalize y5:Question.cut (.appendCap (ys.length) 0 E) (w.tape w.drawn (.appendCap (ys.length) 0 E))=newCap;have hge:ys.length≤newCap:=by rw[←y5];simp only[Question.cut];omega
    let row:Array Value:=vy.toArray++Builtin.zeroCells zv'.cells (newCap-(ys.length))
    have hr:(execOp a.eval ⟨dst, .call ⟨.builtin .append, #[x,y], #[T,T2]⟩,ty,pos,after,gd⟩).run P w= .ok (.value (.slice (some ⟨w.heap.size,0,none⟩) ys.length newCap)) (w.drew.alloc (.cells row E)):=by
      have hnot:¬(ys.length≤0):=by omega
      have Ol:¬ys=[]:=hy0;have wu:¬((9223372036854775807:Int)<(ys.length:Int)):=by omega
      have y6:¬(281474976710656<Builtin.nextslicecap (ys.length) 0*info.bytes):=by rw[hbytes];omega
      simp[execOp,resolve,invoke,builtin,Builtin.append_,hv,Bt,run_underlying hT,run_underlying Og,hsz,Builtin.lenOf,Ol,wu,hi1,y6,Question.forced,y5,hi1',hvx2',hvy2',hz1',newRow,row]
    generalize hw':w.drew.alloc (.cells row E)=w' at hr;unfold Oper.wp;rw[hr];have hheap:w'.heap=w.heap.push (.cells row E):=by rw[←hw'];rfl
    have Ul:=Grow.new1 w S (.cells row E);have hg:Grow w w' S (fun k=>S k∨k=w.heap.size):=⟨by rw[←hw'];rfl,by rw[←hw'];rfl,by rw[←hw'];rfl,by rw[hheap];exact Ul.size,fun k hk=>by rw[hheap];exact bF w _ k hk,Ul.sub,fun k hk=>by rw[hheap];exact Ul.new k hk⟩;refine hk _ w' _ hg ⟨some ⟨w.heap.size,0,none⟩,newCap,rfl,hge,Oh,fun _=>⟨rfl, .inr rfl,fun i y0 hi j q hj=>?_⟩⟩
    have qf:ck (fun k=>S k∨k=w.heap.size) w' w.heap.size 0 (ys.flatMap enc):=fun j q hj=>by
      obtain⟨u,hu,hq⟩:=HB j q hj;have hjl:=(List.getElem?_eq_some_iff.1 hj).1;rw[fD he.len] at hjl;refine⟨u,?_,hg.vp h1 hq⟩
      have:row[j]?=some u:=by
        simp only[row];rw[Array.getElem?_append_left (by simp[y4];omega)];simpa using hu
      simp[World.cell?,hheap,this]
    exact jB he.len qf i y0 hi j q hj
theorem xF{n:Nat}{w:World}{ρ:Operand→Value}(hT:P.underlying T=some (.slice E))(hn:P.cellsOf E=1)(hb:P.bytesOf E=1)(hz:jI P E=some [.int .u8 0])(hv:ρ x= .int .i64 (n:Int))(hle:n≤281474976710656):
    (execOp ρ ⟨dst, .makeSlice T x x,ty,pos,after,gd⟩).run P w= .ok (.value (.slice (some ⟨w.heap.size,0,none⟩) n n)) {w with heap:=w.heap.push (.cells (mZ (List.replicate n 0)).toArray E)}:=by
  obtain⟨info,hi1,hi2⟩:=dw hn rfl w;obtain⟨zv,Ez,wq⟩:=gH hz w;have hs1:=run_sizeOf hn rfl w;have hw:IntKind.i64.wrap (n:Int)=(n:Int):=eM (cn (by omega) (by omega));have hbytes:info.bytes=1:=hi2.trans hb
  have hcells:(Array.range (n*1)).map (fun t=>zv.cells[t%zv.cells.size]!)=(mZ (List.replicate n 0)).toArray:=by
    rw[wq];apply Array.ext
    · simp[mZ]
    · intro j h1 h2
      simp[mZ,Nat.mod_one]
  have LA:¬((n:Int)<0):=by omega
  have wu:¬((281474976710656:Int)<(n:Int)):=by omega
  have hroom:∀m:Nat,(askRoom m).run P w= .ok () w:=fun m=>by unfold askRoom;split<;>simp[mark,Sem.run]
  by_cases h0:n=0
  · subst h0
    have hw0:IntKind.i64.wrap 0=0:=hw;have Kt:Array.map (fun _:Nat=>(default:Value)) (Array.range 0)=(mZ []).toArray:=by apply Array.ext<;>simp[mZ]
    simp[execOp,Instr.makeSlice,run_underlying hT,asInt,asIntOf,hv,hi1,hw0,hs1,newRow];exact congrArg (fun r=>w.alloc (.cells r E)) Kt
  · simp[execOp,Instr.makeSlice,run_underlying hT,asInt,asIntOf,hv,hi1,hbytes,hw,LA,wu,hroom,hs1,h0,Ez,newRow]
    rw[Nat.mul_one] at hcells;exact congrArg (fun r=>w.alloc (.cells r E)) hcells
theorem Bz{n:Nat}{i:Int}(hT:P.underlying T=some (.slice E))(hn:P.cellsOf E=1)(hb:P.bytesOf E=1)(hz:jI P E=some [.int .u8 0])(hx:bx env x (ag .i64 i))(hi:i=(n:Int))(hle:n≤281474976710656):
    fZ P hs env ⟨dst, .makeSlice T x x,ty,pos,after,gd⟩ (γ:=Nat) (fun _=>True) (fun b=>iM b (List.replicate n 0)::hs) (fun b=>jM b 0 n):=by
  intro c a w S F aH hown he K Q hk;have hv:=hx S w a he;simp only[aa] at hv
  subst hi;have hr:=xF (dst:=dst) (ty:=ty) (pos:=pos) (after:=after) (gd:=gd) (w:=w) hT hn hb hz hv hle;unfold Oper.wp;rw[hr];exact hk w.heap.size _ _ S _ trivial (aH.eV _) (fun _ h=>h) (fun k hk=>bF w _ k (aH.bR k hk)) (hown.eV aH.bR aH.cq _ ⟨rfl,E,by simp⟩) ⟨0,n,rfl, .inr rfl,Nat.le_refl _,hle⟩
theorem nD{b off len:Nat}{ats:Array TypeId}(wj:ats[0]?=some T)(hT:P.underlying T=some (.slice E))(hx:bx env x (jM b off len)):bp P hs env ⟨dst, .call ⟨.builtin .len, #[x],ats⟩,ty,pos,after,gd⟩ (ag .i64 (len:Int)):=
 bp.aL fun ρ w S F _ he=>by
  obtain⟨o,cap,hv,_⟩:=he.o _ _ hx;exact⟨.int .i64 (len:Int),by simp[execOp,resolve,invoke,builtin,Builtin.len_,wj,hv,run_underlying hT,goInt],rfl⟩
theorem tW{b off len:Nat}{k k':IntKind}{i i':Int}{l h:Nat}(hT:P.underlying T=some (.slice E))(hn:P.cellsOf E=1)(hx:bx env x (jM b off len))(hy:bx env y (ag k i))(hz:bx env z (ag k' i'))
    (hi:i=(l:Int)) (hi':i'=(h:Int)) (hlh:l≤h) (hh:h≤len):bp P hs env ⟨dst, .slice T x (some y) (some z) none,ty,pos,after,gd⟩ (jM b (off+l) (h-l)):=
  bp.aL fun ρ w S F _ he=>by
    obtain⟨o,cap,hv,h1,h2,h3⟩:=he.o _ _ hx;have h4:=he.o _ _ hy;simp only[aa] at h4
    have h5:=he.o _ _ hz;simp only[aa] at h5
    subst hi;subst hi'
    have hs:=run_sizeOf (T:=E) hn rfl w;have hle:h≤cap:=by omega
    have oS:Addr.add ⟨b,o,none⟩ l=⟨b,o+l,none⟩:=by
      unfold Addr.add
      split
      · rename_i h0;simp
      · rfl
    refine⟨.slice (if cap=l then some ⟨b,o,none⟩ else some ⟨b,o+l,none⟩) (h-l) (cap-l),?_,?_⟩
    · simp[execOp,hv,h4,h5,Instr.sliceAt,Instr.slice,Instr.sliceBounds,Instr.sliceBound,asIntOf,run_underlying hT,hs,hle,hlh,oS]
    · by_cases qf:cap=l
      · exact⟨o,cap-l,by rw[if_pos qf], .inl (by omega),by omega,by omega⟩
      · exact⟨o+l,cap-l,by rw[if_neg qf],by omega,by omega,by omega⟩
theorem kO(d:Nat)(a:Option Addr)(l c:Nat){w:World}(h:P.underlying T=some (.slice E)):(Op.equalIn (d+1) T (.slice a l c) (.slice none 0 0)).run P w= .ok a.isNone w:=by
 cases a<;>simp[Op.equalIn,run_underlying h]
theorem EL{b off len:Nat}(hT:P.underlying T=some (.slice E))(hx:bx env x (jM b off len))(hy:bx env y (aa (.slice none 0 0))):bp P hs env ⟨dst, .binOp .neq T x y T',ty,pos,after,gd⟩ (ak True):=
 bp.aL fun ρ w S F _ he=>by
  obtain⟨o,cap,hv,_⟩:=he.o _ _ hx;have h2:=he.o _ _ hy;simp only[aa] at h2
  have e2:(binOp .neq T (.slice (some ⟨b,o,none⟩) len cap) (.slice none 0 0)).run P w= .ok (.bool true) w:=by
   show((do pure (.bool (!(←Op.equalIn (9999+1) T (.slice (some ⟨b,o,none⟩) len cap) (.slice none 0 0))))):Sem Value).run P w=_
   rw[bu (kO 9999 (some ⟨b,o,none⟩) len cap hT)];rfl
  exact⟨.bool true,by simp[execOp,hv,h2,eqGuard,e2],_,rfl,by simp⟩
theorem xG{b off len:Nat}(hT:P.underlying T=some (.slice E))(hx:bx env x (jM b off len))(hy:bx env y (aa (.slice none 0 0))):bp P hs env ⟨dst, .binOp .eql T x y T',ty,pos,after,gd⟩ (ak False):=
 bp.aL fun ρ w S F _ he=>by
  obtain⟨o,cap,hv,_⟩:=he.o _ _ hx;have h2:=he.o _ _ hy;simp only[aa] at h2
  have e2:(binOp .eql T (.slice (some ⟨b,o,none⟩) len cap) (.slice none 0 0)).run P w= .ok (.bool false) w:=by
   show((do pure (.bool (←Op.equalIn (9999+1) T (.slice (some ⟨b,o,none⟩) len cap) (.slice none 0 0)))):Sem Value).run P w=_
   rw[bu (kO 9999 (some ⟨b,o,none⟩) len cap hT)];rfl
  exact⟨.bool false,by simp[execOp,hv,h2,eqGuard,e2],_,rfl,by simp⟩
theorem fZ.OC{o:Oper}{c:Ctx}{a:Act}{w w1:World}{S F:BS}(aH:kH c w S F)(hown:de hs F S w){m i:Nat}{h0 h1:HP}(hi:hs[i]?=some h0)(hF:∀F1 S w,h0.p F1 S w→F1 m){v:Value}{Kp:Act→World→Prop}{Q:Exit→Act→World→Prop}
    (hr:(execOp a.eval o).run P w= .ok (.value v) w1) (e1:w1.os=w.os) (e2:w1.tape=w.tape) (e3:w1.output=w.output) (e4:w1.heap.size=w.heap.size) (hne:∀k',k'≠m→w1.heap[k']?=w.heap[k']?) (hp:∀F1,h0.p F1 S w→h1.p F1 S w1)
    (hk:kH c w1 S F→(∀k,S k→w1.heap[k]?=w.heap[k]?)→de (hs.set i h1) F S w1→Kp (a.put o.dst v) w1):o.wp P a w Kp Q:=by
  obtain⟨F1,F2,f1,f2,f3,_,f4⟩:=hown.xA hi;have hFm:=hF F1 S w f3;have hag:∀k',S k'→w1.heap[k']?=w.heap[k']?:=fun k' hk'=>hne k' (fun e=>aH.dJ k' hk' (e▸(f1 m hFm).1))
  have hO:de (hs.set i h1) F S w1:=by
    have:=f4 S F1 w1 h1 (fun k hk=>(f1 k hk).2) (fun _ h=>h) (fun k hk=>hne k (fun e=>(f1 m hFm).2 (e▸hk))) hag (hp F1 f3);exact this.mono (fun k hk=>hk.elim (fun h=>(f1 k h).1) (f2 k)) (fun _ h=>h) (fun _ _=>rfl) (fun _ _=>rfl)
  have hS:kH c w1 S F:=aH.write (f1 m hFm).1 e1 e2 e3 e4 hne;unfold Oper.wp;rw[hr];exact hk hS hag hO
theorem Rh{l:List UInt8}:∀v∈mZ l,v.oneCell'=true:=fun v hv=>by
 obtain⟨b,_,rfl⟩:=List.mem_map.1 hv;rfl
theorem HQ{l ys:List UInt8}{off:Nat}(h:off+ys.length≤l.length){arr:Array Value}(hs:arr.size=(mZ l).toArray.size)(h1:∀j,(j<off∨off+ys.length≤j)→arr[j]?=(mZ l).toArray[j]?)(h2:∀j v,(mZ ys)[j]?=some v→arr[off+j]?=some v):
    arr=(mZ (l.take off++ys++l.drop (off+ys.length))).toArray:=by
  have hz:arr.size=l.length:=by simpa[mZ] using hs
  apply Array.ext_getElem?;intro j;simp only[List.getElem?_toArray,qo] at h1 ⊢;rcases Nat.lt_or_ge j off with h3|h3
  · rw[h1 j (.inl h3),List.append_assoc,List.getElem?_append_left (by simp;omega),List.getElem?_take,if_pos h3]
  · rcases Nat.lt_or_ge j (off+ys.length) with h4|h4
    · have h5:ys[j-off]?=some (ys[j-off]'(by omega)):=List.getElem?_eq_getElem (by omega)
      have:=h2 (j-off) _ (by rw[qo,h5];rfl);rw[show off+(j-off)=j by omega] at this;have hto:(List.take off l).length=off:=by simp;omega
      rw[this,List.append_assoc,List.getElem?_append_right (by omega),List.getElem?_append_left (by omega),hto,h5];rfl
    · rw[h1 j (.inr h4),List.getElem?_append_right (by simp;omega),List.getElem?_drop]
      congr 2
      simp only[List.length_append,List.length_take];omega
theorem zf{b off o i:Nat}{l ys:List UInt8}{vs:List Value}{op:Oper}{c:Ctx}{a:Act}{w:World}{S F:BS}(aH:kH c w S F)(hown:de hs F S w)(hi:hs[i]?=some (iM b l))(hvs:vs=mZ ys)(ho:ys.length=0∨o=off)(hl:off+ys.length≤l.length){v:Value}{Kp:Act→World→Prop}{Q:Exit→Act→World→Prop}
    (hr:∀w1,(storeCells ⟨b,o,none⟩ vs 0).run P w= .ok () w1→(execOp a.eval op).run P w= .ok (.value v) w1)
    (hk:∀w1,kH c w1 S F→(∀k,S k→w1.heap[k]?=w.heap[k]?)→de (hs.set i (iM b (l.take off++ys++l.drop (off+ys.length)))) F S w1→Kp (a.put op.dst v) w1):op.wp P a w Kp Q:=by
  subst hvs;obtain⟨F1,_,hp⟩:=hown.get hi;obtain⟨_,T,hb⟩:=hp;rcases ho with h0|h0
  · have hy:ys=[]:=List.length_eq_zero_iff.1 h0
    subst hy;refine fZ.OC (m:=b) (h1:=iM b (l.take off++[]++l.drop (off+[].length))) aH hown hi (fun F1 S w h=>h.1) (hr w (by simp[mZ,storeCells])) rfl rfl rfl rfl (fun _ _=>rfl) (fun F1 h=>?_) (hk w);simp only[List.length_nil,Nat.add_zero,List.append_nil,List.take_append_drop];exact h
  · subst h0
    obtain⟨w',arr',h1,h2,h3,h4,h5,h6,h7,h8,h9,h10⟩:=jd (P:=P) (b:=b) (off:=o) (T:=T) (mZ ys) 0 w _ Rh hb (by simpa[mZ] using hl);refine fZ.OC (m:=b) (h1:=iM b (l.take o++ys++l.drop (o+ys.length))) aH hown hi (fun F1 S w h=>h.1) (hr w' h1) h2 h3 h4 h5 h6 (fun F1 h=>⟨h.1,T,?_⟩) (hk w');rw[h7,HQ hl h8 (fun j hj=>h9 j (by simpa[CJ] using hj)) (fun j v hj=>by simpa using h10 j v hj)]
def EM(P:Program)(hs:List HP)(env:Env)(y:Operand)(ys:List UInt8):Prop:=
 ∀(S F:BS) (w:World) (a:Act),de hs F S w→cS env S w a.tmps→∃(ya:Option Addr) (ycap:Nat),a.eval y= .slice ya ys.length ycap∧ys.length≤281474976710656∧
  ∀d:Nat,(Builtin.firstCells 1 ys.length (.slice ya ys.length ycap)).run P {w with drawn:=d}= .ok (mZ ys).toArray {w with drawn:=d}
theorem EM.src{ys:List UInt8}(h:EM P hs env y ys):Src P hs env y 1 aj ys:=fun S F w a ho he=>by
 obtain⟨ya,ycap,h1,h2,h3⟩:=h S F w a ho he;exact⟨ya,ycap,mZ ys,h1,h2,by rw[CJ];omega,h3,fun j q hj=>Rg hj⟩
theorem EM.shared{ys:List UInt8}(hy:bx env y (ai 1 aj ys)):EM P hs env y ys:=fun S F w a _ qe=>by
 obtain⟨ya,ycap,Bt,EA,Oh,Lp⟩:=hy S w a qe;refine⟨ya,ycap,Bt,Oh,fun d=>?_⟩;by_cases h0:ys=[]
 · subst h0;cases ya<;>simp[Builtin.firstCells,loadCells,loadCellsFrom,mZ]
 · have:0<ys.length:=List.length_pos_iff.2 h0
   cases ya with
   |none=>have h9:ycap=0:=Lp;omega
   |some ad=>
    obtain⟨b,off,sp⟩:=ad;obtain⟨h4,h5,h6⟩:=Lp (by omega);simp only at h4 h5 h6;subst h4
    have:=ED (P:=P) h6 d;simp only[Builtin.firstCells,Nat.mul_one];rw[this];simp[mZ]
theorem EM.buf{b off len i:Nat}{l:List UInt8}(hy:bx env y (jM b off len))(hi:hs[i]?=some (iM b l))(hl:off+len≤l.length):EM P hs env y ((l.drop off).take len):=fun S F w a ho qe=>by
 obtain⟨o,cap,hv,h1,h2,h3⟩:=hy S w a qe;obtain⟨F1,_,_,T,hb⟩:=ho.get hi;have hlen:((l.drop off).take len).length=len:=by simp;omega
 exact⟨some ⟨b,o,none⟩,cap,by rw[hlen];exact hv,by omega,fun d=>by rw[hlen];exact Lz hb h1 hl d⟩
theorem BA{b off len i:Nat}{l ys:List UInt8}{ats:Array TypeId}(wj:ats[0]?=some T)(hT:P.underlying T=some (.slice E))(hn:P.cellsOf E=1)(hx:bx env x (jM b off len))(hy:EM P hs env y ys)(hi:hs[i]?=some (iM b l))(hle:ys.length≤len)(hl:off+len≤l.length):
    fZ P hs env ⟨dst, .call ⟨.builtin .copy, #[x,y],ats⟩,ty,pos,after,gd⟩ (γ:=Unit) (fun _=>True) (fun _=>hs.set i (iM b (l.take off++ys++l.drop (off+ys.length)))) (fun _=>ag .i64 (ys.length:Int)):=by
  intro c a w S F aH hown he Kp Q hk;obtain⟨o,cap,hv,h1,h2,h3⟩:=hx S w a he;obtain⟨ya,ycap,Bt,Oh,YV⟩:=hy S F w a hown he;have YV:=YV w.drawn;have hsz:=run_sizeOf (T:=E) hn rfl w;have hmin:Nat.min ys.length len=ys.length:=Nat.min_eq_left hle;refine zf (vs:=mZ ys) (o:=o) aH hown hi rfl (by omega) (by omega) (fun w1 hw1=>?_) (fun w1 hS hag hO=>hk () (.int .i64 (ys.length:Int)) w1 S F trivial hS (fun _ h=>h) hag hO rfl);simp[execOp,resolve,invoke,builtin,Builtin.copy_,wj,hv,Bt,run_underlying hT,Builtin.lenOf,hmin,hsz,YV,hw1,goInt]
theorem HR{b off len i:Nat}{l:List UInt8}{ats:Array TypeId}(wj:ats[0]?=some T)(hT:P.underlying T=some (.slice E))(hn:P.cellsOf E=1)(hz:jI P E=some [.int .u8 0])(hx:bx env x (jM b off len))(hi:hs[i]?=some (iM b l))(hl:off+len≤l.length):
    fZ P hs env ⟨dst, .call ⟨.builtin .clear, #[x],ats⟩,ty,pos,after,gd⟩ (γ:=Unit) (fun _=>True) (fun _=>hs.set i (iM b (l.take off++List.replicate len 0++l.drop (off+len)))) (fun _=>bE []):=by
  intro c a w S F aH hown he Kp Q hk;obtain⟨o,cap,hv,h1,h2,h3⟩:=hx S w a he;obtain⟨zv,Ez,wq⟩:=gH hz w
  have hzc:(Builtin.zeroCells zv.cells len).toList=mZ (List.replicate len 0):=by
    apply List.ext_getElem
    · simp[mZ,Builtin.zeroCells,wq]
    · intro j _ _
      simp[mZ,Builtin.zeroCells,wq,Nat.mod_one]
  have hlr:(List.replicate len (0:UInt8)).length=len:=by simp
  have:=zf (P:=P) (ys:=List.replicate len 0) (vs:=mZ (List.replicate len 0)) (o:=o) (off:=off) (op:=⟨dst, .call ⟨.builtin .clear, #[x],ats⟩,ty,pos,after,gd⟩) (a:=a) (v:= .tuple #[]) (Kp:=Kp) (Q:=Q) aH hown hi rfl (by rw[hlr];exact h1) (by rw[hlr];exact hl) (fun w1 hw1=>?_) (fun w1 hS hag hO=>hk () (.tuple #[]) w1 S F trivial hS (fun _ h=>h) hag (by rw[hlr] at hO;exact hO) ⟨#[],rfl,rfl,fun j p v hj=>by simp at hj⟩)
  · exact this
  · by_cases h0:len=0
    · subst h0
      simp[mZ,storeCells] at hw1;subst hw1;simp[execOp,resolve,invoke,builtin,Builtin.clear_,wj,hv,run_underlying hT]
    · obtain⟨n,rfl⟩:∃n,len=n+1:=⟨len-1,by omega⟩
      simp[execOp,resolve,invoke,builtin,Builtin.clear_,wj,hv,run_underlying hT,Ez];simp only[hzc,hw1,Result.andThen_ok]
abbrev bD:=Int×Int
def NR(k0 k1:IntKind)(a:bD):Value:= .agg #[.int k0 a.1, .int k1 a.2]
abbrev xH:=NR .i64 .i64
theorem rO.pair{K:TypeId}{f0 f1:Field}{k0 k1:IntKind}(h:P.underlying K=some (.struct #[f0,f1]))(hst:P.stoodInHeld K=false)(n0:f0.name≠"_")(n1:f1.name≠"_")(o0:f0.offset=0)(o1:f1.offset=1)
    (t0:P.underlying f0.type=some (.int k0)) (t1:P.underlying f1.type=some (.int k1)):rO P K (NR k0 k1) where
  check a e w:=by
    have c0:∀(x:Int) (n:Nat),(Instr.checkKey e (n+1) f0.type (.int k0 x)).run P w= .ok () w:=fun x n=>by unfold Instr.checkKey;rw[bu (run_underlying t0 w)];rfl
    have c1:∀(x:Int) (n:Nat),(Instr.checkKey e (n+1) f1.type (.int k1 x)).run P w= .ok () w:=fun x n=>by unfold Instr.checkKey;rw[bu (run_underlying t1 w)];rfl
    have a0:kI P f0.type=some false:=by unfold kI;rw[t0];rfl
    have a1:kI P f1.type=some false:=by unfold kI;rw[t1];rfl
    have p0:(part f0.type #[.int k0 a.1, .int k1 a.2] f0.offset).run P w= .ok (.int k0 a.1) w:=by unfold part;rw[bu (eN a0 w)];simp[o0]
    have p1:(part f1.type #[.int k0 a.1, .int k1 a.2] f1.offset).run P w= .ok (.int k1 a.2) w:=by unfold part;rw[bu (eN a1 w)];simp[o1]
    unfold Instr.checkKey NR;rw[bu (run_underlying h w)];simp[n0,n1,p0,p1,c0,c1]
  same a:=by simp[NR,Instr.sameBits]
  find a es ks w hk:=by
    have hf:P.fieldsOf K= #[f0,f1]:=by simp[Program.fieldsOf,h]
    have a0:kI P f0.type=some false:=by unfold kI;rw[t0];rfl
    have a1:kI P f1.type=some false:=by unfold kI;rw[t1];rfl
    have p0:∀b:bD,(part f0.type #[.int k0 b.1, .int k1 b.2] f0.offset).run P w= .ok (.int k0 b.1) w:=fun b=>by unfold part;rw[bu (eN a0 w)];simp[o0]
    have p1:∀b:bD,(part f1.type #[.int k0 b.1, .int k1 b.2] f1.offset).run P w= .ok (.int k1 b.2) w:=fun b=>by unfold part;rw[bu (eN a1 w)];simp[o1]
    have heq:∀b:bD,(Op.equal K (NR k0 k1 a) (NR k0 k1 b)).run P w= .ok (decide (b=a)) w:=fun b=>by
      have e1:=run_equalIn_struct (P:=P) w 9999 K #[.int k0 a.1, .int k1 a.2] #[.int k0 b.1, .int k1 b.2] (by rw[hf];exact h) hst;rw[hf] at e1;refine e1.trans ?_;have q0:=run_equalIn_int (P:=P) w 9998 f0.type k0 k0 a.1 b.1 t0;have q1:=run_equalIn_int (P:=P) w 9998 f1.type k1 k1 a.2 b.2 t1;obtain⟨a1,a2⟩:=a;obtain⟨b1,b2⟩:=b;have p0a:=p0 (a1,a2);have p0b:=p0 (b1,b2);have p1a:=p1 (a1,a2);have p1b:=p1 (b1,b2)
      simp only at p0a p0b p1a p1b q0 q1;simp[Op.eqFields,n0,n1,p0a,p0b,p1a,p1b,q0,q1];by_cases h1:a1=b1<;>by_cases h2:a2=b2<;>simp[h1,h2]<;>omega
    have key:∀(es:List MapEntry) (ks:List bD) (i:Nat),es.map (·.key)=ks.map (NR k0 k1)→(Instr.findAsking K (NR k0 k1 a) es i).run P w= .ok ((ks.findIdx? fun b=>decide (b=a)).bind fun j=>(es[j]?).map fun e=>(i+j,e.val)) w:=by
      intro es
      induction es with
      | nil=>intro ks i hk;cases ks with
        |nil=>rfl
        |cons b ks=>simp at hk
      | cons e es ih=>
        intro ks i hk;cases ks with
        |nil=>simp at hk
        | cons b ks=>
          simp only[List.map_cons,List.cons.injEq] at hk;unfold Instr.findAsking;rw[hk.1,bu (heq b)];by_cases hab:b=a
          · subst hab;simp[List.findIdx?_cons]
          · simp only[hab,decide_false,Bool.false_eq_true,if_false,ih ks (i+1) hk.2,List.findIdx?_cons]
            cases ks.findIdx? (fun b=>decide (b=a)) with
            |none=>rfl
            |some j=>simp[Nat.add_assoc,Nat.add_comm 1 j]
    have aj3:Instr.findNow (.struct #[f0,f1]) (NR k0 k1 a) es 0=none∨es=[]:=by
      cases es with
      |nil=>exact .inr rfl
      | cons e es=>
        cases ks with
        |nil=>simp at hk
        | cons b ks=>
          simp only[List.map_cons,List.cons.injEq] at hk;exact .inl (by unfold Instr.findNow;rw[hk.1];rfl)
    have h0:=key es ks 0 hk;simp only[Instr.findKey,bu (run_underlying h w)];rcases aj3 with h1|h1
    · rw[h1];simp only[h0];simp[qZ]
    · subst h1
      cases ks with
      |nil=>rfl
      |cons b ks=>simp at hk
end
end Go.Hl
end
