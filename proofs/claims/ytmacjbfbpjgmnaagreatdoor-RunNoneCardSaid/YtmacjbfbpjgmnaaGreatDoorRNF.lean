/-
  What the statement's proof leans on, several texts in one (packed by a program).
-/
import Derived.Test.YtmacjbfbpjgmnaaGreatDoorRNE
import Derived.Lib.Bytealg
set_option linter.all false
set_option maxRecDepth 1000000
set_option maxHeartbeats 4000000
section
namespace Go.Hl
open Go.RowKit
section
variable {P:Program} {hs:List HP} {env:Env} {q:VP} {dst:Option Tmp} {ty T T' E:TypeId} {pos:String} {after:Array Edge} {gd:Option (Nat×Bool)} {x y z:Operand} {k k':IntKind} {l:List UInt8}
theorem qM(l:List UInt8)(i j:Nat)(hij:i≤j)(hj:j≤l.length):(ByteArray.mk l.toArray).extract i j=⟨((l.take j).drop i).toArray⟩:=by
 apply ByteArray.ext;rw[ByteArray.data_extract];apply Array.toList_inj.1;simp[List.take_drop,show i+(j-i)=j by omega]
theorem vQ(l:List UInt8):(ByteArray.mk l.toArray).size=l.length:=by show l.toArray.size=_;simp
theorem q5{i:Int}{h:Nat}(hT:P.underlying T=some .string)(hx:aU env x (cW l))(hy:aU env y (aa k i))(hi:i=(h:Int))(hh:h≤l.length):
    aT P hs env ⟨dst, .slice T x none (some y) none,ty,pos,after,gd⟩ (cW (l.take h)):=
  aT.aD fun ρ w S F _ he=>by
    obtain⟨hv,hm⟩:=he.o _ _ hx;have h2:=he.o _ _ hy;simp only[af] at h2
    subst hi;have hs:=vQ l;have he:=qM l 0 h (by omega) hh;simp only[List.drop_zero] at he;refine⟨.string ⟨(l.take h).toArray⟩,?_,rfl,by simp;omega⟩;simp[execOp,hv,h2,Instr.sliceAt,Instr.slice,Instr.sliceBounds,Instr.sliceBound,asIntOf,run_underlying hT,hs,hh,he,-ByteArray.size_data,-List.extract_toArray]
theorem vR{i:Int}{h:Nat}(hT:P.underlying T=some .string)(hx:aU env x (cW l))(hy:aU env y (aa k i))(hi:i=(h:Int))(hh:h≤l.length):
    aT P hs env ⟨dst, .slice T x (some y) none none,ty,pos,after,gd⟩ (cW (l.drop h)):=
  aT.aD fun ρ w S F _ he=>by
    obtain⟨hv,hm⟩:=he.o _ _ hx;have h2:=he.o _ _ hy;simp only[af] at h2
    subst hi;have hs:=vQ l;have he:=qM l h l.length (by omega) (by omega);rw[List.take_length] at he;refine⟨.string ⟨(l.drop h).toArray⟩,?_,rfl,by simp;omega⟩;simp[execOp,hv,h2,Instr.sliceAt,Instr.slice,Instr.sliceBounds,Instr.sliceBound,asIntOf,run_underlying hT,hs,hh,he,-ByteArray.size_data,-List.extract_toArray]
theorem NV{f:FuncId}{xs:List Operand}{ats:Array TypeId}{ps:List VP}(hx:iN env xs ps)(hr:∀S w vs,e9 ps S w vs→∃v,(callFunc f vs.toArray).run P w= .ok (.value v) w∧q.p S w v):
    aT P hs env ⟨dst, .call ⟨.value (.func f),xs.toArray,ats⟩,ty,pos,after,gd⟩ q:=by
  intro a w S F h1 h2 h3 h4 h5 K Q hk;obtain⟨v,hv,hq⟩:=hr S w _ (hx S w a h5);unfold Oper.wp
  have:(execOp a.eval ⟨dst, .call ⟨.value (.func f),xs.toArray,ats⟩,ty,pos,after,gd⟩).run P w= .ok (.value v) w:=by
    have h:=hv;simp[execOp,resolve,Act.eval,Deferred.ofValue,invoke] at h ⊢;exact h
  rw[this];exact hk v w S (ez.refl _ _) hq
def S6(P:Program)(f:FuncId)(e:Array Value→Sem Value):Prop:=∀args w,(callFunc f args).run P w=((e args).run P w).andThen fun v w'=> .ok (.value v) w'
theorem EO{f:FuncId}{xs:List Operand}{ats:Array TypeId}{b:UInt8}(hf:S6 P f Extern.BytealgIndexByte.indexByte)(hx:iN env xs [cW l,aa .u8 (b.toNat:Int)]):
    aT P hs env ⟨dst, .call ⟨.value (.func f),xs.toArray,ats⟩,ty,pos,after,gd⟩ (aa .i64 (Lib.indexByte l b)):=
  NV hx fun S w vs h=>by
    obtain⟨h1,h2⟩:=h
    match vs,h1,h2 with
    | [u,v],_,h2=>
      have hu:=(h2 0 _ u rfl rfl).1;have hv:=h2 1 _ v rfl rfl;simp only[af] at hv
      subst hu;subst hv
      refine⟨_,?_,rfl⟩;rw[hf,Lib.run_indexByteString];simp[Result.andThen]
end
def kr(l s:List UInt8):Prop:=s.length≤l.length∧l.drop (l.length-s.length)=s
def tE(l s:List UInt8):Prop:=s.length≤l.length∧l.take s.length=s
instance (l s:List UInt8):Decidable (kr l s):=inferInstanceAs (Decidable (_∧_))
instance (l s:List UInt8):Decidable (tE l s):=inferInstanceAs (Decidable (_∧_))
def p9(l s:List UInt8):List UInt8:=if kr l s then l.take (l.length-s.length) else l
def tF(l:List UInt8)(b:UInt8):List UInt8×List UInt8×Bool:=if 0≤Lib.indexByte l b then(l.take (Lib.indexByte l b).toNat,l.drop ((Lib.indexByte l b).toNat+1),true) else(l,[],false)
theorem Ai(l:List UInt8)(b:UInt8):Lib.indexByte l b<l.length:=by
 induction l with
 |nil=>simp[Lib.indexByte]
 |cons x l ih=>
  unfold Lib.indexByte
  split
  · simp only[List.length_cons];omega
  · split
    · simp only[List.length_cons];omega
    · simp only[List.length_cons];omega
section
variable {P:Program} {hs:List HP} {env:Env} {q:VP} {dst:Option Tmp} {ty T T' E:TypeId} {pos:String} {after:Array Edge} {gd:Option (Nat×Bool)} {x y z:Operand}
theorem kM{f:FuncId}{xs:List Operand}{ats:Array TypeId}{ps:List VP}{hs0 rest:List HP}{γ:Type}{φ:γ→Prop}{hs':γ→List HP}{q:γ→VP}(hf:bk P f ps hs0 φ hs' q)(hb:iu P f=true)(hx:iN env xs ps)(hp:hs.Perm (hs0++rest)):
    fN P hs env ⟨dst, .call ⟨.value (.func f),xs.toArray,ats⟩,ty,pos,after,gd⟩ φ (fun g=>hs' g++rest) q:=by
  intro c a w S F ax hown he K Q hk;obtain⟨F1,F2,lW,rZ,Ey,EP⟩:=cT.append.1 (hown.perm hp);have IZ:∀k,F1 k→k<w.heap.size:=fun k hk=>ax.bO k (lW k hk).1;have hSF:∀k,S k→¬F1 k:=fun k hk hf=>ax.cR k hk (lW k hf).1;unfold Oper.wp;rw[oL hb];refine(hf w S F1 _ ax.bD IZ hSF Ey (by simpa using hx S w a he)).mono ?_;rintro e w' ⟨v,S',F1',g,rfl,h2,hφ,lC,hq⟩;have hoS:∀k,S k→w'.heap[k]?=w.heap[k]?:=fun k hk=>h2.kept k (ax.bD k hk) (hSF k hk);have ho2F:∀k,F2 k→¬F1 k:=fun k hk hf=>(lW k hf).2 hk;refine hk g v w' S' (fun k=>F1' k∨F2 k) hφ ⟨h2.os.trans ax.os,h2.tape.trans ax.tape,h2.output.trans ax.output,Nat.le_trans ax.size h2.size,fun k hk hm=>?_,fun k hk hf=>?_,h2.bD,fun k hk=>?_,fun k hk=>?_,fun k hk=>?_,fun k hk=>h2.base k (ax.base k hk)⟩ h2.base hoS ?_ hq
  · have hnF:¬F1 k:=fun hf=>(ax.own k (lW k hf).1).elim hm (fun h=>by omega)
    exact(h2.kept k (Nat.lt_of_lt_of_le hk ax.size) hnF).trans (ax.kept k hk hm)
  · rcases hf with hf|hf
    · exact h2.cR k hk hf
    · rcases h2.shr k hk with h|h|h
      · exact ax.cR k h (rZ k hf)
      · exact(lW k h).2 hf
      · exact Nat.lt_irrefl _ (Nat.lt_of_lt_of_le (ax.bO k (rZ k hf)) h)
  · rcases hk with hk|hk
    · exact h2.bO k hk
    · exact Nat.lt_of_lt_of_le (ax.bO k (rZ k hk)) h2.size
  · rcases hk with hk|hk
    · rcases h2.own k hk with h|h
      · exact ax.own k (lW k h).1
      · exact .inr (Nat.le_trans ax.size h)
    · exact ax.own k (rZ k hk)
  · rcases h2.shr k hk with h|h|h
    · exact ax.shr k h
    · exact .inr (ax.own k (lW k h).1)
    · exact .inr (.inr (Nat.le_trans ax.size h))
  · refine cT.append.2 ⟨F1',F2,fun k hk=>⟨.inl hk,fun hf=>?_⟩,fun k hk=> .inr hk,lC,EP.mono (fun _ h=>h) h2.base (fun k hk=>h2.kept k (ax.bO k (rZ k hk)) (ho2F k hk)) hoS⟩
    rcases h2.own k hk with h|h
    · exact(lW k h).2 hf
    · exact Nat.lt_irrefl _ (Nat.lt_of_lt_of_le (ax.bO k (rZ k hf)) h)
theorem aJ.iY{Q:Exit→Act→World→Prop}{c:Ctx}{s:Code}{α:Type}{g:SB}{n:Nat}{enc:α→List VP}{xs:List α}(i:Nat)(hi:hs[i]?=some (aI g n enc xs))(hne:xs≠[])
    (h:∀b cap,g=some (b,cap)→aJ P Q c s hs env):aJ P Q c s hs env:=by
  intro a w hst;obtain⟨h1,h2,S,F,h3,h4,h5⟩:=hst;obtain⟨F1,_,hp⟩:=h4.get hi;cases g with
  |none=>exact absurd hp hne
  |some p=>exact h p.1 p.2 rfl a w ⟨h1,h2,S,F,h3,h4,h5⟩
end
section
variable {P:Program} {hs:List HP} {env:Env} {q:VP} {dst:Option Tmp} {ty T T' K V:TypeId} {pos:String} {after:Array Edge} {gd:Option (Nat×Bool)} {x y z:Operand}
def oq(es:List MapEntry)(i:Option Nat):Option (Nat×Value):=i.bind fun i=>(es[i]?).map fun e=>(i,e.val)
structure q6(P:Program)(K:TypeId){κ:Type}[DecidableEq κ](kenc:κ→Value):Prop where
 check:∀(a:κ) (e:Bool) (w:World),(Instr.checkKey e 10000 K (kenc a)).run P w= .ok () w
 find:∀(a:κ) (es:List MapEntry) (ks:List κ) (w:World),es.map (·.key)=ks.map kenc→(Instr.findKey K (kenc a) es).run P w= .ok (oq es (ks.findIdx? fun k=>decide (k=a))) w
 same:∀a:κ,Instr.sameBits 10000 (kenc a) (kenc a)=true
theorem q6.int{k:IntKind}(h:P.underlying K=some (.int k)):q6 P K (Value.int k) where
 check a e w:=by unfold Instr.checkKey;rw[bh (run_underlying h w)];rfl
 same a:=by unfold Instr.sameBits;simp
 find a es ks w hk:=by
  have key:∀(es:List MapEntry) (ks:List Int) (i:Nat),es.map (·.key)=ks.map (Value.int k)→Instr.findNow (.int k) (.int k a) es i=some ((ks.findIdx? fun b=>decide (b=a)).bind fun j=>(es[j]?).map fun e=>(i+j,e.val)):=by
   intro es
   induction es with
   |nil=>intro ks i hk;cases ks with
    |nil=>rfl
    |cons b ks=>simp at hk
   | cons e es ih=>
    intro ks i hk;cases ks with
    |nil=>simp at hk
    |cons b ks=>
     simp only[List.map_cons,List.cons.injEq] at hk;simp only[Instr.findNow,hk.1,Instr.sameNow,if_true];by_cases hab:a=b
     · subst hab;simp[List.findIdx?_cons]
     · have h1:(a==b)=false:=by simpa using hab
       have h2:¬b=a:=fun e=>hab e.symm;rw[h1];simp only[ih ks (i+1) hk.2,List.findIdx?_cons,h2,decide_false,if_neg (Bool.false_ne_true)];cases ks.findIdx? (fun b=>decide (b=a)) with
       |none=>rfl
       |some j=>simp[Nat.add_assoc,Nat.add_comm 1 j]
  have h0:=key es ks 0 hk;simp only[Instr.findKey,bh (run_underlying h w),h0];simp[oq]
def mQ(es:Array MapEntry)(clock:Nat):Prop:=(es.toList.map (·.born)).Nodup∧∀e∈es.toList,e.born<clock
theorem mQ.push{es:Array MapEntry}{clock:Nat}(h:mQ es clock)(e:MapEntry)(he:e.born=clock):mQ (es.push e) (clock+1):=by
 obtain⟨h1,h2⟩:=h;refine⟨?_,fun x hx=>?_⟩
 · rw[Array.toList_push,List.map_append,List.nodup_append]
   refine⟨h1,by simp,fun a ha b hb e1=>?_⟩;obtain⟨x,hx,rfl⟩:=List.mem_map.1 ha;have:=h2 x hx;simp at hb;omega
 · rw[Array.toList_push,List.mem_append] at hx
   rcases hx with hx|hx
   · have:=h2 x hx;omega
   · simp at hx;subst hx;omega
theorem mQ.same{es es':Array MapEntry}{clock:Nat}(h:mQ es clock)(he:es'.toList.map (·.born)=es.toList.map (·.born)):mQ es' clock:=
 ⟨he▸h.1,fun x hx=>by
  have h3:x.born∈es.toList.map (·.born):=he▸List.mem_map.2 ⟨x,hx,rfl⟩;obtain⟨y,hy,e⟩:=List.mem_map.1 h3;rw[←e];exact h.2 y hy⟩
theorem mQ.sub{es es':Array MapEntry}{clock:Nat}(h:mQ es clock)(he:List.Sublist es'.toList es.toList):mQ es' clock:=
 ⟨h.1.sublist (he.map _),fun x hx=>h.2 x (he.subset hx)⟩
def iD{κ ν:Type}[DecidableEq κ](m:Nat)(kenc:κ→Value)(vq:ν→VP)(D:List (κ×ν)):HP:=
 ⟨fun F S w=>F m∧∃(es:Array MapEntry) (clock:Nat),w.heap[m]?=some (.map es clock)∧es.toList.map (·.key)=D.map (fun p=>kenc p.1)∧(∀(i:Nat) (p:κ×ν),D[i]?=some p→(∃e,es[i]?=some e∧(vq p.2).p S w e.val))∧mQ es clock,
  fun h1 h2 h3 h4 ⟨hF,es,cl,hh,hk,hv,hb⟩=>⟨h1 m hF,es,cl,(h3 m hF).trans hh,hk,fun i p hp=>let ⟨e,he,hq⟩:=hv i p hp;⟨e,he,(vq p.2).mono h2 h4 hq⟩,hb⟩⟩
theorem mc{κ ν:Type}[DecidableEq κ](kenc:κ→Value)(vq:ν→VP):fN P hs env ⟨dst, .makeMap T none,ty,pos,after,gd⟩ (γ:=Nat) (fun _=>True) (fun m=>iD m kenc vq []::hs) (fun m=>af (.map (some m))):=by
 intro c a w S F ax hown he K Q hk
 have hr:(execOp a.eval ⟨dst, .makeMap T none,ty,pos,after,gd⟩).run P w= .ok (.value (.map (some w.heap.size))) {w with heap:=w.heap.push (.map #[] 0)}:=by
  simp[execOp,Instr.makeMap,newObj,Sem.run]
 unfold Oper.wp;rw[hr];exact hk w.heap.size _ _ S _ trivial (ax.eL _) (fun _ h=>h) (fun k hk=>bL w _ k (ax.bD k hk)) (hown.eL ax.bD ax.bO _ ⟨rfl, #[],0,by simp,rfl,fun i p h=>(by simp at h),⟨by simp,fun e he=>(by simp at he)⟩⟩) rfl
def br{κ ν:Type}[DecidableEq κ](D:List (κ×ν))(a:κ):Option ν:=(D.find? fun p=>decide (p.1=a)).map (·.2)
def ER{ν:Type}(vq:ν→VP)(z:VP):Option ν→VP
 |some v=>vq v
 |none=>z
theorem m5{κ ν:Type}[DecidableEq κ](a:κ):∀D:List (κ×ν),match (D.map (·.1)).findIdx? (fun k=>decide (k=a)) with
    |none=>br D a=none
    |some i=>∃v,D[i]?=some (a,v)∧br D a=some v
  |[]=>rfl
  | p ::D=>by
    have ih:=m5 a D
    have hl:br (p::D) a=if p.1=a then some p.2 else br D a:=by
      unfold br;by_cases h:p.1=a
      · rw[List.find?_cons_of_pos (by simpa using h),if_pos h];rfl
      · rw[List.find?_cons_of_neg (by simpa using h),if_neg h]
    rw[hl,List.map_cons,List.findIdx?_cons];by_cases h:p.1=a
    · rw[if_pos (by simpa using h),if_pos h]
      exact⟨p.2,by rw[←h];rfl,rfl⟩
    · rw[if_neg (by simpa using h),if_neg h]
      cases hf:(D.map (·.1)).findIdx? (fun k=>decide (k=a)) with
      |none=>rw[hf] at ih;exact ih
      |some i=>rw[hf] at ih;simpa using ih
theorem keys_map{κ ν:Type}(kenc:κ→Value)(D:List (κ×ν)):D.map (fun p=>kenc p.1)=(D.map (·.1)).map kenc:=by simp
theorem Lm{κ ν:Type}[DecidableEq κ]{kenc:κ→Value}{vq:ν→VP}{D:List (κ×ν)}{m i:Nat}{a:κ}{zs:Value}(hK:q6 P K kenc)(hT:P.underlying T=some (.map K V))(hz:∀w,(zeroValue V).run P w= .ok zs w)
    (hx:aU env x (af (.map (some m)))) (hy:aU env y (af (kenc a))) (hi:hs[i]?=some (iD m kenc vq D)):aT P hs env ⟨dst, .lookup T x y false,ty,pos,after,gd⟩ (ER vq (af zs) (br D a)):=
  aT.aD fun ρ w S F ho he=>by
    have h1:=he.o _ _ hx;have h2:=he.o _ _ hy;simp only[af] at h1 h2
    obtain⟨F1,_,_,es,cl,hh,hk,hv,_⟩:=ho.get hi;have I0:=hK.check a es.isEmpty w;have hf:=hK.find a es.toList (D.map (·.1)) w (hk.trans (keys_map kenc D));have qN:=m5 a D;cases Ez:(D.map (·.1)).findIdx? (fun k=>decide (k=a)) with
    | none=>
      rw[Ez] at hf qN;refine⟨zs,?_,by rw[qN];rfl⟩;simp only[oq,Option.bind_none] at hf;simp[execOp,h1,h2,Instr.lookup,run_underlying hT,getObj,Sem.run,hh,I0,hf,hz w]
    | some j=>
      rw[Ez] at hf qN;obtain⟨v,hj,hl⟩:=qN;obtain⟨e,he,hq⟩:=hv j _ hj;refine⟨e.val,?_,by rw[hl];exact hq⟩;have he':es.toList[j]?=some e:=by simpa using he
      simp only[oq,Option.bind_some,he',Option.map_some] at hf;simp[execOp,h1,h2,Instr.lookup,run_underlying hT,getObj,Sem.run,hh,I0,hf]
theorem vS{κ ν:Type}[DecidableEq κ]{kenc:κ→Value}{vq:ν→VP}{D:List (κ×ν)}{m i:Nat}{a:κ}{zs:Value}(hK:q6 P K kenc)(hT:P.underlying T=some (.map K V))(hz:∀w,(zeroValue V).run P w= .ok zs w)
    (hx:aU env x (af (.map (some m)))) (hy:aU env y (af (kenc a))) (hi:hs[i]?=some (iD m kenc vq D)):aT P hs env ⟨dst, .lookup T x y true,ty,pos,after,gd⟩ (aS [ER vq (af zs) (br D a),ak ((br D a).isSome=true)]):=
  aT.aD fun ρ w S F ho he=>by
    have h1:=he.o _ _ hx;have h2:=he.o _ _ hy;simp only[af] at h1 h2
    obtain⟨F1,_,_,es,cl,hh,hk,hv,_⟩:=ho.get hi;have I0:=hK.check a es.isEmpty w;have hf:=hK.find a es.toList (D.map (·.1)) w (hk.trans (keys_map kenc D));have qN:=m5 a D
    have tup:∀(u:Value) (b:Bool),(ER vq (af zs) (br D a)).p S w u→(b=true↔(br D a).isSome=true)→(aS [ER vq (af zs) (br D a),ak ((br D a).isSome=true)]).p S w (.tuple #[u, .bool b]):=fun u b hu hb=>
      ⟨_,rfl,rfl,fun j p v hj hv=>by
        match j,hj,hv with
        |0,hj,hv=>simp at hj hv;subst hj;subst hv;exact hu
        |1,hj,hv=>simp at hj hv;subst hj;subst hv;exact⟨b,rfl,hb⟩⟩
    cases Ez:(D.map (·.1)).findIdx? (fun k=>decide (k=a)) with
    | none=>
      rw[Ez] at hf qN;refine⟨.tuple #[zs, .bool false],?_,tup _ _ (by rw[qN];rfl) (by simp[qN])⟩;simp only[oq,Option.bind_none] at hf;simp[execOp,h1,h2,Instr.lookup,run_underlying hT,getObj,Sem.run,hh,I0,hf,hz w]
    | some j=>
      rw[Ez] at hf qN;obtain⟨v,hj,hl⟩:=qN;obtain⟨e,he,hq⟩:=hv j _ hj;refine⟨.tuple #[e.val, .bool true],?_,tup _ _ (by rw[hl];exact hq) (by simp[hl])⟩;have he':es.toList[j]?=some e:=by simpa using he
      simp only[oq,Option.bind_some,he',Option.map_some] at hf;simp[execOp,h1,h2,Instr.lookup,run_underlying hT,getObj,Sem.run,hh,I0,hf]
theorem fN.ES{o:Oper}{c:Ctx}{a:Act}{w:World}{S F:BS}(ax:ir c w S F)(hown:cT hs F S w){m i:Nat}{h0 h1:HP}(hi:hs[i]?=some h0)(hF:∀F1 S w,h0.p F1 S w→F1 m){ob:Obj}{v:Value}{Kp:Act→World→Prop}{Q:Exit→Act→World→Prop}
    (hr:(execOp a.eval o).run P w= .ok (.value v) (iz w m ob)∨(execOp a.eval o).run P w= .ok .skip (iz w m ob)∧o.dst=none) (hp:∀F1,h0.p F1 S w→h1.p F1 S (iz w m ob))
    (hk:∀w',ir c w' S F→(∀k,S k→w'.heap[k]?=w.heap[k]?)→cT (hs.set i h1) F S w'→Kp (a.put o.dst v) w'):o.wp P a w Kp Q:=by
  obtain⟨F1,F2,f1,f2,f3,_,f4⟩:=hown.ue hi;have hFm:=hF F1 S w f3;have hne:∀k',k'≠m→(iz w m ob).heap[k']?=w.heap[k']?:=fun k' hk'=>by simp[iz,Array.getElem?_setIfInBounds_ne (fun e=>hk' e.symm)]
  have hag:∀k',S k'→(iz w m ob).heap[k']?=w.heap[k']?:=fun k' hk'=>hne k' (fun e=>ax.cR k' hk' (e▸(f1 m hFm).1))
  have hO:cT (hs.set i h1) F S (iz w m ob):=by
    have:=f4 S F1 (iz w m ob) h1 (fun k hk=>(f1 k hk).2) (fun _ h=>h) (fun k hk=>hne k (fun e=>(f1 m hFm).2 (e▸hk))) hag (hp F1 f3);exact this.mono (fun k hk=>hk.elim (fun h=>(f1 k h).1) (f2 k)) (fun _ h=>h) (fun _ _=>rfl) (fun _ _=>rfl)
  have hS:ir c (iz w m ob) S F:=ax.write (f1 m hFm).1 rfl rfl rfl (by simp[iz]) hne;unfold Oper.wp;rcases hr with hr|⟨hr,hd⟩
  · rw[hr];exact hk _ hS hag hO
  · rw[hr]
    have h9:=hk _ hS hag hO
    show Kp (a.put o.dst undef) _
    rw[hd] at h9 ⊢;exact h9
def ew{κ ν:Type}[DecidableEq κ](D:List (κ×ν))(a:κ)(v:ν):List (κ×ν):=match (D.map (·.1)).findIdx? (fun k=>decide (k=a)) with
 |some i=>D.set i (a,v)
 |none=>D++[(a,v)]
def B5{κ ν:Type}[DecidableEq κ](D:List (κ×ν))(a:κ):List (κ×ν):=match (D.map (·.1)).findIdx? (fun k=>decide (k=a)) with
 |some i=>D.eraseIdx i
 |none=>D
theorem B6{κ ν:Type}[DecidableEq κ]{kenc:κ→Value}{D:List (κ×ν)}{a:κ}(hK:q6 P K kenc){es:Array MapEntry}(hk:es.toList.map (·.key)=D.map (fun p=>kenc p.1))(w':World):
    (Instr.findKey K (kenc a) es.toList).run P w'= .ok (oq es.toList ((D.map (·.1)).findIdx? fun k=>decide (k=a))) w':=hK.find a es.toList (D.map (·.1)) w' (hk.trans (keys_map kenc D))
theorem um{κ ν:Type}[DecidableEq κ]{kenc:κ→Value}{vq:ν→VP}{D:List (κ×ν)}{m i:Nat}{a:κ}(v:ν)(hK:q6 P K kenc)(hT:P.underlying T=some (.map K V))
    (hx:aU env x (af (.map (some m)))) (hy:aU env y (af (kenc a))) (hz:aU env z (vq v)) (hi:hs[i]?=some (iD m kenc vq D)):
    fN P hs env ⟨none, .mapUpdate T x y z,ty,pos,after,gd⟩ (γ:=Unit) (fun _=>True) (fun _=>hs.set i (iD m kenc vq (ew D a v))) (fun _=>af undef):=by
  intro c ac w S F ax hown he Kp Q hk;have h1:=hx S w ac he;have h2:=hy S w ac he;simp only[af] at h1 h2
  have h3:=hz S w ac he;obtain⟨F0,_,aj⟩:=hown.get hi;obtain⟨_,es,cl,hh,qO,hv,S7⟩:=aj;have I0:=hK.check a false w;have hf:=B6 (a:=a) hK qO w;have EG:=hK.same a;have hlen:es.size=D.length:=by have:=congrArg List.length qO;simpa using this
  have qN:=m5 a D;cases Ez:(D.map (·.1)).findIdx? (fun k=>decide (k=a)) with
  | none =>
    rw[Ez] at hf qN;simp only[oq,Option.bind_none] at hf;refine fN.ES (v:=undef) (ob:= .map (es.push {key:=kenc a,val:=ac.eval z,born:=cl}) (cl+1)) (h1:=iD m kenc vq (ew D a v)) ax hown hi (fun F1 S w h=>h.1) (.inr ⟨?_,rfl⟩) (fun F1 hp=>?_) (fun w' hS hag hO=>hk () _ _ S F trivial hS (fun _ h=>h) hag hO rfl)
    · simp[execOp,h1,h2,Instr.mapUpdate,run_underlying hT,getObj,setObj,Sem.run,hh,I0,hf,iz]
    · refine⟨hp.1,es.push {key:=kenc a,val:=ac.eval z,born:=cl},cl+1,by simp[iz,(Array.getElem?_eq_some_iff.1 hh).1],?_,fun j p hj=>?_,S7.push _ rfl⟩
      · unfold ew;rw[Ez];simp[qO]
      · have NW:ew D a v=D++[(a,v)]:=by unfold ew;rw[Ez]
        have hag:∀k,S k→(iz w m (.map (es.push {key:=kenc a,val:=ac.eval z,born:=cl}) (cl+1))).heap[k]?=w.heap[k]?:=fun k hk=>by
          have hkm:k≠m:=fun e=>by
            obtain⟨F1',F2',f1,_,f3,_⟩:=hown.ue hi;exact ax.cR k hk (e▸(f1 m f3.1).1)
          simp[iz,Array.getElem?_setIfInBounds_ne (fun e=>hkm e.symm)]
        rw[NW] at hj;rcases Nat.lt_or_ge j D.length with h|h
        · rw[List.getElem?_append_left h] at hj
          obtain⟨e,HA,hq⟩:=hv j p hj;exact⟨e,by rw[Array.getElem?_push_lt (by omega)];rw[←HA];exact(Array.getElem?_eq_getElem (by omega)).symm,(vq p.2).mono (fun _ h=>h) hag hq⟩
        · rw[List.getElem?_append_right h] at hj
          have hj0:j=D.length:=by
            have:=(List.getElem?_eq_some_iff.1 hj).1;simp at this;omega
          subst hj0;simp at hj;subst hj
          exact⟨{key:=kenc a,val:=ac.eval z,born:=cl},by rw[←hlen];simp,(vq v).mono (fun _ h=>h) hag h3⟩
  | some j=>
    rw[Ez] at hf qN;obtain⟨v0,hj,hl⟩:=qN;obtain⟨e,HA,HB⟩:=hv j _ hj;have he':es.toList[j]?=some e:=by simpa using HA
    have hjs:j<es.size:=(Array.getElem?_eq_some_iff.1 HA).1
    have QE:e.key=kenc a:=by
      have:=congrArg (fun l=>l[j]?) qO;simp only[List.getElem?_map,he',hj,Option.map_some,Option.some.injEq] at this;exact this
    simp only[oq,Option.bind_some,he',Option.map_some] at hf;have NW:ew D a v=D.set j (a,v):=by unfold ew;rw[Ez]
    refine fN.ES (v:=undef) (ob:= .map (es.modify j fun e=>{e with key:=kenc a,val:=ac.eval z}) cl) (h1:=iD m kenc vq (ew D a v)) ax hown hi (fun F1 S w h=>h.1) (.inr ⟨?_,rfl⟩) (fun F1 hp=>?_) (fun w' hS hag hO=>hk () _ _ S F trivial hS (fun _ h=>h) hag hO rfl)
    · simp[execOp,h1,h2,Instr.mapUpdate,run_underlying hT,getObj,setObj,Sem.run,hh,I0,hf,iz,HA,QE,Instr.keyThatStays,EG]
    · have hag:∀k,S k→(iz w m (.map (es.modify j fun e=>{e with key:=kenc a,val:=ac.eval z}) cl)).heap[k]?=w.heap[k]?:=fun k hk=>by
        have hkm:k≠m:=fun e=>by
          obtain⟨F1',F2',f1,_,f3,_⟩:=hown.ue hi;exact ax.cR k hk (e▸(f1 m f3.1).1)
        simp[iz,Array.getElem?_setIfInBounds_ne (fun e=>hkm e.symm)]
      refine⟨hp.1,es.modify j fun e=>{e with key:=kenc a,val:=ac.eval z},cl,by simp[iz,(Array.getElem?_eq_some_iff.1 hh).1],?_,fun t p ht=>?_,S7.same (List.ext_getElem? fun t=>?_)⟩
      · rw[NW]
        apply List.ext_getElem?;intro t;have:=congrArg (fun l=>l[t]?) qO;simp only[List.getElem?_map] at this ⊢;simp only[Array.getElem?_toList,Array.getElem?_modify,List.getElem?_set] at this ⊢;by_cases rY:j=t
        · subst rY
          rw[if_pos rfl,if_pos rfl,HA];have:j<D.length:=by omega
          simp[this]
        · rw[if_neg rY,if_neg rY];exact this
      · rw[NW,List.getElem?_set] at ht
        by_cases rY:j=t
        · subst rY
          rw[if_pos rfl,if_pos (by omega)] at ht;cases ht;exact⟨_,by rw[Array.getElem?_modify,if_pos rfl,HA];rfl,(vq v).mono (fun _ h=>h) hag h3⟩
        · rw[if_neg rY] at ht
          obtain⟨e2,KQ,QB⟩:=hv t p ht;exact⟨e2,by rw[Array.getElem?_modify,if_neg rY];exact KQ,(vq p.2).mono (fun _ h=>h) hag QB⟩
      · simp only[List.getElem?_map,Array.getElem?_toList,Array.getElem?_modify]
        by_cases rY:j=t
        · subst rY;rw[if_pos rfl,HA];rfl
        · rw[if_neg rY]
theorem S8{κ ν:Type}[DecidableEq κ]{kenc:κ→Value}{vq:ν→VP}{D:List (κ×ν)}{m i:Nat}{a:κ}{ats:Array TypeId}(ug:ats[0]?=some T)(hK:q6 P K kenc)(hT:P.underlying T=some (.map K V))
    (hx:aU env x (af (.map (some m)))) (hy:aU env y (af (kenc a))) (hi:hs[i]?=some (iD m kenc vq D)):
    fN P hs env ⟨dst, .call ⟨.builtin .delete, #[x,y],ats⟩,ty,pos,after,gd⟩ (γ:=Unit) (fun _=>True) (fun _=>hs.set i (iD m kenc vq (B5 D a))) (fun _=>aS []):=by
  intro c ac w S F ax hown he Kp Q hk;have h1:=hx S w ac he;have h2:=hy S w ac he;simp only[af] at h1 h2
  obtain⟨F0,_,aj⟩:=hown.get hi;obtain⟨_,es,cl,hh,qO,hv,S7⟩:=aj;have I0:=hK.check a es.isEmpty w;have hf:=B6 (a:=a) hK qO w;have hlen:es.size=D.length:=by have:=congrArg List.length qO;simpa using this
  have qN:=m5 a D;have aP0:(aS []).p S w (.tuple #[]):=⟨#[],rfl,rfl,fun j p v hj=>by simp at hj⟩;have PK:∀w',(aS []).p S w' (.tuple #[]):=fun w'=>⟨#[],rfl,rfl,fun j p v hj=>by simp at hj⟩
  have S9:∀(ob:Obj) k,S k→(iz w m ob).heap[k]?=w.heap[k]?:=fun ob k hk=>by
    have hkm:k≠m:=fun e=>by
      obtain⟨F1',F2',f1,_,f3,_⟩:=hown.ue hi;exact ax.cR k hk (e▸(f1 m f3.1).1)
    simp[iz,Array.getElem?_setIfInBounds_ne (fun e=>hkm e.symm)]
  have hms:m<w.heap.size:=(Array.getElem?_eq_some_iff.1 hh).1;cases Ez:(D.map (·.1)).findIdx? (fun k=>decide (k=a)) with
  | none=>
    rw[Ez] at hf qN;simp only[oq,Option.bind_none] at hf;have NW:B5 D a=D:=by unfold B5;rw[Ez]
    refine fN.ES (v:= .tuple #[]) (ob:= .map es cl) (h1:=iD m kenc vq (B5 D a)) ax hown hi (fun F1 S w h=>h.1) (.inl ?_) (fun F1 hp=>?_) (fun w' hS hag hO=>hk () _ _ S F trivial hS (fun _ h=>h) hag hO (PK _))
    · simp[execOp,resolve,invoke,builtin,Builtin.delete_,ug,h1,h2,run_underlying hT,getObj,setObj,Sem.run,hh,I0,hf,iz]
    · rw[NW]
      exact⟨hp.1,es,cl,by simp[iz,hms],qO,fun j p hj=>let ⟨e,HA,hq⟩:=hv j p hj;⟨e,HA,(vq p.2).mono (fun _ h=>h) (S9 _) hq⟩,S7⟩
  | some j=>
    rw[Ez] at hf qN;obtain⟨v0,hj,hl⟩:=qN;obtain⟨e,HA,HB⟩:=hv j _ hj;have he':es.toList[j]?=some e:=by simpa using HA
    have hjs:j<es.size:=(Array.getElem?_eq_some_iff.1 HA).1;simp only[oq,Option.bind_some,he',Option.map_some] at hf;have NW:B5 D a=D.eraseIdx j:=by unfold B5;rw[Ez]
    refine fN.ES (v:= .tuple #[]) (ob:= .map (es.eraseIdxIfInBounds j) cl) (h1:=iD m kenc vq (B5 D a)) ax hown hi (fun F1 S w h=>h.1) (.inl ?_) (fun F1 hp=>?_) (fun w' hS hag hO=>hk () _ _ S F trivial hS (fun _ h=>h) hag hO (PK _))
    · simp[execOp,resolve,invoke,builtin,Builtin.delete_,ug,h1,h2,run_underlying hT,getObj,setObj,Sem.run,hh,I0,hf,iz]
    · have hel:(es.eraseIdxIfInBounds j).toList=es.toList.eraseIdx j:=by
        unfold Array.eraseIdxIfInBounds;rw[dif_pos hjs];simp
      refine⟨hp.1,es.eraseIdxIfInBounds j,cl,by simp[iz,hms],?_,fun t p ht=>?_,S7.sub (by rw[hel];exact List.eraseIdx_sublist _ _)⟩
      · rw[NW,hel]
        have hme:∀{α β:Type} (g:α→β) (l:List α) (i:Nat),(l.eraseIdx i).map g=(l.map g).eraseIdx i:=fun g l i=>by
          apply List.ext_getElem?;intro t;simp only[List.getElem?_map,List.getElem?_eraseIdx]
          split<;>rfl
        rw[hme,hme,qO]
      · rw[NW,List.getElem?_eraseIdx] at ht
        have key:∀t',D[t']?=some p→(es.eraseIdxIfInBounds j)[t]?=es[t']?→∃e,(es.eraseIdxIfInBounds j)[t]?=some e∧(vq p.2).p S (iz w m (.map (es.eraseIdxIfInBounds j) cl)) e.val:=fun t' hD KQ=>by
          obtain⟨e2,Xx,QB⟩:=hv t' p hD;exact⟨e2,KQ.trans Xx,(vq p.2).mono (fun _ h=>h) (S9 _) QB⟩
        have I1:(es.eraseIdxIfInBounds j)[t]?=if t<j then es[t]? else es[t+1]?:=by
          rw[←Array.getElem?_toList,hel,List.getElem?_eraseIdx];simp
        by_cases rY:t<j
        · rw[if_pos rY] at ht I1;exact key t ht I1
        · rw[if_neg rY] at ht I1;exact key (t+1) ht I1
end
section
variable {P:Program} {hs:List HP} {env:Env} {q:VP} {dst:Option Tmp} {ty T T' T2 E:TypeId} {pos:String} {after:Array Edge} {gd:Option (Nat×Bool)} {x y z:Operand}
def sq(l:List UInt8):List Value:=l.map fun b=> .int .u8 (b.toNat:Int)
def m6(b:Nat)(l:List UInt8):HP:=
 ⟨fun F S w=>F b∧∃T:TypeId,w.heap[b]?=some (.cells (sq l).toArray T (0,0)),fun h1 h2 h3 h4 ⟨hF,T,hh⟩=>⟨h1 b hF,T,(h3 b hF).trans hh⟩⟩
def oW(b off len:Nat):VP:=⟨fun _ _ v=>∃o cap,v= .slice (some ⟨b,o,none⟩) len cap∧(len=0∨o=off)∧len≤cap∧cap≤281474976710656,fun _ _ h=>h⟩
instance (b off len:Nat):Flat (oW b off len):=⟨fun⟨_,_,h,_⟩=>by subst h;exact⟨rfl,rfl⟩⟩
theorem vk{l:List UInt8}{j:Nat}:(sq l)[j]?=(l[j]?).map fun b=> .int .u8 (b.toNat:Int):=by simp[sq]
theorem NX(l:List UInt8):(sq l).length=l.length:=by simp[sq]
theorem B7{n:Nat}{w:World}{ρ:Operand→Value}(hT:P.underlying T=some (.slice E))(hn:P.cellsOf E=1)(hb:P.bytesOf E=1)(hz:jd P E=some [.int .u8 0])(hv:ρ x= .int .i64 (n:Int))(hle:n≤281474976710656):
    (execOp ρ ⟨dst, .makeSlice T x x,ty,pos,after,gd⟩).run P w= .ok (.value (.slice (some ⟨w.heap.size,0,none⟩) n n)) {w with heap:=w.heap.push (.cells (sq (List.replicate n 0)).toArray E)}:=by
  obtain⟨info,hi1,hi2⟩:=ep hn rfl w;obtain⟨zv,Hr,x4⟩:=gI hz w;have qP:=run_sizeOf hn rfl w;have hw:IntKind.i64.wrap (n:Int)=(n:Int):=eu (cG (by omega) (by omega));have hbytes:info.bytes=1:=hi2.trans hb
  have hcells:(Array.range (n*1)).map (fun t=>zv.cells[t%zv.cells.size]!)=(sq (List.replicate n 0)).toArray:=by
    rw[x4];apply Array.ext
    · simp[sq]
    · intro j h1 h2
      simp[sq,Nat.mod_one]
  have PL:¬((n:Int)<0):=by omega
  have Aa:¬((281474976710656:Int)<(n:Int)):=by omega
  have hroom:∀m:Nat,(askRoom m).run P w= .ok () w:=fun m=>by unfold askRoom;split<;>simp[mark,Sem.run]
  by_cases h0:n=0
  · subst h0
    have hw0:IntKind.i64.wrap 0=0:=hw;have Xy:Array.map (fun _:Nat=>(default:Value)) (Array.range 0)=(sq []).toArray:=by apply Array.ext<;>simp[sq]
    simp[execOp,Instr.makeSlice,run_underlying hT,asInt,asIntOf,hv,hi1,hw0,qP,newRow];exact congrArg (fun r=>w.alloc (.cells r E)) Xy
  · simp[execOp,Instr.makeSlice,run_underlying hT,asInt,asIntOf,hv,hi1,hbytes,hw,PL,Aa,hroom,qP,h0,Hr,newRow]
    rw[Nat.mul_one] at hcells;exact congrArg (fun r=>w.alloc (.cells r E)) hcells
theorem I2{n:Nat}{i:Int}(hT:P.underlying T=some (.slice E))(hn:P.cellsOf E=1)(hb:P.bytesOf E=1)(hz:jd P E=some [.int .u8 0])(hx:aU env x (aa .i64 i))(hi:i=(n:Int))(hle:n≤281474976710656):
    fN P hs env ⟨dst, .makeSlice T x x,ty,pos,after,gd⟩ (γ:=Nat) (fun _=>True) (fun b=>m6 b (List.replicate n 0)::hs) (fun b=>oW b 0 n):=by
  intro c a w S F ax hown he K Q hk;have hv:=hx S w a he;simp only[af] at hv
  subst hi;have hr:=B7 (dst:=dst) (ty:=ty) (pos:=pos) (after:=after) (gd:=gd) (w:=w) hT hn hb hz hv hle;unfold Oper.wp;rw[hr];exact hk w.heap.size _ _ S _ trivial (ax.eL _) (fun _ h=>h) (fun k hk=>bL w _ k (ax.bD k hk)) (hown.eL ax.bD ax.bO _ ⟨rfl,E,by simp⟩) ⟨0,n,rfl, .inr rfl,Nat.le_refl _,hle⟩
theorem oX{b off len:Nat}{ats:Array TypeId}(ug:ats[0]?=some T)(hT:P.underlying T=some (.slice E))(hx:aU env x (oW b off len)):aT P hs env ⟨dst, .call ⟨.builtin .len, #[x],ats⟩,ty,pos,after,gd⟩ (aa .i64 (len:Int)):=
 aT.aD fun ρ w S F _ he=>by
  obtain⟨o,cap,hv,_⟩:=he.o _ _ hx;exact⟨.int .i64 (len:Int),by simp[execOp,resolve,invoke,builtin,Builtin.len_,ug,hv,run_underlying hT,goInt],rfl⟩
theorem vT{b off len:Nat}{k k':IntKind}{i i':Int}{l h:Nat}(hT:P.underlying T=some (.slice E))(hn:P.cellsOf E=1)(hx:aU env x (oW b off len))(hy:aU env y (aa k i))(hz:aU env z (aa k' i'))
    (hi:i=(l:Int)) (hi':i'=(h:Int)) (hlh:l≤h) (hh:h≤len):aT P hs env ⟨dst, .slice T x (some y) (some z) none,ty,pos,after,gd⟩ (oW b (off+l) (h-l)):=
  aT.aD fun ρ w S F _ he=>by
    obtain⟨o,cap,hv,h1,h2,h3⟩:=he.o _ _ hx;have h4:=he.o _ _ hy;simp only[af] at h4
    have h5:=he.o _ _ hz;simp only[af] at h5
    subst hi;subst hi'
    have hs:=run_sizeOf (T:=E) hn rfl w;have hle:h≤cap:=by omega
    have mL:Addr.add ⟨b,o,none⟩ l=⟨b,o+l,none⟩:=by
      unfold Addr.add
      split
      · rename_i h0;simp
      · rfl
    refine⟨.slice (if cap=l then some ⟨b,o,none⟩ else some ⟨b,o+l,none⟩) (h-l) (cap-l),?_,?_⟩
    · simp[execOp,hv,h4,h5,Instr.sliceAt,Instr.slice,Instr.sliceBounds,Instr.sliceBound,asIntOf,run_underlying hT,hs,hle,hlh,mL]
    · by_cases Ab:cap=l
      · exact⟨o,cap-l,by rw[if_pos Ab], .inl (by omega),by omega,by omega⟩
      · exact⟨o+l,cap-l,by rw[if_neg Ab],by omega,by omega,by omega⟩
theorem Aj(d:Nat)(a:Option Addr)(l c:Nat){w:World}(h:P.underlying T=some (.slice E)):(Op.equalIn (d+1) T (.slice a l c) (.slice none 0 0)).run P w= .ok a.isNone w:=by
 cases a<;>simp[Op.equalIn,run_underlying h]
theorem fN.HC{o:Oper}{c:Ctx}{a:Act}{w w1:World}{S F:BS}(ax:ir c w S F)(hown:cT hs F S w){m i:Nat}{h0 h1:HP}(hi:hs[i]?=some h0)(hF:∀F1 S w,h0.p F1 S w→F1 m){v:Value}{Kp:Act→World→Prop}{Q:Exit→Act→World→Prop}
    (hr:(execOp a.eval o).run P w= .ok (.value v) w1) (e1:w1.os=w.os) (e2:w1.tape=w.tape) (e3:w1.output=w.output) (e4:w1.heap.size=w.heap.size) (hne:∀k',k'≠m→w1.heap[k']?=w.heap[k']?) (hp:∀F1,h0.p F1 S w→h1.p F1 S w1)
    (hk:ir c w1 S F→(∀k,S k→w1.heap[k]?=w.heap[k]?)→cT (hs.set i h1) F S w1→Kp (a.put o.dst v) w1):o.wp P a w Kp Q:=by
  obtain⟨F1,F2,f1,f2,f3,_,f4⟩:=hown.ue hi;have hFm:=hF F1 S w f3;have hag:∀k',S k'→w1.heap[k']?=w.heap[k']?:=fun k' hk'=>hne k' (fun e=>ax.cR k' hk' (e▸(f1 m hFm).1))
  have hO:cT (hs.set i h1) F S w1:=by
    have:=f4 S F1 w1 h1 (fun k hk=>(f1 k hk).2) (fun _ h=>h) (fun k hk=>hne k (fun e=>(f1 m hFm).2 (e▸hk))) hag (hp F1 f3);exact this.mono (fun k hk=>hk.elim (fun h=>(f1 k h).1) (f2 k)) (fun _ h=>h) (fun _ _=>rfl) (fun _ _=>rfl)
  have hS:ir c w1 S F:=ax.write (f1 m hFm).1 e1 e2 e3 e4 hne;unfold Oper.wp;rw[hr];exact hk hS hag hO
theorem NY{l:List UInt8}:∀v∈sq l,v.oneCell'=true:=fun v hv=>by
 obtain⟨b,_,rfl⟩:=List.mem_map.1 hv;rfl
theorem ET{l ys:List UInt8}{off:Nat}(h:off+ys.length≤l.length){arr:Array Value}(hs:arr.size=(sq l).toArray.size)(h1:∀j,(j<off∨off+ys.length≤j)→arr[j]?=(sq l).toArray[j]?)(h2:∀j v,(sq ys)[j]?=some v→arr[off+j]?=some v):
    arr=(sq (l.take off++ys++l.drop (off+ys.length))).toArray:=by
  have hz:arr.size=l.length:=by simpa[sq] using hs
  apply Array.ext_getElem?;intro j;simp only[List.getElem?_toArray,vk] at h1 ⊢;rcases Nat.lt_or_ge j off with h3|h3
  · rw[h1 j (.inl h3),List.append_assoc,List.getElem?_append_left (by simp;omega),List.getElem?_take,if_pos h3]
  · rcases Nat.lt_or_ge j (off+ys.length) with h4|h4
    · have h5:ys[j-off]?=some (ys[j-off]'(by omega)):=List.getElem?_eq_getElem (by omega)
      have:=h2 (j-off) _ (by rw[vk,h5];rfl);rw[show off+(j-off)=j by omega] at this;have hto:(List.take off l).length=off:=by simp;omega
      rw[this,List.append_assoc,List.getElem?_append_right (by omega),List.getElem?_append_left (by omega),hto,h5];rfl
    · rw[h1 j (.inr h4),List.getElem?_append_right (by simp;omega),List.getElem?_drop]
      congr 2
      simp only[List.length_append,List.length_take];omega
theorem EU{b off o i:Nat}{l ys:List UInt8}{vs:List Value}{op:Oper}{c:Ctx}{a:Act}{w:World}{S F:BS}(ax:ir c w S F)(hown:cT hs F S w)(hi:hs[i]?=some (m6 b l))(hvs:vs=sq ys)(ho:ys.length=0∨o=off)(hl:off+ys.length≤l.length){v:Value}{Kp:Act→World→Prop}{Q:Exit→Act→World→Prop}
    (hr:∀w1,(storeCells ⟨b,o,none⟩ vs 0).run P w= .ok () w1→(execOp a.eval op).run P w= .ok (.value v) w1)
    (hk:∀w1,ir c w1 S F→(∀k,S k→w1.heap[k]?=w.heap[k]?)→cT (hs.set i (m6 b (l.take off++ys++l.drop (off+ys.length)))) F S w1→Kp (a.put op.dst v) w1):op.wp P a w Kp Q:=by
  subst hvs;obtain⟨F1,_,hp⟩:=hown.get hi;obtain⟨_,T,hb⟩:=hp;rcases ho with h0|h0
  · have hy:ys=[]:=List.length_eq_zero_iff.1 h0
    subst hy;refine fN.HC (m:=b) (h1:=m6 b (l.take off++[]++l.drop (off+[].length))) ax hown hi (fun F1 S w h=>h.1) (hr w (by simp[sq,storeCells])) rfl rfl rfl rfl (fun _ _=>rfl) (fun F1 h=>?_) (hk w);simp only[List.length_nil,Nat.add_zero,List.append_nil,List.take_append_drop];exact h
  · subst h0
    obtain⟨w',arr',h1,h2,h3,h4,h5,h6,h7,h8,h9,h10⟩:=jg (P:=P) (b:=b) (off:=o) (T:=T) (sq ys) 0 w _ NY hb (by simpa[sq] using hl);refine fN.HC (m:=b) (h1:=m6 b (l.take o++ys++l.drop (o+ys.length))) ax hown hi (fun F1 S w h=>h.1) (hr w' h1) h2 h3 h4 h5 h6 (fun F1 h=>⟨h.1,T,?_⟩) (hk w');rw[h7,ET hl h8 (fun j hj=>h9 j (by simpa[NX] using hj)) (fun j v hj=>by simpa using h10 j v hj)]
theorem EV{b off len i:Nat}{l:List UInt8}{ats:Array TypeId}(ug:ats[0]?=some T)(hT:P.underlying T=some (.slice E))(hn:P.cellsOf E=1)(hz:jd P E=some [.int .u8 0])(hx:aU env x (oW b off len))(hi:hs[i]?=some (m6 b l))(hl:off+len≤l.length):
    fN P hs env ⟨dst, .call ⟨.builtin .clear, #[x],ats⟩,ty,pos,after,gd⟩ (γ:=Unit) (fun _=>True) (fun _=>hs.set i (m6 b (l.take off++List.replicate len 0++l.drop (off+len)))) (fun _=>aS []):=by
  intro c a w S F ax hown he Kp Q hk;obtain⟨o,cap,hv,h1,h2,h3⟩:=hx S w a he;obtain⟨zv,Hr,x4⟩:=gI hz w
  have hzc:(Builtin.zeroCells zv.cells len).toList=sq (List.replicate len 0):=by
    apply List.ext_getElem
    · simp[sq,Builtin.zeroCells,x4]
    · intro j _ _
      simp[sq,Builtin.zeroCells,x4,Nat.mod_one]
  have hlr:(List.replicate len (0:UInt8)).length=len:=by simp
  have:=EU (P:=P) (ys:=List.replicate len 0) (vs:=sq (List.replicate len 0)) (o:=o) (off:=off) (op:=⟨dst, .call ⟨.builtin .clear, #[x],ats⟩,ty,pos,after,gd⟩) (a:=a) (v:= .tuple #[]) (Kp:=Kp) (Q:=Q) ax hown hi rfl (by rw[hlr];exact h1) (by rw[hlr];exact hl) (fun w1 hw1=>?_) (fun w1 hS hag hO=>hk () (.tuple #[]) w1 S F trivial hS (fun _ h=>h) hag (by rw[hlr] at hO;exact hO) ⟨#[],rfl,rfl,fun j p v hj=>by simp at hj⟩)
  · exact this
  · by_cases h0:len=0
    · subst h0
      simp[sq,storeCells] at hw1;subst hw1;simp[execOp,resolve,invoke,builtin,Builtin.clear_,ug,hv,run_underlying hT]
    · obtain⟨n,rfl⟩:∃n,len=n+1:=⟨len-1,by omega⟩
      simp[execOp,resolve,invoke,builtin,Builtin.clear_,ug,hv,run_underlying hT,Hr];simp only[hzc,hw1,Result.andThen_ok]
abbrev cP:=Int×Int
def EW(k0 k1:IntKind)(a:cP):Value:= .agg #[.int k0 a.1, .int k1 a.2]
abbrev y4:=EW .i64 .i64
theorem q6.pair{K:TypeId}{f0 f1:Field}{k0 k1:IntKind}(h:P.underlying K=some (.struct #[f0,f1]))(hst:P.stoodInHeld K=false)(n0:f0.name≠"_")(n1:f1.name≠"_")(o0:f0.offset=0)(o1:f1.offset=1)
    (t0:P.underlying f0.type=some (.int k0)) (t1:P.underlying f1.type=some (.int k1)):q6 P K (EW k0 k1) where
  check a e w:=by
    have c0:∀(x:Int) (n:Nat),(Instr.checkKey e (n+1) f0.type (.int k0 x)).run P w= .ok () w:=fun x n=>by unfold Instr.checkKey;rw[bh (run_underlying t0 w)];rfl
    have c1:∀(x:Int) (n:Nat),(Instr.checkKey e (n+1) f1.type (.int k1 x)).run P w= .ok () w:=fun x n=>by unfold Instr.checkKey;rw[bh (run_underlying t1 w)];rfl
    have a0:jc P f0.type=some false:=by unfold jc;rw[t0];rfl
    have a1:jc P f1.type=some false:=by unfold jc;rw[t1];rfl
    have p0:(part f0.type #[.int k0 a.1, .int k1 a.2] f0.offset).run P w= .ok (.int k0 a.1) w:=by unfold part;rw[bh (dz a0 w)];simp[o0]
    have p1:(part f1.type #[.int k0 a.1, .int k1 a.2] f1.offset).run P w= .ok (.int k1 a.2) w:=by unfold part;rw[bh (dz a1 w)];simp[o1]
    unfold Instr.checkKey EW;rw[bh (run_underlying h w)];simp[n0,n1,p0,p1,c0,c1]
  same a:=by simp[EW,Instr.sameBits]
  find a es ks w hk:=by
    have hf:P.fieldsOf K= #[f0,f1]:=by simp[Program.fieldsOf,h]
    have a0:jc P f0.type=some false:=by unfold jc;rw[t0];rfl
    have a1:jc P f1.type=some false:=by unfold jc;rw[t1];rfl
    have p0:∀b:cP,(part f0.type #[.int k0 b.1, .int k1 b.2] f0.offset).run P w= .ok (.int k0 b.1) w:=fun b=>by unfold part;rw[bh (dz a0 w)];simp[o0]
    have p1:∀b:cP,(part f1.type #[.int k0 b.1, .int k1 b.2] f1.offset).run P w= .ok (.int k1 b.2) w:=fun b=>by unfold part;rw[bh (dz a1 w)];simp[o1]
    have heq:∀b:cP,(Op.equal K (EW k0 k1 a) (EW k0 k1 b)).run P w= .ok (decide (b=a)) w:=fun b=>by
      have e1:=run_equalIn_struct (P:=P) w 9999 K #[.int k0 a.1, .int k1 a.2] #[.int k0 b.1, .int k1 b.2] (by rw[hf];exact h) hst;rw[hf] at e1;refine e1.trans ?_;have q0:=run_equalIn_int (P:=P) w 9998 f0.type k0 k0 a.1 b.1 t0;have q1:=run_equalIn_int (P:=P) w 9998 f1.type k1 k1 a.2 b.2 t1;obtain⟨a1,a2⟩:=a;obtain⟨b1,b2⟩:=b;have p0a:=p0 (a1,a2);have p0b:=p0 (b1,b2);have p1a:=p1 (a1,a2);have p1b:=p1 (b1,b2)
      simp only at p0a p0b p1a p1b q0 q1;simp[Op.eqFields,n0,n1,p0a,p0b,p1a,p1b,q0,q1];by_cases h1:a1=b1<;>by_cases h2:a2=b2<;>simp[h1,h2]<;>omega
    have key:∀(es:List MapEntry) (ks:List cP) (i:Nat),es.map (·.key)=ks.map (EW k0 k1)→(Instr.findAsking K (EW k0 k1 a) es i).run P w= .ok ((ks.findIdx? fun b=>decide (b=a)).bind fun j=>(es[j]?).map fun e=>(i+j,e.val)) w:=by
      intro es
      induction es with
      | nil=>intro ks i hk;cases ks with
        |nil=>rfl
        |cons b ks=>simp at hk
      | cons e es ih=>
        intro ks i hk;cases ks with
        |nil=>simp at hk
        | cons b ks=>
          simp only[List.map_cons,List.cons.injEq] at hk;unfold Instr.findAsking;rw[hk.1,bh (heq b)];by_cases hab:b=a
          · subst hab;simp[List.findIdx?_cons]
          · simp only[hab,decide_false,Bool.false_eq_true,if_false,ih ks (i+1) hk.2,List.findIdx?_cons]
            cases ks.findIdx? (fun b=>decide (b=a)) with
            |none=>rfl
            |some j=>simp[Nat.add_assoc,Nat.add_comm 1 j]
    have Xz:Instr.findNow (.struct #[f0,f1]) (EW k0 k1 a) es 0=none∨es=[]:=by
      cases es with
      |nil=>exact .inr rfl
      | cons e es=>
        cases ks with
        |nil=>simp at hk
        | cons b ks=>
          simp only[List.map_cons,List.cons.injEq] at hk;exact .inl (by unfold Instr.findNow;rw[hk.1];rfl)
    have h0:=key es ks 0 hk;simp only[Instr.findKey,bh (run_underlying h w)];rcases Xz with h1|h1
    · rw[h1];simp only[h0];simp[oq]
    · subst h1
      cases ks with
      |nil=>rfl
      |cons b ks=>simp at hk
end
end Go.Hl
end
