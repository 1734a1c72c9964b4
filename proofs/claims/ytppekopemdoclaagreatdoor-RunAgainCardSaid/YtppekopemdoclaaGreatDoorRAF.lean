/-
  Parts of the proof.
-/
import Derived.Test.YtppekopemdoclaaGreatDoorRAE
import Derived.Lib.Bytealg
set_option linter.all false
set_option maxRecDepth 1000000
set_option maxHeartbeats 4000000
section
namespace Go.Hl
open Go.RowKit
section
variable {P:Program} {hs:List HP} {env:Env} {q:VP} {dst:Option Tmp} {ty T T' E:TypeId} {pos:String} {after:Array Edge} {gd:Option (Nat×Bool)} {x y z:Operand} {k k':IntKind} {l:List UInt8}
theorem uL(l:List UInt8)(i j:Nat)(hij:i<=j)(hj:j<=l.length):(ByteArray.mk l.toArray).extract i j=⟨((l.take j).drop i).toArray⟩:=by
 apply ByteArray.ext;rw[ByteArray.data_extract];apply Array.toList_inj.1;simp[List.take_drop,show i+(j-i)=j by omega]
theorem Aj(l:List UInt8):(ByteArray.mk l.toArray).size=l.length:=by show l.toArray.size=_;simp
theorem u7{i:Int}{h:Nat}(hT:P.underlying T=some .string)(hx:bA env x (dV l))(hy:bA env y (af k i))(hi:i=(h:Int))(hh:h<=l.length):
    bw P hs env ⟨dst, .slice T x none (some y) none,ty,pos,after,gd⟩ (dV (l.take h)):=
  bw.aM λρ w S F _ he=>by
    obtain⟨hv,hm⟩:=he.o _ _ hx;have h2:=he.o _ _ hy;simp only[ag] at h2
    subst hi;have hs:=Aj l;have he:=uL l 0 h (by omega) hh;simp only[List.drop_zero] at he;refine⟨.string ⟨(l.take h).toArray⟩,?_,rfl,by simp;omega⟩;simp[execOp,hv,h2,Instr.sliceAt,Instr.slice,Instr.sliceBounds,Instr.sliceBound,asIntOf,run_underlying hT,hs,hh,he,-ByteArray.size_data,-List.extract_toArray]
theorem Ak{i:Int}{h:Nat}(hT:P.underlying T=some .string)(hx:bA env x (dV l))(hy:bA env y (af k i))(hi:i=(h:Int))(hh:h<=l.length):
    bw P hs env ⟨dst, .slice T x (some y) none none,ty,pos,after,gd⟩ (dV (l.drop h)):=
  bw.aM λρ w S F _ he=>by
    obtain⟨hv,hm⟩:=he.o _ _ hx;have h2:=he.o _ _ hy;simp only[ag] at h2
    subst hi;have hs:=Aj l;have he:=uL l h l.length (by omega) (by omega);rw[List.take_length] at he;refine⟨.string ⟨(l.drop h).toArray⟩,?_,rfl,by simp;omega⟩;simp[execOp,hv,h2,Instr.sliceAt,Instr.slice,Instr.sliceBounds,Instr.sliceBound,asIntOf,run_underlying hT,hs,hh,he,-ByteArray.size_data,-List.extract_toArray]
theorem Uu{f:FuncId}{xs:List Operand}{ats:Array TypeId}{ps:List VP}(hx:kU env xs ps)(hr:∀S w vs,hU ps S w vs->∃v,(callFunc f vs.toArray).run P w= .ok (.value v) w/\q.p S w v):
    bw P hs env ⟨dst, .call ⟨.value (.func f),xs.toArray,ats⟩,ty,pos,after,gd⟩ q:=by
  intro a w S F h1 h2 h3 h4 h5 K Q hk;obtain⟨v,hv,hq⟩:=hr S w _ (hx S w a h5);unfold Oper.wp
  have:(execOp a.eval ⟨dst, .call ⟨.value (.func f),xs.toArray,ats⟩,ty,pos,after,gd⟩).run P w= .ok (.value v) w:=by
    have h:=hv;simp[execOp,resolve,Act.eval,Deferred.ofValue,invoke] at h ⊢;exact h
  rw[this];exact hk v w S (gq.refl _ _) hq
def ab8(P:Program)(f:FuncId)(e:Array Value->Sem Value):Prop:=∀args w,(callFunc f args).run P w=((e args).run P w).andThen λv w'=> .ok (.value v) w'
theorem JO{f:FuncId}{xs:List Operand}{ats:Array TypeId}{b:UInt8}(hf:ab8 P f Extern.BytealgIndexByte.indexByte)(hx:kU env xs [dV l,af .u8 (b.toNat:Int)]):
    bw P hs env ⟨dst, .call ⟨.value (.func f),xs.toArray,ats⟩,ty,pos,after,gd⟩ (af .i64 (Lib.indexByte l b)):=
  Uu hx λS w vs h=>by
    obtain⟨h1,h2⟩:=h
    match vs,h1,h2 with
    | [u,v],_,h2=>
      have hu:=(h2 0 _ u rfl rfl).1;have hv:=h2 1 _ v rfl rfl;simp only[ag] at hv
      subst hu;subst hv
      refine⟨_,?_,rfl⟩;rw[hf,Lib.run_indexByteString];simp[Result.andThen]
end
def nr(l s:List UInt8):Prop:=s.length<=l.length/\l.drop (l.length-s.length)=s
def xS(l s:List UInt8):Prop:=s.length<=l.length/\l.take s.length=s
instance (l s:List UInt8):Decidable (nr l s):=inferInstanceAs (Decidable (_/\_))
instance (l s:List UInt8):Decidable (xS l s):=inferInstanceAs (Decidable (_/\_))
def tZ(l s:List UInt8):List UInt8:=if nr l s then l.take (l.length-s.length) else l
def xT(l:List UInt8)(b:UInt8):List UInt8×List UInt8×Bool:=if 0<=Lib.indexByte l b then(l.take (Lib.indexByte l b).toNat,l.drop ((Lib.indexByte l b).toNat+1),true) else(l,[],false)
theorem Ee(l:List UInt8)(b:UInt8):Lib.indexByte l b<l.length:=by
 induction l with
 |nil=>simp[Lib.indexByte]
 |cons x l ih=>
  unfold Lib.indexByte
  split
  · simp only[List.length_cons];omega
  · split
    · simp only[List.length_cons];omega
    · simp only[List.length_cons];omega
section
variable {P:Program} {hs:List HP} {env:Env} {q:VP} {dst:Option Tmp} {ty T T' E:TypeId} {pos:String} {after:Array Edge} {gd:Option (Nat×Bool)} {x y z:Operand}
theorem eV{f:FuncId}{xs:List Operand}{ats:Array TypeId}{ps:List VP}{hs0 rest:List HP}{γ:Type}{φ:γ->Prop}{hs':γ->List HP}{q:γ->VP}(hf:bu P f ps hs0 φ hs' q)(hb:j7 P f=true)(hx:kU env xs ps)(hp:hs.Perm (hs0++rest)):
    gW P hs env ⟨dst, .call ⟨.value (.func f),xs.toArray,ats⟩,ty,pos,after,gd⟩ φ (λg=>hs' g++rest) q:=by
  intro c a w S F aI hown he K Q hk;obtain⟨F1,F2,oU,v7,Dc,JP⟩:=dR.append.1 (hown.perm hp);have N0:∀k,F1 k->k<w.heap.size:=λk hk=>aI.cK k (oU k hk).1;have hSF:∀k,S k->¬F1 k:=λk hk hf=>aI.eg k hk (oU k hf).1;unfold Oper.wp;rw[sB hb];refine(hf w S F1 _ aI.bZ N0 hSF Dc (by simpa using hx S w a he)).mono ?_;rintro e w' ⟨v,S',F1',g,rfl,h2,hφ,oy,hq⟩;have hoS:∀k,S k->w'.heap[k]?=w.heap[k]?:=λk hk=>h2.kept k (aI.bZ k hk) (hSF k hk);have ho2F:∀k,F2 k->¬F1 k:=λk hk hf=>(oU k hf).2 hk;refine hk g v w' S' (λk=>F1' k\/F2 k) hφ ⟨h2.os.trans aI.os,h2.tape.trans aI.tape,h2.output.trans aI.output,Nat.le_trans aI.size h2.size,λk hk hm=>?_,λk hk hf=>?_,h2.bZ,λk hk=>?_,λk hk=>?_,λk hk=>?_,λk hk=>h2.base k (aI.base k hk)⟩ h2.base hoS ?_ hq
  · have hnF:¬F1 k:=λhf=>(aI.own k (oU k hf).1).elim hm (λh=>by omega)
    exact(h2.kept k (Nat.lt_of_lt_of_le hk aI.size) hnF).trans (aI.kept k hk hm)
  · rcases hf with hf|hf
    · exact h2.eg k hk hf
    · rcases h2.shr k hk with h|h|h
      · exact aI.eg k h (v7 k hf)
      · exact(oU k h).2 hf
      · exact Nat.lt_irrefl _ (Nat.lt_of_lt_of_le (aI.cK k (v7 k hf)) h)
  · rcases hk with hk|hk
    · exact h2.cK k hk
    · exact Nat.lt_of_lt_of_le (aI.cK k (v7 k hk)) h2.size
  · rcases hk with hk|hk
    · rcases h2.own k hk with h|h
      · exact aI.own k (oU k h).1
      · exact .inr (Nat.le_trans aI.size h)
    · exact aI.own k (v7 k hk)
  · rcases h2.shr k hk with h|h|h
    · exact aI.shr k h
    · exact .inr (aI.own k (oU k h).1)
    · exact .inr (.inr (Nat.le_trans aI.size h))
  · refine dR.append.2 ⟨F1',F2,λk hk=>⟨.inl hk,λhf=>?_⟩,λk hk=> .inr hk,oy,JP.mono (λ_ h=>h) h2.base (λk hk=>h2.kept k (aI.cK k (v7 k hk)) (ho2F k hk)) hoS⟩
    rcases h2.own k hk with h|h
    · exact(oU k h).2 hf
    · exact Nat.lt_irrefl _ (Nat.lt_of_lt_of_le (aI.cK k (v7 k hf)) h)
theorem aU.lg{Q:Exit->Act->World->Prop}{c:Ctx}{s:Code}{α:Type}{g:SB}{n:Nat}{enc:α->List VP}{xs:List α}(i:Nat)(hi:hs[i]?=some (aH g n enc xs))(hne:xs≠[])
    (h:∀b cap,g=some (b,cap)->aU P Q c s hs env):aU P Q c s hs env:=by
  intro a w hst;obtain⟨h1,h2,S,F,h3,h4,h5⟩:=hst;obtain⟨F1,_,hp⟩:=h4.get hi;cases g with
  |none=>exact absurd hp hne
  |some p=>exact h p.1 p.2 rfl a w ⟨h1,h2,S,F,h3,h4,h5⟩
end
section
variable {P:Program} {hs:List HP} {env:Env} {q:VP} {dst:Option Tmp} {ty T T' K V:TypeId} {pos:String} {after:Array Edge} {gd:Option (Nat×Bool)} {x y z:Operand}
def uM(es:List MapEntry)(i:Option Nat):Option (Nat×Value):=i.bind λi=>(es[i]?).map λe=>(i,e.val)
structure wz(P:Program)(K:TypeId){κ:Type}[DecidableEq κ](kenc:κ->Value):Prop where
 check:∀(a:κ) (e:Bool) (w:World),(Instr.checkKey e 10000 K (kenc a)).run P w= .ok () w
 find:∀(a:κ) (es:List MapEntry) (ks:List κ) (w:World),es.map (·.key)=ks.map kenc->(Instr.findKey K (kenc a) es).run P w= .ok (uM es (ks.findIdx? λk=>decide (k=a))) w
 same:∀a:κ,Instr.sameBits 10000 (kenc a) (kenc a)=true
theorem wz.int{k:IntKind}(h:P.underlying K=some (.int k)):wz P K (Value.int k) where
 check a e w:=by unfold Instr.checkKey;rw[bH (run_underlying h w)];rfl
 same a:=by unfold Instr.sameBits;simp
 find a es ks w hk:=by
  have key:∀(es:List MapEntry) (ks:List Int) (i:Nat),es.map (·.key)=ks.map (Value.int k)->Instr.findNow (.int k) (.int k a) es i=some ((ks.findIdx? λb=>decide (b=a)).bind λj=>(es[j]?).map λe=>(i+j,e.val)):=by
   intro es
   induction es with
   |nil=>intro ks i hk;cases ks with
    |nil=>rfl
    |cons b ks=>simp at hk
   | cons e es ih=>
    intro ks i hk;cases ks with
    |nil=>simp at hk
    |cons b ks=>
     simp only[List.map_cons,List.cons.injEq] at hk;simp only[Instr.findNow,hk.1,Instr.sameNow,if_true];by_cases hab:a=b
     · subst hab;simp[List.findIdx?_cons]
     · have h1:(a==b)=false:=by simpa using hab
       have h2:¬b=a:=λe=>hab e.symm;rw[h1];simp only[ih ks (i+1) hk.2,List.findIdx?_cons,h2,decide_false,if_neg (Bool.false_ne_true)];cases ks.findIdx? (λb=>decide (b=a)) with
       |none=>rfl
       |some j=>simp[Nat.add_assoc,Nat.add_comm 1 j]
  have h0:=key es ks 0 hk;simp only[Instr.findKey,bH (run_underlying h w),h0];simp[uM]
def u9(es:Array MapEntry)(clock:Nat):Prop:=(es.toList.map (·.born)).Nodup/\∀e∈es.toList,e.born<clock
theorem u9.push{es:Array MapEntry}{clock:Nat}(h:u9 es clock)(e:MapEntry)(he:e.born=clock):u9 (es.push e) (clock+1):=by
 obtain⟨h1,h2⟩:=h;refine⟨?_,λx hx=>?_⟩
 · rw[Array.toList_push,List.map_append,List.nodup_append]
   refine⟨h1,by simp,λa ha b hb e1=>?_⟩;obtain⟨x,hx,rfl⟩:=List.mem_map.1 ha;have:=h2 x hx;simp at hb;omega
 · rw[Array.toList_push,List.mem_append] at hx
   rcases hx with hx|hx
   · have:=h2 x hx;omega
   · simp at hx;subst hx;omega
theorem u9.same{es es':Array MapEntry}{clock:Nat}(h:u9 es clock)(he:es'.toList.map (·.born)=es.toList.map (·.born)):u9 es' clock:=
 ⟨he▸h.1,λx hx=>by
  have h3:x.born∈es.toList.map (·.born):=he▸List.mem_map.2 ⟨x,hx,rfl⟩;obtain⟨y,hy,e⟩:=List.mem_map.1 h3;rw[<-e];exact h.2 y hy⟩
def oW{κ ν:Type}[DecidableEq κ](m:Nat)(kenc:κ->Value)(vq:ν->VP)(D:List (κ×ν)):HP:=
 ⟨λF S w=>F m/\∃(es:Array MapEntry) (clock:Nat),w.heap[m]?=some (.map es clock)/\es.toList.map (·.key)=D.map (λp=>kenc p.1)/\(∀(i:Nat) (p:κ×ν),D[i]?=some p->(∃e,es[i]?=some e/\(vq p.2).p S w e.val))/\u9 es clock,
  λh1 h2 h3 h4 ⟨hF,es,cl,hh,hk,hv,hb⟩=>⟨h1 m hF,es,cl,(h3 m hF).trans hh,hk,λi p hp=>let ⟨e,he,hq⟩:=hv i p hp;⟨e,he,(vq p.2).mono h2 h4 hq⟩,hb⟩⟩
theorem o8{κ ν:Type}[DecidableEq κ](kenc:κ->Value)(vq:ν->VP):gW P hs env ⟨dst, .makeMap T none,ty,pos,after,gd⟩ (γ:=Nat) (λ_=>True) (λm=>oW m kenc vq []::hs) (λm=>ag (.map (some m))):=by
 intro c a w S F aI hown he K Q hk
 have hr:(execOp a.eval ⟨dst, .makeMap T none,ty,pos,after,gd⟩).run P w= .ok (.value (.map (some w.heap.size))) {w with heap:=w.heap.push (.map #[] 0)}:=by
  simp[execOp,Instr.makeMap,newObj,Sem.run]
 unfold Oper.wp;rw[hr];exact hk w.heap.size _ _ S _ trivial (aI.gJ _) (λ_ h=>h) (λk hk=>cL w _ k (aI.bZ k hk)) (hown.gJ aI.bZ aI.cK _ ⟨rfl, #[],0,by simp,rfl,λi p h=>(by simp at h),⟨by simp,λe he=>(by simp at he)⟩⟩) rfl
def er{κ ν:Type}[DecidableEq κ](D:List (κ×ν))(a:κ):Option ν:=(D.find? λp=>decide (p.1=a)).map (·.2)
def N1{ν:Type}(vq:ν->VP)(z:VP):Option ν->VP
 |some v=>vq v
 |none=>z
theorem wA{κ ν:Type}[DecidableEq κ](a:κ):∀D:List (κ×ν),match (D.map (·.1)).findIdx? (λk=>decide (k=a)) with
    |none=>er D a=none
    |some i=>∃v,D[i]?=some (a,v)/\er D a=some v
  |[]=>rfl
  | p ::D=>by
    have ih:=wA a D
    have hl:er (p::D) a=if p.1=a then some p.2 else er D a:=by
      unfold er;by_cases h:p.1=a
      · rw[List.find?_cons_of_pos (by simpa using h),if_pos h];rfl
      · rw[List.find?_cons_of_neg (by simpa using h),if_neg h]
    rw[hl,List.map_cons,List.findIdx?_cons];by_cases h:p.1=a
    · rw[if_pos (by simpa using h),if_pos h]
      exact⟨p.2,by rw[<-h];rfl,rfl⟩
    · rw[if_neg (by simpa using h),if_neg h]
      cases hf:(D.map (·.1)).findIdx? (λk=>decide (k=a)) with
      |none=>rw[hf] at ih;exact ih
      |some i=>rw[hf] at ih;simpa using ih
theorem keys_map{κ ν:Type}(kenc:κ->Value)(D:List (κ×ν)):D.map (λp=>kenc p.1)=(D.map (·.1)).map kenc:=by simp
theorem XG{κ ν:Type}[DecidableEq κ]{kenc:κ->Value}{vq:ν->VP}{D:List (κ×ν)}{m i:Nat}{a:κ}{zs:Value}(hK:wz P K kenc)(hT:P.underlying T=some (.map K V))(hz:∀w,(zeroValue V).run P w= .ok zs w)
    (hx:bA env x (ag (.map (some m)))) (hy:bA env y (ag (kenc a))) (hi:hs[i]?=some (oW m kenc vq D)):bw P hs env ⟨dst, .lookup T x y false,ty,pos,after,gd⟩ (N1 vq (ag zs) (er D a)):=
  bw.aM λρ w S F ho he=>by
    have h1:=he.o _ _ hx;have h2:=he.o _ _ hy;simp only[ag] at h1 h2
    obtain⟨F1,_,_,es,cl,hh,hk,hv,_⟩:=ho.get hi;have TU:=hK.check a es.isEmpty w;have hf:=hK.find a es.toList (D.map (·.1)) w (hk.trans (keys_map kenc D));have xJ:=wA a D;cases Mv:(D.map (·.1)).findIdx? (λk=>decide (k=a)) with
    | none=>
      rw[Mv] at hf xJ;refine⟨zs,?_,by rw[xJ];rfl⟩;simp only[uM,Option.bind_none] at hf;simp[execOp,h1,h2,Instr.lookup,run_underlying hT,getObj,Sem.run,hh,TU,hf,hz w]
    | some j=>
      rw[Mv] at hf xJ;obtain⟨v,hj,hl⟩:=xJ;obtain⟨e,he,hq⟩:=hv j _ hj;refine⟨e.val,?_,by rw[hl];exact hq⟩;have he':es.toList[j]?=some e:=by simpa using he
      simp only[uM,Option.bind_some,he',Option.map_some] at hf;simp[execOp,h1,h2,Instr.lookup,run_underlying hT,getObj,Sem.run,hh,TU,hf]
theorem Gx{κ ν:Type}[DecidableEq κ]{kenc:κ->Value}{vq:ν->VP}{D:List (κ×ν)}{m i:Nat}{a:κ}{zs:Value}(hK:wz P K kenc)(hT:P.underlying T=some (.map K V))(hz:∀w,(zeroValue V).run P w= .ok zs w)
    (hx:bA env x (ag (.map (some m)))) (hy:bA env y (ag (kenc a))) (hi:hs[i]?=some (oW m kenc vq D)):bw P hs env ⟨dst, .lookup T x y true,ty,pos,after,gd⟩ (aZ [N1 vq (ag zs) (er D a),av ((er D a).isSome=true)]):=
  bw.aM λρ w S F ho he=>by
    have h1:=he.o _ _ hx;have h2:=he.o _ _ hy;simp only[ag] at h1 h2
    obtain⟨F1,_,_,es,cl,hh,hk,hv,_⟩:=ho.get hi;have TU:=hK.check a es.isEmpty w;have hf:=hK.find a es.toList (D.map (·.1)) w (hk.trans (keys_map kenc D));have xJ:=wA a D
    have tup:∀(u:Value) (b:Bool),(N1 vq (ag zs) (er D a)).p S w u->(b=true↔(er D a).isSome=true)->(aZ [N1 vq (ag zs) (er D a),av ((er D a).isSome=true)]).p S w (.tuple #[u, .bool b]):=λu b hu hb=>
      ⟨_,rfl,rfl,λj p v hj hv=>by
        match j,hj,hv with
        |0,hj,hv=>simp at hj hv;subst hj;subst hv;exact hu
        |1,hj,hv=>simp at hj hv;subst hj;subst hv;exact⟨b,rfl,hb⟩⟩
    cases Mv:(D.map (·.1)).findIdx? (λk=>decide (k=a)) with
    | none=>
      rw[Mv] at hf xJ;refine⟨.tuple #[zs, .bool false],?_,tup _ _ (by rw[xJ];rfl) (by simp[xJ])⟩;simp only[uM,Option.bind_none] at hf;simp[execOp,h1,h2,Instr.lookup,run_underlying hT,getObj,Sem.run,hh,TU,hf,hz w]
    | some j=>
      rw[Mv] at hf xJ;obtain⟨v,hj,hl⟩:=xJ;obtain⟨e,he,hq⟩:=hv j _ hj;refine⟨.tuple #[e.val, .bool true],?_,tup _ _ (by rw[hl];exact hq) (by simp[hl])⟩;have he':es.toList[j]?=some e:=by simpa using he
      simp only[uM,Option.bind_some,he',Option.map_some] at hf;simp[execOp,h1,h2,Instr.lookup,run_underlying hT,getObj,Sem.run,hh,TU,hf]
theorem gW.Rd{o:Oper}{c:Ctx}{a:Act}{w:World}{S F:BS}(aI:j6 c w S F)(hown:dR hs F S w){m i:Nat}{h0 h1:HP}(hi:hs[i]?=some h0)(hF:∀F1 S w,h0.p F1 S w->F1 m){ob:Obj}{v:Value}{Kp:Act->World->Prop}{Q:Exit->Act->World->Prop}
    (hr:(execOp a.eval o).run P w= .ok (.value v) (mQ w m ob)\/(execOp a.eval o).run P w= .ok .skip (mQ w m ob)/\o.dst=none) (hp:∀F1,h0.p F1 S w->h1.p F1 S (mQ w m ob))
    (hk:∀w',j6 c w' S F->(∀k,S k->w'.heap[k]?=w.heap[k]?)->dR (hs.set i h1) F S w'->Kp (a.put o.dst v) w'):o.wp P a w Kp Q:=by
  obtain⟨F1,F2,f1,f2,f3,_,f4⟩:=hown.zj hi;have hFm:=hF F1 S w f3;have hne:∀k',k'≠m->(mQ w m ob).heap[k']?=w.heap[k']?:=λk' hk'=>by simp[mQ,Array.getElem?_setIfInBounds_ne (λe=>hk' e.symm)]
  have hag:∀k',S k'->(mQ w m ob).heap[k']?=w.heap[k']?:=λk' hk'=>hne k' (λe=>aI.eg k' hk' (e▸(f1 m hFm).1))
  have hO:dR (hs.set i h1) F S (mQ w m ob):=by
    have:=f4 S F1 (mQ w m ob) h1 (λk hk=>(f1 k hk).2) (λ_ h=>h) (λk hk=>hne k (λe=>(f1 m hFm).2 (e▸hk))) hag (hp F1 f3);exact this.mono (λk hk=>hk.elim (λh=>(f1 k h).1) (f2 k)) (λ_ h=>h) (λ_ _=>rfl) (λ_ _=>rfl)
  have hS:j6 c (mQ w m ob) S F:=aI.write (f1 m hFm).1 rfl rfl rfl (by simp[mQ]) hne;unfold Oper.wp;rcases hr with hr|⟨hr,hd⟩
  · rw[hr];exact hk _ hS hag hO
  · rw[hr]
    have h9:=hk _ hS hag hO
    show Kp (a.put o.dst undef) _
    rw[hd] at h9 ⊢;exact h9
def ki{κ ν:Type}[DecidableEq κ](D:List (κ×ν))(a:κ)(v:ν):List (κ×ν):=match (D.map (·.1)).findIdx? (λk=>decide (k=a)) with
 |some i=>D.set i (a,v)
 |none=>D++[(a,v)]
theorem Re{κ ν:Type}[DecidableEq κ]{kenc:κ->Value}{D:List (κ×ν)}{a:κ}(hK:wz P K kenc){es:Array MapEntry}(hk:es.toList.map (·.key)=D.map (λp=>kenc p.1))(w':World):
    (Instr.findKey K (kenc a) es.toList).run P w'= .ok (uM es.toList ((D.map (·.1)).findIdx? λk=>decide (k=a))) w':=hK.find a es.toList (D.map (·.1)) w' (hk.trans (keys_map kenc D))
theorem Al{κ ν:Type}[DecidableEq κ]{kenc:κ->Value}{vq:ν->VP}{D:List (κ×ν)}{m i:Nat}{a:κ}(v:ν)(hK:wz P K kenc)(hT:P.underlying T=some (.map K V))
    (hx:bA env x (ag (.map (some m)))) (hy:bA env y (ag (kenc a))) (hz:bA env z (vq v)) (hi:hs[i]?=some (oW m kenc vq D)):
    gW P hs env ⟨none, .mapUpdate T x y z,ty,pos,after,gd⟩ (γ:=Unit) (λ_=>True) (λ_=>hs.set i (oW m kenc vq (ki D a v))) (λ_=>ag undef):=by
  intro c ac w S F aI hown he Kp Q hk;have h1:=hx S w ac he;have h2:=hy S w ac he;simp only[ag] at h1 h2
  have h3:=hz S w ac he;obtain⟨F0,_,ak⟩:=hown.get hi;obtain⟨_,es,cl,hh,vb,hv,hbo⟩:=ak;have TU:=hK.check a false w;have hf:=Re (a:=a) hK vb w;have F7:=hK.same a;have hlen:es.size=D.length:=by have:=congrArg List.length vb;simpa using this
  have xJ:=wA a D;cases Mv:(D.map (·.1)).findIdx? (λk=>decide (k=a)) with
  | none =>
    rw[Mv] at hf xJ;simp only[uM,Option.bind_none] at hf;refine gW.Rd (v:=undef) (ob:= .map (es.push {key:=kenc a,val:=ac.eval z,born:=cl}) (cl+1)) (h1:=oW m kenc vq (ki D a v)) aI hown hi (λF1 S w h=>h.1) (.inr ⟨?_,rfl⟩) (λF1 hp=>?_) (λw' hS hag hO=>hk () _ _ S F trivial hS (λ_ h=>h) hag hO rfl)
    · simp[execOp,h1,h2,Instr.mapUpdate,run_underlying hT,getObj,setObj,Sem.run,hh,TU,hf,mQ]
    · refine⟨hp.1,es.push {key:=kenc a,val:=ac.eval z,born:=cl},cl+1,by simp[mQ,(Array.getElem?_eq_some_iff.1 hh).1],?_,λj p hj=>?_,hbo.push _ rfl⟩
      · unfold ki;rw[Mv];simp[vb]
      · have hup:ki D a v=D++[(a,v)]:=by unfold ki;rw[Mv]
        have hag:∀k,S k->(mQ w m (.map (es.push {key:=kenc a,val:=ac.eval z,born:=cl}) (cl+1))).heap[k]?=w.heap[k]?:=λk hk=>by
          have hkm:k≠m:=λe=>by
            obtain⟨F1',F2',f1,_,f3,_⟩:=hown.zj hi;exact aI.eg k hk (e▸(f1 m f3.1).1)
          simp[mQ,Array.getElem?_setIfInBounds_ne (λe=>hkm e.symm)]
        rw[hup] at hj;rcases Nat.lt_or_ge j D.length with h|h
        · rw[List.getElem?_append_left h] at hj
          obtain⟨e,Uv,hq⟩:=hv j p hj;exact⟨e,by rw[Array.getElem?_push_lt (by omega)];rw[<-Uv];exact(Array.getElem?_eq_getElem (by omega)).symm,(vq p.2).mono (λ_ h=>h) hag hq⟩
        · rw[List.getElem?_append_right h] at hj
          have hj0:j=D.length:=by
            have:=(List.getElem?_eq_some_iff.1 hj).1;simp at this;omega
          subst hj0;simp at hj;subst hj
          exact⟨{key:=kenc a,val:=ac.eval z,born:=cl},by rw[<-hlen];simp,(vq v).mono (λ_ h=>h) hag h3⟩
  | some j=>
    rw[Mv] at hf xJ;obtain⟨v0,hj,hl⟩:=xJ;obtain⟨e,Uv,JA⟩:=hv j _ hj;have he':es.toList[j]?=some e:=by simpa using Uv
    have hjs:j<es.size:=(Array.getElem?_eq_some_iff.1 Uv).1
    have XH:e.key=kenc a:=by
      have:=congrArg (λl=>l[j]?) vb;simp only[List.getElem?_map,he',hj,Option.map_some,Option.some.injEq] at this;exact this
    simp only[uM,Option.bind_some,he',Option.map_some] at hf;have hup:ki D a v=D.set j (a,v):=by unfold ki;rw[Mv]
    refine gW.Rd (v:=undef) (ob:= .map (es.modify j λe=>{e with key:=kenc a,val:=ac.eval z}) cl) (h1:=oW m kenc vq (ki D a v)) aI hown hi (λF1 S w h=>h.1) (.inr ⟨?_,rfl⟩) (λF1 hp=>?_) (λw' hS hag hO=>hk () _ _ S F trivial hS (λ_ h=>h) hag hO rfl)
    · simp[execOp,h1,h2,Instr.mapUpdate,run_underlying hT,getObj,setObj,Sem.run,hh,TU,hf,mQ,Uv,XH,Instr.keyThatStays,F7]
    · have hag:∀k,S k->(mQ w m (.map (es.modify j λe=>{e with key:=kenc a,val:=ac.eval z}) cl)).heap[k]?=w.heap[k]?:=λk hk=>by
        have hkm:k≠m:=λe=>by
          obtain⟨F1',F2',f1,_,f3,_⟩:=hown.zj hi;exact aI.eg k hk (e▸(f1 m f3.1).1)
        simp[mQ,Array.getElem?_setIfInBounds_ne (λe=>hkm e.symm)]
      refine⟨hp.1,es.modify j λe=>{e with key:=kenc a,val:=ac.eval z},cl,by simp[mQ,(Array.getElem?_eq_some_iff.1 hh).1],?_,λt p ht=>?_,hbo.same (List.ext_getElem? λt=>?_)⟩
      · rw[hup]
        apply List.ext_getElem?;intro t;have:=congrArg (λl=>l[t]?) vb;simp only[List.getElem?_map] at this ⊢;simp only[Array.getElem?_toList,Array.getElem?_modify,List.getElem?_set] at this ⊢;by_cases xO:j=t
        · subst xO
          rw[if_pos rfl,if_pos rfl,Uv];have:j<D.length:=by omega
          simp[this]
        · rw[if_neg xO,if_neg xO];exact this
      · rw[hup,List.getElem?_set] at ht
        by_cases xO:j=t
        · subst xO
          rw[if_pos rfl,if_pos (by omega)] at ht;cases ht;exact⟨_,by rw[Array.getElem?_modify,if_pos rfl,Uv];rfl,(vq v).mono (λ_ h=>h) hag h3⟩
        · rw[if_neg xO] at ht
          obtain⟨e2,TV,ZK⟩:=hv t p ht;exact⟨e2,by rw[Array.getElem?_modify,if_neg xO];exact TV,(vq p.2).mono (λ_ h=>h) hag ZK⟩
      · simp only[List.getElem?_map,Array.getElem?_toList,Array.getElem?_modify]
        by_cases xO:j=t
        · subst xO;rw[if_pos rfl,Uv];rfl
        · rw[if_neg xO]
end
section
variable {P:Program} {hs:List HP} {env:Env} {q:VP} {dst:Option Tmp} {ty T T' T2 E:TypeId} {pos:String} {after:Array Edge} {gd:Option (Nat×Bool)} {x y z:Operand}
def wB(l:List UInt8):List Value:=l.map λb=> .int .u8 (b.toNat:Int)
def qV(b:Nat)(l:List UInt8):HP:=
 ⟨λF S w=>F b/\∃T:TypeId,w.heap[b]?=some (.cells (wB l).toArray T (0,0)),λh1 h2 h3 h4 ⟨hF,T,hh⟩=>⟨h1 b hF,T,(h3 b hF).trans hh⟩⟩
def sK(b off len:Nat):VP:=⟨λ_ _ v=>∃o cap,v= .slice (some ⟨b,o,none⟩) len cap/\(len=0\/o=off)/\len<=cap/\cap<=281474976710656,λ_ _ h=>h⟩
instance (b off len:Nat):Flat (sK b off len):=⟨λ⟨_,_,h,_⟩=>by subst h;exact⟨rfl,rfl⟩⟩
theorem zA{l:List UInt8}{j:Nat}:(wB l)[j]?=(l[j]?).map λb=> .int .u8 (b.toNat:Int):=by simp[wB]
theorem Uw(l:List UInt8):(wB l).length=l.length:=by simp[wB]
theorem Gy{n:Nat}{w:World}{ρ:Operand->Value}(hT:P.underlying T=some (.slice E))(hn:P.cellsOf E=1)(hb:P.bytesOf E=1)(hz:lG P E=some [.int .u8 0])(hv:ρ x= .int .i64 (n:Int))(hle:n<=281474976710656):
    (execOp ρ ⟨dst, .makeSlice T x x,ty,pos,after,gd⟩).run P w= .ok (.value (.slice (some ⟨w.heap.size,0,none⟩) n n)) {w with heap:=w.heap.push (.cells (wB (List.replicate n 0)).toArray E)}:=by
  obtain⟨info,hi1,hi2⟩:=ga hn rfl w;obtain⟨zv,Mm,Ab⟩:=jG hz w;have l6:=run_sizeOf hn rfl w;have hw:IntKind.i64.wrap (n:Int)=(n:Int):=fm (cM (by omega) (by omega));have hbytes:info.bytes=1:=hi2.trans hb
  have hcells:(Array.range (n*1)).map (λt=>zv.cells[t%zv.cells.size]!)=(wB (List.replicate n 0)).toArray:=by
    rw[Ab];apply Array.ext
    · simp[wB]
    · intro j h1 h2
      simp[wB,Nat.mod_one]
  have TW:¬((n:Int)<0):=by omega
  have D8:¬((281474976710656:Int)<(n:Int)):=by omega
  have hroom:∀m:Nat,(askRoom m).run P w= .ok () w:=λm=>by unfold askRoom;split<;>simp[mark,Sem.run]
  by_cases h0:n=0
  · subst h0
    have hw0:IntKind.i64.wrap 0=0:=hw;have hr0:Array.map (λ_:Nat=>(default:Value)) (Array.range 0)=(wB []).toArray:=by apply Array.ext<;>simp[wB]
    simp[execOp,Instr.makeSlice,run_underlying hT,asInt,asIntOf,hv,hi1,hw0,l6,newRow];exact congrArg (λr=>w.alloc (.cells r E)) hr0
  · simp[execOp,Instr.makeSlice,run_underlying hT,asInt,asIntOf,hv,hi1,hbytes,hw,TW,D8,hroom,l6,h0,Mm,newRow]
    rw[Nat.mul_one] at hcells;exact congrArg (λr=>w.alloc (.cells r E)) hcells
theorem N2{n:Nat}{i:Int}(hT:P.underlying T=some (.slice E))(hn:P.cellsOf E=1)(hb:P.bytesOf E=1)(hz:lG P E=some [.int .u8 0])(hx:bA env x (af .i64 i))(hi:i=(n:Int))(hle:n<=281474976710656):
    gW P hs env ⟨dst, .makeSlice T x x,ty,pos,after,gd⟩ (γ:=Nat) (λ_=>True) (λb=>qV b (List.replicate n 0)::hs) (λb=>sK b 0 n):=by
  intro c a w S F aI hown he K Q hk;have hv:=hx S w a he;simp only[ag] at hv
  subst hi;have hr:=Gy (dst:=dst) (ty:=ty) (pos:=pos) (after:=after) (gd:=gd) (w:=w) hT hn hb hz hv hle;unfold Oper.wp;rw[hr];exact hk w.heap.size _ _ S _ trivial (aI.gJ _) (λ_ h=>h) (λk hk=>cL w _ k (aI.bZ k hk)) (hown.gJ aI.bZ aI.cK _ ⟨rfl,E,by simp⟩) ⟨0,n,rfl, .inr rfl,Nat.le_refl _,hle⟩
theorem sL{b off len:Nat}{ats:Array TypeId}(Aa:ats[0]?=some T)(hT:P.underlying T=some (.slice E))(hx:bA env x (sK b off len)):bw P hs env ⟨dst, .call ⟨.builtin .len, #[x],ats⟩,ty,pos,after,gd⟩ (af .i64 (len:Int)):=
 bw.aM λρ w S F _ he=>by
  obtain⟨o,cap,hv,_⟩:=he.o _ _ hx;exact⟨.int .i64 (len:Int),by simp[execOp,resolve,invoke,builtin,Builtin.len_,Aa,hv,run_underlying hT,goInt],rfl⟩
theorem Am{b off len:Nat}{k k':IntKind}{i i':Int}{l h:Nat}(hT:P.underlying T=some (.slice E))(hn:P.cellsOf E=1)(hx:bA env x (sK b off len))(hy:bA env y (af k i))(hz:bA env z (af k' i'))
    (hi:i=(l:Int)) (hi':i'=(h:Int)) (hlh:l<=h) (hh:h<=len):bw P hs env ⟨dst, .slice T x (some y) (some z) none,ty,pos,after,gd⟩ (sK b (off+l) (h-l)):=
  bw.aM λρ w S F _ he=>by
    obtain⟨o,cap,hv,h1,h2,h3⟩:=he.o _ _ hx;have h4:=he.o _ _ hy;simp only[ag] at h4
    have h5:=he.o _ _ hz;simp only[ag] at h5
    subst hi;subst hi'
    have hs:=run_sizeOf (T:=E) hn rfl w;have hle:h<=cap:=by omega
    have oo:Addr.add ⟨b,o,none⟩ l=⟨b,o+l,none⟩:=by
      unfold Addr.add
      split
      · rename_i h0;simp
      · rfl
    refine⟨.slice (if cap=l then some ⟨b,o,none⟩ else some ⟨b,o+l,none⟩) (h-l) (cap-l),?_,?_⟩
    · simp[execOp,hv,h4,h5,Instr.sliceAt,Instr.slice,Instr.sliceBounds,Instr.sliceBound,asIntOf,run_underlying hT,hs,hle,hlh,oo]
    · by_cases zk:cap=l
      · exact⟨o,cap-l,by rw[if_pos zk], .inl (by omega),by omega,by omega⟩
      · exact⟨o+l,cap-l,by rw[if_neg zk],by omega,by omega,by omega⟩
theorem Ef(d:Nat)(a:Option Addr)(l c:Nat){w:World}(h:P.underlying T=some (.slice E)):(Op.equalIn (d+1) T (.slice a l c) (.slice none 0 0)).run P w= .ok a.isNone w:=by
 cases a<;>simp[Op.equalIn,run_underlying h]
theorem gW.Mw{o:Oper}{c:Ctx}{a:Act}{w w1:World}{S F:BS}(aI:j6 c w S F)(hown:dR hs F S w){m i:Nat}{h0 h1:HP}(hi:hs[i]?=some h0)(hF:∀F1 S w,h0.p F1 S w->F1 m){v:Value}{Kp:Act->World->Prop}{Q:Exit->Act->World->Prop}
    (hr:(execOp a.eval o).run P w= .ok (.value v) w1) (e1:w1.os=w.os) (e2:w1.tape=w.tape) (e3:w1.output=w.output) (e4:w1.heap.size=w.heap.size) (hne:∀k',k'≠m->w1.heap[k']?=w.heap[k']?) (hp:∀F1,h0.p F1 S w->h1.p F1 S w1)
    (hk:j6 c w1 S F->(∀k,S k->w1.heap[k]?=w.heap[k]?)->dR (hs.set i h1) F S w1->Kp (a.put o.dst v) w1):o.wp P a w Kp Q:=by
  obtain⟨F1,F2,f1,f2,f3,_,f4⟩:=hown.zj hi;have hFm:=hF F1 S w f3;have hag:∀k',S k'->w1.heap[k']?=w.heap[k']?:=λk' hk'=>hne k' (λe=>aI.eg k' hk' (e▸(f1 m hFm).1))
  have hO:dR (hs.set i h1) F S w1:=by
    have:=f4 S F1 w1 h1 (λk hk=>(f1 k hk).2) (λ_ h=>h) (λk hk=>hne k (λe=>(f1 m hFm).2 (e▸hk))) hag (hp F1 f3);exact this.mono (λk hk=>hk.elim (λh=>(f1 k h).1) (f2 k)) (λ_ h=>h) (λ_ _=>rfl) (λ_ _=>rfl)
  have hS:j6 c w1 S F:=aI.write (f1 m hFm).1 e1 e2 e3 e4 hne;unfold Oper.wp;rw[hr];exact hk hS hag hO
theorem Ux{l:List UInt8}:∀v∈wB l,v.oneCell'=true:=λv hv=>by
 obtain⟨b,_,rfl⟩:=List.mem_map.1 hv;rfl
theorem JQ{l ys:List UInt8}{off:Nat}(h:off+ys.length<=l.length){arr:Array Value}(hs:arr.size=(wB l).toArray.size)(h1:∀j,(j<off\/off+ys.length<=j)->arr[j]?=(wB l).toArray[j]?)(h2:∀j v,(wB ys)[j]?=some v->arr[off+j]?=some v):
    arr=(wB (l.take off++ys++l.drop (off+ys.length))).toArray:=by
  have hz:arr.size=l.length:=by simpa[wB] using hs
  apply Array.ext_getElem?;intro j;simp only[List.getElem?_toArray,zA] at h1 ⊢;rcases Nat.lt_or_ge j off with h3|h3
  · rw[h1 j (.inl h3),List.append_assoc,List.getElem?_append_left (by simp;omega),List.getElem?_take,if_pos h3]
  · rcases Nat.lt_or_ge j (off+ys.length) with h4|h4
    · have h5:ys[j-off]?=some (ys[j-off]'(by omega)):=List.getElem?_eq_getElem (by omega)
      have:=h2 (j-off) _ (by rw[zA,h5];rfl);rw[show off+(j-off)=j by omega] at this;have hto:(List.take off l).length=off:=by simp;omega
      rw[this,List.append_assoc,List.getElem?_append_right (by omega),List.getElem?_append_left (by omega),hto,h5];rfl
    · rw[h1 j (.inr h4),List.getElem?_append_right (by simp;omega),List.getElem?_drop]
      congr 2
      simp only[List.length_append,List.length_take];omega
theorem JR{b off o i:Nat}{l ys:List UInt8}{vs:List Value}{op:Oper}{c:Ctx}{a:Act}{w:World}{S F:BS}(aI:j6 c w S F)(hown:dR hs F S w)(hi:hs[i]?=some (qV b l))(hvs:vs=wB ys)(ho:ys.length=0\/o=off)(hl:off+ys.length<=l.length){v:Value}{Kp:Act->World->Prop}{Q:Exit->Act->World->Prop}
    (hr:∀w1,(storeCells ⟨b,o,none⟩ vs 0).run P w= .ok () w1->(execOp a.eval op).run P w= .ok (.value v) w1)
    (hk:∀w1,j6 c w1 S F->(∀k,S k->w1.heap[k]?=w.heap[k]?)->dR (hs.set i (qV b (l.take off++ys++l.drop (off+ys.length)))) F S w1->Kp (a.put op.dst v) w1):op.wp P a w Kp Q:=by
  subst hvs;obtain⟨F1,_,hp⟩:=hown.get hi;obtain⟨_,T,hb⟩:=hp;rcases ho with h0|h0
  · have hy:ys=[]:=List.length_eq_zero_iff.1 h0
    subst hy;refine gW.Mw (m:=b) (h1:=qV b (l.take off++[]++l.drop (off+[].length))) aI hown hi (λF1 S w h=>h.1) (hr w (by simp[wB,storeCells])) rfl rfl rfl rfl (λ_ _=>rfl) (λF1 h=>?_) (hk w);simp only[List.length_nil,Nat.add_zero,List.append_nil,List.take_append_drop];exact h
  · subst h0
    obtain⟨w',arr',h1,h2,h3,h4,h5,h6,h7,h8,h9,h10⟩:=lI (P:=P) (b:=b) (off:=o) (T:=T) (wB ys) 0 w _ Ux hb (by simpa[wB] using hl);refine gW.Mw (m:=b) (h1:=qV b (l.take o++ys++l.drop (o+ys.length))) aI hown hi (λF1 S w h=>h.1) (hr w' h1) h2 h3 h4 h5 h6 (λF1 h=>⟨h.1,T,?_⟩) (hk w');rw[h7,JQ hl h8 (λj hj=>h9 j (by simpa[Uw] using hj)) (λj v hj=>by simpa using h10 j v hj)]
theorem JS{b off len i:Nat}{l:List UInt8}{ats:Array TypeId}(Aa:ats[0]?=some T)(hT:P.underlying T=some (.slice E))(hn:P.cellsOf E=1)(hz:lG P E=some [.int .u8 0])(hx:bA env x (sK b off len))(hi:hs[i]?=some (qV b l))(hl:off+len<=l.length):
    gW P hs env ⟨dst, .call ⟨.builtin .clear, #[x],ats⟩,ty,pos,after,gd⟩ (γ:=Unit) (λ_=>True) (λ_=>hs.set i (qV b (l.take off++List.replicate len 0++l.drop (off+len)))) (λ_=>aZ []):=by
  intro c a w S F aI hown he Kp Q hk;obtain⟨o,cap,hv,h1,h2,h3⟩:=hx S w a he;obtain⟨zv,Mm,Ab⟩:=jG hz w
  have hzc:(Builtin.zeroCells zv.cells len).toList=wB (List.replicate len 0):=by
    apply List.ext_getElem
    · simp[wB,Builtin.zeroCells,Ab]
    · intro j _ _
      simp[wB,Builtin.zeroCells,Ab,Nat.mod_one]
  have hlr:(List.replicate len (0:UInt8)).length=len:=by simp
  have:=JR (P:=P) (ys:=List.replicate len 0) (vs:=wB (List.replicate len 0)) (o:=o) (off:=off) (op:=⟨dst, .call ⟨.builtin .clear, #[x],ats⟩,ty,pos,after,gd⟩) (a:=a) (v:= .tuple #[]) (Kp:=Kp) (Q:=Q) aI hown hi rfl (by rw[hlr];exact h1) (by rw[hlr];exact hl) (λw1 hw1=>?_) (λw1 hS hag hO=>hk () (.tuple #[]) w1 S F trivial hS (λ_ h=>h) hag (by rw[hlr] at hO;exact hO) ⟨#[],rfl,rfl,λj p v hj=>by simp at hj⟩)
  · exact this
  · by_cases h0:len=0
    · subst h0
      simp[wB,storeCells] at hw1;subst hw1;simp[execOp,resolve,invoke,builtin,Builtin.clear_,Aa,hv,run_underlying hT]
    · obtain⟨n,rfl⟩:∃n,len=n+1:=⟨len-1,by omega⟩
      simp[execOp,resolve,invoke,builtin,Builtin.clear_,Aa,hv,run_underlying hT,Mm];simp only[hzc,hw1,Result.andThen_ok]
abbrev dX:=Int×Int
def JT(k0 k1:IntKind)(a:dX):Value:= .agg #[.int k0 a.1, .int k1 a.2]
abbrev Dd:=JT .i64 .i64
theorem wz.pair{K:TypeId}{f0 f1:Field}{k0 k1:IntKind}(h:P.underlying K=some (.struct #[f0,f1]))(hst:P.stoodInHeld K=false)(n0:f0.name≠"_")(n1:f1.name≠"_")(o0:f0.offset=0)(o1:f1.offset=1)
    (t0:P.underlying f0.type=some (.int k0)) (t1:P.underlying f1.type=some (.int k1)):wz P K (JT k0 k1) where
  check a e w:=by
    have c0:∀(x:Int) (n:Nat),(Instr.checkKey e (n+1) f0.type (.int k0 x)).run P w= .ok () w:=λx n=>by unfold Instr.checkKey;rw[bH (run_underlying t0 w)];rfl
    have c1:∀(x:Int) (n:Nat),(Instr.checkKey e (n+1) f1.type (.int k1 x)).run P w= .ok () w:=λx n=>by unfold Instr.checkKey;rw[bH (run_underlying t1 w)];rfl
    have a0:l9 P f0.type=some false:=by unfold l9;rw[t0];rfl
    have a1:l9 P f1.type=some false:=by unfold l9;rw[t1];rfl
    have p0:(part f0.type #[.int k0 a.1, .int k1 a.2] f0.offset).run P w= .ok (.int k0 a.1) w:=by unfold part;rw[bH (fq a0 w)];simp[o0]
    have p1:(part f1.type #[.int k0 a.1, .int k1 a.2] f1.offset).run P w= .ok (.int k1 a.2) w:=by unfold part;rw[bH (fq a1 w)];simp[o1]
    unfold Instr.checkKey JT;rw[bH (run_underlying h w)];simp[n0,n1,p0,p1,c0,c1]
  same a:=by simp[JT,Instr.sameBits]
  find a es ks w hk:=by
    have hf:P.fieldsOf K= #[f0,f1]:=by simp[Program.fieldsOf,h]
    have a0:l9 P f0.type=some false:=by unfold l9;rw[t0];rfl
    have a1:l9 P f1.type=some false:=by unfold l9;rw[t1];rfl
    have p0:∀b:dX,(part f0.type #[.int k0 b.1, .int k1 b.2] f0.offset).run P w= .ok (.int k0 b.1) w:=λb=>by unfold part;rw[bH (fq a0 w)];simp[o0]
    have p1:∀b:dX,(part f1.type #[.int k0 b.1, .int k1 b.2] f1.offset).run P w= .ok (.int k1 b.2) w:=λb=>by unfold part;rw[bH (fq a1 w)];simp[o1]
    have heq:∀b:dX,(Op.equal K (JT k0 k1 a) (JT k0 k1 b)).run P w= .ok (decide (b=a)) w:=λb=>by
      have e1:=run_equalIn_struct (P:=P) w 9999 K #[.int k0 a.1, .int k1 a.2] #[.int k0 b.1, .int k1 b.2] (by rw[hf];exact h) hst;rw[hf] at e1;refine e1.trans ?_;have q0:=run_equalIn_int (P:=P) w 9998 f0.type k0 k0 a.1 b.1 t0;have q1:=run_equalIn_int (P:=P) w 9998 f1.type k1 k1 a.2 b.2 t1;obtain⟨a1,a2⟩:=a;obtain⟨b1,b2⟩:=b;have p0a:=p0 (a1,a2);have p0b:=p0 (b1,b2);have p1a:=p1 (a1,a2);have p1b:=p1 (b1,b2)
      simp only at p0a p0b p1a p1b q0 q1;simp[Op.eqFields,n0,n1,p0a,p0b,p1a,p1b,q0,q1];by_cases h1:a1=b1<;>by_cases h2:a2=b2<;>simp[h1,h2]<;>omega
    have key:∀(es:List MapEntry) (ks:List dX) (i:Nat),es.map (·.key)=ks.map (JT k0 k1)->(Instr.findAsking K (JT k0 k1 a) es i).run P w= .ok ((ks.findIdx? λb=>decide (b=a)).bind λj=>(es[j]?).map λe=>(i+j,e.val)) w:=by
      intro es
      induction es with
      | nil=>intro ks i hk;cases ks with
        |nil=>rfl
        |cons b ks=>simp at hk
      | cons e es ih=>
        intro ks i hk;cases ks with
        |nil=>simp at hk
        | cons b ks=>
          simp only[List.map_cons,List.cons.injEq] at hk;unfold Instr.findAsking;rw[hk.1,bH (heq b)];by_cases hab:b=a
          · subst hab;simp[List.findIdx?_cons]
          · simp only[hab,decide_false,Bool.false_eq_true,if_false,ih ks (i+1) hk.2,List.findIdx?_cons]
            cases ks.findIdx? (λb=>decide (b=a)) with
            |none=>rfl
            |some j=>simp[Nat.add_assoc,Nat.add_comm 1 j]
    have aD8:Instr.findNow (.struct #[f0,f1]) (JT k0 k1 a) es 0=none\/es=[]:=by
      cases es with
      |nil=>exact .inr rfl
      | cons e es=>
        cases ks with
        |nil=>simp at hk
        | cons b ks=>
          simp only[List.map_cons,List.cons.injEq] at hk;exact .inl (by unfold Instr.findNow;rw[hk.1];rfl)
    have h0:=key es ks 0 hk;simp only[Instr.findKey,bH (run_underlying h w)];rcases aD8 with h1|h1
    · rw[h1];simp only[h0];simp[uM]
    · subst h1
      cases ks with
      |nil=>rfl
      |cons b ks=>simp at hk
end
end Go.Hl
end
