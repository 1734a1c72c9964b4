/-
  What the statement's proof leans on, several texts in one (packed by a program).
-/
import Derived.Test.YtmacjbfbpjgmnaaGreatDoorRNA
set_option linter.all false
set_option maxRecDepth 1000000
set_option maxHeartbeats 4000000
section
namespace Go.Hl
open Go.RowKit
section
variable {P:Program} {hs:List HP} {env:Env} {q:VP} {dst:Option Tmp} {ty T T2 T' E:TypeId} {pos:String} {after:Array Edge} {gd:Option (Nat×Bool)} {x y z:Operand}
class bq(cs:List VP):Prop where
 flat:∀q,q∈cs→Flat q
instance:bq []:=⟨fun _ h=>by cases h⟩
instance {q:VP} {cs:List VP} [h:Flat q] [t:bq cs]:bq (q::cs):=⟨fun p hp=>by
 rcases List.mem_cons.1 hp with e|e
 · rw[e];exact h
 · exact t.flat p e⟩
instance {cs:List VP} {n:Nat} [h:bq cs]:bq (cs.take n):=⟨fun q hq=>h.flat q (List.mem_of_mem_take hq)⟩
instance {cs:List VP} {n:Nat} [h:bq cs]:bq (cs.drop n):=⟨fun q hq=>h.flat q (List.mem_of_mem_drop hq)⟩
instance:bq (List.map af []):=⟨fun q hq=>by cases hq⟩
instance {v:Value} {vs:List Value} [h:Flat (af v)] [t:bq (List.map af vs)]:bq (List.map af (v::vs)):=⟨fun q hq=>by
 rcases List.mem_cons.1 hq with e|e
 · rw[e];exact h
 · exact t.flat q e⟩
theorem yY:∀(a b:List VP) (q:VP),q∈sk a b→q∈a∨q∈b
 |[],b,q,h=> .inr h
 |x::a,[],q,h=> .inl h
 |x::a,y::b,q,h=>by
  rcases List.mem_cons.1 h with e|e
  · exact .inl (by rw[e];exact List.mem_cons_self ..)
  · rcases yY a b q e with e|e
    · exact .inl (List.mem_cons_of_mem _ e)
    · exact .inr (List.mem_cons_of_mem _ e)
theorem uh:∀(k:Nat) (a b:List VP) (q:VP),q∈fh k a b→q∈a∨q∈b
 |0,a,b,q,h=>yY a b q h
 |k+1,a,[],q,h=>by cases h
 |k+1,a,y::b,q,h=>by
  rcases List.mem_cons.1 h with e|e
  · exact .inr (by rw[e];exact List.mem_cons_self ..)
  · rcases uh k a b q e with e|e
    · exact .inl e
    · exact .inr (List.mem_cons_of_mem _ e)
instance {a b:List VP} {k:Nat} [h1:bq a] [h2:bq b]:bq (fh k a b):=⟨fun q hq=>(uh k a b q hq).elim (h1.flat q) (h2.flat q)⟩
theorem gY{cs new:List VP}{b off i n:Nat}[hfl:bq new](hn:P.cellsOf T=n)(h0:Nat.blt 0 n=true)(hx:aU env x (ai b off))(hy:aU env y (aK new))(yZ:Nat.beq new.length n=true)(hi:hs[i]?=some (aF b cs))(hl:Nat.ble (off+n) cs.length=true):
    fN P hs env ⟨none, .store T x y,ty,pos,after,gd⟩ (γ:=Unit) (fun _=>True) (fun _=>hs.set i (aF b (fh off new cs))) (fun _=>af undef):=by
  intro c a w S F ax hown he K Q hk;have hv:=hx S w a he;simp only[af] at hv
  obtain⟨arr,K9,UL,IS⟩:=hy S w a he;have hl':off+n≤cs.length:=by simpa using hl
  have SU:new.length=n:=by simpa using yZ
  obtain⟨F1,F2,f1,f2,f3,_,f4⟩:=hown.ue hi;obtain⟨hFb,cur,E',hb,hsz,hc⟩:=f3
  have hone:∀v∈arr.toList,v.oneCell'=true:=by
    intro v qI;obtain⟨j,hj⟩:=List.mem_iff_getElem?.1 qI;have hjl:j<new.length:=by have:=(List.getElem?_eq_some_iff.1 hj).1;simp at this;omega
    obtain⟨u,hu,hq⟩:=IS j _ (List.getElem?_eq_getElem hjl);have:u=v:=by simp at hj hu;rw[hj] at hu;exact(Option.some.inj hu).symm
    subst this;exact((hfl.flat _ (List.getElem_mem hjl)).flat hq).2
  obtain⟨w',arr',k1,k2,k3,k4,k5,k6,k7,k8,k9,Xj⟩:=jg (P:=P) (b:=b) (off:=off) (T:=E') arr.toList 0 w cur hone hb (by simp[UL,hsz];omega)
  have hr:(execOp a.eval ⟨none, .store T x y,ty,pos,after,gd⟩).run P w= .ok .skip w':=by
    have hs:=run_sizeOf hn h0 w;have hne:¬arr.size≠n:=by simp[UL,SU]
    simp[execOp,hv,K9,Instr.storeAt,Instr.sureAddr,storeVar,hs,Value.cells,UL,SU,k1]
  unfold Oper.wp;rw[hr];have hag:∀k,S k→w'.heap[k]?=w.heap[k]?:=fun k hk=>k6 k (fun e=>ax.cR k hk (e▸(f1 b hFb).1));refine hk () undef w' S F trivial (ax.write (f1 b hFb).1 k2 k3 k4 k5 k6) (fun _ h=>h) hag ?_ rfl
  have:=f4 S F1 w' (aF b (fh off new cs)) (fun k hk=>(f1 k hk).2) (fun _ h=>h) (fun k hk=>k6 k (fun e=>(f1 b hFb).2 (e▸hk))) hag
    ⟨hFb,arr',E',k7,by rw[k8,hsz,oO off new cs (by omega)],fun j q' hj=>?_⟩
  · exact this.mono (fun k hk=>hk.elim (fun h=>(f1 k h).1) (f2 k)) (fun _ h=>h) (fun _ _=>rfl) (fun _ _=>rfl)
  · rw[l9 off new cs j (by omega)] at hj
    by_cases h1:off≤j∧j<off+new.length
    · rw[if_pos h1] at hj
      obtain⟨u,hu,hq⟩:=IS _ q' hj;have:=Xj (j-off) u (by simpa using hu);exact⟨u,by rwa [show off+0+(j-off)=j by omega] at this,q'.mono (fun _ h=>h) hag hq⟩
    · rw[if_neg h1] at hj
      obtain⟨u,hu,hq⟩:=hc j q' hj;have hlen:arr.toList.length=new.length:=by simp[UL]
      exact⟨u,by rw[k9 j (by rw[hlen];omega)];exact hu,q'.mono (fun _ h=>h) hag hq⟩
def zeroV(zs:List Value)(m:Nat):List VP:=(List.range m).map fun i=>af (zs[i%zs.length]!)
theorem lz{α:Type}{n len:Nat}{enc:α→List VP}{ys:List α}{ps:List (Nat×Operand)}{pcs:List (Nat×List VP)}{zs:List Value}{cs:List VP}(hT:P.underlying T=some (.slice E))(hn:P.cellsOf E=n)(h0:Nat.blt 0 n=true)
    (hz:jd P E=some zs) (hzl:zs.length=n) (hp:jB env ps pcs) (EG:Nat.ble (len*n) 16777216=true) (hf:oN (fun i=>some (i*n,n)) (zeroV zs (len*n)) pcs=some cs) {S:BS} {w:World} {a:Act} (he:cn env S w a.tmps):
    ∃arr,(execOp a.eval ⟨dst, .buildSlice T len ps.toArray,ty,pos,after,gd⟩).run P w= .ok (.value (.slice (some ⟨w.heap.size,0,none⟩) len len)) {w with heap:=w.heap.push (.cells arr E)}∧p4 S w arr cs:=by
  have hn0:0<n:=by simpa using h0
  obtain⟨z,Hr,x4⟩:=gI hz w;obtain⟨g1,g2⟩:=hp S w a he;have aO9:len*n≤16777216:=by simpa using EG
  have SR:z.cells.size=n:=by rw[x4];simpa using hzl
  obtain⟨arr',r1,r2⟩:=vi (S:=S) (w:=w) (place:=fun i=>some (i*n,n)) (ps.map fun(i,x)=>(i,a.eval x)) pcs (zeroV zs (len*n)) ((Array.range (len*n)).map (z.cells[· %z.cells.size]!)) cs
    ⟨by simp[zeroV],fun j q hj=>by
      unfold zeroV at hj;rw[List.getElem?_map] at hj;by_cases hjl:j<len*n
      · rw[List.getElem?_range hjl] at hj
        simp at hj;subst hj
        refine⟨z.cells[j%z.cells.size]!,by simp[hjl],?_⟩
        show _=_
        rw[x4];simp
      · rw[List.getElem?_eq_none (by simp;omega)] at hj;cases hj⟩ (by simpa using g1)
    (fun t p c ht hc=>by
      rw[List.getElem?_map] at ht;cases Ht:ps[t]? with
      |none=>rw[Ht] at ht;cases ht
      |some p0=>rw[Ht] at ht;cases ht;exact g2 t p0 c Ht hc) hf
  refine⟨arr',?_,r2⟩;have hs:=run_sizeOf hn h0 w;have hnb:¬(len*n>2^24):=by omega
  have e:(ps.toArray.map fun x=>(x.1,a.eval x.2)).toList=ps.map fun x=>(x.1,a.eval x.2):=by simp
  have r1':Instr.fill (fun i=>some (i*n,n)) ((Array.range (len*n)).map (z.cells[· %z.cells.size]!)) (ps.map fun x=>(x.1,a.eval x.2))=some arr':=by simpa using r1
  by_cases Ev:len*n=0
  · have hz0:∀f:Nat→Value,(Array.range (len*n)).map f= #[]:=fun f=>Array.eq_empty_of_size_eq_zero (by simp[Ev])
    rw[hz0] at r1';simp only[execOp,Instr.buildSlice,Sem.run_bind,run_underlying hT,Result.andThen_ok,hs];rw[if_neg hnb,if_pos Ev];simp only[Sem.run_pure,Result.andThen_ok,hz0,e,r1',newRow,Sem.run_bind,run_newObj]
  · simp only[execOp,Instr.buildSlice,Sem.run_bind,run_underlying hT,Result.andThen_ok,hs]
    rw[if_neg hnb,if_neg Ev];simp only[Sem.run_bind,Hr,Result.andThen_ok,Sem.run_pure,e,r1',newRow,run_newObj]
theorem bV{α:Type}{n len:Nat}{enc:α→List VP}(ys:List α){ps:List (Nat×Operand)}{pcs:List (Nat×List VP)}{zs:List Value}{cs:List VP}[oP:iy n enc](hT:P.underlying T=some (.slice E))(hn:P.cellsOf E=n)(h0:Nat.blt 0 n=true)
    (hz:jd P E=some zs) (hzl:zs.length=n) (hp:jB env ps pcs) (EG:Nat.ble (len*n) 16777216=true) (hf:oN (fun i=>some (i*n,n)) (zeroV zs (len*n)) pcs=some cs) (hcs:cs=ys.flatMap enc) (hl:ys.length=len) (uj:Nat.ble len 16777216=true):
    aT P hs env ⟨dst, .buildSlice T len ps.toArray,ty,pos,after,gd⟩ (an n enc ys):=by
  intro a w S F h1 h2 h3 h4 he K Q hk;obtain⟨arr,hr,Nv⟩:=lz (enc:=enc) (ys:=ys) (dst:=dst) (ty:=ty) (pos:=pos) (after:=after) (gd:=gd) hT hn h0 hz hzl hp EG hf he;unfold Oper.wp;rw[hr];have hs2':len≤16777216:=by simpa using uj
  refine hk _ _ _ (ez.new1 w S (.cells arr E)) ⟨some ⟨w.heap.size,0,none⟩,len,by rw[hl],by omega,by omega,fun _=>⟨rfl, .inr rfl,fun i x hi=>?_⟩⟩;exact jf oP.len (tA h1 (hcs▸Nv.1) (hcs▸Nv.2)) i x hi
theorem jT{α:Type}{n len:Nat}(enc:α→List VP)(ys:List α){ps:List (Nat×Operand)}{pcs:List (Nat×List VP)}{zs:List Value}{cs:List VP}[oP:iy n enc](hT:P.underlying T=some (.slice E))(hn:P.cellsOf E=n)(h0:Nat.blt 0 n=true)
    (hz:jd P E=some zs) (hzl:zs.length=n) (hp:jB env ps pcs) (EG:Nat.ble (len*n) 16777216=true) (hf:oN (fun i=>some (i*n,n)) (zeroV zs (len*n)) pcs=some cs) (hcs:cs=ys.flatMap enc) (hl:ys.length=len) (uj:Nat.ble len 16777216=true):
    fN P hs env ⟨dst, .buildSlice T len ps.toArray,ty,pos,after,gd⟩ (γ:=SB) (fun _=>True) (fun g=>aI g n enc ys::hs) (fun g=>af (bA g ys.length)):=by
  intro c a w S F ax hown he K Q hk;obtain⟨arr,hr,Nv⟩:=lz (enc:=enc) (ys:=ys) (dst:=dst) (ty:=ty) (pos:=pos) (after:=after) (gd:=gd) hT hn h0 hz hzl hp EG hf he;unfold Oper.wp;rw[hr];have hs2':len≤16777216:=by simpa using uj
  refine hk (some (w.heap.size,len)) _ _ S _ trivial (ax.eL _) (fun _ h=>h) (fun k hk=>bL w _ k (ax.bD k hk)) (hown.eL ax.bD ax.bO _ ⟨rfl,by omega,by omega,arr,E,by simp,?_,fun j q hj=>?_⟩) (by simp[bA,af,hl])
  · rw[Nv.1,hcs,eO oP.len,hl]
  · obtain⟨u,hu,hq⟩:=Nv.2 j q (by rw[hcs];exact hj)
    exact⟨u,hu,(ez.Qo w S (.cells arr E)).vp ax.bD hq⟩
def Qt(P:Program)(T:TypeId):Option (Nat×Nat):=
 match P.underlying T with
 |some (.array len e)=>if 0<P.cellsOf e then some (len,P.cellsOf e) else none
 |_=>none
theorem dB{ps:List (Nat×Operand)}{pcs:List (Nat×List VP)}{len n:Nat}{zs:List Value}{cs:List VP}(gG:Qt P T=some (len,n))(hz:jd P T=some zs)(hp:jB env ps pcs)(hf:oN (fun i=>some (i*n,n)) (zs.map af) pcs=some cs):
    aT P hs env ⟨dst, .build T ps.toArray,ty,pos,after,gd⟩ (aK cs):=by
  intro a w S F h1 h2 h3 h4 he K Q hk;obtain⟨z,Hr,x4⟩:=gI hz w;unfold Qt at gG
  split at gG
  · rename_i len' e hu
    split at gG
    · rename_i hpos
      simp only[Option.some.injEq,Prod.mk.injEq] at gG;obtain⟨rfl,hn⟩:=gG;obtain⟨g1,g2⟩:=hp S w a he
      obtain⟨arr',r1,r2⟩:=vi (S:=S) (w:=w) (place:=fun i=>some (i*n,n)) (ps.map fun(i,x)=>(i,a.eval x)) pcs (zs.map af) z.cells cs
        ⟨by rw[x4];simp,fun j q hj=>by
          rw[List.getElem?_map] at hj;cases K8:zs[j]? with
          |none=>rw[K8] at hj;cases hj
          |some u=>rw[K8] at hj;cases hj;exact⟨u,by rw[x4];simpa using K8,rfl⟩⟩ (by simpa using g1)
        (fun t p c ht hc=>by
          rw[List.getElem?_map] at ht;cases Ht:ps[t]? with
          |none=>rw[Ht] at ht;cases ht
          |some p0=>rw[Ht] at ht;cases ht;exact g2 t p0 c Ht hc) hf
      have hs:=run_sizeOf (P:=P) (T:=e) hn (by simp;omega) w
      have hr:(execOp a.eval ⟨dst, .build T ps.toArray,ty,pos,after,gd⟩).run P w= .ok (.value (.agg arr')) w:=by
        have e2:(ps.toArray.map fun x=>(x.1,a.eval x.2)).toList=ps.map fun x=>(x.1,a.eval x.2):=by simp
        have r1':Instr.fill (fun i=>some (i*n,n)) z.cells (ps.map fun x=>(x.1,a.eval x.2))=some arr':=by simpa using r1
        simp only[execOp,Instr.build,Sem.run_bind,Hr,Result.andThen_ok,run_underlying hu,hs,e2,r1',Sem.run_pure]
      unfold Oper.wp;rw[hr];exact hk _ w S (ez.refl _ _) ⟨arr',rfl,r2.1,r2.2⟩
    · cases gG
  · cases gG
theorem sn{α:Type}{n len:Nat}{enc:α→List VP}(xs:List α){cs:List VP}{k:IntKind}{i:Int}{j:Nat}{e:α}[oP:iy n enc](hT:P.underlying T=some (.array len E))(hn:P.cellsOf E=n)(h0:Nat.blt 0 n=true)(hag:jc P E=some true)
    (hx:aU env x (aK cs)) (hcs:cs=xs.flatMap enc) (hlen:xs.length=len) (hy:aU env y (aa k i)) (hi:i=(j:Int)) (hj:xs[j]?=some e):aT P hs env ⟨dst, .index T x y,ty,pos,after,gd⟩ (aK (enc e)):=
  aT.aD fun ρ w S F _ he=>by
    obtain⟨arr,hv,hsz,hc⟩:=he.o _ _ hx;have h2:=he.o _ _ hy;simp only[af] at h2
    subst hi;subst hcs
    have hjl:j<xs.length:=(List.getElem?_eq_some_iff.1 hj).1;rw[eO oP.len] at hsz;have hs:=run_sizeOf (T:=E) hn h0 w;have hisA:=dz hag w;have hle:j*n+n≤arr.size:=by rw[hsz,←Nat.succ_mul];exact Nat.mul_le_mul_right n hjl
    refine⟨.agg (arr.extract (j*n) (j*n+n)),?_,_,rfl,by rw[oP.len];simp;omega,fun t q ht=>?_⟩
    · have EH:j<len:=by omega
      simp[execOp,hv,h2,Instr.index,asIntOf,run_underlying hT,hs,part,hisA,EH]
    · have htl:t<n:=by rw[←oP.len e];exact(List.getElem?_eq_some_iff.1 ht).1
      obtain⟨u,hu,hq⟩:=hc _ q (m0 oP.len xs j e t q hj ht);refine⟨u,?_,hq⟩;rw[Array.getElem?_extract];rw[if_pos (by omega)];exact hu
theorem dW{len:Nat}{cs:List VP}{k:IntKind}{i:Int}{j:Nat}(hT:P.underlying T=some (.array len E))(hn:P.cellsOf E=1)(hag:jc P E=some false)
    (hx:aU env x (aK cs)) (hlen:Nat.beq cs.length len=true) (hy:aU env y (aa k i)) (hi:i=(j:Int)) (hj:cs[j]?=some q):aT P hs env ⟨dst, .index T x y,ty,pos,after,gd⟩ q:=
  aT.aD fun ρ w S F _ he=>by
    obtain⟨arr,hv,hsz,hc⟩:=he.o _ _ hx;have h2:=he.o _ _ hy;simp only[af] at h2
    subst hi;have hlen':cs.length=len:=by simpa using hlen
    have hjl:j<cs.length:=(List.getElem?_eq_some_iff.1 hj).1;have hs:=run_sizeOf (T:=E) hn rfl w;have hisA:=dz hag w;obtain⟨u,hu,hq⟩:=hc j q hj;refine⟨u,?_,hq⟩;have EH:j<len:=by omega
    simp[execOp,hv,h2,Instr.index,asIntOf,run_underlying hT,hs,part,hisA,EH,hu]
theorem Ad{len n:Nat}{cs:List VP}{k:IntKind}{i:Int}(j:Nat)(hT:P.underlying T=some (.array len E))(hn:P.cellsOf E=n)(h0:Nat.blt 0 n=true)(hx:aU env x (bH cs))(hy:aU env y (aa k i))(hi:i=(j:Int))(hj:j<len):
    aT P hs env ⟨dst, .indexAddr T x y,ty,pos,after,gd⟩ (bH (cs.drop (j*n))):=
  aT.aD fun ρ w S F _ he=>by
    obtain⟨b,off,hv,hb,hc⟩:=he.o _ _ hx;have h2:=he.o _ _ hy;simp only[af] at h2
    subst hi;have hs:=run_sizeOf (T:=E) hn h0 w
    have mL:Addr.add ⟨b,off,none⟩ (j*n)=⟨b,off+j*n,none⟩:=by
      unfold Addr.add
      split
      · rename_i h0;simp
      · rfl
    refine⟨_,?_,b,off+j*n,rfl,hb,hc.drop _⟩;have EH:j<len:=by omega
    simp[execOp,hv,h2,Instr.indexAt,asIntOf,run_underlying hT,Instr.sureAddr,hs,mL,EH]
theorem dc{len n b off:Nat}{k:IntKind}{i:Int}(j:Nat)(hT:P.underlying T=some (.array len E))(hn:P.cellsOf E=n)(h0:Nat.blt 0 n=true)(hx:aU env x (ai b off))(hy:aU env y (aa k i))(hi:i=(j:Int))(hj:j<len):
    aT P hs env ⟨dst, .indexAddr T x y,ty,pos,after,gd⟩ (ai b (off+j*n)):=
  aT.aD fun ρ w S F _ he=>by
    have hv:=he.o _ _ hx;simp only[af] at hv
    have h2:=he.o _ _ hy;simp only[af] at h2
    subst hi;have hs:=run_sizeOf (T:=E) hn h0 w
    have mL:Addr.add ⟨b,off,none⟩ (j*n)=⟨b,off+j*n,none⟩:=by
      unfold Addr.add
      split
      · rename_i h0;simp
      · rfl
    have EH:j<len:=by omega
    exact⟨_,by simp[execOp,hv,h2,Instr.indexAt,asIntOf,run_underlying hT,Instr.sureAddr,hs,mL,EH],rfl⟩
theorem BY{α:Type}{n:Nat}{enc:α→List VP}{xs:List α}{S:BS}{w:World}{a:Option Addr}{cap h:Nat}(hh:h≤xs.length)(hc:xs.length≤cap)(hm:xs.length≤281474976710656)
    (he:match a with|none=>cap=0|some ad=>cap≠0→ad.spot=none∧S ad.block∧∀(i:Nat) (x:α),xs[i]?=some x→bQ S w ad.block (ad.off+i*n) (enc x)):(an n enc (xs.take h)).p S w (.slice a h cap):=by
  have hl:(xs.take h).length=h:=by simp;omega
  refine⟨a,cap,by rw[hl],by omega,by omega,?_⟩;cases a with
  |none=>exact he
  |some ad=>exact fun h0=>let he:=he h0;⟨he.1,he.2.1,fun i x hi=>he.2.2 i x (by
      rw[List.getElem?_take] at hi
      split at hi
      · exact hi
      · cases hi)⟩
theorem IV{α:Type}{n:Nat}{enc:α→List VP}{xs:List α}{k:IntKind}{i:Int}{h:Nat}(hT:P.underlying T=some (.slice E))(hn:P.cellsOf E=n)(h0:Nat.blt 0 n=true)(hx:aU env x (an n enc xs))(hy:aU env y (aa k i))(hi:i=(h:Int))(hh:h≤xs.length):
    aT P hs env ⟨dst, .slice T x none (some y) none,ty,pos,after,gd⟩ (an n enc (xs.take h)):=
  aT.aD fun ρ w S F _ he=>by
    obtain⟨a,cap,hv,hc,hm,hel⟩:=he.o _ _ hx;have h2:=he.o _ _ hy;simp only[af] at h2
    subst hi;have hs:=run_sizeOf (T:=E) hn h0 w;refine⟨.slice a h cap,?_,BY hh hc hm hel⟩;have hle:h≤cap:=by omega
    cases a with
    | none=>
      simp[execOp,hv,h2,Instr.sliceAt,Instr.slice,Instr.sliceBounds,Instr.sliceBound,asIntOf,run_underlying hT,hs,hle]
    | some ad=>
      simp[execOp,hv,h2,Instr.sliceAt,Instr.slice,Instr.sliceBounds,Instr.sliceBound,asIntOf,run_underlying hT,hs,hle,Addr.add]
def tB(tmps:Array Value):ResultVar→Sem Value
 | .tmp t=>pure (tmps.getD t undef)
 | .cell a t=>do loadVar t (←asAddr (tmps.getD a undef))
inductive PF(P:Program)(hs:List HP)(env:Env):ResultVar→VP→Prop
 |rt {t:Tmp} {q:VP} (h:look env t=some q):PF P hs env (.tmp t) q
 |rc {t:Tmp} {T:TypeId} {b off i:Nat} {cs:List VP} {q:VP} (hT:jc P T=some false) (h:look env t=some (ai b off)) (hi:hs[i]?=some (aF b cs)) (hc:cs[off]?=some q):PF P hs env (.cell t T) q
 |ra {t:Tmp} {T:TypeId} {b off i n:Nat} {cs:List VP} (hT:jc P T=some true) (hn:P.cellsOf T=n) (h0:Nat.blt 0 n=true) (h:look env t=some (ai b off)) (hi:hs[i]?=some (aF b cs)) (hl:Nat.ble (off+n) cs.length=true):PF P hs env (.cell t T) (aK ((cs.drop off).take n))
theorem PF.run{hs:List HP}{env:Env}{r:ResultVar}{q:VP}(h:PF P hs env r q){S F:BS}{w:World}{tmps:Array Value}(ho:cT hs F S w)(he:cn env S w tmps):
    ∃v,(tB tmps r).run P w= .ok v w∧q.p S w v:=by
  cases h with
  |rt h=>exact⟨_,rfl,he _ _ h⟩
  | rc hT h hi hc=>
    have hv:=he _ _ h;simp only[af] at hv
    obtain⟨F1,_,hp⟩:=ho.get hi;obtain⟨v,qI,hq⟩:=jD hp _ q hc;refine⟨v,?_,hq⟩;simp only[tB,hv,asAddr];simp only[Sem.run_bind,Sem.run_pure,Result.andThen_ok];unfold loadVar;rw[bh (dz hT w)];simp only[Nat.zero_add] at qI;simp[qI]
  | @ra t T b off i n cs hT hn h0 h hi hl=>
    have hv:=he _ _ h;simp only[af] at hv
    obtain⟨F1,_,hp⟩:=ho.get hi;have hl':=Nat.le_of_ble_eq_true hl;have hc:=(jD hp).drop off;simp only[Nat.zero_add] at hc;obtain⟨v,hr,hq⟩:=l7 hT hn h0 (cs:=(cs.drop off).take n) (by simp only[List.length_take,List.length_drop];omega) (hc.take n);refine⟨v,?_,hq⟩;simp only[tB,hv,asAddr];simp only[Sem.run_bind,Sem.run_pure,Result.andThen_ok,hr]
inductive vH(P:Program)(hs:List HP)(env:Env):List ResultVar→List VP→Prop
 |nil:vH P hs env [] []
 |cons {r:ResultVar} {rs:List ResultVar} {q q':VP} {qs:List VP} (h:PF P hs env r q) (hq:ag q q') (t:vH P hs env rs qs):vH P hs env (r::rs) (q'::qs)
theorem vH.run{hs:List HP}{env:Env}{rs:List ResultVar}{qs:List VP}(h:vH P hs env rs qs){S F:BS}{w:World}{tmps:Array Value}(ho:cT hs F S w)(he:cn env S w tmps):
    ∃vs:List Value,(rs.mapM fun r=>(tB tmps r)).run P w= .ok vs w∧e9 qs S w vs:=by
  induction h with
  |nil=>exact⟨[],by simp,rfl,fun _ _ _ h=>by simp at h⟩
  | cons h hq _ ih=>
    obtain⟨v,hv,hp⟩:=h.run ho he;obtain⟨vs,hvs,hl,ha⟩:=ih;refine⟨v::vs,by simp only[List.mapM_cons,Sem.run_bind,hv,hvs,Result.andThen_ok,Sem.run_pure],by simp[hl],fun j p u hp' hu=>?_⟩;cases j with
    |zero=>simp at hp' hu;subst hp';subst hu;exact hq _ _ _ hp
    |succ j=>exact ha j p u (by simpa using hp') (by simpa using hu)
theorem oQ{fn:Func}{rs:List ResultVar}(hr:fn.results=rs.toArray){hs:List HP}{env:Env}{qs:List VP}(h:vH P hs env rs qs){S F:BS}{w:World}{tmps:Array Value}(ho:cT hs F S w)(he:cn env S w tmps):
    ∃vs:List Value,(results fn tmps).run P w= .ok (if h:vs.toArray.size=1 then vs.toArray[0] else .tuple vs.toArray) w∧e9 qs S w vs:=by
  obtain⟨vs,h1,h2⟩:=h.run ho he;refine⟨vs,?_,h2⟩
  have hm:(rs.toArray.mapM (tB tmps)).run P w= .ok vs.toArray w:=by
    rw[List.mapM_toArray];simp only[Sem.run_map,h1,Result.andThen_ok]
  have hfun:results fn tmps=(do let vs←rs.toArray.mapM (tB tmps);pure (if h:vs.size=1 then vs[0] else .tuple vs)):=by
    unfold results;rw[hr]
    congr 2
  rw[hfun,bh hm];rfl
theorem Post.aO{fn:Func}{c:Ctx}{γ:Type}{φ:γ→Prop}{hs':γ→List HP}{q:γ→VP}{r:ResultVar}{q0:VP}
    (hr:fn.results= #[r]) (g:γ) (hφ:φ g) (hh:∀F S w,cT hs F S w→cT (hs' g) F S w) (h:PF P hs env r q0) (hq:ag q0 (q g)) (hdf:c.df=[]:=by rfl):bx (Post P fn c φ hs' q) .ret c hs env:=by
  intro a w hst;obtain⟨h1,h2,S,F,h3,h4,h5⟩:=hst;obtain⟨vs,e1,e2⟩:=oQ (P:=P) hr (vH.cons h hq vH.nil) h4 h5
  match vs,e2 with
  | [v],e2=>
    refine⟨h1.trans hdf,v,e1,_,S,F,g,rfl,⟨h3.os,h3.tape,h3.output,h3.size,h3.kept,h3.cR,h3.bD,h3.bO,h3.own,h3.shr,h3.base⟩,hφ,hh _ _ _ h4,e2.2 0 _ v rfl rfl⟩
theorem Post.bY{fn:Func}{c:Ctx}{γ:Type}{φ:γ→Prop}{hs':γ→List HP}{q:γ→VP}{rs:List ResultVar}{qs:List VP}
    (hr:fn.results=rs.toArray) (hn:Nat.beq qs.length 1=false) (g:γ) (hφ:φ g) (hh:∀F S w,cT hs F S w→cT (hs' g) F S w) (hq:q g=aS qs) (h:vH P hs env rs qs) (hdf:c.df=[]:=by rfl):bx (Post P fn c φ hs' q) .ret c hs env:=by
  intro a w hst;obtain⟨h1,h2,S,F,h3,h4,h5⟩:=hst;obtain⟨vs,e1,e2⟩:=oQ (P:=P) hr h h4 h5
  have hne:¬vs.toArray.size=1:=by
    rw[List.size_toArray,←e2.1];intro e;rw[e] at hn;cases hn
  rw[dif_neg hne] at e1;exact⟨h1.trans hdf,_,e1,_,S,F,g,rfl,⟨h3.os,h3.tape,h3.output,h3.size,h3.kept,h3.cR,h3.bD,h3.bO,h3.own,h3.shr,h3.base⟩,hφ,hh _ _ _ h4,by rw[hq];exact⟨vs.toArray,rfl,by simpa using e2⟩⟩
theorem St.nF{K:Act→World→Prop}{c:Ctx}{α:Type}{g:SB}{n i j f b:Nat}{enc:α→List VP}{xs:List α}{cs:List VP}[he:iy n enc](hi:hs[i]?=some (aI g n enc xs))(hj:(hs.eraseIdx i)[j]?=some (aF b cs))(hf:cs[f]?=some (af (bA g xs.length)))
    (h:∀a w,St c ((hs.eraseIdx i).set j (aF b (cs.set f (an n enc xs)))) env a w→K a w):∀a w,St c hs env a w→K a w:=by
  intro a w ⟨h1,h2,S,F,h3,h4,h5⟩;obtain⟨F1,F2,f1,f2,f3,f5,_⟩:=h4.ue hi;obtain⟨G1,G2,g1,g2,g3,_,g4⟩:=f5.ue hj;obtain⟨hFb,arr,T,hh,hn,hc⟩:=g3;have hfl:f<cs.length:=(List.getElem?_eq_some_iff.1 hf).1
  have key:∃S':BS,(∀k,S k→S' k)∧(∀k,S' k→S k∨F1 k)∧∀u,arr[f]?=some u→(an n enc xs).p S' w u:=by
    cases g with
    | none=>
      have hxs:xs=[]:=f3;subst hxs;refine⟨S,fun _ h=>h,fun _ h=> .inl h,fun u hu=>?_⟩;obtain⟨u',Eu,hq⟩:=hc f _ hf;rw[hu] at Eu;cases Eu
      exact⟨none,0,hq,by simp,by simp,rfl⟩
    | some bc=>
      obtain⟨b',cap⟩:=bc;obtain⟨hFb',hl,hm,arr',T',hh',hn',Qs⟩:=f3;have hS:∀k,S k→S k∨k=b':=fun _ h=> .inl h;have Ab:bQ (fun k=>S k∨k=b') w b' 0 (xs.flatMap enc):=fun j q hj=>let ⟨u,hu,hq⟩:=Qs j q hj;⟨u,by simp[World.cell?,hh',hu],q.mono hS (fun _ _=>rfl) hq⟩
      refine⟨fun k=>S k∨k=b',hS,fun k hk=>hk.elim .inl (fun e=> .inr (e▸hFb')),fun u hu=>?_⟩;obtain⟨u',Eu,hq⟩:=hc f _ hf;rw[hu] at Eu;cases Eu
      exact⟨some ⟨b',0,none⟩,cap,hq,hl,hm,fun _=>⟨rfl, .inr rfl,fun i x hx=>jf he.len Ab i x hx⟩⟩
  obtain⟨S',s1,s2,s3⟩:=key;have hG:∀k,G1 k→¬F1 k:=fun k hk hf'=>(f1 k hf').2 (g1 k hk).1;have hnew:=g4 S' G1 w (aF b (cs.set f (an n enc xs))) (fun k hk=>(g1 k hk).2) s1 (fun _ _=>rfl) (fun _ _=>rfl) ⟨hFb,arr,T,hh,by simp[hn],fun t q ht=>?_⟩
  · refine h a w ⟨h1,h2,S',F2,⟨h3.os,h3.tape,h3.output,h3.size,h3.kept,?_,?_,fun k hk=>h3.bO k (f2 k hk),fun k hk=>h3.own k (f2 k hk),?_,fun k hk=>s1 k (h3.base k hk)⟩,
      hnew.mono (fun k hk=>hk.elim (fun h=>(g1 k h).1) (g2 k)) (fun _ h=>h) (fun _ _=>rfl) (fun _ _=>rfl),h5.mono s1 (fun _ _=>rfl)⟩
    · exact fun k hk hf'=>(s2 k hk).elim (fun h=>h3.cR k h (f2 k hf')) (fun h=>(f1 k h).2 hf')
    · exact fun k hk=>(s2 k hk).elim (h3.bD k) (fun h=>h3.bO k (f1 k h).1)
    · exact fun k hk=>(s2 k hk).elim (h3.shr k) (fun h=>by
        rcases h3.own k (f1 k h).1 with h|h
        · exact .inr (.inl h)
        · exact .inr (.inr h))
  · rw[List.getElem?_set] at ht
    by_cases e:f=t
    · subst e
      rw[if_pos rfl,if_pos hfl] at ht;cases ht
      obtain⟨u',Eu,_⟩:=hc f _ hf;exact⟨u',Eu,s3 u' Eu⟩
    · rw[if_neg e] at ht
      obtain⟨u,hu,hq⟩:=hc t q ht;exact⟨u,hu,q.mono s1 (fun _ _=>rfl) hq⟩
theorem aJ.nF{Q:Exit→Act→World→Prop}{c:Ctx}{s:Code}{α:Type}{g:SB}{n i j f b:Nat}{enc:α→List VP}{xs:List α}{cs:List VP}[he:iy n enc](hi:hs[i]?=some (aI g n enc xs))(hj:(hs.eraseIdx i)[j]?=some (aF b cs))(hf:cs[f]?=some (af (bA g xs.length)))
    (h:aJ P Q c s ((hs.eraseIdx i).set j (aF b (cs.set f (an n enc xs)))) env):aJ P Q c s hs env:=St.nF hi hj hf h
inductive Nw:List VP→List VP→Prop
 |nil:Nw [] []
 |cons {q q':VP} {a b:List VP} (h:ag q q') (t:Nw a b):Nw (q::a) (q'::b)
theorem Nw.get{a b:List VP}(h:Nw a b):∀(j:Nat) (q':VP),b[j]?=some q'→∃q,a[j]?=some q∧ag q q':=by
 induction h with
 |nil=>intro j q' h;simp at h
 |cons h t ih=>
  intro j q' hj;cases j with
  |zero=>simp at hj;subst hj;exact⟨_,rfl,h⟩
  |succ j=>obtain⟨q,h1,h2⟩:=ih j q' (by simpa using hj);exact⟨q,by simpa using h1,h2⟩
theorem Nw.len{a b:List VP}(h:Nw a b):a.length=b.length:=by
 induction h with
 |nil=>rfl
 |cons _ _ ih=>simp[ih]
theorem ag.agg{a b:List VP}(h:Nw a b):ag (aK a) (aK b):=fun S w v ⟨arr,hv,hn,hc⟩=>⟨arr,hv,by rw[hn,h.len],fun j q' hj=>let ⟨q,h1,h2⟩:=h.get j q' hj;let ⟨u,hu,hq⟩:=hc j q h1;⟨u,hu,h2 _ _ _ hq⟩⟩
theorem cu{α:Type}{xs:List α}{k:Nat}{x:α}(h:xs[k]?=some x):xs.take k++[x]=xs.take (k+1):=by
 obtain⟨h1,h2⟩:=List.getElem?_eq_some_iff.1 h;rw[List.take_succ_eq_append_getElem h1,h2]
theorem ah{α:Type}{xs:List α}{k:Nat}(h:k<xs.length):∃x,xs[k]?=some x:=⟨xs[k],by simp[h]⟩
end
end Go.Hl
end
