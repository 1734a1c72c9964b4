/-
  What the statement's proof leans on, several texts in one (packed by a program).
-/
import Derived.Test.YtpfobikpggmleaaGreatDoorSBA
set_option linter.all false
set_option maxRecDepth 1000000
set_option maxHeartbeats 4000000
section
namespace Go.Hl
open Go.RowKit
section
variable {P:Program} {hs:List HP} {env:Env} {q:VP} {dst:Option Tmp} {ty T T2 T' E:TypeId} {pos:String} {after:Array Edge} {gd:Option (Nat×Bool)} {x y z:Operand}
class bH(cs:List VP):Prop where
 flat:∀q,q∈cs→Flat q
instance:bH []:=⟨fun _ h=>by cases h⟩
instance {q:VP} {cs:List VP} [h:Flat q] [t:bH cs]:bH (q::cs):=⟨fun p hp=>by
 rcases List.mem_cons.1 hp with e|e
 · rw[e];exact h
 · exact t.flat p e⟩
instance {cs:List VP} {n:Nat} [h:bH cs]:bH (cs.take n):=⟨fun q hq=>h.flat q (List.mem_of_mem_take hq)⟩
instance {cs:List VP} {n:Nat} [h:bH cs]:bH (cs.drop n):=⟨fun q hq=>h.flat q (List.mem_of_mem_drop hq)⟩
instance:bH (List.map aa []):=⟨fun q hq=>by cases hq⟩
instance {v:Value} {vs:List Value} [h:Flat (aa v)] [t:bH (List.map aa vs)]:bH (List.map aa (v::vs)):=⟨fun q hq=>by
 rcases List.mem_cons.1 hq with e|e
 · rw[e];exact h
 · exact t.flat q e⟩
theorem Bw:∀(a b:List VP) (q:VP),q∈uS a b→q∈a∨q∈b
 |[],b,q,h=> .inr h
 |x::a,[],q,h=> .inl h
 |x::a,y::b,q,h=>by
  rcases List.mem_cons.1 h with e|e
  · exact .inl (by rw[e];exact List.mem_cons_self ..)
  · rcases Bw a b q e with e|e
    · exact .inl (List.mem_cons_of_mem _ e)
    · exact .inr (List.mem_cons_of_mem _ e)
theorem xC:∀(k:Nat) (a b:List VP) (q:VP),q∈fS k a b→q∈a∨q∈b
 |0,a,b,q,h=>Bw a b q h
 |k+1,a,[],q,h=>by cases h
 |k+1,a,y::b,q,h=>by
  rcases List.mem_cons.1 h with e|e
  · exact .inr (by rw[e];exact List.mem_cons_self ..)
  · rcases xC k a b q e with e|e
    · exact .inl e
    · exact .inr (List.mem_cons_of_mem _ e)
instance {a b:List VP} {k:Nat} [h1:bH a] [h2:bH b]:bH (fS k a b):=⟨fun q hq=>(xC k a b q hq).elim (h1.flat q) (h2.flat q)⟩
theorem gJ{cs new:List VP}{b off i n:Nat}[hfl:bH new](hn:P.cellsOf T=n)(h0:Nat.blt 0 n=true)(hx:bx env x (aD b off))(hy:bx env y (aC new))(qY:Nat.beq new.length n=true)(hi:hs[i]?=some (ax b cs))(hl:Nat.ble (off+n) cs.length=true):
    fZ P hs env ⟨none, .store T x y,ty,pos,after,gd⟩ (γ:=Unit) (fun _=>True) (fun _=>hs.set i (ax b (fS off new cs))) (fun _=>aa undef):=by
  intro c a w S F aH hown he K Q hk;have hv:=hx S w a he;simp only[aa] at hv
  obtain⟨arr,Bt,Ui,EA⟩:=hy S w a he;have hl':off+n≤cs.length:=by simpa using hl
  have Oj:new.length=n:=by simpa using qY
  obtain⟨F1,F2,f1,f2,f3,_,f4⟩:=hown.xA hi;obtain⟨hFb,cur,E',hb,hsz,hc⟩:=f3
  have hone:∀v∈arr.toList,v.oneCell'=true:=by
    intro v o9;obtain⟨j,hj⟩:=List.mem_iff_getElem?.1 o9;have hjl:j<new.length:=by have:=(List.getElem?_eq_some_iff.1 hj).1;simp at this;omega
    obtain⟨u,hu,hq⟩:=EA j _ (List.getElem?_eq_getElem hjl);have:u=v:=by simp at hj hu;rw[hj] at hu;exact(Option.some.inj hu).symm
    subst this;exact((hfl.flat _ (List.getElem_mem hjl)).flat hq).2
  obtain⟨w',arr',k1,k2,k3,k4,k5,k6,k7,k8,k9,NQ⟩:=jd (P:=P) (b:=b) (off:=off) (T:=E') arr.toList 0 w cur hone hb (by simp[Ui,hsz];omega)
  have hr:(execOp a.eval ⟨none, .store T x y,ty,pos,after,gd⟩).run P w= .ok .skip w':=by
    have hs:=run_sizeOf hn h0 w;have hne:¬arr.size≠n:=by simp[Ui,Oj]
    simp[execOp,hv,Bt,Instr.storeAt,Instr.sureAddr,storeVar,hs,Value.cells,Ui,Oj,k1]
  unfold Oper.wp;rw[hr];have hag:∀k,S k→w'.heap[k]?=w.heap[k]?:=fun k hk=>k6 k (fun e=>aH.dJ k hk (e▸(f1 b hFb).1));refine hk () undef w' S F trivial (aH.write (f1 b hFb).1 k2 k3 k4 k5 k6) (fun _ h=>h) hag ?_ rfl
  have:=f4 S F1 w' (ax b (fS off new cs)) (fun k hk=>(f1 k hk).2) (fun _ h=>h) (fun k hk=>k6 k (fun e=>(f1 b hFb).2 (e▸hk))) hag
    ⟨hFb,arr',E',k7,by rw[k8,hsz,rJ off new cs (by omega)],fun j q' hj=>?_⟩
  · exact this.mono (fun k hk=>hk.elim (fun h=>(f1 k h).1) (f2 k)) (fun _ h=>h) (fun _ _=>rfl) (fun _ _=>rfl)
  · rw[ou off new cs j (by omega)] at hj
    by_cases h1:off≤j∧j<off+new.length
    · rw[if_pos h1] at hj
      obtain⟨u,hu,hq⟩:=EA _ q' hj;have:=NQ (j-off) u (by simpa using hu);exact⟨u,by rwa [show off+0+(j-off)=j by omega] at this,q'.mono (fun _ h=>h) hag hq⟩
    · rw[if_neg h1] at hj
      obtain⟨u,hu,hq⟩:=hc j q' hj;have hlen:arr.toList.length=new.length:=by simp[Ui]
      exact⟨u,by rw[k9 j (by rw[hlen];omega)];exact hu,q'.mono (fun _ h=>h) hag hq⟩
def zeroV(zs:List Value)(m:Nat):List VP:=(List.range m).map fun i=>aa (zs[i%zs.length]!)
theorem nx{α:Type}{n len:Nat}{enc:α→List VP}{ys:List α}{ps:List (Nat×Operand)}{pcs:List (Nat×List VP)}{zs:List Value}{cs:List VP}(hT:P.underlying T=some (.slice E))(hn:P.cellsOf E=n)(h0:Nat.blt 0 n=true)
    (hz:jI P E=some zs) (hzl:zs.length=n) (hp:lH env ps pcs) (yz:Nat.ble (len*n) 16777216=true) (hf:rI (fun i=>some (i*n,n)) (zeroV zs (len*n)) pcs=some cs) {S:BS} {w:World} {a:Act} (he:cS env S w a.tmps):
    ∃arr,(execOp a.eval ⟨dst, .buildSlice T len ps.toArray,ty,pos,after,gd⟩).run P w= .ok (.value (.slice (some ⟨w.heap.size,0,none⟩) len len)) {w with heap:=w.heap.push (.cells arr E)}∧sO S w arr cs:=by
  have hn0:0<n:=by simpa using h0
  obtain⟨z,Ez,wq⟩:=gH hz w;obtain⟨g1,g2⟩:=hp S w a he;have bj9:len*n≤16777216:=by simpa using yz
  have WC:z.cells.size=n:=by rw[wq];simpa using hzl
  obtain⟨arr',r1,r2⟩:=yy (S:=S) (w:=w) (place:=fun i=>some (i*n,n)) (ps.map fun(i,x)=>(i,a.eval x)) pcs (zeroV zs (len*n)) ((Array.range (len*n)).map (z.cells[· %z.cells.size]!)) cs
    ⟨by simp[zeroV],fun j q hj=>by
      unfold zeroV at hj;rw[List.getElem?_map] at hj;by_cases hjl:j<len*n
      · rw[List.getElem?_range hjl] at hj
        simp at hj;subst hj
        refine⟨z.cells[j%z.cells.size]!,by simp[hjl],?_⟩
        show _=_
        rw[wq];simp
      · rw[List.getElem?_eq_none (by simp;omega)] at hj;cases hj⟩ (by simpa using g1)
    (fun t p c ht hc=>by
      rw[List.getElem?_map] at ht;cases hpt:ps[t]? with
      |none=>rw[hpt] at ht;cases ht
      |some p0=>rw[hpt] at ht;cases ht;exact g2 t p0 c hpt hc) hf
  refine⟨arr',?_,r2⟩;have hs:=run_sizeOf hn h0 w;have hnb:¬(len*n>2^24):=by omega
  have e:(ps.toArray.map fun x=>(x.1,a.eval x.2)).toList=ps.map fun x=>(x.1,a.eval x.2):=by simp
  have r1':Instr.fill (fun i=>some (i*n,n)) ((Array.range (len*n)).map (z.cells[· %z.cells.size]!)) (ps.map fun x=>(x.1,a.eval x.2))=some arr':=by simpa using r1
  by_cases hl0:len*n=0
  · have WE:∀f:Nat→Value,(Array.range (len*n)).map f= #[]:=fun f=>Array.eq_empty_of_size_eq_zero (by simp[hl0])
    rw[WE] at r1';simp only[execOp,Instr.buildSlice,Sem.run_bind,run_underlying hT,Result.andThen_ok,hs];rw[if_neg hnb,if_pos hl0];simp only[Sem.run_pure,Result.andThen_ok,WE,e,r1',newRow,Sem.run_bind,run_newObj]
  · simp only[execOp,Instr.buildSlice,Sem.run_bind,run_underlying hT,Result.andThen_ok,hs]
    rw[if_neg hnb,if_neg hl0];simp only[Sem.run_bind,Ez,Result.andThen_ok,Sem.run_pure,e,r1',newRow,run_newObj]
theorem bI{α:Type}{n len:Nat}{enc:α→List VP}(ys:List α){ps:List (Nat×Operand)}{pcs:List (Nat×List VP)}{zs:List Value}{cs:List VP}[pz:gZ n enc](hT:P.underlying T=some (.slice E))(hn:P.cellsOf E=n)(h0:Nat.blt 0 n=true)
    (hz:jI P E=some zs) (hzl:zs.length=n) (hp:lH env ps pcs) (yz:Nat.ble (len*n) 16777216=true) (hf:rI (fun i=>some (i*n,n)) (zeroV zs (len*n)) pcs=some cs) (hcs:cs=ys.flatMap enc) (hl:ys.length=len) (hs2:Nat.ble len 16777216=true):
    bp P hs env ⟨dst, .buildSlice T len ps.toArray,ty,pos,after,gd⟩ (ai n enc ys):=by
  intro a w S F h1 h2 h3 h4 he K Q hk;obtain⟨arr,hr,VT⟩:=nx (enc:=enc) (ys:=ys) (dst:=dst) (ty:=ty) (pos:=pos) (after:=after) (gd:=gd) hT hn h0 hz hzl hp yz hf he;unfold Oper.wp;rw[hr];have hs2':len≤16777216:=by simpa using hs2
  refine hk _ _ _ (Grow.new1 w S (.cells arr E)) ⟨some ⟨w.heap.size,0,none⟩,len,by rw[hl],by omega,by omega,fun _=>⟨rfl, .inr rfl,fun i x hi=>?_⟩⟩;exact jB pz.len (wo h1 (hcs▸VT.1) (hcs▸VT.2)) i x hi
theorem cg{α:Type}{n len:Nat}(enc:α→List VP)(ys:List α){ps:List (Nat×Operand)}{pcs:List (Nat×List VP)}{zs:List Value}{cs:List VP}[pz:gZ n enc](hT:P.underlying T=some (.slice E))(hn:P.cellsOf E=n)(h0:Nat.blt 0 n=true)
    (hz:jI P E=some zs) (hzl:zs.length=n) (hp:lH env ps pcs) (yz:Nat.ble (len*n) 16777216=true) (hf:rI (fun i=>some (i*n,n)) (zeroV zs (len*n)) pcs=some cs) (hcs:cs=ys.flatMap enc) (hl:ys.length=len) (hs2:Nat.ble len 16777216=true):
    fZ P hs env ⟨dst, .buildSlice T len ps.toArray,ty,pos,after,gd⟩ (γ:=SB) (fun _=>True) (fun g=>av g n enc ys::hs) (fun g=>aa (bt g ys.length)):=by
  intro c a w S F aH hown he K Q hk;obtain⟨arr,hr,VT⟩:=nx (enc:=enc) (ys:=ys) (dst:=dst) (ty:=ty) (pos:=pos) (after:=after) (gd:=gd) hT hn h0 hz hzl hp yz hf he;unfold Oper.wp;rw[hr];have hs2':len≤16777216:=by simpa using hs2
  refine hk (some (w.heap.size,len)) _ _ S _ trivial (aH.eV _) (fun _ h=>h) (fun k hk=>bF w _ k (aH.bR k hk)) (hown.eV aH.bR aH.cq _ ⟨rfl,by omega,by omega,arr,E,by simp,?_,fun j q hj=>?_⟩) (by simp[bt,aa,hl])
  · rw[VT.1,hcs,fD pz.len,hl]
  · obtain⟨u,hu,hq⟩:=VT.2 j q (by rw[hcs];exact hj)
    exact⟨u,hu,(Grow.Uf w S (.cells arr E)).vp aH.bR hq⟩
def Uj(P:Program)(T:TypeId):Option (Nat×Nat):=
 match P.underlying T with
 |some (.array len e)=>if 0<P.cellsOf e then some (len,P.cellsOf e) else none
 |_=>none
theorem hU{ps:List (Nat×Operand)}{pcs:List (Nat×List VP)}{len n:Nat}{zs:List Value}{cs:List VP}(rC:Uj P T=some (len,n))(hz:jI P T=some zs)(hp:lH env ps pcs)(hf:rI (fun i=>some (i*n,n)) (zs.map aa) pcs=some cs):
    bp P hs env ⟨dst, .build T ps.toArray,ty,pos,after,gd⟩ (aC cs):=by
  intro a w S F h1 h2 h3 h4 he K Q hk;obtain⟨z,Ez,wq⟩:=gH hz w;unfold Uj at rC
  split at rC
  · rename_i len' e hu
    split at rC
    · rename_i hpos
      simp only[Option.some.injEq,Prod.mk.injEq] at rC;obtain⟨rfl,hn⟩:=rC;obtain⟨g1,g2⟩:=hp S w a he
      obtain⟨arr',r1,r2⟩:=yy (S:=S) (w:=w) (place:=fun i=>some (i*n,n)) (ps.map fun(i,x)=>(i,a.eval x)) pcs (zs.map aa) z.cells cs
        ⟨by rw[wq];simp,fun j q hj=>by
          rw[List.getElem?_map] at hj;cases Of:zs[j]? with
          |none=>rw[Of] at hj;cases hj
          |some u=>rw[Of] at hj;cases hj;exact⟨u,by rw[wq];simpa using Of,rfl⟩⟩ (by simpa using g1)
        (fun t p c ht hc=>by
          rw[List.getElem?_map] at ht;cases hpt:ps[t]? with
          |none=>rw[hpt] at ht;cases ht
          |some p0=>rw[hpt] at ht;cases ht;exact g2 t p0 c hpt hc) hf
      have hs:=run_sizeOf (P:=P) (T:=e) hn (by simp;omega) w
      have hr:(execOp a.eval ⟨dst, .build T ps.toArray,ty,pos,after,gd⟩).run P w= .ok (.value (.agg arr')) w:=by
        have e2:(ps.toArray.map fun x=>(x.1,a.eval x.2)).toList=ps.map fun x=>(x.1,a.eval x.2):=by simp
        have r1':Instr.fill (fun i=>some (i*n,n)) z.cells (ps.map fun x=>(x.1,a.eval x.2))=some arr':=by simpa using r1
        simp only[execOp,Instr.build,Sem.run_bind,Ez,Result.andThen_ok,run_underlying hu,hs,e2,r1',Sem.run_pure]
      unfold Oper.wp;rw[hr];exact hk _ w S (Grow.refl _ _) ⟨arr',rfl,r2.1,r2.2⟩
    · cases rC
  · cases rC
theorem uT{α:Type}{n len:Nat}{enc:α→List VP}(xs:List α){cs:List VP}{k:IntKind}{i:Int}{j:Nat}{e:α}[pz:gZ n enc](hT:P.underlying T=some (.array len E))(hn:P.cellsOf E=n)(h0:Nat.blt 0 n=true)(hag:kI P E=some true)
    (hx:bx env x (aC cs)) (hcs:cs=xs.flatMap enc) (hlen:xs.length=len) (hy:bx env y (ag k i)) (hi:i=(j:Int)) (hj:xs[j]?=some e):bp P hs env ⟨dst, .index T x y,ty,pos,after,gd⟩ (aC (enc e)):=
  bp.aL fun ρ w S F _ he=>by
    obtain⟨arr,hv,hsz,hc⟩:=he.o _ _ hx;have h2:=he.o _ _ hy;simp only[aa] at h2
    subst hi;subst hcs
    have hjl:j<xs.length:=(List.getElem?_eq_some_iff.1 hj).1;rw[fD pz.len] at hsz;have hs:=run_sizeOf (T:=E) hn h0 w;have hisA:=eN hag w;have hle:j*n+n≤arr.size:=by rw[hsz,←Nat.succ_mul];exact Nat.mul_le_mul_right n hjl
    refine⟨.agg (arr.extract (j*n) (j*n+n)),?_,_,rfl,by rw[pz.len];simp;omega,fun t q ht=>?_⟩
    · have hc1:j<len:=by omega
      simp[execOp,hv,h2,Instr.index,asIntOf,run_underlying hT,hs,part,hisA,hc1]
    · have htl:t<n:=by rw[←pz.len e];exact(List.getElem?_eq_some_iff.1 ht).1
      obtain⟨u,hu,hq⟩:=hc _ q (nw pz.len xs j e t q hj ht);refine⟨u,?_,hq⟩;rw[Array.getElem?_extract];rw[if_pos (by omega)];exact hu
theorem jC{len:Nat}{cs:List VP}{k:IntKind}{i:Int}{j:Nat}(hT:P.underlying T=some (.array len E))(hn:P.cellsOf E=1)(hag:kI P E=some false)
    (hx:bx env x (aC cs)) (hlen:Nat.beq cs.length len=true) (hy:bx env y (ag k i)) (hi:i=(j:Int)) (hj:cs[j]?=some q):bp P hs env ⟨dst, .index T x y,ty,pos,after,gd⟩ q:=
  bp.aL fun ρ w S F _ he=>by
    obtain⟨arr,hv,hsz,hc⟩:=he.o _ _ hx;have h2:=he.o _ _ hy;simp only[aa] at h2
    subst hi;have hlen':cs.length=len:=by simpa using hlen
    have hjl:j<cs.length:=(List.getElem?_eq_some_iff.1 hj).1;have hs:=run_sizeOf (T:=E) hn rfl w;have hisA:=eN hag w;obtain⟨u,hu,hq⟩:=hc j q hj;refine⟨u,?_,hq⟩;have hc1:j<len:=by omega
    simp[execOp,hv,h2,Instr.index,asIntOf,run_underlying hT,hs,part,hisA,hc1,hu]
theorem CA{len n:Nat}{cs:List VP}{k:IntKind}{i:Int}(j:Nat)(hT:P.underlying T=some (.array len E))(hn:P.cellsOf E=n)(h0:Nat.blt 0 n=true)(hx:bx env x (bT cs))(hy:bx env y (ag k i))(hi:i=(j:Int))(hj:j<len):
    bp P hs env ⟨dst, .indexAddr T x y,ty,pos,after,gd⟩ (bT (cs.drop (j*n))):=
  bp.aL fun ρ w S F _ he=>by
    obtain⟨b,off,hv,hb,hc⟩:=he.o _ _ hx;have h2:=he.o _ _ hy;simp only[aa] at h2
    subst hi;have hs:=run_sizeOf (T:=E) hn h0 w
    have oS:Addr.add ⟨b,off,none⟩ (j*n)=⟨b,off+j*n,none⟩:=by
      unfold Addr.add
      split
      · rename_i h0;simp
      · rfl
    refine⟨_,?_,b,off+j*n,rfl,hb,hc.drop _⟩;have hc1:j<len:=by omega
    simp[execOp,hv,h2,Instr.indexAt,asIntOf,run_underlying hT,Instr.sureAddr,hs,oS,hc1]
theorem EC{α:Type}{n:Nat}{enc:α→List VP}{xs:List α}{S:BS}{w:World}{a:Option Addr}{cap h:Nat}(hh:h≤xs.length)(hc:xs.length≤cap)(hm:xs.length≤281474976710656)
    (he:match a with|none=>cap=0|some ad=>cap≠0→ad.spot=none∧S ad.block∧∀(i:Nat) (x:α),xs[i]?=some x→ck S w ad.block (ad.off+i*n) (enc x)):(ai n enc (xs.take h)).p S w (.slice a h cap):=by
  have hl:(xs.take h).length=h:=by simp;omega
  refine⟨a,cap,by rw[hl],by omega,by omega,?_⟩;cases a with
  |none=>exact he
  |some ad=>exact fun h0=>let he:=he h0;⟨he.1,he.2.1,fun i x hi=>he.2.2 i x (by
      rw[List.getElem?_take] at hi
      split at hi
      · exact hi
      · cases hi)⟩
theorem wv{α:Type}{n:Nat}{enc:α→List VP}{xs:List α}{k:IntKind}{i:Int}{h:Nat}(hT:P.underlying T=some (.slice E))(hn:P.cellsOf E=n)(h0:Nat.blt 0 n=true)(hx:bx env x (ai n enc xs))(hy:bx env y (ag k i))(hi:i=(h:Int))(hh:h≤xs.length):
    bp P hs env ⟨dst, .slice T x none (some y) none,ty,pos,after,gd⟩ (ai n enc (xs.take h)):=
  bp.aL fun ρ w S F _ he=>by
    obtain⟨a,cap,hv,hc,hm,hel⟩:=he.o _ _ hx;have h2:=he.o _ _ hy;simp only[aa] at h2
    subst hi;have hs:=run_sizeOf (T:=E) hn h0 w;refine⟨.slice a h cap,?_,EC hh hc hm hel⟩;have hle:h≤cap:=by omega
    cases a with
    | none=>
      simp[execOp,hv,h2,Instr.sliceAt,Instr.slice,Instr.sliceBounds,Instr.sliceBound,asIntOf,run_underlying hT,hs,hle]
    | some ad=>
      simp[execOp,hv,h2,Instr.sliceAt,Instr.slice,Instr.sliceBounds,Instr.sliceBound,asIntOf,run_underlying hT,hs,hle,Addr.add]
theorem Ls{α:Type}{n:Nat}{enc:α→List VP}{xs:List α}{k k':IntKind}{i i':Int}{l h:Nat}(hT:P.underlying T=some (.slice E))(hn:P.cellsOf E=n)(h0:Nat.blt 0 n=true)(hx:bx env x (ai n enc xs))(hy:bx env y (ag k i))(hz:bx env z (ag k' i'))
    (hi:i=(l:Int)) (hi':i'=(h:Int)) (hlh:l≤h) (hh:h≤xs.length):bp P hs env ⟨dst, .slice T x (some y) (some z) none,ty,pos,after,gd⟩ (ai n enc ((xs.take h).drop l)):=
  bp.aL fun ρ w S F _ he=>by
    obtain⟨a,cap,hv,hc,hm,hel⟩:=he.o _ _ hx;have h2:=he.o _ _ hy;simp only[aa] at h2
    have h3:=he.o _ _ hz;simp only[aa] at h3
    subst hi;subst hi'
    have hs:=run_sizeOf (T:=E) hn h0 w;have hle:h≤cap:=by omega
    have hle2:l≤h:=by omega
    refine⟨.slice (if cap=l then a else a.map (·.add (l*n))) (h-l) (cap-l),?_,?_⟩
    · simp[execOp,hv,h2,h3,Instr.sliceAt,Instr.slice,Instr.sliceBounds,Instr.sliceBound,asIntOf,run_underlying hT,hs,hle,hle2]
    · have hlen:((xs.take h).drop l).length=h-l:=by simp;omega
      refine⟨_,cap-l,by rw[hlen],by omega,by omega,?_⟩;by_cases qf:cap=l
      · rw[if_pos qf]
        cases a with
        |none=>show cap-l=0;omega
        | some ad=>
          exact fun h0=>absurd (by omega) h0
      · rw [if_neg qf]
        cases a with
        |none=>show cap-l=0;have h9:cap=0:=hel;omega
        | some ad=>
          obtain⟨b,off,sp⟩:=ad;obtain⟨h4,h5,h6⟩:=hel (by omega);simp only at h4 h5 h6;subst h4
          have oS:Addr.add ⟨b,off,none⟩ (l*n)=⟨b,off+l*n,none⟩:=by
            unfold Addr.add
            split
            · rename_i h0;simp
            · rfl
          simp only[Option.map_some,oS];refine fun _=>⟨trivial,h5,fun i x hi=>?_⟩
          have hx':xs[l+i]?=some x:=by
            rw[List.getElem?_drop,List.getElem?_take] at hi
            split at hi
            · exact hi
            · cases hi
          have:=h6 _ x hx'
          rwa [Nat.add_mul,←Nat.add_assoc] at this
theorem Bx{α:Type}{n:Nat}{enc:α→List VP}{xs:List α}{k:IntKind}{i:Int}{l:Nat}(hT:P.underlying T=some (.slice E))(hn:P.cellsOf E=n)(h0:Nat.blt 0 n=true)(hx:bx env x (ai n enc xs))(hy:bx env y (ag k i))
    (hi:i=(l:Int)) (hlh:l≤xs.length):bp P hs env ⟨dst, .slice T x (some y) none none,ty,pos,after,gd⟩ (ai n enc (xs.drop l)):=
  bp.aL fun ρ w S F _ he=>by
    obtain⟨a,cap,hv,hc,hm,hel⟩:=he.o _ _ hx;have h2:=he.o _ _ hy;simp only[aa] at h2
    subst hi;have hs:=run_sizeOf (T:=E) hn h0 w;have hle2:l≤xs.length:=by omega
    refine⟨.slice (if cap=l then a else a.map (·.add (l*n))) (xs.length-l) (cap-l),?_,?_⟩
    · simp[execOp,hv,h2,Instr.sliceAt,Instr.slice,Instr.sliceBounds,Instr.sliceBound,asIntOf,run_underlying hT,hs,hle2]
    · have hlen:(xs.drop l).length=xs.length-l:=by simp
      refine⟨_,cap-l,by rw[hlen],by omega,by omega,?_⟩;by_cases qf:cap=l
      · rw[if_pos qf]
        cases a with
        |none=>show cap-l=0;omega
        | some ad=>
          exact fun h0=>absurd (by omega) h0
      · rw [if_neg qf]
        cases a with
        |none=>show cap-l=0;have h9:cap=0:=hel;omega
        | some ad=>
          obtain⟨b,off,sp⟩:=ad;obtain⟨h4,h5,h6⟩:=hel (by omega);simp only at h4 h5 h6;subst h4
          have oS:Addr.add ⟨b,off,none⟩ (l*n)=⟨b,off+l*n,none⟩:=by
            unfold Addr.add
            split
            · rename_i h0;simp
            · rfl
          simp only[Option.map_some,oS];refine fun _=>⟨trivial,h5,fun i x hi=>?_⟩;have hx':xs[l+i]?=some x:=by rw[List.getElem?_drop] at hi;exact hi
          have:=h6 _ x hx'
          rwa [Nat.add_mul,←Nat.add_assoc] at this
def wz(tmps:Array Value):ResultVar→Sem Value
 | .tmp t=>pure (tmps.getD t undef)
 | .cell a t=>do loadVar t (←asAddr (tmps.getD a undef))
inductive Tq(P:Program)(hs:List HP)(env:Env):ResultVar→VP→Prop
 |rt {t:Tmp} {q:VP} (h:look env t=some q):Tq P hs env (.tmp t) q
 |rc {t:Tmp} {T:TypeId} {b off i:Nat} {cs:List VP} {q:VP} (hT:kI P T=some false) (h:look env t=some (aD b off)) (hi:hs[i]?=some (ax b cs)) (hc:cs[off]?=some q):Tq P hs env (.cell t T) q
 |ra {t:Tmp} {T:TypeId} {b off i n:Nat} {cs:List VP} (hT:kI P T=some true) (hn:P.cellsOf T=n) (h0:Nat.blt 0 n=true) (h:look env t=some (aD b off)) (hi:hs[i]?=some (ax b cs)) (hl:Nat.ble (off+n) cs.length=true):Tq P hs env (.cell t T) (aC ((cs.drop off).take n))
theorem Tq.run{hs:List HP}{env:Env}{r:ResultVar}{q:VP}(h:Tq P hs env r q){S F:BS}{w:World}{tmps:Array Value}(ho:de hs F S w)(he:cS env S w tmps):
    ∃v,(wz tmps r).run P w= .ok v w∧q.p S w v:=by
  cases h with
  |rt h=>exact⟨_,rfl,he _ _ h⟩
  | rc hT h hi hc=>
    have hv:=he _ _ h;simp only[aa] at hv
    obtain⟨F1,_,hp⟩:=ho.get hi;obtain⟨v,o9,hq⟩:=lK hp _ q hc;refine⟨v,?_,hq⟩;simp only[wz,hv,asAddr];simp only[Sem.run_bind,Sem.run_pure,Result.andThen_ok];unfold loadVar;rw[bu (eN hT w)];simp only[Nat.zero_add] at o9;simp[o9]
  | @ra t T b off i n cs hT hn h0 h hi hl=>
    have hv:=he _ _ h;simp only[aa] at hv
    obtain⟨F1,_,hp⟩:=ho.get hi;have hl':=Nat.le_of_ble_eq_true hl;have hc:=(lK hp).drop off;simp only[Nat.zero_add] at hc;obtain⟨v,hr,hq⟩:=oq hT hn h0 (cs:=(cs.drop off).take n) (by simp only[List.length_take,List.length_drop];omega) (hc.take n);refine⟨v,?_,hq⟩;simp only[wz,hv,asAddr];simp only[Sem.run_bind,Sem.run_pure,Result.andThen_ok,hr]
inductive yh(P:Program)(hs:List HP)(env:Env):List ResultVar→List VP→Prop
 |nil:yh P hs env [] []
 |cons {r:ResultVar} {rs:List ResultVar} {q q':VP} {qs:List VP} (h:Tq P hs env r q) (hq:af q q') (t:yh P hs env rs qs):yh P hs env (r::rs) (q'::qs)
theorem yh.run{hs:List HP}{env:Env}{rs:List ResultVar}{qs:List VP}(h:yh P hs env rs qs){S F:BS}{w:World}{tmps:Array Value}(ho:de hs F S w)(he:cS env S w tmps):
    ∃vs:List Value,(rs.mapM fun r=>(wz tmps r)).run P w= .ok vs w∧gW qs S w vs:=by
  induction h with
  |nil=>exact⟨[],by simp,rfl,fun _ _ _ h=>by simp at h⟩
  | cons h hq _ ih=>
    obtain⟨v,hv,hp⟩:=h.run ho he;obtain⟨vs,hvs,hl,ha⟩:=ih;refine⟨v::vs,by simp only[List.mapM_cons,Sem.run_bind,hv,hvs,Result.andThen_ok,Sem.run_pure],by simp[hl],fun j p u hp' hu=>?_⟩;cases j with
    |zero=>simp at hp' hu;subst hp';subst hu;exact hq _ _ _ hp
    |succ j=>exact ha j p u (by simpa using hp') (by simpa using hu)
theorem ow{fn:Func}{rs:List ResultVar}(hr:fn.results=rs.toArray){hs:List HP}{env:Env}{qs:List VP}(h:yh P hs env rs qs){S F:BS}{w:World}{tmps:Array Value}(ho:de hs F S w)(he:cS env S w tmps):
    ∃vs:List Value,(results fn tmps).run P w= .ok (if h:vs.toArray.size=1 then vs.toArray[0] else .tuple vs.toArray) w∧gW qs S w vs:=by
  obtain⟨vs,h1,h2⟩:=h.run ho he;refine⟨vs,?_,h2⟩
  have hm:(rs.toArray.mapM (wz tmps)).run P w= .ok vs.toArray w:=by
    rw[List.mapM_toArray];simp only[Sem.run_map,h1,Result.andThen_ok]
  have hfun:results fn tmps=(do let vs←rs.toArray.mapM (wz tmps);pure (if h:vs.size=1 then vs[0] else .tuple vs)):=by
    unfold results;rw[hr]
    congr 2
  rw[hfun,bu hm];rfl
theorem Post.aR{fn:Func}{c:Ctx}{γ:Type}{φ:γ→Prop}{hs':γ→List HP}{q:γ→VP}{r:ResultVar}{q0:VP}
    (hr:fn.results= #[r]) (g:γ) (hφ:φ g) (hh:∀F S w,de hs F S w→de (hs' g) F S w) (h:Tq P hs env r q0) (hq:af q0 (q g)) (hdf:c.df=[]:=by rfl):bN (Post P fn c φ hs' q) .ret c hs env:=by
  intro a w hst;obtain⟨h1,h2,S,F,h3,h4,h5⟩:=hst;obtain⟨vs,e1,e2⟩:=ow (P:=P) hr (yh.cons h hq yh.nil) h4 h5
  match vs,e2 with
  | [v],e2=>
    refine⟨h1.trans hdf,v,e1,_,S,F,g,rfl,⟨h3.os,h3.tape,h3.output,h3.size,h3.kept,h3.dJ,h3.bR,h3.cq,h3.own,h3.shr,h3.base⟩,hφ,hh _ _ _ h4,e2.2 0 _ v rfl rfl⟩
theorem Post.bk{fn:Func}{c:Ctx}{γ:Type}{φ:γ→Prop}{hs':γ→List HP}{q:γ→VP}{rs:List ResultVar}{qs:List VP}
    (hr:fn.results=rs.toArray) (hn:Nat.beq qs.length 1=false) (g:γ) (hφ:φ g) (hh:∀F S w,de hs F S w→de (hs' g) F S w) (hq:q g=bE qs) (h:yh P hs env rs qs) (hdf:c.df=[]:=by rfl):bN (Post P fn c φ hs' q) .ret c hs env:=by
  intro a w hst;obtain⟨h1,h2,S,F,h3,h4,h5⟩:=hst;obtain⟨vs,e1,e2⟩:=ow (P:=P) hr h h4 h5
  have hne:¬vs.toArray.size=1:=by
    rw[List.size_toArray,←e2.1];intro e;rw[e] at hn;cases hn
  rw[dif_neg hne] at e1;exact⟨h1.trans hdf,_,e1,_,S,F,g,rfl,⟨h3.os,h3.tape,h3.output,h3.size,h3.kept,h3.dJ,h3.bR,h3.cq,h3.own,h3.shr,h3.base⟩,hφ,hh _ _ _ h4,by rw[hq];exact⟨vs.toArray,rfl,by simpa using e2⟩⟩
theorem St.dO{K:Act→World→Prop}{c:Ctx}{α:Type}{g:SB}{n i j f b:Nat}{enc:α→List VP}{xs:List α}{cs:List VP}[he:gZ n enc](hi:hs[i]?=some (av g n enc xs))(hj:(hs.eraseIdx i)[j]?=some (ax b cs))(hf:cs[f]?=some (aa (bt g xs.length)))
    (h:∀a w,St c ((hs.eraseIdx i).set j (ax b (cs.set f (ai n enc xs)))) env a w→K a w):∀a w,St c hs env a w→K a w:=by
  intro a w ⟨h1,h2,S,F,h3,h4,h5⟩;obtain⟨F1,F2,f1,f2,f3,f5,_⟩:=h4.xA hi;obtain⟨G1,G2,g1,g2,g3,_,g4⟩:=f5.xA hj;obtain⟨hFb,arr,T,hh,hn,hc⟩:=g3;have hfl:f<cs.length:=(List.getElem?_eq_some_iff.1 hf).1
  have key:∃S':BS,(∀k,S k→S' k)∧(∀k,S' k→S k∨F1 k)∧∀u,arr[f]?=some u→(ai n enc xs).p S' w u:=by
    cases g with
    | none=>
      have hxs:xs=[]:=f3;subst hxs;refine⟨S,fun _ h=>h,fun _ h=> .inl h,fun u hu=>?_⟩;obtain⟨u',Hv,hq⟩:=hc f _ hf;rw[hu] at Hv;cases Hv
      exact⟨none,0,hq,by simp,by simp,rfl⟩
    | some bc=>
      obtain⟨b',cap⟩:=bc;obtain⟨hFb',hl,hm,arr',T',hh',hn',Uh⟩:=f3;have hS:∀k,S k→S k∨k=b':=fun _ h=> .inl h;have qf:ck (fun k=>S k∨k=b') w b' 0 (xs.flatMap enc):=fun j q hj=>let ⟨u,hu,hq⟩:=Uh j q hj;⟨u,by simp[World.cell?,hh',hu],q.mono hS (fun _ _=>rfl) hq⟩
      refine⟨fun k=>S k∨k=b',hS,fun k hk=>hk.elim .inl (fun e=> .inr (e▸hFb')),fun u hu=>?_⟩;obtain⟨u',Hv,hq⟩:=hc f _ hf;rw[hu] at Hv;cases Hv
      exact⟨some ⟨b',0,none⟩,cap,hq,hl,hm,fun _=>⟨rfl, .inr rfl,fun i x hx=>jB he.len qf i x hx⟩⟩
  obtain⟨S',s1,s2,s3⟩:=key;have hG:∀k,G1 k→¬F1 k:=fun k hk hf'=>(f1 k hf').2 (g1 k hk).1;have hnew:=g4 S' G1 w (ax b (cs.set f (ai n enc xs))) (fun k hk=>(g1 k hk).2) s1 (fun _ _=>rfl) (fun _ _=>rfl) ⟨hFb,arr,T,hh,by simp[hn],fun t q ht=>?_⟩
  · refine h a w ⟨h1,h2,S',F2,⟨h3.os,h3.tape,h3.output,h3.size,h3.kept,?_,?_,fun k hk=>h3.cq k (f2 k hk),fun k hk=>h3.own k (f2 k hk),?_,fun k hk=>s1 k (h3.base k hk)⟩,
      hnew.mono (fun k hk=>hk.elim (fun h=>(g1 k h).1) (g2 k)) (fun _ h=>h) (fun _ _=>rfl) (fun _ _=>rfl),h5.mono s1 (fun _ _=>rfl)⟩
    · exact fun k hk hf'=>(s2 k hk).elim (fun h=>h3.dJ k h (f2 k hf')) (fun h=>(f1 k h).2 hf')
    · exact fun k hk=>(s2 k hk).elim (h3.bR k) (fun h=>h3.cq k (f1 k h).1)
    · exact fun k hk=>(s2 k hk).elim (h3.shr k) (fun h=>by
        rcases h3.own k (f1 k h).1 with h|h
        · exact .inr (.inl h)
        · exact .inr (.inr h))
  · rw[List.getElem?_set] at ht
    by_cases e:f=t
    · subst e
      rw[if_pos rfl,if_pos hfl] at ht;cases ht
      obtain⟨u',Hv,_⟩:=hc f _ hf;exact⟨u',Hv,s3 u' Hv⟩
    · rw[if_neg e] at ht
      obtain⟨u,hu,hq⟩:=hc t q ht;exact⟨u,hu,q.mono s1 (fun _ _=>rfl) hq⟩
theorem aM.dO{Q:Exit→Act→World→Prop}{c:Ctx}{s:Code}{α:Type}{g:SB}{n i j f b:Nat}{enc:α→List VP}{xs:List α}{cs:List VP}[he:gZ n enc](hi:hs[i]?=some (av g n enc xs))(hj:(hs.eraseIdx i)[j]?=some (ax b cs))(hf:cs[f]?=some (aa (bt g xs.length)))
    (h:aM P Q c s ((hs.eraseIdx i).set j (ax b (cs.set f (ai n enc xs)))) env):aM P Q c s hs env:=St.dO hi hj hf h
theorem bN.dO{Q:Exit→Act→World→Prop}{c:Ctx}{e0:Exit}{α:Type}{g:SB}{n i j f b:Nat}{enc:α→List VP}{xs:List α}{cs:List VP}[he:gZ n enc](hi:hs[i]?=some (av g n enc xs))(hj:(hs.eraseIdx i)[j]?=some (ax b cs))(hf:cs[f]?=some (aa (bt g xs.length)))
    (h:bN Q e0 c ((hs.eraseIdx i).set j (ax b (cs.set f (ai n enc xs)))) env):bN Q e0 c hs env:=St.dO hi hj hf h
inductive QN:List VP→List VP→Prop
 |nil:QN [] []
 |cons {q q':VP} {a b:List VP} (h:af q q') (t:QN a b):QN (q::a) (q'::b)
theorem QN.get{a b:List VP}(h:QN a b):∀(j:Nat) (q':VP),b[j]?=some q'→∃q,a[j]?=some q∧af q q':=by
 induction h with
 |nil=>intro j q' h;simp at h
 |cons h t ih=>
  intro j q' hj;cases j with
  |zero=>simp at hj;subst hj;exact⟨_,rfl,h⟩
  |succ j=>obtain⟨q,h1,h2⟩:=ih j q' (by simpa using hj);exact⟨q,by simpa using h1,h2⟩
theorem QN.len{a b:List VP}(h:QN a b):a.length=b.length:=by
 induction h with
 |nil=>rfl
 |cons _ _ ih=>simp[ih]
theorem af.agg{a b:List VP}(h:QN a b):af (aC a) (aC b):=fun S w v ⟨arr,hv,hn,hc⟩=>⟨arr,hv,by rw[hn,h.len],fun j q' hj=>let ⟨q,h1,h2⟩:=h.get j q' hj;let ⟨u,hu,hq⟩:=hc j q h1;⟨u,hu,h2 _ _ _ hq⟩⟩
theorem bq{α:Type}{xs:List α}{k:Nat}{x:α}(h:xs[k]?=some x):xs.take k++[x]=xs.take (k+1):=by
 obtain⟨h1,h2⟩:=List.getElem?_eq_some_iff.1 h;rw[List.take_succ_eq_append_getElem h1,h2]
theorem ah{α:Type}{xs:List α}{k:Nat}(h:k<xs.length):∃x,xs[k]?=some x:=⟨xs[k],by simp[h]⟩
end
end Go.Hl
end
