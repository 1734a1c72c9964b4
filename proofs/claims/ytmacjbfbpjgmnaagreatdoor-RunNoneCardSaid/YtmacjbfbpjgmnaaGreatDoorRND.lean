/-
  What the statement's proof leans on, several texts in one (packed by a program).
-/
import Derived.Test.YtmacjbfbpjgmnaaGreatDoorRNC
import Derived.SizedLaws
import Derived.Below
import Derived.Carry
import Derived.ChangeArms
import Derived.ChangeOld
import Derived.DataReads
import Derived.OpenShut
set_option linter.all false
set_option maxRecDepth 1000000
set_option maxHeartbeats 4000000
section
namespace Go.Hl
open Go.RowKit
variable {α:Type}
def tC(P:Program)(t:TypeId)(enc:α→List VP):Prop:=
 ∀(H:Type) (en:TypeId×Value→H) (W:World) (fuel:Nat) (cs:List Value) (d:DataW H) (ps:List MemPlace),DataW.trod en P W 0 (fun _=>true) true fuel t cs=some (d,ps)→
  (∀x∈d.weights P t,x≤reachBytes)→∃a:α,e9 (enc a) (fun k=>k<W.heap.size) W cs
variable {S:BS} {w:World} {v:Value}
theorem e9.one{q:VP}(h:q.p S w v):e9 [q] S w [v]:=⟨rfl,fun j p u hj hu=>by
 cases j with
 |zero=>simp at hj hu;subst hj;subst hu;exact h
 |succ j=>simp at hj⟩
theorem e9.cat{ps qs:List VP}{us vs:List Value}(h:e9 ps S w us)(k:e9 qs S w vs):e9 (ps++qs) S w (us++vs):=
 ⟨by simp[h.1,k.1],fun j p v hj hv=>by
  by_cases hl:j<ps.length
  · rw[List.getElem?_append_left hl] at hj
    rw[List.getElem?_append_left (h.1▸hl)] at hv;exact h.2 j p v hj hv
  · rw[List.getElem?_append_right (by omega)] at hj
    rw[List.getElem?_append_right (h.1▸by omega),←h.1] at hv;exact k.2 _ p v hj hv⟩
theorem e9.nil:e9 [] S w []:=⟨rfl,fun j p v hj _=>by simp at hj⟩
theorem tC.int{P:Program}{t:TypeId}{k:IntKind}(ht:P.underlying t=some (.int k)):tC P t (fun n:Int=>[aa k n]):=fun H en W fuel cs d ps h _=>by
 obtain⟨n,rfl,_,hw⟩:=DataW.trod_int ht h;exact⟨n, .one rfl⟩
variable {P:Program} {t:TypeId} {β:Type} {enc:α→List VP} {enc':β→List VP}
theorem tC.map(f:α→β)(h:∀a,enc a=enc' (f a))(o:tC P t enc):tC P t enc':=
 fun H en W fuel cs d ps hr hz=>let ⟨a,ha⟩:=o H en W fuel cs d ps hr hz;⟨f a,h a▸ha⟩
theorem tC.via(o:tC P t enc)(f:α→β)(h:∀a,enc a=enc' (f a)):tC P t enc':=tC.map f h o
theorem oS{H:Type}{P:Program}{e:TypeId}:∀{ds:List (DataW H)} {d:DataW H},d∈ds→∀n∈d.weights P e,n∈DataW.weightsAll P e ds
 |d0::ds,d,hd,n,hn=>by
  simp only[DataW.weightsAll,List.mem_append];rcases List.mem_cons.1 hd with rfl|h
  · exact .inl hn
  · exact .inr (oS h n hn)
theorem so{α:Type}{p:Nat→α→Prop}:∀(n:Nat),(∀i,i<n→∃a,p i a)→∃xs:List α,xs.length=n∧∀i a,xs[i]?=some a→p i a
 |0,_=>⟨[],rfl,fun i a h=>by simp at h⟩
 |n+1,h=>by
  obtain⟨xs,hl,hx⟩:=so n (fun i hi=>h i (by omega));obtain⟨a,ha⟩:=h n (by omega);refine⟨xs++[a],by simp[hl],fun i b hb=>?_⟩;by_cases hi:i<xs.length
  · rw[List.getElem?_append_left hi] at hb;exact hx i b hb
  · have Nx:i<(xs++[a]).length:=(List.getElem?_eq_some_iff.1 hb).1
    simp at Nx;have:i=n:=by omega
    subst this;rw[List.getElem?_append_right (by omega)] at hb;simp[hl] at hb;subst hb;exact ha
theorem tC.slice{P:Program}{t e:TypeId}{α:Type}{enc:α→List VP}{n:Nat}(ht:P.underlying t=some (.slice e))(hn:P.cellsOf e=n)(h0:Nat.blt 0 n=true)(hb:Nat.blt 0 (P.bytesOf e)=true)(o:tC P e enc):
    tC P t (fun xs:List α=>[an n enc xs]):=fun H en W fuel cs d ps h hz=>by
  have hn0:0<n:=by simpa using h0
  have hb0:0<P.bytesOf e:=by simpa using hb
  rcases DataW.trod_slice ht h with⟨rfl,_⟩|⟨a,len,cap,elems,rest,m,rfl,rfl,hx,_,hlc,hcm,hel,SX,hre,_⟩
  · exact⟨[], .one ⟨none,0,rfl,by simp,by simp,rfl⟩⟩
  · obtain⟨hd,hps⟩:=Prod.mk.inj hx
    obtain⟨hrl,hra⟩:=hre rfl;have hw:(elems.length+rest.length)*P.bytesOf e≤reachBytes:=hz _ (by rw[hd];simp[DataW.weights,ht]);have hcb:cap≤reachBytes:=Nat.le_trans (by rw[hel,hrl];exact Nat.le_trans (by omega) (Nat.le_mul_of_pos_right _ hb0)) hw;have hlb:len≤281474976710656:=by unfold reachBytes at hcb;omega
    rw[hn] at SX hra
    have hspot:cap≠0→a.spot=none∧a.block<W.heap.size:=fun hc=>by
      have hbd:∃y,(W.cells? 0 (a.add (0*n)) n).bind (DataW.trod en P W 0 (fun _=>true) true m e)=some y:=by
        by_cases hl:0<len
        · have:=SX 0 hl
          rw[List.getElem?_eq_getElem (by omega)] at this;exact⟨_,this⟩
        · have:=hra 0 (by omega)
          rw[List.getElem?_eq_getElem (by omega)] at this;rw[show len+0=0 by omega] at this;exact⟨_,this⟩
      obtain⟨y,hy⟩:=hbd;obtain⟨c,EH,_⟩:=Option.bind_eq_some_iff.1 hy;have ha0:a.add (0*n)=a:=by simp[Addr.add]
      rw[ha0] at EH;obtain⟨_,hl,hcell⟩:=World.cells?_some EH;have PG:=hcell 0 hn0;have hc0:∃u,c[0]?=some u:=⟨c[0],List.getElem?_eq_getElem (by omega)⟩;obtain⟨u,hu⟩:=hc0;rw[hu,show a.add 0=a by simp[Addr.add]] at PG;refine⟨?_,World.cells?_block EH hn0⟩;unfold World.cell? at PG
      split at PG
      · split at PG
        · cases PG
        · rename_i hsp;simpa using hsp
      · cases PG
    obtain⟨xs,hxl,hxs⟩:=so (p:=fun i x=>bQ (fun k=>k<W.heap.size) W a.block (a.off+i*n) (enc x)) len (fun i hi=>by
      have h1:=SX i hi;rw[List.getElem?_eq_getElem (by omega)] at h1;obtain⟨c,EH,Xo⟩:=Option.bind_eq_some_iff.1 h1
      obtain⟨x,hx⟩:=o H en W m c (elems[i]'(by omega)).1 (elems[i]'(by omega)).2 Xo (fun z Qv=>hz z (by
        rw[hd];simp only[DataW.weights,ht,List.mem_cons,List.mem_append]
        exact .inr (.inl (oS (List.mem_map.2 ⟨_,List.getElem_mem (by omega),rfl⟩) z Qv))))
      refine⟨x,fun j q hj=>?_⟩;obtain⟨_,hl,hcell⟩:=World.cells?_some EH;have hjl:j<(enc x).length:=(List.getElem?_eq_some_iff.1 hj).1;have SY:j<c.length:=by rw[←hx.1];exact hjl
      have hcj:=hcell j (by omega);refine⟨c[j],?_,hx.2 j q _ hj (List.getElem?_eq_getElem SY)⟩;rw[List.getElem?_eq_getElem SY] at hcj;rw[←hcj];obtain⟨hsp,_⟩:=hspot (by omega);obtain⟨b,off,sp⟩:=a;simp only at hsp;subst hsp
      have e1:Addr.add ⟨b,off,none⟩ (i*n)=⟨b,off+i*n,none⟩:=by
        unfold Addr.add;split
        · rename_i h0;simp
        · rfl
      have e2:Addr.add ⟨b,off+i*n,none⟩ j=⟨b,off+i*n+j,none⟩:=by
        unfold Addr.add;split
        · rename_i h0;simp
        · rfl
      rw[e1,e2])
    refine⟨xs, .one ⟨some a,cap,by rw[hxl],by omega,by omega,fun hc=>⟨(hspot hc).1,(hspot hc).2,hxs⟩⟩⟩
def IX(P:Program)(fs:List Field)(off:Nat)(enc:α→List VP)(last:Nat):Prop:=
 ∀(H:Type) (en:TypeId×Value→H) (W:World) (m:Nat) (cs:List Value) (xs:List (DataW H×List MemPlace)),cs.length=last→
  xs.length=fs.length→(∀(i:Nat) (f:Field),fs[i]?=some f→DataW.trod en P W 0 (fun _=>true) true m f.type ((cs.drop f.offset).take (P.cellsOf f.type))=xs[i]?)→
  (∀x∈DataW.weightsEach P (fs.map (·.type)) (xs.map (·.1)),x≤reachBytes)→∃a:α,e9 (enc a) (fun k=>k<W.heap.size) W (cs.drop off)
theorem IX.nil{P:Program}{off:Nat}:IX P [] off (fun _:Unit=>[]) off:=fun H en W m cs xs hl hx _ _=>⟨(),by rw[List.drop_eq_nil_of_le (by omega)];exact .nil⟩
theorem IX.cons{f:Field}{fs:List Field}{off n last:Nat}(h1:Nat.beq f.offset off=true)(h2:P.cellsOf f.type=n)(o:tC P f.type enc)(k:IX P fs (off+n) enc' last):
    IX P (f::fs) off (fun p:α×β=>enc p.1++enc' p.2) last:=fun H en W m cs xs hl hxl hx hz=>by
  have h1':f.offset=off:=by simpa using h1
  match xs,hxl with
  | x::xs,hxl=>
    have h0:=hx 0 f rfl;rw[h1',h2] at h0;simp only[List.getElem?_cons_zero] at h0;obtain⟨a,ha⟩:=o H en W m _ x.1 x.2 h0 (fun z Qv=>hz z (by simp only[List.map_cons,DataW.weightsEach,List.mem_append];exact .inl Qv));obtain⟨b,hb⟩:=k H en W m cs xs hl (by simpa using hxl) (fun i g hg=>by have:=hx (i+1) g (by simpa using hg);simpa using this) (fun z Qv=>hz z (by simp only[List.map_cons,DataW.weightsEach,List.mem_append];exact .inr Qv));refine⟨(a,b),?_⟩;have e:cs.drop off=(cs.drop off).take n++cs.drop (off+n):=by rw[←List.drop_drop];exact(List.take_append_drop n _).symm
    rw[e];exact ha.cat hb
theorem tC.struct{P:Program}{t:TypeId}{fs:Array Field}{last:Nat}{α:Type}{enc:α→List VP}(ht:P.underlying t=some (.struct fs))(hc:P.cellsOf t=last)(o:IX P fs.toList 0 enc last):tC P t enc:=fun H en W fuel cs d ps h hz=>by
 obtain⟨xs,m,rfl,hx,hl,hxl,SX⟩:=DataW.trod_struct ht h;obtain⟨hd,_⟩:=Prod.mk.inj hx;have:=o H en W m cs xs (by omega) (by simpa using hxl) (fun i f hf=>SX i f (by simpa using hf)) (fun z Qv=>hz z (by rw[hd];simp only[DataW.weights,ht];exact Qv));simpa using this
variable {H:Type} {d:DataW H}
theorem vI{ts:List TypeId}{ds:List (DataW H)}(h:(DataW.weightsEach P ts ds).all (· ≤reachBytes)=true){j:Nat}(ht:ts[j]?=some t)(hd:ds[j]?=some d):∀x∈d.weights P t,x≤reachBytes:=
 fun x hx=>by simpa using List.all_eq_true.1 h x (DataW.weights_mem_each ht hd x hx)
theorem NU{fs:Array Field}(o:tC P t enc)(ht:P.underlying t=some (.struct fs)){en:TypeId×Value→H}{W:World}{base:Nat}{ps:List MemPlace}
    (hv:Value.okWide P W .any base t v) (h:DataW.Trod en P W 0 (fun _=>true) true t v d ps) (hz:∀x∈d.weights P t,x≤reachBytes):∃a,(aK (enc a)).p (fun k=>k<W.heap.size) W v:=by
  unfold Value.okWide at hv;rw[ht] at hv;obtain⟨cs,rfl,_,_⟩:=hv;obtain⟨fuel,h⟩:=h;obtain⟨a,ha⟩:=o H en W fuel _ d ps h hz;simp only[Value.cells] at ha;refine⟨a,cs,rfl,by simpa using ha.1.symm,fun j q hj=>?_⟩;have hjl:j<(enc a).length:=(List.getElem?_eq_some_iff.1 hj).1;have SY:j<cs.size:=by have:=ha.1;simp at this;omega
  exact⟨cs[j],Array.getElem?_eq_getElem SY,ha.2 j q _ hj (by simp[SY])⟩
theorem Hu{q:α→VP}(o:tC P t enc)(hag:jc P t=some false)(he:∀a,enc a=[q a]){en:TypeId×Value→H}{W:World}{base:Nat}{ps:List MemPlace}
    (hv:Value.okWide P W .any base t v) (h:DataW.Trod en P W 0 (fun _=>true) true t v d ps) (hz:∀x∈d.weights P t,x≤reachBytes):∃a,(q a).p (fun k=>k<W.heap.size) W v:=by
  have hcells:v.cells.toList=[v]:=by
    cases v with
    | agg cs=>
      exfalso;unfold jc at hag;unfold Value.okWide at hv;cases hu:P.underlying t with
      |none=>rw[hu] at hag;cases hag
      | some D=>
        rw[hu] at hv hag;cases D<;>simp[Cell.okWide,Cell.ok,hu] at hv hag
    |_=>rfl
  obtain⟨fuel,h⟩:=h;rw[hcells] at h;obtain⟨a,ha⟩:=o H en W fuel _ d ps h hz;rw[he a] at ha;exact⟨a,ha.2 0 _ _ rfl rfl⟩
end Go.Hl
end
