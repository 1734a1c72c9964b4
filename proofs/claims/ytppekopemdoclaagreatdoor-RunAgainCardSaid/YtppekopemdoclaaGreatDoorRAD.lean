/-
  Parts of the proof.
-/
import Derived.Test.YtppekopemdoclaaGreatDoorRAC
import Derived.SizedLaws
import Derived.Below
import Derived.Carry
import Derived.ChangeArms
import Derived.ChangeOld
import Derived.DataReads
import Derived.OpenShut
set_option linter.all false
set_option maxRecDepth 1000000
set_option maxHeartbeats 4000000
section
namespace Go.Hl
open Go.RowKit
variable {α:Type}
def eX(P:Program)(t:TypeId)(enc:α->List VP):Prop:=
 ∀(H:Type) (en:TypeId×Value->H) (W:World) (fuel:Nat) (cs:List Value) (d:DataW H) (ps:List MemPlace),DataW.trod en P W 0 (λ_=>true) true fuel t cs=some (d,ps)->
  (∀x∈d.weights P t,x<=reachBytes)->∃a:α,hU (enc a) (λk=>k<W.heap.size) W cs
variable {S:BS} {w:World}
theorem hU.one{q:VP}{v:Value}(h:q.p S w v):hU [q] S w [v]:=⟨rfl,λj p u hj hu=>by
 cases j with
 |zero=>simp at hj hu;subst hj;subst hu;exact h
 |succ j=>simp at hj⟩
theorem hU.cat{ps qs:List VP}{us vs:List Value}(h:hU ps S w us)(k:hU qs S w vs):hU (ps++qs) S w (us++vs):=
 ⟨by simp[h.1,k.1],λj p v hj hv=>by
  by_cases hl:j<ps.length
  · rw[List.getElem?_append_left hl] at hj
    rw[List.getElem?_append_left (h.1▸hl)] at hv;exact h.2 j p v hj hv
  · rw[List.getElem?_append_right (by omega)] at hj
    rw[List.getElem?_append_right (h.1▸by omega),<-h.1] at hv;exact k.2 _ p v hj hv⟩
theorem hU.nil:hU [] S w []:=⟨rfl,λj p v hj _=>by simp at hj⟩
theorem eX.bool{P:Program}{t:TypeId}(ht:P.underlying t=some .bool):eX P t (λp:Prop=>[av p]):=λH en W fuel cs d ps h _=>by
 obtain⟨b,rfl,_⟩:=DataW.trod_bool ht h;exact⟨b=true, .one ⟨b,rfl,Iff.rfl⟩⟩
def ot(k:IntKind):Type:={n:Int//(Lit.int k n).wf=true}
variable {P:Program} {t:TypeId}
theorem eX.JH{k:IntKind}(ht:P.underlying t=some (.int k)):eX P t (λn:ot k=>[af k n.1]):=λH en W fuel cs d ps h _=>by
 obtain⟨n,rfl,_,hw⟩:=DataW.trod_int ht h;exact⟨⟨n,hw⟩, .one rfl⟩
theorem eX.int{P:Program}{t:TypeId}{k:IntKind}(ht:P.underlying t=some (.int k)):eX P t (λn:Int=>[af k n]):=λH en W fuel cs d ps h _=>by
 obtain⟨n,rfl,_,hw⟩:=DataW.trod_int ht h;exact⟨n, .one rfl⟩
theorem eX.u8{P:Program}{t:TypeId}(ht:P.underlying t=some (.int .u8)):eX P t an:=λH en W fuel cs d ps h _=>by
 obtain⟨n,rfl,_,hw⟩:=DataW.trod_int ht h;have hb:=bounds_u8 hw;refine⟨UInt8.ofNat n.toNat, .one ?_⟩;have:((UInt8.ofNat n.toNat).toNat:Int)=n:=by simp;omega
 simp only[ag];rw[this]
theorem eX.str(ht:P.underlying t=some .string):eX P t (λl:List UInt8=>[dV l]):=λH en W fuel cs d ps h hz=>by
 obtain⟨s,rfl,e,hw⟩:=DataW.trod_string ht h;refine⟨s.data.toList, .one ⟨by simp,?_⟩⟩;cases e;have:=hz s.data.toList.length (by simp[DataW.weights]);unfold reachBytes at this;omega
variable {β:Type} {enc:α->List VP} {enc':β->List VP}
theorem eX.map(f:α->β)(h:∀a,enc a=enc' (f a))(o:eX P t enc):eX P t enc':=
 λH en W fuel cs d ps hr hz=>let ⟨a,ha⟩:=o H en W fuel cs d ps hr hz;⟨f a,h a▸ha⟩
theorem eX.via(o:eX P t enc)(f:α->β)(h:∀a,enc a=enc' (f a)):eX P t enc':=eX.map f h o
theorem sG{H:Type}{P:Program}{e:TypeId}:∀{ds:List (DataW H)} {d:DataW H},d∈ds->∀n∈d.weights P e,n∈DataW.weightsAll P e ds
 |d0::ds,d,hd,n,hn=>by
  simp only[DataW.weightsAll,List.mem_append];rcases List.mem_cons.1 hd with rfl|h
  · exact .inl hn
  · exact .inr (sG h n hn)
theorem wv{α:Type}{p:Nat->α->Prop}:∀(n:Nat),(∀i,i<n->∃a,p i a)->∃xs:List α,xs.length=n/\∀i a,xs[i]?=some a->p i a
 |0,_=>⟨[],rfl,λi a h=>by simp at h⟩
 |n+1,h=>by
  obtain⟨xs,hl,hx⟩:=wv n (λi hi=>h i (by omega));obtain⟨a,ha⟩:=h n (by omega);refine⟨xs++[a],by simp[hl],λi b hb=>?_⟩;by_cases hi:i<xs.length
  · rw[List.getElem?_append_left hi] at hb;exact hx i b hb
  · have Ca:i<(xs++[a]).length:=(List.getElem?_eq_some_iff.1 hb).1
    simp at Ca;have:i=n:=by omega
    subst this;rw[List.getElem?_append_right (by omega)] at hb;simp[hl] at hb;subst hb;exact ha
theorem eX.slice{P:Program}{t e:TypeId}{α:Type}{enc:α->List VP}{n:Nat}(ht:P.underlying t=some (.slice e))(hn:P.cellsOf e=n)(h0:Nat.blt 0 n=true)(hb:Nat.blt 0 (P.bytesOf e)=true)(o:eX P e enc):
    eX P t (λxs:List α=>[ai n enc xs]):=λH en W fuel cs d ps h hz=>by
  have hn0:0<n:=by simpa using h0
  have hb0:0<P.bytesOf e:=by simpa using hb
  rcases DataW.trod_slice ht h with⟨rfl,_⟩|⟨a,len,cap,elems,rest,m,rfl,rfl,hx,_,hlc,hcm,hel,hea,hre,_⟩
  · exact⟨[], .one ⟨none,0,rfl,by simp,by simp,rfl⟩⟩
  · obtain⟨hd,hps⟩:=Prod.mk.inj hx
    obtain⟨hrl,hra⟩:=hre rfl;have hw:(elems.length+rest.length)*P.bytesOf e<=reachBytes:=hz _ (by rw[hd];simp[DataW.weights,ht]);have hcb:cap<=reachBytes:=Nat.le_trans (by rw[hel,hrl];exact Nat.le_trans (by omega) (Nat.le_mul_of_pos_right _ hb0)) hw;have hlb:len<=281474976710656:=by unfold reachBytes at hcb;omega
    rw[hn] at hea hra
    have hspot:cap≠0->a.spot=none/\a.block<W.heap.size:=λhc=>by
      have hbd:∃y,(W.cells? 0 (a.add (0*n)) n).bind (DataW.trod en P W 0 (λ_=>true) true m e)=some y:=by
        by_cases hl:0<len
        · have:=hea 0 hl
          rw[List.getElem?_eq_getElem (by omega)] at this;exact⟨_,this⟩
        · have:=hra 0 (by omega)
          rw[List.getElem?_eq_getElem (by omega)] at this;rw[show len+0=0 by omega] at this;exact⟨_,this⟩
      obtain⟨y,hy⟩:=hbd;obtain⟨c,F8,_⟩:=Option.bind_eq_some_iff.1 hy;have ha0:a.add (0*n)=a:=by simp[Addr.add]
      rw[ha0] at F8;obtain⟨_,hl,hcell⟩:=World.cells?_some F8;have WC:=hcell 0 hn0;have hc0:∃u,c[0]?=some u:=⟨c[0],List.getElem?_eq_getElem (by omega)⟩;obtain⟨u,hu⟩:=hc0;rw[hu,show a.add 0=a by simp[Addr.add]] at WC;refine⟨?_,World.cells?_block F8 hn0⟩;unfold World.cell? at WC
      split at WC
      · split at WC
        · cases WC
        · rename_i hsp;simpa using hsp
      · cases WC
    obtain⟨xs,hxl,hxs⟩:=wv (p:=λi x=>cT (λk=>k<W.heap.size) W a.block (a.off+i*n) (enc x)) len (λi hi=>by
      have h1:=hea i hi;rw[List.getElem?_eq_getElem (by omega)] at h1;obtain⟨c,F8,ZE⟩:=Option.bind_eq_some_iff.1 h1
      obtain⟨x,hx⟩:=o H en W m c (elems[i]'(by omega)).1 (elems[i]'(by omega)).2 ZE (λz XA=>hz z (by
        rw[hd];simp only[DataW.weights,ht,List.mem_cons,List.mem_append]
        exact .inr (.inl (sG (List.mem_map.2 ⟨_,List.getElem_mem (by omega),rfl⟩) z XA))))
      refine⟨x,λj q hj=>?_⟩;obtain⟨_,hl,hcell⟩:=World.cells?_some F8;have hjl:j<(enc x).length:=(List.getElem?_eq_some_iff.1 hj).1;have hjc:j<c.length:=by rw[<-hx.1];exact hjl
      have hcj:=hcell j (by omega);refine⟨c[j],?_,hx.2 j q _ hj (List.getElem?_eq_getElem hjc)⟩;rw[List.getElem?_eq_getElem hjc] at hcj;rw[<-hcj];obtain⟨hsp,_⟩:=hspot (by omega);obtain⟨b,off,sp⟩:=a;simp only at hsp;subst hsp
      have e1:Addr.add ⟨b,off,none⟩ (i*n)=⟨b,off+i*n,none⟩:=by
        unfold Addr.add;split
        · rename_i h0;simp
        · rfl
      have e2:Addr.add ⟨b,off+i*n,none⟩ j=⟨b,off+i*n+j,none⟩:=by
        unfold Addr.add;split
        · rename_i h0;simp
        · rfl
      rw[e1,e2])
    refine⟨xs, .one ⟨some a,cap,by rw[hxl],by omega,by omega,λhc=>⟨(hspot hc).1,(hspot hc).2,hxs⟩⟩⟩
def NY(P:Program)(fs:List Field)(off:Nat)(enc:α->List VP)(last:Nat):Prop:=
 ∀(H:Type) (en:TypeId×Value->H) (W:World) (m:Nat) (cs:List Value) (xs:List (DataW H×List MemPlace)),cs.length=last->
  xs.length=fs.length->(∀(i:Nat) (f:Field),fs[i]?=some f->DataW.trod en P W 0 (λ_=>true) true m f.type ((cs.drop f.offset).take (P.cellsOf f.type))=xs[i]?)->
  (∀x∈DataW.weightsEach P (fs.map (·.type)) (xs.map (·.1)),x<=reachBytes)->∃a:α,hU (enc a) (λk=>k<W.heap.size) W (cs.drop off)
theorem NY.nil{P:Program}{off:Nat}:NY P [] off (λ_:Unit=>[]) off:=λH en W m cs xs hl hx _ _=>⟨(),by rw[List.drop_eq_nil_of_le (by omega)];exact .nil⟩
theorem NY.cons{f:Field}{fs:List Field}{off n last:Nat}(h1:Nat.beq f.offset off=true)(h2:P.cellsOf f.type=n)(o:eX P f.type enc)(k:NY P fs (off+n) enc' last):
    NY P (f::fs) off (λp:α×β=>enc p.1++enc' p.2) last:=λH en W m cs xs hl hxl hx hz=>by
  have h1':f.offset=off:=by simpa using h1
  match xs,hxl with
  | x::xs,hxl=>
    have h0:=hx 0 f rfl;rw[h1',h2] at h0;simp only[List.getElem?_cons_zero] at h0;obtain⟨a,ha⟩:=o H en W m _ x.1 x.2 h0 (λz XA=>hz z (by simp only[List.map_cons,DataW.weightsEach,List.mem_append];exact .inl XA));obtain⟨b,hb⟩:=k H en W m cs xs hl (by simpa using hxl) (λi g hg=>by have:=hx (i+1) g (by simpa using hg);simpa using this) (λz XA=>hz z (by simp only[List.map_cons,DataW.weightsEach,List.mem_append];exact .inr XA));refine⟨(a,b),?_⟩;have e:cs.drop off=(cs.drop off).take n++cs.drop (off+n):=by rw[<-List.drop_drop];exact(List.take_append_drop n _).symm
    rw[e];exact ha.cat hb
theorem eX.struct{P:Program}{t:TypeId}{fs:Array Field}{last:Nat}{α:Type}{enc:α->List VP}(ht:P.underlying t=some (.struct fs))(hc:P.cellsOf t=last)(o:NY P fs.toList 0 enc last):eX P t enc:=λH en W fuel cs d ps h hz=>by
 obtain⟨xs,m,rfl,hx,hl,hxl,hea⟩:=DataW.trod_struct ht h;obtain⟨hd,_⟩:=Prod.mk.inj hx;have:=o H en W m cs xs (by omega) (by simpa using hxl) (λi f hf=>hea i f (by simpa using hf)) (λz XA=>hz z (by rw[hd];simp only[DataW.weights,ht];exact XA));simpa using this
theorem Gs{H:Type}{ts:List TypeId}{ds:List (DataW H)}(h:(DataW.weightsEach P ts ds).all (· <=reachBytes)=true){j:Nat}{d:DataW H}(ht:ts[j]?=some t)(hd:ds[j]?=some d):∀x∈d.weights P t,x<=reachBytes:=
 λx hx=>by simpa using List.all_eq_true.1 h x (DataW.weights_mem_each ht hd x hx)
theorem Mp{fs:Array Field}(o:eX P t enc)(ht:P.underlying t=some (.struct fs)){H:Type}{en:TypeId×Value->H}{W:World}{base:Nat}{v:Value}{d:DataW H}{ps:List MemPlace}
    (hv:Value.okWide P W .any base t v) (h:DataW.Trod en P W 0 (λ_=>true) true t v d ps) (hz:∀x∈d.weights P t,x<=reachBytes):∃a,(aC (enc a)).p (λk=>k<W.heap.size) W v:=by
  unfold Value.okWide at hv;rw[ht] at hv;obtain⟨cs,rfl,_,_⟩:=hv;obtain⟨fuel,h⟩:=h;obtain⟨a,ha⟩:=o H en W fuel _ d ps h hz;simp only[Value.cells] at ha;refine⟨a,cs,rfl,by simpa using ha.1.symm,λj q hj=>?_⟩;have hjl:j<(enc a).length:=(List.getElem?_eq_some_iff.1 hj).1;have hjc:j<cs.size:=by have:=ha.1;simp at this;omega
  exact⟨cs[j],Array.getElem?_eq_getElem hjc,ha.2 j q _ hj (by simp[hjc])⟩
end Go.Hl
end
