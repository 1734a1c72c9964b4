/-
  What the statement's proof leans on, several texts in one (packed by a program).
-/
import Derived.Test.YtpfobikpggmleaaGreatDoorSAB
import Derived.Laws.StructEq
set_option linter.all false
set_option maxRecDepth 1000000
set_option maxHeartbeats 4000000
section
namespace Go.Hl
open Go.RowKit
section
variable {P:Program} {hs:List HP} {env:Env} {q q':VP} {dst:Option Tmp} {ty T T2 T' E:TypeId} {pos:String} {after:Array Edge} {gd:Option (Nat×Bool)} {x y z:Operand}
def aj (b:UInt8):List VP:=[ag .u8 (b.toNat:Int)]
instance:hU 1 aj:=⟨fun _=>rfl,fun x q h=>by simp only [aj,List.mem_cons,List.not_mem_nil,or_false] at h;rw [h];infer_instance⟩
theorem foldl_push (l:List UInt8):∀s:ByteArray,(l.map fun b=>(b.toNat:Int)).foldl (fun r n=>r.push (UInt8.ofNat n.toNat)) s=⟨s.data++l.toArray⟩:=by
 induction l with
 |nil=>intro s;simp
 |cons b l ih=>
  intro s
  simp only [List.map_cons,List.foldl_cons]
  rw [ih]
  have hb:UInt8.ofNat (b.toNat:Int).toNat=b:=by simp
  rw [hb]
  apply ByteArray.ext
  simp [ByteArray.push]
theorem Ei {S:BS} {w:World} {b off:Nat} {l:List UInt8} (h:∀(i:Nat) (x:UInt8),l[i]?=some x→bX S w b (off+i*1) (aj x)) (d:Nat):
    (loadCells ⟨b,off,none⟩ l.length).run P {w with drawn:=d}= .ok ((l.map fun b=>(b.toNat:Int)).map (Value.int .u8)).toArray {w with drawn:=d}:=by
  have:=run_loadCellsFrom (P:=P) (b:=b) (off:=off) l.length 0 #[] {w with drawn:=d} ((l.map fun b=>(b.toNat:Int)).map (Value.int .u8)) (by simp) (fun j v hj=>by
    simp only [List.map_map,List.getElem?_map] at hj
    cases hl:l[j]? with
    |none=>rw [hl] at hj;cases hj
    | some x=>
      rw [hl] at hj;cases hj
      obtain ⟨u,hu,hq⟩:=h j x hl 0 _ rfl
      simp only [aa] at hq;subst hq
      simpa [World.cell?] using hu)
  simpa [loadCells] using this
theorem G7 {l:List UInt8} (hs':P.underlying T=some (.slice E)) (he':P.underlying E=some (.int .u8)) (hd:P.underlying T'=some .string) (hx:bu env x (ai 1 aj l)):bl P hs env ⟨dst, .convert T T' x,ty,pos,after,gd⟩ (cZ l):=
 bl.aJ fun ρ w S F _ he=>by
  obtain ⟨a,cap,hv,hc,hm,hel⟩:=he.o _ _ hx
  refine ⟨.string ⟨l.toArray⟩, ?_,rfl,by omega⟩
  cases a with
  |none=>
   have:l=[]:=by have h0:cap=0:=hel;exact List.length_eq_zero_iff.1 (by omega)
   subst this
   simp [execOp,hv,run_convert_bytes_string w T T' E none 0 cap hs' he' hd,Conv.bytesToString]
   rfl
  |some ad=>
   by_cases h0:l=[]
   · subst h0
     simp [execOp,hv,run_convert_bytes_string w T T' E (some ad) 0 cap hs' he' hd,Conv.bytesToString,loadCells,loadCellsFrom]
     rfl
   have hxp:0<l.length:=List.length_pos_iff.2 h0
   obtain ⟨b,off,sp⟩:=ad
   obtain ⟨hsp,hb,V0⟩:=hel (by omega)
   simp only at hsp hb V0;subst hsp
   have h1:=run_bytesToString (P:=P) w ⟨b,off,none⟩ l.length cap _ (Ei (P:=P) V0 w.drawn)
   rw [foldl_push] at h1
   simp [execOp,hv,run_convert_bytes_string w T T' E (some ⟨b,off,none⟩) l.length cap hs' he' hd,h1]
def qg:VP:=⟨fun _ _ v=>∃a,v= .slice a 0 0,fun _ _ h=>h⟩
instance:Flat qg:=⟨fun ⟨_,h⟩=>by subst h;exact ⟨rfl,rfl⟩⟩
theorem uN {α:Type} (n:Nat) (enc:α→List VP):af qg (ai n enc []):=fun S w v ⟨a,h⟩=>⟨a,0,h,by simp,by simp,by cases a with|none=>rfl|some ad=>exact fun h=>absurd rfl h⟩
theorem kL {n:Nat} {zs:List Value} (hT:P.underlying T=some (.slice E)) (hn:P.cellsOf E=n) (h0:Nat.blt 0 n=true) (hz:jI P E=some zs) (hzl:zs.length=n):bl P hs env ⟨dst, .buildSlice T 0 #[],ty,pos,after,gd⟩ qg:=by
 intro a w S F h1 h2 h3 h4 he K Q hk
 obtain ⟨arr,hr,U5⟩:=nv (enc:=fun u:Unit=>[]) (ys:=[]) (len:=0) (ps:=[]) (pcs:=[]) (cs:=[]) (dst:=dst) (ty:=ty) (pos:=pos) (after:=after) (gd:=gd) hT hn h0 hz hzl .nil (by simp) (by simp [zeroV,rG]) he
 unfold Oper.wp
 have hr':(execOp a.eval ⟨dst, .buildSlice T 0 #[],ty,pos,after,gd⟩).run P w= .ok (.value (.slice (some ⟨w.heap.size,0,none⟩) 0 0)) {w with heap:=w.heap.push (.cells arr E)}:=hr
 rw [hr']
 exact hk _ _ _ (Grow.Tp w S (.cells arr E)) ⟨_,rfl⟩
theorem sJ {α:Type} {n by_:Nat} {enc:α→List VP} {ys:List α} {zs:List Value} {E2:TypeId} [he:hU n enc] (hT:P.underlying T=some (.slice E)) (NH:P.underlying T2=some (.slice E2)) (hn:P.cellsOf E=n) (h0:Nat.blt 0 n=true)
    (hz:jI P E=some zs) (hzl:zs.length=n) (hb:P.bytesOf E=by_) (hx:bu env x qg) (hy:bu env y (ai n enc ys)) (hroom:(2*ys.length+256)*by_≤281474976710656):
    bl P hs env ⟨dst, .call ⟨.builtin .append, #[x,y], #[T,T2]⟩,ty,pos,after,gd⟩ (ai n enc ys):=by
  intro a w S F h1 h2 h3 h4 qe K Q hk
  have hn0:0<n:=by simpa using h0
  obtain ⟨base,hv⟩:=hx S w a qe
  obtain ⟨ya,ycap,Bl,Ef,NI,KT⟩:=hy S w a qe
  obtain ⟨vy,yZ,Cn,G5⟩:=ot (P:=P) he.len hn0 KT Ef
  have hsz:=run_sizeOf hn h0 w
  by_cases hy0:ys=[]
  · subst hy0
    have hr:(execOp a.eval ⟨dst, .call ⟨.builtin .append, #[x,y], #[T,T2]⟩,ty,pos,after,gd⟩).run P w= .ok (.value (.slice base 0 0)) w:=by
      have h5:=Cn w.drawn
      have:vy=[]:=List.length_eq_zero_iff.1 (by rw [yZ];simp)
      subst this
      simp at h5
      cases base<;>simp [execOp,resolve,invoke,builtin,Builtin.append_,hv,Bl,run_underlying hT,run_underlying NH,hsz,Builtin.lenOf,h5,storeCells]
    unfold Oper.wp
    rw [hr]
    exact hk _ w S (Grow.refl _ _) (uN n enc S w _ ⟨_,rfl⟩)
  · have hy1:0<ys.length:=List.length_pos_iff.2 hy0
    obtain ⟨info,hi1,hi2⟩:=dg hn h0 w
    obtain ⟨zv',hz1',hz2'⟩:=gy hz w.drew
    obtain ⟨info',hi1',hi2'⟩:=dg hn h0 w.drew
    have hbytes:info.bytes=by_:=hi2.trans hb
    have NJ:=nextslicecap_le (need:=ys.length) (cap:=0) (by omega)
    have hcapB:Builtin.nextslicecap (ys.length) 0*by_≤281474976710656:=Nat.le_trans (Nat.mul_le_mul_right _ NJ) hroom
    have hvy2':(Builtin.firstCells n ys.length (.slice ya ys.length ycap)).run P w.drew= .ok vy.toArray w.drew:=Cn (w.drawn+1)
    have hvx2':(Builtin.firstCells n 0 (.slice base 0 0)).run P w.drew= .ok #[] w.drew:=by cases base<;>simp [Builtin.firstCells,loadCells,loadCellsFrom]
    generalize y3:Question.cut (.appendCap (ys.length) 0 E) (w.tape w.drawn (.appendCap (ys.length) 0 E))=newCap
    have hge:ys.length≤newCap:=by rw [←y3];simp only [Question.cut];omega
    let row:Array Value:=vy.toArray++Builtin.zeroCells zv'.cells (newCap-(ys.length))
    have hr:(execOp a.eval ⟨dst, .call ⟨.builtin .append, #[x,y], #[T,T2]⟩,ty,pos,after,gd⟩).run P w= .ok (.value (.slice (some ⟨w.heap.size,0,none⟩) ys.length newCap)) (w.drew.alloc (.cells row E)):=by
      have hnot:¬(ys.length≤0):=by omega
      have NL:¬ys=[]:=hy0
      have v8:¬((9223372036854775807:Int)<(ys.length:Int)):=by omega
      have y4:¬(281474976710656<Builtin.nextslicecap (ys.length) 0*info.bytes):=by rw [hbytes];omega
      simp [execOp,resolve,invoke,builtin,Builtin.append_,hv,Bl,run_underlying hT,run_underlying NH,hsz,Builtin.lenOf,NL,v8,hi1,y4,Question.forced,y3,hi1',hvx2',hvy2',hz1',newRow,row]
    generalize hw':w.drew.alloc (.cells row E)=w' at hr
    unfold Oper.wp
    rw [hr]
    have hheap:w'.heap=w.heap.push (.cells row E):=by rw [←hw'];rfl
    have Tu:=Grow.new1 w S (.cells row E)
    have hg:Grow w w' S (fun k=>S k∨k=w.heap.size):=⟨by rw [←hw'];rfl,by rw [←hw'];rfl,by rw [←hw'];rfl,by rw [hheap];exact Tu.size,fun k hk=>by rw [hheap];exact bB w _ k hk,Tu.sub,fun k hk=>by rw [hheap];exact Tu.new k hk⟩
    refine hk _ w' _ hg ⟨some ⟨w.heap.size,0,none⟩,newCap,rfl,hge,NI,fun _=>⟨rfl, .inr rfl,fun i y0 hi j q hj=> ?_⟩⟩
    have qf:bX (fun k=>S k∨k=w.heap.size) w' w.heap.size 0 (ys.flatMap enc):=fun j q hj=>by
      obtain ⟨u,hu,hq⟩:=G5 j q hj
      have hjl:=(List.getElem?_eq_some_iff.1 hj).1
      rw [fm he.len] at hjl
      refine ⟨u, ?_,hg.vp h1 hq⟩
      have:row[j]?=some u:=by
        simp only [row]
        rw [Array.getElem?_append_left (by simp [yZ];omega)]
        simpa using hu
      simp [World.cell?,hheap,this]
    exact jx he.len qf i y0 hi j q hj
def V1 {γ:Type} (ψ:γ→Prop) (qs:γ→VP):VP:=⟨fun S w v=>∃g,ψ g∧(qs g).p S w v,fun h1 h2 ⟨g,hg,h⟩=>⟨g,hg,(qs g).mono h1 h2 h⟩⟩
instance {γ:Type} (ψ:γ→Prop) (qs:γ→VP) [∀g,Flat (qs g)]:Flat (V1 ψ qs):=⟨fun ⟨_,_,h⟩=>Flat.flat h⟩
theorem af.ex {γ:Type} {ψ:γ→Prop} {qs:γ→VP} (g:γ) (hg:ψ g) (h:af q (qs g)):af q (V1 ψ qs):=fun S w v hv=>⟨g,hg,h S w v hv⟩
theorem bl.Sz {γ:Type} {ψ:γ→Prop} {qs:γ→VP} {o:Oper} (h:bl P hs env o (V1 ψ qs)):fV P hs env o ψ (fun _=>hs) qs:=
 fun c a w S F aF hown rD K Q hk=>h a w S F aF.bO aF.bZ aF.dG hown rD K Q fun v w' S' g ⟨γ0,h1,h2⟩=>
  hk γ0 v w' S' F h1 (aF.grow g) g.sub (fun k hk=>g.kept k (aF.bO k hk)) (g.yX aF.bO aF.bZ hown) h2
end
end Go.Hl
end
