/-
  Parts of the proof.
-/
import Derived.Test.YtppekopemdoclaaGreatDoorRAB
import Derived.Laws.StructEq
set_option linter.all false
set_option maxRecDepth 1000000
set_option maxHeartbeats 4000000
section
namespace Go.Hl
open Go.RowKit
section
variable {P:Program} {hs:List HP} {env:Env} {q q':VP} {dst:Option Tmp} {ty T T2 T' E:TypeId} {pos:String} {after:Array Edge} {gd:Option (Nat×Bool)} {x y z:Operand}
def EqV(P:Program)(T:TypeId)(q q':VP)(r:Prop):Prop:=l9 P T=some false/\∀S w u u',q.p S w u->q'.p S w u'->∀d,∃b:Bool,(Op.equalIn (d+1) T u u').run P w= .ok b w/\(b=true↔r)
theorem EqV.int{k k':IntKind}{n m:Int}(h:P.underlying T=some (.int k')):EqV P T (af k n) (af k m) (n=m):=
 ⟨by unfold l9;rw[h];rfl,λS w u u' h1 h2 d=>by simp only[ag] at h1 h2;subst h1;subst h2;exact⟨n==m,run_equalIn_int w d T k k' n m h,by simp⟩⟩
inductive tW(P:Program):List Field->List VP->List VP->Prop->Prop
 |nil {cs ds:List VP}:tW P [] cs ds True
 |cons {f:Field} {fs:List Field} {cs ds:List VP} {q q':VP} {r R:Prop} (hn:f.name≠"_") (h1:cs[f.offset]?=some q) (h2:ds[f.offset]?=some q') (he:EqV P f.type q q' r) (t:tW P fs cs ds R):tW P (f::fs) cs ds (r/\R)
theorem tW.run{fs:List Field}{cs ds:List VP}{R:Prop}(h:tW P fs cs ds R){S:BS}{w:World}{xs ys:Array Value}(hx:∀(j:Nat) (q:VP),cs[j]?=some q->∃u,xs[j]?=some u/\q.p S w u)(hy:∀(j:Nat) (q:VP),ds[j]?=some q->∃u,ys[j]?=some u/\q.p S w u)(d:Nat):
    ∃b:Bool,(Op.eqFields (d+1) xs ys fs).run P w= .ok b w/\(b=true↔R):=by
  induction h with
  |nil=>exact⟨true,by simp[Op.eqFields],by simp⟩
  | cons hn h1 h2 he t ih=>
    obtain⟨u,hu,hq⟩:=hx _ _ h1;obtain⟨u',F6,Ut⟩:=hy _ _ h2;obtain⟨b,hb,ZD⟩:=he.2 S w u u' hq Ut d;obtain⟨b',hb',hbR⟩:=ih hx hy;have Qv:=fq he.1 w
    rename_i f fs cs ds q q' r R
    have p1:(part f.type xs f.offset).run P w= .ok u w:=by
      unfold part;rw[bH Qv];simp[hu]
    have p2:(part f.type ys f.offset).run P w= .ok u' w:=by
      unfold part;rw[bH Qv];simp[F6]
    cases b with
    |true=>exact⟨b',by simp[Op.eqFields,hn,p1,p2,hb,hb'],by rw[hbR];simp[ZD.1 rfl]⟩
    |false=>exact⟨false,by simp[Op.eqFields,hn,p1,p2,hb],by simp at ZD ⊢;exact λhr=>(ZD hr).elim⟩
theorem Xz{fs:Array Field}{cs ds:List VP}{R:Prop}(hT:P.underlying T=some (.struct fs))(hst:P.stoodInHeld T=false)(hg:P.eqGuardType P.depth T=false)(hx:bA env x (aC cs))(hy:bA env y (aC ds))(h:tW P fs.toList cs ds R):
    bw P hs env ⟨dst, .binOp .eql T x y T',ty,pos,after,gd⟩ (av R):=
  bw.aM λρ w S F _ he=>by
    obtain⟨xs,hv,_,hc⟩:=he.o _ _ hx;obtain⟨ys,uH,_,hd⟩:=he.o _ _ hy;obtain⟨b,hb,ZD⟩:=h.run hc hd 9998;have hf:P.fieldsOf T=fs:=by simp[Program.fieldsOf,hT]
    have e1:=run_equalIn_struct (P:=P) w 9999 T xs ys (by rw[hf];exact hT) hst;rw[hf] at e1;have e2:(Op.equalIn 10000 T (.agg xs) (.agg ys)).run P w= .ok b w:=e1.trans hb;exact⟨.bool b,by simp only[execOp,hv,uH,Sem.run_bind,run_eqGuard_agg w .eql T x y xs ys hg,Result.andThen_ok,run_eql_struct,e2,Sem.run_pure],b,rfl,ZD⟩
def an(b:UInt8):List VP:=[af .u8 (b.toNat:Int)]
instance:gX 1 an:=⟨λ_=>rfl,λx q h=>by simp only[an,List.mem_cons,List.not_mem_nil,or_false] at h;rw[h];infer_instance⟩
theorem foldl_push(l:List UInt8):∀s:ByteArray,(l.map λb=>(b.toNat:Int)).foldl (λr n=>r.push (UInt8.ofNat n.toNat)) s=⟨s.data++l.toArray⟩:=by
 induction l with
 |nil=>intro s;simp
 |cons b l ih=>
  intro s;simp only[List.map_cons,List.foldl_cons];rw[ih];have hb:UInt8.ofNat (b.toNat:Int).toNat=b:=by simp
  rw[hb];apply ByteArray.ext;simp[ByteArray.push]
theorem Q2{S:BS}{w:World}{b off:Nat}{l:List UInt8}(h:∀(i:Nat) (x:UInt8),l[i]?=some x->cT S w b (off+i*1) (an x))(d:Nat):
    (loadCells ⟨b,off,none⟩ l.length).run P {w with drawn:=d}= .ok ((l.map λb=>(b.toNat:Int)).map (Value.int .u8)).toArray {w with drawn:=d}:=by
  have:=run_loadCellsFrom (P:=P) (b:=b) (off:=off) l.length 0 #[] {w with drawn:=d} ((l.map λb=>(b.toNat:Int)).map (Value.int .u8)) (by simp) (λj v hj=>by
    simp only[List.map_map,List.getElem?_map] at hj;cases hl:l[j]? with
    |none=>rw[hl] at hj;cases hj
    | some x=>
      rw[hl] at hj;cases hj
      obtain⟨u,hu,hq⟩:=h j x hl 0 _ rfl;simp only[ag] at hq;subst hq
      simpa[World.cell?] using hu)
  simpa[loadCells] using this
theorem JG{l:List UInt8}(hs':P.underlying T=some (.slice E))(he':P.underlying E=some (.int .u8))(hd:P.underlying T'=some .string)(hx:bA env x (ai 1 an l)):bw P hs env ⟨dst, .convert T T' x,ty,pos,after,gd⟩ (dV l):=
 bw.aM λρ w S F _ he=>by
  obtain⟨a,cap,hv,hc,hm,hel⟩:=he.o _ _ hx;refine⟨.string ⟨l.toArray⟩,?_,rfl,by omega⟩;cases a with
  |none=>
   have:l=[]:=by have h0:cap=0:=hel;exact List.length_eq_zero_iff.1 (by omega)
   subst this;simp[execOp,hv,run_convert_bytes_string w T T' E none 0 cap hs' he' hd,Conv.bytesToString];rfl
  |some ad=>
   by_cases h0:l=[]
   · subst h0
     simp[execOp,hv,run_convert_bytes_string w T T' E (some ad) 0 cap hs' he' hd,Conv.bytesToString,loadCells,loadCellsFrom];rfl
   have hxp:0<l.length:=List.length_pos_iff.2 h0;obtain⟨b,off,sp⟩:=ad;obtain⟨hsp,hb,ab4⟩:=hel (by omega);simp only at hsp hb ab4;subst hsp
   have h1:=run_bytesToString (P:=P) w ⟨b,off,none⟩ l.length cap _ (Q2 (P:=P) ab4 w.drawn);rw[foldl_push] at h1;simp[execOp,hv,run_convert_bytes_string w T T' E (some ⟨b,off,none⟩) l.length cap hs' he' hd,h1]
def uY:VP:=⟨λ_ _ v=>∃a,v= .slice a 0 0,λ_ _ h=>h⟩
instance:Flat uY:=⟨λ⟨_,h⟩=>by subst h;exact⟨rfl,rfl⟩⟩
theorem Eb{α:Type}(n:Nat)(enc:α->List VP):aa uY (ai n enc []):=λS w v ⟨a,h⟩=>⟨a,0,h,by simp,by simp,by cases a with|none=>rfl|some ad=>exact λh=>absurd rfl h⟩
theorem wu{n:Nat}{zs:List Value}(hT:P.underlying T=some (.slice E))(hn:P.cellsOf E=n)(h0:Nat.blt 0 n=true)(hz:lG P E=some zs)(hzl:zs.length=n):bw P hs env ⟨dst, .buildSlice T 0 #[],ty,pos,after,gd⟩ uY:=by
 intro a w S F h1 h2 h3 h4 he K Q hk;obtain⟨arr,hr,TR⟩:=oq (enc:=λu:Unit=>[]) (ys:=[]) (len:=0) (ps:=[]) (pcs:=[]) (cs:=[]) (dst:=dst) (ty:=ty) (pos:=pos) (after:=after) (gd:=gd) hT hn h0 hz hzl .nil (by simp) (by simp[zeroV,sD]) he;unfold Oper.wp;have hr':(execOp a.eval ⟨dst, .buildSlice T 0 #[],ty,pos,after,gd⟩).run P w= .ok (.value (.slice (some ⟨w.heap.size,0,none⟩) 0 0)) {w with heap:=w.heap.push (.cells arr E)}:=hr;rw[hr'];exact hk _ _ _ (gq.Xu w S (.cells arr E)) ⟨_,rfl⟩
theorem Db{α:Type}{n by_:Nat}{enc:α->List VP}{ys:List α}{zs:List Value}{E2:TypeId}[he:gX n enc](hT:P.underlying T=some (.slice E))(Wz:P.underlying T2=some (.slice E2))(hn:P.cellsOf E=n)(h0:Nat.blt 0 n=true)
    (hz:lG P E=some zs) (hzl:zs.length=n) (hb:P.bytesOf E=by_) (hx:bA env x uY) (hy:bA env y (ai n enc ys)) (hroom:(2*ys.length+256)*by_<=281474976710656):
    bw P hs env ⟨dst, .call ⟨.builtin .append, #[x,y], #[T,T2]⟩,ty,pos,after,gd⟩ (ai n enc ys):=by
  intro a w S F h1 h2 h3 h4 oT K Q hk;have hn0:0<n:=by simpa using h0
  obtain⟨base,hv⟩:=hx S w a oT;obtain⟨ya,ycap,Q0,NU,hym,Xw⟩:=hy S w a oT;obtain⟨vy,Gl,NV,Q1⟩:=o6 (P:=P) he.len hn0 Xw NU;have hsz:=run_sizeOf hn h0 w;by_cases hy0:ys=[]
  · subst hy0
    have hr:(execOp a.eval ⟨dst, .call ⟨.builtin .append, #[x,y], #[T,T2]⟩,ty,pos,after,gd⟩).run P w= .ok (.value (.slice base 0 0)) w:=by
      have h5:=NV w.drawn;have:vy=[]:=List.length_eq_zero_iff.1 (by rw[Gl];simp);subst this;simp at h5;cases base<;>simp[execOp,resolve,invoke,builtin,Builtin.append_,hv,Q0,run_underlying hT,run_underlying Wz,hsz,Builtin.lenOf,h5,storeCells]
    unfold Oper.wp;rw[hr];exact hk _ w S (gq.refl _ _) (Eb n enc S w _ ⟨_,rfl⟩)
  · have hy1:0<ys.length:=List.length_pos_iff.2 hy0
    obtain⟨info,hi1,hi2⟩:=ga hn h0 w;obtain⟨zv',hz1',hz2'⟩:=jG hz w.drew;obtain⟨info',hi1',hi2'⟩:=ga hn h0 w.drew;have hbytes:info.bytes=by_:=hi2.trans hb;have Us:=nextslicecap_le (need:=ys.length) (cap:=0) (by omega);have hcapB:Builtin.nextslicecap (ys.length) 0*by_<=281474976710656:=Nat.le_trans (Nat.mul_le_mul_right _ Us) hroom;have hvy2':(Builtin.firstCells n ys.length (.slice ya ys.length ycap)).run P w.drew= .ok vy.toArray w.drew:=NV (w.drawn+1);have hvx2':(Builtin.firstCells n 0 (.slice base 0 0)).run P w.drew= .ok #[] w.drew:=by cases base<;>simp[Builtin.firstCells,loadCells,loadCellsFrom]
    generalize Gn:Question.cut (.appendCap (ys.length) 0 E) (w.tape w.drawn (.appendCap (ys.length) 0 E))=newCap;have hge:ys.length<=newCap:=by rw[<-Gn];simp only[Question.cut];omega
    let row:Array Value:=vy.toArray++Builtin.zeroCells zv'.cells (newCap-(ys.length))
    have hr:(execOp a.eval ⟨dst, .call ⟨.builtin .append, #[x,y], #[T,T2]⟩,ty,pos,after,gd⟩).run P w= .ok (.value (.slice (some ⟨w.heap.size,0,none⟩) ys.length newCap)) (w.drew.alloc (.cells row E)):=by
      have hnot:¬(ys.length<=0):=by omega
      have ab5:¬ys=[]:=hy0;have D8:¬((9223372036854775807:Int)<(ys.length:Int)):=by omega
      have Gp:¬(281474976710656<Builtin.nextslicecap (ys.length) 0*info.bytes):=by rw[hbytes];omega
      simp[execOp,resolve,invoke,builtin,Builtin.append_,hv,Q0,run_underlying hT,run_underlying Wz,hsz,Builtin.lenOf,ab5,D8,hi1,Gp,Question.forced,Gn,hi1',hvx2',hvy2',hz1',newRow,row]
    generalize hw':w.drew.alloc (.cells row E)=w' at hr;unfold Oper.wp;rw[hr];have hheap:w'.heap=w.heap.push (.cells row E):=by rw[<-hw'];rfl
    have hg0:=gq.new1 w S (.cells row E);have hg:gq w w' S (λk=>S k\/k=w.heap.size):=⟨by rw[<-hw'];rfl,by rw[<-hw'];rfl,by rw[<-hw'];rfl,by rw[hheap];exact hg0.size,λk hk=>by rw[hheap];exact cL w _ k hk,hg0.sub,λk hk=>by rw[hheap];exact hg0.new k hk⟩;refine hk _ w' _ hg ⟨some ⟨w.heap.size,0,none⟩,newCap,rfl,hge,hym,λ_=>⟨rfl, .inr rfl,λi y0 hi j q hj=>?_⟩⟩
    have zk:cT (λk=>S k\/k=w.heap.size) w' w.heap.size 0 (ys.flatMap enc):=λj q hj=>by
      obtain⟨u,hu,hq⟩:=Q1 j q hj;have hjl:=(List.getElem?_eq_some_iff.1 hj).1;rw[gO he.len] at hjl;refine⟨u,?_,hg.vp h1 hq⟩
      have:row[j]?=some u:=by
        simp only[row];rw[Array.getElem?_append_left (by simp[Gl];omega)];simpa using hu
      simp[World.cell?,hheap,this]
    exact lH he.len zk i y0 hi j q hj
def exV{γ:Type}(ψ:γ->Prop)(qs:γ->VP):VP:=⟨λS w v=>∃g,ψ g/\(qs g).p S w v,λh1 h2 ⟨g,hg,h⟩=>⟨g,hg,(qs g).mono h1 h2 h⟩⟩
instance {γ:Type} (ψ:γ->Prop) (qs:γ->VP) [∀g,Flat (qs g)]:Flat (exV ψ qs):=⟨λ⟨_,_,h⟩=>Flat.flat h⟩
theorem aa.ex{γ:Type}{ψ:γ->Prop}{qs:γ->VP}(g:γ)(hg:ψ g)(h:aa q (qs g)):aa q (exV ψ qs):=λS w v hv=>⟨g,hg,h S w v hv⟩
theorem bw.WB{γ:Type}{ψ:γ->Prop}{qs:γ->VP}{o:Oper}(h:bw P hs env o (exV ψ qs)):gW P hs env o ψ (λ_=>hs) qs:=
 fun c a w S F aI hown sA K Q hk=>h a w S F aI.bZ aI.cK aI.eg hown sA K Q λv w' S' g ⟨γ0,h1,h2⟩=>
  hk γ0 v w' S' F h1 (aI.grow g) g.sub (λk hk=>g.kept k (aI.bZ k hk)) (g.zZ aI.bZ aI.cK hown) h2
end
end Go.Hl
end
