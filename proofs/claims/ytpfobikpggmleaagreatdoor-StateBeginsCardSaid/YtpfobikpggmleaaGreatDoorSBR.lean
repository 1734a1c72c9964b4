/-
  What the statement's proof leans on, several texts in one (packed by a program).
-/
import Derived.Test.YtpfobikpggmleaaGreatDoorSBQ
import Derived.Shelf.SlSortCmp.WholeK
import Derived.Ground.SlsfProg
import Derived.Ground.NamesProg
set_option linter.all false
set_option maxRecDepth 1000000
set_option maxHeartbeats 4000000
section
namespace Go.Proofs
open Go.Shelf Go.RowKit Go.Lib Go.Sort
def Tryz.GB:Go.Shelf.Ren:=⟨fun|6=>125|15=>144|14=>143|28=>184|29=>185|20=>176|21=>177|22=>178|23=>179|24=>180|25=>181|26=>182|27=>183|46=>216|47=>217|48=>218|49=>219|50=>220|57=>236|n=>n,fun|22=>235|24=>137|25=>263|3=>3|39=>282|0=>0|53=>222|55=>58|4=>4|46=>312|45=>311|50=>71|5=>5|9=>9|66=>346|70=>350|76=>369|77=>370|n=>n,fun|n=>n⟩
theorem Tryz.SC:Go.Proofs.SlLaysF0.n6 Tryz.prog Tryz.GB:={
 mixed:=by kernel_rfl
 f6:=⟨Tryz.f125.name,by decide,Tryz.func125.trans (congrArg some (by kernel_rfl))⟩
 f14:=⟨Tryz.f143.name,by decide,Tryz.func143.trans (congrArg some (by kernel_rfl))⟩
 f15:=Tryz.func144.trans (congrArg some (by kernel_rfl))
 f20:=⟨Tryz.f176.name,by decide,Tryz.func176.trans (congrArg some (by kernel_rfl))⟩
 f21:=⟨Tryz.f177.name,by decide,Tryz.func177.trans (congrArg some (by kernel_rfl))⟩
 f22:=⟨Tryz.f178.name,by decide,Tryz.func178.trans (congrArg some (by kernel_rfl))⟩
 f23:=⟨Tryz.f179.name,by decide,Tryz.func179.trans (congrArg some (by kernel_rfl))⟩
 f24:=⟨Tryz.f180.name,by decide,Tryz.func180.trans (congrArg some (by kernel_rfl))⟩
 f25:=⟨Tryz.f181.name,by decide,Tryz.func181.trans (congrArg some (by kernel_rfl))⟩
 f26:=⟨Tryz.f182.name,by decide,Tryz.func182.trans (congrArg some (by kernel_rfl))⟩
 f27:=⟨Tryz.f183.name,by decide,Tryz.func183.trans (congrArg some (by kernel_rfl))⟩
 f28:=Tryz.func184.trans (congrArg some (by kernel_rfl))
 f29:=Tryz.func185.trans (congrArg some (by kernel_rfl))
 f46:=⟨Tryz.f216.name,by decide,Tryz.func216.trans (congrArg some (by kernel_rfl))⟩
 f47:=Tryz.func217.trans (congrArg some (by kernel_rfl))
 f48:=Tryz.func218.trans (congrArg some (by kernel_rfl))
 f49:=⟨Tryz.f219.name,by decide,Tryz.func219.trans (congrArg some (by kernel_rfl))⟩
 f50:=⟨Tryz.f220.name,by decide,Tryz.func220.trans (congrArg some (by kernel_rfl))⟩
 f57:=⟨Tryz.f236.name,by decide,Tryz.func236.trans (congrArg some (by kernel_rfl))⟩
 t0:=Tryz.underlying0
 a0:=Tryz.isAgg0
 z0:=Tryz.sizeOf0
 v0:=Tryz.zeroValue0
 t3:=Tryz.underlying3
 a3:=Tryz.isAgg3
 z3:=Tryz.sizeOf3
 v3:=Tryz.zeroValue3
 t4:=Tryz.underlying4
 a4:=Tryz.isAgg4
 z4:=Tryz.sizeOf4
 v4:=Tryz.zeroValue4
 t5:=Tryz.underlying5
 a5:=Tryz.isAgg5
 z5:=Tryz.sizeOf5
 v5:=Tryz.zeroValue5
 t9:=Tryz.underlying9
 a9:=Tryz.isAgg9
 z9:=Tryz.sizeOf9
 v9:=Tryz.zeroValue9
 t22:=Tryz.underlying235
 a22:=Tryz.isAgg235
 z22:=Tryz.sizeOf235
 v22:=Tryz.zeroValue235
 t25:=Tryz.underlying263
 a25:=Tryz.isAgg263
 z25:=Tryz.sizeOf263
 v25:=Tryz.zeroValue263
 t39:=Tryz.underlying282
 a39:=Tryz.isAgg282
 z39:=Tryz.sizeOf282
 v39:=Tryz.zeroValue282
 t45:=Tryz.underlying311
 a45:=Tryz.isAgg311
 z45:=Tryz.sizeOf311
 v45:=Tryz.zeroValue311
 t46:=Tryz.underlying312
 a46:=Tryz.isAgg312
 z46:=Tryz.sizeOf312
 v46:=Tryz.zeroValue312
 t50:=Tryz.underlying71
 a50:=Tryz.isAgg71
 z50:=Tryz.sizeOf71
 v50:=Tryz.zeroValue71
 t53:=Tryz.underlying222
 a53:=Tryz.isAgg222
 z53:=Tryz.sizeOf222
 v53:=Tryz.zeroValue222
 t55:=Tryz.underlying58
 a55:=Tryz.isAgg58
 z55:=Tryz.sizeOf58
 v55:=Tryz.zeroValue58
 t66:=Tryz.underlying346
 a66:=Tryz.isAgg346
 z66:=Tryz.sizeOf346
 v66:=Tryz.zeroValue346
 t70:=Tryz.underlying350
 a70:=Tryz.isAgg350
 z70:=Tryz.sizeOf350
 v70:=Tryz.zeroValue350
 t76:=Tryz.underlying369
 a76:=Tryz.isAgg369
 z76:=Tryz.sizeOf369
 v76:=Tryz.zeroValue369
 t77:=Tryz.underlying370
 a77:=Tryz.isAgg370
 z77:=Tryz.sizeOf370
 v77:=Tryz.zeroValue370}
def rE:Type:={e:Hl.bD×List Value//(0≤e.1.2∧e.1.2≤9223372036854775807)∧e.2.length=2∧e.2[1]?=some (.int .i64 e.1.2)∧∀v∈e.2,v.oneCell'=true}
instance:Inhabited rE:=⟨⟨((0,0),[.int .i64 0, .int .i64 0]),⟨by simp,by simp⟩,rfl,rfl,by simp[Value.oneCell']⟩⟩
def rE.enc(x:rE):List Value:=x.1.2
def rE.cf(x y:rE):Int:=x.1.1.2-y.1.1.2
theorem rE.lt(x y:rE):ltOf rE.cf x y=decide (x.1.1.2<y.1.1.2):=by
 unfold ltOf rE.cf;rw[Bool.eq_iff_iff];simp;omega
theorem rE.swo:SWO (ltOf rE.cf) where
 irrefl x:=by rw[rE.lt];simp
 trans x y z h1 h2:=by rw[rE.lt] at*;simp at*;omega
 ntrans x y z h1 h2:=by rw[rE.lt] at*;simp at*;omega
theorem Tryz.Va(x1 x2 y1 y2:Value)(a b:Int)(h1:x2= .int .i64 a)(h2:y2= .int .i64 b)(ha:0≤a∧a≤9223372036854775807)(hb:0≤b∧b≤9223372036854775807)(W:World):
    Calls Tryz.prog 126 #[.agg #[x1,x2], .agg #[y1,y2]] W fun e w'=>e= .returned (.int .i64 (a-b))∧∃q os',w'=grow (W.drewN q) os':=by
  subst h1;subst h2
  obtain⟨ha1,ha2⟩:=ha;obtain⟨zk,Qb⟩:=hb
  go_enter Tryz.func126,Tryz.ntmps126
  go_wp2
  go_ret
  exact⟨rfl,0,_,by rw[alloc_eq_grow,alloc_eq_grow,grow_grow];rfl⟩
theorem rE.aq0(blk off size:Nat)(w:World):CmpLays Tryz.prog 126 #[] rE.enc 2 rE.cf blk off size w:=fun m os dk hs x y=>by
 obtain⟨⟨ex,vx⟩,⟨hx1,hx2⟩,Vb,hx4,hx5⟩:=x;obtain⟨⟨ey,vy⟩,⟨hy1,hy2⟩,TV,TW,hy5⟩:=y;simp only at hx1 hx2 Vb hx4 hx5 hy1 hy2 TV TW hy5
 match vx,Vb,hx4,vy,TV,TW with
 |[x1,x2],_,hx4,[y1,y2],_,TW=>
  exact Tryz.Va x1 x2 y1 y2 ex.2 ey.2 (by simpa using hx4) (by simpa using TW) ⟨hx1,hx2⟩ ⟨hy1,hy2⟩ _
namespace YtpfobikpggmleaaGreatDoor
open Go.Hl
theorem AF{xs:List bD}{b cap:Nat}(hr:∀x∈xs,0≤x.2∧x.2≤9223372036854775807):
    cv Tryz.prog 125 [aa (bt (some (b,cap)) xs.length),aa (.func (.func 126) #[] #[])] [av (some (b,cap)) 2 rB xs] (γ:=List bD) (fun ys=>ys.Perm xs)
      (fun ys=>[av (some (b,cap)) 2 rB ys]) (fun _=>bE []):=by
  intro w S F vs hS hF hSF hown hall;obtain⟨F1,F2,qn,xE,Cy,_⟩:=hown;obtain⟨hFb,hlc,hlm,arr,T,hh,hn,hc⟩:=Cy
  have hvs:vs= #[.slice (some ⟨b,0,none⟩) xs.length cap, .func (.func 126) #[] #[]]:=by
    obtain⟨h1,h2⟩:=hall;obtain⟨l⟩:=vs
    match l,h1,h2 with
    | [u,v],_,h2=>
      have e1:=h2 0 _ u rfl rfl;simp only[aa] at e1
      have e2:=h2 1 _ v rfl rfl;simp only[aa] at e2
      rw[e1,e2];rfl
  subst hvs;have TX:∀x:bD,(rB x).length=2:=fun _=>rfl
  obtain⟨ds,Hw,hds⟩:=qh (p:=fun i (e:rE)=>xs[i]?=some e.1.1∧gW (rB e.1.1) S w e.1.2∧∀j,j<2→arr[i*2+j]?=e.1.2[j]?) xs.length (fun i hi=>by
    have hx:xs[i]?=some xs[i]:=List.getElem?_eq_getElem hi;have hcell:∀j q,(rB xs[i])[j]?=some q→∃u,arr[i*2+j]?=some u∧q.p S w u:=fun j q hj=>hc _ q (nw TX xs i _ j q hx hj);obtain⟨u0,h0,q0⟩:=hcell 0 _ rfl;obtain⟨u1,h1,q1⟩:=hcell 1 _ rfl;refine⟨⟨(xs[i],[u0,u1]),hr _ (List.getElem_mem hi),rfl,by simpa[aa] using q1,fun v hv=>?_⟩,hx,?_,fun j hj=>?_⟩
    · simp only[List.mem_cons,List.not_mem_nil,or_false] at hv
      rcases hv with rfl|rfl
      · exact(Flat.flat q0).2
      · exact(Flat.flat q1).2
    · exact(gW.one q0).cat (gW.one q1)
    · match j,hj with
      |0,_=>exact h0
      |1,_=>exact h1)
  have hdx:∀i (hi:i<ds.length),xs[i]?=some ds[i].1.1∧gW (rB ds[i].1.1) S w ds[i].1.2∧∀j,j<2→arr[i*2+j]?=ds[i].1.2[j]?:=fun i hi=>hds i _ (List.getElem?_eq_getElem hi)
  have hxd:xs=ds.map (·.1.1):=List.ext_getElem? fun i=>by
    by_cases hi:i<ds.length
    · rw[(hdx i hi).1,List.getElem?_map,List.getElem?_eq_getElem hi];rfl
    · rw[List.getElem?_eq_none (by omega),List.getElem?_eq_none (by simp;omega)]
  have hEl:∀x:rE,(rE.enc x).length=2:=fun x=>x.2.2.1
  have hH:HoldsK rE.enc 2 w b 0 ds.toArray:=fun t ht=>by
    have ht':t<ds.length*2:=by simpa using ht
    have hi:t/2<ds.length:=by omega
    have h5:=(hdx _ hi).2.2 (t%2) (by omega);rw[show t/2*2+t%2=t by omega] at h5;rw[get_flatK _ _ _ t (by simpa using ht)];have e1:ds.toArray[t/2]! =ds[t/2]:=by simp[hi]
    rw[e1];have hlt:t%2<(rE.enc ds[t/2]).length:=by rw[hEl];omega
    refine⟨?_,?_⟩
    · simp only[World.cell?,hh,Nat.zero_add]
      rw[h5]
      show(rE.enc ds[t/2])[t%2]?=some (id ((rE.enc ds[t/2])[t%2]!))
      rw[getElem!_pos (rE.enc ds[t/2]) (t%2) hlt];exact List.getElem?_eq_getElem hlt
    · simp[World.frozen?,hh]
  have V1:b<w.heap.size:=hF b (qn b hFb).1
  have hcall:=AnyQ.slices_SortFunc Tryz.SC 2 Tryz.isAgg137 Tryz.sizeOf137 rE.enc hEl (fun x v hv=>x.2.2.2.2 v hv) rE.cf rE.swo 126 #[] b 0 cap ds.toArray w
    (enters_of Tryz.func126 (by kernel_rfl) rfl) (rE.aq0 _ _ _ _) hH V1 (by simp;omega)
  change Calls Tryz.prog 125 _ _ _ at hcall
  have hsz:ds.toArray.size=xs.length:=by simpa using Hw
  rw[hsz] at hcall;refine hcall.mono ?_;rintro e w' ⟨rfl,d',n,os,hp,hso,rfl⟩;obtain⟨hp1,_,fI⟩:=hp;have hd'l:d'.size=xs.length:=by rw[hp1];exact hsz
  have hperm:d'.toList.Perm ds:=by
    have hx:∀a:Array rE,a.size=xs.length→a.extract 0 xs.length=a:=fun a ha=>by rw[←ha];simp
    have:=fI;rw[hx _ hd'l,hx _ hsz] at this;exact this
  have hmem:∀x∈d'.toList,gW (rB x.1.1) S w x.1.2:=fun x hx=>by
    obtain⟨i,hi,rfl⟩:=List.mem_iff_getElem.1 (hperm.mem_iff.1 hx);exact(hdx i hi).2.1
  have hne:∀k,k<w.heap.size→k≠b→(sortWorldK rE.enc 2 w b 0 n d' os).heap[k]?=w.heap[k]?:=fun k hk hkb=>by
    simp only[sortWorldK,putRowK,putRow,mapBlock,grow];rw[Array.getElem?_append_left (by simpa using hk),Array.getElem?_modify,if_neg (fun h=>hkb h.symm)];rfl
  have hagS:∀k,S k→(sortWorldK rE.enc 2 w b 0 n d' os).heap[k]?=w.heap[k]?:=fun k hk=>hne k (hS k hk) (fun e=>hSF k hk (e▸(qn b hFb).1));refine⟨_,S,F,d'.toList.map (·.1.1),rfl,⟨rfl,rfl,rfl,?_,fun k hk hm=>hne k hk (fun e=>hm (e▸(qn b hFb).1)),hSF,fun k hk=>?_,fun k hk=>?_,fun k hk=> .inl hk,fun k hk=> .inl hk,fun _ h=>h⟩,?_,?_,⟨#[],rfl,rfl,fun j p v hj=>by simp at hj⟩⟩
  · simp[sortWorldK,putRowK,putRow,mapBlock,grow]
  · have:=hS k hk;simp[sortWorldK,putRowK,putRow,mapBlock,grow];omega
  · have:=hF k hk;simp[sortWorldK,putRowK,putRow,mapBlock,grow];omega
  · rw[hxd];exact hperm.map _
  · refine⟨F1,F2,qn,xE,⟨hFb,by simp;omega,by simp;omega,putCells id 0 (flatK rE.enc 2 d') arr,T,?_,by simp[putCells,hn],fun j q hj=>?_⟩,trivial⟩
    · simp only[sortWorldK,putRowK,putRow,mapBlock,grow]
      rw[Array.getElem?_append_left (by simpa using V1),Array.getElem?_modify,if_pos rfl]
      show Option.map _ w.heap[b]?=_
      rw[hh];rfl
    · obtain⟨x,hx,hxj⟩:=rH TX (by omega) _ j q hj
      rw[List.getElem?_map] at hx;cases hdj:d'.toList[j/2]? with
      |none=>rw[hdj] at hx;cases hx
      | some e=>
        rw[hdj] at hx;cases hx
        have hi:=(List.getElem?_eq_some_iff.1 hdj).1;have he:=(List.getElem?_eq_some_iff.1 hdj).2;simp only[Array.length_toList] at hi;have hA:=hmem e (List.mem_of_getElem? hdj);have hj5:j%2<e.1.2.length:=by rw[e.2.2.1];omega
        have hq:=hA.2 (j%2) q _ hxj (List.getElem?_eq_getElem hj5);refine⟨e.1.2[j%2],?_,q.mono (fun _ h=>h) hagS hq⟩;have QS:j<d'.size*2:=by omega
        have hja:j<arr.size:=by rw[hn];omega
        rw[putCells,Array.getElem?_mapIdx,Array.getElem?_eq_getElem hja];simp only[Option.map_some,Nat.zero_le,true_and,Nat.zero_add,Nat.sub_zero,size_flatK,if_pos QS,id];rw[get_flatK _ _ _ j QS,getElem!_pos d' (j/2) hi];have hee:d'[j/2]=e:=by simpa using he
        rw[hee]
        show some ((rE.enc e)[j%2]!)=_
        rw[getElem!_pos (rE.enc e) (j%2) (show j%2<(rE.enc e).length from hj5)];rfl
end YtpfobikpggmleaaGreatDoor
end Go.Proofs
end
section
namespace Go.Proofs.YtpfobikpggmleaaGreatDoor
open Go.Hl Go.RowKit
variable {fv:Value}
theorem MZ:cv Tryz.prog 176 [ai 2 rB ([]:List bD),aU 0,aU 0,aa fv] [] (γ:=Unit) (fun _=>True) (fun _=>[]) (fun _=>bE []):=by
 refine In 53 Tryz.func176 fun _ _ _=>?_;refine Z8 ?_;refine .aS (σ:=Unit) (fun _=>[]) (fun _=>[]) (fun _=>True) (fun _=>0) () trivial rfl ?_ ?_
 · exact(.refl _ _)
 rintro _ _;refine Z8 ?_;refine CT fun c0=>?_;refine Z4 ?_;refine Post.iA rfl (()) (by trivial) (fun _ _ _ h=>h) rfl
theorem M0:cv Tryz.prog 143 [ai 2 rB ([]:List bD),aU 0,aU 0,aU 0,aa fv] [] (γ:=Unit) (fun _=>True) (fun _=>[]) (fun _=>bE []):=by
 refine In 148 Tryz.func143 fun _ _ _=>?_;refine cc ?_;refine .aS (σ:=Unit) (fun _=>[]) (fun _=>[]) (fun _=>True) (fun _=>0) () trivial rfl ?_ ?_
 · exact(.refl _ _)
 rintro _ _;refine AY ?_;refine CF fun c0=>?_;refine Z6 ?_;refine .p (cA (h:=MZ)) rfl ?_;refine Z7 ?_;refine Post.Uy rfl (()) (by trivial) (fun _ _ _ h=>h) rfl
theorem GC:cQ Tryz.prog 185 [ag .u64 0] (aU 0):=by
 refine In 25 Tryz.func185 fun _ _ _=>?_;have WE:(0:UInt8).toNat=0:=rfl;refine dN ?_;refine CT fun c0=>?_;refine Z9 ?_;refine CT fun c1=>?_;refine Z9 ?_;refine CT fun c2=>?_;refine Z7 ?_;refine .p (jO FU.out (.s [0,1,2,2,3,3,3,3,4,4,4,4,4,4,4,4,5,5,5,5,5,5,5,5,5,5,5,5,5,5,5,5,6,6,6,6,6,6,6,6,6,6,6,6,6,6,6,6,6,6,6,6,6,6,6,6,6,6,6,6,6,6,6,6,7,7,7,7,7,7,7,7,7,7,7,7,7,7,7,7,7,7,7,7,7,7,7,7,7,7,7,7,7,7,7,7,7,7,7,7,7,7,7,7,7,7,7,7,7,7,7,7,7,7,7,7,7,7,7,7,7,7,7,7,7,7,7,7,8,8,8,8,8,8,8,8,8,8,8,8,8,8,8,8,8,8,8,8,8,8,8,8,8,8,8,8,8,8,8,8,8,8,8,8,8,8,8,8,8,8,8,8,8,8,8,8,8,8,8,8,8,8,8,8,8,8,8,8,8,8,8,8,8,8,8,8,8,8,8,8,8,8,8,8,8,8,8,8,8,8,8,8,8,8,8,8,8,8,8,8,8,8,8,8,8,8,8,8,8,8,8,8,8,8,8,8,8,8,8,8,8,8,8,8,8,8,8,8,8,8,8,8,8,8,8,8] rfl rfl) (.t rfl) (show(0:Int)=((0:Nat):Int) from rfl) (e:=0) rfl) rfl ?_;refine Z6 ?_;refine bB ?_;exact af.int (by decide)
theorem M1:cQ Tryz.prog 144 [ag .u64 0] (aU 0):=by
 refine In 8 Tryz.func144 fun _ _ _=>?_;refine Z6 ?_;refine CT fun c0=>?_;refine Z5 ?_;refine .p (cA (h:=GC)) rfl ?_;refine Z4 ?_;refine bB ?_;exact af.refl _
theorem Js:cv Tryz.prog 125 [ai 2 rB ([]:List bD),aa fv] [] (γ:=Unit) (fun _=>True) (fun _=>[]) (fun _=>bE []):=by
 refine In 14 Tryz.func125 fun _ _ _=>?_;refine cc ?_;refine .p (fk FU.out FU.out (.t rfl)) rfl ?_;refine .p (cA (h:=M1)) rfl ?_;refine Z1 ?_;refine .p (cA (h:=M0)) rfl ?_;refine Z1 ?_;refine Post.iA rfl (()) (by trivial) (fun _ _ _ h=>h) rfl
end Go.Proofs.YtpfobikpggmleaaGreatDoor
end
section
namespace Go.Proofs.YtpfobikpggmleaaGreatDoor
open Go.Hl
theorem Bi{g:SB}{xs:List bD}(hr:∀x∈xs,0≤x.2∧x.2≤9223372036854775807):
    cv Tryz.prog 125 [aa (bt g xs.length),aa (.func (.func 126) #[] #[])] [av g 2 rB xs] (γ:=List bD) (fun ys=>ys.Perm xs) (fun ys=>[av g 2 rB ys]) (fun _=>bE []):=by
  cases g with
  |some p=>obtain⟨b,cap⟩:=p;exact AF hr
  | none=>
    intro w S F vs hS hF hSF hown hall;obtain⟨F1,F2,f1,f2,hx,_⟩:=hown;have hx':xs=[]:=hx;subst hx';refine(Js (fv:= .func (.func 126) #[] #[]) w S F vs hS hF hSF trivial ⟨hall.1,fun j p v hj hv=>?_⟩).mono ?_
    · match j,hj with
      |0,hj=>simp at hj;subst hj;exact aI _ _ _ _ _ (hall.2 0 _ v rfl hv)
      |1,hj=>exact hall.2 1 p v hj hv
    · rintro e w' ⟨v,S',F',u,he,hs,_,_,hq⟩
      exact⟨v,S',F',[],he,hs,List.Perm.refl _,⟨fun _=>False,F',fun _ h=>h.elim,fun _ h=>h,rfl,trivial⟩,hq⟩
end Go.Proofs.YtpfobikpggmleaaGreatDoor
end
section
namespace Go.Hl
theorem Qc{a:bD}:af (aa (xH a)) (aC [aU a.1,aU a.2]):=fun S w v h=>by
 simp only[aa] at h;refine⟨_,h,rfl,fun j q hj=>?_⟩
 match j,hj with
 |0,hj=>simp at hj;subst hj;exact⟨_,rfl,rfl⟩
 |1,hj=>simp at hj;subst hj;exact⟨_,rfl,rfl⟩
def fW(D:List (bD×Int))(mem:Int)(seen:List Nat):List bD:=seen.filterMap fun j=>(D[j]?).bind fun p=>if p.1.1=mem then some p.1 else none
variable {mem:Int} {seen:List Nat} {j:Nat}
theorem vN{D:List (bD×Int)}{p:bD×Int}(h:D[j]?=some p)(hm:p.1.1=mem):fW D mem (seen++[j])=fW D mem seen++[p.1]:=by
 unfold fW;rw[List.filterMap_append];simp[h,hm]
theorem x6{D:List (bD×Int)}{p:bD×Int}(h:D[j]?=some p)(hm:¬p.1.1=mem):fW D mem (seen++[j])=fW D mem seen:=by
 unfold fW;rw[List.filterMap_append];simp[h,hm]
theorem DL{D:List (bD×Int)}(hn:(D.map (·.1)).Nodup)(hall:∀j,j<D.length→j∈seen)(k:bD):k∈fW D mem seen↔k.1=mem∧∃id,aq D k=some id:=by
 unfold fW;rw[List.mem_filterMap];constructor
 · rintro⟨j,_,h⟩
   cases hj:D[j]? with
   |none=>rw[hj] at h;cases h
   |some p=>
    rw[hj] at h;simp only[Option.bind_some] at h
    split at h
    · rename_i hm
      cases h;exact⟨hm,p.2,u6 hn (List.mem_of_getElem? hj)⟩
    · cases h
 · rintro⟨hm,id,hid⟩
   obtain⟨j,hj⟩:=List.mem_iff_getElem?.1 (uc hid);exact⟨j,hall j (List.getElem?_eq_some_iff.1 hj).1,by rw[hj];simp[hm]⟩
theorem Qd{n:Nat}(hn:seen.Nodup)(h:∀j∈seen,j<n):seen.length≤n:=by
 have:=CQ (m:=List.range n) hn fun x hx=>List.mem_range.2 (h x hx);simpa using this
theorem DM(D:List (bD×Int))(mem:Int)(seen:List Nat):(fW D mem seen).length≤seen.length:=List.length_filterMap_le _ _
theorem uF(h:seen.Nodup)(hj:j∉seen):(seen++[j]).Nodup:=by
 rw[List.nodup_append];exact⟨h,by simp,fun a ha b hb e=>by simp at hb;subst hb;subst e;exact hj ha⟩
def Cp(z:Nat)(C:Cont)(mem:Int):Cont:=if fG z (mem,0) 0 0=0 then fun k=>if k.1=mem then List.replicate z 0 else C k else C
structure tO(X:tF)(p0:jQ)(a:ej)(s:jU)(C:Cont)(D:List bD)(mem:Int)(p:jQ)(C1:Cont)(i:Nat):Prop where
 inv:Inv X p a s C1 D
 bm:p.bm=p0.bm
 out:∀k:bD,k.1≠mem→C1 k=C k
 le:i≤X.n
 fr:∀(j:Nat) (f:Fr),j<i→p.l[j]?=some f→f.used=true→f.k.1≠mem
variable {X:tF} {p:jQ} {a:ej} {s:jU} {C:Cont} {D:List bD} {p0:jQ} {C1:Cont} {i:Nat}
theorem tO.yes{fr:Fr}(h:tO X p0 a s C D mem p C1 i)(hi:p.l[i]?=some fr)(hu:fr.used=true)(hm:fr.k.1=mem):
    tO X p0 a s C D mem {p with l:=p.l.set i ⟨fr.at_,(0,0),false,false,false⟩,oa:=gf p.oa fr.k} (iB C1 fr.k (wJ p s fr.k)) (i+1):=by
  refine⟨h.inv.Xf hi hu,h.bm,fun k hk=>?_,?_,fun j f hj Vc uP=>?_⟩
  · unfold iB;rw[if_neg (fun e=>hk ((congrArg Prod.fst e).trans hm))];exact h.out k hk
  · have:=(List.getElem?_eq_some_iff.1 hi).1;have:=h.inv.ok.n;omega
  · rcases jE Vc with⟨rfl,rfl⟩|⟨hne,Vc⟩
    · cases uP
    · exact h.fr j f (by omega) Vc uP
theorem tO.no{fr:Fr}(h:tO X p0 a s C D mem p C1 i)(hi:p.l[i]?=some fr)(hu:¬(fr.used=true∧fr.k.1=mem)):tO X p0 a s C D mem p C1 (i+1):=by
 refine⟨h.inv,h.bm,h.out,?_,fun j f hj Vc uP=>?_⟩
 · have:=(List.getElem?_eq_some_iff.1 hi).1;have:=h.inv.ok.n;omega
 · by_cases e:j=i
   · subst e;rw[hi] at Vc;cases Vc;exact fun hm=>hu ⟨uP,hm⟩
   · exact h.fr j f (by omega) Vc uP
structure AG(X:tF)(a:ej)(s0:jU)(C:Cont)(D:List bD)(mem:Int)(l:List bD)(p:jQ)(s:jU)(C2:Cont)(i:Nat):Prop where
 inv:Inv X p a s C2 D
 size:s.size=s0.size
 cap:s.cap=s0.cap
 out:∀k:bD,k.1≠mem→C2 k=C k
 fr:∀k:bD,k.1=mem→aq p.oa k=none
 bm:∀(k:bD) (id:Int),aq p.bm k=some id→k.1=mem→k∈l.drop i
 le:i≤l.length
variable {l:List bD}
theorem tO.done(h:tO X p0 a s C D mem p C1 X.n)(hl:∀k,k∈l↔k.1=mem∧∃id,aq p.bm k=some id):AG X a s C D mem l p s C1 0:=by
 refine⟨h.inv,rfl,rfl,h.out,fun k hk=>?_,fun k id hb hk=>by rw[List.drop_zero];exact(hl k).2 ⟨hk,id,hb⟩,Nat.zero_le _⟩;cases hq:aq p.oa k with
 |none=>rfl
 |some v=>
  obtain⟨j,f,_,hj,hu,AU⟩:=h.inv.UI k v hq;have:=(List.getElem?_eq_some_iff.1 hj).1;exact absurd (AU▸hk) (h.fr j f (by have:=h.inv.ok.n;omega) hj hu)
theorem AG.step{s0:jU}{C2:Cont}{k:bD}(h:AG X a s0 C D mem l p s C2 i)(hk:l[i]?=some k)(hm:k.1=mem){g:jQ×jU×Nat}(hg:g=j6 p s k):
    g.2.2=0∧AG X a s0 C D mem l g.1 g.2.1 (iB C2 k (List.replicate s.size 0)) (i+1)∧g.1.l=p.l∧g.1.oa=p.oa:=by
  obtain⟨h1,h2,h3,h4,h5,h6,h7⟩:=h.inv.free (h.fr k hm) hg;refine⟨h1,⟨h2,h3.trans h.size,h7.trans h.cap,fun k' hk'=>?_,fun k' hk'=>by rw[h5];exact h.fr k' hk',fun k' id hb hk'=>?_,(List.getElem?_eq_some_iff.1 hk).1⟩,h4,h5⟩
  · unfold iB;rw[if_neg (fun e=>hk' ((congrArg Prod.fst e).trans hm))];exact h.out k' hk'
  · rw[h6] at hb
    by_cases e:k'=k
    · rw[if_pos e] at hb;cases hb
    · rw[if_neg e] at hb
      have h9:=h.bm k' id hb hk';rw[List.drop_eq_getElem_cons (List.getElem?_eq_some_iff.1 hk).1] at h9;rcases List.mem_cons.1 h9 with h9|h9
      · exact absurd (h9.trans (List.getElem?_eq_some_iff.1 hk).2) e
      · exact h9
theorem AG.done{s0:jU}{C2:Cont}{z:Nat}(h:AG X a s0 C D mem l p s C2 l.length)(hz:s.size=z)(h0:fG z (mem,0) 0 0=0):C2=Cp z C mem:=by
 unfold Cp;rw[if_pos h0]
 funext k
 by_cases hk:k.1=mem
 · rw[if_pos hk]
   rcases h.inv.UJ (h.fr k hk) with h1|⟨id,h1,_⟩
   · rw[pL h1.2,h.inv.u9,hz]
   · have:=h.bm k id h1 hk
     rw[List.drop_length] at this;cases this
 · rw[if_neg hk];exact h.out k hk
end Go.Hl
end
section
namespace Go.Proofs.YtpfobikpggmleaaGreatDoor
open Go.Hl Go.RowKit
theorem Qe{X:tF}{p:jQ}{mem:Int}(az:(p.bm.map (·.1)).Nodup)(hp1:∀k id,aq p.bm k=some id→OV k)(hp2:p.bm.length≤4096):cv Tryz.prog 102 [aD X.pb 0,aU mem] [gj X p,qv X p] (γ:=List bD) (fun l=>∀k,k∈l↔k.1=mem∧∃id,aq p.bm k=some id) (fun _=>[gj X p,qv X p]) (fun l=>ai 2 rB l):=by
 refine In 27 Tryz.func102 fun _ _ _=>?_;refine EX ?_;refine .n (O1 (i:=1) Tryz.underlying130 (.t rfl) rfl) rfl fun aq1 _=>?_;refine Z3 ?_;refine .own (tH (n:=2) (enc:=rB)) ?_;refine .own (aB.perm (Perm.idx [1,2,0] rfl rfl)) ?_;refine .aS (σ:=List Nat×SB) (fun g=>[gj X p,vg aq1 X.m2 xH aU p.bm g.1,av g.2 2 rB (fW p.bm mem g.1)]) (fun g=>[(5,aa (bt g.2 (fW p.bm mem g.1).length))]) (fun g=>g.1.Nodup∧∀j∈g.1,j<p.bm.length) (fun g=>p.bm.length-g.1.length) ([],none) ⟨List.nodup_nil,fun j h=>(by cases h)⟩ rfl ?_ ?_
 · exact(.get rfl (af.refl _) (.refl _ _))
 rintro⟨seen,gb1⟩ ⟨hnd,hin⟩;simp only at hnd hin ⊢;refine Z2 ?_;refine .n (RF (i:=1) (.t rfl) rfl) rfl fun g12 h12=>?_;refine .p (O3 (.t rfl)) rfl ?_;refine Z3 ?_;refine Cd (fun c0=>?_) fun c0=>?_
 ·
  obtain⟨j,rfl⟩:=Option.isSome_iff_exists.1 c0;obtain⟨hjl,QS⟩:=h12.2 j rfl;obtain⟨p1,XL⟩:=getElem?_lt' (xs:=p.bm) (k:=j) hjl;have Cy:=Qd (uF hnd QS) (n:=p.bm.length) (fun x hx=>(by(rcases List.mem_append.1 hx with hx|hx;(exact hin x hx);(simp at hx;subst hx;exact hjl))));have I4:∀x∈seen++[j],x<p.bm.length:=fun x hx=>(by(rcases List.mem_append.1 hx with hx|hx;(exact hin x hx);(simp at hx;subst hx;exact hjl)));have qf:=DM p.bm mem seen;simp only[List.length_append,List.length_cons,List.length_nil] at Cy;refine Z5 ?_;refine .p (O4 (i:=1) (seen:=seen) (j:=j) (.t rfl) rfl XL) rfl ?_;refine .p ((lJ (.t rfl) rfl).le (Qc)) rfl ?_;refine .n (au FZ.out) rfl fun b6 _=>?_;refine Z3 ?_;refine .share (t:=6) (i:=0) rfl rfl ?_;refine Z8 ?_;refine Cd (fun c1=>?_) fun c1=>?_
  ·
   refine Z3 ?_;refine .p (cB rB [p1.1]) rfl ?_;refine .n (aF (i:=2) (xs:=fW p.bm mem seen) (ys:=[p1.1]) FU.out FU.out FC.out rfl FZ.out rfl FY.out (.t rfl) (.t rfl) rfl (by(simp only[List.length_cons,List.length_nil];omega)) (by(simp only[List.length_cons,List.length_nil];omega))) rfl fun g23 _=>?_;refine Z3 ?_;refine .round (seen++[j],g23) ⟨uF hnd QS,I4⟩ (by(simp only[List.length_append,List.length_cons,List.length_nil];omega)) (by(simp only[vN XL c1];rfl)) ?_;exact(.get rfl (af.of_eq (by simp only[vN XL c1])) ((.keep 16 rfl rfl)))
  refine Z2 ?_;refine .round (seen++[j],gb1) ⟨uF hnd QS,I4⟩ (by(simp only[List.length_append,List.length_cons,List.length_nil];omega)) (by(simp only[x6 XL c1];rfl)) ?_;exact(.get rfl (af.of_eq (by simp only[x6 XL c1])) ((.keep 11 rfl rfl)))
 have aq2:g12=none:=(by cases g12 with|none=>rfl|some j=>exact absurd rfl c0);refine Z6 ?_;refine .own (aB.cons _ O0) ?_;have hmem:=DL (mem:=mem) az (h12.1 aq2);have hrange:∀x∈fW p.bm mem seen,0≤x.2∧x.2≤9223372036854775807:=fun x hx=>(by(obtain⟨_,id,hid⟩:=(hmem x).1 hx;have h9:=hp1 x id hid;exact⟨h9.2.1,h9.2.2⟩));refine Z2 ?_;refine .n (cG (rest:=[_,_]) (Bi (g:=gb1) (xs:=fW p.bm mem seen) hrange) FB.out (.cons (.t rfl) (.cons (.f _) .nil)) (Perm.idx [2,0,1] rfl rfl)) rfl fun R2 QX=>?_;refine Z8 ?_;have O6:=QX.length_eq;refine .eB (i:=0) (t:=4) (g:=gb1) (xs:=R2) rfl (by rw[O6];rfl) ?_;refine Z1 ?_;refine Post.aR rfl (R2) (by exact fun k=>QX.mem_iff.trans (hmem k)) (fun _ _ _ h=>h) (.rt rfl) ?_;exact .z
theorem Jt{X:tF}{z q m:Nat}{T:jQ→Prop}{C:Cont}{R:ej→HP}{mem:Int}(az:nG X R):cv Tryz.prog 58 [aD X.pb 0,aU mem] [eE X z q T C m R] (γ:=Unit) (fun _=>True) (fun _=>[eE X z q (fun _=>True) (Cp z C mem) m R]) (fun _=>aU (fG z (mem,0) 0 0:Int)):=by
 refine In 70 Tryz.func58 fun _ _ _=>?_;refine .KB fun p a s hG=>?_;obtain⟨D,hDm,hDk,hI⟩:=hG.ex;have hsz:=hI.ok.st.size;have hgz:=hG.sz;have hRR:=az;have hXn:=hI.ok.most;have hgc:=hG.cp;have hwr:=hG.wrong (mem,0) 0 0;have hcp:=hI.ok.st.cap;have ap5:=hI.tG;refine cc ?_;refine .n ((kL [_,_,_,_,_,_,_,_] [0,4,1,2,3,5,6,7,8,9] (h:=sv (p:=p) (s:=s) (k:=(mem,0)) (at_:=0) (n:=0) (by omega))).same (fun _ _=>aB.perm (Perm.idx [0,2,3,4,1,5,6,7,8,9] rfl rfl)) (fun _ _=>af.refl _)) rfl fun _ _=>?_;refine Z9 ?_;refine Cd (fun c0=>?_) fun c0=>?_
 ·
  have hne:fG z (mem,0) 0 0≠0:=by(rw[←hwr];omega)
  have hdg:Cp z C mem=C:=by unfold Cp;rw[if_neg hne]
  refine Z8 ?_;refine Post.aR rfl (()) (by trivial) (iF (p:=p) (a0:=a) (a:=a) (s:=s) (r:=[]) hRR hI.ok.ar (dP.refl _ _) ⟨⟨D,hDm,hDk,(by rw[hdg];exact hI)⟩,hG.sz,hG.cp,trivial⟩) (.rt rfl) ?_;exact af.int (by rw[←hwr])
 have q6:fG z (mem,0) 0 0=0:=by(rw[←hwr];omega)
 refine Z9 ?_;refine .p (tX rfl Tryz.underlying131 (.t rfl)) rfl ?_;refine Z4 ?_;refine .aS (σ:=jQ×Cont×Nat) (fun g=>qw X g.1 a s++[R a]) (fun g=>[(23,aU (g.2.2:Int))]) (fun g=>tO X p a s C D mem g.1 g.2.1 g.2.2) (fun g=>X.n-g.2.2) (p,C,0) ⟨hI,rfl,fun _ _=>rfl,Nat.zero_le _,fun j f hj=>absurd hj (Nat.not_lt_zero _)⟩ rfl ?_ ?_
 · exact(.get rfl (af.refl _) (.refl _ _))
 rintro⟨p1,C1,i1⟩ hA;simp only at hA ⊢;refine Z6 ?_;refine Cd (fun c1=>?_) fun c1=>?_
 ·
  have p7:i1<X.n:=by omega
  obtain⟨fr,hfr⟩:=getElem?_lt' (xs:=p1.l) (k:=i1) (by(rw[hA.inv.ok.n];omega));refine Z2 ?_;refine .cut (σ:=jQ×Cont) (fun g=>qw X g.1 a s++[R a]) (fun g=>[]) (fun g=>tO X p a s C D mem g.1 g.2 (i1+1)) ?_ ?_
  ·
   refine Z4 ?_;refine .p (aX i1 FU.out FC.out rfl (.t rfl) (.t rfl) rfl p7) rfl ?_;refine .p (bp.le (kP (enc:=q7) (i:=1) (r:=0) FA.out FC.out rfl (.t rfl) rfl hfr rfl) (af.refl (aC [aU (fr.at_:Int),aU fr.k.1,aU fr.k.2,ak (BP fr.used),ak (BP fr.seen),ak (BP fr.dz)]))) rfl ?_;refine .n (au FZ.out) rfl fun b7 _=>?_;refine Z4 ?_;refine .share (t:=7) (i:=0) rfl rfl ?_;refine jP ?_;refine Cd (fun c2=>?_) fun c2=>?_
   ·
    have uP:fr.used=true:=(oW _).1 c2.1;have CL:fr.k.1=mem:=c2.2;refine Z1 ?_;refine .br 6 1 FM.out (by kernel_rfl) (k:= ?_);refine Z7 ?_;refine .s (EK (i:=2) rfl Tryz.rR Tryz.underlying130 (.t rfl) (.le (.t rfl) jf) rfl) ?_;refine Z2 ?_;refine .br 8 2 FM.out (by kernel_rfl) (k:= ?_);refine Z7 ?_;refine .p ((aN FP.out FZ.out (.cons (.t rfl) .nil) rfl).le (af.agg (.cons (.refl _) (.cons (.refl _) (.cons (.refl _) (.cons lP (.cons lP (.cons lP .nil)))))))) ?_;refine Z1 ?_;refine .p (aX i1 FU.out FC.out rfl (.t rfl) (.t rfl) rfl p7) rfl ?_;refine .s (wE (enc:=q7) (i:=1) (r:=0) ⟨fr.at_,(0,0),false,false,false⟩ rfl FC.out rfl (.t rfl) (.t rfl) rfl rfl hfr rfl rfl) ?_;refine Z2 ?_;refine .meet ({p1 with l:=p1.l.set i1 ⟨fr.at_,(0,0),false,false,false⟩,oa:=gf p1.oa fr.k},iB C1 fr.k (wJ p1 s fr.k)) (hA.yes hfr uP CL) rfl (.keep 30 rfl rfl)
   have hfn:¬(fr.used=true∧fr.k.1=mem):=fun h=>c2 ⟨(oW _).2 h.1,h.2⟩;refine Z2 ?_;refine .meet (p1,C1) (hA.no hfr hfn) rfl (.keep 15 rfl rfl)
  intro ⟨p4,C4⟩ hA4;simp only at hA4 ⊢;refine Z4 ?_;refine .round (p4,C4,i1+1) hA4 (by(show X.n-(i1+1)<X.n-i1;omega)) rfl ?_;exact(.get rfl (af.int (by(show(i1:Int)+1=((i1+1:Nat):Int);omega))) ((.keep 4 rfl rfl)))
 have hin:i1=X.n:=by(have h9:=hA.le;omega)
 subst hin;refine cD ?_;refine .n (kL [_,_,_,_,_,_,_,_] [0,3,1,2,4,5,6,7,8,9] (h:=Qe (X:=X) (p:=p1) (mem:=mem) hA.inv.NV (fun k id hk=>hDk _ (hA.inv.cnt k id hk)) (by(have h1:=hA.inv.num;have h2:=hA.inv.ok.st.many;omega)))) rfl fun Vd We=>?_;refine Z4 ?_;refine .fact (t:=55) rfl (fun S w v h=>bn h) fun bB3=>?_;refine Z1 ?_;refine .own (aB.perm (Perm.idx [0,2,3,1,4,5,6,7,8,9] rfl rfl)) ?_;refine .aS (σ:=jQ×jU×Cont×Nat) (fun g=>qw X g.1 a g.2.1++[R a]) (fun g=>[(57,aU (g.2.2.2:Int))]) (fun g=>AG X a s C D mem Vd g.1 g.2.1 g.2.2.1 g.2.2.2) (fun g=>Vd.length-g.2.2.2) (p1,s,C1,0) (hA.done We) rfl ?_ ?_
 · exact(.get rfl (af.refl _) (.refl _ _))
 rintro⟨p2,s2,C2,i2⟩ hB;simp only at hB ⊢;refine Z6 ?_;refine Cd (fun c3=>?_) fun c3=>?_
 ·
  obtain⟨kk,hkk⟩:=getElem?_lt' (xs:=Vd) (k:=i2) (by omega);have hkm:kk.1=mem:=((We kk).1 (List.mem_of_getElem? hkk)).1;refine Z6 ?_;refine .p (cI i2 (h:=hkk)) rfl ?_;refine .p (bp.le (mX FA.out FC.out rfl (.t rfl) rfl) (af.refl (aC [aU kk.1,aU kk.2]))) rfl ?_;refine .n (au FZ.out) rfl fun b9 _=>?_;refine Z3 ?_;refine .share (t:=9) (i:=0) rfl rfl ?_;refine Z4 ?_;refine .n (kL [_,_,_,_,_,_,_] [0,3,4,1,2,5,6,7,8,9] (h:=z8 (X:=X) (p:=p2) (s:=s2) (k:=kk))) rfl fun g63 h63=>?_;refine Z3 ?_;obtain⟨hf0,hB2,hfl,rP⟩:=hB.step hkk hkm h63;obtain⟨⟨g63l,g63hd,g63inm,g63bm,g63f,g63c⟩,g63s,g63e⟩:=g63;simp only at hf0 hB2 hfl rP;subst hf0;subst hfl;subst rP;refine Z6 ?_;refine CT fun c4=>?_;refine Z7 ?_;refine .own (aB.perm (Perm.idx [0,3,4,1,2,5,6,7,8,9] rfl rfl)) (bN.round (⟨p2.l,g63hd,p2.oa,g63bm,g63f,g63c⟩,g63s,iB C2 kk (List.replicate s2.size 0),i2+1) hB2 (by(show Vd.length-(i2+1)<Vd.length-i2;omega)) rfl ?_);exact(.get rfl (af.int (by(show(i2:Int)+1=((i2+1:Nat):Int);omega))) ((.keep 14 rfl rfl)))
 have I4:i2=Vd.length:=by(have h9:=hB.le;omega)
 subst I4;have hCd:=hB.done (hB.size.trans hG.sz) q6;refine cc ?_;refine Post.aR rfl (()) (by trivial) (iF (p:=p2) (a0:=a) (a:=a) (s:=s2) (r:=[]) hRR hI.ok.ar (dP.refl _ _) ⟨⟨D,hDm,hDk,(by rw[←hCd];exact hB.inv)⟩,(hB.size.trans hG.sz),(hB.cap.trans hG.cp),trivial⟩) (.rt rfl) ?_;exact af.int (by rw[q6];rfl)
end Go.Proofs.YtpfobikpggmleaaGreatDoor
end
section
namespace Go.Hl
open Go.RowKit
theorem K7(v:Nat):∀w,ry (xK v w)=v%2^(8*w)
 |0=>by rw[Nat.mul_zero,Nat.pow_zero,Nat.mod_one];rfl
 |w+1=>by
  have h:xK v (w+1)=xK v w++[Ru v w]:=by unfold xK;rw[List.range_succ,List.map_append];rfl
  have e:2^(8*(w+1))=2^(8*w)*256:=by rw[show 8*(w+1)=8*w+8 by omega,Nat.pow_add]
  have hb:(Ru v w).toNat=v/2^(8*w)%256:=by unfold Ru;rw[UInt8.toNat_ofNat'];omega
  rw[h,zp,K7 v w,nc,hb,e,Nat.mod_mul,Nat.mul_comm (v/2^(8*w)%256)]
variable {v:Nat} {a:ej} {X:ox}
theorem qO(h:dy X a){x w:Nat}(hx:x+w≤X.size):ry ((a.put x (xK v w)).get x w)=v%2^(8*w):=by
 have h1:=ud (a:=a) (x:=x) (o:=0) (n:=w) (ys:=xK v w) (by rw[h.len];exact hx) (by rw[nc];omega);rw[Nat.add_zero,List.take_zero,List.nil_append,nc,Nat.zero_add,List.drop_of_length_le,List.append_nil] at h1
 · rw[h1,K7]
 · unfold ej.get;rw[List.length_take];omega
variable {n:Nat}
theorem kE(h:dy X a){x w y:Nat}(hx:x+w≤X.size)(hd:y+n≤x∨x+w≤y):(a.put x (xK v w)).get y n=a.get y n:=
 oC (by rw[nc,h.len];exact hx) (by rw[nc];exact hd)
variable {t:UInt8}
theorem SD(h:(t.toNat:Int)=126∨(t.toNat:Int)=127∧v≤4294967295)(hv:v<18446744073709551616):pQ t v=v:=by
 unfold pQ eP;rcases h with h|⟨h,h2⟩
 · rw[if_neg (by omega),if_pos h];exact Nat.mod_eq_of_lt hv
 · rw[if_pos h];exact Nat.mod_eq_of_lt (Nat.lt_succ_of_le h2)
theorem K8{X:ox}{m:aT}{g:Nat}{a:ej}(h:dy X a){y n:Nat}:∀k,g+8*k≤X.size→(y+n≤g∨g+8*k≤y)→(Iu m g a k).get y n=a.get y n
 |0,_,_=>rfl
 |k+1,hk,hd=>by
  show((Iu m g a k).put (g+8*k) _).get y n=_
  rw[kE (sq h k (by omega)) (by omega) (by omega)];exact K8 h k (by omega) (by omega)
theorem GD{X:ox}{m:aT}{g:Nat}{a:ej}(h:dy X a){i:Nat}{z:gy}(hz:m.an[i]?=some z)(hv:z.Value.toNat<18446744073709551616):∀k,g+8*k≤X.size→i<k→ry ((Iu m g a k).get (g+8*i) 8)=pQ z.Ty z.Value.toNat
 |0,_,hi=>absurd hi (Nat.not_lt_zero _)
 |k+1,hk,hi=>by
  show ry (((Iu m g a k).put (g+8*k) _).get (g+8*i) 8)=_
  by_cases e:i=k
  · subst e
    rw[qO (sq h i (by omega)) (by omega),yD hz];exact Nat.mod_eq_of_lt (Dd hv)
  · rw[kE (sq h k (by omega)) (by omega) (by omega)]
    exact GD h hz hv k (by omega) (by omega)
theorem K9{X:ox}{t:Nat}{e:ez}{a:ej}(h:dy X a){y n:Nat}(hy:y+n≤t):∀k,t+4*(e.At.toNat+k)≤X.size→(NW t e a k).get y n=a.get y n
 |0,_=>rfl
 |k+1,hk=>by
  show((NW t e a k).put (t+4*(e.At.toNat+k)) _).get y n=_
  rw[kE (wU h k (by omega)) (by omega) (by omega)];exact K9 h hy k (by omega)
def Qf(a:ej)(t:Nat)(tb:List Int):Prop:=∀(i:Nat) (f:Int),tb[i]?=some f→(ry (a.get (t+4*i) 4):Int)=f
theorem Qg{X:ox}{t:Nat}{e:ez}{a:ej}{tb:List Int}(h:dy X a)(ht:Qf a t tb)(hf:∀f∈e.aA,0≤f∧f<4294967295):∀k,t+4*(e.At.toNat+k)≤X.size→k≤e.aA.length→Qf (NW t e a k) t (N3 tb e k)
 |0,_,_=>ht
 |k+1,hk,hl=>by
  have ih:=Qg h ht hf k (by omega) (by omega);intro i f hi;have hi':((N3 tb e k).set (e.At.toNat+k) ((e.aA[k]?).getD 0+1))[i]?=some f:=hi;obtain⟨z,hz⟩:=ah (xs:=e.aA) (k:=k) (by omega);have hzf:=hf z (List.mem_of_getElem? hz)
  show(ry (((NW t e a k).put (t+4*(e.At.toNat+k)) _).get (t+4*i) 4):Int)=f
  rw[hz] at hi' ⊢;simp only[Option.getD_some] at hi' ⊢;rcases jE hi' with⟨e1,e2⟩|⟨e1,e2⟩
  · subst e1
    rw[qO (wU h k (by omega)) (by omega),e2];omega
  · rw[kE (wU h k (by omega)) (by omega) (by omega)]
    exact ih i f e2
variable {m:aT}
theorem Ve{t:Nat}{e:ez}{tb:List Int}(h:dy X a)(ht:Qf a t tb)(hf:∀f∈e.aA,0≤f∧f<4294967295)(hx:t+4*fq m≤X.size)(h0:0≤e.At)(hb:¬iT m e):Qf (KL m t e a) t (N3 tb e e.aA.length):=by
 unfold KL;rw[if_neg hb]
 unfold iT at hb;exact Qg h ht hf _ (by omega) (Nat.le_refl _)
theorem SE{t:Nat}{e:ez}(h:dy X a){y:Nat}(hy:y+n≤t)(hx:t+4*fq m≤X.size)(h0:0≤e.At)(hb:¬iT m e):(KL m t e a).get y n=a.get y n:=by
 unfold KL;rw[if_neg hb]
 unfold iT at hb;exact K9 h hy _ (by omega)
theorem La{X:ox}{m:aT}{t:Nat}{a:ej}(h:dy X a)(hm:nM m)(hx:t+4*fq m≤X.size)(h0:∀i,i<fq m→ry (a.get (t+4*i) 4)=0):∀k,k≤m.bw.length→kq m k→(∀e∈m.bw,∀f∈e.aA,f<4294967295)→Qf (uo m t a k) t (sH m k)∧∀y n,y+n≤t→(uo m t a k).get y n=a.get y n
 |0,_,_,_=>by
  refine⟨fun i f hi=>?_,fun _ _ _=>rfl⟩;have h1:(List.replicate (fq m) (0:Int))[i]?=some f:=hi;rw[List.getElem?_replicate] at h1;by_cases hl:i<fq m
  · rw[if_pos hl] at h1;cases h1;show(ry (a.get (t+4*i) 4):Int)=0;rw[h0 i hl];rfl
  · rw[if_neg hl] at h1;cases h1
 |k+1,hk,he,hF=>by
  obtain⟨e,hz⟩:=ah (xs:=m.bw) (k:=k) (by omega);have hmem:=List.mem_of_getElem? hz;have ih:=La h hm hx h0 k (by omega) (fun j e hj=>he j e (by omega)) hF;have hok:=yE (m:=m) (t:=t) h hm hx k;have hb:=he k e (by omega) hz;have hel:=hm.el e hmem;rw[Pr hz,P6 hz];exact⟨Ve hok.1 ih.1 (fun f hf=>⟨(hel.2.2.2 f hf).1,hF e hmem f hf⟩) hx hel.1 hb,fun y n hy=>(SE hok.1 hy hx hel.1 hb).trans (ih.2 y n hy)⟩
theorem Qh{c i:Nat}(hh:a.height≤a.bytes.length)(hi:i+n≤c):ry ((RS a c).get (a.height+i) n)=0:=by
 have e:(RS a c).get (a.height+i) n=List.replicate n 0:=by
  unfold ej.get
  show((List.take a.height a.bytes++List.replicate c 0++List.drop (a.height+c) a.bytes).drop (a.height+i)).take n=_
  have hl:(List.take a.height a.bytes).length=a.height:=by rw[List.length_take];omega
  rw[List.append_assoc,List.drop_append,List.drop_of_length_le (by omega),List.nil_append,hl,Nat.add_sub_cancel_left,List.drop_append,List.take_append,List.length_drop,List.length_replicate,show n-(c-i)=0 by omega,List.take_zero,List.append_nil,List.drop_replicate,List.take_replicate,show min n (c-i)=n by omega]
 have z:∀n,ry (List.replicate n 0)=0:=fun n=>by
  induction n with
  |zero=>rfl
  |succ n ih=>show(0:UInt8).toNat+256*ry (List.replicate n 0)=0;rw[ih];rfl
 rw[e,z]
structure Ju(m:aT):Prop where
 gv:∀z∈m.an,(z.Ty.toNat:Int)=126∨(z.Ty.toNat:Int)=127∧z.Value≤4294967295
 ef:∀e∈m.bw,∀f∈e.aA,f<4294967295
theorem Bh.begin(h:dy X a)(hm:nM m)(he:Ju m)(hf:a.height+(lp m+B3 m)≤X.size){ke:Nat}(hk:ke≤m.bw.length)(hel:kq m ke)(kd:Nat):Bh (vK m a ke) a.height (a.height+lp m) (lG m ke kd):=by
 have h1:=hm.r1;have h2:=hm.r2;have hh:=h.hi;have qY:=h.len
 have h3:dy X (RS a (lp m)):=sn h (by omega);have h4:dy X (lW a m):=sn h3 (by simp only;omega);have h5:=sq (m:=m) (g:=a.height) h4 m.an.length (by omega)
 have h6:=La (m:=m) (t:=a.height+lp m) h5 hm (by omega) (fun i hi=>by
  rw[K8 h4 _ (by omega) (by omega)];exact Qh (a:=RS a (lp m)) (i:=4*i) (n:=4) (by have h7:=h3.len;have h8:=h3.hi;omega) (by omega)) ke hk hel he.ef
 refine⟨fun i v hi=>?_,h6.1⟩;have hi':(m.an.map (·.Value))[i]?=some v:=hi;rw[List.getElem?_map] at hi';obtain⟨z,hz,rfl⟩:=Option.map_eq_some_iff.1 hi';have hmem:=List.mem_of_getElem? hz;have hlt:=(List.getElem?_eq_some_iff.1 hz).1;have hgv:=hm.gv z hmem;unfold vK;rw[h6.2 _ _ (by omega),GD h4 hz (by omega) _ (by omega) hlt,SD (by have:=he.gv z hmem;omega) (by omega)];omega
variable {num:Int}
theorem Gv.other{M:A1}{r:RM}{C:Cont}(h:Gv M r C n)(hn:M.num≠num)(at_:Nat)(ys:List UInt8):Gv M r (ym 64 C num at_ ys) n:=
 ⟨h.ok,h.pages,fun a=>by rw[L2 hn];exact h.eq a,h.iQ⟩
theorem Gw.Qi{m:aT}{num:Int}{Co:Cont}(hm:nM m)(hn:0≤num)(h0:∀i,i<m.bz.length→∀a,vf 64 Co (num+(i:Int)) a=0):∀kd,kd≤m.bl.length→Gw (B5 m num m.bz.length) (lu m kd) (sr m num Co kd) kd
 | 0,_=>⟨by rw[oG,pW],fun i M r hM hr=>by
  have p7:i<m.bz.length:=by have:=(List.getElem?_eq_some_iff.1 hM).1;rw[oG] at this;exact this
  obtain⟨z,hz⟩:=ah (xs:=m.bz) (k:=i) p7;rw[Iw hz p7] at hM;cases hM
  have h1:=DK hm 0 i r hr;have h2:=KN hm (List.mem_of_getElem? hz) (n:=num+(i:Int)) (by omega)
  have hr':r=Gu z:=by
   have:(m.bz.map Gu)[i]?=some r:=hr;rw[List.getElem?_map,hz] at this;cases this;rfl
  refine⟨h2.1,by rw[hr'];rfl,fun a=>?_,h1.1⟩;rw[hr'];exact h0 i p7 a⟩
 |k+1,hk=>by
  obtain⟨d,hd⟩:=ah (xs:=m.bl) (k:=k) (by omega);have ih:=Gw.Qi hm hn h0 k (by omega);rw[Ix hd,AE hd];have hda:=hm.da d (List.mem_of_getElem? hd);refine⟨by rw[K5];exact ih.len,fun i M r hM hr=>?_⟩;have p7:i<m.bz.length:=by have:=(List.getElem?_eq_some_iff.1 hM).1;rw[oG] at this;exact this
  obtain⟨z,hz⟩:=ah (xs:=m.bz) (k:=i) p7;have hM2:=hM;rw[Iw hz p7] at hM2;have Mu:M.num=num+(i:Int):=by cases hM2;rfl
  have hps:=(DK hm (k+1) i r (by rw[AE hd];exact hr)).1;unfold P7 at hr;unfold Xn
  by_cases hw:(xO m d).2=(0,0)
  · rw[if_pos hw] at hr ⊢
    rcases jE hr with⟨e1,e2⟩|⟨e1,e2⟩
    · obtain⟨r0,Kt⟩:=ah (xs:=lu m k) (k:=i) (by rw[pW];exact p7)
      have h0:=ih.all i M r0 hM Kt;rw[e1,Kt] at e2;subst e2;have hin:num+(d.Mem.toNat:Int)=M.num:=by rw[Mu,e1]
      rw[hin];exact⟨h0.ok,h0.pages,fun a=>by rw[OZ (by decide)];show _=pV (qN r0 d.At.toNat d.Bytes) a;rw[Gt,h0.eq,Nat.add_zero],hps⟩
    · have h0:=ih.all i M r hM e2
      have h1:=h0.other (num:=num+(d.Mem.toNat:Int)) (by rw[Mu];omega) (d.At.toNat+0) d.Bytes;exact⟨h1.ok,h1.pages,h1.eq,hps⟩
  · rw[if_neg hw] at hr ⊢
    have h0:=ih.all i M r hM hr;exact⟨h0.ok,h0.pages,h0.eq,hps⟩
theorem M3(n:Int)(a:Nat):vf 64 (oD 64) n a=0:=by
 unfold vf oD;rw[List.getD_eq_getElem?_getD,List.getElem?_replicate]
 split<;>rfl
theorem Gw.begin(hm:nM m)(hn:0≤num)(kd:Nat)(h:kd≤m.bl.length):Gw (B5 m num m.bz.length) (lu m kd) (sr m num (oD 64) kd) kd:=Gw.Qi hm hn (fun _ _ _=>M3 _ _) kd h
def XM(s:N2)(i:Nat)(v:Int):N2:={s with gl:=s.gl.set i v}
theorem Bh.set{X:ox}{a:ej}{g t:Nat}{s:N2}(h:Bh a g t s)(ha:dy X a){i n:Nat}(hi:i<n)(hgt:g+8*n≤t)(hx:t≤X.size){v:Nat}(hv:v<18446744073709551616)(hl:s.gl.length≤n):Bh (a.put (g+8*i) (xK v 8)) g t (XM s i (v:Int)) where
 gl :=fun j w hj=>by
  rcases jE (show(s.gl.set i (v:Int))[j]?=some w from hj) with⟨e1,e2⟩|⟨e1,e2⟩
  · subst e1
    rw[qO ha (by omega),e2];omega
  · have:=(List.getElem?_eq_some_iff.1 e2).1
    rw[kE ha (by omega) (by omega)];exact h.gl j w e2
 tb:=fun j f hj=>by rw[kE ha (by omega) (by omega)];exact h.tb j f hj
def GF(C:Cont)(num:Int):Nat→Cont
 |0=>C
 |k+1=>Cp 64 (GF C num k) (num+(k:Int))
theorem M4{z:Nat}(h:0≤num):fG z (num,0) 0 0=0:=by
 unfold fG;rw[if_neg (by simp only;omega),if_neg (by omega)]
theorem od.le{r:Nat×Nat×Int}(h:od m r):r.1≤m.bw.length∧kq m r.1∧r.2.1≤m.bl.length:=by
 rcases h with⟨k,e,a1,a2,a3,rfl⟩|⟨a0,k,d,a1,a2,a3,rfl⟩|⟨a0,a1,rfl⟩
 · exact⟨Nat.le_of_lt (List.getElem?_eq_some_iff.1 a1).1,a2,Nat.zero_le _⟩
 · exact⟨Nat.le_refl _,a0,(List.getElem?_eq_some_iff.1 a1).1⟩
 · exact⟨Nat.le_refl _,a0,Nat.le_refl _⟩
theorem Vf(h:dM m)(hs:wP m):Ju m:=⟨fun z hz=>wY h hz,fun e he f hf=>by
 have h5:=(vv h he).2.2.2 f hf;have h6:=hs.imports;have h7:=hs.funcs;unfold gA cO at h5;omega⟩
theorem GG:∀(k c n:Nat),c≤rS k c n
 |0,c,n=>Nat.le_refl _
 |k+1,c,n=>by
  unfold rS;have:=GG k (c*2) n
  split<;>omega
theorem Vg(m:aT)(h:m.an.length≤60000):16≤lp m:=by
 unfold lp aY;rw[if_neg (by omega)];exact GG 19 16 _
theorem DN(hl:m.an.length≤60000)(ht:aq a.taken (a.height:Int)=none)(ht2:aq a.taken ((a.height+lp m:Nat):Int)=none)(hk:(a.taken.map (·.1)).Nodup):
    aq (lW a m).taken (a.height:Int)=some (lp m:Int)∧aq (gf (lW a m).taken (a.height:Int)) ((a.height+lp m:Nat):Int)=some (B3 m:Int):=by
  have hp:=Vg m hl;have hne:¬((a.height:Int)=((a.height+lp m:Nat):Int)):=by omega
  have e1:eY a.taken (a.height:Int) (lp m:Int)=a.taken++[((a.height:Int),(lp m:Int))]:=kS _ ht;have h2:aq (eY a.taken (a.height:Int) (lp m:Int)) ((a.height+lp m:Nat):Int)=none:=by rw[s6,if_neg (fun e=>hne e.symm),ht2]
  have e2:(lW a m).taken=a.taken++[((a.height:Int),(lp m:Int))]++[(((a.height+lp m:Nat):Int),(B3 m:Int))]:=by
    show eY (eY a.taken (a.height:Int) (lp m:Int)) ((a.height+lp m:Nat):Int) (B3 m:Int)=_
    rw[kS _ h2,e1]
  have hin:∀k:Int,aq a.taken k=none→k∉a.taken.map (·.1):=fun k hk2 hm=>by
    obtain⟨v,hv⟩:=rT hm;rw[hv] at hk2;cases hk2
  have hnd:((lW a m).taken.map (·.1)).Nodup:=by
    rw[e2,List.map_append,List.map_append];simp only[List.map_cons,List.map_nil];refine List.nodup_append.2 ⟨List.nodup_append.2 ⟨hk,List.nodup_cons.2 ⟨List.not_mem_nil,List.nodup_nil⟩,fun x hx y hy e=>?_⟩,List.nodup_cons.2 ⟨List.not_mem_nil,List.nodup_nil⟩,fun x hx y hy e=>?_⟩
    · rw[List.mem_singleton.1 hy] at e;exact hin _ ht (e▸hx)
    · rw[List.mem_singleton.1 hy] at e
      rcases List.mem_append.1 hx with hx|hx
      · exact hin _ ht2 (e▸hx)
      · rw[List.mem_singleton.1 hx] at e;exact hne e
  refine⟨?_,?_⟩
  · show aq (eY (eY a.taken (a.height:Int) (lp m:Int)) ((a.height+lp m:Nat):Int) (B3 m:Int)) (a.height:Int)=_
    rw[s6,if_neg hne,s6,if_pos rfl]
  · rw[iE _ _ hnd,if_neg hne]
    show aq (eY (eY a.taken (a.height:Int) (lp m:Int)) ((a.height+lp m:Nat):Int) (B3 m:Int)) _=_
    rw[s6,if_pos rfl]
open Classical in
noncomputable def tu(m:aT)(g:Nat)(a:ej)(i:Int)(v:Nat):ej:=if gA i m.an.length then a.put (g+8*i.toNat) (xK (pQ (Fj m i.toNat).Ty v) 8) else a
open Classical in
noncomputable def SF(m:aT)(i:Int):Int:=if gA i m.an.length then 0 else 2
open Classical in
noncomputable def tv(m:aT)(s:N2)(i:Int)(v:Nat):N2:=if gA i m.an.length then XM s i.toNat (pQ (Fj m i.toNat).Ty v:Int) else s
variable {i:Int}
theorem SG{g:Nat}(h:dy X a)(hx:g+8*m.an.length≤X.size):dy X (tu m g a i v)∧ri a (tu m g a i v):=by
 unfold tu
 split
 · rename_i hi;unfold gA at hi;exact⟨Is h (by omega),rfl,rfl,rfl⟩
 · exact⟨h, .refl _⟩
theorem Bh.tv{X:ox}{a:ej}{m:aT}{g t:Nat}{s:N2}(h:Bh a g t s)(ha:dy X a)(hgt:g+8*m.an.length≤t)(hx:t≤X.size){i:Int}{v:Nat}(hv:v<18446744073709551616)(hl:s.gl.length=m.an.length):Bh (tu m g a i v) g t (tv m s i v):=by
 unfold tu Go.Hl.tv
 split
 · rename_i hi;unfold gA at hi;exact h.set ha (n:=m.an.length) (by omega) hgt hx (Dd hv) (by omega)
 · exact h
variable {s:N2}
theorem vO:(tv m s i v).ms=s.ms∧(tv m s i v).tb=s.tb∧(tv m s i v).gl.length=s.gl.length:=by
 unfold Go.Hl.tv
 split
 · exact⟨rfl,rfl,List.length_set⟩
 · exact⟨rfl,rfl,rfl⟩
theorem AH:∀(k c j n:Nat),n≤c*2^j→rS k c n≤c*2^j
 |0,c,j,n,_=>by
  have:=Nat.le_mul_of_pos_right c (Nat.two_pow_pos j);simpa[rS] using this
 | k +1,c,j,n,h=>by
  have h1:=Nat.le_mul_of_pos_right c (Nat.two_pow_pos j);unfold rS
  split
  · cases j with
    |zero=>rw[Nat.pow_zero,Nat.mul_one] at h;omega
    |succ j=>
     have e:c*2^(j+1)=c*2*2^j:=by rw[Nat.pow_succ,Nat.mul_assoc,Nat.mul_comm (2^j) 2]
     rw[e] at h ⊢;exact AH k (c*2) j n h
  · exact h1
theorem Qj(h1:m.an.length≤60)(h2:fq m≤1000):lp m≤512∧B3 m≤4096:=by
 unfold lp B3 aY;rw[if_neg (by omega),if_neg (by omega)];exact⟨AH 19 16 5 _ (by omega),AH 19 16 8 _ (by omega)⟩
theorem Lb{z:gy}(hi:gA i m.an.length)(hz:m.an[i.toNat]?=some z):(tv m s i v).gl=s.gl.set i.toNat (pQ z.Ty v:Int):=by
 unfold Go.Hl.tv;rw[if_pos hi,yD hz];rfl
theorem SH(hi:¬gA i m.an.length):(tv m s i v).gl=s.gl:=by
 unfold Go.Hl.tv;rw[if_neg hi]
theorem SI(h:(t.toNat:Int)=127):((pQ t v:Nat):Int)=(v:Int)%4294967296:=by
 unfold pQ eP;rw[if_pos h]
 show((v%2^32:Nat):Int)=_
 omega
theorem SJ(h:¬(t.toNat:Int)=127)(h2:eP t=32∨eP t=64)(hv:v<18446744073709551616):((pQ t v:Nat):Int)=(v:Int):=by
 have h3:eP t=64:=by
  unfold eP at h2 ⊢;rw[if_neg h] at h2 ⊢;rcases h2 with h2|h2
  · split at h2
    · cases h2
    · cases h2
  · exact h2
 unfold pQ;rw[h3]
 show((v%2^64:Nat):Int)=_
 omega
end Go.Hl
end
section
namespace Go.Proofs.YtpfobikpggmleaaGreatDoor
open Go.Hl Go.RowKit
variable {m:aT} {sb:Nat} {X:ox} {num:Int} {pb:Nat} {g:Int} {t:Int} {mv:VP} {i:Int}
theorem GH(az:i<0∨(m.an.length:Int)≤i):cv Tryz.prog 45 [aD sb 0,ag .i64 i,RP 46 sb] [lB sb X pb m num g t mv] (γ:=Unit) (fun _=>True) (fun _=>[lB sb X pb m num g t mv]) (fun _=>ag .i64 2):=by
 refine In 19 Tryz.func45 fun _ _ _=>?_;refine cD ?_;refine .n ((cE (h:=ij)).same (fun _ _=>aB.refl _) (fun _ _=>af.refl _)) rfl fun _ _=>?_;refine Z3 ?_;refine CT fun c0=>?_;refine Z7 ?_;refine .Uu rfl rfl rfl rfl (fun hg=>((vn (rest:=[]) (xP (sb:=sb) (X:=X) (pb:=pb) (m:=m) (num:=num) (g:=g) (t:=t) (mv:=mv)) FB.out (.when (.t rfl) hg) (Perm.idx [0] rfl rfl)).same (fun _ _=>aB.refl _) (fun _ _=>af.refl _)).same (fun _ _=>aB.refl _) (fun _ _=>af.refl _)) rfl rfl ?_;refine Z5 ?_;refine CF fun c1=>?_;refine Z8 ?_;refine bB ?_;exact .z
theorem GI(az:i<0∨m.Table≤i):cv Tryz.prog 45 [aD sb 0,ag .i64 i,RP 74 sb] [lB sb X pb m num g t mv] (γ:=Unit) (fun _=>True) (fun _=>[lB sb X pb m num g t mv]) (fun _=>ag .i64 2):=by
 refine In 19 Tryz.func45 fun _ _ _=>?_;refine cD ?_;refine .n ((cE (h:=ij)).same (fun _ _=>aB.refl _) (fun _ _=>af.refl _)) rfl fun _ _=>?_;refine Z3 ?_;refine CT fun c0=>?_;refine Z7 ?_;refine .Uu rfl rfl rfl rfl (fun hg=>((vn (rest:=[]) (vM (sb:=sb) (X:=X) (pb:=pb) (m:=m) (num:=num) (g:=g) (t:=t) (mv:=mv)) FB.out (.when (.t rfl) hg) (Perm.idx [0] rfl rfl)).same (fun _ _=>aB.refl _) (fun _ _=>af.refl _)).same (fun _ _=>aB.refl _) (fun _ _=>af.refl _)) rfl rfl ?_;refine Z5 ?_;refine CF fun c1=>?_;refine Z8 ?_;refine bB ?_;exact .z
variable {a:ej}
theorem Jv{g:Nat}{v:Nat}(az:i<0∨(m.an.length:Int)≤i):cv Tryz.prog 22 [aD sb 0,ag .i64 i,ag .u64 (v:Int)] (lB sb X pb m num (g:Int) t mv::pP X a) (γ:=Unit) (fun _=>True) (fun _=>lB sb X pb m num (g:Int) t mv::pP X a) (fun _=>ag .i64 2):=by
 refine In 42 Tryz.func22 fun _ _ _=>?_;refine cc ?_;refine .p (vm (.t rfl)) rfl ?_;refine .n ((cE (h:=GH (sb:=sb) (X:=X) (pb:=pb) (m:=m) (num:=num) (g:=(g:Int)) (t:=t) (mv:=mv) az)).same (fun _ _=>aB.refl _) (fun _ _=>af.refl _)) rfl fun _ _=>?_;refine Z9 ?_;refine Cd (fun c0=>?_) fun c0=>?_
 ·
  refine Z8 ?_;refine bB ?_;exact .z
 exact(c0 (by decide)).elim
theorem vP(az:i<0∨m.Table≤i):cv Tryz.prog 30 [aD sb 0,ag .i64 i] [lB sb X pb m num g t mv] (γ:=Unit) (fun _=>True) (fun _=>[lB sb X pb m num g t mv]) (fun _=>bE [ag .i64 0,ak False,ag .i64 2]):=by
 refine In 43 Tryz.func30 fun _ _ _=>?_;refine jP ?_;refine .p (vm (.t rfl)) rfl ?_;refine .n ((cE (h:=GI (sb:=sb) (X:=X) (pb:=pb) (m:=m) (num:=num) (g:=g) (t:=t) (mv:=mv) az)).same (fun _ _=>aB.refl _) (fun _ _=>af.refl _)) rfl fun _ _=>?_;refine Z9 ?_;refine Cd (fun c0=>?_) fun c0=>?_
 ·
  refine cD ?_;refine LI ?_ ?_ ?_
  · exact .z
  · exact .z
  exact .z
 exact(c0 (by decide)).elim
variable {bs:List Nat}
theorem Jw:cv Tryz.prog 23 [aD sb 0,ag .i64 (bs.length:Int)] [lB sb X pb m num g t (ai 1 eG bs)] (γ:=Unit) (fun _=>True) (fun _=>[lB sb X pb m num g t (ai 1 eG bs)]) (fun _=>bE [Lm,ak False]):=by
 refine In 28 Tryz.func23 fun _ _ _=>?_;refine cD ?_;refine .n ((cE (h:=ij)).same (fun _ _=>aB.refl _) (fun _ _=>af.refl _)) rfl fun _ _=>?_;refine kR ?_;refine Cd (fun c0=>?_) fun c0=>?_
 ·
  refine Z8 ?_;refine j4 ?_ ?_
  · exact .z
  exact .z
 exact(c0 (.inr (Int.le_refl _))).elim
theorem x7:cv Tryz.prog 50 [aD sb 0] [ax sb [bT (bf m),aD X.ab 0,aD pb 0,ag .i64 num,ag .i64 g,ag .i64 t,mv,ak True]] (γ:=Unit) (fun _=>True) (fun _=>[ax sb [bT (bf m),aD X.ab 0,aD pb 0,ag .i64 num,ag .i64 g,ag .i64 t,mv,ak True]]) (fun _=>ak True):=by
 refine In 11 Tryz.func50 fun _ _ _=>?_;refine Z8 ?_;refine .p (cm FU.out (.t rfl)) rfl ?_;refine cD ?_;refine bB ?_;exact af.prop (by simp)
theorem DO:cv Tryz.prog 27 [aD sb 0] [ax sb [bT (bf m),aD X.ab 0,aD pb 0,ag .i64 num,ag .i64 g,ag .i64 t,mv,ak True]] (γ:=Unit) (fun _=>True) (fun _=>[ax sb [bT (bf m),aD X.ab 0,aD pb 0,ag .i64 num,ag .i64 g,ag .i64 t,mv,ak True]]) (fun _=>ag .i64 12):=by
 refine In 51 Tryz.func27 fun _ _ _=>?_;refine Z9 ?_;refine .n ((cE (h:=x7)).same (fun _ _=>aB.refl _) (fun _ _=>af.refl _)) rfl fun _ _=>?_;refine Z2 ?_;refine CF fun c0=>?_;refine Z7 ?_;refine bB ?_;exact .z
theorem Jx:cv Tryz.prog 29 [aD sb 0] [ax sb [bT (bf m),aD X.ab 0,aD pb 0,ag .i64 num,ag .i64 g,ag .i64 t,mv,ak True]] (γ:=Unit) (fun _=>True) (fun _=>[ax sb [bT (bf m),aD X.ab 0,aD pb 0,ag .i64 num,ag .i64 g,ag .i64 t,mv,ak True]]) (fun _=>Lm):=by
 refine In 9 Tryz.func29 fun _ _ _=>?_;refine Z9 ?_;refine .n ((cE (h:=x7)).same (fun _ _=>aB.refl _) (fun _ _=>af.refl _)) rfl fun _ _=>?_;refine Z2 ?_;refine CF fun c0=>?_;refine Z7 ?_;refine bB ?_;exact .z
variable {t0:Nat} {n:Nat}
theorem GJ{pg:tF}{g0 mm c1 c2:Nat}{Co:Cont}(az:aq a.taken (g0:Int)=some (c1:Int))(hp1:aq (gf a.taken (g0:Int)) (t0:Int)=some (c2:Int))(hp2:c1+c2≤a.live)(fI:a.live≤4194304)(oe:n≤1000)(yH:0≤num)(Q0:num≤1073741824)(R7:bs.length≤60000):cv Tryz.prog 27 [aD sb 0] (lB sb X pg.pb m num (g0:Int) (t0:Int) (ai 1 eG bs)::um X a n++[eE pg 64 4096 (fun _=>True) (Co) mm yl]) (γ:=Unit) (fun _=>True) (fun _=>ax sb [bT (bf m),aD X.ab 0,aD pg.pb 0,ag .i64 num,ag .i64 (g0:Int),ag .i64 (t0:Int),(ai 1 eG bs),ak True]::um X (nL (nL a (g0:Int) c1) (t0:Int) c2) (n+2)++[eE pg 64 4096 (fun _=>True) (GF Co num bs.length) mm yl]) (fun _=>ag .i64 0):=by
 refine In 51 Tryz.func27 fun _ _ _=>?_;refine Z9 ?_;refine .n ((cE (h:=ij)).same (fun _ _=>aB.refl _) (fun _ _=>af.refl _)) rfl fun _ _=>?_;refine Z2 ?_;refine CT fun c0=>?_;refine cc ?_;refine .br 8 1 FM.out (by kernel_rfl) (k:= ?_);refine Z9 ?_;refine .n (kL [_,_] [1,2,3,4,0,5] (h:=z1 (a:=a) (at_:=(g0:Int)) (c:=c1) (n:=n) az (by omega) fI (by omega))) rfl fun g18 RW=>?_;refine Z3 ?_;refine .br 8 1 FM.out (by kernel_rfl) (k:= ?_);refine Z3 ?_;refine .p (fK (i:=4) FA.out (.t rfl) rfl rfl) ?_;refine Z3 ?_;refine .p (fK (i:=4) FA.out (.t rfl) rfl rfl) ?_;refine Z1 ?_;refine .n (cE (h:=z1 (a:=nL a (g0:Int) c1) (at_:=(t0:Int)) (c:=c2) (n:=n+1) hp1 (by simp only[nL];omega) (by simp only[nL];omega) (by omega))) rfl fun g27 h27=>?_;refine Z8 ?_;refine .p (fK (i:=4) FA.out (.t rfl) rfl rfl) rfl ?_;refine Z5 ?_;refine .own (aB.perm (Perm.idx [4,0,1,2,3,5] rfl rfl)) ?_;refine .aS (σ:=Nat) (fun k=>ax sb [bT (bf m),aD X.ab 0,aD pg.pb 0,ag .i64 num,ag .i64 (g0:Int),ag .i64 (t0:Int),(ai 1 eG bs),ak True]::um X (nL (nL a (g0:Int) c1) (t0:Int) c2) (n+2)++[eE pg 64 4096 (fun _=>True) (GF Co num k) mm yl]) (fun k=>[(33,ag .i64 (k:Int))]) (fun k=>k≤bs.length) (fun k=>bs.length-k) 0 (Nat.zero_le _) rfl ?_ ?_
 · exact(.get rfl (af.refl _) (.refl _ _))
 rintro k hk;refine Z6 ?_;refine Cd (fun c1=>?_) fun c1=>?_
 ·
  have hwr:=M4 (z:=64) (num:=num+(k:Int)) (by omega);refine cc ?_;refine .br 10 2 FM.out (by kernel_rfl) (k:= ?_);refine cc ?_;refine .n (kL [_,_,_,_,_] [5,0,1,2,3,4] (h:=Jt (X:=pg) (z:=64) (q:=4096) (m:=mm) (T:=fun _=>True) (C:=GF Co num k) (R:=yl) (mem:=num+(k:Int)) (C3 _))) rfl fun XN h46=>?_;refine Z9 ?_;refine Cd (fun c2=>?_) fun c2=>?_
  · exact absurd (by rw[hwr];rfl) c2
  refine Z7 ?_;refine .own (aB.perm (Perm.idx [1,2,3,4,5,0] rfl rfl)) (bN.round (k+1) (by omega) (by omega) rfl ?_);exact(.get rfl (af.int (by(show(k:Int)+1=((k+1:Nat):Int);omega))) ((.keep 20 rfl rfl)))
 have hke:k=bs.length:=by omega
 subst hke;refine cc ?_;refine bB ?_;exact .z
variable {r:RM}
theorem DP{a o:Nat}(az:r.pages≤65536)(hp1:a<18446744073709551616)(hp2:o<18446744073709551616)(fI:n<18446744073709551616):cQ Tryz.prog 91 [aC (fN r),ag .u64 (a:Int),ag .u64 (o:Int),ag .u64 (n:Int)] (ak (jF r.pages (a+o) n)):=by
 refine In 33 Tryz.func91 fun _ _ _=>?_;refine YZ ?_;refine bB ?_;exact af.prop (by unfold jF;omega)
theorem Jy{a:Nat}(az:r.iQ.length≤5000)(hp1:a<18446744073709551616)(hp2:∀p∈r.iQ,p.2.length≤5000):cQ Tryz.prog 100 [aC (fN r),ag .u64 (a:Int)] (ag .u8 ((pV r a).toNat:Int)):=by
 refine In 57 Tryz.func100 fun _ _ _=>?_;refine EX ?_;refine .aS (σ:=Nat) (fun _=>[]) (fun i=>[(5,aU ((i:Int)-1))]) (fun i=>i≤r.iQ.length∧sF r.iQ a r.iQ.length=sF r.iQ a i) (fun i=>i) r.iQ.length ⟨Nat.le_refl _,rfl⟩ rfl ?_ ?_
 · exact(.get rfl (af.refl _) (.refl _ _))
 rintro i ⟨hi,hb⟩;refine Z7 ?_;refine Cd (fun c0=>?_) fun c0=>?_
 ·
  obtain⟨j,rfl⟩:∃j,i=j+1:=⟨i-1,by omega⟩;obtain⟨p,hx⟩:=ah (xs:=r.iQ) (k:=j) (by omega);have rC:=hp2 p (List.mem_of_getElem? hx);refine Z5 ?_;refine .br 25 2 FM.out (by kernel_rfl) (k:= ?_);refine Z4 ?_;refine .p (cI j (h:=hx)) ?_;refine Z8 ?_;refine .cons (bU.gT rfl rfl rfl rfl (fun hg=>aP (j:=j) FU.out FC.out rfl (.when (.t rfl) hg) (.when (.t rfl) hg) (by omega) hx)) ?_;refine Z6 ?_;refine .cons (bU.gT rfl rfl rfl rfl (fun hg=>aP (j:=j) FU.out FC.out rfl (.when (.t rfl) hg) (.when (.t rfl) hg) (by omega) hx)) ?_;refine Z9 ?_;refine Cd (fun c1=>?_) fun c1=>?_
  ·
   have hin:sE p a:=by(unfold sE;omega)
   obtain⟨y,hy⟩:=ah (xs:=p.2) (k:=a-p.1) (by have h9:=hin.2;omega);have hle:=hin.1;have hby:pV r a=y:=by(unfold pV;rw[hb,th hx hin,List.getD_eq_getElem?_getD,hy];rfl)
   refine Z1 ?_;refine .br 14 3 FM.out (by kernel_rfl) (k:= ?_);refine Z3 ?_;refine .p (cI j (h:=hx)) ?_;refine Z6 ?_;refine .p (cI j (h:=hx)) ?_;refine Z4 ?_;refine .p (cI (a-p.1) (h:=hy)) rfl ?_;refine cD ?_;refine bB ?_;exact af.int (by rw[hby])
  refine Z8 ?_;refine .round j ⟨by omega,hb.trans (vL hx (fun h=>c1 (by unfold sE at h;omega)))⟩ (by omega) rfl ?_;exact(.get rfl (af.int (by omega)) ((.keep 33 rfl rfl)))
 have TY:i=0:=by omega
 subst TY;refine cc ?_;refine bB ?_;exact af.int (by unfold pV;rw[hb];rfl)
theorem Jz{a:Nat}(az:r.iQ.length≤5000)(hp1:a+n<18446744073709551616)(hp2:∀p∈r.iQ,p.2.length≤5000)(fI:n≤5000):cQ Tryz.prog 56 [aC (fN r),ag .u64 (a:Int),aU (n:Int)] (ai 1 aj (sG r a n)):=by
 refine In 24 Tryz.func56 fun _ _ _=>?_;refine BE ?_;refine .own (tH (n:=1) (enc:=aj)) ?_;refine .aS (σ:=SB×Nat) (fun g=>[av g.1 1 aj (sG r a g.2)]) (fun g=>[(7,aa (bt g.1 (sG r a g.2).length)),(8,aU (g.2:Int))]) (fun g=>g.2≤n) (fun g=>n-g.2) (none,0) (Nat.zero_le _) rfl ?_ ?_
 · exact(.get rfl (af.refl _) (.get rfl (af.refl _) (.refl _ _)))
 rintro⟨sb,i⟩ hi;simp only at hi ⊢;refine Z8 ?_;refine Cd (fun c0=>?_) fun c0=>?_
 ·
  refine Z6 ?_;refine .p (bp.le (mX FA.out FC.out rfl (.t rfl) rfl) (af.refl (aC (fN r)))) rfl ?_;refine Z3 ?_;refine .p ((eU (.t rfl) (.t rfl) ee).le (af.int (show _=((a+i:Nat):Int) by omega))) rfl ?_;refine .p (cA (h:=Jy (r:=r) (a:=a+i) az (by omega) hp2)) rfl ?_;refine .p (cB aj [pV r (a+i)]) rfl ?_;refine .n (aF (i:=0) (xs:=sG r a i) (ys:=[pV r (a+i)]) FU.out FU.out FC.out rfl FZ.out rfl FY.out (.t rfl) (.t rfl) rfl (by(simp only[Cm,List.length_cons,List.length_nil];omega)) (by(simp only[Cm,List.length_cons,List.length_nil];omega))) rfl fun g22 _=>?_;refine Z9 ?_;refine .round (g22,i+1) (by show i+1≤n;omega) (by(show n-(i+1)<n-i;omega)) (by simp only[AD];rfl) ?_;exact(.get rfl (af.of_eq (by simp only[AD])) (.get rfl (af.int (by(show(i:Int)+1=((i+1:Nat):Int);omega))) ((.keep 18 rfl rfl))))
 refine cc ?_;refine .eB (t:=6) (i:=0) rfl rfl ?_;refine Z1 ?_;refine bB ?_;exact af.of_eq (by rw[show i=n by omega])
theorem GK{a:Nat}{ys:List UInt8}(az:r.iQ.length≤5000)(hp1:ys.length≤5000):cQ Tryz.prog 92 [aC (fN r),ag .u64 (a:Int),ai 1 aj ys] (aC (fN (qN r a ys))):=by
 refine In 20 Tryz.func92 fun _ _ _=>?_;refine Z2 ?_;refine .n (bW (.t rfl)) rfl fun b3 _=>?_;refine .n (au FZ.out) rfl fun b6 _=>?_;refine Z4 ?_;refine .n (cg sD [] FU.out FC.out rfl FZ.out rfl .nil rfl rfl rfl rfl rfl) rfl fun g7 _=>?_;refine Z2 ?_;refine .n (aF (i:=0) (xs:=([]:List xk)) (ys:=r.iQ) FU.out FU.out FC.out rfl FZ.out rfl FY.out (.t rfl) (.t rfl) rfl (by(simp only[List.length_nil];omega)) (by(simp only[List.length_nil];omega))) rfl fun g10 _=>?_;refine Z1 ?_;refine .p (kM FU.out FC.out rfl FZ.out rfl) rfl ?_;refine Z1 ?_;refine .p (sQ FU.out FU.out FC.out rfl FZ.out rfl FY.out (.t rfl) (.t rfl) (by omega)) rfl ?_;refine Z1 ?_;refine .p (cB sD [((a,ys):xk)]) rfl ?_;refine .n (aF (i:=0) (xs:=[]++r.iQ) (ys:=[((a,ys):xk)]) FU.out FU.out FC.out rfl FZ.out rfl FY.out (.t rfl) (.t rfl) rfl (by(simp only[List.nil_append,List.length_cons,List.length_nil];omega)) (by(simp only[List.nil_append,List.length_cons,List.length_nil];omega))) rfl fun g17 _=>?_;refine Z4 ?_;refine .dO (n:=2) (enc:=sD) (i:=0) (j:=1) (f:=2) rfl rfl rfl ?_;refine Z2 ?_;refine .p (bp.le (gG (i:=1) FA.out FC.out rfl (.t rfl) rfl rfl) (af.refl (aC (fN (qN r a ys))))) rfl ?_;refine Z4 ?_;refine Post.aR rfl () trivial (fun _ _ _ _=>trivial) (.ra (i:=0) FA.out FC.out rfl rfl rfl rfl) ?_;exact af.refl _
theorem M5(az:nM m)(hp1:m.bl.length≤4000):cv Tryz.prog 44 [aC (oP (lG m 0 0)),ai 2 dS m.bw,ai 3 eA m.bl] [] (γ:=Nat×Nat×Int) (fun r=>od m r) (fun _=>[]) (fun r=>bE [aC (oP (lG m r.1 r.2.1)),ag .i64 r.2.2]):=by
 refine In 117 Tryz.func44 fun _ _ _=>?_;have KP:=az.ll;have Hw:=az.dl
 have Dw:=az.r2.2.2;have hml:=az.ml;refine Z2 ?_;refine .n (bW (.t rfl)) rfl fun b3 _=>?_;refine .n (au FZ.out) rfl fun b6 _=>?_;refine cD ?_;refine .own (aB.perm (Perm.idx [1,0] rfl rfl)) ?_;refine .aS (σ:=Nat) (fun k=>[ax b3 [ai 1 dh (m.an.map (·.Value)),(ai 1 dc (sH m k)),(ai 3 fN (lu m 0))],ax b6 [aa (.slice none 0 0),aa (.slice none 0 0),aa (.slice none 0 0)]]) (fun k=>[(8,ag .i64 (k:Int))]) (fun k=>k≤m.bw.length∧kq m k) (fun k=>m.bw.length-k) 0 ⟨Nat.zero_le _,kq.nil⟩ rfl ?_ ?_
 · exact(.get rfl (af.refl _) (.refl _ _))
 rintro k ⟨hk,SK⟩;refine Z9 ?_;refine Cd (fun c0=>?_) fun c0=>?_
 ·
  obtain⟨z,hz⟩:=ah (xs:=m.bw) (k:=k) (by omega);obtain⟨Ez,wq,hz3,SL⟩:=az.el z (List.mem_of_getElem? hz);have htl:=nX m k;have hbd:iT m z↔((fq m:Int)<z.At∨(fq m:Int)-z.At<(z.aA.length:Int)):=Iff.rfl;refine Z8 ?_;refine .p (cI k (h:=hz)) rfl ?_;refine Z1 ?_;refine .n (au FZ.out) rfl fun b9 _=>?_;refine Z3 ?_;refine .share (t:=9) (i:=0) rfl rfl ?_;refine Z8 ?_;refine .p ((qd FU.out FU.out (.t rfl) (by rw[htl];exact nv (by omega) (by omega))).le (af.int (show _=((fq m:Nat):Int) by rw[htl];try omega))) rfl ?_;refine Z9 ?_;refine .g (bU.gF rfl rfl rfl rfl (fun hg=>(qd FU.out FU.out (.when (.t rfl) hg) (by rw[htl];exact nv (by omega) (by omega))).le (af.int (show _=((fq m:Nat):Int) by rw[htl];try omega)))) rfl rfl ?_;refine Z7 ?_;refine Cd (fun c1=>?_) fun c1=>?_
  ·
   have Q1:iT m z:=hbd.2 (by omega);refine Z2 ?_;refine .p (bp.le (gG (i:=0) FA.out FC.out rfl (.t rfl) rfl rfl) (af.refl (aC (oP (lG m k 0))))) rfl ?_;refine cc ?_;refine Post.bk rfl rfl ((k,0,5)) (by exact od.el hz SK Q1) (aB.dF [] [0,1] rfl rfl) rfl (.cons (.ra (i:=1) FA.out FC.out rfl rfl rfl rfl) ?_ (.cons (.rt rfl) ?_ .nil))
   · exact .z
   exact .z
  have Q1:¬iT m z:=fun h=>c1 (by have h2:=hbd.1 h;omega);have hin:z.At+(z.aA.length:Int)≤(fq m:Int):=by(have h3:=fun h=>Q1 (hbd.2 h);omega)
  refine Z4 ?_;refine .n (cg dc ([]:List Int) FU.out FC.out rfl FZ.out rfl .nil rfl rfl rfl rfl rfl) rfl fun Ei _=>?_;refine Z2 ?_;refine .n (aF (i:=0) (xs:=([]:List Int)) (ys:=sH m k) FU.out FU.out FC.out rfl FZ.out rfl FY.out (.t rfl) (.t rfl) rfl (by rw[nX];simp only[List.length_nil];omega) (by rw[nX];simp only[List.length_nil];omega)) rfl fun M6 _=>?_;refine cD ?_;refine .aS (σ:=SB×Nat) (fun q=>[av q.1 1 dc (N3 (sH m k) z q.2),ax b3 [ai 1 dh (m.an.map (·.Value)),aa (bt q.1 (fq m)),(ai 3 fN (lu m 0))],ax b6 [aa (.slice none 0 0),aa (.slice none 0 0),aa (.slice none 0 0)]]) (fun q=>[(10,ag .i64 (q.2:Int))]) (fun q=>q.2≤z.aA.length) (fun q=>z.aA.length-q.2) (M6,0) (Nat.zero_le _) (by have h9:(([]:List Int)++sH m k).length=fq m:=nX m k;rw[h9];rfl) ?_ ?_
  · exact(.get rfl (af.refl _) (.refl _ _))
  rintro⟨s1,j⟩ hj;simp only at hj ⊢;refine cD ?_;refine Cd (fun c2=>?_) fun c2=>?_
  ·
   obtain⟨y,hy⟩:=ah (xs:=z.aA) (k:=j) (by omega);have hyb:=SL y (List.mem_of_getElem? hy);have GL:=(yS (sH m k) z j).trans htl;obtain⟨w,hw⟩:=ah (xs:=N3 (sH m k) z j) (k:=z.At.toNat+j) (by omega);refine .gL 0 rfl (fun e=>by rw[e] at hw;cases hw) fun fb cap TZ=>?_;subst TZ;refine Z4 ?_;refine .br 13 2 FM.out (by kernel_rfl) (k:= ?_);refine Z6 ?_;refine .p ((eU (.t rfl) (.t rfl) ee).le (af.int (show _=((z.At.toNat+j:Nat):Int) by omega))) ?_;refine Z3 ?_;refine .p (cI j (h:=hy)) ?_;refine Z3 ?_;refine .p (aX (z.At.toNat+j) FU.out FC.out rfl (.t rfl) (.t rfl) rfl (by omega)) rfl ?_;refine .s (fE (enc:=dc) (i:=0) (r:=0) (y+1) rfl FC.out (.t rfl) (.t rfl) rfl hw rfl rfl) ?_;refine Z8 ?_;refine .round (some (fb,cap),j+1) (by show j+1≤_;omega) (by show z.aA.length-(j+1)<z.aA.length-j;omega) (by simp only[N3,hy,Option.getD_some];try rfl) ?_;exact(.get rfl (af.int (by(show(j:Int)+1=((j+1:Nat):Int);omega))) ((.keep 23 rfl rfl)))
  have hje:j=z.aA.length:=by omega
  subst hje;refine Z6 ?_;refine .dO (i:=0) (j:=0) (f:=1) (xs:=N3 (sH m k) z z.aA.length) rfl rfl (by rw[yS,htl];rfl) ?_;refine Z5 ?_;refine .round (k+1) ⟨by omega,SK.next hz Q1⟩ (by omega) (by simp only[P6 hz];try rfl) ?_;exact(.get rfl (af.int (by(show(k:Int)+1=((k+1:Nat):Int);omega))) ((.keep 47 rfl rfl)))
 have hke:k=m.bw.length:=by omega
 subst hke;refine dN ?_;refine .aS (σ:=Nat) (fun k=>[ax b3 [ai 1 dh (m.an.map (·.Value)),(ai 1 dc (sH m m.bw.length)),(ai 3 fN (lu m k))],ax b6 [aa (.slice none 0 0),aa (.slice none 0 0),aa (.slice none 0 0)]]) (fun k=>[(11,ag .i64 (k:Int))]) (fun k=>k≤m.bl.length∧nO m k) (fun k=>m.bl.length-k) 0 ⟨Nat.zero_le _,nO.nil⟩ rfl ?_ ?_
 · exact(.get rfl (af.refl _) (.refl _ _))
 rintro k ⟨hk,hds⟩;refine Z9 ?_;refine Cd (fun c3=>?_) fun c3=>?_
 ·
  obtain⟨z,hz⟩:=ah (xs:=m.bl) (k:=k) (by omega);obtain⟨hi1,hi2,SM,hi4⟩:=az.da z (List.mem_of_getElem? hz);have bB4:=pW m k;obtain⟨r,hr⟩:=ah (xs:=lu m k) (k:=z.Mem.toNat) (by unfold gA at hi1;omega);obtain⟨hro,hrp⟩:=DK az k _ r hr;have hrf:=hro.tG;have hrq:=hro.pages
  have WJ:=K6 (m:=m) (d:=z) hi4;rw[←hrp] at WJ;refine Z8 ?_;refine .p (cI k (h:=hz)) rfl ?_;refine Z1 ?_;refine .n (au FZ.out) rfl fun R5 _=>?_;refine Z3 ?_;refine .share (t:=12) (i:=0) rfl rfl ?_;refine Z2 ?_;refine .br 12 1 FM.out (by kernel_rfl) (k:= ?_);refine Z3 ?_;refine .p ((mL FA.out (.t rfl)).le (af.int (show z.Mem=((z.Mem.toNat:Nat):Int) by(unfold gA at hi1;omega)))) ?_;refine .p (cI z.Mem.toNat (h:=hr)) ?_;refine .p (bp.le (mX FA.out FC.out rfl (.t rfl) rfl) (af.refl (aC (fN r)))) ?_;refine Z1 ?_;refine .p ((mL FA.out (.t rfl)).le (af.int (show z.At=((z.At.toNat:Nat):Int) by omega))) ?_;refine Z5 ?_;refine .p (cA (h:=DP (r:=r) (a:=z.At.toNat) (o:=0) (n:=z.Bytes.length) hrq (by omega) (by decide) (by omega))) rfl ?_;refine Z2 ?_;refine Cd (fun c4=>?_) fun c4=>?_
  ·
   have hbd:=WJ.2 c4;have hb4:=SA hi4 hbd;refine Z2 ?_;refine .p (bp.le (gG (i:=0) FA.out FC.out rfl (.t rfl) rfl rfl) (af.refl (aC (oP (lG m m.bw.length k))))) rfl ?_;refine cc ?_;refine Post.bk rfl rfl ((m.bw.length,k+1,((xO m z).2.1:Int))) (by exact od.da hz SK hds hbd) (aB.dF [] [0,1] rfl rfl) rfl (.cons (.ra (i:=1) FA.out FC.out rfl rfl rfl rfl) ?_ (.cons (.rt rfl) ?_ .nil))
   · exact af.of_eq (by simp only[lG,P9 hz hbd];rfl)
   exact af.int (by rw[hb4];rfl)
  have hok:(xO m z).2=(0,0):=Classical.not_not.1 fun h=>c4 (WJ.1 h);refine Z4 ?_;refine .n (cg fN ([]:List RM) FU.out FC.out rfl FZ.out rfl .nil rfl rfl rfl rfl rfl) rfl fun g95 _=>?_;refine Z2 ?_;refine .n (aF (i:=0) (xs:=([]:List RM)) (ys:=lu m k) FU.out FU.out FC.out rfl FZ.out rfl FY.out (.t rfl) (.t rfl) rfl (by rw[pW];simp only[List.length_nil];omega) (by rw[pW];simp only[List.length_nil];omega)) rfl fun g98 _=>?_;refine Z4 ?_;refine .gL 0 rfl (fun e=>by rw[show([]++lu m k)=lu m k from rfl] at e;rw[e] at hr;cases hr) fun fb cap TZ=>?_;subst TZ;have wA:z.Mem.toNat<([]++lu m k).length:=(List.getElem?_eq_some_iff.1 hr).1;refine .br 15 2 FM.out (by kernel_rfl) (k:= ?_);refine Z3 ?_;refine .p ((mL FA.out (.t rfl)).le (af.int (show z.Mem=((z.Mem.toNat:Nat):Int) by(unfold gA at hi1;omega)))) ?_;refine Z3 ?_;refine .p ((mL FA.out (.t rfl)).le (af.int (show z.Mem=((z.Mem.toNat:Nat):Int) by(unfold gA at hi1;omega)))) ?_;refine .p (aX z.Mem.toNat FU.out FC.out rfl (.t rfl) (.t rfl) rfl wA) ?_;refine .p (bp.le (kP (enc:=fN) (i:=0) (r:=0) FA.out FC.out rfl (.t rfl) rfl hr rfl) (af.refl (aC (fN r)))) ?_;refine Z1 ?_;refine .p ((mL FA.out (.t rfl)).le (af.int (show z.At=((z.At.toNat:Nat):Int) by omega))) ?_;refine Z2 ?_;refine .p (cA (h:=GK (r:=r) (a:=z.At.toNat) (ys:=z.Bytes) (by omega) (by omega))) ?_;refine Z1 ?_;refine .p (aX z.Mem.toNat FU.out FC.out rfl (.t rfl) (.t rfl) rfl wA) rfl ?_;refine .s (wE (enc:=fN) (i:=0) (r:=0) (qN r z.At.toNat z.Bytes) rfl FC.out rfl (.t rfl) (.t rfl) rfl rfl hr rfl rfl) ?_;refine Z3 ?_;refine .dO (i:=0) (j:=0) (f:=2) rfl rfl (by rw[List.length_set];rfl) ?_;refine Z5 ?_;refine .round (k+1) ⟨by omega,hds.next hz hok⟩ (by omega) (by simp only[AE hz,P7,if_pos hok,hr,Option.getD_some];try rfl) ?_;exact(.get rfl (af.int (by(show(k:Int)+1=((k+1:Nat):Int);omega))) ((.keep 48 rfl rfl)))
 have hke:k=m.bl.length:=by omega
 subst hke;refine Z7 ?_;refine .p (bp.le (gG (i:=0) FA.out FC.out rfl (.t rfl) rfl rfl) (af.refl (aC (oP (lG m m.bw.length m.bl.length))))) rfl ?_;refine Z5 ?_;refine Post.bk rfl rfl ((m.bw.length,m.bl.length,0)) (by exact od.all SK hds) (aB.dF [] [0,1] rfl rfl) rfl (.cons (.ra (i:=1) FA.out FC.out rfl rfl rfl rfl) ?_ (.cons (.rt rfl) ?_ .nil))
 · exact .z
 exact .z
theorem GM(az:dy X a)(hp1:nM m)(hp2:a.height+(lp m+B3 m)≤X.size):cv Tryz.prog 36 [aD sb 0] (lB sb X pb m num 0 0 mv::eW X a) (γ:=Unit) (fun _=>True) (fun _=>lB sb X pb m num (a.height:Int) ((a.height+lp m:Nat):Int) mv::eW X (lW a m)) (fun _=>ag .i64 0):=by
 refine In 59 Tryz.func36 fun _ _ _=>?_;have hm1:lp m=aY (8*m.an.length):=rfl;have hm2:B3 m=aY (4*fq m):=rfl;have Em:=hp1.r1;have Dw:=hp1.r2;have hkh:=az.hi;have hkm:=az.most;have HJ:=az.live
 have V7:=hp1.gl;have htn:(max m.Table 0)=((fq m:Nat):Int):=by unfold fq;omega
 refine dN ?_;refine .bP [(0,0),(1,0),(2,0),(3,0),(4,1),(5,0),(6,0),(7,0),(8,1),(9,0),(10,0),(11,0),(12,0),(13,0),(14,2),(15,0),(16,0),(17,0),(18,0),(19,0),(20,3)] 21 1 FM.out (by kernel_rfl) (k:= ?_);refine jP ?_;refine .p rfl (fun _=>(Hz (.c _) (.t rfl) ee).le (af.int (show _=((8*m.an.length:Nat):Int) by omega))) ?_;refine .e rfl (kL [_] [1,2,3,4,0] (h:=uq (X:=X) (a:=a) (n:=8*m.an.length) az)) fun g19 V9=>?_;refine Z5 ?_;refine .s rfl (jc (i:=4) FC.out (.t rfl) (.t rfl) rfl rfl) ?_;refine .fin ?_;refine Z3 ?_;rw[Fi az (by omega) (by omega)] at V9;subst V9;refine Z6 ?_;refine CT fun c0=>?_;refine Z4 ?_;refine .bP [(0,0),(1,0),(2,0),(3,0),(4,1),(5,0),(6,0),(7,0),(8,1),(9,0),(10,0),(11,0),(12,0),(13,0),(14,2),(15,0),(16,0),(17,0),(18,0),(19,0),(20,3)] 21 1 FM.out (by kernel_rfl) (k:= ?_);refine Z4 ?_;refine .o rfl (fK (i:=4) FA.out (.t rfl) rfl rfl) ?_;refine Z3 ?_;refine .o rfl (fK (i:=4) FA.out (.t rfl) rfl rfl) ?_;refine Z4 ?_;refine .p rfl (fun _=>(Hz (.c _) (.t rfl) (by rw[htn];exact cn (by omega) (by omega))).le (af.int (show _=((4*fq m:Nat):Int) by rw[htn];omega))) ?_;refine .e rfl (cE (h:=uq (X:=X) (a:=RS a (lp m)) (n:=4*fq m) (sn az (by omega)))) fun yJ Qk=>?_;refine Z5 ?_;refine .s rfl (jc (i:=4) FC.out (.t rfl) (.t rfl) rfl rfl) ?_;refine .fin ?_;refine Z3 ?_;rw[Fi (sn az (by omega)) (by omega) (by simp only;omega)] at Qk;subst Qk;refine Z6 ?_;refine CT fun c1=>?_;refine Z9 ?_;refine Post.aR rfl (()) (by trivial) (aB.dF [4,0,1,2,3] [] rfl rfl) (.rt rfl) ?_;exact .z
theorem JA{z:dR}:cQ Tryz.prog 80 [aC (ek z),ag .i64 65536] (ag .i64 (nN z:Int)):=by
 refine In 11 Tryz.func80 fun _ _ _=>?_;refine jb ?_;refine Cd (fun c0=>?_) fun c0=>?_
 ·
  refine Z8 ?_;refine bB ?_;exact af.int (by unfold nN;rw[if_pos (by omega)];rfl)
 refine cD ?_;refine bB ?_;exact af.int (by unfold nN;rw[if_neg (by omega)];omega)
theorem JB{g:Nat}(az:dy X a)(hp1:nM m)(hp2:g+8*m.an.length≤X.size)(fI:0≤num)(oe:num≤1073741824):cv Tryz.prog 37 [aD sb 0] (lB sb X pb m num (g:Int) t (aa (.slice none 0 0))::pP X a) (γ:=SB×List Nat) (fun g2=>g2.2.length=m.bz.length) (fun g2=>jl pb g2.2 (B5 m num m.bz.length)::av g2.1 1 eG g2.2::lB sb X pb m num (g:Int) t (aa (bt g2.1 (g2.2).length))::pP X (Iu m g a m.an.length)) (fun _=>bE []):=by
 refine In 71 Tryz.func37 fun _ _ _=>?_;have V7:=hp1.gl;have hml:=hp1.ml;have hkm:=az.most
 refine kR ?_;refine .aS (σ:=Nat) (fun k=>lB sb X pb m num (g:Int) t (aa (.slice none 0 0))::pP X (Iu m g a k)) (fun k=>[(16,ag .i64 (k:Int))]) (fun k=>k≤m.an.length) (fun k=>m.an.length-k) 0 (Nat.zero_le _) rfl ?_ ?_
 · exact(.get rfl (af.refl _) (.refl _ _))
 rintro k hk;refine Z6 ?_;refine Cd (fun c0=>?_) fun c0=>?_
 ·
  obtain⟨z,hz⟩:=ah (xs:=m.an) (k:=k) (by omega);have XO:=hp1.gv z (List.mem_of_getElem? hz);refine Z7 ?_;refine .p (cI k (h:=hz)) rfl ?_;refine Z1 ?_;refine .n (au FZ.out) rfl fun b3 _=>?_;refine Z4 ?_;refine .share (t:=3) (i:=0) rfl rfl ?_;refine Z4 ?_;refine .p ((mL FA.out (.t rfl)).le (af.int (show z.Value=((z.Value.toNat:Nat):Int) by omega))) rfl ?_;refine .n (cE (h:=B8 (a:=Iu m g a k) (g:=g) (i:=k) (v:=z.Value.toNat) (z:=z) hz (sq az k (by omega)) (by omega) (by omega) XO.2.2 V7)) rfl fun R2 QX=>?_;refine Z7 ?_;refine .round (k+1) (by omega) (by omega) (by show _=_::pP X ((Iu m g a k).put (g+8*k) (xK (pQ (Fj m k).Ty (Fj m k).Value.toNat) 8));rw[yD hz];try rfl) ?_;exact(.get rfl (af.int (by(show(k:Int)+1=((k+1:Nat):Int);omega))) ((.keep 15 rfl rfl)))
 have hke:k=m.an.length:=by omega
 subst hke;refine Z6 ?_;refine .own (tH (n:=1) (enc:=eG)) ?_;refine .own (Pw (pb:=pb)) ?_;refine jP ?_;refine .aS (σ:=SB×List Nat×Nat) (fun q=>jl pb q.2.1 (B5 m num q.2.2)::av q.1 1 eG q.2.1::lB sb X pb m num (g:Int) t (aa (bt q.1 (q.2.1).length))::pP X (Iu m g a m.an.length)) (fun q=>[(35,ag .i64 (q.2.2:Int))]) (fun q=>q.2.1.length=q.2.2∧q.2.2≤m.bz.length) (fun q=>m.bz.length-q.2.2) (none,[],0) ⟨rfl,Nat.zero_le _⟩ rfl ?_ ?_
 · exact(.get rfl (af.refl _) (.refl _ _))
 rintro⟨s1,bs,k⟩ ⟨hb,hk⟩;simp only at hb hk ⊢;refine Z6 ?_;refine Cd (fun c1=>?_) fun c1=>?_
 ·
  obtain⟨z,hz⟩:=ah (xs:=m.bz) (k:=k) (by omega);have SL:=KN hp1 (List.mem_of_getElem? hz) (n:=num+(k:Int)) (by omega);refine Z7 ?_;refine .p (cI k (h:=hz)) rfl ?_;refine Z1 ?_;refine .n (au FZ.out) rfl fun b5 _=>?_;refine Z4 ?_;refine .share (t:=5) (i:=0) rfl rfl ?_;refine Z1 ?_;refine .bP [(0,0),(1,0),(2,0),(3,1),(4,0),(5,0),(6,0),(7,1),(8,0),(9,0),(10,0),(11,0),(12,0),(13,0),(14,0),(15,0),(16,2),(17,0),(18,0),(19,0),(20,0)] 21 1 FM.out (by kernel_rfl) (k:= ?_);refine cc ?_;refine .p rfl (fun _=>(mL FA.out (.t rfl)).le (af.int SL.2.1)) ?_;refine .p rfl (fun _=>bp.le (mX FA.out FC.out rfl (.t rfl) rfl) (af.refl (aC (ek z)))) ?_;refine .p rfl (fun _=>bA (JA) FB.out (.cons (.t rfl) (.cons (.c _) .nil))) ?_;refine Z2 ?_;refine .e rfl (cE (h:=Mv (pb:=pb) (num:=num+(k:Int)) (pages:=z.Min.toNat) (most:=nN z) (wide:=z.bO) (by omega) SL.2.2.1 SL.2.2.2)) fun XP h57=>?_;refine Z4 ?_;refine .fin ?_;refine Z3 ?_;refine .own (Pv (by rw[oG];exact hb)) ?_;refine Z7 ?_;refine .p (cB eG [XP]) rfl ?_;refine .n (aF (i:=1) (xs:=bs) (ys:=[XP]) FU.out FU.out FC.out rfl FZ.out rfl FY.out (.t rfl) (.t rfl) rfl (by simp only[List.length_cons,List.length_nil];omega) (by simp only[List.length_cons,List.length_nil];omega)) rfl fun g67 _=>?_;refine cD ?_;refine .round (g67,bs++[XP],k+1) ⟨by(show(bs++[XP]).length=k+1;simp[hb]),by(show k+1≤_;omega)⟩ (by show m.bz.length-(k+1)<m.bz.length-k;omega) (by simp only[Xm hz];try rfl) ?_;exact(.get rfl (af.int (by(show(k:Int)+1=((k+1:Nat):Int);omega))) ((.keep 42 rfl rfl)))
 have hke:k=m.bz.length:=by omega
 subst hke;refine Z4 ?_;refine Post.iA rfl ((s1,bs)) (by exact hb) (fun _ _ _ h=>h) rfl
theorem JC{e:ez}(az:dy X a)(hp1:nM m)(hp2:t0+4*fq m≤X.size)(fI:e∈m.bw):cv Tryz.prog 81 [aD sb 0,aC (dS e)] (lB sb X pb m num g (t0:Int) mv::pP X a) (γ:=Unit) (fun _=>True) (fun _=>lB sb X pb m num g (t0:Int) mv::pP X (KL m t0 e a)) (fun _=>ag .i64 (US m e)):=by
 refine In 60 Tryz.func81 fun _ _ _=>?_;obtain⟨q6,Ej,HN,he3⟩:=hp1.el e fI;have Dw:=hp1.r2;have hkm:=az.most
 have htn:(max m.Table 0)=((fq m:Nat):Int):=by unfold fq;omega
 have hbd:iT m e↔((fq m:Int)<e.At∨(fq m:Int)-e.At<(e.aA.length:Int)):=Iff.rfl;refine kR ?_;refine .p ((Tp (.t rfl) (.c _)).le (af.int htn)) rfl ?_;refine .p ((qd FU.out FU.out (.t rfl) ee).le (af.int (show _=((fq m:Nat):Int) by omega))) rfl ?_;refine Z23 ?_;refine Cd (fun c0=>?_) fun c0=>?_
 ·
  have hb:iT m e:=hbd.2 (by omega);have AI:KL m t0 e a=a:=if_pos hb;have AJ:US m e=5:=if_pos hb;refine Z7 ?_;refine Post.aR rfl (()) (by trivial) (aB.of_eq (by rw[AI])) (.rt rfl) ?_;exact af.int (by rw[AJ])
 have hb:¬iT m e:=fun h=>c0 (by have h2:=hbd.1 h;omega);have AI:KL m t0 e a=NW t0 e a e.aA.length:=if_neg hb;have AJ:US m e=0:=if_neg hb;have hin:e.At+(e.aA.length:Int)≤(fq m:Int):=by(have h3:=fun h=>hb (hbd.2 h);omega)
 refine dN ?_;refine .aS (σ:=Nat) (fun k=>lB sb X pb m num g (t0:Int) mv::pP X (NW t0 e a k)) (fun k=>[(35,ag .i64 (k:Int))]) (fun k=>k≤e.aA.length) (fun k=>e.aA.length-k) 0 (Nat.zero_le _) rfl ?_ ?_
 · exact(.get rfl (af.refl _) (.refl _ _))
 rintro k hk;refine Z6 ?_;refine Cd (fun c1=>?_) fun c1=>?_
 ·
  obtain⟨z,hz⟩:=ah (xs:=e.aA) (k:=k) (by omega);have wq:=he3 z (List.mem_of_getElem? hz);refine Z7 ?_;refine .p (cI k (h:=hz)) rfl ?_;refine Z5 ?_;refine .br 18 1 FM.out (by kernel_rfl) (k:= ?_);refine Ek ?_;refine .n (cG (rest:=[_]) (B6 (a:=NW t0 e a k) (at_:=t0+4*(e.At.toNat+k)) (w:=4) (v:=z.toNat+1) (wU az k (by omega)) (by omega) (.inr rfl) (by omega)) FB.out (.cons (.t rfl) (.cons (.le (.t rfl) (af.int (show _=((t0+4*(e.At.toNat+k):Nat):Int) by omega))) (.cons (.c _) (.cons (.le (.t rfl) (af.int (show _=((z.toNat+1:Nat):Int) by omega))) .nil)))) (Perm.idx [1,2,0] rfl rfl)) rfl fun g58 h58=>?_;refine Z7 ?_;refine .own (aB.perm (Perm.idx [2,0,1] rfl rfl)) (bN.round (k+1) (by omega) (by omega) (by show _=_::pP X ((NW t0 e a k).put (t0+4*(e.At.toNat+k)) (xK (((e.aA[k]?).getD 0).toNat+1) 4));rw[hz];try rfl) ?_);exact(.get rfl (af.int (by(show(k:Int)+1=((k+1:Nat):Int);omega))) ((.keep 28 rfl rfl)))
 have hke:k=e.aA.length:=by omega
 subst hke;refine cc ?_;refine Post.aR rfl (()) (by trivial) (aB.of_eq (by rw[AI])) (.rt rfl) ?_;exact af.int (by rw[AJ])
theorem JD{pg:tF}{mm:Nat}{Co:Cont}(az:dy X a)(hp1:nM m)(hp2:t0+4*fq m≤X.size)(fI:bs.length=m.bz.length)(oe:0≤num)(yH:mm+AV m m.bl.length≤4096):cv Tryz.prog 38 [aD sb 0] (jl pg.pb bs (B5 m num m.bz.length)::lB sb X pg.pb m num g (t0:Int) (ai 1 eG bs)::pP X (uo m t0 a 0)++[eE pg 64 4096 (fun _=>True) (sr m num Co 0) (mm+AV m 0) yl]) (γ:=Nat×Nat×Int) (fun r=>od m r) (fun r=>(jl pg.pb bs (B5 m num m.bz.length)::lB sb X pg.pb m num g (t0:Int) (ai 1 eG bs)::pP X (uo m t0 a r.1)++[eE pg 64 4096 (fun _=>True) (sr m num Co r.2.1) (mm+AV m m.bl.length) yl])) (fun r=>bE [ag .i64 r.2.2,ag .i64 0]):=by
 refine In 67 Tryz.func38 fun _ _ _=>?_;have KP:=hp1.ll;have Hw:=hp1.dl;have hkm:=az.most
 refine UD ?_;refine .aS (σ:=Nat) (fun k=>(jl pg.pb bs (B5 m num m.bz.length)::lB sb X pg.pb m num g (t0:Int) (ai 1 eG bs)::pP X (uo m t0 a k)++[eE pg 64 4096 (fun _=>True) (sr m num Co 0) (mm+AV m 0) yl])) (fun k=>[(19,ag .i64 (k:Int))]) (fun k=>k≤m.bw.length∧kq m k) (fun k=>m.bw.length-k) 0 ⟨Nat.zero_le _,kq.nil⟩ rfl ?_ ?_
 · exact(.get rfl (af.refl _) (.refl _ _))
 rintro k ⟨hk,SK⟩;refine Z6 ?_;refine Cd (fun c0=>?_) fun c0=>?_
 ·
  obtain⟨z,hz⟩:=ah (xs:=m.bw) (k:=k) (by omega);have hzm:=List.mem_of_getElem? hz;have hok:=yE (X:=X) (t:=t0) az hp1 hp2 k;refine Z6 ?_;refine .p (cI k (h:=hz)) rfl ?_;refine Z1 ?_;refine .n (au FZ.out) rfl fun b5 _=>?_;refine Z3 ?_;refine .share (t:=5) (i:=0) rfl rfl ?_;refine Z3 ?_;refine .p (bp.le (mX FA.out FC.out rfl (.t rfl) rfl) (af.refl (aC (dS z)))) rfl ?_;refine .n (kL [_,_] [1,2,3,0,4] (h:=JC (a:=uo m t0 a k) (e:=z) hok.1 hp1 hp2 hzm)) rfl fun R2 QX=>?_;refine Z9 ?_;refine Cd (fun c1=>?_) fun c1=>?_
  ·
   have Q1:iT m z:=RT c1;have hel:KL m t0 z (uo m t0 a k)=uo m t0 a k:=if_pos Q1;rw[hel];refine jP ?_;refine Post.bk rfl rfl ((k,0,5)) (by exact od.el hz SK Q1) (aB.trans (aB.perm (Perm.idx [3,0,1,2,4] rfl rfl)) (aB.cons _ (aB.cons _ (aB.cons _ (aB.cons _ (vb (by have:=zQ (m:=m) (Nat.zero_le m.bl.length);omega))))))) rfl (.cons (.rt rfl) ?_ (.cons (.rt rfl) ?_ .nil))
   · exact af.int (show US m z=5 from if_pos Q1)
   exact af.refl _
  have Q1:¬iT m z:=UU c1;refine Z7 ?_;refine .own (aB.perm (Perm.idx [3,0,1,2,4] rfl rfl)) (bN.round (k+1) ⟨by omega,SK.next hz Q1⟩ (by omega) (by simp only[Pr hz];try rfl) ?_);exact(.get rfl (af.int (by(show(k:Int)+1=((k+1:Nat):Int);omega))) ((.keep 14 rfl rfl)))
 have hke:k=m.bw.length:=by omega
 subst hke;refine Kx ?_;refine .aS (σ:=Nat) (fun k=>(jl pg.pb bs (B5 m num m.bz.length)::lB sb X pg.pb m num g (t0:Int) (ai 1 eG bs)::pP X (uo m t0 a m.bw.length)++[eE pg 64 4096 (fun _=>True) (sr m num Co k) (mm+AV m k) yl])) (fun k=>[(38,ag .i64 (k:Int))]) (fun k=>k≤m.bl.length∧nO m k) (fun k=>m.bl.length-k) 0 ⟨Nat.zero_le _,nO.nil⟩ rfl ?_ ?_
 · exact(.get rfl (af.refl _) (.refl _ _))
 rintro k ⟨hk,hds⟩;refine Z6 ?_;refine Cd (fun c2=>?_) fun c2=>?_
 ·
  obtain⟨z,hz⟩:=ah (xs:=m.bl) (k:=k) (by omega);obtain⟨hi1,hi2,SM,hi4⟩:=hp1.da z (List.mem_of_getElem? hz);obtain⟨y,hy⟩:=ah (xs:=m.bz) (k:=z.Mem.toNat) (by unfold gA at hi1;omega);obtain⟨b,hb⟩:=ah (xs:=bs) (k:=z.Mem.toNat) (by unfold gA at hi1;omega);have hmk:=Iw (num:=num) (k:=m.bz.length) hy (List.getElem?_eq_some_iff.1 hy).1;have SL:=KN hp1 (List.mem_of_getElem? hy) (n:=num+(z.Mem.toNat:Int)) (by omega);have hdn:=zQ (m:=m) (show k+1≤m.bl.length by omega);have aq3:=TO hz;have XQ:xO m z=cz y.Min.toNat z.At.toNat 0 (z.Bytes.length:Int):=by unfold xO;rw[yF hy]
  have hde:=Xo (m:=m) (d:=z) hi4;have aq4:(cz y.Min.toNat z.At.toNat 0 (z.Bytes.length:Int)).2.2=0:=XQ▸hde;refine Z6 ?_;refine .p (cI k (h:=hz)) rfl ?_;refine Z1 ?_;refine .n (au FZ.out) rfl fun b8 _=>?_;refine Z3 ?_;refine .share (t:=8) (i:=0) rfl rfl ?_;refine Z1 ?_;refine .own (zS hb hmk) ?_;refine .bP [(0,0),(1,0),(2,0),(3,1),(4,0),(5,0),(6,0),(7,0),(8,0),(9,0),(10,0),(11,0),(12,2),(13,0),(14,0),(15,0),(16,0)] 17 1 FM.out (by kernel_rfl) (k:= ?_);refine Z5 ?_;refine .p rfl (fun _=>(mL FA.out (.t rfl)).le (af.int (show z.Mem=((z.Mem.toNat:Nat):Int) by(unfold gA at hi1;omega)))) ?_;refine .p rfl (fun _=>aP (j:=z.Mem.toNat) FU.out FC.out rfl (.t rfl) (.t rfl) rfl hb) ?_;refine Z2 ?_;refine .p rfl (fun _=>(mL FA.out (.t rfl)).le (af.int (show z.At=((z.At.toNat:Nat):Int) by omega))) ?_;refine Z2 ?_;refine .e rfl (kL [_,_,_,_] [0,5,1,2,3,4] (h:=FW (mb:=b) (mm:=Pt y (num+(z.Mem.toNat:Int))) (X:=pg) (z:=64) (q:=4096) (m:=mm+AV m k) (T:=fun _=>True) (C:=sr m num Co k) (R:=yl) (a:=z.At.toNat) (o:=0) (ys:=z.Bytes) (C3 _) (by decide) (by decide) SL.1 (by omega) (by decide) (by omega) (by omega))) fun Vd We=>?_;refine Z4 ?_;refine .fin ?_;refine Z3 ?_;refine .own (aB.perm (Perm.idx [0,2,3,4,5,1] rfl rfl)) ?_;refine .own (Dg hb hmk) ?_;refine .own (aB.cons _ (aB.cons _ (aB.cons _ (aB.cons _ (aB.xM (show _=eE pg 64 4096 (fun _=>True) (sr m num Co (k+1)) (mm+AV m (k+1)) yl by rw[Ix hz,aq3,Nat.add_assoc mm];unfold Xn;rw[XQ])))))) ?_;refine cD ?_;refine Cd (fun c3=>?_) fun c3=>?_
  ·
   have hbd:(xO m z).2≠(0,0):=fun h=>by(rw[XQ] at h;simp[h] at c3)
   refine jb ?_;refine Post.bk rfl rfl ((m.bw.length,k+1,((xO m z).2.1:Int))) (by exact od.da hz SK hds hbd) (aB.cons _ (aB.cons _ (aB.cons _ (aB.cons _ (vb (Nat.add_le_add_left hdn mm)))))) rfl (.cons (.rt rfl) ?_ (.cons (.rt rfl) ?_ .nil))
   · exact af.int (congrArg (fun q:Nat×Nat×Nat=>((q.2.1:Nat):Int)) XQ.symm)
   exact af.int (congrArg Nat.cast aq4)
  have c3b:¬(((cz y.Min.toNat z.At.toNat 0 (z.Bytes.length:Int)).2.1:Int)≠0∨((cz y.Min.toNat z.At.toNat 0 (z.Bytes.length:Int)).2.2:Int)≠0):=c3;have hbd:(xO m z).2=(0,0):=by(rw[XQ];exact Prod.ext (by omega) (by omega))
  refine Z7 ?_;refine .round (k+1) ⟨by omega,hds.next hz hbd⟩ (by omega) (by simp only[Ix hz,TO hz];try rfl) ?_;exact(.get rfl (af.int (by(show(k:Int)+1=((k+1:Nat):Int);omega))) ((.keep 32 rfl rfl)))
 have hke:k=m.bl.length:=by omega
 subst hke;refine dN ?_;refine Post.bk rfl rfl ((m.bw.length,m.bl.length,0)) (by exact od.all SK hds) (fun _ _ _ h=>h) rfl (.cons (.rt rfl) ?_ (.cons (.rt rfl) ?_ .nil))
 · exact .z
 exact .z
end Go.Proofs.YtpfobikpggmleaaGreatDoor
end
section
namespace Go.Hl
def XR(p:Prop):List VP:=[ak p]
instance:gZ 1 XR:=⟨fun _=>rfl,fun x q h=>by simp only[XR,List.mem_cons,List.not_mem_nil,or_false] at h;subst h;infer_instance⟩
def sgP(n:Nat)(op:Int)(A:Nat):Prop:=(op=3∨op=5)∧2^(n-1)≤A
instance {n:Nat} {op:Int} {A:Nat}:Decidable (sgP n op A):=by unfold sgP;infer_instance
def noI:ay:=⟨-1,0,0,0,[]⟩
def isC(x:ay):Prop:=x.Code=65∨x.Code=66
instance (x:ay):Decidable (isC x):=by unfold isC;infer_instance
def T0(c:Int):Prop:=((c=0∨c=12)∨c=14)∨c=15
def Ql(c:Int):Prop:=(2≤c∧c≤5)∨c=11
instance (c:Int):Decidable (T0 c):=by unfold T0;infer_instance
instance (c:Int):Decidable (Ql c):=by unfold Ql;infer_instance
abbrev gI(l:List ay)(i:Nat):ay:=l.getD i noI
end Go.Hl
end
section
namespace Go.Hl
open Go.RowKit
section
variable {P:Program} {hs:List HP} {env:Env} {q:VP} {dst:Option Tmp} {ty T T' E:TypeId} {pos:String} {after:Array Edge} {gd:Option (Nat×Bool)} {x y z:Operand}
theorem JE{α:Type}{n N by_:Nat}{i:Int}{k:IntKind}{enc:α→List VP}{zs:List Value}(hT:P.underlying T=some (.slice E))(Og:P.underlying T'=some (.int k))(hn:P.cellsOf E=N)(h0:Nat.blt 0 N=true)
    (hz:jI P E=some zs) (hzl:zs.length=N) (hb:P.bytesOf E=by_) (hx:bx env x (aa (.slice none 0 0))) (hy:bx env y (ag .i64 i)) (hi:i=(n:Int)) (R6:0<n) (hroom:(2*n+256)*by_≤281474976710656) (hlen:n≤281474976710656):
    fZ P hs env ⟨dst, .call ⟨.builtin .append, #[x,y], #[T,T']⟩,ty,pos,after,gd⟩ (γ:=Nat×Nat) (fun _=>True) (fun g=>av (some g) N enc ([]:List α)::hs) (fun g=>aa (bt (some g) n)):=by
  intro c a w S F aH hown qe K Q hk;have hv:=hx S w a qe;simp only[aa] at hv
  have Bt:=hy S w a qe;simp only[aa] at Bt
  subst hi;have hsz:=run_sizeOf hn h0 w;obtain⟨info,hi1,hi2⟩:=dw hn h0 w;have hbytes:info.bytes=by_:=hi2.trans hb;have hw:IntKind.i64.wrap (n:Int)=(n:Int):=eM (cn (by omega) (by omega));have LA:¬((n:Int)<0):=by omega
  have Oi:=nextslicecap_le (need:=n) (cap:=0) (by omega);have hcapB:Builtin.nextslicecap n 0*by_≤281474976710656:=Nat.le_trans (Nat.mul_le_mul_right _ Oi) hroom;obtain⟨zv',hz1',hz2'⟩:=gH hz w.drew;obtain⟨info',hi1',hi2'⟩:=dw hn h0 w.drew;generalize y5:Question.cut (.appendCap n 0 E) (w.tape w.drawn (.appendCap n 0 E))=newCap;have hge:n≤newCap:=by rw[←y5];simp only[Question.cut];omega
  have hN0:0<N:=by simpa using h0
  have hnN:¬(n*N=0):=Nat.mul_ne_zero (by omega) (by omega)
  let row:Array Value:=Builtin.zeroCells zv'.cells n++Builtin.zeroCells zv'.cells (newCap-n)
  have hr:(execOp a.eval ⟨dst, .call ⟨.builtin .append, #[x,y], #[T,T']⟩,ty,pos,after,gd⟩).run P w= .ok (.value (.slice (some ⟨w.heap.size,0,none⟩) n newCap)) (w.drew.alloc (.cells row E)):=by
    have hnot:¬(n≤0):=by omega
    have hn0:¬(n=0):=by omega
    have aq5:¬(N=0):=by omega
    have wu:¬((9223372036854775807:Int)<(n:Int)):=by omega
    have y6:¬(281474976710656<Builtin.nextslicecap n 0*by_):=by omega
    have hnb:n*by_≤281474976710656:=Nat.le_trans (Nat.mul_le_mul_right _ (by omega)) hroom;have XS:¬((281474976710656:Int)<(n:Int)*(by_:Int)):=by rw[←Int.natCast_mul];omega
    have hvx2':(Builtin.firstCells N 0 (.slice none 0 0)).run P w.drew= .ok #[] w.drew:=by simp[Builtin.firstCells]
    simp[execOp,resolve,invoke,builtin,Builtin.append_,hv,Bt,run_underlying hT,run_underlying Og,hsz,asInt,asIntOf,hw,LA,hn0,aq5,wu,hi1,hbytes,y6,XS,hnN,Question.forced,y5,hi1',hvx2',hz1',newRow,row]
    done
  generalize hw':w.drew.alloc (.cells row E)=w' at hr;unfold Oper.wp;rw[hr];have hs1:kH c w.drew S F:=aH.grow (Grow.drew w S);have Ut:de hs F S w.drew:=(Grow.drew w S).yZ aH.bR aH.cq hown;subst hw';refine hk (w.heap.size,newCap) _ _ S _ trivial (hs1.eV _) (fun _ h=>h) (fun k hk=>bF w _ k (aH.bR k hk)) (Ut.eV aH.bR aH.cq _ ⟨rfl,Nat.zero_le _,by simp,row,E,by show(w.heap.push _)[w.heap.size]?=_;simp,?_,fun j q h=>by simp at h⟩) rfl;simp only[row,Array.size_append];have SN:∀m,(Builtin.zeroCells zv'.cells m).size=m*N:=fun m=>by rw[hz2'];simp[Builtin.zeroCells,hzl]
  rw[SN,SN,←Nat.add_mul,Nat.add_sub_cancel' hge]
theorem GN{b cap len N:Nat}{i:Int}(hT:P.underlying T=some (.slice E))(hn:P.cellsOf E=N)(h0:Nat.blt 0 N=true)(hx:bx env x (aa (bt (some (b,cap)) len)))(hy:bx env y (ag .i64 i))(hi:i=0):
    bp P hs env ⟨dst, .slice T x none (some y) none,ty,pos,after,gd⟩ (aa (bt (some (b,cap)) 0)):=
  bp.aL fun ρ w S F _ he=>by
    have hv:=he.o _ _ hx;have h2:=he.o _ _ hy;simp only[aa,bt] at hv h2
    subst hi;have hs:=run_sizeOf (T:=E) hn h0 w;refine⟨.slice (some ⟨b,0,none⟩) 0 cap,?_,rfl⟩;simp[execOp,hv,h2,Instr.sliceAt,Instr.slice,Instr.sliceBounds,Instr.sliceBound,asIntOf,run_underlying hT,hs,Addr.add]
def T3(l:List ay):List VP:=[ai 5 aK l]
instance:gZ 1 T3:=⟨fun _=>rfl,fun x q h=>by simp only[T3,List.mem_cons,List.not_mem_nil,or_false] at h;subst h;infer_instance⟩
theorem Qm{ats:Array TypeId}(wj:ats[0]?=some T)(hT:P.underlying T=some (.slice E))(hx:bx env x (aa (.slice none 0 0))):bp P hs env ⟨dst, .call ⟨.builtin .cap, #[x],ats⟩,ty,pos,after,gd⟩ (ag .i64 0):=
 bp.aL fun ρ w S F _ he=>by
  have hv:=he.o _ _ hx;simp only[aa] at hv
  exact⟨_,by simp[execOp,resolve,invoke,builtin,Builtin.cap_,wj,hv,run_underlying hT,goInt],rfl⟩
theorem tj{α:Type}{ls:List (List α)}{k:Nat}{l:List α}(h:ls[k]?=some l):(ls.take (k+1)).flatten=(ls.take k).flatten++l:=by
 rw[List.take_add_one,h];simp
theorem Cq{α:Type}(ls:List (List α))(k:Nat):(ls.take k).flatten.length≤ls.flatten.length:=by
 have h:(ls.take k).flatten++(ls.drop k).flatten=ls.flatten:=by rw[←List.flatten_append,List.take_append_drop]
 have:=congrArg List.length h;rw[List.length_append] at this;omega
end
section
variable {P:Program} {hs:List HP} {env:Env} {q:VP} {dst:Option Tmp} {ty T T' E:TypeId} {pos:String} {after:Array Edge} {gd:Option (Nat×Bool)} {x y z:Operand}
theorem GO{N:Nat}{i:Int}(hT:P.underlying T=some (.slice E))(hn:P.cellsOf E=N)(h0:Nat.blt 0 N=true)(hx:bx env x (aa (.slice none 0 0)))(hy:bx env y (ag .i64 i))(hi:i=0):
    bp P hs env ⟨dst, .slice T x none (some y) none,ty,pos,after,gd⟩ (aa (.slice none 0 0)):=
  bp.aL fun ρ w S F _ he=>by
    have hv:=he.o _ _ hx;have h2:=he.o _ _ hy;simp only[aa] at hv h2
    subst hi;have hs:=run_sizeOf (T:=E) hn h0 w;refine⟨.slice none 0 0,?_,rfl⟩;simp[execOp,hv,h2,Instr.sliceAt,Instr.slice,Instr.sliceBounds,Instr.sliceBound,asIntOf,run_underlying hT,hs]
end
def xfS(c:Int):Prop:=if c=172∨c=173 then c=172 else if c=192∨c=193 then True else if c=194∨c=195∨c=196 then True else False
instance (c:Int):Decidable (xfS c):=by unfold xfS;infer_instance
section
variable {l:List ay} {i:Nat}
theorem vQ{j:Nat}(h:j<l.length):l[j]?=some (gI l j):=by unfold gI;rw[List.getD_eq_getElem?_getD,List.getElem?_eq_getElem h];rfl
end
end Go.Hl
end
section
namespace Go.Proofs.YtpfobikpggmleaaGreatDoor
open Go.Hl Go.RowKit
theorem JF{n:Nat}(az:n≤65536):cv Tryz.prog 240 [aa (.slice none 0 0),ag .i64 (n:Int)] [] (γ:=SB) (fun _=>True) (fun g=>[av g 1 aj ([]:List UInt8)]) (fun g=>aa (bt g 0)):=by
 refine In 27 Tryz.func240 fun _ _ _=>?_;refine dN ?_;refine Cd (fun c0=>?_) fun c0=>?_
 ·
  exfalso;omega
 refine Z7 ?_;refine .p (Qm rfl Tryz.underlying95 (.t rfl)) rfl ?_;refine Z1 ?_;refine .p (Ew rfl Tryz.underlying95 (.le (.t rfl) (aI 1 aj))) rfl ?_;refine .p (jZ (.t rfl) (.t rfl) (cn (by simp<;>omega) (by simp<;>omega))) rfl ?_;refine .p ((jZ (.t rfl) (.t rfl) (cn (by simp<;>omega) (by simp<;>omega))).le (af.int (show _=(n:Int) by simp))) rfl ?_;refine Z9 ?_;refine Cd (fun c1=>?_) fun c1=>?_
 ·
  refine Z3 ?_;refine .p (Qm rfl Tryz.underlying95 (.t rfl)) rfl ?_;refine .p (GO FU.out FC.out rfl (.t rfl) (.t rfl) rfl) rfl ?_;refine Z1 ?_;refine .n (JE (α:=UInt8) (N:=1) (enc:=aj) FU.out FU.out FC.out rfl FZ.out rfl FY.out (.t rfl) (.t rfl) rfl (by omega) (by omega) (by omega)) rfl fun g22 _=>?_;refine Z1 ?_;refine .p (Ew rfl Tryz.underlying95 (.le (.t rfl) (aI 1 aj))) rfl ?_;refine .p (GN FU.out FC.out rfl (.t rfl) (.t rfl) rfl) rfl ?_;refine cD ?_;refine Post.aR rfl (some g22) (by trivial) (fun _ _ _ h=>h) (.rt rfl) ?_;exact af.refl _
 have hn0:n=0:=by omega
 refine .eC (α:=UInt8) 1 aj ?_;refine Z9 ?_;refine Post.aR rfl (none) (by trivial) (fun _ _ _ h=>h) (.rt rfl) ?_;exact af.refl _
theorem DQ{ls:List (List UInt8)}(az:ls.flatten.length≤65536):cQ Tryz.prog 226 [ai 1 dV ls] (ai 1 aj (ls.flatten)):=by
 refine In 36 Tryz.func226 fun _ _ _=>?_;refine .fact (t:=0) rfl (fun S w v h=>bn h) fun qY=>?_;refine Ek ?_;refine .aS (σ:=Nat) (fun _=>[]) (fun k=>[(11,ag .i64 (k:Int)),(3,ag .i64 ((ls.take k).flatten.length:Int))]) (fun k=>k≤ls.length) (fun k=>ls.length-k) 0 (Nat.zero_le _) rfl ?_ ?_
 · exact(.get rfl (af.refl _) (.get rfl (af.int (by simp)) (.refl _ _)))
 rintro k hk;refine Z6 ?_;refine Cd (fun c0=>?_) fun c0=>?_
 ·
  obtain⟨l,hx⟩:=ah (xs:=ls) (k:=k) (by omega);have hfp:=Cq ls (k+1);have hfl:(ls.take (k+1)).flatten.length=(ls.take k).flatten.length+l.length:=by rw[tj hx,List.length_append]
  refine Z6 ?_;refine .p (cI k (h:=hx)) rfl ?_;refine Ek ?_;refine Cd (fun c1=>?_) fun c1=>?_
  ·
   exfalso;omega
  refine Z7 ?_;refine .round (k+1) (by omega) (by omega) rfl ?_;exact(.get rfl (af.int (by(show(k:Int)+1=((k+1:Nat):Int);omega))) (.get rfl (af.int (by omega)) ((.keep 15 rfl rfl))))
 have HJ:ls.take k=ls:=List.take_of_length_le (by omega);rw[HJ];refine Z8 ?_;refine .n (cE (h:=JF az)) rfl fun g24 Hy=>?_;refine dN ?_;refine .aS (σ:=SB×Nat) (fun g=>[av g.1 1 aj (ls.take g.2).flatten]) (fun g=>[(6,aa (bt g.1 (ls.take g.2).flatten.length)),(27,ag .i64 (g.2:Int))]) (fun g=>g.2≤ls.length) (fun g=>ls.length-g.2) (g24,0) (Nat.zero_le _) rfl ?_ ?_
 · exact(.get rfl (af.refl _) (.get rfl (af.refl _) (.refl _ _)))
 rintro⟨sb,j⟩ hj;simp only at hj ⊢;refine Z6 ?_;refine Cd (fun c2=>?_) fun c2=>?_
 ·
  obtain⟨m,hy⟩:=ah (xs:=ls) (k:=j) (by omega);have hfq:=Cq ls (j+1);have CL:(ls.take (j+1)).flatten.length=(ls.take j).flatten.length+m.length:=by rw[tj hy,List.length_append]
  refine Z6 ?_;refine .p (cI j (h:=hy)) rfl ?_;refine Z7 ?_;refine .n (aF (i:=0) (xs:=(ls.take j).flatten) (ys:=m) FU.out FU.out FC.out rfl FZ.out rfl FY.out (.t rfl) (.t rfl) rfl (by omega) (by omega)) rfl fun g33 _=>?_;refine Z8 ?_;refine .round (g33,j+1) (by show j+1≤_;omega) (by(show ls.length-(j+1)<ls.length-j;omega)) (by simp only[tj hy];rfl) ?_;exact(.get rfl (af.of_eq (by simp only[tj hy])) (.get rfl (af.int (by(show(j:Int)+1=((j+1:Nat):Int);omega))) ((.keep 12 rfl rfl))))
 have hjl:ls.take j=ls:=List.take_of_length_le (by omega);rw[hjl];refine .eB (t:=6) (i:=0) rfl rfl ?_;refine dN ?_;refine bB ?_;exact af.refl _
end Go.Proofs.YtpfobikpggmleaaGreatDoor
end
