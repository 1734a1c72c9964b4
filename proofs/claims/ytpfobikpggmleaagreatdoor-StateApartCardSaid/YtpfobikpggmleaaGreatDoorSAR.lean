/-
  What the statement's proof leans on, several texts in one (packed by a program).
-/
import Derived.Test.YtpfobikpggmleaaGreatDoorSAQ
import Derived.Shelf.SlSortCmp.WholeK
import Derived.Ground.SlsfProg
import Derived.Ground.NamesProg
set_option linter.all false
set_option maxRecDepth 1000000
set_option maxHeartbeats 4000000
section
namespace Go.Proofs
open Go.Shelf Go.RowKit Go.Lib Go.Sort
def Tryz.Gf:Go.Shelf.Ren:=⟨fun|6=>125|15=>144|14=>143|28=>184|29=>185|20=>176|21=>177|22=>178|23=>179|24=>180|25=>181|26=>182|27=>183|46=>216|47=>217|48=>218|49=>219|50=>220|57=>236|n=>n,fun|22=>235|24=>137|25=>263|3=>3|39=>282|0=>0|53=>222|55=>58|4=>4|46=>312|45=>311|50=>71|5=>5|9=>9|66=>346|70=>350|76=>369|77=>370|n=>n,fun|n=>n⟩
theorem Tryz.RO:Go.Proofs.SlLaysF0.n6 Tryz.prog Tryz.Gf:={
 mixed:=by kernel_rfl
 f6:=⟨Tryz.f125.name,by decide,Tryz.func125.trans (congrArg some (by kernel_rfl))⟩
 f14:=⟨Tryz.f143.name,by decide,Tryz.func143.trans (congrArg some (by kernel_rfl))⟩
 f15:=Tryz.func144.trans (congrArg some (by kernel_rfl))
 f20:=⟨Tryz.f176.name,by decide,Tryz.func176.trans (congrArg some (by kernel_rfl))⟩
 f21:=⟨Tryz.f177.name,by decide,Tryz.func177.trans (congrArg some (by kernel_rfl))⟩
 f22:=⟨Tryz.f178.name,by decide,Tryz.func178.trans (congrArg some (by kernel_rfl))⟩
 f23:=⟨Tryz.f179.name,by decide,Tryz.func179.trans (congrArg some (by kernel_rfl))⟩
 f24:=⟨Tryz.f180.name,by decide,Tryz.func180.trans (congrArg some (by kernel_rfl))⟩
 f25:=⟨Tryz.f181.name,by decide,Tryz.func181.trans (congrArg some (by kernel_rfl))⟩
 f26:=⟨Tryz.f182.name,by decide,Tryz.func182.trans (congrArg some (by kernel_rfl))⟩
 f27:=⟨Tryz.f183.name,by decide,Tryz.func183.trans (congrArg some (by kernel_rfl))⟩
 f28:=Tryz.func184.trans (congrArg some (by kernel_rfl))
 f29:=Tryz.func185.trans (congrArg some (by kernel_rfl))
 f46:=⟨Tryz.f216.name,by decide,Tryz.func216.trans (congrArg some (by kernel_rfl))⟩
 f47:=Tryz.func217.trans (congrArg some (by kernel_rfl))
 f48:=Tryz.func218.trans (congrArg some (by kernel_rfl))
 f49:=⟨Tryz.f219.name,by decide,Tryz.func219.trans (congrArg some (by kernel_rfl))⟩
 f50:=⟨Tryz.f220.name,by decide,Tryz.func220.trans (congrArg some (by kernel_rfl))⟩
 f57:=⟨Tryz.f236.name,by decide,Tryz.func236.trans (congrArg some (by kernel_rfl))⟩
 t0:=Tryz.underlying0
 a0:=Tryz.isAgg0
 z0:=Tryz.sizeOf0
 v0:=Tryz.zeroValue0
 t3:=Tryz.underlying3
 a3:=Tryz.isAgg3
 z3:=Tryz.sizeOf3
 v3:=Tryz.zeroValue3
 t4:=Tryz.underlying4
 a4:=Tryz.isAgg4
 z4:=Tryz.sizeOf4
 v4:=Tryz.zeroValue4
 t5:=Tryz.underlying5
 a5:=Tryz.isAgg5
 z5:=Tryz.sizeOf5
 v5:=Tryz.zeroValue5
 t9:=Tryz.underlying9
 a9:=Tryz.isAgg9
 z9:=Tryz.sizeOf9
 v9:=Tryz.zeroValue9
 t22:=Tryz.underlying235
 a22:=Tryz.isAgg235
 z22:=Tryz.sizeOf235
 v22:=Tryz.zeroValue235
 t25:=Tryz.underlying263
 a25:=Tryz.isAgg263
 z25:=Tryz.sizeOf263
 v25:=Tryz.zeroValue263
 t39:=Tryz.underlying282
 a39:=Tryz.isAgg282
 z39:=Tryz.sizeOf282
 v39:=Tryz.zeroValue282
 t45:=Tryz.underlying311
 a45:=Tryz.isAgg311
 z45:=Tryz.sizeOf311
 v45:=Tryz.zeroValue311
 t46:=Tryz.underlying312
 a46:=Tryz.isAgg312
 z46:=Tryz.sizeOf312
 v46:=Tryz.zeroValue312
 t50:=Tryz.underlying71
 a50:=Tryz.isAgg71
 z50:=Tryz.sizeOf71
 v50:=Tryz.zeroValue71
 t53:=Tryz.underlying222
 a53:=Tryz.isAgg222
 z53:=Tryz.sizeOf222
 v53:=Tryz.zeroValue222
 t55:=Tryz.underlying58
 a55:=Tryz.isAgg58
 z55:=Tryz.sizeOf58
 v55:=Tryz.zeroValue58
 t66:=Tryz.underlying346
 a66:=Tryz.isAgg346
 z66:=Tryz.sizeOf346
 v66:=Tryz.zeroValue346
 t70:=Tryz.underlying350
 a70:=Tryz.isAgg350
 z70:=Tryz.sizeOf350
 v70:=Tryz.zeroValue350
 t76:=Tryz.underlying369
 a76:=Tryz.isAgg369
 z76:=Tryz.sizeOf369
 v76:=Tryz.zeroValue369
 t77:=Tryz.underlying370
 a77:=Tryz.isAgg370
 z77:=Tryz.sizeOf370
 v77:=Tryz.zeroValue370}
def rC:Type:={e:Hl.bA×List Value//(0≤e.1.2∧e.1.2≤9223372036854775807)∧e.2.length=2∧e.2[1]?=some (.int .i64 e.1.2)∧∀v∈e.2,v.oneCell'=true}
instance:Inhabited rC:=⟨⟨((0,0),[.int .i64 0, .int .i64 0]),⟨by simp,by simp⟩,rfl,rfl,by simp [Value.oneCell']⟩⟩
def rC.enc (x:rC):List Value:=x.1.2
def rC.cf (x y:rC):Int:=x.1.1.2-y.1.1.2
theorem rC.lt (x y:rC):ltOf rC.cf x y=decide (x.1.1.2<y.1.1.2):=by
 unfold ltOf rC.cf
 rw [Bool.eq_iff_iff];simp;omega
theorem rC.swo:SWO (ltOf rC.cf) where
 irrefl x:=by rw [rC.lt];simp
 trans x y z h1 h2:=by rw [rC.lt] at*;simp at*;omega
 ntrans x y z h1 h2:=by rw [rC.lt] at*;simp at*;omega
theorem Tryz.Ul (x1 x2 y1 y2:Value) (a b:Int) (h1:x2= .int .i64 a) (h2:y2= .int .i64 b) (ha:0≤a∧a≤9223372036854775807) (hb:0≤b∧b≤9223372036854775807) (W:World):
    Calls Tryz.prog 126 #[.agg #[x1,x2], .agg #[y1,y2]] W fun e w'=>e= .returned (.int .i64 (a-b))∧∃q os',w'=grow (W.drewN q) os':=by
  subst h1;subst h2
  obtain ⟨ha1,ha2⟩:=ha
  obtain ⟨zh,Pp⟩:=hb
  go_enter Tryz.func126,Tryz.ntmps126
  go_wp2
  go_ret
  exact ⟨rfl,0,_,by rw [alloc_eq_grow,alloc_eq_grow,grow_grow];rfl⟩
theorem rC.al7 (blk off size:Nat) (w:World):CmpLays Tryz.prog 126 #[] rC.enc 2 rC.cf blk off size w:=fun m os dk hs x y=>by
 obtain ⟨⟨ex,vx⟩,⟨hx1,hx2⟩,Um,hx4,hx5⟩:=x
 obtain ⟨⟨ey,vy⟩,⟨hy1,hy2⟩,S6,S7,hy5⟩:=y
 simp only at hx1 hx2 Um hx4 hx5 hy1 hy2 S6 S7 hy5
 match vx,Um,hx4,vy,S6,S7 with
 |[x1,x2],_,hx4,[y1,y2],_,S7=>
  exact Tryz.Ul x1 x2 y1 y2 ex.2 ey.2 (by simpa using hx4) (by simpa using S7) ⟨hx1,hx2⟩ ⟨hy1,hy2⟩ _
namespace YtpfobikpggmleaaGreatDoor
open Go.Hl
theorem Az {xs:List bA} {b cap:Nat} (hr:∀x∈xs,0≤x.2∧x.2≤9223372036854775807):
    cw Tryz.prog 125 [aa (bq (some (b,cap)) xs.length),aa (.func (.func 126) #[] #[])] [au (some (b,cap)) 2 rA xs] (γ:=List bA) (fun ys=>ys.Perm xs)
      (fun ys=>[au (some (b,cap)) 2 rA ys]) (fun _=>bD []):=by
  intro w S F vs hS hF hSF hown hall
  obtain ⟨F1,F2,qn,xC,Cp,_⟩:=hown
  obtain ⟨hFb,hlc,hlm,arr,T,hh,hn,hc⟩:=Cp
  have hvs:vs= #[.slice (some ⟨b,0,none⟩) xs.length cap, .func (.func 126) #[] #[]]:=by
    obtain ⟨h1,h2⟩:=hall
    obtain ⟨l⟩:=vs
    match l,h1,h2 with
    | [u,v],_,h2=>
      have e1:=h2 0 _ u rfl rfl;simp only [aa] at e1
      have e2:=h2 1 _ v rfl rfl;simp only [aa] at e2
      rw [e1,e2];rfl
  subst hvs
  have S8:∀x:bA,(rA x).length=2:=fun _=>rfl
  obtain ⟨ds,GZ,hds⟩:=qh (p:=fun i (e:rC)=>xs[i]?=some e.1.1∧gN (rA e.1.1) S w e.1.2∧∀j,j<2→arr[i*2+j]?=e.1.2[j]?) xs.length (fun i hi=>by
    have hx:xs[i]?=some xs[i]:=List.getElem?_eq_getElem hi
    have hcell:∀j q,(rA xs[i])[j]?=some q→∃u,arr[i*2+j]?=some u∧q.p S w u:=fun j q hj=>hc _ q (nu S8 xs i _ j q hx hj)
    obtain ⟨u0,h0,q0⟩:=hcell 0 _ rfl
    obtain ⟨u1,h1,q1⟩:=hcell 1 _ rfl
    refine ⟨⟨(xs[i],[u0,u1]),hr _ (List.getElem_mem hi),rfl,by simpa [aa] using q1,fun v hv=> ?_⟩,hx, ?_,fun j hj=> ?_⟩
    · simp only [List.mem_cons,List.not_mem_nil,or_false] at hv
      rcases hv with rfl|rfl
      · exact (Flat.flat q0).2
      · exact (Flat.flat q1).2
    · exact (gN.one q0).cat (gN.one q1)
    · match j,hj with
      |0,_=>exact h0
      |1,_=>exact h1)
  have hdx:∀i (hi:i<ds.length),xs[i]?=some ds[i].1.1∧gN (rA ds[i].1.1) S w ds[i].1.2∧∀j,j<2→arr[i*2+j]?=ds[i].1.2[j]?:=fun i hi=>hds i _ (List.getElem?_eq_getElem hi)
  have hxd:xs=ds.map (·.1.1):=List.ext_getElem? fun i=>by
    by_cases hi:i<ds.length
    · rw [(hdx i hi).1,List.getElem?_map,List.getElem?_eq_getElem hi];rfl
    · rw [List.getElem?_eq_none (by omega),List.getElem?_eq_none (by simp;omega)]
  have hEl:∀x:rC,(rC.enc x).length=2:=fun x=>x.2.2.1
  have hH:HoldsK rC.enc 2 w b 0 ds.toArray:=fun t ht=>by
    have ht':t<ds.length*2:=by simpa using ht
    have hi:t/2<ds.length:=by omega
    have h5:=(hdx _ hi).2.2 (t%2) (by omega)
    rw [show t/2*2+t%2=t by omega] at h5
    rw [get_flatK _ _ _ t (by simpa using ht)]
    have e1:ds.toArray[t/2]! =ds[t/2]:=by simp [hi]
    rw [e1]
    have hlt:t%2<(rC.enc ds[t/2]).length:=by rw [hEl];omega
    refine ⟨?_, ?_⟩
    · simp only [World.cell?,hh,Nat.zero_add]
      rw [h5]
      show (rC.enc ds[t/2])[t%2]?=some (id ((rC.enc ds[t/2])[t%2]!))
      rw [getElem!_pos (rC.enc ds[t/2]) (t%2) hlt]
      exact List.getElem?_eq_getElem hlt
    · simp [World.frozen?,hh]
  have Ve:b<w.heap.size:=hF b (qn b hFb).1
  have hcall:=AnyQ.slices_SortFunc Tryz.RO 2 Tryz.isAgg137 Tryz.sizeOf137 rC.enc hEl (fun x v hv=>x.2.2.2.2 v hv) rC.cf rC.swo 126 #[] b 0 cap ds.toArray w
    (enters_of Tryz.func126 (by kernel_rfl) rfl) (rC.al7 _ _ _ _) hH Ve (by simp;omega)
  change Calls Tryz.prog 125 _ _ _ at hcall
  have hsz:ds.toArray.size=xs.length:=by simpa using GZ
  rw [hsz] at hcall
  refine hcall.mono ?_
  rintro e w' ⟨rfl,d',n,os,hp,hso,rfl⟩
  obtain ⟨hp1,_,fI⟩:=hp
  have hd'l:d'.size=xs.length:=by rw [hp1];exact hsz
  have hperm:d'.toList.Perm ds:=by
    have hx:∀a:Array rC,a.size=xs.length→a.extract 0 xs.length=a:=fun a ha=>by rw [←ha];simp
    have:=fI
    rw [hx _ hd'l,hx _ hsz] at this
    exact this
  have hmem:∀x∈d'.toList,gN (rA x.1.1) S w x.1.2:=fun x hx=>by
    obtain ⟨i,hi,rfl⟩:=List.mem_iff_getElem.1 (hperm.mem_iff.1 hx)
    exact (hdx i hi).2.1
  have hne:∀k,k<w.heap.size→k≠b→(sortWorldK rC.enc 2 w b 0 n d' os).heap[k]?=w.heap[k]?:=fun k hk hkb=>by
    simp only [sortWorldK,putRowK,putRow,mapBlock,grow]
    rw [Array.getElem?_append_left (by simpa using hk),Array.getElem?_modify,if_neg (fun h=>hkb h.symm)];rfl
  have hagS:∀k,S k→(sortWorldK rC.enc 2 w b 0 n d' os).heap[k]?=w.heap[k]?:=fun k hk=>hne k (hS k hk) (fun e=>hSF k hk (e▸(qn b hFb).1))
  refine ⟨_,S,F,d'.toList.map (·.1.1),rfl,⟨rfl,rfl,rfl, ?_,fun k hk hm=>hne k hk (fun e=>hm (e▸(qn b hFb).1)),hSF,fun k hk=> ?_,fun k hk=> ?_,fun k hk=> .inl hk,fun k hk=> .inl hk,fun _ h=>h⟩, ?_, ?_,⟨#[],rfl,rfl,fun j p v hj=>by simp at hj⟩⟩
  · simp [sortWorldK,putRowK,putRow,mapBlock,grow]
  · have:=hS k hk;simp [sortWorldK,putRowK,putRow,mapBlock,grow];omega
  · have:=hF k hk;simp [sortWorldK,putRowK,putRow,mapBlock,grow];omega
  · rw [hxd];exact hperm.map _
  · refine ⟨F1,F2,qn,xC,⟨hFb,by simp;omega,by simp;omega,putCells id 0 (flatK rC.enc 2 d') arr,T, ?_,by simp [putCells,hn],fun j q hj=> ?_⟩,trivial⟩
    · simp only [sortWorldK,putRowK,putRow,mapBlock,grow]
      rw [Array.getElem?_append_left (by simpa using Ve),Array.getElem?_modify,if_pos rfl]
      show Option.map _ w.heap[b]?=_
      rw [hh];rfl
    · obtain ⟨x,hx,hxj⟩:=rF S8 (by omega) _ j q hj
      rw [List.getElem?_map] at hx
      cases hdj:d'.toList[j/2]? with
      |none=>rw [hdj] at hx;cases hx
      | some e=>
        rw [hdj] at hx;cases hx
        have hi:=(List.getElem?_eq_some_iff.1 hdj).1
        have he:=(List.getElem?_eq_some_iff.1 hdj).2
        simp only [Array.length_toList] at hi
        have hA:=hmem e (List.mem_of_getElem? hdj)
        have hj5:j%2<e.1.2.length:=by rw [e.2.2.1];omega
        have hq:=hA.2 (j%2) q _ hxj (List.getElem?_eq_getElem hj5)
        refine ⟨e.1.2[j%2], ?_,q.mono (fun _ h=>h) hagS hq⟩
        have Qd:j<d'.size*2:=by omega
        have hja:j<arr.size:=by rw [hn];omega
        rw [putCells,Array.getElem?_mapIdx,Array.getElem?_eq_getElem hja]
        simp only [Option.map_some,Nat.zero_le,true_and,Nat.zero_add,Nat.sub_zero,size_flatK,if_pos Qd,id]
        rw [get_flatK _ _ _ j Qd,getElem!_pos d' (j/2) hi]
        have hee:d'[j/2]=e:=by simpa using he
        rw [hee]
        show some ((rC.enc e)[j%2]!)=_
        rw [getElem!_pos (rC.enc e) (j%2) (show j%2<(rC.enc e).length from hj5)]
        rfl
end YtpfobikpggmleaaGreatDoor
end Go.Proofs
end
section
namespace Go.Proofs.YtpfobikpggmleaaGreatDoor
open Go.Hl Go.RowKit
variable {fv:Value}
theorem Mq:cw Tryz.prog 176 [ai 2 rA ([]:List bA),aS 0,aS 0,aa fv] [] (γ:=Unit) (fun _=>True) (fun _=>[]) (fun _=>bD []):=by
 refine In 53 Tryz.func176 fun _ _ _=> ?_
 refine Z8 ?_
 refine .aT (σ:=Unit) (fun _=>[]) (fun _=>[]) (fun _=>True) (fun _=>0) () trivial rfl ?_ ?_
 · exact (.refl _ _)
 rintro _ _
 refine Z8 ?_
 refine Cd (fun c0=> ?_) fun c0=> ?_
 · exfalso;omega
 refine Z4 ?_
 refine Post.ij rfl (()) (by trivial) (fun _ _ _ h=>h) rfl
theorem Mr:cw Tryz.prog 143 [ai 2 rA ([]:List bA),aS 0,aS 0,aS 0,aa fv] [] (γ:=Unit) (fun _=>True) (fun _=>[]) (fun _=>bD []):=by
 refine In 148 Tryz.func143 fun _ _ _=> ?_
 refine cT ?_
 refine .aT (σ:=Unit) (fun _=>[]) (fun _=>[]) (fun _=>True) (fun _=>0) () trivial rfl ?_ ?_
 · exact (.refl _ _)
 rintro _ _
 refine D0 ?_
 refine Cd (fun c0=> ?_) fun c0=> ?_
 ·
  refine Z6 ?_
  refine .p (cA (h:=Mq)) rfl ?_
  refine Z7 ?_
  refine Post.TI rfl (()) (by trivial) (fun _ _ _ h=>h) rfl
 exfalso;omega
theorem Gg:cW Tryz.prog 185 [ag .u64 0] (aS 0):=by
 refine In 25 Tryz.func185 fun _ _ _=> ?_
 have VZ:(0:UInt8).toNat=0:=rfl
 refine dM ?_
 refine Cd (fun c0=> ?_) fun c0=> ?_
 · exfalso;omega
 refine Z9 ?_
 refine Cd (fun c1=> ?_) fun c1=> ?_
 · exfalso;omega
 refine Z9 ?_
 refine Cd (fun c2=> ?_) fun c2=> ?_
 · exfalso;omega
 refine Z7 ?_
 refine .p (jO FU.out (.s [0,1,2,2,3,3,3,3,4,4,4,4,4,4,4,4,5,5,5,5,5,5,5,5,5,5,5,5,5,5,5,5,6,6,6,6,6,6,6,6,6,6,6,6,6,6,6,6,6,6,6,6,6,6,6,6,6,6,6,6,6,6,6,6,7,7,7,7,7,7,7,7,7,7,7,7,7,7,7,7,7,7,7,7,7,7,7,7,7,7,7,7,7,7,7,7,7,7,7,7,7,7,7,7,7,7,7,7,7,7,7,7,7,7,7,7,7,7,7,7,7,7,7,7,7,7,7,7,8,8,8,8,8,8,8,8,8,8,8,8,8,8,8,8,8,8,8,8,8,8,8,8,8,8,8,8,8,8,8,8,8,8,8,8,8,8,8,8,8,8,8,8,8,8,8,8,8,8,8,8,8,8,8,8,8,8,8,8,8,8,8,8,8,8,8,8,8,8,8,8,8,8,8,8,8,8,8,8,8,8,8,8,8,8,8,8,8,8,8,8,8,8,8,8,8,8,8,8,8,8,8,8,8,8,8,8,8,8,8,8,8,8,8,8,8,8,8,8,8,8,8,8,8,8,8,8] rfl rfl) (.t rfl) (show (0:Int)=((0:Nat):Int) from rfl) (e:=0) rfl) rfl ?_
 refine Z6 ?_
 refine bL ?_
 exact af.int (by decide)
theorem Ms:cW Tryz.prog 144 [ag .u64 0] (aS 0):=by
 refine In 8 Tryz.func144 fun _ _ _=> ?_
 refine Z6 ?_
 refine Cd (fun c0=> ?_) fun c0=> ?_
 · exact c0.elim
 refine Z5 ?_
 refine .p (cA (h:=Gg)) rfl ?_
 refine Z4 ?_
 refine bL ?_
 exact af.refl _
theorem IX:cw Tryz.prog 125 [ai 2 rA ([]:List bA),aa fv] [] (γ:=Unit) (fun _=>True) (fun _=>[]) (fun _=>bD []):=by
 refine In 14 Tryz.func125 fun _ _ _=> ?_
 refine cT ?_
 refine .p (eP FU.out FU.out (.t rfl)) rfl ?_
 refine .p (cA (h:=Ms)) rfl ?_
 refine Z1 ?_
 refine .p (cA (h:=Mr)) rfl ?_
 refine Z1 ?_
 refine Post.ij rfl (()) (by trivial) (fun _ _ _ h=>h) rfl
end Go.Proofs.YtpfobikpggmleaaGreatDoor
end
section
namespace Go.Proofs.YtpfobikpggmleaaGreatDoor
open Go.Hl
theorem Ba {g:SB} {xs:List bA} (hr:∀x∈xs,0≤x.2∧x.2≤9223372036854775807):
    cw Tryz.prog 125 [aa (bq g xs.length),aa (.func (.func 126) #[] #[])] [au g 2 rA xs] (γ:=List bA) (fun ys=>ys.Perm xs) (fun ys=>[au g 2 rA ys]) (fun _=>bD []):=by
  cases g with
  |some p=>obtain ⟨b,cap⟩:=p;exact Az hr
  | none=>
    intro w S F vs hS hF hSF hown hall
    obtain ⟨F1,F2,f1,f2,hx,_⟩:=hown
    have hx':xs=[]:=hx
    subst hx'
    refine (IX (fv:= .func (.func 126) #[] #[]) w S F vs hS hF hSF trivial ⟨hall.1,fun j p v hj hv=> ?_⟩).mono ?_
    · match j,hj with
      |0,hj=>simp at hj;subst hj;exact aG _ _ _ _ _ (hall.2 0 _ v rfl hv)
      |1,hj=>exact hall.2 1 p v hj hv
    · rintro e w' ⟨v,S',F',u,he,hs,_,_,hq⟩
      exact ⟨v,S',F',[],he,hs,List.Perm.refl _,⟨fun _=>False,F',fun _ h=>h.elim,fun _ h=>h,rfl,trivial⟩,hq⟩
end Go.Proofs.YtpfobikpggmleaaGreatDoor
end
section
namespace Go.Hl
theorem Pq {a:bA}:af (aa (xF a)) (aC [aS a.1,aS a.2]):=fun S w v h=>by
 simp only [aa] at h
 refine ⟨_,h,rfl,fun j q hj=> ?_⟩
 match j,hj with
 |0,hj=>simp at hj;subst hj;exact ⟨_,rfl,rfl⟩
 |1,hj=>simp at hj;subst hj;exact ⟨_,rfl,rfl⟩
def fT (D:List (bA×Int)) (mem:Int) (seen:List Nat):List bA:=seen.filterMap fun j=>(D[j]?).bind fun p=>if p.1.1=mem then some p.1 else none
variable {mem:Int} {seen:List Nat} {j:Nat}
theorem vE {D:List (bA×Int)} {p:bA×Int} (h:D[j]?=some p) (hm:p.1.1=mem):fT D mem (seen++[j])=fT D mem seen++[p.1]:=by
 unfold fT
 rw [List.filterMap_append]
 simp [h,hm]
theorem xZ {D:List (bA×Int)} {p:bA×Int} (h:D[j]?=some p) (hm:¬p.1.1=mem):fT D mem (seen++[j])=fT D mem seen:=by
 unfold fT
 rw [List.filterMap_append]
 simp [h,hm]
theorem Du {D:List (bA×Int)} (hn:(D.map (·.1)).Nodup) (hall:∀j,j<D.length→j∈seen) (k:bA):k∈fT D mem seen↔k.1=mem∧∃id,ak D k=some id:=by
 unfold fT
 rw [List.mem_filterMap]
 constructor
 · rintro ⟨j,_,h⟩
   cases hj:D[j]? with
   |none=>rw [hj] at h;cases h
   |some p=>
    rw [hj] at h
    simp only [Option.bind_some] at h
    split at h
    · rename_i hm
      cases h
      exact ⟨hm,p.2,uU hn (List.mem_of_getElem? hj)⟩
    · cases h
 · rintro ⟨hm,id,hid⟩
   obtain ⟨j,hj⟩:=List.mem_iff_getElem?.1 (tS hid)
   exact ⟨j,hall j (List.getElem?_eq_some_iff.1 hj).1,by rw [hj];simp [hm]⟩
theorem Pr {n:Nat} (hn:seen.Nodup) (h:∀j∈seen,j<n):seen.length≤n:=by
 have:=CE (m:=List.range n) hn fun x hx=>List.mem_range.2 (h x hx)
 simpa using this
theorem Dv (D:List (bA×Int)) (mem:Int) (seen:List Nat):(fT D mem seen).length≤seen.length:=List.length_filterMap_le _ _
theorem ux (h:seen.Nodup) (hj:j∉seen):(seen++[j]).Nodup:=by
 rw [List.nodup_append]
 exact ⟨h,by simp,fun a ha b hb e=>by simp at hb;subst hb;subst e;exact hj ha⟩
def x4 (z:Nat) (C:Cont) (mem:Int):Cont:=if fq z (mem,0) 0 0=0 then fun k=>if k.1=mem then List.replicate z 0 else C k else C
structure tF (X:tq) (p0:jP) (a:dX) (s:jT) (C:Cont) (D:List bA) (mem:Int) (p:jP) (C1:Cont) (i:Nat):Prop where
 inv:Inv X p a s C1 D
 bm:p.bm=p0.bm
 out:∀k:bA,k.1≠mem→C1 k=C k
 le:i≤X.n
 fr:∀(j:Nat) (f:Fr),j<i→p.l[j]?=some f→f.used=true→f.k.1≠mem
variable {X:tq} {p:jP} {a:dX} {s:jT} {C:Cont} {D:List bA} {p0:jP} {C1:Cont} {i:Nat}
theorem tF.yes {fr:Fr} (h:tF X p0 a s C D mem p C1 i) (hi:p.l[i]?=some fr) (hu:fr.used=true) (hm:fr.k.1=mem):
    tF X p0 a s C D mem {p with l:=p.l.set i ⟨fr.at_,(0,0),false,false,false⟩,nY:=fG p.nY fr.k} (iq C1 fr.k (wA p s fr.k)) (i+1):=by
  refine ⟨h.inv.Wt hi hu,h.bm,fun k hk=> ?_, ?_,fun j f hj Un uG=> ?_⟩
  · unfold iq;rw [if_neg (fun e=>hk ((congrArg Prod.fst e).trans hm))];exact h.out k hk
  · have:=(List.getElem?_eq_some_iff.1 hi).1;have:=h.inv.ok.n;omega
  · rcases jC Un with ⟨rfl,rfl⟩|⟨hne,Un⟩
    · cases uG
    · exact h.fr j f (by omega) Un uG
theorem tF.no {fr:Fr} (h:tF X p0 a s C D mem p C1 i) (hi:p.l[i]?=some fr) (hu:¬(fr.used=true∧fr.k.1=mem)):tF X p0 a s C D mem p C1 (i+1):=by
 refine ⟨h.inv,h.bm,h.out, ?_,fun j f hj Un uG=> ?_⟩
 · have:=(List.getElem?_eq_some_iff.1 hi).1;have:=h.inv.ok.n;omega
 · by_cases e:j=i
   · subst e;rw [hi] at Un;cases Un;exact fun hm=>hu ⟨uG,hm⟩
   · exact h.fr j f (by omega) Un uG
structure AA (X:tq) (a:dX) (s0:jT) (C:Cont) (D:List bA) (mem:Int) (l:List bA) (p:jP) (s:jT) (C2:Cont) (i:Nat):Prop where
 inv:Inv X p a s C2 D
 size:s.size=s0.size
 cap:s.cap=s0.cap
 out:∀k:bA,k.1≠mem→C2 k=C k
 fr:∀k:bA,k.1=mem→ak p.nY k=none
 bm:∀(k:bA) (id:Int),ak p.bm k=some id→k.1=mem→k∈l.drop i
 le:i≤l.length
variable {l:List bA}
theorem tF.done (h:tF X p0 a s C D mem p C1 X.n) (hl:∀k,k∈l↔k.1=mem∧∃id,ak p.bm k=some id):AA X a s C D mem l p s C1 0:=by
 refine ⟨h.inv,rfl,rfl,h.out,fun k hk=> ?_,fun k id hb hk=>by rw [List.drop_zero];exact (hl k).2 ⟨hk,id,hb⟩,Nat.zero_le _⟩
 cases hq:ak p.nY k with
 |none=>rfl
 |some v=>
  obtain ⟨j,f,_,hj,hu,AQ⟩:=h.inv.TR k v hq
  have:=(List.getElem?_eq_some_iff.1 hj).1
  exact absurd (AQ▸hk) (h.fr j f (by have:=h.inv.ok.n;omega) hj hu)
theorem AA.step {s0:jT} {C2:Cont} {k:bA} (h:AA X a s0 C D mem l p s C2 i) (hk:l[i]?=some k) (hm:k.1=mem) {g:jP×jT×Nat} (hg:g=j6 p s k):
    g.2.2=0∧AA X a s0 C D mem l g.1 g.2.1 (iq C2 k (List.replicate s.size 0)) (i+1)∧g.1.l=p.l∧g.1.nY=p.nY:=by
  obtain ⟨h1,h2,h3,h4,h5,h6,h7⟩:=h.inv.free (h.fr k hm) hg
  refine ⟨h1,⟨h2,h3.trans h.size,h7.trans h.cap,fun k' hk'=> ?_,fun k' hk'=>by rw [h5];exact h.fr k' hk',fun k' id hb hk'=> ?_,(List.getElem?_eq_some_iff.1 hk).1⟩,h4,h5⟩
  · unfold iq;rw [if_neg (fun e=>hk' ((congrArg Prod.fst e).trans hm))];exact h.out k' hk'
  · rw [h6] at hb
    by_cases e:k'=k
    · rw [if_pos e] at hb;cases hb
    · rw [if_neg e] at hb
      have h9:=h.bm k' id hb hk'
      rw [List.drop_eq_getElem_cons (List.getElem?_eq_some_iff.1 hk).1] at h9
      rcases List.mem_cons.1 h9 with h9|h9
      · exact absurd (h9.trans (List.getElem?_eq_some_iff.1 hk).2) e
      · exact h9
theorem AA.done {s0:jT} {C2:Cont} {z:Nat} (h:AA X a s0 C D mem l p s C2 l.length) (hz:s.size=z) (h0:fq z (mem,0) 0 0=0):C2=x4 z C mem:=by
 unfold x4
 rw [if_pos h0]
 funext k
 by_cases hk:k.1=mem
 · rw [if_pos hk]
   rcases h.inv.TS (h.fr k hk) with h1|⟨id,h1,_⟩
   · rw [pK h1.2,h.inv.uX,hz]
   · have:=h.bm k id h1 hk
     rw [List.drop_length] at this;cases this
 · rw [if_neg hk];exact h.out k hk
end Go.Hl
end
section
namespace Go.Proofs.YtpfobikpggmleaaGreatDoor
open Go.Hl Go.RowKit
theorem Pt {X:tq} {p:jP} {mem:Int} (av:(p.bm.map (·.1)).Nodup) (hp1:∀k id,ak p.bm k=some id→Oi k) (hp2:p.bm.length≤4096):cw Tryz.prog 102 [aI X.pb 0,aS mem] [fU X p,qv X p] (γ:=List bA) (fun l=>∀k,k∈l↔k.1=mem∧∃id,ak p.bm k=some id) (fun _=>[fU X p,qv X p]) (fun l=>ai 2 rA l):=by
 refine In 27 Tryz.func102 fun _ _ _=> ?_
 refine Hy ?_
 refine .n (Oq (i:=1) Tryz.underlying130 (.t rfl) rfl) rfl fun al8 _=> ?_
 refine Z3 ?_
 refine .own (tv (n:=2) (enc:=rA)) ?_
 refine .own (aB.perm (Perm.idx [1,2,0] rfl rfl)) ?_
 refine .aT (σ:=List Nat×SB) (fun g=>[fU X p,u6 al8 X.m2 xF aS p.bm g.1,au g.2 2 rA (fT p.bm mem g.1)]) (fun g=>[(5,aa (bq g.2 (fT p.bm mem g.1).length))]) (fun g=>g.1.Nodup∧∀j∈g.1,j<p.bm.length) (fun g=>p.bm.length-g.1.length) ([],none) ⟨List.nodup_nil,fun j h=>(by cases h)⟩ rfl ?_ ?_
 · exact (.get rfl (af.refl _) (.refl _ _))
 rintro ⟨seen,gb1⟩ ⟨hnd,hin⟩
 simp only at hnd hin ⊢
 refine Z2 ?_
 refine .n (Q1 (i:=1) (.t rfl) rfl) rfl fun g12 h12=> ?_
 refine .p (Ou (.t rfl)) rfl ?_
 refine Z3 ?_
 refine Cd (fun c0=> ?_) fun c0=> ?_
 ·
  obtain ⟨j,rfl⟩:=Option.isSome_iff_exists.1 c0
  obtain ⟨hjl,Qd⟩:=h12.2 j rfl
  obtain ⟨p1,W0⟩:=getElem?_lt' (xs:=p.bm) (k:=j) hjl
  have Cp:=Pr (ux hnd Qd) (n:=p.bm.length) (fun x hx=>(by (rcases List.mem_append.1 hx with hx|hx;(exact hin x hx);(simp at hx;subst hx;exact hjl))))
  have Iw:∀x∈seen++[j],x<p.bm.length:=fun x hx=>(by (rcases List.mem_append.1 hx with hx|hx;(exact hin x hx);(simp at hx;subst hx;exact hjl)))
  have qf:=Dv p.bm mem seen
  simp only [List.length_append,List.length_cons,List.length_nil] at Cp
  refine Z5 ?_
  refine .p (Ov (i:=1) (seen:=seen) (j:=j) (.t rfl) rfl W0) rfl ?_
  refine .p ((lC (.t rfl) rfl).le (Pq)) rfl ?_
  refine .n (ax FZ.out) rfl fun b6 _=> ?_
  refine Z3 ?_
  refine .share (t:=6) (i:=0) rfl rfl ?_
  refine Z8 ?_
  refine Cd (fun c1=> ?_) fun c1=> ?_
  ·
   refine Z3 ?_
   refine .p (cB rA [p1.1]) rfl ?_
   refine .n (aD (i:=2) (xs:=fT p.bm mem seen) (ys:=[p1.1]) FU.out FU.out FC.out rfl FZ.out rfl FY.out (.t rfl) (.t rfl) rfl (by (simp only [List.length_cons,List.length_nil];omega)) (by (simp only [List.length_cons,List.length_nil];omega))) rfl fun g23 _=> ?_
   refine Z3 ?_
   refine .round (seen++[j],g23) ⟨ux hnd Qd,Iw⟩ (by (simp only [List.length_append,List.length_cons,List.length_nil];omega)) (by (simp only [vE W0 c1];rfl)) ?_
   exact (.get rfl (af.of_eq (by simp only [vE W0 c1])) ((.keep 16 rfl rfl)))
  refine Z2 ?_
  refine .round (seen++[j],gb1) ⟨ux hnd Qd,Iw⟩ (by (simp only [List.length_append,List.length_cons,List.length_nil];omega)) (by (simp only [xZ W0 c1];rfl)) ?_
  exact (.get rfl (af.of_eq (by simp only [xZ W0 c1])) ((.keep 11 rfl rfl)))
 have al9:g12=none:=(by cases g12 with|none=>rfl|some j=>exact absurd rfl c0)
 refine Z6 ?_
 refine .own (aB.cons _ Oo) ?_
 have hmem:=Du (mem:=mem) av (h12.1 al9)
 have hrange:∀x∈fT p.bm mem seen,0≤x.2∧x.2≤9223372036854775807:=fun x hx=>(by (obtain ⟨_,id,hid⟩:=(hmem x).1 hx;have h9:=hp1 x id hid;exact ⟨h9.2.1,h9.2.2⟩))
 refine Z2 ?_
 refine .n (cz (rest:=[_,_]) (Ba (g:=gb1) (xs:=fT p.bm mem seen) hrange) FB.out (.cons (.t rfl) (.cons (.f _) .nil)) (Perm.idx [2,0,1] rfl rfl)) rfl fun Ri Qh=> ?_
 refine Z8 ?_
 have Ox:=Qh.length_eq
 refine .er (i:=0) (t:=4) (g:=gb1) (xs:=Ri) rfl (by rw [Ox];rfl) ?_
 refine Z1 ?_
 refine Post.aP rfl (Ri) (by exact fun k=>Qh.mem_iff.trans (hmem k)) (fun _ _ _ h=>h) (.rt rfl) ?_
 exact .z
theorem IY {X:tq} {z q m:Nat} {T:jP→Prop} {C:Cont} {R:dX→HP} {mem:Int} (av:nE X R):cw Tryz.prog 58 [aI X.pb 0,aS mem] [ek X z q T C m R] (γ:=Unit) (fun _=>True) (fun _=>[ek X z q (fun _=>True) (x4 z C mem) m R]) (fun _=>aS (fq z (mem,0) 0 0:Int)):=by
 refine In 70 Tryz.func58 fun _ _ _=> ?_
 refine .J6 fun p a s hG=> ?_
 obtain ⟨D,hDm,hDk,hI⟩:=hG.ex
 have hsz:=hI.ok.st.size
 have hgz:=hG.sz
 have hRR:=av
 have hXn:=hI.ok.most
 have hgc:=hG.cp
 have hwr:=hG.wrong (mem,0) 0 0
 have hcp:=hI.ok.st.cap
 have al2:=hI.tu
 refine cT ?_
 refine .n ((kZ [_,_,_,_,_,_,_,_] [0,4,1,2,3,5,6,7,8,9] (h:=sk (p:=p) (s:=s) (k:=(mem,0)) (at_:=0) (n:=0) (by omega))).same (fun _ _=>aB.perm (Perm.idx [0,2,3,4,1,5,6,7,8,9] rfl rfl)) (fun _ _=>af.refl _)) rfl fun _ _=> ?_
 refine Z9 ?_
 refine Cd (fun c0=> ?_) fun c0=> ?_
 ·
  have hne:fq z (mem,0) 0 0≠0:=by (rw [←hwr];omega)
  have hdg:x4 z C mem=C:=by unfold x4;rw [if_neg hne]
  refine Z8 ?_
  refine Post.aP rfl (()) (by trivial) (iz (p:=p) (a0:=a) (a:=a) (s:=s) (r:=[]) hRR hI.ok.ar (dN.refl _ _) ⟨⟨D,hDm,hDk,(by rw [hdg];exact hI)⟩,hG.sz,hG.cp,trivial⟩) (.rt rfl) ?_
  exact af.int (by rw [←hwr])
 have qZ:fq z (mem,0) 0 0=0:=by (rw [←hwr];omega)
 refine Z9 ?_
 refine .p (tO rfl Tryz.underlying131 (.t rfl)) rfl ?_
 refine Z4 ?_
 refine .aT (σ:=jP×Cont×Nat) (fun g=>qw X g.1 a s++[R a]) (fun g=>[(23,aS (g.2.2:Int))]) (fun g=>tF X p a s C D mem g.1 g.2.1 g.2.2) (fun g=>X.n-g.2.2) (p,C,0) ⟨hI,rfl,fun _ _=>rfl,Nat.zero_le _,fun j f hj=>absurd hj (Nat.not_lt_zero _)⟩ rfl ?_ ?_
 · exact (.get rfl (af.refl _) (.refl _ _))
 rintro ⟨p1,C1,i1⟩ hA
 simp only at hA ⊢
 refine Z6 ?_
 refine Cd (fun c1=> ?_) fun c1=> ?_
 ·
  have oQ:i1<X.n:=by omega
  obtain ⟨fr,hfr⟩:=getElem?_lt' (xs:=p1.l) (k:=i1) (by (rw [hA.inv.ok.n];omega))
  refine Z2 ?_
  refine .cut (σ:=jP×Cont) (fun g=>qw X g.1 a s++[R a]) (fun g=>[]) (fun g=>tF X p a s C D mem g.1 g.2 (i1+1)) ?_ ?_
  ·
   refine Z4 ?_
   refine .p (aX i1 FU.out FC.out rfl (.t rfl) (.t rfl) rfl oQ) rfl ?_
   refine .p (bl.le (kO (enc:=q6) (i:=1) (r:=0) FA.out FC.out rfl (.t rfl) rfl hfr rfl) (af.refl (aC [aS (fr.at_:Int),aS fr.k.1,aS fr.k.2,aq (BP fr.used),aq (BP fr.seen),aq (BP fr.dy)]))) rfl ?_
   refine .n (ax FZ.out) rfl fun b7 _=> ?_
   refine Z4 ?_
   refine .share (t:=7) (i:=0) rfl rfl ?_
   refine lg ?_
   refine Cd (fun c2=> ?_) fun c2=> ?_
   ·
    have uG:fr.used=true:=(oU _).1 c2.1
    have Cz:fr.k.1=mem:=c2.2
    refine Z1 ?_
    refine .bx 6 1 FM.out (by kernel_rfl) (k:= ?_)
    refine Z7 ?_
    refine .s (Ep (i:=2) rfl Tryz.rP Tryz.underlying130 (.t rfl) (.le (.t rfl) jb) rfl) ?_
    refine Z2 ?_
    refine .bx 8 2 FM.out (by kernel_rfl) (k:= ?_)
    refine Z7 ?_
    refine .p ((aL FP.out FZ.out (.cons (.t rfl) .nil) rfl).le (af.agg (.cons (.refl _) (.cons (.refl _) (.cons (.refl _) (.cons lH (.cons lH (.cons lH .nil)))))))) ?_
    refine Z1 ?_
    refine .p (aX i1 FU.out FC.out rfl (.t rfl) (.t rfl) rfl oQ) rfl ?_
    refine .s (wo (enc:=q6) (i:=1) (r:=0) ⟨fr.at_,(0,0),false,false,false⟩ rfl FC.out rfl (.t rfl) (.t rfl) rfl rfl hfr rfl rfl) ?_
    refine Z2 ?_
    refine .meet ({p1 with l:=p1.l.set i1 ⟨fr.at_,(0,0),false,false,false⟩,nY:=fG p1.nY fr.k},iq C1 fr.k (wA p1 s fr.k)) (hA.yes hfr uG Cz) rfl (.keep 30 rfl rfl)
   have hfn:¬(fr.used=true∧fr.k.1=mem):=fun h=>c2 ⟨(oU _).2 h.1,h.2⟩
   refine Z2 ?_
   refine .meet (p1,C1) (hA.no hfr hfn) rfl (.keep 15 rfl rfl)
  intro ⟨p4,C4⟩ hA4
  simp only at hA4 ⊢
  refine Z4 ?_
  refine .round (p4,C4,i1+1) hA4 (by (show X.n-(i1+1)<X.n-i1;omega)) rfl ?_
  exact (.get rfl (af.int (by (show (i1:Int)+1=((i1+1:Nat):Int);omega))) ((.keep 4 rfl rfl)))
 have hin:i1=X.n:=by (have h9:=hA.le;omega)
 subst hin
 refine cK ?_
 refine .n (kZ [_,_,_,_,_,_,_,_] [0,3,1,2,4,5,6,7,8,9] (h:=Pt (X:=X) (p:=p1) (mem:=mem) hA.inv.Nl (fun k id hk=>hDk _ (hA.inv.cnt k id hk)) (by (have h1:=hA.inv.num;have h2:=hA.inv.ok.st.many;omega)))) rfl fun Uo Vv=> ?_
 refine Z4 ?_
 refine .fact (t:=55) rfl (fun S w v h=>bM h) fun bu7=> ?_
 refine Z1 ?_
 refine .own (aB.perm (Perm.idx [0,2,3,1,4,5,6,7,8,9] rfl rfl)) ?_
 refine .aT (σ:=jP×jT×Cont×Nat) (fun g=>qw X g.1 a g.2.1++[R a]) (fun g=>[(57,aS (g.2.2.2:Int))]) (fun g=>AA X a s C D mem Uo g.1 g.2.1 g.2.2.1 g.2.2.2) (fun g=>Uo.length-g.2.2.2) (p1,s,C1,0) (hA.done Vv) rfl ?_ ?_
 · exact (.get rfl (af.refl _) (.refl _ _))
 rintro ⟨p2,s2,C2,i2⟩ hB
 simp only at hB ⊢
 refine Z6 ?_
 refine Cd (fun c3=> ?_) fun c3=> ?_
 ·
  obtain ⟨kk,hkk⟩:=getElem?_lt' (xs:=Uo) (k:=i2) (by omega)
  have hkm:kk.1=mem:=((Vv kk).1 (List.mem_of_getElem? hkk)).1
  refine Z6 ?_
  refine .p (cI i2 (h:=hkk)) rfl ?_
  refine .p (bl.le (kK FA.out FC.out rfl (.t rfl) rfl) (af.refl (aC [aS kk.1,aS kk.2]))) rfl ?_
  refine .n (ax FZ.out) rfl fun b9 _=> ?_
  refine Z3 ?_
  refine .share (t:=9) (i:=0) rfl rfl ?_
  refine Z4 ?_
  refine .n (kZ [_,_,_,_,_,_,_] [0,3,4,1,2,5,6,7,8,9] (h:=zZ (X:=X) (p:=p2) (s:=s2) (k:=kk))) rfl fun g63 h63=> ?_
  refine Z3 ?_
  obtain ⟨hf0,hB2,hfl,rN⟩:=hB.step hkk hkm h63
  obtain ⟨⟨g63l,g63hd,g63inm,g63bm,g63f,g63c⟩,g63s,g63e⟩:=g63
  simp only at hf0 hB2 hfl rN
  subst hf0
  subst hfl
  subst rN
  refine Z6 ?_
  refine Cd (fun c4=> ?_) fun c4=> ?_
  · exact absurd rfl c4
  refine Z7 ?_
  refine .own (aB.perm (Perm.idx [0,3,4,1,2,5,6,7,8,9] rfl rfl)) (bK.round (⟨p2.l,g63hd,p2.nY,g63bm,g63f,g63c⟩,g63s,iq C2 kk (List.replicate s2.size 0),i2+1) hB2 (by (show Uo.length-(i2+1)<Uo.length-i2;omega)) rfl ?_)
  exact (.get rfl (af.int (by (show (i2:Int)+1=((i2+1:Nat):Int);omega))) ((.keep 14 rfl rfl)))
 have Iw:i2=Uo.length:=by (have h9:=hB.le;omega)
 subst Iw
 have hCd:=hB.done (hB.size.trans hG.sz) qZ
 refine cT ?_
 refine Post.aP rfl (()) (by trivial) (iz (p:=p2) (a0:=a) (a:=a) (s:=s2) (r:=[]) hRR hI.ok.ar (dN.refl _ _) ⟨⟨D,hDm,hDk,(by rw [←hCd];exact hB.inv)⟩,(hB.size.trans hG.sz),(hB.cap.trans hG.cp),trivial⟩) (.rt rfl) ?_
 exact af.int (by rw [qZ];rfl)
end Go.Proofs.YtpfobikpggmleaaGreatDoor
end
section
namespace Go.Hl
open Go.RowKit
theorem KD (v:Nat):∀w,rq (yg v w)=v%2^(8*w)
 |0=>by rw [Nat.mul_zero,Nat.pow_zero,Nat.mod_one];rfl
 |w+1=>by
  have h:yg v (w+1)=yg v w++[QN v w]:=by unfold yg;rw [List.range_succ,List.map_append];rfl
  have e:2^(8*(w+1))=2^(8*w)*256:=by rw [show 8*(w+1)=8*w+8 by omega,Nat.pow_add]
  have hb:(QN v w).toNat=v/2^(8*w)%256:=by unfold QN;rw [UInt8.toNat_ofNat'];omega
  rw [h,zm,KD v w,mW,hb,e,Nat.mod_mul,Nat.mul_comm (v/2^(8*w)%256)]
variable {a:dX} {X:oT} {v:Nat}
theorem vF (h:dm X a) {x w:Nat} (hx:x+w≤X.size):rq ((a.put x (yg v w)).get x w)=v%2^(8*w):=by
 have h1:=tT (a:=a) (x:=x) (o:=0) (n:=w) (ys:=yg v w) (by rw [h.len];exact hx) (by rw [mW];omega)
 rw [Nat.add_zero,List.take_zero,List.nil_append,mW,Nat.zero_add,List.drop_of_length_le,List.append_nil] at h1
 · rw [h1,KD]
 · unfold dX.get;rw [List.length_take];omega
variable {n:Nat}
theorem mC (h:dm X a) {x w y:Nat} (hx:x+w≤X.size) (hd:y+n≤x∨x+w≤y):(a.put x (yg v w)).get y n=a.get y n:=
 oB (by rw [mW,h.len];exact hx) (by rw [mW];exact hd)
theorem RP {t:UInt8} (h:(t.toNat:Int)=126∨(t.toNat:Int)=127∧v≤4294967295) (hv:v<18446744073709551616):wO t v=v:=by
 unfold wO gE
 rcases h with h|⟨h,h2⟩
 · rw [if_neg (by omega),if_pos h];exact Nat.mod_eq_of_lt hv
 · rw [if_pos h];exact Nat.mod_eq_of_lt (Nat.lt_succ_of_le h2)
theorem KE {X:oT} {m:aR} {g:Nat} {a:dX} (h:dm X a) {y n:Nat}:∀k,g+8*k≤X.size→(y+n≤g∨g+8*k≤y)→(HZ m g a k).get y n=a.get y n
 |0,_,_=>rfl
 |k+1,hk,hd=>by
  show ((HZ m g a k).put (g+8*k) _).get y n=_
  rw [mC (r9 h k (by omega)) (by omega) (by omega)]
  exact KE h k (by omega) (by omega)
theorem Gh {X:oT} {m:aR} {g:Nat} {a:dX} (h:dm X a) {i:Nat} {z:jF} (hz:m.an[i]?=some z) (hv:z.Value.toNat<18446744073709551616):∀k,g+8*k≤X.size→i<k→rq ((HZ m g a k).get (g+8*i) 8)=wO z.Ty z.Value.toNat
 |0,_,hi=>absurd hi (Nat.not_lt_zero _)
 |k+1,hk,hi=>by
  show rq (((HZ m g a k).put (g+8*k) _).get (g+8*i) 8)=_
  by_cases e:i=k
  · subst e
    rw [vF (r9 h i (by omega)) (by omega),Kf hz]
    exact Nat.mod_eq_of_lt (Kg hv)
  · rw [mC (r9 h k (by omega)) (by omega) (by omega)]
    exact Gh h hz hv k (by omega) (by omega)
theorem KF {X:oT} {t:Nat} {e:fR} {a:dX} (h:dm X a) {y n:Nat} (hy:y+n≤t):∀k,t+4*(e.At.toNat+k)≤X.size→(Nn t e a k).get y n=a.get y n
 |0,_=>rfl
 |k+1,hk=>by
  show ((Nn t e a k).put (t+4*(e.At.toNat+k)) _).get y n=_
  rw [mC (wP h k (by omega)) (by omega) (by omega)]
  exact KF h hy k (by omega)
def Pu (a:dX) (t:Nat) (tb:List Int):Prop:=∀(i:Nat) (f:Int),tb[i]?=some f→(rq (a.get (t+4*i) 4):Int)=f
theorem Pv {X:oT} {t:Nat} {e:fR} {a:dX} {tb:List Int} (h:dm X a) (ht:Pu a t tb) (hf:∀f∈e.ay,0≤f∧f<4294967295):∀k,t+4*(e.At.toNat+k)≤X.size→k≤e.ay.length→Pu (Nn t e a k) t (Ns tb e k)
 |0,_,_=>ht
 |k+1,hk,hl=>by
  have ih:=Pv h ht hf k (by omega) (by omega)
  intro i f hi
  have hi':((Ns tb e k).set (e.At.toNat+k) ((e.ay[k]?).getD 0+1))[i]?=some f:=hi
  obtain ⟨z,hz⟩:=ah (xs:=e.ay) (k:=k) (by omega)
  have hzf:=hf z (List.mem_of_getElem? hz)
  show (rq (((Nn t e a k).put (t+4*(e.At.toNat+k)) _).get (t+4*i) 4):Int)=f
  rw [hz] at hi' ⊢
  simp only [Option.getD_some] at hi' ⊢
  rcases jC hi' with ⟨e1,e2⟩|⟨e1,e2⟩
  · subst e1
    rw [vF (wP h k (by omega)) (by omega),e2]
    omega
  · rw [mC (wP h k (by omega)) (by omega) (by omega)]
    exact ih i f e2
variable {m:aR}
theorem Up {t:Nat} {e:fR} {tb:List Int} (h:dm X a) (ht:Pu a t tb) (hf:∀f∈e.ay,0≤f∧f<4294967295) (hx:t+4*eC m≤X.size) (h0:0≤e.At) (hb:¬iO m e):Pu (Kh m t e a) t (Ns tb e e.ay.length):=by
 unfold Kh;rw [if_neg hb]
 unfold iO at hb
 exact Pv h ht hf _ (by omega) (Nat.le_refl _)
theorem RQ {t:Nat} {e:fR} (h:dm X a) {y:Nat} (hy:y+n≤t) (hx:t+4*eC m≤X.size) (h0:0≤e.At) (hb:¬iO m e):(Kh m t e a).get y n=a.get y n:=by
 unfold Kh;rw [if_neg hb]
 unfold iO at hb
 exact KF h hy _ (by omega)
theorem KG {X:oT} {m:aR} {t:Nat} {a:dX} (h:dm X a) (hm:nK m) (hx:t+4*eC m≤X.size) (h0:∀i,i<eC m→rq (a.get (t+4*i) 4)=0):∀k,k≤m.bt.length→ku m k→(∀e∈m.bt,∀f∈e.ay,f<4294967295)→Pu (ua m t a k) t (uv m k)∧∀y n,y+n≤t→(ua m t a k).get y n=a.get y n
 |0,_,_,_=>by
  refine ⟨fun i f hi=> ?_,fun _ _ _=>rfl⟩
  have h1:(List.replicate (eC m) (0:Int))[i]?=some f:=hi
  rw [List.getElem?_replicate] at h1
  by_cases hl:i<eC m
  · rw [if_pos hl] at h1;cases h1;show (rq (a.get (t+4*i) 4):Int)=0;rw [h0 i hl];rfl
  · rw [if_neg hl] at h1;cases h1
 |k+1,hk,he,hF=>by
  obtain ⟨e,hz⟩:=ah (xs:=m.bt) (k:=k) (by omega)
  have hmem:=List.mem_of_getElem? hz
  have ih:=KG h hm hx h0 k (by omega) (fun j e hj=>he j e (by omega)) hF
  have hok:=yz (m:=m) (t:=t) h hm hx k
  have hb:=he k e (by omega) hz
  have hel:=hm.el e hmem
  rw [OO hz,Pj hz]
  exact ⟨Up hok.1 ih.1 (fun f hf=>⟨(hel.2.2.2 f hf).1,hF e hmem f hf⟩) hx hel.1 hb,fun y n hy=>(RQ hok.1 hy hx hel.1 hb).trans (ih.2 y n hy)⟩
theorem Pw {c i:Nat} (hh:a.height≤a.bytes.length) (hi:i+n≤c):rq ((Q9 a c).get (a.height+i) n)=0:=by
 have e:(Q9 a c).get (a.height+i) n=List.replicate n 0:=by
  unfold dX.get
  show ((List.take a.height a.bytes++List.replicate c 0++List.drop (a.height+c) a.bytes).drop (a.height+i)).take n=_
  have hl:(List.take a.height a.bytes).length=a.height:=by rw [List.length_take];omega
  rw [List.append_assoc,List.drop_append,List.drop_of_length_le (by omega),List.nil_append,hl,Nat.add_sub_cancel_left,List.drop_append,List.take_append,List.length_drop,List.length_replicate,show n-(c-i)=0 by omega,List.take_zero,List.append_nil,List.drop_replicate,List.take_replicate,show min n (c-i)=n by omega]
 have z:∀n,rq (List.replicate n 0)=0:=fun n=>by
  induction n with
  |zero=>rfl
  |succ n ih=>show (0:UInt8).toNat+256*rq (List.replicate n 0)=0;rw [ih];rfl
 rw [e,z]
structure Px (m:aR):Prop where
 gv:∀z∈m.an,(z.Ty.toNat:Int)=126∨(z.Ty.toNat:Int)=127∧z.Value≤4294967295
 ef:∀e∈m.bt,∀f∈e.ay,f<4294967295
theorem A9.begin (h:dm X a) (hm:nK m) (he:Px m) (hf:a.height+(fH m+oE m)≤X.size) {ke:Nat} (hk:ke≤m.bt.length) (hel:ku m ke) (kd:Nat):A9 (jo m a ke) a.height (a.height+fH m) (uw m ke kd):=by
 have h1:=hm.r1;have h2:=hm.r2;have hh:=h.hi;have qX:=h.len
 have h3:dm X (Q9 a (fH m)):=r8 h (by omega)
 have h4:dm X (mI a m):=r8 h3 (by simp only;omega)
 have h5:=r9 (m:=m) (g:=a.height) h4 m.an.length (by omega)
 have h6:=KG (m:=m) (t:=a.height+fH m) h5 hm (by omega) (fun i hi=>by
  rw [KE h4 _ (by omega) (by omega)]
  exact Pw (a:=Q9 a (fH m)) (i:=4*i) (n:=4) (by have h7:=h3.len;have h8:=h3.hi;omega) (by omega)) ke hk hel he.ef
 refine ⟨fun i v hi=> ?_,h6.1⟩
 have hi':(m.an.map (·.Value))[i]?=some v:=hi
 rw [List.getElem?_map] at hi'
 obtain ⟨z,hz,rfl⟩:=Option.map_eq_some_iff.1 hi'
 have hmem:=List.mem_of_getElem? hz
 have hlt:=(List.getElem?_eq_some_iff.1 hz).1
 have hgv:=hm.gv z hmem
 unfold jo
 rw [h6.2 _ _ (by omega),Gh h4 hz (by omega) _ (by omega) hlt,RP (by have:=he.gv z hmem;omega) (by omega)]
 omega
theorem F9.other {M:u9} {r:RM} {C:Cont} (h:F9 M r C n) {num:Int} (hn:M.num≠num) (at_:Nat) (ys:List UInt8):F9 M r (wE 64 C num at_ ys) n:=
 ⟨h.ok,h.pages,fun a=>by rw [wF hn];exact h.eq a,h.iw⟩
theorem Ga.Py {m:aR} {num:Int} {Co:Cont} (hm:nK m) (hn:0≤num) (h0:∀i,i<m.bp.length→∀a,mX 64 Co (num+(i:Int)) a=0):∀kd,kd≤m.aZ.length→Ga (yj m num m.bp.length) (mB m kd) (pQ m num Co kd) kd
 | 0,_=>⟨by rw [lX,pX],fun i M r hM hr=>by
  have oQ:i<m.bp.length:=by have:=(List.getElem?_eq_some_iff.1 hM).1;rw [lX] at this;exact this
  obtain ⟨z,hz⟩:=ah (xs:=m.bp) (k:=i) oQ
  rw [CY hz oQ] at hM;cases hM
  have h1:=Ds hm 0 i r hr
  have h2:=E1 hm (List.mem_of_getElem? hz) (n:=num+(i:Int)) (by omega)
  have hr':r=F8 z:=by
   have:(m.bp.map F8)[i]?=some r:=hr
   rw [List.getElem?_map,hz] at this;cases this;rfl
  refine ⟨h2.1,by rw [hr'];rfl,fun a=> ?_,h1.1⟩
  rw [hr']
  exact h0 i oQ a⟩
 |k+1,hk=>by
  obtain ⟨d,hd⟩:=ah (xs:=m.aZ) (k:=k) (by omega)
  have ih:=Ga.Py hm hn h0 k (by omega)
  rw [C0 hd,Ay hd]
  have hda:=hm.da d (List.mem_of_getElem? hd)
  refine ⟨by rw [KB];exact ih.len,fun i M r hM hr=> ?_⟩
  have oQ:i<m.bp.length:=by have:=(List.getElem?_eq_some_iff.1 hM).1;rw [lX] at this;exact this
  obtain ⟨z,hz⟩:=ah (xs:=m.bp) (k:=i) oQ
  have hM2:=hM
  rw [CY hz oQ] at hM2
  have LX:M.num=num+(i:Int):=by cases hM2;rfl
  have hps:=(Ds hm (k+1) i r (by rw [Ay hd];exact hr)).1
  unfold Pk at hr;unfold Vl
  by_cases hw:(xL m d).2=(0,0)
  · rw [if_pos hw] at hr ⊢
    rcases jC hr with ⟨e1,e2⟩|⟨e1,e2⟩
    · obtain ⟨r0,JY⟩:=ah (xs:=mB m k) (k:=i) (by rw [pX];exact oQ)
      have h0:=ih.all i M r0 hM JY
      rw [e1,JY] at e2
      subst e2
      have hin:num+(d.Mem.toNat:Int)=M.num:=by rw [LX,e1]
      rw [hin]
      exact ⟨h0.ok,h0.pages,fun a=>by rw [On (by decide)];show _=pV (qM r0 d.At.toNat d.Bytes) a;rw [F7,h0.eq,Nat.add_zero],hps⟩
    · have h0:=ih.all i M r hM e2
      have h1:=h0.other (num:=num+(d.Mem.toNat:Int)) (by rw [LX];omega) (d.At.toNat+0) d.Bytes
      exact ⟨h1.ok,h1.pages,h1.eq,hps⟩
  · rw [if_neg hw] at hr ⊢
    have h0:=ih.all i M r hM hr
    exact ⟨h0.ok,h0.pages,h0.eq,hps⟩
theorem Mt (n:Int) (a:Nat):mX 64 (pL 64) n a=0:=by
 unfold mX pL
 rw [List.getD_eq_getElem?_getD,List.getElem?_replicate]
 split<;>rfl
def sC (C:Cont) (num:Int):Nat→Cont
 |0=>C
 |k+1=>x4 64 (sC C num k) (num+(k:Int))
theorem Mu {z:Nat} {num:Int} (h:0≤num):fq z (num,0) 0 0=0:=by
 unfold fq
 rw [if_neg (by simp only;omega),if_neg (by omega)]
theorem od.le {r:Nat×Nat×Int} (h:od m r):r.1≤m.bt.length∧ku m r.1∧r.2.1≤m.aZ.length:=by
 rcases h with ⟨k,e,a1,a2,a3,rfl⟩|⟨a0,k,d,a1,a2,a3,rfl⟩|⟨a0,a1,rfl⟩
 · exact ⟨Nat.le_of_lt (List.getElem?_eq_some_iff.1 a1).1,a2,Nat.zero_le _⟩
 · exact ⟨Nat.le_refl _,a0,(List.getElem?_eq_some_iff.1 a1).1⟩
 · exact ⟨Nat.le_refl _,a0,Nat.le_refl _⟩
theorem Pz (h:dK m) (hs:wJ m):Px m:=⟨fun z hz=>wT h hz,fun e he f hf=>by
 have h5:=(vl h he).2.2.2 f hf
 have h6:=hs.imports
 have h7:=hs.funcs
 unfold jt cG at h5
 omega⟩
theorem AB:∀(k c n:Nat),c≤rQ k c n
 |0,c,n=>Nat.le_refl _
 |k+1,c,n=>by
  unfold rQ
  have:=AB k (c*2) n
  split<;>omega
theorem IZ (m:aR) (h:m.an.length≤60000):16≤fH m:=by
 unfold fH aW
 rw [if_neg (by omega)]
 exact AB 19 16 _
theorem AD:∀(k c j n:Nat),n≤c*2^j→rQ k c n≤c*2^j
 |0,c,j,n,_=>by
  have:=Nat.le_mul_of_pos_right c (Nat.two_pow_pos j)
  simpa [rQ] using this
 | k +1,c,j,n,h=>by
  have h1:=Nat.le_mul_of_pos_right c (Nat.two_pow_pos j)
  unfold rQ
  split
  · cases j with
    |zero=>rw [Nat.pow_zero,Nat.mul_one] at h;omega
    |succ j=>
     have e:c*2^(j+1)=c*2*2^j:=by rw [Nat.pow_succ,Nat.mul_assoc,Nat.mul_comm (2^j) 2]
     rw [e] at h ⊢
     exact AD k (c*2) j n h
  · exact h1
theorem Gi (h1:m.an.length≤60) (h2:eC m≤1000):fH m≤512∧oE m≤4096:=by
 unfold fH oE aW
 rw [if_neg (by omega),if_neg (by omega)]
 exact ⟨AD 19 16 5 _ (by omega),AD 19 16 8 _ (by omega)⟩
end Go.Hl
end
section
namespace Go.Proofs.YtpfobikpggmleaaGreatDoor
open Go.Hl Go.RowKit
variable {m:aR} {sb:Nat} {X:oT} {a:dX} {num:Int} {t0:Nat} {n:Nat}
theorem x5 {pg:tq} {g0 mm c1 c2:Nat} {bs:List Nat} {Co:Cont} (av:ak a.taken (g0:Int)=some (c1:Int)) (hp1:ak (fG a.taken (g0:Int)) (t0:Int)=some (c2:Int)) (hp2:c1+c2≤a.live) (fI:a.live≤4194304) (oe:n≤1000) (yE:0≤num) (Ql:num≤1073741824) (Rm:bs.length≤60000):cw Tryz.prog 27 [aI sb 0] (nJ sb X pg.pb m num (g0:Int) (t0:Int) (ai 1 fz bs)::tZ X a n++[ek pg 64 4096 (fun _=>True) (Co) mm wB]) (γ:=Unit) (fun _=>True) (fun _=>az sb [cr (br m),aI X.ab 0,aI pg.pb 0,ag .i64 num,ag .i64 (g0:Int),ag .i64 (t0:Int),(ai 1 fz bs),aq True]::tZ X (fJ (fJ a (g0:Int) c1) (t0:Int) c2) (n+2)++[ek pg 64 4096 (fun _=>True) (sC Co num bs.length) mm wB]) (fun _=>ag .i64 0):=by
 refine In 51 Tryz.func27 fun _ _ _=> ?_
 refine Z9 ?_
 refine .n ((cE (h:=nQ)).same (fun _ _=>aB.refl _) (fun _ _=>af.refl _)) rfl fun _ _=> ?_
 refine Z2 ?_
 refine Cd (fun c0=> ?_) fun c0=> ?_
 · exact c0.elim
 refine cT ?_
 refine .bx 8 1 FM.out (by kernel_rfl) (k:= ?_)
 refine Z9 ?_
 refine .n (kZ [_,_] [1,2,3,4,0,5] (h:=zW (a:=a) (at_:=(g0:Int)) (c:=c1) (n:=n) av (by omega) fI (by omega))) rfl fun g18 Re=> ?_
 refine Z3 ?_
 refine .bx 8 1 FM.out (by kernel_rfl) (k:= ?_)
 refine Z3 ?_
 refine .p (fB (i:=4) FA.out (.t rfl) rfl rfl) ?_
 refine Z3 ?_
 refine .p (fB (i:=4) FA.out (.t rfl) rfl rfl) ?_
 refine Z1 ?_
 refine .n (cE (h:=zW (a:=fJ a (g0:Int) c1) (at_:=(t0:Int)) (c:=c2) (n:=n+1) hp1 (by simp only [fJ];omega) (by simp only [fJ];omega) (by omega))) rfl fun g27 h27=> ?_
 refine Z8 ?_
 refine .p (fB (i:=4) FA.out (.t rfl) rfl rfl) rfl ?_
 refine Z5 ?_
 refine .own (aB.perm (Perm.idx [4,0,1,2,3,5] rfl rfl)) ?_
 refine .aT (σ:=Nat) (fun k=>az sb [cr (br m),aI X.ab 0,aI pg.pb 0,ag .i64 num,ag .i64 (g0:Int),ag .i64 (t0:Int),(ai 1 fz bs),aq True]::tZ X (fJ (fJ a (g0:Int) c1) (t0:Int) c2) (n+2)++[ek pg 64 4096 (fun _=>True) (sC Co num k) mm wB]) (fun k=>[(33,ag .i64 (k:Int))]) (fun k=>k≤bs.length) (fun k=>bs.length-k) 0 (Nat.zero_le _) rfl ?_ ?_
 · exact (.get rfl (af.refl _) (.refl _ _))
 rintro k hk
 refine Z6 ?_
 refine Cd (fun c1=> ?_) fun c1=> ?_
 ·
  have hwr:=Mu (z:=64) (num:=num+(k:Int)) (by omega)
  refine cT ?_
  refine .bx 10 2 FM.out (by kernel_rfl) (k:= ?_)
  refine cT ?_
  refine .n (kZ [_,_,_,_,_] [5,0,1,2,3,4] (h:=IY (X:=pg) (z:=64) (q:=4096) (m:=mm) (T:=fun _=>True) (C:=sC Co num k) (R:=wB) (mem:=num+(k:Int)) (zG _))) rfl fun W1 h46=> ?_
  refine Z9 ?_
  refine Cd (fun c2=> ?_) fun c2=> ?_
  · exact absurd (by rw [hwr];rfl) c2
  refine Z7 ?_
  refine .own (aB.perm (Perm.idx [1,2,3,4,5,0] rfl rfl)) (bK.round (k+1) (by omega) (by omega) rfl ?_)
  exact (.get rfl (af.int (by (show (k:Int)+1=((k+1:Nat):Int);omega))) ((.keep 20 rfl rfl)))
 have hke:k=bs.length:=by omega
 subst hke
 refine cT ?_
 refine bL ?_
 exact .z
variable {r:RM}
theorem Dw {a o:Nat} (av:r.pages≤65536) (hp1:a<18446744073709551616) (hp2:o<18446744073709551616) (fI:n<18446744073709551616):cW Tryz.prog 91 [aC (gf r),ag .u64 (a:Int),ag .u64 (o:Int),ag .u64 (n:Int)] (aq (jD r.pages (a+o) n)):=by
 refine In 33 Tryz.func91 fun _ _ _=> ?_
 refine Z40 ?_
 refine bL ?_
 exact af.prop (by unfold jD;omega)
theorem I1 {a:Nat} (av:r.iw.length≤5000) (hp1:a<18446744073709551616) (hp2:∀p∈r.iw,p.2.length≤5000):cW Tryz.prog 100 [aC (gf r),ag .u64 (a:Int)] (ag .u8 ((pV r a).toNat:Int)):=by
 refine In 57 Tryz.func100 fun _ _ _=> ?_
 refine Hy ?_
 refine .aT (σ:=Nat) (fun _=>[]) (fun i=>[(5,aS ((i:Int)-1))]) (fun i=>i≤r.iw.length∧sA r.iw a r.iw.length=sA r.iw a i) (fun i=>i) r.iw.length ⟨Nat.le_refl _,rfl⟩ rfl ?_ ?_
 · exact (.get rfl (af.refl _) (.refl _ _))
 rintro i ⟨hi,hb⟩
 refine Z7 ?_
 refine Cd (fun c0=> ?_) fun c0=> ?_
 ·
  obtain ⟨j,rfl⟩:∃j,i=j+1:=⟨i-1,by omega⟩
  obtain ⟨p,hx⟩:=ah (xs:=r.iw) (k:=j) (by omega)
  have rB:=hp2 p (List.mem_of_getElem? hx)
  refine Z5 ?_
  refine .bx 25 2 FM.out (by kernel_rfl) (k:= ?_)
  refine Z4 ?_
  refine .p (cI j (h:=hx)) ?_
  refine Z8 ?_
  refine .cons (cm.gT rfl rfl rfl rfl (fun hg=>aO (j:=j) FU.out FC.out rfl (.when (.t rfl) hg) (.when (.t rfl) hg) (by omega) hx)) ?_
  refine Z6 ?_
  refine .cons (cm.gT rfl rfl rfl rfl (fun hg=>aO (j:=j) FU.out FC.out rfl (.when (.t rfl) hg) (.when (.t rfl) hg) (by omega) hx)) ?_
  refine Z9 ?_
  refine Cd (fun c1=> ?_) fun c1=> ?_
  ·
   have hin:sy p a:=by (unfold sy;omega)
   obtain ⟨y,hy⟩:=ah (xs:=p.2) (k:=a-p.1) (by have h9:=hin.2;omega)
   have hle:=hin.1
   have hby:pV r a=y:=by (unfold pV;rw [hb,s6 hx hin,List.getD_eq_getElem?_getD,hy];rfl)
   refine Z1 ?_
   refine .bx 14 3 FM.out (by kernel_rfl) (k:= ?_)
   refine Z3 ?_
   refine .p (cI j (h:=hx)) ?_
   refine Z6 ?_
   refine .p (cI j (h:=hx)) ?_
   refine Z4 ?_
   refine .p (cI (a-p.1) (h:=hy)) rfl ?_
   refine cK ?_
   refine bL ?_
   exact af.int (by rw [hby])
  refine Z8 ?_
  refine .round j ⟨by omega,hb.trans (vD hx (fun h=>c1 (by unfold sy at h;omega)))⟩ (by omega) rfl ?_
  exact (.get rfl (af.int (by omega)) ((.keep 33 rfl rfl)))
 have Uq:i=0:=by omega
 subst Uq
 refine cT ?_
 refine bL ?_
 exact af.int (by unfold pV;rw [hb];rfl)
theorem I2 {a:Nat} (av:r.iw.length≤5000) (hp1:a+n<18446744073709551616) (hp2:∀p∈r.iw,p.2.length≤5000) (fI:n≤5000):cW Tryz.prog 56 [aC (gf r),ag .u64 (a:Int),aS (n:Int)] (ai 1 aj (sB r a n)):=by
 refine In 24 Tryz.func56 fun _ _ _=> ?_
 refine AU ?_
 refine .own (tv (n:=1) (enc:=aj)) ?_
 refine .aT (σ:=SB×Nat) (fun g=>[au g.1 1 aj (sB r a g.2)]) (fun g=>[(7,aa (bq g.1 (sB r a g.2).length)),(8,aS (g.2:Int))]) (fun g=>g.2≤n) (fun g=>n-g.2) (none,0) (Nat.zero_le _) rfl ?_ ?_
 · exact (.get rfl (af.refl _) (.get rfl (af.refl _) (.refl _ _)))
 rintro ⟨sb,i⟩ hi
 simp only at hi ⊢
 refine Z8 ?_
 refine Cd (fun c0=> ?_) fun c0=> ?_
 ·
  refine Z6 ?_
  refine .p (bl.le (kK FA.out FC.out rfl (.t rfl) rfl) (af.refl (aC (gf r)))) rfl ?_
  refine Z3 ?_
  refine .p ((ep (.t rfl) (.t rfl) dL).le (af.int (show _=((a+i:Nat):Int) by omega))) rfl ?_
  refine .p (cA (h:=I1 (r:=r) (a:=a+i) av (by omega) hp2)) rfl ?_
  refine .p (cB aj [pV r (a+i)]) rfl ?_
  refine .n (aD (i:=0) (xs:=sB r a i) (ys:=[pV r (a+i)]) FU.out FU.out FC.out rfl FZ.out rfl FY.out (.t rfl) (.t rfl) rfl (by (simp only [Ca,List.length_cons,List.length_nil];omega)) (by (simp only [Ca,List.length_cons,List.length_nil];omega))) rfl fun g22 _=> ?_
  refine Z9 ?_
  refine .round (g22,i+1) (by show i+1≤n;omega) (by (show n-(i+1)<n-i;omega)) (by simp only [Ax];rfl) ?_
  exact (.get rfl (af.of_eq (by simp only [Ax])) (.get rfl (af.int (by (show (i:Int)+1=((i+1:Nat):Int);omega))) ((.keep 18 rfl rfl))))
 refine cT ?_
 refine .er (t:=6) (i:=0) rfl rfl ?_
 refine Z1 ?_
 refine bL ?_
 exact af.of_eq (by rw [show i=n by omega])
theorem Gj {a:Nat} {ys:List UInt8} (av:r.iw.length≤5000) (hp1:ys.length≤5000):cW Tryz.prog 92 [aC (gf r),ag .u64 (a:Int),ai 1 aj ys] (aC (gf (qM r a ys))):=by
 refine In 20 Tryz.func92 fun _ _ _=> ?_
 refine Z2 ?_
 refine .n (bT (.t rfl)) rfl fun b3 _=> ?_
 refine .n (ax FZ.out) rfl fun b6 _=> ?_
 refine Z4 ?_
 refine .n (cq sx [] FU.out FC.out rfl FZ.out rfl .nil rfl rfl rfl rfl rfl) rfl fun g7 _=> ?_
 refine Z2 ?_
 refine .n (aD (i:=0) (xs:=([]:List uu)) (ys:=r.iw) FU.out FU.out FC.out rfl FZ.out rfl FY.out (.t rfl) (.t rfl) rfl (by (simp only [List.length_nil];omega)) (by (simp only [List.length_nil];omega))) rfl fun g10 _=> ?_
 refine Z1 ?_
 refine .p (kL FU.out FC.out rfl FZ.out rfl) rfl ?_
 refine Z1 ?_
 refine .p (sJ FU.out FU.out FC.out rfl FZ.out rfl FY.out (.t rfl) (.t rfl) (by omega)) rfl ?_
 refine Z1 ?_
 refine .p (cB sx [((a,ys):uu)]) rfl ?_
 refine .n (aD (i:=0) (xs:=[]++r.iw) (ys:=[((a,ys):uu)]) FU.out FU.out FC.out rfl FZ.out rfl FY.out (.t rfl) (.t rfl) rfl (by (simp only [List.nil_append,List.length_cons,List.length_nil];omega)) (by (simp only [List.nil_append,List.length_cons,List.length_nil];omega))) rfl fun g17 _=> ?_
 refine Z4 ?_
 refine .eR (n:=2) (enc:=sx) (i:=0) (j:=1) (f:=2) rfl rfl rfl ?_
 refine Z2 ?_
 refine .p (bl.le (iX (i:=1) FA.out FC.out rfl (.t rfl) rfl rfl) (af.refl (aC (gf (qM r a ys))))) rfl ?_
 refine Z4 ?_
 refine Post.aP rfl () trivial (fun _ _ _ _=>trivial) (.ra (i:=0) FA.out FC.out rfl rfl rfl rfl) ?_
 exact af.refl _
theorem Mv (av:nK m) (hp1:m.aZ.length≤4000):cw Tryz.prog 44 [aC (pW (uw m 0 0)),ai 2 fS m.bt,ai 3 gV m.aZ] [] (γ:=Nat×Nat×Int) (fun r=>od m r) (fun _=>[]) (fun r=>bD [aC (pW (uw m r.1 r.2.1)),ag .i64 r.2.2]):=by
 refine In 117 Tryz.func44 fun _ _ _=> ?_
 have Kl:=av.ll;have GZ:=av.dl
 have D2:=av.r2.2.2
 have hml:=av.ml
 refine Z2 ?_
 refine .n (bT (.t rfl)) rfl fun b3 _=> ?_
 refine .n (ax FZ.out) rfl fun b6 _=> ?_
 refine cK ?_
 refine .own (aB.perm (Perm.idx [1,0] rfl rfl)) ?_
 refine .aT (σ:=Nat) (fun k=>[az b3 [ai 1 eA (m.an.map (·.Value)),(ai 1 dJ (uv m k)),(ai 3 gf (mB m 0))],az b6 [aa (.slice none 0 0),aa (.slice none 0 0),aa (.slice none 0 0)]]) (fun k=>[(8,ag .i64 (k:Int))]) (fun k=>k≤m.bt.length∧ku m k) (fun k=>m.bt.length-k) 0 ⟨Nat.zero_le _,ku.nil⟩ rfl ?_ ?_
 · exact (.get rfl (af.refl _) (.refl _ _))
 rintro k ⟨hk,RR⟩
 refine Z9 ?_
 refine Cd (fun c0=> ?_) fun c0=> ?_
 ·
  obtain ⟨z,hz⟩:=ah (xs:=m.bt) (k:=k) (by omega)
  obtain ⟨Ee,v7,hz3,RS⟩:=av.el z (List.mem_of_getElem? hz)
  have htl:=nV m k
  have hbd:iO m z↔((eC m:Int)<z.At∨(eC m:Int)-z.At<(z.ay.length:Int)):=Iff.rfl
  refine Z8 ?_
  refine .p (cI k (h:=hz)) rfl ?_
  refine Z1 ?_
  refine .n (ax FZ.out) rfl fun b9 _=> ?_
  refine Z3 ?_
  refine .share (t:=9) (i:=0) rfl rfl ?_
  refine Z8 ?_
  refine .p ((qd FU.out FU.out (.t rfl) (by rw [htl];exact nt (by omega) (by omega))).le (af.int (show _=((eC m:Nat):Int) by rw [htl];try omega))) rfl ?_
  refine Z9 ?_
  refine .g (cm.gF rfl rfl rfl rfl (fun hg=>(qd FU.out FU.out (.when (.t rfl) hg) (by rw [htl];exact nt (by omega) (by omega))).le (af.int (show _=((eC m:Nat):Int) by rw [htl];try omega)))) rfl rfl ?_
  refine Z7 ?_
  refine Cd (fun c1=> ?_) fun c1=> ?_
  ·
   have Qn:iO m z:=hbd.2 (by omega)
   refine Z2 ?_
   refine .p (bl.le (iX (i:=0) FA.out FC.out rfl (.t rfl) rfl rfl) (af.refl (aC (pW (uw m k 0))))) rfl ?_
   refine cT ?_
   refine Post.bf rfl rfl ((k,0,5)) (by exact od.el hz RR Qn) (aB.dD [] [0,1] rfl rfl) rfl (.cons (.ra (i:=1) FA.out FC.out rfl rfl rfl rfl) ?_ (.cons (.rt rfl) ?_ .nil))
   · exact .z
   exact .z
  have Qn:¬iO m z:=fun h=>c1 (by have h2:=hbd.1 h;omega)
  have hin:z.At+(z.ay.length:Int)≤(eC m:Int):=by (have h3:=fun h=>Qn (hbd.2 h);omega)
  refine Z4 ?_
  refine .n (cq dJ ([]:List Int) FU.out FC.out rfl FZ.out rfl .nil rfl rfl rfl rfl rfl) rfl fun DY _=> ?_
  refine Z2 ?_
  refine .n (aD (i:=0) (xs:=([]:List Int)) (ys:=uv m k) FU.out FU.out FC.out rfl FZ.out rfl FY.out (.t rfl) (.t rfl) rfl (by rw [nV];simp only [List.length_nil];omega) (by rw [nV];simp only [List.length_nil];omega)) rfl fun Mw _=> ?_
  refine cK ?_
  refine .aT (σ:=SB×Nat) (fun q=>[au q.1 1 dJ (Ns (uv m k) z q.2),az b3 [ai 1 eA (m.an.map (·.Value)),aa (bq q.1 (eC m)),(ai 3 gf (mB m 0))],az b6 [aa (.slice none 0 0),aa (.slice none 0 0),aa (.slice none 0 0)]]) (fun q=>[(10,ag .i64 (q.2:Int))]) (fun q=>q.2≤z.ay.length) (fun q=>z.ay.length-q.2) (Mw,0) (Nat.zero_le _) (by have h9:(([]:List Int)++uv m k).length=eC m:=nV m k;rw [h9];rfl) ?_ ?_
  · exact (.get rfl (af.refl _) (.refl _ _))
  rintro ⟨s1,j⟩ hj
  simp only at hj ⊢
  refine cK ?_
  refine Cd (fun c2=> ?_) fun c2=> ?_
  ·
   obtain ⟨y,hy⟩:=ah (xs:=z.ay) (k:=j) (by omega)
   have hyb:=RS y (List.mem_of_getElem? hy)
   have D4:=(yP (uv m k) z j).trans htl
   obtain ⟨w,hw⟩:=ah (xs:=Ns (uv m k) z j) (k:=z.At.toNat+j) (by omega)
   refine .iy 0 rfl (fun e=>by rw [e] at hw;cases hw) fun fb cap Vw=> ?_
   subst Vw
   refine Z4 ?_
   refine .bx 13 2 FM.out (by kernel_rfl) (k:= ?_)
   refine Z6 ?_
   refine .p ((ep (.t rfl) (.t rfl) dL).le (af.int (show _=((z.At.toNat+j:Nat):Int) by omega))) ?_
   refine Z3 ?_
   refine .p (cI j (h:=hy)) ?_
   refine Z3 ?_
   refine .p (aX (z.At.toNat+j) FU.out FC.out rfl (.t rfl) (.t rfl) rfl (by omega)) rfl ?_
   refine .s (gC (enc:=dJ) (i:=0) (r:=0) (y+1) rfl FC.out (.t rfl) (.t rfl) rfl hw rfl rfl) ?_
   refine Z8 ?_
   refine .round (some (fb,cap),j+1) (by show j+1≤_;omega) (by show z.ay.length-(j+1)<z.ay.length-j;omega) (by simp only [Ns,hy,Option.getD_some];try rfl) ?_
   exact (.get rfl (af.int (by (show (j:Int)+1=((j+1:Nat):Int);omega))) ((.keep 23 rfl rfl)))
  have hje:j=z.ay.length:=by omega
  subst hje
  refine Z6 ?_
  refine .eR (i:=0) (j:=0) (f:=1) (xs:=Ns (uv m k) z z.ay.length) rfl rfl (by rw [yP,htl];rfl) ?_
  refine Z5 ?_
  refine .round (k+1) ⟨by omega,RR.next hz Qn⟩ (by omega) (by simp only [Pj hz];try rfl) ?_
  exact (.get rfl (af.int (by (show (k:Int)+1=((k+1:Nat):Int);omega))) ((.keep 47 rfl rfl)))
 have hke:k=m.bt.length:=by omega
 subst hke
 refine dM ?_
 refine .aT (σ:=Nat) (fun k=>[az b3 [ai 1 eA (m.an.map (·.Value)),(ai 1 dJ (uv m m.bt.length)),(ai 3 gf (mB m k))],az b6 [aa (.slice none 0 0),aa (.slice none 0 0),aa (.slice none 0 0)]]) (fun k=>[(11,ag .i64 (k:Int))]) (fun k=>k≤m.aZ.length∧nN m k) (fun k=>m.aZ.length-k) 0 ⟨Nat.zero_le _,nN.nil⟩ rfl ?_ ?_
 · exact (.get rfl (af.refl _) (.refl _ _))
 rintro k ⟨hk,hds⟩
 refine Z9 ?_
 refine Cd (fun c3=> ?_) fun c3=> ?_
 ·
  obtain ⟨z,hz⟩:=ah (xs:=m.aZ) (k:=k) (by omega)
  obtain ⟨hi1,hi2,Vx,hi4⟩:=av.da z (List.mem_of_getElem? hz)
  have bu8:=pX m k
  obtain ⟨r,hr⟩:=ah (xs:=mB m k) (k:=z.Mem.toNat) (by unfold jt at hi1;omega)
  obtain ⟨hro,hrp⟩:=Ds av k _ r hr
  have hrf:=hro.tu;have hrq:=hro.pages
  have V4:=KC (m:=m) (d:=z) hi4
  rw [←hrp] at V4
  refine Z8 ?_
  refine .p (cI k (h:=hz)) rfl ?_
  refine Z1 ?_
  refine .n (ax FZ.out) rfl fun Rl _=> ?_
  refine Z3 ?_
  refine .share (t:=12) (i:=0) rfl rfl ?_
  refine Z2 ?_
  refine .bx 12 1 FM.out (by kernel_rfl) (k:= ?_)
  refine Z3 ?_
  refine .p ((mE FA.out (.t rfl)).le (af.int (show z.Mem=((z.Mem.toNat:Nat):Int) by (unfold jt at hi1;omega)))) ?_
  refine .p (cI z.Mem.toNat (h:=hr)) ?_
  refine .p (bl.le (kK FA.out FC.out rfl (.t rfl) rfl) (af.refl (aC (gf r)))) ?_
  refine Z1 ?_
  refine .p ((mE FA.out (.t rfl)).le (af.int (show z.At=((z.At.toNat:Nat):Int) by omega))) ?_
  refine Z5 ?_
  refine .p (cA (h:=Dw (r:=r) (a:=z.At.toNat) (o:=0) (n:=z.Bytes.length) hrq (by omega) (by decide) (by omega))) rfl ?_
  refine Z2 ?_
  refine Cd (fun c4=> ?_) fun c4=> ?_
  ·
   have hbd:=V4.2 c4
   have hb4:=RN hi4 hbd
   refine Z2 ?_
   refine .p (bl.le (iX (i:=0) FA.out FC.out rfl (.t rfl) rfl rfl) (af.refl (aC (pW (uw m m.bt.length k))))) rfl ?_
   refine cT ?_
   refine Post.bf rfl rfl ((m.bt.length,k+1,((xL m z).2.1:Int))) (by exact od.da hz RR hds hbd) (aB.dD [] [0,1] rfl rfl) rfl (.cons (.ra (i:=1) FA.out FC.out rfl rfl rfl rfl) ?_ (.cons (.rt rfl) ?_ .nil))
   · exact af.of_eq (by simp only [uw,Pn hz hbd];rfl)
   exact af.int (by rw [hb4];rfl)
  have hok:(xL m z).2=(0,0):=Classical.not_not.1 fun h=>c4 (V4.1 h)
  refine Z4 ?_
  refine .n (cq gf ([]:List RM) FU.out FC.out rfl FZ.out rfl .nil rfl rfl rfl rfl rfl) rfl fun g95 _=> ?_
  refine Z2 ?_
  refine .n (aD (i:=0) (xs:=([]:List RM)) (ys:=mB m k) FU.out FU.out FC.out rfl FZ.out rfl FY.out (.t rfl) (.t rfl) rfl (by rw [pX];simp only [List.length_nil];omega) (by rw [pX];simp only [List.length_nil];omega)) rfl fun g98 _=> ?_
  refine Z4 ?_
  refine .iy 0 rfl (fun e=>by rw [show ([]++mB m k)=mB m k from rfl] at e;rw [e] at hr;cases hr) fun fb cap Vw=> ?_
  subst Vw
  have wh:z.Mem.toNat<([]++mB m k).length:=(List.getElem?_eq_some_iff.1 hr).1
  refine .bx 15 2 FM.out (by kernel_rfl) (k:= ?_)
  refine Z3 ?_
  refine .p ((mE FA.out (.t rfl)).le (af.int (show z.Mem=((z.Mem.toNat:Nat):Int) by (unfold jt at hi1;omega)))) ?_
  refine Z3 ?_
  refine .p ((mE FA.out (.t rfl)).le (af.int (show z.Mem=((z.Mem.toNat:Nat):Int) by (unfold jt at hi1;omega)))) ?_
  refine .p (aX z.Mem.toNat FU.out FC.out rfl (.t rfl) (.t rfl) rfl wh) ?_
  refine .p (bl.le (kO (enc:=gf) (i:=0) (r:=0) FA.out FC.out rfl (.t rfl) rfl hr rfl) (af.refl (aC (gf r)))) ?_
  refine Z1 ?_
  refine .p ((mE FA.out (.t rfl)).le (af.int (show z.At=((z.At.toNat:Nat):Int) by omega))) ?_
  refine Z2 ?_
  refine .p (cA (h:=Gj (r:=r) (a:=z.At.toNat) (ys:=z.Bytes) (by omega) (by omega))) ?_
  refine Z1 ?_
  refine .p (aX z.Mem.toNat FU.out FC.out rfl (.t rfl) (.t rfl) rfl wh) rfl ?_
  refine .s (wo (enc:=gf) (i:=0) (r:=0) (qM r z.At.toNat z.Bytes) rfl FC.out rfl (.t rfl) (.t rfl) rfl rfl hr rfl rfl) ?_
  refine Z3 ?_
  refine .eR (i:=0) (j:=0) (f:=2) rfl rfl (by rw [List.length_set];rfl) ?_
  refine Z5 ?_
  refine .round (k+1) ⟨by omega,hds.next hz hok⟩ (by omega) (by simp only [Ay hz,Pk,if_pos hok,hr,Option.getD_some];try rfl) ?_
  exact (.get rfl (af.int (by (show (k:Int)+1=((k+1:Nat):Int);omega))) ((.keep 48 rfl rfl)))
 have hke:k=m.aZ.length:=by omega
 subst hke
 refine Z7 ?_
 refine .p (bl.le (iX (i:=0) FA.out FC.out rfl (.t rfl) rfl rfl) (af.refl (aC (pW (uw m m.bt.length m.aZ.length))))) rfl ?_
 refine Z5 ?_
 refine Post.bf rfl rfl ((m.bt.length,m.aZ.length,0)) (by exact od.all RR hds) (aB.dD [] [0,1] rfl rfl) rfl (.cons (.ra (i:=1) FA.out FC.out rfl rfl rfl rfl) ?_ (.cons (.rt rfl) ?_ .nil))
 · exact .z
 exact .z
variable {pb:Nat}
theorem Gk {mv:VP} (av:dm X a) (hp1:nK m) (hp2:a.height+(fH m+oE m)≤X.size):cw Tryz.prog 36 [aI sb 0] (nJ sb X pb m num 0 0 mv::ez X a) (γ:=Unit) (fun _=>True) (fun _=>nJ sb X pb m num (a.height:Int) ((a.height+fH m:Nat):Int) mv::ez X (mI a m)) (fun _=>ag .i64 0):=by
 refine In 59 Tryz.func36 fun _ _ _=> ?_
 have hm1:fH m=aW (8*m.an.length):=rfl
 have hm2:oE m=aW (4*eC m):=rfl
 have EO:=hp1.r1;have D2:=hp1.r2;have hkh:=av.hi;have hkm:=av.most;have Hi:=av.live
 have Vm:=hp1.gl
 have htn:(max m.Table 0)=((eC m:Nat):Int):=by unfold eC;omega
 refine dM ?_
 refine .bP [(0,0),(1,0),(2,0),(3,0),(4,1),(5,0),(6,0),(7,0),(8,1),(9,0),(10,0),(11,0),(12,0),(13,0),(14,2),(15,0),(16,0),(17,0),(18,0),(19,0),(20,3)] 21 1 FM.out (by kernel_rfl) (k:= ?_)
 refine lg ?_
 refine .p rfl (fun _=>(G3 (.c _) (.t rfl) dL).le (af.int (show _=((8*m.an.length:Nat):Int) by omega))) ?_
 refine .e rfl (kZ [_] [1,2,3,4,0] (h:=uc (X:=X) (a:=a) (n:=8*m.an.length) av)) fun g19 Vo=> ?_
 refine Z5 ?_
 refine .s rfl (iY (i:=4) FC.out (.t rfl) (.t rfl) rfl rfl) ?_
 refine .fin ?_
 refine Z3 ?_
 rw [EY av (by omega) (by omega)] at Vo
 subst Vo
 refine Z6 ?_
 refine Cd (fun c0=> ?_) fun c0=> ?_
 · exact absurd rfl c0
 refine Z4 ?_
 refine .bP [(0,0),(1,0),(2,0),(3,0),(4,1),(5,0),(6,0),(7,0),(8,1),(9,0),(10,0),(11,0),(12,0),(13,0),(14,2),(15,0),(16,0),(17,0),(18,0),(19,0),(20,3)] 21 1 FM.out (by kernel_rfl) (k:= ?_)
 refine Z4 ?_
 refine .o rfl (fB (i:=4) FA.out (.t rfl) rfl rfl) ?_
 refine Z3 ?_
 refine .o rfl (fB (i:=4) FA.out (.t rfl) rfl rfl) ?_
 refine Z4 ?_
 refine .p rfl (fun _=>(G3 (.c _) (.t rfl) (by rw [htn];exact bY (by omega) (by omega))).le (af.int (show _=((4*eC m:Nat):Int) by rw [htn];omega))) ?_
 refine .e rfl (cE (h:=uc (X:=X) (a:=Q9 a (fH m)) (n:=4*eC m) (r8 av (by omega)))) fun Ud S9=> ?_
 refine Z5 ?_
 refine .s rfl (iY (i:=4) FC.out (.t rfl) (.t rfl) rfl rfl) ?_
 refine .fin ?_
 refine Z3 ?_
 rw [EY (r8 av (by omega)) (by omega) (by simp only;omega)] at S9
 subst S9
 refine Z6 ?_
 refine Cd (fun c1=> ?_) fun c1=> ?_
 · exact absurd rfl c1
 refine Z9 ?_
 refine Post.aP rfl (()) (by trivial) (aB.dD [4,0,1,2,3] [] rfl rfl) (.rt rfl) ?_
 exact .z
theorem I3 {z:eo}:cW Tryz.prog 80 [aC (eY z),ag .i64 65536] (ag .i64 (nM z:Int)):=by
 refine In 11 Tryz.func80 fun _ _ _=> ?_
 refine iW ?_
 refine Cd (fun c0=> ?_) fun c0=> ?_
 ·
  refine Z8 ?_
  refine bL ?_
  exact af.int (by unfold nM;rw [if_pos (by omega)];rfl)
 refine cK ?_
 refine bL ?_
 exact af.int (by unfold nM;rw [if_neg (by omega)];omega)
theorem I4 {t:Int} {g:Nat} (av:dm X a) (hp1:nK m) (hp2:g+8*m.an.length≤X.size) (fI:0≤num) (oe:num≤1073741824):cw Tryz.prog 37 [aI sb 0] (nJ sb X pb m num (g:Int) t (aa (.slice none 0 0))::ru X a) (γ:=SB×List Nat) (fun g2=>g2.2.length=m.bp.length) (fun g2=>fZ pb g2.2 (yj m num m.bp.length)::au g2.1 1 fz g2.2::nJ sb X pb m num (g:Int) t (aa (bq g2.1 (g2.2).length))::ru X (HZ m g a m.an.length)) (fun _=>bD []):=by
 refine In 71 Tryz.func37 fun _ _ _=> ?_
 have Vm:=hp1.gl;have hml:=hp1.ml;have hkm:=av.most
 refine nZ ?_
 refine .aT (σ:=Nat) (fun k=>nJ sb X pb m num (g:Int) t (aa (.slice none 0 0))::ru X (HZ m g a k)) (fun k=>[(16,ag .i64 (k:Int))]) (fun k=>k≤m.an.length) (fun k=>m.an.length-k) 0 (Nat.zero_le _) rfl ?_ ?_
 · exact (.get rfl (af.refl _) (.refl _ _))
 rintro k hk
 refine Z6 ?_
 refine Cd (fun c0=> ?_) fun c0=> ?_
 ·
  obtain ⟨z,hz⟩:=ah (xs:=m.an) (k:=k) (by omega)
  have W2:=hp1.gv z (List.mem_of_getElem? hz)
  refine Z7 ?_
  refine .p (cI k (h:=hz)) rfl ?_
  refine Z1 ?_
  refine .n (ax FZ.out) rfl fun b3 _=> ?_
  refine Z4 ?_
  refine .share (t:=3) (i:=0) rfl rfl ?_
  refine Z4 ?_
  refine .p ((mE FA.out (.t rfl)).le (af.int (show z.Value=((z.Value.toNat:Nat):Int) by omega))) rfl ?_
  refine .n (cE (h:=BW (a:=HZ m g a k) (g:=g) (i:=k) (v:=z.Value.toNat) (z:=z) hz (r9 av k (by omega)) (by omega) (by omega) W2.2.2 Vm)) rfl fun Ri Qh=> ?_
  refine Z7 ?_
  refine .round (k+1) (by omega) (by omega) (by show _=_::ru X ((HZ m g a k).put (g+8*k) (yg (wO (LN m k).Ty (LN m k).Value.toNat) 8));rw [Kf hz];try rfl) ?_
  exact (.get rfl (af.int (by (show (k:Int)+1=((k+1:Nat):Int);omega))) ((.keep 15 rfl rfl)))
 have hke:k=m.an.length:=by omega
 subst hke
 refine Z6 ?_
 refine .own (tv (n:=1) (enc:=fz)) ?_
 refine .own (OR (pb:=pb)) ?_
 refine lg ?_
 refine .aT (σ:=SB×List Nat×Nat) (fun q=>fZ pb q.2.1 (yj m num q.2.2)::au q.1 1 fz q.2.1::nJ sb X pb m num (g:Int) t (aa (bq q.1 (q.2.1).length))::ru X (HZ m g a m.an.length)) (fun q=>[(35,ag .i64 (q.2.2:Int))]) (fun q=>q.2.1.length=q.2.2∧q.2.2≤m.bp.length) (fun q=>m.bp.length-q.2.2) (none,[],0) ⟨rfl,Nat.zero_le _⟩ rfl ?_ ?_
 · exact (.get rfl (af.refl _) (.refl _ _))
 rintro ⟨s1,bs,k⟩ ⟨hb,hk⟩
 simp only at hb hk ⊢
 refine Z6 ?_
 refine Cd (fun c1=> ?_) fun c1=> ?_
 ·
  obtain ⟨z,hz⟩:=ah (xs:=m.bp) (k:=k) (by omega)
  have RS:=E1 hp1 (List.mem_of_getElem? hz) (n:=num+(k:Int)) (by omega)
  refine Z7 ?_
  refine .p (cI k (h:=hz)) rfl ?_
  refine Z1 ?_
  refine .n (ax FZ.out) rfl fun b5 _=> ?_
  refine Z4 ?_
  refine .share (t:=5) (i:=0) rfl rfl ?_
  refine Z1 ?_
  refine .bP [(0,0),(1,0),(2,0),(3,1),(4,0),(5,0),(6,0),(7,1),(8,0),(9,0),(10,0),(11,0),(12,0),(13,0),(14,0),(15,0),(16,2),(17,0),(18,0),(19,0),(20,0)] 21 1 FM.out (by kernel_rfl) (k:= ?_)
  refine cT ?_
  refine .p rfl (fun _=>(mE FA.out (.t rfl)).le (af.int RS.2.1)) ?_
  refine .p rfl (fun _=>bl.le (kK FA.out FC.out rfl (.t rfl) rfl) (af.refl (aC (eY z)))) ?_
  refine .p rfl (fun _=>bQ (I3) FB.out (.cons (.t rfl) (.cons (.c _) .nil))) ?_
  refine Z2 ?_
  refine .e rfl (cE (h:=LY (pb:=pb) (num:=num+(k:Int)) (pages:=z.Min.toNat) (most:=nM z) (wide:=z.bN) (by omega) RS.2.2.1 RS.2.2.2)) fun W3 h57=> ?_
  refine Z4 ?_
  refine .fin ?_
  refine Z3 ?_
  refine .own (OQ (by rw [lX];exact hb)) ?_
  refine Z7 ?_
  refine .p (cB fz [W3]) rfl ?_
  refine .n (aD (i:=1) (xs:=bs) (ys:=[W3]) FU.out FU.out FC.out rfl FZ.out rfl FY.out (.t rfl) (.t rfl) rfl (by simp only [List.length_cons,List.length_nil];omega) (by simp only [List.length_cons,List.length_nil];omega)) rfl fun g67 _=> ?_
  refine cK ?_
  refine .round (g67,bs++[W3],k+1) ⟨by (show (bs++[W3]).length=k+1;simp [hb]),by (show k+1≤_;omega)⟩ (by show m.bp.length-(k+1)<m.bp.length-k;omega) (by simp only [WC hz];try rfl) ?_
  exact (.get rfl (af.int (by (show (k:Int)+1=((k+1:Nat):Int);omega))) ((.keep 42 rfl rfl)))
 have hke:k=m.bp.length:=by omega
 subst hke
 refine Z4 ?_
 refine Post.ij rfl ((s1,bs)) (by exact hb) (fun _ _ _ h=>h) rfl
theorem I5 {g:Int} {mv:VP} {e:fR} (av:dm X a) (hp1:nK m) (hp2:t0+4*eC m≤X.size) (fI:e∈m.bt):cw Tryz.prog 81 [aI sb 0,aC (fS e)] (nJ sb X pb m num g (t0:Int) mv::ru X a) (γ:=Unit) (fun _=>True) (fun _=>nJ sb X pb m num g (t0:Int) mv::ru X (Kh m t0 e a)) (fun _=>ag .i64 (T3 m e)):=by
 refine In 60 Tryz.func81 fun _ _ _=> ?_
 obtain ⟨qZ,DZ,Hq,he3⟩:=hp1.el e fI
 have D2:=hp1.r2;have hkm:=av.most
 have htn:(max m.Table 0)=((eC m:Nat):Int):=by unfold eC;omega
 have hbd:iO m e↔((eC m:Int)<e.At∨(eC m:Int)-e.At<(e.ay.length:Int)):=Iff.rfl
 refine nZ ?_
 refine .p ((Sx (.t rfl) (.c _)).le (af.int htn)) rfl ?_
 refine .p ((qd FU.out FU.out (.t rfl) dL).le (af.int (show _=((eC m:Nat):Int) by omega))) rfl ?_
 refine Z23 ?_
 refine Cd (fun c0=> ?_) fun c0=> ?_
 ·
  have hb:iO m e:=hbd.2 (by omega)
  have AE:Kh m t0 e a=a:=if_pos hb
  have AF:T3 m e=5:=if_pos hb
  refine Z7 ?_
  refine Post.aP rfl (()) (by trivial) (aB.of_eq (by rw [AE])) (.rt rfl) ?_
  exact af.int (by rw [AF])
 have hb:¬iO m e:=fun h=>c0 (by have h2:=hbd.1 h;omega)
 have AE:Kh m t0 e a=Nn t0 e a e.ay.length:=if_neg hb
 have AF:T3 m e=0:=if_neg hb
 have hin:e.At+(e.ay.length:Int)≤(eC m:Int):=by (have h3:=fun h=>hb (hbd.2 h);omega)
 refine dM ?_
 refine .aT (σ:=Nat) (fun k=>nJ sb X pb m num g (t0:Int) mv::ru X (Nn t0 e a k)) (fun k=>[(35,ag .i64 (k:Int))]) (fun k=>k≤e.ay.length) (fun k=>e.ay.length-k) 0 (Nat.zero_le _) rfl ?_ ?_
 · exact (.get rfl (af.refl _) (.refl _ _))
 rintro k hk
 refine Z6 ?_
 refine Cd (fun c1=> ?_) fun c1=> ?_
 ·
  obtain ⟨z,hz⟩:=ah (xs:=e.ay) (k:=k) (by omega)
  have v7:=he3 z (List.mem_of_getElem? hz)
  refine Z7 ?_
  refine .p (cI k (h:=hz)) rfl ?_
  refine Z5 ?_
  refine .bx 18 1 FM.out (by kernel_rfl) (k:= ?_)
  refine EC ?_
  refine .n (cz (rest:=[_]) (BU (a:=Nn t0 e a k) (at_:=t0+4*(e.At.toNat+k)) (w:=4) (v:=z.toNat+1) (wP av k (by omega)) (by omega) (.inr rfl) (by omega)) FB.out (.cons (.t rfl) (.cons (.le (.t rfl) (af.int (show _=((t0+4*(e.At.toNat+k):Nat):Int) by omega))) (.cons (.c _) (.cons (.le (.t rfl) (af.int (show _=((z.toNat+1:Nat):Int) by omega))) .nil)))) (Perm.idx [1,2,0] rfl rfl)) rfl fun g58 h58=> ?_
  refine Z7 ?_
  refine .own (aB.perm (Perm.idx [2,0,1] rfl rfl)) (bK.round (k+1) (by omega) (by omega) (by show _=_::ru X ((Nn t0 e a k).put (t0+4*(e.At.toNat+k)) (yg (((e.ay[k]?).getD 0).toNat+1) 4));rw [hz];try rfl) ?_)
  exact (.get rfl (af.int (by (show (k:Int)+1=((k+1:Nat):Int);omega))) ((.keep 28 rfl rfl)))
 have hke:k=e.ay.length:=by omega
 subst hke
 refine cT ?_
 refine Post.aP rfl (()) (by trivial) (aB.of_eq (by rw [AE])) (.rt rfl) ?_
 exact af.int (by rw [AF])
theorem I6 {pg:tq} {g:Int} {mm:Nat} {bs:List Nat} {Co:Cont} (av:dm X a) (hp1:nK m) (hp2:t0+4*eC m≤X.size) (fI:bs.length=m.bp.length) (oe:0≤num) (yE:mm+yB m m.aZ.length≤4096):cw Tryz.prog 38 [aI sb 0] (fZ pg.pb bs (yj m num m.bp.length)::nJ sb X pg.pb m num g (t0:Int) (ai 1 fz bs)::ru X (ua m t0 a 0)++[ek pg 64 4096 (fun _=>True) (pQ m num Co 0) (mm+yB m 0) wB]) (γ:=Nat×Nat×Int) (fun r=>od m r) (fun r=>(fZ pg.pb bs (yj m num m.bp.length)::nJ sb X pg.pb m num g (t0:Int) (ai 1 fz bs)::ru X (ua m t0 a r.1)++[ek pg 64 4096 (fun _=>True) (pQ m num Co r.2.1) (mm+yB m m.aZ.length) wB])) (fun r=>bD [ag .i64 r.2.2,ag .i64 0]):=by
 refine In 67 Tryz.func38 fun _ _ _=> ?_
 have Kl:=hp1.ll;have GZ:=hp1.dl;have hkm:=av.most
 refine Vf ?_
 refine .aT (σ:=Nat) (fun k=>(fZ pg.pb bs (yj m num m.bp.length)::nJ sb X pg.pb m num g (t0:Int) (ai 1 fz bs)::ru X (ua m t0 a k)++[ek pg 64 4096 (fun _=>True) (pQ m num Co 0) (mm+yB m 0) wB])) (fun k=>[(19,ag .i64 (k:Int))]) (fun k=>k≤m.bt.length∧ku m k) (fun k=>m.bt.length-k) 0 ⟨Nat.zero_le _,ku.nil⟩ rfl ?_ ?_
 · exact (.get rfl (af.refl _) (.refl _ _))
 rintro k ⟨hk,RR⟩
 refine Z6 ?_
 refine Cd (fun c0=> ?_) fun c0=> ?_
 ·
  obtain ⟨z,hz⟩:=ah (xs:=m.bt) (k:=k) (by omega)
  have hzm:=List.mem_of_getElem? hz
  have hok:=yz (X:=X) (t:=t0) av hp1 hp2 k
  refine Z6 ?_
  refine .p (cI k (h:=hz)) rfl ?_
  refine Z1 ?_
  refine .n (ax FZ.out) rfl fun b5 _=> ?_
  refine Z3 ?_
  refine .share (t:=5) (i:=0) rfl rfl ?_
  refine Z3 ?_
  refine .p (bl.le (kK FA.out FC.out rfl (.t rfl) rfl) (af.refl (aC (fS z)))) rfl ?_
  refine .n (kZ [_,_] [1,2,3,0,4] (h:=I5 (a:=ua m t0 a k) (e:=z) hok.1 hp1 hp2 hzm)) rfl fun Ri Qh=> ?_
  refine Z9 ?_
  refine Cd (fun c1=> ?_) fun c1=> ?_
  ·
   have Qn:iO m z:=Ra c1
   have hel:Kh m t0 z (ua m t0 a k)=ua m t0 a k:=if_pos Qn
   rw [hel]
   refine lg ?_
   refine Post.bf rfl rfl ((k,0,5)) (by exact od.el hz RR Qn) (aB.trans (aB.perm (Perm.idx [3,0,1,2,4] rfl rfl)) (aB.cons _ (aB.cons _ (aB.cons _ (aB.cons _ (uY (by have:=zN (m:=m) (Nat.zero_le m.aZ.length);omega))))))) rfl (.cons (.rt rfl) ?_ (.cons (.rt rfl) ?_ .nil))
   · exact af.int (show T3 m z=5 from if_pos Qn)
   exact af.refl _
  have Qn:¬iO m z:=T5 c1
  refine Z7 ?_
  refine .own (aB.perm (Perm.idx [3,0,1,2,4] rfl rfl)) (bK.round (k+1) ⟨by omega,RR.next hz Qn⟩ (by omega) (by simp only [OO hz];try rfl) ?_)
  exact (.get rfl (af.int (by (show (k:Int)+1=((k+1:Nat):Int);omega))) ((.keep 14 rfl rfl)))
 have hke:k=m.bt.length:=by omega
 subst hke
 refine La ?_
 refine .aT (σ:=Nat) (fun k=>(fZ pg.pb bs (yj m num m.bp.length)::nJ sb X pg.pb m num g (t0:Int) (ai 1 fz bs)::ru X (ua m t0 a m.bt.length)++[ek pg 64 4096 (fun _=>True) (pQ m num Co k) (mm+yB m k) wB])) (fun k=>[(38,ag .i64 (k:Int))]) (fun k=>k≤m.aZ.length∧nN m k) (fun k=>m.aZ.length-k) 0 ⟨Nat.zero_le _,nN.nil⟩ rfl ?_ ?_
 · exact (.get rfl (af.refl _) (.refl _ _))
 rintro k ⟨hk,hds⟩
 refine Z6 ?_
 refine Cd (fun c2=> ?_) fun c2=> ?_
 ·
  obtain ⟨z,hz⟩:=ah (xs:=m.aZ) (k:=k) (by omega)
  obtain ⟨hi1,hi2,Vx,hi4⟩:=hp1.da z (List.mem_of_getElem? hz)
  obtain ⟨y,hy⟩:=ah (xs:=m.bp) (k:=z.Mem.toNat) (by unfold jt at hi1;omega)
  obtain ⟨b,hb⟩:=ah (xs:=bs) (k:=z.Mem.toNat) (by unfold jt at hi1;omega)
  have hmk:=CY (num:=num) (k:=m.bp.length) hy (List.getElem?_eq_some_iff.1 hy).1
  have RS:=E1 hp1 (List.mem_of_getElem? hy) (n:=num+(z.Mem.toNat:Int)) (by omega)
  have hdn:=zN (m:=m) (show k+1≤m.aZ.length by omega)
  have am0:=SY hz
  have W4:xL m z=cg y.Min.toNat z.At.toNat 0 (z.Bytes.length:Int):=by unfold xL;rw [yA hy]
  have hde:=WD (m:=m) (d:=z) hi4
  have am1:(cg y.Min.toNat z.At.toNat 0 (z.Bytes.length:Int)).2.2=0:=W4▸hde
  refine Z6 ?_
  refine .p (cI k (h:=hz)) rfl ?_
  refine Z1 ?_
  refine .n (ax FZ.out) rfl fun b8 _=> ?_
  refine Z3 ?_
  refine .share (t:=8) (i:=0) rfl rfl ?_
  refine Z1 ?_
  refine .own (vi hb hmk) ?_
  refine .bP [(0,0),(1,0),(2,0),(3,1),(4,0),(5,0),(6,0),(7,0),(8,0),(9,0),(10,0),(11,0),(12,2),(13,0),(14,0),(15,0),(16,0)] 17 1 FM.out (by kernel_rfl) (k:= ?_)
  refine Z5 ?_
  refine .p rfl (fun _=>(mE FA.out (.t rfl)).le (af.int (show z.Mem=((z.Mem.toNat:Nat):Int) by (unfold jt at hi1;omega)))) ?_
  refine .p rfl (fun _=>aO (j:=z.Mem.toNat) FU.out FC.out rfl (.t rfl) (.t rfl) rfl hb) ?_
  refine Z2 ?_
  refine .p rfl (fun _=>(mE FA.out (.t rfl)).le (af.int (show z.At=((z.At.toNat:Nat):Int) by omega))) ?_
  refine Z2 ?_
  refine .e rfl (kZ [_,_,_,_] [0,5,1,2,3,4] (h:=xT (mb:=b) (mm:=OP y (num+(z.Mem.toNat:Int))) (X:=pg) (z:=64) (q:=4096) (m:=mm+yB m k) (T:=fun _=>True) (C:=pQ m num Co k) (R:=wB) (a:=z.At.toNat) (o:=0) (ys:=z.Bytes) (zG _) (by decide) (by decide) RS.1 (by omega) (by decide) (by omega) (by omega))) fun Uo Vv=> ?_
  refine Z4 ?_
  refine .fin ?_
  refine Z3 ?_
  refine .own (aB.perm (Perm.idx [0,2,3,4,5,1] rfl rfl)) ?_
  refine .own (yC hb hmk) ?_
  refine .own (aB.cons _ (aB.cons _ (aB.cons _ (aB.cons _ (aB.xJ (show _=ek pg 64 4096 (fun _=>True) (pQ m num Co (k+1)) (mm+yB m (k+1)) wB by rw [C0 hz,am0,Nat.add_assoc mm];unfold Vl;rw [W4])))))) ?_
  refine cK ?_
  refine Cd (fun c3=> ?_) fun c3=> ?_
  ·
   have hbd:(xL m z).2≠(0,0):=fun h=>by (rw [W4] at h;simp [h] at c3)
   refine iW ?_
   refine Post.bf rfl rfl ((m.bt.length,k+1,((xL m z).2.1:Int))) (by exact od.da hz RR hds hbd) (aB.cons _ (aB.cons _ (aB.cons _ (aB.cons _ (uY (Nat.add_le_add_left hdn mm)))))) rfl (.cons (.rt rfl) ?_ (.cons (.rt rfl) ?_ .nil))
   · exact af.int (congrArg (fun q:Nat×Nat×Nat=>((q.2.1:Nat):Int)) W4.symm)
   exact af.int (congrArg Nat.cast am1)
  have c3b:¬(((cg y.Min.toNat z.At.toNat 0 (z.Bytes.length:Int)).2.1:Int)≠0∨((cg y.Min.toNat z.At.toNat 0 (z.Bytes.length:Int)).2.2:Int)≠0):=c3
  have hbd:(xL m z).2=(0,0):=by (rw [W4];exact Prod.ext (by omega) (by omega))
  refine Z7 ?_
  refine .round (k+1) ⟨by omega,hds.next hz hbd⟩ (by omega) (by simp only [C0 hz,SY hz];try rfl) ?_
  exact (.get rfl (af.int (by (show (k:Int)+1=((k+1:Nat):Int);omega))) ((.keep 32 rfl rfl)))
 have hke:k=m.aZ.length:=by omega
 subst hke
 refine dM ?_
 refine Post.bf rfl rfl ((m.bt.length,m.aZ.length,0)) (by exact od.all RR hds) (fun _ _ _ h=>h) rfl (.cons (.rt rfl) ?_ (.cons (.rt rfl) ?_ .nil))
 · exact .z
 exact .z
end Go.Proofs.YtpfobikpggmleaaGreatDoor
end
section
namespace Go.Hl
def W5 (p:Prop):List VP:=[aq p]
instance:hU 1 W5:=⟨fun _=>rfl,fun x q h=>by simp only [W5,List.mem_cons,List.not_mem_nil,or_false] at h;subst h;infer_instance⟩
def sgP (n:Nat) (op:Int) (A:Nat):Prop:=(op=3∨op=5)∧2^(n-1)≤A
instance {n:Nat} {op:Int} {A:Nat}:Decidable (sgP n op A):=by unfold sgP;infer_instance
def noI:aA:=⟨-1,0,0,0,[]⟩
def isC (x:aA):Prop:=x.Code=65∨x.Code=66
instance (x:aA):Decidable (isC x):=by unfold isC;infer_instance
def Ta (c:Int):Prop:=((c=0∨c=12)∨c=14)∨c=15
def PA (c:Int):Prop:=(2≤c∧c≤5)∨c=11
instance (c:Int):Decidable (Ta c):=by unfold Ta;infer_instance
instance (c:Int):Decidable (PA c):=by unfold PA;infer_instance
abbrev gI (l:List aA) (i:Nat):aA:=l.getD i noI
end Go.Hl
end
section
namespace Go.Hl
open Go.RowKit
section
variable {P:Program} {hs:List HP} {env:Env} {q:VP} {dst:Option Tmp} {ty T T' E:TypeId} {pos:String} {after:Array Edge} {gd:Option (Nat×Bool)} {x y z:Operand}
theorem I7 {α:Type} {n N by_:Nat} {i:Int} {k:IntKind} {enc:α→List VP} {zs:List Value} (hT:P.underlying T=some (.slice E)) (NH:P.underlying T'=some (.int k)) (hn:P.cellsOf E=N) (h0:Nat.blt 0 N=true)
    (hz:jI P E=some zs) (hzl:zs.length=N) (hb:P.bytesOf E=by_) (hx:bu env x (aa (.slice none 0 0))) (hy:bu env y (ag .i64 i)) (hi:i=(n:Int)) (Vt:0<n) (hroom:(2*n+256)*by_≤281474976710656) (hlen:n≤281474976710656):
    fV P hs env ⟨dst, .call ⟨.builtin .append, #[x,y], #[T,T']⟩,ty,pos,after,gd⟩ (γ:=Nat×Nat) (fun _=>True) (fun g=>au (some g) N enc ([]:List α)::hs) (fun g=>aa (bq (some g) n)):=by
  intro c a w S F aF hown qe K Q hk
  have hv:=hx S w a qe;simp only [aa] at hv
  have Bl:=hy S w a qe;simp only [aa] at Bl
  subst hi
  have hsz:=run_sizeOf hn h0 w
  obtain ⟨info,hi1,hi2⟩:=dg hn h0 w
  have hbytes:info.bytes=by_:=hi2.trans hb
  have hw:IntKind.i64.wrap (n:Int)=(n:Int):=eE (bY (by omega) (by omega))
  have K3:¬((n:Int)<0):=by omega
  have NJ:=nextslicecap_le (need:=n) (cap:=0) (by omega)
  have hcapB:Builtin.nextslicecap n 0*by_≤281474976710656:=Nat.le_trans (Nat.mul_le_mul_right _ NJ) hroom
  obtain ⟨zv',hz1',hz2'⟩:=gy hz w.drew
  obtain ⟨info',hi1',hi2'⟩:=dg hn h0 w.drew
  generalize y3:Question.cut (.appendCap n 0 E) (w.tape w.drawn (.appendCap n 0 E))=newCap
  have hge:n≤newCap:=by rw [←y3];simp only [Question.cut];omega
  have hN0:0<N:=by simpa using h0
  have hnN:¬(n*N=0):=Nat.mul_ne_zero (by omega) (by omega)
  let row:Array Value:=Builtin.zeroCells zv'.cells n++Builtin.zeroCells zv'.cells (newCap-n)
  have hr:(execOp a.eval ⟨dst, .call ⟨.builtin .append, #[x,y], #[T,T']⟩,ty,pos,after,gd⟩).run P w= .ok (.value (.slice (some ⟨w.heap.size,0,none⟩) n newCap)) (w.drew.alloc (.cells row E)):=by
    have hnot:¬(n≤0):=by omega
    have hn0:¬(n=0):=by omega
    have am2:¬(N=0):=by omega
    have v8:¬((9223372036854775807:Int)<(n:Int)):=by omega
    have y4:¬(281474976710656<Builtin.nextslicecap n 0*by_):=by omega
    have hnb:n*by_≤281474976710656:=Nat.le_trans (Nat.mul_le_mul_right _ (by omega)) hroom
    have W6:¬((281474976710656:Int)<(n:Int)*(by_:Int)):=by rw [←Int.natCast_mul];omega
    have hvx2':(Builtin.firstCells N 0 (.slice none 0 0)).run P w.drew= .ok #[] w.drew:=by simp [Builtin.firstCells]
    simp [execOp,resolve,invoke,builtin,Builtin.append_,hv,Bl,run_underlying hT,run_underlying NH,hsz,asInt,asIntOf,hw,K3,hn0,am2,v8,hi1,hbytes,y4,W6,hnN,Question.forced,y3,hi1',hvx2',hz1',newRow,row]
    done
  generalize hw':w.drew.alloc (.cells row E)=w' at hr
  unfold Oper.wp
  rw [hr]
  have hs1:kI c w.drew S F:=aF.grow (Grow.drew w S)
  have TD:cS hs F S w.drew:=(Grow.drew w S).yX aF.bO aF.bZ hown
  subst hw'
  refine hk (w.heap.size,newCap) _ _ S _ trivial (hs1.eN _) (fun _ h=>h) (fun k hk=>bB w _ k (aF.bO k hk)) (TD.eN aF.bO aF.bZ _ ⟨rfl,Nat.zero_le _,by simp,row,E,by show (w.heap.push _)[w.heap.size]?=_;simp, ?_,fun j q h=>by simp at h⟩) rfl
  simp only [row,Array.size_append]
  have RT:∀m,(Builtin.zeroCells zv'.cells m).size=m*N:=fun m=>by rw [hz2'];simp [Builtin.zeroCells,hzl]
  rw [RT,RT,←Nat.add_mul,Nat.add_sub_cancel' hge]
theorem Gl {b cap len N:Nat} {i:Int} (hT:P.underlying T=some (.slice E)) (hn:P.cellsOf E=N) (h0:Nat.blt 0 N=true) (hx:bu env x (aa (bq (some (b,cap)) len))) (hy:bu env y (ag .i64 i)) (hi:i=0):
    bl P hs env ⟨dst, .slice T x none (some y) none,ty,pos,after,gd⟩ (aa (bq (some (b,cap)) 0)):=
  bl.aJ fun ρ w S F _ he=>by
    have hv:=he.o _ _ hx;have h2:=he.o _ _ hy;simp only [aa,bq] at hv h2
    subst hi
    have hs:=run_sizeOf (T:=E) hn h0 w
    refine ⟨.slice (some ⟨b,0,none⟩) 0 cap, ?_,rfl⟩
    simp [execOp,hv,h2,Instr.sliceAt,Instr.slice,Instr.sliceBounds,Instr.sliceBound,asIntOf,run_underlying hT,hs,Addr.add]
def Tb (l:List aA):List VP:=[ai 5 aK l]
instance:hU 1 Tb:=⟨fun _=>rfl,fun x q h=>by simp only [Tb,List.mem_cons,List.not_mem_nil,or_false] at h;subst h;infer_instance⟩
theorem PB {ats:Array TypeId} (vW:ats[0]?=some T) (hT:P.underlying T=some (.slice E)) (hx:bu env x (aa (.slice none 0 0))):bl P hs env ⟨dst, .call ⟨.builtin .cap, #[x],ats⟩,ty,pos,after,gd⟩ (ag .i64 0):=
 bl.aJ fun ρ w S F _ he=>by
  have hv:=he.o _ _ hx;simp only [aa] at hv
  exact ⟨_,by simp [execOp,resolve,invoke,builtin,Builtin.cap_,vW,hv,run_underlying hT,goInt],rfl⟩
theorem s7 {α:Type} {ls:List (List α)} {k:Nat} {l:List α} (h:ls[k]?=some l):(ls.take (k+1)).flatten=(ls.take k).flatten++l:=by
 rw [List.take_add_one,h];simp
theorem Ce {α:Type} (ls:List (List α)) (k:Nat):(ls.take k).flatten.length≤ls.flatten.length:=by
 have h:(ls.take k).flatten++(ls.drop k).flatten=ls.flatten:=by rw [←List.flatten_append,List.take_append_drop]
 have:=congrArg List.length h
 rw [List.length_append] at this;omega
end
section
variable {P:Program} {hs:List HP} {env:Env} {q:VP} {dst:Option Tmp} {ty T T' E:TypeId} {pos:String} {after:Array Edge} {gd:Option (Nat×Bool)} {x y z:Operand}
theorem Gm {N:Nat} {i:Int} (hT:P.underlying T=some (.slice E)) (hn:P.cellsOf E=N) (h0:Nat.blt 0 N=true) (hx:bu env x (aa (.slice none 0 0))) (hy:bu env y (ag .i64 i)) (hi:i=0):
    bl P hs env ⟨dst, .slice T x none (some y) none,ty,pos,after,gd⟩ (aa (.slice none 0 0)):=
  bl.aJ fun ρ w S F _ he=>by
    have hv:=he.o _ _ hx;have h2:=he.o _ _ hy;simp only [aa] at hv h2
    subst hi
    have hs:=run_sizeOf (T:=E) hn h0 w
    refine ⟨.slice none 0 0, ?_,rfl⟩
    simp [execOp,hv,h2,Instr.sliceAt,Instr.slice,Instr.sliceBounds,Instr.sliceBound,asIntOf,run_underlying hT,hs]
end
def xfS (c:Int):Prop:=if c=172∨c=173 then c=172 else if c=192∨c=193 then True else if c=194∨c=195∨c=196 then True else False
instance (c:Int):Decidable (xfS c):=by unfold xfS;infer_instance
section
variable {l:List aA} {i:Nat}
theorem vG {j:Nat} (h:j<l.length):l[j]?=some (gI l j):=by unfold gI;rw [List.getD_eq_getElem?_getD,List.getElem?_eq_getElem h];rfl
end
end Go.Hl
end
section
namespace Go.Proofs.YtpfobikpggmleaaGreatDoor
open Go.Hl Go.RowKit
theorem I8 {n:Nat} (av:n≤65536):cw Tryz.prog 240 [aa (.slice none 0 0),ag .i64 (n:Int)] [] (γ:=SB) (fun _=>True) (fun g=>[au g 1 aj ([]:List UInt8)]) (fun g=>aa (bq g 0)):=by
 refine In 27 Tryz.func240 fun _ _ _=> ?_
 refine dM ?_
 refine Cd (fun c0=> ?_) fun c0=> ?_
 ·
  exfalso
  omega
 refine Z7 ?_
 refine .p (PB rfl Tryz.underlying95 (.t rfl)) rfl ?_
 refine Z1 ?_
 refine .p (JN rfl Tryz.underlying95 (.le (.t rfl) (aG 1 aj))) rfl ?_
 refine .p (jZ (.t rfl) (.t rfl) (bY (by simp<;>omega) (by simp<;>omega))) rfl ?_
 refine .p ((jZ (.t rfl) (.t rfl) (bY (by simp<;>omega) (by simp<;>omega))).le (af.int (show _=(n:Int) by simp))) rfl ?_
 refine Z9 ?_
 refine Cd (fun c1=> ?_) fun c1=> ?_
 ·
  refine Z3 ?_
  refine .p (PB rfl Tryz.underlying95 (.t rfl)) rfl ?_
  refine .p (Gm FU.out FC.out rfl (.t rfl) (.t rfl) rfl) rfl ?_
  refine Z1 ?_
  refine .n (I7 (α:=UInt8) (N:=1) (enc:=aj) FU.out FU.out FC.out rfl FZ.out rfl FY.out (.t rfl) (.t rfl) rfl (by omega) (by omega) (by omega)) rfl fun g22 _=> ?_
  refine Z1 ?_
  refine .p (JN rfl Tryz.underlying95 (.le (.t rfl) (aG 1 aj))) rfl ?_
  refine .p (Gl FU.out FC.out rfl (.t rfl) (.t rfl) rfl) rfl ?_
  refine cK ?_
  refine Post.aP rfl (some g22) (by trivial) (fun _ _ _ h=>h) (.rt rfl) ?_
  exact af.refl _
 have hn0:n=0:=by omega
 refine .eu (α:=UInt8) 1 aj ?_
 refine Z9 ?_
 refine Post.aP rfl (none) (by trivial) (fun _ _ _ h=>h) (.rt rfl) ?_
 exact af.refl _
theorem Dx {ls:List (List UInt8)} (av:ls.flatten.length≤65536):cW Tryz.prog 226 [ai 1 dP ls] (ai 1 aj (ls.flatten)):=by
 refine In 36 Tryz.func226 fun _ _ _=> ?_
 refine .fact (t:=0) rfl (fun S w v h=>bM h) fun qX=> ?_
 refine EC ?_
 refine .aT (σ:=Nat) (fun _=>[]) (fun k=>[(11,ag .i64 (k:Int)),(3,ag .i64 ((ls.take k).flatten.length:Int))]) (fun k=>k≤ls.length) (fun k=>ls.length-k) 0 (Nat.zero_le _) rfl ?_ ?_
 · exact (.get rfl (af.refl _) (.get rfl (af.int (by simp)) (.refl _ _)))
 rintro k hk
 refine Z6 ?_
 refine Cd (fun c0=> ?_) fun c0=> ?_
 ·
  obtain ⟨l,hx⟩:=ah (xs:=ls) (k:=k) (by omega)
  have hfp:=Ce ls (k+1)
  have hfl:(ls.take (k+1)).flatten.length=(ls.take k).flatten.length+l.length:=by rw [s7 hx,List.length_append]
  refine Z6 ?_
  refine .p (cI k (h:=hx)) rfl ?_
  refine EC ?_
  refine Cd (fun c1=> ?_) fun c1=> ?_
  ·
   exfalso
   omega
  refine Z7 ?_
  refine .round (k+1) (by omega) (by omega) rfl ?_
  exact (.get rfl (af.int (by (show (k:Int)+1=((k+1:Nat):Int);omega))) (.get rfl (af.int (by omega)) ((.keep 15 rfl rfl))))
 have Hi:ls.take k=ls:=List.take_of_length_le (by omega)
 rw [Hi]
 refine Z8 ?_
 refine .n (cE (h:=I8 av)) rfl fun g24 Kj=> ?_
 refine dM ?_
 refine .aT (σ:=SB×Nat) (fun g=>[au g.1 1 aj (ls.take g.2).flatten]) (fun g=>[(6,aa (bq g.1 (ls.take g.2).flatten.length)),(27,ag .i64 (g.2:Int))]) (fun g=>g.2≤ls.length) (fun g=>ls.length-g.2) (g24,0) (Nat.zero_le _) rfl ?_ ?_
 · exact (.get rfl (af.refl _) (.get rfl (af.refl _) (.refl _ _)))
 rintro ⟨sb,j⟩ hj
 simp only at hj ⊢
 refine Z6 ?_
 refine Cd (fun c2=> ?_) fun c2=> ?_
 ·
  obtain ⟨m,hy⟩:=ah (xs:=ls) (k:=j) (by omega)
  have hfq:=Ce ls (j+1)
  have Cz:(ls.take (j+1)).flatten.length=(ls.take j).flatten.length+m.length:=by rw [s7 hy,List.length_append]
  refine Z6 ?_
  refine .p (cI j (h:=hy)) rfl ?_
  refine Z7 ?_
  refine .n (aD (i:=0) (xs:=(ls.take j).flatten) (ys:=m) FU.out FU.out FC.out rfl FZ.out rfl FY.out (.t rfl) (.t rfl) rfl (by omega) (by omega)) rfl fun g33 _=> ?_
  refine Z8 ?_
  refine .round (g33,j+1) (by show j+1≤_;omega) (by (show ls.length-(j+1)<ls.length-j;omega)) (by simp only [s7 hy];rfl) ?_
  exact (.get rfl (af.of_eq (by simp only [s7 hy])) (.get rfl (af.int (by (show (j:Int)+1=((j+1:Nat):Int);omega))) ((.keep 12 rfl rfl))))
 have hjl:ls.take j=ls:=List.take_of_length_le (by omega)
 rw [hjl]
 refine .er (t:=6) (i:=0) rfl rfl ?_
 refine dM ?_
 refine bL ?_
 exact af.refl _
theorem eM {p:Prop} {e:Int} (av:e≠0):yf Tryz.prog 366 280 [aq p,ag .i64 (e)] [] (¬p) (γ:=Unit) (fun _=>p) (fun _=>[]) (fun _=>bD []):=by
 refine D1 9 Tryz.func280 fun _ _ _=> ?_
 refine Z6 ?_
 refine Cd (fun c0=> ?_) fun c0=> ?_
 · exact aM.region (.p (Cl (.t rfl)) rfl<| .p (aL FP.out FZ.out (.cons (.t rfl) .nil) rfl) rfl<| .p (N3 Tryz.underlying366 (.t rfl)) rfl<| .TH (.t rfl) av c0)
 refine Z1 ?_
 refine .rO (Post.ij rfl (()) (by exact Classical.not_not.1 c0) (fun _ _ _ h=>h) rfl)
variable {cb:Nat} {m:aR} {f:cU} {gs:SB} {B:List Mb} {bb:Nat} {bc:Nat} {ns:Nat}
theorem w9 {b:Mb}:cw Tryz.prog 294 [aI cb 0] [Ko cb m f gs ns (some (bb,bc)) (B++[b]).length,au (some (bb,bc)) 5 kX (B++[b])] (γ:=Unit) (fun _=>True) (fun _=>[Ko cb m f gs ns (some (bb,bc)) (B++[b]).length,au (some (bb,bc)) 5 kX (B++[b])]) (fun _=>aI bb (B.length*5)):=by
 refine In 14 Tryz.func294 fun _ _ _=> ?_
 refine .yy 1 rfl fun xz=> ?_
 simp only [List.length_append,List.length_cons,List.length_nil] at xz
 refine Z6 ?_
 refine .bx 10 2 FM.out (by kernel_rfl) (k:= ?_)
 refine Z8 ?_
 refine .p (tO rfl Tryz.underlying338 (.t rfl)) ?_
 refine .p (jZ (.t rfl) (.c _) (bY (by simp<;>omega) (by simp<;>omega))) ?_
 refine Z1 ?_
 refine .p (aX B.length FU.out FC.out rfl (.t rfl) (.t rfl) (by simp) (by simp)) rfl ?_
 refine Z4 ?_
 refine bL ?_
 exact af.refl _
variable {gb:SB} {nb:Nat}
theorem gY {st l st2:List UInt8} (av:st.length≤60000) (hp1:l.length≤60000) (hp2:st2=st++l):cw Tryz.prog 276 [aI cb 0,ai 1 aj (l)] [Ko cb m f gs st.length gb nb,au gs 1 aj st] (γ:=SB) (fun _=>True) (fun g=>[Ko cb m f g st2.length gb nb,au g 1 aj st2]) (fun _=>bD []):=by
 refine In 13 Tryz.func276 fun _ _ _=> ?_
 subst hp2
 refine Z7 ?_
 refine .n (aD (i:=1) FU.out FU.out FC.out rfl FZ.out rfl FY.out (.t rfl) (.t rfl) rfl (by omega) (by omega)) rfl fun g10 _=> ?_
 refine Z4 ?_
 refine Post.ij rfl (g10) (by trivial) (fun _ _ _ h=>h) rfl
variable {L0:List UInt8} {k:eH} {s:dw}
theorem fk {w:UInt8}:yf Tryz.prog 366 270 [aI cb 0,ag .u8 ((w:UInt8).toNat:Int)] (Ae cb m f gs bb bc L0 B k s) (jh s w=none) (γ:=dw×UInt8) (fun g=>jh s w=some g) (fun g=>Ae cb m f gs bb bc L0 B k g.1) (fun g=>ag .u8 (g.2.toNat:Int)):=by
 refine D1 67 Tryz.func270 fun _ _ _=> ?_
 obtain ⟨sl,sd⟩:=s
 refine Z8 ?_
 refine .n ((kZ [_] [0,2,1] (h:=w9)).same (fun _ _=>aB.perm (Perm.idx [0,2,1] rfl rfl)) (fun _ _=>af.refl _)) rfl fun _ _=> ?_
 refine Z5 ?_
 refine .bx 9 1 FM.out (by kernel_rfl) (k:= ?_)
 refine Z8 ?_
 refine .p (fC (i:=2) (r:=3) FA.out (.t rfl) rfl (l7 _ _) rfl) ?_
 refine Z4 ?_
 refine Cd (fun c0=> ?_) fun c0=> ?_
 ·
  have Cp:sl=[]:=by (simp [mq] at c0;first|exact c0|exact List.eq_nil_of_length_eq_zero (by omega))
  subst Cp
  refine Z5 ?_
  refine .p (fC (i:=2) (r:=4) FA.out (.t rfl) rfl (l7 _ _) rfl) rfl ?_
  refine .x (cX (h:=eM (e:=5) (by decide))) rfl (fun h=>Af h) fun g23 h23=> ?_
  refine cK ?_
  refine .kP (Post.aP rfl ((([],sd),w)) (by exact Kq (by first|exact h23|assumption)) (fun _ _ _ h=>h) (.rt rfl) ?_)
  exact af.refl _
 obtain ⟨l,x,rfl⟩:=vw (l:=sl) (fun e=>c0 (by rw [e];simp [mq]))
 refine .yy 1 rfl fun xz=> ?_
 simp only [List.length_append,List.length_cons,List.length_nil] at xz
 refine .iy 1 rfl (by simp) fun sb sc hg=> ?_
 subst hg
 refine Z3 ?_
 refine .bx 10 3 FM.out (by kernel_rfl) (k:= ?_)
 refine Z9 ?_
 refine .p (jZ (.t rfl) (.c _) (bY (by simp<;>omega) (by simp<;>omega))) ?_
 refine Z1 ?_
 refine .p (aX (L0++l).length FU.out FC.out rfl (.t rfl) (.t rfl) (by simp<;>omega) (by simp)) rfl ?_
 refine .p (fC (i:=1) (r:=0) FA.out (.t rfl) rfl (show (L0++(l++[x]))[(L0++l).length]?=some x by simp) rfl) rfl ?_
 refine Z4 ?_
 refine .bx 12 3 FM.out (by kernel_rfl) (k:= ?_)
 refine cK ?_
 refine .p (jZ (.t rfl) (.c _) (bY (by simp<;>omega) (by simp<;>omega))) ?_
 refine .p (qp (i:=1) (h:=(L0++l).length) FU.out FC.out rfl (.t rfl) (.t rfl) (by simp<;>omega) rfl rfl (by simp)) ?_
 refine Z6 ?_
 refine .own (aB.cons _ (aB.N4 (L0++l) (by rw [←List.append_assoc];exact yJ _ _))) ?_
 refine lg ?_
 refine .x (cX (h:=eM (e:=5) (by decide))) rfl (fun h=>xY (fun e=>h (II.2 e))) fun g62 Vy=> ?_
 refine Z9 ?_
 refine Cd (fun c1=> ?_) fun c1=> ?_
 ·
  refine Z8 ?_
  refine .kP (Post.aP rfl (((l,sd),if x=0 then w else x)) (by exact Ag (II.1 Vy)) (fun _ _ _ h=>h) (.rt rfl) ?_)
  exact af.of_eq (by rw [if_pos ((oG x).1 c1)])
 refine Z9 ?_
 refine .kP (Post.aP rfl (((l,sd),if x=0 then w else x)) (by exact Ag (II.1 Vy)) (fun _ _ _ h=>h) (.rt rfl) ?_)
 exact af.of_eq (by rw [if_neg (fun e=>c1 ((oG x).2 e))])
theorem jq {l:List UInt8}:yf Tryz.prog 366 274 [aI cb 0,ai 1 aj (l)] (Ae cb m f gs bb bc L0 B k s) (cQ s l=none) (γ:=dw) (fun g=>cQ s l=some g) (fun g=>Ae cb m f gs bb bc L0 B k g) (fun _=>bD []):=by
 refine D1 18 Tryz.func274 fun _ _ _=> ?_
 refine .fact (t:=1) rfl (fun S w v h=>bM h) fun qX=> ?_
 refine Z9 ?_
 refine .aT (σ:=Nat×dw) (fun g=>Ae cb m f gs bb bc L0 B k g.2) (fun g=>[(4,ag .i64 ((g.1:Int)-1))]) (fun g=>g.1≤l.length∧cQ g.2 (l.take g.1)=cQ s l) (fun g=>g.1) (l.length,s) ⟨Nat.le_refl _,by simp⟩ rfl ?_ ?_
 · exact (.get rfl (af.refl _) (.refl _ _))
 rintro ⟨j,s1⟩ ⟨hj,hinv⟩
 simp only at hj hinv ⊢
 refine Z7 ?_
 refine Cd (fun c0=> ?_) fun c0=> ?_
 ·
  obtain ⟨t,ht⟩:=ah (xs:=l) (k:=j-1) (by omega)
  have hjt:cQ s1 (l.take j)=(jh s1 t).bind fun p=>cQ p.1 (l.take (j-1)):=by (have h9:=O6 (s:=s1) ht;rwa [show j-1+1=j by omega] at h9)
  refine Z8 ?_
  refine .p (cI (j-1) (h:=ht)) rfl ?_
  refine Z1 ?_
  refine .x (cX (h:=fk (s:=s1) (w:=t))) rfl (fun h=>by rw [←hinv,hjt,h];rfl) fun g17 Kk=> ?_
  refine Z8 ?_
  refine .round (j-1,g17.1) ⟨by show j-1≤_;omega,by rw [←hinv,hjt,Kk];rfl⟩ (by show j-1<j;omega) rfl ?_
  exact (.get rfl (af.int (by show (_:Int)=((j-1:Nat):Int)-1;omega)) ((.keep 12 rfl rfl)))
 have hj0:j=0:=by omega
 subst hj0
 refine Z4 ?_
 refine .rO (Post.ij rfl (s1) (by exact (by rw [←hinv];rfl)) (fun _ _ _ h=>h) rfl)
theorem qN:cw Tryz.prog 269 [aI cb 0] (Ae cb m f gs bb bc L0 B k s) (γ:=Unit) (fun _=>True) (fun _=>Ae cb m f gs bb bc L0 B k eO) (fun _=>bD []):=by
 refine In 20 Tryz.func269 fun _ _ _=> ?_
 refine Z3 ?_
 refine .n ((kZ [_] [0,2,1] (h:=w9)).same (fun _ _=>aB.perm (Perm.idx [0,2,1] rfl rfl)) (fun _ _=>af.refl _)) rfl fun _ _=> ?_
 refine Z3 ?_
 refine .bP [(0,0),(1,0),(2,0),(3,0),(4,0),(5,1),(6,0),(7,0),(8,0),(9,1),(10,1),(11,0),(12,0),(13,3)] 14 3 FM.out (by kernel_rfl) (k:= ?_)
 refine Z9 ?_
 refine .o rfl (fC (i:=2) (r:=3) FA.out (.t rfl) rfl (l7 _ _) rfl) ?_
 refine .o rfl (qp (i:=1) (h:=(L0++([]:List UInt8)).length) FU.out FC.out rfl (.t rfl) (.t rfl) (by simp [mq]) rfl rfl (by simp)) ?_
 refine Z2 ?_
 refine .s rfl (iY (i:=0) FC.out (.t rfl) (.t rfl) rfl rfl) ?_
 refine .fin ?_
 refine Z2 ?_
 refine .s (gC (i:=2) (r:=4) (mq L0.length k eO) rfl FC.out (.t rfl) .ct rfl (l7 _ _) rfl rfl) ?_
 refine Z1 ?_
 rw [EA,show (B++[mq L0.length k s]).length=(B++[mq L0.length k eO]).length by simp]
 refine .own (aB.cons _ (aB.N4 (L0++([]:List UInt8)) (by simp))) ?_
 refine Post.ij rfl (()) (by trivial) (fun _ _ _ h=>h) rfl
variable {n:Int}
theorem mD (av:B.length≤60000) (hp1:0≤n):yf Tryz.prog 366 275 [aI cb 0,ag .u64 (n)] [Ko cb m f gs ns (some (bb,bc)) B.length,au (some (bb,bc)) 5 kX B] (jj (B.map A4) n=none) (γ:=List UInt8) (fun w=>jj (B.map A4) n=some w) (fun _=>[Ko cb m f gs ns (some (bb,bc)) B.length,au (some (bb,bc)) 5 kX B]) (fun w=>ai 1 aj (w)):=by
 refine D1 34 Tryz.func275 fun _ _ _=> ?_
 refine dM ?_
 refine .p (tO rfl Tryz.underlying338 (.t rfl)) rfl ?_
 refine Z2 ?_
 refine .x (cX (h:=eM (e:=2) (by decide))) rfl (fun h=>B4 (fun e=>h (by simpa using e))) fun g14 yF=> ?_
 refine Z3 ?_
 have hlt:n<(B.length:Int):=yF
 obtain ⟨b,hb⟩:=ah (xs:=B) (k:=B.length-1-n.toNat) (by omega)
 obtain ⟨w,hw,p9⟩:=FN (L:=B.map A4) hp1 (by simpa using hlt)
 have hwb:A4 b=w:=by (rw [List.length_map,List.getElem?_map,hb] at p9;exact Option.some.inj p9)
 refine .bP [(0,0),(1,0),(2,0),(3,1),(4,0),(5,0),(6,0),(7,1),(8,0),(9,0),(10,0),(11,0),(12,0),(13,0),(14,1),(15,4)] 16 1 FM.out (by kernel_rfl) (k:= ?_)
 refine Z8 ?_
 refine .p rfl (fun _=>tO rfl Tryz.underlying338 (.t rfl)) ?_
 refine Z4 ?_
 refine .p rfl (fun _=>aX (B.length-1-n.toNat) FU.out FC.out rfl (.t rfl) (.t rfl) (by omega) (by omega)) ?_
 refine .o rfl (kO (i:=1) (r:=0) FA.out FC.out rfl (.t rfl) rfl hb rfl) ?_
 refine .a rfl (ax FZ.out) (fun _ _=>aB.drop (aB.refl _)) fun b5 _=> ?_
 refine .fin ?_
 refine Z3 ?_
 refine .share (t:=5) (i:=0) rfl rfl ?_
 refine Z7 ?_
 refine Cd (fun c0=> ?_) fun c0=> ?_
 ·
  refine Z7 ?_
  refine .kP (Post.aP rfl (w) (by exact hw) (fun _ _ _ h=>h) (.rt rfl) ?_)
  exact (show af (aa (.slice none 0 0)) _ from (show w=[] by rw [←hwb];exact if_pos c0)▸aG 1 aj)
 refine cK ?_
 refine .kP (Post.aP rfl (w) (by exact hw) (fun _ _ _ h=>h) (.rt rfl) ?_)
 exact af.of_eq (by rw [show w=b.res by rw [←hwb];exact if_neg c0])
theorem AG {st:List UInt8} {x:aA} (av:B.length≤60000) (hp1:0≤x.A):cw Tryz.prog 271 [aI cb 0,aC (aK x)] (O5 cb m f gs gb st B) (γ:=SB) (fun _=>True) (fun g=>O5 cb m f gs g st (B++[mq st.length ⟨x.Code=3,x.Code=4,eD x,([],False)⟩ ([],False)])) (fun _=>bD []):=by
 refine In 35 Tryz.func271 fun _ _ _=> ?_
 refine Z6 ?_
 refine .bP [(0,0),(1,0),(2,0),(3,0),(4,0),(5,0),(6,0),(7,0),(8,0),(9,1),(10,1),(11,0),(12,4)] 13 1 FM.out (by kernel_rfl) (k:= ?_)
 refine dM ?_
 refine .a rfl (ax FZ.out) (fun _ _=>aB.drop (aB.refl _)) fun b4 _=> ?_
 refine .fin ?_
 refine Z3 ?_
 refine .cut (σ:=Unit) (fun _=>[az b4 [aq (x.Code=3),aq (x.Code=4),ai 1 aj (eD x),ag .i64 (st.length:Int),aq False],Ko cb m f gs st.length gb B.length,au gs 1 aj st,au gb 5 kX B]) (fun _=>[]) (fun _=>True) ?_ ?_
 ·
  refine Z1 ?_
  refine .own (aB.Hv (cs':=[aq (x.Code=3),aq (x.Code=4),ai 1 aj [],ag .i64 (st.length:Int),aq False]) (.cons (.refl _) (.cons (.refl _) (.cons (aG 1 aj) (.cons (.refl _) (.cons wY .nil)))))) ?_
  refine Z6 ?_
  refine Cd (fun c0=> ?_) fun c0=> ?_
  ·
   refine Z3 ?_
   refine .p ((eP FU.out FU.out (.t rfl)).le (af.int (Ks hp1))) rfl ?_
   refine .p (cB aj [UInt8.ofNat x.A.toNat]) rfl ?_
   refine Z3 ?_
   refine .meet () trivial (by first|(rw [show eD x=[UInt8.ofNat x.A.toNat] from if_neg c0];done)|(rw [show eD x=[UInt8.ofNat x.A.toNat] from if_neg c0];rfl)|(rw [show eD x=[] from if_pos (Classical.not_not.1 c0)];done)|(rw [show eD x=[] from if_pos (Classical.not_not.1 c0)];rfl)) (.keep 8 rfl rfl)
  refine Z1 ?_
  refine .meet () trivial (by first|(rw [show eD x=[UInt8.ofNat x.A.toNat] from if_neg c0];done)|(rw [show eD x=[UInt8.ofNat x.A.toNat] from if_neg c0];rfl)|(rw [show eD x=[] from if_pos (Classical.not_not.1 c0)];done)|(rw [show eD x=[] from if_pos (Classical.not_not.1 c0)];rfl)) (.keep 3 rfl rfl)
 intro _ _
 refine .bP [(0,0),(1,0),(2,0),(3,0),(4,1),(5,1),(6,0),(7,2)] 8 3 FM.out (by kernel_rfl) (k:= ?_)
 refine Z6 ?_
 refine .p rfl (fun _=>bF (enc:=kX) [mq st.length ⟨x.Code=3,x.Code=4,eD x,([],False)⟩ ([],False)] FU.out FC.out rfl FZ.out rfl (.cons (.t rfl) .nil) rfl rfl rfl rfl rfl) ?_
 refine .e rfl (aD (i:=3) FU.out FU.out FC.out rfl FZ.out rfl FY.out (.t rfl) (.t rfl) rfl (by simp<;>omega) (by simp<;>omega)) fun W7 _=> ?_
 refine .fin ?_
 refine Z4 ?_
 refine Post.ij rfl (W7) (by trivial) (aB.dD [1,2,3] [0] rfl rfl) rfl
theorem x6:yf Tryz.prog 366 295 [aI cb 0] (Ae cb m f gs bb bc L0 B k s) (¬A5 k.res s) (γ:=Unit) (fun _=>A5 k.res s) (fun _=>O5 cb m f gs (some (bb,bc)) L0 B) (fun _=>aC (kX (mq L0.length k s))):=by
 refine D1 36 Tryz.func295 fun _ _ _=> ?_
 refine Z2 ?_
 refine .n (ax FZ.out) rfl fun b2 _=> ?_
 refine Z5 ?_
 refine .n ((kZ [_,_] [1,3,0,2] (h:=w9)).same (fun _ _=>aB.perm (Perm.idx [2,0,3,1] rfl rfl)) (fun _ _=>af.refl _)) rfl fun _ _=> ?_
 refine Z1 ?_
 refine .p (kO (i:=3) (r:=0) FA.out FC.out rfl (.t rfl) rfl (l7 _ _) rfl) rfl ?_
 refine .n (ax FZ.out) rfl fun b3 _=> ?_
 refine Z3 ?_
 refine .share (t:=3) (i:=0) rfl rfl ?_
 refine Z5 ?_
 refine .x (K9 [_] [1,2,3,0] (h:=jq (l:=k.res))) rfl (fun h=>by (rintro ⟨z,h1,_⟩;rw [h] at h1;cases h1)) fun g11 h11=> ?_
 refine Z3 ?_
 refine .yy 2 rfl fun xz=> ?_
 simp only [List.length_append,List.length_cons,List.length_nil] at xz
 refine .bx 7 2 FM.out (by kernel_rfl) (k:= ?_)
 refine Z9 ?_
 refine .x (cX (h:=eM (e:=5) (by decide))) rfl (fun h=>by (rintro ⟨z,h1,h2⟩;rw [h11] at h1;cases h1;exact h (by rw [h2];simp [mq]))) fun g20 W8=> ?_
 refine Z3 ?_
 have hz:g11.1=[]:=by (simp [mq] at W8;first|exact W8|exact List.eq_nil_of_length_eq_zero (by omega))
 refine .bx 12 3 FM.out (by kernel_rfl) (k:= ?_)
 refine cK ?_
 refine .p (jZ (.t rfl) (.c _) (bY (by simp<;>omega) (by simp<;>omega))) ?_
 refine .p (qp (i:=2) (h:=B.length) FU.out FC.out rfl (.t rfl) (.t rfl) (by simp) rfl rfl (by simp)) ?_
 refine Z6 ?_
 rw [show (L0++g11.1).length=L0.length by rw [hz];simp]
 refine .own (aB.cons _ (aB.trans (aB.N4 L0 (yJ _ _)) (aB.cons _ (aB.N4 B (yJ _ _))))) ?_
 refine Z3 ?_
 refine .s (gA (i:=3) FC.out rfl (.t rfl) (.t rfl) rfl rfl rfl) ?_
 refine Z3 ?_
 refine .kP (Post.aP rfl (()) (by exact ⟨g11,h11,hz⟩) (aB.dD [0,1,2] [3] rfl rfl) (.ra (i:=3) FA.out FC.out rfl rfl rfl rfl) ?_)
 exact af.refl _
theorem Gn (av:B.length≤60000):yf Tryz.prog 366 272 [aI cb 0] (Ae cb m f gs bb bc L0 B k s) (¬A5 k.res s) (γ:=SB) (fun _=>A5 k.res s) (fun g=>O5 cb m f gs g L0 (B++[mq L0.length ⟨k.loop,False,k.res,([],False)⟩ ([],False)])) (fun _=>bD []):=by
 refine D1 17 Tryz.func272 fun _ _ _=> ?_
 refine Z3 ?_
 refine .x (cX (h:=x6 (s:=s))) rfl (fun h=>h) fun g4 h4=> ?_
 refine .n (ax FZ.out) rfl fun b2 _=> ?_
 refine cT ?_
 refine .bP [(0,0),(1,0),(2,0),(3,0),(4,1),(5,1),(6,0),(7,2)] 8 3 FM.out (by kernel_rfl) (k:= ?_)
 refine Z6 ?_
 refine .p rfl (fun _=>bF (enc:=kX) [mq L0.length ⟨k.loop,False,k.res,([],False)⟩ ([],False)] FU.out FC.out rfl FZ.out rfl (.cons (.t rfl) .nil) rfl rfl rfl rfl rfl) ?_
 refine .e rfl (aD (i:=3) FU.out FU.out FC.out rfl FZ.out rfl FY.out (.t rfl) (.t rfl) rfl (by simp<;>omega) (by simp<;>omega)) fun g14 _=> ?_
 refine .fin ?_
 refine Z4 ?_
 refine .rO (Post.ij rfl (g14) (by exact h4) (aB.dD [1,2,3] [0] rfl rfl) rfl)
theorem Mx (av:L0.length≤60000) (hp1:k.res.length≤60000):yf Tryz.prog 366 273 [aI cb 0] (Ae cb m f gs bb bc L0 B k s) (¬(A5 k.res s∧(k.is→k.res=[]))) (γ:=SB) (fun _=>A5 k.res s∧(k.is→k.res=[])) (fun g=>O5 cb m f g (some (bb,bc)) (L0++k.res) B) (fun _=>bD []):=by
 refine D1 19 Tryz.func273 fun _ _ _=> ?_
 refine Z3 ?_
 refine .x (cX (h:=x6 (s:=s))) rfl (fun h h2=>h h2.1) fun g4 h4=> ?_
 refine .n (ax FZ.out) rfl fun b2 _=> ?_
 refine Z3 ?_
 refine .share (t:=2) (i:=0) rfl rfl ?_
 refine cT ?_
 refine .x (cX (h:=eM (e:=5) (by decide))) rfl (fun h h2=>h (by by_cases hk:k.is;exact .inr (show (k.res.length:Int)=0 by rw [h2.2 hk];rfl);exact .inl hk)) fun g14 yF=> ?_
 refine Z6 ?_
 refine .n (cE (h:=gY (st:=L0) (l:=k.res) (by omega) hp1 rfl)) rfl fun g18 Re=> ?_
 refine Z1 ?_
 refine .rO (Post.ij rfl (g18) (by exact ⟨h4,fun hk=>by (rcases yF with h|h;exact absurd hk h;exact List.eq_nil_of_length_eq_zero (by have h9:(k.res.length:Int)=0:=h;omega))⟩) (fun _ _ _ h=>h) rfl)
theorem sD (av:Ah m f) (hp1:0≤n):yf Tryz.prog 366 278 [aI cb 0,ag .u64 (n)] [Ko cb m f gs ns gb nb] (ec (cC m f).aV n=none) (γ:=UInt8) (fun t=>ec (cC m f).aV n=some t) (fun _=>[Ko cb m f gs ns gb nb]) (fun t=>ag .u8 ((t:UInt8).toNat:Int)):=by
 refine D1 23 Tryz.func278 fun _ _ _=> ?_
 have Kl:=av.lo
 refine D0 ?_
 refine .x (cX (h:=eM (e:=2) (by decide))) rfl (fun h=>vA (fun e=>h e)) fun g14 yF=> ?_
 refine Z3 ?_
 obtain ⟨t,ht,Uk⟩:=vz hp1 yF
 refine Z7 ?_
 refine .p (cI n.toNat (h:=Uk)) rfl ?_
 refine Z5 ?_
 refine .kP (Post.aP rfl (t) (by exact ht) (fun _ _ _ h=>h) (.rt rfl) ?_)
 exact af.refl _
theorem vH (av:Ah m f) (hp1:0≤n):yf Tryz.prog 366 279 [aI cb 0,ag .u64 (n)] [Ko cb m f gs ns gb nb] (ec m.an n=none) (γ:=jF) (fun t=>ec m.an n=some t) (fun _=>[Ko cb m f gs ns gb nb]) (fun t=>aC (eG t)):=by
 refine D1 29 Tryz.func279 fun _ _ _=> ?_
 have Kl:=av.fits.lens.2.2.2.1
 refine Z2 ?_
 refine .n (ax FZ.out) rfl fun b4 _=> ?_
 refine D0 ?_
 refine .x (cX (h:=eM (e:=2) (by decide))) rfl (fun h=>vA (fun e=>h e)) fun g17 Kk=> ?_
 refine Z3 ?_
 obtain ⟨t,ht,Uk⟩:=vz hp1 Kk
 refine cK ?_
 refine .p (cI n.toNat (h:=Uk)) rfl ?_
 refine Z5 ?_
 refine .kP (Post.aP rfl (t) (by exact ht) (aB.dD [1] [0] rfl rfl) (.ra (i:=0) FA.out FC.out rfl rfl rfl rfl) ?_)
 exact af.refl _
theorem qO (av:Ah m f) (hp1:0≤n):yf Tryz.prog 366 281 [aI cb 0,ag .u64 (n)] [Ko cb m f gs ns gb nb] (ec m.bp n=none) (γ:=eo) (fun t=>ec m.bp n=some t) (fun _=>[Ko cb m f gs ns gb nb]) (fun t=>aC (eY t)):=by
 refine D1 29 Tryz.func281 fun _ _ _=> ?_
 have Kl:=av.fits.lens.2.2.1
 refine Z2 ?_
 refine .n (ax FZ.out) rfl fun b4 _=> ?_
 refine D0 ?_
 refine .x (cX (h:=eM (e:=2) (by decide))) rfl (fun h=>vA (fun e=>h e)) fun g17 Kk=> ?_
 refine Z3 ?_
 obtain ⟨t,ht,Uk⟩:=vz hp1 Kk
 refine cK ?_
 refine .p (cI n.toNat (h:=Uk)) rfl ?_
 refine Z5 ?_
 refine .kP (Post.aP rfl (t) (by exact ht) (aB.dD [1] [0] rfl rfl) (.ra (i:=0) FA.out FC.out rfl rfl rfl rfl) ?_)
 exact af.refl _
theorem o6 {l:eo}:cW Tryz.prog 283 [aC (eY l)] (ag .u8 ((bS l.bN:UInt8).toNat:Int)):=by
 refine In 5 Tryz.func283 fun _ _ _=> ?_
 refine lg ?_
 refine Cd (fun c0=> ?_) fun c0=> ?_
 ·
  refine Z7 ?_
  refine bL ?_
  exact af.of_eq (by unfold bS;rw [if_pos c0];rfl)
 refine Z8 ?_
 refine bL ?_
 exact af.of_eq (by unfold bS;rw [if_neg c0];rfl)
theorem oM {g:oa} (av:(L0++s.1).length≤60000) (hp1:g.R.length≤60000):yf Tryz.prog 366 257 [aI cb 0,aC (cu g)] (Ae cb m f gs bb bc L0 B k s) (pS s g.P g.R=none) (γ:=SB×dw) (fun z=>pS s g.P g.R=some z.2) (fun z=>Ae cb m f z.1 bb bc L0 B k z.2) (fun _=>bD []):=by
 refine D1 12 Tryz.func257 fun _ _ _=> ?_
 refine cK ?_
 refine .x (cX (h:=jq (s:=s) (l:=g.P))) rfl (fun h=>by unfold pS;rw [h];rfl) fun g7 h7=> ?_
 refine Z6 ?_
 refine .n (cE (h:=gY (st:=L0++g7.1) (l:=g.R) (st2:=L0++(bC g7 g.R).1) (by simp only [List.length_append] at av ⊢;have:=uj h7;omega) hp1 (by simp [bC]))) rfl fun g11 h11=> ?_
 refine Z1 ?_
 refine .rO (Post.ij rfl ((g11,bC g7 g.R)) (by exact (by unfold pS;rw [h7];rfl)) (fun _ _ _ h=>h) rfl)
theorem AH {x:aA} {labs:List (List UInt8)} (av:(L0++s.1).length≤60000) (hp1:Ah m f) (hp2:mT x):yf Tryz.prog 366 253 [aI cb 0,aC (aK x)] (Ae cb m f gs bb bc L0 B k s) (ee x.Code∧ia (cC m f) x s labs=none) (γ:=SB×dw) (fun z=>(ee x.Code∧ia (cC m f) x s labs=some z.2)∨(¬ee x.Code∧z=(gs,s))) (fun z=>Ae cb m f z.1 bb bc L0 B k z.2) (fun _=>aq (ee x.Code)):=by
 refine D1 62 Tryz.func253 fun _ _ _=> ?_
 refine La ?_
 refine Cd (fun c0=> ?_) fun c0=> ?_
 ·
  refine Z5 ?_
  refine .x (cX (h:=sD hp1 hp2.A0)) rfl (fun h=>⟨by unfold ee;omega,by rw [Di c0,h];rfl⟩) fun g15 D5=> ?_
  refine .p (cB aj [_]) rfl ?_
  refine .n (cE (h:=gY (st:=L0++s.1) (l:=[g15]) (st2:=L0++(bC s [g15]).1) (by simp only [List.length_append] at av ⊢;omega) (by simp) (by simp [bC]))) rfl fun g17 Kk=> ?_
  refine Z9 ?_
  refine .kP (Post.aP rfl ((g17,bC s [g15])) (by exact .inl ⟨by unfold ee;omega,by rw [Di c0,D5];rfl⟩) (fun _ _ _ h=>h) (.rt rfl) ?_)
  exact af.prop ⟨fun _=>by unfold ee;omega,fun _=>trivial⟩
 refine Z6 ?_
 refine Cd (fun c1=> ?_) fun c1=> ?_
 ·
  refine Z5 ?_
  refine .x (cX (h:=sD hp1 hp2.A0)) rfl (fun h=>⟨by unfold ee;omega,by rw [Ak c1,h];rfl⟩) fun g24 Kj=> ?_
  refine .x (cX (h:=fk (s:=s) (w:=g24))) rfl (fun h=>⟨by unfold ee;omega,by rw [Ak c1,Kj,Option.bind_some,gq,h];rfl⟩) fun Ri Qh=> ?_
  refine Z9 ?_
  refine .kP (Post.aP rfl ((gs,Ri.1)) (by exact .inl ⟨by unfold ee;omega,by rw [Ak c1,Kj,Option.bind_some,gq,Qh];rfl⟩) (fun _ _ _ h=>h) (.rt rfl) ?_)
  exact af.prop ⟨fun _=>by unfold ee;omega,fun _=>trivial⟩
 refine Z6 ?_
 refine Cd (fun c2=> ?_) fun c2=> ?_
 ·
  refine Z5 ?_
  refine .x (cX (h:=sD hp1 hp2.A0)) rfl (fun h=>⟨by unfold ee;omega,by rw [Al c2,h];rfl⟩) fun My Ur=> ?_
  refine Z7 ?_
  refine .x (cX (h:=fk (s:=s) (w:=My))) rfl (fun h=>⟨by unfold ee;omega,by rw [Al c2,Ur,Option.bind_some,pS,gq,h];rfl⟩) fun No Np=> ?_
  refine Z5 ?_
  refine .p (cB aj [_]) rfl ?_
  refine .n (cE (h:=gY (st:=L0++No.1.1) (l:=[My]) (st2:=L0++(bC No.1 [My]).1) (by simp only [List.length_append] at av ⊢;have:=nT Np;omega) (by simp) (by simp [bC]))) rfl fun Qf Rk=> ?_
  refine Z9 ?_
  refine .kP (Post.aP rfl ((Qf,bC No.1 [My])) (by exact .inl ⟨by unfold ee;omega,by rw [Al c2,Ur,Option.bind_some,pS,gq,Np];rfl⟩) (fun _ _ _ h=>h) (.rt rfl) ?_)
  exact af.prop ⟨fun _=>by unfold ee;omega,fun _=>trivial⟩
 refine Z6 ?_
 refine Cd (fun c3=> ?_) fun c3=> ?_
 ·
  refine Z5 ?_
  refine .x (cX (h:=vH hp1 hp2.A0)) rfl (fun h=>⟨by unfold ee;omega,by rw [Dj c3];rw [show (cC m f).an=m.an.map (·.Ty) from rfl,bV,h];rfl⟩) fun DY Vz=> ?_
  refine .p (bl.le (EB (T:=81) (i:=0) (off:=0) (by kernel_rfl) Tryz.ai4.out (.t rfl) rfl) (af.refl (ag .u8 (DY.Ty.toNat:Int)))) rfl ?_
  refine .p (cB aj [_]) rfl ?_
  refine .n (cE (h:=gY (st:=L0++s.1) (l:=[DY.Ty]) (st2:=L0++(bC s [DY.Ty]).1) (by simp only [List.length_append] at av ⊢;omega) (by simp) (by simp [bC]))) rfl fun Mw h48=> ?_
  refine Z9 ?_
  refine .kP (Post.aP rfl ((Mw,bC s [DY.Ty])) (by exact .inl ⟨by unfold ee;omega,by rw [Dj c3];rw [show (cC m f).an=m.an.map (·.Ty) from rfl,bV,Vz];rfl⟩) (fun _ _ _ h=>h) (.rt rfl) ?_)
  exact af.prop ⟨fun _=>by unfold ee;omega,fun _=>trivial⟩
 refine Z6 ?_
 refine Cd (fun c4=> ?_) fun c4=> ?_
 ·
  refine Z5 ?_
  refine .x (cX (h:=vH hp1 hp2.A0)) rfl (fun h=>⟨by unfold ee;omega,by rw [um c4];rw [show (cC m f).an=m.an.map (·.Ty) from rfl,bV,h];rfl⟩) fun yp VA=> ?_
  refine .n (ax FZ.out) rfl fun b6 _=> ?_
  refine Z3 ?_
  refine .share (t:=6) (i:=0) rfl rfl ?_
  refine Z4 ?_
  refine .x (cX (h:=eM (e:=5) (by decide))) rfl (fun h=>⟨by unfold ee;omega,by rw [um c4];rw [show (cC m f).an=m.an.map (·.Ty) from rfl,show (cC m f).fD=m.an.map (·.fD) from rfl,bV,bV,VA];simp only [Option.map_some,Option.bind_some];rw [if_neg h]⟩) fun W3 h57=> ?_
  refine Z6 ?_
  refine .x (cX (h:=fk (s:=s) (w:=yp.Ty))) rfl (fun h=>⟨by unfold ee;omega,by rw [um c4];rw [show (cC m f).an=m.an.map (·.Ty) from rfl,show (cC m f).fD=m.an.map (·.fD) from rfl,bV,bV,VA];simp only [Option.map_some,Option.bind_some];rw [if_pos h57,gq,h];rfl⟩) fun Da Rh=> ?_
  refine Z9 ?_
  refine .kP (Post.aP rfl ((gs,Da.1)) (by exact .inl ⟨by unfold ee;omega,by rw [um c4];rw [show (cC m f).an=m.an.map (·.Ty) from rfl,show (cC m f).fD=m.an.map (·.fD) from rfl,bV,bV,VA];simp only [Option.map_some,Option.bind_some];rw [if_pos h57,gq,Rh];rfl⟩) (fun _ _ _ h=>h) (.rt rfl) ?_)
  exact af.prop ⟨fun _=>by unfold ee;omega,fun _=>trivial⟩
 refine Z8 ?_
 refine .kP (Post.aP rfl ((gs,s)) (by exact .inr ⟨by unfold ee;omega,rfl⟩) (fun _ _ _ h=>h) (.rt rfl) ?_)
 exact af.prop ⟨fun h=>h.elim,fun h=>by unfold ee at h;omega⟩
end Go.Proofs.YtpfobikpggmleaaGreatDoor
end
