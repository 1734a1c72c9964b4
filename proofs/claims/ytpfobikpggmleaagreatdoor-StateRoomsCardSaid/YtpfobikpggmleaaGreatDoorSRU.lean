/-
  What the statement's proof leans on, several texts in one (packed by a program).
-/
import Derived.Test.YtpfobikpggmleaaGreatDoorSRT
import Derived.Lib.LaidTab
set_option linter.all false
set_option maxRecDepth 1000000
set_option maxHeartbeats 4000000
section
namespace Go.Hl
open Go.RowKit
instance (m:aU):bC (bh m):=by unfold bh;infer_instance
def JW (x:au):Prop:=(0≤x.A∧x.A<18446744073709551616)∧(0≤x.B∧x.B<18446744073709551616)∧∀n∈x.L,0≤n
theorem sv {x:aU} (hb:EH x):0≤ou x∧ou x≤17100*281474976710656:=by
 have h5:=(w5 hb).2.2.2.2
 have hq:=gD (xs:=x.bK) (g:=uT) (cap:=25) 281474976710656 (by decide) hb.data
 unfold ou
 omega
theorem OJ {x:aU} (h:sR x) (hw:∀f∈x.ax,∀y∈f.Body.L,JW y) (h0:ou x+max ((x.ax.length:Int)-12) 0+max ((x.bK.length:Int)-4) 0≤0):wY x∧jP x∧x.ax.length≤60000:=by
 have hb:=sv (nI h)
 have hs:wY x:=Ai h (by omega)
 refine ⟨hs,⟨fun f hf y hy=> ?_,fun f hf=> ?_,fun f hf=> ?_⟩,by omega⟩
 · obtain ⟨⟨a1,a2⟩,⟨b1,b2⟩,c⟩:=hw f hf y hy
   exact ⟨a1,a2,b1,b2,c,by have:=(hs.fn f hf).all y hy;omega⟩
 · have:=(hs.fn f hf).l;omega
 · have:=(hs.fn f hf).locals;omega
end Go.Hl
end
section
namespace Go.Proofs.YtpfobikpggmleaaGreatDoor
open Go.Hl Go.RowKit
theorem Bg {x:aU}:cQ Tryz.prog 7 [aE (bh x)] (ag .i64 (ou x+max ((x.ax.length:Int)-12) 0+max ((x.bK.length:Int)-4) 0)):=by
 refine In 17 Tryz.func7 fun _ _ _=> ?_
 refine .fact (t:=0) rfl (fun S w v h=>pY h) fun hlen=> ?_
 have hall:=hlen
 obtain ⟨⟨J0,je,jB,kS,kU,kV,kW,kX⟩,⟨R2,hi1,hi2,RT,hi4⟩,NK⟩:=hlen
 have hgb:=sv (nI hall)
 refine Z7 ?_
 refine .bA 13 2 FM.out (by kernel_rfl) (k:= ?_)
 refine Z1 ?_
 refine .p (cA (h:=Gc)) ?_
 refine J3 ?_
 refine bJ ?_
 exact aa.refl _
theorem uH {x:aU} {n:Nat} (aq:∀f∈x.ax,∀y∈f.Body.L,JW y) (aT:QU x) (dh:n<65536):cQ Tryz.prog 3 [aE (bh x),ag .u16 (n:Int)] (ak True):=by
 refine In 88 Tryz.func3 fun _ _ _=> ?_
 refine .fact (t:=0) rfl (fun S w v h=>pY h) fun hlen=> ?_
 have hall:=hlen
 obtain ⟨⟨J0,je,jB,kS,kU,kV,kW,kX⟩,⟨R2,hi1,hi2,RT,hi4⟩,NK⟩:=hlen
 have hgm:=sv (nI hall)
 refine cJ ?_
 refine .p (cA (h:=Bg)) rfl ?_
 refine Z2 ?_
 refine .g (cr.gF rfl rfl rfl rfl (fun hg=>bT (tn) FB.out .nil)) rfl rfl ?_
 refine Z4 ?_
 refine Cd (fun c0=> ?_) fun c0=> ?_
 ·
  refine Z2 ?_
  refine .p (cA (h:=tn)) rfl ?_
  refine Z5 ?_
  refine bJ ?_
  exact aa.refl _
 obtain ⟨Bj,hmo,hfl⟩:=OJ hall aq (by omega)
 have hd4:x.bK.length≤4:=by omega
 clear hall hgm c0
 refine Z5 ?_
 refine .p ((mJ FU.out FU.out (.t rfl) de).le (aa.int (show _=(n:Int) by omega))) rfl ?_
 refine .n (cE (h:=uk (n:=n) (by omega))) rfl fun Pq h23=> ?_
 refine cJ ?_
 refine .p (cA (h:=Gf Bj)) rfl ?_
 refine Z4 ?_
 have hAo:eg Pq (Kd n):=Fz h23 (by omega)
 have hcs:¬jE x∨∃(_:jE x) (hm:o4 x),rO x+DT x≤n∨n<rO x+DT x:=by (by_cases hv:jE x;exact .inr ⟨hv,Tj hv.1 aT Bj,Nat.lt_or_ge n (rO x+DT x)|>.symm⟩;exact .inl hv)
 rcases hcs with hv|⟨hv,hm,hr|hr⟩
 ·
  refine Z3 ?_
  refine .n (cE (h:=lJ (fr:=3))) rfl fun DW MN=> ?_
  refine .p (cA (h:=Ga (X:=Pq) hmo hfl hv)) rfl ?_
  refine jN ?_
  refine .n (cE (h:=qm hmo hfl)) rfl fun WZ Og=> ?_
  refine Z3 ?_
  refine Cd (fun c1=> ?_) fun c1=> ?_
  ·
   refine cJ ?_
   refine .Xx rfl rfl rfl rfl (fun hg=>((o7 [_,_,_,_] [1,0,2,3,4] (h:=rR (X:=Pq) (a:=Kd n))).same (fun _ _=>aB.perm (Perm.idx [1,0,2,3,4] rfl rfl)) (fun _ _=>aa.refl _)).same (fun _ _=>aB.refl _) (fun _ _=>aa.refl _)) rfl rfl ?_
   refine Z7 ?_
   refine bJ ?_
   exact aa.prop (by simp [Kd])
  exact (hv (Og.2.1 (by omega))).elim
 ·
  refine Z3 ?_
  refine .n (cE (h:=lJ (fr:=3))) rfl fun DW MN=> ?_
  refine .n (o7 [] [1,2,3,4,0] (h:=vg (a:=Kd n) (m:=x) (num:=0) (mm:=0) (Co:=y7 64) hAo hm hmo hfl hv (by rw [h23];show 0+_≤_;omega) (by decide) (by decide) (by have:=Lv hm x.bK.length;omega))) rfl fun MM MF=> ?_
  refine jN ?_
  refine .n (cE (h:=qm hmo hfl)) rfl fun WZ Og=> ?_
  refine Z3 ?_
  refine Cd (fun c1=> ?_) fun c1=> ?_
  · exact absurd (Og.2.2 hv) (by omega)
  refine Z3 ?_
  have htb:=hm.tb
  have htn:(max x.Table 0)=((gw x:Nat):Int):=by unfold gw;omega
  have htl:=hm.r2.2.2
  have D0:=hm.r1.2
  have OT:=hm.r2.2.1
  have WS:rO x=aR (8*x.ay.length):=rfl
  have hc4:DT x=aR (4*gw x):=rfl
  refine .bA 9 3 FM.out (by kernel_rfl) (k:= ?_)
  refine Z3 ?_
  refine .p ((nT (.c _) (.t rfl) de).le (aa.int (show _=((8*x.ay.length:Nat):Int) by omega))) ?_
  refine .p (cA (h:=kJ (n:=8*x.ay.length))) ?_
  refine Z3 ?_
  refine .p ((nT (.c _) (.t rfl) (by rw [htn];exact bN (by omega) (by omega))).le (aa.int (show _=((4*gw x:Nat):Int) by rw [htn];omega))) ?_
  refine Z1 ?_
  refine .p (cA (h:=kJ (n:=4*gw x))) rfl ?_
  refine Z9 ?_
  refine .p ((mJ FU.out FU.out (.t rfl) de).le (aa.int (show _=(n:Int) by omega))) rfl ?_
  refine Z3 ?_
  refine Cd (fun c2=> ?_) fun c2=> ?_
  · exfalso;omega
  refine Z8 ?_
  refine .Xx rfl rfl rfl rfl (fun hg=>((o7 [_,_,_,_,_,_] [2,0,1,3,4,5,6] (h:=rR (X:=Pq) (a:=L2 x (Kd n) MM.2.2.1))).same (fun _ _=>aB.perm (Perm.idx [1,2,0,3,4,5,6] rfl rfl)) (fun _ _=>aa.refl _)).same (fun _ _=>aB.refl _) (fun _ _=>aa.refl _)) rfl rfl ?_
  refine Z7 ?_
  refine bJ ?_
  exact aa.prop (by rw [(AN hAo hm (by rw [h23];show 0+_≤_;omega) MM.2.2.1).2.live];simp [Kd])
 refine Z3 ?_
 refine .n (cE (h:=lJ (fr:=3))) rfl fun DW MN=> ?_
 refine .n (o7 [_] [1,2,3,4,0] (h:=Gb (a:=Kd n) (m:=x) (num:=0) hAo hm hmo hfl hv (by rw [h23];show _<0+_;omega) (by decide) (by decide))) rfl fun MM MF=> ?_
 refine jN ?_
 refine .n (cE (h:=qm hmo hfl)) rfl fun WZ Og=> ?_
 refine Z3 ?_
 refine Cd (fun c1=> ?_) fun c1=> ?_
 · exact absurd (Og.2.2 hv) (by omega)
 refine Z3 ?_
 have htb:=hm.tb
 have htn:(max x.Table 0)=((gw x:Nat):Int):=by unfold gw;omega
 have htl:=hm.r2.2.2
 have D0:=hm.r1.2
 have OT:=hm.r2.2.1
 have WS:rO x=aR (8*x.ay.length):=rfl
 have hc4:DT x=aR (4*gw x):=rfl
 refine .bA 9 3 FM.out (by kernel_rfl) (k:= ?_)
 refine Z3 ?_
 refine .p ((nT (.c _) (.t rfl) de).le (aa.int (show _=((8*x.ay.length:Nat):Int) by omega))) ?_
 refine .p (cA (h:=kJ (n:=8*x.ay.length))) ?_
 refine Z3 ?_
 refine .p ((nT (.c _) (.t rfl) (by rw [htn];exact bN (by omega) (by omega))).le (aa.int (show _=((4*gw x:Nat):Int) by rw [htn];omega))) ?_
 refine Z1 ?_
 refine .p (cA (h:=kJ (n:=4*gw x))) rfl ?_
 refine Z9 ?_
 refine .p ((mJ FU.out FU.out (.t rfl) de).le (aa.int (show _=(n:Int) by omega))) rfl ?_
 refine Z3 ?_
 refine Cd (fun c2=> ?_) fun c2=> ?_
 ·
  refine iw ?_
  refine .Xx rfl rfl rfl rfl (fun hg=>((cE (h:=rR (X:=Pq) (a:=MM))).same (fun _ _=>aB.refl _) (fun _ _=>aa.refl _)).same (fun _ _=>aB.refl _) (fun _ _=>aa.refl _)) rfl rfl ?_
  refine Z7 ?_
  refine bJ ?_
  exact aa.prop (by rw [MF];simp [Kd])
 exfalso;omega
end Go.Proofs.YtpfobikpggmleaaGreatDoor
end
section
namespace Go.Hl
open Go.RowKit
theorem VP.ext' {a b:VP} (h:∀S w v,a.p S w v↔b.p S w v):a=b:=by
 cases a;cases b
 congr
 funext S w v
 exact propext (h S w v)
theorem j8 {α β:Type} {n:Nat} {enc:β→List VP} {f:α→β} {l:List α}:ah n (fun a=>enc (f a)) l=ah n enc (l.map f):=by
 refine VP.ext' fun S w v=>⟨fun ⟨a,cap,h1,h2,h3,h4⟩=>⟨a,cap,by rw [List.length_map];exact h1,by rw [List.length_map];exact h2,by rw [List.length_map];exact h3, ?_⟩,fun ⟨a,cap,h1,h2,h3,h4⟩=>⟨a,cap,by rw [List.length_map] at h1;exact h1,by rw [List.length_map] at h2;exact h2,by rw [List.length_map] at h3;exact h3, ?_⟩⟩
 · cases a with
   |none=>exact h4
   |some ad=>
    intro h0
    obtain ⟨k1,k2,k3⟩:=h4 h0
    refine ⟨k1,k2,fun i x hx=> ?_⟩
    rw [List.getElem?_map] at hx
    obtain ⟨y,hy,rfl⟩:=Option.map_eq_some_iff.1 hx
    exact k3 i y hy
 · cases a with
   |none=>exact h4
   |some ad=>
    intro h0
    obtain ⟨k1,k2,k3⟩:=h4 h0
    exact ⟨k1,k2,fun i x hx=>k3 i (f x) (by rw [List.getElem?_map,hx];rfl)⟩
abbrev vX (n:nx .u64):List VP:=jg n.1
abbrev Xa:={x:au//JW x}
theorem u64_in (a:nx .u64):0≤a.1∧a.1<18446744073709551616:=by
 have h:=a.2
 have e1:IntKind.u64.min=0:=by decide
 have e2:IntKind.u64.max=18446744073709551615:=by decide
 simp [Lit.wf] at h
 omega
def PG (c:Int) (a b:nx .u64) (al:Int) (l:List (nx .u64)):Xa:=⟨⟨c,a.1,b.1,al,l.map (·.1)⟩,u64_in a,u64_in b,fun n hn=>by
 obtain ⟨y,_,rfl⟩:=List.mem_map.1 hn;exact (u64_in y).1⟩
abbrev uI (x:Xa):List VP:=aG x.1
instance:gN 5 uI:=⟨fun x=>(inferInstance:gN 5 aG).len x.1,fun x q h=>(inferInstance:gN 5 aG).flat x.1 q h⟩
abbrev Mw:={b:jm//∀y∈b.L,JW y}
def Hw (t:List UInt8) (l:List Xa):Mw:=⟨⟨t,l.map (·.1)⟩,fun y hy=>by
 obtain ⟨z,_,rfl⟩:=List.mem_map.1 hy;exact z.2⟩
abbrev x8 (b:Mw):List VP:=gB b.1
instance:gN 2 x8:=⟨fun x=>(inferInstance:gN 2 gB).len x.1,fun x q h=>(inferInstance:gN 2 gB).flat x.1 q h⟩
abbrev Hx:={f:cK//∀y∈f.Body.L,JW y}
def OK (s:Int) (b:Mw):Hx:=⟨⟨s,b.1⟩,b.2⟩
abbrev qn (f:Hx):List VP:=iD f.1
instance:gN 3 qn:=⟨fun x=>(inferInstance:gN 3 iD).len x.1,fun x q h=>(inferInstance:gN 3 iD).flat x.1 q h⟩
theorem JX (c:Int) (a b:nx .u64) (al:Int) (l:List (nx .u64)):[ag .i64 c,ag .u64 a.1,ag .u64 b.1,ag .i64 al,ah 1 vX l]=uI (PG c a b al l):=by
 rw [show ah 1 vX l=ah 1 jg (l.map (·.1)) from j8 (enc:=jg) (f:=Subtype.val)];rfl
theorem DM (t:List UInt8) (l:List Xa):[ah 1 aj t,ah 5 uI l]=x8 (Hw t l):=by
 rw [show ah 5 uI l=ah 5 aG (l.map (·.1)) from j8 (enc:=aG) (f:=Subtype.val)];rfl
abbrev Hy:={x:iS//0≤x.Value∧x.Value<18446744073709551616}
def OL (a:UInt8) (b:Prop) (c:nx .u64):Hy:=⟨⟨a,b,c.1⟩,u64_in c⟩
abbrev qo (x:Hy):List VP:=dZ x.1
instance:gN 3 qo:=⟨fun x=>(inferInstance:gN 3 dZ).len x.1,fun x q h=>(inferInstance:gN 3 dZ).flat x.1 q h⟩
abbrev Hz:={x:iN//0≤x.At∧x.At<18446744073709551616}
def OM (a:nx .u64) (l:List Int):Hz:=⟨⟨a.1,l⟩,u64_in a⟩
abbrev qp (x:Hz):List VP:=iT x.1
instance:gN 2 qp:=⟨fun x=>(inferInstance:gN 2 iT).len x.1,fun x q h=>(inferInstance:gN 2 iT).flat x.1 q h⟩
abbrev ON:={x:jO//0≤x.At∧x.At<18446744073709551616}
def Rl (m:Int) (a:nx .u64) (l:List UInt8):ON:=⟨⟨m,a.1,l⟩,u64_in a⟩
abbrev tC (x:ON):List VP:=j9 x.1
instance:gN 3 tC:=⟨fun x=>(inferInstance:gN 3 j9).len x.1,fun x q h=>(inferInstance:gN 3 j9).flat x.1 q h⟩
abbrev Rm:={m:aU//(∀f∈m.ax,∀y∈f.Body.L,JW y)∧QU m}
def Mx (a:List mD) (b:List gA) (c:List Hx) (d:Int) (e:List dY) (f:List Hy) (g:List dJ) (h:Int) (i:List Hz) (j:List ON):Rm:=⟨⟨a,b,c.map (·.1),d,e,f.map (·.1),g,h,i.map (·.1),j.map (·.1)⟩,fun f hf=>by
 obtain ⟨z,_,rfl⟩:=List.mem_map.1 hf;exact z.2,fun z hz=>by obtain ⟨y,_,rfl⟩:=List.mem_map.1 hz;exact y.2,fun z hz=>by obtain ⟨y,_,rfl⟩:=List.mem_map.1 hz;exact y.2,fun z hz=>by obtain ⟨y,_,rfl⟩:=List.mem_map.1 hz;exact y.2⟩
abbrev Bh (m:Rm):List VP:=bh m.1
theorem Gt (a:List mD) (b:List gA) (c:List Hx) (d:Int) (e:List dY) (f:List Hy) (g:List dJ) (h:Int) (i:List Hz) (j:List ON):
    [ah 2 cj a,ah 3 jl b,ah 3 qn c,ag .i64 d,ah 3 ew e,ah 3 qo f,ah 3 dK g,ag .i64 h,ah 2 qp i,ah 3 tC j]=Bh (Mx a b c d e f g h i j):=by
  rw [show ah 3 qn c=ah 3 iD (c.map (·.1)) from j8 (enc:=iD) (f:=Subtype.val),show ah 3 qo f=ah 3 dZ (f.map (·.1)) from j8 (enc:=dZ) (f:=Subtype.val),show ah 2 qp i=ah 2 iT (i.map (·.1)) from j8 (enc:=iT) (f:=Subtype.val),show ah 3 tC j=ah 3 j9 (j.map (·.1)) from j8 (enc:=j9) (f:=Subtype.val)];rfl
theorem Rn (a:nx .u16):∃m:Nat,a.1=(m:Int)∧m<65536:=by
 have h:=a.2
 have e1:IntKind.u16.min=0:=by decide
 have e2:IntKind.u16.max=65535:=by decide
 simp [Lit.wf] at h
 exact ⟨a.1.toNat,by omega,by omega⟩
end Go.Hl
end
section
namespace Go.Proofs.YtpfobikpggmleaaGreatDoor
open Go.Hl Go.RowKit
theorem uJ {x:Rm} {n:nx .u16}:cQ Tryz.prog 3 [aE (bh x.1),ag .u16 n.1] (ak True):=by
 obtain ⟨k,hk,hlt⟩:=Rn n
 rw [hk]
 exact uH x.2.1 x.2.2 hlt
end Go.Proofs.YtpfobikpggmleaaGreatDoor
end
