/-
  Parts of the proof.
-/
import Derived.Test.YtppekopemdoclaaGreatDoorRAQ
import Derived.Lib.LaidTab
set_option linter.all false
set_option maxRecDepth 1000000
set_option maxHeartbeats 4000000
section
namespace Go.Hl
open Go.RowKit
instance (m:aT):bD (bp m):=by unfold bp;infer_instance
def Qt(x:aj):Prop:=(0<=x.A/\x.A<18446744073709551616)/\(0<=x.B/\x.B<18446744073709551616)/\∀n∈x.L,0<=n
theorem vZ{x:aT}(hb:Kj x):0<=ri x/\ri x<=17100*281474976710656:=by
 have h5:=(AG hb).2.2.2.2;have hq:=jw (xs:=x.dA) (g:=yO) (cap:=25) 281474976710656 (by decide) hb.data;unfold ri;omega
theorem Ws{x:aT}(h:wK x)(hw:∀f∈x.aq,∀y∈f.Body.L,Qt y)(h0:ri x+max ((x.aq.length:Int)-12) 0+max ((x.dA.length:Int)-4) 0<=0):ny x/\fV x/\x.aq.length<=60000:=by
 have hb:=vZ (qt h);have hs:ny x:=Es h (by omega);refine⟨hs,⟨λf hf y hy=>?_,λf hf=>?_,λf hf=>?_⟩,by omega⟩
 · obtain⟨⟨a1,a2⟩,⟨b1,b2⟩,c⟩:=hw f hf y hy
   exact⟨a1,a2,b1,b2,c,by have:=(hs.fn f hf).all y hy;omega⟩
 · have:=(hs.fn f hf).l;omega
 · have:=(hs.fn f hf).locals;omega
end Go.Hl
end
section
namespace Go.Proofs.YtppekopemdoclaaGreatDoor
open Go.Hl Go.RowKit
theorem F3{x:aT}:dF Wo 4 [aC (bp x)] (af .i64 (ri x+max ((x.aq.length:Int)-12) 0+max ((x.dA.length:Int)-4) 0)):=by
 refine In 17 Tryz.func4 λ_ _ _=>?_;refine .fact (t:=0) rfl (λS w v h=>sX h) λhlen=>?_;have hall:=hlen;obtain⟨⟨Ci,kR,lD,m8,m9,nc,nk,nq⟩,⟨QJ,hi1,hi2,hi3,hi4⟩,hi5⟩:=hlen;have hgb:=vZ (qt hall);refine Z7 ?_;refine .bL 13 2 FM.out (by kernel_rfl) (k:= ?_);refine Z1 ?_;refine .p (cA (h:=L2)) ?_;refine Dh ?_;refine br ?_;exact aa.refl _
theorem F4{m:aT}(ak:fV m)(aR:m.aq.length<=60000):dF Wo 6 [aC (bp m)] (dvV m):=by
 exact(Ju ak aR).toP λg hg=>aa.ex g hg (aa.refl _)
theorem Me:dF Wo 8 [af .i64 250,af .i64 15,af .i64 450] (aC [nV 251,nV 16,nV 450]):=by
 refine In 22 Tryz.func8 λ_ _ _=>?_;refine Z2 ?_;refine .n (au FZ.out) rfl λb6 _=>?_;refine Z5 ?_;refine .p ((cO FU.out FU.out (.t rfl)).le (aa.int (show _=((250:Nat):Int) by decide))) rfl ?_;refine .p ((mh (b:=300) (by decide) (.t rfl) (.c _)).le (aa.int (show _=(250:Int) by decide))) rfl ?_;refine .p ((cO FU.out FU.out (.t rfl)).le (aa.int (show _=(250:Int) by decide))) rfl ?_;refine .p ((ez (.c _) (.t rfl) bY).le (aa.int (show _=(251:Int) by decide))) rfl ?_;refine Z1 ?_;refine .p ((cO FU.out FU.out (.t rfl)).le (aa.int (show _=((15:Nat):Int) by decide))) rfl ?_;refine .p ((mh (b:=20) (by decide) (.t rfl) (.c _)).le (aa.int (show _=(15:Int) by decide))) rfl ?_;refine .p ((cO FU.out FU.out (.t rfl)).le (aa.int (show _=(15:Int) by decide))) rfl ?_;refine .p ((ez (.c _) (.t rfl) bY).le (aa.int (show _=(16:Int) by decide))) rfl ?_;refine Z1 ?_;refine .p ((cO FU.out FU.out (.t rfl)).le (aa.int (show _=((450:Nat):Int) by decide))) rfl ?_;refine .p ((mh (b:=500) (by decide) (.t rfl) (.c _)).le (aa.int (show _=(450:Int) by decide))) rfl ?_;refine .p ((cO FU.out FU.out (.t rfl)).le (aa.int (show _=(450:Int) by decide))) rfl ?_;refine Z5 ?_;refine Post.aS rfl () trivial (λ_ _ _ _=>trivial) (.ra (i:=0) FA.out FC.out rfl rfl rfl rfl) ?_;exact aa.refl _
theorem Jv{a b:List Nat}:dF Wo 13 [ai 1 ia a,ai 1 ia b] (av (a=b)):=by
 refine In 26 Tryz.func13 λ_ _ _=>?_;refine .fact (t:=0) rfl (λS w v h=>cw h) λhl=>?_;refine oA ?_;refine Cd (λc0=>?_) λc0=>?_
 ·
  refine Z7 ?_;refine br ?_;exact aa.prop (by simp;intro e;exact c0 (by rw[e]))
 have O3:a.length=b.length:=by omega
 refine Z9 ?_;refine .bk (σ:=Nat) (λ_=>[]) (λk=>[(5,af .i64 (k:Int))]) (λk=>k<=a.length/\a.take k=b.take k) (λk=>a.length-k) 0 ⟨Nat.zero_le _,rfl⟩ rfl ?_ ?_
 · exact(.get rfl (aa.refl _) (.refl _ _))
 rintro k ⟨hk,he⟩;refine Z9 ?_;refine Cd (λc1=>?_) λc1=>?_
 ·
  obtain⟨u,ha⟩:=ah (xs:=a) (k:=k) (by omega);obtain⟨v,hb⟩:=ah (xs:=b) (k:=k) (by omega);refine Z5 ?_;refine .bL 8 1 FM.out (by kernel_rfl) (k:= ?_);refine Z2 ?_;refine .p (cI k (h:=ha)) ?_;refine Z3 ?_;refine .p (cI k (h:=hb)) ?_;refine Z5 ?_;refine Cd (λc2=>?_) λc2=>?_
  ·
   refine dh ?_;refine br ?_;exact aa.prop (by simp;intro e;rw[e,hb] at ha;cases ha;exact c2 rfl)
  refine Z8 ?_;refine .round (k+1) ⟨by omega,by rw[List.take_add_one,List.take_add_one,he,ha,hb,show u=v by omega]⟩ (by omega) rfl ?_;exact(.get rfl (aa.int (by show(k:Int)+1=((k+1:Nat):Int);omega)) ((.keep 17 rfl rfl)))
 have vb:k=a.length:=by omega
 subst vb;rw[List.take_length,O3,List.take_length] at he;refine dh ?_;refine br ?_;exact aa.prop (by simp[he])
theorem xH:bu Wo 5 [] [nt 1 .u8 Lib.deBruijn64tab] (γ:=Unit) (λ_=>True) (λ_=>[]) (λ_=>av True):=by
 refine In 56 Tryz.func5 λ_ _ _=>?_;refine Z7 ?_;refine .p (cB an [127]) rfl ?_;refine .p ((aL FP.out FZ.out (.cons (.t rfl) .nil) rfl).le ((show aa _ (aC (bW ⟨[],[127]⟩)) from aa.agg (.cons (aE _ _) (.cons (.refl _) .nil))))) rfl ?_;refine .p (cB bW [⟨[],[127]⟩]) rfl ?_;refine .p ((aL FP.out FZ.out (.cons (.c _) (.cons (.c _) .nil)) rfl).le ((by exact show aa _ (aC (aB (i65 2))) from ND))) rfl ?_;refine .p ((aL FP.out FZ.out (.cons (.c _) (.cons (.c _) .nil)) rfl).le ((by exact show aa _ (aC (aB (i65 3))) from ND))) rfl ?_;refine .p ((aL FP.out FZ.out (.cons (.c _) .nil) rfl).le ((by exact show aa _ (aC (aB (i106))) from ND))) rfl ?_;refine .p ((aL FP.out FZ.out (.cons (.c _) .nil) rfl).le ((by exact show aa _ (aC (aB (i11))) from ND))) rfl ?_;refine .p (bC (enc:=aB) (pcs:=[(0,aB (i65 2)),(1,aB (i65 3)),(2,aB i106),(3,aB i11)]) pR.L FU.out FC.out rfl FZ.out rfl (.cons (.t rfl) (.cons (.t rfl) (.cons (.t rfl) (.cons (.t rfl) .nil)))) rfl rfl rfl rfl rfl) rfl ?_;refine .p ((aL FP.out FZ.out (.cons (.t rfl) .nil) rfl).le ((show aa _ (aC (iT pR)) from aa.agg (.cons (aE _ _) (.cons (.refl _) .nil))))) rfl ?_;refine .p ((aL FP.out FZ.out (.cons (.t rfl) .nil) rfl).le ((show aa _ (aC (iU CK)) from aa.refl _))) rfl ?_;refine .p (cB iU [CK]) rfl ?_;refine .p ((aL FP.out FZ.out (.cons (.t rfl) (.cons (.c _) (.cons (.c _) (.cons (.t rfl) .nil)))) rfl).le ((show aa _ (aC (bp gZ)) from aa.agg (.cons (.refl _) (.cons (aE _ _) (.cons (.refl _) (.cons (.refl _) (.cons (aE _ _) (.cons (aE _ _) (.cons (aE _ _) (.cons (.refl _) (.cons (aE _ _) (.cons (aE _ _) .nil))))))))))))) rfl ?_;refine .n (au FZ.out) rfl λb1 _=>?_;refine Z3 ?_;refine .share (t:=1) (i:=0) rfl rfl ?_;refine Z2 ?_;refine .p (bw.le (wj FA.out FC.out rfl (.t rfl) rfl) (aa.refl (aC (bp gZ)))) rfl ?_;refine .p ((aL FP.out FZ.out (.cons (.c _) (.cons (.c _) (.cons (.c _) .nil))) rfl).le ((by exact show aa _ (aC [nV 10,nV 2,nV 4]) from aa.refl _))) rfl ?_;refine .n (cE (h:=LX)) rfl λSI T6=>?_;refine eB ?_;refine .n (eV (rest:=[]) (zf (A:=SI.1) (m:=gZ) (cells:=10) (frames:=2) (b:=SI.2) (F:=4) (s:=j4) (c:=I9) (f:=0) (args:=[]) T6 okR (by decide) Tb rfl rfl rfl (by decide) rfl ⟨λf hf=>(by cases hf),λv hv=>(by cases hv)⟩ (λv hv=>by cases hv) (by decide)) FB.out (.cons (.t rfl) (.cons (.c _) (.cons (.le (.c _) (aE 1 ia)) .nil))) (Perm.idx [0,1,2] rfl rfl)) rfl λXb VA=>?_;refine Z1 ?_;refine .p ((dW (.t rfl) rfl).le (aa.of_eq (by rw[tE VA.2 (Ny j4 I9 rfl rfl).1,(Ny j4 I9 rfl rfl).2.1]))) rfl ?_;refine Z1 ?_;refine .n (au FZ.out) rfl λb5 _=>?_;refine Z4 ?_;refine .share (t:=5) (i:=0) rfl rfl ?_;have hfu:=(Ny (Z:=64) j4 I9 rfl rfl).2.2;rw[<-tE VA.2 (Ny j4 I9 rfl rfl).1] at hfu;refine zE ?_;refine .g (de.gT rfl rfl rfl rfl (λhg=>aW (j:=0) FU.out FC.out rfl (.when (.t rfl) hg) (.c _) rfl (show([5]:List Nat)[0]?=some 5 from rfl))) rfl rfl ?_;refine Z5 ?_;refine .egT rfl rfl rfl rfl (λhg=>((cE (h:=rO)).same (λ_ _=>aF.refl _) (λ_ _=>aa.refl _)).same (λ_ _=>aF.refl _) (λ_ _=>aa.refl _)) rfl rfl ?_;refine Z6 ?_;refine br ?_;exact aa.prop (by simp[hfu])
end Go.Proofs.YtppekopemdoclaaGreatDoor
end
section
namespace Go.Hl
open Go.RowKit
theorem VP.ext'{a b:VP}(h:∀S w v,a.p S w v↔b.p S w v):a=b:=by
 cases a;cases b
 congr
 funext S w v
 exact propext (h S w v)
theorem kZ{α β:Type}{n:Nat}{enc:β->List VP}{f:α->β}{l:List α}:ai n (λa=>enc (f a)) l=ai n enc (l.map f):=by
 refine VP.ext' λS w v=>⟨λ⟨a,cap,h1,h2,h3,h4⟩=>⟨a,cap,by rw[List.length_map];exact h1,by rw[List.length_map];exact h2,by rw[List.length_map];exact h3,?_⟩,λ⟨a,cap,h1,h2,h3,h4⟩=>⟨a,cap,by rw[List.length_map] at h1;exact h1,by rw[List.length_map] at h2;exact h2,by rw[List.length_map] at h3;exact h3,?_⟩⟩
 · cases a with
   |none=>exact h4
   |some ad=>
    intro h0;obtain⟨k1,k2,k3⟩:=h4 h0;refine⟨k1,k2,λi x hx=>?_⟩;rw[List.getElem?_map] at hx;obtain⟨y,hy,rfl⟩:=Option.map_eq_some_iff.1 hx;exact k3 i y hy
 · cases a with
   |none=>exact h4
   |some ad=>
    intro h0;obtain⟨k1,k2,k3⟩:=h4 h0;exact⟨k1,k2,λi x hx=>k3 i (f x) (by rw[List.getElem?_map,hx];rfl)⟩
abbrev nW(n:ot .u64):List VP:=eo n.1
abbrev IWm:={x:aj//Qt x}
theorem u64_in(a:ot .u64):0<=a.1/\a.1<18446744073709551616:=by
 have h:=a.2;have e1:IntKind.u64.min=0:=by decide
 have e2:IntKind.u64.max=18446744073709551615:=by decide
 simp[Lit.wf] at h;omega
def Xp(c:Int)(a b:ot .u64)(al:Int)(l:List (ot .u64)):IWm:=⟨⟨c,a.1,b.1,al,l.map (·.1)⟩,u64_in a,u64_in b,λn hn=>by
 obtain⟨y,_,rfl⟩:=List.mem_map.1 hn;exact(u64_in y).1⟩
abbrev yE(x:IWm):List VP:=aB x.1
instance:gX 5 yE:=⟨λx=>(inferInstance:gX 5 aB).len x.1,λx q h=>(inferInstance:gX 5 aB).flat x.1 q h⟩
abbrev TN:={b:j8//∀y∈b.L,Qt y}
def NK(t:List UInt8)(l:List IWm):TN:=⟨⟨t,l.map (·.1)⟩,λy hy=>by
 obtain⟨z,_,rfl⟩:=List.mem_map.1 hy;exact z.2⟩
abbrev B6(b:TN):List VP:=iT b.1
instance:gX 2 B6:=⟨λx=>(inferInstance:gX 2 iT).len x.1,λx q h=>(inferInstance:gX 2 iT).flat x.1 q h⟩
abbrev NL:={f:cn//∀y∈f.Body.L,Qt y}
def Wt(s:Int)(b:TN):NL:=⟨⟨s,b.1⟩,b.2⟩
abbrev tR(f:NL):List VP:=iU f.1
instance:gX 3 tR:=⟨λx=>(inferInstance:gX 3 iU).len x.1,λx q h=>(inferInstance:gX 3 iU).flat x.1 q h⟩
theorem Qu(c:Int)(a b:ot .u64)(al:Int)(l:List (ot .u64)):[af .i64 c,af .u64 a.1,af .u64 b.1,af .i64 al,ai 1 nW l]=yE (Xp c a b al l):=by
 rw[show ai 1 nW l=ai 1 eo (l.map (·.1)) from kZ (enc:=eo) (f:=Subtype.val)];rfl
theorem Jw(t:List UInt8)(l:List IWm):[ai 1 an t,ai 5 yE l]=B6 (NK t l):=by
 rw[show ai 5 yE l=ai 5 aB (l.map (·.1)) from kZ (enc:=aB) (f:=Subtype.val)];rfl
end Go.Hl
end
section
namespace Go.Hl
open Go.RowKit Classical
structure NM where
 f:Int
 args:List Nat
def uB(c:NM):List VP:=[af .i64 c.f,ai 1 ia c.args]
instance:gX 2 uB:=⟨λ_=>rfl,λx q h=>by simp only[uB,List.mem_cons,List.not_mem_nil,or_false] at h;rcases h with h|h<;>subst h<;>infer_instance⟩
instance (c:NM):bD (uB c):=bD.of c
abbrev TO:={c:NM//∀v∈c.args,v<18446744073709551616}
abbrev B7(c:TO):List VP:=uB c.1
theorem NN(x:ot .u64):((x.1.toNat:Nat):Int)=x.1/\x.1.toNat<18446744073709551616:=by
 have h:=u64_in x;omega
def NO(a:Int)(l:List (ot .u64)):TO:=⟨⟨a,l.map λx=>x.1.toNat⟩,λv hv=>by
 obtain⟨x,_,rfl⟩:=List.mem_map.1 hv;exact(NN x).2⟩
theorem Jx(a:Int)(l:List (ot .u64)):[af .i64 a,ai 1 nW l]=B7 (NO a l):=by
 have e:(nW:ot .u64->List VP)=λx=>ia (x.1.toNat):=by
  funext x
  show[af .u64 x.1]=[af .u64 ((x.1.toNat:Nat):Int)]
  rw[(NN x).1]
 show[af .i64 a,ai 1 nW l]=[af .i64 a,ai 1 ia (l.map λx=>x.1.toNat)]
 rw[<-kZ (enc:=ia) (f:=λx:ot .u64=>x.1.toNat)];simp only[e]
end Go.Hl
end
section
namespace Go.Hl
open Go.RowKit
abbrev NP:={x:ju//0<=x.Value/\x.Value<18446744073709551616}
def Wu(a:UInt8)(b:Prop)(c:ot .u64):NP:=⟨⟨a,b,c.1⟩,u64_in c⟩
abbrev tS(x:NP):List VP:=iB x.1
instance:gX 3 tS:=⟨λx=>(inferInstance:gX 3 iB).len x.1,λx q h=>(inferInstance:gX 3 iB).flat x.1 q h⟩
abbrev NQ:={x:gR//0<=x.At/\x.At<18446744073709551616}
def Wv(a:ot .u64)(l:List Int):NQ:=⟨⟨a.1,l⟩,u64_in a⟩
abbrev tT(x:NQ):List VP:=kM x.1
instance:gX 2 tT:=⟨λx=>(inferInstance:gX 2 kM).len x.1,λx q h=>(inferInstance:gX 2 kM).flat x.1 q h⟩
abbrev Ww:={x:oD//0<=x.At/\x.At<18446744073709551616}
def Zw(m:Int)(a:ot .u64)(l:List UInt8):Ww:=⟨⟨m,a.1,l⟩,u64_in a⟩
abbrev xI(x:Ww):List VP:=mN x.1
instance:gX 3 xI:=⟨λx=>(inferInstance:gX 3 mN).len x.1,λx q h=>(inferInstance:gX 3 mN).flat x.1 q h⟩
abbrev Zx:={m:aT//(∀f∈m.aq,∀y∈f.Body.L,Qt y)/\Yl m}
def TP(a:List mj)(b:List jt)(c:List NL)(d:Int)(e:List gG)(f:List NP)(g:List eW)(h:Int)(i:List NQ)(j:List Ww):Zx:=⟨⟨a,b,c.map (·.1),d,e,f.map (·.1),g,h,i.map (·.1),j.map (·.1)⟩,λf hf=>by
 obtain⟨z,_,rfl⟩:=List.mem_map.1 hf;exact z.2,λz hz=>by obtain⟨y,_,rfl⟩:=List.mem_map.1 hz;exact y.2,λz hz=>by obtain⟨y,_,rfl⟩:=List.mem_map.1 hz;exact y.2,λz hz=>by obtain⟨y,_,rfl⟩:=List.mem_map.1 hz;exact y.2⟩
abbrev F5(m:Zx):List VP:=bp m.1
theorem Mf(a:List mj)(b:List jt)(c:List NL)(d:Int)(e:List gG)(f:List NP)(g:List eW)(h:Int)(i:List NQ)(j:List Ww):
    [ai 2 bW a,ai 3 lq b,ai 3 tR c,af .i64 d,ai 3 iA e,ai 3 tS f,ai 3 fz g,af .i64 h,ai 2 tT i,ai 3 xI j]=F5 (TP a b c d e f g h i j):=by
  rw[show ai 3 tR c=ai 3 iU (c.map (·.1)) from kZ (enc:=iU) (f:=Subtype.val),show ai 3 tS f=ai 3 iB (f.map (·.1)) from kZ (enc:=iB) (f:=Subtype.val),show ai 2 tT i=ai 2 kM (i.map (·.1)) from kZ (enc:=kM) (f:=Subtype.val),show ai 3 xI j=ai 3 mN (j.map (·.1)) from kZ (enc:=mN) (f:=Subtype.val)];rfl
end Go.Hl
end
section
namespace Go.Proofs.YtppekopemdoclaaGreatDoor
open Go.Hl Go.RowKit
theorem B8{x:aT}{c:NM}(ak:∀f∈x.aq,∀y∈f.Body.L,Qt y)(aR:Yl x)(bO:∀v∈c.args,v<18446744073709551616):bu Wo 3 [aC (bp x),aC (uB c)] [nt 1 .u8 Lib.deBruijn64tab] (γ:=Unit) (λ_=>True) (λ_=>[]) (λ_=>av True):=by
 refine In 145 Tryz.func3 λ_ _ _=>?_;refine .fact (t:=0) rfl (λS w v h=>sX h) λhlen=>?_;have hall:=hlen;obtain⟨⟨Ci,kR,lD,m8,m9,nc,nk,nq⟩,⟨QJ,hi1,hi2,hi3,hi4⟩,hi5⟩:=hlen;have hgm:=vZ (qt hall);refine dh ?_;refine .p (cA (h:=F3)) rfl ?_;refine Z8 ?_;refine .g (de.gF rfl rfl rfl rfl (λhg=>Dg (i:=0) (xH) FB.out .nil rfl)) rfl rfl ?_;refine Z4 ?_;refine Cd (λc0=>?_) λc0=>?_
 ·
  refine Z2 ?_;refine .p (cD 0 (h:=xH)) rfl ?_;refine Z5 ?_;refine br ?_;exact aa.refl _
 obtain⟨F7,hmo,hfl⟩:=Ws hall ak (by omega);clear hall hgm c0;refine Z9 ?_;refine .bk (σ:=Nat) (λ_=>[nt 1 .u8 Lib.deBruijn64tab]) (λk=>[(5,af .i64 (k:Int))]) (λk=>k<=x.aA.length/\∀(j:Nat) z,x.aA[j]?=some z->j<k->¬z.eu) (λk=>x.aA.length-k) 0 ⟨Nat.zero_le _,λj z _ h=>absurd h (Nat.not_lt_zero j)⟩ rfl ?_ ?_
 · exact(.get rfl (aa.refl _) (.refl _ _))
 rintro k ⟨hk,hmu⟩;refine cC ?_;refine Cd (λc1=>?_) λc1=>?_
 ·
  obtain⟨z,hz⟩:=ah (xs:=x.aA) (k:=k) (by omega);refine Z9 ?_;refine .p (cI k (h:=hz)) rfl ?_;refine Z4 ?_;refine Cd (λc2=>?_) λc2=>?_
  ·
   refine dh ?_;refine br ?_;exact aa.refl _
  refine Z8 ?_;refine .round (k+1) ⟨by omega,λj y hy hj=>by(rcases Nat.lt_succ_iff_lt_or_eq.1 hj with h9|rfl;exact hmu j y hy h9;(rw[hz] at hy;cases hy;exact c2))⟩ (by omega) rfl ?_;exact(.get rfl (aa.int (by(show(k:Int)+1=((k+1:Nat):Int);omega))) ((.keep 15 rfl rfl)))
 have vb:k=x.aA.length:=by omega
 subst vb;have JA:∀z∈x.aA,¬z.eu:=λz hz=>(by obtain⟨j,hj⟩:=List.mem_iff_getElem?.1 hz;exact hmu j z hj (List.getElem?_eq_some_iff.1 hj).1);refine ij ?_;refine .g (de.gF rfl rfl rfl rfl (λhg=>cg (F4 hmo hfl) FB.out (.cons (.when (.t rfl) hg) .nil))) rfl rfl ?_;refine .g (de.gF rfl rfl rfl rfl (λhg=>Yr (.when (.t rfl) hg) (.c _))) rfl rfl ?_;refine Z3 ?_;refine Cd (λc3=>?_) λc3=>?_
 ·
  refine Z7 ?_;refine br ?_;exact aa.refl _
 have hm0:x.cP=[]:=List.eq_nil_of_length_eq_zero (by(have h9:¬((x.cP.length:Int)>0):=λh=>c3 (.inl h));omega);refine Z3 ?_;refine .bt [(0,0),(1,0),(2,2),(3,0),(4,0),(5,0),(6,0),(7,0),(8,0)] 9 1 FM.out (by kernel_rfl) (k:= ?_);refine Z1 ?_;refine .p rfl (λ_=>cg (Me) FB.out (.cons (.c _) (.cons (.c _) (.cons (.c _) .nil)))) ?_;refine .e rfl (cE (h:=L1 (x:=x) (cells:=251) (frames:=16) (fuel:=450) (fr:=1) F7 hmo hfl (λhv=>aL0 hv.1 aR F7) hm0 (by decide) (by decide) (by decide) (by decide) (by decide) (by decide) (by decide))) λXg Xh=>?_;refine Z6 ?_;refine .fin ?_;refine Z5 ?_;rcases VC:Xg with _|⟨A0,b0⟩
 ·
  refine .own (aF.of_eq (show _=[nt 1 .u8 Lib.deBruijn64tab] from rfl)) ?_;refine Z5 ?_;refine CF λc4=>?_;refine Z7 ?_;refine br ?_;exact aa.refl _
 obtain⟨hA,hI,hv⟩:=Xh _ VC;have hx:=Lb (cells:=251) (frames:=16) hv hm0 JA (λ_ h=>BM h);refine .own (aF.of_eq (show _=[dZ A0 (runK x 251 16) ⟨b0,450,none,False⟩ j4,aX A0 (runK x 251 16) (lE x),nt 1 .u8 Lib.deBruijn64tab] from rfl)) ?_;refine Z2 ?_;refine .p (dy FU.out (.t rfl)) rfl ?_;refine Z2 ?_;refine CT λc4=>?_;refine Z3 ?_;by_cases hE:BO (runK x 251 16) j4 c.f c.args.length=0
 ·
  obtain⟨fn,YV,hfn,am7⟩:=VU (kok hv hmo) hE;refine Z3 ?_;refine .p ((pU FA.out (.t rfl)).le (aa.int YV)) rfl ?_;refine Z2 ?_;refine .n (cE (h:=zf (A:=A0) (m:=x) (cells:=251) (frames:=16) (b:=b0) (F:=450) (s:=j4) (c:=lE x) (f:=fn) (args:=c.args) hA hmo hfl hv hm0 rfl rfl (by rw[iM] at hfn;exact hfn) am7 hI bO (by decide))) rfl λy9 W1=>?_;refine Z3 ?_;refine .n (au FZ.out) rfl λb9 _=>?_;refine Z4 ?_;refine .share (t:=9) (i:=0) rfl rfl ?_;obtain⟨Cl,Dc⟩:=W1;have QL:=ended (K:=runK x 251 16) (Z:=64) (m:=j4) (c:=lE x) hx rfl rfl Dc;have hsum:=oR (K:=(runK x 251 16)) (Z:=64) y9.1 (bx (runK x 251 16) 450 fn c.args (j4,lE x));rw[(eJ _ _ _ _).1,(eJ _ _ _ _).2] at hsum;have hms:((j4,lE x):aY).1.bB=0:=rfl;have hsp:(bl (runK x 251 16) 64 y9.1 (bx (runK x 251 16) 450 fn c.args (j4,lE x))).1.bB<=450:=by omega
  have ci3:{(bl (runK x 251 16) 64 y9.1 (bx (runK x 251 16) 450 fn c.args (j4,lE x))).1 with over:=false}.bB<=450:=hsp;refine Z3 ?_;refine .n ((cE (h:=rO)).same (λ_ _=>aF.refl _) (λ_ _=>aa.refl _)) rfl λ_ _=>?_;refine Z1 ?_;refine .n ((cE (h:=tM)).same (λ_ _=>aF.refl _) (λ_ _=>aa.refl _)) rfl λ_ _=>?_;refine Z5 ?_;rcases(show((bl (runK x 251 16) 64 y9.1 (bx (runK x 251 16) 450 fn c.args (j4,lE x))).1.out.kind=0\/(bl (runK x 251 16) 64 y9.1 (bx (runK x 251 16) 450 fn c.args (j4,lE x))).1.out.kind=1)\/((bl (runK x 251 16) 64 y9.1 (bx (runK x 251 16) 450 fn c.args (j4,lE x))).1.out.kind=2\/(bl (runK x 251 16) 64 y9.1 (bx (runK x 251 16) 450 fn c.args (j4,lE x))).1.out.kind=3) by have:=QL.most;omega) with hk|hk
  ·
   obtain⟨q1,q2,q3,q4⟩:=QL.done hk;have hag:=again (K:=(runK x 251 16)) (Z:=64) (m:=j4) (c:=lE x) hx rfl rfl rfl rfl rfl rfl Dc hk;have F8:=hag.1;refine Z3 ?_;refine .p ((pU FA.out (.t rfl)).le (aa.int YV)) rfl ?_;refine Z2 ?_;refine .n (cE (h:=I7 (A:=A0) (m:=x) (cells:=251) (frames:=16) (b:=b0) (F:=450) (bs:=y9.2) (s:={(bl (runK x 251 16) 64 y9.1 (bx (runK x 251 16) 450 fn c.args (j4,lE x))).1 with over:=false}) (c:=(bl (runK x 251 16) 64 y9.1 (bx (runK x 251 16) 450 fn c.args (j4,lE x))).2) (f:=fn) (args:=c.args) hA hmo hfl hv hm0 q1 q2 (by rw[iM] at hfn;exact hfn) am7 (by rw[F8];exact hI) bO (by show 450+(bl (runK x 251 16) 64 y9.1 (bx (runK x 251 16) 450 fn c.args (j4,lE x))).1.bB<=1000000;omega) Cl)) rfl λg79 h79=>?_;refine Z3 ?_;refine .n (au FZ.out) rfl λUm _=>?_;refine Z4 ?_;refine .share (t:=13) (i:=0) rfl rfl ?_;have so:=Pv (K:=(runK x 251 16)) (Z:=64) (m:=j4) (c:=lE x) (n:=y9.1) (n':=g79) hx rfl rfl rfl rfl rfl rfl Dc hk rfl h79;obtain⟨w1,w2,w3⟩:=so;refine Z7 ?_;refine CT λc5=>?_;refine oA ?_;refine CT λc6=>?_;refine zE ?_;refine .g (de.gT rfl rfl rfl rfl (λhg=>cg (Jv) FB.out (.cons (.when (.t rfl) hg) (.cons (.when (.t rfl) hg) .nil)))) rfl rfl ?_;refine cC ?_;refine .egT rfl rfl rfl rfl (λhg=>((cE (h:=rO)).same (λ_ _=>aF.refl _) (λ_ _=>aa.refl _)).same (λ_ _=>aF.refl _) (λ_ _=>aa.refl _)) rfl rfl ?_;refine Z5 ?_;refine .egT rfl rfl rfl rfl (λhg=>((cE (h:=tM)).same (λ_ _=>aF.refl _) (λ_ _=>aa.refl _)).same (λ_ _=>aF.refl _) (λ_ _=>aa.refl _)) rfl rfl ?_;refine Z8 ?_;refine br ?_;exact aa.prop (by simp[w1,w2,w3])
  have hst:{(bl (runK x 251 16) 64 y9.1 (bx (runK x 251 16) 450 fn c.args (j4,lE x))).1 with over:=false}.fault≠0\/{(bl (runK x 251 16) 64 y9.1 (bx (runK x 251 16) 450 fn c.args (j4,lE x))).1 with over:=false}.waits=true:=by(rcases hk with h|h;exact .inr (QL.host h).2;exact .inl (QL.fail h).1)
  have am8:=Pr (K:=(runK x 251 16)) (s:={(bl (runK x 251 16) 64 y9.1 (bx (runK x 251 16) 450 fn c.args (j4,lE x))).1 with over:=false}) (f:=(fn:Int)) (n:=c.args.length) hst;have hwt:{(bl (runK x 251 16) 64 y9.1 (bx (runK x 251 16) 450 fn c.args (j4,lE x))).1 with over:=false}.waits=true↔(bl (runK x 251 16) 64 y9.1 (bx (runK x 251 16) 450 fn c.args (j4,lE x))).1.out.kind=2:=by(rcases hk with h|h;(have h9:=(QL.host h).2;simp[h,h9]);(have h9:=(QL.fail h).2;simp[h,h9]))
  refine Z3 ?_;refine .p ((pU FA.out (.t rfl)).le (aa.int YV)) rfl ?_;refine Z2 ?_;refine .n (cE (h:=tL (E:=(mE b0 450 y9.2)) (s:={(bl (runK x 251 16) 64 y9.1 (bx (runK x 251 16) 450 fn c.args (j4,lE x))).1 with over:=false}) (c:=(bl (runK x 251 16) 64 y9.1 (bx (runK x 251 16) 450 fn c.args (j4,lE x))).2) (f:=(fn:Int)) (args:=c.args) (λh=>h) (by rw[am8];decide))) rfl λg79 h79=>?_;refine Z2 ?_;refine .p ((dW (.t rfl) rfl).le (aa.int am8)) rfl ?_;refine .n (au FZ.out) rfl λUm _=>?_;refine Z4 ?_;refine .share (t:=13) (i:=0) rfl rfl ?_;refine Z7 ?_;refine CT λc5=>?_;refine oA ?_;refine CF λc6=>?_;refine Z1 ?_;refine .bt [(0,0),(1,0),(2,0),(3,0),(5,0),(6,0),(7,0),(4,4)] 8 3 FM.out (by kernel_rfl) (k:= ?_);refine Z7 ?_;refine .aGT rfl rfl rfl rfl ((by decide)) (λhg=>(cE (h:=ID)).same (λ_ _=>aF.refl _) (λ_ _=>aa.refl _)) (λ_ _=>aF.refl _) λ_ _=>?_;refine .fin ?_;refine Z7 ?_;refine br ?_;exact aa.prop (by simp[hwt];omega)
 refine Z6 ?_;refine .n (cE (h:=tL (E:=⟨b0,450,none,False⟩) (s:=j4) (c:=lE x) (f:=c.f) (args:=c.args) (λh=>h) hE)) rfl λy9 W1=>?_;refine Z3 ?_;refine .n (au FZ.out) rfl λb9 _=>?_;refine Z4 ?_;refine .share (t:=9) (i:=0) rfl rfl ?_;refine Z3 ?_;refine .n ((cE (h:=rO)).same (λ_ _=>aF.refl _) (λ_ _=>aa.refl _)) rfl λ_ _=>?_;refine Z1 ?_;refine .n ((cE (h:=tM)).same (λ_ _=>aF.refl _) (λ_ _=>aa.refl _)) rfl λ_ _=>?_;refine dh ?_;refine .n (cE (h:=tL (E:=⟨b0,450,none,False⟩) (s:=j4) (c:=lE x) (f:=c.f) (args:=c.args) (λh=>h) hE)) rfl λg79 h79=>?_;refine Z3 ?_;refine .n (au FZ.out) rfl λUm _=>?_;refine Z4 ?_;refine .share (t:=13) (i:=0) rfl rfl ?_;refine Z7 ?_;refine Cd (λc5=>?_) λc5=>?_
 ·
  refine ij ?_;refine br ?_;exact aa.prop (by simp[j4])
 exact(c5 hE).elim
theorem B9{x:Zx}{c:TO}:bu Wo 3 [aC (bp x.1),aC (uB c.1)] [nt 1 .u8 Lib.deBruijn64tab] (γ:=Unit) (λ_=>True) (λ_=>[]) (λ_=>av True):=by
 exact B8 x.2.1 x.2.2 c.2
end Go.Proofs.YtppekopemdoclaaGreatDoor
end
