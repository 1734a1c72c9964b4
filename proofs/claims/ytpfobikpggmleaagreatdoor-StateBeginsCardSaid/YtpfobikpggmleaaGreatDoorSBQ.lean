/-
  What the statement's proof leans on, several texts in one (packed by a program).
-/
import Derived.Test.YtpfobikpggmleaaGreatDoorSBP
set_option linter.all false
set_option maxRecDepth 1000000
set_option maxHeartbeats 4000000
section
namespace Go.Hl
open Go.RowKit
abbrev xk:=Nat×List UInt8
def sD(p:xk):List VP:=[ag .u64 (p.1:Int),ai 1 aj p.2]
instance:gZ 2 sD:=⟨fun _=>rfl,fun x q h=>by simp only[sD,List.mem_cons,List.not_mem_nil,or_false] at h;rcases h with h|h<;>subst h<;>infer_instance⟩
structure RM where
 pages:Nat
 most:Nat
 iQ:List xk
def fN(r:RM):List VP:=[ag .i64 (r.pages:Int),ag .i64 (r.most:Int),ai 2 sD r.iQ]
instance:gZ 3 fN:=⟨fun _=>rfl,fun x q h=>by simp only[fN,List.mem_cons,List.not_mem_nil,or_false] at h;rcases h with h|h|h<;>subst h<;>infer_instance⟩
instance (r:RM):bH (fN r):=⟨fun q h=>gZ.flat (enc:=fN) r q h⟩
def sE(p:xk)(a:Nat):Prop:=p.1≤a∧a-p.1<p.2.length
instance (p:xk) (a:Nat):Decidable (sE p a):=inferInstanceAs (Decidable (_∧_))
def sF(ps:List xk)(a:Nat):Nat→UInt8
 |0=>0
 |i+1=>match ps[i]? with
  |some p=>if sE p a then p.2.getD (a-p.1) 0 else sF ps a i
  |none=>0
def pV(r:RM)(a:Nat):UInt8:=sF r.iQ a r.iQ.length
def sG(r:RM)(a n:Nat):List UInt8:=(List.range n).map fun i=>pV r (a+i)
def qN(r:RM)(a:Nat)(ys:List UInt8):RM:={r with iQ:=r.iQ++[(a,ys)]}
theorem Cm(r:RM)(a n:Nat):(sG r a n).length=n:=by simp[sG]
theorem AD(r:RM)(a n:Nat):sG r a (n+1)=sG r a n++[pV r (a+n)]:=by simp[sG,List.range_succ]
variable {i:Nat} {p:xk}
theorem th{ps:List xk}{a:Nat}(h:ps[i]?=some p)(hi:sE p a):sF ps a (i+1)=p.2.getD (a-p.1) 0:=by
 show(match ps[i]? with|some p=>if sE p a then p.2.getD (a-p.1) 0 else sF ps a i|none=>0)=_
 rw[h];exact if_pos hi
theorem vL{ps:List xk}{a:Nat}(h:ps[i]?=some p)(hi:¬sE p a):sF ps a (i+1)=sF ps a i:=by
 show(match ps[i]? with|some p=>if sE p a then p.2.getD (a-p.1) 0 else sF ps a i|none=>0)=_
 rw[h];exact if_neg hi
theorem Cn{ps qs:List xk}{a:Nat}:∀i,i≤ps.length→sF (ps++qs) a i=sF ps a i
 |0,_=>rfl
 |i+1,h=>by
  have ih:=Cn (ps:=ps) (qs:=qs) (a:=a) i (by omega);obtain⟨p,hp⟩:∃p,ps[i]?=some p:=⟨ps[i],List.getElem?_eq_getElem (by omega)⟩;have hp2:(ps++qs)[i]?=some p:=by rw[List.getElem?_append_left (by omega)];exact hp
  by_cases hi:sE p a
  · rw[th hp hi,th hp2 hi]
  · rw[vL hp hi,vL hp2 hi,ih]
theorem Gt(r:RM)(at_:Nat)(ys:List UInt8)(a:Nat):pV (qN r at_ ys) a=if at_≤a∧a<at_+ys.length then ys.getD (a-at_) 0 else pV r a:=by
 unfold pV qN;simp only[List.length_append,List.length_singleton];have hp:(r.iQ++[(at_,ys)])[r.iQ.length]?=some (at_,ys):=by simp
 by_cases h:at_≤a∧a<at_+ys.length
 · rw[if_pos h,th hp (show sE (at_,ys) a from⟨h.1,by show a-at_<ys.length;omega⟩)]
 · rw[if_neg h,vL hp (fun hi=>h ⟨hi.1,by have h2:a-at_<ys.length:=hi.2;have h1:at_≤a:=hi.1;omega⟩),Cn _ (Nat.le_refl _)]
structure N2 where
 gl:List Int
 tb:List Int
 ms:List RM
def oP(s:N2):List VP:=[ai 1 dh s.gl,ai 1 dc s.tb,ai 3 fN s.ms]
instance:gZ 3 oP:=⟨fun _=>rfl,fun x q h=>by simp only[oP,List.mem_cons,List.not_mem_nil,or_false] at h;rcases h with h|h|h<;>subst h<;>infer_instance⟩
instance (s:N2):bH (oP s):=bH.of s
instance (p:xk):bH (sD p):=bH.of p
def N3(tb:List Int)(e:ez):Nat→List Int
 |0=>tb
 |k+1=>(N3 tb e k).set (e.At.toNat+k) ((e.aA[k]?).getD 0+1)
theorem yS(tb:List Int)(e:ez):∀k,(N3 tb e k).length=tb.length
 |0=>rfl
 |k+1=>by show(List.set _ _ _).length=_;rw[List.length_set];exact yS tb e k
def sH(m:aT):Nat→List Int
 |0=>List.replicate (fq m) 0
 |k+1=>N3 (sH m k) (De m k) (De m k).aA.length
theorem nX(m:aT):∀k,(sH m k).length=fq m
 |0=>by simp[sH]
 |k+1=>(yS _ _ _).trans (nX m k)
variable {m:aT} {k:Nat}
theorem P6{e:ez}(h:m.bw[k]?=some e):sH m (k+1)=N3 (sH m k) e e.aA.length:=by show N3 _ (De m k) _=_;rw[KM h]
def Gu(l:dR):RM:=⟨l.Min.toNat,nN l,[]⟩
def P7(m:aT)(d:fV)(l:List RM):List RM:=if (xO m d).2=(0,0) then l.set d.Mem.toNat (qN ((l[d.Mem.toNat]?).getD ⟨0,0,[]⟩) d.At.toNat d.Bytes) else l
def lu(m:aT):Nat→List RM
 |0=>m.bz.map Gu
 |k+1=>P7 m (vr m k) (lu m k)
theorem K5(m:aT)(d:fV)(l:List RM):(P7 m d l).length=l.length:=by unfold P7;split<;>simp
theorem pW(m:aT):∀k,(lu m k).length=m.bz.length
 |0=>by simp[lu]
 |k+1=>(K5 _ _ _).trans (pW m k)
variable {d:fV}
theorem AE(h:m.bl[k]?=some d):lu m (k+1)=P7 m d (lu m k):=by show P7 m (vr m k) _=_;rw[Df h]
def lG(m:aT)(ke kd:Nat):N2:=⟨m.an.map (·.Value),sH m ke,lu m kd⟩
structure P8(r:RM)(n:Nat):Prop where
 tG:r.iQ.length≤n
 len:∀p∈r.iQ,p.2.length≤5000
 fit:∀p∈r.iQ,p.1+p.2.length≤r.pages*65536
 pages:r.pages≤65536
theorem DK{m:aT}(hm:nM m):∀k i r,(lu m k)[i]?=some r→P8 r k∧r.pages=(Iv m i).Min.toNat
 |0,i,r,h=>by
  unfold lu at h;rw[List.getElem?_map] at h;obtain⟨l,hl,rfl⟩:=Option.map_eq_some_iff.1 h;have h1:=(hm.ms l (List.mem_of_getElem? hl)).2.1;exact⟨⟨Nat.le_refl _,fun p hp=>(by cases hp),fun p hp=>(by cases hp),by show l.Min.toNat≤65536;omega⟩,by rw[yF hl];rfl⟩
 | k + 1, i,r,h=>by
  have ih:=DK hm k;cases hd:m.bl[k]? with
  | none =>
   have e:vr m k=⟨0,0,[]⟩:=by unfold vr;rw[hd];rfl
   have e2:lu m (k+1)=P7 m ⟨0,0,[]⟩ (lu m k):=by show P7 m (vr m k) _=_;rw[e]
   rw[e2] at h;unfold P7 at h
   split at h
   · by_cases hi:0=i
     · subst hi
       have hl:0<(lu m k).length:=by have:=(List.getElem?_eq_some_iff.1 h).1;simpa using this
       obtain⟨r0,Kt⟩:=ah (xs:=lu m k) (k:=0) hl;rw[show(0:Int).toNat=0 from rfl,List.getElem?_set_self hl,Kt] at h;cases h;obtain⟨h1,h2⟩:=ih 0 r0 Kt;refine⟨⟨by have:=h1.tG;simp[qN];omega,fun p hp=>?_,fun p hp=>?_,h1.pages⟩,h2⟩
       · rcases List.mem_append.1 hp with hp|hp
         · exact h1.len p hp
         · rw[List.mem_singleton.1 hp];exact Nat.zero_le _
       · rcases List.mem_append.1 hp with hp|hp
         · exact h1.fit p hp
         · rw[List.mem_singleton.1 hp];exact Nat.zero_le _
     · rw[show(0:Int).toNat=0 from rfl,List.getElem?_set_ne hi] at h
       obtain⟨h1,h2⟩:=ih i r h;exact⟨⟨Nat.le_succ_of_le h1.tG,h1.len,h1.fit,h1.pages⟩,h2⟩
   · obtain⟨h1,h2⟩:=ih i r h
     exact⟨⟨Nat.le_succ_of_le h1.tG,h1.len,h1.fit,h1.pages⟩,h2⟩
  | some d =>
   rw[AE hd] at h;obtain⟨Tu,hd2,hd3,hd4⟩:=hm.da d (List.mem_of_getElem? hd);unfold P7 at h
   split at h
   · rename_i hw
     by_cases hi:d.Mem.toNat=i
     · subst hi
       have hl:d.Mem.toNat<(lu m k).length:=by have:=(List.getElem?_eq_some_iff.1 h).1;simpa using this
       obtain⟨r0,Kt⟩:=ah (xs:=lu m k) (k:=d.Mem.toNat) hl;rw[List.getElem?_set_self hl,Kt] at h;cases h;obtain⟨h1,h2⟩:=ih _ r0 Kt;have hin:=(wM (.inr hw)).2.2.1;refine⟨⟨by have:=h1.tG;simp[qN];omega,fun p hp=>?_,fun p hp=>?_,h1.pages⟩,h2⟩
       · rcases List.mem_append.1 hp with hp|hp
         · exact h1.len p hp
         · rw[List.mem_singleton.1 hp];exact hd4
       · rcases List.mem_append.1 hp with hp|hp
         · exact h1.fit p hp
         · rw[List.mem_singleton.1 hp]
           show d.At.toNat+d.Bytes.length≤r0.pages*65536
           rw[h2];omega
     · rw[List.getElem?_set_ne hi] at h
       obtain⟨h1,h2⟩:=ih i r h;exact⟨⟨Nat.le_succ_of_le h1.tG,h1.len,h1.fit,h1.pages⟩,h2⟩
   · obtain⟨h1,h2⟩:=ih i r h
     exact⟨⟨Nat.le_succ_of_le h1.tG,h1.len,h1.fit,h1.pages⟩,h2⟩
theorem od.uniq{r r':Nat×Nat×Int}(h:od m r)(h':od m r'):r=r':=by
 have e1:∀{k k':Nat} {e e':ez},m.bw[k]?=some e→kq m k→iT m e→m.bw[k']?=some e'→kq m k'→iT m e'→k=k':=fun{k k' e e'} h1 h2 h3 h4 h5 h6=>by
  rcases Nat.lt_trichotomy k k' with hl|hl|hl
  · exact absurd h3 (h5 k e hl h1)
  · exact hl
  · exact absurd h6 (h2 k' e' hl h4)
 have e2:∀{k k':Nat} {e e':fV},m.bl[k]?=some e→nO m k→(xO m e).2≠(0,0)→m.bl[k']?=some e'→nO m k'→(xO m e').2≠(0,0)→k=k':=fun{k k' e e'} h1 h2 h3 h4 h5 h6=>by
  rcases Nat.lt_trichotomy k k' with hl|hl|hl
  · exact absurd (h5 k e hl h1) h3
  · exact hl
  · exact absurd (h2 k' e' hl h4) h6
 rcases h with⟨k,e,a1,a2,a3,rfl⟩|⟨a0,k,d,a1,a2,a3,rfl⟩|⟨a0,a1,rfl⟩<;>rcases h' with⟨k',e',b1,b2,b3,rfl⟩|⟨b0,k',d',b1,b2,b3,rfl⟩|⟨b0,b1,rfl⟩
 · rw[e1 a1 a2 a3 b1 b2 b3]
 · exact absurd a3 (b0 k e (List.getElem?_eq_some_iff.1 a1).1 a1)
 · exact absurd a3 (b0 k e (List.getElem?_eq_some_iff.1 a1).1 a1)
 · exact absurd b3 (a0 k' e' (List.getElem?_eq_some_iff.1 b1).1 b1)
 · have:=e2 a1 a2 a3 b1 b2 b3
   subst this;rw[a1] at b1;cases b1;rfl
 · exact absurd (b1 k d (List.getElem?_eq_some_iff.1 a1).1 a1) a3
 · exact absurd b3 (a0 k' e' (List.getElem?_eq_some_iff.1 b1).1 b1)
 · exact absurd (a1 k' d' (List.getElem?_eq_some_iff.1 b1).1 b1) b3
 · rfl
theorem K6(h:d.Bytes.length≤5000):(xO m d).2≠(0,0)↔jF (Iv m d.Mem.toNat).Min.toNat (d.At.toNat+0) d.Bytes.length:=by
 unfold xO cz;rw[if_neg (by omega),if_neg (by omega),Int.toNat_natCast];by_cases hb:jF (Iv m d.Mem.toNat).Min.toNat (d.At.toNat+0) d.Bytes.length
 · rw[if_pos hb];exact⟨fun _=>hb,fun _ h2=>by cases h2⟩
 · rw[if_neg hb];exact⟨fun h2=>absurd rfl h2,fun h2=>absurd h2 hb⟩
theorem SA(h:d.Bytes.length≤5000)(hb:(xO m d).2≠(0,0)):(xO m d).2.1=4:=by
 have h2:=(K6 h).1 hb;unfold xO cz;rw[if_neg (by omega),if_neg (by omega),Int.toNat_natCast,if_pos h2]
theorem P9(hd:m.bl[k]?=some d)(hb:(xO m d).2≠(0,0)):lu m (k+1)=lu m k:=by rw[AE hd];exact if_neg hb
structure Bh(a:ej)(g t:Nat)(s:N2):Prop where
 gl:∀(i:Nat) (v:Int),s.gl[i]?=some v→(ry (a.get (g+8*i) 8):Int)=v
 tb:∀(i:Nat) (f:Int),s.tb[i]?=some f→(ry (a.get (t+4*i) 4):Int)=f
structure Gv(M:A1)(r:RM)(C:Cont)(n:Nat):Prop where
 ok:O9 M
 pages:M.pages=r.pages
 eq:∀a,vf 64 C M.num a=pV r a
 iQ:P8 r n
structure Gw(ms:List A1)(rs:List RM)(C:Cont)(n:Nat):Prop where
 len:ms.length=rs.length
 all:∀(i:Nat) (M:A1) (r:RM),ms[i]?=some M→rs[i]?=some r→Gv M r C n
theorem Gx(l:List UInt8):ry (l.take 4)<4294967296:=by
 have h1:=CN (l.take 4);have h2:(l.take 4).length≤4:=List.length_take_le _ _;have h3:2^(8*(l.take 4).length)≤2^32:=Nat.pow_le_pow_right (by decide) (by omega);omega
def MW(ms:List A1):List Int:=ms.map fun M=>(M.pages:Int)
variable {M:A1}
theorem Qa{ms:List A1}(h:ms[i]?=some M):(MW ms)[i]?=some (M.pages:Int):=by unfold MW;rw[List.getElem?_map,h];rfl
theorem Gv.load{r:RM}{C:Cont}{n:Nat}(h:Gv M r C n)(hp:p∈r.iQ):(cz M.pages p.1 0 (p.2.length:Int)).2=(0,0):=by
 have h1:=h.iQ.fit p hp;have h2:=h.iQ.len p hp;have h3:=h.pages;unfold cz;rw[if_neg (by omega),if_neg (by omega),if_neg (by unfold jF;rw[Int.toNat_natCast,h3];omega)]
theorem Gv.read{r:RM}{C:Cont}{n:Nat}(h:Gv M r C n)(a k:Nat):rX 64 C M.num a k=sG r a k:=by
 unfold rX sG;exact List.map_congr_left fun i _=>h.eq _
end Go.Hl
end
section
namespace Go.Proofs.YtpfobikpggmleaaGreatDoor
open Go.Hl Go.RowKit
variable {sb:Nat} {pb:Nat} {X:ox} {m:aT} {num:Int} {g:Int} {t:Int} {mv:VP}
theorem vM:cv Tryz.prog 74 [aD sb 0] [lB sb X pb m num g t mv] (γ:=Unit) (fun _=>True) (fun _=>[lB sb X pb m num g t mv]) (fun _=>ag .i64 m.Table):=by
 refine In 10 Tryz.func74 fun _ _ _=>?_;refine BE ?_;refine bB ?_;exact .z
theorem Gy{i:Int}(az:0≤i)(hp1:i<m.Table):cv Tryz.prog 45 [aD sb 0,ag .i64 i,RP 74 sb] [lB sb X pb m num g t mv] (γ:=Unit) (fun _=>True) (fun _=>[lB sb X pb m num g t mv]) (fun _=>ag .i64 0):=by
 refine In 19 Tryz.func45 fun _ _ _=>?_;refine cD ?_;refine .n ((cE (h:=ij)).same (fun _ _=>aB.refl _) (fun _ _=>af.refl _)) rfl fun _ _=>?_;refine Z3 ?_;refine CT fun c0=>?_;refine Z7 ?_;refine .Uu rfl rfl rfl rfl (fun hg=>((vn (rest:=[]) (vM (sb:=sb) (X:=X) (pb:=pb) (m:=m) (num:=num) (g:=g) (t:=t) (mv:=mv)) FB.out (.when (.t rfl) hg) (Perm.idx [0] rfl rfl)).same (fun _ _=>aB.refl _) (fun _ _=>af.refl _)).same (fun _ _=>aB.refl _) (fun _ _=>af.refl _)) rfl rfl ?_;refine Z5 ?_;refine CT fun c1=>?_;refine Z9 ?_;refine bB ?_;exact .z
theorem Gz{a:ej}{t0:Nat}{i:Nat}(az:i<fq m)(hp1:dy X a)(hp2:t0+4*(i+1)≤X.size):cv Tryz.prog 30 [aD sb 0,ag .i64 (i:Int)] (lB sb X pb m num g (t0:Int) mv::pP X a) (γ:=Unit) (fun _=>True) (fun _=>lB sb X pb m num g (t0:Int) mv::pP X a) (fun _=>bE [ag .i64 (if (ry ((a.bytes.drop (t0+4*i)).take 4))=0 then 0 else((ry ((a.bytes.drop (t0+4*i)).take 4)):Int)-1),ak ((ry ((a.bytes.drop (t0+4*i)).take 4))≠0),ag .i64 0]):=by
 refine In 43 Tryz.func30 fun _ _ _=>?_;have hmo:=hp1.most;have U9:(i:Int)<m.Table:=by unfold fq at az;omega
 have hvl:=Gx (a.bytes.drop (t0+4*i));refine jP ?_;refine .p (vm (.t rfl)) rfl ?_;refine .n ((cE (h:=Gy (sb:=sb) (X:=X) (pb:=pb) (m:=m) (num:=num) (g:=g) (t:=(t0:Int)) (mv:=mv) (i:=(i:Int)) (by omega) U9)).same (fun _ _=>aB.refl _) (fun _ _=>af.refl _)) rfl fun _ _=>?_;refine Z9 ?_;refine CT fun c0=>?_;refine Z3 ?_;refine .bP [(0,0),(1,0),(2,0),(3,1),(4,0),(5,0),(6,0),(7,1),(8,0),(9,0),(10,0),(11,4),(12,0),(13,0),(14,0),(15,0)] 16 1 FM.out (by kernel_rfl) (k:= ?_);refine cD ?_;refine .p rfl (fun _=>(eU (.t rfl) (.t rfl) ee).le (af.int (show _=((t0+4*i:Nat):Int) by omega))) ?_;refine .a rfl ((kL [_] [1,2,0] (h:=B7 (at_:=t0+4*i) (w:=4) hp1 (by omega) (.inr rfl))).same (fun _ _=>aB.perm (Perm.idx [2,0,1] rfl rfl)) (fun _ _=>af.refl _)) (fun _ _=>aB.refl _) fun _ _=>?_;refine Z4 ?_;refine .fin ?_;refine jb ?_;refine Cd (fun c1=>?_) fun c1=>?_
 ·
  have hz:(ry ((a.bytes.drop (t0+4*i)).take 4))=0:=by omega
  refine cD ?_;refine LI ?_ ?_ ?_
  · exact af.int (by rw[if_pos hz])
  · exact af.prop (by simp[hz])
  exact af.refl _
 have hz:¬(ry ((a.bytes.drop (t0+4*i)).take 4))=0:=by omega
 refine jP ?_;refine LI ?_ ?_ ?_
 · exact af.int (by rw[if_neg hz])
 · exact af.prop (by simp[hz])
 exact af.refl _
theorem MX{bs:List Nat}{i b:Nat}(az:bs[i]?=some b):cv Tryz.prog 23 [aD sb 0,ag .i64 (i:Int)] [lB sb X pb m num g t (ai 1 eG bs)] (γ:=Unit) (fun _=>True) (fun _=>[lB sb X pb m num g t (ai 1 eG bs)]) (fun _=>bE [aD b 0,ak True]):=by
 refine In 28 Tryz.func23 fun _ _ _=>?_;have p7:=(List.getElem?_eq_some_iff.1 az).1;refine cD ?_;refine .n ((cE (h:=ij)).same (fun _ _=>aB.refl _) (fun _ _=>af.refl _)) rfl fun _ _=>?_;refine kR ?_;refine Cd (fun c0=>?_) fun c0=>?_
 · exfalso;simp only[false_or] at c0;omega
 refine Z9 ?_;refine .p (cI i (h:=az)) rfl ?_;refine Z6 ?_;refine j4 ?_ ?_
 · exact af.refl _
 exact af.prop (by simp)
theorem MY:cv Tryz.prog 29 [aD sb 0] [lB sb X pb m num g t mv] (γ:=Unit) (fun _=>True) (fun _=>[lB sb X pb m num g t mv]) (fun _=>bT (bf m)):=by
 refine In 9 Tryz.func29 fun _ _ _=>?_;refine Z9 ?_;refine .n ((cE (h:=ij)).same (fun _ _=>aB.refl _) (fun _ _=>af.refl _)) rfl fun _ _=>?_;refine Z2 ?_;refine CT fun c0=>?_;refine dN ?_;refine bB ?_;exact .z
theorem GA{bs:List Nat}{ms:List A1}(az:bs.length=ms.length)(hp1:ms.length≤60000):cv Tryz.prog 54 [aD sb 0] [jl pb bs ms,lB sb X pb m num g t (ai 1 eG bs)] (γ:=Unit) (fun _=>True) (fun _=>[jl pb bs ms,lB sb X pb m num g t (ai 1 eG bs)]) (fun _=>ai 1 dc (MW ms)):=by
 refine In 24 Tryz.func54 fun _ _ _=>?_;have rC:(MW ms).length=ms.length:=by simp[MW]
 refine Z9 ?_;refine .n ((kL [_] [1,0] (h:=ij)).same (fun _ _=>aB.perm (Perm.idx [1,0] rfl rfl)) (fun _ _=>af.refl _)) rfl fun _ _=>?_;refine Z2 ?_;refine CT fun c0=>?_;refine Ek ?_;refine .own (tH (n:=1) (enc:=dc)) ?_;refine .aS (σ:=SB×Nat) (fun q=>[av q.1 1 dc ((MW ms).take q.2),jl pb bs ms,lB sb X pb m num g t (ai 1 eG bs)]) (fun q=>[(3,aa (bt q.1 ((MW ms).take q.2).length)),(13,ag .i64 (q.2:Int))]) (fun q=>q.2≤ms.length) (fun q=>ms.length-q.2) (none,0) (Nat.zero_le _) rfl ?_ ?_
 · exact(.get rfl (af.refl _) (.get rfl (af.refl _) (.refl _ _)))
 rintro⟨s1,k⟩ hk;simp only at hk ⊢;refine Z6 ?_;refine Cd (fun c1=>?_) fun c1=>?_
 ·
  obtain⟨M,hM⟩:=ah (xs:=ms) (k:=k) (by omega);obtain⟨b,hb⟩:=ah (xs:=bs) (k:=k) (by omega);have hpg:=Qa hM;refine Z6 ?_;refine .p (cI k (h:=hb)) rfl ?_;refine Z4 ?_;refine .own (aB.perm (Perm.idx [1,0,2] rfl rfl)) ?_;refine .own (zS hb hM) ?_;refine .own (aB.perm (Perm.idx [2,0,1,3] rfl rfl)) ?_;refine Z3 ?_;refine .n ((kL [_,_,_] [1,0,2,3] (h:=FX (mb:=b) (pb:=pb) (mm:=M))).same (fun _ _=>aB.perm (Perm.idx [1,0,2,3] rfl rfl)) (fun _ _=>af.refl _)) rfl fun _ _=>?_;refine .p (cB dc [(M.pages:Int)]) rfl ?_;refine .n (aF (i:=0) (xs:=((MW ms).take k)) (ys:=[(M.pages:Int)]) FU.out FU.out FC.out rfl FZ.out rfl FY.out (.t rfl) (.t rfl) rfl (by rw[List.length_take];simp only[List.length_cons,List.length_nil];omega) (by rw[List.length_take];simp only[List.length_cons,List.length_nil];omega)) rfl fun g21 _=>?_;refine Z4 ?_;refine .own (aB.perm (Perm.idx [1,2,0,3] rfl rfl)) ?_;refine .own (Dg hb hM) ?_;refine .own (aB.perm (Perm.idx [1,0,2] rfl rfl)) ?_;refine Z4 ?_;refine .round (g21,k+1) (by show k+1≤_;omega) (by show ms.length-(k+1)<ms.length-k;omega) (by simp only[←bq hpg];try rfl) ?_;exact(.get rfl (af.of_eq (by simp only[←bq hpg])) (.get rfl (af.int (by(show(k:Int)+1=((k+1:Nat):Int);omega))) ((.keep 14 rfl rfl))))
 have hke:k=ms.length:=by omega
 subst hke;rw[show(MW ms).take ms.length=MW ms from List.take_of_length_le (by simp[MW])];refine Z6 ?_;refine .eB (t:=3) (i:=0) rfl rfl ?_;refine Z6 ?_;refine bB ?_;exact .z
end Go.Proofs.YtpfobikpggmleaaGreatDoor
end
section
namespace Go.Hl
def rB(k:bD):List VP:=[aU k.1,aU k.2]
instance:gZ 2 rB:=⟨fun _=>rfl,fun x q h=>by simp only[rB,List.mem_cons,List.not_mem_nil,or_false] at h;rcases h with h|h<;>subst h<;>infer_instance⟩
end Go.Hl
end
