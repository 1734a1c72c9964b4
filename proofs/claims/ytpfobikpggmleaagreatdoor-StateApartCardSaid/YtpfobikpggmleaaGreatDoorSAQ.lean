/-
  What the statement's proof leans on, several texts in one (packed by a program).
-/
import Derived.Test.YtpfobikpggmleaaGreatDoorSAP
set_option linter.all false
set_option maxRecDepth 1000000
set_option maxHeartbeats 4000000
section
namespace Go.Hl
open Go.RowKit
structure Vu where
 gl:List Int
 tb:List Int
 ms:List RM
def pW (s:Vu):List VP:=[ai 1 eA s.gl,ai 1 dJ s.tb,ai 3 gf s.ms]
instance:hU 3 pW:=⟨fun _=>rfl,fun x q h=>by simp only [pW,List.mem_cons,List.not_mem_nil,or_false] at h;rcases h with h|h|h<;>subst h<;>infer_instance⟩
instance (s:Vu):bE (pW s):=bE.of s
instance (p:uu):bE (sx p):=bE.of p
def Ns (tb:List Int) (e:fR):Nat→List Int
 |0=>tb
 |k+1=>(Ns tb e k).set (e.At.toNat+k) ((e.ay[k]?).getD 0+1)
theorem yP (tb:List Int) (e:fR):∀k,(Ns tb e k).length=tb.length
 |0=>rfl
 |k+1=>by show (List.set _ _ _).length=_;rw [List.length_set];exact yP tb e k
def uv (m:aR):Nat→List Int
 |0=>List.replicate (eC m) 0
 |k+1=>Ns (uv m k) (CX m k) (CX m k).ay.length
theorem nV (m:aR):∀k,(uv m k).length=eC m
 |0=>by simp [uv]
 |k+1=>(yP _ _ _).trans (nV m k)
variable {m:aR} {k:Nat}
theorem Pj {e:fR} (h:m.bt[k]?=some e):uv m (k+1)=Ns (uv m k) e e.ay.length:=by show Ns _ (CX m k) _=_;rw [Ki h]
def F8 (l:eo):RM:=⟨l.Min.toNat,nM l,[]⟩
def Pk (m:aR) (d:jJ) (l:List RM):List RM:=if (xL m d).2=(0,0) then l.set d.Mem.toNat (qM ((l[d.Mem.toNat]?).getD ⟨0,0,[]⟩) d.At.toNat d.Bytes) else l
def mB (m:aR):Nat→List RM
 |0=>m.bp.map F8
 |k+1=>Pk m (vh m k) (mB m k)
theorem KB (m:aR) (d:jJ) (l:List RM):(Pk m d l).length=l.length:=by unfold Pk;split<;>simp
theorem pX (m:aR):∀k,(mB m k).length=m.bp.length
 |0=>by simp [mB]
 |k+1=>(KB _ _ _).trans (pX m k)
variable {d:jJ}
theorem Ay (h:m.aZ[k]?=some d):mB m (k+1)=Pk m d (mB m k):=by show Pk m (vh m k) _=_;rw [CZ h]
def uw (m:aR) (ke kd:Nat):Vu:=⟨m.an.map (·.Value),uv m ke,mB m kd⟩
structure Pm (r:RM) (n:Nat):Prop where
 tu:r.iw.length≤n
 len:∀p∈r.iw,p.2.length≤5000
 fit:∀p∈r.iw,p.1+p.2.length≤r.pages*65536
 pages:r.pages≤65536
theorem Ds {m:aR} (hm:nK m):∀k i r,(mB m k)[i]?=some r→Pm r k∧r.pages=(H6 m i).Min.toNat
 |0,i,r,h=>by
  unfold mB at h
  rw [List.getElem?_map] at h
  obtain ⟨l,hl,rfl⟩:=Option.map_eq_some_iff.1 h
  have h1:=(hm.ms l (List.mem_of_getElem? hl)).2.1
  exact ⟨⟨Nat.le_refl _,fun p hp=>(by cases hp),fun p hp=>(by cases hp),by show l.Min.toNat≤65536;omega⟩,by rw [yA hl];rfl⟩
 | k + 1, i,r,h=>by
  have ih:=Ds hm k
  cases hd:m.aZ[k]? with
  | none =>
   have e:vh m k=⟨0,0,[]⟩:=by unfold vh;rw [hd];rfl
   have e2:mB m (k+1)=Pk m ⟨0,0,[]⟩ (mB m k):=by show Pk m (vh m k) _=_;rw [e]
   rw [e2] at h
   unfold Pk at h
   split at h
   · by_cases hi:0=i
     · subst hi
       have hl:0<(mB m k).length:=by have:=(List.getElem?_eq_some_iff.1 h).1;simpa using this
       obtain ⟨r0,JY⟩:=ah (xs:=mB m k) (k:=0) hl
       rw [show (0:Int).toNat=0 from rfl,List.getElem?_set_self hl,JY] at h
       cases h
       obtain ⟨h1,h2⟩:=ih 0 r0 JY
       refine ⟨⟨by have:=h1.tu;simp [qM];omega,fun p hp=> ?_,fun p hp=> ?_,h1.pages⟩,h2⟩
       · rcases List.mem_append.1 hp with hp|hp
         · exact h1.len p hp
         · rw [List.mem_singleton.1 hp];exact Nat.zero_le _
       · rcases List.mem_append.1 hp with hp|hp
         · exact h1.fit p hp
         · rw [List.mem_singleton.1 hp];exact Nat.zero_le _
     · rw [show (0:Int).toNat=0 from rfl,List.getElem?_set_ne hi] at h
       obtain ⟨h1,h2⟩:=ih i r h
       exact ⟨⟨Nat.le_succ_of_le h1.tu,h1.len,h1.fit,h1.pages⟩,h2⟩
   · obtain ⟨h1,h2⟩:=ih i r h
     exact ⟨⟨Nat.le_succ_of_le h1.tu,h1.len,h1.fit,h1.pages⟩,h2⟩
  | some d =>
   rw [Ay hd] at h
   obtain ⟨SD,hd2,hd3,hd4⟩:=hm.da d (List.mem_of_getElem? hd)
   unfold Pk at h
   split at h
   · rename_i hw
     by_cases hi:d.Mem.toNat=i
     · subst hi
       have hl:d.Mem.toNat<(mB m k).length:=by have:=(List.getElem?_eq_some_iff.1 h).1;simpa using this
       obtain ⟨r0,JY⟩:=ah (xs:=mB m k) (k:=d.Mem.toNat) hl
       rw [List.getElem?_set_self hl,JY] at h
       cases h
       obtain ⟨h1,h2⟩:=ih _ r0 JY
       have hin:=(wG (.inr hw)).2.2.1
       refine ⟨⟨by have:=h1.tu;simp [qM];omega,fun p hp=> ?_,fun p hp=> ?_,h1.pages⟩,h2⟩
       · rcases List.mem_append.1 hp with hp|hp
         · exact h1.len p hp
         · rw [List.mem_singleton.1 hp];exact hd4
       · rcases List.mem_append.1 hp with hp|hp
         · exact h1.fit p hp
         · rw [List.mem_singleton.1 hp]
           show d.At.toNat+d.Bytes.length≤r0.pages*65536
           rw [h2];omega
     · rw [List.getElem?_set_ne hi] at h
       obtain ⟨h1,h2⟩:=ih i r h
       exact ⟨⟨Nat.le_succ_of_le h1.tu,h1.len,h1.fit,h1.pages⟩,h2⟩
   · obtain ⟨h1,h2⟩:=ih i r h
     exact ⟨⟨Nat.le_succ_of_le h1.tu,h1.len,h1.fit,h1.pages⟩,h2⟩
theorem od.uniq {r r':Nat×Nat×Int} (h:od m r) (h':od m r'):r=r':=by
 have e1:∀{k k':Nat} {e e':fR},m.bt[k]?=some e→ku m k→iO m e→m.bt[k']?=some e'→ku m k'→iO m e'→k=k':=fun {k k' e e'} h1 h2 h3 h4 h5 h6=>by
  rcases Nat.lt_trichotomy k k' with hl|hl|hl
  · exact absurd h3 (h5 k e hl h1)
  · exact hl
  · exact absurd h6 (h2 k' e' hl h4)
 have e2:∀{k k':Nat} {e e':jJ},m.aZ[k]?=some e→nN m k→(xL m e).2≠(0,0)→m.aZ[k']?=some e'→nN m k'→(xL m e').2≠(0,0)→k=k':=fun {k k' e e'} h1 h2 h3 h4 h5 h6=>by
  rcases Nat.lt_trichotomy k k' with hl|hl|hl
  · exact absurd (h5 k e hl h1) h3
  · exact hl
  · exact absurd (h2 k' e' hl h4) h6
 rcases h with ⟨k,e,a1,a2,a3,rfl⟩|⟨a0,k,d,a1,a2,a3,rfl⟩|⟨a0,a1,rfl⟩<;>rcases h' with ⟨k',e',b1,b2,b3,rfl⟩|⟨b0,k',d',b1,b2,b3,rfl⟩|⟨b0,b1,rfl⟩
 · rw [e1 a1 a2 a3 b1 b2 b3]
 · exact absurd a3 (b0 k e (List.getElem?_eq_some_iff.1 a1).1 a1)
 · exact absurd a3 (b0 k e (List.getElem?_eq_some_iff.1 a1).1 a1)
 · exact absurd b3 (a0 k' e' (List.getElem?_eq_some_iff.1 b1).1 b1)
 · have:=e2 a1 a2 a3 b1 b2 b3
   subst this
   rw [a1] at b1;cases b1;rfl
 · exact absurd (b1 k d (List.getElem?_eq_some_iff.1 a1).1 a1) a3
 · exact absurd b3 (a0 k' e' (List.getElem?_eq_some_iff.1 b1).1 b1)
 · exact absurd (a1 k' d' (List.getElem?_eq_some_iff.1 b1).1 b1) b3
 · rfl
theorem KC (h:d.Bytes.length≤5000):(xL m d).2≠(0,0)↔jD (H6 m d.Mem.toNat).Min.toNat (d.At.toNat+0) d.Bytes.length:=by
 unfold xL cg
 rw [if_neg (by omega),if_neg (by omega),Int.toNat_natCast]
 by_cases hb:jD (H6 m d.Mem.toNat).Min.toNat (d.At.toNat+0) d.Bytes.length
 · rw [if_pos hb];exact ⟨fun _=>hb,fun _ h2=>by cases h2⟩
 · rw [if_neg hb];exact ⟨fun h2=>absurd rfl h2,fun h2=>absurd h2 hb⟩
theorem RN (h:d.Bytes.length≤5000) (hb:(xL m d).2≠(0,0)):(xL m d).2.1=4:=by
 have h2:=(KC h).1 hb
 unfold xL cg
 rw [if_neg (by omega),if_neg (by omega),Int.toNat_natCast,if_pos h2]
theorem Pn (hd:m.aZ[k]?=some d) (hb:(xL m d).2≠(0,0)):mB m (k+1)=mB m k:=by rw [Ay hd];exact if_neg hb
structure A9 (a:dX) (g t:Nat) (s:Vu):Prop where
 gl:∀(i:Nat) (v:Int),s.gl[i]?=some v→(rq (a.get (g+8*i) 8):Int)=v
 tb:∀(i:Nat) (f:Int),s.tb[i]?=some f→(rq (a.get (t+4*i) 4):Int)=f
structure F9 (M:u9) (r:RM) (C:Cont) (n:Nat):Prop where
 ok:AW M
 pages:M.pages=r.pages
 eq:∀a,mX 64 C M.num a=pV r a
 iw:Pm r n
structure Ga (ms:List u9) (rs:List RM) (C:Cont) (n:Nat):Prop where
 len:ms.length=rs.length
 all:∀(i:Nat) (M:u9) (r:RM),ms[i]?=some M→rs[i]?=some r→F9 M r C n
theorem Gb (l:List UInt8):rq (l.take 4)<4294967296:=by
 have h1:=CB (l.take 4)
 have h2:(l.take 4).length≤4:=List.length_take_le _ _
 have h3:2^(8*(l.take 4).length)≤2^32:=Nat.pow_le_pow_right (by decide) (by omega)
 omega
def Mp (ms:List u9):List Int:=ms.map fun M=>(M.pages:Int)
variable {M:u9}
theorem Po {ms:List u9} {i:Nat} (h:ms[i]?=some M):(Mp ms)[i]?=some (M.pages:Int):=by unfold Mp;rw [List.getElem?_map,h];rfl
theorem F9.load {r:RM} {C:Cont} {n:Nat} (h:F9 M r C n) {p:uu} (hp:p∈r.iw):(cg M.pages p.1 0 (p.2.length:Int)).2=(0,0):=by
 have h1:=h.iw.fit p hp
 have h2:=h.iw.len p hp
 have h3:=h.pages
 unfold cg
 rw [if_neg (by omega),if_neg (by omega),if_neg (by unfold jD;rw [Int.toNat_natCast,h3];omega)]
theorem F9.read {r:RM} {C:Cont} {n:Nat} (h:F9 M r C n) (a k:Nat):rU 64 C M.num a k=sB r a k:=by
 unfold rU sB
 exact List.map_congr_left fun i _=>h.eq _
end Go.Hl
end
section
namespace Go.Proofs.YtpfobikpggmleaaGreatDoor
open Go.Hl Go.RowKit
variable {sb:Nat} {pb:Nat} {X:oT} {m:aR} {num:Int} {g:Int} {t:Int} {mv:VP}
theorem Dt:cw Tryz.prog 74 [aI sb 0] [nJ sb X pb m num g t mv] (γ:=Unit) (fun _=>True) (fun _=>[nJ sb X pb m num g t mv]) (fun _=>ag .i64 m.Table):=by
 refine In 10 Tryz.func74 fun _ _ _=> ?_
 refine AU ?_
 refine bL ?_
 exact .z
theorem Gc {i:Int} (av:0≤i) (hp1:i<m.Table):cw Tryz.prog 45 [aI sb 0,ag .i64 i,WB 74 sb] [nJ sb X pb m num g t mv] (γ:=Unit) (fun _=>True) (fun _=>[nJ sb X pb m num g t mv]) (fun _=>ag .i64 0):=by
 refine In 19 Tryz.func45 fun _ _ _=> ?_
 refine cK ?_
 refine .n ((cE (h:=nQ)).same (fun _ _=>aB.refl _) (fun _ _=>af.refl _)) rfl fun _ _=> ?_
 refine Z3 ?_
 refine Cd (fun c0=> ?_) fun c0=> ?_
 · exact c0.elim
 refine Z7 ?_
 refine .Vd rfl rfl rfl rfl (fun hg=>((EW (rest:=[]) (Dt (sb:=sb) (X:=X) (pb:=pb) (m:=m) (num:=num) (g:=g) (t:=t) (mv:=mv)) FB.out (.when (.t rfl) hg) (Perm.idx [0] rfl rfl)).same (fun _ _=>aB.refl _) (fun _ _=>af.refl _)).same (fun _ _=>aB.refl _) (fun _ _=>af.refl _)) rfl rfl ?_
 refine Z5 ?_
 refine Cd (fun c1=> ?_) fun c1=> ?_
 · exfalso;omega
 refine Z9 ?_
 refine bL ?_
 exact .z
theorem Gd {a:dX} {t0:Nat} {i:Nat} (av:i<eC m) (hp1:dm X a) (hp2:t0+4*(i+1)≤X.size):cw Tryz.prog 30 [aI sb 0,ag .i64 (i:Int)] (nJ sb X pb m num g (t0:Int) mv::ru X a) (γ:=Unit) (fun _=>True) (fun _=>nJ sb X pb m num g (t0:Int) mv::ru X a) (fun _=>bD [ag .i64 (if (rq ((a.bytes.drop (t0+4*i)).take 4))=0 then 0 else ((rq ((a.bytes.drop (t0+4*i)).take 4)):Int)-1),aq ((rq ((a.bytes.drop (t0+4*i)).take 4))≠0),ag .i64 0]):=by
 refine In 43 Tryz.func30 fun _ _ _=> ?_
 have hmo:=hp1.most
 have Uk:(i:Int)<m.Table:=by unfold eC at av;omega
 have hvl:=Gb (a.bytes.drop (t0+4*i))
 refine lg ?_
 refine .p (CW (.t rfl)) rfl ?_
 refine .n ((cE (h:=Gc (sb:=sb) (X:=X) (pb:=pb) (m:=m) (num:=num) (g:=g) (t:=(t0:Int)) (mv:=mv) (i:=(i:Int)) (by omega) Uk)).same (fun _ _=>aB.refl _) (fun _ _=>af.refl _)) rfl fun _ _=> ?_
 refine Z9 ?_
 refine Cd (fun c0=> ?_) fun c0=> ?_
 · exact absurd rfl c0
 refine Z3 ?_
 refine .bP [(0,0),(1,0),(2,0),(3,1),(4,0),(5,0),(6,0),(7,1),(8,0),(9,0),(10,0),(11,4),(12,0),(13,0),(14,0),(15,0)] 16 1 FM.out (by kernel_rfl) (k:= ?_)
 refine cK ?_
 refine .p rfl (fun _=>(ep (.t rfl) (.t rfl) dL).le (af.int (show _=((t0+4*i:Nat):Int) by omega))) ?_
 refine .a rfl ((kZ [_] [1,2,0] (h:=BV (at_:=t0+4*i) (w:=4) hp1 (by omega) (.inr rfl))).same (fun _ _=>aB.perm (Perm.idx [2,0,1] rfl rfl)) (fun _ _=>af.refl _)) (fun _ _=>aB.refl _) fun _ _=> ?_
 refine Z4 ?_
 refine .fin ?_
 refine iW ?_
 refine Cd (fun c1=> ?_) fun c1=> ?_
 ·
  have hz:(rq ((a.bytes.drop (t0+4*i)).take 4))=0:=by omega
  refine cK ?_
  refine Qe ?_ ?_ ?_
  · exact af.int (by rw [if_pos hz])
  · exact af.prop (by simp [hz])
  exact af.refl _
 have hz:¬(rq ((a.bytes.drop (t0+4*i)).take 4))=0:=by omega
 refine lg ?_
 refine Qe ?_ ?_ ?_
 · exact af.int (by rw [if_neg hz])
 · exact af.prop (by simp [hz])
 exact af.refl _
theorem Cc {bs:List Nat} {i b:Nat} (av:bs[i]?=some b):cw Tryz.prog 23 [aI sb 0,ag .i64 (i:Int)] [nJ sb X pb m num g t (ai 1 fz bs)] (γ:=Unit) (fun _=>True) (fun _=>[nJ sb X pb m num g t (ai 1 fz bs)]) (fun _=>bD [aI b 0,aq True]):=by
 refine In 28 Tryz.func23 fun _ _ _=> ?_
 have oQ:=(List.getElem?_eq_some_iff.1 av).1
 refine cK ?_
 refine .n ((cE (h:=nQ)).same (fun _ _=>aB.refl _) (fun _ _=>af.refl _)) rfl fun _ _=> ?_
 refine nZ ?_
 refine Cd (fun c0=> ?_) fun c0=> ?_
 · exfalso;simp only [false_or] at c0;omega
 refine Z9 ?_
 refine .p (cI i (h:=av)) rfl ?_
 refine Z6 ?_
 refine j9 ?_ ?_
 · exact af.refl _
 exact af.prop (by simp)
theorem Ge {bs:List Nat} {ms:List u9} (av:bs.length=ms.length) (hp1:ms.length≤60000):cw Tryz.prog 54 [aI sb 0] [fZ pb bs ms,nJ sb X pb m num g t (ai 1 fz bs)] (γ:=Unit) (fun _=>True) (fun _=>[fZ pb bs ms,nJ sb X pb m num g t (ai 1 fz bs)]) (fun _=>ai 1 dJ (Mp ms)):=by
 refine In 24 Tryz.func54 fun _ _ _=> ?_
 have rB:(Mp ms).length=ms.length:=by simp [Mp]
 refine Z9 ?_
 refine .n ((kZ [_] [1,0] (h:=nQ)).same (fun _ _=>aB.perm (Perm.idx [1,0] rfl rfl)) (fun _ _=>af.refl _)) rfl fun _ _=> ?_
 refine Z2 ?_
 refine Cd (fun c0=> ?_) fun c0=> ?_
 · exact c0.elim
 refine EC ?_
 refine .own (tv (n:=1) (enc:=dJ)) ?_
 refine .aT (σ:=SB×Nat) (fun q=>[au q.1 1 dJ ((Mp ms).take q.2),fZ pb bs ms,nJ sb X pb m num g t (ai 1 fz bs)]) (fun q=>[(3,aa (bq q.1 ((Mp ms).take q.2).length)),(13,ag .i64 (q.2:Int))]) (fun q=>q.2≤ms.length) (fun q=>ms.length-q.2) (none,0) (Nat.zero_le _) rfl ?_ ?_
 · exact (.get rfl (af.refl _) (.get rfl (af.refl _) (.refl _ _)))
 rintro ⟨s1,k⟩ hk
 simp only at hk ⊢
 refine Z6 ?_
 refine Cd (fun c1=> ?_) fun c1=> ?_
 ·
  obtain ⟨M,hM⟩:=ah (xs:=ms) (k:=k) (by omega)
  obtain ⟨b,hb⟩:=ah (xs:=bs) (k:=k) (by omega)
  have hpg:=Po hM
  refine Z6 ?_
  refine .p (cI k (h:=hb)) rfl ?_
  refine Z4 ?_
  refine .own (aB.perm (Perm.idx [1,0,2] rfl rfl)) ?_
  refine .own (vi hb hM) ?_
  refine .own (aB.perm (Perm.idx [2,0,1,3] rfl rfl)) ?_
  refine Z3 ?_
  refine .n ((kZ [_,_,_] [1,0,2,3] (h:=Ft (mb:=b) (pb:=pb) (mm:=M))).same (fun _ _=>aB.perm (Perm.idx [1,0,2,3] rfl rfl)) (fun _ _=>af.refl _)) rfl fun _ _=> ?_
  refine .p (cB dJ [(M.pages:Int)]) rfl ?_
  refine .n (aD (i:=0) (xs:=((Mp ms).take k)) (ys:=[(M.pages:Int)]) FU.out FU.out FC.out rfl FZ.out rfl FY.out (.t rfl) (.t rfl) rfl (by rw [List.length_take];simp only [List.length_cons,List.length_nil];omega) (by rw [List.length_take];simp only [List.length_cons,List.length_nil];omega)) rfl fun g21 _=> ?_
  refine Z4 ?_
  refine .own (aB.perm (Perm.idx [1,2,0,3] rfl rfl)) ?_
  refine .own (yC hb hM) ?_
  refine .own (aB.perm (Perm.idx [1,0,2] rfl rfl)) ?_
  refine Z4 ?_
  refine .round (g21,k+1) (by show k+1≤_;omega) (by show ms.length-(k+1)<ms.length-k;omega) (by simp only [←bn hpg];try rfl) ?_
  exact (.get rfl (af.of_eq (by simp only [←bn hpg])) (.get rfl (af.int (by (show (k:Int)+1=((k+1:Nat):Int);omega))) ((.keep 14 rfl rfl))))
 have hke:k=ms.length:=by omega
 subst hke
 rw [show (Mp ms).take ms.length=Mp ms from List.take_of_length_le (by simp [Mp])]
 refine Z6 ?_
 refine .er (t:=3) (i:=0) rfl rfl ?_
 refine Z6 ?_
 refine bL ?_
 exact .z
end Go.Proofs.YtpfobikpggmleaaGreatDoor
end
section
namespace Go.Hl
def rA (k:bA):List VP:=[aS k.1,aS k.2]
instance:hU 2 rA:=⟨fun _=>rfl,fun x q h=>by simp only [rA,List.mem_cons,List.not_mem_nil,or_false] at h;rcases h with h|h<;>subst h<;>infer_instance⟩
end Go.Hl
end
