/-
  What the statement's proof leans on, several texts in one (packed by a program).
-/
import Derived.Test.YtpfobikpggmleaaGreatDoorSAJ
set_option linter.all false
set_option maxRecDepth 1000000
set_option maxHeartbeats 4000000
section
namespace Go.Hl
section maps
variable {κ ν:Type} [DecidableEq κ]
theorem dc (p:κ×ν) (D:List (κ×ν)) (a:κ):ak (p::D) a=if p.1=a then some p.2 else ak D a:=by
 unfold ak
 by_cases h:p.1=a
 · rw [List.find?_cons_of_pos (by simpa using h),if_pos h];rfl
 · rw [List.find?_cons_of_neg (by simpa using h),if_neg h]
theorem lK (k:κ) (v:ν) (b:κ):∀D:List (κ×ν),ak D k=none→ak (D++[(k,v)]) b=if k=b then some v else ak D b
 |[],_=>by rw [List.nil_append,dc]
 |p::D,h=>by
  rw [dc] at h
  by_cases hp:p.1=k
  · rw [if_pos hp] at h;cases h
  · rw [if_neg hp] at h
    rw [List.cons_append,dc,lK k v b D h,dc]
    by_cases hb:p.1=b
    · rw [if_pos hb,if_pos hb,if_neg (fun e=>hp (hb.trans e.symm))]
    · rw [if_neg hb,if_neg hb]
theorem wz (p:κ×ν) (D:List (κ×ν)) (a:κ):fG (p::D) a=if p.1=a then D else p::fG D a:=by
 unfold fG
 rw [List.map_cons,List.findIdx?_cons]
 by_cases h:p.1=a
 · rw [if_pos (by simpa using h),if_pos h];rfl
 · rw [if_neg (by simpa using h),if_neg h]
   cases (D.map (·.1)).findIdx? (fun k=>decide (k=a))<;>rfl
theorem BC:∀{D:List (κ×ν)} {a:κ},a∉D.map (·.1)→ak D a=none
 |[],_,_=>rfl
 |p::D,a,h=>by
  rw [List.map_cons,List.mem_cons,not_or] at h
  rw [dc,if_neg (fun e=>h.1 e.symm)];exact BC h.2
theorem uT:∀{D:List (κ×ν)} {a:κ},a∈D.map (·.1)→∃v,ak D a=some v
 |[],_,h=>by simp at h
 |p::D,a,h=>by
  rw [dc]
  by_cases hp:p.1=a
  · exact ⟨p.2,if_pos hp⟩
  · rw [if_neg hp]
    rw [List.map_cons,List.mem_cons] at h
    rcases h with h|h
    · exact absurd h.symm hp
    · exact uT h
theorem tS:∀{D:List (κ×ν)} {a:κ} {v:ν},ak D a=some v→(a,v)∈D
 |[],_,_,h=>by cases h
 |p::D,a,v,h=>by
  rw [dc] at h
  by_cases hp:p.1=a
  · rw [if_pos hp] at h;cases h;subst hp;exact List.mem_cons_self
  · rw [if_neg hp] at h;exact List.mem_cons_of_mem _ (tS h)
theorem uU:∀{D:List (κ×ν)} {a:κ} {v:ν},(D.map (·.1)).Nodup→(a,v)∈D→ak D a=some v
 |[],_,_,_,h=>by cases h
 |p::D,a,v,hn,h=>by
  rw [List.map_cons,List.nodup_cons] at hn
  rw [dc]
  rcases List.mem_cons.1 h with h|h
  · subst h;exact if_pos rfl
  · rw [if_neg (fun e:p.1=a=>hn.1 (List.mem_map.2 ⟨_,h,e.symm⟩)),uU hn.2 h]
theorem jB:∀{D:List (κ×ν)} (a b:κ),(D.map (·.1)).Nodup→ak (fG D a) b=if a=b then none else ak D b
 |[],a,b,_=>by
  have:fG ([]:List (κ×ν)) a=[]:=rfl
  rw [this];by_cases h:a=b<;>simp [h,ak]
 |p::D,a,b,hn=>by
  rw [List.map_cons,List.nodup_cons] at hn
  rw [wz,dc]
  by_cases hp:p.1=a
  · rw [if_pos hp]
    by_cases hb:a=b
    · subst hb;rw [if_pos rfl];exact BC (hp▸hn.1)
    · rw [if_neg hb,if_neg (fun e=>hb (hp.symm.trans e))]
  · rw [if_neg hp,dc,jB a b hn.2]
    by_cases hb:p.1=b
    · rw [if_pos hb,if_pos hb,if_neg (fun e=>hp (hb.trans e.symm))]
    · rw [if_neg hb,if_neg hb]
theorem rR:∀(D:List (κ×ν)) (a:κ),List.Sublist (fG D a) D
 |[],a=>List.Sublist.refl _
 |p::D,a=>by
  rw [wz]
  by_cases hp:p.1=a
  · rw [if_pos hp];exact List.sublist_cons_self _ _
  · rw [if_neg hp];exact (rR D a).cons_cons p
theorem pH {D:List (κ×ν)} (a:κ) (h:(D.map (·.1)).Nodup):((fG D a).map (·.1)).Nodup:=h.sublist ((rR D a).map _)
theorem uW:∀{D:List (κ×ν)} {a:κ} {v:ν},ak D a=some v→(fG D a).length+1=D.length
 |[],_,_,h=>by cases h
 |p::D,a,v,h=>by
  rw [dc] at h
  rw [wz]
  by_cases hp:p.1=a
  · rw [if_pos hp];rfl
  · rw [if_neg hp] at h ⊢
    rw [List.length_cons,List.length_cons,uW h]
theorem zz {D:List (κ×ν)} {a:κ} {v:ν} (h:(D.map (·.1)).Nodup) (hl:ak D a=none):((D++[(a,v)]).map (·.1)).Nodup:=by
 rw [List.map_append,List.nodup_append]
 refine ⟨h,by simp,fun x hx y hy e=> ?_⟩
 simp at hy
 subst e;subst hy
 obtain ⟨w,hw⟩:=uT hx
 rw [hw] at hl;cases hl
end maps
theorem pI {α:Type} {id:Int} (l:α) (b:Int):∀{E:List (Int×α)} {l0:α},ak E id=some l0→ak (gD E id l) b=if id=b then some l else ak E b
 |[],_,h=>by cases h
 |e::E,l0,h=>by
  rw [dc] at h
  unfold gD
  by_cases he:e.1=id
  · rw [if_pos he,dc,dc]
    by_cases hb:id=b
    · rw [if_pos (he.trans hb),if_pos hb]
    · rw [if_neg (fun x=>hb (he.symm.trans x)),if_neg hb,if_neg (fun x=>hb (he.symm.trans x))]
  · rw [if_neg he] at h ⊢
    rw [dc,pI l b h,dc]
    by_cases hb:e.1=b
    · rw [if_pos hb,if_pos hb,if_neg (fun x=>he (hb.trans x.symm))]
    · rw [if_neg hb,if_neg hb]
theorem pJ {α:Type} (id:Int) (l:α):∀E:List (Int×α),(gD E id l).map (·.1)=E.map (·.1)
 |[]=>rfl
 |e::E=>by
  unfold gD
  by_cases he:e.1=id
  · rw [if_pos he];rfl
  · rw [if_neg he,List.map_cons,List.map_cons,pJ id l E]
theorem zA {α:Type} {id:Int} {l:α} {x:Int×α}:∀{E:List (Int×α)},x∈gD E id l→x∈E∨(x.2=l∧∃y∈E,y.1=x.1)
 |[],h=>by cases h
 | e ::E,h=>by
  unfold gD at h
  by_cases he:e.1=id
  · rw [if_pos he] at h
    rcases List.mem_cons.1 h with h|h
    · subst h;exact .inr ⟨rfl,e,List.mem_cons_self,rfl⟩
    · exact .inl (List.mem_cons_of_mem _ h)
  · rw [if_neg he] at h
    rcases List.mem_cons.1 h with h|h
    · subst h;exact .inl List.mem_cons_self
    · rcases zA h with h|⟨h,y,hy,h2⟩
      · exact .inl (List.mem_cons_of_mem _ h)
      · exact .inr ⟨h,y,List.mem_cons_of_mem _ hy,h2⟩
variable {s:jT}
theorem Ob (h:s.fail<0):∃k,tP s=({s with ops:=k},true):=by
 refine ⟨IntKind.i64.wrap (s.ops+1), ?_⟩
 unfold tP
 dsimp only
 rw [if_neg (by omega)]
variable {l:List UInt8} {id:Int}
theorem zC {r:Prop} [Decidable r] (h:s.fail<0) (hl:ak s.m id=some l) (hr:r):∃k,eT s id r=({s with ops:=k},0):=by
 obtain ⟨k,hk⟩:=Ob h
 exact ⟨k,by rw [(CI (id:=id) (r:=r) (by rw [hl];simp) hr).1 (by rw [hk]),hk]⟩
variable {ys:List UInt8}
theorem zD (h:s.fail<0) (hl:ak s.m id=some l) (hy:ys.length=s.size):∃k,kR s id ys=({s with ops:=k,m:=gD s.m id ys},0):=by
 obtain ⟨k,hk⟩:=zC (r:=ys.length=s.size) h hl hy
 exact ⟨k,by rw [BA (by rw [hk]),hk]⟩
theorem BD (h:s.fail<0) (hl:ak s.m id=some l):∃k,tn s id=({s with ops:=k,m:=fG s.m id},0):=by
 obtain ⟨k,hk⟩:=zC (r:=True) h hl trivial
 exact ⟨k,by rw [EH (by rw [hk]),hk,EE]⟩
theorem Lr (h:s.fail<0) (hl:ak s.m id=some l):∃k,Bz s id=({s with ops:=k},l,0):=by
 obtain ⟨k,hk⟩:=zC (r:=True) h hl trivial
 exact ⟨k,by rw [EG (by rw [hk]) hl,hk]⟩
theorem zF {g:jT×Int×Nat} (h:s.fail<0) (hm:(s.m.length:Int)<s.cap) (hg:zq s g):
    ∃(id k pk:Int),ak s.m id=none∧g=({s with ops:=k,m:=s.m++[(id,List.replicate s.size 0)],zn:=pk},id,0):=by
  obtain ⟨k,hk⟩:=Ob h
  rcases hg with ⟨h1,_⟩|⟨_,h2,_⟩|⟨_,_,id,_,hno,rfl⟩
  · rw [hk] at h1;cases h1
  · omega
  · rw [hk];exact ⟨id,k,_,hno,rfl⟩
theorem qt.write (h:qt s) {k:Int} (hy:ys.length=s.size):qt {s with ops:=k,m:=gD s.m id ys}:=
 ⟨h.size,h.cap,fun e he=>by
  rcases zA he with h1|⟨h1,_⟩
  · exact h.len e h1
  · rw [h1];exact hy,fun e he=>by
  rcases zA he with h1|⟨_,y,hy,h1⟩
  · exact h.keys e h1
  · rw [←h1];exact h.keys y hy,by
  have:=congrArg List.length (pJ id ys s.m)
  simp at this
  show ((gD s.m id ys).length:Int)≤s.cap
  rw [this];exact h.many,by
  show ((gD s.m id ys).map (·.1)).Nodup
  rw [pJ];exact h.nodup⟩
theorem qt.free (h:qt s) {k:Int}:qt {s with ops:=k,m:=fG s.m id}:=
 ⟨h.size,h.cap,fun e he=>h.len e ((rR s.m id).subset he),fun e he=>h.keys e ((rR s.m id).subset he),by
  have:=(rR s.m id).length_le
  have h2:=h.many
  show ((fG s.m id).length:Int)≤s.cap
  omega,pH id h.nodup⟩
variable {n:Nat} {a:dX} {x:Nat} {o:Nat}
theorem tT (h:x+n≤a.bytes.length) (ho:o+ys.length≤n):(a.put (x+o) ys).get x n=(a.get x n).take o++ys++(a.get x n).drop (o+ys.length):=by
 unfold dX.put dX.get
 apply List.ext_getElem?
 intro j
 simp only [List.getElem?_take,List.getElem?_drop,List.getElem?_append,List.length_append,List.length_take,List.length_drop]
 by_cases h1:j<n
 · rw [if_pos h1]
   by_cases h2:j<o
   · rw [if_pos (by omega),if_pos (by omega),if_pos (by omega),if_pos (by omega),if_pos (by omega),if_pos h2,if_pos (by omega)]
   · by_cases h3:j<o+ys.length
     · rw [if_pos (by omega),if_neg (by omega),if_pos (by omega),if_neg (by omega)]
       congr 1;omega
     · rw [if_neg (by omega),if_neg (by omega),if_pos (by omega)]
       congr 1;omega
 · rw [if_neg h1]
   by_cases h3:j<o+ys.length
   · omega
   · rw [if_neg (by omega),if_neg (by omega)]
theorem oB {y:Nat} (hx:x+ys.length≤a.bytes.length) (h:y+n≤x∨x+ys.length≤y):(a.put x ys).get y n=a.get y n:=by
 unfold dX.put dX.get
 apply List.ext_getElem?
 intro j
 simp only [List.getElem?_take,List.getElem?_drop,List.getElem?_append,List.length_append,List.length_take,List.length_drop]
 by_cases h1:j<n
 · rw [if_pos h1,if_pos h1]
   rcases h with h|h
   · rw [if_pos (by omega),if_pos (by omega),if_pos (by omega)]
   · rw [if_neg (by omega)]
     congr 1;omega
 · rw [if_neg h1,if_neg h1]
theorem CL (h:x+n≤a.bytes.length):(a.get x n).length=n:=by
 unfold dX.get;simp;omega
variable {m:Nat}
theorem QS (h:o+m≤n):a.get (x+o) m=((a.get x n).drop o).take m:=by
 unfold dX.get
 apply List.ext_getElem?
 intro j
 simp only [List.getElem?_take,List.getElem?_drop]
 by_cases h1:j<m
 · rw [if_pos h1,if_pos h1,if_pos (by omega)];congr 1;omega
 · rw [if_neg h1,if_neg h1]
theorem dm.put {Y:oT} {a:dX} (h:dm Y a) {x:Nat} {ys:List UInt8} (hx:x+ys.length≤Y.size):dm Y (a.put x ys):=
 ⟨by have:=h.len;show (a.bytes.take x++ys++a.bytes.drop (x+ys.length)).length=Y.size;simp;omega,h.hi,h.most,h.live⟩
def Nk (l:List UInt8) (o:Nat) (ys:List UInt8):List UInt8:=l.take o++ys++l.drop (o+ys.length)
theorem CM (h:o+ys.length≤l.length):(Nk l o ys).length=l.length:=by unfold Nk;simp;omega
theorem pK (h:dH l):l=List.replicate l.length 0:=List.eq_replicate_iff.2 ⟨rfl,h⟩
theorem kU:dH (List.replicate n 0):=fun x hx=>(List.mem_replicate.1 hx).2
theorem Oc (hl:dH l) (hy:dH ys) (h:o+ys.length≤l.length):Nk l o ys=l:=by
 have h2:dH (Nk l o ys):=fun x hx=>by
  unfold Nk at hx
  rcases List.mem_append.1 hx with hx|hx
  · rcases List.mem_append.1 hx with hx|hx
    · exact hl x (List.mem_of_mem_take hx)
    · exact hy x hx
  · exact hl x (List.mem_of_mem_drop hx)
 rw [pK h2,CM h];exact (pK hl).symm
variable {i:Nat} {α:Type} {j:Nat} {y:α}
theorem jC {l:List α} {x:α} (h:(l.set i x)[j]?=some y):(i=j∧y=x)∨(i≠j∧l[j]?=some y):=by
 rw [List.getElem?_set] at h
 by_cases e:i=j
 · rw [if_pos e] at h
   by_cases h2:i<l.length
   · rw [if_pos h2] at h;cases h;exact .inl ⟨e,rfl⟩
   · rw [if_neg h2] at h;cases h
 · rw [if_neg e] at h;exact .inr ⟨e,h⟩
theorem jQ {l:List α} {x:α} (h:l[i]?=some y):(l.set i x)[i]?=some x:=by
 simp [(List.getElem?_eq_some_iff.1 h).1]
theorem kn {l:List α} {x:α} (h:l[j]?=some y) (e:i≠j):(l.set i x)[j]?=some y:=by
 rw [List.getElem?_set,if_neg e];exact h
abbrev Cont:=bA→List UInt8
structure Inv (X:tq) (p:jP) (a:dX) (s:jT) (C:Cont) (D:List bA):Prop where
 ok:N9 X p a s
 Wr:p.fault=0∧p.closed=false
 nf:s.fail<0
 uX:∀k,(C k).length=s.size
 QT:(p.nY.map (·.1)).Nodup
 TR:∀k i,ak p.nY k=some i→∃(j:Nat) (f:Fr),i=(j:Int)∧p.l[j]?=some f∧f.used=true∧f.k=k
 J5:∀(j:Nat) (f:Fr),p.l[j]?=some f→f.used=true→ak p.nY f.k=some (j:Int)
 apart:∀(i j:Nat) (f g:Fr),p.l[i]?=some f→p.l[j]?=some g→i≠j→f.at_+s.size≤g.at_∨g.at_+s.size≤f.at_
 Nl:(p.bm.map (·.1)).Nodup
 inj:∀k k' id,ak p.bm k=some id→ak p.bm k'=some id→k=k'
 num:p.bm.length=s.m.length
 has:∀k id,ak p.bm k=some id→∃l,ak s.m id=some l∧¬dH l
 cnt:∀k id,ak p.bm k=some id→k∈D
 tu:(D.length:Int)≤s.cap
 Od:∀k,¬dH (C k)→k∈D
 fr:∀(j:Nat) (f:Fr),p.l[j]?=some f→f.used=true→a.get f.at_ s.size=C f.k
 cl:∀k,(∀(j:Nat) (f:Fr),p.l[j]?=some f→f.used=true→f.k=k→f.dy=false)→(ak p.bm k=none∧dH (C k))∨∃id,ak p.bm k=some id∧ak s.m id=some (C k)∧¬dH (C k)
section
variable {X:tq} {p:jP} {a:dX} {s:jT} {C:Cont} {D:List bA} {i:Nat} {fr:Fr}
theorem Inv.place (h:Inv X p a s C D) (hi:p.l[i]?=some fr):fr.at_+s.size≤a.bytes.length:=by
 have:=(h.ok.room fr (List.mem_of_getElem? hi)).2
 rw [h.ok.ar.len];exact this
theorem Inv.less (h:Inv X p a s C D) {D':List bA} (hs:∀k∈D,k∈D') (hf:(D'.length:Int)≤s.cap):Inv X p a s C D':=
 {h with cnt:=fun k id hk=>hs _ (h.cnt k id hk),tu:=hf,Od:=fun k hk=>hs _ (h.Od k hk)}
theorem Inv.QU (h:Inv X p a s C D) (hi:p.l[i]?=some fr) (hu:fr.used=true) {s':jT} {bm':List (bA×Int)} (hst:qt s') (hz:s'.size=s.size) (hc:s'.cap=s.cap) (hf:s'.fail=s.fail)
    (hk:(bm'.map (·.1)).Nodup) (hn:bm'.length=s'.m.length) (hb:∀k,k≠fr.k→ak bm' k=ak p.bm k) (hm:∀k id,k≠fr.k→ak p.bm k=some id→ak s'.m id=ak s.m id)
    (hd:(ak bm' fr.k=none∧dH (C fr.k))∨∃id,ak bm' fr.k=some id∧ak s'.m id=some (C fr.k)∧¬dH (C fr.k)∧∀k,k≠fr.k→ak p.bm k≠some id):
    Inv X {p with l:=p.l.set i {fr with dy:=false},bm:=bm'} a s' C D:=by
  have Oe:∀k id,ak bm' k=some id→(k≠fr.k∧ak p.bm k=some id)∨(k=fr.k∧ak s'.m id=some (C fr.k)∧¬dH (C fr.k)∧∀k,k≠fr.k→ak p.bm k≠some id):=fun k id hk=>by
    by_cases e:k=fr.k
    · subst e
      rcases hd with ⟨h1,_⟩|⟨id',h1,h2,h3,h4⟩
      · rw [h1] at hk;cases hk
      · rw [h1] at hk;cases hk;exact .inr ⟨rfl,h2,h3,h4⟩
    · exact .inl ⟨e,(hb k e)▸hk⟩
  refine ⟨⟨by simpa using h.ok.n,h.ok.pos,h.ok.most,h.ok.hand,fun f hf'=> ?_,h.ok.ar,hst⟩,h.Wr,hf▸h.nf,fun k=>hz▸h.uX k,h.QT,fun k j hk=> ?_,fun j f hj uG=> ?_,fun j j' f g hj hj' hne=> ?_,hk, ?_,hn, ?_, ?_,hc▸h.tu,h.Od,fun j f hj uG=> ?_,fun k hk=> ?_⟩
  · obtain ⟨j,hj⟩:=List.mem_iff_getElem?.1 hf'
    rcases jC hj with ⟨rfl,rfl⟩|⟨_,hj⟩
    · exact hz▸h.ok.room fr (List.mem_of_getElem? hi)
    · exact hz▸h.ok.room f (List.mem_of_getElem? hj)
  · obtain ⟨j',f,e,hj,uG,AQ⟩:=h.TR k j hk
    by_cases e2:i=j'
    · subst e2
      rw [hi] at hj;cases hj
      exact ⟨i,_,e,jQ hi,uG,AQ⟩
    · exact ⟨j',f,e,kn hj e2,uG,AQ⟩
  · rcases jC hj with ⟨rfl,rfl⟩|⟨_,hj⟩
    · exact h.J5 i fr hi hu
    · exact h.J5 j f hj uG
  · rw [hz]
    have pre:∀{j:Nat} {f:Fr},(p.l.set i {fr with dy:=false})[j]?=some f→∃f0,p.l[j]?=some f0∧f0.at_=f.at_:=fun {j f} hj=>by
      rcases jC hj with ⟨rfl,rfl⟩|⟨_,hj⟩
      · exact ⟨fr,hi,rfl⟩
      · exact ⟨f,hj,rfl⟩
    obtain ⟨f0,h1,e1⟩:=pre hj
    obtain ⟨g0,h2,e2⟩:=pre hj'
    rw [←e1,←e2];exact h.apart j j' f0 g0 h1 h2 hne
  · intro k k' id h1 h2
    rcases Oe k id h1 with ⟨e1,g1⟩|⟨e1,_,_,g1⟩<;>rcases Oe k' id h2 with ⟨e2,g2⟩|⟨e2,_,_,g2⟩
    · exact h.inj k k' id g1 g2
    · exact absurd g1 (g2 k e1)
    · exact absurd g2 (g1 k' e2)
    · rw [e1,e2]
  · intro k id h1
    rcases Oe k id h1 with ⟨e1,g1⟩|⟨e1,g2,g3,g1⟩
    · rw [hm k id e1 g1];exact h.has k id g1
    · exact ⟨_,g2,g3⟩
  · intro k id h1
    rcases Oe k id h1 with ⟨e1,g1⟩|⟨e1,g2,g3,g1⟩
    · exact h.cnt k id g1
    · rw [e1];exact h.Od _ g3
  · rw [hz]
    rcases jC hj with ⟨rfl,rfl⟩|⟨_,hj⟩
    · exact h.fr i fr hi hu
    · exact h.fr j f hj uG
  · by_cases e:k=fr.k
    · subst e
      rcases hd with hd|⟨id,h1,h2,h3,_⟩
      · exact .inl hd
      · exact .inr ⟨id,h1,h2,h3⟩
    · have h1:=h.cl k fun j f hj uG AQ=>by
        by_cases e2:i=j
        · subst e2;rw [hi] at hj;cases hj;exact absurd AQ.symm e
        · exact hk j f (kn hj e2) uG AQ
      rcases h1 with ⟨g1,g2⟩|⟨id,g1,g2,g3⟩
      · exact .inl ⟨(hb k e).trans g1,g2⟩
      · exact .inr ⟨id,(hb k e).trans g1,(hm k id e g1).trans g2,g3⟩
theorem Inv.EI (h:Inv X p a s C D) {k:bA} (hno:ak p.bm k=none) (hk:k∈D):(s.m.length:Int)<s.cap:=by
 have h1:(k::p.bm.map (·.1)).Nodup:=List.nodup_cons.2 ⟨fun hm=>(uT hm).elim fun v hv=>by (rw [hv] at hno;cases hno),h.Nl⟩
 have h2:=CE (m:=D) h1 fun x hx=>by
  rcases List.mem_cons.1 hx with hx|hx
  · rw [hx];exact hk
  · obtain ⟨v,hv⟩:=uT hx
    exact h.cnt x v hv
 have h3:=h.tu
 have h4:=h.num
 simp at h2
 omega
structure Of (p p1:jP) (i:Nat) (fr:Fr):Prop where
 ex:∃fr':Fr,p1.l=p.l.set i fr'∧fr'.at_=fr.at_∧fr'.k=fr.k∧fr'.used=fr.used∧(fr'.used=true→fr'.dy=false)
 nY:p1.nY=p.nY
theorem Og {α:Type} {l:List α} {i:Nat} {x:α} (h:l[i]?=some x):l.set i x=l:=by
 apply List.ext_getElem?
 intro j
 rw [List.getElem?_set]
 by_cases e:i=j
 · subst e;rw [if_pos rfl,if_pos (List.getElem?_eq_some_iff.1 h).1,h]
 · rw [if_neg e]
theorem Inv.save (h:Inv X p a s C D) (hi:p.l[i]?=some fr) {g:jP×jT×Nat} (hs:zw p a s i fr g):g.2.2=0∧Inv X g.1 a g.2.1 C D∧Of p g.1 i fr∧g.2.1.size=s.size∧g.2.1.cap=s.cap:=by
 have hsame:Of p {p with l:=p.l.set i {fr with dy:=false}} i fr:=⟨⟨_,rfl,rfl,rfl,rfl,fun _=>rfl⟩,rfl⟩
 have hst:=h.ok.st
 cases hs with
 |clean hc=>exact ⟨rfl,h,⟨⟨fr,(Og hi).symm,rfl,rfl,rfl,fun hu=>by cases hd:fr.dy with|false=>rfl|true=>exact absurd ⟨hu,hd⟩ hc⟩,rfl⟩,rfl,rfl⟩
 | zero G0 hz=>
  have hfr:=h.fr i fr hi G0.1
  rw [hfr] at hz
  unfold j6
  show (match ak p.bm fr.k with|none=>_|some id=>_:jP×jT×Nat).2.2=0∧_
  cases hb:ak p.bm fr.k with
  |none=>
   simp only [jP.CK,hb]
   exact ⟨trivial,h.QU hi G0.1 hst rfl rfl rfl h.Nl h.num (fun _ _=>rfl) (fun _ _ _ _=>rfl) (.inl ⟨hb,hz⟩),hsame,trivial,trivial⟩
  |some id=>
   obtain ⟨l,hl,_⟩:=h.has _ _ hb
   obtain ⟨k,hk⟩:=BD h.nf hl
   simp only [jP.CK,hb,hk]
   refine ⟨trivial,h.QU hi G0.1 hst.free rfl rfl rfl (pH _ h.Nl) ?_ (fun k' hk'=> ?_) (fun k' id' hk' EJ=> ?_) (.inl ⟨?_,hz⟩),⟨⟨_,rfl,rfl,rfl,rfl,fun _=>rfl⟩,rfl⟩,trivial,trivial⟩
   · have h1:=uW hb;have h2:=uW hl;have h3:=h.num
     show (fG p.bm fr.k).length=(fG s.m id).length
     omega
   · rw [jB _ _ h.Nl,if_neg (fun e=>hk' e.symm)]
   · show ak (fG s.m id) id'=_
     rw [jB _ _ hst.nodup,if_neg (fun e:id=id'=>hk' (h.inj k' fr.k id (e▸EJ) hb))]
   · rw [jB _ _ h.Nl,if_pos rfl]
 |has G0 hz id hid=>
  have hfr:=h.fr i fr hi G0.1
  obtain ⟨l,hl,_⟩:=h.has _ _ hid
  have qX:(a.get fr.at_ s.size).length=s.size:=CL (h.place hi)
  obtain ⟨k,hk⟩:=zD h.nf hl qX
  rw [hk]
  refine ⟨rfl,h.QU hi G0.1 (hst.write qX) rfl rfl rfl h.Nl ?_ (fun _ _=>rfl) (fun k' id' hk' EJ=> ?_) (.inr ⟨id,hid, ?_,hfr▸hz,fun k' hk' hb=>hk' (h.inj k' fr.k id hb hid)⟩),hsame,rfl,rfl⟩
  · have h2:=congrArg List.length (pJ id (a.get fr.at_ s.size) s.m)
    simp at h2
    show p.bm.length=(gD s.m id (a.get fr.at_ s.size)).length
    rw [h2];exact h.num
  · show ak (gD s.m id _) id'=_
    rw [pI _ _ hl,if_neg (fun e:id=id'=>hk' (h.inj k' fr.k id (e▸EJ) hid))]
  · show ak (gD s.m id _) id=_
    rw [pI _ _ hl,if_pos rfl,hfr]
 |full G0 hz hid ga Vh he=>
  have hfr:=h.fr i fr hi G0.1
  obtain ⟨id,k,pk,_,rfl⟩:=zF h.nf (h.EI hid (h.Od _ (hfr▸hz))) Vh
  exact absurd rfl he
 | new G0 hz hid ga Vh he=>
  have hfr:=h.fr i fr hi G0.1
  have qX:(a.get fr.at_ s.size).length=s.size:=CL (h.place hi)
  have hso:=(hst.alloc Vh).1
  obtain ⟨id,k,pk,hno,rfl⟩:=zF h.nf (h.EI hid (h.Od _ (hfr▸hz))) Vh
  have ko:ak (s.m++[(id,List.replicate s.size (0:UInt8))]) id=some (List.replicate s.size 0):=by rw [lK _ _ _ _ hno,if_pos rfl]
  obtain ⟨k2,hk2⟩:=zD (s:={s with ops:=k,m:=s.m++[(id,List.replicate s.size 0)],zn:=pk}) h.nf ko qX
  have K3:∀k' id',ak p.bm k'=some id'→id'≠id:=fun k' id' h1 e=>by
   obtain ⟨l,hl,_⟩:=h.has k' id' h1
   rw [e,hno] at hl;cases hl
  rw [hk2,kQ _ hid]
  refine ⟨rfl,h.QU hi G0.1 (hso.write qX) rfl rfl rfl (zz h.Nl hid) ?_ (fun k' hk'=> ?_) (fun k' id' hk' EJ=> ?_) (.inr ⟨id, ?_, ?_,hfr▸hz,fun k' hk' hb=>K3 _ _ hb rfl⟩),⟨⟨_,rfl,rfl,rfl,rfl,fun _=>rfl⟩,rfl⟩,rfl,rfl⟩
  · have h2:=congrArg List.length (pJ id (a.get fr.at_ s.size) (s.m++[(id,List.replicate s.size (0:UInt8))]))
    have h3:=h.num
    simp at h2
    show (p.bm++[(fr.k,id)]).length=(gD (s.m++[(id,List.replicate s.size (0:UInt8))]) id (a.get fr.at_ s.size)).length
    rw [h2];simp;exact h3
  · rw [lK _ _ _ _ hid,if_neg (fun e=>hk' e.symm)]
  · show ak (gD (s.m++[(id,List.replicate s.size (0:UInt8))]) id (a.get fr.at_ s.size)) id'=_
    rw [pI _ _ ko,if_neg (fun e=>K3 k' id' EJ e.symm),lK _ _ _ _ hno,if_neg (fun e=>K3 k' id' EJ e.symm)]
  · rw [lK _ _ _ _ hid,if_pos rfl]
  · show ak (gD (s.m++[(id,List.replicate s.size (0:UInt8))]) id (a.get fr.at_ s.size)) id=_
    rw [pI _ _ ko,if_pos rfl,hfr]
structure HG (f g:Fr):Prop where
 at_:g.at_=f.at_
 k:g.k=f.k
 used:g.used=f.used
 dy:g.dy=f.dy
theorem Inv.SR (h:Inv X p a s C D) {l':List Fr} {hd:Nat} (hn:l'.length=p.l.length) (h1:∀(j:Nat) (f:Fr),l'[j]?=some f→∃g,p.l[j]?=some g∧HG f g) (h2:∀(j:Nat) (g:Fr),p.l[j]?=some g→∃f,l'[j]?=some f∧HG f g) (hh:hd<X.n):Inv X {p with l:=l',hand:=hd} a s C D:=by
 refine {h with ok:=⟨by rw [←h.ok.n];exact hn,h.ok.pos,h.ok.most,hh,fun f hf=> ?_,h.ok.ar,h.ok.st⟩,TR:=fun k i hk=> ?_,J5:=fun j f hj hu=> ?_,apart:=fun j j' f f' hj hj' hne=> ?_,fr:=fun j f hj hu=> ?_,cl:=fun k hk=>h.cl k fun j g hj hu Vi=> ?_}
 · obtain ⟨j,hj⟩:=List.mem_iff_getElem?.1 hf
   obtain ⟨g,hg,e⟩:=h1 j f hj
   rw [←e.at_];exact h.ok.room g (List.mem_of_getElem? hg)
 · obtain ⟨j,g,e,hj,hu,Vi⟩:=h.TR k i hk
   obtain ⟨f,hf,e2⟩:=h2 j g hj
   exact ⟨j,f,e,hf,e2.used▸hu,e2.k▸Vi⟩
 · obtain ⟨g,hg,e⟩:=h1 j f hj
   rw [←e.k];exact h.J5 j g hg (e.used.trans hu)
 · obtain ⟨g,hg,e⟩:=h1 j f hj
   obtain ⟨g',hg',e'⟩:=h1 j' f' hj'
   rw [←e.at_,←e'.at_];exact h.apart j j' g g' hg hg' hne
 · obtain ⟨g,hg,e⟩:=h1 j f hj
   rw [←e.k,←e.at_];exact h.fr j g hg (e.used.trans hu)
 · obtain ⟨f,hf,e⟩:=h2 j g hj
   rw [e.dy];exact hk j f hf (e.used▸hu) (e.k▸Vi)
theorem rS {f g:Fr} (h:tR g=tR f):HG f g:=by
 unfold tR at h
 cases f;cases g
 simp only [Fr.mk.injEq] at h
 exact ⟨h.1,h.2.1,h.2.2.1,h.2.2.2.2⟩
theorem Inv.vic (h:Inv X p a s C D) {p1:jP} (hv:wv X p p1):Inv X p1 a s C D:=by
 rw [hv.rest]
 have hl:=hv.l
 refine h.SR (by rw [hv.len,h.ok.n]) (fun j f hj=> ?_) (fun j g hj=> ?_) hv.hand
 · have:=congrArg (fun l=>l[j]?) hl
   simp only [List.getElem?_map,hj,Option.map_some] at this
   cases hg:p.l[j]? with
   |none=>rw [hg] at this;cases this
   |some g=>rw [hg] at this;simp only [Option.map_some,Option.some.injEq] at this;exact ⟨g,rfl,rS this.symm⟩
 · have:=congrArg (fun l=>l[j]?) hl
   simp only [List.getElem?_map,hj,Option.map_some] at this
   cases hg:p1.l[j]? with
   |none=>rw [hg] at this;cases this
   |some f=>rw [hg] at this;simp only [Option.map_some,Option.some.injEq] at this;exact ⟨f,rfl,rS this.symm⟩
theorem Inv.seen (h:Inv X p a s C D) (hi:p.l[i]?=some fr):Inv X {p with l:=p.l.set i {fr with seen:=true}} a s C D:=
 h.SR (hd:=p.hand) (by simp) (fun j f hj=>by
  rcases jC hj with ⟨rfl,rfl⟩|⟨_,hj⟩
  · exact ⟨fr,hi,rfl,rfl,rfl,rfl⟩
  · exact ⟨f,hj,rfl,rfl,rfl,rfl⟩) (fun j g hj=>by
  by_cases e:i=j
  · subst e;rw [hi] at hj;cases hj;exact ⟨_,jQ hi,rfl,rfl,rfl,rfl⟩
  · exact ⟨g,kn hj e,rfl,rfl,rfl,rfl⟩) h.ok.hand
theorem Inv.QV (h:Inv X p a s C D) (hi:p.l[i]?=some fr) {f':Fr} (vW:f'.at_=fr.at_) {a':dX} {C':Cont} {inm':List (bA×Int)} (har:dm X.Y a') (hlen:∀k,(C' k).length=s.size) (hK:(inm'.map (·.1)).Nodup)
    (hin:∀k,ak inm' k=if f'.used=true∧f'.k=k then some (i:Int) else if fr.used=true∧fr.k=k then none else ak p.nY k)
    (hnew:f'.used=true→(fr.used=true∧fr.k=f'.k)∨ak p.nY f'.k=none)
    (K1:∀(j:Nat) (f:Fr),p.l[j]?=some f→i≠j→a'.get f.at_ s.size=a.get f.at_ s.size) (hfr:f'.used=true→a'.get fr.at_ s.size=C' f'.k)
    (hC:∀k,k≠fr.k→k≠f'.k→C' k=C k) (hnz:∀k,¬dH (C' k)→k∈D) (hCo:∀(j:Nat) (f:Fr),p.l[j]?=some f→i≠j→f.used=true→C' f.k=C f.k)
    (qf:∀k,(k=fr.k∨k=f'.k)→(∀(j:Nat) (f:Fr),(p.l.set i f')[j]?=some f→f.used=true→f.k=k→f.dy=false)→(ak p.bm k=none∧dH (C' k))∨∃id,ak p.bm k=some id∧ak s.m id=some (C' k)∧¬dH (C' k)):
    Inv X {p with l:=p.l.set i f',nY:=inm'} a' s C' D:=by
  refine ⟨⟨by simpa using h.ok.n,h.ok.pos,h.ok.most,h.ok.hand,fun f hf=> ?_,har,h.ok.st⟩,h.Wr,h.nf,hlen,hK,fun k j hk=> ?_,fun j f hj hu=> ?_,fun j j' f g hj hj' hne=> ?_,h.Nl,h.inj,h.num,h.has,h.cnt,h.tu,hnz,fun j f hj hu=> ?_,fun k hk=> ?_⟩
  · obtain ⟨j,hj⟩:=List.mem_iff_getElem?.1 hf
    rcases jC hj with ⟨rfl,rfl⟩|⟨_,hj⟩
    · rw [vW];exact h.ok.room fr (List.mem_of_getElem? hi)
    · exact h.ok.room f (List.mem_of_getElem? hj)
  · have hk':ak inm' k=some j:=hk
    rw [hin k] at hk'
    by_cases e1:f'.used=true∧f'.k=k
    · rw [if_pos e1] at hk';cases hk'
      exact ⟨i,f',rfl,jQ hi,e1.1,e1.2⟩
    · rw [if_neg e1] at hk'
      by_cases e2:fr.used=true∧fr.k=k
      · rw [if_pos e2] at hk';cases hk'
      · rw [if_neg e2] at hk'
        obtain ⟨j',f,e,hj,hu,AQ⟩:=h.TR k j hk'
        by_cases e3:i=j'
        · subst e3;rw [hi] at hj;cases hj;exact absurd ⟨hu,AQ⟩ e2
        · exact ⟨j',f,e,kn hj e3,hu,AQ⟩
  · show ak inm' f.k=some (j:Int)
    rcases jC hj with ⟨rfl,rfl⟩|⟨hne,hj⟩
    · rw [hin,if_pos ⟨hu,rfl⟩]
    · have h3:=h.J5 j f hj hu
      have e2:¬(fr.used=true∧fr.k=f.k):=fun e=>by
        have h4:=h.J5 i fr hi e.1
        rw [e.2,h3] at h4
        have h5:(j:Int)=(i:Int):=Option.some.inj h4
        omega
      rw [hin,if_neg,if_neg e2,h3]
      intro e
      rcases hnew e.1 with h4|h4
      · exact e2 ⟨h4.1,h4.2.trans e.2⟩
      · rw [e.2,h3] at h4;cases h4
  · have pre:∀{j:Nat} {f:Fr},(p.l.set i f')[j]?=some f→∃f0,p.l[j]?=some f0∧f0.at_=f.at_:=fun {j f} hj=>by
      rcases jC hj with ⟨rfl,rfl⟩|⟨_,hj⟩
      · exact ⟨fr,hi,vW.symm⟩
      · exact ⟨f,hj,rfl⟩
    obtain ⟨f0,h1,e1⟩:=pre hj
    obtain ⟨g0,h2,e2⟩:=pre hj'
    rw [←e1,←e2];exact h.apart j j' f0 g0 h1 h2 hne
  · rcases jC hj with ⟨rfl,rfl⟩|⟨hne,hj⟩
    · rw [vW];exact hfr hu
    · rw [K1 j f hj hne,h.fr j f hj hu,hCo j f hj hne hu]
  · by_cases e:k=fr.k∨k=f'.k
    · exact qf k e hk
    · rw [not_or] at e
      rw [hC k e.1 e.2]
      exact h.cl k fun j f hj hu AQ=>by
        by_cases e2:i=j
        · subst e2;rw [hi] at hj;cases hj;exact absurd AQ.symm e.1
        · exact hk j f (kn hj e2) hu AQ
theorem Inv.Ws (h:Inv X p a s C D) (hi:p.l[i]?=some fr) (hu:fr.used=true) (hd:fr.dy=false):Inv X {p with l:=p.l.set i {fr with used:=false},nY:=fG p.nY fr.k} a s C D:=
 h.QV (f':={fr with used:=false}) hi rfl h.ok.ar h.uX (pH _ h.QT) (fun k=>by rw [jB _ _ h.QT];simp [hu]) (fun e=>by cases e) (fun _ _ _ _=>rfl) (fun e=>by cases e) (fun _ _ _=>rfl) h.Od (fun _ _ _ _ _=>rfl)
  (fun k hk qf=>h.cl k fun j f hj uG AQ=>by
   by_cases e:i=j
   · subst e;rw [hi] at hj;cases hj;exact hd
   · exact qf j f (kn hj e) uG AQ)
theorem Inv.load (h:Inv X p a s C D) (hi:p.l[i]?=some fr) (hu:fr.used=false) {k:bA} (hk:ak p.nY k=none):
    Inv X {p with l:=p.l.set i ⟨fr.at_,k,true,false,false⟩,nY:=fF p.nY k (i:Int)} (a.put fr.at_ (C k)) s C D:=by
  have rB:=h.place hi
  have qX:=h.uX k
  have hrm:=h.ok.room fr (List.mem_of_getElem? hi)
  refine h.QV (f':=⟨fr.at_,k,true,false,false⟩) hi rfl (h.ok.ar.put (by omega)) h.uX ?_ (fun k'=> ?_) (fun _=> .inr hk) (fun j f hj hne=> ?_) (fun _=> ?_) (fun _ _ _=>rfl) h.Od (fun _ _ _ _ _=>rfl) (fun k' _ qf=> ?_)
  · rw [kQ _ hk];exact zz h.QT hk
  · rw [kQ _ hk,lK _ _ _ _ hk];simp [hu]
  · refine oB (by omega) ?_
    rcases h.apart i j fr f hi hj hne with h1|h1
    · right;omega
    · left;omega
  · have:=tT (a:=a) (x:=fr.at_) (o:=0) (n:=s.size) (ys:=C k) rB (by omega)
    rw [Nat.add_zero] at this
    rw [this,List.take_zero,List.nil_append,Nat.zero_add,List.drop_of_length_le (by rw [CL rB];omega),List.append_nil]
  · exact h.cl k' fun j f hj uG AQ=>by
      by_cases e:i=j
      · subst e;rw [hi] at hj;cases hj;rw [hu] at uG;cases uG
      · exact qf j f (kn hj e) uG AQ
def iq (C:Cont) (k:bA) (l:List UInt8):Cont:=fun k'=>if k'=k then l else C k'
theorem Inv.write (h:Inv X p a s C D) (hi:p.l[i]?=some fr) (hu:fr.used=true) {o:Nat} {ys:List UInt8} (ho:o+ys.length≤s.size) (hD:fr.k∈D):
    Inv X {p with l:=p.l.set i {fr with dy:=true}} (a.put (fr.at_+o) ys) s (iq C fr.k (Nk (C fr.k) o ys)) D:=by
  have rB:=h.place hi
  have qX:=h.uX fr.k
  have hrm:=h.ok.room fr (List.mem_of_getElem? hi)
  have hfr:=h.fr i fr hi hu
  refine h.QV hi (f':={fr with dy:=true}) (inm':=p.nY) rfl (h.ok.ar.put (by omega)) (fun k'=> ?_) h.QT (fun k'=> ?_) (fun _=> .inl ⟨hu,rfl⟩) (fun j f hj hne=> ?_) (fun _=> ?_) (fun k' h1 _=> ?_) (fun k' hk'=> ?_) (fun j f hj hne uG=> ?_) (fun k' hk' qf=> ?_)
  · unfold iq;split
    · rw [CM (by omega)];exact qX
    · exact h.uX k'
  · by_cases e:fr.k=k'
    · subst e;rw [if_pos ⟨hu,rfl⟩];exact h.J5 i fr hi hu
    · rw [if_neg (fun x=>e x.2),if_neg (fun x=>e x.2)]
  · refine oB (by omega) ?_
    rcases h.apart i j fr f hi hj hne with h1|h1
    · right;omega
    · left;omega
  · rw [tT rB ho,hfr]
    show _=iq C fr.k _ fr.k
    unfold iq;rw [if_pos rfl];rfl
  · unfold iq;rw [if_neg h1]
  · unfold iq at hk'
    by_cases e:k'=fr.k
    · rw [e];exact hD
    · rw [if_neg e] at hk';exact h.Od k' hk'
  · unfold iq
    rw [if_neg]
    intro e
    have h1:=h.J5 j f hj uG
    have h2:=h.J5 i fr hi hu
    rw [e,h2] at h1
    have h3:(i:Int)=(j:Int):=Option.some.inj h1
    omega
  · have e:k'=fr.k:=hk'.elim id id
    have:=qf i _ (jQ hi) hu e.symm
    cases this
def wA (p:jP) (s:jT) (k:bA):List UInt8:=match ak p.bm k with
 |some id=>(ak s.m id).getD []
 |none=>List.replicate s.size 0
theorem Inv.blk (h:Inv X p a s C D) (k:bA):(wA p s k).length=s.size∧((ak p.bm k=none∧dH (wA p s k))∨∃id,ak p.bm k=some id∧ak s.m id=some (wA p s k)∧¬dH (wA p s k)):=by
 unfold wA
 cases hb:ak p.bm k with
 |none=>exact ⟨by simp, .inl ⟨rfl,kU⟩⟩
 |some id=>
  obtain ⟨l,hl,hz⟩:=h.has k id hb
  refine ⟨?_, .inr ⟨id,rfl, ?_⟩⟩
  · obtain ⟨e,he,e2⟩:=wu hl
    simp only [hl,Option.getD_some]
    rw [←e2];exact h.ok.st.len e he
  · simp only [hl,Option.getD_some]
    exact ⟨trivial,hz⟩
theorem Inv.Wt (h:Inv X p a s C D) (hi:p.l[i]?=some fr) (hu:fr.used=true) {k0:bA}:Inv X {p with l:=p.l.set i ⟨fr.at_,k0,false,false,false⟩,nY:=fG p.nY fr.k} a s (iq C fr.k (wA p s fr.k)) D:=by
 have hb:=h.blk fr.k
 have other:∀(j:Nat) (f:Fr),p.l[j]?=some f→i≠j→f.used=true→f.k≠fr.k:=fun j f hj hne uG e=>by
  have h1:=h.J5 j f hj uG
  have h2:=h.J5 i fr hi hu
  rw [e,h2] at h1
  have h3:(i:Int)=(j:Int):=Option.some.inj h1
  omega
 have base:∀k,(ak p.bm k=none∧dH (C k))∨(∃id,ak p.bm k=some id∧ak s.m id=some (C k)∧¬dH (C k))→k≠fr.k→(ak p.bm k=none∧dH (iq C fr.k (wA p s fr.k) k))∨∃id,ak p.bm k=some id∧ak s.m id=some (iq C fr.k (wA p s fr.k) k)∧¬dH (iq C fr.k (wA p s fr.k) k):=fun k hk e=>by
  unfold iq;rw [if_neg e];exact hk
 refine h.QV (f':=⟨fr.at_,k0,false,false,false⟩) hi rfl h.ok.ar (fun k=> ?_) (pH _ h.QT) (fun k=>by rw [jB _ _ h.QT];simp [hu]) (fun e=>by cases e) (fun _ _ _ _=>rfl) (fun e=>by cases e) (fun k e _=> ?_) (fun k hk=> ?_) (fun j f hj hne uG=> ?_) (fun k _ qf=> ?_)
 · unfold iq;split
   · exact hb.1
   · exact h.uX k
 · unfold iq;rw [if_neg e]
 · unfold iq at hk
   by_cases e:k=fr.k
   · rw [if_pos e] at hk
     rcases hb.2 with h1|⟨id,h1,_⟩
     · exact absurd h1.2 hk
     · rw [e];exact h.cnt _ _ h1
   · rw [if_neg e] at hk;exact h.Od k hk
 · unfold iq;rw [if_neg (other j f hj hne uG)]
 · by_cases e:k=fr.k
   · subst e
     have:iq C fr.k (wA p s fr.k) fr.k=wA p s fr.k:=if_pos rfl
     rw [this];exact hb.2
   · refine base k (h.cl k fun j f hj uG AQ=> ?_) e
     by_cases e2:i=j
     · subst e2;rw [hi] at hj;cases hj;exact absurd AQ.symm e
     · exact qf j f (kn hj e2) uG AQ
theorem Inv.TS (h:Inv X p a s C D) {k:bA} (hk:ak p.nY k=none):(ak p.bm k=none∧dH (C k))∨∃id,ak p.bm k=some id∧ak s.m id=some (C k)∧¬dH (C k):=
 h.cl k fun j f hj hu AQ=>by
  have:=h.J5 j f hj hu
  rw [AQ,hk] at this;cases this
theorem Inv.unknown (h:Inv X p a s C D) {k:bA} (hk:¬HF p k):dH (C k):=by
 unfold HF at hk
 rw [not_or] at hk
 have h1:ak p.nY k=none:=by cases hq:ak p.nY k with|none=>rfl|some v=>(rw [hq] at hk;exact absurd rfl hk.1)
 have h2:ak p.bm k=none:=by cases hq:ak p.bm k with|none=>rfl|some v=>(rw [hq] at hk;exact absurd rfl hk.2)
 rcases h.TS h1 with h3|⟨id,h3,_⟩
 · exact h3.2
 · rw [h2] at h3;cases h3
theorem Inv.free (h:Inv X p a s C D) {k:bA} (hk:ak p.nY k=none) {g:jP×jT×Nat} (hg:g=j6 p s k):g.2.2=0∧Inv X g.1 a g.2.1 (iq C k (List.replicate s.size 0)) D∧g.2.1.size=s.size∧g.1.l=p.l∧g.1.nY=p.nY∧(∀k',ak g.1.bm k'=if k'=k then none else ak p.bm k')∧g.2.1.cap=s.cap:=by
  have hst:=h.ok.st
  have key:∀(bm':List (bA×Int)) (s':jT),qt s'→s'.size=s.size→s'.cap=s.cap→s'.fail=s.fail→(bm'.map (·.1)).Nodup→bm'.length=s'.m.length→(∀k',ak bm' k'=if k'=k then none else ak p.bm k')→
      (∀k' id,k'≠k→ak p.bm k'=some id→ak s'.m id=ak s.m id)→Inv X {p with bm:=bm'} a s' (iq C k (List.replicate s.size 0)) D:=by
    intro bm' s' h1 h2 h3 h4 h5 h6 h7 h8
    have Oe:∀k' id,ak bm' k'=some id→k'≠k∧ak p.bm k'=some id:=fun k' id hk'=>by
      rw [h7] at hk'
      by_cases e:k'=k
      · rw [if_pos e] at hk';cases hk'
      · rw [if_neg e] at hk';exact ⟨e,hk'⟩
    refine ⟨⟨h.ok.n,h.ok.pos,h.ok.most,h.ok.hand,fun f hf=>h2▸h.ok.room f hf,h.ok.ar,h1⟩,h.Wr,h4▸h.nf,fun k'=> ?_,h.QT,h.TR,h.J5,fun i j f g hf hg hne=>h2▸h.apart i j f g hf hg hne,h5,fun k1 k2 id e1 e2=>h.inj k1 k2 id (Oe _ _ e1).2 (Oe _ _ e2).2,h6,fun k' id hk'=> ?_,fun k' id hk'=>h.cnt k' id (Oe _ _ hk').2,h3▸h.tu,fun k' hk'=> ?_,fun j f hj hu=> ?_,fun k' hk'=> ?_⟩
    · unfold iq;split
      · rw [h2];simp
      · rw [h2];exact h.uX k'
    · rw [h8 k' id (Oe _ _ hk').1 (Oe _ _ hk').2];exact h.has k' id (Oe _ _ hk').2
    · unfold iq at hk'
      by_cases e:k'=k
      · rw [if_pos e] at hk';exact absurd kU hk'
      · rw [if_neg e] at hk';exact h.Od k' hk'
    · have e:f.k≠k:=fun e=>by
        have:=h.J5 j f hj hu
        rw [e,hk] at this;cases this
      unfold iq;rw [if_neg e,h2];exact h.fr j f hj hu
    · by_cases e:k'=k
      · left
        refine ⟨by show ak bm' k'=none;rw [h7,if_pos e], ?_⟩
        unfold iq;rw [if_pos e];exact kU
      · have e3:iq C k (List.replicate s.size 0) k'=C k':=if_neg e
        have e4:ak bm' k'=ak p.bm k':=by rw [h7,if_neg e]
        rw [e3]
        show (ak bm' k'=none∧_)∨∃id,ak bm' k'=some id∧_
        rw [e4]
        rcases h.cl k' hk' with h9|⟨id,h9,h10,h11⟩
        · exact .inl h9
        · exact .inr ⟨id,h9,(h8 k' id e h9).trans h10,h11⟩
  subst hg
  cases hb:ak p.bm k with
  | none=>
    have e0:j6 p s k=(p,s,0):=by unfold j6;rw [hb]
    rw [e0]
    refine ⟨rfl,key p.bm s hst rfl rfl rfl h.Nl h.num (fun k'=> ?_) (fun _ _ _ _=>rfl),rfl,rfl,rfl,fun k'=> ?_,rfl⟩
    · split
      · rename_i e;rw [e,hb]
      · rfl
    · split
      · rename_i e;simp only [e,hb]
      · rfl
  | some id=>
    obtain ⟨l,hl,_⟩:=h.has _ _ hb
    obtain ⟨n,hn⟩:=BD h.nf hl
    have e0:j6 p s k=({p with bm:=fG p.bm k},{s with ops:=n,m:=fG s.m id},0):=by unfold j6;rw [hb];simp only [hn]
    rw [e0]
    have hlk:∀k',ak (fG p.bm k) k'=if k'=k then none else ak p.bm k':=fun k'=>by
      rw [jB _ _ h.Nl]
      by_cases e:k=k'
      · rw [if_pos e,if_pos e.symm]
      · rw [if_neg e,if_neg (fun x=>e x.symm)]
    refine ⟨rfl,key (fG p.bm k) _ hst.free rfl rfl rfl (pH _ h.Nl) ?_ hlk (fun k' id' hk' EJ=> ?_),rfl,rfl,rfl,hlk,rfl⟩
    · have h1:=uW hb;have h2:=uW hl;have h3:=h.num
      show (fG p.bm k).length=(fG s.m id).length
      omega
    · show ak (fG s.m id) id'=_
      rw [jB _ _ hst.nodup,if_neg (fun e:id=id'=>hk' (h.inj k' k id (e▸EJ) hb))]
def Oh (p:jP):Prop:=∀(j:Nat) (f:Fr),p.l[j]?=some f→f.used=true→f.dy=false
theorem SS {κ ν:Type} [DecidableEq κ] {m:List (κ×ν)} {k:κ} (h:¬(ak m k).isSome=true):ak m k=none:=by cases hq:ak m k with|none=>rfl|some v=>(rw [hq] at h;exact absurd rfl h)
theorem Inv.ops (h:Inv X p a s C D) (n:Int):Inv X p a {s with ops:=n} C D:=
 {h with ok:=⟨h.ok.n,h.ok.pos,h.ok.most,h.ok.hand,h.ok.room,h.ok.ar,h.ok.st.op rfl rfl rfl⟩}
end
def qw (X:tq) (p:jP) (a:dX) (s:jT):List HP:=fU X p::nD X p::HE X p::qv X p::dB X.sb s::ez X.Y a
def Oi (k:bA):Prop:=0≤k.1∧0≤k.2∧k.2≤9223372036854775807
structure CN (X:tq) (z q:Nat) (T:jP→Prop) (p:jP) (a:dX) (s:jT) (C:Cont) (m:Nat):Prop where
 ex:∃D:List bA,D.length≤m∧(∀k∈D,Oi k)∧Inv X p a s C D
 sz:s.size=z
 cp:s.cap=(q:Int)
 cln:T p
structure dN (X:tq) (a a':dX):Prop where
 ok:dm X.Y a→dm X.Y a'
 get:dm X.Y a→∀y n,y+n≤X.lo∨X.hi≤y→a'.get y n=a.get y n
theorem dN.refl (X:tq) (a:dX):dN X a a:=⟨id,fun _ _ _ _=>rfl⟩
theorem dN.trans {X:tq} {a b c:dX} (h:dN X a b) (k:dN X b c):dN X a c:=⟨fun ho=>k.ok (h.ok ho),fun ho y n hy=>(k.get (h.ok ho) y n hy).trans (h.get ho y n hy)⟩
theorem dN.put {X:tq} {a:dX} {x:Nat} {ys:List UInt8} (h1:X.lo≤x) (h2:x+ys.length≤X.hi) (h3:x+ys.length≤X.Y.size):dN X a (a.put x ys):=
 ⟨fun ho=>ho.put h3,fun ho y n hy=>oB (by rw [ho.len];exact h3) (by omega)⟩
def nE (X:tq) (R:dX→HP):Prop:=∀a a',dm X.Y a→dN X a a'→aB [R a] [R a']
def wB:dX→HP:=fun _=>j4 []
theorem zG (X:tq):nE X wB:=fun _ _ _ _=>aB.refl _
def ek (X:tq) (z q:Nat) (T:jP→Prop) (C:Cont) (m:Nat) (R:dX→HP):HP:=Vb fun x:jP×dX×jT=>j4 (l6 (CN X z q T x.1 x.2.1 x.2.2 C m)::(qw X x.1 x.2.1 x.2.2++[R x.2.1]))
variable {z:Nat} {C:Cont} {X:tq} {q:Nat} {r:List HP} {T:jP→Prop} {R:dX→HP}
theorem aM.J6 {P:Program} {Q:Exit→Act→World→Prop} {c:Ctx} {x:Code} {env:Env} (k:∀p a s,CN X z q T p a s C m→aM P Q c x ((qw X p a s++[R a])++r) env):aM P Q c x (ek X z q T C m R::r) env:=
 aM.opens fun ⟨p,a,s⟩=>aM.own aB.unpack (aM.l6 fun h=>k p a s h)
theorem aB.frame {a b:List HP} (h:aB a b):aB (a++r) (b++r):=fun F S w x=>by
 obtain ⟨F1,F2,h1,h2,h3,h4⟩:=cS.append.1 x
 exact cS.append.2 ⟨F1,F2,h1,h2,h _ _ _ h3,h4⟩
theorem aB.behind {a b:List HP} (h:aB a b):aB (r++a) (r++b):=fun F S w x=>by
 obtain ⟨F1,F2,h1,h2,h3,h4⟩:=cS.append.1 x
 exact cS.append.2 ⟨F1,F2,h1,h2,h3,h _ _ _ h4⟩
variable {p:jP}
theorem iz {a0:dX} (hR:nE X R) (h0:dm X.Y a0) (hs:dN X a0 a) (h:CN X z q T p a s C m):aB ((qw X p a s++[R a0])++r) (ek X z q T C m R::r):=
 (aB.frame (aB.behind (hR a0 a h0 hs))).trans ((aB.pure h).trans ((aB.pack (l:=l6 _::(qw X p a s++[R a]))).trans (aB.ex (f:=fun x:jP×dX×jT=>j4 (l6 (CN X z q T x.1 x.2.1 x.2.2 C m)::(qw X x.1 x.2.1 x.2.2++[R x.2.1]))) (p,a,s))))
theorem uY {m':Nat} (hm:m≤m'):aB (ek X z q T C m R::r) (ek X z q T C m' R::r):=fun F S w ⟨F1,F2,h1,h2,⟨x,h3⟩,h4⟩=>
 ⟨F1,F2,h1,h2,⟨x,by
  obtain ⟨G1,G2,g1,g2,g3,g4⟩:=h3
  exact ⟨G1,G2,g1,g2,⟨⟨g3.ex.choose,Nat.le_trans g3.ex.choose_spec.1 hm,g3.ex.choose_spec.2⟩,g3.sz,g3.cp,g3.cln⟩,g4⟩⟩,h4⟩
theorem QW (h:CN X z q T p a s C m):aB (qw X p a s++r) (ek X z q T C m wB::r):=
 aB.trans (aB.frame (show aB (qw X p a s) (qw X p a s++[wB a]) from fun F S w x=>cS.append.2 ⟨F,fun _=>False,fun k hk=>⟨hk,id⟩,fun _ h=>h.elim,x,eu _ _ _ trivial⟩)) (iz (zG X) h.ex.choose_spec.2.2.ok.ar (dN.refl _ _) h)
def fq (z:Nat) (k:bA) (at_ n:Int):Nat:=if k.1<0∨k.2<0 then 1 else if at_<0∨n<0∨(z:Int)<at_∨(z:Int)-at_<n then 2 else 0
theorem BE {k:bA} {at_ n:Int} (h:fq z k at_ n=0):0≤k.1∧0≤k.2∧0≤at_∧0≤n∧at_+n≤(z:Int):=by
 unfold fq at h
 split at h
 · omega
 · split at h<;>omega
theorem CN.wrong (h:CN X z q T p a s C m) (k:bA) (at_ n:Int):tQ p s.size k at_ n=fq z k at_ n:=by
 obtain ⟨D,_,_,hD⟩:=h.ex
 have hs:¬zu p:=fun e=>e.elim (fun e=>by rw [hD.Wr.2] at e;cases e) (fun e=>e hD.Wr.1)
 unfold tQ fq
 rw [if_neg hs,h.sz]
def uZ (z:Nat) (C:Cont) (k:bA) (at_ n:Int):List UInt8:=if fq z k at_ n=0 then ((C k).drop at_.toNat).take n.toNat else []
def rT (z:Nat) (C:Cont) (k:bA) (at_:Int) (ys:List UInt8):Cont:=if fq z k at_ (ys.length:Int)=0 then iq C k (Nk (C k) at_.toNat ys) else C
theorem Ls {k:bA} (h:l=C k):iq C k l=C:=by
 funext k'
 unfold iq
 split
 · rename_i e;rw [h,e]
 · rfl
structure SU (X:tq) (p:jP) (a:dX) (s:jT) (C:Cont) (D:List bA) (k:bA) (g:jP×dX×jT×Nat):Prop where
 inv:Inv X g.1 g.2.1 g.2.2.1 C D
 size:g.2.2.1.size=s.size
 cap:g.2.2.1.cap=s.cap
 out:dN X a g.2.1
 fr:∃f:Fr,g.1.l[g.2.2.2]?=some f∧f.used=true∧f.k=k∧(ak p.nY k=none→f.dy=false)
theorem getElem?_lt' {xs:List α} {k:Nat} (h:k<xs.length):∃x,xs[k]?=some x:=⟨xs[k],List.getElem?_eq_getElem h⟩
def Lt (b c:Nat) (j:Nat):List Fr:=(List.range j).map fun i=>⟨b+i*c,(0,0),false,false,false⟩
theorem sO (b c j:Nat):(Lt b c j).length=j:=by simp [Lt]
theorem Oj (b c j:Nat):Lt b c (j+1)=Lt b c j++[⟨b+j*c,(0,0),false,false,false⟩]:=by simp [Lt,List.range_succ]
theorem sP {b c:Nat} {f:Fr} (h:(Lt b c j)[i]?=some f):i<j∧f=⟨b+i*c,(0,0),false,false,false⟩:=by
 unfold Lt at h
 rw [List.getElem?_map] at h
 by_cases hi:i<j
 · rw [List.getElem?_range hi] at h;cases h;exact ⟨hi,rfl⟩
 · rw [List.getElem?_eq_none (by simp;omega)] at h;cases h
theorem J7:∀(k c n:Nat),n≤c*2^k→n≤rQ k c n
 |0,c,n,h=>by simpa [rQ] using h
 |k+1,c,n,h=>by
  unfold rQ
  split
  · exact J7 k (c*2) n (by rw [Nat.mul_assoc,←Nat.pow_succ'];exact h)
  · omega
theorem wC (h:n≤4194304):n≤aW n:=by
 unfold aW
 rw [if_neg (by omega)]
 exact J7 19 16 n (by omega)
structure SV (Y:oT) (a0 a:dX) (c j:Nat):Prop where
 ok:dm Y a
 hi:a.height=a0.height+j*c
 same:∀y n,y+n≤a0.height→a.get y n=a0.get y n
theorem SV.take {Y:oT} {a0 a:dX} {n j:Nat} (h:SV Y a0 a (aW n) j) (hn:n≤4194304) (hr:a0.height+(j+1)*aW n≤Y.size) {g:dX×Nat×Nat} (hg:g=xI Y.size a n):g.2.2=0∧g.2.1=a0.height+j*aW n∧SV Y a0 g.1 (aW n) (j+1):=by
 have h1:=h.hi
 have h2:=h.ok.len
 have h3:=h.ok.live
 rw [Nat.add_mul,Nat.one_mul] at hr
 unfold xI at hg
 rw [if_neg (by omega),if_neg (by omega)] at hg
 subst hg
 refine ⟨rfl,h1,⟨?_, ?_,h.ok.most, ?_⟩, ?_,fun y m hy=> ?_⟩
 · show (a.bytes.take a.height++List.replicate (aW n) 0++a.bytes.drop (a.height+aW n)).length=Y.size
   simp;omega
 · show a.height+aW n≤Y.size;omega
 · show a.live+aW n≤a.height+aW n;omega
 · show a.height+aW n=a0.height+(j+1)*aW n
   rw [Nat.add_mul,Nat.one_mul,h1];omega
 · rw [←h.same y m hy]
   show ((a.bytes.take a.height++List.replicate (aW n) 0++a.bytes.drop (a.height+aW n)).drop y).take m=(a.bytes.drop y).take m
   apply List.ext_getElem?
   intro t
   simp only [List.getElem?_take,List.getElem?_drop,List.getElem?_append,List.length_append,List.length_take,List.length_replicate]
   by_cases h4:t<m
   · rw [if_pos h4,if_pos h4,if_pos (by omega),if_pos (by omega),if_pos (by omega)]
   · rw [if_neg h4,if_neg h4]
def pL (z:Nat):Cont:=fun _=>List.replicate z 0
theorem tv {enc:α→List VP}:aB r (au none n enc []::r):=fun F S w x=>⟨fun _=>False,F,fun _ h=>h.elim,fun _ h=>h,rfl,x⟩
theorem QX {a0:dX} (hn:0<X.n) (hm:X.n≤64) (hz:z≤1024) (hq:q≤4096) (ha:SV X.Y a0 a (aW z) X.n) (hlo:X.lo=a0.height) (hhi:X.hi=a0.height+X.n*aW z):CN X z q Oh ⟨Lt a0.height (aW z) X.n,0,[],[],0,false⟩ a ⟨z,(q:Int),0,0,-1,false,[]⟩ (pL z) 0:=by
 have hc:=wC (n:=z) (by omega)
 have hh:=ha.ok.hi
 have hh2:=ha.hi
 refine ⟨⟨[],Nat.le_refl _,fun k h=>(by cases h),⟨⟨sO _ _ _,hn,hm,hn,fun f hf=> ?_,ha.ok,⟨hz,by (show (q:Int)≤4096;omega),fun e he=>(by cases he),fun e he=>(by cases he),by (show ((0:Nat):Int)≤(q:Int);omega),List.nodup_nil⟩⟩,⟨rfl,rfl⟩,(show (-1:Int)<0 by decide),fun k=>(by simp [pL]),List.nodup_nil,fun k i h=>(by cases h),fun j f hj hu=> ?_,fun i j f g hi hj hne=> ?_,List.nodup_nil,fun k k' id h=>(by cases h),rfl,fun k id h=>(by cases h),fun k id h=>(by cases h),by (show ((0:Nat):Int)≤(q:Int);omega),fun k h=>absurd kU h,fun j f hj hu=> ?_,fun k _=> .inl ⟨rfl,kU⟩⟩⟩,rfl,rfl,fun j f hj hu=> ?_⟩
 · obtain ⟨j,hj⟩:=List.mem_iff_getElem?.1 hf
   obtain ⟨h1,rfl⟩:=sP hj
   have h2:(j+1)*aW z≤X.n*aW z:=Nat.mul_le_mul_right _ h1
   rw [Nat.add_mul,Nat.one_mul] at h2
   show (X.lo≤a0.height+j*aW z∧a0.height+j*aW z+z≤X.hi)∧a0.height+j*aW z+z≤X.Y.size
   omega
 · obtain ⟨_,rfl⟩:=sP hj;cases hu
 · obtain ⟨h1,rfl⟩:=sP hi
   obtain ⟨h2,rfl⟩:=sP hj
   show a0.height+i*aW z+z≤a0.height+j*aW z∨a0.height+j*aW z+z≤a0.height+i*aW z
   rcases Nat.lt_or_gt_of_ne hne with h3|h3
   · have h4:(i+1)*aW z≤j*aW z:=Nat.mul_le_mul_right _ h3
     rw [Nat.add_mul,Nat.one_mul] at h4;omega
   · have h4:(j+1)*aW z≤i*aW z:=Nat.mul_le_mul_right _ h3
     rw [Nat.add_mul,Nat.one_mul] at h4;omega
 · obtain ⟨_,rfl⟩:=sP hj;cases hu
 · obtain ⟨_,rfl⟩:=sP hj;cases hu
theorem u5 {T':jP→Prop} (hT:∀p,T p→T' p):aB (ek X z q T C m R::r) (ek X z q T' C m R::r):=fun F S w ⟨F1,F2,h1,h2,⟨x,h3⟩,h4⟩=>
 ⟨F1,F2,h1,h2,⟨x,by
  obtain ⟨G1,G2,g1,g2,g3,g4⟩:=h3
  exact ⟨G1,G2,g1,g2,⟨g3.ex,g3.sz,g3.cp,hT _ g3.cln⟩,g4⟩⟩,h4⟩
theorem Inv.QY {D:List bA} (h:Inv X p a s C D) {fr:Fr} (hi:p.l[i]?=some fr) (k:bA):dN X a (a.put fr.at_ (C k)):=by
 have h1:=h.ok.room fr (List.mem_of_getElem? hi)
 have h2:=h.uX k
 exact dN.put (by omega) (by omega) (by omega)
theorem QZ {X:oT} {c:Nat} (h:X.size=n) (hn:n≤4194304):SV X ⟨List.replicate n 0,0,0,[]⟩ ⟨List.replicate n 0,0,0,[]⟩ c 0:=
 ⟨⟨by rw [h];simp,Nat.zero_le _,by omega,Nat.le_refl _⟩,by simp,fun _ _ _=>rfl⟩
def iI (z at_ n d:Nat):Nat:=min (n-d) (z-(at_+d)%z)
def dI (z at_ n:Nat):Nat→Nat
 |0=>0
 |j+1=>dI z at_ n j+iI z at_ n (dI z at_ n j)
variable {at_:Nat} {d:Nat}
theorem Ol (hz:0<z) (h:d<n):0<iI z at_ n d:=by
 have:=Nat.mod_lt (at_+d) hz
 unfold iI;omega
theorem EK (hz:0<z):(at_+d)%z+iI z at_ n d≤z:=by
 have:=Nat.mod_lt (at_+d) hz
 unfold iI;omega
theorem nF (z at_ n:Nat):∀j,dI z at_ n j≤n
 |0=>Nat.zero_le _
 |j+1=>by
  have:=nF z at_ n j
  unfold dI iI;omega
theorem EL {z at_ n:Nat} (hz:0<z):∀j,j≤dI z at_ n j∨dI z at_ n j=n
 |0=> .inl (Nat.zero_le _)
 |j+1=>by
  have hl:=nF z at_ n j
  rcases EL hz (at_:=at_) (n:=n) j with h|h
  · by_cases e:dI z at_ n j=n
    · right;show dI z at_ n j+iI z at_ n (dI z at_ n j)=n;unfold iI;omega
    · have:=Ol (at_:=at_) hz (show dI z at_ n j<n by omega)
      left;show j+1≤dI z at_ n j+iI z at_ n (dI z at_ n j);omega
  · right;show dI z at_ n j+iI z at_ n (dI z at_ n j)=n;unfold iI;omega
theorem BF (hz:0<z):∃N,dI z at_ n N=n∧∀j,j<N→dI z at_ n j<n:=by
 have hex:∃N,dI z at_ n N=n:=by
  refine ⟨n, ?_⟩
  have:=nF z at_ n n
  rcases EL hz (at_:=at_) (n:=n) n with h|h
  · omega
  · exact h
 have key:∀M,dI z at_ n M=n→∃N,dI z at_ n N=n∧∀j,j<N→dI z at_ n j<n:=by
  intro M
  induction M with
  |zero=>intro h;exact ⟨0,h,fun j hj=>absurd hj (Nat.not_lt_zero _)⟩
  |succ M ih=>
   intro h
   by_cases e:∃j,j≤M∧dI z at_ n j=n
   · obtain ⟨j,hj,hd⟩:=e
     have mono:∀t,dI z at_ n (j+t)=n:=by
      intro t
      induction t with
      |zero=>exact hd
      |succ t iht=>show dI z at_ n (j+t)+iI z at_ n (dI z at_ n (j+t))=n;rw [iht];unfold iI;omega
     have:=mono (M-j)
     rw [show j+(M-j)=M by omega] at this
     exact ih this
   · exact ⟨M+1,h,fun j hj=>by
      have:=nF z at_ n j
      have:dI z at_ n j≠n:=fun hd=>e ⟨j,by omega,hd⟩
      omega⟩
 exact key _ hex.choose_spec
theorem EM {z at_ n:Nat} (hz:0<z):∀j,dI z at_ n j<n→0<j→(at_+dI z at_ n j)%z=0∧(j-1)*z+1≤dI z at_ n j
 |0,_,h=>absurd h (Nat.lt_irrefl _)
 |j+1,h,_=>by
  have hl:=nF z at_ n j
  have hm:=Nat.mod_lt (at_+dI z at_ n j) hz
  have hs:dI z at_ n (j+1)=dI z at_ n j+iI z at_ n (dI z at_ n j):=rfl
  have hst:iI z at_ n (dI z at_ n j)=z-(at_+dI z at_ n j)%z:=by unfold iI at hs ⊢;omega
  have hdiv:=Nat.div_add_mod (at_+dI z at_ n j) z
  refine ⟨?_, ?_⟩
  · rw [hs,hst,←Nat.add_assoc]
    have:at_+dI z at_ n j+(z-(at_+dI z at_ n j)%z)=z*((at_+dI z at_ n j)/z+1):=by rw [Nat.mul_add,Nat.mul_one];omega
    rw [this];exact Nat.mul_mod_right _ _
  · rw [Nat.add_sub_cancel]
    rcases Nat.eq_zero_or_pos j with h0|h0
    · subst h0;rw [hs,hst,Nat.zero_mul];generalize (at_+dI z at_ n 0)%z=r at*;omega
    · obtain ⟨h1,h2⟩:=EM (at_:=at_) (n:=n) hz j (by omega) h0
      rw [hs,hst,h1]
      have h6:j*z=(j-1)*z+z:=by rw [←Nat.succ_mul];congr 1;omega
      rw [h6];omega
theorem Lu {N:Nat} (hz:0<z) (h:∀j,j<N→dI z at_ n j<n):N≤n/z+2:=by
 rcases Nat.lt_or_ge N 2 with h2|h2
 · exact Nat.le_trans (show N≤2 by omega) (Nat.le_add_left 2 _)
 · obtain ⟨_,h3⟩:=EM hz (N-1) (h (N-1) (by omega)) (by omega)
   have h4:=h (N-1) (by omega)
   have h5:(N-2)*z≤n:=by rw [show N-1-1=N-2 by omega] at h3;omega
   have h6:N-2≤n/z:=(Nat.le_div_iff_mul_le hz).2 h5
   omega
def mX (z:Nat) (C:Cont) (num:Int) (a:Nat):UInt8:=(C (num,((a/z:Nat):Int))).getD (a%z) 0
def rU (z:Nat) (C:Cont) (num:Int) (at_ n:Nat):List UInt8:=(List.range n).map fun i=>mX z C num (at_+i)
theorem EN (z:Nat) (C:Cont) (num:Int) (at_ n:Nat):(rU z C num at_ n).length=n:=by simp [rU]
theorem Om (z:Nat) (C:Cont) (num:Int) (at_ d s:Nat):rU z C num at_ (d+s)=rU z C num at_ d++rU z C num (at_+d) s:=by
 unfold rU
 rw [List.range_add,List.map_append,List.map_map]
 congr 1
 apply List.map_congr_left
 intro i _
 show mX z C num (at_+(d+i))=mX z C num (at_+d+i)
 rw [Nat.add_assoc]
theorem BG {a s:Nat} (hz:0<z) (h:a%z+s≤z) (hi:i<s):(a+i)/z=a/z∧(a+i)%z=a%z+i:=by
 have h1:=Nat.div_add_mod a z
 have h2:a+i=z*(a/z)+(a%z+i):=by omega
 have h3:(a%z+i)/z=0:=Nat.div_eq_of_lt (by omega)
 constructor
 · rw [h2,Nat.mul_add_div hz,h3,Nat.add_zero]
 · rw [h2,Nat.mul_add_mod,Nat.mod_eq_of_lt (by omega)]
variable {num:Int}
theorem oC {a s:Nat} (hn:0≤num) (hz:0<z) (h:a%z+s≤z):fq z (num,((a/z:Nat):Int)) ((a%z:Nat):Int) (s:Int)=0:=by
 unfold fq
 generalize a/z=q at*
 generalize a%z=r at*
 rw [if_neg (by show ¬(num<0∨(q:Int)<0);omega),if_neg (by omega)]
theorem wD {a s:Nat} (hn:0≤num) (hz:0<z) (hC:∀k,(C k).length=z) (h:a%z+s≤z):uZ z C (num,((a/z:Nat):Int)) ((a%z:Nat):Int) (s:Int)=rU z C num a s:=by
 unfold uZ
 rw [if_pos (oC hn hz h)]
 have hl:=hC (num,((a/z:Nat):Int))
 apply List.ext_getElem?
 intro i
 simp only [Int.toNat_natCast]
 rw [List.getElem?_take]
 unfold rU
 rw [List.getElem?_map]
 by_cases hi:i<s
 · obtain ⟨h1,h2⟩:=BG hz h hi
   rw [if_pos hi,List.getElem?_drop,List.getElem?_range hi]
   simp only [Option.map_some,mX,h1,h2]
   rw [List.getD_eq_getElem?_getD,List.getElem?_eq_getElem (by omega)]
   rfl
 · rw [if_neg hi,List.getElem?_eq_none (by simp;omega)];rfl
def wE (z:Nat) (C:Cont) (num:Int) (at_:Nat) (ys:List UInt8):Cont:=fun k=>if k.1=num∧0≤k.2 then (List.range z).map fun o=>if at_≤k.2.toNat*z+o∧k.2.toNat*z+o<at_+ys.length then ys.getD (k.2.toNat*z+o-at_) 0 else (C k).getD o 0 else C k
theorem J8 (hC:∀k,(C k).length=z) (k:bA):(wE z C num at_ ys k).length=z:=by
 unfold wE;split
 · simp
 · exact hC k
theorem HH:(List.range l.length).map (fun o=>l.getD o 0)=l:=by
 apply List.ext_getElem?
 intro i
 rw [List.getElem?_map]
 by_cases hi:i<l.length
 · rw [List.getElem?_range hi,List.getElem?_eq_getElem hi];simp [List.getD_eq_getElem?_getD,hi]
 · rw [List.getElem?_eq_none (by simp;omega),List.getElem?_eq_none (by omega)];rfl
theorem Q0 (hC:∀k,(C k).length=z):wE z C num at_ []=C:=by
 funext k
 unfold wE
 split
 · have:∀o,(if at_≤k.2.toNat*z+o∧k.2.toNat*z+o<at_+([]:List UInt8).length then ([]:List UInt8).getD (k.2.toNat*z+o-at_) 0 else (C k).getD o 0)=(C k).getD o 0:=fun o=>if_neg (by simp only [List.length_nil];omega)
   simp only [this]
   rw [←hC k];exact HH
 · rfl
theorem On {a:Nat} (hz:0<z):mX z (wE z C num at_ ys) num a=if at_≤a∧a<at_+ys.length then ys.getD (a-at_) 0 else mX z C num a:=by
 have hm:=Nat.mod_lt a hz
 have hd:=Nat.div_add_mod a z
 have e:a/z*z+a%z=a:=by rw [Nat.mul_comm];exact hd
 unfold mX wE
 rw [if_pos ⟨rfl,Int.natCast_nonneg _⟩]
 simp only [Int.toNat_natCast]
 rw [List.getD_eq_getElem?_getD,List.getElem?_map,List.getElem?_range hm]
 simp only [Option.map_some,Option.getD_some,e]
theorem wF {num':Int} {a:Nat} (h:num'≠num):mX z (wE z C num at_ ys) num' a=mX z C num' a:=by
 unfold mX wE
 rw [if_neg (fun e=>h e.1)]
theorem HI {s:Nat} (hn:0≤num) (hz:0<z) (hC:∀k,(C k).length=z) (h:(at_+d)%z+s≤z) (hs:d+s≤ys.length):
    rT z (wE z C num at_ (ys.take d)) (num,(((at_+d)/z:Nat):Int)) (((at_+d)%z:Nat):Int) ((ys.drop d).take s)=wE z C num at_ (ys.take (d+s)):=by
  have hl:((ys.drop d).take s).length=s:=by simp;omega
  unfold rT
  rw [hl,if_pos (oC hn hz h)]
  have hd:=Nat.div_add_mod (at_+d) z
  have hd2:(at_+d)/z*z+(at_+d)%z=at_+d:=by rw [Nat.mul_comm];exact hd
  have ko:(ys.take d).length=d:=by simp;omega
  have lp:(ys.take (d+s)).length=d+s:=by simp;omega
  have hg:∀t e,t<e→(ys.take e).getD t 0=ys.getD t 0:=fun t e ht=>by
    rw [List.getD_eq_getElem?_getD,List.getD_eq_getElem?_getD,List.getElem?_take,if_pos ht]
  funext k
  unfold iq
  by_cases hk:k=(num,(((at_+d)/z:Nat):Int))
  · rw [if_pos hk,hk]
    simp only [Int.toNat_natCast]
    have hw:=J8 (num:=num) (at_:=at_) (ys:=ys.take d) hC (num,(((at_+d)/z:Nat):Int))
    apply List.ext_getElem?
    intro o
    by_cases ho:o<z
    · have e2:(wE z C num at_ (ys.take (d+s)) (num,(((at_+d)/z:Nat):Int)))[o]?=some (if at_≤(at_+d)/z*z+o∧(at_+d)/z*z+o<at_+(d+s) then ys.getD ((at_+d)/z*z+o-at_) 0 else (C (num,(((at_+d)/z:Nat):Int))).getD o 0):=by
        unfold wE
        rw [if_pos ⟨rfl,Int.natCast_nonneg _⟩,List.getElem?_map,List.getElem?_range ho,lp]
        simp only [Option.map_some,Int.toNat_natCast,Option.some.injEq]
        split
        · rename_i hc;exact hg _ _ (by omega)
        · rfl
      have e1:(wE z C num at_ (ys.take d) (num,(((at_+d)/z:Nat):Int)))[o]?=some (if at_≤(at_+d)/z*z+o∧(at_+d)/z*z+o<at_+d then ys.getD ((at_+d)/z*z+o-at_) 0 else (C (num,(((at_+d)/z:Nat):Int))).getD o 0):=by
        unfold wE
        rw [if_pos ⟨rfl,Int.natCast_nonneg _⟩,List.getElem?_map,List.getElem?_range ho,ko]
        simp only [Option.map_some,Int.toNat_natCast,Option.some.injEq]
        split
        · rename_i hc;exact hg _ _ (by omega)
        · rfl
      rw [e2]
      unfold Nk
      simp only [List.getElem?_append,List.length_append,List.length_take,hl,hw]
      by_cases o1:o<(at_+d)%z
      · rw [if_pos (by omega),if_pos (by omega),List.getElem?_take,if_pos o1,e1]
        congr 1
        by_cases c1:at_≤(at_+d)/z*z+o∧(at_+d)/z*z+o<at_+d
        · rw [if_pos c1,if_pos ⟨c1.1,by omega⟩]
        · rw [if_neg c1,if_neg (fun c2=>c1 ⟨c2.1,by omega⟩)]
      · by_cases o2:o<(at_+d)%z+s
        · rw [if_pos (by omega),if_neg (by omega),List.getElem?_take,if_pos (by omega),List.getElem?_drop,if_pos ⟨by omega,by omega⟩]
          rw [show d+(o-min ((at_+d)%z) z)=(at_+d)/z*z+o-at_ by omega]
          rw [List.getD_eq_getElem?_getD,List.getElem?_eq_getElem (by omega)];rfl
        · rw [if_neg (by omega),List.getElem?_drop]
          rw [show (at_+d)%z+s+(o-(min ((at_+d)%z) z+s))=o by omega,e1]
          congr 1
          rw [if_neg (by omega),if_neg (by omega)]
    · rw [List.getElem?_eq_none (by rw [CM (by rw [hw,hl];exact h),hw];omega),List.getElem?_eq_none (by rw [J8 hC];omega)]
  · rw [if_neg hk]
    unfold wE
    by_cases hc:k.1=num∧0≤k.2
    · rw [if_pos hc,if_pos hc]
      apply List.map_congr_left
      intro o ho
      have ho':=List.mem_range.1 ho
      have hne:k.2.toNat≠(at_+d)/z:=fun e=>hk (Prod.ext hc.1 (by show k.2=_;omega))
      have bu2:¬(at_+d≤k.2.toNat*z+o∧k.2.toNat*z+o<at_+d+s):=fun ⟨c1,c2⟩=>by
        have c3:(k.2.toNat*z+o)/z=k.2.toNat:=by rw [Nat.mul_comm,Nat.mul_add_div hz,Nat.div_eq_of_lt ho',Nat.add_zero]
        obtain ⟨i,hi⟩:∃i,k.2.toNat*z+o=at_+d+i:=⟨_,(Nat.add_sub_cancel' c1).symm⟩
        have c4:=(BG hz h (show i<s by omega)).1
        rw [hi,c4] at c3
        exact hne c3.symm
      rw [ko,lp]
      by_cases c1:at_≤k.2.toNat*z+o∧k.2.toNat*z+o<at_+d
      · rw [if_pos c1,if_pos ⟨c1.1,by omega⟩,hg _ _ (by omega),hg _ _ (by omega)]
      · rw [if_neg c1,if_neg (by omega)]
    · rw [if_neg hc,if_neg hc]
theorem aM.Wu {P:Program} {Q:Exit→Act→World→Prop} {c:Ctx} {x:Code} {env:Env} {hs:List HP} (i:Nat) (hi:hs[i]?=some (ek X z q T C m R)) (k:(∀k,(C k).length=z)→aM P Q c x hs env):aM P Q c x hs env:=by
 intro a w hst
 obtain ⟨F1,_,⟨p,hp⟩⟩:=hst.2.2.choose_spec.choose_spec.2.1.get hi
 obtain ⟨G1,G2,g1,g2,g3,g4⟩:=hp
 obtain ⟨D,_,_,hI⟩:=g3.ex
 exact k (fun k=>by rw [hI.uX k];exact g3.sz) a w hst
end Go.Hl
end
