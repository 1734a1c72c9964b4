/-
  What the statement's proof leans on, several texts in one (packed by a program).
-/
import Derived.Test.YtpfobikpggmleaaGreatDoorSRJ
set_option linter.all false
set_option maxRecDepth 1000000
set_option maxHeartbeats 4000000
section
namespace Go.Hl
section maps
variable {κ ν:Type} [DecidableEq κ]
theorem cT (p:κ×ν) (D:List (κ×ν)) (a:κ):an (p::D) a=if p.1=a then some p.2 else an D a:=by
 unfold an
 by_cases h:p.1=a
 · rw [List.find?_cons_of_pos (by simpa using h),if_pos h];rfl
 · rw [List.find?_cons_of_neg (by simpa using h),if_neg h]
theorem jV (k:κ) (v:ν) (b:κ):∀D:List (κ×ν),an D k=none→an (D++[(k,v)]) b=if k=b then some v else an D b
 |[],_=>by rw [List.nil_append,cT]
 |p::D,h=>by
  rw [cT] at h
  by_cases hp:p.1=k
  · rw [if_pos hp] at h;cases h
  · rw [if_neg hp] at h
    rw [List.cons_append,cT,jV k v b D h,cT]
    by_cases hb:p.1=b
    · rw [if_pos hb,if_pos hb,if_neg (fun e=>hp (hb.trans e.symm))]
    · rw [if_neg hb,if_neg hb]
theorem tW (p:κ×ν) (D:List (κ×ν)) (a:κ):jc (p::D) a=if p.1=a then D else p::jc D a:=by
 unfold jc
 rw [List.map_cons,List.findIdx?_cons]
 by_cases h:p.1=a
 · rw [if_pos (by simpa using h),if_pos h];rfl
 · rw [if_neg (by simpa using h),if_neg h]
   cases (D.map (·.1)).findIdx? (fun k=>decide (k=a))<;>rfl
theorem y6:∀{D:List (κ×ν)} {a:κ},a∉D.map (·.1)→an D a=none
 |[],_,_=>rfl
 |p::D,a,h=>by
  rw [List.map_cons,List.mem_cons,not_or] at h
  rw [cT,if_neg (fun e=>h.1 e.symm)];exact y6 h.2
theorem sL:∀{D:List (κ×ν)} {a:κ},a∈D.map (·.1)→∃v,an D a=some v
 |[],_,h=>by simp at h
 |p::D,a,h=>by
  rw [cT]
  by_cases hp:p.1=a
  · exact ⟨p.2,if_pos hp⟩
  · rw [if_neg hp]
    rw [List.map_cons,List.mem_cons] at h
    rcases h with h|h
    · exact absurd h.symm hp
    · exact sL h
theorem wO:∀{D:List (κ×ν)} {a:κ} {v:ν},an D a=some v→(a,v)∈D
 |[],_,_,h=>by cases h
 |p::D,a,v,h=>by
  rw [cT] at h
  by_cases hp:p.1=a
  · rw [if_pos hp] at h;cases h;subst hp;exact List.mem_cons_self
  · rw [if_neg hp] at h;exact List.mem_cons_of_mem _ (wO h)
theorem lN:∀{D:List (κ×ν)} (a b:κ),(D.map (·.1)).Nodup→an (jc D a) b=if a=b then none else an D b
 |[],a,b,_=>by
  have:jc ([]:List (κ×ν)) a=[]:=rfl
  rw [this];by_cases h:a=b<;>simp [h,an]
 |p::D,a,b,hn=>by
  rw [List.map_cons,List.nodup_cons] at hn
  rw [tW,cT]
  by_cases hp:p.1=a
  · rw [if_pos hp]
    by_cases hb:a=b
    · subst hb;rw [if_pos rfl];exact y6 (hp▸hn.1)
    · rw [if_neg hb,if_neg (fun e=>hb (hp.symm.trans e))]
  · rw [if_neg hp,cT,lN a b hn.2]
    by_cases hb:p.1=b
    · rw [if_pos hb,if_pos hb,if_neg (fun e=>hp (hb.trans e.symm))]
    · rw [if_neg hb,if_neg hb]
theorem pP:∀(D:List (κ×ν)) (a:κ),List.Sublist (jc D a) D
 |[],a=>List.Sublist.refl _
 |p::D,a=>by
  rw [tW]
  by_cases hp:p.1=a
  · rw [if_pos hp];exact List.sublist_cons_self _ _
  · rw [if_neg hp];exact (pP D a).cons_cons p
theorem tX {D:List (κ×ν)} (a:κ) (h:(D.map (·.1)).Nodup):((jc D a).map (·.1)).Nodup:=h.sublist ((pP D a).map _)
theorem z6:∀{D:List (κ×ν)} {a:κ} {v:ν},an D a=some v→(jc D a).length+1=D.length
 |[],_,_,h=>by cases h
 |p::D,a,v,h=>by
  rw [cT] at h
  rw [tW]
  by_cases hp:p.1=a
  · rw [if_pos hp];rfl
  · rw [if_neg hp] at h ⊢
    rw [List.length_cons,List.length_cons,z6 h]
theorem wP {D:List (κ×ν)} {a:κ} {v:ν} (h:(D.map (·.1)).Nodup) (hl:an D a=none):((D++[(a,v)]).map (·.1)).Nodup:=by
 rw [List.map_append,List.nodup_append]
 refine ⟨h,by simp,fun x hx y hy e=> ?_⟩
 simp at hy
 subst e;subst hy
 obtain ⟨w,hw⟩:=sL hx
 rw [hw] at hl;cases hl
end maps
theorem nD {α:Type} {id:Int} (l:α) (b:Int):∀{E:List (Int×α)} {l0:α},an E id=some l0→an (fA E id l) b=if id=b then some l else an E b
 |[],_,h=>by cases h
 |e::E,l0,h=>by
  rw [cT] at h
  unfold fA
  by_cases he:e.1=id
  · rw [if_pos he,cT,cT]
    by_cases hb:id=b
    · rw [if_pos (he.trans hb),if_pos hb]
    · rw [if_neg (fun x=>hb (he.symm.trans x)),if_neg hb,if_neg (fun x=>hb (he.symm.trans x))]
  · rw [if_neg he] at h ⊢
    rw [cT,nD l b h,cT]
    by_cases hb:e.1=b
    · rw [if_pos hb,if_pos hb,if_neg (fun x=>he (hb.trans x.symm))]
    · rw [if_neg hb,if_neg hb]
theorem nE {α:Type} (id:Int) (l:α):∀E:List (Int×α),(fA E id l).map (·.1)=E.map (·.1)
 |[]=>rfl
 |e::E=>by
  unfold fA
  by_cases he:e.1=id
  · rw [if_pos he];rfl
  · rw [if_neg he,List.map_cons,List.map_cons,nE id l E]
theorem wQ {α:Type} {id:Int} {l:α} {x:Int×α}:∀{E:List (Int×α)},x∈fA E id l→x∈E∨(x.2=l∧∃y∈E,y.1=x.1)
 |[],h=>by cases h
 | e ::E,h=>by
  unfold fA at h
  by_cases he:e.1=id
  · rw [if_pos he] at h
    rcases List.mem_cons.1 h with h|h
    · subst h;exact .inr ⟨rfl,e,List.mem_cons_self,rfl⟩
    · exact .inl (List.mem_cons_of_mem _ h)
  · rw [if_neg he] at h
    rcases List.mem_cons.1 h with h|h
    · subst h;exact .inl List.mem_cons_self
    · rcases wQ h with h|⟨h,y,hy,h2⟩
      · exact .inl (List.mem_cons_of_mem _ h)
      · exact .inr ⟨h,y,List.mem_cons_of_mem _ hy,h2⟩
variable {s:kE}
theorem KW (h:s.fail<0):∃k,rC s=({s with ops:=k},true):=by
 refine ⟨IntKind.i64.wrap (s.ops+1), ?_⟩
 unfold rC
 dsimp only
 rw [if_neg (by omega)]
variable {l:List UInt8} {id:Int}
theorem wR {r:Prop} [Decidable r] (h:s.fail<0) (hl:an s.m id=some l) (hr:r):∃k,ei s id r=({s with ops:=k},0):=by
 obtain ⟨k,hk⟩:=KW h
 exact ⟨k,by rw [(z3 (id:=id) (r:=r) (by rw [hl];simp) hr).1 (by rw [hk]),hk]⟩
variable {ys:List UInt8}
theorem wS (h:s.fail<0) (hl:an s.m id=some l) (hy:ys.length=s.size):∃k,jz s id ys=({s with ops:=k,m:=fA s.m id ys},0):=by
 obtain ⟨k,hk⟩:=wR (r:=ys.length=s.size) h hl hy
 exact ⟨k,by rw [y4 (by rw [hk]),hk]⟩
theorem Ic (h:s.fail<0) (hl:an s.m id=some l):∃k,qW s id=({s with ops:=k,m:=jc s.m id},0):=by
 obtain ⟨k,hk⟩:=wR (r:=True) h hl trivial
 exact ⟨k,by rw [B6 (by rw [hk]),hk,B3]⟩
theorem Ie (h:s.fail<0) (hl:an s.m id=some l):∃k,y3 s id=({s with ops:=k},l,0):=by
 obtain ⟨k,hk⟩:=wR (r:=True) h hl trivial
 exact ⟨k,by rw [B5 (by rw [hk]) hl,hk]⟩
theorem wT {g:kE×Int×Nat} (h:s.fail<0) (hm:(s.m.length:Int)<s.cap) (hg:wI s g):
    ∃(id k pk:Int),an s.m id=none∧g=({s with ops:=k,m:=s.m++[(id,List.replicate s.size 0)],wF:=pk},id,0):=by
  obtain ⟨k,hk⟩:=KW h
  rcases hg with ⟨h1,_⟩|⟨_,h2,_⟩|⟨_,_,id,_,hno,rfl⟩
  · rw [hk] at h1;cases h1
  · omega
  · rw [hk];exact ⟨id,k,_,hno,rfl⟩
theorem oZ.write (h:oZ s) {k:Int} (hy:ys.length=s.size):oZ {s with ops:=k,m:=fA s.m id ys}:=
 ⟨h.size,h.cap,fun e he=>by
  rcases wQ he with h1|⟨h1,_⟩
  · exact h.len e h1
  · rw [h1];exact hy,fun e he=>by
  rcases wQ he with h1|⟨_,y,hy,h1⟩
  · exact h.keys e h1
  · rw [←h1];exact h.keys y hy,by
  have:=congrArg List.length (nE id ys s.m)
  simp at this
  show ((fA s.m id ys).length:Int)≤s.cap
  rw [this];exact h.many,by
  show ((fA s.m id ys).map (·.1)).Nodup
  rw [nE];exact h.nodup⟩
theorem oZ.free (h:oZ s) {k:Int}:oZ {s with ops:=k,m:=jc s.m id}:=
 ⟨h.size,h.cap,fun e he=>h.len e ((pP s.m id).subset he),fun e he=>h.keys e ((pP s.m id).subset he),by
  have:=(pP s.m id).length_le
  have h2:=h.many
  show ((jc s.m id).length:Int)≤s.cap
  omega,tX id h.nodup⟩
variable {n:Nat} {a:eO} {x:Nat} {o:Nat}
theorem wU (h:x+n≤a.bytes.length) (ho:o+ys.length≤n):(a.put (x+o) ys).get x n=(a.get x n).take o++ys++(a.get x n).drop (o+ys.length):=by
 unfold eO.put eO.get
 apply List.ext_getElem?
 intro j
 simp only [List.getElem?_take,List.getElem?_drop,List.getElem?_append,List.length_append,List.length_take,List.length_drop]
 by_cases h1:j<n
 · rw [if_pos h1]
   by_cases h2:j<o
   · rw [if_pos (by omega),if_pos (by omega),if_pos (by omega),if_pos (by omega),if_pos (by omega),if_pos h2,if_pos (by omega)]
   · by_cases h3:j<o+ys.length
     · rw [if_pos (by omega),if_neg (by omega),if_pos (by omega),if_neg (by omega)]
       congr 1;omega
     · rw [if_neg (by omega),if_neg (by omega),if_pos (by omega)]
       congr 1;omega
 · rw [if_neg h1]
   by_cases h3:j<o+ys.length
   · omega
   · rw [if_neg (by omega),if_neg (by omega)]
theorem pQ {y:Nat} (hx:x+ys.length≤a.bytes.length) (h:y+n≤x∨x+ys.length≤y):(a.put x ys).get y n=a.get y n:=by
 unfold eO.put eO.get
 apply List.ext_getElem?
 intro j
 simp only [List.getElem?_take,List.getElem?_drop,List.getElem?_append,List.length_append,List.length_take,List.length_drop]
 by_cases h1:j<n
 · rw [if_pos h1,if_pos h1]
   rcases h with h|h
   · rw [if_pos (by omega),if_pos (by omega),if_pos (by omega)]
   · rw [if_neg (by omega)]
     congr 1;omega
 · rw [if_neg h1,if_neg h1]
theorem z7 (h:x+n≤a.bytes.length):(a.get x n).length=n:=by
 unfold eO.get;simp;omega
theorem eg.put {Y:yd} {a:eO} (h:eg Y a) {x:Nat} {ys:List UInt8} (hx:x+ys.length≤Y.size):eg Y (a.put x ys):=
 ⟨by have:=h.len;show (a.bytes.take x++ys++a.bytes.drop (x+ys.length)).length=Y.size;simp;omega,h.hi,h.most,h.live⟩
def J6 (l:List UInt8) (o:Nat) (ys:List UInt8):List UInt8:=l.take o++ys++l.drop (o+ys.length)
theorem z8 (h:o+ys.length≤l.length):(J6 l o ys).length=l.length:=by unfold J6;simp;omega
theorem tY (h:ej l):l=List.replicate l.length 0:=List.eq_replicate_iff.2 ⟨rfl,h⟩
theorem sM:ej (List.replicate n 0):=fun x hx=>(List.mem_replicate.1 hx).2
theorem KX (hl:ej l) (hy:ej ys) (h:o+ys.length≤l.length):J6 l o ys=l:=by
 have h2:ej (J6 l o ys):=fun x hx=>by
  unfold J6 at hx
  rcases List.mem_append.1 hx with hx|hx
  · rcases List.mem_append.1 hx with hx|hx
    · exact hl x (List.mem_of_mem_take hx)
    · exact hy x hx
  · exact hl x (List.mem_of_mem_drop hx)
 rw [tY h2,z8 h];exact (tY hl).symm
variable {i:Nat} {α:Type} {j:Nat} {y:α}
theorem lD {l:List α} {x:α} (h:(l.set i x)[j]?=some y):(i=j∧y=x)∨(i≠j∧l[j]?=some y):=by
 rw [List.getElem?_set] at h
 by_cases e:i=j
 · rw [if_pos e] at h
   by_cases h2:i<l.length
   · rw [if_pos h2] at h;cases h;exact .inl ⟨e,rfl⟩
   · rw [if_neg h2] at h;cases h
 · rw [if_neg e] at h;exact .inr ⟨e,h⟩
theorem iL {l:List α} {x:α} (h:l[i]?=some y):(l.set i x)[i]?=some x:=by
 simp [(List.getElem?_eq_some_iff.1 h).1]
theorem jW {l:List α} {x:α} (h:l[j]?=some y) (e:i≠j):(l.set i x)[j]?=some y:=by
 rw [List.getElem?_set,if_neg e];exact h
abbrev Cont:=cW→List UInt8
structure Inv (X:od) (p:kR) (a:eO) (s:kE) (C:Cont) (D:List cW):Prop where
 ok:KU X p a s
 WC:p.fault=0∧p.closed=false
 nf:s.fail<0
 yg:∀k,(C k).length=s.size
 RH:(p.qY.map (·.1)).Nodup
 SM:∀k i,an p.qY k=some i→∃(j:Nat) (f:Fr),i=(j:Int)∧p.l[j]?=some f∧f.used=true∧f.k=k
 MB:∀(j:Nat) (f:Fr),p.l[j]?=some f→f.used=true→an p.qY f.k=some (j:Int)
 apart:∀(i j:Nat) (f g:Fr),p.l[i]?=some f→p.l[j]?=some g→i≠j→f.at_+s.size≤g.at_∨g.at_+s.size≤f.at_
 O9:(p.bm.map (·.1)).Nodup
 inj:∀k k' id,an p.bm k=some id→an p.bm k'=some id→k=k'
 num:p.bm.length=s.m.length
 has:∀k id,an p.bm k=some id→∃l,an s.m id=some l∧¬ej l
 cnt:∀k id,an p.bm k=some id→k∈D
 yh:(D.length:Int)≤s.cap
 Nl:∀k,¬ej (C k)→k∈D
 fr:∀(j:Nat) (f:Fr),p.l[j]?=some f→f.used=true→a.get f.at_ s.size=C f.k
 cl:∀k,(∀(j:Nat) (f:Fr),p.l[j]?=some f→f.used=true→f.k=k→f.cY=false)→(an p.bm k=none∧ej (C k))∨∃id,an p.bm k=some id∧an s.m id=some (C k)∧¬ej (C k)
section
variable {X:od} {p:kR} {a:eO} {s:kE} {C:Cont} {D:List cW} {i:Nat} {fr:Fr}
theorem Inv.place (h:Inv X p a s C D) (hi:p.l[i]?=some fr):fr.at_+s.size≤a.bytes.length:=by
 have:=(h.ok.room fr (List.mem_of_getElem? hi)).2
 rw [h.ok.ar.len];exact this
theorem Inv.less (h:Inv X p a s C D) {D':List cW} (hs:∀k∈D,k∈D') (hf:(D'.length:Int)≤s.cap):Inv X p a s C D':=
 {h with cnt:=fun k id hk=>hs _ (h.cnt k id hk),yh:=hf,Nl:=fun k hk=>hs _ (h.Nl k hk)}
theorem Inv.Nm (h:Inv X p a s C D) (hi:p.l[i]?=some fr) (hu:fr.used=true) {s':kE} {bm':List (cW×Int)} (hst:oZ s') (hz:s'.size=s.size) (hc:s'.cap=s.cap) (hf:s'.fail=s.fail)
    (hk:(bm'.map (·.1)).Nodup) (hn:bm'.length=s'.m.length) (hb:∀k,k≠fr.k→an bm' k=an p.bm k) (hm:∀k id,k≠fr.k→an p.bm k=some id→an s'.m id=an s.m id)
    (hd:(an bm' fr.k=none∧ej (C fr.k))∨∃id,an bm' fr.k=some id∧an s'.m id=some (C fr.k)∧¬ej (C fr.k)∧∀k,k≠fr.k→an p.bm k≠some id):
    Inv X {p with l:=p.l.set i {fr with cY:=false},bm:=bm'} a s' C D:=by
  have WD:∀k id,an bm' k=some id→(k≠fr.k∧an p.bm k=some id)∨(k=fr.k∧an s'.m id=some (C fr.k)∧¬ej (C fr.k)∧∀k,k≠fr.k→an p.bm k≠some id):=fun k id hk=>by
    by_cases e:k=fr.k
    · subst e
      rcases hd with ⟨h1,_⟩|⟨id',h1,h2,h3,h4⟩
      · rw [h1] at hk;cases hk
      · rw [h1] at hk;cases hk;exact .inr ⟨rfl,h2,h3,h4⟩
    · exact .inl ⟨e,(hb k e)▸hk⟩
  refine ⟨⟨by simpa using h.ok.n,h.ok.pos,h.ok.most,h.ok.hand,fun f hf'=> ?_,h.ok.ar,hst⟩,h.WC,hf▸h.nf,fun k=>hz▸h.yg k,h.RH,fun k j hk=> ?_,fun j f hj DR=> ?_,fun j j' f g hj hj' hne=> ?_,hk, ?_,hn, ?_, ?_,hc▸h.yh,h.Nl,fun j f hj DR=> ?_,fun k hk=> ?_⟩
  · obtain ⟨j,hj⟩:=List.mem_iff_getElem?.1 hf'
    rcases lD hj with ⟨rfl,rfl⟩|⟨_,hj⟩
    · exact hz▸h.ok.room fr (List.mem_of_getElem? hi)
    · exact hz▸h.ok.room f (List.mem_of_getElem? hj)
  · obtain ⟨j',f,e,hj,DR,B7⟩:=h.SM k j hk
    by_cases e2:i=j'
    · subst e2
      rw [hi] at hj;cases hj
      exact ⟨i,_,e,iL hi,DR,B7⟩
    · exact ⟨j',f,e,jW hj e2,DR,B7⟩
  · rcases lD hj with ⟨rfl,rfl⟩|⟨_,hj⟩
    · exact h.MB i fr hi hu
    · exact h.MB j f hj DR
  · rw [hz]
    have pre:∀{j:Nat} {f:Fr},(p.l.set i {fr with cY:=false})[j]?=some f→∃f0,p.l[j]?=some f0∧f0.at_=f.at_:=fun {j f} hj=>by
      rcases lD hj with ⟨rfl,rfl⟩|⟨_,hj⟩
      · exact ⟨fr,hi,rfl⟩
      · exact ⟨f,hj,rfl⟩
    obtain ⟨f0,h1,e1⟩:=pre hj
    obtain ⟨g0,h2,e2⟩:=pre hj'
    rw [←e1,←e2];exact h.apart j j' f0 g0 h1 h2 hne
  · intro k k' id h1 h2
    rcases WD k id h1 with ⟨e1,g1⟩|⟨e1,_,_,g1⟩<;>rcases WD k' id h2 with ⟨e2,g2⟩|⟨e2,_,_,g2⟩
    · exact h.inj k k' id g1 g2
    · exact absurd g1 (g2 k e1)
    · exact absurd g2 (g1 k' e2)
    · rw [e1,e2]
  · intro k id h1
    rcases WD k id h1 with ⟨e1,g1⟩|⟨e1,g2,g3,g1⟩
    · rw [hm k id e1 g1];exact h.has k id g1
    · exact ⟨_,g2,g3⟩
  · intro k id h1
    rcases WD k id h1 with ⟨e1,g1⟩|⟨e1,g2,g3,g1⟩
    · exact h.cnt k id g1
    · rw [e1];exact h.Nl _ g3
  · rw [hz]
    rcases lD hj with ⟨rfl,rfl⟩|⟨_,hj⟩
    · exact h.fr i fr hi hu
    · exact h.fr j f hj DR
  · by_cases e:k=fr.k
    · subst e
      rcases hd with hd|⟨id,h1,h2,h3,_⟩
      · exact .inl hd
      · exact .inr ⟨id,h1,h2,h3⟩
    · have h1:=h.cl k fun j f hj DR B7=>by
        by_cases e2:i=j
        · subst e2;rw [hi] at hj;cases hj;exact absurd B7.symm e
        · exact hk j f (jW hj e2) DR B7
      rcases h1 with ⟨g1,g2⟩|⟨id,g1,g2,g3⟩
      · exact .inl ⟨(hb k e).trans g1,g2⟩
      · exact .inr ⟨id,(hb k e).trans g1,(hm k id e g1).trans g2,g3⟩
theorem Inv.B8 (h:Inv X p a s C D) {k:cW} (hno:an p.bm k=none) (hk:k∈D):(s.m.length:Int)<s.cap:=by
 have h1:(k::p.bm.map (·.1)).Nodup:=List.nodup_cons.2 ⟨fun hm=>(sL hm).elim fun v hv=>by (rw [hv] at hno;cases hno),h.O9⟩
 have h2:=Em (m:=D) h1 fun x hx=>by
  rcases List.mem_cons.1 hx with hx|hx
  · rw [hx];exact hk
  · obtain ⟨v,hv⟩:=sL hx
    exact h.cnt x v hv
 have h3:=h.yh
 have h4:=h.num
 simp at h2
 omega
structure KY (p p1:kR) (i:Nat) (fr:Fr):Prop where
 ex:∃fr':Fr,p1.l=p.l.set i fr'∧fr'.at_=fr.at_∧fr'.k=fr.k∧fr'.used=fr.used∧(fr'.used=true→fr'.cY=false)
 qY:p1.qY=p.qY
theorem KZ {α:Type} {l:List α} {i:Nat} {x:α} (h:l[i]?=some x):l.set i x=l:=by
 apply List.ext_getElem?
 intro j
 rw [List.getElem?_set]
 by_cases e:i=j
 · subst e;rw [if_pos rfl,if_pos (List.getElem?_eq_some_iff.1 h).1,h]
 · rw [if_neg e]
theorem Inv.save (h:Inv X p a s C D) (hi:p.l[i]?=some fr) {g:kR×kE×Nat} (hs:wL p a s i fr g):g.2.2=0∧Inv X g.1 a g.2.1 C D∧KY p g.1 i fr∧g.2.1.size=s.size∧g.2.1.cap=s.cap:=by
 have hsame:KY p {p with l:=p.l.set i {fr with cY:=false}} i fr:=⟨⟨_,rfl,rfl,rfl,rfl,fun _=>rfl⟩,rfl⟩
 have hst:=h.ok.st
 cases hs with
 |clean hc=>exact ⟨rfl,h,⟨⟨fr,(KZ hi).symm,rfl,rfl,rfl,fun hu=>by cases hd:fr.cY with|false=>rfl|true=>exact absurd ⟨hu,hd⟩ hc⟩,rfl⟩,rfl,rfl⟩
 | zero DS hz=>
  have hfr:=h.fr i fr hi DS.1
  rw [hfr] at hz
  unfold oe
  show (match an p.bm fr.k with|none=>_|some id=>_:kR×kE×Nat).2.2=0∧_
  cases hb:an p.bm fr.k with
  |none=>
   simp only [kR.z5,hb]
   exact ⟨trivial,h.Nm hi DS.1 hst rfl rfl rfl h.O9 h.num (fun _ _=>rfl) (fun _ _ _ _=>rfl) (.inl ⟨hb,hz⟩),hsame,trivial,trivial⟩
  |some id=>
   obtain ⟨l,hl,_⟩:=h.has _ _ hb
   obtain ⟨k,hk⟩:=Ic h.nf hl
   simp only [kR.z5,hb,hk]
   refine ⟨trivial,h.Nm hi DS.1 hst.free rfl rfl rfl (tX _ h.O9) ?_ (fun k' hk'=> ?_) (fun k' id' hk' Ig=> ?_) (.inl ⟨?_,hz⟩),⟨⟨_,rfl,rfl,rfl,rfl,fun _=>rfl⟩,rfl⟩,trivial,trivial⟩
   · have h1:=z6 hb;have h2:=z6 hl;have h3:=h.num
     show (jc p.bm fr.k).length=(jc s.m id).length
     omega
   · rw [lN _ _ h.O9,if_neg (fun e=>hk' e.symm)]
   · show an (jc s.m id) id'=_
     rw [lN _ _ hst.nodup,if_neg (fun e:id=id'=>hk' (h.inj k' fr.k id (e▸Ig) hb))]
   · rw [lN _ _ h.O9,if_pos rfl]
 |has DS hz id hid=>
  have hfr:=h.fr i fr hi DS.1
  obtain ⟨l,hl,_⟩:=h.has _ _ hid
  have oY:(a.get fr.at_ s.size).length=s.size:=z7 (h.place hi)
  obtain ⟨k,hk⟩:=wS h.nf hl oY
  rw [hk]
  refine ⟨rfl,h.Nm hi DS.1 (hst.write oY) rfl rfl rfl h.O9 ?_ (fun _ _=>rfl) (fun k' id' hk' Ig=> ?_) (.inr ⟨id,hid, ?_,hfr▸hz,fun k' hk' hb=>hk' (h.inj k' fr.k id hb hid)⟩),hsame,rfl,rfl⟩
  · have h2:=congrArg List.length (nE id (a.get fr.at_ s.size) s.m)
    simp at h2
    show p.bm.length=(fA s.m id (a.get fr.at_ s.size)).length
    rw [h2];exact h.num
  · show an (fA s.m id _) id'=_
    rw [nD _ _ hl,if_neg (fun e:id=id'=>hk' (h.inj k' fr.k id (e▸Ig) hid))]
  · show an (fA s.m id _) id=_
    rw [nD _ _ hl,if_pos rfl,hfr]
 |full DS hz hid ga RG he=>
  have hfr:=h.fr i fr hi DS.1
  obtain ⟨id,k,pk,_,rfl⟩:=wT h.nf (h.B8 hid (h.Nl _ (hfr▸hz))) RG
  exact absurd rfl he
 | new DS hz hid ga RG he=>
  have hfr:=h.fr i fr hi DS.1
  have oY:(a.get fr.at_ s.size).length=s.size:=z7 (h.place hi)
  have hso:=(hst.alloc RG).1
  obtain ⟨id,k,pk,hno,rfl⟩:=wT h.nf (h.B8 hid (h.Nl _ (hfr▸hz))) RG
  have je:an (s.m++[(id,List.replicate s.size (0:UInt8))]) id=some (List.replicate s.size 0):=by rw [jV _ _ _ _ hno,if_pos rfl]
  obtain ⟨k2,hk2⟩:=wS (s:={s with ops:=k,m:=s.m++[(id,List.replicate s.size 0)],wF:=pk}) h.nf je oY
  have M6:∀k' id',an p.bm k'=some id'→id'≠id:=fun k' id' h1 e=>by
   obtain ⟨l,hl,_⟩:=h.has k' id' h1
   rw [e,hno] at hl;cases hl
  rw [hk2,l5 _ hid]
  refine ⟨rfl,h.Nm hi DS.1 (hso.write oY) rfl rfl rfl (wP h.O9 hid) ?_ (fun k' hk'=> ?_) (fun k' id' hk' Ig=> ?_) (.inr ⟨id, ?_, ?_,hfr▸hz,fun k' hk' hb=>M6 _ _ hb rfl⟩),⟨⟨_,rfl,rfl,rfl,rfl,fun _=>rfl⟩,rfl⟩,rfl,rfl⟩
  · have h2:=congrArg List.length (nE id (a.get fr.at_ s.size) (s.m++[(id,List.replicate s.size (0:UInt8))]))
    have h3:=h.num
    simp at h2
    show (p.bm++[(fr.k,id)]).length=(fA (s.m++[(id,List.replicate s.size (0:UInt8))]) id (a.get fr.at_ s.size)).length
    rw [h2];simp;exact h3
  · rw [jV _ _ _ _ hid,if_neg (fun e=>hk' e.symm)]
  · show an (fA (s.m++[(id,List.replicate s.size (0:UInt8))]) id (a.get fr.at_ s.size)) id'=_
    rw [nD _ _ je,if_neg (fun e=>M6 k' id' Ig e.symm),jV _ _ _ _ hno,if_neg (fun e=>M6 k' id' Ig e.symm)]
  · rw [jV _ _ _ _ hid,if_pos rfl]
  · show an (fA (s.m++[(id,List.replicate s.size (0:UInt8))]) id (a.get fr.at_ s.size)) id=_
    rw [nD _ _ je,if_pos rfl,hfr]
structure Es (f g:Fr):Prop where
 at_:g.at_=f.at_
 k:g.k=f.k
 used:g.used=f.used
 cY:g.cY=f.cY
theorem Inv.Pa (h:Inv X p a s C D) {l':List Fr} {hd:Nat} (hn:l'.length=p.l.length) (h1:∀(j:Nat) (f:Fr),l'[j]?=some f→∃g,p.l[j]?=some g∧Es f g) (h2:∀(j:Nat) (g:Fr),p.l[j]?=some g→∃f,l'[j]?=some f∧Es f g) (hh:hd<X.n):Inv X {p with l:=l',hand:=hd} a s C D:=by
 refine {h with ok:=⟨by rw [←h.ok.n];exact hn,h.ok.pos,h.ok.most,hh,fun f hf=> ?_,h.ok.ar,h.ok.st⟩,SM:=fun k i hk=> ?_,MB:=fun j f hj hu=> ?_,apart:=fun j j' f f' hj hj' hne=> ?_,fr:=fun j f hj hu=> ?_,cl:=fun k hk=>h.cl k fun j g hj hu RI=> ?_}
 · obtain ⟨j,hj⟩:=List.mem_iff_getElem?.1 hf
   obtain ⟨g,hg,e⟩:=h1 j f hj
   rw [←e.at_];exact h.ok.room g (List.mem_of_getElem? hg)
 · obtain ⟨j,g,e,hj,hu,RI⟩:=h.SM k i hk
   obtain ⟨f,hf,e2⟩:=h2 j g hj
   exact ⟨j,f,e,hf,e2.used▸hu,e2.k▸RI⟩
 · obtain ⟨g,hg,e⟩:=h1 j f hj
   rw [←e.k];exact h.MB j g hg (e.used.trans hu)
 · obtain ⟨g,hg,e⟩:=h1 j f hj
   obtain ⟨g',hg',e'⟩:=h1 j' f' hj'
   rw [←e.at_,←e'.at_];exact h.apart j j' g g' hg hg' hne
 · obtain ⟨g,hg,e⟩:=h1 j f hj
   rw [←e.k,←e.at_];exact h.fr j g hg (e.used.trans hu)
 · obtain ⟨f,hf,e⟩:=h2 j g hj
   rw [e.cY];exact hk j f hf (e.used▸hu) (e.k▸RI)
theorem pR {f g:Fr} (h:rF g=rF f):Es f g:=by
 unfold rF at h
 cases f;cases g
 simp only [Fr.mk.injEq] at h
 exact ⟨h.1,h.2.1,h.2.2.1,h.2.2.2.2⟩
theorem Inv.vic (h:Inv X p a s C D) {p1:kR} (hv:tV X p p1):Inv X p1 a s C D:=by
 rw [hv.rest]
 have hl:=hv.l
 refine h.Pa (by rw [hv.len,h.ok.n]) (fun j f hj=> ?_) (fun j g hj=> ?_) hv.hand
 · have:=congrArg (fun l=>l[j]?) hl
   simp only [List.getElem?_map,hj,Option.map_some] at this
   cases hg:p.l[j]? with
   |none=>rw [hg] at this;cases this
   |some g=>rw [hg] at this;simp only [Option.map_some,Option.some.injEq] at this;exact ⟨g,rfl,pR this.symm⟩
 · have:=congrArg (fun l=>l[j]?) hl
   simp only [List.getElem?_map,hj,Option.map_some] at this
   cases hg:p1.l[j]? with
   |none=>rw [hg] at this;cases this
   |some f=>rw [hg] at this;simp only [Option.map_some,Option.some.injEq] at this;exact ⟨f,rfl,pR this.symm⟩
theorem Inv.seen (h:Inv X p a s C D) (hi:p.l[i]?=some fr):Inv X {p with l:=p.l.set i {fr with seen:=true}} a s C D:=
 h.Pa (hd:=p.hand) (by simp) (fun j f hj=>by
  rcases lD hj with ⟨rfl,rfl⟩|⟨_,hj⟩
  · exact ⟨fr,hi,rfl,rfl,rfl,rfl⟩
  · exact ⟨f,hj,rfl,rfl,rfl,rfl⟩) (fun j g hj=>by
  by_cases e:i=j
  · subst e;rw [hi] at hj;cases hj;exact ⟨_,iL hi,rfl,rfl,rfl,rfl⟩
  · exact ⟨g,jW hj e,rfl,rfl,rfl,rfl⟩) h.ok.hand
theorem Inv.Qj (h:Inv X p a s C D) (hi:p.l[i]?=some fr) {f':Fr} (tK:f'.at_=fr.at_) {a':eO} {C':Cont} {inm':List (cW×Int)} (har:eg X.Y a') (hlen:∀k,(C' k).length=s.size) (hK:(inm'.map (·.1)).Nodup)
    (hin:∀k,an inm' k=if f'.used=true∧f'.k=k then some (i:Int) else if fr.used=true∧fr.k=k then none else an p.qY k)
    (hnew:f'.used=true→(fr.used=true∧fr.k=f'.k)∨an p.qY f'.k=none)
    (HL:∀(j:Nat) (f:Fr),p.l[j]?=some f→i≠j→a'.get f.at_ s.size=a.get f.at_ s.size) (hfr:f'.used=true→a'.get fr.at_ s.size=C' f'.k)
    (hC:∀k,k≠fr.k→k≠f'.k→C' k=C k) (hnz:∀k,¬ej (C' k)→k∈D) (hCo:∀(j:Nat) (f:Fr),p.l[j]?=some f→i≠j→f.used=true→C' f.k=C f.k)
    (o6:∀k,(k=fr.k∨k=f'.k)→(∀(j:Nat) (f:Fr),(p.l.set i f')[j]?=some f→f.used=true→f.k=k→f.cY=false)→(an p.bm k=none∧ej (C' k))∨∃id,an p.bm k=some id∧an s.m id=some (C' k)∧¬ej (C' k)):
    Inv X {p with l:=p.l.set i f',qY:=inm'} a' s C' D:=by
  refine ⟨⟨by simpa using h.ok.n,h.ok.pos,h.ok.most,h.ok.hand,fun f hf=> ?_,har,h.ok.st⟩,h.WC,h.nf,hlen,hK,fun k j hk=> ?_,fun j f hj hu=> ?_,fun j j' f g hj hj' hne=> ?_,h.O9,h.inj,h.num,h.has,h.cnt,h.yh,hnz,fun j f hj hu=> ?_,fun k hk=> ?_⟩
  · obtain ⟨j,hj⟩:=List.mem_iff_getElem?.1 hf
    rcases lD hj with ⟨rfl,rfl⟩|⟨_,hj⟩
    · rw [tK];exact h.ok.room fr (List.mem_of_getElem? hi)
    · exact h.ok.room f (List.mem_of_getElem? hj)
  · have hk':an inm' k=some j:=hk
    rw [hin k] at hk'
    by_cases e1:f'.used=true∧f'.k=k
    · rw [if_pos e1] at hk';cases hk'
      exact ⟨i,f',rfl,iL hi,e1.1,e1.2⟩
    · rw [if_neg e1] at hk'
      by_cases e2:fr.used=true∧fr.k=k
      · rw [if_pos e2] at hk';cases hk'
      · rw [if_neg e2] at hk'
        obtain ⟨j',f,e,hj,hu,B7⟩:=h.SM k j hk'
        by_cases e3:i=j'
        · subst e3;rw [hi] at hj;cases hj;exact absurd ⟨hu,B7⟩ e2
        · exact ⟨j',f,e,jW hj e3,hu,B7⟩
  · show an inm' f.k=some (j:Int)
    rcases lD hj with ⟨rfl,rfl⟩|⟨hne,hj⟩
    · rw [hin,if_pos ⟨hu,rfl⟩]
    · have h3:=h.MB j f hj hu
      have e2:¬(fr.used=true∧fr.k=f.k):=fun e=>by
        have h4:=h.MB i fr hi e.1
        rw [e.2,h3] at h4
        have h5:(j:Int)=(i:Int):=Option.some.inj h4
        omega
      rw [hin,if_neg,if_neg e2,h3]
      intro e
      rcases hnew e.1 with h4|h4
      · exact e2 ⟨h4.1,h4.2.trans e.2⟩
      · rw [e.2,h3] at h4;cases h4
  · have pre:∀{j:Nat} {f:Fr},(p.l.set i f')[j]?=some f→∃f0,p.l[j]?=some f0∧f0.at_=f.at_:=fun {j f} hj=>by
      rcases lD hj with ⟨rfl,rfl⟩|⟨_,hj⟩
      · exact ⟨fr,hi,tK.symm⟩
      · exact ⟨f,hj,rfl⟩
    obtain ⟨f0,h1,e1⟩:=pre hj
    obtain ⟨g0,h2,e2⟩:=pre hj'
    rw [←e1,←e2];exact h.apart j j' f0 g0 h1 h2 hne
  · rcases lD hj with ⟨rfl,rfl⟩|⟨hne,hj⟩
    · rw [tK];exact hfr hu
    · rw [HL j f hj hne,h.fr j f hj hu,hCo j f hj hne hu]
  · by_cases e:k=fr.k∨k=f'.k
    · exact o6 k e hk
    · rw [not_or] at e
      rw [hC k e.1 e.2]
      exact h.cl k fun j f hj hu B7=>by
        by_cases e2:i=j
        · subst e2;rw [hi] at hj;cases hj;exact absurd B7.symm e.1
        · exact hk j f (jW hj e2) hu B7
theorem Inv.SN (h:Inv X p a s C D) (hi:p.l[i]?=some fr) (hu:fr.used=true) (hd:fr.cY=false):Inv X {p with l:=p.l.set i {fr with used:=false},qY:=jc p.qY fr.k} a s C D:=
 h.Qj (f':={fr with used:=false}) hi rfl h.ok.ar h.yg (tX _ h.RH) (fun k=>by rw [lN _ _ h.RH];simp [hu]) (fun e=>by cases e) (fun _ _ _ _=>rfl) (fun e=>by cases e) (fun _ _ _=>rfl) h.Nl (fun _ _ _ _ _=>rfl)
  (fun k hk o6=>h.cl k fun j f hj DR B7=>by
   by_cases e:i=j
   · subst e;rw [hi] at hj;cases hj;exact hd
   · exact o6 j f (jW hj e) DR B7)
theorem Inv.load (h:Inv X p a s C D) (hi:p.l[i]?=some fr) (hu:fr.used=false) {k:cW} (hk:an p.qY k=none):
    Inv X {p with l:=p.l.set i ⟨fr.at_,k,true,false,false⟩,qY:=fk p.qY k (i:Int)} (a.put fr.at_ (C k)) s C D:=by
  have qM:=h.place hi
  have oY:=h.yg k
  have WE:=h.ok.room fr (List.mem_of_getElem? hi)
  refine h.Qj (f':=⟨fr.at_,k,true,false,false⟩) hi rfl (h.ok.ar.put (by omega)) h.yg ?_ (fun k'=> ?_) (fun _=> .inr hk) (fun j f hj hne=> ?_) (fun _=> ?_) (fun _ _ _=>rfl) h.Nl (fun _ _ _ _ _=>rfl) (fun k' _ o6=> ?_)
  · rw [l5 _ hk];exact wP h.RH hk
  · rw [l5 _ hk,jV _ _ _ _ hk];simp [hu]
  · refine pQ (by omega) ?_
    rcases h.apart i j fr f hi hj hne with h1|h1
    · right;omega
    · left;omega
  · have:=wU (a:=a) (x:=fr.at_) (o:=0) (n:=s.size) (ys:=C k) qM (by omega)
    rw [Nat.add_zero] at this
    rw [this,List.take_zero,List.nil_append,Nat.zero_add,List.drop_of_length_le (by rw [z7 qM];omega),List.append_nil]
  · exact h.cl k' fun j f hj DR B7=>by
      by_cases e:i=j
      · subst e;rw [hi] at hj;cases hj;rw [hu] at DR;cases DR
      · exact o6 j f (jW hj e) DR B7
def rG (C:Cont) (k:cW) (l:List UInt8):Cont:=fun k'=>if k'=k then l else C k'
theorem Inv.write (h:Inv X p a s C D) (hi:p.l[i]?=some fr) (hu:fr.used=true) {o:Nat} {ys:List UInt8} (ho:o+ys.length≤s.size) (hD:fr.k∈D):
    Inv X {p with l:=p.l.set i {fr with cY:=true}} (a.put (fr.at_+o) ys) s (rG C fr.k (J6 (C fr.k) o ys)) D:=by
  have qM:=h.place hi
  have oY:=h.yg fr.k
  have WE:=h.ok.room fr (List.mem_of_getElem? hi)
  have hfr:=h.fr i fr hi hu
  refine h.Qj hi (f':={fr with cY:=true}) (inm':=p.qY) rfl (h.ok.ar.put (by omega)) (fun k'=> ?_) h.RH (fun k'=> ?_) (fun _=> .inl ⟨hu,rfl⟩) (fun j f hj hne=> ?_) (fun _=> ?_) (fun k' h1 _=> ?_) (fun k' hk'=> ?_) (fun j f hj hne DR=> ?_) (fun k' hk' o6=> ?_)
  · unfold rG;split
    · rw [z8 (by omega)];exact oY
    · exact h.yg k'
  · by_cases e:fr.k=k'
    · subst e;rw [if_pos ⟨hu,rfl⟩];exact h.MB i fr hi hu
    · rw [if_neg (fun x=>e x.2),if_neg (fun x=>e x.2)]
  · refine pQ (by omega) ?_
    rcases h.apart i j fr f hi hj hne with h1|h1
    · right;omega
    · left;omega
  · rw [wU qM ho,hfr]
    show _=rG C fr.k _ fr.k
    unfold rG;rw [if_pos rfl];rfl
  · unfold rG;rw [if_neg h1]
  · unfold rG at hk'
    by_cases e:k'=fr.k
    · rw [e];exact hD
    · rw [if_neg e] at hk';exact h.Nl k' hk'
  · unfold rG
    rw [if_neg]
    intro e
    have h1:=h.MB j f hj DR
    have h2:=h.MB i fr hi hu
    rw [e,h2] at h1
    have h3:(i:Int)=(j:Int):=Option.some.inj h1
    omega
  · have e:k'=fr.k:=hk'.elim id id
    have:=o6 i _ (iL hi) hu e.symm
    cases this
theorem Inv.SO (h:Inv X p a s C D) {k:cW} (hk:an p.qY k=none):(an p.bm k=none∧ej (C k))∨∃id,an p.bm k=some id∧an s.m id=some (C k)∧¬ej (C k):=
 h.cl k fun j f hj hu B7=>by
  have:=h.MB j f hj hu
  rw [B7,hk] at this;cases this
theorem Inv.unknown (h:Inv X p a s C D) {k:cW} (hk:¬Er p k):ej (C k):=by
 unfold Er at hk
 rw [not_or] at hk
 have h1:an p.qY k=none:=by cases hq:an p.qY k with|none=>rfl|some v=>(rw [hq] at hk;exact absurd rfl hk.1)
 have h2:an p.bm k=none:=by cases hq:an p.bm k with|none=>rfl|some v=>(rw [hq] at hk;exact absurd rfl hk.2)
 rcases h.SO h1 with h3|⟨id,h3,_⟩
 · exact h3.2
 · rw [h2] at h3;cases h3
def K0 (p:kR):Prop:=∀(j:Nat) (f:Fr),p.l[j]?=some f→f.used=true→f.cY=false
theorem Pb {κ ν:Type} [DecidableEq κ] {m:List (κ×ν)} {k:κ} (h:¬(an m k).isSome=true):an m k=none:=by cases hq:an m k with|none=>rfl|some v=>(rw [hq] at h;exact absurd rfl h)
theorem Inv.ops (h:Inv X p a s C D) (n:Int):Inv X p a {s with ops:=n} C D:=
 {h with ok:=⟨h.ok.n,h.ok.pos,h.ok.most,h.ok.hand,h.ok.room,h.ok.ar,h.ok.st.op rfl rfl rfl⟩}
end
def qN (X:od) (p:kR) (a:eO) (s:kE):List HP:=gu X p::l7 X p::Ep X p::rD X p::cS X.sb s::dS X.Y a
def Pc (k:cW):Prop:=0≤k.1∧0≤k.2∧k.2≤9223372036854775807
structure z9 (X:od) (z q:Nat) (T:kR→Prop) (p:kR) (a:eO) (s:kE) (C:Cont) (m:Nat):Prop where
 ex:∃D:List cW,D.length≤m∧(∀k∈D,Pc k)∧Inv X p a s C D
 sz:s.size=z
 cp:s.cap=(q:Int)
 Yu:T p
structure ek (X:od) (a a':eO):Prop where
 ok:eg X.Y a→eg X.Y a'
 get:eg X.Y a→∀y n,y+n≤X.lo∨X.hi≤y→a'.get y n=a.get y n
theorem ek.refl (X:od) (a:eO):ek X a a:=⟨id,fun _ _ _ _=>rfl⟩
theorem ek.trans {X:od} {a b c:eO} (h:ek X a b) (k:ek X b c):ek X a c:=⟨fun ho=>k.ok (h.ok ho),fun ho y n hy=>(k.get (h.ok ho) y n hy).trans (h.get ho y n hy)⟩
theorem ek.put {X:od} {a:eO} {x:Nat} {ys:List UInt8} (h1:X.lo≤x) (h2:x+ys.length≤X.hi) (h3:x+ys.length≤X.Y.size):ek X a (a.put x ys):=
 ⟨fun ho=>ho.put h3,fun ho y n hy=>pQ (by rw [ho.len];exact h3) (by omega)⟩
def rH (X:od) (R:eO→HP):Prop:=∀a a',eg X.Y a→ek X a a'→aB [R a] [R a']
def J7:eO→HP:=fun _=>jI []
theorem K1 (X:od):rH X J7:=fun _ _ _ _=>aB.refl _
def iM (X:od) (z q:Nat) (T:kR→Prop) (C:Cont) (m:Nat) (R:eO→HP):HP:=Su fun x:kR×eO×kE=>jI (kq (z9 X z q T x.1 x.2.1 x.2.2 C m)::(qN X x.1 x.2.1 x.2.2++[R x.2.1]))
variable {z:Nat} {C:Cont} {X:od} {q:Nat} {r:List HP} {m:Nat} {T:kR→Prop} {R:eO→HP}
theorem aM.Pd {P:Program} {Q:Exit→Act→World→Prop} {c:Ctx} {x:Code} {env:Env} (k:∀p a s,z9 X z q T p a s C m→aM P Q c x ((qN X p a s++[R a])++r) env):aM P Q c x (iM X z q T C m R::r) env:=
 aM.opens fun ⟨p,a,s⟩=>aM.own aB.unpack (aM.kq fun h=>k p a s h)
theorem aB.frame {a b:List HP} (h:aB a b):aB (a++r) (b++r):=fun F S w x=>by
 obtain ⟨F1,F2,h1,h2,h3,h4⟩:=cL.append.1 x
 exact cL.append.2 ⟨F1,F2,h1,h2,h _ _ _ h3,h4⟩
theorem aB.behind {a b:List HP} (h:aB a b):aB (r++a) (r++b):=fun F S w x=>by
 obtain ⟨F1,F2,h1,h2,h3,h4⟩:=cL.append.1 x
 exact cL.append.2 ⟨F1,F2,h1,h2,h3,h _ _ _ h4⟩
variable {p:kR}
theorem nF {a0:eO} (hR:rH X R) (h0:eg X.Y a0) (hs:ek X a0 a) (h:z9 X z q T p a s C m):aB ((qN X p a s++[R a0])++r) (iM X z q T C m R::r):=
 (aB.frame (aB.behind (hR a0 a h0 hs))).trans ((aB.pure h).trans ((aB.pack (l:=kq _::(qN X p a s++[R a]))).trans (aB.ex (f:=fun x:kR×eO×kE=>jI (kq (z9 X z q T x.1 x.2.1 x.2.2 C m)::(qN X x.1 x.2.1 x.2.2++[R x.2.1]))) (p,a,s))))
theorem sN {m':Nat} (hm:m≤m'):aB (iM X z q T C m R::r) (iM X z q T C m' R::r):=fun F S w ⟨F1,F2,h1,h2,⟨x,h3⟩,h4⟩=>
 ⟨F1,F2,h1,h2,⟨x,by
  obtain ⟨G1,G2,g1,g2,g3,g4⟩:=h3
  exact ⟨G1,G2,g1,g2,⟨⟨g3.ex.choose,Nat.le_trans g3.ex.choose_spec.1 hm,g3.ex.choose_spec.2⟩,g3.sz,g3.cp,g3.Yu⟩,g4⟩⟩,h4⟩
theorem Nn (h:z9 X z q T p a s C m):aB (qN X p a s++r) (iM X z q T C m J7::r):=
 aB.trans (aB.frame (show aB (qN X p a s) (qN X p a s++[J7 a]) from fun F S w x=>cL.append.2 ⟨F,fun _=>False,fun k hk=>⟨hk,id⟩,fun _ h=>h.elim,x,dQ _ _ _ trivial⟩)) (nF (K1 X) h.ex.choose_spec.2.2.ok.ar (ek.refl _ _) h)
def l8 (z:Nat) (k:cW) (at_ n:Int):Nat:=if k.1<0∨k.2<0 then 1 else if at_<0∨n<0∨(z:Int)<at_∨(z:Int)-at_<n then 2 else 0
theorem Ih {k:cW} {at_ n:Int} (h:l8 z k at_ n=0):0≤k.1∧0≤k.2∧0≤at_∧0≤n∧at_+n≤(z:Int):=by
 unfold l8 at h
 split at h
 · omega
 · split at h<;>omega
theorem z9.wrong (h:z9 X z q T p a s C m) (k:cW) (at_ n:Int):rE p s.size k at_ n=l8 z k at_ n:=by
 obtain ⟨D,_,_,hD⟩:=h.ex
 have hs:¬wJ p:=fun e=>e.elim (fun e=>by rw [hD.WC.2] at e;cases e) (fun e=>e hD.WC.1)
 unfold rE l8
 rw [if_neg hs,h.sz]
def pS (z:Nat) (C:Cont) (k:cW) (at_:Int) (ys:List UInt8):Cont:=if l8 z k at_ (ys.length:Int)=0 then rG C k (J6 (C k) at_.toNat ys) else C
theorem Ii {k:cW} (h:l=C k):rG C k l=C:=by
 funext k'
 unfold rG
 split
 · rename_i e;rw [h,e]
 · rfl
structure Pe (X:od) (p:kR) (a:eO) (s:kE) (C:Cont) (D:List cW) (k:cW) (g:kR×eO×kE×Nat):Prop where
 inv:Inv X g.1 g.2.1 g.2.2.1 C D
 size:g.2.2.1.size=s.size
 cap:g.2.2.1.cap=s.cap
 out:ek X a g.2.1
 fr:∃f:Fr,g.1.l[g.2.2.2]?=some f∧f.used=true∧f.k=k∧(an p.qY k=none→f.cY=false)
theorem getElem?_lt' {xs:List α} {k:Nat} (h:k<xs.length):∃x,xs[k]?=some x:=⟨xs[k],List.getElem?_eq_getElem h⟩
def Ij (b c:Nat) (j:Nat):List Fr:=(List.range j).map fun i=>⟨b+i*c,(0,0),false,false,false⟩
theorem qy (b c j:Nat):(Ij b c j).length=j:=by simp [Ij]
theorem K2 (b c j:Nat):Ij b c (j+1)=Ij b c j++[⟨b+j*c,(0,0),false,false,false⟩]:=by simp [Ij,List.range_succ]
theorem qz {b c:Nat} {f:Fr} (h:(Ij b c j)[i]?=some f):i<j∧f=⟨b+i*c,(0,0),false,false,false⟩:=by
 unfold Ij at h
 rw [List.getElem?_map] at h
 by_cases hi:i<j
 · rw [List.getElem?_range hi] at h;cases h;exact ⟨hi,rfl⟩
 · rw [List.getElem?_eq_none (by simp;omega)] at h;cases h
theorem GO:∀(k c n:Nat),n≤c*2^k→n≤vk k c n
 |0,c,n,h=>by simpa [vk] using h
 |k+1,c,n,h=>by
  unfold vk
  split
  · exact GO k (c*2) n (by rw [Nat.mul_assoc,←Nat.pow_succ'];exact h)
  · omega
theorem tZ (h:n≤4194304):n≤aR n:=by
 unfold aR
 rw [if_neg (by omega)]
 exact GO 19 16 n (by omega)
structure Pf (Y:yd) (a0 a:eO) (c j:Nat):Prop where
 ok:eg Y a
 hi:a.height=a0.height+j*c
 same:∀y n,y+n≤a0.height→a.get y n=a0.get y n
theorem Pf.take {Y:yd} {a0 a:eO} {n j:Nat} (h:Pf Y a0 a (aR n) j) (hn:n≤4194304) (hr:a0.height+(j+1)*aR n≤Y.size) {g:eO×Nat×Nat} (hg:g=qV Y.size a n):g.2.2=0∧g.2.1=a0.height+j*aR n∧Pf Y a0 g.1 (aR n) (j+1):=by
 have h1:=h.hi
 have h2:=h.ok.len
 have h3:=h.ok.live
 rw [Nat.add_mul,Nat.one_mul] at hr
 unfold qV at hg
 rw [if_neg (by omega),if_neg (by omega)] at hg
 subst hg
 refine ⟨rfl,h1,⟨?_, ?_,h.ok.most, ?_⟩, ?_,fun y m hy=> ?_⟩
 · show (a.bytes.take a.height++List.replicate (aR n) 0++a.bytes.drop (a.height+aR n)).length=Y.size
   simp;omega
 · show a.height+aR n≤Y.size;omega
 · show a.live+aR n≤a.height+aR n;omega
 · show a.height+aR n=a0.height+(j+1)*aR n
   rw [Nat.add_mul,Nat.one_mul,h1];omega
 · rw [←h.same y m hy]
   show ((a.bytes.take a.height++List.replicate (aR n) 0++a.bytes.drop (a.height+aR n)).drop y).take m=(a.bytes.drop y).take m
   apply List.ext_getElem?
   intro t
   simp only [List.getElem?_take,List.getElem?_drop,List.getElem?_append,List.length_append,List.length_take,List.length_replicate]
   by_cases h4:t<m
   · rw [if_pos h4,if_pos h4,if_pos (by omega),if_pos (by omega),if_pos (by omega)]
   · rw [if_neg h4,if_neg h4]
def y7 (z:Nat):Cont:=fun _=>List.replicate z 0
theorem K3 {enc:α→List VP}:aB r (av none n enc []::r):=fun F S w x=>⟨fun _=>False,F,fun _ h=>h.elim,fun _ h=>h,rfl,x⟩
theorem No {a0:eO} (hn:0<X.n) (hm:X.n≤64) (hz:z≤1024) (hq:q≤4096) (ha:Pf X.Y a0 a (aR z) X.n) (hlo:X.lo=a0.height) (hhi:X.hi=a0.height+X.n*aR z):z9 X z q K0 ⟨Ij a0.height (aR z) X.n,0,[],[],0,false⟩ a ⟨z,(q:Int),0,0,-1,false,[]⟩ (y7 z) 0:=by
 have hc:=tZ (n:=z) (by omega)
 have hh:=ha.ok.hi
 have WG:=ha.hi
 refine ⟨⟨[],Nat.le_refl _,fun k h=>(by cases h),⟨⟨qy _ _ _,hn,hm,hn,fun f hf=> ?_,ha.ok,⟨hz,by (show (q:Int)≤4096;omega),fun e he=>(by cases he),fun e he=>(by cases he),by (show ((0:Nat):Int)≤(q:Int);omega),List.nodup_nil⟩⟩,⟨rfl,rfl⟩,(show (-1:Int)<0 by decide),fun k=>(by simp [y7]),List.nodup_nil,fun k i h=>(by cases h),fun j f hj hu=> ?_,fun i j f g hi hj hne=> ?_,List.nodup_nil,fun k k' id h=>(by cases h),rfl,fun k id h=>(by cases h),fun k id h=>(by cases h),by (show ((0:Nat):Int)≤(q:Int);omega),fun k h=>absurd sM h,fun j f hj hu=> ?_,fun k _=> .inl ⟨rfl,sM⟩⟩⟩,rfl,rfl,fun j f hj hu=> ?_⟩
 · obtain ⟨j,hj⟩:=List.mem_iff_getElem?.1 hf
   obtain ⟨h1,rfl⟩:=qz hj
   have h2:(j+1)*aR z≤X.n*aR z:=Nat.mul_le_mul_right _ h1
   rw [Nat.add_mul,Nat.one_mul] at h2
   show (X.lo≤a0.height+j*aR z∧a0.height+j*aR z+z≤X.hi)∧a0.height+j*aR z+z≤X.Y.size
   omega
 · obtain ⟨_,rfl⟩:=qz hj;cases hu
 · obtain ⟨h1,rfl⟩:=qz hi
   obtain ⟨h2,rfl⟩:=qz hj
   show a0.height+i*aR z+z≤a0.height+j*aR z∨a0.height+j*aR z+z≤a0.height+i*aR z
   rcases Nat.lt_or_gt_of_ne hne with h3|h3
   · have h4:(i+1)*aR z≤j*aR z:=Nat.mul_le_mul_right _ h3
     rw [Nat.add_mul,Nat.one_mul] at h4;omega
   · have h4:(j+1)*aR z≤i*aR z:=Nat.mul_le_mul_right _ h3
     rw [Nat.add_mul,Nat.one_mul] at h4;omega
 · obtain ⟨_,rfl⟩:=qz hj;cases hu
 · obtain ⟨_,rfl⟩:=qz hj;cases hu
theorem Aa {T':kR→Prop} (hT:∀p,T p→T' p):aB (iM X z q T C m R::r) (iM X z q T' C m R::r):=fun F S w ⟨F1,F2,h1,h2,⟨x,h3⟩,h4⟩=>
 ⟨F1,F2,h1,h2,⟨x,by
  obtain ⟨G1,G2,g1,g2,g3,g4⟩:=h3
  exact ⟨G1,G2,g1,g2,⟨g3.ex,g3.sz,g3.cp,hT _ g3.Yu⟩,g4⟩⟩,h4⟩
theorem Inv.Np {D:List cW} (h:Inv X p a s C D) {fr:Fr} (hi:p.l[i]?=some fr) (k:cW):ek X a (a.put fr.at_ (C k)):=by
 have h1:=h.ok.room fr (List.mem_of_getElem? hi)
 have h2:=h.yg k
 exact ek.put (by omega) (by omega) (by omega)
theorem Nq {X:yd} {c:Nat} (h:X.size=n) (hn:n≤4194304):Pf X ⟨List.replicate n 0,0,0,[]⟩ ⟨List.replicate n 0,0,0,[]⟩ c 0:=
 ⟨⟨by rw [h];simp,Nat.zero_le _,by omega,Nat.le_refl _⟩,by simp,fun _ _ _=>rfl⟩
def js (z at_ n d:Nat):Nat:=min (n-d) (z-(at_+d)%z)
def eA (z at_ n:Nat):Nat→Nat
 |0=>0
 |j+1=>eA z at_ n j+js z at_ n (eA z at_ n j)
variable {at_:Nat} {d:Nat}
theorem K4 (hz:0<z) (h:d<n):0<js z at_ n d:=by
 have:=Nat.mod_lt (at_+d) hz
 unfold js;omega
theorem K5 (hz:0<z):(at_+d)%z+js z at_ n d≤z:=by
 have:=Nat.mod_lt (at_+d) hz
 unfold js;omega
theorem og (z at_ n:Nat):∀j,eA z at_ n j≤n
 |0=>Nat.zero_le _
 |j+1=>by
  have:=og z at_ n j
  unfold eA js;omega
theorem B9 {z at_ n:Nat} (hz:0<z):∀j,j≤eA z at_ n j∨eA z at_ n j=n
 |0=> .inl (Nat.zero_le _)
 |j+1=>by
  have hl:=og z at_ n j
  rcases B9 hz (at_:=at_) (n:=n) j with h|h
  · by_cases e:eA z at_ n j=n
    · right;show eA z at_ n j+js z at_ n (eA z at_ n j)=n;unfold js;omega
    · have:=K4 (at_:=at_) hz (show eA z at_ n j<n by omega)
      left;show j+1≤eA z at_ n j+js z at_ n (eA z at_ n j);omega
  · right;show eA z at_ n j+js z at_ n (eA z at_ n j)=n;unfold js;omega
theorem Ik (hz:0<z):∃N,eA z at_ n N=n∧∀j,j<N→eA z at_ n j<n:=by
 have hex:∃N,eA z at_ n N=n:=by
  refine ⟨n, ?_⟩
  have:=og z at_ n n
  rcases B9 hz (at_:=at_) (n:=n) n with h|h
  · omega
  · exact h
 have key:∀M,eA z at_ n M=n→∃N,eA z at_ n N=n∧∀j,j<N→eA z at_ n j<n:=by
  intro M
  induction M with
  |zero=>intro h;exact ⟨0,h,fun j hj=>absurd hj (Nat.not_lt_zero _)⟩
  |succ M ih=>
   intro h
   by_cases e:∃j,j≤M∧eA z at_ n j=n
   · obtain ⟨j,hj,hd⟩:=e
     have mono:∀t,eA z at_ n (j+t)=n:=by
      intro t
      induction t with
      |zero=>exact hd
      |succ t iht=>show eA z at_ n (j+t)+js z at_ n (eA z at_ n (j+t))=n;rw [iht];unfold js;omega
     have:=mono (M-j)
     rw [show j+(M-j)=M by omega] at this
     exact ih this
   · exact ⟨M+1,h,fun j hj=>by
      have:=og z at_ n j
      have:eA z at_ n j≠n:=fun hd=>e ⟨j,by omega,hd⟩
      omega⟩
 exact key _ hex.choose_spec
theorem Ca {z at_ n:Nat} (hz:0<z):∀j,eA z at_ n j<n→0<j→(at_+eA z at_ n j)%z=0∧(j-1)*z+1≤eA z at_ n j
 |0,_,h=>absurd h (Nat.lt_irrefl _)
 |j+1,h,_=>by
  have hl:=og z at_ n j
  have hm:=Nat.mod_lt (at_+eA z at_ n j) hz
  have hs:eA z at_ n (j+1)=eA z at_ n j+js z at_ n (eA z at_ n j):=rfl
  have hst:js z at_ n (eA z at_ n j)=z-(at_+eA z at_ n j)%z:=by unfold js at hs ⊢;omega
  have hdiv:=Nat.div_add_mod (at_+eA z at_ n j) z
  refine ⟨?_, ?_⟩
  · rw [hs,hst,←Nat.add_assoc]
    have:at_+eA z at_ n j+(z-(at_+eA z at_ n j)%z)=z*((at_+eA z at_ n j)/z+1):=by rw [Nat.mul_add,Nat.mul_one];omega
    rw [this];exact Nat.mul_mod_right _ _
  · rw [Nat.add_sub_cancel]
    rcases Nat.eq_zero_or_pos j with h0|h0
    · subst h0;rw [hs,hst,Nat.zero_mul];generalize (at_+eA z at_ n 0)%z=r at*;omega
    · obtain ⟨h1,h2⟩:=Ca (at_:=at_) (n:=n) hz j (by omega) h0
      rw [hs,hst,h1]
      have h6:j*z=(j-1)*z+z:=by rw [←Nat.succ_mul];congr 1;omega
      rw [h6];omega
theorem Il {N:Nat} (hz:0<z) (h:∀j,j<N→eA z at_ n j<n):N≤n/z+2:=by
 rcases Nat.lt_or_ge N 2 with h2|h2
 · exact Nat.le_trans (show N≤2 by omega) (Nat.le_add_left 2 _)
 · obtain ⟨_,h3⟩:=Ca hz (N-1) (h (N-1) (by omega)) (by omega)
   have h4:=h (N-1) (by omega)
   have h5:(N-2)*z≤n:=by rw [show N-1-1=N-2 by omega] at h3;omega
   have h6:N-2≤n/z:=(Nat.le_div_iff_mul_le hz).2 h5
   omega
theorem Im {a s:Nat} (hz:0<z) (h:a%z+s≤z) (hi:i<s):(a+i)/z=a/z∧(a+i)%z=a%z+i:=by
 have h1:=Nat.div_add_mod a z
 have h2:a+i=z*(a/z)+(a%z+i):=by omega
 have h3:(a%z+i)/z=0:=Nat.div_eq_of_lt (by omega)
 constructor
 · rw [h2,Nat.mul_add_div hz,h3,Nat.add_zero]
 · rw [h2,Nat.mul_add_mod,Nat.mod_eq_of_lt (by omega)]
variable {num:Int}
theorem uR {a s:Nat} (hn:0≤num) (hz:0<z) (h:a%z+s≤z):l8 z (num,((a/z:Nat):Int)) ((a%z:Nat):Int) (s:Int)=0:=by
 unfold l8
 generalize a/z=q at*
 generalize a%z=r at*
 rw [if_neg (by show ¬(num<0∨(q:Int)<0);omega),if_neg (by omega)]
def y8 (z:Nat) (C:Cont) (num:Int) (at_:Nat) (ys:List UInt8):Cont:=fun k=>if k.1=num∧0≤k.2 then (List.range z).map fun o=>if at_≤k.2.toNat*z+o∧k.2.toNat*z+o<at_+ys.length then ys.getD (k.2.toNat*z+o-at_) 0 else (C k).getD o 0 else C k
theorem GP (hC:∀k,(C k).length=z) (k:cW):(y8 z C num at_ ys k).length=z:=by
 unfold y8;split
 · simp
 · exact hC k
theorem Et:(List.range l.length).map (fun o=>l.getD o 0)=l:=by
 apply List.ext_getElem?
 intro i
 rw [List.getElem?_map]
 by_cases hi:i<l.length
 · rw [List.getElem?_range hi,List.getElem?_eq_getElem hi];simp [List.getD_eq_getElem?_getD,hi]
 · rw [List.getElem?_eq_none (by simp;omega),List.getElem?_eq_none (by omega)];rfl
theorem Nr (hC:∀k,(C k).length=z):y8 z C num at_ []=C:=by
 funext k
 unfold y8
 split
 · have:∀o,(if at_≤k.2.toNat*z+o∧k.2.toNat*z+o<at_+([]:List UInt8).length then ([]:List UInt8).getD (k.2.toNat*z+o-at_) 0 else (C k).getD o 0)=(C k).getD o 0:=fun o=>if_neg (by simp only [List.length_nil];omega)
   simp only [this]
   rw [←hC k];exact Et
 · rfl
theorem Eu {s:Nat} (hn:0≤num) (hz:0<z) (hC:∀k,(C k).length=z) (h:(at_+d)%z+s≤z) (hs:d+s≤ys.length):
    pS z (y8 z C num at_ (ys.take d)) (num,(((at_+d)/z:Nat):Int)) (((at_+d)%z:Nat):Int) ((ys.drop d).take s)=y8 z C num at_ (ys.take (d+s)):=by
  have hl:((ys.drop d).take s).length=s:=by simp;omega
  unfold pS
  rw [hl,if_pos (uR hn hz h)]
  have hd:=Nat.div_add_mod (at_+d) z
  have Mz:(at_+d)/z*z+(at_+d)%z=at_+d:=by rw [Nat.mul_comm];exact hd
  have je:(ys.take d).length=d:=by simp;omega
  have jB:(ys.take (d+s)).length=d+s:=by simp;omega
  have hg:∀t e,t<e→(ys.take e).getD t 0=ys.getD t 0:=fun t e ht=>by
    rw [List.getD_eq_getElem?_getD,List.getD_eq_getElem?_getD,List.getElem?_take,if_pos ht]
  funext k
  unfold rG
  by_cases hk:k=(num,(((at_+d)/z:Nat):Int))
  · rw [if_pos hk,hk]
    simp only [Int.toNat_natCast]
    have hw:=GP (num:=num) (at_:=at_) (ys:=ys.take d) hC (num,(((at_+d)/z:Nat):Int))
    apply List.ext_getElem?
    intro o
    by_cases ho:o<z
    · have e2:(y8 z C num at_ (ys.take (d+s)) (num,(((at_+d)/z:Nat):Int)))[o]?=some (if at_≤(at_+d)/z*z+o∧(at_+d)/z*z+o<at_+(d+s) then ys.getD ((at_+d)/z*z+o-at_) 0 else (C (num,(((at_+d)/z:Nat):Int))).getD o 0):=by
        unfold y8
        rw [if_pos ⟨rfl,Int.natCast_nonneg _⟩,List.getElem?_map,List.getElem?_range ho,jB]
        simp only [Option.map_some,Int.toNat_natCast,Option.some.injEq]
        split
        · rename_i hc;exact hg _ _ (by omega)
        · rfl
      have e1:(y8 z C num at_ (ys.take d) (num,(((at_+d)/z:Nat):Int)))[o]?=some (if at_≤(at_+d)/z*z+o∧(at_+d)/z*z+o<at_+d then ys.getD ((at_+d)/z*z+o-at_) 0 else (C (num,(((at_+d)/z:Nat):Int))).getD o 0):=by
        unfold y8
        rw [if_pos ⟨rfl,Int.natCast_nonneg _⟩,List.getElem?_map,List.getElem?_range ho,je]
        simp only [Option.map_some,Int.toNat_natCast,Option.some.injEq]
        split
        · rename_i hc;exact hg _ _ (by omega)
        · rfl
      rw [e2]
      unfold J6
      simp only [List.getElem?_append,List.length_append,List.length_take,hl,hw]
      by_cases o1:o<(at_+d)%z
      · rw [if_pos (by omega),if_pos (by omega),List.getElem?_take,if_pos o1,e1]
        congr 1
        by_cases c1:at_≤(at_+d)/z*z+o∧(at_+d)/z*z+o<at_+d
        · rw [if_pos c1,if_pos ⟨c1.1,by omega⟩]
        · rw [if_neg c1,if_neg (fun c2=>c1 ⟨c2.1,by omega⟩)]
      · by_cases o2:o<(at_+d)%z+s
        · rw [if_pos (by omega),if_neg (by omega),List.getElem?_take,if_pos (by omega),List.getElem?_drop,if_pos ⟨by omega,by omega⟩]
          rw [show d+(o-min ((at_+d)%z) z)=(at_+d)/z*z+o-at_ by omega]
          rw [List.getD_eq_getElem?_getD,List.getElem?_eq_getElem (by omega)];rfl
        · rw [if_neg (by omega),List.getElem?_drop]
          rw [show (at_+d)%z+s+(o-(min ((at_+d)%z) z+s))=o by omega,e1]
          congr 1
          rw [if_neg (by omega),if_neg (by omega)]
    · rw [List.getElem?_eq_none (by rw [z8 (by rw [hw,hl];exact h),hw];omega),List.getElem?_eq_none (by rw [GP hC];omega)]
  · rw [if_neg hk]
    unfold y8
    by_cases hc:k.1=num∧0≤k.2
    · rw [if_pos hc,if_pos hc]
      apply List.map_congr_left
      intro o ho
      have ho':=List.mem_range.1 ho
      have hne:k.2.toNat≠(at_+d)/z:=fun e=>hk (Prod.ext hc.1 (by show k.2=_;omega))
      have aX9:¬(at_+d≤k.2.toNat*z+o∧k.2.toNat*z+o<at_+d+s):=fun ⟨c1,c2⟩=>by
        have c3:(k.2.toNat*z+o)/z=k.2.toNat:=by rw [Nat.mul_comm,Nat.mul_add_div hz,Nat.div_eq_of_lt ho',Nat.add_zero]
        obtain ⟨i,hi⟩:∃i,k.2.toNat*z+o=at_+d+i:=⟨_,(Nat.add_sub_cancel' c1).symm⟩
        have c4:=(Im hz h (show i<s by omega)).1
        rw [hi,c4] at c3
        exact hne c3.symm
      rw [je,jB]
      by_cases c1:at_≤k.2.toNat*z+o∧k.2.toNat*z+o<at_+d
      · rw [if_pos c1,if_pos ⟨c1.1,by omega⟩,hg _ _ (by omega),hg _ _ (by omega)]
      · rw [if_neg c1,if_neg (by omega)]
    · rw [if_neg hc,if_neg hc]
theorem aM.Yv {P:Program} {Q:Exit→Act→World→Prop} {c:Ctx} {x:Code} {env:Env} {hs:List HP} (i:Nat) (hi:hs[i]?=some (iM X z q T C m R)) (k:(∀k,(C k).length=z)→aM P Q c x hs env):aM P Q c x hs env:=by
 intro a w hst
 obtain ⟨F1,_,⟨p,hp⟩⟩:=hst.2.2.choose_spec.choose_spec.2.1.get hi
 obtain ⟨G1,G2,g1,g2,g3,g4⟩:=hp
 obtain ⟨D,_,_,hI⟩:=g3.ex
 exact k (fun k=>by rw [hI.yg k];exact g3.sz) a w hst
end Go.Hl
end
