/-
  What the statement's proof leans on, several texts in one (packed by a program).
-/
import Derived.Test.YtpfobikpggmleaaGreatDoorSBJ
set_option linter.all false
set_option maxRecDepth 1000000
set_option maxHeartbeats 4000000
section
namespace Go.Hl
section maps
variable {κ ν:Type} [DecidableEq κ]
theorem dg(p:κ×ν)(D:List (κ×ν))(a:κ):aq (p::D) a=if p.1=a then some p.2 else aq D a:=by
 unfold aq;by_cases h:p.1=a
 · rw[List.find?_cons_of_pos (by simpa using h),if_pos h];rfl
 · rw[List.find?_cons_of_neg (by simpa using h),if_neg h]
theorem lS(k:κ)(v:ν)(b:κ):∀D:List (κ×ν),aq D k=none→aq (D++[(k,v)]) b=if k=b then some v else aq D b
 |[],_=>by rw[List.nil_append,dg]
 |p::D,h=>by
  rw[dg] at h;by_cases hp:p.1=k
  · rw[if_pos hp] at h;cases h
  · rw[if_neg hp] at h
    rw[List.cons_append,dg,lS k v b D h,dg];by_cases hb:p.1=b
    · rw[if_pos hb,if_pos hb,if_neg (fun e=>hp (hb.trans e.symm))]
    · rw[if_neg hb,if_neg hb]
theorem wI(p:κ×ν)(D:List (κ×ν))(a:κ):gf (p::D) a=if p.1=a then D else p::gf D a:=by
 unfold gf;rw[List.map_cons,List.findIdx?_cons];by_cases h:p.1=a
 · rw[if_pos (by simpa using h),if_pos h];rfl
 · rw[if_neg (by simpa using h),if_neg h]
   cases (D.map (·.1)).findIdx? (fun k=>decide (k=a))<;>rfl
theorem BL:∀{D:List (κ×ν)} {a:κ},a∉D.map (·.1)→aq D a=none
 |[],_,_=>rfl
 |p::D,a,h=>by
  rw[List.map_cons,List.mem_cons,not_or] at h;rw[dg,if_neg (fun e=>h.1 e.symm)];exact BL h.2
theorem rT:∀{D:List (κ×ν)} {a:κ},a∈D.map (·.1)→∃v,aq D a=some v
 |[],_,h=>by simp at h
 |p::D,a,h=>by
  rw[dg];by_cases hp:p.1=a
  · exact⟨p.2,if_pos hp⟩
  · rw[if_neg hp]
    rw[List.map_cons,List.mem_cons] at h;rcases h with h|h
    · exact absurd h.symm hp
    · exact rT h
theorem uc:∀{D:List (κ×ν)} {a:κ} {v:ν},aq D a=some v→(a,v)∈D
 |[],_,_,h=>by cases h
 |p::D,a,v,h=>by
  rw[dg] at h;by_cases hp:p.1=a
  · rw[if_pos hp] at h;cases h;subst hp;exact List.mem_cons_self
  · rw[if_neg hp] at h;exact List.mem_cons_of_mem _ (uc h)
theorem u6:∀{D:List (κ×ν)} {a:κ} {v:ν},(D.map (·.1)).Nodup→(a,v)∈D→aq D a=some v
 |[],_,_,_,h=>by cases h
 |p::D,a,v,hn,h=>by
  rw[List.map_cons,List.nodup_cons] at hn;rw[dg];rcases List.mem_cons.1 h with h|h
  · subst h;exact if_pos rfl
  · rw[if_neg (fun e:p.1=a=>hn.1 (List.mem_map.2 ⟨_,h,e.symm⟩)),u6 hn.2 h]
theorem iE:∀{D:List (κ×ν)} (a b:κ),(D.map (·.1)).Nodup→aq (gf D a) b=if a=b then none else aq D b
 |[],a,b,_=>by
  have:gf ([]:List (κ×ν)) a=[]:=rfl;rw[this];by_cases h:a=b<;>simp[h,aq]
 |p::D,a,b,hn=>by
  rw[List.map_cons,List.nodup_cons] at hn;rw[wI,dg];by_cases hp:p.1=a
  · rw[if_pos hp]
    by_cases hb:a=b
    · subst hb;rw[if_pos rfl];exact BL (hp▸hn.1)
    · rw[if_neg hb,if_neg (fun e=>hb (hp.symm.trans e))]
  · rw[if_neg hp,dg,iE a b hn.2]
    by_cases hb:p.1=b
    · rw[if_pos hb,if_pos hb,if_neg (fun e=>hp (hb.trans e.symm))]
    · rw[if_neg hb,if_neg hb]
theorem rU:∀(D:List (κ×ν)) (a:κ),List.Sublist (gf D a) D
 |[],a=>List.Sublist.refl _
 |p::D,a=>by
  rw[wI];by_cases hp:p.1=a
  · rw[if_pos hp];exact List.sublist_cons_self _ _
  · rw[if_neg hp];exact(rU D a).cons_cons p
theorem pI{D:List (κ×ν)}(a:κ)(h:(D.map (·.1)).Nodup):((gf D a).map (·.1)).Nodup:=h.sublist ((rU D a).map _)
theorem u7:∀{D:List (κ×ν)} {a:κ} {v:ν},aq D a=some v→(gf D a).length+1=D.length
 |[],_,_,h=>by cases h
 |p::D,a,v,h=>by
  rw[dg] at h;rw[wI];by_cases hp:p.1=a
  · rw[if_pos hp];rfl
  · rw[if_neg hp] at h ⊢
    rw[List.length_cons,List.length_cons,u7 h]
theorem zD{D:List (κ×ν)}{a:κ}{v:ν}(h:(D.map (·.1)).Nodup)(hl:aq D a=none):((D++[(a,v)]).map (·.1)).Nodup:=by
 rw[List.map_append,List.nodup_append];refine⟨h,by simp,fun x hx y hy e=>?_⟩;simp at hy;subst e;subst hy
 obtain⟨w,hw⟩:=rT hx;rw[hw] at hl;cases hl
end maps
theorem pJ{α:Type}{id:Int}(l:α)(b:Int):∀{E:List (Int×α)} {l0:α},aq E id=some l0→aq (gM E id l) b=if id=b then some l else aq E b
 |[],_,h=>by cases h
 |e::E,l0,h=>by
  rw[dg] at h;unfold gM;by_cases he:e.1=id
  · rw[if_pos he,dg,dg]
    by_cases hb:id=b
    · rw[if_pos (he.trans hb),if_pos hb]
    · rw[if_neg (fun x=>hb (he.symm.trans x)),if_neg hb,if_neg (fun x=>hb (he.symm.trans x))]
  · rw[if_neg he] at h ⊢
    rw[dg,pJ l b h,dg];by_cases hb:e.1=b
    · rw[if_pos hb,if_pos hb,if_neg (fun x=>he (hb.trans x.symm))]
    · rw[if_neg hb,if_neg hb]
theorem pK{α:Type}(id:Int)(l:α):∀E:List (Int×α),(gM E id l).map (·.1)=E.map (·.1)
 |[]=>rfl
 |e::E=>by
  unfold gM;by_cases he:e.1=id
  · rw[if_pos he];rfl
  · rw[if_neg he,List.map_cons,List.map_cons,pK id l E]
theorem zF{α:Type}{id:Int}{l:α}{x:Int×α}:∀{E:List (Int×α)},x∈gM E id l→x∈E∨(x.2=l∧∃y∈E,y.1=x.1)
 |[],h=>by cases h
 | e ::E,h=>by
  unfold gM at h;by_cases he:e.1=id
  · rw[if_pos he] at h
    rcases List.mem_cons.1 h with h|h
    · subst h;exact .inr ⟨rfl,e,List.mem_cons_self,rfl⟩
    · exact .inl (List.mem_cons_of_mem _ h)
  · rw[if_neg he] at h
    rcases List.mem_cons.1 h with h|h
    · subst h;exact .inl List.mem_cons_self
    · rcases zF h with h|⟨h,y,hy,h2⟩
      · exact .inl (List.mem_cons_of_mem _ h)
      · exact .inr ⟨h,y,List.mem_cons_of_mem _ hy,h2⟩
variable {s:jU}
theorem OO(h:s.fail<0):∃k,tY s=({s with ops:=k},true):=by
 refine⟨IntKind.i64.wrap (s.ops+1),?_⟩;unfold tY
 dsimp only
 rw[if_neg (by omega)]
variable {l:List UInt8} {id:Int}
theorem zG{r:Prop}[Decidable r](h:s.fail<0)(hl:aq s.m id=some l)(hr:r):∃k,fm s id r=({s with ops:=k},0):=by
 obtain⟨k,hk⟩:=OO h;exact⟨k,by rw[(CV (id:=id) (r:=r) (by rw[hl];simp) hr).1 (by rw[hk]),hk]⟩
variable {ys:List UInt8}
theorem zH(h:s.fail<0)(hl:aq s.m id=some l)(hy:ys.length=s.size):∃k,kU s id ys=({s with ops:=k,m:=gM s.m id ys},0):=by
 obtain⟨k,hk⟩:=zG (r:=ys.length=s.size) h hl hy;exact⟨k,by rw[BJ (by rw[hk]),hk]⟩
theorem BM(h:s.fail<0)(hl:aq s.m id=some l):∃k,tE s id=({s with ops:=k,m:=gf s.m id},0):=by
 obtain⟨k,hk⟩:=zG (r:=True) h hl trivial;exact⟨k,by rw[E3 (by rw[hk]),hk,EZ]⟩
theorem LX(h:s.fail<0)(hl:aq s.m id=some l):∃k,BI s id=({s with ops:=k},l,0):=by
 obtain⟨k,hk⟩:=zG (r:=True) h hl trivial;exact⟨k,by rw[E1 (by rw[hk]) hl,hk]⟩
theorem zI{g:jU×Int×Nat}(h:s.fail<0)(hm:(s.m.length:Int)<s.cap)(hg:zx s g):
    ∃(id k pk:Int),aq s.m id=none∧g=({s with ops:=k,m:=s.m++[(id,List.replicate s.size 0)],zq:=pk},id,0):=by
  obtain⟨k,hk⟩:=OO h;rcases hg with⟨h1,_⟩|⟨_,h2,_⟩|⟨_,_,id,_,hno,rfl⟩
  · rw[hk] at h1;cases h1
  · omega
  · rw[hk];exact⟨id,k,_,hno,rfl⟩
theorem qt.write(h:qt s){k:Int}(hy:ys.length=s.size):qt {s with ops:=k,m:=gM s.m id ys}:=
 ⟨h.size,h.cap,fun e he=>by
  rcases zF he with h1|⟨h1,_⟩
  · exact h.len e h1
  · rw[h1];exact hy,fun e he=>by
  rcases zF he with h1|⟨_,y,hy,h1⟩
  · exact h.keys e h1
  · rw[←h1];exact h.keys y hy,by
  have:=congrArg List.length (pK id ys s.m);simp at this
  show((gM s.m id ys).length:Int)≤s.cap
  rw[this];exact h.many,by
  show((gM s.m id ys).map (·.1)).Nodup
  rw[pK];exact h.nodup⟩
theorem qt.free(h:qt s){k:Int}:qt {s with ops:=k,m:=gf s.m id}:=
 ⟨h.size,h.cap,fun e he=>h.len e ((rU s.m id).subset he),fun e he=>h.keys e ((rU s.m id).subset he),by
  have:=(rU s.m id).length_le;have h2:=h.many
  show((gf s.m id).length:Int)≤s.cap
  omega,pI id h.nodup⟩
variable {n:Nat} {a:ej} {x:Nat} {o:Nat}
theorem ud(h:x+n≤a.bytes.length)(ho:o+ys.length≤n):(a.put (x+o) ys).get x n=(a.get x n).take o++ys++(a.get x n).drop (o+ys.length):=by
 unfold ej.put ej.get;apply List.ext_getElem?;intro j;simp only[List.getElem?_take,List.getElem?_drop,List.getElem?_append,List.length_append,List.length_take,List.length_drop];by_cases h1:j<n
 · rw [if_pos h1]
   by_cases h2:j<o
   · rw[if_pos (by omega),if_pos (by omega),if_pos (by omega),if_pos (by omega),if_pos (by omega),if_pos h2,if_pos (by omega)]
   · by_cases h3:j<o+ys.length
     · rw[if_pos (by omega),if_neg (by omega),if_pos (by omega),if_neg (by omega)]
       congr 1;omega
     · rw[if_neg (by omega),if_neg (by omega),if_pos (by omega)]
       congr 1;omega
 · rw[if_neg h1]
   by_cases h3:j<o+ys.length
   · omega
   · rw[if_neg (by omega),if_neg (by omega)]
theorem oC{y:Nat}(hx:x+ys.length≤a.bytes.length)(h:y+n≤x∨x+ys.length≤y):(a.put x ys).get y n=a.get y n:=by
 unfold ej.put ej.get;apply List.ext_getElem?;intro j;simp only[List.getElem?_take,List.getElem?_drop,List.getElem?_append,List.length_append,List.length_take,List.length_drop];by_cases h1:j<n
 · rw[if_pos h1,if_pos h1]
   rcases h with h|h
   · rw[if_pos (by omega),if_pos (by omega),if_pos (by omega)]
   · rw[if_neg (by omega)]
     congr 1;omega
 · rw[if_neg h1,if_neg h1]
theorem CY(h:x+n≤a.bytes.length):(a.get x n).length=n:=by
 unfold ej.get;simp;omega
variable {m:Nat}
theorem Rw(h:o+m≤n):a.get (x+o) m=((a.get x n).drop o).take m:=by
 unfold ej.get;apply List.ext_getElem?;intro j;simp only[List.getElem?_take,List.getElem?_drop];by_cases h1:j<m
 · rw[if_pos h1,if_pos h1,if_pos (by omega)];congr 1;omega
 · rw[if_neg h1,if_neg h1]
theorem dy.put{Y:ox}{a:ej}(h:dy Y a){x:Nat}{ys:List UInt8}(hx:x+ys.length≤Y.size):dy Y (a.put x ys):=
 ⟨by have:=h.len;show(a.bytes.take x++ys++a.bytes.drop (x+ys.length)).length=Y.size;simp;omega,h.hi,h.most,h.live⟩
def NU(l:List UInt8)(o:Nat)(ys:List UInt8):List UInt8:=l.take o++ys++l.drop (o+ys.length)
theorem CZ(h:o+ys.length≤l.length):(NU l o ys).length=l.length:=by unfold NU;simp;omega
theorem pL(h:dK l):l=List.replicate l.length 0:=List.eq_replicate_iff.2 ⟨rfl,h⟩
theorem kW:dK (List.replicate n 0):=fun x hx=>(List.mem_replicate.1 hx).2
theorem OP(hl:dK l)(hy:dK ys)(h:o+ys.length≤l.length):NU l o ys=l:=by
 have h2:dK (NU l o ys):=fun x hx=>by
  unfold NU at hx;rcases List.mem_append.1 hx with hx|hx
  · rcases List.mem_append.1 hx with hx|hx
    · exact hl x (List.mem_of_mem_take hx)
    · exact hy x hx
  · exact hl x (List.mem_of_mem_drop hx)
 rw[pL h2,CZ h];exact(pL hl).symm
variable {i:Nat} {α:Type} {j:Nat} {y:α}
theorem jE{l:List α}{x:α}(h:(l.set i x)[j]?=some y):(i=j∧y=x)∨(i≠j∧l[j]?=some y):=by
 rw[List.getElem?_set] at h;by_cases e:i=j
 · rw[if_pos e] at h
   by_cases h2:i<l.length
   · rw[if_pos h2] at h;cases h;exact .inl ⟨e,rfl⟩
   · rw[if_neg h2] at h;cases h
 · rw[if_neg e] at h;exact .inr ⟨e,h⟩
theorem jj{l:List α}{x:α}(h:l[i]?=some y):(l.set i x)[i]?=some x:=by
 simp[(List.getElem?_eq_some_iff.1 h).1]
theorem ko{l:List α}{x:α}(h:l[j]?=some y)(e:i≠j):(l.set i x)[j]?=some y:=by
 rw[List.getElem?_set,if_neg e];exact h
abbrev Cont:=bD→List UInt8
structure Inv(X:tF)(p:jQ)(a:ej)(s:jU)(C:Cont)(D:List bD):Prop where
 ok:OM X p a s
 Xd:p.fault=0∧p.closed=false
 nf:s.fail<0
 u9:∀k,(C k).length=s.size
 Rx:(p.oa.map (·.1)).Nodup
 UI:∀k i,aq p.oa k=some i→∃(j:Nat) (f:Fr),i=(j:Int)∧p.l[j]?=some f∧f.used=true∧f.k=k
 KA:∀(j:Nat) (f:Fr),p.l[j]?=some f→f.used=true→aq p.oa f.k=some (j:Int)
 apart:∀(i j:Nat) (f g:Fr),p.l[i]?=some f→p.l[j]?=some g→i≠j→f.at_+s.size≤g.at_∨g.at_+s.size≤f.at_
 NV:(p.bm.map (·.1)).Nodup
 inj:∀k k' id,aq p.bm k=some id→aq p.bm k'=some id→k=k'
 num:p.bm.length=s.m.length
 has:∀k id,aq p.bm k=some id→∃l,aq s.m id=some l∧¬dK l
 cnt:∀k id,aq p.bm k=some id→k∈D
 tG:(D.length:Int)≤s.cap
 OQ:∀k,¬dK (C k)→k∈D
 fr:∀(j:Nat) (f:Fr),p.l[j]?=some f→f.used=true→a.get f.at_ s.size=C f.k
 cl:∀k,(∀(j:Nat) (f:Fr),p.l[j]?=some f→f.used=true→f.k=k→f.dz=false)→(aq p.bm k=none∧dK (C k))∨∃id,aq p.bm k=some id∧aq s.m id=some (C k)∧¬dK (C k)
section
variable {X:tF} {p:jQ} {a:ej} {s:jU} {C:Cont} {D:List bD} {i:Nat} {fr:Fr}
theorem Inv.place(h:Inv X p a s C D)(hi:p.l[i]?=some fr):fr.at_+s.size≤a.bytes.length:=by
 have:=(h.ok.room fr (List.mem_of_getElem? hi)).2;rw[h.ok.ar.len];exact this
theorem Inv.less(h:Inv X p a s C D){D':List bD}(hs:∀k∈D,k∈D')(hf:(D'.length:Int)≤s.cap):Inv X p a s C D':=
 {h with cnt:=fun k id hk=>hs _ (h.cnt k id hk),tG:=hf,OQ:=fun k hk=>hs _ (h.OQ k hk)}
theorem Inv.Ry(h:Inv X p a s C D)(hi:p.l[i]?=some fr)(hu:fr.used=true){s':jU}{bm':List (bD×Int)}(hst:qt s')(hz:s'.size=s.size)(hc:s'.cap=s.cap)(hf:s'.fail=s.fail)
    (hk:(bm'.map (·.1)).Nodup) (hn:bm'.length=s'.m.length) (hb:∀k,k≠fr.k→aq bm' k=aq p.bm k) (hm:∀k id,k≠fr.k→aq p.bm k=some id→aq s'.m id=aq s.m id)
    (hd:(aq bm' fr.k=none∧dK (C fr.k))∨∃id,aq bm' fr.k=some id∧aq s'.m id=some (C fr.k)∧¬dK (C fr.k)∧∀k,k≠fr.k→aq p.bm k≠some id):
    Inv X {p with l:=p.l.set i {fr with dz:=false},bm:=bm'} a s' C D:=by
  have OR:∀k id,aq bm' k=some id→(k≠fr.k∧aq p.bm k=some id)∨(k=fr.k∧aq s'.m id=some (C fr.k)∧¬dK (C fr.k)∧∀k,k≠fr.k→aq p.bm k≠some id):=fun k id hk=>by
    by_cases e:k=fr.k
    · subst e
      rcases hd with⟨h1,_⟩|⟨id',h1,h2,h3,h4⟩
      · rw[h1] at hk;cases hk
      · rw[h1] at hk;cases hk;exact .inr ⟨rfl,h2,h3,h4⟩
    · exact .inl ⟨e,(hb k e)▸hk⟩
  refine⟨⟨by simpa using h.ok.n,h.ok.pos,h.ok.most,h.ok.hand,fun f hf'=>?_,h.ok.ar,hst⟩,h.Xd,hf▸h.nf,fun k=>hz▸h.u9 k,h.Rx,fun k j hk=>?_,fun j f hj uP=>?_,fun j j' f g hj hj' hne=>?_,hk,?_,hn,?_,?_,hc▸h.tG,h.OQ,fun j f hj uP=>?_,fun k hk=>?_⟩
  · obtain⟨j,hj⟩:=List.mem_iff_getElem?.1 hf'
    rcases jE hj with⟨rfl,rfl⟩|⟨_,hj⟩
    · exact hz▸h.ok.room fr (List.mem_of_getElem? hi)
    · exact hz▸h.ok.room f (List.mem_of_getElem? hj)
  · obtain⟨j',f,e,hj,uP,AU⟩:=h.UI k j hk
    by_cases e2:i=j'
    · subst e2
      rw[hi] at hj;cases hj
      exact⟨i,_,e,jj hi,uP,AU⟩
    · exact⟨j',f,e,ko hj e2,uP,AU⟩
  · rcases jE hj with⟨rfl,rfl⟩|⟨_,hj⟩
    · exact h.KA i fr hi hu
    · exact h.KA j f hj uP
  · rw[hz]
    have pre:∀{j:Nat} {f:Fr},(p.l.set i {fr with dz:=false})[j]?=some f→∃f0,p.l[j]?=some f0∧f0.at_=f.at_:=fun{j f} hj=>by
      rcases jE hj with⟨rfl,rfl⟩|⟨_,hj⟩
      · exact⟨fr,hi,rfl⟩
      · exact⟨f,hj,rfl⟩
    obtain⟨f0,h1,e1⟩:=pre hj;obtain⟨g0,h2,e2⟩:=pre hj';rw[←e1,←e2];exact h.apart j j' f0 g0 h1 h2 hne
  · intro k k' id h1 h2
    rcases OR k id h1 with⟨e1,g1⟩|⟨e1,_,_,g1⟩<;>rcases OR k' id h2 with⟨e2,g2⟩|⟨e2,_,_,g2⟩
    · exact h.inj k k' id g1 g2
    · exact absurd g1 (g2 k e1)
    · exact absurd g2 (g1 k' e2)
    · rw[e1,e2]
  · intro k id h1
    rcases OR k id h1 with⟨e1,g1⟩|⟨e1,g2,g3,g1⟩
    · rw[hm k id e1 g1];exact h.has k id g1
    · exact⟨_,g2,g3⟩
  · intro k id h1
    rcases OR k id h1 with⟨e1,g1⟩|⟨e1,g2,g3,g1⟩
    · exact h.cnt k id g1
    · rw[e1];exact h.OQ _ g3
  · rw[hz]
    rcases jE hj with⟨rfl,rfl⟩|⟨_,hj⟩
    · exact h.fr i fr hi hu
    · exact h.fr j f hj uP
  · by_cases e:k=fr.k
    · subst e
      rcases hd with hd|⟨id,h1,h2,h3,_⟩
      · exact .inl hd
      · exact .inr ⟨id,h1,h2,h3⟩
    · have h1:=h.cl k fun j f hj uP AU=>by
        by_cases e2:i=j
        · subst e2;rw[hi] at hj;cases hj;exact absurd AU.symm e
        · exact hk j f (ko hj e2) uP AU
      rcases h1 with⟨g1,g2⟩|⟨id,g1,g2,g3⟩
      · exact .inl ⟨(hb k e).trans g1,g2⟩
      · exact .inr ⟨id,(hb k e).trans g1,(hm k id e g1).trans g2,g3⟩
theorem Inv.E4(h:Inv X p a s C D){k:bD}(hno:aq p.bm k=none)(hk:k∈D):(s.m.length:Int)<s.cap:=by
 have h1:(k::p.bm.map (·.1)).Nodup:=List.nodup_cons.2 ⟨fun hm=>(rT hm).elim fun v hv=>by(rw[hv] at hno;cases hno),h.NV⟩
 have h2:=CQ (m:=D) h1 fun x hx=>by
  rcases List.mem_cons.1 hx with hx|hx
  · rw[hx];exact hk
  · obtain⟨v,hv⟩:=rT hx
    exact h.cnt x v hv
 have h3:=h.tG;have h4:=h.num;simp at h2;omega
structure OS(p p1:jQ)(i:Nat)(fr:Fr):Prop where
 ex:∃fr':Fr,p1.l=p.l.set i fr'∧fr'.at_=fr.at_∧fr'.k=fr.k∧fr'.used=fr.used∧(fr'.used=true→fr'.dz=false)
 oa:p1.oa=p.oa
theorem OT{α:Type}{l:List α}{i:Nat}{x:α}(h:l[i]?=some x):l.set i x=l:=by
 apply List.ext_getElem?;intro j;rw[List.getElem?_set];by_cases e:i=j
 · subst e;rw[if_pos rfl,if_pos (List.getElem?_eq_some_iff.1 h).1,h]
 · rw[if_neg e]
theorem Inv.save(h:Inv X p a s C D)(hi:p.l[i]?=some fr){g:jQ×jU×Nat}(hs:zz p a s i fr g):g.2.2=0∧Inv X g.1 a g.2.1 C D∧OS p g.1 i fr∧g.2.1.size=s.size∧g.2.1.cap=s.cap:=by
 have hsame:OS p {p with l:=p.l.set i {fr with dz:=false}} i fr:=⟨⟨_,rfl,rfl,rfl,rfl,fun _=>rfl⟩,rfl⟩;have hst:=h.ok.st;cases hs with
 |clean hc=>exact⟨rfl,h,⟨⟨fr,(OT hi).symm,rfl,rfl,rfl,fun hu=>by cases hd:fr.dz with|false=>rfl|true=>exact absurd ⟨hu,hd⟩ hc⟩,rfl⟩,rfl,rfl⟩
 | zero Hx hz=>
  have hfr:=h.fr i fr hi Hx.1;rw[hfr] at hz;unfold j6
  show(match aq p.bm fr.k with|none=>_|some id=>_:jQ×jU×Nat).2.2=0∧_
  cases hb:aq p.bm fr.k with
  |none=>
   simp only[jQ.CX,hb];exact⟨trivial,h.Ry hi Hx.1 hst rfl rfl rfl h.NV h.num (fun _ _=>rfl) (fun _ _ _ _=>rfl) (.inl ⟨hb,hz⟩),hsame,trivial,trivial⟩
  |some id=>
   obtain⟨l,hl,_⟩:=h.has _ _ hb;obtain⟨k,hk⟩:=BM h.nf hl;simp only[jQ.CX,hb,hk];refine⟨trivial,h.Ry hi Hx.1 hst.free rfl rfl rfl (pI _ h.NV) ?_ (fun k' hk'=>?_) (fun k' id' hk' E5=>?_) (.inl ⟨?_,hz⟩),⟨⟨_,rfl,rfl,rfl,rfl,fun _=>rfl⟩,rfl⟩,trivial,trivial⟩
   · have h1:=u7 hb;have h2:=u7 hl;have h3:=h.num
     show(gf p.bm fr.k).length=(gf s.m id).length
     omega
   · rw[iE _ _ h.NV,if_neg (fun e=>hk' e.symm)]
   · show aq (gf s.m id) id'=_
     rw[iE _ _ hst.nodup,if_neg (fun e:id=id'=>hk' (h.inj k' fr.k id (e▸E5) hb))]
   · rw[iE _ _ h.NV,if_pos rfl]
 |has Hx hz id hid=>
  have hfr:=h.fr i fr hi Hx.1;obtain⟨l,hl,_⟩:=h.has _ _ hid;have qY:(a.get fr.at_ s.size).length=s.size:=CY (h.place hi);obtain⟨k,hk⟩:=zH h.nf hl qY;rw[hk];refine⟨rfl,h.Ry hi Hx.1 (hst.write qY) rfl rfl rfl h.NV ?_ (fun _ _=>rfl) (fun k' id' hk' E5=>?_) (.inr ⟨id,hid,?_,hfr▸hz,fun k' hk' hb=>hk' (h.inj k' fr.k id hb hid)⟩),hsame,rfl,rfl⟩
  · have h2:=congrArg List.length (pK id (a.get fr.at_ s.size) s.m)
    simp at h2
    show p.bm.length=(gM s.m id (a.get fr.at_ s.size)).length
    rw[h2];exact h.num
  · show aq (gM s.m id _) id'=_
    rw[pJ _ _ hl,if_neg (fun e:id=id'=>hk' (h.inj k' fr.k id (e▸E5) hid))]
  · show aq (gM s.m id _) id=_
    rw[pJ _ _ hl,if_pos rfl,hfr]
 |full Hx hz hid ga V3 he=>
  have hfr:=h.fr i fr hi Hx.1;obtain⟨id,k,pk,_,rfl⟩:=zI h.nf (h.E4 hid (h.OQ _ (hfr▸hz))) V3;exact absurd rfl he
 | new Hx hz hid ga V3 he=>
  have hfr:=h.fr i fr hi Hx.1;have qY:(a.get fr.at_ s.size).length=s.size:=CY (h.place hi);have hso:=(hst.alloc V3).1;obtain⟨id,k,pk,hno,rfl⟩:=zI h.nf (h.E4 hid (h.OQ _ (hfr▸hz))) V3;have j7:aq (s.m++[(id,List.replicate s.size (0:UInt8))]) id=some (List.replicate s.size 0):=by rw[lS _ _ _ _ hno,if_pos rfl]
  obtain⟨k2,hk2⟩:=zH (s:={s with ops:=k,m:=s.m++[(id,List.replicate s.size 0)],zq:=pk}) h.nf j7 qY
  have LA:∀k' id',aq p.bm k'=some id'→id'≠id:=fun k' id' h1 e=>by
   obtain⟨l,hl,_⟩:=h.has k' id' h1;rw[e,hno] at hl;cases hl
  rw[hk2,kS _ hid];refine⟨rfl,h.Ry hi Hx.1 (hso.write qY) rfl rfl rfl (zD h.NV hid) ?_ (fun k' hk'=>?_) (fun k' id' hk' E5=>?_) (.inr ⟨id,?_,?_,hfr▸hz,fun k' hk' hb=>LA _ _ hb rfl⟩),⟨⟨_,rfl,rfl,rfl,rfl,fun _=>rfl⟩,rfl⟩,rfl,rfl⟩
  · have h2:=congrArg List.length (pK id (a.get fr.at_ s.size) (s.m++[(id,List.replicate s.size (0:UInt8))]))
    have h3:=h.num;simp at h2
    show(p.bm++[(fr.k,id)]).length=(gM (s.m++[(id,List.replicate s.size (0:UInt8))]) id (a.get fr.at_ s.size)).length
    rw[h2];simp;exact h3
  · rw[lS _ _ _ _ hid,if_neg (fun e=>hk' e.symm)]
  · show aq (gM (s.m++[(id,List.replicate s.size (0:UInt8))]) id (a.get fr.at_ s.size)) id'=_
    rw[pJ _ _ j7,if_neg (fun e=>LA k' id' E5 e.symm),lS _ _ _ _ hno,if_neg (fun e=>LA k' id' E5 e.symm)]
  · rw[lS _ _ _ _ hid,if_pos rfl]
  · show aq (gM (s.m++[(id,List.replicate s.size (0:UInt8))]) id (a.get fr.at_ s.size)) id=_
    rw[pJ _ _ j7,if_pos rfl,hfr]
structure H9(f g:Fr):Prop where
 at_:g.at_=f.at_
 k:g.k=f.k
 used:g.used=f.used
 dz:g.dz=f.dz
theorem Inv.TJ(h:Inv X p a s C D){l':List Fr}{hd:Nat}(hn:l'.length=p.l.length)(h1:∀(j:Nat) (f:Fr),l'[j]?=some f→∃g,p.l[j]?=some g∧H9 f g)(h2:∀(j:Nat) (g:Fr),p.l[j]?=some g→∃f,l'[j]?=some f∧H9 f g)(hh:hd<X.n):Inv X {p with l:=l',hand:=hd} a s C D:=by
 refine{h with ok:=⟨by rw[←h.ok.n];exact hn,h.ok.pos,h.ok.most,hh,fun f hf=>?_,h.ok.ar,h.ok.st⟩,UI:=fun k i hk=>?_,KA:=fun j f hj hu=>?_,apart:=fun j j' f f' hj hj' hne=>?_,fr:=fun j f hj hu=>?_,cl:=fun k hk=>h.cl k fun j g hj hu V4=>?_}
 · obtain⟨j,hj⟩:=List.mem_iff_getElem?.1 hf
   obtain⟨g,hg,e⟩:=h1 j f hj;rw[←e.at_];exact h.ok.room g (List.mem_of_getElem? hg)
 · obtain⟨j,g,e,hj,hu,V4⟩:=h.UI k i hk
   obtain⟨f,hf,e2⟩:=h2 j g hj;exact⟨j,f,e,hf,e2.used▸hu,e2.k▸V4⟩
 · obtain⟨g,hg,e⟩:=h1 j f hj
   rw[←e.k];exact h.KA j g hg (e.used.trans hu)
 · obtain⟨g,hg,e⟩:=h1 j f hj
   obtain⟨g',hg',e'⟩:=h1 j' f' hj';rw[←e.at_,←e'.at_];exact h.apart j j' g g' hg hg' hne
 · obtain⟨g,hg,e⟩:=h1 j f hj
   rw[←e.k,←e.at_];exact h.fr j g hg (e.used.trans hu)
 · obtain⟨f,hf,e⟩:=h2 j g hj
   rw[e.dz];exact hk j f hf (e.used▸hu) (e.k▸V4)
theorem rV{f g:Fr}(h:ua g=ua f):H9 f g:=by
 unfold ua at h;cases f;cases g
 simp only[Fr.mk.injEq] at h;exact⟨h.1,h.2.1,h.2.2.1,h.2.2.2.2⟩
theorem Inv.vic(h:Inv X p a s C D){p1:jQ}(hv:wH X p p1):Inv X p1 a s C D:=by
 rw[hv.rest];have hl:=hv.l;refine h.TJ (by rw[hv.len,h.ok.n]) (fun j f hj=>?_) (fun j g hj=>?_) hv.hand
 · have:=congrArg (fun l=>l[j]?) hl
   simp only[List.getElem?_map,hj,Option.map_some] at this;cases hg:p.l[j]? with
   |none=>rw[hg] at this;cases this
   |some g=>rw[hg] at this;simp only[Option.map_some,Option.some.injEq] at this;exact⟨g,rfl,rV this.symm⟩
 · have:=congrArg (fun l=>l[j]?) hl
   simp only[List.getElem?_map,hj,Option.map_some] at this;cases hg:p1.l[j]? with
   |none=>rw[hg] at this;cases this
   |some f=>rw[hg] at this;simp only[Option.map_some,Option.some.injEq] at this;exact⟨f,rfl,rV this.symm⟩
theorem Inv.seen(h:Inv X p a s C D)(hi:p.l[i]?=some fr):Inv X {p with l:=p.l.set i {fr with seen:=true}} a s C D:=
 h.TJ (hd:=p.hand) (by simp) (fun j f hj=>by
  rcases jE hj with⟨rfl,rfl⟩|⟨_,hj⟩
  · exact⟨fr,hi,rfl,rfl,rfl,rfl⟩
  · exact⟨f,hj,rfl,rfl,rfl,rfl⟩) (fun j g hj=>by
  by_cases e:i=j
  · subst e;rw[hi] at hj;cases hj;exact⟨_,jj hi,rfl,rfl,rfl,rfl⟩
  · exact⟨g,ko hj e,rfl,rfl,rfl,rfl⟩) h.ok.hand
theorem Inv.Rz(h:Inv X p a s C D)(hi:p.l[i]?=some fr){f':Fr}(wj:f'.at_=fr.at_){a':ej}{C':Cont}{inm':List (bD×Int)}(har:dy X.Y a')(hlen:∀k,(C' k).length=s.size)(hK:(inm'.map (·.1)).Nodup)
    (hin:∀k,aq inm' k=if f'.used=true∧f'.k=k then some (i:Int) else if fr.used=true∧fr.k=k then none else aq p.oa k)
    (hnew:f'.used=true→(fr.used=true∧fr.k=f'.k)∨aq p.oa f'.k=none)
    (Ly:∀(j:Nat) (f:Fr),p.l[j]?=some f→i≠j→a'.get f.at_ s.size=a.get f.at_ s.size) (hfr:f'.used=true→a'.get fr.at_ s.size=C' f'.k)
    (hC:∀k,k≠fr.k→k≠f'.k→C' k=C k) (hnz:∀k,¬dK (C' k)→k∈D) (hCo:∀(j:Nat) (f:Fr),p.l[j]?=some f→i≠j→f.used=true→C' f.k=C f.k)
    (qf:∀k,(k=fr.k∨k=f'.k)→(∀(j:Nat) (f:Fr),(p.l.set i f')[j]?=some f→f.used=true→f.k=k→f.dz=false)→(aq p.bm k=none∧dK (C' k))∨∃id,aq p.bm k=some id∧aq s.m id=some (C' k)∧¬dK (C' k)):
    Inv X {p with l:=p.l.set i f',oa:=inm'} a' s C' D:=by
  refine⟨⟨by simpa using h.ok.n,h.ok.pos,h.ok.most,h.ok.hand,fun f hf=>?_,har,h.ok.st⟩,h.Xd,h.nf,hlen,hK,fun k j hk=>?_,fun j f hj hu=>?_,fun j j' f g hj hj' hne=>?_,h.NV,h.inj,h.num,h.has,h.cnt,h.tG,hnz,fun j f hj hu=>?_,fun k hk=>?_⟩
  · obtain⟨j,hj⟩:=List.mem_iff_getElem?.1 hf
    rcases jE hj with⟨rfl,rfl⟩|⟨_,hj⟩
    · rw[wj];exact h.ok.room fr (List.mem_of_getElem? hi)
    · exact h.ok.room f (List.mem_of_getElem? hj)
  · have hk':aq inm' k=some j:=hk
    rw[hin k] at hk';by_cases e1:f'.used=true∧f'.k=k
    · rw[if_pos e1] at hk';cases hk'
      exact⟨i,f',rfl,jj hi,e1.1,e1.2⟩
    · rw[if_neg e1] at hk'
      by_cases e2:fr.used=true∧fr.k=k
      · rw[if_pos e2] at hk';cases hk'
      · rw[if_neg e2] at hk'
        obtain⟨j',f,e,hj,hu,AU⟩:=h.UI k j hk';by_cases e3:i=j'
        · subst e3;rw[hi] at hj;cases hj;exact absurd ⟨hu,AU⟩ e2
        · exact⟨j',f,e,ko hj e3,hu,AU⟩
  · show aq inm' f.k=some (j:Int)
    rcases jE hj with⟨rfl,rfl⟩|⟨hne,hj⟩
    · rw[hin,if_pos ⟨hu,rfl⟩]
    · have h3:=h.KA j f hj hu
      have e2:¬(fr.used=true∧fr.k=f.k):=fun e=>by
        have h4:=h.KA i fr hi e.1;rw[e.2,h3] at h4;have h5:(j:Int)=(i:Int):=Option.some.inj h4;omega
      rw[hin,if_neg,if_neg e2,h3];intro e;rcases hnew e.1 with h4|h4
      · exact e2 ⟨h4.1,h4.2.trans e.2⟩
      · rw[e.2,h3] at h4;cases h4
  · have pre:∀{j:Nat} {f:Fr},(p.l.set i f')[j]?=some f→∃f0,p.l[j]?=some f0∧f0.at_=f.at_:=fun{j f} hj=>by
      rcases jE hj with⟨rfl,rfl⟩|⟨_,hj⟩
      · exact⟨fr,hi,wj.symm⟩
      · exact⟨f,hj,rfl⟩
    obtain⟨f0,h1,e1⟩:=pre hj;obtain⟨g0,h2,e2⟩:=pre hj';rw[←e1,←e2];exact h.apart j j' f0 g0 h1 h2 hne
  · rcases jE hj with⟨rfl,rfl⟩|⟨hne,hj⟩
    · rw[wj];exact hfr hu
    · rw[Ly j f hj hne,h.fr j f hj hu,hCo j f hj hne hu]
  · by_cases e:k=fr.k∨k=f'.k
    · exact qf k e hk
    · rw[not_or] at e
      rw[hC k e.1 e.2]
      exact h.cl k fun j f hj hu AU=>by
        by_cases e2:i=j
        · subst e2;rw[hi] at hj;cases hj;exact absurd AU.symm e.1
        · exact hk j f (ko hj e2) hu AU
theorem Inv.Xe(h:Inv X p a s C D)(hi:p.l[i]?=some fr)(hu:fr.used=true)(hd:fr.dz=false):Inv X {p with l:=p.l.set i {fr with used:=false},oa:=gf p.oa fr.k} a s C D:=
 h.Rz (f':={fr with used:=false}) hi rfl h.ok.ar h.u9 (pI _ h.Rx) (fun k=>by rw[iE _ _ h.Rx];simp[hu]) (fun e=>by cases e) (fun _ _ _ _=>rfl) (fun e=>by cases e) (fun _ _ _=>rfl) h.OQ (fun _ _ _ _ _=>rfl)
  (fun k hk qf=>h.cl k fun j f hj uP AU=>by
   by_cases e:i=j
   · subst e;rw[hi] at hj;cases hj;exact hd
   · exact qf j f (ko hj e) uP AU)
theorem Inv.load(h:Inv X p a s C D)(hi:p.l[i]?=some fr)(hu:fr.used=false){k:bD}(hk:aq p.oa k=none):
    Inv X {p with l:=p.l.set i ⟨fr.at_,k,true,false,false⟩,oa:=eY p.oa k (i:Int)} (a.put fr.at_ (C k)) s C D:=by
  have rC:=h.place hi;have qY:=h.u9 k;have hrm:=h.ok.room fr (List.mem_of_getElem? hi);refine h.Rz (f':=⟨fr.at_,k,true,false,false⟩) hi rfl (h.ok.ar.put (by omega)) h.u9 ?_ (fun k'=>?_) (fun _=> .inr hk) (fun j f hj hne=>?_) (fun _=>?_) (fun _ _ _=>rfl) h.OQ (fun _ _ _ _ _=>rfl) (fun k' _ qf=>?_)
  · rw[kS _ hk];exact zD h.Rx hk
  · rw[kS _ hk,lS _ _ _ _ hk];simp[hu]
  · refine oC (by omega) ?_
    rcases h.apart i j fr f hi hj hne with h1|h1
    · right;omega
    · left;omega
  · have:=ud (a:=a) (x:=fr.at_) (o:=0) (n:=s.size) (ys:=C k) rC (by omega)
    rw[Nat.add_zero] at this;rw[this,List.take_zero,List.nil_append,Nat.zero_add,List.drop_of_length_le (by rw[CY rC];omega),List.append_nil]
  · exact h.cl k' fun j f hj uP AU=>by
      by_cases e:i=j
      · subst e;rw[hi] at hj;cases hj;rw[hu] at uP;cases uP
      · exact qf j f (ko hj e) uP AU
def iB(C:Cont)(k:bD)(l:List UInt8):Cont:=fun k'=>if k'=k then l else C k'
theorem Inv.write(h:Inv X p a s C D)(hi:p.l[i]?=some fr)(hu:fr.used=true){o:Nat}{ys:List UInt8}(ho:o+ys.length≤s.size)(hD:fr.k∈D):
    Inv X {p with l:=p.l.set i {fr with dz:=true}} (a.put (fr.at_+o) ys) s (iB C fr.k (NU (C fr.k) o ys)) D:=by
  have rC:=h.place hi;have qY:=h.u9 fr.k;have hrm:=h.ok.room fr (List.mem_of_getElem? hi);have hfr:=h.fr i fr hi hu;refine h.Rz hi (f':={fr with dz:=true}) (inm':=p.oa) rfl (h.ok.ar.put (by omega)) (fun k'=>?_) h.Rx (fun k'=>?_) (fun _=> .inl ⟨hu,rfl⟩) (fun j f hj hne=>?_) (fun _=>?_) (fun k' h1 _=>?_) (fun k' hk'=>?_) (fun j f hj hne uP=>?_) (fun k' hk' qf=>?_)
  · unfold iB;split
    · rw[CZ (by omega)];exact qY
    · exact h.u9 k'
  · by_cases e:fr.k=k'
    · subst e;rw[if_pos ⟨hu,rfl⟩];exact h.KA i fr hi hu
    · rw[if_neg (fun x=>e x.2),if_neg (fun x=>e x.2)]
  · refine oC (by omega) ?_
    rcases h.apart i j fr f hi hj hne with h1|h1
    · right;omega
    · left;omega
  · rw[ud rC ho,hfr]
    show _=iB C fr.k _ fr.k
    unfold iB;rw[if_pos rfl];rfl
  · unfold iB;rw[if_neg h1]
  · unfold iB at hk'
    by_cases e:k'=fr.k
    · rw[e];exact hD
    · rw[if_neg e] at hk';exact h.OQ k' hk'
  · unfold iB
    rw[if_neg];intro e;have h1:=h.KA j f hj uP;have h2:=h.KA i fr hi hu;rw[e,h2] at h1;have h3:(i:Int)=(j:Int):=Option.some.inj h1;omega
  · have e:k'=fr.k:=hk'.elim id id
    have:=qf i _ (jj hi) hu e.symm;cases this
def wJ(p:jQ)(s:jU)(k:bD):List UInt8:=match aq p.bm k with
 |some id=>(aq s.m id).getD []
 |none=>List.replicate s.size 0
theorem Inv.blk(h:Inv X p a s C D)(k:bD):(wJ p s k).length=s.size∧((aq p.bm k=none∧dK (wJ p s k))∨∃id,aq p.bm k=some id∧aq s.m id=some (wJ p s k)∧¬dK (wJ p s k)):=by
 unfold wJ;cases hb:aq p.bm k with
 |none=>exact⟨by simp, .inl ⟨rfl,kW⟩⟩
 |some id=>
  obtain⟨l,hl,hz⟩:=h.has k id hb;refine⟨?_, .inr ⟨id,rfl,?_⟩⟩
  · obtain⟨e,he,e2⟩:=wG hl
    simp only[hl,Option.getD_some];rw[←e2];exact h.ok.st.len e he
  · simp only[hl,Option.getD_some]
    exact⟨trivial,hz⟩
theorem Inv.Xf(h:Inv X p a s C D)(hi:p.l[i]?=some fr)(hu:fr.used=true){k0:bD}:Inv X {p with l:=p.l.set i ⟨fr.at_,k0,false,false,false⟩,oa:=gf p.oa fr.k} a s (iB C fr.k (wJ p s fr.k)) D:=by
 have hb:=h.blk fr.k
 have other:∀(j:Nat) (f:Fr),p.l[j]?=some f→i≠j→f.used=true→f.k≠fr.k:=fun j f hj hne uP e=>by
  have h1:=h.KA j f hj uP;have h2:=h.KA i fr hi hu;rw[e,h2] at h1;have h3:(i:Int)=(j:Int):=Option.some.inj h1;omega
 have base:∀k,(aq p.bm k=none∧dK (C k))∨(∃id,aq p.bm k=some id∧aq s.m id=some (C k)∧¬dK (C k))→k≠fr.k→(aq p.bm k=none∧dK (iB C fr.k (wJ p s fr.k) k))∨∃id,aq p.bm k=some id∧aq s.m id=some (iB C fr.k (wJ p s fr.k) k)∧¬dK (iB C fr.k (wJ p s fr.k) k):=fun k hk e=>by
  unfold iB;rw[if_neg e];exact hk
 refine h.Rz (f':=⟨fr.at_,k0,false,false,false⟩) hi rfl h.ok.ar (fun k=>?_) (pI _ h.Rx) (fun k=>by rw[iE _ _ h.Rx];simp[hu]) (fun e=>by cases e) (fun _ _ _ _=>rfl) (fun e=>by cases e) (fun k e _=>?_) (fun k hk=>?_) (fun j f hj hne uP=>?_) (fun k _ qf=>?_)
 · unfold iB;split
   · exact hb.1
   · exact h.u9 k
 · unfold iB;rw[if_neg e]
 · unfold iB at hk
   by_cases e:k=fr.k
   · rw[if_pos e] at hk
     rcases hb.2 with h1|⟨id,h1,_⟩
     · exact absurd h1.2 hk
     · rw[e];exact h.cnt _ _ h1
   · rw[if_neg e] at hk;exact h.OQ k hk
 · unfold iB;rw[if_neg (other j f hj hne uP)]
 · by_cases e:k=fr.k
   · subst e
     have:iB C fr.k (wJ p s fr.k) fr.k=wJ p s fr.k:=if_pos rfl;rw[this];exact hb.2
   · refine base k (h.cl k fun j f hj uP AU=>?_) e
     by_cases e2:i=j
     · subst e2;rw[hi] at hj;cases hj;exact absurd AU.symm e
     · exact qf j f (ko hj e2) uP AU
theorem Inv.UJ(h:Inv X p a s C D){k:bD}(hk:aq p.oa k=none):(aq p.bm k=none∧dK (C k))∨∃id,aq p.bm k=some id∧aq s.m id=some (C k)∧¬dK (C k):=
 h.cl k fun j f hj hu AU=>by
  have:=h.KA j f hj hu;rw[AU,hk] at this;cases this
theorem Inv.unknown(h:Inv X p a s C D){k:bD}(hk:¬H8 p k):dK (C k):=by
 unfold H8 at hk;rw[not_or] at hk;have h1:aq p.oa k=none:=by cases hq:aq p.oa k with|none=>rfl|some v=>(rw[hq] at hk;exact absurd rfl hk.1)
 have h2:aq p.bm k=none:=by cases hq:aq p.bm k with|none=>rfl|some v=>(rw[hq] at hk;exact absurd rfl hk.2)
 rcases h.UJ h1 with h3|⟨id,h3,_⟩
 · exact h3.2
 · rw[h2] at h3;cases h3
theorem Inv.free(h:Inv X p a s C D){k:bD}(hk:aq p.oa k=none){g:jQ×jU×Nat}(hg:g=j6 p s k):g.2.2=0∧Inv X g.1 a g.2.1 (iB C k (List.replicate s.size 0)) D∧g.2.1.size=s.size∧g.1.l=p.l∧g.1.oa=p.oa∧(∀k',aq g.1.bm k'=if k'=k then none else aq p.bm k')∧g.2.1.cap=s.cap:=by
  have hst:=h.ok.st
  have key:∀(bm':List (bD×Int)) (s':jU),qt s'→s'.size=s.size→s'.cap=s.cap→s'.fail=s.fail→(bm'.map (·.1)).Nodup→bm'.length=s'.m.length→(∀k',aq bm' k'=if k'=k then none else aq p.bm k')→
      (∀k' id,k'≠k→aq p.bm k'=some id→aq s'.m id=aq s.m id)→Inv X {p with bm:=bm'} a s' (iB C k (List.replicate s.size 0)) D:=by
    intro bm' s' h1 h2 h3 h4 h5 h6 h7 h8
    have OR:∀k' id,aq bm' k'=some id→k'≠k∧aq p.bm k'=some id:=fun k' id hk'=>by
      rw[h7] at hk';by_cases e:k'=k
      · rw[if_pos e] at hk';cases hk'
      · rw[if_neg e] at hk';exact⟨e,hk'⟩
    refine⟨⟨h.ok.n,h.ok.pos,h.ok.most,h.ok.hand,fun f hf=>h2▸h.ok.room f hf,h.ok.ar,h1⟩,h.Xd,h4▸h.nf,fun k'=>?_,h.Rx,h.UI,h.KA,fun i j f g hf hg hne=>h2▸h.apart i j f g hf hg hne,h5,fun k1 k2 id e1 e2=>h.inj k1 k2 id (OR _ _ e1).2 (OR _ _ e2).2,h6,fun k' id hk'=>?_,fun k' id hk'=>h.cnt k' id (OR _ _ hk').2,h3▸h.tG,fun k' hk'=>?_,fun j f hj hu=>?_,fun k' hk'=>?_⟩
    · unfold iB;split
      · rw[h2];simp
      · rw[h2];exact h.u9 k'
    · rw[h8 k' id (OR _ _ hk').1 (OR _ _ hk').2];exact h.has k' id (OR _ _ hk').2
    · unfold iB at hk'
      by_cases e:k'=k
      · rw[if_pos e] at hk';exact absurd kW hk'
      · rw[if_neg e] at hk';exact h.OQ k' hk'
    · have e:f.k≠k:=fun e=>by
        have:=h.KA j f hj hu;rw[e,hk] at this;cases this
      unfold iB;rw[if_neg e,h2];exact h.fr j f hj hu
    · by_cases e:k'=k
      · left
        refine⟨by show aq bm' k'=none;rw[h7,if_pos e],?_⟩;unfold iB;rw[if_pos e];exact kW
      · have e3:iB C k (List.replicate s.size 0) k'=C k':=if_neg e
        have e4:aq bm' k'=aq p.bm k':=by rw[h7,if_neg e]
        rw[e3]
        show(aq bm' k'=none∧_)∨∃id,aq bm' k'=some id∧_
        rw[e4];rcases h.cl k' hk' with h9|⟨id,h9,h10,h11⟩
        · exact .inl h9
        · exact .inr ⟨id,h9,(h8 k' id e h9).trans h10,h11⟩
  subst hg;cases hb:aq p.bm k with
  | none=>
    have e0:j6 p s k=(p,s,0):=by unfold j6;rw[hb]
    rw[e0];refine⟨rfl,key p.bm s hst rfl rfl rfl h.NV h.num (fun k'=>?_) (fun _ _ _ _=>rfl),rfl,rfl,rfl,fun k'=>?_,rfl⟩
    · split
      · rename_i e;rw[e,hb]
      · rfl
    · split
      · rename_i e;simp only[e,hb]
      · rfl
  | some id=>
    obtain⟨l,hl,_⟩:=h.has _ _ hb;obtain⟨n,hn⟩:=BM h.nf hl;have e0:j6 p s k=({p with bm:=gf p.bm k},{s with ops:=n,m:=gf s.m id},0):=by unfold j6;rw[hb];simp only[hn]
    rw[e0]
    have hlk:∀k',aq (gf p.bm k) k'=if k'=k then none else aq p.bm k':=fun k'=>by
      rw[iE _ _ h.NV];by_cases e:k=k'
      · rw[if_pos e,if_pos e.symm]
      · rw[if_neg e,if_neg (fun x=>e x.symm)]
    refine⟨rfl,key (gf p.bm k) _ hst.free rfl rfl rfl (pI _ h.NV) ?_ hlk (fun k' id' hk' E5=>?_),rfl,rfl,rfl,hlk,rfl⟩
    · have h1:=u7 hb;have h2:=u7 hl;have h3:=h.num
      show(gf p.bm k).length=(gf s.m id).length
      omega
    · show aq (gf s.m id) id'=_
      rw[iE _ _ hst.nodup,if_neg (fun e:id=id'=>hk' (h.inj k' k id (e▸E5) hb))]
def OU(p:jQ):Prop:=∀(j:Nat) (f:Fr),p.l[j]?=some f→f.used=true→f.dz=false
theorem TK{κ ν:Type}[DecidableEq κ]{m:List (κ×ν)}{k:κ}(h:¬(aq m k).isSome=true):aq m k=none:=by cases hq:aq m k with|none=>rfl|some v=>(rw[hq] at h;exact absurd rfl h)
theorem Inv.ops(h:Inv X p a s C D)(n:Int):Inv X p a {s with ops:=n} C D:=
 {h with ok:=⟨h.ok.n,h.ok.pos,h.ok.most,h.ok.hand,h.ok.room,h.ok.ar,h.ok.st.op rfl rfl rfl⟩}
end
def qw(X:tF)(p:jQ)(a:ej)(s:jU):List HP:=gj X p::nF X p::H7 X p::qv X p::dB X.sb s::eW X.Y a
def OV(k:bD):Prop:=0≤k.1∧0≤k.2∧k.2≤9223372036854775807
structure C0(X:tF)(z q:Nat)(T:jQ→Prop)(p:jQ)(a:ej)(s:jU)(C:Cont)(m:Nat):Prop where
 ex:∃D:List bD,D.length≤m∧(∀k∈D,OV k)∧Inv X p a s C D
 sz:s.size=z
 cp:s.cap=(q:Int)
 cln:T p
structure dP(X:tF)(a a':ej):Prop where
 ok:dy X.Y a→dy X.Y a'
 get:dy X.Y a→∀y n,y+n≤X.lo∨X.hi≤y→a'.get y n=a.get y n
theorem dP.refl(X:tF)(a:ej):dP X a a:=⟨id,fun _ _ _ _=>rfl⟩
theorem dP.trans{X:tF}{a b c:ej}(h:dP X a b)(k:dP X b c):dP X a c:=⟨fun ho=>k.ok (h.ok ho),fun ho y n hy=>(k.get (h.ok ho) y n hy).trans (h.get ho y n hy)⟩
theorem dP.put{X:tF}{a:ej}{x:Nat}{ys:List UInt8}(h1:X.lo≤x)(h2:x+ys.length≤X.hi)(h3:x+ys.length≤X.Y.size):dP X a (a.put x ys):=
 ⟨fun ho=>ho.put h3,fun ho y n hy=>oC (by rw[ho.len];exact h3) (by omega)⟩
def nG(X:tF)(R:ej→HP):Prop:=∀a a',dy X.Y a→dP X a a'→aB [R a] [R a']
def yl:ej→HP:=fun _=>kJ []
theorem C3(X:tF):nG X yl:=fun _ _ _ _=>aB.refl _
def eE(X:tF)(z q:Nat)(T:jQ→Prop)(C:Cont)(m:Nat)(R:ej→HP):HP:=VZ fun x:jQ×ej×jU=>kJ (me (C0 X z q T x.1 x.2.1 x.2.2 C m)::(qw X x.1 x.2.1 x.2.2++[R x.2.1]))
variable {z:Nat} {C:Cont} {X:tF} {q:Nat} {r:List HP} {T:jQ→Prop} {R:ej→HP}
theorem aM.KB{P:Program}{Q:Exit→Act→World→Prop}{c:Ctx}{x:Code}{env:Env}(k:∀p a s,C0 X z q T p a s C m→aM P Q c x ((qw X p a s++[R a])++r) env):aM P Q c x (eE X z q T C m R::r) env:=
 aM.opens fun⟨p,a,s⟩=>aM.own aB.unpack (aM.me fun h=>k p a s h)
theorem aB.frame{a b:List HP}(h:aB a b):aB (a++r) (b++r):=fun F S w x=>by
 obtain⟨F1,F2,h1,h2,h3,h4⟩:=de.append.1 x;exact de.append.2 ⟨F1,F2,h1,h2,h _ _ _ h3,h4⟩
theorem aB.behind{a b:List HP}(h:aB a b):aB (r++a) (r++b):=fun F S w x=>by
 obtain⟨F1,F2,h1,h2,h3,h4⟩:=de.append.1 x;exact de.append.2 ⟨F1,F2,h1,h2,h3,h _ _ _ h4⟩
variable {p:jQ}
theorem iF{a0:ej}(hR:nG X R)(h0:dy X.Y a0)(hs:dP X a0 a)(h:C0 X z q T p a s C m):aB ((qw X p a s++[R a0])++r) (eE X z q T C m R::r):=
 (aB.frame (aB.behind (hR a0 a h0 hs))).trans ((aB.pure h).trans ((aB.pack (l:=me _::(qw X p a s++[R a]))).trans (aB.ex (f:=fun x:jQ×ej×jU=>kJ (me (C0 X z q T x.1 x.2.1 x.2.2 C m)::(qw X x.1 x.2.1 x.2.2++[R x.2.1]))) (p,a,s))))
theorem vb{m':Nat}(hm:m≤m'):aB (eE X z q T C m R::r) (eE X z q T C m' R::r):=fun F S w ⟨F1,F2,h1,h2,⟨x,h3⟩,h4⟩=>
 ⟨F1,F2,h1,h2,⟨x,by
  obtain⟨G1,G2,g1,g2,g3,g4⟩:=h3;exact⟨G1,G2,g1,g2,⟨⟨g3.ex.choose,Nat.le_trans g3.ex.choose_spec.1 hm,g3.ex.choose_spec.2⟩,g3.sz,g3.cp,g3.cln⟩,g4⟩⟩,h4⟩
theorem RA(h:C0 X z q T p a s C m):aB (qw X p a s++r) (eE X z q T C m yl::r):=
 aB.trans (aB.frame (show aB (qw X p a s) (qw X p a s++[yl a]) from fun F S w x=>de.append.2 ⟨F,fun _=>False,fun k hk=>⟨hk,id⟩,fun _ h=>h.elim,x,eC _ _ _ trivial⟩)) (iF (C3 X) h.ex.choose_spec.2.2.ok.ar (dP.refl _ _) h)
def fG(z:Nat)(k:bD)(at_ n:Int):Nat:=if k.1<0∨k.2<0 then 1 else if at_<0∨n<0∨(z:Int)<at_∨(z:Int)-at_<n then 2 else 0
theorem BN{k:bD}{at_ n:Int}(h:fG z k at_ n=0):0≤k.1∧0≤k.2∧0≤at_∧0≤n∧at_+n≤(z:Int):=by
 unfold fG at h
 split at h
 · omega
 · split at h<;>omega
theorem C0.wrong(h:C0 X z q T p a s C m)(k:bD)(at_ n:Int):tZ p s.size k at_ n=fG z k at_ n:=by
 obtain⟨D,_,_,hD⟩:=h.ex;have hs:¬zy p:=fun e=>e.elim (fun e=>by rw[hD.Xd.2] at e;cases e) (fun e=>e hD.Xd.1);unfold tZ fG;rw[if_neg hs,h.sz]
def vc(z:Nat)(C:Cont)(k:bD)(at_ n:Int):List UInt8:=if fG z k at_ n=0 then((C k).drop at_.toNat).take n.toNat else[]
def rW(z:Nat)(C:Cont)(k:bD)(at_:Int)(ys:List UInt8):Cont:=if fG z k at_ (ys.length:Int)=0 then iB C k (NU (C k) at_.toNat ys) else C
theorem LY{k:bD}(h:l=C k):iB C k l=C:=by
 funext k'
 unfold iB
 split
 · rename_i e;rw[h,e]
 · rfl
structure TL(X:tF)(p:jQ)(a:ej)(s:jU)(C:Cont)(D:List bD)(k:bD)(g:jQ×ej×jU×Nat):Prop where
 inv:Inv X g.1 g.2.1 g.2.2.1 C D
 size:g.2.2.1.size=s.size
 cap:g.2.2.1.cap=s.cap
 out:dP X a g.2.1
 fr:∃f:Fr,g.1.l[g.2.2.2]?=some f∧f.used=true∧f.k=k∧(aq p.oa k=none→f.dz=false)
theorem getElem?_lt'{xs:List α}{k:Nat}(h:k<xs.length):∃x,xs[k]?=some x:=⟨xs[k],List.getElem?_eq_getElem h⟩
def LZ(b c:Nat)(j:Nat):List Fr:=(List.range j).map fun i=>⟨b+i*c,(0,0),false,false,false⟩
theorem sW(b c j:Nat):(LZ b c j).length=j:=by simp[LZ]
theorem OW(b c j:Nat):LZ b c (j+1)=LZ b c j++[⟨b+j*c,(0,0),false,false,false⟩]:=by simp[LZ,List.range_succ]
theorem sX{b c:Nat}{f:Fr}(h:(LZ b c j)[i]?=some f):i<j∧f=⟨b+i*c,(0,0),false,false,false⟩:=by
 unfold LZ at h;rw[List.getElem?_map] at h;by_cases hi:i<j
 · rw[List.getElem?_range hi] at h;cases h;exact⟨hi,rfl⟩
 · rw[List.getElem?_eq_none (by simp;omega)] at h;cases h
theorem KC:∀(k c n:Nat),n≤c*2^k→n≤rS k c n
 |0,c,n,h=>by simpa[rS] using h
 |k+1,c,n,h=>by
  unfold rS
  split
  · exact KC k (c*2) n (by rw[Nat.mul_assoc,←Nat.pow_succ'];exact h)
  · omega
theorem wK(h:n≤4194304):n≤aY n:=by
 unfold aY;rw[if_neg (by omega)];exact KC 19 16 n (by omega)
structure TM(Y:ox)(a0 a:ej)(c j:Nat):Prop where
 ok:dy Y a
 hi:a.height=a0.height+j*c
 same:∀y n,y+n≤a0.height→a.get y n=a0.get y n
theorem TM.take{Y:ox}{a0 a:ej}{n j:Nat}(h:TM Y a0 a (aY n) j)(hn:n≤4194304)(hr:a0.height+(j+1)*aY n≤Y.size){g:ej×Nat×Nat}(hg:g=xL Y.size a n):g.2.2=0∧g.2.1=a0.height+j*aY n∧TM Y a0 g.1 (aY n) (j+1):=by
 have h1:=h.hi;have h2:=h.ok.len;have h3:=h.ok.live;rw[Nat.add_mul,Nat.one_mul] at hr;unfold xL at hg;rw[if_neg (by omega),if_neg (by omega)] at hg;subst hg;refine⟨rfl,h1,⟨?_,?_,h.ok.most,?_⟩,?_,fun y m hy=>?_⟩
 · show(a.bytes.take a.height++List.replicate (aY n) 0++a.bytes.drop (a.height+aY n)).length=Y.size
   simp;omega
 · show a.height+aY n≤Y.size;omega
 · show a.live+aY n≤a.height+aY n;omega
 · show a.height+aY n=a0.height+(j+1)*aY n
   rw[Nat.add_mul,Nat.one_mul,h1];omega
 · rw[←h.same y m hy]
   show((a.bytes.take a.height++List.replicate (aY n) 0++a.bytes.drop (a.height+aY n)).drop y).take m=(a.bytes.drop y).take m
   apply List.ext_getElem?;intro t;simp only[List.getElem?_take,List.getElem?_drop,List.getElem?_append,List.length_append,List.length_take,List.length_replicate];by_cases h4:t<m
   · rw[if_pos h4,if_pos h4,if_pos (by omega),if_pos (by omega),if_pos (by omega)]
   · rw[if_neg h4,if_neg h4]
def oD(z:Nat):Cont:=fun _=>List.replicate z 0
theorem tH{enc:α→List VP}:aB r (av none n enc []::r):=fun F S w x=>⟨fun _=>False,F,fun _ h=>h.elim,fun _ h=>h,rfl,x⟩
theorem RB{a0:ej}(hn:0<X.n)(hm:X.n≤64)(hz:z≤1024)(hq:q≤4096)(ha:TM X.Y a0 a (aY z) X.n)(hlo:X.lo=a0.height)(hhi:X.hi=a0.height+X.n*aY z):C0 X z q OU ⟨LZ a0.height (aY z) X.n,0,[],[],0,false⟩ a ⟨z,(q:Int),0,0,-1,false,[]⟩ (oD z) 0:=by
 have hc:=wK (n:=z) (by omega);have hh:=ha.ok.hi;have hh2:=ha.hi;refine⟨⟨[],Nat.le_refl _,fun k h=>(by cases h),⟨⟨sW _ _ _,hn,hm,hn,fun f hf=>?_,ha.ok,⟨hz,by(show(q:Int)≤4096;omega),fun e he=>(by cases he),fun e he=>(by cases he),by(show((0:Nat):Int)≤(q:Int);omega),List.nodup_nil⟩⟩,⟨rfl,rfl⟩,(show(-1:Int)<0 by decide),fun k=>(by simp[oD]),List.nodup_nil,fun k i h=>(by cases h),fun j f hj hu=>?_,fun i j f g hi hj hne=>?_,List.nodup_nil,fun k k' id h=>(by cases h),rfl,fun k id h=>(by cases h),fun k id h=>(by cases h),by(show((0:Nat):Int)≤(q:Int);omega),fun k h=>absurd kW h,fun j f hj hu=>?_,fun k _=> .inl ⟨rfl,kW⟩⟩⟩,rfl,rfl,fun j f hj hu=>?_⟩
 · obtain⟨j,hj⟩:=List.mem_iff_getElem?.1 hf
   obtain⟨h1,rfl⟩:=sX hj;have h2:(j+1)*aY z≤X.n*aY z:=Nat.mul_le_mul_right _ h1;rw[Nat.add_mul,Nat.one_mul] at h2
   show(X.lo≤a0.height+j*aY z∧a0.height+j*aY z+z≤X.hi)∧a0.height+j*aY z+z≤X.Y.size
   omega
 · obtain⟨_,rfl⟩:=sX hj;cases hu
 · obtain⟨h1,rfl⟩:=sX hi
   obtain⟨h2,rfl⟩:=sX hj
   show a0.height+i*aY z+z≤a0.height+j*aY z∨a0.height+j*aY z+z≤a0.height+i*aY z
   rcases Nat.lt_or_gt_of_ne hne with h3|h3
   · have h4:(i+1)*aY z≤j*aY z:=Nat.mul_le_mul_right _ h3
     rw[Nat.add_mul,Nat.one_mul] at h4;omega
   · have h4:(j+1)*aY z≤i*aY z:=Nat.mul_le_mul_right _ h3
     rw[Nat.add_mul,Nat.one_mul] at h4;omega
 · obtain⟨_,rfl⟩:=sX hj;cases hu
 · obtain⟨_,rfl⟩:=sX hj;cases hu
theorem ve{T':jQ→Prop}(hT:∀p,T p→T' p):aB (eE X z q T C m R::r) (eE X z q T' C m R::r):=fun F S w ⟨F1,F2,h1,h2,⟨x,h3⟩,h4⟩=>
 ⟨F1,F2,h1,h2,⟨x,by
  obtain⟨G1,G2,g1,g2,g3,g4⟩:=h3;exact⟨G1,G2,g1,g2,⟨g3.ex,g3.sz,g3.cp,hT _ g3.cln⟩,g4⟩⟩,h4⟩
theorem Inv.RC{D:List bD}(h:Inv X p a s C D){fr:Fr}(hi:p.l[i]?=some fr)(k:bD):dP X a (a.put fr.at_ (C k)):=by
 have h1:=h.ok.room fr (List.mem_of_getElem? hi);have h2:=h.u9 k;exact dP.put (by omega) (by omega) (by omega)
theorem RD{X:ox}{c:Nat}(h:X.size=n)(hn:n≤4194304):TM X ⟨List.replicate n 0,0,0,[]⟩ ⟨List.replicate n 0,0,0,[]⟩ c 0:=
 ⟨⟨by rw[h];simp,Nat.zero_le _,by omega,Nat.le_refl _⟩,by simp,fun _ _ _=>rfl⟩
def iO(z at_ n d:Nat):Nat:=min (n-d) (z-(at_+d)%z)
def dL(z at_ n:Nat):Nat→Nat
 |0=>0
 |j+1=>dL z at_ n j+iO z at_ n (dL z at_ n j)
variable {at_:Nat} {d:Nat}
theorem OX(hz:0<z)(h:d<n):0<iO z at_ n d:=by
 have:=Nat.mod_lt (at_+d) hz;unfold iO;omega
theorem E6(hz:0<z):(at_+d)%z+iO z at_ n d≤z:=by
 have:=Nat.mod_lt (at_+d) hz;unfold iO;omega
theorem nH(z at_ n:Nat):∀j,dL z at_ n j≤n
 |0=>Nat.zero_le _
 |j+1=>by
  have:=nH z at_ n j;unfold dL iO;omega
theorem E7{z at_ n:Nat}(hz:0<z):∀j,j≤dL z at_ n j∨dL z at_ n j=n
 |0=> .inl (Nat.zero_le _)
 |j+1=>by
  have hl:=nH z at_ n j;rcases E7 hz (at_:=at_) (n:=n) j with h|h
  · by_cases e:dL z at_ n j=n
    · right;show dL z at_ n j+iO z at_ n (dL z at_ n j)=n;unfold iO;omega
    · have:=OX (at_:=at_) hz (show dL z at_ n j<n by omega)
      left;show j+1≤dL z at_ n j+iO z at_ n (dL z at_ n j);omega
  · right;show dL z at_ n j+iO z at_ n (dL z at_ n j)=n;unfold iO;omega
theorem BO(hz:0<z):∃N,dL z at_ n N=n∧∀j,j<N→dL z at_ n j<n:=by
 have hex:∃N,dL z at_ n N=n:=by
  refine⟨n,?_⟩;have:=nH z at_ n n;rcases E7 hz (at_:=at_) (n:=n) n with h|h
  · omega
  · exact h
 have key:∀M,dL z at_ n M=n→∃N,dL z at_ n N=n∧∀j,j<N→dL z at_ n j<n:=by
  intro M
  induction M with
  |zero=>intro h;exact⟨0,h,fun j hj=>absurd hj (Nat.not_lt_zero _)⟩
  |succ M ih=>
   intro h;by_cases e:∃j,j≤M∧dL z at_ n j=n
   · obtain⟨j,hj,hd⟩:=e
     have mono:∀t,dL z at_ n (j+t)=n:=by
      intro t
      induction t with
      |zero=>exact hd
      |succ t iht=>show dL z at_ n (j+t)+iO z at_ n (dL z at_ n (j+t))=n;rw[iht];unfold iO;omega
     have:=mono (M-j);rw[show j+(M-j)=M by omega] at this;exact ih this
   · exact⟨M+1,h,fun j hj=>by
      have:=nH z at_ n j;have:dL z at_ n j≠n:=fun hd=>e ⟨j,by omega,hd⟩;omega⟩
 exact key _ hex.choose_spec
theorem E8{z at_ n:Nat}(hz:0<z):∀j,dL z at_ n j<n→0<j→(at_+dL z at_ n j)%z=0∧(j-1)*z+1≤dL z at_ n j
 |0,_,h=>absurd h (Nat.lt_irrefl _)
 |j+1,h,_=>by
  have hl:=nH z at_ n j;have hm:=Nat.mod_lt (at_+dL z at_ n j) hz;have hs:dL z at_ n (j+1)=dL z at_ n j+iO z at_ n (dL z at_ n j):=rfl;have hst:iO z at_ n (dL z at_ n j)=z-(at_+dL z at_ n j)%z:=by unfold iO at hs ⊢;omega
  have hdiv:=Nat.div_add_mod (at_+dL z at_ n j) z;refine⟨?_,?_⟩
  · rw[hs,hst,←Nat.add_assoc]
    have:at_+dL z at_ n j+(z-(at_+dL z at_ n j)%z)=z*((at_+dL z at_ n j)/z+1):=by rw[Nat.mul_add,Nat.mul_one];omega
    rw[this];exact Nat.mul_mod_right _ _
  · rw[Nat.add_sub_cancel]
    rcases Nat.eq_zero_or_pos j with h0|h0
    · subst h0;rw[hs,hst,Nat.zero_mul];generalize (at_+dL z at_ n 0)%z=r at*;omega
    · obtain⟨h1,h2⟩:=E8 (at_:=at_) (n:=n) hz j (by omega) h0
      rw[hs,hst,h1];have h6:j*z=(j-1)*z+z:=by rw[←Nat.succ_mul];congr 1;omega
      rw[h6];omega
theorem L1{N:Nat}(hz:0<z)(h:∀j,j<N→dL z at_ n j<n):N≤n/z+2:=by
 rcases Nat.lt_or_ge N 2 with h2|h2
 · exact Nat.le_trans (show N≤2 by omega) (Nat.le_add_left 2 _)
 · obtain⟨_,h3⟩:=E8 hz (N-1) (h (N-1) (by omega)) (by omega)
   have h4:=h (N-1) (by omega);have h5:(N-2)*z≤n:=by rw[show N-1-1=N-2 by omega] at h3;omega
   have h6:N-2≤n/z:=(Nat.le_div_iff_mul_le hz).2 h5;omega
def vf(z:Nat)(C:Cont)(num:Int)(a:Nat):UInt8:=(C (num,((a/z:Nat):Int))).getD (a%z) 0
def rX(z:Nat)(C:Cont)(num:Int)(at_ n:Nat):List UInt8:=(List.range n).map fun i=>vf z C num (at_+i)
theorem E9(z:Nat)(C:Cont)(num:Int)(at_ n:Nat):(rX z C num at_ n).length=n:=by simp[rX]
theorem OY(z:Nat)(C:Cont)(num:Int)(at_ d s:Nat):rX z C num at_ (d+s)=rX z C num at_ d++rX z C num (at_+d) s:=by
 unfold rX;rw[List.range_add,List.map_append,List.map_map]
 congr 1
 apply List.map_congr_left;intro i _
 show vf z C num (at_+(d+i))=vf z C num (at_+d+i)
 rw[Nat.add_assoc]
theorem BQ{a s:Nat}(hz:0<z)(h:a%z+s≤z)(hi:i<s):(a+i)/z=a/z∧(a+i)%z=a%z+i:=by
 have h1:=Nat.div_add_mod a z;have h2:a+i=z*(a/z)+(a%z+i):=by omega
 have h3:(a%z+i)/z=0:=Nat.div_eq_of_lt (by omega);constructor
 · rw[h2,Nat.mul_add_div hz,h3,Nat.add_zero]
 · rw[h2,Nat.mul_add_mod,Nat.mod_eq_of_lt (by omega)]
variable {num:Int}
theorem oE{a s:Nat}(hn:0≤num)(hz:0<z)(h:a%z+s≤z):fG z (num,((a/z:Nat):Int)) ((a%z:Nat):Int) (s:Int)=0:=by
 unfold fG;generalize a/z=q at*;generalize a%z=r at*;rw[if_neg (by show ¬(num<0∨(q:Int)<0);omega),if_neg (by omega)]
theorem wL{a s:Nat}(hn:0≤num)(hz:0<z)(hC:∀k,(C k).length=z)(h:a%z+s≤z):vc z C (num,((a/z:Nat):Int)) ((a%z:Nat):Int) (s:Int)=rX z C num a s:=by
 unfold vc;rw[if_pos (oE hn hz h)];have hl:=hC (num,((a/z:Nat):Int));apply List.ext_getElem?;intro i;simp only[Int.toNat_natCast];rw[List.getElem?_take];unfold rX;rw[List.getElem?_map];by_cases hi:i<s
 · obtain⟨h1,h2⟩:=BQ hz h hi
   rw[if_pos hi,List.getElem?_drop,List.getElem?_range hi];simp only[Option.map_some,vf,h1,h2];rw[List.getD_eq_getElem?_getD,List.getElem?_eq_getElem (by omega)];rfl
 · rw[if_neg hi,List.getElem?_eq_none (by simp;omega)];rfl
def ym(z:Nat)(C:Cont)(num:Int)(at_:Nat)(ys:List UInt8):Cont:=fun k=>if k.1=num∧0≤k.2 then(List.range z).map fun o=>if at_≤k.2.toNat*z+o∧k.2.toNat*z+o<at_+ys.length then ys.getD (k.2.toNat*z+o-at_) 0 else(C k).getD o 0 else C k
theorem KD(hC:∀k,(C k).length=z)(k:bD):(ym z C num at_ ys k).length=z:=by
 unfold ym;split
 · simp
 · exact hC k
theorem Ia:(List.range l.length).map (fun o=>l.getD o 0)=l:=by
 apply List.ext_getElem?;intro i;rw[List.getElem?_map];by_cases hi:i<l.length
 · rw[List.getElem?_range hi,List.getElem?_eq_getElem hi];simp[List.getD_eq_getElem?_getD,hi]
 · rw[List.getElem?_eq_none (by simp;omega),List.getElem?_eq_none (by omega)];rfl
theorem RE(hC:∀k,(C k).length=z):ym z C num at_ []=C:=by
 funext k
 unfold ym
 split
 · have:∀o,(if at_≤k.2.toNat*z+o∧k.2.toNat*z+o<at_+([]:List UInt8).length then([]:List UInt8).getD (k.2.toNat*z+o-at_) 0 else(C k).getD o 0)=(C k).getD o 0:=fun o=>if_neg (by simp only[List.length_nil];omega)
   simp only[this];rw[←hC k];exact Ia
 · rfl
theorem OZ{a:Nat}(hz:0<z):vf z (ym z C num at_ ys) num a=if at_≤a∧a<at_+ys.length then ys.getD (a-at_) 0 else vf z C num a:=by
 have hm:=Nat.mod_lt a hz;have hd:=Nat.div_add_mod a z;have e:a/z*z+a%z=a:=by rw[Nat.mul_comm];exact hd
 unfold vf ym;rw[if_pos ⟨rfl,Int.natCast_nonneg _⟩];simp only[Int.toNat_natCast];rw[List.getD_eq_getElem?_getD,List.getElem?_map,List.getElem?_range hm];simp only[Option.map_some,Option.getD_some,e]
theorem L2{num':Int}{a:Nat}(h:num'≠num):vf z (ym z C num at_ ys) num' a=vf z C num' a:=by
 unfold vf ym;rw[if_neg (fun e=>h e.1)]
theorem Ib{s:Nat}(hn:0≤num)(hz:0<z)(hC:∀k,(C k).length=z)(h:(at_+d)%z+s≤z)(hs:d+s≤ys.length):
    rW z (ym z C num at_ (ys.take d)) (num,(((at_+d)/z:Nat):Int)) (((at_+d)%z:Nat):Int) ((ys.drop d).take s)=ym z C num at_ (ys.take (d+s)):=by
  have hl:((ys.drop d).take s).length=s:=by simp;omega
  unfold rW;rw[hl,if_pos (oE hn hz h)];have hd:=Nat.div_add_mod (at_+d) z;have hd2:(at_+d)/z*z+(at_+d)%z=at_+d:=by rw[Nat.mul_comm];exact hd
  have j7:(ys.take d).length=d:=by simp;omega
  have kX:(ys.take (d+s)).length=d+s:=by simp;omega
  have hg:∀t e,t<e→(ys.take e).getD t 0=ys.getD t 0:=fun t e ht=>by
    rw[List.getD_eq_getElem?_getD,List.getD_eq_getElem?_getD,List.getElem?_take,if_pos ht]
  funext k
  unfold iB;by_cases hk:k=(num,(((at_+d)/z:Nat):Int))
  · rw [if_pos hk,hk]
    simp only[Int.toNat_natCast];have hw:=KD (num:=num) (at_:=at_) (ys:=ys.take d) hC (num,(((at_+d)/z:Nat):Int));apply List.ext_getElem?;intro o;by_cases ho:o<z
    · have e2:(ym z C num at_ (ys.take (d+s)) (num,(((at_+d)/z:Nat):Int)))[o]?=some (if at_≤(at_+d)/z*z+o∧(at_+d)/z*z+o<at_+(d+s) then ys.getD ((at_+d)/z*z+o-at_) 0 else(C (num,(((at_+d)/z:Nat):Int))).getD o 0):=by
        unfold ym;rw[if_pos ⟨rfl,Int.natCast_nonneg _⟩,List.getElem?_map,List.getElem?_range ho,kX];simp only[Option.map_some,Int.toNat_natCast,Option.some.injEq]
        split
        · rename_i hc;exact hg _ _ (by omega)
        · rfl
      have e1:(ym z C num at_ (ys.take d) (num,(((at_+d)/z:Nat):Int)))[o]?=some (if at_≤(at_+d)/z*z+o∧(at_+d)/z*z+o<at_+d then ys.getD ((at_+d)/z*z+o-at_) 0 else(C (num,(((at_+d)/z:Nat):Int))).getD o 0):=by
        unfold ym;rw[if_pos ⟨rfl,Int.natCast_nonneg _⟩,List.getElem?_map,List.getElem?_range ho,j7];simp only[Option.map_some,Int.toNat_natCast,Option.some.injEq]
        split
        · rename_i hc;exact hg _ _ (by omega)
        · rfl
      rw[e2];unfold NU;simp only[List.getElem?_append,List.length_append,List.length_take,hl,hw];by_cases o1:o<(at_+d)%z
      · rw[if_pos (by omega),if_pos (by omega),List.getElem?_take,if_pos o1,e1]
        congr 1
        by_cases c1:at_≤(at_+d)/z*z+o∧(at_+d)/z*z+o<at_+d
        · rw[if_pos c1,if_pos ⟨c1.1,by omega⟩]
        · rw[if_neg c1,if_neg (fun c2=>c1 ⟨c2.1,by omega⟩)]
      · by_cases o2:o<(at_+d)%z+s
        · rw[if_pos (by omega),if_neg (by omega),List.getElem?_take,if_pos (by omega),List.getElem?_drop,if_pos ⟨by omega,by omega⟩]
          rw[show d+(o-min ((at_+d)%z) z)=(at_+d)/z*z+o-at_ by omega];rw[List.getD_eq_getElem?_getD,List.getElem?_eq_getElem (by omega)];rfl
        · rw[if_neg (by omega),List.getElem?_drop]
          rw[show(at_+d)%z+s+(o-(min ((at_+d)%z) z+s))=o by omega,e1]
          congr 1
          rw[if_neg (by omega),if_neg (by omega)]
    · rw[List.getElem?_eq_none (by rw[CZ (by rw[hw,hl];exact h),hw];omega),List.getElem?_eq_none (by rw[KD hC];omega)]
  · rw [if_neg hk]
    unfold ym;by_cases hc:k.1=num∧0≤k.2
    · rw[if_pos hc,if_pos hc]
      apply List.map_congr_left;intro o ho;have ho':=List.mem_range.1 ho;have hne:k.2.toNat≠(at_+d)/z:=fun e=>hk (Prod.ext hc.1 (by show k.2=_;omega))
      have bA8:¬(at_+d≤k.2.toNat*z+o∧k.2.toNat*z+o<at_+d+s):=fun⟨c1,c2⟩=>by
        have c3:(k.2.toNat*z+o)/z=k.2.toNat:=by rw[Nat.mul_comm,Nat.mul_add_div hz,Nat.div_eq_of_lt ho',Nat.add_zero]
        obtain⟨i,hi⟩:∃i,k.2.toNat*z+o=at_+d+i:=⟨_,(Nat.add_sub_cancel' c1).symm⟩;have c4:=(BQ hz h (show i<s by omega)).1;rw[hi,c4] at c3;exact hne c3.symm
      rw[j7,kX];by_cases c1:at_≤k.2.toNat*z+o∧k.2.toNat*z+o<at_+d
      · rw[if_pos c1,if_pos ⟨c1.1,by omega⟩,hg _ _ (by omega),hg _ _ (by omega)]
      · rw[if_neg c1,if_neg (by omega)]
    · rw[if_neg hc,if_neg hc]
theorem aM.Xg{P:Program}{Q:Exit→Act→World→Prop}{c:Ctx}{x:Code}{env:Env}{hs:List HP}(i:Nat)(hi:hs[i]?=some (eE X z q T C m R))(k:(∀k,(C k).length=z)→aM P Q c x hs env):aM P Q c x hs env:=by
 intro a w hst;obtain⟨F1,_,⟨p,hp⟩⟩:=hst.2.2.choose_spec.choose_spec.2.1.get hi;obtain⟨G1,G2,g1,g2,g3,g4⟩:=hp;obtain⟨D,_,_,hI⟩:=g3.ex;exact k (fun k=>by rw[hI.u9 k];exact g3.sz) a w hst
end Go.Hl
end
