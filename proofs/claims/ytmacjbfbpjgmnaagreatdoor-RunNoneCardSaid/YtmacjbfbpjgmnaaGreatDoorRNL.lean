/-
  What the statement's proof leans on, several texts in one (packed by a program).
-/
import Derived.Test.YtmacjbfbpjgmnaaGreatDoorRNK
set_option linter.all false
set_option maxRecDepth 1000000
set_option maxHeartbeats 4000000
section
namespace Go.Hl
open Go.RowKit
structure wL(m:aR)(f:bU):Prop where
 fits:fA m
 lo:(bJ m f).aY.length≤60000
 own:bC m f.gq∈m.cY
structure nX(x:aq):Prop where
 A0:0≤x.A
 PY:x.A<18446744073709551616
 B0:0≤x.B
 B64:x.B<18446744073709551616
 L0:∀n∈x.L,0≤n
 Ln:x.L.length≤60000
structure nt(x:aq):Prop extends nX x where
 A16:x.Code=16→x.A≤4294967295
 a0:0≤x.eT
 Tx:x.eT≤31
variable {m:aR}
theorem fA.EB(h:fA m):∀g∈m.cY,g.P.length≤20∧g.R.length≤20:=fun g hg=>by
 have h1:=qe.1 (iP.1 h.sigs).2 g hg;have h2:Ap g:=Classical.not_not.1 ((m8 (by decide)).1 h1);exact⟨h2.1.1,h2.2.1⟩
theorem fA.lens(h:fA m):m.cY.length≤50∧m.av.length≤20∧m.dU.length≤4∧m.aH.length≤50∧eB m≤100:=by
 have h1:=(iP.1 h.sigs).1;have h2:=(iP.1 h.imports).1;have h3:=(iP.1 h.jG).1;have h4:=(iP.1 h.globals).1;have h5:=h.funcs;unfold lG at h5
 split at h5
 · cases h5
 · exact⟨by omega,by omega,by omega,by omega,by omega⟩
variable {n:Int}
theorem lq(h:ql n m.cY.length):m.cY[n.toNat]?=some (bC m n)∧bC m n∈m.cY:=by
 obtain⟨h1,h2⟩:=h.at;have:m.cY[n.toNat]?=some (bC m n):=by unfold bC;rw[List.getElem?_eq_getElem h1];rfl
 exact⟨this,List.mem_of_getElem? this⟩
theorem CG{s:nc}(h:m.cY[n.toNat]?=some s):bC m n=s:=by unfold bC;rw[h];rfl
theorem nu{f:bU}(h:fA m):dI (bJ m f).aB n=eM m n:=by
 have h1:∀z∈m.av,kR m z=0:=qe.1 (iP.1 h.imports).2;have h2:∀z∈m.aB,uA m z=0:=wz h.funcs;have hlen:(bJ m f).aB.length=m.av.length+m.aB.length:=by simp[bJ]
 by_cases hc:ql n (eB m)
 · obtain⟨s,hs⟩:=zl hc h1 h2
   rw[hs];have Qs:=hc;unfold ql eB at Qs;unfold dI;rw[if_pos (by rw[hlen];omega)];by_cases hl:n<(m.av.length:Int)
   · obtain⟨x,hx,YG,_,_⟩:=Fg hs hl
     show(m.av.map (fun i=>bC m i.gq)++m.aB.map (fun g=>bC m g.gq))[n.toNat]?=some s
     rw[List.getElem?_append_left (by simp;omega),List.getElem?_map,hx];exact congrArg some (CG YG)
   · obtain⟨x,hx,YG,_,_,_⟩:=LI hs hl
     show(m.av.map (fun i=>bC m i.gq)++m.aB.map (fun g=>bC m g.gq))[n.toNat]?=some s
     rw[List.getElem?_append_right (by simp;omega),List.getElem?_map,List.length_map];rw[show n.toNat-m.av.length=(n-(m.av.length:Int)).toNat by omega,hx];exact congrArg some (CG YG)
 · have hno:¬(eM m n).isSome=true:=fun e=>hc ((Oi h1 h2).1 e)
   have:eM m n=none:=by simpa using hno
   rw[this];unfold dI;rw[if_neg (by rw[hlen];unfold ql eB at hc;omega)]
theorem bK{α β:Type}{L:List α}{g:α→β}:dI (L.map g) n=(dI L n).map g:=by
 unfold dI;rw[List.length_map]
 split
 · rw[List.getElem?_map]
 · rfl
theorem fG(fs:List fm)(b:fm)(s:jW):(iH fs++[j9 (cL fs).length b s]).map yb=(fs++[b]).map sE:=by
 rw[List.map_append,List.map_append,CB];rfl
def JD(fs:List fm)(st:List UInt8)(B:List JB):Prop:=B=iH fs∧(fs≠[]→st=cL fs)
theorem L4(fs:List fm)(b:fm)(s:jW):JD (fs++[{b with st:=s}]) (cL fs++s.1) (iH fs++[j9 (cL fs).length b s]):=
 ⟨by rw[jK];rfl,fun _=>by rw[fX]⟩
theorem JE(s:jW):cQ s []=s:=by simp[cQ]
theorem uF(s:jW)(i:List UInt8):oF s i []=fe s i:=by
 unfold oF;cases fe s i<;>simp[JE]
section
variable {v:Fo} {x:aq} {s:jW} {labs:List (List UInt8)}
theorem Tz(h:x.Code=0):gN v x s labs=some gA:=by unfold gN;rw[if_pos h]
theorem Ft(h:x.Code=12):gN v x s labs=(gM labs x.A).bind fun w=>(fe s w).map fun _=>gA:=by unfold gN;rw[if_neg (by omega),if_pos h]
theorem AD(h:x.Code=13):gN v x s labs=(gM labs x.A).bind fun w=>oF s (w++[127]) w:=by unfold gN;rw[if_neg (by omega),if_neg (by omega),if_pos h]
open Classical in
theorem rB(h:x.Code=14):gN v x s labs=(gM labs x.A).bind fun w=>if ∀n∈x.L,gM labs n=some w then(fe s (w++[127])).map fun _=>gA else none:=by unfold gN;rw[if_neg (by omega),if_neg (by omega),if_neg (by omega),if_pos h]
theorem L5 (h : x.Code = 15) : gN v x s labs = (fe s v.cT.R).map fun _ => gA := by            unfold gN;iterate 4 rw[if_neg (by omega)]
                                                                                              rw[if_pos h]
theorem Fu(h:x.Code=16):gN v x s labs=(dI v.aB x.A).bind fun g=>oF s g.P g.R:=by
 unfold gN;iterate 5 rw[if_neg (by omega)]
 rw[if_pos h]
open Classical in
theorem AE(h:x.Code=17):gN v x s labs=(dI v.cY x.A).bind fun g=>if x.B=0∧v.Table then oF s (g.P++[127]) g.R else none:=by
 unfold gN;iterate 6 rw[if_neg (by omega)]
 rw[if_pos h]
theorem L6(h:x.Code=26):gN v x s labs=(jl s 0).map Prod.fst:=by
 unfold gN;iterate 7 rw[if_neg (by omega)]
 rw[if_pos h]
theorem AF(h:x.Code=27):gN v x s labs=(fe s [127]).bind fun s=>(jl s 0).bind fun p=>(jl p.1 p.2).map fun p=>cQ p.1 [p.2]:=by
 unfold gN;iterate 8 rw[if_neg (by omega)]
 rw[if_pos h]
theorem L7(h:x.Code=32):gN v x s labs=(dI v.aY x.A).map fun t=>cQ s [t]:=by
 unfold gN;iterate 9 rw[if_neg (by omega)]
 rw[if_pos h]
theorem Fv(h:x.Code=33):gN v x s labs=(dI v.aY x.A).bind fun t=>fe s [t]:=by
 unfold gN;iterate 10 rw[if_neg (by omega)]
 rw[if_pos h]
theorem Fw(h:x.Code=34):gN v x s labs=(dI v.aY x.A).bind fun t=>oF s [t] [t]:=by
 unfold gN;iterate 11 rw[if_neg (by omega)]
 rw[if_pos h]
theorem L8(h:x.Code=35):gN v x s labs=(dI v.aH x.A).map fun t=>cQ s [t]:=by
 unfold gN;iterate 12 rw[if_neg (by omega)]
 rw[if_pos h]
open Classical in
theorem AG(h:x.Code=36):gN v x s labs=(dI v.aH x.A).bind fun t=>(dI v.fP x.A).bind fun m=>if m then fe s [t] else none:=by
 unfold gN;iterate 13 rw[if_neg (by omega)]
 rw[if_pos h]
def fH(c:Int):Prop:=32≤c∧c≤36
def di(c:Int):Prop:=c=16∨c=17∨c=26∨c=27
def iR(c:Int):Prop:=c=0∨c=2∨c=3∨c=4∨c=5∨c=11∨c=12∨c=13∨c=14∨c=15
theorem CH(h1:¬iR x.Code)(h2:¬fH x.Code)(h3:¬di x.Code)(hf:aP x.Code<8∨10<aP x.Code):gN v x s labs=oF s (dR x.Code).1 (dR x.Code).2:=by
 unfold iR at h1;unfold fH at h2;unfold di at h3
 unfold gN;iterate 14 rw[if_neg (by omega)]
 rw[if_pos hf]
theorem vu(h1:¬iR x.Code)(h2:¬fH x.Code)(h3:¬di x.Code)(hf:¬(aP x.Code<8∨10<aP x.Code)):gN v x s labs=nW v x s:=by
 unfold iR at h1;unfold fH at h2;unfold di at h3
 unfold gN;iterate 14 rw[if_neg (by omega)]
 rw[if_neg hf]
open Classical in
theorem wM(hf:aP x.Code=8):nW v x s=(dI v.bX x.A).bind fun wa=>if (¬wa∧4294967295<x.B)∨jJ x.Code<2^x.eT.toNat then none else oF s (eD wa::(dR x.Code).1.tail) (dR x.Code).2:=by
 unfold nW;refine Option.bind_congr fun wa _=>?_;rw[if_neg (by omega),Option.bind_some,if_pos hf]
theorem Rk{c:Int}(h:aP c=9):c=63∨c=64∨c=64523:=by
 unfold aP at h
 repeat' split at h
 all_goals omega
theorem OB{c:Int}(h:aP c=10):c=64522:=by
 unfold aP at h
 repeat' split at h
 all_goals omega
theorem H9(h:x.Code=63):nW v x s=(dI v.bX x.A).bind fun wa=>some (cQ s [eD wa]):=by
 unfold nW;have hf:aP x.Code=9:=by rw[h];decide
 refine Option.bind_congr fun wa _=>?_;rw[if_neg (by omega),Option.bind_some,if_neg (by omega),if_pos h,h];rfl
theorem AH(h:x.Code=64):nW v x s=(dI v.bX x.A).bind fun wa=>oF s [eD wa] [eD wa]:=by
 unfold nW;have hf:aP x.Code=9:=by rw[h];decide
 refine Option.bind_congr fun wa _=>?_;rw[if_neg (by omega),Option.bind_some,if_neg (by omega),if_neg (by omega),if_pos h]
theorem tR(h:x.Code=64523):nW v x s=(dI v.bX x.A).bind fun wa=>fe s [eD wa,127,eD wa]:=by
 unfold nW;have hf:aP x.Code=9:=by rw[h];decide
 refine Option.bind_congr fun wa _=>?_;rw[if_neg (by omega),Option.bind_some,if_neg (by omega),if_neg (by omega),if_neg (by omega),if_pos h,h];exact uF _ _
theorem qq(h:x.Code=64522):nW v x s=(dI v.bX x.A).bind fun wa=>(dI v.bX x.B).bind fun wb=>fe s [eD wa,eD wb,eD (wa∧wb)]:=by
 unfold nW;have hf:aP x.Code=10:=by rw[h];decide
 refine Option.bind_congr fun wa _=>?_;rw[if_pos hf];refine Option.bind_congr fun wb _=>?_;rw[if_neg (by omega),if_neg (by omega),if_neg (by omega),if_neg (by omega),h];exact uF _ _
end
theorem sK{w:Prop}:((eD w).toNat:Int)=126↔w:=by
 unfold eD;split<;>simp_all
noncomputable abbrev gO(m:aR)(f:bU)(x:aq)(fs:List fm)(b:fm):Option (List fm):=eg (·.Code) iG (gN (bJ m f)) x fs b
section
variable {m:aR} {f:bU} {x:aq} {fs:List fm} {b:fm}
theorem wN(h11:x.Code≠11)(h5:x.Code≠5)(ho:¬aV x.Code):gO m f x fs b=(gN (bJ m f) x b.st ((fs++[b]).map sE)).map fun s=>fs++[{b with st:=s}]:=by
 unfold gO eg;rw[if_neg h11,if_neg h5,if_neg ho]
open Classical in
theorem rC(ho:aV x.Code):gO m f x fs b=(if x.Code=4 then fe b.st [127] else some b.st).map fun s=>fs++[{b with st:=s}]++[⟨x.Code=3,x.Code=4,iG x,([],False)⟩]:=by
 have ho':=ho;unfold aV at ho';have e1:¬x.Code=11:=by omega
 have e2:¬x.Code=5:=by omega
 unfold gO eg;rw[if_neg e1,if_neg e2,if_pos ho]
theorem Fx(h:x.Code=5)(hc:yc b.res b.st):gO m f x fs b=some (fs++[{b with is:=False,st:=([],False)}]):=by
 have e1:¬x.Code=11:=by omega
 unfold gO eg;rw[if_neg e1,if_pos h,if_pos (show ru b from hc)]
theorem yd(h:x.Code=5)(hc:¬yc b.res b.st):gO m f x fs b=none:=by
 have e1:¬x.Code=11:=by omega
 unfold gO eg;rw[if_neg e1,if_pos h,if_neg (show ¬ru b from hc)]
theorem JF(h:x.Code=11)(hc:yc b.res b.st∧(b.is→b.res=[])):gO m f x fs b=some (match fs.getLast? with|none=>[]|some t=>fs.dropLast++[{t with st:=cQ t.st b.res}]):=by
 unfold gO eg;rw[if_pos h,if_pos (show ru b∧(b.is→b.res=[]) from hc)];try rfl
theorem AI(h:x.Code=11)(hc:¬(yc b.res b.st∧(b.is→b.res=[]))):gO m f x fs b=none:=by
 unfold gO eg;rw[if_pos h,if_neg (show ¬(ru b∧(b.is→b.res=[])) from hc)]
theorem L9(fs:List fm)(r:List UInt8):JD (match fs.getLast? with|none=>[]|some t=>fs.dropLast++[{t with st:=cQ t.st r}]) (cL fs++r) (iH fs):=by
 rcases List.eq_nil_or_concat fs with rfl|⟨gs,t,rfl⟩
 · exact⟨rfl,fun h=>absurd rfl h⟩
 · simp only[List.concat_eq_append,List.getLast?_append,List.getLast?_singleton,Option.some_or,List.dropLast_concat]
   refine⟨?_,fun _=>?_⟩
   · rw[jK,jK];first|done|rfl
   · rw[fX,fX];first|done|simp[cQ,List.append_assoc]
theorem zA(fs:List fm)(b:fm)(s:jW)(x:aq):JD (fs++[{b with st:=s}]++[⟨x.Code=3,x.Code=4,iG x,([],False)⟩]) (cL fs++s.1) ((iH fs++[j9 (cL fs).length b s])++[j9 (cL fs++s.1).length ⟨x.Code=3,x.Code=4,iG x,([],False)⟩ ([],False)]):=
 ⟨by rw[jK,jK,fX];rfl,fun _=>by rw[fX,fX];simp⟩
theorem JG(fs:List fm)(b:fm):JD (fs++[{b with is:=False,st:=([],False)}]) (cL fs) (iH fs++[j9 (cL fs).length ⟨b.loop,False,b.res,([],False)⟩ ([],False)]):=
 ⟨by rw[jK],fun _=>by rw[fX];simp⟩
end
end Go.Hl
end
section
namespace Go.Hl
variable {s:jW} {s':jW}
theorem jX{i o:List UInt8}(h:oF s i o=some s'):s'.1.length≤s.1.length+o.length:=by
 unfold oF at h;obtain⟨t,h1,rfl⟩:=Option.map_eq_some_iff.1 h;rw[nr];have:=rA h1;omega
theorem tS{w:List UInt8}(h:((fe s w).map fun _=>gA)=some s'):s'.1.length≤s.1.length:=by
 obtain⟨t,h1,rfl⟩:=Option.map_eq_some_iff.1 h;simp[gA]
theorem zC{L:List (List UInt8)}{n:Int}{w:List UInt8}(h:gM L n=some w):w∈L:=by
 unfold gM at h
 split at h
 · exact List.mem_of_getElem? h
 · cases h
theorem CI{α:Type}{L:List α}{n:Int}{w:α}(h:dI L n=some w):w∈L:=by
 unfold dI at h
 split at h
 · exact List.mem_of_getElem? h
 · cases h
variable {v:Fo} {x:aq}
theorem JH(ht:(dR x.Code).2.length≤20)(h:nW v x s=some s'):s'.1.length≤s.1.length+20:=by
 unfold nW at h;obtain⟨wa,_,h⟩:=Option.bind_eq_some_iff.1 h;obtain⟨wb,_,h⟩:=Option.bind_eq_some_iff.1 h
 split at h
 · split at h
   · cases h
   · have:=jX h;omega
 split at h
 · have:=jX h;simp only[List.length_cons,List.length_nil] at this;omega
 split at h
 · have:=jX h;simp only[List.length_cons,List.length_nil] at this;omega
 split at h
 · have:=jX h;omega
 · have:=jX h;omega
theorem Ma{labs:List (List UInt8)}(hl:∀w∈labs,w.length≤20)(hF:∀g∈v.aB,g.R.length≤20)(hS:∀g∈v.cY,g.R.length≤20)(ht:(dR x.Code).2.length≤20)
    (h:gN v x s labs=some s'):s'.1.length≤s.1.length+20:=by
  unfold gN at h;by_cases c0:x.Code=0
  · rw[if_pos c0] at h
    cases h;simp[gA]
  rw[if_neg c0] at h;by_cases c1:x.Code=12
  · rw[if_pos c1] at h
    obtain⟨w,hw,h⟩:=Option.bind_eq_some_iff.1 h;have:=tS h;omega
  rw[if_neg c1] at h;by_cases c2:x.Code=13
  · rw[if_pos c2] at h
    obtain⟨w,hw,h⟩:=Option.bind_eq_some_iff.1 h;have:=jX h;have:=hl w (zC hw);omega
  rw[if_neg c2] at h;by_cases c3:x.Code=14
  · rw[if_pos c3] at h
    obtain⟨w,hw,h⟩:=Option.bind_eq_some_iff.1 h
    split at h
    · have:=tS h;omega
    · cases h
  rw[if_neg c3] at h;by_cases c4:x.Code=15
  · rw[if_pos c4] at h
    have:=tS h;omega
  rw[if_neg c4] at h;by_cases c5:x.Code=16
  · rw[if_pos c5] at h
    obtain⟨g,hg,h⟩:=Option.bind_eq_some_iff.1 h;have:=jX h;have:=hF g (CI hg);omega
  rw[if_neg c5] at h;by_cases c6:x.Code=17
  · rw[if_pos c6] at h
    obtain⟨g,hg,h⟩:=Option.bind_eq_some_iff.1 h
    split at h
    · have:=jX h;have:=hS g (CI hg);omega
    · cases h
  rw[if_neg c6] at h;by_cases c7:x.Code=26
  · rw[if_pos c7] at h
    obtain⟨p,h1,rfl⟩:=Option.map_eq_some_iff.1 h;have:=lK h1;omega
  rw[if_neg c7] at h;by_cases c8:x.Code=27
  · rw[if_pos c8] at h
    obtain⟨p,h1,h⟩:=Option.bind_eq_some_iff.1 h;obtain⟨q,h2,h⟩:=Option.bind_eq_some_iff.1 h;obtain⟨r,h3,rfl⟩:=Option.map_eq_some_iff.1 h;have:=rA h1;have:=lK h2;have:=lK h3
    rw[nr];simp only[List.length_cons,List.length_nil];omega
  rw[if_neg c8] at h;by_cases c9:x.Code=32
  · rw[if_pos c9] at h
    obtain⟨t,_,rfl⟩:=Option.map_eq_some_iff.1 h;rw[nr];simp only[List.length_cons,List.length_nil];omega
  rw[if_neg c9] at h;by_cases zD:x.Code=33
  · rw[if_pos zD] at h
    obtain⟨t,_,h⟩:=Option.bind_eq_some_iff.1 h;have:=rA h;omega
  rw[if_neg zD] at h;by_cases BH:x.Code=34
  · rw[if_pos BH] at h
    obtain⟨t,_,h⟩:=Option.bind_eq_some_iff.1 h;have:=jX h;simp only[List.length_cons,List.length_nil] at this;omega
  rw[if_neg BH] at h;by_cases OC:x.Code=35
  · rw[if_pos OC] at h
    obtain⟨t,_,rfl⟩:=Option.map_eq_some_iff.1 h;rw[nr];simp only[List.length_cons,List.length_nil];omega
  rw[if_neg OC] at h;by_cases OD:x.Code=36
  · rw[if_pos OD] at h
    obtain⟨t,_,h⟩:=Option.bind_eq_some_iff.1 h;obtain⟨mu,_,h⟩:=Option.bind_eq_some_iff.1 h
    split at h
    · have:=rA h;omega
    · cases h
  rw[if_neg OD] at h;by_cases Sj:aP x.Code<8∨10<aP x.Code
  · rw[if_pos Sj] at h
    have:=jX h;omega
  · rw[if_neg Sj] at h;exact JH ht h
def AJ(fs:List fm):Prop:=∀k∈fs,k.res.length≤20
theorem CJ{fs:List fm}(h:AJ fs):∀w∈fs.map sE,w.length≤20:=fun w hw=>by
 obtain⟨k,hk,rfl⟩:=List.mem_map.1 hw;unfold sE
 split
 · simp
 · exact h k hk
theorem Fy{fs fs':List fm}{b:fm}{rr:aq→List UInt8}(hr:(rr x).length≤20)(hb:AJ (fs++[b]))(hF:∀g∈v.aB,g.R.length≤20)(hS:∀g∈v.cY,g.R.length≤20)(ht:(dR x.Code).2.length≤20)
    (h:eg (·.Code) rr (gN v) x fs b=some fs'):AJ fs'∧o8 fs'≤o8 (fs++[b])+20∧fs'.length≤fs.length+2:=by
  have x5:b.res.length≤20:=hb b (by simp);have N6:AJ fs:=fun k hk=>hb k (by simp[hk]);rw[jH];unfold eg at h
  split at h
  · split at h
    · simp only[Option.some.injEq] at h
      subst h;rcases List.eq_nil_or_concat fs with rfl|⟨gs,t,rfl⟩
      · exact⟨fun k hk=>by simp at hk,by simp[o8],by simp⟩
      · simp only[List.concat_eq_append,List.getLast?_append,List.getLast?_singleton,Option.some_or,List.dropLast_concat]
        refine⟨fun k hk=>?_,?_,by simp⟩
        · rcases List.mem_append.1 hk with hk|hk
          · exact N6 k (by simp[hk])
          · simp only[List.mem_singleton] at hk;subst hk;exact N6 t (by simp)
        · rw[jH,jH];simp only[nr];omega
    · cases h
  split at h
  · split at h
    · simp only[Option.some.injEq] at h
      subst h;refine⟨fun k hk=>?_,?_,by simp⟩
      · rcases List.mem_append.1 hk with hk|hk
        · exact N6 k hk
        · simp only[List.mem_singleton] at hk;subst hk;exact x5
      · rw[jH];simp only[List.length_nil];omega
    · cases h
  split at h
  · obtain⟨s,h1,rfl⟩:=Option.map_eq_some_iff.1 h
    have hs:s.1.length≤b.st.1.length:=by
      split at h1
      · exact rA h1
      · cases h1;exact Nat.le_refl _
    refine⟨fun k hk=>?_,?_,by simp⟩
    · rcases List.mem_append.1 hk with hk|hk
      · rcases List.mem_append.1 hk with hk|hk
        · exact N6 k hk
        · simp only[List.mem_singleton] at hk;subst hk;exact x5
      · simp only[List.mem_singleton] at hk;subst hk;exact hr
    · rw[jH,jH];simp only[List.length_nil];omega
  · obtain⟨s,h1,rfl⟩:=Option.map_eq_some_iff.1 h
    have hs:=Ma (CJ hb) hF hS ht h1;refine⟨fun k hk=>?_,?_,by simp⟩
    · rcases List.mem_append.1 hk with hk|hk
      · exact N6 k hk
      · simp only[List.mem_singleton] at hk;subst hk;exact x5
    · rw[jH];simp only;omega
end Go.Hl
end
section
namespace Go.Hl
open Go.RowKit
def kg(x:mq)(g:SB):List VP:=[aa .i64 x.Code,cW x.Name,aa .i64 x.Form,af (bA g x.sF.length),an 1 aL x.o9]
instance (x:mq) (g:SB):bq (kg x g):=⟨fun q h=>by simp only[kg,List.mem_cons,List.not_mem_nil,or_false] at h;rcases h with h|h|h|h|h<;>subst h<;>infer_instance⟩
theorem OE{c:Int}(h:aP c=8):∃t tl,(dR c).1=t::tl:=by
 have hc:40≤c∧c≤62:=by
  unfold aP at h
  repeat' split at h
  all_goals first|omega|assumption
 unfold dR;rw[if_neg (by omega)];by_cases h1:c=40∨44≤c∧c≤47
 · rw[if_pos h1];exact⟨_,_,rfl⟩
 rw[if_neg h1];by_cases h2:c=41∨48≤c∧c≤53
 · rw[if_pos h2];exact⟨_,_,rfl⟩
 rw[if_neg h2];by_cases h3:(c=54∨c=58)∨c=59
 · rw[if_pos h3];exact⟨_,_,rfl⟩
 rw[if_neg h3,if_pos hc.2];exact⟨_,_,rfl⟩
theorem OF{a:Int}(h:a<8):IntKind.i64.wrap (1*2^a.toNat)=2^a.toNat:=by
 have:a.toNat=0∨a.toNat=1∨a.toNat=2∨a.toNat=3∨a.toNat=4∨a.toNat=5∨a.toNat=6∨a.toNat=7:=by omega
 rcases this with h|h|h|h|h|h|h|h<;>rw[h]<;>decide
theorem OG{a:Int}(h:¬a<8):(256:Int)≤2^a.toNat:=by
 have h8:8≤a.toNat:=by omega
 have h9:2^8≤2^a.toNat:=Nat.pow_le_pow_right (by decide) h8;have:((2^a.toNat:Nat):Int)=2^a.toNat:=by simp
 omega
theorem JI(c:Int):jJ c≤8:=by unfold jJ;repeat (first|split|omega)
variable {x:aq}
theorem wO:(x.eT<8∧2^x.eT.toNat≤(iC x.Code).getD 0)↔¬jJ x.Code<2^x.eT.toNat:=by
 rw[(Jz x.Code).1];constructor
 · rintro⟨h1,h2⟩;omega
 · intro h
   refine⟨Classical.byContradiction fun h8=>?_,by omega⟩;have:=OG h8;have:=JI x.Code;omega
abbrev PZ:=SB×SB×List UInt8×List JB
abbrev WU(cb:Nat)(m:aR)(f:bU)(z:PZ):List HP:=L1 cb m f z.1 z.2.1 z.2.2.1 z.2.2.2
def Ia(m:aR)(f:bU)(x:aq)(fs:List fm)(b:fm)(z:PZ):Prop:=∃fs',gO m f x fs b=some fs'∧JD fs' z.2.2.1 z.2.2.2
variable {fs:List fm}
theorem fY{m:aR}{f:bU}{b:fm}{gs gb:SB}{s:jW}(h11:x.Code≠11)(h5:x.Code≠5)(ho:¬aV x.Code)(h:gN (bJ m f) x b.st ((fs++[b]).map sE)=some s):
    Ia m f x fs b (gs,gb,cL fs++s.1,iH fs++[j9 (cL fs).length b s]):=⟨_,by rw[wN h11 h5 ho,h];rfl,L4 fs b s⟩
theorem dm{m:aR}{f:bU}{b:fm}(h11:x.Code≠11)(h5:x.Code≠5)(ho:¬aV x.Code)(h:gN (bJ m f) x b.st ((fs++[b]).map sE)=none):gO m f x fs b=none:=by rw[wN h11 h5 ho,h];rfl
theorem OH{n:Int}{w:List UInt8}(h:AJ fs)(hw:gM (fs.map sE) n=some w):w.length≤20:=CJ h w (zC hw)
end Go.Hl
end
section
namespace Go.Hl
def mz(x:aq):Prop:=x.eT=0∧x.L=[]
def kD(x:aq)(f:Int):Prop:=
 (f=0∧x.A=0∧x.B=0∧mz x)∨(f=1∧(x.A=64∨x.A=127∨x.A=126)∧x.B=0∧mz x)∨
 ((f=2∨f=4∨f=6∨f=7∨f=9)∧th x.A∧x.B=0∧mz x)∨
 (f=3∧th x.A∧(∀n∈x.L,th n)∧x.L.length≤100∧x.B=0∧x.eT=0)∨
 ((f=5∨f=10)∧th x.A∧th x.B∧mz x)∨(f=8∧th x.A∧0≤x.eT∧x.eT≤31∧x.L=[])∨
 (f=11∧(x.Code=66∨th x.A)∧x.B=0∧mz x)
theorem CK{x:aq}(hA:0≤x.A)(hB:0≤x.B)(hf:0≤aP x.Code∧aP x.Code≤11)(WV:aP x.Code=11→x.Code=65∨x.Code=66)(Rl:x.Code=65→aP x.Code=11):
    iQ x↔iF x.Code≠[]∧kD x (aP x.Code):=by
  unfold iQ kD mz;generalize aP x.Code=f at*;refine and_congr_right fun _=>?_;simp only[th];have hL:x.L=[]→∀n∈x.L,n≤4294967295:=fun e n h=>by rw[e] at h;cases h
  obtain⟨h0,h1⟩:=hf;have hc:f=0∨f=1∨f=2∨f=3∨f=4∨f=5∨f=6∨f=7∨f=8∨f=9∨f=10∨f=11:=by omega
  generalize hQ:(∀n∈x.L,n≤4294967295)=Q at*;generalize hE:(x.L=[])=E at*;have hlen:E→x.L.length≤100:=fun h=>by rw[←hE] at h;simp[h]
  rcases hc with rfl|rfl|rfl|rfl|rfl|rfl|rfl|rfl|rfl|rfl|rfl|rfl<;>simp at Rl WV ⊢ <;>(by_cases e:E<;>by_cases q:Q<;>simp[e,q] at hL hlen ⊢)<;>omega
def aZ(out:List (Nat×UInt8))(t:UInt8):List (Nat×UInt8):=
 match out.getLast? with
 |none=>[(1,t)]
 |some p=>if p.2=t then out.dropLast++[(p.1+1,t)] else out++[(1,t)]
theorem nY(o:List (Nat×UInt8))(n:Nat)(t t':UInt8):aZ (o++[(n,t)]) t'=o++aZ [(n,t)] t':=by
 simp only[aZ,List.getLast?_append,List.getLast?_singleton,Option.some_or]
 split<;>simp_all
theorem JJ(l:List UInt8):∀(o:List (Nat×UInt8)) (n:Nat) (t:UInt8),l.foldl aZ (o++[(n,t)])=o++l.foldl aZ [(n,t)]:=by
 induction l with
 |nil=>intros;rfl
 |cons a l ih=>
  intro o n t;simp only[List.foldl_cons,nY];by_cases h:t=a
  · subst h
    have e:aZ [(n,t)] t=[(n+1,t)]:=by simp[aZ]
    rw[e,ih]
  · have e:aZ [(n,t)] a=[(n,t)]++[(1,a)]:=by simp[aZ,h]
    rw[e,ih [(n,t)] 1 a,←List.append_assoc,ih (o++[(n,t)]) 1 a,List.append_assoc]
theorem CL(t:UInt8)(l:List UInt8):∃n r,pn (t::l)=(n+1)::r:=by
 simp only[pn]
 split
 · split
   · exact⟨_,_,rfl⟩
   · exact⟨0,_,rfl⟩
 · exact⟨0,[],rfl⟩
theorem Mb(l:List UInt8):∀(n:Nat) (t:UInt8) (k:Nat) (r:List Nat),pn (t::l)=(k+1)::r→(l.foldl aZ [(n,t)]).map Prod.fst=(n+k)::r:=by
 induction l with
 |nil=>intro n t k r h;simp[pn] at h;obtain⟨rfl,rfl⟩:=h;simp
 | cons a l ih=>
  intro n t k r h;obtain⟨n2,r2,e2⟩:=CL a l
  have h':pn (t::a::l)=if a=t then(n2+1+1)::r2 else 1::(n2+1)::r2:=by
   rw[pn];simp only[e2]
  rw[h'] at h;simp only[List.foldl_cons];by_cases e:a=t
  · subst e
    simp only[if_true,List.cons.injEq] at h;have e3:aZ [(n,a)] a=[(n+1,a)]:=by simp[aZ]
    rw[e3,ih (n+1) a n2 r2 e2];obtain⟨h1,rfl⟩:=h
    congr 1;omega
  · simp only[e,if_false,List.cons.injEq] at h
    have e3:aZ [(n,t)] a=[(n,t)]++[(1,a)]:=by simp[aZ,Ne.symm e]
    rw[e3,JJ,List.map_append,ih 1 a n2 r2 e2];obtain⟨h1,rfl⟩:=h;simp;omega
theorem OI(l:List UInt8):(l.foldl aZ []).map Prod.fst=pn l:=by
 cases l with
 |nil=>rfl
 |cons t l=>
  obtain⟨n,r,e⟩:=CL t l;have:aZ [] t=[(1,t)]:=rfl;rw[List.foldl_cons,this,Mb l 1 t n r e,e];congr 1;omega
def OJ(b:Bool):Nat:=if b then 1 else 0
theorem Rm(b:Bool):OJ b≤1:=by cases b<;>decide
theorem CM(A i:Nat):OJ (A.testBit i)=(A/2^i)%2:=by
 rw[Nat.testBit,Nat.shiftRight_eq_div_pow,Nat.and_comm,Nat.and_one_is_mod];rcases Nat.mod_two_eq_zero_or_one (A/2^i) with h|h<;>rw[h]<;>rfl
theorem nZ(B i:Nat):B%2^(i+1)=B%2^i+2^i*OJ (B.testBit i):=by
 rw[CM,Nat.pow_succ,Nat.mod_mul]
end Go.Hl
end
