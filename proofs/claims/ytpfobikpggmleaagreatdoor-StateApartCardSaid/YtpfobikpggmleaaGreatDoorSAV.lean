/-
  What the statement's proof leans on, several texts in one (packed by a program).
-/
import Derived.Test.YtpfobikpggmleaaGreatDoorSAU
set_option linter.all false
set_option maxRecDepth 1000000
set_option maxHeartbeats 4000000
section
namespace Go.Proofs.YtpfobikpggmleaaGreatDoor
open Go.Hl Go.RowKit
theorem Nb {v:om} {n:Nat} {l:List aA} {yT d base:Nat} {labs:List (List UInt8)} {res:List UInt8} {gs:SB} {hs:List Nat} (av:l.length-yT<n) (hp1:PY v l) (hp2:yT≤l.length) (fI:base≤20*yT) (oe:hs.length≤yT) (yE:d≤64) (Ql:labs.length≤d+1) (Rm:∀w∈labs,w.length≤20) (Xl:res.length≤20) (hp9:oo (fun x:aA=>x.Code) (l.drop yT) d):cw Tryz.prog 114 [aC (eB v),ai 5 aK (l),aC [ag .i64 (yT:Int),ag .i64 0,aa (bq gs hs.length)],ag .i64 ((base:Int)),ai 1 aj (res),ai 1 dP labs] [au gs 1 iS hs] (γ:=Int×Int×SB×List Nat) (UL v l yT labs res base hs) (fun g=>[au g.2.2.1 1 iS g.2.2.2]) (fun g=>aC [ag .i64 g.1,ag .i64 g.2.1,aa (bq g.2.2.1 g.2.2.2.length)]):=by
 induction n generalizing yT d base labs res gs hs
 case zero=>omega
 rename_i n ih
 refine In 188 Tryz.func114 fun _ _ _=> ?_
 have Kl:=hp1.len
 refine Z3 ?_
 refine .n (bT (.t rfl)) rfl fun b8 _=> ?_
 refine .n (ax FZ.out) rfl fun Rl _=> ?_
 refine Z6 ?_
 refine .n (ax FZ.out) rfl fun UO _=> ?_
 refine Z3 ?_
 refine .own (aB.Hv (cs':=bg ([],False) (base:Int)) (.cons (aG 1 aj) (.cons wY (.cons (.refl _) .nil)))) ?_
 refine Z2 ?_
 refine .aT (σ:=Nat×SB×List Nat×dw) (fun z=>[az UO (bg z.2.2.2 (base:Int)),az Rl (List.map aa [.int .i64 0, .int .i64 0, .slice none 0 0]),az b8 [ag .i64 (z.1:Int),ag .i64 0,aa (bq z.2.1 (z.2.2.1).length)],au z.2.1 1 iS (z.2.2.1)]) (fun z=>[]) (fun z=>yT≤z.1∧z.1≤l.length∧base+z.2.2.2.1.length≤20*z.1∧z.2.2.1.length≤z.1∧∃pre,z.2.2.1=hs++pre∧p6 v l labs res base d yT ([],False) z.1 z.2.2.2 pre) (fun z=>l.length-z.1) (yT,gs,hs,([],False)) ⟨Nat.le_refl _,hp2,by simpa using fI,oe,[],by simp,p6.refl hp9⟩ rfl ?_ ?_
 · exact (.refl _ _)
 rintro ⟨i,gh,hh,s⟩ ⟨hai,oQ,Qx,hhl,pre,Rf,hrun⟩
 simp only at hai oQ Qx hhl Rf hrun ⊢
 refine cK ?_
 refine Cd (fun c0=> ?_) fun c0=> ?_
 ·
  obtain ⟨x,hx⟩:=ah (xs:=l) (k:=i) (by omega)
  have Cw:=hp1.ins x (List.mem_of_getElem? hx)
  refine Z8 ?_
  refine .p (cI i (h:=hx)) rfl ?_
  refine Z1 ?_
  refine .n (ax FZ.out) rfl fun b14 _=> ?_
  refine Z3 ?_
  refine .share (t:=14) (i:=0) rfl rfl ?_
  refine Z9 ?_
  refine .p ((ep (.t rfl) (.t rfl) dL).le (af.int (show (base:Int)+(s.1.length:Int)=((base+s.1.length:Nat):Int) by omega))) rfl ?_
  refine .p (cB iS [base+s.1.length]) rfl ?_
  refine .n (aD (i:=3) FU.out FU.out FC.out rfl FZ.out rfl FY.out (.t rfl) (.t rfl) rfl (by simp only [List.length_cons,List.length_nil];omega) (by simp only [List.length_cons,List.length_nil];omega)) rfl fun xe _=> ?_
  refine Z22 ?_
  refine Cd (fun c1=> ?_) fun c1=> ?_
  ·
   refine Z4 ?_
   refine .n (cE (h:=bW (s:=s) (l:=res) (by omega))) rfl fun ME Uv=> ?_
   refine Z7 ?_
   refine .cut (σ:=Int) (fun _=>[az UO (bg ME.1 (base:Int)),az Rl (List.map aa [.int .i64 0, .int .i64 0, .slice none 0 0]),az b8 [ag .i64 (i:Int),ag .i64 0,aa (bq xe (hh++[base+s.1.length]).length)],au xe 1 iS (hh++[base+s.1.length])]) (fun e=>[(15,ag .i64 e)]) (fun e=>e=0↔∃s',cQ s res=some s'∧s'.1=[]) ?_ ?_
   ·
    refine dM ?_
    refine Cd (fun c2=> ?_) fun c2=> ?_
    ·
     refine Z3 ?_
     refine .meet 5 (Sk Uv c2) rfl (.get rfl (af.refl _) (.keep 9 rfl rfl))
    refine Z1 ?_
    refine .meet ME.2 (UN Uv c2) rfl (.get rfl (af.refl _) (.keep 8 rfl rfl))
   intro e he
   refine EC ?_
   refine Post.aP rfl (((i:Int),e,xe,hh++[base+s.1.length])) (by by_cases qZ:e=0;exact .inl ⟨qZ,pre++[base+s.1.length],i,rfl,hai,oQ,by (show (hh++[base+s.1.length]).length≤i+1;rw [List.length_append];simp only [List.length_cons,List.length_nil];omega),hrun.fin (Si hx c1 (he.1 qZ)),by (show hh++[base+s.1.length]=_;rw [Rf,List.append_assoc])⟩;exact .inr ⟨qZ,hrun.none (JD hx c1 (fun h=>qZ (he.2 h)))⟩) (aB.dD [3] [0,1,2] rfl rfl) (.ra (i:=1) FA.out FC.out rfl rfl rfl rfl) ?_
   exact af.refl _
  refine nZ ?_
  refine Cd (fun c3=> ?_) fun c3=> ?_
  ·
   refine Z6 ?_
   refine .n (cE (h:=GK (labs:=labs) ⟨hp1.env,Cw,by omega,by omega,Rm⟩ (by omega))) rfl fun VB Xa=> ?_
   refine iW ?_
   refine Cd (fun c4=> ?_) fun c4=> ?_
   ·
    have hno:ia v x s labs=none:=Xa.1.elim (fun h=>absurd h.1 c4) (fun h=>h.2)
    refine La ?_
    refine Post.aP rfl (((i:Int),VB.2,xe,hh++[base+s.1.length])) (by exact .inr ⟨c4,hrun.none (DO hx c1 (by unfold aQ;omega) hno)⟩) (aB.dD [3] [0,1,2] rfl rfl) (.ra (i:=1) FA.out FC.out rfl rfl rfl rfl) ?_
    exact af.refl _
   have rB:ia v x s labs=some VB.1:=Xa.1.elim (fun h=>h.2) (fun h=>absurd h.1 c4)
   refine Z6 ?_
   refine .p ((ep (.t rfl) (.c _) dL).le (af.int (show (i:Int)+1=((i+1:Nat):Int) by omega))) rfl ?_
   refine Z7 ?_
   refine .round (i+1,xe,hh++[base+s.1.length],VB.1) ⟨by show yT≤i+1;omega,by show i+1≤_;omega,by (show base+VB.1.1.length≤20*(i+1);have:=Xa.2;omega),by (show (hh++[base+s.1.length]).length≤i+1;rw [List.length_append];simp only [List.length_cons,List.length_nil];omega),pre++[base+s.1.length],by (show hh++[base+s.1.length]=_;rw [Rf,List.append_assoc]),hrun.trans (p6.plain hrun.1 hx c1 (by unfold aQ;omega) rB)⟩ (by show l.length-(i+1)<l.length-i;omega) rfl ?_
   exact ((.keep 55 rfl rfl))
  have hop:aQ x.Code:=by unfold aQ;omega
  have hin:=UM hrun.1 hx hop
  have hlw:∀w∈labs++[uF x],w.length≤20:=fun w hw=>by (rcases List.mem_append.1 hw with h|h;exact Rm w h;(simp only [List.mem_singleton] at h;subst h;have:=Sh x;omega))
  refine Z2 ?_
  refine .cut (σ:=dw) (fun s1=>[az UO (bg s1 (base:Int)),az Rl (List.map aa [.int .i64 0, .int .i64 0, .slice none 0 0]),az b8 [ag .i64 (i:Int),ag .i64 0,aa (bq xe (hh++[base+s.1.length]).length)],au xe 1 iS (hh++[base+s.1.length])]) (fun s1=>[(15,jA)]) (fun s1=>Tg x s (some s1)∧s1.1.length≤s.1.length) ?_ ?_
  ·
   refine Z7 ?_
   refine Cd (fun c5=> ?_) fun c5=> ?_
   ·
    refine Z3 ?_
    refine .p (cB aj [127]) rfl ?_
    refine .n (cE (h:=bW (s:=s) (l:=[127]) (by omega))) rfl fun g98 h98=> ?_
    refine lg ?_
    refine Cd (fun c6=> ?_) fun c6=> ?_
    ·
     refine EC ?_
     refine Post.aP rfl (((i:Int),g98.2,xe,hh++[base+s.1.length])) (by exact .inr ⟨c6,hrun.none (DP hx hop ⟨fun _=>(h98.no c6).symm,fun h=>absurd c5 h⟩)⟩) (aB.dD [3] [0,1,2] rfl rfl) (.ra (i:=1) FA.out FC.out rfl rfl rfl rfl) ?_
     exact af.refl _
    refine Z1 ?_
    refine .meet g98.1 ⟨⟨fun _=>(h98.ok (Classical.not_not.1 c6)).symm,fun h=>absurd c5 h⟩,h98.2⟩ rfl (.get rfl af.any (.keep 12 rfl rfl))
   refine Z1 ?_
   refine .meet s ⟨⟨fun h=>absurd h c5,fun _=>rfl⟩,Nat.le_refl _⟩ rfl (.get rfl af.any (.keep 3 rfl rfl))
  intro s1 ⟨Xy,hs1l⟩
  refine Z6 ?_
  refine .cut (σ:=Unit) (fun _=>[az UO (bg s1 (base:Int)),az Rl (List.map aa [.int .i64 0, .int .i64 0, .slice none 0 0]),az b8 [ag .i64 (i:Int),ag .i64 0,aa (bq xe (hh++[base+s.1.length]).length)],au xe 1 iS (hh++[base+s.1.length])]) (fun _=>[(16,ai 1 aj (eD x))]) (fun _=>True) ?_ ?_
  ·
   refine Z7 ?_
   refine Cd (fun c7=> ?_) fun c7=> ?_
   ·
    refine Z3 ?_
    refine .p ((eP FU.out FU.out (.t rfl)).le (af.int (Ks Cw.A0))) rfl ?_
    refine .p (cB aj [UInt8.ofNat x.A.toNat]) rfl ?_
    refine Z2 ?_
    refine .meet () trivial rfl (.get rfl (af.of_eq (by rw [show eD x=[UInt8.ofNat x.A.toNat] from if_neg c7])) (.keep 8 rfl rfl))
   refine Z1 ?_
   refine .meet () trivial rfl (.get rfl ((show eD x=[] from if_pos (Classical.not_not.1 c7))▸aG 1 aj) (.keep 3 rfl rfl))
  intro _ _
  refine .cut (σ:=Unit) (fun _=>[az UO (bg s1 (base:Int)),az Rl (List.map aa [.int .i64 0, .int .i64 0, .slice none 0 0]),az b8 [ag .i64 (i:Int),ag .i64 0,aa (bq xe (hh++[base+s.1.length]).length)],au xe 1 iS (hh++[base+s.1.length])]) (fun _=>[(17,ai 1 aj (uF x))]) (fun _=>True) ?_ ?_
  ·
   refine Z7 ?_
   refine Cd (fun c8=> ?_) fun c8=> ?_
   ·
    refine Z4 ?_
    refine .meet () trivial rfl (.get rfl (af.of_eq (by rw [show uF x=eD x from if_neg c8])) (.keep 5 rfl rfl))
   refine Z1 ?_
   refine .meet () trivial rfl (.get rfl ((show uF x=[] from if_pos (Classical.not_not.1 c8))▸aG 1 aj) (.keep 3 rfl rfl))
  intro _ _
  refine Z2 ?_
  refine .n (cq dP ([]:List (List UInt8)) FU.out FC.out rfl FZ.out rfl .nil rfl rfl rfl rfl rfl) rfl fun bx7 _=> ?_
  refine Z1 ?_
  refine .n (aD (i:=0) FU.out FU.out FC.out rfl FZ.out rfl FY.out (.t rfl) (.t rfl) rfl (by simp<;>omega) (by simp<;>omega)) rfl fun bx8 _=> ?_
  refine Z1 ?_
  refine .p (cB dP [uF x]) rfl ?_
  refine .n (fV.er (G:=fun g=>g) (hs1:=fun _=>_) (xs:=fun _=>_) (aD (i:=0) FU.out FU.out FC.out rfl FZ.out rfl FY.out (.t rfl) (.t rfl) rfl (by simp<;>omega) (by simp<;>omega))) rfl fun _ _=> ?_
  refine Z7 ?_
  refine .p ((ep (.t rfl) (.c _) dL).le (af.int (show (i:Int)+1=((i+1:Nat):Int) by omega))) rfl ?_
  refine iW ?_
  refine .p ((ep (.t rfl) (.t rfl) dL).le (af.int (show (base:Int)+(s1.1.length:Int)=((base+s1.1.length:Nat):Int) by omega))) rfl ?_
  refine Z2 ?_
  refine .n (kZ [_,_,_] [3,0,1,2] (h:= @ih (i+1) (d+1) (base+s1.1.length) (labs++[uF x]) (eD x) xe (hh++[base+s.1.length]) (by omega) (by omega) (by omega) (by rw [List.length_append];simp only [List.length_cons,List.length_nil];omega) (by omega) (by simp only [List.length_append,List.length_cons,List.length_nil];omega) hlw (by have:=vR x;omega) (hin.1))) rfl fun Xz Sl=> ?_
  refine .s (gA (i:=3) FC.out rfl (.t rfl) (.t rfl) rfl rfl rfl) ?_
  refine cK ?_
  refine Cd (fun c9=> ?_) fun c9=> ?_
  ·
   unfold UL at Sl
   have hno:=(Sl.resolve_left (fun h=>c9 h.1)).2
   refine dM ?_
   refine Post.aP rfl (Xz) (by exact .inr ⟨c9,hrun.none (DQ hx hop Xy hno)⟩) (aB.dD [0] [1,2,3] rfl rfl) (.ra (i:=2) FA.out FC.out rfl rfl rfl rfl) ?_
   exact af.refl _
  unfold UL at Sl
  obtain ⟨a138,bx9,gs2,hh2⟩:=Xz
  obtain ⟨qZ,h1,k,Nr,hik,Hi,hhk,zh,AR⟩:=Sl.resolve_right (fun h=>c9 h.1)
  simp only at qZ Nr hhk AR
  subst qZ
  subst Nr
  obtain ⟨x2,hx2⟩:=PX hin.1 zh
  have H8:=(List.getElem?_eq_some_iff.1 hx2).1
  refine Z2 ?_
  refine .cut (σ:=Nat×SB×List Nat) (fun z=>[az UO (bg s1 (base:Int)),az Rl (List.map aa [.int .i64 0, .int .i64 0, .slice none 0 0]),az b8 [ag .i64 (z.1:Int),ag .i64 0,aa (bq z.2.1 (z.2.2).length)],au z.2.1 1 iS (z.2.2)]) (fun z=>[]) (fun z=>i+1≤z.1∧z.1<l.length∧z.2.2.length≤z.1+1∧∃pp,z.2.2=(hh++[base+s.1.length])++pp∧p6 v l labs res base d i s (z.1+1) (bC s1 (eD x)) ((base+s.1.length)::pp)) ?_ ?_
  ·
   refine Z5 ?_
   refine .p (cI k (h:=hx2)) rfl ?_
   refine Z5 ?_
   refine Cd (fun lq=> ?_) fun lq=> ?_
   ·
    refine Z4 ?_
    refine .p ((ep (.t rfl) (.c _) dL).le (af.int (show (k:Int)+1=((k+1:Nat):Int) by omega))) rfl ?_
    refine Z1 ?_
    refine .s (iY (i:=3) FC.out (.t rfl) (.t rfl) rfl rfl) ?_
    refine dM ?_
    refine .p ((ep (.t rfl) (.t rfl) dL).le (af.int (show (base:Int)+(s1.1.length:Int)=((base+s1.1.length:Nat):Int) by omega))) rfl ?_
    refine Z2 ?_
    refine .n (cE (h:= @ih (k+1) (d+1) (base+s1.1.length) (labs++[uF x]) (eD x) gs2 (hh2) (by omega) (by omega) (by omega) (by omega) (by omega) (by simp only [List.length_append,List.length_cons,List.length_nil];omega) hlw (by have:=vR x;omega) (GL hrun.1 hx hop zh hx2 lq))) rfl fun XA Sm=> ?_
    refine .s (gA (i:=3) FC.out rfl (.t rfl) (.t rfl) rfl rfl rfl) ?_
    refine Z9 ?_
    refine Cd (fun nc=> ?_) fun nc=> ?_
    ·
     unfold UL at Sm
     have hno:=(Sm.resolve_left (fun h=>nc h.1)).2
     refine dM ?_
     refine Post.aP rfl (XA) (by exact .inr ⟨nc,hrun.none (DT hx hop Xy zh hx2 lq hno)⟩) (aB.dD [0] [1,2,3] rfl rfl) (.ra (i:=2) FA.out FC.out rfl rfl rfl rfl) ?_
     exact af.refl _
    unfold UL at Sm
    obtain ⟨by0,by1,gs3,hh3⟩:=XA
    obtain ⟨XB,h3,k2,XC,by2,by6,XD,PF,hh3e⟩:=Sm.resolve_right (fun h=>nc h.1)
    simp only at XB XC XD hh3e
    subst XB
    subst XC
    obtain ⟨x3,Um⟩:=PX (GL hrun.1 hx hop zh hx2 lq) PF
    have DX:=(List.getElem?_eq_some_iff.1 Um).1
    refine Z1 ?_
    refine .own (aB.perm (Perm.idx [1,2,3,0] rfl rfl)) (bK.meet (k2,gs3,hh3) ⟨by show i+1≤k2;omega,DX,XD,h1++h3,by (show hh3=_;rw [hh3e,AR,List.append_assoc]),DU hrun.1 hx hop Xy zh hx2 lq PF Um⟩ rfl (.keep 26 rfl rfl))
   refine dM ?_
   refine Cd (fun o5=> ?_) fun o5=> ?_
   ·
    refine Z3 ?_
    refine .s (iY (i:=3) FC.out (.t rfl) (.c _) rfl rfl) ?_
    refine iW ?_
    refine Post.aP rfl (((k:Int),5,gs2,hh2)) (by exact .inr ⟨by show (5:Int)≠0;decide,hrun.none (DS hx hop Xy zh hx2 lq ⟨o5.1,fun h=>by have:=o5.2;rw [h] at this;simp at this⟩)⟩) (aB.dD [0] [1,2,3] rfl rfl) (.ra (i:=2) FA.out FC.out rfl rfl rfl rfl) ?_
    exact af.refl _
   refine Z1 ?_
   refine .own (aB.perm (Perm.idx [1,2,3,0] rfl rfl)) (bK.meet (k,gs2,hh2) ⟨by show i+1≤k;omega,H8,hhk,h1,AR,DR hrun.1 hx hop Xy zh hx2 lq (fun h=>o5 ⟨h.1,by have:=List.length_pos_iff.2 h.2;omega⟩)⟩ rfl (.keep 15 rfl rfl))
  intro ⟨kz,gz,hz⟩ ⟨an5,hkz,hzl,pp,hzp,hrz⟩
  simp only at an5 hkz hzl hzp hrz ⊢
  refine Z4 ?_
  refine .n (cE (h:=dQ (s:=s1) (l:=eD x) (by omega) (by have:=vR x;omega))) rfl fun by7 by8=> ?_
  refine Z6 ?_
  refine .p ((ep (.t rfl) (.c _) dL).le (af.int (show (kz:Int)+1=((kz+1:Nat):Int) by omega))) rfl ?_
  refine Z4 ?_
  refine .round (kz+1,gz,hz,bC s1 (eD x)) ⟨by show yT≤kz+1;omega,by show kz+1≤_;omega,by (show base+(s1.1++eD x).length≤20*(kz+1);rw [List.length_append];have:=vR x;omega),hzl,_,by (show hz=hs++_;rw [hzp,Rf,List.append_assoc,List.append_assoc];rfl),hrun.trans hrz⟩ (by show l.length-(kz+1)<l.length-i;omega) rfl ?_
  exact ((.keep 78 rfl rfl))
 refine dM ?_
 refine Post.aP rfl (((i:Int),0,gh,hh)) (by exact .inl ⟨rfl,pre,i,rfl,hai,oQ,by (show hh.length≤i+1;omega),hrun.Sj (by omega),Rf⟩) (aB.dD [3] [0,1,2] rfl rfl) (.ra (i:=1) FA.out FC.out rfl rfl rfl rfl) ?_
 exact af.refl _
end Go.Proofs.YtpfobikpggmleaaGreatDoor
end
section
namespace Go.Hl
open Go.RowKit
def JE (m:aR) (a b c d e p r l:VP):List VP:=[a,b,c,d,e,aq (0≤m.Table),p,r,l]
instance {m:aR} {a b c d e p r l:VP} [Flat a] [Flat b] [Flat c] [Flat d] [Flat e] [Flat p] [Flat r] [Flat l]:bE (JE m a b c d e p r l):=by unfold JE;infer_instance
instance (s:oa):bE (cu s):=by unfold cu;infer_instance
def XE (v:om) (b:kr) (g:Int×Int×List Nat):Prop:=
 (g.2.1=0∧∃rest,uE v b.L [v.cS.R] v.cS.R ([],False) 0=some (g.2.2,rest))∨(g.2.1≠0∧uE v b.L [v.cS.R] v.cS.R ([],False) 0=none∧g.2.2=[])
variable {m:aR}
theorem UP {z:iK} (h:gj m z=0):jt z.iA m.bR.length:=by
 unfold gj at h
 split at h
 · cases h
 · exact Classical.not_not.1 ((cF (by decide)).1 h)
theorem dK.imp (h:dK m) {z:iK} (hz:z∈m.aH):jt z.iA m.bR.length:=UP (eX.1 (bI.1 h.imports).2 z hz)
variable {f:cU}
theorem XF (h:dK m) (ho:mA m) (hf:f∈m.ay):Jy (cC m f):=by
 have hl:=h.lens
 have hs:=(kE (nU h hf)).2
 have h1:=ho.loc f hf
 have h2:=h.tu _ hs
 have hc:=hl.2.2.2.2
 unfold cG at hc
 refine ⟨?_, ?_, ?_, ?_, ?_, ?_, ?_, ?_, ?_⟩
 · simp [cC];omega
 · simp [cC];omega
 · simp [cC];omega
 · simp [cC];omega
 · simp [cC];omega
 · simp [cC]
 · intro g hg
   simp only [cC,List.mem_append,List.mem_map] at hg
   rcases hg with ⟨z,hz,rfl⟩|⟨z,hz,rfl⟩
   · exact h.tu _ (kE (h.imp hz)).2
   · exact h.tu _ (kE (nU h hz)).2
 · intro g hg;exact h.tu g hg
 · exact h2.2
theorem XG (h:dK m) (ho:mA m) (hf:f∈m.ay) (he:oF f.Body):PY (cC m f) f.Body.L:=⟨XF h ho hf,fun x hx=> .of (ho.ins f hf x hx) (he.1 x hx),ho.len f hf⟩
theorem PZ (h:oF f.Body):oo (fun x:aA=>x.Code) f.Body.L 0:=⟨[11],(wV (by simp)).1 h.2.2.2.1,by simp⟩
theorem GM (he:oF f.Body) {g:Int×Int×List Nat} (h:XE (cC m f) f.Body g):(g.2.1=0∧jk m f=some g.2.2)∨(g.2.1≠0∧¬qG m f∧g.2.2=[]):=by
 have hd:=Dg (m:=m) (f:=f) (k:=f.Body.L.length+1) he (by omega)
 have hd2:jk m f=(uE (cC m f) f.Body.L [(cC m f).cS.R] (cC m f).cS.R ([],False) 0).map Prod.fst:=hd
 rcases h with ⟨h1,rest,h2⟩|⟨h1,h2,h3⟩
 · exact .inl ⟨h1,by rw [hd2,h2];rfl⟩
 · exact .inr ⟨h1,fun ⟨_,hs,hh⟩=>(by rw [hd2,h2] at hh;cases hh),h3⟩
def UQ (m:aR) (f:cU) (g:Int×Int×List Nat):Prop:=(g.2.1=0∧dK m∧oF f.Body∧jk m f=some g.2.2)∨(g.2.1≠0∧¬(dK m∧qG m f))
theorem UQ.iff {g:Int×Int×List Nat} (h:UQ m f g):g.2.1=0↔dK m∧qG m f:=by
 rcases h with ⟨h1,h2,h3,h4⟩|⟨h1,h2⟩
 · exact ⟨fun _=>⟨h2,h3,_,h4⟩,fun _=>h1⟩
 · exact ⟨fun h=>absurd h h1,fun h=>absurd h h2⟩
end Go.Hl
end
section
namespace Go.Proofs.YtpfobikpggmleaaGreatDoor
open Go.Hl Go.RowKit
theorem GN {v:om} {b:kr} (av:PY v b.L) (hp1:oo (fun x:aA=>x.Code) b.L 0):cw Tryz.prog 87 [aC (eB v),aC (iL b)] [] (γ:=Int×Int×List Nat) (XE v b) (fun _=>[]) (fun g=>aC [ag .i64 g.1,ag .i64 g.2.1,ai 1 iS g.2.2]):=by
 refine In 24 Tryz.func87 fun _ _ _=> ?_
 refine Z4 ?_
 refine .n (ax FZ.out) rfl fun b4 _=> ?_
 refine Z3 ?_
 refine .eu 1 iS ?_
 refine cT ?_
 refine .p (cB dP [v.cS.R]) rfl ?_
 refine .n (cE (h:=Nb (n:=b.L.length+1) (yT:=0) (d:=0) (base:=0) (labs:=[v.cS.R]) (res:=v.cS.R) (gs:=none) (hs:=[]) (by omega) av (Nat.zero_le _) (Nat.le_refl _) (Nat.le_refl _) (by omega) (by simp) (by simpa using av.env.own) av.env.own hp1)) rfl fun g17 Kk=> ?_
 refine .n (ax FZ.out) rfl fun b5 _=> ?_
 refine cT ?_
 refine Cd (fun c0=> ?_) fun c0=> ?_
 ·
  unfold UL at Kk
  obtain ⟨h0,h1,k,_,_,_,_,hb,hh⟩:=Kk.resolve_right (fun h=>h.1 c0)
  simp only [List.nil_append] at hh
  refine Z5 ?_
  refine .eR (i:=1) (j:=0) (f:=2) rfl rfl rfl ?_
  refine Z7 ?_
  refine Post.aP rfl ((0,g17.2.1,g17.2.2.2)) (by exact .inl ⟨h0,_,by (show uE v b.L [v.cS.R] v.cS.R ([],False) 0=some (g17.2.2.2,_);rw [hh];exact hb)⟩) (aB.dD [] [0,1] rfl rfl) (.ra (i:=1) FA.out FC.out rfl rfl rfl rfl) ?_
  exact af.refl _
 unfold UL at Kk
 have hno:=(Kk.resolve_left (fun h=>c0 h.1)).2
 refine dM ?_
 refine Post.aP rfl ((g17.1,g17.2.1,[])) (by exact .inr ⟨c0,hno,rfl⟩) (aB.dD [] [0,1,2] rfl rfl) (.ra (i:=2) FA.out FC.out rfl rfl rfl rfl) ?_
 exact af.agg (.cons (af.refl _) (.cons (af.refl _) (.cons (aG 1 iS) .nil)))
variable {m:aR}
theorem Nc {f:cU} {i:Nat} (av:dK m) (hp1:mA m) (hp2:m.ay[i]?=some f):cw Tryz.prog 88 [aC (br m),ag .i64 ((i:Int))] [] (γ:=Unit) (fun _=>True) (fun _=>[]) (fun _=>aC (eB (cC m f))):=by
 refine In 157 Tryz.func88 fun _ _ _=> ?_
 have Cz:f∈m.ay:=List.mem_of_getElem? hp2
 have hlens:=av.lens
 have hcn:(m.aH.length:Int)+(m.ay.length:Int)≤100:=hlens.2.2.2.2
 have Ni:=kE (nU av Cz)
 have an6:=nU av Cz
 unfold jt at an6
 have hlo:=hp1.loc f Cz
 have hfw:=av.tu _ Ni.2
 refine Z3 ?_
 refine .n (ax FZ.out) rfl fun b4 _=> ?_
 refine Z8 ?_
 refine .n (ax FZ.out) rfl fun b5 _=> ?_
 refine cK ?_
 refine .eu 2 cu ?_
 refine .aT (σ:=Nat×SB) (fun s=>[au s.2 2 cu (m.bR.take s.1),az b5 (JE m (aa (.slice none 0 0)) (aa (bq s.2 (m.bR.take s.1).length)) (aa (.slice none 0 0)) (aa (.slice none 0 0)) (aa (.slice none 0 0)) (aa (.slice none 0 0)) (aa (.slice none 0 0)) (aa (.slice none 0 0))),az b4 (List.map aa [.slice none 0 0, .slice none 0 0, .slice none 0 0, .slice none 0 0, .slice none 0 0, .bool false, .slice none 0 0, .slice none 0 0, .slice none 0 0])]) (fun s=>[(6,ag .i64 (s.1:Int))]) (fun s=>s.1≤m.bR.length) (fun s=>m.bR.length-s.1) (0,none) (Nat.zero_le _) rfl ?_ ?_
 · exact (.get rfl (af.refl _) (.refl _ _))
 rintro ⟨k0,q0⟩ Nr
 simp only at Nr ⊢
 refine cK ?_
 refine Cd (fun c0=> ?_) fun c0=> ?_
 ·
  obtain ⟨y,hx⟩:=ah (xs:=m.bR) (k:=k0) (by omega)
  refine Z4 ?_
  refine .bP [(0,0),(1,1),(2,0),(3,0),(4,0),(5,0),(6,0),(7,0),(8,0),(9,0),(10,0),(11,0),(12,0),(13,0),(14,0),(15,0)] 16 3 FM.out (by kernel_rfl) (k:= ?_)
  refine Z5 ?_
  refine .p rfl (fun _=>aO (j:=k0) FU.out FC.out rfl (.t rfl) (.t rfl) rfl hx) ?_
  refine Z5 ?_
  refine .p rfl (fun _=>aO (j:=k0) FU.out FC.out rfl (.t rfl) (.t rfl) rfl hx) ?_
  refine Z3 ?_
  refine .p rfl (fun _=>bF (enc:=cu) [y] FU.out FC.out rfl FZ.out rfl (.cons (.t rfl) .nil) rfl rfl rfl rfl rfl) ?_
  refine .fin ?_
  refine .n (aD (i:=0) FU.out FU.out FC.out rfl FZ.out rfl FY.out (.t rfl) (.t rfl) rfl (by simp<;>omega) (by simp<;>omega)) rfl fun Qf _=> ?_
  refine cK ?_
  refine .round (k0+1,Qf) (by show k0+1≤_;omega) (by show m.bR.length-(k0+1)<m.bR.length-k0;omega) (by simp only [←bn hx,List.map_append,List.map_cons,List.map_nil,List.append_assoc];rfl) ?_
  exact (.get rfl (af.int (by show (_:Int)=((k0+1:Nat):Int);omega)) ((.keep 27 rfl rfl)))
 have XH:m.bR.take k0=m.bR:=List.take_of_length_le (by omega)
 rw [XH]
 refine .eR (n:=2) (enc:=cu) (i:=0) (j:=0) (f:=1) rfl rfl rfl ?_
 refine dM ?_
 refine .eu 2 cu ?_
 refine .aT (σ:=Nat×SB) (fun s=>[au s.2 2 cu ((m.aH.take s.1).map fun z=>cv m z.iA),az b5 (JE m (aa (bq s.2 (((m.aH.take s.1).map fun z=>cv m z.iA)).length)) (ai 2 cu m.bR) (aa (.slice none 0 0)) (aa (.slice none 0 0)) (aa (.slice none 0 0)) (aa (.slice none 0 0)) (aa (.slice none 0 0)) (aa (.slice none 0 0))),az b4 (List.map aa [.slice none 0 0, .slice none 0 0, .slice none 0 0, .slice none 0 0, .slice none 0 0, .bool false, .slice none 0 0, .slice none 0 0, .slice none 0 0])]) (fun s=>[(7,ag .i64 (s.1:Int))]) (fun s=>s.1≤m.aH.length) (fun s=>m.aH.length-s.1) (0,none) (Nat.zero_le _) rfl ?_ ?_
 · exact (.get rfl (af.refl _) (.refl _ _))
 rintro ⟨k1,q1⟩ Cs
 simp only at Cs ⊢
 refine cK ?_
 refine Cd (fun c1=> ?_) fun c1=> ?_
 ·
  obtain ⟨y,hx⟩:=ah (xs:=m.aH) (k:=k1) (by omega)
  have XI:=av.imp (List.mem_of_getElem? hx)
  have hys:=(kE XI).1
  unfold jt at XI
  refine Z4 ?_
  refine .bP [(0,0),(1,1),(2,0),(3,1),(4,0),(5,0),(6,0),(7,0),(8,0),(9,0),(10,0),(11,0),(12,0)] 13 3 FM.out (by kernel_rfl) (k:= ?_)
  refine Z7 ?_
  refine .p rfl (fun _=>aO (j:=k1) FU.out FC.out rfl (.t rfl) (.t rfl) rfl hx) ?_
  refine Z2 ?_
  refine .p rfl (fun _=>aO (j:=y.iA.toNat) FU.out FC.out rfl (.t rfl) (.t rfl) (by omega) hys) ?_
  refine Z1 ?_
  refine .p rfl (fun _=>bF (enc:=cu) [cv m y.iA] FU.out FC.out rfl FZ.out rfl (.cons (.t rfl) .nil) rfl rfl rfl rfl rfl) ?_
  refine .fin ?_
  refine .n (aD (i:=0) FU.out FU.out FC.out rfl FZ.out rfl FY.out (.t rfl) (.t rfl) rfl (by simp<;>omega) (by simp<;>omega)) rfl fun Tc _=> ?_
  refine cK ?_
  refine .round (k1+1,Tc) (by show k1+1≤_;omega) (by show m.aH.length-(k1+1)<m.aH.length-k1;omega) (by simp only [←bn hx,List.map_append,List.map_cons,List.map_nil,List.append_assoc];rfl) ?_
  exact (.get rfl (af.int (by show (_:Int)=((k1+1:Nat):Int);omega)) ((.keep 24 rfl rfl)))
 have PT:m.aH.take k1=m.aH:=List.take_of_length_le (by omega)
 rw [PT]
 refine dM ?_
 refine .aT (σ:=Nat×SB) (fun s=>[au s.2 2 cu ((m.aH.map fun z=>cv m z.iA)++((m.ay.take s.1).map fun z=>cv m z.iA)),az b5 (JE m (aa (bq s.2 ((m.aH.map fun z=>cv m z.iA)++((m.ay.take s.1).map fun z=>cv m z.iA)).length)) (ai 2 cu m.bR) (aa (.slice none 0 0)) (aa (.slice none 0 0)) (aa (.slice none 0 0)) (aa (.slice none 0 0)) (aa (.slice none 0 0)) (aa (.slice none 0 0))),az b4 (List.map aa [.slice none 0 0, .slice none 0 0, .slice none 0 0, .slice none 0 0, .slice none 0 0, .bool false, .slice none 0 0, .slice none 0 0, .slice none 0 0])]) (fun s=>[(8,ag .i64 (s.1:Int))]) (fun s=>s.1≤m.ay.length) (fun s=>m.ay.length-s.1) (0,q1) (Nat.zero_le _) (by simp only [List.take_zero,List.map_nil,List.append_nil]) ?_ ?_
 · exact (.get rfl (af.refl _) (.refl _ _))
 rintro ⟨k2,q2⟩ hk2
 simp only at hk2 ⊢
 refine cK ?_
 refine Cd (fun c2=> ?_) fun c2=> ?_
 ·
  obtain ⟨y,hx⟩:=ah (xs:=m.ay) (k:=k2) (by omega)
  have XI:=nU av (List.mem_of_getElem? hx)
  have hys:=(kE XI).1
  unfold jt at XI
  refine Z4 ?_
  refine .bP [(0,0),(1,1),(2,0),(3,1),(4,0),(5,0),(6,0),(7,0),(8,0),(9,0),(10,0),(11,0),(12,0)] 13 3 FM.out (by kernel_rfl) (k:= ?_)
  refine Z7 ?_
  refine .p rfl (fun _=>aO (j:=k2) FU.out FC.out rfl (.t rfl) (.t rfl) rfl hx) ?_
  refine Z2 ?_
  refine .p rfl (fun _=>aO (j:=y.iA.toNat) FU.out FC.out rfl (.t rfl) (.t rfl) (by omega) hys) ?_
  refine Z1 ?_
  refine .p rfl (fun _=>bF (enc:=cu) [cv m y.iA] FU.out FC.out rfl FZ.out rfl (.cons (.t rfl) .nil) rfl rfl rfl rfl rfl) ?_
  refine .fin ?_
  refine .n (aD (i:=0) FU.out FU.out FC.out rfl FZ.out rfl FY.out (.t rfl) (.t rfl) rfl (by simp<;>omega) (by simp<;>omega)) rfl fun VG _=> ?_
  refine cK ?_
  refine .round (k2+1,VG) (by show k2+1≤_;omega) (by show m.ay.length-(k2+1)<m.ay.length-k2;omega) (by simp only [←bn hx,List.map_append,List.map_cons,List.map_nil,List.append_assoc];rfl) ?_
  exact (.get rfl (af.int (by show (_:Int)=((k2+1:Nat):Int);omega)) ((.keep 24 rfl rfl)))
 have tH:m.ay.take k2=m.ay:=List.take_of_length_le (by omega)
 rw [tH]
 refine .eR (n:=2) (enc:=cu) (i:=0) (j:=0) (f:=0) rfl rfl rfl ?_
 refine dM ?_
 refine .eu 1 pZ ?_
 refine .aT (σ:=Nat×SB) (fun s=>[au s.2 1 pZ ((m.bp.take s.1).map fun z=>z.bN),az b5 (JE m (ai 2 cu ((m.aH.map fun z=>cv m z.iA)++(m.ay.map fun z=>cv m z.iA))) (ai 2 cu m.bR) (aa (bq s.2 (((m.bp.take s.1).map fun z=>z.bN)).length)) (aa (.slice none 0 0)) (aa (.slice none 0 0)) (aa (.slice none 0 0)) (aa (.slice none 0 0)) (aa (.slice none 0 0))),az b4 (List.map aa [.slice none 0 0, .slice none 0 0, .slice none 0 0, .slice none 0 0, .slice none 0 0, .bool false, .slice none 0 0, .slice none 0 0, .slice none 0 0])]) (fun s=>[(9,ag .i64 (s.1:Int))]) (fun s=>s.1≤m.bp.length) (fun s=>m.bp.length-s.1) (0,none) (Nat.zero_le _) rfl ?_ ?_
 · exact (.get rfl (af.refl _) (.refl _ _))
 rintro ⟨k3,q3⟩ H8
 simp only at H8 ⊢
 refine cK ?_
 refine Cd (fun c3=> ?_) fun c3=> ?_
 ·
  obtain ⟨y,hx⟩:=ah (xs:=m.bp) (k:=k3) (by omega)
  refine Z4 ?_
  refine .bP [(0,0),(1,1),(2,0),(3,0),(4,0),(5,0),(6,0),(7,0),(8,0)] 9 3 FM.out (by kernel_rfl) (k:= ?_)
  refine Z5 ?_
  refine .p rfl (fun _=>aO (j:=k3) FU.out FC.out rfl (.t rfl) (.t rfl) rfl hx) ?_
  refine Z2 ?_
  refine .p rfl (fun _=>bF (enc:=pZ) [y.bN] FU.out FC.out rfl FZ.out rfl (.cons (.t rfl) .nil) rfl rfl rfl rfl rfl) ?_
  refine .fin ?_
  refine .n (aD (i:=0) FU.out FU.out FC.out rfl FZ.out rfl FY.out (.t rfl) (.t rfl) rfl (by simp<;>omega) (by simp<;>omega)) rfl fun XJ _=> ?_
  refine cK ?_
  refine .round (k3+1,XJ) (by show k3+1≤_;omega) (by show m.bp.length-(k3+1)<m.bp.length-k3;omega) (by simp only [←bn hx,List.map_append,List.map_cons,List.map_nil,List.append_assoc];rfl) ?_
  exact (.get rfl (af.int (by show (_:Int)=((k3+1:Nat):Int);omega)) ((.keep 20 rfl rfl)))
 have XK:m.bp.take k3=m.bp:=List.take_of_length_le (by omega)
 rw [XK]
 refine .eR (n:=1) (enc:=pZ) (i:=0) (j:=0) (f:=2) rfl rfl rfl ?_
 refine dM ?_
 refine .eu 1 pZ ?_
 refine .eu 1 aj ?_
 refine .aT (σ:=Nat×SB×SB) (fun s=>[au s.2.1 1 aj ((m.an.take s.1).map fun z=>z.Ty),au s.2.2 1 pZ ((m.an.take s.1).map fun z=>z.fD),az b5 (JE m (ai 2 cu ((m.aH.map fun z=>cv m z.iA)++(m.ay.map fun z=>cv m z.iA))) (ai 2 cu m.bR) (ai 1 pZ (m.bp.map fun z=>z.bN)) (aa (bq s.2.1 (((m.an.take s.1).map fun z=>z.Ty)).length)) (aa (bq s.2.2 (((m.an.take s.1).map fun z=>z.fD)).length)) (aa (.slice none 0 0)) (aa (.slice none 0 0)) (aa (.slice none 0 0))),az b4 (List.map aa [.slice none 0 0, .slice none 0 0, .slice none 0 0, .slice none 0 0, .slice none 0 0, .bool false, .slice none 0 0, .slice none 0 0, .slice none 0 0])]) (fun s=>[(10,ag .i64 (s.1:Int))]) (fun s=>s.1≤m.an.length) (fun s=>m.an.length-s.1) (0,none,none) (Nat.zero_le _) rfl ?_ ?_
 · exact (.get rfl (af.refl _) (.refl _ _))
 rintro ⟨k4,q4,q5⟩ DX
 simp only at DX ⊢
 refine cK ?_
 refine Cd (fun c4=> ?_) fun c4=> ?_
 ·
  obtain ⟨y,hx⟩:=ah (xs:=m.an) (k:=k4) (by omega)
  refine Z5 ?_
  refine .bP [(0,0),(1,1),(2,0),(3,0),(4,0),(5,0),(6,0),(7,0),(8,0)] 9 3 FM.out (by kernel_rfl) (k:= ?_)
  refine Z5 ?_
  refine .p rfl (fun _=>aO (j:=k4) FU.out FC.out rfl (.t rfl) (.t rfl) rfl hx) ?_
  refine Z2 ?_
  refine .p rfl (fun _=>bF (enc:=aj) [y.Ty] FU.out FC.out rfl FZ.out rfl (.cons (.t rfl) .nil) rfl rfl rfl rfl rfl) ?_
  refine .fin ?_
  refine .n (aD (i:=0) FU.out FU.out FC.out rfl FZ.out rfl FY.out (.t rfl) (.t rfl) rfl (by simp<;>omega) (by simp<;>omega)) rfl fun Uy _=> ?_
  refine Z4 ?_
  refine .bP [(0,0),(1,1),(2,0),(3,0),(4,0),(5,0),(6,0),(7,0),(8,0)] 9 3 FM.out (by kernel_rfl) (k:= ?_)
  refine Z5 ?_
  refine .p rfl (fun _=>aO (j:=k4) FU.out FC.out rfl (.t rfl) (.t rfl) rfl hx) ?_
  refine Z2 ?_
  refine .p rfl (fun _=>bF (enc:=pZ) [y.fD] FU.out FC.out rfl FZ.out rfl (.cons (.t rfl) .nil) rfl rfl rfl rfl rfl) ?_
  refine .fin ?_
  refine .n (aD (i:=1) FU.out FU.out FC.out rfl FZ.out rfl FY.out (.t rfl) (.t rfl) rfl (by simp<;>omega) (by simp<;>omega)) rfl fun an7 _=> ?_
  refine cK ?_
  refine .round (k4+1,Uy,an7) (by show k4+1≤_;omega) (by show m.an.length-(k4+1)<m.an.length-k4;omega) (by simp only [←bn hx,List.map_append,List.map_cons,List.map_nil,List.append_assoc];rfl) ?_
  exact (.get rfl (af.int (by show (_:Int)=((k4+1:Nat):Int);omega)) ((.keep 31 rfl rfl)))
 have XL:m.an.take k4=m.an:=List.take_of_length_le (by omega)
 rw [XL]
 refine .eR (n:=1) (enc:=aj) (i:=0) (j:=1) (f:=3) rfl rfl rfl ?_
 refine .eR (n:=1) (enc:=pZ) (i:=0) (j:=0) (f:=4) rfl rfl rfl ?_
 refine Z6 ?_
 refine .bx 8 4 FM.out (by kernel_rfl) (k:= ?_)
 refine Z5 ?_
 refine .p (cI i (h:=hp2)) ?_
 refine Z3 ?_
 refine .p (cI f.iA.toNat (h:=Ni.1)) rfl ?_
 refine Z6 ?_
 refine .bP [(1,0),(2,0),(3,1),(5,0),(6,0),(7,0),(8,0),(9,0),(10,0),(11,0),(0,4),(4,2)] 12 3 FM.out (by kernel_rfl) (k:= ?_)
 refine Z6 ?_
 refine .p rfl (fun _=>aO (j:=i) FU.out FC.out rfl (.t rfl) (.t rfl) rfl hp2) ?_
 refine Z3 ?_
 refine .a rfl (cq aj ([]:List UInt8) FU.out FC.out rfl FZ.out rfl .nil rfl rfl rfl rfl rfl) (fun _ _=>aB.drop (aB.refl _)) fun by9 _=> ?_
 refine .e rfl (aD (i:=0) FU.out FU.out FC.out rfl FZ.out rfl FY.out (.t rfl) (.t rfl) rfl (by simp<;>omega) (by simp<;>omega)) fun an0 _=> ?_
 refine .fin ?_
 refine .n (fV.er (G:=fun g=>g) (hs1:=fun _=>_) (xs:=fun _=>_) (aD (i:=0) FU.out FU.out FC.out rfl FZ.out rfl FY.out (.t rfl) (.t rfl) rfl (by simp<;>omega) (by simp<;>omega))) rfl fun _ _=> ?_
 refine cT ?_
 refine Post.aP rfl (()) (by trivial) (aB.dD [] [0,1] rfl rfl) (.ra (i:=1) FA.out FC.out rfl rfl rfl rfl) ?_
 exact af.refl _
theorem GO {x:aR} {n:Int} {s:oa} (av:iU x n=some s):cW Tryz.prog 85 [aC (br x),ag .i64 n] (aC (cu s)):=by
 refine In 34 Tryz.func85 fun _ _ _=> ?_
 refine .fact (t:=0) rfl (fun S w v h=>pP h) fun hlen=> ?_
 have hall:=hlen
 obtain ⟨⟨hl0,ko,lp,mK,mL,mM,mN,mO⟩,⟨Uq,hi1,hi2,Vx,hi4⟩,Qj⟩:=hlen
 refine Z3 ?_
 refine .n (ax FZ.out) rfl fun b4 _=> ?_
 refine dM ?_
 refine Cd (fun c0=> ?_) fun c0=> ?_
 ·
  obtain ⟨y,hy1,hy2,S6,S7⟩:=zJ av c0
  refine Z1 ?_
  refine .bx 8 3 FM.out (by kernel_rfl) (k:= ?_)
  refine Z5 ?_
  refine .p (cI n.toNat (h:=hy1) (hi:=S6)) ?_
  refine Z3 ?_
  refine .p (cI y.iA.toNat (h:=hy2) (hi:=S7)) rfl ?_
  refine Z6 ?_
  refine Post.aP rfl () trivial (fun _ _ _ _=>trivial) (.ra (i:=0) FA.out FC.out rfl rfl rfl rfl) ?_
  exact .z
 obtain ⟨y,hy1,hy2,S6,S7,hy5⟩:=EV av c0
 unfold cG at hy5
 refine Z3 ?_
 refine .bx 12 3 FM.out (by kernel_rfl) (k:= ?_)
 refine Z9 ?_
 refine .p (cI ((n-(x.aH.length:Int)).toNat) (h:=hy1) (hi:=S6)) ?_
 refine Z3 ?_
 refine .p (cI y.iA.toNat (h:=hy2) (hi:=S7)) rfl ?_
 refine Z5 ?_
 refine Post.aP rfl () trivial (fun _ _ _ _=>trivial) (.ra (i:=0) FA.out FC.out rfl rfl rfl rfl) ?_
 exact .z
theorem yb {x:aR}:cW Tryz.prog 39 [aC (br x)] (bD [jA,V1 (fun n:Int=>n=0↔dK x) (ag .i64)]):=by
 refine In 393 Tryz.func39 fun _ _ _=> ?_
 refine .fact (t:=0) rfl (fun S w v h=>pP h) fun hlen=> ?_
 have hall:=hlen
 obtain ⟨⟨hl0,ko,lp,mK,mL,mM,mN,mO⟩,⟨Uq,hi1,hi2,Vx,hi4⟩,Qj⟩:=hlen
 refine Z3 ?_
 refine .p (bh (.s [] rfl rfl)) rfl ?_
 refine Z24 ?_
 refine Cd (fun c0=> ?_) fun c0=> ?_
 ·
  refine Z2 ?_
  refine .p (bh (.s [115,105,103,115] rfl rfl)) rfl ?_
  refine Z5 ?_
  refine j9 ?_ ?_
  · exact af.any
  exact af.ex _ ⟨fun h=>absurd h (by decide),fun h=>by (exfalso;have hL:=cH h;have ko:=hL.sigs;have lp:=hL.imports;have mK:=hL.funcs;have mL:=hL.dR;have mM:=hL.globals;have mN:=hL.aY;have mO:=hL.elems;have nP:=hL.bU;have yc:=hL.table;omega)⟩ (af.refl _)
 refine Z9 ?_
 refine .aT (σ:=Nat) (fun _=>[]) (fun ka=>[(5,ag .i64 (ka:Int))]) (fun ka=>ka≤x.bR.length∧cN (fun z:oa=>Ly z≠0) x.bR ka) (fun ka=>x.bR.length-ka) 0 ⟨by omega,cN.zero _ _⟩ rfl ?_ ?_
 · exact (.get rfl (af.refl _) (.refl _ _))
 rintro ka ⟨Cs,Vt⟩
 refine cK ?_
 refine Cd (fun c1=> ?_) fun c1=> ?_
 ·
  obtain ⟨z,hz⟩:=ah (xs:=x.bR) (k:=ka) (by omega)
  refine Z9 ?_
  refine .p (cI _) rfl ?_
  refine Z2 ?_
  refine .p (cA (h:=zS)) rfl ?_
  refine Z5 ?_
  refine .g (cm.gF rfl rfl rfl rfl (fun hg=>aO FU.out FC.out rfl (.when (.t rfl) hg) (.when (.t rfl) hg) rfl (by assumption))) rfl rfl ?_
  refine Z2 ?_
  refine .g (cm.gF rfl rfl rfl rfl (fun hg=>bQ (zS) FB.out (.cons (.when (.t rfl) hg) .nil))) rfl rfl ?_
  refine Z4 ?_
  refine Cd (fun c2=> ?_) fun c2=> ?_
  ·
   refine Z2 ?_
   refine .p (bh (.s [115,105,103,115] rfl rfl)) rfl ?_
   refine Z9 ?_
   refine j9 ?_ ?_
   · exact af.any
   exact af.ex _ ⟨fun h=>absurd h (by decide),fun h=>by (exfalso;have hL:=cH h;have ko:=hL.sigs;have lp:=hL.imports;have mK:=hL.funcs;have mL:=hL.dR;have mM:=hL.globals;have mN:=hL.aY;have mO:=hL.elems;have nP:=hL.bU;have yc:=hL.table;have h9:=Ue h (List.mem_of_getElem? hz);rcases c2 with c|c;exact c h9.1;exact c h9.2)⟩ (af.refl _)
  refine Z8 ?_
  refine .round (ka+1) ⟨by omega,Vt.succ hz (not_not_intro (Q5 (by simpa using c2)))⟩ (by omega) rfl ?_
  exact (.get rfl (af.int (by omega)) (.keep 27 rfl rfl))
 have fa:BJ x=0:=sS (by omega) Vt (by omega)
 refine iW ?_
 refine Cd (fun c3=> ?_) fun c3=> ?_
 ·
  refine Z2 ?_
  refine .p (bh (.s [105,109,112,111,114,116,115] rfl rfl)) rfl ?_
  refine Z5 ?_
  refine j9 ?_ ?_
  · exact af.any
  exact af.ex _ ⟨fun h=>absurd h (by decide),fun h=>by (exfalso;have hL:=cH h;have ko:=hL.sigs;have lp:=hL.imports;have mK:=hL.funcs;have mL:=hL.dR;have mM:=hL.globals;have mN:=hL.aY;have mO:=hL.elems;have nP:=hL.bU;have yc:=hL.table;omega)⟩ (af.refl _)
 refine Z9 ?_
 refine .aT (σ:=Nat) (fun _=>[]) (fun kb=>[(6,ag .i64 (kb:Int))]) (fun kb=>kb≤x.aH.length∧cN (fun z:iK=>gj x z≠0) x.aH kb) (fun kb=>x.aH.length-kb) 0 ⟨by omega,cN.zero _ _⟩ rfl ?_ ?_
 · exact (.get rfl (af.refl _) (.refl _ _))
 rintro kb ⟨DX,hn4⟩
 refine cK ?_
 refine Cd (fun c4=> ?_) fun c4=> ?_
 ·
  obtain ⟨z,hz⟩:=ah (xs:=x.aH) (k:=kb) (by omega)
  refine cK ?_
  refine .p (cI _) rfl ?_
  refine Z2 ?_
  refine .p (cA (h:=sj)) rfl ?_
  refine Z5 ?_
  refine .g (cm.gF rfl rfl rfl rfl (fun hg=>aO FU.out FC.out rfl (.when (.t rfl) hg) (.when (.t rfl) hg) rfl (by assumption))) rfl rfl ?_
  refine Z2 ?_
  refine .g (cm.gF rfl rfl rfl rfl (fun hg=>bQ (sj) FB.out (.cons (.when (.t rfl) hg) .nil))) rfl rfl ?_
  refine Z4 ?_
  refine Cd (fun c5=> ?_) fun c5=> ?_
  ·
   refine Z2 ?_
   refine .p (bh (.s [105,109,112,111,114,116,115] rfl rfl)) rfl ?_
   refine cK ?_
   refine j9 ?_ ?_
   · exact af.any
   exact af.ex _ ⟨fun h=>absurd h (by decide),fun h=>by (exfalso;have hL:=cH h;have ko:=hL.sigs;have lp:=hL.imports;have mK:=hL.funcs;have mL:=hL.dR;have mM:=hL.globals;have mN:=hL.aY;have mO:=hL.elems;have nP:=hL.bU;have yc:=hL.table;have h9:=OY h (List.mem_of_getElem? hz);rcases c5 with c|c;exact c h9.1;exact c h9.2.1)⟩ (af.refl _)
  refine Z3 ?_
  refine .bx 9 2 FM.out (by kernel_rfl) (k:= ?_)
  refine Z3 ?_
  refine .p (cI _) ?_
  refine Z6 ?_
  refine .p (cA (h:=mh)) rfl ?_
  refine Z3 ?_
  refine Cd (fun c6=> ?_) fun c6=> ?_
  ·
   refine Z2 ?_
   refine .p (bh (.s [105,109,112,111,114,116,115] rfl rfl)) rfl ?_
   refine Z9 ?_
   refine j9 ?_ ?_
   · exact af.any
   exact af.ex _ ⟨fun h=>absurd h (by decide),fun h=>by (exfalso;have hL:=cH h;have ko:=hL.sigs;have lp:=hL.imports;have mK:=hL.funcs;have mL:=hL.dR;have mM:=hL.globals;have mN:=hL.aY;have mO:=hL.elems;have nP:=hL.bU;have yc:=hL.table;have h9:=OY h (List.mem_of_getElem? hz);exact c6 (by simpa using h9.2.2))⟩ (af.refl _)
  refine Z8 ?_
  refine .round (kb+1) ⟨by omega,hn4.succ hz (not_not_intro (HO (by simpa using c5) (by simpa using c6)))⟩ (by omega) rfl ?_
  exact (.get rfl (af.int (by omega)) (.keep 38 rfl rfl))
 have fb0:=hn4.Kc (by omega)
 have fb:pN x=0:=sS (by omega) hn4 (by omega)
 refine dM ?_
 refine Cd (fun c7=> ?_) fun c7=> ?_
 ·
  refine Z2 ?_
  refine .p (bh (.s [102,117,110,99,115] rfl rfl)) rfl ?_
  refine Z5 ?_
  refine j9 ?_ ?_
  · exact af.any
  exact af.ex _ ⟨fun h=>absurd h (by decide),fun h=>by (exfalso;have hL:=cH h;have ko:=hL.sigs;have lp:=hL.imports;have mK:=hL.funcs;have mL:=hL.dR;have mM:=hL.globals;have mN:=hL.aY;have mO:=hL.elems;have nP:=hL.bU;have yc:=hL.table;omega)⟩ (af.refl _)
 refine Z9 ?_
 refine .aT (σ:=Nat) (fun _=>[]) (fun kc=>[(7,ag .i64 (kc:Int))]) (fun kc=>kc≤x.ay.length∧cN (fun z:cU=>rW x z≠0) x.ay kc) (fun kc=>x.ay.length-kc) 0 ⟨by omega,cN.zero _ _⟩ rfl ?_ ?_
 · exact (.get rfl (af.refl _) (.refl _ _))
 rintro kc ⟨hk8,hn8⟩
 refine cK ?_
 refine Cd (fun c8=> ?_) fun c8=> ?_
 ·
  obtain ⟨z,hz⟩:=ah (xs:=x.ay) (k:=kc) (by omega)
  refine Z5 ?_
  refine .bx 9 2 FM.out (by kernel_rfl) (k:= ?_)
  refine Z3 ?_
  refine .p (cI _) ?_
  refine Z6 ?_
  refine .p (cA (h:=mh)) rfl ?_
  refine Z3 ?_
  refine Cd (fun c9=> ?_) fun c9=> ?_
  ·
   refine Z2 ?_
   refine .p (bh (.s [102,117,110,99,115] rfl rfl)) rfl ?_
   refine Z9 ?_
   refine j9 ?_ ?_
   · exact af.any
   exact af.ex _ ⟨fun h=>absurd h (by decide),fun h=>by (exfalso;have hL:=cH h;have ko:=hL.sigs;have lp:=hL.imports;have mK:=hL.funcs;have mL:=hL.dR;have mM:=hL.globals;have mN:=hL.aY;have mO:=hL.elems;have nP:=hL.bU;have yc:=hL.table;have h9:=Ro h (List.mem_of_getElem? hz);exact c9 (by simpa using h9))⟩ (af.refl _)
  refine Z8 ?_
  refine .round (kc+1) ⟨by omega,hn8.succ hz (not_not_intro (OF (by simpa using c9)))⟩ (by omega) rfl ?_
  exact (.get rfl (af.int (by omega)) (.keep 20 rfl rfl))
 have fc0:=hn8.Kc (by omega)
 have fc:kW x=0:=OG (by omega) hn8 (by omega)
 refine lg ?_
 refine Cd (fun lq=> ?_) fun lq=> ?_
 ·
  refine Z2 ?_
  refine .p (bh (.s [116,97,98,108,101] rfl rfl)) rfl ?_
  refine Z5 ?_
  refine j9 ?_ ?_
  · exact af.any
  exact af.ex _ ⟨fun h=>absurd h (by decide),fun h=>by (exfalso;have hL:=cH h;have ko:=hL.sigs;have lp:=hL.imports;have mK:=hL.funcs;have mL:=hL.dR;have mM:=hL.globals;have mN:=hL.aY;have mO:=hL.elems;have nP:=hL.bU;have yc:=hL.table;omega)⟩ (af.refl _)
 refine cK ?_
 refine Cd (fun nc=> ?_) fun nc=> ?_
 ·
  refine Z2 ?_
  refine .p (bh (.s [116,97,98,108,101] rfl rfl)) rfl ?_
  refine Z5 ?_
  refine j9 ?_ ?_
  · exact af.any
  exact af.ex _ ⟨fun h=>absurd h (by decide),fun h=>by (exfalso;have hL:=cH h;have ko:=hL.sigs;have lp:=hL.imports;have mK:=hL.funcs;have mL:=hL.dR;have mM:=hL.globals;have mN:=hL.aY;have mO:=hL.elems;have nP:=hL.bU;have yc:=hL.table;omega)⟩ (af.refl _)
 have fd:nG x=0:=LC (by omega) (by omega)
 refine cT ?_
 refine Cd (fun o5=> ?_) fun o5=> ?_
 ·
  refine Z2 ?_
  refine .p (bh (.s [109,101,109,115] rfl rfl)) rfl ?_
  refine Z5 ?_
  refine j9 ?_ ?_
  · exact af.any
  exact af.ex _ ⟨fun h=>absurd h (by decide),fun h=>by (exfalso;have hL:=cH h;have ko:=hL.sigs;have lp:=hL.imports;have mK:=hL.funcs;have mL:=hL.dR;have mM:=hL.globals;have mN:=hL.aY;have mO:=hL.elems;have nP:=hL.bU;have yc:=hL.table;omega)⟩ (af.refl _)
 refine Z9 ?_
 refine .aT (σ:=Nat) (fun _=>[]) (fun kd=>[(8,ag .i64 (kd:Int))]) (fun kd=>kd≤x.bp.length∧cN (fun z:eo=>OA z≠0) x.bp kd) (fun kd=>x.bp.length-kd) 0 ⟨by omega,cN.zero _ _⟩ rfl ?_ ?_
 · exact (.get rfl (af.refl _) (.refl _ _))
 rintro kd ⟨bz0,P0⟩
 refine cK ?_
 refine Cd (fun s4=> ?_) fun s4=> ?_
 ·
  obtain ⟨z,hz⟩:=ah (xs:=x.bp) (k:=kd) (by omega)
  refine Z9 ?_
  refine .p (cI _) rfl ?_
  refine Z1 ?_
  refine .n (ax FZ.out) rfl fun b9 _=> ?_
  refine Z3 ?_
  refine .share (t:=9) (i:=0) rfl rfl ?_
  refine Z29 ?_
  refine Cd (fun q9=> ?_) fun q9=> ?_
  ·
   refine Z2 ?_
   refine .p (bh (.s [109,101,109,115] rfl rfl)) rfl ?_
   refine Z9 ?_
   refine j9 ?_ ?_
   · exact af.any
   exact af.ex _ ⟨fun h=>absurd h (by decide),fun h=>by (exfalso;have hL:=cH h;have ko:=hL.sigs;have lp:=hL.imports;have mK:=hL.funcs;have mL:=hL.dR;have mM:=hL.globals;have mN:=hL.aY;have mO:=hL.elems;have nP:=hL.bU;have yc:=hL.table;have h9:=OZ h (List.mem_of_getElem? hz);omega)⟩ (af.refl _)
  refine Z8 ?_
  refine .round (kd+1) ⟨by omega,P0.succ hz (not_not_intro (Q6 (by omega)))⟩ (by omega) rfl ?_
  exact (.get rfl (af.int (by omega)) (.keep 41 rfl rfl))
 have fe:BK x=0:=sS (by omega) P0 (by omega)
 refine iW ?_
 refine Cd (fun vX=> ?_) fun vX=> ?_
 ·
  refine Z2 ?_
  refine .p (bh (.s [103,108,111,98,97,108,115] rfl rfl)) rfl ?_
  refine Z5 ?_
  refine j9 ?_ ?_
  · exact af.any
  exact af.ex _ ⟨fun h=>absurd h (by decide),fun h=>by (exfalso;have hL:=cH h;have ko:=hL.sigs;have lp:=hL.imports;have mK:=hL.funcs;have mL:=hL.dR;have mM:=hL.globals;have mN:=hL.aY;have mO:=hL.elems;have nP:=hL.bU;have yc:=hL.table;omega)⟩ (af.refl _)
 refine Z9 ?_
 refine .aT (σ:=Nat) (fun _=>[]) (fun ke=>[(10,ag .i64 (ke:Int))]) (fun ke=>ke≤x.an.length∧cN (fun z:jF=>sR z≠0) x.an ke) (fun ke=>x.an.length-ke) 0 ⟨by omega,cN.zero _ _⟩ rfl ?_ ?_
 · exact (.get rfl (af.refl _) (.refl _ _))
 rintro ke ⟨bz1,XM⟩
 refine cK ?_
 refine Cd (fun xl=> ?_) fun xl=> ?_
 ·
  obtain ⟨z,hz⟩:=ah (xs:=x.an) (k:=ke) (by omega)
  refine Z9 ?_
  refine .p (cI _) rfl ?_
  refine Z1 ?_
  refine .n (ax FZ.out) rfl fun Vn _=> ?_
  refine Z3 ?_
  refine .share (t:=11) (i:=0) rfl rfl ?_
  refine Hy ?_
  refine Cd (fun MT=> ?_) fun MT=> ?_
  ·
   refine Z2 ?_
   refine .p (bh (.s [103,108,111,98,97,108,115] rfl rfl)) rfl ?_
   refine Z9 ?_
   refine j9 ?_ ?_
   · exact af.any
   exact af.ex _ ⟨fun h=>absurd h (by decide),fun h=>by (exfalso;have hL:=cH h;have ko:=hL.sigs;have lp:=hL.imports;have mK:=hL.funcs;have mL:=hL.dR;have mM:=hL.globals;have mN:=hL.aY;have mO:=hL.elems;have nP:=hL.bU;have yc:=hL.table;have h9:=wT h (List.mem_of_getElem? hz);omega)⟩ (af.refl _)
  refine Z8 ?_
  refine .round (ke+1) ⟨by omega,XM.succ hz (not_not_intro (HQ (by omega)))⟩ (by omega) rfl ?_
  exact (.get rfl (af.int (by omega)) (.keep 29 rfl rfl))
 have ff:pO x=0:=sS (by omega) XM (by omega)
 refine iW ?_
 refine Cd (fun JA=> ?_) fun JA=> ?_
 ·
  refine Z2 ?_
  refine .p (bh (.s [101,120,112,111,114,116,115] rfl rfl)) rfl ?_
  refine Z5 ?_
  refine j9 ?_ ?_
  · exact af.any
  exact af.ex _ ⟨fun h=>absurd h (by decide),fun h=>by (exfalso;have hL:=cH h;have ko:=hL.sigs;have lp:=hL.imports;have mK:=hL.funcs;have mL:=hL.dR;have mM:=hL.globals;have mN:=hL.aY;have mO:=hL.elems;have nP:=hL.bU;have yc:=hL.table;omega)⟩ (af.refl _)
 refine Z9 ?_
 refine .aT (σ:=Nat) (fun _=>[]) (fun kf=>[(12,ag .i64 (kf:Int))]) (fun kf=>kf≤x.bJ.length∧∀j,j<kf→jU x j=0) (fun kf=>x.bJ.length-kf) 0 ⟨by omega,fun j hj=>absurd hj (by omega)⟩ rfl ?_ ?_
 · exact (.get rfl (af.refl _) (.refl _ _))
 rintro kf ⟨bz2,XN⟩
 refine cK ?_
 refine Cd (fun Sd=> ?_) fun Sd=> ?_
 ·
  obtain ⟨z,hz⟩:=ah (xs:=x.bJ) (k:=kf) (by omega)
  refine Z9 ?_
  refine .p (cI _) rfl ?_
  refine Z1 ?_
  refine .n (ax FZ.out) rfl fun UO _=> ?_
  refine Z3 ?_
  refine .share (t:=13) (i:=0) rfl rfl ?_
  refine Z5 ?_
  refine .p (cA (h:=sj)) rfl ?_
  refine Z3 ?_
  refine Cd (fun PW=> ?_) fun PW=> ?_
  ·
   refine Z2 ?_
   refine .p (bh (.s [101,120,112,111,114,116,115] rfl rfl)) rfl ?_
   refine cK ?_
   refine j9 ?_ ?_
   · exact af.any
   exact af.ex _ ⟨fun h=>absurd h (by decide),fun h=>by (exfalso;have hL:=cH h;have ko:=hL.sigs;have lp:=hL.imports;have mK:=hL.funcs;have mL:=hL.dR;have mM:=hL.globals;have mN:=hL.aY;have mO:=hL.elems;have nP:=hL.bU;have yc:=hL.table;exact PW (wU h hz).1)⟩ (af.refl _)
  refine Z9 ?_
  refine .aT (σ:=Nat) (fun _=>[]) (fun kg=>[(14,ag .i64 (kg:Int))]) (fun kg=>kg≤kf∧cN (fun w:dW=>w.Name=z.Name) x.bJ kg) (fun kg=>kf-kg) 0 ⟨by omega,cN.zero _ _⟩ rfl ?_ ?_
  · exact (.get rfl (af.refl _) (.refl _ _))
  rintro kg ⟨bz3,XO⟩
  refine Z8 ?_
  refine Cd (fun Xx=> ?_) fun Xx=> ?_
  ·
   obtain ⟨w,hw⟩:=ah (xs:=x.bJ) (k:=kg) (by omega)
   refine Z5 ?_
   refine .bx 8 1 FM.out (by kernel_rfl) (k:= ?_)
   refine Z3 ?_
   refine .p (cI _) ?_
   refine Z8 ?_
   refine Cd (fun Tf=> ?_) fun Tf=> ?_
   ·
    refine Z2 ?_
    refine .p (bh (.s [101,120,112,111,114,116,115] rfl rfl)) rfl ?_
    refine iW ?_
    refine j9 ?_ ?_
    · exact af.any
    exact af.ex _ ⟨fun h=>absurd h (by decide),fun h=>by (exfalso;have hL:=cH h;have ko:=hL.sigs;have lp:=hL.imports;have mK:=hL.funcs;have mL:=hL.dR;have mM:=hL.globals;have mN:=hL.aY;have mO:=hL.elems;have nP:=hL.bU;have yc:=hL.table;exact (wU h hz).2.1 kg w (by omega) hw Tf)⟩ (af.refl _)
   refine Z8 ?_
   refine .round (kg+1) ⟨by omega,XO.succ hw Tf⟩ (by omega) rfl ?_
   exact (.get rfl (af.int (by omega)) (.keep 16 rfl rfl))
  have an8:cN (fun w:dW=>w.Name=z.Name) x.bJ kf:=fun j y hj=>XO j y (by omega)
  refine iW ?_
  refine .g (cm.gT rfl rfl rfl rfl (fun hg=>bQ (mh) FB.out (.cons (.when (.t rfl) hg) (.cons (.when (.t rfl) hg) .nil)))) rfl rfl ?_
  refine Z26 ?_
  refine .g (cm.hT rfl rfl rfl rfl (fun hg=>bQ (mh) FB.out (.cons (.when (.t rfl) hg) (.cons (.when (.t rfl) hg) .nil)))) rfl rfl ?_
  refine dM ?_
  refine .g (cm.hT rfl rfl rfl rfl (fun hg=>bQ (mh) FB.out (.cons (.when (.t rfl) hg) (.cons (.when (.t rfl) hg) .nil)))) rfl rfl ?_
  refine cT ?_
  refine Cd (fun c23=> ?_) fun c23=> ?_
  ·
   refine Z2 ?_
   refine .p (bh (.s [101,120,112,111,114,116,115] rfl rfl)) rfl ?_
   refine Z9 ?_
   refine j9 ?_ ?_
   · exact af.any
   exact af.ex _ ⟨fun h=>absurd h (by decide),fun h=>by (exfalso;have hL:=cH h;have ko:=hL.sigs;have lp:=hL.imports;have mK:=hL.funcs;have mL:=hL.dR;have mM:=hL.globals;have mN:=hL.aY;have mO:=hL.elems;have nP:=hL.bU;have yc:=hL.table;exact c23 (wU h hz).2.2)⟩ (af.refl _)
  refine Z8 ?_
  refine .round (kf+1) ⟨by omega,fun j hj=>by rcases Nat.lt_succ_iff_lt_or_eq.1 hj with h|h;exact XN j h;exact h▸HR hz (by simpa using PW) an8 (by omega) (by omega) (or4 (Classical.not_not.1 c23))⟩ (by omega) rfl ?_
  exact (.get rfl (af.int (by omega)) (.keep 78 rfl rfl))
 have fg:nI x=0:=HS (by omega) XN (by omega)
 refine Z5 ?_
 refine .cut (σ:=Unit) (fun _=>[]) (fun _=>[]) (fun _=>jN x=0) ?_ ?_
 ·
  refine Z7 ?_
  refine Cd (fun c24=> ?_) fun c24=> ?_
  ·
   refine Z6 ?_
   refine .p (cA (h:=mh)) rfl ?_
   refine Z3 ?_
   refine Cd (fun c25=> ?_) fun c25=> ?_
   ·
    refine Z2 ?_
    refine .p (bh (.s [115,116,97,114,116] rfl rfl)) rfl ?_
    refine Z6 ?_
    refine j9 ?_ ?_
    · exact af.any
    exact af.ex _ ⟨fun h=>absurd h (by decide),fun h=>by (exfalso;have hL:=cH h;have ko:=hL.sigs;have lp:=hL.imports;have mK:=hL.funcs;have mL:=hL.dR;have mM:=hL.globals;have mN:=hL.aY;have mO:=hL.elems;have nP:=hL.bU;have yc:=hL.table;exact c25 (by simpa [cG] using (Fu h (by omega)).1))⟩ (af.refl _)
   obtain ⟨s,hs⟩:=wK (m:=x) (f:=x.Start) (by simpa [cG] using c25) fb0 fc0
   obtain ⟨si,hsi⟩:=List.mem_iff_getElem?.1 (CS hs)
   have hs0:=Uq si s hsi
   refine Z7 ?_
   refine .p (cA (h:=(GO hs))) rfl ?_
   refine .n (ax FZ.out) rfl fun b16 _=> ?_
   refine Z3 ?_
   refine .share (t:=16) (i:=0) rfl rfl ?_
   refine dM ?_
   refine Cd (fun c26=> ?_) fun c26=> ?_
   ·
    refine Z2 ?_
    refine .p (bh (.s [115,116,97,114,116] rfl rfl)) rfl ?_
    refine Z5 ?_
    refine j9 ?_ ?_
    · exact af.any
    exact af.ex _ ⟨fun h=>absurd h (by decide),fun h=>by (exfalso;have hL:=cH h;have ko:=hL.sigs;have lp:=hL.imports;have mK:=hL.funcs;have mL:=hL.dR;have mM:=hL.globals;have mN:=hL.aY;have mO:=hL.elems;have nP:=hL.bU;have yc:=hL.table;have h9:=(Fu h (by omega)).2 s hs;omega)⟩ (af.refl _)
   refine Z1 ?_
   refine .meet () (LF hs (by omega)) rfl (.keep 22 rfl rfl)
  refine Z1 ?_
  refine .meet () (LD (by omega)) rfl (.keep 3 rfl rfl)
 intro _ fh
 refine Z9 ?_
 refine Cd (fun c27=> ?_) fun c27=> ?_
 ·
  refine Z2 ?_
  refine .p (bh (.s [101,108,101,109,115] rfl rfl)) rfl ?_
  refine Z5 ?_
  refine j9 ?_ ?_
  · exact af.any
  exact af.ex _ ⟨fun h=>absurd h (by decide),fun h=>by (exfalso;have hL:=cH h;have ko:=hL.sigs;have lp:=hL.imports;have mK:=hL.funcs;have mL:=hL.dR;have mM:=hL.globals;have mN:=hL.aY;have mO:=hL.elems;have nP:=hL.bU;have yc:=hL.table;omega)⟩ (af.refl _)
 refine Z9 ?_
 refine .aT (σ:=Nat) (fun _=>[]) (fun kh=>[(17,ag .i64 (kh:Int))]) (fun kh=>kh≤x.bt.length∧cN (fun z:fR=>tw x z≠0) x.bt kh) (fun kh=>x.bt.length-kh) 0 ⟨by omega,cN.zero _ _⟩ rfl ?_ ?_
 · exact (.get rfl (af.refl _) (.refl _ _))
 rintro kh ⟨bz4,XP⟩
 refine cK ?_
 refine Cd (fun c28=> ?_) fun c28=> ?_
 ·
  obtain ⟨z,hz⟩:=ah (xs:=x.bt) (k:=kh) (by omega)
  refine cK ?_
  refine .p (cI _) rfl ?_
  refine Z6 ?_
  refine Cd (fun c29=> ?_) fun c29=> ?_
  ·
   refine Z2 ?_
   refine .p (bh (.s [101,108,101,109,115] rfl rfl)) rfl ?_
   refine cK ?_
   refine j9 ?_ ?_
   · exact af.any
   exact af.ex _ ⟨fun h=>absurd h (by decide),fun h=>by (exfalso;have hL:=cH h;have ko:=hL.sigs;have lp:=hL.imports;have mK:=hL.funcs;have mL:=hL.dR;have mM:=hL.globals;have mN:=hL.aY;have mO:=hL.elems;have nP:=hL.bU;have yc:=hL.table;have h9:=(vl h (List.mem_of_getElem? hz)).1;omega)⟩ (af.refl _)
  refine dM ?_
  refine .g (cm.gF rfl rfl rfl rfl (fun hg=>aO FU.out FC.out rfl (.when (.t rfl) hg) (.when (.t rfl) hg) rfl (by assumption))) rfl rfl ?_
  refine Z6 ?_
  refine Cd (fun c30=> ?_) fun c30=> ?_
  ·
   refine Z2 ?_
   refine .p (bh (.s [101,108,101,109,115] rfl rfl)) rfl ?_
   refine cK ?_
   refine j9 ?_ ?_
   · exact af.any
   exact af.ex _ ⟨fun h=>absurd h (by decide),fun h=>by (exfalso;have hL:=cH h;have ko:=hL.sigs;have lp:=hL.imports;have mK:=hL.funcs;have mL:=hL.dR;have mM:=hL.globals;have mN:=hL.aY;have mO:=hL.elems;have nP:=hL.bU;have yc:=hL.table;have h9:=vl h (List.mem_of_getElem? hz);omega)⟩ (af.refl _)
  refine Z8 ?_
  refine .aT (σ:=Nat) (fun _=>[]) (fun kj=>[(18,ag .i64 (kj:Int))]) (fun kj=>kj≤z.ay.length∧cN (fun w:Int=>¬jt w (cG x)) z.ay kj) (fun kj=>z.ay.length-kj) 0 ⟨by omega,cN.zero _ _⟩ rfl ?_ ?_
  · exact (.get rfl (af.refl _) (.refl _ _))
  rintro kj ⟨bz5,XQ⟩
  refine Z7 ?_
  refine .p (cI _) rfl ?_
  refine Z6 ?_
  refine Cd (fun c31=> ?_) fun c31=> ?_
  ·
   obtain ⟨w,hw⟩:=ah (xs:=z.ay) (k:=kj) (by omega)
   refine Z9 ?_
   refine .p (cI _) rfl ?_
   refine Z3 ?_
   refine .p (cI _) rfl ?_
   refine Z2 ?_
   refine .p (cA (h:=mh)) rfl ?_
   refine Z3 ?_
   refine Cd (fun c32=> ?_) fun c32=> ?_
   ·
    refine Z2 ?_
    refine .p (bh (.s [101,108,101,109,115] rfl rfl)) rfl ?_
    refine lg ?_
    refine j9 ?_ ?_
    · exact af.any
    exact af.ex _ ⟨fun h=>absurd h (by decide),fun h=>by (exfalso;have hL:=cH h;have ko:=hL.sigs;have lp:=hL.imports;have mK:=hL.funcs;have mL:=hL.dR;have mM:=hL.globals;have mN:=hL.aY;have mO:=hL.elems;have nP:=hL.bU;have yc:=hL.table;have h9:=(vl h (List.mem_of_getElem? hz)).2.2.2 w (List.mem_of_getElem? hw);exact c32 (by simpa [cG] using h9))⟩ (af.refl _)
   refine Z8 ?_
   refine .round (kj+1) ⟨by omega,XQ.succ hw (by simpa [cG] using c32)⟩ (by omega) rfl ?_
   exact (.get rfl (af.int (by omega)) (.keep 25 rfl rfl))
  refine cT ?_
  refine .round (kh+1) ⟨by omega,XP.succ hz (not_not_intro (OH (k:=kj) (by omega) (by omega) (by omega) XQ (by omega)))⟩ (by omega) rfl ?_
  exact (.get rfl (af.int (by omega)) (.keep 40 rfl rfl))
 have fi:wH x=0:=sS (by omega) XP (by omega)
 refine iW ?_
 refine Cd (fun c33=> ?_) fun c33=> ?_
 ·
  refine Z2 ?_
  refine .p (bh (.s [100,97,116,97] rfl rfl)) rfl ?_
  refine Z5 ?_
  refine j9 ?_ ?_
  · exact af.any
  exact af.ex _ ⟨fun h=>absurd h (by decide),fun h=>by (exfalso;have hL:=cH h;have ko:=hL.sigs;have lp:=hL.imports;have mK:=hL.funcs;have mL:=hL.dR;have mM:=hL.globals;have mN:=hL.aY;have mO:=hL.elems;have nP:=hL.bU;have yc:=hL.table;omega)⟩ (af.refl _)
 refine Z9 ?_
 refine .aT (σ:=Nat) (fun _=>[]) (fun kl=>[(19,ag .i64 (kl:Int))]) (fun kl=>kl≤x.aZ.length∧cN (fun z:jJ=>tA x z≠0) x.aZ kl) (fun kl=>x.aZ.length-kl) 0 ⟨by omega,cN.zero _ _⟩ rfl ?_ ?_
 · exact (.get rfl (af.refl _) (.refl _ _))
 rintro kl ⟨bz6,XR⟩
 refine cK ?_
 refine Cd (fun c34=> ?_) fun c34=> ?_
 ·
  obtain ⟨z,hz⟩:=ah (xs:=x.aZ) (k:=kl) (by omega)
  refine Z9 ?_
  refine .p (cI _) rfl ?_
  refine Z1 ?_
  refine .n (ax FZ.out) rfl fun b20 _=> ?_
  refine Z3 ?_
  refine .share (t:=20) (i:=0) rfl rfl ?_
  refine Z9 ?_
  refine Cd (fun c35=> ?_) fun c35=> ?_
  ·
   refine Z2 ?_
   refine .p (bh (.s [100,97,116,97] rfl rfl)) rfl ?_
   refine cK ?_
   refine j9 ?_ ?_
   · exact af.any
   exact af.ex _ ⟨fun h=>absurd h (by decide),fun h=>by (exfalso;have hL:=cH h;have ko:=hL.sigs;have lp:=hL.imports;have mK:=hL.funcs;have mL:=hL.dR;have mM:=hL.globals;have mN:=hL.aY;have mO:=hL.elems;have nP:=hL.bU;have yc:=hL.table;have h9:=(yG h (List.mem_of_getElem? hz)).1;omega)⟩ (af.refl _)
  refine cK ?_
  refine .p (cA (h:=mh)) rfl ?_
  refine Z3 ?_
  refine Cd (fun c36=> ?_) fun c36=> ?_
  ·
   refine Z2 ?_
   refine .p (bh (.s [100,97,116,97] rfl rfl)) rfl ?_
   refine cK ?_
   refine j9 ?_ ?_
   · exact af.any
   exact af.ex _ ⟨fun h=>absurd h (by decide),fun h=>by (exfalso;have hL:=cH h;have ko:=hL.sigs;have lp:=hL.imports;have mK:=hL.funcs;have mL:=hL.dR;have mM:=hL.globals;have mN:=hL.aY;have mO:=hL.elems;have nP:=hL.bU;have yc:=hL.table;have h9:=(yG h (List.mem_of_getElem? hz)).2.1;exact c36 (by simpa using h9))⟩ (af.refl _)
  obtain ⟨S6,hy2⟩:=jt.at (n:=z.Mem) (k:=x.bp.length) (by simpa using c36)
  obtain ⟨y,hy1⟩:=ah (xs:=x.bp) (k:=z.Mem.toNat) S6
  refine Z8 ?_
  refine .p (cI z.Mem.toNat (h:=hy1) (hi:=hy2)) rfl ?_
  refine cK ?_
  refine Cd (fun c37=> ?_) fun c37=> ?_
  ·
   refine Z2 ?_
   refine .p (bh (.s [100,97,116,97] rfl rfl)) rfl ?_
   refine Z9 ?_
   refine j9 ?_ ?_
   · exact af.any
   exact af.ex _ ⟨fun h=>absurd h (by decide),fun h=>by (exfalso;have hL:=cH h;have ko:=hL.sigs;have lp:=hL.imports;have mK:=hL.funcs;have mL:=hL.dR;have mM:=hL.globals;have mN:=hL.aY;have mO:=hL.elems;have nP:=hL.bU;have yc:=hL.table;have h9:=(yG h (List.mem_of_getElem? hz)).2.2 y hy1;exact h9 c37)⟩ (af.refl _)
  refine Z8 ?_
  refine .round (kl+1) ⟨by omega,XR.succ hz (not_not_intro (OI (by omega) (by simpa using c36) hy1 (by simpa using c37)))⟩ (by omega) rfl ?_
  exact (.get rfl (af.int (by omega)) (.keep 40 rfl rfl))
 have fj:wI x=0:=sS (by omega) XR (by omega)
 refine Z7 ?_
 refine .p (bh (.s [] rfl rfl)) rfl ?_
 refine Z4 ?_
 refine j9 ?_ ?_
 · exact af.any
 exact af.ex _ ⟨fun _=>⟨fa,fb,fc,fd,fe,ff,fg,fh,fi,fj⟩,fun _=>rfl⟩ (af.refl _)
variable {n:Nat}
theorem GP {l:List aA} {a d:Nat} (av:l.length-a<n) (hp1:a≤l.length) (hp2:d≤64) (fI:l.length≤10000):cw Tryz.prog 133 [ai 5 aK (l),ag .i64 ((a:Int)),ag .i64 ((d:Int))] [] (γ:=Int×SB×List A7×Int) (fun g=>Xo l a d g.1 g.2.2.1 g.2.2.2) (fun g=>[au g.2.1 3 gM g.2.2.1]) (fun g=>bD [ag .i64 g.1,aa (bq g.2.1 g.2.2.1.length),ag .i64 g.2.2.2]):=by
 induction n generalizing a d
 case zero=>omega
 rename_i n ih
 refine In 128 Tryz.func133 fun _ _ _=> ?_
 refine dM ?_
 refine .eu 3 gM ?_
 refine Z2 ?_
 refine .aT (σ:=Nat×SB×List A7) (fun g=>[au g.2.1 3 gM g.2.2]) (fun g=>[(1,ag .i64 (g.1:Int)),(9,aa (bq g.2.1 g.2.2.length))]) (fun g=>a≤g.1∧g.1≤l.length∧g.2.2.length+a≤g.1∧rc ((ck l).drop a) d=rc ((ck l).drop g.1) d) (fun g=>l.length-g.1) (a,none,[]) ⟨Nat.le_refl _,hp1,by simp,rfl⟩ rfl ?_ ?_
 · exact (.get rfl (af.refl _) (.get rfl (af.of_eq rfl) (.refl _ _)))
 rintro ⟨i,gs,out⟩ ⟨hai,oQ,yw,hrc⟩
 simp only at hai oQ yw hrc ⊢
 refine Z9 ?_
 refine Cd (fun c0=> ?_) fun c0=> ?_
 ·
  obtain ⟨x,hx⟩:=ah (xs:=l) (k:=i) (by omega)
  refine Z7 ?_
  refine .p (cI i (h:=hx)) rfl ?_
  refine D0 ?_
  refine Cd (fun c1=> ?_) fun c1=> ?_
  ·
   refine nZ ?_
   refine Post.bf rfl rfl (((i:Int),gs,out,0)) (by exact .inl ⟨rfl,i,rfl,by rw [hrc,fA hx,Uz c1],by omega,oQ,by omega⟩) (fun _ _ _ h=>h) rfl (.cons (.rt rfl) ?_ (.cons (.rt rfl) ?_ (.cons (.rt rfl) ?_ .nil)))
   · exact af.refl _
   · exact af.refl _
   exact af.refl _
  refine lg ?_
  refine Cd (fun c2=> ?_) fun c2=> ?_
  ·
   refine cK ?_
   refine .round (i+1,gs,out) ⟨by show a≤i+1;omega,by show i+1≤_;omega,by show out.length+a≤i+1;omega,by (show _=rc ((ck l).drop (i+1)) d;rw [hrc,fA hx,PI c1 (by unfold aQ;omega)])⟩ (by show l.length-(i+1)<l.length-i;omega) rfl ?_
   exact (.get rfl (af.int (by show (_:Int)=((i+1:Nat):Int);omega)) (.get rfl (af.refl _) ((.keep 27 rfl rfl))))
  have ho:aQ x.Code:=by unfold aQ;omega
  refine Z9 ?_
  refine Cd (fun c3=> ?_) fun c3=> ?_
  ·
   refine iW ?_
   refine Post.bf rfl rfl (((i:Int),none,[],15)) (by exact .inr ⟨by show (15:Int)≠0;decide,by rw [hrc,fA hx];exact R3 ho (by omega),rfl⟩) (aB.trans (aB.nil _) aB.none) rfl (.cons (.rt rfl) ?_ (.cons (.rt rfl) ?_ (.cons (.rt rfl) ?_ .nil)))
   · exact af.refl _
   · exact af.refl _
   exact af.refl _
  have hd:¬64≤d:=by omega
  refine Z6 ?_
  refine .n (ax FZ.out) rfl fun Vn _=> ?_
  refine cK ?_
  refine .n (cz (rest:=[_,_]) (@ih (i+1) (d+1) (by omega) (by omega) (by omega)) FB.out (.cons (.t rfl) (.cons (.le (.t rfl) (af.int (show (i:Int)+1=((i+1:Nat):Int) by omega))) (.cons (.le (.t rfl) (af.int (show (d:Int)+1=((d+1:Nat):Int) by omega))) .nil))) (Perm.idx [0,1] rfl rfl)) rfl fun GB Th=> ?_
  refine Z9 ?_
  refine .cut (σ:=Int×SB×List A7×Int×Int) (fun z=>[au z.2.1 3 gM z.2.2.1,az Vn [ag .i64 (i:Int),ag .i64 z.2.2.2.2,ag .i64 (-1)],au gs 3 gM out]) (fun z=>[(12,ag .i64 z.1),(13,aa (bq z.2.1 z.2.2.1.length)),(14,ag .i64 z.2.2.2.1)]) (fun z=>rcM l i d z.1 z.2.2.1 z.2.2.2.1) ?_ ?_
  ·
   refine lg ?_
   refine .g (cm.gT rfl rfl rfl rfl (fun hg=>aO (j:=GB.1.toNat) FU.out FC.out rfl (.when (.t rfl) hg) (.when (.t rfl) hg) (by (rcases Th with ⟨_,k,h2,_⟩|⟨h1,_⟩;omega;exact absurd hg.1 h1)) (vG (by omega)))) rfl rfl ?_
   refine Z6 ?_
   refine Cd (fun c4=> ?_) fun c4=> ?_
   ·
    refine Z7 ?_
    refine Cd (fun c5=> ?_) fun c5=> ?_
    ·
     refine nZ ?_
     refine Post.bf rfl rfl ((GB.1,none,[],4)) (by exact .inr ⟨by show (4:Int)≠0;decide,by (rw [hrc];rcases Th with ⟨_,k,h2,h3,_,h5,_⟩|⟨h1,_⟩;(have hk:GB.1.toNat=k:=by omega);have hc:=c4.2;(rw [hk] at hc);exact Jx hx ho hd h3 (vG (by omega)) hc c5;exact absurd c4.1.1 h1),rfl⟩) (aB.trans (aB.nil _) aB.none) rfl (.cons (.rt rfl) ?_ (.cons (.rt rfl) ?_ (.cons (.rt rfl) ?_ .nil)))
     · exact af.refl _
     · exact af.refl _
     exact af.refl _
    have h4:x.Code=4:=by omega
    have bz7:0≤GB.1∧i+1≤GB.1.toNat∧GB.1.toNat<l.length:=by (have h8:=c4.1.2;rcases Th with ⟨_,k,h2,_,h3,_⟩|⟨h1,_⟩;omega;exact absurd c4.1.1 h1)
    refine Vf ?_
    refine .n (cz (rest:=[_,_,_]) (@ih (GB.1.toNat+1) (d+1) (by omega) (by omega) (by omega)) FB.out (.cons (.t rfl) (.cons (.le (.t rfl) (af.int (show GB.1+1=((GB.1.toNat+1:Nat):Int) by omega))) (.cons (.le (.t rfl) (af.int (show (d:Int)+1=((d+1:Nat):Int) by omega))) .nil))) (Perm.idx [0,1,2] rfl rfl)) rfl fun UR XS=> ?_
    refine cK ?_
    refine .er (t:=15) (i:=0) (g:=UR.2.1) (xs:=UR.2.2.1) rfl rfl ?_
    refine Z3 ?_
    refine .n (aD (i:=0) FU.out FU.out FC.out rfl FZ.out rfl FY.out (.t rfl) (.t rfl) rfl (by have:=yQ Th;have:=yQ XS;omega) (by have:=yQ Th;have:=yQ XS;omega)) rfl fun g89 _=> ?_
    refine D0 ?_
    refine .g (cm.gT rfl rfl rfl rfl (fun hg=>aO (j:=UR.1.toNat) FU.out FC.out rfl (.when (.t rfl) hg) (.when (.t rfl) hg) (by (rcases XS with ⟨_,k,h2,_⟩|⟨h1,_⟩;omega;exact absurd hg.1 h1)) (vG (by omega)))) rfl rfl ?_
    refine Z6 ?_
    refine Cd (fun c6=> ?_) fun c6=> ?_
    ·
     refine iW ?_
     refine Post.bf rfl rfl ((UR.1,none,[],4)) (by exact .inr ⟨by show (4:Int)≠0;decide,by rw [hrc];exact (KJ hx ho hd hp2 Th fI c4 h4 XS).1 c6,rfl⟩) (aB.trans (aB.nil _) aB.none) rfl (.cons (.rt rfl) ?_ (.cons (.rt rfl) ?_ (.cons (.rt rfl) ?_ .nil)))
     · exact af.refl _
     · exact af.refl _
     exact af.refl _
    refine Z1 ?_
    refine .meet (UR.1,g89,GB.2.2.1++UR.2.2.1,UR.2.2.2,GB.1) ((KJ hx ho hd hp2 Th fI c4 h4 XS).2 c6) rfl (.get rfl (af.refl _) (.get rfl (af.refl _) (.get rfl (af.refl _) (.keep 55 rfl rfl))))
   refine Z1 ?_
   refine .meet (GB.1,GB.2.1,GB.2.2.1,GB.2.2.2,-1) (R6 hx ho hd Th fI c4) rfl (.get rfl (af.refl _) (.get rfl (af.refl _) (.get rfl (af.refl _) (.keep 16 rfl rfl))))
  intro ⟨en,gi,inn,e,el⟩ hM
  simp only at hM ⊢
  refine Z7 ?_
  refine Cd (fun c7=> ?_) fun c7=> ?_
  ·
   refine nZ ?_
   refine Post.bf rfl rfl ((en,none,[],e)) (by exact .inr ⟨c7,by (rw [hrc];rcases hM with ⟨_,h,_⟩|⟨h1,_⟩|⟨h1,_⟩;exact h;exact absurd h1 c7;exact absurd h1 c7),rfl⟩) (aB.trans (aB.nil _) aB.none) rfl (.cons (.rt rfl) ?_ (.cons (.rt rfl) ?_ (.cons (.rt rfl) ?_ .nil)))
   · exact af.refl _
   · exact af.refl _
   exact af.refl _
  refine cT ?_
  refine Cd (fun c8=> ?_) fun c8=> ?_
  ·
   refine iW ?_
   refine Post.bf rfl rfl ((en,none,[],4)) (by exact .inr ⟨by show (4:Int)≠0;decide,by (rw [hrc];rcases hM with ⟨h1,h,_⟩|⟨_,_,h,_⟩|⟨_,k,h1,h2,_⟩;exact h;exact h;exact absurd c8 (by omega)),rfl⟩) (aB.trans (aB.nil _) aB.none) rfl (.cons (.rt rfl) ?_ (.cons (.rt rfl) ?_ (.cons (.rt rfl) ?_ .nil)))
   · exact af.refl _
   · exact af.refl _
   exact af.refl _
  obtain ⟨Nr,k,Cs,hk2,H8,DX,Rb⟩:e=0∧∃k:Nat,en=(k:Int)∧k<l.length∧rc ((ck l).drop i) d=rc ((ck l).drop (k+1)) d∧i+1≤k∧inn.length+i+1≤k:=by (rcases hM with ⟨h1,_⟩|⟨_,h1,_⟩|h1;exact absurd h1 c7;exact absurd h1 c8;exact h1)
  refine cK ?_
  refine .er (t:=13) (i:=0) (g:=gi) (xs:=inn) rfl rfl ?_
  refine Z3 ?_
  refine .p (cB gM [((i:Int),el,en)]) rfl ?_
  refine .n (aD (i:=1) FU.out FU.out FC.out rfl FZ.out rfl FY.out (.t rfl) (.t rfl) rfl (by simp only [List.length_cons,List.length_nil];omega) (by simp only [List.length_cons,List.length_nil];omega)) rfl fun bz8 _=> ?_
  refine Z1 ?_
  refine .n (aD (i:=1) FU.out FU.out FC.out rfl FZ.out rfl FY.out (.t rfl) (.t rfl) rfl (by simp only [List.length_append,List.length_cons,List.length_nil];omega) (by simp only [List.length_append,List.length_cons,List.length_nil];omega)) rfl fun an9 _=> ?_
  refine Z9 ?_
  refine .own (aB.dD [1] [0] rfl rfl) (bK.round (k+1,an9,(out++[((i:Int),el,en)])++inn) ⟨by show a≤k+1;omega,by show k+1≤_;omega,by (show ((out++[_])++inn).length+a≤k+1;simp only [List.length_append,List.length_cons,List.length_nil];omega),by (show _=rc ((ck l).drop (k+1)) d;rw [hrc,H8])⟩ (by show l.length-(k+1)<l.length-i;omega) rfl ?_)
  exact (.get rfl (af.int (by show (_:Int)=((k+1:Nat):Int);omega)) (.get rfl (af.refl _) ((.keep 64 rfl rfl))))
 refine nZ ?_
 refine Post.bf rfl rfl (((i:Int),gs,out,0)) (by exact .inl ⟨rfl,i,rfl,by (rw [hrc,nr (by omega)];rfl),by omega,oQ,by omega⟩) (fun _ _ _ h=>h) rfl (.cons (.rt rfl) ?_ (.cons (.rt rfl) ?_ (.cons (.rt rfl) ?_ .nil)))
 · exact af.refl _
 · exact af.refl _
 exact af.refl _
theorem GQ {l:List aA} (av:l.length≤10000):cw Tryz.prog 111 [ai 5 aK (l)] [] (γ:=Int) (fun e=>e=0↔eZ (ck l) []) (fun _=>[]) (fun e=>bD [jA,jA,ag .i64 e]):=by
 refine In 39 Tryz.func111 fun _ _ _=> ?_
 refine cK ?_
 refine .n (cE (h:=GP (n:=l.length+1) (a:=0) (d:=0) (by omega) (Nat.zero_le _) (by omega) av)) rfl fun g10 h10=> ?_
 refine D0 ?_
 refine Cd (fun c0=> ?_) fun c0=> ?_
 ·
  have hno:¬eZ (ck l) []:=fun h=>by (rw [yR] at h;rcases h10 with ⟨h1,_⟩|⟨_,h2,_⟩;exact c0 h1;rw [List.drop_zero] at h2;rw [h2] at h;cases h)
  refine cT ?_
  refine Post.bf rfl rfl (g10.2.2.2) (by exact ⟨fun h=>absurd h c0,fun h=>absurd h hno⟩) (fun _ _ _ _=>trivial) rfl (.cons (.rt rfl) ?_ (.cons (.rt rfl) ?_ (.cons (.rt rfl) ?_ .nil)))
  · exact af.any
  · exact af.any
  exact af.refl _
 obtain ⟨h1,k,Cs,hk2,_,H8,_⟩:g10.2.2.2=0∧∃n:Nat,g10.1=(n:Int)∧rc ((ck l).drop 0) 0=some ((ck l).drop n)∧0≤n∧n≤l.length∧g10.2.2.1.length+0≤n:=by (rcases h10 with h|⟨h1,_⟩;exact h;exact absurd (Classical.not_not.1 c0) h1)
 rw [List.drop_zero] at hk2
 have hkk:g10.1.toNat=k:=by omega
 refine dM ?_
 refine .g (cm.gF rfl rfl rfl rfl (fun hg=>aO (j:=g10.1.toNat) FU.out FC.out rfl (.when (.t rfl) hg) (.when (.t rfl) hg) (by (rcases h10 with ⟨_,k,h2,_⟩|⟨h1,_⟩;omega;exact absurd (Classical.not_not.1 c0) h1)) (vG (by (rcases h10 with ⟨_,k,h2,_,_,h5,_⟩|⟨h1,_⟩;omega;exact absurd (Classical.not_not.1 c0) h1))))) rfl rfl ?_
 refine Z6 ?_
 refine Cd (fun c1=> ?_) fun c1=> ?_
 ·
  refine cK ?_
  refine Post.bf rfl rfl (4) (by exact ⟨fun h=>by simp at h,fun h=>by (rw [yR,hk2] at h;rcases c1 with c1|c1;(rw [nr (by omega)] at h;cases h);(by_cases hlt:k<l.length;(rw [fA (vG hlt)] at h;rw [hkk] at c1;rw [c1] at h;simp at h);(rw [nr (by omega)] at h;cases h)))⟩) (fun _ _ _ _=>trivial) rfl (.cons (.rt rfl) ?_ (.cons (.rt rfl) ?_ (.cons (.rt rfl) ?_ .nil)))
  · exact af.any
  · exact af.any
  exact af.refl _
 have hlt:k<l.length:=by (have:¬g10.1=(l.length:Int):=fun h=>c1 (.inl h);omega)
 have hy:l[k]?=some (gI l k):=vG hlt
 have hn5:¬(gI l k).Code=5:=fun h=>c1 (.inr (by rw [hkk];exact h))
 rw [fA hy] at hk2
 have h11:=(R4 (by omega) hk2).resolve_right hn5
 refine dM ?_
 refine Cd (fun c2=> ?_) fun c2=> ?_
 ·
  refine cT ?_
  refine Post.bf rfl rfl (4) (by exact ⟨fun h=>by simp at h,fun h=>by (rw [yR,hk2] at h;simp only [Option.some.injEq,List.cons.injEq] at h;have h9:=congrArg List.length h.2;rw [List.length_drop,Cg] at h9;simp at h9;omega)⟩) (fun _ _ _ _=>trivial) rfl (.cons (.rt rfl) ?_ (.cons (.rt rfl) ?_ (.cons (.rt rfl) ?_ .nil)))
  · exact af.any
  · exact af.any
  exact af.refl _
 refine cT ?_
 refine Post.bf rfl rfl (0) (by exact ⟨fun _=>by (rw [yR,hk2,h11,nr (by omega)]),fun _=>rfl⟩) (fun _ _ _ _=>trivial) rfl (.cons (.rt rfl) ?_ (.cons (.rt rfl) ?_ (.cons (.rt rfl) ?_ .nil)))
 · exact af.any
 · exact af.any
 exact af.refl _
theorem fN (av:n<18446744073709551616):cw Tryz.prog 112 [ag .u64 ((n:Int))] [] (γ:=List UInt8) (fun z=>z.length=fK n) (fun _=>[]) (fun z=>ai 1 aj z):=by
 refine In 20 Tryz.func112 fun _ _ _=> ?_
 have MF:=dF av
 refine cK ?_
 refine .eu 1 aj ?_
 refine Z2 ?_
 refine .aT (σ:=SB×List UInt8×Nat) (fun z=>[au z.1 1 aj z.2.1]) (fun z=>[(3,aa (bq z.1 z.2.1.length)),(0,ag .u64 (z.2.2:Int))]) (fun z=>z.2.1.length+fK z.2.2=fK n∧z.2.2≤n) (fun z=>z.2.2) (none,[],n) ⟨by simp,Nat.le_refl _⟩ rfl ?_ ?_
 · exact (.get rfl (af.of_eq rfl) (.get rfl (af.refl _) (.refl _ _)))
 rintro ⟨g1,ys,j⟩ ⟨hl,hk⟩
 simp only at hl hk ⊢
 refine Z7 ?_
 refine Cd (fun c0=> ?_) fun c0=> ?_
 ·
  refine Z7 ?_
  refine .p (Bu (b:=128) (by decide) (.t rfl) (.c _)) rfl ?_
  refine .p ((eP FU.out FU.out (.t rfl)).le (af.int (show _=((j%128:Nat):Int) by rw [oJ];omega))) rfl ?_
  refine .p ((ep (.t rfl) (.c _) dL).le (af.trans (af.int (show _=((j%128+128:Nat):Int) by omega)) (oK (by omega)))) rfl ?_
  refine .p (cB aj [(UInt8.ofNat (j%128+128))]) rfl ?_
  refine .n (aD (i:=0) FU.out FU.out FC.out rfl FZ.out rfl FY.out (.t rfl) (.t rfl) rfl (by simp only [List.length_cons,List.length_nil];omega) (by simp only [List.length_cons,List.length_nil];omega)) rfl fun g12 _=> ?_
  refine Z5 ?_
  refine .p (Bv (b:=128) (by omega) (.t rfl) (.c _)) rfl ?_
  refine Z3 ?_
  refine .round (g12,ys++[(UInt8.ofNat (j%128+128))],j/128) ⟨by (show (ys++[_]).length+fK (j/128)=_;rw [List.length_append];simp only [List.length_cons,List.length_nil];have:=yH (n:=j) (by omega);omega),by show j/128≤n;omega⟩ (by show j/128<j;omega) rfl ?_
  exact (.get rfl (af.refl _) (.get rfl (af.refl _) ((.keep 15 rfl rfl))))
 refine Z9 ?_
 refine .p ((eP FU.out FU.out (.t rfl)).le (af.trans (af.int (show _=((j:Nat):Int) by rw [oJ];omega)) (oK (by omega)))) rfl ?_
 refine .p (cB aj [UInt8.ofNat j]) rfl ?_
 refine .n (fV.er (G:=fun g=>g) (hs1:=fun _=>_) (xs:=fun _=>_) (aD (i:=0) FU.out FU.out FC.out rfl FZ.out rfl FY.out (.t rfl) (.t rfl) rfl (by simp only [List.length_cons,List.length_nil];omega) (by simp only [List.length_cons,List.length_nil];omega))) rfl fun _ _=> ?_
 refine Z4 ?_
 refine Post.aP rfl (ys++[UInt8.ofNat j]) (by exact (by (show (ys++[_]).length=_;rw [List.length_append];simp only [List.length_cons,List.length_nil];have:=vu (n:=j) (by omega);omega))) (fun _ _ _ h=>h) (.rt rfl) ?_
 exact af.refl _
theorem JF (av:n<18446744073709551616):cw Tryz.prog 112 [ag .u64 ((n:Int))] [] (γ:=SB×List UInt8) (fun z=>z.2.length=fK n) (fun z=>[au z.1 1 aj z.2]) (fun z=>aa (bq z.1 z.2.length)):=by
 refine In 20 Tryz.func112 fun _ _ _=> ?_
 have MF:=dF av
 refine cK ?_
 refine .eu 1 aj ?_
 refine Z2 ?_
 refine .aT (σ:=SB×List UInt8×Nat) (fun z=>[au z.1 1 aj z.2.1]) (fun z=>[(3,aa (bq z.1 z.2.1.length)),(0,ag .u64 (z.2.2:Int))]) (fun z=>z.2.1.length+fK z.2.2=fK n∧z.2.2≤n) (fun z=>z.2.2) (none,[],n) ⟨by simp,Nat.le_refl _⟩ rfl ?_ ?_
 · exact (.get rfl (af.of_eq rfl) (.get rfl (af.refl _) (.refl _ _)))
 rintro ⟨g1,ys,j⟩ ⟨hl,hk⟩
 simp only at hl hk ⊢
 refine Z7 ?_
 refine Cd (fun c0=> ?_) fun c0=> ?_
 ·
  refine Z7 ?_
  refine .p (Bu (b:=128) (by decide) (.t rfl) (.c _)) rfl ?_
  refine .p ((eP FU.out FU.out (.t rfl)).le (af.int (show _=((j%128:Nat):Int) by rw [oJ];omega))) rfl ?_
  refine .p ((ep (.t rfl) (.c _) dL).le (af.trans (af.int (show _=((j%128+128:Nat):Int) by omega)) (oK (by omega)))) rfl ?_
  refine .p (cB aj [(UInt8.ofNat (j%128+128))]) rfl ?_
  refine .n (aD (i:=0) FU.out FU.out FC.out rfl FZ.out rfl FY.out (.t rfl) (.t rfl) rfl (by simp only [List.length_cons,List.length_nil];omega) (by simp only [List.length_cons,List.length_nil];omega)) rfl fun g12 _=> ?_
  refine Z5 ?_
  refine .p (Bv (b:=128) (by omega) (.t rfl) (.c _)) rfl ?_
  refine Z3 ?_
  refine .round (g12,ys++[(UInt8.ofNat (j%128+128))],j/128) ⟨by (show (ys++[_]).length+fK (j/128)=_;rw [List.length_append];simp only [List.length_cons,List.length_nil];have:=yH (n:=j) (by omega);omega),by show j/128≤n;omega⟩ (by show j/128<j;omega) rfl ?_
  exact (.get rfl (af.refl _) (.get rfl (af.refl _) ((.keep 15 rfl rfl))))
 refine Z9 ?_
 refine .p ((eP FU.out FU.out (.t rfl)).le (af.trans (af.int (show _=((j:Nat):Int) by rw [oJ];omega)) (oK (by omega)))) rfl ?_
 refine .p (cB aj [UInt8.ofNat j]) rfl ?_
 refine .n (aD (i:=0) FU.out FU.out FC.out rfl FZ.out rfl FY.out (.t rfl) (.t rfl) rfl (by simp only [List.length_cons,List.length_nil];omega) (by simp only [List.length_cons,List.length_nil];omega)) rfl fun g19 _=> ?_
 refine Z4 ?_
 refine Post.aP rfl ((g19,ys++[UInt8.ofNat j])) (by exact (by (show (ys++[_]).length=_;rw [List.length_append];simp only [List.length_cons,List.length_nil];have:=vu (n:=j) (by omega);omega))) (fun _ _ _ h=>h) (.rt rfl) ?_
 exact af.refl _
theorem JG {n:Int} (av: -9223372036854775808≤n) (hp1:n≤9223372036854775807):cw Tryz.prog 134 [ag .i64 (n)] [] (γ:=List UInt8) (fun z=>z.length=lu n) (fun _=>[]) (fun z=>ai 1 aj z):=by
 refine In 50 Tryz.func134 fun _ _ _=> ?_
 have MF:=yI av (by omega:n<9223372036854775808)
 refine cK ?_
 refine .eu 1 aj ?_
 refine Z7 ?_
 refine .aT (σ:=SB×List UInt8×Nat×Int) (fun z=>[au z.1 1 aj z.2.1]) (fun z=>[(0,ag .i64 z.2.2.2),(3,aa (bq z.1 z.2.1.length)),(4,ag .i64 (z.2.2.1:Int))]) (fun z=>z.2.1.length=z.2.2.1∧z.2.2.1+lu z.2.2.2=lu n∧ -9223372036854775808≤z.2.2.2∧z.2.2.2≤9223372036854775807) (fun z=>10-z.2.2.1) (none,[],0,n) ⟨rfl,by simp,av,hp1⟩ rfl ?_ ?_
 · exact (.get rfl (af.refl _) (.get rfl (af.of_eq rfl) (.get rfl (af.refl _) (.refl _ _))))
 rintro ⟨g1,ys,j,v⟩ ⟨hl,hk,hv1,hv2⟩
 simp only at hl hk hv1 hv2 ⊢
 have hpos:=FI v
 refine Z7 ?_
 refine Cd (fun c0=> ?_) fun c0=> ?_
 ·
  refine Z7 ?_
  refine .p (TG (.t rfl) (.c _) (by decide)) rfl ?_
  refine Z3 ?_
  refine .cut (σ:=Unit) (fun _=>[au g1 1 aj ys]) (fun _=>[(5,ag .i64 (v%128))]) (fun _=>True) ?_ ?_
  ·
   refine Z6 ?_
   refine Cd (fun c1=> ?_) fun c1=> ?_
   ·
    refine Z2 ?_
    refine .p (ep (.t rfl) (.c _) (bY (by rw [yS];split<;>omega) (by rw [yS];split<;>omega))) rfl ?_
    refine Z2 ?_
    refine .meet () trivial rfl (.get rfl (af.int (by have h9:=yS v;split at h9<;>omega)) (.keep 5 rfl rfl))
   refine Z1 ?_
   refine .meet () trivial rfl (.get rfl (af.int (by have h9:=yS v;split at h9<;>omega)) (.keep 2 rfl rfl))
  intro _ _
  refine Z4 ?_
  refine .p (Ny (.t rfl) (.t rfl)) rfl ?_
  refine .p (TF (.t rfl) (.c _) (by decide)) rfl ?_
  refine Z3 ?_
  refine .cut (σ:=Unit) (fun _=>[au g1 1 aj ys]) (fun _=>[(6,ag .i64 (v/128))]) (fun _=>True) ?_ ?_
  ·
   refine Z6 ?_
   refine Cd (fun c2=> ?_) fun c2=> ?_
   ·
    refine Z3 ?_
    refine .meet () trivial rfl (.get rfl (af.int (by omega)) (.keep 3 rfl rfl))
   refine Z1 ?_
   refine .meet () trivial rfl (.get rfl (af.int (R7 (by omega) hv2)) (.keep 2 rfl rfl))
  intro _ _
  refine EC ?_
  refine Cd (fun c3=> ?_) fun c3=> ?_
  ·
   refine Z4 ?_
   refine .p ((eP FU.out FU.out (.t rfl)).le (af.trans (af.int (show _=(((v%128).toNat:Nat):Int) by rw [oJ];omega)) (oK (by omega)))) rfl ?_
   refine .p (cB aj [UInt8.ofNat (v%128).toNat]) rfl ?_
   refine .n (fV.er (G:=fun g=>g) (hs1:=fun _=>_) (xs:=fun _=>_) (aD (i:=0) FU.out FU.out FC.out rfl FZ.out rfl FY.out (.t rfl) (.t rfl) rfl (by simp only [List.length_cons,List.length_nil];omega) (by simp only [List.length_cons,List.length_nil];omega))) rfl fun _ _=> ?_
   refine cK ?_
   refine Post.aP rfl (ys++[UInt8.ofNat (v%128).toNat]) (by exact (by (show (ys++[_]).length=_;rw [List.length_append];simp only [List.length_cons,List.length_nil];have:=MP c3;omega))) (fun _ _ _ h=>h) (.rt rfl) ?_
   exact af.refl _
  refine Z6 ?_
  refine .p ((eP FU.out FU.out (.t rfl)).le (af.int (show _=v%128 by rw [oJ];omega))) rfl ?_
  refine .p ((ep (.t rfl) (.c _) dL).le (af.trans (af.int (show _=(((v%128+128).toNat:Nat):Int) by omega)) (oK (by omega)))) rfl ?_
  refine .p (cB aj [(UInt8.ofNat ((v%128+128).toNat))]) rfl ?_
  refine .n (aD (i:=0) FU.out FU.out FC.out rfl FZ.out rfl FY.out (.t rfl) (.t rfl) rfl (by simp only [List.length_cons,List.length_nil];omega) (by simp only [List.length_cons,List.length_nil];omega)) rfl fun Xc _=> ?_
  refine iW ?_
  refine .round (Xc,ys++[(UInt8.ofNat ((v%128+128).toNat))],j+1,v/128) ⟨by (show (ys++[_]).length=j+1;rw [List.length_append];simp only [List.length_cons,List.length_nil];omega),by (show j+1+lu (v/128)=_;have:=R8 c3;omega),by show _≤v/128;omega,by show v/128≤_;omega⟩ (by show 10-(j+1)<10-j;omega) rfl ?_
  exact (.get rfl (af.refl _) (.get rfl (af.refl _) (.get rfl (af.int (by show (_:Int)=((j+1:Nat):Int);omega)) ((.keep 41 rfl rfl)))))
 exfalso
 omega
theorem GR {x:aA} (av:Ai x):cW Tryz.prog 110 [aC (aK x)] (aq (iJ x)):=by
 refine In 125 Tryz.func110 fun _ _ _=> ?_
 have hxA:=av.A0
 have hxB:=av.B0
 have hxL:=av.Ln
 refine cT ?_
 refine .p (cA (h:=Jz)) rfl ?_
 refine .p (G4 (.t rfl) (.s [] rfl rfl)) rfl ?_
 refine Z2 ?_
 refine Cd (fun c0=> ?_) fun c0=> ?_
 ·
  refine Z7 ?_
  refine bL ?_
  exact af.prop ⟨fun h=>h.elim,fun h=>absurd c0 h.1⟩
 refine Z6 ?_
 refine .p (cA (h:=js)) rfl ?_
 refine Z34 ?_
 refine Cd (fun c1=> ?_) fun c1=> ?_
 ·
  refine Z7 ?_
  refine bL ?_
  exact af.prop ⟨fun h=>h.elim,fun h=>by (have h9:=h.2.1;unfold uh at h9;omega)⟩
 refine Z33 ?_
 refine Cd (fun c2=> ?_) fun c2=> ?_
 ·
  refine Z7 ?_
  refine bL ?_
  exact af.prop ⟨fun h=>h.elim,fun h=>by (have h9:=h.2.2.1;omega)⟩
 refine Z40 ?_
 refine Z1 ?_
 refine Cd (fun c3=> ?_) fun c3=> ?_
 ·
  refine Z7 ?_
  refine bL ?_
  exact af.prop ⟨fun h=>h.elim,fun h=>by (have h9:=h.2.2.2.1;omega)⟩
 refine Z9 ?_
 refine .aT (σ:=Nat) (fun _=>[]) (fun j=>[(4,ag .i64 (j:Int))]) (fun j=>j≤x.L.length∧∀n∈x.L.take j,uh n) (fun j=>x.L.length-j) 0 ⟨Nat.zero_le _,by simp⟩ rfl ?_ ?_
 · exact (.get rfl (af.refl _) (.refl _ _))
 rintro j ⟨hj,hall⟩
 refine cK ?_
 refine Cd (fun c4=> ?_) fun c4=> ?_
 ·
  obtain ⟨y,hy⟩:=ah (xs:=x.L) (k:=j) (by omega)
  refine Z9 ?_
  refine .p (cI j (h:=hy)) rfl ?_
  refine Z4 ?_
  refine Cd (fun c5=> ?_) fun c5=> ?_
  ·
   refine cT ?_
   refine bL ?_
   exact af.prop ⟨fun h=>h.elim,fun h=>by (have h9:=h.2.2.2.2.1 y (List.mem_of_getElem? hy);unfold uh at h9;omega)⟩
  refine Z8 ?_
  refine .round (j+1) ⟨by omega,fun n hn=>by (rw [←bn hy] at hn;rcases List.mem_append.1 hn with hn|hn;exact hall n hn;(simp only [List.mem_singleton] at hn;subst hn;unfold uh;omega))⟩ (by omega) rfl ?_
  exact (.get rfl (af.int (by omega)) ((.keep 15 rfl rfl)))
 have tH:∀n∈x.L,uh n:=fun n hn=>hall n (by rw [List.take_of_length_le (by omega)];exact hn)
 refine Vg ?_
 refine bL ?_
 exact af.prop (by unfold iJ;simp only [←List.length_eq_zero_iff];exact ⟨fun h=>⟨c0,by unfold uh;omega,by omega,by omega,tH,by omega⟩,fun h=>by have h9:=h.2.2.2.2.2;omega⟩)
theorem DV {x:aA} (av:mT x) (hp1:iJ x):cw Tryz.prog 113 [aC (aK x)] [] (γ:=List UInt8) (fun l=>l.length=nS x) (fun _=>[]) (fun l=>ai 1 aj l):=by
 refine In 129 Tryz.func113 fun _ _ _=> ?_
 obtain ⟨r1,r2,r3,r4,r5,r6⟩:=id hp1
 have hL100:x.L.length≤100:=r6.elim (fun h=>by rw [h];simp) (fun h=>h.2)
 have oN:=av.A0
 have RW:=av.ym
 have hB0:=av.B0
 have Xj:=av.B64
 have ha0:=av.a0
 have bz9:=av.a31
 have hfb:=uq x.Code
 have hci:=yL r1
 have Mi:x.Code=65→x.A≤4294967295:=fun Mi=>Classical.byContradiction fun h9=>r2 (.inr (.inl ⟨Mi,h9⟩))
 have hlA:bG x.A≤10:=dF (by omega)
 have hlB:bG x.B≤10:=dF (by omega)
 have Kl:=dF (n:=x.L.length) (by omega)
 have hla:bG x.dz≤10:=dF (by omega)
 have bA0:bG (x.dz+64)≤10:=dF (by omega)
 refine cK ?_
 refine .p ((eP FU.out FU.out (.t rfl)).le (af.trans (af.int (show _=(((x.Code%256).toNat:Nat):Int) by rw [oJ])) (oK (by omega)))) rfl ?_
 refine .n (cq aj [UInt8.ofNat (x.Code%256).toNat] FU.out FC.out rfl FZ.out rfl (.cons (.t rfl) .nil) rfl rfl rfl rfl rfl) rfl fun g9 _=> ?_
 refine Z3 ?_
 refine .cut (σ:=SB×List UInt8) (fun z=>[au z.1 1 aj z.2]) (fun z=>[(3,aa (bq z.1 z.2.length))]) (fun z=>z.2.length=oL x∧oL x≤11) ?_ ?_
 ·
  refine Z7 ?_
  refine Cd (fun c0=> ?_) fun c0=> ?_
  ·
   have hhN:oL x=1+fK (x.Code-64512).toNat:=if_pos (by omega)
   have hhl:fK (x.Code-64512).toNat≤10:=dF (by omega)
   refine Z1 ?_
   refine .n (cq aj [252] FU.out FC.out rfl FZ.out rfl (.cons (.c _) .nil) rfl rfl rfl rfl rfl) rfl fun g13 _=> ?_
   refine Z4 ?_
   refine .n (cz (rest:=[_,_]) (fN (n:=(x.Code-64512).toNat) (by omega)) FB.out (.cons (.le (.t rfl) (af.int (show x.Code-64512=(((x.Code-64512).toNat:Nat):Int) by omega))) .nil) (Perm.idx [0,1] rfl rfl)) rfl fun g18 Re=> ?_
   refine .n (aD (i:=0) FU.out FU.out FC.out rfl FZ.out rfl FY.out (.t rfl) (.t rfl) rfl (by simp only [List.length_append,List.length_cons,List.length_nil, *];(try unfold bG at*);omega) (by simp only [List.length_append,List.length_cons,List.length_nil, *];(try unfold bG at*);omega)) rfl fun g19 _=> ?_
   refine Z2 ?_
   refine .own (aB.dD [0] [1] rfl rfl) (bK.meet (g19,[252]++g18) ⟨by (show ([252]++g18).length=_;rw [List.length_append,Re,hhN];rfl),by omega⟩ rfl (.get rfl (af.refl _) (.keep 11 rfl rfl)))
  have hhN:oL x=1:=if_neg (by omega)
  refine Z1 ?_
  refine .meet (g9,[UInt8.ofNat (x.Code%256).toNat]) ⟨by rw [hhN];rfl,by omega⟩ rfl (.get rfl (af.refl _) (.keep 3 rfl rfl))
 intro hd ⟨RX,bA1⟩
 refine .cut (σ:=SB×List UInt8) (fun z=>[au z.1 1 aj z.2]) (fun z=>[(3,aa (bq z.1 z.2.length))]) (fun z=>z.2.length=nS x) ?_ ?_
 ·
  refine Z4 ?_
  refine .p (cA (h:=js)) rfl ?_
  refine Z9 ?_
  refine Cd (fun c1=> ?_) fun c1=> ?_
  ·
   refine Z4 ?_
   refine .p ((eP FU.out FU.out (.t rfl)).le (af.trans (af.int (show _=(((x.A%256).toNat:Nat):Int) by rw [oJ])) (oK (by omega)))) rfl ?_
   refine .p (cB aj [UInt8.ofNat (x.A%256).toNat]) rfl ?_
   refine .n (aD (i:=0) FU.out FU.out FC.out rfl FZ.out rfl FY.out (.t rfl) (.t rfl) rfl (by simp only [List.length_append,List.length_cons,List.length_nil, *];(try unfold bG at*);omega) (by simp only [List.length_append,List.length_cons,List.length_nil, *];(try unfold bG at*);omega)) rfl fun Vq _=> ?_
   refine Z3 ?_
   refine .meet (Vq,hd.2++[UInt8.ofNat (x.A%256).toNat]) (by (show ((Vq,hd.2++[UInt8.ofNat (x.A%256).toNat])).2.length=nS x;simp only [List.length_append];rw [RX];rw [gX];rw [if_pos c1];rfl)) rfl (.get rfl (af.refl _) (.keep 12 rfl rfl))
  refine .cut (σ:=Unit) (fun _=>[au hd.1 1 aj hd.2]) (fun _=>[(31,aq (aU x.Code=2∨aU x.Code=4∨aU x.Code=6∨aU x.Code=7∨aU x.Code=9))]) (fun _=>True) ?_ ?_
  ·
   refine Z6 ?_
   refine Cd (fun c2=> ?_) fun c2=> ?_
   ·
    refine Z1 ?_
    refine .meet () trivial rfl (.get rfl (af.prop (by omega)) (.keep 2 rfl rfl))
   refine Z6 ?_
   refine Cd (fun c3=> ?_) fun c3=> ?_
   ·
    refine Z1 ?_
    refine .meet () trivial rfl (.get rfl (af.prop (by omega)) (.keep 4 rfl rfl))
   refine Z6 ?_
   refine Cd (fun c4=> ?_) fun c4=> ?_
   ·
    refine Z1 ?_
    refine .meet () trivial rfl (.get rfl (af.prop (by omega)) (.keep 6 rfl rfl))
   refine Z6 ?_
   refine Cd (fun c5=> ?_) fun c5=> ?_
   ·
    refine Z1 ?_
    refine .meet () trivial rfl (.get rfl (af.prop (by omega)) (.keep 8 rfl rfl))
   refine Z4 ?_
   refine .meet () trivial rfl (.get rfl (af.prop (by omega)) (.keep 10 rfl rfl))
  intro _ _
  refine Cd (fun c6=> ?_) fun c6=> ?_
  ·
   refine Z4 ?_
   refine .n (cz (rest:=[_]) (fN (n:=x.A.toNat) (by omega)) FB.out (.cons (.le (.t rfl) (af.int (show x.A=(((x.A).toNat:Nat):Int) by omega))) .nil) (Perm.idx [0] rfl rfl)) rfl fun xe VD=> ?_
   refine .n (aD (i:=0) FU.out FU.out FC.out rfl FZ.out rfl FY.out (.t rfl) (.t rfl) rfl (by simp only [List.length_append,List.length_cons,List.length_nil, *];(try unfold bG at*);omega) (by simp only [List.length_append,List.length_cons,List.length_nil, *];(try unfold bG at*);omega)) rfl fun g41 _=> ?_
   refine Z3 ?_
   refine .meet (g41,hd.2++xe) (by (show ((g41,hd.2++xe)).2.length=nS x;simp only [List.length_append];rw [RX,VD];rw [gX];rw [if_neg c1,if_pos c6];rfl)) rfl (.get rfl (af.refl _) (.keep 12 rfl rfl))
  refine Z6 ?_
  refine Cd (fun c7=> ?_) fun c7=> ?_
  ·
   refine Z7 ?_
   refine .n (cE (h:=fN (n:=x.L.length) (by omega))) rfl fun Uc h49=> ?_
   refine .n (aD (i:=0) FU.out FU.out FC.out rfl FZ.out rfl FY.out (.t rfl) (.t rfl) rfl (by simp only [List.length_append,List.length_cons,List.length_nil, *];(try unfold bG at*);omega) (by simp only [List.length_append,List.length_cons,List.length_nil, *];(try unfold bG at*);omega)) rfl fun Xd _=> ?_
   refine cK ?_
   refine .aT (σ:=Nat×SB×List UInt8) (fun z=>[au z.2.1 1 aj z.2.2]) (fun z=>[(3,aa (bq z.2.1 z.2.2.length)),(4,ag .i64 (z.1:Int))]) (fun z=>z.1≤x.L.length∧z.2.2.length=oL x+fK x.L.length+sw (x.L.take z.1)) (fun z=>x.L.length-z.1) (0,Xd,hd.2++Uc) ⟨Nat.zero_le _,by (show (hd.2++Uc).length=_;rw [List.length_append,RX,h49];simp [sw])⟩ rfl ?_ ?_
   · exact (.get rfl (af.refl _) (.get rfl (af.refl _) (.refl _ _)))
   rintro ⟨j,g1,ys⟩ ⟨hj,hys⟩
   simp only at hj hys ⊢
   have hsu:=qJ (x.L.take j) (fun n hn=>⟨av.L0 n (List.mem_of_mem_take hn),by have h9:n≤4294967295:=r5 n (List.mem_of_mem_take hn);omega⟩)
   rw [List.length_take] at hsu
   refine cK ?_
   refine Cd (fun c8=> ?_) fun c8=> ?_
   ·
    obtain ⟨y,hy⟩:=ah (xs:=x.L) (k:=j) (by omega)
    have hy0:=av.L0 y (List.mem_of_getElem? hy)
    have hy1:y≤4294967295:=r5 y (List.mem_of_getElem? hy)
    have Ox:fK y.toNat≤10:=dF (by omega)
    refine Z9 ?_
    refine .p (cI j (h:=hy)) rfl ?_
    refine Z1 ?_
    refine .n (cz (rest:=[_]) (fN (n:=y.toNat) (by omega)) FB.out (.cons (.le (.t rfl) (af.int (show y=(((y).toNat:Nat):Int) by omega))) .nil) (Perm.idx [0] rfl rfl)) rfl fun g64 Ua=> ?_
    refine .n (aD (i:=0) FU.out FU.out FC.out rfl FZ.out rfl FY.out (.t rfl) (.t rfl) rfl (by simp only [List.length_append,List.length_cons,List.length_nil, *];(try unfold bG at*);omega) (by simp only [List.length_append,List.length_cons,List.length_nil, *];(try unfold bG at*);omega)) rfl fun g65 _=> ?_
    refine Z9 ?_
    refine .round (j+1,g65,ys++g64) ⟨by show j+1≤_;omega,by (show (ys++g64).length=_;rw [List.length_append,Ua,hys,←bn hy,B7];unfold bG;omega)⟩ (by show x.L.length-(j+1)<x.L.length-j;omega) rfl ?_
    exact (.get rfl (af.refl _) (.get rfl (af.int (by show (_:Int)=((j+1:Nat):Int);omega)) ((.keep 19 rfl rfl))))
   have hjl:x.L.take j=x.L:=List.take_of_length_le (by omega)
   rw [hjl] at hys hsu
   refine Z9 ?_
   refine .n (cz (rest:=[_]) (fN (n:=x.A.toNat) (by omega)) FB.out (.cons (.le (.t rfl) (af.int (show x.A=(((x.A).toNat:Nat):Int) by omega))) .nil) (Perm.idx [0] rfl rfl)) rfl fun g69 h69=> ?_
   refine .n (aD (i:=0) FU.out FU.out FC.out rfl FZ.out rfl FY.out (.t rfl) (.t rfl) rfl (by simp only [List.length_append,List.length_cons,List.length_nil, *];(try unfold bG at*);omega) (by simp only [List.length_append,List.length_cons,List.length_nil, *];(try unfold bG at*);omega)) rfl fun g70 _=> ?_
   refine Z3 ?_
   refine .meet (g70,ys++g69) (by (show ((g70,ys++g69)).2.length=nS x;simp only [List.length_append];rw [hys,h69];rw [gX];rw [if_neg c1,if_neg c6,if_pos c7];unfold bG;omega)) rfl (.get rfl (af.refl _) (.keep 30 rfl rfl))
  refine .cut (σ:=Unit) (fun _=>[au hd.1 1 aj hd.2]) (fun _=>[(71,aq (aU x.Code=5∨aU x.Code=10))]) (fun _=>True) ?_ ?_
  ·
   refine Z6 ?_
   refine Cd (fun c9=> ?_) fun c9=> ?_
   ·
    refine Z1 ?_
    refine .meet () trivial rfl (.get rfl (af.prop (by omega)) (.keep 2 rfl rfl))
   refine Z4 ?_
   refine .meet () trivial rfl (.get rfl (af.prop (by omega)) (.keep 4 rfl rfl))
  intro _ _
  refine Cd (fun lq=> ?_) fun lq=> ?_
  ·
   refine .bP [(0,0),(1,0),(2,0),(5,0),(6,0),(3,2),(4,2)] 7 3 FM.out (by kernel_rfl) (k:= ?_)
   refine Z5 ?_
   refine .e rfl (cz (rest:=[_]) (fN (n:=x.A.toNat) (by omega)) FB.out (.cons (.le (.t rfl) (af.int (show x.A=(((x.A).toNat:Nat):Int) by omega))) .nil) (Perm.idx [0] rfl rfl)) fun g77 h77=> ?_
   refine .e rfl (aD (i:=0) FU.out FU.out FC.out rfl FZ.out rfl FY.out (.t rfl) (.t rfl) rfl (by simp only [List.length_append,List.length_cons,List.length_nil, *];(try unfold bG at*);omega) (by simp only [List.length_append,List.length_cons,List.length_nil, *];(try unfold bG at*);omega)) fun g78 _=> ?_
   refine .fin ?_
   refine .n (cz (rest:=[_]) (fN (n:=x.B.toNat) (by omega)) FB.out (.cons (.le (.t rfl) (af.int (show x.B=(((x.B).toNat:Nat):Int) by omega))) .nil) (Perm.idx [0] rfl rfl)) rfl fun g81 h81=> ?_
   refine .n (aD (i:=0) FU.out FU.out FC.out rfl FZ.out rfl FY.out (.t rfl) (.t rfl) rfl (by simp only [List.length_append,List.length_cons,List.length_nil, *];(try unfold bG at*);omega) (by simp only [List.length_append,List.length_cons,List.length_nil, *];(try unfold bG at*);omega)) rfl fun VG _=> ?_
   refine Z3 ?_
   refine .meet (VG,(hd.2++g77)++g81) (by (show ((VG,(hd.2++g77)++g81)).2.length=nS x;simp only [List.length_append];rw [RX,h77,h81];rw [gX];rw [if_neg c1,if_neg c6,if_neg c7,if_pos lq];unfold bG;omega)) rfl (.get rfl (af.refl _) (.keep 19 rfl rfl))
  refine Z6 ?_
  refine Cd (fun nc=> ?_) fun nc=> ?_
  ·
   refine .cut (σ:=SB×List UInt8) (fun z=>[au z.1 1 aj z.2]) (fun z=>[(3,aa (bq z.1 z.2.length))]) (fun z=>z.2.length=oL x+(if x.A=0 then bG x.dz else bG (x.dz+64)+bG x.A)) ?_ ?_
   ·
    refine Z7 ?_
    refine Cd (fun o5=> ?_) fun o5=> ?_
    ·
     refine Z5 ?_
     refine .n (cz (rest:=[_]) (fN (n:=x.dz.toNat) (by omega)) FB.out (.cons (.le (.t rfl) (af.int (show x.dz=(((x.dz).toNat:Nat):Int) by omega))) .nil) (Perm.idx [0] rfl rfl)) rfl fun Td Ut=> ?_
     refine .n (aD (i:=0) FU.out FU.out FC.out rfl FZ.out rfl FY.out (.t rfl) (.t rfl) rfl (by simp only [List.length_append,List.length_cons,List.length_nil, *];(try unfold bG at*);omega) (by simp only [List.length_append,List.length_cons,List.length_nil, *];(try unfold bG at*);omega)) rfl fun g93 _=> ?_
     refine Z2 ?_
     refine .meet (g93,hd.2++Td) (by (show (hd.2++Td).length=_;rw [if_pos o5,List.length_append,RX,Ut];rfl)) rfl (.get rfl (af.refl _) (.keep 10 rfl rfl))
    refine .bP [(0,0),(1,0),(2,0),(3,0),(4,0),(7,0),(8,0),(5,2),(6,2)] 9 3 FM.out (by kernel_rfl) (k:= ?_)
    refine Z7 ?_
    refine .e rfl (cz (rest:=[_]) (fN (n:=(x.dz+64).toNat) (by omega)) FB.out (.cons (.le (.t rfl) (af.int (show x.dz+64=(((x.dz+64).toNat:Nat):Int) by omega))) .nil) (Perm.idx [0] rfl rfl)) fun g99 h99=> ?_
    refine .e rfl (aD (i:=0) FU.out FU.out FC.out rfl FZ.out rfl FY.out (.t rfl) (.t rfl) rfl (by simp only [List.length_append,List.length_cons,List.length_nil, *];(try unfold bG at*);omega) (by simp only [List.length_append,List.length_cons,List.length_nil, *];(try unfold bG at*);omega)) fun XJ _=> ?_
    refine .fin ?_
    refine .n (cz (rest:=[_]) (fN (n:=x.A.toNat) (by omega)) FB.out (.cons (.le (.t rfl) (af.int (show x.A=(((x.A).toNat:Nat):Int) by omega))) .nil) (Perm.idx [0] rfl rfl)) rfl fun XT ao0=> ?_
    refine .n (aD (i:=0) FU.out FU.out FC.out rfl FZ.out rfl FY.out (.t rfl) (.t rfl) rfl (by simp only [List.length_append,List.length_cons,List.length_nil, *];(try unfold bG at*);omega) (by simp only [List.length_append,List.length_cons,List.length_nil, *];(try unfold bG at*);omega)) rfl fun ao1 _=> ?_
    refine Z2 ?_
    refine .meet (ao1,(hd.2++g99)++XT) (by (show ((hd.2++g99)++XT).length=_;rw [if_neg o5,List.length_append,List.length_append,RX,h99,ao0];unfold bG;omega)) rfl (.get rfl (af.refl _) (.keep 15 rfl rfl))
   intro mm hmm
   have bA2:mm.2.length≤40:=by rw [hmm];split<;>omega
   refine Z4 ?_
   refine .n (cz (rest:=[_]) (fN (n:=x.B.toNat) (by omega)) FB.out (.cons (.le (.t rfl) (af.int (show x.B=(((x.B).toNat:Nat):Int) by omega))) .nil) (Perm.idx [0] rfl rfl)) rfl fun P3 P4=> ?_
   refine .n (aD (i:=0) FU.out FU.out FC.out rfl FZ.out rfl FY.out (.t rfl) (.t rfl) rfl (by simp only [List.length_append,List.length_cons,List.length_nil, *];(try unfold bG at*);omega) (by simp only [List.length_append,List.length_cons,List.length_nil, *];(try unfold bG at*);omega)) rfl fun XU _=> ?_
   refine Z3 ?_
   refine .meet (XU,mm.2++P3) (by (show ((XU,mm.2++P3)).2.length=nS x;simp only [List.length_append];rw [hmm,P4];rw [gX];rw [if_neg c1,if_neg c6,if_neg c7,if_neg lq,if_pos nc];unfold IN bG;omega)) rfl (.get rfl (af.refl _) (.keep 18 rfl rfl))
  refine Z6 ?_
  refine Cd (fun s4=> ?_) fun s4=> ?_
  ·
   refine Z4 ?_
   refine .p ((eP FU.out FU.out (.t rfl)).le (af.int (Ky oN RW))) rfl ?_
   refine Z3 ?_
   refine .cut (σ:=Unit) (fun _=>[au hd.1 1 aj hd.2]) (fun _=>[(5,ag .i64 (kG x))]) (fun _=>True) ?_ ?_
   ·
    refine cT ?_
    refine Cd (fun q9=> ?_) fun q9=> ?_
    ·
     refine Z2 ?_
     refine .p (jZ (.t rfl) (.c _) (bY (by split<;>omega) (by split<;>omega))) rfl ?_
     refine Z2 ?_
     refine .meet () trivial rfl (.get rfl (af.int (by (have h8:=Mi q9.1;have h7:=q9.2;rw [if_pos (by omega)] at h7;unfold kG;rw [if_pos q9.1,if_pos (by omega),if_neg (by omega)]))) (.keep 10 rfl rfl))
    refine Z1 ?_
    refine .meet () trivial rfl (.get rfl (af.int (by (unfold kG;by_cases h9:x.Code=65;(have h8:=Mi h9;rw [if_pos h9,if_pos (by omega),if_pos (Classical.byContradiction fun h=>q9 ⟨h9,by rw [if_pos (by omega)];omega⟩)]);rw [if_neg h9]))) (.keep 7 rfl rfl))
   intro _ _
   have VF: -9223372036854775808≤kG x∧kG x≤9223372036854775807:=by unfold kG;split<;>(try have:=Mi (by assumption))<;>split<;>omega
   have hlw:=yI VF.1 (by omega:kG x<9223372036854775808)
   refine Z3 ?_
   refine .n (cE (h:=JG (n:=kG x) VF.1 VF.2)) rfl fun XV ao2=> ?_
   refine .n (aD (i:=0) FU.out FU.out FC.out rfl FZ.out rfl FY.out (.t rfl) (.t rfl) rfl (by simp only [List.length_append,List.length_cons,List.length_nil, *];(try unfold bG at*);omega) (by simp only [List.length_append,List.length_cons,List.length_nil, *];(try unfold bG at*);omega)) rfl fun XW _=> ?_
   refine Z3 ?_
   refine .meet (XW,hd.2++XV) (by (show ((XW,hd.2++XV)).2.length=nS x;simp only [List.length_append];rw [RX,ao2];rw [gX];rw [if_neg c1,if_neg c6,if_neg c7,if_neg lq,if_neg nc,if_pos s4])) rfl (.get rfl (af.refl _) (.keep 23 rfl rfl))
  refine Z2 ?_
  refine .meet hd (by (show (hd).2.length=nS x;rw [RX];rw [gX];rw [if_neg c1,if_neg c6,if_neg c7,if_neg lq,if_neg nc,if_neg s4];rfl)) rfl (.get rfl (af.refl _) (.keep 13 rfl rfl))
 intro z hz
 refine Z1 ?_
 refine .er (t:=3) (i:=0) (g:=z.1) (xs:=z.2) rfl rfl ?_
 refine Z6 ?_
 refine Post.aP rfl (z.2) (by exact hz) (fun _ _ _ h=>h) (.rt rfl) ?_
 exact af.refl _
theorem GS {b:kr} (av:RI b):cw Tryz.prog 86 [aC (iL b)] [] (γ:=Int) (fun e=>e=0↔oF b) (fun _=>[]) (fun e=>bD [jA,ag .i64 e]):=by
 refine In 130 Tryz.func86 fun _ _ _=> ?_
 have xz:=av.len
 have Hp:=av.loc
 refine iW ?_
 refine .aT (σ:=Nat) (fun _=>[]) (fun j=>[(4,ag .i64 (j:Int))]) (fun j=>j≤b.L.length∧∀x∈b.L.take j,iJ x) (fun j=>b.L.length-j) 0 ⟨Nat.zero_le _,by simp⟩ rfl ?_ ?_
 · exact (.get rfl (af.refl _) (.refl _ _))
 rintro j ⟨hj,hall⟩
 refine cK ?_
 refine Cd (fun c0=> ?_) fun c0=> ?_
 ·
  obtain ⟨x,hx⟩:=ah (xs:=b.L) (k:=j) (by omega)
  refine Z9 ?_
  refine .p (cI j (h:=hx)) rfl ?_
  refine Z1 ?_
  refine .p (cA (h:=GR (av.ins x (List.mem_of_getElem? hx)))) rfl ?_
  refine Z3 ?_
  refine Cd (fun c1=> ?_) fun c1=> ?_
  ·
   have hno:¬oF b:=fun h=>c1 (h.1 x (List.mem_of_getElem? hx))
   refine dM ?_
   refine Post.bf rfl rfl (1) (by exact ⟨fun h=>by simp at h,fun h=>absurd h hno⟩) (fun _ _ _ h=>h) rfl (.cons (.rt rfl) ?_ (.cons (.rt rfl) ?_ .nil))
   · exact af.any
   exact af.refl _
  refine Z8 ?_
  refine .round (j+1) ⟨by omega,fun y hy=>by (rw [←bn hx] at hy;rcases List.mem_append.1 hy with hy|hy;exact hall y hy;(simp only [List.mem_singleton] at hy;subst hy;exact Classical.not_not.1 c1))⟩ (by omega) rfl ?_
  exact (.get rfl (af.int (by omega)) ((.keep 16 rfl rfl)))
 have Jq:∀x∈b.L,iJ x:=fun x hx=>hall x (by rw [List.take_of_length_le (by omega)];exact hx)
 refine dM ?_
 refine .aT (σ:=Nat) (fun _=>[]) (fun j=>[(5,ag .i64 (j:Int))]) (fun j=>j≤b.aV.length∧∀t∈b.aV.take j,t=126∨t=127) (fun j=>b.aV.length-j) 0 ⟨Nat.zero_le _,by simp⟩ rfl ?_ ?_
 · exact (.get rfl (af.refl _) (.refl _ _))
 rintro j ⟨hj2,htl⟩
 refine cK ?_
 refine Cd (fun c2=> ?_) fun c2=> ?_
 ·
  obtain ⟨t,ht⟩:=ah (xs:=b.aV) (k:=j) (by omega)
  refine Z9 ?_
  refine .p (cI j (h:=ht)) rfl ?_
  refine Z6 ?_
  refine .g (cm.gT rfl rfl rfl rfl (fun hg=>aO (j:=j) FU.out FC.out rfl (.when (.t rfl) hg) (.when (.t rfl) hg) rfl ht)) rfl rfl ?_
  refine Z5 ?_
  refine Cd (fun c3=> ?_) fun c3=> ?_
  ·
   have hno:¬oF b:=fun h=>by (have h9:=h.2.1 t (List.mem_of_getElem? ht);rw [←PL,←PM] at h9;omega)
   refine dM ?_
   refine Post.bf rfl rfl (1) (by exact ⟨fun h=>by simp at h,fun h=>absurd h hno⟩) (fun _ _ _ h=>h) rfl (.cons (.rt rfl) ?_ (.cons (.rt rfl) ?_ .nil))
   · exact af.any
   exact af.refl _
  refine Z8 ?_
  refine .round (j+1) ⟨by omega,fun y hy=>by (rw [←bn ht] at hy;rcases List.mem_append.1 hy with hy|hy;exact htl y hy;(simp only [List.mem_singleton] at hy;subst hy;rw [←PL,←PM];omega))⟩ (by omega) rfl ?_
  exact (.get rfl (af.int (by omega)) ((.keep 23 rfl rfl)))
 have hty:∀t∈b.aV,t=126∨t=127:=fun t hx=>htl t (by rw [List.take_of_length_le (by omega)];exact hx)
 refine iW ?_
 refine Cd (fun c4=> ?_) fun c4=> ?_
 ·
  have hno:¬oF b:=fun h=>by (have h9:=h.2.2.1;omega)
  refine Z8 ?_
  refine Post.bf rfl rfl (1) (by exact ⟨fun h=>by simp at h,fun h=>absurd h hno⟩) (fun _ _ _ h=>h) rfl (.cons (.rt rfl) ?_ (.cons (.rt rfl) ?_ .nil))
  · exact af.any
  exact af.refl _
 refine Z6 ?_
 refine .n (cE (h:=GQ (l:=b.L) xz)) rfl fun VE Xe=> ?_
 refine D0 ?_
 refine Cd (fun c5=> ?_) fun c5=> ?_
 ·
  have hno:¬oF b:=fun h=>c5 (Xe.2 h.2.2.2.1)
  refine Z9 ?_
  refine Post.bf rfl rfl (VE) (by exact ⟨fun h=>absurd h c5,fun h=>absurd h hno⟩) (fun _ _ _ h=>h) rfl (.cons (.rt rfl) ?_ (.cons (.rt rfl) ?_ .nil))
  · exact af.any
  exact af.refl _
 have WU:=Xe.1 (Classical.not_not.1 c5)
 refine Z7 ?_
 refine .eu 1 aj ?_
 refine dM ?_
 refine .aT (σ:=Nat×SB×List UInt8×List Nat) (fun z=>[au z.2.1 1 aj z.2.2.1]) (fun z=>[(9,aa (bq z.2.1 z.2.2.1.length)),(10,ag .i64 (z.2.2.2.length:Int)),(11,ag .i64 (z.1:Int))]) (fun z=>z.1≤b.aV.length∧gO b.aV=z.2.2.2++gO (b.aV.drop z.1)∧z.2.2.1.length=vN z.2.2.2∧z.2.2.2.length≤z.1∧∀n∈z.2.2.2,n≤1000000) (fun z=>b.aV.length-z.1) (0,none,[],[]) ⟨Nat.zero_le _,rfl,rfl,Nat.le_refl _,by simp⟩ rfl ?_ ?_
 · exact (.get rfl (af.of_eq rfl) (.get rfl (af.refl _) (.get rfl (af.refl _) (.refl _ _))))
 rintro ⟨k,g1,ys,pre⟩ ⟨hk,hru,hys,rB,Tx⟩
 simp only at hk hru hys rB Tx ⊢
 have hsn:=GD pre Tx
 refine cK ?_
 refine Cd (fun c6=> ?_) fun c6=> ?_
 ·
  obtain ⟨t,D4⟩:=ah (xs:=b.aV) (k:=k) (by omega)
  refine cT ?_
  refine .aT (σ:=Nat) (fun _=>[au g1 1 aj ys]) (fun q=>[(12,ag .i64 (q:Int))]) (fun q=>k≤q∧q≤b.aV.length∧∀j,j<q-k→(b.aV.drop k)[j]?=some t) (fun q=>b.aV.length-q) k ⟨Nat.le_refl _,by omega,fun j hj=>by omega⟩ rfl ?_ ?_
  · exact (.get rfl (af.refl _) (.refl _ _))
  rintro k2 ⟨Cs,hk2,hal⟩
  refine Z2 ?_
  refine .bx 16 2 FM.out (by kernel_rfl) (k:= ?_)
  refine Z9 ?_
  refine .cons (cm.gT rfl rfl rfl rfl (fun hg=>aO (j:=k2) FU.out FC.out rfl (.when (.t rfl) hg) (.when (.t rfl) hg) rfl (KK (by omega)))) ?_
  refine Z4 ?_
  refine .cons (cm.gT rfl rfl rfl rfl (fun hg=>aO (j:=k) FU.out FC.out rfl (.when (.t rfl) hg) (.when (.t rfl) hg) rfl D4)) ?_
  refine Z6 ?_
  refine Cd (fun c7=> ?_) fun c7=> ?_
  ·
   refine Z9 ?_
   refine .round (k2+1) ⟨by omega,by omega,fun j hj=>by (by_cases hjj:j<k2-k;exact hal j hjj;(rw [List.getElem?_drop,show k+j=k2 by omega];have h9:=c7.2;rw [BQ] at h9;rw [KK (by omega),h9]))⟩ (by omega) rfl ?_
   exact (.get rfl (af.int (by omega)) ((.keep 22 rfl rfl)))
  have hkk:=PN Cs D4 c7
  have hlead:=R9 hkk hk2 hal c7
  have MF:fK (k2-k)≤10:=dF (by omega)
  refine Z6 ?_
  refine .bP [(0,0),(1,0),(2,0),(3,0),(4,0),(7,0),(8,0),(9,0),(10,0),(11,0),(12,0),(5,2),(6,2)] 13 2 FM.out (by kernel_rfl) (k:= ?_)
  refine Z8 ?_
  refine .p rfl (fun _=>aO (j:=k) FU.out FC.out rfl (.t rfl) (.t rfl) rfl D4) ?_
  refine Z1 ?_
  refine .p rfl (fun _=>bF (enc:=aj) [t] FU.out FC.out rfl FZ.out rfl (.cons (.t rfl) .nil) rfl rfl rfl rfl rfl) ?_
  refine .e rfl (cz (rest:=[_]) (fN (n:=k2-k) (by omega)) FB.out (.cons (.le (.t rfl) (af.int (show (k2:Int)-(k:Int)=((k2-k:Nat):Int) by omega))) .nil) (Perm.idx [0] rfl rfl)) fun g94 h94=> ?_
  refine .e rfl (aD (i:=0) FU.out FU.out FC.out rfl FZ.out rfl FY.out (.t rfl) (.t rfl) rfl (by simp only [List.length_append,List.length_cons,List.length_nil, *];omega) (by simp only [List.length_append,List.length_cons,List.length_nil, *];omega)) fun g95 _=> ?_
  refine .fin ?_
  refine .n (aD (i:=0) FU.out FU.out FC.out rfl FZ.out rfl FY.out (.t rfl) (.t rfl) rfl (by simp only [List.length_append,List.length_cons,List.length_nil, *];omega) (by simp only [List.length_append,List.length_cons,List.length_nil, *];omega)) rfl fun ao3 _=> ?_
  refine nZ ?_
  refine .round (k2,ao3,(ys++g94)++[t],pre++[k2-k]) ⟨by show k2≤_;omega,by (show _=(pre++[k2-k])++gO (b.aV.drop k2);rw [hru,hlead,List.append_assoc];rfl),by (show ((ys++g94)++[t]).length=_;rw [List.length_append,List.length_append,hys,h94,MR];simp only [List.length_cons,List.length_nil];omega),by (show (pre++[k2-k]).length≤k2;rw [List.length_append];simp only [List.length_cons,List.length_nil];omega),fun n hn=>by (rcases List.mem_append.1 hn with hn|hn;exact Tx n hn;(simp only [List.mem_singleton] at hn;subst hn;omega))⟩ (by show b.aV.length-k2<b.aV.length-k;omega) rfl ?_
  exact (.get rfl (af.refl _) (.get rfl (af.int (by simp)) (.get rfl (af.refl _) ((.keep 49 rfl rfl)))))
 have Hi:b.aV.drop k=[]:=List.drop_eq_nil_of_le (by omega)
 rw [Hi,MS,List.append_nil] at hru
 refine Z6 ?_
 have hlp:fK pre.length≤10:=dF (by omega)
 refine .er (t:=9) (i:=0) (g:=g1) (xs:=ys) rfl rfl ?_
 refine Z3 ?_
 refine .n (cE (h:=JF (n:=pre.length) (by omega))) rfl fun P3 P4=> ?_
 refine Z1 ?_
 refine .n (aD (i:=0) FU.out FU.out FC.out rfl FZ.out rfl FY.out (.t rfl) (.t rfl) rfl (by rw [P4];omega) (by rw [P4];omega)) rfl fun ao4 _=> ?_
 refine cK ?_
 refine .aT (σ:=Nat×SB×List UInt8) (fun z=>[au z.2.1 1 aj z.2.2]) (fun z=>[(9,aa (bq z.2.1 z.2.2.length)),(13,ag .i64 (z.1:Int))]) (fun z=>z.1≤b.L.length∧z.2.2.length=fK pre.length+vN pre+w8 (b.L.take z.1)) (fun z=>b.L.length-z.1) (0,ao4,P3.2++ys) ⟨Nat.zero_le _,by (show (P3.2++ys).length=_;rw [List.length_append,P4,hys];simp [w8])⟩ rfl ?_ ?_
 · exact (.get rfl (af.refl _) (.get rfl (af.refl _) (.refl _ _)))
 rintro ⟨i,g2,ws⟩ ⟨hi,hzs⟩
 simp only at hi hzs ⊢
 have hsi:=Dq (b.L.take i) (fun x hx=>⟨.of (av.ins x (List.mem_of_mem_take hx)) (Jq x (List.mem_of_mem_take hx)),Jq x (List.mem_of_mem_take hx)⟩)
 rw [List.length_take] at hsi
 refine cK ?_
 refine Cd (fun c8=> ?_) fun c8=> ?_
 ·
  obtain ⟨y,hy⟩:=ah (xs:=b.L) (k:=i) (by omega)
  have Ox:=Dp (.of (av.ins y (List.mem_of_getElem? hy)) (Jq y (List.mem_of_getElem? hy))) (Jq y (List.mem_of_getElem? hy))
  refine Z9 ?_
  refine .p (cI i (h:=hy)) rfl ?_
  refine Z1 ?_
  refine .n (cE (h:=DV (.of (av.ins y (List.mem_of_getElem? hy)) (Jq y (List.mem_of_getElem? hy))) (Jq y (List.mem_of_getElem? hy)))) rfl fun XX ao5=> ?_
  refine .n (aD (i:=0) FU.out FU.out FC.out rfl FZ.out rfl FY.out (.t rfl) (.t rfl) rfl (by simp only [List.length_append,List.length_cons,List.length_nil, *];omega) (by simp only [List.length_append,List.length_cons,List.length_nil, *];omega)) rfl fun ao6 _=> ?_
  refine Z9 ?_
  refine .round (i+1,ao6,ws++XX) ⟨by show i+1≤_;omega,by (show (ws++XX).length=_;rw [List.length_append,ao5,hzs,←bn hy,B8];omega)⟩ (by show b.L.length-(i+1)<b.L.length-i;omega) rfl ?_
  exact (.get rfl (af.refl _) (.get rfl (af.int (by show (_:Int)=((i+1:Nat):Int);omega)) ((.keep 19 rfl rfl))))
 have oQ:b.L.take i=b.L:=List.take_of_length_le (by omega)
 rw [oQ] at hzs
 have htot:ws.length=Ma b:=by rw [hzs,PK,hru]
 refine lg ?_
 refine Cd (fun c9=> ?_) fun c9=> ?_
 ·
  refine Z8 ?_
  refine Post.bf rfl rfl (15) (by exact ⟨fun h=>by simp at h,fun h=>by have:=h.2.2.2.2;omega⟩) (fun _ _ _ _=>trivial) rfl (.cons (.rt rfl) ?_ (.cons (.rt rfl) ?_ .nil))
  · exact af.any
  exact af.refl _
 refine cK ?_
 refine Post.bf rfl rfl (0) (by exact ⟨fun _=>⟨Jq,hty,by omega,WU,by omega⟩,fun _=>rfl⟩) (fun _ _ _ _=>trivial) rfl (.cons (.rt rfl) ?_ (.cons (.rt rfl) ?_ .nil))
 · exact af.any
 exact af.refl _
theorem Bh {f:cU} {i:Nat} (av:mA m) (hp1:m.ay[i]?=some f) (hp2:m.ay.length≤60000):cw Tryz.prog 40 [aC (br m),ag .i64 ((i:Int))] [] (γ:=Int×Int×List Nat) (UQ m f) (fun _=>[]) (fun g=>aC [ag .i64 g.1,ag .i64 g.2.1,ai 1 iS g.2.2]):=by
 refine In 51 Tryz.func40 fun _ _ _=> ?_
 have oQ:=(List.getElem?_eq_some_iff.1 hp1).1
 have Cz:f∈m.ay:=List.mem_of_getElem? hp1
 refine Z3 ?_
 refine .n (ax FZ.out) rfl fun b4 _=> ?_
 refine Z5 ?_
 refine .p (cA (h:=yb (x:=m))) rfl ?_
 refine Z2 ?_
 refine .n (bl.Sz (lC (.t rfl) rfl)) rfl fun n13 P0=> ?_
 refine cT ?_
 refine Cd (fun c0=> ?_) fun c0=> ?_
 ·
  refine Z8 ?_
  refine Post.aP rfl ((0,12,[])) (by exact .inr ⟨by show (12:Int)≠0;decide,fun h=>c0 (P0.2 h.1)⟩) (aB.dD [] [0] rfl rfl) (.ra (i:=0) FA.out FC.out rfl rfl rfl rfl) ?_
  exact af.agg (.cons (af.refl _) (.cons (af.refl _) (.cons (aG 1 iS) .nil)))
 have hfit:=P0.1 (Classical.not_not.1 c0)
 refine D0 ?_
 refine Cd (fun c1=> ?_) fun c1=> ?_
 · exfalso;omega
 refine Z7 ?_
 refine .p (cI i (h:=hp1)) rfl ?_
 refine Z2 ?_
 refine .n (cE (h:=GS (av.bd Cz))) rfl fun No Np=> ?_
 refine iW ?_
 refine Cd (fun c2=> ?_) fun c2=> ?_
 ·
  refine Z9 ?_
  refine Post.aP rfl ((0,No,[])) (by exact .inr ⟨c2,fun h=>c2 (Np.2 h.2.1)⟩) (aB.dD [] [0] rfl rfl) (.ra (i:=0) FA.out FC.out rfl rfl rfl rfl) ?_
  exact af.agg (.cons (af.refl _) (.cons (af.refl _) (.cons (aG 1 iS) .nil)))
 have pn:=Np.1 (Classical.not_not.1 c2)
 refine Z3 ?_
 refine .bP [(0,0),(1,0),(3,0),(4,0),(5,0),(6,0),(7,0),(8,0),(2,2)] 9 2 FM.out (by kernel_rfl) (k:= ?_)
 refine Z5 ?_
 refine .p rfl (fun _=>aO (j:=i) FU.out FC.out rfl (.t rfl) (.t rfl) rfl hp1) ?_
 refine Z2 ?_
 refine .e rfl (cE (h:=Nc hfit av hp1)) fun g43 h43=> ?_
 refine .fin ?_
 refine .n (cE (h:=GN (v:=cC m f) (b:=f.Body) (XG hfit av Cz pn) (PZ pn))) rfl fun Xd h50=> ?_
 refine Z4 ?_
 refine Post.aP rfl (Xd) (by exact (GM pn h50).elim (fun h=> .inl ⟨h.1,hfit,pn,h.2⟩) (fun h=> .inr ⟨h.1,fun h2=>h.2.1 h2.2⟩)) (aB.dD [] [0] rfl rfl) (.ra (i:=0) FA.out FC.out rfl rfl rfl rfl) ?_
 exact af.refl _
theorem GU (av:mA m) (hp1:m.ay.length≤60000):cw Tryz.prog 13 [aC (br m)] [] (γ:=Int) (fun n=>0≤n∧(n=0↔lS m)) (fun _=>[]) (fun n=>ag .i64 n):=by
 refine In 29 Tryz.func13 fun _ _ _=> ?_
 refine Z9 ?_
 refine .p (cA (h:=yb (x:=m))) rfl ?_
 refine Z2 ?_
 refine .n (bl.Sz (lC (.t rfl) rfl)) rfl fun n11 XY=> ?_
 refine cT ?_
 refine Cd (fun c0=> ?_) fun c0=> ?_
 ·
  refine Z7 ?_
  refine Post.aP rfl (1) (by exact ⟨by decide,fun h=>absurd h (by decide),fun h=>absurd (XY.2 h.1) c0⟩) (fun _ _ _ h=>h) (.rt rfl) ?_
  exact af.refl _
 have hfit:=XY.1 (Classical.not_not.1 c0)
 refine iW ?_
 refine .aT (σ:=Nat×Nat) (fun _=>[]) (fun g=>[(5,ag .i64 (g.2:Int)),(6,ag .i64 (g.1:Int))]) (fun g=>g.1≤m.ay.length∧g.2≤g.1∧(g.2=0↔∀f∈m.ay.take g.1,qG m f)) (fun g=>m.ay.length-g.1) (0,0) ⟨Nat.zero_le _,Nat.le_refl _,by simp⟩ rfl ?_ ?_
 · exact (.get rfl (af.refl _) (.get rfl (af.refl _) (.refl _ _)))
 rintro ⟨j,n⟩ ⟨hj,hnj,hv⟩
 simp only at hj hnj hv ⊢
 refine cK ?_
 refine Cd (fun c1=> ?_) fun c1=> ?_
 ·
  obtain ⟨f,hf⟩:=ah (xs:=m.ay) (k:=j) (by omega)
  refine Z8 ?_
  refine .n (cE (h:=Bh av hf hp1)) rfl fun g23 h23=> ?_
  refine .p (EB (T:=120) (i:=1) (off:=1) (by kernel_rfl) Tryz.ag3.out (.t rfl) rfl) rfl ?_
  refine Z3 ?_
  refine Cd (fun c2=> ?_) fun c2=> ?_
  ·
   refine dM ?_
   refine .round (j+1,n+1) ⟨by show j+1≤_;omega,by show n+1≤j+1;omega,⟨fun h=>absurd h (by show ¬(n+1=0);omega),fun h=>absurd (h23.iff.2 ⟨hfit,h f (by rw [←bn hf];simp)⟩) c2⟩⟩ (by show m.ay.length-(j+1)<m.ay.length-j;omega) rfl ?_
   exact (.get rfl (af.int (by show (_:Int)=((n+1:Nat):Int);omega)) (.get rfl (af.int (by show (_:Int)=((j+1:Nat):Int);omega)) ((.keep 18 rfl rfl))))
  refine Z8 ?_
  refine .round (j+1,n) ⟨by show j+1≤_;omega,by show n≤j+1;omega,by (show n=0↔_;rw [hv,←bn hf];have h9:=(h23.iff.1 (Classical.not_not.1 c2)).2;constructor;intro h g hg;rcases List.mem_append.1 hg with hg|hg;exact h g hg;(simp only [List.mem_singleton] at hg;subst hg;exact h9);intro h g hg;exact h g (List.mem_append_left _ hg))⟩ (by show m.ay.length-(j+1)<m.ay.length-j;omega) rfl ?_
  exact (.get rfl (af.refl _) (.get rfl (af.int (by show (_:Int)=((j+1:Nat):Int);omega)) ((.keep 15 rfl rfl))))
 have hall:m.ay.take j=m.ay:=List.take_of_length_le (by omega)
 rw [hall] at hv
 refine dM ?_
 refine Post.aP rfl ((n:Int)) (by exact ⟨by omega,fun h=>⟨hfit,hv.1 (by omega)⟩,fun h=>by have:=hv.2 h.2;omega⟩) (fun _ _ _ h=>h) (.rt rfl) ?_
 exact af.refl _
end Go.Proofs.YtpfobikpggmleaaGreatDoor
end
