/-
  What the statement's proof leans on, several texts in one (packed by a program).
-/
import Derived.Test.YtmacjbfbpjgmnaaGreatDoorRNM
set_option linter.all false
set_option maxRecDepth 1000000
set_option maxHeartbeats 4000000
section
namespace Go.Hl
open Go.RowKit
def ju(j:mU):List VP:=[aa .i64 j.to,aa .i64 j.keep,aa .i64 j.height]
instance:iy 3 ju:=⟨fun _=>rfl,fun x q h=>by simp only[ju,List.mem_cons,List.not_mem_nil,or_false] at h;rcases h with h|h|h<;>subst h<;>infer_instance⟩
instance (f:mU):bq (ju f):=bq.of f
structure pK where
 b:Nat
 jm:Nat
 cm:Nat
 sm:Nat
abbrev pL(I:pK)(J:List (cP×mU))(C S:List (Int×Int))(ov:VP):List HP:=
 [aF I.b [af (.map (some I.jm)),af (.map (some I.cm)),af (.map (some I.sm)),ov],iD I.jm (EW .i64 .i64) (fun j=>aK (ju j)) J,iD I.cm (Value.int .i64) dP C,iD I.sm (Value.int .i64) dP S]
def kj(b:Nat)(d:gE):HP:=NZ fun x:pK×List (Int×Int)×VP=>ku (eY (x.1.b=b)::pL x.1 d.jumps x.2.1 d.sU x.2.2)
def mH(x:gE×Nat):List VP:=[an 1 aL x.1.body.aY,an 5 aE x.1.body.L,ai x.2 0,an 1 aL x.1.sig.P,an 1 aL x.1.sig.R,nV x.1.locals,aa .i64 x.1.kJ]
instance:iy 7 mH:=⟨fun _=>rfl,fun x q h=>by simp only[mH,List.mem_cons,List.not_mem_nil,or_false] at h;rcases h with h|h|h|h|h|h|h<;>subst h<;>infer_instance⟩
instance (x:gE×Nat):bq (mH x):=bq.of x
def eW:List (gE×Nat)→List HP
 |[]=>[]
 |x::r=>kj x.2 x.1::eW r
def dS(l:List (gE×Nat)):HP:=ku (eW l)
theorem n5:∀(a b:List (gE×Nat)),eW (a++b)=eW a++eW b
 |[],_=>rfl
 |x::r,b=>by show _::eW (r++b)=_::(eW r++eW b);rw[n5 r b]
variable {i:Nat}
theorem MD{α:Type}{l:List α}{x:α}(h:l[i]?=some x):l=l.take i++x::l.drop (i+1):=by
 obtain⟨hi,e⟩:=List.getElem?_eq_some_iff.1 h;rw[←e,List.getElem_cons_drop,List.take_append_drop]
variable {l:List (gE×Nat)} {x:gE×Nat}
theorem w9(h:l[i]?=some x):(eW l).Perm (kj x.2 x.1::eW (l.take i++l.drop (i+1))):=by
 have e:eW l=eW (l.take i)++kj x.2 x.1::eW (l.drop (i+1)):=by
  conv=>lhs;rw[MD h,n5]
  rfl
 rw[e,n5];exact List.perm_middle
variable {r:List HP}
theorem zK(h:l[i]?=some x):aA (dS l::r) (kj x.2 x.1::dS (l.take i++l.drop (i+1))::r):=
 (aA.unpack (l:=eW l)).trans ((aA.perm ((w9 h).append_right r)).trans (aA.cons _ (aA.pack (l:=eW (l.take i++l.drop (i+1))))))
theorem Da(h:l[i]?=some x):aA (kj x.2 x.1::dS (l.take i++l.drop (i+1))::r) (dS l::r):=
 (aA.cons _ (aA.unpack (l:=eW (l.take i++l.drop (i+1))))).trans ((aA.perm ((w9 h).append_right r).symm).trans (aA.pack (l:=eW l)))
theorem JZ:aA (kj x.2 x.1::dS l::r) (dS (l++[x])::r):=by
 refine(aA.cons _ (aA.unpack (l:=eW l))).trans (aA.trans (aA.perm ?_) (aA.pack (l:=eW (l++[x]))));rw[n5]
 show(kj x.2 x.1::(eW l++r)).Perm ((eW l++[kj x.2 x.1])++r)
 rw[List.append_assoc];exact List.perm_middle.symm
theorem J0:aA r (dS []::r):=aA.pack (l:=[])
def iU(o:C3):List VP:=[nV o.kind,an 1 ig o.res,nV o.TR,nV o.imp,nV o.err]
instance:iy 5 iU:=⟨fun _=>rfl,fun x q h=>by simp only[iU,List.mem_cons,List.not_mem_nil,or_false] at h;rcases h with h|h|h|h|h<;>subst h<;>infer_instance⟩
instance (o:C3):bq (iU o):=bq.of o
structure O4 where
 b:Nat
 F:Nat
 od:Option (List Nat)
 cl:Prop
def bg0(K:eU):Option (List Nat)→List (gE×Nat)
 |none=>[]
 |some bs=>K.own.zip bs
def TX(K:eU):Option (List Nat)→VP
 |none=>af (.slice none 0 0)
 |some bs=>an 7 mH (K.own.zip bs)
def TY:Option (List Nat)→Int
 |none=>0
 |some _=>1
def tP:Bool→Prop
 |true=>True
 |false=>False
theorem ME{b:Bool}:tP b↔b=true:=by cases b<;>simp[tP]
def MF(A:qG)(K:eU)(E:O4)(s:mV):List VP:=
 [ai A.sb 0,nV K.cells,nV K.frames,nV E.F,ai A.kb 0,ai A.fb 0,aa .u32 (TY E.od),aa .i32 0,aa .u32 0,TX K E.od,nV s.fuel,nV s.bN,ak (tP s.waits),nV s.host,nV s.fault,ak E.cl,aa .i64 s.lE.1,aa .i64 s.lE.2,nV s.out.kind,an 1 ig s.out.res,nV s.out.TR,nV s.out.imp,nV s.out.err,ak (tP s.over)]
abbrev dJ(A:qG)(K:eU)(E:O4)(s:mV):HP:=aF E.b (MF A K E s)
abbrev mE(b F:Nat)(bs:List Nat):O4:=⟨b,F,some bs,False⟩
structure AU(d:gE):Prop where
 loc:d.locals≤2000
 need: -100000≤d.kJ∧d.kJ≤100000
 len:d.body.L.length≤5000
 res:d.sig.R.length≤1000
 jmp:∀p j,br d.jumps p=some j→ -100000≤j.height∧j.height≤100000
structure O5(K:eU):Prop where
 sg:∀f:Nat,(eM K.m (f:Int)).getD ⟨[],[]⟩=K.sig f
 si:∀f:Int,(eM K.m f).isSome↔0≤f∧f<(K.cH:Int)+(K.own.length:Int)
 sl:∀f:Nat,(K.sig f).P.length≤1000∧(K.sig f).R.length≤1000
 st:∀f:Nat,(∀t∈(K.sig f).P,eC t=32∨eC t=64)∧∀t∈(K.sig f).R,eC t=32∨eC t=64
 ni:K.cH≤1000
 no:K.own.length≤1000
 tn:fB K.m≤1000000
 ow:∀i,i<K.own.length→AU (K.made i)∧(K.sig (K.cH+i)).P.length≤(K.made i).locals
theorem xb{K:eU}{bs:List Nat}(h:bs.length=K.own.length)(hi:i<K.own.length):∃b,(K.own.zip bs)[i]?=some (K.made i,b):=by
 obtain⟨d,hd⟩:=ah (xs:=K.own) (k:=i) hi;obtain⟨b,hb⟩:=ah (xs:=bs) (k:=i) (by omega);exact⟨b,by rw[List.getElem?_zip_eq_some];exact⟨by rw[hd];unfold eU.made;rw[hd];rfl,hb⟩⟩
variable {L:List UInt8}
theorem zL:∀{vs:List Nat} {t:UInt8} {v:Nat} {k:Nat},L[k]?=some t→vs[k]?=some v→eG L (vs.take (k+1))=eG L (vs.take k)++[o7 t v]:=by
 induction L with
 |nil=>intro vs t v k h;simp at h
 | cons u L ih=>
  intro vs t v k h1 h2;cases vs with
  |nil=>simp at h2
  | cons w vs=>
   cases k with
   |zero=>simp at h1 h2;subst h1;subst h2;simp[eG]
   |succ k=>
    simp only[List.getElem?_cons_succ] at h1 h2;simp only[List.take_succ_cons,eG,ih h1 h2,List.cons_append]
theorem O6:∀{vs:List Nat},(∀v∈vs,v<18446744073709551616)→∀v∈eG L vs,v<18446744073709551616:=by
 induction L with
 |nil=>intro vs _ v hv;cases vs<;>simp[eG] at hv
 | cons u L ih=>
  intro vs h v hv;cases vs with
  |nil=>simp[eG] at hv
  |cons w vs=>
   rcases List.mem_cons.1 hv with rfl|hv
   · exact Aw (h w (by simp))
   · exact ih (fun v hv=>h v (by simp[hv])) v hv
theorem Db:∀{vs:List Nat},vs.length≤L.length→(eG L vs).length=vs.length:=by
 induction L with
 |nil=>intro vs h;cases vs with
  |nil=>rfl
  |cons=>simp at h
 |cons u L ih=>
  intro vs h;cases vs with
  |nil=>rfl
  |cons w vs=>simp only[eG,List.length_cons];rw[ih (by simpa using h)]
variable {d:gE}
theorem xe{I:pK}{b:Nat}{C:List (Int×Int)}{ov:VP}(h:I.b=b):aA (pL I d.jumps C d.sU ov++r) (kj b d::r):=
 (aA.pure h).trans ((aA.pack (l:=eY (I.b=b)::pL I d.jumps C d.sU ov)).trans (aA.ex (f:=fun x:pK×List (Int×Int)×VP=>ku (eY (x.1.b=b)::pL x.1 d.jumps x.2.1 d.sU x.2.2)) (I,C,ov)))
theorem bk.side{P:Program}{f:FuncId}{ps:List VP}{b:Nat}{q:VP}(h:∀(I:pK) C ov,I.b=b→bk P f ps (pL I d.jumps C d.sU ov) (γ:=Unit) (fun _=>True) (fun _=>pL I d.jumps C d.sU ov) (fun _=>q)):bk P f ps [kj b d] (γ:=Unit) (fun _=>True) (fun _=>[kj b d]) (fun _=>q):=
 bk.opens fun x=>bk.unpack (bk.eY fun hb=>((h x.1 x.2.1 x.2.2 hb).pre (aA.of_eq (List.append_nil _))).post (fun _=>()) (fun _ _=>trivial) (fun _ _=>(aA.of_eq (List.append_nil _).symm).trans (xe hb)) (fun _ _=>ag.refl _))
theorem MG:ag (af (.agg #[.int .i64 0, .int .i64 0, .int .i64 0])) (aK (ju ⟨0,0,0⟩)):=fun S w v h=>⟨_,h,rfl,fun i p hp=>by
 match i,hp with
 |0,hp=>cases hp;exact⟨_,rfl,rfl⟩
 |1,hp=>cases hp;exact⟨_,rfl,rfl⟩
 |2,hp=>cases hp;exact⟨_,rfl,rfl⟩
 |i+3,hp=>cases hp⟩
theorem O7{o:Option mU}:ag (ER (fun j=>aK (ju j)) (af (.agg #[.int .i64 0, .int .i64 0, .int .i64 0])) o) (aK (ju (o.getD ⟨0,0,0⟩))):=by
 cases o with
 |none=>exact MG
 |some j=>exact ag.refl _
theorem MH{o:Option Int}:ag (ER dP (af (.int .i64 0)) o) (aa .i64 (o.getD 0)):=by cases o<;>exact ag.refl _
theorem AU.jh(h:AU d)(i k:Int): -100000≤(d.jump i k).height∧(d.jump i k).height≤100000:=by
 unfold gE.jump;cases hl:br d.jumps (i,k) with
 |none=>exact⟨by decide,by decide⟩
 |some j=>exact h.jmp _ _ hl
structure MI(K:eU)(x:aq):Prop where
 w:nX x
 call:x.Code=16→x.A<(K.cH:Int)+(K.own.length:Int)
 sig:x.Code=17→x.A<(K.m.cY.length:Int)
 O8:x.Code=35∨x.Code=36→x.A<(K.m.aH.length:Int)
 loc:x.Code=32∨x.Code=33∨x.Code=34→x.A≤4294967295
 P8:(dY x.Code).Form≠8∧(dY x.Code).Form≠9∧(dY x.Code).Form≠10
theorem IZ{l:List UInt8}(h:(l.length:Int)=1):l[0]?=some (l.headD 0):=by
 cases l with
 |nil=>simp at h
 |cons a r=>rfl
theorem MJ{l:List UInt8}:l=[126]↔(l.length:Int)=1∧((l.headD 0).toNat:Int)=126:=by
 cases l with
 |nil=>simp
 | cons a r=>
  cases r with
  |nil=>
   simp only[List.headD_cons,List.cons.injEq,and_true,List.length_cons,List.length_nil];constructor
   · rintro rfl;exact⟨rfl,rfl⟩
   · intro h;exact UInt8.toNat_inj.1 (by have:=h.2;show a.toNat=126;omega)
  |cons b r=>simp;omega
variable {c:cg}
theorem MK{K:eU}(h:c.tb.length=fB K.m){n:Nat}(hn:¬n<fB K.m):(c.tb[n]?).getD 0=0:=by
 rw[List.getElem?_eq_none (by omega)];rfl
theorem ML(h:∀v∈c.gl,v<18446744073709551616)(i:Nat):(c.gl[i]?).getD 0<18446744073709551616:=by
 cases hl:c.gl[i]? with
 |none=>decide
 |some v=>exact h v (List.mem_of_getElem? hl)
theorem Iw(h:∀v∈c.stk,v<18446744073709551616)(i:Nat):ve i c<18446744073709551616:=by
 unfold ve;cases hl:c.stk[i]? with
 |none=>decide
 |some v=>exact h v (List.mem_of_getElem? hl)
theorem lP{v:Nat}(h:v<18446744073709551616):∀w∈[v],w<18446744073709551616:=fun w hw=>by rw[List.mem_singleton.1 hw];exact h
theorem MM{t:Nat}{s:bl}(h:¬tP (yh t 0 s).1.over):t=0∧yh t 0 s=s:=by
 by_cases ht:t=0
 · subst ht;exact⟨rfl,rfl⟩
 · have e:yh t 0 s=mF t s:=(if_neg (fun h=>h rfl)).trans (if_pos ht)
   rw[e] at h;exact absurd trivial h
theorem FV{t:Nat}{s:bl}(ho:s.1.over=false)(h:tP (yh t 0 s).1.over):t≠0∧yh t 0 s=mF t s:=by
 by_cases ht:t=0
 · subst ht
   have e:yh 0 0 s=s:=rfl;rw[e,ho] at h;exact h.elim
 · exact⟨ht,(if_neg (fun h=>h rfl)).trans (if_pos ht)⟩
theorem MN{n:Nat}{op:Int}{A B:Nat}:0≤lM n op A B:=by
 unfold lM;split
 · decide
 · split
   · decide
   · split<;>decide
theorem Dc{c:Int}(h:(0:Int)<((au c).1:Int)):(au c).1=8∨(au c).1=16∨(au c).1=32:=by
 unfold au at h ⊢
 split
 · exact .inr (.inr rfl)
 · split
   · exact .inl rfl
   · split
     · exact .inr (.inl rfl)
     · rename_i h1 h2 h3;rw[if_neg h1,if_neg h2,if_neg h3] at h;exact absurd h (by decide)
theorem Dd(c:Int):iM c=32∨iM c=64:=by unfold iM;split<;>simp
theorem RF(p:Int)(c:cg):(bt (vz p c)).fn=(bt c).fn:=by
 unfold vz
 split
 · rfl
 · simp[bt]
theorem TZ(p:Int)(c:cg):(vz p c).tb=c.tb:=by unfold vz;split<;>rfl
theorem sW{P:Program}{hs:List HP}{env:Env}{dst:Option Tmp}{ty:TypeId}{pos:String}{after:Array Edge}{gd:Option (Nat×Bool)}{x:Operand}{f:FuncId}{v:Value}{xs:List Operand}{ps:List VP}{ats:Array TypeId}{hs0 rest:List HP}{γ:Type}{φ:γ→Prop}{hs':γ→List HP}{q:γ→VP}(hf:bk P f (af v::ps) hs0 φ hs' q)(hb:iu P f=true)(hx:aU env x (af (.func (.func f) #[v] #[])))(hxs:iN env xs ps)(hp:hs.Perm (hs0++rest)):
    fN P hs env ⟨dst, .call ⟨.value x,xs.toArray,ats⟩,ty,pos,after,gd⟩ φ (fun g=>hs' g++rest) q:=by
  intro c a w S F ax hown he K Q hk;obtain⟨F1,F2,lW,rZ,Ey,EP⟩:=cT.append.1 (hown.perm hp);have IZ:∀k,F1 k→k<w.heap.size:=fun k hk=>ax.bO k (lW k hk).1;have hSF:∀k,S k→¬F1 k:=fun k hk hf=>ax.cR k hk (lW k hf).1;have hv:=hx S w a he;simp only[af] at hv
  have hr:(execOp a.eval ⟨dst, .call ⟨.value x,xs.toArray,ats⟩,ty,pos,after,gd⟩).run P w= .ok (.enter f (#[v]++(xs.map a.eval).toArray)) w:=by
    have h:=ei hb (#[v]++(xs.map a.eval).toArray) w;simp[execOp,resolve,hv,Deferred.ofValue,invoke] at h ⊢;exact h
  unfold Oper.wp;rw[hr];refine(hf w S F1 _ ax.bD IZ hSF Ey (by simpa using C7 (AS (S:=S) (w:=w) [v]) (hxs S w a he))).mono ?_;rintro e w' ⟨u,S',F1',g,rfl,h2,hφ,lC,hq⟩;obtain⟨k1,k2,k3,k4⟩:=ir.over ax lW rZ EP h2 lC;exact hk g u w' S' _ hφ k1 k2 k3 k4 hq
end Go.Hl
end
section
namespace Go.Proofs.YtmacjbfbpjgmnaaGreatDoor
open Go.Hl Go.RowKit
theorem De{n:Nat}:cw Tryz.prog 104 [dP (n:Int)] (dP (aG n:Int)):=by
 refine In 12 Tryz.func104 fun _ _ _=>?_;refine fW ?_;refine Cd (fun c0=>?_) fun c0=>?_
 ·
  refine Z7 ?_;refine aX ?_;exact ag.int (by unfold aG;rw[if_pos (by omega)];rfl)
 refine Z9 ?_;refine .bP (σ:=Nat×Nat) (fun _=>[]) (fun s=>[(3,dP (s.1:Int))]) (fun s=>s.1*2^s.2=16*2^19∧16≤s.1∧q8 s.2 s.1 n=aG n) (fun s=>s.2) (16,19) ⟨rfl,by decide,by unfold aG;rw[if_neg (by omega)]⟩ rfl ?_ ?_
 · exact(.get rfl (ag.refl _) (.refl _ _))
 rintro⟨c,k⟩ ⟨hk,P9,hd⟩;simp only at hk P9 hd ⊢;have hcm:c≤8388608:=by(have h2:0<2^k:=Nat.two_pow_pos k;have h3:c≤c*2^k:=Nat.le_mul_of_pos_right _ h2;omega)
 refine Z8 ?_;refine Cd (fun c1=>?_) fun c1=>?_
 ·
  refine Z9 ?_;refine .round (c*2,k-1) (by obtain⟨k,rfl⟩:∃j,k=j+1:=⟨k-1,by(cases k with|zero=>simp at hk;omega|succ k=>omega)⟩;simp only[Nat.add_sub_cancel];exact⟨by rw[←hk,Nat.pow_succ];simp only[Nat.mul_assoc,Nat.mul_comm,Nat.mul_left_comm],by omega,by(unfold q8 at hd;rw[if_pos (by omega)] at hd;exact hd)⟩) (by cases k with|zero=>simp at hk;omega|succ k=>simp) rfl ?_;exact(.get rfl (ag.int (by simp)) (.keep 7 rfl rfl))
 refine fW ?_;refine aX ?_;exact ag.int (by rw[←hd,Je (by omega)])
theorem Df{X:m7}{a:cS}{c:Nat}(aj:cC X a)(aQ:c≤8388608):bk Tryz.prog 105 [ai X.ab 0,dP (c:Int)] (eo X a) (γ:=cS×Nat×Bool) (fun g=>g=nM X.size a c) (fun g=>eo X g.1) (fun g=>aS [dP (g.2.1:Int),ak (g.2.2=true)]):=by
 refine In 58 Tryz.func105 fun _ _ _=>?_;have vL:=aj.hi;have hk2:=aj.most
 refine j4 ?_;refine .p (Lm (i:=3) Tryz.Lw Tryz.underlying115 (fun w=>vV Tryz.PU w) (.t rfl) (.t rfl) rfl) rfl ?_;refine Z6 ?_;refine .p (Hp rfl Tryz.underlying180 (.le (.t rfl) (aN 1 (fun n:Int=>[dP n])))) rfl ?_;refine Z3 ?_;refine Cd (fun c0=>?_) fun c0=>?_
 · simp at c0
 refine Z4 ?_;refine .bz 11 1 FM.out (by kernel_rfl) (k:= ?_);refine Z5 ?_;refine .p (oX rfl Tryz.underlying61 (.t rfl)) ?_;refine Z9 ?_;refine Cd (fun c1=>?_) fun c1=>?_
 ·
  refine Z8 ?_;refine Post.bY rfl rfl ((a,0,false)) (by unfold nM;rw[if_pos (by omega)]) (fun _ _ _ h=>h) rfl (.cons (.rt rfl) ?_ (.cons (.rt rfl) ?_ .nil))
  · exact ag.refl _
  exact ag.prop (by simp)
 refine Z32 ?_;refine Post.bY rfl rfl (({a with height:=a.height+c},a.height,true)) (by unfold nM;rw[if_neg (by omega)]) (fun _ _ _ h=>h) rfl (.cons (.rt rfl) ?_ (.cons (.rt rfl) ?_ .nil))
 · exact ag.refl _
 exact ag.prop (by simp)
theorem lQ{X:m7}{a:cS}{n:Nat}(aj:cC X a):bk Tryz.prog 67 [ai X.ab 0,dP (n:Int)] (eo X a) (γ:=cS×Nat×Nat) (fun g=>g=uu X.size a n) (fun g=>eo X g.1) (fun g=>aS [dP (g.2.1:Int),dP (g.2.2:Int)]):=by
 refine In 53 Tryz.func67 fun _ _ _=>?_;have vL:=aj.hi;have hk2:=aj.most;have KU:=aj.len;have vM:=aj.live;have hk5:=me n
 refine ek ?_;refine .p (bS FU.out (.t rfl)) rfl ?_;refine Z3 ?_;refine CT fun c0=>?_;refine ek ?_;refine Cd (fun c1=>?_) fun c1=>?_
 ·
  refine Z9 ?_;refine Post.bY rfl rfl ((a,0,1)) (by unfold uu;rw[if_pos (by omega)]) (fun _ _ _ h=>h) rfl (.cons (.rt rfl) ?_ (.cons (.rt rfl) ?_ .nil))
  · exact .z
  exact .z
 have hk6:¬4194304<n:=by omega
 refine Z6 ?_;refine .p (cA (h:=De)) rfl ?_;refine Z7 ?_;refine .n (cE (h:=Df (by assumption) (by first|assumption|exact me _))) rfl fun J1 FW=>?_;refine j4 ?_;refine Cd (fun c2=>?_) fun c2=>?_
 ·
  obtain⟨YS,RG⟩:=Jf (by rw[←FW];exact c2);rw[YS] at FW;subst FW;dsimp only
  refine Z8 ?_;refine Post.bY rfl rfl ((a,0,8)) (by unfold uu;rw[if_neg hk6,if_pos RG]) (fun _ _ _ h=>h) rfl (.cons (.rt rfl) ?_ (.cons (.rt rfl) ?_ .nil))
  · exact .z
  exact .z
 obtain⟨YS,RG⟩:=E8 (by rw[←FW];exact Classical.not_not.1 c2);rw[YS] at FW;subst FW;dsimp only
 refine fW ?_;refine .p ((vT (l:=a.height) (h:=a.height+aG n) FU.out FC.out (.t rfl) (.t rfl) (.t rfl) rfl rfl (by omega) (by omega)).le (ag.of_eq (show oW _ _ _=oW X.db a.height (aG n) by rw[Nat.zero_add,Nat.add_sub_cancel_left]))) rfl ?_;refine .s (EV (i:=1) rfl Tryz.underlying61 FC.out FZ.out (.t rfl) rfl (by dsimp only;omega)) ?_;refine dH ?_;refine .s (um (i:=2) _ Tryz.ur Tryz.underlying114 (.t rfl) (.t rfl) (.t rfl) rfl) ?_;refine Z9 ?_;refine .p (gf (.t rfl) (.t rfl) (cG (by dsimp only;omega) (by dsimp only;omega))) rfl ?_;refine jz ?_;refine Post.bY rfl rfl (({bytes:=a.bytes.take a.height++List.replicate (aG n) 0++a.bytes.drop (a.height+aG n),height:=a.height+aG n,live:=a.live+aG n,taken:=ew a.taken (a.height:Int) (aG n:Int)},a.height,0)) (by unfold uu;rw[if_neg hk6,if_neg RG]) (fun _ _ _ h=>h) rfl (.cons (.rt rfl) ?_ (.cons (.rt rfl) ?_ .nil))
 · exact .z
 exact .z
end Go.Proofs.YtmacjbfbpjgmnaaGreatDoor
end
section
namespace Go.Proofs.YtmacjbfbpjgmnaaGreatDoor
open Go.Hl
def vB(p:List UInt8×Int):List VP:=[cW p.1,mM Tryz.prog (fun _:Unit=>True) (fun _=>[]) (fun _=>aa .i64 p.2)]
instance:iy 2 vB:=⟨fun _=>rfl,fun x q h=>by simp only[vB,List.mem_cons,List.not_mem_nil,or_false] at h;rcases h with h|h<;>rw[h]<;>infer_instance⟩
instance (x:List UInt8×Int):bq (vB x):=bq.of x
noncomputable def kG(m:aR):List (List UInt8×Int):=[([115,105,103,115],zf m),([105,109,112,111,114,116,115],nj m),([102,117,110,99,115],lG m),([116,97,98,108,101],nQ m),([109,101,109,115],zg m),([103,108,111,98,97,108,115],nk m),([101,120,112,111,114,116,115],nq m),([115,116,97,114,116],lH m),([101,108,101,109,115],tI m),([100,97,116,97],tJ m)]
noncomputable def rK(m:aR):List UInt8×Int:=((kG m).find? fun p=>p.2 !=0).getD ([],0)
variable {m:aR}
theorem MO{k:Nat}{p:List UInt8×Int}(h:fc (fun p:List UInt8×Int=>p.2≠0) (kG m) k)(hp:(kG m)[k]?=some p)(hn:p.2≠0):rK m=p:=by
 unfold rK
 have key:∀(l:List (List UInt8×Int)) (k:Nat),fc (fun p:List UInt8×Int=>p.2≠0) l k→l[k]?=some p→l.find? (fun p=>p.2 !=0)=some p:=by
  intro l
  induction l with
  |nil=>intro k _ h;simp at h
  | cons x l ih=>
   intro k h hk;cases k with
   |zero=>simp at hk;subst hk;simp[hn]
   |succ k=>
    have h0:=h 0 x (by omega) rfl;simp only[ne_eq,Classical.not_not] at h0;rw[List.find?_cons_of_neg (by simp[h0])];exact ih k (fun j y hj hy=>h (j+1) y (by omega) (by simpa using hy)) (by simpa using hk)
 rw[key _ k h hp];rfl
theorem xg(h:∀p∈kG m,¬p.2≠0):rK m=([],0):=by
 unfold rK;rw[List.find?_eq_none.2 (fun p hp=>by have:=h p hp;simpa using this)];rfl
theorem MP:(rK m).2=0↔∀p∈kG m,p.2=0:=by
 constructor
 · intro h p hp
   unfold rK at h;cases hf:(kG m).find? (fun p=>p.2 !=0) with
   |none=>have:=List.find?_eq_none.1 hf p hp;simpa using this
   |some x=>rw[hf] at h;have:=List.find?_some hf;simp at this h;exact absurd h this
 · intro h;rw[xg (fun p hp=>by simpa using h p hp)]
theorem tW:(kG m).length=10:=rfl
end Go.Proofs.YtmacjbfbpjgmnaaGreatDoor
end
section
namespace Go.Proofs.YtmacjbfbpjgmnaaGreatDoor
open Go.Hl Go.RowKit
theorem lR{n m:Int}:cw Tryz.prog 50 [aa .i64 n,aa .i64 m] (ak (ql n m)):=by
 refine In 12 Tryz.func50 fun _ _ _=>?_;refine E7 ?_;refine aX ?_;exact .z
theorem fZ{p:Prop}{e:Int}:cw Tryz.prog 280 [ak p,aa .i64 e] (aa .i64 (iE p e)):=by
 refine In 7 Tryz.func280 fun _ _ _=>?_;refine ek ?_;refine Cd (fun c0=>?_) fun c0=>?_
 ·
  refine Z8 ?_;refine aX ?_;exact ag.int (by simp[iE, *])
 refine Z8 ?_;refine aX ?_;exact ag.int (by simp[iE, *])
theorem nB{t:UInt8}:cw Tryz.prog 60 [aa .u8 (t.toNat:Int)] (aa .i64 (eC t)):=by
 refine In 8 Tryz.func60 fun _ _ _=>?_;refine E7 ?_;refine Cd (fun c0=>?_) fun c0=>?_
 ·
  refine Z8 ?_;refine aX ?_;exact ag.int (by simp[eC, *])
 refine Z6 ?_;refine Cd (fun c1=>?_) fun c1=>?_
 ·
  refine Z8 ?_;refine aX ?_;exact ag.int (by simp[eC, *])
 refine Z9 ?_;refine aX ?_;exact ag.int (by simp[eC, *])
theorem J2{t:UInt8}:cw Tryz.prog 389 [aa .u8 (t.toNat:Int)] (ak (eC t=0)):=by
 refine In 6 Tryz.func389 fun _ _ _=>?_;refine Z8 ?_;refine .p (cA (h:=nB)) rfl ?_;refine Z5 ?_;refine aX ?_;exact .z
theorem AV{l:List UInt8}{p:UInt8→Prop}:cw Tryz.prog 366 [an 1 aL l,mM Tryz.prog (fun _:UInt8=>True) (fun x=>[aa .u8 (x.toNat:Int)]) (fun x=>ak (p x))] (aa .i64 (oE p l)):=by
 refine In 19 Tryz.func366 fun _ _ _=>?_;refine .fact (t:=0) rfl (fun S w v h=>eA h) fun hlen=>?_;refine j4 ?_;refine .bP (σ:=Nat) (fun _=>[]) (fun k=>[(8,aa .i64 (k:Int))]) (fun k=>k≤l.length∧fc p l k) (fun k=>l.length-k) 0 ⟨by omega,fc.zero p l⟩ rfl ?_ ?_
 · exact(.get rfl (ag.refl _) (.refl _ _))
 rintro k ⟨hk,hnot⟩;refine Z6 ?_;refine Cd (fun c0=>?_) fun c0=>?_
 ·
  obtain⟨x,hx⟩:=ah (xs:=l) (k:=k) (by omega);refine uZ ?_;refine .p (cI _) rfl ?_;refine Z1 ?_;refine .p (cV x) rfl ?_;refine Z2 ?_;refine Cd (fun c1=>?_) fun c1=>?_
  ·
   refine fW ?_;refine aX ?_;exact ag.int (qf hx (by assumption) hnot).symm
  refine Z7 ?_;refine .round (k+1) ⟨by omega,hnot.succ hx (by assumption)⟩ (by omega) rfl ?_;exact(.get rfl (ag.int (by omega)) (.keep 12 rfl rfl))
 refine ek ?_;refine aX ?_;exact ag.int (m9 (hnot.all (by omega))).symm
theorem sX{l:List UInt8}{p:UInt8→Prop}:cw Tryz.prog 315 [an 1 aL l,mM Tryz.prog (fun _:UInt8=>True) (fun x=>[aa .u8 (x.toNat:Int)]) (fun x=>ak (p x))] (ak (∃x∈l,p x)):=by
 refine In 9 Tryz.func315 fun _ _ _=>?_;refine Z9 ?_;refine .p (cA (h:=AV)) rfl ?_;refine Z5 ?_;refine aX ?_;exact ag.prop gL
theorem Dg{l:List Int}{p:Int→Prop}:cw Tryz.prog 341 [an 1 jk l,mM Tryz.prog (fun _:Int=>True) (fun x=>[aa .i64 x]) (fun x=>ak (p x))] (aa .i64 (oE p l)):=by
 refine In 19 Tryz.func341 fun _ _ _=>?_;refine .fact (t:=0) rfl (fun S w v h=>eA h) fun hlen=>?_;refine j4 ?_;refine .bP (σ:=Nat) (fun _=>[]) (fun k=>[(8,aa .i64 (k:Int))]) (fun k=>k≤l.length∧fc p l k) (fun k=>l.length-k) 0 ⟨by omega,fc.zero p l⟩ rfl ?_ ?_
 · exact(.get rfl (ag.refl _) (.refl _ _))
 rintro k ⟨hk,hnot⟩;refine Z6 ?_;refine Cd (fun c0=>?_) fun c0=>?_
 ·
  obtain⟨x,hx⟩:=ah (xs:=l) (k:=k) (by omega);refine uZ ?_;refine .p (cI _) rfl ?_;refine Z1 ?_;refine .p (cV x) rfl ?_;refine Z2 ?_;refine Cd (fun c1=>?_) fun c1=>?_
  ·
   refine fW ?_;refine aX ?_;exact ag.int (qf hx (by assumption) hnot).symm
  refine Z7 ?_;refine .round (k+1) ⟨by omega,hnot.succ hx (by assumption)⟩ (by omega) rfl ?_;exact(.get rfl (ag.int (by omega)) (.keep 12 rfl rfl))
 refine ek ?_;refine aX ?_;exact ag.int (m9 (hnot.all (by omega))).symm
theorem Dh{l:List Int}{p:Int→Prop}:cw Tryz.prog 294 [an 1 jk l,mM Tryz.prog (fun _:Int=>True) (fun x=>[aa .i64 x]) (fun x=>ak (p x))] (ak (∃x∈l,p x)):=by
 refine In 9 Tryz.func294 fun _ _ _=>?_;refine Z9 ?_;refine .p (cA (h:=Dg)) rfl ?_;refine Z5 ?_;refine aX ?_;exact ag.prop gL
theorem xh{l:List gu}{p:gu→Prop}:cw Tryz.prog 340 [an 3 eN l,mM Tryz.prog (fun _:gu=>True) (fun x=>[aK (eN x)]) (fun x=>ak (p x))] (aa .i64 (oE p l)):=by
 refine In 19 Tryz.func340 fun _ _ _=>?_;refine .fact (t:=0) rfl (fun S w v h=>eA h) fun hlen=>?_;refine j4 ?_;refine .bP (σ:=Nat) (fun _=>[]) (fun k=>[(8,aa .i64 (k:Int))]) (fun k=>k≤l.length∧fc p l k) (fun k=>l.length-k) 0 ⟨by omega,fc.zero p l⟩ rfl ?_ ?_
 · exact(.get rfl (ag.refl _) (.refl _ _))
 rintro k ⟨hk,hnot⟩;refine Z6 ?_;refine Cd (fun c0=>?_) fun c0=>?_
 ·
  obtain⟨x,hx⟩:=ah (xs:=l) (k:=k) (by omega);refine uZ ?_;refine .p (cI _) rfl ?_;refine Z1 ?_;refine .p (cV x) rfl ?_;refine Z2 ?_;refine Cd (fun c1=>?_) fun c1=>?_
  ·
   refine fW ?_;refine aX ?_;exact ag.int (qf hx (by assumption) hnot).symm
  refine Z7 ?_;refine .round (k+1) ⟨by omega,hnot.succ hx (by assumption)⟩ (by omega) rfl ?_;exact(.get rfl (ag.int (by omega)) (.keep 12 rfl rfl))
 refine ek ?_;refine aX ?_;exact ag.int (m9 (hnot.all (by omega))).symm
theorem xj{l:List gu}{p:gu→Prop}:cw Tryz.prog 291 [an 3 eN l,mM Tryz.prog (fun _:gu=>True) (fun x=>[aK (eN x)]) (fun x=>ak (p x))] (ak (∃x∈l,p x)):=by
 refine In 9 Tryz.func291 fun _ _ _=>?_;refine Z9 ?_;refine .p (cA (h:=xh)) rfl ?_;refine Z5 ?_;refine aX ?_;exact ag.prop gL
theorem Di{l:List UInt8}:cw Tryz.prog 339 [an 1 aL l] (ak (nO l)):=by
 refine In 11 Tryz.func339 fun _ _ _=>?_;refine fW ?_;refine .g (bB.gT rfl rfl rfl rfl (fun hg=>bg (sX) FB.out (.cons (.when (.t rfl) hg) (.cons (.le (.f _) (pZ FB.out (fun(b:UInt8) (_:True)=>J2 (t:=b)))) .nil)))) rfl rfl ?_;refine Z6 ?_;refine aX ?_;exact ag.prop Jk
theorem FX{s:nc}:cw Tryz.prog 281 [aK (dQ s)] (ak (Ap s)):=by
 refine In 11 Tryz.func281 fun _ _ _=>?_;refine dH ?_;refine .p (cA (h:=Di)) rfl ?_;refine Z3 ?_;refine .g (bB.gT rfl rfl rfl rfl (fun hg=>bg (Di) FB.out (.cons (.when (.t rfl) hg) .nil))) rfl rfl ?_;refine Z5 ?_;refine aX ?_;exact .z
theorem Dj{l:jV}{most:Int}:cw Tryz.prog 287 [aK (iZ l),aa .i64 most] (ak (Ao l most)):=by
 refine In 32 Tryz.func287 fun _ _ _=>?_;refine Z39 ?_;refine aX ?_;exact ag.prop (by unfold Ao;constructor<;>(intro h;omega))
theorem rL{l:List UInt8}:cw Tryz.prog 283 [cW l] (ak (nP l)):=by
 refine In 27 Tryz.func283 fun _ _ _=>?_;refine .fact (t:=0) rfl (fun S w v h=>jY h) fun hlen=>?_;refine j4 ?_;refine .bP (σ:=Nat) (fun _=>[]) (fun k=>[(6,aa .i64 (k:Int))]) (fun k=>k≤l.length∧fc (fun b:UInt8=>(b.toNat:Int)<33∨126<(b.toNat:Int)) l k) (fun k=>l.length-k) 0 ⟨by omega,fc.zero _ l⟩ rfl ?_ ?_
 · exact(.get rfl (ag.refl _) (.refl _ _))
 rintro k ⟨hk,hnot⟩;refine Z6 ?_;refine Cd (fun c0=>?_) fun c0=>?_
 ·
  obtain⟨x,hx⟩:=ah (xs:=l) (k:=k) (by omega);refine j4 ?_;refine .p (r9 FU.out (.t rfl) (.t rfl) rfl (by assumption)) rfl ?_;refine Z4 ?_;refine .g (bB.gF rfl rfl rfl rfl (fun hg=>r9 FU.out (.when (.t rfl) hg) (.when (.t rfl) hg) rfl (by assumption))) rfl rfl ?_;refine Z4 ?_;refine Cd (fun c1=>?_) fun c1=>?_
  ·
   refine ek ?_;refine aX ?_;exact ag.prop (Jl hx (by assumption)).symm
  refine Z7 ?_;refine .round (k+1) ⟨by omega,hnot.succ hx (by assumption)⟩ (by omega) rfl ?_;exact(.get rfl (ag.int (by omega)) (.keep 16 rfl rfl))
 refine Z8 ?_;refine .p (K6 (.t rfl) (.s [] rfl rfl)) rfl ?_;refine Z9 ?_;refine aX ?_;exact ag.prop (Jn (hnot.all (by omega)))
variable {n:Nat}
theorem xk{g:Nat→Int}(aj:n≤281474976710656):cw Tryz.prog 284 [aa .i64 (n:Int),mM Tryz.prog (fun i:Nat=>i<n) (fun i=>[aa .i64 (i:Int)]) (fun i=>aa .i64 (g i))] (aa .i64 (fO g n)):=by
 refine In 18 Tryz.func284 fun _ _ _=>?_;refine jz ?_;refine .bP (σ:=Nat) (fun _=>[]) (fun k=>[(8,aa .i64 (k:Int))]) (fun k=>k≤n∧fO g k=0) (fun k=>n-k) 0 ⟨by omega,rfl⟩ rfl ?_ ?_
 · exact(.get rfl (ag.refl _) (.refl _ _))
 rintro k ⟨hk,hg⟩;refine Z6 ?_;refine Cd (fun c0=>?_) fun c0=>?_
 ·
  refine j4 ?_;refine .p (cV k (h:=by show k<n;omega)) rfl ?_;refine Z9 ?_;refine Cd (fun c1=>?_) fun c1=>?_
  ·
   refine fW ?_;refine aX ?_;exact ag.int (Jh hg c1 (by omega)).symm
  refine Z7 ?_;refine .round (k+1) ⟨by omega,by simp only[fO,hg];simpa using c1⟩ (by omega) rfl ?_;exact(.get rfl (ag.int (by omega)) (.keep 12 rfl rfl))
 refine ek ?_;refine aX ?_;exact ag.int (by rw[show n=k by omega];exact hg.symm)
theorem jN{most:Int}{g:Nat→Int}(aj:n≤281474976710656):cw Tryz.prog 278 [aa .i64 (n:Int),aa .i64 most,mM Tryz.prog (fun i:Nat=>i<n) (fun i=>[aa .i64 (i:Int)]) (fun i=>aa .i64 (g i))] (aa .i64 (mh n most g)):=by
 refine In 13 Tryz.func278 fun _ _ _=>?_;refine jz ?_;refine Cd (fun c0=>?_) fun c0=>?_
 ·
  refine Z7 ?_;refine aX ?_;exact ag.int (by simp[mh, *])
 refine Z6 ?_;refine .p (cA (h:=xk (by first|assumption|omega))) rfl ?_;refine Z4 ?_;refine aX ?_;exact ag.int (by simp[mh, *])
variable {m:aR}
theorem n6:cw Tryz.prog 80 [bH (bp m)] (aa .i64 (eB m)):=by
 refine In 16 Tryz.func80 fun _ _ _=>?_;refine .fact (t:=0) rfl (fun S w v h=>gw h) fun hl=>?_;have rM:=hl.sigs;have tu:=hl.imports;have yj:=hl.funcs;have yl:=hl.jG;have ym:=hl.globals;have zM:=hl.cM;have zN:=hl.elems;have zO:=hl.fK
 refine fW ?_;refine CT fun c0=>?_;refine Z3 ?_;refine .bz 10 2 FM.out (by kernel_rfl) (k:= ?_);refine Jc ?_;refine aX ?_;exact .z
variable {i:Nat}
theorem F3(aj:i<m.cY.length):cw Tryz.prog 279 [aa .i64 (i:Int),bH [bH (bp m)]] (aa .i64 (u6 m.cY LG i)):=by
 refine In 14 Tryz.func279 fun _ _ _=>?_;refine .fact (t:=1) rfl (fun S w v h=>j6 h) fun hl=>?_;have rM:=hl.sigs;have tu:=hl.imports;have yj:=hl.funcs;have yl:=hl.jG;have ym:=hl.globals;have zM:=hl.cM;have zN:=hl.elems;have zO:=hl.fK
 obtain⟨x,hx⟩:=ah aj;refine fW ?_;refine .p (cI _) rfl ?_;refine Z1 ?_;refine .p (cA (h:=FX)) rfl ?_;refine Z1 ?_;refine .p (cA (h:=fZ)) rfl ?_;refine Z4 ?_;refine aX ?_;exact ag.int (by rw[kA hx];rfl)
theorem yo(aj:i<m.av.length):cw Tryz.prog 282 [aa .i64 (i:Int),bH [bH (bp m)]] (aa .i64 (u6 m.av (kR m) i)):=by
 refine In 32 Tryz.func282 fun _ _ _=>?_;refine .fact (t:=1) rfl (fun S w v h=>j6 h) fun hl=>?_;have rM:=hl.sigs;have tu:=hl.imports;have yj:=hl.funcs;have yl:=hl.jG;have ym:=hl.globals;have zM:=hl.cM;have zN:=hl.elems;have zO:=hl.fK
 obtain⟨x,hx⟩:=ah aj;refine fW ?_;refine .p (cI _) rfl ?_;refine Z1 ?_;refine .n (ay FZ.out) rfl fun b4 _=>?_;refine Z3 ?_;refine .share (t:=4) (i:=0) rfl rfl ?_;refine Z5 ?_;refine .p (cA (h:=rL)) rfl ?_;refine Z4 ?_;refine .g (bB.gF rfl rfl rfl rfl (fun hg=>bg (rL) FB.out (.cons (.when (.t rfl) hg) .nil))) rfl rfl ?_;refine Z4 ?_;refine Cd (fun c0=>?_) fun c0=>?_
 ·
  refine Z7 ?_;refine aX ?_;exact ag.int (by rw[kA hx];simp only[kR];first|rw[if_pos (by assumption)]|rw[if_neg (by assumption)])
 refine Z3 ?_;refine .bz 7 4 FM.out (by kernel_rfl) (k:= ?_);refine Z8 ?_;refine .p (cA (h:=lR)) rfl ?_;refine Z1 ?_;refine .p (cA (h:=fZ)) rfl ?_;refine Z4 ?_;refine aX ?_;exact ag.int (by rw[kA hx];simp only[kR];first|rw[if_pos (by assumption)]|rw[if_neg (by assumption)])
theorem Dk(aj:i<m.aB.length):cw Tryz.prog 285 [aa .i64 (i:Int),bH [bH (bp m)]] (aa .i64 (u6 m.aB (uA m) i)):=by
 refine In 20 Tryz.func285 fun _ _ _=>?_;refine .fact (t:=1) rfl (fun S w v h=>j6 h) fun hl=>?_;have rM:=hl.sigs;have tu:=hl.imports;have yj:=hl.funcs;have yl:=hl.jG;have ym:=hl.globals;have zM:=hl.cM;have zN:=hl.elems;have zO:=hl.fK
 obtain⟨x,hx⟩:=ah aj;refine Z6 ?_;refine .bz 13 4 FM.out (by kernel_rfl) (k:= ?_);refine Z5 ?_;refine .p (cI _) ?_;refine Z8 ?_;refine .p (cA (h:=lR)) rfl ?_;refine Z1 ?_;refine .p (cA (h:=fZ)) rfl ?_;refine Z4 ?_;refine aX ?_;exact ag.int (by rw[kA hx];rfl)
theorem F4(aj:i<m.dU.length):cw Tryz.prog 286 [aa .i64 (i:Int),bH [bH (bp m)]] (aa .i64 (u6 m.dU Q3 i)):=by
 refine In 14 Tryz.func286 fun _ _ _=>?_;refine .fact (t:=1) rfl (fun S w v h=>j6 h) fun hl=>?_;have rM:=hl.sigs;have tu:=hl.imports;have yj:=hl.funcs;have yl:=hl.jG;have ym:=hl.globals;have zM:=hl.cM;have zN:=hl.elems;have zO:=hl.fK
 obtain⟨x,hx⟩:=ah aj;refine fW ?_;refine .p (cI _) rfl ?_;refine Z1 ?_;refine .p (cA (h:=Dj)) rfl ?_;refine Z1 ?_;refine .p (cA (h:=fZ)) rfl ?_;refine Z4 ?_;refine aX ?_;exact ag.int (by rw[kA hx];rfl)
theorem yp(aj:i<m.aH.length):cw Tryz.prog 288 [aa .i64 (i:Int),bH [bH (bp m)]] (aa .i64 (u6 m.aH Aq i)):=by
 refine In 27 Tryz.func288 fun _ _ _=>?_;refine .fact (t:=1) rfl (fun S w v h=>j6 h) fun hl=>?_;have rM:=hl.sigs;have tu:=hl.imports;have yj:=hl.funcs;have yl:=hl.jG;have ym:=hl.globals;have zM:=hl.cM;have zN:=hl.elems;have zO:=hl.fK
 obtain⟨x,hx⟩:=ah aj;refine fW ?_;refine .p (cI _) rfl ?_;refine Z1 ?_;refine .n (ay FZ.out) rfl fun b4 _=>?_;refine Z3 ?_;refine .share (t:=4) (i:=0) rfl rfl ?_;refine Z4 ?_;refine .p (cA (h:=nB)) rfl ?_;refine ek ?_;refine .p (cA (h:=fZ)) rfl ?_;refine Z4 ?_;refine aX ?_;exact ag.int (by rw[kA hx];rfl)
theorem J3:cw Tryz.prog 217 [bH (bp m)] (aa .i64 (zf m)):=by
 refine In 10 Tryz.func217 fun _ _ _=>?_;refine .fact (t:=0) rfl (fun S w v h=>gw h) fun hl=>?_;have rM:=hl.sigs;have tu:=hl.imports;have yj:=hl.funcs;have yl:=hl.jG;have ym:=hl.globals;have zM:=hl.cM;have zN:=hl.elems;have zO:=hl.fK
 refine jz ?_;refine .p (bR (A:=Nat) (ok:=fun i=>i<m.cY.length) (arg:=fun i=>[aa .i64 (i:Int)]) (res:=fun i=>aa .i64 (u6 m.cY LG i)) FB.out .nil (.cons (.t rfl) .nil) (fun i hi=>F3 hi)) rfl ?_;refine .p (cA (h:=jN (by first|assumption|omega))) rfl ?_;refine Z4 ?_;refine aX ?_;exact ag.refl _
theorem AW:cw Tryz.prog 218 [bH (bp m)] (aa .i64 (nj m)):=by
 refine In 10 Tryz.func218 fun _ _ _=>?_;refine .fact (t:=0) rfl (fun S w v h=>gw h) fun hl=>?_;have rM:=hl.sigs;have tu:=hl.imports;have yj:=hl.funcs;have yl:=hl.jG;have ym:=hl.globals;have zM:=hl.cM;have zN:=hl.elems;have zO:=hl.fK
 refine jz ?_;refine .p (bR (A:=Nat) (ok:=fun i=>i<m.av.length) (arg:=fun i=>[aa .i64 (i:Int)]) (res:=fun i=>aa .i64 (u6 m.av (kR m) i)) FB.out .nil (.cons (.t rfl) .nil) (fun i hi=>yo hi)) rfl ?_;refine .p (cA (h:=jN (by first|assumption|omega))) rfl ?_;refine Z4 ?_;refine aX ?_;exact ag.refl _
theorem J4:cw Tryz.prog 221 [bH (bp m)] (aa .i64 (zg m)):=by
 refine In 10 Tryz.func221 fun _ _ _=>?_;refine .fact (t:=0) rfl (fun S w v h=>gw h) fun hl=>?_;have rM:=hl.sigs;have tu:=hl.imports;have yj:=hl.funcs;have yl:=hl.jG;have ym:=hl.globals;have zM:=hl.cM;have zN:=hl.elems;have zO:=hl.fK
 refine jz ?_;refine .p (bR (A:=Nat) (ok:=fun i=>i<m.dU.length) (arg:=fun i=>[aa .i64 (i:Int)]) (res:=fun i=>aa .i64 (u6 m.dU Q3 i)) FB.out .nil (.cons (.t rfl) .nil) (fun i hi=>F4 hi)) rfl ?_;refine .p (cA (h:=jN (by first|assumption|omega))) rfl ?_;refine Z4 ?_;refine aX ?_;exact ag.refl _
theorem AX:cw Tryz.prog 222 [bH (bp m)] (aa .i64 (nk m)):=by
 refine In 10 Tryz.func222 fun _ _ _=>?_;refine .fact (t:=0) rfl (fun S w v h=>gw h) fun hl=>?_;have rM:=hl.sigs;have tu:=hl.imports;have yj:=hl.funcs;have yl:=hl.jG;have ym:=hl.globals;have zM:=hl.cM;have zN:=hl.elems;have zO:=hl.fK
 refine jz ?_;refine .p (bR (A:=Nat) (ok:=fun i=>i<m.aH.length) (arg:=fun i=>[aa .i64 (i:Int)]) (res:=fun i=>aa .i64 (u6 m.aH Aq i)) FB.out .nil (.cons (.t rfl) .nil) (fun i hi=>yp hi)) rfl ?_;refine .p (cA (h:=jN (by first|assumption|omega))) rfl ?_;refine Z4 ?_;refine aX ?_;exact ag.refl _
theorem F5:cw Tryz.prog 219 [bH (bp m)] (aa .i64 (lG m)):=by
 refine In 13 Tryz.func219 fun _ _ _=>?_;refine .fact (t:=0) rfl (fun S w v h=>gw h) fun hl=>?_;have rM:=hl.sigs;have tu:=hl.imports;have yj:=hl.funcs;have yl:=hl.jG;have ym:=hl.globals;have zM:=hl.cM;have zN:=hl.elems;have zO:=hl.fK
 refine dH ?_;refine .p (cA (h:=n6)) rfl ?_;refine Z3 ?_;refine Cd (fun c0=>?_) fun c0=>?_
 ·
  refine Z7 ?_;refine aX ?_;exact ag.int (by simp[lG, *])
 refine Z9 ?_;refine .p (bR (A:=Nat) (ok:=fun i=>i<m.aB.length) (arg:=fun i=>[aa .i64 (i:Int)]) (res:=fun i=>aa .i64 (u6 m.aB (uA m) i)) FB.out .nil (.cons (.t rfl) .nil) (fun i hi=>Dk hi)) rfl ?_;refine .p (cA (h:=xk (by first|assumption|omega))) rfl ?_;refine Z4 ?_;refine aX ?_;exact ag.int (by simp[lG, *])
theorem F6:cw Tryz.prog 220 [bH (bp m)] (aa .i64 (nQ m)):=by
 refine In 14 Tryz.func220 fun _ _ _=>?_;refine uZ ?_;refine Cd (fun c0=>?_) fun c0=>?_
 ·
  refine Z7 ?_;refine aX ?_;exact ag.int (by simp[nQ, *])
 refine Z9 ?_;refine .p (cA (h:=fZ)) rfl ?_;refine Z4 ?_;refine aX ?_;exact ag.int (by simp[nQ, *])
variable {f:Int}
theorem Dl:cw Tryz.prog 49 [bH (bp m),aa .i64 f] (aS [aa .i64 ((eI m f).getD 0),ak (eI m f).isSome]):=by
 refine In 43 Tryz.func49 fun _ _ _=>?_;refine .fact (t:=0) rfl (fun S w v h=>gw h) fun hl=>?_;have rM:=hl.sigs;have tu:=hl.imports;have yj:=hl.funcs;have yl:=hl.jG;have ym:=hl.globals;have zM:=hl.cM;have zN:=hl.elems;have zO:=hl.fK
 refine Z24 ?_;refine .g (bB.gF rfl rfl rfl rfl (fun hg=>bg (n6) FB.out (.cons (.when (.t rfl) hg) .nil))) rfl rfl ?_;refine Z5 ?_;refine Cd (fun c0=>?_) fun c0=>?_
 ·
  refine Z8 ?_;refine fj ?_ ?_
  · exact ag.int (by simp[eI, *])
  exact ag.prop (by simp[eI, *])
 refine Z8 ?_;refine Cd (fun c1=>?_) fun c1=>?_
 ·
  refine Z1 ?_;obtain⟨j,rfl⟩:∃j:Nat,f=(j:Int):=⟨f.toNat,by omega⟩;obtain⟨x,hx⟩:=ah (xs:=m.av) (k:=j) (by omega);refine Z6 ?_;refine .p (cI _) rfl ?_;refine Z8 ?_;refine fj ?_ ?_
  · exact ag.int (by rw[o6 (by omega) hx];rfl)
  exact ag.prop (by rw[o6 (by omega) hx];simp)
 refine Z1 ?_;obtain⟨j,rfl⟩:∃j:Nat,f=(m.av.length:Int)+(j:Int):=⟨(f-m.av.length).toNat,by omega⟩;have hcm:eB m=(m.av.length:Int)+(m.aB.length:Int):=rfl;obtain⟨x,hx⟩:=ah (xs:=m.aB) (k:=j) (by omega);refine Z8 ?_;refine .p (cI j) rfl ?_;refine Z8 ?_;refine fj ?_ ?_
 · exact ag.int (by rw[sA hx];rfl)
 exact ag.prop (by rw[sA hx];simp)
theorem ga:cw Tryz.prog 21 [bH (bp m),aa .i64 f] (aS [aK (dQ ((eM m f).getD ⟨[],[]⟩)),ak (eM m f).isSome]):=by
 refine In 37 Tryz.func21 fun _ _ _=>?_;refine .fact (t:=0) rfl (fun S w v h=>gw h) fun hl=>?_;have rM:=hl.sigs;have tu:=hl.imports;have yj:=hl.funcs;have yl:=hl.jG;have ym:=hl.globals;have zM:=hl.cM;have zN:=hl.elems;have zO:=hl.fK
 refine Z2 ?_;refine .n (ay FZ.out) rfl fun b4 _=>?_;refine dH ?_;refine CT fun c0=>?_;refine Z6 ?_;refine .p (cA (h:=Dl)) rfl ?_;refine Jd ?_;refine .g (bB.gF rfl rfl rfl rfl (fun hg=>bg (lR) FB.out (.cons (.when (.t rfl) hg) (.cons (.when (.t rfl) hg) .nil)))) rfl rfl ?_;refine Z4 ?_;refine Cd (fun c1=>?_) fun c1=>?_
 ·
  refine Z9 ?_;refine Post.bY rfl rfl () trivial (fun _ _ _ _=>trivial) rfl (.cons (.ra (i:=0) FA.out FC.out rfl rfl rfl rfl) ?_ (.cons (.rt rfl) ?_ .nil))
  · rw[zj c1];exact ag.YB (aN _ _) (aN _ _)
  exact ag.prop (by rw[zj c1];simp)
 refine Z3 ?_;obtain⟨n,hn⟩:∃n,eI m f=some n:=Option.isSome_iff_exists.1 (Classical.byContradiction fun h=>c1 (.inl h));have hin:ql n m.cY.length:=Classical.byContradiction fun h=>c1 (.inr (by rw[hn];exact h));obtain⟨j,hj⟩:∃j:Nat,n=(j:Int):=⟨n.toNat,by have:=hin.1;omega⟩;obtain⟨x,hx⟩:=ah (xs:=m.cY) (k:=j) (by have:=hin.2;omega);refine Z6 ?_;refine .p (cI j (h:=by assumption) (hi:=by rw[hn,hj];rfl)) rfl ?_;refine Z6 ?_;refine Post.bY rfl rfl () trivial (fun _ _ _ _=>trivial) rfl (.cons (.ra (i:=0) FA.out FC.out rfl rfl rfl rfl) ?_ (.cons (.rt rfl) ?_ .nil))
 · rw[zk hn hj hx];exact ag.refl _
 exact ag.prop (by rw[zk hn hj hx];simp)
theorem F7:cw Tryz.prog 224 [bH (bp m)] (aa .i64 (lH m)):=by
 refine In 30 Tryz.func224 fun _ _ _=>?_;refine .fact (t:=0) rfl (fun S w v h=>gw h) fun hl=>?_;have rM:=hl.sigs;have tu:=hl.imports;have yj:=hl.funcs;have yl:=hl.jG;have ym:=hl.globals;have zM:=hl.cM;have zN:=hl.elems;have zO:=hl.fK
 refine uZ ?_;refine Cd (fun c0=>?_) fun c0=>?_
 ·
  refine Z7 ?_;refine aX ?_;exact ag.int (by simp[lH, *])
 refine Z9 ?_;refine .p (cA (h:=ga)) rfl ?_;refine Z3 ?_;refine .n (ay FZ.out) rfl fun b3 _=>?_;refine Z4 ?_;refine .share (t:=3) (i:=0) rfl rfl ?_;refine .fact (t:=17) rfl (fun S w v h=>And.intro (Cl h 0 rfl) (Cl h 1 rfl)) fun uj=>?_;obtain⟨hs3,hs4⟩:=uj;refine Z7 ?_;refine Cd (fun c1=>?_) fun c1=>?_
 ·
  refine Z7 ?_;refine aX ?_;exact ag.int (Cm c0 c1).symm
 refine fW ?_;refine .p (cA (h:=fZ)) rfl ?_;refine Z4 ?_;refine aX ?_;exact ag.int (Cn c0 c1).symm
theorem Dm:cw Tryz.prog 289 [bH (bp m)] (aK [aa .i64 (cnt m 0),aa .i64 (cnt m 1),aa .i64 (cnt m 2),aa .i64 (cnt m 3)]):=by
 refine In 22 Tryz.func289 fun _ _ _=>?_;refine .fact (t:=0) rfl (fun S w v h=>gw h) fun hl=>?_;have rM:=hl.sigs;have tu:=hl.imports;have yj:=hl.funcs;have yl:=hl.jG;have ym:=hl.globals;have zM:=hl.cM;have zN:=hl.elems;have zO:=hl.fK
 refine Z2 ?_;refine .n (ay FZ.out) rfl fun b2 _=>?_;refine Z3 ?_;refine .bz 18 2 FM.out (by kernel_rfl) (k:= ?_);refine Z1 ?_;refine .p (cA (h:=n6)) ?_;refine Z4 ?_;refine .p (K1 (.t rfl) (.c _)) ?_;refine .p (vG (.t rfl) (.c _)) ?_;refine ek ?_;refine .p (dB FR.out FZ.out (.cons (.t rfl) (.cons (.t rfl) (.cons (.t rfl) (.cons (.t rfl) .nil)))) rfl) rfl ?_;refine Z4 ?_;refine Post.aO rfl () trivial (fun _ _ _ _=>trivial) (.ra (i:=0) FA.out FC.out rfl rfl rfl rfl) ?_;exact ag.refl _
theorem xl{x y:gu}:cw Tryz.prog 292 [aK (eN y),bH (eN x)] (ak (y.Name=x.Name)):=by
 refine In 9 Tryz.func292 fun _ _ _=>?_;refine EA ?_;refine aX ?_;exact .z
theorem yq(aj:i<m.fk.length):cw Tryz.prog 290 [aa .i64 (i:Int),bH [bH (bp m)],bH [aa .i64 (cnt m 0),aa .i64 (cnt m 1),aa .i64 (cnt m 2),aa .i64 (cnt m 3)]] (aa .i64 (nR m i)):=by
 refine In 46 Tryz.func290 fun _ _ _=>?_;refine .fact (t:=1) rfl (fun S w v h=>j6 h) fun hl=>?_;have rM:=hl.sigs;have tu:=hl.imports;have yj:=hl.funcs;have yl:=hl.jG;have ym:=hl.globals;have zM:=hl.cM;have zN:=hl.elems;have zO:=hl.fK
 obtain⟨x,hx⟩:=ah aj;refine fW ?_;refine .p (cI _) rfl ?_;refine Z1 ?_;refine .n (ay FZ.out) rfl fun b5 _=>?_;refine Z3 ?_;refine .share (t:=5) (i:=0) rfl rfl ?_;refine Z7 ?_;refine .p (IV FU.out FC.out rfl (.t rfl) (.t rfl) rfl (by omega)) rfl ?_;refine .p (bR (A:=gu) (ok:=fun _=>True) (arg:=fun y=>[aK (eN y)]) (res:=fun y=>ak (y.Name=x.Name)) FB.out .nil (.cons (.t rfl) .nil) (fun y _=>xl)) rfl ?_;refine .p (cA (h:=xj)) rfl ?_;refine Z8 ?_;refine .p (cA (h:=rL)) rfl ?_;refine Z6 ?_;refine Cd (fun c0=>?_) fun c0=>?_
 ·
  refine Z7 ?_;refine aX ?_;exact ag.int (Ar hx c0).symm
 refine Z3 ?_;refine .bz 13 5 FM.out (by kernel_rfl) (k:= ?_);refine Z2 ?_;refine .p (cA (h:=lR)) ?_;refine Z6 ?_;refine .cons (bB.gF rfl rfl rfl rfl (fun hg=>vG (.when (.t rfl) hg) (.c _))) ?_;refine Z1 ?_;refine .cons (bB.gF rfl rfl rfl rfl (fun hg=>Ad (wv x.Kind) FU.out FC.out rfl (.t rfl) (.when (.t rfl) hg) (by unfold wv;omega) (by unfold wv;omega))) ?_;refine .cons (bB.gF rfl rfl rfl rfl (fun hg=>oK FA.out (.le (.when (.t rfl) hg) (Ob (Q4 m (wv x.Kind) (by unfold wv;omega)))))) ?_;refine Z1 ?_;refine .g (bB.gF rfl rfl rfl rfl (fun hg=>bg (lR) FB.out (.cons (.when (.t rfl) hg) (.cons (.when (.t rfl) hg) .nil)))) rfl rfl ?_;refine Z2 ?_;refine .p (cA (h:=fZ)) rfl ?_;refine Z4 ?_;refine aX ?_;exact ag.int (As hx c0).symm
theorem AY:cw Tryz.prog 223 [bH (bp m)] (aa .i64 (nq m)):=by
 refine In 13 Tryz.func223 fun _ _ _=>?_;refine .fact (t:=0) rfl (fun S w v h=>gw h) fun hl=>?_;have rM:=hl.sigs;have tu:=hl.imports;have yj:=hl.funcs;have yl:=hl.jG;have ym:=hl.globals;have zM:=hl.cM;have zN:=hl.elems;have zO:=hl.fK
 refine Z9 ?_;refine .p (cA (h:=Dm)) rfl ?_;refine .n (ay FZ.out) rfl fun b3 _=>?_;refine Z3 ?_;refine .share (t:=3) (i:=0) rfl rfl ?_;refine Z7 ?_;refine .p (bR (A:=Nat) (ok:=fun i=>i<m.fk.length) (arg:=fun i=>[aa .i64 (i:Int)]) (res:=fun i=>aa .i64 (nR m i)) FB.out .nil (.cons (.t rfl) (.cons (.t rfl) .nil)) (fun i hi=>yq hi)) rfl ?_;refine .p (cA (h:=jN (by first|assumption|omega))) rfl ?_;refine Z4 ?_;refine aX ?_;exact ag.refl _
theorem AZ:cw Tryz.prog 295 [aa .i64 f,bH [bH (bp m)]] (ak (¬ql f (eB m))):=by
 refine In 9 Tryz.func295 fun _ _ _=>?_;refine Z9 ?_;refine .p (cA (h:=n6)) rfl ?_;refine .p (cA (h:=lR)) rfl ?_;refine Z5 ?_;refine aX ?_;exact .z
theorem Dn(aj:i<m.dw.length):cw Tryz.prog 293 [aa .i64 (i:Int),bH [bH (bp m)]] (aa .i64 (u6 m.dw (zh m) i)):=by
 refine In 35 Tryz.func293 fun _ _ _=>?_;refine .fact (t:=1) rfl (fun S w v h=>j6 h) fun hl=>?_;have rM:=hl.sigs;have tu:=hl.imports;have yj:=hl.funcs;have yl:=hl.jG;have ym:=hl.globals;have zM:=hl.cM;have zN:=hl.elems;have zO:=hl.fK
 obtain⟨x,hx⟩:=ah aj;refine fW ?_;refine .p (cI _) rfl ?_;refine Z1 ?_;refine .n (ay FZ.out) rfl fun b4 _=>?_;refine Z3 ?_;refine .share (t:=4) (i:=0) rfl rfl ?_;refine Z9 ?_;refine Cd (fun c0=>?_) fun c0=>?_
 ·
  refine Z7 ?_;refine aX ?_;exact ag.int (by rw[kA hx];simp[zh, *])
 refine Z6 ?_;refine .p (bR (A:=Int) (ok:=fun _=>True) (arg:=fun f=>[aa .i64 f]) (res:=fun f=>ak (¬ql f (eB m))) FB.out .nil (.cons (.t rfl) .nil) (fun f _=>AZ)) rfl ?_;refine .p (cA (h:=Dh)) rfl ?_;refine E7 ?_;refine .p (cA (h:=fZ)) rfl ?_;refine Z4 ?_;refine aX ?_;exact ag.int (by rw[kA hx];exact(Fc c0).symm)
theorem F8:cw Tryz.prog 225 [bH (bp m)] (aa .i64 (tI m)):=by
 refine In 10 Tryz.func225 fun _ _ _=>?_;refine .fact (t:=0) rfl (fun S w v h=>gw h) fun hl=>?_;have rM:=hl.sigs;have tu:=hl.imports;have yj:=hl.funcs;have yl:=hl.jG;have ym:=hl.globals;have zM:=hl.cM;have zN:=hl.elems;have zO:=hl.fK
 refine jz ?_;refine .p (bR (A:=Nat) (ok:=fun i=>i<m.dw.length) (arg:=fun i=>[aa .i64 (i:Int)]) (res:=fun i=>aa .i64 (u6 m.dw (zh m) i)) FB.out .nil (.cons (.t rfl) .nil) (fun i hi=>Dn hi)) rfl ?_;refine .p (cA (h:=jN (by first|assumption|omega))) rfl ?_;refine Z4 ?_;refine aX ?_;exact ag.refl _
theorem Dp(aj:i<m.fV.length):cw Tryz.prog 296 [aa .i64 (i:Int),bH [bH (bp m)]] (aa .i64 (u6 m.fV (zi m) i)):=by
 refine In 51 Tryz.func296 fun _ _ _=>?_;refine .fact (t:=1) rfl (fun S w v h=>j6 h) fun hl=>?_;have rM:=hl.sigs;have tu:=hl.imports;have yj:=hl.funcs;have yl:=hl.jG;have ym:=hl.globals;have zM:=hl.cM;have zN:=hl.elems;have zO:=hl.fK
 obtain⟨x,hx⟩:=ah aj;refine fW ?_;refine .p (cI _) rfl ?_;refine Z1 ?_;refine .n (ay FZ.out) rfl fun b4 _=>?_;refine Z3 ?_;refine .share (t:=4) (i:=0) rfl rfl ?_;refine Z9 ?_;refine Cd (fun c0=>?_) fun c0=>?_
 ·
  refine Z7 ?_;refine aX ?_;exact ag.int (by rw[kA hx];simp[zi, *])
 refine Z3 ?_;refine .bz 24 12 FM.out (by kernel_rfl) (k:= ?_);refine Z7 ?_;refine .p (cA (h:=lR)) ?_;refine j4 ?_;refine .cons (bB.gF rfl rfl rfl rfl (fun hg=>vG (.when (.t rfl) hg) (.when (.t rfl) hg))) ?_;refine Z2 ?_;refine .g (bB.gF rfl rfl rfl rfl (fun hg=>dL (j:=x.Mem.toNat) FU.out FC.out rfl (.when (.t rfl) hg) (.when (.t rfl) hg) (Og (Classical.not_not.1 hg)) (Co (Classical.not_not.1 hg)))) rfl rfl ?_;refine Z9 ?_;refine .p (cA (h:=fZ)) rfl ?_;refine Z4 ?_;refine aX ?_;exact ag.int (by rw[kA hx];exact(Fe c0).symm)
theorem F9:cw Tryz.prog 226 [bH (bp m)] (aa .i64 (tJ m)):=by
 refine In 10 Tryz.func226 fun _ _ _=>?_;refine .fact (t:=0) rfl (fun S w v h=>gw h) fun hl=>?_;have rM:=hl.sigs;have tu:=hl.imports;have yj:=hl.funcs;have yl:=hl.jG;have ym:=hl.globals;have zM:=hl.cM;have zN:=hl.elems;have zO:=hl.fK
 refine jz ?_;refine .p (bR (A:=Nat) (ok:=fun i=>i<m.fV.length) (arg:=fun i=>[aa .i64 (i:Int)]) (res:=fun i=>aa .i64 (u6 m.fV (zi m) i)) FB.out .nil (.cons (.t rfl) .nil) (fun i hi=>Dp hi)) rfl ?_;refine .p (cA (h:=jN (by first|assumption|omega))) rfl ?_;refine Z4 ?_;refine aX ?_;exact ag.refl _
theorem Dq:cw Tryz.prog 163 [bH (bp m)] (aS [cW (rK m).1,aa .i64 (rK m).2]):=by
 refine In 52 Tryz.func163 fun _ _ _=>?_;refine Z2 ?_;refine .p (dK (.s [] rfl rfl)) rfl ?_;refine dH ?_;refine CT fun c0=>?_;refine Z6 ?_;refine .p (bR (A:=Unit) (ok:=fun _=>True) (arg:=fun _=>[]) (res:=fun _=>aa .i64 (zf m)) FB.out (.cons (.t rfl) .nil) .nil (fun _ _=>J3)) rfl ?_;refine .p (az FP.out FZ.out (.cons (.s [115,105,103,115] rfl rfl) (.cons (.t rfl) .nil)) rfl) rfl ?_;refine Z1 ?_;refine .p (bR (A:=Unit) (ok:=fun _=>True) (arg:=fun _=>[]) (res:=fun _=>aa .i64 (nj m)) FB.out (.cons (.t rfl) .nil) .nil (fun _ _=>AW)) rfl ?_;refine .p (az FP.out FZ.out (.cons (.s [105,109,112,111,114,116,115] rfl rfl) (.cons (.t rfl) .nil)) rfl) rfl ?_;refine Z1 ?_;refine .p (bR (A:=Unit) (ok:=fun _=>True) (arg:=fun _=>[]) (res:=fun _=>aa .i64 (lG m)) FB.out (.cons (.t rfl) .nil) .nil (fun _ _=>F5)) rfl ?_;refine .p (az FP.out FZ.out (.cons (.s [102,117,110,99,115] rfl rfl) (.cons (.t rfl) .nil)) rfl) rfl ?_;refine Z1 ?_;refine .p (bR (A:=Unit) (ok:=fun _=>True) (arg:=fun _=>[]) (res:=fun _=>aa .i64 (nQ m)) FB.out (.cons (.t rfl) .nil) .nil (fun _ _=>F6)) rfl ?_;refine .p (az FP.out FZ.out (.cons (.s [116,97,98,108,101] rfl rfl) (.cons (.t rfl) .nil)) rfl) rfl ?_;refine Z1 ?_;refine .p (bR (A:=Unit) (ok:=fun _=>True) (arg:=fun _=>[]) (res:=fun _=>aa .i64 (zg m)) FB.out (.cons (.t rfl) .nil) .nil (fun _ _=>J4)) rfl ?_;refine .p (az FP.out FZ.out (.cons (.s [109,101,109,115] rfl rfl) (.cons (.t rfl) .nil)) rfl) rfl ?_;refine Z1 ?_;refine .p (bR (A:=Unit) (ok:=fun _=>True) (arg:=fun _=>[]) (res:=fun _=>aa .i64 (nk m)) FB.out (.cons (.t rfl) .nil) .nil (fun _ _=>AX)) rfl ?_;refine .p (az FP.out FZ.out (.cons (.s [103,108,111,98,97,108,115] rfl rfl) (.cons (.t rfl) .nil)) rfl) rfl ?_;refine Z1 ?_;refine .p (bR (A:=Unit) (ok:=fun _=>True) (arg:=fun _=>[]) (res:=fun _=>aa .i64 (nq m)) FB.out (.cons (.t rfl) .nil) .nil (fun _ _=>AY)) rfl ?_;refine .p (az FP.out FZ.out (.cons (.s [101,120,112,111,114,116,115] rfl rfl) (.cons (.t rfl) .nil)) rfl) rfl ?_;refine Z1 ?_;refine .p (bR (A:=Unit) (ok:=fun _=>True) (arg:=fun _=>[]) (res:=fun _=>aa .i64 (lH m)) FB.out (.cons (.t rfl) .nil) .nil (fun _ _=>F7)) rfl ?_;refine .p (az FP.out FZ.out (.cons (.s [115,116,97,114,116] rfl rfl) (.cons (.t rfl) .nil)) rfl) rfl ?_;refine Z1 ?_;refine .p (bR (A:=Unit) (ok:=fun _=>True) (arg:=fun _=>[]) (res:=fun _=>aa .i64 (tI m)) FB.out (.cons (.t rfl) .nil) .nil (fun _ _=>F8)) rfl ?_;refine .p (az FP.out FZ.out (.cons (.s [101,108,101,109,115] rfl rfl) (.cons (.t rfl) .nil)) rfl) rfl ?_;refine Z1 ?_;refine .p (bR (A:=Unit) (ok:=fun _=>True) (arg:=fun _=>[]) (res:=fun _=>aa .i64 (tJ m)) FB.out (.cons (.t rfl) .nil) .nil (fun _ _=>F9)) rfl ?_;refine .p (az FP.out FZ.out (.cons (.s [100,97,116,97] rfl rfl) (.cons (.t rfl) .nil)) rfl) rfl ?_;refine .p (dB FR.out FZ.out (.cons (.t rfl) (.cons (.t rfl) (.cons (.t rfl) (.cons (.t rfl) (.cons (.t rfl) (.cons (.t rfl) (.cons (.t rfl) (.cons (.t rfl) (.cons (.t rfl) (.cons (.t rfl) .nil)))))))))) rfl) rfl ?_;refine Z4 ?_;refine .bP (σ:=Nat) (fun _=>[]) (fun k=>[(40,aa .i64 (k:Int))]) (fun k=>k≤10∧fc (fun p:List UInt8×Int=>p.2≠0) (kG m) k) (fun k=>10-k) 0 ⟨by omega,fc.zero _ _⟩ rfl ?_ ?_
 · exact(.get rfl (ag.refl _) (.refl _ _))
 rintro k ⟨hk,hnot⟩;refine Z6 ?_;refine Cd (fun c1=>?_) fun c1=>?_
 ·
  obtain⟨p,hp⟩:=ah (xs:=kG m) (k:=k) (by rw[tW];omega);refine Z6 ?_;refine .p (sn (enc:=vB) (kG m) FU.out FC.out rfl FA.out (.t rfl) rfl rfl (.t rfl) rfl (by assumption)) rfl ?_;refine .n (ay FZ.out) rfl fun b5 _=>?_;refine Z3 ?_;refine .share (t:=5) (i:=0) rfl rfl ?_;refine Z4 ?_;refine .p (cV ()) rfl ?_;refine Z9 ?_;refine Cd (fun c2=>?_) fun c2=>?_
  ·
   refine uZ ?_;refine fj ?_ ?_
   · exact ag.of_eq (by rw[MO hnot hp c2])
   exact ag.of_eq (by rw[MO hnot hp c2])
  refine Z7 ?_;refine .round (k+1) ⟨by omega,hnot.succ hp (by assumption)⟩ (by omega) rfl ?_;exact(.get rfl (ag.int (by omega)) (.keep 13 rfl rfl))
 refine Z7 ?_;refine .p (dK (.s [] rfl rfl)) rfl ?_;refine Z4 ?_;refine fj ?_ ?_
 · exact ag.of_eq (by rw[xg (hnot.all (by rw[tW];omega))])
 exact ag.of_eq (by rw[xg (hnot.all (by rw[tW];omega))])
theorem pM{a b:List UInt8}:cw Tryz.prog 255 [an 1 aL a,an 1 aL b] (ak (a=b)):=by
 refine In 26 Tryz.func255 fun _ _ _=>?_;refine .fact (t:=0) rfl (fun S w v h=>eA h) fun hlen=>?_;refine uZ ?_;refine Cd (fun c0=>?_) fun c0=>?_
 ·
  refine Z7 ?_;refine aX ?_;exact ag.prop (Q5 c0).symm
 refine ek ?_;refine .bP (σ:=Nat) (fun _=>[]) (fun k=>[(13,aa .i64 (k:Int))]) (fun k=>k≤a.length∧Oh a b k) (fun k=>a.length-k) 0 ⟨by omega,Oh.zero _ _⟩ rfl ?_ ?_
 · exact(.get rfl (ag.refl _) (.refl _ _))
 rintro k ⟨hk,heq⟩;refine Z6 ?_;refine Cd (fun c1=>?_) fun c1=>?_
 ·
  obtain⟨x,hx⟩:=ah (xs:=a) (k:=k) (by omega);obtain⟨y,hy⟩:=ah (xs:=b) (k:=k) (by omega);refine ek ?_;refine .bz 8 1 FM.out (by kernel_rfl) (k:= ?_);refine Z2 ?_;refine .p (cI _) ?_;refine Z3 ?_;refine .p (cI _) ?_;refine Z5 ?_;refine .cond (.le (.t rfl) (ag.prop (not_congr HU))) (fun c2=>?_) (fun c2=>?_)
  ·
   refine ek ?_;refine aX ?_;exact ag.prop (Tv hx hy c2).symm
  refine Z7 ?_;refine .round (k+1) ⟨by omega,heq.succ hx hy (Classical.not_not.1 c2)⟩ (by omega) rfl ?_;exact(.get rfl (ag.int (by omega)) (.keep 15 rfl rfl))
 refine ek ?_;refine aX ?_;exact ag.prop (by simp[heq.all (by omega) (by omega)])
theorem Ga{a b:nc}:cw Tryz.prog 198 [aK (dQ a),aK (dQ b)] (ak (a=b)):=by
 refine In 17 Tryz.func198 fun _ _ _=>?_;refine jz ?_;refine .p (cA (h:=pM)) rfl ?_;refine Z5 ?_;refine .g (bB.gT rfl rfl rfl rfl (fun hg=>bg (pM) FB.out (.cons (.when (.t rfl) hg) (.cons (.when (.t rfl) hg) .nil)))) rfl rfl ?_;refine Z5 ?_;refine aX ?_;exact ag.prop Q6
theorem xm{a:Nat}(aj:a<18446744073709551616):cw Tryz.prog 310 [uV a] (iV (tj a:Int)):=by
 refine In 25 Tryz.func310 fun _ _ _=>?_;refine Z5 ?_;refine .cut (σ:=Nat×Nat) (fun _=>[]) (fun g=>[(0,uV g.1),(2,iV (g.2:Int))]) (fun g=>tj a=tj g.1+g.2∧g.1<4294967296∧g.2≤32) ?_ ?_
 ·
  refine Z6 ?_;refine Cd (fun c0=>?_) fun c0=>?_
  ·
   refine Z3 ?_;refine .p (iA (s:=32) (.t rfl) (.c _) (by decide)) rfl ?_;refine Z6 ?_;refine .meet (a/2^32,32) ⟨Fz (by omega),by omega,by omega⟩ rfl (.get rfl (ag.refl _) (.get rfl (ag.refl _) (.keep 6 rfl rfl)))
  refine Z1 ?_;refine .meet (a,0) ⟨rfl,by omega,by omega⟩ rfl (.get rfl (ag.refl _) (.get rfl (ag.refl _) (.keep 2 rfl rfl)))
 intro ⟨x,n⟩ ⟨h1,h2,h3⟩;simp only at h1 h2 h3 ⊢;refine .cut (σ:=Nat×Nat) (fun _=>[]) (fun g=>[(0,uV g.1),(2,iV (g.2:Int))]) (fun g=>tj a=tj g.1+g.2∧g.1<65536∧g.2≤48) ?_ ?_
 ·
  refine Z6 ?_;refine Cd (fun c1=>?_) fun c1=>?_
  ·
   refine Z3 ?_;refine .p (iA (s:=16) (.t rfl) (.c _) (by decide)) rfl ?_;refine Z8 ?_;refine .meet (x/2^16,n+16) ⟨by have:=Fz (a:=x) (k:=16) (by omega);simp only;omega,by omega,by omega⟩ rfl (.get rfl (ag.refl _) (.get rfl (ag.refl _) (.keep 8 rfl rfl)))
  refine Z1 ?_;refine .meet (x,n) ⟨h1,by omega,by omega⟩ rfl (.get rfl (ag.refl _) (.get rfl (ag.refl _) (.keep 2 rfl rfl)))
 intro ⟨y,m⟩ ⟨k1,k2,k3⟩;simp only at k1 k2 k3 ⊢;refine .cut (σ:=Nat×Nat) (fun _=>[]) (fun g=>[(0,uV g.1),(2,iV (g.2:Int))]) (fun g=>tj a=tj g.1+g.2∧g.1<256∧g.2≤56) ?_ ?_
 ·
  refine Z6 ?_;refine Cd (fun c2=>?_) fun c2=>?_
  ·
   refine Z3 ?_;refine .p (iA (s:=8) (.t rfl) (.c _) (by decide)) rfl ?_;refine Z8 ?_;refine .meet (y/2^8,m+8) ⟨by have:=Fz (a:=y) (k:=8) (by omega);simp only;omega,by omega,by omega⟩ rfl (.get rfl (ag.refl _) (.get rfl (ag.refl _) (.keep 8 rfl rfl)))
  refine Z1 ?_;refine .meet (y,m) ⟨k1,by omega,by omega⟩ rfl (.get rfl (ag.refl _) (.get rfl (ag.refl _) (.keep 2 rfl rfl)))
 intro ⟨z,q⟩ ⟨j1,j2,j3⟩;simp only at j1 j2 j3 ⊢;have hbz:=Mc (a:=z) (n:=8) (by omega);refine Z5 ?_;refine .p (r9 FU.out (.s Mv (by decide+kernel) (by decide)) (.t rfl) rfl (OU j2)) rfl ?_;refine .p (gW FU.out FU.out (.t rfl) (cG (by rw[TN z j2];omega) (by rw[TN z j2];omega))) rfl ?_;refine .p (gf (.t rfl) (.t rfl) (cG (by rw[TN z j2];omega) (by rw[TN z j2];omega))) rfl ?_;refine Z4 ?_;refine aX ?_;exact ag.int (by rw[TN z j2];omega)
variable {X:m7} {at_:Nat} {a:cS}
theorem Dr(aj:cC X a)(aQ:at_+n≤X.size):bk Tryz.prog 191 [ai X.ab 0,dP (at_:Int),dP (n:Int)] (gy X a) (γ:=Unit) (fun _=>True) (fun _=>gy X a) (fun _=>aS [oW X.db at_ n,dP 0]):=by
 refine In 47 Tryz.func191 fun _ _ _=>?_;have hk2:=aj.most;refine ek ?_;refine .p (bS FU.out (.t rfl)) rfl ?_;refine Z3 ?_;refine CT fun c0=>?_;refine j4 ?_;refine .g (bB.gF rfl rfl rfl rfl (fun hg=>oX rfl Tryz.underlying61 (.when (.t rfl) hg))) rfl rfl ?_;refine Z8 ?_;refine .g (bB.gF rfl rfl rfl rfl (fun hg=>oX rfl Tryz.underlying61 (.when (.t rfl) hg))) rfl rfl ?_;refine Z7 ?_;refine CT fun c1=>?_;refine jz ?_;refine .p ((vT (l:=at_) (h:=at_+n) FU.out FC.out (.t rfl) (.t rfl) (.t rfl) rfl rfl (by omega) (by omega)).le (ag.of_eq (show oW _ _ _=oW X.db at_ n by rw[Nat.zero_add,Nat.add_sub_cancel_left]))) rfl ?_;refine Z5 ?_;refine fj ?_ ?_
 · exact .z
 exact .z
variable {w:Nat}
theorem xo(aj:cC X a)(aQ:at_+w≤X.size)(bu:w=8∨w=4):bk Tryz.prog 129 [ai X.ab 0,aa .i64 ((at_:Int)),aa .i64 ((w:Int))] (gy X a) (γ:=Unit) (fun _=>True) (fun _=>gy X a) (fun _=>aS [oW X.db at_ w,aa .i64 0]):=by
 refine In 32 Tryz.func129 fun _ _ _=>?_;refine dH ?_;refine .p (yT FU.out (.t rfl)) rfl ?_;refine E7 ?_;refine CT fun c0=>?_;refine Z7 ?_;refine .n (cE (h:=Dr (at_:=at_) (n:=w) aj aQ)) rfl fun g29 h29=>?_;refine Z7 ?_;refine fj ?_ ?_
 · exact .z
 exact .z
variable {v:Nat}
theorem qw(aj:cC X a)(aQ:at_+w≤X.size)(bu:w=8∨w=4)(cZ:v<18446744073709551616):bk Tryz.prog 92 [ai X.ab 0,aa .i64 ((at_:Int)),aa .i64 ((w:Int)),aa .u64 (v:Int)] (gy X a) (γ:=Unit) (fun _=>True) (fun _=>gy X (a.put at_ (kO v w))) (fun _=>aa .i64 0):=by
 refine In 34 Tryz.func92 fun _ _ _=>?_;have KU:=aj.len;have hk2:=aj.most;refine dH ?_;refine .n (cE (h:=xo (at_:=at_) (w:=w) aj aQ bu)) rfl fun RH P9=>?_;refine ek ?_;refine .p (oX rfl Tryz.underlying61 (.t rfl)) rfl ?_;refine Z4 ?_;refine .bP (σ:=Nat) (fun k=>gy X (a.put at_ (kO v k))) (fun k=>[(21,aa .i64 (k:Int))]) (fun k=>k≤w) (fun k=>w-k) 0 (Nat.zero_le _) (by show gy X a=gy X (a.put at_ []);unfold cS.put;simp only[List.append_nil,List.length_nil,Nat.add_zero,List.take_append_drop]) ?_ ?_
 · exact(.get rfl (ag.refl _) (.refl _ _))
 rintro k hk;refine Z6 ?_;refine Cd (fun c0=>?_) fun c0=>?_
 ·
  refine Jc ?_;refine .p (iA (s:=8*k) (.t rfl) (.le (.t rfl) (ag.int (by omega))) (by show 8*k≤64;omega)) rfl ?_;refine .p ((dM FU.out FU.out (.t rfl)).le (ag.int (LJ v k))) rfl ?_;refine .p (v8 (j:=k) FU.out FC.out (.t rfl) (.t rfl) rfl (by omega)) rfl ?_;refine .s (Ly (i:=1) (Oa v k) FC.out (.t rfl) (.t rfl) rfl (by unfold cS.put;simp only[List.length_append,kP,List.length_take,List.length_drop];omega)) ?_;refine Z7 ?_;refine .round (k+1) (by omega) (by omega) (by unfold cS.put;simp only[kP,←Oj (v:=v) (show at_+w≤a.bytes.length by omega) (show k<w by omega)];rfl) ?_;exact(.get rfl (ag.int (by(show(k:Int)+1=((k+1:Nat):Int);omega))) ((.keep 14 rfl rfl)))
 have qO:k=w:=by omega
 subst qO;refine fW ?_;refine aX ?_;exact .z
theorem qx(aj:cC X a)(aQ:at_+w≤X.size)(bu:w=8∨w=4):bk Tryz.prog 130 [ai X.ab 0,aa .i64 ((at_:Int)),aa .i64 ((w:Int))] (gy X a) (γ:=Unit) (fun _=>True) (fun _=>gy X a) (fun _=>aS [aa .u64 (oI ((a.bytes.drop at_).take w):Int),aa .i64 0]):=by
 refine In 39 Tryz.func130 fun _ _ _=>?_;have KU:=aj.len;have hk2:=aj.most;refine ek ?_;refine .n (cE (h:=xo (at_:=at_) (w:=w) aj aQ bu)) rfl fun J5 ED=>?_;refine j4 ?_;refine CT fun c0=>?_;refine ek ?_;refine .p (oX rfl Tryz.underlying61 (.t rfl)) rfl ?_;refine Z4 ?_;refine .bP (σ:=Nat) (fun _=>gy X a) (fun k=>[(10,aa .u64 (oI ((a.bytes.drop at_).take k):Int)),(25,aa .i64 (k:Int))]) (fun k=>k≤w) (fun k=>w-k) 0 (Nat.zero_le _) rfl ?_ ?_
 · exact(.get rfl (ag.refl _) (.get rfl (ag.refl _) (.refl _ _)))
 rintro k hk;refine Z6 ?_;refine Cd (fun c1=>?_) fun c1=>?_
 ·
  obtain⟨c,hc⟩:=ah (xs:=a.bytes) (k:=at_+k) (by omega);have hcs:=Q9 hc (by omega);have Ab:=c.toNat_lt;refine Z7 ?_;refine .p (v8 (j:=k) FU.out FC.out (.t rfl) (.t rfl) rfl (by omega)) rfl ?_;refine .p (N9 (i:=1) FA.out (.t rfl) rfl hc) rfl ?_;refine dH ?_;refine .p (lg (.t rfl) (.le (.t rfl) (ag.int (show _=((8*k:Nat):Int) by omega))) (by omega)) rfl ?_;refine .p ((vX hcs.2 (by omega) (.t rfl) (.t rfl)).le (ag.int (by rw[hcs.1]))) rfl ?_;refine Z8 ?_;refine .round (k+1) (by omega) (by omega) rfl ?_;exact(.get rfl (ag.refl _) (.get rfl (ag.int (by(show(k:Int)+1=((k+1:Nat):Int);omega))) ((.keep 18 rfl rfl))))
 have qO:k=w:=by omega
 subst qO;refine jz ?_;refine fj ?_ ?_
 · exact .z
 exact .z
theorem Gb{at_:Int}{c:Nat}(aj:br a.taken at_=some (c:Int))(aQ:c≤a.live)(bu:a.live≤4194304)(cZ:n≤1000000):bk Tryz.prog 68 [ai X.ab 0,aa .i64 at_] (wB X a n) (γ:=Unit) (fun _=>True) (fun _=>wB X (Tw a at_ c) (n+1)) (fun _=>aa .i64 0):=by
 refine In 47 Tryz.func68 fun _ _ _=>?_;refine Z9 ?_;refine .p (bS FU.out (.t rfl)) rfl ?_;refine Z2 ?_;refine CT fun c0=>?_;refine Z9 ?_;refine .p (vS (i:=2) Tryz.ur Tryz.underlying114 (fun w=>vV Tryz.zv3 w) (.t rfl) (.t rfl) rfl) rfl ?_;refine Z1 ?_;refine .p ((dA (.t rfl) rfl).le (ag.of_eq (by rw[aj];try rfl))) rfl ?_;refine fW ?_;refine Cd (fun c1=>?_) fun c1=>?_
 · exact(c1 (by rw[aj];rfl)).elim
 refine Z9 ?_;refine .s (S8 (i:=2) rfl Tryz.ur Tryz.underlying114 (.t rfl) (.t rfl) rfl) ?_;refine Z3 ?_;refine .own (aA.perm (Perm.idx [3,0,1,2] rfl rfl)) ?_;refine .Ra (c:Int) fun G hG=>?_;have RI:=Jq (c:=(c:Int)) hG;refine .HD (FR:=[Fh X.gm G,tK X a]) [(0,0),(1,0),(2,0),(3,1),(4,0),(5,0),(6,0),(7,0),(8,1),(9,0),(10,1),(11,0),(12,0),(13,4)] 14 1 FM.out (by kernel_rfl) ?_;refine Z3 ?_;refine .o rfl (ff (i:=1) FA.out (.t rfl) rfl rfl) (aA.fI [0,3] [1,2,4,5] rfl rfl) ?_;refine Z4 ?_;refine .o rfl (ff (i:=1) FA.out (.t rfl) rfl rfl) (aA.fI [0,3] [1,2,4,5] rfl rfl) ?_;refine Z1 ?_;refine .o rfl ((Lm (i:=0) Tryz.Lw Tryz.underlying115 (fun w=>vV Tryz.PU w) (.t rfl) (.t rfl) rfl).le (LN)) (aA.fI [0,3] [1,2,4,5] rfl rfl) ?_;refine Z1 ?_;refine .p rfl (fun _=>bV (enc:=jk) [at_] FU.out FC.out rfl FZ.out rfl (.cons (.t rfl) .nil) rfl rfl rfl rfl rfl) ?_;refine .a rfl (bn (i:=1) FU.out FU.out FC.out rfl FZ.out rfl FY.out (.t rfl) (.t rfl) rfl (by simp only[List.length_cons,List.length_nil];omega) (by simp only[List.length_cons,List.length_nil];omega)) (fun _ _=>(aA.fI [0,3] [1,2,4,5] rfl rfl)) fun O9 _=>?_;refine .fin ?_;refine .s (um (i:=0) _ Tryz.Lw Tryz.underlying115 (.t rfl) (.t rfl) (.t rfl) rfl) ?_;refine Z2 ?_;refine .own (Jr (xs:=(sB G (c:Int)).2++[at_]) hG rfl (by simp only[List.length_append,List.length_cons,List.length_nil];omega)) ?_;refine Z7 ?_;refine .p ((gj (.t rfl) (.t rfl) bW).le (ag.int (show _=((a.live-c:Nat):Int) by omega))) rfl ?_;refine ek ?_;refine Post.aO rfl (()) (by trivial) (aA.fI [1,2,3,0] [] rfl rfl) (.rt rfl) ?_;exact .z
theorem xp{t:UInt8}(aj:eC t=32∨eC t=64)(aQ:v<18446744073709551616):cw Tryz.prog 59 [aa .i64 (eC t),aa .u64 (v:Int)] (aa .u64 (o7 t v:Int)):=by
 refine In 11 Tryz.func59 fun _ _ _=>?_;refine fW ?_;refine Cd (fun c0=>?_) fun c0=>?_
 ·
  have Pa:eC t=32:=by omega
  have YT:o7 t v=v%4294967296:=by unfold o7;rw[Pa];rfl
  refine Z3 ?_;refine .p (dM FU.out FU.out (.t rfl)) rfl ?_;refine .p (dM FU.out FU.out (.t rfl)) rfl ?_;refine Z5 ?_;refine aX ?_;exact ag.int (by rw[YT];show((v:Int)%4294967296)%18446744073709551616=_;omega)
 have OK:eC t=64:=by omega
 have YT:o7 t v=v:=by unfold o7;rw[OK];exact Nat.mod_eq_of_lt aQ
 refine Z9 ?_;refine aX ?_;exact ag.int (by rw[YT])
variable {sb:Nat} {pb:Nat} {num:Int} {mv:VP} {t:Int} {g:Int}
theorem n7:bk Tryz.prog 48 [ai sb 0] [lX sb X pb m num g t mv] (γ:=Unit) (fun _=>True) (fun _=>[lX sb X pb m num g t mv]) (fun _=>ak False):=by
 refine In 11 Tryz.func48 fun _ _ _=>?_;refine Z8 ?_;refine .p (bS FU.out (.t rfl)) rfl ?_;refine dH ?_;refine aX ?_;exact ag.prop (by simp)
theorem Ds:bk Tryz.prog 108 [ai sb 0] [lX sb X pb m num g t mv] (γ:=Unit) (fun _=>True) (fun _=>[lX sb X pb m num g t mv]) (fun _=>aa .i64 (m.aH.length:Int)):=by
 refine In 11 Tryz.func108 fun _ _ _=>?_;refine Jd ?_;refine aX ?_;exact .z
theorem xq{i:Int}(aj:0≤i)(aQ:i<(m.aH.length:Int)):bk Tryz.prog 107 [ai sb 0,aa .i64 i,Q8 108 sb] [lX sb X pb m num g t mv] (γ:=Unit) (fun _=>True) (fun _=>[lX sb X pb m num g t mv]) (fun _=>aa .i64 0):=by
 refine In 19 Tryz.func107 fun _ _ _=>?_;refine dH ?_;refine .n ((cE (h:=n7)).same (fun _ _=>aA.refl _) (fun _ _=>ag.refl _)) rfl fun _ _=>?_;refine Z3 ?_;refine CT fun c0=>?_;refine Z7 ?_;refine .UM rfl rfl rfl rfl (fun hg=>((wA (rest:=[]) (Ds (sb:=sb) (X:=X) (pb:=pb) (m:=m) (num:=num) (g:=g) (t:=t) (mv:=mv)) FB.out (.when (.t rfl) hg) (Perm.idx [0] rfl rfl)).same (fun _ _=>aA.refl _) (fun _ _=>ag.refl _)).same (fun _ _=>aA.refl _) (fun _ _=>ag.refl _)) rfl rfl ?_;refine Z5 ?_;refine CT fun c1=>?_;refine Z9 ?_;refine aX ?_;exact .z
theorem zP{g:Nat}{z:kQ}(aj:m.aH[i]?=some z)(aQ:cC X a)(bu:g+8*(i+1)≤X.size)(cZ:v<18446744073709551616)(jy:eC z.Ty=32∨eC z.Ty=64)(qH:m.aH.length≤60000):bk Tryz.prog 70 [ai sb 0,aa .i64 (i:Int),aa .u64 (v:Int)] (lX sb X pb m num (g:Int) t mv::gy X a) (γ:=Unit) (fun _=>True) (fun _=>lX sb X pb m num (g:Int) t mv::gy X (a.put (g+8*i) (kO (o7 z.Ty v) 8))) (fun _=>aa .i64 0):=by
 refine In 42 Tryz.func70 fun _ _ _=>?_;have Nx:=(List.getElem?_eq_some_iff.1 aj).1;have hmo:=aQ.most;refine ek ?_;refine .p (mj (.t rfl)) rfl ?_;refine .n ((cE (h:=xq (sb:=sb) (X:=X) (pb:=pb) (m:=m) (num:=num) (g:=(g:Int)) (t:=t) (mv:=mv) (i:=(i:Int)) (by omega) (by omega))).same (fun _ _=>aA.refl _) (fun _ _=>ag.refl _)) rfl fun _ _=>?_;refine Z9 ?_;refine CT fun c0=>?_;refine Z3 ?_;refine .bz 25 2 FM.out (by kernel_rfl) (k:= ?_);refine dH ?_;refine .p ((gf (.t rfl) (.t rfl) bW).le (ag.int (show _=((g+8*i:Nat):Int) by omega))) ?_;refine Z8 ?_;refine .p (cI i (h:=aj)) ?_;refine Z2 ?_;refine .p (cA (h:=nB)) ?_;refine Z1 ?_;refine .p (cA (h:=xp jy cZ)) ?_;refine Z1 ?_;refine .n (fU [_] [1,2,0] (h:=qw (at_:=g+8*i) (w:=8) aQ (by omega) (.inl rfl) (Aw cZ))) rfl fun WW h41=>?_;refine Z4 ?_;refine Post.aO rfl (()) (by trivial) (aA.fI [2,0,1] [] rfl rfl) (.rt rfl) ?_;exact .z
variable {kb:Nat} {h:Nat}
theorem gQ:bk Tryz.prog 56 [ai kb 0] [ij kb X at_ n h] (γ:=Unit) (fun _=>True) (fun _=>[ij kb X at_ n h]) (fun _=>ak False):=by
 refine In 11 Tryz.func56 fun _ _ _=>?_;refine Z8 ?_;refine .p (bS FU.out (.t rfl)) rfl ?_;refine dH ?_;refine aX ?_;exact ag.prop (by simp)
theorem xu(aj:cC X a)(aQ:at_+8*(i+1)≤X.size)(bu:v<18446744073709551616):bk Tryz.prog 58 [ai kb 0,nV i,wV v] (ij kb X at_ n h::gy X a) (γ:=Unit) (fun _=>True) (fun _=>ij kb X at_ n h::gy X (a.put (at_+8*i) (kO v 8))) (fun _=>aS []):=by
 refine In 19 Tryz.func58 fun _ _ _=>?_;have vL:=aj.most;refine .bz 12 1 FM.out (by kernel_rfl) (k:= ?_);refine dH ?_;refine .p ((gf (.t rfl) (.t rfl) bW).le (ag.int (show _=((at_+8*i:Nat):Int) by omega))) ?_;refine Z2 ?_;refine .n (fU [_] [1,2,0] (h:=qw (at_:=at_+8*i) (w:=8) aj (by omega) (.inl rfl) bu)) rfl fun yt RJ=>?_;refine Z1 ?_;refine Post.bT rfl (()) (by trivial) (aA.fI [2,0,1] [] rfl rfl) rfl
theorem uI(aj:cC X a)(aQ:at_+8*(i+1)≤X.size):bk Tryz.prog 93 [ai kb 0,nV i] (ij kb X at_ n h::gy X a) (γ:=Unit) (fun _=>True) (fun _=>ij kb X at_ n h::gy X a) (fun _=>wV (oI (a.get (at_+8*i) 8))):=by
 refine In 23 Tryz.func93 fun _ _ _=>?_;have vL:=aj.most;refine Z6 ?_;refine .bF [(0,0),(1,0),(2,0),(3,1),(4,0),(5,0),(6,0),(7,1),(8,0),(9,0),(10,0),(11,4),(12,0),(13,0),(14,0),(15,0)] 16 1 FM.out (by kernel_rfl) (k:= ?_);refine dH ?_;refine .p rfl (fun _=>(gf (.t rfl) (.t rfl) bW).le (ag.int (show _=((at_+8*i:Nat):Int) by omega))) ?_;refine .a rfl ((fU [_] [1,2,0] (h:=qx (at_:=at_+8*i) (w:=8) aj (by omega) (.inl rfl))).same (fun _ _=>aA.perm (Perm.idx [2,0,1] rfl rfl)) (fun _ _=>ag.refl _)) (fun _ _=>aA.refl _) fun _ _=>?_;refine Z4 ?_;refine .fin ?_;refine dH ?_;refine aX ?_;exact .z
theorem yu:bk Tryz.prog 62 [ai kb 0] [ij kb X at_ n h] (γ:=Unit) (fun _=>True) (fun _=>[ij kb X at_ n h]) (fun _=>nV h):=by
 refine In 9 Tryz.func62 fun _ _ _=>?_;refine Z9 ?_;refine .n ((cE (h:=gQ)).same (fun _ _=>aA.refl _) (fun _ _=>ag.refl _)) rfl fun _ _=>?_;refine Z2 ?_;refine CT fun c0=>?_;refine fW ?_;refine aX ?_;exact .z
theorem Dt(aj:h≤n)(aQ:n≤65536):bk Tryz.prog 57 [ai kb 0] [ij kb X at_ n h] (γ:=Unit) (fun _=>True) (fun _=>[ij kb X at_ n h]) (fun _=>aa .i64 ((n:Int)-(h:Int))):=by
 refine In 14 Tryz.func57 fun _ _ _=>?_;refine Z9 ?_;refine .n ((cE (h:=gQ)).same (fun _ _=>aA.refl _) (fun _ _=>ag.refl _)) rfl fun _ _=>?_;refine Z2 ?_;refine CT fun c0=>?_;refine Z3 ?_;refine .bz 8 2 FM.out (by kernel_rfl) (k:= ?_);refine j4 ?_;refine aX ?_;exact .z
variable {l:List Nat}
theorem uJ{l2:List Nat}(aj:mG X a at_ n l)(aQ:∀v∈l2,v<18446744073709551616):bk Tryz.prog 25 [ai kb 0,an 1 ig l2] (ij kb X at_ n (l).length::gy X a) (γ:=cS) (fun b=>kE X a b at_ n (w8 n l l2)) (fun b=>ij kb X at_ n (w8 n l l2).length::gy X b) (fun _=>aa .i64 (if l2.length≤n-l.length then 0 else 11)):=by
 refine In 37 Tryz.func25 fun _ _ _=>?_;have vL:=aj.ok.most;have hk2:=aj.le;have KU:=aj.fit;have vM:=aj.most
 refine dH ?_;refine .n ((cE (h:=gQ)).same (fun _ _=>aA.refl _) (fun _ _=>ag.refl _)) rfl fun _ _=>?_;refine Z3 ?_;refine CT fun c0=>?_;refine Z5 ?_;refine .n ((cE (h:=Dt (kb:=kb) (X:=X) (at_:=at_) (n:=n) (h:=l.length) hk2 vM)).same (fun _ _=>aA.refl _) (fun _ _=>ag.refl _)) rfl fun _ _=>?_;refine Z4 ?_;refine Cd (fun c1=>?_) fun c1=>?_
 ·
  have gG:w8 n l l2=l:=if_neg (by omega);refine Z8 ?_;refine Post.aO rfl (a) (by rw[gG];exact aj.self) (aA.of_eq (by rw[gG];try rfl)) (.rt rfl) ?_;exact ag.int (by rw[if_neg (by omega)])
 have gG:w8 n l l2=l++l2:=if_pos (by omega);refine fW ?_;refine .bP (σ:=Nat×cS) (fun g=>ij kb X at_ n (l++l2.take g.1).length::gy X g.2) (fun g=>[(18,aa .i64 (g.1:Int))]) (fun g=>g.1≤l2.length∧kE X a g.2 at_ n (l++l2.take g.1)) (fun g=>l2.length-g.1) (0,a) ⟨Nat.zero_le _,by simpa using aj.self⟩ (by simp) ?_ ?_
 · exact(.get rfl (ag.refl _) (.refl _ _))
 rintro⟨k,b⟩ ⟨hk,hb⟩;simp only at hk hb ⊢;refine Z6 ?_;refine Cd (fun c2=>?_) fun c2=>?_
 ·
  obtain⟨v,hv⟩:=ah (xs:=l2) (k:=k) (by omega);have RK:(l++l2.take k).length=l.length+k:=by(rw[List.length_append,List.length_take];omega)
  have yZ:(l++l2.take (k+1))=(l++l2.take k)++[v]:=by rw[←cu hv,List.append_assoc]
  refine Z6 ?_;refine .p (cI k (h:=hv)) rfl ?_;refine fW ?_;refine .n (cE (h:=xu (kb:=kb) (X:=X) (at_:=at_) (n:=n) (h:=(l++l2.take k).length) (i:=(l++l2.take k).length) hb.1.ok (by omega) (aQ v (List.mem_of_getElem? hv)))) rfl fun Qa Pb=>?_;refine Z7 ?_;refine .p ((gf (.t rfl) (.c _) bW).le (ag.int (show _=(((l++l2.take k).length+1:Nat):Int) by omega))) rfl ?_;refine dH ?_;refine .round (k+1,b.put (at_+8*(l++l2.take k).length) (kO v 8)) ⟨by(show k+1≤_;omega),by(show kE X a _ at_ n (l++l2.take (k+1));rw[yZ];exact hb.push (by omega) (aQ v (List.mem_of_getElem? hv)))⟩ (by show l2.length-(k+1)<l2.length-k;omega) (by simp only[yZ,List.length_append,List.length_singleton];try rfl) ?_;exact(.get rfl (ag.int (by(show(k:Int)+1=((k+1:Nat):Int);omega))) ((.keep 21 rfl rfl)))
 have qO:k=l2.length:=by omega
 subst qO;rw[List.take_length] at hb;refine ek ?_;refine Post.aO rfl (b) (by rw[gG];exact hb) (aA.of_eq (by rw[gG,List.take_length];try rfl)) (.rt rfl) ?_;exact ag.int (by rw[if_pos (by omega)])
theorem pN{k:Nat}(aj:mG X a at_ n l):bk Tryz.prog 61 [ai kb 0,nV k] (ij kb X at_ n (l).length::gy X a) (γ:=cS) (fun b=>kE X a b at_ n ((pH k l).2)) (fun b=>ij kb X at_ n ((pH k l).2).length::gy X b) (fun _=>aS [an 1 ig (pH k l).1,aa .i64 (if k≤l.length then 0 else 2)]):=by
 refine In 47 Tryz.func61 fun _ _ _=>?_;have vL:=aj.ok.most;have hk2:=aj.le;have KU:=aj.fit;have vM:=aj.most
 refine ek ?_;refine .n ((cE (h:=gQ)).same (fun _ _=>aA.refl _) (fun _ _=>ag.refl _)) rfl fun _ _=>?_;refine Z3 ?_;refine CT fun c0=>?_;refine uZ ?_;refine Cd (fun c1=>?_) fun c1=>?_
 ·
  have htl:pH k l=([],l):=if_neg (by omega);refine Z9 ?_;refine Post.bY rfl rfl (a) (by rw[htl];exact aj.self) (aA.of_eq (by rw[htl];try rfl)) rfl (.cons (.rt rfl) ?_ (.cons (.rt rfl) ?_ .nil))
  · exact(by rw[htl];exact aN 1 ig)
  exact ag.int (by rw[if_neg (by omega)])
 have KP:k≤l.length:=by omega
 have htl:pH k l=((l.drop (l.length-k)),l.take (l.length-k)):=if_pos KP;have hrl:(l.drop (l.length-k)).length=k:=by(rw[List.length_drop];omega)
 refine uZ ?_;refine .p ((gj (.t rfl) (.t rfl) bW).le (ag.int (show _=((l.length-k:Nat):Int) by omega))) rfl ?_;refine jz ?_;refine .own (uw (n:=1) (enc:=ig)) ?_;refine .bP (σ:=SB×Nat) (fun q=>aI q.1 1 ig ((l.drop (l.length-k)).take q.2)::ij kb X at_ n (l.length-k)::gy X a) (fun q=>[(6,af (bA q.1 ((l.drop (l.length-k)).take q.2).length)),(31,aa .i64 (q.2:Int))]) (fun q=>q.2≤k) (fun q=>k-q.2) (none,0) (Nat.zero_le _) rfl ?_ ?_
 · exact(.get rfl (ag.refl _) (.get rfl (ag.refl _) (.refl _ _)))
 rintro⟨s1,q⟩ hq;simp only at hq ⊢;refine Z6 ?_;refine Cd (fun c2=>?_) fun c2=>?_
 ·
  obtain⟨v,hv⟩:=ah (xs:=(l.drop (l.length-k))) (k:=q) (by omega);have hlv:l[l.length-k+q]?=some v:=by rw[←List.getElem?_drop];exact hv
  have hw:=uI (kb:=kb) (X:=X) (at_:=at_) (n:=n) (h:=l.length-k) (i:=l.length-k+q) aj.ok (by omega);rw[aj.v _ _ hlv] at hw;refine E7 ?_;refine .p ((gf (.t rfl) (.t rfl) bW).le (ag.int (show _=((l.length-k+q:Nat):Int) by omega))) rfl ?_;refine .n ((fU [_] [1,2,3,0] (h:=hw)).same (fun _ _=>aA.perm (Perm.idx [3,0,1,2] rfl rfl)) (fun _ _=>ag.refl _)) rfl fun _ _=>?_;refine .p (cB ig [v]) rfl ?_;refine .n (bn (i:=0) (xs:=(l.drop (l.length-k)).take q) (ys:=[v]) FU.out FU.out FC.out rfl FZ.out rfl FY.out (.t rfl) (.t rfl) rfl (by rw[List.length_take];simp only[List.length_cons,List.length_nil];omega) (by rw[List.length_take];simp only[List.length_cons,List.length_nil];omega)) rfl fun YU _=>?_;refine Z8 ?_;refine .round (YU,q+1) (by show q+1≤_;omega) (by show k-(q+1)<k-q;omega) (by simp only[←cu hv];try rfl) ?_;exact(.get rfl (ag.of_eq (by simp only[←cu hv])) (.get rfl (ag.int (by(show(q:Int)+1=((q+1:Nat):Int);omega))) ((.keep 19 rfl rfl))))
 have YV:q=k:=by omega
 subst YV;rw[List.take_of_length_le (show(l.drop (l.length-q)).length≤q by omega)];refine Z6 ?_;refine .gJ (t:=6) (i:=0) rfl rfl ?_;refine Z7 ?_;refine Post.bY rfl rfl (a) (by rw[htl];exact .C6 aj.self _) (aA.of_eq (by rw[htl];simp only[List.length_take,Nat.min_eq_left (Nat.sub_le _ _)];try rfl)) rfl (.cons (.rt rfl) ?_ (.cons (.rt rfl) ?_ .nil))
 · exact ag.of_eq (by rw[htl])
 exact ag.int (by rw[if_pos (by omega)])
theorem Gc(aj:mG X a at_ n l):bk Tryz.prog 194 [ai kb 0] (ij kb X at_ n (l).length::gy X a) (γ:=cS) (fun b=>kE X a b at_ n (l.dropLast)) (fun b=>ij kb X at_ n (l.dropLast).length::gy X b) (fun _=>aS [wV (l.getLast?.getD 0),aa .i64 (if 1≤l.length then 0 else 2)]):=by
 refine In 17 Tryz.func194 fun _ _ _=>?_;refine Z9 ?_;refine .n (cE (h:=pN (k:=1) aj)) rfl fun g8 h8=>?_;refine j4 ?_;refine Cd (fun c0=>?_) fun c0=>?_
 ·
  have Ev:l=[]:=List.eq_nil_of_length_eq_zero (by(by_cases h9:1≤l.length;(rw[if_pos h9] at c0;exact absurd rfl c0);omega));subst Ev;refine Z9 ?_;refine Post.bY rfl rfl (g8) (by exact h8) (aA.refl _) rfl (.cons (.rt rfl) ?_ (.cons (.rt rfl) ?_ .nil))
  · exact ag.refl _
  exact ag.refl _
 have rM:1≤l.length:=by(by_cases h9:1≤l.length;exact h9;(rw[if_neg h9] at c0;exact absurd (show(2:Int)≠0 by decide) c0))
 obtain⟨l0,v,rfl⟩:=mw (l:=l) (fun e=>by rw[e] at rM;simp at rM);have ht:pH 1 (l0++[v])=([v],l0):=by simp[pH]
 rw[ht] at h8;refine Z5 ?_;refine .p (cI 0 (h:=by rw[ht];rfl)) rfl ?_;refine Z6 ?_;refine Post.bY rfl rfl (g8) (by rw[List.dropLast_concat];exact h8) (aA.of_eq (by rw[ht,List.dropLast_concat];try rfl)) rfl (.cons (.rt rfl) ?_ (.cons (.rt rfl) ?_ .nil))
 · exact ag.int (by simp)
 exact ag.int (by rw[if_pos rM])
theorem uK{i:Int}:bk Tryz.prog 199 [ai kb 0,aa .i64 i] [ij kb X at_ n h] (γ:=Unit) (fun _=>True) (fun _=>[ij kb X at_ n h]) (fun _=>aa .i64 (if 0≤i∧i<(h:Int) then 0 else 2)):=by
 refine In 19 Tryz.func199 fun _ _ _=>?_;refine dH ?_;refine .n ((cE (h:=gQ)).same (fun _ _=>aA.refl _) (fun _ _=>ag.refl _)) rfl fun _ _=>?_;refine Z3 ?_;refine CT fun c0=>?_;refine uZ ?_;refine Cd (fun c1=>?_) fun c1=>?_
 ·
  refine Z8 ?_;refine aX ?_;exact ag.int (by rw[if_neg (by omega)])
 refine Z9 ?_;refine aX ?_;exact ag.int (by rw[if_pos (by omega)])
theorem Gd{i:Int}(aj:mG X a at_ n l):bk Tryz.prog 142 [ai kb 0,aa .i64 i] (ij kb X at_ n (l).length::gy X a) (γ:=cS) (fun b=>kE X a b at_ n (l)) (fun b=>ij kb X at_ n (l).length::gy X b) (fun _=>aS [wV (if 0≤i then(l[i.toNat]?).getD 0 else 0),dg]):=by
 refine In 16 Tryz.func142 fun _ _ _=>?_;have vL:=aj.ok.most;have hk2:=aj.le;have KU:=aj.fit;have vM:=aj.most
 refine ek ?_;refine .n ((cE (h:=uK (kb:=kb) (X:=X) (at_:=at_) (n:=n) (h:=l.length) (i:=i))).same (fun _ _=>aA.refl _) (fun _ _=>ag.refl _)) rfl fun _ _=>?_;refine Z9 ?_;refine Cd (fun c0=>?_) fun c0=>?_
 ·
  have hno:¬(0≤i∧i<(l.length:Int)):=fun h9=>(by rw[if_pos h9] at c0;exact c0 rfl);have YW:(if 0≤i then(l[i.toNat]?).getD 0 else 0)=0:=by(by_cases h9:0≤i;(rw[if_pos h9,List.getElem?_eq_none (by omega)];rfl);rw[if_neg h9])
  refine Z9 ?_;refine Post.bY rfl rfl (a) (by exact aj.self) (fun _ _ _ h=>h) rfl (.cons (.rt rfl) ?_ (.cons (.rt rfl) ?_ .nil))
  · exact ag.int (by rw[YW];rfl)
  exact ag.any
 have hin:0≤i∧i<(l.length:Int):=Classical.byContradiction fun h9=>c0 (by rw[if_neg h9];decide);obtain⟨v,hv⟩:=ah (xs:=l) (k:=i.toNat) (by omega);have hyes:(if 0≤i then(l[i.toNat]?).getD 0 else 0)=v:=by rw[if_pos hin.1,hv];rfl
 refine Z5 ?_;refine .p ((eK (.t rfl)).le (ag.int (show i=((i.toNat:Nat):Int) by omega))) rfl ?_;refine .n ((cE (h:=uI (kb:=kb) (X:=X) (at_:=at_) (n:=n) (h:=l.length) (i:=i.toNat) aj.ok (by omega))).same (fun _ _=>aA.refl _) (fun _ _=>ag.refl _)) rfl fun _ _=>?_;refine Z5 ?_;refine Post.bY rfl rfl (a) (by exact aj.self) (fun _ _ _ h=>h) rfl (.cons (.rt rfl) ?_ (.cons (.rt rfl) ?_ .nil))
 · exact ag.int (by rw[hyes,aj.v _ _ hv])
 exact ag.any
theorem Ge(aj:mG X a at_ n l)(aQ:v<18446744073709551616):bk Tryz.prog 144 [ai kb 0,nV i,wV v] (ij kb X at_ n (l).length::gy X a) (γ:=cS) (fun b=>kE X a b at_ n (l.set i v)) (fun b=>ij kb X at_ n (l.set i v).length::gy X b) (fun _=>dg):=by
 refine In 18 Tryz.func144 fun _ _ _=>?_;have vL:=aj.ok.most;have hk2:=aj.le;have KU:=aj.fit;have vM:=aj.most
 refine Z9 ?_;refine .n ((cE (h:=uK (kb:=kb) (X:=X) (at_:=at_) (n:=n) (h:=l.length) (i:=(i:Int)))).same (fun _ _=>aA.refl _) (fun _ _=>ag.refl _)) rfl fun _ _=>?_;refine dH ?_;refine Cd (fun c0=>?_) fun c0=>?_
 ·
  have hin:i<l.length:=by(by_cases h9:0≤(i:Int)∧(i:Int)<(l.length:Int);omega;(rw[if_neg h9] at c0;exact absurd c0 (by decide)))
  have hsp:=aj.self.set hin aQ;refine Z4 ?_;refine .n (cE (h:=xu (kb:=kb) (X:=X) (at_:=at_) (n:=n) (h:=l.length) (i:=i) aj.ok (by omega) aQ)) rfl fun RH P9=>?_;refine Z9 ?_;refine Post.aO rfl ((a.put (at_+8*i) (kO v 8))) (by exact hsp) (aA.of_eq (by rw[List.length_set];try rfl)) (.rt rfl) ?_;exact ag.any
 have hno:l.set i v=l:=List.set_eq_of_length_le (by(by_cases h9:0≤(i:Int)∧(i:Int)<(l.length:Int);(rw[if_pos h9] at c0;exact absurd rfl c0);omega));refine Z9 ?_;refine Post.aO rfl (a) (by rw[hno];exact aj.self) (aA.of_eq (by rw[hno];try rfl)) (.rt rfl) ?_;exact ag.any
theorem Gf{keep height:Int}(aj:mG X a at_ n l):bk Tryz.prog 134 [ai kb 0,aa .i64 keep,aa .i64 height] (ij kb X at_ n (l).length::gy X a) (γ:=cS) (fun b=>kE X a b at_ n (JW keep height l)) (fun b=>ij kb X at_ n (JW keep height l).length::gy X b) (fun _=>dg):=by
 refine In 50 Tryz.func134 fun _ _ _=>?_;have vL:=aj.ok.most;have hk2:=aj.le;have KU:=aj.fit;have vM:=aj.most
 refine dH ?_;refine .n ((cE (h:=gQ)).same (fun _ _=>aA.refl _) (fun _ _=>ag.refl _)) rfl fun _ _=>?_;refine Z3 ?_;refine CT fun c0=>?_;refine XH ?_;refine Cd (fun c1=>?_) fun c1=>?_
 ·
  have T0:JW keep height l=l:=if_neg (by omega);refine Z8 ?_;refine Post.aO rfl (a) (by rw[T0];exact aj.self) (aA.of_eq (by rw[T0];try rfl)) (.rt rfl) ?_;exact ag.any
 have T0:JW keep height l=l.take height.toNat++l.drop (l.length-keep.toNat):=if_pos (by omega);have htl:pH keep.toNat l=(l.drop (l.length-keep.toNat),l.take (l.length-keep.toNat)):=if_pos (by omega);have gG:w8 n (l.take height.toNat) (l.drop (l.length-keep.toNat))=l.take height.toNat++l.drop (l.length-keep.toNat):=if_pos (by rw[List.length_take,List.length_drop];omega);refine Z6 ?_;refine .p ((eK (.t rfl)).le (ag.int (show keep=((keep.toNat:Nat):Int) by omega))) rfl ?_;refine .n (cE (h:=pN (k:=keep.toNat) aj)) rfl fun J6 Qb=>?_;refine Z1 ?_;refine .p ((dA (.t rfl) rfl).le (ag.of_eq (by rw[htl]))) rfl ?_;refine Z5 ?_;rw[htl] at Qb;have hS2:=kE.C6 Qb height.toNat;have hS:mG X J6 at_ n (l.take height.toNat):=by(have h9:=hS2.1;simp only at h9;rwa [List.take_take,Nat.min_eq_left (by omega)] at h9)
 refine Z3 ?_;refine .p ((eK (.t rfl)).le (ag.int (show height=(((l.take height.toNat).length:Nat):Int) by rw[List.length_take];omega))) rfl ?_;refine Z9 ?_;refine .n (cE (h:=uJ (a:=J6) (l:=l.take height.toNat) (l2:=l.drop (l.length-keep.toNat)) hS (fun v hv=>aj.lt (List.mem_of_mem_drop hv)))) rfl fun Sm WX=>?_;refine Z4 ?_;refine Post.aO rfl (Sm) (by rw[T0,←gG];exact Qb.trans WX) (aA.of_eq (by rw[T0,gG];try rfl)) (.rt rfl) ?_;exact ag.any
theorem xw(aj:cC X a)(aQ:1≤n)(bu:n≤65536)(cZ:a.height+aG (8*n)≤X.size):bk Tryz.prog 33 [ai X.ab 0,nV n] (eo X a) (γ:=Nat) (fun _=>True) (fun b=>ij b X a.height n 0::eo X (EC a (aG (8*n)))) (fun b=>aS [ai b 0,aa .i64 0]):=by
 refine In 33 Tryz.func33 fun _ _ _=>?_;refine ek ?_;refine .p (bS FU.out (.t rfl)) rfl ?_;refine Z3 ?_;refine CT fun c0=>?_;refine ek ?_;refine CT fun c1=>?_;refine Z7 ?_;refine .p ((vE (.c _) (.t rfl) bW).le (ag.int (show _=((8*n:Nat):Int) by omega))) rfl ?_;refine .n (cE (h:=lQ (X:=X) (a:=a) (n:=8*n) aj)) rfl fun MQ NC=>?_;refine Z7 ?_;rw[sC aj (by omega) (by omega)] at NC;subst NC;refine Z7 ?_;refine CT fun c2=>?_;refine Z7 ?_;refine .p ((az FP.out FZ.out (.cons (.t rfl) (.cons (.t rfl) (.cons (.t rfl) .nil))) rfl).le ((by exact show ag _ (aK [ai X.ab 0,nV a.height,nV n,nV 0,ak False]) from ag.agg (.cons (.refl _) (.cons (.refl _) (.cons (.refl _) (.cons (.refl _) (.cons lD .nil)))))))) rfl ?_;refine .n (gX (.t rfl)) rfl fun YX _=>?_;refine Z5 ?_;refine Post.bY rfl rfl (YX) (by trivial) (fun _ _ _ h=>h) rfl (.cons (.rt rfl) ?_ (.cons (.rt rfl) ?_ .nil))
 · exact .z
 exact .z
theorem Du{ab:Nat}{n:Int}(aj:n<1∨65536<n):cw Tryz.prog 33 [ai ab 0,aa .i64 n] (aS [kK,aa .i64 1]):=by
 refine In 33 Tryz.func33 fun _ _ _=>?_;refine ek ?_;refine .p (bS FU.out (.t rfl)) rfl ?_;refine Z3 ?_;refine CT fun c0=>?_;refine ek ?_;refine CF fun c1=>?_;refine Z9 ?_;refine fj ?_ ?_
 · exact ag.refl _
 exact ag.refl _
theorem n8{n:Int}:cw Tryz.prog 131 [aa .i64 n] (ak (0≤n∧n≤4294967295)):=by
 refine In 9 Tryz.func131 fun _ _ _=>?_;refine EA ?_;refine aX ?_;exact ag.prop (by omega)
theorem n9{x y z:Int}:cw Tryz.prog 94 [aK [aa .i64 x,aa .i64 y,aa .i64 z]] (ak (((0≤x∧x≤4294967295)∧(0≤y∧y≤4294967295))∧(0≤z∧z≤4294967295))):=by
 refine In 16 Tryz.func94 fun _ _ _=>?_;refine dH ?_;refine .p (cA (h:=n8)) rfl ?_;refine Z3 ?_;refine .g (bB.gT rfl rfl rfl rfl (fun hg=>bg (n8) FB.out (.cons (.when (.t rfl) hg) .nil))) rfl rfl ?_;refine Z4 ?_;refine .g (bB.gT rfl rfl rfl rfl (fun hg=>bg (n8) FB.out (.cons (.when (.t rfl) hg) .nil))) rfl rfl ?_;refine Z5 ?_;refine aX ?_;exact ag.prop (by omega)
variable {fb:Nat}
theorem kn:bk Tryz.prog 65 [ai fb 0] [iS fb X at_ n h] (γ:=Unit) (fun _=>True) (fun _=>[iS fb X at_ n h]) (fun _=>ak False):=by
 refine In 11 Tryz.func65 fun _ _ _=>?_;refine Z8 ?_;refine .p (bS FU.out (.t rfl)) rfl ?_;refine dH ?_;refine aX ?_;exact ag.prop (by simp)
theorem xx{f:jx}(aj:cC X a)(aQ:at_+12*(i+1)≤X.size)(bu:lN f):bk Tryz.prog 95 [ai fb 0,nV i,aK (ki f)] (iS fb X at_ n h::gy X a) (γ:=Unit) (fun _=>True) (fun _=>iS fb X at_ n h::gy X (sQ a (at_+12*i) f 3)) (fun _=>aS []):=by
 refine In 37 Tryz.func95 fun _ _ _=>?_;have vL:=aj.most;have RL:=bu.fn;have Sn:=bu.pl;have YY:=bu.bs
 refine jz ?_;refine .p (dB FR.out FZ.out (.cons (.t rfl) (.cons (.t rfl) (.cons (.t rfl) .nil))) rfl) rfl ?_;refine Z4 ?_;refine .bP (σ:=Nat) (fun k=>iS fb X at_ n h::gy X (sQ a (at_+12*i) f k)) (fun k=>[(15,aa .i64 (k:Int))]) (fun k=>k≤3) (fun k=>3-k) 0 (Nat.zero_le _) rfl ?_ ?_
 · exact(.get rfl (ag.refl _) (.refl _ _))
 rintro k hk;refine Z6 ?_;refine Cd (fun c0=>?_) fun c0=>?_
 ·
  have hka:=qu (f:=f) aj (x:=at_+12*i) (by omega) k (by omega);have ug:at_+12*i+4*k=at_+4*(3*i+k):=by omega
  have hfl:=Mz bu (k:=k) (by omega);refine Z7 ?_;refine .p (dW FU.out FC.out FA.out (.t rfl) rfl (.t rfl) rfl (O1 f (by omega))) rfl ?_;refine Z4 ?_;refine .bz 16 1 FM.out (by kernel_rfl) (k:= ?_);refine jz ?_;refine .p ((gf (.t rfl) (.t rfl) bW).le (ag.int (show _=((at_+4*(3*i+k):Nat):Int) by omega))) ?_;refine Z1 ?_;refine .p ((gW FU.out FU.out (.t rfl) bW).le (ag.int (show _=((P1 f k:Nat):Int) by omega))) ?_;refine Z1 ?_;refine .n (fU [_] [1,2,0] (h:=qw (a:=sQ a (at_+12*i) f k) (at_:=at_+4*(3*i+k)) (w:=4) (v:=P1 f k) hka.ok (by omega) (.inr rfl) (by omega))) rfl fun g35 h35=>?_;refine Z7 ?_;refine .own (aA.perm (Perm.idx [2,0,1] rfl rfl)) (bx.round (k+1) (by omega) (by omega) (by rw[Mp a _ f (by omega),ug];try rfl) ?_);exact(.get rfl (ag.int (by(show(k:Int)+1=((k+1:Nat):Int);omega))) ((.keep 25 rfl rfl)))
 have qO:k=3:=by omega
 subst qO;refine Z4 ?_;refine Post.bT rfl (()) (by trivial) (fun _ _ _ h=>h) rfl
theorem Gg{f:jx}(aj:cC X a)(aQ:at_+12*(i+1)≤X.size)(bu:yg a (at_+12*i) f):bk Tryz.prog 253 [ai fb 0,nV i] (iS fb X at_ n h::gy X a) (γ:=Unit) (fun _=>True) (fun _=>iS fb X at_ n h::gy X a) (fun _=>aK (ki f)):=by
 refine In 42 Tryz.func253 fun _ _ _=>?_;have vL:=aj.most;have hfo:=bu.ok;refine Z2 ?_;refine .n (ay FZ.out) rfl fun b4 _=>?_;refine Z4 ?_;refine .n (ay FZ.out) rfl fun b5 _=>?_;refine Z9 ?_;refine .bP (σ:=Nat) (fun k=>aF b5 (YN f k)::aF b4 (List.map af [.int .i64 0, .int .i64 0, .int .i64 0])::iS fb X at_ n h::gy X a) (fun k=>[(9,aa .i64 (k:Int))]) (fun k=>k≤3) (fun k=>3-k) 0 (Nat.zero_le _) rfl ?_ ?_
 · exact(.get rfl (ag.refl _) (.refl _ _))
 rintro k hk;refine Z6 ?_;refine Cd (fun c0=>?_) fun c0=>?_
 ·
  have ug:at_+12*i+4*k=at_+4*(3*i+k):=by omega
  have Ht:=bu.part (k:=k) (by omega);rw[ug] at Ht;have hfl:=Mz hfo (k:=k) (by omega);refine ek ?_;refine .bF [(0,0),(1,0),(2,0),(3,1),(4,0),(5,0),(6,0),(7,1),(8,0),(9,0),(10,0),(11,0),(12,0),(13,0),(14,4),(15,0),(16,0),(17,0),(18,0)] 19 1 FM.out (by kernel_rfl) (k:= ?_);refine jz ?_;refine .p rfl (fun _=>(gf (.t rfl) (.t rfl) bW).le (ag.int (show _=((at_+4*(3*i+k):Nat):Int) by omega))) ?_;refine .a rfl ((fU [_,_,_] [3,4,0,1,2] (h:=qx (at_:=at_+4*(3*i+k)) (w:=4) aj (by omega) (.inr rfl))).same (fun _ _=>aA.perm (Perm.idx [2,3,4,0,1] rfl rfl)) (fun _ _=>ag.refl _)) (fun _ _=>aA.refl _) fun _ _=>?_;refine Z1 ?_;refine .p rfl (fun _=>(dA (.t rfl) rfl).le (ag.int (show _=((P1 f k:Nat):Int) from congrArg Nat.cast Ht))) ?_;refine Z2 ?_;refine .fin ?_;refine Z7 ?_;refine .p (dc k FU.out FC.out rfl (.t rfl) (.t rfl) rfl (by omega)) rfl ?_;refine .s (je (i:=0) FC.out (.t rfl) (.t rfl) rfl (by rw[Nat.blt_eq];show 0+k*1<3;omega)) ?_;refine Z7 ?_;refine .round (k+1) (by omega) (by omega) (by rw[O0 f (by omega)];rfl) ?_;exact(.get rfl (ag.int (by(show(k:Int)+1=((k+1:Nat):Int);omega))) ((.keep 30 rfl rfl)))
 have qO:k=3:=by omega
 subst qO;refine Z7 ?_;refine .p (dc 0 FU.out FC.out rfl (.t rfl) (.c _) rfl (by omega)) rfl ?_;refine Z1 ?_;refine .p (dc 1 FU.out FC.out rfl (.t rfl) (.c _) rfl (by omega)) rfl ?_;refine Z1 ?_;refine .p (dc 2 FU.out FC.out rfl (.t rfl) (.c _) rfl (by omega)) rfl ?_;refine Z6 ?_;refine Post.aO rfl (()) (by trivial) (aA.fI [2,3,4] [0,1] rfl rfl) (.ra (i:=1) FA.out FC.out rfl rfl rfl rfl) ?_;exact ag.refl _
theorem J7{l:List jx}{i:Int}(aj:lO X a at_ n l):bk Tryz.prog 192 [ai fb 0,aa .i64 i] (iS fb X at_ n (l).length::gy X a) (γ:=cS) (fun b=>jt X a b at_ n (l)) (fun b=>iS fb X at_ n (l).length::gy X b) (fun _=>aS [aK (ki (RB i l)),aa .i64 (if 0≤i∧i<(l.length:Int) then 0 else 2)]):=by
 refine In 25 Tryz.func192 fun _ _ _=>?_;have vL:=aj.ok.most;have hk2:=aj.le;have KU:=aj.fit;have vM:=aj.most
 refine Z2 ?_;refine .n (ay FZ.out) rfl fun b4 _=>?_;refine Z8 ?_;refine .n ((fU [_,_,_] [1,0,2,3] (h:=kn)).same (fun _ _=>aA.perm (Perm.idx [1,0,2,3] rfl rfl)) (fun _ _=>ag.refl _)) rfl fun _ _=>?_;refine Z3 ?_;refine CT fun c0=>?_;refine uZ ?_;refine Cd (fun c1=>?_) fun c1=>?_
 ·
  have ug:RB i l=⟨0,0,0⟩:=by(unfold RB;by_cases h9:0≤i;(rw[if_pos h9,List.getElem?_eq_none (by omega)];rfl);rw[if_neg h9])
  refine dH ?_;refine Post.bY rfl rfl (a) (by exact aj.self) (aA.fI [1,2,3] [0] rfl rfl) rfl (.cons (.ra (i:=0) FA.out FC.out rfl rfl rfl rfl) ?_ (.cons (.rt rfl) ?_ .nil))
  · exact ag.of_eq (by rw[ug];rfl)
  exact ag.int (by rw[if_neg (by omega)])
 obtain⟨v,hv⟩:=ah (xs:=l) (k:=i.toNat) (by omega);have ug:RB i l=v:=by(unfold RB;rw[if_pos (by omega),hv];rfl)
 refine Z6 ?_;refine .p ((eK (.t rfl)).le (ag.int (show i=((i.toNat:Nat):Int) by omega))) rfl ?_;refine .n ((fU [_] [1,2,3,0] (h:=Gg (fb:=fb) (X:=X) (at_:=at_) (n:=n) (h:=l.length) (i:=i.toNat) (f:=v) aj.ok (by omega) (aj.v _ _ hv))).same (fun _ _=>aA.perm (Perm.idx [3,0,1,2] rfl rfl)) (fun _ _=>ag.refl _)) rfl fun _ _=>?_;refine Z5 ?_;refine Post.bY rfl rfl (a) (by exact aj.self) (aA.fI [1,2,3] [0] rfl rfl) rfl (.cons (.ra (i:=0) FA.out FC.out rfl rfl rfl rfl) ?_ (.cons (.rt rfl) ?_ .nil))
 · exact ag.of_eq (by rw[ug];rfl)
 exact ag.int (by rw[if_pos (by omega)])
theorem sY:bk Tryz.prog 30 [ai fb 0] [iS fb X at_ n h] (γ:=Unit) (fun _=>True) (fun _=>[iS fb X at_ n h]) (fun _=>nV h):=by
 refine In 9 Tryz.func30 fun _ _ _=>?_;refine Z9 ?_;refine .n ((cE (h:=kn)).same (fun _ _=>aA.refl _) (fun _ _=>ag.refl _)) rfl fun _ _=>?_;refine Z2 ?_;refine CT fun c0=>?_;refine fW ?_;refine aX ?_;exact .z
theorem rN{l:List jx}(aj:lO X a at_ n l):bk Tryz.prog 132 [ai fb 0] (iS fb X at_ n (l).length::gy X a) (γ:=cS) (fun b=>jt X a b at_ n (l)) (fun b=>iS fb X at_ n (l).length::gy X b) (fun _=>aS [aK (ki (jM l)),aa .i64 (if 1≤l.length then 0 else 2)]):=by
 refine In 11 Tryz.func132 fun _ _ _=>?_;have vL:=aj.ok.most;have hk2:=aj.le;have KU:=aj.fit;have vM:=aj.most
 refine Z2 ?_;refine .n (ay FZ.out) rfl fun b2 _=>?_;refine Z7 ?_;refine .n ((fU [_,_,_] [1,0,2,3] (h:=sY)).same (fun _ _=>aA.perm (Perm.idx [1,0,2,3] rfl rfl)) (fun _ _=>ag.refl _)) rfl fun _ _=>?_;refine Z1 ?_;refine .n (fU [_] [1,2,3,0] (h:=J7 (i:=(l.length:Int)-1) aj)) rfl fun g8 h8=>?_;refine Z2 ?_;refine .s (gY (i:=3) FC.out rfl (.t rfl) (.t rfl) rfl rfl rfl) ?_;refine Z4 ?_;refine Post.bY rfl rfl (g8) (by exact h8) (aA.fI [0,1,2] [3] rfl rfl) rfl (.cons (.ra (i:=3) FA.out FC.out rfl rfl rfl rfl) ?_ (.cons (.rt rfl) ?_ .nil))
 · exact ag.of_eq (by rw[←My];rfl)
 exact ag.int (by(by_cases h9:1≤l.length;(rw[if_pos h9,if_pos (by omega)]);rw[if_neg h9,if_neg (by omega)]))
theorem Gh{l:List jx}(aj:lO X a at_ n l):bk Tryz.prog 133 [ai fb 0] (iS fb X at_ n (l).length::gy X a) (γ:=cS) (fun b=>jt X a b at_ n (l.dropLast)) (fun b=>iS fb X at_ n (l.dropLast).length::gy X b) (fun _=>aS [aK (ki (jM l)),dg]):=by
 refine In 22 Tryz.func133 fun _ _ _=>?_;have vL:=aj.ok.most;have hk2:=aj.le;have KU:=aj.fit;have vM:=aj.most
 refine Z2 ?_;refine .n (ay FZ.out) rfl fun b2 _=>?_;refine Z6 ?_;refine .n (fU [_] [1,2,3,0] (h:=rN aj)) rfl fun g8 h8=>?_;refine Z3 ?_;refine .n (ay FZ.out) rfl fun b4 _=>?_;refine ek ?_;refine Cd (fun c0=>?_) fun c0=>?_
 ·
  have rM:1≤l.length:=by(by_cases h9:1≤l.length;exact h9;(rw[if_neg h9] at c0;exact absurd c0 (by decide)))
  have Ny:l.dropLast=l.take (l.length-1):=List.dropLast_eq_take;refine Z5 ?_;refine .p ((gj (.t rfl) (.c _) bW).le (ag.int (show _=((l.dropLast.length:Nat):Int) by rw[List.length_dropLast];omega))) rfl ?_;refine Z9 ?_;refine .s (gY (i:=4) FC.out rfl (.t rfl) (.t rfl) rfl rfl rfl) ?_;refine Z4 ?_;refine Post.bY rfl rfl (g8) (by rw[Ny];exact .C6 h8 _) (aA.fI [1,2,3] [0,4] rfl rfl) rfl (.cons (.ra (i:=4) FA.out FC.out rfl rfl rfl rfl) ?_ (.cons (.rt rfl) ?_ .nil))
  · exact ag.refl _
  exact ag.any
 have Ev:l=[]:=List.eq_nil_of_length_eq_zero (by(by_cases h9:1≤l.length;(rw[if_pos h9] at c0;exact absurd rfl c0);omega));subst Ev;refine Z6 ?_;refine .s (gY (i:=4) FC.out rfl (.t rfl) (.t rfl) rfl rfl rfl) ?_;refine Z4 ?_;refine Post.bY rfl rfl (g8) (by exact h8) (aA.fI [1,2,3] [0,4] rfl rfl) rfl (.cons (.ra (i:=4) FA.out FC.out rfl rfl rfl rfl) ?_ (.cons (.rt rfl) ?_ .nil))
 · exact ag.refl _
 exact ag.any
theorem J8{l:List jx}{p:Int}(aj:lO X a at_ n l):bk Tryz.prog 99 [ai fb 0,aa .i64 p] (iS fb X at_ n (l).length::gy X a) (γ:=cS) (fun b=>jt X a b at_ n (NB p l)) (fun b=>iS fb X at_ n (NB p l).length::gy X b) (fun _=>dg):=by
 refine In 36 Tryz.func99 fun _ _ _=>?_;have vL:=aj.ok.most;have hk2:=aj.le;have KU:=aj.fit;have vM:=aj.most
 refine Z8 ?_;refine .n (cE (h:=rN aj)) rfl fun Ix h10=>?_;refine Z3 ?_;refine .n (ay FZ.out) rfl fun b5 _=>?_;refine ek ?_;refine Cd (fun c0=>?_) fun c0=>?_
 ·
  have Ev:l=[]:=List.eq_nil_of_length_eq_zero (by(by_cases h9:1≤l.length;(rw[if_pos h9] at c0;exact absurd rfl c0);omega));have RN:NB p l=l:=if_pos (.inl Ev);rw[RN];refine Z8 ?_;refine Post.aO rfl (Ix) (by exact h10) (aA.fI [1,2,3] [0] rfl rfl) (.rt rfl) ?_;exact ag.any
 have rM:1≤l.length:=by(by_cases h9:1≤l.length;exact h9;(rw[if_neg h9] at c0;exact absurd (show(2:Int)≠0 by decide) c0))
 have hne:l≠[]:=fun e=>by(rw[e] at rM;simp at rM)
 have hfo:=(aj.v _ _ (RC hne)).ok;have RL:=hfo.fn;have Sn:=hfo.pl;have YY:=hfo.bs
 refine dH ?_;refine .n (ay FZ.out) rfl fun b7 _=>?_;refine Z8 ?_;refine .p (Qu Tryz.underlying161 Tryz.Tl Tryz.Tm (.t rfl) (.t rfl) (.cons (by decide) rfl rfl (.int FU.out) (.cons (by decide) rfl rfl (.int FU.out) (.cons (by decide) rfl rfl (.int FU.out) .nil)))) rfl ?_;refine Z2 ?_;refine Cd (fun c1=>?_) fun c1=>?_
 ·
  have RN:=MA hne (p:=p) (by omega);rw[RN];refine Z7 ?_;refine Post.aO rfl (Ix) (by exact h10) (aA.fI [2,3,4] [0,1] rfl rfl) (.rt rfl) ?_;exact ag.any
 refine Z6 ?_;refine .p (cA (h:=n9 (x:=((jM l).fn:Int)) (y:=p) (z:=((jM l).bs:Int)))) rfl ?_;refine Z3 ?_;refine Cd (fun c2=>?_) fun c2=>?_
 ·
  have RN:NB p l=l:=if_pos (.inr (by omega));rw[RN];refine Z7 ?_;refine Post.aO rfl (Ix) (by exact h10) (aA.fI [2,3,4] [0,1] rfl rfl) (.rt rfl) ?_;exact ag.any
 have hok:¬(p<0∨4294967295<p):=by omega
 have RN:=O3 hne hok;have hnf:lN ⟨(jM l).fn,p.toNat,(jM l).bs⟩:=⟨RL,by(show p.toNat<_;omega),YY⟩;rw[RN,List.length_set];refine Z3 ?_;refine .bz 7 1 FM.out (by kernel_rfl) (k:= ?_);refine Z5 ?_;refine .p ((gj (.t rfl) (.c _) bW).le (ag.int (show _=((l.length-1:Nat):Int) by omega))) ?_;refine .p ((mZ (i:=0) FA.out FC.out rfl (.t rfl) rfl rfl).le ((by exact show ag (aK [nV (jM l).fn,aa .i64 p,nV (jM l).bs]) (aK (ki ⟨(jM l).fn,p.toNat,(jM l).bs⟩)) from ag.agg (.cons (.refl _) (.cons (ag.int (show p=((p.toNat:Nat):Int) by omega)) (.cons (.refl _) .nil)))))) ?_;refine Z1 ?_;refine .n (fU [_,_] [2,3,4,0,1] (h:=xx (fb:=fb) (X:=X) (at_:=at_) (n:=n) (a:=Ix) (h:=l.length) (i:=l.length-1) (f:=⟨(jM l).fn,p.toNat,(jM l).bs⟩) h10.1.ok (by omega) hnf)) rfl fun g35 h35=>?_;refine Z8 ?_;refine Post.aO rfl ((sQ Ix (at_+12*(l.length-1)) ⟨(jM l).fn,p.toNat,(jM l).bs⟩ 3)) (by exact jt.set h10 (by omega) hnf) (aA.fI [0,1,2] [3,4] rfl rfl) (.rt rfl) ?_;exact ag.any
theorem A1{l:List jx}(aj:lO X a at_ n l):bk Tryz.prog 66 [ai fb 0] (iS fb X at_ n (l).length::gy X a) (γ:=cS) (fun b=>jt X a b at_ n (([]:List jx))) (fun b=>iS fb X at_ n (([]:List jx)).length::gy X b) (fun _=>aS []):=by
 refine In 8 Tryz.func66 fun _ _ _=>?_;refine Z3 ?_;refine .n ((cE (h:=kn)).same (fun _ _=>aA.refl _) (fun _ _=>ag.refl _)) rfl fun _ _=>?_;refine Z3 ?_;refine Cd (fun c0=>?_) fun c0=>?_
 ·
  refine Z6 ?_;refine Post.bT rfl (a) (by exact .C6 aj.self 0) (fun _ _ _ h=>h) rfl
 exact(c0 (fun h=>h)).elim
theorem Dv{l:List jx}{f:jx}(aj:lO X a at_ n l)(aQ:lN f):bk Tryz.prog 63 [ai fb 0,aK (ki f)] (iS fb X at_ n (l).length::gy X a) (γ:=cS) (fun b=>jt X a b at_ n (rJ n l f)) (fun b=>iS fb X at_ n (rJ n l f).length::gy X b) (fun _=>aa .i64 (if l.length=n then 11 else 0)):=by
 refine In 36 Tryz.func63 fun _ _ _=>?_;have vL:=aj.ok.most;have hk2:=aj.le;have KU:=aj.fit;have vM:=aj.most
 have RL:=aQ.fn;have Sn:=aQ.pl;have YY:=aQ.bs
 refine ek ?_;refine .n ((cE (h:=kn)).same (fun _ _=>aA.refl _) (fun _ _=>ag.refl _)) rfl fun _ _=>?_;refine Z3 ?_;refine CT fun c0=>?_;refine Z3 ?_;refine .p (cA (h:=n9 (x:=(f.fn:Int)) (y:=(f.pl:Int)) (z:=(f.bs:Int)))) rfl ?_;refine Z4 ?_;refine CT fun c1=>?_;refine Z1 ?_;refine .bz 8 2 FM.out (by kernel_rfl) (k:= ?_);refine jz ?_;refine Cd (fun c2=>?_) fun c2=>?_
 ·
  have yZ:l.length=n:=by omega
  have gG:rJ n l f=l:=if_pos yZ;refine Z8 ?_;refine Post.aO rfl (a) (by rw[gG];exact aj.self) (aA.of_eq (by rw[gG];try rfl)) (.rt rfl) ?_;exact ag.int (by rw[if_pos yZ])
 have yZ:¬l.length=n:=by omega
 have gG:rJ n l f=l++[f]:=if_neg yZ;refine Z4 ?_;refine .bz 6 1 FM.out (by kernel_rfl) (k:= ?_);refine Z5 ?_;refine .p ((pY FA.out FC.out rfl (.t rfl) rfl).le (ag.of_eq rfl)) ?_;refine Z1 ?_;refine .n (cE (h:=xx (fb:=fb) (X:=X) (at_:=at_) (n:=n) (h:=l.length) (i:=l.length) (f:=f) aj.ok (by omega) aQ)) rfl fun Qa Pb=>?_;refine Z8 ?_;refine .p ((gf (.t rfl) (.c _) bW).le (ag.int (show _=((l.length+1:Nat):Int) by omega))) rfl ?_;refine ek ?_;refine Post.aO rfl ((sQ a (at_+12*l.length) f 3)) (by rw[gG];exact aj.self.push (by omega) aQ) (aA.of_eq (by rw[gG,List.length_append,List.length_singleton];try rfl)) (.rt rfl) ?_;exact ag.int (by rw[if_neg yZ])
theorem A2{x y z:Int}(aj:z<0):bk Tryz.prog 63 [ai fb 0,aK [aa .i64 x,aa .i64 y,aa .i64 z]] [iS fb X at_ n h] (γ:=Unit) (fun _=>True) (fun _=>[iS fb X at_ n h]) (fun _=>aa .i64 1):=by
 refine In 36 Tryz.func63 fun _ _ _=>?_;refine ek ?_;refine .n ((cE (h:=kn)).same (fun _ _=>aA.refl _) (fun _ _=>ag.refl _)) rfl fun _ _=>?_;refine Z3 ?_;refine CT fun c0=>?_;refine Z3 ?_;refine .p (cA (h:=n9 (x:=x) (y:=y) (z:=z))) rfl ?_;refine Z4 ?_;refine CF fun c1=>?_;refine Z8 ?_;refine aX ?_;exact .z
theorem Gi(aj:cC X a)(aQ:1≤n)(bu:n≤10000)(cZ:a.height+aG (12*n)≤X.size):bk Tryz.prog 34 [ai X.ab 0,nV n] (eo X a) (γ:=Nat) (fun _=>True) (fun b=>iS b X a.height n 0::eo X (EC a (aG (12*n)))) (fun b=>aS [ai b 0,aa .i64 0]):=by
 refine In 33 Tryz.func34 fun _ _ _=>?_;refine ek ?_;refine .p (bS FU.out (.t rfl)) rfl ?_;refine Z3 ?_;refine CT fun c0=>?_;refine ek ?_;refine CT fun c1=>?_;refine Z7 ?_;refine .p ((vE (.c _) (.t rfl) bW).le (ag.int (show _=((12*n:Nat):Int) by omega))) rfl ?_;refine .n (cE (h:=lQ (X:=X) (a:=a) (n:=12*n) aj)) rfl fun MQ NC=>?_;refine Z7 ?_;rw[sC aj (by omega) (by omega)] at NC;subst NC;refine Z7 ?_;refine CT fun c2=>?_;refine Z7 ?_;refine .p ((az FP.out FZ.out (.cons (.t rfl) (.cons (.t rfl) (.cons (.t rfl) .nil))) rfl).le ((by exact show ag _ (aK [ai X.ab 0,nV a.height,nV n,nV 0,ak False]) from ag.agg (.cons (.refl _) (.cons (.refl _) (.cons (.refl _) (.cons (.refl _) (.cons lD .nil)))))))) rfl ?_;refine .n (gX (.t rfl)) rfl fun YX _=>?_;refine Z5 ?_;refine Post.bY rfl rfl (YX) (by trivial) (fun _ _ _ h=>h) rfl (.cons (.rt rfl) ?_ (.cons (.rt rfl) ?_ .nil))
 · exact .z
 exact .z
theorem Dw{ab:Nat}{n:Int}(aj:n<1∨10000<n):cw Tryz.prog 34 [ai ab 0,aa .i64 n] (aS [kK,aa .i64 1]):=by
 refine In 33 Tryz.func34 fun _ _ _=>?_;refine ek ?_;refine .p (bS FU.out (.t rfl)) rfl ?_;refine Z3 ?_;refine CT fun c0=>?_;refine ek ?_;refine CF fun c1=>?_;refine Z9 ?_;refine fj ?_ ?_
 · exact ag.refl _
 exact ag.refl _
theorem nC:bk Tryz.prog 20 [ai sb 0] [lX sb X pb m num g t mv] (γ:=Unit) (fun _=>True) (fun _=>[lX sb X pb m num g t mv]) (fun _=>bH (bp m)):=by
 refine In 9 Tryz.func20 fun _ _ _=>?_;refine Z9 ?_;refine .n ((cE (h:=n7)).same (fun _ _=>aA.refl _) (fun _ _=>ag.refl _)) rfl fun _ _=>?_;refine Z2 ?_;refine CT fun c0=>?_;refine fW ?_;refine aX ?_;exact .z
theorem sZ:bk Tryz.prog 254 [ai sb 0] [lX sb X pb m num g t mv] (γ:=Unit) (fun _=>True) (fun _=>[lX sb X pb m num g t mv]) (fun _=>aa .i64 m.Table):=by
 refine In 10 Tryz.func254 fun _ _ _=>?_;refine E7 ?_;refine aX ?_;exact .z
theorem Dx{i:Int}(aj:0≤i)(aQ:i<m.Table):bk Tryz.prog 107 [ai sb 0,aa .i64 i,Q8 254 sb] [lX sb X pb m num g t mv] (γ:=Unit) (fun _=>True) (fun _=>[lX sb X pb m num g t mv]) (fun _=>aa .i64 0):=by
 refine In 19 Tryz.func107 fun _ _ _=>?_;refine dH ?_;refine .n ((cE (h:=n7)).same (fun _ _=>aA.refl _) (fun _ _=>ag.refl _)) rfl fun _ _=>?_;refine Z3 ?_;refine CT fun c0=>?_;refine Z7 ?_;refine .UM rfl rfl rfl rfl (fun hg=>((wA (rest:=[]) (sZ (sb:=sb) (X:=X) (pb:=pb) (m:=m) (num:=num) (g:=g) (t:=t) (mv:=mv)) FB.out (.when (.t rfl) hg) (Perm.idx [0] rfl rfl)).same (fun _ _=>aA.refl _) (fun _ _=>ag.refl _)).same (fun _ _=>aA.refl _) (fun _ _=>ag.refl _)) rfl rfl ?_;refine Z5 ?_;refine CT fun c1=>?_;refine Z9 ?_;refine aX ?_;exact .z
theorem Dy{t0:Nat}(aj:i<fB m)(aQ:cC X a)(bu:t0+4*(i+1)≤X.size):bk Tryz.prog 197 [ai sb 0,aa .i64 (i:Int)] (lX sb X pb m num g (t0:Int) mv::gy X a) (γ:=Unit) (fun _=>True) (fun _=>lX sb X pb m num g (t0:Int) mv::gy X a) (fun _=>aS [aa .i64 (if (oI ((a.bytes.drop (t0+4*i)).take 4))=0 then 0 else((oI ((a.bytes.drop (t0+4*i)).take 4)):Int)-1),ak ((oI ((a.bytes.drop (t0+4*i)).take 4))≠0),aa .i64 0]):=by
 refine In 43 Tryz.func197 fun _ _ _=>?_;have hmo:=aQ.most;have RO:(i:Int)<m.Table:=by unfold fB at aj;omega
 have hvl:=pz (a.bytes.drop (t0+4*i));refine jz ?_;refine .p (mj (.t rfl)) rfl ?_;refine .n ((cE (h:=Dx (sb:=sb) (X:=X) (pb:=pb) (m:=m) (num:=num) (g:=g) (t:=(t0:Int)) (mv:=mv) (i:=(i:Int)) (by omega) RO)).same (fun _ _=>aA.refl _) (fun _ _=>ag.refl _)) rfl fun _ _=>?_;refine Z9 ?_;refine CT fun c0=>?_;refine Z3 ?_;refine .bF [(0,0),(1,0),(2,0),(3,1),(4,0),(5,0),(6,0),(7,1),(8,0),(9,0),(10,0),(11,4),(12,0),(13,0),(14,0),(15,0)] 16 1 FM.out (by kernel_rfl) (k:= ?_);refine dH ?_;refine .p rfl (fun _=>(gf (.t rfl) (.t rfl) bW).le (ag.int (show _=((t0+4*i:Nat):Int) by omega))) ?_;refine .a rfl ((fU [_] [1,2,0] (h:=qx (at_:=t0+4*i) (w:=4) aQ (by omega) (.inr rfl))).same (fun _ _=>aA.perm (Perm.idx [2,0,1] rfl rfl)) (fun _ _=>ag.refl _)) (fun _ _=>aA.refl _) fun _ _=>?_;refine Z4 ?_;refine .fin ?_;refine j4 ?_;refine Cd (fun c1=>?_) fun c1=>?_
 ·
  have hz:(oI ((a.bytes.drop (t0+4*i)).take 4))=0:=by omega
  refine dH ?_;refine N8 ?_ ?_ ?_
  · exact ag.int (by rw[if_pos hz])
  · exact ag.prop (by simp[hz])
  exact ag.refl _
 have hz:¬(oI ((a.bytes.drop (t0+4*i)).take 4))=0:=by omega
 refine jz ?_;refine N8 ?_ ?_ ?_
 · exact ag.int (by rw[if_neg hz])
 · exact ag.prop (by simp[hz])
 exact ag.refl _
theorem Dz{i:Int}(aj:i<0∨m.Table≤i):bk Tryz.prog 107 [ai sb 0,aa .i64 i,Q8 254 sb] [lX sb X pb m num g t mv] (γ:=Unit) (fun _=>True) (fun _=>[lX sb X pb m num g t mv]) (fun _=>aa .i64 2):=by
 refine In 19 Tryz.func107 fun _ _ _=>?_;refine dH ?_;refine .n ((cE (h:=n7)).same (fun _ _=>aA.refl _) (fun _ _=>ag.refl _)) rfl fun _ _=>?_;refine Z3 ?_;refine CT fun c0=>?_;refine Z7 ?_;refine .UM rfl rfl rfl rfl (fun hg=>((wA (rest:=[]) (sZ (sb:=sb) (X:=X) (pb:=pb) (m:=m) (num:=num) (g:=g) (t:=t) (mv:=mv)) FB.out (.when (.t rfl) hg) (Perm.idx [0] rfl rfl)).same (fun _ _=>aA.refl _) (fun _ _=>ag.refl _)).same (fun _ _=>aA.refl _) (fun _ _=>ag.refl _)) rfl rfl ?_;refine Z5 ?_;refine CF fun c1=>?_;refine Z8 ?_;refine aX ?_;exact .z
theorem A3{i:Int}(aj:i<0∨m.Table≤i):bk Tryz.prog 197 [ai sb 0,aa .i64 i] [lX sb X pb m num g t mv] (γ:=Unit) (fun _=>True) (fun _=>[lX sb X pb m num g t mv]) (fun _=>aS [aa .i64 0,ak False,aa .i64 2]):=by
 refine In 43 Tryz.func197 fun _ _ _=>?_;refine jz ?_;refine .p (mj (.t rfl)) rfl ?_;refine .n ((cE (h:=Dz (sb:=sb) (X:=X) (pb:=pb) (m:=m) (num:=num) (g:=g) (t:=t) (mv:=mv) aj)).same (fun _ _=>aA.refl _) (fun _ _=>ag.refl _)) rfl fun _ _=>?_;refine Z9 ?_;refine Cd (fun c0=>?_) fun c0=>?_
 ·
  refine dH ?_;refine N8 ?_ ?_ ?_
  · exact .z
  · exact .z
  exact .z
 exact(c0 (by decide)).elim
theorem A4{g:Nat}(aj:i<m.aH.length)(aQ:cC X a)(bu:g+8*(i+1)≤X.size)(cZ:m.aH.length≤60000):bk Tryz.prog 145 [ai sb 0,aa .i64 (i:Int)] (lX sb X pb m num (g:Int) t mv::gy X a) (γ:=Unit) (fun _=>True) (fun _=>lX sb X pb m num (g:Int) t mv::gy X a) (fun _=>aS [aa .u64 (oI ((a.bytes.drop (g+8*i)).take 8):Int),aa .i64 0]):=by
 refine In 29 Tryz.func145 fun _ _ _=>?_;have hmo:=aQ.most;refine fW ?_;refine .p (mj (.t rfl)) rfl ?_;refine .n ((cE (h:=xq (sb:=sb) (X:=X) (pb:=pb) (m:=m) (num:=num) (g:=(g:Int)) (t:=t) (mv:=mv) (i:=(i:Int)) (by omega) (by omega))).same (fun _ _=>aA.refl _) (fun _ _=>ag.refl _)) rfl fun _ _=>?_;refine Z9 ?_;refine CT fun c0=>?_;refine Z3 ?_;refine .bF [(0,0),(1,0),(2,0),(3,1),(4,0),(5,0),(6,0),(7,1),(8,0),(9,0),(10,0),(11,4),(12,0),(13,0)] 14 2 FM.out (by kernel_rfl) (k:= ?_);refine dH ?_;refine .p rfl (fun _=>(gf (.t rfl) (.t rfl) bW).le (ag.int (show _=((g+8*i:Nat):Int) by omega))) ?_;refine .a rfl ((fU [_] [1,2,0] (h:=qx (at_:=g+8*i) (w:=8) aQ (by omega) (.inl rfl))).same (fun _ _=>aA.perm (Perm.idx [2,0,1] rfl rfl)) (fun _ _=>ag.refl _)) (fun _ _=>aA.refl _) fun _ _=>?_;refine Z2 ?_;refine .fin ?_;refine Z5 ?_;refine fj ?_ ?_
 · exact .z
 exact .z
end Go.Proofs.YtmacjbfbpjgmnaaGreatDoor
end
