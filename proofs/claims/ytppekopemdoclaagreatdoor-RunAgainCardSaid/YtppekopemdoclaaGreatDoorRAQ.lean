/-
  Parts of the proof.
-/
import Derived.Test.YtppekopemdoclaaGreatDoorRAP
set_option linter.all false
set_option maxRecDepth 1000000
set_option maxHeartbeats 4000000
section
namespace Go.Proofs.YtppekopemdoclaaGreatDoor
open Go.Hl Go.RowKit
theorem Qr{v:oY}{n:Nat}{l:List aj}{zY d base:Nat}{labs:List (List UInt8)}{res:List UInt8}{gs:SB}{hs:List Nat}(ak:l.length-zY<n)(aR:TI v l)(bO:zY<=l.length)(dO:base<=20*zY)(jE:hs.length<=zY)(sx:d<=64)(Ce:labs.length<=d+1)(DZ:∀w∈labs,w.length<=20)(QK:res.length<=20)(PL:oZ (λx:aj=>x.Code) (l.drop zY) d):bu Wo 79 [aC (fJ v),ai 5 aB (l),aC [af .i64 (zY:Int),af .i64 0,ag (bI gs hs.length)],af .i64 ((base:Int)),ai 1 an (res),ai 1 eI labs] [aH gs 1 fU hs] (γ:=Int×Int×SB×List Nat) (Zq v l zY labs res base hs) (λg=>[aH g.2.2.1 1 fU g.2.2.2]) (λg=>aC [af .i64 g.1,af .i64 g.2.1,ag (bI g.2.2.1 g.2.2.2.length)]):=by
 induction n generalizing zY d base labs res gs hs
 case zero=>omega
 rename_i n ih
 refine In 188 Tryz.func79 λ_ _ _=>?_;have O3:=aR.len;refine Z3 ?_;refine .n (cc (.t rfl)) rfl λb8 _=>?_;refine .n (au FZ.out) rfl λUi _=>?_;refine Z6 ?_;refine .n (au FZ.out) rfl λUm _=>?_;refine Z3 ?_;refine .own (aF.Ei (cs':=bq ([],False) (base:Int)) (.cons (aE 1 an) (.cons vo (.cons (.refl _) .nil)))) ?_;refine Z2 ?_;refine .bk (σ:=Nat×SB×List Nat×ee) (λz=>[az Um (bq z.2.2.2 (base:Int)),az Ui (List.map ag [.int .i64 0, .int .i64 0, .slice none 0 0]),az b8 [af .i64 (z.1:Int),af .i64 0,ag (bI z.2.1 (z.2.2.1).length)],aH z.2.1 1 fU (z.2.2.1)]) (λz=>[]) (λz=>zY<=z.1/\z.1<=l.length/\base+z.2.2.2.1.length<=20*z.1/\z.2.2.1.length<=z.1/\∃pre,z.2.2.1=hs++pre/\qN v l labs res base d zY ([],False) z.1 z.2.2.2 pre) (λz=>l.length-z.1) (zY,gs,hs,([],False)) ⟨Nat.le_refl _,bO,by simpa using dO,jE,[],by simp,qN.refl PL⟩ rfl ?_ ?_
 · exact(.refl _ _)
 rintro⟨i,gh,hh,s⟩ ⟨hai,Ca,hbs,hhl,pre,hpr,hrun⟩;simp only at hai Ca hbs hhl hpr hrun ⊢;refine cC ?_;refine Cd (λc0=>?_) λc0=>?_
 ·
  obtain⟨x,hx⟩:=ah (xs:=l) (k:=i) (by omega);have Mv:=aR.ins x (List.mem_of_getElem? hx);refine Z8 ?_;refine .p (cI i (h:=hx)) rfl ?_;refine Z1 ?_;refine .n (au FZ.out) rfl λb14 _=>?_;refine Z3 ?_;refine .share (t:=14) (i:=0) rfl rfl ?_;refine Z9 ?_;refine .p ((ez (.t rfl) (.t rfl) bY).le (aa.int (show(base:Int)+(s.1.length:Int)=((base+s.1.length:Nat):Int) by omega))) rfl ?_;refine .p (cB fU [base+s.1.length]) rfl ?_;refine .n (aK (i:=3) FU.out FU.out FC.out rfl FZ.out rfl FY.out (.t rfl) (.t rfl) rfl (by simp only[List.length_cons,List.length_nil];omega) (by simp only[List.length_cons,List.length_nil];omega)) rfl λwe _=>?_;refine Z22 ?_;refine Cd (λc1=>?_) λc1=>?_
  ·
   refine Z4 ?_;refine .n (cE (h:=cJ (s:=s) (l:=res) (by omega))) rfl λPW Y9=>?_;refine Z7 ?_;refine .cut (σ:=Int) (λ_=>[az Um (bq PW.1 (base:Int)),az Ui (List.map ag [.int .i64 0, .int .i64 0, .slice none 0 0]),az b8 [af .i64 (i:Int),af .i64 0,ag (bI we (hh++[base+s.1.length]).length)],aH we 1 fU (hh++[base+s.1.length])]) (λe=>[(15,af .i64 e)]) (λe=>e=0↔∃s',dD s res=some s'/\s'.1=[]) ?_ ?_
   ·
    refine eB ?_;refine Cd (λc2=>?_) λc2=>?_
    ·
     refine Z3 ?_;refine .meet 5 (Wp Y9 c2) rfl (.get rfl (aa.refl _) (.keep 9 rfl rfl))
    refine Z1 ?_;refine .meet PW.2 (Zs Y9 c2) rfl (.get rfl (aa.refl _) (.keep 8 rfl rfl))
   intro e he;refine Cn ?_;refine Post.aS rfl (((i:Int),e,we,hh++[base+s.1.length])) (by by_cases Qw:e=0;exact .inl ⟨Qw,pre++[base+s.1.length],i,rfl,hai,Ca,by(show(hh++[base+s.1.length]).length<=i+1;rw[List.length_append];simp only[List.length_cons,List.length_nil];omega),hrun.fin (Wn hx c1 (he.1 Qw)),by(show hh++[base+s.1.length]=_;rw[hpr,List.append_assoc])⟩;exact .inr ⟨Qw,hrun.none (Ma hx c1 (λh=>Qw (he.2 h)))⟩) (aF.cZ [3] [0,1,2] rfl rfl) (.ra (i:=1) FA.out FC.out rfl rfl rfl rfl) ?_;exact aa.refl _
  refine oA ?_;refine Cd (λc3=>?_) λc3=>?_
  ·
   refine Z6 ?_;refine .n (cE (h:=Jl (labs:=labs) ⟨aR.env,Mv,by omega,by omega,DZ⟩ (by omega))) rfl λg80 h80=>?_;refine ij ?_;refine Cd (λc4=>?_) λc4=>?_
   ·
    have hno:fZ v x s labs=none:=h80.1.elim (λh=>absurd h.1 c4) (λh=>h.2);refine J2 ?_;refine Post.aS rfl (((i:Int),g80.2,we,hh++[base+s.1.length])) (by exact .inr ⟨c4,hrun.none (FL hx c1 (by unfold aN;omega) hno)⟩) (aF.cZ [3] [0,1,2] rfl rfl) (.ra (i:=1) FA.out FC.out rfl rfl rfl rfl) ?_;exact aa.refl _
   have jg:fZ v x s labs=some g80.1:=h80.1.elim (λh=>h.2) (λh=>absurd h.1 c4);refine Z6 ?_;refine .p ((ez (.t rfl) (.c _) bY).le (aa.int (show(i:Int)+1=((i+1:Nat):Int) by omega))) rfl ?_;refine Z7 ?_;refine .round (i+1,we,hh++[base+s.1.length],g80.1) ⟨by show zY<=i+1;omega,by show i+1<=_;omega,by(show base+g80.1.1.length<=20*(i+1);have:=h80.2;omega),by(show(hh++[base+s.1.length]).length<=i+1;rw[List.length_append];simp only[List.length_cons,List.length_nil];omega),pre++[base+s.1.length],by(show hh++[base+s.1.length]=_;rw[hpr,List.append_assoc]),hrun.trans (qN.plain hrun.1 hx c1 (by unfold aN;omega) jg)⟩ (by show l.length-(i+1)<l.length-i;omega) rfl ?_;exact((.keep 55 rfl rfl))
  have hop:aN x.Code:=by unfold aN;omega
  have hin:=Zr hrun.1 hx hop;have hlw:∀w∈labs++[vY x],w.length<=20:=λw hw=>by(rcases List.mem_append.1 hw with h|h;exact DZ w h;(simp only[List.mem_singleton] at h;subst h;have:=Wm x;omega))
  refine Z2 ?_;refine .cut (σ:=ee) (λs1=>[az Um (bq s1 (base:Int)),az Ui (List.map ag [.int .i64 0, .int .i64 0, .slice none 0 0]),az b8 [af .i64 (i:Int),af .i64 0,ag (bI we (hh++[base+s.1.length]).length)],aH we 1 fU (hh++[base+s.1.length])]) (λs1=>[(15,fS)]) (λs1=>Xo x s (some s1)/\s1.1.length<=s.1.length) ?_ ?_
  ·
   refine Z7 ?_;refine Cd (λc5=>?_) λc5=>?_
   ·
    refine Z3 ?_;refine .p (cB an [127]) rfl ?_;refine .n (cE (h:=cJ (s:=s) (l:=[127]) (by omega))) rfl λg98 ZV=>?_;refine kL ?_;refine Cd (λc6=>?_) λc6=>?_
    ·
     refine Cn ?_;refine Post.aS rfl (((i:Int),g98.2,we,hh++[base+s.1.length])) (by exact .inr ⟨c6,hrun.none (FN hx hop ⟨λ_=>(ZV.no c6).symm,λh=>absurd c5 h⟩)⟩) (aF.cZ [3] [0,1,2] rfl rfl) (.ra (i:=1) FA.out FC.out rfl rfl rfl rfl) ?_;exact aa.refl _
    refine Z1 ?_;refine .meet g98.1 ⟨⟨λ_=>(ZV.ok (Classical.not_not.1 c6)).symm,λh=>absurd c5 h⟩,ZV.2⟩ rfl (.get rfl aa.any (.keep 12 rfl rfl))
   refine Z1 ?_;refine .meet s ⟨⟨λh=>absurd h c5,λ_=>rfl⟩,Nat.le_refl _⟩ rfl (.get rfl aa.any (.keep 3 rfl rfl))
  intro s1 ⟨ht4,hs1l⟩;refine Z6 ?_;refine .cut (σ:=Unit) (λ_=>[az Um (bq s1 (base:Int)),az Ui (List.map ag [.int .i64 0, .int .i64 0, .slice none 0 0]),az b8 [af .i64 (i:Int),af .i64 0,ag (bI we (hh++[base+s.1.length]).length)],aH we 1 fU (hh++[base+s.1.length])]) (λ_=>[(16,ai 1 an (eH x))]) (λ_=>True) ?_ ?_
  ·
   refine Z7 ?_;refine Cd (λc7=>?_) λc7=>?_
   ·
    refine Z3 ?_;refine .p ((cO FU.out FU.out (.t rfl)).le (aa.int (MU Mv.A0))) rfl ?_;refine .p (cB an [UInt8.ofNat x.A.toNat]) rfl ?_;refine Z2 ?_;refine .meet () trivial rfl (.get rfl (aa.of_eq (by rw[show eH x=[UInt8.ofNat x.A.toNat] from if_neg c7])) (.keep 8 rfl rfl))
   refine Z1 ?_;refine .meet () trivial rfl (.get rfl ((show eH x=[] from if_pos (Classical.not_not.1 c7))▸aE 1 an) (.keep 3 rfl rfl))
  intro _ _;refine .cut (σ:=Unit) (λ_=>[az Um (bq s1 (base:Int)),az Ui (List.map ag [.int .i64 0, .int .i64 0, .slice none 0 0]),az b8 [af .i64 (i:Int),af .i64 0,ag (bI we (hh++[base+s.1.length]).length)],aH we 1 fU (hh++[base+s.1.length])]) (λ_=>[(17,ai 1 an (vY x))]) (λ_=>True) ?_ ?_
  ·
   refine Z7 ?_;refine Cd (λc8=>?_) λc8=>?_
   ·
    refine Z4 ?_;refine .meet () trivial rfl (.get rfl (aa.of_eq (by rw[show vY x=eH x from if_neg c8])) (.keep 5 rfl rfl))
   refine Z1 ?_;refine .meet () trivial rfl (.get rfl ((show vY x=[] from if_pos (Classical.not_not.1 c8))▸aE 1 an) (.keep 3 rfl rfl))
  intro _ _;refine Z2 ?_;refine .n (dM eI ([]:List (List UInt8)) FU.out FC.out rfl FZ.out rfl .nil rfl rfl rfl rfl rfl) rfl λcf9 _=>?_;refine Z1 ?_;refine .n (aK (i:=0) FU.out FU.out FC.out rfl FZ.out rfl FY.out (.t rfl) (.t rfl) rfl (by simp<;>omega) (by simp<;>omega)) rfl λcg0 _=>?_;refine Z1 ?_;refine .p (cB eI [vY x]) rfl ?_;refine .n (gW.eC (G:=λg=>g) (l6:=λ_=>_) (xs:=λ_=>_) (aK (i:=0) FU.out FU.out FC.out rfl FZ.out rfl FY.out (.t rfl) (.t rfl) rfl (by simp<;>omega) (by simp<;>omega))) rfl λ_ _=>?_;refine Z7 ?_;refine .p ((ez (.t rfl) (.c _) bY).le (aa.int (show(i:Int)+1=((i+1:Nat):Int) by omega))) rfl ?_;refine ij ?_;refine .p ((ez (.t rfl) (.t rfl) bY).le (aa.int (show(base:Int)+(s1.1.length:Int)=((base+s1.1.length:Nat):Int) by omega))) rfl ?_;refine Z2 ?_;refine .n (hH [_,_,_] [3,0,1,2] (h:= @ih (i+1) (d+1) (base+s1.1.length) (labs++[vY x]) (eH x) we (hh++[base+s.1.length]) (by omega) (by omega) (by omega) (by rw[List.length_append];simp only[List.length_cons,List.length_nil];omega) (by omega) (by simp only[List.length_append,List.length_cons,List.length_nil];omega) hlw (by have:=xG x;omega) (hin.1))) rfl λak4 Wq=>?_;refine .s (dQ (i:=3) FC.out rfl (.t rfl) (.t rfl) rfl rfl rfl) ?_;refine cC ?_;refine Cd (λc9=>?_) λc9=>?_
  ·
   unfold Zq at Wq;have hno:=(Wq.resolve_left (λh=>c9 h.1)).2;refine eB ?_;refine Post.aS rfl (ak4) (by exact .inr ⟨c9,hrun.none (FO hx hop ht4 hno)⟩) (aF.cZ [0] [1,2,3] rfl rfl) (.ra (i:=2) FA.out FC.out rfl rfl rfl rfl) ?_;exact aa.refl _
  unfold Zq at Wq;obtain⟨cg1,cg2,gs2,hh2⟩:=ak4;obtain⟨Qw,h1,k,JC,hik,JN,hhk,Cl,hh1⟩:=Wq.resolve_right (λh=>c9 h.1);simp only at Qw JC hhk hh1;subst Qw;subst JC;obtain⟨x2,zM⟩:=TH hin.1 Cl;have DL:=(List.getElem?_eq_some_iff.1 zM).1;refine Z2 ?_;refine .cut (σ:=Nat×SB×List Nat) (λz=>[az Um (bq s1 (base:Int)),az Ui (List.map ag [.int .i64 0, .int .i64 0, .slice none 0 0]),az b8 [af .i64 (z.1:Int),af .i64 0,ag (bI z.2.1 (z.2.2).length)],aH z.2.1 1 fU (z.2.2)]) (λz=>[]) (λz=>i+1<=z.1/\z.1<l.length/\z.2.2.length<=z.1+1/\∃pp,z.2.2=(hh++[base+s.1.length])++pp/\qN v l labs res base d i s (z.1+1) (bG s1 (eH x)) ((base+s.1.length)::pp)) ?_ ?_
  ·
   refine Z5 ?_;refine .p (cI k (h:=zM)) rfl ?_;refine Z5 ?_;refine Cd (λlZ=>?_) λlZ=>?_
   ·
    refine Z4 ?_;refine .p ((ez (.t rfl) (.c _) bY).le (aa.int (show(k:Int)+1=((k+1:Nat):Int) by omega))) rfl ?_;refine Z1 ?_;refine .s (jf (i:=3) FC.out (.t rfl) (.t rfl) rfl rfl) ?_;refine eB ?_;refine .p ((ez (.t rfl) (.t rfl) bY).le (aa.int (show(base:Int)+(s1.1.length:Int)=((base+s1.1.length:Nat):Int) by omega))) rfl ?_;refine Z2 ?_;refine .n (cE (h:= @ih (k+1) (d+1) (base+s1.1.length) (labs++[vY x]) (eH x) gs2 (hh2) (by omega) (by omega) (by omega) (by omega) (by omega) (by simp only[List.length_append,List.length_cons,List.length_nil];omega) hlw (by have:=xG x;omega) (Jm hrun.1 hx hop Cl zM lZ))) rfl λak5 Wr=>?_;refine .s (dQ (i:=3) FC.out rfl (.t rfl) (.t rfl) rfl rfl rfl) ?_;refine Z9 ?_;refine Cd (λn8=>?_) λn8=>?_
    ·
     unfold Zq at Wr;have hno:=(Wr.resolve_left (λh=>n8 h.1)).2;refine eB ?_;refine Post.aS rfl (ak5) (by exact .inr ⟨n8,hrun.none (FV hx hop ht4 Cl zM lZ hno)⟩) (aF.cZ [0] [1,2,3] rfl rfl) (.ra (i:=2) FA.out FC.out rfl rfl rfl rfl) ?_;exact aa.refl _
    unfold Zq at Wr;obtain⟨cg3,cg4,gs3,hh3⟩:=ak5;obtain⟨ak6,h3,k2,ak7,cg5,cg6,ak8,Ts,hh3e⟩:=Wr.resolve_right (λh=>n8 h.1);simp only at ak6 ak7 ak8 hh3e;subst ak6;subst ak7;obtain⟨x3,hx3⟩:=TH (Jm hrun.1 hx hop Cl zM lZ) Ts;have v5:=(List.getElem?_eq_some_iff.1 hx3).1;refine Z1 ?_;refine .own (aF.perm (Perm.idx [1,2,3,0] rfl rfl)) (bS.meet (k2,gs3,hh3) ⟨by show i+1<=k2;omega,v5,ak8,h1++h3,by(show hh3=_;rw[hh3e,hh1,List.append_assoc]),FW hrun.1 hx hop ht4 Cl zM lZ Ts hx3⟩ rfl (.keep 26 rfl rfl))
   refine eB ?_;refine Cd (λqB=>?_) λqB=>?_
   ·
    refine Z3 ?_;refine .s (jf (i:=3) FC.out (.t rfl) (.c _) rfl rfl) ?_;refine ij ?_;refine Post.aS rfl (((k:Int),5,gs2,hh2)) (by exact .inr ⟨by show(5:Int)≠0;decide,hrun.none (FT hx hop ht4 Cl zM lZ ⟨qB.1,λh=>by have:=qB.2;rw[h] at this;simp at this⟩)⟩) (aF.cZ [0] [1,2,3] rfl rfl) (.ra (i:=2) FA.out FC.out rfl rfl rfl rfl) ?_;exact aa.refl _
   refine Z1 ?_;refine .own (aF.perm (Perm.idx [1,2,3,0] rfl rfl)) (bS.meet (k,gs2,hh2) ⟨by show i+1<=k;omega,DL,hhk,h1,hh1,FQ hrun.1 hx hop ht4 Cl zM lZ (λh=>qB ⟨h.1,by have:=List.length_pos_iff.2 h.2;omega⟩)⟩ rfl (.keep 15 rfl rfl))
  intro ⟨kz,gz,hz⟩ ⟨aO0,hkz,hzl,pp,hzp,hrz⟩;simp only at aO0 hkz hzl hzp hrz ⊢;refine Z4 ?_;refine .n (cE (h:=eK (s:=s1) (l:=eH x) (by omega) (by have:=xG x;omega))) rfl λcg7 cg8=>?_;refine Z6 ?_;refine .p ((ez (.t rfl) (.c _) bY).le (aa.int (show(kz:Int)+1=((kz+1:Nat):Int) by omega))) rfl ?_;refine Z4 ?_;refine .round (kz+1,gz,hz,bG s1 (eH x)) ⟨by show zY<=kz+1;omega,by show kz+1<=_;omega,by(show base+(s1.1++eH x).length<=20*(kz+1);rw[List.length_append];have:=xG x;omega),hzl,_,by(show hz=hs++_;rw[hzp,hpr,List.append_assoc,List.append_assoc];rfl),hrun.trans hrz⟩ (by show l.length-(kz+1)<l.length-i;omega) rfl ?_;exact((.keep 78 rfl rfl))
 refine eB ?_;refine Post.aS rfl (((i:Int),0,gh,hh)) (by exact .inl ⟨rfl,pre,i,rfl,hai,Ca,by(show hh.length<=i+1;omega),hrun.Wo (by omega),hpr⟩) (aF.cZ [3] [0,1,2] rfl rfl) (.ra (i:=1) FA.out FC.out rfl rfl rfl rfl) ?_;exact aa.refl _
end Go.Proofs.YtppekopemdoclaaGreatDoor
end
section
namespace Go.Hl
open Go.RowKit
def Mb(m:aT)(a b c d e p r l:VP):List VP:=[a,b,c,d,e,av (0<=m.Table),p,r,l]
instance {m:aT} {a b c d e p r l:VP} [Flat a] [Flat b] [Flat c] [Flat d] [Flat e] [Flat p] [Flat r] [Flat l]:bD (Mb m a b c d e p r l):=by unfold Mb;infer_instance
instance (s:mj):bD (bW s):=by unfold bW;infer_instance
def ak9(v:oY)(b:j8)(g:Int×Int×List Nat):Prop:=
 (g.2.1=0/\∃rest,vX v b.L [v.dR.R] v.dR.R ([],False) 0=some (g.2.2,rest))\/(g.2.1≠0/\vX v b.L [v.dR.R] v.dR.R ([],False) 0=none/\g.2.2=[])
variable {m:aT}
theorem Zt{z:jt}(h:iq m z=0):kE z.fW m.bQ.length:=by
 unfold iq at h
 split at h
 · cases h
 · exact Classical.not_not.1 ((cW (by decide)).1 h)
theorem dB.imp(h:dB m){z:jt}(hz:z∈m.ay):kE z.fW m.bQ.length:=Zt (fM.1 (bT.1 h.imports).2 z hz)
variable {f:cn}
theorem al0(h:dB m)(ho:fV m)(hf:f∈m.aq):L6 (bR m f):=by
 have hl:=h.lens;have hs:=(gL (jO h hf)).2;have h1:=ho.loc f hf;have h2:=h.Co _ hs;have hc:=hl.2.2.2.2;unfold dc at hc;refine⟨?_,?_,?_,?_,?_,?_,?_,?_,?_⟩
 · simp[bR];omega
 · simp[bR];omega
 · simp[bR];omega
 · simp[bR];omega
 · simp[bR];omega
 · simp[bR]
 · intro g hg
   simp only[bR,List.mem_append,List.mem_map] at hg;rcases hg with⟨z,hz,rfl⟩|⟨z,hz,rfl⟩
   · exact h.Co _ (gL (h.imp hz)).2
   · exact h.Co _ (gL (jO h hz)).2
 · intro g hg;exact h.Co g hg
 · exact h2.2
theorem al1(h:dB m)(ho:fV m)(hf:f∈m.aq)(he:nI f.Body):TI (bR m f) f.Body.L:=⟨al0 h ho hf,λx hx=> .of (ho.ins f hf x hx) (he.1 x hx),ho.len f hf⟩
theorem TJ(h:nI f.Body):oZ (λx:aj=>x.Code) f.Body.L 0:=⟨[11],(x6 (by simp)).1 h.2.2.2.1,by simp⟩
theorem Jn(he:nI f.Body){g:Int×Int×List Nat}(h:ak9 (bR m f) f.Body g):(g.2.1=0/\cN m f=some g.2.2)\/(g.2.1≠0/\¬rA m f/\g.2.2=[]):=by
 have hd:=Ey (m:=m) (f:=f) (k:=f.Body.L.length+1) he (by omega);have ZJ:cN m f=(vX (bR m f) f.Body.L [(bR m f).dR.R] (bR m f).dR.R ([],False) 0).map Prod.fst:=hd;rcases h with⟨h1,rest,h2⟩|⟨h1,h2,h3⟩
 · exact .inl ⟨h1,by rw[ZJ,h2];rfl⟩
 · exact .inr ⟨h1,λ⟨_,hs,hh⟩=>(by rw[ZJ,h2] at hh;cases hh),h3⟩
def Zu(m:aT)(f:cn)(g:Int×Int×List Nat):Prop:=(g.2.1=0/\dB m/\nI f.Body/\cN m f=some g.2.2)\/(g.2.1≠0/\¬(dB m/\rA m f))
theorem Zu.iff{g:Int×Int×List Nat}(h:Zu m f g):g.2.1=0↔dB m/\rA m f:=by
 rcases h with⟨h1,h2,h3,h4⟩|⟨h1,h2⟩
 · exact⟨λ_=>⟨h2,h3,_,h4⟩,λ_=>h1⟩
 · exact⟨λh=>absurd h h1,λh=>absurd h h2⟩
end Go.Hl
end
section
namespace Go.Proofs.YtppekopemdoclaaGreatDoor
open Go.Hl Go.RowKit
theorem Jo{v:oY}{b:j8}(ak:TI v b.L)(aR:oZ (λx:aj=>x.Code) b.L 0):bu Wo 40 [aC (fJ v),aC (iT b)] [] (γ:=Int×Int×List Nat) (ak9 v b) (λ_=>[]) (λg=>aC [af .i64 g.1,af .i64 g.2.1,ai 1 fU g.2.2]):=by
 refine In 24 Tryz.func40 λ_ _ _=>?_;refine Z4 ?_;refine .n (au FZ.out) rfl λb4 _=>?_;refine Z3 ?_;refine .fO 1 fU ?_;refine dh ?_;refine .p (cB eI [v.dR.R]) rfl ?_;refine .n (cE (h:=Qr (n:=b.L.length+1) (zY:=0) (d:=0) (base:=0) (labs:=[v.dR.R]) (res:=v.dR.R) (gs:=none) (hs:=[]) (by omega) ak (Nat.zero_le _) (Nat.le_refl _) (Nat.le_refl _) (by omega) (by simp) (by simpa using ak.env.own) ak.env.own aR)) rfl λBv v9=>?_;refine .n (au FZ.out) rfl λb5 _=>?_;refine dh ?_;refine Cd (λc0=>?_) λc0=>?_
 ·
  unfold Zq at v9;obtain⟨h0,h1,k,_,_,_,_,hb,hh⟩:=v9.resolve_right (λh=>h.1 c0);simp only[List.nil_append] at hh;refine Z5 ?_;refine .jX (i:=1) (j:=0) (f:=2) rfl rfl rfl ?_;refine Z7 ?_;refine Post.aS rfl ((0,Bv.2.1,Bv.2.2.2)) (by exact .inl ⟨h0,_,by(show vX v b.L [v.dR.R] v.dR.R ([],False) 0=some (Bv.2.2.2,_);rw[hh];exact hb)⟩) (aF.cZ [] [0,1] rfl rfl) (.ra (i:=1) FA.out FC.out rfl rfl rfl rfl) ?_;exact aa.refl _
 unfold Zq at v9;have hno:=(v9.resolve_left (λh=>c0 h.1)).2;refine eB ?_;refine Post.aS rfl ((Bv.1,Bv.2.1,[])) (by exact .inr ⟨c0,hno,rfl⟩) (aF.cZ [] [0,1,2] rfl rfl) (.ra (i:=2) FA.out FC.out rfl rfl rfl rfl) ?_;exact aa.agg (.cons (aa.refl _) (.cons (aa.refl _) (.cons (aE 1 fU) .nil)))
variable {m:aT}
theorem Qs{f:cn}{i:Nat}(ak:dB m)(aR:fV m)(bO:m.aq[i]?=some f):bu Wo 41 [aC (bp m),af .i64 ((i:Int))] [] (γ:=Unit) (λ_=>True) (λ_=>[]) (λ_=>aC (fJ (bR m f))):=by
 refine In 157 Tryz.func41 λ_ _ _=>?_;have rZ:f∈m.aq:=List.mem_of_getElem? bO;have hlens:=ak.lens;have ZT:(m.ay.length:Int)+(m.aq.length:Int)<=100:=hlens.2.2.2.2;have Qx:=gL (jO ak rZ);have aO1:=jO ak rZ;unfold kE at aO1;have hlo:=aR.loc f rZ;have hfw:=ak.Co _ Qx.2;refine Z3 ?_;refine .n (au FZ.out) rfl λb4 _=>?_;refine Z8 ?_;refine .n (au FZ.out) rfl λb5 _=>?_;refine cC ?_;refine .fO 2 bW ?_;refine .bk (σ:=Nat×SB) (λs=>[aH s.2 2 bW (m.bQ.take s.1),az b5 (Mb m (ag (.slice none 0 0)) (ag (bI s.2 (m.bQ.take s.1).length)) (ag (.slice none 0 0)) (ag (.slice none 0 0)) (ag (.slice none 0 0)) (ag (.slice none 0 0)) (ag (.slice none 0 0)) (ag (.slice none 0 0))),az b4 (List.map ag [.slice none 0 0, .slice none 0 0, .slice none 0 0, .slice none 0 0, .slice none 0 0, .bool false, .slice none 0 0, .slice none 0 0, .slice none 0 0])]) (λs=>[(6,af .i64 (s.1:Int))]) (λs=>s.1<=m.bQ.length) (λs=>m.bQ.length-s.1) (0,none) (Nat.zero_le _) rfl ?_ ?_
 · exact(.get rfl (aa.refl _) (.refl _ _))
 rintro⟨k0,q0⟩ JC;simp only at JC ⊢;refine cC ?_;refine Cd (λc0=>?_) λc0=>?_
 ·
  obtain⟨y,hx⟩:=ah (xs:=m.bQ) (k:=k0) (by omega);refine Z4 ?_;refine .bt [(0,0),(1,1),(2,0),(3,0),(4,0),(5,0),(6,0),(7,0),(8,0),(9,0),(10,0),(11,0),(12,0),(13,0),(14,0),(15,0)] 16 3 FM.out (by kernel_rfl) (k:= ?_);refine Z5 ?_;refine .p rfl (λ_=>aW (j:=k0) FU.out FC.out rfl (.t rfl) (.t rfl) rfl hx) ?_;refine Z5 ?_;refine .p rfl (λ_=>aW (j:=k0) FU.out FC.out rfl (.t rfl) (.t rfl) rfl hx) ?_;refine Z3 ?_;refine .p rfl (λ_=>bC (enc:=bW) [y] FU.out FC.out rfl FZ.out rfl (.cons (.t rfl) .nil) rfl rfl rfl rfl rfl) ?_;refine .fin ?_;refine .n (aK (i:=0) FU.out FU.out FC.out rfl FZ.out rfl FY.out (.t rfl) (.t rfl) rfl (by simp<;>omega) (by simp<;>omega)) rfl λUc _=>?_;refine cC ?_;refine .round (k0+1,Uc) (by show k0+1<=_;omega) (by show m.bQ.length-(k0+1)<m.bQ.length-k0;omega) (by simp only[<-bE hx,List.map_append,List.map_cons,List.map_nil,List.append_assoc];rfl) ?_;exact(.get rfl (aa.int (by show(_:Int)=((k0+1:Nat):Int);omega)) ((.keep 27 rfl rfl)))
 have al2:m.bQ.take k0=m.bQ:=List.take_of_length_le (by omega);rw[al2];refine .jX (n:=2) (enc:=bW) (i:=0) (j:=0) (f:=1) rfl rfl rfl ?_;refine eB ?_;refine .fO 2 bW ?_;refine .bk (σ:=Nat×SB) (λs=>[aH s.2 2 bW ((m.ay.take s.1).map λz=>bJ m z.fW),az b5 (Mb m (ag (bI s.2 (((m.ay.take s.1).map λz=>bJ m z.fW)).length)) (ai 2 bW m.bQ) (ag (.slice none 0 0)) (ag (.slice none 0 0)) (ag (.slice none 0 0)) (ag (.slice none 0 0)) (ag (.slice none 0 0)) (ag (.slice none 0 0))),az b4 (List.map ag [.slice none 0 0, .slice none 0 0, .slice none 0 0, .slice none 0 0, .slice none 0 0, .bool false, .slice none 0 0, .slice none 0 0, .slice none 0 0])]) (λs=>[(7,af .i64 (s.1:Int))]) (λs=>s.1<=m.ay.length) (λs=>m.ay.length-s.1) (0,none) (Nat.zero_le _) rfl ?_ ?_
 · exact(.get rfl (aa.refl _) (.refl _ _))
 rintro⟨k1,q1⟩ u5;simp only at u5 ⊢;refine cC ?_;refine Cd (λc1=>?_) λc1=>?_
 ·
  obtain⟨y,hx⟩:=ah (xs:=m.ay) (k:=k1) (by omega);have hyi:=ak.imp (List.mem_of_getElem? hx);have hys:=(gL hyi).1;unfold kE at hyi;refine Z4 ?_;refine .bt [(0,0),(1,1),(2,0),(3,1),(4,0),(5,0),(6,0),(7,0),(8,0),(9,0),(10,0),(11,0),(12,0)] 13 3 FM.out (by kernel_rfl) (k:= ?_);refine Z7 ?_;refine .p rfl (λ_=>aW (j:=k1) FU.out FC.out rfl (.t rfl) (.t rfl) rfl hx) ?_;refine Z2 ?_;refine .p rfl (λ_=>aW (j:=y.fW.toNat) FU.out FC.out rfl (.t rfl) (.t rfl) (by omega) hys) ?_;refine Z1 ?_;refine .p rfl (λ_=>bC (enc:=bW) [bJ m y.fW] FU.out FC.out rfl FZ.out rfl (.cons (.t rfl) .nil) rfl rfl rfl rfl rfl) ?_;refine .fin ?_;refine .n (aK (i:=0) FU.out FU.out FC.out rfl FZ.out rfl FY.out (.t rfl) (.t rfl) rfl (by simp<;>omega) (by simp<;>omega)) rfl λY4 _=>?_;refine cC ?_;refine .round (k1+1,Y4) (by show k1+1<=_;omega) (by show m.ay.length-(k1+1)<m.ay.length-k1;omega) (by simp only[<-bE hx,List.map_append,List.map_cons,List.map_nil,List.append_assoc];rfl) ?_;exact(.get rfl (aa.int (by show(_:Int)=((k1+1:Nat):Int);omega)) ((.keep 24 rfl rfl)))
 have TE:m.ay.take k1=m.ay:=List.take_of_length_le (by omega);rw[TE];refine eB ?_;refine .bk (σ:=Nat×SB) (λs=>[aH s.2 2 bW ((m.ay.map λz=>bJ m z.fW)++((m.aq.take s.1).map λz=>bJ m z.fW)),az b5 (Mb m (ag (bI s.2 ((m.ay.map λz=>bJ m z.fW)++((m.aq.take s.1).map λz=>bJ m z.fW)).length)) (ai 2 bW m.bQ) (ag (.slice none 0 0)) (ag (.slice none 0 0)) (ag (.slice none 0 0)) (ag (.slice none 0 0)) (ag (.slice none 0 0)) (ag (.slice none 0 0))),az b4 (List.map ag [.slice none 0 0, .slice none 0 0, .slice none 0 0, .slice none 0 0, .slice none 0 0, .bool false, .slice none 0 0, .slice none 0 0, .slice none 0 0])]) (λs=>[(8,af .i64 (s.1:Int))]) (λs=>s.1<=m.aq.length) (λs=>m.aq.length-s.1) (0,q1) (Nat.zero_le _) (by simp only[List.take_zero,List.map_nil,List.append_nil]) ?_ ?_
 · exact(.get rfl (aa.refl _) (.refl _ _))
 rintro⟨k2,q2⟩ hk2;simp only at hk2 ⊢;refine cC ?_;refine Cd (λc2=>?_) λc2=>?_
 ·
  obtain⟨y,hx⟩:=ah (xs:=m.aq) (k:=k2) (by omega);have hyi:=jO ak (List.mem_of_getElem? hx);have hys:=(gL hyi).1;unfold kE at hyi;refine Z4 ?_;refine .bt [(0,0),(1,1),(2,0),(3,1),(4,0),(5,0),(6,0),(7,0),(8,0),(9,0),(10,0),(11,0),(12,0)] 13 3 FM.out (by kernel_rfl) (k:= ?_);refine Z7 ?_;refine .p rfl (λ_=>aW (j:=k2) FU.out FC.out rfl (.t rfl) (.t rfl) rfl hx) ?_;refine Z2 ?_;refine .p rfl (λ_=>aW (j:=y.fW.toNat) FU.out FC.out rfl (.t rfl) (.t rfl) (by omega) hys) ?_;refine Z1 ?_;refine .p rfl (λ_=>bC (enc:=bW) [bJ m y.fW] FU.out FC.out rfl FZ.out rfl (.cons (.t rfl) .nil) rfl rfl rfl rfl rfl) ?_;refine .fin ?_;refine .n (aK (i:=0) FU.out FU.out FC.out rfl FZ.out rfl FY.out (.t rfl) (.t rfl) rfl (by simp<;>omega) (by simp<;>omega)) rfl λYW _=>?_;refine cC ?_;refine .round (k2+1,YW) (by show k2+1<=_;omega) (by show m.aq.length-(k2+1)<m.aq.length-k2;omega) (by simp only[<-bE hx,List.map_append,List.map_cons,List.map_nil,List.append_assoc];rfl) ?_;exact(.get rfl (aa.int (by show(_:Int)=((k2+1:Nat):Int);omega)) ((.keep 24 rfl rfl)))
 have so:m.aq.take k2=m.aq:=List.take_of_length_le (by omega);rw[so];refine .jX (n:=2) (enc:=bW) (i:=0) (j:=0) (f:=0) rfl rfl rfl ?_;refine eB ?_;refine .fO 1 qM ?_;refine .bk (σ:=Nat×SB) (λs=>[aH s.2 1 qM ((m.cP.take s.1).map λz=>z.cj),az b5 (Mb m (ai 2 bW ((m.ay.map λz=>bJ m z.fW)++(m.aq.map λz=>bJ m z.fW))) (ai 2 bW m.bQ) (ag (bI s.2 (((m.cP.take s.1).map λz=>z.cj)).length)) (ag (.slice none 0 0)) (ag (.slice none 0 0)) (ag (.slice none 0 0)) (ag (.slice none 0 0)) (ag (.slice none 0 0))),az b4 (List.map ag [.slice none 0 0, .slice none 0 0, .slice none 0 0, .slice none 0 0, .slice none 0 0, .bool false, .slice none 0 0, .slice none 0 0, .slice none 0 0])]) (λs=>[(9,af .i64 (s.1:Int))]) (λs=>s.1<=m.cP.length) (λs=>m.cP.length-s.1) (0,none) (Nat.zero_le _) rfl ?_ ?_
 · exact(.get rfl (aa.refl _) (.refl _ _))
 rintro⟨k3,q3⟩ DL;simp only at DL ⊢;refine cC ?_;refine Cd (λc3=>?_) λc3=>?_
 ·
  obtain⟨y,hx⟩:=ah (xs:=m.cP) (k:=k3) (by omega);refine Z4 ?_;refine .bt [(0,0),(1,1),(2,0),(3,0),(4,0),(5,0),(6,0),(7,0),(8,0)] 9 3 FM.out (by kernel_rfl) (k:= ?_);refine Z5 ?_;refine .p rfl (λ_=>aW (j:=k3) FU.out FC.out rfl (.t rfl) (.t rfl) rfl hx) ?_;refine Z2 ?_;refine .p rfl (λ_=>bC (enc:=qM) [y.cj] FU.out FC.out rfl FZ.out rfl (.cons (.t rfl) .nil) rfl rfl rfl rfl rfl) ?_;refine .fin ?_;refine .n (aK (i:=0) FU.out FU.out FC.out rfl FZ.out rfl FY.out (.t rfl) (.t rfl) rfl (by simp<;>omega) (by simp<;>omega)) rfl λal3 _=>?_;refine cC ?_;refine .round (k3+1,al3) (by show k3+1<=_;omega) (by show m.cP.length-(k3+1)<m.cP.length-k3;omega) (by simp only[<-bE hx,List.map_append,List.map_cons,List.map_nil,List.append_assoc];rfl) ?_;exact(.get rfl (aa.int (by show(_:Int)=((k3+1:Nat):Int);omega)) ((.keep 20 rfl rfl)))
 have al4:m.cP.take k3=m.cP:=List.take_of_length_le (by omega);rw[al4];refine .jX (n:=1) (enc:=qM) (i:=0) (j:=0) (f:=2) rfl rfl rfl ?_;refine eB ?_;refine .fO 1 qM ?_;refine .fO 1 an ?_;refine .bk (σ:=Nat×SB×SB) (λs=>[aH s.2.1 1 an ((m.aA.take s.1).map λz=>z.Ty),aH s.2.2 1 qM ((m.aA.take s.1).map λz=>z.eu),az b5 (Mb m (ai 2 bW ((m.ay.map λz=>bJ m z.fW)++(m.aq.map λz=>bJ m z.fW))) (ai 2 bW m.bQ) (ai 1 qM (m.cP.map λz=>z.cj)) (ag (bI s.2.1 (((m.aA.take s.1).map λz=>z.Ty)).length)) (ag (bI s.2.2 (((m.aA.take s.1).map λz=>z.eu)).length)) (ag (.slice none 0 0)) (ag (.slice none 0 0)) (ag (.slice none 0 0))),az b4 (List.map ag [.slice none 0 0, .slice none 0 0, .slice none 0 0, .slice none 0 0, .slice none 0 0, .bool false, .slice none 0 0, .slice none 0 0, .slice none 0 0])]) (λs=>[(10,af .i64 (s.1:Int))]) (λs=>s.1<=m.aA.length) (λs=>m.aA.length-s.1) (0,none,none) (Nat.zero_le _) rfl ?_ ?_
 · exact(.get rfl (aa.refl _) (.refl _ _))
 rintro⟨k4,q4,q5⟩ v5;simp only at v5 ⊢;refine cC ?_;refine Cd (λc4=>?_) λc4=>?_
 ·
  obtain⟨y,hx⟩:=ah (xs:=m.aA) (k:=k4) (by omega);refine Z5 ?_;refine .bt [(0,0),(1,1),(2,0),(3,0),(4,0),(5,0),(6,0),(7,0),(8,0)] 9 3 FM.out (by kernel_rfl) (k:= ?_);refine Z5 ?_;refine .p rfl (λ_=>aW (j:=k4) FU.out FC.out rfl (.t rfl) (.t rfl) rfl hx) ?_;refine Z2 ?_;refine .p rfl (λ_=>bC (enc:=an) [y.Ty] FU.out FC.out rfl FZ.out rfl (.cons (.t rfl) .nil) rfl rfl rfl rfl rfl) ?_;refine .fin ?_;refine .n (aK (i:=0) FU.out FU.out FC.out rfl FZ.out rfl FY.out (.t rfl) (.t rfl) rfl (by simp<;>omega) (by simp<;>omega)) rfl λaO2 _=>?_;refine Z4 ?_;refine .bt [(0,0),(1,1),(2,0),(3,0),(4,0),(5,0),(6,0),(7,0),(8,0)] 9 3 FM.out (by kernel_rfl) (k:= ?_);refine Z5 ?_;refine .p rfl (λ_=>aW (j:=k4) FU.out FC.out rfl (.t rfl) (.t rfl) rfl hx) ?_;refine Z2 ?_;refine .p rfl (λ_=>bC (enc:=qM) [y.eu] FU.out FC.out rfl FZ.out rfl (.cons (.t rfl) .nil) rfl rfl rfl rfl rfl) ?_;refine .fin ?_;refine .n (aK (i:=1) FU.out FU.out FC.out rfl FZ.out rfl FY.out (.t rfl) (.t rfl) rfl (by simp<;>omega) (by simp<;>omega)) rfl λaO3 _=>?_;refine cC ?_;refine .round (k4+1,aO2,aO3) (by show k4+1<=_;omega) (by show m.aA.length-(k4+1)<m.aA.length-k4;omega) (by simp only[<-bE hx,List.map_append,List.map_cons,List.map_nil,List.append_assoc];rfl) ?_;exact(.get rfl (aa.int (by show(_:Int)=((k4+1:Nat):Int);omega)) ((.keep 31 rfl rfl)))
 have al5:m.aA.take k4=m.aA:=List.take_of_length_le (by omega);rw[al5];refine .jX (n:=1) (enc:=an) (i:=0) (j:=1) (f:=3) rfl rfl rfl ?_;refine .jX (n:=1) (enc:=qM) (i:=0) (j:=0) (f:=4) rfl rfl rfl ?_;refine Z6 ?_;refine .bL 8 4 FM.out (by kernel_rfl) (k:= ?_);refine Z5 ?_;refine .p (cI i (h:=bO)) ?_;refine Z3 ?_;refine .p (cI f.fW.toNat (h:=Qx.1)) rfl ?_;refine Z6 ?_;refine .bt [(1,0),(2,0),(3,1),(5,0),(6,0),(7,0),(8,0),(9,0),(10,0),(11,0),(0,4),(4,2)] 12 3 FM.out (by kernel_rfl) (k:= ?_);refine Z6 ?_;refine .p rfl (λ_=>aW (j:=i) FU.out FC.out rfl (.t rfl) (.t rfl) rfl bO) ?_;refine Z3 ?_;refine .a rfl (dM an ([]:List UInt8) FU.out FC.out rfl FZ.out rfl .nil rfl rfl rfl rfl rfl) (λ_ _=>aF.drop (aF.refl _)) λcg9 _=>?_;refine .e rfl (aK (i:=0) FU.out FU.out FC.out rfl FZ.out rfl FY.out (.t rfl) (.t rfl) rfl (by simp<;>omega) (by simp<;>omega)) λaN5 _=>?_;refine .fin ?_;refine .n (gW.eC (G:=λg=>g) (l6:=λ_=>_) (xs:=λ_=>_) (aK (i:=0) FU.out FU.out FC.out rfl FZ.out rfl FY.out (.t rfl) (.t rfl) rfl (by simp<;>omega) (by simp<;>omega))) rfl λ_ _=>?_;refine dh ?_;refine Post.aS rfl (()) (by trivial) (aF.cZ [] [0,1] rfl rfl) (.ra (i:=1) FA.out FC.out rfl rfl rfl rfl) ?_;exact aa.refl _
theorem Jp{x:aT}{n:Int}{s:mj}(ak:eY x n=some s):dF Wo 38 [aC (bp x),af .i64 n] (aC (bW s)):=by
 refine In 34 Tryz.func38 λ_ _ _=>?_;refine .fact (t:=0) rfl (λS w v h=>sX h) λhlen=>?_;have hall:=hlen;obtain⟨⟨Ci,kR,lD,m8,m9,nc,nk,nq⟩,⟨QJ,hi1,hi2,hi3,hi4⟩,hi5⟩:=hlen;refine Z3 ?_;refine .n (au FZ.out) rfl λb4 _=>?_;refine eB ?_;refine Cd (λc0=>?_) λc0=>?_
 ·
  obtain⟨y,hy1,Tj,Y0,hy4⟩:=AE ak c0;refine Z1 ?_;refine .bL 8 3 FM.out (by kernel_rfl) (k:= ?_);refine Z5 ?_;refine .p (cI n.toNat (h:=hy1) (hi:=Y0)) ?_;refine Z3 ?_;refine .p (cI y.fW.toNat (h:=Tj) (hi:=hy4)) rfl ?_;refine Z6 ?_;refine Post.aS rfl () trivial (λ_ _ _ _=>trivial) (.ra (i:=0) FA.out FC.out rfl rfl rfl rfl) ?_;exact .z
 obtain⟨y,hy1,Tj,Y0,hy4,hy5⟩:=GM ak c0;unfold dc at hy5;refine Z3 ?_;refine .bL 12 3 FM.out (by kernel_rfl) (k:= ?_);refine Z9 ?_;refine .p (cI ((n-(x.ay.length:Int)).toNat) (h:=hy1) (hi:=Y0)) ?_;refine Z3 ?_;refine .p (cI y.fW.toNat (h:=Tj) (hi:=hy4)) rfl ?_;refine Z5 ?_;refine Post.aS rfl () trivial (λ_ _ _ _=>trivial) (.ra (i:=0) FA.out FC.out rfl rfl rfl rfl) ?_;exact .z
theorem zh{x:aT}:dF Wo 15 [aC (bp x)] (aZ [fS,exV (λn:Int=>n=0↔dB x) (af .i64)]):=by
 refine In 393 Tryz.func15 λ_ _ _=>?_;refine .fact (t:=0) rfl (λS w v h=>sX h) λhlen=>?_;have hall:=hlen;obtain⟨⟨Ci,kR,lD,m8,m9,nc,nk,nq⟩,⟨QJ,hi1,hi2,hi3,hi4⟩,hi5⟩:=hlen;refine Z3 ?_;refine .p (bf (.s [] rfl rfl)) rfl ?_;refine Z24 ?_;refine Cd (λc0=>?_) λc0=>?_
 ·
  refine Z2 ?_;refine .p (bf (.s [115,105,103,115] rfl rfl)) rfl ?_;refine Z5 ?_;refine eA ?_ ?_
  · exact aa.any
  exact aa.ex _ ⟨λh=>absurd h (by decide),λh=>by(exfalso;have hL:=dw h;have kR:=hL.sigs;have lD:=hL.imports;have m8:=hL.funcs;have m9:=hL.eE;have nc:=hL.globals;have nk:=hL.bg;have nq:=hL.elems;have oQ:=hL.cu;have zi:=hL.table;omega)⟩ (aa.refl _)
 refine Z9 ?_;refine .bk (σ:=Nat) (λ_=>[]) (λka=>[(5,af .i64 (ka:Int))]) (λka=>ka<=x.bQ.length/\dJ (λz:mj=>J7 z≠0) x.bQ ka) (λka=>x.bQ.length-ka) 0 ⟨by omega,dJ.zero _ _⟩ rfl ?_ ?_
 · exact(.get rfl (aa.refl _) (.refl _ _))
 rintro ka ⟨u5,BW⟩;refine cC ?_;refine Cd (λc1=>?_) λc1=>?_
 ·
  obtain⟨z,hz⟩:=ah (xs:=x.bQ) (k:=ka) (by omega);refine Z9 ?_;refine .p (cI _) rfl ?_;refine Z2 ?_;refine .p (cA (h:=Bq)) rfl ?_;refine Z5 ?_;refine .g (de.gF rfl rfl rfl rfl (λhg=>aW FU.out FC.out rfl (.when (.t rfl) hg) (.when (.t rfl) hg) rfl (by assumption))) rfl rfl ?_;refine Z2 ?_;refine .g (de.gF rfl rfl rfl rfl (λhg=>cg (Bq) FB.out (.cons (.when (.t rfl) hg) .nil))) rfl rfl ?_;refine Z4 ?_;refine Cd (λc2=>?_) λc2=>?_
  ·
   refine Z2 ?_;refine .p (bf (.s [115,105,103,115] rfl rfl)) rfl ?_;refine Z9 ?_;refine eA ?_ ?_
   · exact aa.any
   exact aa.ex _ ⟨λh=>absurd h (by decide),λh=>by(exfalso;have hL:=dw h;have kR:=hL.sigs;have lD:=hL.imports;have m8:=hL.funcs;have m9:=hL.eE;have nc:=hL.globals;have nk:=hL.bg;have nq:=hL.elems;have oQ:=hL.cu;have zi:=hL.table;have h9:=Yc h (List.mem_of_getElem? hz);rcases c2 with c|c;exact c h9.1;exact c h9.2)⟩ (aa.refl _)
  refine Z8 ?_;refine .round (ka+1) ⟨by omega,BW.succ hz (not_not_intro (UO (by simpa using c2)))⟩ (by omega) rfl ?_;exact(.get rfl (aa.int (by omega)) (.keep 27 rfl rfl))
 have fa:Dn x=0:=ug (by omega) BW (by omega);refine ij ?_;refine Cd (λc3=>?_) λc3=>?_
 ·
  refine Z2 ?_;refine .p (bf (.s [105,109,112,111,114,116,115] rfl rfl)) rfl ?_;refine Z5 ?_;refine eA ?_ ?_
  · exact aa.any
  exact aa.ex _ ⟨λh=>absurd h (by decide),λh=>by(exfalso;have hL:=dw h;have kR:=hL.sigs;have lD:=hL.imports;have m8:=hL.funcs;have m9:=hL.eE;have nc:=hL.globals;have nk:=hL.bg;have nq:=hL.elems;have oQ:=hL.cu;have zi:=hL.table;omega)⟩ (aa.refl _)
 refine Z9 ?_;refine .bk (σ:=Nat) (λ_=>[]) (λkb=>[(6,af .i64 (kb:Int))]) (λkb=>kb<=x.ay.length/\dJ (λz:jt=>iq x z≠0) x.ay kb) (λkb=>x.ay.length-kb) 0 ⟨by omega,dJ.zero _ _⟩ rfl ?_ ?_
 · exact(.get rfl (aa.refl _) (.refl _ _))
 rintro kb ⟨v5,hn4⟩;refine cC ?_;refine Cd (λc4=>?_) λc4=>?_
 ·
  obtain⟨z,hz⟩:=ah (xs:=x.ay) (k:=kb) (by omega);refine cC ?_;refine .p (cI _) rfl ?_;refine Z2 ?_;refine .p (cA (h:=tw)) rfl ?_;refine Z5 ?_;refine .g (de.gF rfl rfl rfl rfl (λhg=>aW FU.out FC.out rfl (.when (.t rfl) hg) (.when (.t rfl) hg) rfl (by assumption))) rfl rfl ?_;refine Z2 ?_;refine .g (de.gF rfl rfl rfl rfl (λhg=>cg (tw) FB.out (.cons (.when (.t rfl) hg) .nil))) rfl rfl ?_;refine Z4 ?_;refine Cd (λc5=>?_) λc5=>?_
  ·
   refine Z2 ?_;refine .p (bf (.s [105,109,112,111,114,116,115] rfl rfl)) rfl ?_;refine cC ?_;refine eA ?_ ?_
   · exact aa.any
   exact aa.ex _ ⟨λh=>absurd h (by decide),λh=>by(exfalso;have hL:=dw h;have kR:=hL.sigs;have lD:=hL.imports;have m8:=hL.funcs;have m9:=hL.eE;have nc:=hL.globals;have nk:=hL.bg;have nq:=hL.elems;have oQ:=hL.cu;have zi:=hL.table;have h9:=RJ h (List.mem_of_getElem? hz);rcases c5 with c|c;exact c h9.1;exact c h9.2.1)⟩ (aa.refl _)
  refine Z3 ?_;refine .bL 9 2 FM.out (by kernel_rfl) (k:= ?_);refine Z3 ?_;refine .p (cI _) ?_;refine Z6 ?_;refine .p (cA (h:=m7)) rfl ?_;refine Z3 ?_;refine Cd (λc6=>?_) λc6=>?_
  ·
   refine Z2 ?_;refine .p (bf (.s [105,109,112,111,114,116,115] rfl rfl)) rfl ?_;refine Z9 ?_;refine eA ?_ ?_
   · exact aa.any
   exact aa.ex _ ⟨λh=>absurd h (by decide),λh=>by(exfalso;have hL:=dw h;have kR:=hL.sigs;have lD:=hL.imports;have m8:=hL.funcs;have m9:=hL.eE;have nc:=hL.globals;have nk:=hL.bg;have nq:=hL.elems;have oQ:=hL.cu;have zi:=hL.table;have h9:=RJ h (List.mem_of_getElem? hz);exact c6 (by simpa using h9.2.2))⟩ (aa.refl _)
  refine Z8 ?_;refine .round (kb+1) ⟨by omega,hn4.succ hz (not_not_intro (Kc (by simpa using c5) (by simpa using c6)))⟩ (by omega) rfl ?_;exact(.get rfl (aa.int (by omega)) (.keep 38 rfl rfl))
 have fb0:=hn4.MK (by omega);have fb:qp x=0:=ug (by omega) hn4 (by omega);refine eB ?_;refine Cd (λc7=>?_) λc7=>?_
 ·
  refine Z2 ?_;refine .p (bf (.s [102,117,110,99,115] rfl rfl)) rfl ?_;refine Z5 ?_;refine eA ?_ ?_
  · exact aa.any
  exact aa.ex _ ⟨λh=>absurd h (by decide),λh=>by(exfalso;have hL:=dw h;have kR:=hL.sigs;have lD:=hL.imports;have m8:=hL.funcs;have m9:=hL.eE;have nc:=hL.globals;have nk:=hL.bg;have nq:=hL.elems;have oQ:=hL.cu;have zi:=hL.table;omega)⟩ (aa.refl _)
 refine Z9 ?_;refine .bk (σ:=Nat) (λ_=>[]) (λkc=>[(7,af .i64 (kc:Int))]) (λkc=>kc<=x.aq.length/\dJ (λz:cn=>sR x z≠0) x.aq kc) (λkc=>x.aq.length-kc) 0 ⟨by omega,dJ.zero _ _⟩ rfl ?_ ?_
 · exact(.get rfl (aa.refl _) (.refl _ _))
 rintro kc ⟨hk8,hn8⟩;refine cC ?_;refine Cd (λc8=>?_) λc8=>?_
 ·
  obtain⟨z,hz⟩:=ah (xs:=x.aq) (k:=kc) (by omega);refine Z5 ?_;refine .bL 9 2 FM.out (by kernel_rfl) (k:= ?_);refine Z3 ?_;refine .p (cI _) ?_;refine Z6 ?_;refine .p (cA (h:=m7)) rfl ?_;refine Z3 ?_;refine Cd (λc9=>?_) λc9=>?_
  ·
   refine Z2 ?_;refine .p (bf (.s [102,117,110,99,115] rfl rfl)) rfl ?_;refine Z9 ?_;refine eA ?_ ?_
   · exact aa.any
   exact aa.ex _ ⟨λh=>absurd h (by decide),λh=>by(exfalso;have hL:=dw h;have kR:=hL.sigs;have lD:=hL.imports;have m8:=hL.funcs;have m9:=hL.eE;have nc:=hL.globals;have nk:=hL.bg;have nq:=hL.elems;have oQ:=hL.cu;have zi:=hL.table;have h9:=UT h (List.mem_of_getElem? hz);exact c9 (by simpa using h9))⟩ (aa.refl _)
  refine Z8 ?_;refine .round (kc+1) ⟨by omega,hn8.succ hz (not_not_intro (RB (by simpa using c9)))⟩ (by omega) rfl ?_;exact(.get rfl (aa.int (by omega)) (.keep 20 rfl rfl))
 have fc0:=hn8.MK (by omega);have fc:lO x=0:=RC (by omega) hn8 (by omega);refine kL ?_;refine Cd (λlZ=>?_) λlZ=>?_
 ·
  refine Z2 ?_;refine .p (bf (.s [116,97,98,108,101] rfl rfl)) rfl ?_;refine Z5 ?_;refine eA ?_ ?_
  · exact aa.any
  exact aa.ex _ ⟨λh=>absurd h (by decide),λh=>by(exfalso;have hL:=dw h;have kR:=hL.sigs;have lD:=hL.imports;have m8:=hL.funcs;have m9:=hL.eE;have nc:=hL.globals;have nk:=hL.bg;have nq:=hL.elems;have oQ:=hL.cu;have zi:=hL.table;omega)⟩ (aa.refl _)
 refine cC ?_;refine Cd (λn8=>?_) λn8=>?_
 ·
  refine Z2 ?_;refine .p (bf (.s [116,97,98,108,101] rfl rfl)) rfl ?_;refine Z5 ?_;refine eA ?_ ?_
  · exact aa.any
  exact aa.ex _ ⟨λh=>absurd h (by decide),λh=>by(exfalso;have hL:=dw h;have kR:=hL.sigs;have lD:=hL.imports;have m8:=hL.funcs;have m9:=hL.eE;have nc:=hL.globals;have nk:=hL.bg;have nq:=hL.elems;have oQ:=hL.cu;have zi:=hL.table;omega)⟩ (aa.refl _)
 have fd:nx x=0:=Ol (by omega) (by omega);refine dh ?_;refine Cd (λqB=>?_) λqB=>?_
 ·
  refine Z2 ?_;refine .p (bf (.s [109,101,109,115] rfl rfl)) rfl ?_;refine Z5 ?_;refine eA ?_ ?_
  · exact aa.any
  exact aa.ex _ ⟨λh=>absurd h (by decide),λh=>by(exfalso;have hL:=dw h;have kR:=hL.sigs;have lD:=hL.imports;have m8:=hL.funcs;have m9:=hL.eE;have nc:=hL.globals;have nk:=hL.bg;have nq:=hL.elems;have oQ:=hL.cu;have zi:=hL.table;omega)⟩ (aa.refl _)
 refine Z9 ?_;refine .bk (σ:=Nat) (λ_=>[]) (λkd=>[(8,af .i64 (kd:Int))]) (λkd=>kd<=x.cP.length/\dJ (λz:gG=>Rw z≠0) x.cP kd) (λkd=>x.cP.length-kd) 0 ⟨by omega,dJ.zero _ _⟩ rfl ?_ ?_
 · exact(.get rfl (aa.refl _) (.refl _ _))
 rintro kd ⟨ch0,TK⟩;refine cC ?_;refine Cd (λv8=>?_) λv8=>?_
 ·
  obtain⟨z,hz⟩:=ah (xs:=x.cP) (k:=kd) (by omega);refine Z9 ?_;refine .p (cI _) rfl ?_;refine Z1 ?_;refine .n (au FZ.out) rfl λb9 _=>?_;refine Z3 ?_;refine .share (t:=9) (i:=0) rfl rfl ?_;refine Z29 ?_;refine Cd (λs7=>?_) λs7=>?_
  ·
   refine Z2 ?_;refine .p (bf (.s [109,101,109,115] rfl rfl)) rfl ?_;refine Z9 ?_;refine eA ?_ ?_
   · exact aa.any
   exact aa.ex _ ⟨λh=>absurd h (by decide),λh=>by(exfalso;have hL:=dw h;have kR:=hL.sigs;have lD:=hL.imports;have m8:=hL.funcs;have m9:=hL.eE;have nc:=hL.globals;have nk:=hL.bg;have nq:=hL.elems;have oQ:=hL.cu;have zi:=hL.table;have h9:=RK h (List.mem_of_getElem? hz);omega)⟩ (aa.refl _)
  refine Z8 ?_;refine .round (kd+1) ⟨by omega,TK.succ hz (not_not_intro (UP (by omega)))⟩ (by omega) rfl ?_;exact(.get rfl (aa.int (by omega)) (.keep 41 rfl rfl))
 have fe:Dp x=0:=ug (by omega) TK (by omega);refine ij ?_;refine Cd (λwg=>?_) λwg=>?_
 ·
  refine Z2 ?_;refine .p (bf (.s [103,108,111,98,97,108,115] rfl rfl)) rfl ?_;refine Z5 ?_;refine eA ?_ ?_
  · exact aa.any
  exact aa.ex _ ⟨λh=>absurd h (by decide),λh=>by(exfalso;have hL:=dw h;have kR:=hL.sigs;have lD:=hL.imports;have m8:=hL.funcs;have m9:=hL.eE;have nc:=hL.globals;have nk:=hL.bg;have nq:=hL.elems;have oQ:=hL.cu;have zi:=hL.table;omega)⟩ (aa.refl _)
 refine Z9 ?_;refine .bk (σ:=Nat) (λ_=>[]) (λke=>[(10,af .i64 (ke:Int))]) (λke=>ke<=x.aA.length/\dJ (λz:ju=>wG z≠0) x.aA ke) (λke=>x.aA.length-ke) 0 ⟨by omega,dJ.zero _ _⟩ rfl ?_ ?_
 · exact(.get rfl (aa.refl _) (.refl _ _))
 rintro ke ⟨ch1,al6⟩;refine cC ?_;refine Cd (λvQ=>?_) λvQ=>?_
 ·
  obtain⟨z,hz⟩:=ah (xs:=x.aA) (k:=ke) (by omega);refine Z9 ?_;refine .p (cI _) rfl ?_;refine Z1 ?_;refine .n (au FZ.out) rfl λb11 _=>?_;refine Z3 ?_;refine .share (t:=11) (i:=0) rfl rfl ?_;refine Dh ?_;refine Cd (λQH=>?_) λQH=>?_
  ·
   refine Z2 ?_;refine .p (bf (.s [103,108,111,98,97,108,115] rfl rfl)) rfl ?_;refine Z9 ?_;refine eA ?_ ?_
   · exact aa.any
   exact aa.ex _ ⟨λh=>absurd h (by decide),λh=>by(exfalso;have hL:=dw h;have kR:=hL.sigs;have lD:=hL.imports;have m8:=hL.funcs;have m9:=hL.eE;have nc:=hL.globals;have nk:=hL.bg;have nq:=hL.elems;have oQ:=hL.cu;have zi:=hL.table;have h9:=x4 h (List.mem_of_getElem? hz);omega)⟩ (aa.refl _)
  refine Z8 ?_;refine .round (ke+1) ⟨by omega,al6.succ hz (not_not_intro (Kd (by omega)))⟩ (by omega) rfl ?_;exact(.get rfl (aa.int (by omega)) (.keep 29 rfl rfl))
 have ff:qq x=0:=ug (by omega) al6 (by omega);refine ij ?_;refine Cd (λLh=>?_) λLh=>?_
 ·
  refine Z2 ?_;refine .p (bf (.s [101,120,112,111,114,116,115] rfl rfl)) rfl ?_;refine Z5 ?_;refine eA ?_ ?_
  · exact aa.any
  exact aa.ex _ ⟨λh=>absurd h (by decide),λh=>by(exfalso;have hL:=dw h;have kR:=hL.sigs;have lD:=hL.imports;have m8:=hL.funcs;have m9:=hL.eE;have nc:=hL.globals;have nk:=hL.bg;have nq:=hL.elems;have oQ:=hL.cu;have zi:=hL.table;omega)⟩ (aa.refl _)
 refine Z9 ?_;refine .bk (σ:=Nat) (λ_=>[]) (λkf=>[(12,af .i64 (kf:Int))]) (λkf=>kf<=x.bV.length/\∀j,j<kf->kN x j=0) (λkf=>x.bV.length-kf) 0 ⟨by omega,λj hj=>absurd hj (by omega)⟩ rfl ?_ ?_
 · exact(.get rfl (aa.refl _) (.refl _ _))
 rintro kf ⟨ch2,al7⟩;refine cC ?_;refine Cd (λUf=>?_) λUf=>?_
 ·
  obtain⟨z,hz⟩:=ah (xs:=x.bV) (k:=kf) (by omega);refine Z9 ?_;refine .p (cI _) rfl ?_;refine Z1 ?_;refine .n (au FZ.out) rfl λUm _=>?_;refine Z3 ?_;refine .share (t:=13) (i:=0) rfl rfl ?_;refine Z5 ?_;refine .p (cA (h:=tw)) rfl ?_;refine Z3 ?_;refine Cd (λPI=>?_) λPI=>?_
  ·
   refine Z2 ?_;refine .p (bf (.s [101,120,112,111,114,116,115] rfl rfl)) rfl ?_;refine cC ?_;refine eA ?_ ?_
   · exact aa.any
   exact aa.ex _ ⟨λh=>absurd h (by decide),λh=>by(exfalso;have hL:=dw h;have kR:=hL.sigs;have lD:=hL.imports;have m8:=hL.funcs;have m9:=hL.eE;have nc:=hL.globals;have nk:=hL.bg;have nq:=hL.elems;have oQ:=hL.cu;have zi:=hL.table;exact PI (x5 h hz).1)⟩ (aa.refl _)
  refine Z9 ?_;refine .bk (σ:=Nat) (λ_=>[]) (λkg=>[(14,af .i64 (kg:Int))]) (λkg=>kg<=kf/\dJ (λw:eW=>w.Name=z.Name) x.bV kg) (λkg=>kf-kg) 0 ⟨by omega,dJ.zero _ _⟩ rfl ?_ ?_
  · exact(.get rfl (aa.refl _) (.refl _ _))
  rintro kg ⟨ch3,al8⟩;refine Z8 ?_;refine Cd (λVX=>?_) λVX=>?_
  ·
   obtain⟨w,hw⟩:=ah (xs:=x.bV) (k:=kg) (by omega);refine Z5 ?_;refine .bL 8 1 FM.out (by kernel_rfl) (k:= ?_);refine Z3 ?_;refine .p (cI _) ?_;refine Z8 ?_;refine Cd (λQI=>?_) λQI=>?_
   ·
    refine Z2 ?_;refine .p (bf (.s [101,120,112,111,114,116,115] rfl rfl)) rfl ?_;refine ij ?_;refine eA ?_ ?_
    · exact aa.any
    exact aa.ex _ ⟨λh=>absurd h (by decide),λh=>by(exfalso;have hL:=dw h;have kR:=hL.sigs;have lD:=hL.imports;have m8:=hL.funcs;have m9:=hL.eE;have nc:=hL.globals;have nk:=hL.bg;have nq:=hL.elems;have oQ:=hL.cu;have zi:=hL.table;exact(x5 h hz).2.1 kg w (by omega) hw QI)⟩ (aa.refl _)
   refine Z8 ?_;refine .round (kg+1) ⟨by omega,al8.succ hw QI⟩ (by omega) rfl ?_;exact(.get rfl (aa.int (by omega)) (.keep 16 rfl rfl))
  have aO4:dJ (λw:eW=>w.Name=z.Name) x.bV kf:=λj y hj=>al8 j y (by omega);refine ij ?_;refine .g (de.gT rfl rfl rfl rfl (λhg=>cg (m7) FB.out (.cons (.when (.t rfl) hg) (.cons (.when (.t rfl) hg) .nil)))) rfl rfl ?_;refine Z26 ?_;refine .g (de.hT rfl rfl rfl rfl (λhg=>cg (m7) FB.out (.cons (.when (.t rfl) hg) (.cons (.when (.t rfl) hg) .nil)))) rfl rfl ?_;refine eB ?_;refine .g (de.hT rfl rfl rfl rfl (λhg=>cg (m7) FB.out (.cons (.when (.t rfl) hg) (.cons (.when (.t rfl) hg) .nil)))) rfl rfl ?_;refine dh ?_;refine Cd (λYY=>?_) λYY=>?_
  ·
   refine Z2 ?_;refine .p (bf (.s [101,120,112,111,114,116,115] rfl rfl)) rfl ?_;refine Z9 ?_;refine eA ?_ ?_
   · exact aa.any
   exact aa.ex _ ⟨λh=>absurd h (by decide),λh=>by(exfalso;have hL:=dw h;have kR:=hL.sigs;have lD:=hL.imports;have m8:=hL.funcs;have m9:=hL.eE;have nc:=hL.globals;have nk:=hL.bg;have nq:=hL.elems;have oQ:=hL.cu;have zi:=hL.table;exact YY (x5 h hz).2.2)⟩ (aa.refl _)
  refine Z8 ?_;refine .round (kf+1) ⟨by omega,λj hj=>by rcases Nat.lt_succ_iff_lt_or_eq.1 hj with h|h;exact al7 j h;exact h▸Ke hz (by simpa using PI) aO4 (by omega) (by omega) (or4 (Classical.not_not.1 YY))⟩ (by omega) rfl ?_;exact(.get rfl (aa.int (by omega)) (.keep 78 rfl rfl))
 have fg:oF x=0:=Kf (by omega) al7 (by omega);refine Z5 ?_;refine .cut (σ:=Unit) (λ_=>[]) (λ_=>[]) (λ_=>ko x=0) ?_ ?_
 ·
  refine Z7 ?_;refine Cd (λc24=>?_) λc24=>?_
  ·
   refine Z6 ?_;refine .p (cA (h:=m7)) rfl ?_;refine Z3 ?_;refine Cd (λc25=>?_) λc25=>?_
   ·
    refine Z2 ?_;refine .p (bf (.s [115,116,97,114,116] rfl rfl)) rfl ?_;refine Z6 ?_;refine eA ?_ ?_
    · exact aa.any
    exact aa.ex _ ⟨λh=>absurd h (by decide),λh=>by(exfalso;have hL:=dw h;have kR:=hL.sigs;have lD:=hL.imports;have m8:=hL.funcs;have m9:=hL.eE;have nc:=hL.globals;have nk:=hL.bg;have nq:=hL.elems;have oQ:=hL.cu;have zi:=hL.table;exact c25 (by simpa[dc] using(GP h (by omega)).1))⟩ (aa.refl _)
   obtain⟨s,hs⟩:=xX (m:=x) (f:=x.Start) (by simpa[dc] using c25) fb0 fc0;obtain⟨si,hsi⟩:=List.mem_iff_getElem?.1 (zG hs);have hs0:=QJ si s hsi;refine Z7 ?_;refine .p (cA (h:=(Jp hs))) rfl ?_;refine .n (au FZ.out) rfl λb16 _=>?_;refine Z3 ?_;refine .share (t:=16) (i:=0) rfl rfl ?_;refine eB ?_;refine Cd (λc26=>?_) λc26=>?_
   ·
    refine Z2 ?_;refine .p (bf (.s [115,116,97,114,116] rfl rfl)) rfl ?_;refine Z5 ?_;refine eA ?_ ?_
    · exact aa.any
    exact aa.ex _ ⟨λh=>absurd h (by decide),λh=>by(exfalso;have hL:=dw h;have kR:=hL.sigs;have lD:=hL.imports;have m8:=hL.funcs;have m9:=hL.eE;have nc:=hL.globals;have nk:=hL.bg;have nq:=hL.elems;have oQ:=hL.cu;have zi:=hL.table;have h9:=(GP h (by omega)).2 s hs;omega)⟩ (aa.refl _)
   refine Z1 ?_;refine .meet () (On hs (by omega)) rfl (.keep 22 rfl rfl)
  refine Z1 ?_;refine .meet () (Om (by omega)) rfl (.keep 3 rfl rfl)
 intro _ fh;refine Z9 ?_;refine Cd (λc27=>?_) λc27=>?_
 ·
  refine Z2 ?_;refine .p (bf (.s [101,108,101,109,115] rfl rfl)) rfl ?_;refine Z5 ?_;refine eA ?_ ?_
  · exact aa.any
  exact aa.ex _ ⟨λh=>absurd h (by decide),λh=>by(exfalso;have hL:=dw h;have kR:=hL.sigs;have lD:=hL.imports;have m8:=hL.funcs;have m9:=hL.eE;have nc:=hL.globals;have nk:=hL.bg;have nq:=hL.elems;have oQ:=hL.cu;have zi:=hL.table;omega)⟩ (aa.refl _)
 refine Z9 ?_;refine .bk (σ:=Nat) (λ_=>[]) (λkh=>[(17,af .i64 (kh:Int))]) (λkh=>kh<=x.bN.length/\dJ (λz:gR=>uN x z≠0) x.bN kh) (λkh=>x.bN.length-kh) 0 ⟨by omega,dJ.zero _ _⟩ rfl ?_ ?_
 · exact(.get rfl (aa.refl _) (.refl _ _))
 rintro kh ⟨ch4,al9⟩;refine cC ?_;refine Cd (λc28=>?_) λc28=>?_
 ·
  obtain⟨z,hz⟩:=ah (xs:=x.bN) (k:=kh) (by omega);refine cC ?_;refine .p (cI _) rfl ?_;refine Z6 ?_;refine Cd (λc29=>?_) λc29=>?_
  ·
   refine Z2 ?_;refine .p (bf (.s [101,108,101,109,115] rfl rfl)) rfl ?_;refine cC ?_;refine eA ?_ ?_
   · exact aa.any
   exact aa.ex _ ⟨λh=>absurd h (by decide),λh=>by(exfalso;have hL:=dw h;have kR:=hL.sigs;have lD:=hL.imports;have m8:=hL.funcs;have m9:=hL.eE;have nc:=hL.globals;have nk:=hL.bg;have nq:=hL.elems;have oQ:=hL.cu;have zi:=hL.table;have h9:=(ru h (List.mem_of_getElem? hz)).1;omega)⟩ (aa.refl _)
  refine eB ?_;refine .g (de.gF rfl rfl rfl rfl (λhg=>aW FU.out FC.out rfl (.when (.t rfl) hg) (.when (.t rfl) hg) rfl (by assumption))) rfl rfl ?_;refine Z6 ?_;refine Cd (λc30=>?_) λc30=>?_
  ·
   refine Z2 ?_;refine .p (bf (.s [101,108,101,109,115] rfl rfl)) rfl ?_;refine cC ?_;refine eA ?_ ?_
   · exact aa.any
   exact aa.ex _ ⟨λh=>absurd h (by decide),λh=>by(exfalso;have hL:=dw h;have kR:=hL.sigs;have lD:=hL.imports;have m8:=hL.funcs;have m9:=hL.eE;have nc:=hL.globals;have nk:=hL.bg;have nq:=hL.elems;have oQ:=hL.cu;have zi:=hL.table;have h9:=ru h (List.mem_of_getElem? hz);omega)⟩ (aa.refl _)
  refine Z8 ?_;refine .bk (σ:=Nat) (λ_=>[]) (λkj=>[(18,af .i64 (kj:Int))]) (λkj=>kj<=z.aq.length/\dJ (λw:Int=>¬kE w (dc x)) z.aq kj) (λkj=>z.aq.length-kj) 0 ⟨by omega,dJ.zero _ _⟩ rfl ?_ ?_
  · exact(.get rfl (aa.refl _) (.refl _ _))
  rintro kj ⟨ch5,am0⟩;refine Z7 ?_;refine .p (cI _) rfl ?_;refine Z6 ?_;refine Cd (λc31=>?_) λc31=>?_
  ·
   obtain⟨w,hw⟩:=ah (xs:=z.aq) (k:=kj) (by omega);refine Z9 ?_;refine .p (cI _) rfl ?_;refine Z3 ?_;refine .p (cI _) rfl ?_;refine Z2 ?_;refine .p (cA (h:=m7)) rfl ?_;refine Z3 ?_;refine Cd (λc32=>?_) λc32=>?_
   ·
    refine Z2 ?_;refine .p (bf (.s [101,108,101,109,115] rfl rfl)) rfl ?_;refine kL ?_;refine eA ?_ ?_
    · exact aa.any
    exact aa.ex _ ⟨λh=>absurd h (by decide),λh=>by(exfalso;have hL:=dw h;have kR:=hL.sigs;have lD:=hL.imports;have m8:=hL.funcs;have m9:=hL.eE;have nc:=hL.globals;have nk:=hL.bg;have nq:=hL.elems;have oQ:=hL.cu;have zi:=hL.table;have h9:=(ru h (List.mem_of_getElem? hz)).2.2.2 w (List.mem_of_getElem? hw);exact c32 (by simpa[dc] using h9))⟩ (aa.refl _)
   refine Z8 ?_;refine .round (kj+1) ⟨by omega,am0.succ hw (by simpa[dc] using c32)⟩ (by omega) rfl ?_;exact(.get rfl (aa.int (by omega)) (.keep 25 rfl rfl))
  refine dh ?_;refine .round (kh+1) ⟨by omega,al9.succ hz (not_not_intro (RD (k:=kj) (by omega) (by omega) (by omega) am0 (by omega)))⟩ (by omega) rfl ?_;exact(.get rfl (aa.int (by omega)) (.keep 40 rfl rfl))
 have fi:xV x=0:=ug (by omega) al9 (by omega);refine ij ?_;refine Cd (λc33=>?_) λc33=>?_
 ·
  refine Z2 ?_;refine .p (bf (.s [100,97,116,97] rfl rfl)) rfl ?_;refine Z5 ?_;refine eA ?_ ?_
  · exact aa.any
  exact aa.ex _ ⟨λh=>absurd h (by decide),λh=>by(exfalso;have hL:=dw h;have kR:=hL.sigs;have lD:=hL.imports;have m8:=hL.funcs;have m9:=hL.eE;have nc:=hL.globals;have nk:=hL.bg;have nq:=hL.elems;have oQ:=hL.cu;have zi:=hL.table;omega)⟩ (aa.refl _)
 refine Z9 ?_;refine .bk (σ:=Nat) (λ_=>[]) (λkl=>[(19,af .i64 (kl:Int))]) (λkl=>kl<=x.dA.length/\dJ (λz:oD=>uO x z≠0) x.dA kl) (λkl=>x.dA.length-kl) 0 ⟨by omega,dJ.zero _ _⟩ rfl ?_ ?_
 · exact(.get rfl (aa.refl _) (.refl _ _))
 rintro kl ⟨ch6,am1⟩;refine cC ?_;refine Cd (λc34=>?_) λc34=>?_
 ·
  obtain⟨z,hz⟩:=ah (xs:=x.dA) (k:=kl) (by omega);refine Z9 ?_;refine .p (cI _) rfl ?_;refine Z1 ?_;refine .n (au FZ.out) rfl λb20 _=>?_;refine Z3 ?_;refine .share (t:=20) (i:=0) rfl rfl ?_;refine Z9 ?_;refine Cd (λc35=>?_) λc35=>?_
  ·
   refine Z2 ?_;refine .p (bf (.s [100,97,116,97] rfl rfl)) rfl ?_;refine cC ?_;refine eA ?_ ?_
   · exact aa.any
   exact aa.ex _ ⟨λh=>absurd h (by decide),λh=>by(exfalso;have hL:=dw h;have kR:=hL.sigs;have lD:=hL.imports;have m8:=hL.funcs;have m9:=hL.eE;have nc:=hL.globals;have nk:=hL.bg;have nq:=hL.elems;have oQ:=hL.cu;have zi:=hL.table;have h9:=(wN h (List.mem_of_getElem? hz)).1;omega)⟩ (aa.refl _)
  refine cC ?_;refine .p (cA (h:=m7)) rfl ?_;refine Z3 ?_;refine Cd (λc36=>?_) λc36=>?_
  ·
   refine Z2 ?_;refine .p (bf (.s [100,97,116,97] rfl rfl)) rfl ?_;refine cC ?_;refine eA ?_ ?_
   · exact aa.any
   exact aa.ex _ ⟨λh=>absurd h (by decide),λh=>by(exfalso;have hL:=dw h;have kR:=hL.sigs;have lD:=hL.imports;have m8:=hL.funcs;have m9:=hL.eE;have nc:=hL.globals;have nk:=hL.bg;have nq:=hL.elems;have oQ:=hL.cu;have zi:=hL.table;have h9:=(wN h (List.mem_of_getElem? hz)).2.1;exact c36 (by simpa using h9))⟩ (aa.refl _)
  obtain⟨Y0,Tj⟩:=kE.at (n:=z.Mem) (k:=x.cP.length) (by simpa using c36);obtain⟨y,hy1⟩:=ah (xs:=x.cP) (k:=z.Mem.toNat) Y0;refine Z8 ?_;refine .p (cI z.Mem.toNat (h:=hy1) (hi:=Tj)) rfl ?_;refine cC ?_;refine Cd (λc37=>?_) λc37=>?_
  ·
   refine Z2 ?_;refine .p (bf (.s [100,97,116,97] rfl rfl)) rfl ?_;refine Z9 ?_;refine eA ?_ ?_
   · exact aa.any
   exact aa.ex _ ⟨λh=>absurd h (by decide),λh=>by(exfalso;have hL:=dw h;have kR:=hL.sigs;have lD:=hL.imports;have m8:=hL.funcs;have m9:=hL.eE;have nc:=hL.globals;have nk:=hL.bg;have nq:=hL.elems;have oQ:=hL.cu;have zi:=hL.table;have h9:=(wN h (List.mem_of_getElem? hz)).2.2 y hy1;exact h9 c37)⟩ (aa.refl _)
  refine Z8 ?_;refine .round (kl+1) ⟨by omega,am1.succ hz (not_not_intro (RE (by omega) (by simpa using c36) hy1 (by simpa using c37)))⟩ (by omega) rfl ?_;exact(.get rfl (aa.int (by omega)) (.keep 40 rfl rfl))
 have fj:xW x=0:=ug (by omega) am1 (by omega);refine Z7 ?_;refine .p (bf (.s [] rfl rfl)) rfl ?_;refine Z4 ?_;refine eA ?_ ?_
 · exact aa.any
 exact aa.ex _ ⟨λ_=>⟨fa,fb,fc,fd,fe,ff,fg,fh,fi,fj⟩,λ_=>rfl⟩ (aa.refl _)
variable {n:Nat}
theorem Jq{l:List aj}{a d:Nat}(ak:l.length-a<n)(aR:a<=l.length)(bO:d<=64)(dO:l.length<=10000):bu Wo 120 [ai 5 aB (l),af .i64 ((a:Int)),af .i64 ((d:Int))] [] (γ:=Int×SB×List jr×Int) (λg=>rcP l a d g.1 g.2.2.1 g.2.2.2) (λg=>[aH g.2.1 3 bP g.2.2.1]) (λg=>aZ [af .i64 g.1,ag (bI g.2.1 g.2.2.1.length),af .i64 g.2.2.2]):=by
 induction n generalizing a d
 case zero=>omega
 rename_i n ih
 refine In 128 Tryz.func120 λ_ _ _=>?_;refine eB ?_;refine .fO 3 bP ?_;refine Z2 ?_;refine .bk (σ:=Nat×SB×List jr) (λg=>[aH g.2.1 3 bP g.2.2]) (λg=>[(1,af .i64 (g.1:Int)),(9,ag (bI g.2.1 g.2.2.length))]) (λg=>a<=g.1/\g.1<=l.length/\g.2.2.length+a<=g.1/\rc ((cQ l).drop a) d=rc ((cQ l).drop g.1) d) (λg=>l.length-g.1) (a,none,[]) ⟨Nat.le_refl _,aR,by simp,rfl⟩ rfl ?_ ?_
 · exact(.get rfl (aa.refl _) (.get rfl (aa.of_eq rfl) (.refl _ _)))
 rintro⟨i,gs,out⟩ ⟨hai,Ca,zy,hrc⟩;simp only at hai Ca zy hrc ⊢;refine Z9 ?_;refine Cd (λc0=>?_) λc0=>?_
 ·
  obtain⟨x,hx⟩:=ah (xs:=l) (k:=i) (by omega);refine Z7 ?_;refine .p (cI i (h:=hx)) rfl ?_;refine Cm ?_;refine Cd (λc1=>?_) λc1=>?_
  ·
   refine oA ?_;refine Post.bh rfl rfl (((i:Int),gs,out,0)) (by exact .inl ⟨rfl,i,rfl,by rw[hrc,gE hx,Ze c1],by omega,Ca,by omega⟩) (λ_ _ _ h=>h) rfl (.cons (.rt rfl) ?_ (.cons (.rt rfl) ?_ (.cons (.rt rfl) ?_ .nil)))
   · exact aa.refl _
   · exact aa.refl _
   exact aa.refl _
  refine kL ?_;refine Cd (λc2=>?_) λc2=>?_
  ·
   refine cC ?_;refine .round (i+1,gs,out) ⟨by show a<=i+1;omega,by show i+1<=_;omega,by show out.length+a<=i+1;omega,by(show _=rc ((cQ l).drop (i+1)) d;rw[hrc,gE hx,Tu c1 (by unfold aN;omega)])⟩ (by show l.length-(i+1)<l.length-i;omega) rfl ?_;exact(.get rfl (aa.int (by show(_:Int)=((i+1:Nat):Int);omega)) (.get rfl (aa.refl _) ((.keep 27 rfl rfl))))
  have ho:aN x.Code:=by unfold aN;omega
  refine Z9 ?_;refine Cd (λc3=>?_) λc3=>?_
  ·
   refine ij ?_;refine Post.bh rfl rfl (((i:Int),none,[],15)) (by exact .inr ⟨by show(15:Int)≠0;decide,by rw[hrc,gE hx];exact V9 ho (by omega),rfl⟩) (aF.trans (aF.nil _) aF.none) rfl (.cons (.rt rfl) ?_ (.cons (.rt rfl) ?_ (.cons (.rt rfl) ?_ .nil)))
   · exact aa.refl _
   · exact aa.refl _
   exact aa.refl _
  have hd:¬64<=d:=by omega
  refine Z6 ?_;refine .n (au FZ.out) rfl λb11 _=>?_;refine cC ?_;refine .n (eV (rest:=[_,_]) (@ih (i+1) (d+1) (by omega) (by omega) (by omega)) FB.out (.cons (.t rfl) (.cons (.le (.t rfl) (aa.int (show(i:Int)+1=((i+1:Nat):Int) by omega))) (.cons (.le (.t rfl) (aa.int (show(d:Int)+1=((d+1:Nat):Int) by omega))) .nil))) (Perm.idx [0,1] rfl rfl)) rfl λFg Ub=>?_;refine Z9 ?_;refine .cut (σ:=Int×SB×List jr×Int×Int) (λz=>[aH z.2.1 3 bP z.2.2.1,az b11 [af .i64 (i:Int),af .i64 z.2.2.2.2,af .i64 (-1)],aH gs 3 bP out]) (λz=>[(12,af .i64 z.1),(13,ag (bI z.2.1 z.2.2.1.length)),(14,af .i64 z.2.2.2.1)]) (λz=>rcM l i d z.1 z.2.2.1 z.2.2.2.1) ?_ ?_
  ·
   refine kL ?_;refine .g (de.gT rfl rfl rfl rfl (λhg=>aW (j:=Fg.1.toNat) FU.out FC.out rfl (.when (.t rfl) hg) (.when (.t rfl) hg) (by(rcases Ub with⟨_,k,h2,_⟩|⟨h1,_⟩;omega;exact absurd hg.1 h1)) (xw (by omega)))) rfl rfl ?_;refine Z6 ?_;refine Cd (λc4=>?_) λc4=>?_
   ·
    refine Z7 ?_;refine Cd (λc5=>?_) λc5=>?_
    ·
     refine oA ?_;refine Post.bh rfl rfl ((Fg.1,none,[],4)) (by exact .inr ⟨by show(4:Int)≠0;decide,by(rw[hrc];rcases Ub with⟨_,k,h2,h3,_,h5,_⟩|⟨h1,_⟩;(have hk:Fg.1.toNat=k:=by omega);have hc:=c4.2;(rw[hk] at hc);exact L5 hx ho hd h3 (xw (by omega)) hc c5;exact absurd c4.1.1 h1),rfl⟩) (aF.trans (aF.nil _) aF.none) rfl (.cons (.rt rfl) ?_ (.cons (.rt rfl) ?_ (.cons (.rt rfl) ?_ .nil)))
     · exact aa.refl _
     · exact aa.refl _
     exact aa.refl _
    have h4:x.Code=4:=by omega
    have ch7:0<=Fg.1/\i+1<=Fg.1.toNat/\Fg.1.toNat<l.length:=by(have h8:=c4.1.2;rcases Ub with⟨_,k,h2,_,h3,_⟩|⟨h1,_⟩;omega;exact absurd c4.1.1 h1)
    refine XR ?_;refine .n (eV (rest:=[_,_,_]) (@ih (Fg.1.toNat+1) (d+1) (by omega) (by omega) (by omega)) FB.out (.cons (.t rfl) (.cons (.le (.t rfl) (aa.int (show Fg.1+1=((Fg.1.toNat+1:Nat):Int) by omega))) (.cons (.le (.t rfl) (aa.int (show(d:Int)+1=((d+1:Nat):Int) by omega))) .nil))) (Perm.idx [0,1,2] rfl rfl)) rfl λZv h83=>?_;refine cC ?_;refine .eC (t:=15) (i:=0) (g:=Zv.2.1) (xs:=Zv.2.2.1) rfl rfl ?_;refine Z3 ?_;refine .n (aK (i:=0) FU.out FU.out FC.out rfl FZ.out rfl FY.out (.t rfl) (.t rfl) rfl (by have:=zV Ub;have:=zV h83;omega) (by have:=zV Ub;have:=zV h83;omega)) rfl λg89 _=>?_;refine Cm ?_;refine .g (de.gT rfl rfl rfl rfl (λhg=>aW (j:=Zv.1.toNat) FU.out FC.out rfl (.when (.t rfl) hg) (.when (.t rfl) hg) (by(rcases h83 with⟨_,k,h2,_⟩|⟨h1,_⟩;omega;exact absurd hg.1 h1)) (xw (by omega)))) rfl rfl ?_;refine Z6 ?_;refine Cd (λc6=>?_) λc6=>?_
    ·
     refine ij ?_;refine Post.bh rfl rfl ((Zv.1,none,[],4)) (by exact .inr ⟨by show(4:Int)≠0;decide,by rw[hrc];exact(NI hx ho hd bO Ub dO c4 h4 h83).1 c6,rfl⟩) (aF.trans (aF.nil _) aF.none) rfl (.cons (.rt rfl) ?_ (.cons (.rt rfl) ?_ (.cons (.rt rfl) ?_ .nil)))
     · exact aa.refl _
     · exact aa.refl _
     exact aa.refl _
    refine Z1 ?_;refine .meet (Zv.1,g89,Fg.2.2.1++Zv.2.2.1,Zv.2.2.2,Fg.1) ((NI hx ho hd bO Ub dO c4 h4 h83).2 c6) rfl (.get rfl (aa.refl _) (.get rfl (aa.refl _) (.get rfl (aa.refl _) (.keep 55 rfl rfl))))
   refine Z1 ?_;refine .meet (Fg.1,Fg.2.1,Fg.2.2.1,Fg.2.2.2,-1) (Wc hx ho hd Ub dO c4) rfl (.get rfl (aa.refl _) (.get rfl (aa.refl _) (.get rfl (aa.refl _) (.keep 16 rfl rfl))))
  intro ⟨en,gi,inn,e,el⟩ hM;simp only at hM ⊢;refine Z7 ?_;refine Cd (λc7=>?_) λc7=>?_
  ·
   refine oA ?_;refine Post.bh rfl rfl ((en,none,[],e)) (by exact .inr ⟨c7,by(rw[hrc];rcases hM with⟨_,h,_⟩|⟨h1,_⟩|⟨h1,_⟩;exact h;exact absurd h1 c7;exact absurd h1 c7),rfl⟩) (aF.trans (aF.nil _) aF.none) rfl (.cons (.rt rfl) ?_ (.cons (.rt rfl) ?_ (.cons (.rt rfl) ?_ .nil)))
   · exact aa.refl _
   · exact aa.refl _
   exact aa.refl _
  refine dh ?_;refine Cd (λc8=>?_) λc8=>?_
  ·
   refine ij ?_;refine Post.bh rfl rfl ((en,none,[],4)) (by exact .inr ⟨by show(4:Int)≠0;decide,by(rw[hrc];rcases hM with⟨h1,h,_⟩|⟨_,_,h,_⟩|⟨_,k,h1,h2,_⟩;exact h;exact h;exact absurd c8 (by omega)),rfl⟩) (aF.trans (aF.nil _) aF.none) rfl (.cons (.rt rfl) ?_ (.cons (.rt rfl) ?_ (.cons (.rt rfl) ?_ .nil)))
   · exact aa.refl _
   · exact aa.refl _
   exact aa.refl _
  obtain⟨JC,k,u5,hk2,DL,v5,hk5⟩:e=0/\∃k:Nat,en=(k:Int)/\k<l.length/\rc ((cQ l).drop i) d=rc ((cQ l).drop (k+1)) d/\i+1<=k/\inn.length+i+1<=k:=by(rcases hM with⟨h1,_⟩|⟨_,h1,_⟩|h1;exact absurd h1 c7;exact absurd h1 c8;exact h1)
  refine cC ?_;refine .eC (t:=13) (i:=0) (g:=gi) (xs:=inn) rfl rfl ?_;refine Z3 ?_;refine .p (cB bP [((i:Int),el,en)]) rfl ?_;refine .n (aK (i:=1) FU.out FU.out FC.out rfl FZ.out rfl FY.out (.t rfl) (.t rfl) rfl (by simp only[List.length_cons,List.length_nil];omega) (by simp only[List.length_cons,List.length_nil];omega)) rfl λch8 _=>?_;refine Z1 ?_;refine .n (aK (i:=1) FU.out FU.out FC.out rfl FZ.out rfl FY.out (.t rfl) (.t rfl) rfl (by simp only[List.length_append,List.length_cons,List.length_nil];omega) (by simp only[List.length_append,List.length_cons,List.length_nil];omega)) rfl λaO5 _=>?_;refine Z9 ?_;refine .own (aF.cZ [1] [0] rfl rfl) (bS.round (k+1,aO5,(out++[((i:Int),el,en)])++inn) ⟨by show a<=k+1;omega,by show k+1<=_;omega,by(show((out++[_])++inn).length+a<=k+1;simp only[List.length_append,List.length_cons,List.length_nil];omega),by(show _=rc ((cQ l).drop (k+1)) d;rw[hrc,DL])⟩ (by show l.length-(k+1)<l.length-i;omega) rfl ?_);exact(.get rfl (aa.int (by show(_:Int)=((k+1:Nat):Int);omega)) (.get rfl (aa.refl _) ((.keep 64 rfl rfl))))
 refine oA ?_;refine Post.bh rfl rfl (((i:Int),gs,out,0)) (by exact .inl ⟨rfl,i,rfl,by(rw[hrc,om (by omega)];rfl),by omega,Ca,by omega⟩) (λ_ _ _ h=>h) rfl (.cons (.rt rfl) ?_ (.cons (.rt rfl) ?_ (.cons (.rt rfl) ?_ .nil)))
 · exact aa.refl _
 · exact aa.refl _
 exact aa.refl _
theorem Jr{l:List aj}(ak:l.length<=10000):bu Wo 76 [ai 5 aB (l)] [] (γ:=Int) (λe=>e=0↔fQ (cQ l) []) (λ_=>[]) (λe=>aZ [fS,fS,af .i64 e]):=by
 refine In 39 Tryz.func76 λ_ _ _=>?_;refine cC ?_;refine .n (cE (h:=Jq (n:=l.length+1) (a:=0) (d:=0) (by omega) (Nat.zero_le _) (by omega) ak)) rfl λDN h10=>?_;refine Cm ?_;refine Cd (λc0=>?_) λc0=>?_
 ·
  have hno:¬fQ (cQ l) []:=λh=>by(rw[zW] at h;rcases h10 with⟨h1,_⟩|⟨_,h2,_⟩;exact c0 h1;rw[List.drop_zero] at h2;rw[h2] at h;cases h)
  refine dh ?_;refine Post.bh rfl rfl (DN.2.2.2) (by exact⟨λh=>absurd h c0,λh=>absurd h hno⟩) (λ_ _ _ _=>trivial) rfl (.cons (.rt rfl) ?_ (.cons (.rt rfl) ?_ (.cons (.rt rfl) ?_ .nil)))
  · exact aa.any
  · exact aa.any
  exact aa.refl _
 obtain⟨h1,k,u5,hk2,_,DL,_⟩:DN.2.2.2=0/\∃n:Nat,DN.1=(n:Int)/\rc ((cQ l).drop 0) 0=some ((cQ l).drop n)/\0<=n/\n<=l.length/\DN.2.2.1.length+0<=n:=by(rcases h10 with h|⟨h1,_⟩;exact h;exact absurd (Classical.not_not.1 c0) h1)
 rw[List.drop_zero] at hk2;have hkk:DN.1.toNat=k:=by omega
 refine eB ?_;refine .g (de.gF rfl rfl rfl rfl (λhg=>aW (j:=DN.1.toNat) FU.out FC.out rfl (.when (.t rfl) hg) (.when (.t rfl) hg) (by(rcases h10 with⟨_,k,h2,_⟩|⟨h1,_⟩;omega;exact absurd (Classical.not_not.1 c0) h1)) (xw (by(rcases h10 with⟨_,k,h2,_,_,h5,_⟩|⟨h1,_⟩;omega;exact absurd (Classical.not_not.1 c0) h1))))) rfl rfl ?_;refine Z6 ?_;refine Cd (λc1=>?_) λc1=>?_
 ·
  refine cC ?_;refine Post.bh rfl rfl (4) (by exact⟨λh=>by simp at h,λh=>by(rw[zW,hk2] at h;rcases c1 with c1|c1;(rw[om (by omega)] at h;cases h);(by_cases hlt:k<l.length;(rw[gE (xw hlt)] at h;rw[hkk] at c1;rw[c1] at h;simp at h);(rw[om (by omega)] at h;cases h)))⟩) (λ_ _ _ _=>trivial) rfl (.cons (.rt rfl) ?_ (.cons (.rt rfl) ?_ (.cons (.rt rfl) ?_ .nil)))
  · exact aa.any
  · exact aa.any
  exact aa.refl _
 have hlt:k<l.length:=by(have:¬DN.1=(l.length:Int):=λh=>c1 (.inl h);omega)
 have hy:l[k]?=some (gI l k):=xw hlt;have hn5:¬(gI l k).Code=5:=λh=>c1 (.inr (by rw[hkk];exact h));rw[gE hy] at hk2;have h11:=(Wa (by omega) hk2).resolve_right hn5;refine eB ?_;refine Cd (λc2=>?_) λc2=>?_
 ·
  refine dh ?_;refine Post.bh rfl rfl (4) (by exact⟨λh=>by simp at h,λh=>by(rw[zW,hk2] at h;simp only[Option.some.injEq,List.cons.injEq] at h;have h9:=congrArg List.length h.2;rw[List.length_drop,D4] at h9;simp at h9;omega)⟩) (λ_ _ _ _=>trivial) rfl (.cons (.rt rfl) ?_ (.cons (.rt rfl) ?_ (.cons (.rt rfl) ?_ .nil)))
  · exact aa.any
  · exact aa.any
  exact aa.refl _
 refine dh ?_;refine Post.bh rfl rfl (0) (by exact⟨λ_=>by(rw[zW,hk2,h11,om (by omega)]),λ_=>rfl⟩) (λ_ _ _ _=>trivial) rfl (.cons (.rt rfl) ?_ (.cons (.rt rfl) ?_ (.cons (.rt rfl) ?_ .nil)))
 · exact aa.any
 · exact aa.any
 exact aa.refl _
theorem gN(ak:n<18446744073709551616):bu Wo 77 [af .u64 ((n:Int))] [] (γ:=List UInt8) (λz=>z.length=gy n) (λ_=>[]) (λz=>ai 1 an z):=by
 refine In 20 Tryz.func77 λ_ _ _=>?_;have PM:=ew ak;refine cC ?_;refine .fO 1 an ?_;refine Z2 ?_;refine .bk (σ:=SB×List UInt8×Nat) (λz=>[aH z.1 1 an z.2.1]) (λz=>[(3,ag (bI z.1 z.2.1.length)),(0,af .u64 (z.2.2:Int))]) (λz=>z.2.1.length+gy z.2.2=gy n/\z.2.2<=n) (λz=>z.2.2) (none,[],n) ⟨by simp,Nat.le_refl _⟩ rfl ?_ ?_
 · exact(.get rfl (aa.of_eq rfl) (.get rfl (aa.refl _) (.refl _ _)))
 rintro⟨g1,ys,j⟩ ⟨hl,hk⟩;simp only at hl hk ⊢;refine Z7 ?_;refine Cd (λc0=>?_) λc0=>?_
 ·
  refine Z7 ?_;refine .p (mh (b:=128) (by decide) (.t rfl) (.c _)) rfl ?_;refine .p ((cO FU.out FU.out (.t rfl)).le (aa.int (show _=((j%128:Nat):Int) by rw[pK];omega))) rfl ?_;refine .p ((ez (.t rfl) (.c _) bY).le (aa.trans (aa.int (show _=((j%128+128:Nat):Int) by omega)) (pL (by omega)))) rfl ?_;refine .p (cB an [(UInt8.ofNat (j%128+128))]) rfl ?_;refine .n (aK (i:=0) FU.out FU.out FC.out rfl FZ.out rfl FY.out (.t rfl) (.t rfl) rfl (by simp only[List.length_cons,List.length_nil];omega) (by simp only[List.length_cons,List.length_nil];omega)) rfl λqI _=>?_;refine Z5 ?_;refine .p (ua (b:=128) (by omega) (.t rfl) (.c _)) rfl ?_;refine Z3 ?_;refine .round (qI,ys++[(UInt8.ofNat (j%128+128))],j/128) ⟨by(show(ys++[_]).length+gy (j/128)=_;rw[List.length_append];simp only[List.length_cons,List.length_nil];have:=zJ (n:=j) (by omega);omega),by show j/128<=n;omega⟩ (by show j/128<j;omega) rfl ?_;exact(.get rfl (aa.refl _) (.get rfl (aa.refl _) ((.keep 15 rfl rfl))))
 refine Z9 ?_;refine .p ((cO FU.out FU.out (.t rfl)).le (aa.trans (aa.int (show _=((j:Nat):Int) by rw[pK];omega)) (pL (by omega)))) rfl ?_;refine .p (cB an [UInt8.ofNat j]) rfl ?_;refine .n (gW.eC (G:=λg=>g) (l6:=λ_=>_) (xs:=λ_=>_) (aK (i:=0) FU.out FU.out FC.out rfl FZ.out rfl FY.out (.t rfl) (.t rfl) rfl (by simp only[List.length_cons,List.length_nil];omega) (by simp only[List.length_cons,List.length_nil];omega))) rfl λ_ _=>?_;refine Z4 ?_;refine Post.aS rfl (ys++[UInt8.ofNat j]) (by exact(by(show(ys++[_]).length=_;rw[List.length_append];simp only[List.length_cons,List.length_nil];have:=wT (n:=j) (by omega);omega))) (λ_ _ _ h=>h) (.rt rfl) ?_;exact aa.refl _
theorem Mc(ak:n<18446744073709551616):bu Wo 77 [af .u64 ((n:Int))] [] (γ:=SB×List UInt8) (λz=>z.2.length=gy n) (λz=>[aH z.1 1 an z.2]) (λz=>ag (bI z.1 z.2.length)):=by
 refine In 20 Tryz.func77 λ_ _ _=>?_;have PM:=ew ak;refine cC ?_;refine .fO 1 an ?_;refine Z2 ?_;refine .bk (σ:=SB×List UInt8×Nat) (λz=>[aH z.1 1 an z.2.1]) (λz=>[(3,ag (bI z.1 z.2.1.length)),(0,af .u64 (z.2.2:Int))]) (λz=>z.2.1.length+gy z.2.2=gy n/\z.2.2<=n) (λz=>z.2.2) (none,[],n) ⟨by simp,Nat.le_refl _⟩ rfl ?_ ?_
 · exact(.get rfl (aa.of_eq rfl) (.get rfl (aa.refl _) (.refl _ _)))
 rintro⟨g1,ys,j⟩ ⟨hl,hk⟩;simp only at hl hk ⊢;refine Z7 ?_;refine Cd (λc0=>?_) λc0=>?_
 ·
  refine Z7 ?_;refine .p (mh (b:=128) (by decide) (.t rfl) (.c _)) rfl ?_;refine .p ((cO FU.out FU.out (.t rfl)).le (aa.int (show _=((j%128:Nat):Int) by rw[pK];omega))) rfl ?_;refine .p ((ez (.t rfl) (.c _) bY).le (aa.trans (aa.int (show _=((j%128+128:Nat):Int) by omega)) (pL (by omega)))) rfl ?_;refine .p (cB an [(UInt8.ofNat (j%128+128))]) rfl ?_;refine .n (aK (i:=0) FU.out FU.out FC.out rfl FZ.out rfl FY.out (.t rfl) (.t rfl) rfl (by simp only[List.length_cons,List.length_nil];omega) (by simp only[List.length_cons,List.length_nil];omega)) rfl λqI _=>?_;refine Z5 ?_;refine .p (ua (b:=128) (by omega) (.t rfl) (.c _)) rfl ?_;refine Z3 ?_;refine .round (qI,ys++[(UInt8.ofNat (j%128+128))],j/128) ⟨by(show(ys++[_]).length+gy (j/128)=_;rw[List.length_append];simp only[List.length_cons,List.length_nil];have:=zJ (n:=j) (by omega);omega),by show j/128<=n;omega⟩ (by show j/128<j;omega) rfl ?_;exact(.get rfl (aa.refl _) (.get rfl (aa.refl _) ((.keep 15 rfl rfl))))
 refine Z9 ?_;refine .p ((cO FU.out FU.out (.t rfl)).le (aa.trans (aa.int (show _=((j:Nat):Int) by rw[pK];omega)) (pL (by omega)))) rfl ?_;refine .p (cB an [UInt8.ofNat j]) rfl ?_;refine .n (aK (i:=0) FU.out FU.out FC.out rfl FZ.out rfl FY.out (.t rfl) (.t rfl) rfl (by simp only[List.length_cons,List.length_nil];omega) (by simp only[List.length_cons,List.length_nil];omega)) rfl λJF _=>?_;refine Z4 ?_;refine Post.aS rfl ((JF,ys++[UInt8.ofNat j])) (by exact(by(show(ys++[_]).length=_;rw[List.length_append];simp only[List.length_cons,List.length_nil];have:=wT (n:=j) (by omega);omega))) (λ_ _ _ h=>h) (.rt rfl) ?_;exact aa.refl _
theorem Md{n:Int}(ak: -9223372036854775808<=n)(aR:n<=9223372036854775807):bu Wo 121 [af .i64 (n)] [] (γ:=List UInt8) (λz=>z.length=kI n) (λ_=>[]) (λz=>ai 1 an z):=by
 refine In 50 Tryz.func121 λ_ _ _=>?_;have PM:=zK ak (by omega:n<9223372036854775808);refine cC ?_;refine .fO 1 an ?_;refine Z7 ?_;refine .bk (σ:=SB×List UInt8×Nat×Int) (λz=>[aH z.1 1 an z.2.1]) (λz=>[(0,af .i64 z.2.2.2),(3,ag (bI z.1 z.2.1.length)),(4,af .i64 (z.2.2.1:Int))]) (λz=>z.2.1.length=z.2.2.1/\z.2.2.1+kI z.2.2.2=kI n/\ -9223372036854775808<=z.2.2.2/\z.2.2.2<=9223372036854775807) (λz=>10-z.2.2.1) (none,[],0,n) ⟨rfl,by simp,ak,aR⟩ rfl ?_ ?_
 · exact(.get rfl (aa.refl _) (.get rfl (aa.of_eq rfl) (.get rfl (aa.refl _) (.refl _ _))))
 rintro⟨g1,ys,j,v⟩ ⟨hl,hk,WL,Gb⟩;simp only at hl hk WL Gb ⊢;have hpos:=GZ v;refine Z7 ?_;refine Cd (λc0=>?_) λc0=>?_
 ·
  refine Z7 ?_;refine .p (Rh (.t rfl) (.c _) (by decide)) rfl ?_;refine Z3 ?_;refine .cut (σ:=Unit) (λ_=>[aH g1 1 an ys]) (λ_=>[(5,af .i64 (v%128))]) (λ_=>True) ?_ ?_
  ·
   refine Z6 ?_;refine Cd (λc1=>?_) λc1=>?_
   ·
    refine Z2 ?_;refine .p (ez (.t rfl) (.c _) (cM (by rw[zX];split<;>omega) (by rw[zX];split<;>omega))) rfl ?_;refine Z2 ?_;refine .meet () trivial rfl (.get rfl (aa.int (by have h9:=zX v;split at h9<;>omega)) (.keep 5 rfl rfl))
   refine Z1 ?_;refine .meet () trivial rfl (.get rfl (aa.int (by have h9:=zX v;split at h9<;>omega)) (.keep 2 rfl rfl))
  intro _ _;refine Z4 ?_;refine .p (QO (.t rfl) (.t rfl)) rfl ?_;refine .p (Rg (.t rfl) (.c _) (by decide)) rfl ?_;refine Z3 ?_;refine .cut (σ:=Unit) (λ_=>[aH g1 1 an ys]) (λ_=>[(6,af .i64 (v/128))]) (λ_=>True) ?_ ?_
  ·
   refine Z6 ?_;refine Cd (λc2=>?_) λc2=>?_
   ·
    refine Z3 ?_;refine .meet () trivial rfl (.get rfl (aa.int (by omega)) (.keep 3 rfl rfl))
   refine Z1 ?_;refine .meet () trivial rfl (.get rfl (aa.int (Wd (by omega) Gb)) (.keep 2 rfl rfl))
  intro _ _;refine Cn ?_;refine Cd (λc3=>?_) λc3=>?_
  ·
   refine Z4 ?_;refine .p ((cO FU.out FU.out (.t rfl)).le (aa.trans (aa.int (show _=(((v%128).toNat:Nat):Int) by rw[pK];omega)) (pL (by omega)))) rfl ?_;refine .p (cB an [UInt8.ofNat (v%128).toNat]) rfl ?_;refine .n (gW.eC (G:=λg=>g) (l6:=λ_=>_) (xs:=λ_=>_) (aK (i:=0) FU.out FU.out FC.out rfl FZ.out rfl FY.out (.t rfl) (.t rfl) rfl (by simp only[List.length_cons,List.length_nil];omega) (by simp only[List.length_cons,List.length_nil];omega))) rfl λ_ _=>?_;refine cC ?_;refine Post.aS rfl (ys++[UInt8.ofNat (v%128).toNat]) (by exact(by(show(ys++[_]).length=_;rw[List.length_append];simp only[List.length_cons,List.length_nil];have:=P7 c3;omega))) (λ_ _ _ h=>h) (.rt rfl) ?_;exact aa.refl _
  refine Z6 ?_;refine .p ((cO FU.out FU.out (.t rfl)).le (aa.int (show _=v%128 by rw[pK];omega))) rfl ?_;refine .p ((ez (.t rfl) (.c _) bY).le (aa.trans (aa.int (show _=(((v%128+128).toNat:Nat):Int) by omega)) (pL (by omega)))) rfl ?_;refine .p (cB an [(UInt8.ofNat ((v%128+128).toNat))]) rfl ?_;refine .n (aK (i:=0) FU.out FU.out FC.out rfl FZ.out rfl FY.out (.t rfl) (.t rfl) rfl (by simp only[List.length_cons,List.length_nil];omega) (by simp only[List.length_cons,List.length_nil];omega)) rfl λg47 _=>?_;refine ij ?_;refine .round (g47,ys++[(UInt8.ofNat ((v%128+128).toNat))],j+1,v/128) ⟨by(show(ys++[_]).length=j+1;rw[List.length_append];simp only[List.length_cons,List.length_nil];omega),by(show j+1+kI (v/128)=_;have:=We c3;omega),by show _<=v/128;omega,by show v/128<=_;omega⟩ (by show 10-(j+1)<10-j;omega) rfl ?_;exact(.get rfl (aa.refl _) (.get rfl (aa.refl _) (.get rfl (aa.int (by show(_:Int)=((j+1:Nat):Int);omega)) ((.keep 41 rfl rfl)))))
 exfalso;omega
theorem Js{x:aj}(ak:p9 x):dF Wo 75 [aC (aB x)] (av (iH x)):=by
 refine In 125 Tryz.func75 λ_ _ _=>?_;have hxA:=ak.A0;have hxB:=ak.B0;have hxL:=ak.Ln;refine dh ?_;refine .p (cA (h:=L7)) rfl ?_;refine .p (QW (.t rfl) (.s [] rfl rfl)) rfl ?_;refine Z2 ?_;refine Cd (λc0=>?_) λc0=>?_
 ·
  refine Z7 ?_;refine br ?_;exact aa.prop ⟨λh=>h.elim,λh=>absurd c0 h.1⟩
 refine Z6 ?_;refine .p (cA (h:=jU)) rfl ?_;refine Z34 ?_;refine Cd (λc1=>?_) λc1=>?_
 ·
  refine Z7 ?_;refine br ?_;exact aa.prop ⟨λh=>h.elim,λh=>by(have h9:=h.2.1;unfold um at h9;omega)⟩
 refine Z33 ?_;refine Cd (λc2=>?_) λc2=>?_
 ·
  refine Z7 ?_;refine br ?_;exact aa.prop ⟨λh=>h.elim,λh=>by(have h9:=h.2.2.1;omega)⟩
 refine Z40 ?_;refine Z1 ?_;refine Cd (λc3=>?_) λc3=>?_
 ·
  refine Z7 ?_;refine br ?_;exact aa.prop ⟨λh=>h.elim,λh=>by(have h9:=h.2.2.2.1;omega)⟩
 refine Z9 ?_;refine .bk (σ:=Nat) (λ_=>[]) (λj=>[(4,af .i64 (j:Int))]) (λj=>j<=x.L.length/\∀n∈x.L.take j,um n) (λj=>x.L.length-j) 0 ⟨Nat.zero_le _,by simp⟩ rfl ?_ ?_
 · exact(.get rfl (aa.refl _) (.refl _ _))
 rintro j ⟨hj,hall⟩;refine cC ?_;refine Cd (λc4=>?_) λc4=>?_
 ·
  obtain⟨y,hy⟩:=ah (xs:=x.L) (k:=j) (by omega);refine Z9 ?_;refine .p (cI j (h:=hy)) rfl ?_;refine Z4 ?_;refine Cd (λc5=>?_) λc5=>?_
  ·
   refine dh ?_;refine br ?_;exact aa.prop ⟨λh=>h.elim,λh=>by(have h9:=h.2.2.2.2.1 y (List.mem_of_getElem? hy);unfold um at h9;omega)⟩
  refine Z8 ?_;refine .round (j+1) ⟨by omega,λn hn=>by(rw[<-bE hy] at hn;rcases List.mem_append.1 hn with hn|hn;exact hall n hn;(simp only[List.mem_singleton] at hn;subst hn;unfold um;omega))⟩ (by omega) rfl ?_;exact(.get rfl (aa.int (by omega)) ((.keep 15 rfl rfl)))
 have so:∀n∈x.L,um n:=λn hn=>hall n (by rw[List.take_of_length_le (by omega)];exact hn);refine Z25 ?_;refine br ?_;exact aa.prop (by unfold iH;simp only[<-List.length_eq_zero_iff];exact⟨λh=>⟨c0,by unfold um;omega,by omega,by omega,so,by omega⟩,λh=>by have h9:=h.2.2.2.2.2;omega⟩)
theorem FX{x:aj}(ak:nJ x)(aR:iH x):bu Wo 78 [aC (aB x)] [] (γ:=List UInt8) (λl=>l.length=nR x) (λ_=>[]) (λl=>ai 1 an l):=by
 refine In 129 Tryz.func78 λ_ _ _=>?_;obtain⟨r1,r2,r3,r4,r5,r6⟩:=id aR;have hL100:x.L.length<=100:=r6.elim (λh=>by rw[h];simp) (λh=>h.2);have og:=ak.A0;have zu:=ak.wY;have hB0:=ak.B0;have VZ:=ak.B64;have ha0:=ak.a0;have ch9:=ak.Yg;have hfb:=vz x.Code;have hci:=zP r1;have OL:x.Code=65->x.A<=4294967295:=λOL=>Classical.byContradiction λh9=>r2 (.inr (.inl ⟨OL,h9⟩));have hlA:bU x.A<=10:=ew (by omega);have hlB:bU x.B<=10:=ew (by omega);have O3:=ew (n:=x.L.length) (by omega);have hla:bU x.ei<=10:=ew (by omega);have ci0:bU (x.ei+64)<=10:=ew (by omega);refine cC ?_;refine .p ((cO FU.out FU.out (.t rfl)).le (aa.trans (aa.int (show _=(((x.Code%256).toNat:Nat):Int) by rw[pK])) (pL (by omega)))) rfl ?_;refine .n (dM an [UInt8.ofNat (x.Code%256).toNat] FU.out FC.out rfl FZ.out rfl (.cons (.t rfl) .nil) rfl rfl rfl rfl rfl) rfl λg9 _=>?_;refine Z3 ?_;refine .cut (σ:=SB×List UInt8) (λz=>[aH z.1 1 an z.2]) (λz=>[(3,ag (bI z.1 z.2.length))]) (λz=>z.2.length=pM x/\pM x<=11) ?_ ?_
 ·
  refine Z7 ?_;refine Cd (λc0=>?_) λc0=>?_
  ·
   have hhN:pM x=1+gy (x.Code-64512).toNat:=if_pos (by omega);have hhl:gy (x.Code-64512).toNat<=10:=ew (by omega);refine Z1 ?_;refine .n (dM an [252] FU.out FC.out rfl FZ.out rfl (.cons (.c _) .nil) rfl rfl rfl rfl rfl) rfl λZ0 _=>?_;refine Z4 ?_;refine .n (eV (rest:=[_,_]) (gN (n:=(x.Code-64512).toNat) (by omega)) FB.out (.cons (.le (.t rfl) (aa.int (show x.Code-64512=(((x.Code-64512).toNat:Nat):Int) by omega))) .nil) (Perm.idx [0,1] rfl rfl)) rfl λzT Vz=>?_;refine .n (aK (i:=0) FU.out FU.out FC.out rfl FZ.out rfl FY.out (.t rfl) (.t rfl) rfl (by simp only[List.length_append,List.length_cons,List.length_nil, *];(try unfold bU at*);omega) (by simp only[List.length_append,List.length_cons,List.length_nil, *];(try unfold bU at*);omega)) rfl λJF _=>?_;refine Z2 ?_;refine .own (aF.cZ [0] [1] rfl rfl) (bS.meet (JF,[252]++zT) ⟨by(show([252]++zT).length=_;rw[List.length_append,Vz,hhN];rfl),by omega⟩ rfl (.get rfl (aa.refl _) (.keep 11 rfl rfl)))
  have hhN:pM x=1:=if_neg (by omega);refine Z1 ?_;refine .meet (g9,[UInt8.ofNat (x.Code%256).toNat]) ⟨by rw[hhN];rfl,by omega⟩ rfl (.get rfl (aa.refl _) (.keep 3 rfl rfl))
 intro hd ⟨V0,ci1⟩;refine .cut (σ:=SB×List UInt8) (λz=>[aH z.1 1 an z.2]) (λz=>[(3,ag (bI z.1 z.2.length))]) (λz=>z.2.length=nR x) ?_ ?_
 ·
  refine Z4 ?_;refine .p (cA (h:=jU)) rfl ?_;refine Z9 ?_;refine Cd (λc1=>?_) λc1=>?_
  ·
   refine Z4 ?_;refine .p ((cO FU.out FU.out (.t rfl)).le (aa.trans (aa.int (show _=(((x.A%256).toNat:Nat):Int) by rw[pK])) (pL (by omega)))) rfl ?_;refine .p (cB an [UInt8.ofNat (x.A%256).toNat]) rfl ?_;refine .n (aK (i:=0) FU.out FU.out FC.out rfl FZ.out rfl FY.out (.t rfl) (.t rfl) rfl (by simp only[List.length_append,List.length_cons,List.length_nil, *];(try unfold bU at*);omega) (by simp only[List.length_append,List.length_cons,List.length_nil, *];(try unfold bU at*);omega)) rfl λZW _=>?_;refine Z3 ?_;refine .meet (ZW,hd.2++[UInt8.ofNat (x.A%256).toNat]) (by(show((ZW,hd.2++[UInt8.ofNat (x.A%256).toNat])).2.length=nR x;simp only[List.length_append];rw[V0];rw[iX];rw[if_pos c1];rfl)) rfl (.get rfl (aa.refl _) (.keep 12 rfl rfl))
  refine .cut (σ:=Unit) (λ_=>[aH hd.1 1 an hd.2]) (λ_=>[(31,av (aP x.Code=2\/aP x.Code=4\/aP x.Code=6\/aP x.Code=7\/aP x.Code=9))]) (λ_=>True) ?_ ?_
  ·
   refine Z6 ?_;refine Cd (λc2=>?_) λc2=>?_
   ·
    refine Z1 ?_;refine .meet () trivial rfl (.get rfl (aa.prop (by omega)) (.keep 2 rfl rfl))
   refine Z6 ?_;refine Cd (λc3=>?_) λc3=>?_
   ·
    refine Z1 ?_;refine .meet () trivial rfl (.get rfl (aa.prop (by omega)) (.keep 4 rfl rfl))
   refine Z6 ?_;refine Cd (λc4=>?_) λc4=>?_
   ·
    refine Z1 ?_;refine .meet () trivial rfl (.get rfl (aa.prop (by omega)) (.keep 6 rfl rfl))
   refine Z6 ?_;refine Cd (λc5=>?_) λc5=>?_
   ·
    refine Z1 ?_;refine .meet () trivial rfl (.get rfl (aa.prop (by omega)) (.keep 8 rfl rfl))
   refine Z4 ?_;refine .meet () trivial rfl (.get rfl (aa.prop (by omega)) (.keep 10 rfl rfl))
  intro _ _;refine Cd (λc6=>?_) λc6=>?_
  ·
   refine Z4 ?_;refine .n (eV (rest:=[_]) (gN (n:=x.A.toNat) (by omega)) FB.out (.cons (.le (.t rfl) (aa.int (show x.A=(((x.A).toNat:Nat):Int) by omega))) .nil) (Perm.idx [0] rfl rfl)) rfl λwe T5=>?_;refine .n (aK (i:=0) FU.out FU.out FC.out rfl FZ.out rfl FY.out (.t rfl) (.t rfl) rfl (by simp only[List.length_append,List.length_cons,List.length_nil, *];(try unfold bU at*);omega) (by simp only[List.length_append,List.length_cons,List.length_nil, *];(try unfold bU at*);omega)) rfl λKS _=>?_;refine Z3 ?_;refine .meet (KS,hd.2++we) (by(show((KS,hd.2++we)).2.length=nR x;simp only[List.length_append];rw[V0,T5];rw[iX];rw[if_neg c1,if_pos c6];rfl)) rfl (.get rfl (aa.refl _) (.keep 12 rfl rfl))
  refine Z6 ?_;refine Cd (λc7=>?_) λc7=>?_
  ·
   refine Z7 ?_;refine .n (cE (h:=gN (n:=x.L.length) (by omega))) rfl λVB ZR=>?_;refine .n (aK (i:=0) FU.out FU.out FC.out rfl FZ.out rfl FY.out (.t rfl) (.t rfl) rfl (by simp only[List.length_append,List.length_cons,List.length_nil, *];(try unfold bU at*);omega) (by simp only[List.length_append,List.length_cons,List.length_nil, *];(try unfold bU at*);omega)) rfl λY2 _=>?_;refine cC ?_;refine .bk (σ:=Nat×SB×List UInt8) (λz=>[aH z.2.1 1 an z.2.2]) (λz=>[(3,ag (bI z.2.1 z.2.2.length)),(4,af .i64 (z.1:Int))]) (λz=>z.1<=x.L.length/\z.2.2.length=pM x+gy x.L.length+s8 (x.L.take z.1)) (λz=>x.L.length-z.1) (0,Y2,hd.2++VB) ⟨Nat.zero_le _,by(show(hd.2++VB).length=_;rw[List.length_append,V0,ZR];simp[s8])⟩ rfl ?_ ?_
   · exact(.get rfl (aa.refl _) (.get rfl (aa.refl _) (.refl _ _)))
   rintro⟨j,g1,ys⟩ ⟨hj,hys⟩;simp only at hj hys ⊢;have hsu:=rE (x.L.take j) (λn hn=>⟨ak.L0 n (List.mem_of_mem_take hn),by have h9:n<=4294967295:=r5 n (List.mem_of_mem_take hn);omega⟩);rw[List.length_take] at hsu;refine cC ?_;refine Cd (λc8=>?_) λc8=>?_
   ·
    obtain⟨y,hy⟩:=ah (xs:=x.L) (k:=j) (by omega);have hy0:=ak.L0 y (List.mem_of_getElem? hy);have hy1:y<=4294967295:=r5 y (List.mem_of_getElem? hy);have hyl:gy y.toNat<=10:=ew (by omega);refine Z9 ?_;refine .p (cI j (h:=hy)) rfl ?_;refine Z1 ?_;refine .n (eV (rest:=[_]) (gN (n:=y.toNat) (by omega)) FB.out (.cons (.le (.t rfl) (aa.int (show y=(((y).toNat:Nat):Int) by omega))) .nil) (Perm.idx [0] rfl rfl)) rfl λg64 Va=>?_;refine .n (aK (i:=0) FU.out FU.out FC.out rfl FZ.out rfl FY.out (.t rfl) (.t rfl) rfl (by simp only[List.length_append,List.length_cons,List.length_nil, *];(try unfold bU at*);omega) (by simp only[List.length_append,List.length_cons,List.length_nil, *];(try unfold bU at*);omega)) rfl λg65 _=>?_;refine Z9 ?_;refine .round (j+1,g65,ys++g64) ⟨by show j+1<=_;omega,by(show(ys++g64).length=_;rw[List.length_append,Va,hys,<-bE hy,DG];unfold bU;omega)⟩ (by show x.L.length-(j+1)<x.L.length-j;omega) rfl ?_;exact(.get rfl (aa.refl _) (.get rfl (aa.int (by show(_:Int)=((j+1:Nat):Int);omega)) ((.keep 19 rfl rfl))))
   have hjl:x.L.take j=x.L:=List.take_of_length_le (by omega);rw[hjl] at hys hsu;refine Z9 ?_;refine .n (eV (rest:=[_]) (gN (n:=x.A.toNat) (by omega)) FB.out (.cons (.le (.t rfl) (aa.int (show x.A=(((x.A).toNat:Nat):Int) by omega))) .nil) (Perm.idx [0] rfl rfl)) rfl λg69 h69=>?_;refine .n (aK (i:=0) FU.out FU.out FC.out rfl FZ.out rfl FY.out (.t rfl) (.t rfl) rfl (by simp only[List.length_append,List.length_cons,List.length_nil, *];(try unfold bU at*);omega) (by simp only[List.length_append,List.length_cons,List.length_nil, *];(try unfold bU at*);omega)) rfl λg70 _=>?_;refine Z3 ?_;refine .meet (g70,ys++g69) (by(show((g70,ys++g69)).2.length=nR x;simp only[List.length_append];rw[hys,h69];rw[iX];rw[if_neg c1,if_neg c6,if_pos c7];unfold bU;omega)) rfl (.get rfl (aa.refl _) (.keep 30 rfl rfl))
  refine .cut (σ:=Unit) (λ_=>[aH hd.1 1 an hd.2]) (λ_=>[(71,av (aP x.Code=5\/aP x.Code=10))]) (λ_=>True) ?_ ?_
  ·
   refine Z6 ?_;refine Cd (λc9=>?_) λc9=>?_
   ·
    refine Z1 ?_;refine .meet () trivial rfl (.get rfl (aa.prop (by omega)) (.keep 2 rfl rfl))
   refine Z4 ?_;refine .meet () trivial rfl (.get rfl (aa.prop (by omega)) (.keep 4 rfl rfl))
  intro _ _;refine Cd (λlZ=>?_) λlZ=>?_
  ·
   refine .bt [(0,0),(1,0),(2,0),(5,0),(6,0),(3,2),(4,2)] 7 3 FM.out (by kernel_rfl) (k:= ?_);refine Z5 ?_;refine .e rfl (eV (rest:=[_]) (gN (n:=x.A.toNat) (by omega)) FB.out (.cons (.le (.t rfl) (aa.int (show x.A=(((x.A).toNat:Nat):Int) by omega))) .nil) (Perm.idx [0] rfl rfl)) λg77 h77=>?_;refine .e rfl (aK (i:=0) FU.out FU.out FC.out rfl FZ.out rfl FY.out (.t rfl) (.t rfl) rfl (by simp only[List.length_append,List.length_cons,List.length_nil, *];(try unfold bU at*);omega) (by simp only[List.length_append,List.length_cons,List.length_nil, *];(try unfold bU at*);omega)) λg78 _=>?_;refine .fin ?_;refine .n (eV (rest:=[_]) (gN (n:=x.B.toNat) (by omega)) FB.out (.cons (.le (.t rfl) (aa.int (show x.B=(((x.B).toNat:Nat):Int) by omega))) .nil) (Perm.idx [0] rfl rfl)) rfl λg81 h81=>?_;refine .n (aK (i:=0) FU.out FU.out FC.out rfl FZ.out rfl FY.out (.t rfl) (.t rfl) rfl (by simp only[List.length_append,List.length_cons,List.length_nil, *];(try unfold bU at*);omega) (by simp only[List.length_append,List.length_cons,List.length_nil, *];(try unfold bU at*);omega)) rfl λYW _=>?_;refine Z3 ?_;refine .meet (YW,(hd.2++g77)++g81) (by(show((YW,(hd.2++g77)++g81)).2.length=nR x;simp only[List.length_append];rw[V0,h77,h81];rw[iX];rw[if_neg c1,if_neg c6,if_neg c7,if_pos lZ];unfold bU;omega)) rfl (.get rfl (aa.refl _) (.keep 19 rfl rfl))
  refine Z6 ?_;refine Cd (λn8=>?_) λn8=>?_
  ·
   refine .cut (σ:=SB×List UInt8) (λz=>[aH z.1 1 an z.2]) (λz=>[(3,ag (bI z.1 z.2.length))]) (λz=>z.2.length=pM x+(if x.A=0 then bU x.ei else bU (x.ei+64)+bU x.A)) ?_ ?_
   ·
    refine Z7 ?_;refine Cd (λqB=>?_) λqB=>?_
    ·
     refine Z5 ?_;refine .n (eV (rest:=[_]) (gN (n:=x.ei.toNat) (by omega)) FB.out (.cons (.le (.t rfl) (aa.int (show x.ei=(((x.ei).toNat:Nat):Int) by omega))) .nil) (Perm.idx [0] rfl rfl)) rfl λXm Y7=>?_;refine .n (aK (i:=0) FU.out FU.out FC.out rfl FZ.out rfl FY.out (.t rfl) (.t rfl) rfl (by simp only[List.length_append,List.length_cons,List.length_nil, *];(try unfold bU at*);omega) (by simp only[List.length_append,List.length_cons,List.length_nil, *];(try unfold bU at*);omega)) rfl λg93 _=>?_;refine Z2 ?_;refine .meet (g93,hd.2++Xm) (by(show(hd.2++Xm).length=_;rw[if_pos qB,List.length_append,V0,Y7];rfl)) rfl (.get rfl (aa.refl _) (.keep 10 rfl rfl))
    refine .bt [(0,0),(1,0),(2,0),(3,0),(4,0),(7,0),(8,0),(5,2),(6,2)] 9 3 FM.out (by kernel_rfl) (k:= ?_);refine Z7 ?_;refine .e rfl (eV (rest:=[_]) (gN (n:=(x.ei+64).toNat) (by omega)) FB.out (.cons (.le (.t rfl) (aa.int (show x.ei+64=(((x.ei+64).toNat:Nat):Int) by omega))) .nil) (Perm.idx [0] rfl rfl)) λg99 h99=>?_;refine .e rfl (aK (i:=0) FU.out FU.out FC.out rfl FZ.out rfl FY.out (.t rfl) (.t rfl) rfl (by simp only[List.length_append,List.length_cons,List.length_nil, *];(try unfold bU at*);omega) (by simp only[List.length_append,List.length_cons,List.length_nil, *];(try unfold bU at*);omega)) λal3 _=>?_;refine .fin ?_;refine .n (eV (rest:=[_]) (gN (n:=x.A.toNat) (by omega)) FB.out (.cons (.le (.t rfl) (aa.int (show x.A=(((x.A).toNat:Nat):Int) by omega))) .nil) (Perm.idx [0] rfl rfl)) rfl λYX ai8=>?_;refine .n (aK (i:=0) FU.out FU.out FC.out rfl FZ.out rfl FY.out (.t rfl) (.t rfl) rfl (by simp only[List.length_append,List.length_cons,List.length_nil, *];(try unfold bU at*);omega) (by simp only[List.length_append,List.length_cons,List.length_nil, *];(try unfold bU at*);omega)) rfl λaO6 _=>?_;refine Z2 ?_;refine .meet (aO6,(hd.2++g99)++YX) (by(show((hd.2++g99)++YX).length=_;rw[if_neg qB,List.length_append,List.length_append,V0,h99,ai8];unfold bU;omega)) rfl (.get rfl (aa.refl _) (.keep 15 rfl rfl))
   intro mm hmm;have ci2:mm.2.length<=40:=by rw[hmm];split<;>omega
   refine Z4 ?_;refine .n (eV (rest:=[_]) (gN (n:=x.B.toNat) (by omega)) FB.out (.cons (.le (.t rfl) (aa.int (show x.B=(((x.B).toNat:Nat):Int) by omega))) .nil) (Perm.idx [0] rfl rfl)) rfl λTL TM=>?_;refine .n (aK (i:=0) FU.out FU.out FC.out rfl FZ.out rfl FY.out (.t rfl) (.t rfl) rfl (by simp only[List.length_append,List.length_cons,List.length_nil, *];(try unfold bU at*);omega) (by simp only[List.length_append,List.length_cons,List.length_nil, *];(try unfold bU at*);omega)) rfl λam2 _=>?_;refine Z3 ?_;refine .meet (am2,mm.2++TL) (by(show((am2,mm.2++TL)).2.length=nR x;simp only[List.length_append];rw[hmm,TM];rw[iX];rw[if_neg c1,if_neg c6,if_neg c7,if_neg lZ,if_pos n8];unfold Kx bU;omega)) rfl (.get rfl (aa.refl _) (.keep 18 rfl rfl))
  refine Z6 ?_;refine Cd (λv8=>?_) λv8=>?_
  ·
   refine Z4 ?_;refine .p ((cO FU.out FU.out (.t rfl)).le (aa.int (M3 og zu))) rfl ?_;refine Z3 ?_;refine .cut (σ:=Unit) (λ_=>[aH hd.1 1 an hd.2]) (λ_=>[(5,af .i64 (lu x))]) (λ_=>True) ?_ ?_
   ·
    refine dh ?_;refine Cd (λs7=>?_) λs7=>?_
    ·
     refine Z2 ?_;refine .p (iy (.t rfl) (.c _) (cM (by split<;>omega) (by split<;>omega))) rfl ?_;refine Z2 ?_;refine .meet () trivial rfl (.get rfl (aa.int (by(have h8:=OL s7.1;have h7:=s7.2;rw[if_pos (by omega)] at h7;unfold lu;rw[if_pos s7.1,if_pos (by omega),if_neg (by omega)]))) (.keep 10 rfl rfl))
    refine Z1 ?_;refine .meet () trivial rfl (.get rfl (aa.int (by(unfold lu;by_cases h9:x.Code=65;(have h8:=OL h9;rw[if_pos h9,if_pos (by omega),if_pos (Classical.byContradiction λh=>s7 ⟨h9,by rw[if_pos (by omega)];omega⟩)]);rw[if_neg h9]))) (.keep 7 rfl rfl))
   intro _ _;have hwv: -9223372036854775808<=lu x/\lu x<=9223372036854775807:=by unfold lu;split<;>(try have:=OL (by assumption))<;>split<;>omega
   have hlw:=zK hwv.1 (by omega:lu x<9223372036854775808);refine Z3 ?_;refine .n (cE (h:=Md (n:=lu x) hwv.1 hwv.2)) rfl λam3 aO7=>?_;refine .n (aK (i:=0) FU.out FU.out FC.out rfl FZ.out rfl FY.out (.t rfl) (.t rfl) rfl (by simp only[List.length_append,List.length_cons,List.length_nil, *];(try unfold bU at*);omega) (by simp only[List.length_append,List.length_cons,List.length_nil, *];(try unfold bU at*);omega)) rfl λam4 _=>?_;refine Z3 ?_;refine .meet (am4,hd.2++am3) (by(show((am4,hd.2++am3)).2.length=nR x;simp only[List.length_append];rw[V0,aO7];rw[iX];rw[if_neg c1,if_neg c6,if_neg c7,if_neg lZ,if_neg n8,if_pos v8])) rfl (.get rfl (aa.refl _) (.keep 23 rfl rfl))
  refine Z2 ?_;refine .meet hd (by(show(hd).2.length=nR x;rw[V0];rw[iX];rw[if_neg c1,if_neg c6,if_neg c7,if_neg lZ,if_neg n8,if_neg v8];rfl)) rfl (.get rfl (aa.refl _) (.keep 13 rfl rfl))
 intro z hz;refine Z1 ?_;refine .eC (t:=3) (i:=0) (g:=z.1) (xs:=z.2) rfl rfl ?_;refine Z6 ?_;refine Post.aS rfl (z.2) (by exact hz) (λ_ _ _ h=>h) (.rt rfl) ?_;exact aa.refl _
theorem Jt{b:j8}(ak:Vg b):bu Wo 39 [aC (iT b)] [] (γ:=Int) (λe=>e=0↔nI b) (λ_=>[]) (λe=>aZ [fS,af .i64 e]):=by
 refine In 130 Tryz.func39 λ_ _ _=>?_;have Ac:=ak.len;have hbo:=ak.loc;refine ij ?_;refine .bk (σ:=Nat) (λ_=>[]) (λj=>[(4,af .i64 (j:Int))]) (λj=>j<=b.L.length/\∀x∈b.L.take j,iH x) (λj=>b.L.length-j) 0 ⟨Nat.zero_le _,by simp⟩ rfl ?_ ?_
 · exact(.get rfl (aa.refl _) (.refl _ _))
 rintro j ⟨hj,hall⟩;refine cC ?_;refine Cd (λc0=>?_) λc0=>?_
 ·
  obtain⟨x,hx⟩:=ah (xs:=b.L) (k:=j) (by omega);refine Z9 ?_;refine .p (cI j (h:=hx)) rfl ?_;refine Z1 ?_;refine .p (cA (h:=Js (ak.ins x (List.mem_of_getElem? hx)))) rfl ?_;refine Z3 ?_;refine Cd (λc1=>?_) λc1=>?_
  ·
   have hno:¬nI b:=λh=>c1 (h.1 x (List.mem_of_getElem? hx));refine eB ?_;refine Post.bh rfl rfl (1) (by exact⟨λh=>by simp at h,λh=>absurd h hno⟩) (λ_ _ _ h=>h) rfl (.cons (.rt rfl) ?_ (.cons (.rt rfl) ?_ .nil))
   · exact aa.any
   exact aa.refl _
  refine Z8 ?_;refine .round (j+1) ⟨by omega,λy hy=>by(rw[<-bE hx] at hy;rcases List.mem_append.1 hy with hy|hy;exact hall y hy;(simp only[List.mem_singleton] at hy;subst hy;exact Classical.not_not.1 c1))⟩ (by omega) rfl ?_;exact(.get rfl (aa.int (by omega)) ((.keep 16 rfl rfl)))
 have LK:∀x∈b.L,iH x:=λx hx=>hall x (by rw[List.take_of_length_le (by omega)];exact hx);refine eB ?_;refine .bk (σ:=Nat) (λ_=>[]) (λj=>[(5,af .i64 (j:Int))]) (λj=>j<=b.aV.length/\∀t∈b.aV.take j,t=126\/t=127) (λj=>b.aV.length-j) 0 ⟨Nat.zero_le _,by simp⟩ rfl ?_ ?_
 · exact(.get rfl (aa.refl _) (.refl _ _))
 rintro j ⟨hj2,htl⟩;refine cC ?_;refine Cd (λc2=>?_) λc2=>?_
 ·
  obtain⟨t,ht⟩:=ah (xs:=b.aV) (k:=j) (by omega);refine Z9 ?_;refine .p (cI j (h:=ht)) rfl ?_;refine Z6 ?_;refine .g (de.gT rfl rfl rfl rfl (λhg=>aW (j:=j) FU.out FC.out rfl (.when (.t rfl) hg) (.when (.t rfl) hg) rfl ht)) rfl rfl ?_;refine Z5 ?_;refine Cd (λc3=>?_) λc3=>?_
  ·
   have hno:¬nI b:=λh=>by(have h9:=h.2.1 t (List.mem_of_getElem? ht);rw[<-Tx,<-Tz] at h9;omega)
   refine eB ?_;refine Post.bh rfl rfl (1) (by exact⟨λh=>by simp at h,λh=>absurd h hno⟩) (λ_ _ _ h=>h) rfl (.cons (.rt rfl) ?_ (.cons (.rt rfl) ?_ .nil))
   · exact aa.any
   exact aa.refl _
  refine Z8 ?_;refine .round (j+1) ⟨by omega,λy hy=>by(rw[<-bE ht] at hy;rcases List.mem_append.1 hy with hy|hy;exact htl y hy;(simp only[List.mem_singleton] at hy;subst hy;rw[<-Tx,<-Tz];omega))⟩ (by omega) rfl ?_;exact(.get rfl (aa.int (by omega)) ((.keep 23 rfl rfl)))
 have hty:∀t∈b.aV,t=126\/t=127:=λt hx=>htl t (by rw[List.take_of_length_le (by omega)];exact hx);refine ij ?_;refine Cd (λc4=>?_) λc4=>?_
 ·
  have hno:¬nI b:=λh=>by(have h9:=h.2.2.1;omega)
  refine Z8 ?_;refine Post.bh rfl rfl (1) (by exact⟨λh=>by simp at h,λh=>absurd h hno⟩) (λ_ _ _ h=>h) rfl (.cons (.rt rfl) ?_ (.cons (.rt rfl) ?_ .nil))
  · exact aa.any
  exact aa.refl _
 refine Z6 ?_;refine .n (cE (h:=Jr (l:=b.L) Ac)) rfl λg56 h56=>?_;refine Cm ?_;refine Cd (λc5=>?_) λc5=>?_
 ·
  have hno:¬nI b:=λh=>c5 (h56.2 h.2.2.2.1);refine Z9 ?_;refine Post.bh rfl rfl (g56) (by exact⟨λh=>absurd h c5,λh=>absurd h hno⟩) (λ_ _ _ h=>h) rfl (.cons (.rt rfl) ?_ (.cons (.rt rfl) ?_ .nil))
  · exact aa.any
  exact aa.refl _
 have hnr:=h56.1 (Classical.not_not.1 c5);refine Z7 ?_;refine .fO 1 an ?_;refine eB ?_;refine .bk (σ:=Nat×SB×List UInt8×List Nat) (λz=>[aH z.2.1 1 an z.2.2.1]) (λz=>[(9,ag (bI z.2.1 z.2.2.1.length)),(10,af .i64 (z.2.2.2.length:Int)),(11,af .i64 (z.1:Int))]) (λz=>z.1<=b.aV.length/\iI b.aV=z.2.2.2++iI (b.aV.drop z.1)/\z.2.2.1.length=xC z.2.2.2/\z.2.2.2.length<=z.1/\∀n∈z.2.2.2,n<=1000000) (λz=>b.aV.length-z.1) (0,none,[],[]) ⟨Nat.zero_le _,rfl,rfl,Nat.le_refl _,by simp⟩ rfl ?_ ?_
 · exact(.get rfl (aa.of_eq rfl) (.get rfl (aa.refl _) (.get rfl (aa.refl _) (.refl _ _))))
 rintro⟨k,g1,ys,pre⟩ ⟨hk,hru,hys,jg,Q7⟩;simp only at hk hru hys jg Q7 ⊢;have hsn:=Jf pre Q7;refine cC ?_;refine Cd (λc6=>?_) λc6=>?_
 ·
  obtain⟨t,PE⟩:=ah (xs:=b.aV) (k:=k) (by omega);refine dh ?_;refine .bk (σ:=Nat) (λ_=>[aH g1 1 an ys]) (λq=>[(12,af .i64 (q:Int))]) (λq=>k<=q/\q<=b.aV.length/\∀j,j<q-k->(b.aV.drop k)[j]?=some t) (λq=>b.aV.length-q) k ⟨Nat.le_refl _,by omega,λj hj=>by omega⟩ rfl ?_ ?_
  · exact(.get rfl (aa.refl _) (.refl _ _))
  rintro k2 ⟨u5,hk2,hal⟩;refine Z2 ?_;refine .bL 16 2 FM.out (by kernel_rfl) (k:= ?_);refine Z9 ?_;refine .cons (de.gT rfl rfl rfl rfl (λhg=>aW (j:=k2) FU.out FC.out rfl (.when (.t rfl) hg) (.when (.t rfl) hg) rfl (NJ (by omega)))) ?_;refine Z4 ?_;refine .cons (de.gT rfl rfl rfl rfl (λhg=>aW (j:=k) FU.out FC.out rfl (.when (.t rfl) hg) (.when (.t rfl) hg) rfl PE)) ?_;refine Z6 ?_;refine Cd (λc7=>?_) λc7=>?_
  ·
   refine Z9 ?_;refine .round (k2+1) ⟨by omega,by omega,λj hj=>by(by_cases hjj:j<k2-k;exact hal j hjj;(rw[List.getElem?_drop,show k+j=k2 by omega];have h9:=c7.2;rw[Du] at h9;rw[NJ (by omega),h9]))⟩ (by omega) rfl ?_;exact(.get rfl (aa.int (by omega)) ((.keep 22 rfl rfl)))
  have hkk:=TA u5 PE c7;have hlead:=Wf hkk hk2 hal c7;have PM:gy (k2-k)<=10:=ew (by omega);refine Z6 ?_;refine .bt [(0,0),(1,0),(2,0),(3,0),(4,0),(7,0),(8,0),(9,0),(10,0),(11,0),(12,0),(5,2),(6,2)] 13 2 FM.out (by kernel_rfl) (k:= ?_);refine Z8 ?_;refine .p rfl (λ_=>aW (j:=k) FU.out FC.out rfl (.t rfl) (.t rfl) rfl PE) ?_;refine Z1 ?_;refine .p rfl (λ_=>bC (enc:=an) [t] FU.out FC.out rfl FZ.out rfl (.cons (.t rfl) .nil) rfl rfl rfl rfl rfl) ?_;refine .e rfl (eV (rest:=[_]) (gN (n:=k2-k) (by omega)) FB.out (.cons (.le (.t rfl) (aa.int (show(k2:Int)-(k:Int)=((k2-k:Nat):Int) by omega))) .nil) (Perm.idx [0] rfl rfl)) λg94 h94=>?_;refine .e rfl (aK (i:=0) FU.out FU.out FC.out rfl FZ.out rfl FY.out (.t rfl) (.t rfl) rfl (by simp only[List.length_append,List.length_cons,List.length_nil, *];omega) (by simp only[List.length_append,List.length_cons,List.length_nil, *];omega)) λg95 _=>?_;refine .fin ?_;refine .n (aK (i:=0) FU.out FU.out FC.out rfl FZ.out rfl FY.out (.t rfl) (.t rfl) rfl (by simp only[List.length_append,List.length_cons,List.length_nil, *];omega) (by simp only[List.length_append,List.length_cons,List.length_nil, *];omega)) rfl λaO8 _=>?_;refine oA ?_;refine .round (k2,aO8,(ys++g94)++[t],pre++[k2-k]) ⟨by show k2<=_;omega,by(show _=(pre++[k2-k])++iI (b.aV.drop k2);rw[hru,hlead,List.append_assoc];rfl),by(show((ys++g94)++[t]).length=_;rw[List.length_append,List.length_append,hys,h94,P9];simp only[List.length_cons,List.length_nil];omega),by(show(pre++[k2-k]).length<=k2;rw[List.length_append];simp only[List.length_cons,List.length_nil];omega),λn hn=>by(rcases List.mem_append.1 hn with hn|hn;exact Q7 n hn;(simp only[List.mem_singleton] at hn;subst hn;omega))⟩ (by show b.aV.length-k2<b.aV.length-k;omega) rfl ?_;exact(.get rfl (aa.refl _) (.get rfl (aa.int (by simp)) (.get rfl (aa.refl _) ((.keep 49 rfl rfl)))))
 have JN:b.aV.drop k=[]:=List.drop_eq_nil_of_le (by omega);rw[JN,Qa,List.append_nil] at hru;refine Z6 ?_;have hlp:gy pre.length<=10:=ew (by omega);refine .eC (t:=9) (i:=0) (g:=g1) (xs:=ys) rfl rfl ?_;refine Z3 ?_;refine .n (cE (h:=Mc (n:=pre.length) (by omega))) rfl λTL TM=>?_;refine Z1 ?_;refine .n (aK (i:=0) FU.out FU.out FC.out rfl FZ.out rfl FY.out (.t rfl) (.t rfl) rfl (by rw[TM];omega) (by rw[TM];omega)) rfl λaO9 _=>?_;refine cC ?_;refine .bk (σ:=Nat×SB×List UInt8) (λz=>[aH z.2.1 1 an z.2.2]) (λz=>[(9,ag (bI z.2.1 z.2.2.length)),(13,af .i64 (z.1:Int))]) (λz=>z.1<=b.L.length/\z.2.2.length=gy pre.length+xC pre+ye (b.L.take z.1)) (λz=>b.L.length-z.1) (0,aO9,TL.2++ys) ⟨Nat.zero_le _,by(show(TL.2++ys).length=_;rw[List.length_append,TM,hys];simp[ye])⟩ rfl ?_ ?_
 · exact(.get rfl (aa.refl _) (.get rfl (aa.refl _) (.refl _ _)))
 rintro⟨i,g2,ws⟩ ⟨hi,hzs⟩;simp only at hi hzs ⊢;have hsi:=EJ (b.L.take i) (λx hx=>⟨.of (ak.ins x (List.mem_of_mem_take hx)) (LK x (List.mem_of_mem_take hx)),LK x (List.mem_of_mem_take hx)⟩);rw[List.length_take] at hsi;refine cC ?_;refine Cd (λc8=>?_) λc8=>?_
 ·
  obtain⟨y,hy⟩:=ah (xs:=b.L) (k:=i) (by omega);have hyl:=EI (.of (ak.ins y (List.mem_of_getElem? hy)) (LK y (List.mem_of_getElem? hy))) (LK y (List.mem_of_getElem? hy));refine Z9 ?_;refine .p (cI i (h:=hy)) rfl ?_;refine Z1 ?_;refine .n (cE (h:=FX (.of (ak.ins y (List.mem_of_getElem? hy)) (LK y (List.mem_of_getElem? hy))) (LK y (List.mem_of_getElem? hy)))) rfl λam5 aP0=>?_;refine .n (aK (i:=0) FU.out FU.out FC.out rfl FZ.out rfl FY.out (.t rfl) (.t rfl) rfl (by simp only[List.length_append,List.length_cons,List.length_nil, *];omega) (by simp only[List.length_append,List.length_cons,List.length_nil, *];omega)) rfl λaP1 _=>?_;refine Z9 ?_;refine .round (i+1,aP1,ws++am5) ⟨by show i+1<=_;omega,by(show(ws++am5).length=_;rw[List.length_append,aP0,hzs,<-bE hy,DH];omega)⟩ (by show b.L.length-(i+1)<b.L.length-i;omega) rfl ?_;exact(.get rfl (aa.refl _) (.get rfl (aa.int (by show(_:Int)=((i+1:Nat):Int);omega)) ((.keep 19 rfl rfl))))
 have Ca:b.L.take i=b.L:=List.take_of_length_le (by omega);rw[Ca] at hzs;have htot:ws.length=Kq b:=by rw[hzs,Tw,hru]
 refine kL ?_;refine Cd (λc9=>?_) λc9=>?_
 ·
  refine Z8 ?_;refine Post.bh rfl rfl (15) (by exact⟨λh=>by simp at h,λh=>by have:=h.2.2.2.2;omega⟩) (λ_ _ _ _=>trivial) rfl (.cons (.rt rfl) ?_ (.cons (.rt rfl) ?_ .nil))
  · exact aa.any
  exact aa.refl _
 refine cC ?_;refine Post.bh rfl rfl (0) (by exact⟨λ_=>⟨LK,hty,by omega,hnr,by omega⟩,λ_=>rfl⟩) (λ_ _ _ _=>trivial) rfl (.cons (.rt rfl) ?_ (.cons (.rt rfl) ?_ .nil))
 · exact aa.any
 exact aa.refl _
theorem C2{f:cn}{i:Nat}(ak:fV m)(aR:m.aq[i]?=some f)(bO:m.aq.length<=60000):bu Wo 16 [aC (bp m),af .i64 ((i:Int))] [] (γ:=Int×Int×List Nat) (Zu m f) (λ_=>[]) (λg=>aC [af .i64 g.1,af .i64 g.2.1,ai 1 fU g.2.2]):=by
 refine In 51 Tryz.func16 λ_ _ _=>?_;have Ca:=(List.getElem?_eq_some_iff.1 aR).1;have rZ:f∈m.aq:=List.mem_of_getElem? aR;refine Z3 ?_;refine .n (au FZ.out) rfl λb4 _=>?_;refine Z5 ?_;refine .p (cA (h:=zh (x:=m))) rfl ?_;refine Z2 ?_;refine .n (bw.WB (dW (.t rfl) rfl)) rfl λn13 TK=>?_;refine dh ?_;refine Cd (λc0=>?_) λc0=>?_
 ·
  refine Z8 ?_;refine Post.aS rfl ((0,12,[])) (by exact .inr ⟨by show(12:Int)≠0;decide,λh=>c0 (TK.2 h.1)⟩) (aF.cZ [] [0] rfl rfl) (.ra (i:=0) FA.out FC.out rfl rfl rfl rfl) ?_;exact aa.agg (.cons (aa.refl _) (.cons (aa.refl _) (.cons (aE 1 fU) .nil)))
 have hfit:=TK.1 (Classical.not_not.1 c0);refine Cm ?_;refine CT λc1=>?_;refine Z7 ?_;refine .p (cI i (h:=aR)) rfl ?_;refine Z2 ?_;refine .n (cE (h:=Jt (ak.bd rZ))) rfl λQF QG=>?_;refine ij ?_;refine Cd (λc2=>?_) λc2=>?_
 ·
  refine Z9 ?_;refine Post.aS rfl ((0,QF,[])) (by exact .inr ⟨c2,λh=>c2 (QG.2 h.2.1)⟩) (aF.cZ [] [0] rfl rfl) (.ra (i:=0) FA.out FC.out rfl rfl rfl rfl) ?_;exact aa.agg (.cons (aa.refl _) (.cons (aa.refl _) (.cons (aE 1 fU) .nil)))
 have oV:=QG.1 (Classical.not_not.1 c2);refine Z3 ?_;refine .bt [(0,0),(1,0),(3,0),(4,0),(5,0),(6,0),(7,0),(8,0),(2,2)] 9 2 FM.out (by kernel_rfl) (k:= ?_);refine Z5 ?_;refine .p rfl (λ_=>aW (j:=i) FU.out FC.out rfl (.t rfl) (.t rfl) rfl aR) ?_;refine Z2 ?_;refine .e rfl (cE (h:=Qs hfit ak aR)) λg43 h43=>?_;refine .fin ?_;refine .n (cE (h:=Jo (v:=bR m f) (b:=f.Body) (al1 hfit ak rZ oV) (TJ oV))) rfl λY2 Y3=>?_;refine Z4 ?_;refine Post.aS rfl (Y2) (by exact(Jn oV Y3).elim (λh=> .inl ⟨h.1,hfit,oV,h.2⟩) (λh=> .inr ⟨h.1,λh2=>h.2.1 h2.2⟩)) (aF.cZ [] [0] rfl rfl) (.ra (i:=0) FA.out FC.out rfl rfl rfl rfl) ?_;exact aa.refl _
theorem Ju(ak:fV m)(aR:m.aq.length<=60000):bu Wo 6 [aC (bp m)] [] (γ:=Int) (λn=>0<=n/\(n=0↔dK m)) (λ_=>[]) (λn=>af .i64 n):=by
 refine In 29 Tryz.func6 λ_ _ _=>?_;refine Z9 ?_;refine .p (cA (h:=zh (x:=m))) rfl ?_;refine Z2 ?_;refine .n (bw.WB (dW (.t rfl) rfl)) rfl λn11 am6=>?_;refine dh ?_;refine Cd (λc0=>?_) λc0=>?_
 ·
  refine Z7 ?_;refine Post.aS rfl (1) (by exact⟨by decide,λh=>absurd h (by decide),λh=>absurd (am6.2 h.1) c0⟩) (λ_ _ _ h=>h) (.rt rfl) ?_;exact aa.refl _
 have hfit:=am6.1 (Classical.not_not.1 c0);refine ij ?_;refine .bk (σ:=Nat×Nat) (λ_=>[]) (λg=>[(5,af .i64 (g.2:Int)),(6,af .i64 (g.1:Int))]) (λg=>g.1<=m.aq.length/\g.2<=g.1/\(g.2=0↔∀f∈m.aq.take g.1,rA m f)) (λg=>m.aq.length-g.1) (0,0) ⟨Nat.zero_le _,Nat.le_refl _,by simp⟩ rfl ?_ ?_
 · exact(.get rfl (aa.refl _) (.get rfl (aa.refl _) (.refl _ _)))
 rintro⟨j,n⟩ ⟨hj,hnj,hv⟩;simp only at hj hnj hv ⊢;refine cC ?_;refine Cd (λc1=>?_) λc1=>?_
 ·
  obtain⟨f,hf⟩:=ah (xs:=m.aq) (k:=j) (by omega);refine Z8 ?_;refine .n (cE (h:=C2 ak hf aR)) rfl λg23 h23=>?_;refine .p (wD (T:=72) (i:=1) (off:=1) (by kernel_rfl) Tryz.ag3.out (.t rfl) rfl) rfl ?_;refine Z3 ?_;refine Cd (λc2=>?_) λc2=>?_
  ·
   refine eB ?_;refine .round (j+1,n+1) ⟨by show j+1<=_;omega,by show n+1<=j+1;omega,⟨λh=>absurd h (by show ¬(n+1=0);omega),λh=>absurd (h23.iff.2 ⟨hfit,h f (by rw[<-bE hf];simp)⟩) c2⟩⟩ (by show m.aq.length-(j+1)<m.aq.length-j;omega) rfl ?_;exact(.get rfl (aa.int (by show(_:Int)=((n+1:Nat):Int);omega)) (.get rfl (aa.int (by show(_:Int)=((j+1:Nat):Int);omega)) ((.keep 18 rfl rfl))))
  refine Z8 ?_;refine .round (j+1,n) ⟨by show j+1<=_;omega,by show n<=j+1;omega,by(show n=0↔_;rw[hv,<-bE hf];have h9:=(h23.iff.1 (Classical.not_not.1 c2)).2;constructor;intro h g hg;rcases List.mem_append.1 hg with hg|hg;exact h g hg;(simp only[List.mem_singleton] at hg;subst hg;exact h9);intro h g hg;exact h g (List.mem_append_left _ hg))⟩ (by show m.aq.length-(j+1)<m.aq.length-j;omega) rfl ?_;exact(.get rfl (aa.refl _) (.get rfl (aa.int (by show(_:Int)=((j+1:Nat):Int);omega)) ((.keep 15 rfl rfl))))
 have hall:m.aq.take j=m.aq:=List.take_of_length_le (by omega);rw[hall] at hv;refine eB ?_;refine Post.aS rfl ((n:Int)) (by exact⟨by omega,λh=>⟨hfit,hv.1 (by omega)⟩,λh=>by have:=hv.2 h.2;omega⟩) (λ_ _ _ h=>h) (.rt rfl) ?_;exact aa.refl _
end Go.Proofs.YtppekopemdoclaaGreatDoor
end
