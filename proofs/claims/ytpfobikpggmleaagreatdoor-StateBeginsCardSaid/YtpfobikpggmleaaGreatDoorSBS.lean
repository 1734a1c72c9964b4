/-
  What the statement's proof leans on, several texts in one (packed by a program).
-/
import Derived.Test.YtpfobikpggmleaaGreatDoorSBR
set_option linter.all false
set_option maxRecDepth 1000000
set_option maxHeartbeats 4000000
section
namespace Go.Proofs.YtpfobikpggmleaaGreatDoor
open Go.Hl Go.RowKit
theorem eT{p:Prop}{e:Int}(az:e≠0):yj Tryz.prog 366 280 [ak p,ag .i64 (e)] [] (¬p) (γ:=Unit) (fun _=>p) (fun _=>[]) (fun _=>bE []):=by
 refine El 9 Tryz.func280 fun _ _ _=>?_;refine Z6 ?_;refine Cd (fun c0=>?_) fun c0=>?_
 · exact aM.region (.p (Cv (.t rfl)) rfl<| .p (aN FP.out FZ.out (.cons (.t rfl) .nil) rfl) rfl<| .p (OG Tryz.underlying366 (.t rfl)) rfl<| .Ux (.t rfl) az c0)
 refine Z1 ?_;refine .rQ (Post.iA rfl (()) (by exact Classical.not_not.1 c0) (fun _ _ _ h=>h) rfl)
variable {cb:Nat} {m:aT} {f:cN} {gs:SB} {bb:Nat} {bc:Nat} {B:List N0} {ns:Nat}
theorem xl{b:N0}:cv Tryz.prog 294 [aD cb 0] [KT cb m f gs ns (some (bb,bc)) (B++[b]).length,av (some (bb,bc)) 5 lq (B++[b])] (γ:=Unit) (fun _=>True) (fun _=>[KT cb m f gs ns (some (bb,bc)) (B++[b]).length,av (some (bb,bc)) 5 lq (B++[b])]) (fun _=>aD bb (B.length*5)):=by
 refine In 14 Tryz.func294 fun _ _ _=>?_;refine .yC 1 rfl fun wk=>?_;simp only[List.length_append,List.length_cons,List.length_nil] at wk;refine Z6 ?_;refine .br 10 2 FM.out (by kernel_rfl) (k:= ?_);refine Z8 ?_;refine .p (tX rfl Tryz.underlying338 (.t rfl)) ?_;refine .p (jZ (.t rfl) (.c _) (cn (by simp<;>omega) (by simp<;>omega))) ?_;refine Z1 ?_;refine .p (aX B.length FU.out FC.out rfl (.t rfl) (.t rfl) (by simp) (by simp)) rfl ?_;refine Z4 ?_;refine bB ?_;exact af.refl _
variable {l:List UInt8} {gb:SB} {nb:Nat}
theorem iu{st st2:List UInt8}(az:st.length≤60000)(hp1:l.length≤60000)(hp2:st2=st++l):cv Tryz.prog 276 [aD cb 0,ai 1 aj (l)] [KT cb m f gs st.length gb nb,av gs 1 aj st] (γ:=SB) (fun _=>True) (fun g=>[KT cb m f g st2.length gb nb,av g 1 aj st2]) (fun _=>bE []):=by
 refine In 13 Tryz.func276 fun _ _ _=>?_;subst hp2;refine Z7 ?_;refine .n (aF (i:=1) FU.out FU.out FC.out rfl FZ.out rfl FY.out (.t rfl) (.t rfl) rfl (by omega) (by omega)) rfl fun g10 _=>?_;refine Z4 ?_;refine Post.iA rfl (g10) (by trivial) (fun _ _ _ h=>h) rfl
variable {L0:List UInt8} {k:eX} {s:dD}
theorem fC{w:UInt8}:yj Tryz.prog 366 270 [aD cb 0,ag .u8 ((w:UInt8).toNat:Int)] (Ai cb m f gs bb bc L0 B k s) (jm s w=none) (γ:=dD×UInt8) (fun g=>jm s w=some g) (fun g=>Ai cb m f gs bb bc L0 B k g.1) (fun g=>ag .u8 (g.2.toNat:Int)):=by
 refine El 67 Tryz.func270 fun _ _ _=>?_;obtain⟨sl,sd⟩:=s;refine Z8 ?_;refine .n ((kL [_] [0,2,1] (h:=xl)).same (fun _ _=>aB.perm (Perm.idx [0,2,1] rfl rfl)) (fun _ _=>af.refl _)) rfl fun _ _=>?_;refine Z5 ?_;refine .br 9 1 FM.out (by kernel_rfl) (k:= ?_);refine Z8 ?_;refine .p (fL (i:=2) (r:=3) FA.out (.t rfl) rfl (mg _ _) rfl) ?_;refine Z4 ?_;refine Cd (fun c0=>?_) fun c0=>?_
 ·
  have Cy:sl=[]:=by(simp[mC] at c0;first|exact c0|exact List.eq_nil_of_length_eq_zero (by omega))
  subst Cy;refine Z5 ?_;refine .p (fL (i:=2) (r:=4) FA.out (.t rfl) rfl (mg _ _) rfl) rfl ?_;refine .x (cX (h:=eT (e:=5) (by decide))) rfl (fun h=>Aj h) fun g23 h23=>?_;refine cD ?_;refine .kQ (Post.aR rfl ((([],sd),w)) (by exact KU (by first|exact h23|assumption)) (fun _ _ _ h=>h) (.rt rfl) ?_);exact af.refl _
 obtain⟨l,x,rfl⟩:=vF (l:=sl) (fun e=>c0 (by rw[e];simp[mC]));refine .yC 1 rfl fun wk=>?_;simp only[List.length_append,List.length_cons,List.length_nil] at wk;refine .gL 1 rfl (by simp) fun sb sc hg=>?_;subst hg;refine Z3 ?_;refine .br 10 3 FM.out (by kernel_rfl) (k:= ?_);refine Z9 ?_;refine .p (jZ (.t rfl) (.c _) (cn (by simp<;>omega) (by simp<;>omega))) ?_;refine Z1 ?_;refine .p (aX (L0++l).length FU.out FC.out rfl (.t rfl) (.t rfl) (by simp<;>omega) (by simp)) rfl ?_;refine .p (fL (i:=1) (r:=0) FA.out (.t rfl) rfl (show(L0++(l++[x]))[(L0++l).length]?=some x by simp) rfl) rfl ?_;refine Z4 ?_;refine .br 12 3 FM.out (by kernel_rfl) (k:= ?_);refine cD ?_;refine .p (jZ (.t rfl) (.c _) (cn (by simp<;>omega) (by simp<;>omega))) ?_;refine .p (qp (i:=1) (h:=(L0++l).length) FU.out FC.out rfl (.t rfl) (.t rfl) (by simp<;>omega) rfl rfl (by simp)) ?_;refine Z6 ?_;refine .own (aB.cons _ (aB.OH (L0++l) (by rw[←List.append_assoc];exact yN _ _))) ?_;refine jP ?_;refine .x (cX (h:=eT (e:=5) (by decide))) rfl (fun h=>x5 (fun e=>h (Jf.2 e))) fun g62 Wf=>?_;refine Z9 ?_;refine Cd (fun c1=>?_) fun c1=>?_
 ·
  refine Z8 ?_;refine .kQ (Post.aR rfl (((l,sd),if x=0 then w else x)) (by exact Ak (Jf.1 Wf)) (fun _ _ _ h=>h) (.rt rfl) ?_);exact af.of_eq (by rw[if_pos ((oJ x).1 c1)])
 refine Z9 ?_;refine .kQ (Post.aR rfl (((l,sd),if x=0 then w else x)) (by exact Ak (Jf.1 Wf)) (fun _ _ _ h=>h) (.rt rfl) ?_);exact af.of_eq (by rw[if_neg (fun e=>c1 ((oJ x).2 e))])
theorem jv:yj Tryz.prog 366 274 [aD cb 0,ai 1 aj (l)] (Ai cb m f gs bb bc L0 B k s) (cU s l=none) (γ:=dD) (fun g=>cU s l=some g) (fun g=>Ai cb m f gs bb bc L0 B k g) (fun _=>bE []):=by
 refine El 18 Tryz.func274 fun _ _ _=>?_;refine .fact (t:=1) rfl (fun S w v h=>bn h) fun qY=>?_;refine Z9 ?_;refine .aS (σ:=Nat×dD) (fun g=>Ai cb m f gs bb bc L0 B k g.2) (fun g=>[(4,ag .i64 ((g.1:Int)-1))]) (fun g=>g.1≤l.length∧cU g.2 (l.take g.1)=cU s l) (fun g=>g.1) (l.length,s) ⟨Nat.le_refl _,by simp⟩ rfl ?_ ?_
 · exact(.get rfl (af.refl _) (.refl _ _))
 rintro⟨j,s1⟩ ⟨hj,hinv⟩;simp only at hj hinv ⊢;refine Z7 ?_;refine Cd (fun c0=>?_) fun c0=>?_
 ·
  obtain⟨t,ht⟩:=ah (xs:=l) (k:=j-1) (by omega);have hjt:cU s1 (l.take j)=(jm s1 t).bind fun p=>cU p.1 (l.take (j-1)):=by(have h9:=PM (s:=s1) ht;rwa [show j-1+1=j by omega] at h9)
  refine Z8 ?_;refine .p (cI (j-1) (h:=ht)) rfl ?_;refine Z1 ?_;refine .x (cX (h:=fC (s:=s1) (w:=t))) rfl (fun h=>by rw[←hinv,hjt,h];rfl) fun g17 KO=>?_;refine Z8 ?_;refine .round (j-1,g17.1) ⟨by show j-1≤_;omega,by rw[←hinv,hjt,KO];rfl⟩ (by show j-1<j;omega) rfl ?_;exact(.get rfl (af.int (by show(_:Int)=((j-1:Nat):Int)-1;omega)) ((.keep 12 rfl rfl)))
 have hj0:j=0:=by omega
 subst hj0;refine Z4 ?_;refine .rQ (Post.iA rfl (s1) (by exact(by rw[←hinv];rfl)) (fun _ _ _ h=>h) rfl)
theorem qP:cv Tryz.prog 269 [aD cb 0] (Ai cb m f gs bb bc L0 B k s) (γ:=Unit) (fun _=>True) (fun _=>Ai cb m f gs bb bc L0 B k eZ) (fun _=>bE []):=by
 refine In 20 Tryz.func269 fun _ _ _=>?_;refine Z3 ?_;refine .n ((kL [_] [0,2,1] (h:=xl)).same (fun _ _=>aB.perm (Perm.idx [0,2,1] rfl rfl)) (fun _ _=>af.refl _)) rfl fun _ _=>?_;refine Z3 ?_;refine .bP [(0,0),(1,0),(2,0),(3,0),(4,0),(5,1),(6,0),(7,0),(8,0),(9,1),(10,1),(11,0),(12,0),(13,3)] 14 3 FM.out (by kernel_rfl) (k:= ?_);refine Z9 ?_;refine .o rfl (fL (i:=2) (r:=3) FA.out (.t rfl) rfl (mg _ _) rfl) ?_;refine .o rfl (qp (i:=1) (h:=(L0++([]:List UInt8)).length) FU.out FC.out rfl (.t rfl) (.t rfl) (by simp[mC]) rfl rfl (by simp)) ?_;refine Z2 ?_;refine .s rfl (jc (i:=0) FC.out (.t rfl) (.t rfl) rfl rfl) ?_;refine .fin ?_;refine Z2 ?_;refine .s (fE (i:=2) (r:=4) (mC L0.length k eZ) rfl FC.out (.t rfl) .ct rfl (mg _ _) rfl rfl) ?_;refine Z1 ?_;rw[EV,show(B++[mC L0.length k s]).length=(B++[mC L0.length k eZ]).length by simp];refine .own (aB.cons _ (aB.OH (L0++([]:List UInt8)) (by simp))) ?_;refine Post.iA rfl (()) (by trivial) (fun _ _ _ h=>h) rfl
variable {n:Int}
theorem mF(az:B.length≤60000)(hp1:0≤n):yj Tryz.prog 366 275 [aD cb 0,ag .u64 (n)] [KT cb m f gs ns (some (bb,bc)) B.length,av (some (bb,bc)) 5 lq B] (jq (B.map Bd) n=none) (γ:=List UInt8) (fun w=>jq (B.map Bd) n=some w) (fun _=>[KT cb m f gs ns (some (bb,bc)) B.length,av (some (bb,bc)) 5 lq B]) (fun w=>ai 1 aj (w)):=by
 refine El 34 Tryz.func275 fun _ _ _=>?_;refine dN ?_;refine .p (tX rfl Tryz.underlying338 (.t rfl)) rfl ?_;refine Z2 ?_;refine .x (cX (h:=eT (e:=2) (by decide))) rfl (fun h=>Cg (fun e=>h (by simpa using e))) fun g14 yI=>?_;refine Z3 ?_;have hlt:n<(B.length:Int):=yI;obtain⟨b,hb⟩:=ah (xs:=B) (k:=B.length-1-n.toNat) (by omega);obtain⟨w,hw,p8⟩:=Gh (L:=B.map Bd) hp1 (by simpa using hlt);have hwb:Bd b=w:=by(rw[List.length_map,List.getElem?_map,hb] at p8;exact Option.some.inj p8)
 refine .bP [(0,0),(1,0),(2,0),(3,1),(4,0),(5,0),(6,0),(7,1),(8,0),(9,0),(10,0),(11,0),(12,0),(13,0),(14,1),(15,4)] 16 1 FM.out (by kernel_rfl) (k:= ?_);refine Z8 ?_;refine .p rfl (fun _=>tX rfl Tryz.underlying338 (.t rfl)) ?_;refine Z4 ?_;refine .p rfl (fun _=>aX (B.length-1-n.toNat) FU.out FC.out rfl (.t rfl) (.t rfl) (by omega) (by omega)) ?_;refine .o rfl (kP (i:=1) (r:=0) FA.out FC.out rfl (.t rfl) rfl hb rfl) ?_;refine .a rfl (au FZ.out) (fun _ _=>aB.drop (aB.refl _)) fun b5 _=>?_;refine .fin ?_;refine Z3 ?_;refine .share (t:=5) (i:=0) rfl rfl ?_;refine Z7 ?_;refine Cd (fun c0=>?_) fun c0=>?_
 ·
  refine Z7 ?_;refine .kQ (Post.aR rfl (w) (by exact hw) (fun _ _ _ h=>h) (.rt rfl) ?_);exact(show af (aa (.slice none 0 0)) _ from(show w=[] by rw[←hwb];exact if_pos c0)▸aI 1 aj)
 refine cD ?_;refine .kQ (Post.aR rfl (w) (by exact hw) (fun _ _ _ h=>h) (.rt rfl) ?_);exact af.of_eq (by rw[show w=b.res by rw[←hwb];exact if_neg c0])
variable {x:ay}
theorem AK{st:List UInt8}(az:B.length≤60000)(hp1:0≤x.A):cv Tryz.prog 271 [aD cb 0,aC (aK x)] (PL cb m f gs gb st B) (γ:=SB) (fun _=>True) (fun g=>PL cb m f gs g st (B++[mC st.length ⟨x.Code=3,x.Code=4,eL x,([],False)⟩ ([],False)])) (fun _=>bE []):=by
 refine In 35 Tryz.func271 fun _ _ _=>?_;refine Z6 ?_;refine .bP [(0,0),(1,0),(2,0),(3,0),(4,0),(5,0),(6,0),(7,0),(8,0),(9,1),(10,1),(11,0),(12,4)] 13 1 FM.out (by kernel_rfl) (k:= ?_);refine dN ?_;refine .a rfl (au FZ.out) (fun _ _=>aB.drop (aB.refl _)) fun b4 _=>?_;refine .fin ?_;refine Z3 ?_;refine .cut (σ:=Unit) (fun _=>[ax b4 [ak (x.Code=3),ak (x.Code=4),ai 1 aj (eL x),ag .i64 (st.length:Int),ak False],KT cb m f gs st.length gb B.length,av gs 1 aj st,av gb 5 lq B]) (fun _=>[]) (fun _=>True) ?_ ?_
 ·
  refine Z1 ?_;refine .own (aB.HT (cs':=[ak (x.Code=3),ak (x.Code=4),ai 1 aj [],ag .i64 (st.length:Int),ak False]) (.cons (.refl _) (.cons (.refl _) (.cons (aI 1 aj) (.cons (.refl _) (.cons w9 .nil)))))) ?_;refine Z6 ?_;refine Cd (fun c0=>?_) fun c0=>?_
  ·
   refine Z3 ?_;refine .p ((fk FU.out FU.out (.t rfl)).le (af.int (KW hp1))) rfl ?_;refine .p (cB aj [UInt8.ofNat x.A.toNat]) rfl ?_;refine Z3 ?_;refine .meet () trivial (by first|(rw[show eL x=[UInt8.ofNat x.A.toNat] from if_neg c0];done)|(rw[show eL x=[UInt8.ofNat x.A.toNat] from if_neg c0];rfl)|(rw[show eL x=[] from if_pos (Classical.not_not.1 c0)];done)|(rw[show eL x=[] from if_pos (Classical.not_not.1 c0)];rfl)) (.keep 8 rfl rfl)
  refine Z1 ?_;refine .meet () trivial (by first|(rw[show eL x=[UInt8.ofNat x.A.toNat] from if_neg c0];done)|(rw[show eL x=[UInt8.ofNat x.A.toNat] from if_neg c0];rfl)|(rw[show eL x=[] from if_pos (Classical.not_not.1 c0)];done)|(rw[show eL x=[] from if_pos (Classical.not_not.1 c0)];rfl)) (.keep 3 rfl rfl)
 intro _ _;refine .bP [(0,0),(1,0),(2,0),(3,0),(4,1),(5,1),(6,0),(7,2)] 8 3 FM.out (by kernel_rfl) (k:= ?_);refine Z6 ?_;refine .p rfl (fun _=>bI (enc:=lq) [mC st.length ⟨x.Code=3,x.Code=4,eL x,([],False)⟩ ([],False)] FU.out FC.out rfl FZ.out rfl (.cons (.t rfl) .nil) rfl rfl rfl rfl rfl) ?_;refine .e rfl (aF (i:=3) FU.out FU.out FC.out rfl FZ.out rfl FY.out (.t rfl) (.t rfl) rfl (by simp<;>omega) (by simp<;>omega)) fun XT _=>?_;refine .fin ?_;refine Z4 ?_;refine Post.iA rfl (XT) (by trivial) (aB.dF [1,2,3] [0] rfl rfl) rfl
theorem x8:yj Tryz.prog 366 295 [aD cb 0] (Ai cb m f gs bb bc L0 B k s) (¬Be k.res s) (γ:=Unit) (fun _=>Be k.res s) (fun _=>PL cb m f gs (some (bb,bc)) L0 B) (fun _=>aC (lq (mC L0.length k s))):=by
 refine El 36 Tryz.func295 fun _ _ _=>?_;refine Z2 ?_;refine .n (au FZ.out) rfl fun b2 _=>?_;refine Z5 ?_;refine .n ((kL [_,_] [1,3,0,2] (h:=xl)).same (fun _ _=>aB.perm (Perm.idx [2,0,3,1] rfl rfl)) (fun _ _=>af.refl _)) rfl fun _ _=>?_;refine Z1 ?_;refine .p (kP (i:=3) (r:=0) FA.out FC.out rfl (.t rfl) rfl (mg _ _) rfl) rfl ?_;refine .n (au FZ.out) rfl fun b3 _=>?_;refine Z3 ?_;refine .share (t:=3) (i:=0) rfl rfl ?_;refine Z5 ?_;refine .x (LH [_] [1,2,3,0] (h:=jv (l:=k.res))) rfl (fun h=>by(rintro⟨z,h1,_⟩;rw[h] at h1;cases h1)) fun g11 h11=>?_;refine Z3 ?_;refine .yC 2 rfl fun wk=>?_;simp only[List.length_append,List.length_cons,List.length_nil] at wk;refine .br 7 2 FM.out (by kernel_rfl) (k:= ?_);refine Z9 ?_;refine .x (cX (h:=eT (e:=5) (by decide))) rfl (fun h=>by(rintro⟨z,h1,h2⟩;rw[h11] at h1;cases h1;exact h (by rw[h2];simp[mC]))) fun g20 XU=>?_;refine Z3 ?_;have hz:g11.1=[]:=by(simp[mC] at XU;first|exact XU|exact List.eq_nil_of_length_eq_zero (by omega))
 refine .br 12 3 FM.out (by kernel_rfl) (k:= ?_);refine cD ?_;refine .p (jZ (.t rfl) (.c _) (cn (by simp<;>omega) (by simp<;>omega))) ?_;refine .p (qp (i:=2) (h:=B.length) FU.out FC.out rfl (.t rfl) (.t rfl) (by simp) rfl rfl (by simp)) ?_;refine Z6 ?_;rw[show(L0++g11.1).length=L0.length by rw[hz];simp];refine .own (aB.cons _ (aB.trans (aB.OH L0 (yN _ _)) (aB.cons _ (aB.OH B (yN _ _))))) ?_;refine Z3 ?_;refine .s (gJ (i:=3) FC.out rfl (.t rfl) (.t rfl) rfl rfl rfl) ?_;refine Z3 ?_;refine .kQ (Post.aR rfl (()) (by exact⟨g11,h11,hz⟩) (aB.dF [0,1,2] [3] rfl rfl) (.ra (i:=3) FA.out FC.out rfl rfl rfl rfl) ?_);exact af.refl _
theorem GP(az:B.length≤60000):yj Tryz.prog 366 272 [aD cb 0] (Ai cb m f gs bb bc L0 B k s) (¬Be k.res s) (γ:=SB) (fun _=>Be k.res s) (fun g=>PL cb m f gs g L0 (B++[mC L0.length ⟨k.loop,False,k.res,([],False)⟩ ([],False)])) (fun _=>bE []):=by
 refine El 17 Tryz.func272 fun _ _ _=>?_;refine Z3 ?_;refine .x (cX (h:=x8 (s:=s))) rfl (fun h=>h) fun g4 h4=>?_;refine .n (au FZ.out) rfl fun b2 _=>?_;refine cc ?_;refine .bP [(0,0),(1,0),(2,0),(3,0),(4,1),(5,1),(6,0),(7,2)] 8 3 FM.out (by kernel_rfl) (k:= ?_);refine Z6 ?_;refine .p rfl (fun _=>bI (enc:=lq) [mC L0.length ⟨k.loop,False,k.res,([],False)⟩ ([],False)] FU.out FC.out rfl FZ.out rfl (.cons (.t rfl) .nil) rfl rfl rfl rfl rfl) ?_;refine .e rfl (aF (i:=3) FU.out FU.out FC.out rfl FZ.out rfl FY.out (.t rfl) (.t rfl) rfl (by simp<;>omega) (by simp<;>omega)) fun g14 _=>?_;refine .fin ?_;refine Z4 ?_;refine .rQ (Post.iA rfl (g14) (by exact h4) (aB.dF [1,2,3] [0] rfl rfl) rfl)
theorem M7(az:L0.length≤60000)(hp1:k.res.length≤60000):yj Tryz.prog 366 273 [aD cb 0] (Ai cb m f gs bb bc L0 B k s) (¬(Be k.res s∧(k.is→k.res=[]))) (γ:=SB) (fun _=>Be k.res s∧(k.is→k.res=[])) (fun g=>PL cb m f g (some (bb,bc)) (L0++k.res) B) (fun _=>bE []):=by
 refine El 19 Tryz.func273 fun _ _ _=>?_;refine Z3 ?_;refine .x (cX (h:=x8 (s:=s))) rfl (fun h h2=>h h2.1) fun g4 h4=>?_;refine .n (au FZ.out) rfl fun b2 _=>?_;refine Z3 ?_;refine .share (t:=2) (i:=0) rfl rfl ?_;refine cc ?_;refine .x (cX (h:=eT (e:=5) (by decide))) rfl (fun h h2=>h (by by_cases hk:k.is;exact .inr (show(k.res.length:Int)=0 by rw[h2.2 hk];rfl);exact .inl hk)) fun g14 yI=>?_;refine Z6 ?_;refine .n (cE (h:=iu (st:=L0) (l:=k.res) (by omega) hp1 rfl)) rfl fun g18 RW=>?_;refine Z1 ?_;refine .rQ (Post.iA rfl (g18) (by exact⟨h4,fun hk=>by(rcases yI with h|h;exact absurd hk h;exact List.eq_nil_of_length_eq_zero (by have h9:(k.res.length:Int)=0:=h;omega))⟩) (fun _ _ _ h=>h) rfl)
theorem sI(az:Al m f)(hp1:0≤n):yj Tryz.prog 366 278 [aD cb 0,ag .u64 (n)] [KT cb m f gs ns gb nb] (eo (cH m f).aW n=none) (γ:=UInt8) (fun t=>eo (cH m f).aW n=some t) (fun _=>[KT cb m f gs ns gb nb]) (fun t=>ag .u8 ((t:UInt8).toNat:Int)):=by
 refine El 23 Tryz.func278 fun _ _ _=>?_;have KP:=az.lo;refine AY ?_;refine .x (cX (h:=eT (e:=2) (by decide))) rfl (fun h=>vH (fun e=>h e)) fun g14 yI=>?_;refine Z3 ?_;obtain⟨t,ht,U9⟩:=vG hp1 yI;refine Z7 ?_;refine .p (cI n.toNat (h:=U9)) rfl ?_;refine Z5 ?_;refine .kQ (Post.aR rfl (t) (by exact ht) (fun _ _ _ h=>h) (.rt rfl) ?_);exact af.refl _
theorem vR(az:Al m f)(hp1:0≤n):yj Tryz.prog 366 279 [aD cb 0,ag .u64 (n)] [KT cb m f gs ns gb nb] (eo m.an n=none) (γ:=gy) (fun t=>eo m.an n=some t) (fun _=>[KT cb m f gs ns gb nb]) (fun t=>aC (dX t)):=by
 refine El 29 Tryz.func279 fun _ _ _=>?_;have KP:=az.fits.lens.2.2.2.1;refine Z2 ?_;refine .n (au FZ.out) rfl fun b4 _=>?_;refine AY ?_;refine .x (cX (h:=eT (e:=2) (by decide))) rfl (fun h=>vH (fun e=>h e)) fun g17 KO=>?_;refine Z3 ?_;obtain⟨t,ht,U9⟩:=vG hp1 KO;refine cD ?_;refine .p (cI n.toNat (h:=U9)) rfl ?_;refine Z5 ?_;refine .kQ (Post.aR rfl (t) (by exact ht) (aB.dF [1] [0] rfl rfl) (.ra (i:=0) FA.out FC.out rfl rfl rfl rfl) ?_);exact af.refl _
theorem qQ(az:Al m f)(hp1:0≤n):yj Tryz.prog 366 281 [aD cb 0,ag .u64 (n)] [KT cb m f gs ns gb nb] (eo m.bz n=none) (γ:=dR) (fun t=>eo m.bz n=some t) (fun _=>[KT cb m f gs ns gb nb]) (fun t=>aC (ek t)):=by
 refine El 29 Tryz.func281 fun _ _ _=>?_;have KP:=az.fits.lens.2.2.1;refine Z2 ?_;refine .n (au FZ.out) rfl fun b4 _=>?_;refine AY ?_;refine .x (cX (h:=eT (e:=2) (by decide))) rfl (fun h=>vH (fun e=>h e)) fun g17 KO=>?_;refine Z3 ?_;obtain⟨t,ht,U9⟩:=vG hp1 KO;refine cD ?_;refine .p (cI n.toNat (h:=U9)) rfl ?_;refine Z5 ?_;refine .kQ (Post.aR rfl (t) (by exact ht) (aB.dF [1] [0] rfl rfl) (.ra (i:=0) FA.out FC.out rfl rfl rfl rfl) ?_);exact af.refl _
theorem o7{l:dR}:cQ Tryz.prog 283 [aC (ek l)] (ag .u8 ((bV l.bO:UInt8).toNat:Int)):=by
 refine In 5 Tryz.func283 fun _ _ _=>?_;refine jP ?_;refine Cd (fun c0=>?_) fun c0=>?_
 ·
  refine Z7 ?_;refine bB ?_;exact af.of_eq (by unfold bV;rw[if_pos c0];rfl)
 refine Z8 ?_;refine bB ?_;exact af.of_eq (by unfold bV;rw[if_neg c0];rfl)
theorem oQ{g:kY}(az:(L0++s.1).length≤60000)(hp1:g.R.length≤60000):yj Tryz.prog 366 257 [aD cb 0,aC (bS g)] (Ai cb m f gs bb bc L0 B k s) (pS s g.P g.R=none) (γ:=SB×dD) (fun z=>pS s g.P g.R=some z.2) (fun z=>Ai cb m f z.1 bb bc L0 B k z.2) (fun _=>bE []):=by
 refine El 12 Tryz.func257 fun _ _ _=>?_;refine cD ?_;refine .x (cX (h:=jv (s:=s) (l:=g.P))) rfl (fun h=>by unfold pS;rw[h];rfl) fun g7 h7=>?_;refine Z6 ?_;refine .n (cE (h:=iu (st:=L0++g7.1) (l:=g.R) (st2:=L0++(bG g7 g.R).1) (by simp only[List.length_append] at az ⊢;have:=uy h7;omega) hp1 (by simp[bG]))) rfl fun g11 h11=>?_;refine Z1 ?_;refine .rQ (Post.iA rfl ((g11,bG g7 g.R)) (by exact(by unfold pS;rw[h7];rfl)) (fun _ _ _ h=>h) rfl)
theorem AL{labs:List (List UInt8)}(az:(L0++s.1).length≤60000)(hp1:Al m f)(hp2:mW x):yj Tryz.prog 366 253 [aD cb 0,aC (aK x)] (Ai cb m f gs bb bc L0 B k s) (ep x.Code∧iy (cH m f) x s labs=none) (γ:=SB×dD) (fun z=>(ep x.Code∧iy (cH m f) x s labs=some z.2)∨(¬ep x.Code∧z=(gs,s))) (fun z=>Ai cb m f z.1 bb bc L0 B k z.2) (fun _=>ak (ep x.Code)):=by
 refine El 62 Tryz.func253 fun _ _ _=>?_;refine Kx ?_;refine Cd (fun c0=>?_) fun c0=>?_
 ·
  refine Z5 ?_;refine .x (cX (h:=sI hp1 hp2.A0)) rfl (fun h=>⟨by unfold ep;omega,by rw[DA c0,h];rfl⟩) fun g15 Eo=>?_;refine .p (cB aj [_]) rfl ?_;refine .n (cE (h:=iu (st:=L0++s.1) (l:=[g15]) (st2:=L0++(bG s [g15]).1) (by simp only[List.length_append] at az ⊢;omega) (by simp) (by simp[bG]))) rfl fun g17 KO=>?_;refine Z9 ?_;refine .kQ (Post.aR rfl ((g17,bG s [g15])) (by exact .inl ⟨by unfold ep;omega,by rw[DA c0,Eo];rfl⟩) (fun _ _ _ h=>h) (.rt rfl) ?_);exact af.prop ⟨fun _=>by unfold ep;omega,fun _=>trivial⟩
 refine Z6 ?_;refine Cd (fun c1=>?_) fun c1=>?_
 ·
  refine Z5 ?_;refine .x (cX (h:=sI hp1 hp2.A0)) rfl (fun h=>⟨by unfold ep;omega,by rw[Ao c1,h];rfl⟩) fun g24 Hy=>?_;refine .x (cX (h:=fC (s:=s) (w:=g24))) rfl (fun h=>⟨by unfold ep;omega,by rw[Ao c1,Hy,Option.bind_some,gC,h];rfl⟩) fun R2 QX=>?_;refine Z9 ?_;refine .kQ (Post.aR rfl ((gs,R2.1)) (by exact .inl ⟨by unfold ep;omega,by rw[Ao c1,Hy,Option.bind_some,gC,QX];rfl⟩) (fun _ _ _ h=>h) (.rt rfl) ?_);exact af.prop ⟨fun _=>by unfold ep;omega,fun _=>trivial⟩
 refine Z6 ?_;refine Cd (fun c2=>?_) fun c2=>?_
 ·
  refine Z5 ?_;refine .x (cX (h:=sI hp1 hp2.A0)) rfl (fun h=>⟨by unfold ep;omega,by rw[Ap c2,h];rfl⟩) fun M8 Vh=>?_;refine Z7 ?_;refine .x (cX (h:=fC (s:=s) (w:=M8))) rfl (fun h=>⟨by unfold ep;omega,by rw[Ap c2,Vh,Option.bind_some,pS,gC,h];rfl⟩) fun NX NY=>?_;refine Z5 ?_;refine .p (cB aj [_]) rfl ?_;refine .n (cE (h:=iu (st:=L0++NX.1.1) (l:=[M8]) (st2:=L0++(bG NX.1 [M8]).1) (by simp only[List.length_append] at az ⊢;have:=nU NY;omega) (by simp) (by simp[bG]))) rfl fun QT R4=>?_;refine Z9 ?_;refine .kQ (Post.aR rfl ((QT,bG NX.1 [M8])) (by exact .inl ⟨by unfold ep;omega,by rw[Ap c2,Vh,Option.bind_some,pS,gC,NY];rfl⟩) (fun _ _ _ h=>h) (.rt rfl) ?_);exact af.prop ⟨fun _=>by unfold ep;omega,fun _=>trivial⟩
 refine Z6 ?_;refine Cd (fun c3=>?_) fun c3=>?_
 ·
  refine Z5 ?_;refine .x (cX (h:=vR hp1 hp2.A0)) rfl (fun h=>⟨by unfold ep;omega,by rw[DB c3];rw[show(cH m f).an=m.an.map (·.Ty) from rfl,bY,h];rfl⟩) fun Ei Wg=>?_;refine .p (bp.le (EW (T:=81) (i:=0) (off:=0) (by kernel_rfl) Tryz.am5.out (.t rfl) rfl) (af.refl (ag .u8 (Ei.Ty.toNat:Int)))) rfl ?_;refine .p (cB aj [_]) rfl ?_;refine .n (cE (h:=iu (st:=L0++s.1) (l:=[Ei.Ty]) (st2:=L0++(bG s [Ei.Ty]).1) (by simp only[List.length_append] at az ⊢;omega) (by simp) (by simp[bG]))) rfl fun M6 h48=>?_;refine Z9 ?_;refine .kQ (Post.aR rfl ((M6,bG s [Ei.Ty])) (by exact .inl ⟨by unfold ep;omega,by rw[DB c3];rw[show(cH m f).an=m.an.map (·.Ty) from rfl,bY,Wg];rfl⟩) (fun _ _ _ h=>h) (.rt rfl) ?_);exact af.prop ⟨fun _=>by unfold ep;omega,fun _=>trivial⟩
 refine Z6 ?_;refine Cd (fun c4=>?_) fun c4=>?_
 ·
  refine Z5 ?_;refine .x (cX (h:=vR hp1 hp2.A0)) rfl (fun h=>⟨by unfold ep;omega,by rw[uA c4];rw[show(cH m f).an=m.an.map (·.Ty) from rfl,bY,h];rfl⟩) fun g54 XV=>?_;refine .n (au FZ.out) rfl fun b6 _=>?_;refine Z3 ?_;refine .share (t:=6) (i:=0) rfl rfl ?_;refine Z4 ?_;refine .x (cX (h:=eT (e:=5) (by decide))) rfl (fun h=>⟨by unfold ep;omega,by rw[uA c4];rw[show(cH m f).an=m.an.map (·.Ty) from rfl,show(cH m f).eO=m.an.map (·.eO) from rfl,bY,bY,XV];simp only[Option.map_some,Option.bind_some];rw[if_neg h]⟩) fun XP h57=>?_;refine Z6 ?_;refine .x (cX (h:=fC (s:=s) (w:=g54.Ty))) rfl (fun h=>⟨by unfold ep;omega,by rw[uA c4];rw[show(cH m f).an=m.an.map (·.Ty) from rfl,show(cH m f).eO=m.an.map (·.eO) from rfl,bY,bY,XV];simp only[Option.map_some,Option.bind_some];rw[if_pos h57,gC,h];rfl⟩) fun Dr RZ=>?_;refine Z9 ?_;refine .kQ (Post.aR rfl ((gs,Dr.1)) (by exact .inl ⟨by unfold ep;omega,by rw[uA c4];rw[show(cH m f).an=m.an.map (·.Ty) from rfl,show(cH m f).eO=m.an.map (·.eO) from rfl,bY,bY,XV];simp only[Option.map_some,Option.bind_some];rw[if_pos h57,gC,RZ];rfl⟩) (fun _ _ _ h=>h) (.rt rfl) ?_);exact af.prop ⟨fun _=>by unfold ep;omega,fun _=>trivial⟩
 refine Z8 ?_;refine .kQ (Post.aR rfl ((gs,s)) (by exact .inr ⟨by unfold ep;omega,rfl⟩) (fun _ _ _ h=>h) (.rt rfl) ?_);exact af.prop ⟨fun h=>h.elim,fun h=>by unfold ep at h;omega⟩
theorem rm{s:List UInt8}:cQ Tryz.prog 308 [cZ l,cZ s] (ak (mN l s)):=by
 refine In 21 Tryz.func308 fun _ _ _=>?_;refine .fact (t:=0) rfl (fun S w v h=>iz h) fun hl=>?_;refine .fact (t:=1) rfl (fun S w v h=>iz h) fun Cy=>?_;refine Ek ?_;refine .g (bU.gT rfl rfl rfl rfl (fun hg=>ze FU.out (.when (.t rfl) hg) (.when (.t rfl) hg) (by omega:_=((l.length-s.length:Nat):Int)) (by omega))) rfl rfl ?_;refine Z7 ?_;refine bB ?_;exact af.prop (by unfold mN;constructor<;>(rintro⟨h1,h2⟩;exact⟨by omega,h2⟩))
theorem yu{s:List UInt8}:cQ Tryz.prog 309 [cZ l,cZ s] (ak (wB l s)):=by
 refine In 18 Tryz.func309 fun _ _ _=>?_;refine .fact (t:=0) rfl (fun S w v h=>iz h) fun hl=>?_;refine .fact (t:=1) rfl (fun S w v h=>iz h) fun Cy=>?_;refine AY ?_;refine .g (bU.gT rfl rfl rfl rfl (fun hg=>tU FU.out (.when (.t rfl) hg) (.when (.t rfl) hg) rfl (by omega))) rfl rfl ?_;refine Z7 ?_;refine bB ?_;exact af.prop (by unfold wB;constructor<;>(rintro⟨h1,h2⟩;exact⟨by omega,h2⟩))
theorem AM{s:List UInt8}:cQ Tryz.prog 298 [cZ l,cZ s] (ak (mN l s)):=by
 refine In 8 Tryz.func298 fun _ _ _=>?_;refine Z9 ?_;refine .p (cA (h:=rm)) rfl ?_;refine Z4 ?_;refine bB ?_;exact af.refl _
theorem AN{s:List UInt8}:cQ Tryz.prog 299 [cZ l,cZ s] (ak (wB l s)):=by
 refine In 8 Tryz.func299 fun _ _ _=>?_;refine Z9 ?_;refine .p (cA (h:=yu)) rfl ?_;refine Z4 ?_;refine bB ?_;exact af.refl _
theorem xm{s:List UInt8}:cQ Tryz.prog 307 [cZ l,cZ s] (cZ (sU l s)):=by
 refine In 16 Tryz.func307 fun _ _ _=>?_;refine .fact (t:=0) rfl (fun S w v h=>iz h) fun hl=>?_;refine .fact (t:=1) rfl (fun S w v h=>iz h) fun Cy=>?_;refine Z2 ?_;refine .p (bh (.s [] rfl rfl)) rfl ?_;refine Z7 ?_;refine .p (cA (h:=rm)) rfl ?_;refine Z2 ?_;refine Cd (fun c0=>?_) fun c0=>?_
 ·
  have hle:=c0.1;refine Z8 ?_;refine .p (tU FU.out (.t rfl) (.t rfl) (by omega:_=((l.length-s.length:Nat):Int)) (by omega)) rfl ?_;refine Z5 ?_;refine bB ?_;exact af.of_eq (by unfold sU;rw[if_pos c0])
 refine Z9 ?_;refine bB ?_;exact af.of_eq (by unfold sU;rw[if_neg c0])
theorem rq{s:List UInt8}:cQ Tryz.prog 297 [cZ l,cZ s] (cZ (sU l s)):=by
 refine In 8 Tryz.func297 fun _ _ _=>?_;refine Z2 ?_;refine .p (bh (.s [] rfl rfl)) rfl ?_;refine Z6 ?_;refine .p (cA (h:=xm)) rfl ?_;refine Z4 ?_;refine bB ?_;exact af.refl _
variable {b:UInt8}
theorem DR:cQ Tryz.prog 312 [cZ l,ag .u8 (b.toNat:Int)] (ag .i64 (Lib.indexByte l b)):=by
 refine In 8 Tryz.func312 fun _ _ _=>?_;refine Z9 ?_;refine .p (HK Tryz.WZ (.cons (.t rfl) (.cons (.t rfl) .nil))) rfl ?_;refine Z4 ?_;refine bB ?_;exact af.refl _
theorem M9(az:l≠[b]):cQ Tryz.prog 311 [cZ l,cZ [b]] (ag .i64 (Lib.indexByte l b)):=by
 refine In 143 Tryz.func311 fun _ _ _=>?_;refine YY ?_;refine Cd (fun c0=>?_) fun c0=>?_
 · exfalso;simp at c0;exact az c0.symm
 refine Z7 ?_;refine CF fun c1=>?_;refine Z4 ?_;refine .p (jO FU.out (.t rfl) (.c _) rfl (show[b][0]?=some b from rfl)) rfl ?_;refine .p (cA (h:=DR)) rfl ?_;refine Z6 ?_;refine bB ?_;exact af.refl _
theorem Na(az:l≠[b]):cQ Tryz.prog 306 [cZ l,cZ [b]] (bE [cZ (wC l b).1,cZ (wC l b).2.1,ak ((wC l b).2.2=true)]):=by
 refine In 23 Tryz.func306 fun _ _ _=>?_;refine .fact (t:=0) rfl (fun S w v h=>iz h) fun hl=>?_;have hlt:=CH l b;refine Z2 ?_;refine .p (bh (.s [] rfl rfl)) rfl ?_;refine .p (bh (.s [] rfl rfl)) rfl ?_;refine Z8 ?_;refine .p (cA (h:=M9 az)) rfl ?_;refine Z9 ?_;refine Cd (fun c0=>?_) fun c0=>?_
 ·
  have hj:Lib.indexByte l b=(((Lib.indexByte l b).toNat:Nat):Int):=by omega
  refine Z1 ?_;refine .br 10 2 FM.out (by kernel_rfl) (k:= ?_);refine Z2 ?_;refine .p (tU FU.out (.t rfl) (.t rfl) hj (by omega)) ?_;refine Z4 ?_;refine .p (eU (.t rfl) (.t rfl) (cn (by simp only[List.length_cons,List.length_nil];omega) (by simp only[List.length_cons,List.length_nil];omega))) ?_;refine .p (ze FU.out (.t rfl) (.t rfl) (by simp only[List.length_cons,List.length_nil];omega:_=(((Lib.indexByte l b).toNat+1:Nat):Int)) (by omega)) ?_;refine Z8 ?_;refine LI ?_ ?_ ?_
  · exact af.of_eq (by unfold wC;rw[if_pos c0])
  · exact af.of_eq (by unfold wC;rw[if_pos c0])
  exact af.prop (by unfold wC;rw[if_pos c0];simp)
 refine Z6 ?_;refine .p (bh (.s [] rfl rfl)) rfl ?_;refine Z4 ?_;refine LI ?_ ?_ ?_
 · exact af.of_eq (by unfold wC;rw[if_neg c0])
 · exact af.of_eq (by unfold wC;rw[if_neg c0])
 exact af.prop (by unfold wC;rw[if_neg c0];simp)
theorem Qn(az:l≠[b]):cQ Tryz.prog 296 [cZ l,cZ [b]] (bE [cZ (wC l b).1,cZ (wC l b).2.1,ak ((wC l b).2.2=true)]):=by
 refine In 13 Tryz.func296 fun _ _ _=>?_;refine Z2 ?_;refine .p (bh (.s [] rfl rfl)) rfl ?_;refine .p (bh (.s [] rfl rfl)) rfl ?_;refine Z7 ?_;refine .p (cA (h:=Na az)) rfl ?_;refine Z9 ?_;refine LI ?_ ?_ ?_
 · exact af.refl _
 · exact af.refl _
 exact af.refl _
theorem tP:cQ Tryz.prog 303 [] (aC (My.flatMap jW)):=by
 refine In 2 Tryz.func303 fun _ _ _=>?_;refine Z2 ?_;refine .n (au FZ.out) rfl fun b0 _=>?_;refine Z4 ?_;refine .p (hU (cs:=My.flatMap jW) FR.out FZ.out (.cons (.s [97,100,100] rfl rfl) (.cons (.s [115,117,98] rfl rfl) (.cons (.s [109,117,108] rfl rfl) (.cons (.s [100,105,118,95,115] rfl rfl) (.cons (.s [100,105,118,95,117] rfl rfl) (.cons (.s [114,101,109,95,115] rfl rfl) (.cons (.s [114,101,109,95,117] rfl rfl) (.cons (.s [97,110,100] rfl rfl) (.cons (.s [111,114] rfl rfl) (.cons (.s [120,111,114] rfl rfl) (.cons (.s [115,104,108] rfl rfl) (.cons (.s [115,104,114,95,115] rfl rfl) (.cons (.s [115,104,114,95,117] rfl rfl) (.cons (.s [114,111,116,108] rfl rfl) (.cons (.s [114,111,116,114] rfl rfl) .nil))))))))))))))) rfl) rfl ?_;refine Z4 ?_;refine Post.aR rfl () trivial (fun _ _ _ _=>trivial) (.ra (i:=0) FA.out FC.out rfl rfl rfl rfl) ?_;exact af.refl _
theorem AO:cQ Tryz.prog 304 [] (aC (B9.flatMap jW)):=by
 refine In 2 Tryz.func304 fun _ _ _=>?_;refine Z2 ?_;refine .n (au FZ.out) rfl fun b0 _=>?_;refine Z4 ?_;refine .p (hU (cs:=B9.flatMap jW) FR.out FZ.out (.cons (.s [101,113] rfl rfl) (.cons (.s [110,101] rfl rfl) (.cons (.s [108,116,95,115] rfl rfl) (.cons (.s [108,116,95,117] rfl rfl) (.cons (.s [103,116,95,115] rfl rfl) (.cons (.s [103,116,95,117] rfl rfl) (.cons (.s [108,101,95,115] rfl rfl) (.cons (.s [108,101,95,117] rfl rfl) (.cons (.s [103,101,95,115] rfl rfl) (.cons (.s [103,101,95,117] rfl rfl) .nil)))))))))) rfl) rfl ?_;refine Z4 ?_;refine Post.aR rfl () trivial (fun _ _ _ _=>trivial) (.ra (i:=0) FA.out FC.out rfl rfl rfl rfl) ?_;exact af.refl _
theorem ni:cQ Tryz.prog 305 [] (aC (Sa.flatMap jW)):=by
 refine In 2 Tryz.func305 fun _ _ _=>?_;refine Z2 ?_;refine .n (au FZ.out) rfl fun b0 _=>?_;refine Z4 ?_;refine .p (hU (cs:=Sa.flatMap jW) FR.out FZ.out (.cons (.s [99,108,122] rfl rfl) (.cons (.s [99,116,122] rfl rfl) (.cons (.s [112,111,112,99,110,116] rfl rfl) (.cons (.s [101,113,122] rfl rfl) .nil)))) rfl) rfl ?_;refine Z4 ?_;refine Post.aR rfl () trivial (fun _ _ _ _=>trivial) (.ra (i:=0) FA.out FC.out rfl rfl rfl rfl) ?_;exact af.refl _
theorem Nb:cQ Tryz.prog 290 [] (aC (iW.flatMap gN)):=by
 refine In 49 Tryz.func290 fun _ _ _=>?_;refine Z2 ?_;refine .n (au FZ.out) rfl fun b0 _=>?_;refine Z4 ?_;refine .p (aN FP.out FZ.out (.cons (.c _) (.cons (.s [117,110,114,101,97,99,104,97,98,108,101] rfl rfl) (.cons (.c _) (.cons (.s [] rfl rfl) (.cons (.s [] rfl rfl) .nil))))) rfl) rfl ?_;refine .p (aN FP.out FZ.out (.cons (.c _) (.cons (.s [110,111,112] rfl rfl) (.cons (.c _) (.cons (.s [] rfl rfl) (.cons (.s [] rfl rfl) .nil))))) rfl) rfl ?_;refine .p (aN FP.out FZ.out (.cons (.c _) (.cons (.s [98,108,111,99,107] rfl rfl) (.cons (.c _) (.cons (.s [] rfl rfl) (.cons (.s [] rfl rfl) .nil))))) rfl) rfl ?_;refine .p (aN FP.out FZ.out (.cons (.c _) (.cons (.s [108,111,111,112] rfl rfl) (.cons (.c _) (.cons (.s [] rfl rfl) (.cons (.s [] rfl rfl) .nil))))) rfl) rfl ?_;refine .p (aN FP.out FZ.out (.cons (.c _) (.cons (.s [105,102] rfl rfl) (.cons (.c _) (.cons (.s [] rfl rfl) (.cons (.s [] rfl rfl) .nil))))) rfl) rfl ?_;refine .p (aN FP.out FZ.out (.cons (.c _) (.cons (.s [101,108,115,101] rfl rfl) (.cons (.c _) (.cons (.s [] rfl rfl) (.cons (.s [] rfl rfl) .nil))))) rfl) rfl ?_;refine .p (aN FP.out FZ.out (.cons (.c _) (.cons (.s [101,110,100] rfl rfl) (.cons (.c _) (.cons (.s [] rfl rfl) (.cons (.s [] rfl rfl) .nil))))) rfl) rfl ?_;refine .p (aN FP.out FZ.out (.cons (.c _) (.cons (.s [98,114] rfl rfl) (.cons (.c _) (.cons (.s [] rfl rfl) (.cons (.s [] rfl rfl) .nil))))) rfl) rfl ?_;refine .p (aN FP.out FZ.out (.cons (.c _) (.cons (.s [98,114,95,105,102] rfl rfl) (.cons (.c _) (.cons (.s [] rfl rfl) (.cons (.s [] rfl rfl) .nil))))) rfl) rfl ?_;refine .p (aN FP.out FZ.out (.cons (.c _) (.cons (.s [98,114,95,116,97,98,108,101] rfl rfl) (.cons (.c _) (.cons (.s [] rfl rfl) (.cons (.s [] rfl rfl) .nil))))) rfl) rfl ?_;refine .p (aN FP.out FZ.out (.cons (.c _) (.cons (.s [114,101,116,117,114,110] rfl rfl) (.cons (.c _) (.cons (.s [] rfl rfl) (.cons (.s [] rfl rfl) .nil))))) rfl) rfl ?_;refine .p (aN FP.out FZ.out (.cons (.c _) (.cons (.s [99,97,108,108] rfl rfl) (.cons (.c _) (.cons (.s [] rfl rfl) (.cons (.s [] rfl rfl) .nil))))) rfl) rfl ?_;refine .p (aN FP.out FZ.out (.cons (.c _) (.cons (.s [99,97,108,108,95,105,110,100,105,114,101,99,116] rfl rfl) (.cons (.c _) (.cons (.s [] rfl rfl) (.cons (.s [] rfl rfl) .nil))))) rfl) rfl ?_;refine .p (aN FP.out FZ.out (.cons (.c _) (.cons (.s [100,114,111,112] rfl rfl) (.cons (.c _) (.cons (.s [] rfl rfl) (.cons (.s [] rfl rfl) .nil))))) rfl) rfl ?_;refine .p (aN FP.out FZ.out (.cons (.c _) (.cons (.s [115,101,108,101,99,116] rfl rfl) (.cons (.c _) (.cons (.s [] rfl rfl) (.cons (.s [] rfl rfl) .nil))))) rfl) rfl ?_;refine .p (aN FP.out FZ.out (.cons (.c _) (.cons (.s [108,111,99,97,108,46,103,101,116] rfl rfl) (.cons (.c _) (.cons (.s [] rfl rfl) (.cons (.s [] rfl rfl) .nil))))) rfl) rfl ?_;refine .p (aN FP.out FZ.out (.cons (.c _) (.cons (.s [108,111,99,97,108,46,115,101,116] rfl rfl) (.cons (.c _) (.cons (.s [] rfl rfl) (.cons (.s [] rfl rfl) .nil))))) rfl) rfl ?_;refine .p (aN FP.out FZ.out (.cons (.c _) (.cons (.s [108,111,99,97,108,46,116,101,101] rfl rfl) (.cons (.c _) (.cons (.s [] rfl rfl) (.cons (.s [] rfl rfl) .nil))))) rfl) rfl ?_;refine .p (aN FP.out FZ.out (.cons (.c _) (.cons (.s [103,108,111,98,97,108,46,103,101,116] rfl rfl) (.cons (.c _) (.cons (.s [] rfl rfl) (.cons (.s [] rfl rfl) .nil))))) rfl) rfl ?_;refine .p (aN FP.out FZ.out (.cons (.c _) (.cons (.s [103,108,111,98,97,108,46,115,101,116] rfl rfl) (.cons (.c _) (.cons (.s [] rfl rfl) (.cons (.s [] rfl rfl) .nil))))) rfl) rfl ?_;refine .p (aN FP.out FZ.out (.cons (.c _) (.cons (.s [105,51,50,46,108,111,97,100] rfl rfl) (.cons (.c _) (.cons (.s [105] rfl rfl) (.cons (.s [105] rfl rfl) .nil))))) rfl) rfl ?_;refine .p (aN FP.out FZ.out (.cons (.c _) (.cons (.s [105,54,52,46,108,111,97,100] rfl rfl) (.cons (.c _) (.cons (.s [105] rfl rfl) (.cons (.s [108] rfl rfl) .nil))))) rfl) rfl ?_;refine .p (aN FP.out FZ.out (.cons (.c _) (.cons (.s [105,51,50,46,108,111,97,100,56,95,115] rfl rfl) (.cons (.c _) (.cons (.s [105] rfl rfl) (.cons (.s [105] rfl rfl) .nil))))) rfl) rfl ?_;refine .p (aN FP.out FZ.out (.cons (.c _) (.cons (.s [105,51,50,46,108,111,97,100,56,95,117] rfl rfl) (.cons (.c _) (.cons (.s [105] rfl rfl) (.cons (.s [105] rfl rfl) .nil))))) rfl) rfl ?_;refine .p (aN FP.out FZ.out (.cons (.c _) (.cons (.s [105,51,50,46,108,111,97,100,49,54,95,115] rfl rfl) (.cons (.c _) (.cons (.s [105] rfl rfl) (.cons (.s [105] rfl rfl) .nil))))) rfl) rfl ?_;refine .p (aN FP.out FZ.out (.cons (.c _) (.cons (.s [105,51,50,46,108,111,97,100,49,54,95,117] rfl rfl) (.cons (.c _) (.cons (.s [105] rfl rfl) (.cons (.s [105] rfl rfl) .nil))))) rfl) rfl ?_;refine .p (aN FP.out FZ.out (.cons (.c _) (.cons (.s [105,54,52,46,108,111,97,100,56,95,115] rfl rfl) (.cons (.c _) (.cons (.s [105] rfl rfl) (.cons (.s [108] rfl rfl) .nil))))) rfl) rfl ?_;refine .p (aN FP.out FZ.out (.cons (.c _) (.cons (.s [105,54,52,46,108,111,97,100,56,95,117] rfl rfl) (.cons (.c _) (.cons (.s [105] rfl rfl) (.cons (.s [108] rfl rfl) .nil))))) rfl) rfl ?_;refine .p (aN FP.out FZ.out (.cons (.c _) (.cons (.s [105,54,52,46,108,111,97,100,49,54,95,115] rfl rfl) (.cons (.c _) (.cons (.s [105] rfl rfl) (.cons (.s [108] rfl rfl) .nil))))) rfl) rfl ?_;refine .p (aN FP.out FZ.out (.cons (.c _) (.cons (.s [105,54,52,46,108,111,97,100,49,54,95,117] rfl rfl) (.cons (.c _) (.cons (.s [105] rfl rfl) (.cons (.s [108] rfl rfl) .nil))))) rfl) rfl ?_;refine .p (aN FP.out FZ.out (.cons (.c _) (.cons (.s [105,54,52,46,108,111,97,100,51,50,95,115] rfl rfl) (.cons (.c _) (.cons (.s [105] rfl rfl) (.cons (.s [108] rfl rfl) .nil))))) rfl) rfl ?_;refine .p (aN FP.out FZ.out (.cons (.c _) (.cons (.s [105,54,52,46,108,111,97,100,51,50,95,117] rfl rfl) (.cons (.c _) (.cons (.s [105] rfl rfl) (.cons (.s [108] rfl rfl) .nil))))) rfl) rfl ?_;refine .p (aN FP.out FZ.out (.cons (.c _) (.cons (.s [105,51,50,46,115,116,111,114,101] rfl rfl) (.cons (.c _) (.cons (.s [105,105] rfl rfl) (.cons (.s [] rfl rfl) .nil))))) rfl) rfl ?_;refine .p (aN FP.out FZ.out (.cons (.c _) (.cons (.s [105,54,52,46,115,116,111,114,101] rfl rfl) (.cons (.c _) (.cons (.s [105,108] rfl rfl) (.cons (.s [] rfl rfl) .nil))))) rfl) rfl ?_;refine .p (aN FP.out FZ.out (.cons (.c _) (.cons (.s [105,51,50,46,115,116,111,114,101,56] rfl rfl) (.cons (.c _) (.cons (.s [105,105] rfl rfl) (.cons (.s [] rfl rfl) .nil))))) rfl) rfl ?_;refine .p (aN FP.out FZ.out (.cons (.c _) (.cons (.s [105,51,50,46,115,116,111,114,101,49,54] rfl rfl) (.cons (.c _) (.cons (.s [105,105] rfl rfl) (.cons (.s [] rfl rfl) .nil))))) rfl) rfl ?_;refine .p (aN FP.out FZ.out (.cons (.c _) (.cons (.s [105,54,52,46,115,116,111,114,101,56] rfl rfl) (.cons (.c _) (.cons (.s [105,108] rfl rfl) (.cons (.s [] rfl rfl) .nil))))) rfl) rfl ?_;refine .p (aN FP.out FZ.out (.cons (.c _) (.cons (.s [105,54,52,46,115,116,111,114,101,49,54] rfl rfl) (.cons (.c _) (.cons (.s [105,108] rfl rfl) (.cons (.s [] rfl rfl) .nil))))) rfl) rfl ?_;refine .p (aN FP.out FZ.out (.cons (.c _) (.cons (.s [105,54,52,46,115,116,111,114,101,51,50] rfl rfl) (.cons (.c _) (.cons (.s [105,108] rfl rfl) (.cons (.s [] rfl rfl) .nil))))) rfl) rfl ?_;refine .p (aN FP.out FZ.out (.cons (.c _) (.cons (.s [109,101,109,111,114,121,46,115,105,122,101] rfl rfl) (.cons (.c _) (.cons (.s [] rfl rfl) (.cons (.s [105] rfl rfl) .nil))))) rfl) rfl ?_;refine .p (aN FP.out FZ.out (.cons (.c _) (.cons (.s [109,101,109,111,114,121,46,103,114,111,119] rfl rfl) (.cons (.c _) (.cons (.s [105] rfl rfl) (.cons (.s [105] rfl rfl) .nil))))) rfl) rfl ?_;refine .p (aN FP.out FZ.out (.cons (.c _) (.cons (.s [105,51,50,46,99,111,110,115,116] rfl rfl) (.cons (.c _) (.cons (.s [] rfl rfl) (.cons (.s [105] rfl rfl) .nil))))) rfl) rfl ?_;refine .p (aN FP.out FZ.out (.cons (.c _) (.cons (.s [105,54,52,46,99,111,110,115,116] rfl rfl) (.cons (.c _) (.cons (.s [] rfl rfl) (.cons (.s [108] rfl rfl) .nil))))) rfl) rfl ?_;refine .p (aN FP.out FZ.out (.cons (.c _) (.cons (.s [105,51,50,46,119,114,97,112,95,105,54,52] rfl rfl) (.cons (.c _) (.cons (.s [108] rfl rfl) (.cons (.s [105] rfl rfl) .nil))))) rfl) rfl ?_;refine .p (aN FP.out FZ.out (.cons (.c _) (.cons (.s [105,54,52,46,101,120,116,101,110,100,95,105,51,50,95,115] rfl rfl) (.cons (.c _) (.cons (.s [105] rfl rfl) (.cons (.s [108] rfl rfl) .nil))))) rfl) rfl ?_;refine .p (aN FP.out FZ.out (.cons (.c _) (.cons (.s [105,54,52,46,101,120,116,101,110,100,95,105,51,50,95,117] rfl rfl) (.cons (.c _) (.cons (.s [105] rfl rfl) (.cons (.s [108] rfl rfl) .nil))))) rfl) rfl ?_;refine .p (aN FP.out FZ.out (.cons (.c _) (.cons (.s [105,51,50,46,101,120,116,101,110,100,56,95,115] rfl rfl) (.cons (.c _) (.cons (.s [105] rfl rfl) (.cons (.s [105] rfl rfl) .nil))))) rfl) rfl ?_;refine .p (hU (cs:=iW.flatMap gN) FR.out FZ.out (.cons (.t rfl) (.cons (.t rfl) (.cons (.t rfl) (.cons (.t rfl) (.cons (.t rfl) (.cons (.t rfl) (.cons (.t rfl) (.cons (.t rfl) (.cons (.t rfl) (.cons (.t rfl) (.cons (.t rfl) (.cons (.t rfl) (.cons (.t rfl) (.cons (.t rfl) (.cons (.t rfl) (.cons (.t rfl) (.cons (.t rfl) (.cons (.t rfl) (.cons (.t rfl) (.cons (.t rfl) (.cons (.t rfl) (.cons (.t rfl) (.cons (.t rfl) (.cons (.t rfl) (.cons (.t rfl) (.cons (.t rfl) (.cons (.t rfl) (.cons (.t rfl) (.cons (.t rfl) (.cons (.t rfl) (.cons (.t rfl) (.cons (.t rfl) (.cons (.t rfl) (.cons (.t rfl) (.cons (.t rfl) (.cons (.t rfl) (.cons (.t rfl) (.cons (.t rfl) (.cons (.t rfl) (.cons (.t rfl) (.cons (.t rfl) (.cons (.t rfl) (.cons (.t rfl) (.cons (.t rfl) (.cons (.t rfl) (.cons (.t rfl) (.cons (.t rfl) .nil))))))))))))))))))))))))))))))))))))))))))))))) rfl) rfl ?_;refine Z4 ?_;refine Post.aR rfl () trivial (fun _ _ _ _=>trivial) (.ra (i:=0) FA.out FC.out rfl rfl rfl rfl) ?_;exact af.refl _
theorem Nc:cQ Tryz.prog 291 [] (aC (jK.flatMap gN)):=by
 refine In 8 Tryz.func291 fun _ _ _=>?_;refine Z2 ?_;refine .n (au FZ.out) rfl fun b0 _=>?_;refine Z4 ?_;refine .p (aN FP.out FZ.out (.cons (.c _) (.cons (.s [105,51,50,46,101,120,116,101,110,100,49,54,95,115] rfl rfl) (.cons (.c _) (.cons (.s [105] rfl rfl) (.cons (.s [105] rfl rfl) .nil))))) rfl) rfl ?_;refine .p (aN FP.out FZ.out (.cons (.c _) (.cons (.s [105,54,52,46,101,120,116,101,110,100,56,95,115] rfl rfl) (.cons (.c _) (.cons (.s [108] rfl rfl) (.cons (.s [108] rfl rfl) .nil))))) rfl) rfl ?_;refine .p (aN FP.out FZ.out (.cons (.c _) (.cons (.s [105,54,52,46,101,120,116,101,110,100,49,54,95,115] rfl rfl) (.cons (.c _) (.cons (.s [108] rfl rfl) (.cons (.s [108] rfl rfl) .nil))))) rfl) rfl ?_;refine .p (aN FP.out FZ.out (.cons (.c _) (.cons (.s [105,54,52,46,101,120,116,101,110,100,51,50,95,115] rfl rfl) (.cons (.c _) (.cons (.s [108] rfl rfl) (.cons (.s [108] rfl rfl) .nil))))) rfl) rfl ?_;refine .p (aN FP.out FZ.out (.cons (.c _) (.cons (.s [109,101,109,111,114,121,46,99,111,112,121] rfl rfl) (.cons (.c _) (.cons (.s [105,105,105] rfl rfl) (.cons (.s [] rfl rfl) .nil))))) rfl) rfl ?_;refine .p (aN FP.out FZ.out (.cons (.c _) (.cons (.s [109,101,109,111,114,121,46,102,105,108,108] rfl rfl) (.cons (.c _) (.cons (.s [105,105,105] rfl rfl) (.cons (.s [] rfl rfl) .nil))))) rfl) rfl ?_;refine .p (hU (cs:=jK.flatMap gN) FR.out FZ.out (.cons (.t rfl) (.cons (.t rfl) (.cons (.t rfl) (.cons (.t rfl) (.cons (.t rfl) (.cons (.t rfl) .nil)))))) rfl) rfl ?_;refine Z4 ?_;refine Post.aR rfl () trivial (fun _ _ _ _=>trivial) (.ra (i:=0) FA.out FC.out rfl rfl rfl rfl) ?_;exact af.refl _
theorem JG:cQ Tryz.prog 310 [] (aC (gO.flatMap ta)):=by
 refine In 10 Tryz.func310 fun _ _ _=>?_;refine Z2 ?_;refine .n (au FZ.out) rfl fun b0 _=>?_;refine dN ?_;refine .p (hU (cs:=gO.flatMap ta) FR.out FZ.out (.cons (.t rfl) (.cons (.t rfl) (.cons (.t rfl) (.cons (.t rfl) (.cons (.t rfl) (.cons (.t rfl) (.cons (.t rfl) (.cons (.t rfl) .nil)))))))) rfl) rfl ?_;refine Z4 ?_;refine Post.aR rfl () trivial (fun _ _ _ _=>trivial) (.ra (i:=0) FA.out FC.out rfl rfl rfl rfl) ?_;exact af.refl _
variable {code:Int}
theorem DS:cQ Tryz.prog 302 [ag .i64 code] (bE [ag .i64 ((sy code).getD (0,0,0)).1,ag .i64 ((sy code).getD (0,0,0)).2.1,ag .i64 ((sy code).getD (0,0,0)).2.2,ak (sy code).isSome]):=by
 refine In 37 Tryz.func302 fun _ _ _=>?_;refine cc ?_;refine .p (cA (h:=JG)) rfl ?_;refine Z4 ?_;refine .aS (σ:=Nat) (fun _=>[]) (fun k=>[(9,ag .i64 (k:Int))]) (fun k=>k≤gO.length∧cT (fun s=>o6 code s=true) gO k) (fun k=>gO.length-k) 0 ⟨by omega,cT.zero _ _⟩ rfl ?_ ?_
 · exact(.get rfl (af.refl _) (.refl _ _))
 rintro k ⟨hk,hn⟩;refine Z6 ?_;refine Cd (fun c0=>?_) fun c0=>?_
 ·
  have GQ:k<gO.length:=by have:gO.length=8:=rfl;omega
  obtain⟨x,Q2⟩:=ah (xs:=gO) (k:=k) GQ;have hb:=PF x (List.mem_of_getElem? Q2);refine Z6 ?_;refine .p (uT gO FU.out FC.out rfl FA.out (.t rfl) rfl rfl (.t rfl) rfl (by assumption)) rfl ?_;refine .n (au FZ.out) rfl fun b7 _=>?_;refine Z3 ?_;refine .share (t:=7) (i:=0) rfl rfl ?_;refine EX ?_;refine Cd (fun c1=>?_) fun c1=>?_
  ·
   have hno:=Sc Q2 (by simpa[o6] using c1) hn;refine Z1 ?_;refine .br 13 2 FM.out (by kernel_rfl) (k:= ?_);refine Z24 ?_;refine Rt4 ?_ ?_ ?_ ?_
   · exact af.int (by rw[hno];rfl)
   · exact af.int (by rw[hno];rfl)
   · exact af.int (by rw[hno];rfl)
   exact af.prop (by rw[hno];simp)
  refine Z7 ?_;refine .round (k+1) ⟨by omega,hn.succ Q2 (by simpa[o6] using c1)⟩ (by omega) rfl ?_;exact(.get rfl (af.int (by omega)) (.keep 20 rfl rfl))
 have OA:k=gO.length:=by have:gO.length=8:=rfl;omega
 subst OA;refine jb ?_;refine Rt4 ?_ ?_ ?_ ?_
 · exact af.int (by rw[tc hn];rfl)
 · exact af.int (by rw[tc hn];rfl)
 · exact af.int (by rw[tc hn];rfl)
 exact af.prop (by rw[tc hn];simp)
theorem Bj:cQ Tryz.prog 292 [ag .i64 code] (bE [aC (gN ((gQ code).getD TS)),ak (gQ code).isSome]):=by
 refine In 69 Tryz.func292 fun _ _ _=>?_;refine Z2 ?_;refine .n (au FZ.out) rfl fun b2 _=>?_;refine Z6 ?_;refine .p (cA (h:=DS)) rfl ?_;refine BE ?_;refine Cd (fun c0=>?_) fun c0=>?_
 ·
  have hno:sy code=none:=by simpa using c0
  have hnm:=Bb hno;refine Z9 ?_;refine Post.bk rfl rfl () trivial (fun _ _ _ _=>trivial) rfl (.cons (.ra (i:=0) FA.out FC.out rfl rfl rfl rfl) ?_ (.cons (.rt rfl) ?_ .nil))
  · simp only[hnm,Option.getD_none];exact af.agg (.cons (af.refl _) (.cons rG (.cons (af.refl _) (.cons rG (.cons rG .nil)))))
  exact af.prop (by rw[hnm];simp)
 obtain⟨⟨g,n,b⟩,hno⟩:=Option.isSome_iff_exists.1 (Classical.not_not.1 c0);obtain⟨hn0,hng,hnb⟩:=F7 hno;have hnm:=Ba hno;simp only[hno,Option.getD_some];have Eh:=F9 b;have hlb:=vC Ga n.toNat;have hlt:=vC Cb n.toNat;have hlu:=vC Dx n.toNat;refine Z4 ?_;refine .p (bh (.s [105,51,50,46] rfl rfl)) rfl ?_;refine .p (bh (.s [105] rfl rfl)) rfl ?_;refine Z9 ?_;refine Cd (fun c1=>?_) fun c1=>?_
 ·
  refine Z1 ?_;refine .p (bh (.s [105,54,52,46] rfl rfl)) rfl ?_;refine .p (bh (.s [108] rfl rfl)) rfl ?_;refine cc ?_;refine Cd (fun c2=>?_) fun c2=>?_
  ·
   refine Z4 ?_;refine .p (cA (h:=tP)) rfl ?_;refine Z1 ?_;refine .p (jC FU.out FC.out FA.out (.t rfl) rfl (.t rfl) (by omega:_=((n.toNat:Nat):Int)) (ng (by have:My.length=15:=rfl;omega))) rfl ?_;refine .p (qX (.t rfl) (.t rfl) (by simp only[List.length_cons,List.length_nil];omega)) rfl ?_;refine Z2 ?_;refine .p (qX (.t rfl) (.t rfl) (by simp only[List.length_cons,List.length_nil];omega)) rfl ?_;refine Z9 ?_;refine Post.bk rfl rfl () trivial (fun _ _ _ _=>trivial) rfl (.cons (.ra (i:=0) FA.out FC.out rfl rfl rfl rfl) ?_ (.cons (.rt rfl) ?_ .nil))
   · simp only[hnm,Option.getD_some];exact af.of_eq (by simp[lY,gN,mV,om, *];try rfl)
   exact af.prop (by rw[hnm];simp)
  refine Z7 ?_;refine Cd (fun c3=>?_) fun c3=>?_
  ·
   refine Z4 ?_;refine .p (cA (h:=AO)) rfl ?_;refine Z1 ?_;refine .p (jC FU.out FC.out FA.out (.t rfl) rfl (.t rfl) (by omega:_=((n.toNat:Nat):Int)) (ng (by have:B9.length=10:=rfl;omega))) rfl ?_;refine .p (qX (.t rfl) (.t rfl) (by simp only[List.length_cons,List.length_nil];omega)) rfl ?_;refine Z2 ?_;refine .p (qX (.t rfl) (.t rfl) (by simp only[List.length_cons,List.length_nil];omega)) rfl ?_;refine .p (aN FP.out FZ.out (.cons (.t rfl) (.cons (.t rfl) (.cons (.c _) (.cons (.t rfl) (.cons (.s [105] rfl rfl) .nil))))) rfl) rfl ?_;refine Z7 ?_;refine Post.bk rfl rfl () trivial (fun _ _ _ _=>trivial) rfl (.cons (.ra (i:=0) FA.out FC.out rfl rfl rfl rfl) ?_ (.cons (.rt rfl) ?_ .nil))
   · simp only[hnm,Option.getD_some];exact af.of_eq (by simp[lY,gN,mV,om, *];try rfl)
   exact af.prop (by rw[hnm];simp)
  refine Z7 ?_;refine Cd (fun c4=>?_) fun c4=>?_
  ·
   refine Z4 ?_;refine .p (cA (h:=ni)) rfl ?_;refine Z1 ?_;refine .p (jC FU.out FC.out FA.out (.t rfl) rfl (.t rfl) (by omega:_=((n.toNat:Nat):Int)) (ng (by have:Sa.length=4:=rfl;omega))) rfl ?_;refine .p (qX (.t rfl) (.t rfl) (by simp only[List.length_cons,List.length_nil];omega)) rfl ?_;refine Z1 ?_;refine .p (aN FP.out FZ.out (.cons (.t rfl) (.cons (.t rfl) (.cons (.c _) (.cons (.t rfl) (.cons (.s [105] rfl rfl) .nil))))) rfl) rfl ?_;refine Z7 ?_;refine Post.bk rfl rfl () trivial (fun _ _ _ _=>trivial) rfl (.cons (.ra (i:=0) FA.out FC.out rfl rfl rfl rfl) ?_ (.cons (.rt rfl) ?_ .nil))
   · simp only[hnm,Option.getD_some];exact af.of_eq (by simp[lY,gN,mV,om, *];try rfl)
   exact af.prop (by rw[hnm];simp)
  refine Z7 ?_;refine .p (cA (h:=ni)) rfl ?_;refine Z1 ?_;refine .p (jC FU.out FC.out FA.out (.t rfl) rfl (.t rfl) (by omega:_=((n.toNat:Nat):Int)) (ng (by have:Sa.length=4:=rfl;omega))) rfl ?_;refine .p (qX (.t rfl) (.t rfl) (by simp only[List.length_cons,List.length_nil];omega)) rfl ?_;refine Z8 ?_;refine Post.bk rfl rfl () trivial (fun _ _ _ _=>trivial) rfl (.cons (.ra (i:=0) FA.out FC.out rfl rfl rfl rfl) ?_ (.cons (.rt rfl) ?_ .nil))
  · simp only[hnm,Option.getD_some];exact af.of_eq (by simp[lY,gN,mV,om, *];try rfl)
  exact af.prop (by rw[hnm];simp)
 refine cc ?_;refine Cd (fun c5=>?_) fun c5=>?_
 ·
  refine Z4 ?_;refine .p (cA (h:=tP)) rfl ?_;refine Z1 ?_;refine .p (jC FU.out FC.out FA.out (.t rfl) rfl (.t rfl) (by omega:_=((n.toNat:Nat):Int)) (ng (by have:My.length=15:=rfl;omega))) rfl ?_;refine .p (qX (.t rfl) (.t rfl) (by simp only[List.length_cons,List.length_nil];omega)) rfl ?_;refine Z2 ?_;refine .p (qX (.t rfl) (.t rfl) (by simp only[List.length_cons,List.length_nil];omega)) rfl ?_;refine Z9 ?_;refine Post.bk rfl rfl () trivial (fun _ _ _ _=>trivial) rfl (.cons (.ra (i:=0) FA.out FC.out rfl rfl rfl rfl) ?_ (.cons (.rt rfl) ?_ .nil))
  · simp only[hnm,Option.getD_some];exact af.of_eq (by simp[lY,gN,mV,om, *];try rfl)
  exact af.prop (by rw[hnm];simp)
 refine Z7 ?_;refine Cd (fun c6=>?_) fun c6=>?_
 ·
  refine Z4 ?_;refine .p (cA (h:=AO)) rfl ?_;refine Z1 ?_;refine .p (jC FU.out FC.out FA.out (.t rfl) rfl (.t rfl) (by omega:_=((n.toNat:Nat):Int)) (ng (by have:B9.length=10:=rfl;omega))) rfl ?_;refine .p (qX (.t rfl) (.t rfl) (by simp only[List.length_cons,List.length_nil];omega)) rfl ?_;refine Z2 ?_;refine .p (qX (.t rfl) (.t rfl) (by simp only[List.length_cons,List.length_nil];omega)) rfl ?_;refine .p (aN FP.out FZ.out (.cons (.t rfl) (.cons (.t rfl) (.cons (.c _) (.cons (.t rfl) (.cons (.s [105] rfl rfl) .nil))))) rfl) rfl ?_;refine Z7 ?_;refine Post.bk rfl rfl () trivial (fun _ _ _ _=>trivial) rfl (.cons (.ra (i:=0) FA.out FC.out rfl rfl rfl rfl) ?_ (.cons (.rt rfl) ?_ .nil))
  · simp only[hnm,Option.getD_some];exact af.of_eq (by simp[lY,gN,mV,om, *];try rfl)
  exact af.prop (by rw[hnm];simp)
 refine Z7 ?_;refine Cd (fun c7=>?_) fun c7=>?_
 ·
  refine Z4 ?_;refine .p (cA (h:=ni)) rfl ?_;refine Z1 ?_;refine .p (jC FU.out FC.out FA.out (.t rfl) rfl (.t rfl) (by omega:_=((n.toNat:Nat):Int)) (ng (by have:Sa.length=4:=rfl;omega))) rfl ?_;refine .p (qX (.t rfl) (.t rfl) (by simp only[List.length_cons,List.length_nil];omega)) rfl ?_;refine Z1 ?_;refine .p (aN FP.out FZ.out (.cons (.t rfl) (.cons (.t rfl) (.cons (.c _) (.cons (.t rfl) (.cons (.s [105] rfl rfl) .nil))))) rfl) rfl ?_;refine Z7 ?_;refine Post.bk rfl rfl () trivial (fun _ _ _ _=>trivial) rfl (.cons (.ra (i:=0) FA.out FC.out rfl rfl rfl rfl) ?_ (.cons (.rt rfl) ?_ .nil))
  · simp only[hnm,Option.getD_some];exact af.of_eq (by simp[lY,gN,mV,om, *];try rfl)
  exact af.prop (by rw[hnm];simp)
 refine Z7 ?_;refine .p (cA (h:=ni)) rfl ?_;refine Z1 ?_;refine .p (jC FU.out FC.out FA.out (.t rfl) rfl (.t rfl) (by omega:_=((n.toNat:Nat):Int)) (ng (by have:Sa.length=4:=rfl;omega))) rfl ?_;refine .p (qX (.t rfl) (.t rfl) (by simp only[List.length_cons,List.length_nil];omega)) rfl ?_;refine Z8 ?_;refine Post.bk rfl rfl () trivial (fun _ _ _ _=>trivial) rfl (.cons (.ra (i:=0) FA.out FC.out rfl rfl rfl rfl) ?_ (.cons (.rt rfl) ?_ .nil))
 · simp only[hnm,Option.getD_some];exact af.of_eq (by simp[lY,gN,mV,om, *];try rfl)
 exact af.prop (by rw[hnm];simp)
theorem Lc:cQ Tryz.prog 267 [ag .i64 code] (bE [aC (gN ((tq code).getD TS)),ak (tq code).isSome]):=by
 refine In 32 Tryz.func267 fun _ _ _=>?_;refine Z2 ?_;refine .n (au FZ.out) rfl fun b2 _=>?_;refine Z6 ?_;refine .p (cA (h:=Nb)) rfl ?_;refine Z4 ?_;refine .aS (σ:=Nat) (fun _=>_) (fun k=>[(9,ag .i64 (k:Int))]) (fun k=>k≤iW.length∧cT (fun r:nR=>r.code=code) iW k) (fun k=>iW.length-k) 0 ⟨by omega,cT.zero _ _⟩ rfl ?_ ?_
 · exact(.get rfl (af.refl _) (.refl _ _))
 rintro k ⟨hk,hn⟩;refine Z6 ?_;refine Cd (fun c0=>?_) fun c0=>?_
 ·
  have GQ:k<iW.length:=by have:iW.length=47:=rfl;omega
  obtain⟨x,Q2⟩:=ah (xs:=iW) (k:=k) GQ;refine Z6 ?_;refine .p (uT iW FU.out FC.out rfl FA.out (.t rfl) rfl rfl (.t rfl) rfl (by assumption)) rfl ?_;refine .n (au FZ.out) rfl fun b5 _=>?_;refine Z3 ?_;refine .share (t:=5) (i:=0) rfl rfl ?_;refine Z8 ?_;refine Cd (fun c1=>?_) fun c1=>?_
  ·
   have hro:=U3 Q2 c1 hn;refine jP ?_;refine Post.bk rfl rfl () trivial (fun _ _ _ _=>trivial) rfl (.cons (.ra (i:=0) FA.out FC.out rfl rfl rfl rfl) ?_ (.cons (.rt rfl) ?_ .nil))
   · rw[hro];exact af.refl _
   exact af.prop (by rw[hro];simp)
  refine Z7 ?_;refine .round (k+1) ⟨by omega,hn.succ Q2 c1⟩ (by omega) rfl ?_;exact(.get rfl (af.int (by omega)) (.keep 11 rfl rfl))
 have OA:k=iW.length:=by have:iW.length=47:=rfl;omega
 subst OA;refine Z8 ?_;refine .p (cA (h:=Nc)) rfl ?_;refine Z4 ?_;refine .aS (σ:=Nat) (fun _=>_) (fun j=>[(19,ag .i64 (j:Int))]) (fun j=>j≤jK.length∧cT (fun r:nR=>r.code=code) jK j) (fun j=>jK.length-j) 0 ⟨by omega,cT.zero _ _⟩ rfl ?_ ?_
 · exact(.get rfl (af.refl _) (.refl _ _))
 rintro j ⟨hj,hm⟩;refine Z6 ?_;refine Cd (fun c2=>?_) fun c2=>?_
 ·
  have aq6:j<jK.length:=by have:jK.length=6:=rfl;omega
  obtain⟨y,hxj⟩:=ah (xs:=jK) (k:=j) aq6;refine Z6 ?_;refine .p (uT jK FU.out FC.out rfl FA.out (.t rfl) rfl rfl (.t rfl) rfl (by assumption)) rfl ?_;refine .n (au FZ.out) rfl fun b7 _=>?_;refine Z3 ?_;refine .share (t:=7) (i:=0) rfl rfl ?_;refine Z8 ?_;refine Cd (fun c3=>?_) fun c3=>?_
  ·
   have hro:=U4 hn hxj c3 hm;refine jP ?_;refine Post.bk rfl rfl () trivial (fun _ _ _ _=>trivial) rfl (.cons (.ra (i:=0) FA.out FC.out rfl rfl rfl rfl) ?_ (.cons (.rt rfl) ?_ .nil))
   · rw[hro];exact af.refl _
   exact af.prop (by rw[hro];simp)
  refine Z7 ?_;refine .round (j+1) ⟨by omega,hm.succ hxj c3⟩ (by omega) rfl ?_;exact(.get rfl (af.int (by omega)) (.keep 11 rfl rfl))
 have Xj:j=jK.length:=by have:jK.length=6:=rfl;omega
 subst Xj;refine Z8 ?_;refine .p (cA (h:=Bj)) rfl ?_;refine Z7 ?_;refine Post.bk rfl rfl () trivial (fun _ _ _ _=>trivial) rfl (.cons (.ra (i:=0) FA.out FC.out rfl rfl rfl rfl) ?_ (.cons (.rt rfl) ?_ .nil))
 · rw[PG hn hm];exact af.refl _
 exact af.prop (by rw[PG hn hm])
theorem uG(az:rj l)(hp1:l.length≤65536):cQ Tryz.prog 293 [cZ l] (ai 1 aj (gP l)):=by
 refine In 20 Tryz.func293 fun _ _ _=>?_;refine jb ?_;refine .n (EH FU.out (.t rfl)) rfl fun b7 _=>?_;refine Z3 ?_;refine .eC 1 aj ?_;refine .aS (σ:=Nat×SB) (fun s=>[av s.2 1 aj (gP (l.take s.1)),zc b7 l s.1]) (fun s=>[(3,aa (bt s.2 (gP (l.take s.1)).length))]) (fun s=>s.1≤l.length) (fun s=>l.length-s.1) (0,none) (by simp) (by simp[gP]) ?_ ?_
 · exact(.get rfl (af.of_eq (by simp[bt])) (.refl _ _))
 rintro s hk;have htl:=Ae (l.take s.1);have GL:(l.take s.1).length≤l.length:=by simp;omega
 refine Z2 ?_;refine .n (Ko (i:=1) az (by omega) (.t rfl) rfl) rfl fun _ _=>?_;refine .p (Kq (.t rfl)) rfl ?_;refine Z3 ?_;refine Cd (fun c0=>?_) fun c0=>?_
 ·
  obtain⟨x,hx⟩:=ah (xs:=l) (k:=s.1) c0;rw[show min (s.1+1) l.length=s.1+1 by omega];refine Z5 ?_;refine .p (Kr (by assumption) (.t rfl)) rfl ?_;refine Z9 ?_;refine Cd (fun c1=>?_) fun c1=>?_
  ·
   refine Z2 ?_;refine .p (cB aj [126]) rfl ?_;refine .n (aF (i:=0) FU.out FU.out FC.out rfl FZ.out rfl FY.out (.t rfl) (.t rfl) rfl (by first|omega|(simp<;>omega)) (by first|omega|(simp<;>omega))) rfl fun g15 _=>?_;refine Z3 ?_;refine .round (s.1+1,(by first|exact g15|exact g18)) (by omega) (by omega) (by first|(rw[mA hx c1];rfl)|(rw[mB hx c1];rfl)) ?_
   first|exact(.get rfl (af.of_eq (by rw[mA hx c1])) (.keep 11 rfl rfl))|exact(.get rfl (af.of_eq (by rw[mB hx c1])) (.keep 11 rfl rfl))
  refine Z2 ?_;refine .p (cB aj [127]) rfl ?_;refine .n (aF (i:=0) FU.out FU.out FC.out rfl FZ.out rfl FY.out (.t rfl) (.t rfl) rfl (by first|omega|(simp<;>omega)) (by first|omega|(simp<;>omega))) rfl fun g18 _=>?_;refine Z3 ?_;refine .round (s.1+1,(by first|exact g15|exact g18)) (by omega) (by omega) (by first|(rw[mA hx c1];rfl)|(rw[mB hx c1];rfl)) ?_
  first|exact(.get rfl (af.of_eq (by rw[mA hx c1])) (.keep 11 rfl rfl))|exact(.get rfl (af.of_eq (by rw[mB hx c1])) (.keep 11 rfl rfl))
 have hall:l.take s.1=l:=List.take_of_length_le (by omega);rw[hall];refine .eB (n:=1) (enc:=aj) (i:=0) (t:=3) rfl rfl ?_;refine dN ?_;refine bB ?_;exact af.refl _
theorem Nd{r:nR}(az:F6 r):cQ Tryz.prog 268 [aC (gN r)] (aC (s9 (uw r))):=by
 refine In 16 Tryz.func268 fun _ _ _=>?_;refine Z3 ?_;refine .n (au FZ.out) rfl fun b2 _=>?_;refine Z3 ?_;refine .br 12 2 FM.out (by kernel_rfl) (k:= ?_);refine Z8 ?_;refine .p (cA (h:=uG az.1 (by have:=az.2.2.1;omega))) ?_;refine Z2 ?_;refine .p (cA (h:=uG az.2.1 (by have:=az.2.2.2;omega))) ?_;refine Z6 ?_;refine Post.aR rfl () trivial (fun _ _ _ _=>trivial) (.ra (i:=0) FA.out FC.out rfl rfl rfl rfl) ?_;exact af.refl _
theorem find_spec:cQ Tryz.prog 251 [ag .i64 code] (bE [aC (s9 ((eR code).getD XC)),ak (eR code).isSome]):=by
 refine In 16 Tryz.func251 fun _ _ _=>?_;refine Z2 ?_;refine .n (au FZ.out) rfl fun b2 _=>?_;refine Z6 ?_;refine .p (cA (h:=Lc)) rfl ?_;refine Z3 ?_;refine .n (au FZ.out) rfl fun b4 _=>?_;refine Z4 ?_;refine .share (t:=4) (i:=0) rfl rfl ?_;refine Z7 ?_;refine Cd (fun c0=>?_) fun c0=>?_
 ·
  have hro:tq code=none:=by simpa using c0
  have rP:eR code=none:=by unfold eR;rw[hro];rfl
  refine Z9 ?_;refine Post.bk rfl rfl () trivial (fun _ _ _ _=>trivial) rfl (.cons (.ra (i:=0) FA.out FC.out rfl rfl rfl rfl) ?_ (.cons (.rt rfl) ?_ .nil))
  · rw[rP];exact af.agg (.cons (af.refl _) (.cons rG (.cons (af.refl _) (.cons (aI _ _) (.cons (aI _ _) .nil)))))
  exact af.prop (by rw[rP];simp)
 obtain⟨r,hro⟩:=Option.isSome_iff_exists.1 (Classical.not_not.1 c0);have rP:eR code=some (uw r):=by unfold eR;rw[hro];rfl
 have hok:=KS hro;simp only[hro,Option.getD_some];refine Z5 ?_;refine .p (cA (h:=Nd hok)) rfl ?_;refine Z5 ?_;refine Post.bk rfl rfl () trivial (fun _ _ _ _=>trivial) rfl (.cons (.ra (i:=0) FA.out FC.out rfl rfl rfl rfl) ?_ (.cons (.rt rfl) ?_ .nil))
 · rw[rP];exact af.refl _
 exact af.prop (by rw[rP];simp)
theorem JH:cQ Tryz.prog 282 [ag .i64 code] (bE [ag .i64 ((lZ code).getD 0),ak (lZ code).isSome]):=by
 refine In 47 Tryz.func282 fun _ _ _=>?_;refine Z9 ?_;refine .p (cA (h:=find_spec)) rfl ?_;refine Z3 ?_;refine .n (au FZ.out) rfl fun b4 _=>?_;refine Z4 ?_;refine .share (t:=4) (i:=0) rfl rfl ?_;refine dN ?_;refine Cd (fun c0=>?_) fun c0=>?_
 ·
  have SO:lZ code=none:=by
   cases hf:eR code with
   |none=>exact x4 hf
   |some x=>
    refine Gb hf (fun h8=>?_);rw[hf] at c0;simp[h8] at c0
  refine Z8 ?_;refine j4 ?_ ?_
  · exact af.int (by rw[SO];rfl)
  exact af.prop (by rw[SO];simp)
 obtain⟨x,rP⟩:∃x,eR code=some x:=Option.isSome_iff_exists.1 (Classical.byContradiction fun h=>c0 (.inl h));simp only[rP,Option.getD_some] at c0 ⊢;have hf8:x.Form=8:=by simpa using c0
 have SO:=Jd rP hf8;obtain⟨hne,hnl⟩:=Sd rP;refine Z5 ?_;refine .p (hU (cs:=iX.flatMap jW) FR.out FZ.out (.cons (.s [56] rfl rfl) (.cons (.s [49,54] rfl rfl) (.cons (.s [51,50] rfl rfl) .nil))) rfl) rfl ?_;refine Z4 ?_;refine .aS (σ:=Nat) (fun _=>[]) (fun k=>[(24,ag .i64 (k:Int))]) (fun k=>k≤iX.length∧cT (fun s=>mN (Ad x.Name) s) iX k) (fun k=>iX.length-k) 0 ⟨by omega,cT.zero _ _⟩ rfl ?_ ?_
 · exact(.get rfl (af.refl _) (.refl _ _))
 rintro k ⟨hk,hn⟩;refine Z6 ?_;refine Cd (fun c1=>?_) fun c1=>?_
 ·
  have GQ:k<iX.length:=by have:iX.length=3:=rfl;omega
  obtain⟨s,Q2⟩:=ah (xs:=iX) (k:=k) GQ;have V4:iX.getD k []=s:=by rw[List.getD_eq_getElem?_getD,Q2];rfl
  refine Z7 ?_;refine .p (jC FU.out FC.out FA.out (.t rfl) rfl (.t rfl) rfl (ng GQ)) rfl ?_;refine Z8 ?_;refine .p (bA (Qn hne) FB.out (.cons (.t rfl) (.cons (.s [46] rfl rfl) .nil))) rfl ?_;refine dN ?_;refine .p (bA (rq) FB.out (.cons (.t rfl) (.cons (.s [95,115] rfl rfl) .nil))) rfl ?_;refine .p (bA (rq) FB.out (.cons (.t rfl) (.cons (.s [95,117] rfl rfl) .nil))) rfl ?_;refine Z7 ?_;refine .p (cA (h:=AM)) rfl ?_;refine Z2 ?_;refine Cd (fun c2=>?_) fun c2=>?_
  ·
   rw[V4] at c2;refine Z3 ?_;refine .p (Oy (.c _) (.t rfl) (by have h3:k<3:=GQ;show k≤64;omega)) rfl ?_;refine cD ?_;refine j4 ?_ ?_
   · exact af.int (by rw[SO,MC Q2 c2 hn];exact ap8 GQ)
   exact af.prop (by rw[SO];simp)
  rw[V4] at c2;refine Z7 ?_;refine .round (k+1) ⟨by omega,hn.succ Q2 c2⟩ (by omega) rfl ?_;exact(.get rfl (af.int (by omega)) (.keep 25 rfl rfl))
 have OA:k=iX.length:=by have:iX.length=3:=rfl;omega
 subst OA;refine cD ?_;refine .p (bA (AN) FB.out (.cons (.t rfl) (.cons (.s [105,54,52] rfl rfl) .nil))) rfl ?_;refine Z2 ?_;refine Cd (fun c3=>?_) fun c3=>?_
 ·
  refine Z8 ?_;refine j4 ?_ ?_
  · exact af.int (by rw[SO,Cc hn,if_pos (by assumption)];rfl)
  exact af.prop (by rw[SO];simp)
 refine Z9 ?_;refine j4 ?_ ?_
 · exact af.int (by rw[SO,Cc hn,if_neg (by assumption)];rfl)
 exact af.prop (by rw[SO];simp)
theorem JI{labs:List (List UInt8)}(az:(L0++s.1).length≤60000)(hp1:Al m f)(hp2:mW x):yj Tryz.prog 366 254 [aD cb 0,aC (aK x)] (Ai cb m f gs bb bc L0 B k s) (cL x.Code∧iy (cH m f) x s labs=none) (γ:=SB×dD) (fun z=>(cL x.Code∧iy (cH m f) x s labs=some z.2)∨(¬cL x.Code∧z=(gs,s))) (fun z=>Ai cb m f z.1 bb bc L0 B k z.2) (fun _=>ak (cL x.Code)):=by
 refine El 93 Tryz.func254 fun _ _ _=>?_;have Cy:=hp1.fits.lens.1;refine Kx ?_;refine Cd (fun c0=>?_) fun c0=>?_
 ·
  refine Z1 ?_;refine .bP [(0,0),(1,0),(2,0),(3,0),(4,1),(5,0),(6,0),(7,0),(8,0),(9,0),(10,0),(11,0),(12,4),(13,3)] 14 1 FM.out (by kernel_rfl) (k:= ?_);refine Z7 ?_;refine .p rfl (fun _=>qd FU.out FU.out (.t rfl) (cn (by have:=hp2.A0;omega) (by have:=hp2.A16 c0;omega))) ?_;refine .p rfl (fun _=>bA (s8 (m:=m) (f:=x.A)) FB.out (.cons (.t rfl) (.cons (.t rfl) .nil))) ?_;refine Z3 ?_;refine .a rfl (au FZ.out) (fun _ _=>aB.drop (aB.refl _)) fun b5 _=>?_;refine .s rfl (gJ (i:=0) FC.out rfl (.t rfl) (.t rfl) rfl rfl rfl) ?_;refine .fin ?_;refine Z3 ?_;refine .share (t:=5) (i:=0) rfl rfl ?_;refine Z3 ?_;refine .x (cX (h:=eT (e:=2) (by decide))) rfl (fun h=>⟨by unfold cL;omega,by rw[An c0,td (f:=f) hp1.fits,show ja m x.A=none by simpa using h];rfl⟩) fun R2 QX=>?_;refine Z2 ?_;obtain⟨g,hg⟩:=Option.isSome_iff_exists.1 QX;simp only[hg,Option.getD_some];have Vi:eo (cH m f).aA x.A=some g:=(td (f:=f) hp1.fits).trans hg;refine Z3 ?_;refine .x (cX (h:=oQ (s:=s) (g:=g) az (by have:=(hp1.fits.tG g (C9 hg)).2;omega))) rfl (fun h=>⟨by unfold cL;omega,by rw[An c0,Vi];exact h⟩) fun Wa Xt=>?_;refine Z9 ?_;refine .kQ (Post.aR rfl (Wa) (by exact .inl ⟨by unfold cL;omega,by rw[An c0,Vi];exact Xt⟩) (fun _ _ _ h=>h) (.rt rfl) ?_);exact af.prop ⟨fun _=>by unfold cL;omega,fun _=>trivial⟩
 refine Z6 ?_;refine Cd (fun c1=>?_) fun c1=>?_
 ·
  refine Z1 ?_;have oR:=hp2.A0;refine .br 12 18 FM.out (by kernel_rfl) (k:= ?_);refine Z30 ?_;refine .x (cX (h:=eT (e:=2) (by decide))) rfl (fun h=>⟨by unfold cL;omega,by(rw[xe c1];cases hgg:eo (cH m f).bQ x.A with|none=>rfl|some g=>exact if_neg (fun e=>h ⟨⟨(PN hgg).2.1,e.1⟩,e.2⟩))⟩) fun Wh h60=>?_;refine Z3 ?_;obtain⟨⟨hlt,hB⟩,hTb⟩:=h60;obtain⟨g,hg,Vi⟩:=vG (L:=m.bQ) hp2.A0 hlt;have hgs:eo (cH m f).bQ x.A=some g:=hg;refine Z2 ?_;refine .x (cX (h:=fC (s:=s) (w:=127))) rfl (fun h=>⟨by unfold cL;omega,by rw[xe c1,hgs,Option.bind_some,if_pos ⟨hB,hTb⟩,pS,js,h];rfl⟩) fun g62 Wf=>?_;refine Z2 ?_;refine .br 13 1 FM.out (by kernel_rfl) (k:= ?_);refine cc ?_;refine .p (cI x.A.toNat (h:=Vi) (hi:=by have:=hp2.A0;omega)) ?_;refine Z2 ?_;refine .x (cX (h:=oQ (s:=g62.1) (g:=g) (by simp only[List.length_append] at az ⊢;have:=nU Wf;omega) (by have:=(hp1.fits.tG g (List.mem_of_getElem? Vi)).2;omega))) rfl (fun h=>⟨by unfold cL;omega,by rw[xe c1,hgs,Option.bind_some,if_pos ⟨hB,hTb⟩,pS,js,Wf];exact h⟩) fun g76 h76=>?_;refine Z9 ?_;refine .kQ (Post.aR rfl (g76) (by exact .inl ⟨by unfold cL;omega,by rw[xe c1,hgs,Option.bind_some,if_pos ⟨hB,hTb⟩,pS,js,Wf];exact h76⟩) (fun _ _ _ h=>h) (.rt rfl) ?_);exact af.prop ⟨fun _=>by unfold cL;omega,fun _=>trivial⟩
 refine Z6 ?_;refine Cd (fun c2=>?_) fun c2=>?_
 ·
  refine Z2 ?_;refine .x (cX (h:=fC (s:=s) (w:=0))) rfl (fun h=>⟨by unfold cL;omega,by rw[Jg c2,h];rfl⟩) fun Wi XW=>?_;refine Z9 ?_;refine .kQ (Post.aR rfl ((gs,Wi.1)) (by exact .inl ⟨by unfold cL;omega,by rw[Jg c2,XW];rfl⟩) (fun _ _ _ h=>h) (.rt rfl) ?_);exact af.prop ⟨fun _=>by unfold cL;omega,fun _=>trivial⟩
 refine Z6 ?_;refine Cd (fun c3=>?_) fun c3=>?_
 ·
  refine Z3 ?_;refine .x (cX (h:=fC (s:=s) (w:=127))) rfl (fun h=>⟨by unfold cL;omega,by rw[uz c3,gC,h];rfl⟩) fun g84 XX=>?_;refine Z5 ?_;refine .x (cX (h:=fC (s:=g84.1) (w:=0))) rfl (fun h=>⟨by unfold cL;omega,by rw[uz c3,gC,XX];simp only[Option.map_some,Option.bind_some];rw[h];rfl⟩) fun g86 h86=>?_;refine Z7 ?_;refine .x (cX (h:=fC (s:=g86.1) (w:=g86.2))) rfl (fun h=>⟨by unfold cL;omega,by rw[uz c3,gC,XX];simp only[Option.map_some,Option.bind_some];rw[h86,Option.bind_some,h];rfl⟩) fun Wj h90=>?_;refine .p (cB aj [_]) rfl ?_;refine .n (cE (h:=iu (st:=L0++Wj.1.1) (l:=[Wj.2]) (st2:=L0++(bG Wj.1 [Wj.2]).1) (by simp only[List.length_append] at az ⊢;have:=nU XX;have:=nU h86;have:=nU h90;omega) (by simp) (by simp[bG]))) rfl fun T4 Vj=>?_;refine Z9 ?_;refine .kQ (Post.aR rfl ((T4,bG Wj.1 [Wj.2])) (by exact .inl ⟨by unfold cL;omega,by rw[uz c3,gC,XX];simp only[Option.map_some,Option.bind_some];rw[h86,Option.bind_some,h90];rfl⟩) (fun _ _ _ h=>h) (.rt rfl) ?_);exact af.prop ⟨fun _=>by unfold cL;omega,fun _=>trivial⟩
 refine Z8 ?_;refine .kQ (Post.aR rfl ((gs,s)) (by exact .inr ⟨by unfold cL;omega,rfl⟩) (fun _ _ _ h=>h) (.rt rfl) ?_);exact af.prop ⟨fun h=>h.elim,fun h=>by unfold cL at h;omega⟩
theorem DT(az:B.length≤50000)(hp1:mW x):yj Tryz.prog 366 277 [aD cb 0,aC (aK x)] (Ai cb m f gs bb bc L0 B k s) (∀v:nS,x.Code=14→iy v x s ((B++[mC L0.length k s]).map Bd)=none) (γ:=Unit) (fun _=>∀v:nS,x.Code=14→iy v x s ((B++[mC L0.length k s]).map Bd)=some eZ) (fun _=>Ai cb m f gs bb bc L0 B k eZ) (fun _=>bE []):=by
 refine El 45 Tryz.func277 fun _ _ _=>?_;have hBl:(B++[mC L0.length k s]).length≤60000:=by simp;omega
 have hLn:=hp1.Ln;refine cD ?_;refine .x (LH [_] [0,2,1] (h:=mF (n:=x.A) hBl hp1.A0)) rfl (fun h v yI=>by rw[mS yI,h];rfl) fun g12 h12=>?_;refine jP ?_;refine .aS (σ:=Nat) (fun _=>_) (fun j=>[(16,ag .i64 (j:Int))]) (fun j=>j≤x.L.length) (fun j=>x.L.length-j) 0 (Nat.zero_le _) rfl ?_ ?_
 · exact(.get rfl (af.refl _) (.refl _ _))
 rintro j hj;refine Z6 ?_;refine Cd (fun c0=>?_) fun c0=>?_
 ·
  obtain⟨n0,hn0⟩:=ah (xs:=x.L) (k:=j) (by omega);have hnp:=hp1.L0 n0 (List.mem_of_getElem? hn0);refine Z6 ?_;refine .p (cI j (h:=hn0)) rfl ?_;refine Z7 ?_;refine .x (cX (h:=mF (n:=n0) hBl hnp)) rfl (fun h v yI=>by rw[mS yI,h12,Option.bind_some,if_neg (fun e=>by have h9:=e n0 (List.mem_of_getElem? hn0);rw[h] at h9;cases h9)]) fun g22 Wc=>?_;refine Z7 ?_;refine .round (j+1) (by omega) (by omega) rfl ?_;exact(.get rfl (af.int (by omega)) ((.keep 10 rfl rfl)))
 refine kR ?_;refine .aS (σ:=Nat) (fun _=>_) (fun j=>[(27,ag .i64 (j:Int))]) (fun j=>j≤x.L.length∧∀n∈x.L.take j,jq ((B++[mC L0.length k s]).map Bd) n=some g12) (fun j=>x.L.length-j) 0 ⟨Nat.zero_le _,fun n hn=>by simp at hn⟩ rfl ?_ ?_
 · exact(.get rfl (af.refl _) (.refl _ _))
 rintro j ⟨hj,hall⟩;refine Z6 ?_;refine Cd (fun c1=>?_) fun c1=>?_
 ·
  obtain⟨n0,hn0⟩:=ah (xs:=x.L) (k:=j) (by omega);have hnp:=hp1.L0 n0 (List.mem_of_getElem? hn0);refine Z6 ?_;refine .p (cI j (h:=hn0)) rfl ?_;refine Z7 ?_;refine .x (cX (h:=mF (n:=n0) hBl hnp)) rfl (fun h v yI=>by rw[mS yI,h12,Option.bind_some,if_neg (fun e=>by have h9:=e n0 (List.mem_of_getElem? hn0);rw[h] at h9;cases h9)]) fun g33 h33=>?_;refine Z1 ?_;refine .p (cA (h:=oH)) rfl ?_;refine .x (cX (h:=eT (e:=5) (by decide))) rfl (fun h v yI=>by rw[mS yI,h12,Option.bind_some,if_neg (fun e=>by have h9:=e n0 (List.mem_of_getElem? hn0);rw[h33] at h9;exact h (Option.some.inj h9))]) fun g36 PC=>?_;refine Z7 ?_;refine .round (j+1) ⟨by omega,fun n hn=>by(rw[←bq hn0] at hn;rcases List.mem_append.1 hn with hn|hn;exact hall n hn;(simp only[List.mem_singleton] at hn;subst hn;rw[h33,PC]))⟩ (by omega) rfl ?_;exact(.get rfl (af.int (by omega)) ((.keep 13 rfl rfl)))
 have tQ:∀n∈x.L,jq ((B++[mC L0.length k s]).map Bd) n=some g12:=fun n hn=>hall n (by rw[List.take_of_length_le (by omega)];exact hn);refine Z8 ?_;refine .x (LH [] [0,2,1] (h:=fC (s:=s) (w:=127))) rfl (fun h v yI=>by rw[mS yI,h12,Option.bind_some,if_pos tQ,js,h];rfl) fun g39 SP=>?_;refine Z6 ?_;refine .x (cX (h:=jv (s:=g39.1) (l:=g12))) rfl (fun h v yI=>by rw[mS yI,h12,Option.bind_some,if_pos tQ,js,SP,Option.bind_some,h];rfl) fun yJ Qk=>?_;refine Z4 ?_;refine .n (cE (h:=qP (s:=yJ))) rfl fun g44 h44=>?_;refine Z1 ?_;refine .rQ (Post.iA rfl (()) (by exact fun v yI=>by rw[mS yI,h12,Option.bind_some,if_pos tQ,js,SP,Option.bind_some,Qk];rfl) (fun _ _ _ h=>h) rfl)
theorem GR(az:rj l)(hp1:l.length≤65536):cv Tryz.prog 293 [cZ l] [] (γ:=SB) (fun _=>True) (fun g=>[av g 1 aj (gP l)]) (fun g=>aa (bt g (gP l).length)):=by
 refine In 20 Tryz.func293 fun _ _ _=>?_;refine jb ?_;refine .n (EH FU.out (.t rfl)) rfl fun b7 _=>?_;refine Z3 ?_;refine .eC 1 aj ?_;refine .aS (σ:=Nat×SB) (fun s=>[av s.2 1 aj (gP (l.take s.1)),zc b7 l s.1]) (fun s=>[(3,aa (bt s.2 (gP (l.take s.1)).length))]) (fun s=>s.1≤l.length) (fun s=>l.length-s.1) (0,none) (by simp) (by simp[gP]) ?_ ?_
 · exact(.get rfl (af.of_eq (by simp[bt])) (.refl _ _))
 rintro s hk;have htl:=Ae (l.take s.1);have GL:(l.take s.1).length≤l.length:=by simp;omega
 refine Z2 ?_;refine .n (Ko (i:=1) az (by omega) (.t rfl) rfl) rfl fun _ _=>?_;refine .p (Kq (.t rfl)) rfl ?_;refine Z3 ?_;refine Cd (fun c0=>?_) fun c0=>?_
 ·
  obtain⟨x,hx⟩:=ah (xs:=l) (k:=s.1) c0;rw[show min (s.1+1) l.length=s.1+1 by omega];refine Z5 ?_;refine .p (Kr (by assumption) (.t rfl)) rfl ?_;refine Z9 ?_;refine Cd (fun c1=>?_) fun c1=>?_
  ·
   refine Z2 ?_;refine .p (cB aj [126]) rfl ?_;refine .n (aF (i:=0) FU.out FU.out FC.out rfl FZ.out rfl FY.out (.t rfl) (.t rfl) rfl (by first|omega|(simp<;>omega)) (by first|omega|(simp<;>omega))) rfl fun g15 _=>?_;refine Z3 ?_;refine .round (s.1+1,(by first|exact g15|exact g18)) (by omega) (by omega) (by first|(rw[mA hx c1];rfl)|(rw[mB hx c1];rfl)) ?_
   first|exact(.get rfl (af.of_eq (by rw[mA hx c1])) (.keep 11 rfl rfl))|exact(.get rfl (af.of_eq (by rw[mB hx c1])) (.keep 11 rfl rfl))
  refine Z2 ?_;refine .p (cB aj [127]) rfl ?_;refine .n (aF (i:=0) FU.out FU.out FC.out rfl FZ.out rfl FY.out (.t rfl) (.t rfl) rfl (by first|omega|(simp<;>omega)) (by first|omega|(simp<;>omega))) rfl fun g18 _=>?_;refine Z3 ?_;refine .round (s.1+1,(by first|exact g15|exact g18)) (by omega) (by omega) (by first|(rw[mA hx c1];rfl)|(rw[mB hx c1];rfl)) ?_
  first|exact(.get rfl (af.of_eq (by rw[mA hx c1])) (.keep 11 rfl rfl))|exact(.get rfl (af.of_eq (by rw[mB hx c1])) (.keep 11 rfl rfl))
 have hall:l.take s.1=l:=List.take_of_length_le (by omega);rw[hall];refine dN ?_;refine Post.aR rfl (s.2) (by trivial) (aB.dF [0] [1] rfl rfl) (.rt rfl) ?_;exact af.refl _
theorem JJ{r:nR}(az:F6 r):cv Tryz.prog 268 [aC (gN r)] [] (γ:=SB) (fun _=>True) (fun g=>[av g 1 aj (uw r).vw]) (fun g=>aC (mE (uw r) g)):=by
 refine In 16 Tryz.func268 fun _ _ _=>?_;refine Z3 ?_;refine .n (au FZ.out) rfl fun b2 _=>?_;refine Z3 ?_;refine .bP [(0,0),(1,0),(2,0),(3,0),(4,0),(5,0),(6,0),(7,0),(9,0),(10,0),(8,2),(11,0)] 12 2 FM.out (by kernel_rfl) (k:= ?_);refine cD ?_;refine .e rfl (cE (h:=GR az.1 (by have:=az.2.2.1;omega))) fun g11 h11=>?_;refine .p rfl (fun _=>bA (uG az.2.1 (by have:=az.2.2.2;omega)) FB.out (.cons (.t rfl) .nil)) ?_;refine .fin ?_;refine .p (bp.le (aN FP.out FZ.out (.cons (.t rfl) (.cons (.t rfl) (.cons (.t rfl) (.cons (.t rfl) (.cons (.t rfl) .nil))))) rfl) (af.refl (aC (mE (uw r) g11)))) rfl ?_;refine Z4 ?_;refine Post.aR rfl (g11) (by trivial) (aB.dF [0] [1] rfl rfl) (.ra (i:=1) FA.out FC.out rfl rfl rfl rfl) ?_;exact af.refl _
variable {i:pR}
theorem JK(az:eR code=some i):cv Tryz.prog 251 [ag .i64 code] [] (γ:=SB) (fun _=>True) (fun g=>[av g 1 aj i.vw]) (fun g=>bE [aC (mE i g),ak True]):=by
 refine In 16 Tryz.func251 fun _ _ _=>?_;refine Z2 ?_;refine .n (au FZ.out) rfl fun b2 _=>?_;refine Z6 ?_;refine .p (cA (h:=Lc)) rfl ?_;refine Z3 ?_;refine .n (au FZ.out) rfl fun b4 _=>?_;refine Z4 ?_;refine .share (t:=4) (i:=0) rfl rfl ?_;refine Z7 ?_;refine Cd (fun c0=>?_) fun c0=>?_
 ·
  exfalso;have hro:tq code=none:=by simpa using c0
  unfold eR at az;rw[hro] at az;cases az
 obtain⟨r,hro⟩:=Option.isSome_iff_exists.1 (Classical.not_not.1 c0);have rP:i=uw r:=by unfold eR at az;rw[hro] at az;exact(Option.some.inj az).symm
 subst rP;have hok:=KS hro;simp only[hro,Option.getD_some];refine Z5 ?_;refine .n (cE (h:=JJ hok)) rfl fun g15 Eo=>?_;refine Z5 ?_;refine Post.bk rfl rfl (g15) (by trivial) (aB.dF [0] [1] rfl rfl) rfl (.cons (.ra (i:=1) FA.out FC.out rfl rfl rfl rfl) ?_ (.cons (.rt rfl) ?_ .nil))
 · exact af.refl _
 exact af.refl _
theorem DU{gi:SB}(az:(L0++s.1).length≤60000)(hp1:Al m f)(hp2:mW x)(fI:aV x.Code=8)(oe:eR x.Code=some i):yj Tryz.prog 366 255 [aD cb 0,aC (aK x),aC (mE i gi)] (av gi 1 aj i.vw::Ai cb m f gs bb bc L0 B k s) (rA (cH m f) x s=none) (γ:=SB×dD) (fun z=>rA (cH m f) x s=some z.2) (fun z=>Ai cb m f z.1 bb bc L0 B k z.2) (fun _=>bE []):=by
 refine El 50 Tryz.func255 fun _ _ _=>?_;obtain⟨t0,tl,GL⟩:=KY fI;have hin:=nh oe;have hiT:i.vw=t0::tl:=hin.2.2.2.2.1.trans GL;have V7:i.tL.length≤3:=by rw[hin.2.2.2.2.2.1];exact(jG x.Code).2
 unfold mE;rw[hiT];refine Z3 ?_;refine .n (bW (.t rfl)) rfl fun b5 _=>?_;refine Z7 ?_;refine .x (LH [_,_,_,_] [2,0,1,3,4] (h:=qQ hp1 hp2.A0)) rfl (fun h=>by rw[qH fI,show(cH m f).bO=m.bz.map (·.bO) from rfl,bY,h];rfl) fun g12 h12=>?_;refine .n (au FZ.out) rfl fun b6 _=>?_;refine Z3 ?_;refine .share (t:=6) (i:=0) rfl rfl ?_;refine Z9 ?_;refine .x (cX (h:=eT (e:=2) (by decide))) rfl (fun h=>by rw[qH fI,show(cH m f).bO=m.bz.map (·.bO) from rfl,bY,h12];exact if_pos (.inl ⟨fun hw=>h (.inl hw),by have:¬x.B≤4294967295:=fun hb=>h (.inr hb);omega⟩)) fun g20 XU=>?_;refine Z6 ?_;refine .p (cA (h:=JH (code:=x.Code))) rfl ?_;refine kR ?_;refine .g (bU.gT rfl rfl rfl rfl (fun hg=>(Oy (s:=x.dm.toNat) (.c _) (.le (.when (.t rfl) hg) (af.int (by have:=hp2.a0;omega))) (by show _≤64;have:=hp2.a31;omega)).le (af.int (Sk hg)))) rfl rfl ?_;refine Z3 ?_;refine .x (cX (h:=eT (e:=5) (by decide))) rfl (fun h=>by rw[qH fI,show(cH m f).bO=m.bz.map (·.bO) from rfl,bY,h12];exact if_pos (.inr (Classical.byContradiction fun hn=>h (Au.2 hn)))) fun g37 h37=>?_;refine Z3 ?_;refine .gL 2 rfl (by simp) fun ib ic Vi=>?_;subst Vi;refine .br 4 2 FM.out (by kernel_rfl) (k:= ?_);refine Z3 ?_;refine .p (cA (h:=o7 (l:=g12))) ?_;refine Z1 ?_;refine .p (aX 0 FU.out FC.out rfl (.t rfl) (.c _) rfl (by simp)) rfl ?_;refine .s (fE (enc:=aj) (i:=2) (r:=0) (bV g12.bO) rfl FC.out (.t rfl) (.t rfl) rfl (show(t0::tl)[0]?=some t0 from rfl) rfl rfl) ?_;refine Z2 ?_;refine .dO (i:=2) (j:=1) (f:=3) rfl rfl rfl ?_;refine Z7 ?_;refine .x (LH [_] [0,2,3,1] (h:=oQ (s:=s) (g:=⟨bV g12.bO::tl,i.tL⟩) az (by show i.tL.length≤60000;omega))) rfl (fun h=>by rw[qH fI,show(cH m f).bO=m.bz.map (·.bO) from rfl,bY,h12];exact(if_neg (by rintro(⟨a,b⟩|a);(rcases XU with h9|h9;exact a h9;omega);exact Au.1 h37 a)).trans (by rw[GL,←hin.2.2.2.2.2.1];exact h)) fun QU QV=>?_;refine Z1 ?_;refine .rQ (Post.iA rfl (QU) (by exact(by rw[qH fI,show(cH m f).bO=m.bz.map (·.bO) from rfl,bY,h12];exact(if_neg (by rintro(⟨a,b⟩|a);(rcases XU with h9|h9;exact a h9;omega);exact Au.1 h37 a)).trans (by rw[GL,←hin.2.2.2.2.2.1];exact QV))) (aB.dF [0,1,2] [3] rfl rfl) rfl)
theorem JL{gi:SB}(az:(L0++s.1).length≤60000)(hp1:Al m f)(hp2:mW x)(fI:aV x.Code=9∨aV x.Code=10):yj Tryz.prog 366 256 [aD cb 0,aC (aK x),aC (mE i gi)] (Ai cb m f gs bb bc L0 B k s) (rA (cH m f) x s=none) (γ:=SB×dD) (fun z=>rA (cH m f) x s=some z.2) (fun z=>Ai cb m f z.1 bb bc L0 B k z.2) (fun _=>bE []):=by
 refine El 55 Tryz.func256 fun _ _ _=>?_;have hcs:x.Code=63∨x.Code=64∨x.Code=64523∨x.Code=64522:=fI.elim (fun h=>by have:=PR h;omega) (fun h=>by have:=KX h;omega);refine cc ?_;refine .x (cX (h:=qQ hp1 hp2.A0)) rfl (fun h=>by(rcases hcs with h9|h9|h9|h9;rw[yO h9,show(cH m f).bO=m.bz.map (·.bO) from rfl,bY,h];rfl;rw[vI h9,show(cH m f).bO=m.bz.map (·.bO) from rfl,bY,h];rfl;rw[pU h9,show(cH m f).bO=m.bz.map (·.bO) from rfl,bY,h];rfl;rw[nr h9,show(cH m f).bO=m.bz.map (·.bO) from rfl,bY,h];rfl)) fun g12 h12=>?_;refine .p (cA (h:=o7 (l:=g12))) rfl ?_;refine AY ?_;refine Cd (fun c0=>?_) fun c0=>?_
 ·
  refine Z3 ?_;refine .p (cB aj [bV g12.bO]) rfl ?_;refine .n (cE (h:=iu (st:=L0++s.1) (l:=[bV g12.bO]) (st2:=L0++(bG s [bV g12.bO]).1) (by simp only[List.length_append] at az ⊢;omega) (by simp) (by simp[bG]))) rfl fun QT R4=>?_;refine Z2 ?_;refine .rQ (Post.iA rfl ((QT,bG s [bV g12.bO])) (by exact(by rw[yO c0,show(cH m f).bO=m.bz.map (·.bO) from rfl,bY,h12];rfl)) (fun _ _ _ h=>h) rfl)
 refine Z6 ?_;refine Cd (fun c1=>?_) fun c1=>?_
 ·
  refine Z4 ?_;refine .x (cX (h:=fC (s:=s) (w:=bV g12.bO))) rfl (fun h=>by rw[vI c1,show(cH m f).bO=m.bz.map (·.bO) from rfl,bY,h12];simp only[Option.map_some,Option.bind_some];rw[pS,gC,h];rfl) fun g43 h43=>?_;refine Z5 ?_;refine .p (cB aj [bV g12.bO]) rfl ?_;refine .n (cE (h:=iu (st:=L0++g43.1.1) (l:=[bV g12.bO]) (st2:=L0++(bG g43.1 [bV g12.bO]).1) (by simp only[List.length_append] at az ⊢;have:=nU h43;omega) (by simp) (by simp[bG]))) rfl fun XY h47=>?_;refine Z2 ?_;refine .rQ (Post.iA rfl ((XY,bG g43.1 [bV g12.bO])) (by exact(by rw[vI c1,show(cH m f).bO=m.bz.map (·.bO) from rfl,bY,h12];simp only[Option.map_some,Option.bind_some];rw[pS,gC,h43];rfl)) (fun _ _ _ h=>h) rfl)
 refine Z6 ?_;refine Cd (fun c2=>?_) fun c2=>?_
 ·
  refine Z4 ?_;refine .p (cB aj [bV g12.bO,127,bV g12.bO]) rfl ?_;refine .x (cX (h:=jv (s:=s) (l:=[bV g12.bO,127,bV g12.bO]))) rfl (fun h=>by rw[pU c2,show(cH m f).bO=m.bz.map (·.bO) from rfl,bY,h12];exact h) fun g54 XV=>?_;refine Z2 ?_;refine .rQ (Post.iA rfl ((gs,g54)) (by exact(by rw[pU c2,show(cH m f).bO=m.bz.map (·.bO) from rfl,bY,h12];exact XV)) (fun _ _ _ h=>h) rfl)
 refine Z5 ?_;refine .x (cX (h:=qQ hp1 hp2.B0)) rfl (fun h=>by rw[nr (by omega),show(cH m f).bO=m.bz.map (·.bO) from rfl,bY,bY,h12,h];rfl) fun g19 V9=>?_;refine .p (cA (h:=o7 (l:=g19))) rfl ?_;refine Z8 ?_;refine .cut (σ:=Unit) (fun _=>Ai cb m f gs bb bc L0 B k s) (fun _=>[(8,ag .u8 ((bV (g12.bO∧g19.bO):UInt8).toNat:Int))]) (fun _=>True) ?_ ?_
 ·
  refine cD ?_;refine Cd (fun c3=>?_) fun c3=>?_
  ·
   refine Z3 ?_;refine .meet () trivial rfl (.get rfl (af.of_eq (by rw[show bV (g12.bO∧g19.bO)=126 from if_pos ⟨mD.1 c3.1,mD.1 c3.2⟩];rfl)) (.keep 7 rfl rfl))
  refine Z1 ?_;refine .meet () trivial rfl (.get rfl (af.of_eq (by rw[show bV (g12.bO∧g19.bO)=127 from if_neg (fun h=>c3 ⟨mD.2 h.1,mD.2 h.2⟩)];rfl)) (.keep 6 rfl rfl))
 intro _ _;refine Z5 ?_;refine .p (cB aj [bV g12.bO,bV g19.bO,bV (g12.bO∧g19.bO)]) rfl ?_;refine .x (cX (h:=jv (s:=s) (l:=[bV g12.bO,bV g19.bO,bV (g12.bO∧g19.bO)]))) rfl (fun h=>by rw[nr (by omega),show(cH m f).bO=m.bz.map (·.bO) from rfl,bY,bY,h12,V9];exact h) fun XT UZ=>?_;refine Z2 ?_;refine .rQ (Post.iA rfl ((gs,XT)) (by exact(by rw[nr (by omega),show(cH m f).bO=m.bz.map (·.bO) from rfl,bY,bY,h12,V9];exact UZ)) (fun _ _ _ h=>h) rfl)
variable {fs:List eX}
theorem Bk{b:eX}(az:(di fs++b.st.1).length≤60000)(hp1:Al m f)(hp2:mW x)(fI:fs.length≤50000)(oe:DD (fs++[b]))(yH:fP x.Code):yj Tryz.prog 366 252 [aD cb 0,aC (aK x)] (PL cb m f gs (some (bb,bc)) (di fs++b.st.1) (jT fs++[mC (di fs).length b b.st])) (jt m f x fs b=none) (γ:=TU) (fun z=>KZ m f x fs b z) (fun z=>ckZ cb m f z) (fun _=>ak True):=by
 refine El 74 Tryz.func252 fun _ _ _=>?_;have hBl:(jT fs).length≤50000:=by rw[Ge];exact fI
 have Vk:(jT fs++[mC (di fs).length b b.st]).length≤60000:=by simp;omega
 have VU:b.res.length≤20:=oe b (by simp);have hl0:(di fs).length≤60000:=by simp only[List.length_append] at az;omega
 unfold fP at yH;refine Kx ?_;refine Cd (fun c0=>?_) fun c0=>?_
 ·
  refine Z2 ?_;refine .n (cE (h:=qP (k:=b) (s:=b.st))) rfl fun g11 h11=>?_;refine Z9 ?_;refine .kQ (Post.aR rfl ((gs,some (bb,bc),di fs++(eZ).1,jT fs++[mC (di fs).length b (eZ)])) (by exact iL (by omega) (by omega) (by unfold aQ;omega) (by rw[←gR fs b b.st,TT (by omega)])) (fun _ _ _ h=>h) (.rt rfl) ?_);exact af.refl _
 refine Z6 ?_;refine Cd (fun c1=>?_) fun c1=>?_
 ·
  refine Z3 ?_;refine .x (cX (h:=fC (k:=b) (s:=b.st) (w:=127))) rfl (fun h=>by rw[uB (by unfold aQ;omega),if_pos c1,gC,h];rfl) fun g15 Eo=>?_;refine Z5 ?_;refine .n (cE (h:=AK (x:=x) (B:=jT fs++[mC (di fs).length b g15.1]) (by simp;omega) hp2.A0)) rfl fun g18 RW=>?_;refine Z9 ?_;refine .kQ (Post.aR rfl ((gs,g18,di fs++g15.1.1,(jT fs++[mC (di fs).length b g15.1])++[mC (di fs++g15.1.1).length ⟨x.Code=3,x.Code=4,eL x,([],False)⟩ ([],False)])) (by exact⟨_,by rw[uB (by unfold aQ;omega),if_pos c1,gC,Eo];rfl,Ch fs b g15.1 x⟩) (fun _ _ _ h=>h) (.rt rfl) ?_);exact af.refl _
 refine .cut (σ:=Unit) (fun _=>PL cb m f gs (some (bb,bc)) (di fs++b.st.1) (jT fs++[mC (di fs).length b b.st])) (fun _=>[(19,ak (x.Code=2∨x.Code=3))]) (fun _=>True) ?_ ?_
 ·
  refine Z6 ?_;refine Cd (fun c2=>?_) fun c2=>?_
  ·
   refine Z1 ?_;refine .meet () trivial rfl (.get rfl (af.prop (by omega)) (.keep 2 rfl rfl))
  refine Z4 ?_;refine .meet () trivial rfl (.get rfl (af.prop (by omega)) (.keep 4 rfl rfl))
 intro _ _;refine Cd (fun c3=>?_) fun c3=>?_
 ·
  refine Z3 ?_;refine .n (cE (h:=AK (x:=x) (B:=jT fs++[mC (di fs).length b b.st]) Vk hp2.A0)) rfl fun g24 Hy=>?_;refine Z9 ?_;refine .kQ (Post.aR rfl ((gs,g24,di fs++b.st.1,(jT fs++[mC (di fs).length b b.st])++[mC (di fs++b.st.1).length ⟨x.Code=3,x.Code=4,eL x,([],False)⟩ ([],False)])) (by exact⟨_,by rw[uB (by unfold aQ;omega),if_neg c1];rfl,Ch fs b b.st x⟩) (fun _ _ _ h=>h) (.rt rfl) ?_);exact af.refl _
 refine Z6 ?_;refine Cd (fun c4=>?_) fun c4=>?_
 ·
  refine Z2 ?_;refine .x (cX (h:=GP (k:=b) (s:=b.st) (by omega))) rfl (fun h=>Bf (by omega) h) fun Wa Xt=>?_;refine Z9 ?_;refine .kQ (Post.aR rfl ((gs,Wa,di fs,jT fs++[mC (di fs).length ⟨b.loop,False,b.res,([],False)⟩ ([],False)])) (by exact⟨_,Jh (by omega) Xt,MK fs b⟩) (fun _ _ _ h=>h) (.rt rfl) ?_);exact af.refl _
 refine Z6 ?_;refine Cd (fun c5=>?_) fun c5=>?_
 ·
  refine Z2 ?_;refine .x (cX (h:=M7 (k:=b) (s:=b.st) hl0 (by omega))) rfl (fun h=>DC (by omega) h) fun XT UZ=>?_;refine Z9 ?_;refine .kQ (Post.aR rfl ((XT,some (bb,bc),di fs++b.res,jT fs)) (by exact⟨_,MJ (by omega) UZ,PS fs b.res⟩) (fun _ _ _ h=>h) (.rt rfl) ?_);exact af.refl _
 refine Z6 ?_;refine Cd (fun c6=>?_) fun c6=>?_
 ·
  refine Z6 ?_;refine .x (LH [_] [0,2,1] (h:=mF (n:=x.A) Vk hp2.A0)) rfl (fun h=>ec (by omega) (by omega) (by unfold aQ;omega) (by rw[←gR fs b b.st,xb (by omega),h];rfl)) fun g39 SP=>?_;refine .x (LH [] [0,2,1] (h:=jv (k:=b) (s:=b.st) (l:=g39))) rfl (fun h=>ec (by omega) (by omega) (by unfold aQ;omega) (by rw[←gR fs b b.st,xb (by omega),SP,Option.bind_some,h];rfl)) fun xo Wk=>?_;refine Z4 ?_;refine .n (cE (h:=qP (k:=b) (s:=xo))) rfl fun yJ Qk=>?_;refine Z9 ?_;refine .kQ (Post.aR rfl ((gs,some (bb,bc),di fs++(eZ).1,jT fs++[mC (di fs).length b (eZ)])) (by exact iL (by omega) (by omega) (by unfold aQ;omega) (by rw[←gR fs b b.st,xb (by omega),SP,Option.bind_some,Wk];rfl)) (fun _ _ _ h=>h) (.rt rfl) ?_);exact af.refl _
 refine Z6 ?_;refine Cd (fun c7=>?_) fun c7=>?_
 ·
  refine Z5 ?_;refine .x (LH [_] [0,2,1] (h:=mF (n:=x.A) Vk hp2.A0)) rfl (fun h=>ec (by omega) (by omega) (by unfold aQ;omega) (by rw[←gR fs b b.st,sB (by omega),h];rfl)) fun M6 h48=>?_;refine Z6 ?_;refine .x (LH [] [0,2,1] (h:=fC (k:=b) (s:=b.st) (w:=127))) rfl (fun h=>ec (by omega) (by omega) (by unfold aQ;omega) (by rw[←gR fs b b.st,sB (by omega),h48,Option.bind_some,pS,js,h];rfl)) fun XZ h50=>?_;refine Z6 ?_;refine .x (cX (h:=jv (k:=b) (s:=XZ.1) (l:=M6))) rfl (fun h=>ec (by omega) (by omega) (by unfold aQ;omega) (by rw[←gR fs b b.st,sB (by omega),h48,Option.bind_some,pS,js,h50,Option.bind_some,h];rfl)) fun Nf Vl=>?_;refine Z5 ?_;refine .n (cE (h:=iu (st:=di fs++Nf.1) (l:=M6) (st2:=di fs++(bG Nf M6).1) (by simp only[List.length_append] at az ⊢;have:=nU h50;have:=uy Vl;omega) (by rw[gR] at h48;have:=Sm oe h48;omega) (by simp[bG]))) rfl fun Wl X0=>?_;refine Z9 ?_;refine .kQ (Post.aR rfl ((Wl,some (bb,bc),di fs++(bG Nf M6).1,jT fs++[mC (di fs).length b (bG Nf M6)])) (by exact iL (by omega) (by omega) (by unfold aQ;omega) (by rw[←gR fs b b.st,sB (by omega),h48,Option.bind_some,pS,js,h50,Option.bind_some,Vl];rfl)) (fun _ _ _ h=>h) (.rt rfl) ?_);exact af.refl _
 refine Z6 ?_;refine Cd (fun c8=>?_) fun c8=>?_
 ·
  refine Z3 ?_;refine .x (cX (h:=DT (k:=b) (s:=b.st) hBl hp2)) rfl (fun h=>ec (by omega) (by omega) (by unfold aQ;omega) (by rw[←gR fs b b.st];exact h _ (by omega))) fun Dr RZ=>?_;refine Z9 ?_;refine .kQ (Post.aR rfl ((gs,some (bb,bc),di fs++eZ.1,jT fs++[mC (di fs).length b eZ])) (by exact iL (by omega) (by omega) (by unfold aQ;omega) (by rw[←gR fs b b.st];exact RZ _ (by omega))) (fun _ _ _ h=>h) (.rt rfl) ?_);exact af.refl _
 refine Z6 ?_;refine CF fun c9=>?_;refine Z9 ?_;refine .x (cX (h:=jv (k:=b) (s:=b.st) (l:=(cF m f.gX).R))) rfl (fun h=>ec (by omega) (by omega) (by unfold aQ;omega) (by rw[←gR fs b b.st,Dz (by omega)];rw[show(cH m f).de.R=(cF m f.gX).R from rfl,h];rfl)) fun g71 h71=>?_;refine Z4 ?_;refine .n (cE (h:=qP (k:=b) (s:=g71))) rfl fun Vm Q3=>?_;refine Z9 ?_;refine .kQ (Post.aR rfl ((gs,some (bb,bc),di fs++(eZ).1,jT fs++[mC (di fs).length b (eZ)])) (by exact iL (by omega) (by omega) (by unfold aQ;omega) (by rw[←gR fs b b.st,Dz (by omega)];rw[show(cH m f).de.R=(cF m f.gX).R from rfl,h71];rfl)) (fun _ _ _ h=>h) (.rt rfl) ?_);exact af.refl _
theorem nY(az:¬fP x.Code):cQ Tryz.prog 252 [jD,aC (aK x)] (ak False):=by
 refine In 74 Tryz.func252 fun _ _ _=>?_;unfold fP at az;refine Kx ?_;refine CT fun c0=>?_;refine Z6 ?_;refine CT fun c1=>?_;refine .cut (σ:=Unit) (fun _=>[]) (fun _=>[(19,ak (x.Code=2∨x.Code=3))]) (fun _=>True) ?_ ?_
 ·
  refine Z6 ?_;refine CT fun c2=>?_;refine Z4 ?_;refine .meet () trivial rfl (.get rfl (af.prop (by omega)) (.keep 4 rfl rfl))
 intro _ _;refine CT fun c3=>?_;refine Z6 ?_;refine CT fun c4=>?_;refine Z6 ?_;refine CT fun c5=>?_;refine Z6 ?_;refine CT fun c6=>?_;refine Z6 ?_;refine CT fun c7=>?_;refine Z6 ?_;refine CT fun c8=>?_;refine Z6 ?_;refine CT fun c9=>?_;refine Z8 ?_;refine bB ?_;exact .z
theorem ru(az:¬ep x.Code):cQ Tryz.prog 253 [jD,aC (aK x)] (ak False):=by
 refine In 62 Tryz.func253 fun _ _ _=>?_;unfold ep at az;refine Kx ?_;refine CT fun c0=>?_;refine Z6 ?_;refine CT fun c1=>?_;refine Z6 ?_;refine CT fun c2=>?_;refine Z6 ?_;refine CT fun c3=>?_;refine Z6 ?_;refine CT fun c4=>?_;refine Z8 ?_;refine bB ?_;exact .z
theorem GS(az:¬cL x.Code):cQ Tryz.prog 254 [jD,aC (aK x)] (ak False):=by
 refine In 93 Tryz.func254 fun _ _ _=>?_;unfold cL at az;refine Kx ?_;refine CT fun c0=>?_;refine Z6 ?_;refine CT fun c1=>?_;refine Z6 ?_;refine CT fun c2=>?_;refine Z6 ?_;refine CT fun c3=>?_;refine Z8 ?_;refine bB ?_;exact .z
theorem JM{b:eX}(az:(di fs++b.st.1).length≤60000)(hp1:Al m f)(hp2:mW x)(fI:fs.length≤50000)(oe:DD (fs++[b]))(yH:jo x.Code≠[]):yj Tryz.prog 366 233 [aD cb 0,aC (aK x)] (PL cb m f gs (some (bb,bc)) (di fs++b.st.1) (jT fs++[mC (di fs).length b b.st])) (jt m f x fs b=none) (γ:=TU) (fun z=>KZ m f x fs b z) (fun z=>ckZ cb m f z) (fun _=>bE []):=by
 refine El 54 Tryz.func233 fun _ _ _=>?_;obtain⟨i,hi⟩:∃i,eR x.Code=some i:=Option.isSome_iff_exists.1 (PJ.2 yH);have hin:=nh hi;have V7:i.tL.length≤3:=by rw[hin.2.2.2.2.2.1];exact(jG x.Code).2
 refine Z9 ?_;refine .n (cE (h:=JK hi)) rfl fun g9 h9=>?_;refine Z3 ?_;refine .n (au FZ.out) rfl fun b4 _=>?_;refine Z6 ?_;have hcase:fP x.Code∨(¬fP x.Code∧ep x.Code)∨(¬fP x.Code∧¬ep x.Code∧cL x.Code)∨(¬fP x.Code∧¬ep x.Code∧¬cL x.Code):=by by_cases h1:fP x.Code<;>by_cases h2:ep x.Code<;>by_cases h3:cL x.Code<;>simp[h1,h2,h3]
 rcases hcase with hc|⟨hc,hv⟩|⟨hc,hv,hk⟩|⟨hc,hv,hk⟩
 ·
  refine Z3 ?_;refine .x (LH [_,_] [2,3,4,0,1] (h:=Bk az hp1 hp2 fI oe hc)) rfl (fun h=>h) fun g22 Wc=>?_;refine Z3 ?_;refine .OF rfl rfl rfl rfl rfl (by simp) rfl ?_;refine .p (CM (.t rfl) trivial .ct) rfl ?_;refine Z3 ?_;refine .OF rfl rfl rfl rfl rfl (by simp) rfl ?_;refine .p (CM (.t rfl) trivial .ct) rfl ?_;refine Z3 ?_;refine CF fun c0=>?_;refine Z2 ?_;refine .rQ (Post.iA rfl (g22) (by exact Wc) (aB.dF [0,1,2] [3,4] rfl rfl) rfl)
 ·
  refine Z3 ?_;refine .p (bA (nY hc) FB.out (.cons (.le (.t rfl) af.any) (.cons (.t rfl) .nil))) rfl ?_;refine Z3 ?_;refine .gx rfl rfl rfl (by simp) (zn (rest:=[_,_]) (AL (k:=b) (s:=b.st) (labs:=((fs++[b]).map sw)) az hp1 hp2) FB.out (.cons (.when (.t rfl) (fun h=>h)) (.cons (.when (.t rfl) (fun h=>h)) .nil)) (Perm.idx [2,3,4,0,1] rfl rfl)) rfl (fun h=>ec (by unfold ep at hv;omega) (by unfold ep at hv;omega) (by unfold ep at hv;unfold aQ;omega) h.2) fun Vn X1=>?_;refine .p (Ku (.t rfl) (fun h=>h) (.t rfl)) rfl ?_;refine Z3 ?_;refine .OF rfl rfl rfl rfl rfl (by simpa using hv) rfl ?_;refine .p (CM (.t rfl) hv .ct) rfl ?_;refine Z3 ?_;refine CF fun c0=>?_;refine Z2 ?_;refine .rQ (Post.iA rfl ((Vn.1,some (bb,bc),di fs++Vn.2.1,jT fs++[mC (di fs).length b Vn.2])) (by(rcases X1 with⟨_,h⟩|⟨h,_⟩;exact iL (by unfold ep at hv;omega) (by unfold ep at hv;omega) (by unfold ep at hv;unfold aQ;omega) h;exact absurd hv h)) (aB.dF [0,1,2] [3,4] rfl rfl) rfl)
 ·
  refine Z3 ?_;refine .p (bA (nY hc) FB.out (.cons (.le (.t rfl) af.any) (.cons (.t rfl) .nil))) rfl ?_;refine Z3 ?_;refine .g (bU.gF rfl rfl rfl rfl (fun hg=>bA (ru hv) FB.out (.cons (.le (.when (.t rfl) hg) af.any) (.cons (.when (.t rfl) hg) .nil)))) rfl rfl ?_;refine Z4 ?_;refine .gx rfl rfl rfl (by simp) (zn (rest:=[_,_]) (JI (k:=b) (s:=b.st) (labs:=((fs++[b]).map sw)) az hp1 hp2) FB.out (.cons (.when (.t rfl) (fun h=>h.elim id id)) (.cons (.when (.t rfl) (fun h=>h.elim id id)) .nil)) (Perm.idx [2,3,4,0,1] rfl rfl)) rfl (fun h=>ec (by unfold cL at hk;omega) (by unfold cL at hk;omega) (by unfold cL at hk;unfold aQ;omega) h.2) fun M8 Vh=>?_;refine .p (Ku (.t rfl) (fun h=>h.elim id id) (.t rfl)) rfl ?_;refine Z3 ?_;refine Cd (fun c0=>?_) fun c0=>?_
  ·
   refine Z2 ?_;refine .rQ (Post.iA rfl ((M8.1,some (bb,bc),di fs++M8.2.1,jT fs++[mC (di fs).length b M8.2])) (by(rcases Vh with⟨_,h⟩|⟨h,_⟩;exact iL (by unfold cL at hk;omega) (by unfold cL at hk;omega) (by unfold cL at hk;unfold aQ;omega) h;exact absurd hk h)) (aB.dF [0,1,2] [3,4] rfl rfl) rfl)
  exact absurd hk c0
 refine Z3 ?_;refine .p (bA (nY hc) FB.out (.cons (.le (.t rfl) af.any) (.cons (.t rfl) .nil))) rfl ?_;refine Z3 ?_;refine .g (bU.gF rfl rfl rfl rfl (fun hg=>bA (ru hv) FB.out (.cons (.le (.when (.t rfl) hg) af.any) (.cons (.when (.t rfl) hg) .nil)))) rfl rfl ?_;refine Z4 ?_;refine .g (bU.gF rfl rfl rfl rfl (fun hg=>bA (GS hk) FB.out (.cons (.le (.when (.t rfl) hg) af.any) (.cons (.when (.t rfl) hg) .nil)))) rfl rfl ?_;refine Z4 ?_;refine Cd (fun c0=>?_) fun c0=>?_
 · exfalso;simp at c0
 refine Z8 ?_;refine Cd (fun c1=>?_) fun c1=>?_
 ·
  have hxf:=hin.2.2.2.1;refine Z4 ?_;refine .x (LH [_] [1,2,3,4,0] (h:=DU (k:=b) (s:=b.st) az hp1 hp2 (hin.2.2.2.1.symm.trans c1) hi)) rfl (fun h=>ec (by unfold fP at hc;omega) (by unfold fP at hc;omega) (by unfold fP at hc;unfold aQ;omega) ((gD hc hv hk (by omega)).trans h)) fun xo Wk=>?_;refine Z2 ?_;refine .rQ (Post.iA rfl ((xo.1,some (bb,bc),di fs++xo.2.1,jT fs++[mC (di fs).length b xo.2])) (by exact iL (by unfold fP at hc;omega) (by unfold fP at hc;omega) (by unfold fP at hc;unfold aQ;omega) ((gD hc hv hk (by omega)).trans Wk)) (aB.dF [0,1,2] [3] rfl rfl) rfl)
 have hxf:=hin.2.2.2.1;refine jP ?_;refine Cd (fun c2=>?_) fun c2=>?_
 ·
  refine Z4 ?_;refine .x (LH [_,_] [2,3,4,0,1] (h:=JL (k:=b) (s:=b.st) az hp1 hp2 (c2.imp (fun h=>hin.2.2.2.1.symm.trans h) (fun h=>hin.2.2.2.1.symm.trans h)))) rfl (fun h=>ec (by unfold fP at hc;omega) (by unfold fP at hc;omega) (by unfold fP at hc;unfold aQ;omega) ((gD hc hv hk (by omega)).trans h)) fun Nf Vl=>?_;refine Z2 ?_;refine .rQ (Post.iA rfl ((Nf.1,some (bb,bc),di fs++Nf.2.1,jT fs++[mC (di fs).length b Nf.2])) (by exact iL (by unfold fP at hc;omega) (by unfold fP at hc;omega) (by unfold fP at hc;unfold aQ;omega) ((gD hc hv hk (by omega)).trans Vl)) (aB.dF [0,1,2] [3,4] rfl rfl) rfl)
 have hff:aV x.Code<8∨10<aV x.Code:=by have:¬(i.Form=9∨i.Form=10):=c2;omega
 refine .dO (i:=1) (j:=0) (f:=3) rfl rfl rfl ?_;refine Z7 ?_;refine .x (LH [_] [1,2,3,0] (h:=oQ (k:=b) (s:=b.st) (g:=⟨i.vw,i.tL⟩) az (by show i.tL.length≤60000;omega))) rfl (fun h=>ec (by unfold fP at hc;omega) (by unfold fP at hc;omega) (by unfold fP at hc;unfold aQ;omega) ((Aq hc hv hk hff).trans (by rw[←hin.2.2.2.2.1,←hin.2.2.2.2.2.1];exact h))) fun g18 RW=>?_;refine Z2 ?_;refine .rQ (Post.iA rfl ((g18.1,some (bb,bc),di fs++g18.2.1,jT fs++[mC (di fs).length b g18.2])) (by exact iL (by unfold fP at hc;omega) (by unfold fP at hc;omega) (by unfold fP at hc;unfold aQ;omega) ((Aq hc hv hk hff).trans (by rw[←hin.2.2.2.2.1,←hin.2.2.2.2.2.1];exact RW))) (aB.dF [0,1,2] [3] rfl rfl) rfl)
theorem JN(w:World):(Instr.typeAssert Value.nilIface 20 366 true).run Tryz.prog w= .ok (.tuple #[.agg #[.int .i64 0], .bool false]) w:=by
 kernel_rfl
theorem DV(e:Int)(w:World):(Instr.typeAssert (mP 366 e) 20 366 true).run Tryz.prog w= .ok (.tuple #[.agg #[.int .i64 e], .bool true]) w:=by
 kernel_rfl
theorem JO(p:Value)(w:World):
    CallsD Tryz.prog 232 #[p] .returning w fun e u' w'=>e= .returned (.tuple #[])∧u'= .returning∧Below w.heap.size w w':=by
  refine callsD_of_wpS Tryz.func232 rfl fun c₀ cs hu=>?_;apply wpS_seq;apply wpS_region;simp[wpOpsS,go_sem,recoverD,hu,Tryz.ntmps232,Exit.thenS,JN];apply wpS_seq;apply wpS_region;simp[wpOpsS,go_sem,Exit.thenS];refine wpS_cond (t:=false) (by simp[Act.eval,Array.replicate]) ?_;simp only[Bool.false_eq_true,if_false];refine wpS_of_wp (wp_skip ?_);have hb:Below w.heap.size w (w.alloc (Obj.cells #[Value.int IntKind.i64 0] 366)):=(Below.refl _ _).alloc (Nat.le_refl _) _;generalize w.alloc (Obj.cells #[Value.int IntKind.i64 0] 366)=w1 at hb;cases c₀
  simp_all [bodyPostS,results,Tryz.results232]
theorem JP{eb:Nat}{ch:List PanicEntry}(hc:zm 366 ch):
    Catch Tryz.prog 232 (.pointer (some ⟨eb,0,none⟩)) ch [ax eb [ag .i64 0]] (δ:=Int) (fun e=>e≠0) (fun e=>[ax eb [ag .i64 e]]):=by
  obtain⟨e,he,rfl⟩:=hc;intro w S F hS hF hSF hown;obtain⟨F1,F2,f1,f2,⟨hFb,arr,T,hh,hn,hcs⟩,_⟩:=hown;obtain⟨u0,YX,Ks⟩:=hcs 0 _ rfl;simp only[aa] at Ks;subst Ks
  have uQ:arr= #[.int .i64 0]:=by
    refine Array.ext (by simpa using hn) fun i h1 h2=>?_;have:i=0:=by simp at h2;omega
    subst this;have h3:arr[0]?=some arr[0]:=by simp at hn;simp[hn]
    rw[h3] at YX;simpa using YX
  subst uQ;refine callsD_of_wpS Tryz.func232 rfl fun c₀ cs hu=>?_;apply wpS_seq;apply wpS_region;have X2:recoverD (c₀::cs)=some (mP 366 e,{c₀ with mode:= .panicking [{v:=mP 366 e,recovered:=true}]}::cs):=by simp only[recoverD,hu]
  generalize hfv:mP 366 e=fv at X2;have aq7:∀w:World,(Instr.typeAssert fv 20 366 true).run Tryz.prog w= .ok (.tuple #[.agg #[.int .i64 e], .bool true]) w:=fun w=>by rw[←hfv];exact DV e w
  simp[wpOpsS,go_sem,X2,Tryz.ntmps232,Exit.thenS,aq7];generalize aq8:({fn:=c₀.fn,tmps:=c₀.tmps,todo:=c₀.todo,defers:=c₀.defers,mode:=FrameMode.panicking [{v:=fv,recovered:=true}],kind:=c₀.kind,roundOf:=c₀.roundOf}::cs:List Frame)=cs1;generalize hw1:w.alloc (Obj.cells #[Value.int IntKind.i64 e] 366)=w1;apply wpS_seq;apply wpS_region;simp[wpOpsS,go_sem,Exit.thenS];refine wpS_cond (t:=true) (by simp[Act.eval,Array.replicate]) ?_;simp only[if_true]
  have aH:kH ⟨w,S,F,11,none,[]⟩ w1 S (fun k=>k=w.heap.size∨F k):=by
    rw[←hw1];exact(show kH ⟨w,S,F,11,none,[]⟩ w S F from⟨rfl,rfl,rfl,Nat.le_refl _,fun _ _ _=>rfl,hSF,hS,hF,fun k hk=> .inl hk,fun k hk=> .inl hk,fun _ hk=>hk⟩).eV _
  have qn:∀k,F1 k→F k:=fun k hk=>(f1 k hk).1
  have X3:de [ax w.heap.size [ag .i64 e],ax eb [ag .i64 0]] (fun k=>k=w.heap.size∨F k) S w1:=by
    rw[←hw1];refine de.eV ?_ hS hF _ (tR hS rfl fun j q hj=>?_)
    · exact⟨F1,fun _=>False,fun k hk=>⟨qn k hk,fun h=>h⟩,fun k hk=>hk.elim,⟨hFb,_,T,hh,hn,hcs⟩,trivial⟩
    · match j,hj with
      |0,hj=>simp at hj;subst hj;exact⟨_,rfl,rfl⟩
      |j+1,hj=>simp at hj
  refine wpS_of_wp (wpIn_wide.1 (show Code.wpIn Fence.wide 0 _ _ _ _ _ from ?_))
  have key:∀{Q:Exit→Act→World→Prop},(∀a w',St ⟨w,S,F,11,none,[]⟩ [ax eb [ag .i64 e],ax w.heap.size [ag .i64 e]] [] a w'→Q .normal a w')→
      aM Tryz.prog Q ⟨w,S,F,11,none,[]⟩ (Code.region 2 #[⟨some 9, .fieldAddr 366 (.tmp 1) 0,0,"check.go:328", #[],none⟩,⟨some 10, .load 36 (.tmp 9),36,"check.go:328", #[⟨0, .data⟩],none⟩,⟨none, .store 36 (.tmp 0) (.tmp 10),0,"check.go:328", #[⟨1, .data⟩,⟨0, .phase⟩,⟨1, .phase⟩],none⟩] false)
        [ax eb [ag .i64 0],ax w.heap.size [ag .i64 e]] [(0,aD eb 0),(1,aD w.heap.size 0)]:=by
    intro Q hQ;refine aM.region (.p (Ey FF.out (.t rfl)) rfl<| .p (fK (i:=1) FA.out (.t rfl) rfl rfl) rfl<| .s (jc (i:=0) FC.out (.t rfl) (.t rfl) rfl rfl)<| .nil ?_);exact fun a w' hst=>hQ a w' (hst.mono (fun _ _ _ _ t q h=>by cases h))
  refine key (fun a w' hst=>?_) _ _ ⟨rfl,by simp,S,_,aH,X3.perm (List.Perm.swap _ _ _),?_⟩
  · obtain⟨h1,h2,S',F',h3,h4,h5⟩:=hst
    refine⟨h1,_,aq8.symm, .tuple #[],?_,rfl,⟨fv,rfl⟩,S',F',e,he,⟨h3.os,h3.tape,h3.output,h3.size,h3.kept,h3.dJ,h3.bR,h3.cq,h3.own,h3.shr,h3.base⟩,?_⟩
    · simp[results,Tryz.results232]
    · obtain⟨G1,G2,g1,g2,g3,g4⟩:=h4
      exact⟨G1,fun _=>False,fun k hk=>⟨(g1 k hk).1,fun h=>h⟩,fun k hk=>hk.elim,g3,trivial⟩
  · intro t q hl
    rw[bL,bL] at hl
    split at hl
    · rename_i h0;subst h0;cases hl;simp[Array.replicate,aa]
    split at hl
    · rename_i h1;subst h1;cases hl;simp[Array.replicate,aa]
    · cases hl
theorem X4{f:FuncId}{v:Value}:af (Fa f [aa v]) (aa (.func (.func f) #[] #[v])):=fun S w u ⟨lb,hv,h1,h2⟩=>by
 match lb,h1,h2 with
 |[x],_,h2=>
  have:=h2 0 _ x rfl rfl;simp only[aa] at this;subst this;exact hv
def T5(m:aT)(f:cN)(x:ay)(fs:List eX)(b:eX)(g:Option TU×Int):Prop:=match g.1 with|some z=>g.2=0∧KZ m f x fs b z|none=>g.2≠0∧jt m f x fs b=none
abbrev Qo(cb:Nat)(m:aT)(f:cN)(g:Option TU×Int):List HP:=match g.1 with|some z=>ckZ cb m f z|none=>[]
theorem JQ{b:eX}(az:(di fs++b.st.1).length≤60000)(hp1:Al m f)(hp2:mW x)(fI:fs.length≤50000)(oe:DD (fs++[b]))(yH:jo x.Code≠[]):
    cv Tryz.prog 211 [aD cb 0,aC (aK x)] (PL cb m f gs (some (bb,bc)) (di fs++b.st.1) (jT fs++[mC (di fs).length b b.st])) (γ:=Option TU×Int) (T5 m f x fs b) (Qo cb m f) (fun g=>ag .i64 g.2):=by
  refine cv.Rn 9 Tryz.func211 rfl rfl rfl fun w0 S0 M=>?_;refine aM.seq ?_;refine aM.region (.p (Od (.t rfl)) rfl<| .n (au FZ.out) rfl<|fun b4 _=> .nil ?_);refine bN.Et ?_;refine aM.seq ?_;refine aM.region (.p (zK (.cons (.t rfl) .nil)) rfl<| .Ro rfl (.le (.t rfl) X4)<| .nil ?_);refine bN.Et ?_;refine aM.seq ?_
  refine aM.region (.p (Cv (.t rfl)) rfl<| .p (mX FA.out FC.out rfl (.t rfl) rfl) rfl<|
    .xd (sV (rest:=[ax b4 [aa (.int .i64 0)]]) (JM az hp1 hp2 fI oe yH) FB.out (.cons (.t rfl) (.cons (.t rfl) .nil)) (Perm.idx [1,2,3,0] rfl rfl)) rfl (fun ch hD hc=>?_) (fun z hz=> .nil ?_))
  · refine fun a w hst=>bN.WV (c:=⟨w0,S0,M,9,none,[]⟩) (φ:=T5 m f x fs b) (hs':=Qo cb m f) (q:=fun g=>ag .i64 g.2) (JP hc) rfl rfl FB.out (fun e he=>?_) a w hst
    refine Post.aR rfl (none,e) ⟨he,hD⟩ (fun _ _ _ _=>trivial) (.rc (i:=0) FA.out rfl rfl rfl) ?_;exact af.refl _
  refine bN.Et ?_;refine aM.seq ?_;refine aM.region (.s (jc (i:=3) FC.out (.t rfl) (.c _) rfl rfl)<| .nil ?_);refine bN.Et ?_;refine aM.ret ?_;refine bN.WU (c:=⟨w0,S0,M,9,none,[]⟩) (fun w=>JO _ w) rfl rfl FB.out ?_;refine Post.aR rfl (some z,0) ⟨rfl,hz⟩ (aB.dF [0,1,2] [3] rfl rfl) (.rc (i:=3) FA.out rfl rfl rfl) ?_;exact af.refl _
theorem AP:cQ Tryz.prog 247 [aC (aK x)] (ag .i64 (tM x)):=by
 refine In 15 Tryz.func247 fun _ _ _=>?_;refine cD ?_;refine .p (cA (h:=find_spec)) rfl ?_;refine Z3 ?_;refine .n (au FZ.out) rfl fun b3 _=>?_;refine Z4 ?_;refine .share (t:=3) (i:=0) rfl rfl ?_;refine Z7 ?_;refine Cd (fun c0=>?_) fun c0=>?_
 ·
  have hf:eR x.Code=none:=by simpa using c0
  refine Z7 ?_;refine bB ?_;exact af.int (by unfold tM;rw[hf];rfl)
 obtain⟨i,hf⟩:=Option.isSome_iff_exists.1 (Classical.not_not.1 c0);refine cD ?_;refine bB ?_;exact af.int (by unfold tM;rw[hf];rfl)
theorem l6{b al l:Int}:cQ Tryz.prog 260 [aC (aK x),ag .u64 (b),ag .i64 (al),ag .i64 (l)] (ak (x.B=b∧x.dm=al∧(x.L.length:Int)=l)):=by
 refine In 26 Tryz.func260 fun _ _ _=>?_;refine Z29 ?_;refine bB ?_;exact af.prop and_assoc
theorem Bl:cQ Tryz.prog 261 [ag .u64 (n)] (ak (n=64∨n=127∨n=126)):=by
 refine In 13 Tryz.func261 fun _ _ _=>?_;refine UD ?_;refine bB ?_;exact af.prop or_assoc
theorem jw:cQ Tryz.prog 262 [ag .u64 (n)] (ak (ux n)):=by
 refine In 5 Tryz.func262 fun _ _ _=>?_;refine jP ?_;refine bB ?_;exact af.refl _
theorem DW:cQ Tryz.prog 264 [ag .u64 (n)] (ak (¬ux n)):=by
 refine In 6 Tryz.func264 fun _ _ _=>?_;refine Z8 ?_;refine .p (cA (h:=jw)) rfl ?_;refine Z5 ?_;refine bB ?_;exact af.refl _
theorem GU{l:List Int}{p:Int→Prop}:cQ Tryz.prog 284 [ai 1 dh l,mM Tryz.prog (fun _:Int=>True) (fun x=>[ag .u64 x]) (fun x=>ak (p x))] (ag .i64 (nE p l)):=by
 refine In 19 Tryz.func284 fun _ _ _=>?_;refine .fact (t:=0) rfl (fun S w v h=>bn h) fun hlen=>?_;refine jb ?_;refine .aS (σ:=Nat) (fun _=>[]) (fun k=>[(8,ag .i64 (k:Int))]) (fun k=>k≤l.length∧cT p l k) (fun k=>l.length-k) 0 ⟨by omega,cT.zero p l⟩ rfl ?_ ?_
 · exact(.get rfl (af.refl _) (.refl _ _))
 rintro k ⟨hk,hnot⟩;refine Z6 ?_;refine Cd (fun c0=>?_) fun c0=>?_
 ·
  obtain⟨x,hx⟩:=ah (xs:=l) (k:=k) (by omega);refine kR ?_;refine .p (cI _) rfl ?_;refine Z1 ?_;refine .p (cV x) rfl ?_;refine Z2 ?_;refine Cd (fun c1=>?_) fun c1=>?_
  ·
   refine dN ?_;refine bB ?_;exact af.int (qu hx (by assumption) hnot).symm
  refine Z7 ?_;refine .round (k+1) ⟨by omega,hnot.succ hx (by assumption)⟩ (by omega) rfl ?_;exact(.get rfl (af.int (by omega)) (.keep 12 rfl rfl))
 refine cc ?_;refine bB ?_;exact af.int (nk (hnot.all (by omega))).symm
theorem GV{l:List Int}{p:Int→Prop}:cQ Tryz.prog 263 [ai 1 dh l,mM Tryz.prog (fun _:Int=>True) (fun x=>[ag .u64 x]) (fun x=>ak (p x))] (ak (∃x∈l,p x)):=by
 refine In 9 Tryz.func263 fun _ _ _=>?_;refine Z9 ?_;refine .p (cA (h:=GU)) rfl ?_;refine Z5 ?_;refine bB ?_;exact af.prop ji
theorem x9(az:0≤x.A)(hp1:0≤x.B):cQ Tryz.prog 243 [aC (aK x)] (ak (iP x)):=by
 refine In 114 Tryz.func243 fun _ _ _=>?_;have hR:=PW az hp1;generalize hF:tM x=fi at hR;refine cD ?_;refine .p ((cA (h:=AP)).le (af.int hF)) rfl ?_;refine Z9 ?_;refine Cd (fun c0=>?_) fun c0=>?_
 ·
  refine Z7 ?_;refine .g (bU.gT rfl rfl rfl rfl (fun hg=>bA (l6) FB.out (.cons (.when (.t rfl) hg) (.cons (.c _) (.cons (.c _) (.cons (.c _) .nil)))))) rfl rfl ?_;refine Z7 ?_;refine bB ?_;exact af.prop (by rw[hR];unfold mT oL;simp[*,List.length_eq_zero_iff,Int.natCast_eq_zero,and_assoc,ux]<;>omega)
 refine Z6 ?_;refine Cd (fun c1=>?_) fun c1=>?_
 ·
  refine Z4 ?_;refine .p (cA (h:=Bl)) rfl ?_;refine Z2 ?_;refine .g (bU.gT rfl rfl rfl rfl (fun hg=>bA (l6) FB.out (.cons (.when (.t rfl) hg) (.cons (.c _) (.cons (.c _) (.cons (.c _) .nil)))))) rfl rfl ?_;refine Z7 ?_;refine bB ?_;exact af.prop (by rw[hR];unfold mT oL;simp[*,List.length_eq_zero_iff,Int.natCast_eq_zero,and_assoc,ux]<;>omega)
 refine .cut (σ:=Unit) (fun _=>[]) (fun _=>[(24,ak (fi=2∨fi=4∨fi=6∨fi=7∨fi=9))]) (fun _=>True) ?_ ?_
 ·
  refine Z6 ?_;refine Cd (fun c2=>?_) fun c2=>?_
  ·
   refine Z1 ?_;refine .meet () trivial rfl (.get rfl (af.prop (by omega)) (.keep 2 rfl rfl))
  refine Z6 ?_;refine Cd (fun c3=>?_) fun c3=>?_
  ·
   refine Z1 ?_;refine .meet () trivial rfl (.get rfl (af.prop (by omega)) (.keep 4 rfl rfl))
  refine Z6 ?_;refine Cd (fun c4=>?_) fun c4=>?_
  ·
   refine Z1 ?_;refine .meet () trivial rfl (.get rfl (af.prop (by omega)) (.keep 6 rfl rfl))
  refine Z6 ?_;refine Cd (fun c5=>?_) fun c5=>?_
  ·
   refine Z1 ?_;refine .meet () trivial rfl (.get rfl (af.prop (by omega)) (.keep 8 rfl rfl))
  refine Z4 ?_;refine .meet () trivial rfl (.get rfl (af.prop (by omega)) (.keep 10 rfl rfl))
 intro _ _;refine Cd (fun c6=>?_) fun c6=>?_
 ·
  refine Z4 ?_;refine .p (cA (h:=jw)) rfl ?_;refine Z2 ?_;refine .g (bU.gT rfl rfl rfl rfl (fun hg=>bA (l6) FB.out (.cons (.when (.t rfl) hg) (.cons (.c _) (.cons (.c _) (.cons (.c _) .nil)))))) rfl rfl ?_;refine Z7 ?_;refine bB ?_;exact af.prop (by rw[hR];unfold mT oL;simp[*,List.length_eq_zero_iff,Int.natCast_eq_zero,and_assoc,ux]<;>omega)
 refine Z6 ?_;refine Cd (fun c7=>?_) fun c7=>?_
 ·
  refine Z4 ?_;refine .p (bA (GV (l:=x.L) (p:=fun n=>¬ux n)) FB.out (.cons (.t rfl) (.cons (.le (.f _) (l8 FB.out (fun(n:Int) (_:True)=>DW (n:=n)))) .nil))) rfl ?_;refine Z7 ?_;refine .p (cA (h:=jw)) rfl ?_;refine kR ?_;refine .g (bU.gT rfl rfl rfl rfl (fun hg=>bA (l6) FB.out (.cons (.when (.t rfl) hg) (.cons (.c _) (.cons (.c _) (.cons (.when (.t rfl) hg) .nil)))))) rfl rfl ?_;refine Z7 ?_;refine bB ?_;exact af.prop (by rw[hR];unfold mT oL;simp[*,List.length_eq_zero_iff,Int.natCast_eq_zero,and_assoc,ux]<;>omega)
 refine .cut (σ:=Unit) (fun _=>[]) (fun _=>[(62,ak (fi=5∨fi=10))]) (fun _=>True) ?_ ?_
 ·
  refine Z6 ?_;refine Cd (fun c8=>?_) fun c8=>?_
  ·
   refine Z1 ?_;refine .meet () trivial rfl (.get rfl (af.prop (by omega)) (.keep 2 rfl rfl))
  refine Z4 ?_;refine .meet () trivial rfl (.get rfl (af.prop (by omega)) (.keep 4 rfl rfl))
 intro _ _;refine Cd (fun c9=>?_) fun c9=>?_
 ·
  refine Z4 ?_;refine .p (cA (h:=jw)) rfl ?_;refine Z3 ?_;refine .g (bU.gT rfl rfl rfl rfl (fun hg=>bA (jw) FB.out (.cons (.when (.t rfl) hg) .nil))) rfl rfl ?_;refine Z5 ?_;refine .g (bU.gT rfl rfl rfl rfl (fun hg=>bA (l6) FB.out (.cons (.when (.t rfl) hg) (.cons (.when (.t rfl) hg) (.cons (.c _) (.cons (.c _) .nil)))))) rfl rfl ?_;refine Z7 ?_;refine bB ?_;exact af.prop (by rw[hR];unfold mT oL;simp[*,List.length_eq_zero_iff,Int.natCast_eq_zero,and_assoc,ux]<;>omega)
 refine Z6 ?_;refine Cd (fun nV=>?_) fun nV=>?_
 ·
  refine Z4 ?_;refine .p (cA (h:=jw)) rfl ?_;refine Z22 ?_;refine bB ?_;exact af.prop (by rw[hR];unfold mT oL;simp[*,List.length_eq_zero_iff,Int.natCast_eq_zero,and_assoc,ux]<;>omega)
 refine Z6 ?_;refine Cd (fun qI=>?_) fun qI=>?_
 ·
  refine Z8 ?_;refine .g (bU.gF rfl rfl rfl rfl (fun hg=>bA (jw) FB.out (.cons (.when (.t rfl) hg) .nil))) rfl rfl ?_;refine Z3 ?_;refine .g (bU.gT rfl rfl rfl rfl (fun hg=>bA (l6) FB.out (.cons (.when (.t rfl) hg) (.cons (.c _) (.cons (.c _) (.cons (.c _) .nil)))))) rfl rfl ?_;refine Z7 ?_;refine bB ?_;exact af.prop (by rw[hR];unfold mT oL;simp[*,List.length_eq_zero_iff,Int.natCast_eq_zero,and_assoc,ux]<;>omega)
 refine Z9 ?_;refine bB ?_;exact af.prop (by rw[hR];unfold mT oL;simp[*,List.length_eq_zero_iff,Int.natCast_eq_zero,and_assoc,ux]<;>omega)
end Go.Proofs.YtpfobikpggmleaaGreatDoor
end
