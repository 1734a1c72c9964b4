/-
  What the statement's proof leans on, several texts in one (packed by a program).
-/
import Derived.Test.YtpfobikpggmleaaGreatDoorSBU
set_option linter.all false
set_option maxRecDepth 1000000
set_option maxHeartbeats 4000000
section
namespace Go.Proofs.YtpfobikpggmleaaGreatDoor
open Go.Hl Go.RowKit
variable {v:nS} {x:ay} {s:dD} {base:Int} {labs:List (List UInt8)}
theorem QD(az:o8 v x s labs)(hp1:¬fP x.Code)(hp2:¬ep x.Code)(fI:¬cL x.Code)(oe:aV x.Code=8):cv Tryz.prog 136 [aC (eH v),aC (aK x),aC (bg s base),ai 1 dV labs] [] (γ:=dD×Int) (yw s (iy v x s labs)) (fun _=>[]) (fun g=>bE [aC (bg g.1 base),ag .i64 g.2]):=by
 refine In 517 Tryz.func136 fun _ _ _=>?_;have hs5:=az.stk;have oR:=az.ins.A0;have D3:=az.ins.yq;have qY:=az.Ct;have hE:=az.env;have AI:=hE.F;have AJ:=hE.S;have D4:=hE.L;have D5:=hE.G;have rz:=hE.W;have hp1b:=hp1;have hp2b:=hp2;have hp3b:=fI;unfold fP at hp1b;unfold ep at hp2b;unfold cL at hp3b;have htl:=jG x.Code;obtain⟨t0,tl,GL⟩:=KY oe;have bE1:1≤(aO x.Code).1.length:=by rw[GL];simp
 have ha0:=az.ins.a0;have ha1:=az.ins.a31;refine Z4 ?_;refine .n (bW (.t rfl)) rfl fun b6 _=>?_;refine .n (au FZ.out) rfl fun b8 _=>?_;refine BF ?_;refine CT fun c0=>?_;refine Z7 ?_;refine CT fun c1=>?_;refine Z5 ?_;refine CT fun c2=>?_;refine Z6 ?_;refine CT fun c3=>?_;refine Z6 ?_;refine CT fun c4=>?_;refine Z6 ?_;refine CT fun c5=>?_;refine Z6 ?_;refine CT fun c6=>?_;refine Z6 ?_;refine CT fun c7=>?_;refine Z6 ?_;refine CT fun c8=>?_;refine Z7 ?_;refine CT fun c9=>?_;refine Z6 ?_;refine CT fun nV=>?_;refine Z5 ?_;refine CT fun qI=>?_;refine Z7 ?_;refine CT fun tg=>?_;refine Z5 ?_;refine CT fun As=>?_;refine Z7 ?_;refine .p (cA (h:=jx)) rfl ?_;refine Z7 ?_;refine .p (cA (h:=kG)) rfl ?_;refine BE ?_;refine CT fun uC=>?_;refine WY ?_;refine Cd (fun ye=>?_) fun ye=>?_
 ·
  refine Z9 ?_;refine Post.bk rfl rfl ((s,2)) (by exact er (by decide) (by(rw[gD hp1 hp2 fI (by omega),qH oe];rcases ye with h|⟨h,h2⟩;(rw[jH h];rfl);omega)) (by omega)) (aB.dF [] [0,1] rfl rfl) rfl (.cons (.ra (i:=0) FA.out FC.out rfl rfl rfl rfl) ?_ (.cons (.rt rfl) ?_ .nil))
  · exact af.refl _
  exact af.refl _
 obtain⟨wa,hw,p8⟩:=iZ (L:=v.bO) oR (fun h=>ye (.inl h));refine Z8 ?_;refine .cut (σ:=Unit) (fun _=>[ax b8 (List.map aa [.slice none 0 0, .bool false, .int .i64 0]),ax b6 (bg s base)]) (fun _=>[(25,ag .u8 ((bV wa:UInt8).toNat:Int))]) (fun _=>True) ?_ ?_
 ·
  refine Z6 ?_;refine .p (cI x.A.toNat (h:=p8)) rfl ?_;refine Z3 ?_;refine Cd (fun xx=>?_) fun xx=>?_
  ·
   refine Z4 ?_;refine .meet () trivial rfl (.get rfl (af.of_eq (by rw[show bV wa=126 from uK xx];rfl)) (.keep 8 rfl rfl))
  refine Z1 ?_;refine .meet () trivial rfl (.get rfl (af.of_eq (by rw[show bV wa=127 from uL xx];rfl)) (.keep 6 rfl rfl))
 intro _ _;refine Z9 ?_;refine CF fun T6=>?_;refine Z7 ?_;refine .p (cI x.A.toNat (h:=p8)) rfl ?_;refine Z9 ?_;refine Cd (fun Qz=>?_) fun Qz=>?_
 ·
  refine cc ?_;refine Post.bk rfl rfl ((s,2)) (by exact er (by decide) (by rw[gD hp1 hp2 fI (by omega),qH oe,hw,Option.bind_some];exact if_pos (.inl Qz)) (by omega)) (aB.dF [] [0,1] rfl rfl) rfl (.cons (.ra (i:=0) FA.out FC.out rfl rfl rfl rfl) ?_ (.cons (.rt rfl) ?_ .nil))
  · exact af.refl _
  exact af.refl _
 refine jb ?_;refine .aS (σ:=Nat) (fun _=>[ax b8 (List.map aa [.slice none 0 0, .bool false, .int .i64 0]),ax b6 (bg s base)]) (fun k=>[(26,ag .i64 ((2:Int)^k)),(27,ag .i64 (k:Int))]) (fun k=>k≤x.dm.toNat) (fun k=>x.dm.toNat-k) 0 (Nat.zero_le _) rfl ?_ ?_
 · exact(.get rfl (af.int (by show(1:Int)=2^0;rfl)) (.get rfl (af.refl _) (.refl _ _)))
 rintro k hk;refine Z9 ?_;refine Cd (fun Wo=>?_) fun Wo=>?_
 ·
  have hpk:=ar2 (k:=k) (by omega);refine AY ?_;refine .round (k+1) (by omega) (by omega) rfl ?_;exact(.get rfl (af.int (by show(_:Int)=2^(k+1);rw[Int.pow_succ];omega)) (.get rfl (af.int (by omega)) ((.keep 12 rfl rfl))))
 have hkk:k=x.dm.toNat:=by omega
 subst hkk;refine cc ?_;refine .p (cA (h:=G9)) rfl ?_;refine Z3 ?_;refine Cd (fun S8=>?_) fun S8=>?_
 ·
  refine cc ?_;refine Post.bk rfl rfl ((s,5)) (by exact er (by decide) (by rw[gD hp1 hp2 fI (by omega),qH oe,hw,Option.bind_some];exact if_pos (.inr S8)) (by omega)) (aB.dF [] [0,1] rfl rfl) rfl (.cons (.ra (i:=0) FA.out FC.out rfl rfl rfl rfl) ?_ (.cons (.rt rfl) ?_ .nil))
  · exact af.refl _
  exact af.refl _
 refine Z4 ?_;refine .n (cg aj [bV wa] FU.out FC.out rfl FZ.out rfl (.cons (.t rfl) .nil) rfl rfl rfl rfl rfl) rfl fun bE2 _=>?_;refine Z1 ?_;refine .p (Bx FU.out FC.out rfl (.t rfl) (.c _) rfl (by omega)) rfl ?_;refine .n (fZ.eB (G:=fun g=>g) (hs1:=fun _=>_) (xs:=fun _=>_) (aF (i:=0) FU.out FU.out FC.out rfl FZ.out rfl FY.out (.t rfl) (.t rfl) rfl (by rw[GL] at htl ⊢;simp at htl ⊢;omega) (by rw[GL] at htl ⊢;simp at htl ⊢;omega))) rfl fun _ _=>?_;refine Z8 ?_;refine .n (cE (h:=bZ (s:=s) (l:=[bV wa]++List.drop 1 (aO x.Code).1) (by omega))) rfl fun qV vZ=>?_;refine cc ?_;refine .n (cE (h:=dW (s:=qV.1) (l:=(aO x.Code).2) (by have:=vZ.2;omega) (by omega))) rfl fun S9 Ta=>?_;refine Z6 ?_;refine Post.bk rfl rfl ((bG qV.1 (aO x.Code).2,qV.2)) (by exact qS (by rw[gD hp1 hp2 fI (by omega),qH oe,hw,Option.bind_some,←List.drop_one];exact if_neg (by rintro(h|h);exact Qz h;exact S8 h)) vZ (by omega)) (aB.dF [] [0,1] rfl rfl) rfl (.cons (.ra (i:=0) FA.out FC.out rfl rfl rfl rfl) ?_ (.cons (.rt rfl) ?_ .nil))
 · exact af.refl _
 exact af.refl _
theorem NK(az:o8 v x s labs)(hp1:x.Code=63):cv Tryz.prog 136 [aC (eH v),aC (aK x),aC (bg s base),ai 1 dV labs] [] (γ:=dD×Int) (yw s (iy v x s labs)) (fun _=>[]) (fun g=>bE [aC (bg g.1 base),ag .i64 g.2]):=by
 refine In 517 Tryz.func136 fun _ _ _=>?_;have hs5:=az.stk;have oR:=az.ins.A0;have D3:=az.ins.yq;have qY:=az.Ct;have hE:=az.env;have AI:=hE.F;have AJ:=hE.S;have D4:=hE.L;have D5:=hE.G;have rz:=hE.W;have hf:aV x.Code=9:=by rw[hp1];decide
 have htl:=jG x.Code;refine Z4 ?_;refine .n (bW (.t rfl)) rfl fun b6 _=>?_;refine .n (au FZ.out) rfl fun b8 _=>?_;refine BF ?_;refine CT fun c0=>?_;refine Z7 ?_;refine CT fun c1=>?_;refine Z5 ?_;refine CT fun c2=>?_;refine Z6 ?_;refine CT fun c3=>?_;refine Z6 ?_;refine CT fun c4=>?_;refine Z6 ?_;refine CT fun c5=>?_;refine Z6 ?_;refine CT fun c6=>?_;refine Z6 ?_;refine CT fun c7=>?_;refine Z6 ?_;refine CT fun c8=>?_;refine Z7 ?_;refine CT fun c9=>?_;refine Z6 ?_;refine CT fun nV=>?_;refine Z5 ?_;refine CT fun qI=>?_;refine Z7 ?_;refine CT fun tg=>?_;refine Z5 ?_;refine CT fun As=>?_;refine Z7 ?_;refine .p (cA (h:=jx)) rfl ?_;refine Z7 ?_;refine .p (cA (h:=kG)) rfl ?_;refine BE ?_;refine CT fun uC=>?_;refine WY ?_;refine Cd (fun ye=>?_) fun ye=>?_
 ·
  refine Z9 ?_;refine Post.bk rfl rfl ((s,2)) (by exact er (by decide) (by(rw[gD (by unfold fP;omega) (by unfold ep;omega) (by unfold cL;omega) (by omega),yO hp1];rcases ye with h|⟨h,h2⟩;(rw[jH h];rfl);omega)) (by omega)) (aB.dF [] [0,1] rfl rfl) rfl (.cons (.ra (i:=0) FA.out FC.out rfl rfl rfl rfl) ?_ (.cons (.rt rfl) ?_ .nil))
  · exact af.refl _
  exact af.refl _
 obtain⟨wa,hw,p8⟩:=iZ (L:=v.bO) oR (fun h=>ye (.inl h));refine Z8 ?_;refine .cut (σ:=Unit) (fun _=>[ax b8 (List.map aa [.slice none 0 0, .bool false, .int .i64 0]),ax b6 (bg s base)]) (fun _=>[(25,ag .u8 ((bV wa:UInt8).toNat:Int))]) (fun _=>True) ?_ ?_
 ·
  refine Z6 ?_;refine .p (cI x.A.toNat (h:=p8)) rfl ?_;refine Z3 ?_;refine Cd (fun xx=>?_) fun xx=>?_
  ·
   refine Z4 ?_;refine .meet () trivial rfl (.get rfl (af.of_eq (by rw[show bV wa=126 from uK xx];rfl)) (.keep 8 rfl rfl))
  refine Z1 ?_;refine .meet () trivial rfl (.get rfl (af.of_eq (by rw[show bV wa=127 from uL xx];rfl)) (.keep 6 rfl rfl))
 intro _ _;refine Z9 ?_;refine CT fun T6=>?_;refine Z8 ?_;refine CF fun Qz=>?_;refine Z2 ?_;refine .p (cB aj [bV wa]) rfl ?_;refine Z8 ?_;refine .n (cE (h:=bZ (s:=s) (l:=(aO x.Code).1) (by omega))) rfl fun qV vZ=>?_;refine cc ?_;refine .n (cE (h:=dW (s:=qV.1) (l:=[bV wa]) (by have:=vZ.2;omega) (by simp))) rfl fun S9 Ta=>?_;refine Z6 ?_;refine Post.bk rfl rfl ((bG qV.1 [bV wa],qV.2)) (by exact qS (by rw[gD (by unfold fP;omega) (by unfold ep;omega) (by unfold cL;omega) (by omega),yO hp1,hw,Option.bind_some,show(aO x.Code).1=[] by rw[hp1];rfl];rfl) vZ (by simp)) (aB.dF [] [0,1] rfl rfl) rfl (.cons (.ra (i:=0) FA.out FC.out rfl rfl rfl rfl) ?_ (.cons (.rt rfl) ?_ .nil))
 · exact af.refl _
 exact af.refl _
theorem NL(az:o8 v x s labs)(hp1:x.Code=64):cv Tryz.prog 136 [aC (eH v),aC (aK x),aC (bg s base),ai 1 dV labs] [] (γ:=dD×Int) (yw s (iy v x s labs)) (fun _=>[]) (fun g=>bE [aC (bg g.1 base),ag .i64 g.2]):=by
 refine In 517 Tryz.func136 fun _ _ _=>?_;have hs5:=az.stk;have oR:=az.ins.A0;have D3:=az.ins.yq;have qY:=az.Ct;have hE:=az.env;have AI:=hE.F;have AJ:=hE.S;have D4:=hE.L;have D5:=hE.G;have rz:=hE.W;have hf:aV x.Code=9:=by rw[hp1];decide
 have htl:=jG x.Code;refine Z4 ?_;refine .n (bW (.t rfl)) rfl fun b6 _=>?_;refine .n (au FZ.out) rfl fun b8 _=>?_;refine BF ?_;refine CT fun c0=>?_;refine Z7 ?_;refine CT fun c1=>?_;refine Z5 ?_;refine CT fun c2=>?_;refine Z6 ?_;refine CT fun c3=>?_;refine Z6 ?_;refine CT fun c4=>?_;refine Z6 ?_;refine CT fun c5=>?_;refine Z6 ?_;refine CT fun c6=>?_;refine Z6 ?_;refine CT fun c7=>?_;refine Z6 ?_;refine CT fun c8=>?_;refine Z7 ?_;refine CT fun c9=>?_;refine Z6 ?_;refine CT fun nV=>?_;refine Z5 ?_;refine CT fun qI=>?_;refine Z7 ?_;refine CT fun tg=>?_;refine Z5 ?_;refine CT fun As=>?_;refine Z7 ?_;refine .p (cA (h:=jx)) rfl ?_;refine Z7 ?_;refine .p (cA (h:=kG)) rfl ?_;refine BE ?_;refine CT fun uC=>?_;refine WY ?_;refine Cd (fun ye=>?_) fun ye=>?_
 ·
  refine Z9 ?_;refine Post.bk rfl rfl ((s,2)) (by exact er (by decide) (by(rw[gD (by unfold fP;omega) (by unfold ep;omega) (by unfold cL;omega) (by omega),vI hp1];rcases ye with h|⟨h,h2⟩;(rw[jH h];rfl);omega)) (by omega)) (aB.dF [] [0,1] rfl rfl) rfl (.cons (.ra (i:=0) FA.out FC.out rfl rfl rfl rfl) ?_ (.cons (.rt rfl) ?_ .nil))
  · exact af.refl _
  exact af.refl _
 obtain⟨wa,hw,p8⟩:=iZ (L:=v.bO) oR (fun h=>ye (.inl h));refine Z8 ?_;refine .cut (σ:=Unit) (fun _=>[ax b8 (List.map aa [.slice none 0 0, .bool false, .int .i64 0]),ax b6 (bg s base)]) (fun _=>[(25,ag .u8 ((bV wa:UInt8).toNat:Int))]) (fun _=>True) ?_ ?_
 ·
  refine Z6 ?_;refine .p (cI x.A.toNat (h:=p8)) rfl ?_;refine Z3 ?_;refine Cd (fun xx=>?_) fun xx=>?_
  ·
   refine Z4 ?_;refine .meet () trivial rfl (.get rfl (af.of_eq (by rw[show bV wa=126 from uK xx];rfl)) (.keep 8 rfl rfl))
  refine Z1 ?_;refine .meet () trivial rfl (.get rfl (af.of_eq (by rw[show bV wa=127 from uL xx];rfl)) (.keep 6 rfl rfl))
 intro _ _;refine Z9 ?_;refine CT fun T6=>?_;refine Z8 ?_;refine CT fun Qz=>?_;refine Z8 ?_;refine CF fun Wo=>?_;refine Z2 ?_;refine .p (cB aj [bV wa]) rfl ?_;refine Z1 ?_;refine .p (cB aj [bV wa]) rfl ?_;refine Z9 ?_;refine .n (cE (h:=bZ (s:=s) (l:=[bV wa]) (by omega))) rfl fun qV vZ=>?_;refine cc ?_;refine .n (cE (h:=dW (s:=qV.1) (l:=[bV wa]) (by have:=vZ.2;omega) (by simp))) rfl fun S9 Ta=>?_;refine Z6 ?_;refine Post.bk rfl rfl ((bG qV.1 [bV wa],qV.2)) (by exact qS (by rw[gD (by unfold fP;omega) (by unfold ep;omega) (by unfold cL;omega) (by omega),vI hp1,hw,Option.bind_some]) vZ (by simp)) (aB.dF [] [0,1] rfl rfl) rfl (.cons (.ra (i:=0) FA.out FC.out rfl rfl rfl rfl) ?_ (.cons (.rt rfl) ?_ .nil))
 · exact af.refl _
 exact af.refl _
theorem Hf(az:o8 v x s labs)(hp1:x.Code=64523):cv Tryz.prog 136 [aC (eH v),aC (aK x),aC (bg s base),ai 1 dV labs] [] (γ:=dD×Int) (yw s (iy v x s labs)) (fun _=>[]) (fun g=>bE [aC (bg g.1 base),ag .i64 g.2]):=by
 refine In 517 Tryz.func136 fun _ _ _=>?_;have hs5:=az.stk;have oR:=az.ins.A0;have D3:=az.ins.yq;have qY:=az.Ct;have hE:=az.env;have AI:=hE.F;have AJ:=hE.S;have D4:=hE.L;have D5:=hE.G;have rz:=hE.W;have hf:aV x.Code=9:=by rw[hp1];decide
 have htl:=jG x.Code;refine Z4 ?_;refine .n (bW (.t rfl)) rfl fun b6 _=>?_;refine .n (au FZ.out) rfl fun b8 _=>?_;refine BF ?_;refine CT fun c0=>?_;refine Z7 ?_;refine CT fun c1=>?_;refine Z5 ?_;refine CT fun c2=>?_;refine Z6 ?_;refine CT fun c3=>?_;refine Z6 ?_;refine CT fun c4=>?_;refine Z6 ?_;refine CT fun c5=>?_;refine Z6 ?_;refine CT fun c6=>?_;refine Z6 ?_;refine CT fun c7=>?_;refine Z6 ?_;refine CT fun c8=>?_;refine Z7 ?_;refine CT fun c9=>?_;refine Z6 ?_;refine CT fun nV=>?_;refine Z5 ?_;refine CT fun qI=>?_;refine Z7 ?_;refine CT fun tg=>?_;refine Z5 ?_;refine CT fun As=>?_;refine Z7 ?_;refine .p (cA (h:=jx)) rfl ?_;refine Z7 ?_;refine .p (cA (h:=kG)) rfl ?_;refine BE ?_;refine CT fun uC=>?_;refine WY ?_;refine Cd (fun ye=>?_) fun ye=>?_
 ·
  refine Z9 ?_;refine Post.bk rfl rfl ((s,2)) (by exact er (by decide) (by(rw[gD (by unfold fP;omega) (by unfold ep;omega) (by unfold cL;omega) (by omega),pU hp1];rcases ye with h|⟨h,h2⟩;(rw[jH h];rfl);omega)) (by omega)) (aB.dF [] [0,1] rfl rfl) rfl (.cons (.ra (i:=0) FA.out FC.out rfl rfl rfl rfl) ?_ (.cons (.rt rfl) ?_ .nil))
  · exact af.refl _
  exact af.refl _
 obtain⟨wa,hw,p8⟩:=iZ (L:=v.bO) oR (fun h=>ye (.inl h));refine Z8 ?_;refine .cut (σ:=Unit) (fun _=>[ax b8 (List.map aa [.slice none 0 0, .bool false, .int .i64 0]),ax b6 (bg s base)]) (fun _=>[(25,ag .u8 ((bV wa:UInt8).toNat:Int))]) (fun _=>True) ?_ ?_
 ·
  refine Z6 ?_;refine .p (cI x.A.toNat (h:=p8)) rfl ?_;refine Z3 ?_;refine Cd (fun xx=>?_) fun xx=>?_
  ·
   refine Z4 ?_;refine .meet () trivial rfl (.get rfl (af.of_eq (by rw[show bV wa=126 from uK xx];rfl)) (.keep 8 rfl rfl))
  refine Z1 ?_;refine .meet () trivial rfl (.get rfl (af.of_eq (by rw[show bV wa=127 from uL xx];rfl)) (.keep 6 rfl rfl))
 intro _ _;refine Z9 ?_;refine CT fun T6=>?_;refine Z8 ?_;refine CT fun Qz=>?_;refine Z8 ?_;refine CT fun Wo=>?_;refine Z8 ?_;refine CF fun S8=>?_;refine Z4 ?_;refine .p (cB aj [bV wa,127,bV wa]) rfl ?_;refine Z8 ?_;refine .n (cE (h:=bZ (s:=s) (l:=[bV wa,127,bV wa]) (by omega))) rfl fun qV vZ=>?_;refine cc ?_;refine .n (cE (h:=dW (s:=qV.1) (l:=(aO x.Code).2) (by have:=vZ.2;omega) (by omega))) rfl fun S9 Ta=>?_;refine Z6 ?_;refine Post.bk rfl rfl ((bG qV.1 (aO x.Code).2,qV.2)) (by exact qS (by rw[gD (by unfold fP;omega) (by unfold ep;omega) (by unfold cL;omega) (by omega),pU hp1,hw,Option.bind_some,show(aO x.Code).2=[] by rw[hp1];rfl,oK]) vZ (by omega)) (aB.dF [] [0,1] rfl rfl) rfl (.cons (.ra (i:=0) FA.out FC.out rfl rfl rfl rfl) ?_ (.cons (.rt rfl) ?_ .nil))
 · exact af.refl _
 exact af.refl _
theorem Hg(az:o8 v x s labs)(hp1:x.Code=64522):cv Tryz.prog 136 [aC (eH v),aC (aK x),aC (bg s base),ai 1 dV labs] [] (γ:=dD×Int) (yw s (iy v x s labs)) (fun _=>[]) (fun g=>bE [aC (bg g.1 base),ag .i64 g.2]):=by
 refine In 517 Tryz.func136 fun _ _ _=>?_;have hs5:=az.stk;have oR:=az.ins.A0;have D3:=az.ins.yq;have qY:=az.Ct;have hE:=az.env;have AI:=hE.F;have AJ:=hE.S;have D4:=hE.L;have D5:=hE.G;have rz:=hE.W;have hf:aV x.Code=10:=by rw[hp1];decide
 have htl:=jG x.Code;have hB0:=az.ins.B0;have hB6:=az.ins.B64;refine Z4 ?_;refine .n (bW (.t rfl)) rfl fun b6 _=>?_;refine .n (au FZ.out) rfl fun b8 _=>?_;refine BF ?_;refine CT fun c0=>?_;refine Z7 ?_;refine CT fun c1=>?_;refine Z5 ?_;refine CT fun c2=>?_;refine Z6 ?_;refine CT fun c3=>?_;refine Z6 ?_;refine CT fun c4=>?_;refine Z6 ?_;refine CT fun c5=>?_;refine Z6 ?_;refine CT fun c6=>?_;refine Z6 ?_;refine CT fun c7=>?_;refine Z6 ?_;refine CT fun c8=>?_;refine Z7 ?_;refine CT fun c9=>?_;refine Z6 ?_;refine CT fun nV=>?_;refine Z5 ?_;refine CT fun qI=>?_;refine Z7 ?_;refine CT fun tg=>?_;refine Z5 ?_;refine CT fun As=>?_;refine Z7 ?_;refine .p (cA (h:=jx)) rfl ?_;refine Z7 ?_;refine .p (cA (h:=kG)) rfl ?_;refine BE ?_;refine CT fun uC=>?_;refine WY ?_;refine Cd (fun ye=>?_) fun ye=>?_
 ·
  refine Z9 ?_;refine Post.bk rfl rfl ((s,2)) (by exact er (by decide) (by(rw[gD (by unfold fP;omega) (by unfold ep;omega) (by unfold cL;omega) (by omega),nr hp1];rcases ye with h|⟨h,h2⟩;(rw[jH h];rfl);(cases eo v.bO x.A with|none=>rfl|some g=>rw[Option.bind_some,jH h2];rfl))) (by omega)) (aB.dF [] [0,1] rfl rfl) rfl (.cons (.ra (i:=0) FA.out FC.out rfl rfl rfl rfl) ?_ (.cons (.rt rfl) ?_ .nil))
  · exact af.refl _
  exact af.refl _
 obtain⟨wa,hw,p8⟩:=iZ (L:=v.bO) oR (fun h=>ye (.inl h));obtain⟨wb,hx,hx2⟩:=iZ (L:=v.bO) hB0 (fun h=>ye (.inr ⟨by omega,h⟩));refine Z8 ?_;refine .cut (σ:=Unit) (fun _=>[ax b8 (List.map aa [.slice none 0 0, .bool false, .int .i64 0]),ax b6 (bg s base)]) (fun _=>[(25,ag .u8 ((bV wa:UInt8).toNat:Int))]) (fun _=>True) ?_ ?_
 ·
  refine Z6 ?_;refine .p (cI x.A.toNat (h:=p8)) rfl ?_;refine Z3 ?_;refine Cd (fun xx=>?_) fun xx=>?_
  ·
   refine Z4 ?_;refine .meet () trivial rfl (.get rfl (af.of_eq (by rw[show bV wa=126 from uK xx];rfl)) (.keep 8 rfl rfl))
  refine Z1 ?_;refine .meet () trivial rfl (.get rfl (af.of_eq (by rw[show bV wa=127 from uL xx];rfl)) (.keep 6 rfl rfl))
 intro _ _;refine Z9 ?_;refine CT fun T6=>?_;refine Z8 ?_;refine CT fun Qz=>?_;refine Z8 ?_;refine CT fun Wo=>?_;refine Z8 ?_;refine CT fun S8=>?_;refine Z8 ?_;refine .cut (σ:=Unit) (fun _=>[ax b8 (List.map aa [.slice none 0 0, .bool false, .int .i64 0]),ax b6 (bg s base)]) (fun _=>[(28,ag .u8 ((bV wb:UInt8).toNat:Int))]) (fun _=>True) ?_ ?_
 ·
  refine Z6 ?_;refine .p (cI x.B.toNat (h:=hx2)) rfl ?_;refine Z3 ?_;refine Cd (fun Yj=>?_) fun Yj=>?_
  ·
   refine Z4 ?_;refine .meet () trivial rfl (.get rfl (af.of_eq (by rw[show bV wb=126 from uK Yj];rfl)) (.keep 8 rfl rfl))
  refine Z1 ?_;refine .meet () trivial rfl (.get rfl (af.of_eq (by rw[show bV wb=127 from uL Yj];rfl)) (.keep 6 rfl rfl))
 intro _ _;refine .cut (σ:=Unit) (fun _=>[ax b8 (List.map aa [.slice none 0 0, .bool false, .int .i64 0]),ax b6 (bg s base)]) (fun _=>[(29,ag .u8 ((bV (wa∧wb):UInt8).toNat:Int))]) (fun _=>True) ?_ ?_
 ·
  refine dN ?_;refine Cd (fun T7=>?_) fun T7=>?_
  ·
   refine Z4 ?_;refine .meet () trivial rfl (.get rfl (af.of_eq (by rw[show bV (wa∧wb)=126 from uK ⟨mD.1 T7.1,mD.1 T7.2⟩];rfl)) (.keep 10 rfl rfl))
  refine Z1 ?_;refine .meet () trivial rfl (.get rfl (af.of_eq (by rw[show bV (wa∧wb)=127 from uL (fun h=>T7 ⟨mD.2 h.1,mD.2 h.2⟩)];rfl)) (.keep 8 rfl rfl))
 intro _ _;refine Z4 ?_;refine .p (cB aj [bV wa,bV wb,bV (wa∧wb)]) rfl ?_;refine Z8 ?_;refine .n (cE (h:=bZ (s:=s) (l:=[bV wa,bV wb,bV (wa∧wb)]) (by omega))) rfl fun qV vZ=>?_;refine cc ?_;refine .n (cE (h:=dW (s:=qV.1) (l:=(aO x.Code).2) (by have:=vZ.2;omega) (by omega))) rfl fun S9 Ta=>?_;refine Z6 ?_;refine Post.bk rfl rfl ((bG qV.1 (aO x.Code).2,qV.2)) (by exact qS (by rw[gD (by unfold fP;omega) (by unfold ep;omega) (by unfold cL;omega) (by omega),nr hp1,hw,Option.bind_some,hx,Option.bind_some,show(aO x.Code).2=[] by rw[hp1];rfl,oK]) vZ (by omega)) (aB.dF [] [0,1] rfl rfl) rfl (.cons (.ra (i:=0) FA.out FC.out rfl rfl rfl rfl) ?_ (.cons (.rt rfl) ?_ .nil))
 · exact af.refl _
 exact af.refl _
end Go.Proofs.YtpfobikpggmleaaGreatDoor
end
section
namespace Go.Proofs.YtpfobikpggmleaaGreatDoor
open Go.Hl Go.RowKit
theorem Hh{v:nS}{x:ay}{s:dD}{base:Int}{labs:List (List UInt8)}(hp:o8 v x s labs)(hn:¬(x.Code=2∨x.Code=3∨x.Code=4∨x.Code=5∨x.Code=11)):
    cv Tryz.prog 136 [aC (eH v),aC (aK x),aC (bg s base),ai 1 dV labs] [] (γ:=dD×Int) (yw s (iy v x s labs)) (fun _=>[]) (fun g=>bE [aC (bg g.1 base),ag .i64 g.2]):=by
  by_cases h0:x.Code=0
  · exact QA hp h0
  by_cases h12:x.Code=12
  · exact Nv hp h12
  by_cases h13:x.Code=13
  · exact Nw hp h13
  by_cases yI:x.Code=14
  · exact NC hp yI
  by_cases Eo:x.Code=15
  · exact Nx hp Eo
  by_cases UW:x.Code=16
  · exact Ny hp UW
  by_cases KO:x.Code=17
  · exact ND hp KO
  by_cases X1:x.Code=26
  · exact Nz hp X1
  by_cases h27:x.Code=27
  · exact NA hp h27
  by_cases UZ:x.Code=32
  · exact NF hp UZ
  by_cases h33:x.Code=33
  · exact NG hp h33
  by_cases NY:x.Code=34
  · exact NH hp NY
  by_cases KQ:x.Code=35
  · exact NI hp KQ
  by_cases PC:x.Code=36
  · exact NJ hp PC
  by_cases h63:x.Code=63
  · exact NK hp h63
  by_cases U0:x.Code=64
  · exact NL hp U0
  by_cases hfl:x.Code=64523
  · exact Hf hp hfl
  by_cases hcp:x.Code=64522
  · exact Hg hp hcp
  have c1:¬fP x.Code:=by unfold fP;omega
  have c2:¬ep x.Code:=by unfold ep;omega
  have c3:¬cL x.Code:=by unfold cL;omega
  by_cases hf8:aV x.Code=8
  · exact QD hp c1 c2 c3 hf8
  refine He hp c1 c2 c3 ?_;have n9:aV x.Code≠9:=fun h=>by have:=PR h;omega
  have n10:aV x.Code≠10:=fun h=>by have:=KX h;omega
  rcases Int.lt_or_le (aV x.Code) 8 with h|h
  · exact .inl h
  · exact .inr (by omega)
end Go.Proofs.YtpfobikpggmleaaGreatDoor
namespace Go.Hl
open Go.RowKit
noncomputable abbrev uM(v:nS):=G6 (fun x:ay=>x.Code) eL (iy v)
section
variable {v:nS} {l:List ay} {x:ay} {i d yX base:Nat} {labs:List (List UInt8)} {res:List UInt8} {s s1:dD} {hs:List Nat}
theorem iw{α:Type}{l:List α}{i:Nat}{x:α}(h:l[i]?=some x):l.drop i=x::l.drop (i+1):=by
 obtain⟨h1,h2⟩:=List.getElem?_eq_some_iff.1 h;rw[List.drop_eq_getElem_cons h1,h2]
def uN(x:ay):List UInt8:=if x.Code=3 then[] else eL x
abbrev T8(x:ay)(s:dD)(o:Option dD):Prop:=(x.Code=4→o=cU s [127])∧(x.Code≠4→o=some s)
theorem xy{o:Option dD}(h:T8 x s o)[Decidable (x.Code=4)]:(if x.Code=4 then cU s [127] else some s)=o:=by
 by_cases h4:x.Code=4
 · rw[if_pos h4,h.1 h4]
 · rw[if_neg h4,h.2 h4]
theorem Tb[Decidable (x.Code=3)]:(if x.Code=3 then[] else eL x)=uN x:=by
 unfold uN;by_cases h:x.Code=3
 · rw[if_pos h,if_pos h]
 · rw[if_neg h,if_neg h]
theorem v7(x:ay):(eL x).length≤1:=by unfold eL;split<;>simp
theorem Tc(x:ay):(uN x).length≤1:=by
 unfold uN;split
 · simp
 · exact v7 x
theorem Td(hx:l[i]?=some x)(h:x.Code=11∨x.Code=5)(hc:∃s',cU s res=some s'∧s'.1=[]):uM v (l.drop i) labs res s base=some ([base+s.1.length],l.drop i):=by
 rw[iw hx];exact SS h hc
theorem Kc(hx:l[i]?=some x)(h:x.Code=11∨x.Code=5)(hc:¬∃s',cU s res=some s'∧s'.1=[]):uM v (l.drop i) labs res s base=none:=by
 rw[iw hx];exact J5 h hc
theorem Cu(hx:l[i]?=some x)(h1:¬(x.Code=11∨x.Code=5))(h2:¬aQ x.Code):uM v (l.drop i) labs res s base=(iy v x s labs).bind fun s1=>(uM v (l.drop (i+1)) labs res s1 base).map fun p=>((base+s.1.length)::p.1,p.2):=by
 rw[iw hx];exact Nq h1 h2
def pZ(v:nS)(l:List ay)(labs:List (List UInt8))(res:List UInt8)(base d:Nat)(yX:Nat)(s0:dD)(i:Nat)(s:dD)(pre:List Nat):Prop:=
 oo (fun x:ay=>x.Code) (l.drop i) d∧uM v (l.drop yX) labs res s0 base=(uM v (l.drop i) labs res s base).map fun p=>(pre++p.1,p.2)
theorem pZ.refl(h:oo (fun x:ay=>x.Code) (l.drop yX) d):pZ v l labs res base d yX s yX s []:=⟨h,by simp⟩
theorem pZ.trans{a:Nat}{s0:dD}{pre p2:List Nat}{k:Nat}{s2:dD}(h:pZ v l labs res base d a s0 i s pre)(h2:pZ v l labs res base d i s k s2 p2):pZ v l labs res base d a s0 k s2 (pre++p2):=
 ⟨h2.1,by rw[h.2,h2.2,Option.map_map];congr 1;funext p;simp⟩
theorem pZ.plain{s2:dD}(hok:oo (fun x:ay=>x.Code) (l.drop i) d)(hx:l[i]?=some x)(h1:¬(x.Code=11∨x.Code=5))(h2:¬aQ x.Code)(hp:iy v x s labs=some s2):pZ v l labs res base d i s (i+1) s2 [base+s.1.length]:=
 ⟨J6 (by rw[←iw hx];exact hok) h1 h2,by rw[Cu hx h1 h2,hp];rfl⟩
theorem pZ.none{a:Nat}{s0:dD}{pre:List Nat}(h:pZ v l labs res base d a s0 i s pre)(hn:uM v (l.drop i) labs res s base=Option.none):uM v (l.drop a) labs res s0 base=Option.none:=by rw[h.2,hn];rfl
theorem D7(hx:l[i]?=some x)(h1:¬(x.Code=11∨x.Code=5))(h2:¬aQ x.Code)(hp:iy v x s labs=none):uM v (l.drop i) labs res s base=none:=by rw[Cu hx h1 h2,hp];rfl
noncomputable abbrev Q6(v:nS)(l:List ay)(labs:List (List UInt8))(x:ay)(base:Nat)(s1:dD)(k:Nat):=uM v (l.drop k) (labs++[uN x]) (eL x) ([],False) (base+s1.1.length)
theorem p6(hx:l[i]?=some x)(h2:aQ x.Code):uM v (l.drop i) labs res s base=((if x.Code=4 then cU s [127] else some s).bind fun s1=>
      (Q6 v l labs x base s1 (i+1)).bind fun p=>
      match p.2 with
      |[]=>none
      | x2::r2=>
        if x2.Code=5 then
          (uM v r2 (labs++[uN x]) (eL x) ([],False) (base+s1.1.length)).bind fun p2=>
          match p2.2 with
          |[]=>none
          |_::r3=>(uM v r3 labs res (bG s1 (eL x)) base).map fun p3=>((base+s.1.length)::p.1++p2.1++p3.1,p3.2)
        else if x.Code=4∧eL x≠[] then none
        else(uM v r2 labs res (bG s1 (eL x)) base).map fun p3=>((base+s.1.length)::p.1++p3.1,p3.2)):=by
  rw[iw hx,uM,Qq (by unfold aQ at h2;omega) h2];simp only[Tb];refine Option.bind_congr fun s1 _=>?_;unfold Q6;refine Option.bind_congr fun p _=>?_;obtain⟨ha,la⟩:=p;cases la with
  |nil=>rfl
  | cons x2 r2=>
    dsimp only
    by_cases h5:x2.Code=5
    · rw[if_pos h5,if_pos h5]
      refine Option.bind_congr fun p2 _=>?_;obtain⟨hb,lb⟩:=p2;cases lb<;>rfl
    · rw[if_neg h5,if_neg h5]
theorem D8(hx:l[i]?=some x)(h2:aQ x.Code)(h:T8 x s none):uM v (l.drop i) labs res s base=none:=by
 rw[p6 hx h2,xy h];rfl
theorem D9(hx:l[i]?=some x)(h2:aQ x.Code)(h:T8 x s (some s1))(hi:Q6 v l labs x base s1 (i+1)=none):uM v (l.drop i) labs res s base=none:=by
 rw[p6 hx h2,xy h,Option.bind_some,hi];rfl
theorem Ea{k:Nat}{h1:List Nat}{x2:ay}(hok:oo (fun x:ay=>x.Code) (l.drop i) d)(hx:l[i]?=some x)(h2:aQ x.Code)(h:T8 x s (some s1))(hi:Q6 v l labs x base s1 (i+1)=some (h1,l.drop k))(hx2:l[k]?=some x2)(h5:¬x2.Code=5)(h4:¬(x.Code=4∧eL x≠[])):
    pZ v l labs res base d i s (k+1) (bG s1 (eL x)) ((base+s.1.length)::h1):=by
  rw[iw hx] at hok;rw[iw hx2] at hi;refine⟨((uI hok h2 hi).resolve_right (fun h=>h5 h.1)).2,?_⟩;rw[p6 hx h2,xy h,Option.bind_some,hi,Option.bind_some];simp only;rw[if_neg h5,if_neg h4]
theorem Eb{k:Nat}{h1:List Nat}{x2:ay}(hx:l[i]?=some x)(h2:aQ x.Code)(h:T8 x s (some s1))(hi:Q6 v l labs x base s1 (i+1)=some (h1,l.drop k))(hx2:l[k]?=some x2)(h5:¬x2.Code=5)(h4:x.Code=4∧eL x≠[]):
    uM v (l.drop i) labs res s base=none:=by
  rw[iw hx2] at hi;rw[p6 hx h2,xy h,Option.bind_some,hi,Option.bind_some];simp only;rw[if_neg h5,if_pos h4]
theorem Ec{k:Nat}{h1:List Nat}{x2:ay}(hx:l[i]?=some x)(h2:aQ x.Code)(h:T8 x s (some s1))(hi:Q6 v l labs x base s1 (i+1)=some (h1,l.drop k))(hx2:l[k]?=some x2)(h5:x2.Code=5)(hi2:Q6 v l labs x base s1 (k+1)=none):
    uM v (l.drop i) labs res s base=none:=by
  rw[iw hx2] at hi;rw[p6 hx h2,xy h,Option.bind_some,hi,Option.bind_some];simp only;rw[if_pos h5,show uM v (l.drop (k+1)) (labs++[uN x]) (eL x) ([],False) (base+s1.1.length)=none from hi2];rfl
theorem Ed{k k2:Nat}{h1 h3:List Nat}{x2 x3:ay}(hok:oo (fun x:ay=>x.Code) (l.drop i) d)(hx:l[i]?=some x)(h2:aQ x.Code)(h:T8 x s (some s1))(hi:Q6 v l labs x base s1 (i+1)=some (h1,l.drop k))(hx2:l[k]?=some x2)(h5:x2.Code=5)(hi2:Q6 v l labs x base s1 (k+1)=some (h3,l.drop k2))(Vb:l[k2]?=some x3):
    pZ v l labs res base d i s (k2+1) (bG s1 (eL x)) ((base+s.1.length)::(h1++h3)):=by
  rw[iw hx] at hok;rw[iw hx2] at hi;rw[iw Vb] at hi2;obtain⟨_,_,_,hb⟩:=(uI hok h2 hi).resolve_left (fun h=>by omega);obtain⟨x3',r3,e,_,_,Qb⟩:=hb _ _ _ _ _ _ hi2;cases e;refine⟨Qb,?_⟩;rw[p6 hx h2,xy h,Option.bind_some,hi,Option.bind_some];simp only;rw[if_pos h5,show uM v (l.drop (k+1)) (labs++[uN x]) (eL x) ([],False) (base+s1.1.length)=_ from hi2,Option.bind_some];simp only
  first|done|(congr 1;done)|(congr 1;funext p;simp)
def VB(v:nS)(l:List ay)(yX:Nat)(labs:List (List UInt8))(res:List UInt8)(base:Nat)(hs:List Nat)(g:Int×Int×SB×List Nat):Prop:=
 (g.2.1=0∧∃(h1:List Nat) (k:Nat),g.1=(k:Int)∧yX≤k∧k≤l.length∧g.2.2.2.length≤k+1∧uM v (l.drop yX) labs res ([],False) base=some (h1,l.drop k)∧g.2.2.2=hs++h1)∨(g.2.1≠0∧uM v (l.drop yX) labs res ([],False) base=none)
theorem VC(hok:oo (fun x:ay=>x.Code) (l.drop i) d)(hx:l[i]?=some x)(h2:aQ x.Code):oo (fun x:ay=>x.Code) (l.drop (i+1)) (d+1)∧¬64≤d:=SU (by rw[←iw hx];exact hok) h2
theorem QE{k:Nat}{hs1:List Nat}{labs':List (List UInt8)}{res':List UInt8}{st':dD}{b':Nat}(hok:oo (fun x:ay=>x.Code) (l.drop i) d)(hb:uM v (l.drop i) labs' res' st' b'=some (hs1,l.drop k)):∃x2,l[k]?=some x2:=by
 obtain⟨x2,r2,h1,h2⟩:=SV (labs':=labs') hok hb;have:k<l.length:=Classical.byContradiction fun h=>by rw[List.drop_eq_nil_of_le (by omega)] at h1;cases h1
 exact ah this
theorem Hi{k:Nat}{h1:List Nat}{x2:ay}(hok:oo (fun x:ay=>x.Code) (l.drop i) d)(hx:l[i]?=some x)(h2:aQ x.Code)(hi:Q6 v l labs x base s1 (i+1)=some (h1,l.drop k))(hx2:l[k]?=some x2)(h5:x2.Code=5):oo (fun x:ay=>x.Code) (l.drop (k+1)) (d+1):=by
 rw[iw hx] at hok;rw[iw hx2] at hi;exact((uI hok h2 hi).resolve_left (fun h=>by omega)).2.2.1
theorem pZ.fin{a:Nat}{s0:dD}{pre h1:List Nat}{r:List ay}(h:pZ v l labs res base d a s0 i s pre)(he:uM v (l.drop i) labs res s base=some (h1,r)):uM v (l.drop a) labs res s0 base=some (pre++h1,r):=by rw[h.2,he];rfl
theorem pZ.Te{a:Nat}{s0:dD}{pre:List Nat}(h:pZ v l labs res base d a s0 i s pre)(hi:l.length≤i):uM v (l.drop a) labs res s0 base=some (pre,l.drop i):=by
 have e:l.drop i=[]:=List.drop_eq_nil_of_le hi;have:=h.fin (h1:=[]) (r:=[]) (by rw[e];rfl);rw[this,e,List.append_nil]
theorem Tf{g:dD×Int}(h:Q5 s res g)(c:g.2=0∧(g.1.1.length:Int)>0):(5:Int)=0↔∃s',cU s res=some s'∧s'.1=[]:=
 ⟨fun h=>by simp at h,fun⟨s',h1,h2⟩=>by
  rw[h.ok c.1] at h1;cases h1;have:=c.2;rw[h2] at this;simp at this⟩
theorem VD{g:dD×Int}(h:Q5 s res g)(c:¬(g.2=0∧(g.1.1.length:Int)>0)):g.2=0↔∃s',cU s res=some s'∧s'.1=[]:=
 ⟨fun h0=>⟨g.1,h.ok h0,List.eq_nil_of_length_eq_zero (Classical.byContradiction fun h9=>c ⟨h0,by omega⟩)⟩,fun⟨s',h1,h2⟩=>Classical.byContradiction fun h0=>by
  rw[h.no h0] at h1;cases h1⟩
structure QF(v:nS)(l:List ay):Prop where
 env:J8 v
 ins:∀x∈l,mW x
 len:l.length≤2000
end
end Go.Hl
end
section
namespace Go.Proofs.YtpfobikpggmleaaGreatDoor
open Go.Hl Go.RowKit
theorem NM{v:nS}{n:Nat}{l:List ay}{yX d base:Nat}{labs:List (List UInt8)}{res:List UInt8}{gs:SB}{hs:List Nat}(az:l.length-yX<n)(hp1:QF v l)(hp2:yX≤l.length)(fI:base≤20*yX)(oe:hs.length≤yX)(yH:d≤64)(Q0:labs.length≤d+1)(R7:∀w∈labs,w.length≤20)(X7:res.length≤20)(hp9:oo (fun x:ay=>x.Code) (l.drop yX) d):cv Tryz.prog 114 [aC (eH v),ai 5 aK (l),aC [ag .i64 (yX:Int),ag .i64 0,aa (bt gs hs.length)],ag .i64 ((base:Int)),ai 1 aj (res),ai 1 dV labs] [av gs 1 iY hs] (γ:=Int×Int×SB×List Nat) (VB v l yX labs res base hs) (fun g=>[av g.2.2.1 1 iY g.2.2.2]) (fun g=>aC [ag .i64 g.1,ag .i64 g.2.1,aa (bt g.2.2.1 g.2.2.2.length)]):=by
 induction n generalizing yX d base labs res gs hs
 case zero=>omega
 rename_i n ih
 refine In 188 Tryz.func114 fun _ _ _=>?_;have KP:=hp1.len;refine Z3 ?_;refine .n (bW (.t rfl)) rfl fun b8 _=>?_;refine .n (au FZ.out) rfl fun R5 _=>?_;refine Z6 ?_;refine .n (au FZ.out) rfl fun VE _=>?_;refine Z3 ?_;refine .own (aB.HT (cs':=bg ([],False) (base:Int)) (.cons (aI 1 aj) (.cons w9 (.cons (.refl _) .nil)))) ?_;refine Z2 ?_;refine .aS (σ:=Nat×SB×List Nat×dD) (fun z=>[ax VE (bg z.2.2.2 (base:Int)),ax R5 (List.map aa [.int .i64 0, .int .i64 0, .slice none 0 0]),ax b8 [ag .i64 (z.1:Int),ag .i64 0,aa (bt z.2.1 (z.2.2.1).length)],av z.2.1 1 iY (z.2.2.1)]) (fun z=>[]) (fun z=>yX≤z.1∧z.1≤l.length∧base+z.2.2.2.1.length≤20*z.1∧z.2.2.1.length≤z.1∧∃pre,z.2.2.1=hs++pre∧pZ v l labs res base d yX ([],False) z.1 z.2.2.2 pre) (fun z=>l.length-z.1) (yX,gs,hs,([],False)) ⟨Nat.le_refl _,hp2,by simpa using fI,oe,[],by simp,pZ.refl hp9⟩ rfl ?_ ?_
 · exact(.refl _ _)
 rintro⟨i,gh,hh,s⟩ ⟨hai,p7,Re,hhl,pre,RX,hrun⟩;simp only at hai p7 Re hhl RX hrun ⊢;refine cD ?_;refine Cd (fun c0=>?_) fun c0=>?_
 ·
  obtain⟨x,hx⟩:=ah (xs:=l) (k:=i) (by omega);have CI:=hp1.ins x (List.mem_of_getElem? hx);refine Z8 ?_;refine .p (cI i (h:=hx)) rfl ?_;refine Z1 ?_;refine .n (au FZ.out) rfl fun b14 _=>?_;refine Z3 ?_;refine .share (t:=14) (i:=0) rfl rfl ?_;refine Z9 ?_;refine .p ((eU (.t rfl) (.t rfl) ee).le (af.int (show(base:Int)+(s.1.length:Int)=((base+s.1.length:Nat):Int) by omega))) rfl ?_;refine .p (cB iY [base+s.1.length]) rfl ?_;refine .n (aF (i:=3) FU.out FU.out FC.out rfl FZ.out rfl FY.out (.t rfl) (.t rfl) rfl (by simp only[List.length_cons,List.length_nil];omega) (by simp only[List.length_cons,List.length_nil];omega)) rfl fun xo _=>?_;refine Z22 ?_;refine Cd (fun c1=>?_) fun c1=>?_
  ·
   refine Z4 ?_;refine .n (cE (h:=bZ (s:=s) (l:=res) (by omega))) rfl fun Nf Vl=>?_;refine Z7 ?_;refine .cut (σ:=Int) (fun _=>[ax VE (bg Nf.1 (base:Int)),ax R5 (List.map aa [.int .i64 0, .int .i64 0, .slice none 0 0]),ax b8 [ag .i64 (i:Int),ag .i64 0,aa (bt xo (hh++[base+s.1.length]).length)],av xo 1 iY (hh++[base+s.1.length])]) (fun e=>[(15,ag .i64 e)]) (fun e=>e=0↔∃s',cU s res=some s'∧s'.1=[]) ?_ ?_
   ·
    refine dN ?_;refine Cd (fun c2=>?_) fun c2=>?_
    ·
     refine Z3 ?_;refine .meet 5 (Tf Vl c2) rfl (.get rfl (af.refl _) (.keep 9 rfl rfl))
    refine Z1 ?_;refine .meet Nf.2 (VD Vl c2) rfl (.get rfl (af.refl _) (.keep 8 rfl rfl))
   intro e he;refine Ek ?_;refine Post.aR rfl (((i:Int),e,xo,hh++[base+s.1.length])) (by by_cases q6:e=0;exact .inl ⟨q6,pre++[base+s.1.length],i,rfl,hai,p7,by(show(hh++[base+s.1.length]).length≤i+1;rw[List.length_append];simp only[List.length_cons,List.length_nil];omega),hrun.fin (Td hx c1 (he.1 q6)),by(show hh++[base+s.1.length]=_;rw[RX,List.append_assoc])⟩;exact .inr ⟨q6,hrun.none (Kc hx c1 (fun h=>q6 (he.2 h)))⟩) (aB.dF [3] [0,1,2] rfl rfl) (.ra (i:=1) FA.out FC.out rfl rfl rfl rfl) ?_;exact af.refl _
  refine kR ?_;refine Cd (fun c3=>?_) fun c3=>?_
  ·
   refine Z6 ?_;refine .n (cE (h:=Hh (labs:=labs) ⟨hp1.env,CI,by omega,by omega,R7⟩ (by omega))) rfl fun Wi XW=>?_;refine jb ?_;refine Cd (fun c4=>?_) fun c4=>?_
   ·
    have hno:iy v x s labs=none:=XW.1.elim (fun h=>absurd h.1 c4) (fun h=>h.2);refine Kx ?_;refine Post.aR rfl (((i:Int),Wi.2,xo,hh++[base+s.1.length])) (by exact .inr ⟨c4,hrun.none (D7 hx c1 (by unfold aQ;omega) hno)⟩) (aB.dF [3] [0,1,2] rfl rfl) (.ra (i:=1) FA.out FC.out rfl rfl rfl rfl) ?_;exact af.refl _
   have rC:iy v x s labs=some Wi.1:=XW.1.elim (fun h=>h.2) (fun h=>absurd h.1 c4);refine Z6 ?_;refine .p ((eU (.t rfl) (.c _) ee).le (af.int (show(i:Int)+1=((i+1:Nat):Int) by omega))) rfl ?_;refine Z7 ?_;refine .round (i+1,xo,hh++[base+s.1.length],Wi.1) ⟨by show yX≤i+1;omega,by show i+1≤_;omega,by(show base+Wi.1.1.length≤20*(i+1);have:=XW.2;omega),by(show(hh++[base+s.1.length]).length≤i+1;rw[List.length_append];simp only[List.length_cons,List.length_nil];omega),pre++[base+s.1.length],by(show hh++[base+s.1.length]=_;rw[RX,List.append_assoc]),hrun.trans (pZ.plain hrun.1 hx c1 (by unfold aQ;omega) rC)⟩ (by show l.length-(i+1)<l.length-i;omega) rfl ?_;exact((.keep 55 rfl rfl))
  have hop:aQ x.Code:=by unfold aQ;omega
  have hin:=VC hrun.1 hx hop;have hlw:∀w∈labs++[uN x],w.length≤20:=fun w hw=>by(rcases List.mem_append.1 hw with h|h;exact R7 w h;(simp only[List.mem_singleton] at h;subst h;have:=Tc x;omega))
  refine Z2 ?_;refine .cut (σ:=dD) (fun s1=>[ax VE (bg s1 (base:Int)),ax R5 (List.map aa [.int .i64 0, .int .i64 0, .slice none 0 0]),ax b8 [ag .i64 (i:Int),ag .i64 0,aa (bt xo (hh++[base+s.1.length]).length)],av xo 1 iY (hh++[base+s.1.length])]) (fun s1=>[(15,jD)]) (fun s1=>T8 x s (some s1)∧s1.1.length≤s.1.length) ?_ ?_
  ·
   refine Z7 ?_;refine Cd (fun c5=>?_) fun c5=>?_
   ·
    refine Z3 ?_;refine .p (cB aj [127]) rfl ?_;refine .n (cE (h:=bZ (s:=s) (l:=[127]) (by omega))) rfl fun g98 h98=>?_;refine jP ?_;refine Cd (fun c6=>?_) fun c6=>?_
    ·
     refine Ek ?_;refine Post.aR rfl (((i:Int),g98.2,xo,hh++[base+s.1.length])) (by exact .inr ⟨c6,hrun.none (D8 hx hop ⟨fun _=>(h98.no c6).symm,fun h=>absurd c5 h⟩)⟩) (aB.dF [3] [0,1,2] rfl rfl) (.ra (i:=1) FA.out FC.out rfl rfl rfl rfl) ?_;exact af.refl _
    refine Z1 ?_;refine .meet g98.1 ⟨⟨fun _=>(h98.ok (Classical.not_not.1 c6)).symm,fun h=>absurd c5 h⟩,h98.2⟩ rfl (.get rfl af.any (.keep 12 rfl rfl))
   refine Z1 ?_;refine .meet s ⟨⟨fun h=>absurd h c5,fun _=>rfl⟩,Nat.le_refl _⟩ rfl (.get rfl af.any (.keep 3 rfl rfl))
  intro s1 ⟨Yk,hs1l⟩;refine Z6 ?_;refine .cut (σ:=Unit) (fun _=>[ax VE (bg s1 (base:Int)),ax R5 (List.map aa [.int .i64 0, .int .i64 0, .slice none 0 0]),ax b8 [ag .i64 (i:Int),ag .i64 0,aa (bt xo (hh++[base+s.1.length]).length)],av xo 1 iY (hh++[base+s.1.length])]) (fun _=>[(16,ai 1 aj (eL x))]) (fun _=>True) ?_ ?_
  ·
   refine Z7 ?_;refine Cd (fun c7=>?_) fun c7=>?_
   ·
    refine Z3 ?_;refine .p ((fk FU.out FU.out (.t rfl)).le (af.int (KW CI.A0))) rfl ?_;refine .p (cB aj [UInt8.ofNat x.A.toNat]) rfl ?_;refine Z2 ?_;refine .meet () trivial rfl (.get rfl (af.of_eq (by rw[show eL x=[UInt8.ofNat x.A.toNat] from if_neg c7])) (.keep 8 rfl rfl))
   refine Z1 ?_;refine .meet () trivial rfl (.get rfl ((show eL x=[] from if_pos (Classical.not_not.1 c7))▸aI 1 aj) (.keep 3 rfl rfl))
  intro _ _;refine .cut (σ:=Unit) (fun _=>[ax VE (bg s1 (base:Int)),ax R5 (List.map aa [.int .i64 0, .int .i64 0, .slice none 0 0]),ax b8 [ag .i64 (i:Int),ag .i64 0,aa (bt xo (hh++[base+s.1.length]).length)],av xo 1 iY (hh++[base+s.1.length])]) (fun _=>[(17,ai 1 aj (uN x))]) (fun _=>True) ?_ ?_
  ·
   refine Z7 ?_;refine Cd (fun c8=>?_) fun c8=>?_
   ·
    refine Z4 ?_;refine .meet () trivial rfl (.get rfl (af.of_eq (by rw[show uN x=eL x from if_neg c8])) (.keep 5 rfl rfl))
   refine Z1 ?_;refine .meet () trivial rfl (.get rfl ((show uN x=[] from if_pos (Classical.not_not.1 c8))▸aI 1 aj) (.keep 3 rfl rfl))
  intro _ _;refine Z2 ?_;refine .n (cg dV ([]:List (List UInt8)) FU.out FC.out rfl FZ.out rfl .nil rfl rfl rfl rfl rfl) rfl fun bE3 _=>?_;refine Z1 ?_;refine .n (aF (i:=0) FU.out FU.out FC.out rfl FZ.out rfl FY.out (.t rfl) (.t rfl) rfl (by simp<;>omega) (by simp<;>omega)) rfl fun bE4 _=>?_;refine Z1 ?_;refine .p (cB dV [uN x]) rfl ?_;refine .n (fZ.eB (G:=fun g=>g) (hs1:=fun _=>_) (xs:=fun _=>_) (aF (i:=0) FU.out FU.out FC.out rfl FZ.out rfl FY.out (.t rfl) (.t rfl) rfl (by simp<;>omega) (by simp<;>omega))) rfl fun _ _=>?_;refine Z7 ?_;refine .p ((eU (.t rfl) (.c _) ee).le (af.int (show(i:Int)+1=((i+1:Nat):Int) by omega))) rfl ?_;refine jb ?_;refine .p ((eU (.t rfl) (.t rfl) ee).le (af.int (show(base:Int)+(s1.1.length:Int)=((base+s1.1.length:Nat):Int) by omega))) rfl ?_;refine Z2 ?_;refine .n (kL [_,_,_] [3,0,1,2] (h:= @ih (i+1) (d+1) (base+s1.1.length) (labs++[uN x]) (eL x) xo (hh++[base+s.1.length]) (by omega) (by omega) (by omega) (by rw[List.length_append];simp only[List.length_cons,List.length_nil];omega) (by omega) (by simp only[List.length_append,List.length_cons,List.length_nil];omega) hlw (by have:=v7 x;omega) (hin.1))) rfl fun Yl Tg=>?_;refine .s (gJ (i:=3) FC.out rfl (.t rfl) (.t rfl) rfl rfl rfl) ?_;refine cD ?_;refine Cd (fun c9=>?_) fun c9=>?_
  ·
   unfold VB at Tg;have hno:=(Tg.resolve_left (fun h=>c9 h.1)).2;refine dN ?_;refine Post.aR rfl (Yl) (by exact .inr ⟨c9,hrun.none (D9 hx hop Yk hno)⟩) (aB.dF [0] [1,2,3] rfl rfl) (.ra (i:=2) FA.out FC.out rfl rfl rfl rfl) ?_;exact af.refl _
  unfold VB at Tg;obtain⟨a138,bE5,gs2,hh2⟩:=Yl;obtain⟨q6,h1,k,N1,hik,HJ,hhk,zk,KE⟩:=Tg.resolve_right (fun h=>c9 h.1);simp only at q6 N1 hhk KE;subst q6;subst N1;obtain⟨x2,hx2⟩:=QE hin.1 zk;have Iy:=(List.getElem?_eq_some_iff.1 hx2).1;refine Z2 ?_;refine .cut (σ:=Nat×SB×List Nat) (fun z=>[ax VE (bg s1 (base:Int)),ax R5 (List.map aa [.int .i64 0, .int .i64 0, .slice none 0 0]),ax b8 [ag .i64 (z.1:Int),ag .i64 0,aa (bt z.2.1 (z.2.2).length)],av z.2.1 1 iY (z.2.2)]) (fun z=>[]) (fun z=>i+1≤z.1∧z.1<l.length∧z.2.2.length≤z.1+1∧∃pp,z.2.2=(hh++[base+s.1.length])++pp∧pZ v l labs res base d i s (z.1+1) (bG s1 (eL x)) ((base+s.1.length)::pp)) ?_ ?_
  ·
   refine Z5 ?_;refine .p (cI k (h:=hx2)) rfl ?_;refine Z5 ?_;refine Cd (fun nV=>?_) fun nV=>?_
   ·
    refine Z4 ?_;refine .p ((eU (.t rfl) (.c _) ee).le (af.int (show(k:Int)+1=((k+1:Nat):Int) by omega))) rfl ?_;refine Z1 ?_;refine .s (jc (i:=3) FC.out (.t rfl) (.t rfl) rfl rfl) ?_;refine dN ?_;refine .p ((eU (.t rfl) (.t rfl) ee).le (af.int (show(base:Int)+(s1.1.length:Int)=((base+s1.1.length:Nat):Int) by omega))) rfl ?_;refine Z2 ?_;refine .n (cE (h:= @ih (k+1) (d+1) (base+s1.1.length) (labs++[uN x]) (eL x) gs2 (hh2) (by omega) (by omega) (by omega) (by omega) (by omega) (by simp only[List.length_append,List.length_cons,List.length_nil];omega) hlw (by have:=v7 x;omega) (Hi hrun.1 hx hop zk hx2 nV))) rfl fun Ym Th=>?_;refine .s (gJ (i:=3) FC.out rfl (.t rfl) (.t rfl) rfl rfl rfl) ?_;refine Z9 ?_;refine Cd (fun qI=>?_) fun qI=>?_
    ·
     unfold VB at Th;have hno:=(Th.resolve_left (fun h=>qI h.1)).2;refine dN ?_;refine Post.aR rfl (Ym) (by exact .inr ⟨qI,hrun.none (Ec hx hop Yk zk hx2 nV hno)⟩) (aB.dF [0] [1,2,3] rfl rfl) (.ra (i:=2) FA.out FC.out rfl rfl rfl rfl) ?_;exact af.refl _
    unfold VB at Th;obtain⟨bE6,bE7,gs3,hh3⟩:=Ym;obtain⟨Yn,h3,k2,Yo,bE8,bE9,Yp,Qp,hh3e⟩:=Th.resolve_right (fun h=>qI h.1);simp only at Yn Yo Yp hh3e;subst Yn;subst Yo;obtain⟨x3,Vb⟩:=QE (Hi hrun.1 hx hop zk hx2 nV) Qp;have Eh:=(List.getElem?_eq_some_iff.1 Vb).1;refine Z1 ?_;refine .own (aB.perm (Perm.idx [1,2,3,0] rfl rfl)) (bN.meet (k2,gs3,hh3) ⟨by show i+1≤k2;omega,Eh,Yp,h1++h3,by(show hh3=_;rw[hh3e,KE,List.append_assoc]),Ed hrun.1 hx hop Yk zk hx2 nV Qp Vb⟩ rfl (.keep 26 rfl rfl))
   refine dN ?_;refine Cd (fun tg=>?_) fun tg=>?_
   ·
    refine Z3 ?_;refine .s (jc (i:=3) FC.out (.t rfl) (.c _) rfl rfl) ?_;refine jb ?_;refine Post.aR rfl (((k:Int),5,gs2,hh2)) (by exact .inr ⟨by show(5:Int)≠0;decide,hrun.none (Eb hx hop Yk zk hx2 nV ⟨tg.1,fun h=>by have:=tg.2;rw[h] at this;simp at this⟩)⟩) (aB.dF [0] [1,2,3] rfl rfl) (.ra (i:=2) FA.out FC.out rfl rfl rfl rfl) ?_;exact af.refl _
   refine Z1 ?_;refine .own (aB.perm (Perm.idx [1,2,3,0] rfl rfl)) (bN.meet (k,gs2,hh2) ⟨by show i+1≤k;omega,Iy,hhk,h1,KE,Ea hrun.1 hx hop Yk zk hx2 nV (fun h=>tg ⟨h.1,by have:=List.length_pos_iff.2 h.2;omega⟩)⟩ rfl (.keep 15 rfl rfl))
  intro ⟨kz,gz,hz⟩ ⟨ar8,hkz,hzl,pp,hzp,hrz⟩;simp only at ar8 hkz hzl hzp hrz ⊢;refine Z4 ?_;refine .n (cE (h:=dW (s:=s1) (l:=eL x) (by omega) (by have:=v7 x;omega))) rfl fun bF0 bF1=>?_;refine Z6 ?_;refine .p ((eU (.t rfl) (.c _) ee).le (af.int (show(kz:Int)+1=((kz+1:Nat):Int) by omega))) rfl ?_;refine Z4 ?_;refine .round (kz+1,gz,hz,bG s1 (eL x)) ⟨by show yX≤kz+1;omega,by show kz+1≤_;omega,by(show base+(s1.1++eL x).length≤20*(kz+1);rw[List.length_append];have:=v7 x;omega),hzl,_,by(show hz=hs++_;rw[hzp,RX,List.append_assoc,List.append_assoc];rfl),hrun.trans hrz⟩ (by show l.length-(kz+1)<l.length-i;omega) rfl ?_;exact((.keep 78 rfl rfl))
 refine dN ?_;refine Post.aR rfl (((i:Int),0,gh,hh)) (by exact .inl ⟨rfl,pre,i,rfl,hai,p7,by(show hh.length≤i+1;omega),hrun.Te (by omega),RX⟩) (aB.dF [3] [0,1,2] rfl rfl) (.ra (i:=1) FA.out FC.out rfl rfl rfl rfl) ?_;exact af.refl _
end Go.Proofs.YtpfobikpggmleaaGreatDoor
end
section
namespace Go.Hl
open Go.RowKit
def Kd(m:aT)(a b c d e p r l:VP):List VP:=[a,b,c,d,e,ak (0≤m.Table),p,r,l]
instance {m:aT} {a b c d e p r l:VP} [Flat a] [Flat b] [Flat c] [Flat d] [Flat e] [Flat p] [Flat r] [Flat l]:bH (Kd m a b c d e p r l):=by unfold Kd;infer_instance
instance (s:kY):bH (bS s):=by unfold bS;infer_instance
def Yq(v:nS)(b:jJ)(g:Int×Int×List Nat):Prop:=
 (g.2.1=0∧∃rest,uM v b.L [v.de.R] v.de.R ([],False) 0=some (g.2.2,rest))∨(g.2.1≠0∧uM v b.L [v.de.R] v.de.R ([],False) 0=none∧g.2.2=[])
variable {m:aT}
theorem VF{z:gu}(h:gB m z=0):gA z.gX m.bQ.length:=by
 unfold gB at h
 split at h
 · cases h
 · exact Classical.not_not.1 ((cM (by decide)).1 h)
theorem dM.imp(h:dM m){z:gu}(hz:z∈m.aJ):gA z.gX m.bQ.length:=VF (fA.1 (bM.1 h.imports).2 z hz)
variable {f:cN}
theorem Yr(h:dM m)(ho:lI m)(hf:f∈m.aA):J8 (cH m f):=by
 have hl:=h.lens;have hs:=(kr (nW h hf)).2;have h1:=ho.loc f hf;have h2:=h.tG _ hs;have hc:=hl.2.2.2.2;unfold cO at hc;refine⟨?_,?_,?_,?_,?_,?_,?_,?_,?_⟩
 · simp[cH];omega
 · simp[cH];omega
 · simp[cH];omega
 · simp[cH];omega
 · simp[cH];omega
 · simp[cH]
 · intro g hg
   simp only[cH,List.mem_append,List.mem_map] at hg;rcases hg with⟨z,hz,rfl⟩|⟨z,hz,rfl⟩
   · exact h.tG _ (kr (h.imp hz)).2
   · exact h.tG _ (kr (nW h hz)).2
 · intro g hg;exact h.tG g hg
 · exact h2.2
theorem Ys(h:dM m)(ho:lI m)(hf:f∈m.aA)(he:oI f.Body):QF (cH m f) f.Body.L:=⟨Yr h ho hf,fun x hx=> .of (ho.ins f hf x hx) (he.1 x hx),ho.len f hf⟩
theorem QG(h:oI f.Body):oo (fun x:ay=>x.Code) f.Body.L 0:=⟨[11],(w5 (by simp)).1 h.2.2.2.1,by simp⟩
theorem Hj(he:oI f.Body){g:Int×Int×List Nat}(h:Yq (cH m f) f.Body g):(g.2.1=0∧jr m f=some g.2.2)∨(g.2.1≠0∧¬qG m f∧g.2.2=[]):=by
 have hd:=Dy (m:=m) (f:=f) (k:=f.Body.L.length+1) he (by omega);have hd2:jr m f=(uM (cH m f) f.Body.L [(cH m f).de.R] (cH m f).de.R ([],False) 0).map Prod.fst:=hd;rcases h with⟨h1,rest,h2⟩|⟨h1,h2,h3⟩
 · exact .inl ⟨h1,by rw[hd2,h2];rfl⟩
 · exact .inr ⟨h1,fun⟨_,hs,hh⟩=>(by rw[hd2,h2] at hh;cases hh),h3⟩
def VG(m:aT)(f:cN)(g:Int×Int×List Nat):Prop:=(g.2.1=0∧dM m∧oI f.Body∧jr m f=some g.2.2)∨(g.2.1≠0∧¬(dM m∧qG m f))
theorem VG.iff{g:Int×Int×List Nat}(h:VG m f g):g.2.1=0↔dM m∧qG m f:=by
 rcases h with⟨h1,h2,h3,h4⟩|⟨h1,h2⟩
 · exact⟨fun _=>⟨h2,h3,_,h4⟩,fun _=>h1⟩
 · exact⟨fun h=>absurd h h1,fun h=>absurd h h2⟩
end Go.Hl
end
section
namespace Go.Proofs.YtpfobikpggmleaaGreatDoor
open Go.Hl Go.RowKit
theorem Ho{v:nS}{b:jJ}(az:QF v b.L)(hp1:oo (fun x:ay=>x.Code) b.L 0):cv Tryz.prog 87 [aC (eH v),aC (gw b)] [] (γ:=Int×Int×List Nat) (Yq v b) (fun _=>[]) (fun g=>aC [ag .i64 g.1,ag .i64 g.2.1,ai 1 iY g.2.2]):=by
 refine In 24 Tryz.func87 fun _ _ _=>?_;refine Z4 ?_;refine .n (au FZ.out) rfl fun b4 _=>?_;refine Z3 ?_;refine .eC 1 iY ?_;refine cc ?_;refine .p (cB dV [v.de.R]) rfl ?_;refine .n (cE (h:=NM (n:=b.L.length+1) (yX:=0) (d:=0) (base:=0) (labs:=[v.de.R]) (res:=v.de.R) (gs:=none) (hs:=[]) (by omega) az (Nat.zero_le _) (Nat.le_refl _) (Nat.le_refl _) (by omega) (by simp) (by simpa using az.env.own) az.env.own hp1)) rfl fun g17 KO=>?_;refine .n (au FZ.out) rfl fun b5 _=>?_;refine cc ?_;refine Cd (fun c0=>?_) fun c0=>?_
 ·
  unfold VB at KO;obtain⟨h0,h1,k,_,_,_,_,hb,hh⟩:=KO.resolve_right (fun h=>h.1 c0);simp only[List.nil_append] at hh;refine Z5 ?_;refine .dO (i:=1) (j:=0) (f:=2) rfl rfl rfl ?_;refine Z7 ?_;refine Post.aR rfl ((0,g17.2.1,g17.2.2.2)) (by exact .inl ⟨h0,_,by(show uM v b.L [v.de.R] v.de.R ([],False) 0=some (g17.2.2.2,_);rw[hh];exact hb)⟩) (aB.dF [] [0,1] rfl rfl) (.ra (i:=1) FA.out FC.out rfl rfl rfl rfl) ?_;exact af.refl _
 unfold VB at KO;have hno:=(KO.resolve_left (fun h=>c0 h.1)).2;refine dN ?_;refine Post.aR rfl ((g17.1,g17.2.1,[])) (by exact .inr ⟨c0,hno,rfl⟩) (aB.dF [] [0,1,2] rfl rfl) (.ra (i:=2) FA.out FC.out rfl rfl rfl rfl) ?_;exact af.agg (.cons (af.refl _) (.cons (af.refl _) (.cons (aI 1 iY) .nil)))
theorem NN{m:aT}{f:cN}{i:Nat}(az:dM m)(hp1:lI m)(hp2:m.aA[i]?=some f):cv Tryz.prog 88 [aC (bf m),ag .i64 ((i:Int))] [] (γ:=Unit) (fun _=>True) (fun _=>[]) (fun _=>aC (eH (cH m f))):=by
 refine In 157 Tryz.func88 fun _ _ _=>?_;have CL:f∈m.aA:=List.mem_of_getElem? hp2;have hlens:=az.lens;have hcn:(m.aJ.length:Int)+(m.aA.length:Int)≤100:=hlens.2.2.2.2;have NS:=kr (nW az CL);have ar9:=nW az CL;unfold gA at ar9;have hlo:=hp1.loc f CL;have hfw:=az.tG _ NS.2;refine Z3 ?_;refine .n (au FZ.out) rfl fun b4 _=>?_;refine Z8 ?_;refine .n (au FZ.out) rfl fun b5 _=>?_;refine cD ?_;refine .eC 2 bS ?_;refine .aS (σ:=Nat×SB) (fun s=>[av s.2 2 bS (m.bQ.take s.1),ax b5 (Kd m (aa (.slice none 0 0)) (aa (bt s.2 (m.bQ.take s.1).length)) (aa (.slice none 0 0)) (aa (.slice none 0 0)) (aa (.slice none 0 0)) (aa (.slice none 0 0)) (aa (.slice none 0 0)) (aa (.slice none 0 0))),ax b4 (List.map aa [.slice none 0 0, .slice none 0 0, .slice none 0 0, .slice none 0 0, .slice none 0 0, .bool false, .slice none 0 0, .slice none 0 0, .slice none 0 0])]) (fun s=>[(6,ag .i64 (s.1:Int))]) (fun s=>s.1≤m.bQ.length) (fun s=>m.bQ.length-s.1) (0,none) (Nat.zero_le _) rfl ?_ ?_
 · exact(.get rfl (af.refl _) (.refl _ _))
 rintro⟨k0,q0⟩ N1;simp only at N1 ⊢;refine cD ?_;refine Cd (fun c0=>?_) fun c0=>?_
 ·
  obtain⟨y,hx⟩:=ah (xs:=m.bQ) (k:=k0) (by omega);refine Z4 ?_;refine .bP [(0,0),(1,1),(2,0),(3,0),(4,0),(5,0),(6,0),(7,0),(8,0),(9,0),(10,0),(11,0),(12,0),(13,0),(14,0),(15,0)] 16 3 FM.out (by kernel_rfl) (k:= ?_);refine Z5 ?_;refine .p rfl (fun _=>aP (j:=k0) FU.out FC.out rfl (.t rfl) (.t rfl) rfl hx) ?_;refine Z5 ?_;refine .p rfl (fun _=>aP (j:=k0) FU.out FC.out rfl (.t rfl) (.t rfl) rfl hx) ?_;refine Z3 ?_;refine .p rfl (fun _=>bI (enc:=bS) [y] FU.out FC.out rfl FZ.out rfl (.cons (.t rfl) .nil) rfl rfl rfl rfl rfl) ?_;refine .fin ?_;refine .n (aF (i:=0) FU.out FU.out FC.out rfl FZ.out rfl FY.out (.t rfl) (.t rfl) rfl (by simp<;>omega) (by simp<;>omega)) rfl fun QT _=>?_;refine cD ?_;refine .round (k0+1,QT) (by show k0+1≤_;omega) (by show m.bQ.length-(k0+1)<m.bQ.length-k0;omega) (by simp only[←bq hx,List.map_append,List.map_cons,List.map_nil,List.append_assoc];rfl) ?_;exact(.get rfl (af.int (by show(_:Int)=((k0+1:Nat):Int);omega)) ((.keep 27 rfl rfl)))
 have Yt:m.bQ.take k0=m.bQ:=List.take_of_length_le (by omega);rw[Yt];refine .dO (n:=2) (enc:=bS) (i:=0) (j:=0) (f:=1) rfl rfl rfl ?_;refine dN ?_;refine .eC 2 bS ?_;refine .aS (σ:=Nat×SB) (fun s=>[av s.2 2 bS ((m.aJ.take s.1).map fun z=>cF m z.gX),ax b5 (Kd m (aa (bt s.2 (((m.aJ.take s.1).map fun z=>cF m z.gX)).length)) (ai 2 bS m.bQ) (aa (.slice none 0 0)) (aa (.slice none 0 0)) (aa (.slice none 0 0)) (aa (.slice none 0 0)) (aa (.slice none 0 0)) (aa (.slice none 0 0))),ax b4 (List.map aa [.slice none 0 0, .slice none 0 0, .slice none 0 0, .slice none 0 0, .slice none 0 0, .bool false, .slice none 0 0, .slice none 0 0, .slice none 0 0])]) (fun s=>[(7,ag .i64 (s.1:Int))]) (fun s=>s.1≤m.aJ.length) (fun s=>m.aJ.length-s.1) (0,none) (Nat.zero_le _) rfl ?_ ?_
 · exact(.get rfl (af.refl _) (.refl _ _))
 rintro⟨k1,q1⟩ CD;simp only at CD ⊢;refine cD ?_;refine Cd (fun c1=>?_) fun c1=>?_
 ·
  obtain⟨y,hx⟩:=ah (xs:=m.aJ) (k:=k1) (by omega);have Yu:=az.imp (List.mem_of_getElem? hx);have hys:=(kr Yu).1;unfold gA at Yu;refine Z4 ?_;refine .bP [(0,0),(1,1),(2,0),(3,1),(4,0),(5,0),(6,0),(7,0),(8,0),(9,0),(10,0),(11,0),(12,0)] 13 3 FM.out (by kernel_rfl) (k:= ?_);refine Z7 ?_;refine .p rfl (fun _=>aP (j:=k1) FU.out FC.out rfl (.t rfl) (.t rfl) rfl hx) ?_;refine Z2 ?_;refine .p rfl (fun _=>aP (j:=y.gX.toNat) FU.out FC.out rfl (.t rfl) (.t rfl) (by omega) hys) ?_;refine Z1 ?_;refine .p rfl (fun _=>bI (enc:=bS) [cF m y.gX] FU.out FC.out rfl FZ.out rfl (.cons (.t rfl) .nil) rfl rfl rfl rfl rfl) ?_;refine .fin ?_;refine .n (aF (i:=0) FU.out FU.out FC.out rfl FZ.out rfl FY.out (.t rfl) (.t rfl) rfl (by simp<;>omega) (by simp<;>omega)) rfl fun Wh _=>?_;refine cD ?_;refine .round (k1+1,Wh) (by show k1+1≤_;omega) (by show m.aJ.length-(k1+1)<m.aJ.length-k1;omega) (by simp only[←bq hx,List.map_append,List.map_cons,List.map_nil,List.append_assoc];rfl) ?_;exact(.get rfl (af.int (by show(_:Int)=((k1+1:Nat):Int);omega)) ((.keep 24 rfl rfl)))
 have QB:m.aJ.take k1=m.aJ:=List.take_of_length_le (by omega);rw[QB];refine dN ?_;refine .aS (σ:=Nat×SB) (fun s=>[av s.2 2 bS ((m.aJ.map fun z=>cF m z.gX)++((m.aA.take s.1).map fun z=>cF m z.gX)),ax b5 (Kd m (aa (bt s.2 ((m.aJ.map fun z=>cF m z.gX)++((m.aA.take s.1).map fun z=>cF m z.gX)).length)) (ai 2 bS m.bQ) (aa (.slice none 0 0)) (aa (.slice none 0 0)) (aa (.slice none 0 0)) (aa (.slice none 0 0)) (aa (.slice none 0 0)) (aa (.slice none 0 0))),ax b4 (List.map aa [.slice none 0 0, .slice none 0 0, .slice none 0 0, .slice none 0 0, .slice none 0 0, .bool false, .slice none 0 0, .slice none 0 0, .slice none 0 0])]) (fun s=>[(8,ag .i64 (s.1:Int))]) (fun s=>s.1≤m.aA.length) (fun s=>m.aA.length-s.1) (0,q1) (Nat.zero_le _) (by simp only[List.take_zero,List.map_nil,List.append_nil]) ?_ ?_
 · exact(.get rfl (af.refl _) (.refl _ _))
 rintro⟨k2,q2⟩ hk2;simp only at hk2 ⊢;refine cD ?_;refine Cd (fun c2=>?_) fun c2=>?_
 ·
  obtain⟨y,hx⟩:=ah (xs:=m.aA) (k:=k2) (by omega);have Yu:=nW az (List.mem_of_getElem? hx);have hys:=(kr Yu).1;unfold gA at Yu;refine Z4 ?_;refine .bP [(0,0),(1,1),(2,0),(3,1),(4,0),(5,0),(6,0),(7,0),(8,0),(9,0),(10,0),(11,0),(12,0)] 13 3 FM.out (by kernel_rfl) (k:= ?_);refine Z7 ?_;refine .p rfl (fun _=>aP (j:=k2) FU.out FC.out rfl (.t rfl) (.t rfl) rfl hx) ?_;refine Z2 ?_;refine .p rfl (fun _=>aP (j:=y.gX.toNat) FU.out FC.out rfl (.t rfl) (.t rfl) (by omega) hys) ?_;refine Z1 ?_;refine .p rfl (fun _=>bI (enc:=bS) [cF m y.gX] FU.out FC.out rfl FZ.out rfl (.cons (.t rfl) .nil) rfl rfl rfl rfl rfl) ?_;refine .fin ?_;refine .n (aF (i:=0) FU.out FU.out FC.out rfl FZ.out rfl FY.out (.t rfl) (.t rfl) rfl (by simp<;>omega) (by simp<;>omega)) rfl fun Wn _=>?_;refine cD ?_;refine .round (k2+1,Wn) (by show k2+1≤_;omega) (by show m.aA.length-(k2+1)<m.aA.length-k2;omega) (by simp only[←bq hx,List.map_append,List.map_cons,List.map_nil,List.append_assoc];rfl) ?_;exact(.get rfl (af.int (by show(_:Int)=((k2+1:Nat):Int);omega)) ((.keep 24 rfl rfl)))
 have tQ:m.aA.take k2=m.aA:=List.take_of_length_le (by omega);rw[tQ];refine .dO (n:=2) (enc:=bS) (i:=0) (j:=0) (f:=0) rfl rfl rfl ?_;refine dN ?_;refine .eC 1 pY ?_;refine .aS (σ:=Nat×SB) (fun s=>[av s.2 1 pY ((m.bz.take s.1).map fun z=>z.bO),ax b5 (Kd m (ai 2 bS ((m.aJ.map fun z=>cF m z.gX)++(m.aA.map fun z=>cF m z.gX))) (ai 2 bS m.bQ) (aa (bt s.2 (((m.bz.take s.1).map fun z=>z.bO)).length)) (aa (.slice none 0 0)) (aa (.slice none 0 0)) (aa (.slice none 0 0)) (aa (.slice none 0 0)) (aa (.slice none 0 0))),ax b4 (List.map aa [.slice none 0 0, .slice none 0 0, .slice none 0 0, .slice none 0 0, .slice none 0 0, .bool false, .slice none 0 0, .slice none 0 0, .slice none 0 0])]) (fun s=>[(9,ag .i64 (s.1:Int))]) (fun s=>s.1≤m.bz.length) (fun s=>m.bz.length-s.1) (0,none) (Nat.zero_le _) rfl ?_ ?_
 · exact(.get rfl (af.refl _) (.refl _ _))
 rintro⟨k3,q3⟩ Iy;simp only at Iy ⊢;refine cD ?_;refine Cd (fun c3=>?_) fun c3=>?_
 ·
  obtain⟨y,hx⟩:=ah (xs:=m.bz) (k:=k3) (by omega);refine Z4 ?_;refine .bP [(0,0),(1,1),(2,0),(3,0),(4,0),(5,0),(6,0),(7,0),(8,0)] 9 3 FM.out (by kernel_rfl) (k:= ?_);refine Z5 ?_;refine .p rfl (fun _=>aP (j:=k3) FU.out FC.out rfl (.t rfl) (.t rfl) rfl hx) ?_;refine Z2 ?_;refine .p rfl (fun _=>bI (enc:=pY) [y.bO] FU.out FC.out rfl FZ.out rfl (.cons (.t rfl) .nil) rfl rfl rfl rfl rfl) ?_;refine .fin ?_;refine .n (aF (i:=0) FU.out FU.out FC.out rfl FZ.out rfl FY.out (.t rfl) (.t rfl) rfl (by simp<;>omega) (by simp<;>omega)) rfl fun Yv _=>?_;refine cD ?_;refine .round (k3+1,Yv) (by show k3+1≤_;omega) (by show m.bz.length-(k3+1)<m.bz.length-k3;omega) (by simp only[←bq hx,List.map_append,List.map_cons,List.map_nil,List.append_assoc];rfl) ?_;exact(.get rfl (af.int (by show(_:Int)=((k3+1:Nat):Int);omega)) ((.keep 20 rfl rfl)))
 have Yw:m.bz.take k3=m.bz:=List.take_of_length_le (by omega);rw[Yw];refine .dO (n:=1) (enc:=pY) (i:=0) (j:=0) (f:=2) rfl rfl rfl ?_;refine dN ?_;refine .eC 1 pY ?_;refine .eC 1 aj ?_;refine .aS (σ:=Nat×SB×SB) (fun s=>[av s.2.1 1 aj ((m.an.take s.1).map fun z=>z.Ty),av s.2.2 1 pY ((m.an.take s.1).map fun z=>z.eO),ax b5 (Kd m (ai 2 bS ((m.aJ.map fun z=>cF m z.gX)++(m.aA.map fun z=>cF m z.gX))) (ai 2 bS m.bQ) (ai 1 pY (m.bz.map fun z=>z.bO)) (aa (bt s.2.1 (((m.an.take s.1).map fun z=>z.Ty)).length)) (aa (bt s.2.2 (((m.an.take s.1).map fun z=>z.eO)).length)) (aa (.slice none 0 0)) (aa (.slice none 0 0)) (aa (.slice none 0 0))),ax b4 (List.map aa [.slice none 0 0, .slice none 0 0, .slice none 0 0, .slice none 0 0, .slice none 0 0, .bool false, .slice none 0 0, .slice none 0 0, .slice none 0 0])]) (fun s=>[(10,ag .i64 (s.1:Int))]) (fun s=>s.1≤m.an.length) (fun s=>m.an.length-s.1) (0,none,none) (Nat.zero_le _) rfl ?_ ?_
 · exact(.get rfl (af.refl _) (.refl _ _))
 rintro⟨k4,q4,q5⟩ Eh;simp only at Eh ⊢;refine cD ?_;refine Cd (fun c4=>?_) fun c4=>?_
 ·
  obtain⟨y,hx⟩:=ah (xs:=m.an) (k:=k4) (by omega);refine Z5 ?_;refine .bP [(0,0),(1,1),(2,0),(3,0),(4,0),(5,0),(6,0),(7,0),(8,0)] 9 3 FM.out (by kernel_rfl) (k:= ?_);refine Z5 ?_;refine .p rfl (fun _=>aP (j:=k4) FU.out FC.out rfl (.t rfl) (.t rfl) rfl hx) ?_;refine Z2 ?_;refine .p rfl (fun _=>bI (enc:=aj) [y.Ty] FU.out FC.out rfl FZ.out rfl (.cons (.t rfl) .nil) rfl rfl rfl rfl rfl) ?_;refine .fin ?_;refine .n (aF (i:=0) FU.out FU.out FC.out rfl FZ.out rfl FY.out (.t rfl) (.t rfl) rfl (by simp<;>omega) (by simp<;>omega)) rfl fun Vo _=>?_;refine Z4 ?_;refine .bP [(0,0),(1,1),(2,0),(3,0),(4,0),(5,0),(6,0),(7,0),(8,0)] 9 3 FM.out (by kernel_rfl) (k:= ?_);refine Z5 ?_;refine .p rfl (fun _=>aP (j:=k4) FU.out FC.out rfl (.t rfl) (.t rfl) rfl hx) ?_;refine Z2 ?_;refine .p rfl (fun _=>bI (enc:=pY) [y.eO] FU.out FC.out rfl FZ.out rfl (.cons (.t rfl) .nil) rfl rfl rfl rfl rfl) ?_;refine .fin ?_;refine .n (aF (i:=1) FU.out FU.out FC.out rfl FZ.out rfl FY.out (.t rfl) (.t rfl) rfl (by simp<;>omega) (by simp<;>omega)) rfl fun as0 _=>?_;refine cD ?_;refine .round (k4+1,Vo,as0) (by show k4+1≤_;omega) (by show m.an.length-(k4+1)<m.an.length-k4;omega) (by simp only[←bq hx,List.map_append,List.map_cons,List.map_nil,List.append_assoc];rfl) ?_;exact(.get rfl (af.int (by show(_:Int)=((k4+1:Nat):Int);omega)) ((.keep 31 rfl rfl)))
 have Yx:m.an.take k4=m.an:=List.take_of_length_le (by omega);rw[Yx];refine .dO (n:=1) (enc:=aj) (i:=0) (j:=1) (f:=3) rfl rfl rfl ?_;refine .dO (n:=1) (enc:=pY) (i:=0) (j:=0) (f:=4) rfl rfl rfl ?_;refine Z6 ?_;refine .br 8 4 FM.out (by kernel_rfl) (k:= ?_);refine Z5 ?_;refine .p (cI i (h:=hp2)) ?_;refine Z3 ?_;refine .p (cI f.gX.toNat (h:=NS.1)) rfl ?_;refine Z6 ?_;refine .bP [(1,0),(2,0),(3,1),(5,0),(6,0),(7,0),(8,0),(9,0),(10,0),(11,0),(0,4),(4,2)] 12 3 FM.out (by kernel_rfl) (k:= ?_);refine Z6 ?_;refine .p rfl (fun _=>aP (j:=i) FU.out FC.out rfl (.t rfl) (.t rfl) rfl hp2) ?_;refine Z3 ?_;refine .a rfl (cg aj ([]:List UInt8) FU.out FC.out rfl FZ.out rfl .nil rfl rfl rfl rfl rfl) (fun _ _=>aB.drop (aB.refl _)) fun bF2 _=>?_;refine .e rfl (aF (i:=0) FU.out FU.out FC.out rfl FZ.out rfl FY.out (.t rfl) (.t rfl) rfl (by simp<;>omega) (by simp<;>omega)) fun ar3 _=>?_;refine .fin ?_;refine .n (fZ.eB (G:=fun g=>g) (hs1:=fun _=>_) (xs:=fun _=>_) (aF (i:=0) FU.out FU.out FC.out rfl FZ.out rfl FY.out (.t rfl) (.t rfl) rfl (by simp<;>omega) (by simp<;>omega))) rfl fun _ _=>?_;refine cc ?_;refine Post.aR rfl (()) (by trivial) (aB.dF [] [0,1] rfl rfl) (.ra (i:=1) FA.out FC.out rfl rfl rfl rfl) ?_;exact af.refl _
theorem Hp{x:aT}{n:Int}{s:kY}(az:ja x n=some s):cQ Tryz.prog 85 [aC (bf x),ag .i64 n] (aC (bS s)):=by
 refine In 34 Tryz.func85 fun _ _ _=>?_;refine .fact (t:=0) rfl (fun S w v h=>sk h) fun hlen=>?_;have hall:=hlen;obtain⟨⟨hl0,j7,kX,mG,mH,mI,mJ,mK⟩,⟨TY,hi1,hi2,SM,hi4⟩,PA⟩:=hlen;refine Z3 ?_;refine .n (au FZ.out) rfl fun b4 _=>?_;refine dN ?_;refine Cd (fun c0=>?_) fun c0=>?_
 ·
  obtain⟨y,hy1,hy2,TV,TW⟩:=zM az c0;refine Z1 ?_;refine .br 8 3 FM.out (by kernel_rfl) (k:= ?_);refine Z5 ?_;refine .p (cI n.toNat (h:=hy1) (hi:=TV)) ?_;refine Z3 ?_;refine .p (cI y.gX.toNat (h:=hy2) (hi:=TW)) rfl ?_;refine Z6 ?_;refine Post.aR rfl () trivial (fun _ _ _ _=>trivial) (.ra (i:=0) FA.out FC.out rfl rfl rfl rfl) ?_;exact .z
 obtain⟨y,hy1,hy2,TV,TW,hy5⟩:=Fg az c0;unfold cO at hy5;refine Z3 ?_;refine .br 12 3 FM.out (by kernel_rfl) (k:= ?_);refine Z9 ?_;refine .p (cI ((n-(x.aJ.length:Int)).toNat) (h:=hy1) (hi:=TV)) ?_;refine Z3 ?_;refine .p (cI y.gX.toNat (h:=hy2) (hi:=TW)) rfl ?_;refine Z5 ?_;refine Post.aR rfl () trivial (fun _ _ _ _=>trivial) (.ra (i:=0) FA.out FC.out rfl rfl rfl rfl) ?_;exact .z
theorem yf{x:aT}:cQ Tryz.prog 39 [aC (bf x)] (bE [jD,YT (fun n:Int=>n=0↔dM x) (ag .i64)]):=by
 refine In 393 Tryz.func39 fun _ _ _=>?_;refine .fact (t:=0) rfl (fun S w v h=>sk h) fun hlen=>?_;have hall:=hlen;obtain⟨⟨hl0,j7,kX,mG,mH,mI,mJ,mK⟩,⟨TY,hi1,hi2,SM,hi4⟩,PA⟩:=hlen;refine Z3 ?_;refine .p (bh (.s [] rfl rfl)) rfl ?_;refine Z24 ?_;refine Cd (fun c0=>?_) fun c0=>?_
 ·
  refine Z2 ?_;refine .p (bh (.s [115,105,103,115] rfl rfl)) rfl ?_;refine Z5 ?_;refine j4 ?_ ?_
  · exact af.any
  exact af.ex _ ⟨fun h=>absurd h (by decide),fun h=>by(exfalso;have hL:=cR h;have j7:=hL.sigs;have kX:=hL.imports;have mG:=hL.funcs;have mH:=hL.ei;have mI:=hL.globals;have mJ:=hL.aZ;have mK:=hL.elems;have nQ:=hL.bX;have yg:=hL.table;omega)⟩ (af.refl _)
 refine Z9 ?_;refine .aS (σ:=Nat) (fun _=>[]) (fun ka=>[(5,ag .i64 (ka:Int))]) (fun ka=>ka≤x.bQ.length∧cT (fun z:kY=>L6 z≠0) x.bQ ka) (fun ka=>x.bQ.length-ka) 0 ⟨by omega,cT.zero _ _⟩ rfl ?_ ?_
 · exact(.get rfl (af.refl _) (.refl _ _))
 rintro ka ⟨CD,R6⟩;refine cD ?_;refine Cd (fun c1=>?_) fun c1=>?_
 ·
  obtain⟨z,hz⟩:=ah (xs:=x.bQ) (k:=ka) (by omega);refine Z9 ?_;refine .p (cI _) rfl ?_;refine Z2 ?_;refine .p (cA (h:=zW)) rfl ?_;refine Z5 ?_;refine .g (bU.gF rfl rfl rfl rfl (fun hg=>aP FU.out FC.out rfl (.when (.t rfl) hg) (.when (.t rfl) hg) rfl (by assumption))) rfl rfl ?_;refine Z2 ?_;refine .g (bU.gF rfl rfl rfl rfl (fun hg=>bA (zW) FB.out (.cons (.when (.t rfl) hg) .nil))) rfl rfl ?_;refine Z4 ?_;refine Cd (fun c2=>?_) fun c2=>?_
  ·
   refine Z2 ?_;refine .p (bh (.s [115,105,103,115] rfl rfl)) rfl ?_;refine Z9 ?_;refine j4 ?_ ?_
   · exact af.any
   exact af.ex _ ⟨fun h=>absurd h (by decide),fun h=>by(exfalso;have hL:=cR h;have j7:=hL.sigs;have kX:=hL.imports;have mG:=hL.funcs;have mH:=hL.ei;have mI:=hL.globals;have mJ:=hL.aZ;have mK:=hL.elems;have nQ:=hL.bX;have yg:=hL.table;have h9:=U2 h (List.mem_of_getElem? hz);rcases c2 with c|c;exact c h9.1;exact c h9.2)⟩ (af.refl _)
  refine Z8 ?_;refine .round (ka+1) ⟨by omega,R6.succ hz (not_not_intro (RN (by simpa using c2)))⟩ (by omega) rfl ?_;exact(.get rfl (af.int (by omega)) (.keep 27 rfl rfl))
 have fa:BU x=0:=s4 (by omega) R6 (by omega);refine jb ?_;refine Cd (fun c3=>?_) fun c3=>?_
 ·
  refine Z2 ?_;refine .p (bh (.s [105,109,112,111,114,116,115] rfl rfl)) rfl ?_;refine Z5 ?_;refine j4 ?_ ?_
  · exact af.any
  exact af.ex _ ⟨fun h=>absurd h (by decide),fun h=>by(exfalso;have hL:=cR h;have j7:=hL.sigs;have kX:=hL.imports;have mG:=hL.funcs;have mH:=hL.ei;have mI:=hL.globals;have mJ:=hL.aZ;have mK:=hL.elems;have nQ:=hL.bX;have yg:=hL.table;omega)⟩ (af.refl _)
 refine Z9 ?_;refine .aS (σ:=Nat) (fun _=>[]) (fun kb=>[(6,ag .i64 (kb:Int))]) (fun kb=>kb≤x.aJ.length∧cT (fun z:gu=>gB x z≠0) x.aJ kb) (fun kb=>x.aJ.length-kb) 0 ⟨by omega,cT.zero _ _⟩ rfl ?_ ?_
 · exact(.get rfl (af.refl _) (.refl _ _))
 rintro kb ⟨Eh,hn4⟩;refine cD ?_;refine Cd (fun c4=>?_) fun c4=>?_
 ·
  obtain⟨z,hz⟩:=ah (xs:=x.aJ) (k:=kb) (by omega);refine cD ?_;refine .p (cI _) rfl ?_;refine Z2 ?_;refine .p (cA (h:=su)) rfl ?_;refine Z5 ?_;refine .g (bU.gF rfl rfl rfl rfl (fun hg=>aP FU.out FC.out rfl (.when (.t rfl) hg) (.when (.t rfl) hg) rfl (by assumption))) rfl rfl ?_;refine Z2 ?_;refine .g (bU.gF rfl rfl rfl rfl (fun hg=>bA (su) FB.out (.cons (.when (.t rfl) hg) .nil))) rfl rfl ?_;refine Z4 ?_;refine Cd (fun c5=>?_) fun c5=>?_
  ·
   refine Z2 ?_;refine .p (bh (.s [105,109,112,111,114,116,115] rfl rfl)) rfl ?_;refine cD ?_;refine j4 ?_ ?_
   · exact af.any
   exact af.ex _ ⟨fun h=>absurd h (by decide),fun h=>by(exfalso;have hL:=cR h;have j7:=hL.sigs;have kX:=hL.imports;have mG:=hL.funcs;have mH:=hL.ei;have mI:=hL.globals;have mJ:=hL.aZ;have mK:=hL.elems;have nQ:=hL.bX;have yg:=hL.table;have h9:=PD h (List.mem_of_getElem? hz);rcases c5 with c|c;exact c h9.1;exact c h9.2.1)⟩ (af.refl _)
  refine Z3 ?_;refine .br 9 2 FM.out (by kernel_rfl) (k:= ?_);refine Z3 ?_;refine .p (cI _) ?_;refine Z6 ?_;refine .p (cA (h:=mz)) rfl ?_;refine Z3 ?_;refine Cd (fun c6=>?_) fun c6=>?_
  ·
   refine Z2 ?_;refine .p (bh (.s [105,109,112,111,114,116,115] rfl rfl)) rfl ?_;refine Z9 ?_;refine j4 ?_ ?_
   · exact af.any
   exact af.ex _ ⟨fun h=>absurd h (by decide),fun h=>by(exfalso;have hL:=cR h;have j7:=hL.sigs;have kX:=hL.imports;have mG:=hL.funcs;have mH:=hL.ei;have mI:=hL.globals;have mJ:=hL.aZ;have mK:=hL.elems;have nQ:=hL.bX;have yg:=hL.table;have h9:=PD h (List.mem_of_getElem? hz);exact c6 (by simpa using h9.2.2))⟩ (af.refl _)
  refine Z8 ?_;refine .round (kb+1) ⟨by omega,hn4.succ hz (not_not_intro (Ij (by simpa using c5) (by simpa using c6)))⟩ (by omega) rfl ?_;exact(.get rfl (af.int (by omega)) (.keep 38 rfl rfl))
 have fb0:=hn4.KI (by omega);have fb:pM x=0:=s4 (by omega) hn4 (by omega);refine dN ?_;refine Cd (fun c7=>?_) fun c7=>?_
 ·
  refine Z2 ?_;refine .p (bh (.s [102,117,110,99,115] rfl rfl)) rfl ?_;refine Z5 ?_;refine j4 ?_ ?_
  · exact af.any
  exact af.ex _ ⟨fun h=>absurd h (by decide),fun h=>by(exfalso;have hL:=cR h;have j7:=hL.sigs;have kX:=hL.imports;have mG:=hL.funcs;have mH:=hL.ei;have mI:=hL.globals;have mJ:=hL.aZ;have mK:=hL.elems;have nQ:=hL.bX;have yg:=hL.table;omega)⟩ (af.refl _)
 refine Z9 ?_;refine .aS (σ:=Nat) (fun _=>[]) (fun kc=>[(7,ag .i64 (kc:Int))]) (fun kc=>kc≤x.aA.length∧cT (fun z:cN=>rZ x z≠0) x.aA kc) (fun kc=>x.aA.length-kc) 0 ⟨by omega,cT.zero _ _⟩ rfl ?_ ?_
 · exact(.get rfl (af.refl _) (.refl _ _))
 rintro kc ⟨hk8,hn8⟩;refine cD ?_;refine Cd (fun c8=>?_) fun c8=>?_
 ·
  obtain⟨z,hz⟩:=ah (xs:=x.aA) (k:=kc) (by omega);refine Z5 ?_;refine .br 9 2 FM.out (by kernel_rfl) (k:= ?_);refine Z3 ?_;refine .p (cI _) ?_;refine Z6 ?_;refine .p (cA (h:=mz)) rfl ?_;refine Z3 ?_;refine Cd (fun c9=>?_) fun c9=>?_
  ·
   refine Z2 ?_;refine .p (bh (.s [102,117,110,99,115] rfl rfl)) rfl ?_;refine Z9 ?_;refine j4 ?_ ?_
   · exact af.any
   exact af.ex _ ⟨fun h=>absurd h (by decide),fun h=>by(exfalso;have hL:=cR h;have j7:=hL.sigs;have kX:=hL.imports;have mG:=hL.funcs;have mH:=hL.ei;have mI:=hL.globals;have mJ:=hL.aZ;have mK:=hL.elems;have nQ:=hL.bX;have yg:=hL.table;have h9:=R9 h (List.mem_of_getElem? hz);exact c9 (by simpa using h9))⟩ (af.refl _)
  refine Z8 ?_;refine .round (kc+1) ⟨by omega,hn8.succ hz (not_not_intro (Pg (by simpa using c9)))⟩ (by omega) rfl ?_;exact(.get rfl (af.int (by omega)) (.keep 20 rfl rfl))
 have fc0:=hn8.KI (by omega);have fc:lg x=0:=Ph (by omega) hn8 (by omega);refine jP ?_;refine Cd (fun nV=>?_) fun nV=>?_
 ·
  refine Z2 ?_;refine .p (bh (.s [116,97,98,108,101] rfl rfl)) rfl ?_;refine Z5 ?_;refine j4 ?_ ?_
  · exact af.any
  exact af.ex _ ⟨fun h=>absurd h (by decide),fun h=>by(exfalso;have hL:=cR h;have j7:=hL.sigs;have kX:=hL.imports;have mG:=hL.funcs;have mH:=hL.ei;have mI:=hL.globals;have mJ:=hL.aZ;have mK:=hL.elems;have nQ:=hL.bX;have yg:=hL.table;omega)⟩ (af.refl _)
 refine cD ?_;refine Cd (fun qI=>?_) fun qI=>?_
 ·
  refine Z2 ?_;refine .p (bh (.s [116,97,98,108,101] rfl rfl)) rfl ?_;refine Z5 ?_;refine j4 ?_ ?_
  · exact af.any
  exact af.ex _ ⟨fun h=>absurd h (by decide),fun h=>by(exfalso;have hL:=cR h;have j7:=hL.sigs;have kX:=hL.imports;have mG:=hL.funcs;have mH:=hL.ei;have mI:=hL.globals;have mJ:=hL.aZ;have mK:=hL.elems;have nQ:=hL.bX;have yg:=hL.table;omega)⟩ (af.refl _)
 have fd:nI x=0:=Me (by omega) (by omega);refine cc ?_;refine Cd (fun tg=>?_) fun tg=>?_
 ·
  refine Z2 ?_;refine .p (bh (.s [109,101,109,115] rfl rfl)) rfl ?_;refine Z5 ?_;refine j4 ?_ ?_
  · exact af.any
  exact af.ex _ ⟨fun h=>absurd h (by decide),fun h=>by(exfalso;have hL:=cR h;have j7:=hL.sigs;have kX:=hL.imports;have mG:=hL.funcs;have mH:=hL.ei;have mI:=hL.globals;have mJ:=hL.aZ;have mK:=hL.elems;have nQ:=hL.bX;have yg:=hL.table;omega)⟩ (af.refl _)
 refine Z9 ?_;refine .aS (σ:=Nat) (fun _=>[]) (fun kd=>[(8,ag .i64 (kd:Int))]) (fun kd=>kd≤x.bz.length∧cT (fun z:dR=>Pa z≠0) x.bz kd) (fun kd=>x.bz.length-kd) 0 ⟨by omega,cT.zero _ _⟩ rfl ?_ ?_
 · exact(.get rfl (af.refl _) (.refl _ _))
 rintro kd ⟨bF3,QH⟩;refine cD ?_;refine Cd (fun As=>?_) fun As=>?_
 ·
  obtain⟨z,hz⟩:=ah (xs:=x.bz) (k:=kd) (by omega);refine Z9 ?_;refine .p (cI _) rfl ?_;refine Z1 ?_;refine .n (au FZ.out) rfl fun b9 _=>?_;refine Z3 ?_;refine .share (t:=9) (i:=0) rfl rfl ?_;refine Z29 ?_;refine Cd (fun uC=>?_) fun uC=>?_
  ·
   refine Z2 ?_;refine .p (bh (.s [109,101,109,115] rfl rfl)) rfl ?_;refine Z9 ?_;refine j4 ?_ ?_
   · exact af.any
   exact af.ex _ ⟨fun h=>absurd h (by decide),fun h=>by(exfalso;have hL:=cR h;have j7:=hL.sigs;have kX:=hL.imports;have mG:=hL.funcs;have mH:=hL.ei;have mI:=hL.globals;have mJ:=hL.aZ;have mK:=hL.elems;have nQ:=hL.bX;have yg:=hL.table;have h9:=PE h (List.mem_of_getElem? hz);omega)⟩ (af.refl _)
  refine Z8 ?_;refine .round (kd+1) ⟨by omega,QH.succ hz (not_not_intro (RO (by omega)))⟩ (by omega) rfl ?_;exact(.get rfl (af.int (by omega)) (.keep 41 rfl rfl))
 have fe:BV x=0:=s4 (by omega) QH (by omega);refine jb ?_;refine Cd (fun ye=>?_) fun ye=>?_
 ·
  refine Z2 ?_;refine .p (bh (.s [103,108,111,98,97,108,115] rfl rfl)) rfl ?_;refine Z5 ?_;refine j4 ?_ ?_
  · exact af.any
  exact af.ex _ ⟨fun h=>absurd h (by decide),fun h=>by(exfalso;have hL:=cR h;have j7:=hL.sigs;have kX:=hL.imports;have mG:=hL.funcs;have mH:=hL.ei;have mI:=hL.globals;have mJ:=hL.aZ;have mK:=hL.elems;have nQ:=hL.bX;have yg:=hL.table;omega)⟩ (af.refl _)
 refine Z9 ?_;refine .aS (σ:=Nat) (fun _=>[]) (fun ke=>[(10,ag .i64 (ke:Int))]) (fun ke=>ke≤x.an.length∧cT (fun z:gy=>sZ z≠0) x.an ke) (fun ke=>x.an.length-ke) 0 ⟨by omega,cT.zero _ _⟩ rfl ?_ ?_
 · exact(.get rfl (af.refl _) (.refl _ _))
 rintro ke ⟨bF4,Yy⟩;refine cD ?_;refine Cd (fun xx=>?_) fun xx=>?_
 ·
  obtain⟨z,hz⟩:=ah (xs:=x.an) (k:=ke) (by omega);refine Z9 ?_;refine .p (cI _) rfl ?_;refine Z1 ?_;refine .n (au FZ.out) rfl fun V8 _=>?_;refine Z3 ?_;refine .share (t:=11) (i:=0) rfl rfl ?_;refine EX ?_;refine Cd (fun T6=>?_) fun T6=>?_
  ·
   refine Z2 ?_;refine .p (bh (.s [103,108,111,98,97,108,115] rfl rfl)) rfl ?_;refine Z9 ?_;refine j4 ?_ ?_
   · exact af.any
   exact af.ex _ ⟨fun h=>absurd h (by decide),fun h=>by(exfalso;have hL:=cR h;have j7:=hL.sigs;have kX:=hL.imports;have mG:=hL.funcs;have mH:=hL.ei;have mI:=hL.globals;have mJ:=hL.aZ;have mK:=hL.elems;have nQ:=hL.bX;have yg:=hL.table;have h9:=wY h (List.mem_of_getElem? hz);omega)⟩ (af.refl _)
  refine Z8 ?_;refine .round (ke+1) ⟨by omega,Yy.succ hz (not_not_intro (Ik (by omega)))⟩ (by omega) rfl ?_;exact(.get rfl (af.int (by omega)) (.keep 29 rfl rfl))
 have ff:pN x=0:=s4 (by omega) Yy (by omega);refine jb ?_;refine Cd (fun Qz=>?_) fun Qz=>?_
 ·
  refine Z2 ?_;refine .p (bh (.s [101,120,112,111,114,116,115] rfl rfl)) rfl ?_;refine Z5 ?_;refine j4 ?_ ?_
  · exact af.any
  exact af.ex _ ⟨fun h=>absurd h (by decide),fun h=>by(exfalso;have hL:=cR h;have j7:=hL.sigs;have kX:=hL.imports;have mG:=hL.funcs;have mH:=hL.ei;have mI:=hL.globals;have mJ:=hL.aZ;have mK:=hL.elems;have nQ:=hL.bX;have yg:=hL.table;omega)⟩ (af.refl _)
 refine Z9 ?_;refine .aS (σ:=Nat) (fun _=>[]) (fun kf=>[(12,ag .i64 (kf:Int))]) (fun kf=>kf≤x.bK.length∧∀j,j<kf→jV x j=0) (fun kf=>x.bK.length-kf) 0 ⟨by omega,fun j hj=>absurd hj (by omega)⟩ rfl ?_ ?_
 · exact(.get rfl (af.refl _) (.refl _ _))
 rintro kf ⟨bF5,Yz⟩;refine cD ?_;refine Cd (fun Wo=>?_) fun Wo=>?_
 ·
  obtain⟨z,hz⟩:=ah (xs:=x.bK) (k:=kf) (by omega);refine Z9 ?_;refine .p (cI _) rfl ?_;refine Z1 ?_;refine .n (au FZ.out) rfl fun VE _=>?_;refine Z3 ?_;refine .share (t:=13) (i:=0) rfl rfl ?_;refine Z5 ?_;refine .p (cA (h:=su)) rfl ?_;refine Z3 ?_;refine Cd (fun S8=>?_) fun S8=>?_
  ·
   refine Z2 ?_;refine .p (bh (.s [101,120,112,111,114,116,115] rfl rfl)) rfl ?_;refine cD ?_;refine j4 ?_ ?_
   · exact af.any
   exact af.ex _ ⟨fun h=>absurd h (by decide),fun h=>by(exfalso;have hL:=cR h;have j7:=hL.sigs;have kX:=hL.imports;have mG:=hL.funcs;have mH:=hL.ei;have mI:=hL.globals;have mJ:=hL.aZ;have mK:=hL.elems;have nQ:=hL.bX;have yg:=hL.table;exact S8 (wZ h hz).1)⟩ (af.refl _)
  refine Z9 ?_;refine .aS (σ:=Nat) (fun _=>[]) (fun kg=>[(14,ag .i64 (kg:Int))]) (fun kg=>kg≤kf∧cT (fun w:dH=>w.Name=z.Name) x.bK kg) (fun kg=>kf-kg) 0 ⟨by omega,cT.zero _ _⟩ rfl ?_ ?_
  · exact(.get rfl (af.refl _) (.refl _ _))
  rintro kg ⟨bF6,YA⟩;refine Z8 ?_;refine Cd (fun Yj=>?_) fun Yj=>?_
  ·
   obtain⟨w,hw⟩:=ah (xs:=x.bK) (k:=kg) (by omega);refine Z5 ?_;refine .br 8 1 FM.out (by kernel_rfl) (k:= ?_);refine Z3 ?_;refine .p (cI _) ?_;refine Z8 ?_;refine Cd (fun T7=>?_) fun T7=>?_
   ·
    refine Z2 ?_;refine .p (bh (.s [101,120,112,111,114,116,115] rfl rfl)) rfl ?_;refine jb ?_;refine j4 ?_ ?_
    · exact af.any
    exact af.ex _ ⟨fun h=>absurd h (by decide),fun h=>by(exfalso;have hL:=cR h;have j7:=hL.sigs;have kX:=hL.imports;have mG:=hL.funcs;have mH:=hL.ei;have mI:=hL.globals;have mJ:=hL.aZ;have mK:=hL.elems;have nQ:=hL.bX;have yg:=hL.table;exact(wZ h hz).2.1 kg w (by omega) hw T7)⟩ (af.refl _)
   refine Z8 ?_;refine .round (kg+1) ⟨by omega,YA.succ hw T7⟩ (by omega) rfl ?_;exact(.get rfl (af.int (by omega)) (.keep 16 rfl rfl))
  have as1:cT (fun w:dH=>w.Name=z.Name) x.bK kf:=fun j y hj=>YA j y (by omega);refine jb ?_;refine .g (bU.gT rfl rfl rfl rfl (fun hg=>bA (mz) FB.out (.cons (.when (.t rfl) hg) (.cons (.when (.t rfl) hg) .nil)))) rfl rfl ?_;refine YY ?_;refine .g (bU.hT rfl rfl rfl rfl (fun hg=>bA (mz) FB.out (.cons (.when (.t rfl) hg) (.cons (.when (.t rfl) hg) .nil)))) rfl rfl ?_;refine dN ?_;refine .g (bU.hT rfl rfl rfl rfl (fun hg=>bA (mz) FB.out (.cons (.when (.t rfl) hg) (.cons (.when (.t rfl) hg) .nil)))) rfl rfl ?_;refine cc ?_;refine Cd (fun c23=>?_) fun c23=>?_
  ·
   refine Z2 ?_;refine .p (bh (.s [101,120,112,111,114,116,115] rfl rfl)) rfl ?_;refine Z9 ?_;refine j4 ?_ ?_
   · exact af.any
   exact af.ex _ ⟨fun h=>absurd h (by decide),fun h=>by(exfalso;have hL:=cR h;have j7:=hL.sigs;have kX:=hL.imports;have mG:=hL.funcs;have mH:=hL.ei;have mI:=hL.globals;have mJ:=hL.aZ;have mK:=hL.elems;have nQ:=hL.bX;have yg:=hL.table;exact c23 (wZ h hz).2.2)⟩ (af.refl _)
  refine Z8 ?_;refine .round (kf+1) ⟨by omega,fun j hj=>by rcases Nat.lt_succ_iff_lt_or_eq.1 hj with h|h;exact Yz j h;exact h▸Il hz (by simpa using S8) as1 (by omega) (by omega) (or4 (Classical.not_not.1 c23))⟩ (by omega) rfl ?_;exact(.get rfl (af.int (by omega)) (.keep 78 rfl rfl))
 have fg:nK x=0:=Im (by omega) Yz (by omega);refine Z5 ?_;refine .cut (σ:=Unit) (fun _=>[]) (fun _=>[]) (fun _=>jN x=0) ?_ ?_
 ·
  refine Z7 ?_;refine Cd (fun c24=>?_) fun c24=>?_
  ·
   refine Z6 ?_;refine .p (cA (h:=mz)) rfl ?_;refine Z3 ?_;refine Cd (fun c25=>?_) fun c25=>?_
   ·
    refine Z2 ?_;refine .p (bh (.s [115,116,97,114,116] rfl rfl)) rfl ?_;refine Z6 ?_;refine j4 ?_ ?_
    · exact af.any
    exact af.ex _ ⟨fun h=>absurd h (by decide),fun h=>by(exfalso;have hL:=cR h;have j7:=hL.sigs;have kX:=hL.imports;have mG:=hL.funcs;have mH:=hL.ei;have mI:=hL.globals;have mJ:=hL.aZ;have mK:=hL.elems;have nQ:=hL.bX;have yg:=hL.table;exact c25 (by simpa[cO] using(F3 h (by omega)).1))⟩ (af.refl _)
   obtain⟨s,hs⟩:=wQ (m:=x) (f:=x.Start) (by simpa[cO] using c25) fb0 fc0;obtain⟨si,hsi⟩:=List.mem_iff_getElem?.1 (C9 hs);have hs0:=TY si s hsi;refine Z7 ?_;refine .p (cA (h:=(Hp hs))) rfl ?_;refine .n (au FZ.out) rfl fun b16 _=>?_;refine Z3 ?_;refine .share (t:=16) (i:=0) rfl rfl ?_;refine dN ?_;refine Cd (fun c26=>?_) fun c26=>?_
   ·
    refine Z2 ?_;refine .p (bh (.s [115,116,97,114,116] rfl rfl)) rfl ?_;refine Z5 ?_;refine j4 ?_ ?_
    · exact af.any
    exact af.ex _ ⟨fun h=>absurd h (by decide),fun h=>by(exfalso;have hL:=cR h;have j7:=hL.sigs;have kX:=hL.imports;have mG:=hL.funcs;have mH:=hL.ei;have mI:=hL.globals;have mJ:=hL.aZ;have mK:=hL.elems;have nQ:=hL.bX;have yg:=hL.table;have h9:=(F3 h (by omega)).2 s hs;omega)⟩ (af.refl _)
   refine Z1 ?_;refine .meet () (Mg hs (by omega)) rfl (.keep 22 rfl rfl)
  refine Z1 ?_;refine .meet () (Mf (by omega)) rfl (.keep 3 rfl rfl)
 intro _ fh;refine Z9 ?_;refine Cd (fun c27=>?_) fun c27=>?_
 ·
  refine Z2 ?_;refine .p (bh (.s [101,108,101,109,115] rfl rfl)) rfl ?_;refine Z5 ?_;refine j4 ?_ ?_
  · exact af.any
  exact af.ex _ ⟨fun h=>absurd h (by decide),fun h=>by(exfalso;have hL:=cR h;have j7:=hL.sigs;have kX:=hL.imports;have mG:=hL.funcs;have mH:=hL.ei;have mI:=hL.globals;have mJ:=hL.aZ;have mK:=hL.elems;have nQ:=hL.bX;have yg:=hL.table;omega)⟩ (af.refl _)
 refine Z9 ?_;refine .aS (σ:=Nat) (fun _=>[]) (fun kh=>[(17,ag .i64 (kh:Int))]) (fun kh=>kh≤x.bw.length∧cT (fun z:ez=>tI x z≠0) x.bw kh) (fun kh=>x.bw.length-kh) 0 ⟨by omega,cT.zero _ _⟩ rfl ?_ ?_
 · exact(.get rfl (af.refl _) (.refl _ _))
 rintro kh ⟨bF7,YB⟩;refine cD ?_;refine Cd (fun c28=>?_) fun c28=>?_
 ·
  obtain⟨z,hz⟩:=ah (xs:=x.bw) (k:=kh) (by omega);refine cD ?_;refine .p (cI _) rfl ?_;refine Z6 ?_;refine Cd (fun c29=>?_) fun c29=>?_
  ·
   refine Z2 ?_;refine .p (bh (.s [101,108,101,109,115] rfl rfl)) rfl ?_;refine cD ?_;refine j4 ?_ ?_
   · exact af.any
   exact af.ex _ ⟨fun h=>absurd h (by decide),fun h=>by(exfalso;have hL:=cR h;have j7:=hL.sigs;have kX:=hL.imports;have mG:=hL.funcs;have mH:=hL.ei;have mI:=hL.globals;have mJ:=hL.aZ;have mK:=hL.elems;have nQ:=hL.bX;have yg:=hL.table;have h9:=(vv h (List.mem_of_getElem? hz)).1;omega)⟩ (af.refl _)
  refine dN ?_;refine .g (bU.gF rfl rfl rfl rfl (fun hg=>aP FU.out FC.out rfl (.when (.t rfl) hg) (.when (.t rfl) hg) rfl (by assumption))) rfl rfl ?_;refine Z6 ?_;refine Cd (fun c30=>?_) fun c30=>?_
  ·
   refine Z2 ?_;refine .p (bh (.s [101,108,101,109,115] rfl rfl)) rfl ?_;refine cD ?_;refine j4 ?_ ?_
   · exact af.any
   exact af.ex _ ⟨fun h=>absurd h (by decide),fun h=>by(exfalso;have hL:=cR h;have j7:=hL.sigs;have kX:=hL.imports;have mG:=hL.funcs;have mH:=hL.ei;have mI:=hL.globals;have mJ:=hL.aZ;have mK:=hL.elems;have nQ:=hL.bX;have yg:=hL.table;have h9:=vv h (List.mem_of_getElem? hz);omega)⟩ (af.refl _)
  refine Z8 ?_;refine .aS (σ:=Nat) (fun _=>[]) (fun kj=>[(18,ag .i64 (kj:Int))]) (fun kj=>kj≤z.aA.length∧cT (fun w:Int=>¬gA w (cO x)) z.aA kj) (fun kj=>z.aA.length-kj) 0 ⟨by omega,cT.zero _ _⟩ rfl ?_ ?_
  · exact(.get rfl (af.refl _) (.refl _ _))
  rintro kj ⟨bF8,YC⟩;refine Z7 ?_;refine .p (cI _) rfl ?_;refine Z6 ?_;refine Cd (fun c31=>?_) fun c31=>?_
  ·
   obtain⟨w,hw⟩:=ah (xs:=z.aA) (k:=kj) (by omega);refine Z9 ?_;refine .p (cI _) rfl ?_;refine Z3 ?_;refine .p (cI _) rfl ?_;refine Z2 ?_;refine .p (cA (h:=mz)) rfl ?_;refine Z3 ?_;refine Cd (fun c32=>?_) fun c32=>?_
   ·
    refine Z2 ?_;refine .p (bh (.s [101,108,101,109,115] rfl rfl)) rfl ?_;refine jP ?_;refine j4 ?_ ?_
    · exact af.any
    exact af.ex _ ⟨fun h=>absurd h (by decide),fun h=>by(exfalso;have hL:=cR h;have j7:=hL.sigs;have kX:=hL.imports;have mG:=hL.funcs;have mH:=hL.ei;have mI:=hL.globals;have mJ:=hL.aZ;have mK:=hL.elems;have nQ:=hL.bX;have yg:=hL.table;have h9:=(vv h (List.mem_of_getElem? hz)).2.2.2 w (List.mem_of_getElem? hw);exact c32 (by simpa[cO] using h9))⟩ (af.refl _)
   refine Z8 ?_;refine .round (kj+1) ⟨by omega,YC.succ hw (by simpa[cO] using c32)⟩ (by omega) rfl ?_;exact(.get rfl (af.int (by omega)) (.keep 25 rfl rfl))
  refine cc ?_;refine .round (kh+1) ⟨by omega,YB.succ hz (not_not_intro (Pj (k:=kj) (by omega) (by omega) (by omega) YC (by omega)))⟩ (by omega) rfl ?_;exact(.get rfl (af.int (by omega)) (.keep 40 rfl rfl))
 have fi:wN x=0:=s4 (by omega) YB (by omega);refine jb ?_;refine Cd (fun c33=>?_) fun c33=>?_
 ·
  refine Z2 ?_;refine .p (bh (.s [100,97,116,97] rfl rfl)) rfl ?_;refine Z5 ?_;refine j4 ?_ ?_
  · exact af.any
  exact af.ex _ ⟨fun h=>absurd h (by decide),fun h=>by(exfalso;have hL:=cR h;have j7:=hL.sigs;have kX:=hL.imports;have mG:=hL.funcs;have mH:=hL.ei;have mI:=hL.globals;have mJ:=hL.aZ;have mK:=hL.elems;have nQ:=hL.bX;have yg:=hL.table;omega)⟩ (af.refl _)
 refine Z9 ?_;refine .aS (σ:=Nat) (fun _=>[]) (fun kl=>[(19,ag .i64 (kl:Int))]) (fun kl=>kl≤x.bl.length∧cT (fun z:fV=>tJ x z≠0) x.bl kl) (fun kl=>x.bl.length-kl) 0 ⟨by omega,cT.zero _ _⟩ rfl ?_ ?_
 · exact(.get rfl (af.refl _) (.refl _ _))
 rintro kl ⟨bF9,YD⟩;refine cD ?_;refine Cd (fun c34=>?_) fun c34=>?_
 ·
  obtain⟨z,hz⟩:=ah (xs:=x.bl) (k:=kl) (by omega);refine Z9 ?_;refine .p (cI _) rfl ?_;refine Z1 ?_;refine .n (au FZ.out) rfl fun b20 _=>?_;refine Z3 ?_;refine .share (t:=20) (i:=0) rfl rfl ?_;refine Z9 ?_;refine Cd (fun c35=>?_) fun c35=>?_
  ·
   refine Z2 ?_;refine .p (bh (.s [100,97,116,97] rfl rfl)) rfl ?_;refine cD ?_;refine j4 ?_ ?_
   · exact af.any
   exact af.ex _ ⟨fun h=>absurd h (by decide),fun h=>by(exfalso;have hL:=cR h;have j7:=hL.sigs;have kX:=hL.imports;have mG:=hL.funcs;have mH:=hL.ei;have mI:=hL.globals;have mJ:=hL.aZ;have mK:=hL.elems;have nQ:=hL.bX;have yg:=hL.table;have h9:=(yK h (List.mem_of_getElem? hz)).1;omega)⟩ (af.refl _)
  refine cD ?_;refine .p (cA (h:=mz)) rfl ?_;refine Z3 ?_;refine Cd (fun c36=>?_) fun c36=>?_
  ·
   refine Z2 ?_;refine .p (bh (.s [100,97,116,97] rfl rfl)) rfl ?_;refine cD ?_;refine j4 ?_ ?_
   · exact af.any
   exact af.ex _ ⟨fun h=>absurd h (by decide),fun h=>by(exfalso;have hL:=cR h;have j7:=hL.sigs;have kX:=hL.imports;have mG:=hL.funcs;have mH:=hL.ei;have mI:=hL.globals;have mJ:=hL.aZ;have mK:=hL.elems;have nQ:=hL.bX;have yg:=hL.table;have h9:=(yK h (List.mem_of_getElem? hz)).2.1;exact c36 (by simpa using h9))⟩ (af.refl _)
  obtain⟨TV,hy2⟩:=gA.at (n:=z.Mem) (k:=x.bz.length) (by simpa using c36);obtain⟨y,hy1⟩:=ah (xs:=x.bz) (k:=z.Mem.toNat) TV;refine Z8 ?_;refine .p (cI z.Mem.toNat (h:=hy1) (hi:=hy2)) rfl ?_;refine cD ?_;refine Cd (fun c37=>?_) fun c37=>?_
  ·
   refine Z2 ?_;refine .p (bh (.s [100,97,116,97] rfl rfl)) rfl ?_;refine Z9 ?_;refine j4 ?_ ?_
   · exact af.any
   exact af.ex _ ⟨fun h=>absurd h (by decide),fun h=>by(exfalso;have hL:=cR h;have j7:=hL.sigs;have kX:=hL.imports;have mG:=hL.funcs;have mH:=hL.ei;have mI:=hL.globals;have mJ:=hL.aZ;have mK:=hL.elems;have nQ:=hL.bX;have yg:=hL.table;have h9:=(yK h (List.mem_of_getElem? hz)).2.2 y hy1;exact h9 c37)⟩ (af.refl _)
  refine Z8 ?_;refine .round (kl+1) ⟨by omega,YD.succ hz (not_not_intro (Pk (by omega) (by simpa using c36) hy1 (by simpa using c37)))⟩ (by omega) rfl ?_;exact(.get rfl (af.int (by omega)) (.keep 40 rfl rfl))
 have fj:wO x=0:=s4 (by omega) YD (by omega);refine Z7 ?_;refine .p (bh (.s [] rfl rfl)) rfl ?_;refine Z4 ?_;refine j4 ?_ ?_
 · exact af.any
 exact af.ex _ ⟨fun _=>⟨fa,fb,fc,fd,fe,ff,fg,fh,fi,fj⟩,fun _=>rfl⟩ (af.refl _)
variable {n:Nat}
theorem Hq{l:List ay}{a d:Nat}(az:l.length-a<n)(hp1:a≤l.length)(hp2:d≤64)(fI:l.length≤10000):cv Tryz.prog 133 [ai 5 aK (l),ag .i64 ((a:Int)),ag .i64 ((d:Int))] [] (γ:=Int×SB×List rD×Int) (fun g=>Ya l a d g.1 g.2.2.1 g.2.2.2) (fun g=>[av g.2.1 3 gV g.2.2.1]) (fun g=>bE [ag .i64 g.1,aa (bt g.2.1 g.2.2.1.length),ag .i64 g.2.2.2]):=by
 induction n generalizing a d
 case zero=>omega
 rename_i n ih
 refine In 128 Tryz.func133 fun _ _ _=>?_;refine dN ?_;refine .eC 3 gV ?_;refine Z2 ?_;refine .aS (σ:=Nat×SB×List rD) (fun g=>[av g.2.1 3 gV g.2.2]) (fun g=>[(1,ag .i64 (g.1:Int)),(9,aa (bt g.2.1 g.2.2.length))]) (fun g=>a≤g.1∧g.1≤l.length∧g.2.2.length+a≤g.1∧rc ((cu l).drop a) d=rc ((cu l).drop g.1) d) (fun g=>l.length-g.1) (a,none,[]) ⟨Nat.le_refl _,hp1,by simp,rfl⟩ rfl ?_ ?_
 · exact(.get rfl (af.refl _) (.get rfl (af.of_eq rfl) (.refl _ _)))
 rintro⟨i,gs,out⟩ ⟨hai,p7,yA,hrc⟩;simp only at hai p7 yA hrc ⊢;refine Z9 ?_;refine Cd (fun c0=>?_) fun c0=>?_
 ·
  obtain⟨x,hx⟩:=ah (xs:=l) (k:=i) (by omega);refine Z7 ?_;refine .p (cI i (h:=hx)) rfl ?_;refine AY ?_;refine Cd (fun c1=>?_) fun c1=>?_
  ·
   refine kR ?_;refine Post.bk rfl rfl (((i:Int),gs,out,0)) (by exact .inl ⟨rfl,i,rfl,by rw[hrc,fJ hx,Vp c1],by omega,p7,by omega⟩) (fun _ _ _ h=>h) rfl (.cons (.rt rfl) ?_ (.cons (.rt rfl) ?_ (.cons (.rt rfl) ?_ .nil)))
   · exact af.refl _
   · exact af.refl _
   exact af.refl _
  refine jP ?_;refine Cd (fun c2=>?_) fun c2=>?_
  ·
   refine cD ?_;refine .round (i+1,gs,out) ⟨by show a≤i+1;omega,by show i+1≤_;omega,by show out.length+a≤i+1;omega,by(show _=rc ((cu l).drop (i+1)) d;rw[hrc,fJ hx,Qr c1 (by unfold aQ;omega)])⟩ (by show l.length-(i+1)<l.length-i;omega) rfl ?_;exact(.get rfl (af.int (by show(_:Int)=((i+1:Nat):Int);omega)) (.get rfl (af.refl _) ((.keep 27 rfl rfl))))
  have ho:aQ x.Code:=by unfold aQ;omega
  refine Z9 ?_;refine Cd (fun c3=>?_) fun c3=>?_
  ·
   refine jb ?_;refine Post.bk rfl rfl (((i:Int),none,[],15)) (by exact .inr ⟨by show(15:Int)≠0;decide,by rw[hrc,fJ hx];exact SX ho (by omega),rfl⟩) (aB.trans (aB.nil _) aB.none) rfl (.cons (.rt rfl) ?_ (.cons (.rt rfl) ?_ (.cons (.rt rfl) ?_ .nil)))
   · exact af.refl _
   · exact af.refl _
   exact af.refl _
  have hd:¬64≤d:=by omega
  refine Z6 ?_;refine .n (au FZ.out) rfl fun V8 _=>?_;refine cD ?_;refine .n (cG (rest:=[_,_]) (@ih (i+1) (d+1) (by omega) (by omega) (by omega)) FB.out (.cons (.t rfl) (.cons (.le (.t rfl) (af.int (show(i:Int)+1=((i+1:Nat):Int) by omega))) (.cons (.le (.t rfl) (af.int (show(d:Int)+1=((d+1:Nat):Int) by omega))) .nil))) (Perm.idx [0,1] rfl rfl)) rfl fun G5 T9=>?_;refine Z9 ?_;refine .cut (σ:=Int×SB×List rD×Int×Int) (fun z=>[av z.2.1 3 gV z.2.2.1,ax V8 [ag .i64 (i:Int),ag .i64 z.2.2.2.2,ag .i64 (-1)],av gs 3 gV out]) (fun z=>[(12,ag .i64 z.1),(13,aa (bt z.2.1 z.2.2.1.length)),(14,ag .i64 z.2.2.2.1)]) (fun z=>rcM l i d z.1 z.2.2.1 z.2.2.2.1) ?_ ?_
  ·
   refine jP ?_;refine .g (bU.gT rfl rfl rfl rfl (fun hg=>aP (j:=G5.1.toNat) FU.out FC.out rfl (.when (.t rfl) hg) (.when (.t rfl) hg) (by(rcases T9 with⟨_,k,h2,_⟩|⟨h1,_⟩;omega;exact absurd hg.1 h1)) (vQ (by omega)))) rfl rfl ?_;refine Z6 ?_;refine Cd (fun c4=>?_) fun c4=>?_
   ·
    refine Z7 ?_;refine Cd (fun c5=>?_) fun c5=>?_
    ·
     refine kR ?_;refine Post.bk rfl rfl ((G5.1,none,[],4)) (by exact .inr ⟨by show(4:Int)≠0;decide,by(rw[hrc];rcases T9 with⟨_,k,h2,h3,_,h5,_⟩|⟨h1,_⟩;(have hk:G5.1.toNat=k:=by omega);have hc:=c4.2;(rw[hk] at hc);exact J7 hx ho hd h3 (vQ (by omega)) hc c5;exact absurd c4.1.1 h1),rfl⟩) (aB.trans (aB.nil _) aB.none) rfl (.cons (.rt rfl) ?_ (.cons (.rt rfl) ?_ (.cons (.rt rfl) ?_ .nil)))
     · exact af.refl _
     · exact af.refl _
     exact af.refl _
    have h4:x.Code=4:=by omega
    have bG0:0≤G5.1∧i+1≤G5.1.toNat∧G5.1.toNat<l.length:=by(have h8:=c4.1.2;rcases T9 with⟨_,k,h2,_,h3,_⟩|⟨h1,_⟩;omega;exact absurd c4.1.1 h1)
    refine UD ?_;refine .n (cG (rest:=[_,_,_]) (@ih (G5.1.toNat+1) (d+1) (by omega) (by omega) (by omega)) FB.out (.cons (.t rfl) (.cons (.le (.t rfl) (af.int (show G5.1+1=((G5.1.toNat+1:Nat):Int) by omega))) (.cons (.le (.t rfl) (af.int (show(d:Int)+1=((d+1:Nat):Int) by omega))) .nil))) (Perm.idx [0,1,2] rfl rfl)) rfl fun VH YE=>?_;refine cD ?_;refine .eB (t:=15) (i:=0) (g:=VH.2.1) (xs:=VH.2.2.1) rfl rfl ?_;refine Z3 ?_;refine .n (aF (i:=0) FU.out FU.out FC.out rfl FZ.out rfl FY.out (.t rfl) (.t rfl) rfl (by have:=yT T9;have:=yT YE;omega) (by have:=yT T9;have:=yT YE;omega)) rfl fun g89 _=>?_;refine AY ?_;refine .g (bU.gT rfl rfl rfl rfl (fun hg=>aP (j:=VH.1.toNat) FU.out FC.out rfl (.when (.t rfl) hg) (.when (.t rfl) hg) (by(rcases YE with⟨_,k,h2,_⟩|⟨h1,_⟩;omega;exact absurd hg.1 h1)) (vQ (by omega)))) rfl rfl ?_;refine Z6 ?_;refine Cd (fun c6=>?_) fun c6=>?_
    ·
     refine jb ?_;refine Post.bk rfl rfl ((VH.1,none,[],4)) (by exact .inr ⟨by show(4:Int)≠0;decide,by rw[hrc];exact(Le hx ho hd hp2 T9 fI c4 h4 YE).1 c6,rfl⟩) (aB.trans (aB.nil _) aB.none) rfl (.cons (.rt rfl) ?_ (.cons (.rt rfl) ?_ (.cons (.rt rfl) ?_ .nil)))
     · exact af.refl _
     · exact af.refl _
     exact af.refl _
    refine Z1 ?_;refine .meet (VH.1,g89,G5.2.2.1++VH.2.2.1,VH.2.2.2,G5.1) ((Le hx ho hd hp2 T9 fI c4 h4 YE).2 c6) rfl (.get rfl (af.refl _) (.get rfl (af.refl _) (.get rfl (af.refl _) (.keep 55 rfl rfl))))
   refine Z1 ?_;refine .meet (G5.1,G5.2.1,G5.2.2.1,G5.2.2.2,-1) (S1 hx ho hd T9 fI c4) rfl (.get rfl (af.refl _) (.get rfl (af.refl _) (.get rfl (af.refl _) (.keep 16 rfl rfl))))
  intro ⟨en,gi,inn,e,el⟩ hM;simp only at hM ⊢;refine Z7 ?_;refine Cd (fun c7=>?_) fun c7=>?_
  ·
   refine kR ?_;refine Post.bk rfl rfl ((en,none,[],e)) (by exact .inr ⟨c7,by(rw[hrc];rcases hM with⟨_,h,_⟩|⟨h1,_⟩|⟨h1,_⟩;exact h;exact absurd h1 c7;exact absurd h1 c7),rfl⟩) (aB.trans (aB.nil _) aB.none) rfl (.cons (.rt rfl) ?_ (.cons (.rt rfl) ?_ (.cons (.rt rfl) ?_ .nil)))
   · exact af.refl _
   · exact af.refl _
   exact af.refl _
  refine cc ?_;refine Cd (fun c8=>?_) fun c8=>?_
  ·
   refine jb ?_;refine Post.bk rfl rfl ((en,none,[],4)) (by exact .inr ⟨by show(4:Int)≠0;decide,by(rw[hrc];rcases hM with⟨h1,h,_⟩|⟨_,_,h,_⟩|⟨_,k,h1,h2,_⟩;exact h;exact h;exact absurd c8 (by omega)),rfl⟩) (aB.trans (aB.nil _) aB.none) rfl (.cons (.rt rfl) ?_ (.cons (.rt rfl) ?_ (.cons (.rt rfl) ?_ .nil)))
   · exact af.refl _
   · exact af.refl _
   exact af.refl _
  obtain⟨N1,k,CD,hk2,Iy,Eh,RU⟩:e=0∧∃k:Nat,en=(k:Int)∧k<l.length∧rc ((cu l).drop i) d=rc ((cu l).drop (k+1)) d∧i+1≤k∧inn.length+i+1≤k:=by(rcases hM with⟨h1,_⟩|⟨_,h1,_⟩|h1;exact absurd h1 c7;exact absurd h1 c8;exact h1)
  refine cD ?_;refine .eB (t:=13) (i:=0) (g:=gi) (xs:=inn) rfl rfl ?_;refine Z3 ?_;refine .p (cB gV [((i:Int),el,en)]) rfl ?_;refine .n (aF (i:=1) FU.out FU.out FC.out rfl FZ.out rfl FY.out (.t rfl) (.t rfl) rfl (by simp only[List.length_cons,List.length_nil];omega) (by simp only[List.length_cons,List.length_nil];omega)) rfl fun bG1 _=>?_;refine Z1 ?_;refine .n (aF (i:=1) FU.out FU.out FC.out rfl FZ.out rfl FY.out (.t rfl) (.t rfl) rfl (by simp only[List.length_append,List.length_cons,List.length_nil];omega) (by simp only[List.length_append,List.length_cons,List.length_nil];omega)) rfl fun as2 _=>?_;refine Z9 ?_;refine .own (aB.dF [1] [0] rfl rfl) (bN.round (k+1,as2,(out++[((i:Int),el,en)])++inn) ⟨by show a≤k+1;omega,by show k+1≤_;omega,by(show((out++[_])++inn).length+a≤k+1;simp only[List.length_append,List.length_cons,List.length_nil];omega),by(show _=rc ((cu l).drop (k+1)) d;rw[hrc,Iy])⟩ (by show l.length-(k+1)<l.length-i;omega) rfl ?_);exact(.get rfl (af.int (by show(_:Int)=((k+1:Nat):Int);omega)) (.get rfl (af.refl _) ((.keep 64 rfl rfl))))
 refine kR ?_;refine Post.bk rfl rfl (((i:Int),gs,out,0)) (by exact .inl ⟨rfl,i,rfl,by(rw[hrc,nu (by omega)];rfl),by omega,p7,by omega⟩) (fun _ _ _ h=>h) rfl (.cons (.rt rfl) ?_ (.cons (.rt rfl) ?_ (.cons (.rt rfl) ?_ .nil)))
 · exact af.refl _
 · exact af.refl _
 exact af.refl _
theorem Hr{l:List ay}(az:l.length≤10000):cv Tryz.prog 111 [ai 5 aK (l)] [] (γ:=Int) (fun e=>e=0↔fB (cu l) []) (fun _=>[]) (fun e=>bE [jD,jD,ag .i64 e]):=by
 refine In 39 Tryz.func111 fun _ _ _=>?_;refine cD ?_;refine .n (cE (h:=Hq (n:=l.length+1) (a:=0) (d:=0) (by omega) (Nat.zero_le _) (by omega) az)) rfl fun g10 h10=>?_;refine AY ?_;refine Cd (fun c0=>?_) fun c0=>?_
 ·
  have hno:¬fB (cu l) []:=fun h=>by(rw[yU] at h;rcases h10 with⟨h1,_⟩|⟨_,h2,_⟩;exact c0 h1;rw[List.drop_zero] at h2;rw[h2] at h;cases h)
  refine cc ?_;refine Post.bk rfl rfl (g10.2.2.2) (by exact⟨fun h=>absurd h c0,fun h=>absurd h hno⟩) (fun _ _ _ _=>trivial) rfl (.cons (.rt rfl) ?_ (.cons (.rt rfl) ?_ (.cons (.rt rfl) ?_ .nil)))
  · exact af.any
  · exact af.any
  exact af.refl _
 obtain⟨h1,k,CD,hk2,_,Iy,_⟩:g10.2.2.2=0∧∃n:Nat,g10.1=(n:Int)∧rc ((cu l).drop 0) 0=some ((cu l).drop n)∧0≤n∧n≤l.length∧g10.2.2.1.length+0≤n:=by(rcases h10 with h|⟨h1,_⟩;exact h;exact absurd (Classical.not_not.1 c0) h1)
 rw[List.drop_zero] at hk2;have hkk:g10.1.toNat=k:=by omega
 refine dN ?_;refine .g (bU.gF rfl rfl rfl rfl (fun hg=>aP (j:=g10.1.toNat) FU.out FC.out rfl (.when (.t rfl) hg) (.when (.t rfl) hg) (by(rcases h10 with⟨_,k,h2,_⟩|⟨h1,_⟩;omega;exact absurd (Classical.not_not.1 c0) h1)) (vQ (by(rcases h10 with⟨_,k,h2,_,_,h5,_⟩|⟨h1,_⟩;omega;exact absurd (Classical.not_not.1 c0) h1))))) rfl rfl ?_;refine Z6 ?_;refine Cd (fun c1=>?_) fun c1=>?_
 ·
  refine cD ?_;refine Post.bk rfl rfl (4) (by exact⟨fun h=>by simp at h,fun h=>by(rw[yU,hk2] at h;rcases c1 with c1|c1;(rw[nu (by omega)] at h;cases h);(by_cases hlt:k<l.length;(rw[fJ (vQ hlt)] at h;rw[hkk] at c1;rw[c1] at h;simp at h);(rw[nu (by omega)] at h;cases h)))⟩) (fun _ _ _ _=>trivial) rfl (.cons (.rt rfl) ?_ (.cons (.rt rfl) ?_ (.cons (.rt rfl) ?_ .nil)))
  · exact af.any
  · exact af.any
  exact af.refl _
 have hlt:k<l.length:=by(have:¬g10.1=(l.length:Int):=fun h=>c1 (.inl h);omega)
 have hy:l[k]?=some (gI l k):=vQ hlt;have hn5:¬(gI l k).Code=5:=fun h=>c1 (.inr (by rw[hkk];exact h));rw[fJ hy] at hk2;have h11:=(SY (by omega) hk2).resolve_right hn5;refine dN ?_;refine Cd (fun c2=>?_) fun c2=>?_
 ·
  refine cc ?_;refine Post.bk rfl rfl (4) (by exact⟨fun h=>by simp at h,fun h=>by(rw[yU,hk2] at h;simp only[Option.some.injEq,List.cons.injEq] at h;have h9:=congrArg List.length h.2;rw[List.length_drop,Cs] at h9;simp at h9;omega)⟩) (fun _ _ _ _=>trivial) rfl (.cons (.rt rfl) ?_ (.cons (.rt rfl) ?_ (.cons (.rt rfl) ?_ .nil)))
  · exact af.any
  · exact af.any
  exact af.refl _
 refine cc ?_;refine Post.bk rfl rfl (0) (by exact⟨fun _=>by(rw[yU,hk2,h11,nu (by omega)]),fun _=>rfl⟩) (fun _ _ _ _=>trivial) rfl (.cons (.rt rfl) ?_ (.cons (.rt rfl) ?_ (.cons (.rt rfl) ?_ .nil)))
 · exact af.any
 · exact af.any
 exact af.refl _
theorem fR(az:n<18446744073709551616):cv Tryz.prog 112 [ag .u64 ((n:Int))] [] (γ:=List UInt8) (fun z=>z.length=fO n) (fun _=>[]) (fun z=>ai 1 aj z):=by
 refine In 20 Tryz.func112 fun _ _ _=>?_;have Ng:=dI az;refine cD ?_;refine .eC 1 aj ?_;refine Z2 ?_;refine .aS (σ:=SB×List UInt8×Nat) (fun z=>[av z.1 1 aj z.2.1]) (fun z=>[(3,aa (bt z.1 z.2.1.length)),(0,ag .u64 (z.2.2:Int))]) (fun z=>z.2.1.length+fO z.2.2=fO n∧z.2.2≤n) (fun z=>z.2.2) (none,[],n) ⟨by simp,Nat.le_refl _⟩ rfl ?_ ?_
 · exact(.get rfl (af.of_eq rfl) (.get rfl (af.refl _) (.refl _ _)))
 rintro⟨g1,ys,j⟩ ⟨hl,hk⟩;simp only at hl hk ⊢;refine Z7 ?_;refine Cd (fun c0=>?_) fun c0=>?_
 ·
  refine Z7 ?_;refine .p (BC (b:=128) (by decide) (.t rfl) (.c _)) rfl ?_;refine .p ((fk FU.out FU.out (.t rfl)).le (af.int (show _=((j%128:Nat):Int) by rw[oM];omega))) rfl ?_;refine .p ((eU (.t rfl) (.c _) ee).le (af.trans (af.int (show _=((j%128+128:Nat):Int) by omega)) (oN (by omega)))) rfl ?_;refine .p (cB aj [(UInt8.ofNat (j%128+128))]) rfl ?_;refine .n (aF (i:=0) FU.out FU.out FC.out rfl FZ.out rfl FY.out (.t rfl) (.t rfl) rfl (by simp only[List.length_cons,List.length_nil];omega) (by simp only[List.length_cons,List.length_nil];omega)) rfl fun g12 _=>?_;refine Z5 ?_;refine .p (BD (b:=128) (by omega) (.t rfl) (.c _)) rfl ?_;refine Z3 ?_;refine .round (g12,ys++[(UInt8.ofNat (j%128+128))],j/128) ⟨by(show(ys++[_]).length+fO (j/128)=_;rw[List.length_append];simp only[List.length_cons,List.length_nil];have:=yL (n:=j) (by omega);omega),by show j/128≤n;omega⟩ (by show j/128<j;omega) rfl ?_;exact(.get rfl (af.refl _) (.get rfl (af.refl _) ((.keep 15 rfl rfl))))
 refine Z9 ?_;refine .p ((fk FU.out FU.out (.t rfl)).le (af.trans (af.int (show _=((j:Nat):Int) by rw[oM];omega)) (oN (by omega)))) rfl ?_;refine .p (cB aj [UInt8.ofNat j]) rfl ?_;refine .n (fZ.eB (G:=fun g=>g) (hs1:=fun _=>_) (xs:=fun _=>_) (aF (i:=0) FU.out FU.out FC.out rfl FZ.out rfl FY.out (.t rfl) (.t rfl) rfl (by simp only[List.length_cons,List.length_nil];omega) (by simp only[List.length_cons,List.length_nil];omega))) rfl fun _ _=>?_;refine Z4 ?_;refine Post.aR rfl (ys++[UInt8.ofNat j]) (by exact(by(show(ys++[_]).length=_;rw[List.length_append];simp only[List.length_cons,List.length_nil];have:=vD (n:=j) (by omega);omega))) (fun _ _ _ h=>h) (.rt rfl) ?_;exact af.refl _
theorem Ke(az:n<18446744073709551616):cv Tryz.prog 112 [ag .u64 ((n:Int))] [] (γ:=SB×List UInt8) (fun z=>z.2.length=fO n) (fun z=>[av z.1 1 aj z.2]) (fun z=>aa (bt z.1 z.2.length)):=by
 refine In 20 Tryz.func112 fun _ _ _=>?_;have Ng:=dI az;refine cD ?_;refine .eC 1 aj ?_;refine Z2 ?_;refine .aS (σ:=SB×List UInt8×Nat) (fun z=>[av z.1 1 aj z.2.1]) (fun z=>[(3,aa (bt z.1 z.2.1.length)),(0,ag .u64 (z.2.2:Int))]) (fun z=>z.2.1.length+fO z.2.2=fO n∧z.2.2≤n) (fun z=>z.2.2) (none,[],n) ⟨by simp,Nat.le_refl _⟩ rfl ?_ ?_
 · exact(.get rfl (af.of_eq rfl) (.get rfl (af.refl _) (.refl _ _)))
 rintro⟨g1,ys,j⟩ ⟨hl,hk⟩;simp only at hl hk ⊢;refine Z7 ?_;refine Cd (fun c0=>?_) fun c0=>?_
 ·
  refine Z7 ?_;refine .p (BC (b:=128) (by decide) (.t rfl) (.c _)) rfl ?_;refine .p ((fk FU.out FU.out (.t rfl)).le (af.int (show _=((j%128:Nat):Int) by rw[oM];omega))) rfl ?_;refine .p ((eU (.t rfl) (.c _) ee).le (af.trans (af.int (show _=((j%128+128:Nat):Int) by omega)) (oN (by omega)))) rfl ?_;refine .p (cB aj [(UInt8.ofNat (j%128+128))]) rfl ?_;refine .n (aF (i:=0) FU.out FU.out FC.out rfl FZ.out rfl FY.out (.t rfl) (.t rfl) rfl (by simp only[List.length_cons,List.length_nil];omega) (by simp only[List.length_cons,List.length_nil];omega)) rfl fun g12 _=>?_;refine Z5 ?_;refine .p (BD (b:=128) (by omega) (.t rfl) (.c _)) rfl ?_;refine Z3 ?_;refine .round (g12,ys++[(UInt8.ofNat (j%128+128))],j/128) ⟨by(show(ys++[_]).length+fO (j/128)=_;rw[List.length_append];simp only[List.length_cons,List.length_nil];have:=yL (n:=j) (by omega);omega),by show j/128≤n;omega⟩ (by show j/128<j;omega) rfl ?_;exact(.get rfl (af.refl _) (.get rfl (af.refl _) ((.keep 15 rfl rfl))))
 refine Z9 ?_;refine .p ((fk FU.out FU.out (.t rfl)).le (af.trans (af.int (show _=((j:Nat):Int) by rw[oM];omega)) (oN (by omega)))) rfl ?_;refine .p (cB aj [UInt8.ofNat j]) rfl ?_;refine .n (aF (i:=0) FU.out FU.out FC.out rfl FZ.out rfl FY.out (.t rfl) (.t rfl) rfl (by simp only[List.length_cons,List.length_nil];omega) (by simp only[List.length_cons,List.length_nil];omega)) rfl fun g19 _=>?_;refine Z4 ?_;refine Post.aR rfl ((g19,ys++[UInt8.ofNat j])) (by exact(by(show(ys++[_]).length=_;rw[List.length_append];simp only[List.length_cons,List.length_nil];have:=vD (n:=j) (by omega);omega))) (fun _ _ _ h=>h) (.rt rfl) ?_;exact af.refl _
theorem Kf{n:Int}(az: -9223372036854775808≤n)(hp1:n≤9223372036854775807):cv Tryz.prog 134 [ag .i64 (n)] [] (γ:=List UInt8) (fun z=>z.length=lC n) (fun _=>[]) (fun z=>ai 1 aj z):=by
 refine In 50 Tryz.func134 fun _ _ _=>?_;have Ng:=yM az (by omega:n<9223372036854775808);refine cD ?_;refine .eC 1 aj ?_;refine Z7 ?_;refine .aS (σ:=SB×List UInt8×Nat×Int) (fun z=>[av z.1 1 aj z.2.1]) (fun z=>[(0,ag .i64 z.2.2.2),(3,aa (bt z.1 z.2.1.length)),(4,ag .i64 (z.2.2.1:Int))]) (fun z=>z.2.1.length=z.2.2.1∧z.2.2.1+lC z.2.2.2=lC n∧ -9223372036854775808≤z.2.2.2∧z.2.2.2≤9223372036854775807) (fun z=>10-z.2.2.1) (none,[],0,n) ⟨rfl,by simp,az,hp1⟩ rfl ?_ ?_
 · exact(.get rfl (af.refl _) (.get rfl (af.of_eq rfl) (.get rfl (af.refl _) (.refl _ _))))
 rintro⟨g1,ys,j,v⟩ ⟨hl,hk,hv1,hv2⟩;simp only at hl hk hv1 hv2 ⊢;have hpos:=Gd v;refine Z7 ?_;refine Cd (fun c0=>?_) fun c0=>?_
 ·
  refine Z7 ?_;refine .p (Uw (.t rfl) (.c _) (by decide)) rfl ?_;refine Z3 ?_;refine .cut (σ:=Unit) (fun _=>[av g1 1 aj ys]) (fun _=>[(5,ag .i64 (v%128))]) (fun _=>True) ?_ ?_
  ·
   refine Z6 ?_;refine Cd (fun c1=>?_) fun c1=>?_
   ·
    refine Z2 ?_;refine .p (eU (.t rfl) (.c _) (cn (by rw[yW];split<;>omega) (by rw[yW];split<;>omega))) rfl ?_;refine Z2 ?_;refine .meet () trivial rfl (.get rfl (af.int (by have h9:=yW v;split at h9<;>omega)) (.keep 5 rfl rfl))
   refine Z1 ?_;refine .meet () trivial rfl (.get rfl (af.int (by have h9:=yW v;split at h9<;>omega)) (.keep 2 rfl rfl))
  intro _ _;refine Z4 ?_;refine .p (N7 (.t rfl) (.t rfl)) rfl ?_;refine .p (Uv (.t rfl) (.c _) (by decide)) rfl ?_;refine Z3 ?_;refine .cut (σ:=Unit) (fun _=>[av g1 1 aj ys]) (fun _=>[(6,ag .i64 (v/128))]) (fun _=>True) ?_ ?_
  ·
   refine Z6 ?_;refine Cd (fun c2=>?_) fun c2=>?_
   ·
    refine Z3 ?_;refine .meet () trivial rfl (.get rfl (af.int (by omega)) (.keep 3 rfl rfl))
   refine Z1 ?_;refine .meet () trivial rfl (.get rfl (af.int (S2 (by omega) hv2)) (.keep 2 rfl rfl))
  intro _ _;refine Ek ?_;refine Cd (fun c3=>?_) fun c3=>?_
  ·
   refine Z4 ?_;refine .p ((fk FU.out FU.out (.t rfl)).le (af.trans (af.int (show _=(((v%128).toNat:Nat):Int) by rw[oM];omega)) (oN (by omega)))) rfl ?_;refine .p (cB aj [UInt8.ofNat (v%128).toNat]) rfl ?_;refine .n (fZ.eB (G:=fun g=>g) (hs1:=fun _=>_) (xs:=fun _=>_) (aF (i:=0) FU.out FU.out FC.out rfl FZ.out rfl FY.out (.t rfl) (.t rfl) rfl (by simp only[List.length_cons,List.length_nil];omega) (by simp only[List.length_cons,List.length_nil];omega))) rfl fun _ _=>?_;refine cD ?_;refine Post.aR rfl (ys++[UInt8.ofNat (v%128).toNat]) (by exact(by(show(ys++[_]).length=_;rw[List.length_append];simp only[List.length_cons,List.length_nil];have:=Nr c3;omega))) (fun _ _ _ h=>h) (.rt rfl) ?_;exact af.refl _
  refine Z6 ?_;refine .p ((fk FU.out FU.out (.t rfl)).le (af.int (show _=v%128 by rw[oM];omega))) rfl ?_;refine .p ((eU (.t rfl) (.c _) ee).le (af.trans (af.int (show _=(((v%128+128).toNat:Nat):Int) by omega)) (oN (by omega)))) rfl ?_;refine .p (cB aj [(UInt8.ofNat ((v%128+128).toNat))]) rfl ?_;refine .n (aF (i:=0) FU.out FU.out FC.out rfl FZ.out rfl FY.out (.t rfl) (.t rfl) rfl (by simp only[List.length_cons,List.length_nil];omega) (by simp only[List.length_cons,List.length_nil];omega)) rfl fun XY _=>?_;refine jb ?_;refine .round (XY,ys++[(UInt8.ofNat ((v%128+128).toNat))],j+1,v/128) ⟨by(show(ys++[_]).length=j+1;rw[List.length_append];simp only[List.length_cons,List.length_nil];omega),by(show j+1+lC (v/128)=_;have:=S3 c3;omega),by show _≤v/128;omega,by show v/128≤_;omega⟩ (by show 10-(j+1)<10-j;omega) rfl ?_;exact(.get rfl (af.refl _) (.get rfl (af.refl _) (.get rfl (af.int (by show(_:Int)=((j+1:Nat):Int);omega)) ((.keep 41 rfl rfl)))))
 exfalso;omega
theorem Hs{x:ay}(az:Am x):cQ Tryz.prog 110 [aC (aK x)] (ak (iP x)):=by
 refine In 125 Tryz.func110 fun _ _ _=>?_;have hxA:=az.A0;have hxB:=az.B0;have hxL:=az.Ln;refine cc ?_;refine .p (cA (h:=J9)) rfl ?_;refine .p (HA (.t rfl) (.s [] rfl rfl)) rfl ?_;refine Z2 ?_;refine Cd (fun c0=>?_) fun c0=>?_
 ·
  refine Z7 ?_;refine bB ?_;exact af.prop ⟨fun h=>h.elim,fun h=>absurd c0 h.1⟩
 refine Z6 ?_;refine .p (cA (h:=jx)) rfl ?_;refine Z34 ?_;refine Cd (fun c1=>?_) fun c1=>?_
 ·
  refine Z7 ?_;refine bB ?_;exact af.prop ⟨fun h=>h.elim,fun h=>by(have h9:=h.2.1;unfold ux at h9;omega)⟩
 refine Z33 ?_;refine Cd (fun c2=>?_) fun c2=>?_
 ·
  refine Z7 ?_;refine bB ?_;exact af.prop ⟨fun h=>h.elim,fun h=>by(have h9:=h.2.2.1;omega)⟩
 refine YZ ?_;refine Z1 ?_;refine Cd (fun c3=>?_) fun c3=>?_
 ·
  refine Z7 ?_;refine bB ?_;exact af.prop ⟨fun h=>h.elim,fun h=>by(have h9:=h.2.2.2.1;omega)⟩
 refine Z9 ?_;refine .aS (σ:=Nat) (fun _=>[]) (fun j=>[(4,ag .i64 (j:Int))]) (fun j=>j≤x.L.length∧∀n∈x.L.take j,ux n) (fun j=>x.L.length-j) 0 ⟨Nat.zero_le _,by simp⟩ rfl ?_ ?_
 · exact(.get rfl (af.refl _) (.refl _ _))
 rintro j ⟨hj,hall⟩;refine cD ?_;refine Cd (fun c4=>?_) fun c4=>?_
 ·
  obtain⟨y,hy⟩:=ah (xs:=x.L) (k:=j) (by omega);refine Z9 ?_;refine .p (cI j (h:=hy)) rfl ?_;refine Z4 ?_;refine Cd (fun c5=>?_) fun c5=>?_
  ·
   refine cc ?_;refine bB ?_;exact af.prop ⟨fun h=>h.elim,fun h=>by(have h9:=h.2.2.2.2.1 y (List.mem_of_getElem? hy);unfold ux at h9;omega)⟩
  refine Z8 ?_;refine .round (j+1) ⟨by omega,fun n hn=>by(rw[←bq hy] at hn;rcases List.mem_append.1 hn with hn|hn;exact hall n hn;(simp only[List.mem_singleton] at hn;subst hn;unfold ux;omega))⟩ (by omega) rfl ?_;exact(.get rfl (af.int (by omega)) ((.keep 15 rfl rfl)))
 have tQ:∀n∈x.L,ux n:=fun n hn=>hall n (by rw[List.take_of_length_le (by omega)];exact hn);refine V2 ?_;refine bB ?_;exact af.prop (by unfold iP;simp only[←List.length_eq_zero_iff];exact⟨fun h=>⟨c0,by unfold ux;omega,by omega,by omega,tQ,by omega⟩,fun h=>by have h9:=h.2.2.2.2.2;omega⟩)
end Go.Proofs.YtpfobikpggmleaaGreatDoor
end
