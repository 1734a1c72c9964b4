/-
  What the statement's proof leans on, several texts in one (packed by a program).
-/
import Derived.Test.YtpfobikpggmleaaGreatDoorSAR
set_option linter.all false
set_option maxRecDepth 1000000
set_option maxHeartbeats 4000000
section
namespace Go.Proofs.YtpfobikpggmleaaGreatDoor
open Go.Hl Go.RowKit
variable {l:List UInt8} {s:List UInt8}
theorem ri:cW Tryz.prog 308 [cZ l,cZ s] (aq (mF l s)):=by
 refine In 21 Tryz.func308 fun _ _ _=> ?_
 refine .fact (t:=0) rfl (fun S w v h=>ig h) fun hl=> ?_
 refine .fact (t:=1) rfl (fun S w v h=>ig h) fun Cp=> ?_
 refine EC ?_
 refine .g (cm.gT rfl rfl rfl rfl (fun hg=>zc FU.out (.when (.t rfl) hg) (.when (.t rfl) hg) (by omega:_=((l.length-s.length:Nat):Int)) (by omega))) rfl rfl ?_
 refine Z7 ?_
 refine bL ?_
 exact af.prop (by unfold mF;constructor<;>(rintro ⟨h1,h2⟩;exact ⟨by omega,h2⟩))
theorem yq:cW Tryz.prog 309 [cZ l,cZ s] (aq (wj l s)):=by
 refine In 18 Tryz.func309 fun _ _ _=> ?_
 refine .fact (t:=0) rfl (fun S w v h=>ig h) fun hl=> ?_
 refine .fact (t:=1) rfl (fun S w v h=>ig h) fun Cp=> ?_
 refine D0 ?_
 refine .g (cm.gT rfl rfl rfl rfl (fun hg=>tL FU.out (.when (.t rfl) hg) (.when (.t rfl) hg) rfl (by omega))) rfl rfl ?_
 refine Z7 ?_
 refine bL ?_
 exact af.prop (by unfold wj;constructor<;>(rintro ⟨h1,h2⟩;exact ⟨by omega,h2⟩))
theorem AI:cW Tryz.prog 298 [cZ l,cZ s] (aq (mF l s)):=by
 refine In 8 Tryz.func298 fun _ _ _=> ?_
 refine Z9 ?_
 refine .p (cA (h:=ri)) rfl ?_
 refine Z4 ?_
 refine bL ?_
 exact af.refl _
theorem AJ:cW Tryz.prog 299 [cZ l,cZ s] (aq (wj l s)):=by
 refine In 8 Tryz.func299 fun _ _ _=> ?_
 refine Z9 ?_
 refine .p (cA (h:=yq)) rfl ?_
 refine Z4 ?_
 refine bL ?_
 exact af.refl _
theorem xb:cW Tryz.prog 307 [cZ l,cZ s] (cZ (sM l s)):=by
 refine In 16 Tryz.func307 fun _ _ _=> ?_
 refine .fact (t:=0) rfl (fun S w v h=>ig h) fun hl=> ?_
 refine .fact (t:=1) rfl (fun S w v h=>ig h) fun Cp=> ?_
 refine Z2 ?_
 refine .p (bh (.s [] rfl rfl)) rfl ?_
 refine Z7 ?_
 refine .p (cA (h:=ri)) rfl ?_
 refine Z2 ?_
 refine Cd (fun c0=> ?_) fun c0=> ?_
 ·
  have hle:=c0.1
  refine Z8 ?_
  refine .p (tL FU.out (.t rfl) (.t rfl) (by omega:_=((l.length-s.length:Nat):Int)) (by omega)) rfl ?_
  refine Z5 ?_
  refine bL ?_
  exact af.of_eq (by unfold sM;rw [if_pos c0])
 refine Z9 ?_
 refine bL ?_
 exact af.of_eq (by unfold sM;rw [if_neg c0])
theorem rj:cW Tryz.prog 297 [cZ l,cZ s] (cZ (sM l s)):=by
 refine In 8 Tryz.func297 fun _ _ _=> ?_
 refine Z2 ?_
 refine .p (bh (.s [] rfl rfl)) rfl ?_
 refine Z6 ?_
 refine .p (cA (h:=xb)) rfl ?_
 refine Z4 ?_
 refine bL ?_
 exact af.refl _
variable {b:UInt8}
theorem Dy:cW Tryz.prog 312 [cZ l,ag .u8 (b.toNat:Int)] (ag .i64 (Lib.indexByte l b)):=by
 refine In 8 Tryz.func312 fun _ _ _=> ?_
 refine Z9 ?_
 refine .p (Hj Tryz.Wi (.cons (.t rfl) (.cons (.t rfl) .nil))) rfl ?_
 refine Z4 ?_
 refine bL ?_
 exact af.refl _
theorem Mz (av:l≠[b]):cW Tryz.prog 311 [cZ l,cZ [b]] (ag .i64 (Lib.indexByte l b)):=by
 refine In 143 Tryz.func311 fun _ _ _=> ?_
 refine Z26 ?_
 refine Cd (fun c0=> ?_) fun c0=> ?_
 · exfalso;simp at c0;exact av c0.symm
 refine Z7 ?_
 refine Cd (fun c1=> ?_) fun c1=> ?_
 ·
  refine Z4 ?_
  refine .p (jO FU.out (.t rfl) (.c _) rfl (show [b][0]?=some b from rfl)) rfl ?_
  refine .p (cA (h:=Dy)) rfl ?_
  refine Z6 ?_
  refine bL ?_
  exact af.refl _
 exact absurd rfl c1
theorem MA (av:l≠[b]):cW Tryz.prog 306 [cZ l,cZ [b]] (bD [cZ (wk l b).1,cZ (wk l b).2.1,aq ((wk l b).2.2=true)]):=by
 refine In 23 Tryz.func306 fun _ _ _=> ?_
 refine .fact (t:=0) rfl (fun S w v h=>ig h) fun hl=> ?_
 have hlt:=Cv l b
 refine Z2 ?_
 refine .p (bh (.s [] rfl rfl)) rfl ?_
 refine .p (bh (.s [] rfl rfl)) rfl ?_
 refine Z8 ?_
 refine .p (cA (h:=Mz av)) rfl ?_
 refine Z9 ?_
 refine Cd (fun c0=> ?_) fun c0=> ?_
 ·
  have hj:Lib.indexByte l b=(((Lib.indexByte l b).toNat:Nat):Int):=by omega
  refine Z1 ?_
  refine .bx 10 2 FM.out (by kernel_rfl) (k:= ?_)
  refine Z2 ?_
  refine .p (tL FU.out (.t rfl) (.t rfl) hj (by omega)) ?_
  refine Z4 ?_
  refine .p (ep (.t rfl) (.t rfl) (bY (by simp only [List.length_cons,List.length_nil];omega) (by simp only [List.length_cons,List.length_nil];omega))) ?_
  refine .p (zc FU.out (.t rfl) (.t rfl) (by simp only [List.length_cons,List.length_nil];omega:_=(((Lib.indexByte l b).toNat+1:Nat):Int)) (by omega)) ?_
  refine Z8 ?_
  refine Qe ?_ ?_ ?_
  · exact af.of_eq (by unfold wk;rw [if_pos c0])
  · exact af.of_eq (by unfold wk;rw [if_pos c0])
  exact af.prop (by unfold wk;rw [if_pos c0];simp)
 refine Z6 ?_
 refine .p (bh (.s [] rfl rfl)) rfl ?_
 refine Z4 ?_
 refine Qe ?_ ?_ ?_
 · exact af.of_eq (by unfold wk;rw [if_neg c0])
 · exact af.of_eq (by unfold wk;rw [if_neg c0])
 exact af.prop (by unfold wk;rw [if_neg c0];simp)
theorem PC (av:l≠[b]):cW Tryz.prog 296 [cZ l,cZ [b]] (bD [cZ (wk l b).1,cZ (wk l b).2.1,aq ((wk l b).2.2=true)]):=by
 refine In 13 Tryz.func296 fun _ _ _=> ?_
 refine Z2 ?_
 refine .p (bh (.s [] rfl rfl)) rfl ?_
 refine .p (bh (.s [] rfl rfl)) rfl ?_
 refine Z7 ?_
 refine .p (cA (h:=MA av)) rfl ?_
 refine Z9 ?_
 refine Qe ?_ ?_ ?_
 · exact af.refl _
 · exact af.refl _
 exact af.refl _
theorem tG:cW Tryz.prog 303 [] (aC (L2.flatMap jV)):=by
 refine In 2 Tryz.func303 fun _ _ _=> ?_
 refine Z2 ?_
 refine .n (ax FZ.out) rfl fun b0 _=> ?_
 refine Z4 ?_
 refine .p (gP (cs:=L2.flatMap jV) FR.out FZ.out (.cons (.s [97,100,100] rfl rfl) (.cons (.s [115,117,98] rfl rfl) (.cons (.s [109,117,108] rfl rfl) (.cons (.s [100,105,118,95,115] rfl rfl) (.cons (.s [100,105,118,95,117] rfl rfl) (.cons (.s [114,101,109,95,115] rfl rfl) (.cons (.s [114,101,109,95,117] rfl rfl) (.cons (.s [97,110,100] rfl rfl) (.cons (.s [111,114] rfl rfl) (.cons (.s [120,111,114] rfl rfl) (.cons (.s [115,104,108] rfl rfl) (.cons (.s [115,104,114,95,115] rfl rfl) (.cons (.s [115,104,114,95,117] rfl rfl) (.cons (.s [114,111,116,108] rfl rfl) (.cons (.s [114,111,116,114] rfl rfl) .nil))))))))))))))) rfl) rfl ?_
 refine Z4 ?_
 refine Post.aP rfl () trivial (fun _ _ _ _=>trivial) (.ra (i:=0) FA.out FC.out rfl rfl rfl rfl) ?_
 exact af.refl _
theorem AK:cW Tryz.prog 304 [] (aC (BX.flatMap jV)):=by
 refine In 2 Tryz.func304 fun _ _ _=> ?_
 refine Z2 ?_
 refine .n (ax FZ.out) rfl fun b0 _=> ?_
 refine Z4 ?_
 refine .p (gP (cs:=BX.flatMap jV) FR.out FZ.out (.cons (.s [101,113] rfl rfl) (.cons (.s [110,101] rfl rfl) (.cons (.s [108,116,95,115] rfl rfl) (.cons (.s [108,116,95,117] rfl rfl) (.cons (.s [103,116,95,115] rfl rfl) (.cons (.s [103,116,95,117] rfl rfl) (.cons (.s [108,101,95,115] rfl rfl) (.cons (.s [108,101,95,117] rfl rfl) (.cons (.s [103,101,95,115] rfl rfl) (.cons (.s [103,101,95,117] rfl rfl) .nil)))))))))) rfl) rfl ?_
 refine Z4 ?_
 refine Post.aP rfl () trivial (fun _ _ _ _=>trivial) (.ra (i:=0) FA.out FC.out rfl rfl rfl rfl) ?_
 exact af.refl _
theorem ng:cW Tryz.prog 305 [] (aC (Rp.flatMap jV)):=by
 refine In 2 Tryz.func305 fun _ _ _=> ?_
 refine Z2 ?_
 refine .n (ax FZ.out) rfl fun b0 _=> ?_
 refine Z4 ?_
 refine .p (gP (cs:=Rp.flatMap jV) FR.out FZ.out (.cons (.s [99,108,122] rfl rfl) (.cons (.s [99,116,122] rfl rfl) (.cons (.s [112,111,112,99,110,116] rfl rfl) (.cons (.s [101,113,122] rfl rfl) .nil)))) rfl) rfl ?_
 refine Z4 ?_
 refine Post.aP rfl () trivial (fun _ _ _ _=>trivial) (.ra (i:=0) FA.out FC.out rfl rfl rfl rfl) ?_
 exact af.refl _
theorem MB:cW Tryz.prog 290 [] (aC (iQ.flatMap gG)):=by
 refine In 49 Tryz.func290 fun _ _ _=> ?_
 refine Z2 ?_
 refine .n (ax FZ.out) rfl fun b0 _=> ?_
 refine Z4 ?_
 refine .p (aL FP.out FZ.out (.cons (.c _) (.cons (.s [117,110,114,101,97,99,104,97,98,108,101] rfl rfl) (.cons (.c _) (.cons (.s [] rfl rfl) (.cons (.s [] rfl rfl) .nil))))) rfl) rfl ?_
 refine .p (aL FP.out FZ.out (.cons (.c _) (.cons (.s [110,111,112] rfl rfl) (.cons (.c _) (.cons (.s [] rfl rfl) (.cons (.s [] rfl rfl) .nil))))) rfl) rfl ?_
 refine .p (aL FP.out FZ.out (.cons (.c _) (.cons (.s [98,108,111,99,107] rfl rfl) (.cons (.c _) (.cons (.s [] rfl rfl) (.cons (.s [] rfl rfl) .nil))))) rfl) rfl ?_
 refine .p (aL FP.out FZ.out (.cons (.c _) (.cons (.s [108,111,111,112] rfl rfl) (.cons (.c _) (.cons (.s [] rfl rfl) (.cons (.s [] rfl rfl) .nil))))) rfl) rfl ?_
 refine .p (aL FP.out FZ.out (.cons (.c _) (.cons (.s [105,102] rfl rfl) (.cons (.c _) (.cons (.s [] rfl rfl) (.cons (.s [] rfl rfl) .nil))))) rfl) rfl ?_
 refine .p (aL FP.out FZ.out (.cons (.c _) (.cons (.s [101,108,115,101] rfl rfl) (.cons (.c _) (.cons (.s [] rfl rfl) (.cons (.s [] rfl rfl) .nil))))) rfl) rfl ?_
 refine .p (aL FP.out FZ.out (.cons (.c _) (.cons (.s [101,110,100] rfl rfl) (.cons (.c _) (.cons (.s [] rfl rfl) (.cons (.s [] rfl rfl) .nil))))) rfl) rfl ?_
 refine .p (aL FP.out FZ.out (.cons (.c _) (.cons (.s [98,114] rfl rfl) (.cons (.c _) (.cons (.s [] rfl rfl) (.cons (.s [] rfl rfl) .nil))))) rfl) rfl ?_
 refine .p (aL FP.out FZ.out (.cons (.c _) (.cons (.s [98,114,95,105,102] rfl rfl) (.cons (.c _) (.cons (.s [] rfl rfl) (.cons (.s [] rfl rfl) .nil))))) rfl) rfl ?_
 refine .p (aL FP.out FZ.out (.cons (.c _) (.cons (.s [98,114,95,116,97,98,108,101] rfl rfl) (.cons (.c _) (.cons (.s [] rfl rfl) (.cons (.s [] rfl rfl) .nil))))) rfl) rfl ?_
 refine .p (aL FP.out FZ.out (.cons (.c _) (.cons (.s [114,101,116,117,114,110] rfl rfl) (.cons (.c _) (.cons (.s [] rfl rfl) (.cons (.s [] rfl rfl) .nil))))) rfl) rfl ?_
 refine .p (aL FP.out FZ.out (.cons (.c _) (.cons (.s [99,97,108,108] rfl rfl) (.cons (.c _) (.cons (.s [] rfl rfl) (.cons (.s [] rfl rfl) .nil))))) rfl) rfl ?_
 refine .p (aL FP.out FZ.out (.cons (.c _) (.cons (.s [99,97,108,108,95,105,110,100,105,114,101,99,116] rfl rfl) (.cons (.c _) (.cons (.s [] rfl rfl) (.cons (.s [] rfl rfl) .nil))))) rfl) rfl ?_
 refine .p (aL FP.out FZ.out (.cons (.c _) (.cons (.s [100,114,111,112] rfl rfl) (.cons (.c _) (.cons (.s [] rfl rfl) (.cons (.s [] rfl rfl) .nil))))) rfl) rfl ?_
 refine .p (aL FP.out FZ.out (.cons (.c _) (.cons (.s [115,101,108,101,99,116] rfl rfl) (.cons (.c _) (.cons (.s [] rfl rfl) (.cons (.s [] rfl rfl) .nil))))) rfl) rfl ?_
 refine .p (aL FP.out FZ.out (.cons (.c _) (.cons (.s [108,111,99,97,108,46,103,101,116] rfl rfl) (.cons (.c _) (.cons (.s [] rfl rfl) (.cons (.s [] rfl rfl) .nil))))) rfl) rfl ?_
 refine .p (aL FP.out FZ.out (.cons (.c _) (.cons (.s [108,111,99,97,108,46,115,101,116] rfl rfl) (.cons (.c _) (.cons (.s [] rfl rfl) (.cons (.s [] rfl rfl) .nil))))) rfl) rfl ?_
 refine .p (aL FP.out FZ.out (.cons (.c _) (.cons (.s [108,111,99,97,108,46,116,101,101] rfl rfl) (.cons (.c _) (.cons (.s [] rfl rfl) (.cons (.s [] rfl rfl) .nil))))) rfl) rfl ?_
 refine .p (aL FP.out FZ.out (.cons (.c _) (.cons (.s [103,108,111,98,97,108,46,103,101,116] rfl rfl) (.cons (.c _) (.cons (.s [] rfl rfl) (.cons (.s [] rfl rfl) .nil))))) rfl) rfl ?_
 refine .p (aL FP.out FZ.out (.cons (.c _) (.cons (.s [103,108,111,98,97,108,46,115,101,116] rfl rfl) (.cons (.c _) (.cons (.s [] rfl rfl) (.cons (.s [] rfl rfl) .nil))))) rfl) rfl ?_
 refine .p (aL FP.out FZ.out (.cons (.c _) (.cons (.s [105,51,50,46,108,111,97,100] rfl rfl) (.cons (.c _) (.cons (.s [105] rfl rfl) (.cons (.s [105] rfl rfl) .nil))))) rfl) rfl ?_
 refine .p (aL FP.out FZ.out (.cons (.c _) (.cons (.s [105,54,52,46,108,111,97,100] rfl rfl) (.cons (.c _) (.cons (.s [105] rfl rfl) (.cons (.s [108] rfl rfl) .nil))))) rfl) rfl ?_
 refine .p (aL FP.out FZ.out (.cons (.c _) (.cons (.s [105,51,50,46,108,111,97,100,56,95,115] rfl rfl) (.cons (.c _) (.cons (.s [105] rfl rfl) (.cons (.s [105] rfl rfl) .nil))))) rfl) rfl ?_
 refine .p (aL FP.out FZ.out (.cons (.c _) (.cons (.s [105,51,50,46,108,111,97,100,56,95,117] rfl rfl) (.cons (.c _) (.cons (.s [105] rfl rfl) (.cons (.s [105] rfl rfl) .nil))))) rfl) rfl ?_
 refine .p (aL FP.out FZ.out (.cons (.c _) (.cons (.s [105,51,50,46,108,111,97,100,49,54,95,115] rfl rfl) (.cons (.c _) (.cons (.s [105] rfl rfl) (.cons (.s [105] rfl rfl) .nil))))) rfl) rfl ?_
 refine .p (aL FP.out FZ.out (.cons (.c _) (.cons (.s [105,51,50,46,108,111,97,100,49,54,95,117] rfl rfl) (.cons (.c _) (.cons (.s [105] rfl rfl) (.cons (.s [105] rfl rfl) .nil))))) rfl) rfl ?_
 refine .p (aL FP.out FZ.out (.cons (.c _) (.cons (.s [105,54,52,46,108,111,97,100,56,95,115] rfl rfl) (.cons (.c _) (.cons (.s [105] rfl rfl) (.cons (.s [108] rfl rfl) .nil))))) rfl) rfl ?_
 refine .p (aL FP.out FZ.out (.cons (.c _) (.cons (.s [105,54,52,46,108,111,97,100,56,95,117] rfl rfl) (.cons (.c _) (.cons (.s [105] rfl rfl) (.cons (.s [108] rfl rfl) .nil))))) rfl) rfl ?_
 refine .p (aL FP.out FZ.out (.cons (.c _) (.cons (.s [105,54,52,46,108,111,97,100,49,54,95,115] rfl rfl) (.cons (.c _) (.cons (.s [105] rfl rfl) (.cons (.s [108] rfl rfl) .nil))))) rfl) rfl ?_
 refine .p (aL FP.out FZ.out (.cons (.c _) (.cons (.s [105,54,52,46,108,111,97,100,49,54,95,117] rfl rfl) (.cons (.c _) (.cons (.s [105] rfl rfl) (.cons (.s [108] rfl rfl) .nil))))) rfl) rfl ?_
 refine .p (aL FP.out FZ.out (.cons (.c _) (.cons (.s [105,54,52,46,108,111,97,100,51,50,95,115] rfl rfl) (.cons (.c _) (.cons (.s [105] rfl rfl) (.cons (.s [108] rfl rfl) .nil))))) rfl) rfl ?_
 refine .p (aL FP.out FZ.out (.cons (.c _) (.cons (.s [105,54,52,46,108,111,97,100,51,50,95,117] rfl rfl) (.cons (.c _) (.cons (.s [105] rfl rfl) (.cons (.s [108] rfl rfl) .nil))))) rfl) rfl ?_
 refine .p (aL FP.out FZ.out (.cons (.c _) (.cons (.s [105,51,50,46,115,116,111,114,101] rfl rfl) (.cons (.c _) (.cons (.s [105,105] rfl rfl) (.cons (.s [] rfl rfl) .nil))))) rfl) rfl ?_
 refine .p (aL FP.out FZ.out (.cons (.c _) (.cons (.s [105,54,52,46,115,116,111,114,101] rfl rfl) (.cons (.c _) (.cons (.s [105,108] rfl rfl) (.cons (.s [] rfl rfl) .nil))))) rfl) rfl ?_
 refine .p (aL FP.out FZ.out (.cons (.c _) (.cons (.s [105,51,50,46,115,116,111,114,101,56] rfl rfl) (.cons (.c _) (.cons (.s [105,105] rfl rfl) (.cons (.s [] rfl rfl) .nil))))) rfl) rfl ?_
 refine .p (aL FP.out FZ.out (.cons (.c _) (.cons (.s [105,51,50,46,115,116,111,114,101,49,54] rfl rfl) (.cons (.c _) (.cons (.s [105,105] rfl rfl) (.cons (.s [] rfl rfl) .nil))))) rfl) rfl ?_
 refine .p (aL FP.out FZ.out (.cons (.c _) (.cons (.s [105,54,52,46,115,116,111,114,101,56] rfl rfl) (.cons (.c _) (.cons (.s [105,108] rfl rfl) (.cons (.s [] rfl rfl) .nil))))) rfl) rfl ?_
 refine .p (aL FP.out FZ.out (.cons (.c _) (.cons (.s [105,54,52,46,115,116,111,114,101,49,54] rfl rfl) (.cons (.c _) (.cons (.s [105,108] rfl rfl) (.cons (.s [] rfl rfl) .nil))))) rfl) rfl ?_
 refine .p (aL FP.out FZ.out (.cons (.c _) (.cons (.s [105,54,52,46,115,116,111,114,101,51,50] rfl rfl) (.cons (.c _) (.cons (.s [105,108] rfl rfl) (.cons (.s [] rfl rfl) .nil))))) rfl) rfl ?_
 refine .p (aL FP.out FZ.out (.cons (.c _) (.cons (.s [109,101,109,111,114,121,46,115,105,122,101] rfl rfl) (.cons (.c _) (.cons (.s [] rfl rfl) (.cons (.s [105] rfl rfl) .nil))))) rfl) rfl ?_
 refine .p (aL FP.out FZ.out (.cons (.c _) (.cons (.s [109,101,109,111,114,121,46,103,114,111,119] rfl rfl) (.cons (.c _) (.cons (.s [105] rfl rfl) (.cons (.s [105] rfl rfl) .nil))))) rfl) rfl ?_
 refine .p (aL FP.out FZ.out (.cons (.c _) (.cons (.s [105,51,50,46,99,111,110,115,116] rfl rfl) (.cons (.c _) (.cons (.s [] rfl rfl) (.cons (.s [105] rfl rfl) .nil))))) rfl) rfl ?_
 refine .p (aL FP.out FZ.out (.cons (.c _) (.cons (.s [105,54,52,46,99,111,110,115,116] rfl rfl) (.cons (.c _) (.cons (.s [] rfl rfl) (.cons (.s [108] rfl rfl) .nil))))) rfl) rfl ?_
 refine .p (aL FP.out FZ.out (.cons (.c _) (.cons (.s [105,51,50,46,119,114,97,112,95,105,54,52] rfl rfl) (.cons (.c _) (.cons (.s [108] rfl rfl) (.cons (.s [105] rfl rfl) .nil))))) rfl) rfl ?_
 refine .p (aL FP.out FZ.out (.cons (.c _) (.cons (.s [105,54,52,46,101,120,116,101,110,100,95,105,51,50,95,115] rfl rfl) (.cons (.c _) (.cons (.s [105] rfl rfl) (.cons (.s [108] rfl rfl) .nil))))) rfl) rfl ?_
 refine .p (aL FP.out FZ.out (.cons (.c _) (.cons (.s [105,54,52,46,101,120,116,101,110,100,95,105,51,50,95,117] rfl rfl) (.cons (.c _) (.cons (.s [105] rfl rfl) (.cons (.s [108] rfl rfl) .nil))))) rfl) rfl ?_
 refine .p (aL FP.out FZ.out (.cons (.c _) (.cons (.s [105,51,50,46,101,120,116,101,110,100,56,95,115] rfl rfl) (.cons (.c _) (.cons (.s [105] rfl rfl) (.cons (.s [105] rfl rfl) .nil))))) rfl) rfl ?_
 refine .p (gP (cs:=iQ.flatMap gG) FR.out FZ.out (.cons (.t rfl) (.cons (.t rfl) (.cons (.t rfl) (.cons (.t rfl) (.cons (.t rfl) (.cons (.t rfl) (.cons (.t rfl) (.cons (.t rfl) (.cons (.t rfl) (.cons (.t rfl) (.cons (.t rfl) (.cons (.t rfl) (.cons (.t rfl) (.cons (.t rfl) (.cons (.t rfl) (.cons (.t rfl) (.cons (.t rfl) (.cons (.t rfl) (.cons (.t rfl) (.cons (.t rfl) (.cons (.t rfl) (.cons (.t rfl) (.cons (.t rfl) (.cons (.t rfl) (.cons (.t rfl) (.cons (.t rfl) (.cons (.t rfl) (.cons (.t rfl) (.cons (.t rfl) (.cons (.t rfl) (.cons (.t rfl) (.cons (.t rfl) (.cons (.t rfl) (.cons (.t rfl) (.cons (.t rfl) (.cons (.t rfl) (.cons (.t rfl) (.cons (.t rfl) (.cons (.t rfl) (.cons (.t rfl) (.cons (.t rfl) (.cons (.t rfl) (.cons (.t rfl) (.cons (.t rfl) (.cons (.t rfl) (.cons (.t rfl) (.cons (.t rfl) .nil))))))))))))))))))))))))))))))))))))))))))))))) rfl) rfl ?_
 refine Z4 ?_
 refine Post.aP rfl () trivial (fun _ _ _ _=>trivial) (.ra (i:=0) FA.out FC.out rfl rfl rfl rfl) ?_
 exact af.refl _
theorem MC:cW Tryz.prog 291 [] (aC (jK.flatMap gG)):=by
 refine In 8 Tryz.func291 fun _ _ _=> ?_
 refine Z2 ?_
 refine .n (ax FZ.out) rfl fun b0 _=> ?_
 refine Z4 ?_
 refine .p (aL FP.out FZ.out (.cons (.c _) (.cons (.s [105,51,50,46,101,120,116,101,110,100,49,54,95,115] rfl rfl) (.cons (.c _) (.cons (.s [105] rfl rfl) (.cons (.s [105] rfl rfl) .nil))))) rfl) rfl ?_
 refine .p (aL FP.out FZ.out (.cons (.c _) (.cons (.s [105,54,52,46,101,120,116,101,110,100,56,95,115] rfl rfl) (.cons (.c _) (.cons (.s [108] rfl rfl) (.cons (.s [108] rfl rfl) .nil))))) rfl) rfl ?_
 refine .p (aL FP.out FZ.out (.cons (.c _) (.cons (.s [105,54,52,46,101,120,116,101,110,100,49,54,95,115] rfl rfl) (.cons (.c _) (.cons (.s [108] rfl rfl) (.cons (.s [108] rfl rfl) .nil))))) rfl) rfl ?_
 refine .p (aL FP.out FZ.out (.cons (.c _) (.cons (.s [105,54,52,46,101,120,116,101,110,100,51,50,95,115] rfl rfl) (.cons (.c _) (.cons (.s [108] rfl rfl) (.cons (.s [108] rfl rfl) .nil))))) rfl) rfl ?_
 refine .p (aL FP.out FZ.out (.cons (.c _) (.cons (.s [109,101,109,111,114,121,46,99,111,112,121] rfl rfl) (.cons (.c _) (.cons (.s [105,105,105] rfl rfl) (.cons (.s [] rfl rfl) .nil))))) rfl) rfl ?_
 refine .p (aL FP.out FZ.out (.cons (.c _) (.cons (.s [109,101,109,111,114,121,46,102,105,108,108] rfl rfl) (.cons (.c _) (.cons (.s [105,105,105] rfl rfl) (.cons (.s [] rfl rfl) .nil))))) rfl) rfl ?_
 refine .p (gP (cs:=jK.flatMap gG) FR.out FZ.out (.cons (.t rfl) (.cons (.t rfl) (.cons (.t rfl) (.cons (.t rfl) (.cons (.t rfl) (.cons (.t rfl) .nil)))))) rfl) rfl ?_
 refine Z4 ?_
 refine Post.aP rfl () trivial (fun _ _ _ _=>trivial) (.ra (i:=0) FA.out FC.out rfl rfl rfl rfl) ?_
 exact af.refl _
theorem I9:cW Tryz.prog 310 [] (aC (gH.flatMap sX)):=by
 refine In 10 Tryz.func310 fun _ _ _=> ?_
 refine Z2 ?_
 refine .n (ax FZ.out) rfl fun b0 _=> ?_
 refine dM ?_
 refine .p (gP (cs:=gH.flatMap sX) FR.out FZ.out (.cons (.t rfl) (.cons (.t rfl) (.cons (.t rfl) (.cons (.t rfl) (.cons (.t rfl) (.cons (.t rfl) (.cons (.t rfl) (.cons (.t rfl) .nil)))))))) rfl) rfl ?_
 refine Z4 ?_
 refine Post.aP rfl () trivial (fun _ _ _ _=>trivial) (.ra (i:=0) FA.out FC.out rfl rfl rfl rfl) ?_
 exact af.refl _
variable {code:Int}
theorem Dz:cW Tryz.prog 302 [ag .i64 code] (bD [ag .i64 ((sr code).getD (0,0,0)).1,ag .i64 ((sr code).getD (0,0,0)).2.1,ag .i64 ((sr code).getD (0,0,0)).2.2,aq (sr code).isSome]):=by
 refine In 37 Tryz.func302 fun _ _ _=> ?_
 refine cT ?_
 refine .p (cA (h:=I9)) rfl ?_
 refine Z4 ?_
 refine .aT (σ:=Nat) (fun _=>[]) (fun k=>[(9,ag .i64 (k:Int))]) (fun k=>k≤gH.length∧cN (fun s=>o4 code s=true) gH k) (fun k=>gH.length-k) 0 ⟨by omega,cN.zero _ _⟩ rfl ?_ ?_
 · exact (.get rfl (af.refl _) (.refl _ _))
 rintro k ⟨hk,hn⟩
 refine Z6 ?_
 refine Cd (fun c0=> ?_) fun c0=> ?_
 ·
  have Gp:k<gH.length:=by have:gH.length=8:=rfl;omega
  obtain ⟨x,Qo⟩:=ah (xs:=gH) (k:=k) Gp
  have hb:=O0 x (List.mem_of_getElem? Qo)
  refine Z6 ?_
  refine .p (uM gH FU.out FC.out rfl FA.out (.t rfl) rfl rfl (.t rfl) rfl (by assumption)) rfl ?_
  refine .n (ax FZ.out) rfl fun b7 _=> ?_
  refine Z3 ?_
  refine .share (t:=7) (i:=0) rfl rfl ?_
  refine Hy ?_
  refine Cd (fun c1=> ?_) fun c1=> ?_
  ·
   have hno:=Rr Qo (by simpa [o4] using c1) hn
   refine Z1 ?_
   refine .bx 13 2 FM.out (by kernel_rfl) (k:= ?_)
   refine Z24 ?_
   refine Rt4 ?_ ?_ ?_ ?_
   · exact af.int (by rw [hno];rfl)
   · exact af.int (by rw [hno];rfl)
   · exact af.int (by rw [hno];rfl)
   exact af.prop (by rw [hno];simp)
  refine Z7 ?_
  refine .round (k+1) ⟨by omega,hn.succ Qo (by simpa [o4] using c1)⟩ (by omega) rfl ?_
  exact (.get rfl (af.int (by omega)) (.keep 20 rfl rfl))
 have NX:k=gH.length:=by have:gH.length=8:=rfl;omega
 subst NX
 refine iW ?_
 refine Rt4 ?_ ?_ ?_ ?_
 · exact af.int (by rw [sY hn];rfl)
 · exact af.int (by rw [sY hn];rfl)
 · exact af.int (by rw [sY hn];rfl)
 exact af.prop (by rw [sY hn];simp)
theorem Bb:cW Tryz.prog 292 [ag .i64 code] (bD [aC (gG ((gK code).getD S3)),aq (gK code).isSome]):=by
 refine In 69 Tryz.func292 fun _ _ _=> ?_
 refine Z2 ?_
 refine .n (ax FZ.out) rfl fun b2 _=> ?_
 refine Z6 ?_
 refine .p (cA (h:=Dz)) rfl ?_
 refine AU ?_
 refine Cd (fun c0=> ?_) fun c0=> ?_
 ·
  have hno:sr code=none:=by simpa using c0
  have hnm:=A2 hno
  refine Z9 ?_
  refine Post.bf rfl rfl () trivial (fun _ _ _ _=>trivial) rfl (.cons (.ra (i:=0) FA.out FC.out rfl rfl rfl rfl) ?_ (.cons (.rt rfl) ?_ .nil))
  · simp only [hnm,Option.getD_none];exact af.agg (.cons (af.refl _) (.cons rE (.cons (af.refl _) (.cons rE (.cons rE .nil)))))
  exact af.prop (by rw [hnm];simp)
 obtain ⟨⟨g,n,b⟩,hno⟩:=Option.isSome_iff_exists.1 (Classical.not_not.1 c0)
 obtain ⟨hn0,hng,hnb⟩:=Fy hno
 have hnm:=A1 hno
 simp only [hno,Option.getD_some]
 have DX:=FD b
 have hlb:=vt FE n.toNat
 have hlt:=vt BZ n.toNat
 have hlu:=vt Df n.toNat
 refine Z4 ?_
 refine .p (bh (.s [105,51,50,46] rfl rfl)) rfl ?_
 refine .p (bh (.s [105] rfl rfl)) rfl ?_
 refine Z9 ?_
 refine Cd (fun c1=> ?_) fun c1=> ?_
 ·
  refine Z1 ?_
  refine .p (bh (.s [105,54,52,46] rfl rfl)) rfl ?_
  refine .p (bh (.s [108] rfl rfl)) rfl ?_
  refine cT ?_
  refine Cd (fun c2=> ?_) fun c2=> ?_
  ·
   refine Z4 ?_
   refine .p (cA (h:=tG)) rfl ?_
   refine Z1 ?_
   refine .p (jy FU.out FC.out FA.out (.t rfl) rfl (.t rfl) (by omega:_=((n.toNat:Nat):Int)) (mY (by have:L2.length=15:=rfl;omega))) rfl ?_
   refine .p (qW (.t rfl) (.t rfl) (by simp only [List.length_cons,List.length_nil];omega)) rfl ?_
   refine Z2 ?_
   refine .p (qW (.t rfl) (.t rfl) (by simp only [List.length_cons,List.length_nil];omega)) rfl ?_
   refine Z9 ?_
   refine Post.bf rfl rfl () trivial (fun _ _ _ _=>trivial) rfl (.cons (.ra (i:=0) FA.out FC.out rfl rfl rfl rfl) ?_ (.cons (.rt rfl) ?_ .nil))
   · simp only [hnm,Option.getD_some];exact af.of_eq (by simp [lQ,gG,mS,oh, *];try rfl)
   exact af.prop (by rw [hnm];simp)
  refine Z7 ?_
  refine Cd (fun c3=> ?_) fun c3=> ?_
  ·
   refine Z4 ?_
   refine .p (cA (h:=AK)) rfl ?_
   refine Z1 ?_
   refine .p (jy FU.out FC.out FA.out (.t rfl) rfl (.t rfl) (by omega:_=((n.toNat:Nat):Int)) (mY (by have:BX.length=10:=rfl;omega))) rfl ?_
   refine .p (qW (.t rfl) (.t rfl) (by simp only [List.length_cons,List.length_nil];omega)) rfl ?_
   refine Z2 ?_
   refine .p (qW (.t rfl) (.t rfl) (by simp only [List.length_cons,List.length_nil];omega)) rfl ?_
   refine .p (aL FP.out FZ.out (.cons (.t rfl) (.cons (.t rfl) (.cons (.c _) (.cons (.t rfl) (.cons (.s [105] rfl rfl) .nil))))) rfl) rfl ?_
   refine Z7 ?_
   refine Post.bf rfl rfl () trivial (fun _ _ _ _=>trivial) rfl (.cons (.ra (i:=0) FA.out FC.out rfl rfl rfl rfl) ?_ (.cons (.rt rfl) ?_ .nil))
   · simp only [hnm,Option.getD_some];exact af.of_eq (by simp [lQ,gG,mS,oh, *];try rfl)
   exact af.prop (by rw [hnm];simp)
  refine Z7 ?_
  refine Cd (fun c4=> ?_) fun c4=> ?_
  ·
   refine Z4 ?_
   refine .p (cA (h:=ng)) rfl ?_
   refine Z1 ?_
   refine .p (jy FU.out FC.out FA.out (.t rfl) rfl (.t rfl) (by omega:_=((n.toNat:Nat):Int)) (mY (by have:Rp.length=4:=rfl;omega))) rfl ?_
   refine .p (qW (.t rfl) (.t rfl) (by simp only [List.length_cons,List.length_nil];omega)) rfl ?_
   refine Z1 ?_
   refine .p (aL FP.out FZ.out (.cons (.t rfl) (.cons (.t rfl) (.cons (.c _) (.cons (.t rfl) (.cons (.s [105] rfl rfl) .nil))))) rfl) rfl ?_
   refine Z7 ?_
   refine Post.bf rfl rfl () trivial (fun _ _ _ _=>trivial) rfl (.cons (.ra (i:=0) FA.out FC.out rfl rfl rfl rfl) ?_ (.cons (.rt rfl) ?_ .nil))
   · simp only [hnm,Option.getD_some];exact af.of_eq (by simp [lQ,gG,mS,oh, *];try rfl)
   exact af.prop (by rw [hnm];simp)
  refine Z7 ?_
  refine .p (cA (h:=ng)) rfl ?_
  refine Z1 ?_
  refine .p (jy FU.out FC.out FA.out (.t rfl) rfl (.t rfl) (by omega:_=((n.toNat:Nat):Int)) (mY (by have:Rp.length=4:=rfl;omega))) rfl ?_
  refine .p (qW (.t rfl) (.t rfl) (by simp only [List.length_cons,List.length_nil];omega)) rfl ?_
  refine Z8 ?_
  refine Post.bf rfl rfl () trivial (fun _ _ _ _=>trivial) rfl (.cons (.ra (i:=0) FA.out FC.out rfl rfl rfl rfl) ?_ (.cons (.rt rfl) ?_ .nil))
  · simp only [hnm,Option.getD_some];exact af.of_eq (by simp [lQ,gG,mS,oh, *];try rfl)
  exact af.prop (by rw [hnm];simp)
 refine cT ?_
 refine Cd (fun c5=> ?_) fun c5=> ?_
 ·
  refine Z4 ?_
  refine .p (cA (h:=tG)) rfl ?_
  refine Z1 ?_
  refine .p (jy FU.out FC.out FA.out (.t rfl) rfl (.t rfl) (by omega:_=((n.toNat:Nat):Int)) (mY (by have:L2.length=15:=rfl;omega))) rfl ?_
  refine .p (qW (.t rfl) (.t rfl) (by simp only [List.length_cons,List.length_nil];omega)) rfl ?_
  refine Z2 ?_
  refine .p (qW (.t rfl) (.t rfl) (by simp only [List.length_cons,List.length_nil];omega)) rfl ?_
  refine Z9 ?_
  refine Post.bf rfl rfl () trivial (fun _ _ _ _=>trivial) rfl (.cons (.ra (i:=0) FA.out FC.out rfl rfl rfl rfl) ?_ (.cons (.rt rfl) ?_ .nil))
  · simp only [hnm,Option.getD_some];exact af.of_eq (by simp [lQ,gG,mS,oh, *];try rfl)
  exact af.prop (by rw [hnm];simp)
 refine Z7 ?_
 refine Cd (fun c6=> ?_) fun c6=> ?_
 ·
  refine Z4 ?_
  refine .p (cA (h:=AK)) rfl ?_
  refine Z1 ?_
  refine .p (jy FU.out FC.out FA.out (.t rfl) rfl (.t rfl) (by omega:_=((n.toNat:Nat):Int)) (mY (by have:BX.length=10:=rfl;omega))) rfl ?_
  refine .p (qW (.t rfl) (.t rfl) (by simp only [List.length_cons,List.length_nil];omega)) rfl ?_
  refine Z2 ?_
  refine .p (qW (.t rfl) (.t rfl) (by simp only [List.length_cons,List.length_nil];omega)) rfl ?_
  refine .p (aL FP.out FZ.out (.cons (.t rfl) (.cons (.t rfl) (.cons (.c _) (.cons (.t rfl) (.cons (.s [105] rfl rfl) .nil))))) rfl) rfl ?_
  refine Z7 ?_
  refine Post.bf rfl rfl () trivial (fun _ _ _ _=>trivial) rfl (.cons (.ra (i:=0) FA.out FC.out rfl rfl rfl rfl) ?_ (.cons (.rt rfl) ?_ .nil))
  · simp only [hnm,Option.getD_some];exact af.of_eq (by simp [lQ,gG,mS,oh, *];try rfl)
  exact af.prop (by rw [hnm];simp)
 refine Z7 ?_
 refine Cd (fun c7=> ?_) fun c7=> ?_
 ·
  refine Z4 ?_
  refine .p (cA (h:=ng)) rfl ?_
  refine Z1 ?_
  refine .p (jy FU.out FC.out FA.out (.t rfl) rfl (.t rfl) (by omega:_=((n.toNat:Nat):Int)) (mY (by have:Rp.length=4:=rfl;omega))) rfl ?_
  refine .p (qW (.t rfl) (.t rfl) (by simp only [List.length_cons,List.length_nil];omega)) rfl ?_
  refine Z1 ?_
  refine .p (aL FP.out FZ.out (.cons (.t rfl) (.cons (.t rfl) (.cons (.c _) (.cons (.t rfl) (.cons (.s [105] rfl rfl) .nil))))) rfl) rfl ?_
  refine Z7 ?_
  refine Post.bf rfl rfl () trivial (fun _ _ _ _=>trivial) rfl (.cons (.ra (i:=0) FA.out FC.out rfl rfl rfl rfl) ?_ (.cons (.rt rfl) ?_ .nil))
  · simp only [hnm,Option.getD_some];exact af.of_eq (by simp [lQ,gG,mS,oh, *];try rfl)
  exact af.prop (by rw [hnm];simp)
 refine Z7 ?_
 refine .p (cA (h:=ng)) rfl ?_
 refine Z1 ?_
 refine .p (jy FU.out FC.out FA.out (.t rfl) rfl (.t rfl) (by omega:_=((n.toNat:Nat):Int)) (mY (by have:Rp.length=4:=rfl;omega))) rfl ?_
 refine .p (qW (.t rfl) (.t rfl) (by simp only [List.length_cons,List.length_nil];omega)) rfl ?_
 refine Z8 ?_
 refine Post.bf rfl rfl () trivial (fun _ _ _ _=>trivial) rfl (.cons (.ra (i:=0) FA.out FC.out rfl rfl rfl rfl) ?_ (.cons (.rt rfl) ?_ .nil))
 · simp only [hnm,Option.getD_some];exact af.of_eq (by simp [lQ,gG,mS,oh, *];try rfl)
 exact af.prop (by rw [hnm];simp)
theorem KH:cW Tryz.prog 267 [ag .i64 code] (bD [aC (gG ((ta code).getD S3)),aq (ta code).isSome]):=by
 refine In 32 Tryz.func267 fun _ _ _=> ?_
 refine Z2 ?_
 refine .n (ax FZ.out) rfl fun b2 _=> ?_
 refine Z6 ?_
 refine .p (cA (h:=MB)) rfl ?_
 refine Z4 ?_
 refine .aT (σ:=Nat) (fun _=>_) (fun k=>[(9,ag .i64 (k:Int))]) (fun k=>k≤iQ.length∧cN (fun r:nR=>r.code=code) iQ k) (fun k=>iQ.length-k) 0 ⟨by omega,cN.zero _ _⟩ rfl ?_ ?_
 · exact (.get rfl (af.refl _) (.refl _ _))
 rintro k ⟨hk,hn⟩
 refine Z6 ?_
 refine Cd (fun c0=> ?_) fun c0=> ?_
 ·
  have Gp:k<iQ.length:=by have:iQ.length=47:=rfl;omega
  obtain ⟨x,Qo⟩:=ah (xs:=iQ) (k:=k) Gp
  refine Z6 ?_
  refine .p (uM iQ FU.out FC.out rfl FA.out (.t rfl) rfl rfl (.t rfl) rfl (by assumption)) rfl ?_
  refine .n (ax FZ.out) rfl fun b5 _=> ?_
  refine Z3 ?_
  refine .share (t:=5) (i:=0) rfl rfl ?_
  refine Z8 ?_
  refine Cd (fun c1=> ?_) fun c1=> ?_
  ·
   have hro:=Uf Qo c1 hn
   refine lg ?_
   refine Post.bf rfl rfl () trivial (fun _ _ _ _=>trivial) rfl (.cons (.ra (i:=0) FA.out FC.out rfl rfl rfl rfl) ?_ (.cons (.rt rfl) ?_ .nil))
   · rw [hro];exact af.refl _
   exact af.prop (by rw [hro];simp)
  refine Z7 ?_
  refine .round (k+1) ⟨by omega,hn.succ Qo c1⟩ (by omega) rfl ?_
  exact (.get rfl (af.int (by omega)) (.keep 11 rfl rfl))
 have NX:k=iQ.length:=by have:iQ.length=47:=rfl;omega
 subst NX
 refine Z8 ?_
 refine .p (cA (h:=MC)) rfl ?_
 refine Z4 ?_
 refine .aT (σ:=Nat) (fun _=>_) (fun j=>[(19,ag .i64 (j:Int))]) (fun j=>j≤jK.length∧cN (fun r:nR=>r.code=code) jK j) (fun j=>jK.length-j) 0 ⟨by omega,cN.zero _ _⟩ rfl ?_ ?_
 · exact (.get rfl (af.refl _) (.refl _ _))
 rintro j ⟨hj,hm⟩
 refine Z6 ?_
 refine Cd (fun c2=> ?_) fun c2=> ?_
 ·
  have am3:j<jK.length:=by have:jK.length=6:=rfl;omega
  obtain ⟨y,hxj⟩:=ah (xs:=jK) (k:=j) am3
  refine Z6 ?_
  refine .p (uM jK FU.out FC.out rfl FA.out (.t rfl) rfl rfl (.t rfl) rfl (by assumption)) rfl ?_
  refine .n (ax FZ.out) rfl fun b7 _=> ?_
  refine Z3 ?_
  refine .share (t:=7) (i:=0) rfl rfl ?_
  refine Z8 ?_
  refine Cd (fun c3=> ?_) fun c3=> ?_
  ·
   have hro:=Ug hn hxj c3 hm
   refine lg ?_
   refine Post.bf rfl rfl () trivial (fun _ _ _ _=>trivial) rfl (.cons (.ra (i:=0) FA.out FC.out rfl rfl rfl rfl) ?_ (.cons (.rt rfl) ?_ .nil))
   · rw [hro];exact af.refl _
   exact af.prop (by rw [hro];simp)
  refine Z7 ?_
  refine .round (j+1) ⟨by omega,hm.succ hxj c3⟩ (by omega) rfl ?_
  exact (.get rfl (af.int (by omega)) (.keep 11 rfl rfl))
 have Wx:j=jK.length:=by have:jK.length=6:=rfl;omega
 subst Wx
 refine Z8 ?_
 refine .p (cA (h:=Bb)) rfl ?_
 refine Z7 ?_
 refine Post.bf rfl rfl () trivial (fun _ _ _ _=>trivial) rfl (.cons (.ra (i:=0) FA.out FC.out rfl rfl rfl rfl) ?_ (.cons (.rt rfl) ?_ .nil))
 · rw [O1 hn hm];exact af.refl _
 exact af.prop (by rw [O1 hn hm])
theorem uy (av:q8 l) (hp1:l.length≤65536):cW Tryz.prog 293 [cZ l] (ai 1 aj (gJ l)):=by
 refine In 20 Tryz.func293 fun _ _ _=> ?_
 refine iW ?_
 refine .n (Em FU.out (.t rfl)) rfl fun b7 _=> ?_
 refine Z3 ?_
 refine .eu 1 aj ?_
 refine .aT (σ:=Nat×SB) (fun s=>[au s.2 1 aj (gJ (l.take s.1)),y9 b7 l s.1]) (fun s=>[(3,aa (bq s.2 (gJ (l.take s.1)).length))]) (fun s=>s.1≤l.length) (fun s=>l.length-s.1) (0,none) (by simp) (by simp [gJ]) ?_ ?_
 · exact (.get rfl (af.of_eq (by simp [bq])) (.refl _ _))
 rintro s hk
 have htl:=Aa (l.take s.1)
 have D4:(l.take s.1).length≤l.length:=by simp;omega
 refine Z2 ?_
 refine .n (JU (i:=1) av (by omega) (.t rfl) rfl) rfl fun _ _=> ?_
 refine .p (JV (.t rfl)) rfl ?_
 refine Z3 ?_
 refine Cd (fun c0=> ?_) fun c0=> ?_
 ·
  obtain ⟨x,hx⟩:=ah (xs:=l) (k:=s.1) c0
  rw [show min (s.1+1) l.length=s.1+1 by omega]
  refine Z5 ?_
  refine .p (JW (by assumption) (.t rfl)) rfl ?_
  refine Z9 ?_
  refine Cd (fun c1=> ?_) fun c1=> ?_
  ·
   refine Z2 ?_
   refine .p (cB aj [126]) rfl ?_
   refine .n (aD (i:=0) FU.out FU.out FC.out rfl FZ.out rfl FY.out (.t rfl) (.t rfl) rfl (by first|omega|(simp<;>omega)) (by first|omega|(simp<;>omega))) rfl fun g15 _=> ?_
   refine Z3 ?_
   refine .round (s.1+1,(by first|exact g15|exact g18)) (by omega) (by omega) (by first|(rw [mj hx c1];rfl)|(rw [mo hx c1];rfl)) ?_
   first|exact (.get rfl (af.of_eq (by rw [mj hx c1])) (.keep 11 rfl rfl))|exact (.get rfl (af.of_eq (by rw [mo hx c1])) (.keep 11 rfl rfl))
  refine Z2 ?_
  refine .p (cB aj [127]) rfl ?_
  refine .n (aD (i:=0) FU.out FU.out FC.out rfl FZ.out rfl FY.out (.t rfl) (.t rfl) rfl (by first|omega|(simp<;>omega)) (by first|omega|(simp<;>omega))) rfl fun g18 _=> ?_
  refine Z3 ?_
  refine .round (s.1+1,(by first|exact g15|exact g18)) (by omega) (by omega) (by first|(rw [mj hx c1];rfl)|(rw [mo hx c1];rfl)) ?_
  first|exact (.get rfl (af.of_eq (by rw [mj hx c1])) (.keep 11 rfl rfl))|exact (.get rfl (af.of_eq (by rw [mo hx c1])) (.keep 11 rfl rfl))
 have hall:l.take s.1=l:=List.take_of_length_le (by omega)
 rw [hall]
 refine .er (n:=1) (enc:=aj) (i:=0) (t:=3) rfl rfl ?_
 refine dM ?_
 refine bL ?_
 exact af.refl _
theorem MD {r:nR} (av:Fx r):cW Tryz.prog 268 [aC (gG r)] (aC (sW (ug r))):=by
 refine In 16 Tryz.func268 fun _ _ _=> ?_
 refine Z3 ?_
 refine .n (ax FZ.out) rfl fun b2 _=> ?_
 refine Z3 ?_
 refine .bx 12 2 FM.out (by kernel_rfl) (k:= ?_)
 refine Z8 ?_
 refine .p (cA (h:=uy av.1 (by have:=av.2.2.1;omega))) ?_
 refine Z2 ?_
 refine .p (cA (h:=uy av.2.1 (by have:=av.2.2.2;omega))) ?_
 refine Z6 ?_
 refine Post.aP rfl () trivial (fun _ _ _ _=>trivial) (.ra (i:=0) FA.out FC.out rfl rfl rfl rfl) ?_
 exact af.refl _
theorem find_spec:cW Tryz.prog 251 [ag .i64 code] (bD [aC (sW ((eL code).getD WT)),aq (eL code).isSome]):=by
 refine In 16 Tryz.func251 fun _ _ _=> ?_
 refine Z2 ?_
 refine .n (ax FZ.out) rfl fun b2 _=> ?_
 refine Z6 ?_
 refine .p (cA (h:=KH)) rfl ?_
 refine Z3 ?_
 refine .n (ax FZ.out) rfl fun b4 _=> ?_
 refine Z4 ?_
 refine .share (t:=4) (i:=0) rfl rfl ?_
 refine Z7 ?_
 refine Cd (fun c0=> ?_) fun c0=> ?_
 ·
  have hro:ta code=none:=by simpa using c0
  have rN:eL code=none:=by unfold eL;rw [hro];rfl
  refine Z9 ?_
  refine Post.bf rfl rfl () trivial (fun _ _ _ _=>trivial) rfl (.cons (.ra (i:=0) FA.out FC.out rfl rfl rfl rfl) ?_ (.cons (.rt rfl) ?_ .nil))
  · rw [rN];exact af.agg (.cons (af.refl _) (.cons rE (.cons (af.refl _) (.cons (aG _ _) (.cons (aG _ _) .nil)))))
  exact af.prop (by rw [rN];simp)
 obtain ⟨r,hro⟩:=Option.isSome_iff_exists.1 (Classical.not_not.1 c0)
 have rN:eL code=some (ug r):=by unfold eL;rw [hro];rfl
 have hok:=Kn hro
 simp only [hro,Option.getD_some]
 refine Z5 ?_
 refine .p (cA (h:=MD hok)) rfl ?_
 refine Z5 ?_
 refine Post.bf rfl rfl () trivial (fun _ _ _ _=>trivial) rfl (.cons (.ra (i:=0) FA.out FC.out rfl rfl rfl rfl) ?_ (.cons (.rt rfl) ?_ .nil))
 · rw [rN];exact af.refl _
 exact af.prop (by rw [rN];simp)
theorem Ja:cW Tryz.prog 282 [ag .i64 code] (bD [ag .i64 ((lR code).getD 0),aq (lR code).isSome]):=by
 refine In 47 Tryz.func282 fun _ _ _=> ?_
 refine Z9 ?_
 refine .p (cA (h:=find_spec)) rfl ?_
 refine Z3 ?_
 refine .n (ax FZ.out) rfl fun b4 _=> ?_
 refine Z4 ?_
 refine .share (t:=4) (i:=0) rfl rfl ?_
 refine dM ?_
 refine Cd (fun c0=> ?_) fun c0=> ?_
 ·
  have RU:lR code=none:=by
   cases hf:eL code with
   |none=>exact xX hf
   |some x=>
    refine FG hf (fun h8=> ?_)
    rw [hf] at c0;simp [h8] at c0
  refine Z8 ?_
  refine j9 ?_ ?_
  · exact af.int (by rw [RU];rfl)
  exact af.prop (by rw [RU];simp)
 obtain ⟨x,rN⟩:∃x,eL code=some x:=Option.isSome_iff_exists.1 (Classical.byContradiction fun h=>c0 (.inl h))
 simp only [rN,Option.getD_some] at c0 ⊢
 have hf8:x.Form=8:=by simpa using c0
 have RU:=IF rN hf8
 obtain ⟨hne,hnl⟩:=Rs rN
 refine Z5 ?_
 refine .p (gP (cs:=iR.flatMap jV) FR.out FZ.out (.cons (.s [56] rfl rfl) (.cons (.s [49,54] rfl rfl) (.cons (.s [51,50] rfl rfl) .nil))) rfl) rfl ?_
 refine Z4 ?_
 refine .aT (σ:=Nat) (fun _=>[]) (fun k=>[(24,ag .i64 (k:Int))]) (fun k=>k≤iR.length∧cN (fun s=>mF (z8 x.Name) s) iR k) (fun k=>iR.length-k) 0 ⟨by omega,cN.zero _ _⟩ rfl ?_ ?_
 · exact (.get rfl (af.refl _) (.refl _ _))
 rintro k ⟨hk,hn⟩
 refine Z6 ?_
 refine Cd (fun c1=> ?_) fun c1=> ?_
 ·
  have Gp:k<iR.length:=by have:iR.length=3:=rfl;omega
  obtain ⟨s,Qo⟩:=ah (xs:=iR) (k:=k) Gp
  have Vi:iR.getD k []=s:=by rw [List.getD_eq_getElem?_getD,Qo];rfl
  refine Z7 ?_
  refine .p (jy FU.out FC.out FA.out (.t rfl) rfl (.t rfl) rfl (mY Gp)) rfl ?_
  refine Z8 ?_
  refine .p (bQ (PC hne) FB.out (.cons (.t rfl) (.cons (.s [46] rfl rfl) .nil))) rfl ?_
  refine dM ?_
  refine .p (bQ (rj) FB.out (.cons (.t rfl) (.cons (.s [95,115] rfl rfl) .nil))) rfl ?_
  refine .p (bQ (rj) FB.out (.cons (.t rfl) (.cons (.s [95,117] rfl rfl) .nil))) rfl ?_
  refine Z7 ?_
  refine .p (cA (h:=AI)) rfl ?_
  refine Z2 ?_
  refine Cd (fun c2=> ?_) fun c2=> ?_
  ·
   rw [Vi] at c2
   refine Z3 ?_
   refine .p (NV (.c _) (.t rfl) (by have h3:k<3:=Gp;show k≤64;omega)) rfl ?_
   refine cK ?_
   refine j9 ?_ ?_
   · exact af.int (by rw [RU,L6 Qo c2 hn];exact al5 Gp)
   exact af.prop (by rw [RU];simp)
  rw [Vi] at c2
  refine Z7 ?_
  refine .round (k+1) ⟨by omega,hn.succ Qo c2⟩ (by omega) rfl ?_
  exact (.get rfl (af.int (by omega)) (.keep 25 rfl rfl))
 have NX:k=iR.length:=by have:iR.length=3:=rfl;omega
 subst NX
 refine cK ?_
 refine .p (bQ (AJ) FB.out (.cons (.t rfl) (.cons (.s [105,54,52] rfl rfl) .nil))) rfl ?_
 refine Z2 ?_
 refine Cd (fun c3=> ?_) fun c3=> ?_
 ·
  refine Z8 ?_
  refine j9 ?_ ?_
  · exact af.int (by rw [RU,B1 hn,if_pos (by assumption)];rfl)
  exact af.prop (by rw [RU];simp)
 refine Z9 ?_
 refine j9 ?_ ?_
 · exact af.int (by rw [RU,B1 hn,if_neg (by assumption)];rfl)
 exact af.prop (by rw [RU];simp)
variable {x:aA} {cb:Nat} {bb:Nat} {bc:Nat} {m:aR} {f:cU} {gs:SB} {L0:List UInt8} {B:List Mb} {k:eH}
theorem Jb {s:dw} {labs:List (List UInt8)} (av:(L0++s.1).length≤60000) (hp1:Ah m f) (hp2:mT x):yf Tryz.prog 366 254 [aI cb 0,aC (aK x)] (Ae cb m f gs bb bc L0 B k s) (cD x.Code∧ia (cC m f) x s labs=none) (γ:=SB×dw) (fun z=>(cD x.Code∧ia (cC m f) x s labs=some z.2)∨(¬cD x.Code∧z=(gs,s))) (fun z=>Ae cb m f z.1 bb bc L0 B k z.2) (fun _=>aq (cD x.Code)):=by
 refine D1 93 Tryz.func254 fun _ _ _=> ?_
 have Cp:=hp1.fits.lens.1
 refine La ?_
 refine Cd (fun c0=> ?_) fun c0=> ?_
 ·
  refine Z1 ?_
  refine .bP [(0,0),(1,0),(2,0),(3,0),(4,1),(5,0),(6,0),(7,0),(8,0),(9,0),(10,0),(11,0),(12,4),(13,3)] 14 1 FM.out (by kernel_rfl) (k:= ?_)
  refine Z7 ?_
  refine .p rfl (fun _=>qd FU.out FU.out (.t rfl) (bY (by have:=hp2.A0;omega) (by have:=hp2.A16 c0;omega))) ?_
  refine .p rfl (fun _=>bQ (sV (m:=m) (f:=x.A)) FB.out (.cons (.t rfl) (.cons (.t rfl) .nil))) ?_
  refine Z3 ?_
  refine .a rfl (ax FZ.out) (fun _ _=>aB.drop (aB.refl _)) fun b5 _=> ?_
  refine .s rfl (gA (i:=0) FC.out rfl (.t rfl) (.t rfl) rfl rfl rfl) ?_
  refine .fin ?_
  refine Z3 ?_
  refine .share (t:=5) (i:=0) rfl rfl ?_
  refine Z3 ?_
  refine .x (cX (h:=eM (e:=2) (by decide))) rfl (fun h=>⟨by unfold cD;omega,by rw [Aj c0,sZ (f:=f) hp1.fits,show iU m x.A=none by simpa using h];rfl⟩) fun Ri Qh=> ?_
  refine Z2 ?_
  obtain ⟨g,hg⟩:=Option.isSome_iff_exists.1 Qh
  simp only [hg,Option.getD_some]
  have Us:ec (cC m f).ay x.A=some g:=(sZ (f:=f) hp1.fits).trans hg
  refine Z3 ?_
  refine .x (cX (h:=oM (s:=s) (g:=g) av (by have:=(hp1.fits.tu g (CS hg)).2;omega))) rfl (fun h=>⟨by unfold cD;omega,by rw [Aj c0,Us];exact h⟩) fun Vp WJ=> ?_
  refine Z9 ?_
  refine .kP (Post.aP rfl (Vp) (by exact .inl ⟨by unfold cD;omega,by rw [Aj c0,Us];exact WJ⟩) (fun _ _ _ h=>h) (.rt rfl) ?_)
  exact af.prop ⟨fun _=>by unfold cD;omega,fun _=>trivial⟩
 refine Z6 ?_
 refine Cd (fun c1=> ?_) fun c1=> ?_
 ·
  refine Z1 ?_
  have oN:=hp2.A0
  refine .bx 12 18 FM.out (by kernel_rfl) (k:= ?_)
  refine Z30 ?_
  refine .x (cX (h:=eM (e:=2) (by decide))) rfl (fun h=>⟨by unfold cD;omega,by (rw [w5 c1];cases hgg:ec (cC m f).bR x.A with|none=>rfl|some g=>exact if_neg (fun e=>h ⟨⟨(O7 hgg).2.1,e.1⟩,e.2⟩))⟩) fun Tc W9=> ?_
  refine Z3 ?_
  obtain ⟨⟨hlt,hB⟩,hTb⟩:=W9
  obtain ⟨g,hg,Us⟩:=vz (L:=m.bR) hp2.A0 hlt
  have hgs:ec (cC m f).bR x.A=some g:=hg
  refine Z2 ?_
  refine .x (cX (h:=fk (s:=s) (w:=127))) rfl (fun h=>⟨by unfold cD;omega,by rw [w5 c1,hgs,Option.bind_some,if_pos ⟨hB,hTb⟩,pS,jl,h];rfl⟩) fun g62 Vy=> ?_
  refine Z2 ?_
  refine .bx 13 1 FM.out (by kernel_rfl) (k:= ?_)
  refine cT ?_
  refine .p (cI x.A.toNat (h:=Us) (hi:=by have:=hp2.A0;omega)) ?_
  refine Z2 ?_
  refine .x (cX (h:=oM (s:=g62.1) (g:=g) (by simp only [List.length_append] at av ⊢;have:=nT Vy;omega) (by have:=(hp1.fits.tu g (List.mem_of_getElem? Us)).2;omega))) rfl (fun h=>⟨by unfold cD;omega,by rw [w5 c1,hgs,Option.bind_some,if_pos ⟨hB,hTb⟩,pS,jl,Vy];exact h⟩) fun g76 h76=> ?_
  refine Z9 ?_
  refine .kP (Post.aP rfl (g76) (by exact .inl ⟨by unfold cD;omega,by rw [w5 c1,hgs,Option.bind_some,if_pos ⟨hB,hTb⟩,pS,jl,Vy];exact h76⟩) (fun _ _ _ h=>h) (.rt rfl) ?_)
  exact af.prop ⟨fun _=>by unfold cD;omega,fun _=>trivial⟩
 refine Z6 ?_
 refine Cd (fun c2=> ?_) fun c2=> ?_
 ·
  refine Z2 ?_
  refine .x (cX (h:=fk (s:=s) (w:=0))) rfl (fun h=>⟨by unfold cD;omega,by rw [IJ c2,h];rfl⟩) fun VB Xa=> ?_
  refine Z9 ?_
  refine .kP (Post.aP rfl ((gs,VB.1)) (by exact .inl ⟨by unfold cD;omega,by rw [IJ c2,Xa];rfl⟩) (fun _ _ _ h=>h) (.rt rfl) ?_)
  exact af.prop ⟨fun _=>by unfold cD;omega,fun _=>trivial⟩
 refine Z6 ?_
 refine Cd (fun c3=> ?_) fun c3=> ?_
 ·
  refine Z3 ?_
  refine .x (cX (h:=fk (s:=s) (w:=127))) rfl (fun h=>⟨by unfold cD;omega,by rw [uk c3,gq,h];rfl⟩) fun g84 Xb=> ?_
  refine Z5 ?_
  refine .x (cX (h:=fk (s:=g84.1) (w:=0))) rfl (fun h=>⟨by unfold cD;omega,by rw [uk c3,gq,Xb];simp only [Option.map_some,Option.bind_some];rw [h];rfl⟩) fun g86 h86=> ?_
  refine Z7 ?_
  refine .x (cX (h:=fk (s:=g86.1) (w:=g86.2))) rfl (fun h=>⟨by unfold cD;omega,by rw [uk c3,gq,Xb];simp only [Option.map_some,Option.bind_some];rw [h86,Option.bind_some,h];rfl⟩) fun VC h90=> ?_
  refine .p (cB aj [_]) rfl ?_
  refine .n (cE (h:=gY (st:=L0++VC.1.1) (l:=[VC.2]) (st2:=L0++(bC VC.1 [VC.2]).1) (by simp only [List.length_append] at av ⊢;have:=nT Xb;have:=nT h86;have:=nT h90;omega) (by simp) (by simp [bC]))) rfl fun Td Ut=> ?_
  refine Z9 ?_
  refine .kP (Post.aP rfl ((Td,bC VC.1 [VC.2])) (by exact .inl ⟨by unfold cD;omega,by rw [uk c3,gq,Xb];simp only [Option.map_some,Option.bind_some];rw [h86,Option.bind_some,h90];rfl⟩) (fun _ _ _ h=>h) (.rt rfl) ?_)
  exact af.prop ⟨fun _=>by unfold cD;omega,fun _=>trivial⟩
 refine Z8 ?_
 refine .kP (Post.aP rfl ((gs,s)) (by exact .inr ⟨by unfold cD;omega,rfl⟩) (fun _ _ _ h=>h) (.rt rfl) ?_)
 exact af.prop ⟨fun h=>h.elim,fun h=>by unfold cD at h;omega⟩
theorem DA {s:dw} (av:B.length≤50000) (hp1:mT x):yf Tryz.prog 366 277 [aI cb 0,aC (aK x)] (Ae cb m f gs bb bc L0 B k s) (∀v:om,x.Code=14→ia v x s ((B++[mq L0.length k s]).map A4)=none) (γ:=Unit) (fun _=>∀v:om,x.Code=14→ia v x s ((B++[mq L0.length k s]).map A4)=some eO) (fun _=>Ae cb m f gs bb bc L0 B k eO) (fun _=>bD []):=by
 refine D1 45 Tryz.func277 fun _ _ _=> ?_
 have hBl:(B++[mq L0.length k s]).length≤60000:=by simp;omega
 have hLn:=hp1.Ln
 refine cK ?_
 refine .x (K9 [_] [0,2,1] (h:=mD (n:=x.A) hBl hp1.A0)) rfl (fun h v yF=>by rw [mP yF,h];rfl) fun g12 h12=> ?_
 refine lg ?_
 refine .aT (σ:=Nat) (fun _=>_) (fun j=>[(16,ag .i64 (j:Int))]) (fun j=>j≤x.L.length) (fun j=>x.L.length-j) 0 (Nat.zero_le _) rfl ?_ ?_
 · exact (.get rfl (af.refl _) (.refl _ _))
 rintro j hj
 refine Z6 ?_
 refine Cd (fun c0=> ?_) fun c0=> ?_
 ·
  obtain ⟨n0,hn0⟩:=ah (xs:=x.L) (k:=j) (by omega)
  have hnp:=hp1.L0 n0 (List.mem_of_getElem? hn0)
  refine Z6 ?_
  refine .p (cI j (h:=hn0)) rfl ?_
  refine Z7 ?_
  refine .x (cX (h:=mD (n:=n0) hBl hnp)) rfl (fun h v yF=>by rw [mP yF,h12,Option.bind_some,if_neg (fun e=>by have h9:=e n0 (List.mem_of_getElem? hn0);rw [h] at h9;cases h9)]) fun g22 Vr=> ?_
  refine Z7 ?_
  refine .round (j+1) (by omega) (by omega) rfl ?_
  exact (.get rfl (af.int (by omega)) ((.keep 10 rfl rfl)))
 refine nZ ?_
 refine .aT (σ:=Nat) (fun _=>_) (fun j=>[(27,ag .i64 (j:Int))]) (fun j=>j≤x.L.length∧∀n∈x.L.take j,jj ((B++[mq L0.length k s]).map A4) n=some g12) (fun j=>x.L.length-j) 0 ⟨Nat.zero_le _,fun n hn=>by simp at hn⟩ rfl ?_ ?_
 · exact (.get rfl (af.refl _) (.refl _ _))
 rintro j ⟨hj,hall⟩
 refine Z6 ?_
 refine Cd (fun c1=> ?_) fun c1=> ?_
 ·
  obtain ⟨n0,hn0⟩:=ah (xs:=x.L) (k:=j) (by omega)
  have hnp:=hp1.L0 n0 (List.mem_of_getElem? hn0)
  refine Z6 ?_
  refine .p (cI j (h:=hn0)) rfl ?_
  refine Z7 ?_
  refine .x (cX (h:=mD (n:=n0) hBl hnp)) rfl (fun h v yF=>by rw [mP yF,h12,Option.bind_some,if_neg (fun e=>by have h9:=e n0 (List.mem_of_getElem? hn0);rw [h] at h9;cases h9)]) fun g33 h33=> ?_
  refine Z1 ?_
  refine .p (cA (h:=Fg)) rfl ?_
  refine .x (cX (h:=eM (e:=5) (by decide))) rfl (fun h v yF=>by rw [mP yF,h12,Option.bind_some,if_neg (fun e=>by have h9:=e n0 (List.mem_of_getElem? hn0);rw [h33] at h9;exact h (Option.some.inj h9))]) fun g36 OX=> ?_
  refine Z7 ?_
  refine .round (j+1) ⟨by omega,fun n hn=>by (rw [←bn hn0] at hn;rcases List.mem_append.1 hn with hn|hn;exact hall n hn;(simp only [List.mem_singleton] at hn;subst hn;rw [h33,OX]))⟩ (by omega) rfl ?_
  exact (.get rfl (af.int (by omega)) ((.keep 13 rfl rfl)))
 have tH:∀n∈x.L,jj ((B++[mq L0.length k s]).map A4) n=some g12:=fun n hn=>hall n (by rw [List.take_of_length_le (by omega)];exact hn)
 refine Z8 ?_
 refine .x (K9 [] [0,2,1] (h:=fk (s:=s) (w:=127))) rfl (fun h v yF=>by rw [mP yF,h12,Option.bind_some,if_pos tH,jl,h];rfl) fun g39 RV=> ?_
 refine Z6 ?_
 refine .x (cX (h:=jq (s:=g39.1) (l:=g12))) rfl (fun h v yF=>by rw [mP yF,h12,Option.bind_some,if_pos tH,jl,RV,Option.bind_some,h];rfl) fun Ud S9=> ?_
 refine Z4 ?_
 refine .n (cE (h:=qN (s:=Ud))) rfl fun g44 h44=> ?_
 refine Z1 ?_
 refine .rO (Post.ij rfl (()) (by exact fun v yF=>by rw [mP yF,h12,Option.bind_some,if_pos tH,jl,RV,Option.bind_some,S9];rfl) (fun _ _ _ h=>h) rfl)
theorem Gq (av:q8 l) (hp1:l.length≤65536):cw Tryz.prog 293 [cZ l] [] (γ:=SB) (fun _=>True) (fun g=>[au g 1 aj (gJ l)]) (fun g=>aa (bq g (gJ l).length)):=by
 refine In 20 Tryz.func293 fun _ _ _=> ?_
 refine iW ?_
 refine .n (Em FU.out (.t rfl)) rfl fun b7 _=> ?_
 refine Z3 ?_
 refine .eu 1 aj ?_
 refine .aT (σ:=Nat×SB) (fun s=>[au s.2 1 aj (gJ (l.take s.1)),y9 b7 l s.1]) (fun s=>[(3,aa (bq s.2 (gJ (l.take s.1)).length))]) (fun s=>s.1≤l.length) (fun s=>l.length-s.1) (0,none) (by simp) (by simp [gJ]) ?_ ?_
 · exact (.get rfl (af.of_eq (by simp [bq])) (.refl _ _))
 rintro s hk
 have htl:=Aa (l.take s.1)
 have D4:(l.take s.1).length≤l.length:=by simp;omega
 refine Z2 ?_
 refine .n (JU (i:=1) av (by omega) (.t rfl) rfl) rfl fun _ _=> ?_
 refine .p (JV (.t rfl)) rfl ?_
 refine Z3 ?_
 refine Cd (fun c0=> ?_) fun c0=> ?_
 ·
  obtain ⟨x,hx⟩:=ah (xs:=l) (k:=s.1) c0
  rw [show min (s.1+1) l.length=s.1+1 by omega]
  refine Z5 ?_
  refine .p (JW (by assumption) (.t rfl)) rfl ?_
  refine Z9 ?_
  refine Cd (fun c1=> ?_) fun c1=> ?_
  ·
   refine Z2 ?_
   refine .p (cB aj [126]) rfl ?_
   refine .n (aD (i:=0) FU.out FU.out FC.out rfl FZ.out rfl FY.out (.t rfl) (.t rfl) rfl (by first|omega|(simp<;>omega)) (by first|omega|(simp<;>omega))) rfl fun g15 _=> ?_
   refine Z3 ?_
   refine .round (s.1+1,(by first|exact g15|exact g18)) (by omega) (by omega) (by first|(rw [mj hx c1];rfl)|(rw [mo hx c1];rfl)) ?_
   first|exact (.get rfl (af.of_eq (by rw [mj hx c1])) (.keep 11 rfl rfl))|exact (.get rfl (af.of_eq (by rw [mo hx c1])) (.keep 11 rfl rfl))
  refine Z2 ?_
  refine .p (cB aj [127]) rfl ?_
  refine .n (aD (i:=0) FU.out FU.out FC.out rfl FZ.out rfl FY.out (.t rfl) (.t rfl) rfl (by first|omega|(simp<;>omega)) (by first|omega|(simp<;>omega))) rfl fun g18 _=> ?_
  refine Z3 ?_
  refine .round (s.1+1,(by first|exact g15|exact g18)) (by omega) (by omega) (by first|(rw [mj hx c1];rfl)|(rw [mo hx c1];rfl)) ?_
  first|exact (.get rfl (af.of_eq (by rw [mj hx c1])) (.keep 11 rfl rfl))|exact (.get rfl (af.of_eq (by rw [mo hx c1])) (.keep 11 rfl rfl))
 have hall:l.take s.1=l:=List.take_of_length_le (by omega)
 rw [hall]
 refine dM ?_
 refine Post.aP rfl (s.2) (by trivial) (aB.dD [0] [1] rfl rfl) (.rt rfl) ?_
 exact af.refl _
theorem Jc {r:nR} (av:Fx r):cw Tryz.prog 268 [aC (gG r)] [] (γ:=SB) (fun _=>True) (fun g=>[au g 1 aj (ug r).vm]) (fun g=>aC (mz (ug r) g)):=by
 refine In 16 Tryz.func268 fun _ _ _=> ?_
 refine Z3 ?_
 refine .n (ax FZ.out) rfl fun b2 _=> ?_
 refine Z3 ?_
 refine .bP [(0,0),(1,0),(2,0),(3,0),(4,0),(5,0),(6,0),(7,0),(9,0),(10,0),(8,2),(11,0)] 12 2 FM.out (by kernel_rfl) (k:= ?_)
 refine cK ?_
 refine .e rfl (cE (h:=Gq av.1 (by have:=av.2.2.1;omega))) fun g11 h11=> ?_
 refine .p rfl (fun _=>bQ (uy av.2.1 (by have:=av.2.2.2;omega)) FB.out (.cons (.t rfl) .nil)) ?_
 refine .fin ?_
 refine .p (bl.le (aL FP.out FZ.out (.cons (.t rfl) (.cons (.t rfl) (.cons (.t rfl) (.cons (.t rfl) (.cons (.t rfl) .nil))))) rfl) (af.refl (aC (mz (ug r) g11)))) rfl ?_
 refine Z4 ?_
 refine Post.aP rfl (g11) (by trivial) (aB.dD [0] [1] rfl rfl) (.ra (i:=1) FA.out FC.out rfl rfl rfl rfl) ?_
 exact af.refl _
variable {i:pR}
theorem Jd (av:eL code=some i):cw Tryz.prog 251 [ag .i64 code] [] (γ:=SB) (fun _=>True) (fun g=>[au g 1 aj i.vm]) (fun g=>bD [aC (mz i g),aq True]):=by
 refine In 16 Tryz.func251 fun _ _ _=> ?_
 refine Z2 ?_
 refine .n (ax FZ.out) rfl fun b2 _=> ?_
 refine Z6 ?_
 refine .p (cA (h:=KH)) rfl ?_
 refine Z3 ?_
 refine .n (ax FZ.out) rfl fun b4 _=> ?_
 refine Z4 ?_
 refine .share (t:=4) (i:=0) rfl rfl ?_
 refine Z7 ?_
 refine Cd (fun c0=> ?_) fun c0=> ?_
 ·
  exfalso;have hro:ta code=none:=by simpa using c0
  unfold eL at av;rw [hro] at av;cases av
 obtain ⟨r,hro⟩:=Option.isSome_iff_exists.1 (Classical.not_not.1 c0)
 have rN:i=ug r:=by unfold eL at av;rw [hro] at av;exact (Option.some.inj av).symm
 subst rN
 have hok:=Kn hro
 simp only [hro,Option.getD_some]
 refine Z5 ?_
 refine .n (cE (h:=Jc hok)) rfl fun g15 D5=> ?_
 refine Z5 ?_
 refine Post.bf rfl rfl (g15) (by trivial) (aB.dD [0] [1] rfl rfl) rfl (.cons (.ra (i:=1) FA.out FC.out rfl rfl rfl rfl) ?_ (.cons (.rt rfl) ?_ .nil))
 · exact af.refl _
 exact af.refl _
theorem DB {s:dw} {gi:SB} (av:(L0++s.1).length≤60000) (hp1:Ah m f) (hp2:mT x) (fI:aU x.Code=8) (oe:eL x.Code=some i):yf Tryz.prog 366 255 [aI cb 0,aC (aK x),aC (mz i gi)] (au gi 1 aj i.vm::Ae cb m f gs bb bc L0 B k s) (rz (cC m f) x s=none) (γ:=SB×dw) (fun z=>rz (cC m f) x s=some z.2) (fun z=>Ae cb m f z.1 bb bc L0 B k z.2) (fun _=>bD []):=by
 refine D1 50 Tryz.func255 fun _ _ _=> ?_
 obtain ⟨t0,tl,D4⟩:=Ku fI
 have hin:=mZ oe
 have hiT:i.vm=t0::tl:=hin.2.2.2.2.1.trans D4
 have Vm:i.tC.length≤3:=by rw [hin.2.2.2.2.2.1];exact (jG x.Code).2
 unfold mz
 rw [hiT]
 refine Z3 ?_
 refine .n (bT (.t rfl)) rfl fun b5 _=> ?_
 refine Z7 ?_
 refine .x (K9 [_,_,_,_] [2,0,1,3,4] (h:=qO hp1 hp2.A0)) rfl (fun h=>by rw [qH fI,show (cC m f).bN=m.bp.map (·.bN) from rfl,bV,h];rfl) fun g12 h12=> ?_
 refine .n (ax FZ.out) rfl fun b6 _=> ?_
 refine Z3 ?_
 refine .share (t:=6) (i:=0) rfl rfl ?_
 refine Z9 ?_
 refine .x (cX (h:=eM (e:=2) (by decide))) rfl (fun h=>by rw [qH fI,show (cC m f).bN=m.bp.map (·.bN) from rfl,bV,h12];exact if_pos (.inl ⟨fun hw=>h (.inl hw),by have:¬x.B≤4294967295:=fun hb=>h (.inr hb);omega⟩)) fun g20 W8=> ?_
 refine Z6 ?_
 refine .p (cA (h:=Ja (code:=x.Code))) rfl ?_
 refine nZ ?_
 refine .g (cm.gT rfl rfl rfl rfl (fun hg=>(NV (s:=x.dz.toNat) (.c _) (.le (.when (.t rfl) hg) (af.int (by have:=hp2.a0;omega))) (by show _≤64;have:=hp2.a31;omega)).le (af.int (Rz hg)))) rfl rfl ?_
 refine Z3 ?_
 refine .x (cX (h:=eM (e:=5) (by decide))) rfl (fun h=>by rw [qH fI,show (cC m f).bN=m.bp.map (·.bN) from rfl,bV,h12];exact if_pos (.inr (Classical.byContradiction fun hn=>h (Ao.2 hn)))) fun g37 h37=> ?_
 refine Z3 ?_
 refine .iy 2 rfl (by simp) fun ib ic Us=> ?_
 subst Us
 refine .bx 4 2 FM.out (by kernel_rfl) (k:= ?_)
 refine Z3 ?_
 refine .p (cA (h:=o6 (l:=g12))) ?_
 refine Z1 ?_
 refine .p (aX 0 FU.out FC.out rfl (.t rfl) (.c _) rfl (by simp)) rfl ?_
 refine .s (gC (enc:=aj) (i:=2) (r:=0) (bS g12.bN) rfl FC.out (.t rfl) (.t rfl) rfl (show (t0::tl)[0]?=some t0 from rfl) rfl rfl) ?_
 refine Z2 ?_
 refine .eR (i:=2) (j:=1) (f:=3) rfl rfl rfl ?_
 refine Z7 ?_
 refine .x (K9 [_] [0,2,3,1] (h:=oM (s:=s) (g:=⟨bS g12.bN::tl,i.tC⟩) av (by show i.tC.length≤60000;omega))) rfl (fun h=>by rw [qH fI,show (cC m f).bN=m.bp.map (·.bN) from rfl,bV,h12];exact (if_neg (by rintro (⟨a,b⟩|a);(rcases W8 with h9|h9;exact a h9;omega);exact Ao.1 h37 a)).trans (by rw [D4,←hin.2.2.2.2.2.1];exact h)) fun Uc h49=> ?_
 refine Z1 ?_
 refine .rO (Post.ij rfl (Uc) (by exact (by rw [qH fI,show (cC m f).bN=m.bp.map (·.bN) from rfl,bV,h12];exact (if_neg (by rintro (⟨a,b⟩|a);(rcases W8 with h9|h9;exact a h9;omega);exact Ao.1 h37 a)).trans (by rw [D4,←hin.2.2.2.2.2.1];exact h49))) (aB.dD [0,1,2] [3] rfl rfl) rfl)
theorem Je {s:dw} {gi:SB} (av:(L0++s.1).length≤60000) (hp1:Ah m f) (hp2:mT x) (fI:aU x.Code=9∨aU x.Code=10):yf Tryz.prog 366 256 [aI cb 0,aC (aK x),aC (mz i gi)] (Ae cb m f gs bb bc L0 B k s) (rz (cC m f) x s=none) (γ:=SB×dw) (fun z=>rz (cC m f) x s=some z.2) (fun z=>Ae cb m f z.1 bb bc L0 B k z.2) (fun _=>bD []):=by
 refine D1 55 Tryz.func256 fun _ _ _=> ?_
 have hcs:x.Code=63∨x.Code=64∨x.Code=64523∨x.Code=64522:=fI.elim (fun h=>by have:=O9 h;omega) (fun h=>by have:=Kt h;omega)
 refine cT ?_
 refine .x (cX (h:=qO hp1 hp2.A0)) rfl (fun h=>by (rcases hcs with h9|h9|h9|h9;rw [yK h9,show (cC m f).bN=m.bp.map (·.bN) from rfl,bV,h];rfl;rw [vB h9,show (cC m f).bN=m.bp.map (·.bN) from rfl,bV,h];rfl;rw [pU h9,show (cC m f).bN=m.bp.map (·.bN) from rfl,bV,h];rfl;rw [nk h9,show (cC m f).bN=m.bp.map (·.bN) from rfl,bV,h];rfl)) fun g12 h12=> ?_
 refine .p (cA (h:=o6 (l:=g12))) rfl ?_
 refine D0 ?_
 refine Cd (fun c0=> ?_) fun c0=> ?_
 ·
  refine Z3 ?_
  refine .p (cB aj [bS g12.bN]) rfl ?_
  refine .n (cE (h:=gY (st:=L0++s.1) (l:=[bS g12.bN]) (st2:=L0++(bC s [bS g12.bN]).1) (by simp only [List.length_append] at av ⊢;omega) (by simp) (by simp [bC]))) rfl fun Qf Rk=> ?_
  refine Z2 ?_
  refine .rO (Post.ij rfl ((Qf,bC s [bS g12.bN])) (by exact (by rw [yK c0,show (cC m f).bN=m.bp.map (·.bN) from rfl,bV,h12];rfl)) (fun _ _ _ h=>h) rfl)
 refine Z6 ?_
 refine Cd (fun c1=> ?_) fun c1=> ?_
 ·
  refine Z4 ?_
  refine .x (cX (h:=fk (s:=s) (w:=bS g12.bN))) rfl (fun h=>by rw [vB c1,show (cC m f).bN=m.bp.map (·.bN) from rfl,bV,h12];simp only [Option.map_some,Option.bind_some];rw [pS,gq,h];rfl) fun g43 h43=> ?_
  refine Z5 ?_
  refine .p (cB aj [bS g12.bN]) rfl ?_
  refine .n (cE (h:=gY (st:=L0++g43.1.1) (l:=[bS g12.bN]) (st2:=L0++(bC g43.1 [bS g12.bN]).1) (by simp only [List.length_append] at av ⊢;have:=nT h43;omega) (by simp) (by simp [bC]))) rfl fun Xc h47=> ?_
  refine Z2 ?_
  refine .rO (Post.ij rfl ((Xc,bC g43.1 [bS g12.bN])) (by exact (by rw [vB c1,show (cC m f).bN=m.bp.map (·.bN) from rfl,bV,h12];simp only [Option.map_some,Option.bind_some];rw [pS,gq,h43];rfl)) (fun _ _ _ h=>h) rfl)
 refine Z6 ?_
 refine Cd (fun c2=> ?_) fun c2=> ?_
 ·
  refine Z4 ?_
  refine .p (cB aj [bS g12.bN,127,bS g12.bN]) rfl ?_
  refine .x (cX (h:=jq (s:=s) (l:=[bS g12.bN,127,bS g12.bN]))) rfl (fun h=>by rw [pU c2,show (cC m f).bN=m.bp.map (·.bN) from rfl,bV,h12];exact h) fun yp VA=> ?_
  refine Z2 ?_
  refine .rO (Post.ij rfl ((gs,yp)) (by exact (by rw [pU c2,show (cC m f).bN=m.bp.map (·.bN) from rfl,bV,h12];exact VA)) (fun _ _ _ h=>h) rfl)
 refine Z5 ?_
 refine .x (cX (h:=qO hp1 hp2.B0)) rfl (fun h=>by rw [nk (by omega),show (cC m f).bN=m.bp.map (·.bN) from rfl,bV,bV,h12,h];rfl) fun g19 Vo=> ?_
 refine .p (cA (h:=o6 (l:=g19))) rfl ?_
 refine Z8 ?_
 refine .cut (σ:=Unit) (fun _=>Ae cb m f gs bb bc L0 B k s) (fun _=>[(8,ag .u8 ((bS (g12.bN∧g19.bN):UInt8).toNat:Int))]) (fun _=>True) ?_ ?_
 ·
  refine cK ?_
  refine Cd (fun c3=> ?_) fun c3=> ?_
  ·
   refine Z3 ?_
   refine .meet () trivial rfl (.get rfl (af.of_eq (by rw [show bS (g12.bN∧g19.bN)=126 from if_pos ⟨mw.1 c3.1,mw.1 c3.2⟩];rfl)) (.keep 7 rfl rfl))
  refine Z1 ?_
  refine .meet () trivial rfl (.get rfl (af.of_eq (by rw [show bS (g12.bN∧g19.bN)=127 from if_neg (fun h=>c3 ⟨mw.2 h.1,mw.2 h.2⟩)];rfl)) (.keep 6 rfl rfl))
 intro _ _
 refine Z5 ?_
 refine .p (cB aj [bS g12.bN,bS g19.bN,bS (g12.bN∧g19.bN)]) rfl ?_
 refine .x (cX (h:=jq (s:=s) (l:=[bS g12.bN,bS g19.bN,bS (g12.bN∧g19.bN)]))) rfl (fun h=>by rw [nk (by omega),show (cC m f).bN=m.bp.map (·.bN) from rfl,bV,bV,h12,Vo];exact h) fun W7 T9=> ?_
 refine Z2 ?_
 refine .rO (Post.ij rfl ((gs,W7)) (by exact (by rw [nk (by omega),show (cC m f).bN=m.bp.map (·.bN) from rfl,bV,bV,h12,Vo];exact T9)) (fun _ _ _ h=>h) rfl)
variable {fs:List eH}
theorem Bc {b:eH} (av:(de fs++b.st.1).length≤60000) (hp1:Ah m f) (hp2:mT x) (fI:fs.length≤50000) (oe:Dl (fs++[b])) (yE:fL x.Code):yf Tryz.prog 366 252 [aI cb 0,aC (aK x)] (O5 cb m f gs (some (bb,bc)) (de fs++b.st.1) (jS fs++[mq (de fs).length b b.st])) (jm m f x fs b=none) (γ:=S5) (fun z=>Kv m f x fs b z) (fun z=>ckZ cb m f z) (fun _=>aq True):=by
 refine D1 74 Tryz.func252 fun _ _ _=> ?_
 have hBl:(jS fs).length≤50000:=by rw [FJ];exact fI
 have Uu:(jS fs++[mq (de fs).length b b.st]).length≤60000:=by simp;omega
 have hbr:b.res.length≤20:=oe b (by simp)
 have hl0:(de fs).length≤60000:=by simp only [List.length_append] at av;omega
 unfold fL at yE
 refine La ?_
 refine Cd (fun c0=> ?_) fun c0=> ?_
 ·
  refine Z2 ?_
  refine .n (cE (h:=qN (k:=b) (s:=b.st))) rfl fun g11 h11=> ?_
  refine Z9 ?_
  refine .kP (Post.aP rfl ((gs,some (bb,bc),de fs++(eO).1,jS fs++[mq (de fs).length b (eO)])) (by exact iF (by omega) (by omega) (by unfold aQ;omega) (by rw [←gL fs b b.st,S4 (by omega)])) (fun _ _ _ h=>h) (.rt rfl) ?_)
  exact af.refl _
 refine Z6 ?_
 refine Cd (fun c1=> ?_) fun c1=> ?_
 ·
  refine Z3 ?_
  refine .x (cX (h:=fk (k:=b) (s:=b.st) (w:=127))) rfl (fun h=>by rw [uo (by unfold aQ;omega),if_pos c1,gq,h];rfl) fun g15 D5=> ?_
  refine Z5 ?_
  refine .n (cE (h:=AG (x:=x) (B:=jS fs++[mq (de fs).length b g15.1]) (by simp;omega) hp2.A0)) rfl fun g18 Re=> ?_
  refine Z9 ?_
  refine .kP (Post.aP rfl ((gs,g18,de fs++g15.1.1,(jS fs++[mq (de fs).length b g15.1])++[mq (de fs++g15.1.1).length ⟨x.Code=3,x.Code=4,eD x,([],False)⟩ ([],False)])) (by exact ⟨_,by rw [uo (by unfold aQ;omega),if_pos c1,gq,D5];rfl,B5 fs b g15.1 x⟩) (fun _ _ _ h=>h) (.rt rfl) ?_)
  exact af.refl _
 refine .cut (σ:=Unit) (fun _=>O5 cb m f gs (some (bb,bc)) (de fs++b.st.1) (jS fs++[mq (de fs).length b b.st])) (fun _=>[(19,aq (x.Code=2∨x.Code=3))]) (fun _=>True) ?_ ?_
 ·
  refine Z6 ?_
  refine Cd (fun c2=> ?_) fun c2=> ?_
  ·
   refine Z1 ?_
   refine .meet () trivial rfl (.get rfl (af.prop (by omega)) (.keep 2 rfl rfl))
  refine Z4 ?_
  refine .meet () trivial rfl (.get rfl (af.prop (by omega)) (.keep 4 rfl rfl))
 intro _ _
 refine Cd (fun c3=> ?_) fun c3=> ?_
 ·
  refine Z3 ?_
  refine .n (cE (h:=AG (x:=x) (B:=jS fs++[mq (de fs).length b b.st]) Uu hp2.A0)) rfl fun g24 Kj=> ?_
  refine Z9 ?_
  refine .kP (Post.aP rfl ((gs,g24,de fs++b.st.1,(jS fs++[mq (de fs).length b b.st])++[mq (de fs++b.st.1).length ⟨x.Code=3,x.Code=4,eD x,([],False)⟩ ([],False)])) (by exact ⟨_,by rw [uo (by unfold aQ;omega),if_neg c1];rfl,B5 fs b b.st x⟩) (fun _ _ _ h=>h) (.rt rfl) ?_)
  exact af.refl _
 refine Z6 ?_
 refine Cd (fun c4=> ?_) fun c4=> ?_
 ·
  refine Z2 ?_
  refine .x (cX (h:=Gn (k:=b) (s:=b.st) (by omega))) rfl (fun h=>A6 (by omega) h) fun Vp WJ=> ?_
  refine Z9 ?_
  refine .kP (Post.aP rfl ((gs,Vp,de fs,jS fs++[mq (de fs).length ⟨b.loop,False,b.res,([],False)⟩ ([],False)])) (by exact ⟨_,IK (by omega) WJ,Mf fs b⟩) (fun _ _ _ h=>h) (.rt rfl) ?_)
  exact af.refl _
 refine Z6 ?_
 refine Cd (fun c5=> ?_) fun c5=> ?_
 ·
  refine Z2 ?_
  refine .x (cX (h:=Mx (k:=b) (s:=b.st) hl0 (by omega))) rfl (fun h=>Dk (by omega) h) fun W7 T9=> ?_
  refine Z9 ?_
  refine .kP (Post.aP rfl ((W7,some (bb,bc),de fs++b.res,jS fs)) (by exact ⟨_,Me (by omega) T9,Pa fs b.res⟩) (fun _ _ _ h=>h) (.rt rfl) ?_)
  exact af.refl _
 refine Z6 ?_
 refine Cd (fun c6=> ?_) fun c6=> ?_
 ·
  refine Z6 ?_
  refine .x (K9 [_] [0,2,1] (h:=mD (n:=x.A) Uu hp2.A0)) rfl (fun h=>dV (by omega) (by omega) (by unfold aQ;omega) (by rw [←gL fs b b.st,wZ (by omega),h];rfl)) fun g39 RV=> ?_
  refine .x (K9 [] [0,2,1] (h:=jq (k:=b) (s:=b.st) (l:=g39))) rfl (fun h=>dV (by omega) (by omega) (by unfold aQ;omega) (by rw [←gL fs b b.st,wZ (by omega),RV,Option.bind_some,h];rfl)) fun xe VD=> ?_
  refine Z4 ?_
  refine .n (cE (h:=qN (k:=b) (s:=xe))) rfl fun Ud S9=> ?_
  refine Z9 ?_
  refine .kP (Post.aP rfl ((gs,some (bb,bc),de fs++(eO).1,jS fs++[mq (de fs).length b (eO)])) (by exact iF (by omega) (by omega) (by unfold aQ;omega) (by rw [←gL fs b b.st,wZ (by omega),RV,Option.bind_some,VD];rfl)) (fun _ _ _ h=>h) (.rt rfl) ?_)
  exact af.refl _
 refine Z6 ?_
 refine Cd (fun c7=> ?_) fun c7=> ?_
 ·
  refine Z5 ?_
  refine .x (K9 [_] [0,2,1] (h:=mD (n:=x.A) Uu hp2.A0)) rfl (fun h=>dV (by omega) (by omega) (by unfold aQ;omega) (by rw [←gL fs b b.st,sv (by omega),h];rfl)) fun Mw h48=> ?_
  refine Z6 ?_
  refine .x (K9 [] [0,2,1] (h:=fk (k:=b) (s:=b.st) (w:=127))) rfl (fun h=>dV (by omega) (by omega) (by unfold aQ;omega) (by rw [←gL fs b b.st,sv (by omega),h48,Option.bind_some,pS,jl,h];rfl)) fun Xd h50=> ?_
  refine Z6 ?_
  refine .x (cX (h:=jq (k:=b) (s:=Xd.1) (l:=Mw))) rfl (fun h=>dV (by omega) (by omega) (by unfold aQ;omega) (by rw [←gL fs b b.st,sv (by omega),h48,Option.bind_some,pS,jl,h50,Option.bind_some,h];rfl)) fun ME Uv=> ?_
  refine Z5 ?_
  refine .n (cE (h:=gY (st:=de fs++ME.1) (l:=Mw) (st2:=de fs++(bC ME Mw).1) (by simp only [List.length_append] at av ⊢;have:=nT h50;have:=uj Uv;omega) (by rw [gL] at h48;have:=RB oe h48;omega) (by simp [bC]))) rfl fun VE Xe=> ?_
  refine Z9 ?_
  refine .kP (Post.aP rfl ((VE,some (bb,bc),de fs++(bC ME Mw).1,jS fs++[mq (de fs).length b (bC ME Mw)])) (by exact iF (by omega) (by omega) (by unfold aQ;omega) (by rw [←gL fs b b.st,sv (by omega),h48,Option.bind_some,pS,jl,h50,Option.bind_some,Uv];rfl)) (fun _ _ _ h=>h) (.rt rfl) ?_)
  exact af.refl _
 refine Z6 ?_
 refine Cd (fun c8=> ?_) fun c8=> ?_
 ·
  refine Z3 ?_
  refine .x (cX (h:=DA (k:=b) (s:=b.st) hBl hp2)) rfl (fun h=>dV (by omega) (by omega) (by unfold aQ;omega) (by rw [←gL fs b b.st];exact h _ (by omega))) fun Da Rh=> ?_
  refine Z9 ?_
  refine .kP (Post.aP rfl ((gs,some (bb,bc),de fs++eO.1,jS fs++[mq (de fs).length b eO])) (by exact iF (by omega) (by omega) (by unfold aQ;omega) (by rw [←gL fs b b.st];exact Rh _ (by omega))) (fun _ _ _ h=>h) (.rt rfl) ?_)
  exact af.refl _
 refine Z6 ?_
 refine Cd (fun c9=> ?_) fun c9=> ?_
 ·
  refine Z9 ?_
  refine .x (cX (h:=jq (k:=b) (s:=b.st) (l:=(cv m f.iA).R))) rfl (fun h=>dV (by omega) (by omega) (by unfold aQ;omega) (by rw [←gL fs b b.st,Dh (by omega)];rw [show (cC m f).cS.R=(cv m f.iA).R from rfl,h];rfl)) fun g71 h71=> ?_
  refine Z4 ?_
  refine .n (cE (h:=qN (k:=b) (s:=g71))) rfl fun Uw Qp=> ?_
  refine Z9 ?_
  refine .kP (Post.aP rfl ((gs,some (bb,bc),de fs++(eO).1,jS fs++[mq (de fs).length b (eO)])) (by exact iF (by omega) (by omega) (by unfold aQ;omega) (by rw [←gL fs b b.st,Dh (by omega)];rw [show (cC m f).cS.R=(cv m f.iA).R from rfl,h71];rfl)) (fun _ _ _ h=>h) (.rt rfl) ?_)
  exact af.refl _
 exfalso;omega
theorem nW (av:¬fL x.Code):cW Tryz.prog 252 [jA,aC (aK x)] (aq False):=by
 refine In 74 Tryz.func252 fun _ _ _=> ?_
 unfold fL at av
 refine La ?_
 refine Cd (fun c0=> ?_) fun c0=> ?_
 · exfalso;omega
 refine Z6 ?_
 refine Cd (fun c1=> ?_) fun c1=> ?_
 · exfalso;omega
 refine .cut (σ:=Unit) (fun _=>[]) (fun _=>[(19,aq (x.Code=2∨x.Code=3))]) (fun _=>True) ?_ ?_
 ·
  refine Z6 ?_
  refine Cd (fun c2=> ?_) fun c2=> ?_
  · exfalso;omega
  refine Z4 ?_
  refine .meet () trivial rfl (.get rfl (af.prop (by omega)) (.keep 4 rfl rfl))
 intro _ _
 refine Cd (fun c3=> ?_) fun c3=> ?_
 · exfalso;omega
 refine Z6 ?_
 refine Cd (fun c4=> ?_) fun c4=> ?_
 · exfalso;omega
 refine Z6 ?_
 refine Cd (fun c5=> ?_) fun c5=> ?_
 · exfalso;omega
 refine Z6 ?_
 refine Cd (fun c6=> ?_) fun c6=> ?_
 · exfalso;omega
 refine Z6 ?_
 refine Cd (fun c7=> ?_) fun c7=> ?_
 · exfalso;omega
 refine Z6 ?_
 refine Cd (fun c8=> ?_) fun c8=> ?_
 · exfalso;omega
 refine Z6 ?_
 refine Cd (fun c9=> ?_) fun c9=> ?_
 · exfalso;omega
 refine Z8 ?_
 refine bL ?_
 exact .z
theorem rm (av:¬ee x.Code):cW Tryz.prog 253 [jA,aC (aK x)] (aq False):=by
 refine In 62 Tryz.func253 fun _ _ _=> ?_
 unfold ee at av
 refine La ?_
 refine Cd (fun c0=> ?_) fun c0=> ?_
 · exfalso;omega
 refine Z6 ?_
 refine Cd (fun c1=> ?_) fun c1=> ?_
 · exfalso;omega
 refine Z6 ?_
 refine Cd (fun c2=> ?_) fun c2=> ?_
 · exfalso;omega
 refine Z6 ?_
 refine Cd (fun c3=> ?_) fun c3=> ?_
 · exfalso;omega
 refine Z6 ?_
 refine Cd (fun c4=> ?_) fun c4=> ?_
 · exfalso;omega
 refine Z8 ?_
 refine bL ?_
 exact .z
theorem Gr (av:¬cD x.Code):cW Tryz.prog 254 [jA,aC (aK x)] (aq False):=by
 refine In 93 Tryz.func254 fun _ _ _=> ?_
 unfold cD at av
 refine La ?_
 refine Cd (fun c0=> ?_) fun c0=> ?_
 · exfalso;omega
 refine Z6 ?_
 refine Cd (fun c1=> ?_) fun c1=> ?_
 · exfalso;omega
 refine Z6 ?_
 refine Cd (fun c2=> ?_) fun c2=> ?_
 · exfalso;omega
 refine Z6 ?_
 refine Cd (fun c3=> ?_) fun c3=> ?_
 · exfalso;omega
 refine Z8 ?_
 refine bL ?_
 exact .z
theorem Jf {b:eH} (av:(de fs++b.st.1).length≤60000) (hp1:Ah m f) (hp2:mT x) (fI:fs.length≤50000) (oe:Dl (fs++[b])) (yE:ji x.Code≠[]):yf Tryz.prog 366 233 [aI cb 0,aC (aK x)] (O5 cb m f gs (some (bb,bc)) (de fs++b.st.1) (jS fs++[mq (de fs).length b b.st])) (jm m f x fs b=none) (γ:=S5) (fun z=>Kv m f x fs b z) (fun z=>ckZ cb m f z) (fun _=>bD []):=by
 refine D1 54 Tryz.func233 fun _ _ _=> ?_
 obtain ⟨i,hi⟩:∃i,eL x.Code=some i:=Option.isSome_iff_exists.1 (O3.2 yE)
 have hin:=mZ hi
 have Vm:i.tC.length≤3:=by rw [hin.2.2.2.2.2.1];exact (jG x.Code).2
 refine Z9 ?_
 refine .n (cE (h:=Jd hi)) rfl fun g9 h9=> ?_
 refine Z3 ?_
 refine .n (ax FZ.out) rfl fun b4 _=> ?_
 refine Z6 ?_
 have hcase:fL x.Code∨(¬fL x.Code∧ee x.Code)∨(¬fL x.Code∧¬ee x.Code∧cD x.Code)∨(¬fL x.Code∧¬ee x.Code∧¬cD x.Code):=by by_cases h1:fL x.Code<;>by_cases h2:ee x.Code<;>by_cases h3:cD x.Code<;>simp [h1,h2,h3]
 rcases hcase with hc|⟨hc,hv⟩|⟨hc,hv,hk⟩|⟨hc,hv,hk⟩
 ·
  refine Z3 ?_
  refine .x (K9 [_,_] [2,3,4,0,1] (h:=Bc av hp1 hp2 fI oe hc)) rfl (fun h=>h) fun g22 Vr=> ?_
  refine Z3 ?_
  refine .N2 rfl rfl rfl rfl rfl (by simp) rfl ?_
  refine .p (CA (.t rfl) trivial .ct) rfl ?_
  refine Z3 ?_
  refine .N2 rfl rfl rfl rfl rfl (by simp) rfl ?_
  refine .p (CA (.t rfl) trivial .ct) rfl ?_
  refine Z3 ?_
  refine Cd (fun c0=> ?_) fun c0=> ?_
  ·
   refine Z2 ?_
   refine .rO (Post.ij rfl (g22) (by exact Vr) (aB.dD [0,1,2] [3,4] rfl rfl) rfl)
  exact absurd trivial c0
 ·
  refine Z3 ?_
  refine .p (bQ (nW hc) FB.out (.cons (.le (.t rfl) af.any) (.cons (.t rfl) .nil))) rfl ?_
  refine Z3 ?_
  refine .gx rfl rfl rfl (by simp) (zk (rest:=[_,_]) (AH (k:=b) (s:=b.st) (labs:=((fs++[b]).map sn)) av hp1 hp2) FB.out (.cons (.when (.t rfl) (fun h=>h)) (.cons (.when (.t rfl) (fun h=>h)) .nil)) (Perm.idx [2,3,4,0,1] rfl rfl)) rfl (fun h=>dV (by unfold ee at hv;omega) (by unfold ee at hv;omega) (by unfold ee at hv;unfold aQ;omega) h.2) fun Ux Xf=> ?_
  refine .p (JZ (.t rfl) (fun h=>h) (.t rfl)) rfl ?_
  refine Z3 ?_
  refine .N2 rfl rfl rfl rfl rfl (by simpa using hv) rfl ?_
  refine .p (CA (.t rfl) hv .ct) rfl ?_
  refine Z3 ?_
  refine Cd (fun c0=> ?_) fun c0=> ?_
  ·
   refine Z2 ?_
   refine .rO (Post.ij rfl ((Ux.1,some (bb,bc),de fs++Ux.2.1,jS fs++[mq (de fs).length b Ux.2])) (by (rcases Xf with ⟨_,h⟩|⟨h,_⟩;exact iF (by unfold ee at hv;omega) (by unfold ee at hv;omega) (by unfold ee at hv;unfold aQ;omega) h;exact absurd hv h)) (aB.dD [0,1,2] [3,4] rfl rfl) rfl)
  exact absurd trivial c0
 ·
  refine Z3 ?_
  refine .p (bQ (nW hc) FB.out (.cons (.le (.t rfl) af.any) (.cons (.t rfl) .nil))) rfl ?_
  refine Z3 ?_
  refine .g (cm.gF rfl rfl rfl rfl (fun hg=>bQ (rm hv) FB.out (.cons (.le (.when (.t rfl) hg) af.any) (.cons (.when (.t rfl) hg) .nil)))) rfl rfl ?_
  refine Z4 ?_
  refine .gx rfl rfl rfl (by simp) (zk (rest:=[_,_]) (Jb (k:=b) (s:=b.st) (labs:=((fs++[b]).map sn)) av hp1 hp2) FB.out (.cons (.when (.t rfl) (fun h=>h.elim id id)) (.cons (.when (.t rfl) (fun h=>h.elim id id)) .nil)) (Perm.idx [2,3,4,0,1] rfl rfl)) rfl (fun h=>dV (by unfold cD at hk;omega) (by unfold cD at hk;omega) (by unfold cD at hk;unfold aQ;omega) h.2) fun My Ur=> ?_
  refine .p (JZ (.t rfl) (fun h=>h.elim id id) (.t rfl)) rfl ?_
  refine Z3 ?_
  refine Cd (fun c0=> ?_) fun c0=> ?_
  ·
   refine Z2 ?_
   refine .rO (Post.ij rfl ((My.1,some (bb,bc),de fs++My.2.1,jS fs++[mq (de fs).length b My.2])) (by (rcases Ur with ⟨_,h⟩|⟨h,_⟩;exact iF (by unfold cD at hk;omega) (by unfold cD at hk;omega) (by unfold cD at hk;unfold aQ;omega) h;exact absurd hk h)) (aB.dD [0,1,2] [3,4] rfl rfl) rfl)
  exact absurd hk c0
 refine Z3 ?_
 refine .p (bQ (nW hc) FB.out (.cons (.le (.t rfl) af.any) (.cons (.t rfl) .nil))) rfl ?_
 refine Z3 ?_
 refine .g (cm.gF rfl rfl rfl rfl (fun hg=>bQ (rm hv) FB.out (.cons (.le (.when (.t rfl) hg) af.any) (.cons (.when (.t rfl) hg) .nil)))) rfl rfl ?_
 refine Z4 ?_
 refine .g (cm.gF rfl rfl rfl rfl (fun hg=>bQ (Gr hk) FB.out (.cons (.le (.when (.t rfl) hg) af.any) (.cons (.when (.t rfl) hg) .nil)))) rfl rfl ?_
 refine Z4 ?_
 refine Cd (fun c0=> ?_) fun c0=> ?_
 · exfalso;simp at c0
 refine Z8 ?_
 refine Cd (fun c1=> ?_) fun c1=> ?_
 ·
  have hxf:=hin.2.2.2.1
  refine Z4 ?_
  refine .x (K9 [_] [1,2,3,4,0] (h:=DB (k:=b) (s:=b.st) av hp1 hp2 (hin.2.2.2.1.symm.trans c1) hi)) rfl (fun h=>dV (by unfold fL at hc;omega) (by unfold fL at hc;omega) (by unfold fL at hc;unfold aQ;omega) ((gu hc hv hk (by omega)).trans h)) fun xe VD=> ?_
  refine Z2 ?_
  refine .rO (Post.ij rfl ((xe.1,some (bb,bc),de fs++xe.2.1,jS fs++[mq (de fs).length b xe.2])) (by exact iF (by unfold fL at hc;omega) (by unfold fL at hc;omega) (by unfold fL at hc;unfold aQ;omega) ((gu hc hv hk (by omega)).trans VD)) (aB.dD [0,1,2] [3] rfl rfl) rfl)
 have hxf:=hin.2.2.2.1
 refine lg ?_
 refine Cd (fun c2=> ?_) fun c2=> ?_
 ·
  refine Z4 ?_
  refine .x (K9 [_,_] [2,3,4,0,1] (h:=Je (k:=b) (s:=b.st) av hp1 hp2 (c2.imp (fun h=>hin.2.2.2.1.symm.trans h) (fun h=>hin.2.2.2.1.symm.trans h)))) rfl (fun h=>dV (by unfold fL at hc;omega) (by unfold fL at hc;omega) (by unfold fL at hc;unfold aQ;omega) ((gu hc hv hk (by omega)).trans h)) fun ME Uv=> ?_
  refine Z2 ?_
  refine .rO (Post.ij rfl ((ME.1,some (bb,bc),de fs++ME.2.1,jS fs++[mq (de fs).length b ME.2])) (by exact iF (by unfold fL at hc;omega) (by unfold fL at hc;omega) (by unfold fL at hc;unfold aQ;omega) ((gu hc hv hk (by omega)).trans Uv)) (aB.dD [0,1,2] [3,4] rfl rfl) rfl)
 have hff:aU x.Code<8∨10<aU x.Code:=by have:¬(i.Form=9∨i.Form=10):=c2;omega
 refine .eR (i:=1) (j:=0) (f:=3) rfl rfl rfl ?_
 refine Z7 ?_
 refine .x (K9 [_] [1,2,3,0] (h:=oM (k:=b) (s:=b.st) (g:=⟨i.vm,i.tC⟩) av (by show i.tC.length≤60000;omega))) rfl (fun h=>dV (by unfold fL at hc;omega) (by unfold fL at hc;omega) (by unfold fL at hc;unfold aQ;omega) ((Am hc hv hk hff).trans (by rw [←hin.2.2.2.2.1,←hin.2.2.2.2.2.1];exact h))) fun g18 Re=> ?_
 refine Z2 ?_
 refine .rO (Post.ij rfl ((g18.1,some (bb,bc),de fs++g18.2.1,jS fs++[mq (de fs).length b g18.2])) (by exact iF (by unfold fL at hc;omega) (by unfold fL at hc;omega) (by unfold fL at hc;unfold aQ;omega) ((Am hc hv hk hff).trans (by rw [←hin.2.2.2.2.1,←hin.2.2.2.2.2.1];exact Re))) (aB.dD [0,1,2] [3] rfl rfl) rfl)
theorem Jg (w:World):(Instr.typeAssert Value.nilIface 20 366 true).run Tryz.prog w= .ok (.tuple #[.agg #[.int .i64 0], .bool false]) w:=by
 kernel_rfl
theorem DC (e:Int) (w:World):(Instr.typeAssert (mH 366 e) 20 366 true).run Tryz.prog w= .ok (.tuple #[.agg #[.int .i64 e], .bool true]) w:=by
 kernel_rfl
theorem Jh (p:Value) (w:World):
    CallsD Tryz.prog 232 #[p] .returning w fun e u' w'=>e= .returned (.tuple #[])∧u'= .returning∧Below w.heap.size w w':=by
  refine callsD_of_wpS Tryz.func232 rfl fun c₀ cs hu=> ?_
  apply wpS_seq
  apply wpS_region
  simp [wpOpsS,go_sem,recoverD,hu,Tryz.ntmps232,Exit.thenS,Jg]
  apply wpS_seq
  apply wpS_region
  simp [wpOpsS,go_sem,Exit.thenS]
  refine wpS_cond (t:=false) (by simp [Act.eval,Array.replicate]) ?_
  simp only [Bool.false_eq_true,if_false]
  refine wpS_of_wp (wp_skip ?_)
  have hb:Below w.heap.size w (w.alloc (Obj.cells #[Value.int IntKind.i64 0] 366)):=(Below.refl _ _).alloc (Nat.le_refl _) _
  generalize w.alloc (Obj.cells #[Value.int IntKind.i64 0] 366)=w1 at hb
  cases c₀
  simp_all [bodyPostS,results,Tryz.results232]
theorem Ji {eb:Nat} {ch:List PanicEntry} (hc:zj 366 ch):
    Catch Tryz.prog 232 (.pointer (some ⟨eb,0,none⟩)) ch [az eb [ag .i64 0]] (δ:=Int) (fun e=>e≠0) (fun e=>[az eb [ag .i64 e]]):=by
  obtain ⟨e,he,rfl⟩:=hc
  intro w S F hS hF hSF hown
  obtain ⟨F1,F2,f1,f2,⟨hFb,arr,T,hh,hn,hcs⟩,_⟩:=hown
  obtain ⟨u0,Yj,JX⟩:=hcs 0 _ rfl
  simp only [aa] at JX
  subst JX
  have uH:arr= #[.int .i64 0]:=by
    refine Array.ext (by simpa using hn) fun i h1 h2=> ?_
    have:i=0:=by simp at h2;omega
    subst this
    have h3:arr[0]?=some arr[0]:=by simp at hn;simp [hn]
    rw [h3] at Yj
    simpa using Yj
  subst uH
  refine callsD_of_wpS Tryz.func232 rfl fun c₀ cs hu=> ?_
  apply wpS_seq
  apply wpS_region
  have Xg:recoverD (c₀::cs)=some (mH 366 e,{c₀ with mode:= .panicking [{v:=mH 366 e,recovered:=true}]}::cs):=by simp only [recoverD,hu]
  generalize hfv:mH 366 e=fv at Xg
  have am4:∀w:World,(Instr.typeAssert fv 20 366 true).run Tryz.prog w= .ok (.tuple #[.agg #[.int .i64 e], .bool true]) w:=fun w=>by rw [←hfv];exact DC e w
  simp [wpOpsS,go_sem,Xg,Tryz.ntmps232,Exit.thenS,am4]
  generalize am5:({fn:=c₀.fn,tmps:=c₀.tmps,todo:=c₀.todo,defers:=c₀.defers,mode:=FrameMode.panicking [{v:=fv,recovered:=true}],kind:=c₀.kind,roundOf:=c₀.roundOf}::cs:List Frame)=cs1
  generalize hw1:w.alloc (Obj.cells #[Value.int IntKind.i64 e] 366)=w1
  apply wpS_seq
  apply wpS_region
  simp [wpOpsS,go_sem,Exit.thenS]
  refine wpS_cond (t:=true) (by simp [Act.eval,Array.replicate]) ?_
  simp only [if_true]
  have aF:kI ⟨w,S,F,11,none,[]⟩ w1 S (fun k=>k=w.heap.size∨F k):=by
    rw [←hw1];exact (show kI ⟨w,S,F,11,none,[]⟩ w S F from ⟨rfl,rfl,rfl,Nat.le_refl _,fun _ _ _=>rfl,hSF,hS,hF,fun k hk=> .inl hk,fun k hk=> .inl hk,fun _ hk=>hk⟩).eN _
  have qn:∀k,F1 k→F k:=fun k hk=>(f1 k hk).1
  have Xh:cS [az w.heap.size [ag .i64 e],az eb [ag .i64 0]] (fun k=>k=w.heap.size∨F k) S w1:=by
    rw [←hw1]
    refine cS.eN ?_ hS hF _ (tI hS rfl fun j q hj=> ?_)
    · exact ⟨F1,fun _=>False,fun k hk=>⟨qn k hk,fun h=>h⟩,fun k hk=>hk.elim,⟨hFb,_,T,hh,hn,hcs⟩,trivial⟩
    · match j,hj with
      |0,hj=>simp at hj;subst hj;exact ⟨_,rfl,rfl⟩
      |j+1,hj=>simp at hj
  refine wpS_of_wp (wpIn_wide.1 (show Code.wpIn Fence.wide 0 _ _ _ _ _ from ?_))
  have key:∀{Q:Exit→Act→World→Prop},(∀a w',St ⟨w,S,F,11,none,[]⟩ [az eb [ag .i64 e],az w.heap.size [ag .i64 e]] [] a w'→Q .normal a w')→
      aM Tryz.prog Q ⟨w,S,F,11,none,[]⟩ (Code.region 2 #[⟨some 9, .fieldAddr 366 (.tmp 1) 0,0,"check.go:328", #[],none⟩,⟨some 10, .load 36 (.tmp 9),36,"check.go:328", #[⟨0, .data⟩],none⟩,⟨none, .store 36 (.tmp 0) (.tmp 10),0,"check.go:328", #[⟨1, .data⟩,⟨0, .phase⟩,⟨1, .phase⟩],none⟩] false)
        [az eb [ag .i64 0],az w.heap.size [ag .i64 e]] [(0,aI eb 0),(1,aI w.heap.size 0)]:=by
    intro Q hQ
    refine aM.region (.p (Ed FF.out (.t rfl)) rfl<| .p (fB (i:=1) FA.out (.t rfl) rfl rfl) rfl<| .s (iY (i:=0) FC.out (.t rfl) (.t rfl) rfl rfl)<| .nil ?_)
    exact fun a w' hst=>hQ a w' (hst.mono (fun _ _ _ _ t q h=>by cases h))
  refine key (fun a w' hst=> ?_) _ _ ⟨rfl,by simp,S,_,aF,Xh.perm (List.Perm.swap _ _ _), ?_⟩
  · obtain ⟨h1,h2,S',F',h3,h4,h5⟩:=hst
    refine ⟨h1,_,am5.symm, .tuple #[], ?_,rfl,⟨fv,rfl⟩,S',F',e,he,⟨h3.os,h3.tape,h3.output,h3.size,h3.kept,h3.dG,h3.bO,h3.bZ,h3.own,h3.shr,h3.base⟩, ?_⟩
    · simp [results,Tryz.results232]
    · obtain ⟨G1,G2,g1,g2,g3,g4⟩:=h4
      exact ⟨G1,fun _=>False,fun k hk=>⟨(g1 k hk).1,fun h=>h⟩,fun k hk=>hk.elim,g3,trivial⟩
  · intro t q hl
    rw [bH,bH] at hl
    split at hl
    · rename_i h0;subst h0;cases hl;simp [Array.replicate,aa]
    split at hl
    · rename_i h1;subst h1;cases hl;simp [Array.replicate,aa]
    · cases hl
theorem Xi {f:FuncId} {v:Value}:af (EP f [aa v]) (aa (.func (.func f) #[] #[v])):=fun S w u ⟨lb,hv,h1,h2⟩=>by
 match lb,h1,h2 with
 |[x],_,h2=>
  have:=h2 0 _ x rfl rfl
  simp only [aa] at this
  subst this;exact hv
def Te (m:aR) (f:cU) (x:aA) (fs:List eH) (b:eH) (g:Option S5×Int):Prop:=match g.1 with|some z=>g.2=0∧Kv m f x fs b z|none=>g.2≠0∧jm m f x fs b=none
abbrev PD (cb:Nat) (m:aR) (f:cU) (g:Option S5×Int):List HP:=match g.1 with|some z=>ckZ cb m f z|none=>[]
theorem Jj {b:eH} (av:(de fs++b.st.1).length≤60000) (hp1:Ah m f) (hp2:mT x) (fI:fs.length≤50000) (oe:Dl (fs++[b])) (yE:ji x.Code≠[]):
    cw Tryz.prog 211 [aI cb 0,aC (aK x)] (O5 cb m f gs (some (bb,bc)) (de fs++b.st.1) (jS fs++[mq (de fs).length b b.st])) (γ:=Option S5×Int) (Te m f x fs b) (PD cb m f) (fun g=>ag .i64 g.2):=by
  refine cw.QG 9 Tryz.func211 rfl rfl rfl fun w0 S0 M=> ?_
  refine aM.seq ?_
  refine aM.region (.p (ND (.t rfl)) rfl<| .n (ax FZ.out) rfl<|fun b4 _=> .nil ?_)
  refine bK.D9 ?_
  refine aM.seq ?_
  refine aM.region (.p (zI (.cons (.t rfl) .nil)) rfl<| .QH rfl (.le (.t rfl) Xi)<| .nil ?_)
  refine bK.D9 ?_
  refine aM.seq ?_
  refine aM.region (.p (Cl (.t rfl)) rfl<| .p (kK FA.out FC.out rfl (.t rfl) rfl) rfl<|
    .xd (sN (rest:=[az b4 [aa (.int .i64 0)]]) (Jf av hp1 hp2 fI oe yE) FB.out (.cons (.t rfl) (.cons (.t rfl) .nil)) (Perm.idx [1,2,3,0] rfl rfl)) rfl (fun ch hD hc=> ?_) (fun z hz=> .nil ?_))
  · refine fun a w hst=>bK.We (c:=⟨w0,S0,M,9,none,[]⟩) (φ:=Te m f x fs b) (hs':=PD cb m f) (q:=fun g=>ag .i64 g.2) (Ji hc) rfl rfl FB.out (fun e he=> ?_) a w hst
    refine Post.aP rfl (none,e) ⟨he,hD⟩ (fun _ _ _ _=>trivial) (.rc (i:=0) FA.out rfl rfl rfl) ?_
    exact af.refl _
  refine bK.D9 ?_
  refine aM.seq ?_
  refine aM.region (.s (iY (i:=3) FC.out (.t rfl) (.c _) rfl rfl)<| .nil ?_)
  refine bK.D9 ?_
  refine aM.ret ?_
  refine bK.Wd (c:=⟨w0,S0,M,9,none,[]⟩) (fun w=>Jh _ w) rfl rfl FB.out ?_
  refine Post.aP rfl (some z,0) ⟨rfl,hz⟩ (aB.dD [0,1,2] [3] rfl rfl) (.rc (i:=3) FA.out rfl rfl rfl) ?_
  exact af.refl _
theorem AL:cW Tryz.prog 247 [aC (aK x)] (ag .i64 (tD x)):=by
 refine In 15 Tryz.func247 fun _ _ _=> ?_
 refine cK ?_
 refine .p (cA (h:=find_spec)) rfl ?_
 refine Z3 ?_
 refine .n (ax FZ.out) rfl fun b3 _=> ?_
 refine Z4 ?_
 refine .share (t:=3) (i:=0) rfl rfl ?_
 refine Z7 ?_
 refine Cd (fun c0=> ?_) fun c0=> ?_
 ·
  have hf:eL x.Code=none:=by simpa using c0
  refine Z7 ?_
  refine bL ?_
  exact af.int (by unfold tD;rw [hf];rfl)
 obtain ⟨i,hf⟩:=Option.isSome_iff_exists.1 (Classical.not_not.1 c0)
 refine cK ?_
 refine bL ?_
 exact af.int (by unfold tD;rw [hf];rfl)
theorem lV {b al l:Int}:cW Tryz.prog 260 [aC (aK x),ag .u64 (b),ag .i64 (al),ag .i64 (l)] (aq (x.B=b∧x.dz=al∧(x.L.length:Int)=l)):=by
 refine In 26 Tryz.func260 fun _ _ _=> ?_
 refine Z29 ?_
 refine bL ?_
 exact af.prop and_assoc
variable {n:Int}
theorem Bd:cW Tryz.prog 261 [ag .u64 (n)] (aq (n=64∨n=127∨n=126)):=by
 refine In 13 Tryz.func261 fun _ _ _=> ?_
 refine Vf ?_
 refine bL ?_
 exact af.prop or_assoc
theorem jr:cW Tryz.prog 262 [ag .u64 (n)] (aq (uh n)):=by
 refine In 5 Tryz.func262 fun _ _ _=> ?_
 refine lg ?_
 refine bL ?_
 exact af.refl _
theorem DD:cW Tryz.prog 264 [ag .u64 (n)] (aq (¬uh n)):=by
 refine In 6 Tryz.func264 fun _ _ _=> ?_
 refine Z8 ?_
 refine .p (cA (h:=jr)) rfl ?_
 refine Z5 ?_
 refine bL ?_
 exact af.refl _
theorem Gs {l:List Int} {p:Int→Prop}:cW Tryz.prog 284 [ai 1 eA l,o9 Tryz.prog (fun _:Int=>True) (fun x=>[ag .u64 x]) (fun x=>aq (p x))] (ag .i64 (nC p l)):=by
 refine In 19 Tryz.func284 fun _ _ _=> ?_
 refine .fact (t:=0) rfl (fun S w v h=>bM h) fun hlen=> ?_
 refine iW ?_
 refine .aT (σ:=Nat) (fun _=>[]) (fun k=>[(8,ag .i64 (k:Int))]) (fun k=>k≤l.length∧cN p l k) (fun k=>l.length-k) 0 ⟨by omega,cN.zero p l⟩ rfl ?_ ?_
 · exact (.get rfl (af.refl _) (.refl _ _))
 rintro k ⟨hk,hnot⟩
 refine Z6 ?_
 refine Cd (fun c0=> ?_) fun c0=> ?_
 ·
  obtain ⟨x,hx⟩:=ah (xs:=l) (k:=k) (by omega)
  refine nZ ?_
  refine .p (cI _) rfl ?_
  refine Z1 ?_
  refine .p (cV x) rfl ?_
  refine Z2 ?_
  refine Cd (fun c1=> ?_) fun c1=> ?_
  ·
   refine dM ?_
   refine bL ?_
   exact af.int (qu hx (by assumption) hnot).symm
  refine Z7 ?_
  refine .round (k+1) ⟨by omega,hnot.succ hx (by assumption)⟩ (by omega) rfl ?_
  exact (.get rfl (af.int (by omega)) (.keep 12 rfl rfl))
 refine cT ?_
 refine bL ?_
 exact af.int (nh (hnot.all (by omega))).symm
theorem Gt {l:List Int} {p:Int→Prop}:cW Tryz.prog 263 [ai 1 eA l,o9 Tryz.prog (fun _:Int=>True) (fun x=>[ag .u64 x]) (fun x=>aq (p x))] (aq (∃x∈l,p x)):=by
 refine In 9 Tryz.func263 fun _ _ _=> ?_
 refine Z9 ?_
 refine .p (cA (h:=Gs)) rfl ?_
 refine Z5 ?_
 refine bL ?_
 exact af.prop je
theorem x7 (av:0≤x.A) (hp1:0≤x.B):cW Tryz.prog 243 [aC (aK x)] (aq (iJ x)):=by
 refine In 114 Tryz.func243 fun _ _ _=> ?_
 have hR:=Pe av hp1
 generalize hF:tD x=fi at hR
 refine cK ?_
 refine .p ((cA (h:=AL)).le (af.int hF)) rfl ?_
 refine Z9 ?_
 refine Cd (fun c0=> ?_) fun c0=> ?_
 ·
  refine Z7 ?_
  refine .g (cm.gT rfl rfl rfl rfl (fun hg=>bQ (lV) FB.out (.cons (.when (.t rfl) hg) (.cons (.c _) (.cons (.c _) (.cons (.c _) .nil)))))) rfl rfl ?_
  refine Z7 ?_
  refine bL ?_
  exact af.prop (by rw [hR];unfold mQ oI;simp [*,List.length_eq_zero_iff,Int.natCast_eq_zero,and_assoc,uh]<;>omega)
 refine Z6 ?_
 refine Cd (fun c1=> ?_) fun c1=> ?_
 ·
  refine Z4 ?_
  refine .p (cA (h:=Bd)) rfl ?_
  refine Z2 ?_
  refine .g (cm.gT rfl rfl rfl rfl (fun hg=>bQ (lV) FB.out (.cons (.when (.t rfl) hg) (.cons (.c _) (.cons (.c _) (.cons (.c _) .nil)))))) rfl rfl ?_
  refine Z7 ?_
  refine bL ?_
  exact af.prop (by rw [hR];unfold mQ oI;simp [*,List.length_eq_zero_iff,Int.natCast_eq_zero,and_assoc,uh]<;>omega)
 refine .cut (σ:=Unit) (fun _=>[]) (fun _=>[(24,aq (fi=2∨fi=4∨fi=6∨fi=7∨fi=9))]) (fun _=>True) ?_ ?_
 ·
  refine Z6 ?_
  refine Cd (fun c2=> ?_) fun c2=> ?_
  ·
   refine Z1 ?_
   refine .meet () trivial rfl (.get rfl (af.prop (by omega)) (.keep 2 rfl rfl))
  refine Z6 ?_
  refine Cd (fun c3=> ?_) fun c3=> ?_
  ·
   refine Z1 ?_
   refine .meet () trivial rfl (.get rfl (af.prop (by omega)) (.keep 4 rfl rfl))
  refine Z6 ?_
  refine Cd (fun c4=> ?_) fun c4=> ?_
  ·
   refine Z1 ?_
   refine .meet () trivial rfl (.get rfl (af.prop (by omega)) (.keep 6 rfl rfl))
  refine Z6 ?_
  refine Cd (fun c5=> ?_) fun c5=> ?_
  ·
   refine Z1 ?_
   refine .meet () trivial rfl (.get rfl (af.prop (by omega)) (.keep 8 rfl rfl))
  refine Z4 ?_
  refine .meet () trivial rfl (.get rfl (af.prop (by omega)) (.keep 10 rfl rfl))
 intro _ _
 refine Cd (fun c6=> ?_) fun c6=> ?_
 ·
  refine Z4 ?_
  refine .p (cA (h:=jr)) rfl ?_
  refine Z2 ?_
  refine .g (cm.gT rfl rfl rfl rfl (fun hg=>bQ (lV) FB.out (.cons (.when (.t rfl) hg) (.cons (.c _) (.cons (.c _) (.cons (.c _) .nil)))))) rfl rfl ?_
  refine Z7 ?_
  refine bL ?_
  exact af.prop (by rw [hR];unfold mQ oI;simp [*,List.length_eq_zero_iff,Int.natCast_eq_zero,and_assoc,uh]<;>omega)
 refine Z6 ?_
 refine Cd (fun c7=> ?_) fun c7=> ?_
 ·
  refine Z4 ?_
  refine .p (bQ (Gt (l:=x.L) (p:=fun n=>¬uh n)) FB.out (.cons (.t rfl) (.cons (.le (.f _) (uJ FB.out (fun (n:Int) (_:True)=>DD (n:=n)))) .nil))) rfl ?_
  refine Z7 ?_
  refine .p (cA (h:=jr)) rfl ?_
  refine nZ ?_
  refine .g (cm.gT rfl rfl rfl rfl (fun hg=>bQ (lV) FB.out (.cons (.when (.t rfl) hg) (.cons (.c _) (.cons (.c _) (.cons (.when (.t rfl) hg) .nil)))))) rfl rfl ?_
  refine Z7 ?_
  refine bL ?_
  exact af.prop (by rw [hR];unfold mQ oI;simp [*,List.length_eq_zero_iff,Int.natCast_eq_zero,and_assoc,uh]<;>omega)
 refine .cut (σ:=Unit) (fun _=>[]) (fun _=>[(62,aq (fi=5∨fi=10))]) (fun _=>True) ?_ ?_
 ·
  refine Z6 ?_
  refine Cd (fun c8=> ?_) fun c8=> ?_
  ·
   refine Z1 ?_
   refine .meet () trivial rfl (.get rfl (af.prop (by omega)) (.keep 2 rfl rfl))
  refine Z4 ?_
  refine .meet () trivial rfl (.get rfl (af.prop (by omega)) (.keep 4 rfl rfl))
 intro _ _
 refine Cd (fun c9=> ?_) fun c9=> ?_
 ·
  refine Z4 ?_
  refine .p (cA (h:=jr)) rfl ?_
  refine Z3 ?_
  refine .g (cm.gT rfl rfl rfl rfl (fun hg=>bQ (jr) FB.out (.cons (.when (.t rfl) hg) .nil))) rfl rfl ?_
  refine Z5 ?_
  refine .g (cm.gT rfl rfl rfl rfl (fun hg=>bQ (lV) FB.out (.cons (.when (.t rfl) hg) (.cons (.when (.t rfl) hg) (.cons (.c _) (.cons (.c _) .nil)))))) rfl rfl ?_
  refine Z7 ?_
  refine bL ?_
  exact af.prop (by rw [hR];unfold mQ oI;simp [*,List.length_eq_zero_iff,Int.natCast_eq_zero,and_assoc,uh]<;>omega)
 refine Z6 ?_
 refine Cd (fun lq=> ?_) fun lq=> ?_
 ·
  refine Z4 ?_
  refine .p (cA (h:=jr)) rfl ?_
  refine Z22 ?_
  refine bL ?_
  exact af.prop (by rw [hR];unfold mQ oI;simp [*,List.length_eq_zero_iff,Int.natCast_eq_zero,and_assoc,uh]<;>omega)
 refine Z6 ?_
 refine Cd (fun nc=> ?_) fun nc=> ?_
 ·
  refine Z8 ?_
  refine .g (cm.gF rfl rfl rfl rfl (fun hg=>bQ (jr) FB.out (.cons (.when (.t rfl) hg) .nil))) rfl rfl ?_
  refine Z3 ?_
  refine .g (cm.gT rfl rfl rfl rfl (fun hg=>bQ (lV) FB.out (.cons (.when (.t rfl) hg) (.cons (.c _) (.cons (.c _) (.cons (.c _) .nil)))))) rfl rfl ?_
  refine Z7 ?_
  refine bL ?_
  exact af.prop (by rw [hR];unfold mQ oI;simp [*,List.length_eq_zero_iff,Int.natCast_eq_zero,and_assoc,uh]<;>omega)
 refine Z9 ?_
 refine bL ?_
 exact af.prop (by rw [hR];unfold mQ oI;simp [*,List.length_eq_zero_iff,Int.natCast_eq_zero,and_assoc,uh]<;>omega)
variable {g:SB} {xs:List UInt8}
theorem s8 {n:Nat} (av:n<18446744073709551616) (hp1:xs.length≤100000):cw Tryz.prog 230 [aa (bq g xs.length),ag .u64 ((n:Int))] [au g 1 aj xs] (γ:=SB×List UInt8) (fun z=>z.2.length=xs.length+fK n) (fun z=>[au z.1 1 aj z.2]) (fun z=>aa (bq z.1 z.2.length)):=by
 refine In 21 Tryz.func230 fun _ _ _=> ?_
 have MF:=dF av
 refine Z7 ?_
 refine .aT (σ:=SB×List UInt8×Nat) (fun z=>[au z.1 1 aj z.2.1]) (fun z=>[(0,aa (bq z.1 z.2.1.length)),(1,ag .u64 (z.2.2:Int))]) (fun z=>z.2.1.length+fK z.2.2=xs.length+fK n∧z.2.2≤n) (fun z=>z.2.2) (g,xs,n) ⟨rfl,Nat.le_refl _⟩ rfl ?_ ?_
 · exact (.get rfl (af.refl _) (.get rfl (af.refl _) (.refl _ _)))
 rintro ⟨g1,ys,j⟩ ⟨hl,hk⟩
 simp only at hl hk ⊢
 refine Z7 ?_
 refine Cd (fun c0=> ?_) fun c0=> ?_
 ·
  refine Z7 ?_
  refine .p ((eP FU.out FU.out (.t rfl)).le (af.int (show _=((j%256:Nat):Int) by rw [oJ];omega))) rfl ?_
  refine .p (Aq (b:=127) (by omega) (by decide) (.t rfl) (.c _)) rfl ?_
  refine .p ((Kw (b:=128) (FW _) (by decide) (.t rfl) (.c _)).le (oK (Pd (FW _)))) rfl ?_
  refine .p (cB aj [(UInt8.ofNat ((j%256 &&& 127)|||128))]) rfl ?_
  refine .n (aD (i:=0) FU.out FU.out FC.out rfl FZ.out rfl FY.out (.t rfl) (.t rfl) rfl (by simp only [List.length_cons,List.length_nil];omega) (by simp only [List.length_cons,List.length_nil];omega)) rfl fun g13 _=> ?_
  refine Z5 ?_
  refine .p ((zi (s:=7) (.t rfl) (.c _) (by decide)).le (af.int (show ((j/2^7:Nat):Int)=((j/128:Nat):Int) from rfl))) rfl ?_
  refine Z3 ?_
  refine .round (g13,ys++[(UInt8.ofNat ((j%256 &&& 127)|||128))],j/128) ⟨by (show (ys++[_]).length+fK (j/128)=_;rw [List.length_append];simp only [List.length_cons,List.length_nil];have:=yH (n:=j) (by omega);omega),by show j/128≤n;omega⟩ (by show j/128<j;omega) rfl ?_
  exact (.get rfl (af.refl _) (.get rfl (af.refl _) ((.keep 15 rfl rfl))))
 refine Z9 ?_
 refine .p ((eP FU.out FU.out (.t rfl)).le (af.trans (af.int (show _=((j:Nat):Int) by rw [oJ];omega)) (oK (by omega)))) rfl ?_
 refine .p (cB aj [UInt8.ofNat j]) rfl ?_
 refine .n (aD (i:=0) FU.out FU.out FC.out rfl FZ.out rfl FY.out (.t rfl) (.t rfl) rfl (by simp only [List.length_cons,List.length_nil];omega) (by simp only [List.length_cons,List.length_nil];omega)) rfl fun g20 _=> ?_
 refine Z4 ?_
 refine Post.aP rfl ((g20,ys++[UInt8.ofNat j])) (by exact (by (show (ys++[_]).length=_;rw [List.length_append];simp only [List.length_cons,List.length_nil];have:=vu (n:=j) (by omega);omega))) (fun _ _ _ h=>h) (.rt rfl) ?_
 exact af.refl _
theorem Gu {a:Nat} (av:a≤1000):cW Tryz.prog 301 [ag .i64 ((a:Int))] (ag .i64 ((((a+6)/7:Nat):Int))):=by
 refine In 7 Tryz.func301 fun _ _ _=> ?_
 refine cK ?_
 refine .p (NU (.t rfl) (.c _) (by omega) (by omega) dL) rfl ?_
 refine Z4 ?_
 refine bL ?_
 exact af.int (by omega)
theorem Gv (av: -9223372036854775808≤n) (hp1:n≤9223372036854775807):cW Tryz.prog 289 [ag .i64 (n)] (ag .i64 ((lu n:Int))):=by
 refine In 12 Tryz.func289 fun _ _ _=> ?_
 refine Z5 ?_
 refine .cut (σ:=Unit) (fun _=>[]) (fun _=>[(0,ag .i64 (if n<0 then-n-1 else n))]) (fun _=>True) ?_ ?_
 ·
  refine Z6 ?_
  refine Cd (fun c0=> ?_) fun c0=> ?_
  ·
   refine Z2 ?_
   refine .p (Ml av hp1 (.t rfl)) rfl ?_
   refine Z2 ?_
   refine .meet () trivial rfl (.get rfl (af.int (by rw [if_pos c0])) (.keep 5 rfl rfl))
  refine Z1 ?_
  refine .meet () trivial rfl (.get rfl (af.int (by rw [if_neg c0])) (.keep 2 rfl rfl))
 intro _ _
 have ht:0≤(if n<0 then-n-1 else n)∧(if n<0 then-n-1 else n)≤9223372036854775807:=by split<;>omega
 generalize htn:(if n<0 then-n-1 else n)=t at ht
 have bu9:=WW (a:=t.toNat) (by omega)
 have hls:lu n=(yl t.toNat+7)/7:=by rw [RE,←htn];split<;>rfl
 refine Z4 ?_
 refine .p (bQ (Ik (a:=t.toNat) (by omega)) FB.out (.cons (.le (.t rfl) (af.int (show t=((t.toNat:Nat):Int) by omega))) .nil)) rfl ?_
 refine .p ((ep (.t rfl) (.c _) dL).le (af.int (show _=((yl t.toNat+1:Nat):Int) by omega))) rfl ?_
 refine .p (cA (h:=Gu (a:=yl t.toNat+1) (by omega))) rfl ?_
 refine Z4 ?_
 refine bL ?_
 exact af.int (by rw [hls])
theorem Jk (av: -9223372036854775808≤n) (hp1:n≤9223372036854775807) (hp2:xs.length≤100000):cw Tryz.prog 266 [aa (bq g xs.length),ag .i64 (n)] [au g 1 aj xs] (γ:=SB×List UInt8) (fun z=>z.2.length=xs.length+lu n) (fun z=>[au z.1 1 aj z.2]) (fun z=>aa (bq z.1 z.2.length)):=by
 refine In 27 Tryz.func266 fun _ _ _=> ?_
 have MF:=yI av (by omega:n<9223372036854775808)
 have hl0:=FI n
 refine Z9 ?_
 refine .p (cA (h:=Gv av hp1)) rfl ?_
 refine Z4 ?_
 refine .aT (σ:=SB×List UInt8×Nat×Int) (fun z=>[au z.1 1 aj z.2.1]) (fun z=>[(0,aa (bq z.1 z.2.1.length)),(1,ag .i64 z.2.2.2),(5,ag .i64 (z.2.2.1:Int))]) (fun z=>z.2.1.length+z.2.2.1=xs.length+lu n∧1≤z.2.2.1) (fun z=>z.2.2.1) (g,xs,lu n,n) ⟨rfl,hl0⟩ rfl ?_ ?_
 · exact (.get rfl (af.refl _) (.get rfl (af.refl _) (.get rfl (af.refl _) (.refl _ _))))
 rintro ⟨g1,ys,j,v⟩ ⟨hl,hk⟩
 simp only at hl hk ⊢
 refine Z7 ?_
 refine Cd (fun c0=> ?_) fun c0=> ?_
 ·
  refine Z8 ?_
  refine .p ((eP FU.out FU.out (.t rfl)).le (af.int (show _=(((v%256).toNat%256:Nat):Int) by rw [oJ];omega))) rfl ?_
  refine .p (Aq (b:=127) (by omega) (by decide) (.t rfl) (.c _)) rfl ?_
  refine .p ((Kw (b:=128) (FW _) (by decide) (.t rfl) (.c _)).le (oK (Pd (FW _)))) rfl ?_
  refine .p (cB aj [(UInt8.ofNat (((v%256).toNat%256 &&& 127)|||128))]) rfl ?_
  refine .n (aD (i:=0) FU.out FU.out FC.out rfl FZ.out rfl FY.out (.t rfl) (.t rfl) rfl (by simp only [List.length_cons,List.length_nil];omega) (by simp only [List.length_cons,List.length_nil];omega)) rfl fun g18 _=> ?_
  refine Z5 ?_
  refine .p (SG (s:=7) (.t rfl) (.c _) (by decide)) rfl ?_
  refine Z9 ?_
  refine .round (g18,ys++[(UInt8.ofNat (((v%256).toNat%256 &&& 127)|||128))],j-1,v/2^7) ⟨by (show (ys++[_]).length+(j-1)=_;rw [List.length_append];simp only [List.length_cons,List.length_nil];omega),by show 1≤j-1;omega⟩ (by show j-1<j;omega) rfl ?_
  exact (.get rfl (af.refl _) (.get rfl (af.refl _) (.get rfl (af.int (by show (_:Int)=((j-1:Nat):Int);omega)) ((.keep 19 rfl rfl)))))
 refine Z9 ?_
 refine .p ((eP FU.out FU.out (.t rfl)).le (af.int (show _=(((v%256).toNat%256:Nat):Int) by rw [oJ];omega))) rfl ?_
 refine .p ((Aq (b:=127) (by omega) (by decide) (.t rfl) (.c _)).le (oK (FW _))) rfl ?_
 refine .p (cB aj [UInt8.ofNat ((v%256).toNat%256 &&& 127)]) rfl ?_
 refine .n (aD (i:=0) FU.out FU.out FC.out rfl FZ.out rfl FY.out (.t rfl) (.t rfl) rfl (by simp only [List.length_cons,List.length_nil];omega) (by simp only [List.length_cons,List.length_nil];omega)) rfl fun Ux _=> ?_
 refine Z4 ?_
 refine Post.aP rfl ((Ux,ys++[UInt8.ofNat ((v%256).toNat%256 &&& 127)])) (by exact (by (show (ys++[_]).length=_;rw [List.length_append];simp only [List.length_cons,List.length_nil];omega))) (fun _ _ _ h=>h) (.rt rfl) ?_
 exact af.refl _
theorem j7 {l:List Int} (av:∀n∈l,0≤n∧n<18446744073709551616) (hp1:xs.length≤50000) (hp2:l.length≤200):cw Tryz.prog 248 [aa (bq g xs.length),ai 1 eA l] [au g 1 aj xs] (γ:=SB×List UInt8) (fun z=>z.2.length=xs.length+sw l) (fun z=>[au z.1 1 aj z.2]) (fun z=>aa (bq z.1 z.2.length)):=by
 refine In 18 Tryz.func248 fun _ _ _=> ?_
 refine iW ?_
 refine .aT (σ:=SB×List UInt8×Nat) (fun z=>[au z.1 1 aj z.2.1]) (fun z=>[(0,aa (bq z.1 z.2.1.length)),(9,ag .i64 (z.2.2:Int))]) (fun z=>z.2.1.length=xs.length+sw (l.take z.2.2)∧z.2.2≤l.length) (fun z=>l.length-z.2.2) (g,xs,0) ⟨by simp [sw],Nat.zero_le _⟩ rfl ?_ ?_
 · exact (.get rfl (af.refl _) (.get rfl (af.refl _) (.refl _ _)))
 rintro ⟨g1,ys,j⟩ ⟨hl,hk⟩
 simp only at hl hk ⊢
 have hsu:=qJ (l.take j) (fun n hn=>av n (List.mem_of_mem_take hn))
 have htl:(l.take j).length≤l.length:=by simp;omega
 refine Z6 ?_
 refine Cd (fun c0=> ?_) fun c0=> ?_
 ·
  obtain ⟨x,hx⟩:=ah (xs:=l) (k:=j) (by omega)
  obtain ⟨hx0,bv0⟩:=av x (List.mem_of_getElem? hx)
  refine Z6 ?_
  refine .p (cI j (h:=hx)) rfl ?_
  refine Z7 ?_
  refine .n (cz (rest:=[]) (s8 (n:=x.toNat) (by omega) (by omega)) FB.out (.cons (.t rfl) (.cons (.le (.t rfl) (af.int (show x=((x.toNat:Nat):Int) by omega))) .nil)) (Perm.idx [0] rfl rfl)) rfl fun g15 D5=> ?_
  refine Z8 ?_
  refine .round (g15.1,g15.2,j+1) ⟨by (show g15.2.length=_;rw [D5,hl,←bn hx,B7];unfold bG;omega),by show j+1≤_;omega⟩ (by show l.length-(j+1)<l.length-j;omega) rfl ?_
  exact (.get rfl (af.refl _) (.get rfl (af.int (by show (_:Int)=((j+1:Nat):Int);omega)) ((.keep 12 rfl rfl))))
 have hjl:l.take j=l:=List.take_of_length_le (by omega)
 refine dM ?_
 refine Post.aP rfl ((g1,ys)) (by exact (by (show ys.length=_;rw [hl,hjl]))) (fun _ _ _ h=>h) (.rt rfl) ?_
 exact af.refl _
theorem Jl (av:ji x.Code≠[]):cw Tryz.prog 246 [aC (aK x)] [] (γ:=SB×List UInt8) (fun z=>z.2.length=oL x) (fun z=>[au z.1 1 aj z.2]) (fun z=>aa (bq z.1 z.2.length)):=by
 refine In 16 Tryz.func246 fun _ _ _=> ?_
 have hci:=yL av
 refine iW ?_
 refine Cd (fun c0=> ?_) fun c0=> ?_
 ·
  refine Z4 ?_
  refine .p ((eP FU.out FU.out (.t rfl)).le (af.trans (af.int (show _=((x.Code.toNat:Nat):Int) by rw [oJ];omega)) (oK (by omega)))) rfl ?_
  refine .n (cq aj [UInt8.ofNat x.Code.toNat] FU.out FC.out rfl FZ.out rfl (.cons (.t rfl) .nil) rfl rfl rfl rfl rfl) rfl fun g9 _=> ?_
  refine Z5 ?_
  refine Post.aP rfl ((g9,[UInt8.ofNat x.Code.toNat])) (by exact (by unfold oL;rw [if_neg (by omega)];rfl)) (fun _ _ _ h=>h) (.rt rfl) ?_
  exact af.refl _
 refine Z4 ?_
 refine .n (cq aj [252] FU.out FC.out rfl FZ.out rfl (.cons (.c _) .nil) rfl rfl rfl rfl rfl) rfl fun g10 _=> ?_
 refine Z4 ?_
 refine .n (cz (rest:=[]) (s8 (xs:=[252]) (n:=(x.Code-64512).toNat) (by omega) (by simp)) FB.out (.cons (.t rfl) (.cons (.le (.t rfl) (af.int (show x.Code-64512=(((x.Code-64512).toNat:Nat):Int) by omega))) .nil)) (Perm.idx [0] rfl rfl)) rfl fun g15 D5=> ?_
 refine Z4 ?_
 refine Post.aP rfl (g15) (by exact (by rw [D5];unfold oL;rw [if_pos (by omega)];rfl)) (fun _ _ _ h=>h) (.rt rfl) ?_
 exact af.refl _
theorem MG (av:0≤x.A) (hp1:x.A<18446744073709551616) (hp2:0≤x.B) (fI:x.B<18446744073709551616) (oe:0≤x.dz) (yE:x.dz≤31) (Ql:xs.length≤50000):cw Tryz.prog 249 [aC (aK x),aa (bq g xs.length)] [au g 1 aj xs] (γ:=SB×List UInt8) (fun z=>z.2.length=xs.length+IN x) (fun z=>[au z.1 1 aj z.2]) (fun z=>aa (bq z.1 z.2.length)):=by
 refine In 27 Tryz.func249 fun _ _ _=> ?_
 refine iW ?_
 refine Cd (fun c0=> ?_) fun c0=> ?_
 ·
  refine Z8 ?_
  refine .p (cB eA [x.dz,x.B]) rfl ?_
  refine .n (cE (h:=j7 (l:=[x.dz,x.B]) (by simp;omega) Ql (by simp))) rfl fun g15 D5=> ?_
  refine Z5 ?_
  refine Post.aP rfl (g15) (by exact (by rw [D5];unfold IN;rw [if_pos c0];simp [sw])) (fun _ _ _ h=>h) (.rt rfl) ?_
  exact af.refl _
 refine lg ?_
 refine .p (cB eA [x.dz+64,x.A,x.B]) rfl ?_
 refine .n (cE (h:=j7 (l:=[x.dz+64,x.A,x.B]) (by simp;omega) Ql (by simp))) rfl fun Ux Xf=> ?_
 refine Z4 ?_
 refine Post.aP rfl (Ux) (by exact (by rw [Xf];unfold IN;rw [if_neg c0];simp [sw];omega)) (fun _ _ _ h=>h) (.rt rfl) ?_
 exact af.refl _
theorem Jm (av:0≤x.A) (hp1:x.A<18446744073709551616) (hp2:x.Code=65∨x.Code=66) (fI:x.Code=65→x.A≤4294967295) (oe:xs.length≤50000):cw Tryz.prog 250 [aC (aK x),aa (bq g xs.length)] [au g 1 aj xs] (γ:=SB×List UInt8) (fun z=>z.2.length=xs.length+lu (kG x)) (fun z=>[au z.1 1 aj z.2]) (fun z=>aa (bq z.1 z.2.length)):=by
 refine In 19 Tryz.func250 fun _ _ _=> ?_
 refine cK ?_
 refine .p ((eP FU.out FU.out (.t rfl)).le (af.int (Ky av hp1))) rfl ?_
 refine Z3 ?_
 refine .cut (σ:=Unit) (fun _=>[au g 1 aj xs]) (fun _=>[(5,ag .i64 (kG x))]) (fun _=>True) ?_ ?_
 ·
  refine Z7 ?_
  refine Cd (fun c0=> ?_) fun c0=> ?_
  ·
   refine Z3 ?_
   refine .p ((eP FU.out FU.out (.t rfl)).le (af.int (RF av (fI (by omega))))) rfl ?_
   refine .p (qd FU.out FU.out (.t rfl) (bY (by split<;>omega) (by split<;>omega))) rfl ?_
   refine Z2 ?_
   refine .meet () trivial rfl (.get rfl (af.int (by rw [show kG x=(if x.A<2147483648 then x.A else x.A-4294967296) from if_pos (by omega)])) (.keep 8 rfl rfl))
  refine Z1 ?_
  refine .meet () trivial rfl (.get rfl (af.int (by rw [show kG x=(if x.A<9223372036854775808 then x.A else x.A-18446744073709551616) from if_neg (by omega)])) (.keep 3 rfl rfl))
 intro _ _
 have VF: -9223372036854775808≤kG x∧kG x≤9223372036854775807:=by unfold kG;(repeat split)<;>omega
 refine Z4 ?_
 refine .n (cE (h:=Jk (n:=kG x) VF.1 VF.2 (by omega))) rfl fun g18 Re=> ?_
 refine Z4 ?_
 refine Post.aP rfl (g18) (by exact Re) (fun _ _ _ h=>h) (.rt rfl) ?_
 exact af.refl _
theorem DE (av:mT x) (hp1:iJ x):cw Tryz.prog 231 [aC (aK x)] [] (γ:=List UInt8) (fun l=>l.length=nS x) (fun _=>[]) (fun l=>bD [ai 1 aj l,ag .i64 0]):=by
 refine In 68 Tryz.func231 fun _ _ _=> ?_
 obtain ⟨hf,hne⟩:=IM av.A0 av.B0 hp1
 obtain ⟨r1,r2,r3,r4,r5,r6⟩:=id hp1
 have hL100:x.L.length≤100:=r6.elim (fun h=>by rw [h];simp) (fun h=>h.2)
 have oN:=av.A0
 have RW:=av.ym
 have hB0:=av.B0
 have Xj:=av.B64
 have hfb:=uq x.Code
 have RX:oL x≤20:=by unfold oL bG;split<;>(try have:=dF (n:=(x.Code-64512).toNat) (by have:=yL hne;omega))<;>omega
 refine cT ?_
 refine .p (cA (h:=x7 av.A0 av.B0)) rfl ?_
 refine Z3 ?_
 refine Cd (fun c0=> ?_) fun c0=> ?_
 · exact absurd hp1 c0
 refine Z5 ?_
 refine .n (cE (h:=Jl hne)) rfl fun g9 h9=> ?_
 refine Z3 ?_
 refine .cut (σ:=SB×List UInt8) (fun z=>[au z.1 1 aj z.2]) (fun z=>[(4,aa (bq z.1 z.2.length))]) (fun z=>z.2.length=nS x) ?_ ?_
 ·
  refine Z3 ?_
  refine .p ((cA (h:=AL)).le (af.int hf)) rfl ?_
  refine Z9 ?_
  refine Cd (fun c1=> ?_) fun c1=> ?_
  ·
   refine Z4 ?_
   refine .p ((eP FU.out FU.out (.t rfl)).le (af.trans (af.int (show _=((x.A.toNat%256:Nat):Int) by rw [oJ];omega)) (oK (by omega)))) rfl ?_
   refine .p (cB aj [UInt8.ofNat (x.A.toNat%256)]) rfl ?_
   refine .n (aD (i:=0) FU.out FU.out FC.out rfl FZ.out rfl FY.out (.t rfl) (.t rfl) rfl (by simp only [List.length_cons,List.length_nil];omega) (by simp only [List.length_cons,List.length_nil];omega)) rfl fun g19 _=> ?_
   refine Z3 ?_
   refine .meet (g19,g9.2++[UInt8.ofNat (x.A.toNat%256)]) (by (show ((g19,g9.2++[UInt8.ofNat (x.A.toNat%256)])).2.length=nS x;rw [gX];rw [if_pos c1];simp [h9])) rfl (.get rfl (af.refl _) (.keep 11 rfl rfl))
  refine .cut (σ:=Unit) (fun _=>[au g9.1 1 aj g9.2]) (fun _=>[(20,aq (aU x.Code=2∨aU x.Code=4∨aU x.Code=6∨aU x.Code=7∨aU x.Code=9))]) (fun _=>True) ?_ ?_
  ·
   refine Z6 ?_
   refine Cd (fun c2=> ?_) fun c2=> ?_
   ·
    refine Z1 ?_
    refine .meet () trivial rfl (.get rfl (af.prop (by omega)) (.keep 2 rfl rfl))
   refine Z6 ?_
   refine Cd (fun c3=> ?_) fun c3=> ?_
   ·
    refine Z1 ?_
    refine .meet () trivial rfl (.get rfl (af.prop (by omega)) (.keep 4 rfl rfl))
   refine Z6 ?_
   refine Cd (fun c4=> ?_) fun c4=> ?_
   ·
    refine Z1 ?_
    refine .meet () trivial rfl (.get rfl (af.prop (by omega)) (.keep 6 rfl rfl))
   refine Z6 ?_
   refine Cd (fun c5=> ?_) fun c5=> ?_
   ·
    refine Z1 ?_
    refine .meet () trivial rfl (.get rfl (af.prop (by omega)) (.keep 8 rfl rfl))
   refine Z4 ?_
   refine .meet () trivial rfl (.get rfl (af.prop (by omega)) (.keep 10 rfl rfl))
  intro _ _
  refine Cd (fun c6=> ?_) fun c6=> ?_
  ·
   refine Z4 ?_
   refine .p (cB eA [x.A]) rfl ?_
   refine .n (cE (h:=j7 (l:=[x.A]) (by simp;omega) (by omega) (by simp))) rfl fun Vq h30=> ?_
   refine Z3 ?_
   refine .meet Vq (by (show (Vq).2.length=nS x;rw [h30,h9,gX];rw [if_neg c1,if_pos c6];simp [sw])) rfl (.get rfl (af.refl _) (.keep 11 rfl rfl))
  refine Z6 ?_
  refine Cd (fun c7=> ?_) fun c7=> ?_
  ·
   refine .bP [(0,0),(1,0),(2,0),(3,0),(4,0),(5,0),(7,0),(8,0),(10,0),(11,0),(12,0),(6,2),(9,2)] 13 2 FM.out (by kernel_rfl) (k:= ?_)
   refine Z5 ?_
   refine .p rfl (fun _=>bF (enc:=eA) [(x.L.length:Int)] FU.out FC.out rfl FZ.out rfl (.cons (.t rfl) .nil) rfl rfl rfl rfl rfl) ?_
   refine Z4 ?_
   refine .p rfl (fun _=>bF (enc:=eA) [x.A] FU.out FC.out rfl FZ.out rfl (.cons (.t rfl) .nil) rfl rfl rfl rfl rfl) ?_
   refine .e rfl (cE (h:=j7 (l:=[(x.L.length:Int)]) (by simp;omega) (by omega) (by simp))) fun g39 RV=> ?_
   refine .e rfl (cE (h:=j7 (l:=x.L) (fun n hn=>⟨av.L0 n hn,by have h9:n≤4294967295:=r5 n hn;omega⟩) (by rw [RV,h9];have:=qJ [(x.L.length:Int)] (by simp;omega);simp only [List.length_cons,List.length_nil] at this;omega) (by omega))) fun Ud S9=> ?_
   refine .fin ?_
   refine .n (cE (h:=j7 (l:=[x.A]) (by simp;omega) (by rw [S9,RV,h9];have:=qJ [(x.L.length:Int)] (by simp;omega);have h8:=qJ x.L (fun n hn=>⟨av.L0 n hn,by have h9:n≤4294967295:=r5 n hn;omega⟩);simp only [List.length_cons,List.length_nil] at this;omega) (by simp))) rfl fun W1 h46=> ?_
   refine Z3 ?_
   refine .meet W1 (by (show (W1).2.length=nS x;rw [h46,S9,RV,h9,gX];rw [if_neg c1,if_neg c6,if_pos c7];simp [sw,bG];omega)) rfl (.get rfl (af.refl _) (.keep 22 rfl rfl))
  refine .cut (σ:=Unit) (fun _=>[au g9.1 1 aj g9.2]) (fun _=>[(47,aq (aU x.Code=5∨aU x.Code=10))]) (fun _=>True) ?_ ?_
  ·
   refine Z6 ?_
   refine Cd (fun c8=> ?_) fun c8=> ?_
   ·
    refine Z1 ?_
    refine .meet () trivial rfl (.get rfl (af.prop (by omega)) (.keep 2 rfl rfl))
   refine Z4 ?_
   refine .meet () trivial rfl (.get rfl (af.prop (by omega)) (.keep 4 rfl rfl))
  intro _ _
  refine Cd (fun c9=> ?_) fun c9=> ?_
  ·
   refine Z6 ?_
   refine .p (cB eA [x.A,x.B]) rfl ?_
   refine .n (cE (h:=j7 (l:=[x.A,x.B]) (by simp;omega) (by omega) (by simp))) rfl fun VE Xe=> ?_
   refine Z3 ?_
   refine .meet VE (by (show (VE).2.length=nS x;rw [Xe,h9,gX];rw [if_neg c1,if_neg c6,if_neg c7,if_pos c9];simp [sw])) rfl (.get rfl (af.refl _) (.keep 16 rfl rfl))
  refine Z6 ?_
  refine Cd (fun lq=> ?_) fun lq=> ?_
  ·
   refine Z3 ?_
   refine .n (cE (h:=MG oN RW hB0 Xj av.a0 av.a31 (by omega))) rfl fun Da Rh=> ?_
   refine Z3 ?_
   refine .meet Da (by (show (Da).2.length=nS x;rw [Rh,h9,gX];rw [if_neg c1,if_neg c6,if_neg c7,if_neg c9,if_pos lq])) rfl (.get rfl (af.refl _) (.keep 14 rfl rfl))
  refine Z6 ?_
  refine Cd (fun nc=> ?_) fun nc=> ?_
  ·
   refine Z3 ?_
   refine .n (cE (h:=Jm oN RW (Kx nc) (fun Mi=>Classical.byContradiction fun h9=>r2 (.inr (.inl ⟨Mi,h9⟩))) (by omega))) rfl fun g66 h66=> ?_
   refine Z3 ?_
   refine .meet g66 (by (show (g66).2.length=nS x;rw [h66,h9,gX];rw [if_neg c1,if_neg c6,if_neg c7,if_neg c9,if_neg lq,if_pos nc])) rfl (.get rfl (af.refl _) (.keep 16 rfl rfl))
  refine Z2 ?_
  refine .meet g9 (by (show (g9).2.length=nS x;rw [h9,gX];rw [if_neg c1,if_neg c6,if_neg c7,if_neg c9,if_neg lq,if_neg nc];rfl)) rfl (.get rfl (af.refl _) (.keep 12 rfl rfl))
 intro z hz
 refine Z1 ?_
 refine .er (t:=4) (i:=0) (g:=z.1) (xs:=z.2) rfl rfl ?_
 refine Z7 ?_
 refine Post.bf rfl rfl (z.2) (by exact hz) (fun _ _ _ h=>h) rfl (.cons (.rt rfl) ?_ (.cons (.rt rfl) ?_ .nil))
 · exact af.refl _
 exact af.refl _
theorem Gw:cW Tryz.prog 285 [aC (aK x)] (aq (aQ x.Code)):=by
 refine In 16 Tryz.func285 fun _ _ _=> ?_
 refine Vg ?_
 refine bL ?_
 exact af.prop or_assoc
variable {nb:Nat}
theorem Cf {pb pc p:Nat} {l:List aA} {go:SB} {sp:List A7} {o:List Nat} {cl:Prop} {dp:Int} {s:A7} (av:sp[p]?=some s):cw Tryz.prog 300 [aI nb 0] (D3 nb l ⟨some (pb,pc),go,sp,o++[p],cl,dp⟩) (γ:=Unit) (fun _=>True) (fun _=>D3 nb l ⟨some (pb,pc),go,sp,o++[p],cl,dp⟩) (fun _=>bD [aI pb (p*3),aq True]):=by
 refine In 27 Tryz.func300 fun _ _ _=> ?_
 refine .iy 2 rfl (by simp) fun qb qc hq=> ?_
 simp only at hq
 subst hq
 refine .yy 2 rfl fun yw=> ?_
 simp only [List.length_append,List.length_cons,List.length_nil] at yw
 have hps:=(List.getElem?_eq_some_iff.1 av).1
 refine Hy ?_
 refine Cd (fun c0=> ?_) fun c0=> ?_
 · exfalso;simp at c0;omega
 refine Z3 ?_
 refine .bx 16 3 FM.out (by kernel_rfl) (k:= ?_)
 refine lg ?_
 refine .p (jZ (.t rfl) (.c _) (bY (by simp<;>omega) (by simp<;>omega))) ?_
 refine .p (aX o.length FU.out FC.out rfl (.t rfl) (.t rfl) (by simp) (by simp)) ?_
 refine .p (fC (i:=2) (r:=0) FA.out (.t rfl) rfl (Dm (o:=o) (p:=p)) rfl) ?_
 refine Z1 ?_
 refine .p (aX p FU.out FC.out rfl (.t rfl) (.t rfl) rfl hps) rfl ?_
 refine Z5 ?_
 refine j9 ?_ ?_
 · exact af.refl _
 exact af.refl _
theorem AM {l:List aA} {gp go:SB} {sp:List A7} {cl:Prop} {dp:Int}:cw Tryz.prog 300 [aI nb 0] (D3 nb l ⟨gp,go,sp,[],cl,dp⟩) (γ:=Unit) (fun _=>True) (fun _=>D3 nb l ⟨gp,go,sp,[],cl,dp⟩) (fun _=>bD [aa (.pointer none),aq False]):=by
 refine In 27 Tryz.func300 fun _ _ _=> ?_
 refine Hy ?_
 refine Cd (fun c0=> ?_) fun c0=> ?_
 ·
  refine Z8 ?_
  refine j9 ?_ ?_
  · exact af.refl _
  exact af.refl _
 exact absurd rfl c0
theorem Gx {l:List aA} {z:Qm} {i:Nat} (av:z.op.length≤64) (hp1:z.sp.length≤50000):cw Tryz.prog 286 [aI nb 0,ag .i64 ((i:Int))] (D3 nb l z) (γ:=Int×Qm) (fun g=>(z.op.length=64∧g.1≠0)∨(z.op.length≠64∧g.1=0∧g.2.sp=z.sp++[((i:Int),-1,-1)]∧g.2.op=z.op++[z.sp.length]∧g.2.cl=z.cl)) (fun g=>D3 nb l g.2) (fun g=>ag .i64 g.1):=by
 refine In 49 Tryz.func286 fun _ _ _=> ?_
 refine D0 ?_
 refine Cd (fun c0=> ?_) fun c0=> ?_
 ·
  refine Z7 ?_
  refine Post.aP rfl ((15,z)) (by exact .inl ⟨by omega,by show (15:Int)≠0;decide⟩) (fun _ _ _ h=>h) (.rt rfl) ?_
  exact af.refl _
 refine Z3 ?_
 refine .bP [(0,0),(1,0),(2,0),(3,0),(4,1),(5,0),(6,0),(7,0),(8,1),(9,1),(10,0),(11,2)] 12 3 FM.out (by kernel_rfl) (k:= ?_)
 refine cK ?_
 refine .p rfl (fun _=>bF (enc:=iS) [z.sp.length] FU.out FC.out rfl FZ.out rfl (.cons (.t rfl) .nil) rfl rfl rfl rfl rfl) ?_
 refine .e rfl (aD (i:=2) FU.out FU.out FC.out rfl FZ.out rfl FY.out (.t rfl) (.t rfl) rfl (by simp only [List.length_cons,List.length_nil];omega) (by simp only [List.length_cons,List.length_nil];omega)) fun g22 _=> ?_
 refine .fin ?_
 refine iW ?_
 refine .p (cB gM [((i:Int),-1,-1)]) rfl ?_
 refine .n (aD (i:=1) FU.out FU.out FC.out rfl FZ.out rfl FY.out (.t rfl) (.t rfl) rfl (by simp only [List.length_cons,List.length_nil];omega) (by simp only [List.length_cons,List.length_nil];omega)) rfl fun g33 _=> ?_
 refine Z6 ?_
 refine .bx 11 3 FM.out (by kernel_rfl) (k:= ?_)
 refine Z23 ?_
 refine Post.aP rfl ((0,⟨g33,g22,z.sp++[((i:Int),-1,-1)],z.op++[z.sp.length],z.cl,max z.dp ((z.op++[z.sp.length]).length:Int)⟩)) (by exact .inr ⟨by omega,rfl,rfl,rfl,rfl⟩) (fun _ _ _ h=>h) (.rt rfl) ?_
 exact af.refl _
end Go.Proofs.YtpfobikpggmleaaGreatDoor
end
