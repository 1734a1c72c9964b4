/-
  Walks, printed by a program (gen.py) out of what its author says of each function.
-/
import Derived.Test.YtnjfnjgjeibaiaaDoorB26S
import Derived.Test.YtnjfnjgjeibaiaaDoorB26W
namespace Go.Proofs.YtnjfnjgjeibaiaaDoor
open Go.Hl Go.RowKit
set_option linter.unusedVariables false
set_option maxRecDepth 100000

set_option maxHeartbeats 4000000 in
theorem budgetTexts_spec {x y : Nd} {s : List UInt8} (hp0 : x.ok) (hp1 : y.ok) : FnE Tryd.prog 3 [aggV (encNd x), aggV (encNd y), strV s] [varsH Tryd.prog 3 0 1] (γ := Unit) (fun _ => True) (fun _ => []) (fun _ => propV True) := by
  refine FnE.intro 252 Tryd.func3 rfl rfl rfl fun w0 S0 M => ?_
  refine CodeT.seq ?_
  refine CodeT.region (.p (opBoxA (.t rfl)) rfl <| .p (opBoxA (.t rfl)) rfl <| .p (opAssign .cf) rfl <| .nil ?_)
  refine EndT.thenN ?_
  refine CodeT.seq ?_
  refine CodeT.seq ?_
  refine CodeT.region (.p (opMove (.t rfl)) rfl <| .p (opLenS rfl Tryd.underlying9 (.t rfl)) rfl <| .p (opGtr (.t rfl) (.c _)) rfl <| .p (opMove (.t rfl)) rfl <| .g (OpG.gF rfl rfl rfl rfl (fun hg => opCallVars (i := 0) (awake26_spec) Tryd.cb5 .nil rfl)) rfl rfl <| .g (OpG.gF rfl rfl rfl rfl (fun hg => opNot (.when (.t rfl) hg))) rfl rfl <| .p (opOr (.t rfl) (.t rfl)) rfl <| .nil ?_)
  refine EndT.thenN ?_
  refine CodeT.cond (.t rfl) (fun c0 => ?_) (fun c0 => ?_)
  ·
    refine CodeT.seq ?_
    refine CodeT.region (.p (opCallVars (i := 0) (awake26_spec) Tryd.cb5 .nil rfl) rfl <| .p (opAssign (.t rfl)) rfl <| .nil ?_)
    refine EndT.thenN ?_
    refine CodeT.ret (EndT.thenR (Post.retP rfl rfl ?_))
    exact VLe.refl _
  ·
    have hs100 : s.length ≤ 100 := by (by_cases h : s.length ≤ 100; exact h; exact absurd (.inl (by omega)) c0)
    refine CodeT.skip (EndT.thenN ?_)
    refine CodeT.seq ?_
    refine CodeT.region (.p (opField Tryd.fd23_0 (.t rfl)) rfl <| .p (opLoad Tryd.ag3 (.t rfl)) rfl <| .p (opField Tryd.fd23_1 (.t rfl)) rfl <| .p (opLoad Tryd.ag3 (.t rfl)) rfl <| .p (opField Tryd.fd23_2 (.t rfl)) rfl <| .p (opLoad Tryd.ag3 (.t rfl)) rfl <| .p (opField Tryd.fd23_3 (.t rfl)) rfl <| .p (opLoad Tryd.ag3 (.t rfl)) rfl <| .p (opField Tryd.fd23_4 (.t rfl)) rfl <| .p (opLoad Tryd.ag3 (.t rfl)) rfl <| .p (opBuildSlice (enc := encI) x.toL Tryd.underlying25 Tryd.cz3 rfl Tryd.zb3 rfl (.cons (.t rfl) (.cons (.t rfl) (.cons (.t rfl) (.cons (.t rfl) (.cons (.t rfl) .nil))))) rfl rfl rfl rfl rfl) rfl <| .p (opAssign (.t rfl)) rfl <| .nil ?_)
    refine EndT.thenN ?_
    refine CodeT.seq ?_
    refine CodeT.region (.p (opField Tryd.fd23_0 (.t rfl)) rfl <| .p (opLoad Tryd.ag3 (.t rfl)) rfl <| .p (opField Tryd.fd23_1 (.t rfl)) rfl <| .p (opLoad Tryd.ag3 (.t rfl)) rfl <| .p (opField Tryd.fd23_2 (.t rfl)) rfl <| .p (opLoad Tryd.ag3 (.t rfl)) rfl <| .p (opField Tryd.fd23_3 (.t rfl)) rfl <| .p (opLoad Tryd.ag3 (.t rfl)) rfl <| .p (opField Tryd.fd23_4 (.t rfl)) rfl <| .p (opLoad Tryd.ag3 (.t rfl)) rfl <| .p (opBuildSlice (enc := encI) y.toL Tryd.underlying25 Tryd.cz3 rfl Tryd.zb3 rfl (.cons (.t rfl) (.cons (.t rfl) (.cons (.t rfl) (.cons (.t rfl) (.cons (.t rfl) .nil))))) rfl rfl rfl rfl rfl) rfl <| .p (opAssign (.t rfl)) rfl <| .nil ?_)
    refine EndT.thenN ?_
    refine CodeT.seq ?_
    refine CodeT.region (.p (opAssign (.s [] rfl rfl)) rfl <| .nil ?_)
    refine EndT.thenN ?_
    refine CodeT.seq ?_
    refine CodeT.region (.p (opAssign .ct) rfl <| .p (opAssign .ct) rfl <| .nil ?_)
    refine EndT.thenN ?_
    refine CodeT.seq ?_
    refine CodeT.seq ?_
    refine CodeT.region (.p (opAssign (.c _)) rfl <| .nil ?_)
    refine EndT.thenN ?_
    refine CodeT.block ?_
    refine CodeT.loopO (σ := Nat) (fun _ => _) (fun k => [(9, strV (wantL x k)), (10, propV (okK x k)), (11, propV (geK x y k)), (12, iV (k : Int))]) (fun k => k ≤ 5) (fun k => 5 - k) 0 (Nat.zero_le _) rfl ?_ ?_
    · exact (.get rfl (VLe.of_eq (congrArg strV (by simp [wantL, textL, Lib.join, List.intercalate]))) (.get rfl (VLe.prop (by simp [okK_zero])) (.get rfl (VLe.prop (by simp [geK_zero])) (.get rfl (VLe.refl _) (.refl _ _)))))
    · rintro k hk
      refine CodeT.seq ?_
      refine CodeT.seq ?_
      refine CodeT.region (.p (opMove (.t rfl)) rfl <| .p (opLss (.t rfl) (.c _)) rfl <| .nil ?_)
      refine EndT.thenN ?_
      refine CodeT.cond (.t rfl) (fun c1 => ?_) (fun c1 => ?_)
      ·
        have hk5 : k < 5 := by omega
        have hvx := hp0 _ (List.mem_of_getElem? (toL_get hk5))
        have hwl := wantL_len hp0 (k := k) (by omega)
        have hil := itoas_len hp0 hk5
        have hws0 := wantL_step x hk5
        refine CodeT.skip (EndT.thenN ?_)
        refine CodeT.seq ?_
        refine CodeT.block ?_
        refine CodeT.seq ?_
        refine CodeT.seq ?_
        refine CodeT.region (.p (opMove (.t rfl)) rfl <| .p (opGtr (.t rfl) (.c _)) rfl <| .nil ?_)
        refine EndT.thenN ?_
        refine CodeT.cond (.t rfl) (fun c2 => ?_) (fun c2 => ?_)
        ·
          rw [if_pos (by omega)] at hws0
          have hws := hws0
          refine CodeT.region (.p (opMove (.t rfl)) rfl <| .p (opCat (.t rfl) (.s [32] rfl rfl) (by (first | omega | (simp only [List.length_cons, List.length_nil]; omega) | (simp only [List.length_append, List.length_cons, List.length_nil]; omega)))) rfl <| .p (opAssign (.t rfl)) rfl <| .nil ?_)
          refine EndT.thenN ?_
          refine CodeT.seq ?_
          refine CodeT.region (.p (opMove (.t rfl)) rfl <| .p (opMove (.t rfl)) rfl <| .p (opMove (.t rfl)) rfl <| .p (opIndexAddr (j := k) Tryd.underlying25 Tryd.cz3 rfl (.t rfl) (.t rfl) rfl (toL_get hk5)) rfl <| .p (opLoad Tryd.ag3 (.t rfl)) rfl <| .p ((opConv Tryd.underlying3 Tryd.underlying27 (.t rfl)).le (VLe.int (show _ = ((((x.toL.getD k 0) % 18446744073709551616).toNat : Nat) : Int) from wrap_u64 _))) rfl <| .p ((opCall (rprint_spec (a := ((x.toL.getD k 0) % 18446744073709551616).toNat) (by omega)) Tryd.cb6 (.cons (.c _) (.cons (.t rfl) .nil))).le (VLe.of_eq (congrArg strV (printL_int hvx.1 hvx.2)))) rfl <| .p (opCat (.t rfl) (.t rfl) (by (first | omega | (simp only [List.length_cons, List.length_nil]; omega) | (simp only [List.length_append, List.length_cons, List.length_nil]; omega)))) rfl <| .p (opAssign (.t rfl)) rfl <| .nil ?_)
          refine EndT.thenN ?_
          refine CodeT.seq ?_
          refine CodeT.region (.p (opMove (.t rfl)) rfl <| .p (opMove (.t rfl)) rfl <| .g (OpG.gT rfl rfl rfl rfl (fun hg => opMove (.t rfl))) rfl rfl <| .g (OpG.gT rfl rfl rfl rfl (fun hg => opMove (.t rfl))) rfl rfl <| .g (OpG.gT rfl rfl rfl rfl (fun hg => opIndexAddr (j := k) Tryd.underlying25 Tryd.cz3 rfl (.when (.t rfl) hg) (.when (.t rfl) hg) rfl (toL_get hk5))) rfl rfl <| .g (OpG.gT rfl rfl rfl rfl (fun hg => opLoad Tryd.ag3 (.when (.t rfl) hg))) rfl rfl <| .g (OpG.gT rfl rfl rfl rfl (fun hg => opGeq (.when (.t rfl) hg) (.c _))) rfl rfl <| .p (opAnd (.t rfl) (.t rfl)) rfl <| .p (opMove (.t rfl)) rfl <| .g (OpG.gT rfl rfl rfl rfl (fun hg => opMove (.t rfl))) rfl rfl <| .g (OpG.gT rfl rfl rfl rfl (fun hg => opMove (.t rfl))) rfl rfl <| .g (OpG.gT rfl rfl rfl rfl (fun hg => opIndexAddr (j := k) Tryd.underlying25 Tryd.cz3 rfl (.when (.t rfl) hg) (.when (.t rfl) hg) rfl (toL_get hk5))) rfl rfl <| .g (OpG.gT rfl rfl rfl rfl (fun hg => opLoad Tryd.ag3 (.when (.t rfl) hg))) rfl rfl <| .g (OpG.gT rfl rfl rfl rfl (fun hg => opLeq (.when (.t rfl) hg) (.c _))) rfl rfl <| .p (opAnd (.t rfl) (.t rfl)) rfl <| .p (opAssign (.t rfl)) rfl <| .nil ?_)
          refine EndT.thenN ?_
          refine CodeT.draw 10 3 Tryd.mixed (by kernel_rfl) (.p (opMove (.t rfl)) <| .p (opMove (.t rfl)) <| .cons (OpG.gT rfl rfl rfl rfl (fun hg => opMove (.t rfl))) <| .cons (OpG.gT rfl rfl rfl rfl (fun hg => opMove (.t rfl))) <| .cons (OpG.gT rfl rfl rfl rfl (fun hg => opIndexAddr (j := k) Tryd.underlying25 Tryd.cz3 rfl (.when (.t rfl) hg) (.when (.t rfl) hg) rfl (toL_get hk5))) <| .cons (OpG.gT rfl rfl rfl rfl (fun hg => opLoad Tryd.ag3 (.when (.t rfl) hg))) <| .cons (OpG.gT rfl rfl rfl rfl (fun hg => opMove (.t rfl))) <| .cons (OpG.gT rfl rfl rfl rfl (fun hg => opMove (.t rfl))) <| .cons (OpG.gT rfl rfl rfl rfl (fun hg => opIndexAddr (j := k) Tryd.underlying25 Tryd.cz3 rfl (.when (.t rfl) hg) (.when (.t rfl) hg) rfl (toL_get hk5))) <| .cons (OpG.gT rfl rfl rfl rfl (fun hg => opLoad Tryd.ag3 (.when (.t rfl) hg))) <| .nil) (.g (OpG.gT rfl rfl rfl rfl (fun hg => opGeq (.when (.t rfl) hg) (.when (.t rfl) hg))) rfl rfl <| .p (opAnd (.t rfl) (.t rfl)) rfl <| .p (opAssign (.t rfl)) rfl <| .nil ?_)
          refine EndT.blkN (EndT.thenN ?_)
          refine CodeT.region (.p (opMove (.t rfl)) rfl <| .p (opAddF (.t rfl) (.c _) (fits_i64 (by omega) (by omega))) rfl <| .p (opAssign (.t rfl)) rfl <| .nil ?_)
          refine EndT.round (k + 1) (by omega) (by omega) rfl ?_
          exact (.get rfl (VLe.of_eq (congrArg strV hws)) (.get rfl (VLe.prop (by rw [okK_step hk5]; exact and_assoc)) (.get rfl (VLe.prop (by rw [geK_step])) (.get rfl (VLe.int (by (show (k : Int) + 1 = ((k + 1 : Nat) : Int); omega))) ((.keep 52 rfl rfl))))))
        ·
          rw [if_neg (by omega)] at hws0
          have hws := hws0
          refine CodeT.skip (EndT.thenN ?_)
          refine CodeT.seq ?_
          refine CodeT.region (.p (opMove (.t rfl)) rfl <| .p (opMove (.t rfl)) rfl <| .p (opMove (.t rfl)) rfl <| .p (opIndexAddr (j := k) Tryd.underlying25 Tryd.cz3 rfl (.t rfl) (.t rfl) rfl (toL_get hk5)) rfl <| .p (opLoad Tryd.ag3 (.t rfl)) rfl <| .p ((opConv Tryd.underlying3 Tryd.underlying27 (.t rfl)).le (VLe.int (show _ = ((((x.toL.getD k 0) % 18446744073709551616).toNat : Nat) : Int) from wrap_u64 _))) rfl <| .p ((opCall (rprint_spec (a := ((x.toL.getD k 0) % 18446744073709551616).toNat) (by omega)) Tryd.cb6 (.cons (.c _) (.cons (.t rfl) .nil))).le (VLe.of_eq (congrArg strV (printL_int hvx.1 hvx.2)))) rfl <| .p (opCat (.t rfl) (.t rfl) (by (first | omega | (simp only [List.length_cons, List.length_nil]; omega) | (simp only [List.length_append, List.length_cons, List.length_nil]; omega)))) rfl <| .p (opAssign (.t rfl)) rfl <| .nil ?_)
          refine EndT.thenN ?_
          refine CodeT.seq ?_
          refine CodeT.region (.p (opMove (.t rfl)) rfl <| .p (opMove (.t rfl)) rfl <| .g (OpG.gT rfl rfl rfl rfl (fun hg => opMove (.t rfl))) rfl rfl <| .g (OpG.gT rfl rfl rfl rfl (fun hg => opMove (.t rfl))) rfl rfl <| .g (OpG.gT rfl rfl rfl rfl (fun hg => opIndexAddr (j := k) Tryd.underlying25 Tryd.cz3 rfl (.when (.t rfl) hg) (.when (.t rfl) hg) rfl (toL_get hk5))) rfl rfl <| .g (OpG.gT rfl rfl rfl rfl (fun hg => opLoad Tryd.ag3 (.when (.t rfl) hg))) rfl rfl <| .g (OpG.gT rfl rfl rfl rfl (fun hg => opGeq (.when (.t rfl) hg) (.c _))) rfl rfl <| .p (opAnd (.t rfl) (.t rfl)) rfl <| .p (opMove (.t rfl)) rfl <| .g (OpG.gT rfl rfl rfl rfl (fun hg => opMove (.t rfl))) rfl rfl <| .g (OpG.gT rfl rfl rfl rfl (fun hg => opMove (.t rfl))) rfl rfl <| .g (OpG.gT rfl rfl rfl rfl (fun hg => opIndexAddr (j := k) Tryd.underlying25 Tryd.cz3 rfl (.when (.t rfl) hg) (.when (.t rfl) hg) rfl (toL_get hk5))) rfl rfl <| .g (OpG.gT rfl rfl rfl rfl (fun hg => opLoad Tryd.ag3 (.when (.t rfl) hg))) rfl rfl <| .g (OpG.gT rfl rfl rfl rfl (fun hg => opLeq (.when (.t rfl) hg) (.c _))) rfl rfl <| .p (opAnd (.t rfl) (.t rfl)) rfl <| .p (opAssign (.t rfl)) rfl <| .nil ?_)
          refine EndT.thenN ?_
          refine CodeT.draw 10 3 Tryd.mixed (by kernel_rfl) (.p (opMove (.t rfl)) <| .p (opMove (.t rfl)) <| .cons (OpG.gT rfl rfl rfl rfl (fun hg => opMove (.t rfl))) <| .cons (OpG.gT rfl rfl rfl rfl (fun hg => opMove (.t rfl))) <| .cons (OpG.gT rfl rfl rfl rfl (fun hg => opIndexAddr (j := k) Tryd.underlying25 Tryd.cz3 rfl (.when (.t rfl) hg) (.when (.t rfl) hg) rfl (toL_get hk5))) <| .cons (OpG.gT rfl rfl rfl rfl (fun hg => opLoad Tryd.ag3 (.when (.t rfl) hg))) <| .cons (OpG.gT rfl rfl rfl rfl (fun hg => opMove (.t rfl))) <| .cons (OpG.gT rfl rfl rfl rfl (fun hg => opMove (.t rfl))) <| .cons (OpG.gT rfl rfl rfl rfl (fun hg => opIndexAddr (j := k) Tryd.underlying25 Tryd.cz3 rfl (.when (.t rfl) hg) (.when (.t rfl) hg) rfl (toL_get hk5))) <| .cons (OpG.gT rfl rfl rfl rfl (fun hg => opLoad Tryd.ag3 (.when (.t rfl) hg))) <| .nil) (.g (OpG.gT rfl rfl rfl rfl (fun hg => opGeq (.when (.t rfl) hg) (.when (.t rfl) hg))) rfl rfl <| .p (opAnd (.t rfl) (.t rfl)) rfl <| .p (opAssign (.t rfl)) rfl <| .nil ?_)
          refine EndT.blkN (EndT.thenN ?_)
          refine CodeT.region (.p (opMove (.t rfl)) rfl <| .p (opAddF (.t rfl) (.c _) (fits_i64 (by omega) (by omega))) rfl <| .p (opAssign (.t rfl)) rfl <| .nil ?_)
          refine EndT.round (k + 1) (by omega) (by omega) rfl ?_
          exact (.get rfl (VLe.of_eq (congrArg strV hws)) (.get rfl (VLe.prop (by rw [okK_step hk5]; exact and_assoc)) (.get rfl (VLe.prop (by rw [geK_step])) (.get rfl (VLe.int (by (show (k : Int) + 1 = ((k + 1 : Nat) : Int); omega))) ((.keep 49 rfl rfl))))))
      ·
        have hk5 : k = 5 := by omega
        subst hk5
        refine CodeT.exit (EndT.thenX (EndT.thenX (EndT.blkX (EndT.thenN ?_))))
        refine CodeT.seq ?_
        refine CodeT.region (.p (opLoadA Tryd.ag23 Tryd.cz23 rfl (.t rfl) rfl) rfl <| .p (opCallVars (i := 0) (btext_spec hp0) Tryd.cb8 (.cons (.t rfl) .nil) rfl) rfl <| .p (opCallVars (i := 0) (bparse_spec (s := textL x.toL) (by have h9 := textL_len hp0; omega)) Tryd.cb7 (.cons (.t rfl) .nil) rfl) rfl <| .p (opMove (.t rfl)) rfl <| .p (opExtract (.t rfl) rfl) rfl <| .p (opExtract (.t rfl) rfl) rfl <| .n (opAlloc Tryd.zb23) rfl <| fun b13 _ => .s (opStoreOA (i := 0) Tryd.cz23 rfl (.t rfl) (.t rfl) rfl rfl rfl) <| .p (opAssign (.t rfl)) rfl <| .nil ?_)
        refine EndT.thenN ?_
        refine CodeT.share (t := 13) (i := 0) rfl rfl ?_
        refine CodeT.seq ?_
        refine CodeT.seq ?_
        refine CodeT.region (.p (opLoadA Tryd.ag23 Tryd.cz23 rfl (.t rfl) rfl) rfl <| .p (opCallVars (i := 0) (btext_spec hp0) Tryd.cb8 (.cons (.t rfl) .nil) rfl) rfl <| .p (opMove (.t rfl)) rfl <| .p (opNeqS (.t rfl) (.t rfl)) rfl <| .p (opMove (.t rfl)) rfl <| .g (OpG.gF rfl rfl rfl rfl (fun hg => opMove (.t rfl))) rfl rfl <| .g (OpG.gF rfl rfl rfl rfl (fun hg => opMove (.t rfl))) rfl rfl <| .g (OpG.gF rfl rfl rfl rfl (fun hg => opEql (.when (.t rfl) hg) (.c _))) rfl rfl <| .g (OpG.gF rfl rfl rfl rfl (fun hg => opNeqB Tryd.underlying4 (.when (.t rfl) hg) (.when (.t rfl) hg))) rfl rfl <| .p (opOr (.t rfl) (.t rfl)) rfl <| .p (opMove (.t rfl)) rfl <| .g (OpG.gF rfl rfl rfl rfl (fun hg => opMove (.t rfl))) rfl rfl <| .g (OpG.gF rfl rfl rfl rfl (fun hg => opMove (.when (.t rfl) hg))) rfl rfl <| .g (OpG.hT rfl rfl rfl rfl (fun hg => opLoadA Tryd.ag23 Tryd.cz23 rfl (.t rfl) rfl)) rfl rfl <| .g (OpG.hT rfl rfl rfl rfl (fun hg => opLoadA Tryd.ag23 Tryd.cz23 rfl (.t rfl) rfl)) rfl rfl <| .g (OpG.hT rfl rfl rfl rfl (fun hg => opNeqA Tryd.underlying23 Tryd.sh23 Tryd.eg23 (.when (.t rfl) hg) (.when (.t rfl) hg) (.cons (by decide) rfl rfl (.int Tryd.underlying3) (.cons (by decide) rfl rfl (.int Tryd.underlying3) (.cons (by decide) rfl rfl (.int Tryd.underlying3) (.cons (by decide) rfl rfl (.int Tryd.underlying3) (.cons (by decide) rfl rfl (.int Tryd.underlying3) .nil))))))) rfl rfl <| .g (OpG.gF rfl rfl rfl rfl (fun hg => opAnd (.when (.t rfl) hg) (.under (.t rfl) hg))) rfl rfl <| .p (opOr (.t rfl) (.t rfl)) rfl <| .p (opMove (.t rfl)) rfl <| .g (OpG.gF rfl rfl rfl rfl (fun hg => opMove (.t rfl))) rfl rfl <| .g (OpG.gF rfl rfl rfl rfl (fun hg => opNot (.when (.t rfl) hg))) rfl rfl <| .g (OpG.gF rfl rfl rfl rfl (fun hg => opMove (.when (.t rfl) hg))) rfl rfl <| .g (OpG.hT rfl rfl rfl rfl (fun hg => opMove (.t rfl))) rfl rfl <| .g (OpG.hT rfl rfl rfl rfl (fun hg => opNeq (.when (.t rfl) hg) (.c _))) rfl rfl <| .g (OpG.gF rfl rfl rfl rfl (fun hg => opAnd (.when (.t rfl) hg) (.under (.t rfl) hg))) rfl rfl <| .p (opOr (.t rfl) (.t rfl)) rfl <| .nil ?_)
        refine EndT.thenN ?_
        refine CodeT.cond (.t rfl) (fun c3 => ?_) (fun c3 => ?_)
        ·
          exact absurd c3 (ask1 hp0)
        ·
          refine CodeT.skip (EndT.thenN ?_)
          refine CodeT.seq ?_
          refine CodeT.region (.p (opField Tryd.fd23_0 (.t rfl)) rfl <| .p (opLoad Tryd.ag3 (.t rfl)) rfl <| .p (opField Tryd.fd23_1 (.t rfl)) rfl <| .p (opLoad Tryd.ag3 (.t rfl)) rfl <| .p (opField Tryd.fd23_2 (.t rfl)) rfl <| .p (opLoad Tryd.ag3 (.t rfl)) rfl <| .p (opField Tryd.fd23_3 (.t rfl)) rfl <| .p (opLoad Tryd.ag3 (.t rfl)) rfl <| .p (opField Tryd.fd23_4 (.t rfl)) rfl <| .p (opLoad Tryd.ag3 (.t rfl)) rfl <| .p (OpP.le (opBuild Tryd.pl34 Tryd.zb34 (.cons (.t rfl) (.cons (.t rfl) (.cons (.t rfl) (.cons (.t rfl) (.cons (.t rfl) (.cons (.c _) (.cons (.c _) .nil))))))) rfl) (VLe.refl (aggV (encCf x 3 5)))) rfl <| .n (opAlloc Tryd.zb34) rfl <| fun b15 _ => .s (opStoreOA (i := 0) Tryd.cz34 rfl (.t rfl) (.t rfl) rfl rfl rfl) <| .nil ?_)
          refine EndT.thenN ?_
          refine CodeT.share (t := 15) (i := 0) rfl rfl ?_
          refine CodeT.seq ?_
          refine CodeT.region (.p (OpP.le (opLoadA Tryd.ag34 Tryd.cz34 rfl (.t rfl) rfl) (VLe.refl (aggV (encCf x 3 5)))) rfl <| .p (opLoadA Tryd.ag23 Tryd.cz23 rfl (.t rfl) rfl) rfl <| .p (opCall (bwith_spec (x := x) (y := y) (fr := 3) (bl := 5)) Tryd.cb9 (.cons (.t rfl) (.cons (.t rfl) .nil))) rfl <| .n (opAlloc Tryd.zb34) rfl <| fun b16 _ => .s (opStoreOA (i := 0) Tryd.cz34 rfl (.t rfl) (.t rfl) rfl rfl rfl) <| .nil ?_)
          refine EndT.thenN ?_
          refine CodeT.share (t := 16) (i := 0) rfl rfl ?_
          refine CodeT.seq ?_
          refine CodeT.region (.p (opLoadA Tryd.ag23 Tryd.cz23 rfl (.t rfl) rfl) rfl <| .p (opLoadA Tryd.ag23 Tryd.cz23 rfl (.t rfl) rfl) rfl <| .p (opCall (bmax_spec (x := x) (y := y)) Tryd.cb10 (.cons (.t rfl) (.cons (.t rfl) .nil))) rfl <| .n (opAlloc Tryd.zb23) rfl <| fun b17 _ => .s (opStoreOA (i := 0) Tryd.cz23 rfl (.t rfl) (.t rfl) rfl rfl rfl) <| .nil ?_)
          refine EndT.thenN ?_
          refine CodeT.share (t := 17) (i := 0) rfl rfl ?_
          refine CodeT.seq ?_
          refine CodeT.seq ?_
          refine CodeT.draw 80 2 Tryd.mixed (by kernel_rfl) (.p (OpP.le (opLoadA Tryd.ag34 Tryd.cz34 rfl (.t rfl) rfl) (VLe.refl (aggV (encCf x 3 5)))) <| .p (opLoadA Tryd.ag23 Tryd.cz23 rfl (.t rfl) rfl) <| .p (opCall (benough_spec (x := x) (y := y) (fr := 3) (bl := 5)) Tryd.cb11 (.cons (.t rfl) (.cons (.t rfl) .nil))) <| .p (opMove (.t rfl)) <| .p (opNeqB Tryd.underlying4 (.t rfl) (.t rfl)) <| .p (opMove (.t rfl)) <| .cons (OpG.gF rfl rfl rfl rfl (fun hg => OpP.le (opLoadA Tryd.ag34 Tryd.cz34 rfl (.t rfl) rfl) (VLe.refl (aggV (encCf (x.mx y) 3 5))))) <| .cons (OpG.gF rfl rfl rfl rfl (fun hg => opLoadA Tryd.ag23 Tryd.cz23 rfl (.t rfl) rfl)) <| .cons (OpG.gF rfl rfl rfl rfl (fun hg => opCall (benough_spec (x := x.mx y) (y := y) (fr := 3) (bl := 5)) Tryd.cb11 (.cons (.when (.t rfl) hg) (.cons (.when (.t rfl) hg) .nil)))) <| .cons (OpG.gF rfl rfl rfl rfl (fun hg => opNot (.when (.t rfl) hg))) <| .p (opOr (.t rfl) (.t rfl)) <| .p (opMove (.t rfl)) <| .cons (OpG.gF rfl rfl rfl rfl (fun hg => opField Tryd.fd34_1 (.t rfl))) <| .cons (OpG.gF rfl rfl rfl rfl (fun hg => opLoad Tryd.ag3 (.when (.t rfl) hg))) <| .cons (OpG.gF rfl rfl rfl rfl (fun hg => opNeq (.when (.t rfl) hg) (.c _))) <| .p (opOr (.t rfl) (.t rfl)) <| .p (opMove (.t rfl)) <| .cons (OpG.gF rfl rfl rfl rfl (fun hg => opField Tryd.fd34_2 (.t rfl))) <| .cons (OpG.gF rfl rfl rfl rfl (fun hg => opLoad Tryd.ag3 (.when (.t rfl) hg))) <| .cons (OpG.gF rfl rfl rfl rfl (fun hg => opNeq (.when (.t rfl) hg) (.c _))) <| .p (opOr (.t rfl) (.t rfl)) <| .p (opMove (.t rfl)) <| .cons (OpG.gF rfl rfl rfl rfl (fun hg => opLoadA Tryd.ag23 Tryd.cz23 rfl (.t rfl) rfl)) <| .cons (OpG.gF rfl rfl rfl rfl (fun hg => opLoadA Tryd.ag23 Tryd.cz23 rfl (.t rfl) rfl)) <| .cons (OpG.gF rfl rfl rfl rfl (fun hg => opLoadA Tryd.ag23 Tryd.cz23 rfl (.t rfl) rfl)) <| .cons (OpG.gF rfl rfl rfl rfl (fun hg => opCall (bmax_spec (x := y) (y := x)) Tryd.cb10 (.cons (.when (.t rfl) hg) (.cons (.when (.t rfl) hg) .nil)))) <| .cons (OpG.gF rfl rfl rfl rfl (fun hg => opNeqA Tryd.underlying23 Tryd.sh23 Tryd.eg23 (.when (.t rfl) hg) (.when (.t rfl) hg) (.cons (by decide) rfl rfl (.int Tryd.underlying3) (.cons (by decide) rfl rfl (.int Tryd.underlying3) (.cons (by decide) rfl rfl (.int Tryd.underlying3) (.cons (by decide) rfl rfl (.int Tryd.underlying3) (.cons (by decide) rfl rfl (.int Tryd.underlying3) .nil))))))) <| .p (opOr (.t rfl) (.t rfl)) <| .p (opMove (.t rfl)) <| .cons (OpG.gF rfl rfl rfl rfl (fun hg => opLoadA Tryd.ag23 Tryd.cz23 rfl (.t rfl) rfl)) <| .cons (OpG.gF rfl rfl rfl rfl (fun hg => opMove (.t rfl))) <| .cons (OpG.gF rfl rfl rfl rfl (fun hg => opIndexAddr (j := 0) Tryd.underlying25 Tryd.cz3 rfl (.when (.t rfl) hg) (.c _) rfl rfl)) <| .cons (OpG.gF rfl rfl rfl rfl (fun hg => opLoad Tryd.ag3 (.when (.t rfl) hg))) <| .cons (OpG.gF rfl rfl rfl rfl (fun hg => opMove (.t rfl))) <| .cons (OpG.gF rfl rfl rfl rfl (fun hg => opIndexAddr (j := 0) Tryd.underlying25 Tryd.cz3 rfl (.when (.t rfl) hg) (.c _) rfl rfl)) <| .cons (OpG.gF rfl rfl rfl rfl (fun hg => opLoad Tryd.ag3 (.when (.t rfl) hg))) <| .cons (OpG.gF rfl rfl rfl rfl (fun hg => opMax (.when (.t rfl) hg) (.when (.t rfl) hg))) <| .cons (OpG.gF rfl rfl rfl rfl (fun hg => opMove (.t rfl))) <| .cons (OpG.gF rfl rfl rfl rfl (fun hg => opIndexAddr (j := 1) Tryd.underlying25 Tryd.cz3 rfl (.when (.t rfl) hg) (.c _) rfl rfl)) <| .cons (OpG.gF rfl rfl rfl rfl (fun hg => opLoad Tryd.ag3 (.when (.t rfl) hg))) <| .cons (OpG.gF rfl rfl rfl rfl (fun hg => opMove (.t rfl))) <| .cons (OpG.gF rfl rfl rfl rfl (fun hg => opIndexAddr (j := 1) Tryd.underlying25 Tryd.cz3 rfl (.when (.t rfl) hg) (.c _) rfl rfl)) <| .cons (OpG.gF rfl rfl rfl rfl (fun hg => opLoad Tryd.ag3 (.when (.t rfl) hg))) <| .cons (OpG.gF rfl rfl rfl rfl (fun hg => opMax (.when (.t rfl) hg) (.when (.t rfl) hg))) <| .cons (OpG.gF rfl rfl rfl rfl (fun hg => opMove (.t rfl))) <| .cons (OpG.gF rfl rfl rfl rfl (fun hg => opIndexAddr (j := 2) Tryd.underlying25 Tryd.cz3 rfl (.when (.t rfl) hg) (.c _) rfl rfl)) <| .cons (OpG.gF rfl rfl rfl rfl (fun hg => opLoad Tryd.ag3 (.when (.t rfl) hg))) <| .cons (OpG.gF rfl rfl rfl rfl (fun hg => opMove (.t rfl))) <| .cons (OpG.gF rfl rfl rfl rfl (fun hg => opIndexAddr (j := 2) Tryd.underlying25 Tryd.cz3 rfl (.when (.t rfl) hg) (.c _) rfl rfl)) <| .cons (OpG.gF rfl rfl rfl rfl (fun hg => opLoad Tryd.ag3 (.when (.t rfl) hg))) <| .cons (OpG.gF rfl rfl rfl rfl (fun hg => opMax (.when (.t rfl) hg) (.when (.t rfl) hg))) <| .cons (OpG.gF rfl rfl rfl rfl (fun hg => opMove (.t rfl))) <| .cons (OpG.gF rfl rfl rfl rfl (fun hg => opIndexAddr (j := 3) Tryd.underlying25 Tryd.cz3 rfl (.when (.t rfl) hg) (.c _) rfl rfl)) <| .cons (OpG.gF rfl rfl rfl rfl (fun hg => opLoad Tryd.ag3 (.when (.t rfl) hg))) <| .cons (OpG.gF rfl rfl rfl rfl (fun hg => opMove (.t rfl))) <| .cons (OpG.gF rfl rfl rfl rfl (fun hg => opIndexAddr (j := 3) Tryd.underlying25 Tryd.cz3 rfl (.when (.t rfl) hg) (.c _) rfl rfl)) <| .cons (OpG.gF rfl rfl rfl rfl (fun hg => opLoad Tryd.ag3 (.when (.t rfl) hg))) <| .cons (OpG.gF rfl rfl rfl rfl (fun hg => opMax (.when (.t rfl) hg) (.when (.t rfl) hg))) <| .cons (OpG.gF rfl rfl rfl rfl (fun hg => opMove (.t rfl))) <| .cons (OpG.gF rfl rfl rfl rfl (fun hg => opIndexAddr (j := 4) Tryd.underlying25 Tryd.cz3 rfl (.when (.t rfl) hg) (.c _) rfl rfl)) <| .cons (OpG.gF rfl rfl rfl rfl (fun hg => opLoad Tryd.ag3 (.when (.t rfl) hg))) <| .cons (OpG.gF rfl rfl rfl rfl (fun hg => opMove (.t rfl))) <| .cons (OpG.gF rfl rfl rfl rfl (fun hg => opIndexAddr (j := 4) Tryd.underlying25 Tryd.cz3 rfl (.when (.t rfl) hg) (.c _) rfl rfl)) <| .cons (OpG.gF rfl rfl rfl rfl (fun hg => opLoad Tryd.ag3 (.when (.t rfl) hg))) <| .cons (OpG.gF rfl rfl rfl rfl (fun hg => opMax (.when (.t rfl) hg) (.when (.t rfl) hg))) <| .cons (OpG.gF rfl rfl rfl rfl (fun hg => OpP.le (opBuild Tryd.pl23 Tryd.zb23 (.cons (.when (.t rfl) hg) (.cons (.when (.t rfl) hg) (.cons (.when (.t rfl) hg) (.cons (.when (.t rfl) hg) (.cons (.when (.t rfl) hg) .nil))))) rfl) (VLe.refl (aggV (encNd (x.mx y)))))) <| .cons (OpG.gF rfl rfl rfl rfl (fun hg => opNeqA Tryd.underlying23 Tryd.sh23 Tryd.eg23 (.when (.t rfl) hg) (.when (.t rfl) hg) (.cons (by decide) rfl rfl (.int Tryd.underlying3) (.cons (by decide) rfl rfl (.int Tryd.underlying3) (.cons (by decide) rfl rfl (.int Tryd.underlying3) (.cons (by decide) rfl rfl (.int Tryd.underlying3) (.cons (by decide) rfl rfl (.int Tryd.underlying3) .nil))))))) <| .p (opOr (.t rfl) (.t rfl)) <| .p (opMove (.t rfl)) <| .cons (OpG.gF rfl rfl rfl rfl (fun hg => opField Tryd.fd34_0 (.t rfl))) <| .cons (OpG.gF rfl rfl rfl rfl (fun hg => opLoad Tryd.ag3 (.when (.t rfl) hg))) <| .cons (OpG.gF rfl rfl rfl rfl (fun hg => opField Tryd.fd23_0 (.t rfl))) <| .cons (OpG.gF rfl rfl rfl rfl (fun hg => opLoad Tryd.ag3 (.when (.t rfl) hg))) <| .cons (OpG.gF rfl rfl rfl rfl (fun hg => opNeq (.when (.t rfl) hg) (.when (.t rfl) hg))) <| .p (opOr (.t rfl) (.t rfl)) <| .p (opMove (.t rfl)) <| .cons (OpG.gF rfl rfl rfl rfl (fun hg => opField Tryd.fd34_6 (.t rfl))) <| .cons (OpG.gF rfl rfl rfl rfl (fun hg => opLoad Tryd.ag3 (.when (.t rfl) hg))) <| .cons (OpG.gF rfl rfl rfl rfl (fun hg => opField Tryd.fd23_3 (.t rfl))) <| .cons (OpG.gF rfl rfl rfl rfl (fun hg => opLoad Tryd.ag3 (.when (.t rfl) hg))) <| .nil) (.g (OpG.gF rfl rfl rfl rfl (fun hg => opNeq (.when (.t rfl) hg) (.when (.t rfl) hg))) rfl rfl <| .p (opOr (.t rfl) (.t rfl)) rfl <| .nil ?_)
          refine EndT.thenN ?_
          refine CodeT.cond (.t rfl) (fun c4 => ?_) (fun c4 => ?_)
          ·
            exact absurd c4 (ask2 x y)
          ·
            refine CodeT.skip (EndT.thenN ?_)
            refine CodeT.seq ?_
            refine CodeT.region (.p (opMove (.t rfl)) rfl <| .p (opCallVars (i := 0) (bparse_spec (s := s) (by omega)) Tryd.cb7 (.cons (.t rfl) .nil) rfl) rfl <| .p (opMove (.t rfl)) rfl <| .p (opExtract (.t rfl) rfl) rfl <| .p (opExtract (.t rfl) rfl) rfl <| .n (opAlloc Tryd.zb23) rfl <| fun b18 _ => .s (opStoreOA (i := 0) Tryd.cz23 rfl (.t rfl) (.t rfl) rfl rfl rfl) <| .p (opAssign (.t rfl)) rfl <| .nil ?_)
            refine EndT.thenN ?_
            refine CodeT.share (t := 18) (i := 0) rfl rfl ?_
            refine CodeT.seq ?_
            refine CodeT.seq ?_
            refine CodeT.region (.p (opMove (.t rfl)) rfl <| .p (opNeq (.t rfl) (.c _)) rfl <| .nil ?_)
            refine EndT.thenN ?_
            refine CodeT.cond (.t rfl) (fun c5 => ?_) (fun c5 => ?_)
            ·
              refine CodeT.seq ?_
              refine CodeT.region (.p (opMove (.t rfl)) rfl <| .p (opEql (.t rfl) (.c _)) rfl <| .p (opMove (.t rfl)) rfl <| .g (OpG.gT rfl rfl rfl rfl (fun hg => opLoadA Tryd.ag23 Tryd.cz23 rfl (.t rfl) rfl)) rfl rfl <| .g (OpG.gT rfl rfl rfl rfl (fun hg => OpP.le (opBuild Tryd.pl23 Tryd.zb23 .nil rfl) (VLe.refl (aggV (encNd Nd.zero))))) rfl rfl <| .g (OpG.gT rfl rfl rfl rfl (fun hg => opEqlA Tryd.underlying23 Tryd.sh23 Tryd.eg23 (.when (.t rfl) hg) (.when (.t rfl) hg) (.cons (by decide) rfl rfl (.int Tryd.underlying3) (.cons (by decide) rfl rfl (.int Tryd.underlying3) (.cons (by decide) rfl rfl (.int Tryd.underlying3) (.cons (by decide) rfl rfl (.int Tryd.underlying3) (.cons (by decide) rfl rfl (.int Tryd.underlying3) .nil))))))) rfl rfl <| .p (opAnd (.t rfl) (.t rfl)) rfl <| .p (opAssign (.t rfl)) rfl <| .nil ?_)
              refine EndT.thenN ?_
              refine CodeT.ret (EndT.thenR (Post.retP rfl rfl ?_))
              exact VLe.prop (iff_true_intro (ask3 c5))
            ·
              refine CodeT.skip (EndT.thenN ?_)
              refine CodeT.seq ?_
              refine CodeT.region (.p (opLoadA Tryd.ag23 Tryd.cz23 rfl (.t rfl) rfl) rfl <| .p (opCallVars (i := 0) (btext_spec (x := parseN s) (parseN_ok s)) Tryd.cb8 (.cons (.t rfl) .nil) rfl) rfl <| .p (opMove (.t rfl)) rfl <| .p (opEqlS (.t rfl) (.t rfl)) rfl <| .p (opMove (.t rfl)) rfl <| .g (OpG.gT rfl rfl rfl rfl (fun hg => opField Tryd.fd23_0 (.t rfl))) rfl rfl <| .g (OpG.gT rfl rfl rfl rfl (fun hg => opLoad Tryd.ag3 (.when (.t rfl) hg))) rfl rfl <| .g (OpG.gT rfl rfl rfl rfl (fun hg => opGeq (.when (.t rfl) hg) (.c _))) rfl rfl <| .p (opAnd (.t rfl) (.t rfl)) rfl <| .p (opMove (.t rfl)) rfl <| .g (OpG.gT rfl rfl rfl rfl (fun hg => opField Tryd.fd23_4 (.t rfl))) rfl rfl <| .g (OpG.gT rfl rfl rfl rfl (fun hg => opLoad Tryd.ag3 (.when (.t rfl) hg))) rfl rfl <| .g (OpG.gT rfl rfl rfl rfl (fun hg => opLeq (.when (.t rfl) hg) (.c _))) rfl rfl <| .p (opAnd (.t rfl) (.t rfl)) rfl <| .p (opAssign (.t rfl)) rfl <| .nil ?_)
              refine EndT.thenN ?_
              refine CodeT.ret (Post.retP rfl rfl ?_)
              exact VLe.prop (iff_true_intro (ask4 c5))

end Go.Proofs.YtnjfnjgjeibaiaaDoor
