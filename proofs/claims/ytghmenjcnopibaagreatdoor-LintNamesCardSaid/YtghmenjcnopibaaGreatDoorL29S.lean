/-
  Walks, printed by a program (gen.py) out of what its author says of each function.
-/
import Derived.Test.YtghmenjcnopibaaGreatDoorL29T
import Derived.Test.YtghmenjcnopibaaGreatDoorL29B
namespace Go.Proofs.YtghmenjcnopibaaGreatDoor
open Go.Hl Go.RowKit
set_option linter.unusedVariables false
set_option maxRecDepth 100000

theorem cksafe_spec {cb : Nat} : FnE Tryz.prog 93 [addrV cb 0, aggV (encInstr endI)] [chkH cb emptyV B0V] (γ := Unit) (fun _ => True) (fun _ => [chkH cb S0V B1V]) (fun _ => nV 0) := by
  refine FnE.introD 9 Tryz.func93 rfl rfl rfl fun w0 S0 M => ?_
  refine CodeT.seq ?_
  refine CodeT.region (.p (opBoxA (.t rfl)) rfl <| .n (opAlloc Tryz.zb54) rfl <| fun b4 _ => .nil ?_)
  refine EndT.thenN ?_
  refine CodeT.seq ?_
  refine CodeT.region (.p (opMakeClos (.cons (.t rfl) .nil)) rfl <| .deferX rfl (.le (.t rfl) clos1) <| .nil ?_)
  refine EndT.thenN ?_
  refine CodeT.seq ?_
  refine CodeT.region (.p (opMove (.t rfl)) rfl <| .p (OpP.le (opLoadA Tryz.ag100 Tryz.cz100 rfl (.t rfl) rfl) (VLe.refl (aggV (encInstr endI)))) rfl <| .n (opCallE (rest := [_]) (ckstep_spec) Tryz.cb105 (.cons (.t rfl) (.cons (.t rfl) .nil)) (Perm.idx [1, 0] rfl rfl)) rfl <| fun g8 h8 => .nil ?_)
  refine EndT.thenN ?_
  refine CodeT.seq ?_
  refine CodeT.region (.s (opStoreO (i := 1) Tryz.cz54 (.t rfl) (.c _) rfl rfl) <| .nil ?_)
  refine EndT.thenN ?_
  refine CodeT.ret (EndT.retD (fun w => catch_idle _ w) rfl rfl Tryz.cb104 (Post.retR1 rfl (()) (by trivial) (OLe.sel [0] [1] rfl rfl) (.rc (i := 1) Tryz.ag54 rfl rfl rfl) ?_))
  exact VLe.refl _

theorem cklocals_spec  : FnP Tryz.prog 91 [ptrV (encMod modE), nV 0] (tupV [S0V, propV True]) := by
  refine FnE.intro 49 Tryz.func91 rfl rfl rfl fun w0 S0 M => ?_
  refine CodeT.seq ?_
  refine CodeT.region (.p (opAssign (.c _)) rfl <| .p (opAssign .cf) rfl <| .nil ?_)
  refine EndT.thenN ?_
  refine CodeT.seq ?_
  refine CodeT.seq ?_
  refine CodeT.region (.p (opMove (.t rfl)) rfl <| .p (opEqlNil Tryz.underlying57 (.t rfl)) rfl <| .p (opMove (.t rfl)) rfl <| .g (OpG.gF rfl rfl rfl rfl (fun hg => opMove (.t rfl))) rfl rfl <| .g (OpG.gF rfl rfl rfl rfl (fun hg => opLss (.when (.t rfl) hg) (.c _))) rfl rfl <| .p (opOr (.t rfl) (.t rfl)) rfl <| .p (opMove (.t rfl)) rfl <| .g (OpG.gF rfl rfl rfl rfl (fun hg => opMove (.t rfl))) rfl rfl <| .g (OpG.gF rfl rfl rfl rfl (fun hg => opMove (.t rfl))) rfl rfl <| .g (OpG.gF rfl rfl rfl rfl (fun hg => opNilChk (.when (.t rfl) hg))) rfl rfl <| .g (OpG.gF rfl rfl rfl rfl (fun hg => opField Tryz.fd68_2 (.when (.t rfl) hg))) rfl rfl <| .g (OpG.gF rfl rfl rfl rfl (fun hg => opLoad Tryz.ag66 (.when (.t rfl) hg))) rfl rfl <| .g (OpG.gF rfl rfl rfl rfl (fun hg => opLen rfl Tryz.underlying66 (.when (.t rfl) hg))) rfl rfl <| .g (OpG.gF rfl rfl rfl rfl (fun hg => opGeq (.when (.t rfl) hg) (.when (.t rfl) hg))) rfl rfl <| .p (opOr (.t rfl) (.t rfl)) rfl <| .nil ?_)
  refine EndT.thenN ?_
  refine CodeT.cond (.t rfl) (fun c0 => ?_) (fun c0 => ?_)
  ·
    exfalso; revert c0; simp [modE]
  ·
    refine CodeT.skip (EndT.thenN ?_)
    refine CodeT.seq ?_
    refine CodeT.region (.p (opMove (.t rfl)) rfl <| .p (opMove (.t rfl)) rfl <| .p (opNilChk (.t rfl)) rfl <| .p (opField Tryz.fd68_1 (.t rfl)) rfl <| .p (opLoad Tryz.ag46 (.t rfl)) rfl <| .p (opLen rfl Tryz.underlying46 (.t rfl)) rfl <| .p (opMove (.t rfl)) rfl <| .p (opAddF (.t rfl) (.t rfl) (fits_i64 (by simp [modE]) (by simp [modE]))) rfl <| .p (opCall (msig_spec (m := modE) (f := 0)) Tryz.cb30 (.cons (.t rfl) (.cons (.t rfl) .nil))) rfl <| .p (opMove (.t rfl)) rfl <| .p (opExtract (.t rfl) rfl) rfl <| .p (opExtract (.t rfl) rfl) rfl <| .n (opAlloc Tryz.zb77) rfl <| fun b6 _ => .s (opStoreOA (i := 0) Tryz.cz77 rfl (.t rfl) (.t rfl) rfl rfl rfl) <| .p (opAssign (.t rfl)) rfl <| .nil ?_)
    refine EndT.thenN ?_
    refine CodeT.share (t := 6) (i := 0) rfl rfl ?_
    refine CodeT.seq ?_
    refine CodeT.draw 15 1 Tryz.mixed (by kernel_rfl) (.p (opField Tryz.fd77_0 (.t rfl)) <| .p (opLoad Tryz.ag74 (.t rfl)) <| .p (opMove (.t rfl)) <| .p (opNilChk (.t rfl)) <| .p (opField Tryz.fd68_2 (.t rfl)) <| .p (opLoad Tryz.ag66 (.t rfl)) <| .p (opMove (.t rfl)) <| .p (opIndexAddr (j := 0) Tryz.underlying66 Tryz.cz83 rfl (.t rfl) (.t rfl) rfl (show modE.Funcs[0]? = some ⟨0, bodyE⟩ from rfl)) <| .p (opField Tryz.fd83_1 (.t rfl)) <| .p (opField Tryz.fd80_0 (.t rfl)) <| .p (opLoad Tryz.ag74 (.t rfl)) <| .p (opBuildSlice (enc := encSl) [[], []] Tryz.underlying209 Tryz.cz74 rfl Tryz.zb74 rfl (.cons (.t rfl) (.cons (.t rfl) .nil)) rfl rfl rfl rfl rfl) <| .p (opCall (concatT_spec) Tryz.cb98 (.cons (.t rfl) .nil)) <| .p (opMove (.t rfl)) <| .p (opAssign (.t rfl)) <| .nil) (.p (opAssign (.t rfl)) rfl <| .nil ?_)
    refine EndT.thenN ?_
    refine CodeT.ret (Post.retR rfl rfl () trivial (fun _ _ _ _ => trivial) rfl (.cons (.rt rfl) ?_ (.cons (.rt rfl) ?_ .nil)))
    · exact VLe.refl _
    · exact VLe.prop (by simp [modE, sigO, numberO, InP, countM])

theorem ckrun_spec  : FnP Tryz.prog 66 [ptrV (encMod modE), nV 0] (tupV [anyV, nV 0, nV 0]) := by
  refine FnE.intro 99 Tryz.func66 rfl rfl rfl fun w0 S0 M => ?_
  refine CodeT.seq ?_
  refine CodeT.region (.p (opAssign (.c _)) rfl <| .p (opAssign (.c _)) rfl <| .p (opAssign (.c _)) rfl <| .nil ?_)
  refine EndT.thenN ?_
  refine CodeT.seq ?_
  refine CodeT.seq ?_
  refine CodeT.region (.p (opMove (.t rfl)) rfl <| .p (opCall (fit_spec (m := modE)) Tryz.cb48 (.cons (.t rfl) .nil)) rfl <| .p (opMove (.t rfl)) rfl <| .p (opExtract (.t rfl) rfl) rfl <| .p ((opExtract (.t rfl) rfl).le (VLe.int (show (fitP modE).2 = 0 by rw [fit_modE]))) rfl <| .p (opAssign (.t rfl)) rfl <| .p (opAssign (.t rfl)) rfl <| .nil ?_)
  refine EndT.thenN ?_
  refine CodeT.seq ?_
  refine CodeT.region (.p (opMove (.t rfl)) rfl <| .p (opNeq (.t rfl) (.c _)) rfl <| .nil ?_)
  refine EndT.thenN ?_
  refine CodeT.cond (.t rfl) (fun c0 => ?_) (fun c0 => ?_)
  ·
    exact absurd rfl c0
  ·
    refine CodeT.skip (EndT.thenN ?_)
    refine CodeT.seq ?_
    refine CodeT.region (.p (opMove (.t rfl)) rfl <| .p (opMove (.t rfl)) rfl <| .p (opCall (cklocals_spec) Tryz.cb91 (.cons (.t rfl) (.cons (.t rfl) .nil))) rfl <| .p (opMove (.t rfl)) rfl <| .p (opExtract (.t rfl) rfl) rfl <| .p (opExtract (.t rfl) rfl) rfl <| .p (opAssign (.t rfl)) rfl <| .p (opAssign (.t rfl)) rfl <| .nil ?_)
    refine EndT.thenN ?_
    refine CodeT.seq ?_
    refine CodeT.seq ?_
    refine CodeT.region (.p (opMove (.t rfl)) rfl <| .p (opNot (.t rfl)) rfl <| .nil ?_)
    refine EndT.thenN ?_
    refine CodeT.cond (.t rfl) (fun c1 => ?_) (fun c1 => ?_)
    ·
      exact absurd trivial c1
    ·
      refine CodeT.skip (EndT.thenN ?_)
      refine CodeT.seq ?_
      refine CodeT.region (.p (opMove (.t rfl)) rfl <| .p (opNilChk (.t rfl)) rfl <| .p (opField Tryz.fd68_2 (.t rfl)) rfl <| .p (opLoad Tryz.ag66 (.t rfl)) rfl <| .p (opMove (.t rfl)) rfl <| .p (opIndexAddr (j := 0) Tryz.underlying66 Tryz.cz83 rfl (.t rfl) (.t rfl) rfl (show modE.Funcs[0]? = some ⟨0, bodyE⟩ from rfl)) rfl <| .p (opField Tryz.fd83_1 (.t rfl)) rfl <| .p (opLoadA Tryz.ag80 Tryz.cz80 rfl (.t rfl) rfl) rfl <| .n (opAlloc Tryz.zb80) rfl <| fun b11 _ => .s (opStoreOA (i := 0) Tryz.cz80 rfl (.t rfl) (.t rfl) rfl rfl rfl) <| .nil ?_)
      refine EndT.thenN ?_
      refine CodeT.share (t := 11) (i := 0) rfl rfl ?_
      refine CodeT.seq ?_
      refine CodeT.seq ?_
      refine CodeT.region (.p (OpP.le (opLoadA Tryz.ag80 Tryz.cz80 rfl (.t rfl) rfl) (VLe.refl (aggV (encBody bodyE)))) rfl <| .p (opCall (bencode_spec) Tryz.cb92 (.cons (.t rfl) .nil)) rfl <| .p (opMove (.t rfl)) rfl <| .p (opExtract (.t rfl) rfl) rfl <| .p (opExtract (.t rfl) rfl) rfl <| .p (opAssign (.t rfl)) rfl <| .p (opAssign (.t rfl)) rfl <| .nil ?_)
      refine EndT.thenN ?_
      refine CodeT.seq ?_
      refine CodeT.region (.p (opMove (.t rfl)) rfl <| .p (opNeq (.t rfl) (.c _)) rfl <| .nil ?_)
      refine EndT.thenN ?_
      refine CodeT.cond (.t rfl) (fun c2 => ?_) (fun c2 => ?_)
      ·
        exact absurd rfl c2
      ·
        refine CodeT.skip (EndT.thenN ?_)
        refine CodeT.seq ?_
        refine CodeT.region (.p (opMove (.t rfl)) rfl <| .p (opMove (.t rfl)) rfl <| .p (opNilChk (.t rfl)) rfl <| .p (opField Tryz.fd68_1 (.t rfl)) rfl <| .p (opLoad Tryz.ag46 (.t rfl)) rfl <| .p (opLen rfl Tryz.underlying46 (.t rfl)) rfl <| .p (opMove (.t rfl)) rfl <| .p (opAddF (.t rfl) (.t rfl) (fits_i64 (by simp [modE]) (by simp [modE]))) rfl <| .p (opCall (msig_spec (m := modE) (f := 0)) Tryz.cb30 (.cons (.t rfl) (.cons (.t rfl) .nil))) rfl <| .p (opMove (.t rfl)) rfl <| .p (OpP.le (opExtract (.t rfl) rfl) (VLe.refl (aggV (encSig ⟨[], []⟩)))) rfl <| .p (opExtract (.t rfl) rfl) rfl <| .n (opAlloc Tryz.zb77) rfl <| fun b14 _ => .s (opStoreOA (i := 0) Tryz.cz77 rfl (.t rfl) (.t rfl) rfl rfl rfl) <| .p (opAssign (.t rfl)) rfl <| .nil ?_)
        refine EndT.thenN ?_
        refine CodeT.share (t := 14) (i := 0) rfl rfl ?_
        refine CodeT.seq ?_
        refine CodeT.region (.p (opMove (.t rfl)) rfl <| .p (opMove (.t rfl)) rfl <| .p (opLoadA Tryz.ag77 Tryz.cz77 rfl (.t rfl) rfl) rfl <| .p (opBuild Tryz.pl180 Tryz.zb180 (.cons (.t rfl) (.cons (.t rfl) (.cons (.t rfl) .nil))) rfl) rfl <| .p (opField Tryz.fd77_1 (.t rfl)) rfl <| .p (opLoad Tryz.ag74 (.t rfl)) rfl <| .p ((opBuild Tryz.pl182 Tryz.zb182 (.cons (.t rfl) .nil) rfl).le ((show VLe _ (aggV (encBk 0)) from VLe.agg (.cons falseBV (.cons falseBV (.cons (.refl _) (.cons (.refl _) (.cons falseBV .nil)))))))) rfl <| .p (opBuildSlice (enc := encBk) [0] Tryz.underlying183 Tryz.cz182 rfl Tryz.zb182 rfl (.cons (.t rfl) .nil) rfl rfl rfl rfl rfl) rfl <| .p (OpP.le (opBuild Tryz.pl185 Tryz.zb185 (.cons (.t rfl) (.cons (.t rfl) .nil)) rfl) (VLe.refl (aggV [ptrV (encMod modE), S0V, S0V, S0V, exactV (.slice none 0 0), B0V]))) rfl <| .n (opBoxOA (.t rfl)) rfl <| fun b73 _ => .p (opAssign (.t rfl)) rfl <| .nil ?_)
        refine EndT.thenN ?_
        refine CodeT.seq ?_
        refine CodeT.own (OLe.cellsL (cs' := [ptrV (encMod modE), S0V, S0V, S0V, emptyV, B0V]) (.cons (.refl _) (.cons (.refl _) (.cons (.refl _) (.cons (.refl _) (.cons emptyV_nil (.cons (.refl _) .nil))))))) ?_
        refine CodeT.region (.p (opAssign (.c _)) rfl <| .nil ?_)
        refine EndT.thenN ?_
        refine CodeT.seq ?_
        refine CodeT.seq ?_
        refine CodeT.region (.p (opField Tryz.fd80_1 (.t rfl)) rfl <| .p (opLoad Tryz.ag78 (.t rfl)) rfl <| .p (opLen rfl Tryz.underlying78 (.t rfl)) rfl <| .p (opMove (.c _)) rfl <| .nil ?_)
        refine EndT.thenN ?_
        refine CodeT.block ?_
        refine CodeT.loopO (σ := Nat) (fun k => [chkK b73 k]) (fun k => [(77, nV (k : Int)), (17, hgtK k)]) (fun k => k ≤ 1) (fun k => 1 - k) 0 (Nat.zero_le _) rfl ?_ ?_
        · exact (.get rfl (VLe.refl _) (.get rfl emptyV_nil (.refl _ _)))
        · rintro k hk
          refine CodeT.seq ?_
          refine CodeT.region (.p (opLss (.t rfl) (.t rfl)) rfl <| .nil ?_)
          refine EndT.thenN ?_
          refine CodeT.seq ?_
          refine CodeT.cond (.t rfl) (fun c3 => ?_) (fun c3 => ?_)
          ·
            have hk0 : k = 0 := by (first | omega | (revert c3; simp [modE, bodyE]; try omega))
            subst hk0
            refine CodeT.skip (EndT.thenN ?_)
            refine CodeT.seq ?_
            refine CodeT.block ?_
            refine CodeT.seq ?_
            refine CodeT.region (.p (opMove (.t rfl)) rfl <| .p (opIndexAddr (j := 0) Tryz.underlying78 Tryz.cz100 rfl (.t rfl) (.t rfl) rfl (show bodyE.L[0]? = some endI from rfl)) rfl <| .p (OpP.le (opLoadA Tryz.ag100 Tryz.cz100 rfl (.t rfl) rfl) (VLe.refl (aggV (encInstr endI)))) rfl <| .n (opAlloc Tryz.zb100) rfl <| fun b19 _ => .p (opAssign (.t rfl)) rfl <| .s (opStoreOA (i := 0) Tryz.cz100 rfl (.t rfl) (.t rfl) rfl rfl rfl) <| .nil ?_)
            refine EndT.thenN ?_
            refine CodeT.share (t := 19) (i := 0) rfl rfl ?_
            refine CodeT.seq ?_
            refine CodeT.region (.p (opMove (.t rfl)) rfl <| .p (opMove (.t rfl)) rfl <| .p (opNilChkO (.t rfl)) rfl <| .p (opFieldO Tryz.fd185_1 (.t rfl)) rfl <| .p (opLoadO (i := 0) Tryz.ag74 (.t rfl) rfl rfl) rfl <| .p (opLen rfl Tryz.underlying74 (.le (.t rfl) (emptyV_slice 1 encU8))) rfl <| .p (opBuildSlice (enc := encInt) [0] Tryz.underlying93 Tryz.cz3 rfl Tryz.zb3 rfl (.cons (.t rfl) .nil) rfl rfl rfl rfl rfl) rfl <| .p (opAppendE Tryz.underlying93 Tryz.underlying93 Tryz.cz3 rfl Tryz.zb3 rfl Tryz.by3 (.t rfl) (.t rfl) (by decide)) rfl <| .p (opAssign (.t rfl)) rfl <| .nil ?_)
            refine EndT.thenN ?_
            refine CodeT.seq ?_
            refine CodeT.region (.p (opMove (.t rfl)) rfl <| .p (OpP.le (opLoadA Tryz.ag100 Tryz.cz100 rfl (.t rfl) rfl) (VLe.refl (aggV (encInstr endI)))) rfl <| .n (opCallE (rest := []) (cksafe_spec) Tryz.cb93 (.cons (.t rfl) (.cons (.t rfl) .nil)) (Perm.idx [0] rfl rfl)) rfl <| fun g92 h92 => .p (opAssign (.t rfl)) rfl <| .nil ?_)
            refine EndT.thenN ?_
            refine CodeT.seq ?_
            refine CodeT.region (.p (opMove (.t rfl)) rfl <| .p (opNeq (.t rfl) (.c _)) rfl <| .nil ?_)
            refine EndT.thenN ?_
            refine CodeT.cond (.t rfl) (fun c4 => ?_) (fun c4 => ?_)
            ·
              exact absurd rfl c4
            ·
              refine CodeT.skip (EndT.blkN (EndT.thenN ?_))
              refine CodeT.region (.p (opAddF (.t rfl) (.c _) (fits_i64 (by omega) (by omega))) rfl <| .p (opMove (.t rfl)) rfl <| .nil ?_)
              refine EndT.round 1 (Nat.le_refl _) (by decide) rfl ?_
              exact (.get rfl (VLe.refl _) (.get rfl (VLe.refl _) ((.keep 26 rfl rfl))))
          ·
            have hk1 : k = 1 := by (first | omega | (revert c3; simp [modE, bodyE]; try omega))
            subst hk1
            refine CodeT.exit (EndT.thenX (EndT.thenX (EndT.blkX (EndT.thenN ?_))))
            refine CodeT.seq ?_
            refine CodeT.region (.p (opMove (.t rfl)) rfl <| .p (opAssign (.t rfl)) rfl <| .p (opAssign (.c _)) rfl <| .p (opAssign (.c _)) rfl <| .nil ?_)
            refine EndT.thenN ?_
            refine CodeT.ret (Post.retR rfl rfl () trivial (fun _ _ _ _ => trivial) rfl (.cons (.rt rfl) ?_ (.cons (.rt rfl) ?_ (.cons (.rt rfl) ?_ .nil))))
            · exact fun _ _ _ _ => trivial
            · exact VLe.refl _
            · exact VLe.refl _

theorem ckfunc_spec  : FnP Tryz.prog 49 [ptrV (encMod modE), nV 0] (tupV [nV 0, nV 0]) := by
  refine FnE.intro 18 Tryz.func49 rfl rfl rfl fun w0 S0 M => ?_
  refine CodeT.seq ?_
  refine CodeT.region (.p (opAssign (.c _)) rfl <| .p (opAssign (.c _)) rfl <| .nil ?_)
  refine EndT.thenN ?_
  refine CodeT.seq ?_
  refine CodeT.region (.p (opMove (.t rfl)) rfl <| .p (opMove (.t rfl)) rfl <| .p (opCall (ckrun_spec) Tryz.cb66 (.cons (.t rfl) (.cons (.t rfl) .nil))) rfl <| .p (opMove (.t rfl)) rfl <| .p (opExtract (.t rfl) rfl) rfl <| .p (opExtract (.t rfl) rfl) rfl <| .p (opExtract (.t rfl) rfl) rfl <| .p (opAssign (.t rfl)) rfl <| .p (opAssign (.t rfl)) rfl <| .p (opAssign (.t rfl)) rfl <| .nil ?_)
  refine EndT.thenN ?_
  refine CodeT.seq ?_
  refine CodeT.region (.p (opMove (.t rfl)) rfl <| .p (opMove (.t rfl)) rfl <| .p (opAssign (.t rfl)) rfl <| .p (opAssign (.t rfl)) rfl <| .nil ?_)
  refine EndT.thenN ?_
  refine CodeT.ret (Post.retR rfl rfl () trivial (fun _ _ _ _ => trivial) rfl (.cons (.rt rfl) ?_ (.cons (.rt rfl) ?_ .nil)))
  · exact VLe.refl _
  · exact VLe.refl _

theorem vall_spec  : FnP Tryz.prog 37 [ptrV (encMod modE)] (exactV (.slice none 0 0)) := by
  refine FnE.intro 45 Tryz.func37 rfl rfl rfl fun w0 S0 M => ?_
  refine CodeT.seq ?_
  refine CodeT.region (.p (opAssign (.c _)) rfl <| .nil ?_)
  refine EndT.thenN ?_
  refine CodeT.seq ?_
  refine CodeT.seq ?_
  refine CodeT.region (.p (opMove (.t rfl)) rfl <| .p (opCall (fit_spec (m := modE)) Tryz.cb48 (.cons (.t rfl) .nil)) rfl <| .p (opMove (.t rfl)) rfl <| .p (opExtract (.t rfl) rfl) rfl <| .p ((opExtract (.t rfl) rfl).le (VLe.int (show (fitP modE).2 = 0 by rw [fit_modE]))) rfl <| .p (opAssign (.t rfl)) rfl <| .p (opAssign (.t rfl)) rfl <| .nil ?_)
  refine EndT.thenN ?_
  refine CodeT.seq ?_
  refine CodeT.region (.p (opMove (.t rfl)) rfl <| .p (opNeq (.t rfl) (.c _)) rfl <| .nil ?_)
  refine EndT.thenN ?_
  refine CodeT.cond (.t rfl) (fun c0 => ?_) (fun c0 => ?_)
  ·
    exact absurd rfl c0
  ·
    refine CodeT.skip (EndT.thenN ?_)
    refine CodeT.seq ?_
    refine CodeT.region (.p (opAssign (.c _)) rfl <| .nil ?_)
    refine EndT.thenN ?_
    refine CodeT.seq ?_
    refine CodeT.seq ?_
    refine CodeT.region (.p (opMove (.t rfl)) rfl <| .p (opNilChk (.t rfl)) rfl <| .p (opField Tryz.fd68_2 (.t rfl)) rfl <| .p (opLoad Tryz.ag66 (.t rfl)) rfl <| .p (opLen rfl Tryz.underlying66 (.t rfl)) rfl <| .p (opMove (.c _)) rfl <| .nil ?_)
    refine EndT.thenN ?_
    refine CodeT.block ?_
    refine CodeT.loopO (σ := Nat) (fun _ => []) (fun k => [(25, nV (k : Int))]) (fun k => k ≤ 1) (fun k => 1 - k) 0 (Nat.zero_le _) rfl ?_ ?_
    · exact (.get rfl (VLe.refl _) (.refl _ _))
    · rintro k hk
      refine CodeT.seq ?_
      refine CodeT.region (.p (opLss (.t rfl) (.t rfl)) rfl <| .nil ?_)
      refine EndT.thenN ?_
      refine CodeT.seq ?_
      refine CodeT.cond (.t rfl) (fun c1 => ?_) (fun c1 => ?_)
      ·
        have hk0 : k = 0 := by (first | omega | (revert c1; simp [modE, bodyE]; try omega))
        subst hk0
        refine CodeT.skip (EndT.thenN ?_)
        refine CodeT.seq ?_
        refine CodeT.block ?_
        refine CodeT.seq ?_
        refine CodeT.region (.p (opMove (.t rfl)) rfl <| .p (opAssign (.t rfl)) rfl <| .nil ?_)
        refine EndT.thenN ?_
        refine CodeT.seq ?_
        refine CodeT.region (.p (opMove (.t rfl)) rfl <| .p (opMove (.t rfl)) rfl <| .p (opCall (ckfunc_spec) Tryz.cb49 (.cons (.t rfl) (.cons (.t rfl) .nil))) rfl <| .p (opMove (.t rfl)) rfl <| .p (opExtract (.t rfl) rfl) rfl <| .p (opExtract (.t rfl) rfl) rfl <| .p (opAssign (.t rfl)) rfl <| .p (opAssign (.t rfl)) rfl <| .nil ?_)
        refine EndT.thenN ?_
        refine CodeT.seq ?_
        refine CodeT.region (.p (opMove (.t rfl)) rfl <| .p (opNeq (.t rfl) (.c _)) rfl <| .nil ?_)
        refine EndT.thenN ?_
        refine CodeT.cond (.t rfl) (fun c2 => ?_) (fun c2 => ?_)
        ·
          exact absurd rfl c2
        ·
          refine CodeT.skip (EndT.blkN (EndT.thenN ?_))
          refine CodeT.region (.p (opAddF (.t rfl) (.c _) (fits_i64 (by omega) (by omega))) rfl <| .p (opMove (.t rfl)) rfl <| .nil ?_)
          refine EndT.round 1 (Nat.le_refl _) (by decide) rfl ?_
          exact (.get rfl (VLe.refl _) ((.keep 16 rfl rfl)))
      ·
        have hk1 : k = 1 := by (first | omega | (revert c1; simp [modE, bodyE]; try omega))
        subst hk1
        refine CodeT.exit (EndT.thenX (EndT.thenX (EndT.blkX (EndT.thenN ?_))))
        refine CodeT.seq ?_
        refine CodeT.region (.p (opMove (.t rfl)) rfl <| .p (opAssign (.t rfl)) rfl <| .nil ?_)
        refine EndT.thenN ?_
        refine CodeT.ret (Post.retP rfl rfl ?_)
        exact VLe.refl _

theorem vfirst_spec  : FnP Tryz.prog 24 [ptrV (encMod modE)] (tupV [aggV [exactV (.string ⟨#[]⟩), exactV (.int .i64 0), exactV (.int .i64 0), exactV (.int .i64 0)], propV False]) := by
  refine FnE.intro 14 Tryz.func24 rfl rfl rfl fun w0 S0 M => ?_
  refine CodeT.seq ?_
  refine CodeT.region (.n (opAlloc Tryz.zb86) rfl <| fun b2 _ => .p (opAssign .cf) rfl <| .nil ?_)
  refine EndT.thenN ?_
  refine CodeT.seq ?_
  refine CodeT.region (.p (opMove (.t rfl)) rfl <| .p (opCall (vall_spec) Tryz.cb37 (.cons (.t rfl) .nil)) rfl <| .p (opAssign (.t rfl)) rfl <| .nil ?_)
  refine EndT.thenN ?_
  refine CodeT.seq ?_
  refine CodeT.seq ?_
  refine CodeT.region (.p (opMove (.t rfl)) rfl <| .p (opLen rfl Tryz.underlying118 (.le (.t rfl) (sliceV_nil 1 encU8))) rfl <| .p (opEql (.t rfl) (.c _)) rfl <| .nil ?_)
  refine EndT.thenN ?_
  refine CodeT.cond (.t rfl) (fun c0 => ?_) (fun c0 => ?_)
  ·
    refine CodeT.seq ?_
    refine CodeT.region (.p (opBuild Tryz.pl86 Tryz.zb86 .nil rfl) rfl <| .s (opStoreOA (i := 0) Tryz.cz86 rfl (.t rfl) (.t rfl) rfl rfl rfl) <| .p (opAssign .cf) rfl <| .nil ?_)
    refine EndT.thenN ?_
    refine CodeT.ret (EndT.thenR (Post.retR rfl rfl () trivial (fun _ _ _ _ => trivial) rfl (.cons (.ra (i := 0) Tryz.ag86 Tryz.cz86 rfl rfl rfl rfl) ?_ (.cons (.rt rfl) ?_ .nil))))
    · exact VLe.refl _
    · exact VLe.refl _
  ·
    exact absurd rfl c0

theorem vis_spec  : FnP Tryz.prog 12 [ptrV (encMod modE)] (propV True) := by
  refine FnE.intro 12 Tryz.func12 rfl rfl rfl fun w0 S0 M => ?_
  refine CodeT.seq ?_
  refine CodeT.region (.p (opAssign .cf) rfl <| .nil ?_)
  refine EndT.thenN ?_
  refine CodeT.seq ?_
  refine CodeT.region (.p (opMove (.t rfl)) rfl <| .p (opCall (vfirst_spec) Tryz.cb24 (.cons (.t rfl) .nil)) rfl <| .p (opMove (.t rfl)) rfl <| .p (opExtract (.t rfl) rfl) rfl <| .p (opExtract (.t rfl) rfl) rfl <| .n (opAlloc Tryz.zb86) rfl <| fun b3 _ => .s (opStoreOA (i := 0) Tryz.cz86 rfl (.t rfl) (.t rfl) rfl rfl rfl) <| .p (opAssign (.t rfl)) rfl <| .nil ?_)
  refine EndT.thenN ?_
  refine CodeT.share (t := 3) (i := 0) rfl rfl ?_
  refine CodeT.seq ?_
  refine CodeT.region (.p (opMove (.t rfl)) rfl <| .p (opNot (.t rfl)) rfl <| .p (opAssign (.t rfl)) rfl <| .nil ?_)
  refine EndT.thenN ?_
  refine CodeT.ret (Post.retP rfl rfl ?_)
  exact VLe.prop (by simp)

end Go.Proofs.YtghmenjcnopibaaGreatDoor
