/-
  Walks, printed by a program (gen.py) out of what its author says of each function.
-/
import Derived.Test.YtghmenjcnopibaaGreatDoorL29R
namespace Go.Proofs.YtghmenjcnopibaaGreatDoor
open Go.Hl Go.RowKit
set_option linter.unusedVariables false
set_option maxRecDepth 100000

theorem lmodule_spec  : FnP Tryz.prog 9 [ptrV (encMod modE)] (tupV [sliceV 3 encFd [(0, 0, 0)], nV 0]) := by
  refine FnE.intro 81 Tryz.func9 rfl rfl rfl fun w0 S0 M => ?_
  refine CodeT.seq ?_
  refine CodeT.region (.p (opBox (.t rfl)) rfl <| .p (opAssign (.c _)) rfl <| .p (opAssign (.c _)) rfl <| .nil ?_)
  refine EndT.thenN ?_
  refine CodeT.seq ?_
  refine CodeT.block ?_
  refine CodeT.seq ?_
  refine CodeT.region (.p (opLoad Tryz.ag57 (.t rfl)) rfl <| .p (opEqlNil Tryz.underlying57 (.t rfl)) rfl <| .p (opAssign (.t rfl)) rfl <| .nil ?_)
  refine EndT.thenN ?_
  refine CodeT.cond (.t rfl) (fun c0 => ?_) (fun c0 => ?_)
  ·
    exact c0.elim
  ·
    refine CodeT.seq ?_
    refine CodeT.region (.p (opLoad Tryz.ag57 (.t rfl)) rfl <| .p (opCall (vis_spec) Tryz.cb12 (.cons (.t rfl) .nil)) rfl <| .p (opNot (.t rfl)) rfl <| .p (opAssign (.t rfl)) rfl <| .nil ?_)
    refine EndT.thenN ?_
    refine CodeT.cond (.t rfl) (fun c1 => ?_) (fun c1 => ?_)
    ·
      exact absurd trivial c1
    ·
      refine CodeT.skip (EndT.blkN (EndT.thenN ?_))
      refine CodeT.seq ?_
      refine CodeT.region (.p (opLoad Tryz.ag57 (.t rfl)) rfl <| .n (opMakeM kpair (fun b : Bool => propV (b = true))) rfl <| fun m15 _ => .p (opBuild Tryz.pl63 Tryz.zb63 (.cons (.t rfl) (.cons (.t rfl) .nil)) rfl) rfl <| .n (opBoxOA (.t rfl)) rfl <| fun b17 _ => .p (opAssign (.t rfl)) rfl <| .nil ?_)
      refine EndT.thenN ?_
      refine CodeT.seq ?_
      refine CodeT.own (OLe.cellsL (cs' := [ptrV (encMod modE), exactV (.map (some m15)), emptyV]) (.cons (.refl _) (.cons (.refl _) (.cons emptyV_nil .nil)))) ?_
      refine CodeT.region (.p (opMove (.t rfl)) rfl <| .n (opCallE (rest := []) (lexports_spec) Tryz.cb13 (.cons (.t rfl) .nil) (Perm.idx [0, 1] rfl rfl)) rfl <| fun g19 h19 => .nil ?_)
      refine EndT.thenN ?_
      refine CodeT.seq ?_
      refine CodeT.region (.p (opMove (.t rfl)) rfl <| .n ((opCallE (rest := []) (lbodies_spec) Tryz.cb14 (.cons (.t rfl) .nil) (Perm.idx [0, 1] rfl rfl)).same (fun _ _ => OLe.refl _) (fun _ _ => VLe.refl _)) rfl <| fun _ _ => .nil ?_)
      refine EndT.thenN ?_
      refine CodeT.seq ?_
      refine CodeT.draw 8 1 Tryz.mixed (by kernel_rfl) (.p (opMove (.t rfl)) <| .p (opLoad Tryz.ag57 (.t rfl)) <| .p (opNilChk (.t rfl)) <| .p (opField Tryz.fd68_1 (.t rfl)) <| .p (opLoad Tryz.ag46 (.t rfl)) <| .p (opLen rfl Tryz.underlying46 (.t rfl)) <| .p (opLoad Tryz.ag57 (.t rfl)) <| .p (opCall (count_spec (m := modE)) Tryz.cb16 (.cons (.t rfl) .nil)) <| .nil) (.n (opCallE (rest := []) (each1_spec (kind := 0) (D := expD 1) exp00) Tryz.cb15 (.cons (.t rfl) (.cons (.c _) (.cons (.t rfl) (.cons (.le (.t rfl) (VLe.int (by simp [countM, modE]))) (.cons (.le (.f _) (funV_of Tryz.cb17 (fun (i : Int) (_ : True) => lall_spec (i := i)))) .nil))))) (Perm.idx [0, 1] rfl rfl)) rfl <| fun g30 h30 => .nil ?_)
      refine EndT.thenN ?_
      refine CodeT.seq ?_
      refine CodeT.region (.p (opMove (.t rfl)) rfl <| .p (opLoad Tryz.ag57 (.t rfl)) rfl <| .p (opNilChk (.t rfl)) rfl <| .p (opField Tryz.fd68_0 (.t rfl)) rfl <| .p (opLoad Tryz.ag65 (.t rfl)) rfl <| .p (opLen rfl Tryz.underlying65 (.t rfl)) rfl <| .n ((opCallE (rest := []) (each2_spec (kind := 1) (D := expD 1) exp10) Tryz.cb15 (.cons (.t rfl) (.cons (.c _) (.cons (.c _) (.cons (.t rfl) (.cons (.le (.f _) (funV_of Tryz.cb17 (fun (i : Int) (_ : True) => lall_spec (i := i)))) .nil))))) (Perm.idx [0, 1] rfl rfl)).same (fun _ _ => OLe.refl _) (fun _ _ => VLe.refl _)) rfl <| fun _ _ => .nil ?_)
      refine EndT.thenN ?_
      refine CodeT.seq ?_
      refine CodeT.region (.p (opMove (.t rfl)) rfl <| .p (opLoad Tryz.ag57 (.t rfl)) rfl <| .p (opNilChk (.t rfl)) rfl <| .p (opField Tryz.fd68_5 (.t rfl)) rfl <| .p (opLoad Tryz.ag48 (.t rfl)) rfl <| .p (opLen rfl Tryz.underlying48 (.t rfl)) rfl <| .p (opMakeClos (.cons (.t rfl) .nil)) rfl <| .p (opCall (each0_spec (kind := 2) (a := 0) (b := ((modE.Globals.length : Nat) : Int)) (by simp [modE])) Tryz.cb15 (.cons (.le (.t rfl) (fun _ _ _ _ => trivial)) (.cons (.c _) (.cons (.c _) (.cons (.t rfl) (.cons (.le (.t rfl) (fun _ _ _ _ => trivial)) .nil)))))) rfl <| .nil ?_)
      refine EndT.thenN ?_
      refine CodeT.seq ?_
      refine CodeT.region (.p (opMove (.t rfl)) rfl <| .p (opLoad Tryz.ag57 (.t rfl)) rfl <| .p (opNilChk (.t rfl)) rfl <| .p (opField Tryz.fd68_4 (.t rfl)) rfl <| .p (opLoad Tryz.ag47 (.t rfl)) rfl <| .p (opLen rfl Tryz.underlying47 (.t rfl)) rfl <| .p (opCall (each0_spec (kind := 3) (a := 0) (b := ((modE.Mems.length : Nat) : Int)) (by simp [modE])) Tryz.cb15 (.cons (.le (.t rfl) (fun _ _ _ _ => trivial)) (.cons (.c _) (.cons (.c _) (.cons (.t rfl) (.cons (.le (.f _) ((fun _ _ _ _ => trivial))) .nil)))))) rfl <| .nil ?_)
      refine EndT.thenN ?_
      refine CodeT.seq ?_
      refine CodeT.seq ?_
      refine CodeT.region (.p (opLoad Tryz.ag57 (.t rfl)) rfl <| .p (opNilChk (.t rfl)) rfl <| .p (opField Tryz.fd68_2 (.t rfl)) rfl <| .p (opLoad Tryz.ag66 (.t rfl)) rfl <| .p (opLen rfl Tryz.underlying66 (.t rfl)) rfl <| .p (opMove (.c _)) rfl <| .nil ?_)
      refine EndT.thenN ?_
      refine CodeT.block ?_
      refine CodeT.loopO (σ := Nat) (fun _ => [lookH b17 m15 (sliceV 3 encFd [(0, 0, 0)]), namH m15 (expD 1)]) (fun k => [(58, nV (k : Int))]) (fun k => k ≤ 1) (fun k => 1 - k) 0 (Nat.zero_le _) rfl ?_ ?_
      · exact (.get rfl (VLe.refl _) (.refl _ _))
      · rintro k hk
        refine CodeT.seq ?_
        refine CodeT.region (.p (opLss (.t rfl) (.t rfl)) rfl <| .nil ?_)
        refine EndT.thenN ?_
        refine CodeT.seq ?_
        refine CodeT.cond (.t rfl) (fun c2 => ?_) (fun c2 => ?_)
        ·
          have hk0 : k = 0 := by (first | omega | (revert c2; simp [modE, bodyE]; try omega))
          subst hk0
          refine CodeT.skip (EndT.thenN ?_)
          refine CodeT.seq ?_
          refine CodeT.block ?_
          refine CodeT.seq ?_
          refine CodeT.region (.p (opMove (.t rfl)) rfl <| .p (opAssign (.t rfl)) rfl <| .nil ?_)
          refine EndT.thenN ?_
          refine CodeT.region (.p (opMove (.t rfl)) rfl <| .p (opMove (.t rfl)) rfl <| .n ((opCallE (rest := []) (ldead_spec) Tryz.cb19 (.cons (.t rfl) (.cons (.t rfl) .nil)) (Perm.idx [0, 1] rfl rfl)).same (fun _ _ => OLe.refl _) (fun _ _ => VLe.refl _)) rfl <| fun _ _ => .nil ?_)
          refine EndT.blkN (EndT.thenN ?_)
          refine CodeT.region (.p (opAddF (.t rfl) (.c _) (fits_i64 (by omega) (by omega))) rfl <| .p (opMove (.t rfl)) rfl <| .nil ?_)
          refine EndT.round 1 (Nat.le_refl _) (by decide) rfl ?_
          exact (.get rfl (VLe.refl _) ((.keep 9 rfl rfl)))
        ·
          have hk1 : k = 1 := by (first | omega | (revert c2; simp [modE, bodyE]; try omega))
          subst hk1
          refine CodeT.exit (EndT.thenX (EndT.thenX (EndT.blkX (EndT.thenN ?_))))
          refine CodeT.seq ?_
          refine CodeT.seq ?_
          refine CodeT.region (.p (opLoad Tryz.ag57 (.t rfl)) rfl <| .p (opNilChk (.t rfl)) rfl <| .p (opField Tryz.fd68_2 (.t rfl)) rfl <| .p (opLoad Tryz.ag66 (.t rfl)) rfl <| .p (opLen rfl Tryz.underlying66 (.t rfl)) rfl <| .p (opMove (.c _)) rfl <| .nil ?_)
          refine EndT.thenN ?_
          refine CodeT.block ?_
          refine CodeT.loopO (σ := Nat) (fun _ => [lookH b17 m15 (sliceV 3 encFd [(0, 0, 0)]), namH m15 (expD 1)]) (fun k => [(70, nV (k : Int))]) (fun k => k ≤ 1) (fun k => 1 - k) 0 (Nat.zero_le _) rfl ?_ ?_
          · exact (.get rfl (VLe.refl _) (.refl _ _))
          · rintro k hk
            refine CodeT.seq ?_
            refine CodeT.region (.p (opLss (.t rfl) (.t rfl)) rfl <| .nil ?_)
            refine EndT.thenN ?_
            refine CodeT.seq ?_
            refine CodeT.cond (.t rfl) (fun c3 => ?_) (fun c3 => ?_)
            ·
              have hk0 : k = 0 := by (first | omega | (revert c3; simp [modE, bodyE]; try omega))
              subst hk0
              refine CodeT.skip (EndT.thenN ?_)
              refine CodeT.seq ?_
              refine CodeT.block ?_
              refine CodeT.seq ?_
              refine CodeT.region (.p (opMove (.t rfl)) rfl <| .p (opAssign (.t rfl)) rfl <| .nil ?_)
              refine EndT.thenN ?_
              refine CodeT.region (.p (opMove (.t rfl)) rfl <| .p (opMove (.t rfl)) rfl <| .n ((opCallE (rest := []) (llocals_spec) Tryz.cb20 (.cons (.t rfl) (.cons (.t rfl) .nil)) (Perm.idx [0, 1] rfl rfl)).same (fun _ _ => OLe.refl _) (fun _ _ => VLe.refl _)) rfl <| fun _ _ => .nil ?_)
              refine EndT.blkN (EndT.thenN ?_)
              refine CodeT.region (.p (opAddF (.t rfl) (.c _) (fits_i64 (by omega) (by omega))) rfl <| .p (opMove (.t rfl)) rfl <| .nil ?_)
              refine EndT.round 1 (Nat.le_refl _) (by decide) rfl ?_
              exact (.get rfl (VLe.refl _) ((.keep 9 rfl rfl)))
            ·
              have hk1 : k = 1 := by (first | omega | (revert c3; simp [modE, bodyE]; try omega))
              subst hk1
              refine CodeT.exit (EndT.thenX (EndT.thenX (EndT.blkX (EndT.thenN ?_))))
              refine CodeT.seq ?_
              refine CodeT.region (.p (opMove (.t rfl)) rfl <| .p (opNilChkO (.t rfl)) rfl <| .p (opFieldO Tryz.fd63_2 (.t rfl)) rfl <| .p (opLoadO (i := 0) Tryz.ag29 (.t rfl) rfl rfl) rfl <| .p (opAssign (.t rfl)) rfl <| .p (opAssign (.c _)) rfl <| .nil ?_)
              refine EndT.thenN ?_
              refine CodeT.ret (Post.retR rfl rfl () trivial (fun _ _ _ _ => trivial) rfl (.cons (.rt rfl) ?_ (.cons (.rt rfl) ?_ .nil)))
              · exact VLe.refl _
              · exact VLe.refl _

theorem lkname_spec {kind : Int} : FnP Tryz.prog 4 [nV kind] (strV (kindN kind)) := by
  refine FnE.intro 12 Tryz.func4 rfl rfl rfl fun w0 S0 M => ?_
  refine CodeT.seq ?_
  refine CodeT.region (.p (opAssign (.s [] rfl rfl)) rfl <| .nil ?_)
  refine EndT.thenN ?_
  refine CodeT.seq ?_
  refine CodeT.seq ?_
  refine CodeT.region (.p (opMove (.t rfl)) rfl <| .p (opLss (.t rfl) (.c _)) rfl <| .p (opMove (.t rfl)) rfl <| .g (OpG.gF rfl rfl rfl rfl (fun hg => opMove (.t rfl))) rfl rfl <| .g (OpG.gF rfl rfl rfl rfl (fun hg => opGeq (.when (.t rfl) hg) (.c _))) rfl rfl <| .p (opOr (.t rfl) (.t rfl)) rfl <| .nil ?_)
  refine EndT.thenN ?_
  refine CodeT.cond (.t rfl) (fun c0 => ?_) (fun c0 => ?_)
  ·
    refine CodeT.seq ?_
    refine CodeT.region (.p (opAssign (.s [] rfl rfl)) rfl <| .nil ?_)
    refine EndT.thenN ?_
    refine CodeT.ret (EndT.thenR (Post.retP rfl rfl ?_))
    exact VLe.of_eq (by rw [kindN_out (by omega)])
  ·
    refine CodeT.skip (EndT.thenN ?_)
    refine CodeT.seq ?_
    refine CodeT.region (.p (opBuildArr (cs := namesK.flatMap encStrD) Tryz.ar28 Tryz.zb28 (.cons (.s [117, 110, 117, 115, 101, 100] rfl rfl) (.cons (.s [105, 100, 108, 101] rfl rfl) (.cons (.s [115, 116, 105, 108, 108] rfl rfl) (.cons (.s [98, 97, 114, 101] rfl rfl) (.cons (.s [100, 101, 97, 100] rfl rfl) (.cons (.s [108, 111, 99, 97, 108] rfl rfl) .nil)))))) rfl) rfl <| .p (opMove (.t rfl)) rfl <| .p (opIndexA1 Tryz.underlying28 Tryz.cz9 Tryz.ag9 (.t rfl) rfl (.t rfl) (by omega : _ = ((kind.toNat : Nat) : Int)) (strs_at (by have : namesK.length = 6 := rfl; omega))) rfl <| .p (opAssign (.t rfl)) rfl <| .nil ?_)
    refine EndT.thenN ?_
    refine CodeT.ret (Post.retP rfl rfl ?_)
    exact VLe.of_eq (by rw [kindN_in (by omega)])

theorem lklines_spec  : FnP Tryz.prog 5 [exactV (.slice none 0 0)] (exactV (.slice none 0 0)) := by
  refine FnE.intro 30 Tryz.func5 rfl rfl rfl fun w0 S0 M => ?_
  refine CodeT.seq ?_
  refine CodeT.region (.p (opAssign (.c _)) rfl <| .nil ?_)
  refine EndT.thenN ?_
  refine CodeT.seq ?_
  refine CodeT.region (.p (opAssign (.c _)) rfl <| .nil ?_)
  refine EndT.thenN ?_
  refine CodeT.seq ?_
  refine CodeT.seq ?_
  refine CodeT.region (.p (opMove (.t rfl)) rfl <| .p (opLen rfl Tryz.underlying29 (.le (.t rfl) (sliceV_nil 3 encFd))) rfl <| .p (opMove (.c _)) rfl <| .nil ?_)
  refine EndT.thenN ?_
  refine CodeT.block ?_
  refine CodeT.loopO (σ := Nat) (fun _ => []) (fun k => [(8, nV (k : Int))]) (fun k => k = 0) (fun k => 0) 0 rfl rfl ?_ ?_
  · exact (.get rfl (VLe.refl _) (.refl _ _))
  · rintro k hk
    refine CodeT.seq ?_
    refine CodeT.region (.p (opLss (.t rfl) (.t rfl)) rfl <| .nil ?_)
    refine EndT.thenN ?_
    refine CodeT.seq ?_
    refine CodeT.cond (.t rfl) (fun c0 => ?_) (fun c0 => ?_)
    ·
      exfalso; subst hk; revert c0; simp
    ·
      refine CodeT.exit (EndT.thenX (EndT.thenX (EndT.blkX (EndT.thenN ?_))))
      refine CodeT.seq ?_
      refine CodeT.region (.p (opMove (.t rfl)) rfl <| .p (opAssign (.t rfl)) rfl <| .nil ?_)
      refine EndT.thenN ?_
      refine CodeT.ret (Post.retP rfl rfl ?_)
      exact VLe.refl _

theorem lkcount_spec {kind : Int} : FnP Tryz.prog 6 [exactV (.slice none 0 0), nV kind] (nV 0) := by
  refine FnE.intro 22 Tryz.func6 rfl rfl rfl fun w0 S0 M => ?_
  refine CodeT.seq ?_
  refine CodeT.region (.p (opAssign (.c _)) rfl <| .nil ?_)
  refine EndT.thenN ?_
  refine CodeT.seq ?_
  refine CodeT.region (.p (opAssign (.c _)) rfl <| .nil ?_)
  refine EndT.thenN ?_
  refine CodeT.seq ?_
  refine CodeT.seq ?_
  refine CodeT.region (.p (opMove (.t rfl)) rfl <| .p (opLen rfl Tryz.underlying29 (.le (.t rfl) (sliceV_nil 3 encFd))) rfl <| .p (opMove (.c _)) rfl <| .nil ?_)
  refine EndT.thenN ?_
  refine CodeT.block ?_
  refine CodeT.loopO (σ := Nat) (fun _ => []) (fun k => [(10, nV (k : Int))]) (fun k => k = 0) (fun k => 0) 0 rfl rfl ?_ ?_
  · exact (.get rfl (VLe.refl _) (.refl _ _))
  · rintro k hk
    refine CodeT.seq ?_
    refine CodeT.region (.p (opLss (.t rfl) (.t rfl)) rfl <| .nil ?_)
    refine EndT.thenN ?_
    refine CodeT.seq ?_
    refine CodeT.cond (.t rfl) (fun c0 => ?_) (fun c0 => ?_)
    ·
      exfalso; subst hk; revert c0; simp
    ·
      refine CodeT.exit (EndT.thenX (EndT.thenX (EndT.blkX (EndT.thenN ?_))))
      refine CodeT.seq ?_
      refine CodeT.region (.p (opMove (.t rfl)) rfl <| .p (opAssign (.t rfl)) rfl <| .nil ?_)
      refine EndT.thenN ?_
      refine CodeT.ret (Post.retP rfl rfl ?_)
      exact VLe.refl _

theorem awake29_spec  : FnP Tryz.prog 7 [] (propV True) := by
  refine FnE.intro 36 Tryz.func7 rfl rfl rfl fun w0 S0 M => ?_
  refine CodeT.seq ?_
  refine CodeT.region (.p (opAssign .cf) rfl <| .nil ?_)
  refine EndT.thenN ?_
  refine CodeT.seq ?_
  refine CodeT.region (.p ((opBuild Tryz.pl34 Tryz.zb34 .nil rfl).le ((show VLe _ (aggV (encSig ⟨[], []⟩)) from VLe.agg (.cons (sliceV_nil _ _) (.cons (sliceV_nil _ _) .nil))))) rfl <| .p (opBuildSlice (enc := encSig) [⟨[], []⟩] Tryz.underlying35 Tryz.cz34 rfl Tryz.zb34 rfl (.cons (.t rfl) .nil) rfl rfl rfl rfl rfl) rfl <| .p ((opBuild Tryz.pl39 Tryz.zb39 (.cons (.c _) .nil) rfl).le ((show VLe _ (aggV (encInstr endI)) from VLe.agg (.cons (.refl _) (.cons (.refl _) (.cons (.refl _) (.cons (.refl _) (.cons (sliceV_nil _ _) .nil)))))))) rfl <| .p (opBuildSlice (enc := encInstr) [endI] Tryz.underlying40 Tryz.cz39 rfl Tryz.zb39 rfl (.cons (.t rfl) .nil) rfl rfl rfl rfl rfl) rfl <| .p ((opBuild Tryz.pl42 Tryz.zb42 (.cons (.t rfl) .nil) rfl).le ((show VLe _ (aggV (encBody bodyE)) from VLe.agg (.cons (sliceV_nil _ _) (.cons (.refl _) .nil))))) rfl <| .p ((opBuild Tryz.pl44 Tryz.zb44 (.cons (.t rfl) .nil) rfl).le ((show VLe _ (aggV (encFunc ⟨0, bodyE⟩)) from VLe.refl _))) rfl <| .p (opBuildSlice (enc := encFunc) [⟨0, bodyE⟩] Tryz.underlying45 Tryz.cz44 rfl Tryz.zb44 rfl (.cons (.t rfl) .nil) rfl rfl rfl rfl rfl) rfl <| .p ((opBuild Tryz.pl53 Tryz.zb53 (.cons (.t rfl) (.cons (.c _) (.cons (.c _) (.cons (.t rfl) .nil)))) rfl).le ((show VLe _ (aggV (encMod modE)) from VLe.agg (.cons (.refl _) (.cons (sliceV_nil _ _) (.cons (.refl _) (.cons (.refl _) (.cons (sliceV_nil _ _) (.cons (sliceV_nil _ _) (.cons (sliceV_nil _ _) (.cons (.refl _) (.cons (sliceV_nil _ _) (.cons (sliceV_nil _ _) .nil))))))))))))) rfl <| .n (opAlloc Tryz.zb53) rfl <| fun b1 _ => .s (opStoreOA (i := 0) Tryz.cz53 rfl (.t rfl) (.t rfl) rfl rfl rfl) <| .nil ?_)
  refine EndT.thenN ?_
  refine CodeT.share (t := 1) (i := 0) rfl rfl ?_
  refine CodeT.seq ?_
  refine CodeT.region (.p (OpP.le (opLoadA Tryz.ag53 Tryz.cz53 rfl (.t rfl) rfl) (VLe.refl (aggV (encMod modE)))) rfl <| .p (opCall (l13to_spec smallE) Tryz.cb10 (.cons (.t rfl) .nil)) rfl <| .p (opCall (lmodule_spec) Tryz.cb9 (.cons (.t rfl) .nil)) rfl <| .p (opMove (.t rfl)) rfl <| .p (opExtract (.t rfl) rfl) rfl <| .p (opExtract (.t rfl) rfl) rfl <| .p (opAssign (.t rfl)) rfl <| .p (opAssign (.t rfl)) rfl <| .nil ?_)
  refine EndT.thenN ?_
  refine CodeT.seq ?_
  refine CodeT.region (.p (opMove (.t rfl)) rfl <| .p (opEql (.t rfl) (.c _)) rfl <| .p (opMove (.t rfl)) rfl <| .g (OpG.gT rfl rfl rfl rfl (fun hg => opMove (.t rfl))) rfl rfl <| .g (OpG.gT rfl rfl rfl rfl (fun hg => opLen rfl Tryz.underlying29 (.when (.t rfl) hg))) rfl rfl <| .g (OpG.gT rfl rfl rfl rfl (fun hg => opEql (.when (.t rfl) hg) (.c _))) rfl rfl <| .p (opAnd (.t rfl) (.t rfl)) rfl <| .p (opMove (.t rfl)) rfl <| .g (OpG.gT rfl rfl rfl rfl (fun hg => opMove (.t rfl))) rfl rfl <| .g (OpG.gT rfl rfl rfl rfl (fun hg => opIndexAddr (j := 0) Tryz.underlying29 Tryz.cz31 rfl (.when (.t rfl) hg) (.c _) rfl (show ([(0, 0, 0)] : List (Int × Int × Int))[0]? = some (0, 0, 0) from rfl))) rfl rfl <| .g (OpG.gT rfl rfl rfl rfl (fun hg => OpP.le (opLoadA Tryz.ag31 Tryz.cz31 rfl (.when (.t rfl) hg) rfl) (VLe.refl (aggV (encFd (0, 0, 0)))))) rfl rfl <| .g (OpG.gT rfl rfl rfl rfl (fun hg => OpP.le (opBuild Tryz.pl31 Tryz.zb31 (.cons (.c _) .nil) rfl) (VLe.refl (aggV (encFd (0, 0, 0)))))) rfl rfl <| .g (OpG.gT rfl rfl rfl rfl (fun hg => opEqlA Tryz.underlying31 Tryz.sh31 Tryz.eg31 (.when (.t rfl) hg) (.when (.t rfl) hg) (.cons (by decide) rfl rfl (.int Tryz.underlying3) (.cons (by decide) rfl rfl (.int Tryz.underlying3) (.cons (by decide) rfl rfl (.int Tryz.underlying3) .nil))))) rfl rfl <| .p (opAnd (.t rfl) (.t rfl)) rfl <| .p (opMove (.t rfl)) rfl <| .g (OpG.gT rfl rfl rfl rfl (fun hg => opCall (lkname_spec (kind := 0)) Tryz.cb4 (.cons (.c _) .nil))) rfl rfl <| .g (OpG.gT rfl rfl rfl rfl (fun hg => opEqlS (.when (.t rfl) hg) (.s [117, 110, 117, 115, 101, 100] rfl rfl))) rfl rfl <| .p (opAnd (.t rfl) (.t rfl)) rfl <| .p (opAssign (.t rfl)) rfl <| .nil ?_)
  refine EndT.thenN ?_
  refine CodeT.ret (Post.retP rfl rfl ?_)
  exact VLe.prop (by simp [kindN, namesK])

theorem lintNames_spec {kind : Int} : FnP Tryz.prog 3 [nV kind] (propV True) := by
  refine FnE.intro 31 Tryz.func3 rfl rfl rfl fun w0 S0 M => ?_
  refine CodeT.seq ?_
  refine CodeT.region (.p (opAssign .cf) rfl <| .nil ?_)
  refine EndT.thenN ?_
  refine CodeT.seq ?_
  refine CodeT.region (.p (opAssign (.s [] rfl rfl)) rfl <| .nil ?_)
  refine EndT.thenN ?_
  refine CodeT.seq ?_
  refine CodeT.seq ?_
  refine CodeT.region (.p (opMove (.t rfl)) rfl <| .p (opGeq (.t rfl) (.c _)) rfl <| .p (opMove (.t rfl)) rfl <| .g (OpG.gT rfl rfl rfl rfl (fun hg => opMove (.t rfl))) rfl rfl <| .g (OpG.gT rfl rfl rfl rfl (fun hg => opLss (.when (.t rfl) hg) (.c _))) rfl rfl <| .p (opAnd (.t rfl) (.t rfl)) rfl <| .nil ?_)
  refine EndT.thenN ?_
  refine CodeT.cond (.t rfl) (fun c0 => ?_) (fun c0 => ?_)
  ·
    have hki : 0 ≤ kind ∧ kind < 6 := ⟨c0.1, c0.2⟩
    have hkn := kindN_in hki
    refine CodeT.region (.p (opBuildSlice (enc := encStrD) namesK Tryz.underlying22 Tryz.cz9 rfl Tryz.zb9 rfl (.cons (.s [117, 110, 117, 115, 101, 100] rfl rfl) (.cons (.s [105, 100, 108, 101] rfl rfl) (.cons (.s [115, 116, 105, 108, 108] rfl rfl) (.cons (.s [98, 97, 114, 101] rfl rfl) (.cons (.s [100, 101, 97, 100] rfl rfl) (.cons (.s [108, 111, 99, 97, 108] rfl rfl) .nil)))))) rfl rfl rfl rfl rfl) rfl <| .p (opMove (.t rfl)) rfl <| .p (opIndexAddr (j := kind.toNat) Tryz.underlying22 Tryz.cz9 rfl (.t rfl) (.t rfl) (by omega) (show namesK[kind.toNat]? = some (namesK.getD kind.toNat []) by (have h6 : namesK.length = 6 := rfl; rw [List.getElem?_eq_getElem (by omega), List.getD_eq_getElem?_getD, List.getElem?_eq_getElem (by omega)]; rfl))) rfl <| .p (opLoad Tryz.ag9 (.t rfl)) rfl <| .p (opAssign (.t rfl)) rfl <| .nil ?_)
    refine EndT.thenN ?_
    refine CodeT.seq ?_
    refine CodeT.region (.p (opMove (.t rfl)) rfl <| .p (opCall (lkname_spec (kind := kind)) Tryz.cb4 (.cons (.t rfl) .nil)) rfl <| .p (opMove (.t rfl)) rfl <| .p (opEqlS (.t rfl) (.t rfl)) rfl <| .p (opMove (.t rfl)) rfl <| .g (OpG.gT rfl rfl rfl rfl (fun hg => opCall (lklines_spec) Tryz.cb5 (.cons (.c _) .nil))) rfl rfl <| .g (OpG.gT rfl rfl rfl rfl (fun hg => opLen rfl Tryz.underlying22 (.le (.when (.t rfl) hg) (sliceV_nil 1 encStrD)))) rfl rfl <| .g (OpG.gT rfl rfl rfl rfl (fun hg => opEql (.when (.t rfl) hg) (.c _))) rfl rfl <| .p (opAnd (.t rfl) (.t rfl)) rfl <| .p (opMove (.t rfl)) rfl <| .g (OpG.gT rfl rfl rfl rfl (fun hg => opMove (.t rfl))) rfl rfl <| .g (OpG.gT rfl rfl rfl rfl (fun hg => opCall (lkcount_spec (kind := kind)) Tryz.cb6 (.cons (.c _) (.cons (.when (.t rfl) hg) .nil)))) rfl rfl <| .g (OpG.gT rfl rfl rfl rfl (fun hg => opEql (.when (.t rfl) hg) (.c _))) rfl rfl <| .p (opAnd (.t rfl) (.t rfl)) rfl <| .p (opMove (.t rfl)) rfl <| .g (OpG.gT rfl rfl rfl rfl (fun hg => opCall (awake29_spec) Tryz.cb7 .nil)) rfl rfl <| .p (opAnd (.t rfl) (.t rfl)) rfl <| .p (opAssign (.t rfl)) rfl <| .nil ?_)
    refine EndT.thenN ?_
    refine CodeT.ret (Post.retP rfl rfl ?_)
    exact VLe.prop (by rw [hkn]; simp)
  ·
    have hkn : kindN kind = [] := kindN_out (by (by_cases h : kind < 0; exact .inl h; by_cases h2 : kind ≥ 6; exact .inr h2; exact absurd ⟨by omega, by omega⟩ c0))
    refine CodeT.skip (EndT.thenN ?_)
    refine CodeT.seq ?_
    refine CodeT.region (.p (opMove (.t rfl)) rfl <| .p (opCall (lkname_spec (kind := kind)) Tryz.cb4 (.cons (.t rfl) .nil)) rfl <| .p (opMove (.t rfl)) rfl <| .p (opEqlS (.t rfl) (.t rfl)) rfl <| .p (opMove (.t rfl)) rfl <| .g (OpG.gT rfl rfl rfl rfl (fun hg => opCall (lklines_spec) Tryz.cb5 (.cons (.c _) .nil))) rfl rfl <| .g (OpG.gT rfl rfl rfl rfl (fun hg => opLen rfl Tryz.underlying22 (.le (.when (.t rfl) hg) (sliceV_nil 1 encStrD)))) rfl rfl <| .g (OpG.gT rfl rfl rfl rfl (fun hg => opEql (.when (.t rfl) hg) (.c _))) rfl rfl <| .p (opAnd (.t rfl) (.t rfl)) rfl <| .p (opMove (.t rfl)) rfl <| .g (OpG.gT rfl rfl rfl rfl (fun hg => opMove (.t rfl))) rfl rfl <| .g (OpG.gT rfl rfl rfl rfl (fun hg => opCall (lkcount_spec (kind := kind)) Tryz.cb6 (.cons (.c _) (.cons (.when (.t rfl) hg) .nil)))) rfl rfl <| .g (OpG.gT rfl rfl rfl rfl (fun hg => opEql (.when (.t rfl) hg) (.c _))) rfl rfl <| .p (opAnd (.t rfl) (.t rfl)) rfl <| .p (opMove (.t rfl)) rfl <| .g (OpG.gT rfl rfl rfl rfl (fun hg => opCall (awake29_spec) Tryz.cb7 .nil)) rfl rfl <| .p (opAnd (.t rfl) (.t rfl)) rfl <| .p (opAssign (.t rfl)) rfl <| .nil ?_)
    refine EndT.thenN ?_
    refine CodeT.ret (Post.retP rfl rfl ?_)
    exact VLe.prop (by rw [hkn]; simp)

end Go.Proofs.YtghmenjcnopibaaGreatDoor
