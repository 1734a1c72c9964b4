/-
  Walks, printed by a program (gen.py) out of what its author says of each function.
-/
import Derived.Test.YtghmenjcnopibaaGreatDoorL29S
namespace Go.Proofs.YtghmenjcnopibaaGreatDoor
open Go.Hl Go.RowKit
set_option linter.unusedVariables false
set_option maxRecDepth 100000

theorem lname_spec {kb mb : Nat} {o : VP} {D : List (PairK × Bool)} {kind n : Int} : FnE Tryz.prog 25 [addrV kb 0, nV kind, nV n] [lookH kb mb o, namH mb D] (γ := Unit) (fun _ => True) (fun _ => [lookH kb mb o, namH mb (updD D (kind, n) true)]) (fun _ => tupV []) := by
  refine FnE.intro 13 Tryz.func25 rfl rfl rfl fun w0 S0 M => ?_
  refine CodeT.region (.p (opMove (.t rfl)) rfl <| .p (opNilChkO (.t rfl)) rfl <| .p (opFieldO Tryz.fd63_1 (.t rfl)) rfl <| .p (opLoadO (i := 0) Tryz.ag61 (.t rfl) rfl rfl) rfl <| .p (opMove (.t rfl)) rfl <| .p (opMove (.t rfl)) rfl <| .p (opBuild Tryz.pl103 Tryz.zb103 (.cons (.t rfl) (.cons (.t rfl) .nil)) rfl) rfl <| .s (opUpd (i := 1) (a := ((kind, n) : PairK)) true Tryz.kt61 Tryz.underlying61 (.t rfl) (.le (.t rfl) (agg_pair (a := ((kind, n) : PairK)))) (.le .ct (VLe.prop (by simp))) rfl) <| .nil ?_)
  refine Post.retR0 rfl (()) (by trivial) (fun _ _ _ h => h) rfl

theorem lexports_spec {kb mb : Nat} {o : VP} : FnE Tryz.prog 13 [addrV kb 0] [lookH kb mb o, namH mb []] (γ := Unit) (fun _ => True) (fun _ => [lookH kb mb o, namH mb (expD 1)]) (fun _ => tupV []) := by
  refine FnE.intro 119 Tryz.func13 rfl rfl rfl fun w0 S0 M => ?_
  refine CodeT.seq ?_
  refine CodeT.seq ?_
  refine CodeT.region (.p (opMove (.t rfl)) rfl <| .p (opNilChkO (.t rfl)) rfl <| .p (opFieldO Tryz.fd63_0 (.t rfl)) rfl <| .p (opLoadO (i := 0) Tryz.ag57 (.t rfl) rfl rfl) rfl <| .p (opNilChk (.t rfl)) rfl <| .p (opField Tryz.fd68_6 (.t rfl)) rfl <| .p (opLoad Tryz.ag49 (.t rfl)) rfl <| .p (opLen rfl Tryz.underlying49 (.t rfl)) rfl <| .p (opMove (.c _)) rfl <| .nil ?_)
  refine EndT.thenN ?_
  refine CodeT.block ?_
  refine CodeT.loopO (σ := Nat) (fun _ => _) (fun k => [(22, nV (k : Int))]) (fun k => k = 0) (fun k => 0) 0 rfl rfl ?_ ?_
  · exact (.get rfl (VLe.refl _) (.refl _ _))
  · rintro k hk
    refine CodeT.seq ?_
    refine CodeT.region (.p (opLss (.t rfl) (.t rfl)) rfl <| .nil ?_)
    refine EndT.thenN ?_
    refine CodeT.seq ?_
    refine CodeT.cond (.t rfl) (fun c0 => ?_) (fun c0 => ?_)
    ·
      exfalso; subst hk; revert c0; simp [modE, bodyE]
    ·
      refine CodeT.exit (EndT.thenX (EndT.thenX (EndT.blkX (EndT.thenN ?_))))
      refine CodeT.seq ?_
      refine CodeT.region (.p (opMove (.t rfl)) rfl <| .p (opMove (.t rfl)) rfl <| .p (opNilChkO (.t rfl)) rfl <| .p (opFieldO Tryz.fd63_0 (.t rfl)) rfl <| .p (opLoadO (i := 0) Tryz.ag57 (.t rfl) rfl rfl) rfl <| .p (opNilChk (.t rfl)) rfl <| .p (opField Tryz.fd68_7 (.t rfl)) rfl <| .p (opLoad Tryz.ag3 (.t rfl)) rfl <| .n (opCallE (rest := []) (lname_spec (kind := 0) (n := -1)) Tryz.cb25 (.cons (.t rfl) (.cons (.c _) (.cons (.t rfl) .nil))) (Perm.idx [0, 1] rfl rfl)) rfl <| fun g43 h43 => .nil ?_)
      refine EndT.thenN ?_
      refine CodeT.seq ?_
      refine CodeT.seq ?_
      refine CodeT.region (.p (opMove (.t rfl)) rfl <| .p (opNilChkO (.t rfl)) rfl <| .p (opFieldO Tryz.fd63_0 (.t rfl)) rfl <| .p (opLoadO (i := 0) Tryz.ag57 (.t rfl) rfl rfl) rfl <| .p (opNilChk (.t rfl)) rfl <| .p (opField Tryz.fd68_8 (.t rfl)) rfl <| .p (opLoad Tryz.ag50 (.t rfl)) rfl <| .p (opLen rfl Tryz.underlying50 (.t rfl)) rfl <| .p (opMove (.c _)) rfl <| .nil ?_)
      refine EndT.thenN ?_
      refine CodeT.block ?_
      refine CodeT.loopO (σ := Nat) (fun _ => _) (fun k => [(52, nV (k : Int))]) (fun k => k = 0) (fun k => 0) 0 rfl rfl ?_ ?_
      · exact (.get rfl (VLe.refl _) (.refl _ _))
      · rintro k hk
        refine CodeT.seq ?_
        refine CodeT.region (.p (opLss (.t rfl) (.t rfl)) rfl <| .nil ?_)
        refine EndT.thenN ?_
        refine CodeT.seq ?_
        refine CodeT.cond (.t rfl) (fun c1 => ?_) (fun c1 => ?_)
        ·
          exfalso; subst hk; revert c1; simp [modE, bodyE]
        ·
          refine CodeT.exit (EndT.thenX (EndT.thenX (EndT.blkX (EndT.thenN ?_))))
          refine CodeT.seq ?_
          refine CodeT.seq ?_
          refine CodeT.region (.p (opMove (.t rfl)) rfl <| .p (opNilChkO (.t rfl)) rfl <| .p (opFieldO Tryz.fd63_0 (.t rfl)) rfl <| .p (opLoadO (i := 0) Tryz.ag57 (.t rfl) rfl rfl) rfl <| .p (opNilChk (.t rfl)) rfl <| .p (opField Tryz.fd68_9 (.t rfl)) rfl <| .p (opLoad Tryz.ag51 (.t rfl)) rfl <| .p (opLen rfl Tryz.underlying51 (.t rfl)) rfl <| .p (opMove (.c _)) rfl <| .nil ?_)
          refine EndT.thenN ?_
          refine CodeT.block ?_
          refine CodeT.loopO (σ := Nat) (fun _ => _) (fun k => [(76, nV (k : Int))]) (fun k => k = 0) (fun k => 0) 0 rfl rfl ?_ ?_
          · exact (.get rfl (VLe.refl _) (.refl _ _))
          · rintro k hk
            refine CodeT.seq ?_
            refine CodeT.region (.p (opLss (.t rfl) (.t rfl)) rfl <| .nil ?_)
            refine EndT.thenN ?_
            refine CodeT.seq ?_
            refine CodeT.cond (.t rfl) (fun c2 => ?_) (fun c2 => ?_)
            ·
              exfalso; subst hk; revert c2; simp [modE, bodyE]
            ·
              refine CodeT.exit (EndT.thenX (EndT.thenX (EndT.blkX (EndT.thenN ?_))))
              refine CodeT.seq ?_
              refine CodeT.seq ?_
              refine CodeT.region (.p (opMove (.t rfl)) rfl <| .p (opNilChkO (.t rfl)) rfl <| .p (opFieldO Tryz.fd63_0 (.t rfl)) rfl <| .p (opLoadO (i := 0) Tryz.ag57 (.t rfl) rfl rfl) rfl <| .p (opNilChk (.t rfl)) rfl <| .p (opField Tryz.fd68_1 (.t rfl)) rfl <| .p (opLoad Tryz.ag46 (.t rfl)) rfl <| .p (opLen rfl Tryz.underlying46 (.t rfl)) rfl <| .p (opMove (.c _)) rfl <| .nil ?_)
              refine EndT.thenN ?_
              refine CodeT.block ?_
              refine CodeT.loopO (σ := Nat) (fun _ => _) (fun k => [(93, nV (k : Int))]) (fun k => k = 0) (fun k => 0) 0 rfl rfl ?_ ?_
              · exact (.get rfl (VLe.refl _) (.refl _ _))
              · rintro k hk
                refine CodeT.seq ?_
                refine CodeT.region (.p (opLss (.t rfl) (.t rfl)) rfl <| .nil ?_)
                refine EndT.thenN ?_
                refine CodeT.seq ?_
                refine CodeT.cond (.t rfl) (fun c3 => ?_) (fun c3 => ?_)
                ·
                  exfalso; subst hk; revert c3; simp [modE, bodyE]
                ·
                  refine CodeT.exit (EndT.thenX (EndT.thenX (EndT.blkX (EndT.thenN ?_))))
                  refine CodeT.seq ?_
                  refine CodeT.region (.p (opMove (.t rfl)) rfl <| .p (opNilChkO (.t rfl)) rfl <| .p (opFieldO Tryz.fd63_0 (.t rfl)) rfl <| .p (opLoadO (i := 0) Tryz.ag57 (.t rfl) rfl rfl) rfl <| .p (opNilChk (.t rfl)) rfl <| .p (opField Tryz.fd68_2 (.t rfl)) rfl <| .p (opLoad Tryz.ag66 (.t rfl)) rfl <| .p (opLen rfl Tryz.underlying66 (.t rfl)) rfl <| .p (opMove (.c _)) rfl <| .nil ?_)
                  refine EndT.thenN ?_
                  refine CodeT.block ?_
                  refine CodeT.loopO (σ := Nat) (fun k => [lookH kb mb o, namH mb (expD k)]) (fun k => [(110, nV (k : Int))]) (fun k => k ≤ 1) (fun k => 1 - k) 0 (Nat.zero_le _) rfl ?_ ?_
                  · exact (.get rfl (VLe.refl _) (.refl _ _))
                  · rintro k hk
                    refine CodeT.seq ?_
                    refine CodeT.region (.p (opLss (.t rfl) (.t rfl)) rfl <| .nil ?_)
                    refine EndT.thenN ?_
                    refine CodeT.seq ?_
                    refine CodeT.cond (.t rfl) (fun c4 => ?_) (fun c4 => ?_)
                    ·
                      have hk0 : k = 0 := by (first | omega | (revert c4; simp [modE, bodyE]; try omega))
                      subst hk0
                      refine CodeT.skip (EndT.thenN ?_)
                      refine CodeT.seq ?_
                      refine CodeT.block ?_
                      refine CodeT.seq ?_
                      refine CodeT.region (.p (opIndexAddr (j := 0) Tryz.underlying66 Tryz.cz83 rfl (.t rfl) (.t rfl) rfl (show modE.Funcs[0]? = some ⟨0, bodyE⟩ from rfl)) rfl <| .p (opLoadA Tryz.ag83 Tryz.cz83 rfl (.t rfl) rfl) rfl <| .n (opAlloc Tryz.zb83) rfl <| fun b13 _ => .s (opStoreOA (i := 0) Tryz.cz83 rfl (.t rfl) (.t rfl) rfl rfl rfl) <| .nil ?_)
                      refine EndT.thenN ?_
                      refine CodeT.share (t := 13) (i := 0) rfl rfl ?_
                      refine CodeT.region (.p (opMove (.t rfl)) rfl <| .p (opField Tryz.fd83_0 (.t rfl)) rfl <| .p (opLoad Tryz.ag3 (.t rfl)) rfl <| .n (opCallE (rest := []) (lname_spec (kind := 1) (n := 0)) Tryz.cb25 (.cons (.t rfl) (.cons (.c _) (.cons (.t rfl) .nil))) (Perm.idx [0, 1] rfl rfl)) rfl <| fun g117 h117 => .nil ?_)
                      refine EndT.blkN (EndT.thenN ?_)
                      refine CodeT.region (.p (opAddF (.t rfl) (.c _) (fits_i64 (by omega) (by omega))) rfl <| .p (opMove (.t rfl)) rfl <| .nil ?_)
                      refine EndT.round 1 (Nat.le_refl _) (by decide) rfl ?_
                      exact (.get rfl (VLe.refl _) ((.keep 12 rfl rfl)))
                    ·
                      have hk1 : k = 1 := by (first | omega | (revert c4; simp [modE, bodyE]; try omega))
                      subst hk1
                      refine CodeT.exit (EndT.thenX (EndT.thenX (EndT.blkX (Post.retR0 rfl (()) (by trivial) (fun _ _ _ h => h) rfl))))

theorem luses_spec {kb mb : Nat} {o : VP} {D : List (PairK × Bool)} {own : Int} : FnE Tryz.prog 26 [addrV kb 0, aggV (encInstr endI), nV own] [lookH kb mb o, namH mb D] (γ := Unit) (fun _ => True) (fun _ => [lookH kb mb o, namH mb D]) (fun _ => tupV []) := by
  refine FnE.intro 76 Tryz.func26 rfl rfl rfl fun w0 S0 M => ?_
  obtain ⟨i11, hf11, hf0⟩ := find11
  refine CodeT.seq ?_
  refine CodeT.region (.p (opBoxA (.t rfl)) rfl <| .nil ?_)
  refine EndT.thenN ?_
  refine CodeT.seq ?_
  refine CodeT.region (.p (opField Tryz.fd100_0 (.t rfl)) rfl <| .p (opLoad Tryz.ag3 (.t rfl)) rfl <| .p (opCall (find_spec (code := 11)) Tryz.cb31 (.cons (.t rfl) .nil)) rfl <| .p (opMove (.t rfl)) rfl <| .p (opExtract (.t rfl) rfl) rfl <| .p (opExtract (.t rfl) rfl) rfl <| .n (opAlloc Tryz.zb109) rfl <| fun b6 _ => .s (opStoreOA (i := 0) Tryz.cz109 rfl (.t rfl) (.t rfl) rfl rfl rfl) <| .p (opAssign (.t rfl)) rfl <| .nil ?_)
  refine EndT.thenN ?_
  refine CodeT.share (t := 6) (i := 0) rfl rfl ?_
  refine CodeT.block ?_
  refine CodeT.seq ?_
  refine CodeT.region (.p (opField Tryz.fd100_0 (.t rfl)) rfl <| .p (opLoad Tryz.ag3 (.t rfl)) rfl <| .p (opEql (.t rfl) (.c _)) rfl <| .p (opMove (.t rfl)) rfl <| .g (OpG.gT rfl rfl rfl rfl (fun hg => opField Tryz.fd100_1 (.t rfl))) rfl rfl <| .g (OpG.gT rfl rfl rfl rfl (fun hg => opLoad Tryz.ag36 (.when (.t rfl) hg))) rfl rfl <| .g (OpG.gT rfl rfl rfl rfl (fun hg => opConv Tryz.underlying36 Tryz.underlying3 (.when (.t rfl) hg))) rfl rfl <| .g (OpG.gT rfl rfl rfl rfl (fun hg => opMove (.t rfl))) rfl rfl <| .g (OpG.gT rfl rfl rfl rfl (fun hg => opNeq (.when (.t rfl) hg) (.when (.t rfl) hg))) rfl rfl <| .p (opAnd (.t rfl) (.t rfl)) rfl <| .p (opAssign (.t rfl)) rfl <| .nil ?_)
  refine EndT.thenN ?_
  refine CodeT.cond (.t rfl) (fun c0 => ?_) (fun c0 => ?_)
  ·
    exact absurd c0.1 (by decide)
  ·
    refine CodeT.seq ?_
    refine CodeT.region (.p (opField Tryz.fd100_0 (.t rfl)) rfl <| .p (opLoad Tryz.ag3 (.t rfl)) rfl <| .p (opEql (.t rfl) (.c _)) rfl <| .p (opAssign (.t rfl)) rfl <| .nil ?_)
    refine EndT.thenN ?_
    refine CodeT.cond (.t rfl) (fun c1 => ?_) (fun c1 => ?_)
    ·
      exact absurd c1 (by decide)
    ·
      refine CodeT.seq ?_
      refine CodeT.region (.p (opField Tryz.fd100_0 (.t rfl)) rfl <| .p (opLoad Tryz.ag3 (.t rfl)) rfl <| .p (opEql (.t rfl) (.c _)) rfl <| .p (opAssign (.t rfl)) rfl <| .nil ?_)
      refine EndT.thenN ?_
      refine CodeT.cond (.t rfl) (fun c2 => ?_) (fun c2 => ?_)
      ·
        exact absurd c2 (by decide)
      ·
        refine CodeT.seq ?_
        refine CodeT.region (.p (opField Tryz.fd109_2 (.t rfl)) rfl <| .p (opLoad Tryz.ag3 (.t rfl)) rfl <| .p (opEql (.t rfl) (.c _)) rfl <| .p (opAssign (.t rfl)) rfl <| .nil ?_)
        refine EndT.thenN ?_
        refine CodeT.cond (.t rfl) (fun c3 => ?_) (fun c3 => ?_)
        ·
          exfalso; revert c3; rw [hf11]; simp [hf0]
        ·
          refine CodeT.seq ?_
          refine CodeT.region (.p (opField Tryz.fd109_2 (.t rfl)) rfl <| .p (opLoad Tryz.ag3 (.t rfl)) rfl <| .p (opEql (.t rfl) (.c _)) rfl <| .p (opMove (.t rfl)) rfl <| .g (OpG.gF rfl rfl rfl rfl (fun hg => opField Tryz.fd109_2 (.t rfl))) rfl rfl <| .g (OpG.gF rfl rfl rfl rfl (fun hg => opLoad Tryz.ag3 (.when (.t rfl) hg))) rfl rfl <| .g (OpG.gF rfl rfl rfl rfl (fun hg => opEql (.when (.t rfl) hg) (.c _))) rfl rfl <| .p (opOr (.t rfl) (.t rfl)) rfl <| .p (opAssign (.t rfl)) rfl <| .nil ?_)
          refine EndT.thenN ?_
          refine CodeT.cond (.t rfl) (fun c4 => ?_) (fun c4 => ?_)
          ·
            exfalso; revert c4; rw [hf11]; simp [hf0]
          ·
            refine CodeT.skip (EndT.blkN (Post.retR0 rfl (()) (by trivial) (fun _ _ _ h => h) rfl))

theorem lbodies_spec {kb mb : Nat} {o : VP} {D : List (PairK × Bool)} : FnE Tryz.prog 14 [addrV kb 0] [lookH kb mb o, namH mb D] (γ := Unit) (fun _ => True) (fun _ => [lookH kb mb o, namH mb D]) (fun _ => tupV []) := by
  refine FnE.intro 42 Tryz.func14 rfl rfl rfl fun w0 S0 M => ?_
  refine CodeT.seq ?_
  refine CodeT.region (.p (opMove (.t rfl)) rfl <| .p (opNilChkO (.t rfl)) rfl <| .p (opFieldO Tryz.fd63_0 (.t rfl)) rfl <| .p (opLoadO (i := 0) Tryz.ag57 (.t rfl) rfl rfl) rfl <| .p (opNilChk (.t rfl)) rfl <| .p (opField Tryz.fd68_2 (.t rfl)) rfl <| .p (opLoad Tryz.ag66 (.t rfl)) rfl <| .p (opLen rfl Tryz.underlying66 (.t rfl)) rfl <| .p (opMove (.c _)) rfl <| .nil ?_)
  refine EndT.thenN ?_
  refine CodeT.block ?_
  refine CodeT.loopO (σ := Nat) (fun _ => [lookH kb mb o, namH mb D]) (fun k => [(14, nV (k : Int))]) (fun k => k ≤ 1) (fun k => 1 - k) 0 (Nat.zero_le _) rfl ?_ ?_
  · exact (.get rfl (VLe.refl _) (.refl _ _))
  · rintro k hk
    refine CodeT.seq ?_
    refine CodeT.region (.p (opLss (.t rfl) (.t rfl)) rfl <| .nil ?_)
    refine EndT.thenN ?_
    refine CodeT.seq ?_
    refine CodeT.cond (.t rfl) (fun c0 => ?_) (fun c0 => ?_)
    ·
      have hk0 : k = 0 := by (first | omega | (revert c0; simp [modE, bodyE]; try omega))
      subst hk0
      refine CodeT.skip (EndT.thenN ?_)
      refine CodeT.seq ?_
      refine CodeT.block ?_
      refine CodeT.seq ?_
      refine CodeT.region (.p (opMove (.t rfl)) rfl <| .p (opIndexAddr (j := 0) Tryz.underlying66 Tryz.cz83 rfl (.t rfl) (.t rfl) rfl (show modE.Funcs[0]? = some ⟨0, bodyE⟩ from rfl)) rfl <| .p (opLoadA Tryz.ag83 Tryz.cz83 rfl (.t rfl) rfl) rfl <| .n (opAlloc Tryz.zb83) rfl <| fun b3 _ => .p (opAssign (.t rfl)) rfl <| .s (opStoreOA (i := 0) Tryz.cz83 rfl (.t rfl) (.t rfl) rfl rfl rfl) <| .nil ?_)
      refine EndT.thenN ?_
      refine CodeT.share (t := 3) (i := 0) rfl rfl ?_
      refine CodeT.seq ?_
      refine CodeT.region (.p (opField Tryz.fd83_1 (.t rfl)) rfl <| .p (opField Tryz.fd80_1 (.t rfl)) rfl <| .p (opLoad Tryz.ag78 (.t rfl)) rfl <| .p (opLen rfl Tryz.underlying78 (.t rfl)) rfl <| .p (opMove (.c _)) rfl <| .nil ?_)
      refine EndT.thenN ?_
      refine CodeT.block ?_
      refine CodeT.loopO (σ := Nat) (fun _ => [lookH kb mb o, namH mb D]) (fun k => [(23, nV (k : Int))]) (fun k => k ≤ 1) (fun k => 1 - k) 0 (Nat.zero_le _) rfl ?_ ?_
      · exact (.get rfl (VLe.refl _) (.refl _ _))
      · rintro k hk
        refine CodeT.seq ?_
        refine CodeT.region (.p (opLss (.t rfl) (.t rfl)) rfl <| .nil ?_)
        refine EndT.thenN ?_
        refine CodeT.seq ?_
        refine CodeT.cond (.t rfl) (fun c1 => ?_) (fun c1 => ?_)
        ·
          have hk0 : k = 0 := by (first | omega | (revert c1; simp [modE, bodyE]; try omega))
          subst hk0
          refine CodeT.skip (EndT.thenN ?_)
          refine CodeT.seq ?_
          refine CodeT.block ?_
          refine CodeT.seq ?_
          refine CodeT.region (.p (opIndexAddr (j := 0) Tryz.underlying78 Tryz.cz100 rfl (.t rfl) (.t rfl) rfl (show bodyE.L[0]? = some endI from rfl)) rfl <| .p (opLoadA Tryz.ag100 Tryz.cz100 rfl (.t rfl) rfl) rfl <| .n (opAlloc Tryz.zb100) rfl <| fun b5 _ => .s (opStoreOA (i := 0) Tryz.cz100 rfl (.t rfl) (.t rfl) rfl rfl rfl) <| .nil ?_)
          refine EndT.thenN ?_
          refine CodeT.share (t := 5) (i := 0) rfl rfl ?_
          refine CodeT.draw 12 1 Tryz.mixed (by kernel_rfl) (.p (opMove (.t rfl)) <| .p (OpP.le (opLoadA Tryz.ag100 Tryz.cz100 rfl (.t rfl) rfl) (VLe.refl (aggV (encInstr endI)))) <| .p (opMove (.t rfl)) <| .p (opNilChkO (.t rfl)) <| .p (opFieldO Tryz.fd63_0 (.t rfl)) <| .p (opLoadO (i := 0) Tryz.ag57 (.t rfl) rfl rfl) <| .p (opNilChk (.t rfl)) <| .p (opField Tryz.fd68_1 (.t rfl)) <| .p (opLoad Tryz.ag46 (.t rfl)) <| .p (opLen rfl Tryz.underlying46 (.t rfl)) <| .p (opMove (.t rfl)) <| .p (opAddF (.t rfl) (.t rfl) (fits_i64 (by simp [modE]) (by simp [modE]))) <| .nil) (.n ((opCallE (rest := []) (luses_spec (own := 0)) Tryz.cb26 (.cons (.t rfl) (.cons (.t rfl) (.cons (.t rfl) .nil))) (Perm.idx [0, 1] rfl rfl)).same (fun _ _ => OLe.refl _) (fun _ _ => VLe.refl _)) rfl <| fun _ _ => .nil ?_)
          refine EndT.blkN (EndT.thenN ?_)
          refine CodeT.region (.p (opAddF (.t rfl) (.c _) (fits_i64 (by omega) (by omega))) rfl <| .p (opMove (.t rfl)) rfl <| .nil ?_)
          refine EndT.round 1 (Nat.le_refl _) (by decide) rfl ?_
          exact (.get rfl (VLe.refl _) ((.keep 21 rfl rfl)))
        ·
          have hk1 : k = 1 := by (first | omega | (revert c1; simp [modE, bodyE]; try omega))
          subst hk1
          refine CodeT.exit (EndT.thenX (EndT.thenX (EndT.blkX (EndT.blkN (EndT.thenN ?_)))))
          refine CodeT.region (.p (opAddF (.t rfl) (.c _) (fits_i64 (by omega) (by omega))) rfl <| .p (opMove (.t rfl)) rfl <| .nil ?_)
          refine EndT.round 1 (Nat.le_refl _) (by decide) rfl ?_
          exact (.get rfl (VLe.refl _) ((.keep 17 rfl rfl)))
    ·
      have hk1 : k = 1 := by (first | omega | (revert c0; simp [modE, bodyE]; try omega))
      subst hk1
      refine CodeT.exit (EndT.thenX (EndT.thenX (EndT.blkX (Post.retR0 rfl (()) (by trivial) (fun _ _ _ h => h) rfl))))

theorem lall_spec {i : Int} : FnP Tryz.prog 17 [nV i] (propV True) := by
  refine FnE.intro 3 Tryz.func17 rfl rfl rfl fun w0 S0 M => ?_
  refine CodeT.seq ?_
  refine CodeT.region (.p (opAssign .cf) rfl <| .nil ?_)
  refine EndT.thenN ?_
  refine CodeT.seq ?_
  refine CodeT.region (.p (opAssign .ct) rfl <| .nil ?_)
  refine EndT.thenN ?_
  refine CodeT.ret (Post.retP rfl rfl ?_)
  exact VLe.refl _

theorem each0_spec {kind a b : Int} (hp0 : b ≤ a) : FnE Tryz.prog 15 [anyV, nV kind, nV a, nV b, anyV] [] (γ := Unit) (fun _ => True) (fun _ => []) (fun _ => tupV []) := by
  refine FnE.intro 43 Tryz.func15 rfl rfl rfl fun w0 S0 M => ?_
  refine CodeT.seq ?_
  refine CodeT.region (.p (opMove (.t rfl)) rfl <| .p (opAssign (.t rfl)) rfl <| .nil ?_)
  refine EndT.thenN ?_
  refine CodeT.block ?_
  refine CodeT.loopO (σ := Unit) (fun _ => []) (fun _ => [(10, nV a)]) (fun _ => True) (fun _ => 0) () trivial rfl ?_ ?_
  · exact (.get rfl (VLe.refl _) (.refl _ _))
  · rintro u _
    refine CodeT.seq ?_
    refine CodeT.seq ?_
    refine CodeT.region (.p (opMove (.t rfl)) rfl <| .p (opMove (.t rfl)) rfl <| .p (opLss (.t rfl) (.t rfl)) rfl <| .nil ?_)
    refine EndT.thenN ?_
    refine CodeT.cond (.t rfl) (fun c0 => ?_) (fun c0 => ?_)
    ·
      exfalso; omega
    ·
      refine CodeT.exit (EndT.thenX (EndT.thenX (EndT.blkX (Post.retR0 rfl (()) (by trivial) (fun _ _ _ h => h) rfl))))

theorem each1_spec {kb mb : Nat} {D : List (PairK × Bool)} {kind : Int} (hp0 : lookD D ((kind, 0) : PairK) = none) : FnE Tryz.prog 15 [addrV kb 0, nV kind, nV 0, nV 1, funV Tryz.prog (fun _ : Int => True) (fun i => [nV i]) (fun _ => propV True)] [lookH kb mb emptyV, namH mb D] (γ := Unit) (fun _ => True) (fun _ => [lookH kb mb (sliceV 3 encFd [(kind, 0, 0)]), namH mb D]) (fun _ => tupV []) := by
  refine FnE.intro 43 Tryz.func15 rfl rfl rfl fun w0 S0 M => ?_
  refine CodeT.seq ?_
  refine CodeT.region (.p (opMove (.t rfl)) rfl <| .p (opAssign (.t rfl)) rfl <| .nil ?_)
  refine EndT.thenN ?_
  refine CodeT.block ?_
  refine CodeT.loopO (σ := Nat) (fun k => [lookH kb mb (outK kind k), namH mb D]) (fun k => [(10, nV (k : Int))]) (fun k => k ≤ 1) (fun k => 1 - k) 0 (Nat.zero_le _) rfl ?_ ?_
  · exact (.get rfl (VLe.refl _) (.refl _ _))
  · rintro k hk
    refine CodeT.seq ?_
    refine CodeT.seq ?_
    refine CodeT.region (.p (opMove (.t rfl)) rfl <| .p (opMove (.t rfl)) rfl <| .p (opLss (.t rfl) (.t rfl)) rfl <| .nil ?_)
    refine EndT.thenN ?_
    refine CodeT.cond (.t rfl) (fun c0 => ?_) (fun c0 => ?_)
    ·
      have hk0 : k = 0 := by (first | omega | (revert c0; simp [modE, bodyE]; try omega))
      subst hk0
      refine CodeT.skip (EndT.thenN ?_)
      refine CodeT.seq ?_
      refine CodeT.block ?_
      refine CodeT.seq ?_
      refine CodeT.region (.p (opMove (.t rfl)) rfl <| .p (opMove (.t rfl)) rfl <| .p (opCallV (0 : Int) (.t rfl) trivial (.cons (.t rfl) .nil)) rfl <| .p (opMove (.t rfl)) rfl <| .g (OpG.gT rfl rfl rfl rfl (fun hg => opMove (.t rfl))) rfl rfl <| .g (OpG.gT rfl rfl rfl rfl (fun hg => opNilChkO (.when (.t rfl) hg))) rfl rfl <| .g (OpG.gT rfl rfl rfl rfl (fun hg => opFieldO Tryz.fd63_1 (.when (.t rfl) hg))) rfl rfl <| .g (OpG.gT rfl rfl rfl rfl (fun hg => opLoadO (i := 0) Tryz.ag61 (.when (.t rfl) hg) rfl rfl)) rfl rfl <| .g (OpG.gT rfl rfl rfl rfl (fun hg => opMove (.t rfl))) rfl rfl <| .g (OpG.gT rfl rfl rfl rfl (fun hg => opMove (.t rfl))) rfl rfl <| .g (OpG.gT rfl rfl rfl rfl (fun hg => opBuild Tryz.pl103 Tryz.zb103 (.cons (.when (.t rfl) hg) (.cons (.when (.t rfl) hg) .nil)) rfl)) rfl rfl <| .g (OpG.gT rfl rfl rfl rfl (fun hg => opLook (i := 1) (a := ((kind, 0) : PairK)) Tryz.kt61 Tryz.underlying61 (fun w => run_zv Tryz.zv4 w) (.when (.t rfl) hg) (.le (.when (.t rfl) hg) (agg_pair (a := ((kind, 0) : PairK)))) rfl)) rfl rfl <| .g (OpG.gT rfl rfl rfl rfl (fun hg => opNot (.le (.when (.t rfl) hg) (look_no hp0)))) rfl rfl <| .p (opAnd (.t rfl) (.t rfl)) rfl <| .nil ?_)
      refine EndT.thenN ?_
      refine CodeT.cond (.t rfl) (fun c1 => ?_) (fun c1 => ?_)
      ·
        refine CodeT.region (.p (opMove (.t rfl)) rfl <| .p (opMove (.t rfl)) rfl <| .p (opNilChkO (.t rfl)) rfl <| .p (opFieldO Tryz.fd63_2 (.t rfl)) rfl <| .p (opLoadO (i := 0) Tryz.ag29 (.t rfl) rfl rfl) rfl <| .p (opMove (.t rfl)) rfl <| .p (opMove (.t rfl)) rfl <| .p (opBuild Tryz.pl31 Tryz.zb31 (.cons (.t rfl) (.cons (.t rfl) (.cons (.c _) .nil))) rfl) rfl <| .p (opBuildSlice (enc := encFd) [(kind, 0, 0)] Tryz.underlying29 Tryz.cz31 rfl Tryz.zb31 rfl (.cons (.t rfl) .nil) rfl rfl rfl rfl rfl) rfl <| .p (opAppendE Tryz.underlying29 Tryz.underlying29 Tryz.cz31 rfl Tryz.zb31 rfl Tryz.by31 (.t rfl) (.t rfl) (by (simp only [List.length_cons, List.length_nil]; omega))) rfl <| .p (opNilChkO (.t rfl)) rfl <| .p (opFieldO Tryz.fd63_2 (.t rfl)) rfl <| .s (opStoreO (i := 0) Tryz.cz29 (.t rfl) (.t rfl) rfl rfl) <| .nil ?_)
        refine EndT.blkN (EndT.thenN ?_)
        refine CodeT.region (.p (opMove (.t rfl)) rfl <| .p (opAddF (.t rfl) (.c _) (fits_i64 (by omega) (by omega))) rfl <| .p (opAssign (.t rfl)) rfl <| .nil ?_)
        refine EndT.round 1 (Nat.le_refl _) (by decide) rfl ?_
        exact (.get rfl (VLe.refl _) ((.keep 33 rfl rfl)))
      ·
        exact absurd ⟨trivial, fun h => h⟩ c1
    ·
      have hk1 : k = 1 := by (first | omega | (revert c0; simp [modE, bodyE]; try omega))
      subst hk1
      refine CodeT.exit (EndT.thenX (EndT.thenX (EndT.blkX (Post.retR0 rfl (()) (by trivial) (fun _ _ _ h => h) rfl))))

theorem each2_spec {kb mb : Nat} {o : VP} {D : List (PairK × Bool)} {kind : Int} (hp0 : lookD D ((kind, 0) : PairK) = some true) : FnE Tryz.prog 15 [addrV kb 0, nV kind, nV 0, nV 1, funV Tryz.prog (fun _ : Int => True) (fun i => [nV i]) (fun _ => propV True)] [lookH kb mb o, namH mb D] (γ := Unit) (fun _ => True) (fun _ => [lookH kb mb o, namH mb D]) (fun _ => tupV []) := by
  refine FnE.intro 43 Tryz.func15 rfl rfl rfl fun w0 S0 M => ?_
  refine CodeT.seq ?_
  refine CodeT.region (.p (opMove (.t rfl)) rfl <| .p (opAssign (.t rfl)) rfl <| .nil ?_)
  refine EndT.thenN ?_
  refine CodeT.block ?_
  refine CodeT.loopO (σ := Nat) (fun _ => _) (fun k => [(10, nV (k : Int))]) (fun k => k ≤ 1) (fun k => 1 - k) 0 (Nat.zero_le _) rfl ?_ ?_
  · exact (.get rfl (VLe.refl _) (.refl _ _))
  · rintro k hk
    refine CodeT.seq ?_
    refine CodeT.seq ?_
    refine CodeT.region (.p (opMove (.t rfl)) rfl <| .p (opMove (.t rfl)) rfl <| .p (opLss (.t rfl) (.t rfl)) rfl <| .nil ?_)
    refine EndT.thenN ?_
    refine CodeT.cond (.t rfl) (fun c0 => ?_) (fun c0 => ?_)
    ·
      have hk0 : k = 0 := by (first | omega | (revert c0; simp [modE, bodyE]; try omega))
      subst hk0
      refine CodeT.skip (EndT.thenN ?_)
      refine CodeT.seq ?_
      refine CodeT.block ?_
      refine CodeT.seq ?_
      refine CodeT.region (.p (opMove (.t rfl)) rfl <| .p (opMove (.t rfl)) rfl <| .p (opCallV (0 : Int) (.t rfl) trivial (.cons (.t rfl) .nil)) rfl <| .p (opMove (.t rfl)) rfl <| .g (OpG.gT rfl rfl rfl rfl (fun hg => opMove (.t rfl))) rfl rfl <| .g (OpG.gT rfl rfl rfl rfl (fun hg => opNilChkO (.when (.t rfl) hg))) rfl rfl <| .g (OpG.gT rfl rfl rfl rfl (fun hg => opFieldO Tryz.fd63_1 (.when (.t rfl) hg))) rfl rfl <| .g (OpG.gT rfl rfl rfl rfl (fun hg => opLoadO (i := 0) Tryz.ag61 (.when (.t rfl) hg) rfl rfl)) rfl rfl <| .g (OpG.gT rfl rfl rfl rfl (fun hg => opMove (.t rfl))) rfl rfl <| .g (OpG.gT rfl rfl rfl rfl (fun hg => opMove (.t rfl))) rfl rfl <| .g (OpG.gT rfl rfl rfl rfl (fun hg => opBuild Tryz.pl103 Tryz.zb103 (.cons (.when (.t rfl) hg) (.cons (.when (.t rfl) hg) .nil)) rfl)) rfl rfl <| .g (OpG.gT rfl rfl rfl rfl (fun hg => opLook (i := 1) (a := ((kind, 0) : PairK)) Tryz.kt61 Tryz.underlying61 (fun w => run_zv Tryz.zv4 w) (.when (.t rfl) hg) (.le (.when (.t rfl) hg) (agg_pair (a := ((kind, 0) : PairK)))) rfl)) rfl rfl <| .g (OpG.gT rfl rfl rfl rfl (fun hg => opNot (.le (.when (.t rfl) hg) (look_yes hp0)))) rfl rfl <| .p (opAnd (.t rfl) (.t rfl)) rfl <| .nil ?_)
      refine EndT.thenN ?_
      refine CodeT.cond (.t rfl) (fun c1 => ?_) (fun c1 => ?_)
      ·
        exact absurd trivial c1.2
      ·
        refine CodeT.skip (EndT.blkN (EndT.thenN ?_))
        refine CodeT.region (.p (opMove (.t rfl)) rfl <| .p (opAddF (.t rfl) (.c _) (fits_i64 (by omega) (by omega))) rfl <| .p (opAssign (.t rfl)) rfl <| .nil ?_)
        refine EndT.round 1 (Nat.le_refl _) (by decide) rfl ?_
        exact (.get rfl (VLe.refl _) ((.keep 21 rfl rfl)))
    ·
      have hk1 : k = 1 := by (first | omega | (revert c0; simp [modE, bodyE]; try omega))
      subst hk1
      refine CodeT.exit (EndT.thenX (EndT.thenX (EndT.blkX (Post.retR0 rfl (()) (by trivial) (fun _ _ _ h => h) rfl))))

theorem ldead_spec {kb mb : Nat} {o : VP} {D : List (PairK × Bool)} : FnE Tryz.prog 19 [addrV kb 0, nV 0] [lookH kb mb o, namH mb D] (γ := Unit) (fun _ => True) (fun _ => [lookH kb mb o, namH mb D]) (fun _ => tupV []) := by
  refine FnE.intro 60 Tryz.func19 rfl rfl rfl fun w0 S0 M => ?_
  refine CodeT.seq ?_
  refine CodeT.region (.p (opMove (.t rfl)) rfl <| .p (opNilChkO (.t rfl)) rfl <| .p (opFieldO Tryz.fd63_0 (.t rfl)) rfl <| .p (opLoadO (i := 0) Tryz.ag57 (.t rfl) rfl rfl) rfl <| .p (opNilChk (.t rfl)) rfl <| .p (opField Tryz.fd68_2 (.t rfl)) rfl <| .p (opLoad Tryz.ag66 (.t rfl)) rfl <| .p (opMove (.t rfl)) rfl <| .p (opIndexAddr (j := 0) Tryz.underlying66 Tryz.cz83 rfl (.t rfl) (.t rfl) rfl (show modE.Funcs[0]? = some ⟨0, bodyE⟩ from rfl)) rfl <| .p (opField Tryz.fd83_1 (.t rfl)) rfl <| .p (opField Tryz.fd80_1 (.t rfl)) rfl <| .p (opLoad Tryz.ag78 (.t rfl)) rfl <| .p (opAssign (.t rfl)) rfl <| .nil ?_)
  refine EndT.thenN ?_
  refine CodeT.seq ?_
  refine CodeT.region (.p (opAssign (.c _)) rfl <| .nil ?_)
  refine EndT.thenN ?_
  refine CodeT.block ?_
  refine CodeT.loopO (σ := Unit) (fun _ => _) (fun _ => [(5, nV 1)]) (fun _ => True) (fun _ => 0) () trivial rfl ?_ ?_
  · exact (.get rfl (VLe.refl _) (.refl _ _))
  · rintro u _
    refine CodeT.seq ?_
    refine CodeT.seq ?_
    refine CodeT.region (.p (opMove (.t rfl)) rfl <| .p (opMove (.t rfl)) rfl <| .p (opLen rfl Tryz.underlying78 (.t rfl)) rfl <| .p (opLss (.t rfl) (.t rfl)) rfl <| .nil ?_)
    refine EndT.thenN ?_
    refine CodeT.cond (.t rfl) (fun c0 => ?_) (fun c0 => ?_)
    ·
      exfalso; revert c0; simp [bodyE]
    ·
      refine CodeT.exit (EndT.thenX (EndT.thenX (EndT.blkX (Post.retR0 rfl (()) (by trivial) (fun _ _ _ h => h) rfl))))

theorem llocals_spec {kb mb : Nat} {o : VP} {D : List (PairK × Bool)} : FnE Tryz.prog 20 [addrV kb 0, nV 0] [lookH kb mb o, namH mb D] (γ := Unit) (fun _ => True) (fun _ => [lookH kb mb o, namH mb D]) (fun _ => tupV []) := by
  refine FnE.intro 103 Tryz.func20 rfl rfl rfl fun w0 S0 M => ?_
  obtain ⟨i11, hf11, hf0⟩ := find11
  refine CodeT.seq ?_
  refine CodeT.staged [(0, 0), (1, 0), (2, 0), (3, 1), (4, 0), (5, 0), (6, 0), (7, 1), (8, 0), (9, 0), (10, 0), (11, 0), (12, 0), (13, 0), (14, 0), (15, 0), (16, 0), (17, 0), (18, 4), (19, 3)] 20 1 Tryz.mixed (by kernel_rfl) (.p rfl (fun _ => opMove (.t rfl)) <| .p rfl (fun _ => opNilChkO (.t rfl)) <| .p rfl (fun _ => opFieldO Tryz.fd63_0 (.t rfl)) <| .o rfl (opLoadO (i := 0) Tryz.ag57 (.t rfl) rfl rfl) <| .p rfl (fun _ => opMove (.t rfl)) <| .p rfl (fun _ => opNilChkO (.t rfl)) <| .p rfl (fun _ => opFieldO Tryz.fd63_0 (.t rfl)) <| .o rfl (opLoadO (i := 0) Tryz.ag57 (.t rfl) rfl rfl) <| .p rfl (fun _ => opNilChk (.t rfl)) <| .p rfl (fun _ => opField Tryz.fd68_1 (.t rfl)) <| .p rfl (fun _ => opLoad Tryz.ag46 (.t rfl)) <| .p rfl (fun _ => opLen rfl Tryz.underlying46 (.t rfl)) <| .p rfl (fun _ => opMove (.t rfl)) <| .p rfl (fun _ => opAddF (.t rfl) (.t rfl) (fits_i64 (by simp [modE]) (by simp [modE]))) <| .p rfl (fun _ => opCall (msig_spec (m := modE) (f := 0)) Tryz.cb30 (.cons (.t rfl) (.cons (.t rfl) .nil))) <| .p rfl (fun _ => opMove (.t rfl)) <| .p rfl (fun _ => opExtract (.t rfl) rfl) <| .p rfl (fun _ => opExtract (.t rfl) rfl) <| .a rfl (opAlloc Tryz.zb77) (fun _ _ => OLe.drop (OLe.refl _)) <| fun b4 _ => .s rfl (opStoreOA (i := 0) Tryz.cz77 rfl (.t rfl) (.t rfl) rfl rfl rfl) <| .fin (.p (opAssign (.t rfl)) rfl <| .nil ?_))
  refine EndT.thenN ?_
  refine CodeT.share (t := 4) (i := 0) rfl rfl ?_
  refine CodeT.seq ?_
  refine CodeT.region (.n (opMakeM (Value.int .i64) (fun b : Bool => propV (b = true))) rfl <| fun m31 _ => .p (opAssign (.t rfl)) rfl <| .nil ?_)
  refine EndT.thenN ?_
  refine CodeT.seq ?_
  refine CodeT.seq ?_
  refine CodeT.region (.p (opMove (.t rfl)) rfl <| .p (opNilChkO (.t rfl)) rfl <| .p (opFieldO Tryz.fd63_0 (.t rfl)) rfl <| .p (opLoadO (i := 1) Tryz.ag57 (.t rfl) rfl rfl) rfl <| .p (opNilChk (.t rfl)) rfl <| .p (opField Tryz.fd68_2 (.t rfl)) rfl <| .p (opLoad Tryz.ag66 (.t rfl)) rfl <| .p (opMove (.t rfl)) rfl <| .p (opIndexAddr (j := 0) Tryz.underlying66 Tryz.cz83 rfl (.t rfl) (.t rfl) rfl (show modE.Funcs[0]? = some ⟨0, bodyE⟩ from rfl)) rfl <| .p (opField Tryz.fd83_1 (.t rfl)) rfl <| .p (opField Tryz.fd80_1 (.t rfl)) rfl <| .p (opLoad Tryz.ag78 (.t rfl)) rfl <| .p (opLen rfl Tryz.underlying78 (.t rfl)) rfl <| .p (opMove (.c _)) rfl <| .nil ?_)
  refine EndT.thenN ?_
  refine CodeT.block ?_
  refine CodeT.loopO (σ := Nat) (fun _ => [mapH m31 (Value.int .i64) (fun b : Bool => propV (b = true)) ([] : List (Int × Bool)), lookH kb mb o, namH mb D]) (fun k => [(45, nV (k : Int))]) (fun k => k ≤ 1) (fun k => 1 - k) 0 (Nat.zero_le _) rfl ?_ ?_
  · exact (.get rfl (VLe.refl _) (.refl _ _))
  · rintro k hk
    refine CodeT.seq ?_
    refine CodeT.region (.p (opLss (.t rfl) (.t rfl)) rfl <| .nil ?_)
    refine EndT.thenN ?_
    refine CodeT.seq ?_
    refine CodeT.cond (.t rfl) (fun c0 => ?_) (fun c0 => ?_)
    ·
      have hk0 : k = 0 := by (first | omega | (revert c0; simp [modE, bodyE]; try omega))
      subst hk0
      refine CodeT.skip (EndT.thenN ?_)
      refine CodeT.seq ?_
      refine CodeT.block ?_
      refine CodeT.seq ?_
      refine CodeT.region (.p (opIndexAddr (j := 0) Tryz.underlying78 Tryz.cz100 rfl (.t rfl) (.t rfl) rfl (show bodyE.L[0]? = some endI from rfl)) rfl <| .p (opLoadA Tryz.ag100 Tryz.cz100 rfl (.t rfl) rfl) rfl <| .n (opAlloc Tryz.zb100) rfl <| fun b8 _ => .s (opStoreOA (i := 0) Tryz.cz100 rfl (.t rfl) (.t rfl) rfl rfl rfl) <| .nil ?_)
      refine EndT.thenN ?_
      refine CodeT.share (t := 8) (i := 0) rfl rfl ?_
      refine CodeT.seq ?_
      refine CodeT.region (.p (opField Tryz.fd100_0 (.t rfl)) rfl <| .p (opLoad Tryz.ag3 (.t rfl)) rfl <| .p (opCall (find_spec (code := 11)) Tryz.cb31 (.cons (.t rfl) .nil)) rfl <| .p (opMove (.t rfl)) rfl <| .p (opExtract (.t rfl) rfl) rfl <| .p (opExtract (.t rfl) rfl) rfl <| .n (opAlloc Tryz.zb109) rfl <| fun b9 _ => .s (opStoreOA (i := 0) Tryz.cz109 rfl (.t rfl) (.t rfl) rfl rfl rfl) <| .p (opAssign (.t rfl)) rfl <| .nil ?_)
      refine EndT.thenN ?_
      refine CodeT.share (t := 9) (i := 0) rfl rfl ?_
      refine CodeT.seq ?_
      refine CodeT.region (.p (opField Tryz.fd109_2 (.t rfl)) rfl <| .p (opLoad Tryz.ag3 (.t rfl)) rfl <| .p (opEql (.t rfl) (.c _)) rfl <| .nil ?_)
      refine EndT.thenN ?_
      refine CodeT.cond (.t rfl) (fun c1 => ?_) (fun c1 => ?_)
      ·
        exfalso; revert c1; rw [hf11]; simp [hf0]
      ·
        refine CodeT.skip (EndT.blkN (EndT.thenN ?_))
        refine CodeT.region (.p (opAddF (.t rfl) (.c _) (fits_i64 (by omega) (by omega))) rfl <| .p (opMove (.t rfl)) rfl <| .nil ?_)
        refine EndT.round 1 (Nat.le_refl _) (by decide) rfl ?_
        exact (.get rfl (VLe.refl _) ((.keep 20 rfl rfl)))
    ·
      have hk1 : k = 1 := by (first | omega | (revert c0; simp [modE, bodyE]; try omega))
      subst hk1
      refine CodeT.exit (EndT.thenX (EndT.thenX (EndT.blkX (EndT.thenN ?_))))
      refine CodeT.seq ?_
      refine CodeT.region (.p (opField Tryz.fd77_0 (.t rfl)) rfl <| .p (opLoad Tryz.ag74 (.t rfl)) rfl <| .p (opLen rfl Tryz.underlying74 (.t rfl)) rfl <| .p (opAssign (.t rfl)) rfl <| .nil ?_)
      refine EndT.thenN ?_
      refine CodeT.seq ?_
      refine CodeT.region (.p (opMove (.t rfl)) rfl <| .p (opNilChkO (.t rfl)) rfl <| .p (opFieldO Tryz.fd63_0 (.t rfl)) rfl <| .p (opLoadO (i := 1) Tryz.ag57 (.t rfl) rfl rfl) rfl <| .p (opNilChk (.t rfl)) rfl <| .p (opField Tryz.fd68_2 (.t rfl)) rfl <| .p (opLoad Tryz.ag66 (.t rfl)) rfl <| .p (opMove (.t rfl)) rfl <| .p (opIndexAddr (j := 0) Tryz.underlying66 Tryz.cz83 rfl (.t rfl) (.t rfl) rfl (show modE.Funcs[0]? = some ⟨0, bodyE⟩ from rfl)) rfl <| .p (opField Tryz.fd83_1 (.t rfl)) rfl <| .p (opField Tryz.fd80_0 (.t rfl)) rfl <| .p (opLoad Tryz.ag74 (.t rfl)) rfl <| .p (opLen rfl Tryz.underlying74 (.t rfl)) rfl <| .p (opMove (.c _)) rfl <| .nil ?_)
      refine EndT.thenN ?_
      refine CodeT.block ?_
      refine CodeT.loopO (σ := Nat) (fun _ => [mapH m31 (Value.int .i64) (fun b : Bool => propV (b = true)) ([] : List (Int × Bool)), lookH kb mb o, namH mb D]) (fun k => [(79, nV (k : Int))]) (fun k => k = 0) (fun k => 0) 0 rfl rfl ?_ ?_
      · exact (.get rfl (VLe.refl _) (.refl _ _))
      · rintro k hk
        refine CodeT.seq ?_
        refine CodeT.region (.p (opLss (.t rfl) (.t rfl)) rfl <| .nil ?_)
        refine EndT.thenN ?_
        refine CodeT.seq ?_
        refine CodeT.cond (.t rfl) (fun c2 => ?_) (fun c2 => ?_)
        ·
          exfalso; subst hk; revert c2; simp [modE, bodyE]
        ·
          refine CodeT.exit (EndT.thenX (EndT.thenX (EndT.blkX (Post.retR0 rfl (()) (by trivial) (OLe.sel [1, 2] [0] rfl rfl) rfl))))

end Go.Proofs.YtghmenjcnopibaaGreatDoor
