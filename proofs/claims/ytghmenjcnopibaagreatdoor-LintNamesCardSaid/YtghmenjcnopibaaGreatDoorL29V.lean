/-
  Walks, printed by a program (gen.py) out of what its author says of each function.
-/
import Derived.Test.YtghmenjcnopibaaGreatDoorL29W
namespace Go.Proofs.YtghmenjcnopibaaGreatDoor
open Go.Hl Go.RowKit
set_option linter.unusedVariables false
set_option maxRecDepth 100000

theorem ntop_spec {nb : Nat} : FnE Tryz.prog 162 [addrV nb 0] [nestH nb False] (γ := Unit) (fun _ => True) (fun _ => [nestH nb False]) (fun _ => tupV [exactV (.pointer none), propV False]) := by
  refine FnE.intro 27 Tryz.func162 rfl rfl rfl fun w0 S0 M => ?_
  refine CodeT.seq ?_
  refine CodeT.region (.p (opAssign (.c _)) rfl <| .p (opAssign .cf) rfl <| .nil ?_)
  refine EndT.thenN ?_
  refine CodeT.seq ?_
  refine CodeT.seq ?_
  refine CodeT.region (.p (opMove (.t rfl)) rfl <| .p (opNilChkO (.t rfl)) rfl <| .p (opFieldO Tryz.fd215_2 (.t rfl)) rfl <| .p (opLoadO (i := 0) Tryz.ag93 (.t rfl) rfl rfl) rfl <| .p (opLen rfl Tryz.underlying93 (.le (.t rfl) (sliceV_nil 1 encInt))) rfl <| .p (opEql (.t rfl) (.c _)) rfl <| .nil ?_)
  refine EndT.thenN ?_
  refine CodeT.cond (.t rfl) (fun c0 => ?_) (fun c0 => ?_)
  ·
    refine CodeT.seq ?_
    refine CodeT.region (.p (opAssign (.c _)) rfl <| .p (opAssign .cf) rfl <| .nil ?_)
    refine EndT.thenN ?_
    refine CodeT.ret (EndT.thenR (Post.retR rfl rfl (()) (by trivial) (fun _ _ _ h => h) rfl (.cons (.rt rfl) ?_ (.cons (.rt rfl) ?_ .nil))))
    · exact VLe.refl _
    · exact VLe.refl _
  ·
    exact absurd rfl c0

theorem nend_spec {nb : Nat} : FnE Tryz.prog 153 [addrV nb 0, nV 0] [nestH nb False] (γ := Unit) (fun _ => True) (fun _ => [nestH nb True]) (fun _ => tupV []) := by
  refine FnE.intro 34 Tryz.func153 rfl rfl rfl fun w0 S0 M => ?_
  refine CodeT.seq ?_
  refine CodeT.region (.p (opMove (.t rfl)) rfl <| .n ((opCallE (rest := []) (ntop_spec) Tryz.cb162 (.cons (.t rfl) .nil) (Perm.idx [0] rfl rfl)).same (fun _ _ => OLe.refl _) (fun _ _ => VLe.refl _)) rfl <| fun _ _ => .p (opMove (.t rfl)) rfl <| .p (opExtract (.t rfl) rfl) rfl <| .p (opExtract (.t rfl) rfl) rfl <| .p (opAssign (.t rfl)) rfl <| .p (opAssign (.t rfl)) rfl <| .nil ?_)
  refine EndT.thenN ?_
  refine CodeT.seq ?_
  refine CodeT.seq ?_
  refine CodeT.region (.p (opMove (.t rfl)) rfl <| .p (opNot (.t rfl)) rfl <| .nil ?_)
  refine EndT.thenN ?_
  refine CodeT.cond (.t rfl) (fun c0 => ?_) (fun c0 => ?_)
  ·
    refine CodeT.seq ?_
    refine CodeT.region (.p (opMove (.t rfl)) rfl <| .p (opNilChkO (.t rfl)) rfl <| .p (opFieldO Tryz.fd215_3 (.t rfl)) rfl <| .s (opStoreO (i := 0) Tryz.cz4 (.t rfl) .ct rfl rfl) <| .nil ?_)
    refine EndT.thenN ?_
    refine CodeT.ret (EndT.thenR (Post.retV rfl (()) (by trivial) (fun _ _ _ h => h) rfl))
  ·
    exact absurd (fun h => h) c0

theorem copens_spec  : FnP Tryz.prog 150 [aggV (encInstr endI)] (propV False) := by
  refine FnE.intro 16 Tryz.func150 rfl rfl rfl fun w0 S0 M => ?_
  refine CodeT.seq ?_
  refine CodeT.region (.p (opBoxA (.t rfl)) rfl <| .p (opAssign .cf) rfl <| .nil ?_)
  refine EndT.thenN ?_
  refine CodeT.seq ?_
  refine CodeT.region (.p (opField Tryz.fd100_0 (.t rfl)) rfl <| .p (opLoad Tryz.ag3 (.t rfl)) rfl <| .p (opEql (.t rfl) (.c _)) rfl <| .p (opMove (.t rfl)) rfl <| .g (OpG.gF rfl rfl rfl rfl (fun hg => opField Tryz.fd100_0 (.t rfl))) rfl rfl <| .g (OpG.gF rfl rfl rfl rfl (fun hg => opLoad Tryz.ag3 (.when (.t rfl) hg))) rfl rfl <| .g (OpG.gF rfl rfl rfl rfl (fun hg => opEql (.when (.t rfl) hg) (.c _))) rfl rfl <| .p (opOr (.t rfl) (.t rfl)) rfl <| .p (opMove (.t rfl)) rfl <| .g (OpG.gF rfl rfl rfl rfl (fun hg => opField Tryz.fd100_0 (.t rfl))) rfl rfl <| .g (OpG.gF rfl rfl rfl rfl (fun hg => opLoad Tryz.ag3 (.when (.t rfl) hg))) rfl rfl <| .g (OpG.gF rfl rfl rfl rfl (fun hg => opEql (.when (.t rfl) hg) (.c _))) rfl rfl <| .p (opOr (.t rfl) (.t rfl)) rfl <| .p (opAssign (.t rfl)) rfl <| .nil ?_)
  refine EndT.thenN ?_
  refine CodeT.ret (Post.retP rfl rfl ?_)
  exact VLe.prop (by simp [endI])

theorem nstep_spec {nb : Nat} : FnE Tryz.prog 132 [addrV nb 0, nV 0] [nestH nb False] (γ := Unit) (fun _ => True) (fun _ => [nestH nb True]) (fun _ => nV 0) := by
  refine FnE.intro 48 Tryz.func132 rfl rfl rfl fun w0 S0 M => ?_
  refine CodeT.seq ?_
  refine CodeT.region (.p (opAssign (.c _)) rfl <| .nil ?_)
  refine EndT.thenN ?_
  refine CodeT.seq ?_
  refine CodeT.block ?_
  refine CodeT.seq ?_
  refine CodeT.region (.p (opMove (.t rfl)) rfl <| .p (opNilChkO (.t rfl)) rfl <| .p (opFieldO Tryz.fd215_3 (.t rfl)) rfl <| .p (opLoadO (i := 0) Tryz.ag4 (.t rfl) rfl rfl) rfl <| .p (opAssign (.t rfl)) rfl <| .nil ?_)
  refine EndT.thenN ?_
  refine CodeT.cond (.t rfl) (fun c0 => ?_) (fun c0 => ?_)
  ·
    exact c0.elim
  ·
    refine CodeT.seq ?_
    refine CodeT.region (.p (opMove (.t rfl)) rfl <| .p (opNilChkO (.t rfl)) rfl <| .p (opFieldO Tryz.fd215_0 (.t rfl)) rfl <| .p (opLoadO (i := 0) Tryz.ag78 (.t rfl) rfl rfl) rfl <| .p (opMove (.t rfl)) rfl <| .p (opIndexAddr (j := 0) Tryz.underlying78 Tryz.cz100 rfl (.t rfl) (.t rfl) rfl (show ([endI] : List InstrD)[0]? = some endI from rfl)) rfl <| .p (opLoadA Tryz.ag100 Tryz.cz100 rfl (.t rfl) rfl) rfl <| .p (opCall (copens_spec) Tryz.cb150 (.cons (.t rfl) .nil)) rfl <| .p (opAssign (.t rfl)) rfl <| .nil ?_)
    refine EndT.thenN ?_
    refine CodeT.cond (.t rfl) (fun c1 => ?_) (fun c1 => ?_)
    ·
      exact c1.elim
    ·
      refine CodeT.seq ?_
      refine CodeT.region (.p (opMove (.t rfl)) rfl <| .p (opNilChkO (.t rfl)) rfl <| .p (opFieldO Tryz.fd215_0 (.t rfl)) rfl <| .p (opLoadO (i := 0) Tryz.ag78 (.t rfl) rfl rfl) rfl <| .p (opMove (.t rfl)) rfl <| .p (opIndexAddr (j := 0) Tryz.underlying78 Tryz.cz100 rfl (.t rfl) (.t rfl) rfl (show ([endI] : List InstrD)[0]? = some endI from rfl)) rfl <| .p (opField Tryz.fd100_0 (.t rfl)) rfl <| .p (opLoad Tryz.ag3 (.t rfl)) rfl <| .p (opEql (.t rfl) (.c _)) rfl <| .p (opAssign (.t rfl)) rfl <| .nil ?_)
      refine EndT.thenN ?_
      refine CodeT.cond (.t rfl) (fun c2 => ?_) (fun c2 => ?_)
      ·
        exact absurd c2 (by decide)
      ·
        refine CodeT.seq ?_
        refine CodeT.region (.p (opMove (.t rfl)) rfl <| .p (opNilChkO (.t rfl)) rfl <| .p (opFieldO Tryz.fd215_0 (.t rfl)) rfl <| .p (opLoadO (i := 0) Tryz.ag78 (.t rfl) rfl rfl) rfl <| .p (opMove (.t rfl)) rfl <| .p (opIndexAddr (j := 0) Tryz.underlying78 Tryz.cz100 rfl (.t rfl) (.t rfl) rfl (show ([endI] : List InstrD)[0]? = some endI from rfl)) rfl <| .p (opField Tryz.fd100_0 (.t rfl)) rfl <| .p (opLoad Tryz.ag3 (.t rfl)) rfl <| .p (opEql (.t rfl) (.c _)) rfl <| .p (opAssign (.t rfl)) rfl <| .nil ?_)
        refine EndT.thenN ?_
        refine CodeT.cond (.t rfl) (fun c3 => ?_) (fun c3 => ?_)
        ·
          refine CodeT.region (.p (opMove (.t rfl)) rfl <| .p (opMove (.t rfl)) rfl <| .n (opCallE (rest := []) (nend_spec) Tryz.cb153 (.cons (.t rfl) (.cons (.t rfl) .nil)) (Perm.idx [0] rfl rfl)) rfl <| fun g47 h47 => .nil ?_)
          refine EndT.blkN (EndT.thenN ?_)
          refine CodeT.seq ?_
          refine CodeT.region (.p (opAssign (.c _)) rfl <| .nil ?_)
          refine EndT.thenN ?_
          refine CodeT.ret (Post.retR1 rfl (()) (by trivial) (fun _ _ _ h => h) (.rt rfl) ?_)
          exact VLe.refl _
        ·
          exact absurd rfl c3

theorem nwalk_spec {nb : Nat} : FnE Tryz.prog 113 [addrV nb 0] [nestH nb False] (γ := Unit) (fun _ => True) (fun _ => [nestH nb True]) (fun _ => tupV [nV 0, nV 0]) := by
  refine FnE.intro 32 Tryz.func113 rfl rfl rfl fun w0 S0 M => ?_
  refine CodeT.seq ?_
  refine CodeT.region (.p (opAssign (.c _)) rfl <| .p (opAssign (.c _)) rfl <| .nil ?_)
  refine EndT.thenN ?_
  refine CodeT.seq ?_
  refine CodeT.seq ?_
  refine CodeT.region (.p (opMove (.t rfl)) rfl <| .p (opNilChkO (.t rfl)) rfl <| .p (opFieldO Tryz.fd215_0 (.t rfl)) rfl <| .p (opLoadO (i := 0) Tryz.ag78 (.t rfl) rfl rfl) rfl <| .p (opLen rfl Tryz.underlying78 (.t rfl)) rfl <| .p (opMove (.c _)) rfl <| .nil ?_)
  refine EndT.thenN ?_
  refine CodeT.block ?_
  refine CodeT.loopO (σ := Nat) (fun k => [nestH nb (bk k)]) (fun k => [(11, nV (k : Int))]) (fun k => k ≤ 1) (fun k => 1 - k) 0 (Nat.zero_le _) rfl ?_ ?_
  · exact (.get rfl (VLe.refl _) (.refl _ _))
  · rintro k hk
    refine CodeT.seq ?_
    refine CodeT.region (.p (opLss (.t rfl) (.t rfl)) rfl <| .nil ?_)
    refine EndT.thenN ?_
    refine CodeT.seq ?_
    refine CodeT.cond (.t rfl) (fun c0 => ?_) (fun c0 => ?_)
    ·
      have hk0 : k = 0 := by (first | omega | (revert c0; simp [modE, bodyE]; try omega))
      subst hk0
      refine CodeT.skip (EndT.thenN ?_)
      refine CodeT.seq ?_
      refine CodeT.block ?_
      refine CodeT.seq ?_
      refine CodeT.region (.p (opMove (.t rfl)) rfl <| .p (opAssign (.t rfl)) rfl <| .nil ?_)
      refine EndT.thenN ?_
      refine CodeT.seq ?_
      refine CodeT.region (.p (opMove (.t rfl)) rfl <| .p (opMove (.t rfl)) rfl <| .n (opCallE (rest := []) (nstep_spec) Tryz.cb132 (.cons (.t rfl) (.cons (.t rfl) .nil)) (Perm.idx [0] rfl rfl)) rfl <| fun g16 h16 => .p (opAssign (.t rfl)) rfl <| .nil ?_)
      refine EndT.thenN ?_
      refine CodeT.seq ?_
      refine CodeT.region (.p (opMove (.t rfl)) rfl <| .p (opNeq (.t rfl) (.c _)) rfl <| .nil ?_)
      refine EndT.thenN ?_
      refine CodeT.cond (.t rfl) (fun c1 => ?_) (fun c1 => ?_)
      ·
        exact absurd rfl c1
      ·
        refine CodeT.skip (EndT.blkN (EndT.thenN ?_))
        refine CodeT.region (.p (opAddF (.t rfl) (.c _) (fits_i64 (by omega) (by omega))) rfl <| .p (opMove (.t rfl)) rfl <| .nil ?_)
        refine EndT.round 1 (Nat.le_refl _) (by decide) rfl ?_
        exact (.get rfl (VLe.refl _) ((.keep 12 rfl rfl)))
    ·
      have hk1 : k = 1 := by (first | omega | (revert c0; simp [modE, bodyE]; try omega))
      subst hk1
      refine CodeT.exit (EndT.thenX (EndT.thenX (EndT.blkX (EndT.thenN ?_))))
      refine CodeT.seq ?_
      refine CodeT.seq ?_
      refine CodeT.region (.p (opMove (.t rfl)) rfl <| .p (opNilChkO (.t rfl)) rfl <| .p (opFieldO Tryz.fd215_3 (.t rfl)) rfl <| .p (opLoadO (i := 0) Tryz.ag4 (.t rfl) rfl rfl) rfl <| .p (opNot (.t rfl)) rfl <| .nil ?_)
      refine EndT.thenN ?_
      refine CodeT.cond (.t rfl) (fun c2 => ?_) (fun c2 => ?_)
      ·
        exact absurd trivial c2
      ·
        refine CodeT.skip (EndT.thenN ?_)
        refine CodeT.seq ?_
        refine CodeT.region (.p (opAssign (.c _)) rfl <| .p (opAssign (.c _)) rfl <| .nil ?_)
        refine EndT.thenN ?_
        refine CodeT.ret (Post.retR rfl rfl (()) (by trivial) (fun _ _ _ h => h) rfl (.cons (.rt rfl) ?_ (.cons (.rt rfl) ?_ .nil)))
        · exact VLe.refl _
        · exact VLe.refl _

theorem cspans_spec  : FnP Tryz.prog 100 [sliceV 5 encInstr [endI]] (tupV [exactV (.slice none 0 0), nV 0, nV 0]) := by
  refine FnE.intro 24 Tryz.func100 rfl rfl rfl fun w0 S0 M => ?_
  refine CodeT.seq ?_
  refine CodeT.region (.p (opAssign (.c _)) rfl <| .p (opAssign (.c _)) rfl <| .p (opAssign (.c _)) rfl <| .nil ?_)
  refine EndT.thenN ?_
  refine CodeT.seq ?_
  refine CodeT.region (.p (opMove (.t rfl)) rfl <| .p (opBuild Tryz.pl215 Tryz.zb215 (.cons (.t rfl) .nil) rfl) rfl <| .n (opBoxOA (.t rfl)) rfl <| fun b10 _ => .p (opAssign (.t rfl)) rfl <| .nil ?_)
  refine EndT.thenN ?_
  refine CodeT.seq ?_
  refine CodeT.seq ?_
  refine CodeT.own (OLe.cellsL (cs' := [sliceV 5 encInstr [endI], exactV (.slice none 0 0), exactV (.slice none 0 0), propV False, exactV (.int .i64 0)]) (.cons (.refl _) (.cons (.refl _) (.cons (.refl _) (.cons falseBV (.cons (.refl _) .nil)))))) ?_
  refine CodeT.region (.p (opMove (.t rfl)) rfl <| .n (opCallE (rest := []) (nwalk_spec) Tryz.cb113 (.cons (.t rfl) .nil) (Perm.idx [0] rfl rfl)) rfl <| fun g13 h13 => .p (opMove (.t rfl)) rfl <| .p (opExtract (.t rfl) rfl) rfl <| .p (opExtract (.t rfl) rfl) rfl <| .p (opAssign (.t rfl)) rfl <| .p (opAssign (.t rfl)) rfl <| .nil ?_)
  refine EndT.thenN ?_
  refine CodeT.seq ?_
  refine CodeT.region (.p (opMove (.t rfl)) rfl <| .p (opNeq (.t rfl) (.c _)) rfl <| .nil ?_)
  refine EndT.thenN ?_
  refine CodeT.cond (.t rfl) (fun c0 => ?_) (fun c0 => ?_)
  ·
    exact absurd rfl c0
  ·
    refine CodeT.skip (EndT.thenN ?_)
    refine CodeT.seq ?_
    refine CodeT.region (.p (opMove (.t rfl)) rfl <| .p (opNilChkO (.t rfl)) rfl <| .p (opFieldO Tryz.fd215_1 (.t rfl)) rfl <| .p (opLoadO (i := 0) Tryz.ag195 (.t rfl) rfl rfl) rfl <| .p (opAssign (.t rfl)) rfl <| .p (opAssign (.c _)) rfl <| .p (opAssign (.c _)) rfl <| .nil ?_)
    refine EndT.thenN ?_
    refine CodeT.ret (Post.retR rfl rfl () trivial (fun _ _ _ _ => trivial) rfl (.cons (.rt rfl) ?_ (.cons (.rt rfl) ?_ (.cons (.rt rfl) ?_ .nil))))
    · exact VLe.refl _
    · exact VLe.refl _
    · exact VLe.refl _

theorem cruns_spec  : FnP Tryz.prog 101 [sliceV 1 encU8 []] (exactV (.slice none 0 0)) := by
  refine FnE.intro 43 Tryz.func101 rfl rfl rfl fun w0 S0 M => ?_
  refine CodeT.seq ?_
  refine CodeT.region (.p (opAssign (.c _)) rfl <| .nil ?_)
  refine EndT.thenN ?_
  refine CodeT.seq ?_
  refine CodeT.region (.p (opAssign (.c _)) rfl <| .nil ?_)
  refine EndT.thenN ?_
  refine CodeT.seq ?_
  refine CodeT.seq ?_
  refine CodeT.region (.p (opMove (.t rfl)) rfl <| .p (opLen rfl Tryz.underlying74 (.t rfl)) rfl <| .p (opMove (.c _)) rfl <| .nil ?_)
  refine EndT.thenN ?_
  refine CodeT.block ?_
  refine CodeT.loopO (σ := Nat) (fun _ => []) (fun k => [(9, nV (k : Int))]) (fun k => k = 0) (fun k => 0) 0 rfl rfl ?_ ?_
  · exact (.get rfl (VLe.refl _) (.refl _ _))
  · rintro k hk
    refine CodeT.seq ?_
    refine CodeT.region (.p (opLss (.t rfl) (.t rfl)) rfl <| .nil ?_)
    refine EndT.thenN ?_
    refine CodeT.seq ?_
    refine CodeT.cond (.t rfl) (fun c0 => ?_) (fun c0 => ?_)
    ·
      exfalso; subst hk; revert c0; simp
    ·
      refine CodeT.exit (EndT.thenX (EndT.thenX (EndT.blkX (EndT.thenN ?_))))
      refine CodeT.seq ?_
      refine CodeT.region (.p (opMove (.t rfl)) rfl <| .p (opAssign (.t rfl)) rfl <| .nil ?_)
      refine EndT.thenN ?_
      refine CodeT.ret (Post.retP rfl rfl ?_)
      exact VLe.refl _

end Go.Proofs.YtghmenjcnopibaaGreatDoor
