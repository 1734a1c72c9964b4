/-
  Walks, printed by a program (gen.py) out of what its author says of each function.
-/
import Derived.Test.YtghmenjcnopibaaGreatDoorL29A
import Derived.Test.YtghmenjcnopibaaGreatDoorO10W
import Derived.Test.YtghmenjcnopibaaGreatDoorM13W
import Derived.Test.YtghmenjcnopibaaGreatDoorM13Y
namespace Go.Proofs.YtghmenjcnopibaaGreatDoor
open Go.Hl Go.RowKit
set_option linter.unusedVariables false
set_option maxRecDepth 100000

theorem iform_spec  : FnP Tryz.prog 115 [aggV (encInstr endI)] (nV 0) := by
  refine FnE.intro 15 Tryz.func115 rfl rfl rfl fun w0 S0 M => ?_
  obtain ⟨i11, hf11, hf0⟩ := find11
  refine CodeT.seq ?_
  refine CodeT.region (.p (opBoxA (.t rfl)) rfl <| .p (opAssign (.c _)) rfl <| .nil ?_)
  refine EndT.thenN ?_
  refine CodeT.seq ?_
  refine CodeT.region (.p (opField Tryz.fd100_0 (.t rfl)) rfl <| .p (opLoad Tryz.ag3 (.t rfl)) rfl <| .p (opCall (find_spec (code := 11)) Tryz.cb31 (.cons (.t rfl) .nil)) rfl <| .p (opMove (.t rfl)) rfl <| .p (opExtract (.t rfl) rfl) rfl <| .p (opExtract (.t rfl) rfl) rfl <| .n (opAlloc Tryz.zb109) rfl <| fun b3 _ => .s (opStoreOA (i := 0) Tryz.cz109 rfl (.t rfl) (.t rfl) rfl rfl rfl) <| .p (opAssign (.t rfl)) rfl <| .nil ?_)
  refine EndT.thenN ?_
  refine CodeT.share (t := 3) (i := 0) rfl rfl ?_
  refine CodeT.seq ?_
  refine CodeT.seq ?_
  refine CodeT.region (.p (opMove (.t rfl)) rfl <| .p (opNot (.t rfl)) rfl <| .nil ?_)
  refine EndT.thenN ?_
  refine CodeT.cond (.t rfl) (fun c0 => ?_) (fun c0 => ?_)
  ·
    exfalso; revert c0; rw [hf11]; simp
  ·
    refine CodeT.skip (EndT.thenN ?_)
    refine CodeT.seq ?_
    refine CodeT.region (.p (opField Tryz.fd109_2 (.t rfl)) rfl <| .p (opLoad Tryz.ag3 (.t rfl)) rfl <| .p (opAssign (.t rfl)) rfl <| .nil ?_)
    refine EndT.thenN ?_
    refine CodeT.ret (Post.retP rfl rfl ?_)
    exact VLe.int (by rw [hf11]; exact hf0)

theorem ibare_spec  : FnP Tryz.prog 127 [aggV (encInstr endI), intV .u64 0, nV 0, nV 0] (propV True) := by
  refine FnE.intro 26 Tryz.func127 rfl rfl rfl fun w0 S0 M => ?_
  refine CodeT.seq ?_
  refine CodeT.region (.p (opBoxA (.t rfl)) rfl <| .p (opAssign .cf) rfl <| .nil ?_)
  refine EndT.thenN ?_
  refine CodeT.seq ?_
  refine CodeT.region (.p (opField Tryz.fd100_2 (.t rfl)) rfl <| .p (opLoad Tryz.ag36 (.t rfl)) rfl <| .p (opMove (.t rfl)) rfl <| .p (opEql (.t rfl) (.t rfl)) rfl <| .p (opMove (.t rfl)) rfl <| .g (OpG.gT rfl rfl rfl rfl (fun hg => opField Tryz.fd100_3 (.t rfl))) rfl rfl <| .g (OpG.gT rfl rfl rfl rfl (fun hg => opLoad Tryz.ag3 (.when (.t rfl) hg))) rfl rfl <| .g (OpG.gT rfl rfl rfl rfl (fun hg => opMove (.t rfl))) rfl rfl <| .g (OpG.gT rfl rfl rfl rfl (fun hg => opEql (.when (.t rfl) hg) (.when (.t rfl) hg))) rfl rfl <| .p (opAnd (.t rfl) (.t rfl)) rfl <| .p (opMove (.t rfl)) rfl <| .g (OpG.gT rfl rfl rfl rfl (fun hg => opField Tryz.fd100_4 (.t rfl))) rfl rfl <| .g (OpG.gT rfl rfl rfl rfl (fun hg => opLoad Tryz.ag37 (.when (.t rfl) hg))) rfl rfl <| .g (OpG.gT rfl rfl rfl rfl (fun hg => opLen rfl Tryz.underlying37 (.when (.t rfl) hg))) rfl rfl <| .g (OpG.gT rfl rfl rfl rfl (fun hg => opMove (.t rfl))) rfl rfl <| .g (OpG.gT rfl rfl rfl rfl (fun hg => opEql (.when (.t rfl) hg) (.when (.t rfl) hg))) rfl rfl <| .p (opAnd (.t rfl) (.t rfl)) rfl <| .p (opAssign (.t rfl)) rfl <| .nil ?_)
  refine EndT.thenN ?_
  refine CodeT.ret (Post.retP rfl rfl ?_)
  exact VLe.prop (by simp [endI])

theorem iright_spec  : FnP Tryz.prog 111 [aggV (encInstr endI)] (propV True) := by
  refine FnE.intro 114 Tryz.func111 rfl rfl rfl fun w0 S0 M => ?_
  refine CodeT.seq ?_
  refine CodeT.region (.p (opBoxA (.t rfl)) rfl <| .p (opAssign .cf) rfl <| .nil ?_)
  refine EndT.thenN ?_
  refine CodeT.seq ?_
  refine CodeT.seq ?_
  refine CodeT.region (.p (OpP.le (opLoadA Tryz.ag100 Tryz.cz100 rfl (.t rfl) rfl) (VLe.refl (aggV (encInstr endI)))) rfl <| .p (opCall (iform_spec) Tryz.cb115 (.cons (.t rfl) .nil)) rfl <| .nil ?_)
  refine EndT.thenN ?_
  refine CodeT.block ?_
  refine CodeT.seq ?_
  refine CodeT.region (.p (opEql (.t rfl) (.c _)) rfl <| .p (opAssign (.t rfl)) rfl <| .nil ?_)
  refine EndT.thenN ?_
  refine CodeT.cond (.t rfl) (fun c0 => ?_) (fun c0 => ?_)
  ·
    refine CodeT.seq ?_
    refine CodeT.region (.p (opField Tryz.fd100_1 (.t rfl)) rfl <| .p (opLoad Tryz.ag36 (.t rfl)) rfl <| .p (opEql (.t rfl) (.c _)) rfl <| .p (opMove (.t rfl)) rfl <| .g (OpG.gT rfl rfl rfl rfl (fun hg => OpP.le (opLoadA Tryz.ag100 Tryz.cz100 rfl (.t rfl) rfl) (VLe.refl (aggV (encInstr endI))))) rfl rfl <| .g (OpG.gT rfl rfl rfl rfl (fun hg => opCall (ibare_spec) Tryz.cb127 (.cons (.when (.t rfl) hg) (.cons (.c _) (.cons (.c _) (.cons (.c _) .nil)))))) rfl rfl <| .p (opAnd (.t rfl) (.t rfl)) rfl <| .p (opAssign (.t rfl)) rfl <| .nil ?_)
    refine EndT.thenN ?_
    refine CodeT.ret (EndT.blkR (EndT.thenR (Post.retP rfl rfl ?_)))
    exact VLe.prop (by simp [endI])
  ·
    exact absurd rfl c0

theorem bright1_spec  : FnP Tryz.prog 110 [aggV (encInstr endI)] (propV False) := by
  refine FnE.intro 6 Tryz.func110 rfl rfl rfl fun w0 S0 M => ?_
  refine CodeT.seq ?_
  refine CodeT.region (.p (opBoxA (.t rfl)) rfl <| .p (opAssign .cf) rfl <| .nil ?_)
  refine EndT.thenN ?_
  refine CodeT.seq ?_
  refine CodeT.region (.p (OpP.le (opLoadA Tryz.ag100 Tryz.cz100 rfl (.t rfl) rfl) (VLe.refl (aggV (encInstr endI)))) rfl <| .p (opCall (iright_spec) Tryz.cb111 (.cons (.t rfl) .nil)) rfl <| .p (opNot (.t rfl)) rfl <| .p (opAssign (.t rfl)) rfl <| .nil ?_)
  refine EndT.thenN ?_
  refine CodeT.ret (Post.retP rfl rfl ?_)
  exact VLe.prop (by simp)

theorem idxInstr_spec  : FnP Tryz.prog 126 [sliceV 5 encInstr [endI], funV Tryz.prog (fun x : InstrD => x = endI) (fun x => [aggV (encInstr x)]) (fun _ => propV False)] (nV (-1)) := by
  refine FnE.intro 19 Tryz.func126 rfl rfl rfl fun w0 S0 M => ?_
  refine CodeT.seq ?_
  refine CodeT.region (.p (opAssign (.c _)) rfl <| .nil ?_)
  refine EndT.thenN ?_
  refine CodeT.seq ?_
  refine CodeT.seq ?_
  refine CodeT.region (.p (opMove (.t rfl)) rfl <| .p (opLen rfl Tryz.underlying78 (.t rfl)) rfl <| .p (opMove (.c _)) rfl <| .nil ?_)
  refine EndT.thenN ?_
  refine CodeT.block ?_
  refine CodeT.loopO (σ := Nat) (fun _ => []) (fun k => [(8, nV (k : Int))]) (fun k => k ≤ 1) (fun k => 1 - k) 0 (Nat.zero_le _) rfl ?_ ?_
  · exact (.get rfl (VLe.refl _) (.refl _ _))
  · rintro k hk
    refine CodeT.seq ?_
    refine CodeT.region (.p (opLss (.t rfl) (.t rfl)) rfl <| .nil ?_)
    refine EndT.thenN ?_
    refine CodeT.seq ?_
    refine CodeT.cond (.t rfl) (fun c0 => ?_) (fun c0 => ?_)
    ·
      have hk0 : k = 0 := by (first | omega | (revert c0; simp [modE, bodyE]; try omega))
      subst hk0
      refine CodeT.skip (EndT.thenN ?_)
      refine CodeT.seq ?_
      refine CodeT.block ?_
      refine CodeT.seq ?_
      refine CodeT.region (.p (opMove (.t rfl)) rfl <| .p (opAssign (.t rfl)) rfl <| .nil ?_)
      refine EndT.thenN ?_
      refine CodeT.seq ?_
      refine CodeT.region (.p (opMove (.t rfl)) rfl <| .p (opMove (.t rfl)) rfl <| .p (opMove (.t rfl)) rfl <| .p (opIndexAddr (j := 0) Tryz.underlying78 Tryz.cz100 rfl (.t rfl) (.t rfl) rfl (show ([endI] : List InstrD)[0]? = some endI from rfl)) rfl <| .p (opLoadA Tryz.ag100 Tryz.cz100 rfl (.t rfl) rfl) rfl <| .p (opCallV endI (.t rfl) rfl (.cons (.t rfl) .nil)) rfl <| .nil ?_)
      refine EndT.thenN ?_
      refine CodeT.cond (.t rfl) (fun c1 => ?_) (fun c1 => ?_)
      ·
        exact c1.elim
      ·
        refine CodeT.skip (EndT.blkN (EndT.thenN ?_))
        refine CodeT.region (.p (opAddF (.t rfl) (.c _) (fits_i64 (by omega) (by omega))) rfl <| .p (opMove (.t rfl)) rfl <| .nil ?_)
        refine EndT.round 1 (Nat.le_refl _) (by decide) rfl ?_
        exact (.get rfl (VLe.refl _) ((.keep 12 rfl rfl)))
    ·
      have hk1 : k = 1 := by (first | omega | (revert c0; simp [modE, bodyE]; try omega))
      subst hk1
      refine CodeT.exit (EndT.thenX (EndT.thenX (EndT.blkX (EndT.thenN ?_))))
      refine CodeT.seq ?_
      refine CodeT.region (.p (opAssign (.c _)) rfl <| .nil ?_)
      refine EndT.thenN ?_
      refine CodeT.ret (Post.retP rfl rfl ?_)
      exact VLe.refl _

theorem conInstr_spec  : FnP Tryz.prog 109 [sliceV 5 encInstr [endI], funV Tryz.prog (fun x : InstrD => x = endI) (fun x => [aggV (encInstr x)]) (fun _ => propV False)] (propV False) := by
  refine FnE.intro 9 Tryz.func109 rfl rfl rfl fun w0 S0 M => ?_
  refine CodeT.seq ?_
  refine CodeT.region (.p (opAssign .cf) rfl <| .nil ?_)
  refine EndT.thenN ?_
  refine CodeT.seq ?_
  refine CodeT.region (.p (opMove (.t rfl)) rfl <| .p (opMove (.t rfl)) rfl <| .p (opCall (idxInstr_spec) Tryz.cb126 (.cons (.t rfl) (.cons (.t rfl) .nil))) rfl <| .p (opGeq (.t rfl) (.c _)) rfl <| .p (opAssign (.t rfl)) rfl <| .nil ?_)
  refine EndT.thenN ?_
  refine CodeT.ret (Post.retP rfl rfl ?_)
  exact VLe.prop (by simp)

theorem bright2_spec {t : UInt8} : FnP Tryz.prog 112 [intV .u8 (t.toNat : Int)] (propV (bitsI t = 0)) := by
  refine FnE.intro 6 Tryz.func112 rfl rfl rfl fun w0 S0 M => ?_
  refine CodeT.seq ?_
  refine CodeT.region (.p (opAssign .cf) rfl <| .nil ?_)
  refine EndT.thenN ?_
  refine CodeT.seq ?_
  refine CodeT.region (.p (opMove (.t rfl)) rfl <| .p (opCall (bits_spec) Tryz.cb82 (.cons (.t rfl) .nil)) rfl <| .p (opEql (.t rfl) (.c _)) rfl <| .p (opAssign (.t rfl)) rfl <| .nil ?_)
  refine EndT.thenN ?_
  refine CodeT.ret (Post.retP rfl rfl ?_)
  exact VLe.refl _

theorem bodyRight_spec  : FnP Tryz.prog 99 [aggV (encBody bodyE)] (propV True) := by
  refine FnE.intro 23 Tryz.func99 rfl rfl rfl fun w0 S0 M => ?_
  refine CodeT.seq ?_
  refine CodeT.region (.p (opBoxA (.t rfl)) rfl <| .p (opAssign .cf) rfl <| .nil ?_)
  refine EndT.thenN ?_
  refine CodeT.seq ?_
  refine CodeT.region (.p (opField Tryz.fd80_1 (.t rfl)) rfl <| .p (opLoad Tryz.ag78 (.t rfl)) rfl <| .p (opCall (conInstr_spec) Tryz.cb109 (.cons (.t rfl) (.cons (.le (.f _) (funV_of Tryz.cb110 (fun (x : InstrD) (h : x = endI) => h ▸ bright1_spec))) .nil))) rfl <| .p (opAssign (.t rfl)) rfl <| .nil ?_)
  refine EndT.thenN ?_
  refine CodeT.seq ?_
  refine CodeT.region (.p (opField Tryz.fd80_0 (.t rfl)) rfl <| .p (opLoad Tryz.ag74 (.t rfl)) rfl <| .p (opCall (conType_spec (l := []) (p := fun t => bitsI t = 0)) Tryz.cb106 (.cons (.t rfl) (.cons (.le (.f _) (funV_of Tryz.cb112 (fun (b : UInt8) (_ : True) => bright2_spec (t := b)))) .nil))) rfl <| .p (opAssign (.t rfl)) rfl <| .nil ?_)
  refine EndT.thenN ?_
  refine CodeT.seq ?_
  refine CodeT.region (.p (opMove (.t rfl)) rfl <| .p (opNot (.t rfl)) rfl <| .p (opMove (.t rfl)) rfl <| .g (OpG.gT rfl rfl rfl rfl (fun hg => opMove (.t rfl))) rfl rfl <| .g (OpG.gT rfl rfl rfl rfl (fun hg => opNot (.when (.t rfl) hg))) rfl rfl <| .p (opAnd (.t rfl) (.t rfl)) rfl <| .p (opMove (.t rfl)) rfl <| .g (OpG.gT rfl rfl rfl rfl (fun hg => opField Tryz.fd80_0 (.t rfl))) rfl rfl <| .g (OpG.gT rfl rfl rfl rfl (fun hg => opLoad Tryz.ag74 (.when (.t rfl) hg))) rfl rfl <| .g (OpG.gT rfl rfl rfl rfl (fun hg => opLen rfl Tryz.underlying74 (.when (.t rfl) hg))) rfl rfl <| .g (OpG.gT rfl rfl rfl rfl (fun hg => opLeq (.when (.t rfl) hg) (.c _))) rfl rfl <| .p (opAnd (.t rfl) (.t rfl)) rfl <| .p (opAssign (.t rfl)) rfl <| .nil ?_)
  refine EndT.thenN ?_
  refine CodeT.ret (Post.retP rfl rfl ?_)
  exact VLe.prop (by simp [bodyE])

theorem lput_spec  : FnE Tryz.prog 102 [exactV (.slice none 0 0), intV .u64 0] [] (γ := SB) (fun _ => True) (fun g => [sliceH g 1 encU8 [0]]) (fun g => exactV (sval g 1)) := by
  refine FnE.intro 21 Tryz.func102 rfl rfl rfl fun w0 S0 M => ?_
  refine CodeT.seq ?_
  refine CodeT.region (.p (opAssign (.c _)) rfl <| .nil ?_)
  refine EndT.thenN ?_
  refine CodeT.seq ?_
  refine CodeT.block ?_
  refine CodeT.loopO (σ := Unit) (fun _ => []) (fun _ => []) (fun _ => True) (fun _ => 0) () trivial rfl ?_ ?_
  · exact (.refl _ _)
  · rintro u _
    refine CodeT.seq ?_
    refine CodeT.seq ?_
    refine CodeT.region (.p (opMove (.t rfl)) rfl <| .p (opGeq (.t rfl) (.c _)) rfl <| .nil ?_)
    refine EndT.thenN ?_
    refine CodeT.cond (.t rfl) (fun c0 => ?_) (fun c0 => ?_)
    ·
      exact absurd c0 (by decide)
    ·
      refine CodeT.exit (EndT.thenX (EndT.thenX (EndT.blkX (EndT.thenN ?_))))
      refine CodeT.seq ?_
      refine CodeT.ownNil 1 encU8 ?_
      refine CodeT.region (.p (opMove (.t rfl)) rfl <| .p (opMove (.t rfl)) rfl <| .p ((opConv Tryz.underlying36 Tryz.underlying5 (.t rfl)).le (VLe.int (show _ = (((0 : UInt8).toNat : Nat) : Int) by decide))) rfl <| .p (opBuildSlice (enc := encU8) [0] Tryz.underlying32 Tryz.cz5 rfl Tryz.zb5 rfl (.cons (.t rfl) .nil) rfl rfl rfl rfl rfl) rfl <| .n (opAppend (i := 0) (xs := ([] : List UInt8)) (ys := [0]) Tryz.underlying32 Tryz.underlying32 Tryz.cz5 rfl Tryz.zb5 rfl Tryz.by5 (.t rfl) (.t rfl) rfl (by decide) (by decide)) rfl <| fun g20 _ => .p (opAssign (.t rfl)) rfl <| .nil ?_)
      refine EndT.thenN ?_
      refine CodeT.ret (Post.retR1 rfl (g20) (by trivial) (fun _ _ _ h => h) (.rt rfl) ?_)
      exact VLe.refl _

theorem ihead_spec  : FnP Tryz.prog 114 [aggV (encInstr endI)] (sliceV 1 encU8 [11]) := by
  refine FnE.intro 16 Tryz.func114 rfl rfl rfl fun w0 S0 M => ?_
  refine CodeT.seq ?_
  refine CodeT.region (.p (opBoxA (.t rfl)) rfl <| .p (opAssign (.c _)) rfl <| .nil ?_)
  refine EndT.thenN ?_
  refine CodeT.seq ?_
  refine CodeT.seq ?_
  refine CodeT.region (.p (opField Tryz.fd100_0 (.t rfl)) rfl <| .p (opLoad Tryz.ag3 (.t rfl)) rfl <| .p (opLss (.t rfl) (.c _)) rfl <| .nil ?_)
  refine EndT.thenN ?_
  refine CodeT.cond (.t rfl) (fun c0 => ?_) (fun c0 => ?_)
  ·
    refine CodeT.seq ?_
    refine CodeT.region (.p (opField Tryz.fd100_0 (.t rfl)) rfl <| .p (opLoad Tryz.ag3 (.t rfl)) rfl <| .p ((opConv Tryz.underlying3 Tryz.underlying5 (.t rfl)).le (VLe.int (show _ = (((11 : UInt8).toNat : Nat) : Int) by decide))) rfl <| .p (opBuildSlice (enc := encU8) [11] Tryz.underlying32 Tryz.cz5 rfl Tryz.zb5 rfl (.cons (.t rfl) .nil) rfl rfl rfl rfl rfl) rfl <| .p (opAssign (.t rfl)) rfl <| .nil ?_)
    refine EndT.thenN ?_
    refine CodeT.ret (EndT.thenR (Post.retP rfl rfl ?_))
    exact VLe.refl _
  ·
    exact absurd (by decide) c0

theorem iencode_spec  : FnP Tryz.prog 103 [aggV (encInstr endI)] (tupV [sliceV 1 encU8 [11], nV 0]) := by
  refine FnE.intro 68 Tryz.func103 rfl rfl rfl fun w0 S0 M => ?_
  refine CodeT.seq ?_
  refine CodeT.region (.p (opBoxA (.t rfl)) rfl <| .p (opAssign (.c _)) rfl <| .p (opAssign (.c _)) rfl <| .nil ?_)
  refine EndT.thenN ?_
  refine CodeT.seq ?_
  refine CodeT.seq ?_
  refine CodeT.region (.p (OpP.le (opLoadA Tryz.ag100 Tryz.cz100 rfl (.t rfl) rfl) (VLe.refl (aggV (encInstr endI)))) rfl <| .p (opCall (iright_spec) Tryz.cb111 (.cons (.t rfl) .nil)) rfl <| .p (opNot (.t rfl)) rfl <| .nil ?_)
  refine EndT.thenN ?_
  refine CodeT.cond (.t rfl) (fun c0 => ?_) (fun c0 => ?_)
  ·
    exact absurd trivial c0
  ·
    refine CodeT.skip (EndT.thenN ?_)
    refine CodeT.seq ?_
    refine CodeT.region (.p (OpP.le (opLoadA Tryz.ag100 Tryz.cz100 rfl (.t rfl) rfl) (VLe.refl (aggV (encInstr endI)))) rfl <| .p (opCall (ihead_spec) Tryz.cb114 (.cons (.t rfl) .nil)) rfl <| .p (opAssign (.t rfl)) rfl <| .nil ?_)
    refine EndT.thenN ?_
    refine CodeT.seq ?_
    refine CodeT.seq ?_
    refine CodeT.region (.p (OpP.le (opLoadA Tryz.ag100 Tryz.cz100 rfl (.t rfl) rfl) (VLe.refl (aggV (encInstr endI)))) rfl <| .p (opCall (iform_spec) Tryz.cb115 (.cons (.t rfl) .nil)) rfl <| .nil ?_)
    refine EndT.thenN ?_
    refine CodeT.block ?_
    refine CodeT.seq ?_
    refine CodeT.region (.p (opEql (.t rfl) (.c _)) rfl <| .p (opAssign (.t rfl)) rfl <| .nil ?_)
    refine EndT.thenN ?_
    refine CodeT.cond (.t rfl) (fun c1 => ?_) (fun c1 => ?_)
    ·
      exact absurd c1 (by decide)
    ·
      refine CodeT.seq ?_
      refine CodeT.seq ?_
      refine CodeT.region (.p (opEql (.t rfl) (.c _)) rfl <| .p (opAssign (.t rfl)) rfl <| .nil ?_)
      refine EndT.thenN ?_
      refine CodeT.cond (.t rfl) (fun c2 => ?_) (fun c2 => ?_)
      ·
        exact absurd c2 (by decide)
      ·
        refine CodeT.seq ?_
        refine CodeT.region (.p (opEql (.t rfl) (.c _)) rfl <| .p (opAssign (.t rfl)) rfl <| .nil ?_)
        refine EndT.thenN ?_
        refine CodeT.cond (.t rfl) (fun c3 => ?_) (fun c3 => ?_)
        ·
          exact absurd c3 (by decide)
        ·
          refine CodeT.seq ?_
          refine CodeT.region (.p (opEql (.t rfl) (.c _)) rfl <| .p (opAssign (.t rfl)) rfl <| .nil ?_)
          refine EndT.thenN ?_
          refine CodeT.cond (.t rfl) (fun c4 => ?_) (fun c4 => ?_)
          ·
            exact absurd c4 (by decide)
          ·
            refine CodeT.seq ?_
            refine CodeT.region (.p (opEql (.t rfl) (.c _)) rfl <| .p (opAssign (.t rfl)) rfl <| .nil ?_)
            refine EndT.thenN ?_
            refine CodeT.cond (.t rfl) (fun c5 => ?_) (fun c5 => ?_)
            ·
              exact absurd c5 (by decide)
            ·
              refine CodeT.region (.p (opEql (.t rfl) (.c _)) rfl <| .p (opAssign (.t rfl)) rfl <| .nil ?_)
              refine EndT.thenN ?_
              refine CodeT.cond (.t rfl) (fun c6 => ?_) (fun c6 => ?_)
              ·
                exact absurd c6 (by decide)
              ·
                refine CodeT.seq ?_
                refine CodeT.region (.p (opEql (.t rfl) (.c _)) rfl <| .p (opAssign (.t rfl)) rfl <| .nil ?_)
                refine EndT.thenN ?_
                refine CodeT.cond (.t rfl) (fun c7 => ?_) (fun c7 => ?_)
                ·
                  exact absurd c7 (by decide)
                ·
                  refine CodeT.seq ?_
                  refine CodeT.seq ?_
                  refine CodeT.region (.p (opEql (.t rfl) (.c _)) rfl <| .p (opAssign (.t rfl)) rfl <| .nil ?_)
                  refine EndT.thenN ?_
                  refine CodeT.cond (.t rfl) (fun c8 => ?_) (fun c8 => ?_)
                  ·
                    exact absurd c8 (by decide)
                  ·
                    refine CodeT.region (.p (opEql (.t rfl) (.c _)) rfl <| .p (opAssign (.t rfl)) rfl <| .nil ?_)
                    refine EndT.thenN ?_
                    refine CodeT.cond (.t rfl) (fun c9 => ?_) (fun c9 => ?_)
                    ·
                      exact absurd c9 (by decide)
                    ·
                      refine CodeT.seq ?_
                      refine CodeT.region (.p (opEql (.t rfl) (.c _)) rfl <| .p (opAssign (.t rfl)) rfl <| .nil ?_)
                      refine EndT.thenN ?_
                      refine CodeT.cond (.t rfl) (fun c10 => ?_) (fun c10 => ?_)
                      ·
                        exact absurd c10 (by decide)
                      ·
                        refine CodeT.seq ?_
                        refine CodeT.region (.p (opEql (.t rfl) (.c _)) rfl <| .p (opAssign (.t rfl)) rfl <| .nil ?_)
                        refine EndT.thenN ?_
                        refine CodeT.cond (.t rfl) (fun c11 => ?_) (fun c11 => ?_)
                        ·
                          exact absurd c11 (by decide)
                        ·
                          refine CodeT.skip (EndT.blkN (EndT.thenN ?_))
                          refine CodeT.seq ?_
                          refine CodeT.region (.p (opMove (.t rfl)) rfl <| .p (opAssign (.t rfl)) rfl <| .p (opAssign (.c _)) rfl <| .nil ?_)
                          refine EndT.thenN ?_
                          refine CodeT.ret (Post.retR rfl rfl () trivial (fun _ _ _ _ => trivial) rfl (.cons (.rt rfl) ?_ (.cons (.rt rfl) ?_ .nil)))
                          · exact VLe.refl _
                          · exact VLe.refl _

end Go.Proofs.YtghmenjcnopibaaGreatDoor
