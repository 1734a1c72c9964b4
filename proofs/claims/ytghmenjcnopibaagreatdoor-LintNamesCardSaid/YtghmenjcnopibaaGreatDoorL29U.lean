/-
  Walks, printed by a program (gen.py) out of what its author says of each function.
-/
import Derived.Test.YtghmenjcnopibaaGreatDoorL29V
namespace Go.Proofs.YtghmenjcnopibaaGreatDoor
open Go.Hl Go.RowKit
set_option linter.unusedVariables false
set_option maxRecDepth 100000

theorem bencode_spec  : FnP Tryz.prog 92 [aggV (encBody bodyE)] (tupV [anyV, nV 0]) := by
  refine FnE.intro 71 Tryz.func92 rfl rfl rfl fun w0 S0 M => ?_
  refine CodeT.seq ?_
  refine CodeT.region (.p (opBoxA (.t rfl)) rfl <| .p (opAssign (.c _)) rfl <| .p (opAssign (.c _)) rfl <| .nil ?_)
  refine EndT.thenN ?_
  refine CodeT.seq ?_
  refine CodeT.seq ?_
  refine CodeT.region (.p (OpP.le (opLoadA Tryz.ag80 Tryz.cz80 rfl (.t rfl) rfl) (VLe.refl (aggV (encBody bodyE)))) rfl <| .p (opCall (bodyRight_spec) Tryz.cb99 (.cons (.t rfl) .nil)) rfl <| .p (opNot (.t rfl)) rfl <| .nil ?_)
  refine EndT.thenN ?_
  refine CodeT.cond (.t rfl) (fun c0 => ?_) (fun c0 => ?_)
  ·
    exact absurd trivial c0
  ·
    refine CodeT.skip (EndT.thenN ?_)
    refine CodeT.seq ?_
    refine CodeT.seq ?_
    refine CodeT.region (.p (opField Tryz.fd80_1 (.t rfl)) rfl <| .p (opLoad Tryz.ag78 (.t rfl)) rfl <| .p (opCall (cspans_spec) Tryz.cb100 (.cons (.t rfl) .nil)) rfl <| .p (opMove (.t rfl)) rfl <| .p (opExtract (.t rfl) rfl) rfl <| .p (opExtract (.t rfl) rfl) rfl <| .p (opExtract (.t rfl) rfl) rfl <| .p (opAssign (.t rfl)) rfl <| .p (opAssign (.t rfl)) rfl <| .p (opAssign (.t rfl)) rfl <| .nil ?_)
    refine EndT.thenN ?_
    refine CodeT.seq ?_
    refine CodeT.region (.p (opMove (.t rfl)) rfl <| .p (opNeq (.t rfl) (.c _)) rfl <| .nil ?_)
    refine EndT.thenN ?_
    refine CodeT.cond (.t rfl) (fun c1 => ?_) (fun c1 => ?_)
    ·
      exact absurd rfl c1
    ·
      refine CodeT.skip (EndT.thenN ?_)
      refine CodeT.seq ?_
      refine CodeT.region (.p (opField Tryz.fd80_0 (.t rfl)) rfl <| .p (opLoad Tryz.ag74 (.t rfl)) rfl <| .p (opCall (cruns_spec) Tryz.cb101 (.cons (.t rfl) .nil)) rfl <| .p (opAssign (.t rfl)) rfl <| .nil ?_)
      refine EndT.thenN ?_
      refine CodeT.seq ?_
      refine CodeT.region (.p (opMove (.t rfl)) rfl <| .p (opLen rfl Tryz.underlying198 (.le (.t rfl) (sliceV_nil 1 encU8))) rfl <| .p ((opConv Tryz.underlying3 Tryz.underlying36 (.t rfl)).le (VLe.int (show _ = (0 : Int) by decide))) rfl <| .n (opCallE (rest := []) (lput_spec) Tryz.cb102 (.cons (.c _) (.cons (.t rfl) .nil)) (Perm.idx [] rfl rfl)) rfl <| fun g34 h34 => .p (opAssign (.t rfl)) rfl <| .nil ?_)
      refine EndT.thenN ?_
      refine CodeT.seq ?_
      refine CodeT.seq ?_
      refine CodeT.region (.p (opMove (.t rfl)) rfl <| .p (opLen rfl Tryz.underlying198 (.le (.t rfl) (sliceV_nil 1 encU8))) rfl <| .p (opMove (.c _)) rfl <| .nil ?_)
      refine EndT.thenN ?_
      refine CodeT.block ?_
      refine CodeT.loopO (σ := Nat) (fun _ => _) (fun k => [(37, nV (k : Int))]) (fun k => k = 0) (fun k => 0) 0 rfl rfl ?_ ?_
      · exact (.get rfl (VLe.refl _) (.refl _ _))
      · rintro k hk
        refine CodeT.seq ?_
        refine CodeT.region (.p (opLss (.t rfl) (.t rfl)) rfl <| .nil ?_)
        refine EndT.thenN ?_
        refine CodeT.seq ?_
        refine CodeT.cond (.t rfl) (fun c2 => ?_) (fun c2 => ?_)
        ·
          exfalso; subst hk; revert c2; simp [modE, bodyE]
        ·
          refine CodeT.exit (EndT.thenX (EndT.thenX (EndT.blkX (EndT.thenN ?_))))
          refine CodeT.seq ?_
          refine CodeT.seq ?_
          refine CodeT.region (.p (opField Tryz.fd80_1 (.t rfl)) rfl <| .p (opLoad Tryz.ag78 (.t rfl)) rfl <| .p (opLen rfl Tryz.underlying78 (.t rfl)) rfl <| .p (opMove (.c _)) rfl <| .nil ?_)
          refine EndT.thenN ?_
          refine CodeT.block ?_
          refine CodeT.loopO (σ := Nat × SB) (fun s => [sliceH s.2 1 encU8 (putK s.1)]) (fun s => [(54, nV (s.1 : Int)), (8, exactV (sval s.2 (putK s.1).length))]) (fun s => s.1 ≤ 1) (fun s => 1 - s.1) (0, g34) (Nat.zero_le _) rfl ?_ ?_
          · exact (.get rfl (VLe.refl _) (.get rfl (VLe.refl _) (.refl _ _)))
          · rintro ⟨k, sb⟩ hk
            simp only at hk ⊢
            refine CodeT.seq ?_
            refine CodeT.region (.p (opLss (.t rfl) (.t rfl)) rfl <| .nil ?_)
            refine EndT.thenN ?_
            refine CodeT.seq ?_
            refine CodeT.cond (.t rfl) (fun c3 => ?_) (fun c3 => ?_)
            ·
              have hk0 : k = 0 := by (first | omega | (revert c3; simp [modE, bodyE]; try omega))
              subst hk0
              refine CodeT.skip (EndT.thenN ?_)
              refine CodeT.seq ?_
              refine CodeT.block ?_
              refine CodeT.seq ?_
              refine CodeT.region (.p (opIndexAddr (j := 0) Tryz.underlying78 Tryz.cz100 rfl (.t rfl) (.t rfl) rfl (show ([endI] : List InstrD)[0]? = some endI from rfl)) rfl <| .p (opLoadA Tryz.ag100 Tryz.cz100 rfl (.t rfl) rfl) rfl <| .n (opAlloc Tryz.zb100) rfl <| fun b12 _ => .s (opStoreOA (i := 0) Tryz.cz100 rfl (.t rfl) (.t rfl) rfl rfl rfl) <| .nil ?_)
              refine EndT.thenN ?_
              refine CodeT.share (t := 12) (i := 0) rfl rfl ?_
              refine CodeT.seq ?_
              refine CodeT.region (.p (opLoadA Tryz.ag100 Tryz.cz100 rfl (.t rfl) rfl) rfl <| .p (opCall (iencode_spec) Tryz.cb103 (.cons (.t rfl) .nil)) rfl <| .p (opMove (.t rfl)) rfl <| .p (opExtract (.t rfl) rfl) rfl <| .p (opExtract (.t rfl) rfl) rfl <| .p (opAssign (.t rfl)) rfl <| .p (opAssign (.t rfl)) rfl <| .nil ?_)
              refine EndT.thenN ?_
              refine CodeT.region (.p (opMove (.t rfl)) rfl <| .p (opMove (.t rfl)) rfl <| .n (opAppend (i := 0) (xs := [0]) (ys := [11]) Tryz.underlying32 Tryz.underlying32 Tryz.cz5 rfl Tryz.zb5 rfl Tryz.by5 (.t rfl) (.t rfl) rfl (by decide) (by decide)) rfl <| fun g65 _ => .p (opAssign (.t rfl)) rfl <| .nil ?_)
              refine EndT.blkN (EndT.thenN ?_)
              refine CodeT.region (.p (opAddF (.t rfl) (.c _) (fits_i64 (by omega) (by omega))) rfl <| .p (opMove (.t rfl)) rfl <| .nil ?_)
              refine EndT.round (1, g65) (Nat.le_refl _) (by show 1 - 1 < 1 - 0; decide) rfl ?_
              exact (.get rfl (VLe.refl _) (.get rfl (VLe.refl _) ((.keep 20 rfl rfl))))
            ·
              have hk1 : k = 1 := by (first | omega | (revert c3; simp [modE, bodyE]; try omega))
              subst hk1
              refine CodeT.exit (EndT.thenX (EndT.thenX (EndT.blkX (EndT.thenN ?_))))
              refine CodeT.seq ?_
              refine CodeT.seq ?_
              refine CodeT.region (.p (opMove (.t rfl)) rfl <| .p (opLenG (xs := putK 1) (i := 0) rfl Tryz.underlying32 (.t rfl) rfl) rfl <| .p (opGtr (.t rfl) (.c _)) rfl <| .nil ?_)
              refine EndT.thenN ?_
              refine CodeT.cond (.t rfl) (fun c4 => ?_) (fun c4 => ?_)
              ·
                exact absurd c4 (by decide)
              ·
                refine CodeT.skip (EndT.thenN ?_)
                refine CodeT.seq ?_
                refine CodeT.region (.p (opMove (.t rfl)) rfl <| .p (opAssign (.t rfl)) rfl <| .p (opAssign (.c _)) rfl <| .nil ?_)
                refine EndT.thenN ?_
                refine CodeT.ret (Post.retR rfl rfl () trivial (fun _ _ _ _ => trivial) rfl (.cons (.rt rfl) ?_ (.cons (.rt rfl) ?_ .nil)))
                · exact fun _ _ _ _ => trivial
                · exact VLe.refl _

end Go.Proofs.YtghmenjcnopibaaGreatDoor
