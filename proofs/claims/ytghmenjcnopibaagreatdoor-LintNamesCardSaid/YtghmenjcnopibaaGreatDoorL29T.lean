/-
  Walks, printed by a program (gen.py) out of what its author says of each function.
-/
import Derived.Test.YtghmenjcnopibaaGreatDoorL29U
namespace Go.Proofs.YtghmenjcnopibaaGreatDoor
open Go.Hl Go.RowKit
set_option linter.unusedVariables false
set_option maxRecDepth 100000

theorem growT_spec  : FnP Tryz.prog 108 [exactV (.slice none 0 0), nV 0] (emptyV) := by
  refine FnE.intro 27 Tryz.func108 rfl rfl rfl fun w0 S0 M => ?_
  refine CodeT.seq ?_
  refine CodeT.region (.p (opAssign (.c _)) rfl <| .nil ?_)
  refine EndT.thenN ?_
  refine CodeT.seq ?_
  refine CodeT.seq ?_
  refine CodeT.region (.p (opMove (.t rfl)) rfl <| .p (opLss (.t rfl) (.c _)) rfl <| .nil ?_)
  refine EndT.thenN ?_
  refine CodeT.cond (.t rfl) (fun c0 => ?_) (fun c0 => ?_)
  ·
    exact absurd c0 (by decide)
  ·
    refine CodeT.skip (EndT.thenN ?_)
    refine CodeT.seq ?_
    refine CodeT.seq ?_
    refine CodeT.region (.p (opMove (.t rfl)) rfl <| .p (opMove (.t rfl)) rfl <| .p (opCapE rfl Tryz.underlying74 (.le (.t rfl) emptyV_nil)) rfl <| .p (opMove (.t rfl)) rfl <| .p (opLen rfl Tryz.underlying74 (.le (.t rfl) (sliceV_nil 1 encU8))) rfl <| .p (opSubF (.t rfl) (.t rfl) (fits_i64 (by simp) (by simp))) rfl <| .p (opSubF (.t rfl) (.t rfl) (fits_i64 (by simp) (by simp))) rfl <| .p (opAssign (.t rfl)) rfl <| .nil ?_)
    refine EndT.thenN ?_
    refine CodeT.seq ?_
    refine CodeT.region (.p (opMove (.t rfl)) rfl <| .p (opGtr (.t rfl) (.c _)) rfl <| .nil ?_)
    refine EndT.thenN ?_
    refine CodeT.cond (.t rfl) (fun c1 => ?_) (fun c1 => ?_)
    ·
      exfalso; revert c1; simp
    ·
      refine CodeT.skip (EndT.thenN ?_)
      refine CodeT.seq ?_
      refine CodeT.region (.p (opMove (.t rfl)) rfl <| .p (opAssign (.t rfl)) rfl <| .nil ?_)
      refine EndT.thenN ?_
      refine CodeT.ret (Post.retP rfl rfl ?_)
      exact emptyV_nil

theorem concatT_spec  : FnP Tryz.prog 98 [sliceV 1 encSl ([[], []] : List (List UInt8))] (S0V) := by
  refine FnE.intro 36 Tryz.func98 rfl rfl rfl fun w0 S0 M => ?_
  refine CodeT.seq ?_
  refine CodeT.region (.p (opAssign (.c _)) rfl <| .nil ?_)
  refine EndT.thenN ?_
  refine CodeT.seq ?_
  refine CodeT.region (.p (opAssign (.c _)) rfl <| .nil ?_)
  refine EndT.thenN ?_
  refine CodeT.seq ?_
  refine CodeT.seq ?_
  refine CodeT.region (.p (opMove (.t rfl)) rfl <| .p (opLen rfl Tryz.underlying209 (.t rfl)) rfl <| .p (opMove (.c _)) rfl <| .nil ?_)
  refine EndT.thenN ?_
  refine CodeT.block ?_
  refine CodeT.loopO (σ := Nat) (fun _ => []) (fun k => [(11, nV (k : Int)), (3, nV 0)]) (fun k => k ≤ 2) (fun k => 2 - k) 0 (Nat.zero_le _) rfl ?_ ?_
  · exact (.get rfl (VLe.refl _) (.get rfl (VLe.refl _) (.refl _ _)))
  · rintro k hk
    refine CodeT.seq ?_
    refine CodeT.region (.p (opLss (.t rfl) (.t rfl)) rfl <| .nil ?_)
    refine EndT.thenN ?_
    refine CodeT.seq ?_
    refine CodeT.cond (.t rfl) (fun c0 => ?_) (fun c0 => ?_)
    ·
      have h2 : k < 2 := by (have h9 := c0; simp at h9; omega)
      have hx : ([[], []] : List (List UInt8))[k]? = some [] := by (match k, h2 with | 0, _ => rfl | 1, _ => rfl)
      refine CodeT.skip (EndT.thenN ?_)
      refine CodeT.seq ?_
      refine CodeT.block ?_
      refine CodeT.seq ?_
      refine CodeT.region (.p (opIndexAddr (j := k) Tryz.underlying209 Tryz.cz74 rfl (.t rfl) (.t rfl) rfl hx) rfl <| .p (opLoad Tryz.ag74 (.t rfl)) rfl <| .p (opAssign (.t rfl)) rfl <| .nil ?_)
      refine EndT.thenN ?_
      refine CodeT.seq ?_
      refine CodeT.region (.p (opMove (.t rfl)) rfl <| .p (opMove (.t rfl)) rfl <| .p (opLen rfl Tryz.underlying74 (.t rfl)) rfl <| .p (opAddF (.t rfl) (.t rfl) (fits_i64 (by simp) (by simp))) rfl <| .p (opAssign (.t rfl)) rfl <| .nil ?_)
      refine EndT.thenN ?_
      refine CodeT.seq ?_
      refine CodeT.region (.p (opMove (.t rfl)) rfl <| .p (opLss (.t rfl) (.c _)) rfl <| .nil ?_)
      refine EndT.thenN ?_
      refine CodeT.cond (.t rfl) (fun c1 => ?_) (fun c1 => ?_)
      ·
        exfalso; revert c1; simp
      ·
        refine CodeT.skip (EndT.blkN (EndT.thenN ?_))
        refine CodeT.region (.p (opAddF (.t rfl) (.c _) (fits_i64 (by omega) (by omega))) rfl <| .p (opMove (.t rfl)) rfl <| .nil ?_)
        refine EndT.round (k + 1) (by omega) (by omega) rfl ?_
        exact (.get rfl (VLe.int (by (show (k : Int) + 1 = ((k + 1 : Nat) : Int); omega))) (.get rfl (VLe.int (by simp)) ((.keep 15 rfl rfl))))
    ·
      refine CodeT.exit (EndT.thenX (EndT.thenX (EndT.blkX (EndT.thenN ?_))))
      refine CodeT.seq ?_
      refine CodeT.region (.p (opMove (.t rfl)) rfl <| .p ((opCall (growT_spec) Tryz.cb108 (.cons (.c _) (.cons (.t rfl) .nil))).le (VLe.refl _)) rfl <| .p (opAssign (.t rfl)) rfl <| .nil ?_)
      refine EndT.thenN ?_
      refine CodeT.seq ?_
      refine CodeT.seq ?_
      refine CodeT.region (.p (opMove (.t rfl)) rfl <| .p (opLen rfl Tryz.underlying209 (.t rfl)) rfl <| .p (opMove (.c _)) rfl <| .nil ?_)
      refine EndT.thenN ?_
      refine CodeT.block ?_
      refine CodeT.loopO (σ := Nat) (fun _ => []) (fun k => [(27, nV (k : Int)), (6, emptyV)]) (fun k => k ≤ 2) (fun k => 2 - k) 0 (Nat.zero_le _) rfl ?_ ?_
      · exact (.get rfl (VLe.refl _) (.get rfl (VLe.refl _) (.refl _ _)))
      · rintro k hk
        refine CodeT.seq ?_
        refine CodeT.region (.p (opLss (.t rfl) (.t rfl)) rfl <| .nil ?_)
        refine EndT.thenN ?_
        refine CodeT.seq ?_
        refine CodeT.cond (.t rfl) (fun c2 => ?_) (fun c2 => ?_)
        ·
          have h2 : k < 2 := by (have h9 := c2; simp at h9; omega)
          have hx : ([[], []] : List (List UInt8))[k]? = some [] := by (match k, h2 with | 0, _ => rfl | 1, _ => rfl)
          refine CodeT.skip (EndT.thenN ?_)
          refine CodeT.seq ?_
          refine CodeT.block ?_
          refine CodeT.seq ?_
          refine CodeT.region (.p (opIndexAddr (j := k) Tryz.underlying209 Tryz.cz74 rfl (.t rfl) (.t rfl) rfl hx) rfl <| .p (opLoad Tryz.ag74 (.t rfl)) rfl <| .p (opAssign (.t rfl)) rfl <| .nil ?_)
          refine EndT.thenN ?_
          refine CodeT.region (.p (opMove (.t rfl)) rfl <| .p (opMove (.t rfl)) rfl <| .p (opAppend0 (enc := encU8) Tryz.underlying74 Tryz.underlying74 Tryz.cz70 rfl (.t rfl) (.t rfl)) rfl <| .p (opAssign (.t rfl)) rfl <| .nil ?_)
          refine EndT.blkN (EndT.thenN ?_)
          refine CodeT.region (.p (opAddF (.t rfl) (.c _) (fits_i64 (by omega) (by omega))) rfl <| .p (opMove (.t rfl)) rfl <| .nil ?_)
          refine EndT.round (k + 1) (by omega) (by omega) rfl ?_
          exact (.get rfl (VLe.int (by (show (k : Int) + 1 = ((k + 1 : Nat) : Int); omega))) (.get rfl (VLe.refl _) ((.keep 12 rfl rfl))))
        ·
          refine CodeT.exit (EndT.thenX (EndT.thenX (EndT.blkX (EndT.thenN ?_))))
          refine CodeT.seq ?_
          refine CodeT.region (.p (opMove (.t rfl)) rfl <| .p (opAssign (.t rfl)) rfl <| .nil ?_)
          refine EndT.thenN ?_
          refine CodeT.ret (Post.retP rfl rfl ?_)
          exact emptyV_slice 1 encU8

theorem must_spec {p : Prop} {e : Int} (hp0 : p) : FnE Tryz.prog 145 [propV p, nV e] [] (γ := Unit) (fun _ => True) (fun _ => []) (fun _ => tupV []) := by
  refine FnE.intro 9 Tryz.func145 rfl rfl rfl fun w0 S0 M => ?_
  refine CodeT.seq ?_
  refine CodeT.region (.p (opMove (.t rfl)) rfl <| .p (opNot (.t rfl)) rfl <| .nil ?_)
  refine EndT.thenN ?_
  refine CodeT.cond (.t rfl) (fun c0 => ?_) (fun c0 => ?_)
  ·
    exact absurd hp0 c0
  ·
    refine CodeT.skip (Post.retR0 rfl (()) (by trivial) (fun _ _ _ h => h) rfl)

theorem ckpops_spec  : FnE Tryz.prog 139 [anyV, S0V] [] (γ := Unit) (fun _ => True) (fun _ => []) (fun _ => tupV []) := by
  refine FnE.intro 18 Tryz.func139 rfl rfl rfl fun w0 S0 M => ?_
  refine CodeT.seq ?_
  refine CodeT.region (.p (opMove (.t rfl)) rfl <| .p (opLen rfl Tryz.underlying74 (.t rfl)) rfl <| .p (opSubF (.t rfl) (.c _) (fits_i64 (by simp) (by simp))) rfl <| .p (opAssign (.t rfl)) rfl <| .nil ?_)
  refine EndT.thenN ?_
  refine CodeT.block ?_
  refine CodeT.loopO (σ := Unit) (fun _ => []) (fun _ => [(4, nV (-1))]) (fun _ => True) (fun _ => 0) () trivial rfl ?_ ?_
  · exact (.get rfl (VLe.int (by simp)) (.refl _ _))
  · rintro u _
    refine CodeT.seq ?_
    refine CodeT.seq ?_
    refine CodeT.region (.p (opMove (.t rfl)) rfl <| .p (opGeq (.t rfl) (.c _)) rfl <| .nil ?_)
    refine EndT.thenN ?_
    refine CodeT.cond (.t rfl) (fun c0 => ?_) (fun c0 => ?_)
    ·
      exact absurd c0 (by decide)
    ·
      refine CodeT.exit (EndT.thenX (EndT.thenX (EndT.blkX (Post.retR0 rfl (()) (by trivial) (fun _ _ _ h => h) rfl))))

theorem cktop_spec {cb : Nat} : FnE Tryz.prog 155 [addrV cb 0] [chkH cb emptyV B0V] (γ := Unit) (fun _ => True) (fun _ => [chkH cb emptyV B0V]) (fun _ => ptrV (encBk 0)) := by
  refine FnE.intro 14 Tryz.func155 rfl rfl rfl fun w0 S0 M => ?_
  refine CodeT.seq ?_
  refine CodeT.region (.p (opAssign (.c _)) rfl <| .nil ?_)
  refine EndT.thenN ?_
  refine CodeT.seq ?_
  refine CodeT.draw 10 2 Tryz.mixed (by kernel_rfl) (.p (opMove (.t rfl)) <| .p (opNilChkO (.t rfl)) <| .p (opFieldO Tryz.fd185_2 (.t rfl)) <| .p (opLoadO (i := 0) Tryz.ag183 (.t rfl) rfl rfl) <| .p (opMove (.t rfl)) <| .p (opNilChkO (.t rfl)) <| .p (opFieldO Tryz.fd185_2 (.t rfl)) <| .p (opLoadO (i := 0) Tryz.ag183 (.t rfl) rfl rfl) <| .p (opLen rfl Tryz.underlying183 (.t rfl)) <| .p (opSubF (.t rfl) (.c _) (fits_i64 (by simp) (by simp))) <| .nil) (.p (opIndexAddr (j := 0) Tryz.underlying183 Tryz.cz182 rfl (.t rfl) (.t rfl) (by simp) (show ([0] : List Int)[0]? = some 0 from rfl)) rfl <| .p (opAssign (.t rfl)) rfl <| .nil ?_)
  refine EndT.thenN ?_
  refine CodeT.ret (Post.retR1 rfl (()) (by trivial) (fun _ _ _ h => h) (.rt rfl) ?_)
  exact VLe.refl _

theorem ckclose_spec {cb : Nat} : FnE Tryz.prog 156 [addrV cb 0] [chkH cb emptyV B0V] (γ := Unit) (fun _ => True) (fun _ => [chkH cb emptyV B1V]) (fun _ => aggV (encBk 0)) := by
  refine FnE.intro 36 Tryz.func156 rfl rfl rfl fun w0 S0 M => ?_
  refine CodeT.seq ?_
  refine CodeT.region (.n (opAlloc Tryz.zb182) rfl <| fun b2 _ => .nil ?_)
  refine EndT.thenN ?_
  refine CodeT.seq ?_
  refine CodeT.region (.p (opMove (.t rfl)) rfl <| .n ((opCallE (rest := [_]) (cktop_spec) Tryz.cb155 (.cons (.t rfl) .nil) (Perm.idx [1, 0] rfl rfl)).same (fun _ _ => OLe.perm (Perm.idx [1, 0] rfl rfl)) (fun _ _ => VLe.refl _)) rfl <| fun _ _ => .p (opNilChk (.t rfl)) rfl <| .p (opLoadA Tryz.ag182 Tryz.cz182 rfl (.t rfl) rfl) rfl <| .n (opAlloc Tryz.zb182) rfl <| fun b3 _ => .s (opStoreOA (i := 0) Tryz.cz182 rfl (.t rfl) (.t rfl) rfl rfl rfl) <| .nil ?_)
  refine EndT.thenN ?_
  refine CodeT.share (t := 3) (i := 0) rfl rfl ?_
  refine CodeT.seq ?_
  refine CodeT.region (.p (opMove (.t rfl)) rfl <| .p (opField Tryz.fd182_2 (.t rfl)) rfl <| .p (opLoad Tryz.ag74 (.t rfl)) rfl <| .p (opCall (ckpops_spec) Tryz.cb139 (.cons (.le (.t rfl) (fun _ _ _ _ => trivial)) (.cons (.t rfl) .nil))) rfl <| .nil ?_)
  refine EndT.thenN ?_
  refine CodeT.seq ?_
  refine CodeT.draw 7 2 Tryz.mixed (by kernel_rfl) (.p (opMove (.t rfl)) <| .p (opNilChkO (.t rfl)) <| .p (opFieldO Tryz.fd185_1 (.t rfl)) <| .p (opLoadO (i := 1) Tryz.ag74 (.t rfl) rfl rfl) <| .p (opLen rfl Tryz.underlying74 (.le (.t rfl) (emptyV_slice 1 encU8))) <| .p (opField Tryz.fd182_3 (.t rfl)) <| .p (opLoad Tryz.ag3 (.t rfl)) <| .nil) (.p (opEql (.t rfl) (.t rfl)) rfl <| .p (opCall (must_spec (p := (([] : List UInt8).length : Int) = 0) rfl) Tryz.cb145 (.cons (.t rfl) (.cons (.c _) .nil))) rfl <| .nil ?_)
  refine EndT.thenN ?_
  refine CodeT.seq ?_
  refine CodeT.draw 12 3 Tryz.mixed (by kernel_rfl) (.p (opMove (.t rfl)) <| .p (opMove (.t rfl)) <| .p (opNilChkO (.t rfl)) <| .p (opFieldO Tryz.fd185_2 (.t rfl)) <| .p (opLoadO (i := 1) Tryz.ag183 (.t rfl) rfl rfl) <| .p (opMove (.t rfl)) <| .p (opNilChkO (.t rfl)) <| .p (opFieldO Tryz.fd185_2 (.t rfl)) <| .p (opLoadO (i := 1) Tryz.ag183 (.t rfl) rfl rfl) <| .p (opLen rfl Tryz.underlying183 (.t rfl)) <| .p (opSubF (.t rfl) (.c _) (fits_i64 (by simp) (by simp))) <| .p (opSliceHi (h := 0) Tryz.underlying183 Tryz.cz182 rfl (.t rfl) (.t rfl) (by simp) (Nat.zero_le _)) <| .nil) (.p (opNilChkO (.t rfl)) rfl <| .p (opFieldO Tryz.fd185_2 (.t rfl)) rfl <| .s (opStoreO (i := 1) Tryz.cz183 (.t rfl) (.t rfl) rfl rfl) <| .nil ?_)
  refine EndT.thenN ?_
  refine CodeT.seq ?_
  refine CodeT.region (.p (opLoadA Tryz.ag182 Tryz.cz182 rfl (.t rfl) rfl) rfl <| .s (opStoreOA (i := 0) Tryz.cz182 rfl (.t rfl) (.t rfl) rfl rfl rfl) <| .nil ?_)
  refine EndT.thenN ?_
  refine CodeT.ret (Post.retR1 rfl (()) (by trivial) (OLe.sel [1] [0] rfl rfl) (.ra (i := 0) Tryz.ag182 Tryz.cz182 rfl rfl rfl rfl) ?_)
  exact VLe.refl _

theorem ckpush_spec {cb : Nat} {bl : VP} : FnE Tryz.prog 141 [addrV cb 0, S0V] [chkH cb emptyV bl] (γ := Unit) (fun _ => True) (fun _ => [chkH cb S0V bl]) (fun _ => tupV []) := by
  refine FnE.intro 13 Tryz.func141 rfl rfl rfl fun w0 S0 M => ?_
  refine CodeT.region (.p (opMove (.t rfl)) rfl <| .p (opMove (.t rfl)) rfl <| .p (opNilChkO (.t rfl)) rfl <| .p (opFieldO Tryz.fd185_1 (.t rfl)) rfl <| .p (opLoadO (i := 0) Tryz.ag74 (.t rfl) rfl rfl) rfl <| .p (opMove (.t rfl)) rfl <| .p (opAppendE Tryz.underlying74 Tryz.underlying74 Tryz.cz70 rfl Tryz.zb70 rfl Tryz.by70 (.t rfl) (.t rfl) (by decide)) rfl <| .p (opNilChkO (.t rfl)) rfl <| .p (opFieldO Tryz.fd185_1 (.t rfl)) rfl <| .s (opStoreO (i := 0) Tryz.cz74 (.t rfl) (.t rfl) rfl rfl) <| .nil ?_)
  refine Post.retR0 rfl (()) (by trivial) (fun _ _ _ h => h) rfl

theorem ckend_spec {cb : Nat} : FnE Tryz.prog 138 [addrV cb 0] [chkH cb emptyV B0V] (γ := Unit) (fun _ => True) (fun _ => [chkH cb S0V B1V]) (fun _ => tupV []) := by
  refine FnE.intro 19 Tryz.func138 rfl rfl rfl fun w0 S0 M => ?_
  refine CodeT.seq ?_
  refine CodeT.region (.p (opMove (.t rfl)) rfl <| .n (opCallE (rest := []) (ckclose_spec) Tryz.cb156 (.cons (.t rfl) .nil) (Perm.idx [0] rfl rfl)) rfl <| fun g4 h4 => .n (opAlloc Tryz.zb182) rfl <| fun b2 _ => .s (opStoreOA (i := 0) Tryz.cz182 rfl (.t rfl) (.t rfl) rfl rfl rfl) <| .nil ?_)
  refine EndT.thenN ?_
  refine CodeT.share (t := 2) (i := 0) rfl rfl ?_
  refine CodeT.seq ?_
  refine CodeT.region (.p (opField Tryz.fd182_1 (.t rfl)) rfl <| .p (opLoad Tryz.ag4 (.t rfl)) rfl <| .p (opNot (.t rfl)) rfl <| .p (opMove (.t rfl)) rfl <| .g (OpG.gF rfl rfl rfl rfl (fun hg => opField Tryz.fd182_2 (.t rfl))) rfl rfl <| .g (OpG.gF rfl rfl rfl rfl (fun hg => opLoad Tryz.ag74 (.when (.t rfl) hg))) rfl rfl <| .g (OpG.gF rfl rfl rfl rfl (fun hg => opLen rfl Tryz.underlying74 (.when (.t rfl) hg))) rfl rfl <| .g (OpG.gF rfl rfl rfl rfl (fun hg => opEql (.when (.t rfl) hg) (.c _))) rfl rfl <| .p (opOr (.t rfl) (.t rfl)) rfl <| .p (opCall (must_spec (p := ¬ False ∨ (([] : List UInt8).length : Int) = 0) (.inl (fun h => h))) Tryz.cb145 (.cons (.t rfl) (.cons (.c _) .nil))) rfl <| .nil ?_)
  refine EndT.thenN ?_
  refine CodeT.region (.p (opMove (.t rfl)) rfl <| .p (opField Tryz.fd182_2 (.t rfl)) rfl <| .p (opLoad Tryz.ag74 (.t rfl)) rfl <| .n (opCallE (rest := []) (ckpush_spec) Tryz.cb141 (.cons (.t rfl) (.cons (.t rfl) .nil)) (Perm.idx [0] rfl rfl)) rfl <| fun g18 h18 => .nil ?_)
  refine Post.retR0 rfl (()) (by trivial) (fun _ _ _ h => h) rfl

theorem ckcontrol_spec {cb : Nat} : FnE Tryz.prog 119 [addrV cb 0, aggV (encInstr endI)] [chkH cb emptyV B0V] (γ := Unit) (fun _ => True) (fun _ => [chkH cb S0V B1V]) (fun _ => propV True) := by
  refine FnE.intro 74 Tryz.func119 rfl rfl rfl fun w0 S0 M => ?_
  refine CodeT.seq ?_
  refine CodeT.region (.p (opBoxA (.t rfl)) rfl <| .p (opAssign .cf) rfl <| .nil ?_)
  refine EndT.thenN ?_
  refine CodeT.seq ?_
  refine CodeT.seq ?_
  refine CodeT.region (.p (opField Tryz.fd100_0 (.t rfl)) rfl <| .p (opLoad Tryz.ag3 (.t rfl)) rfl <| .nil ?_)
  refine EndT.thenN ?_
  refine CodeT.block ?_
  refine CodeT.seq ?_
  refine CodeT.region (.p (opEql (.t rfl) (.c _)) rfl <| .p (opAssign (.t rfl)) rfl <| .nil ?_)
  refine EndT.thenN ?_
  refine CodeT.cond (.t rfl) (fun c0 => ?_) (fun c0 => ?_)
  ·
    exact absurd c0 (by decide)
  ·
    refine CodeT.seq ?_
    refine CodeT.region (.p (opEql (.t rfl) (.c _)) rfl <| .p (opAssign (.t rfl)) rfl <| .nil ?_)
    refine EndT.thenN ?_
    refine CodeT.cond (.t rfl) (fun c1 => ?_) (fun c1 => ?_)
    ·
      exact absurd c1 (by decide)
    ·
      refine CodeT.seq ?_
      refine CodeT.seq ?_
      refine CodeT.region (.p (opEql (.t rfl) (.c _)) rfl <| .p (opAssign (.t rfl)) rfl <| .nil ?_)
      refine EndT.thenN ?_
      refine CodeT.cond (.t rfl) (fun c2 => ?_) (fun c2 => ?_)
      ·
        exact absurd c2 (by decide)
      ·
        refine CodeT.region (.p (opEql (.t rfl) (.c _)) rfl <| .p (opAssign (.t rfl)) rfl <| .nil ?_)
        refine EndT.thenN ?_
        refine CodeT.cond (.t rfl) (fun c3 => ?_) (fun c3 => ?_)
        ·
          exact absurd c3 (by decide)
        ·
          refine CodeT.seq ?_
          refine CodeT.region (.p (opEql (.t rfl) (.c _)) rfl <| .p (opAssign (.t rfl)) rfl <| .nil ?_)
          refine EndT.thenN ?_
          refine CodeT.cond (.t rfl) (fun c4 => ?_) (fun c4 => ?_)
          ·
            exact absurd c4 (by decide)
          ·
            refine CodeT.seq ?_
            refine CodeT.region (.p (opEql (.t rfl) (.c _)) rfl <| .p (opAssign (.t rfl)) rfl <| .nil ?_)
            refine EndT.thenN ?_
            refine CodeT.cond (.t rfl) (fun c5 => ?_) (fun c5 => ?_)
            ·
              refine CodeT.region (.p (opMove (.t rfl)) rfl <| .n (opCallE (rest := []) (ckend_spec) Tryz.cb138 (.cons (.t rfl) .nil) (Perm.idx [0] rfl rfl)) rfl <| fun g32 h32 => .nil ?_)
              refine EndT.blkN (EndT.thenN ?_)
              refine CodeT.seq ?_
              refine CodeT.region (.p (opAssign .ct) rfl <| .nil ?_)
              refine EndT.thenN ?_
              refine CodeT.ret (Post.retR1 rfl (()) (by trivial) (fun _ _ _ h => h) (.rt rfl) ?_)
              exact VLe.refl _
            ·
              exact absurd rfl c5

theorem ckstep_spec {cb : Nat} : FnE Tryz.prog 105 [addrV cb 0, aggV (encInstr endI)] [chkH cb emptyV B0V] (γ := Unit) (fun _ => True) (fun _ => [chkH cb S0V B1V]) (fun _ => tupV []) := by
  refine FnE.intro 54 Tryz.func105 rfl rfl rfl fun w0 S0 M => ?_
  obtain ⟨i11, hf11, hf0⟩ := find11
  refine CodeT.seq ?_
  refine CodeT.region (.p (opBoxA (.t rfl)) rfl <| .nil ?_)
  refine EndT.thenN ?_
  refine CodeT.seq ?_
  refine CodeT.region (.p (opField Tryz.fd100_0 (.t rfl)) rfl <| .p (opLoad Tryz.ag3 (.t rfl)) rfl <| .p (opCall (find_spec (code := 11)) Tryz.cb31 (.cons (.t rfl) .nil)) rfl <| .p (opMove (.t rfl)) rfl <| .p (opExtract (.t rfl) rfl) rfl <| .p (opExtract (.t rfl) rfl) rfl <| .n (opAlloc Tryz.zb109) rfl <| fun b4 _ => .s (opStoreOA (i := 0) Tryz.cz109 rfl (.t rfl) (.t rfl) rfl rfl rfl) <| .p (opAssign (.t rfl)) rfl <| .nil ?_)
  refine EndT.thenN ?_
  refine CodeT.share (t := 4) (i := 0) rfl rfl ?_
  refine CodeT.block ?_
  refine CodeT.seq ?_
  refine CodeT.region (.p (opMove (.t rfl)) rfl <| .p (OpP.le (opLoadA Tryz.ag100 Tryz.cz100 rfl (.t rfl) rfl) (VLe.refl (aggV (encInstr endI)))) rfl <| .n (opCallE (rest := []) (ckcontrol_spec) Tryz.cb119 (.cons (.t rfl) (.cons (.t rfl) .nil)) (Perm.idx [0] rfl rfl)) rfl <| fun g22 h22 => .p (opMove (.t rfl)) rfl <| .g (OpG.gF rfl rfl rfl rfl (fun hg => opMove (.t rfl))) rfl rfl <| .g (OpG.gF rfl rfl rfl rfl (fun hg => OpP.le (opLoadA Tryz.ag100 Tryz.cz100 rfl (.t rfl) rfl) (VLe.refl (aggV (encInstr endI))))) rfl rfl <| .g (OpG.gF rfl rfl rfl rfl (fun hg => opNo (q := propV True) (hg trivial))) rfl rfl <| .p (opOr (.t rfl) (.t rfl)) rfl <| .p (opMove (.t rfl)) rfl <| .g (OpG.gF rfl rfl rfl rfl (fun hg => opMove (.t rfl))) rfl rfl <| .g (OpG.gF rfl rfl rfl rfl (fun hg => OpP.le (opLoadA Tryz.ag100 Tryz.cz100 rfl (.t rfl) rfl) (VLe.refl (aggV (encInstr endI))))) rfl rfl <| .g (OpG.gF rfl rfl rfl rfl (fun hg => opNo (q := propV True) (hg (.inl trivial)))) rfl rfl <| .p (opOr (.t rfl) (.t rfl)) rfl <| .p (opAssign (.t rfl)) rfl <| .nil ?_)
  refine EndT.thenN ?_
  refine CodeT.cond (.t rfl) (fun c0 => ?_) (fun c0 => ?_)
  ·
    refine CodeT.skip (EndT.blkN (Post.retR0 rfl (()) (by trivial) (fun _ _ _ h => h) rfl))
  ·
    exact absurd (.inl (.inl trivial)) c0

end Go.Proofs.YtghmenjcnopibaaGreatDoor
