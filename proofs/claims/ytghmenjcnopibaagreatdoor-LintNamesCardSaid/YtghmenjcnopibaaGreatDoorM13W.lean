/-
  Walks, printed by a program (gen.py) out of what its author says of each function.
-/
import Derived.Test.YtghmenjcnopibaaGreatDoorHlD
import Derived.Test.YtghmenjcnopibaaGreatDoorTab
import Derived.Test.YtghmenjcnopibaaGreatDoorM13B
namespace Go.Proofs.YtghmenjcnopibaaGreatDoor
open Go.Hl Go.RowKit
set_option linter.unusedVariables false
set_option maxRecDepth 100000

theorem has_spec {n m : Int} : FnP Tryz.prog 39 [intV .i64 n, intV .i64 m] (propV (InP n m)) := by
  refine FnE.intro 12 Tryz.func39 rfl rfl rfl fun w0 S0 M => ?_
  refine CodeT.seq ?_
  refine CodeT.region (.p (opAssign .cf) rfl <| .nil ?_)
  refine EndT.thenN ?_
  refine CodeT.seq ?_
  refine CodeT.region (.p (opMove (.t rfl)) rfl <| .p (opGeq (.t rfl) (.c _)) rfl <| .p (opMove (.t rfl)) rfl <| .g (OpG.gT rfl rfl rfl rfl (fun hg => opMove (.t rfl))) rfl rfl <| .g (OpG.gT rfl rfl rfl rfl (fun hg => opMove (.t rfl))) rfl rfl <| .g (OpG.gT rfl rfl rfl rfl (fun hg => opLss (.when (.t rfl) hg) (.when (.t rfl) hg))) rfl rfl <| .p (opAnd (.t rfl) (.t rfl)) rfl <| .p (opAssign (.t rfl)) rfl <| .nil ?_)
  refine EndT.thenN ?_
  refine CodeT.ret (Post.retP rfl rfl ?_)
  first | exact VLe.refl _ | exact VLe.int (by omega) | exact VLe.prop (by omega) | exact VLe.prop (by simp_all) | exact VLe.prop (by simp; omega)

theorem when_spec {p : Prop} {e : Int} : FnP Tryz.prog 73 [propV p, intV .i64 e] (intV .i64 (whenE p e)) := by
  refine FnE.intro 7 Tryz.func73 rfl rfl rfl fun w0 S0 M => ?_
  refine CodeT.seq ?_
  refine CodeT.region (.p (opAssign (.c _)) rfl <| .nil ?_)
  refine EndT.thenN ?_
  refine CodeT.seq ?_
  refine CodeT.seq ?_
  refine CodeT.region (.p (opMove (.t rfl)) rfl <| .nil ?_)
  refine EndT.thenN ?_
  refine CodeT.cond (.t rfl) (fun c0 => ?_) (fun c0 => ?_)
  ·
    refine CodeT.seq ?_
    refine CodeT.region (.p (opMove (.t rfl)) rfl <| .p (opAssign (.t rfl)) rfl <| .nil ?_)
    refine EndT.thenN ?_
    refine CodeT.ret (EndT.thenR (Post.retP rfl rfl ?_))
    exact VLe.int (by simp [whenE, *])
  ·
    refine CodeT.skip (EndT.thenN ?_)
    refine CodeT.seq ?_
    refine CodeT.region (.p (opAssign (.c _)) rfl <| .nil ?_)
    refine EndT.thenN ?_
    refine CodeT.ret (Post.retP rfl rfl ?_)
    exact VLe.int (by simp [whenE, *])

theorem bits_spec {t : UInt8} : FnP Tryz.prog 82 [intV .u8 (t.toNat : Int)] (intV .i64 (bitsI t)) := by
  refine FnE.intro 8 Tryz.func82 rfl rfl rfl fun w0 S0 M => ?_
  refine CodeT.seq ?_
  refine CodeT.region (.p (opAssign (.c _)) rfl <| .nil ?_)
  refine EndT.thenN ?_
  refine CodeT.seq ?_
  refine CodeT.seq ?_
  refine CodeT.region (.p (opMove (.t rfl)) rfl <| .nil ?_)
  refine EndT.thenN ?_
  refine CodeT.block ?_
  refine CodeT.seq ?_
  refine CodeT.region (.p (opEql (.t rfl) (.c _)) rfl <| .p (opAssign (.t rfl)) rfl <| .nil ?_)
  refine EndT.thenN ?_
  refine CodeT.cond (.t rfl) (fun c0 => ?_) (fun c0 => ?_)
  ·
    refine CodeT.seq ?_
    refine CodeT.region (.p (opAssign (.c _)) rfl <| .nil ?_)
    refine EndT.thenN ?_
    refine CodeT.ret (EndT.blkR (EndT.thenR (Post.retP rfl rfl ?_)))
    exact VLe.int (by simp [bitsI, *])
  ·
    refine CodeT.seq ?_
    refine CodeT.region (.p (opEql (.t rfl) (.c _)) rfl <| .p (opAssign (.t rfl)) rfl <| .nil ?_)
    refine EndT.thenN ?_
    refine CodeT.cond (.t rfl) (fun c1 => ?_) (fun c1 => ?_)
    ·
      refine CodeT.seq ?_
      refine CodeT.region (.p (opAssign (.c _)) rfl <| .nil ?_)
      refine EndT.thenN ?_
      refine CodeT.ret (EndT.blkR (EndT.thenR (Post.retP rfl rfl ?_)))
      exact VLe.int (by simp [bitsI, *])
    ·
      refine CodeT.skip (EndT.blkN (EndT.thenN ?_))
      refine CodeT.seq ?_
      refine CodeT.region (.p (opAssign (.c _)) rfl <| .nil ?_)
      refine EndT.thenN ?_
      refine CodeT.ret (Post.retP rfl rfl ?_)
      exact VLe.int (by simp [bitsI, *])

theorem fewc_spec {t : UInt8} : FnP Tryz.prog 107 [intV .u8 (t.toNat : Int)] (propV (bitsI t = 0)) := by
  refine FnE.intro 6 Tryz.func107 rfl rfl rfl fun w0 S0 M => ?_
  refine CodeT.seq ?_
  refine CodeT.region (.p (opAssign .cf) rfl <| .nil ?_)
  refine EndT.thenN ?_
  refine CodeT.seq ?_
  refine CodeT.region (.p (opMove (.t rfl)) rfl <| .p (opCall (bits_spec) Tryz.cb82 (.cons (.t rfl) .nil)) rfl <| .p (opEql (.t rfl) (.c _)) rfl <| .p (opAssign (.t rfl)) rfl <| .nil ?_)
  refine EndT.thenN ?_
  refine CodeT.ret (Post.retP rfl rfl ?_)
  first | exact VLe.refl _ | exact VLe.int (by omega) | exact VLe.prop (by omega) | exact VLe.prop (by simp_all) | exact VLe.prop (by simp; omega)

theorem idxType_spec {l : List UInt8} {p : UInt8 → Prop} : FnP Tryz.prog 125 [sliceV 1 encU8 l, funV Tryz.prog (fun _ : UInt8 => True) (fun x => [intV .u8 (x.toNat : Int)]) (fun x => propV (p x))] (intV .i64 (idxF p l)) := by
  refine FnE.intro 19 Tryz.func125 rfl rfl rfl fun w0 S0 M => ?_
  refine CodeT.fact (t := 0) rfl (fun S w v h => sliceV_len h) fun hlen => ?_
  refine CodeT.seq ?_
  refine CodeT.region (.p (opAssign (.c _)) rfl <| .nil ?_)
  refine EndT.thenN ?_
  refine CodeT.seq ?_
  refine CodeT.seq ?_
  refine CodeT.region (.p (opMove (.t rfl)) rfl <| .p (opLen rfl Tryz.underlying74 (.t rfl)) rfl <| .p (opMove (.c _)) rfl <| .nil ?_)
  refine EndT.thenN ?_
  refine CodeT.block ?_
  refine CodeT.loopO (σ := Nat) (fun _ => []) (fun k => [(8, intV .i64 (k : Int))]) (fun k => k ≤ l.length ∧ NotB p l k) (fun k => l.length - k) 0 ⟨by omega, NotB.zero p l⟩ rfl ?_ ?_
  · exact (.get rfl (VLe.refl _) (.refl _ _))
  · rintro k ⟨hk, hnot⟩
    refine CodeT.seq ?_
    refine CodeT.region (.p (opLss (.t rfl) (.t rfl)) rfl <| .nil ?_)
    refine EndT.thenN ?_
    refine CodeT.seq ?_
    refine CodeT.cond (.t rfl) (fun c0 => ?_) (fun c0 => ?_)
    ·
      obtain ⟨x, hx⟩ := getElem?_lt (xs := l) (k := k) (by omega)
      refine CodeT.skip (EndT.thenN ?_)
      refine CodeT.seq ?_
      refine CodeT.block ?_
      refine CodeT.seq ?_
      refine CodeT.region (.p (opMove (.t rfl)) rfl <| .p (opAssign (.t rfl)) rfl <| .nil ?_)
      refine EndT.thenN ?_
      refine CodeT.seq ?_
      refine CodeT.region (.p (opMove (.t rfl)) rfl <| .p (opMove (.t rfl)) rfl <| .p (opMove (.t rfl)) rfl <| .p (opIndexAddr Tryz.underlying74 Tryz.cz70 rfl (.t rfl) (.t rfl) rfl (by assumption)) rfl <| .p (opLoad Tryz.ag70 (.t rfl)) rfl <| .p (opCallV x (.t rfl) trivial (.cons (.t rfl) .nil)) rfl <| .nil ?_)
      refine EndT.thenN ?_
      refine CodeT.cond (.t rfl) (fun c1 => ?_) (fun c1 => ?_)
      ·
        refine CodeT.seq ?_
        refine CodeT.region (.p (opMove (.t rfl)) rfl <| .p (opAssign (.t rfl)) rfl <| .nil ?_)
        refine EndT.thenN ?_
        refine CodeT.ret (EndT.blkR (EndT.thenR (EndT.thenR (EndT.blkR (EndT.thenR (Post.retP rfl rfl ?_))))))
        exact VLe.int (idxF_at hx (by assumption) hnot).symm
      ·
        refine CodeT.skip (EndT.blkN (EndT.thenN ?_))
        refine CodeT.region (.p (opAddF (.t rfl) (.c _) (fits_i64 (by omega) (by omega))) rfl <| .p (opMove (.t rfl)) rfl <| .nil ?_)
        refine EndT.round (k + 1) ⟨by omega, hnot.succ hx (by assumption)⟩ (by omega) rfl ?_
        exact (.get rfl (VLe.int (by omega)) (.keep 12 rfl rfl))
    ·
      refine CodeT.exit (EndT.thenX (EndT.thenX (EndT.blkX (EndT.thenN ?_))))
      refine CodeT.seq ?_
      refine CodeT.region (.p (opAssign (.c _)) rfl <| .nil ?_)
      refine EndT.thenN ?_
      refine CodeT.ret (Post.retP rfl rfl ?_)
      exact VLe.int (idxF_none (hnot.all (by omega))).symm

theorem conType_spec {l : List UInt8} {p : UInt8 → Prop} : FnP Tryz.prog 106 [sliceV 1 encU8 l, funV Tryz.prog (fun _ : UInt8 => True) (fun x => [intV .u8 (x.toNat : Int)]) (fun x => propV (p x))] (propV (∃ x ∈ l, p x)) := by
  refine FnE.intro 9 Tryz.func106 rfl rfl rfl fun w0 S0 M => ?_
  refine CodeT.seq ?_
  refine CodeT.region (.p (opAssign .cf) rfl <| .nil ?_)
  refine EndT.thenN ?_
  refine CodeT.seq ?_
  refine CodeT.region (.p (opMove (.t rfl)) rfl <| .p (opMove (.t rfl)) rfl <| .p (opCall (idxType_spec) Tryz.cb125 (.cons (.t rfl) (.cons (.t rfl) .nil))) rfl <| .p (opGeq (.t rfl) (.c _)) rfl <| .p (opAssign (.t rfl)) rfl <| .nil ?_)
  refine EndT.thenN ?_
  refine CodeT.ret (Post.retP rfl rfl ?_)
  exact VLe.prop idxF_nonneg

theorem idxInt_spec {l : List Int} {p : Int → Prop} : FnP Tryz.prog 97 [sliceV 1 encInt l, funV Tryz.prog (fun _ : Int => True) (fun x => [intV .i64 x]) (fun x => propV (p x))] (intV .i64 (idxF p l)) := by
  refine FnE.intro 19 Tryz.func97 rfl rfl rfl fun w0 S0 M => ?_
  refine CodeT.fact (t := 0) rfl (fun S w v h => sliceV_len h) fun hlen => ?_
  refine CodeT.seq ?_
  refine CodeT.region (.p (opAssign (.c _)) rfl <| .nil ?_)
  refine EndT.thenN ?_
  refine CodeT.seq ?_
  refine CodeT.seq ?_
  refine CodeT.region (.p (opMove (.t rfl)) rfl <| .p (opLen rfl Tryz.underlying93 (.t rfl)) rfl <| .p (opMove (.c _)) rfl <| .nil ?_)
  refine EndT.thenN ?_
  refine CodeT.block ?_
  refine CodeT.loopO (σ := Nat) (fun _ => []) (fun k => [(8, intV .i64 (k : Int))]) (fun k => k ≤ l.length ∧ NotB p l k) (fun k => l.length - k) 0 ⟨by omega, NotB.zero p l⟩ rfl ?_ ?_
  · exact (.get rfl (VLe.refl _) (.refl _ _))
  · rintro k ⟨hk, hnot⟩
    refine CodeT.seq ?_
    refine CodeT.region (.p (opLss (.t rfl) (.t rfl)) rfl <| .nil ?_)
    refine EndT.thenN ?_
    refine CodeT.seq ?_
    refine CodeT.cond (.t rfl) (fun c0 => ?_) (fun c0 => ?_)
    ·
      obtain ⟨x, hx⟩ := getElem?_lt (xs := l) (k := k) (by omega)
      refine CodeT.skip (EndT.thenN ?_)
      refine CodeT.seq ?_
      refine CodeT.block ?_
      refine CodeT.seq ?_
      refine CodeT.region (.p (opMove (.t rfl)) rfl <| .p (opAssign (.t rfl)) rfl <| .nil ?_)
      refine EndT.thenN ?_
      refine CodeT.seq ?_
      refine CodeT.region (.p (opMove (.t rfl)) rfl <| .p (opMove (.t rfl)) rfl <| .p (opMove (.t rfl)) rfl <| .p (opIndexAddr Tryz.underlying93 Tryz.cz3 rfl (.t rfl) (.t rfl) rfl (by assumption)) rfl <| .p (opLoad Tryz.ag3 (.t rfl)) rfl <| .p (opCallV x (.t rfl) trivial (.cons (.t rfl) .nil)) rfl <| .nil ?_)
      refine EndT.thenN ?_
      refine CodeT.cond (.t rfl) (fun c1 => ?_) (fun c1 => ?_)
      ·
        refine CodeT.seq ?_
        refine CodeT.region (.p (opMove (.t rfl)) rfl <| .p (opAssign (.t rfl)) rfl <| .nil ?_)
        refine EndT.thenN ?_
        refine CodeT.ret (EndT.blkR (EndT.thenR (EndT.thenR (EndT.blkR (EndT.thenR (Post.retP rfl rfl ?_))))))
        exact VLe.int (idxF_at hx (by assumption) hnot).symm
      ·
        refine CodeT.skip (EndT.blkN (EndT.thenN ?_))
        refine CodeT.region (.p (opAddF (.t rfl) (.c _) (fits_i64 (by omega) (by omega))) rfl <| .p (opMove (.t rfl)) rfl <| .nil ?_)
        refine EndT.round (k + 1) ⟨by omega, hnot.succ hx (by assumption)⟩ (by omega) rfl ?_
        exact (.get rfl (VLe.int (by omega)) (.keep 12 rfl rfl))
    ·
      refine CodeT.exit (EndT.thenX (EndT.thenX (EndT.blkX (EndT.thenN ?_))))
      refine CodeT.seq ?_
      refine CodeT.region (.p (opAssign (.c _)) rfl <| .nil ?_)
      refine EndT.thenN ?_
      refine CodeT.ret (Post.retP rfl rfl ?_)
      exact VLe.int (idxF_none (hnot.all (by omega))).symm

theorem conInt_spec {l : List Int} {p : Int → Prop} : FnP Tryz.prog 88 [sliceV 1 encInt l, funV Tryz.prog (fun _ : Int => True) (fun x => [intV .i64 x]) (fun x => propV (p x))] (propV (∃ x ∈ l, p x)) := by
  refine FnE.intro 9 Tryz.func88 rfl rfl rfl fun w0 S0 M => ?_
  refine CodeT.seq ?_
  refine CodeT.region (.p (opAssign .cf) rfl <| .nil ?_)
  refine EndT.thenN ?_
  refine CodeT.seq ?_
  refine CodeT.region (.p (opMove (.t rfl)) rfl <| .p (opMove (.t rfl)) rfl <| .p (opCall (idxInt_spec) Tryz.cb97 (.cons (.t rfl) (.cons (.t rfl) .nil))) rfl <| .p (opGeq (.t rfl) (.c _)) rfl <| .p (opAssign (.t rfl)) rfl <| .nil ?_)
  refine EndT.thenN ?_
  refine CodeT.ret (Post.retP rfl rfl ?_)
  exact VLe.prop idxF_nonneg

theorem idxExport_spec {l : List ExportD} {p : ExportD → Prop} : FnP Tryz.prog 96 [sliceV 3 encExport l, funV Tryz.prog (fun _ : ExportD => True) (fun x => [aggV (encExport x)]) (fun x => propV (p x))] (intV .i64 (idxF p l)) := by
  refine FnE.intro 19 Tryz.func96 rfl rfl rfl fun w0 S0 M => ?_
  refine CodeT.fact (t := 0) rfl (fun S w v h => sliceV_len h) fun hlen => ?_
  refine CodeT.seq ?_
  refine CodeT.region (.p (opAssign (.c _)) rfl <| .nil ?_)
  refine EndT.thenN ?_
  refine CodeT.seq ?_
  refine CodeT.seq ?_
  refine CodeT.region (.p (opMove (.t rfl)) rfl <| .p (opLen rfl Tryz.underlying49 (.t rfl)) rfl <| .p (opMove (.c _)) rfl <| .nil ?_)
  refine EndT.thenN ?_
  refine CodeT.block ?_
  refine CodeT.loopO (σ := Nat) (fun _ => []) (fun k => [(8, intV .i64 (k : Int))]) (fun k => k ≤ l.length ∧ NotB p l k) (fun k => l.length - k) 0 ⟨by omega, NotB.zero p l⟩ rfl ?_ ?_
  · exact (.get rfl (VLe.refl _) (.refl _ _))
  · rintro k ⟨hk, hnot⟩
    refine CodeT.seq ?_
    refine CodeT.region (.p (opLss (.t rfl) (.t rfl)) rfl <| .nil ?_)
    refine EndT.thenN ?_
    refine CodeT.seq ?_
    refine CodeT.cond (.t rfl) (fun c0 => ?_) (fun c0 => ?_)
    ·
      obtain ⟨x, hx⟩ := getElem?_lt (xs := l) (k := k) (by omega)
      refine CodeT.skip (EndT.thenN ?_)
      refine CodeT.seq ?_
      refine CodeT.block ?_
      refine CodeT.seq ?_
      refine CodeT.region (.p (opMove (.t rfl)) rfl <| .p (opAssign (.t rfl)) rfl <| .nil ?_)
      refine EndT.thenN ?_
      refine CodeT.seq ?_
      refine CodeT.region (.p (opMove (.t rfl)) rfl <| .p (opMove (.t rfl)) rfl <| .p (opMove (.t rfl)) rfl <| .p (opIndexAddr Tryz.underlying49 Tryz.cz90 rfl (.t rfl) (.t rfl) rfl (by assumption)) rfl <| .p (opLoadA Tryz.ag90 Tryz.cz90 rfl (.t rfl) rfl) rfl <| .p (opCallV x (.t rfl) trivial (.cons (.t rfl) .nil)) rfl <| .nil ?_)
      refine EndT.thenN ?_
      refine CodeT.cond (.t rfl) (fun c1 => ?_) (fun c1 => ?_)
      ·
        refine CodeT.seq ?_
        refine CodeT.region (.p (opMove (.t rfl)) rfl <| .p (opAssign (.t rfl)) rfl <| .nil ?_)
        refine EndT.thenN ?_
        refine CodeT.ret (EndT.blkR (EndT.thenR (EndT.thenR (EndT.blkR (EndT.thenR (Post.retP rfl rfl ?_))))))
        exact VLe.int (idxF_at hx (by assumption) hnot).symm
      ·
        refine CodeT.skip (EndT.blkN (EndT.thenN ?_))
        refine CodeT.region (.p (opAddF (.t rfl) (.c _) (fits_i64 (by omega) (by omega))) rfl <| .p (opMove (.t rfl)) rfl <| .nil ?_)
        refine EndT.round (k + 1) ⟨by omega, hnot.succ hx (by assumption)⟩ (by omega) rfl ?_
        exact (.get rfl (VLe.int (by omega)) (.keep 12 rfl rfl))
    ·
      refine CodeT.exit (EndT.thenX (EndT.thenX (EndT.blkX (EndT.thenN ?_))))
      refine CodeT.seq ?_
      refine CodeT.region (.p (opAssign (.c _)) rfl <| .nil ?_)
      refine EndT.thenN ?_
      refine CodeT.ret (Post.retP rfl rfl ?_)
      exact VLe.int (idxF_none (hnot.all (by omega))).symm

theorem conExport_spec {l : List ExportD} {p : ExportD → Prop} : FnP Tryz.prog 85 [sliceV 3 encExport l, funV Tryz.prog (fun _ : ExportD => True) (fun x => [aggV (encExport x)]) (fun x => propV (p x))] (propV (∃ x ∈ l, p x)) := by
  refine FnE.intro 9 Tryz.func85 rfl rfl rfl fun w0 S0 M => ?_
  refine CodeT.seq ?_
  refine CodeT.region (.p (opAssign .cf) rfl <| .nil ?_)
  refine EndT.thenN ?_
  refine CodeT.seq ?_
  refine CodeT.region (.p (opMove (.t rfl)) rfl <| .p (opMove (.t rfl)) rfl <| .p (opCall (idxExport_spec) Tryz.cb96 (.cons (.t rfl) (.cons (.t rfl) .nil))) rfl <| .p (opGeq (.t rfl) (.c _)) rfl <| .p (opAssign (.t rfl)) rfl <| .nil ?_)
  refine EndT.thenN ?_
  refine CodeT.ret (Post.retP rfl rfl ?_)
  exact VLe.prop idxF_nonneg

theorem few_spec {l : List UInt8} : FnP Tryz.prog 95 [sliceV 1 encU8 l] (propV (TypedP l)) := by
  refine FnE.intro 11 Tryz.func95 rfl rfl rfl fun w0 S0 M => ?_
  refine CodeT.seq ?_
  refine CodeT.region (.p (opAssign .cf) rfl <| .nil ?_)
  refine EndT.thenN ?_
  refine CodeT.seq ?_
  refine CodeT.region (.p (opMove (.t rfl)) rfl <| .p (opLen rfl Tryz.underlying74 (.t rfl)) rfl <| .p (opLeq (.t rfl) (.c _)) rfl <| .p (opMove (.t rfl)) rfl <| .g (OpG.gT rfl rfl rfl rfl (fun hg => opMove (.t rfl))) rfl rfl <| .g (OpG.gT rfl rfl rfl rfl (fun hg => opCall (conType_spec) Tryz.cb106 (.cons (.when (.t rfl) hg) (.cons (.le (.f _) (funV_of Tryz.cb107 (fun (b : UInt8) (_ : True) => fewc_spec (t := b)))) .nil)))) rfl rfl <| .g (OpG.gT rfl rfl rfl rfl (fun hg => opNot (.when (.t rfl) hg))) rfl rfl <| .p (opAnd (.t rfl) (.t rfl)) rfl <| .p (opAssign (.t rfl)) rfl <| .nil ?_)
  refine EndT.thenN ?_
  refine CodeT.ret (Post.retP rfl rfl ?_)
  exact VLe.prop typed_iff

theorem right_spec {s : SigD} : FnP Tryz.prog 74 [aggV (encSig s)] (propV (RightP s)) := by
  refine FnE.intro 11 Tryz.func74 rfl rfl rfl fun w0 S0 M => ?_
  refine CodeT.seq ?_
  refine CodeT.region (.p (opBoxA (.t rfl)) rfl <| .p (opAssign .cf) rfl <| .nil ?_)
  refine EndT.thenN ?_
  refine CodeT.seq ?_
  refine CodeT.region (.p (opField Tryz.fd77_0 (.t rfl)) rfl <| .p (opLoad Tryz.ag74 (.t rfl)) rfl <| .p (opCall (few_spec) Tryz.cb95 (.cons (.t rfl) .nil)) rfl <| .p (opMove (.t rfl)) rfl <| .g (OpG.gT rfl rfl rfl rfl (fun hg => opField Tryz.fd77_1 (.t rfl))) rfl rfl <| .g (OpG.gT rfl rfl rfl rfl (fun hg => opLoad Tryz.ag74 (.when (.t rfl) hg))) rfl rfl <| .g (OpG.gT rfl rfl rfl rfl (fun hg => opCall (few_spec) Tryz.cb95 (.cons (.when (.t rfl) hg) .nil))) rfl rfl <| .p (opAnd (.t rfl) (.t rfl)) rfl <| .p (opAssign (.t rfl)) rfl <| .nil ?_)
  refine EndT.thenN ?_
  refine CodeT.ret (Post.retP rfl rfl ?_)
  first | exact VLe.refl _ | exact VLe.int (by omega) | exact VLe.prop (by omega) | exact VLe.prop (by simp_all) | exact VLe.prop (by simp; omega)

theorem lright_spec {l : LimitsD} {most : Int} : FnP Tryz.prog 80 [aggV (encLimits l), intV .i64 most] (propV (LimitsP l most)) := by
  refine FnE.intro 32 Tryz.func80 rfl rfl rfl fun w0 S0 M => ?_
  refine CodeT.seq ?_
  refine CodeT.region (.p (opBoxA (.t rfl)) rfl <| .p (opAssign .cf) rfl <| .nil ?_)
  refine EndT.thenN ?_
  refine CodeT.seq ?_
  refine CodeT.region (.p (opField Tryz.fd168_0 (.t rfl)) rfl <| .p (opLoad Tryz.ag3 (.t rfl)) rfl <| .p (opGeq (.t rfl) (.c _)) rfl <| .p (opMove (.t rfl)) rfl <| .g (OpG.gT rfl rfl rfl rfl (fun hg => opField Tryz.fd168_0 (.t rfl))) rfl rfl <| .g (OpG.gT rfl rfl rfl rfl (fun hg => opLoad Tryz.ag3 (.when (.t rfl) hg))) rfl rfl <| .g (OpG.gT rfl rfl rfl rfl (fun hg => opMove (.t rfl))) rfl rfl <| .g (OpG.gT rfl rfl rfl rfl (fun hg => opLeq (.when (.t rfl) hg) (.when (.t rfl) hg))) rfl rfl <| .p (opAnd (.t rfl) (.t rfl)) rfl <| .p (opMove (.t rfl)) rfl <| .g (OpG.gT rfl rfl rfl rfl (fun hg => opField Tryz.fd168_1 (.t rfl))) rfl rfl <| .g (OpG.gT rfl rfl rfl rfl (fun hg => opLoad Tryz.ag3 (.when (.t rfl) hg))) rfl rfl <| .g (OpG.gT rfl rfl rfl rfl (fun hg => opLss (.when (.t rfl) hg) (.c _))) rfl rfl <| .g (OpG.gT rfl rfl rfl rfl (fun hg => opMove (.when (.t rfl) hg))) rfl rfl <| .g (OpG.hF rfl rfl rfl rfl (fun hg => opField Tryz.fd168_1 (.t rfl))) rfl rfl <| .g (OpG.hF rfl rfl rfl rfl (fun hg => opLoad Tryz.ag3 (.when (.t rfl) hg))) rfl rfl <| .g (OpG.hF rfl rfl rfl rfl (fun hg => opField Tryz.fd168_0 (.t rfl))) rfl rfl <| .g (OpG.hF rfl rfl rfl rfl (fun hg => opLoad Tryz.ag3 (.when (.t rfl) hg))) rfl rfl <| .g (OpG.hF rfl rfl rfl rfl (fun hg => opGeq (.when (.t rfl) hg) (.when (.t rfl) hg))) rfl rfl <| .g (OpG.hF rfl rfl rfl rfl (fun hg => opMove (.when (.t rfl) hg))) rfl rfl <| .g (OpG.hT rfl rfl rfl rfl (fun hg => opField Tryz.fd168_1 (.t rfl))) rfl rfl <| .g (OpG.hT rfl rfl rfl rfl (fun hg => opLoad Tryz.ag3 (.when (.t rfl) hg))) rfl rfl <| .g (OpG.hT rfl rfl rfl rfl (fun hg => opMove (.t rfl))) rfl rfl <| .g (OpG.hT rfl rfl rfl rfl (fun hg => opLeq (.when (.t rfl) hg) (.when (.t rfl) hg))) rfl rfl <| .g (OpG.hF rfl rfl rfl rfl (fun hg => opAnd (.when (.t rfl) hg) (.under (.t rfl) hg))) rfl rfl <| .g (OpG.gT rfl rfl rfl rfl (fun hg => opOr (.when (.t rfl) hg) (.under (.t rfl) hg))) rfl rfl <| .p (opAnd (.t rfl) (.t rfl)) rfl <| .p (opAssign (.t rfl)) rfl <| .nil ?_)
  refine EndT.thenN ?_
  refine CodeT.ret (Post.retP rfl rfl ?_)
  exact VLe.prop (by unfold LimitsP; constructor <;> (intro h; omega))

theorem named_spec {l : List UInt8} : FnP Tryz.prog 76 [strV l] (propV (NamedP l)) := by
  refine FnE.intro 27 Tryz.func76 rfl rfl rfl fun w0 S0 M => ?_
  refine CodeT.fact (t := 0) rfl (fun S w v h => strV_len h) fun hlen => ?_
  refine CodeT.seq ?_
  refine CodeT.region (.p (opAssign .cf) rfl <| .nil ?_)
  refine EndT.thenN ?_
  refine CodeT.seq ?_
  refine CodeT.seq ?_
  refine CodeT.region (.p (opMove (.t rfl)) rfl <| .p (opLenS rfl Tryz.underlying9 (.t rfl)) rfl <| .p (opMove (.c _)) rfl <| .nil ?_)
  refine EndT.thenN ?_
  refine CodeT.block ?_
  refine CodeT.loopO (σ := Nat) (fun _ => []) (fun k => [(6, intV .i64 (k : Int))]) (fun k => k ≤ l.length ∧ NotB (fun b : UInt8 => (b.toNat : Int) < 33 ∨ 126 < (b.toNat : Int)) l k) (fun k => l.length - k) 0 ⟨by omega, NotB.zero _ l⟩ rfl ?_ ?_
  · exact (.get rfl (VLe.refl _) (.refl _ _))
  · rintro k ⟨hk, hnot⟩
    refine CodeT.seq ?_
    refine CodeT.region (.p (opLss (.t rfl) (.t rfl)) rfl <| .nil ?_)
    refine EndT.thenN ?_
    refine CodeT.seq ?_
    refine CodeT.cond (.t rfl) (fun c0 => ?_) (fun c0 => ?_)
    ·
      obtain ⟨x, hx⟩ := getElem?_lt (xs := l) (k := k) (by omega)
      refine CodeT.skip (EndT.thenN ?_)
      refine CodeT.seq ?_
      refine CodeT.block ?_
      refine CodeT.seq ?_
      refine CodeT.region (.p (opMove (.t rfl)) rfl <| .p (opAssign (.t rfl)) rfl <| .nil ?_)
      refine EndT.thenN ?_
      refine CodeT.seq ?_
      refine CodeT.region (.p (opMove (.t rfl)) rfl <| .p (opMove (.t rfl)) rfl <| .p (opIndexS Tryz.underlying9 (.t rfl) (.t rfl) rfl (by assumption)) rfl <| .p (opLss (.t rfl) (.c _)) rfl <| .p (opMove (.t rfl)) rfl <| .g (OpG.gF rfl rfl rfl rfl (fun hg => opMove (.t rfl))) rfl rfl <| .g (OpG.gF rfl rfl rfl rfl (fun hg => opMove (.t rfl))) rfl rfl <| .g (OpG.gF rfl rfl rfl rfl (fun hg => opIndexS Tryz.underlying9 (.when (.t rfl) hg) (.when (.t rfl) hg) rfl (by assumption))) rfl rfl <| .g (OpG.gF rfl rfl rfl rfl (fun hg => opGtr (.when (.t rfl) hg) (.c _))) rfl rfl <| .p (opOr (.t rfl) (.t rfl)) rfl <| .nil ?_)
      refine EndT.thenN ?_
      refine CodeT.cond (.t rfl) (fun c1 => ?_) (fun c1 => ?_)
      ·
        refine CodeT.seq ?_
        refine CodeT.region (.p (opAssign .cf) rfl <| .nil ?_)
        refine EndT.thenN ?_
        refine CodeT.ret (EndT.blkR (EndT.thenR (EndT.thenR (EndT.blkR (EndT.thenR (Post.retP rfl rfl ?_))))))
        exact VLe.prop (named_bad hx (by assumption)).symm
      ·
        refine CodeT.skip (EndT.blkN (EndT.thenN ?_))
        refine CodeT.region (.p (opAddF (.t rfl) (.c _) (fits_i64 (by omega) (by omega))) rfl <| .p (opMove (.t rfl)) rfl <| .nil ?_)
        refine EndT.round (k + 1) ⟨by omega, hnot.succ hx (by assumption)⟩ (by omega) rfl ?_
        exact (.get rfl (VLe.int (by omega)) (.keep 16 rfl rfl))
    ·
      refine CodeT.exit (EndT.thenX (EndT.thenX (EndT.blkX (EndT.thenN ?_))))
      refine CodeT.seq ?_
      refine CodeT.region (.p (opMove (.t rfl)) rfl <| .p (opNeqS (.t rfl) (.s [] rfl rfl)) rfl <| .p (opMove (.t rfl)) rfl <| .g (OpG.gT rfl rfl rfl rfl (fun hg => opMove (.t rfl))) rfl rfl <| .g (OpG.gT rfl rfl rfl rfl (fun hg => opLenS rfl Tryz.underlying9 (.when (.t rfl) hg))) rfl rfl <| .g (OpG.gT rfl rfl rfl rfl (fun hg => opLeq (.when (.t rfl) hg) (.c _))) rfl rfl <| .p (opAnd (.t rfl) (.t rfl)) rfl <| .p (opAssign (.t rfl)) rfl <| .nil ?_)
      refine EndT.thenN ?_
      refine CodeT.ret (Post.retP rfl rfl ?_)
      exact VLe.prop (named_iff (hnot.all (by omega)))

theorem first_spec {n : Nat} {g : Nat → Int} (hp0 : n ≤ 281474976710656) : FnP Tryz.prog 77 [intV .i64 (n : Int), funV Tryz.prog (fun i : Nat => i < n) (fun i => [intV .i64 (i : Int)]) (fun i => intV .i64 (g i))] (intV .i64 (firstE g n)) := by
  refine FnE.intro 18 Tryz.func77 rfl rfl rfl fun w0 S0 M => ?_
  refine CodeT.seq ?_
  refine CodeT.region (.p (opAssign (.c _)) rfl <| .nil ?_)
  refine EndT.thenN ?_
  refine CodeT.seq ?_
  refine CodeT.seq ?_
  refine CodeT.region (.p (opMove (.t rfl)) rfl <| .p (opMove (.c _)) rfl <| .nil ?_)
  refine EndT.thenN ?_
  refine CodeT.block ?_
  refine CodeT.loopO (σ := Nat) (fun _ => []) (fun k => [(8, intV .i64 (k : Int))]) (fun k => k ≤ n ∧ firstE g k = 0) (fun k => n - k) 0 ⟨by omega, rfl⟩ rfl ?_ ?_
  · exact (.get rfl (VLe.refl _) (.refl _ _))
  · rintro k ⟨hk, hg⟩
    refine CodeT.seq ?_
    refine CodeT.region (.p (opLss (.t rfl) (.t rfl)) rfl <| .nil ?_)
    refine EndT.thenN ?_
    refine CodeT.seq ?_
    refine CodeT.cond (.t rfl) (fun c0 => ?_) (fun c0 => ?_)
    ·
      refine CodeT.skip (EndT.thenN ?_)
      refine CodeT.seq ?_
      refine CodeT.block ?_
      refine CodeT.seq ?_
      refine CodeT.region (.p (opMove (.t rfl)) rfl <| .p (opAssign (.t rfl)) rfl <| .nil ?_)
      refine EndT.thenN ?_
      refine CodeT.seq ?_
      refine CodeT.region (.p (opMove (.t rfl)) rfl <| .p (opMove (.t rfl)) rfl <| .p (opCallV k (.t rfl) (by show k < n; omega) (.cons (.t rfl) .nil)) rfl <| .p (opAssign (.t rfl)) rfl <| .nil ?_)
      refine EndT.thenN ?_
      refine CodeT.seq ?_
      refine CodeT.region (.p (opMove (.t rfl)) rfl <| .p (opNeq (.t rfl) (.c _)) rfl <| .nil ?_)
      refine EndT.thenN ?_
      refine CodeT.cond (.t rfl) (fun c1 => ?_) (fun c1 => ?_)
      ·
        refine CodeT.seq ?_
        refine CodeT.region (.p (opMove (.t rfl)) rfl <| .p (opAssign (.t rfl)) rfl <| .nil ?_)
        refine EndT.thenN ?_
        refine CodeT.ret (EndT.blkR (EndT.thenR (EndT.thenR (EndT.blkR (EndT.thenR (Post.retP rfl rfl ?_))))))
        exact VLe.int (firstE_at hg c1 (by omega)).symm
      ·
        refine CodeT.skip (EndT.blkN (EndT.thenN ?_))
        refine CodeT.region (.p (opAddF (.t rfl) (.c _) (fits_i64 (by omega) (by omega))) rfl <| .p (opMove (.t rfl)) rfl <| .nil ?_)
        refine EndT.round (k + 1) ⟨by omega, by simp only [firstE, hg]; simpa using c1⟩ (by omega) rfl ?_
        exact (.get rfl (VLe.int (by omega)) (.keep 12 rfl rfl))
    ·
      refine CodeT.exit (EndT.thenX (EndT.thenX (EndT.blkX (EndT.thenN ?_))))
      refine CodeT.seq ?_
      refine CodeT.region (.p (opAssign (.c _)) rfl <| .nil ?_)
      refine EndT.thenN ?_
      refine CodeT.ret (Post.retP rfl rfl ?_)
      exact VLe.int (by rw [show n = k by omega]; exact hg.symm)

theorem many_spec {n : Nat} {most : Int} {g : Nat → Int} (hp0 : n ≤ 281474976710656) : FnP Tryz.prog 71 [intV .i64 (n : Int), intV .i64 most, funV Tryz.prog (fun i : Nat => i < n) (fun i => [intV .i64 (i : Int)]) (fun i => intV .i64 (g i))] (intV .i64 (manyE n most g)) := by
  refine FnE.intro 13 Tryz.func71 rfl rfl rfl fun w0 S0 M => ?_
  refine CodeT.seq ?_
  refine CodeT.region (.p (opAssign (.c _)) rfl <| .nil ?_)
  refine EndT.thenN ?_
  refine CodeT.seq ?_
  refine CodeT.seq ?_
  refine CodeT.region (.p (opMove (.t rfl)) rfl <| .p (opMove (.t rfl)) rfl <| .p (opGtr (.t rfl) (.t rfl)) rfl <| .nil ?_)
  refine EndT.thenN ?_
  refine CodeT.cond (.t rfl) (fun c0 => ?_) (fun c0 => ?_)
  ·
    refine CodeT.seq ?_
    refine CodeT.region (.p (opAssign (.c _)) rfl <| .nil ?_)
    refine EndT.thenN ?_
    refine CodeT.ret (EndT.thenR (Post.retP rfl rfl ?_))
    exact VLe.int (by simp [manyE, *])
  ·
    refine CodeT.skip (EndT.thenN ?_)
    refine CodeT.seq ?_
    refine CodeT.region (.p (opMove (.t rfl)) rfl <| .p (opMove (.t rfl)) rfl <| .p (opCall (first_spec (by first | assumption | omega)) Tryz.cb77 (.cons (.t rfl) (.cons (.t rfl) .nil))) rfl <| .p (opAssign (.t rfl)) rfl <| .nil ?_)
    refine EndT.thenN ?_
    refine CodeT.ret (Post.retP rfl rfl ?_)
    exact VLe.int (by simp [manyE, *])

theorem count_spec {m : ModD} : FnP Tryz.prog 16 [ptrV (encMod m)] (intV .i64 (countM m)) := by
  refine FnE.intro 16 Tryz.func16 rfl rfl rfl fun w0 S0 M => ?_
  refine CodeT.fact (t := 0) rfl (fun S w v h => modLens h) fun hl => ?_
  have hl1 := hl.sigs; have hl2 := hl.imports; have hl3 := hl.funcs; have hl4 := hl.mems; have hl5 := hl.globals; have hl6 := hl.exports; have hl7 := hl.elems; have hl8 := hl.datas
  refine CodeT.seq ?_
  refine CodeT.region (.p (opAssign (.c _)) rfl <| .nil ?_)
  refine EndT.thenN ?_
  refine CodeT.seq ?_
  refine CodeT.seq ?_
  refine CodeT.region (.p (opMove (.t rfl)) rfl <| .p (opEqlNil Tryz.underlying57 (.t rfl)) rfl <| .nil ?_)
  refine EndT.thenN ?_
  refine CodeT.cond (.t rfl) (fun c0 => ?_) (fun c0 => ?_)
  ·
    exact c0.elim
  ·
    refine CodeT.skip (EndT.thenN ?_)
    refine CodeT.seq ?_
    refine CodeT.draw 10 2 Tryz.mixed (by kernel_rfl) (.p (opMove (.t rfl)) <| .p (opNilChk (.t rfl)) <| .p (opField Tryz.fd68_1 (.t rfl)) <| .p (opLoad Tryz.ag46 (.t rfl)) <| .p (opLen rfl Tryz.underlying46 (.t rfl)) <| .p (opMove (.t rfl)) <| .p (opNilChk (.t rfl)) <| .p (opField Tryz.fd68_2 (.t rfl)) <| .p (opLoad Tryz.ag66 (.t rfl)) <| .p (opLen rfl Tryz.underlying66 (.t rfl)) <| .nil) (.p (opAddF (.t rfl) (.t rfl) (fits_i64 (by omega) (by omega))) rfl <| .p (opAssign (.t rfl)) rfl <| .nil ?_)
    refine EndT.thenN ?_
    refine CodeT.ret (Post.retP rfl rfl ?_)
    first | exact VLe.refl _ | exact VLe.int (by omega) | exact VLe.prop (by omega) | exact VLe.prop (by simp_all) | exact VLe.prop (by simp; omega)

theorem sigsc_spec {m : ModD} {i : Nat} (hp0 : i < m.Sigs.length) : FnP Tryz.prog 72 [intV .i64 (i : Int), ptrV [ptrV (encMod m)]] (intV .i64 (onI m.Sigs sigE i)) := by
  refine FnE.intro 14 Tryz.func72 rfl rfl rfl fun w0 S0 M => ?_
  refine CodeT.fact (t := 1) rfl (fun S w v h => modLens2 h) fun hl => ?_
  have hl1 := hl.sigs; have hl2 := hl.imports; have hl3 := hl.funcs; have hl4 := hl.mems; have hl5 := hl.globals; have hl6 := hl.exports; have hl7 := hl.elems; have hl8 := hl.datas
  obtain ⟨x, hx⟩ := getElem?_lt hp0
  refine CodeT.seq ?_
  refine CodeT.region (.p (opAssign (.c _)) rfl <| .nil ?_)
  refine EndT.thenN ?_
  refine CodeT.seq ?_
  refine CodeT.region (.p (opLoad Tryz.ag57 (.t rfl)) rfl <| .p (opNilChk (.t rfl)) rfl <| .p (opField Tryz.fd68_0 (.t rfl)) rfl <| .p (opLoad Tryz.ag65 (.t rfl)) rfl <| .p (opMove (.t rfl)) rfl <| .p (opIndexAddr Tryz.underlying65 Tryz.cz77 rfl (.t rfl) (.t rfl) rfl (by assumption)) rfl <| .p (opLoadA Tryz.ag77 Tryz.cz77 rfl (.t rfl) rfl) rfl <| .p (opCall (right_spec) Tryz.cb74 (.cons (.t rfl) .nil)) rfl <| .p (opNot (.t rfl)) rfl <| .p (opCall (when_spec) Tryz.cb73 (.cons (.t rfl) (.cons (.c _) .nil))) rfl <| .p (opAssign (.t rfl)) rfl <| .nil ?_)
  refine EndT.thenN ?_
  refine CodeT.ret (Post.retP rfl rfl ?_)
  exact VLe.int (by rw [onI_eq hx]; rfl)

theorem importsc_spec {m : ModD} {i : Nat} (hp0 : i < m.Imports.length) : FnP Tryz.prog 75 [intV .i64 (i : Int), ptrV [ptrV (encMod m)]] (intV .i64 (onI m.Imports (importE m) i)) := by
  refine FnE.intro 32 Tryz.func75 rfl rfl rfl fun w0 S0 M => ?_
  refine CodeT.fact (t := 1) rfl (fun S w v h => modLens2 h) fun hl => ?_
  have hl1 := hl.sigs; have hl2 := hl.imports; have hl3 := hl.funcs; have hl4 := hl.mems; have hl5 := hl.globals; have hl6 := hl.exports; have hl7 := hl.elems; have hl8 := hl.datas
  obtain ⟨x, hx⟩ := getElem?_lt hp0
  refine CodeT.seq ?_
  refine CodeT.region (.p (opAssign (.c _)) rfl <| .nil ?_)
  refine EndT.thenN ?_
  refine CodeT.seq ?_
  refine CodeT.region (.p (opLoad Tryz.ag57 (.t rfl)) rfl <| .p (opNilChk (.t rfl)) rfl <| .p (opField Tryz.fd68_1 (.t rfl)) rfl <| .p (opLoad Tryz.ag46 (.t rfl)) rfl <| .p (opMove (.t rfl)) rfl <| .p (opIndexAddr Tryz.underlying46 Tryz.cz99 rfl (.t rfl) (.t rfl) rfl (by assumption)) rfl <| .p (opLoadA Tryz.ag99 Tryz.cz99 rfl (.t rfl) rfl) rfl <| .n (opAlloc Tryz.zb99) rfl <| fun b4 _ => .s (opStoreOA (i := 0) Tryz.cz99 rfl (.t rfl) (.t rfl) rfl rfl rfl) <| .nil ?_)
  refine EndT.thenN ?_
  refine CodeT.share (t := 4) (i := 0) rfl rfl ?_
  refine CodeT.seq ?_
  refine CodeT.seq ?_
  refine CodeT.region (.p (opField Tryz.fd99_0 (.t rfl)) rfl <| .p (opLoad Tryz.ag9 (.t rfl)) rfl <| .p (opCall (named_spec) Tryz.cb76 (.cons (.t rfl) .nil)) rfl <| .p (opNot (.t rfl)) rfl <| .p (opMove (.t rfl)) rfl <| .g (OpG.gF rfl rfl rfl rfl (fun hg => opField Tryz.fd99_1 (.t rfl))) rfl rfl <| .g (OpG.gF rfl rfl rfl rfl (fun hg => opLoad Tryz.ag9 (.when (.t rfl) hg))) rfl rfl <| .g (OpG.gF rfl rfl rfl rfl (fun hg => opCall (named_spec) Tryz.cb76 (.cons (.when (.t rfl) hg) .nil))) rfl rfl <| .g (OpG.gF rfl rfl rfl rfl (fun hg => opNot (.when (.t rfl) hg))) rfl rfl <| .p (opOr (.t rfl) (.t rfl)) rfl <| .nil ?_)
  refine EndT.thenN ?_
  refine CodeT.cond (.t rfl) (fun c0 => ?_) (fun c0 => ?_)
  ·
    refine CodeT.seq ?_
    refine CodeT.region (.p (opAssign (.c _)) rfl <| .nil ?_)
    refine EndT.thenN ?_
    refine CodeT.ret (EndT.thenR (Post.retP rfl rfl ?_))
    exact VLe.int (by rw [onI_eq hx]; simp only [importE]; first | rw [if_pos (by assumption)] | rw [if_neg (by assumption)])
  ·
    refine CodeT.skip (EndT.thenN ?_)
    refine CodeT.seq ?_
    refine CodeT.draw 7 4 Tryz.mixed (by kernel_rfl) (.p (opField Tryz.fd99_2 (.t rfl)) <| .p (opLoad Tryz.ag3 (.t rfl)) <| .p (opLoad Tryz.ag57 (.t rfl)) <| .p (opNilChk (.t rfl)) <| .p (opField Tryz.fd68_0 (.t rfl)) <| .p (opLoad Tryz.ag65 (.t rfl)) <| .p (opLen rfl Tryz.underlying65 (.t rfl)) <| .nil) (.p (opCall (has_spec) Tryz.cb39 (.cons (.t rfl) (.cons (.t rfl) .nil))) rfl <| .p (opNot (.t rfl)) rfl <| .p (opCall (when_spec) Tryz.cb73 (.cons (.t rfl) (.cons (.c _) .nil))) rfl <| .p (opAssign (.t rfl)) rfl <| .nil ?_)
    refine EndT.thenN ?_
    refine CodeT.ret (Post.retP rfl rfl ?_)
    exact VLe.int (by rw [onI_eq hx]; simp only [importE]; first | rw [if_pos (by assumption)] | rw [if_neg (by assumption)])

theorem funcsc_spec {m : ModD} {i : Nat} (hp0 : i < m.Funcs.length) : FnP Tryz.prog 78 [intV .i64 (i : Int), ptrV [ptrV (encMod m)]] (intV .i64 (onI m.Funcs (funcE m) i)) := by
  refine FnE.intro 20 Tryz.func78 rfl rfl rfl fun w0 S0 M => ?_
  refine CodeT.fact (t := 1) rfl (fun S w v h => modLens2 h) fun hl => ?_
  have hl1 := hl.sigs; have hl2 := hl.imports; have hl3 := hl.funcs; have hl4 := hl.mems; have hl5 := hl.globals; have hl6 := hl.exports; have hl7 := hl.elems; have hl8 := hl.datas
  obtain ⟨x, hx⟩ := getElem?_lt hp0
  refine CodeT.seq ?_
  refine CodeT.region (.p (opAssign (.c _)) rfl <| .nil ?_)
  refine EndT.thenN ?_
  refine CodeT.seq ?_
  refine CodeT.draw 13 4 Tryz.mixed (by kernel_rfl) (.p (opLoad Tryz.ag57 (.t rfl)) <| .p (opNilChk (.t rfl)) <| .p (opField Tryz.fd68_2 (.t rfl)) <| .p (opLoad Tryz.ag66 (.t rfl)) <| .p (opMove (.t rfl)) <| .p (opIndexAddr Tryz.underlying66 Tryz.cz83 rfl (.t rfl) (.t rfl) rfl (by assumption)) <| .p (opField Tryz.fd83_0 (.t rfl)) <| .p (opLoad Tryz.ag3 (.t rfl)) <| .p (opLoad Tryz.ag57 (.t rfl)) <| .p (opNilChk (.t rfl)) <| .p (opField Tryz.fd68_0 (.t rfl)) <| .p (opLoad Tryz.ag65 (.t rfl)) <| .p (opLen rfl Tryz.underlying65 (.t rfl)) <| .nil) (.p (opCall (has_spec) Tryz.cb39 (.cons (.t rfl) (.cons (.t rfl) .nil))) rfl <| .p (opNot (.t rfl)) rfl <| .p (opCall (when_spec) Tryz.cb73 (.cons (.t rfl) (.cons (.c _) .nil))) rfl <| .p (opAssign (.t rfl)) rfl <| .nil ?_)
  refine EndT.thenN ?_
  refine CodeT.ret (Post.retP rfl rfl ?_)
  exact VLe.int (by rw [onI_eq hx]; rfl)

theorem memsc_spec {m : ModD} {i : Nat} (hp0 : i < m.Mems.length) : FnP Tryz.prog 79 [intV .i64 (i : Int), ptrV [ptrV (encMod m)]] (intV .i64 (onI m.Mems memE i)) := by
  refine FnE.intro 14 Tryz.func79 rfl rfl rfl fun w0 S0 M => ?_
  refine CodeT.fact (t := 1) rfl (fun S w v h => modLens2 h) fun hl => ?_
  have hl1 := hl.sigs; have hl2 := hl.imports; have hl3 := hl.funcs; have hl4 := hl.mems; have hl5 := hl.globals; have hl6 := hl.exports; have hl7 := hl.elems; have hl8 := hl.datas
  obtain ⟨x, hx⟩ := getElem?_lt hp0
  refine CodeT.seq ?_
  refine CodeT.region (.p (opAssign (.c _)) rfl <| .nil ?_)
  refine EndT.thenN ?_
  refine CodeT.seq ?_
  refine CodeT.region (.p (opLoad Tryz.ag57 (.t rfl)) rfl <| .p (opNilChk (.t rfl)) rfl <| .p (opField Tryz.fd68_4 (.t rfl)) rfl <| .p (opLoad Tryz.ag47 (.t rfl)) rfl <| .p (opMove (.t rfl)) rfl <| .p (opIndexAddr Tryz.underlying47 Tryz.cz168 rfl (.t rfl) (.t rfl) rfl (by assumption)) rfl <| .p (opLoadA Tryz.ag168 Tryz.cz168 rfl (.t rfl) rfl) rfl <| .p (opCall (lright_spec) Tryz.cb80 (.cons (.t rfl) (.cons (.c _) .nil))) rfl <| .p (opNot (.t rfl)) rfl <| .p (opCall (when_spec) Tryz.cb73 (.cons (.t rfl) (.cons (.c _) .nil))) rfl <| .p (opAssign (.t rfl)) rfl <| .nil ?_)
  refine EndT.thenN ?_
  refine CodeT.ret (Post.retP rfl rfl ?_)
  exact VLe.int (by rw [onI_eq hx]; rfl)

theorem globalsc_spec {m : ModD} {i : Nat} (hp0 : i < m.Globals.length) : FnP Tryz.prog 81 [intV .i64 (i : Int), ptrV [ptrV (encMod m)]] (intV .i64 (onI m.Globals globalE i)) := by
  refine FnE.intro 27 Tryz.func81 rfl rfl rfl fun w0 S0 M => ?_
  refine CodeT.fact (t := 1) rfl (fun S w v h => modLens2 h) fun hl => ?_
  have hl1 := hl.sigs; have hl2 := hl.imports; have hl3 := hl.funcs; have hl4 := hl.mems; have hl5 := hl.globals; have hl6 := hl.exports; have hl7 := hl.elems; have hl8 := hl.datas
  obtain ⟨x, hx⟩ := getElem?_lt hp0
  refine CodeT.seq ?_
  refine CodeT.region (.p (opAssign (.c _)) rfl <| .nil ?_)
  refine EndT.thenN ?_
  refine CodeT.seq ?_
  refine CodeT.region (.p (opLoad Tryz.ag57 (.t rfl)) rfl <| .p (opNilChk (.t rfl)) rfl <| .p (opField Tryz.fd68_5 (.t rfl)) rfl <| .p (opLoad Tryz.ag48 (.t rfl)) rfl <| .p (opMove (.t rfl)) rfl <| .p (opIndexAddr Tryz.underlying48 Tryz.cz72 rfl (.t rfl) (.t rfl) rfl (by assumption)) rfl <| .p (opLoadA Tryz.ag72 Tryz.cz72 rfl (.t rfl) rfl) rfl <| .n (opAlloc Tryz.zb72) rfl <| fun b4 _ => .s (opStoreOA (i := 0) Tryz.cz72 rfl (.t rfl) (.t rfl) rfl rfl rfl) <| .nil ?_)
  refine EndT.thenN ?_
  refine CodeT.share (t := 4) (i := 0) rfl rfl ?_
  refine CodeT.seq ?_
  refine CodeT.region (.p (opField Tryz.fd72_0 (.t rfl)) rfl <| .p (opLoad Tryz.ag70 (.t rfl)) rfl <| .p (opCall (bits_spec) Tryz.cb82 (.cons (.t rfl) .nil)) rfl <| .p (opEql (.t rfl) (.c _)) rfl <| .p (opMove (.t rfl)) rfl <| .g (OpG.gF rfl rfl rfl rfl (fun hg => opField Tryz.fd72_0 (.t rfl))) rfl rfl <| .g (OpG.gF rfl rfl rfl rfl (fun hg => opLoad Tryz.ag70 (.when (.t rfl) hg))) rfl rfl <| .g (OpG.gF rfl rfl rfl rfl (fun hg => opEql (.when (.t rfl) hg) (.c _))) rfl rfl <| .g (OpG.gF rfl rfl rfl rfl (fun hg => opMove (.when (.t rfl) hg))) rfl rfl <| .g (OpG.hT rfl rfl rfl rfl (fun hg => opField Tryz.fd72_2 (.t rfl))) rfl rfl <| .g (OpG.hT rfl rfl rfl rfl (fun hg => opLoad Tryz.ag36 (.when (.t rfl) hg))) rfl rfl <| .g (OpG.hT rfl rfl rfl rfl (fun hg => opGtr (.when (.t rfl) hg) (.c _))) rfl rfl <| .g (OpG.gF rfl rfl rfl rfl (fun hg => opAnd (.when (.t rfl) hg) (.under (.t rfl) hg))) rfl rfl <| .p (opOr (.t rfl) (.t rfl)) rfl <| .p (opCall (when_spec) Tryz.cb73 (.cons (.t rfl) (.cons (.c _) .nil))) rfl <| .p (opAssign (.t rfl)) rfl <| .nil ?_)
  refine EndT.thenN ?_
  refine CodeT.ret (Post.retP rfl rfl ?_)
  exact VLe.int (by rw [onI_eq hx]; rfl)

theorem sigs_spec {m : ModD} : FnP Tryz.prog 56 [ptrV (encMod m)] (intV .i64 (sigsE m)) := by
  refine FnE.intro 10 Tryz.func56 rfl rfl rfl fun w0 S0 M => ?_
  refine CodeT.fact (t := 0) rfl (fun S w v h => modLens h) fun hl => ?_
  have hl1 := hl.sigs; have hl2 := hl.imports; have hl3 := hl.funcs; have hl4 := hl.mems; have hl5 := hl.globals; have hl6 := hl.exports; have hl7 := hl.elems; have hl8 := hl.datas
  refine CodeT.seq ?_
  refine CodeT.region (.p (opBox (.t rfl)) rfl <| .p (opAssign (.c _)) rfl <| .nil ?_)
  refine EndT.thenN ?_
  refine CodeT.seq ?_
  refine CodeT.region (.p (opLoad Tryz.ag57 (.t rfl)) rfl <| .p (opNilChk (.t rfl)) rfl <| .p (opField Tryz.fd68_0 (.t rfl)) rfl <| .p (opLoad Tryz.ag65 (.t rfl)) rfl <| .p (opLen rfl Tryz.underlying65 (.t rfl)) rfl <| .p (opMakeFunc (A := Nat) (ok := fun i => i < m.Sigs.length) (arg := fun i => [intV .i64 (i : Int)]) (res := fun i => intV .i64 (onI m.Sigs sigE i)) Tryz.cb72 .nil (.cons (.t rfl) .nil) (fun i hi => sigsc_spec hi)) rfl <| .p (opCall (many_spec (by first | assumption | omega)) Tryz.cb71 (.cons (.t rfl) (.cons (.c _) (.cons (.t rfl) .nil)))) rfl <| .p (opAssign (.t rfl)) rfl <| .nil ?_)
  refine EndT.thenN ?_
  refine CodeT.ret (Post.retP rfl rfl ?_)
  exact VLe.refl _

theorem imports_spec {m : ModD} : FnP Tryz.prog 57 [ptrV (encMod m)] (intV .i64 (importsE m)) := by
  refine FnE.intro 10 Tryz.func57 rfl rfl rfl fun w0 S0 M => ?_
  refine CodeT.fact (t := 0) rfl (fun S w v h => modLens h) fun hl => ?_
  have hl1 := hl.sigs; have hl2 := hl.imports; have hl3 := hl.funcs; have hl4 := hl.mems; have hl5 := hl.globals; have hl6 := hl.exports; have hl7 := hl.elems; have hl8 := hl.datas
  refine CodeT.seq ?_
  refine CodeT.region (.p (opBox (.t rfl)) rfl <| .p (opAssign (.c _)) rfl <| .nil ?_)
  refine EndT.thenN ?_
  refine CodeT.seq ?_
  refine CodeT.region (.p (opLoad Tryz.ag57 (.t rfl)) rfl <| .p (opNilChk (.t rfl)) rfl <| .p (opField Tryz.fd68_1 (.t rfl)) rfl <| .p (opLoad Tryz.ag46 (.t rfl)) rfl <| .p (opLen rfl Tryz.underlying46 (.t rfl)) rfl <| .p (opMakeFunc (A := Nat) (ok := fun i => i < m.Imports.length) (arg := fun i => [intV .i64 (i : Int)]) (res := fun i => intV .i64 (onI m.Imports (importE m) i)) Tryz.cb75 .nil (.cons (.t rfl) .nil) (fun i hi => importsc_spec hi)) rfl <| .p (opCall (many_spec (by first | assumption | omega)) Tryz.cb71 (.cons (.t rfl) (.cons (.c _) (.cons (.t rfl) .nil)))) rfl <| .p (opAssign (.t rfl)) rfl <| .nil ?_)
  refine EndT.thenN ?_
  refine CodeT.ret (Post.retP rfl rfl ?_)
  exact VLe.refl _

theorem mems_spec {m : ModD} : FnP Tryz.prog 60 [ptrV (encMod m)] (intV .i64 (memsE m)) := by
  refine FnE.intro 10 Tryz.func60 rfl rfl rfl fun w0 S0 M => ?_
  refine CodeT.fact (t := 0) rfl (fun S w v h => modLens h) fun hl => ?_
  have hl1 := hl.sigs; have hl2 := hl.imports; have hl3 := hl.funcs; have hl4 := hl.mems; have hl5 := hl.globals; have hl6 := hl.exports; have hl7 := hl.elems; have hl8 := hl.datas
  refine CodeT.seq ?_
  refine CodeT.region (.p (opBox (.t rfl)) rfl <| .p (opAssign (.c _)) rfl <| .nil ?_)
  refine EndT.thenN ?_
  refine CodeT.seq ?_
  refine CodeT.region (.p (opLoad Tryz.ag57 (.t rfl)) rfl <| .p (opNilChk (.t rfl)) rfl <| .p (opField Tryz.fd68_4 (.t rfl)) rfl <| .p (opLoad Tryz.ag47 (.t rfl)) rfl <| .p (opLen rfl Tryz.underlying47 (.t rfl)) rfl <| .p (opMakeFunc (A := Nat) (ok := fun i => i < m.Mems.length) (arg := fun i => [intV .i64 (i : Int)]) (res := fun i => intV .i64 (onI m.Mems memE i)) Tryz.cb79 .nil (.cons (.t rfl) .nil) (fun i hi => memsc_spec hi)) rfl <| .p (opCall (many_spec (by first | assumption | omega)) Tryz.cb71 (.cons (.t rfl) (.cons (.c _) (.cons (.t rfl) .nil)))) rfl <| .p (opAssign (.t rfl)) rfl <| .nil ?_)
  refine EndT.thenN ?_
  refine CodeT.ret (Post.retP rfl rfl ?_)
  exact VLe.refl _

theorem globals_spec {m : ModD} : FnP Tryz.prog 61 [ptrV (encMod m)] (intV .i64 (globalsE m)) := by
  refine FnE.intro 10 Tryz.func61 rfl rfl rfl fun w0 S0 M => ?_
  refine CodeT.fact (t := 0) rfl (fun S w v h => modLens h) fun hl => ?_
  have hl1 := hl.sigs; have hl2 := hl.imports; have hl3 := hl.funcs; have hl4 := hl.mems; have hl5 := hl.globals; have hl6 := hl.exports; have hl7 := hl.elems; have hl8 := hl.datas
  refine CodeT.seq ?_
  refine CodeT.region (.p (opBox (.t rfl)) rfl <| .p (opAssign (.c _)) rfl <| .nil ?_)
  refine EndT.thenN ?_
  refine CodeT.seq ?_
  refine CodeT.region (.p (opLoad Tryz.ag57 (.t rfl)) rfl <| .p (opNilChk (.t rfl)) rfl <| .p (opField Tryz.fd68_5 (.t rfl)) rfl <| .p (opLoad Tryz.ag48 (.t rfl)) rfl <| .p (opLen rfl Tryz.underlying48 (.t rfl)) rfl <| .p (opMakeFunc (A := Nat) (ok := fun i => i < m.Globals.length) (arg := fun i => [intV .i64 (i : Int)]) (res := fun i => intV .i64 (onI m.Globals globalE i)) Tryz.cb81 .nil (.cons (.t rfl) .nil) (fun i hi => globalsc_spec hi)) rfl <| .p (opCall (many_spec (by first | assumption | omega)) Tryz.cb71 (.cons (.t rfl) (.cons (.c _) (.cons (.t rfl) .nil)))) rfl <| .p (opAssign (.t rfl)) rfl <| .nil ?_)
  refine EndT.thenN ?_
  refine CodeT.ret (Post.retP rfl rfl ?_)
  exact VLe.refl _

theorem funcs_spec {m : ModD} : FnP Tryz.prog 58 [ptrV (encMod m)] (intV .i64 (funcsE m)) := by
  refine FnE.intro 13 Tryz.func58 rfl rfl rfl fun w0 S0 M => ?_
  refine CodeT.fact (t := 0) rfl (fun S w v h => modLens h) fun hl => ?_
  have hl1 := hl.sigs; have hl2 := hl.imports; have hl3 := hl.funcs; have hl4 := hl.mems; have hl5 := hl.globals; have hl6 := hl.exports; have hl7 := hl.elems; have hl8 := hl.datas
  refine CodeT.seq ?_
  refine CodeT.region (.p (opBox (.t rfl)) rfl <| .p (opAssign (.c _)) rfl <| .nil ?_)
  refine EndT.thenN ?_
  refine CodeT.seq ?_
  refine CodeT.seq ?_
  refine CodeT.region (.p (opLoad Tryz.ag57 (.t rfl)) rfl <| .p (opCall (count_spec) Tryz.cb16 (.cons (.t rfl) .nil)) rfl <| .p (opGtr (.t rfl) (.c _)) rfl <| .nil ?_)
  refine EndT.thenN ?_
  refine CodeT.cond (.t rfl) (fun c0 => ?_) (fun c0 => ?_)
  ·
    refine CodeT.seq ?_
    refine CodeT.region (.p (opAssign (.c _)) rfl <| .nil ?_)
    refine EndT.thenN ?_
    refine CodeT.ret (EndT.thenR (Post.retP rfl rfl ?_))
    exact VLe.int (by simp [funcsE, *])
  ·
    refine CodeT.skip (EndT.thenN ?_)
    refine CodeT.seq ?_
    refine CodeT.region (.p (opLoad Tryz.ag57 (.t rfl)) rfl <| .p (opNilChk (.t rfl)) rfl <| .p (opField Tryz.fd68_2 (.t rfl)) rfl <| .p (opLoad Tryz.ag66 (.t rfl)) rfl <| .p (opLen rfl Tryz.underlying66 (.t rfl)) rfl <| .p (opMakeFunc (A := Nat) (ok := fun i => i < m.Funcs.length) (arg := fun i => [intV .i64 (i : Int)]) (res := fun i => intV .i64 (onI m.Funcs (funcE m) i)) Tryz.cb78 .nil (.cons (.t rfl) .nil) (fun i hi => funcsc_spec hi)) rfl <| .p (opCall (first_spec (by first | assumption | omega)) Tryz.cb77 (.cons (.t rfl) (.cons (.t rfl) .nil))) rfl <| .p (opAssign (.t rfl)) rfl <| .nil ?_)
    refine EndT.thenN ?_
    refine CodeT.ret (Post.retP rfl rfl ?_)
    exact VLe.int (by simp [funcsE, *])

theorem table_spec {m : ModD} : FnP Tryz.prog 59 [ptrV (encMod m)] (intV .i64 (tableE m)) := by
  refine FnE.intro 14 Tryz.func59 rfl rfl rfl fun w0 S0 M => ?_
  refine CodeT.seq ?_
  refine CodeT.region (.p (opAssign (.c _)) rfl <| .nil ?_)
  refine EndT.thenN ?_
  refine CodeT.seq ?_
  refine CodeT.seq ?_
  refine CodeT.region (.p (opMove (.t rfl)) rfl <| .p (opNilChk (.t rfl)) rfl <| .p (opField Tryz.fd68_3 (.t rfl)) rfl <| .p (opLoad Tryz.ag3 (.t rfl)) rfl <| .p (opLss (.t rfl) (.c _)) rfl <| .nil ?_)
  refine EndT.thenN ?_
  refine CodeT.cond (.t rfl) (fun c0 => ?_) (fun c0 => ?_)
  ·
    refine CodeT.seq ?_
    refine CodeT.region (.p (opAssign (.c _)) rfl <| .nil ?_)
    refine EndT.thenN ?_
    refine CodeT.ret (EndT.thenR (Post.retP rfl rfl ?_))
    exact VLe.int (by simp [tableE, *])
  ·
    refine CodeT.skip (EndT.thenN ?_)
    refine CodeT.seq ?_
    refine CodeT.region (.p (opMove (.t rfl)) rfl <| .p (opNilChk (.t rfl)) rfl <| .p (opField Tryz.fd68_3 (.t rfl)) rfl <| .p (opLoad Tryz.ag3 (.t rfl)) rfl <| .p (opGtr (.t rfl) (.c _)) rfl <| .p (opCall (when_spec) Tryz.cb73 (.cons (.t rfl) (.cons (.c _) .nil))) rfl <| .p (opAssign (.t rfl)) rfl <| .nil ?_)
    refine EndT.thenN ?_
    refine CodeT.ret (Post.retP rfl rfl ?_)
    exact VLe.int (by simp [tableE, *])

theorem number_spec {m : ModD} {f : Int} : FnP Tryz.prog 38 [ptrV (encMod m), intV .i64 f] (tupV [intV .i64 ((numberO m f).getD 0), propV (numberO m f).isSome]) := by
  refine FnE.intro 43 Tryz.func38 rfl rfl rfl fun w0 S0 M => ?_
  refine CodeT.fact (t := 0) rfl (fun S w v h => modLens h) fun hl => ?_
  have hl1 := hl.sigs; have hl2 := hl.imports; have hl3 := hl.funcs; have hl4 := hl.mems; have hl5 := hl.globals; have hl6 := hl.exports; have hl7 := hl.elems; have hl8 := hl.datas
  refine CodeT.seq ?_
  refine CodeT.region (.p (opAssign (.c _)) rfl <| .p (opAssign .cf) rfl <| .nil ?_)
  refine EndT.thenN ?_
  refine CodeT.seq ?_
  refine CodeT.region (.p (opMove (.t rfl)) rfl <| .p (opNilChk (.t rfl)) rfl <| .p (opField Tryz.fd68_1 (.t rfl)) rfl <| .p (opLoad Tryz.ag46 (.t rfl)) rfl <| .p (opLen rfl Tryz.underlying46 (.t rfl)) rfl <| .p (opAssign (.t rfl)) rfl <| .nil ?_)
  refine EndT.thenN ?_
  refine CodeT.block ?_
  refine CodeT.seq ?_
  refine CodeT.region (.p (opMove (.t rfl)) rfl <| .p (opLss (.t rfl) (.c _)) rfl <| .p (opMove (.t rfl)) rfl <| .g (OpG.gF rfl rfl rfl rfl (fun hg => opMove (.t rfl))) rfl rfl <| .g (OpG.gF rfl rfl rfl rfl (fun hg => opMove (.t rfl))) rfl rfl <| .g (OpG.gF rfl rfl rfl rfl (fun hg => opCall (count_spec) Tryz.cb16 (.cons (.when (.t rfl) hg) .nil))) rfl rfl <| .g (OpG.gF rfl rfl rfl rfl (fun hg => opGeq (.when (.t rfl) hg) (.when (.t rfl) hg))) rfl rfl <| .p (opOr (.t rfl) (.t rfl)) rfl <| .p (opAssign (.t rfl)) rfl <| .nil ?_)
  refine EndT.thenN ?_
  refine CodeT.cond (.t rfl) (fun c0 => ?_) (fun c0 => ?_)
  ·
    refine CodeT.seq ?_
    refine CodeT.region (.p (opAssign (.c _)) rfl <| .p (opAssign .cf) rfl <| .nil ?_)
    refine EndT.thenN ?_
    refine CodeT.ret (EndT.blkR (Post.retR rfl rfl () trivial (fun _ _ _ _ => trivial) rfl (.cons (.rt rfl) ?_ (.cons (.rt rfl) ?_ .nil))))
    · exact VLe.int (by simp [numberO, *])
    · exact VLe.prop (by simp [numberO, *])
  ·
    refine CodeT.seq ?_
    refine CodeT.region (.p (opMove (.t rfl)) rfl <| .p (opMove (.t rfl)) rfl <| .p (opLss (.t rfl) (.t rfl)) rfl <| .p (opAssign (.t rfl)) rfl <| .nil ?_)
    refine EndT.thenN ?_
    refine CodeT.cond (.t rfl) (fun c1 => ?_) (fun c1 => ?_)
    ·
      refine CodeT.seq ?_
      obtain ⟨j, rfl⟩ : ∃ j : Nat, f = (j : Int) := ⟨f.toNat, by omega⟩
      obtain ⟨x, hx⟩ := getElem?_lt (xs := m.Imports) (k := j) (by omega)
      refine CodeT.region (.p (opMove (.t rfl)) rfl <| .p (opNilChk (.t rfl)) rfl <| .p (opField Tryz.fd68_1 (.t rfl)) rfl <| .p (opLoad Tryz.ag46 (.t rfl)) rfl <| .p (opMove (.t rfl)) rfl <| .p (opIndexAddr Tryz.underlying46 Tryz.cz99 rfl (.t rfl) (.t rfl) rfl (by assumption)) rfl <| .p (opField Tryz.fd99_2 (.t rfl)) rfl <| .p (opLoad Tryz.ag3 (.t rfl)) rfl <| .p (opAssign (.t rfl)) rfl <| .p (opAssign .ct) rfl <| .nil ?_)
      refine EndT.thenN ?_
      refine CodeT.ret (EndT.blkR (Post.retR rfl rfl () trivial (fun _ _ _ _ => trivial) rfl (.cons (.rt rfl) ?_ (.cons (.rt rfl) ?_ .nil))))
      · exact VLe.int (by rw [numberO_import (by omega) hx]; rfl)
      · exact VLe.prop (by rw [numberO_import (by omega) hx]; simp)
    ·
      refine CodeT.seq ?_
      obtain ⟨j, rfl⟩ : ∃ j : Nat, f = (m.Imports.length : Int) + (j : Int) := ⟨(f - m.Imports.length).toNat, by omega⟩
      have hcm : countM m = (m.Imports.length : Int) + (m.Funcs.length : Int) := rfl
      obtain ⟨x, hx⟩ := getElem?_lt (xs := m.Funcs) (k := j) (by omega)
      refine CodeT.region (.p (opMove (.t rfl)) rfl <| .p (opNilChk (.t rfl)) rfl <| .p (opField Tryz.fd68_2 (.t rfl)) rfl <| .p (opLoad Tryz.ag66 (.t rfl)) rfl <| .p (opMove (.t rfl)) rfl <| .p (opMove (.t rfl)) rfl <| .p (opSubF (.t rfl) (.t rfl) (fits_i64 (by omega) (by omega))) rfl <| .p (opIndexAddr (j := j) Tryz.underlying66 Tryz.cz83 rfl (.t rfl) (.t rfl) (by omega) (by assumption)) rfl <| .p (opField Tryz.fd83_0 (.t rfl)) rfl <| .p (opLoad Tryz.ag3 (.t rfl)) rfl <| .p (opAssign (.t rfl)) rfl <| .p (opAssign .ct) rfl <| .nil ?_)
      refine EndT.thenN ?_
      refine CodeT.ret (EndT.blkR (Post.retR rfl rfl () trivial (fun _ _ _ _ => trivial) rfl (.cons (.rt rfl) ?_ (.cons (.rt rfl) ?_ .nil))))
      · exact VLe.int (by rw [numberO_func hx]; rfl)
      · exact VLe.prop (by rw [numberO_func hx]; simp)

theorem msig_spec {m : ModD} {f : Int} : FnP Tryz.prog 30 [ptrV (encMod m), intV .i64 f] (tupV [aggV (encSig ((sigO m f).getD ⟨[], []⟩)), propV (sigO m f).isSome]) := by
  refine FnE.intro 37 Tryz.func30 rfl rfl rfl fun w0 S0 M => ?_
  refine CodeT.fact (t := 0) rfl (fun S w v h => modLens h) fun hl => ?_
  have hl1 := hl.sigs; have hl2 := hl.imports; have hl3 := hl.funcs; have hl4 := hl.mems; have hl5 := hl.globals; have hl6 := hl.exports; have hl7 := hl.elems; have hl8 := hl.datas
  refine CodeT.seq ?_
  refine CodeT.region (.n (opAlloc Tryz.zb77) rfl <| fun b4 _ => .p (opAssign .cf) rfl <| .nil ?_)
  refine EndT.thenN ?_
  refine CodeT.seq ?_
  refine CodeT.seq ?_
  refine CodeT.region (.p (opMove (.t rfl)) rfl <| .p (opEqlNil Tryz.underlying57 (.t rfl)) rfl <| .nil ?_)
  refine EndT.thenN ?_
  refine CodeT.cond (.t rfl) (fun c0 => ?_) (fun c0 => ?_)
  ·
    exact c0.elim
  ·
    refine CodeT.skip (EndT.thenN ?_)
    refine CodeT.seq ?_
    refine CodeT.region (.p (opMove (.t rfl)) rfl <| .p (opMove (.t rfl)) rfl <| .p (opCall (number_spec) Tryz.cb38 (.cons (.t rfl) (.cons (.t rfl) .nil))) rfl <| .p (opMove (.t rfl)) rfl <| .p (opExtract (.t rfl) rfl) rfl <| .p (opExtract (.t rfl) rfl) rfl <| .p (opAssign (.t rfl)) rfl <| .p (opAssign (.t rfl)) rfl <| .nil ?_)
    refine EndT.thenN ?_
    refine CodeT.seq ?_
    refine CodeT.seq ?_
    refine CodeT.region (.p (opMove (.t rfl)) rfl <| .p (opNot (.t rfl)) rfl <| .p (opMove (.t rfl)) rfl <| .g (OpG.gF rfl rfl rfl rfl (fun hg => opMove (.t rfl))) rfl rfl <| .g (OpG.gF rfl rfl rfl rfl (fun hg => opMove (.t rfl))) rfl rfl <| .g (OpG.gF rfl rfl rfl rfl (fun hg => opNilChk (.when (.t rfl) hg))) rfl rfl <| .g (OpG.gF rfl rfl rfl rfl (fun hg => opField Tryz.fd68_0 (.when (.t rfl) hg))) rfl rfl <| .g (OpG.gF rfl rfl rfl rfl (fun hg => opLoad Tryz.ag65 (.when (.t rfl) hg))) rfl rfl <| .g (OpG.gF rfl rfl rfl rfl (fun hg => opLen rfl Tryz.underlying65 (.when (.t rfl) hg))) rfl rfl <| .g (OpG.gF rfl rfl rfl rfl (fun hg => opCall (has_spec) Tryz.cb39 (.cons (.when (.t rfl) hg) (.cons (.when (.t rfl) hg) .nil)))) rfl rfl <| .g (OpG.gF rfl rfl rfl rfl (fun hg => opNot (.when (.t rfl) hg))) rfl rfl <| .p (opOr (.t rfl) (.t rfl)) rfl <| .nil ?_)
    refine EndT.thenN ?_
    refine CodeT.cond (.t rfl) (fun c1 => ?_) (fun c1 => ?_)
    ·
      refine CodeT.seq ?_
      refine CodeT.region (.p (opBuild Tryz.pl77 Tryz.zb77 .nil rfl) rfl <| .s (opStoreOA (i := 0) Tryz.cz77 rfl (.t rfl) (.t rfl) rfl rfl rfl) <| .p (opAssign .cf) rfl <| .nil ?_)
      refine EndT.thenN ?_
      refine CodeT.ret (EndT.thenR (Post.retR rfl rfl () trivial (fun _ _ _ _ => trivial) rfl (.cons (.ra (i := 0) Tryz.ag77 Tryz.cz77 rfl rfl rfl rfl) ?_ (.cons (.rt rfl) ?_ .nil))))
      · rw [sigO_none c1]; exact VLe.agg2 (sliceV_nil _ _) (sliceV_nil _ _)
      · exact VLe.prop (by rw [sigO_none c1]; simp)
    ·
      refine CodeT.skip (EndT.thenN ?_)
      refine CodeT.seq ?_
      obtain ⟨n, hn⟩ : ∃ n, numberO m f = some n := Option.isSome_iff_exists.1 (Classical.byContradiction fun h => c1 (.inl h))
      have hin : InP n m.Sigs.length := Classical.byContradiction fun h => c1 (.inr (by rw [hn]; exact h))
      obtain ⟨j, hj⟩ : ∃ j : Nat, n = (j : Int) := ⟨n.toNat, by have := hin.1; omega⟩
      obtain ⟨x, hx⟩ := getElem?_lt (xs := m.Sigs) (k := j) (by have := hin.2; omega)
      refine CodeT.region (.p (opMove (.t rfl)) rfl <| .p (opNilChk (.t rfl)) rfl <| .p (opField Tryz.fd68_0 (.t rfl)) rfl <| .p (opLoad Tryz.ag65 (.t rfl)) rfl <| .p (opMove (.t rfl)) rfl <| .p (opIndexAddr (j := j) Tryz.underlying65 Tryz.cz77 rfl (.t rfl) (.t rfl) (by rw [hn, hj]; rfl) (by assumption)) rfl <| .p (opLoadA Tryz.ag77 Tryz.cz77 rfl (.t rfl) rfl) rfl <| .s (opStoreOA (i := 0) Tryz.cz77 rfl (.t rfl) (.t rfl) rfl rfl rfl) <| .p (opAssign .ct) rfl <| .nil ?_)
      refine EndT.thenN ?_
      refine CodeT.ret (Post.retR rfl rfl () trivial (fun _ _ _ _ => trivial) rfl (.cons (.ra (i := 0) Tryz.ag77 Tryz.cz77 rfl rfl rfl rfl) ?_ (.cons (.rt rfl) ?_ .nil)))
      · rw [sigO_some hn hj hx]; exact VLe.refl _
      · exact VLe.prop (by rw [sigO_some hn hj hx]; simp)

theorem start_spec {m : ModD} : FnP Tryz.prog 63 [ptrV (encMod m)] (intV .i64 (startE m)) := by
  refine FnE.intro 30 Tryz.func63 rfl rfl rfl fun w0 S0 M => ?_
  refine CodeT.fact (t := 0) rfl (fun S w v h => modLens h) fun hl => ?_
  have hl1 := hl.sigs; have hl2 := hl.imports; have hl3 := hl.funcs; have hl4 := hl.mems; have hl5 := hl.globals; have hl6 := hl.exports; have hl7 := hl.elems; have hl8 := hl.datas
  refine CodeT.seq ?_
  refine CodeT.region (.p (opAssign (.c _)) rfl <| .nil ?_)
  refine EndT.thenN ?_
  refine CodeT.seq ?_
  refine CodeT.seq ?_
  refine CodeT.region (.p (opMove (.t rfl)) rfl <| .p (opNilChk (.t rfl)) rfl <| .p (opField Tryz.fd68_7 (.t rfl)) rfl <| .p (opLoad Tryz.ag3 (.t rfl)) rfl <| .p (opEql (.t rfl) (.c _)) rfl <| .nil ?_)
  refine EndT.thenN ?_
  refine CodeT.cond (.t rfl) (fun c0 => ?_) (fun c0 => ?_)
  ·
    refine CodeT.seq ?_
    refine CodeT.region (.p (opAssign (.c _)) rfl <| .nil ?_)
    refine EndT.thenN ?_
    refine CodeT.ret (EndT.thenR (Post.retP rfl rfl ?_))
    exact VLe.int (by simp [startE, *])
  ·
    refine CodeT.skip (EndT.thenN ?_)
    refine CodeT.seq ?_
    refine CodeT.region (.p (opMove (.t rfl)) rfl <| .p (opMove (.t rfl)) rfl <| .p (opNilChk (.t rfl)) rfl <| .p (opField Tryz.fd68_7 (.t rfl)) rfl <| .p (opLoad Tryz.ag3 (.t rfl)) rfl <| .p (opCall (msig_spec) Tryz.cb30 (.cons (.t rfl) (.cons (.t rfl) .nil))) rfl <| .p (opMove (.t rfl)) rfl <| .p (opExtract (.t rfl) rfl) rfl <| .p (opExtract (.t rfl) rfl) rfl <| .n (opAlloc Tryz.zb77) rfl <| fun b3 _ => .s (opStoreOA (i := 0) Tryz.cz77 rfl (.t rfl) (.t rfl) rfl rfl rfl) <| .p (opAssign (.t rfl)) rfl <| .nil ?_)
    refine EndT.thenN ?_
    refine CodeT.share (t := 3) (i := 0) rfl rfl ?_
    refine CodeT.fact (t := 17) rfl (fun S w v h => And.intro (aggV_len h 0 rfl) (aggV_len h 1 rfl)) fun hs2 => ?_
    obtain ⟨hs3, hs4⟩ := hs2
    refine CodeT.seq ?_
    refine CodeT.seq ?_
    refine CodeT.region (.p (opMove (.t rfl)) rfl <| .p (opNot (.t rfl)) rfl <| .nil ?_)
    refine EndT.thenN ?_
    refine CodeT.cond (.t rfl) (fun c1 => ?_) (fun c1 => ?_)
    ·
      refine CodeT.seq ?_
      refine CodeT.region (.p (opAssign (.c _)) rfl <| .nil ?_)
      refine EndT.thenN ?_
      refine CodeT.ret (EndT.thenR (Post.retP rfl rfl ?_))
      exact VLe.int (startE_none c0 c1).symm
    ·
      refine CodeT.skip (EndT.thenN ?_)
      refine CodeT.seq ?_
      refine CodeT.region (.p (opField Tryz.fd77_0 (.t rfl)) rfl <| .p (opLoad Tryz.ag74 (.t rfl)) rfl <| .p (opLen rfl Tryz.underlying74 (.t rfl)) rfl <| .p (opField Tryz.fd77_1 (.t rfl)) rfl <| .p (opLoad Tryz.ag74 (.t rfl)) rfl <| .p (opLen rfl Tryz.underlying74 (.t rfl)) rfl <| .p (opAddF (.t rfl) (.t rfl) (fits_i64 (by omega) (by omega))) rfl <| .p (opGtr (.t rfl) (.c _)) rfl <| .p (opCall (when_spec) Tryz.cb73 (.cons (.t rfl) (.cons (.c _) .nil))) rfl <| .p (opAssign (.t rfl)) rfl <| .nil ?_)
      refine EndT.thenN ?_
      refine CodeT.ret (Post.retP rfl rfl ?_)
      exact VLe.int (startE_some c0 c1).symm

theorem counts_spec {m : ModD} : FnP Tryz.prog 83 [ptrV (encMod m)] (aggV [intV .i64 (cnt m 0), intV .i64 (cnt m 1), intV .i64 (cnt m 2), intV .i64 (cnt m 3)]) := by
  refine FnE.intro 22 Tryz.func83 rfl rfl rfl fun w0 S0 M => ?_
  refine CodeT.fact (t := 0) rfl (fun S w v h => modLens h) fun hl => ?_
  have hl1 := hl.sigs; have hl2 := hl.imports; have hl3 := hl.funcs; have hl4 := hl.mems; have hl5 := hl.globals; have hl6 := hl.exports; have hl7 := hl.elems; have hl8 := hl.datas
  refine CodeT.seq ?_
  refine CodeT.region (.n (opAlloc Tryz.zb92) rfl <| fun b2 _ => .nil ?_)
  refine EndT.thenN ?_
  refine CodeT.seq ?_
  refine CodeT.draw 18 2 Tryz.mixed (by kernel_rfl) (.p (opMove (.t rfl)) <| .p (opCall (count_spec) Tryz.cb16 (.cons (.t rfl) .nil)) <| .p (opMove (.t rfl)) <| .p (opNilChk (.t rfl)) <| .p (opField Tryz.fd68_3 (.t rfl)) <| .p (opLoad Tryz.ag3 (.t rfl)) <| .p (opAdd (.t rfl) (.c _)) <| .p (opMin (.t rfl) (.c _)) <| .p (opMove (.t rfl)) <| .p (opNilChk (.t rfl)) <| .p (opField Tryz.fd68_4 (.t rfl)) <| .p (opLoad Tryz.ag47 (.t rfl)) <| .p (opLen rfl Tryz.underlying47 (.t rfl)) <| .p (opMove (.t rfl)) <| .p (opNilChk (.t rfl)) <| .p (opField Tryz.fd68_5 (.t rfl)) <| .p (opLoad Tryz.ag48 (.t rfl)) <| .p (opLen rfl Tryz.underlying48 (.t rfl)) <| .nil) (.p (opBuildArr Tryz.ar92 Tryz.zb92 (.cons (.t rfl) (.cons (.t rfl) (.cons (.t rfl) (.cons (.t rfl) .nil)))) rfl) rfl <| .s (opStoreOA (i := 0) Tryz.cz92 rfl (.t rfl) (.t rfl) rfl rfl rfl) <| .nil ?_)
  refine EndT.thenN ?_
  refine CodeT.ret (Post.retR1 rfl () trivial (fun _ _ _ _ => trivial) (.ra (i := 0) Tryz.ag92 Tryz.cz92 rfl rfl rfl rfl) ?_)
  exact VLe.refl _

theorem exportscc_spec {x y : ExportD} : FnP Tryz.prog 86 [aggV (encExport y), ptrV (encExport x)] (propV (y.Name = x.Name)) := by
  refine FnE.intro 9 Tryz.func86 rfl rfl rfl fun w0 S0 M => ?_
  refine CodeT.seq ?_
  refine CodeT.region (.p (opBoxA (.t rfl)) rfl <| .p (opAssign .cf) rfl <| .nil ?_)
  refine EndT.thenN ?_
  refine CodeT.seq ?_
  refine CodeT.region (.p (opField Tryz.fd90_0 (.t rfl)) rfl <| .p (opLoad Tryz.ag9 (.t rfl)) rfl <| .p (opField Tryz.fd90_0 (.t rfl)) rfl <| .p (opLoad Tryz.ag9 (.t rfl)) rfl <| .p (opEqlS (.t rfl) (.t rfl)) rfl <| .p (opAssign (.t rfl)) rfl <| .nil ?_)
  refine EndT.thenN ?_
  refine CodeT.ret (Post.retP rfl rfl ?_)
  first | exact VLe.refl _ | exact VLe.int (by omega) | exact VLe.prop (by omega) | exact VLe.prop (by simp_all) | exact VLe.prop (by simp; omega)

theorem exportsc_spec {m : ModD} {i : Nat} (hp0 : i < m.Exports.length) : FnP Tryz.prog 84 [intV .i64 (i : Int), ptrV [ptrV (encMod m)], ptrV [intV .i64 (cnt m 0), intV .i64 (cnt m 1), intV .i64 (cnt m 2), intV .i64 (cnt m 3)]] (intV .i64 (exportE m i)) := by
  refine FnE.intro 46 Tryz.func84 rfl rfl rfl fun w0 S0 M => ?_
  refine CodeT.fact (t := 1) rfl (fun S w v h => modLens2 h) fun hl => ?_
  have hl1 := hl.sigs; have hl2 := hl.imports; have hl3 := hl.funcs; have hl4 := hl.mems; have hl5 := hl.globals; have hl6 := hl.exports; have hl7 := hl.elems; have hl8 := hl.datas
  obtain ⟨x, hx⟩ := getElem?_lt hp0
  refine CodeT.seq ?_
  refine CodeT.region (.p (opAssign (.c _)) rfl <| .nil ?_)
  refine EndT.thenN ?_
  refine CodeT.seq ?_
  refine CodeT.region (.p (opLoad Tryz.ag57 (.t rfl)) rfl <| .p (opNilChk (.t rfl)) rfl <| .p (opField Tryz.fd68_6 (.t rfl)) rfl <| .p (opLoad Tryz.ag49 (.t rfl)) rfl <| .p (opMove (.t rfl)) rfl <| .p (opIndexAddr Tryz.underlying49 Tryz.cz90 rfl (.t rfl) (.t rfl) rfl (by assumption)) rfl <| .p (opLoadA Tryz.ag90 Tryz.cz90 rfl (.t rfl) rfl) rfl <| .n (opAlloc Tryz.zb90) rfl <| fun b5 _ => .s (opStoreOA (i := 0) Tryz.cz90 rfl (.t rfl) (.t rfl) rfl rfl rfl) <| .nil ?_)
  refine EndT.thenN ?_
  refine CodeT.share (t := 5) (i := 0) rfl rfl ?_
  refine CodeT.seq ?_
  refine CodeT.region (.p (opLoad Tryz.ag57 (.t rfl)) rfl <| .p (opNilChk (.t rfl)) rfl <| .p (opField Tryz.fd68_6 (.t rfl)) rfl <| .p (opLoad Tryz.ag49 (.t rfl)) rfl <| .p (opMove (.t rfl)) rfl <| .p (opSliceHi Tryz.underlying49 Tryz.cz90 rfl (.t rfl) (.t rfl) rfl (by omega)) rfl <| .p (opMakeFunc (A := ExportD) (ok := fun _ => True) (arg := fun y => [aggV (encExport y)]) (res := fun y => propV (y.Name = x.Name)) Tryz.cb86 .nil (.cons (.t rfl) .nil) (fun y _ => exportscc_spec)) rfl <| .p (opCall (conExport_spec) Tryz.cb85 (.cons (.t rfl) (.cons (.t rfl) .nil))) rfl <| .p (opAssign (.t rfl)) rfl <| .nil ?_)
  refine EndT.thenN ?_
  refine CodeT.seq ?_
  refine CodeT.seq ?_
  refine CodeT.region (.p (opField Tryz.fd90_0 (.t rfl)) rfl <| .p (opLoad Tryz.ag9 (.t rfl)) rfl <| .p (opCall (named_spec) Tryz.cb76 (.cons (.t rfl) .nil)) rfl <| .p (opNot (.t rfl)) rfl <| .p (opMove (.t rfl)) rfl <| .g (OpG.gF rfl rfl rfl rfl (fun hg => opMove (.t rfl))) rfl rfl <| .p (opOr (.t rfl) (.t rfl)) rfl <| .nil ?_)
  refine EndT.thenN ?_
  refine CodeT.cond (.t rfl) (fun c0 => ?_) (fun c0 => ?_)
  ·
    refine CodeT.seq ?_
    refine CodeT.region (.p (opAssign (.c _)) rfl <| .nil ?_)
    refine EndT.thenN ?_
    refine CodeT.ret (EndT.thenR (Post.retP rfl rfl ?_))
    exact VLe.int (exportE_name hx c0).symm
  ·
    refine CodeT.skip (EndT.thenN ?_)
    refine CodeT.seq ?_
    refine CodeT.draw 13 5 Tryz.mixed (by kernel_rfl) (.p (opField Tryz.fd90_1 (.t rfl)) <| .p (opLoad Tryz.ag3 (.t rfl)) <| .p (opCall (has_spec) Tryz.cb39 (.cons (.t rfl) (.cons (.c _) .nil))) <| .p (opNot (.t rfl)) <| .p (opMove (.t rfl)) <| .cons (OpG.gF rfl rfl rfl rfl (fun hg => opField Tryz.fd90_2 (.t rfl))) <| .cons (OpG.gF rfl rfl rfl rfl (fun hg => opLoad Tryz.ag3 (.when (.t rfl) hg))) <| .cons (OpG.gF rfl rfl rfl rfl (fun hg => opField Tryz.fd90_1 (.t rfl))) <| .cons (OpG.gF rfl rfl rfl rfl (fun hg => opLoad Tryz.ag3 (.when (.t rfl) hg))) <| .cons (OpG.gF rfl rfl rfl rfl (fun hg => opMin (.when (.t rfl) hg) (.c _))) <| .cons (OpG.gF rfl rfl rfl rfl (fun hg => opMax (.when (.t rfl) hg) (.c _))) <| .cons (OpG.gF rfl rfl rfl rfl (fun hg => opIndexAddrA (kindJ x.Kind) Tryz.underlying92 Tryz.cz3 rfl (.t rfl) (.when (.t rfl) hg) (by unfold kindJ; omega) (by unfold kindJ; omega))) <| .cons (OpG.gF rfl rfl rfl rfl (fun hg => opLoad Tryz.ag3 (.le (.when (.t rfl) hg) (ptrV_at (cnt_at m (kindJ x.Kind) (by unfold kindJ; omega)))))) <| .nil) (.g (OpG.gF rfl rfl rfl rfl (fun hg => opCall (has_spec) Tryz.cb39 (.cons (.when (.t rfl) hg) (.cons (.when (.t rfl) hg) .nil)))) rfl rfl <| .g (OpG.gF rfl rfl rfl rfl (fun hg => opNot (.when (.t rfl) hg))) rfl rfl <| .p (opOr (.t rfl) (.t rfl)) rfl <| .p (opCall (when_spec) Tryz.cb73 (.cons (.t rfl) (.cons (.c _) .nil))) rfl <| .p (opAssign (.t rfl)) rfl <| .nil ?_)
    refine EndT.thenN ?_
    refine CodeT.ret (Post.retP rfl rfl ?_)
    exact VLe.int (exportE_rest hx c0).symm

theorem exports_spec {m : ModD} : FnP Tryz.prog 62 [ptrV (encMod m)] (intV .i64 (exportsE m)) := by
  refine FnE.intro 13 Tryz.func62 rfl rfl rfl fun w0 S0 M => ?_
  refine CodeT.fact (t := 0) rfl (fun S w v h => modLens h) fun hl => ?_
  have hl1 := hl.sigs; have hl2 := hl.imports; have hl3 := hl.funcs; have hl4 := hl.mems; have hl5 := hl.globals; have hl6 := hl.exports; have hl7 := hl.elems; have hl8 := hl.datas
  refine CodeT.seq ?_
  refine CodeT.region (.p (opBox (.t rfl)) rfl <| .p (opAssign (.c _)) rfl <| .nil ?_)
  refine EndT.thenN ?_
  refine CodeT.seq ?_
  refine CodeT.region (.p (opLoad Tryz.ag57 (.t rfl)) rfl <| .p (opCall (counts_spec) Tryz.cb83 (.cons (.t rfl) .nil)) rfl <| .n (opAlloc Tryz.zb92) rfl <| fun b3 _ => .s (opStoreOA (i := 0) Tryz.cz92 rfl (.t rfl) (.t rfl) rfl rfl rfl) <| .nil ?_)
  refine EndT.thenN ?_
  refine CodeT.share (t := 3) (i := 0) rfl rfl ?_
  refine CodeT.seq ?_
  refine CodeT.region (.p (opLoad Tryz.ag57 (.t rfl)) rfl <| .p (opNilChk (.t rfl)) rfl <| .p (opField Tryz.fd68_6 (.t rfl)) rfl <| .p (opLoad Tryz.ag49 (.t rfl)) rfl <| .p (opLen rfl Tryz.underlying49 (.t rfl)) rfl <| .p (opMakeFunc (A := Nat) (ok := fun i => i < m.Exports.length) (arg := fun i => [intV .i64 (i : Int)]) (res := fun i => intV .i64 (exportE m i)) Tryz.cb84 .nil (.cons (.t rfl) (.cons (.t rfl) .nil)) (fun i hi => exportsc_spec hi)) rfl <| .p (opCall (many_spec (by first | assumption | omega)) Tryz.cb71 (.cons (.t rfl) (.cons (.c _) (.cons (.t rfl) .nil)))) rfl <| .p (opAssign (.t rfl)) rfl <| .nil ?_)
  refine EndT.thenN ?_
  refine CodeT.ret (Post.retP rfl rfl ?_)
  exact VLe.refl _

theorem elemscc_spec {m : ModD} {f : Int} : FnP Tryz.prog 89 [intV .i64 f, ptrV [ptrV (encMod m)]] (propV (¬ InP f (countM m))) := by
  refine FnE.intro 9 Tryz.func89 rfl rfl rfl fun w0 S0 M => ?_
  refine CodeT.seq ?_
  refine CodeT.region (.p (opAssign .cf) rfl <| .nil ?_)
  refine EndT.thenN ?_
  refine CodeT.seq ?_
  refine CodeT.region (.p (opMove (.t rfl)) rfl <| .p (opLoad Tryz.ag57 (.t rfl)) rfl <| .p (opCall (count_spec) Tryz.cb16 (.cons (.t rfl) .nil)) rfl <| .p (opCall (has_spec) Tryz.cb39 (.cons (.t rfl) (.cons (.t rfl) .nil))) rfl <| .p (opNot (.t rfl)) rfl <| .p (opAssign (.t rfl)) rfl <| .nil ?_)
  refine EndT.thenN ?_
  refine CodeT.ret (Post.retP rfl rfl ?_)
  first | exact VLe.refl _ | exact VLe.int (by omega) | exact VLe.prop (by omega) | exact VLe.prop (by simp_all) | exact VLe.prop (by simp; omega)

theorem elemsc_spec {m : ModD} {i : Nat} (hp0 : i < m.Elems.length) : FnP Tryz.prog 87 [intV .i64 (i : Int), ptrV [ptrV (encMod m)]] (intV .i64 (onI m.Elems (elemE m) i)) := by
  refine FnE.intro 35 Tryz.func87 rfl rfl rfl fun w0 S0 M => ?_
  refine CodeT.fact (t := 1) rfl (fun S w v h => modLens2 h) fun hl => ?_
  have hl1 := hl.sigs; have hl2 := hl.imports; have hl3 := hl.funcs; have hl4 := hl.mems; have hl5 := hl.globals; have hl6 := hl.exports; have hl7 := hl.elems; have hl8 := hl.datas
  obtain ⟨x, hx⟩ := getElem?_lt hp0
  refine CodeT.seq ?_
  refine CodeT.region (.p (opAssign (.c _)) rfl <| .nil ?_)
  refine EndT.thenN ?_
  refine CodeT.seq ?_
  refine CodeT.region (.p (opLoad Tryz.ag57 (.t rfl)) rfl <| .p (opNilChk (.t rfl)) rfl <| .p (opField Tryz.fd68_8 (.t rfl)) rfl <| .p (opLoad Tryz.ag50 (.t rfl)) rfl <| .p (opMove (.t rfl)) rfl <| .p (opIndexAddr Tryz.underlying50 Tryz.cz95 rfl (.t rfl) (.t rfl) rfl (by assumption)) rfl <| .p (opLoadA Tryz.ag95 Tryz.cz95 rfl (.t rfl) rfl) rfl <| .n (opAlloc Tryz.zb95) rfl <| fun b4 _ => .s (opStoreOA (i := 0) Tryz.cz95 rfl (.t rfl) (.t rfl) rfl rfl rfl) <| .nil ?_)
  refine EndT.thenN ?_
  refine CodeT.share (t := 4) (i := 0) rfl rfl ?_
  refine CodeT.seq ?_
  refine CodeT.seq ?_
  refine CodeT.region (.p (opField Tryz.fd95_1 (.t rfl)) rfl <| .p (opLoad Tryz.ag93 (.t rfl)) rfl <| .p (opLen rfl Tryz.underlying93 (.t rfl)) rfl <| .p (opGtr (.t rfl) (.c _)) rfl <| .nil ?_)
  refine EndT.thenN ?_
  refine CodeT.cond (.t rfl) (fun c0 => ?_) (fun c0 => ?_)
  ·
    refine CodeT.seq ?_
    refine CodeT.region (.p (opAssign (.c _)) rfl <| .nil ?_)
    refine EndT.thenN ?_
    refine CodeT.ret (EndT.thenR (Post.retP rfl rfl ?_))
    exact VLe.int (by rw [onI_eq hx]; simp [elemE, *])
  ·
    refine CodeT.skip (EndT.thenN ?_)
    refine CodeT.seq ?_
    refine CodeT.region (.p (opField Tryz.fd95_1 (.t rfl)) rfl <| .p (opLoad Tryz.ag93 (.t rfl)) rfl <| .p (opMakeFunc (A := Int) (ok := fun _ => True) (arg := fun f => [intV .i64 f]) (res := fun f => propV (¬ InP f (countM m))) Tryz.cb89 .nil (.cons (.t rfl) .nil) (fun f _ => elemscc_spec)) rfl <| .p (opCall (conInt_spec) Tryz.cb88 (.cons (.t rfl) (.cons (.t rfl) .nil))) rfl <| .p (opAssign (.t rfl)) rfl <| .nil ?_)
    refine EndT.thenN ?_
    refine CodeT.seq ?_
    refine CodeT.region (.p (opLoad Tryz.ag57 (.t rfl)) rfl <| .p (opNilChk (.t rfl)) rfl <| .p (opField Tryz.fd68_3 (.t rfl)) rfl <| .p (opLoad Tryz.ag3 (.t rfl)) rfl <| .p (opEql (.t rfl) (.c _)) rfl <| .p (opMove (.t rfl)) rfl <| .g (OpG.gF rfl rfl rfl rfl (fun hg => opMove (.t rfl))) rfl rfl <| .p (opOr (.t rfl) (.t rfl)) rfl <| .p (opMove (.t rfl)) rfl <| .g (OpG.gF rfl rfl rfl rfl (fun hg => opField Tryz.fd95_0 (.t rfl))) rfl rfl <| .g (OpG.gF rfl rfl rfl rfl (fun hg => opLoad Tryz.ag36 (.when (.t rfl) hg))) rfl rfl <| .g (OpG.gF rfl rfl rfl rfl (fun hg => opGtr (.when (.t rfl) hg) (.c _))) rfl rfl <| .p (opOr (.t rfl) (.t rfl)) rfl <| .p (opCall (when_spec) Tryz.cb73 (.cons (.t rfl) (.cons (.c _) .nil))) rfl <| .p (opAssign (.t rfl)) rfl <| .nil ?_)
    refine EndT.thenN ?_
    refine CodeT.ret (Post.retP rfl rfl ?_)
    exact VLe.int (by rw [onI_eq hx]; exact (elemE_rest c0).symm)

theorem elems_spec {m : ModD} : FnP Tryz.prog 64 [ptrV (encMod m)] (intV .i64 (elemsE m)) := by
  refine FnE.intro 10 Tryz.func64 rfl rfl rfl fun w0 S0 M => ?_
  refine CodeT.fact (t := 0) rfl (fun S w v h => modLens h) fun hl => ?_
  have hl1 := hl.sigs; have hl2 := hl.imports; have hl3 := hl.funcs; have hl4 := hl.mems; have hl5 := hl.globals; have hl6 := hl.exports; have hl7 := hl.elems; have hl8 := hl.datas
  refine CodeT.seq ?_
  refine CodeT.region (.p (opBox (.t rfl)) rfl <| .p (opAssign (.c _)) rfl <| .nil ?_)
  refine EndT.thenN ?_
  refine CodeT.seq ?_
  refine CodeT.region (.p (opLoad Tryz.ag57 (.t rfl)) rfl <| .p (opNilChk (.t rfl)) rfl <| .p (opField Tryz.fd68_8 (.t rfl)) rfl <| .p (opLoad Tryz.ag50 (.t rfl)) rfl <| .p (opLen rfl Tryz.underlying50 (.t rfl)) rfl <| .p (opMakeFunc (A := Nat) (ok := fun i => i < m.Elems.length) (arg := fun i => [intV .i64 (i : Int)]) (res := fun i => intV .i64 (onI m.Elems (elemE m) i)) Tryz.cb87 .nil (.cons (.t rfl) .nil) (fun i hi => elemsc_spec hi)) rfl <| .p (opCall (many_spec (by first | assumption | omega)) Tryz.cb71 (.cons (.t rfl) (.cons (.c _) (.cons (.t rfl) .nil)))) rfl <| .p (opAssign (.t rfl)) rfl <| .nil ?_)
  refine EndT.thenN ?_
  refine CodeT.ret (Post.retP rfl rfl ?_)
  exact VLe.refl _

theorem datasc_spec {m : ModD} {i : Nat} (hp0 : i < m.Datas.length) : FnP Tryz.prog 90 [intV .i64 (i : Int), ptrV [ptrV (encMod m)]] (intV .i64 (onI m.Datas (dataE m) i)) := by
  refine FnE.intro 51 Tryz.func90 rfl rfl rfl fun w0 S0 M => ?_
  refine CodeT.fact (t := 1) rfl (fun S w v h => modLens2 h) fun hl => ?_
  have hl1 := hl.sigs; have hl2 := hl.imports; have hl3 := hl.funcs; have hl4 := hl.mems; have hl5 := hl.globals; have hl6 := hl.exports; have hl7 := hl.elems; have hl8 := hl.datas
  obtain ⟨x, hx⟩ := getElem?_lt hp0
  refine CodeT.seq ?_
  refine CodeT.region (.p (opAssign (.c _)) rfl <| .nil ?_)
  refine EndT.thenN ?_
  refine CodeT.seq ?_
  refine CodeT.region (.p (opLoad Tryz.ag57 (.t rfl)) rfl <| .p (opNilChk (.t rfl)) rfl <| .p (opField Tryz.fd68_9 (.t rfl)) rfl <| .p (opLoad Tryz.ag51 (.t rfl)) rfl <| .p (opMove (.t rfl)) rfl <| .p (opIndexAddr Tryz.underlying51 Tryz.cz97 rfl (.t rfl) (.t rfl) rfl (by assumption)) rfl <| .p (opLoadA Tryz.ag97 Tryz.cz97 rfl (.t rfl) rfl) rfl <| .n (opAlloc Tryz.zb97) rfl <| fun b4 _ => .s (opStoreOA (i := 0) Tryz.cz97 rfl (.t rfl) (.t rfl) rfl rfl rfl) <| .nil ?_)
  refine EndT.thenN ?_
  refine CodeT.share (t := 4) (i := 0) rfl rfl ?_
  refine CodeT.seq ?_
  refine CodeT.seq ?_
  refine CodeT.region (.p (opField Tryz.fd97_2 (.t rfl)) rfl <| .p (opLoad Tryz.ag32 (.t rfl)) rfl <| .p (opLen rfl Tryz.underlying32 (.t rfl)) rfl <| .p (opGtr (.t rfl) (.c _)) rfl <| .nil ?_)
  refine EndT.thenN ?_
  refine CodeT.cond (.t rfl) (fun c0 => ?_) (fun c0 => ?_)
  ·
    refine CodeT.seq ?_
    refine CodeT.region (.p (opAssign (.c _)) rfl <| .nil ?_)
    refine EndT.thenN ?_
    refine CodeT.ret (EndT.thenR (Post.retP rfl rfl ?_))
    exact VLe.int (by rw [onI_eq hx]; simp [dataE, *])
  ·
    refine CodeT.skip (EndT.thenN ?_)
    refine CodeT.seq ?_
    refine CodeT.draw 24 12 Tryz.mixed (by kernel_rfl) (.p (opField Tryz.fd97_0 (.t rfl)) <| .p (opLoad Tryz.ag3 (.t rfl)) <| .p (opLoad Tryz.ag57 (.t rfl)) <| .p (opNilChk (.t rfl)) <| .p (opField Tryz.fd68_4 (.t rfl)) <| .p (opLoad Tryz.ag47 (.t rfl)) <| .p (opLen rfl Tryz.underlying47 (.t rfl)) <| .p (opCall (has_spec) Tryz.cb39 (.cons (.t rfl) (.cons (.t rfl) .nil))) <| .p (opNot (.t rfl)) <| .p (opMove (.t rfl)) <| .cons (OpG.gF rfl rfl rfl rfl (fun hg => opLoad Tryz.ag57 (.t rfl))) <| .cons (OpG.gF rfl rfl rfl rfl (fun hg => opNilChk (.when (.t rfl) hg))) <| .cons (OpG.gF rfl rfl rfl rfl (fun hg => opField Tryz.fd68_4 (.when (.t rfl) hg))) <| .cons (OpG.gF rfl rfl rfl rfl (fun hg => opLoad Tryz.ag47 (.when (.t rfl) hg))) <| .cons (OpG.gF rfl rfl rfl rfl (fun hg => opField Tryz.fd97_0 (.t rfl))) <| .cons (OpG.gF rfl rfl rfl rfl (fun hg => opLoad Tryz.ag3 (.when (.t rfl) hg))) <| .cons (OpG.gF rfl rfl rfl rfl (fun hg => opLoad Tryz.ag57 (.t rfl))) <| .cons (OpG.gF rfl rfl rfl rfl (fun hg => opNilChk (.when (.t rfl) hg))) <| .cons (OpG.gF rfl rfl rfl rfl (fun hg => opField Tryz.fd68_4 (.when (.t rfl) hg))) <| .cons (OpG.gF rfl rfl rfl rfl (fun hg => opLoad Tryz.ag47 (.when (.t rfl) hg))) <| .cons (OpG.gF rfl rfl rfl rfl (fun hg => opLen rfl Tryz.underlying47 (.when (.t rfl) hg))) <| .cons (OpG.gF rfl rfl rfl rfl (fun hg => opSubF (.when (.t rfl) hg) (.c _) (fits_i64 (by omega) (by omega)))) <| .cons (OpG.gF rfl rfl rfl rfl (fun hg => opMin (.when (.t rfl) hg) (.when (.t rfl) hg))) <| .cons (OpG.gF rfl rfl rfl rfl (fun hg => opMax (.when (.t rfl) hg) (.c _))) <| .nil) (.g (OpG.gF rfl rfl rfl rfl (fun hg => opIndexAddr (j := x.Mem.toNat) Tryz.underlying47 Tryz.cz168 rfl (.when (.t rfl) hg) (.when (.t rfl) hg) (data_at (Classical.not_not.1 hg)) (data_mem (Classical.not_not.1 hg)))) rfl rfl <| .g (OpG.gF rfl rfl rfl rfl (fun hg => opField Tryz.fd168_2 (.when (.t rfl) hg))) rfl rfl <| .g (OpG.gF rfl rfl rfl rfl (fun hg => opLoad Tryz.ag4 (.when (.t rfl) hg))) rfl rfl <| .g (OpG.gF rfl rfl rfl rfl (fun hg => opNot (.when (.t rfl) hg))) rfl rfl <| .g (OpG.gF rfl rfl rfl rfl (fun hg => opMove (.when (.t rfl) hg))) rfl rfl <| .g (OpG.hT rfl rfl rfl rfl (fun hg => opField Tryz.fd97_1 (.t rfl))) rfl rfl <| .g (OpG.hT rfl rfl rfl rfl (fun hg => opLoad Tryz.ag36 (.when (.t rfl) hg))) rfl rfl <| .g (OpG.hT rfl rfl rfl rfl (fun hg => opGtr (.when (.t rfl) hg) (.c _))) rfl rfl <| .g (OpG.gF rfl rfl rfl rfl (fun hg => opAnd (.when (.t rfl) hg) (.under (.t rfl) hg))) rfl rfl <| .p (opOr (.t rfl) (.t rfl)) rfl <| .p (opCall (when_spec) Tryz.cb73 (.cons (.t rfl) (.cons (.c _) .nil))) rfl <| .p (opAssign (.t rfl)) rfl <| .nil ?_)
    refine EndT.thenN ?_
    refine CodeT.ret (Post.retP rfl rfl ?_)
    exact VLe.int (by rw [onI_eq hx]; exact (dataE_rest c0).symm)

theorem datas_spec {m : ModD} : FnP Tryz.prog 65 [ptrV (encMod m)] (intV .i64 (datasE m)) := by
  refine FnE.intro 10 Tryz.func65 rfl rfl rfl fun w0 S0 M => ?_
  refine CodeT.fact (t := 0) rfl (fun S w v h => modLens h) fun hl => ?_
  have hl1 := hl.sigs; have hl2 := hl.imports; have hl3 := hl.funcs; have hl4 := hl.mems; have hl5 := hl.globals; have hl6 := hl.exports; have hl7 := hl.elems; have hl8 := hl.datas
  refine CodeT.seq ?_
  refine CodeT.region (.p (opBox (.t rfl)) rfl <| .p (opAssign (.c _)) rfl <| .nil ?_)
  refine EndT.thenN ?_
  refine CodeT.seq ?_
  refine CodeT.region (.p (opLoad Tryz.ag57 (.t rfl)) rfl <| .p (opNilChk (.t rfl)) rfl <| .p (opField Tryz.fd68_9 (.t rfl)) rfl <| .p (opLoad Tryz.ag51 (.t rfl)) rfl <| .p (opLen rfl Tryz.underlying51 (.t rfl)) rfl <| .p (opMakeFunc (A := Nat) (ok := fun i => i < m.Datas.length) (arg := fun i => [intV .i64 (i : Int)]) (res := fun i => intV .i64 (onI m.Datas (dataE m) i)) Tryz.cb90 .nil (.cons (.t rfl) .nil) (fun i hi => datasc_spec hi)) rfl <| .p (opCall (many_spec (by first | assumption | omega)) Tryz.cb71 (.cons (.t rfl) (.cons (.c _) (.cons (.t rfl) .nil)))) rfl <| .p (opAssign (.t rfl)) rfl <| .nil ?_)
  refine EndT.thenN ?_
  refine CodeT.ret (Post.retP rfl rfl ?_)
  exact VLe.refl _

theorem fit_spec {m : ModD} : FnP Tryz.prog 48 [ptrV (encMod m)] (tupV [strV (fitP m).1, intV .i64 (fitP m).2]) := by
  refine FnE.intro 52 Tryz.func48 rfl rfl rfl fun w0 S0 M => ?_
  refine CodeT.seq ?_
  refine CodeT.region (.p (opAssign (.s [] rfl rfl)) rfl <| .p (opAssign (.c _)) rfl <| .nil ?_)
  refine EndT.thenN ?_
  refine CodeT.seq ?_
  refine CodeT.seq ?_
  refine CodeT.region (.p (opMove (.t rfl)) rfl <| .p (opEqlNil Tryz.underlying57 (.t rfl)) rfl <| .nil ?_)
  refine EndT.thenN ?_
  refine CodeT.cond (.t rfl) (fun c0 => ?_) (fun c0 => ?_)
  ·
    exact c0.elim
  ·
    refine CodeT.skip (EndT.thenN ?_)
    refine CodeT.seq ?_
    refine CodeT.seq ?_
    refine CodeT.region (.p (opMove (.t rfl)) rfl <| .p (opMakeFunc (A := Unit) (ok := fun _ => True) (arg := fun _ => []) (res := fun _ => intV .i64 (sigsE m)) Tryz.cb56 (.cons (.t rfl) .nil) .nil (fun _ _ => sigs_spec)) rfl <| .p (opBuild Tryz.pl148 Tryz.zb148 (.cons (.s [115, 105, 103, 115] rfl rfl) (.cons (.t rfl) .nil)) rfl) rfl <| .p (opMove (.t rfl)) rfl <| .p (opMakeFunc (A := Unit) (ok := fun _ => True) (arg := fun _ => []) (res := fun _ => intV .i64 (importsE m)) Tryz.cb57 (.cons (.t rfl) .nil) .nil (fun _ _ => imports_spec)) rfl <| .p (opBuild Tryz.pl148 Tryz.zb148 (.cons (.s [105, 109, 112, 111, 114, 116, 115] rfl rfl) (.cons (.t rfl) .nil)) rfl) rfl <| .p (opMove (.t rfl)) rfl <| .p (opMakeFunc (A := Unit) (ok := fun _ => True) (arg := fun _ => []) (res := fun _ => intV .i64 (funcsE m)) Tryz.cb58 (.cons (.t rfl) .nil) .nil (fun _ _ => funcs_spec)) rfl <| .p (opBuild Tryz.pl148 Tryz.zb148 (.cons (.s [102, 117, 110, 99, 115] rfl rfl) (.cons (.t rfl) .nil)) rfl) rfl <| .p (opMove (.t rfl)) rfl <| .p (opMakeFunc (A := Unit) (ok := fun _ => True) (arg := fun _ => []) (res := fun _ => intV .i64 (tableE m)) Tryz.cb59 (.cons (.t rfl) .nil) .nil (fun _ _ => table_spec)) rfl <| .p (opBuild Tryz.pl148 Tryz.zb148 (.cons (.s [116, 97, 98, 108, 101] rfl rfl) (.cons (.t rfl) .nil)) rfl) rfl <| .p (opMove (.t rfl)) rfl <| .p (opMakeFunc (A := Unit) (ok := fun _ => True) (arg := fun _ => []) (res := fun _ => intV .i64 (memsE m)) Tryz.cb60 (.cons (.t rfl) .nil) .nil (fun _ _ => mems_spec)) rfl <| .p (opBuild Tryz.pl148 Tryz.zb148 (.cons (.s [109, 101, 109, 115] rfl rfl) (.cons (.t rfl) .nil)) rfl) rfl <| .p (opMove (.t rfl)) rfl <| .p (opMakeFunc (A := Unit) (ok := fun _ => True) (arg := fun _ => []) (res := fun _ => intV .i64 (globalsE m)) Tryz.cb61 (.cons (.t rfl) .nil) .nil (fun _ _ => globals_spec)) rfl <| .p (opBuild Tryz.pl148 Tryz.zb148 (.cons (.s [103, 108, 111, 98, 97, 108, 115] rfl rfl) (.cons (.t rfl) .nil)) rfl) rfl <| .p (opMove (.t rfl)) rfl <| .p (opMakeFunc (A := Unit) (ok := fun _ => True) (arg := fun _ => []) (res := fun _ => intV .i64 (exportsE m)) Tryz.cb62 (.cons (.t rfl) .nil) .nil (fun _ _ => exports_spec)) rfl <| .p (opBuild Tryz.pl148 Tryz.zb148 (.cons (.s [101, 120, 112, 111, 114, 116, 115] rfl rfl) (.cons (.t rfl) .nil)) rfl) rfl <| .p (opMove (.t rfl)) rfl <| .p (opMakeFunc (A := Unit) (ok := fun _ => True) (arg := fun _ => []) (res := fun _ => intV .i64 (startE m)) Tryz.cb63 (.cons (.t rfl) .nil) .nil (fun _ _ => start_spec)) rfl <| .p (opBuild Tryz.pl148 Tryz.zb148 (.cons (.s [115, 116, 97, 114, 116] rfl rfl) (.cons (.t rfl) .nil)) rfl) rfl <| .p (opMove (.t rfl)) rfl <| .p (opMakeFunc (A := Unit) (ok := fun _ => True) (arg := fun _ => []) (res := fun _ => intV .i64 (elemsE m)) Tryz.cb64 (.cons (.t rfl) .nil) .nil (fun _ _ => elems_spec)) rfl <| .p (opBuild Tryz.pl148 Tryz.zb148 (.cons (.s [101, 108, 101, 109, 115] rfl rfl) (.cons (.t rfl) .nil)) rfl) rfl <| .p (opMove (.t rfl)) rfl <| .p (opMakeFunc (A := Unit) (ok := fun _ => True) (arg := fun _ => []) (res := fun _ => intV .i64 (datasE m)) Tryz.cb65 (.cons (.t rfl) .nil) .nil (fun _ _ => datas_spec)) rfl <| .p (opBuild Tryz.pl148 Tryz.zb148 (.cons (.s [100, 97, 116, 97] rfl rfl) (.cons (.t rfl) .nil)) rfl) rfl <| .p (opBuildArr Tryz.ar149 Tryz.zb149 (.cons (.t rfl) (.cons (.t rfl) (.cons (.t rfl) (.cons (.t rfl) (.cons (.t rfl) (.cons (.t rfl) (.cons (.t rfl) (.cons (.t rfl) (.cons (.t rfl) (.cons (.t rfl) .nil)))))))))) rfl) rfl <| .p (opMove (.c _)) rfl <| .nil ?_)
    refine EndT.thenN ?_
    refine CodeT.block ?_
    refine CodeT.loopO (σ := Nat) (fun _ => []) (fun k => [(40, intV .i64 (k : Int))]) (fun k => k ≤ 10 ∧ NotB (fun p : List UInt8 × Int => p.2 ≠ 0) (partsM m) k) (fun k => 10 - k) 0 ⟨by omega, NotB.zero _ _⟩ rfl ?_ ?_
    · exact (.get rfl (VLe.refl _) (.refl _ _))
    · rintro k ⟨hk, hnot⟩
      refine CodeT.seq ?_
      refine CodeT.region (.p (opLss (.t rfl) (.c _)) rfl <| .nil ?_)
      refine EndT.thenN ?_
      refine CodeT.seq ?_
      refine CodeT.cond (.t rfl) (fun c1 => ?_) (fun c1 => ?_)
      ·
        obtain ⟨p, hp⟩ := getElem?_lt (xs := partsM m) (k := k) (by rw [parts_len]; omega)
        refine CodeT.skip (EndT.thenN ?_)
        refine CodeT.seq ?_
        refine CodeT.block ?_
        refine CodeT.seq ?_
        refine CodeT.region (.p (opIndexA (enc := encPart) (partsM m) Tryz.underlying149 Tryz.cz148 rfl Tryz.ag148 (.t rfl) rfl rfl (.t rfl) rfl (by assumption)) rfl <| .n (opAlloc Tryz.zb148) rfl <| fun b5 _ => .s (opStoreOA (i := 0) Tryz.cz148 rfl (.t rfl) (.t rfl) rfl rfl rfl) <| .nil ?_)
        refine EndT.thenN ?_
        refine CodeT.share (t := 5) (i := 0) rfl rfl ?_
        refine CodeT.seq ?_
        refine CodeT.region (.p (opField Tryz.fd148_1 (.t rfl)) rfl <| .p (opLoad Tryz.ag146 (.t rfl)) rfl <| .p (opCallV () (.t rfl) trivial .nil) rfl <| .p (opAssign (.t rfl)) rfl <| .nil ?_)
        refine EndT.thenN ?_
        refine CodeT.seq ?_
        refine CodeT.region (.p (opMove (.t rfl)) rfl <| .p (opNeq (.t rfl) (.c _)) rfl <| .nil ?_)
        refine EndT.thenN ?_
        refine CodeT.cond (.t rfl) (fun c2 => ?_) (fun c2 => ?_)
        ·
          refine CodeT.seq ?_
          refine CodeT.region (.p (opField Tryz.fd148_0 (.t rfl)) rfl <| .p (opLoad Tryz.ag9 (.t rfl)) rfl <| .p (opMove (.t rfl)) rfl <| .p (opAssign (.t rfl)) rfl <| .p (opAssign (.t rfl)) rfl <| .nil ?_)
          refine EndT.thenN ?_
          refine CodeT.ret (EndT.blkR (EndT.thenR (EndT.thenR (EndT.blkR (EndT.thenR (Post.retR rfl rfl () trivial (fun _ _ _ _ => trivial) rfl (.cons (.rt rfl) ?_ (.cons (.rt rfl) ?_ .nil))))))))
          · exact VLe.of_eq (by rw [fit_at hnot hp c2])
          · exact VLe.of_eq (by rw [fit_at hnot hp c2])
        ·
          refine CodeT.skip (EndT.blkN (EndT.thenN ?_))
          refine CodeT.region (.p (opAddF (.t rfl) (.c _) (fits_i64 (by omega) (by omega))) rfl <| .p (opMove (.t rfl)) rfl <| .nil ?_)
          refine EndT.round (k + 1) ⟨by omega, hnot.succ hp (by assumption)⟩ (by omega) rfl ?_
          exact (.get rfl (VLe.int (by omega)) (.keep 13 rfl rfl))
      ·
        refine CodeT.exit (EndT.thenX (EndT.thenX (EndT.blkX (EndT.thenN ?_))))
        refine CodeT.seq ?_
        refine CodeT.region (.p (opAssign (.s [] rfl rfl)) rfl <| .p (opAssign (.c _)) rfl <| .nil ?_)
        refine EndT.thenN ?_
        refine CodeT.ret (Post.retR rfl rfl () trivial (fun _ _ _ _ => trivial) rfl (.cons (.rt rfl) ?_ (.cons (.rt rfl) ?_ .nil)))
        · exact VLe.of_eq (by rw [fit_none (hnot.all (by rw [parts_len]; omega))])
        · exact VLe.of_eq (by rw [fit_none (hnot.all (by rw [parts_len]; omega))])

theorem fitNil_spec  : FnP Tryz.prog 48 [nilV] (tupV [strV [], intV .i64 12]) := by
  refine FnE.intro 52 Tryz.func48 rfl rfl rfl fun w0 S0 M => ?_
  refine CodeT.seq ?_
  refine CodeT.region (.p (opAssign (.s [] rfl rfl)) rfl <| .p (opAssign (.c _)) rfl <| .nil ?_)
  refine EndT.thenN ?_
  refine CodeT.seq ?_
  refine CodeT.seq ?_
  refine CodeT.region (.p (opMove (.t rfl)) rfl <| .p (opNilEqlNil Tryz.underlying57 (.t rfl)) rfl <| .nil ?_)
  refine EndT.thenN ?_
  refine CodeT.cond (.t rfl) (fun c0 => ?_) (fun c0 => ?_)
  ·
    refine CodeT.seq ?_
    refine CodeT.region (.p (opAssign (.s [] rfl rfl)) rfl <| .p (opAssign (.c _)) rfl <| .nil ?_)
    refine EndT.thenN ?_
    refine CodeT.ret (EndT.thenR (Post.retR rfl rfl () trivial (fun _ _ _ _ => trivial) rfl (.cons (.rt rfl) ?_ (.cons (.rt rfl) ?_ .nil))))
    · first | exact VLe.refl _ | exact VLe.int (by omega) | exact VLe.prop (by omega) | exact VLe.prop (by simp_all) | exact VLe.prop (by simp; omega)
    · first | exact VLe.refl _ | exact VLe.int (by omega) | exact VLe.prop (by omega) | exact VLe.prop (by simp_all) | exact VLe.prop (by simp; omega)
  ·
    exact (c0 trivial).elim

theorem eqType_spec {a b : List UInt8} : FnP Tryz.prog 157 [sliceV 1 encU8 a, sliceV 1 encU8 b] (propV (a = b)) := by
  refine FnE.intro 26 Tryz.func157 rfl rfl rfl fun w0 S0 M => ?_
  refine CodeT.fact (t := 0) rfl (fun S w v h => sliceV_len h) fun hlen => ?_
  refine CodeT.seq ?_
  refine CodeT.region (.p (opAssign .cf) rfl <| .nil ?_)
  refine EndT.thenN ?_
  refine CodeT.seq ?_
  refine CodeT.seq ?_
  refine CodeT.region (.p (opMove (.t rfl)) rfl <| .p (opLen rfl Tryz.underlying74 (.t rfl)) rfl <| .p (opMove (.t rfl)) rfl <| .p (opLen rfl Tryz.underlying74 (.t rfl)) rfl <| .p (opNeq (.t rfl) (.t rfl)) rfl <| .nil ?_)
  refine EndT.thenN ?_
  refine CodeT.cond (.t rfl) (fun c0 => ?_) (fun c0 => ?_)
  ·
    refine CodeT.seq ?_
    refine CodeT.region (.p (opAssign .cf) rfl <| .nil ?_)
    refine EndT.thenN ?_
    refine CodeT.ret (EndT.thenR (Post.retP rfl rfl ?_))
    exact VLe.prop (ne_len c0).symm
  ·
    refine CodeT.skip (EndT.thenN ?_)
    refine CodeT.seq ?_
    refine CodeT.seq ?_
    refine CodeT.region (.p (opMove (.t rfl)) rfl <| .p (opLen rfl Tryz.underlying74 (.t rfl)) rfl <| .p (opMove (.c _)) rfl <| .nil ?_)
    refine EndT.thenN ?_
    refine CodeT.block ?_
    refine CodeT.loopO (σ := Nat) (fun _ => []) (fun k => [(13, intV .i64 (k : Int))]) (fun k => k ≤ a.length ∧ EqB a b k) (fun k => a.length - k) 0 ⟨by omega, EqB.zero _ _⟩ rfl ?_ ?_
    · exact (.get rfl (VLe.refl _) (.refl _ _))
    · rintro k ⟨hk, heq⟩
      refine CodeT.seq ?_
      refine CodeT.region (.p (opLss (.t rfl) (.t rfl)) rfl <| .nil ?_)
      refine EndT.thenN ?_
      refine CodeT.seq ?_
      refine CodeT.cond (.t rfl) (fun c1 => ?_) (fun c1 => ?_)
      ·
        obtain ⟨x, hx⟩ := getElem?_lt (xs := a) (k := k) (by omega)
        obtain ⟨y, hy⟩ := getElem?_lt (xs := b) (k := k) (by omega)
        refine CodeT.skip (EndT.thenN ?_)
        refine CodeT.seq ?_
        refine CodeT.block ?_
        refine CodeT.seq ?_
        refine CodeT.region (.p (opMove (.t rfl)) rfl <| .p (opAssign (.t rfl)) rfl <| .nil ?_)
        refine EndT.thenN ?_
        refine CodeT.seq ?_
        refine CodeT.draw 8 1 Tryz.mixed (by kernel_rfl) (.p (opMove (.t rfl)) <| .p (opMove (.t rfl)) <| .p (opIndexAddr Tryz.underlying74 Tryz.cz70 rfl (.t rfl) (.t rfl) rfl (by assumption)) <| .p (opLoad Tryz.ag70 (.t rfl)) <| .p (opMove (.t rfl)) <| .p (opMove (.t rfl)) <| .p (opIndexAddr Tryz.underlying74 Tryz.cz70 rfl (.t rfl) (.t rfl) rfl (by assumption)) <| .p (opLoad Tryz.ag70 (.t rfl)) <| .nil) (.p (opNeq (.t rfl) (.t rfl)) rfl <| .nil ?_)
        refine EndT.thenN ?_
        refine CodeT.cond (.le (.t rfl) (VLe.prop (not_congr u8_eq))) (fun c2 => ?_) (fun c2 => ?_)
        ·
          refine CodeT.seq ?_
          refine CodeT.region (.p (opAssign .cf) rfl <| .nil ?_)
          refine EndT.thenN ?_
          refine CodeT.ret (EndT.blkR (EndT.thenR (EndT.thenR (EndT.blkR (EndT.thenR (Post.retP rfl rfl ?_))))))
          exact VLe.prop (ne_at hx hy c2).symm
        ·
          refine CodeT.skip (EndT.blkN (EndT.thenN ?_))
          refine CodeT.region (.p (opAddF (.t rfl) (.c _) (fits_i64 (by omega) (by omega))) rfl <| .p (opMove (.t rfl)) rfl <| .nil ?_)
          refine EndT.round (k + 1) ⟨by omega, heq.succ hx hy (Classical.not_not.1 c2)⟩ (by omega) rfl ?_
          exact (.get rfl (VLe.int (by omega)) (.keep 15 rfl rfl))
      ·
        refine CodeT.exit (EndT.thenX (EndT.thenX (EndT.blkX (EndT.thenN ?_))))
        refine CodeT.seq ?_
        refine CodeT.region (.p (opAssign .ct) rfl <| .nil ?_)
        refine EndT.thenN ?_
        refine CodeT.ret (Post.retP rfl rfl ?_)
        exact VLe.prop (by simp [heq.all (by omega) (by omega)])

theorem msigNil_spec {f : Int} : FnP Tryz.prog 30 [nilV, intV .i64 f] (tupV [aggV (encSig ⟨[], []⟩), propV False]) := by
  refine FnE.intro 37 Tryz.func30 rfl rfl rfl fun w0 S0 M => ?_
  refine CodeT.seq ?_
  refine CodeT.region (.n (opAlloc Tryz.zb77) rfl <| fun b4 _ => .p (opAssign .cf) rfl <| .nil ?_)
  refine EndT.thenN ?_
  refine CodeT.seq ?_
  refine CodeT.seq ?_
  refine CodeT.region (.p (opMove (.t rfl)) rfl <| .p (opNilEqlNil Tryz.underlying57 (.t rfl)) rfl <| .nil ?_)
  refine EndT.thenN ?_
  refine CodeT.cond (.t rfl) (fun c0 => ?_) (fun c0 => ?_)
  ·
    refine CodeT.seq ?_
    refine CodeT.region (.p (opBuild Tryz.pl77 Tryz.zb77 .nil rfl) rfl <| .s (opStoreOA (i := 0) Tryz.cz77 rfl (.t rfl) (.t rfl) rfl rfl rfl) <| .p (opAssign .cf) rfl <| .nil ?_)
    refine EndT.thenN ?_
    refine CodeT.ret (EndT.thenR (Post.retR rfl rfl () trivial (fun _ _ _ _ => trivial) rfl (.cons (.ra (i := 0) Tryz.ag77 Tryz.cz77 rfl rfl rfl rfl) ?_ (.cons (.rt rfl) ?_ .nil))))
    · exact VLe.agg2 (sliceV_nil _ _) (sliceV_nil _ _)
    · exact VLe.refl _
  ·
    exact (c0 trivial).elim

theorem countNil_spec  : FnP Tryz.prog 16 [nilV] (intV .i64 0) := by
  refine FnE.intro 16 Tryz.func16 rfl rfl rfl fun w0 S0 M => ?_
  refine CodeT.seq ?_
  refine CodeT.region (.p (opAssign (.c _)) rfl <| .nil ?_)
  refine EndT.thenN ?_
  refine CodeT.seq ?_
  refine CodeT.seq ?_
  refine CodeT.region (.p (opMove (.t rfl)) rfl <| .p (opNilEqlNil Tryz.underlying57 (.t rfl)) rfl <| .nil ?_)
  refine EndT.thenN ?_
  refine CodeT.cond (.t rfl) (fun c0 => ?_) (fun c0 => ?_)
  ·
    refine CodeT.seq ?_
    refine CodeT.region (.p (opAssign (.c _)) rfl <| .nil ?_)
    refine EndT.thenN ?_
    refine CodeT.ret (EndT.thenR (Post.retP rfl rfl ?_))
    first | exact VLe.refl _ | exact VLe.int (by omega) | exact VLe.prop (by omega) | exact VLe.prop (by simp_all) | exact VLe.prop (by simp; omega)
  ·
    exact (c0 trivial).elim

end Go.Proofs.YtghmenjcnopibaaGreatDoor
