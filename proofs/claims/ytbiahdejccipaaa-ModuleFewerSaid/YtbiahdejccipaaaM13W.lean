/-
  Walks, printed by a program (gen.py) out of what its author says of each function.
-/
import Derived.Test.YtbiahdejccipaaaHlD
import Derived.Test.YtbiahdejccipaaaTab
import Derived.Test.YtbiahdejccipaaaM13B
namespace Go.Proofs.Ytbiahdejccipaaa
open Go.Hl Go.RowKit
set_option linter.unusedVariables false
set_option maxRecDepth 100000

theorem has_spec {n m : Int} : FnP Try.prog 38 [intV .i64 n, intV .i64 m] (propV (InP n m)) := by
  refine FnE.intro 12 Try.func38 rfl rfl rfl fun w0 S0 M => ?_
  refine CodeT.seq ?_
  refine CodeT.region (.p (opAssign .cf) rfl <| .nil ?_)
  refine EndT.thenN ?_
  refine CodeT.seq ?_
  refine CodeT.region (.p (opMove (.t rfl)) rfl <| .p (opGeq (.t rfl) (.c _)) rfl <| .p (opMove (.t rfl)) rfl <| .g (OpG.gT rfl rfl rfl rfl (fun hg => opMove (.t rfl))) rfl rfl <| .g (OpG.gT rfl rfl rfl rfl (fun hg => opMove (.t rfl))) rfl rfl <| .g (OpG.gT rfl rfl rfl rfl (fun hg => opLss (.when (.t rfl) hg) (.when (.t rfl) hg))) rfl rfl <| .p (opAnd (.t rfl) (.t rfl)) rfl <| .p (opAssign (.t rfl)) rfl <| .nil ?_)
  refine EndT.thenN ?_
  refine CodeT.ret (Post.retP rfl rfl ?_)
  first | exact VLe.refl _ | exact VLe.int (by omega) | exact VLe.prop (by omega) | exact VLe.prop (by simp_all) | exact VLe.prop (by simp; omega)

theorem lin_spec {n m : Int} : FnP Try.prog 16 [intV .i64 n, intV .i64 m] (propV (InP n m)) := by
  refine FnE.intro 12 Try.func16 rfl rfl rfl fun w0 S0 M => ?_
  refine CodeT.seq ?_
  refine CodeT.region (.p (opAssign .cf) rfl <| .nil ?_)
  refine EndT.thenN ?_
  refine CodeT.seq ?_
  refine CodeT.region (.p (opMove (.t rfl)) rfl <| .p (opGeq (.t rfl) (.c _)) rfl <| .p (opMove (.t rfl)) rfl <| .g (OpG.gT rfl rfl rfl rfl (fun hg => opMove (.t rfl))) rfl rfl <| .g (OpG.gT rfl rfl rfl rfl (fun hg => opMove (.t rfl))) rfl rfl <| .g (OpG.gT rfl rfl rfl rfl (fun hg => opLss (.when (.t rfl) hg) (.when (.t rfl) hg))) rfl rfl <| .p (opAnd (.t rfl) (.t rfl)) rfl <| .p (opAssign (.t rfl)) rfl <| .nil ?_)
  refine EndT.thenN ?_
  refine CodeT.ret (Post.retP rfl rfl ?_)
  first | exact VLe.refl _ | exact VLe.int (by omega) | exact VLe.prop (by omega) | exact VLe.prop (by simp_all) | exact VLe.prop (by simp; omega)

theorem when_spec {p : Prop} {e : Int} : FnP Try.prog 58 [propV p, intV .i64 e] (intV .i64 (whenE p e)) := by
  refine FnE.intro 7 Try.func58 rfl rfl rfl fun w0 S0 M => ?_
  refine CodeT.seq ?_
  refine CodeT.region (.p (opAssign (.c _)) rfl <| .nil ?_)
  refine EndT.thenN ?_
  refine CodeT.seq ?_
  refine CodeT.seq ?_
  refine CodeT.region (.p (opMove (.t rfl)) rfl <| .nil ?_)
  refine EndT.thenN ?_
  refine CodeT.cond (.t rfl) (fun c0 => ?_) (fun c0 => ?_)
  ·
    refine CodeT.seq ?_
    refine CodeT.region (.p (opMove (.t rfl)) rfl <| .p (opAssign (.t rfl)) rfl <| .nil ?_)
    refine EndT.thenN ?_
    refine CodeT.ret (EndT.thenR (Post.retP rfl rfl ?_))
    exact VLe.int (by simp [whenE, *])
  ·
    refine CodeT.skip (EndT.thenN ?_)
    refine CodeT.seq ?_
    refine CodeT.region (.p (opAssign (.c _)) rfl <| .nil ?_)
    refine EndT.thenN ?_
    refine CodeT.ret (Post.retP rfl rfl ?_)
    exact VLe.int (by simp [whenE, *])

theorem bits_spec {t : UInt8} : FnP Try.prog 66 [intV .u8 (t.toNat : Int)] (intV .i64 (bitsI t)) := by
  refine FnE.intro 8 Try.func66 rfl rfl rfl fun w0 S0 M => ?_
  refine CodeT.seq ?_
  refine CodeT.region (.p (opAssign (.c _)) rfl <| .nil ?_)
  refine EndT.thenN ?_
  refine CodeT.seq ?_
  refine CodeT.seq ?_
  refine CodeT.region (.p (opMove (.t rfl)) rfl <| .nil ?_)
  refine EndT.thenN ?_
  refine CodeT.block ?_
  refine CodeT.seq ?_
  refine CodeT.region (.p (opEql (.t rfl) (.c _)) rfl <| .p (opAssign (.t rfl)) rfl <| .nil ?_)
  refine EndT.thenN ?_
  refine CodeT.cond (.t rfl) (fun c0 => ?_) (fun c0 => ?_)
  ·
    refine CodeT.seq ?_
    refine CodeT.region (.p (opAssign (.c _)) rfl <| .nil ?_)
    refine EndT.thenN ?_
    refine CodeT.ret (EndT.blkR (EndT.thenR (Post.retP rfl rfl ?_)))
    exact VLe.int (by simp [bitsI, *])
  ·
    refine CodeT.seq ?_
    refine CodeT.region (.p (opEql (.t rfl) (.c _)) rfl <| .p (opAssign (.t rfl)) rfl <| .nil ?_)
    refine EndT.thenN ?_
    refine CodeT.cond (.t rfl) (fun c1 => ?_) (fun c1 => ?_)
    ·
      refine CodeT.seq ?_
      refine CodeT.region (.p (opAssign (.c _)) rfl <| .nil ?_)
      refine EndT.thenN ?_
      refine CodeT.ret (EndT.blkR (EndT.thenR (Post.retP rfl rfl ?_)))
      exact VLe.int (by simp [bitsI, *])
    ·
      refine CodeT.skip (EndT.blkN (EndT.thenN ?_))
      refine CodeT.seq ?_
      refine CodeT.region (.p (opAssign (.c _)) rfl <| .nil ?_)
      refine EndT.thenN ?_
      refine CodeT.ret (Post.retP rfl rfl ?_)
      exact VLe.int (by simp [bitsI, *])

theorem fewc_spec {t : UInt8} : FnP Try.prog 81 [intV .u8 (t.toNat : Int)] (propV (bitsI t = 0)) := by
  refine FnE.intro 6 Try.func81 rfl rfl rfl fun w0 S0 M => ?_
  refine CodeT.seq ?_
  refine CodeT.region (.p (opAssign .cf) rfl <| .nil ?_)
  refine EndT.thenN ?_
  refine CodeT.seq ?_
  refine CodeT.region (.p (opMove (.t rfl)) rfl <| .p (opCall (bits_spec) Try.cb66 (.cons (.t rfl) .nil)) rfl <| .p (opEql (.t rfl) (.c _)) rfl <| .p (opAssign (.t rfl)) rfl <| .nil ?_)
  refine EndT.thenN ?_
  refine CodeT.ret (Post.retP rfl rfl ?_)
  first | exact VLe.refl _ | exact VLe.int (by omega) | exact VLe.prop (by omega) | exact VLe.prop (by simp_all) | exact VLe.prop (by simp; omega)

theorem idxType_spec {l : List UInt8} {p : UInt8 → Prop} : FnP Try.prog 82 [sliceV 1 encU8 l, funV Try.prog (fun _ : UInt8 => True) (fun x => [intV .u8 (x.toNat : Int)]) (fun x => propV (p x))] (intV .i64 (idxF p l)) := by
  refine FnE.intro 19 Try.func82 rfl rfl rfl fun w0 S0 M => ?_
  refine CodeT.fact (t := 0) rfl (fun S w v h => sliceV_len h) fun hlen => ?_
  refine CodeT.seq ?_
  refine CodeT.region (.p (opAssign (.c _)) rfl <| .nil ?_)
  refine EndT.thenN ?_
  refine CodeT.seq ?_
  refine CodeT.seq ?_
  refine CodeT.region (.p (opMove (.t rfl)) rfl <| .p (opLen rfl Try.underlying44 (.t rfl)) rfl <| .p (opMove (.c _)) rfl <| .nil ?_)
  refine EndT.thenN ?_
  refine CodeT.block ?_
  refine CodeT.loopO (σ := Nat) (fun _ => []) (fun k => [(8, intV .i64 (k : Int))]) (fun k => k ≤ l.length ∧ NotB p l k) (fun k => l.length - k) 0 ⟨by omega, NotB.zero p l⟩ rfl ?_ ?_
  · exact (.get rfl (VLe.refl _) (.refl _ _))
  · rintro k ⟨hk, hnot⟩
    refine CodeT.seq ?_
    refine CodeT.region (.p (opLss (.t rfl) (.t rfl)) rfl <| .nil ?_)
    refine EndT.thenN ?_
    refine CodeT.seq ?_
    refine CodeT.cond (.t rfl) (fun c0 => ?_) (fun c0 => ?_)
    ·
      obtain ⟨x, hx⟩ := getElem?_lt (xs := l) (k := k) (by omega)
      refine CodeT.skip (EndT.thenN ?_)
      refine CodeT.seq ?_
      refine CodeT.block ?_
      refine CodeT.seq ?_
      refine CodeT.region (.p (opMove (.t rfl)) rfl <| .p (opAssign (.t rfl)) rfl <| .nil ?_)
      refine EndT.thenN ?_
      refine CodeT.seq ?_
      refine CodeT.region (.p (opMove (.t rfl)) rfl <| .p (opMove (.t rfl)) rfl <| .p (opMove (.t rfl)) rfl <| .p (opIndexAddr Try.underlying44 Try.cz80 rfl (.t rfl) (.t rfl) rfl (by assumption)) rfl <| .p (opLoad Try.ag80 (.t rfl)) rfl <| .p (opCallV x (.t rfl) trivial (.cons (.t rfl) .nil)) rfl <| .nil ?_)
      refine EndT.thenN ?_
      refine CodeT.cond (.t rfl) (fun c1 => ?_) (fun c1 => ?_)
      ·
        refine CodeT.seq ?_
        refine CodeT.region (.p (opMove (.t rfl)) rfl <| .p (opAssign (.t rfl)) rfl <| .nil ?_)
        refine EndT.thenN ?_
        refine CodeT.ret (EndT.blkR (EndT.thenR (EndT.thenR (EndT.blkR (EndT.thenR (Post.retP rfl rfl ?_))))))
        exact VLe.int (idxF_at hx (by assumption) hnot).symm
      ·
        refine CodeT.skip (EndT.blkN (EndT.thenN ?_))
        refine CodeT.region (.p (opAddF (.t rfl) (.c _) (fits_i64 (by omega) (by omega))) rfl <| .p (opMove (.t rfl)) rfl <| .nil ?_)
        refine EndT.round (k + 1) ⟨by omega, hnot.succ hx (by assumption)⟩ (by omega) rfl ?_
        exact (.get rfl (VLe.int (by omega)) (.keep 12 rfl rfl))
    ·
      refine CodeT.exit (EndT.thenX (EndT.thenX (EndT.blkX (EndT.thenN ?_))))
      refine CodeT.seq ?_
      refine CodeT.region (.p (opAssign (.c _)) rfl <| .nil ?_)
      refine EndT.thenN ?_
      refine CodeT.ret (Post.retP rfl rfl ?_)
      exact VLe.int (idxF_none (hnot.all (by omega))).symm

theorem conType_spec {l : List UInt8} {p : UInt8 → Prop} : FnP Try.prog 80 [sliceV 1 encU8 l, funV Try.prog (fun _ : UInt8 => True) (fun x => [intV .u8 (x.toNat : Int)]) (fun x => propV (p x))] (propV (∃ x ∈ l, p x)) := by
  refine FnE.intro 9 Try.func80 rfl rfl rfl fun w0 S0 M => ?_
  refine CodeT.seq ?_
  refine CodeT.region (.p (opAssign .cf) rfl <| .nil ?_)
  refine EndT.thenN ?_
  refine CodeT.seq ?_
  refine CodeT.region (.p (opMove (.t rfl)) rfl <| .p (opMove (.t rfl)) rfl <| .p (opCall (idxType_spec) Try.cb82 (.cons (.t rfl) (.cons (.t rfl) .nil))) rfl <| .p (opGeq (.t rfl) (.c _)) rfl <| .p (opAssign (.t rfl)) rfl <| .nil ?_)
  refine EndT.thenN ?_
  refine CodeT.ret (Post.retP rfl rfl ?_)
  exact VLe.prop idxF_nonneg

theorem idxInt_spec {l : List Int} {p : Int → Prop} : FnP Try.prog 79 [sliceV 1 encInt l, funV Try.prog (fun _ : Int => True) (fun x => [intV .i64 x]) (fun x => propV (p x))] (intV .i64 (idxF p l)) := by
  refine FnE.intro 19 Try.func79 rfl rfl rfl fun w0 S0 M => ?_
  refine CodeT.fact (t := 0) rfl (fun S w v h => sliceV_len h) fun hlen => ?_
  refine CodeT.seq ?_
  refine CodeT.region (.p (opAssign (.c _)) rfl <| .nil ?_)
  refine EndT.thenN ?_
  refine CodeT.seq ?_
  refine CodeT.seq ?_
  refine CodeT.region (.p (opMove (.t rfl)) rfl <| .p (opLen rfl Try.underlying84 (.t rfl)) rfl <| .p (opMove (.c _)) rfl <| .nil ?_)
  refine EndT.thenN ?_
  refine CodeT.block ?_
  refine CodeT.loopO (σ := Nat) (fun _ => []) (fun k => [(8, intV .i64 (k : Int))]) (fun k => k ≤ l.length ∧ NotB p l k) (fun k => l.length - k) 0 ⟨by omega, NotB.zero p l⟩ rfl ?_ ?_
  · exact (.get rfl (VLe.refl _) (.refl _ _))
  · rintro k ⟨hk, hnot⟩
    refine CodeT.seq ?_
    refine CodeT.region (.p (opLss (.t rfl) (.t rfl)) rfl <| .nil ?_)
    refine EndT.thenN ?_
    refine CodeT.seq ?_
    refine CodeT.cond (.t rfl) (fun c0 => ?_) (fun c0 => ?_)
    ·
      obtain ⟨x, hx⟩ := getElem?_lt (xs := l) (k := k) (by omega)
      refine CodeT.skip (EndT.thenN ?_)
      refine CodeT.seq ?_
      refine CodeT.block ?_
      refine CodeT.seq ?_
      refine CodeT.region (.p (opMove (.t rfl)) rfl <| .p (opAssign (.t rfl)) rfl <| .nil ?_)
      refine EndT.thenN ?_
      refine CodeT.seq ?_
      refine CodeT.region (.p (opMove (.t rfl)) rfl <| .p (opMove (.t rfl)) rfl <| .p (opMove (.t rfl)) rfl <| .p (opIndexAddr Try.underlying84 Try.cz3 rfl (.t rfl) (.t rfl) rfl (by assumption)) rfl <| .p (opLoad Try.ag3 (.t rfl)) rfl <| .p (opCallV x (.t rfl) trivial (.cons (.t rfl) .nil)) rfl <| .nil ?_)
      refine EndT.thenN ?_
      refine CodeT.cond (.t rfl) (fun c1 => ?_) (fun c1 => ?_)
      ·
        refine CodeT.seq ?_
        refine CodeT.region (.p (opMove (.t rfl)) rfl <| .p (opAssign (.t rfl)) rfl <| .nil ?_)
        refine EndT.thenN ?_
        refine CodeT.ret (EndT.blkR (EndT.thenR (EndT.thenR (EndT.blkR (EndT.thenR (Post.retP rfl rfl ?_))))))
        exact VLe.int (idxF_at hx (by assumption) hnot).symm
      ·
        refine CodeT.skip (EndT.blkN (EndT.thenN ?_))
        refine CodeT.region (.p (opAddF (.t rfl) (.c _) (fits_i64 (by omega) (by omega))) rfl <| .p (opMove (.t rfl)) rfl <| .nil ?_)
        refine EndT.round (k + 1) ⟨by omega, hnot.succ hx (by assumption)⟩ (by omega) rfl ?_
        exact (.get rfl (VLe.int (by omega)) (.keep 12 rfl rfl))
    ·
      refine CodeT.exit (EndT.thenX (EndT.thenX (EndT.blkX (EndT.thenN ?_))))
      refine CodeT.seq ?_
      refine CodeT.region (.p (opAssign (.c _)) rfl <| .nil ?_)
      refine EndT.thenN ?_
      refine CodeT.ret (Post.retP rfl rfl ?_)
      exact VLe.int (idxF_none (hnot.all (by omega))).symm

theorem conInt_spec {l : List Int} {p : Int → Prop} : FnP Try.prog 72 [sliceV 1 encInt l, funV Try.prog (fun _ : Int => True) (fun x => [intV .i64 x]) (fun x => propV (p x))] (propV (∃ x ∈ l, p x)) := by
  refine FnE.intro 9 Try.func72 rfl rfl rfl fun w0 S0 M => ?_
  refine CodeT.seq ?_
  refine CodeT.region (.p (opAssign .cf) rfl <| .nil ?_)
  refine EndT.thenN ?_
  refine CodeT.seq ?_
  refine CodeT.region (.p (opMove (.t rfl)) rfl <| .p (opMove (.t rfl)) rfl <| .p (opCall (idxInt_spec) Try.cb79 (.cons (.t rfl) (.cons (.t rfl) .nil))) rfl <| .p (opGeq (.t rfl) (.c _)) rfl <| .p (opAssign (.t rfl)) rfl <| .nil ?_)
  refine EndT.thenN ?_
  refine CodeT.ret (Post.retP rfl rfl ?_)
  exact VLe.prop idxF_nonneg

theorem idxExport_spec {l : List ExportD} {p : ExportD → Prop} : FnP Try.prog 78 [sliceV 3 encExport l, funV Try.prog (fun _ : ExportD => True) (fun x => [aggV (encExport x)]) (fun x => propV (p x))] (intV .i64 (idxF p l)) := by
  refine FnE.intro 19 Try.func78 rfl rfl rfl fun w0 S0 M => ?_
  refine CodeT.fact (t := 0) rfl (fun S w v h => sliceV_len h) fun hlen => ?_
  refine CodeT.seq ?_
  refine CodeT.region (.p (opAssign (.c _)) rfl <| .nil ?_)
  refine EndT.thenN ?_
  refine CodeT.seq ?_
  refine CodeT.seq ?_
  refine CodeT.region (.p (opMove (.t rfl)) rfl <| .p (opLen rfl Try.underlying27 (.t rfl)) rfl <| .p (opMove (.c _)) rfl <| .nil ?_)
  refine EndT.thenN ?_
  refine CodeT.block ?_
  refine CodeT.loopO (σ := Nat) (fun _ => []) (fun k => [(8, intV .i64 (k : Int))]) (fun k => k ≤ l.length ∧ NotB p l k) (fun k => l.length - k) 0 ⟨by omega, NotB.zero p l⟩ rfl ?_ ?_
  · exact (.get rfl (VLe.refl _) (.refl _ _))
  · rintro k ⟨hk, hnot⟩
    refine CodeT.seq ?_
    refine CodeT.region (.p (opLss (.t rfl) (.t rfl)) rfl <| .nil ?_)
    refine EndT.thenN ?_
    refine CodeT.seq ?_
    refine CodeT.cond (.t rfl) (fun c0 => ?_) (fun c0 => ?_)
    ·
      obtain ⟨x, hx⟩ := getElem?_lt (xs := l) (k := k) (by omega)
      refine CodeT.skip (EndT.thenN ?_)
      refine CodeT.seq ?_
      refine CodeT.block ?_
      refine CodeT.seq ?_
      refine CodeT.region (.p (opMove (.t rfl)) rfl <| .p (opAssign (.t rfl)) rfl <| .nil ?_)
      refine EndT.thenN ?_
      refine CodeT.seq ?_
      refine CodeT.region (.p (opMove (.t rfl)) rfl <| .p (opMove (.t rfl)) rfl <| .p (opMove (.t rfl)) rfl <| .p (opIndexAddr Try.underlying27 Try.cz57 rfl (.t rfl) (.t rfl) rfl (by assumption)) rfl <| .p (opLoadA Try.ag57 Try.cz57 rfl (.t rfl) rfl) rfl <| .p (opCallV x (.t rfl) trivial (.cons (.t rfl) .nil)) rfl <| .nil ?_)
      refine EndT.thenN ?_
      refine CodeT.cond (.t rfl) (fun c1 => ?_) (fun c1 => ?_)
      ·
        refine CodeT.seq ?_
        refine CodeT.region (.p (opMove (.t rfl)) rfl <| .p (opAssign (.t rfl)) rfl <| .nil ?_)
        refine EndT.thenN ?_
        refine CodeT.ret (EndT.blkR (EndT.thenR (EndT.thenR (EndT.blkR (EndT.thenR (Post.retP rfl rfl ?_))))))
        exact VLe.int (idxF_at hx (by assumption) hnot).symm
      ·
        refine CodeT.skip (EndT.blkN (EndT.thenN ?_))
        refine CodeT.region (.p (opAddF (.t rfl) (.c _) (fits_i64 (by omega) (by omega))) rfl <| .p (opMove (.t rfl)) rfl <| .nil ?_)
        refine EndT.round (k + 1) ⟨by omega, hnot.succ hx (by assumption)⟩ (by omega) rfl ?_
        exact (.get rfl (VLe.int (by omega)) (.keep 12 rfl rfl))
    ·
      refine CodeT.exit (EndT.thenX (EndT.thenX (EndT.blkX (EndT.thenN ?_))))
      refine CodeT.seq ?_
      refine CodeT.region (.p (opAssign (.c _)) rfl <| .nil ?_)
      refine EndT.thenN ?_
      refine CodeT.ret (Post.retP rfl rfl ?_)
      exact VLe.int (idxF_none (hnot.all (by omega))).symm

theorem conExport_spec {l : List ExportD} {p : ExportD → Prop} : FnP Try.prog 69 [sliceV 3 encExport l, funV Try.prog (fun _ : ExportD => True) (fun x => [aggV (encExport x)]) (fun x => propV (p x))] (propV (∃ x ∈ l, p x)) := by
  refine FnE.intro 9 Try.func69 rfl rfl rfl fun w0 S0 M => ?_
  refine CodeT.seq ?_
  refine CodeT.region (.p (opAssign .cf) rfl <| .nil ?_)
  refine EndT.thenN ?_
  refine CodeT.seq ?_
  refine CodeT.region (.p (opMove (.t rfl)) rfl <| .p (opMove (.t rfl)) rfl <| .p (opCall (idxExport_spec) Try.cb78 (.cons (.t rfl) (.cons (.t rfl) .nil))) rfl <| .p (opGeq (.t rfl) (.c _)) rfl <| .p (opAssign (.t rfl)) rfl <| .nil ?_)
  refine EndT.thenN ?_
  refine CodeT.ret (Post.retP rfl rfl ?_)
  exact VLe.prop idxF_nonneg

theorem few_spec {l : List UInt8} : FnP Try.prog 77 [sliceV 1 encU8 l] (propV (TypedP l)) := by
  refine FnE.intro 11 Try.func77 rfl rfl rfl fun w0 S0 M => ?_
  refine CodeT.seq ?_
  refine CodeT.region (.p (opAssign .cf) rfl <| .nil ?_)
  refine EndT.thenN ?_
  refine CodeT.seq ?_
  refine CodeT.region (.p (opMove (.t rfl)) rfl <| .p (opLen rfl Try.underlying44 (.t rfl)) rfl <| .p (opLeq (.t rfl) (.c _)) rfl <| .p (opMove (.t rfl)) rfl <| .g (OpG.gT rfl rfl rfl rfl (fun hg => opMove (.t rfl))) rfl rfl <| .g (OpG.gT rfl rfl rfl rfl (fun hg => opCall (conType_spec) Try.cb80 (.cons (.when (.t rfl) hg) (.cons (.le (.f _) (funV_of Try.cb81 (fun (b : UInt8) (_ : True) => fewc_spec (t := b)))) .nil)))) rfl rfl <| .g (OpG.gT rfl rfl rfl rfl (fun hg => opNot (.when (.t rfl) hg))) rfl rfl <| .p (opAnd (.t rfl) (.t rfl)) rfl <| .p (opAssign (.t rfl)) rfl <| .nil ?_)
  refine EndT.thenN ?_
  refine CodeT.ret (Post.retP rfl rfl ?_)
  exact VLe.prop typed_iff

theorem right_spec {s : SigD} : FnP Try.prog 59 [aggV (encSig s)] (propV (RightP s)) := by
  refine FnE.intro 11 Try.func59 rfl rfl rfl fun w0 S0 M => ?_
  refine CodeT.seq ?_
  refine CodeT.region (.p (opBoxA (.t rfl)) rfl <| .p (opAssign .cf) rfl <| .nil ?_)
  refine EndT.thenN ?_
  refine CodeT.seq ?_
  refine CodeT.region (.p (opField Try.fd46_0 (.t rfl)) rfl <| .p (opLoad Try.ag44 (.t rfl)) rfl <| .p (opCall (few_spec) Try.cb77 (.cons (.t rfl) .nil)) rfl <| .p (opMove (.t rfl)) rfl <| .g (OpG.gT rfl rfl rfl rfl (fun hg => opField Try.fd46_1 (.t rfl))) rfl rfl <| .g (OpG.gT rfl rfl rfl rfl (fun hg => opLoad Try.ag44 (.when (.t rfl) hg))) rfl rfl <| .g (OpG.gT rfl rfl rfl rfl (fun hg => opCall (few_spec) Try.cb77 (.cons (.when (.t rfl) hg) .nil))) rfl rfl <| .p (opAnd (.t rfl) (.t rfl)) rfl <| .p (opAssign (.t rfl)) rfl <| .nil ?_)
  refine EndT.thenN ?_
  refine CodeT.ret (Post.retP rfl rfl ?_)
  first | exact VLe.refl _ | exact VLe.int (by omega) | exact VLe.prop (by omega) | exact VLe.prop (by simp_all) | exact VLe.prop (by simp; omega)

theorem lright_spec {l : LimitsD} {most : Int} : FnP Try.prog 64 [aggV (encLimits l), intV .i64 most] (propV (LimitsP l most)) := by
  refine FnE.intro 32 Try.func64 rfl rfl rfl fun w0 S0 M => ?_
  refine CodeT.seq ?_
  refine CodeT.region (.p (opBoxA (.t rfl)) rfl <| .p (opAssign .cf) rfl <| .nil ?_)
  refine EndT.thenN ?_
  refine CodeT.seq ?_
  refine CodeT.region (.p (opField Try.fd79_0 (.t rfl)) rfl <| .p (opLoad Try.ag3 (.t rfl)) rfl <| .p (opGeq (.t rfl) (.c _)) rfl <| .p (opMove (.t rfl)) rfl <| .g (OpG.gT rfl rfl rfl rfl (fun hg => opField Try.fd79_0 (.t rfl))) rfl rfl <| .g (OpG.gT rfl rfl rfl rfl (fun hg => opLoad Try.ag3 (.when (.t rfl) hg))) rfl rfl <| .g (OpG.gT rfl rfl rfl rfl (fun hg => opMove (.t rfl))) rfl rfl <| .g (OpG.gT rfl rfl rfl rfl (fun hg => opLeq (.when (.t rfl) hg) (.when (.t rfl) hg))) rfl rfl <| .p (opAnd (.t rfl) (.t rfl)) rfl <| .p (opMove (.t rfl)) rfl <| .g (OpG.gT rfl rfl rfl rfl (fun hg => opField Try.fd79_1 (.t rfl))) rfl rfl <| .g (OpG.gT rfl rfl rfl rfl (fun hg => opLoad Try.ag3 (.when (.t rfl) hg))) rfl rfl <| .g (OpG.gT rfl rfl rfl rfl (fun hg => opLss (.when (.t rfl) hg) (.c _))) rfl rfl <| .g (OpG.gT rfl rfl rfl rfl (fun hg => opMove (.when (.t rfl) hg))) rfl rfl <| .g (OpG.hF rfl rfl rfl rfl (fun hg => opField Try.fd79_1 (.t rfl))) rfl rfl <| .g (OpG.hF rfl rfl rfl rfl (fun hg => opLoad Try.ag3 (.when (.t rfl) hg))) rfl rfl <| .g (OpG.hF rfl rfl rfl rfl (fun hg => opField Try.fd79_0 (.t rfl))) rfl rfl <| .g (OpG.hF rfl rfl rfl rfl (fun hg => opLoad Try.ag3 (.when (.t rfl) hg))) rfl rfl <| .g (OpG.hF rfl rfl rfl rfl (fun hg => opGeq (.when (.t rfl) hg) (.when (.t rfl) hg))) rfl rfl <| .g (OpG.hF rfl rfl rfl rfl (fun hg => opMove (.when (.t rfl) hg))) rfl rfl <| .g (OpG.hT rfl rfl rfl rfl (fun hg => opField Try.fd79_1 (.t rfl))) rfl rfl <| .g (OpG.hT rfl rfl rfl rfl (fun hg => opLoad Try.ag3 (.when (.t rfl) hg))) rfl rfl <| .g (OpG.hT rfl rfl rfl rfl (fun hg => opMove (.t rfl))) rfl rfl <| .g (OpG.hT rfl rfl rfl rfl (fun hg => opLeq (.when (.t rfl) hg) (.when (.t rfl) hg))) rfl rfl <| .g (OpG.hF rfl rfl rfl rfl (fun hg => opAnd (.when (.t rfl) hg) (.under (.t rfl) hg))) rfl rfl <| .g (OpG.gT rfl rfl rfl rfl (fun hg => opOr (.when (.t rfl) hg) (.under (.t rfl) hg))) rfl rfl <| .p (opAnd (.t rfl) (.t rfl)) rfl <| .p (opAssign (.t rfl)) rfl <| .nil ?_)
  refine EndT.thenN ?_
  refine CodeT.ret (Post.retP rfl rfl ?_)
  exact VLe.prop (by unfold LimitsP; constructor <;> (intro h; omega))

theorem named_spec {l : List UInt8} : FnP Try.prog 13 [strV l] (propV (NamedP l)) := by
  refine FnE.intro 27 Try.func13 rfl rfl rfl fun w0 S0 M => ?_
  refine CodeT.fact (t := 0) rfl (fun S w v h => strV_len h) fun hlen => ?_
  refine CodeT.seq ?_
  refine CodeT.region (.p (opAssign .cf) rfl <| .nil ?_)
  refine EndT.thenN ?_
  refine CodeT.seq ?_
  refine CodeT.seq ?_
  refine CodeT.region (.p (opMove (.t rfl)) rfl <| .p (opLenS rfl Try.underlying9 (.t rfl)) rfl <| .p (opMove (.c _)) rfl <| .nil ?_)
  refine EndT.thenN ?_
  refine CodeT.block ?_
  refine CodeT.loopO (σ := Nat) (fun _ => []) (fun k => [(6, intV .i64 (k : Int))]) (fun k => k ≤ l.length ∧ NotB (fun b : UInt8 => (b.toNat : Int) < 33 ∨ 126 < (b.toNat : Int)) l k) (fun k => l.length - k) 0 ⟨by omega, NotB.zero _ l⟩ rfl ?_ ?_
  · exact (.get rfl (VLe.refl _) (.refl _ _))
  · rintro k ⟨hk, hnot⟩
    refine CodeT.seq ?_
    refine CodeT.region (.p (opLss (.t rfl) (.t rfl)) rfl <| .nil ?_)
    refine EndT.thenN ?_
    refine CodeT.seq ?_
    refine CodeT.cond (.t rfl) (fun c0 => ?_) (fun c0 => ?_)
    ·
      obtain ⟨x, hx⟩ := getElem?_lt (xs := l) (k := k) (by omega)
      refine CodeT.skip (EndT.thenN ?_)
      refine CodeT.seq ?_
      refine CodeT.block ?_
      refine CodeT.seq ?_
      refine CodeT.region (.p (opMove (.t rfl)) rfl <| .p (opAssign (.t rfl)) rfl <| .nil ?_)
      refine EndT.thenN ?_
      refine CodeT.seq ?_
      refine CodeT.region (.p (opMove (.t rfl)) rfl <| .p (opMove (.t rfl)) rfl <| .p (opIndexS Try.underlying9 (.t rfl) (.t rfl) rfl (by assumption)) rfl <| .p (opLss (.t rfl) (.c _)) rfl <| .p (opMove (.t rfl)) rfl <| .g (OpG.gF rfl rfl rfl rfl (fun hg => opMove (.t rfl))) rfl rfl <| .g (OpG.gF rfl rfl rfl rfl (fun hg => opMove (.t rfl))) rfl rfl <| .g (OpG.gF rfl rfl rfl rfl (fun hg => opIndexS Try.underlying9 (.when (.t rfl) hg) (.when (.t rfl) hg) rfl (by assumption))) rfl rfl <| .g (OpG.gF rfl rfl rfl rfl (fun hg => opGtr (.when (.t rfl) hg) (.c _))) rfl rfl <| .p (opOr (.t rfl) (.t rfl)) rfl <| .nil ?_)
      refine EndT.thenN ?_
      refine CodeT.cond (.t rfl) (fun c1 => ?_) (fun c1 => ?_)
      ·
        refine CodeT.seq ?_
        refine CodeT.region (.p (opAssign .cf) rfl <| .nil ?_)
        refine EndT.thenN ?_
        refine CodeT.ret (EndT.blkR (EndT.thenR (EndT.thenR (EndT.blkR (EndT.thenR (Post.retP rfl rfl ?_))))))
        exact VLe.prop (named_bad hx (by assumption)).symm
      ·
        refine CodeT.skip (EndT.blkN (EndT.thenN ?_))
        refine CodeT.region (.p (opAddF (.t rfl) (.c _) (fits_i64 (by omega) (by omega))) rfl <| .p (opMove (.t rfl)) rfl <| .nil ?_)
        refine EndT.round (k + 1) ⟨by omega, hnot.succ hx (by assumption)⟩ (by omega) rfl ?_
        exact (.get rfl (VLe.int (by omega)) (.keep 16 rfl rfl))
    ·
      refine CodeT.exit (EndT.thenX (EndT.thenX (EndT.blkX (EndT.thenN ?_))))
      refine CodeT.seq ?_
      refine CodeT.region (.p (opMove (.t rfl)) rfl <| .p (opNeqS (.t rfl) (.s [] rfl rfl)) rfl <| .p (opMove (.t rfl)) rfl <| .g (OpG.gT rfl rfl rfl rfl (fun hg => opMove (.t rfl))) rfl rfl <| .g (OpG.gT rfl rfl rfl rfl (fun hg => opLenS rfl Try.underlying9 (.when (.t rfl) hg))) rfl rfl <| .g (OpG.gT rfl rfl rfl rfl (fun hg => opLeq (.when (.t rfl) hg) (.c _))) rfl rfl <| .p (opAnd (.t rfl) (.t rfl)) rfl <| .p (opAssign (.t rfl)) rfl <| .nil ?_)
      refine EndT.thenN ?_
      refine CodeT.ret (Post.retP rfl rfl ?_)
      exact VLe.prop (named_iff (hnot.all (by omega)))

theorem lnamed_spec {l : List UInt8} : FnP Try.prog 14 [strV l] (propV (NamedP l)) := by
  refine FnE.intro 28 Try.func14 rfl rfl rfl fun w0 S0 M => ?_
  refine CodeT.fact (t := 0) rfl (fun S w v h => strV_len h) fun hlen => ?_
  refine CodeT.seq ?_
  refine CodeT.region (.p (opAssign .cf) rfl <| .nil ?_)
  refine EndT.thenN ?_
  refine CodeT.seq ?_
  refine CodeT.seq ?_
  refine CodeT.region (.p (opAssign (.c _)) rfl <| .nil ?_)
  refine EndT.thenN ?_
  refine CodeT.block ?_
  refine CodeT.loopO (σ := Nat) (fun _ => []) (fun k => [(3, intV .i64 (k : Int))]) (fun k => k ≤ l.length ∧ NotB (fun b : UInt8 => (b.toNat : Int) < 33 ∨ 126 < (b.toNat : Int)) l k) (fun k => l.length - k) 0 ⟨by omega, NotB.zero _ l⟩ rfl ?_ ?_
  · exact (.get rfl (VLe.refl _) (.refl _ _))
  · rintro k ⟨hk, hnot⟩
    refine CodeT.seq ?_
    refine CodeT.seq ?_
    refine CodeT.region (.p (opMove (.t rfl)) rfl <| .p (opMove (.t rfl)) rfl <| .p (opLenS rfl Try.underlying9 (.t rfl)) rfl <| .p (opLss (.t rfl) (.t rfl)) rfl <| .nil ?_)
    refine EndT.thenN ?_
    refine CodeT.cond (.t rfl) (fun c0 => ?_) (fun c0 => ?_)
    ·
      obtain ⟨x, hx⟩ := getElem?_lt (xs := l) (k := k) (by omega)
      refine CodeT.skip (EndT.thenN ?_)
      refine CodeT.seq ?_
      refine CodeT.block ?_
      refine CodeT.seq ?_
      refine CodeT.region (.p (opMove (.t rfl)) rfl <| .p (opMove (.t rfl)) rfl <| .p (opIndexS Try.underlying9 (.t rfl) (.t rfl) rfl (by assumption)) rfl <| .p (opLss (.t rfl) (.c _)) rfl <| .p (opMove (.t rfl)) rfl <| .g (OpG.gF rfl rfl rfl rfl (fun hg => opMove (.t rfl))) rfl rfl <| .g (OpG.gF rfl rfl rfl rfl (fun hg => opMove (.t rfl))) rfl rfl <| .g (OpG.gF rfl rfl rfl rfl (fun hg => opIndexS Try.underlying9 (.when (.t rfl) hg) (.when (.t rfl) hg) rfl (by assumption))) rfl rfl <| .g (OpG.gF rfl rfl rfl rfl (fun hg => opGtr (.when (.t rfl) hg) (.c _))) rfl rfl <| .p (opOr (.t rfl) (.t rfl)) rfl <| .nil ?_)
      refine EndT.thenN ?_
      refine CodeT.cond (.t rfl) (fun c1 => ?_) (fun c1 => ?_)
      ·
        refine CodeT.seq ?_
        refine CodeT.region (.p (opAssign .cf) rfl <| .nil ?_)
        refine EndT.thenN ?_
        refine CodeT.ret (EndT.blkR (EndT.thenR (EndT.thenR (EndT.blkR (EndT.thenR (Post.retP rfl rfl ?_))))))
        exact VLe.prop (named_bad hx (by assumption)).symm
      ·
        refine CodeT.skip (EndT.blkN (EndT.thenN ?_))
        refine CodeT.region (.p (opMove (.t rfl)) rfl <| .p (opAddF (.t rfl) (.c _) (fits_i64 (by omega) (by omega))) rfl <| .p (opAssign (.t rfl)) rfl <| .nil ?_)
        refine EndT.round (k + 1) ⟨by omega, hnot.succ hx (by assumption)⟩ (by omega) rfl ?_
        exact (.get rfl (VLe.int (by omega)) (.keep 18 rfl rfl))
    ·
      refine CodeT.exit (EndT.thenX (EndT.thenX (EndT.blkX (EndT.thenN ?_))))
      refine CodeT.seq ?_
      refine CodeT.region (.p (opMove (.t rfl)) rfl <| .p (opLenS rfl Try.underlying9 (.t rfl)) rfl <| .p (opGtr (.t rfl) (.c _)) rfl <| .p (opMove (.t rfl)) rfl <| .g (OpG.gT rfl rfl rfl rfl (fun hg => opMove (.t rfl))) rfl rfl <| .g (OpG.gT rfl rfl rfl rfl (fun hg => opLenS rfl Try.underlying9 (.when (.t rfl) hg))) rfl rfl <| .g (OpG.gT rfl rfl rfl rfl (fun hg => opLeq (.when (.t rfl) hg) (.c _))) rfl rfl <| .p (opAnd (.t rfl) (.t rfl)) rfl <| .p (opAssign (.t rfl)) rfl <| .nil ?_)
      refine EndT.thenN ?_
      refine CodeT.ret (Post.retP rfl rfl ?_)
      exact VLe.prop (named_iff2 (hnot.all (by omega)))

theorem typed_spec {l : List UInt8} : FnP Try.prog 25 [sliceV 1 encU8 l] (propV (TypedP l)) := by
  refine FnE.intro 25 Try.func25 rfl rfl rfl fun w0 S0 M => ?_
  refine CodeT.fact (t := 0) rfl (fun S w v h => sliceV_len h) fun hlen => ?_
  refine CodeT.seq ?_
  refine CodeT.region (.p (opAssign .cf) rfl <| .nil ?_)
  refine EndT.thenN ?_
  refine CodeT.seq ?_
  refine CodeT.seq ?_
  refine CodeT.region (.p (opAssign (.c _)) rfl <| .nil ?_)
  refine EndT.thenN ?_
  refine CodeT.block ?_
  refine CodeT.loopO (σ := Nat) (fun _ => []) (fun k => [(3, intV .i64 (k : Int))]) (fun k => k ≤ l.length ∧ NotB (fun b : UInt8 => (b.toNat : Int) ≠ 126 ∧ (b.toNat : Int) ≠ 127) l k) (fun k => l.length - k) 0 ⟨by omega, NotB.zero _ l⟩ rfl ?_ ?_
  · exact (.get rfl (VLe.refl _) (.refl _ _))
  · rintro k ⟨hk, hnot⟩
    refine CodeT.seq ?_
    refine CodeT.seq ?_
    refine CodeT.region (.p (opMove (.t rfl)) rfl <| .p (opMove (.t rfl)) rfl <| .p (opLen rfl Try.underlying50 (.t rfl)) rfl <| .p (opLss (.t rfl) (.t rfl)) rfl <| .nil ?_)
    refine EndT.thenN ?_
    refine CodeT.cond (.t rfl) (fun c0 => ?_) (fun c0 => ?_)
    ·
      obtain ⟨x, hx⟩ := getElem?_lt (xs := l) (k := k) (by omega)
      refine CodeT.skip (EndT.thenN ?_)
      refine CodeT.seq ?_
      refine CodeT.block ?_
      refine CodeT.seq ?_
      refine CodeT.region (.p (opMove (.t rfl)) rfl <| .p (opMove (.t rfl)) rfl <| .p (opIndexAddr Try.underlying50 Try.cz5 rfl (.t rfl) (.t rfl) rfl (by assumption)) rfl <| .p (opLoad Try.ag5 (.t rfl)) rfl <| .p (opNeq (.t rfl) (.c _)) rfl <| .p (opMove (.t rfl)) rfl <| .g (OpG.gT rfl rfl rfl rfl (fun hg => opMove (.t rfl))) rfl rfl <| .g (OpG.gT rfl rfl rfl rfl (fun hg => opMove (.t rfl))) rfl rfl <| .g (OpG.gT rfl rfl rfl rfl (fun hg => opIndexAddr Try.underlying50 Try.cz5 rfl (.when (.t rfl) hg) (.when (.t rfl) hg) rfl (by assumption))) rfl rfl <| .g (OpG.gT rfl rfl rfl rfl (fun hg => opLoad Try.ag5 (.when (.t rfl) hg))) rfl rfl <| .g (OpG.gT rfl rfl rfl rfl (fun hg => opNeq (.when (.t rfl) hg) (.c _))) rfl rfl <| .p (opAnd (.t rfl) (.t rfl)) rfl <| .nil ?_)
      refine EndT.thenN ?_
      refine CodeT.cond (.t rfl) (fun c1 => ?_) (fun c1 => ?_)
      ·
        refine CodeT.seq ?_
        refine CodeT.region (.p (opAssign .cf) rfl <| .nil ?_)
        refine EndT.thenN ?_
        refine CodeT.ret (EndT.blkR (EndT.thenR (EndT.thenR (EndT.blkR (EndT.thenR (Post.retP rfl rfl ?_))))))
        exact VLe.prop (typed_bad hx (by assumption)).symm
      ·
        refine CodeT.skip (EndT.blkN (EndT.thenN ?_))
        refine CodeT.region (.p (opMove (.t rfl)) rfl <| .p (opAddF (.t rfl) (.c _) (fits_i64 (by omega) (by omega))) rfl <| .p (opAssign (.t rfl)) rfl <| .nil ?_)
        refine EndT.round (k + 1) ⟨by omega, hnot.succ hx (by assumption)⟩ (by omega) rfl ?_
        exact (.get rfl (VLe.int (by omega)) (.keep 20 rfl rfl))
    ·
      refine CodeT.exit (EndT.thenX (EndT.thenX (EndT.blkX (EndT.thenN ?_))))
      refine CodeT.seq ?_
      refine CodeT.region (.p (opMove (.t rfl)) rfl <| .p (opLen rfl Try.underlying50 (.t rfl)) rfl <| .p (opLeq (.t rfl) (.c _)) rfl <| .p (opAssign (.t rfl)) rfl <| .nil ?_)
      refine EndT.thenN ?_
      refine CodeT.ret (Post.retP rfl rfl ?_)
      exact VLe.prop (typed_iff2 (hnot.all (by omega)))

theorem first_spec {n : Nat} {g : Nat → Int} (hp0 : n ≤ 281474976710656) : FnP Try.prog 61 [intV .i64 (n : Int), funV Try.prog (fun i : Nat => i < n) (fun i => [intV .i64 (i : Int)]) (fun i => intV .i64 (g i))] (intV .i64 (firstE g n)) := by
  refine FnE.intro 18 Try.func61 rfl rfl rfl fun w0 S0 M => ?_
  refine CodeT.seq ?_
  refine CodeT.region (.p (opAssign (.c _)) rfl <| .nil ?_)
  refine EndT.thenN ?_
  refine CodeT.seq ?_
  refine CodeT.seq ?_
  refine CodeT.region (.p (opMove (.t rfl)) rfl <| .p (opMove (.c _)) rfl <| .nil ?_)
  refine EndT.thenN ?_
  refine CodeT.block ?_
  refine CodeT.loopO (σ := Nat) (fun _ => []) (fun k => [(8, intV .i64 (k : Int))]) (fun k => k ≤ n ∧ firstE g k = 0) (fun k => n - k) 0 ⟨by omega, rfl⟩ rfl ?_ ?_
  · exact (.get rfl (VLe.refl _) (.refl _ _))
  · rintro k ⟨hk, hg⟩
    refine CodeT.seq ?_
    refine CodeT.region (.p (opLss (.t rfl) (.t rfl)) rfl <| .nil ?_)
    refine EndT.thenN ?_
    refine CodeT.seq ?_
    refine CodeT.cond (.t rfl) (fun c0 => ?_) (fun c0 => ?_)
    ·
      refine CodeT.skip (EndT.thenN ?_)
      refine CodeT.seq ?_
      refine CodeT.block ?_
      refine CodeT.seq ?_
      refine CodeT.region (.p (opMove (.t rfl)) rfl <| .p (opAssign (.t rfl)) rfl <| .nil ?_)
      refine EndT.thenN ?_
      refine CodeT.seq ?_
      refine CodeT.region (.p (opMove (.t rfl)) rfl <| .p (opMove (.t rfl)) rfl <| .p (opCallV k (.t rfl) (by show k < n; omega) (.cons (.t rfl) .nil)) rfl <| .p (opAssign (.t rfl)) rfl <| .nil ?_)
      refine EndT.thenN ?_
      refine CodeT.seq ?_
      refine CodeT.region (.p (opMove (.t rfl)) rfl <| .p (opNeq (.t rfl) (.c _)) rfl <| .nil ?_)
      refine EndT.thenN ?_
      refine CodeT.cond (.t rfl) (fun c1 => ?_) (fun c1 => ?_)
      ·
        refine CodeT.seq ?_
        refine CodeT.region (.p (opMove (.t rfl)) rfl <| .p (opAssign (.t rfl)) rfl <| .nil ?_)
        refine EndT.thenN ?_
        refine CodeT.ret (EndT.blkR (EndT.thenR (EndT.thenR (EndT.blkR (EndT.thenR (Post.retP rfl rfl ?_))))))
        exact VLe.int (firstE_at hg c1 (by omega)).symm
      ·
        refine CodeT.skip (EndT.blkN (EndT.thenN ?_))
        refine CodeT.region (.p (opAddF (.t rfl) (.c _) (fits_i64 (by omega) (by omega))) rfl <| .p (opMove (.t rfl)) rfl <| .nil ?_)
        refine EndT.round (k + 1) ⟨by omega, by simp only [firstE, hg]; simpa using c1⟩ (by omega) rfl ?_
        exact (.get rfl (VLe.int (by omega)) (.keep 12 rfl rfl))
    ·
      refine CodeT.exit (EndT.thenX (EndT.thenX (EndT.blkX (EndT.thenN ?_))))
      refine CodeT.seq ?_
      refine CodeT.region (.p (opAssign (.c _)) rfl <| .nil ?_)
      refine EndT.thenN ?_
      refine CodeT.ret (Post.retP rfl rfl ?_)
      exact VLe.int (by rw [show n = k by omega]; exact hg.symm)

theorem many_spec {n : Nat} {most : Int} {g : Nat → Int} (hp0 : n ≤ 281474976710656) : FnP Try.prog 56 [intV .i64 (n : Int), intV .i64 most, funV Try.prog (fun i : Nat => i < n) (fun i => [intV .i64 (i : Int)]) (fun i => intV .i64 (g i))] (intV .i64 (manyE n most g)) := by
  refine FnE.intro 13 Try.func56 rfl rfl rfl fun w0 S0 M => ?_
  refine CodeT.seq ?_
  refine CodeT.region (.p (opAssign (.c _)) rfl <| .nil ?_)
  refine EndT.thenN ?_
  refine CodeT.seq ?_
  refine CodeT.seq ?_
  refine CodeT.region (.p (opMove (.t rfl)) rfl <| .p (opMove (.t rfl)) rfl <| .p (opGtr (.t rfl) (.t rfl)) rfl <| .nil ?_)
  refine EndT.thenN ?_
  refine CodeT.cond (.t rfl) (fun c0 => ?_) (fun c0 => ?_)
  ·
    refine CodeT.seq ?_
    refine CodeT.region (.p (opAssign (.c _)) rfl <| .nil ?_)
    refine EndT.thenN ?_
    refine CodeT.ret (EndT.thenR (Post.retP rfl rfl ?_))
    exact VLe.int (by simp [manyE, *])
  ·
    refine CodeT.skip (EndT.thenN ?_)
    refine CodeT.seq ?_
    refine CodeT.region (.p (opMove (.t rfl)) rfl <| .p (opMove (.t rfl)) rfl <| .p (opCall (first_spec (by first | assumption | omega)) Try.cb61 (.cons (.t rfl) (.cons (.t rfl) .nil))) rfl <| .p (opAssign (.t rfl)) rfl <| .nil ?_)
    refine EndT.thenN ?_
    refine CodeT.ret (Post.retP rfl rfl ?_)
    exact VLe.int (by simp [manyE, *])

theorem count_spec {m : ModD} : FnP Try.prog 12 [ptrV (encMod m)] (intV .i64 (countM m)) := by
  refine FnE.intro 16 Try.func12 rfl rfl rfl fun w0 S0 M => ?_
  refine CodeT.fact (t := 0) rfl (fun S w v h => modLens h) fun hl => ?_
  have hl1 := hl.sigs; have hl2 := hl.imports; have hl3 := hl.funcs; have hl4 := hl.mems; have hl5 := hl.globals; have hl6 := hl.exports; have hl7 := hl.elems; have hl8 := hl.datas
  refine CodeT.seq ?_
  refine CodeT.region (.p (opAssign (.c _)) rfl <| .nil ?_)
  refine EndT.thenN ?_
  refine CodeT.seq ?_
  refine CodeT.seq ?_
  refine CodeT.region (.p (opMove (.t rfl)) rfl <| .p (opEqlNil Try.underlying38 (.t rfl)) rfl <| .nil ?_)
  refine EndT.thenN ?_
  refine CodeT.cond (.t rfl) (fun c0 => ?_) (fun c0 => ?_)
  ·
    exact c0.elim
  ·
    refine CodeT.skip (EndT.thenN ?_)
    refine CodeT.seq ?_
    refine CodeT.draw 10 2 Try.mixed (by kernel_rfl) (.p (opMove (.t rfl)) <| .p (opNilChk (.t rfl)) <| .p (opField Try.fd77_1 (.t rfl)) <| .p (opLoad Try.ag23 (.t rfl)) <| .p (opLen rfl Try.underlying23 (.t rfl)) <| .p (opMove (.t rfl)) <| .p (opNilChk (.t rfl)) <| .p (opField Try.fd77_2 (.t rfl)) <| .p (opLoad Try.ag75 (.t rfl)) <| .p (opLen rfl Try.underlying75 (.t rfl)) <| .nil) (.p (opAddF (.t rfl) (.t rfl) (fits_i64 (by omega) (by omega))) rfl <| .p (opAssign (.t rfl)) rfl <| .nil ?_)
    refine EndT.thenN ?_
    refine CodeT.ret (Post.retP rfl rfl ?_)
    first | exact VLe.refl _ | exact VLe.int (by omega) | exact VLe.prop (by omega) | exact VLe.prop (by simp_all) | exact VLe.prop (by simp; omega)

theorem sigsc_spec {m : ModD} {i : Nat} (hp0 : i < m.Sigs.length) : FnP Try.prog 57 [intV .i64 (i : Int), ptrV [ptrV (encMod m)]] (intV .i64 (onI m.Sigs sigE i)) := by
  refine FnE.intro 14 Try.func57 rfl rfl rfl fun w0 S0 M => ?_
  refine CodeT.fact (t := 1) rfl (fun S w v h => modLens2 h) fun hl => ?_
  have hl1 := hl.sigs; have hl2 := hl.imports; have hl3 := hl.funcs; have hl4 := hl.mems; have hl5 := hl.globals; have hl6 := hl.exports; have hl7 := hl.elems; have hl8 := hl.datas
  obtain ⟨x, hx⟩ := getElem?_lt hp0
  refine CodeT.seq ?_
  refine CodeT.region (.p (opAssign (.c _)) rfl <| .nil ?_)
  refine EndT.thenN ?_
  refine CodeT.seq ?_
  refine CodeT.region (.p (opLoad Try.ag38 (.t rfl)) rfl <| .p (opNilChk (.t rfl)) rfl <| .p (opField Try.fd77_0 (.t rfl)) rfl <| .p (opLoad Try.ag74 (.t rfl)) rfl <| .p (opMove (.t rfl)) rfl <| .p (opIndexAddr Try.underlying74 Try.cz46 rfl (.t rfl) (.t rfl) rfl (by assumption)) rfl <| .p (opLoadA Try.ag46 Try.cz46 rfl (.t rfl) rfl) rfl <| .p (opCall (right_spec) Try.cb59 (.cons (.t rfl) .nil)) rfl <| .p (opNot (.t rfl)) rfl <| .p (opCall (when_spec) Try.cb58 (.cons (.t rfl) (.cons (.c _) .nil))) rfl <| .p (opAssign (.t rfl)) rfl <| .nil ?_)
  refine EndT.thenN ?_
  refine CodeT.ret (Post.retP rfl rfl ?_)
  exact VLe.int (by rw [onI_eq hx]; rfl)

theorem importsc_spec {m : ModD} {i : Nat} (hp0 : i < m.Imports.length) : FnP Try.prog 60 [intV .i64 (i : Int), ptrV [ptrV (encMod m)]] (intV .i64 (onI m.Imports (importE m) i)) := by
  refine FnE.intro 32 Try.func60 rfl rfl rfl fun w0 S0 M => ?_
  refine CodeT.fact (t := 1) rfl (fun S w v h => modLens2 h) fun hl => ?_
  have hl1 := hl.sigs; have hl2 := hl.imports; have hl3 := hl.funcs; have hl4 := hl.mems; have hl5 := hl.globals; have hl6 := hl.exports; have hl7 := hl.elems; have hl8 := hl.datas
  obtain ⟨x, hx⟩ := getElem?_lt hp0
  refine CodeT.seq ?_
  refine CodeT.region (.p (opAssign (.c _)) rfl <| .nil ?_)
  refine EndT.thenN ?_
  refine CodeT.seq ?_
  refine CodeT.region (.p (opLoad Try.ag38 (.t rfl)) rfl <| .p (opNilChk (.t rfl)) rfl <| .p (opField Try.fd77_1 (.t rfl)) rfl <| .p (opLoad Try.ag23 (.t rfl)) rfl <| .p (opMove (.t rfl)) rfl <| .p (opIndexAddr Try.underlying23 Try.cz62 rfl (.t rfl) (.t rfl) rfl (by assumption)) rfl <| .p (opLoadA Try.ag62 Try.cz62 rfl (.t rfl) rfl) rfl <| .n (opAlloc Try.zb62) rfl <| fun b4 _ => .s (opStoreOA (i := 0) Try.cz62 rfl (.t rfl) (.t rfl) rfl rfl rfl) <| .nil ?_)
  refine EndT.thenN ?_
  refine CodeT.share (t := 4) (i := 0) rfl rfl ?_
  refine CodeT.seq ?_
  refine CodeT.seq ?_
  refine CodeT.region (.p (opField Try.fd62_0 (.t rfl)) rfl <| .p (opLoad Try.ag9 (.t rfl)) rfl <| .p (opCall (named_spec) Try.cb13 (.cons (.t rfl) .nil)) rfl <| .p (opNot (.t rfl)) rfl <| .p (opMove (.t rfl)) rfl <| .g (OpG.gF rfl rfl rfl rfl (fun hg => opField Try.fd62_1 (.t rfl))) rfl rfl <| .g (OpG.gF rfl rfl rfl rfl (fun hg => opLoad Try.ag9 (.when (.t rfl) hg))) rfl rfl <| .g (OpG.gF rfl rfl rfl rfl (fun hg => opCall (named_spec) Try.cb13 (.cons (.when (.t rfl) hg) .nil))) rfl rfl <| .g (OpG.gF rfl rfl rfl rfl (fun hg => opNot (.when (.t rfl) hg))) rfl rfl <| .p (opOr (.t rfl) (.t rfl)) rfl <| .nil ?_)
  refine EndT.thenN ?_
  refine CodeT.cond (.t rfl) (fun c0 => ?_) (fun c0 => ?_)
  ·
    refine CodeT.seq ?_
    refine CodeT.region (.p (opAssign (.c _)) rfl <| .nil ?_)
    refine EndT.thenN ?_
    refine CodeT.ret (EndT.thenR (Post.retP rfl rfl ?_))
    exact VLe.int (by rw [onI_eq hx]; simp only [importE]; first | rw [if_pos (by assumption)] | rw [if_neg (by assumption)])
  ·
    refine CodeT.skip (EndT.thenN ?_)
    refine CodeT.seq ?_
    refine CodeT.draw 7 4 Try.mixed (by kernel_rfl) (.p (opField Try.fd62_2 (.t rfl)) <| .p (opLoad Try.ag3 (.t rfl)) <| .p (opLoad Try.ag38 (.t rfl)) <| .p (opNilChk (.t rfl)) <| .p (opField Try.fd77_0 (.t rfl)) <| .p (opLoad Try.ag74 (.t rfl)) <| .p (opLen rfl Try.underlying74 (.t rfl)) <| .nil) (.p (opCall (has_spec) Try.cb38 (.cons (.t rfl) (.cons (.t rfl) .nil))) rfl <| .p (opNot (.t rfl)) rfl <| .p (opCall (when_spec) Try.cb58 (.cons (.t rfl) (.cons (.c _) .nil))) rfl <| .p (opAssign (.t rfl)) rfl <| .nil ?_)
    refine EndT.thenN ?_
    refine CodeT.ret (Post.retP rfl rfl ?_)
    exact VLe.int (by rw [onI_eq hx]; simp only [importE]; first | rw [if_pos (by assumption)] | rw [if_neg (by assumption)])

theorem funcsc_spec {m : ModD} {i : Nat} (hp0 : i < m.Funcs.length) : FnP Try.prog 62 [intV .i64 (i : Int), ptrV [ptrV (encMod m)]] (intV .i64 (onI m.Funcs (funcE m) i)) := by
  refine FnE.intro 20 Try.func62 rfl rfl rfl fun w0 S0 M => ?_
  refine CodeT.fact (t := 1) rfl (fun S w v h => modLens2 h) fun hl => ?_
  have hl1 := hl.sigs; have hl2 := hl.imports; have hl3 := hl.funcs; have hl4 := hl.mems; have hl5 := hl.globals; have hl6 := hl.exports; have hl7 := hl.elems; have hl8 := hl.datas
  obtain ⟨x, hx⟩ := getElem?_lt hp0
  refine CodeT.seq ?_
  refine CodeT.region (.p (opAssign (.c _)) rfl <| .nil ?_)
  refine EndT.thenN ?_
  refine CodeT.seq ?_
  refine CodeT.draw 13 4 Try.mixed (by kernel_rfl) (.p (opLoad Try.ag38 (.t rfl)) <| .p (opNilChk (.t rfl)) <| .p (opField Try.fd77_2 (.t rfl)) <| .p (opLoad Try.ag75 (.t rfl)) <| .p (opMove (.t rfl)) <| .p (opIndexAddr Try.underlying75 Try.cz73 rfl (.t rfl) (.t rfl) rfl (by assumption)) <| .p (opField Try.fd73_0 (.t rfl)) <| .p (opLoad Try.ag3 (.t rfl)) <| .p (opLoad Try.ag38 (.t rfl)) <| .p (opNilChk (.t rfl)) <| .p (opField Try.fd77_0 (.t rfl)) <| .p (opLoad Try.ag74 (.t rfl)) <| .p (opLen rfl Try.underlying74 (.t rfl)) <| .nil) (.p (opCall (has_spec) Try.cb38 (.cons (.t rfl) (.cons (.t rfl) .nil))) rfl <| .p (opNot (.t rfl)) rfl <| .p (opCall (when_spec) Try.cb58 (.cons (.t rfl) (.cons (.c _) .nil))) rfl <| .p (opAssign (.t rfl)) rfl <| .nil ?_)
  refine EndT.thenN ?_
  refine CodeT.ret (Post.retP rfl rfl ?_)
  exact VLe.int (by rw [onI_eq hx]; rfl)

theorem memsc_spec {m : ModD} {i : Nat} (hp0 : i < m.Mems.length) : FnP Try.prog 63 [intV .i64 (i : Int), ptrV [ptrV (encMod m)]] (intV .i64 (onI m.Mems memE i)) := by
  refine FnE.intro 14 Try.func63 rfl rfl rfl fun w0 S0 M => ?_
  refine CodeT.fact (t := 1) rfl (fun S w v h => modLens2 h) fun hl => ?_
  have hl1 := hl.sigs; have hl2 := hl.imports; have hl3 := hl.funcs; have hl4 := hl.mems; have hl5 := hl.globals; have hl6 := hl.exports; have hl7 := hl.elems; have hl8 := hl.datas
  obtain ⟨x, hx⟩ := getElem?_lt hp0
  refine CodeT.seq ?_
  refine CodeT.region (.p (opAssign (.c _)) rfl <| .nil ?_)
  refine EndT.thenN ?_
  refine CodeT.seq ?_
  refine CodeT.region (.p (opLoad Try.ag38 (.t rfl)) rfl <| .p (opNilChk (.t rfl)) rfl <| .p (opField Try.fd77_4 (.t rfl)) rfl <| .p (opLoad Try.ag25 (.t rfl)) rfl <| .p (opMove (.t rfl)) rfl <| .p (opIndexAddr Try.underlying25 Try.cz79 rfl (.t rfl) (.t rfl) rfl (by assumption)) rfl <| .p (opLoadA Try.ag79 Try.cz79 rfl (.t rfl) rfl) rfl <| .p (opCall (lright_spec) Try.cb64 (.cons (.t rfl) (.cons (.c _) .nil))) rfl <| .p (opNot (.t rfl)) rfl <| .p (opCall (when_spec) Try.cb58 (.cons (.t rfl) (.cons (.c _) .nil))) rfl <| .p (opAssign (.t rfl)) rfl <| .nil ?_)
  refine EndT.thenN ?_
  refine CodeT.ret (Post.retP rfl rfl ?_)
  exact VLe.int (by rw [onI_eq hx]; rfl)

theorem globalsc_spec {m : ModD} {i : Nat} (hp0 : i < m.Globals.length) : FnP Try.prog 65 [intV .i64 (i : Int), ptrV [ptrV (encMod m)]] (intV .i64 (onI m.Globals globalE i)) := by
  refine FnE.intro 27 Try.func65 rfl rfl rfl fun w0 S0 M => ?_
  refine CodeT.fact (t := 1) rfl (fun S w v h => modLens2 h) fun hl => ?_
  have hl1 := hl.sigs; have hl2 := hl.imports; have hl3 := hl.funcs; have hl4 := hl.mems; have hl5 := hl.globals; have hl6 := hl.exports; have hl7 := hl.elems; have hl8 := hl.datas
  obtain ⟨x, hx⟩ := getElem?_lt hp0
  refine CodeT.seq ?_
  refine CodeT.region (.p (opAssign (.c _)) rfl <| .nil ?_)
  refine EndT.thenN ?_
  refine CodeT.seq ?_
  refine CodeT.region (.p (opLoad Try.ag38 (.t rfl)) rfl <| .p (opNilChk (.t rfl)) rfl <| .p (opField Try.fd77_5 (.t rfl)) rfl <| .p (opLoad Try.ag26 (.t rfl)) rfl <| .p (opMove (.t rfl)) rfl <| .p (opIndexAddr Try.underlying26 Try.cz83 rfl (.t rfl) (.t rfl) rfl (by assumption)) rfl <| .p (opLoadA Try.ag83 Try.cz83 rfl (.t rfl) rfl) rfl <| .n (opAlloc Try.zb83) rfl <| fun b4 _ => .s (opStoreOA (i := 0) Try.cz83 rfl (.t rfl) (.t rfl) rfl rfl rfl) <| .nil ?_)
  refine EndT.thenN ?_
  refine CodeT.share (t := 4) (i := 0) rfl rfl ?_
  refine CodeT.seq ?_
  refine CodeT.region (.p (opField Try.fd83_0 (.t rfl)) rfl <| .p (opLoad Try.ag80 (.t rfl)) rfl <| .p (opCall (bits_spec) Try.cb66 (.cons (.t rfl) .nil)) rfl <| .p (opEql (.t rfl) (.c _)) rfl <| .p (opMove (.t rfl)) rfl <| .g (OpG.gF rfl rfl rfl rfl (fun hg => opField Try.fd83_0 (.t rfl))) rfl rfl <| .g (OpG.gF rfl rfl rfl rfl (fun hg => opLoad Try.ag80 (.when (.t rfl) hg))) rfl rfl <| .g (OpG.gF rfl rfl rfl rfl (fun hg => opEql (.when (.t rfl) hg) (.c _))) rfl rfl <| .g (OpG.gF rfl rfl rfl rfl (fun hg => opMove (.when (.t rfl) hg))) rfl rfl <| .g (OpG.hT rfl rfl rfl rfl (fun hg => opField Try.fd83_2 (.t rfl))) rfl rfl <| .g (OpG.hT rfl rfl rfl rfl (fun hg => opLoad Try.ag81 (.when (.t rfl) hg))) rfl rfl <| .g (OpG.hT rfl rfl rfl rfl (fun hg => opGtr (.when (.t rfl) hg) (.c _))) rfl rfl <| .g (OpG.gF rfl rfl rfl rfl (fun hg => opAnd (.when (.t rfl) hg) (.under (.t rfl) hg))) rfl rfl <| .p (opOr (.t rfl) (.t rfl)) rfl <| .p (opCall (when_spec) Try.cb58 (.cons (.t rfl) (.cons (.c _) .nil))) rfl <| .p (opAssign (.t rfl)) rfl <| .nil ?_)
  refine EndT.thenN ?_
  refine CodeT.ret (Post.retP rfl rfl ?_)
  exact VLe.int (by rw [onI_eq hx]; rfl)

theorem sigs_spec {m : ModD} : FnP Try.prog 27 [ptrV (encMod m)] (intV .i64 (sigsE m)) := by
  refine FnE.intro 10 Try.func27 rfl rfl rfl fun w0 S0 M => ?_
  refine CodeT.fact (t := 0) rfl (fun S w v h => modLens h) fun hl => ?_
  have hl1 := hl.sigs; have hl2 := hl.imports; have hl3 := hl.funcs; have hl4 := hl.mems; have hl5 := hl.globals; have hl6 := hl.exports; have hl7 := hl.elems; have hl8 := hl.datas
  refine CodeT.seq ?_
  refine CodeT.region (.p (opBox (.t rfl)) rfl <| .p (opAssign (.c _)) rfl <| .nil ?_)
  refine EndT.thenN ?_
  refine CodeT.seq ?_
  refine CodeT.region (.p (opLoad Try.ag38 (.t rfl)) rfl <| .p (opNilChk (.t rfl)) rfl <| .p (opField Try.fd77_0 (.t rfl)) rfl <| .p (opLoad Try.ag74 (.t rfl)) rfl <| .p (opLen rfl Try.underlying74 (.t rfl)) rfl <| .p (opMakeFunc (A := Nat) (ok := fun i => i < m.Sigs.length) (arg := fun i => [intV .i64 (i : Int)]) (res := fun i => intV .i64 (onI m.Sigs sigE i)) Try.cb57 .nil (.cons (.t rfl) .nil) (fun i hi => sigsc_spec hi)) rfl <| .p (opCall (many_spec (by first | assumption | omega)) Try.cb56 (.cons (.t rfl) (.cons (.c _) (.cons (.t rfl) .nil)))) rfl <| .p (opAssign (.t rfl)) rfl <| .nil ?_)
  refine EndT.thenN ?_
  refine CodeT.ret (Post.retP rfl rfl ?_)
  exact VLe.refl _

theorem imports_spec {m : ModD} : FnP Try.prog 28 [ptrV (encMod m)] (intV .i64 (importsE m)) := by
  refine FnE.intro 10 Try.func28 rfl rfl rfl fun w0 S0 M => ?_
  refine CodeT.fact (t := 0) rfl (fun S w v h => modLens h) fun hl => ?_
  have hl1 := hl.sigs; have hl2 := hl.imports; have hl3 := hl.funcs; have hl4 := hl.mems; have hl5 := hl.globals; have hl6 := hl.exports; have hl7 := hl.elems; have hl8 := hl.datas
  refine CodeT.seq ?_
  refine CodeT.region (.p (opBox (.t rfl)) rfl <| .p (opAssign (.c _)) rfl <| .nil ?_)
  refine EndT.thenN ?_
  refine CodeT.seq ?_
  refine CodeT.region (.p (opLoad Try.ag38 (.t rfl)) rfl <| .p (opNilChk (.t rfl)) rfl <| .p (opField Try.fd77_1 (.t rfl)) rfl <| .p (opLoad Try.ag23 (.t rfl)) rfl <| .p (opLen rfl Try.underlying23 (.t rfl)) rfl <| .p (opMakeFunc (A := Nat) (ok := fun i => i < m.Imports.length) (arg := fun i => [intV .i64 (i : Int)]) (res := fun i => intV .i64 (onI m.Imports (importE m) i)) Try.cb60 .nil (.cons (.t rfl) .nil) (fun i hi => importsc_spec hi)) rfl <| .p (opCall (many_spec (by first | assumption | omega)) Try.cb56 (.cons (.t rfl) (.cons (.c _) (.cons (.t rfl) .nil)))) rfl <| .p (opAssign (.t rfl)) rfl <| .nil ?_)
  refine EndT.thenN ?_
  refine CodeT.ret (Post.retP rfl rfl ?_)
  exact VLe.refl _

theorem mems_spec {m : ModD} : FnP Try.prog 31 [ptrV (encMod m)] (intV .i64 (memsE m)) := by
  refine FnE.intro 10 Try.func31 rfl rfl rfl fun w0 S0 M => ?_
  refine CodeT.fact (t := 0) rfl (fun S w v h => modLens h) fun hl => ?_
  have hl1 := hl.sigs; have hl2 := hl.imports; have hl3 := hl.funcs; have hl4 := hl.mems; have hl5 := hl.globals; have hl6 := hl.exports; have hl7 := hl.elems; have hl8 := hl.datas
  refine CodeT.seq ?_
  refine CodeT.region (.p (opBox (.t rfl)) rfl <| .p (opAssign (.c _)) rfl <| .nil ?_)
  refine EndT.thenN ?_
  refine CodeT.seq ?_
  refine CodeT.region (.p (opLoad Try.ag38 (.t rfl)) rfl <| .p (opNilChk (.t rfl)) rfl <| .p (opField Try.fd77_4 (.t rfl)) rfl <| .p (opLoad Try.ag25 (.t rfl)) rfl <| .p (opLen rfl Try.underlying25 (.t rfl)) rfl <| .p (opMakeFunc (A := Nat) (ok := fun i => i < m.Mems.length) (arg := fun i => [intV .i64 (i : Int)]) (res := fun i => intV .i64 (onI m.Mems memE i)) Try.cb63 .nil (.cons (.t rfl) .nil) (fun i hi => memsc_spec hi)) rfl <| .p (opCall (many_spec (by first | assumption | omega)) Try.cb56 (.cons (.t rfl) (.cons (.c _) (.cons (.t rfl) .nil)))) rfl <| .p (opAssign (.t rfl)) rfl <| .nil ?_)
  refine EndT.thenN ?_
  refine CodeT.ret (Post.retP rfl rfl ?_)
  exact VLe.refl _

theorem globals_spec {m : ModD} : FnP Try.prog 32 [ptrV (encMod m)] (intV .i64 (globalsE m)) := by
  refine FnE.intro 10 Try.func32 rfl rfl rfl fun w0 S0 M => ?_
  refine CodeT.fact (t := 0) rfl (fun S w v h => modLens h) fun hl => ?_
  have hl1 := hl.sigs; have hl2 := hl.imports; have hl3 := hl.funcs; have hl4 := hl.mems; have hl5 := hl.globals; have hl6 := hl.exports; have hl7 := hl.elems; have hl8 := hl.datas
  refine CodeT.seq ?_
  refine CodeT.region (.p (opBox (.t rfl)) rfl <| .p (opAssign (.c _)) rfl <| .nil ?_)
  refine EndT.thenN ?_
  refine CodeT.seq ?_
  refine CodeT.region (.p (opLoad Try.ag38 (.t rfl)) rfl <| .p (opNilChk (.t rfl)) rfl <| .p (opField Try.fd77_5 (.t rfl)) rfl <| .p (opLoad Try.ag26 (.t rfl)) rfl <| .p (opLen rfl Try.underlying26 (.t rfl)) rfl <| .p (opMakeFunc (A := Nat) (ok := fun i => i < m.Globals.length) (arg := fun i => [intV .i64 (i : Int)]) (res := fun i => intV .i64 (onI m.Globals globalE i)) Try.cb65 .nil (.cons (.t rfl) .nil) (fun i hi => globalsc_spec hi)) rfl <| .p (opCall (many_spec (by first | assumption | omega)) Try.cb56 (.cons (.t rfl) (.cons (.c _) (.cons (.t rfl) .nil)))) rfl <| .p (opAssign (.t rfl)) rfl <| .nil ?_)
  refine EndT.thenN ?_
  refine CodeT.ret (Post.retP rfl rfl ?_)
  exact VLe.refl _

theorem funcs_spec {m : ModD} : FnP Try.prog 29 [ptrV (encMod m)] (intV .i64 (funcsE m)) := by
  refine FnE.intro 13 Try.func29 rfl rfl rfl fun w0 S0 M => ?_
  refine CodeT.fact (t := 0) rfl (fun S w v h => modLens h) fun hl => ?_
  have hl1 := hl.sigs; have hl2 := hl.imports; have hl3 := hl.funcs; have hl4 := hl.mems; have hl5 := hl.globals; have hl6 := hl.exports; have hl7 := hl.elems; have hl8 := hl.datas
  refine CodeT.seq ?_
  refine CodeT.region (.p (opBox (.t rfl)) rfl <| .p (opAssign (.c _)) rfl <| .nil ?_)
  refine EndT.thenN ?_
  refine CodeT.seq ?_
  refine CodeT.seq ?_
  refine CodeT.region (.p (opLoad Try.ag38 (.t rfl)) rfl <| .p (opCall (count_spec) Try.cb12 (.cons (.t rfl) .nil)) rfl <| .p (opGtr (.t rfl) (.c _)) rfl <| .nil ?_)
  refine EndT.thenN ?_
  refine CodeT.cond (.t rfl) (fun c0 => ?_) (fun c0 => ?_)
  ·
    refine CodeT.seq ?_
    refine CodeT.region (.p (opAssign (.c _)) rfl <| .nil ?_)
    refine EndT.thenN ?_
    refine CodeT.ret (EndT.thenR (Post.retP rfl rfl ?_))
    exact VLe.int (by simp [funcsE, *])
  ·
    refine CodeT.skip (EndT.thenN ?_)
    refine CodeT.seq ?_
    refine CodeT.region (.p (opLoad Try.ag38 (.t rfl)) rfl <| .p (opNilChk (.t rfl)) rfl <| .p (opField Try.fd77_2 (.t rfl)) rfl <| .p (opLoad Try.ag75 (.t rfl)) rfl <| .p (opLen rfl Try.underlying75 (.t rfl)) rfl <| .p (opMakeFunc (A := Nat) (ok := fun i => i < m.Funcs.length) (arg := fun i => [intV .i64 (i : Int)]) (res := fun i => intV .i64 (onI m.Funcs (funcE m) i)) Try.cb62 .nil (.cons (.t rfl) .nil) (fun i hi => funcsc_spec hi)) rfl <| .p (opCall (first_spec (by first | assumption | omega)) Try.cb61 (.cons (.t rfl) (.cons (.t rfl) .nil))) rfl <| .p (opAssign (.t rfl)) rfl <| .nil ?_)
    refine EndT.thenN ?_
    refine CodeT.ret (Post.retP rfl rfl ?_)
    exact VLe.int (by simp [funcsE, *])

theorem table_spec {m : ModD} : FnP Try.prog 30 [ptrV (encMod m)] (intV .i64 (tableE m)) := by
  refine FnE.intro 14 Try.func30 rfl rfl rfl fun w0 S0 M => ?_
  refine CodeT.seq ?_
  refine CodeT.region (.p (opAssign (.c _)) rfl <| .nil ?_)
  refine EndT.thenN ?_
  refine CodeT.seq ?_
  refine CodeT.seq ?_
  refine CodeT.region (.p (opMove (.t rfl)) rfl <| .p (opNilChk (.t rfl)) rfl <| .p (opField Try.fd77_3 (.t rfl)) rfl <| .p (opLoad Try.ag3 (.t rfl)) rfl <| .p (opLss (.t rfl) (.c _)) rfl <| .nil ?_)
  refine EndT.thenN ?_
  refine CodeT.cond (.t rfl) (fun c0 => ?_) (fun c0 => ?_)
  ·
    refine CodeT.seq ?_
    refine CodeT.region (.p (opAssign (.c _)) rfl <| .nil ?_)
    refine EndT.thenN ?_
    refine CodeT.ret (EndT.thenR (Post.retP rfl rfl ?_))
    exact VLe.int (by simp [tableE, *])
  ·
    refine CodeT.skip (EndT.thenN ?_)
    refine CodeT.seq ?_
    refine CodeT.region (.p (opMove (.t rfl)) rfl <| .p (opNilChk (.t rfl)) rfl <| .p (opField Try.fd77_3 (.t rfl)) rfl <| .p (opLoad Try.ag3 (.t rfl)) rfl <| .p (opGtr (.t rfl) (.c _)) rfl <| .p (opCall (when_spec) Try.cb58 (.cons (.t rfl) (.cons (.c _) .nil))) rfl <| .p (opAssign (.t rfl)) rfl <| .nil ?_)
    refine EndT.thenN ?_
    refine CodeT.ret (Post.retP rfl rfl ?_)
    exact VLe.int (by simp [tableE, *])

theorem number_spec {m : ModD} {f : Int} : FnP Try.prog 37 [ptrV (encMod m), intV .i64 f] (tupV [intV .i64 ((numberO m f).getD 0), propV (numberO m f).isSome]) := by
  refine FnE.intro 43 Try.func37 rfl rfl rfl fun w0 S0 M => ?_
  refine CodeT.fact (t := 0) rfl (fun S w v h => modLens h) fun hl => ?_
  have hl1 := hl.sigs; have hl2 := hl.imports; have hl3 := hl.funcs; have hl4 := hl.mems; have hl5 := hl.globals; have hl6 := hl.exports; have hl7 := hl.elems; have hl8 := hl.datas
  refine CodeT.seq ?_
  refine CodeT.region (.p (opAssign (.c _)) rfl <| .p (opAssign .cf) rfl <| .nil ?_)
  refine EndT.thenN ?_
  refine CodeT.seq ?_
  refine CodeT.region (.p (opMove (.t rfl)) rfl <| .p (opNilChk (.t rfl)) rfl <| .p (opField Try.fd77_1 (.t rfl)) rfl <| .p (opLoad Try.ag23 (.t rfl)) rfl <| .p (opLen rfl Try.underlying23 (.t rfl)) rfl <| .p (opAssign (.t rfl)) rfl <| .nil ?_)
  refine EndT.thenN ?_
  refine CodeT.block ?_
  refine CodeT.seq ?_
  refine CodeT.region (.p (opMove (.t rfl)) rfl <| .p (opLss (.t rfl) (.c _)) rfl <| .p (opMove (.t rfl)) rfl <| .g (OpG.gF rfl rfl rfl rfl (fun hg => opMove (.t rfl))) rfl rfl <| .g (OpG.gF rfl rfl rfl rfl (fun hg => opMove (.t rfl))) rfl rfl <| .g (OpG.gF rfl rfl rfl rfl (fun hg => opCall (count_spec) Try.cb12 (.cons (.when (.t rfl) hg) .nil))) rfl rfl <| .g (OpG.gF rfl rfl rfl rfl (fun hg => opGeq (.when (.t rfl) hg) (.when (.t rfl) hg))) rfl rfl <| .p (opOr (.t rfl) (.t rfl)) rfl <| .p (opAssign (.t rfl)) rfl <| .nil ?_)
  refine EndT.thenN ?_
  refine CodeT.cond (.t rfl) (fun c0 => ?_) (fun c0 => ?_)
  ·
    refine CodeT.seq ?_
    refine CodeT.region (.p (opAssign (.c _)) rfl <| .p (opAssign .cf) rfl <| .nil ?_)
    refine EndT.thenN ?_
    refine CodeT.ret (EndT.blkR (Post.retR rfl rfl () trivial (fun _ _ _ _ => trivial) rfl (.cons (.rt rfl) ?_ (.cons (.rt rfl) ?_ .nil))))
    · exact VLe.int (by simp [numberO, *])
    · exact VLe.prop (by simp [numberO, *])
  ·
    refine CodeT.seq ?_
    refine CodeT.region (.p (opMove (.t rfl)) rfl <| .p (opMove (.t rfl)) rfl <| .p (opLss (.t rfl) (.t rfl)) rfl <| .p (opAssign (.t rfl)) rfl <| .nil ?_)
    refine EndT.thenN ?_
    refine CodeT.cond (.t rfl) (fun c1 => ?_) (fun c1 => ?_)
    ·
      refine CodeT.seq ?_
      obtain ⟨j, rfl⟩ : ∃ j : Nat, f = (j : Int) := ⟨f.toNat, by omega⟩
      obtain ⟨x, hx⟩ := getElem?_lt (xs := m.Imports) (k := j) (by omega)
      refine CodeT.region (.p (opMove (.t rfl)) rfl <| .p (opNilChk (.t rfl)) rfl <| .p (opField Try.fd77_1 (.t rfl)) rfl <| .p (opLoad Try.ag23 (.t rfl)) rfl <| .p (opMove (.t rfl)) rfl <| .p (opIndexAddr Try.underlying23 Try.cz62 rfl (.t rfl) (.t rfl) rfl (by assumption)) rfl <| .p (opField Try.fd62_2 (.t rfl)) rfl <| .p (opLoad Try.ag3 (.t rfl)) rfl <| .p (opAssign (.t rfl)) rfl <| .p (opAssign .ct) rfl <| .nil ?_)
      refine EndT.thenN ?_
      refine CodeT.ret (EndT.blkR (Post.retR rfl rfl () trivial (fun _ _ _ _ => trivial) rfl (.cons (.rt rfl) ?_ (.cons (.rt rfl) ?_ .nil))))
      · exact VLe.int (by rw [numberO_import (by omega) hx]; rfl)
      · exact VLe.prop (by rw [numberO_import (by omega) hx]; simp)
    ·
      refine CodeT.seq ?_
      obtain ⟨j, rfl⟩ : ∃ j : Nat, f = (m.Imports.length : Int) + (j : Int) := ⟨(f - m.Imports.length).toNat, by omega⟩
      have hcm : countM m = (m.Imports.length : Int) + (m.Funcs.length : Int) := rfl
      obtain ⟨x, hx⟩ := getElem?_lt (xs := m.Funcs) (k := j) (by omega)
      refine CodeT.region (.p (opMove (.t rfl)) rfl <| .p (opNilChk (.t rfl)) rfl <| .p (opField Try.fd77_2 (.t rfl)) rfl <| .p (opLoad Try.ag75 (.t rfl)) rfl <| .p (opMove (.t rfl)) rfl <| .p (opMove (.t rfl)) rfl <| .p (opSubF (.t rfl) (.t rfl) (fits_i64 (by omega) (by omega))) rfl <| .p (opIndexAddr (j := j) Try.underlying75 Try.cz73 rfl (.t rfl) (.t rfl) (by omega) (by assumption)) rfl <| .p (opField Try.fd73_0 (.t rfl)) rfl <| .p (opLoad Try.ag3 (.t rfl)) rfl <| .p (opAssign (.t rfl)) rfl <| .p (opAssign .ct) rfl <| .nil ?_)
      refine EndT.thenN ?_
      refine CodeT.ret (EndT.blkR (Post.retR rfl rfl () trivial (fun _ _ _ _ => trivial) rfl (.cons (.rt rfl) ?_ (.cons (.rt rfl) ?_ .nil))))
      · exact VLe.int (by rw [numberO_func hx]; rfl)
      · exact VLe.prop (by rw [numberO_func hx]; simp)

theorem msig_spec {m : ModD} {f : Int} : FnP Try.prog 15 [ptrV (encMod m), intV .i64 f] (tupV [aggV (encSig ((sigO m f).getD ⟨[], []⟩)), propV (sigO m f).isSome]) := by
  refine FnE.intro 37 Try.func15 rfl rfl rfl fun w0 S0 M => ?_
  refine CodeT.fact (t := 0) rfl (fun S w v h => modLens h) fun hl => ?_
  have hl1 := hl.sigs; have hl2 := hl.imports; have hl3 := hl.funcs; have hl4 := hl.mems; have hl5 := hl.globals; have hl6 := hl.exports; have hl7 := hl.elems; have hl8 := hl.datas
  refine CodeT.seq ?_
  refine CodeT.region (.n (opAlloc Try.zb46) rfl <| fun b4 _ => .p (opAssign .cf) rfl <| .nil ?_)
  refine EndT.thenN ?_
  refine CodeT.seq ?_
  refine CodeT.seq ?_
  refine CodeT.region (.p (opMove (.t rfl)) rfl <| .p (opEqlNil Try.underlying38 (.t rfl)) rfl <| .nil ?_)
  refine EndT.thenN ?_
  refine CodeT.cond (.t rfl) (fun c0 => ?_) (fun c0 => ?_)
  ·
    exact c0.elim
  ·
    refine CodeT.skip (EndT.thenN ?_)
    refine CodeT.seq ?_
    refine CodeT.region (.p (opMove (.t rfl)) rfl <| .p (opMove (.t rfl)) rfl <| .p (opCall (number_spec) Try.cb37 (.cons (.t rfl) (.cons (.t rfl) .nil))) rfl <| .p (opMove (.t rfl)) rfl <| .p (opExtract (.t rfl) rfl) rfl <| .p (opExtract (.t rfl) rfl) rfl <| .p (opAssign (.t rfl)) rfl <| .p (opAssign (.t rfl)) rfl <| .nil ?_)
    refine EndT.thenN ?_
    refine CodeT.seq ?_
    refine CodeT.seq ?_
    refine CodeT.region (.p (opMove (.t rfl)) rfl <| .p (opNot (.t rfl)) rfl <| .p (opMove (.t rfl)) rfl <| .g (OpG.gF rfl rfl rfl rfl (fun hg => opMove (.t rfl))) rfl rfl <| .g (OpG.gF rfl rfl rfl rfl (fun hg => opMove (.t rfl))) rfl rfl <| .g (OpG.gF rfl rfl rfl rfl (fun hg => opNilChk (.when (.t rfl) hg))) rfl rfl <| .g (OpG.gF rfl rfl rfl rfl (fun hg => opField Try.fd77_0 (.when (.t rfl) hg))) rfl rfl <| .g (OpG.gF rfl rfl rfl rfl (fun hg => opLoad Try.ag74 (.when (.t rfl) hg))) rfl rfl <| .g (OpG.gF rfl rfl rfl rfl (fun hg => opLen rfl Try.underlying74 (.when (.t rfl) hg))) rfl rfl <| .g (OpG.gF rfl rfl rfl rfl (fun hg => opCall (has_spec) Try.cb38 (.cons (.when (.t rfl) hg) (.cons (.when (.t rfl) hg) .nil)))) rfl rfl <| .g (OpG.gF rfl rfl rfl rfl (fun hg => opNot (.when (.t rfl) hg))) rfl rfl <| .p (opOr (.t rfl) (.t rfl)) rfl <| .nil ?_)
    refine EndT.thenN ?_
    refine CodeT.cond (.t rfl) (fun c1 => ?_) (fun c1 => ?_)
    ·
      refine CodeT.seq ?_
      refine CodeT.region (.p (opBuild Try.pl46 Try.zb46 .nil rfl) rfl <| .s (opStoreOA (i := 0) Try.cz46 rfl (.t rfl) (.t rfl) rfl rfl rfl) <| .p (opAssign .cf) rfl <| .nil ?_)
      refine EndT.thenN ?_
      refine CodeT.ret (EndT.thenR (Post.retR rfl rfl () trivial (fun _ _ _ _ => trivial) rfl (.cons (.ra (i := 0) Try.ag46 Try.cz46 rfl rfl rfl rfl) ?_ (.cons (.rt rfl) ?_ .nil))))
      · rw [sigO_none c1]; exact VLe.agg2 (sliceV_nil _ _) (sliceV_nil _ _)
      · exact VLe.prop (by rw [sigO_none c1]; simp)
    ·
      refine CodeT.skip (EndT.thenN ?_)
      refine CodeT.seq ?_
      obtain ⟨n, hn⟩ : ∃ n, numberO m f = some n := Option.isSome_iff_exists.1 (Classical.byContradiction fun h => c1 (.inl h))
      have hin : InP n m.Sigs.length := Classical.byContradiction fun h => c1 (.inr (by rw [hn]; exact h))
      obtain ⟨j, hj⟩ : ∃ j : Nat, n = (j : Int) := ⟨n.toNat, by have := hin.1; omega⟩
      obtain ⟨x, hx⟩ := getElem?_lt (xs := m.Sigs) (k := j) (by have := hin.2; omega)
      refine CodeT.region (.p (opMove (.t rfl)) rfl <| .p (opNilChk (.t rfl)) rfl <| .p (opField Try.fd77_0 (.t rfl)) rfl <| .p (opLoad Try.ag74 (.t rfl)) rfl <| .p (opMove (.t rfl)) rfl <| .p (opIndexAddr (j := j) Try.underlying74 Try.cz46 rfl (.t rfl) (.t rfl) (by rw [hn, hj]; rfl) (by assumption)) rfl <| .p (opLoadA Try.ag46 Try.cz46 rfl (.t rfl) rfl) rfl <| .s (opStoreOA (i := 0) Try.cz46 rfl (.t rfl) (.t rfl) rfl rfl rfl) <| .p (opAssign .ct) rfl <| .nil ?_)
      refine EndT.thenN ?_
      refine CodeT.ret (Post.retR rfl rfl () trivial (fun _ _ _ _ => trivial) rfl (.cons (.ra (i := 0) Try.ag46 Try.cz46 rfl rfl rfl rfl) ?_ (.cons (.rt rfl) ?_ .nil)))
      · rw [sigO_some hn hj hx]; exact VLe.refl _
      · exact VLe.prop (by rw [sigO_some hn hj hx]; simp)

theorem start_spec {m : ModD} : FnP Try.prog 34 [ptrV (encMod m)] (intV .i64 (startE m)) := by
  refine FnE.intro 30 Try.func34 rfl rfl rfl fun w0 S0 M => ?_
  refine CodeT.fact (t := 0) rfl (fun S w v h => modLens h) fun hl => ?_
  have hl1 := hl.sigs; have hl2 := hl.imports; have hl3 := hl.funcs; have hl4 := hl.mems; have hl5 := hl.globals; have hl6 := hl.exports; have hl7 := hl.elems; have hl8 := hl.datas
  refine CodeT.seq ?_
  refine CodeT.region (.p (opAssign (.c _)) rfl <| .nil ?_)
  refine EndT.thenN ?_
  refine CodeT.seq ?_
  refine CodeT.seq ?_
  refine CodeT.region (.p (opMove (.t rfl)) rfl <| .p (opNilChk (.t rfl)) rfl <| .p (opField Try.fd77_7 (.t rfl)) rfl <| .p (opLoad Try.ag3 (.t rfl)) rfl <| .p (opEql (.t rfl) (.c _)) rfl <| .nil ?_)
  refine EndT.thenN ?_
  refine CodeT.cond (.t rfl) (fun c0 => ?_) (fun c0 => ?_)
  ·
    refine CodeT.seq ?_
    refine CodeT.region (.p (opAssign (.c _)) rfl <| .nil ?_)
    refine EndT.thenN ?_
    refine CodeT.ret (EndT.thenR (Post.retP rfl rfl ?_))
    exact VLe.int (by simp [startE, *])
  ·
    refine CodeT.skip (EndT.thenN ?_)
    refine CodeT.seq ?_
    refine CodeT.region (.p (opMove (.t rfl)) rfl <| .p (opMove (.t rfl)) rfl <| .p (opNilChk (.t rfl)) rfl <| .p (opField Try.fd77_7 (.t rfl)) rfl <| .p (opLoad Try.ag3 (.t rfl)) rfl <| .p (opCall (msig_spec) Try.cb15 (.cons (.t rfl) (.cons (.t rfl) .nil))) rfl <| .p (opMove (.t rfl)) rfl <| .p (opExtract (.t rfl) rfl) rfl <| .p (opExtract (.t rfl) rfl) rfl <| .n (opAlloc Try.zb46) rfl <| fun b3 _ => .s (opStoreOA (i := 0) Try.cz46 rfl (.t rfl) (.t rfl) rfl rfl rfl) <| .p (opAssign (.t rfl)) rfl <| .nil ?_)
    refine EndT.thenN ?_
    refine CodeT.share (t := 3) (i := 0) rfl rfl ?_
    refine CodeT.fact (t := 17) rfl (fun S w v h => And.intro (aggV_len h 0 rfl) (aggV_len h 1 rfl)) fun hs2 => ?_
    obtain ⟨hs3, hs4⟩ := hs2
    refine CodeT.seq ?_
    refine CodeT.seq ?_
    refine CodeT.region (.p (opMove (.t rfl)) rfl <| .p (opNot (.t rfl)) rfl <| .nil ?_)
    refine EndT.thenN ?_
    refine CodeT.cond (.t rfl) (fun c1 => ?_) (fun c1 => ?_)
    ·
      refine CodeT.seq ?_
      refine CodeT.region (.p (opAssign (.c _)) rfl <| .nil ?_)
      refine EndT.thenN ?_
      refine CodeT.ret (EndT.thenR (Post.retP rfl rfl ?_))
      exact VLe.int (startE_none c0 c1).symm
    ·
      refine CodeT.skip (EndT.thenN ?_)
      refine CodeT.seq ?_
      refine CodeT.region (.p (opField Try.fd46_0 (.t rfl)) rfl <| .p (opLoad Try.ag44 (.t rfl)) rfl <| .p (opLen rfl Try.underlying44 (.t rfl)) rfl <| .p (opField Try.fd46_1 (.t rfl)) rfl <| .p (opLoad Try.ag44 (.t rfl)) rfl <| .p (opLen rfl Try.underlying44 (.t rfl)) rfl <| .p (opAddF (.t rfl) (.t rfl) (fits_i64 (by omega) (by omega))) rfl <| .p (opGtr (.t rfl) (.c _)) rfl <| .p (opCall (when_spec) Try.cb58 (.cons (.t rfl) (.cons (.c _) .nil))) rfl <| .p (opAssign (.t rfl)) rfl <| .nil ?_)
      refine EndT.thenN ?_
      refine CodeT.ret (Post.retP rfl rfl ?_)
      exact VLe.int (startE_some c0 c1).symm

theorem counts_spec {m : ModD} : FnP Try.prog 67 [ptrV (encMod m)] (aggV [intV .i64 (cnt m 0), intV .i64 (cnt m 1), intV .i64 (cnt m 2), intV .i64 (cnt m 3)]) := by
  refine FnE.intro 22 Try.func67 rfl rfl rfl fun w0 S0 M => ?_
  refine CodeT.fact (t := 0) rfl (fun S w v h => modLens h) fun hl => ?_
  have hl1 := hl.sigs; have hl2 := hl.imports; have hl3 := hl.funcs; have hl4 := hl.mems; have hl5 := hl.globals; have hl6 := hl.exports; have hl7 := hl.elems; have hl8 := hl.datas
  refine CodeT.seq ?_
  refine CodeT.region (.n (opAlloc Try.zb129) rfl <| fun b2 _ => .nil ?_)
  refine EndT.thenN ?_
  refine CodeT.seq ?_
  refine CodeT.draw 18 2 Try.mixed (by kernel_rfl) (.p (opMove (.t rfl)) <| .p (opCall (count_spec) Try.cb12 (.cons (.t rfl) .nil)) <| .p (opMove (.t rfl)) <| .p (opNilChk (.t rfl)) <| .p (opField Try.fd77_3 (.t rfl)) <| .p (opLoad Try.ag3 (.t rfl)) <| .p (opAdd (.t rfl) (.c _)) <| .p (opMin (.t rfl) (.c _)) <| .p (opMove (.t rfl)) <| .p (opNilChk (.t rfl)) <| .p (opField Try.fd77_4 (.t rfl)) <| .p (opLoad Try.ag25 (.t rfl)) <| .p (opLen rfl Try.underlying25 (.t rfl)) <| .p (opMove (.t rfl)) <| .p (opNilChk (.t rfl)) <| .p (opField Try.fd77_5 (.t rfl)) <| .p (opLoad Try.ag26 (.t rfl)) <| .p (opLen rfl Try.underlying26 (.t rfl)) <| .nil) (.p (opBuildArr Try.ar129 Try.zb129 (.cons (.t rfl) (.cons (.t rfl) (.cons (.t rfl) (.cons (.t rfl) .nil)))) rfl) rfl <| .s (opStoreOA (i := 0) Try.cz129 rfl (.t rfl) (.t rfl) rfl rfl rfl) <| .nil ?_)
  refine EndT.thenN ?_
  refine CodeT.ret (Post.retR1 rfl () trivial (fun _ _ _ _ => trivial) (.ra (i := 0) Try.ag129 Try.cz129 rfl rfl rfl rfl) ?_)
  exact VLe.refl _

theorem exportscc_spec {x y : ExportD} : FnP Try.prog 70 [aggV (encExport y), ptrV (encExport x)] (propV (y.Name = x.Name)) := by
  refine FnE.intro 9 Try.func70 rfl rfl rfl fun w0 S0 M => ?_
  refine CodeT.seq ?_
  refine CodeT.region (.p (opBoxA (.t rfl)) rfl <| .p (opAssign .cf) rfl <| .nil ?_)
  refine EndT.thenN ?_
  refine CodeT.seq ?_
  refine CodeT.region (.p (opField Try.fd57_0 (.t rfl)) rfl <| .p (opLoad Try.ag9 (.t rfl)) rfl <| .p (opField Try.fd57_0 (.t rfl)) rfl <| .p (opLoad Try.ag9 (.t rfl)) rfl <| .p (opEqlS (.t rfl) (.t rfl)) rfl <| .p (opAssign (.t rfl)) rfl <| .nil ?_)
  refine EndT.thenN ?_
  refine CodeT.ret (Post.retP rfl rfl ?_)
  first | exact VLe.refl _ | exact VLe.int (by omega) | exact VLe.prop (by omega) | exact VLe.prop (by simp_all) | exact VLe.prop (by simp; omega)

theorem exportsc_spec {m : ModD} {i : Nat} (hp0 : i < m.Exports.length) : FnP Try.prog 68 [intV .i64 (i : Int), ptrV [ptrV (encMod m)], ptrV [intV .i64 (cnt m 0), intV .i64 (cnt m 1), intV .i64 (cnt m 2), intV .i64 (cnt m 3)]] (intV .i64 (exportE m i)) := by
  refine FnE.intro 46 Try.func68 rfl rfl rfl fun w0 S0 M => ?_
  refine CodeT.fact (t := 1) rfl (fun S w v h => modLens2 h) fun hl => ?_
  have hl1 := hl.sigs; have hl2 := hl.imports; have hl3 := hl.funcs; have hl4 := hl.mems; have hl5 := hl.globals; have hl6 := hl.exports; have hl7 := hl.elems; have hl8 := hl.datas
  obtain ⟨x, hx⟩ := getElem?_lt hp0
  refine CodeT.seq ?_
  refine CodeT.region (.p (opAssign (.c _)) rfl <| .nil ?_)
  refine EndT.thenN ?_
  refine CodeT.seq ?_
  refine CodeT.region (.p (opLoad Try.ag38 (.t rfl)) rfl <| .p (opNilChk (.t rfl)) rfl <| .p (opField Try.fd77_6 (.t rfl)) rfl <| .p (opLoad Try.ag27 (.t rfl)) rfl <| .p (opMove (.t rfl)) rfl <| .p (opIndexAddr Try.underlying27 Try.cz57 rfl (.t rfl) (.t rfl) rfl (by assumption)) rfl <| .p (opLoadA Try.ag57 Try.cz57 rfl (.t rfl) rfl) rfl <| .n (opAlloc Try.zb57) rfl <| fun b5 _ => .s (opStoreOA (i := 0) Try.cz57 rfl (.t rfl) (.t rfl) rfl rfl rfl) <| .nil ?_)
  refine EndT.thenN ?_
  refine CodeT.share (t := 5) (i := 0) rfl rfl ?_
  refine CodeT.seq ?_
  refine CodeT.region (.p (opLoad Try.ag38 (.t rfl)) rfl <| .p (opNilChk (.t rfl)) rfl <| .p (opField Try.fd77_6 (.t rfl)) rfl <| .p (opLoad Try.ag27 (.t rfl)) rfl <| .p (opMove (.t rfl)) rfl <| .p (opSliceHi Try.underlying27 Try.cz57 rfl (.t rfl) (.t rfl) rfl (by omega)) rfl <| .p (opMakeFunc (A := ExportD) (ok := fun _ => True) (arg := fun y => [aggV (encExport y)]) (res := fun y => propV (y.Name = x.Name)) Try.cb70 .nil (.cons (.t rfl) .nil) (fun y _ => exportscc_spec)) rfl <| .p (opCall (conExport_spec) Try.cb69 (.cons (.t rfl) (.cons (.t rfl) .nil))) rfl <| .p (opAssign (.t rfl)) rfl <| .nil ?_)
  refine EndT.thenN ?_
  refine CodeT.seq ?_
  refine CodeT.seq ?_
  refine CodeT.region (.p (opField Try.fd57_0 (.t rfl)) rfl <| .p (opLoad Try.ag9 (.t rfl)) rfl <| .p (opCall (named_spec) Try.cb13 (.cons (.t rfl) .nil)) rfl <| .p (opNot (.t rfl)) rfl <| .p (opMove (.t rfl)) rfl <| .g (OpG.gF rfl rfl rfl rfl (fun hg => opMove (.t rfl))) rfl rfl <| .p (opOr (.t rfl) (.t rfl)) rfl <| .nil ?_)
  refine EndT.thenN ?_
  refine CodeT.cond (.t rfl) (fun c0 => ?_) (fun c0 => ?_)
  ·
    refine CodeT.seq ?_
    refine CodeT.region (.p (opAssign (.c _)) rfl <| .nil ?_)
    refine EndT.thenN ?_
    refine CodeT.ret (EndT.thenR (Post.retP rfl rfl ?_))
    exact VLe.int (exportE_name hx c0).symm
  ·
    refine CodeT.skip (EndT.thenN ?_)
    refine CodeT.seq ?_
    refine CodeT.draw 13 5 Try.mixed (by kernel_rfl) (.p (opField Try.fd57_1 (.t rfl)) <| .p (opLoad Try.ag3 (.t rfl)) <| .p (opCall (has_spec) Try.cb38 (.cons (.t rfl) (.cons (.c _) .nil))) <| .p (opNot (.t rfl)) <| .p (opMove (.t rfl)) <| .cons (OpG.gF rfl rfl rfl rfl (fun hg => opField Try.fd57_2 (.t rfl))) <| .cons (OpG.gF rfl rfl rfl rfl (fun hg => opLoad Try.ag3 (.when (.t rfl) hg))) <| .cons (OpG.gF rfl rfl rfl rfl (fun hg => opField Try.fd57_1 (.t rfl))) <| .cons (OpG.gF rfl rfl rfl rfl (fun hg => opLoad Try.ag3 (.when (.t rfl) hg))) <| .cons (OpG.gF rfl rfl rfl rfl (fun hg => opMin (.when (.t rfl) hg) (.c _))) <| .cons (OpG.gF rfl rfl rfl rfl (fun hg => opMax (.when (.t rfl) hg) (.c _))) <| .cons (OpG.gF rfl rfl rfl rfl (fun hg => opIndexAddrA (kindJ x.Kind) Try.underlying129 Try.cz3 rfl (.t rfl) (.when (.t rfl) hg) (by unfold kindJ; omega) (by unfold kindJ; omega))) <| .cons (OpG.gF rfl rfl rfl rfl (fun hg => opLoad Try.ag3 (.le (.when (.t rfl) hg) (ptrV_at (cnt_at m (kindJ x.Kind) (by unfold kindJ; omega)))))) <| .nil) (.g (OpG.gF rfl rfl rfl rfl (fun hg => opCall (has_spec) Try.cb38 (.cons (.when (.t rfl) hg) (.cons (.when (.t rfl) hg) .nil)))) rfl rfl <| .g (OpG.gF rfl rfl rfl rfl (fun hg => opNot (.when (.t rfl) hg))) rfl rfl <| .p (opOr (.t rfl) (.t rfl)) rfl <| .p (opCall (when_spec) Try.cb58 (.cons (.t rfl) (.cons (.c _) .nil))) rfl <| .p (opAssign (.t rfl)) rfl <| .nil ?_)
    refine EndT.thenN ?_
    refine CodeT.ret (Post.retP rfl rfl ?_)
    exact VLe.int (exportE_rest hx c0).symm

theorem exports_spec {m : ModD} : FnP Try.prog 33 [ptrV (encMod m)] (intV .i64 (exportsE m)) := by
  refine FnE.intro 13 Try.func33 rfl rfl rfl fun w0 S0 M => ?_
  refine CodeT.fact (t := 0) rfl (fun S w v h => modLens h) fun hl => ?_
  have hl1 := hl.sigs; have hl2 := hl.imports; have hl3 := hl.funcs; have hl4 := hl.mems; have hl5 := hl.globals; have hl6 := hl.exports; have hl7 := hl.elems; have hl8 := hl.datas
  refine CodeT.seq ?_
  refine CodeT.region (.p (opBox (.t rfl)) rfl <| .p (opAssign (.c _)) rfl <| .nil ?_)
  refine EndT.thenN ?_
  refine CodeT.seq ?_
  refine CodeT.region (.p (opLoad Try.ag38 (.t rfl)) rfl <| .p (opCall (counts_spec) Try.cb67 (.cons (.t rfl) .nil)) rfl <| .n (opAlloc Try.zb129) rfl <| fun b3 _ => .s (opStoreOA (i := 0) Try.cz129 rfl (.t rfl) (.t rfl) rfl rfl rfl) <| .nil ?_)
  refine EndT.thenN ?_
  refine CodeT.share (t := 3) (i := 0) rfl rfl ?_
  refine CodeT.seq ?_
  refine CodeT.region (.p (opLoad Try.ag38 (.t rfl)) rfl <| .p (opNilChk (.t rfl)) rfl <| .p (opField Try.fd77_6 (.t rfl)) rfl <| .p (opLoad Try.ag27 (.t rfl)) rfl <| .p (opLen rfl Try.underlying27 (.t rfl)) rfl <| .p (opMakeFunc (A := Nat) (ok := fun i => i < m.Exports.length) (arg := fun i => [intV .i64 (i : Int)]) (res := fun i => intV .i64 (exportE m i)) Try.cb68 .nil (.cons (.t rfl) (.cons (.t rfl) .nil)) (fun i hi => exportsc_spec hi)) rfl <| .p (opCall (many_spec (by first | assumption | omega)) Try.cb56 (.cons (.t rfl) (.cons (.c _) (.cons (.t rfl) .nil)))) rfl <| .p (opAssign (.t rfl)) rfl <| .nil ?_)
  refine EndT.thenN ?_
  refine CodeT.ret (Post.retP rfl rfl ?_)
  exact VLe.refl _

theorem elemscc_spec {m : ModD} {f : Int} : FnP Try.prog 73 [intV .i64 f, ptrV [ptrV (encMod m)]] (propV (¬ InP f (countM m))) := by
  refine FnE.intro 9 Try.func73 rfl rfl rfl fun w0 S0 M => ?_
  refine CodeT.seq ?_
  refine CodeT.region (.p (opAssign .cf) rfl <| .nil ?_)
  refine EndT.thenN ?_
  refine CodeT.seq ?_
  refine CodeT.region (.p (opMove (.t rfl)) rfl <| .p (opLoad Try.ag38 (.t rfl)) rfl <| .p (opCall (count_spec) Try.cb12 (.cons (.t rfl) .nil)) rfl <| .p (opCall (has_spec) Try.cb38 (.cons (.t rfl) (.cons (.t rfl) .nil))) rfl <| .p (opNot (.t rfl)) rfl <| .p (opAssign (.t rfl)) rfl <| .nil ?_)
  refine EndT.thenN ?_
  refine CodeT.ret (Post.retP rfl rfl ?_)
  first | exact VLe.refl _ | exact VLe.int (by omega) | exact VLe.prop (by omega) | exact VLe.prop (by simp_all) | exact VLe.prop (by simp; omega)

theorem elemsc_spec {m : ModD} {i : Nat} (hp0 : i < m.Elems.length) : FnP Try.prog 71 [intV .i64 (i : Int), ptrV [ptrV (encMod m)]] (intV .i64 (onI m.Elems (elemE m) i)) := by
  refine FnE.intro 35 Try.func71 rfl rfl rfl fun w0 S0 M => ?_
  refine CodeT.fact (t := 1) rfl (fun S w v h => modLens2 h) fun hl => ?_
  have hl1 := hl.sigs; have hl2 := hl.imports; have hl3 := hl.funcs; have hl4 := hl.mems; have hl5 := hl.globals; have hl6 := hl.exports; have hl7 := hl.elems; have hl8 := hl.datas
  obtain ⟨x, hx⟩ := getElem?_lt hp0
  refine CodeT.seq ?_
  refine CodeT.region (.p (opAssign (.c _)) rfl <| .nil ?_)
  refine EndT.thenN ?_
  refine CodeT.seq ?_
  refine CodeT.region (.p (opLoad Try.ag38 (.t rfl)) rfl <| .p (opNilChk (.t rfl)) rfl <| .p (opField Try.fd77_8 (.t rfl)) rfl <| .p (opLoad Try.ag28 (.t rfl)) rfl <| .p (opMove (.t rfl)) rfl <| .p (opIndexAddr Try.underlying28 Try.cz86 rfl (.t rfl) (.t rfl) rfl (by assumption)) rfl <| .p (opLoadA Try.ag86 Try.cz86 rfl (.t rfl) rfl) rfl <| .n (opAlloc Try.zb86) rfl <| fun b4 _ => .s (opStoreOA (i := 0) Try.cz86 rfl (.t rfl) (.t rfl) rfl rfl rfl) <| .nil ?_)
  refine EndT.thenN ?_
  refine CodeT.share (t := 4) (i := 0) rfl rfl ?_
  refine CodeT.seq ?_
  refine CodeT.seq ?_
  refine CodeT.region (.p (opField Try.fd86_1 (.t rfl)) rfl <| .p (opLoad Try.ag84 (.t rfl)) rfl <| .p (opLen rfl Try.underlying84 (.t rfl)) rfl <| .p (opGtr (.t rfl) (.c _)) rfl <| .nil ?_)
  refine EndT.thenN ?_
  refine CodeT.cond (.t rfl) (fun c0 => ?_) (fun c0 => ?_)
  ·
    refine CodeT.seq ?_
    refine CodeT.region (.p (opAssign (.c _)) rfl <| .nil ?_)
    refine EndT.thenN ?_
    refine CodeT.ret (EndT.thenR (Post.retP rfl rfl ?_))
    exact VLe.int (by rw [onI_eq hx]; simp [elemE, *])
  ·
    refine CodeT.skip (EndT.thenN ?_)
    refine CodeT.seq ?_
    refine CodeT.region (.p (opField Try.fd86_1 (.t rfl)) rfl <| .p (opLoad Try.ag84 (.t rfl)) rfl <| .p (opMakeFunc (A := Int) (ok := fun _ => True) (arg := fun f => [intV .i64 f]) (res := fun f => propV (¬ InP f (countM m))) Try.cb73 .nil (.cons (.t rfl) .nil) (fun f _ => elemscc_spec)) rfl <| .p (opCall (conInt_spec) Try.cb72 (.cons (.t rfl) (.cons (.t rfl) .nil))) rfl <| .p (opAssign (.t rfl)) rfl <| .nil ?_)
    refine EndT.thenN ?_
    refine CodeT.seq ?_
    refine CodeT.region (.p (opLoad Try.ag38 (.t rfl)) rfl <| .p (opNilChk (.t rfl)) rfl <| .p (opField Try.fd77_3 (.t rfl)) rfl <| .p (opLoad Try.ag3 (.t rfl)) rfl <| .p (opEql (.t rfl) (.c _)) rfl <| .p (opMove (.t rfl)) rfl <| .g (OpG.gF rfl rfl rfl rfl (fun hg => opMove (.t rfl))) rfl rfl <| .p (opOr (.t rfl) (.t rfl)) rfl <| .p (opMove (.t rfl)) rfl <| .g (OpG.gF rfl rfl rfl rfl (fun hg => opField Try.fd86_0 (.t rfl))) rfl rfl <| .g (OpG.gF rfl rfl rfl rfl (fun hg => opLoad Try.ag81 (.when (.t rfl) hg))) rfl rfl <| .g (OpG.gF rfl rfl rfl rfl (fun hg => opGtr (.when (.t rfl) hg) (.c _))) rfl rfl <| .p (opOr (.t rfl) (.t rfl)) rfl <| .p (opCall (when_spec) Try.cb58 (.cons (.t rfl) (.cons (.c _) .nil))) rfl <| .p (opAssign (.t rfl)) rfl <| .nil ?_)
    refine EndT.thenN ?_
    refine CodeT.ret (Post.retP rfl rfl ?_)
    exact VLe.int (by rw [onI_eq hx]; exact (elemE_rest c0).symm)

theorem elems_spec {m : ModD} : FnP Try.prog 35 [ptrV (encMod m)] (intV .i64 (elemsE m)) := by
  refine FnE.intro 10 Try.func35 rfl rfl rfl fun w0 S0 M => ?_
  refine CodeT.fact (t := 0) rfl (fun S w v h => modLens h) fun hl => ?_
  have hl1 := hl.sigs; have hl2 := hl.imports; have hl3 := hl.funcs; have hl4 := hl.mems; have hl5 := hl.globals; have hl6 := hl.exports; have hl7 := hl.elems; have hl8 := hl.datas
  refine CodeT.seq ?_
  refine CodeT.region (.p (opBox (.t rfl)) rfl <| .p (opAssign (.c _)) rfl <| .nil ?_)
  refine EndT.thenN ?_
  refine CodeT.seq ?_
  refine CodeT.region (.p (opLoad Try.ag38 (.t rfl)) rfl <| .p (opNilChk (.t rfl)) rfl <| .p (opField Try.fd77_8 (.t rfl)) rfl <| .p (opLoad Try.ag28 (.t rfl)) rfl <| .p (opLen rfl Try.underlying28 (.t rfl)) rfl <| .p (opMakeFunc (A := Nat) (ok := fun i => i < m.Elems.length) (arg := fun i => [intV .i64 (i : Int)]) (res := fun i => intV .i64 (onI m.Elems (elemE m) i)) Try.cb71 .nil (.cons (.t rfl) .nil) (fun i hi => elemsc_spec hi)) rfl <| .p (opCall (many_spec (by first | assumption | omega)) Try.cb56 (.cons (.t rfl) (.cons (.c _) (.cons (.t rfl) .nil)))) rfl <| .p (opAssign (.t rfl)) rfl <| .nil ?_)
  refine EndT.thenN ?_
  refine CodeT.ret (Post.retP rfl rfl ?_)
  exact VLe.refl _

theorem datasc_spec {m : ModD} {i : Nat} (hp0 : i < m.Datas.length) : FnP Try.prog 74 [intV .i64 (i : Int), ptrV [ptrV (encMod m)]] (intV .i64 (onI m.Datas (dataE m) i)) := by
  refine FnE.intro 51 Try.func74 rfl rfl rfl fun w0 S0 M => ?_
  refine CodeT.fact (t := 1) rfl (fun S w v h => modLens2 h) fun hl => ?_
  have hl1 := hl.sigs; have hl2 := hl.imports; have hl3 := hl.funcs; have hl4 := hl.mems; have hl5 := hl.globals; have hl6 := hl.exports; have hl7 := hl.elems; have hl8 := hl.datas
  obtain ⟨x, hx⟩ := getElem?_lt hp0
  refine CodeT.seq ?_
  refine CodeT.region (.p (opAssign (.c _)) rfl <| .nil ?_)
  refine EndT.thenN ?_
  refine CodeT.seq ?_
  refine CodeT.region (.p (opLoad Try.ag38 (.t rfl)) rfl <| .p (opNilChk (.t rfl)) rfl <| .p (opField Try.fd77_9 (.t rfl)) rfl <| .p (opLoad Try.ag29 (.t rfl)) rfl <| .p (opMove (.t rfl)) rfl <| .p (opIndexAddr Try.underlying29 Try.cz88 rfl (.t rfl) (.t rfl) rfl (by assumption)) rfl <| .p (opLoadA Try.ag88 Try.cz88 rfl (.t rfl) rfl) rfl <| .n (opAlloc Try.zb88) rfl <| fun b4 _ => .s (opStoreOA (i := 0) Try.cz88 rfl (.t rfl) (.t rfl) rfl rfl rfl) <| .nil ?_)
  refine EndT.thenN ?_
  refine CodeT.share (t := 4) (i := 0) rfl rfl ?_
  refine CodeT.seq ?_
  refine CodeT.seq ?_
  refine CodeT.region (.p (opField Try.fd88_2 (.t rfl)) rfl <| .p (opLoad Try.ag50 (.t rfl)) rfl <| .p (opLen rfl Try.underlying50 (.t rfl)) rfl <| .p (opGtr (.t rfl) (.c _)) rfl <| .nil ?_)
  refine EndT.thenN ?_
  refine CodeT.cond (.t rfl) (fun c0 => ?_) (fun c0 => ?_)
  ·
    refine CodeT.seq ?_
    refine CodeT.region (.p (opAssign (.c _)) rfl <| .nil ?_)
    refine EndT.thenN ?_
    refine CodeT.ret (EndT.thenR (Post.retP rfl rfl ?_))
    exact VLe.int (by rw [onI_eq hx]; simp [dataE, *])
  ·
    refine CodeT.skip (EndT.thenN ?_)
    refine CodeT.seq ?_
    refine CodeT.draw 24 12 Try.mixed (by kernel_rfl) (.p (opField Try.fd88_0 (.t rfl)) <| .p (opLoad Try.ag3 (.t rfl)) <| .p (opLoad Try.ag38 (.t rfl)) <| .p (opNilChk (.t rfl)) <| .p (opField Try.fd77_4 (.t rfl)) <| .p (opLoad Try.ag25 (.t rfl)) <| .p (opLen rfl Try.underlying25 (.t rfl)) <| .p (opCall (has_spec) Try.cb38 (.cons (.t rfl) (.cons (.t rfl) .nil))) <| .p (opNot (.t rfl)) <| .p (opMove (.t rfl)) <| .cons (OpG.gF rfl rfl rfl rfl (fun hg => opLoad Try.ag38 (.t rfl))) <| .cons (OpG.gF rfl rfl rfl rfl (fun hg => opNilChk (.when (.t rfl) hg))) <| .cons (OpG.gF rfl rfl rfl rfl (fun hg => opField Try.fd77_4 (.when (.t rfl) hg))) <| .cons (OpG.gF rfl rfl rfl rfl (fun hg => opLoad Try.ag25 (.when (.t rfl) hg))) <| .cons (OpG.gF rfl rfl rfl rfl (fun hg => opField Try.fd88_0 (.t rfl))) <| .cons (OpG.gF rfl rfl rfl rfl (fun hg => opLoad Try.ag3 (.when (.t rfl) hg))) <| .cons (OpG.gF rfl rfl rfl rfl (fun hg => opLoad Try.ag38 (.t rfl))) <| .cons (OpG.gF rfl rfl rfl rfl (fun hg => opNilChk (.when (.t rfl) hg))) <| .cons (OpG.gF rfl rfl rfl rfl (fun hg => opField Try.fd77_4 (.when (.t rfl) hg))) <| .cons (OpG.gF rfl rfl rfl rfl (fun hg => opLoad Try.ag25 (.when (.t rfl) hg))) <| .cons (OpG.gF rfl rfl rfl rfl (fun hg => opLen rfl Try.underlying25 (.when (.t rfl) hg))) <| .cons (OpG.gF rfl rfl rfl rfl (fun hg => opSubF (.when (.t rfl) hg) (.c _) (fits_i64 (by omega) (by omega)))) <| .cons (OpG.gF rfl rfl rfl rfl (fun hg => opMin (.when (.t rfl) hg) (.when (.t rfl) hg))) <| .cons (OpG.gF rfl rfl rfl rfl (fun hg => opMax (.when (.t rfl) hg) (.c _))) <| .nil) (.g (OpG.gF rfl rfl rfl rfl (fun hg => opIndexAddr (j := x.Mem.toNat) Try.underlying25 Try.cz79 rfl (.when (.t rfl) hg) (.when (.t rfl) hg) (data_at (Classical.not_not.1 hg)) (data_mem (Classical.not_not.1 hg)))) rfl rfl <| .g (OpG.gF rfl rfl rfl rfl (fun hg => opField Try.fd79_2 (.when (.t rfl) hg))) rfl rfl <| .g (OpG.gF rfl rfl rfl rfl (fun hg => opLoad Try.ag4 (.when (.t rfl) hg))) rfl rfl <| .g (OpG.gF rfl rfl rfl rfl (fun hg => opNot (.when (.t rfl) hg))) rfl rfl <| .g (OpG.gF rfl rfl rfl rfl (fun hg => opMove (.when (.t rfl) hg))) rfl rfl <| .g (OpG.hT rfl rfl rfl rfl (fun hg => opField Try.fd88_1 (.t rfl))) rfl rfl <| .g (OpG.hT rfl rfl rfl rfl (fun hg => opLoad Try.ag81 (.when (.t rfl) hg))) rfl rfl <| .g (OpG.hT rfl rfl rfl rfl (fun hg => opGtr (.when (.t rfl) hg) (.c _))) rfl rfl <| .g (OpG.gF rfl rfl rfl rfl (fun hg => opAnd (.when (.t rfl) hg) (.under (.t rfl) hg))) rfl rfl <| .p (opOr (.t rfl) (.t rfl)) rfl <| .p (opCall (when_spec) Try.cb58 (.cons (.t rfl) (.cons (.c _) .nil))) rfl <| .p (opAssign (.t rfl)) rfl <| .nil ?_)
    refine EndT.thenN ?_
    refine CodeT.ret (Post.retP rfl rfl ?_)
    exact VLe.int (by rw [onI_eq hx]; exact (dataE_rest c0).symm)

theorem datas_spec {m : ModD} : FnP Try.prog 36 [ptrV (encMod m)] (intV .i64 (datasE m)) := by
  refine FnE.intro 10 Try.func36 rfl rfl rfl fun w0 S0 M => ?_
  refine CodeT.fact (t := 0) rfl (fun S w v h => modLens h) fun hl => ?_
  have hl1 := hl.sigs; have hl2 := hl.imports; have hl3 := hl.funcs; have hl4 := hl.mems; have hl5 := hl.globals; have hl6 := hl.exports; have hl7 := hl.elems; have hl8 := hl.datas
  refine CodeT.seq ?_
  refine CodeT.region (.p (opBox (.t rfl)) rfl <| .p (opAssign (.c _)) rfl <| .nil ?_)
  refine EndT.thenN ?_
  refine CodeT.seq ?_
  refine CodeT.region (.p (opLoad Try.ag38 (.t rfl)) rfl <| .p (opNilChk (.t rfl)) rfl <| .p (opField Try.fd77_9 (.t rfl)) rfl <| .p (opLoad Try.ag29 (.t rfl)) rfl <| .p (opLen rfl Try.underlying29 (.t rfl)) rfl <| .p (opMakeFunc (A := Nat) (ok := fun i => i < m.Datas.length) (arg := fun i => [intV .i64 (i : Int)]) (res := fun i => intV .i64 (onI m.Datas (dataE m) i)) Try.cb74 .nil (.cons (.t rfl) .nil) (fun i hi => datasc_spec hi)) rfl <| .p (opCall (many_spec (by first | assumption | omega)) Try.cb56 (.cons (.t rfl) (.cons (.c _) (.cons (.t rfl) .nil)))) rfl <| .p (opAssign (.t rfl)) rfl <| .nil ?_)
  refine EndT.thenN ?_
  refine CodeT.ret (Post.retP rfl rfl ?_)
  exact VLe.refl _

theorem fit_spec {m : ModD} : FnP Try.prog 11 [ptrV (encMod m)] (tupV [strV (fitP m).1, intV .i64 (fitP m).2]) := by
  refine FnE.intro 52 Try.func11 rfl rfl rfl fun w0 S0 M => ?_
  refine CodeT.seq ?_
  refine CodeT.region (.p (opAssign (.s [] rfl rfl)) rfl <| .p (opAssign (.c _)) rfl <| .nil ?_)
  refine EndT.thenN ?_
  refine CodeT.seq ?_
  refine CodeT.seq ?_
  refine CodeT.region (.p (opMove (.t rfl)) rfl <| .p (opEqlNil Try.underlying38 (.t rfl)) rfl <| .nil ?_)
  refine EndT.thenN ?_
  refine CodeT.cond (.t rfl) (fun c0 => ?_) (fun c0 => ?_)
  ·
    exact c0.elim
  ·
    refine CodeT.skip (EndT.thenN ?_)
    refine CodeT.seq ?_
    refine CodeT.seq ?_
    refine CodeT.region (.p (opMove (.t rfl)) rfl <| .p (opMakeFunc (A := Unit) (ok := fun _ => True) (arg := fun _ => []) (res := fun _ => intV .i64 (sigsE m)) Try.cb27 (.cons (.t rfl) .nil) .nil (fun _ _ => sigs_spec)) rfl <| .p (opBuild Try.pl98 Try.zb98 (.cons (.s [115, 105, 103, 115] rfl rfl) (.cons (.t rfl) .nil)) rfl) rfl <| .p (opMove (.t rfl)) rfl <| .p (opMakeFunc (A := Unit) (ok := fun _ => True) (arg := fun _ => []) (res := fun _ => intV .i64 (importsE m)) Try.cb28 (.cons (.t rfl) .nil) .nil (fun _ _ => imports_spec)) rfl <| .p (opBuild Try.pl98 Try.zb98 (.cons (.s [105, 109, 112, 111, 114, 116, 115] rfl rfl) (.cons (.t rfl) .nil)) rfl) rfl <| .p (opMove (.t rfl)) rfl <| .p (opMakeFunc (A := Unit) (ok := fun _ => True) (arg := fun _ => []) (res := fun _ => intV .i64 (funcsE m)) Try.cb29 (.cons (.t rfl) .nil) .nil (fun _ _ => funcs_spec)) rfl <| .p (opBuild Try.pl98 Try.zb98 (.cons (.s [102, 117, 110, 99, 115] rfl rfl) (.cons (.t rfl) .nil)) rfl) rfl <| .p (opMove (.t rfl)) rfl <| .p (opMakeFunc (A := Unit) (ok := fun _ => True) (arg := fun _ => []) (res := fun _ => intV .i64 (tableE m)) Try.cb30 (.cons (.t rfl) .nil) .nil (fun _ _ => table_spec)) rfl <| .p (opBuild Try.pl98 Try.zb98 (.cons (.s [116, 97, 98, 108, 101] rfl rfl) (.cons (.t rfl) .nil)) rfl) rfl <| .p (opMove (.t rfl)) rfl <| .p (opMakeFunc (A := Unit) (ok := fun _ => True) (arg := fun _ => []) (res := fun _ => intV .i64 (memsE m)) Try.cb31 (.cons (.t rfl) .nil) .nil (fun _ _ => mems_spec)) rfl <| .p (opBuild Try.pl98 Try.zb98 (.cons (.s [109, 101, 109, 115] rfl rfl) (.cons (.t rfl) .nil)) rfl) rfl <| .p (opMove (.t rfl)) rfl <| .p (opMakeFunc (A := Unit) (ok := fun _ => True) (arg := fun _ => []) (res := fun _ => intV .i64 (globalsE m)) Try.cb32 (.cons (.t rfl) .nil) .nil (fun _ _ => globals_spec)) rfl <| .p (opBuild Try.pl98 Try.zb98 (.cons (.s [103, 108, 111, 98, 97, 108, 115] rfl rfl) (.cons (.t rfl) .nil)) rfl) rfl <| .p (opMove (.t rfl)) rfl <| .p (opMakeFunc (A := Unit) (ok := fun _ => True) (arg := fun _ => []) (res := fun _ => intV .i64 (exportsE m)) Try.cb33 (.cons (.t rfl) .nil) .nil (fun _ _ => exports_spec)) rfl <| .p (opBuild Try.pl98 Try.zb98 (.cons (.s [101, 120, 112, 111, 114, 116, 115] rfl rfl) (.cons (.t rfl) .nil)) rfl) rfl <| .p (opMove (.t rfl)) rfl <| .p (opMakeFunc (A := Unit) (ok := fun _ => True) (arg := fun _ => []) (res := fun _ => intV .i64 (startE m)) Try.cb34 (.cons (.t rfl) .nil) .nil (fun _ _ => start_spec)) rfl <| .p (opBuild Try.pl98 Try.zb98 (.cons (.s [115, 116, 97, 114, 116] rfl rfl) (.cons (.t rfl) .nil)) rfl) rfl <| .p (opMove (.t rfl)) rfl <| .p (opMakeFunc (A := Unit) (ok := fun _ => True) (arg := fun _ => []) (res := fun _ => intV .i64 (elemsE m)) Try.cb35 (.cons (.t rfl) .nil) .nil (fun _ _ => elems_spec)) rfl <| .p (opBuild Try.pl98 Try.zb98 (.cons (.s [101, 108, 101, 109, 115] rfl rfl) (.cons (.t rfl) .nil)) rfl) rfl <| .p (opMove (.t rfl)) rfl <| .p (opMakeFunc (A := Unit) (ok := fun _ => True) (arg := fun _ => []) (res := fun _ => intV .i64 (datasE m)) Try.cb36 (.cons (.t rfl) .nil) .nil (fun _ _ => datas_spec)) rfl <| .p (opBuild Try.pl98 Try.zb98 (.cons (.s [100, 97, 116, 97] rfl rfl) (.cons (.t rfl) .nil)) rfl) rfl <| .p (opBuildArr Try.ar99 Try.zb99 (.cons (.t rfl) (.cons (.t rfl) (.cons (.t rfl) (.cons (.t rfl) (.cons (.t rfl) (.cons (.t rfl) (.cons (.t rfl) (.cons (.t rfl) (.cons (.t rfl) (.cons (.t rfl) .nil)))))))))) rfl) rfl <| .p (opMove (.c _)) rfl <| .nil ?_)
    refine EndT.thenN ?_
    refine CodeT.block ?_
    refine CodeT.loopO (σ := Nat) (fun _ => []) (fun k => [(40, intV .i64 (k : Int))]) (fun k => k ≤ 10 ∧ NotB (fun p : List UInt8 × Int => p.2 ≠ 0) (partsM m) k) (fun k => 10 - k) 0 ⟨by omega, NotB.zero _ _⟩ rfl ?_ ?_
    · exact (.get rfl (VLe.refl _) (.refl _ _))
    · rintro k ⟨hk, hnot⟩
      refine CodeT.seq ?_
      refine CodeT.region (.p (opLss (.t rfl) (.c _)) rfl <| .nil ?_)
      refine EndT.thenN ?_
      refine CodeT.seq ?_
      refine CodeT.cond (.t rfl) (fun c1 => ?_) (fun c1 => ?_)
      ·
        obtain ⟨p, hp⟩ := getElem?_lt (xs := partsM m) (k := k) (by rw [parts_len]; omega)
        refine CodeT.skip (EndT.thenN ?_)
        refine CodeT.seq ?_
        refine CodeT.block ?_
        refine CodeT.seq ?_
        refine CodeT.region (.p (opIndexA (enc := encPart) (partsM m) Try.underlying99 Try.cz98 rfl Try.ag98 (.t rfl) rfl rfl (.t rfl) rfl (by assumption)) rfl <| .n (opAlloc Try.zb98) rfl <| fun b5 _ => .s (opStoreOA (i := 0) Try.cz98 rfl (.t rfl) (.t rfl) rfl rfl rfl) <| .nil ?_)
        refine EndT.thenN ?_
        refine CodeT.share (t := 5) (i := 0) rfl rfl ?_
        refine CodeT.seq ?_
        refine CodeT.region (.p (opField Try.fd98_1 (.t rfl)) rfl <| .p (opLoad Try.ag96 (.t rfl)) rfl <| .p (opCallV () (.t rfl) trivial .nil) rfl <| .p (opAssign (.t rfl)) rfl <| .nil ?_)
        refine EndT.thenN ?_
        refine CodeT.seq ?_
        refine CodeT.region (.p (opMove (.t rfl)) rfl <| .p (opNeq (.t rfl) (.c _)) rfl <| .nil ?_)
        refine EndT.thenN ?_
        refine CodeT.cond (.t rfl) (fun c2 => ?_) (fun c2 => ?_)
        ·
          refine CodeT.seq ?_
          refine CodeT.region (.p (opField Try.fd98_0 (.t rfl)) rfl <| .p (opLoad Try.ag9 (.t rfl)) rfl <| .p (opMove (.t rfl)) rfl <| .p (opAssign (.t rfl)) rfl <| .p (opAssign (.t rfl)) rfl <| .nil ?_)
          refine EndT.thenN ?_
          refine CodeT.ret (EndT.blkR (EndT.thenR (EndT.thenR (EndT.blkR (EndT.thenR (Post.retR rfl rfl () trivial (fun _ _ _ _ => trivial) rfl (.cons (.rt rfl) ?_ (.cons (.rt rfl) ?_ .nil))))))))
          · exact VLe.of_eq (by rw [fit_at hnot hp c2])
          · exact VLe.of_eq (by rw [fit_at hnot hp c2])
        ·
          refine CodeT.skip (EndT.blkN (EndT.thenN ?_))
          refine CodeT.region (.p (opAddF (.t rfl) (.c _) (fits_i64 (by omega) (by omega))) rfl <| .p (opMove (.t rfl)) rfl <| .nil ?_)
          refine EndT.round (k + 1) ⟨by omega, hnot.succ hp (by assumption)⟩ (by omega) rfl ?_
          exact (.get rfl (VLe.int (by omega)) (.keep 13 rfl rfl))
      ·
        refine CodeT.exit (EndT.thenX (EndT.thenX (EndT.blkX (EndT.thenN ?_))))
        refine CodeT.seq ?_
        refine CodeT.region (.p (opAssign (.s [] rfl rfl)) rfl <| .p (opAssign (.c _)) rfl <| .nil ?_)
        refine EndT.thenN ?_
        refine CodeT.ret (Post.retR rfl rfl () trivial (fun _ _ _ _ => trivial) rfl (.cons (.rt rfl) ?_ (.cons (.rt rfl) ?_ .nil)))
        · exact VLe.of_eq (by rw [fit_none (hnot.all (by rw [parts_len]; omega))])
        · exact VLe.of_eq (by rw [fit_none (hnot.all (by rw [parts_len]; omega))])

theorem fitNil_spec  : FnP Try.prog 11 [nilV] (tupV [strV [], intV .i64 12]) := by
  refine FnE.intro 52 Try.func11 rfl rfl rfl fun w0 S0 M => ?_
  refine CodeT.seq ?_
  refine CodeT.region (.p (opAssign (.s [] rfl rfl)) rfl <| .p (opAssign (.c _)) rfl <| .nil ?_)
  refine EndT.thenN ?_
  refine CodeT.seq ?_
  refine CodeT.seq ?_
  refine CodeT.region (.p (opMove (.t rfl)) rfl <| .p (opNilEqlNil Try.underlying38 (.t rfl)) rfl <| .nil ?_)
  refine EndT.thenN ?_
  refine CodeT.cond (.t rfl) (fun c0 => ?_) (fun c0 => ?_)
  ·
    refine CodeT.seq ?_
    refine CodeT.region (.p (opAssign (.s [] rfl rfl)) rfl <| .p (opAssign (.c _)) rfl <| .nil ?_)
    refine EndT.thenN ?_
    refine CodeT.ret (EndT.thenR (Post.retR rfl rfl () trivial (fun _ _ _ _ => trivial) rfl (.cons (.rt rfl) ?_ (.cons (.rt rfl) ?_ .nil))))
    · first | exact VLe.refl _ | exact VLe.int (by omega) | exact VLe.prop (by omega) | exact VLe.prop (by simp_all) | exact VLe.prop (by simp; omega)
    · first | exact VLe.refl _ | exact VLe.int (by omega) | exact VLe.prop (by omega) | exact VLe.prop (by simp_all) | exact VLe.prop (by simp; omega)
  ·
    exact (c0 trivial).elim

theorem empty_spec  : FnP Try.prog 23 [] (ptrV (encMod emptyM)) := by
  refine FnE.intro 3 Try.func23 rfl rfl rfl fun w0 S0 M => ?_
  refine CodeT.seq ?_
  refine CodeT.region (.p (opAssign (.c _)) rfl <| .nil ?_)
  refine EndT.thenN ?_
  refine CodeT.seq ?_
  refine CodeT.region (.p (opBuild Try.pl77 Try.zb77 (.cons (.c _) (.cons (.c _) .nil)) rfl) rfl <| .p (opBoxA (.t rfl)) rfl <| .p (opAssign (.t rfl)) rfl <| .nil ?_)
  refine EndT.thenN ?_
  refine CodeT.ret (Post.retP rfl rfl ?_)
  exact empty_le

theorem awake_spec  : FnP Try.prog 8 [] (propV True) := by
  refine FnE.intro 30 Try.func8 rfl rfl rfl fun w0 S0 M => ?_
  refine CodeT.seq ?_
  refine CodeT.region (.p (opAssign .cf) rfl <| .nil ?_)
  refine EndT.thenN ?_
  refine CodeT.seq ?_
  refine CodeT.region (.p (opCall (empty_spec) Try.cb23 .nil) rfl <| .p (opAssign (.t rfl)) rfl <| .nil ?_)
  refine EndT.thenN ?_
  refine CodeT.seq ?_
  refine CodeT.region (.p (opMove (.t rfl)) rfl <| .p (opCall (fit_spec) Try.cb11 (.cons (.t rfl) .nil)) rfl <| .p (opMove (.t rfl)) rfl <| .p (opExtract (.t rfl) rfl) rfl <| .p (opExtract (.t rfl) rfl) rfl <| .p (opAssign (.t rfl)) rfl <| .p (opAssign (.t rfl)) rfl <| .nil ?_)
  refine EndT.thenN ?_
  refine CodeT.seq ?_
  refine CodeT.region (.p (opMove (.t rfl)) rfl <| .p (opNeqNil Try.underlying38 (.t rfl)) rfl <| .p (opMove (.t rfl)) rfl <| .g (OpG.gT rfl rfl rfl rfl (fun hg => opMove (.t rfl))) rfl rfl <| .g (OpG.gT rfl rfl rfl rfl (fun hg => opEqlS (.when (.t rfl) hg) (.s [] rfl rfl))) rfl rfl <| .p (opAnd (.t rfl) (.t rfl)) rfl <| .p (opMove (.t rfl)) rfl <| .g (OpG.gT rfl rfl rfl rfl (fun hg => opMove (.t rfl))) rfl rfl <| .g (OpG.gT rfl rfl rfl rfl (fun hg => opEql (.when (.t rfl) hg) (.c _))) rfl rfl <| .p (opAnd (.t rfl) (.t rfl)) rfl <| .p (opMove (.t rfl)) rfl <| .g (OpG.gT rfl rfl rfl rfl (fun hg => opMove (.t rfl))) rfl rfl <| .g (OpG.gT rfl rfl rfl rfl (fun hg => opNilChk (.when (.t rfl) hg))) rfl rfl <| .g (OpG.gT rfl rfl rfl rfl (fun hg => opField Try.fd77_3 (.when (.t rfl) hg))) rfl rfl <| .g (OpG.gT rfl rfl rfl rfl (fun hg => opLoad Try.ag3 (.when (.t rfl) hg))) rfl rfl <| .g (OpG.gT rfl rfl rfl rfl (fun hg => opEql (.when (.t rfl) hg) (.c _))) rfl rfl <| .p (opAnd (.t rfl) (.t rfl)) rfl <| .p (opMove (.t rfl)) rfl <| .g (OpG.gT rfl rfl rfl rfl (fun hg => opCall (named_spec) Try.cb13 (.cons (.s [97, 46, 98] rfl rfl) .nil))) rfl rfl <| .p (opAnd (.t rfl) (.t rfl)) rfl <| .p (opAssign (.t rfl)) rfl <| .nil ?_)
  refine EndT.thenN ?_
  refine CodeT.ret (Post.retP rfl rfl ?_)
  exact VLe.prop (by rw [fit_empty]; simp [emptyM, awake_name])

theorem eqType_spec {a b : List UInt8} : FnP Try.prog 39 [sliceV 1 encU8 a, sliceV 1 encU8 b] (propV (a = b)) := by
  refine FnE.intro 26 Try.func39 rfl rfl rfl fun w0 S0 M => ?_
  refine CodeT.fact (t := 0) rfl (fun S w v h => sliceV_len h) fun hlen => ?_
  refine CodeT.seq ?_
  refine CodeT.region (.p (opAssign .cf) rfl <| .nil ?_)
  refine EndT.thenN ?_
  refine CodeT.seq ?_
  refine CodeT.seq ?_
  refine CodeT.region (.p (opMove (.t rfl)) rfl <| .p (opLen rfl Try.underlying44 (.t rfl)) rfl <| .p (opMove (.t rfl)) rfl <| .p (opLen rfl Try.underlying44 (.t rfl)) rfl <| .p (opNeq (.t rfl) (.t rfl)) rfl <| .nil ?_)
  refine EndT.thenN ?_
  refine CodeT.cond (.t rfl) (fun c0 => ?_) (fun c0 => ?_)
  ·
    refine CodeT.seq ?_
    refine CodeT.region (.p (opAssign .cf) rfl <| .nil ?_)
    refine EndT.thenN ?_
    refine CodeT.ret (EndT.thenR (Post.retP rfl rfl ?_))
    exact VLe.prop (ne_len c0).symm
  ·
    refine CodeT.skip (EndT.thenN ?_)
    refine CodeT.seq ?_
    refine CodeT.seq ?_
    refine CodeT.region (.p (opMove (.t rfl)) rfl <| .p (opLen rfl Try.underlying44 (.t rfl)) rfl <| .p (opMove (.c _)) rfl <| .nil ?_)
    refine EndT.thenN ?_
    refine CodeT.block ?_
    refine CodeT.loopO (σ := Nat) (fun _ => []) (fun k => [(13, intV .i64 (k : Int))]) (fun k => k ≤ a.length ∧ EqB a b k) (fun k => a.length - k) 0 ⟨by omega, EqB.zero _ _⟩ rfl ?_ ?_
    · exact (.get rfl (VLe.refl _) (.refl _ _))
    · rintro k ⟨hk, heq⟩
      refine CodeT.seq ?_
      refine CodeT.region (.p (opLss (.t rfl) (.t rfl)) rfl <| .nil ?_)
      refine EndT.thenN ?_
      refine CodeT.seq ?_
      refine CodeT.cond (.t rfl) (fun c1 => ?_) (fun c1 => ?_)
      ·
        obtain ⟨x, hx⟩ := getElem?_lt (xs := a) (k := k) (by omega)
        obtain ⟨y, hy⟩ := getElem?_lt (xs := b) (k := k) (by omega)
        refine CodeT.skip (EndT.thenN ?_)
        refine CodeT.seq ?_
        refine CodeT.block ?_
        refine CodeT.seq ?_
        refine CodeT.region (.p (opMove (.t rfl)) rfl <| .p (opAssign (.t rfl)) rfl <| .nil ?_)
        refine EndT.thenN ?_
        refine CodeT.seq ?_
        refine CodeT.draw 8 1 Try.mixed (by kernel_rfl) (.p (opMove (.t rfl)) <| .p (opMove (.t rfl)) <| .p (opIndexAddr Try.underlying44 Try.cz80 rfl (.t rfl) (.t rfl) rfl (by assumption)) <| .p (opLoad Try.ag80 (.t rfl)) <| .p (opMove (.t rfl)) <| .p (opMove (.t rfl)) <| .p (opIndexAddr Try.underlying44 Try.cz80 rfl (.t rfl) (.t rfl) rfl (by assumption)) <| .p (opLoad Try.ag80 (.t rfl)) <| .nil) (.p (opNeq (.t rfl) (.t rfl)) rfl <| .nil ?_)
        refine EndT.thenN ?_
        refine CodeT.cond (.le (.t rfl) (VLe.prop (not_congr u8_eq))) (fun c2 => ?_) (fun c2 => ?_)
        ·
          refine CodeT.seq ?_
          refine CodeT.region (.p (opAssign .cf) rfl <| .nil ?_)
          refine EndT.thenN ?_
          refine CodeT.ret (EndT.blkR (EndT.thenR (EndT.thenR (EndT.blkR (EndT.thenR (Post.retP rfl rfl ?_))))))
          exact VLe.prop (ne_at hx hy c2).symm
        ·
          refine CodeT.skip (EndT.blkN (EndT.thenN ?_))
          refine CodeT.region (.p (opAddF (.t rfl) (.c _) (fits_i64 (by omega) (by omega))) rfl <| .p (opMove (.t rfl)) rfl <| .nil ?_)
          refine EndT.round (k + 1) ⟨by omega, heq.succ hx hy (Classical.not_not.1 c2)⟩ (by omega) rfl ?_
          exact (.get rfl (VLe.int (by omega)) (.keep 15 rfl rfl))
      ·
        refine CodeT.exit (EndT.thenX (EndT.thenX (EndT.blkX (EndT.thenN ?_))))
        refine CodeT.seq ?_
        refine CodeT.region (.p (opAssign .ct) rfl <| .nil ?_)
        refine EndT.thenN ?_
        refine CodeT.ret (Post.retP rfl rfl ?_)
        exact VLe.prop (by simp [heq.all (by omega) (by omega)])

theorem eqInt_spec {a b : List Int} : FnP Try.prog 46 [sliceV 1 encInt a, sliceV 1 encInt b] (propV (a = b)) := by
  refine FnE.intro 26 Try.func46 rfl rfl rfl fun w0 S0 M => ?_
  refine CodeT.fact (t := 0) rfl (fun S w v h => sliceV_len h) fun hlen => ?_
  refine CodeT.seq ?_
  refine CodeT.region (.p (opAssign .cf) rfl <| .nil ?_)
  refine EndT.thenN ?_
  refine CodeT.seq ?_
  refine CodeT.seq ?_
  refine CodeT.region (.p (opMove (.t rfl)) rfl <| .p (opLen rfl Try.underlying84 (.t rfl)) rfl <| .p (opMove (.t rfl)) rfl <| .p (opLen rfl Try.underlying84 (.t rfl)) rfl <| .p (opNeq (.t rfl) (.t rfl)) rfl <| .nil ?_)
  refine EndT.thenN ?_
  refine CodeT.cond (.t rfl) (fun c0 => ?_) (fun c0 => ?_)
  ·
    refine CodeT.seq ?_
    refine CodeT.region (.p (opAssign .cf) rfl <| .nil ?_)
    refine EndT.thenN ?_
    refine CodeT.ret (EndT.thenR (Post.retP rfl rfl ?_))
    exact VLe.prop (ne_len c0).symm
  ·
    refine CodeT.skip (EndT.thenN ?_)
    refine CodeT.seq ?_
    refine CodeT.seq ?_
    refine CodeT.region (.p (opMove (.t rfl)) rfl <| .p (opLen rfl Try.underlying84 (.t rfl)) rfl <| .p (opMove (.c _)) rfl <| .nil ?_)
    refine EndT.thenN ?_
    refine CodeT.block ?_
    refine CodeT.loopO (σ := Nat) (fun _ => []) (fun k => [(13, intV .i64 (k : Int))]) (fun k => k ≤ a.length ∧ EqB a b k) (fun k => a.length - k) 0 ⟨by omega, EqB.zero _ _⟩ rfl ?_ ?_
    · exact (.get rfl (VLe.refl _) (.refl _ _))
    · rintro k ⟨hk, heq⟩
      refine CodeT.seq ?_
      refine CodeT.region (.p (opLss (.t rfl) (.t rfl)) rfl <| .nil ?_)
      refine EndT.thenN ?_
      refine CodeT.seq ?_
      refine CodeT.cond (.t rfl) (fun c1 => ?_) (fun c1 => ?_)
      ·
        obtain ⟨x, hx⟩ := getElem?_lt (xs := a) (k := k) (by omega)
        obtain ⟨y, hy⟩ := getElem?_lt (xs := b) (k := k) (by omega)
        refine CodeT.skip (EndT.thenN ?_)
        refine CodeT.seq ?_
        refine CodeT.block ?_
        refine CodeT.seq ?_
        refine CodeT.region (.p (opMove (.t rfl)) rfl <| .p (opAssign (.t rfl)) rfl <| .nil ?_)
        refine EndT.thenN ?_
        refine CodeT.seq ?_
        refine CodeT.draw 8 1 Try.mixed (by kernel_rfl) (.p (opMove (.t rfl)) <| .p (opMove (.t rfl)) <| .p (opIndexAddr Try.underlying84 Try.cz3 rfl (.t rfl) (.t rfl) rfl (by assumption)) <| .p (opLoad Try.ag3 (.t rfl)) <| .p (opMove (.t rfl)) <| .p (opMove (.t rfl)) <| .p (opIndexAddr Try.underlying84 Try.cz3 rfl (.t rfl) (.t rfl) rfl (by assumption)) <| .p (opLoad Try.ag3 (.t rfl)) <| .nil) (.p (opNeq (.t rfl) (.t rfl)) rfl <| .nil ?_)
        refine EndT.thenN ?_
        refine CodeT.cond (.t rfl) (fun c2 => ?_) (fun c2 => ?_)
        ·
          refine CodeT.seq ?_
          refine CodeT.region (.p (opAssign .cf) rfl <| .nil ?_)
          refine EndT.thenN ?_
          refine CodeT.ret (EndT.blkR (EndT.thenR (EndT.thenR (EndT.blkR (EndT.thenR (Post.retP rfl rfl ?_))))))
          exact VLe.prop (ne_at hx hy c2).symm
        ·
          refine CodeT.skip (EndT.blkN (EndT.thenN ?_))
          refine CodeT.region (.p (opAddF (.t rfl) (.c _) (fits_i64 (by omega) (by omega))) rfl <| .p (opMove (.t rfl)) rfl <| .nil ?_)
          refine EndT.round (k + 1) ⟨by omega, heq.succ hx hy (Classical.not_not.1 c2)⟩ (by omega) rfl ?_
          exact (.get rfl (VLe.int (by omega)) (.keep 15 rfl rfl))
      ·
        refine CodeT.exit (EndT.thenX (EndT.thenX (EndT.blkX (EndT.thenN ?_))))
        refine CodeT.seq ?_
        refine CodeT.region (.p (opAssign .ct) rfl <| .nil ?_)
        refine EndT.thenN ?_
        refine CodeT.ret (Post.retP rfl rfl ?_)
        exact VLe.prop (by simp [heq.all (by omega) (by omega)])

theorem eqU64_spec {a b : List Int} : FnP Try.prog 75 [sliceV 1 encU64 a, sliceV 1 encU64 b] (propV (a = b)) := by
  refine FnE.intro 26 Try.func75 rfl rfl rfl fun w0 S0 M => ?_
  refine CodeT.fact (t := 0) rfl (fun S w v h => sliceV_len h) fun hlen => ?_
  refine CodeT.seq ?_
  refine CodeT.region (.p (opAssign .cf) rfl <| .nil ?_)
  refine EndT.thenN ?_
  refine CodeT.seq ?_
  refine CodeT.seq ?_
  refine CodeT.region (.p (opMove (.t rfl)) rfl <| .p (opLen rfl Try.underlying104 (.t rfl)) rfl <| .p (opMove (.t rfl)) rfl <| .p (opLen rfl Try.underlying104 (.t rfl)) rfl <| .p (opNeq (.t rfl) (.t rfl)) rfl <| .nil ?_)
  refine EndT.thenN ?_
  refine CodeT.cond (.t rfl) (fun c0 => ?_) (fun c0 => ?_)
  ·
    refine CodeT.seq ?_
    refine CodeT.region (.p (opAssign .cf) rfl <| .nil ?_)
    refine EndT.thenN ?_
    refine CodeT.ret (EndT.thenR (Post.retP rfl rfl ?_))
    exact VLe.prop (ne_len c0).symm
  ·
    refine CodeT.skip (EndT.thenN ?_)
    refine CodeT.seq ?_
    refine CodeT.seq ?_
    refine CodeT.region (.p (opMove (.t rfl)) rfl <| .p (opLen rfl Try.underlying104 (.t rfl)) rfl <| .p (opMove (.c _)) rfl <| .nil ?_)
    refine EndT.thenN ?_
    refine CodeT.block ?_
    refine CodeT.loopO (σ := Nat) (fun _ => []) (fun k => [(13, intV .i64 (k : Int))]) (fun k => k ≤ a.length ∧ EqB a b k) (fun k => a.length - k) 0 ⟨by omega, EqB.zero _ _⟩ rfl ?_ ?_
    · exact (.get rfl (VLe.refl _) (.refl _ _))
    · rintro k ⟨hk, heq⟩
      refine CodeT.seq ?_
      refine CodeT.region (.p (opLss (.t rfl) (.t rfl)) rfl <| .nil ?_)
      refine EndT.thenN ?_
      refine CodeT.seq ?_
      refine CodeT.cond (.t rfl) (fun c1 => ?_) (fun c1 => ?_)
      ·
        obtain ⟨x, hx⟩ := getElem?_lt (xs := a) (k := k) (by omega)
        obtain ⟨y, hy⟩ := getElem?_lt (xs := b) (k := k) (by omega)
        refine CodeT.skip (EndT.thenN ?_)
        refine CodeT.seq ?_
        refine CodeT.block ?_
        refine CodeT.seq ?_
        refine CodeT.region (.p (opMove (.t rfl)) rfl <| .p (opAssign (.t rfl)) rfl <| .nil ?_)
        refine EndT.thenN ?_
        refine CodeT.seq ?_
        refine CodeT.draw 8 1 Try.mixed (by kernel_rfl) (.p (opMove (.t rfl)) <| .p (opMove (.t rfl)) <| .p (opIndexAddr Try.underlying104 Try.cz81 rfl (.t rfl) (.t rfl) rfl (by assumption)) <| .p (opLoad Try.ag81 (.t rfl)) <| .p (opMove (.t rfl)) <| .p (opMove (.t rfl)) <| .p (opIndexAddr Try.underlying104 Try.cz81 rfl (.t rfl) (.t rfl) rfl (by assumption)) <| .p (opLoad Try.ag81 (.t rfl)) <| .nil) (.p (opNeq (.t rfl) (.t rfl)) rfl <| .nil ?_)
        refine EndT.thenN ?_
        refine CodeT.cond (.t rfl) (fun c2 => ?_) (fun c2 => ?_)
        ·
          refine CodeT.seq ?_
          refine CodeT.region (.p (opAssign .cf) rfl <| .nil ?_)
          refine EndT.thenN ?_
          refine CodeT.ret (EndT.blkR (EndT.thenR (EndT.thenR (EndT.blkR (EndT.thenR (Post.retP rfl rfl ?_))))))
          exact VLe.prop (ne_at hx hy c2).symm
        ·
          refine CodeT.skip (EndT.blkN (EndT.thenN ?_))
          refine CodeT.region (.p (opAddF (.t rfl) (.c _) (fits_i64 (by omega) (by omega))) rfl <| .p (opMove (.t rfl)) rfl <| .nil ?_)
          refine EndT.round (k + 1) ⟨by omega, heq.succ hx hy (Classical.not_not.1 c2)⟩ (by omega) rfl ?_
          exact (.get rfl (VLe.int (by omega)) (.keep 15 rfl rfl))
      ·
        refine CodeT.exit (EndT.thenX (EndT.thenX (EndT.blkX (EndT.thenN ?_))))
        refine CodeT.seq ?_
        refine CodeT.region (.p (opAssign .ct) rfl <| .nil ?_)
        refine EndT.thenN ?_
        refine CodeT.ret (Post.retP rfl rfl ?_)
        exact VLe.prop (by simp [heq.all (by omega) (by omega)])

theorem eqImport_spec {a b : List ImportD} : FnP Try.prog 51 [sliceV 3 encImport a, sliceV 3 encImport b] (propV (a = b)) := by
  refine FnE.intro 26 Try.func51 rfl rfl rfl fun w0 S0 M => ?_
  refine CodeT.fact (t := 0) rfl (fun S w v h => sliceV_len h) fun hlen => ?_
  refine CodeT.seq ?_
  refine CodeT.region (.p (opAssign .cf) rfl <| .nil ?_)
  refine EndT.thenN ?_
  refine CodeT.seq ?_
  refine CodeT.seq ?_
  refine CodeT.region (.p (opMove (.t rfl)) rfl <| .p (opLen rfl Try.underlying23 (.t rfl)) rfl <| .p (opMove (.t rfl)) rfl <| .p (opLen rfl Try.underlying23 (.t rfl)) rfl <| .p (opNeq (.t rfl) (.t rfl)) rfl <| .nil ?_)
  refine EndT.thenN ?_
  refine CodeT.cond (.t rfl) (fun c0 => ?_) (fun c0 => ?_)
  ·
    refine CodeT.seq ?_
    refine CodeT.region (.p (opAssign .cf) rfl <| .nil ?_)
    refine EndT.thenN ?_
    refine CodeT.ret (EndT.thenR (Post.retP rfl rfl ?_))
    exact VLe.prop (ne_len c0).symm
  ·
    refine CodeT.skip (EndT.thenN ?_)
    refine CodeT.seq ?_
    refine CodeT.seq ?_
    refine CodeT.region (.p (opMove (.t rfl)) rfl <| .p (opLen rfl Try.underlying23 (.t rfl)) rfl <| .p (opMove (.c _)) rfl <| .nil ?_)
    refine EndT.thenN ?_
    refine CodeT.block ?_
    refine CodeT.loopO (σ := Nat) (fun _ => []) (fun k => [(13, intV .i64 (k : Int))]) (fun k => k ≤ a.length ∧ EqB a b k) (fun k => a.length - k) 0 ⟨by omega, EqB.zero _ _⟩ rfl ?_ ?_
    · exact (.get rfl (VLe.refl _) (.refl _ _))
    · rintro k ⟨hk, heq⟩
      refine CodeT.seq ?_
      refine CodeT.region (.p (opLss (.t rfl) (.t rfl)) rfl <| .nil ?_)
      refine EndT.thenN ?_
      refine CodeT.seq ?_
      refine CodeT.cond (.t rfl) (fun c1 => ?_) (fun c1 => ?_)
      ·
        obtain ⟨x, hx⟩ := getElem?_lt (xs := a) (k := k) (by omega)
        obtain ⟨y, hy⟩ := getElem?_lt (xs := b) (k := k) (by omega)
        refine CodeT.skip (EndT.thenN ?_)
        refine CodeT.seq ?_
        refine CodeT.block ?_
        refine CodeT.seq ?_
        refine CodeT.region (.p (opMove (.t rfl)) rfl <| .p (opAssign (.t rfl)) rfl <| .nil ?_)
        refine EndT.thenN ?_
        refine CodeT.seq ?_
        refine CodeT.draw 8 1 Try.mixed (by kernel_rfl) (.p (opMove (.t rfl)) <| .p (opMove (.t rfl)) <| .p (opIndexAddr Try.underlying23 Try.cz62 rfl (.t rfl) (.t rfl) rfl (by assumption)) <| .p (opLoadA Try.ag62 Try.cz62 rfl (.t rfl) rfl) <| .p (opMove (.t rfl)) <| .p (opMove (.t rfl)) <| .p (opIndexAddr Try.underlying23 Try.cz62 rfl (.t rfl) (.t rfl) rfl (by assumption)) <| .p (opLoadA Try.ag62 Try.cz62 rfl (.t rfl) rfl) <| .nil) (.p (opNeqA Try.underlying62 Try.sh62 Try.eg62 (.t rfl) (.t rfl) (.cons (by decide) rfl rfl (.str Try.underlying9) (.cons (by decide) rfl rfl (.str Try.underlying9) (.cons (by decide) rfl rfl (.int Try.underlying3) .nil)))) rfl <| .nil ?_)
        refine EndT.thenN ?_
        refine CodeT.cond (.le (.t rfl) (VLe.prop (not_congr import_eq))) (fun c2 => ?_) (fun c2 => ?_)
        ·
          refine CodeT.seq ?_
          refine CodeT.region (.p (opAssign .cf) rfl <| .nil ?_)
          refine EndT.thenN ?_
          refine CodeT.ret (EndT.blkR (EndT.thenR (EndT.thenR (EndT.blkR (EndT.thenR (Post.retP rfl rfl ?_))))))
          exact VLe.prop (ne_at hx hy c2).symm
        ·
          refine CodeT.skip (EndT.blkN (EndT.thenN ?_))
          refine CodeT.region (.p (opAddF (.t rfl) (.c _) (fits_i64 (by omega) (by omega))) rfl <| .p (opMove (.t rfl)) rfl <| .nil ?_)
          refine EndT.round (k + 1) ⟨by omega, heq.succ hx hy (Classical.not_not.1 c2)⟩ (by omega) rfl ?_
          exact (.get rfl (VLe.int (by omega)) (.keep 15 rfl rfl))
      ·
        refine CodeT.exit (EndT.thenX (EndT.thenX (EndT.blkX (EndT.thenN ?_))))
        refine CodeT.seq ?_
        refine CodeT.region (.p (opAssign .ct) rfl <| .nil ?_)
        refine EndT.thenN ?_
        refine CodeT.ret (Post.retP rfl rfl ?_)
        exact VLe.prop (by simp [heq.all (by omega) (by omega)])

theorem eqLimits_spec {a b : List LimitsD} : FnP Try.prog 52 [sliceV 3 encLimits a, sliceV 3 encLimits b] (propV (a = b)) := by
  refine FnE.intro 26 Try.func52 rfl rfl rfl fun w0 S0 M => ?_
  refine CodeT.fact (t := 0) rfl (fun S w v h => sliceV_len h) fun hlen => ?_
  refine CodeT.seq ?_
  refine CodeT.region (.p (opAssign .cf) rfl <| .nil ?_)
  refine EndT.thenN ?_
  refine CodeT.seq ?_
  refine CodeT.seq ?_
  refine CodeT.region (.p (opMove (.t rfl)) rfl <| .p (opLen rfl Try.underlying25 (.t rfl)) rfl <| .p (opMove (.t rfl)) rfl <| .p (opLen rfl Try.underlying25 (.t rfl)) rfl <| .p (opNeq (.t rfl) (.t rfl)) rfl <| .nil ?_)
  refine EndT.thenN ?_
  refine CodeT.cond (.t rfl) (fun c0 => ?_) (fun c0 => ?_)
  ·
    refine CodeT.seq ?_
    refine CodeT.region (.p (opAssign .cf) rfl <| .nil ?_)
    refine EndT.thenN ?_
    refine CodeT.ret (EndT.thenR (Post.retP rfl rfl ?_))
    exact VLe.prop (ne_len c0).symm
  ·
    refine CodeT.skip (EndT.thenN ?_)
    refine CodeT.seq ?_
    refine CodeT.seq ?_
    refine CodeT.region (.p (opMove (.t rfl)) rfl <| .p (opLen rfl Try.underlying25 (.t rfl)) rfl <| .p (opMove (.c _)) rfl <| .nil ?_)
    refine EndT.thenN ?_
    refine CodeT.block ?_
    refine CodeT.loopO (σ := Nat) (fun _ => []) (fun k => [(13, intV .i64 (k : Int))]) (fun k => k ≤ a.length ∧ EqB a b k) (fun k => a.length - k) 0 ⟨by omega, EqB.zero _ _⟩ rfl ?_ ?_
    · exact (.get rfl (VLe.refl _) (.refl _ _))
    · rintro k ⟨hk, heq⟩
      refine CodeT.seq ?_
      refine CodeT.region (.p (opLss (.t rfl) (.t rfl)) rfl <| .nil ?_)
      refine EndT.thenN ?_
      refine CodeT.seq ?_
      refine CodeT.cond (.t rfl) (fun c1 => ?_) (fun c1 => ?_)
      ·
        obtain ⟨x, hx⟩ := getElem?_lt (xs := a) (k := k) (by omega)
        obtain ⟨y, hy⟩ := getElem?_lt (xs := b) (k := k) (by omega)
        refine CodeT.skip (EndT.thenN ?_)
        refine CodeT.seq ?_
        refine CodeT.block ?_
        refine CodeT.seq ?_
        refine CodeT.region (.p (opMove (.t rfl)) rfl <| .p (opAssign (.t rfl)) rfl <| .nil ?_)
        refine EndT.thenN ?_
        refine CodeT.seq ?_
        refine CodeT.draw 8 1 Try.mixed (by kernel_rfl) (.p (opMove (.t rfl)) <| .p (opMove (.t rfl)) <| .p (opIndexAddr Try.underlying25 Try.cz79 rfl (.t rfl) (.t rfl) rfl (by assumption)) <| .p (opLoadA Try.ag79 Try.cz79 rfl (.t rfl) rfl) <| .p (opMove (.t rfl)) <| .p (opMove (.t rfl)) <| .p (opIndexAddr Try.underlying25 Try.cz79 rfl (.t rfl) (.t rfl) rfl (by assumption)) <| .p (opLoadA Try.ag79 Try.cz79 rfl (.t rfl) rfl) <| .nil) (.p (opNeqA Try.underlying79 Try.sh79 Try.eg79 (.t rfl) (.t rfl) (.cons (by decide) rfl rfl (.int Try.underlying3) (.cons (by decide) rfl rfl (.int Try.underlying3) (.cons (by decide) rfl rfl (.bool Try.underlying4) .nil)))) rfl <| .nil ?_)
        refine EndT.thenN ?_
        refine CodeT.cond (.le (.t rfl) (VLe.prop (not_congr limits_eq))) (fun c2 => ?_) (fun c2 => ?_)
        ·
          refine CodeT.seq ?_
          refine CodeT.region (.p (opAssign .cf) rfl <| .nil ?_)
          refine EndT.thenN ?_
          refine CodeT.ret (EndT.blkR (EndT.thenR (EndT.thenR (EndT.blkR (EndT.thenR (Post.retP rfl rfl ?_))))))
          exact VLe.prop (ne_at hx hy c2).symm
        ·
          refine CodeT.skip (EndT.blkN (EndT.thenN ?_))
          refine CodeT.region (.p (opAddF (.t rfl) (.c _) (fits_i64 (by omega) (by omega))) rfl <| .p (opMove (.t rfl)) rfl <| .nil ?_)
          refine EndT.round (k + 1) ⟨by omega, heq.succ hx hy (Classical.not_not.1 c2)⟩ (by omega) rfl ?_
          exact (.get rfl (VLe.int (by omega)) (.keep 15 rfl rfl))
      ·
        refine CodeT.exit (EndT.thenX (EndT.thenX (EndT.blkX (EndT.thenN ?_))))
        refine CodeT.seq ?_
        refine CodeT.region (.p (opAssign .ct) rfl <| .nil ?_)
        refine EndT.thenN ?_
        refine CodeT.ret (Post.retP rfl rfl ?_)
        exact VLe.prop (by simp [heq.all (by omega) (by omega)])

theorem eqGlobal_spec {a b : List GlobalD} : FnP Try.prog 53 [sliceV 3 encGlobal a, sliceV 3 encGlobal b] (propV (a = b)) := by
  refine FnE.intro 26 Try.func53 rfl rfl rfl fun w0 S0 M => ?_
  refine CodeT.fact (t := 0) rfl (fun S w v h => sliceV_len h) fun hlen => ?_
  refine CodeT.seq ?_
  refine CodeT.region (.p (opAssign .cf) rfl <| .nil ?_)
  refine EndT.thenN ?_
  refine CodeT.seq ?_
  refine CodeT.seq ?_
  refine CodeT.region (.p (opMove (.t rfl)) rfl <| .p (opLen rfl Try.underlying26 (.t rfl)) rfl <| .p (opMove (.t rfl)) rfl <| .p (opLen rfl Try.underlying26 (.t rfl)) rfl <| .p (opNeq (.t rfl) (.t rfl)) rfl <| .nil ?_)
  refine EndT.thenN ?_
  refine CodeT.cond (.t rfl) (fun c0 => ?_) (fun c0 => ?_)
  ·
    refine CodeT.seq ?_
    refine CodeT.region (.p (opAssign .cf) rfl <| .nil ?_)
    refine EndT.thenN ?_
    refine CodeT.ret (EndT.thenR (Post.retP rfl rfl ?_))
    exact VLe.prop (ne_len c0).symm
  ·
    refine CodeT.skip (EndT.thenN ?_)
    refine CodeT.seq ?_
    refine CodeT.seq ?_
    refine CodeT.region (.p (opMove (.t rfl)) rfl <| .p (opLen rfl Try.underlying26 (.t rfl)) rfl <| .p (opMove (.c _)) rfl <| .nil ?_)
    refine EndT.thenN ?_
    refine CodeT.block ?_
    refine CodeT.loopO (σ := Nat) (fun _ => []) (fun k => [(13, intV .i64 (k : Int))]) (fun k => k ≤ a.length ∧ EqB a b k) (fun k => a.length - k) 0 ⟨by omega, EqB.zero _ _⟩ rfl ?_ ?_
    · exact (.get rfl (VLe.refl _) (.refl _ _))
    · rintro k ⟨hk, heq⟩
      refine CodeT.seq ?_
      refine CodeT.region (.p (opLss (.t rfl) (.t rfl)) rfl <| .nil ?_)
      refine EndT.thenN ?_
      refine CodeT.seq ?_
      refine CodeT.cond (.t rfl) (fun c1 => ?_) (fun c1 => ?_)
      ·
        obtain ⟨x, hx⟩ := getElem?_lt (xs := a) (k := k) (by omega)
        obtain ⟨y, hy⟩ := getElem?_lt (xs := b) (k := k) (by omega)
        refine CodeT.skip (EndT.thenN ?_)
        refine CodeT.seq ?_
        refine CodeT.block ?_
        refine CodeT.seq ?_
        refine CodeT.region (.p (opMove (.t rfl)) rfl <| .p (opAssign (.t rfl)) rfl <| .nil ?_)
        refine EndT.thenN ?_
        refine CodeT.seq ?_
        refine CodeT.draw 8 1 Try.mixed (by kernel_rfl) (.p (opMove (.t rfl)) <| .p (opMove (.t rfl)) <| .p (opIndexAddr Try.underlying26 Try.cz83 rfl (.t rfl) (.t rfl) rfl (by assumption)) <| .p (opLoadA Try.ag83 Try.cz83 rfl (.t rfl) rfl) <| .p (opMove (.t rfl)) <| .p (opMove (.t rfl)) <| .p (opIndexAddr Try.underlying26 Try.cz83 rfl (.t rfl) (.t rfl) rfl (by assumption)) <| .p (opLoadA Try.ag83 Try.cz83 rfl (.t rfl) rfl) <| .nil) (.p (opNeqA Try.underlying83 Try.sh83 Try.eg83 (.t rfl) (.t rfl) (.cons (by decide) rfl rfl (.int Try.underlying80) (.cons (by decide) rfl rfl (.bool Try.underlying4) (.cons (by decide) rfl rfl (.int Try.underlying81) .nil)))) rfl <| .nil ?_)
        refine EndT.thenN ?_
        refine CodeT.cond (.le (.t rfl) (VLe.prop (not_congr global_eq))) (fun c2 => ?_) (fun c2 => ?_)
        ·
          refine CodeT.seq ?_
          refine CodeT.region (.p (opAssign .cf) rfl <| .nil ?_)
          refine EndT.thenN ?_
          refine CodeT.ret (EndT.blkR (EndT.thenR (EndT.thenR (EndT.blkR (EndT.thenR (Post.retP rfl rfl ?_))))))
          exact VLe.prop (ne_at hx hy c2).symm
        ·
          refine CodeT.skip (EndT.blkN (EndT.thenN ?_))
          refine CodeT.region (.p (opAddF (.t rfl) (.c _) (fits_i64 (by omega) (by omega))) rfl <| .p (opMove (.t rfl)) rfl <| .nil ?_)
          refine EndT.round (k + 1) ⟨by omega, heq.succ hx hy (Classical.not_not.1 c2)⟩ (by omega) rfl ?_
          exact (.get rfl (VLe.int (by omega)) (.keep 15 rfl rfl))
      ·
        refine CodeT.exit (EndT.thenX (EndT.thenX (EndT.blkX (EndT.thenN ?_))))
        refine CodeT.seq ?_
        refine CodeT.region (.p (opAssign .ct) rfl <| .nil ?_)
        refine EndT.thenN ?_
        refine CodeT.ret (Post.retP rfl rfl ?_)
        exact VLe.prop (by simp [heq.all (by omega) (by omega)])

theorem eqExport_spec {a b : List ExportD} : FnP Try.prog 54 [sliceV 3 encExport a, sliceV 3 encExport b] (propV (a = b)) := by
  refine FnE.intro 26 Try.func54 rfl rfl rfl fun w0 S0 M => ?_
  refine CodeT.fact (t := 0) rfl (fun S w v h => sliceV_len h) fun hlen => ?_
  refine CodeT.seq ?_
  refine CodeT.region (.p (opAssign .cf) rfl <| .nil ?_)
  refine EndT.thenN ?_
  refine CodeT.seq ?_
  refine CodeT.seq ?_
  refine CodeT.region (.p (opMove (.t rfl)) rfl <| .p (opLen rfl Try.underlying27 (.t rfl)) rfl <| .p (opMove (.t rfl)) rfl <| .p (opLen rfl Try.underlying27 (.t rfl)) rfl <| .p (opNeq (.t rfl) (.t rfl)) rfl <| .nil ?_)
  refine EndT.thenN ?_
  refine CodeT.cond (.t rfl) (fun c0 => ?_) (fun c0 => ?_)
  ·
    refine CodeT.seq ?_
    refine CodeT.region (.p (opAssign .cf) rfl <| .nil ?_)
    refine EndT.thenN ?_
    refine CodeT.ret (EndT.thenR (Post.retP rfl rfl ?_))
    exact VLe.prop (ne_len c0).symm
  ·
    refine CodeT.skip (EndT.thenN ?_)
    refine CodeT.seq ?_
    refine CodeT.seq ?_
    refine CodeT.region (.p (opMove (.t rfl)) rfl <| .p (opLen rfl Try.underlying27 (.t rfl)) rfl <| .p (opMove (.c _)) rfl <| .nil ?_)
    refine EndT.thenN ?_
    refine CodeT.block ?_
    refine CodeT.loopO (σ := Nat) (fun _ => []) (fun k => [(13, intV .i64 (k : Int))]) (fun k => k ≤ a.length ∧ EqB a b k) (fun k => a.length - k) 0 ⟨by omega, EqB.zero _ _⟩ rfl ?_ ?_
    · exact (.get rfl (VLe.refl _) (.refl _ _))
    · rintro k ⟨hk, heq⟩
      refine CodeT.seq ?_
      refine CodeT.region (.p (opLss (.t rfl) (.t rfl)) rfl <| .nil ?_)
      refine EndT.thenN ?_
      refine CodeT.seq ?_
      refine CodeT.cond (.t rfl) (fun c1 => ?_) (fun c1 => ?_)
      ·
        obtain ⟨x, hx⟩ := getElem?_lt (xs := a) (k := k) (by omega)
        obtain ⟨y, hy⟩ := getElem?_lt (xs := b) (k := k) (by omega)
        refine CodeT.skip (EndT.thenN ?_)
        refine CodeT.seq ?_
        refine CodeT.block ?_
        refine CodeT.seq ?_
        refine CodeT.region (.p (opMove (.t rfl)) rfl <| .p (opAssign (.t rfl)) rfl <| .nil ?_)
        refine EndT.thenN ?_
        refine CodeT.seq ?_
        refine CodeT.draw 8 1 Try.mixed (by kernel_rfl) (.p (opMove (.t rfl)) <| .p (opMove (.t rfl)) <| .p (opIndexAddr Try.underlying27 Try.cz57 rfl (.t rfl) (.t rfl) rfl (by assumption)) <| .p (opLoadA Try.ag57 Try.cz57 rfl (.t rfl) rfl) <| .p (opMove (.t rfl)) <| .p (opMove (.t rfl)) <| .p (opIndexAddr Try.underlying27 Try.cz57 rfl (.t rfl) (.t rfl) rfl (by assumption)) <| .p (opLoadA Try.ag57 Try.cz57 rfl (.t rfl) rfl) <| .nil) (.p (opNeqA Try.underlying57 Try.sh57 Try.eg57 (.t rfl) (.t rfl) (.cons (by decide) rfl rfl (.str Try.underlying9) (.cons (by decide) rfl rfl (.int Try.underlying3) (.cons (by decide) rfl rfl (.int Try.underlying3) .nil)))) rfl <| .nil ?_)
        refine EndT.thenN ?_
        refine CodeT.cond (.le (.t rfl) (VLe.prop (not_congr export_eq))) (fun c2 => ?_) (fun c2 => ?_)
        ·
          refine CodeT.seq ?_
          refine CodeT.region (.p (opAssign .cf) rfl <| .nil ?_)
          refine EndT.thenN ?_
          refine CodeT.ret (EndT.blkR (EndT.thenR (EndT.thenR (EndT.blkR (EndT.thenR (Post.retP rfl rfl ?_))))))
          exact VLe.prop (ne_at hx hy c2).symm
        ·
          refine CodeT.skip (EndT.blkN (EndT.thenN ?_))
          refine CodeT.region (.p (opAddF (.t rfl) (.c _) (fits_i64 (by omega) (by omega))) rfl <| .p (opMove (.t rfl)) rfl <| .nil ?_)
          refine EndT.round (k + 1) ⟨by omega, heq.succ hx hy (Classical.not_not.1 c2)⟩ (by omega) rfl ?_
          exact (.get rfl (VLe.int (by omega)) (.keep 15 rfl rfl))
      ·
        refine CodeT.exit (EndT.thenX (EndT.thenX (EndT.blkX (EndT.thenN ?_))))
        refine CodeT.seq ?_
        refine CodeT.region (.p (opAssign .ct) rfl <| .nil ?_)
        refine EndT.thenN ?_
        refine CodeT.ret (Post.retP rfl rfl ?_)
        exact VLe.prop (by simp [heq.all (by omega) (by omega)])

theorem bytesEq_spec {a b : List UInt8} : FnP Try.prog 49 [sliceV 1 encU8 a, sliceV 1 encU8 b] (propV (a = b)) := by
  refine FnE.intro 10 Try.func49 rfl rfl rfl fun w0 S0 M => ?_
  refine CodeT.seq ?_
  refine CodeT.region (.p (opAssign .cf) rfl <| .nil ?_)
  refine EndT.thenN ?_
  refine CodeT.seq ?_
  refine CodeT.region (.p (opMove (.t rfl)) rfl <| .p (opBytesStr Try.underlying50 Try.underlying5 Try.underlying9 (.t rfl)) rfl <| .p (opMove (.t rfl)) rfl <| .p (opBytesStr Try.underlying50 Try.underlying5 Try.underlying9 (.t rfl)) rfl <| .p (opEqlS (.t rfl) (.t rfl)) rfl <| .p (opAssign (.t rfl)) rfl <| .nil ?_)
  refine EndT.thenN ?_
  refine CodeT.ret (Post.retP rfl rfl ?_)
  first | exact VLe.refl _ | exact VLe.int (by omega) | exact VLe.prop (by omega) | exact VLe.prop (by simp_all) | exact VLe.prop (by simp; omega)

theorem tsame_spec {a b : SigD} : FnP Try.prog 18 [aggV (encSig a), aggV (encSig b)] (propV (a = b)) := by
  refine FnE.intro 17 Try.func18 rfl rfl rfl fun w0 S0 M => ?_
  refine CodeT.seq ?_
  refine CodeT.region (.p (opBoxA (.t rfl)) rfl <| .p (opBoxA (.t rfl)) rfl <| .p (opAssign .cf) rfl <| .nil ?_)
  refine EndT.thenN ?_
  refine CodeT.seq ?_
  refine CodeT.region (.p (opField Try.fd46_0 (.t rfl)) rfl <| .p (opLoad Try.ag44 (.t rfl)) rfl <| .p (opField Try.fd46_0 (.t rfl)) rfl <| .p (opLoad Try.ag44 (.t rfl)) rfl <| .p (opCall (eqType_spec) Try.cb39 (.cons (.t rfl) (.cons (.t rfl) .nil))) rfl <| .p (opMove (.t rfl)) rfl <| .g (OpG.gT rfl rfl rfl rfl (fun hg => opField Try.fd46_1 (.t rfl))) rfl rfl <| .g (OpG.gT rfl rfl rfl rfl (fun hg => opLoad Try.ag44 (.when (.t rfl) hg))) rfl rfl <| .g (OpG.gT rfl rfl rfl rfl (fun hg => opField Try.fd46_1 (.t rfl))) rfl rfl <| .g (OpG.gT rfl rfl rfl rfl (fun hg => opLoad Try.ag44 (.when (.t rfl) hg))) rfl rfl <| .g (OpG.gT rfl rfl rfl rfl (fun hg => opCall (eqType_spec) Try.cb39 (.cons (.when (.t rfl) hg) (.cons (.when (.t rfl) hg) .nil)))) rfl rfl <| .p (opAnd (.t rfl) (.t rfl)) rfl <| .p (opAssign (.t rfl)) rfl <| .nil ?_)
  refine EndT.thenN ?_
  refine CodeT.ret (Post.retP rfl rfl ?_)
  exact VLe.prop sig_eq

theorem isame_spec {a b : InstrD} : FnP Try.prog 41 [aggV (encInstr a), aggV (encInstr b)] (propV (a = b)) := by
  refine FnE.intro 38 Try.func41 rfl rfl rfl fun w0 S0 M => ?_
  refine CodeT.seq ?_
  refine CodeT.region (.p (opBoxA (.t rfl)) rfl <| .p (opBoxA (.t rfl)) rfl <| .p (opAssign .cf) rfl <| .nil ?_)
  refine EndT.thenN ?_
  refine CodeT.seq ?_
  refine CodeT.region (.p (opField Try.fd106_0 (.t rfl)) rfl <| .p (opLoad Try.ag3 (.t rfl)) rfl <| .p (opField Try.fd106_0 (.t rfl)) rfl <| .p (opLoad Try.ag3 (.t rfl)) rfl <| .p (opEql (.t rfl) (.t rfl)) rfl <| .p (opMove (.t rfl)) rfl <| .g (OpG.gT rfl rfl rfl rfl (fun hg => opField Try.fd106_1 (.t rfl))) rfl rfl <| .g (OpG.gT rfl rfl rfl rfl (fun hg => opLoad Try.ag81 (.when (.t rfl) hg))) rfl rfl <| .g (OpG.gT rfl rfl rfl rfl (fun hg => opField Try.fd106_1 (.t rfl))) rfl rfl <| .g (OpG.gT rfl rfl rfl rfl (fun hg => opLoad Try.ag81 (.when (.t rfl) hg))) rfl rfl <| .g (OpG.gT rfl rfl rfl rfl (fun hg => opEql (.when (.t rfl) hg) (.when (.t rfl) hg))) rfl rfl <| .p (opAnd (.t rfl) (.t rfl)) rfl <| .p (opMove (.t rfl)) rfl <| .g (OpG.gT rfl rfl rfl rfl (fun hg => opField Try.fd106_2 (.t rfl))) rfl rfl <| .g (OpG.gT rfl rfl rfl rfl (fun hg => opLoad Try.ag81 (.when (.t rfl) hg))) rfl rfl <| .g (OpG.gT rfl rfl rfl rfl (fun hg => opField Try.fd106_2 (.t rfl))) rfl rfl <| .g (OpG.gT rfl rfl rfl rfl (fun hg => opLoad Try.ag81 (.when (.t rfl) hg))) rfl rfl <| .g (OpG.gT rfl rfl rfl rfl (fun hg => opEql (.when (.t rfl) hg) (.when (.t rfl) hg))) rfl rfl <| .p (opAnd (.t rfl) (.t rfl)) rfl <| .p (opMove (.t rfl)) rfl <| .g (OpG.gT rfl rfl rfl rfl (fun hg => opField Try.fd106_3 (.t rfl))) rfl rfl <| .g (OpG.gT rfl rfl rfl rfl (fun hg => opLoad Try.ag3 (.when (.t rfl) hg))) rfl rfl <| .g (OpG.gT rfl rfl rfl rfl (fun hg => opField Try.fd106_3 (.t rfl))) rfl rfl <| .g (OpG.gT rfl rfl rfl rfl (fun hg => opLoad Try.ag3 (.when (.t rfl) hg))) rfl rfl <| .g (OpG.gT rfl rfl rfl rfl (fun hg => opEql (.when (.t rfl) hg) (.when (.t rfl) hg))) rfl rfl <| .p (opAnd (.t rfl) (.t rfl)) rfl <| .p (opMove (.t rfl)) rfl <| .g (OpG.gT rfl rfl rfl rfl (fun hg => opField Try.fd106_4 (.t rfl))) rfl rfl <| .g (OpG.gT rfl rfl rfl rfl (fun hg => opLoad Try.ag104 (.when (.t rfl) hg))) rfl rfl <| .g (OpG.gT rfl rfl rfl rfl (fun hg => opField Try.fd106_4 (.t rfl))) rfl rfl <| .g (OpG.gT rfl rfl rfl rfl (fun hg => opLoad Try.ag104 (.when (.t rfl) hg))) rfl rfl <| .g (OpG.gT rfl rfl rfl rfl (fun hg => opCall (eqU64_spec) Try.cb75 (.cons (.when (.t rfl) hg) (.cons (.when (.t rfl) hg) .nil)))) rfl rfl <| .p (opAnd (.t rfl) (.t rfl)) rfl <| .p (opAssign (.t rfl)) rfl <| .nil ?_)
  refine EndT.thenN ?_
  refine CodeT.ret (Post.retP rfl rfl ?_)
  exact VLe.prop instr_eq

theorem eqfInstr_spec {a b : List InstrD} : FnP Try.prog 40 [sliceV 5 encInstr a, sliceV 5 encInstr b, funV Try.prog (fun _ : InstrD × InstrD => True) (fun p => [aggV (encInstr p.1), aggV (encInstr p.2)]) (fun p => propV (p.1 = p.2))] (propV (a = b)) := by
  refine FnE.intro 32 Try.func40 rfl rfl rfl fun w0 S0 M => ?_
  refine CodeT.fact (t := 0) rfl (fun S w v h => sliceV_len h) fun hlen => ?_
  refine CodeT.seq ?_
  refine CodeT.region (.p (opAssign .cf) rfl <| .nil ?_)
  refine EndT.thenN ?_
  refine CodeT.seq ?_
  refine CodeT.seq ?_
  refine CodeT.region (.p (opMove (.t rfl)) rfl <| .p (opLen rfl Try.underlying69 (.t rfl)) rfl <| .p (opMove (.t rfl)) rfl <| .p (opLen rfl Try.underlying69 (.t rfl)) rfl <| .p (opNeq (.t rfl) (.t rfl)) rfl <| .nil ?_)
  refine EndT.thenN ?_
  refine CodeT.cond (.t rfl) (fun c0 => ?_) (fun c0 => ?_)
  ·
    refine CodeT.seq ?_
    refine CodeT.region (.p (opAssign .cf) rfl <| .nil ?_)
    refine EndT.thenN ?_
    refine CodeT.ret (EndT.thenR (Post.retP rfl rfl ?_))
    exact VLe.prop (ne_len c0).symm
  ·
    refine CodeT.skip (EndT.thenN ?_)
    refine CodeT.seq ?_
    refine CodeT.seq ?_
    refine CodeT.region (.p (opMove (.t rfl)) rfl <| .p (opLen rfl Try.underlying69 (.t rfl)) rfl <| .p (opMove (.c _)) rfl <| .nil ?_)
    refine EndT.thenN ?_
    refine CodeT.block ?_
    refine CodeT.loopO (σ := Nat) (fun _ => []) (fun k => [(17, intV .i64 (k : Int))]) (fun k => k ≤ a.length ∧ EqB a b k) (fun k => a.length - k) 0 ⟨by omega, EqB.zero _ _⟩ rfl ?_ ?_
    · exact (.get rfl (VLe.refl _) (.refl _ _))
    · rintro k ⟨hk, heq⟩
      refine CodeT.seq ?_
      refine CodeT.region (.p (opLss (.t rfl) (.t rfl)) rfl <| .nil ?_)
      refine EndT.thenN ?_
      refine CodeT.seq ?_
      refine CodeT.cond (.t rfl) (fun c1 => ?_) (fun c1 => ?_)
      ·
        obtain ⟨x, hx⟩ := getElem?_lt (xs := a) (k := k) (by omega)
        obtain ⟨y, hy⟩ := getElem?_lt (xs := b) (k := k) (by omega)
        refine CodeT.skip (EndT.thenN ?_)
        refine CodeT.seq ?_
        refine CodeT.block ?_
        refine CodeT.seq ?_
        refine CodeT.region (.p (opMove (.t rfl)) rfl <| .p (opIndexAddr Try.underlying69 Try.cz106 rfl (.t rfl) (.t rfl) rfl (by assumption)) rfl <| .p (opLoadA Try.ag106 Try.cz106 rfl (.t rfl) rfl) rfl <| .n (opAlloc Try.zb106) rfl <| fun b8 _ => .p (opAssign (.t rfl)) rfl <| .s (opStoreOA (i := 0) Try.cz106 rfl (.t rfl) (.t rfl) rfl rfl rfl) <| .nil ?_)
        refine EndT.thenN ?_
        refine CodeT.share (t := 8) (i := 0) rfl rfl ?_
        refine CodeT.seq ?_
        refine CodeT.region (.p (opMove (.t rfl)) rfl <| .p (opMove (.t rfl)) rfl <| .p (opIndexAddr Try.underlying69 Try.cz106 rfl (.t rfl) (.t rfl) rfl (by assumption)) rfl <| .p (opLoadA Try.ag106 Try.cz106 rfl (.t rfl) rfl) rfl <| .n (opAlloc Try.zb106) rfl <| fun b9 _ => .s (opStoreOA (i := 0) Try.cz106 rfl (.t rfl) (.t rfl) rfl rfl rfl) <| .nil ?_)
        refine EndT.thenN ?_
        refine CodeT.share (t := 9) (i := 0) rfl rfl ?_
        refine CodeT.seq ?_
        refine CodeT.region (.p (opMove (.t rfl)) rfl <| .p (opLoadA Try.ag106 Try.cz106 rfl (.t rfl) rfl) rfl <| .p (opLoadA Try.ag106 Try.cz106 rfl (.t rfl) rfl) rfl <| .p (opCallV (x, y) (.t rfl) trivial (.cons (.t rfl) (.cons (.t rfl) .nil))) rfl <| .p (opNot (.t rfl)) rfl <| .nil ?_)
        refine EndT.thenN ?_
        refine CodeT.cond (.t rfl) (fun c2 => ?_) (fun c2 => ?_)
        ·
          refine CodeT.seq ?_
          refine CodeT.region (.p (opAssign .cf) rfl <| .nil ?_)
          refine EndT.thenN ?_
          refine CodeT.ret (EndT.blkR (EndT.thenR (EndT.thenR (EndT.blkR (EndT.thenR (Post.retP rfl rfl ?_))))))
          exact VLe.prop (ne_at hx hy c2).symm
        ·
          refine CodeT.skip (EndT.blkN (EndT.thenN ?_))
          refine CodeT.region (.p (opAddF (.t rfl) (.c _) (fits_i64 (by omega) (by omega))) rfl <| .p (opMove (.t rfl)) rfl <| .nil ?_)
          refine EndT.round (k + 1) ⟨by omega, heq.succ hx hy (Classical.not_not.1 c2)⟩ (by omega) rfl ?_
          exact (.get rfl (VLe.int (by omega)) (.keep 21 rfl rfl))
      ·
        refine CodeT.exit (EndT.thenX (EndT.thenX (EndT.blkX (EndT.thenN ?_))))
        refine CodeT.seq ?_
        refine CodeT.region (.p (opAssign .ct) rfl <| .nil ?_)
        refine EndT.thenN ?_
        refine CodeT.ret (Post.retP rfl rfl ?_)
        exact VLe.prop (by simp [heq.all (by omega) (by omega)])

theorem csame_spec {a b : BodyD} : FnP Try.prog 21 [aggV (encBody a), aggV (encBody b)] (propV (a = b)) := by
  refine FnE.intro 17 Try.func21 rfl rfl rfl fun w0 S0 M => ?_
  refine CodeT.seq ?_
  refine CodeT.region (.p (opBoxA (.t rfl)) rfl <| .p (opBoxA (.t rfl)) rfl <| .p (opAssign .cf) rfl <| .nil ?_)
  refine EndT.thenN ?_
  refine CodeT.seq ?_
  refine CodeT.region (.p (opField Try.fd71_0 (.t rfl)) rfl <| .p (opLoad Try.ag44 (.t rfl)) rfl <| .p (opField Try.fd71_0 (.t rfl)) rfl <| .p (opLoad Try.ag44 (.t rfl)) rfl <| .p (opCall (eqType_spec) Try.cb39 (.cons (.t rfl) (.cons (.t rfl) .nil))) rfl <| .p (opMove (.t rfl)) rfl <| .g (OpG.gT rfl rfl rfl rfl (fun hg => opField Try.fd71_1 (.t rfl))) rfl rfl <| .g (OpG.gT rfl rfl rfl rfl (fun hg => opLoad Try.ag69 (.when (.t rfl) hg))) rfl rfl <| .g (OpG.gT rfl rfl rfl rfl (fun hg => opField Try.fd71_1 (.t rfl))) rfl rfl <| .g (OpG.gT rfl rfl rfl rfl (fun hg => opLoad Try.ag69 (.when (.t rfl) hg))) rfl rfl <| .g (OpG.gT rfl rfl rfl rfl (fun hg => opCall (eqfInstr_spec) Try.cb40 (.cons (.when (.t rfl) hg) (.cons (.when (.t rfl) hg) (.cons (.le (.f _) (funV_of (A := InstrD × InstrD) Try.cb41 (fun p _ => isame_spec))) .nil))))) rfl rfl <| .p (opAnd (.t rfl) (.t rfl)) rfl <| .p (opAssign (.t rfl)) rfl <| .nil ?_)
  refine EndT.thenN ?_
  refine CodeT.ret (Post.retP rfl rfl ?_)
  exact VLe.prop body_eq

theorem msame1_spec {x y : FuncD} : FnP Try.prog 43 [aggV (encFunc x), aggV (encFunc y)] (propV (x = y)) := by
  refine FnE.intro 17 Try.func43 rfl rfl rfl fun w0 S0 M => ?_
  refine CodeT.seq ?_
  refine CodeT.region (.p (opBoxA (.t rfl)) rfl <| .p (opBoxA (.t rfl)) rfl <| .p (opAssign .cf) rfl <| .nil ?_)
  refine EndT.thenN ?_
  refine CodeT.seq ?_
  refine CodeT.region (.p (opField Try.fd73_0 (.t rfl)) rfl <| .p (opLoad Try.ag3 (.t rfl)) rfl <| .p (opField Try.fd73_0 (.t rfl)) rfl <| .p (opLoad Try.ag3 (.t rfl)) rfl <| .p (opEql (.t rfl) (.t rfl)) rfl <| .p (opMove (.t rfl)) rfl <| .g (OpG.gT rfl rfl rfl rfl (fun hg => opField Try.fd73_1 (.t rfl))) rfl rfl <| .g (OpG.gT rfl rfl rfl rfl (fun hg => opLoadA Try.ag71 Try.cz71 rfl (.when (.t rfl) hg) rfl)) rfl rfl <| .g (OpG.gT rfl rfl rfl rfl (fun hg => opField Try.fd73_1 (.t rfl))) rfl rfl <| .g (OpG.gT rfl rfl rfl rfl (fun hg => opLoadA Try.ag71 Try.cz71 rfl (.when (.t rfl) hg) rfl)) rfl rfl <| .g (OpG.gT rfl rfl rfl rfl (fun hg => opCall (csame_spec (a := x.Body) (b := y.Body)) Try.cb21 (.cons (.when (.t rfl) hg) (.cons (.when (.t rfl) hg) .nil)))) rfl rfl <| .p (opAnd (.t rfl) (.t rfl)) rfl <| .p (opAssign (.t rfl)) rfl <| .nil ?_)
  refine EndT.thenN ?_
  refine CodeT.ret (Post.retP rfl rfl ?_)
  exact VLe.prop func_eq

theorem msame2_spec {x y : ElemD} : FnP Try.prog 45 [aggV (encElem x), aggV (encElem y)] (propV (x = y)) := by
  refine FnE.intro 17 Try.func45 rfl rfl rfl fun w0 S0 M => ?_
  refine CodeT.seq ?_
  refine CodeT.region (.p (opBoxA (.t rfl)) rfl <| .p (opBoxA (.t rfl)) rfl <| .p (opAssign .cf) rfl <| .nil ?_)
  refine EndT.thenN ?_
  refine CodeT.seq ?_
  refine CodeT.region (.p (opField Try.fd86_0 (.t rfl)) rfl <| .p (opLoad Try.ag81 (.t rfl)) rfl <| .p (opField Try.fd86_0 (.t rfl)) rfl <| .p (opLoad Try.ag81 (.t rfl)) rfl <| .p (opEql (.t rfl) (.t rfl)) rfl <| .p (opMove (.t rfl)) rfl <| .g (OpG.gT rfl rfl rfl rfl (fun hg => opField Try.fd86_1 (.t rfl))) rfl rfl <| .g (OpG.gT rfl rfl rfl rfl (fun hg => opLoad Try.ag84 (.when (.t rfl) hg))) rfl rfl <| .g (OpG.gT rfl rfl rfl rfl (fun hg => opField Try.fd86_1 (.t rfl))) rfl rfl <| .g (OpG.gT rfl rfl rfl rfl (fun hg => opLoad Try.ag84 (.when (.t rfl) hg))) rfl rfl <| .g (OpG.gT rfl rfl rfl rfl (fun hg => opCall (eqInt_spec) Try.cb46 (.cons (.when (.t rfl) hg) (.cons (.when (.t rfl) hg) .nil)))) rfl rfl <| .p (opAnd (.t rfl) (.t rfl)) rfl <| .p (opAssign (.t rfl)) rfl <| .nil ?_)
  refine EndT.thenN ?_
  refine CodeT.ret (Post.retP rfl rfl ?_)
  exact VLe.prop elem_eq

theorem msame3_spec {x y : DataD} : FnP Try.prog 48 [aggV (encData x), aggV (encData y)] (propV (x = y)) := by
  refine FnE.intro 24 Try.func48 rfl rfl rfl fun w0 S0 M => ?_
  refine CodeT.seq ?_
  refine CodeT.region (.p (opBoxA (.t rfl)) rfl <| .p (opBoxA (.t rfl)) rfl <| .p (opAssign .cf) rfl <| .nil ?_)
  refine EndT.thenN ?_
  refine CodeT.seq ?_
  refine CodeT.region (.p (opField Try.fd88_0 (.t rfl)) rfl <| .p (opLoad Try.ag3 (.t rfl)) rfl <| .p (opField Try.fd88_0 (.t rfl)) rfl <| .p (opLoad Try.ag3 (.t rfl)) rfl <| .p (opEql (.t rfl) (.t rfl)) rfl <| .p (opMove (.t rfl)) rfl <| .g (OpG.gT rfl rfl rfl rfl (fun hg => opField Try.fd88_1 (.t rfl))) rfl rfl <| .g (OpG.gT rfl rfl rfl rfl (fun hg => opLoad Try.ag81 (.when (.t rfl) hg))) rfl rfl <| .g (OpG.gT rfl rfl rfl rfl (fun hg => opField Try.fd88_1 (.t rfl))) rfl rfl <| .g (OpG.gT rfl rfl rfl rfl (fun hg => opLoad Try.ag81 (.when (.t rfl) hg))) rfl rfl <| .g (OpG.gT rfl rfl rfl rfl (fun hg => opEql (.when (.t rfl) hg) (.when (.t rfl) hg))) rfl rfl <| .p (opAnd (.t rfl) (.t rfl)) rfl <| .p (opMove (.t rfl)) rfl <| .g (OpG.gT rfl rfl rfl rfl (fun hg => opField Try.fd88_2 (.t rfl))) rfl rfl <| .g (OpG.gT rfl rfl rfl rfl (fun hg => opLoad Try.ag50 (.when (.t rfl) hg))) rfl rfl <| .g (OpG.gT rfl rfl rfl rfl (fun hg => opField Try.fd88_2 (.t rfl))) rfl rfl <| .g (OpG.gT rfl rfl rfl rfl (fun hg => opLoad Try.ag50 (.when (.t rfl) hg))) rfl rfl <| .g (OpG.gT rfl rfl rfl rfl (fun hg => opCall (bytesEq_spec) Try.cb49 (.cons (.when (.t rfl) hg) (.cons (.when (.t rfl) hg) .nil)))) rfl rfl <| .p (opAnd (.t rfl) (.t rfl)) rfl <| .p (opAssign (.t rfl)) rfl <| .nil ?_)
  refine EndT.thenN ?_
  refine CodeT.ret (Post.retP rfl rfl ?_)
  exact VLe.prop data_eq

theorem eqfFunc_spec {a b : List FuncD} : FnP Try.prog 42 [sliceV 3 encFunc a, sliceV 3 encFunc b, funV Try.prog (fun _ : FuncD × FuncD => True) (fun p => [aggV (encFunc p.1), aggV (encFunc p.2)]) (fun p => propV (p.1 = p.2))] (propV (a = b)) := by
  refine FnE.intro 32 Try.func42 rfl rfl rfl fun w0 S0 M => ?_
  refine CodeT.fact (t := 0) rfl (fun S w v h => sliceV_len h) fun hlen => ?_
  refine CodeT.seq ?_
  refine CodeT.region (.p (opAssign .cf) rfl <| .nil ?_)
  refine EndT.thenN ?_
  refine CodeT.seq ?_
  refine CodeT.seq ?_
  refine CodeT.region (.p (opMove (.t rfl)) rfl <| .p (opLen rfl Try.underlying75 (.t rfl)) rfl <| .p (opMove (.t rfl)) rfl <| .p (opLen rfl Try.underlying75 (.t rfl)) rfl <| .p (opNeq (.t rfl) (.t rfl)) rfl <| .nil ?_)
  refine EndT.thenN ?_
  refine CodeT.cond (.t rfl) (fun c0 => ?_) (fun c0 => ?_)
  ·
    refine CodeT.seq ?_
    refine CodeT.region (.p (opAssign .cf) rfl <| .nil ?_)
    refine EndT.thenN ?_
    refine CodeT.ret (EndT.thenR (Post.retP rfl rfl ?_))
    exact VLe.prop (ne_len c0).symm
  ·
    refine CodeT.skip (EndT.thenN ?_)
    refine CodeT.seq ?_
    refine CodeT.seq ?_
    refine CodeT.region (.p (opMove (.t rfl)) rfl <| .p (opLen rfl Try.underlying75 (.t rfl)) rfl <| .p (opMove (.c _)) rfl <| .nil ?_)
    refine EndT.thenN ?_
    refine CodeT.block ?_
    refine CodeT.loopO (σ := Nat) (fun _ => []) (fun k => [(17, intV .i64 (k : Int))]) (fun k => k ≤ a.length ∧ EqB a b k) (fun k => a.length - k) 0 ⟨by omega, EqB.zero _ _⟩ rfl ?_ ?_
    · exact (.get rfl (VLe.refl _) (.refl _ _))
    · rintro k ⟨hk, heq⟩
      refine CodeT.seq ?_
      refine CodeT.region (.p (opLss (.t rfl) (.t rfl)) rfl <| .nil ?_)
      refine EndT.thenN ?_
      refine CodeT.seq ?_
      refine CodeT.cond (.t rfl) (fun c1 => ?_) (fun c1 => ?_)
      ·
        obtain ⟨x, hx⟩ := getElem?_lt (xs := a) (k := k) (by omega)
        obtain ⟨y, hy⟩ := getElem?_lt (xs := b) (k := k) (by omega)
        refine CodeT.skip (EndT.thenN ?_)
        refine CodeT.seq ?_
        refine CodeT.block ?_
        refine CodeT.seq ?_
        refine CodeT.region (.p (opMove (.t rfl)) rfl <| .p (opIndexAddr Try.underlying75 Try.cz73 rfl (.t rfl) (.t rfl) rfl (by assumption)) rfl <| .p (opLoadA Try.ag73 Try.cz73 rfl (.t rfl) rfl) rfl <| .n (opAlloc Try.zb73) rfl <| fun b8 _ => .p (opAssign (.t rfl)) rfl <| .s (opStoreOA (i := 0) Try.cz73 rfl (.t rfl) (.t rfl) rfl rfl rfl) <| .nil ?_)
        refine EndT.thenN ?_
        refine CodeT.share (t := 8) (i := 0) rfl rfl ?_
        refine CodeT.seq ?_
        refine CodeT.region (.p (opMove (.t rfl)) rfl <| .p (opMove (.t rfl)) rfl <| .p (opIndexAddr Try.underlying75 Try.cz73 rfl (.t rfl) (.t rfl) rfl (by assumption)) rfl <| .p (opLoadA Try.ag73 Try.cz73 rfl (.t rfl) rfl) rfl <| .n (opAlloc Try.zb73) rfl <| fun b9 _ => .s (opStoreOA (i := 0) Try.cz73 rfl (.t rfl) (.t rfl) rfl rfl rfl) <| .nil ?_)
        refine EndT.thenN ?_
        refine CodeT.share (t := 9) (i := 0) rfl rfl ?_
        refine CodeT.seq ?_
        refine CodeT.region (.p (opMove (.t rfl)) rfl <| .p (opLoadA Try.ag73 Try.cz73 rfl (.t rfl) rfl) rfl <| .p (opLoadA Try.ag73 Try.cz73 rfl (.t rfl) rfl) rfl <| .p (opCallV (x, y) (.t rfl) trivial (.cons (.t rfl) (.cons (.t rfl) .nil))) rfl <| .p (opNot (.t rfl)) rfl <| .nil ?_)
        refine EndT.thenN ?_
        refine CodeT.cond (.t rfl) (fun c2 => ?_) (fun c2 => ?_)
        ·
          refine CodeT.seq ?_
          refine CodeT.region (.p (opAssign .cf) rfl <| .nil ?_)
          refine EndT.thenN ?_
          refine CodeT.ret (EndT.blkR (EndT.thenR (EndT.thenR (EndT.blkR (EndT.thenR (Post.retP rfl rfl ?_))))))
          exact VLe.prop (ne_at hx hy c2).symm
        ·
          refine CodeT.skip (EndT.blkN (EndT.thenN ?_))
          refine CodeT.region (.p (opAddF (.t rfl) (.c _) (fits_i64 (by omega) (by omega))) rfl <| .p (opMove (.t rfl)) rfl <| .nil ?_)
          refine EndT.round (k + 1) ⟨by omega, heq.succ hx hy (Classical.not_not.1 c2)⟩ (by omega) rfl ?_
          exact (.get rfl (VLe.int (by omega)) (.keep 21 rfl rfl))
      ·
        refine CodeT.exit (EndT.thenX (EndT.thenX (EndT.blkX (EndT.thenN ?_))))
        refine CodeT.seq ?_
        refine CodeT.region (.p (opAssign .ct) rfl <| .nil ?_)
        refine EndT.thenN ?_
        refine CodeT.ret (Post.retP rfl rfl ?_)
        exact VLe.prop (by simp [heq.all (by omega) (by omega)])

theorem eqfElem_spec {a b : List ElemD} : FnP Try.prog 44 [sliceV 2 encElem a, sliceV 2 encElem b, funV Try.prog (fun _ : ElemD × ElemD => True) (fun p => [aggV (encElem p.1), aggV (encElem p.2)]) (fun p => propV (p.1 = p.2))] (propV (a = b)) := by
  refine FnE.intro 32 Try.func44 rfl rfl rfl fun w0 S0 M => ?_
  refine CodeT.fact (t := 0) rfl (fun S w v h => sliceV_len h) fun hlen => ?_
  refine CodeT.seq ?_
  refine CodeT.region (.p (opAssign .cf) rfl <| .nil ?_)
  refine EndT.thenN ?_
  refine CodeT.seq ?_
  refine CodeT.seq ?_
  refine CodeT.region (.p (opMove (.t rfl)) rfl <| .p (opLen rfl Try.underlying28 (.t rfl)) rfl <| .p (opMove (.t rfl)) rfl <| .p (opLen rfl Try.underlying28 (.t rfl)) rfl <| .p (opNeq (.t rfl) (.t rfl)) rfl <| .nil ?_)
  refine EndT.thenN ?_
  refine CodeT.cond (.t rfl) (fun c0 => ?_) (fun c0 => ?_)
  ·
    refine CodeT.seq ?_
    refine CodeT.region (.p (opAssign .cf) rfl <| .nil ?_)
    refine EndT.thenN ?_
    refine CodeT.ret (EndT.thenR (Post.retP rfl rfl ?_))
    exact VLe.prop (ne_len c0).symm
  ·
    refine CodeT.skip (EndT.thenN ?_)
    refine CodeT.seq ?_
    refine CodeT.seq ?_
    refine CodeT.region (.p (opMove (.t rfl)) rfl <| .p (opLen rfl Try.underlying28 (.t rfl)) rfl <| .p (opMove (.c _)) rfl <| .nil ?_)
    refine EndT.thenN ?_
    refine CodeT.block ?_
    refine CodeT.loopO (σ := Nat) (fun _ => []) (fun k => [(17, intV .i64 (k : Int))]) (fun k => k ≤ a.length ∧ EqB a b k) (fun k => a.length - k) 0 ⟨by omega, EqB.zero _ _⟩ rfl ?_ ?_
    · exact (.get rfl (VLe.refl _) (.refl _ _))
    · rintro k ⟨hk, heq⟩
      refine CodeT.seq ?_
      refine CodeT.region (.p (opLss (.t rfl) (.t rfl)) rfl <| .nil ?_)
      refine EndT.thenN ?_
      refine CodeT.seq ?_
      refine CodeT.cond (.t rfl) (fun c1 => ?_) (fun c1 => ?_)
      ·
        obtain ⟨x, hx⟩ := getElem?_lt (xs := a) (k := k) (by omega)
        obtain ⟨y, hy⟩ := getElem?_lt (xs := b) (k := k) (by omega)
        refine CodeT.skip (EndT.thenN ?_)
        refine CodeT.seq ?_
        refine CodeT.block ?_
        refine CodeT.seq ?_
        refine CodeT.region (.p (opMove (.t rfl)) rfl <| .p (opIndexAddr Try.underlying28 Try.cz86 rfl (.t rfl) (.t rfl) rfl (by assumption)) rfl <| .p (opLoadA Try.ag86 Try.cz86 rfl (.t rfl) rfl) rfl <| .n (opAlloc Try.zb86) rfl <| fun b8 _ => .p (opAssign (.t rfl)) rfl <| .s (opStoreOA (i := 0) Try.cz86 rfl (.t rfl) (.t rfl) rfl rfl rfl) <| .nil ?_)
        refine EndT.thenN ?_
        refine CodeT.share (t := 8) (i := 0) rfl rfl ?_
        refine CodeT.seq ?_
        refine CodeT.region (.p (opMove (.t rfl)) rfl <| .p (opMove (.t rfl)) rfl <| .p (opIndexAddr Try.underlying28 Try.cz86 rfl (.t rfl) (.t rfl) rfl (by assumption)) rfl <| .p (opLoadA Try.ag86 Try.cz86 rfl (.t rfl) rfl) rfl <| .n (opAlloc Try.zb86) rfl <| fun b9 _ => .s (opStoreOA (i := 0) Try.cz86 rfl (.t rfl) (.t rfl) rfl rfl rfl) <| .nil ?_)
        refine EndT.thenN ?_
        refine CodeT.share (t := 9) (i := 0) rfl rfl ?_
        refine CodeT.seq ?_
        refine CodeT.region (.p (opMove (.t rfl)) rfl <| .p (opLoadA Try.ag86 Try.cz86 rfl (.t rfl) rfl) rfl <| .p (opLoadA Try.ag86 Try.cz86 rfl (.t rfl) rfl) rfl <| .p (opCallV (x, y) (.t rfl) trivial (.cons (.t rfl) (.cons (.t rfl) .nil))) rfl <| .p (opNot (.t rfl)) rfl <| .nil ?_)
        refine EndT.thenN ?_
        refine CodeT.cond (.t rfl) (fun c2 => ?_) (fun c2 => ?_)
        ·
          refine CodeT.seq ?_
          refine CodeT.region (.p (opAssign .cf) rfl <| .nil ?_)
          refine EndT.thenN ?_
          refine CodeT.ret (EndT.blkR (EndT.thenR (EndT.thenR (EndT.blkR (EndT.thenR (Post.retP rfl rfl ?_))))))
          exact VLe.prop (ne_at hx hy c2).symm
        ·
          refine CodeT.skip (EndT.blkN (EndT.thenN ?_))
          refine CodeT.region (.p (opAddF (.t rfl) (.c _) (fits_i64 (by omega) (by omega))) rfl <| .p (opMove (.t rfl)) rfl <| .nil ?_)
          refine EndT.round (k + 1) ⟨by omega, heq.succ hx hy (Classical.not_not.1 c2)⟩ (by omega) rfl ?_
          exact (.get rfl (VLe.int (by omega)) (.keep 21 rfl rfl))
      ·
        refine CodeT.exit (EndT.thenX (EndT.thenX (EndT.blkX (EndT.thenN ?_))))
        refine CodeT.seq ?_
        refine CodeT.region (.p (opAssign .ct) rfl <| .nil ?_)
        refine EndT.thenN ?_
        refine CodeT.ret (Post.retP rfl rfl ?_)
        exact VLe.prop (by simp [heq.all (by omega) (by omega)])

theorem eqfData_spec {a b : List DataD} : FnP Try.prog 47 [sliceV 3 encData a, sliceV 3 encData b, funV Try.prog (fun _ : DataD × DataD => True) (fun p => [aggV (encData p.1), aggV (encData p.2)]) (fun p => propV (p.1 = p.2))] (propV (a = b)) := by
  refine FnE.intro 32 Try.func47 rfl rfl rfl fun w0 S0 M => ?_
  refine CodeT.fact (t := 0) rfl (fun S w v h => sliceV_len h) fun hlen => ?_
  refine CodeT.seq ?_
  refine CodeT.region (.p (opAssign .cf) rfl <| .nil ?_)
  refine EndT.thenN ?_
  refine CodeT.seq ?_
  refine CodeT.seq ?_
  refine CodeT.region (.p (opMove (.t rfl)) rfl <| .p (opLen rfl Try.underlying29 (.t rfl)) rfl <| .p (opMove (.t rfl)) rfl <| .p (opLen rfl Try.underlying29 (.t rfl)) rfl <| .p (opNeq (.t rfl) (.t rfl)) rfl <| .nil ?_)
  refine EndT.thenN ?_
  refine CodeT.cond (.t rfl) (fun c0 => ?_) (fun c0 => ?_)
  ·
    refine CodeT.seq ?_
    refine CodeT.region (.p (opAssign .cf) rfl <| .nil ?_)
    refine EndT.thenN ?_
    refine CodeT.ret (EndT.thenR (Post.retP rfl rfl ?_))
    exact VLe.prop (ne_len c0).symm
  ·
    refine CodeT.skip (EndT.thenN ?_)
    refine CodeT.seq ?_
    refine CodeT.seq ?_
    refine CodeT.region (.p (opMove (.t rfl)) rfl <| .p (opLen rfl Try.underlying29 (.t rfl)) rfl <| .p (opMove (.c _)) rfl <| .nil ?_)
    refine EndT.thenN ?_
    refine CodeT.block ?_
    refine CodeT.loopO (σ := Nat) (fun _ => []) (fun k => [(17, intV .i64 (k : Int))]) (fun k => k ≤ a.length ∧ EqB a b k) (fun k => a.length - k) 0 ⟨by omega, EqB.zero _ _⟩ rfl ?_ ?_
    · exact (.get rfl (VLe.refl _) (.refl _ _))
    · rintro k ⟨hk, heq⟩
      refine CodeT.seq ?_
      refine CodeT.region (.p (opLss (.t rfl) (.t rfl)) rfl <| .nil ?_)
      refine EndT.thenN ?_
      refine CodeT.seq ?_
      refine CodeT.cond (.t rfl) (fun c1 => ?_) (fun c1 => ?_)
      ·
        obtain ⟨x, hx⟩ := getElem?_lt (xs := a) (k := k) (by omega)
        obtain ⟨y, hy⟩ := getElem?_lt (xs := b) (k := k) (by omega)
        refine CodeT.skip (EndT.thenN ?_)
        refine CodeT.seq ?_
        refine CodeT.block ?_
        refine CodeT.seq ?_
        refine CodeT.region (.p (opMove (.t rfl)) rfl <| .p (opIndexAddr Try.underlying29 Try.cz88 rfl (.t rfl) (.t rfl) rfl (by assumption)) rfl <| .p (opLoadA Try.ag88 Try.cz88 rfl (.t rfl) rfl) rfl <| .n (opAlloc Try.zb88) rfl <| fun b8 _ => .p (opAssign (.t rfl)) rfl <| .s (opStoreOA (i := 0) Try.cz88 rfl (.t rfl) (.t rfl) rfl rfl rfl) <| .nil ?_)
        refine EndT.thenN ?_
        refine CodeT.share (t := 8) (i := 0) rfl rfl ?_
        refine CodeT.seq ?_
        refine CodeT.region (.p (opMove (.t rfl)) rfl <| .p (opMove (.t rfl)) rfl <| .p (opIndexAddr Try.underlying29 Try.cz88 rfl (.t rfl) (.t rfl) rfl (by assumption)) rfl <| .p (opLoadA Try.ag88 Try.cz88 rfl (.t rfl) rfl) rfl <| .n (opAlloc Try.zb88) rfl <| fun b9 _ => .s (opStoreOA (i := 0) Try.cz88 rfl (.t rfl) (.t rfl) rfl rfl rfl) <| .nil ?_)
        refine EndT.thenN ?_
        refine CodeT.share (t := 9) (i := 0) rfl rfl ?_
        refine CodeT.seq ?_
        refine CodeT.region (.p (opMove (.t rfl)) rfl <| .p (opLoadA Try.ag88 Try.cz88 rfl (.t rfl) rfl) rfl <| .p (opLoadA Try.ag88 Try.cz88 rfl (.t rfl) rfl) rfl <| .p (opCallV (x, y) (.t rfl) trivial (.cons (.t rfl) (.cons (.t rfl) .nil))) rfl <| .p (opNot (.t rfl)) rfl <| .nil ?_)
        refine EndT.thenN ?_
        refine CodeT.cond (.t rfl) (fun c2 => ?_) (fun c2 => ?_)
        ·
          refine CodeT.seq ?_
          refine CodeT.region (.p (opAssign .cf) rfl <| .nil ?_)
          refine EndT.thenN ?_
          refine CodeT.ret (EndT.blkR (EndT.thenR (EndT.thenR (EndT.blkR (EndT.thenR (Post.retP rfl rfl ?_))))))
          exact VLe.prop (ne_at hx hy c2).symm
        ·
          refine CodeT.skip (EndT.blkN (EndT.thenN ?_))
          refine CodeT.region (.p (opAddF (.t rfl) (.c _) (fits_i64 (by omega) (by omega))) rfl <| .p (opMove (.t rfl)) rfl <| .nil ?_)
          refine EndT.round (k + 1) ⟨by omega, heq.succ hx hy (Classical.not_not.1 c2)⟩ (by omega) rfl ?_
          exact (.get rfl (VLe.int (by omega)) (.keep 21 rfl rfl))
      ·
        refine CodeT.exit (EndT.thenX (EndT.thenX (EndT.blkX (EndT.thenN ?_))))
        refine CodeT.seq ?_
        refine CodeT.region (.p (opAssign .ct) rfl <| .nil ?_)
        refine EndT.thenN ?_
        refine CodeT.ret (Post.retP rfl rfl ?_)
        exact VLe.prop (by simp [heq.all (by omega) (by omega)])

theorem eqfSig_spec {a b : List SigD} : FnP Try.prog 50 [sliceV 2 encSig a, sliceV 2 encSig b, funV Try.prog (fun _ : SigD × SigD => True) (fun p => [aggV (encSig p.1), aggV (encSig p.2)]) (fun p => propV (p.1 = p.2))] (propV (a = b)) := by
  refine FnE.intro 32 Try.func50 rfl rfl rfl fun w0 S0 M => ?_
  refine CodeT.fact (t := 0) rfl (fun S w v h => sliceV_len h) fun hlen => ?_
  refine CodeT.seq ?_
  refine CodeT.region (.p (opAssign .cf) rfl <| .nil ?_)
  refine EndT.thenN ?_
  refine CodeT.seq ?_
  refine CodeT.seq ?_
  refine CodeT.region (.p (opMove (.t rfl)) rfl <| .p (opLen rfl Try.underlying74 (.t rfl)) rfl <| .p (opMove (.t rfl)) rfl <| .p (opLen rfl Try.underlying74 (.t rfl)) rfl <| .p (opNeq (.t rfl) (.t rfl)) rfl <| .nil ?_)
  refine EndT.thenN ?_
  refine CodeT.cond (.t rfl) (fun c0 => ?_) (fun c0 => ?_)
  ·
    refine CodeT.seq ?_
    refine CodeT.region (.p (opAssign .cf) rfl <| .nil ?_)
    refine EndT.thenN ?_
    refine CodeT.ret (EndT.thenR (Post.retP rfl rfl ?_))
    exact VLe.prop (ne_len c0).symm
  ·
    refine CodeT.skip (EndT.thenN ?_)
    refine CodeT.seq ?_
    refine CodeT.seq ?_
    refine CodeT.region (.p (opMove (.t rfl)) rfl <| .p (opLen rfl Try.underlying74 (.t rfl)) rfl <| .p (opMove (.c _)) rfl <| .nil ?_)
    refine EndT.thenN ?_
    refine CodeT.block ?_
    refine CodeT.loopO (σ := Nat) (fun _ => []) (fun k => [(17, intV .i64 (k : Int))]) (fun k => k ≤ a.length ∧ EqB a b k) (fun k => a.length - k) 0 ⟨by omega, EqB.zero _ _⟩ rfl ?_ ?_
    · exact (.get rfl (VLe.refl _) (.refl _ _))
    · rintro k ⟨hk, heq⟩
      refine CodeT.seq ?_
      refine CodeT.region (.p (opLss (.t rfl) (.t rfl)) rfl <| .nil ?_)
      refine EndT.thenN ?_
      refine CodeT.seq ?_
      refine CodeT.cond (.t rfl) (fun c1 => ?_) (fun c1 => ?_)
      ·
        obtain ⟨x, hx⟩ := getElem?_lt (xs := a) (k := k) (by omega)
        obtain ⟨y, hy⟩ := getElem?_lt (xs := b) (k := k) (by omega)
        refine CodeT.skip (EndT.thenN ?_)
        refine CodeT.seq ?_
        refine CodeT.block ?_
        refine CodeT.seq ?_
        refine CodeT.region (.p (opMove (.t rfl)) rfl <| .p (opIndexAddr Try.underlying74 Try.cz46 rfl (.t rfl) (.t rfl) rfl (by assumption)) rfl <| .p (opLoadA Try.ag46 Try.cz46 rfl (.t rfl) rfl) rfl <| .n (opAlloc Try.zb46) rfl <| fun b8 _ => .p (opAssign (.t rfl)) rfl <| .s (opStoreOA (i := 0) Try.cz46 rfl (.t rfl) (.t rfl) rfl rfl rfl) <| .nil ?_)
        refine EndT.thenN ?_
        refine CodeT.share (t := 8) (i := 0) rfl rfl ?_
        refine CodeT.seq ?_
        refine CodeT.region (.p (opMove (.t rfl)) rfl <| .p (opMove (.t rfl)) rfl <| .p (opIndexAddr Try.underlying74 Try.cz46 rfl (.t rfl) (.t rfl) rfl (by assumption)) rfl <| .p (opLoadA Try.ag46 Try.cz46 rfl (.t rfl) rfl) rfl <| .n (opAlloc Try.zb46) rfl <| fun b9 _ => .s (opStoreOA (i := 0) Try.cz46 rfl (.t rfl) (.t rfl) rfl rfl rfl) <| .nil ?_)
        refine EndT.thenN ?_
        refine CodeT.share (t := 9) (i := 0) rfl rfl ?_
        refine CodeT.seq ?_
        refine CodeT.region (.p (opMove (.t rfl)) rfl <| .p (opLoadA Try.ag46 Try.cz46 rfl (.t rfl) rfl) rfl <| .p (opLoadA Try.ag46 Try.cz46 rfl (.t rfl) rfl) rfl <| .p (opCallV (x, y) (.t rfl) trivial (.cons (.t rfl) (.cons (.t rfl) .nil))) rfl <| .p (opNot (.t rfl)) rfl <| .nil ?_)
        refine EndT.thenN ?_
        refine CodeT.cond (.t rfl) (fun c2 => ?_) (fun c2 => ?_)
        ·
          refine CodeT.seq ?_
          refine CodeT.region (.p (opAssign .cf) rfl <| .nil ?_)
          refine EndT.thenN ?_
          refine CodeT.ret (EndT.blkR (EndT.thenR (EndT.thenR (EndT.blkR (EndT.thenR (Post.retP rfl rfl ?_))))))
          exact VLe.prop (ne_at hx hy c2).symm
        ·
          refine CodeT.skip (EndT.blkN (EndT.thenN ?_))
          refine CodeT.region (.p (opAddF (.t rfl) (.c _) (fits_i64 (by omega) (by omega))) rfl <| .p (opMove (.t rfl)) rfl <| .nil ?_)
          refine EndT.round (k + 1) ⟨by omega, heq.succ hx hy (Classical.not_not.1 c2)⟩ (by omega) rfl ?_
          exact (.get rfl (VLe.int (by omega)) (.keep 21 rfl rfl))
      ·
        refine CodeT.exit (EndT.thenX (EndT.thenX (EndT.blkX (EndT.thenN ?_))))
        refine CodeT.seq ?_
        refine CodeT.region (.p (opAssign .ct) rfl <| .nil ?_)
        refine EndT.thenN ?_
        refine CodeT.ret (Post.retP rfl rfl ?_)
        exact VLe.prop (by simp [heq.all (by omega) (by omega)])

theorem msame_spec {a b : ModD} : FnP Try.prog 22 [ptrV (encMod a), ptrV (encMod b)] (propV (a = b)) := by
  refine FnE.intro 128 Try.func22 rfl rfl rfl fun w0 S0 M => ?_
  refine CodeT.seq ?_
  refine CodeT.region (.p (opAssign .cf) rfl <| .nil ?_)
  refine EndT.thenN ?_
  refine CodeT.seq ?_
  refine CodeT.seq ?_
  refine CodeT.region (.p (opMove (.t rfl)) rfl <| .p (opEqlNil Try.underlying38 (.t rfl)) rfl <| .p (opMove (.t rfl)) rfl <| .g (OpG.gF rfl rfl rfl rfl (fun hg => opMove (.t rfl))) rfl rfl <| .g (OpG.gF rfl rfl rfl rfl (fun hg => opEqlNil Try.underlying38 (.when (.t rfl) hg))) rfl rfl <| .p (opOr (.t rfl) (.t rfl)) rfl <| .nil ?_)
  refine EndT.thenN ?_
  refine CodeT.cond (.t rfl) (fun c0 => ?_) (fun c0 => ?_)
  ·
    exact absurd c0 (by simp)
  ·
    refine CodeT.skip (EndT.thenN ?_)
    refine CodeT.seq ?_
    refine CodeT.draw 8 2 Try.mixed (by kernel_rfl) (.p (opMove (.t rfl)) <| .p (opNilChk (.t rfl)) <| .p (opField Try.fd77_2 (.t rfl)) <| .p (opLoad Try.ag75 (.t rfl)) <| .p (opMove (.t rfl)) <| .p (opNilChk (.t rfl)) <| .p (opField Try.fd77_2 (.t rfl)) <| .p (opLoad Try.ag75 (.t rfl)) <| .nil) (.p (opCall (eqfFunc_spec) Try.cb42 (.cons (.t rfl) (.cons (.t rfl) (.cons (.le (.f _) (funV_of (A := FuncD × FuncD) Try.cb43 (fun p _ => msame1_spec))) .nil)))) rfl <| .p (opAssign (.t rfl)) rfl <| .nil ?_)
    refine EndT.thenN ?_
    refine CodeT.seq ?_
    refine CodeT.draw 8 2 Try.mixed (by kernel_rfl) (.p (opMove (.t rfl)) <| .p (opNilChk (.t rfl)) <| .p (opField Try.fd77_8 (.t rfl)) <| .p (opLoad Try.ag28 (.t rfl)) <| .p (opMove (.t rfl)) <| .p (opNilChk (.t rfl)) <| .p (opField Try.fd77_8 (.t rfl)) <| .p (opLoad Try.ag28 (.t rfl)) <| .nil) (.p (opCall (eqfElem_spec) Try.cb44 (.cons (.t rfl) (.cons (.t rfl) (.cons (.le (.f _) (funV_of (A := ElemD × ElemD) Try.cb45 (fun p _ => msame2_spec))) .nil)))) rfl <| .p (opAssign (.t rfl)) rfl <| .nil ?_)
    refine EndT.thenN ?_
    refine CodeT.seq ?_
    refine CodeT.draw 8 2 Try.mixed (by kernel_rfl) (.p (opMove (.t rfl)) <| .p (opNilChk (.t rfl)) <| .p (opField Try.fd77_9 (.t rfl)) <| .p (opLoad Try.ag29 (.t rfl)) <| .p (opMove (.t rfl)) <| .p (opNilChk (.t rfl)) <| .p (opField Try.fd77_9 (.t rfl)) <| .p (opLoad Try.ag29 (.t rfl)) <| .nil) (.p (opCall (eqfData_spec) Try.cb47 (.cons (.t rfl) (.cons (.t rfl) (.cons (.le (.f _) (funV_of (A := DataD × DataD) Try.cb48 (fun p _ => msame3_spec))) .nil)))) rfl <| .p (opAssign (.t rfl)) rfl <| .nil ?_)
    refine EndT.thenN ?_
    refine CodeT.seq ?_
    refine CodeT.draw 82 3 Try.mixed (by kernel_rfl) (.p (opMove (.t rfl)) <| .p (opMove (.t rfl)) <| .cons (OpG.gT rfl rfl rfl rfl (fun hg => opMove (.t rfl))) <| .p (opAnd (.t rfl) (.t rfl)) <| .p (opMove (.t rfl)) <| .cons (OpG.gT rfl rfl rfl rfl (fun hg => opMove (.t rfl))) <| .p (opAnd (.t rfl) (.t rfl)) <| .p (opMove (.t rfl)) <| .cons (OpG.gT rfl rfl rfl rfl (fun hg => opMove (.t rfl))) <| .cons (OpG.gT rfl rfl rfl rfl (fun hg => opNilChk (.when (.t rfl) hg))) <| .cons (OpG.gT rfl rfl rfl rfl (fun hg => opField Try.fd77_0 (.when (.t rfl) hg))) <| .cons (OpG.gT rfl rfl rfl rfl (fun hg => opLoad Try.ag74 (.when (.t rfl) hg))) <| .cons (OpG.gT rfl rfl rfl rfl (fun hg => opMove (.t rfl))) <| .cons (OpG.gT rfl rfl rfl rfl (fun hg => opNilChk (.when (.t rfl) hg))) <| .cons (OpG.gT rfl rfl rfl rfl (fun hg => opField Try.fd77_0 (.when (.t rfl) hg))) <| .cons (OpG.gT rfl rfl rfl rfl (fun hg => opLoad Try.ag74 (.when (.t rfl) hg))) <| .cons (OpG.gT rfl rfl rfl rfl (fun hg => opCall (eqfSig_spec) Try.cb50 (.cons (.when (.t rfl) hg) (.cons (.when (.t rfl) hg) (.cons (.le (.f _) (funV_of (A := SigD × SigD) Try.cb18 (fun p _ => tsame_spec))) .nil))))) <| .p (opAnd (.t rfl) (.t rfl)) <| .p (opMove (.t rfl)) <| .cons (OpG.gT rfl rfl rfl rfl (fun hg => opMove (.t rfl))) <| .cons (OpG.gT rfl rfl rfl rfl (fun hg => opNilChk (.when (.t rfl) hg))) <| .cons (OpG.gT rfl rfl rfl rfl (fun hg => opField Try.fd77_1 (.when (.t rfl) hg))) <| .cons (OpG.gT rfl rfl rfl rfl (fun hg => opLoad Try.ag23 (.when (.t rfl) hg))) <| .cons (OpG.gT rfl rfl rfl rfl (fun hg => opMove (.t rfl))) <| .cons (OpG.gT rfl rfl rfl rfl (fun hg => opNilChk (.when (.t rfl) hg))) <| .cons (OpG.gT rfl rfl rfl rfl (fun hg => opField Try.fd77_1 (.when (.t rfl) hg))) <| .cons (OpG.gT rfl rfl rfl rfl (fun hg => opLoad Try.ag23 (.when (.t rfl) hg))) <| .cons (OpG.gT rfl rfl rfl rfl (fun hg => opCall (eqImport_spec) Try.cb51 (.cons (.when (.t rfl) hg) (.cons (.when (.t rfl) hg) .nil)))) <| .p (opAnd (.t rfl) (.t rfl)) <| .p (opMove (.t rfl)) <| .cons (OpG.gT rfl rfl rfl rfl (fun hg => opMove (.t rfl))) <| .cons (OpG.gT rfl rfl rfl rfl (fun hg => opNilChk (.when (.t rfl) hg))) <| .cons (OpG.gT rfl rfl rfl rfl (fun hg => opField Try.fd77_3 (.when (.t rfl) hg))) <| .cons (OpG.gT rfl rfl rfl rfl (fun hg => opLoad Try.ag3 (.when (.t rfl) hg))) <| .cons (OpG.gT rfl rfl rfl rfl (fun hg => opMove (.t rfl))) <| .cons (OpG.gT rfl rfl rfl rfl (fun hg => opNilChk (.when (.t rfl) hg))) <| .cons (OpG.gT rfl rfl rfl rfl (fun hg => opField Try.fd77_3 (.when (.t rfl) hg))) <| .cons (OpG.gT rfl rfl rfl rfl (fun hg => opLoad Try.ag3 (.when (.t rfl) hg))) <| .cons (OpG.gT rfl rfl rfl rfl (fun hg => opEql (.when (.t rfl) hg) (.when (.t rfl) hg))) <| .p (opAnd (.t rfl) (.t rfl)) <| .p (opMove (.t rfl)) <| .cons (OpG.gT rfl rfl rfl rfl (fun hg => opMove (.t rfl))) <| .cons (OpG.gT rfl rfl rfl rfl (fun hg => opNilChk (.when (.t rfl) hg))) <| .cons (OpG.gT rfl rfl rfl rfl (fun hg => opField Try.fd77_4 (.when (.t rfl) hg))) <| .cons (OpG.gT rfl rfl rfl rfl (fun hg => opLoad Try.ag25 (.when (.t rfl) hg))) <| .cons (OpG.gT rfl rfl rfl rfl (fun hg => opMove (.t rfl))) <| .cons (OpG.gT rfl rfl rfl rfl (fun hg => opNilChk (.when (.t rfl) hg))) <| .cons (OpG.gT rfl rfl rfl rfl (fun hg => opField Try.fd77_4 (.when (.t rfl) hg))) <| .cons (OpG.gT rfl rfl rfl rfl (fun hg => opLoad Try.ag25 (.when (.t rfl) hg))) <| .cons (OpG.gT rfl rfl rfl rfl (fun hg => opCall (eqLimits_spec) Try.cb52 (.cons (.when (.t rfl) hg) (.cons (.when (.t rfl) hg) .nil)))) <| .p (opAnd (.t rfl) (.t rfl)) <| .p (opMove (.t rfl)) <| .cons (OpG.gT rfl rfl rfl rfl (fun hg => opMove (.t rfl))) <| .cons (OpG.gT rfl rfl rfl rfl (fun hg => opNilChk (.when (.t rfl) hg))) <| .cons (OpG.gT rfl rfl rfl rfl (fun hg => opField Try.fd77_5 (.when (.t rfl) hg))) <| .cons (OpG.gT rfl rfl rfl rfl (fun hg => opLoad Try.ag26 (.when (.t rfl) hg))) <| .cons (OpG.gT rfl rfl rfl rfl (fun hg => opMove (.t rfl))) <| .cons (OpG.gT rfl rfl rfl rfl (fun hg => opNilChk (.when (.t rfl) hg))) <| .cons (OpG.gT rfl rfl rfl rfl (fun hg => opField Try.fd77_5 (.when (.t rfl) hg))) <| .cons (OpG.gT rfl rfl rfl rfl (fun hg => opLoad Try.ag26 (.when (.t rfl) hg))) <| .cons (OpG.gT rfl rfl rfl rfl (fun hg => opCall (eqGlobal_spec) Try.cb53 (.cons (.when (.t rfl) hg) (.cons (.when (.t rfl) hg) .nil)))) <| .p (opAnd (.t rfl) (.t rfl)) <| .p (opMove (.t rfl)) <| .cons (OpG.gT rfl rfl rfl rfl (fun hg => opMove (.t rfl))) <| .cons (OpG.gT rfl rfl rfl rfl (fun hg => opNilChk (.when (.t rfl) hg))) <| .cons (OpG.gT rfl rfl rfl rfl (fun hg => opField Try.fd77_6 (.when (.t rfl) hg))) <| .cons (OpG.gT rfl rfl rfl rfl (fun hg => opLoad Try.ag27 (.when (.t rfl) hg))) <| .cons (OpG.gT rfl rfl rfl rfl (fun hg => opMove (.t rfl))) <| .cons (OpG.gT rfl rfl rfl rfl (fun hg => opNilChk (.when (.t rfl) hg))) <| .cons (OpG.gT rfl rfl rfl rfl (fun hg => opField Try.fd77_6 (.when (.t rfl) hg))) <| .cons (OpG.gT rfl rfl rfl rfl (fun hg => opLoad Try.ag27 (.when (.t rfl) hg))) <| .cons (OpG.gT rfl rfl rfl rfl (fun hg => opCall (eqExport_spec) Try.cb54 (.cons (.when (.t rfl) hg) (.cons (.when (.t rfl) hg) .nil)))) <| .p (opAnd (.t rfl) (.t rfl)) <| .p (opMove (.t rfl)) <| .cons (OpG.gT rfl rfl rfl rfl (fun hg => opMove (.t rfl))) <| .cons (OpG.gT rfl rfl rfl rfl (fun hg => opNilChk (.when (.t rfl) hg))) <| .cons (OpG.gT rfl rfl rfl rfl (fun hg => opField Try.fd77_7 (.when (.t rfl) hg))) <| .cons (OpG.gT rfl rfl rfl rfl (fun hg => opLoad Try.ag3 (.when (.t rfl) hg))) <| .cons (OpG.gT rfl rfl rfl rfl (fun hg => opMove (.t rfl))) <| .cons (OpG.gT rfl rfl rfl rfl (fun hg => opNilChk (.when (.t rfl) hg))) <| .cons (OpG.gT rfl rfl rfl rfl (fun hg => opField Try.fd77_7 (.when (.t rfl) hg))) <| .cons (OpG.gT rfl rfl rfl rfl (fun hg => opLoad Try.ag3 (.when (.t rfl) hg))) <| .nil) (.g (OpG.gT rfl rfl rfl rfl (fun hg => opEql (.when (.t rfl) hg) (.when (.t rfl) hg))) rfl rfl <| .p (opAnd (.t rfl) (.t rfl)) rfl <| .p (opAssign (.t rfl)) rfl <| .nil ?_)
    refine EndT.thenN ?_
    refine CodeT.ret (Post.retP rfl rfl ?_)
    exact VLe.prop mod_eq

theorem msameNN_spec  : FnP Try.prog 22 [nilV, nilV] (propV True) := by
  refine FnE.intro 128 Try.func22 rfl rfl rfl fun w0 S0 M => ?_
  refine CodeT.seq ?_
  refine CodeT.region (.p (opAssign .cf) rfl <| .nil ?_)
  refine EndT.thenN ?_
  refine CodeT.seq ?_
  refine CodeT.seq ?_
  refine CodeT.region (.p (opMove (.t rfl)) rfl <| .p (opNilEqlNil Try.underlying38 (.t rfl)) rfl <| .p (opMove (.t rfl)) rfl <| .g (OpG.gF rfl rfl rfl rfl (fun hg => opMove (.t rfl))) rfl rfl <| .g (OpG.gF rfl rfl rfl rfl (fun hg => opNilEqlNil Try.underlying38 (.when (.t rfl) hg))) rfl rfl <| .p (opOr (.t rfl) (.t rfl)) rfl <| .nil ?_)
  refine EndT.thenN ?_
  refine CodeT.cond (.t rfl) (fun c0 => ?_) (fun c0 => ?_)
  ·
    refine CodeT.seq ?_
    refine CodeT.region (.p (opMove (.t rfl)) rfl <| .p (opMove (.t rfl)) rfl <| .p (opEqlNN Try.underlying38 (.t rfl) (.t rfl)) rfl <| .p (opAssign (.t rfl)) rfl <| .nil ?_)
    refine EndT.thenN ?_
    refine CodeT.ret (EndT.thenR (Post.retP rfl rfl ?_))
    first | exact VLe.refl _ | exact VLe.int (by omega) | exact VLe.prop (by omega) | exact VLe.prop (by simp_all) | exact VLe.prop (by simp; omega)
  ·
    exact (c0 (.inl trivial)).elim

theorem msameNP_spec {b : ModD} : FnP Try.prog 22 [nilV, ptrV (encMod b)] (propV False) := by
  refine FnE.intro 128 Try.func22 rfl rfl rfl fun w0 S0 M => ?_
  refine CodeT.seq ?_
  refine CodeT.region (.p (opAssign .cf) rfl <| .nil ?_)
  refine EndT.thenN ?_
  refine CodeT.seq ?_
  refine CodeT.seq ?_
  refine CodeT.region (.p (opMove (.t rfl)) rfl <| .p (opNilEqlNil Try.underlying38 (.t rfl)) rfl <| .p (opMove (.t rfl)) rfl <| .g (OpG.gF rfl rfl rfl rfl (fun hg => opMove (.t rfl))) rfl rfl <| .g (OpG.gF rfl rfl rfl rfl (fun hg => opEqlNil Try.underlying38 (.when (.t rfl) hg))) rfl rfl <| .p (opOr (.t rfl) (.t rfl)) rfl <| .nil ?_)
  refine EndT.thenN ?_
  refine CodeT.cond (.t rfl) (fun c0 => ?_) (fun c0 => ?_)
  ·
    refine CodeT.seq ?_
    refine CodeT.region (.p (opMove (.t rfl)) rfl <| .p (opMove (.t rfl)) rfl <| .p (opEqlNP Try.underlying38 (.t rfl) (.t rfl)) rfl <| .p (opAssign (.t rfl)) rfl <| .nil ?_)
    refine EndT.thenN ?_
    refine CodeT.ret (EndT.thenR (Post.retP rfl rfl ?_))
    first | exact VLe.refl _ | exact VLe.int (by omega) | exact VLe.prop (by omega) | exact VLe.prop (by simp_all) | exact VLe.prop (by simp; omega)
  ·
    exact (c0 (.inl trivial)).elim

theorem msigNil_spec {f : Int} : FnP Try.prog 15 [nilV, intV .i64 f] (tupV [aggV (encSig ⟨[], []⟩), propV False]) := by
  refine FnE.intro 37 Try.func15 rfl rfl rfl fun w0 S0 M => ?_
  refine CodeT.seq ?_
  refine CodeT.region (.n (opAlloc Try.zb46) rfl <| fun b4 _ => .p (opAssign .cf) rfl <| .nil ?_)
  refine EndT.thenN ?_
  refine CodeT.seq ?_
  refine CodeT.seq ?_
  refine CodeT.region (.p (opMove (.t rfl)) rfl <| .p (opNilEqlNil Try.underlying38 (.t rfl)) rfl <| .nil ?_)
  refine EndT.thenN ?_
  refine CodeT.cond (.t rfl) (fun c0 => ?_) (fun c0 => ?_)
  ·
    refine CodeT.seq ?_
    refine CodeT.region (.p (opBuild Try.pl46 Try.zb46 .nil rfl) rfl <| .s (opStoreOA (i := 0) Try.cz46 rfl (.t rfl) (.t rfl) rfl rfl rfl) <| .p (opAssign .cf) rfl <| .nil ?_)
    refine EndT.thenN ?_
    refine CodeT.ret (EndT.thenR (Post.retR rfl rfl () trivial (fun _ _ _ _ => trivial) rfl (.cons (.ra (i := 0) Try.ag46 Try.cz46 rfl rfl rfl rfl) ?_ (.cons (.rt rfl) ?_ .nil))))
    · exact VLe.agg2 (sliceV_nil _ _) (sliceV_nil _ _)
    · exact VLe.refl _
  ·
    exact (c0 trivial).elim

theorem countNil_spec  : FnP Try.prog 12 [nilV] (intV .i64 0) := by
  refine FnE.intro 16 Try.func12 rfl rfl rfl fun w0 S0 M => ?_
  refine CodeT.seq ?_
  refine CodeT.region (.p (opAssign (.c _)) rfl <| .nil ?_)
  refine EndT.thenN ?_
  refine CodeT.seq ?_
  refine CodeT.seq ?_
  refine CodeT.region (.p (opMove (.t rfl)) rfl <| .p (opNilEqlNil Try.underlying38 (.t rfl)) rfl <| .nil ?_)
  refine EndT.thenN ?_
  refine CodeT.cond (.t rfl) (fun c0 => ?_) (fun c0 => ?_)
  ·
    refine CodeT.seq ?_
    refine CodeT.region (.p (opAssign (.c _)) rfl <| .nil ?_)
    refine EndT.thenN ?_
    refine CodeT.ret (EndT.thenR (Post.retP rfl rfl ?_))
    first | exact VLe.refl _ | exact VLe.int (by omega) | exact VLe.prop (by omega) | exact VLe.prop (by simp_all) | exact VLe.prop (by simp; omega)
  ·
    exact (c0 trivial).elim

theorem find_spec {m : ModD} {l : List UInt8} : FnP Try.prog 20 [ptrV (encMod m), strV l] (tupV [aggV (encExport ((findO m l).getD ⟨[], 0, 0⟩)), propV (findO m l).isSome]) := by
  refine FnE.intro 26 Try.func20 rfl rfl rfl fun w0 S0 M => ?_
  refine CodeT.fact (t := 0) rfl (fun S w v h => modLens h) fun hl => ?_
  have hl1 := hl.sigs; have hl2 := hl.imports; have hl3 := hl.funcs; have hl4 := hl.mems; have hl5 := hl.globals; have hl6 := hl.exports; have hl7 := hl.elems; have hl8 := hl.datas
  refine CodeT.seq ?_
  refine CodeT.region (.n (opAlloc Try.zb57) rfl <| fun b4 _ => .p (opAssign .cf) rfl <| .nil ?_)
  refine EndT.thenN ?_
  refine CodeT.seq ?_
  refine CodeT.seq ?_
  refine CodeT.region (.p (opMove (.t rfl)) rfl <| .p (opNeqNil Try.underlying38 (.t rfl)) rfl <| .nil ?_)
  refine EndT.thenN ?_
  refine CodeT.cond (.t rfl) (fun c0 => ?_) (fun c0 => ?_)
  ·
    refine CodeT.seq ?_
    refine CodeT.region (.p (opMove (.t rfl)) rfl <| .p (opNilChk (.t rfl)) rfl <| .p (opField Try.fd77_6 (.t rfl)) rfl <| .p (opLoad Try.ag27 (.t rfl)) rfl <| .p (opLen rfl Try.underlying27 (.t rfl)) rfl <| .p (opMove (.c _)) rfl <| .nil ?_)
    refine EndT.thenN ?_
    refine CodeT.block ?_
    refine CodeT.loopO (σ := Nat) (fun _ => _) (fun k => [(15, intV .i64 (k : Int))]) (fun k => k ≤ m.Exports.length ∧ NotB (fun x : ExportD => x.Name = l) m.Exports k) (fun k => m.Exports.length - k) 0 ⟨by omega, NotB.zero _ _⟩ rfl ?_ ?_
    · exact (.get rfl (VLe.refl _) (.refl _ _))
    · rintro k ⟨hk, hnot⟩
      refine CodeT.seq ?_
      refine CodeT.region (.p (opLss (.t rfl) (.t rfl)) rfl <| .nil ?_)
      refine EndT.thenN ?_
      refine CodeT.seq ?_
      refine CodeT.cond (.t rfl) (fun c1 => ?_) (fun c1 => ?_)
      ·
        obtain ⟨x, hx⟩ := getElem?_lt (xs := m.Exports) (k := k) (by omega)
        refine CodeT.skip (EndT.thenN ?_)
        refine CodeT.seq ?_
        refine CodeT.block ?_
        refine CodeT.seq ?_
        refine CodeT.region (.p (opIndexAddr Try.underlying27 Try.cz57 rfl (.t rfl) (.t rfl) rfl (by assumption)) rfl <| .p (opLoadA Try.ag57 Try.cz57 rfl (.t rfl) rfl) rfl <| .n (opAlloc Try.zb57) rfl <| fun b7 _ => .s (opStoreOA (i := 0) Try.cz57 rfl (.t rfl) (.t rfl) rfl rfl rfl) <| .nil ?_)
        refine EndT.thenN ?_
        refine CodeT.share (t := 7) (i := 0) rfl rfl ?_
        refine CodeT.seq ?_
        refine CodeT.region (.p (opField Try.fd57_0 (.t rfl)) rfl <| .p (opLoad Try.ag9 (.t rfl)) rfl <| .p (opMove (.t rfl)) rfl <| .p (opEqlS (.t rfl) (.t rfl)) rfl <| .nil ?_)
        refine EndT.thenN ?_
        refine CodeT.cond (.t rfl) (fun c2 => ?_) (fun c2 => ?_)
        ·
          refine CodeT.seq ?_
          refine CodeT.region (.p (opLoadA Try.ag57 Try.cz57 rfl (.t rfl) rfl) rfl <| .s (opStoreOA (i := 0) Try.cz57 rfl (.t rfl) (.t rfl) rfl rfl rfl) <| .p (opAssign .ct) rfl <| .nil ?_)
          refine EndT.thenN ?_
          refine CodeT.ret (EndT.blkR (EndT.thenR (EndT.thenR (EndT.blkR (EndT.thenR (Post.retR rfl rfl () trivial (fun _ _ _ _ => trivial) rfl (.cons (.ra (i := 0) Try.ag57 Try.cz57 rfl rfl rfl rfl) ?_ (.cons (.rt rfl) ?_ .nil))))))))
          · rw [find_at hnot hx c2]; exact VLe.refl _
          · exact VLe.prop (by rw [find_at hnot hx c2]; simp)
        ·
          refine CodeT.skip (EndT.blkN (EndT.thenN ?_))
          refine CodeT.region (.p (opAddF (.t rfl) (.c _) (fits_i64 (by omega) (by omega))) rfl <| .p (opMove (.t rfl)) rfl <| .nil ?_)
          refine EndT.round (k + 1) ⟨by omega, hnot.succ hx (by assumption)⟩ (by omega) rfl ?_
          exact (.get rfl (VLe.int (by omega)) (.keep 12 rfl rfl))
      ·
        refine CodeT.exit (EndT.thenX (EndT.thenX (EndT.blkX (EndT.thenN ?_))))
        refine CodeT.seq ?_
        refine CodeT.region (.p (opBuild Try.pl57 Try.zb57 .nil rfl) rfl <| .s (opStoreOA (i := 0) Try.cz57 rfl (.t rfl) (.t rfl) rfl rfl rfl) <| .p (opAssign .cf) rfl <| .nil ?_)
        refine EndT.thenN ?_
        refine CodeT.ret (Post.retR rfl rfl () trivial (fun _ _ _ _ => trivial) rfl (.cons (.ra (i := 0) Try.ag57 Try.cz57 rfl rfl rfl rfl) ?_ (.cons (.rt rfl) ?_ .nil)))
        · rw [find_none (hnot.all (by omega))]; exact VLe.agg (.cons strV_nil (.cons (VLe.refl _) (.cons (VLe.refl _) .nil)))
        · exact VLe.prop (by rw [find_none (hnot.all (by omega))]; simp)
  ·
    exact (c0 trivial).elim

theorem findNil_spec {l : List UInt8} : FnP Try.prog 20 [nilV, strV l] (tupV [aggV (encExport ⟨[], 0, 0⟩), propV False]) := by
  refine FnE.intro 26 Try.func20 rfl rfl rfl fun w0 S0 M => ?_
  refine CodeT.seq ?_
  refine CodeT.region (.n (opAlloc Try.zb57) rfl <| fun b4 _ => .p (opAssign .cf) rfl <| .nil ?_)
  refine EndT.thenN ?_
  refine CodeT.seq ?_
  refine CodeT.seq ?_
  refine CodeT.region (.p (opMove (.t rfl)) rfl <| .p (opNilNeqNil Try.underlying38 (.t rfl)) rfl <| .nil ?_)
  refine EndT.thenN ?_
  refine CodeT.cond (.t rfl) (fun c0 => ?_) (fun c0 => ?_)
  ·
    exact c0.elim
  ·
    refine CodeT.skip (EndT.thenN ?_)
    refine CodeT.seq ?_
    refine CodeT.region (.p (opBuild Try.pl57 Try.zb57 .nil rfl) rfl <| .s (opStoreOA (i := 0) Try.cz57 rfl (.t rfl) (.t rfl) rfl rfl rfl) <| .p (opAssign .cf) rfl <| .nil ?_)
    refine EndT.thenN ?_
    refine CodeT.ret (Post.retR rfl rfl () trivial (fun _ _ _ _ => trivial) rfl (.cons (.ra (i := 0) Try.ag57 Try.cz57 rfl rfl rfl rfl) ?_ (.cons (.rt rfl) ?_ .nil)))
    · exact VLe.agg (.cons strV_nil (.cons (VLe.refl _) (.cons (VLe.refl _) .nil)))
    · exact VLe.refl _

theorem ModuleNone_spec {f : Int} {l : List UInt8} : FnP Try.prog 6 [intV .i64 f, strV l] (propV True) := by
  refine FnE.intro 64 Try.func6 rfl rfl rfl fun w0 S0 M => ?_
  refine CodeT.seq ?_
  refine CodeT.region (.p (opAssign .cf) rfl <| .nil ?_)
  refine EndT.thenN ?_
  refine CodeT.seq ?_
  refine CodeT.seq ?_
  refine CodeT.region (.p (opMove (.t rfl)) rfl <| .p (opLenS rfl Try.underlying9 (.t rfl)) rfl <| .p (opGtr (.t rfl) (.c _)) rfl <| .p (opMove (.t rfl)) rfl <| .g (OpG.gF rfl rfl rfl rfl (fun hg => opCall (awake_spec) Try.cb8 .nil)) rfl rfl <| .g (OpG.gF rfl rfl rfl rfl (fun hg => opNot (.when (.t rfl) hg))) rfl rfl <| .p (opOr (.t rfl) (.t rfl)) rfl <| .nil ?_)
  refine EndT.thenN ?_
  refine CodeT.cond (.t rfl) (fun c0 => ?_) (fun c0 => ?_)
  ·
    refine CodeT.seq ?_
    refine CodeT.region (.p (opCall (awake_spec) Try.cb8 .nil) rfl <| .p (opAssign (.t rfl)) rfl <| .nil ?_)
    refine EndT.thenN ?_
    refine CodeT.ret (EndT.thenR (Post.retP rfl rfl ?_))
    exact VLe.prop (by simp)
  ·
    refine CodeT.skip (EndT.thenN ?_)
    refine CodeT.seq ?_
    refine CodeT.region (.p (opAssign (.c _)) rfl <| .nil ?_)
    refine EndT.thenN ?_
    refine CodeT.seq ?_
    refine CodeT.region (.p (opMove (.t rfl)) rfl <| .p (opCall (fitNil_spec) Try.cb11 (.cons (.t rfl) .nil)) rfl <| .p (opMove (.t rfl)) rfl <| .p (opExtract (.t rfl) rfl) rfl <| .p (opExtract (.t rfl) rfl) rfl <| .p (opAssign (.t rfl)) rfl <| .p (opAssign (.t rfl)) rfl <| .nil ?_)
    refine EndT.thenN ?_
    refine CodeT.seq ?_
    refine CodeT.region (.p (opMove (.t rfl)) rfl <| .p (opMove (.t rfl)) rfl <| .p (opCall (msigNil_spec) Try.cb15 (.cons (.t rfl) (.cons (.t rfl) .nil))) rfl <| .p (opMove (.t rfl)) rfl <| .p (opExtract (.t rfl) rfl) rfl <| .p (opExtract (.t rfl) rfl) rfl <| .n (opAlloc Try.zb46) rfl <| fun b8 _ => .s (opStoreOA (i := 0) Try.cz46 rfl (.t rfl) (.t rfl) rfl rfl rfl) <| .p (opAssign (.t rfl)) rfl <| .nil ?_)
    refine EndT.thenN ?_
    refine CodeT.share (t := 8) (i := 0) rfl rfl ?_
    refine CodeT.seq ?_
    refine CodeT.region (.p (opMove (.t rfl)) rfl <| .p (opMove (.t rfl)) rfl <| .p (opCall (findNil_spec) Try.cb20 (.cons (.t rfl) (.cons (.t rfl) .nil))) rfl <| .p (opMove (.t rfl)) rfl <| .p (opExtract (.t rfl) rfl) rfl <| .p (opExtract (.t rfl) rfl) rfl <| .n (opAlloc Try.zb57) rfl <| fun b10 _ => .s (opStoreOA (i := 0) Try.cz57 rfl (.t rfl) (.t rfl) rfl rfl rfl) <| .p (opAssign (.t rfl)) rfl <| .nil ?_)
    refine EndT.thenN ?_
    refine CodeT.share (t := 10) (i := 0) rfl rfl ?_
    refine CodeT.seq ?_
    refine CodeT.region (.p (opMove (.t rfl)) rfl <| .p (opEqlS (.t rfl) (.s [] rfl rfl)) rfl <| .p (opMove (.t rfl)) rfl <| .g (OpG.gT rfl rfl rfl rfl (fun hg => opMove (.t rfl))) rfl rfl <| .g (OpG.gT rfl rfl rfl rfl (fun hg => opEql (.when (.t rfl) hg) (.c _))) rfl rfl <| .p (opAnd (.t rfl) (.t rfl)) rfl <| .p (opMove (.t rfl)) rfl <| .g (OpG.gT rfl rfl rfl rfl (fun hg => opMove (.t rfl))) rfl rfl <| .g (OpG.gT rfl rfl rfl rfl (fun hg => opNot (.when (.t rfl) hg))) rfl rfl <| .p (opAnd (.t rfl) (.t rfl)) rfl <| .p (opMove (.t rfl)) rfl <| .g (OpG.gT rfl rfl rfl rfl (fun hg => opMove (.t rfl))) rfl rfl <| .g (OpG.gT rfl rfl rfl rfl (fun hg => opNot (.when (.t rfl) hg))) rfl rfl <| .p (opAnd (.t rfl) (.t rfl)) rfl <| .p (opMove (.t rfl)) rfl <| .g (OpG.gT rfl rfl rfl rfl (fun hg => opMove (.t rfl))) rfl rfl <| .g (OpG.gT rfl rfl rfl rfl (fun hg => opCall (countNil_spec) Try.cb12 (.cons (.when (.t rfl) hg) .nil))) rfl rfl <| .g (OpG.gT rfl rfl rfl rfl (fun hg => opEql (.when (.t rfl) hg) (.c _))) rfl rfl <| .p (opAnd (.t rfl) (.t rfl)) rfl <| .p (opMove (.t rfl)) rfl <| .g (OpG.gT rfl rfl rfl rfl (fun hg => opCall (msameNN_spec) Try.cb22 (.cons (.c _) (.cons (.c _) .nil)))) rfl rfl <| .p (opAnd (.t rfl) (.t rfl)) rfl <| .p (opMove (.t rfl)) rfl <| .g (OpG.gT rfl rfl rfl rfl (fun hg => opCall (empty_spec) Try.cb23 .nil)) rfl rfl <| .g (OpG.gT rfl rfl rfl rfl (fun hg => opCall (msameNP_spec) Try.cb22 (.cons (.c _) (.cons (.when (.t rfl) hg) .nil)))) rfl rfl <| .g (OpG.gT rfl rfl rfl rfl (fun hg => opNot (.when (.t rfl) hg))) rfl rfl <| .p (opAnd (.t rfl) (.t rfl)) rfl <| .p (opAssign (.t rfl)) rfl <| .nil ?_)
    refine EndT.thenN ?_
    refine CodeT.ret (Post.retP rfl rfl ?_)
    exact VLe.prop (by simp)

end Go.Proofs.Ytbiahdejccipaaa
