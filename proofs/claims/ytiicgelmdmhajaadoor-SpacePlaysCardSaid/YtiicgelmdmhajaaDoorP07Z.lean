/-
  Walks, printed by a program (gen.py) out of what its author says of each function.
-/
import Derived.Test.YtiicgelmdmhajaaDoorP07Y
namespace Go.Proofs.YtiicgelmdmhajaaDoor
open Go.Hl Go.RowKit
set_option linter.unusedVariables false
set_option maxRecDepth 100000

theorem trimR_spec {l : List UInt8} {c : UInt8} : FnP Tryd.prog 81 [sliceV 1 encU8 l, intV .u8 (c.toNat : Int)] (sliceV 1 encU8 (trimRk l c l.length)) := by
  refine FnE.intro 24 Tryd.func81 rfl rfl rfl fun w0 S0 M => ?_
  refine CodeT.fact (t := 0) rfl (fun S w v h => sliceV_len h) fun hl => ?_
  refine CodeT.seq ?_
  refine CodeT.region (.p (opAssign (.c _)) rfl <| .nil ?_)
  refine EndT.thenN ?_
  refine CodeT.seq ?_
  refine CodeT.block ?_
  refine CodeT.loopO (σ := Nat) (fun _ => []) (fun k => [(0, sliceV 1 encU8 (l.take k))]) (fun k => k ≤ l.length ∧ trimRk l c k = trimRk l c l.length) (fun k => k) l.length ⟨Nat.le_refl _, rfl⟩ rfl ?_ ?_
  · exact (.get rfl (VLe.of_eq (by rw [List.take_length])) (.refl _ _))
  · rintro k ⟨hk, htr⟩
    have hlen : (l.take k).length = k := by (simp; omega)
    have hx : 0 < k → (l.take k)[k - 1]? = some (l.getD (k - 1) 0) := fun h0 => by (have h1 : k - 1 < l.length := by omega); rw [List.getElem?_take, if_pos (by omega)]; simp [List.getD_eq_getElem?_getD, h1]
    refine CodeT.seq ?_
    refine CodeT.seq ?_
    refine CodeT.region (.p (opMove (.t rfl)) rfl <| .p (opLen rfl Tryd.underlying22 (.t rfl)) rfl <| .p (opGtr (.t rfl) (.c _)) rfl <| .p (opMove (.t rfl)) rfl <| .g (OpG.gT rfl rfl rfl rfl (fun hg => opMove (.t rfl))) rfl rfl <| .g (OpG.gT rfl rfl rfl rfl (fun hg => opMove (.t rfl))) rfl rfl <| .g (OpG.gT rfl rfl rfl rfl (fun hg => opLen rfl Tryd.underlying22 (.when (.t rfl) hg))) rfl rfl <| .g (OpG.gT rfl rfl rfl rfl (fun hg => opSubF (.when (.t rfl) hg) (.c _) (fits_i64 (by omega) (by omega)))) rfl rfl <| .g (OpG.gT rfl rfl rfl rfl (fun hg => opIndexAddr (j := k - 1) Tryd.underlying22 Tryd.cz5 rfl (.when (.t rfl) hg) (.when (.t rfl) hg) (by omega) (hx (by omega)))) rfl rfl <| .g (OpG.gT rfl rfl rfl rfl (fun hg => opLoad Tryd.ag5 (.when (.t rfl) hg))) rfl rfl <| .g (OpG.gT rfl rfl rfl rfl (fun hg => opMove (.t rfl))) rfl rfl <| .g (OpG.gT rfl rfl rfl rfl (fun hg => opEql (.when (.t rfl) hg) (.when (.t rfl) hg))) rfl rfl <| .p (opAnd (.t rfl) (.t rfl)) rfl <| .nil ?_)
    refine EndT.thenN ?_
    refine CodeT.cond (.t rfl) (fun c0 => ?_) (fun c0 => ?_)
    ·
      have h0 : 0 < k := by omega
      have hceq : l.getD (k - 1) 0 = c := UInt8.toNat_inj.1 (by omega)
      have hstep : trimRk l c (k - 1) = trimRk l c l.length := by (rw [← htr]; obtain ⟨j, rfl⟩ : ∃ j, k = j + 1 := ⟨k - 1, by omega⟩; simp only [Nat.add_sub_cancel] at hceq ⊢; rw [trimRk, if_pos hceq])
      refine CodeT.skip (EndT.thenN ?_)
      refine CodeT.block ?_
      refine CodeT.region (.p (opMove (.t rfl)) rfl <| .p (opMove (.t rfl)) rfl <| .p (opLen rfl Tryd.underlying22 (.t rfl)) rfl <| .p (opSubF (.t rfl) (.c _) (fits_i64 (by omega) (by omega))) rfl <| .p (opSliceHi (h := k - 1) Tryd.underlying22 Tryd.cz5 rfl (.t rfl) (.t rfl) (by omega) (by omega)) rfl <| .p (opAssign (.t rfl)) rfl <| .nil ?_)
      refine EndT.blkN (EndT.round (k - 1) ⟨by omega, hstep⟩ (by omega) rfl ?_)
      exact (.get rfl (VLe.of_eq (by rw [List.take_take, Nat.min_eq_left (by omega)])) (.keep 20 rfl rfl))
    ·
      have hend : trimRk l c k = l.take k := by (cases k with | zero => rfl | succ j => (rw [trimRk, if_neg (fun e => c0 ⟨by omega, by (show ((l.getD (j + 1 - 1) 0).toNat : Int) = (c.toNat : Int); rw [Nat.add_sub_cancel, e])⟩)]))
      refine CodeT.exit (EndT.thenX (EndT.thenX (EndT.blkX (EndT.thenN ?_))))
      refine CodeT.seq ?_
      refine CodeT.region (.p (opMove (.t rfl)) rfl <| .p (opAssign (.t rfl)) rfl <| .nil ?_)
      refine EndT.thenN ?_
      refine CodeT.ret (Post.retP rfl rfl ?_)
      exact VLe.of_eq (by rw [← htr, hend])

theorem trimL_spec {l : List UInt8} {c : UInt8} : FnP Tryd.prog 80 [sliceV 1 encU8 l, intV .u8 (c.toNat : Int)] (sliceV 1 encU8 (trimL l c)) := by
  refine FnE.intro 21 Tryd.func80 rfl rfl rfl fun w0 S0 M => ?_
  refine CodeT.fact (t := 0) rfl (fun S w v h => sliceV_len h) fun hl => ?_
  refine CodeT.seq ?_
  refine CodeT.region (.p (opAssign (.c _)) rfl <| .nil ?_)
  refine EndT.thenN ?_
  refine CodeT.seq ?_
  refine CodeT.block ?_
  refine CodeT.loopO (σ := Nat) (fun _ => []) (fun k => [(0, sliceV 1 encU8 (l.drop k))]) (fun k => k ≤ l.length ∧ trimL (l.drop k) c = trimL l c) (fun k => l.length - k) 0 ⟨by omega, rfl⟩ rfl ?_ ?_
  · exact (.get rfl (VLe.of_eq (by rw [List.drop_zero])) (.refl _ _))
  · rintro k ⟨hk, htr⟩
    have hlen : (l.drop k).length = l.length - k := by simp
    have hx : k < l.length → (l.drop k)[0]? = some (l.getD k 0) := fun h0 => by (rw [List.getElem?_drop]; simp [List.getD_eq_getElem?_getD, h0])
    refine CodeT.seq ?_
    refine CodeT.seq ?_
    refine CodeT.region (.p (opMove (.t rfl)) rfl <| .p (opLen rfl Tryd.underlying22 (.t rfl)) rfl <| .p (opGtr (.t rfl) (.c _)) rfl <| .p (opMove (.t rfl)) rfl <| .g (OpG.gT rfl rfl rfl rfl (fun hg => opMove (.t rfl))) rfl rfl <| .g (OpG.gT rfl rfl rfl rfl (fun hg => opIndexAddr (j := 0) Tryd.underlying22 Tryd.cz5 rfl (.when (.t rfl) hg) (.c _) rfl (hx (by omega)))) rfl rfl <| .g (OpG.gT rfl rfl rfl rfl (fun hg => opLoad Tryd.ag5 (.when (.t rfl) hg))) rfl rfl <| .g (OpG.gT rfl rfl rfl rfl (fun hg => opMove (.t rfl))) rfl rfl <| .g (OpG.gT rfl rfl rfl rfl (fun hg => opEql (.when (.t rfl) hg) (.when (.t rfl) hg))) rfl rfl <| .p (opAnd (.t rfl) (.t rfl)) rfl <| .nil ?_)
    refine EndT.thenN ?_
    refine CodeT.cond (.t rfl) (fun c0 => ?_) (fun c0 => ?_)
    ·
      have h0 : k < l.length := by omega
      have hceq : l.getD k 0 = c := UInt8.toNat_inj.1 (by omega)
      have hcons : l.drop k = l.getD k 0 :: l.drop (k + 1) := by (rw [List.drop_eq_getElem_cons h0]; simp [List.getD_eq_getElem?_getD, h0])
      have hstep : trimL (l.drop (k + 1)) c = trimL l c := by (rw [← htr, hcons]; unfold trimL; rw [List.dropWhile_cons, if_pos (by simpa using hceq)])
      refine CodeT.skip (EndT.thenN ?_)
      refine CodeT.block ?_
      refine CodeT.region (.p (opMove (.t rfl)) rfl <| .p (opSliceLo (l := 1) Tryd.underlying22 Tryd.cz5 rfl (.t rfl) (.c _) rfl (by omega)) rfl <| .p (opAssign (.t rfl)) rfl <| .nil ?_)
      refine EndT.blkN (EndT.round (k + 1) ⟨by omega, hstep⟩ (by omega) rfl ?_)
      exact (.get rfl (VLe.of_eq (by rw [List.drop_drop])) (.keep 14 rfl rfl))
    ·
      have hend : trimL l c = l.drop k := by (rw [← htr]; by_cases h0 : k < l.length; (have hcons : l.drop k = l.getD k 0 :: l.drop (k + 1) := by (rw [List.drop_eq_getElem_cons h0]; simp [List.getD_eq_getElem?_getD, h0])); (rw [hcons]; unfold trimL; rw [List.dropWhile_cons, if_neg (fun e => c0 ⟨by omega, by (have e2 := of_decide_eq_true e; show ((l.getD k 0).toNat : Int) = (c.toNat : Int); rw [e2])⟩)]); (rw [List.drop_of_length_le (by omega)]; rfl))
      refine CodeT.exit (EndT.thenX (EndT.thenX (EndT.blkX (EndT.thenN ?_))))
      refine CodeT.seq ?_
      refine CodeT.seq ?_
      refine CodeT.region (.p (opMove (.t rfl)) rfl <| .p (opLen rfl Tryd.underlying22 (.t rfl)) rfl <| .p (opEql (.t rfl) (.c _)) rfl <| .nil ?_)
      refine EndT.thenN ?_
      refine CodeT.cond (.t rfl) (fun c1 => ?_) (fun c1 => ?_)
      ·
        refine CodeT.seq ?_
        refine CodeT.region (.p (opAssign (.c _)) rfl <| .nil ?_)
        refine EndT.thenN ?_
        refine CodeT.ret (EndT.thenR (Post.retP rfl rfl ?_))
        exact (sliceV_nil _ _).trans (VLe.of_eq (by rw [hend, List.drop_of_length_le (by omega)]))
      ·
        refine CodeT.skip (EndT.thenN ?_)
        refine CodeT.seq ?_
        refine CodeT.region (.p (opMove (.t rfl)) rfl <| .p (opAssign (.t rfl)) rfl <| .nil ?_)
        refine EndT.thenN ?_
        refine CodeT.ret (Post.retP rfl rfl ?_)
        exact VLe.of_eq (by rw [hend])

theorem trim0_spec {l : List UInt8} : FnP Tryd.prog 64 [sliceV 1 encU8 l, strV [0]] (sliceV 1 encU8 (trimL (trimRk l 0 l.length) 0)) := by
  refine FnE.intro 42 Tryd.func64 rfl rfl rfl fun w0 S0 M => ?_
  refine CodeT.seq ?_
  refine CodeT.region (.p (opAssign (.c _)) rfl <| .nil ?_)
  refine EndT.thenN ?_
  refine CodeT.seq ?_
  refine CodeT.seq ?_
  refine CodeT.region (.p (opMove (.t rfl)) rfl <| .p (opLen rfl Tryd.underlying22 (.t rfl)) rfl <| .p (opEql (.t rfl) (.c _)) rfl <| .nil ?_)
  refine EndT.thenN ?_
  refine CodeT.cond (.t rfl) (fun c0 => ?_) (fun c0 => ?_)
  ·
    refine CodeT.seq ?_
    refine CodeT.region (.p (opAssign (.c _)) rfl <| .nil ?_)
    refine EndT.thenN ?_
    refine CodeT.ret (EndT.thenR (Post.retP rfl rfl ?_))
    exact (sliceV_nil _ _).trans (VLe.of_eq (by have h0 : l = [] := List.length_eq_zero_iff.1 (by omega); subst h0; rfl))
  ·
    refine CodeT.skip (EndT.thenN ?_)
    refine CodeT.seq ?_
    refine CodeT.seq ?_
    refine CodeT.region (.p (opMove (.t rfl)) rfl <| .p (opEqlS (.t rfl) (.s [] rfl rfl)) rfl <| .nil ?_)
    refine EndT.thenN ?_
    refine CodeT.cond (.t rfl) (fun c1 => ?_) (fun c1 => ?_)
    ·
      exact absurd c1 (by decide)
    ·
      refine CodeT.skip (EndT.thenN ?_)
      refine CodeT.seq ?_
      refine CodeT.seq ?_
      refine CodeT.region (.p (opMove (.t rfl)) rfl <| .p (opLenS rfl Tryd.underlying9 (.t rfl)) rfl <| .p (opEql (.t rfl) (.c _)) rfl <| .p (opMove (.t rfl)) rfl <| .g (OpG.gT rfl rfl rfl rfl (fun hg => opMove (.t rfl))) rfl rfl <| .g (OpG.gT rfl rfl rfl rfl (fun hg => opIndexS Tryd.underlying9 (.when (.t rfl) hg) (.c _) rfl rfl)) rfl rfl <| .g (OpG.gT rfl rfl rfl rfl (fun hg => opLss (.when (.t rfl) hg) (.c _))) rfl rfl <| .p (opAnd (.t rfl) (.t rfl)) rfl <| .nil ?_)
      refine EndT.thenN ?_
      refine CodeT.cond (.t rfl) (fun c2 => ?_) (fun c2 => ?_)
      ·
        refine CodeT.seq ?_
        refine CodeT.draw 6 2 Tryd.mixed (by kernel_rfl) (.p (opMove (.t rfl)) <| .p (opMove (.t rfl)) <| .p (opIndexS Tryd.underlying9 (.t rfl) (.c _) rfl rfl) <| .p (opCall (trimR_spec (l := l) (c := 0)) Tryd.cb81 (.cons (.t rfl) (.cons (.t rfl) .nil))) <| .p (opMove (.t rfl)) <| .p (opIndexS Tryd.underlying9 (.t rfl) (.c _) rfl rfl) <| .nil) (.p (opCall (trimL_spec (l := trimRk l 0 l.length) (c := 0)) Tryd.cb80 (.cons (.t rfl) (.cons (.t rfl) .nil))) rfl <| .p (opAssign (.t rfl)) rfl <| .nil ?_)
        refine EndT.thenN ?_
        refine CodeT.ret (EndT.thenR (Post.retP rfl rfl ?_))
        exact VLe.refl _
      ·
        exact absurd ⟨rfl, by decide⟩ c2

theorem pempty_spec {l : List UInt8} : FnP Tryd.prog 43 [sliceV 1 encU8 l] (propV (zerosP l)) := by
  refine FnE.intro 7 Tryd.func43 rfl rfl rfl fun w0 S0 M => ?_
  refine CodeT.seq ?_
  refine CodeT.region (.p (opAssign .cf) rfl <| .nil ?_)
  refine EndT.thenN ?_
  refine CodeT.seq ?_
  refine CodeT.region (.p (opMove (.t rfl)) rfl <| .p (opCall (trim0_spec) Tryd.cb64 (.cons (.t rfl) (.cons (.s [0] rfl rfl) .nil))) rfl <| .p (opLen rfl Tryd.underlying22 (.t rfl)) rfl <| .p (opEql (.t rfl) (.c _)) rfl <| .p (opAssign (.t rfl)) rfl <| .nil ?_)
  refine EndT.thenN ?_
  refine CodeT.ret (Post.retP rfl rfl ?_)
  exact VLe.prop (by rw [← trim_zero, ← List.length_eq_zero_iff]; omega)

end Go.Proofs.YtiicgelmdmhajaaDoor
