/-
  Walks, printed by a program (gen.py) out of what its author says of each function.
-/
import Derived.Test.YtnjfnjgjeibaiaaDoorB26V
namespace Go.Proofs.YtnjfnjgjeibaiaaDoor
open Go.Hl Go.RowKit
set_option linter.unusedVariables false
set_option maxRecDepth 100000

theorem btext_spec {x : Nd} (hp0 : x.ok) : FnE Tryd.prog 8 [aggV (encNd x)] [varsH Tryd.prog 3 0 1] (γ := Unit) (fun _ => True) (fun _ => []) (fun _ => strV (textL x.toL)) := by
  refine FnE.intro 19 Tryd.func8 rfl rfl rfl fun w0 S0 M => ?_
  refine CodeT.seq ?_
  refine CodeT.region (.p (opBoxA (.t rfl)) rfl <| .p (opAssign (.s [] rfl rfl)) rfl <| .nil ?_)
  refine EndT.thenN ?_
  refine CodeT.seq ?_
  refine CodeT.region (.p (opAssign (.c _)) rfl <| .nil ?_)
  refine EndT.thenN ?_
  refine CodeT.seq ?_
  refine CodeT.seq ?_
  refine CodeT.region (.p (opLoadA Tryd.ag23 Tryd.cz23 rfl (.t rfl) rfl) rfl <| .p (opCall (blist_spec (x := x)) Tryd.cb18 (.cons (.t rfl) .nil)) rfl <| .p (opMove (.c _)) rfl <| .nil ?_)
  refine EndT.thenN ?_
  refine CodeT.block ?_
  refine CodeT.ownNil 1 encSt ?_
  refine CodeT.loopO (σ := SB × Nat) (fun g => [sliceH g.1 1 encSt ((x.toL.take g.2).map Lib.itoa), varsH Tryd.prog 3 0 1]) (fun g => [(3, exactV (sval g.1 ((x.toL.take g.2).map Lib.itoa).length)), (8, iV (g.2 : Int))]) (fun g => g.2 ≤ 5) (fun g => 5 - g.2) (none, 0) (Nat.zero_le _) rfl ?_ ?_
  · exact (.get rfl (VLe.refl _) (.get rfl (VLe.refl _) (.refl _ _)))
  · rintro ⟨sb, k⟩ hk
    simp only at hk ⊢
    refine CodeT.seq ?_
    refine CodeT.region (.p (opLss (.t rfl) (.c _)) rfl <| .nil ?_)
    refine EndT.thenN ?_
    refine CodeT.seq ?_
    refine CodeT.cond (.t rfl) (fun c0 => ?_) (fun c0 => ?_)
    ·
      have hk5 : k < 5 := by omega
      have hv1 := hp0 _ (List.mem_of_getElem? (toL_get hk5))
      have hlt : ((x.toL.take k).map Lib.itoa).length ≤ 5 := by (rw [List.length_map, List.length_take]; omega)
      refine CodeT.skip (EndT.thenN ?_)
      refine CodeT.seq ?_
      refine CodeT.block ?_
      refine CodeT.seq ?_
      refine CodeT.region (.p (opIndexA1 Tryd.underlying44 Tryd.cz3 Tryd.ag3 (.t rfl) rfl (.t rfl) rfl (nd_get hk5)) rfl <| .p (opAssign (.t rfl)) rfl <| .nil ?_)
      refine EndT.thenN ?_
      refine CodeT.region (.p (opMove (.t rfl)) rfl <| .p (opMove (.t rfl)) rfl <| .p (opCallVars (i := 1) (itoa_spec hv1.1 hv1.2) Tryd.cb19 (.cons (.t rfl) .nil) rfl) rfl <| .p (opBuildSlice (enc := encSt) [Lib.itoa (x.toL.getD k 0)] Tryd.underlying45 Tryd.cz9 rfl Tryd.zb9 rfl (.cons (.t rfl) .nil) rfl rfl rfl rfl rfl) rfl <| .n (opAppend (i := 0) (xs := (x.toL.take k).map Lib.itoa) (ys := [Lib.itoa (x.toL.getD k 0)]) Tryd.underlying45 Tryd.underlying45 Tryd.cz9 rfl Tryd.zb9 rfl Tryd.by9 (.t rfl) (.t rfl) rfl (by (simp only [List.length_cons, List.length_nil]; omega)) (by (simp only [List.length_cons, List.length_nil]; omega))) rfl <| fun g15 _ => .p (opAssign (.t rfl)) rfl <| .nil ?_)
      refine EndT.blkN (EndT.thenN ?_)
      refine CodeT.region (.p (opAddF (.t rfl) (.c _) (fits_i64 (by omega) (by omega))) rfl <| .p (opMove (.t rfl)) rfl <| .nil ?_)
      refine EndT.round (g15, k + 1) (by show k + 1 ≤ 5; omega) (by (show 5 - (k + 1) < 5 - k; omega)) (by simp only [nd_take hk5]; rfl) ?_
      exact (.get rfl (VLe.of_eq (by simp only [nd_take hk5])) (.get rfl (VLe.int (by (show (k : Int) + 1 = ((k + 1 : Nat) : Int); omega))) ((.keep 13 rfl rfl))))
    ·
      have hk5 : k = 5 := by omega
      subst hk5
      refine CodeT.shareS (t := 3) (i := 0) rfl rfl ?_
      refine CodeT.exit (EndT.thenX (EndT.thenX (EndT.blkX (EndT.thenN ?_))))
      refine CodeT.seq ?_
      refine CodeT.region (.p (opMove (.t rfl)) rfl <| .p (opCall (join_spec (xs := x.toL.map Lib.itoa) (by simp [Nd.toL]) (by simp [Nd.toL]) (by have h9 := textL_len hp0; unfold textL at h9; omega)) Tryd.cb20 (.cons (.t rfl) (.cons (.s [32] rfl rfl) .nil))) rfl <| .p (opAssign (.t rfl)) rfl <| .nil ?_)
      refine EndT.thenN ?_
      refine CodeT.ret (Post.retP rfl rfl ?_)
      exact VLe.refl _

end Go.Proofs.YtnjfnjgjeibaiaaDoor
