/-
  Walks, printed by a program (gen.py) out of what its author says of each function.
-/
import Derived.Test.YtiicgelmdmhajaaDoorP07W
namespace Go.Proofs.YtiicgelmdmhajaaDoor
open Go.Hl Go.RowKit
set_option linter.unusedVariables false
set_option maxRecDepth 100000

theorem salloc_spec {sb : Nat} {s : StD} (hp0 : StOk s) : FnE Tryd.prog 69 [addrV sb 0] [storeH sb s] (γ := StD × Int × Nat) (fun g => allocR s g) (fun g => [storeH sb g.1]) (fun g => tupV [i64V g.2.1, i64V (g.2.2 : Int)]) := by
  refine FnE.intro 56 Tryd.func69 rfl rfl rfl fun w0 S0 M => ?_
  obtain ⟨k10, f10, e10⟩ := opF_form s
  refine CodeT.openS fun mb E hE => ?_
  have hom := opF_m s
  have hsz := hp0.size
  have hmn := hp0.many
  have hcp := hp0.cap
  have hlen : s.m.length = E.length := by (rw [← hE]; simp [contM])
  refine CodeT.seq ?_
  refine CodeT.region (.p (opAssign (.c _)) rfl <| .p (opAssign (.c _)) rfl <| .nil ?_)
  refine EndT.thenN ?_
  refine CodeT.seq ?_
  refine CodeT.block ?_
  refine CodeT.seq ?_
  refine CodeT.region (.p (opMove (.t rfl)) rfl <| .p (opEqlNilO Tryd.underlying28 (.t rfl)) rfl <| .p (opAssign (.t rfl)) rfl <| .nil ?_)
  refine EndT.thenN ?_
  refine CodeT.cond (.t rfl) (fun c0 => ?_) (fun c0 => ?_)
  ·
    exact c0.elim
  ·
    refine CodeT.seq ?_
    refine CodeT.region (.p (opMove (.t rfl)) rfl <| .n (opCallE (rest := [_, _]) (sop_spec) Tryd.cb90 (.cons (.t rfl) .nil) (Perm.idx [0, 1, 2] rfl rfl)) rfl <| fun g10 h10 => .p (opNot (.t rfl)) rfl <| .p (opAssign (.t rfl)) rfl <| .nil ?_)
    refine EndT.thenN ?_
    refine CodeT.cond (.t rfl) (fun c1 => ?_) (fun c1 => ?_)
    ·
      subst h10; rw [e10]
      refine CodeT.seq ?_
      refine CodeT.region (.p (opAssign (.c _)) rfl <| .p (opAssign (.c _)) rfl <| .nil ?_)
      refine EndT.thenN ?_
      refine CodeT.ret (EndT.blkR (EndT.thenR (Post.retR rfl rfl (({ s with ops := k10, failed := f10 }, 0, 9)) (by exact .inl ⟨by simpa using c1, by rw [e10]⟩) (store_close (s := { s with ops := k10, failed := f10 }) hE rfl) rfl (.cons (.rt rfl) ?_ (.cons (.rt rfl) ?_ .nil)))))
      · first | exact VLe.refl _ | exact VLe.int (by omega) | exact VLe.prop (by omega) | exact VLe.prop (by simp_all) | exact VLe.prop (by simp; omega)
      · first | exact VLe.refl _ | exact VLe.int (by omega) | exact VLe.prop (by omega) | exact VLe.prop (by simp_all) | exact VLe.prop (by simp; omega)
    ·
      subst h10; rw [e10]
      refine CodeT.seq ?_
      refine CodeT.draw 9 2 Tryd.mixed (by kernel_rfl) (.p (opMove (.t rfl)) <| .p (opNilChkO (.t rfl)) <| .p (opFieldO Tryd.fd92_3 (.t rfl)) <| .p (opLoadO (i := 0) Tryd.ag85 (.t rfl) rfl rfl) <| .p (opLenM (i := 1) rfl Tryd.underlying85 (.t rfl) rfl) <| .p (opMove (.t rfl)) <| .p (opNilChkO (.t rfl)) <| .p (opFieldO Tryd.fd92_1 (.t rfl)) <| .p (opLoadO (i := 0) Tryd.ag3 (.t rfl) rfl rfl) <| .nil) (.p (opEql (.t rfl) (.t rfl)) rfl <| .p (opAssign (.t rfl)) rfl <| .nil ?_)
      refine EndT.thenN ?_
      refine CodeT.cond (.t rfl) (fun c2 => ?_) (fun c2 => ?_)
      ·
        refine CodeT.seq ?_
        refine CodeT.region (.p (opAssign (.c _)) rfl <| .p (opAssign (.c _)) rfl <| .nil ?_)
        refine EndT.thenN ?_
        refine CodeT.ret (EndT.blkR (EndT.thenR (Post.retR rfl rfl (({ s with ops := k10, failed := f10 }, 0, 8)) (by exact .inr (.inl ⟨by simpa using c1, by rw [hlen]; simpa using c2, by rw [e10]⟩)) (store_close (s := { s with ops := k10, failed := f10 }) hE rfl) rfl (.cons (.rt rfl) ?_ (.cons (.rt rfl) ?_ .nil)))))
        · first | exact VLe.refl _ | exact VLe.int (by omega) | exact VLe.prop (by omega) | exact VLe.prop (by simp_all) | exact VLe.prop (by simp; omega)
        · first | exact VLe.refl _ | exact VLe.int (by omega) | exact VLe.prop (by omega) | exact VLe.prop (by simp_all) | exact VLe.prop (by simp; omega)
      ·
        refine CodeT.skip (EndT.blkN (EndT.thenN ?_))
        refine CodeT.seq ?_
        refine CodeT.region (.p (opAssign (.c _)) rfl <| .nil ?_)
        refine EndT.thenN ?_
        refine CodeT.seq ?_
        refine CodeT.block ?_
        refine CodeT.loopO (σ := Nat) (fun _ => _) (fun k => [(4, i64V (k : Int))]) (fun k => k ≤ s.m.length ∧ ∀ j : Nat, j < k → lookD s.m (j : Int) ≠ none) (fun k => s.m.length - k) 0 ⟨by omega, fun j hj => by omega⟩ rfl ?_ ?_
        · exact (.get rfl (VLe.refl _) (.refl _ _))
        · rintro k ⟨hk, hall⟩
          refine CodeT.seq ?_
          refine CodeT.seq ?_
          refine CodeT.region (.p (opMove (.t rfl)) rfl <| .p (opNilChkO (.t rfl)) rfl <| .p (opFieldO Tryd.fd92_3 (.t rfl)) rfl <| .p (opLoadO (i := 0) Tryd.ag85 (.t rfl) rfl rfl) rfl <| .p (opMove (.t rfl)) rfl <| .p (opLook (i := 1) Tryd.kt85 Tryd.underlying85 (fun w => run_zv Tryd.zv22 w) (.t rfl) (.t rfl) rfl) rfl <| .p (opNeqNilOpt Tryd.underlying22 (.t rfl) (.c _)) rfl <| .nil ?_)
          refine EndT.thenN ?_
          refine CodeT.cond (.t rfl) (fun c3 => ?_) (fun c3 => ?_)
          ·
            have hpr : lookD s.m (k : Int) ≠ none := by (rw [← hE, look_cont]; rw [look_blk] at c3; intro e; apply c3; cases hq : lookD E (k : Int) with | none => rfl | some p => (rw [hq] at e; cases e))
            have hk1 : k + 1 ≤ s.m.length := look_many fun j hj => if h : j < k then hall j h else (by rw [show j = k by omega]; exact hpr)
            refine CodeT.skip (EndT.thenN ?_)
            refine CodeT.block ?_
            refine CodeT.region (.p (opMove (.t rfl)) rfl <| .p (opAddF (.t rfl) (.c _) (fits_i64 (by omega) (by omega))) rfl <| .p (opAssign (.t rfl)) rfl <| .nil ?_)
            refine EndT.blkN (EndT.round (k + 1) ⟨by omega, fun j hj => if h : j < k then hall j h else (by rw [show j = k by omega]; exact hpr)⟩ (by omega) rfl ?_)
            exact (.get rfl (VLe.int (by omega)) (.keep 11 rfl rfl))
          ·
            have hnb : lookD (E.map fun e => (e.1, e.2.1)) (k : Int) = none := Classical.not_not.1 c3
            have hnE : lookD E (k : Int) = none := by (rw [look_blk] at hnb; cases hq : lookD E (k : Int) with | none => rfl | some p => (rw [hq] at hnb; cases hnb))
            have hno : lookD s.m (k : Int) = none := by rw [← hE, look_cont, hnE]; rfl
            refine CodeT.exit (EndT.thenX (EndT.thenX (EndT.blkX (EndT.thenN ?_))))
            refine CodeT.seq ?_
            refine CodeT.staged [(0, 0), (1, 0), (2, 0), (3, 1), (4, 0), (5, 0), (6, 0), (7, 0), (8, 1), (9, 4)] 10 1 Tryd.mixed (by kernel_rfl) (.p rfl (fun _ => opMove (.t rfl)) <| .p rfl (fun _ => opNilChkO (.t rfl)) <| .p rfl (fun _ => opFieldO Tryd.fd92_3 (.t rfl)) <| .o rfl (opLoadO (i := 0) Tryd.ag85 (.t rfl) rfl rfl) <| .p rfl (fun _ => opMove (.t rfl)) <| .p rfl (fun _ => opMove (.t rfl)) <| .p rfl (fun _ => opNilChkO (.t rfl)) <| .p rfl (fun _ => opFieldO Tryd.fd92_0 (.t rfl)) <| .o rfl (opLoadO (i := 0) Tryd.ag3 (.t rfl) rfl rfl) <| .a rfl (opMakeBuf Tryd.underlying22 Tryd.cz5 Tryd.by5 Tryd.zb5 (.t rfl) rfl (show s.size ≤ 281474976710656 by omega)) (fun _ _ => OLe.drop (OLe.refl _)) <| fun b41 _ => .fin (.s (opUpd (i := 2) b41 Tryd.kt85 Tryd.underlying85 (.t rfl) (.t rfl) (.t rfl) rfl) <| .nil ?_))
            refine EndT.thenN ?_
            refine CodeT.seq ?_
            refine CodeT.draw 11 3 Tryd.mixed (by kernel_rfl) (.p (opMove (.t rfl)) <| .p (opMove (.t rfl)) <| .p (opNilChkO (.t rfl)) <| .p (opFieldO Tryd.fd92_2 (.t rfl)) <| .p (opLoadO (i := 1) Tryd.ag3 (.t rfl) rfl rfl) <| .p (opMove (.t rfl)) <| .p (opNilChkO (.t rfl)) <| .p (opFieldO Tryd.fd92_3 (.t rfl)) <| .p (opLoadO (i := 1) Tryd.ag85 (.t rfl) rfl rfl) <| .p (opLenM (i := 2) rfl Tryd.underlying85 (.t rfl) rfl) <| .p (opMax (.t rfl) (.t rfl)) <| .nil) (.p (opNilChkO (.t rfl)) rfl <| .p (opFieldO Tryd.fd92_2 (.t rfl)) rfl <| .s (opStoreO (i := 1) Tryd.cz3 (.t rfl) (.t rfl) rfl rfl) <| .nil ?_)
            refine EndT.thenN ?_
            refine CodeT.seq ?_
            refine CodeT.region (.p (opMove (.t rfl)) rfl <| .p (opAssign (.t rfl)) rfl <| .p (opAssign (.c _)) rfl <| .nil ?_)
            refine EndT.thenN ?_
            refine CodeT.ret (Post.retR rfl rfl (({ s with ops := k10, failed := f10, m := s.m ++ [((k : Int), List.replicate s.size 0)], peak := max s.peak ((s.m.length : Int) + 1) }, (k : Int), 0)) (by exact .inr (.inr ⟨by simpa using c1, by rw [hlen]; simpa using c2, k, hk, hno, by rw [e10]⟩)) (OLe.trans (OLe.perm (Perm.idx [1, 0, 2, 3] rfl rfl)) (OLe.trans (OLe.cells (.cons (.refl _) (.cons (.refl _) (.cons (VLe.int (by rw [hlen, updD_new _ hnb]; simp)) (.cons (.refl _) (.cons (.refl _) (.cons (.refl _) (.cons (.refl _) .nil)))))))) (OLe.trans (OLe.perm (Perm.idx [1, 0, 2, 3] rfl rfl)) (store_closeA (s := { s with ops := k10, failed := f10, m := s.m ++ [((k : Int), List.replicate s.size 0)], peak := max s.peak ((s.m.length : Int) + 1) }) hnE (by rw [← hE]) rfl)))) rfl (.cons (.rt rfl) ?_ (.cons (.rt rfl) ?_ .nil)))
            · first | exact VLe.refl _ | exact VLe.int (by omega) | exact VLe.prop (by omega) | exact VLe.prop (by simp_all) | exact VLe.prop (by simp; omega)
            · first | exact VLe.refl _ | exact VLe.int (by omega) | exact VLe.prop (by omega) | exact VLe.prop (by simp_all) | exact VLe.prop (by simp; omega)

end Go.Proofs.YtiicgelmdmhajaaDoor
