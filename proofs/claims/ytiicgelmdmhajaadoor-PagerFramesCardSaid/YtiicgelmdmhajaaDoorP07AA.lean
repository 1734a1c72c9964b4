/-
  Walks, printed by a program (gen.py) out of what its author says of each function.
-/
import Derived.Test.YtiicgelmdmhajaaDoorP07I
namespace Go.Proofs.YtiicgelmdmhajaaDoor
open Go.Hl Go.RowKit
set_option linter.unusedVariables false
set_option maxRecDepth 100000

theorem pagerFrames_spec {frames : UInt8} {acts : List ActP} : FnP Tryd.prog 10 [intV .u8 (frames.toNat : Int), sliceV 6 encAct acts] (propV True) := by
  refine FnE.intro 167 Tryd.func10 rfl rfl rfl fun w0 S0 M => ?_
  have h32 := class32
  refine CodeT.seq ?_
  refine CodeT.region (.p (opAssign .cf) rfl <| .nil ?_)
  refine EndT.thenN ?_
  refine CodeT.seq ?_
  refine CodeT.seq ?_
  refine CodeT.region (.p (opMove (.t rfl)) rfl <| .p (opLen rfl Tryd.underlying74 (.t rfl)) rfl <| .p (opGtr (.t rfl) (.c _)) rfl <| .p (opMove (.t rfl)) rfl <| .g (OpG.gF rfl rfl rfl rfl (fun hg => opCall (awake07_spec) Tryd.cb11 .nil)) rfl rfl <| .g (OpG.gF rfl rfl rfl rfl (fun hg => opNot (.when (.t rfl) hg))) rfl rfl <| .p (opOr (.t rfl) (.t rfl)) rfl <| .nil ?_)
  refine EndT.thenN ?_
  refine CodeT.cond (.t rfl) (fun c0 => ?_) (fun c0 => ?_)
  ·
    refine CodeT.seq ?_
    refine CodeT.region (.p (opCall (awake07_spec) Tryd.cb11 .nil) rfl <| .p (opAssign (.t rfl)) rfl <| .nil ?_)
    refine EndT.thenN ?_
    refine CodeT.ret (EndT.thenR (Post.retP rfl rfl ?_))
    exact VLe.prop (by simp)
  ·
    have hl60 : acts.length ≤ 60 := by omega
    refine CodeT.skip (EndT.thenN ?_)
    refine CodeT.seq ?_
    refine CodeT.region (.n (opCallE (rest := []) (anew_spec (n := 8192) (by decide)) Tryd.cb12 (.cons (.c _) .nil) (Perm.idx [] rfl rfl)) rfl <| fun g30 h30 => .p (opMove (.t rfl)) rfl <| .p (opExtract (.t rfl) rfl) rfl <| .p (opExtract (.t rfl) rfl) rfl <| .p (opAssign (.t rfl)) rfl <| .p (opAssign (.t rfl)) rfl <| .nil ?_)
    refine EndT.thenN ?_
    refine CodeT.seq ?_
    refine CodeT.region (.n (opCallE (rest := [_, _, _, _]) (snew_spec (n := 32) (cap := 100) (by decide) (by decide) (by decide) (by decide)) Tryd.cb13 (.cons (.c _) (.cons (.c _) .nil)) (Perm.idx [0, 1, 2, 3] rfl rfl)) rfl <| fun g34 h34 => .p (opMove (.t rfl)) rfl <| .p (opExtract (.t rfl) rfl) rfl <| .p (opExtract (.t rfl) rfl) rfl <| .p (opAssign (.t rfl)) rfl <| .p (opAssign (.t rfl)) rfl <| .nil ?_)
    refine EndT.thenN ?_
    refine CodeT.seq ?_
    refine CodeT.region (.n (opCallE (rest := [_, _, _, _, _]) (snew_spec (n := 32) (cap := 100) (by decide) (by decide) (by decide) (by decide)) Tryd.cb13 (.cons (.c _) (.cons (.c _) .nil)) (Perm.idx [0, 1, 2, 3, 4] rfl rfl)) rfl <| fun g38 h38 => .p (opMove (.t rfl)) rfl <| .p (opExtract (.t rfl) rfl) rfl <| .p (opExtract (.t rfl) rfl) rfl <| .p (opAssign (.t rfl)) rfl <| .p (opAssign (.t rfl)) rfl <| .nil ?_)
    refine EndT.thenN ?_
    refine CodeT.seq ?_
    refine CodeT.region (.p (opMove (.t rfl)) rfl <| .p (opMove (.t rfl)) rfl <| .n (opCallE (rest := [_]) (pnew_spec (Y := g30) (sb := g34) (z := 32) (q := 100) (n := 1) (a0 := ⟨List.replicate 8192 0, 0, 0, []⟩) (arT_new h30 (by decide)) (by omega) (by omega) (by decide) (by decide) (by show 0 + 1 * classN 32 ≤ _; rw [h30, h32]; omega)) Tryd.cb14 (.cons (.t rfl) (.cons (.t rfl) (.cons (.c _) .nil))) (Perm.idx [1, 2, 3, 4, 5, 0] rfl rfl)) rfl <| fun g44 h44 => .p (opMove (.t rfl)) rfl <| .p (opExtract (.t rfl) rfl) rfl <| .p (opExtract (.t rfl) rfl) rfl <| .p (opAssign (.t rfl)) rfl <| .p (opAssign (.t rfl)) rfl <| .nil ?_)
    refine EndT.thenN ?_
    obtain ⟨X1, a1⟩ := g44
    obtain ⟨hY1, hs1, hn1, hlo1, hhi1, hT1, hI1⟩ := h44
    simp only at hY1 hs1 hn1 hlo1 hhi1 hT1 hI1
    subst hY1
    subst hs1
    have hh1 := hT1.hi
    simp only at hh1
    refine CodeT.seq ?_
    refine CodeT.region (.p (opMove (.t rfl)) rfl <| .p (opMove (.t rfl)) rfl <| .p (opMove (.t rfl)) rfl <| .p (opRem (.t rfl) (.c _) (by omega) (by omega)) rfl <| .p (opConvF Tryd.underlying5 Tryd.underlying3 (.t rfl) (fits_i64 (by omega) (by omega))) rfl <| .p (opAddF (.c _) (.t rfl) (fits_i64 (by omega) (by omega))) rfl <| .n (opCallE (rest := [_, _, _, _, _]) (pnew_spec (Y := X1.Y) (sb := g38) (z := 32) (q := 100) (n := 1 + frames.toNat % 20) (a0 := a1) (arT_at hT1.ok) (by omega) (by omega) (by decide) (by decide) (by rw [h30, hh1, h32]; omega)) Tryd.cb14 (.cons (.t rfl) (.cons (.t rfl) (.cons (.t rfl) .nil))) (Perm.idx [9, 5, 6, 7, 8, 0, 1, 2, 3, 4] rfl rfl)) rfl <| fun g54 h54 => .p (opMove (.t rfl)) rfl <| .p (opExtract (.t rfl) rfl) rfl <| .p (opExtract (.t rfl) rfl) rfl <| .p (opAssign (.t rfl)) rfl <| .p (opAssign (.t rfl)) rfl <| .nil ?_)
    refine EndT.thenN ?_
    obtain ⟨X2, a2⟩ := g54
    obtain ⟨hY2, hs2, hn2, hlo2, hhi2, hT2, hI2⟩ := h54
    simp only at hY2 hs2 hn2 hlo2 hhi2 hT2 hI2
    subst hs2
    have hA : ApartX X1 X2 := ⟨hY2.symm, .inl (by omega)⟩
    refine CodeT.own (duo_new (hI1.later hT2 rfl (by omega)) hI2 hA) ?_
    refine CodeT.seq ?_
    refine CodeT.seq ?_
    refine CodeT.region (.p (opMove (.t rfl)) rfl <| .p (opNeq (.t rfl) (.c _)) rfl <| .p (opMove (.t rfl)) rfl <| .g (OpG.gF rfl rfl rfl rfl (fun hg => opMove (.t rfl))) rfl rfl <| .g (OpG.gF rfl rfl rfl rfl (fun hg => opNeq (.when (.t rfl) hg) (.c _))) rfl rfl <| .p (opOr (.t rfl) (.t rfl)) rfl <| .nil ?_)
    refine EndT.thenN ?_
    refine CodeT.cond (.t rfl) (fun c1 => ?_) (fun c1 => ?_)
    ·
      exact (show False by simp at c1).elim
    ·
      refine CodeT.skip (EndT.thenN ?_)
      refine CodeT.seq ?_
      refine CodeT.seq ?_
      refine CodeT.region (.p (opAssign (.c _)) rfl <| .nil ?_)
      refine EndT.thenN ?_
      refine CodeT.block ?_
      refine CodeT.loopO (σ := Nat × Cont × Nat × Nat) (fun g => [duoH X1 X2 32 100 g.2.1 g.2.1 g.2.2.1 g.2.2.2]) (fun g => [(15, i64V (g.1 : Int))]) (fun g => g.2.2.1 ≤ g.1 ∧ g.2.2.2 ≤ g.1 ∧ g.1 ≤ acts.length) (fun g => acts.length - g.1) (0, zeroC 32, 0, 0) ⟨Nat.le_refl _, Nat.le_refl _, Nat.zero_le _⟩ rfl ?_ ?_
      · exact (.get rfl (VLe.refl _) (.refl _ _))
      · rintro ⟨i, C1, m1, m2⟩ ⟨hm1, hm2, hi⟩
        simp only at hm1 hm2 hi ⊢
        refine CodeT.seq ?_
        refine CodeT.seq ?_
        refine CodeT.region (.p (opMove (.t rfl)) rfl <| .p (opMove (.t rfl)) rfl <| .p (opLen rfl Tryd.underlying74 (.t rfl)) rfl <| .p (opLss (.t rfl) (.t rfl)) rfl <| .nil ?_)
        refine EndT.thenN ?_
        refine CodeT.cond (.t rfl) (fun c2 => ?_) (fun c2 => ?_)
        ·
          obtain ⟨x, hx⟩ := getElem?_lt (xs := acts) (k := i) (by omega)
          refine CodeT.skip (EndT.thenN ?_)
          refine CodeT.cut (σ := Cont × Nat × Nat) (fun g => [duoH X1 X2 32 100 g.1 g.1 g.2.1 g.2.2]) (fun g => []) (fun g => g.2.1 ≤ i + 1 ∧ g.2.2 ≤ i + 1) ?_ ?_
          ·
            refine CodeT.block ?_
            refine CodeT.seq ?_
            refine CodeT.region (.p (opMove (.t rfl)) rfl <| .p (opMove (.t rfl)) rfl <| .p (opIndexAddr (j := i) Tryd.underlying74 Tryd.cz76 rfl (.t rfl) (.t rfl) rfl (by assumption)) rfl <| .p (OpP.le (opLoadA Tryd.ag76 Tryd.cz76 rfl (.t rfl) rfl) (VLe.refl (aggV [intV .u8 (x.Kind.toNat : Int), intV .i64 x.Mem.1, intV .i64 x.Page.1, intV .i64 x.At.1, intV .i64 x.N.1, sliceV 1 encU8 x.B]))) rfl <| .n (opAlloc Tryd.zb76) rfl <| fun b16 _ => .s (opStoreOA (i := 0) Tryd.cz76 rfl (.t rfl) (.t rfl) rfl rfl rfl) <| .nil ?_)
            refine EndT.thenN ?_
            refine CodeT.share (t := 16) (i := 0) rfl rfl ?_
            refine CodeT.seq ?_
            refine CodeT.seq ?_
            refine CodeT.region (.p (opField Tryd.fd76_5 (.t rfl)) rfl <| .p (opLoad Tryd.ag22 (.t rfl)) rfl <| .p (opLen rfl Tryd.underlying22 (.t rfl)) rfl <| .p (opGtr (.t rfl) (.c _)) rfl <| .nil ?_)
            refine EndT.thenN ?_
            refine CodeT.cond (.t rfl) (fun c3 => ?_) (fun c3 => ?_)
            ·
              refine CodeT.seq ?_
              refine CodeT.region (.p (opAssign .ct) rfl <| .nil ?_)
              refine EndT.thenN ?_
              refine CodeT.ret (EndT.thenR (EndT.blkR (EndT.thenR (EndT.thenR (EndT.blkR (EndT.thenR (Post.retP rfl rfl ?_)))))))
              exact VLe.prop (by simp)
            ·
              refine CodeT.skip (EndT.thenN ?_)
              refine CodeT.seq ?_
              refine CodeT.region (.p (opField Tryd.fd76_0 (.t rfl)) rfl <| .p (opLoad Tryd.ag5 (.t rfl)) rfl <| .p (opRem (.t rfl) (.c _) (by omega) (by omega)) rfl <| .nil ?_)
              refine EndT.thenN ?_
              refine CodeT.block ?_
              refine CodeT.seq ?_
              refine CodeT.region (.p (opEql (.t rfl) (.c _)) rfl <| .p (opAssign (.t rfl)) rfl <| .nil ?_)
              refine EndT.thenN ?_
              refine CodeT.cond (.t rfl) (fun c4 => ?_) (fun c4 => ?_)
              ·
                refine CodeT.seq ?_
                refine CodeT.region (.p (opMove (.t rfl)) rfl <| .p (opField Tryd.fd76_1 (.t rfl)) rfl <| .p (opLoad Tryd.ag3 (.t rfl)) rfl <| .p (opField Tryd.fd76_2 (.t rfl)) rfl <| .p (opLoad Tryd.ag3 (.t rfl)) rfl <| .p (opField Tryd.fd76_3 (.t rfl)) rfl <| .p (opLoad Tryd.ag3 (.t rfl)) rfl <| .p (opField Tryd.fd76_4 (.t rfl)) rfl <| .p (opLoad Tryd.ag3 (.t rfl)) rfl <| .n (opCallE (rest := []) (pread_spec (X := X1) (z := 32) (q := 100) (m := m1) (T := anyT) (C := C1) (R := partH X2 32 100 anyT (C1) (m2)) (mem := x.Mem.1) (page := x.Page.1) (at_ := x.At.1) (n := x.N.1)  (part_ok hA)) Tryd.cb35 (.cons (.t rfl) (.cons (.t rfl) (.cons (.t rfl) (.cons (.t rfl) (.cons (.t rfl) .nil))))) (Perm.idx [0] rfl rfl)) rfl <| fun g94 h94 => .p (opMove (.t rfl)) rfl <| .p (opExtract (.t rfl) rfl) rfl <| .p (opExtract (.t rfl) rfl) rfl <| .p (opAssign (.t rfl)) rfl <| .p (opAssign (.t rfl)) rfl <| .nil ?_)
                refine EndT.thenN ?_
                refine CodeT.seq ?_
                refine CodeT.region (.p (opMove (.t rfl)) rfl <| .p (opField Tryd.fd76_1 (.t rfl)) rfl <| .p (opLoad Tryd.ag3 (.t rfl)) rfl <| .p (opField Tryd.fd76_2 (.t rfl)) rfl <| .p (opLoad Tryd.ag3 (.t rfl)) rfl <| .p (opField Tryd.fd76_3 (.t rfl)) rfl <| .p (opLoad Tryd.ag3 (.t rfl)) rfl <| .p (opField Tryd.fd76_4 (.t rfl)) rfl <| .p (opLoad Tryd.ag3 (.t rfl)) rfl <| .n (opCallE (rest := []) (FnE.own (pread_spec (X := X2) (z := 32) (q := 100) (m := m2) (T := anyT) (C := C1) (R := partH X1 32 100 anyT (C1) (m1)) (mem := x.Mem.1) (page := x.Page.1) (at_ := x.At.1) (n := x.N.1)  (part_ok hA.symm)) (part_swap hA.Y) (fun _ _ => part_swap hA.Y.symm)) Tryd.cb35 (.cons (.t rfl) (.cons (.t rfl) (.cons (.t rfl) (.cons (.t rfl) (.cons (.t rfl) .nil))))) (Perm.idx [0] rfl rfl)) rfl <| fun g107 h107 => .p (opMove (.t rfl)) rfl <| .p (opExtract (.t rfl) rfl) rfl <| .p (opExtract (.t rfl) rfl) rfl <| .p (opAssign (.t rfl)) rfl <| .p (opAssign (.t rfl)) rfl <| .nil ?_)
                refine EndT.thenN ?_
                refine CodeT.seq ?_
                refine CodeT.region (.p (opMove (.t rfl)) rfl <| .p (opMove (.t rfl)) rfl <| .p (opNeq (.t rfl) (.t rfl)) rfl <| .p (opMove (.t rfl)) rfl <| .g (OpG.gF rfl rfl rfl rfl (fun hg => opMove (.t rfl))) rfl rfl <| .g (OpG.gF rfl rfl rfl rfl (fun hg => opBytesStr Tryd.underlying22 Tryd.underlying5 Tryd.underlying9 (.when (.t rfl) hg))) rfl rfl <| .g (OpG.gF rfl rfl rfl rfl (fun hg => opMove (.t rfl))) rfl rfl <| .g (OpG.gF rfl rfl rfl rfl (fun hg => opBytesStr Tryd.underlying22 Tryd.underlying5 Tryd.underlying9 (.when (.t rfl) hg))) rfl rfl <| .g (OpG.gF rfl rfl rfl rfl (fun hg => opNeqS (.when (.t rfl) hg) (.when (.t rfl) hg))) rfl rfl <| .p (opOr (.t rfl) (.t rfl)) rfl <| .nil ?_)
                refine EndT.thenN ?_
                refine CodeT.cond (.t rfl) (fun c5 => ?_) (fun c5 => ?_)
                ·
                  exact (show False by simp at c5).elim
                ·
                  refine CodeT.skip (EndT.blkN (EndT.blkN (EndT.meet (C1, m1, m2) ⟨Nat.le_succ_of_le hm1, Nat.le_succ_of_le hm2⟩ rfl (.keep 55 rfl rfl))))
              ·
                refine CodeT.seq ?_
                refine CodeT.region (.p (opEql (.t rfl) (.c _)) rfl <| .p (opAssign (.t rfl)) rfl <| .nil ?_)
                refine EndT.thenN ?_
                refine CodeT.cond (.t rfl) (fun c6 => ?_) (fun c6 => ?_)
                ·
                  refine CodeT.seq ?_
                  refine CodeT.staged [(0, 0), (1, 0), (2, 0), (3, 0), (4, 0), (5, 0), (6, 0), (7, 0), (8, 0), (10, 0), (11, 0), (12, 0), (13, 0), (14, 0), (15, 0), (16, 0), (17, 0), (18, 0), (9, 2)] 19 2 Tryd.mixed (by kernel_rfl) (.p rfl (fun _ => opMove (.t rfl)) <| .p rfl (fun _ => opField Tryd.fd76_1 (.t rfl)) <| .p rfl (fun _ => opLoad Tryd.ag3 (.t rfl)) <| .p rfl (fun _ => opField Tryd.fd76_2 (.t rfl)) <| .p rfl (fun _ => opLoad Tryd.ag3 (.t rfl)) <| .p rfl (fun _ => opField Tryd.fd76_3 (.t rfl)) <| .p rfl (fun _ => opLoad Tryd.ag3 (.t rfl)) <| .p rfl (fun _ => opField Tryd.fd76_5 (.t rfl)) <| .p rfl (fun _ => opLoad Tryd.ag22 (.t rfl)) <| .p rfl (fun _ => opMove (.t rfl)) <| .p rfl (fun _ => opField Tryd.fd76_1 (.t rfl)) <| .p rfl (fun _ => opLoad Tryd.ag3 (.t rfl)) <| .p rfl (fun _ => opField Tryd.fd76_2 (.t rfl)) <| .p rfl (fun _ => opLoad Tryd.ag3 (.t rfl)) <| .p rfl (fun _ => opField Tryd.fd76_3 (.t rfl)) <| .p rfl (fun _ => opLoad Tryd.ag3 (.t rfl)) <| .p rfl (fun _ => opField Tryd.fd76_5 (.t rfl)) <| .p rfl (fun _ => opLoad Tryd.ag22 (.t rfl)) <| .e rfl (opCallE (rest := []) (pwrite_spec (X := X1) (z := 32) (q := 100) (m := m1) (T := anyT) (C := C1) (R := partH X2 32 100 anyT (C1) (m2)) (mem := x.Mem.1) (page := x.Page.1) (at_ := x.At.1) (ys := x.B) (by omega) (intOf_hi x.Page).1 (part_ok hA)) Tryd.cb15 (.cons (.t rfl) (.cons (.t rfl) (.cons (.t rfl) (.cons (.t rfl) (.cons (.t rfl) .nil))))) (Perm.idx [0] rfl rfl)) <| fun g131 h131 => .fin (.n (opCallE (rest := []) (FnE.own (pwrite_spec (X := X2) (z := 32) (q := 100) (m := m2) (T := anyT) (C := C1) (R := partH X1 32 100 anyT (writeG 32 C1 (x.Mem.1, x.Page.1) x.At.1 x.B) (m1 + 1)) (mem := x.Mem.1) (page := x.Page.1) (at_ := x.At.1) (ys := x.B) (by omega) (intOf_hi x.Page).1 (part_ok hA.symm)) (part_swap hA.Y) (fun _ _ => part_swap hA.Y.symm)) Tryd.cb15 (.cons (.t rfl) (.cons (.t rfl) (.cons (.t rfl) (.cons (.t rfl) (.cons (.t rfl) .nil))))) (Perm.idx [0] rfl rfl)) rfl <| fun g141 h141 => .p (opNeq (.t rfl) (.t rfl)) rfl <| .nil ?_))
                  refine EndT.thenN ?_
                  refine CodeT.cond (.t rfl) (fun c7 => ?_) (fun c7 => ?_)
                  ·
                    exact (c7 rfl).elim
                  ·
                    refine CodeT.skip (EndT.blkN (EndT.blkN (EndT.meet (writeG 32 C1 (x.Mem.1, x.Page.1) x.At.1 x.B, m1 + 1, m2 + 1) ⟨Nat.succ_le_succ hm1, Nat.succ_le_succ hm2⟩ rfl (.keep 38 rfl rfl))))
                ·
                  refine CodeT.seq ?_
                  refine CodeT.region (.p (opEql (.t rfl) (.c _)) rfl <| .p (opAssign (.t rfl)) rfl <| .nil ?_)
                  refine EndT.thenN ?_
                  refine CodeT.cond (.t rfl) (fun c8 => ?_) (fun c8 => ?_)
                  ·
                    refine CodeT.seq ?_
                    refine CodeT.staged [(0, 0), (1, 0), (2, 0), (4, 0), (5, 0), (6, 0), (3, 2)] 7 2 Tryd.mixed (by kernel_rfl) (.p rfl (fun _ => opMove (.t rfl)) <| .p rfl (fun _ => opField Tryd.fd76_1 (.t rfl)) <| .p rfl (fun _ => opLoad Tryd.ag3 (.t rfl)) <| .p rfl (fun _ => opMove (.t rfl)) <| .p rfl (fun _ => opField Tryd.fd76_1 (.t rfl)) <| .p rfl (fun _ => opLoad Tryd.ag3 (.t rfl)) <| .e rfl (opCallE (rest := []) (pdrop_spec (X := X1) (z := 32) (q := 100) (m := m1) (T := anyT) (C := C1) (R := partH X2 32 100 anyT (C1) (m2)) (mem := x.Mem.1)  (part_ok hA)) Tryd.cb36 (.cons (.t rfl) (.cons (.t rfl) .nil)) (Perm.idx [0] rfl rfl)) <| fun g148 h148 => .fin (.n (opCallE (rest := []) (FnE.own (pdrop_spec (X := X2) (z := 32) (q := 100) (m := m2) (T := anyT) (C := C1) (R := partH X1 32 100 anyT (dropG 32 C1 x.Mem.1) (m1)) (mem := x.Mem.1)  (part_ok hA.symm)) (part_swap hA.Y) (fun _ _ => part_swap hA.Y.symm)) Tryd.cb36 (.cons (.t rfl) (.cons (.t rfl) .nil)) (Perm.idx [0] rfl rfl)) rfl <| fun g152 h152 => .p (opNeq (.t rfl) (.t rfl)) rfl <| .nil ?_))
                    refine EndT.thenN ?_
                    refine CodeT.cond (.t rfl) (fun c9 => ?_) (fun c9 => ?_)
                    ·
                      exact (c9 rfl).elim
                    ·
                      refine CodeT.skip (EndT.blkN (EndT.blkN (EndT.meet (dropG 32 C1 x.Mem.1, m1, m2) ⟨Nat.le_succ_of_le hm1, Nat.le_succ_of_le hm2⟩ rfl (.keep 28 rfl rfl))))
                  ·
                    refine CodeT.region (.p (opMove (.t rfl)) rfl <| .n (opCallE (rest := []) (FnE.own (pflush_spec (X := X2) (z := 32) (q := 100) (m := m2) (T := anyT) (C := C1) (R := partH X1 32 100 anyT (C1) (m1))   (part_ok hA.symm)) (part_swap hA.Y) (fun _ _ => OLe.trans (pag_any (T' := anyT) fun _ _ => trivial) (part_swap hA.Y.symm))) Tryd.cb16 (.cons (.t rfl) .nil) (Perm.idx [0] rfl rfl)) rfl <| fun g81 h81 => .nil ?_)
                    refine EndT.blkN (EndT.blkN (EndT.meet (C1, m1, m2) ⟨Nat.le_succ_of_le hm1, Nat.le_succ_of_le hm2⟩ rfl (.keep 21 rfl rfl)))
          ·
            intro ⟨C3, m3, m4⟩ ⟨hm3, hm4⟩
            simp only at hm3 hm4 ⊢
            refine CodeT.region (.p (opMove (.t rfl)) rfl <| .p (opAddF (.t rfl) (.c _) (fits_i64 (by omega) (by omega))) rfl <| .p (opAssign (.t rfl)) rfl <| .nil ?_)
            refine EndT.round (i + 1, C3, m3, m4) ⟨hm3, hm4, (by show i + 1 ≤ acts.length; omega)⟩ (by (show acts.length - (i + 1) < acts.length - i; omega)) rfl ?_
            exact (.get rfl (VLe.int (by (show (i : Int) + 1 = ((i + 1 : Nat) : Int); omega))) ((.keep 8 rfl rfl)))
        ·
          refine CodeT.exit (EndT.thenX (EndT.thenX (EndT.blkX (EndT.thenN ?_))))
          refine CodeT.seq ?_
          refine CodeT.region (.p (opMove (.t rfl)) rfl <| .n ((opCallE (rest := []) (pfault_spec (X := X1) (z := 32) (q := 100) (m := m1) (T := anyT) (C := C1) (R := partH X2 32 100 anyT (C1) (m2))   (part_ok hA)) Tryd.cb34 (.cons (.t rfl) .nil) (Perm.idx [0] rfl rfl)).same (fun _ _ => OLe.refl _) (fun _ _ => VLe.refl _)) rfl <| fun _ _ => .p (opEql (.t rfl) (.c _)) rfl <| .p (opMove (.t rfl)) rfl <| .g (OpG.gT rfl rfl rfl rfl (fun hg => opMove (.t rfl))) rfl rfl <| .egT rfl rfl rfl rfl (fun hg => ((opCallE (rest := []) (FnE.own (pfault_spec (X := X2) (z := 32) (q := 100) (m := m2) (T := anyT) (C := C1) (R := partH X1 32 100 anyT (C1) (m1))   (part_ok hA.symm)) (part_swap hA.Y) (fun _ _ => part_swap hA.Y.symm)) Tryd.cb34 (.cons (.when (.t rfl) hg) .nil) (Perm.idx [0] rfl rfl)).same (fun _ _ => OLe.refl _) (fun _ _ => VLe.refl _)).same (fun _ _ => OLe.refl _) (fun _ _ => VLe.refl _)) rfl rfl <| .g (OpG.gT rfl rfl rfl rfl (fun hg => opEql (.when (.t rfl) hg) (.c _))) rfl rfl <| .p (opAnd (.t rfl) (.t rfl)) rfl <| .p (opMove (.t rfl)) rfl <| .g (OpG.gT rfl rfl rfl rfl (fun hg => opMove (.t rfl))) rfl rfl <| .egT rfl rfl rfl rfl (fun hg => ((opCallE (rest := []) (president2_spec (X := X1) (z := 32) (q := 100) (m := m1) (T := anyT) (C := C1) (R := partH X2 32 100 anyT (C1) (m2))   (part_ok hA)) Tryd.cb37 (.cons (.when (.t rfl) hg) .nil) (Perm.idx [0] rfl rfl)).same (fun _ _ => OLe.refl _) (fun _ _ => VLe.refl _)).same (fun _ _ => OLe.refl _) (fun _ _ => VLe.refl _)) rfl rfl <| .g (OpG.gT rfl rfl rfl rfl (fun hg => opLeqX (n := 1) (.le (.when (.t rfl) hg) (VLe.of_eq (by rw [hn1]))) (.c _) (by decide))) rfl rfl <| .p (opAnd (.t rfl) (.t rfl)) rfl <| .p (opAssign (.t rfl)) rfl <| .nil ?_)
          refine EndT.thenN ?_
          refine CodeT.ret (Post.retP rfl rfl ?_)
          exact VLe.prop (by simp)

end Go.Proofs.YtiicgelmdmhajaaDoor
