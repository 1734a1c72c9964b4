/-
  Walks, printed by a program (gen.py) out of what its author says of each function.
-/
import Derived.Test.YtiicgelmdmhajaaDoorP07R
namespace Go.Proofs.YtiicgelmdmhajaaDoor
open Go.Hl Go.RowKit
set_option linter.unusedVariables false
set_option maxRecDepth 100000

theorem pagerZeros_spec {frames : UInt8} {pages : List UInt8} : FnP Tryd.prog 3 [intV .u8 (frames.toNat : Int), sliceV 1 encU8 pages] (propV True) := by
  refine FnE.intro 126 Tryd.func3 rfl rfl rfl fun w0 S0 M => ?_
  have h16 := class16
  refine CodeT.seq ?_
  refine CodeT.region (.p (opAssign .cf) rfl <| .nil ?_)
  refine EndT.thenN ?_
  refine CodeT.seq ?_
  refine CodeT.seq ?_
  refine CodeT.region (.p (opMove (.t rfl)) rfl <| .p (opLen rfl Tryd.underlying22 (.t rfl)) rfl <| .p (opGtr (.t rfl) (.c _)) rfl <| .p (opMove (.t rfl)) rfl <| .g (OpG.gF rfl rfl rfl rfl (fun hg => opCall (awake07_spec) Tryd.cb11 .nil)) rfl rfl <| .g (OpG.gF rfl rfl rfl rfl (fun hg => opNot (.when (.t rfl) hg))) rfl rfl <| .p (opOr (.t rfl) (.t rfl)) rfl <| .nil ?_)
  refine EndT.thenN ?_
  refine CodeT.cond (.t rfl) (fun c0 => ?_) (fun c0 => ?_)
  ·
    refine CodeT.seq ?_
    refine CodeT.region (.p (opCall (awake07_spec) Tryd.cb11 .nil) rfl <| .p (opAssign (.t rfl)) rfl <| .nil ?_)
    refine EndT.thenN ?_
    refine CodeT.ret (EndT.thenR (Post.retP rfl rfl ?_))
    exact VLe.prop (by simp)
  ·
    have hp40 : pages.length ≤ 40 := by omega
    refine CodeT.skip (EndT.thenN ?_)
    refine CodeT.seq ?_
    refine CodeT.region (.n (opCallE (rest := []) (anew_spec (n := 8192) (by decide)) Tryd.cb12 (.cons (.c _) .nil) (Perm.idx [] rfl rfl)) rfl <| fun g26 h26 => .p (opMove (.t rfl)) rfl <| .p (opExtract (.t rfl) rfl) rfl <| .p (opExtract (.t rfl) rfl) rfl <| .p (opAssign (.t rfl)) rfl <| .p (opAssign (.t rfl)) rfl <| .nil ?_)
    refine EndT.thenN ?_
    refine CodeT.seq ?_
    refine CodeT.region (.n (opCallE (rest := [_, _, _, _]) (snew_spec (n := 16) (cap := 300) (by decide) (by decide) (by decide) (by decide)) Tryd.cb13 (.cons (.c _) (.cons (.c _) .nil)) (Perm.idx [0, 1, 2, 3] rfl rfl)) rfl <| fun g30 h30 => .p (opMove (.t rfl)) rfl <| .p (opExtract (.t rfl) rfl) rfl <| .p (opExtract (.t rfl) rfl) rfl <| .p (opAssign (.t rfl)) rfl <| .p (opAssign (.t rfl)) rfl <| .nil ?_)
    refine EndT.thenN ?_
    refine CodeT.seq ?_
    refine CodeT.region (.p (opMove (.t rfl)) rfl <| .p (opMove (.t rfl)) rfl <| .p (opMove (.t rfl)) rfl <| .p (opRem (.t rfl) (.c _) (by omega) (by omega)) rfl <| .p (opConvF Tryd.underlying5 Tryd.underlying3 (.t rfl) (fits_i64 (by omega) (by omega))) rfl <| .p (opAddF (.c _) (.t rfl) (fits_i64 (by omega) (by omega))) rfl <| .n (opCallE (rest := []) (pnew_spec (Y := g26) (sb := g30) (z := 16) (q := 300) (n := 1 + frames.toNat % 8) (a0 := ⟨List.replicate 8192 0, 0, 0, []⟩) (arT_new h26 (by decide)) (by omega) (by omega) (by decide) (by decide) (by rw [h26, h16]; omega)) Tryd.cb14 (.cons (.t rfl) (.cons (.t rfl) (.cons (.t rfl) .nil))) (Perm.idx [0, 1, 2, 3, 4] rfl rfl)) rfl <| fun g40 h40 => .p (opMove (.t rfl)) rfl <| .p (opExtract (.t rfl) rfl) rfl <| .p (opExtract (.t rfl) rfl) rfl <| .p (opAssign (.t rfl)) rfl <| .p (opAssign (.t rfl)) rfl <| .nil ?_)
    refine EndT.thenN ?_
    obtain ⟨hX, hX2, hX1⟩ := h40
    subst hX2
    refine CodeT.own (pag_any (T' := fun _ => True) fun _ _ => trivial) ?_
    refine CodeT.own (OLe.headE (show pagH g40 16 300 (fun _ => True) (zeroC 16) 0 = pagH g40 16 300 (fun _ => True) (putC pages 0) 0 by rw [putC_zero])) ?_
    refine CodeT.seq ?_
    refine CodeT.seq ?_
    refine CodeT.region (.p (opAssign (.c _)) rfl <| .nil ?_)
    refine EndT.thenN ?_
    refine CodeT.block ?_
    refine CodeT.loopO (σ := Nat) (fun k => [pagH g40 16 300 (fun _ => True) (putC pages k) (k)]) (fun k => [(11, i64V (k : Int))]) (fun k => k ≤ pages.length) (fun k => pages.length - k) 0 ?_ rfl ?_ ?_
    · first | trivial | omega | simp
    · exact (.get rfl (VLe.refl _) (.refl _ _))
    · rintro k hk
      refine CodeT.seq ?_
      refine CodeT.seq ?_
      refine CodeT.region (.p (opMove (.t rfl)) rfl <| .p (opMove (.t rfl)) rfl <| .p (opLen rfl Tryd.underlying22 (.t rfl)) rfl <| .p (opLss (.t rfl) (.t rfl)) rfl <| .nil ?_)
      refine EndT.thenN ?_
      refine CodeT.cond (.t rfl) (fun c1 => ?_) (fun c1 => ?_)
      ·
        obtain ⟨x, hx⟩ := getElem?_lt (xs := pages) (k := k) (by omega)
        have hx256 := x.toNat_lt
        refine CodeT.skip (EndT.thenN ?_)
        refine CodeT.seq ?_
        refine CodeT.block ?_
        refine CodeT.seq ?_
        refine CodeT.draw 13 2 Tryd.mixed (by kernel_rfl) (.p (opMove (.t rfl)) <| .p (opMove (.t rfl)) <| .p (opMove (.t rfl)) <| .p (opIndexAddr (j := k) Tryd.underlying22 Tryd.cz5 rfl (.t rfl) (.t rfl) rfl (by assumption)) <| .p (opLoad Tryd.ag5 (.t rfl)) <| .p (opConvF Tryd.underlying5 Tryd.underlying3 (.t rfl) (fits_i64 (by omega) (by omega))) <| .p (opMove (.t rfl)) <| .p (opMove (.t rfl)) <| .p (opIndexAddr (j := k) Tryd.underlying22 Tryd.cz5 rfl (.t rfl) (.t rfl) rfl (by assumption)) <| .p (opLoad Tryd.ag5 (.t rfl)) <| .p (opRem (.t rfl) (.c _) (by omega) (by omega)) <| .p (opConvF Tryd.underlying5 Tryd.underlying3 (.t rfl) (fits_i64 (by omega) (by omega))) <| .p (opBuildSlice (enc := encU8) [1] Tryd.underlying22 Tryd.cz5 rfl Tryd.zb5 rfl (.cons (.c _) .nil) rfl rfl rfl rfl rfl) <| .nil) (.n (opCallE (rest := []) (pwrite_spec (X := g40) (z := 16) (q := 300) (m := k) (T := fun _ => True) (C := putC pages k) (mem := 0) (page := (x.toNat : Int)) (at_ := (x.toNat : Int) % 16) (ys := [1]) (by omega)) Tryd.cb15 (.cons (.t rfl) (.cons (.c _) (.cons (.t rfl) (.cons (.t rfl) (.cons (.t rfl) .nil))))) (Perm.idx [0] rfl rfl)) rfl <| fun g62 h62 => .p (opNeq (.t rfl) (.c _)) rfl <| .nil ?_)
        refine EndT.thenN ?_
        refine CodeT.cond (.t rfl) (fun c2 => ?_) (fun c2 => ?_)
        ·
          exact (c2 (congrArg Int.ofNat (wrong16 x.toNat))).elim
        ·
          refine CodeT.skip (EndT.blkN (EndT.thenN ?_))
          refine CodeT.region (.p (opMove (.t rfl)) rfl <| .p (opAddF (.t rfl) (.c _) (fits_i64 (by omega) (by omega))) rfl <| .p (opAssign (.t rfl)) rfl <| .nil ?_)
          refine EndT.round (k + 1) (by omega) (by omega) (by rw [← putC_succ hx]; rfl) ?_
          exact (.get rfl (VLe.int (by omega)) ((.keep 23 rfl rfl)))
      ·
        have hkl : k = pages.length := by omega
        subst hkl
        refine CodeT.exit (EndT.thenX (EndT.thenX (EndT.blkX (EndT.thenN ?_))))
        refine CodeT.seq ?_
        refine CodeT.seq ?_
        refine CodeT.region (.p (opMove (.t rfl)) rfl <| .n (opCallE (rest := []) (pflush_spec (X := g40) (z := 16) (q := 300) (m := pages.length) (T := fun _ => True) (C := putC pages pages.length)) Tryd.cb16 (.cons (.t rfl) .nil) (Perm.idx [0] rfl rfl)) rfl <| fun g65 h65 => .p (opNeq (.t rfl) (.c _)) rfl <| .nil ?_)
        refine EndT.thenN ?_
        refine CodeT.cond (.t rfl) (fun c3 => ?_) (fun c3 => ?_)
        ·
          exact absurd rfl c3
        ·
          refine CodeT.skip (EndT.thenN ?_)
          refine CodeT.seq ?_
          refine CodeT.region (.p (opAssign (.c _)) rfl <| .nil ?_)
          refine EndT.thenN ?_
          refine CodeT.seq ?_
          refine CodeT.seq ?_
          refine CodeT.region (.p (opAssign (.c _)) rfl <| .nil ?_)
          refine EndT.thenN ?_
          refine CodeT.block ?_
          refine CodeT.loopO (σ := Nat) (fun _ => _) (fun i => [(13, i64V (i : Int)), (12, i64V ((dstN (pages.take i)).length : Int))]) (fun i => i ≤ pages.length) (fun i => pages.length - i) 0 ?_ rfl ?_ ?_
          · first | trivial | omega | simp
          · exact (.get rfl (VLe.refl _) (.get rfl (VLe.refl _) (.refl _ _)))
          · rintro i hi
            have hdl0 : (dstN (pages.take i)).length ≤ pages.length := pigeon (dst_nodup _) fun x hx => List.mem_of_mem_take (dst_mem.1 hx)
            refine CodeT.seq ?_
            refine CodeT.seq ?_
            refine CodeT.region (.p (opMove (.t rfl)) rfl <| .p (opMove (.t rfl)) rfl <| .p (opLen rfl Tryd.underlying22 (.t rfl)) rfl <| .p (opLss (.t rfl) (.t rfl)) rfl <| .nil ?_)
            refine EndT.thenN ?_
            refine CodeT.cond (.t rfl) (fun c4 => ?_) (fun c4 => ?_)
            ·
              obtain ⟨x, hx⟩ := getElem?_lt (xs := pages) (k := i) (by omega)
              refine CodeT.skip (EndT.thenN ?_)
              refine CodeT.cut (σ := Unit) (fun _ => [pagH g40 16 300 cleanP (putC pages pages.length) pages.length]) (fun _ => [(12, i64V ((dstN (pages.take (i + 1))).length : Int))]) (fun _ => True) ?_ ?_
              ·
                refine CodeT.block ?_
                refine CodeT.seq ?_
                refine CodeT.region (.p (opAssign .ct) rfl <| .nil ?_)
                refine EndT.thenN ?_
                refine CodeT.seq ?_
                refine CodeT.seq ?_
                refine CodeT.region (.p (opAssign (.c _)) rfl <| .nil ?_)
                refine EndT.thenN ?_
                refine CodeT.block ?_
                refine CodeT.loopO (σ := Nat) (fun _ => _) (fun j => [(15, i64V (j : Int)), (14, propV (∀ y ∈ pages.take j, y ≠ x))]) (fun j => j ≤ i) (fun j => i - j) 0 ?_ rfl ?_ ?_
                · first | trivial | omega | simp
                · exact (.get rfl (VLe.refl _) (.get rfl (VLe.prop (by simp)) (.refl _ _)))
                · rintro j hj
                  refine CodeT.seq ?_
                  refine CodeT.seq ?_
                  refine CodeT.region (.p (opMove (.t rfl)) rfl <| .p (opMove (.t rfl)) rfl <| .p (opLss (.t rfl) (.t rfl)) rfl <| .nil ?_)
                  refine EndT.thenN ?_
                  refine CodeT.cond (.t rfl) (fun c5 => ?_) (fun c5 => ?_)
                  ·
                    obtain ⟨y, hy⟩ := getElem?_lt (xs := pages) (k := j) (by omega)
                    refine CodeT.skip (EndT.thenN ?_)
                    refine CodeT.seq ?_
                    refine CodeT.block ?_
                    refine CodeT.draw 10 3 Tryd.mixed (by kernel_rfl) (.p (opMove (.t rfl)) <| .p (opMove (.t rfl)) <| .cons (OpG.gT rfl rfl rfl rfl (fun hg => opMove (.t rfl))) <| .cons (OpG.gT rfl rfl rfl rfl (fun hg => opMove (.t rfl))) <| .cons (OpG.gT rfl rfl rfl rfl (fun hg => opIndexAddr (j := j) Tryd.underlying22 Tryd.cz5 rfl (.when (.t rfl) hg) (.when (.t rfl) hg) rfl (by assumption))) <| .cons (OpG.gT rfl rfl rfl rfl (fun hg => opLoad Tryd.ag5 (.when (.t rfl) hg))) <| .cons (OpG.gT rfl rfl rfl rfl (fun hg => opMove (.t rfl))) <| .cons (OpG.gT rfl rfl rfl rfl (fun hg => opMove (.t rfl))) <| .cons (OpG.gT rfl rfl rfl rfl (fun hg => opIndexAddr (j := i) Tryd.underlying22 Tryd.cz5 rfl (.when (.t rfl) hg) (.when (.t rfl) hg) rfl (by assumption))) <| .cons (OpG.gT rfl rfl rfl rfl (fun hg => opLoad Tryd.ag5 (.when (.t rfl) hg))) <| .nil) (.g (OpG.gT rfl rfl rfl rfl (fun hg => opNeq (.when (.t rfl) hg) (.when (.t rfl) hg))) rfl rfl <| .p (opAnd (.t rfl) (.t rfl)) rfl <| .p (opAssign (.t rfl)) rfl <| .nil ?_)
                    refine EndT.blkN (EndT.thenN ?_)
                    refine CodeT.region (.p (opMove (.t rfl)) rfl <| .p (opAddF (.t rfl) (.c _) (fits_i64 (by omega) (by omega))) rfl <| .p (opAssign (.t rfl)) rfl <| .nil ?_)
                    refine EndT.round (j + 1) (by omega) (by omega) rfl ?_
                    exact (.get rfl (VLe.int (by omega)) (.get rfl (VLe.prop (by (rw [take_succ' hy]; simp only [List.mem_append, List.mem_singleton]; constructor; (rintro ⟨h1, h2⟩ z (hz | hz); (exact h1 z hz); (subst hz; exact fun e => h2 (by rw [e]))); (intro h1; exact ⟨fun z hz => h1 z (.inl hz), fun e => h1 y (.inr rfl) (UInt8.toNat_inj.1 (by omega))⟩)))) ((.keep 21 rfl rfl))))
                  ·
                    have hji : j = i := by omega
                    subst hji
                    refine CodeT.exit (EndT.thenX (EndT.thenX (EndT.blkX (EndT.thenN ?_))))
                    refine CodeT.seq ?_
                    refine CodeT.region (.p (opMove (.t rfl)) rfl <| .nil ?_)
                    refine EndT.thenN ?_
                    refine CodeT.cond (.t rfl) (fun c6 => ?_) (fun c6 => ?_)
                    ·
                      have hdl : (dstN (pages.take (j + 1))).length = (dstN (pages.take j)).length + 1 := by (rw [dst_succ hx, if_neg (fun h => c6 x h rfl)]; simp)
                      refine CodeT.region (.p (opMove (.t rfl)) rfl <| .p (opAddF (.t rfl) (.c _) (fits_i64 (by omega) (by omega))) rfl <| .p (opAssign (.t rfl)) rfl <| .nil ?_)
                      refine EndT.blkN (EndT.meet () trivial rfl (.get rfl (VLe.int (by omega)) (.keep 11 rfl rfl)))
                    ·
                      have hdl : (dstN (pages.take (j + 1))).length = (dstN (pages.take j)).length := by (rw [dst_succ hx, if_pos (Classical.byContradiction fun h => c6 fun y hy e => h (e ▸ hy))])
                      refine CodeT.skip (EndT.blkN (EndT.meet () trivial rfl (.get rfl (VLe.int (by omega)) (.keep 8 rfl rfl))))
              ·
                intro _ _
                refine CodeT.region (.p (opMove (.t rfl)) rfl <| .p (opAddF (.t rfl) (.c _) (fits_i64 (by omega) (by omega))) rfl <| .p (opAssign (.t rfl)) rfl <| .nil ?_)
                refine EndT.round (i + 1) (by omega) (by omega) rfl ?_
                exact (.get rfl (VLe.int (by omega)) (.get rfl (VLe.refl _) ((.keep 10 rfl rfl))))
            ·
              have hil : i = pages.length := by omega
              subst hil
              refine CodeT.exit (EndT.thenX (EndT.thenX (EndT.blkX (EndT.thenN ?_))))
              refine CodeT.seq ?_
              refine CodeT.seq ?_
              refine CodeT.region (.p (opMove (.t rfl)) rfl <| .n ((opCallE (rest := []) (pused_spec (X := g40) (z := 16) (q := 300) (T := cleanP) (C := putC pages pages.length) (ks := keysD pages) (fun p h => h) (keysD_nodup pages) (keysD_nz pages)) Tryd.cb17 (.cons (.t rfl) .nil) (Perm.idx [0] rfl rfl)).same (fun _ _ => OLe.refl _) (fun _ _ => VLe.refl _)) rfl <| fun _ _ => .p (opMove (.t rfl)) rfl <| .p (opNeq (.t rfl) (.t rfl)) rfl <| .nil ?_)
              refine EndT.thenN ?_
              refine CodeT.cond (.t rfl) (fun c7 => ?_) (fun c7 => ?_)
              ·
                exfalso; apply c7; rw [keysD_len, List.take_length]
              ·
                refine CodeT.skip (EndT.thenN ?_)
                refine CodeT.seq ?_
                refine CodeT.seq ?_
                refine CodeT.region (.p (opAssign (.c _)) rfl <| .nil ?_)
                refine EndT.thenN ?_
                refine CodeT.block ?_
                refine CodeT.own (pag_any (T' := fun _ => True) fun _ _ => trivial) ?_
                refine CodeT.own (OLe.headE (show pagH g40 16 300 (fun _ => True) (putC pages pages.length) pages.length = pagH g40 16 300 (fun _ => True) (clrC pages 0) (pages.length + 0) by rw [clrC_zero]; rfl)) ?_
                refine CodeT.loopO (σ := Nat) (fun k => [pagH g40 16 300 (fun _ => True) (clrC pages k) (pages.length + k)]) (fun k => [(16, i64V (k : Int))]) (fun k => k ≤ pages.length) (fun k => pages.length - k) 0 ?_ rfl ?_ ?_
                · first | trivial | omega | simp
                · exact (.get rfl (VLe.refl _) (.refl _ _))
                · rintro k hk
                  refine CodeT.seq ?_
                  refine CodeT.seq ?_
                  refine CodeT.region (.p (opMove (.t rfl)) rfl <| .p (opMove (.t rfl)) rfl <| .p (opLen rfl Tryd.underlying22 (.t rfl)) rfl <| .p (opLss (.t rfl) (.t rfl)) rfl <| .nil ?_)
                  refine EndT.thenN ?_
                  refine CodeT.cond (.t rfl) (fun c8 => ?_) (fun c8 => ?_)
                  ·
                    obtain ⟨x, hx⟩ := getElem?_lt (xs := pages) (k := k) (by omega)
                    have hx256 := x.toNat_lt
                    refine CodeT.skip (EndT.thenN ?_)
                    refine CodeT.seq ?_
                    refine CodeT.block ?_
                    refine CodeT.seq ?_
                    refine CodeT.draw 13 2 Tryd.mixed (by kernel_rfl) (.p (opMove (.t rfl)) <| .p (opMove (.t rfl)) <| .p (opMove (.t rfl)) <| .p (opIndexAddr (j := k) Tryd.underlying22 Tryd.cz5 rfl (.t rfl) (.t rfl) rfl (by assumption)) <| .p (opLoad Tryd.ag5 (.t rfl)) <| .p (opConvF Tryd.underlying5 Tryd.underlying3 (.t rfl) (fits_i64 (by omega) (by omega))) <| .p (opMove (.t rfl)) <| .p (opMove (.t rfl)) <| .p (opIndexAddr (j := k) Tryd.underlying22 Tryd.cz5 rfl (.t rfl) (.t rfl) rfl (by assumption)) <| .p (opLoad Tryd.ag5 (.t rfl)) <| .p (opRem (.t rfl) (.c _) (by omega) (by omega)) <| .p (opConvF Tryd.underlying5 Tryd.underlying3 (.t rfl) (fits_i64 (by omega) (by omega))) <| .p (opBuildSlice (enc := encU8) [0] Tryd.underlying22 Tryd.cz5 rfl Tryd.zb5 rfl (.cons (.c _) .nil) rfl rfl rfl rfl rfl) <| .nil) (.n (opCallE (rest := []) (pwrite_spec (X := g40) (z := 16) (q := 300) (m := pages.length + k) (T := fun _ => True) (C := clrC pages k) (mem := 0) (page := (x.toNat : Int)) (at_ := (x.toNat : Int) % 16) (ys := [0]) (by omega)) Tryd.cb15 (.cons (.t rfl) (.cons (.c _) (.cons (.t rfl) (.cons (.t rfl) (.cons (.t rfl) .nil))))) (Perm.idx [0] rfl rfl)) rfl <| fun g116 h116 => .p (opNeq (.t rfl) (.c _)) rfl <| .nil ?_)
                    refine EndT.thenN ?_
                    refine CodeT.cond (.t rfl) (fun c9 => ?_) (fun c9 => ?_)
                    ·
                      exact (c9 (congrArg Int.ofNat (wrong16 x.toNat))).elim
                    ·
                      refine CodeT.skip (EndT.blkN (EndT.thenN ?_))
                      refine CodeT.region (.p (opMove (.t rfl)) rfl <| .p (opAddF (.t rfl) (.c _) (fits_i64 (by omega) (by omega))) rfl <| .p (opAssign (.t rfl)) rfl <| .nil ?_)
                      refine EndT.round (k + 1) (by omega) (by omega) (by rw [← clrC_succ hx]; rfl) ?_
                      exact (.get rfl (VLe.int (by omega)) ((.keep 23 rfl rfl)))
                  ·
                    have hkl : k = pages.length := by omega
                    subst hkl
                    refine CodeT.exit (EndT.thenX (EndT.thenX (EndT.blkX (EndT.thenN ?_))))
                    refine CodeT.seq ?_
                    refine CodeT.region (.p (opMove (.t rfl)) rfl <| .n (opCallE (rest := []) (pflush_spec (X := g40) (z := 16) (q := 300) (m := pages.length + pages.length) (T := fun _ => True) (C := clrC pages pages.length)) Tryd.cb16 (.cons (.t rfl) .nil) (Perm.idx [0] rfl rfl)) rfl <| fun g119 h119 => .p (opEql (.t rfl) (.c _)) rfl <| .p (opMove (.t rfl)) rfl <| .g (OpG.gT rfl rfl rfl rfl (fun hg => opMove (.t rfl))) rfl rfl <| .egT rfl rfl rfl rfl (fun hg => ((opCallE (rest := []) (pused_spec (X := g40) (z := 16) (q := 300) (T := cleanP) (C := clrC pages pages.length) (ks := []) (fun p h => h) (by decide) (fun k => ⟨fun h => (by cases h), fun h => absurd clrC_nil h⟩)) Tryd.cb17 (.cons (.when (.t rfl) hg) .nil) (Perm.idx [0] rfl rfl)).same (fun _ _ => OLe.refl _) (fun _ _ => VLe.refl _)).same (fun _ _ => OLe.refl _) (fun _ _ => VLe.refl _)) rfl rfl <| .g (OpG.gT rfl rfl rfl rfl (fun hg => opEql (.when (.t rfl) hg) (.c _))) rfl rfl <| .p (opAnd (.t rfl) (.t rfl)) rfl <| .p (opAssign (.t rfl)) rfl <| .nil ?_)
                    refine EndT.thenN ?_
                    refine CodeT.ret (Post.retP rfl rfl ?_)
                    exact VLe.prop (by simp)

end Go.Proofs.YtiicgelmdmhajaaDoor
