/-
  Walks, printed by a program (gen.py) out of what its author says of each function.
-/
import Derived.Test.YtgmpadhfgohodaaDoorP23T
namespace Go.Proofs.YtgmpadhfgohodaaDoor
open Go.Hl Go.RowKit
set_option linter.unusedVariables false
set_option maxRecDepth 100000

set_option maxHeartbeats 4000000 in
theorem rstep_spec {l : List InstrD} (hp0 : SmL l 60000) : FnP Tryd.prog 8 [sliceV 5 encInstr (l)] (tupV [sliceV 5 encInstr ((stepR l).1), iV ((stepR l).2 : Int)]) := by
  refine FnE.intro 205 Tryd.func8 rfl rfl rfl fun w0 S0 M => ?_
  have hll := hp0.len
  refine CodeT.seq ?_
  refine CodeT.region (.p (opAssign (.c _)) rfl <| .p (opAssign (.c _)) rfl <| .nil ?_)
  refine EndT.thenN ?_
  refine CodeT.seq ?_
  refine CodeT.seq ?_
  refine CodeT.region (.p (opAssign (.c _)) rfl <| .nil ?_)
  refine EndT.thenN ?_
  refine CodeT.block ?_
  refine CodeT.loopO (σ := Nat) (fun _ => []) (fun i => [(4, iV (i : Int))]) (fun i => i ≤ l.length ∧ stepK l i = none) (fun i => l.length - i) 0 ⟨Nat.zero_le _, rfl⟩ rfl ?_ ?_
  · exact (.get rfl (VLe.refl _) (.refl _ _))
  · rintro i ⟨hi, hno⟩
    refine CodeT.seq ?_
    refine CodeT.seq ?_
    refine CodeT.region (.p (opMove (.t rfl)) rfl <| .p (opMove (.t rfl)) rfl <| .p (opLen rfl Tryd.underlying22 (.t rfl)) rfl <| .p (opLss (.t rfl) (.t rfl)) rfl <| .nil ?_)
    refine EndT.thenN ?_
    refine CodeT.cond (.t rfl) (fun c0 => ?_) (fun c0 => ?_)
    ·
      have hil : i < l.length := by omega
      obtain ⟨ha1, ha2⟩ := okA (hp0.gI (i := i))
      obtain ⟨hb1, hb2⟩ := okA (hp0.gI (i := i + 1))
      refine CodeT.skip (EndT.thenN ?_)
      refine CodeT.seq ?_
      refine CodeT.block ?_
      refine CodeT.seq ?_
      refine CodeT.region (.p (opAssign (.c _)) rfl <| .nil ?_)
      refine EndT.thenN ?_
      refine CodeT.seq ?_
      refine CodeT.region (.p (opAssign (.c _)) rfl <| .p (opAssign (.c _)) rfl <| .nil ?_)
      refine EndT.thenN ?_
      refine CodeT.seq ?_
      refine CodeT.region (.p (opMove (.t rfl)) rfl <| .p (opMove (.t rfl)) rfl <| .p (opIndexAddr (j := i) Tryd.underlying22 Tryd.cz40 rfl (.t rfl) (.t rfl) rfl (gI_in (by omega))) rfl <| .p (opLoadA Tryd.ag40 Tryd.cz40 rfl (.t rfl) rfl) rfl <| .n (opAlloc Tryd.zb40) rfl <| fun b8 _ => .s (opStoreOA (i := 0) Tryd.cz40 rfl (.t rfl) (.t rfl) rfl rfl rfl) <| .nil ?_)
      refine EndT.thenN ?_
      refine CodeT.seq ?_
      refine CodeT.region (.n (opAlloc Tryd.zb40) rfl <| fun b9 _ => .n (opAlloc Tryd.zb40) rfl <| fun b10 _ => .nil ?_)
      refine EndT.thenN ?_
      refine CodeT.seq ?_
      refine CodeT.region (.p (opFieldO Tryd.fd40_0 (.t rfl)) rfl <| .s (opStoreO (i := 1) Tryd.cz3 (.t rfl) (.c _) rfl rfl) <| .p (opFieldO Tryd.fd40_0 (.t rfl)) rfl <| .s (opStoreO (i := 0) Tryd.cz3 (.t rfl) (.c _) rfl rfl) <| .nil ?_)
      refine EndT.thenN ?_
      refine CodeT.own (OLe.trans (OLe.cellsY noI_le) (OLe.cons _ (OLe.cellsY noI_le))) ?_
      refine CodeT.cut (σ := Unit) (fun _ => [cellsH b10 (encInstr noI), cellsH b9 (encInstr (gI l (i + 1))), cellsH b8 (encInstr (gI l i))]) (fun _ => []) (fun _ => True) ?_ ?_
      ·
        refine CodeT.seq ?_
        refine CodeT.region (.p (opMove (.t rfl)) rfl <| .p (opAddF (.t rfl) (.c _) (fits_i64 (by omega) (by omega))) rfl <| .p (opMove (.t rfl)) rfl <| .p (opLen rfl Tryd.underlying22 (.t rfl)) rfl <| .p (opLss (.t rfl) (.t rfl)) rfl <| .nil ?_)
        refine EndT.thenN ?_
        refine CodeT.cond (.t rfl) (fun c1 => ?_) (fun c1 => ?_)
        ·
          refine CodeT.region (.p (opMove (.t rfl)) rfl <| .p (opMove (.t rfl)) rfl <| .p (opAddF (.t rfl) (.c _) (fits_i64 (by omega) (by omega))) rfl <| .p (opIndexAddr (j := i + 1) Tryd.underlying22 Tryd.cz40 rfl (.t rfl) (.t rfl) (by omega) (gI_in (by omega))) rfl <| .p (opLoadA Tryd.ag40 Tryd.cz40 rfl (.t rfl) rfl) rfl <| .s (opStoreOA (i := 1) Tryd.cz40 rfl (.t rfl) (.t rfl) rfl rfl rfl) <| .nil ?_)
          refine EndT.meet () trivial (by first | rfl | (rw [gI_out (i := i + 1) (by omega)]; first | done | rfl)) (.keep 10 rfl rfl)
        ·
          refine CodeT.skip (EndT.meet () trivial (by first | rfl | (rw [gI_out (i := i + 1) (by omega)]; first | done | rfl)) (.keep 5 rfl rfl))
      ·
        intro _ _
        refine CodeT.cut (σ := Unit) (fun _ => [cellsH b10 (encInstr (gI l (i + 2))), cellsH b9 (encInstr (gI l (i + 1))), cellsH b8 (encInstr (gI l i))]) (fun _ => []) (fun _ => True) ?_ ?_
        ·
          refine CodeT.seq ?_
          refine CodeT.region (.p (opMove (.t rfl)) rfl <| .p (opAddF (.t rfl) (.c _) (fits_i64 (by omega) (by omega))) rfl <| .p (opMove (.t rfl)) rfl <| .p (opLen rfl Tryd.underlying22 (.t rfl)) rfl <| .p (opLss (.t rfl) (.t rfl)) rfl <| .nil ?_)
          refine EndT.thenN ?_
          refine CodeT.cond (.t rfl) (fun c2 => ?_) (fun c2 => ?_)
          ·
            refine CodeT.region (.p (opMove (.t rfl)) rfl <| .p (opMove (.t rfl)) rfl <| .p (opAddF (.t rfl) (.c _) (fits_i64 (by omega) (by omega))) rfl <| .p (opIndexAddr (j := i + 2) Tryd.underlying22 Tryd.cz40 rfl (.t rfl) (.t rfl) (by omega) (gI_in (by omega))) rfl <| .p (opLoadA Tryd.ag40 Tryd.cz40 rfl (.t rfl) rfl) rfl <| .s (opStoreOA (i := 0) Tryd.cz40 rfl (.t rfl) (.t rfl) rfl rfl rfl) <| .nil ?_)
            refine EndT.meet () trivial (by first | rfl | (rw [gI_out (i := i + 2) (by omega)]; first | done | rfl)) (.keep 10 rfl rfl)
          ·
            refine CodeT.skip (EndT.meet () trivial (by first | rfl | (rw [gI_out (i := i + 2) (by omega)]; first | done | rfl)) (.keep 5 rfl rfl))
        ·
          intro _ _
          refine CodeT.cut (σ := Stp) (fun _ => [cellsH b10 (encInstr (gI l (i + 2))), cellsH b9 (encInstr (gI l (i + 1))), cellsH b8 (encInstr (gI l i))]) (fun g => [(5, sliceV 5 encInstr g.2.2), (6, iV (g.1 : Int)), (7, iV (g.2.1 : Int))]) (fun g => g = stF (gI l i) (gI l (i + 1)) (gI l (i + 2)) (i + 1 < l.length) 1) ?_ ?_
          ·
            refine CodeT.seq ?_
            refine CodeT.region (.p (opFieldO Tryd.fd40_0 (.t rfl)) rfl <| .p (opLoadO (i := 2) Tryd.ag3 (.t rfl) rfl rfl) rfl <| .p (opEql (.t rfl) (.c _)) rfl <| .nil ?_)
            refine EndT.thenN ?_
            refine CodeT.cond (.t rfl) (fun c3 => ?_) (fun c3 => ?_)
            ·
              refine CodeT.region (.p (opAssign (.c _)) rfl <| .p (opAssign (.c _)) rfl <| .nil ?_)
              refine EndT.meet (1, 1, []) (by show (1, 1, []) = stF (gI l i) (gI l (i + 1)) (gI l (i + 2)) (i + 1 < l.length) 1; exact (stF_yes rfl (by simp only [stK]; rw [if_pos c3])).symm) rfl (.get rfl (sliceV_nil 5 encInstr) (.get rfl (VLe.refl _) (.get rfl (VLe.refl _) (.keep 5 rfl rfl))))
            ·
              refine CodeT.skip (EndT.meet (0, 0, []) (by show (0, 0, []) = stF (gI l i) (gI l (i + 1)) (gI l (i + 2)) (i + 1 < l.length) 1; exact (stF_no (x := gI l i) (y := gI l (i + 1)) (z := gI l (i + 2)) (m := i + 1 < l.length) (k := 0) (by simp only [stK]; rw [if_neg c3])).symm) rfl (.get rfl (sliceV_nil 5 encInstr) (.get rfl (VLe.refl _) (.get rfl (VLe.refl _) (.keep 3 rfl rfl)))))
          ·
            intro s1 hs1
            refine CodeT.cut (σ := Stp) (fun _ => [cellsH b10 (encInstr (gI l (i + 2))), cellsH b9 (encInstr (gI l (i + 1))), cellsH b8 (encInstr (gI l i))]) (fun g => [(5, sliceV 5 encInstr g.2.2), (6, iV (g.1 : Int)), (7, iV (g.2.1 : Int))]) (fun g => g = stF (gI l i) (gI l (i + 1)) (gI l (i + 2)) (i + 1 < l.length) 2) ?_ ?_
            ·
              refine CodeT.seq ?_
              refine CodeT.region (.p (opMove (.t rfl)) rfl <| .p (opEql (.t rfl) (.c _)) rfl <| .p (opMove (.t rfl)) rfl <| .g (OpG.gT rfl rfl rfl rfl (fun hg => opLoadOA (i := 2) Tryd.ag40 Tryd.cz40 rfl (.t rfl) rfl rfl)) rfl rfl <| .g (OpG.gT rfl rfl rfl rfl (fun hg => opCall (ris_spec) Tryd.cb20 (.cons (.when (.t rfl) hg) .nil))) rfl rfl <| .p (opAnd (.t rfl) (.t rfl)) rfl <| .nil ?_)
              refine EndT.thenN ?_
              refine CodeT.cond (.t rfl) (fun c4 => ?_) (fun c4 => ?_)
              ·
                have hz1 : (stF (gI l i) (gI l (i + 1)) (gI l (i + 2)) (i + 1 < l.length) 1).2.1 = 0 := by rw [← hs1]; have := c4.1; omega
                refine CodeT.seq ?_
                refine CodeT.region (.p (opFieldO Tryd.fd40_0 (.t rfl)) rfl <| .p (opLoadO (i := 1) Tryd.ag3 (.t rfl) rfl rfl) rfl <| .p (opFieldO Tryd.fd40_1 (.t rfl)) rfl <| .p ((opLoadO (i := 2) Tryd.ag37 (.t rfl) rfl rfl).le (VLe.int ha1)) rfl <| .p (opCall (rone_spec (a := XA l i) ha2) Tryd.cb21 (.cons (.t rfl) (.cons (.t rfl) .nil))) rfl <| .p (opMove (.t rfl)) rfl <| .p (opExtract (.t rfl) rfl) rfl <| .p (opExtract (.t rfl) rfl) rfl <| .p (opAssign (.t rfl)) rfl <| .p (opAssign (.t rfl)) rfl <| .nil ?_)
                refine EndT.thenN ?_
                refine CodeT.seq ?_
                refine CodeT.region (.p (opMove (.t rfl)) rfl <| .nil ?_)
                refine EndT.thenN ?_
                refine CodeT.cond (.t rfl) (fun c5 => ?_) (fun c5 => ?_)
                ·
                  refine CodeT.seq ?_
                  refine CodeT.region (.p (opFieldO Tryd.fd40_0 (.t rfl)) rfl <| .p (opLoadO (i := 1) Tryd.ag3 (.t rfl) rfl rfl) rfl <| .p (opMove (.t rfl)) rfl <| .p (opCall (rof_spec (one_code c5)) Tryd.cb22 (.cons (.t rfl) (.cons (.t rfl) .nil))) rfl <| .p (opBuildSlice (enc := encInstr) [mkI (outC (gI l (i + 1)).Code) ((oneC (gI l (i + 1)).Code (XA l i)).getD 0)] Tryd.underlying22 Tryd.cz40 rfl Tryd.zb40 rfl (.cons (.t rfl) .nil) rfl rfl rfl rfl rfl) rfl <| .p (opAssign (.t rfl)) rfl <| .nil ?_)
                  refine EndT.thenN ?_
                  refine CodeT.region (.p (opAssign (.c _)) rfl <| .p (opAssign (.c _)) rfl <| .nil ?_)
                  refine EndT.meet (2, 2, [mkI (outC (gI l (i + 1)).Code) ((oneC (gI l (i + 1)).Code (XA l i)).getD 0)]) (by show (2, 2, [mkI (outC (gI l (i + 1)).Code) ((oneC (gI l (i + 1)).Code (XA l i)).getD 0)]) = stF (gI l i) (gI l (i + 1)) (gI l (i + 2)) (i + 1 < l.length) 2; exact (stF_yes hz1 (by simp only [stK]; rw [if_pos c4.2, one_at c5]; rfl)).symm) rfl (.get rfl (VLe.refl _) (.get rfl (VLe.refl _) (.get rfl (VLe.refl _) (.keep 25 rfl rfl))))
                ·
                  refine CodeT.skip (EndT.meet s1 (by show s1 = stF (gI l i) (gI l (i + 1)) (gI l (i + 2)) (i + 1 < l.length) 2; rw [hs1]; exact (stF_no (by simp only [stK]; rw [if_pos c4.2, one_not c5]; rfl)).symm) rfl (.get rfl (VLe.refl _) (.get rfl (VLe.refl _) (.get rfl (VLe.refl _) (.keep 17 rfl rfl)))))
              ·
                refine CodeT.skip (EndT.meet s1 (by show s1 = stF (gI l i) (gI l (i + 1)) (gI l (i + 2)) (i + 1 < l.length) 2; rw [hs1]; exact (stF_not (p := isC (gI l i)) (fun h => c4 ⟨by rw [hs1]; have := h.1; omega, h.2⟩) (fun h => by simp only [stK]; rw [if_neg h])).symm) rfl (.get rfl (VLe.refl _) (.get rfl (VLe.refl _) (.get rfl (VLe.refl _) (.keep 6 rfl rfl)))))
            ·
              intro s2 hs2
              refine CodeT.cut (σ := Stp) (fun _ => [cellsH b10 (encInstr (gI l (i + 2))), cellsH b9 (encInstr (gI l (i + 1))), cellsH b8 (encInstr (gI l i))]) (fun g => [(5, sliceV 5 encInstr g.2.2), (6, iV (g.1 : Int)), (7, iV (g.2.1 : Int))]) (fun g => g = stF (gI l i) (gI l (i + 1)) (gI l (i + 2)) (i + 1 < l.length) 3) ?_ ?_
              ·
                refine CodeT.seq ?_
                refine CodeT.region (.p (opMove (.t rfl)) rfl <| .p (opEql (.t rfl) (.c _)) rfl <| .p (opMove (.t rfl)) rfl <| .g (OpG.gT rfl rfl rfl rfl (fun hg => opLoadOA (i := 2) Tryd.ag40 Tryd.cz40 rfl (.t rfl) rfl rfl)) rfl rfl <| .g (OpG.gT rfl rfl rfl rfl (fun hg => opCall (ris_spec) Tryd.cb20 (.cons (.when (.t rfl) hg) .nil))) rfl rfl <| .p (opAnd (.t rfl) (.t rfl)) rfl <| .p (opMove (.t rfl)) rfl <| .g (OpG.gT rfl rfl rfl rfl (fun hg => opLoadOA (i := 1) Tryd.ag40 Tryd.cz40 rfl (.t rfl) rfl rfl)) rfl rfl <| .g (OpG.gT rfl rfl rfl rfl (fun hg => opCall (ris_spec) Tryd.cb20 (.cons (.when (.t rfl) hg) .nil))) rfl rfl <| .p (opAnd (.t rfl) (.t rfl)) rfl <| .nil ?_)
                refine EndT.thenN ?_
                refine CodeT.cond (.t rfl) (fun c6 => ?_) (fun c6 => ?_)
                ·
                  have hz2 : (stF (gI l i) (gI l (i + 1)) (gI l (i + 2)) (i + 1 < l.length) 2).2.1 = 0 := by rw [← hs2]; have := c6.1.1; omega
                  refine CodeT.seq ?_
                  refine CodeT.region (.p (opFieldO Tryd.fd40_0 (.t rfl)) rfl <| .p (opLoadO (i := 0) Tryd.ag3 (.t rfl) rfl rfl) rfl <| .p (opFieldO Tryd.fd40_1 (.t rfl)) rfl <| .p ((opLoadO (i := 2) Tryd.ag37 (.t rfl) rfl rfl).le (VLe.int ha1)) rfl <| .p (opFieldO Tryd.fd40_1 (.t rfl)) rfl <| .p ((opLoadO (i := 1) Tryd.ag37 (.t rfl) rfl rfl).le (VLe.int hb1)) rfl <| .p (opCall (rtwo_spec (a := XA l i) (b := XA l (i + 1)) ha2 hb2) Tryd.cb23 (.cons (.t rfl) (.cons (.t rfl) (.cons (.t rfl) .nil)))) rfl <| .p (opMove (.t rfl)) rfl <| .p (opExtract (.t rfl) rfl) rfl <| .p (opExtract (.t rfl) rfl) rfl <| .p (opAssign (.t rfl)) rfl <| .p (opAssign (.t rfl)) rfl <| .nil ?_)
                  refine EndT.thenN ?_
                  refine CodeT.seq ?_
                  refine CodeT.region (.p (opMove (.t rfl)) rfl <| .nil ?_)
                  refine EndT.thenN ?_
                  refine CodeT.cond (.t rfl) (fun c7 => ?_) (fun c7 => ?_)
                  ·
                    refine CodeT.seq ?_
                    refine CodeT.region (.p (opFieldO Tryd.fd40_0 (.t rfl)) rfl <| .p (opLoadO (i := 0) Tryd.ag3 (.t rfl) rfl rfl) rfl <| .p (opMove (.t rfl)) rfl <| .p (opCall (rof_spec (two_code c7)) Tryd.cb22 (.cons (.t rfl) (.cons (.t rfl) .nil))) rfl <| .p (opBuildSlice (enc := encInstr) [mkI (outC (gI l (i + 2)).Code) (twoV (gI l (i + 2)).Code (XA l i) (XA l (i + 1)))] Tryd.underlying22 Tryd.cz40 rfl Tryd.zb40 rfl (.cons (.t rfl) .nil) rfl rfl rfl rfl rfl) rfl <| .p (opAssign (.t rfl)) rfl <| .nil ?_)
                    refine EndT.thenN ?_
                    refine CodeT.region (.p (opAssign (.c _)) rfl <| .p (opAssign (.c _)) rfl <| .nil ?_)
                    refine EndT.meet (3, 3, [mkI (outC (gI l (i + 2)).Code) (twoV (gI l (i + 2)).Code (XA l i) (XA l (i + 1)))]) (by show (3, 3, [mkI (outC (gI l (i + 2)).Code) (twoV (gI l (i + 2)).Code (XA l i) (XA l (i + 1)))]) = stF (gI l i) (gI l (i + 1)) (gI l (i + 2)) (i + 1 < l.length) 3; exact (stF_yes hz2 (by simp only [stK]; rw [if_pos ⟨⟨c6.1.2, c6.2⟩, c7⟩])).symm) rfl (.get rfl (VLe.refl _) (.get rfl (VLe.refl _) (.get rfl (VLe.refl _) (.keep 31 rfl rfl))))
                  ·
                    refine CodeT.skip (EndT.meet s2 (by show s2 = stF (gI l i) (gI l (i + 1)) (gI l (i + 2)) (i + 1 < l.length) 3; rw [hs2]; exact (stF_no (by simp only [stK]; rw [if_neg (fun h => c7 h.2)])).symm) rfl (.get rfl (VLe.refl _) (.get rfl (VLe.refl _) (.get rfl (VLe.refl _) (.keep 23 rfl rfl)))))
                ·
                  refine CodeT.skip (EndT.meet s2 (by show s2 = stF (gI l i) (gI l (i + 1)) (gI l (i + 2)) (i + 1 < l.length) 3; rw [hs2]; exact (stF_not (p := isC (gI l i) ∧ isC (gI l (i + 1))) (fun h => c6 ⟨⟨by rw [hs2]; have := h.1; omega, h.2.1⟩, h.2.2⟩) (fun h => by simp only [stK]; rw [if_neg (fun h9 => h h9.1)])).symm) rfl (.get rfl (VLe.refl _) (.get rfl (VLe.refl _) (.get rfl (VLe.refl _) (.keep 10 rfl rfl)))))
              ·
                intro s3 hs3
                refine CodeT.cut (σ := Stp) (fun _ => [cellsH b10 (encInstr (gI l (i + 2))), cellsH b9 (encInstr (gI l (i + 1))), cellsH b8 (encInstr (gI l i))]) (fun g => [(5, sliceV 5 encInstr g.2.2), (6, iV (g.1 : Int)), (7, iV (g.2.1 : Int))]) (fun g => g = stF (gI l i) (gI l (i + 1)) (gI l (i + 2)) (i + 1 < l.length) 4) ?_ ?_
                ·
                  refine CodeT.seq ?_
                  refine CodeT.region (.p (opMove (.t rfl)) rfl <| .p (opEql (.t rfl) (.c _)) rfl <| .p (opMove (.t rfl)) rfl <| .g (OpG.gT rfl rfl rfl rfl (fun hg => opFieldO Tryd.fd40_0 (.t rfl))) rfl rfl <| .g (OpG.gT rfl rfl rfl rfl (fun hg => opLoadO (i := 1) Tryd.ag3 (.when (.t rfl) hg) rfl rfl)) rfl rfl <| .g (OpG.gT rfl rfl rfl rfl (fun hg => opEql (.when (.t rfl) hg) (.c _))) rfl rfl <| .p (opAnd (.t rfl) (.t rfl)) rfl <| .p (opMove (.t rfl)) rfl <| .g (OpG.gT rfl rfl rfl rfl (fun hg => opLoadOA (i := 2) Tryd.ag40 Tryd.cz40 rfl (.t rfl) rfl rfl)) rfl rfl <| .g (OpG.gT rfl rfl rfl rfl (fun hg => opCall (ris_spec) Tryd.cb20 (.cons (.when (.t rfl) hg) .nil))) rfl rfl <| .g (OpG.gT rfl rfl rfl rfl (fun hg => opMove (.when (.t rfl) hg))) rfl rfl <| .g (OpG.hF rfl rfl rfl rfl (fun hg => opFieldO Tryd.fd40_0 (.t rfl))) rfl rfl <| .g (OpG.hF rfl rfl rfl rfl (fun hg => opLoadO (i := 2) Tryd.ag3 (.when (.t rfl) hg) rfl rfl)) rfl rfl <| .g (OpG.hF rfl rfl rfl rfl (fun hg => opEql (.when (.t rfl) hg) (.c _))) rfl rfl <| .g (OpG.gT rfl rfl rfl rfl (fun hg => opOr (.when (.t rfl) hg) (.under (.t rfl) hg))) rfl rfl <| .g (OpG.gT rfl rfl rfl rfl (fun hg => opMove (.when (.t rfl) hg))) rfl rfl <| .g (OpG.hF rfl rfl rfl rfl (fun hg => opFieldO Tryd.fd40_0 (.t rfl))) rfl rfl <| .g (OpG.hF rfl rfl rfl rfl (fun hg => opLoadO (i := 2) Tryd.ag3 (.when (.t rfl) hg) rfl rfl)) rfl rfl <| .g (OpG.hF rfl rfl rfl rfl (fun hg => opEql (.when (.t rfl) hg) (.c _))) rfl rfl <| .g (OpG.gT rfl rfl rfl rfl (fun hg => opOr (.when (.t rfl) hg) (.under (.t rfl) hg))) rfl rfl <| .p (opAnd (.t rfl) (.t rfl)) rfl <| .nil ?_)
                  refine EndT.thenN ?_
                  refine CodeT.cond (.t rfl) (fun c8 => ?_) (fun c8 => ?_)
                  ·
                    have hz3 : (stF (gI l i) (gI l (i + 1)) (gI l (i + 2)) (i + 1 < l.length) 3).2.1 = 0 := by rw [← hs3]; have := c8.1.1; omega
                    refine CodeT.region (.p (opAssign (.c _)) rfl <| .p (opAssign (.c _)) rfl <| .nil ?_)
                    refine EndT.meet (2, 4, s3.2.2) (by show (2, 4, s3.2.2) = stF (gI l i) (gI l (i + 1)) (gI l (i + 2)) (i + 1 < l.length) 4; rw [show s3.2.2 = [] by rw [hs3]; exact stF_ins hz3]; exact (stF_yes hz3 (by simp only [stK]; rw [if_pos ⟨c8.1.2, or_assoc.1 c8.2⟩])).symm) rfl (.get rfl (VLe.refl _) (.get rfl (VLe.refl _) (.get rfl (VLe.refl _) (.keep 23 rfl rfl))))
                  ·
                    refine CodeT.skip (EndT.meet s3 (by show s3 = stF (gI l i) (gI l (i + 1)) (gI l (i + 2)) (i + 1 < l.length) 4; rw [hs3]; exact (stF_not (p := (gI l (i + 1)).Code = 26 ∧ (isC (gI l i) ∨ (gI l i).Code = 32 ∨ (gI l i).Code = 35)) (fun h => c8 ⟨⟨by rw [hs3]; have := h.1; omega, h.2.1⟩, or_assoc.2 h.2.2⟩) (fun h => by simp only [stK]; rw [if_neg h])).symm) rfl (.get rfl (VLe.refl _) (.get rfl (VLe.refl _) (.get rfl (VLe.refl _) (.keep 21 rfl rfl)))))
                ·
                  intro s4 hs4
                  refine CodeT.cut (σ := Stp) (fun _ => [cellsH b10 (encInstr (gI l (i + 2))), cellsH b9 (encInstr (gI l (i + 1))), cellsH b8 (encInstr (gI l i))]) (fun g => [(5, sliceV 5 encInstr g.2.2), (6, iV (g.1 : Int)), (7, iV (g.2.1 : Int))]) (fun g => g = stF (gI l i) (gI l (i + 1)) (gI l (i + 2)) (i + 1 < l.length) 5) ?_ ?_
                  ·
                    refine CodeT.seq ?_
                    refine CodeT.region (.p (opMove (.t rfl)) rfl <| .p (opEql (.t rfl) (.c _)) rfl <| .p (opMove (.t rfl)) rfl <| .g (OpG.gT rfl rfl rfl rfl (fun hg => opFieldO Tryd.fd40_0 (.t rfl))) rfl rfl <| .g (OpG.gT rfl rfl rfl rfl (fun hg => opLoadO (i := 2) Tryd.ag3 (.when (.t rfl) hg) rfl rfl)) rfl rfl <| .g (OpG.gT rfl rfl rfl rfl (fun hg => opEql (.when (.t rfl) hg) (.c _))) rfl rfl <| .p (opAnd (.t rfl) (.t rfl)) rfl <| .p (opMove (.t rfl)) rfl <| .g (OpG.gT rfl rfl rfl rfl (fun hg => opFieldO Tryd.fd40_0 (.t rfl))) rfl rfl <| .g (OpG.gT rfl rfl rfl rfl (fun hg => opLoadO (i := 1) Tryd.ag3 (.when (.t rfl) hg) rfl rfl)) rfl rfl <| .g (OpG.gT rfl rfl rfl rfl (fun hg => opEql (.when (.t rfl) hg) (.c _))) rfl rfl <| .p (opAnd (.t rfl) (.t rfl)) rfl <| .p (opMove (.t rfl)) rfl <| .g (OpG.gT rfl rfl rfl rfl (fun hg => opFieldO Tryd.fd40_1 (.t rfl))) rfl rfl <| .g (OpG.gT rfl rfl rfl rfl (fun hg => opLoadO (i := 2) Tryd.ag37 (.when (.t rfl) hg) rfl rfl)) rfl rfl <| .g (OpG.gT rfl rfl rfl rfl (fun hg => opFieldO Tryd.fd40_1 (.t rfl))) rfl rfl <| .g (OpG.gT rfl rfl rfl rfl (fun hg => opLoadO (i := 1) Tryd.ag37 (.when (.t rfl) hg) rfl rfl)) rfl rfl <| .g (OpG.gT rfl rfl rfl rfl (fun hg => opEql (.when (.t rfl) hg) (.when (.t rfl) hg))) rfl rfl <| .p (opAnd (.t rfl) (.t rfl)) rfl <| .nil ?_)
                    refine EndT.thenN ?_
                    refine CodeT.cond (.t rfl) (fun c9 => ?_) (fun c9 => ?_)
                    ·
                      have hz4 : (stF (gI l i) (gI l (i + 1)) (gI l (i + 2)) (i + 1 < l.length) 4).2.1 = 0 := by rw [← hs4]; have := c9.1.1.1; omega
                      refine CodeT.seq ?_
                      refine CodeT.region (.p (opFieldO Tryd.fd40_1 (.t rfl)) rfl <| .p (opLoadO (i := 2) Tryd.ag37 (.t rfl) rfl rfl) rfl <| .p ((opBuild Tryd.pl40 Tryd.zb40 (.cons (.c _) (.cons (.t rfl) .nil)) rfl).le (tee_le)) rfl <| .p (opBuildSlice (enc := encInstr) [⟨34, (gI l i).A, 0, 0, []⟩] Tryd.underlying22 Tryd.cz40 rfl Tryd.zb40 rfl (.cons (.t rfl) .nil) rfl rfl rfl rfl rfl) rfl <| .p (opAssign (.t rfl)) rfl <| .nil ?_)
                      refine EndT.thenN ?_
                      refine CodeT.region (.p (opAssign (.c _)) rfl <| .p (opAssign (.c _)) rfl <| .nil ?_)
                      refine EndT.meet (2, 5, [⟨34, (gI l i).A, 0, 0, []⟩]) (by show (2, 5, [⟨34, (gI l i).A, 0, 0, []⟩]) = stF (gI l i) (gI l (i + 1)) (gI l (i + 2)) (i + 1 < l.length) 5; exact (stF_yes hz4 (by simp only [stK]; rw [if_pos ⟨⟨c9.1.1.2, c9.1.2⟩, c9.2⟩])).symm) rfl (.get rfl (VLe.refl _) (.get rfl (VLe.refl _) (.get rfl (VLe.refl _) (.keep 26 rfl rfl))))
                    ·
                      refine CodeT.skip (EndT.meet s4 (by show s4 = stF (gI l i) (gI l (i + 1)) (gI l (i + 2)) (i + 1 < l.length) 5; rw [hs4]; exact (stF_not (p := ((gI l i).Code = 33 ∧ (gI l (i + 1)).Code = 32) ∧ (gI l i).A = (gI l (i + 1)).A) (fun h => c9 ⟨⟨⟨by rw [hs4]; have := h.1; omega, h.2.1.1⟩, h.2.1.2⟩, h.2.2⟩) (fun h => by simp only [stK]; rw [if_neg h])).symm) rfl (.get rfl (VLe.refl _) (.get rfl (VLe.refl _) (.get rfl (VLe.refl _) (.keep 19 rfl rfl)))))
                  ·
                    intro s5 hs5
                    refine CodeT.cut (σ := Stp) (fun _ => [cellsH b10 (encInstr (gI l (i + 2))), cellsH b9 (encInstr (gI l (i + 1))), cellsH b8 (encInstr (gI l i))]) (fun g => [(5, sliceV 5 encInstr g.2.2), (6, iV (g.1 : Int)), (7, iV (g.2.1 : Int))]) (fun g => g = stF (gI l i) (gI l (i + 1)) (gI l (i + 2)) (i + 1 < l.length) 6) ?_ ?_
                    ·
                      refine CodeT.seq ?_
                      refine CodeT.region (.p (opMove (.t rfl)) rfl <| .p (opEql (.t rfl) (.c _)) rfl <| .p (opMove (.t rfl)) rfl <| .g (OpG.gT rfl rfl rfl rfl (fun hg => opFieldO Tryd.fd40_0 (.t rfl))) rfl rfl <| .g (OpG.gT rfl rfl rfl rfl (fun hg => opLoadO (i := 2) Tryd.ag3 (.when (.t rfl) hg) rfl rfl)) rfl rfl <| .g (OpG.gT rfl rfl rfl rfl (fun hg => opEql (.when (.t rfl) hg) (.c _))) rfl rfl <| .g (OpG.gT rfl rfl rfl rfl (fun hg => opMove (.when (.t rfl) hg))) rfl rfl <| .g (OpG.hF rfl rfl rfl rfl (fun hg => opFieldO Tryd.fd40_0 (.t rfl))) rfl rfl <| .g (OpG.hF rfl rfl rfl rfl (fun hg => opLoadO (i := 2) Tryd.ag3 (.when (.t rfl) hg) rfl rfl)) rfl rfl <| .g (OpG.hF rfl rfl rfl rfl (fun hg => opEql (.when (.t rfl) hg) (.c _))) rfl rfl <| .g (OpG.gT rfl rfl rfl rfl (fun hg => opOr (.when (.t rfl) hg) (.under (.t rfl) hg))) rfl rfl <| .g (OpG.gT rfl rfl rfl rfl (fun hg => opMove (.when (.t rfl) hg))) rfl rfl <| .g (OpG.hF rfl rfl rfl rfl (fun hg => opFieldO Tryd.fd40_0 (.t rfl))) rfl rfl <| .g (OpG.hF rfl rfl rfl rfl (fun hg => opLoadO (i := 2) Tryd.ag3 (.when (.t rfl) hg) rfl rfl)) rfl rfl <| .g (OpG.hF rfl rfl rfl rfl (fun hg => opEql (.when (.t rfl) hg) (.c _))) rfl rfl <| .g (OpG.gT rfl rfl rfl rfl (fun hg => opOr (.when (.t rfl) hg) (.under (.t rfl) hg))) rfl rfl <| .g (OpG.gT rfl rfl rfl rfl (fun hg => opMove (.when (.t rfl) hg))) rfl rfl <| .g (OpG.hF rfl rfl rfl rfl (fun hg => opFieldO Tryd.fd40_0 (.t rfl))) rfl rfl <| .g (OpG.hF rfl rfl rfl rfl (fun hg => opLoadO (i := 2) Tryd.ag3 (.when (.t rfl) hg) rfl rfl)) rfl rfl <| .g (OpG.hF rfl rfl rfl rfl (fun hg => opEql (.when (.t rfl) hg) (.c _))) rfl rfl <| .g (OpG.gT rfl rfl rfl rfl (fun hg => opOr (.when (.t rfl) hg) (.under (.t rfl) hg))) rfl rfl <| .p (opAnd (.t rfl) (.t rfl)) rfl <| .p (opMove (.t rfl)) rfl <| .g (OpG.gT rfl rfl rfl rfl (fun hg => opMove (.t rfl))) rfl rfl <| .g (OpG.gT rfl rfl rfl rfl (fun hg => opAddF (.when (.t rfl) hg) (.c _) (fits_i64 (by omega) (by omega)))) rfl rfl <| .g (OpG.gT rfl rfl rfl rfl (fun hg => opMove (.t rfl))) rfl rfl <| .g (OpG.gT rfl rfl rfl rfl (fun hg => opLen rfl Tryd.underlying22 (.when (.t rfl) hg))) rfl rfl <| .g (OpG.gT rfl rfl rfl rfl (fun hg => opLss (.when (.t rfl) hg) (.when (.t rfl) hg))) rfl rfl <| .p (opAnd (.t rfl) (.t rfl)) rfl <| .p (opMove (.t rfl)) rfl <| .g (OpG.gT rfl rfl rfl rfl (fun hg => opFieldO Tryd.fd40_0 (.t rfl))) rfl rfl <| .g (OpG.gT rfl rfl rfl rfl (fun hg => opLoadO (i := 1) Tryd.ag3 (.when (.t rfl) hg) rfl rfl)) rfl rfl <| .g (OpG.gT rfl rfl rfl rfl (fun hg => opNeq (.when (.t rfl) hg) (.c _))) rfl rfl <| .p (opAnd (.t rfl) (.t rfl)) rfl <| .p (opMove (.t rfl)) rfl <| .g (OpG.gT rfl rfl rfl rfl (fun hg => opFieldO Tryd.fd40_0 (.t rfl))) rfl rfl <| .g (OpG.gT rfl rfl rfl rfl (fun hg => opLoadO (i := 1) Tryd.ag3 (.when (.t rfl) hg) rfl rfl)) rfl rfl <| .g (OpG.gT rfl rfl rfl rfl (fun hg => opLss (.when (.t rfl) hg) (.c _))) rfl rfl <| .g (OpG.gT rfl rfl rfl rfl (fun hg => opMove (.when (.t rfl) hg))) rfl rfl <| .g (OpG.hF rfl rfl rfl rfl (fun hg => opFieldO Tryd.fd40_0 (.t rfl))) rfl rfl <| .g (OpG.hF rfl rfl rfl rfl (fun hg => opLoadO (i := 1) Tryd.ag3 (.when (.t rfl) hg) rfl rfl)) rfl rfl <| .g (OpG.hF rfl rfl rfl rfl (fun hg => opGtr (.when (.t rfl) hg) (.c _))) rfl rfl <| .g (OpG.gT rfl rfl rfl rfl (fun hg => opOr (.when (.t rfl) hg) (.under (.t rfl) hg))) rfl rfl <| .p (opAnd (.t rfl) (.t rfl)) rfl <| .nil ?_)
                      refine EndT.thenN ?_
                      refine CodeT.cond (.t rfl) (fun c10 => ?_) (fun c10 => ?_)
                      ·
                        have hz5 : (stF (gI l i) (gI l (i + 1)) (gI l (i + 2)) (i + 1 < l.length) 5).2.1 = 0 := by rw [← hs5]; have := c10.1.1.1.1; omega
                        refine CodeT.seq ?_
                        refine CodeT.region (.p (opLoadOA (i := 2) Tryd.ag40 Tryd.cz40 rfl (.t rfl) rfl rfl) rfl <| .p (opBuildSlice (enc := encInstr) [gI l i] Tryd.underlying22 Tryd.cz40 rfl Tryd.zb40 rfl (.cons (.t rfl) .nil) rfl rfl rfl rfl rfl) rfl <| .p (opAssign (.t rfl)) rfl <| .nil ?_)
                        refine EndT.thenN ?_
                        refine CodeT.region (.p (opAssign (.c _)) rfl <| .p (opAssign (.c _)) rfl <| .nil ?_)
                        refine EndT.meet (2, 6, [gI l i]) (by show (2, 6, [gI l i]) = stF (gI l i) (gI l (i + 1)) (gI l (i + 2)) (i + 1 < l.length) 6; exact (stF_yes hz5 (by simp only [stK]; rw [if_pos ⟨⟨c10.1.1.1.2, by have := c10.1.1.2; omega⟩, bound_not c10.1.2 c10.2⟩])).symm) rfl (.get rfl (VLe.refl _) (.get rfl (VLe.refl _) (.get rfl (VLe.refl _) (.keep 49 rfl rfl))))
                      ·
                        refine CodeT.skip (EndT.meet s5 (by show s5 = stF (gI l i) (gI l (i + 1)) (gI l (i + 2)) (i + 1 < l.length) 6; rw [hs5]; exact (stF_not (p := (stopP (gI l i).Code ∧ i + 1 < l.length) ∧ ¬ boundP (gI l (i + 1)).Code) (fun h => c10 ⟨⟨⟨⟨by rw [hs5]; have := h.1; omega, h.2.1.1⟩, by have := h.2.1.2; omega⟩, (not_bound h.2.2).1⟩, (not_bound h.2.2).2⟩) (fun h => by simp only [stK]; rw [if_neg h])).symm) rfl (.get rfl (VLe.refl _) (.get rfl (VLe.refl _) (.get rfl (VLe.refl _) (.keep 44 rfl rfl)))))
                    ·
                      intro s6 hs6
                      refine CodeT.seq ?_
                      refine CodeT.region (.p (opMove (.t rfl)) rfl <| .p (opGtr (.t rfl) (.c _)) rfl <| .nil ?_)
                      refine EndT.thenN ?_
                      refine CodeT.cond (.t rfl) (fun c11 => ?_) (fun c11 => ?_)
                      ·
                        have h60 : ¬ s6.2.1 = 0 := by omega
                        have hat := stepAt_ref hs6
                        rw [if_neg h60] at hat
                        have hsl := stepL_at hno hil hat
                        obtain ⟨hr1, hr2⟩ := stF_room hp0 hil hs6 h60
                        refine CodeT.seq ?_
                        refine CodeT.region (.n (opBuildSliceO encInstr ([] : List InstrD) Tryd.underlying22 Tryd.cz40 rfl Tryd.zb40 rfl .nil rfl rfl rfl rfl rfl) rfl <| fun g189 _ => .p (opMove (.t rfl)) rfl <| .p (opMove (.t rfl)) rfl <| .p (opSliceHi (h := i) Tryd.underlying22 Tryd.cz40 rfl (.t rfl) (.t rfl) rfl (by omega)) rfl <| .n (opAppend (i := 0) Tryd.underlying22 Tryd.underlying22 Tryd.cz40 rfl Tryd.zb40 rfl Tryd.by40 (.t rfl) (.t rfl) rfl (by (rw [List.length_nil, List.length_take]; omega)) (by (rw [List.length_nil, List.length_take]; omega))) rfl <| fun g193 _ => .p (opMove (.t rfl)) rfl <| .n (opAppend (i := 0) Tryd.underlying22 Tryd.underlying22 Tryd.cz40 rfl Tryd.zb40 rfl Tryd.by40 (.t rfl) (.t rfl) rfl (by (rw [List.nil_append, List.length_take]; omega)) (by (rw [List.nil_append, List.length_take]; omega))) rfl <| fun g195 _ => .p (opAssign (.t rfl)) rfl <| .nil ?_)
                        refine EndT.thenN ?_
                        refine CodeT.seq ?_
                        refine CodeT.region (.p (opMove (.t rfl)) rfl <| .p (opMove (.t rfl)) rfl <| .p (opMove (.t rfl)) rfl <| .p (opMove (.t rfl)) rfl <| .p (opAddF (.t rfl) (.t rfl) (fits_i64 (by omega) (by omega))) rfl <| .p (opSliceLo (l := i + s6.1) Tryd.underlying22 Tryd.cz40 rfl (.t rfl) (.t rfl) (by omega) (by omega)) rfl <| .n (OpE.shareS (G := fun g => g) (hs1 := fun _ => _) (xs := fun _ => _) (opAppend (i := 0) Tryd.underlying22 Tryd.underlying22 Tryd.cz40 rfl Tryd.zb40 rfl Tryd.by40 (.t rfl) (.t rfl) rfl (by (rw [List.nil_append, List.length_append, List.length_take, List.length_drop]; omega)) (by (rw [List.nil_append, List.length_append, List.length_take, List.length_drop]; omega)))) rfl <| fun _ _ => .p (opMove (.t rfl)) rfl <| .p (opAssign (.t rfl)) rfl <| .p (opAssign (.t rfl)) rfl <| .nil ?_)
                        refine EndT.thenN ?_
                        refine CodeT.ret (EndT.blkR (EndT.thenR (EndT.thenR (EndT.blkR (EndT.thenR (Post.retR rfl rfl () trivial (fun _ _ _ _ => trivial) rfl (.cons (.rt rfl) ?_ (.cons (.rt rfl) ?_ .nil))))))))
                        · exact VLe.of_eq (by unfold stepR; rw [hsl]; rfl)
                        · exact VLe.int (by unfold stepR; rw [hsl]; rfl)
                      ·
                        have hat : stepAt l i = none := by rw [stepAt_ref hs6, if_pos (by omega)]
                        refine CodeT.skip (EndT.blkN (EndT.thenN ?_))
                        refine CodeT.region (.p (opMove (.t rfl)) rfl <| .p (opAddF (.t rfl) (.c _) (fits_i64 (by omega) (by omega))) rfl <| .p (opAssign (.t rfl)) rfl <| .nil ?_)
                        refine EndT.own (OLe.sel [] [0, 1, 2] rfl rfl) (EndT.round (i + 1) ⟨by omega, stepK_next hno hat⟩ (by omega) rfl ?_)
                        exact (.get rfl (VLe.int (by (show (i : Int) + 1 = ((i + 1 : Nat) : Int); omega))) ((.keep 40 rfl rfl)))
    ·
      have hil : i = l.length := by omega
      subst hil
      have hsl : stepL l = none := hno
      refine CodeT.exit (EndT.thenX (EndT.thenX (EndT.blkX (EndT.thenN ?_))))
      refine CodeT.seq ?_
      refine CodeT.region (.p (opMove (.t rfl)) rfl <| .p (opAssign (.t rfl)) rfl <| .p (opAssign (.c _)) rfl <| .nil ?_)
      refine EndT.thenN ?_
      refine CodeT.ret (Post.retR rfl rfl () trivial (fun _ _ _ _ => trivial) rfl (.cons (.rt rfl) ?_ (.cons (.rt rfl) ?_ .nil)))
      · exact VLe.of_eq (by unfold stepR; rw [hsl]; rfl)
      · exact VLe.int (by unfold stepR; rw [hsl]; rfl)

end Go.Proofs.YtgmpadhfgohodaaDoor
