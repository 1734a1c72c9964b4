/-
  Walks, printed by a program (gen.py) out of what its author says of each function.
-/
import Derived.Test.YtnjfnjgjeibaiaaDoorB26U
namespace Go.Proofs.YtnjfnjgjeibaiaaDoor
open Go.Hl Go.RowKit
set_option linter.unusedVariables false
set_option maxRecDepth 100000

theorem bparse_spec {s : List UInt8} (hp0 : s.length ≤ 1000) : FnE Tryd.prog 7 [strV s] [varsH Tryd.prog 3 0 1] (γ := Unit) (fun _ => True) (fun _ => []) (fun _ => tupV [aggV (encNd (parseN s)), iV (parseE s)]) := by
  refine FnE.intro 45 Tryd.func7 rfl rfl rfl fun w0 S0 M => ?_
  have hp5 := parts_len s
  refine CodeT.seq ?_
  refine CodeT.region (.n (opAlloc Tryd.zb23) rfl <| fun b2 _ => .p (opAssign (.c _)) rfl <| .nil ?_)
  refine EndT.thenN ?_
  refine CodeT.seq ?_
  refine CodeT.region (.n (opAlloc Tryd.zb44) rfl <| fun b4 _ => .nil ?_)
  refine EndT.thenN ?_
  refine CodeT.seq ?_
  refine CodeT.seq ?_
  refine CodeT.region (.p (opMove (.t rfl)) rfl <| .p (opCall (splitn_spec (s := s) (by omega)) Tryd.cb15 (.cons (.t rfl) (.cons (.s [32] rfl rfl) (.cons (.c _) .nil)))) rfl <| .p (opLen rfl Tryd.underlying45 (.t rfl)) rfl <| .p (opMove (.c _)) rfl <| .nil ?_)
  refine EndT.thenN ?_
  refine CodeT.block ?_
  refine CodeT.own (arr_sl (n := 1) (N := 5) (enc := encI) (xs := [0, 0, 0, 0, 0]) rfl rfl rfl (by decide)) ?_
  refine CodeT.loopO (σ := Nat) (fun k => [sliceH (some (b4, 5)) 1 encI (numsK s k), cellsH b2 [exactV (.int .i64 0), exactV (.int .i64 0), exactV (.int .i64 0), exactV (.int .i64 0), exactV (.int .i64 0)], varsH Tryd.prog 3 0 1]) (fun k => [(12, iV (k : Int))]) (fun k => k ≤ (partsL s).length) (fun k => (partsL s).length - k) 0 (Nat.zero_le _) (by simp only [numsK_zero]; rfl) ?_ ?_
  · exact (.get rfl (VLe.refl _) (.refl _ _))
  · rintro k hk
    refine CodeT.seq ?_
    refine CodeT.region (.p (opLss (.t rfl) (.t rfl)) rfl <| .nil ?_)
    refine EndT.thenN ?_
    refine CodeT.seq ?_
    refine CodeT.cond (.t rfl) (fun c0 => ?_) (fun c0 => ?_)
    ·
      have hkl : k < (partsL s).length := by omega
      obtain ⟨w, hx⟩ : ∃ w, (partsL s)[k]? = some w := ⟨_, List.getElem?_eq_getElem hkl⟩
      have hk5 : k < 5 := by omega
      refine CodeT.skip (EndT.thenN ?_)
      refine CodeT.seq ?_
      refine CodeT.block ?_
      refine CodeT.seq ?_
      refine CodeT.region (.p (opMove (.t rfl)) rfl <| .p (opIndexAddr (j := k) Tryd.underlying45 Tryd.cz9 rfl (.t rfl) (.t rfl) rfl hx) rfl <| .p (opLoad Tryd.ag9 (.t rfl)) rfl <| .p (opAssign (.t rfl)) rfl <| .p (opAssign (.t rfl)) rfl <| .nil ?_)
      refine EndT.thenN ?_
      refine CodeT.region (.p (opMove (.t rfl)) rfl <| .p (opMove (.t rfl)) rfl <| .p (opCallVars (i := 2) (atoi_spec (l := w)) Tryd.cb16 (.cons (.t rfl) .nil) rfl) rfl <| .p (opMove (.t rfl)) rfl <| .p (opExtract (.t rfl) rfl) rfl <| .p (opExtract (.t rfl) rfl) rfl <| .p (opIndexAddrAW k Tryd.underlying44 Tryd.cz3 rfl (.t rfl) (.t rfl) rfl hk5) rfl <| .s (opStoreW (i := 0) (r := 0) (atoiV w) rfl Tryd.cz3 (.t rfl) (.t rfl) rfl (numsK_get hk5) rfl rfl) <| .nil ?_)
      refine EndT.blkN (EndT.thenN ?_)
      refine CodeT.region (.p (opAddF (.t rfl) (.c _) (fits_i64 (by omega) (by omega))) rfl <| .p (opMove (.t rfl)) rfl <| .nil ?_)
      refine EndT.round (k + 1) (by omega) (by omega) (by simp only [numsK_set hx]; rfl) ?_
      exact (.get rfl (VLe.int (by (show (k : Int) + 1 = ((k + 1 : Nat) : Int); omega))) ((.keep 16 rfl rfl)))
    ·
      have hkl : k = (partsL s).length := by omega
      subst hkl
      rw [numsK_all]
      refine CodeT.own (sl_arr (cs := encNd (numsN s)) (flat_nd (nums_len s)) rfl) ?_
      refine CodeT.exit (EndT.thenX (EndT.thenX (EndT.blkX (EndT.thenN ?_))))
      refine CodeT.seq ?_
      refine CodeT.seq ?_
      refine CodeT.region (.p (opLoadOA (i := 0) Tryd.ag44 Tryd.cz44 rfl (.t rfl) rfl rfl) rfl <| .p (opMove (.c _)) rfl <| .nil ?_)
      refine EndT.thenN ?_
      refine CodeT.block ?_
      refine CodeT.loopO (σ := Nat) (fun _ => _) (fun k => [(26, iV (k : Int))]) (fun k => k ≤ 5 ∧ okK (numsN s) k) (fun k => 5 - k) 0 ⟨Nat.zero_le _, okK_zero _⟩ rfl ?_ ?_
      · exact (.get rfl (VLe.refl _) (.refl _ _))
      · rintro k hk
        refine CodeT.seq ?_
        refine CodeT.region (.p (opLss (.t rfl) (.c _)) rfl <| .nil ?_)
        refine EndT.thenN ?_
        refine CodeT.seq ?_
        refine CodeT.cond (.t rfl) (fun c1 => ?_) (fun c1 => ?_)
        ·
          have hk5 : k < 5 := by omega
          refine CodeT.skip (EndT.thenN ?_)
          refine CodeT.seq ?_
          refine CodeT.block ?_
          refine CodeT.seq ?_
          refine CodeT.region (.p (opIndexA1 Tryd.underlying44 Tryd.cz3 Tryd.ag3 (.t rfl) rfl (.t rfl) rfl (nd_get hk5)) rfl <| .p (opAssign (.t rfl)) rfl <| .nil ?_)
          refine EndT.thenN ?_
          refine CodeT.seq ?_
          refine CodeT.region (.p (opMove (.t rfl)) rfl <| .p (opLss (.t rfl) (.c _)) rfl <| .p (opMove (.t rfl)) rfl <| .g (OpG.gF rfl rfl rfl rfl (fun hg => opMove (.t rfl))) rfl rfl <| .g (OpG.gF rfl rfl rfl rfl (fun hg => opGtr (.when (.t rfl) hg) (.c _))) rfl rfl <| .p (opOr (.t rfl) (.t rfl)) rfl <| .nil ?_)
          refine EndT.thenN ?_
          refine CodeT.cond (.t rfl) (fun c2 => ?_) (fun c2 => ?_)
          ·
            have hno : ¬ okP s := fun h => (by have h9 := h.1 _ (List.mem_of_getElem? (toL_get hk5)); omega)
            refine CodeT.seq ?_
            refine CodeT.region (.p (OpP.le (opBuild Tryd.pl23 Tryd.zb23 .nil rfl) (VLe.refl (aggV (encNd Nd.zero)))) rfl <| .s (opStoreOA (i := 1) Tryd.cz23 rfl (.t rfl) (.t rfl) rfl rfl rfl) <| .p (opAssign (.c _)) rfl <| .nil ?_)
            refine EndT.thenN ?_
            refine CodeT.ret (EndT.blkR (EndT.thenR (EndT.thenR (EndT.blkR (EndT.thenR (Post.retR rfl rfl () trivial (fun _ _ _ _ => trivial) rfl (.cons (.ra (i := 1) Tryd.ag23 Tryd.cz23 rfl rfl rfl rfl) ?_ (.cons (.rt rfl) ?_ .nil))))))))
            · rw [(parse_neg hno).1]; exact VLe.refl _
            · exact VLe.int (parse_neg hno).2.symm
          ·
            refine CodeT.skip (EndT.blkN (EndT.thenN ?_))
            refine CodeT.region (.p (opAddF (.t rfl) (.c _) (fits_i64 (by omega) (by omega))) rfl <| .p (opMove (.t rfl)) rfl <| .nil ?_)
            refine EndT.round (k + 1) ⟨by omega, (okK_step hk5).2 ⟨hk.2, by omega, by omega⟩⟩ (by omega) rfl ?_
            exact (.get rfl (VLe.int (by (show (k : Int) + 1 = ((k + 1 : Nat) : Int); omega))) ((.keep 12 rfl rfl)))
        ·
          have hk5 : k = 5 := by omega
          subst hk5
          have hokN : okN (numsN s) := hk.2
          refine CodeT.exit (EndT.thenX (EndT.thenX (EndT.blkX (EndT.thenN ?_))))
          refine CodeT.seq ?_
          refine CodeT.seq ?_
          refine CodeT.region (.p (opLoadOA (i := 0) Tryd.ag44 Tryd.cz44 rfl (.t rfl) rfl rfl) rfl <| .p (opCall (bof_spec (x := numsN s)) Tryd.cb17 (.cons (.t rfl) .nil)) rfl <| .p (opCallVars (i := 2) (btext_spec (numsN_ok s)) Tryd.cb8 (.cons (.t rfl) .nil) rfl) rfl <| .p (opMove (.t rfl)) rfl <| .p (opNeqS (.t rfl) (.t rfl)) rfl <| .nil ?_)
          refine EndT.thenN ?_
          refine CodeT.cond (.t rfl) (fun c3 => ?_) (fun c3 => ?_)
          ·
            have hno : ¬ okP s := fun h => c3 h.2
            refine CodeT.seq ?_
            refine CodeT.region (.p (OpP.le (opBuild Tryd.pl23 Tryd.zb23 .nil rfl) (VLe.refl (aggV (encNd Nd.zero)))) rfl <| .s (opStoreOA (i := 1) Tryd.cz23 rfl (.t rfl) (.t rfl) rfl rfl rfl) <| .p (opAssign (.c _)) rfl <| .nil ?_)
            refine EndT.thenN ?_
            refine CodeT.ret (EndT.thenR (Post.retR rfl rfl () trivial (fun _ _ _ _ => trivial) rfl (.cons (.ra (i := 1) Tryd.ag23 Tryd.cz23 rfl rfl rfl rfl) ?_ (.cons (.rt rfl) ?_ .nil))))
            · rw [(parse_neg hno).1]; exact VLe.refl _
            · exact VLe.int (parse_neg hno).2.symm
          ·
            have hyes : okP s := ⟨hokN, Classical.not_not.1 c3⟩
            refine CodeT.skip (EndT.thenN ?_)
            refine CodeT.seq ?_
            refine CodeT.region (.p (opLoadOA (i := 0) Tryd.ag44 Tryd.cz44 rfl (.t rfl) rfl rfl) rfl <| .p (opCall (bof_spec (x := numsN s)) Tryd.cb17 (.cons (.t rfl) .nil)) rfl <| .s (opStoreOA (i := 1) Tryd.cz23 rfl (.t rfl) (.t rfl) rfl rfl rfl) <| .p (opAssign (.c _)) rfl <| .nil ?_)
            refine EndT.thenN ?_
            refine CodeT.ret (Post.retR rfl rfl () trivial (fun _ _ _ _ => trivial) rfl (.cons (.ra (i := 1) Tryd.ag23 Tryd.cz23 rfl rfl rfl rfl) ?_ (.cons (.rt rfl) ?_ .nil)))
            · rw [(parse_pos hyes).1]; exact VLe.refl _
            · exact VLe.int (parse_pos hyes).2.symm

end Go.Proofs.YtnjfnjgjeibaiaaDoor
