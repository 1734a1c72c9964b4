/-
  Walks, printed by a program (gen.py) out of what its author says of each function.
-/
import Derived.Test.YtjojlppmnebhgaaO10T
import Derived.Test.YtjojlppmnebhgaaO10P1
namespace Go.Proofs.Ytjojlppmnebhgaa
open Go.Hl Go.RowKit
set_option linter.unusedVariables false
set_option maxRecDepth 100000

set_option maxHeartbeats 1000000 in
theorem allO_spec  : FnE Try.prog 12 [] [] (γ := (Nat × Nat) × List InfoO) (fun _ => True) (fun g => [sliceH (some g.1) 5 encInfoO g.2, elemsH g.2]) (fun g => exactV (sval (some g.1) g.2.length)) := by
  refine FnE.intro 58 Try.func12 rfl rfl rfl fun w0 S0 M => ?_
  refine CodeT.seq ?_
  refine CodeT.region (.p (opAssign (.c _)) rfl <| .nil ?_)
  refine EndT.thenN ?_
  refine CodeT.seq ?_
  refine CodeT.region (.p (opAssign (.c _)) rfl <| .nil ?_)
  refine EndT.thenN ?_
  refine CodeT.seq ?_
  refine CodeT.seq ?_
  refine CodeT.region (.p (opCall (rows_spec) Try.cb24 .nil) rfl <| .p (opMove (.c _)) rfl <| .nil ?_)
  refine EndT.thenN ?_
  refine CodeT.block ?_
  refine CodeT.ownNil 5 encInfoO ?_
  refine CodeT.own (OLe.trans elems_nil (OLe.perm (Perm.idx [1, 0] rfl rfl))) ?_
  refine CodeT.loopO (σ := Nat × SB × List InfoO) (fun s => [sliceH s.2.1 5 encInfoO s.2.2, elemsH s.2.2]) (fun s => [(12, intV .i64 (s.1 : Int)), (1, exactV (sval s.2.1 s.2.2.length))]) (fun s => s.1 ≤ rowsT.length ∧ s.2.2.map InfoO.Code = ((rowsT.take s.1).map infoOf).map InfoD.Code ∧ s.2.2.length ≤ s.1) (fun s => rowsT.length - s.1) (0, none, []) ⟨by simp, rfl, by simp⟩ rfl ?_ ?_
  · exact (.get rfl (VLe.refl _) (.get rfl (VLe.of_eq rfl) (.refl _ _)))
  · rintro s ⟨hsk, hsl, hsn⟩
    refine CodeT.seq ?_
    refine CodeT.region (.p (opLss (.t rfl) (.c _)) rfl <| .nil ?_)
    refine EndT.thenN ?_
    refine CodeT.seq ?_
    refine CodeT.cond (.t rfl) (fun c0 => ?_) (fun c0 => ?_)
    ·
      have hlt : s.1 < rowsT.length := by have : rowsT.length = 47 := rfl; omega
      have h47 : rowsT.length = 47 := rfl
      obtain ⟨r, hxk⟩ := getElem?_lt (xs := rowsT) (k := s.1) hlt
      have hro : RowOk r := rows_ascii r (List.mem_of_getElem? hxk)
      refine CodeT.skip (EndT.thenN ?_)
      refine CodeT.seq ?_
      refine CodeT.block ?_
      refine CodeT.seq ?_
      refine CodeT.region (.p (opIndexA rowsT Try.underlying57 Try.cz53 rfl Try.ag53 (.t rfl) rfl rfl (.t rfl) rfl (by assumption)) rfl <| .n (opAlloc Try.zb53) rfl <| fun b3 _ => .s (opStoreOA (i := 0) Try.cz53 rfl (.t rfl) (.t rfl) rfl rfl rfl) <| .nil ?_)
      refine EndT.thenN ?_
      refine CodeT.share (t := 3) (i := 0) rfl rfl ?_
      refine CodeT.region (.p (opMove (.t rfl)) rfl <| .p (opLoadA Try.ag53 Try.cz53 rfl (.t rfl) rfl) rfl <| .n (opCallE (rest := [_, _]) (infoO_spec hro) Try.cb23 (.cons (.t rfl) .nil) (Perm.idx [0, 1] rfl rfl)) rfl <| fun g17 h17 => .p (opBuildSlice (enc := encInfoO) [mkI (infoOf r) g17] Try.underlying35 Try.cz31 rfl Try.zb31 rfl (.cons (.t rfl) .nil) rfl rfl rfl rfl rfl) rfl <| .n (opAppend (i := 2) Try.underlying35 Try.underlying35 Try.cz31 rfl Try.zb31 rfl Try.by31 (.t rfl) (.t rfl) rfl (by simp only [List.length_cons, List.length_nil]; omega) (by simp only [List.length_cons, List.length_nil]; omega)) rfl <| fun g19 _ => .p (opAssign (.t rfl)) rfl <| .nil ?_)
      refine EndT.blkN (EndT.thenN ?_)
      refine CodeT.own (OLe.trans (OLe.perm (Perm.idx [0, 1, 3, 2] rfl rfl)) (OLe.trans (elems_add (o := mkI (infoOf r) g17)) (OLe.perm (Perm.idx [1, 0] rfl rfl)))) ?_
      refine CodeT.region (.p (opAddF (.t rfl) (.c _) (fits_i64 (by omega) (by omega))) rfl <| .p (opMove (.t rfl)) rfl <| .nil ?_)
      refine EndT.round (s.1 + 1, g19, s.2.2 ++ [mkI (infoOf r) g17]) ⟨by simp only []; omega, by (simp only [List.map_append, hsl]; rw [snoc_map hxk, List.map_append]; rfl), (by simp only [List.length_append, List.length_cons, List.length_nil]; omega)⟩ (by omega) rfl ?_
      exact (.get rfl (VLe.int (by simp only []; omega)) (.get rfl (VLe.refl _) ((.keep 14 rfl rfl))))
    ·
      have h47 : rowsT.length = 47 := rfl
      have hsall : rowsT.take s.1 = rowsT := List.take_of_length_le (by omega)
      refine CodeT.exit (EndT.thenX (EndT.thenX (EndT.blkX (EndT.thenN ?_))))
      refine CodeT.seq ?_
      refine CodeT.seq ?_
      refine CodeT.region (.p (opCall (late_spec) Try.cb25 .nil) rfl <| .p (opMove (.c _)) rfl <| .nil ?_)
      refine EndT.thenN ?_
      refine CodeT.block ?_
      refine CodeT.loopO (σ := Nat × SB × List InfoO) (fun s => [sliceH s.2.1 5 encInfoO s.2.2, elemsH s.2.2]) (fun u => [(22, intV .i64 (u.1 : Int)), (1, exactV (sval u.2.1 u.2.2.length))]) (fun u => u.1 ≤ lateT.length ∧ u.2.2.map InfoO.Code = (rowsT.map infoOf ++ (lateT.take u.1).map infoOf).map InfoD.Code ∧ u.2.2.length ≤ 47 + u.1) (fun u => lateT.length - u.1) (0, s.2.1, s.2.2) ⟨by simp, by simp only [hsl, hsall]; simp, by simp only []; omega⟩ rfl ?_ ?_
      · exact (.get rfl (VLe.refl _) (.get rfl (VLe.refl _) (.refl _ _)))
      · rintro u ⟨huk, hul, hun⟩
        refine CodeT.seq ?_
        refine CodeT.region (.p (opLss (.t rfl) (.c _)) rfl <| .nil ?_)
        refine EndT.thenN ?_
        refine CodeT.seq ?_
        refine CodeT.cond (.t rfl) (fun c1 => ?_) (fun c1 => ?_)
        ·
          have h6 : lateT.length = 6 := rfl
          have hlt : u.1 < lateT.length := by omega
          obtain ⟨r, hxk⟩ := getElem?_lt (xs := lateT) (k := u.1) hlt
          have hro : RowOk r := late_ascii r (List.mem_of_getElem? hxk)
          refine CodeT.skip (EndT.thenN ?_)
          refine CodeT.seq ?_
          refine CodeT.block ?_
          refine CodeT.seq ?_
          refine CodeT.region (.p (opIndexA lateT Try.underlying59 Try.cz53 rfl Try.ag53 (.t rfl) rfl rfl (.t rfl) rfl (by assumption)) rfl <| .n (opAlloc Try.zb53) rfl <| fun b5 _ => .s (opStoreOA (i := 0) Try.cz53 rfl (.t rfl) (.t rfl) rfl rfl rfl) <| .nil ?_)
          refine EndT.thenN ?_
          refine CodeT.share (t := 5) (i := 0) rfl rfl ?_
          refine CodeT.region (.p (opMove (.t rfl)) rfl <| .p (opLoadA Try.ag53 Try.cz53 rfl (.t rfl) rfl) rfl <| .n (opCallE (rest := [_, _]) (infoO_spec hro) Try.cb23 (.cons (.t rfl) .nil) (Perm.idx [0, 1] rfl rfl)) rfl <| fun g27 h27 => .p (opBuildSlice (enc := encInfoO) [mkI (infoOf r) g27] Try.underlying35 Try.cz31 rfl Try.zb31 rfl (.cons (.t rfl) .nil) rfl rfl rfl rfl rfl) rfl <| .n (opAppend (i := 2) Try.underlying35 Try.underlying35 Try.cz31 rfl Try.zb31 rfl Try.by31 (.t rfl) (.t rfl) rfl (by simp only [List.length_cons, List.length_nil]; omega) (by simp only [List.length_cons, List.length_nil]; omega)) rfl <| fun g29 _ => .p (opAssign (.t rfl)) rfl <| .nil ?_)
          refine EndT.blkN (EndT.thenN ?_)
          refine CodeT.own (OLe.trans (OLe.perm (Perm.idx [0, 1, 3, 2] rfl rfl)) (OLe.trans (elems_add (o := mkI (infoOf r) g27)) (OLe.perm (Perm.idx [1, 0] rfl rfl)))) ?_
          refine CodeT.region (.p (opAddF (.t rfl) (.c _) (fits_i64 (by omega) (by omega))) rfl <| .p (opMove (.t rfl)) rfl <| .nil ?_)
          refine EndT.round (u.1 + 1, g29, u.2.2 ++ [mkI (infoOf r) g27]) ⟨by simp only []; omega, by (simp only [List.map_append, hul]; rw [snoc_map hxk, List.map_append, List.append_assoc]; rfl), (by simp only [List.length_append, List.length_cons, List.length_nil]; omega)⟩ (by omega) rfl ?_
          exact (.get rfl (VLe.int (by simp only []; omega)) (.get rfl (VLe.refl _) ((.keep 14 rfl rfl))))
        ·
          have h6 : lateT.length = 6 := rfl
          have huall : lateT.take u.1 = lateT := List.take_of_length_le (by omega)
          refine CodeT.exit (EndT.thenX (EndT.thenX (EndT.blkX (EndT.thenN ?_))))
          refine CodeT.seq ?_
          refine CodeT.seq ?_
          refine CodeT.region (.p (opCall (spans_spec) Try.cb21 .nil) rfl <| .p (opMove (.c _)) rfl <| .nil ?_)
          refine EndT.thenN ?_
          refine CodeT.block ?_
          refine CodeT.loopO (σ := Nat × SB × List InfoO) (fun s => [sliceH s.2.1 5 encInfoO s.2.2, elemsH s.2.2]) (fun v => [(32, intV .i64 (v.1 : Int)), (1, exactV (sval v.2.1 v.2.2.length))]) (fun v => v.1 ≤ spansT.length ∧ v.2.2.map InfoO.Code = ((rowsT.map infoOf ++ lateT.map infoOf) ++ ((spansT.take v.1).flatMap spanRows).map infoOf).map InfoD.Code ∧ v.2.2.length ≤ 53 + 20 * v.1) (fun v => spansT.length - v.1) (0, u.2.1, u.2.2) ⟨by simp, by simp only [hul, huall]; simp, by simp only []; omega⟩ rfl ?_ ?_
          · exact (.get rfl (VLe.refl _) (.get rfl (VLe.refl _) (.refl _ _)))
          · rintro v ⟨hvk, hvl, hvn⟩
            refine CodeT.seq ?_
            refine CodeT.region (.p (opLss (.t rfl) (.c _)) rfl <| .nil ?_)
            refine EndT.thenN ?_
            refine CodeT.seq ?_
            refine CodeT.cond (.t rfl) (fun c2 => ?_) (fun c2 => ?_)
            ·
              have h8 : spansT.length = 8 := rfl
              have hlt : v.1 < spansT.length := by omega
              obtain ⟨x, hxk⟩ := getElem?_lt (xs := spansT) (k := v.1) hlt
              have hxm := List.mem_of_getElem? hxk
              have hb := spans_bd x hxm
              refine CodeT.skip (EndT.thenN ?_)
              refine CodeT.seq ?_
              refine CodeT.block ?_
              refine CodeT.seq ?_
              refine CodeT.region (.p (opIndexA spansT Try.underlying50 Try.cz49 rfl Try.ag49 (.t rfl) rfl rfl (.t rfl) rfl (by assumption)) rfl <| .n (opAlloc Try.zb49) rfl <| fun b7 _ => .s (opStoreOA (i := 0) Try.cz49 rfl (.t rfl) (.t rfl) rfl rfl rfl) <| .nil ?_)
              refine EndT.thenN ?_
              refine CodeT.share (t := 7) (i := 0) rfl rfl ?_
              refine CodeT.seq ?_
              refine CodeT.region (.p (opField Try.fd49_1 (.t rfl)) rfl <| .p (opLoad Try.ag3 (.t rfl)) rfl <| .p (opMove (.c _)) rfl <| .nil ?_)
              refine EndT.thenN ?_
              refine CodeT.block ?_
              refine CodeT.loopO (σ := Nat × SB × List InfoO) (fun s => [sliceH s.2.1 5 encInfoO s.2.2, elemsH s.2.2]) (fun z => [(37, intV .i64 (z.1 : Int)), (1, exactV (sval z.2.1 z.2.2.length))]) (fun z => z.1 ≤ x.many.toNat ∧ z.2.2.map InfoO.Code = v.2.2.map InfoO.Code ++ (spanPre x z.1).map InfoD.Code ∧ z.2.2.length ≤ v.2.2.length + z.1) (fun z => x.many.toNat - z.1) (0, v.2.1, v.2.2) ⟨by simp, by simp [spanPre], by simp⟩ rfl ?_ ?_
              · exact (.get rfl (VLe.refl _) (.get rfl (VLe.refl _) (.refl _ _)))
              · rintro z ⟨hzk, hzl, hzn⟩
                refine CodeT.seq ?_
                refine CodeT.region (.p (opLss (.t rfl) (.t rfl)) rfl <| .nil ?_)
                refine EndT.thenN ?_
                refine CodeT.seq ?_
                refine CodeT.cond (.t rfl) (fun c3 => ?_) (fun c3 => ?_)
                ·
                  have hzi : z.1 < x.many.toNat := by omega
                  obtain ⟨r, hnr, hro⟩ := num_some hxm hzi
                  refine CodeT.skip (EndT.thenN ?_)
                  refine CodeT.seq ?_
                  refine CodeT.block ?_
                  refine CodeT.seq ?_
                  refine CodeT.region (.p (opMove (.t rfl)) rfl <| .p (opAssign (.t rfl)) rfl <| .nil ?_)
                  refine EndT.thenN ?_
                  refine CodeT.seq ?_
                  refine CodeT.region (.p (opField Try.fd49_0 (.t rfl)) rfl <| .p (opLoad Try.ag3 (.t rfl)) rfl <| .p (opMove (.t rfl)) rfl <| .p (opAddF (.t rfl) (.t rfl) (fits_i64 (by omega) (by omega))) rfl <| .p (opCall (numbered_spec) Try.cb26 (.cons (.t rfl) .nil)) rfl <| .p (opMove (.t rfl)) rfl <| .p (opExtract (.t rfl) rfl) rfl <| .p (opExtract (.t rfl) rfl) rfl <| .n (opAlloc Try.zb53) rfl <| fun b9 _ => .s (opStoreOA (i := 0) Try.cz53 rfl (.t rfl) (.t rfl) rfl rfl rfl) <| .p (opAssign (.t rfl)) rfl <| .nil ?_)
                  refine EndT.thenN ?_
                  refine CodeT.share (t := 9) (i := 0) rfl rfl ?_
                  simp only [hnr, Option.getD_some]
                  refine CodeT.region (.p (opMove (.t rfl)) rfl <| .p (opLoadA Try.ag53 Try.cz53 rfl (.t rfl) rfl) rfl <| .n (opCallE (rest := [_, _]) (infoO_spec hro) Try.cb23 (.cons (.t rfl) .nil) (Perm.idx [0, 1] rfl rfl)) rfl <| fun g50 h50 => .p (opBuildSlice (enc := encInfoO) [mkI (infoOf r) g50] Try.underlying35 Try.cz31 rfl Try.zb31 rfl (.cons (.t rfl) .nil) rfl rfl rfl rfl rfl) rfl <| .n (opAppend (i := 2) Try.underlying35 Try.underlying35 Try.cz31 rfl Try.zb31 rfl Try.by31 (.t rfl) (.t rfl) rfl (by simp only [List.length_cons, List.length_nil]; omega) (by simp only [List.length_cons, List.length_nil]; omega)) rfl <| fun g52 _ => .p (opAssign (.t rfl)) rfl <| .nil ?_)
                  refine EndT.blkN (EndT.thenN ?_)
                  refine CodeT.own (OLe.trans (OLe.perm (Perm.idx [0, 1, 3, 2] rfl rfl)) (OLe.trans (elems_add (o := mkI (infoOf r) g50)) (OLe.perm (Perm.idx [1, 0] rfl rfl)))) ?_
                  refine CodeT.region (.p (opAddF (.t rfl) (.c _) (fits_i64 (by omega) (by omega))) rfl <| .p (opMove (.t rfl)) rfl <| .nil ?_)
                  refine EndT.round (z.1 + 1, g52, z.2.2 ++ [mkI (infoOf r) g50]) ⟨by simp only []; omega, by (simp only [List.map_append, hzl]; rw [spanPre_snoc hnr, List.map_append, List.append_assoc]; rfl), (by simp only [List.length_append, List.length_cons, List.length_nil]; omega)⟩ (by omega) rfl ?_
                  exact (.get rfl (VLe.int (by simp only []; omega)) (.get rfl (VLe.refl _) ((.keep 24 rfl rfl))))
                ·
                  have hzall : z.1 = x.many.toNat := by omega
                  refine CodeT.exit (EndT.thenX (EndT.thenX (EndT.blkX (EndT.blkN (EndT.thenN ?_)))))
                  refine CodeT.region (.p (opAddF (.t rfl) (.c _) (fits_i64 (by omega) (by omega))) rfl <| .p (opMove (.t rfl)) rfl <| .nil ?_)
                  refine EndT.round (v.1 + 1, z.2.1, z.2.2) ⟨by simp only []; omega, by (simp only [hzl, hzall, spanPre_all, hvl]; rw [← take_snoc hxk, List.flatMap_append, List.map_append, List.map_append, List.map_append, List.append_assoc]; simp), by simp only []; omega⟩ (by omega) rfl ?_
                  exact (.get rfl (VLe.int (by simp only []; omega)) (.get rfl (VLe.refl _) ((.keep 14 rfl rfl))))
            ·
              have h8 : spansT.length = 8 := rfl
              have hvall : spansT.take v.1 = spansT := List.take_of_length_le (by omega)
              rw [hvall] at hvl
              have hvm : v.2.2.map InfoO.Code = madeT.map InfoD.Code := hvl
              refine CodeT.sliceSome 0 rfl (made_some hvm) fun bb cap hbc => ?_
              obtain ⟨v1, v2, v3⟩ := v
              simp only at hbc hvm ⊢
              subst hbc
              refine CodeT.exit (EndT.thenX (EndT.thenX (EndT.blkX (EndT.thenN ?_))))
              refine CodeT.seq ?_
              refine CodeT.region (.p (opMove (.t rfl)) rfl <| .n (opCallE (rest := [_]) (sortInfoO_spec (codes_of hvm)) Try.cb27 (.cons (.t rfl) (.cons (.f _) .nil)) (List.Perm.refl _)) rfl <| fun ys hys => .nil ?_)
              refine EndT.thenN ?_
              have hyl : v3.length = ys.length := hys.1.length_eq.symm
              rw [hyl]
              refine CodeT.own (OLe.trans (OLe.perm (Perm.idx [1, 0] rfl rfl)) (OLe.trans (elems_perm hys.1.symm) (OLe.perm (Perm.idx [1, 0] rfl rfl)))) ?_
              refine CodeT.seq ?_
              refine CodeT.region (.p (opMove (.t rfl)) rfl <| .p (opAssign (.t rfl)) rfl <| .nil ?_)
              refine EndT.thenN ?_
              refine CodeT.ret (Post.retR1 rfl (((bb, cap), ys)) (by trivial) (fun _ _ _ h => h) (.rt rfl) ?_)
              exact VLe.refl _

end Go.Proofs.Ytjojlppmnebhgaa
