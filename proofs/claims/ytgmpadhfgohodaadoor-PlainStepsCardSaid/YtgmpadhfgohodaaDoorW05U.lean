/-
  Walks, printed by a program (gen.py) out of what its author says of each function.
-/
import Derived.Test.YtgmpadhfgohodaaDoorW05V
namespace Go.Proofs.YtgmpadhfgohodaaDoor
open Go.Hl Go.RowKit
set_option linter.unusedVariables false
set_option maxRecDepth 100000

theorem rdivide_spec {a b : List Bool} {n : Nat} (hp0 : a.length = n) (hp1 : b.length = n) (hp2 : n ≤ 64) (hp3 : 0 < wordN b) : FnP Tryd.prog 54 [sliceV 1 encB (a), sliceV 1 encB (b)] (tupV [sliceV 1 encB (bitsL n (wordN a / wordN b)), sliceV 1 encB (bitsL n (wordN a % wordN b))]) := by
  refine FnE.intro 51 Tryd.func54 rfl rfl rfl fun w0 S0 M => ?_
  have hA := wordN_lt a
  have hB := wordN_lt b
  rw [hp0] at hA
  rw [hp1] at hB
  have hdw : wordN (b ++ [false]) = wordN b := by rw [wordN_app]; simp [wordN, toN]
  have hdl : (b ++ [false]).length = n + 1 := by simp [hp1]
  refine CodeT.seq ?_
  refine CodeT.region (.p (opAssign (.c _)) rfl <| .p (opAssign (.c _)) rfl <| .nil ?_)
  refine EndT.thenN ?_
  refine CodeT.seq ?_
  refine CodeT.region (.p (opMove (.t rfl)) rfl <| .p (opLen rfl Tryd.underlying82 (.t rfl)) rfl <| .p (opAssign (.t rfl)) rfl <| .nil ?_)
  refine EndT.thenN ?_
  refine CodeT.seq ?_
  refine CodeT.region (.p (opMove (.t rfl)) rfl <| .n (opMakeG (enc := encB) (false) Tryd.underlying82 Tryd.cz4 Tryd.by4 Tryd.zb4 rfl mk_false (.t rfl) (show _ = ((n : Nat) : Int) by omega) (by omega) (by omega)) rfl <| fun b14 _ => .p (opAssign (.t rfl)) rfl <| .nil ?_)
  refine EndT.thenN ?_
  refine CodeT.seq ?_
  refine CodeT.region (.p (opMove (.t rfl)) rfl <| .p (opAddF (.t rfl) (.c _) (fits_i64 (by omega) (by omega))) rfl <| .n (opMakeShG (enc := encB) (false) Tryd.underlying82 Tryd.cz4 Tryd.by4 Tryd.zb4 rfl mk_false (.t rfl) (show _ = ((n + 1 : Nat) : Int) by omega) (by omega) (by omega)) rfl <| fun _ _ => .p (opAssign (.t rfl)) rfl <| .nil ?_)
  refine EndT.thenN ?_
  refine CodeT.seq ?_
  refine CodeT.region (.n (opBuildSliceO encB ([] : List Bool) Tryd.underlying82 Tryd.cz4 rfl Tryd.zb4 rfl .nil rfl rfl rfl rfl rfl) rfl <| fun g18 _ => .p (opMove (.t rfl)) rfl <| .n (opAppend (i := 0) Tryd.underlying82 Tryd.underlying82 Tryd.cz4 rfl Tryd.zb4 rfl Tryd.by4 (.t rfl) (.t rfl) rfl (by (simp only [List.length_cons, List.length_nil]; omega)) (by (simp only [List.length_cons, List.length_nil]; omega))) rfl <| fun g20 _ => .p (opBuildSlice (enc := encB) [false] Tryd.underlying82 Tryd.cz4 rfl Tryd.zb4 rfl (.cons (.le .cf vff) .nil) rfl rfl rfl rfl rfl) rfl <| .n (opAppend (i := 0) Tryd.underlying82 Tryd.underlying82 Tryd.cz4 rfl Tryd.zb4 rfl Tryd.by4 (.t rfl) (.t rfl) rfl (by (simp only [List.nil_append, List.length_cons, List.length_nil]; omega)) (by (simp only [List.nil_append, List.length_cons, List.length_nil]; omega))) rfl <| fun g22 _ => .p (opAssign (.t rfl)) rfl <| .nil ?_)
  refine EndT.thenN ?_
  refine CodeT.seq ?_
  refine CodeT.seq ?_
  refine CodeT.region (.p (opMove (.t rfl)) rfl <| .p (opSubF (.t rfl) (.c _) (fits_i64 (by omega) (by omega))) rfl <| .p (opAssign (.t rfl)) rfl <| .nil ?_)
  refine EndT.thenN ?_
  refine CodeT.block ?_
  refine CodeT.shareS (t := 9) (i := 0) (xs := b ++ [false]) rfl rfl ?_
  refine CodeT.loopO (σ := Nat × List Bool × List Bool) (fun g => [sliceH (some (b14, n)) 1 encB g.2.2]) (fun g => [(8, sliceV 1 encB (g.2.1)), (10, iV ((g.1 : Int) - 1))]) (fun g => g.1 ≤ n ∧ DivI n (wordN a) (wordN b) g.1 g.2.1 g.2.2) (fun g => g.1) (n, List.replicate (n + 1) false, List.replicate n false) ⟨Nat.le_refl _, DivI.begin hA⟩ rfl ?_ ?_
  · exact (.get rfl (VLe.refl _) (.get rfl (VLe.int (by rw [hp0])) (.refl _ _)))
  · rintro ⟨k, r, q⟩ ⟨hk, hd⟩
    simp only at hk hd ⊢
    refine CodeT.seq ?_
    refine CodeT.seq ?_
    refine CodeT.region (.p (opMove (.t rfl)) rfl <| .p (opGeq (.t rfl) (.c _)) rfl <| .nil ?_)
    refine EndT.thenN ?_
    refine CodeT.cond (.t rfl) (fun c0 => ?_) (fun c0 => ?_)
    ·
      obtain ⟨j, rfl⟩ : ∃ j, k = j + 1 := ⟨k - 1, by omega⟩
      have hjn : j < n := by omega
      obtain ⟨x, hx⟩ := getElem?_lt (xs := a) (k := j) (by omega)
      have hql := hd.ql
      obtain ⟨z, hqz⟩ := getElem?_lt (xs := q) (k := j) (by omega)
      have hxb := tb_word hx
      have hr1 : 0 < (shiftL r 1 false).length := by rw [shiftL_len, hd.rl]; omega
      refine CodeT.skip (EndT.thenN ?_)
      refine CodeT.seq ?_
      refine CodeT.block ?_
      refine CodeT.seq ?_
      refine CodeT.region (.p (opMove (.t rfl)) rfl <| .n (opCallE (rest := [_]) (rshiftO_spec (fl := false) (by rw [hd.rl]; omega) (by decide) (by decide)) Tryd.cb56 (.cons (.t rfl) (.cons (.c _) (.cons (.le .cf vff) .nil))) (Perm.idx [0] rfl rfl)) rfl <| fun g30 h30 => .p (opAssign (.t rfl)) rfl <| .nil ?_)
      refine EndT.thenN ?_
      obtain ⟨x0, hx0⟩ := getElem?_lt (xs := shiftL r 1 false) (k := 0) hr1
      refine CodeT.sliceSome 0 rfl (by intro h; rw [h] at hr1; simp at hr1) fun bb cap hbc => ?_
      subst hbc
      refine CodeT.seq ?_
      refine CodeT.region (.p (opMove (.t rfl)) rfl <| .p (opMove (.t rfl)) rfl <| .p (opMove (.t rfl)) rfl <| .p (opIndexAddr (j := j) Tryd.underlying82 Tryd.cz4 rfl (.t rfl) (.t rfl) (by omega) hx) rfl <| .p (opLoad Tryd.ag4 (.t rfl)) rfl <| .p (opIndexAddrW 0 Tryd.underlying82 Tryd.cz4 rfl (.t rfl) (.c _) rfl (by omega)) rfl <| .s (opStoreW (i := 0) (r := 0) x rfl Tryd.cz4 (.t rfl) (.t rfl) rfl hx0 rfl rfl) <| .nil ?_)
      refine EndT.thenN ?_
      refine CodeT.shareS (t := 8) (i := 0) (g := some (bb, cap)) (xs := restL r ((wordN a).testBit j)) (by rw [hxb]; rfl) (by rw [restL_len, ← shiftL_len r 1 false]; rfl) ?_
      refine CodeT.seq ?_
      refine CodeT.region (.p (opMove (.t rfl)) rfl <| .p (opMove (.t rfl)) rfl <| .p (opCall (rless_spec (by rw [restL_len, hd.rl, hdl]) (by rw [restL_len, hd.rl]; omega)) Tryd.cb71 (.cons (.t rfl) (.cons (.t rfl) .nil))) rfl <| .p (opNot (.t rfl)) rfl <| .nil ?_)
      refine EndT.thenN ?_
      refine CodeT.cond (.t rfl) (fun c1 => ?_) (fun c1 => ?_)
      ·
        refine CodeT.seq ?_
        refine CodeT.region (.p (opMove (.t rfl)) rfl <| .p (opMove (.t rfl)) rfl <| .p (opCall (rminus_spec (by rw [restL_len, hd.rl, hdl]) (by rw [restL_len, hd.rl]; omega)) Tryd.cb50 (.cons (.t rfl) (.cons (.t rfl) .nil))) rfl <| .p (opAssign (.t rfl)) rfl <| .nil ?_)
        refine EndT.thenN ?_
        refine CodeT.region (.p (opMove (.t rfl)) rfl <| .p (opMove (.t rfl)) rfl <| .p (opIndexAddrW j Tryd.underlying82 Tryd.cz4 rfl (.t rfl) (.t rfl) (by omega) hjn) rfl <| .s (opStoreW (i := 0) (r := 0) true rfl Tryd.cz4 (.t rfl) (.le .ct vtt) rfl hqz rfl rfl) <| .nil ?_)
        refine EndT.blkN (EndT.thenN ?_)
        refine CodeT.region (.p (opMove (.t rfl)) rfl <| .p (opSubF (.t rfl) (.c _) (fits_i64 (by omega) (by omega))) rfl <| .p (opAssign (.t rfl)) rfl <| .nil ?_)
        refine EndT.round (j, minusL (restL r ((wordN a).testBit j)) (b ++ [false]), q.set j true) ⟨by show j ≤ n; omega, hd.high hp3 hB (by omega) hdw hdl (by rw [← hdw]; exact c1)⟩ (by show j < j + 1; omega) rfl ?_
        exact (.get rfl (VLe.refl _) (.get rfl (VLe.int (show (((j + 1 : Nat) : Int) - 1 - 1 = (j : Int) - 1) by omega)) ((.keep 28 rfl rfl))))
      ·
        refine CodeT.skip (EndT.blkN (EndT.thenN ?_))
        refine CodeT.region (.p (opMove (.t rfl)) rfl <| .p (opSubF (.t rfl) (.c _) (fits_i64 (by omega) (by omega))) rfl <| .p (opAssign (.t rfl)) rfl <| .nil ?_)
        refine EndT.round (j, restL r ((wordN a).testBit j), q) ⟨by show j ≤ n; omega, hd.low hp3 hB (by rw [← hdw]; exact Classical.not_not.1 c1)⟩ (by show j < j + 1; omega) rfl ?_
        exact (.get rfl (VLe.refl _) (.get rfl (VLe.int (show (((j + 1 : Nat) : Int) - 1 - 1 = (j : Int) - 1) by omega)) ((.keep 21 rfl rfl))))
    ·
      have hk0 : k = 0 := by omega
      subst hk0
      obtain ⟨hq, hr⟩ := hd.done (Nat.le_of_lt hB) hp3
      have hqe := bits_of_word hd.ql hq
      have hre := bits_of_word (l := r.take n) (n := n) (by rw [List.length_take, hd.rl]; omega) hr
      subst hqe
      refine CodeT.shareS (t := 7) (i := 0) (xs := bitsL n (wordN a / wordN b)) rfl (by rw [bitsL_len]; first | done | rfl) ?_
      refine CodeT.exit (EndT.thenX (EndT.thenX (EndT.blkX (EndT.thenN ?_))))
      refine CodeT.seq ?_
      refine CodeT.draw 5 1 Tryd.mixed (by kernel_rfl) (.p (opMove (.t rfl)) <| .p (opMove (.t rfl)) <| .p (opMove (.t rfl)) <| .p ((opSliceHi (h := n) Tryd.underlying82 Tryd.cz4 rfl (.t rfl) (.t rfl) (by omega) (by rw [hd.rl]; omega)).le (VLe.of_eq (by rw [hre]))) <| .p (opAssign (.t rfl)) <| .nil) (.p (opAssign (.t rfl)) rfl <| .nil ?_)
      refine EndT.thenN ?_
      refine CodeT.ret (Post.retR rfl rfl () trivial (fun _ _ _ _ => trivial) rfl (.cons (.rt rfl) ?_ (.cons (.rt rfl) ?_ .nil)))
      · exact VLe.refl _
      · exact VLe.refl _

theorem runary_spec {n a : Nat} {op : Int} (hp0 : WN n) (hp1 : a < 18446744073709551616) : FnP Tryd.prog 31 [iV op, iV (n : Int), uV a] (uV (unF n op (a % 2 ^ n))) := by
  refine FnE.intro 47 Tryd.func31 rfl rfl rfl fun w0 S0 M => ?_
  have hn1 : 1 ≤ n ∧ n ≤ 64 := by rcases hp0 with rfl | rfl <;> omega
  have hA := Nat.mod_lt a (Nat.two_pow_pos n)
  have ha0 := bits_mod n a
  generalize hAe : a % 2 ^ n = A at *
  refine CodeT.seq ?_
  refine CodeT.region (.p (opAssign (.c _)) rfl <| .nil ?_)
  refine EndT.thenN ?_
  refine CodeT.seq ?_
  refine CodeT.region (.p (opMove (.t rfl)) rfl <| .p (opMove (.t rfl)) rfl <| .p ((opCall (rlist_spec hn1.2 hp1) Tryd.cb46 (.cons (.t rfl) (.cons (.t rfl) .nil))).le (VLe.of_eq (by rw [← ha0]))) rfl <| .p (opAssign (.t rfl)) rfl <| .nil ?_)
  refine EndT.thenN ?_
  refine CodeT.seq ?_
  refine CodeT.region (.p (opAssign (.c _)) rfl <| .p (opAssign (.c _)) rfl <| .p (opAssign (.c _)) rfl <| .nil ?_)
  refine EndT.thenN ?_
  refine CodeT.seq ?_
  refine CodeT.seq ?_
  refine CodeT.region (.p (opAssign (.c _)) rfl <| .nil ?_)
  refine EndT.thenN ?_
  refine CodeT.block ?_
  refine CodeT.loopO (σ := Nat) (fun _ => []) (fun i => [(11, iV (i : Int)), (8, iV (popN i A : Int)), (9, iV (lzN i A : Int)), (10, iV (tzN i A : Int))]) (fun i => i ≤ n) (fun i => n - i) 0 (Nat.zero_le _) rfl ?_ ?_
  · exact (.get rfl (VLe.refl _) (.get rfl (VLe.refl _) (.get rfl (VLe.refl _) (.get rfl (VLe.refl _) (.refl _ _)))))
  · rintro i hi
    have hp1 := popN_le i A
    have hp2 := lzN_le i A
    have hp3 := tzN_le i A
    refine CodeT.seq ?_
    refine CodeT.seq ?_
    refine CodeT.region (.p (opMove (.t rfl)) rfl <| .p (opMove (.t rfl)) rfl <| .p (opLss (.t rfl) (.t rfl)) rfl <| .nil ?_)
    refine EndT.thenN ?_
    refine CodeT.cond (.t rfl) (fun c0 => ?_) (fun c0 => ?_)
    ·
      have hin : i < n := by omega
      have hx := bits_at (n := n) (a := A) hin
      refine CodeT.skip (EndT.thenN ?_)
      refine CodeT.seq ?_
      refine CodeT.block ?_
      refine CodeT.seq ?_
      refine CodeT.region (.p (opMove (.t rfl)) rfl <| .p (opMove (.t rfl)) rfl <| .p (opIndexAddr (j := i) Tryd.underlying82 Tryd.cz4 rfl (.t rfl) (.t rfl) rfl hx) rfl <| .p (opLoad Tryd.ag4 (.t rfl)) rfl <| .nil ?_)
      refine EndT.thenN ?_
      refine CodeT.cond (.t rfl) (fun c1 => ?_) (fun c1 => ?_)
      ·
        have hq1 : (popN i A : Int) + 1 = ((popN (i + 1) A : Nat) : Int) := by simp [popN, c1, toN]
        have hq2 : (0 : Int) = ((lzN (i + 1) A : Nat) : Int) := by simp [lzN, c1]
        have hq3 : (tzN i A : Int) = ((tzN (i + 1) A : Nat) : Int) := by simp [tzN, c1]
        refine CodeT.seq ?_
        refine CodeT.region (.p (opMove (.t rfl)) rfl <| .p (opAddF (.t rfl) (.c _) (fits_i64 (by omega) (by omega))) rfl <| .p (opAssign (.t rfl)) rfl <| .nil ?_)
        refine EndT.thenN ?_
        refine CodeT.region (.p (opAssign (.c _)) rfl <| .nil ?_)
        refine EndT.blkN (EndT.thenN ?_)
        refine CodeT.region (.p (opMove (.t rfl)) rfl <| .p (opAddF (.t rfl) (.c _) (fits_i64 (by omega) (by omega))) rfl <| .p (opAssign (.t rfl)) rfl <| .nil ?_)
        refine EndT.round (i + 1) (by omega) (by omega) rfl ?_
        exact (.get rfl (VLe.int (by (show (i : Int) + 1 = ((i + 1 : Nat) : Int); omega))) (.get rfl (VLe.int hq1) (.get rfl (VLe.int hq2) (.get rfl (VLe.int hq3) ((.keep 18 rfl rfl))))))
      ·
        have hxf : A.testBit i = false := by simpa using c1
        have hq1 : (popN i A : Int) = ((popN (i + 1) A : Nat) : Int) := by simp [popN, hxf, toN]
        have hq2 : (lzN i A : Int) + 1 = ((lzN (i + 1) A : Nat) : Int) := by simp [lzN, hxf]
        refine CodeT.seq ?_
        refine CodeT.region (.p (opMove (.t rfl)) rfl <| .p (opAddF (.t rfl) (.c _) (fits_i64 (by omega) (by omega))) rfl <| .p (opAssign (.t rfl)) rfl <| .nil ?_)
        refine EndT.thenN ?_
        refine CodeT.seq ?_
        refine CodeT.region (.p (opMove (.t rfl)) rfl <| .p (opEql (.t rfl) (.c _)) rfl <| .nil ?_)
        refine EndT.thenN ?_
        refine CodeT.cond (.t rfl) (fun c2 => ?_) (fun c2 => ?_)
        ·
          have hp00 : popN i A = 0 := by omega
          have hq3 : (tzN i A : Int) + 1 = ((tzN (i + 1) A : Nat) : Int) := by simp [tzN, hxf, hp00]
          refine CodeT.region (.p (opMove (.t rfl)) rfl <| .p (opAddF (.t rfl) (.c _) (fits_i64 (by omega) (by omega))) rfl <| .p (opAssign (.t rfl)) rfl <| .nil ?_)
          refine EndT.blkN (EndT.thenN ?_)
          refine CodeT.region (.p (opMove (.t rfl)) rfl <| .p (opAddF (.t rfl) (.c _) (fits_i64 (by omega) (by omega))) rfl <| .p (opAssign (.t rfl)) rfl <| .nil ?_)
          refine EndT.round (i + 1) (by omega) (by omega) rfl ?_
          exact (.get rfl (VLe.int (by (show (i : Int) + 1 = ((i + 1 : Nat) : Int); omega))) (.get rfl (VLe.int hq1) (.get rfl (VLe.int hq2) (.get rfl (VLe.int hq3) ((.keep 22 rfl rfl))))))
        ·
          have hp00 : ¬ popN i A = 0 := by omega
          have hq3 : (tzN i A : Int) = ((tzN (i + 1) A : Nat) : Int) := by simp [tzN, hxf, hp00]
          refine CodeT.skip (EndT.blkN (EndT.thenN ?_))
          refine CodeT.region (.p (opMove (.t rfl)) rfl <| .p (opAddF (.t rfl) (.c _) (fits_i64 (by omega) (by omega))) rfl <| .p (opAssign (.t rfl)) rfl <| .nil ?_)
          refine EndT.round (i + 1) (by omega) (by omega) rfl ?_
          exact (.get rfl (VLe.int (by (show (i : Int) + 1 = ((i + 1 : Nat) : Int); omega))) (.get rfl (VLe.int hq1) (.get rfl (VLe.int hq2) (.get rfl (VLe.int hq3) ((.keep 19 rfl rfl))))))
    ·
      have hin : i = n := by omega
      subst hin
      have hz0 := pop0_iff i A
      rw [Nat.mod_eq_of_lt hA] at hz0
      have hlz := lz_bl i A
      rw [Nat.mod_eq_of_lt hA] at hlz
      refine CodeT.exit (EndT.thenX (EndT.thenX (EndT.blkX (EndT.thenN ?_))))
      refine CodeT.seq ?_
      refine CodeT.seq ?_
      refine CodeT.region (.p (opMove (.t rfl)) rfl <| .nil ?_)
      refine EndT.thenN ?_
      refine CodeT.block ?_
      refine CodeT.seq ?_
      refine CodeT.region (.p (opEql (.t rfl) (.c _)) rfl <| .p (opAssign (.t rfl)) rfl <| .nil ?_)
      refine EndT.thenN ?_
      refine CodeT.cond (.t rfl) (fun c3 => ?_) (fun c3 => ?_)
      ·
        refine CodeT.seq ?_
        refine CodeT.region (.p (opMove (.t rfl)) rfl <| .p (opConvF Tryd.underlying3 Tryd.underlying37 (.t rfl) (fits_u64 (by omega) (by omega))) rfl <| .p (opAssign (.t rfl)) rfl <| .nil ?_)
        refine EndT.thenN ?_
        refine CodeT.ret (EndT.blkR (EndT.thenR (Post.retP rfl rfl ?_)))
        exact VLe.int (congrArg Nat.cast (by unfold unF; (repeat (first | rw [if_pos (by omega)] | rw [if_neg (by omega)])); all_goals first | omega | rfl))
      ·
        refine CodeT.seq ?_
        refine CodeT.region (.p (opEql (.t rfl) (.c _)) rfl <| .p (opAssign (.t rfl)) rfl <| .nil ?_)
        refine EndT.thenN ?_
        refine CodeT.cond (.t rfl) (fun c4 => ?_) (fun c4 => ?_)
        ·
          refine CodeT.seq ?_
          refine CodeT.region (.p (opMove (.t rfl)) rfl <| .p (opConvF Tryd.underlying3 Tryd.underlying37 (.t rfl) (fits_u64 (by omega) (by omega))) rfl <| .p (opAssign (.t rfl)) rfl <| .nil ?_)
          refine EndT.thenN ?_
          refine CodeT.ret (EndT.blkR (EndT.thenR (Post.retP rfl rfl ?_)))
          exact VLe.int (congrArg Nat.cast (by unfold unF; (repeat (first | rw [if_pos (by omega)] | rw [if_neg (by omega)])); all_goals first | omega | rfl))
        ·
          refine CodeT.seq ?_
          refine CodeT.region (.p (opEql (.t rfl) (.c _)) rfl <| .p (opAssign (.t rfl)) rfl <| .nil ?_)
          refine EndT.thenN ?_
          refine CodeT.cond (.t rfl) (fun c5 => ?_) (fun c5 => ?_)
          ·
            refine CodeT.seq ?_
            refine CodeT.region (.p (opMove (.t rfl)) rfl <| .p (opConvF Tryd.underlying3 Tryd.underlying37 (.t rfl) (fits_u64 (by omega) (by omega))) rfl <| .p (opAssign (.t rfl)) rfl <| .nil ?_)
            refine EndT.thenN ?_
            refine CodeT.ret (EndT.blkR (EndT.thenR (Post.retP rfl rfl ?_)))
            exact VLe.int (congrArg Nat.cast (by unfold unF; (repeat (first | rw [if_pos (by omega)] | rw [if_neg (by omega)])); all_goals first | omega | rfl))
          ·
            refine CodeT.skip (EndT.blkN (EndT.thenN ?_))
            refine CodeT.seq ?_
            refine CodeT.seq ?_
            refine CodeT.region (.p (opMove (.t rfl)) rfl <| .p (opEql (.t rfl) (.c _)) rfl <| .nil ?_)
            refine EndT.thenN ?_
            refine CodeT.cond (.t rfl) (fun c6 => ?_) (fun c6 => ?_)
            ·
              refine CodeT.seq ?_
              refine CodeT.region (.p (opAssign (.c _)) rfl <| .nil ?_)
              refine EndT.thenN ?_
              refine CodeT.ret (EndT.thenR (Post.retP rfl rfl ?_))
              exact VLe.int (congrArg Nat.cast (by unfold unF; (repeat (first | rw [if_pos (by omega)] | rw [if_neg (by omega)])); all_goals first | omega | rfl))
            ·
              refine CodeT.skip (EndT.thenN ?_)
              refine CodeT.seq ?_
              refine CodeT.region (.p (opAssign (.c _)) rfl <| .nil ?_)
              refine EndT.thenN ?_
              refine CodeT.ret (Post.retP rfl rfl ?_)
              exact VLe.int (congrArg Nat.cast (by unfold unF; (repeat (first | rw [if_pos (by omega)] | rw [if_neg (by omega)])); all_goals first | omega | rfl))

theorem rtest_spec {n a b : Nat} {op : Int} (hp0 : WN n) (hp1 : a < 18446744073709551616) (hp2 : b < 18446744073709551616) (hp3 : 0 ≤ op) (hp4 : op < 10) : FnP Tryd.prog 35 [iV op, iV (n : Int), uV a, uV b] (uV (testF n op (a % 2 ^ n) (b % 2 ^ n))) := by
  refine FnE.intro 56 Tryd.func35 rfl rfl rfl fun w0 S0 M => ?_
  have hn1 : 1 ≤ n ∧ n ≤ 64 := by rcases hp0 with rfl | rfl <;> omega
  refine CodeT.seq ?_
  refine CodeT.region (.p (opAssign (.c _)) rfl <| .nil ?_)
  refine EndT.thenN ?_
  refine CodeT.seq ?_
  refine CodeT.region (.p (opMove (.t rfl)) rfl <| .p (opMove (.t rfl)) rfl <| .p (opCall (rlist_spec hn1.2 hp1) Tryd.cb46 (.cons (.t rfl) (.cons (.t rfl) .nil))) rfl <| .p ((opCall (rword_spec (by rw [bitsL_len]; omega)) Tryd.cb47 (.cons (.t rfl) .nil)).le (VLe.int (congrArg Nat.cast (wordN_bits n a)))) rfl <| .p (opMove (.t rfl)) rfl <| .p (opMove (.t rfl)) rfl <| .p (opCall (rlist_spec hn1.2 hp2) Tryd.cb46 (.cons (.t rfl) (.cons (.t rfl) .nil))) rfl <| .p ((opCall (rword_spec (by rw [bitsL_len]; omega)) Tryd.cb47 (.cons (.t rfl) .nil)).le (VLe.int (congrArg Nat.cast (wordN_bits n b)))) rfl <| .p (opEql (.t rfl) (.t rfl)) rfl <| .p (opAssign (.t rfl)) rfl <| .nil ?_)
  refine EndT.thenN ?_
  refine CodeT.seq ?_
  refine CodeT.region (.p (opMove (.t rfl)) rfl <| .p (opRem (.t rfl) (.c _) (by omega) (by omega)) rfl <| .p (opEql (.t rfl) (.c _)) rfl <| .p (opAssign (.t rfl)) rfl <| .nil ?_)
  refine EndT.thenN ?_
  refine CodeT.seq ?_
  refine CodeT.region (.p (opMove (.t rfl)) rfl <| .p (opMove (.t rfl)) rfl <| .p (opMove (.t rfl)) rfl <| .p (opMove (.t rfl)) rfl <| .p (opCall (rLess_spec hp0 hp1 hp2) Tryd.cb48 (.cons (.t rfl) (.cons (.t rfl) (.cons (.t rfl) (.cons (.t rfl) .nil))))) rfl <| .p (opMove (.t rfl)) rfl <| .p (opMove (.t rfl)) rfl <| .p (opMove (.t rfl)) rfl <| .p (opMove (.t rfl)) rfl <| .p (opCall (rLess_spec hp0 hp2 hp1) Tryd.cb48 (.cons (.t rfl) (.cons (.t rfl) (.cons (.t rfl) (.cons (.t rfl) .nil))))) rfl <| .p (opAssign (.t rfl)) rfl <| .p (opAssign (.t rfl)) rfl <| .nil ?_)
  refine EndT.thenN ?_
  refine CodeT.seq ?_
  have hop : op = 0 ∨ op = 1 ∨ op = 2 ∨ op = 3 ∨ op = 4 ∨ op = 5 ∨ op = 6 ∨ op = 7 ∨ op = 8 ∨ op = 9 := by omega
  rcases hop with hop | hop | hop | hop | hop | hop | hop | hop | hop | hop
  ·
    refine CodeT.region (.p (opMove (.t rfl)) rfl <| .p (opMove (.t rfl)) rfl <| .p (opNot (.t rfl)) rfl <| .p (opMove (.t rfl)) rfl <| .p (opMove (.t rfl)) rfl <| .p (opMove (.t rfl)) rfl <| .p (opMove (.t rfl)) rfl <| .p (opMove (.t rfl)) rfl <| .p (opNot (.t rfl)) rfl <| .p (opMove (.t rfl)) rfl <| .p (opNot (.t rfl)) rfl <| .p (opMove (.t rfl)) rfl <| .p (opNot (.t rfl)) rfl <| .p (opMove (.t rfl)) rfl <| .p (opNot (.t rfl)) rfl <| .p (opBuildSlice (enc := encP) ([(((a % 2 ^ n : Nat) : Int) = ((b % 2 ^ n : Nat) : Int)), ¬ (((a % 2 ^ n : Nat) : Int) = ((b % 2 ^ n : Nat) : Int)), lessF n (op % 2 = 0) (a % 2 ^ n) (b % 2 ^ n), lessF n (op % 2 = 0) (a % 2 ^ n) (b % 2 ^ n), lessF n (op % 2 = 0) (b % 2 ^ n) (a % 2 ^ n), lessF n (op % 2 = 0) (b % 2 ^ n) (a % 2 ^ n), ¬ lessF n (op % 2 = 0) (b % 2 ^ n) (a % 2 ^ n), ¬ lessF n (op % 2 = 0) (b % 2 ^ n) (a % 2 ^ n), ¬ lessF n (op % 2 = 0) (a % 2 ^ n) (b % 2 ^ n), ¬ lessF n (op % 2 = 0) (a % 2 ^ n) (b % 2 ^ n)]) Tryd.underlying82 Tryd.cz4 rfl Tryd.zb4 rfl (.cons (.t rfl) (.cons (.t rfl) (.cons (.t rfl) (.cons (.t rfl) (.cons (.t rfl) (.cons (.t rfl) (.cons (.t rfl) (.cons (.t rfl) (.cons (.t rfl) (.cons (.t rfl) .nil)))))))))) rfl rfl rfl rfl rfl) rfl <| .p (opMove (.t rfl)) rfl <| .p (opIndexAddr (j := 0) Tryd.underlying82 Tryd.cz4 rfl (.t rfl) (.t rfl) (by omega) rfl) rfl <| .p (opLoad Tryd.ag4 (.t rfl)) rfl <| .p (opAssign (.t rfl)) rfl <| .nil ?_)
    refine EndT.thenN ?_
    refine CodeT.seq ?_
    refine CodeT.seq ?_
    refine CodeT.region (.p (opMove (.t rfl)) rfl <| .nil ?_)
    refine EndT.thenN ?_
    refine CodeT.cond (.t rfl) (fun c0 => ?_) (fun c0 => ?_)
    ·
      refine CodeT.seq ?_
      refine CodeT.region (.p (opAssign (.c _)) rfl <| .nil ?_)
      refine EndT.thenN ?_
      refine CodeT.ret (EndT.thenR (Post.retP rfl rfl ?_))
      exact VLe.int (congrArg Nat.cast ((testF_is (p := True) (by unfold testP; (repeat (first | rw [if_pos (by omega)] | rw [if_neg (by omega)])); first | exact iff_true_intro (by first | exact c0 | (have h := c0; omega)) | skip)).trans (isN_pos trivial)).symm)
    ·
      refine CodeT.skip (EndT.thenN ?_)
      refine CodeT.seq ?_
      refine CodeT.region (.p (opAssign (.c _)) rfl <| .nil ?_)
      refine EndT.thenN ?_
      refine CodeT.ret (Post.retP rfl rfl ?_)
      exact VLe.int (congrArg Nat.cast ((testF_is (p := False) (by unfold testP; (repeat (first | rw [if_pos (by omega)] | rw [if_neg (by omega)])); first | exact iff_false_intro (by first | exact c0 | (have h := c0; omega)) | skip)).trans (isN_neg (fun h => h))).symm)
  ·
    refine CodeT.region (.p (opMove (.t rfl)) rfl <| .p (opMove (.t rfl)) rfl <| .p (opNot (.t rfl)) rfl <| .p (opMove (.t rfl)) rfl <| .p (opMove (.t rfl)) rfl <| .p (opMove (.t rfl)) rfl <| .p (opMove (.t rfl)) rfl <| .p (opMove (.t rfl)) rfl <| .p (opNot (.t rfl)) rfl <| .p (opMove (.t rfl)) rfl <| .p (opNot (.t rfl)) rfl <| .p (opMove (.t rfl)) rfl <| .p (opNot (.t rfl)) rfl <| .p (opMove (.t rfl)) rfl <| .p (opNot (.t rfl)) rfl <| .p (opBuildSlice (enc := encP) ([(((a % 2 ^ n : Nat) : Int) = ((b % 2 ^ n : Nat) : Int)), ¬ (((a % 2 ^ n : Nat) : Int) = ((b % 2 ^ n : Nat) : Int)), lessF n (op % 2 = 0) (a % 2 ^ n) (b % 2 ^ n), lessF n (op % 2 = 0) (a % 2 ^ n) (b % 2 ^ n), lessF n (op % 2 = 0) (b % 2 ^ n) (a % 2 ^ n), lessF n (op % 2 = 0) (b % 2 ^ n) (a % 2 ^ n), ¬ lessF n (op % 2 = 0) (b % 2 ^ n) (a % 2 ^ n), ¬ lessF n (op % 2 = 0) (b % 2 ^ n) (a % 2 ^ n), ¬ lessF n (op % 2 = 0) (a % 2 ^ n) (b % 2 ^ n), ¬ lessF n (op % 2 = 0) (a % 2 ^ n) (b % 2 ^ n)]) Tryd.underlying82 Tryd.cz4 rfl Tryd.zb4 rfl (.cons (.t rfl) (.cons (.t rfl) (.cons (.t rfl) (.cons (.t rfl) (.cons (.t rfl) (.cons (.t rfl) (.cons (.t rfl) (.cons (.t rfl) (.cons (.t rfl) (.cons (.t rfl) .nil)))))))))) rfl rfl rfl rfl rfl) rfl <| .p (opMove (.t rfl)) rfl <| .p (opIndexAddr (j := 1) Tryd.underlying82 Tryd.cz4 rfl (.t rfl) (.t rfl) (by omega) rfl) rfl <| .p (opLoad Tryd.ag4 (.t rfl)) rfl <| .p (opAssign (.t rfl)) rfl <| .nil ?_)
    refine EndT.thenN ?_
    refine CodeT.seq ?_
    refine CodeT.seq ?_
    refine CodeT.region (.p (opMove (.t rfl)) rfl <| .nil ?_)
    refine EndT.thenN ?_
    refine CodeT.cond (.t rfl) (fun c0 => ?_) (fun c0 => ?_)
    ·
      refine CodeT.seq ?_
      refine CodeT.region (.p (opAssign (.c _)) rfl <| .nil ?_)
      refine EndT.thenN ?_
      refine CodeT.ret (EndT.thenR (Post.retP rfl rfl ?_))
      exact VLe.int (congrArg Nat.cast ((testF_is (p := True) (by unfold testP; (repeat (first | rw [if_pos (by omega)] | rw [if_neg (by omega)])); first | exact iff_true_intro (by first | exact c0 | (have h := c0; omega)) | skip)).trans (isN_pos trivial)).symm)
    ·
      refine CodeT.skip (EndT.thenN ?_)
      refine CodeT.seq ?_
      refine CodeT.region (.p (opAssign (.c _)) rfl <| .nil ?_)
      refine EndT.thenN ?_
      refine CodeT.ret (Post.retP rfl rfl ?_)
      exact VLe.int (congrArg Nat.cast ((testF_is (p := False) (by unfold testP; (repeat (first | rw [if_pos (by omega)] | rw [if_neg (by omega)])); first | exact iff_false_intro (by first | exact c0 | (have h := c0; omega)) | skip)).trans (isN_neg (fun h => h))).symm)
  ·
    refine CodeT.region (.p (opMove (.t rfl)) rfl <| .p (opMove (.t rfl)) rfl <| .p (opNot (.t rfl)) rfl <| .p (opMove (.t rfl)) rfl <| .p (opMove (.t rfl)) rfl <| .p (opMove (.t rfl)) rfl <| .p (opMove (.t rfl)) rfl <| .p (opMove (.t rfl)) rfl <| .p (opNot (.t rfl)) rfl <| .p (opMove (.t rfl)) rfl <| .p (opNot (.t rfl)) rfl <| .p (opMove (.t rfl)) rfl <| .p (opNot (.t rfl)) rfl <| .p (opMove (.t rfl)) rfl <| .p (opNot (.t rfl)) rfl <| .p (opBuildSlice (enc := encP) ([(((a % 2 ^ n : Nat) : Int) = ((b % 2 ^ n : Nat) : Int)), ¬ (((a % 2 ^ n : Nat) : Int) = ((b % 2 ^ n : Nat) : Int)), lessF n (op % 2 = 0) (a % 2 ^ n) (b % 2 ^ n), lessF n (op % 2 = 0) (a % 2 ^ n) (b % 2 ^ n), lessF n (op % 2 = 0) (b % 2 ^ n) (a % 2 ^ n), lessF n (op % 2 = 0) (b % 2 ^ n) (a % 2 ^ n), ¬ lessF n (op % 2 = 0) (b % 2 ^ n) (a % 2 ^ n), ¬ lessF n (op % 2 = 0) (b % 2 ^ n) (a % 2 ^ n), ¬ lessF n (op % 2 = 0) (a % 2 ^ n) (b % 2 ^ n), ¬ lessF n (op % 2 = 0) (a % 2 ^ n) (b % 2 ^ n)]) Tryd.underlying82 Tryd.cz4 rfl Tryd.zb4 rfl (.cons (.t rfl) (.cons (.t rfl) (.cons (.t rfl) (.cons (.t rfl) (.cons (.t rfl) (.cons (.t rfl) (.cons (.t rfl) (.cons (.t rfl) (.cons (.t rfl) (.cons (.t rfl) .nil)))))))))) rfl rfl rfl rfl rfl) rfl <| .p (opMove (.t rfl)) rfl <| .p (opIndexAddr (j := 2) Tryd.underlying82 Tryd.cz4 rfl (.t rfl) (.t rfl) (by omega) rfl) rfl <| .p (opLoad Tryd.ag4 (.t rfl)) rfl <| .p (opAssign (.t rfl)) rfl <| .nil ?_)
    refine EndT.thenN ?_
    refine CodeT.seq ?_
    refine CodeT.seq ?_
    refine CodeT.region (.p (opMove (.t rfl)) rfl <| .nil ?_)
    refine EndT.thenN ?_
    refine CodeT.cond (.t rfl) (fun c0 => ?_) (fun c0 => ?_)
    ·
      refine CodeT.seq ?_
      refine CodeT.region (.p (opAssign (.c _)) rfl <| .nil ?_)
      refine EndT.thenN ?_
      refine CodeT.ret (EndT.thenR (Post.retP rfl rfl ?_))
      exact VLe.int (congrArg Nat.cast ((testF_is (p := True) (by unfold testP; (repeat (first | rw [if_pos (by omega)] | rw [if_neg (by omega)])); first | exact iff_true_intro (by first | exact c0 | (have h := c0; omega)) | skip)).trans (isN_pos trivial)).symm)
    ·
      refine CodeT.skip (EndT.thenN ?_)
      refine CodeT.seq ?_
      refine CodeT.region (.p (opAssign (.c _)) rfl <| .nil ?_)
      refine EndT.thenN ?_
      refine CodeT.ret (Post.retP rfl rfl ?_)
      exact VLe.int (congrArg Nat.cast ((testF_is (p := False) (by unfold testP; (repeat (first | rw [if_pos (by omega)] | rw [if_neg (by omega)])); first | exact iff_false_intro (by first | exact c0 | (have h := c0; omega)) | skip)).trans (isN_neg (fun h => h))).symm)
  ·
    refine CodeT.region (.p (opMove (.t rfl)) rfl <| .p (opMove (.t rfl)) rfl <| .p (opNot (.t rfl)) rfl <| .p (opMove (.t rfl)) rfl <| .p (opMove (.t rfl)) rfl <| .p (opMove (.t rfl)) rfl <| .p (opMove (.t rfl)) rfl <| .p (opMove (.t rfl)) rfl <| .p (opNot (.t rfl)) rfl <| .p (opMove (.t rfl)) rfl <| .p (opNot (.t rfl)) rfl <| .p (opMove (.t rfl)) rfl <| .p (opNot (.t rfl)) rfl <| .p (opMove (.t rfl)) rfl <| .p (opNot (.t rfl)) rfl <| .p (opBuildSlice (enc := encP) ([(((a % 2 ^ n : Nat) : Int) = ((b % 2 ^ n : Nat) : Int)), ¬ (((a % 2 ^ n : Nat) : Int) = ((b % 2 ^ n : Nat) : Int)), lessF n (op % 2 = 0) (a % 2 ^ n) (b % 2 ^ n), lessF n (op % 2 = 0) (a % 2 ^ n) (b % 2 ^ n), lessF n (op % 2 = 0) (b % 2 ^ n) (a % 2 ^ n), lessF n (op % 2 = 0) (b % 2 ^ n) (a % 2 ^ n), ¬ lessF n (op % 2 = 0) (b % 2 ^ n) (a % 2 ^ n), ¬ lessF n (op % 2 = 0) (b % 2 ^ n) (a % 2 ^ n), ¬ lessF n (op % 2 = 0) (a % 2 ^ n) (b % 2 ^ n), ¬ lessF n (op % 2 = 0) (a % 2 ^ n) (b % 2 ^ n)]) Tryd.underlying82 Tryd.cz4 rfl Tryd.zb4 rfl (.cons (.t rfl) (.cons (.t rfl) (.cons (.t rfl) (.cons (.t rfl) (.cons (.t rfl) (.cons (.t rfl) (.cons (.t rfl) (.cons (.t rfl) (.cons (.t rfl) (.cons (.t rfl) .nil)))))))))) rfl rfl rfl rfl rfl) rfl <| .p (opMove (.t rfl)) rfl <| .p (opIndexAddr (j := 3) Tryd.underlying82 Tryd.cz4 rfl (.t rfl) (.t rfl) (by omega) rfl) rfl <| .p (opLoad Tryd.ag4 (.t rfl)) rfl <| .p (opAssign (.t rfl)) rfl <| .nil ?_)
    refine EndT.thenN ?_
    refine CodeT.seq ?_
    refine CodeT.seq ?_
    refine CodeT.region (.p (opMove (.t rfl)) rfl <| .nil ?_)
    refine EndT.thenN ?_
    refine CodeT.cond (.t rfl) (fun c0 => ?_) (fun c0 => ?_)
    ·
      refine CodeT.seq ?_
      refine CodeT.region (.p (opAssign (.c _)) rfl <| .nil ?_)
      refine EndT.thenN ?_
      refine CodeT.ret (EndT.thenR (Post.retP rfl rfl ?_))
      exact VLe.int (congrArg Nat.cast ((testF_is (p := True) (by unfold testP; (repeat (first | rw [if_pos (by omega)] | rw [if_neg (by omega)])); first | exact iff_true_intro (by first | exact c0 | (have h := c0; omega)) | skip)).trans (isN_pos trivial)).symm)
    ·
      refine CodeT.skip (EndT.thenN ?_)
      refine CodeT.seq ?_
      refine CodeT.region (.p (opAssign (.c _)) rfl <| .nil ?_)
      refine EndT.thenN ?_
      refine CodeT.ret (Post.retP rfl rfl ?_)
      exact VLe.int (congrArg Nat.cast ((testF_is (p := False) (by unfold testP; (repeat (first | rw [if_pos (by omega)] | rw [if_neg (by omega)])); first | exact iff_false_intro (by first | exact c0 | (have h := c0; omega)) | skip)).trans (isN_neg (fun h => h))).symm)
  ·
    refine CodeT.region (.p (opMove (.t rfl)) rfl <| .p (opMove (.t rfl)) rfl <| .p (opNot (.t rfl)) rfl <| .p (opMove (.t rfl)) rfl <| .p (opMove (.t rfl)) rfl <| .p (opMove (.t rfl)) rfl <| .p (opMove (.t rfl)) rfl <| .p (opMove (.t rfl)) rfl <| .p (opNot (.t rfl)) rfl <| .p (opMove (.t rfl)) rfl <| .p (opNot (.t rfl)) rfl <| .p (opMove (.t rfl)) rfl <| .p (opNot (.t rfl)) rfl <| .p (opMove (.t rfl)) rfl <| .p (opNot (.t rfl)) rfl <| .p (opBuildSlice (enc := encP) ([(((a % 2 ^ n : Nat) : Int) = ((b % 2 ^ n : Nat) : Int)), ¬ (((a % 2 ^ n : Nat) : Int) = ((b % 2 ^ n : Nat) : Int)), lessF n (op % 2 = 0) (a % 2 ^ n) (b % 2 ^ n), lessF n (op % 2 = 0) (a % 2 ^ n) (b % 2 ^ n), lessF n (op % 2 = 0) (b % 2 ^ n) (a % 2 ^ n), lessF n (op % 2 = 0) (b % 2 ^ n) (a % 2 ^ n), ¬ lessF n (op % 2 = 0) (b % 2 ^ n) (a % 2 ^ n), ¬ lessF n (op % 2 = 0) (b % 2 ^ n) (a % 2 ^ n), ¬ lessF n (op % 2 = 0) (a % 2 ^ n) (b % 2 ^ n), ¬ lessF n (op % 2 = 0) (a % 2 ^ n) (b % 2 ^ n)]) Tryd.underlying82 Tryd.cz4 rfl Tryd.zb4 rfl (.cons (.t rfl) (.cons (.t rfl) (.cons (.t rfl) (.cons (.t rfl) (.cons (.t rfl) (.cons (.t rfl) (.cons (.t rfl) (.cons (.t rfl) (.cons (.t rfl) (.cons (.t rfl) .nil)))))))))) rfl rfl rfl rfl rfl) rfl <| .p (opMove (.t rfl)) rfl <| .p (opIndexAddr (j := 4) Tryd.underlying82 Tryd.cz4 rfl (.t rfl) (.t rfl) (by omega) rfl) rfl <| .p (opLoad Tryd.ag4 (.t rfl)) rfl <| .p (opAssign (.t rfl)) rfl <| .nil ?_)
    refine EndT.thenN ?_
    refine CodeT.seq ?_
    refine CodeT.seq ?_
    refine CodeT.region (.p (opMove (.t rfl)) rfl <| .nil ?_)
    refine EndT.thenN ?_
    refine CodeT.cond (.t rfl) (fun c0 => ?_) (fun c0 => ?_)
    ·
      refine CodeT.seq ?_
      refine CodeT.region (.p (opAssign (.c _)) rfl <| .nil ?_)
      refine EndT.thenN ?_
      refine CodeT.ret (EndT.thenR (Post.retP rfl rfl ?_))
      exact VLe.int (congrArg Nat.cast ((testF_is (p := True) (by unfold testP; (repeat (first | rw [if_pos (by omega)] | rw [if_neg (by omega)])); first | exact iff_true_intro (by first | exact c0 | (have h := c0; omega)) | skip)).trans (isN_pos trivial)).symm)
    ·
      refine CodeT.skip (EndT.thenN ?_)
      refine CodeT.seq ?_
      refine CodeT.region (.p (opAssign (.c _)) rfl <| .nil ?_)
      refine EndT.thenN ?_
      refine CodeT.ret (Post.retP rfl rfl ?_)
      exact VLe.int (congrArg Nat.cast ((testF_is (p := False) (by unfold testP; (repeat (first | rw [if_pos (by omega)] | rw [if_neg (by omega)])); first | exact iff_false_intro (by first | exact c0 | (have h := c0; omega)) | skip)).trans (isN_neg (fun h => h))).symm)
  ·
    refine CodeT.region (.p (opMove (.t rfl)) rfl <| .p (opMove (.t rfl)) rfl <| .p (opNot (.t rfl)) rfl <| .p (opMove (.t rfl)) rfl <| .p (opMove (.t rfl)) rfl <| .p (opMove (.t rfl)) rfl <| .p (opMove (.t rfl)) rfl <| .p (opMove (.t rfl)) rfl <| .p (opNot (.t rfl)) rfl <| .p (opMove (.t rfl)) rfl <| .p (opNot (.t rfl)) rfl <| .p (opMove (.t rfl)) rfl <| .p (opNot (.t rfl)) rfl <| .p (opMove (.t rfl)) rfl <| .p (opNot (.t rfl)) rfl <| .p (opBuildSlice (enc := encP) ([(((a % 2 ^ n : Nat) : Int) = ((b % 2 ^ n : Nat) : Int)), ¬ (((a % 2 ^ n : Nat) : Int) = ((b % 2 ^ n : Nat) : Int)), lessF n (op % 2 = 0) (a % 2 ^ n) (b % 2 ^ n), lessF n (op % 2 = 0) (a % 2 ^ n) (b % 2 ^ n), lessF n (op % 2 = 0) (b % 2 ^ n) (a % 2 ^ n), lessF n (op % 2 = 0) (b % 2 ^ n) (a % 2 ^ n), ¬ lessF n (op % 2 = 0) (b % 2 ^ n) (a % 2 ^ n), ¬ lessF n (op % 2 = 0) (b % 2 ^ n) (a % 2 ^ n), ¬ lessF n (op % 2 = 0) (a % 2 ^ n) (b % 2 ^ n), ¬ lessF n (op % 2 = 0) (a % 2 ^ n) (b % 2 ^ n)]) Tryd.underlying82 Tryd.cz4 rfl Tryd.zb4 rfl (.cons (.t rfl) (.cons (.t rfl) (.cons (.t rfl) (.cons (.t rfl) (.cons (.t rfl) (.cons (.t rfl) (.cons (.t rfl) (.cons (.t rfl) (.cons (.t rfl) (.cons (.t rfl) .nil)))))))))) rfl rfl rfl rfl rfl) rfl <| .p (opMove (.t rfl)) rfl <| .p (opIndexAddr (j := 5) Tryd.underlying82 Tryd.cz4 rfl (.t rfl) (.t rfl) (by omega) rfl) rfl <| .p (opLoad Tryd.ag4 (.t rfl)) rfl <| .p (opAssign (.t rfl)) rfl <| .nil ?_)
    refine EndT.thenN ?_
    refine CodeT.seq ?_
    refine CodeT.seq ?_
    refine CodeT.region (.p (opMove (.t rfl)) rfl <| .nil ?_)
    refine EndT.thenN ?_
    refine CodeT.cond (.t rfl) (fun c0 => ?_) (fun c0 => ?_)
    ·
      refine CodeT.seq ?_
      refine CodeT.region (.p (opAssign (.c _)) rfl <| .nil ?_)
      refine EndT.thenN ?_
      refine CodeT.ret (EndT.thenR (Post.retP rfl rfl ?_))
      exact VLe.int (congrArg Nat.cast ((testF_is (p := True) (by unfold testP; (repeat (first | rw [if_pos (by omega)] | rw [if_neg (by omega)])); first | exact iff_true_intro (by first | exact c0 | (have h := c0; omega)) | skip)).trans (isN_pos trivial)).symm)
    ·
      refine CodeT.skip (EndT.thenN ?_)
      refine CodeT.seq ?_
      refine CodeT.region (.p (opAssign (.c _)) rfl <| .nil ?_)
      refine EndT.thenN ?_
      refine CodeT.ret (Post.retP rfl rfl ?_)
      exact VLe.int (congrArg Nat.cast ((testF_is (p := False) (by unfold testP; (repeat (first | rw [if_pos (by omega)] | rw [if_neg (by omega)])); first | exact iff_false_intro (by first | exact c0 | (have h := c0; omega)) | skip)).trans (isN_neg (fun h => h))).symm)
  ·
    refine CodeT.region (.p (opMove (.t rfl)) rfl <| .p (opMove (.t rfl)) rfl <| .p (opNot (.t rfl)) rfl <| .p (opMove (.t rfl)) rfl <| .p (opMove (.t rfl)) rfl <| .p (opMove (.t rfl)) rfl <| .p (opMove (.t rfl)) rfl <| .p (opMove (.t rfl)) rfl <| .p (opNot (.t rfl)) rfl <| .p (opMove (.t rfl)) rfl <| .p (opNot (.t rfl)) rfl <| .p (opMove (.t rfl)) rfl <| .p (opNot (.t rfl)) rfl <| .p (opMove (.t rfl)) rfl <| .p (opNot (.t rfl)) rfl <| .p (opBuildSlice (enc := encP) ([(((a % 2 ^ n : Nat) : Int) = ((b % 2 ^ n : Nat) : Int)), ¬ (((a % 2 ^ n : Nat) : Int) = ((b % 2 ^ n : Nat) : Int)), lessF n (op % 2 = 0) (a % 2 ^ n) (b % 2 ^ n), lessF n (op % 2 = 0) (a % 2 ^ n) (b % 2 ^ n), lessF n (op % 2 = 0) (b % 2 ^ n) (a % 2 ^ n), lessF n (op % 2 = 0) (b % 2 ^ n) (a % 2 ^ n), ¬ lessF n (op % 2 = 0) (b % 2 ^ n) (a % 2 ^ n), ¬ lessF n (op % 2 = 0) (b % 2 ^ n) (a % 2 ^ n), ¬ lessF n (op % 2 = 0) (a % 2 ^ n) (b % 2 ^ n), ¬ lessF n (op % 2 = 0) (a % 2 ^ n) (b % 2 ^ n)]) Tryd.underlying82 Tryd.cz4 rfl Tryd.zb4 rfl (.cons (.t rfl) (.cons (.t rfl) (.cons (.t rfl) (.cons (.t rfl) (.cons (.t rfl) (.cons (.t rfl) (.cons (.t rfl) (.cons (.t rfl) (.cons (.t rfl) (.cons (.t rfl) .nil)))))))))) rfl rfl rfl rfl rfl) rfl <| .p (opMove (.t rfl)) rfl <| .p (opIndexAddr (j := 6) Tryd.underlying82 Tryd.cz4 rfl (.t rfl) (.t rfl) (by omega) rfl) rfl <| .p (opLoad Tryd.ag4 (.t rfl)) rfl <| .p (opAssign (.t rfl)) rfl <| .nil ?_)
    refine EndT.thenN ?_
    refine CodeT.seq ?_
    refine CodeT.seq ?_
    refine CodeT.region (.p (opMove (.t rfl)) rfl <| .nil ?_)
    refine EndT.thenN ?_
    refine CodeT.cond (.t rfl) (fun c0 => ?_) (fun c0 => ?_)
    ·
      refine CodeT.seq ?_
      refine CodeT.region (.p (opAssign (.c _)) rfl <| .nil ?_)
      refine EndT.thenN ?_
      refine CodeT.ret (EndT.thenR (Post.retP rfl rfl ?_))
      exact VLe.int (congrArg Nat.cast ((testF_is (p := True) (by unfold testP; (repeat (first | rw [if_pos (by omega)] | rw [if_neg (by omega)])); first | exact iff_true_intro (by first | exact c0 | (have h := c0; omega)) | skip)).trans (isN_pos trivial)).symm)
    ·
      refine CodeT.skip (EndT.thenN ?_)
      refine CodeT.seq ?_
      refine CodeT.region (.p (opAssign (.c _)) rfl <| .nil ?_)
      refine EndT.thenN ?_
      refine CodeT.ret (Post.retP rfl rfl ?_)
      exact VLe.int (congrArg Nat.cast ((testF_is (p := False) (by unfold testP; (repeat (first | rw [if_pos (by omega)] | rw [if_neg (by omega)])); first | exact iff_false_intro (by first | exact c0 | (have h := c0; omega)) | skip)).trans (isN_neg (fun h => h))).symm)
  ·
    refine CodeT.region (.p (opMove (.t rfl)) rfl <| .p (opMove (.t rfl)) rfl <| .p (opNot (.t rfl)) rfl <| .p (opMove (.t rfl)) rfl <| .p (opMove (.t rfl)) rfl <| .p (opMove (.t rfl)) rfl <| .p (opMove (.t rfl)) rfl <| .p (opMove (.t rfl)) rfl <| .p (opNot (.t rfl)) rfl <| .p (opMove (.t rfl)) rfl <| .p (opNot (.t rfl)) rfl <| .p (opMove (.t rfl)) rfl <| .p (opNot (.t rfl)) rfl <| .p (opMove (.t rfl)) rfl <| .p (opNot (.t rfl)) rfl <| .p (opBuildSlice (enc := encP) ([(((a % 2 ^ n : Nat) : Int) = ((b % 2 ^ n : Nat) : Int)), ¬ (((a % 2 ^ n : Nat) : Int) = ((b % 2 ^ n : Nat) : Int)), lessF n (op % 2 = 0) (a % 2 ^ n) (b % 2 ^ n), lessF n (op % 2 = 0) (a % 2 ^ n) (b % 2 ^ n), lessF n (op % 2 = 0) (b % 2 ^ n) (a % 2 ^ n), lessF n (op % 2 = 0) (b % 2 ^ n) (a % 2 ^ n), ¬ lessF n (op % 2 = 0) (b % 2 ^ n) (a % 2 ^ n), ¬ lessF n (op % 2 = 0) (b % 2 ^ n) (a % 2 ^ n), ¬ lessF n (op % 2 = 0) (a % 2 ^ n) (b % 2 ^ n), ¬ lessF n (op % 2 = 0) (a % 2 ^ n) (b % 2 ^ n)]) Tryd.underlying82 Tryd.cz4 rfl Tryd.zb4 rfl (.cons (.t rfl) (.cons (.t rfl) (.cons (.t rfl) (.cons (.t rfl) (.cons (.t rfl) (.cons (.t rfl) (.cons (.t rfl) (.cons (.t rfl) (.cons (.t rfl) (.cons (.t rfl) .nil)))))))))) rfl rfl rfl rfl rfl) rfl <| .p (opMove (.t rfl)) rfl <| .p (opIndexAddr (j := 7) Tryd.underlying82 Tryd.cz4 rfl (.t rfl) (.t rfl) (by omega) rfl) rfl <| .p (opLoad Tryd.ag4 (.t rfl)) rfl <| .p (opAssign (.t rfl)) rfl <| .nil ?_)
    refine EndT.thenN ?_
    refine CodeT.seq ?_
    refine CodeT.seq ?_
    refine CodeT.region (.p (opMove (.t rfl)) rfl <| .nil ?_)
    refine EndT.thenN ?_
    refine CodeT.cond (.t rfl) (fun c0 => ?_) (fun c0 => ?_)
    ·
      refine CodeT.seq ?_
      refine CodeT.region (.p (opAssign (.c _)) rfl <| .nil ?_)
      refine EndT.thenN ?_
      refine CodeT.ret (EndT.thenR (Post.retP rfl rfl ?_))
      exact VLe.int (congrArg Nat.cast ((testF_is (p := True) (by unfold testP; (repeat (first | rw [if_pos (by omega)] | rw [if_neg (by omega)])); first | exact iff_true_intro (by first | exact c0 | (have h := c0; omega)) | skip)).trans (isN_pos trivial)).symm)
    ·
      refine CodeT.skip (EndT.thenN ?_)
      refine CodeT.seq ?_
      refine CodeT.region (.p (opAssign (.c _)) rfl <| .nil ?_)
      refine EndT.thenN ?_
      refine CodeT.ret (Post.retP rfl rfl ?_)
      exact VLe.int (congrArg Nat.cast ((testF_is (p := False) (by unfold testP; (repeat (first | rw [if_pos (by omega)] | rw [if_neg (by omega)])); first | exact iff_false_intro (by first | exact c0 | (have h := c0; omega)) | skip)).trans (isN_neg (fun h => h))).symm)
  ·
    refine CodeT.region (.p (opMove (.t rfl)) rfl <| .p (opMove (.t rfl)) rfl <| .p (opNot (.t rfl)) rfl <| .p (opMove (.t rfl)) rfl <| .p (opMove (.t rfl)) rfl <| .p (opMove (.t rfl)) rfl <| .p (opMove (.t rfl)) rfl <| .p (opMove (.t rfl)) rfl <| .p (opNot (.t rfl)) rfl <| .p (opMove (.t rfl)) rfl <| .p (opNot (.t rfl)) rfl <| .p (opMove (.t rfl)) rfl <| .p (opNot (.t rfl)) rfl <| .p (opMove (.t rfl)) rfl <| .p (opNot (.t rfl)) rfl <| .p (opBuildSlice (enc := encP) ([(((a % 2 ^ n : Nat) : Int) = ((b % 2 ^ n : Nat) : Int)), ¬ (((a % 2 ^ n : Nat) : Int) = ((b % 2 ^ n : Nat) : Int)), lessF n (op % 2 = 0) (a % 2 ^ n) (b % 2 ^ n), lessF n (op % 2 = 0) (a % 2 ^ n) (b % 2 ^ n), lessF n (op % 2 = 0) (b % 2 ^ n) (a % 2 ^ n), lessF n (op % 2 = 0) (b % 2 ^ n) (a % 2 ^ n), ¬ lessF n (op % 2 = 0) (b % 2 ^ n) (a % 2 ^ n), ¬ lessF n (op % 2 = 0) (b % 2 ^ n) (a % 2 ^ n), ¬ lessF n (op % 2 = 0) (a % 2 ^ n) (b % 2 ^ n), ¬ lessF n (op % 2 = 0) (a % 2 ^ n) (b % 2 ^ n)]) Tryd.underlying82 Tryd.cz4 rfl Tryd.zb4 rfl (.cons (.t rfl) (.cons (.t rfl) (.cons (.t rfl) (.cons (.t rfl) (.cons (.t rfl) (.cons (.t rfl) (.cons (.t rfl) (.cons (.t rfl) (.cons (.t rfl) (.cons (.t rfl) .nil)))))))))) rfl rfl rfl rfl rfl) rfl <| .p (opMove (.t rfl)) rfl <| .p (opIndexAddr (j := 8) Tryd.underlying82 Tryd.cz4 rfl (.t rfl) (.t rfl) (by omega) rfl) rfl <| .p (opLoad Tryd.ag4 (.t rfl)) rfl <| .p (opAssign (.t rfl)) rfl <| .nil ?_)
    refine EndT.thenN ?_
    refine CodeT.seq ?_
    refine CodeT.seq ?_
    refine CodeT.region (.p (opMove (.t rfl)) rfl <| .nil ?_)
    refine EndT.thenN ?_
    refine CodeT.cond (.t rfl) (fun c0 => ?_) (fun c0 => ?_)
    ·
      refine CodeT.seq ?_
      refine CodeT.region (.p (opAssign (.c _)) rfl <| .nil ?_)
      refine EndT.thenN ?_
      refine CodeT.ret (EndT.thenR (Post.retP rfl rfl ?_))
      exact VLe.int (congrArg Nat.cast ((testF_is (p := True) (by unfold testP; (repeat (first | rw [if_pos (by omega)] | rw [if_neg (by omega)])); first | exact iff_true_intro (by first | exact c0 | (have h := c0; omega)) | skip)).trans (isN_pos trivial)).symm)
    ·
      refine CodeT.skip (EndT.thenN ?_)
      refine CodeT.seq ?_
      refine CodeT.region (.p (opAssign (.c _)) rfl <| .nil ?_)
      refine EndT.thenN ?_
      refine CodeT.ret (Post.retP rfl rfl ?_)
      exact VLe.int (congrArg Nat.cast ((testF_is (p := False) (by unfold testP; (repeat (first | rw [if_pos (by omega)] | rw [if_neg (by omega)])); first | exact iff_false_intro (by first | exact c0 | (have h := c0; omega)) | skip)).trans (isN_neg (fun h => h))).symm)
  ·
    refine CodeT.region (.p (opMove (.t rfl)) rfl <| .p (opMove (.t rfl)) rfl <| .p (opNot (.t rfl)) rfl <| .p (opMove (.t rfl)) rfl <| .p (opMove (.t rfl)) rfl <| .p (opMove (.t rfl)) rfl <| .p (opMove (.t rfl)) rfl <| .p (opMove (.t rfl)) rfl <| .p (opNot (.t rfl)) rfl <| .p (opMove (.t rfl)) rfl <| .p (opNot (.t rfl)) rfl <| .p (opMove (.t rfl)) rfl <| .p (opNot (.t rfl)) rfl <| .p (opMove (.t rfl)) rfl <| .p (opNot (.t rfl)) rfl <| .p (opBuildSlice (enc := encP) ([(((a % 2 ^ n : Nat) : Int) = ((b % 2 ^ n : Nat) : Int)), ¬ (((a % 2 ^ n : Nat) : Int) = ((b % 2 ^ n : Nat) : Int)), lessF n (op % 2 = 0) (a % 2 ^ n) (b % 2 ^ n), lessF n (op % 2 = 0) (a % 2 ^ n) (b % 2 ^ n), lessF n (op % 2 = 0) (b % 2 ^ n) (a % 2 ^ n), lessF n (op % 2 = 0) (b % 2 ^ n) (a % 2 ^ n), ¬ lessF n (op % 2 = 0) (b % 2 ^ n) (a % 2 ^ n), ¬ lessF n (op % 2 = 0) (b % 2 ^ n) (a % 2 ^ n), ¬ lessF n (op % 2 = 0) (a % 2 ^ n) (b % 2 ^ n), ¬ lessF n (op % 2 = 0) (a % 2 ^ n) (b % 2 ^ n)]) Tryd.underlying82 Tryd.cz4 rfl Tryd.zb4 rfl (.cons (.t rfl) (.cons (.t rfl) (.cons (.t rfl) (.cons (.t rfl) (.cons (.t rfl) (.cons (.t rfl) (.cons (.t rfl) (.cons (.t rfl) (.cons (.t rfl) (.cons (.t rfl) .nil)))))))))) rfl rfl rfl rfl rfl) rfl <| .p (opMove (.t rfl)) rfl <| .p (opIndexAddr (j := 9) Tryd.underlying82 Tryd.cz4 rfl (.t rfl) (.t rfl) (by omega) rfl) rfl <| .p (opLoad Tryd.ag4 (.t rfl)) rfl <| .p (opAssign (.t rfl)) rfl <| .nil ?_)
    refine EndT.thenN ?_
    refine CodeT.seq ?_
    refine CodeT.seq ?_
    refine CodeT.region (.p (opMove (.t rfl)) rfl <| .nil ?_)
    refine EndT.thenN ?_
    refine CodeT.cond (.t rfl) (fun c0 => ?_) (fun c0 => ?_)
    ·
      refine CodeT.seq ?_
      refine CodeT.region (.p (opAssign (.c _)) rfl <| .nil ?_)
      refine EndT.thenN ?_
      refine CodeT.ret (EndT.thenR (Post.retP rfl rfl ?_))
      exact VLe.int (congrArg Nat.cast ((testF_is (p := True) (by unfold testP; (repeat (first | rw [if_pos (by omega)] | rw [if_neg (by omega)])); first | exact iff_true_intro (by first | exact c0 | (have h := c0; omega)) | skip)).trans (isN_pos trivial)).symm)
    ·
      refine CodeT.skip (EndT.thenN ?_)
      refine CodeT.seq ?_
      refine CodeT.region (.p (opAssign (.c _)) rfl <| .nil ?_)
      refine EndT.thenN ?_
      refine CodeT.ret (Post.retP rfl rfl ?_)
      exact VLe.int (congrArg Nat.cast ((testF_is (p := False) (by unfold testP; (repeat (first | rw [if_pos (by omega)] | rw [if_neg (by omega)])); first | exact iff_false_intro (by first | exact c0 | (have h := c0; omega)) | skip)).trans (isN_neg (fun h => h))).symm)

end Go.Proofs.YtgmpadhfgohodaaDoor
