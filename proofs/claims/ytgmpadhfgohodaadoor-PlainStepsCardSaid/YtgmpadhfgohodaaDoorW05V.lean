/-
  Walks, printed by a program (gen.py) out of what its author says of each function.
-/
import Derived.Test.YtgmpadhfgohodaaDoorW05W
import Derived.Test.YtgmpadhfgohodaaDoorW05G
namespace Go.Proofs.YtgmpadhfgohodaaDoor
open Go.Hl Go.RowKit
set_option linter.unusedVariables false
set_option maxRecDepth 100000

theorem rlist_spec {n a : Nat} (hp0 : n ≤ 64) (hp1 : a < 18446744073709551616) : FnP Tryd.prog 46 [iV (n : Int), uV a] (sliceV 1 encB (bitsL n a)) := by
  refine FnE.intro 21 Tryd.func46 rfl rfl rfl fun w0 S0 M => ?_
  refine CodeT.seq ?_
  refine CodeT.region (.p (opAssign (.c _)) rfl <| .nil ?_)
  refine EndT.thenN ?_
  refine CodeT.seq ?_
  refine CodeT.region (.p (opAssign (.c _)) rfl <| .nil ?_)
  refine EndT.thenN ?_
  refine CodeT.seq ?_
  refine CodeT.seq ?_
  refine CodeT.region (.p (opAssign (.c _)) rfl <| .nil ?_)
  refine EndT.thenN ?_
  refine CodeT.block ?_
  refine CodeT.ownNil 1 encB ?_
  refine CodeT.loopO (σ := SB × Nat) (fun g => [sliceH g.1 1 encB (bitsL g.2 a)]) (fun g => [(5, exactV (sval g.1 (bitsL g.2 a).length)), (6, iV (g.2 : Int)), (1, uV (a / 2 ^ g.2))]) (fun g => g.2 ≤ n) (fun g => n - g.2) (none, 0) (Nat.zero_le _) rfl ?_ ?_
  · exact (.get rfl (VLe.refl _) (.get rfl (VLe.refl _) (.get rfl (VLe.int (by simp)) (.refl _ _))))
  · rintro ⟨sb, i⟩ hi
    simp only at hi ⊢
    have hbl := bitsL_len i a
    have hdl := Nat.div_le_self a (2 ^ i)
    have hhd := half_pow a i
    have htb := tb_iff a i
    obtain ⟨q, hq⟩ : ∃ q, a / 2 ^ i = q := ⟨_, rfl⟩
    rw [hq] at hdl hhd htb ⊢
    refine CodeT.seq ?_
    refine CodeT.seq ?_
    refine CodeT.region (.p (opMove (.t rfl)) rfl <| .p (opMove (.t rfl)) rfl <| .p (opLss (.t rfl) (.t rfl)) rfl <| .nil ?_)
    refine EndT.thenN ?_
    refine CodeT.cond (.t rfl) (fun c0 => ?_) (fun c0 => ?_)
    ·
      refine CodeT.skip (EndT.thenN ?_)
      refine CodeT.seq ?_
      refine CodeT.block ?_
      refine CodeT.seq ?_
      refine CodeT.region (.p (opMove (.t rfl)) rfl <| .p (opMove (.t rfl)) rfl <| .p (opRem_u64 (b := 2) (by decide) (.t rfl) (.c _)) rfl <| .p ((opEql (.t rfl) (.c _)).le (VLe.prop (show ((q % 2 : Nat) : Int) = 1 ↔ (a.testBit i = true) by rw [htb]; omega))) rfl <| .p (opBuildSlice (enc := encB) [a.testBit i] Tryd.underlying82 Tryd.cz4 rfl Tryd.zb4 rfl (.cons (.t rfl) .nil) rfl rfl rfl rfl rfl) rfl <| .n (opAppend (i := 0) (xs := bitsL i a) (ys := [a.testBit i]) Tryd.underlying82 Tryd.underlying82 Tryd.cz4 rfl Tryd.zb4 rfl Tryd.by4 (.t rfl) (.t rfl) rfl (by (rw [hbl]; simp only [List.length_cons, List.length_nil]; omega)) (by (rw [hbl]; simp only [List.length_cons, List.length_nil]; omega))) rfl <| fun g17 _ => .p (opAssign (.t rfl)) rfl <| .nil ?_)
      refine EndT.thenN ?_
      refine CodeT.region (.p (opMove (.t rfl)) rfl <| .p (opQuo_u64 (b := 2) ⟨by decide, by omega⟩ (.t rfl) (.c _)) rfl <| .p (opAssign (.t rfl)) rfl <| .nil ?_)
      refine EndT.blkN (EndT.thenN ?_)
      refine CodeT.region (.p (opMove (.t rfl)) rfl <| .p (opAddF (.t rfl) (.c _) (fits_i64 (by omega) (by omega))) rfl <| .p (opAssign (.t rfl)) rfl <| .nil ?_)
      refine EndT.round (g17, i + 1) (by show i + 1 ≤ n; omega) (by (show n - (i + 1) < n - i; omega)) (by simp only [bitsL_succ]; rfl) ?_
      exact (.get rfl (VLe.of_eq (by simp only [bitsL_succ])) (.get rfl (VLe.int (by (show (i : Int) + 1 = ((i + 1 : Nat) : Int); omega))) (.get rfl (VLe.int (congrArg Nat.cast hhd)) ((.keep 19 rfl rfl)))))
    ·
      have hin : i = n := by omega
      subst hin
      refine CodeT.shareS (t := 5) (i := 0) rfl rfl ?_
      refine CodeT.exit (EndT.thenX (EndT.thenX (EndT.blkX (EndT.thenN ?_))))
      refine CodeT.seq ?_
      refine CodeT.region (.p (opMove (.t rfl)) rfl <| .p (opAssign (.t rfl)) rfl <| .nil ?_)
      refine EndT.thenN ?_
      refine CodeT.ret (Post.retP rfl rfl ?_)
      exact VLe.refl _

theorem rword_spec {l : List Bool} (hp0 : l.length ≤ 64) : FnP Tryd.prog 47 [sliceV 1 encB (l)] (uV (wordN l)) := by
  refine FnE.intro 21 Tryd.func47 rfl rfl rfl fun w0 S0 M => ?_
  refine CodeT.seq ?_
  refine CodeT.region (.p (opAssign (.c _)) rfl <| .nil ?_)
  refine EndT.thenN ?_
  refine CodeT.seq ?_
  refine CodeT.region (.p (opAssign (.c _)) rfl <| .nil ?_)
  refine EndT.thenN ?_
  refine CodeT.seq ?_
  refine CodeT.seq ?_
  refine CodeT.region (.p (opMove (.t rfl)) rfl <| .p (opLen rfl Tryd.underlying82 (.t rfl)) rfl <| .p (opSubF (.t rfl) (.c _) (fits_i64 (by omega) (by omega))) rfl <| .p (opAssign (.t rfl)) rfl <| .nil ?_)
  refine EndT.thenN ?_
  refine CodeT.block ?_
  refine CodeT.loopO (σ := Nat) (fun _ => []) (fun k => [(3, uV (wordN (l.drop k))), (4, iV ((k : Int) - 1))]) (fun k => k ≤ l.length) (fun k => k) l.length (Nat.le_refl _) rfl ?_ ?_
  · exact (.get rfl (VLe.int (by rw [List.drop_length]; rfl)) (.get rfl (VLe.refl _) (.refl _ _)))
  · rintro k hk
    refine CodeT.seq ?_
    refine CodeT.seq ?_
    refine CodeT.region (.p (opMove (.t rfl)) rfl <| .p (opGeq (.t rfl) (.c _)) rfl <| .nil ?_)
    refine EndT.thenN ?_
    refine CodeT.cond (.t rfl) (fun c0 => ?_) (fun c0 => ?_)
    ·
      obtain ⟨j, rfl⟩ : ∃ j, k = j + 1 := ⟨k - 1, by omega⟩
      have hjl : j < l.length := by omega
      have hwd := wordN_dropE hjl
      have hwl : wordN (l.drop j) < 18446744073709551616 := wordN_drop_lt hp0 (by omega)
      have hgx : l[j]? = some l[j] := List.getElem?_eq_getElem hjl
      rw [hwd] at hwl
      generalize hw0 : wordN (l.drop (j + 1)) = W at *
      refine CodeT.skip (EndT.thenN ?_)
      refine CodeT.seq ?_
      refine CodeT.block ?_
      refine CodeT.seq ?_
      refine CodeT.region (.p (opMove (.t rfl)) rfl <| .p ((opMul_u64 (a := 2) (.c _) (.t rfl)).le (VLe.int (show _ = ((2 * W : Nat) : Int) from congrArg Nat.cast (Nat.mod_eq_of_lt (by omega))))) rfl <| .p (opAssign (.t rfl)) rfl <| .nil ?_)
      refine EndT.thenN ?_
      refine CodeT.seq ?_
      refine CodeT.region (.p (opMove (.t rfl)) rfl <| .p (opMove (.t rfl)) rfl <| .p (opIndexAddr (j := j) Tryd.underlying82 Tryd.cz4 rfl (.t rfl) (.t rfl) (by omega) hgx) rfl <| .p (opLoad Tryd.ag4 (.t rfl)) rfl <| .nil ?_)
      refine EndT.thenN ?_
      refine CodeT.cond (.t rfl) (fun c1 => ?_) (fun c1 => ?_)
      ·
        rw [c1] at hwl
        simp only [toN, if_true] at hwl
        refine CodeT.region (.p (opMove (.t rfl)) rfl <| .p ((opAdd_u64 (b := 1) (.t rfl) (.c _)).le (VLe.int (show _ = ((2 * W + 1 : Nat) : Int) from congrArg Nat.cast (Nat.mod_eq_of_lt (by omega))))) rfl <| .p (opAssign (.t rfl)) rfl <| .nil ?_)
        refine EndT.blkN (EndT.thenN ?_)
        refine CodeT.region (.p (opMove (.t rfl)) rfl <| .p (opSubF (.t rfl) (.c _) (fits_i64 (by omega) (by omega))) rfl <| .p (opAssign (.t rfl)) rfl <| .nil ?_)
        refine EndT.round j (by omega) (by omega) rfl ?_
        exact (.get rfl (VLe.int (congrArg Nat.cast (by rw [hwd]; simp [c1, toN]; try omega))) (.get rfl (VLe.int (show (((j + 1 : Nat) : Int) - 1 - 1 = (j : Int) - 1) by omega)) ((.keep 17 rfl rfl))))
      ·
        refine CodeT.skip (EndT.blkN (EndT.thenN ?_))
        refine CodeT.region (.p (opMove (.t rfl)) rfl <| .p (opSubF (.t rfl) (.c _) (fits_i64 (by omega) (by omega))) rfl <| .p (opAssign (.t rfl)) rfl <| .nil ?_)
        refine EndT.round j (by omega) (by omega) rfl ?_
        exact (.get rfl (VLe.int (congrArg Nat.cast (by rw [hwd]; simp [c1, toN]; try omega))) (.get rfl (VLe.int (show (((j + 1 : Nat) : Int) - 1 - 1 = (j : Int) - 1) by omega)) ((.keep 14 rfl rfl))))
    ·
      have hk0 : k = 0 := by omega
      subst hk0
      refine CodeT.exit (EndT.thenX (EndT.thenX (EndT.blkX (EndT.thenN ?_))))
      refine CodeT.seq ?_
      refine CodeT.region (.p (opMove (.t rfl)) rfl <| .p (opAssign (.t rfl)) rfl <| .nil ?_)
      refine EndT.thenN ?_
      refine CodeT.ret (Post.retP rfl rfl ?_)
      exact VLe.refl _

theorem radd_spec {a b : List Bool} {m : Bool} (hp0 : a.length = b.length) (hp1 : a.length ≤ 65) : FnP Tryd.prog 49 [sliceV 1 encB (a), sliceV 1 encB (b), propV (m = true)] (sliceV 1 encB (addL a b m)) := by
  refine FnE.intro 40 Tryd.func49 rfl rfl rfl fun w0 S0 M => ?_
  refine CodeT.seq ?_
  refine CodeT.region (.p (opAssign (.c _)) rfl <| .nil ?_)
  refine EndT.thenN ?_
  refine CodeT.seq ?_
  refine CodeT.region (.p (opAssign (.c _)) rfl <| .nil ?_)
  refine EndT.thenN ?_
  refine CodeT.seq ?_
  refine CodeT.seq ?_
  refine CodeT.region (.p (opAssign (.c _)) rfl <| .nil ?_)
  refine EndT.thenN ?_
  refine CodeT.block ?_
  refine CodeT.ownNil 1 encB ?_
  refine CodeT.loopO (σ := SB × Nat × List Bool × Bool) (fun g => [sliceH g.1 1 encB g.2.2.1]) (fun g => [(7, exactV (sval g.1 g.2.2.1.length)), (8, iV (g.2.1 : Int)), (2, propV (g.2.2.2 = true))]) (fun g => g.2.1 ≤ a.length ∧ g.2.2.1.length = g.2.1 ∧ g.2.2.1 ++ addL (a.drop g.2.1) (b.drop g.2.1) g.2.2.2 = addL a b m) (fun g => a.length - g.2.1) (none, 0, [], m) ⟨Nat.zero_le _, rfl, rfl⟩ rfl ?_ ?_
  · exact (.get rfl (VLe.refl _) (.get rfl (VLe.refl _) (.get rfl (VLe.refl _) (.refl _ _))))
  · rintro ⟨sb, i, l, c⟩ ⟨hi, hll, hl⟩
    simp only at hi hll hl ⊢
    refine CodeT.seq ?_
    refine CodeT.seq ?_
    refine CodeT.region (.p (opMove (.t rfl)) rfl <| .p (opMove (.t rfl)) rfl <| .p (opLen rfl Tryd.underlying82 (.t rfl)) rfl <| .p (opLss (.t rfl) (.t rfl)) rfl <| .nil ?_)
    refine EndT.thenN ?_
    refine CodeT.cond (.t rfl) (fun c0 => ?_) (fun c0 => ?_)
    ·
      obtain ⟨x, hx⟩ := getElem?_lt (xs := a) (k := i) (by omega)
      obtain ⟨y, hy⟩ := getElem?_lt (xs := b) (k := i) (by omega)
      have hst := hl
      rw [addL_step hx hy] at hst
      refine CodeT.skip (EndT.thenN ?_)
      refine CodeT.seq ?_
      refine CodeT.block ?_
      refine CodeT.seq ?_
      refine CodeT.region (.p (opAssign (.c _)) rfl <| .nil ?_)
      refine EndT.thenN ?_
      refine CodeT.seq ?_
      refine CodeT.seq ?_
      refine CodeT.region (.p (opMove (.t rfl)) rfl <| .p (opMove (.t rfl)) rfl <| .p (opIndexAddr (j := i) Tryd.underlying82 Tryd.cz4 rfl (.t rfl) (.t rfl) rfl hx) rfl <| .p (opLoad Tryd.ag4 (.t rfl)) rfl <| .nil ?_)
      refine EndT.thenN ?_
      refine CodeT.cond (.t rfl) (fun c1 => ?_) (fun c1 => ?_)
      ·
        have ex : x = true := c1
        refine CodeT.region (.p (opMove (.t rfl)) rfl <| .p (opAddF (.t rfl) (.c _) (fits_i64 (by omega) (by omega))) rfl <| .p (opAssign (.t rfl)) rfl <| .nil ?_)
        refine EndT.thenN ?_
        refine CodeT.seq ?_
        refine CodeT.seq ?_
        refine CodeT.region (.p (opMove (.t rfl)) rfl <| .p (opMove (.t rfl)) rfl <| .p (opIndexAddr (j := i) Tryd.underlying82 Tryd.cz4 rfl (.t rfl) (.t rfl) rfl hy) rfl <| .p (opLoad Tryd.ag4 (.t rfl)) rfl <| .nil ?_)
        refine EndT.thenN ?_
        refine CodeT.cond (.t rfl) (fun c2 => ?_) (fun c2 => ?_)
        ·
          have ey : y = true := c2
          refine CodeT.region (.p (opMove (.t rfl)) rfl <| .p (opAddF (.t rfl) (.c _) (fits_i64 (by omega) (by omega))) rfl <| .p (opAssign (.t rfl)) rfl <| .nil ?_)
          refine EndT.thenN ?_
          refine CodeT.seq ?_
          refine CodeT.seq ?_
          refine CodeT.region (.p (opMove (.t rfl)) rfl <| .nil ?_)
          refine EndT.thenN ?_
          refine CodeT.cond (.t rfl) (fun c3 => ?_) (fun c3 => ?_)
          ·
            have ec : c = true := c3
            refine CodeT.region (.p (opMove (.t rfl)) rfl <| .p (opAddF (.t rfl) (.c _) (fits_i64 (by omega) (by omega))) rfl <| .p (opAssign (.t rfl)) rfl <| .nil ?_)
            refine EndT.thenN ?_
            refine CodeT.seq ?_
            refine CodeT.region (.p (opMove (.t rfl)) rfl <| .p (opMove (.t rfl)) rfl <| .p (opRem (.t rfl) (.c _) (by omega) (by omega)) rfl <| .p ((opEql (.t rfl) (.c _)).le (VLe.prop (show _ ↔ ((toN x + toN y + toN c) % 2 == 1) = true by simp [ex, ey, ec, toN]))) rfl <| .p (opBuildSlice (enc := encB) [(toN x + toN y + toN c) % 2 == 1] Tryd.underlying82 Tryd.cz4 rfl Tryd.zb4 rfl (.cons (.t rfl) .nil) rfl rfl rfl rfl rfl) rfl <| .n (opAppend (i := 0) (xs := l) (ys := [(toN x + toN y + toN c) % 2 == 1]) Tryd.underlying82 Tryd.underlying82 Tryd.cz4 rfl Tryd.zb4 rfl Tryd.by4 (.t rfl) (.t rfl) rfl (by (simp only [List.length_cons, List.length_nil]; omega)) (by (simp only [List.length_cons, List.length_nil]; omega))) rfl <| fun g36 _ => .p (opAssign (.t rfl)) rfl <| .nil ?_)
            refine EndT.thenN ?_
            refine CodeT.region (.p (opMove (.t rfl)) rfl <| .p (opGtr (.t rfl) (.c _)) rfl <| .p (opAssign (.t rfl)) rfl <| .nil ?_)
            refine EndT.blkN (EndT.thenN ?_)
            refine CodeT.region (.p (opMove (.t rfl)) rfl <| .p (opAddF (.t rfl) (.c _) (fits_i64 (by omega) (by omega))) rfl <| .p (opAssign (.t rfl)) rfl <| .nil ?_)
            refine EndT.round (g36, i + 1, l ++ [(toN x + toN y + toN c) % 2 == 1], decide (1 < toN x + toN y + toN c)) ⟨by show i + 1 ≤ _; omega, by simp [hll], by rw [List.append_assoc]; exact hst⟩ (by (show a.length - (i + 1) < a.length - i; omega)) rfl ?_
            exact (.get rfl (VLe.refl _) (.get rfl (VLe.int (by (show (i : Int) + 1 = ((i + 1 : Nat) : Int); omega))) (.get rfl (VLe.prop (by simp [ex, ey, ec, toN])) ((.keep 39 rfl rfl)))))
          ·
            have ec : c = false := by simpa using c3
            refine CodeT.skip (EndT.thenN ?_)
            refine CodeT.seq ?_
            refine CodeT.region (.p (opMove (.t rfl)) rfl <| .p (opMove (.t rfl)) rfl <| .p (opRem (.t rfl) (.c _) (by omega) (by omega)) rfl <| .p ((opEql (.t rfl) (.c _)).le (VLe.prop (show _ ↔ ((toN x + toN y + toN c) % 2 == 1) = true by simp [ex, ey, ec, toN]))) rfl <| .p (opBuildSlice (enc := encB) [(toN x + toN y + toN c) % 2 == 1] Tryd.underlying82 Tryd.cz4 rfl Tryd.zb4 rfl (.cons (.t rfl) .nil) rfl rfl rfl rfl rfl) rfl <| .n (opAppend (i := 0) (xs := l) (ys := [(toN x + toN y + toN c) % 2 == 1]) Tryd.underlying82 Tryd.underlying82 Tryd.cz4 rfl Tryd.zb4 rfl Tryd.by4 (.t rfl) (.t rfl) rfl (by (simp only [List.length_cons, List.length_nil]; omega)) (by (simp only [List.length_cons, List.length_nil]; omega))) rfl <| fun g36 _ => .p (opAssign (.t rfl)) rfl <| .nil ?_)
            refine EndT.thenN ?_
            refine CodeT.region (.p (opMove (.t rfl)) rfl <| .p (opGtr (.t rfl) (.c _)) rfl <| .p (opAssign (.t rfl)) rfl <| .nil ?_)
            refine EndT.blkN (EndT.thenN ?_)
            refine CodeT.region (.p (opMove (.t rfl)) rfl <| .p (opAddF (.t rfl) (.c _) (fits_i64 (by omega) (by omega))) rfl <| .p (opAssign (.t rfl)) rfl <| .nil ?_)
            refine EndT.round (g36, i + 1, l ++ [(toN x + toN y + toN c) % 2 == 1], decide (1 < toN x + toN y + toN c)) ⟨by show i + 1 ≤ _; omega, by simp [hll], by rw [List.append_assoc]; exact hst⟩ (by (show a.length - (i + 1) < a.length - i; omega)) rfl ?_
            exact (.get rfl (VLe.refl _) (.get rfl (VLe.int (by (show (i : Int) + 1 = ((i + 1 : Nat) : Int); omega))) (.get rfl (VLe.prop (by simp [ex, ey, ec, toN])) ((.keep 36 rfl rfl)))))
        ·
          have ey : y = false := by simpa using c2
          refine CodeT.skip (EndT.thenN ?_)
          refine CodeT.seq ?_
          refine CodeT.seq ?_
          refine CodeT.region (.p (opMove (.t rfl)) rfl <| .nil ?_)
          refine EndT.thenN ?_
          refine CodeT.cond (.t rfl) (fun c4 => ?_) (fun c4 => ?_)
          ·
            have ec : c = true := c4
            refine CodeT.region (.p (opMove (.t rfl)) rfl <| .p (opAddF (.t rfl) (.c _) (fits_i64 (by omega) (by omega))) rfl <| .p (opAssign (.t rfl)) rfl <| .nil ?_)
            refine EndT.thenN ?_
            refine CodeT.seq ?_
            refine CodeT.region (.p (opMove (.t rfl)) rfl <| .p (opMove (.t rfl)) rfl <| .p (opRem (.t rfl) (.c _) (by omega) (by omega)) rfl <| .p ((opEql (.t rfl) (.c _)).le (VLe.prop (show _ ↔ ((toN x + toN y + toN c) % 2 == 1) = true by simp [ex, ey, ec, toN]))) rfl <| .p (opBuildSlice (enc := encB) [(toN x + toN y + toN c) % 2 == 1] Tryd.underlying82 Tryd.cz4 rfl Tryd.zb4 rfl (.cons (.t rfl) .nil) rfl rfl rfl rfl rfl) rfl <| .n (opAppend (i := 0) (xs := l) (ys := [(toN x + toN y + toN c) % 2 == 1]) Tryd.underlying82 Tryd.underlying82 Tryd.cz4 rfl Tryd.zb4 rfl Tryd.by4 (.t rfl) (.t rfl) rfl (by (simp only [List.length_cons, List.length_nil]; omega)) (by (simp only [List.length_cons, List.length_nil]; omega))) rfl <| fun g36 _ => .p (opAssign (.t rfl)) rfl <| .nil ?_)
            refine EndT.thenN ?_
            refine CodeT.region (.p (opMove (.t rfl)) rfl <| .p (opGtr (.t rfl) (.c _)) rfl <| .p (opAssign (.t rfl)) rfl <| .nil ?_)
            refine EndT.blkN (EndT.thenN ?_)
            refine CodeT.region (.p (opMove (.t rfl)) rfl <| .p (opAddF (.t rfl) (.c _) (fits_i64 (by omega) (by omega))) rfl <| .p (opAssign (.t rfl)) rfl <| .nil ?_)
            refine EndT.round (g36, i + 1, l ++ [(toN x + toN y + toN c) % 2 == 1], decide (1 < toN x + toN y + toN c)) ⟨by show i + 1 ≤ _; omega, by simp [hll], by rw [List.append_assoc]; exact hst⟩ (by (show a.length - (i + 1) < a.length - i; omega)) rfl ?_
            exact (.get rfl (VLe.refl _) (.get rfl (VLe.int (by (show (i : Int) + 1 = ((i + 1 : Nat) : Int); omega))) (.get rfl (VLe.prop (by simp [ex, ey, ec, toN])) ((.keep 36 rfl rfl)))))
          ·
            have ec : c = false := by simpa using c4
            refine CodeT.skip (EndT.thenN ?_)
            refine CodeT.seq ?_
            refine CodeT.region (.p (opMove (.t rfl)) rfl <| .p (opMove (.t rfl)) rfl <| .p (opRem (.t rfl) (.c _) (by omega) (by omega)) rfl <| .p ((opEql (.t rfl) (.c _)).le (VLe.prop (show _ ↔ ((toN x + toN y + toN c) % 2 == 1) = true by simp [ex, ey, ec, toN]))) rfl <| .p (opBuildSlice (enc := encB) [(toN x + toN y + toN c) % 2 == 1] Tryd.underlying82 Tryd.cz4 rfl Tryd.zb4 rfl (.cons (.t rfl) .nil) rfl rfl rfl rfl rfl) rfl <| .n (opAppend (i := 0) (xs := l) (ys := [(toN x + toN y + toN c) % 2 == 1]) Tryd.underlying82 Tryd.underlying82 Tryd.cz4 rfl Tryd.zb4 rfl Tryd.by4 (.t rfl) (.t rfl) rfl (by (simp only [List.length_cons, List.length_nil]; omega)) (by (simp only [List.length_cons, List.length_nil]; omega))) rfl <| fun g36 _ => .p (opAssign (.t rfl)) rfl <| .nil ?_)
            refine EndT.thenN ?_
            refine CodeT.region (.p (opMove (.t rfl)) rfl <| .p (opGtr (.t rfl) (.c _)) rfl <| .p (opAssign (.t rfl)) rfl <| .nil ?_)
            refine EndT.blkN (EndT.thenN ?_)
            refine CodeT.region (.p (opMove (.t rfl)) rfl <| .p (opAddF (.t rfl) (.c _) (fits_i64 (by omega) (by omega))) rfl <| .p (opAssign (.t rfl)) rfl <| .nil ?_)
            refine EndT.round (g36, i + 1, l ++ [(toN x + toN y + toN c) % 2 == 1], decide (1 < toN x + toN y + toN c)) ⟨by show i + 1 ≤ _; omega, by simp [hll], by rw [List.append_assoc]; exact hst⟩ (by (show a.length - (i + 1) < a.length - i; omega)) rfl ?_
            exact (.get rfl (VLe.refl _) (.get rfl (VLe.int (by (show (i : Int) + 1 = ((i + 1 : Nat) : Int); omega))) (.get rfl (VLe.prop (by simp [ex, ey, ec, toN])) ((.keep 33 rfl rfl)))))
      ·
        have ex : x = false := by simpa using c1
        refine CodeT.skip (EndT.thenN ?_)
        refine CodeT.seq ?_
        refine CodeT.seq ?_
        refine CodeT.region (.p (opMove (.t rfl)) rfl <| .p (opMove (.t rfl)) rfl <| .p (opIndexAddr (j := i) Tryd.underlying82 Tryd.cz4 rfl (.t rfl) (.t rfl) rfl hy) rfl <| .p (opLoad Tryd.ag4 (.t rfl)) rfl <| .nil ?_)
        refine EndT.thenN ?_
        refine CodeT.cond (.t rfl) (fun c5 => ?_) (fun c5 => ?_)
        ·
          have ey : y = true := c5
          refine CodeT.region (.p (opMove (.t rfl)) rfl <| .p (opAddF (.t rfl) (.c _) (fits_i64 (by omega) (by omega))) rfl <| .p (opAssign (.t rfl)) rfl <| .nil ?_)
          refine EndT.thenN ?_
          refine CodeT.seq ?_
          refine CodeT.seq ?_
          refine CodeT.region (.p (opMove (.t rfl)) rfl <| .nil ?_)
          refine EndT.thenN ?_
          refine CodeT.cond (.t rfl) (fun c6 => ?_) (fun c6 => ?_)
          ·
            have ec : c = true := c6
            refine CodeT.region (.p (opMove (.t rfl)) rfl <| .p (opAddF (.t rfl) (.c _) (fits_i64 (by omega) (by omega))) rfl <| .p (opAssign (.t rfl)) rfl <| .nil ?_)
            refine EndT.thenN ?_
            refine CodeT.seq ?_
            refine CodeT.region (.p (opMove (.t rfl)) rfl <| .p (opMove (.t rfl)) rfl <| .p (opRem (.t rfl) (.c _) (by omega) (by omega)) rfl <| .p ((opEql (.t rfl) (.c _)).le (VLe.prop (show _ ↔ ((toN x + toN y + toN c) % 2 == 1) = true by simp [ex, ey, ec, toN]))) rfl <| .p (opBuildSlice (enc := encB) [(toN x + toN y + toN c) % 2 == 1] Tryd.underlying82 Tryd.cz4 rfl Tryd.zb4 rfl (.cons (.t rfl) .nil) rfl rfl rfl rfl rfl) rfl <| .n (opAppend (i := 0) (xs := l) (ys := [(toN x + toN y + toN c) % 2 == 1]) Tryd.underlying82 Tryd.underlying82 Tryd.cz4 rfl Tryd.zb4 rfl Tryd.by4 (.t rfl) (.t rfl) rfl (by (simp only [List.length_cons, List.length_nil]; omega)) (by (simp only [List.length_cons, List.length_nil]; omega))) rfl <| fun g36 _ => .p (opAssign (.t rfl)) rfl <| .nil ?_)
            refine EndT.thenN ?_
            refine CodeT.region (.p (opMove (.t rfl)) rfl <| .p (opGtr (.t rfl) (.c _)) rfl <| .p (opAssign (.t rfl)) rfl <| .nil ?_)
            refine EndT.blkN (EndT.thenN ?_)
            refine CodeT.region (.p (opMove (.t rfl)) rfl <| .p (opAddF (.t rfl) (.c _) (fits_i64 (by omega) (by omega))) rfl <| .p (opAssign (.t rfl)) rfl <| .nil ?_)
            refine EndT.round (g36, i + 1, l ++ [(toN x + toN y + toN c) % 2 == 1], decide (1 < toN x + toN y + toN c)) ⟨by show i + 1 ≤ _; omega, by simp [hll], by rw [List.append_assoc]; exact hst⟩ (by (show a.length - (i + 1) < a.length - i; omega)) rfl ?_
            exact (.get rfl (VLe.refl _) (.get rfl (VLe.int (by (show (i : Int) + 1 = ((i + 1 : Nat) : Int); omega))) (.get rfl (VLe.prop (by simp [ex, ey, ec, toN])) ((.keep 36 rfl rfl)))))
          ·
            have ec : c = false := by simpa using c6
            refine CodeT.skip (EndT.thenN ?_)
            refine CodeT.seq ?_
            refine CodeT.region (.p (opMove (.t rfl)) rfl <| .p (opMove (.t rfl)) rfl <| .p (opRem (.t rfl) (.c _) (by omega) (by omega)) rfl <| .p ((opEql (.t rfl) (.c _)).le (VLe.prop (show _ ↔ ((toN x + toN y + toN c) % 2 == 1) = true by simp [ex, ey, ec, toN]))) rfl <| .p (opBuildSlice (enc := encB) [(toN x + toN y + toN c) % 2 == 1] Tryd.underlying82 Tryd.cz4 rfl Tryd.zb4 rfl (.cons (.t rfl) .nil) rfl rfl rfl rfl rfl) rfl <| .n (opAppend (i := 0) (xs := l) (ys := [(toN x + toN y + toN c) % 2 == 1]) Tryd.underlying82 Tryd.underlying82 Tryd.cz4 rfl Tryd.zb4 rfl Tryd.by4 (.t rfl) (.t rfl) rfl (by (simp only [List.length_cons, List.length_nil]; omega)) (by (simp only [List.length_cons, List.length_nil]; omega))) rfl <| fun g36 _ => .p (opAssign (.t rfl)) rfl <| .nil ?_)
            refine EndT.thenN ?_
            refine CodeT.region (.p (opMove (.t rfl)) rfl <| .p (opGtr (.t rfl) (.c _)) rfl <| .p (opAssign (.t rfl)) rfl <| .nil ?_)
            refine EndT.blkN (EndT.thenN ?_)
            refine CodeT.region (.p (opMove (.t rfl)) rfl <| .p (opAddF (.t rfl) (.c _) (fits_i64 (by omega) (by omega))) rfl <| .p (opAssign (.t rfl)) rfl <| .nil ?_)
            refine EndT.round (g36, i + 1, l ++ [(toN x + toN y + toN c) % 2 == 1], decide (1 < toN x + toN y + toN c)) ⟨by show i + 1 ≤ _; omega, by simp [hll], by rw [List.append_assoc]; exact hst⟩ (by (show a.length - (i + 1) < a.length - i; omega)) rfl ?_
            exact (.get rfl (VLe.refl _) (.get rfl (VLe.int (by (show (i : Int) + 1 = ((i + 1 : Nat) : Int); omega))) (.get rfl (VLe.prop (by simp [ex, ey, ec, toN])) ((.keep 33 rfl rfl)))))
        ·
          have ey : y = false := by simpa using c5
          refine CodeT.skip (EndT.thenN ?_)
          refine CodeT.seq ?_
          refine CodeT.seq ?_
          refine CodeT.region (.p (opMove (.t rfl)) rfl <| .nil ?_)
          refine EndT.thenN ?_
          refine CodeT.cond (.t rfl) (fun c7 => ?_) (fun c7 => ?_)
          ·
            have ec : c = true := c7
            refine CodeT.region (.p (opMove (.t rfl)) rfl <| .p (opAddF (.t rfl) (.c _) (fits_i64 (by omega) (by omega))) rfl <| .p (opAssign (.t rfl)) rfl <| .nil ?_)
            refine EndT.thenN ?_
            refine CodeT.seq ?_
            refine CodeT.region (.p (opMove (.t rfl)) rfl <| .p (opMove (.t rfl)) rfl <| .p (opRem (.t rfl) (.c _) (by omega) (by omega)) rfl <| .p ((opEql (.t rfl) (.c _)).le (VLe.prop (show _ ↔ ((toN x + toN y + toN c) % 2 == 1) = true by simp [ex, ey, ec, toN]))) rfl <| .p (opBuildSlice (enc := encB) [(toN x + toN y + toN c) % 2 == 1] Tryd.underlying82 Tryd.cz4 rfl Tryd.zb4 rfl (.cons (.t rfl) .nil) rfl rfl rfl rfl rfl) rfl <| .n (opAppend (i := 0) (xs := l) (ys := [(toN x + toN y + toN c) % 2 == 1]) Tryd.underlying82 Tryd.underlying82 Tryd.cz4 rfl Tryd.zb4 rfl Tryd.by4 (.t rfl) (.t rfl) rfl (by (simp only [List.length_cons, List.length_nil]; omega)) (by (simp only [List.length_cons, List.length_nil]; omega))) rfl <| fun g36 _ => .p (opAssign (.t rfl)) rfl <| .nil ?_)
            refine EndT.thenN ?_
            refine CodeT.region (.p (opMove (.t rfl)) rfl <| .p (opGtr (.t rfl) (.c _)) rfl <| .p (opAssign (.t rfl)) rfl <| .nil ?_)
            refine EndT.blkN (EndT.thenN ?_)
            refine CodeT.region (.p (opMove (.t rfl)) rfl <| .p (opAddF (.t rfl) (.c _) (fits_i64 (by omega) (by omega))) rfl <| .p (opAssign (.t rfl)) rfl <| .nil ?_)
            refine EndT.round (g36, i + 1, l ++ [(toN x + toN y + toN c) % 2 == 1], decide (1 < toN x + toN y + toN c)) ⟨by show i + 1 ≤ _; omega, by simp [hll], by rw [List.append_assoc]; exact hst⟩ (by (show a.length - (i + 1) < a.length - i; omega)) rfl ?_
            exact (.get rfl (VLe.refl _) (.get rfl (VLe.int (by (show (i : Int) + 1 = ((i + 1 : Nat) : Int); omega))) (.get rfl (VLe.prop (by simp [ex, ey, ec, toN])) ((.keep 33 rfl rfl)))))
          ·
            have ec : c = false := by simpa using c7
            refine CodeT.skip (EndT.thenN ?_)
            refine CodeT.seq ?_
            refine CodeT.region (.p (opMove (.t rfl)) rfl <| .p (opMove (.t rfl)) rfl <| .p (opRem (.t rfl) (.c _) (by omega) (by omega)) rfl <| .p ((opEql (.t rfl) (.c _)).le (VLe.prop (show _ ↔ ((toN x + toN y + toN c) % 2 == 1) = true by simp [ex, ey, ec, toN]))) rfl <| .p (opBuildSlice (enc := encB) [(toN x + toN y + toN c) % 2 == 1] Tryd.underlying82 Tryd.cz4 rfl Tryd.zb4 rfl (.cons (.t rfl) .nil) rfl rfl rfl rfl rfl) rfl <| .n (opAppend (i := 0) (xs := l) (ys := [(toN x + toN y + toN c) % 2 == 1]) Tryd.underlying82 Tryd.underlying82 Tryd.cz4 rfl Tryd.zb4 rfl Tryd.by4 (.t rfl) (.t rfl) rfl (by (simp only [List.length_cons, List.length_nil]; omega)) (by (simp only [List.length_cons, List.length_nil]; omega))) rfl <| fun g36 _ => .p (opAssign (.t rfl)) rfl <| .nil ?_)
            refine EndT.thenN ?_
            refine CodeT.region (.p (opMove (.t rfl)) rfl <| .p (opGtr (.t rfl) (.c _)) rfl <| .p (opAssign (.t rfl)) rfl <| .nil ?_)
            refine EndT.blkN (EndT.thenN ?_)
            refine CodeT.region (.p (opMove (.t rfl)) rfl <| .p (opAddF (.t rfl) (.c _) (fits_i64 (by omega) (by omega))) rfl <| .p (opAssign (.t rfl)) rfl <| .nil ?_)
            refine EndT.round (g36, i + 1, l ++ [(toN x + toN y + toN c) % 2 == 1], decide (1 < toN x + toN y + toN c)) ⟨by show i + 1 ≤ _; omega, by simp [hll], by rw [List.append_assoc]; exact hst⟩ (by (show a.length - (i + 1) < a.length - i; omega)) rfl ?_
            exact (.get rfl (VLe.refl _) (.get rfl (VLe.int (by (show (i : Int) + 1 = ((i + 1 : Nat) : Int); omega))) (.get rfl (VLe.prop (by simp [ex, ey, ec, toN])) ((.keep 30 rfl rfl)))))
    ·
      have hin : a.length ≤ i := by omega
      rw [addL_end hin, List.append_nil] at hl
      subst hl
      refine CodeT.shareS (t := 7) (i := 0) rfl rfl ?_
      refine CodeT.exit (EndT.thenX (EndT.thenX (EndT.blkX (EndT.thenN ?_))))
      refine CodeT.seq ?_
      refine CodeT.region (.p (opMove (.t rfl)) rfl <| .p (opAssign (.t rfl)) rfl <| .nil ?_)
      refine EndT.thenN ?_
      refine CodeT.ret (Post.retP rfl rfl ?_)
      exact VLe.refl _

theorem rnot_spec {a : List Bool} (hp0 : a.length ≤ 65) : FnP Tryd.prog 72 [sliceV 1 encB (a)] (sliceV 1 encB (notL a)) := by
  refine FnE.intro 20 Tryd.func72 rfl rfl rfl fun w0 S0 M => ?_
  refine CodeT.seq ?_
  refine CodeT.region (.p (opAssign (.c _)) rfl <| .nil ?_)
  refine EndT.thenN ?_
  refine CodeT.seq ?_
  refine CodeT.region (.p (opAssign (.c _)) rfl <| .nil ?_)
  refine EndT.thenN ?_
  refine CodeT.seq ?_
  refine CodeT.seq ?_
  refine CodeT.region (.p (opAssign (.c _)) rfl <| .nil ?_)
  refine EndT.thenN ?_
  refine CodeT.block ?_
  refine CodeT.ownNil 1 encB ?_
  refine CodeT.loopO (σ := SB × Nat) (fun g => [sliceH g.1 1 encB (notL (a.take g.2))]) (fun g => [(3, exactV (sval g.1 (notL (a.take g.2)).length)), (4, iV (g.2 : Int))]) (fun g => g.2 ≤ a.length) (fun g => a.length - g.2) (none, 0) (Nat.zero_le _) rfl ?_ ?_
  · exact (.get rfl (VLe.refl _) (.get rfl (VLe.refl _) (.refl _ _)))
  · rintro ⟨sb, i⟩ hi
    simp only at hi ⊢
    have hnl : (notL (a.take i)).length = i := by rw [notL_len, List.length_take]; omega
    refine CodeT.seq ?_
    refine CodeT.seq ?_
    refine CodeT.region (.p (opMove (.t rfl)) rfl <| .p (opMove (.t rfl)) rfl <| .p (opLen rfl Tryd.underlying82 (.t rfl)) rfl <| .p (opLss (.t rfl) (.t rfl)) rfl <| .nil ?_)
    refine EndT.thenN ?_
    refine CodeT.cond (.t rfl) (fun c0 => ?_) (fun c0 => ?_)
    ·
      obtain ⟨x, hx⟩ := getElem?_lt (xs := a) (k := i) (by omega)
      refine CodeT.skip (EndT.thenN ?_)
      refine CodeT.seq ?_
      refine CodeT.block ?_
      refine CodeT.region (.p (opMove (.t rfl)) rfl <| .p (opMove (.t rfl)) rfl <| .p (opMove (.t rfl)) rfl <| .p (opIndexAddr (j := i) Tryd.underlying82 Tryd.cz4 rfl (.t rfl) (.t rfl) rfl hx) rfl <| .p (opLoad Tryd.ag4 (.t rfl)) rfl <| .p ((opNot (.t rfl)).le (VLe.prop (show ¬ (x = true) ↔ (!x) = true by simp))) rfl <| .p (opBuildSlice (enc := encB) [!x] Tryd.underlying82 Tryd.cz4 rfl Tryd.zb4 rfl (.cons (.t rfl) .nil) rfl rfl rfl rfl rfl) rfl <| .n (opAppend (i := 0) (xs := notL (a.take i)) (ys := [!x]) Tryd.underlying82 Tryd.underlying82 Tryd.cz4 rfl Tryd.zb4 rfl Tryd.by4 (.t rfl) (.t rfl) rfl (by (simp only [List.length_cons, List.length_nil]; omega)) (by (simp only [List.length_cons, List.length_nil]; omega))) rfl <| fun g18 _ => .p (opAssign (.t rfl)) rfl <| .nil ?_)
      refine EndT.blkN (EndT.thenN ?_)
      refine CodeT.region (.p (opMove (.t rfl)) rfl <| .p (opAddF (.t rfl) (.c _) (fits_i64 (by omega) (by omega))) rfl <| .p (opAssign (.t rfl)) rfl <| .nil ?_)
      refine EndT.round (g18, i + 1) (by show i + 1 ≤ _; omega) (by (show a.length - (i + 1) < a.length - i; omega)) (by simp only [notL_take hx]; rfl) ?_
      exact (.get rfl (VLe.of_eq (by simp only [notL_take hx])) (.get rfl (VLe.int (by (show (i : Int) + 1 = ((i + 1 : Nat) : Int); omega))) ((.keep 18 rfl rfl))))
    ·
      have hin : a.take i = a := List.take_of_length_le (by omega)
      rw [hin]
      refine CodeT.shareS (t := 3) (i := 0) rfl rfl ?_
      refine CodeT.exit (EndT.thenX (EndT.thenX (EndT.blkX (EndT.thenN ?_))))
      refine CodeT.seq ?_
      refine CodeT.region (.p (opMove (.t rfl)) rfl <| .p (opAssign (.t rfl)) rfl <| .nil ?_)
      refine EndT.thenN ?_
      refine CodeT.ret (Post.retP rfl rfl ?_)
      exact VLe.refl _

theorem rminus_spec {a b : List Bool} (hp0 : a.length = b.length) (hp1 : a.length ≤ 65) : FnP Tryd.prog 50 [sliceV 1 encB (a), sliceV 1 encB (b)] (sliceV 1 encB (minusL a b)) := by
  refine FnE.intro 9 Tryd.func50 rfl rfl rfl fun w0 S0 M => ?_
  refine CodeT.seq ?_
  refine CodeT.region (.p (opAssign (.c _)) rfl <| .nil ?_)
  refine EndT.thenN ?_
  refine CodeT.seq ?_
  refine CodeT.region (.p (opMove (.t rfl)) rfl <| .p (opMove (.t rfl)) rfl <| .p (opCall (rnot_spec (a := b) (by omega)) Tryd.cb72 (.cons (.t rfl) .nil)) rfl <| .p (opCall (radd_spec (b := notL b) (m := true) (by rw [notL_len]; exact hp0) hp1) Tryd.cb49 (.cons (.t rfl) (.cons (.t rfl) (.cons (.le .ct vtt) .nil)))) rfl <| .p (opAssign (.t rfl)) rfl <| .nil ?_)
  refine EndT.thenN ?_
  refine CodeT.ret (Post.retP rfl rfl ?_)
  exact VLe.refl _

theorem rneg_spec {a : List Bool} (hp0 : a.length ≤ 65) : FnP Tryd.prog 53 [sliceV 1 encB (a)] (sliceV 1 encB (negL a)) := by
  refine FnE.intro 9 Tryd.func53 rfl rfl rfl fun w0 S0 M => ?_
  refine CodeT.seq ?_
  refine CodeT.region (.p (opAssign (.c _)) rfl <| .nil ?_)
  refine EndT.thenN ?_
  refine CodeT.seq ?_
  refine CodeT.staged [(0, 0), (1, 0), (2, 0), (3, 0), (4, 4)] 5 2 Tryd.mixed (by kernel_rfl) (.p rfl (fun _ => opMove (.t rfl)) <| .p rfl (fun _ => opCall (rnot_spec (a := a) hp0) Tryd.cb72 (.cons (.t rfl) .nil)) <| .p rfl (fun _ => opMove (.t rfl)) <| .p rfl (fun _ => opLen rfl Tryd.underlying82 (.t rfl)) <| .a rfl (opMakeShG (enc := encB) (false) Tryd.underlying82 Tryd.cz4 Tryd.by4 Tryd.zb4 rfl mk_false (.t rfl) rfl (by omega) (by omega)) (fun _ _ => OLe.refl _) <| fun _ _ => .fin (.p (opCall (radd_spec (a := notL a) (b := List.replicate a.length false) (m := true) (by rw [notL_len]; simp) (by rw [notL_len]; exact hp0)) Tryd.cb49 (.cons (.t rfl) (.cons (.t rfl) (.cons (.le .ct vtt) .nil)))) rfl <| .p (opAssign (.t rfl)) rfl <| .nil ?_))
  refine EndT.thenN ?_
  refine CodeT.ret (Post.retP rfl rfl ?_)
  exact VLe.refl _

theorem rless_spec {a b : List Bool} (hp0 : a.length = b.length) (hp1 : a.length ≤ 65) : FnP Tryd.prog 71 [sliceV 1 encB (a), sliceV 1 encB (b)] (propV (wordN a < wordN b)) := by
  refine FnE.intro 26 Tryd.func71 rfl rfl rfl fun w0 S0 M => ?_
  refine CodeT.seq ?_
  refine CodeT.region (.p (opAssign .cf) rfl <| .nil ?_)
  refine EndT.thenN ?_
  refine CodeT.seq ?_
  refine CodeT.seq ?_
  refine CodeT.region (.p (opMove (.t rfl)) rfl <| .p (opLen rfl Tryd.underlying82 (.t rfl)) rfl <| .p (opSubF (.t rfl) (.c _) (fits_i64 (by omega) (by omega))) rfl <| .p (opAssign (.t rfl)) rfl <| .nil ?_)
  refine EndT.thenN ?_
  refine CodeT.block ?_
  refine CodeT.loopO (σ := Nat) (fun _ => []) (fun k => [(5, iV ((k : Int) - 1))]) (fun k => k ≤ a.length ∧ a.drop k = b.drop k) (fun k => k) a.length ⟨Nat.le_refl _, by rw [List.drop_length, hp0, List.drop_length]⟩ rfl ?_ ?_
  · exact (.get rfl (VLe.refl _) (.refl _ _))
  · rintro k ⟨hk, hd⟩
    refine CodeT.seq ?_
    refine CodeT.seq ?_
    refine CodeT.region (.p (opMove (.t rfl)) rfl <| .p (opGeq (.t rfl) (.c _)) rfl <| .nil ?_)
    refine EndT.thenN ?_
    refine CodeT.cond (.t rfl) (fun c0 => ?_) (fun c0 => ?_)
    ·
      obtain ⟨j, rfl⟩ : ∃ j, k = j + 1 := ⟨k - 1, by omega⟩
      obtain ⟨x, hx⟩ := getElem?_lt (xs := a) (k := j) (by omega)
      obtain ⟨y, hy⟩ := getElem?_lt (xs := b) (k := j) (by omega)
      refine CodeT.skip (EndT.thenN ?_)
      refine CodeT.seq ?_
      refine CodeT.block ?_
      refine CodeT.seq ?_
      refine CodeT.draw 8 1 Tryd.mixed (by kernel_rfl) (.p (opMove (.t rfl)) <| .p (opMove (.t rfl)) <| .p (opIndexAddr (j := j) Tryd.underlying82 Tryd.cz4 rfl (.t rfl) (.t rfl) (by omega) hx) <| .p (opLoad Tryd.ag4 (.t rfl)) <| .p (opMove (.t rfl)) <| .p (opMove (.t rfl)) <| .p (opIndexAddr (j := j) Tryd.underlying82 Tryd.cz4 rfl (.t rfl) (.t rfl) (by omega) hy) <| .p (opLoad Tryd.ag4 (.t rfl)) <| .nil) (.p (opNeqB Tryd.underlying4 (.t rfl) (.t rfl)) rfl <| .nil ?_)
      refine EndT.thenN ?_
      refine CodeT.cond (.t rfl) (fun c1 => ?_) (fun c1 => ?_)
      ·
        refine CodeT.seq ?_
        refine CodeT.region (.p (opMove (.t rfl)) rfl <| .p (opMove (.t rfl)) rfl <| .p (opIndexAddr (j := j) Tryd.underlying82 Tryd.cz4 rfl (.t rfl) (.t rfl) (by omega) hy) rfl <| .p (opLoad Tryd.ag4 (.t rfl)) rfl <| .p (opAssign (.t rfl)) rfl <| .nil ?_)
        refine EndT.thenN ?_
        refine CodeT.ret (EndT.blkR (EndT.thenR (EndT.thenR (EndT.blkR (EndT.thenR (Post.retP rfl rfl ?_))))))
        exact VLe.prop (less_get hp0 hx hy hd c1).symm
      ·
        refine CodeT.skip (EndT.blkN (EndT.thenN ?_))
        refine CodeT.region (.p (opMove (.t rfl)) rfl <| .p (opSubF (.t rfl) (.c _) (fits_i64 (by omega) (by omega))) rfl <| .p (opAssign (.t rfl)) rfl <| .nil ?_)
        refine EndT.round j ⟨by omega, drop_eq hx hy hd c1⟩ (by omega) rfl ?_
        exact (.get rfl (VLe.int (show (((j + 1 : Nat) : Int) - 1 - 1 = (j : Int) - 1) by omega)) ((.keep 15 rfl rfl)))
    ·
      have hk0 : k = 0 := by omega
      subst hk0
      have hab : a = b := by simpa using hd
      subst hab
      refine CodeT.exit (EndT.thenX (EndT.thenX (EndT.blkX (EndT.thenN ?_))))
      refine CodeT.seq ?_
      refine CodeT.region (.p (opAssign .cf) rfl <| .nil ?_)
      refine EndT.thenN ?_
      refine CodeT.ret (Post.retP rfl rfl ?_)
      exact VLe.prop (by simp)

theorem rLess_spec {n a b : Nat} {s : Prop} [Decidable s] (hp0 : WN n) (hp1 : a < 18446744073709551616) (hp2 : b < 18446744073709551616) : FnP Tryd.prog 48 [iV (n : Int), uV a, uV b, propV s] (propV (lessF n s (a % 2 ^ n) (b % 2 ^ n))) := by
  refine FnE.intro 39 Tryd.func48 rfl rfl rfl fun w0 S0 M => ?_
  have hn1 : 1 ≤ n ∧ n ≤ 64 := by rcases hp0 with rfl | rfl <;> omega
  have hA := Nat.mod_lt a (Nat.two_pow_pos n)
  have hB := Nat.mod_lt b (Nat.two_pow_pos n)
  have ha0 := bits_mod n a
  have hb0 := bits_mod n b
  generalize hAe : a % 2 ^ n = A at *
  generalize hBe : b % 2 ^ n = B at *
  refine CodeT.seq ?_
  refine CodeT.region (.p (opAssign .cf) rfl <| .nil ?_)
  refine EndT.thenN ?_
  refine CodeT.seq ?_
  refine CodeT.region (.p (opMove (.t rfl)) rfl <| .p (opMove (.t rfl)) rfl <| .p ((opCall (rlist_spec hn1.2 hp1) Tryd.cb46 (.cons (.t rfl) (.cons (.t rfl) .nil))).le (VLe.of_eq (by rw [← ha0]))) rfl <| .p (opMove (.t rfl)) rfl <| .p (opMove (.t rfl)) rfl <| .p ((opCall (rlist_spec hn1.2 hp2) Tryd.cb46 (.cons (.t rfl) (.cons (.t rfl) .nil))).le (VLe.of_eq (by rw [← hb0]))) rfl <| .p (opAssign (.t rfl)) rfl <| .p (opAssign (.t rfl)) rfl <| .nil ?_)
  refine EndT.thenN ?_
  refine CodeT.seq ?_
  refine CodeT.seq ?_
  refine CodeT.draw 12 2 Tryd.mixed (by kernel_rfl) (.p (opMove (.t rfl)) <| .p (opMove (.t rfl)) <| .cons (OpG.gT rfl rfl rfl rfl (fun hg => opMove (.t rfl))) <| .cons (OpG.gT rfl rfl rfl rfl (fun hg => opMove (.t rfl))) <| .cons (OpG.gT rfl rfl rfl rfl (fun hg => opSubF (.when (.t rfl) hg) (.c _) (fits_i64 (by omega) (by omega)))) <| .cons (OpG.gT rfl rfl rfl rfl (fun hg => opIndexAddr (j := (n - 1)) Tryd.underlying82 Tryd.cz4 rfl (.when (.t rfl) hg) (.when (.t rfl) hg) (by omega) (bits_at (by omega)))) <| .cons (OpG.gT rfl rfl rfl rfl (fun hg => opLoad Tryd.ag4 (.when (.t rfl) hg))) <| .cons (OpG.gT rfl rfl rfl rfl (fun hg => opMove (.t rfl))) <| .cons (OpG.gT rfl rfl rfl rfl (fun hg => opMove (.t rfl))) <| .cons (OpG.gT rfl rfl rfl rfl (fun hg => opSubF (.when (.t rfl) hg) (.c _) (fits_i64 (by omega) (by omega)))) <| .cons (OpG.gT rfl rfl rfl rfl (fun hg => opIndexAddr (j := (n - 1)) Tryd.underlying82 Tryd.cz4 rfl (.when (.t rfl) hg) (.when (.t rfl) hg) (by omega) (bits_at (by omega)))) <| .cons (OpG.gT rfl rfl rfl rfl (fun hg => opLoad Tryd.ag4 (.when (.t rfl) hg))) <| .nil) (.g (OpG.gT rfl rfl rfl rfl (fun hg => opNeqB Tryd.underlying4 (.when (.t rfl) hg) (.when (.t rfl) hg))) rfl rfl <| .p (opAnd (.t rfl) (.t rfl)) rfl <| .nil ?_)
  refine EndT.thenN ?_
  refine CodeT.cond (.t rfl) (fun c0 => ?_) (fun c0 => ?_)
  ·
    refine CodeT.seq ?_
    refine CodeT.region (.p (opMove (.t rfl)) rfl <| .p (opMove (.t rfl)) rfl <| .p (opSubF (.t rfl) (.c _) (fits_i64 (by omega) (by omega))) rfl <| .p (opIndexAddr (j := (n - 1)) Tryd.underlying82 Tryd.cz4 rfl (.t rfl) (.t rfl) (by omega) (bits_at (by omega))) rfl <| .p (opLoad Tryd.ag4 (.t rfl)) rfl <| .p (opAssign (.t rfl)) rfl <| .nil ?_)
    refine EndT.thenN ?_
    refine CodeT.ret (EndT.thenR (Post.retP rfl rfl ?_))
    exact VLe.prop (by unfold lessF; rw [if_pos c0.1]; exact (less_sign hp0 hA hB c0.2).symm)
  ·
    refine CodeT.skip (EndT.thenN ?_)
    refine CodeT.seq ?_
    refine CodeT.region (.p (opMove (.t rfl)) rfl <| .p (opMove (.t rfl)) rfl <| .p (opCall (rless_spec (by rw [bitsL_len, bitsL_len]) (by rw [bitsL_len]; omega)) Tryd.cb71 (.cons (.t rfl) (.cons (.t rfl) .nil))) rfl <| .p (opAssign (.t rfl)) rfl <| .nil ?_)
    refine EndT.thenN ?_
    refine CodeT.ret (Post.retP rfl rfl ?_)
    exact VLe.prop (by rw [wordN_bits_lt hA, wordN_bits_lt hB]; unfold lessF; split; exact (less_same hp0 hA hB (Classical.not_not.1 fun h => c0 ⟨by assumption, h⟩)).symm; exact Iff.rfl)

theorem rshift_spec {a : List Bool} {k : Int} {fl : Bool} (hp0 : a.length ≤ 65) (hp1 : -1000 ≤ k) (hp2 : k ≤ 1000) : FnP Tryd.prog 56 [sliceV 1 encB (a), iV k, propV (fl = true)] (sliceV 1 encB (shiftL a k fl)) := by
  refine FnE.intro 41 Tryd.func56 rfl rfl rfl fun w0 S0 M => ?_
  refine CodeT.seq ?_
  refine CodeT.region (.p (opAssign (.c _)) rfl <| .nil ?_)
  refine EndT.thenN ?_
  refine CodeT.seq ?_
  refine CodeT.region (.p (opAssign (.c _)) rfl <| .nil ?_)
  refine EndT.thenN ?_
  refine CodeT.seq ?_
  refine CodeT.seq ?_
  refine CodeT.region (.p (opAssign (.c _)) rfl <| .nil ?_)
  refine EndT.thenN ?_
  refine CodeT.block ?_
  refine CodeT.ownNil 1 encB ?_
  refine CodeT.loopO (σ := SB × Nat) (fun g => [sliceH g.1 1 encB ((List.range g.2).map (sh1 a k fl))]) (fun g => [(7, exactV (sval g.1 ((List.range g.2).map (sh1 a k fl)).length)), (8, iV (g.2 : Int))]) (fun g => g.2 ≤ a.length) (fun g => a.length - g.2) (none, 0) (Nat.zero_le _) rfl ?_ ?_
  · exact (.get rfl (VLe.refl _) (.get rfl (VLe.refl _) (.refl _ _)))
  · rintro ⟨sb, i⟩ hi
    simp only at hi ⊢
    have hrl : ((List.range i).map (sh1 a k fl)).length = i := by simp
    refine CodeT.seq ?_
    refine CodeT.seq ?_
    refine CodeT.region (.p (opMove (.t rfl)) rfl <| .p (opMove (.t rfl)) rfl <| .p (opLen rfl Tryd.underlying82 (.t rfl)) rfl <| .p (opLss (.t rfl) (.t rfl)) rfl <| .nil ?_)
    refine EndT.thenN ?_
    refine CodeT.cond (.t rfl) (fun c0 => ?_) (fun c0 => ?_)
    ·
      refine CodeT.skip (EndT.thenN ?_)
      refine CodeT.seq ?_
      refine CodeT.block ?_
      refine CodeT.seq ?_
      refine CodeT.region (.p (opMove (.t rfl)) rfl <| .p (opMove (.t rfl)) rfl <| .p (opSubF (.t rfl) (.t rfl) (fits_i64 (by omega) (by omega))) rfl <| .p (opGeq (.t rfl) (.c _)) rfl <| .p (opMove (.t rfl)) rfl <| .g (OpG.gT rfl rfl rfl rfl (fun hg => opMove (.t rfl))) rfl rfl <| .g (OpG.gT rfl rfl rfl rfl (fun hg => opMove (.t rfl))) rfl rfl <| .g (OpG.gT rfl rfl rfl rfl (fun hg => opSubF (.when (.t rfl) hg) (.when (.t rfl) hg) (fits_i64 (by omega) (by omega)))) rfl rfl <| .g (OpG.gT rfl rfl rfl rfl (fun hg => opMove (.t rfl))) rfl rfl <| .g (OpG.gT rfl rfl rfl rfl (fun hg => opLen rfl Tryd.underlying82 (.when (.t rfl) hg))) rfl rfl <| .g (OpG.gT rfl rfl rfl rfl (fun hg => opLss (.when (.t rfl) hg) (.when (.t rfl) hg))) rfl rfl <| .p (opAnd (.t rfl) (.t rfl)) rfl <| .nil ?_)
      refine EndT.thenN ?_
      refine CodeT.cond (.t rfl) (fun c1 => ?_) (fun c1 => ?_)
      ·
        obtain ⟨x, hx⟩ := getElem?_lt (xs := a) (k := ((i : Int) - k).toNat) (by omega)
        have hsx := sh1_in (f := fl) c1 hx
        refine CodeT.region (.p (opMove (.t rfl)) rfl <| .p (opMove (.t rfl)) rfl <| .p (opMove (.t rfl)) rfl <| .p (opMove (.t rfl)) rfl <| .p (opSubF (.t rfl) (.t rfl) (fits_i64 (by omega) (by omega))) rfl <| .p (opIndexAddr (j := ((i : Int) - k).toNat) Tryd.underlying82 Tryd.cz4 rfl (.t rfl) (.t rfl) (by omega) hx) rfl <| .p (opLoad Tryd.ag4 (.t rfl)) rfl <| .p (opBuildSlice (enc := encB) [x] Tryd.underlying82 Tryd.cz4 rfl Tryd.zb4 rfl (.cons (.t rfl) .nil) rfl rfl rfl rfl rfl) rfl <| .n (opAppend (i := 0) (xs := (List.range i).map (sh1 a k fl)) (ys := [x]) Tryd.underlying82 Tryd.underlying82 Tryd.cz4 rfl Tryd.zb4 rfl Tryd.by4 (.t rfl) (.t rfl) rfl (by (simp only [List.length_cons, List.length_nil]; omega)) (by (simp only [List.length_cons, List.length_nil]; omega))) rfl <| fun g35 _ => .p (opAssign (.t rfl)) rfl <| .nil ?_)
        refine EndT.blkN (EndT.thenN ?_)
        refine CodeT.region (.p (opMove (.t rfl)) rfl <| .p (opAddF (.t rfl) (.c _) (fits_i64 (by omega) (by omega))) rfl <| .p (opAssign (.t rfl)) rfl <| .nil ?_)
        refine EndT.round ((by first | exact g35 | exact g39), i + 1) (by show i + 1 ≤ _; omega) (by (show a.length - (i + 1) < a.length - i; omega)) (by simp only [range_snoc, hsx]; rfl) ?_
        exact (.get rfl (VLe.of_eq (by simp only [range_snoc, hsx])) (.get rfl (VLe.int (by (show (i : Int) + 1 = ((i + 1 : Nat) : Int); omega))) ((.keep 31 rfl rfl))))
      ·
        have hsx := sh1_out (f := fl) c1
        refine CodeT.region (.p (opMove (.t rfl)) rfl <| .p (opMove (.t rfl)) rfl <| .p (opBuildSlice (enc := encB) [fl] Tryd.underlying82 Tryd.cz4 rfl Tryd.zb4 rfl (.cons (.t rfl) .nil) rfl rfl rfl rfl rfl) rfl <| .n (opAppend (i := 0) (xs := (List.range i).map (sh1 a k fl)) (ys := [fl]) Tryd.underlying82 Tryd.underlying82 Tryd.cz4 rfl Tryd.zb4 rfl Tryd.by4 (.t rfl) (.t rfl) rfl (by (simp only [List.length_cons, List.length_nil]; omega)) (by (simp only [List.length_cons, List.length_nil]; omega))) rfl <| fun g39 _ => .p (opAssign (.t rfl)) rfl <| .nil ?_)
        refine EndT.blkN (EndT.thenN ?_)
        refine CodeT.region (.p (opMove (.t rfl)) rfl <| .p (opAddF (.t rfl) (.c _) (fits_i64 (by omega) (by omega))) rfl <| .p (opAssign (.t rfl)) rfl <| .nil ?_)
        refine EndT.round ((by first | exact g35 | exact g39), i + 1) (by show i + 1 ≤ _; omega) (by (show a.length - (i + 1) < a.length - i; omega)) (by simp only [range_snoc, hsx]; rfl) ?_
        exact (.get rfl (VLe.of_eq (by simp only [range_snoc, hsx])) (.get rfl (VLe.int (by (show (i : Int) + 1 = ((i + 1 : Nat) : Int); omega))) ((.keep 26 rfl rfl))))
    ·
      have hin : i = a.length := by omega
      subst hin
      refine CodeT.shareS (t := 7) (i := 0) rfl rfl ?_
      refine CodeT.exit (EndT.thenX (EndT.thenX (EndT.blkX (EndT.thenN ?_))))
      refine CodeT.seq ?_
      refine CodeT.region (.p (opMove (.t rfl)) rfl <| .p (opAssign (.t rfl)) rfl <| .nil ?_)
      refine EndT.thenN ?_
      refine CodeT.ret (Post.retP rfl rfl ?_)
      exact VLe.refl _

theorem rshiftO_spec {a : List Bool} {k : Int} {fl : Bool} (hp0 : a.length ≤ 65) (hp1 : -1000 ≤ k) (hp2 : k ≤ 1000) : FnE Tryd.prog 56 [sliceV 1 encB (a), iV k, propV (fl = true)] [] (γ := SB) (fun _ => True) (fun g => [sliceH g 1 encB (shiftL a k fl)]) (fun g => exactV (sval g (shiftL a k fl).length)) := by
  refine FnE.intro 41 Tryd.func56 rfl rfl rfl fun w0 S0 M => ?_
  refine CodeT.seq ?_
  refine CodeT.region (.p (opAssign (.c _)) rfl <| .nil ?_)
  refine EndT.thenN ?_
  refine CodeT.seq ?_
  refine CodeT.region (.p (opAssign (.c _)) rfl <| .nil ?_)
  refine EndT.thenN ?_
  refine CodeT.seq ?_
  refine CodeT.seq ?_
  refine CodeT.region (.p (opAssign (.c _)) rfl <| .nil ?_)
  refine EndT.thenN ?_
  refine CodeT.block ?_
  refine CodeT.ownNil 1 encB ?_
  refine CodeT.loopO (σ := SB × Nat) (fun g => [sliceH g.1 1 encB ((List.range g.2).map (sh1 a k fl))]) (fun g => [(7, exactV (sval g.1 ((List.range g.2).map (sh1 a k fl)).length)), (8, iV (g.2 : Int))]) (fun g => g.2 ≤ a.length) (fun g => a.length - g.2) (none, 0) (Nat.zero_le _) rfl ?_ ?_
  · exact (.get rfl (VLe.refl _) (.get rfl (VLe.refl _) (.refl _ _)))
  · rintro ⟨sb, i⟩ hi
    simp only at hi ⊢
    have hrl : ((List.range i).map (sh1 a k fl)).length = i := by simp
    refine CodeT.seq ?_
    refine CodeT.seq ?_
    refine CodeT.region (.p (opMove (.t rfl)) rfl <| .p (opMove (.t rfl)) rfl <| .p (opLen rfl Tryd.underlying82 (.t rfl)) rfl <| .p (opLss (.t rfl) (.t rfl)) rfl <| .nil ?_)
    refine EndT.thenN ?_
    refine CodeT.cond (.t rfl) (fun c0 => ?_) (fun c0 => ?_)
    ·
      refine CodeT.skip (EndT.thenN ?_)
      refine CodeT.seq ?_
      refine CodeT.block ?_
      refine CodeT.seq ?_
      refine CodeT.region (.p (opMove (.t rfl)) rfl <| .p (opMove (.t rfl)) rfl <| .p (opSubF (.t rfl) (.t rfl) (fits_i64 (by omega) (by omega))) rfl <| .p (opGeq (.t rfl) (.c _)) rfl <| .p (opMove (.t rfl)) rfl <| .g (OpG.gT rfl rfl rfl rfl (fun hg => opMove (.t rfl))) rfl rfl <| .g (OpG.gT rfl rfl rfl rfl (fun hg => opMove (.t rfl))) rfl rfl <| .g (OpG.gT rfl rfl rfl rfl (fun hg => opSubF (.when (.t rfl) hg) (.when (.t rfl) hg) (fits_i64 (by omega) (by omega)))) rfl rfl <| .g (OpG.gT rfl rfl rfl rfl (fun hg => opMove (.t rfl))) rfl rfl <| .g (OpG.gT rfl rfl rfl rfl (fun hg => opLen rfl Tryd.underlying82 (.when (.t rfl) hg))) rfl rfl <| .g (OpG.gT rfl rfl rfl rfl (fun hg => opLss (.when (.t rfl) hg) (.when (.t rfl) hg))) rfl rfl <| .p (opAnd (.t rfl) (.t rfl)) rfl <| .nil ?_)
      refine EndT.thenN ?_
      refine CodeT.cond (.t rfl) (fun c1 => ?_) (fun c1 => ?_)
      ·
        obtain ⟨x, hx⟩ := getElem?_lt (xs := a) (k := ((i : Int) - k).toNat) (by omega)
        have hsx := sh1_in (f := fl) c1 hx
        refine CodeT.region (.p (opMove (.t rfl)) rfl <| .p (opMove (.t rfl)) rfl <| .p (opMove (.t rfl)) rfl <| .p (opMove (.t rfl)) rfl <| .p (opSubF (.t rfl) (.t rfl) (fits_i64 (by omega) (by omega))) rfl <| .p (opIndexAddr (j := ((i : Int) - k).toNat) Tryd.underlying82 Tryd.cz4 rfl (.t rfl) (.t rfl) (by omega) hx) rfl <| .p (opLoad Tryd.ag4 (.t rfl)) rfl <| .p (opBuildSlice (enc := encB) [x] Tryd.underlying82 Tryd.cz4 rfl Tryd.zb4 rfl (.cons (.t rfl) .nil) rfl rfl rfl rfl rfl) rfl <| .n (opAppend (i := 0) (xs := (List.range i).map (sh1 a k fl)) (ys := [x]) Tryd.underlying82 Tryd.underlying82 Tryd.cz4 rfl Tryd.zb4 rfl Tryd.by4 (.t rfl) (.t rfl) rfl (by (simp only [List.length_cons, List.length_nil]; omega)) (by (simp only [List.length_cons, List.length_nil]; omega))) rfl <| fun g35 _ => .p (opAssign (.t rfl)) rfl <| .nil ?_)
        refine EndT.blkN (EndT.thenN ?_)
        refine CodeT.region (.p (opMove (.t rfl)) rfl <| .p (opAddF (.t rfl) (.c _) (fits_i64 (by omega) (by omega))) rfl <| .p (opAssign (.t rfl)) rfl <| .nil ?_)
        refine EndT.round ((by first | exact g35 | exact g39), i + 1) (by show i + 1 ≤ _; omega) (by (show a.length - (i + 1) < a.length - i; omega)) (by simp only [range_snoc, hsx]; rfl) ?_
        exact (.get rfl (VLe.of_eq (by simp only [range_snoc, hsx])) (.get rfl (VLe.int (by (show (i : Int) + 1 = ((i + 1 : Nat) : Int); omega))) ((.keep 31 rfl rfl))))
      ·
        have hsx := sh1_out (f := fl) c1
        refine CodeT.region (.p (opMove (.t rfl)) rfl <| .p (opMove (.t rfl)) rfl <| .p (opBuildSlice (enc := encB) [fl] Tryd.underlying82 Tryd.cz4 rfl Tryd.zb4 rfl (.cons (.t rfl) .nil) rfl rfl rfl rfl rfl) rfl <| .n (opAppend (i := 0) (xs := (List.range i).map (sh1 a k fl)) (ys := [fl]) Tryd.underlying82 Tryd.underlying82 Tryd.cz4 rfl Tryd.zb4 rfl Tryd.by4 (.t rfl) (.t rfl) rfl (by (simp only [List.length_cons, List.length_nil]; omega)) (by (simp only [List.length_cons, List.length_nil]; omega))) rfl <| fun g39 _ => .p (opAssign (.t rfl)) rfl <| .nil ?_)
        refine EndT.blkN (EndT.thenN ?_)
        refine CodeT.region (.p (opMove (.t rfl)) rfl <| .p (opAddF (.t rfl) (.c _) (fits_i64 (by omega) (by omega))) rfl <| .p (opAssign (.t rfl)) rfl <| .nil ?_)
        refine EndT.round ((by first | exact g35 | exact g39), i + 1) (by show i + 1 ≤ _; omega) (by (show a.length - (i + 1) < a.length - i; omega)) (by simp only [range_snoc, hsx]; rfl) ?_
        exact (.get rfl (VLe.of_eq (by simp only [range_snoc, hsx])) (.get rfl (VLe.int (by (show (i : Int) + 1 = ((i + 1 : Nat) : Int); omega))) ((.keep 26 rfl rfl))))
    ·
      have hin : i = a.length := by omega
      subst hin
      refine CodeT.exit (EndT.thenX (EndT.thenX (EndT.blkX (EndT.thenN ?_))))
      refine CodeT.seq ?_
      refine CodeT.region (.p (opMove (.t rfl)) rfl <| .p (opAssign (.t rfl)) rfl <| .nil ?_)
      refine EndT.thenN ?_
      refine CodeT.ret (Post.retR1 rfl (sb) (by trivial) (fun _ _ _ h => h) (.rt rfl) ?_)
      exact VLe.refl _

theorem rmul_spec {a b : List Bool} {n : Nat} (hp0 : a.length = n) (hp1 : b.length = n) (hp2 : n ≤ 64) : FnP Tryd.prog 51 [sliceV 1 encB (a), sliceV 1 encB (b)] (sliceV 1 encB (bitsL n (wordN a * wordN b))) := by
  refine FnE.intro 26 Tryd.func51 rfl rfl rfl fun w0 S0 M => ?_
  refine CodeT.seq ?_
  refine CodeT.region (.p (opAssign (.c _)) rfl <| .nil ?_)
  refine EndT.thenN ?_
  refine CodeT.seq ?_
  refine CodeT.region (.p (opMove (.t rfl)) rfl <| .p (opLen rfl Tryd.underlying82 (.t rfl)) rfl <| .n (opMakeShG (enc := encB) (false) Tryd.underlying82 Tryd.cz4 Tryd.by4 Tryd.zb4 rfl mk_false (.t rfl) (show _ = ((n : Nat) : Int) by omega) (by omega) (by omega)) rfl <| fun _ _ => .p (opAssign (.t rfl)) rfl <| .nil ?_)
  refine EndT.thenN ?_
  refine CodeT.seq ?_
  refine CodeT.seq ?_
  refine CodeT.region (.p (opAssign (.c _)) rfl <| .nil ?_)
  refine EndT.thenN ?_
  refine CodeT.block ?_
  refine CodeT.loopO (σ := Nat × List Bool) (fun _ => []) (fun g => [(5, sliceV 1 encB (g.2)), (6, iV (g.1 : Int))]) (fun g => g.1 ≤ n ∧ mulI n (wordN a) (wordN b) g.1 g.2) (fun g => n - g.1) (0, List.replicate n false) ⟨Nat.zero_le _, mulI_begin _ _ _⟩ rfl ?_ ?_
  · exact (.get rfl (VLe.refl _) (.get rfl (VLe.refl _) (.refl _ _)))
  · rintro ⟨i, l⟩ ⟨hi, hl⟩
    simp only at hi hl ⊢
    refine CodeT.seq ?_
    refine CodeT.seq ?_
    refine CodeT.region (.p (opMove (.t rfl)) rfl <| .p (opMove (.t rfl)) rfl <| .p (opLen rfl Tryd.underlying82 (.t rfl)) rfl <| .p (opLss (.t rfl) (.t rfl)) rfl <| .nil ?_)
    refine EndT.thenN ?_
    refine CodeT.cond (.t rfl) (fun c0 => ?_) (fun c0 => ?_)
    ·
      obtain ⟨y, hy⟩ := getElem?_lt (xs := b) (k := i) (by omega)
      refine CodeT.skip (EndT.thenN ?_)
      refine CodeT.seq ?_
      refine CodeT.block ?_
      refine CodeT.seq ?_
      refine CodeT.region (.p (opMove (.t rfl)) rfl <| .p (opMove (.t rfl)) rfl <| .p (opIndexAddr (j := i) Tryd.underlying82 Tryd.cz4 rfl (.t rfl) (.t rfl) rfl hy) rfl <| .p (opLoad Tryd.ag4 (.t rfl)) rfl <| .nil ?_)
      refine EndT.thenN ?_
      refine CodeT.cond (.t rfl) (fun c1 => ?_) (fun c1 => ?_)
      ·
        have hbi : (wordN b).testBit i = true := (tb_word hy).trans c1
        refine CodeT.region (.p (opMove (.t rfl)) rfl <| .p (opMove (.t rfl)) rfl <| .p (opMove (.t rfl)) rfl <| .p (opCall (rshift_spec (fl := false) (by omega) (by omega) (by omega)) Tryd.cb56 (.cons (.t rfl) (.cons (.t rfl) (.cons (.le .cf vff) .nil)))) rfl <| .p (opCall (radd_spec (m := false) (by rw [shiftL_len, hl.1, hp0]) (by rw [hl.1]; omega)) Tryd.cb49 (.cons (.t rfl) (.cons (.t rfl) (.cons (.le .cf vff) .nil)))) rfl <| .p (opAssign (.t rfl)) rfl <| .nil ?_)
        refine EndT.blkN (EndT.thenN ?_)
        refine CodeT.region (.p (opMove (.t rfl)) rfl <| .p (opAddF (.t rfl) (.c _) (fits_i64 (by omega) (by omega))) rfl <| .p (opAssign (.t rfl)) rfl <| .nil ?_)
        refine EndT.round (i + 1, addL l (shiftL a (i : Int) false) false) ⟨by show i + 1 ≤ n; omega, mulI_yes hl hp0 rfl hbi⟩ (by (show n - (i + 1) < n - i; omega)) rfl ?_
        exact (.get rfl (VLe.refl _) (.get rfl (VLe.int (by (show (i : Int) + 1 = ((i + 1 : Nat) : Int); omega))) ((.keep 19 rfl rfl))))
      ·
        have hbi : (wordN b).testBit i = false := (tb_word hy).trans (by simpa using c1)
        refine CodeT.skip (EndT.blkN (EndT.thenN ?_))
        refine CodeT.region (.p (opMove (.t rfl)) rfl <| .p (opAddF (.t rfl) (.c _) (fits_i64 (by omega) (by omega))) rfl <| .p (opAssign (.t rfl)) rfl <| .nil ?_)
        refine EndT.round (i + 1, l) ⟨by show i + 1 ≤ n; omega, mulI_no hl hbi⟩ (by (show n - (i + 1) < n - i; omega)) rfl ?_
        exact (.get rfl (VLe.refl _) (.get rfl (VLe.int (by (show (i : Int) + 1 = ((i + 1 : Nat) : Int); omega))) ((.keep 13 rfl rfl))))
    ·
      have hin : i = n := by omega
      subst hin
      refine CodeT.exit (EndT.thenX (EndT.thenX (EndT.blkX (EndT.thenN ?_))))
      refine CodeT.seq ?_
      refine CodeT.region (.p (opMove (.t rfl)) rfl <| .p (opAssign (.t rfl)) rfl <| .nil ?_)
      refine EndT.thenN ?_
      refine CodeT.ret (Post.retP rfl rfl ?_)
      exact VLe.of_eq (congrArg (sliceV 1 encB) (bits_of_word hl.1 (mulI_done hl (by have := wordN_lt b; rw [hp1] at this; exact this)) |>.trans (bits_mod _ _)))

theorem rzero_spec {a : List Bool} (hp0 : a.length ≤ 65) : FnP Tryd.prog 52 [sliceV 1 encB (a)] (propV (wordN a = 0)) := by
  refine FnE.intro 14 Tryd.func52 rfl rfl rfl fun w0 S0 M => ?_
  refine CodeT.seq ?_
  refine CodeT.region (.p (opAssign .cf) rfl <| .nil ?_)
  refine EndT.thenN ?_
  refine CodeT.seq ?_
  refine CodeT.seq ?_
  refine CodeT.region (.p (opAssign (.c _)) rfl <| .nil ?_)
  refine EndT.thenN ?_
  refine CodeT.block ?_
  refine CodeT.loopO (σ := Nat) (fun _ => []) (fun i => [(3, iV (i : Int))]) (fun i => i ≤ a.length ∧ wordN (a.take i) = 0) (fun i => a.length - i) 0 ⟨Nat.zero_le _, rfl⟩ rfl ?_ ?_
  · exact (.get rfl (VLe.refl _) (.refl _ _))
  · rintro i ⟨hi, hz⟩
    refine CodeT.seq ?_
    refine CodeT.seq ?_
    refine CodeT.region (.p (opMove (.t rfl)) rfl <| .p (opMove (.t rfl)) rfl <| .p (opLen rfl Tryd.underlying82 (.t rfl)) rfl <| .p (opLss (.t rfl) (.t rfl)) rfl <| .nil ?_)
    refine EndT.thenN ?_
    refine CodeT.cond (.t rfl) (fun c0 => ?_) (fun c0 => ?_)
    ·
      obtain ⟨x, hx⟩ := getElem?_lt (xs := a) (k := i) (by omega)
      refine CodeT.skip (EndT.thenN ?_)
      refine CodeT.seq ?_
      refine CodeT.block ?_
      refine CodeT.seq ?_
      refine CodeT.region (.p (opMove (.t rfl)) rfl <| .p (opMove (.t rfl)) rfl <| .p (opIndexAddr (j := i) Tryd.underlying82 Tryd.cz4 rfl (.t rfl) (.t rfl) rfl hx) rfl <| .p (opLoad Tryd.ag4 (.t rfl)) rfl <| .nil ?_)
      refine EndT.thenN ?_
      refine CodeT.cond (.t rfl) (fun c1 => ?_) (fun c1 => ?_)
      ·
        subst c1
        refine CodeT.seq ?_
        refine CodeT.region (.p (opAssign .cf) rfl <| .nil ?_)
        refine EndT.thenN ?_
        refine CodeT.ret (EndT.blkR (EndT.thenR (EndT.thenR (EndT.blkR (EndT.thenR (Post.retP rfl rfl ?_))))))
        exact VLe.prop (by simp [word_ne hx])
      ·
        refine CodeT.skip (EndT.blkN (EndT.thenN ?_))
        refine CodeT.region (.p (opMove (.t rfl)) rfl <| .p (opAddF (.t rfl) (.c _) (fits_i64 (by omega) (by omega))) rfl <| .p (opAssign (.t rfl)) rfl <| .nil ?_)
        refine EndT.round (i + 1) ⟨by omega, zero_take hx c1 hz⟩ (by omega) rfl ?_
        exact (.get rfl (VLe.int (by (show (i : Int) + 1 = ((i + 1 : Nat) : Int); omega))) ((.keep 12 rfl rfl)))
    ·
      have hin : a.take i = a := List.take_of_length_le (by omega)
      rw [hin] at hz
      refine CodeT.exit (EndT.thenX (EndT.thenX (EndT.blkX (EndT.thenN ?_))))
      refine CodeT.seq ?_
      refine CodeT.region (.p (opAssign .ct) rfl <| .nil ?_)
      refine EndT.thenN ?_
      refine CodeT.ret (Post.retP rfl rfl ?_)
      exact VLe.prop (by simp [hz])

theorem rmix_spec {n A B : Nat} {how : Int} (hp0 : n ≤ 64) : FnP Tryd.prog 55 [sliceV 1 encB (bitsL n A), sliceV 1 encB (bitsL n B), iV how] (sliceV 1 encB (bitsL n (mixN how A B))) := by
  refine FnE.intro 59 Tryd.func55 rfl rfl rfl fun w0 S0 M => ?_
  have hla := bitsL_len n A
  refine CodeT.seq ?_
  refine CodeT.region (.p (opAssign (.c _)) rfl <| .nil ?_)
  refine EndT.thenN ?_
  refine CodeT.seq ?_
  refine CodeT.region (.p (opAssign (.c _)) rfl <| .nil ?_)
  refine EndT.thenN ?_
  refine CodeT.seq ?_
  refine CodeT.seq ?_
  refine CodeT.region (.p (opAssign (.c _)) rfl <| .nil ?_)
  refine EndT.thenN ?_
  refine CodeT.block ?_
  refine CodeT.ownNil 1 encB ?_
  refine CodeT.loopO (σ := SB × Nat) (fun g => [sliceH g.1 1 encB (bitsL g.2 (mixN how A B))]) (fun g => [(7, exactV (sval g.1 (bitsL g.2 (mixN how A B)).length)), (8, iV (g.2 : Int))]) (fun g => g.2 ≤ n) (fun g => n - g.2) (none, 0) (Nat.zero_le _) rfl ?_ ?_
  · exact (.get rfl (VLe.refl _) (.get rfl (VLe.refl _) (.refl _ _)))
  · rintro ⟨sb, i⟩ hi
    simp only at hi ⊢
    have hbl := bitsL_len i (mixN how A B)
    refine CodeT.seq ?_
    refine CodeT.seq ?_
    refine CodeT.region (.p (opMove (.t rfl)) rfl <| .p (opMove (.t rfl)) rfl <| .p (opLen rfl Tryd.underlying82 (.t rfl)) rfl <| .p (opLss (.t rfl) (.t rfl)) rfl <| .nil ?_)
    refine EndT.thenN ?_
    refine CodeT.cond (.t rfl) (fun c0 => ?_) (fun c0 => ?_)
    ·
      have hin : i < n := by omega
      have hx := bits_at (n := n) (a := A) hin
      have hy := bits_at (n := n) (a := B) hin
      refine CodeT.skip (EndT.thenN ?_)
      refine CodeT.seq ?_
      refine CodeT.block ?_
      refine CodeT.seq ?_
      refine CodeT.region (.p (opMove (.t rfl)) rfl <| .nil ?_)
      refine EndT.thenN ?_
      refine CodeT.block ?_
      refine CodeT.seq ?_
      refine CodeT.region (.p (opEql (.t rfl) (.c _)) rfl <| .p (opAssign (.t rfl)) rfl <| .nil ?_)
      refine EndT.thenN ?_
      refine CodeT.cond (.t rfl) (fun c1 => ?_) (fun c1 => ?_)
      ·
        refine CodeT.region (.p (opMove (.t rfl)) rfl <| .p (opMove (.t rfl)) rfl <| .p (opMove (.t rfl)) rfl <| .p (opIndexAddr (j := i) Tryd.underlying82 Tryd.cz4 rfl (.t rfl) (.t rfl) rfl hx) rfl <| .p (opLoad Tryd.ag4 (.t rfl)) rfl <| .p (opMove (.t rfl)) rfl <| .g (OpG.gT rfl rfl rfl rfl (fun hg => opMove (.t rfl))) rfl rfl <| .g (OpG.gT rfl rfl rfl rfl (fun hg => opMove (.t rfl))) rfl rfl <| .g (OpG.gT rfl rfl rfl rfl (fun hg => opIndexAddr (j := i) Tryd.underlying82 Tryd.cz4 rfl (.when (.t rfl) hg) (.when (.t rfl) hg) rfl hy)) rfl rfl <| .g (OpG.gT rfl rfl rfl rfl (fun hg => opLoad Tryd.ag4 (.when (.t rfl) hg))) rfl rfl <| .p ((opAnd (.t rfl) (.t rfl)).le (VLe.prop (show _ ↔ (mixN how A B).testBit i = true by rw [mix0 c1]; simp))) rfl <| .p (opBuildSlice (enc := encB) [(mixN how A B).testBit i] Tryd.underlying82 Tryd.cz4 rfl Tryd.zb4 rfl (.cons (.t rfl) .nil) rfl rfl rfl rfl rfl) rfl <| .n (opAppend (i := 0) (xs := bitsL i (mixN how A B)) (ys := [(mixN how A B).testBit i]) Tryd.underlying82 Tryd.underlying82 Tryd.cz4 rfl Tryd.zb4 rfl Tryd.by4 (.t rfl) (.t rfl) rfl (by (rw [hbl]; simp only [List.length_cons, List.length_nil]; omega)) (by (rw [hbl]; simp only [List.length_cons, List.length_nil]; omega))) rfl <| fun g42 _ => .p (opAssign (.t rfl)) rfl <| .nil ?_)
        refine EndT.blkN (EndT.blkN (EndT.thenN ?_))
        refine CodeT.region (.p (opMove (.t rfl)) rfl <| .p (opAddF (.t rfl) (.c _) (fits_i64 (by omega) (by omega))) rfl <| .p (opAssign (.t rfl)) rfl <| .nil ?_)
        refine EndT.round ((by first | exact g42 | exact g57 | exact g27), i + 1) (by show i + 1 ≤ n; omega) (by (show n - (i + 1) < n - i; omega)) (by simp only [bitsL_succ]; rfl) ?_
        exact (.get rfl (VLe.of_eq (by simp only [bitsL_succ])) (.get rfl (VLe.int (by (show (i : Int) + 1 = ((i + 1 : Nat) : Int); omega))) ((.keep 26 rfl rfl))))
      ·
        refine CodeT.seq ?_
        refine CodeT.region (.p (opEql (.t rfl) (.c _)) rfl <| .p (opAssign (.t rfl)) rfl <| .nil ?_)
        refine EndT.thenN ?_
        refine CodeT.cond (.t rfl) (fun c2 => ?_) (fun c2 => ?_)
        ·
          refine CodeT.region (.p (opMove (.t rfl)) rfl <| .p (opMove (.t rfl)) rfl <| .p (opMove (.t rfl)) rfl <| .p (opIndexAddr (j := i) Tryd.underlying82 Tryd.cz4 rfl (.t rfl) (.t rfl) rfl hx) rfl <| .p (opLoad Tryd.ag4 (.t rfl)) rfl <| .p (opMove (.t rfl)) rfl <| .g (OpG.gF rfl rfl rfl rfl (fun hg => opMove (.t rfl))) rfl rfl <| .g (OpG.gF rfl rfl rfl rfl (fun hg => opMove (.t rfl))) rfl rfl <| .g (OpG.gF rfl rfl rfl rfl (fun hg => opIndexAddr (j := i) Tryd.underlying82 Tryd.cz4 rfl (.when (.t rfl) hg) (.when (.t rfl) hg) rfl hy)) rfl rfl <| .g (OpG.gF rfl rfl rfl rfl (fun hg => opLoad Tryd.ag4 (.when (.t rfl) hg))) rfl rfl <| .p ((opOr (.t rfl) (.t rfl)).le (VLe.prop (show _ ↔ (mixN how A B).testBit i = true by rw [mix1 c1 c2]; simp))) rfl <| .p (opBuildSlice (enc := encB) [(mixN how A B).testBit i] Tryd.underlying82 Tryd.cz4 rfl Tryd.zb4 rfl (.cons (.t rfl) .nil) rfl rfl rfl rfl rfl) rfl <| .n (opAppend (i := 0) (xs := bitsL i (mixN how A B)) (ys := [(mixN how A B).testBit i]) Tryd.underlying82 Tryd.underlying82 Tryd.cz4 rfl Tryd.zb4 rfl Tryd.by4 (.t rfl) (.t rfl) rfl (by (rw [hbl]; simp only [List.length_cons, List.length_nil]; omega)) (by (rw [hbl]; simp only [List.length_cons, List.length_nil]; omega))) rfl <| fun g57 _ => .p (opAssign (.t rfl)) rfl <| .nil ?_)
          refine EndT.blkN (EndT.blkN (EndT.thenN ?_))
          refine CodeT.region (.p (opMove (.t rfl)) rfl <| .p (opAddF (.t rfl) (.c _) (fits_i64 (by omega) (by omega))) rfl <| .p (opAssign (.t rfl)) rfl <| .nil ?_)
          refine EndT.round ((by first | exact g42 | exact g57 | exact g27), i + 1) (by show i + 1 ≤ n; omega) (by (show n - (i + 1) < n - i; omega)) (by simp only [bitsL_succ]; rfl) ?_
          exact (.get rfl (VLe.of_eq (by simp only [bitsL_succ])) (.get rfl (VLe.int (by (show (i : Int) + 1 = ((i + 1 : Nat) : Int); omega))) ((.keep 28 rfl rfl))))
        ·
          refine CodeT.staged [(0, 0), (1, 0), (2, 0), (3, 0), (4, 0), (5, 0), (6, 0), (7, 0), (8, 0), (9, 0), (10, 0)] 11 2 Tryd.mixed (by kernel_rfl) (.p rfl (fun _ => opMove (.t rfl)) <| .p rfl (fun _ => opMove (.t rfl)) <| .p rfl (fun _ => opMove (.t rfl)) <| .p rfl (fun _ => opIndexAddr (j := i) Tryd.underlying82 Tryd.cz4 rfl (.t rfl) (.t rfl) rfl hx) <| .p rfl (fun _ => opLoad Tryd.ag4 (.t rfl)) <| .p rfl (fun _ => opMove (.t rfl)) <| .p rfl (fun _ => opMove (.t rfl)) <| .p rfl (fun _ => opIndexAddr (j := i) Tryd.underlying82 Tryd.cz4 rfl (.t rfl) (.t rfl) rfl hy) <| .p rfl (fun _ => opLoad Tryd.ag4 (.t rfl)) <| .p rfl (fun _ => (opNeqB Tryd.underlying4 (.t rfl) (.t rfl)).le (VLe.prop (show _ ↔ (mixN how A B).testBit i = true by rw [mix2 c1 c2]; cases A.testBit i <;> cases B.testBit i <;> simp))) <| .p rfl (fun _ => opBuildSlice (enc := encB) [(mixN how A B).testBit i] Tryd.underlying82 Tryd.cz4 rfl Tryd.zb4 rfl (.cons (.t rfl) .nil) rfl rfl rfl rfl rfl) <| .fin (.n (opAppend (i := 0) (xs := bitsL i (mixN how A B)) (ys := [(mixN how A B).testBit i]) Tryd.underlying82 Tryd.underlying82 Tryd.cz4 rfl Tryd.zb4 rfl Tryd.by4 (.t rfl) (.t rfl) rfl (by (rw [hbl]; simp only [List.length_cons, List.length_nil]; omega)) (by (rw [hbl]; simp only [List.length_cons, List.length_nil]; omega))) rfl <| fun g27 _ => .p (opAssign (.t rfl)) rfl <| .nil ?_))
          refine EndT.blkN (EndT.blkN (EndT.thenN ?_))
          refine CodeT.region (.p (opMove (.t rfl)) rfl <| .p (opAddF (.t rfl) (.c _) (fits_i64 (by omega) (by omega))) rfl <| .p (opAssign (.t rfl)) rfl <| .nil ?_)
          refine EndT.round ((by first | exact g42 | exact g57 | exact g27), i + 1) (by show i + 1 ≤ n; omega) (by (show n - (i + 1) < n - i; omega)) (by simp only [bitsL_succ]; rfl) ?_
          exact (.get rfl (VLe.of_eq (by simp only [bitsL_succ])) (.get rfl (VLe.int (by (show (i : Int) + 1 = ((i + 1 : Nat) : Int); omega))) ((.keep 27 rfl rfl))))
    ·
      have hin : i = n := by omega
      subst hin
      refine CodeT.shareS (t := 7) (i := 0) rfl rfl ?_
      refine CodeT.exit (EndT.thenX (EndT.thenX (EndT.blkX (EndT.thenN ?_))))
      refine CodeT.seq ?_
      refine CodeT.region (.p (opMove (.t rfl)) rfl <| .p (opAssign (.t rfl)) rfl <| .nil ?_)
      refine EndT.thenN ?_
      refine CodeT.ret (Post.retP rfl rfl ?_)
      exact VLe.refl _

end Go.Proofs.YtgmpadhfgohodaaDoor
