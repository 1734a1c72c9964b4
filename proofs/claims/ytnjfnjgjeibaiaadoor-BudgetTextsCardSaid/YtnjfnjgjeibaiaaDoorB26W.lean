/-
  Walks, printed by a program (gen.py) out of what its author says of each function.
-/
import Derived.Test.YtnjfnjgjeibaiaaDoorB26C
namespace Go.Proofs.YtnjfnjgjeibaiaaDoor
open Go.Hl Go.RowKit
set_option linter.unusedVariables false
set_option maxRecDepth 100000

theorem rlist_spec {a : Nat} (hp0 : a < 18446744073709551616) : FnP Tryd.prog 12 [iV 64, intV .u64 (a : Int)] (sliceV 1 encB (bitsL 64 a)) := by
  refine FnE.intro 21 Tryd.func12 rfl rfl rfl fun w0 S0 M => ?_
  refine CodeT.seq ?_
  refine CodeT.region (.p (opAssign (.c _)) rfl <| .nil ?_)
  refine EndT.thenN ?_
  refine CodeT.seq ?_
  refine CodeT.region (.p (opAssign (.c _)) rfl <| .nil ?_)
  refine EndT.thenN ?_
  refine CodeT.seq ?_
  refine CodeT.seq ?_
  refine CodeT.region (.p (opAssign (.c _)) rfl <| .nil ?_)
  refine EndT.thenN ?_
  refine CodeT.block ?_
  refine CodeT.ownNil 1 encB ?_
  refine CodeT.loopO (σ := SB × Nat) (fun g => [sliceH g.1 1 encB (bitsL g.2 a)]) (fun g => [(5, exactV (sval g.1 (bitsL g.2 a).length)), (6, iV (g.2 : Int)), (1, intV .u64 ((a / 2 ^ g.2 : Nat) : Int))]) (fun g => g.2 ≤ 64) (fun g => 64 - g.2) (none, 0) (Nat.zero_le _) rfl ?_ ?_
  · exact (.get rfl (VLe.refl _) (.get rfl (VLe.refl _) (.get rfl (VLe.int (by simp)) (.refl _ _))))
  · rintro ⟨sb, i⟩ hi
    simp only at hi ⊢
    have hbl := bitsL_len i a
    have hdl := Nat.div_le_self a (2 ^ i)
    have hhd := half_div a i
    obtain ⟨q, hq⟩ : ∃ q, a / 2 ^ i = q := ⟨_, rfl⟩
    rw [hq] at hdl hhd ⊢
    refine CodeT.seq ?_
    refine CodeT.seq ?_
    refine CodeT.region (.p (opMove (.t rfl)) rfl <| .p (opMove (.t rfl)) rfl <| .p (opLss (.t rfl) (.t rfl)) rfl <| .nil ?_)
    refine EndT.thenN ?_
    refine CodeT.cond (.t rfl) (fun c0 => ?_) (fun c0 => ?_)
    ·
      refine CodeT.skip (EndT.thenN ?_)
      refine CodeT.seq ?_
      refine CodeT.block ?_
      refine CodeT.seq ?_
      refine CodeT.region (.p (opMove (.t rfl)) rfl <| .p (opMove (.t rfl)) rfl <| .p (opRem (.t rfl) (.c _) (by omega) (by omega)) rfl <| .p ((opEql (.t rfl) (.c _)).le (VLe.prop (show ((q : Int) % 2 = 1) ↔ ((q % 2 == 1) = true) by rw [beq_iff_eq]; omega))) rfl <| .p (opBuildSlice (enc := encB) [q % 2 == 1] Tryd.underlying40 Tryd.cz4 rfl Tryd.zb4 rfl (.cons (.t rfl) .nil) rfl rfl rfl rfl rfl) rfl <| .n (opAppend (i := 0) (xs := bitsL i a) (ys := [q % 2 == 1]) Tryd.underlying40 Tryd.underlying40 Tryd.cz4 rfl Tryd.zb4 rfl Tryd.by4 (.t rfl) (.t rfl) rfl (by (rw [hbl]; simp only [List.length_cons, List.length_nil]; omega)) (by (rw [hbl]; simp only [List.length_cons, List.length_nil]; omega))) rfl <| fun g17 _ => .p (opAssign (.t rfl)) rfl <| .nil ?_)
      refine EndT.thenN ?_
      refine CodeT.region (.p (opMove (.t rfl)) rfl <| .p (opQuo (.t rfl) (.c _) (by omega) (by omega) (fits_u64 (by omega) (by omega))) rfl <| .p (opAssign (.t rfl)) rfl <| .nil ?_)
      refine EndT.blkN (EndT.thenN ?_)
      refine CodeT.region (.p (opMove (.t rfl)) rfl <| .p (opAddF (.t rfl) (.c _) (fits_i64 (by omega) (by omega))) rfl <| .p (opAssign (.t rfl)) rfl <| .nil ?_)
      refine EndT.round (g17, i + 1) (by show i + 1 ≤ 64; omega) (by (show 64 - (i + 1) < 64 - i; omega)) (by simp only [bitsL_succ, hq]; rfl) ?_
      exact (.get rfl (VLe.of_eq (by simp only [bitsL_succ, hq])) (.get rfl (VLe.int (by (show (i : Int) + 1 = ((i + 1 : Nat) : Int); omega))) (.get rfl (VLe.int (show ((q : Int) / 2 = ((a / 2 ^ (i + 1) : Nat) : Int)) by rw [← hhd]; omega)) ((.keep 19 rfl rfl)))))
    ·
      have hi64 : i = 64 := by omega
      subst hi64
      refine CodeT.shareS (t := 5) (i := 0) rfl rfl ?_
      refine CodeT.exit (EndT.thenX (EndT.thenX (EndT.blkX (EndT.thenN ?_))))
      refine CodeT.seq ?_
      refine CodeT.region (.p (opMove (.t rfl)) rfl <| .p (opAssign (.t rfl)) rfl <| .nil ?_)
      refine EndT.thenN ?_
      refine CodeT.ret (Post.retP rfl rfl ?_)
      exact VLe.refl _

theorem rword_spec {l : List Bool} (hp0 : l.length ≤ 64) : FnP Tryd.prog 13 [sliceV 1 encB l] (intV .u64 (wordN l : Int)) := by
  refine FnE.intro 21 Tryd.func13 rfl rfl rfl fun w0 S0 M => ?_
  refine CodeT.seq ?_
  refine CodeT.region (.p (opAssign (.c _)) rfl <| .nil ?_)
  refine EndT.thenN ?_
  refine CodeT.seq ?_
  refine CodeT.region (.p (opAssign (.c _)) rfl <| .nil ?_)
  refine EndT.thenN ?_
  refine CodeT.seq ?_
  refine CodeT.seq ?_
  refine CodeT.region (.p (opMove (.t rfl)) rfl <| .p (opLen rfl Tryd.underlying40 (.t rfl)) rfl <| .p (opSubF (.t rfl) (.c _) (fits_i64 (by omega) (by omega))) rfl <| .p (opAssign (.t rfl)) rfl <| .nil ?_)
  refine EndT.thenN ?_
  refine CodeT.block ?_
  refine CodeT.loopO (σ := Nat) (fun _ => []) (fun k => [(3, intV .u64 (wordN (l.drop k) : Int)), (4, iV ((k : Int) - 1))]) (fun k => k ≤ l.length) (fun k => k) l.length (Nat.le_refl _) rfl ?_ ?_
  · exact (.get rfl (VLe.int (by rw [List.drop_length]; rfl)) (.get rfl (VLe.refl _) (.refl _ _)))
  · rintro k hk
    refine CodeT.seq ?_
    refine CodeT.seq ?_
    refine CodeT.region (.p (opMove (.t rfl)) rfl <| .p (opGeq (.t rfl) (.c _)) rfl <| .nil ?_)
    refine EndT.thenN ?_
    refine CodeT.cond (.t rfl) (fun c0 => ?_) (fun c0 => ?_)
    ·
      obtain ⟨j, rfl⟩ : ∃ j, k = j + 1 := ⟨k - 1, by omega⟩
      have hjl : j < l.length := by omega
      have hwd := wordN_drop hjl
      have hwl : wordN (l.drop j) < 2 ^ (64 - j) := wordN_drop_lt hp0 (by omega)
      have hw2 : (2 : Nat) ^ (64 - j) ≤ 2 ^ 64 := Nat.pow_le_pow_right (by decide) (by omega)
      have hw3 : 2 * wordN (l.drop (j + 1)) + (if l[j] = true then 1 else 0) < 18446744073709551616 := by (rw [← hwd]; omega)
      have hgx : l[j]? = some l[j] := List.getElem?_eq_getElem hjl
      refine CodeT.skip (EndT.thenN ?_)
      refine CodeT.seq ?_
      refine CodeT.block ?_
      refine CodeT.seq ?_
      refine CodeT.region (.p (opMove (.t rfl)) rfl <| .p (opMulF (.c _) (.t rfl) (fits_u64 (by omega) (by omega))) rfl <| .p (opAssign (.t rfl)) rfl <| .nil ?_)
      refine EndT.thenN ?_
      refine CodeT.seq ?_
      refine CodeT.region (.p (opMove (.t rfl)) rfl <| .p (opMove (.t rfl)) rfl <| .p (opIndexAddr (j := j) Tryd.underlying40 Tryd.cz4 rfl (.t rfl) (.t rfl) (by omega) hgx) rfl <| .p (opLoad Tryd.ag4 (.t rfl)) rfl <| .nil ?_)
      refine EndT.thenN ?_
      refine CodeT.cond (.t rfl) (fun c1 => ?_) (fun c1 => ?_)
      ·
        rw [if_pos c1] at hw3
        refine CodeT.region (.p (opMove (.t rfl)) rfl <| .p (opAddF (.t rfl) (.c _) (fits_u64 (by omega) (by omega))) rfl <| .p (opAssign (.t rfl)) rfl <| .nil ?_)
        refine EndT.blkN (EndT.thenN ?_)
        refine CodeT.region (.p (opMove (.t rfl)) rfl <| .p (opSubF (.t rfl) (.c _) (fits_i64 (by omega) (by omega))) rfl <| .p (opAssign (.t rfl)) rfl <| .nil ?_)
        refine EndT.round j (by omega) (by omega) rfl ?_
        exact (.get rfl (VLe.int (by rw [hwd]; simp [c1])) (.get rfl (VLe.int (show (((j + 1 : Nat) : Int) - 1 - 1 = (j : Int) - 1) by omega)) ((.keep 17 rfl rfl))))
      ·
        refine CodeT.skip (EndT.blkN (EndT.thenN ?_))
        refine CodeT.region (.p (opMove (.t rfl)) rfl <| .p (opSubF (.t rfl) (.c _) (fits_i64 (by omega) (by omega))) rfl <| .p (opAssign (.t rfl)) rfl <| .nil ?_)
        refine EndT.round j (by omega) (by omega) rfl ?_
        exact (.get rfl (VLe.int (by rw [hwd]; simp [c1])) (.get rfl (VLe.int (show (((j + 1 : Nat) : Int) - 1 - 1 = (j : Int) - 1) by omega)) ((.keep 14 rfl rfl))))
    ·
      have hk0 : k = 0 := by omega
      subst hk0
      refine CodeT.exit (EndT.thenX (EndT.thenX (EndT.blkX (EndT.thenN ?_))))
      refine CodeT.seq ?_
      refine CodeT.region (.p (opMove (.t rfl)) rfl <| .p (opAssign (.t rfl)) rfl <| .nil ?_)
      refine EndT.thenN ?_
      refine CodeT.ret (Post.retP rfl rfl ?_)
      exact VLe.refl _

theorem rdigits_spec {a : Nat} (hp0 : a < 18446744073709551616) : FnP Tryd.prog 14 [intV .u64 (a : Int), intV .u64 10] (strV (Lib.decDigits a)) := by
  refine FnE.intro 26 Tryd.func14 rfl rfl rfl fun w0 S0 M => ?_
  refine CodeT.seq ?_
  refine CodeT.region (.p (opAssign (.s [] rfl rfl)) rfl <| .nil ?_)
  refine EndT.thenN ?_
  refine CodeT.seq ?_
  refine CodeT.region (.p (opAssign (.s [] rfl rfl)) rfl <| .nil ?_)
  refine EndT.thenN ?_
  refine CodeT.seq ?_
  refine CodeT.block ?_
  refine CodeT.loopO (σ := Nat × List UInt8) (fun _ => []) (fun g => [(0, intV .u64 (g.1 : Int)), (5, strV g.2)]) (fun g => DigI a g.1 g.2) (fun g => g.1 + (if g.2 = [] then 1 else 0)) (a, []) (.inl ⟨rfl, rfl⟩) rfl ?_ ?_
  · exact (.get rfl (VLe.refl _) (.get rfl (VLe.refl _) (.refl _ _)))
  · rintro ⟨x, s⟩ hd
    simp only at hd ⊢
    have hdn : s.length ≤ 20 ∧ x < 18446744073709551616 := by (rcases hd.len hp0 with h | h <;> omega)
    refine CodeT.seq ?_
    refine CodeT.seq ?_
    refine CodeT.region (.p (opMove (.t rfl)) rfl <| .p (opEqlS (.t rfl) (.s [] rfl rfl)) rfl <| .p (opMove (.t rfl)) rfl <| .g (OpG.gF rfl rfl rfl rfl (fun hg => opMove (.t rfl))) rfl rfl <| .g (OpG.gF rfl rfl rfl rfl (fun hg => opGtr (.when (.t rfl) hg) (.c _))) rfl rfl <| .p (opOr (.t rfl) (.t rfl)) rfl <| .nil ?_)
    refine EndT.thenN ?_
    refine CodeT.cond (.t rfl) (fun c0 => ?_) (fun c0 => ?_)
    ·
      have hcx : s = [] ∨ 0 < x := by (rcases c0 with h | h; exact .inl h; exact .inr (by omega))
      refine CodeT.skip (EndT.thenN ?_)
      refine CodeT.block ?_
      refine CodeT.seq ?_
      refine CodeT.draw 9 2 Tryd.mixed (by kernel_rfl) (.p (opMove (.t rfl)) <| .p (opMove (.t rfl)) <| .p (opRem (.t rfl) (.t rfl) (by omega) (by omega)) <| .p (opMove (.t rfl)) <| .p (opMove (.t rfl)) <| .p (opRem (.t rfl) (.t rfl) (by omega) (by omega)) <| .p (opAddF (.t rfl) (.c _) (fits_u64 (by omega) (by omega))) <| .p ((opSliceSLH (a := x % 10) (h := x % 10 + 1) Tryd.underlying9 (.s [48, 49, 50, 51, 52, 53, 54, 55, 56, 57, 97, 98, 99, 100, 101, 102] rfl rfl) (.t rfl) (.t rfl) (by omega) (by omega) (by omega) (by simp only [List.length_cons, List.length_nil]; omega)).le (VLe.of_eq (congrArg strV (hex_digit (Nat.mod_lt x (by decide)))))) <| .p (opMove (.t rfl)) <| .nil) (.p (opCat (.t rfl) (.t rfl) (by (simp only [List.length_cons, List.length_nil]; omega))) rfl <| .p (opAssign (.t rfl)) rfl <| .nil ?_)
      refine EndT.thenN ?_
      refine CodeT.region (.p (opMove (.t rfl)) rfl <| .p (opMove (.t rfl)) rfl <| .p (opQuo (.t rfl) (.t rfl) (by omega) (by omega) (fits_u64 (by omega) (by omega))) rfl <| .p (opAssign (.t rfl)) rfl <| .nil ?_)
      refine EndT.blkN (EndT.round (x / 10, [UInt8.ofNat (48 + x % 10)] ++ s) (hd.next hcx) (by (show x / 10 + (if [UInt8.ofNat (48 + x % 10)] ++ s = [] then 1 else 0) < x + (if s = [] then 1 else 0); rw [if_neg (by simp)]; rcases hcx with h | h; (rw [if_pos h]; omega); (split <;> omega))) rfl ?_)
      exact (.get rfl (VLe.int (show ((x : Int) / 10 = ((x / 10 : Nat) : Int)) by omega)) (.get rfl (VLe.refl _) ((.keep 23 rfl rfl))))
    ·
      have hcx : ¬ (s = [] ∨ 0 < x) := fun h => c0 (by rcases h with h | h; exact .inl h; exact .inr (by omega))
      have hdd := hd.done hcx
      refine CodeT.exit (EndT.thenX (EndT.thenX (EndT.blkX (EndT.thenN ?_))))
      refine CodeT.seq ?_
      refine CodeT.region (.p (opMove (.t rfl)) rfl <| .p (opAssign (.t rfl)) rfl <| .nil ?_)
      refine EndT.thenN ?_
      refine CodeT.ret (Post.retP rfl rfl ?_)
      exact VLe.of_eq (congrArg strV hdd)

theorem rprint_spec {a : Nat} (hp0 : a < 18446744073709551616) : FnP Tryd.prog 6 [iV 64, intV .u64 (a : Int)] (strV (printL a)) := by
  refine FnE.intro 34 Tryd.func6 rfl rfl rfl fun w0 S0 M => ?_
  refine CodeT.seq ?_
  refine CodeT.region (.p (opAssign (.s [] rfl rfl)) rfl <| .nil ?_)
  refine EndT.thenN ?_
  refine CodeT.seq ?_
  refine CodeT.region (.p (opAssign (.c _)) rfl <| .nil ?_)
  refine EndT.thenN ?_
  refine CodeT.seq ?_
  refine CodeT.seq ?_
  refine CodeT.region (.p (opMove (.t rfl)) rfl <| .p (opEql (.t rfl) (.c _)) rfl <| .nil ?_)
  refine EndT.thenN ?_
  refine CodeT.cond (.t rfl) (fun c0 => ?_) (fun c0 => ?_)
  ·
    exact absurd c0 (by decide)
  ·
    refine CodeT.skip (EndT.thenN ?_)
    refine CodeT.seq ?_
    refine CodeT.region (.p (opMove (.t rfl)) rfl <| .p (opMove (.t rfl)) rfl <| .p (opCall (rlist_spec hp0) Tryd.cb12 (.cons (.t rfl) (.cons (.t rfl) .nil))) rfl <| .p (opAssign (.t rfl)) rfl <| .nil ?_)
    refine EndT.thenN ?_
    refine CodeT.seq ?_
    refine CodeT.region (.p (opMove (.t rfl)) rfl <| .p ((opCall (rword_spec (l := bitsL 64 a) (by rw [bitsL_len]; exact Nat.le_refl _)) Tryd.cb13 (.cons (.t rfl) .nil)).le (VLe.int (by rw [wordN_bits, Nat.mod_eq_of_lt (by omega)]))) rfl <| .p (opAssign (.t rfl)) rfl <| .nil ?_)
    refine EndT.thenN ?_
    refine CodeT.seq ?_
    refine CodeT.seq ?_
    refine CodeT.region (.p (opMove (.t rfl)) rfl <| .p (opMove (.t rfl)) rfl <| .p (opSubF (.t rfl) (.c _) (fits_i64 (by omega) (by omega))) rfl <| .p (opIndexAddr (j := 63) Tryd.underlying40 Tryd.cz4 rfl (.t rfl) (.t rfl) rfl (show (bitsL 64 a)[63]? = some ((a / 2 ^ 63) % 2 == 1) from by simp [bitsL])) rfl <| .p (opLoad Tryd.ag4 (.t rfl)) rfl <| .p (opNot (.t rfl)) rfl <| .nil ?_)
    refine EndT.thenN ?_
    refine CodeT.cond (.t rfl) (fun c1 => ?_) (fun c1 => ?_)
    ·
      have ha : a < 9223372036854775808 := by (simp only [beq_iff_eq] at c1; omega)
      refine CodeT.seq ?_
      refine CodeT.region (.p (opMove (.t rfl)) rfl <| .p (opCall (rdigits_spec (a := a) hp0) Tryd.cb14 (.cons (.t rfl) (.cons (.c _) .nil))) rfl <| .p (opAssign (.t rfl)) rfl <| .nil ?_)
      refine EndT.thenN ?_
      refine CodeT.ret (EndT.thenR (Post.retP rfl rfl ?_))
      exact VLe.of_eq (by unfold printL; rw [if_pos ha])
    ·
      have ha : ¬ a < 9223372036854775808 := by (simp only [beq_iff_eq, Classical.not_not] at c1; omega)
      have hdl := dec_len 19 (18446744073709551616 - a) (by omega)
      refine CodeT.skip (EndT.thenN ?_)
      refine CodeT.seq ?_
      refine CodeT.seq ?_
      refine CodeT.region (.p (opMove (.t rfl)) rfl <| .p (opEql (.t rfl) (.c _)) rfl <| .nil ?_)
      refine EndT.thenN ?_
      refine CodeT.cond (.t rfl) (fun c2 => ?_) (fun c2 => ?_)
      ·
        exact absurd c2 (by decide)
      ·
        refine CodeT.skip (EndT.thenN ?_)
        refine CodeT.seq ?_
        refine CodeT.region (.p (opMove (.t rfl)) rfl <| .p (opSubF (.c _) (.t rfl) (fits_u64 (by omega) (by omega))) rfl <| .p ((opAddF (.t rfl) (.c _) (fits_u64 (by omega) (by omega))).le (VLe.int (show _ = ((18446744073709551616 - a : Nat) : Int) by omega))) rfl <| .p (opCall (rdigits_spec (a := 18446744073709551616 - a) (by omega)) Tryd.cb14 (.cons (.t rfl) (.cons (.c _) .nil))) rfl <| .p (opCat (.s [45] rfl rfl) (.t rfl) (by (simp only [List.length_cons, List.length_nil]; omega))) rfl <| .p (opAssign (.t rfl)) rfl <| .nil ?_)
        refine EndT.thenN ?_
        refine CodeT.ret (Post.retP rfl rfl ?_)
        exact VLe.of_eq (by unfold printL; rw [if_neg ha]; rfl)

end Go.Proofs.YtnjfnjgjeibaiaaDoor
