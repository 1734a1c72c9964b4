/-
  What the statement's proof leans on, several texts in one (packed by a program).
-/
import Derived.Test.YtpahnbgfmhcndaaGreatDoorBMP
set_option linter.all false
set_option maxRecDepth 1000000
set_option maxHeartbeats 4000000
section
namespace Go.Proofs.YtpahnbgfmhcndaaGreatDoor
open Go.Hl Go.RowKit
variable {x : InstrD}
theorem dencode_spec (hp0 : InsOk x) (hp1 : rightI x) : FnE Tryz.prog 80 [aggV (encInstr x)] [] (γ := List UInt8) (fun l => l.length = lenI x) (fun _ => []) (fun l => sliceV 1 encU8 l) := by
 refine In 129 Tryz.func80 fun _ _ _ => ?_
 obtain ⟨r1, r2, r3, r4, r5, r6⟩ := id hp1
 have hL100 : x.L.length ≤ 100 := r6.elim (fun h => by rw [h]; simp) (fun h => h.2)
 have hA0 := hp0.A0
 have hA64 := hp0.A64
 have hB0 := hp0.B0
 have hB64 := hp0.B64
 have ha0 := hp0.a0
 have ha31 := hp0.a31
 have hfb := form_bound x.Code
 have hci := code_in r1
 have h65 : x.Code = 65 → x.A ≤ 4294967295 := fun h65 => Classical.byContradiction fun h9 => r2 (.inr (.inl ⟨h65, h9⟩))
 have hlA : lenUI x.A ≤ 10 := lenU_64 (by omega)
 have hlB : lenUI x.B ≤ 10 := lenU_64 (by omega)
 have hll := lenU_64 (n := x.L.length) (by omega)
 have hla : lenUI x.Align ≤ 10 := lenU_64 (by omega)
 have hla2 : lenUI (x.Align + 64) ≤ 10 := lenU_64 (by omega)
 refine Z10 ?_
 refine .p ((opConv FU.out FU.out (.t rfl)).le (VLe.trans (VLe.int (show _ = (((x.Code % 256).toNat : Nat) : Int) by rw [u8_wr])) (u8_nt (by omega)))) rfl ?_
 refine .n (opBuildSliceO encU8 [UInt8.ofNat (x.Code % 256).toNat] FU.out FC.out rfl FZ.out rfl (.cons (.t rfl) .nil) rfl rfl rfl rfl rfl) rfl fun g9 _ => ?_
 refine Z3 ?_
 refine .cut (σ := SB × List UInt8) (fun z => [sliceH z.1 1 encU8 z.2]) (fun z => [(3, exactV (sval z.1 z.2.length))]) (fun z => z.2.length = headN x ∧ headN x ≤ 11) ?_ ?_
 ·
  refine Z7 ?_
  refine Cd (fun c0 => ?_) fun c0 => ?_
  ·
   have hhN : headN x = 1 + lenU (x.Code - 64512).toNat := if_pos (by omega)
   have hhl : lenU (x.Code - 64512).toNat ≤ 10 := lenU_64 (by omega)
   refine Z1 ?_
   refine .n (opBuildSliceO encU8 [252] FU.out FC.out rfl FZ.out rfl (.cons (.c _) .nil) rfl rfl rfl rfl rfl) rfl fun g13 _ => ?_
   refine Z4 ?_
   refine .n (opCallE (rest := [_, _]) (dput_spec (n := (x.Code - 64512).toNat) (by omega)) FB.out (.cons (.le (.t rfl) (VLe.int (show x.Code - 64512 = (((x.Code - 64512).toNat : Nat) : Int) by omega))) .nil) (Perm.idx [0, 1] rfl rfl)) rfl fun g18 h18 => ?_
   refine .n (opAppend (i := 0) FU.out FU.out FC.out rfl FZ.out rfl FY.out (.t rfl) (.t rfl) rfl (by simp only [List.length_append, List.length_cons, List.length_nil, *]; (try unfold lenUI at *); omega) (by simp only [List.length_append, List.length_cons, List.length_nil, *]; (try unfold lenUI at *); omega)) rfl fun g19 _ => ?_
   refine Z2 ?_
   refine .own (OLe.sel [0] [1] rfl rfl) (EndT.meet (g19, [252] ++ g18) ⟨by (show ([252] ++ g18).length = _; rw [List.length_append, h18, hhN]; rfl), by omega⟩ rfl (.get rfl (VLe.refl _) (.keep 11 rfl rfl)))
  have hhN : headN x = 1 := if_neg (by omega)
  refine Z1 ?_
  refine .meet (g9, [UInt8.ofNat (x.Code % 256).toNat]) ⟨by rw [hhN]; rfl, by omega⟩ rfl (.get rfl (VLe.refl _) (.keep 3 rfl rfl))
 intro hd ⟨hhd, hh11⟩
 refine .cut (σ := SB × List UInt8) (fun z => [sliceH z.1 1 encU8 z.2]) (fun z => [(3, exactV (sval z.1 z.2.length))]) (fun z => z.2.length = lenI x) ?_ ?_
 ·
  refine Z4 ?_
  refine .p (cA (h := rform_spec)) rfl ?_
  refine Z9 ?_
  refine Cd (fun c1 => ?_) fun c1 => ?_
  ·
   refine Z4 ?_
   refine .p ((opConv FU.out FU.out (.t rfl)).le (VLe.trans (VLe.int (show _ = (((x.A % 256).toNat : Nat) : Int) by rw [u8_wr])) (u8_nt (by omega)))) rfl ?_
   refine .p (cB encU8 [UInt8.ofNat (x.A % 256).toNat]) rfl ?_
   refine .n (opAppend (i := 0) FU.out FU.out FC.out rfl FZ.out rfl FY.out (.t rfl) (.t rfl) rfl (by simp only [List.length_append, List.length_cons, List.length_nil, *]; (try unfold lenUI at *); omega) (by simp only [List.length_append, List.length_cons, List.length_nil, *]; (try unfold lenUI at *); omega)) rfl fun g30 _ => ?_
   refine Z3 ?_
   refine .meet (g30, hd.2 ++ [UInt8.ofNat (x.A % 256).toNat]) (by (show ((g30, hd.2 ++ [UInt8.ofNat (x.A % 256).toNat])).2.length = lenI x; simp only [List.length_append]; rw [hhd]; rw [lenI_eq]; rw [if_pos c1]; rfl)) rfl (.get rfl (VLe.refl _) (.keep 12 rfl rfl))
  refine .cut (σ := Unit) (fun _ => [sliceH hd.1 1 encU8 hd.2]) (fun _ => [(31, propV (formR x.Code = 2 ∨ formR x.Code = 4 ∨ formR x.Code = 6 ∨ formR x.Code = 7 ∨ formR x.Code = 9))]) (fun _ => True) ?_ ?_
  ·
   refine Z6 ?_
   refine Cd (fun c2 => ?_) fun c2 => ?_
   ·
    refine Z1 ?_
    refine .meet () trivial rfl (.get rfl (VLe.prop (by omega)) (.keep 2 rfl rfl))
   refine Z6 ?_
   refine Cd (fun c3 => ?_) fun c3 => ?_
   ·
    refine Z1 ?_
    refine .meet () trivial rfl (.get rfl (VLe.prop (by omega)) (.keep 4 rfl rfl))
   refine Z6 ?_
   refine Cd (fun c4 => ?_) fun c4 => ?_
   ·
    refine Z1 ?_
    refine .meet () trivial rfl (.get rfl (VLe.prop (by omega)) (.keep 6 rfl rfl))
   refine Z6 ?_
   refine Cd (fun c5 => ?_) fun c5 => ?_
   ·
    refine Z1 ?_
    refine .meet () trivial rfl (.get rfl (VLe.prop (by omega)) (.keep 8 rfl rfl))
   refine Z4 ?_
   refine .meet () trivial rfl (.get rfl (VLe.prop (by omega)) (.keep 10 rfl rfl))
  intro _ _
  refine Cd (fun c6 => ?_) fun c6 => ?_
  ·
   refine Z4 ?_
   refine .n (opCallE (rest := [_]) (dput_spec (n := x.A.toNat) (by omega)) FB.out (.cons (.le (.t rfl) (VLe.int (show x.A = (((x.A).toNat : Nat) : Int) by omega))) .nil) (Perm.idx [0] rfl rfl)) rfl fun g40 h40 => ?_
   refine .n (opAppend (i := 0) FU.out FU.out FC.out rfl FZ.out rfl FY.out (.t rfl) (.t rfl) rfl (by simp only [List.length_append, List.length_cons, List.length_nil, *]; (try unfold lenUI at *); omega) (by simp only [List.length_append, List.length_cons, List.length_nil, *]; (try unfold lenUI at *); omega)) rfl fun g41 _ => ?_
   refine Z3 ?_
   refine .meet (g41, hd.2 ++ g40) (by (show ((g41, hd.2 ++ g40)).2.length = lenI x; simp only [List.length_append]; rw [hhd, h40]; rw [lenI_eq]; rw [if_neg c1, if_pos c6]; rfl)) rfl (.get rfl (VLe.refl _) (.keep 12 rfl rfl))
  refine Z6 ?_
  refine Cd (fun c7 => ?_) fun c7 => ?_
  ·
   refine Z7 ?_
   refine .n (cE (h := dput_spec (n := x.L.length) (by omega))) rfl fun g49 h49 => ?_
   refine .n (opAppend (i := 0) FU.out FU.out FC.out rfl FZ.out rfl FY.out (.t rfl) (.t rfl) rfl (by simp only [List.length_append, List.length_cons, List.length_nil, *]; (try unfold lenUI at *); omega) (by simp only [List.length_append, List.length_cons, List.length_nil, *]; (try unfold lenUI at *); omega)) rfl fun g50 _ => ?_
   refine Z10 ?_
   refine .loopO (σ := Nat × SB × List UInt8) (fun z => [sliceH z.2.1 1 encU8 z.2.2]) (fun z => [(3, exactV (sval z.2.1 z.2.2.length)), (4, intV .i64 (z.1 : Int))]) (fun z => z.1 ≤ x.L.length ∧ z.2.2.length = headN x + lenU x.L.length + sumU (x.L.take z.1)) (fun z => x.L.length - z.1) (0, g50, hd.2 ++ g49) ⟨Nat.zero_le _, by (show (hd.2 ++ g49).length = _; rw [List.length_append, hhd, h49]; simp [sumU])⟩ rfl ?_ ?_
   · exact (.get rfl (VLe.refl _) (.get rfl (VLe.refl _) (.refl _ _)))
   rintro ⟨j, g1, ys⟩ ⟨hj, hys⟩
   simp only at hj hys ⊢
   have hsu := sumU_le (x.L.take j) (fun n hn => ⟨hp0.L0 n (List.mem_of_mem_take hn), by have h9 : n ≤ 4294967295 := r5 n (List.mem_of_mem_take hn); omega⟩)
   rw [List.length_take] at hsu
   refine Z10 ?_
   refine Cd (fun c8 => ?_) fun c8 => ?_
   ·
    obtain ⟨y, hy⟩ := getElem?_lt (xs := x.L) (k := j) (by omega)
    have hy0 := hp0.L0 y (List.mem_of_getElem? hy)
    have hy1 : y ≤ 4294967295 := r5 y (List.mem_of_getElem? hy)
    have hyl : lenU y.toNat ≤ 10 := lenU_64 (by omega)
    refine Z9 ?_
    refine .p (cI j (h := hy)) rfl ?_
    refine Z1 ?_
    refine .n (opCallE (rest := [_]) (dput_spec (n := y.toNat) (by omega)) FB.out (.cons (.le (.t rfl) (VLe.int (show y = (((y).toNat : Nat) : Int) by omega))) .nil) (Perm.idx [0] rfl rfl)) rfl fun g64 h64 => ?_
    refine .n (opAppend (i := 0) FU.out FU.out FC.out rfl FZ.out rfl FY.out (.t rfl) (.t rfl) rfl (by simp only [List.length_append, List.length_cons, List.length_nil, *]; (try unfold lenUI at *); omega) (by simp only [List.length_append, List.length_cons, List.length_nil, *]; (try unfold lenUI at *); omega)) rfl fun g65 _ => ?_
    refine Z9 ?_
    refine .round (j + 1, g65, ys ++ g64) ⟨by show j + 1 ≤ _; omega, by (show (ys ++ g64).length = _; rw [List.length_append, h64, hys, ← take_snoc hy, sumU_snoc]; unfold lenUI; omega)⟩ (by show x.L.length - (j + 1) < x.L.length - j; omega) rfl ?_
    exact (.get rfl (VLe.refl _) (.get rfl (VLe.int (by show (_ : Int) = ((j + 1 : Nat) : Int); omega)) ((.keep 19 rfl rfl))))
   have hjl : x.L.take j = x.L := List.take_of_length_le (by omega)
   rw [hjl] at hys hsu
   refine Z9 ?_
   refine .n (opCallE (rest := [_]) (dput_spec (n := x.A.toNat) (by omega)) FB.out (.cons (.le (.t rfl) (VLe.int (show x.A = (((x.A).toNat : Nat) : Int) by omega))) .nil) (Perm.idx [0] rfl rfl)) rfl fun g69 h69 => ?_
   refine .n (opAppend (i := 0) FU.out FU.out FC.out rfl FZ.out rfl FY.out (.t rfl) (.t rfl) rfl (by simp only [List.length_append, List.length_cons, List.length_nil, *]; (try unfold lenUI at *); omega) (by simp only [List.length_append, List.length_cons, List.length_nil, *]; (try unfold lenUI at *); omega)) rfl fun g70 _ => ?_
   refine Z3 ?_
   refine .meet (g70, ys ++ g69) (by (show ((g70, ys ++ g69)).2.length = lenI x; simp only [List.length_append]; rw [hys, h69]; rw [lenI_eq]; rw [if_neg c1, if_neg c6, if_pos c7]; unfold lenUI; omega)) rfl (.get rfl (VLe.refl _) (.keep 30 rfl rfl))
  refine .cut (σ := Unit) (fun _ => [sliceH hd.1 1 encU8 hd.2]) (fun _ => [(71, propV (formR x.Code = 5 ∨ formR x.Code = 10))]) (fun _ => True) ?_ ?_
  ·
   refine Z6 ?_
   refine Cd (fun c9 => ?_) fun c9 => ?_
   ·
    refine Z1 ?_
    refine .meet () trivial rfl (.get rfl (VLe.prop (by omega)) (.keep 2 rfl rfl))
   refine Z4 ?_
   refine .meet () trivial rfl (.get rfl (VLe.prop (by omega)) (.keep 4 rfl rfl))
  intro _ _
  refine Cd (fun c10 => ?_) fun c10 => ?_
  ·
   refine .stagedK [(0, 0), (1, 0), (2, 0), (5, 0), (6, 0), (3, 2), (4, 2)] 7 3 FM.out (by kernel_rfl) (k := ?_)
   refine Z5 ?_
   refine .e rfl (opCallE (rest := [_]) (dput_spec (n := x.A.toNat) (by omega)) FB.out (.cons (.le (.t rfl) (VLe.int (show x.A = (((x.A).toNat : Nat) : Int) by omega))) .nil) (Perm.idx [0] rfl rfl)) fun g77 h77 => ?_
   refine .e rfl (opAppend (i := 0) FU.out FU.out FC.out rfl FZ.out rfl FY.out (.t rfl) (.t rfl) rfl (by simp only [List.length_append, List.length_cons, List.length_nil, *]; (try unfold lenUI at *); omega) (by simp only [List.length_append, List.length_cons, List.length_nil, *]; (try unfold lenUI at *); omega)) fun g78 _ => ?_
   refine .fin ?_
   refine .n (opCallE (rest := [_]) (dput_spec (n := x.B.toNat) (by omega)) FB.out (.cons (.le (.t rfl) (VLe.int (show x.B = (((x.B).toNat : Nat) : Int) by omega))) .nil) (Perm.idx [0] rfl rfl)) rfl fun g81 h81 => ?_
   refine .n (opAppend (i := 0) FU.out FU.out FC.out rfl FZ.out rfl FY.out (.t rfl) (.t rfl) rfl (by simp only [List.length_append, List.length_cons, List.length_nil, *]; (try unfold lenUI at *); omega) (by simp only [List.length_append, List.length_cons, List.length_nil, *]; (try unfold lenUI at *); omega)) rfl fun g82 _ => ?_
   refine Z3 ?_
   refine .meet (g82, (hd.2 ++ g77) ++ g81) (by (show ((g82, (hd.2 ++ g77) ++ g81)).2.length = lenI x; simp only [List.length_append]; rw [hhd, h77, h81]; rw [lenI_eq]; rw [if_neg c1, if_neg c6, if_neg c7, if_pos c10]; unfold lenUI; omega)) rfl (.get rfl (VLe.refl _) (.keep 19 rfl rfl))
  refine Z6 ?_
  refine Cd (fun c11 => ?_) fun c11 => ?_
  ·
   refine .cut (σ := SB × List UInt8) (fun z => [sliceH z.1 1 encU8 z.2]) (fun z => [(3, exactV (sval z.1 z.2.length))]) (fun z => z.2.length = headN x + (if x.A = 0 then lenUI x.Align else lenUI (x.Align + 64) + lenUI x.A)) ?_ ?_
   ·
    refine Z7 ?_
    refine Cd (fun c12 => ?_) fun c12 => ?_
    ·
     refine Z5 ?_
     refine .n (opCallE (rest := [_]) (dput_spec (n := x.Align.toNat) (by omega)) FB.out (.cons (.le (.t rfl) (VLe.int (show x.Align = (((x.Align).toNat : Nat) : Int) by omega))) .nil) (Perm.idx [0] rfl rfl)) rfl fun g92 h92 => ?_
     refine .n (opAppend (i := 0) FU.out FU.out FC.out rfl FZ.out rfl FY.out (.t rfl) (.t rfl) rfl (by simp only [List.length_append, List.length_cons, List.length_nil, *]; (try unfold lenUI at *); omega) (by simp only [List.length_append, List.length_cons, List.length_nil, *]; (try unfold lenUI at *); omega)) rfl fun g93 _ => ?_
     refine Z2 ?_
     refine .meet (g93, hd.2 ++ g92) (by (show (hd.2 ++ g92).length = _; rw [if_pos c12, List.length_append, hhd, h92]; rfl)) rfl (.get rfl (VLe.refl _) (.keep 10 rfl rfl))
    refine .stagedK [(0, 0), (1, 0), (2, 0), (3, 0), (4, 0), (7, 0), (8, 0), (5, 2), (6, 2)] 9 3 FM.out (by kernel_rfl) (k := ?_)
    refine Z7 ?_
    refine .e rfl (opCallE (rest := [_]) (dput_spec (n := (x.Align + 64).toNat) (by omega)) FB.out (.cons (.le (.t rfl) (VLe.int (show x.Align + 64 = (((x.Align + 64).toNat : Nat) : Int) by omega))) .nil) (Perm.idx [0] rfl rfl)) fun g99 h99 => ?_
    refine .e rfl (opAppend (i := 0) FU.out FU.out FC.out rfl FZ.out rfl FY.out (.t rfl) (.t rfl) rfl (by simp only [List.length_append, List.length_cons, List.length_nil, *]; (try unfold lenUI at *); omega) (by simp only [List.length_append, List.length_cons, List.length_nil, *]; (try unfold lenUI at *); omega)) fun g100 _ => ?_
    refine .fin ?_
    refine .n (opCallE (rest := [_]) (dput_spec (n := x.A.toNat) (by omega)) FB.out (.cons (.le (.t rfl) (VLe.int (show x.A = (((x.A).toNat : Nat) : Int) by omega))) .nil) (Perm.idx [0] rfl rfl)) rfl fun g103 h103 => ?_
    refine .n (opAppend (i := 0) FU.out FU.out FC.out rfl FZ.out rfl FY.out (.t rfl) (.t rfl) rfl (by simp only [List.length_append, List.length_cons, List.length_nil, *]; (try unfold lenUI at *); omega) (by simp only [List.length_append, List.length_cons, List.length_nil, *]; (try unfold lenUI at *); omega)) rfl fun g104 _ => ?_
    refine Z2 ?_
    refine .meet (g104, (hd.2 ++ g99) ++ g103) (by (show ((hd.2 ++ g99) ++ g103).length = _; rw [if_neg c12, List.length_append, List.length_append, hhd, h99, h103]; unfold lenUI; omega)) rfl (.get rfl (VLe.refl _) (.keep 15 rfl rfl))
   intro mm hmm
   have hm30 : mm.2.length ≤ 40 := by rw [hmm]; split <;> omega
   refine Z4 ?_
   refine .n (opCallE (rest := [_]) (dput_spec (n := x.B.toNat) (by omega)) FB.out (.cons (.le (.t rfl) (VLe.int (show x.B = (((x.B).toNat : Nat) : Int) by omega))) .nil) (Perm.idx [0] rfl rfl)) rfl fun g108 h108 => ?_
   refine .n (opAppend (i := 0) FU.out FU.out FC.out rfl FZ.out rfl FY.out (.t rfl) (.t rfl) rfl (by simp only [List.length_append, List.length_cons, List.length_nil, *]; (try unfold lenUI at *); omega) (by simp only [List.length_append, List.length_cons, List.length_nil, *]; (try unfold lenUI at *); omega)) rfl fun g109 _ => ?_
   refine Z3 ?_
   refine .meet (g109, mm.2 ++ g108) (by (show ((g109, mm.2 ++ g108)).2.length = lenI x; simp only [List.length_append]; rw [hmm, h108]; rw [lenI_eq]; rw [if_neg c1, if_neg c6, if_neg c7, if_neg c10, if_pos c11]; unfold memN lenUI; omega)) rfl (.get rfl (VLe.refl _) (.keep 18 rfl rfl))
  refine Z6 ?_
  refine Cd (fun c13 => ?_) fun c13 => ?_
  ·
   refine Z4 ?_
   refine .p ((opConv FU.out FU.out (.t rfl)).le (VLe.int (wrap_64 hA0 hA64))) rfl ?_
   refine Z3 ?_
   refine .cut (σ := Unit) (fun _ => [sliceH hd.1 1 encU8 hd.2]) (fun _ => [(5, intV .i64 (wordV x))]) (fun _ => True) ?_ ?_
   ·
    refine Z11 ?_
    refine Cd (fun c14 => ?_) fun c14 => ?_
    ·
     refine Z2 ?_
     refine .p (opSubF (.t rfl) (.c _) (fits_i64 (by split <;> omega) (by split <;> omega))) rfl ?_
     refine Z2 ?_
     refine .meet () trivial rfl (.get rfl (VLe.int (by (have h8 := h65 c14.1; have h7 := c14.2; rw [if_pos (by omega)] at h7; unfold wordV; rw [if_pos c14.1, if_pos (by omega), if_neg (by omega)]))) (.keep 10 rfl rfl))
    refine Z1 ?_
    refine .meet () trivial rfl (.get rfl (VLe.int (by (unfold wordV; by_cases h9 : x.Code = 65; (have h8 := h65 h9; rw [if_pos h9, if_pos (by omega), if_pos (Classical.byContradiction fun h => c14 ⟨h9, by rw [if_pos (by omega)]; omega⟩)]); rw [if_neg h9]))) (.keep 7 rfl rfl))
   intro _ _
   have hwv : -9223372036854775808 ≤ wordV x ∧ wordV x ≤ 9223372036854775807 := by unfold wordV; split <;> (try have := h65 (by assumption)) <;> split <;> omega
   have hlw := lenS_64 hwv.1 (by omega : wordV x < 9223372036854775808)
   refine Z3 ?_
   refine .n (cE (h := dputS_spec (n := wordV x) hwv.1 hwv.2)) rfl fun g126 h126 => ?_
   refine .n (opAppend (i := 0) FU.out FU.out FC.out rfl FZ.out rfl FY.out (.t rfl) (.t rfl) rfl (by simp only [List.length_append, List.length_cons, List.length_nil, *]; (try unfold lenUI at *); omega) (by simp only [List.length_append, List.length_cons, List.length_nil, *]; (try unfold lenUI at *); omega)) rfl fun g127 _ => ?_
   refine Z3 ?_
   refine .meet (g127, hd.2 ++ g126) (by (show ((g127, hd.2 ++ g126)).2.length = lenI x; simp only [List.length_append]; rw [hhd, h126]; rw [lenI_eq]; rw [if_neg c1, if_neg c6, if_neg c7, if_neg c10, if_neg c11, if_pos c13])) rfl (.get rfl (VLe.refl _) (.keep 23 rfl rfl))
  refine Z2 ?_
  refine .meet hd (by (show (hd).2.length = lenI x; rw [hhd]; rw [lenI_eq]; rw [if_neg c1, if_neg c6, if_neg c7, if_neg c10, if_neg c11, if_neg c13]; rfl)) rfl (.get rfl (VLe.refl _) (.keep 13 rfl rfl))
 intro z hz
 refine Z1 ?_
 refine .shareS (t := 3) (i := 0) (g := z.1) (xs := z.2) rfl rfl ?_
 refine Z6 ?_
 refine Post.retR1 rfl (z.2) (by exact hz) (fun _ _ _ h => h) (.rt rfl) ?_
 exact VLe.refl _
theorem d12enc_spec {b : BodyD} (hp0 : BdOk b) : FnE Tryz.prog 61 [aggV (encBody b)] [] (γ := Int) (fun e => e = 0 ↔ encBd b) (fun _ => []) (fun e => tupV [anyV, intV .i64 e]) := by
 refine In 130 Tryz.func61 fun _ _ _ => ?_
 have hbl := hp0.len
 have hbo := hp0.loc
 refine Z14 ?_
 refine .loopO (σ := Nat) (fun _ => []) (fun j => [(4, intV .i64 (j : Int))]) (fun j => j ≤ b.L.length ∧ ∀ x ∈ b.L.take j, rightI x) (fun j => b.L.length - j) 0 ⟨Nat.zero_le _, by simp⟩ rfl ?_ ?_
 · exact (.get rfl (VLe.refl _) (.refl _ _))
 rintro j ⟨hj, hall⟩
 refine Z10 ?_
 refine Cd (fun c0 => ?_) fun c0 => ?_
 ·
  obtain ⟨x, hx⟩ := getElem?_lt (xs := b.L) (k := j) (by omega)
  refine Z9 ?_
  refine .p (cI j (h := hx)) rfl ?_
  refine Z1 ?_
  refine .p (cA (h := dright_spec (hp0.ins x (List.mem_of_getElem? hx)))) rfl ?_
  refine Z3 ?_
  refine Cd (fun c1 => ?_) fun c1 => ?_
  ·
   have hno : ¬ encBd b := fun h => c1 (h.1 x (List.mem_of_getElem? hx))
   refine Z12 ?_
   refine Post.retR rfl rfl (1) (by exact ⟨fun h => by simp at h, fun h => absurd h hno⟩) (fun _ _ _ h => h) rfl (.cons (.rt rfl) ?_ (.cons (.rt rfl) ?_ .nil))
   · exact VLe.any
   exact VLe.refl _
  refine Z8 ?_
  refine .round (j + 1) ⟨by omega, fun y hy => by (rw [← take_snoc hx] at hy; rcases List.mem_append.1 hy with hy | hy; exact hall y hy; (simp only [List.mem_singleton] at hy; subst hy; exact Classical.not_not.1 c1))⟩ (by omega) rfl ?_
  exact (.get rfl (VLe.int (by omega)) ((.keep 16 rfl rfl)))
 have hri : ∀ x ∈ b.L, rightI x := fun x hx => hall x (by rw [List.take_of_length_le (by omega)]; exact hx)
 refine Z12 ?_
 refine .loopO (σ := Nat) (fun _ => []) (fun j => [(5, intV .i64 (j : Int))]) (fun j => j ≤ b.Locals.length ∧ ∀ t ∈ b.Locals.take j, t = 126 ∨ t = 127) (fun j => b.Locals.length - j) 0 ⟨Nat.zero_le _, by simp⟩ rfl ?_ ?_
 · exact (.get rfl (VLe.refl _) (.refl _ _))
 rintro j ⟨hj2, htl⟩
 refine Z10 ?_
 refine Cd (fun c2 => ?_) fun c2 => ?_
 ·
  obtain ⟨t, ht⟩ := getElem?_lt (xs := b.Locals) (k := j) (by omega)
  refine Z9 ?_
  refine .p (cI j (h := ht)) rfl ?_
  refine Z6 ?_
  refine .g (OpG.gT rfl rfl rfl rfl (fun hg => opIndexAddr (j := j) FU.out FC.out rfl (.when (.t rfl) hg) (.when (.t rfl) hg) rfl ht)) rfl rfl ?_
  refine Z5 ?_
  refine Cd (fun c3 => ?_) fun c3 => ?_
  ·
   have hno : ¬ encBd b := fun h => by (have h9 := h.2.1 t (List.mem_of_getElem? ht); rw [← u8_126, ← u8_127] at h9; omega)
   refine Z12 ?_
   refine Post.retR rfl rfl (1) (by exact ⟨fun h => by simp at h, fun h => absurd h hno⟩) (fun _ _ _ h => h) rfl (.cons (.rt rfl) ?_ (.cons (.rt rfl) ?_ .nil))
   · exact VLe.any
   exact VLe.refl _
  refine Z8 ?_
  refine .round (j + 1) ⟨by omega, fun y hy => by (rw [← take_snoc ht] at hy; rcases List.mem_append.1 hy with hy | hy; exact htl y hy; (simp only [List.mem_singleton] at hy; subst hy; rw [← u8_126, ← u8_127]; omega))⟩ (by omega) rfl ?_
  exact (.get rfl (VLe.int (by omega)) ((.keep 23 rfl rfl)))
 have hty : ∀ t ∈ b.Locals, t = 126 ∨ t = 127 := fun t hx => htl t (by rw [List.take_of_length_le (by omega)]; exact hx)
 refine Z14 ?_
 refine Cd (fun c4 => ?_) fun c4 => ?_
 ·
  have hno : ¬ encBd b := fun h => by (have h9 := h.2.2.1; omega)
  refine Z8 ?_
  refine Post.retR rfl rfl (1) (by exact ⟨fun h => by simp at h, fun h => absurd h hno⟩) (fun _ _ _ h => h) rfl (.cons (.rt rfl) ?_ (.cons (.rt rfl) ?_ .nil))
  · exact VLe.any
  exact VLe.refl _
 refine Z6 ?_
 refine .n (cE (h := dspans_spec (l := b.L) hbl)) rfl fun g56 h56 => ?_
 refine Z16 ?_
 refine Cd (fun c5 => ?_) fun c5 => ?_
 ·
  have hno : ¬ encBd b := fun h => c5 (h56.2 h.2.2.2.1)
  refine Z9 ?_
  refine Post.retR rfl rfl (g56) (by exact ⟨fun h => absurd h c5, fun h => absurd h hno⟩) (fun _ _ _ h => h) rfl (.cons (.rt rfl) ?_ (.cons (.rt rfl) ?_ .nil))
  · exact VLe.any
  exact VLe.refl _
 have hnr := h56.1 (Classical.not_not.1 c5)
 refine Z7 ?_
 refine .ownNil 1 encU8 ?_
 refine Z12 ?_
 refine .loopO (σ := Nat × SB × List UInt8 × List Nat) (fun z => [sliceH z.2.1 1 encU8 z.2.2.1]) (fun z => [(9, exactV (sval z.2.1 z.2.2.1.length)), (10, intV .i64 (z.2.2.2.length : Int)), (11, intV .i64 (z.1 : Int))]) (fun z => z.1 ≤ b.Locals.length ∧ runsB b.Locals = z.2.2.2 ++ runsB (b.Locals.drop z.1) ∧ z.2.2.1.length = sumN_ z.2.2.2 ∧ z.2.2.2.length ≤ z.1 ∧ ∀ n ∈ z.2.2.2, n ≤ 1000000) (fun z => b.Locals.length - z.1) (0, none, [], []) ⟨Nat.zero_le _, rfl, rfl, Nat.le_refl _, by simp⟩ rfl ?_ ?_
 · exact (.get rfl (VLe.of_eq rfl) (.get rfl (VLe.refl _) (.get rfl (VLe.refl _) (.refl _ _))))
 rintro ⟨k, g1, ys, pre⟩ ⟨hk, hru, hys, hpl, hpn⟩
 simp only at hk hru hys hpl hpn ⊢
 have hsn := sumN_le_ pre hpn
 refine Z10 ?_
 refine Cd (fun c6 => ?_) fun c6 => ?_
 ·
  obtain ⟨t, htk⟩ := getElem?_lt (xs := b.Locals) (k := k) (by omega)
  refine Z11 ?_
  refine .loopO (σ := Nat) (fun _ => [sliceH g1 1 encU8 ys]) (fun q => [(12, intV .i64 (q : Int))]) (fun q => k ≤ q ∧ q ≤ b.Locals.length ∧ ∀ j, j < q - k → (b.Locals.drop k)[j]? = some t) (fun q => b.Locals.length - q) k ⟨Nat.le_refl _, by omega, fun j hj => by omega⟩ rfl ?_ ?_
  · exact (.get rfl (VLe.refl _) (.refl _ _))
  rintro k2 ⟨hk1, hk2, hal⟩
  refine Z2 ?_
  refine .drawK 16 2 FM.out (by kernel_rfl) (k := ?_)
  refine Z9 ?_
  refine .cons (OpG.gT rfl rfl rfl rfl (fun hg => opIndexAddr (j := k2) FU.out FC.out rfl (.when (.t rfl) hg) (.when (.t rfl) hg) rfl (gU_in (by omega)))) ?_
  refine Z4 ?_
  refine .cons (OpG.gT rfl rfl rfl rfl (fun hg => opIndexAddr (j := k) FU.out FC.out rfl (.when (.t rfl) hg) (.when (.t rfl) hg) rfl htk)) ?_
  refine Z6 ?_
  refine Cd (fun c7 => ?_) fun c7 => ?_
  ·
   refine Z9 ?_
   refine .round (k2 + 1) ⟨by omega, by omega, fun j hj => by (by_cases hjj : j < k2 - k; exact hal j hjj; (rw [List.getElem?_drop, show k + j = k2 by omega]; have h9 := c7.2; rw [u8_eq] at h9; rw [gU_in (by omega), h9]))⟩ (by omega) rfl ?_
   exact (.get rfl (VLe.int (by omega)) ((.keep 22 rfl rfl)))
  have hkk := lead_pos hk1 htk c7
  have hlead := lead_at hkk hk2 hal c7
  have hl10 : lenU (k2 - k) ≤ 10 := lenU_64 (by omega)
  refine Z6 ?_
  refine .stagedK [(0, 0), (1, 0), (2, 0), (3, 0), (4, 0), (7, 0), (8, 0), (9, 0), (10, 0), (11, 0), (12, 0), (5, 2), (6, 2)] 13 2 FM.out (by kernel_rfl) (k := ?_)
  refine Z8 ?_
  refine .p rfl (fun _ => opIndexAddr (j := k) FU.out FC.out rfl (.t rfl) (.t rfl) rfl htk) ?_
  refine Z1 ?_
  refine .p rfl (fun _ => opBuildSlice (enc := encU8) [t] FU.out FC.out rfl FZ.out rfl (.cons (.t rfl) .nil) rfl rfl rfl rfl rfl) ?_
  refine .e rfl (opCallE (rest := [_]) (dput_spec (n := k2 - k) (by omega)) FB.out (.cons (.le (.t rfl) (VLe.int (show (k2 : Int) - (k : Int) = ((k2 - k : Nat) : Int) by omega))) .nil) (Perm.idx [0] rfl rfl)) fun g94 h94 => ?_
  refine .e rfl (opAppend (i := 0) FU.out FU.out FC.out rfl FZ.out rfl FY.out (.t rfl) (.t rfl) rfl (by simp only [List.length_append, List.length_cons, List.length_nil, *]; omega) (by simp only [List.length_append, List.length_cons, List.length_nil, *]; omega)) fun g95 _ => ?_
  refine .fin ?_
  refine .n (opAppend (i := 0) FU.out FU.out FC.out rfl FZ.out rfl FY.out (.t rfl) (.t rfl) rfl (by simp only [List.length_append, List.length_cons, List.length_nil, *]; omega) (by simp only [List.length_append, List.length_cons, List.length_nil, *]; omega)) rfl fun g102 _ => ?_
  refine Z15 ?_
  refine .round (k2, g102, (ys ++ g94) ++ [t], pre ++ [k2 - k]) ⟨by show k2 ≤ _; omega, by (show _ = (pre ++ [k2 - k]) ++ runsB (b.Locals.drop k2); rw [hru, hlead, List.append_assoc]; rfl), by (show ((ys ++ g94) ++ [t]).length = _; rw [List.length_append, List.length_append, hys, h94, sumN_snoc]; simp only [List.length_cons, List.length_nil]; omega), by (show (pre ++ [k2 - k]).length ≤ k2; rw [List.length_append]; simp only [List.length_cons, List.length_nil]; omega), fun n hn => by (rcases List.mem_append.1 hn with hn | hn; exact hpn n hn; (simp only [List.mem_singleton] at hn; subst hn; omega))⟩ (by show b.Locals.length - k2 < b.Locals.length - k; omega) rfl ?_
  exact (.get rfl (VLe.refl _) (.get rfl (VLe.int (by simp)) (.get rfl (VLe.refl _) ((.keep 49 rfl rfl)))))
 have hkl : b.Locals.drop k = [] := List.drop_eq_nil_of_le (by omega)
 rw [hkl, runsB_nil, List.append_nil] at hru
 refine Z6 ?_
 have hlp : lenU pre.length ≤ 10 := lenU_64 (by omega)
 refine .shareS (t := 9) (i := 0) (g := g1) (xs := ys) rfl rfl ?_
 refine Z3 ?_
 refine .n (cE (h := dputO_spec (n := pre.length) (by omega))) rfl fun g108 h108 => ?_
 refine Z1 ?_
 refine .n (opAppend (i := 0) FU.out FU.out FC.out rfl FZ.out rfl FY.out (.t rfl) (.t rfl) rfl (by rw [h108]; omega) (by rw [h108]; omega)) rfl fun g110 _ => ?_
 refine Z10 ?_
 refine .loopO (σ := Nat × SB × List UInt8) (fun z => [sliceH z.2.1 1 encU8 z.2.2]) (fun z => [(9, exactV (sval z.2.1 z.2.2.length)), (13, intV .i64 (z.1 : Int))]) (fun z => z.1 ≤ b.L.length ∧ z.2.2.length = lenU pre.length + sumN_ pre + sumI (b.L.take z.1)) (fun z => b.L.length - z.1) (0, g110, g108.2 ++ ys) ⟨Nat.zero_le _, by (show (g108.2 ++ ys).length = _; rw [List.length_append, h108, hys]; simp [sumI])⟩ rfl ?_ ?_
 · exact (.get rfl (VLe.refl _) (.get rfl (VLe.refl _) (.refl _ _)))
 rintro ⟨i, g2, ws⟩ ⟨hi, hzs⟩
 simp only at hi hzs ⊢
 have hsi := sumI_le (b.L.take i) (fun x hx => ⟨.of (hp0.ins x (List.mem_of_mem_take hx)) (hri x (List.mem_of_mem_take hx)), hri x (List.mem_of_mem_take hx)⟩)
 rw [List.length_take] at hsi
 refine Z10 ?_
 refine Cd (fun c8 => ?_) fun c8 => ?_
 ·
  obtain ⟨y, hy⟩ := getElem?_lt (xs := b.L) (k := i) (by omega)
  have hyl := lenI_le (.of (hp0.ins y (List.mem_of_getElem? hy)) (hri y (List.mem_of_getElem? hy))) (hri y (List.mem_of_getElem? hy))
  refine Z9 ?_
  refine .p (cI i (h := hy)) rfl ?_
  refine Z1 ?_
  refine .n (cE (h := dencode_spec (.of (hp0.ins y (List.mem_of_getElem? hy)) (hri y (List.mem_of_getElem? hy))) (hri y (List.mem_of_getElem? hy)))) rfl fun g124 h124 => ?_
  refine .n (opAppend (i := 0) FU.out FU.out FC.out rfl FZ.out rfl FY.out (.t rfl) (.t rfl) rfl (by simp only [List.length_append, List.length_cons, List.length_nil, *]; omega) (by simp only [List.length_append, List.length_cons, List.length_nil, *]; omega)) rfl fun g125 _ => ?_
  refine Z9 ?_
  refine .round (i + 1, g125, ws ++ g124) ⟨by show i + 1 ≤ _; omega, by (show (ws ++ g124).length = _; rw [List.length_append, h124, hzs, ← take_snoc hy, sumI_snoc]; omega)⟩ (by show b.L.length - (i + 1) < b.L.length - i; omega) rfl ?_
  exact (.get rfl (VLe.refl _) (.get rfl (VLe.int (by show (_ : Int) = ((i + 1 : Nat) : Int); omega)) ((.keep 19 rfl rfl))))
 have hil : b.L.take i = b.L := List.take_of_length_le (by omega)
 rw [hil] at hzs
 have htot : ws.length = lenB b := by rw [hzs, lenB_doc, hru]
 refine Z13 ?_
 refine Cd (fun c9 => ?_) fun c9 => ?_
 ·
  refine Z8 ?_
  refine Post.retR rfl rfl (15) (by exact ⟨fun h => by simp at h, fun h => by have := h.2.2.2.2; omega⟩) (fun _ _ _ _ => trivial) rfl (.cons (.rt rfl) ?_ (.cons (.rt rfl) ?_ .nil))
  · exact VLe.any
  exact VLe.refl _
 refine Z10 ?_
 refine Post.retR rfl rfl (0) (by exact ⟨fun _ => ⟨hri, hty, by omega, hnr, by omega⟩, fun _ => rfl⟩) (fun _ _ _ _ => trivial) rfl (.cons (.rt rfl) ?_ (.cons (.rt rfl) ?_ .nil))
 · exact VLe.any
 exact VLe.refl _
theorem growT_spec {n : Nat} (hp0 : n ≤ 65536) : FnE Tryz.prog 198 [exactV (.slice none 0 0), intV .i64 (n : Int)] [] (γ := SB) (fun _ => True) (fun g => [sliceH g 1 encU8 ([] : List UInt8)]) (fun g => exactV (sval g 0)) := by
 refine In 27 Tryz.func198 fun _ _ _ => ?_
 refine Z12 ?_
 refine Cd (fun c0 => ?_) fun c0 => ?_
 ·
  exfalso
  omega
 refine Z7 ?_
 refine .p (opCapN rfl Tryz.underlying90 (.t rfl)) rfl ?_
 refine Z1 ?_
 refine .p (opLen rfl Tryz.underlying90 (.le (.t rfl) (sliceV_nil 1 encU8))) rfl ?_
 refine .p (opSubF (.t rfl) (.t rfl) (fits_i64 (by simp <;> omega) (by simp <;> omega))) rfl ?_
 refine .p ((opSubF (.t rfl) (.t rfl) (fits_i64 (by simp <;> omega) (by simp <;> omega))).le (VLe.int (show _ = (n : Int) by simp))) rfl ?_
 refine Z9 ?_
 refine Cd (fun c1 => ?_) fun c1 => ?_
 ·
  refine Z3 ?_
  refine .p (opCapN rfl Tryz.underlying90 (.t rfl)) rfl ?_
  refine .p (opSliceNil0 FU.out FC.out rfl (.t rfl) (.t rfl) rfl) rfl ?_
  refine Z1 ?_
  refine .n (opAppendMk (α := UInt8) (N := 1) (enc := encU8) FU.out FU.out FC.out rfl FZ.out rfl FY.out (.t rfl) (.t rfl) rfl (by omega) (by omega) (by omega)) rfl fun g22 _ => ?_
  refine Z1 ?_
  refine .p (opLen rfl Tryz.underlying90 (.le (.t rfl) (sliceV_nil 1 encU8))) rfl ?_
  refine .p (opSliceOwn0 FU.out FC.out rfl (.t rfl) (.t rfl) rfl) rfl ?_
  refine Z10 ?_
  refine Post.retR1 rfl (some g22) (by trivial) (fun _ _ _ h => h) (.rt rfl) ?_
  exact VLe.refl _
 have hn0 : n = 0 := by omega
 refine .ownNil (α := UInt8) 1 encU8 ?_
 refine Z9 ?_
 refine Post.retR1 rfl (none) (by trivial) (fun _ _ _ h => h) (.rt rfl) ?_
 exact VLe.refl _
theorem concatT_spec {ls : List (List UInt8)} (hp0 : ls.flatten.length ≤ 65536) : FnP Tryz.prog 186 [sliceV 1 encSlT ls] (sliceV 1 encU8 (ls.flatten)) := by
 refine In 36 Tryz.func186 fun _ _ _ => ?_
 refine .fact (t := 0) rfl (fun S w v h => sliceV_len h) fun hln => ?_
 refine Z19 ?_
 refine .loopO (σ := Nat) (fun _ => []) (fun k => [(11, intV .i64 (k : Int)), (3, intV .i64 ((ls.take k).flatten.length : Int))]) (fun k => k ≤ ls.length) (fun k => ls.length - k) 0 (Nat.zero_le _) rfl ?_ ?_
 · exact (.get rfl (VLe.refl _) (.get rfl (VLe.int (by simp)) (.refl _ _)))
 rintro k hk
 refine Z6 ?_
 refine Cd (fun c0 => ?_) fun c0 => ?_
 ·
  obtain ⟨l, hx⟩ := getElem?_lt (xs := ls) (k := k) (by omega)
  have hfp := flat_part ls (k + 1)
  have hfl : (ls.take (k + 1)).flatten.length = (ls.take k).flatten.length + l.length := by rw [flat_snoc hx, List.length_append]
  refine Z6 ?_
  refine .p (cI k (h := hx)) rfl ?_
  refine Z19 ?_
  refine Cd (fun c1 => ?_) fun c1 => ?_
  ·
   exfalso
   omega
  refine Z7 ?_
  refine .round (k + 1) (by omega) (by omega) rfl ?_
  exact (.get rfl (VLe.int (by (show (k : Int) + 1 = ((k + 1 : Nat) : Int); omega))) (.get rfl (VLe.int (by omega)) ((.keep 15 rfl rfl))))
 have hkl : ls.take k = ls := List.take_of_length_le (by omega)
 rw [hkl]
 refine Z8 ?_
 refine .n (cE (h := growT_spec hp0)) rfl fun g24 h24 => ?_
 refine Z12 ?_
 refine .loopO (σ := SB × Nat) (fun g => [sliceH g.1 1 encU8 (ls.take g.2).flatten]) (fun g => [(6, exactV (sval g.1 (ls.take g.2).flatten.length)), (27, intV .i64 (g.2 : Int))]) (fun g => g.2 ≤ ls.length) (fun g => ls.length - g.2) (g24, 0) (Nat.zero_le _) rfl ?_ ?_
 · exact (.get rfl (VLe.refl _) (.get rfl (VLe.refl _) (.refl _ _)))
 rintro ⟨sb, j⟩ hj
 simp only at hj ⊢
 refine Z6 ?_
 refine Cd (fun c2 => ?_) fun c2 => ?_
 ·
  obtain ⟨m, hy⟩ := getElem?_lt (xs := ls) (k := j) (by omega)
  have hfq := flat_part ls (j + 1)
  have hfm : (ls.take (j + 1)).flatten.length = (ls.take j).flatten.length + m.length := by rw [flat_snoc hy, List.length_append]
  refine Z6 ?_
  refine .p (cI j (h := hy)) rfl ?_
  refine Z7 ?_
  refine .n (opAppend (i := 0) (xs := (ls.take j).flatten) (ys := m) FU.out FU.out FC.out rfl FZ.out rfl FY.out (.t rfl) (.t rfl) rfl (by omega) (by omega)) rfl fun g33 _ => ?_
  refine Z8 ?_
  refine .round (g33, j + 1) (by show j + 1 ≤ _; omega) (by (show ls.length - (j + 1) < ls.length - j; omega)) (by simp only [flat_snoc hy]; rfl) ?_
  exact (.get rfl (VLe.of_eq (by simp only [flat_snoc hy])) (.get rfl (VLe.int (by (show (j : Int) + 1 = ((j + 1 : Nat) : Int); omega))) ((.keep 12 rfl rfl))))
 have hjl : ls.take j = ls := List.take_of_length_le (by omega)
 rw [hjl]
 refine .shareS (t := 6) (i := 0) rfl rfl ?_
 refine Z12 ?_
 refine Rt1 ?_
 exact VLe.refl _
theorem must_spec {p : Prop} {e : Int} (hp0 : e ≠ 0) : FnX Tryz.prog 310 235 [propV p, intV .i64 (e)] [] (¬ p) (γ := Unit) (fun _ => p) (fun _ => []) (fun _ => tupV []) := by
 refine InX 9 Tryz.func235 fun _ _ _ => ?_
 refine Z6 ?_
 refine Cd (fun c0 => ?_) fun c0 => ?_
 · exact CodeT.region (.p (opMove (.t rfl)) rfl <| .p (opBuild FP.out FZ.out (.cons (.t rfl) .nil) rfl) rfl <| .p (opIfaceN Tryz.underlying310 (.t rfl)) rfl <| .panicX (.t rfl) hp0 c0)
 refine Z1 ?_
 refine .norX (Post.retR0 rfl (()) (by exact Classical.not_not.1 c0) (fun _ _ _ h => h) rfl)
variable {cb : Nat} {m : ModD} {f : FuncD} {gs : SB} {B : List BkD} {bb : Nat} {bc : Nat} {ns : Nat}
theorem ktop_spec {b : BkD} : FnE Tryz.prog 245 [addrV cb 0] [ckC cb m f gs ns (some (bb, bc)) (B ++ [b]).length, sliceH (some (bb, bc)) 5 encBkD (B ++ [b])] (γ := Unit) (fun _ => True) (fun _ => [ckC cb m f gs ns (some (bb, bc)) (B ++ [b]).length, sliceH (some (bb, bc)) 5 encBkD (B ++ [b])]) (fun _ => addrV bb (B.length * 5)) := by
 refine In 14 Tryz.func245 fun _ _ _ => ?_
 refine .sliceLe 1 rfl fun hbl => ?_
 simp only [List.length_append, List.length_cons, List.length_nil] at hbl
 refine Z6 ?_
 refine .drawK 10 2 FM.out (by kernel_rfl) (k := ?_)
 refine Z8 ?_
 refine .p (opLenW rfl Tryz.underlying281 (.t rfl)) ?_
 refine .p (opSubF (.t rfl) (.c _) (fits_i64 (by simp <;> omega) (by simp <;> omega))) ?_
 refine Z1 ?_
 refine .p (opIndexAddrW B.length FU.out FC.out rfl (.t rfl) (.t rfl) (by simp) (by simp)) rfl ?_
 refine Z4 ?_
 refine Rt1 ?_
 exact VLe.refl _
variable {gb : SB} {nb : Nat}
theorem kpush_spec {st l st2 : List UInt8} (hp0 : st.length ≤ 60000) (hp1 : l.length ≤ 60000) (hp2 : st2 = st ++ l) : FnE Tryz.prog 231 [addrV cb 0, sliceV 1 encU8 (l)] [ckC cb m f gs st.length gb nb, sliceH gs 1 encU8 st] (γ := SB) (fun _ => True) (fun g => [ckC cb m f g st2.length gb nb, sliceH g 1 encU8 st2]) (fun _ => tupV []) := by
 refine In 13 Tryz.func231 fun _ _ _ => ?_
 subst hp2
 refine Z7 ?_
 refine .n (opAppend (i := 1) FU.out FU.out FC.out rfl FZ.out rfl FY.out (.t rfl) (.t rfl) rfl (by omega) (by omega)) rfl fun g10 _ => ?_
 refine Z4 ?_
 refine Post.retR0 rfl (g10) (by trivial) (fun _ _ _ h => h) rfl
variable {L0 : List UInt8} {k : FrC} {s : Stk}
theorem kpop_spec {w : UInt8} : FnX Tryz.prog 310 225 [addrV cb 0, intV .u8 ((w : UInt8).toNat : Int)] (ckL cb m f gs bb bc L0 B k s) (tk1S s w = none) (γ := Stk × UInt8) (fun g => tk1S s w = some g) (fun g => ckL cb m f gs bb bc L0 B k g.1) (fun g => intV .u8 (g.2.toNat : Int)) := by
 refine InX 67 Tryz.func225 fun _ _ _ => ?_
 obtain ⟨sl, sd⟩ := s
 refine Z8 ?_
 refine .n ((cEi [_] [0,2,1] (h := ktop_spec)).same (fun _ _ => OLe.perm (Perm.idx [0, 2, 1] rfl rfl)) (fun _ _ => VLe.refl _)) rfl fun _ _ => ?_
 refine Z5 ?_
 refine .drawK 9 1 FM.out (by kernel_rfl) (k := ?_)
 refine Z8 ?_
 refine .p (opLoadW (i := 2) (r := 3) FA.out (.t rfl) rfl (get_snoc _ _) rfl) ?_
 refine Z4 ?_
 refine Cd (fun c0 => ?_) fun c0 => ?_
 ·
  have hsl : sl = [] := by (simp [bkF] at c0; first | exact c0 | exact List.eq_nil_of_length_eq_zero (by omega))
  subst hsl
  refine Z5 ?_
  refine .p (opLoadW (i := 2) (r := 4) FA.out (.t rfl) rfl (get_snoc _ _) rfl) rfl ?_
  refine .x (cX (h := must_spec (e := 5) (by decide))) rfl (fun h => tk1_nil_no h) fun g23 h23 => ?_
  refine Z10 ?_
  refine .retX (Post.retR1 rfl ((([], sd), w)) (by exact tk1_nil (by first | exact h23 | assumption)) (fun _ _ _ h => h) (.rt rfl) ?_)
  exact VLe.refl _
 obtain ⟨l, x, rfl⟩ := snoc_of (l := sl) (fun e => c0 (by rw [e]; simp [bkF]))
 refine .sliceLe 1 rfl fun hbl => ?_
 simp only [List.length_append, List.length_cons, List.length_nil] at hbl
 refine .sliceSome 1 rfl (by simp) fun sb sc hg => ?_
 subst hg
 refine Z3 ?_
 refine .drawK 10 3 FM.out (by kernel_rfl) (k := ?_)
 refine Z9 ?_
 refine .p (opSubF (.t rfl) (.c _) (fits_i64 (by simp <;> omega) (by simp <;> omega))) ?_
 refine Z1 ?_
 refine .p (opIndexAddrW (L0 ++ l).length FU.out FC.out rfl (.t rfl) (.t rfl) (by simp <;> omega) (by simp)) rfl ?_
 refine .p (opLoadW (i := 1) (r := 0) FA.out (.t rfl) rfl (show (L0 ++ (l ++ [x]))[(L0 ++ l).length]? = some x by simp) rfl) rfl ?_
 refine Z4 ?_
 refine .drawK 12 3 FM.out (by kernel_rfl) (k := ?_)
 refine Z10 ?_
 refine .p (opSubF (.t rfl) (.c _) (fits_i64 (by simp <;> omega) (by simp <;> omega))) ?_
 refine .p (opSliceOwn (i := 1) (h := (L0 ++ l).length) FU.out FC.out rfl (.t rfl) (.t rfl) (by simp <;> omega) rfl rfl (by simp)) ?_
 refine Z6 ?_
 refine .own (OLe.cons _ (OLe.cutS (L0 ++ l) (by rw [← List.append_assoc]; exact pre_app _ _))) ?_
 refine Z13 ?_
 refine .x (cX (h := must_spec (e := 5) (by decide))) rfl (fun h => tk1_snoc_no (fun e => h (u8_pop.2 e))) fun g62 h62 => ?_
 refine Z9 ?_
 refine Cd (fun c1 => ?_) fun c1 => ?_
 ·
  refine Z8 ?_
  refine .retX (Post.retR1 rfl (((l, sd), if x = 0 then w else x)) (by exact tk1_snoc (u8_pop.1 h62)) (fun _ _ _ h => h) (.rt rfl) ?_)
  exact VLe.of_eq (by rw [if_pos ((u8_zero x).1 c1)])
 refine Z9 ?_
 refine .retX (Post.retR1 rfl (((l, sd), if x = 0 then w else x)) (by exact tk1_snoc (u8_pop.1 h62)) (fun _ _ _ h => h) (.rt rfl) ?_)
 exact VLe.of_eq (by rw [if_neg (fun e => c1 ((u8_zero x).2 e))])
theorem kpops_spec {l : List UInt8} : FnX Tryz.prog 310 229 [addrV cb 0, sliceV 1 encU8 (l)] (ckL cb m f gs bb bc L0 B k s) (tksS s l = none) (γ := Stk) (fun g => tksS s l = some g) (fun g => ckL cb m f gs bb bc L0 B k g) (fun _ => tupV []) := by
 refine InX 18 Tryz.func229 fun _ _ _ => ?_
 refine .fact (t := 1) rfl (fun S w v h => sliceV_len h) fun hln => ?_
 refine Z9 ?_
 refine .loopO (σ := Nat × Stk) (fun g => ckL cb m f gs bb bc L0 B k g.2) (fun g => [(4, intV .i64 ((g.1 : Int) - 1))]) (fun g => g.1 ≤ l.length ∧ tksS g.2 (l.take g.1) = tksS s l) (fun g => g.1) (l.length, s) ⟨Nat.le_refl _, by simp⟩ rfl ?_ ?_
 · exact (.get rfl (VLe.refl _) (.refl _ _))
 rintro ⟨j, s1⟩ ⟨hj, hinv⟩
 simp only at hj hinv ⊢
 refine Z7 ?_
 refine Cd (fun c0 => ?_) fun c0 => ?_
 ·
  obtain ⟨t, ht⟩ := getElem?_lt (xs := l) (k := j - 1) (by omega)
  have hjt : tksS s1 (l.take j) = (tk1S s1 t).bind fun p => tksS p.1 (l.take (j - 1)) := by (have h9 := tks_at (s := s1) ht; rwa [show j - 1 + 1 = j by omega] at h9)
  refine Z8 ?_
  refine .p (cI (j - 1) (h := ht)) rfl ?_
  refine Z1 ?_
  refine .x (cX (h := kpop_spec (s := s1) (w := t))) rfl (fun h => by rw [← hinv, hjt, h]; rfl) fun g17 h17 => ?_
  refine Z8 ?_
  refine .round (j - 1, g17.1) ⟨by show j - 1 ≤ _; omega, by rw [← hinv, hjt, h17]; rfl⟩ (by show j - 1 < j; omega) rfl ?_
  exact (.get rfl (VLe.int (by show (_ : Int) = ((j - 1 : Nat) : Int) - 1; omega)) ((.keep 12 rfl rfl)))
 have hj0 : j = 0 := by omega
 subst hj0
 refine Z4 ?_
 refine .norX (Post.retR0 rfl (s1) (by exact (by rw [← hinv]; rfl)) (fun _ _ _ h => h) rfl)
theorem kkill_spec : FnE Tryz.prog 224 [addrV cb 0] (ckL cb m f gs bb bc L0 B k s) (γ := Unit) (fun _ => True) (fun _ => ckL cb m f gs bb bc L0 B k killS) (fun _ => tupV []) := by
 refine In 20 Tryz.func224 fun _ _ _ => ?_
 refine Z3 ?_
 refine .n ((cEi [_] [0,2,1] (h := ktop_spec)).same (fun _ _ => OLe.perm (Perm.idx [0, 2, 1] rfl rfl)) (fun _ _ => VLe.refl _)) rfl fun _ _ => ?_
 refine Z3 ?_
 refine .stagedK [(0, 0), (1, 0), (2, 0), (3, 0), (4, 0), (5, 1), (6, 0), (7, 0), (8, 0), (9, 1), (10, 1), (11, 0), (12, 0), (13, 3)] 14 3 FM.out (by kernel_rfl) (k := ?_)
 refine Z9 ?_
 refine .o rfl (opLoadW (i := 2) (r := 3) FA.out (.t rfl) rfl (get_snoc _ _) rfl) ?_
 refine .o rfl (opSliceOwn (i := 1) (h := (L0 ++ ([] : List UInt8)).length) FU.out FC.out rfl (.t rfl) (.t rfl) (by simp [bkF]) rfl rfl (by simp)) ?_
 refine Z2 ?_
 refine .s rfl (opStoreO (i := 0) FC.out (.t rfl) (.t rfl) rfl rfl) ?_
 refine .fin ?_
 refine Z2 ?_
 refine .s (opStoreW (i := 2) (r := 4) (bkF L0.length k killS) rfl FC.out (.t rfl) .ct rfl (get_snoc _ _) rfl rfl) ?_
 refine Z1 ?_
 rw [set_snoc, show (B ++ [bkF L0.length k s]).length = (B ++ [bkF L0.length k killS]).length by simp]
 refine .own (OLe.cons _ (OLe.cutS (L0 ++ ([] : List UInt8)) (by simp))) ?_
 refine Post.retR0 rfl (()) (by trivial) (fun _ _ _ h => h) rfl
variable {n : Int}
theorem klabel_spec (hp0 : B.length ≤ 60000) (hp1 : 0 ≤ n) : FnX Tryz.prog 310 230 [addrV cb 0, intV .u64 (n)] [ckC cb m f gs ns (some (bb, bc)) B.length, sliceH (some (bb, bc)) 5 encBkD B] (labAt (B.map labB) n = none) (γ := List UInt8) (fun w => labAt (B.map labB) n = some w) (fun _ => [ckC cb m f gs ns (some (bb, bc)) B.length, sliceH (some (bb, bc)) 5 encBkD B]) (fun w => sliceV 1 encU8 (w)) := by
 refine InX 34 Tryz.func230 fun _ _ _ => ?_
 refine Z12 ?_
 refine .p (opLenW rfl Tryz.underlying281 (.t rfl)) rfl ?_
 refine Z2 ?_
 refine .x (cX (h := must_spec (e := 2) (by decide))) rfl (fun h => labAt_out (fun e => h (by simpa using e))) fun g14 h14 => ?_
 refine Z3 ?_
 have hlt : n < (B.length : Int) := h14
 obtain ⟨b, hb⟩ := getElem?_lt (xs := B) (k := B.length - 1 - n.toNat) (by omega)
 obtain ⟨w, hw, hw2⟩ := labAt_in (L := B.map labB) hp1 (by simpa using hlt)
 have hwb : labB b = w := by (rw [List.length_map, List.getElem?_map, hb] at hw2; exact Option.some.inj hw2)
 refine .stagedK [(0, 0), (1, 0), (2, 0), (3, 1), (4, 0), (5, 0), (6, 0), (7, 1), (8, 0), (9, 0), (10, 0), (11, 0), (12, 0), (13, 0), (14, 1), (15, 4)] 16 1 FM.out (by kernel_rfl) (k := ?_)
 refine Z8 ?_
 refine .p rfl (fun _ => opLenW rfl Tryz.underlying281 (.t rfl)) ?_
 refine Z4 ?_
 refine .p rfl (fun _ => opIndexAddrW (B.length - 1 - n.toNat) FU.out FC.out rfl (.t rfl) (.t rfl) (by omega) (by omega)) ?_
 refine .o rfl (opLoadWA (i := 1) (r := 0) FA.out FC.out rfl (.t rfl) rfl hb rfl) ?_
 refine .a rfl (opAlloc FZ.out) (fun _ _ => OLe.drop (OLe.refl _)) fun b5 _ => ?_
 refine .fin ?_
 refine Z3 ?_
 refine .share (t := 5) (i := 0) rfl rfl ?_
 refine Z7 ?_
 refine Cd (fun c0 => ?_) fun c0 => ?_
 ·
  refine Z7 ?_
  refine .retX (Post.retR1 rfl (w) (by exact hw) (fun _ _ _ h => h) (.rt rfl) ?_)
  exact (show VLe (exactV (.slice none 0 0)) _ from (show w = [] by rw [← hwb]; exact if_pos c0) ▸ sliceV_nil 1 encU8)
 refine Z10 ?_
 refine .retX (Post.retR1 rfl (w) (by exact hw) (fun _ _ _ h => h) (.rt rfl) ?_)
 exact VLe.of_eq (by rw [show w = b.res by rw [← hwb]; exact if_neg c0])
theorem kopen_spec {st : List UInt8} (hp0 : B.length ≤ 60000) (hp1 : 0 ≤ x.A) : FnE Tryz.prog 226 [addrV cb 0, aggV (encInstr x)] (ckG cb m f gs gb st B) (γ := SB) (fun _ => True) (fun g => ckG cb m f gs g st (B ++ [bkF st.length ⟨x.Code = 3, x.Code = 4, resI x, ([], False)⟩ ([], False)])) (fun _ => tupV []) := by
 refine In 35 Tryz.func226 fun _ _ _ => ?_
 refine Z6 ?_
 refine .stagedK [(0, 0), (1, 0), (2, 0), (3, 0), (4, 0), (5, 0), (6, 0), (7, 0), (8, 0), (9, 1), (10, 1), (11, 0), (12, 4)] 13 1 FM.out (by kernel_rfl) (k := ?_)
 refine Z12 ?_
 refine .a rfl (opAlloc FZ.out) (fun _ _ => OLe.drop (OLe.refl _)) fun b4 _ => ?_
 refine .fin ?_
 refine Z3 ?_
 refine .cut (σ := Unit) (fun _ => [cellsH b4 [propV (x.Code = 3), propV (x.Code = 4), sliceV 1 encU8 (resI x), intV .i64 (st.length : Int), propV False], ckC cb m f gs st.length gb B.length, sliceH gs 1 encU8 st, sliceH gb 5 encBkD B]) (fun _ => []) (fun _ => True) ?_ ?_
 ·
  refine Z1 ?_
  refine .own (OLe.cellsY (cs' := [propV (x.Code = 3), propV (x.Code = 4), sliceV 1 encU8 [], intV .i64 (st.length : Int), propV False]) (.cons (.refl _) (.cons (.refl _) (.cons (sliceV_nil 1 encU8) (.cons (.refl _) (.cons falseV .nil)))))) ?_
  refine Z6 ?_
  refine Cd (fun c0 => ?_) fun c0 => ?_
  ·
   refine Z3 ?_
   refine .p ((opConv FU.out FU.out (.t rfl)).le (VLe.int (u8_wrap hp1))) rfl ?_
   refine .p (cB encU8 [UInt8.ofNat x.A.toNat]) rfl ?_
   refine Z3 ?_
   refine .meet () trivial (by first | (rw [show resI x = [UInt8.ofNat x.A.toNat] from if_neg c0]; done) | (rw [show resI x = [UInt8.ofNat x.A.toNat] from if_neg c0]; rfl) | (rw [show resI x = [] from if_pos (Classical.not_not.1 c0)]; done) | (rw [show resI x = [] from if_pos (Classical.not_not.1 c0)]; rfl)) (.keep 8 rfl rfl)
  refine Z1 ?_
  refine .meet () trivial (by first | (rw [show resI x = [UInt8.ofNat x.A.toNat] from if_neg c0]; done) | (rw [show resI x = [UInt8.ofNat x.A.toNat] from if_neg c0]; rfl) | (rw [show resI x = [] from if_pos (Classical.not_not.1 c0)]; done) | (rw [show resI x = [] from if_pos (Classical.not_not.1 c0)]; rfl)) (.keep 3 rfl rfl)
 intro _ _
 refine .stagedK [(0, 0), (1, 0), (2, 0), (3, 0), (4, 1), (5, 1), (6, 0), (7, 2)] 8 3 FM.out (by kernel_rfl) (k := ?_)
 refine Z6 ?_
 refine .p rfl (fun _ => opBuildSlice (enc := encBkD) [bkF st.length ⟨x.Code = 3, x.Code = 4, resI x, ([], False)⟩ ([], False)] FU.out FC.out rfl FZ.out rfl (.cons (.t rfl) .nil) rfl rfl rfl rfl rfl) ?_
 refine .e rfl (opAppend (i := 3) FU.out FU.out FC.out rfl FZ.out rfl FY.out (.t rfl) (.t rfl) rfl (by simp <;> omega) (by simp <;> omega)) fun g32 _ => ?_
 refine .fin ?_
 refine Z4 ?_
 refine Post.retR0 rfl (g32) (by trivial) (OLe.sel [1, 2, 3] [0] rfl rfl) rfl
theorem kclose_spec : FnX Tryz.prog 310 246 [addrV cb 0] (ckL cb m f gs bb bc L0 B k s) (¬ clsP k.res s) (γ := Unit) (fun _ => clsP k.res s) (fun _ => ckG cb m f gs (some (bb, bc)) L0 B) (fun _ => aggV (encBkD (bkF L0.length k s))) := by
 refine InX 36 Tryz.func246 fun _ _ _ => ?_
 refine Z2 ?_
 refine .n (opAlloc FZ.out) rfl fun b2 _ => ?_
 refine Z5 ?_
 refine .n ((cEi [_,_] [1,3,0,2] (h := ktop_spec)).same (fun _ _ => OLe.perm (Perm.idx [2, 0, 3, 1] rfl rfl)) (fun _ _ => VLe.refl _)) rfl fun _ _ => ?_
 refine Z1 ?_
 refine .p (opLoadWA (i := 3) (r := 0) FA.out FC.out rfl (.t rfl) rfl (get_snoc _ _) rfl) rfl ?_
 refine .n (opAlloc FZ.out) rfl fun b3 _ => ?_
 refine Z3 ?_
 refine .share (t := 3) (i := 0) rfl rfl ?_
 refine Z5 ?_
 refine .x (cXi [_] [1,2,3,0] (h := kpops_spec (l := k.res))) rfl (fun h => by (rintro ⟨z, h1, _⟩; rw [h] at h1; cases h1)) fun g11 h11 => ?_
 refine Z3 ?_
 refine .sliceLe 2 rfl fun hbl => ?_
 simp only [List.length_append, List.length_cons, List.length_nil] at hbl
 refine .drawK 7 2 FM.out (by kernel_rfl) (k := ?_)
 refine Z9 ?_
 refine .x (cX (h := must_spec (e := 5) (by decide))) rfl (fun h => by (rintro ⟨z, h1, h2⟩; rw [h11] at h1; cases h1; exact h (by rw [h2]; simp [bkF]))) fun g20 h20 => ?_
 refine Z3 ?_
 have hz : g11.1 = [] := by (simp [bkF] at h20; first | exact h20 | exact List.eq_nil_of_length_eq_zero (by omega))
 refine .drawK 12 3 FM.out (by kernel_rfl) (k := ?_)
 refine Z10 ?_
 refine .p (opSubF (.t rfl) (.c _) (fits_i64 (by simp <;> omega) (by simp <;> omega))) ?_
 refine .p (opSliceOwn (i := 2) (h := B.length) FU.out FC.out rfl (.t rfl) (.t rfl) (by simp) rfl rfl (by simp)) ?_
 refine Z6 ?_
 rw [show (L0 ++ g11.1).length = L0.length by rw [hz]; simp]
 refine .own (OLe.cons _ (OLe.trans (OLe.cutS L0 (pre_app _ _)) (OLe.cons _ (OLe.cutS B (pre_app _ _))))) ?_
 refine Z3 ?_
 refine .s (opStoreOA (i := 3) FC.out rfl (.t rfl) (.t rfl) rfl rfl rfl) ?_
 refine Z3 ?_
 refine .retX (Post.retR1 rfl (()) (by exact ⟨g11, h11, hz⟩) (OLe.sel [0, 1, 2] [3] rfl rfl) (.ra (i := 3) FA.out FC.out rfl rfl rfl rfl) ?_)
 exact VLe.refl _
theorem kother_spec (hp0 : B.length ≤ 60000) : FnX Tryz.prog 310 227 [addrV cb 0] (ckL cb m f gs bb bc L0 B k s) (¬ clsP k.res s) (γ := SB) (fun _ => clsP k.res s) (fun g => ckG cb m f gs g L0 (B ++ [bkF L0.length ⟨k.loop, False, k.res, ([], False)⟩ ([], False)])) (fun _ => tupV []) := by
 refine InX 17 Tryz.func227 fun _ _ _ => ?_
 refine Z3 ?_
 refine .x (cX (h := kclose_spec (s := s))) rfl (fun h => h) fun g4 h4 => ?_
 refine .n (opAlloc FZ.out) rfl fun b2 _ => ?_
 refine Z11 ?_
 refine .stagedK [(0, 0), (1, 0), (2, 0), (3, 0), (4, 1), (5, 1), (6, 0), (7, 2)] 8 3 FM.out (by kernel_rfl) (k := ?_)
 refine Z6 ?_
 refine .p rfl (fun _ => opBuildSlice (enc := encBkD) [bkF L0.length ⟨k.loop, False, k.res, ([], False)⟩ ([], False)] FU.out FC.out rfl FZ.out rfl (.cons (.t rfl) .nil) rfl rfl rfl rfl rfl) ?_
 refine .e rfl (opAppend (i := 3) FU.out FU.out FC.out rfl FZ.out rfl FY.out (.t rfl) (.t rfl) rfl (by simp <;> omega) (by simp <;> omega)) fun g14 _ => ?_
 refine .fin ?_
 refine Z4 ?_
 refine .norX (Post.retR0 rfl (g14) (by exact h4) (OLe.sel [1, 2, 3] [0] rfl rfl) rfl)
theorem kend_spec (hp0 : L0.length ≤ 60000) (hp1 : k.res.length ≤ 60000) : FnX Tryz.prog 310 228 [addrV cb 0] (ckL cb m f gs bb bc L0 B k s) (¬ (clsP k.res s ∧ (k.is → k.res = []))) (γ := SB) (fun _ => clsP k.res s ∧ (k.is → k.res = [])) (fun g => ckG cb m f g (some (bb, bc)) (L0 ++ k.res) B) (fun _ => tupV []) := by
 refine InX 19 Tryz.func228 fun _ _ _ => ?_
 refine Z3 ?_
 refine .x (cX (h := kclose_spec (s := s))) rfl (fun h h2 => h h2.1) fun g4 h4 => ?_
 refine .n (opAlloc FZ.out) rfl fun b2 _ => ?_
 refine Z3 ?_
 refine .share (t := 2) (i := 0) rfl rfl ?_
 refine Z11 ?_
 refine .x (cX (h := must_spec (e := 5) (by decide))) rfl (fun h h2 => h (by by_cases hk : k.is; exact .inr (show (k.res.length : Int) = 0 by rw [h2.2 hk]; rfl); exact .inl hk)) fun g14 h14 => ?_
 refine Z6 ?_
 refine .n (cE (h := kpush_spec (st := L0) (l := k.res) (by omega) hp1 rfl)) rfl fun g18 h18 => ?_
 refine Z1 ?_
 refine .norX (Post.retR0 rfl (g18) (by exact ⟨h4, fun hk => by (rcases h14 with h | h; exact absurd hk h; exact List.eq_nil_of_length_eq_zero (by have h9 : (k.res.length : Int) = 0 := h; omega))⟩) (fun _ _ _ h => h) rfl)
theorem klocal_spec (hp0 : CkOk m f) (hp1 : 0 ≤ n) : FnX Tryz.prog 310 233 [addrV cb 0, intV .u64 (n)] [ckC cb m f gs ns gb nb] (getI (envD m f).Locals n = none) (γ := UInt8) (fun t => getI (envD m f).Locals n = some t) (fun _ => [ckC cb m f gs ns gb nb]) (fun t => intV .u8 ((t : UInt8).toNat : Int)) := by
 refine InX 23 Tryz.func233 fun _ _ _ => ?_
 have hll := hp0.lo
 refine Z16 ?_
 refine .x (cX (h := must_spec (e := 2) (by decide))) rfl (fun h => getI_out (fun e => h e)) fun g14 h14 => ?_
 refine Z3 ?_
 obtain ⟨t, ht, hti⟩ := getI_in hp1 h14
 refine Z7 ?_
 refine .p (cI n.toNat (h := hti)) rfl ?_
 refine Z5 ?_
 refine .retX (Post.retR1 rfl (t) (by exact ht) (fun _ _ _ h => h) (.rt rfl) ?_)
 exact VLe.refl _
theorem kglobal_spec (hp0 : CkOk m f) (hp1 : 0 ≤ n) : FnX Tryz.prog 310 234 [addrV cb 0, intV .u64 (n)] [ckC cb m f gs ns gb nb] (getI m.Globals n = none) (γ := GlobalD) (fun t => getI m.Globals n = some t) (fun _ => [ckC cb m f gs ns gb nb]) (fun t => aggV (encGlobal t)) := by
 refine InX 29 Tryz.func234 fun _ _ _ => ?_
 have hll := hp0.fits.lens.2.2.2.1
 refine Z2 ?_
 refine .n (opAlloc FZ.out) rfl fun b4 _ => ?_
 refine Z16 ?_
 refine .x (cX (h := must_spec (e := 2) (by decide))) rfl (fun h => getI_out (fun e => h e)) fun g17 h17 => ?_
 refine Z3 ?_
 obtain ⟨t, ht, hti⟩ := getI_in hp1 h17
 refine Z10 ?_
 refine .p (cI n.toNat (h := hti)) rfl ?_
 refine Z5 ?_
 refine .retX (Post.retR1 rfl (t) (by exact ht) (OLe.sel [1] [0] rfl rfl) (.ra (i := 0) FA.out FC.out rfl rfl rfl rfl) ?_)
 exact VLe.refl _
theorem kmemory_spec (hp0 : CkOk m f) (hp1 : 0 ≤ n) : FnX Tryz.prog 310 236 [addrV cb 0, intV .u64 (n)] [ckC cb m f gs ns gb nb] (getI m.Mems n = none) (γ := LimitsD) (fun t => getI m.Mems n = some t) (fun _ => [ckC cb m f gs ns gb nb]) (fun t => aggV (encLimits t)) := by
 refine InX 29 Tryz.func236 fun _ _ _ => ?_
 have hll := hp0.fits.lens.2.2.1
 refine Z2 ?_
 refine .n (opAlloc FZ.out) rfl fun b4 _ => ?_
 refine Z16 ?_
 refine .x (cX (h := must_spec (e := 2) (by decide))) rfl (fun h => getI_out (fun e => h e)) fun g17 h17 => ?_
 refine Z3 ?_
 obtain ⟨t, ht, hti⟩ := getI_in hp1 h17
 refine Z10 ?_
 refine .p (cI n.toNat (h := hti)) rfl ?_
 refine Z5 ?_
 refine .retX (Post.retR1 rfl (t) (by exact ht) (OLe.sel [1] [0] rfl rfl) (.ra (i := 0) FA.out FC.out rfl rfl rfl rfl) ?_)
 exact VLe.refl _
theorem kaddress_spec {l : LimitsD} : FnP Tryz.prog 238 [aggV (encLimits l)] (intV .u8 ((adrW l.Wide : UInt8).toNat : Int)) := by
 refine In 5 Tryz.func238 fun _ _ _ => ?_
 refine Z13 ?_
 refine Cd (fun c0 => ?_) fun c0 => ?_
 ·
  refine Z7 ?_
  refine Rt1 ?_
  exact VLe.of_eq (by unfold adrW; rw [if_pos c0]; rfl)
 refine Z8 ?_
 refine Rt1 ?_
 exact VLe.of_eq (by unfold adrW; rw [if_neg c0]; rfl)
theorem kapply_spec {g : SigD} (hp0 : (L0 ++ s.1).length ≤ 60000) (hp1 : g.R.length ≤ 60000) : FnX Tryz.prog 310 214 [addrV cb 0, aggV (encSig g)] (ckL cb m f gs bb bc L0 B k s) (tgS s g.P g.R = none) (γ := SB × Stk) (fun z => tgS s g.P g.R = some z.2) (fun z => ckL cb m f z.1 bb bc L0 B k z.2) (fun _ => tupV []) := by
 refine InX 12 Tryz.func214 fun _ _ _ => ?_
 refine Z10 ?_
 refine .x (cX (h := kpops_spec (s := s) (l := g.P))) rfl (fun h => by unfold tgS; rw [h]; rfl) fun g7 h7 => ?_
 refine Z6 ?_
 refine .n (cE (h := kpush_spec (st := L0 ++ g7.1) (l := g.R) (st2 := L0 ++ (giveS g7 g.R).1) (by simp only [List.length_append] at hp0 ⊢; have := tks_le h7; omega) hp1 (by simp [giveS]))) rfl fun g11 h11 => ?_
 refine Z1 ?_
 refine .norX (Post.retR0 rfl ((g11, giveS g7 g.R)) (by exact (by unfold tgS; rw [h7]; rfl)) (fun _ _ _ h => h) rfl)
theorem kvariable_spec {labs : List (List UInt8)} (hp0 : (L0 ++ s.1).length ≤ 60000) (hp1 : CkOk m f) (hp2 : InsOk x) : FnX Tryz.prog 310 210 [addrV cb 0, aggV (encInstr x)] (ckL cb m f gs bb bc L0 B k s) (varC x.Code ∧ plS (envD m f) x s labs = none) (γ := SB × Stk) (fun z => (varC x.Code ∧ plS (envD m f) x s labs = some z.2) ∨ (¬ varC x.Code ∧ z = (gs, s))) (fun z => ckL cb m f z.1 bb bc L0 B k z.2) (fun _ => propV (varC x.Code)) := by
 refine InX 62 Tryz.func210 fun _ _ _ => ?_
 refine Z20 ?_
 refine Cd (fun c0 => ?_) fun c0 => ?_
 ·
  refine Z5 ?_
  refine .x (cX (h := klocal_spec hp1 hp2.A0)) rfl (fun h => ⟨by unfold varC; omega, by rw [plS_32 c0, h]; rfl⟩) fun g15 h15 => ?_
  refine .p (cB encU8 [_]) rfl ?_
  refine .n (cE (h := kpush_spec (st := L0 ++ s.1) (l := [g15]) (st2 := L0 ++ (giveS s [g15]).1) (by simp only [List.length_append] at hp0 ⊢; omega) (by simp) (by simp [giveS]))) rfl fun g17 h17 => ?_
  refine Z9 ?_
  refine .retX (Post.retR1 rfl ((g17, giveS s [g15])) (by exact .inl ⟨by unfold varC; omega, by rw [plS_32 c0, h15]; rfl⟩) (fun _ _ _ h => h) (.rt rfl) ?_)
  exact VLe.prop ⟨fun _ => by unfold varC; omega, fun _ => trivial⟩
 refine Z6 ?_
 refine Cd (fun c1 => ?_) fun c1 => ?_
 ·
  refine Z5 ?_
  refine .x (cX (h := klocal_spec hp1 hp2.A0)) rfl (fun h => ⟨by unfold varC; omega, by rw [plS_33 c1, h]; rfl⟩) fun g24 h24 => ?_
  refine .x (cX (h := kpop_spec (s := s) (w := g24))) rfl (fun h => ⟨by unfold varC; omega, by rw [plS_33 c1, h24, Option.bind_some, tks_one, h]; rfl⟩) fun g25 h25 => ?_
  refine Z9 ?_
  refine .retX (Post.retR1 rfl ((gs, g25.1)) (by exact .inl ⟨by unfold varC; omega, by rw [plS_33 c1, h24, Option.bind_some, tks_one, h25]; rfl⟩) (fun _ _ _ h => h) (.rt rfl) ?_)
  exact VLe.prop ⟨fun _ => by unfold varC; omega, fun _ => trivial⟩
 refine Z6 ?_
 refine Cd (fun c2 => ?_) fun c2 => ?_
 ·
  refine Z5 ?_
  refine .x (cX (h := klocal_spec hp1 hp2.A0)) rfl (fun h => ⟨by unfold varC; omega, by rw [plS_34 c2, h]; rfl⟩) fun g31 h31 => ?_
  refine Z7 ?_
  refine .x (cX (h := kpop_spec (s := s) (w := g31))) rfl (fun h => ⟨by unfold varC; omega, by rw [plS_34 c2, h31, Option.bind_some, tgS, tks_one, h]; rfl⟩) fun g34 h34 => ?_
  refine Z5 ?_
  refine .p (cB encU8 [_]) rfl ?_
  refine .n (cE (h := kpush_spec (st := L0 ++ g34.1.1) (l := [g31]) (st2 := L0 ++ (giveS g34.1 [g31]).1) (by simp only [List.length_append] at hp0 ⊢; have := tk1_le h34; omega) (by simp) (by simp [giveS]))) rfl fun g38 h38 => ?_
  refine Z9 ?_
  refine .retX (Post.retR1 rfl ((g38, giveS g34.1 [g31])) (by exact .inl ⟨by unfold varC; omega, by rw [plS_34 c2, h31, Option.bind_some, tgS, tks_one, h34]; rfl⟩) (fun _ _ _ h => h) (.rt rfl) ?_)
  exact VLe.prop ⟨fun _ => by unfold varC; omega, fun _ => trivial⟩
 refine Z6 ?_
 refine Cd (fun c3 => ?_) fun c3 => ?_
 ·
  refine Z5 ?_
  refine .x (cX (h := kglobal_spec hp1 hp2.A0)) rfl (fun h => ⟨by unfold varC; omega, by rw [plS_35 c3]; rw [show (envD m f).Globals = m.Globals.map (·.Ty) from rfl, getI_map, h]; rfl⟩) fun g45 h45 => ?_
  refine .p (OpP.le (opFieldV (T := 88) (i := 0) (off := 0) (by kernel_rfl) Tryz.ag86.out (.t rfl) rfl) (VLe.refl (intV .u8 (g45.Ty.toNat : Int)))) rfl ?_
  refine .p (cB encU8 [_]) rfl ?_
  refine .n (cE (h := kpush_spec (st := L0 ++ s.1) (l := [g45.Ty]) (st2 := L0 ++ (giveS s [g45.Ty]).1) (by simp only [List.length_append] at hp0 ⊢; omega) (by simp) (by simp [giveS]))) rfl fun g48 h48 => ?_
  refine Z9 ?_
  refine .retX (Post.retR1 rfl ((g48, giveS s [g45.Ty])) (by exact .inl ⟨by unfold varC; omega, by rw [plS_35 c3]; rw [show (envD m f).Globals = m.Globals.map (·.Ty) from rfl, getI_map, h45]; rfl⟩) (fun _ _ _ h => h) (.rt rfl) ?_)
  exact VLe.prop ⟨fun _ => by unfold varC; omega, fun _ => trivial⟩
 refine Z6 ?_
 refine Cd (fun c4 => ?_) fun c4 => ?_
 ·
  refine Z5 ?_
  refine .x (cX (h := kglobal_spec hp1 hp2.A0)) rfl (fun h => ⟨by unfold varC; omega, by rw [plS_36 c4]; rw [show (envD m f).Globals = m.Globals.map (·.Ty) from rfl, getI_map, h]; rfl⟩) fun g54 h54 => ?_
  refine .n (opAlloc FZ.out) rfl fun b6 _ => ?_
  refine Z3 ?_
  refine .share (t := 6) (i := 0) rfl rfl ?_
  refine Z4 ?_
  refine .x (cX (h := must_spec (e := 5) (by decide))) rfl (fun h => ⟨by unfold varC; omega, by rw [plS_36 c4]; rw [show (envD m f).Globals = m.Globals.map (·.Ty) from rfl, show (envD m f).Mutable = m.Globals.map (·.Mutable) from rfl, getI_map, getI_map, h54]; simp only [Option.map_some, Option.bind_some]; rw [if_neg h]⟩) fun g57 h57 => ?_
  refine Z6 ?_
  refine .x (cX (h := kpop_spec (s := s) (w := g54.Ty))) rfl (fun h => ⟨by unfold varC; omega, by rw [plS_36 c4]; rw [show (envD m f).Globals = m.Globals.map (·.Ty) from rfl, show (envD m f).Mutable = m.Globals.map (·.Mutable) from rfl, getI_map, getI_map, h54]; simp only [Option.map_some, Option.bind_some]; rw [if_pos h57, tks_one, h]; rfl⟩) fun g61 h61 => ?_
  refine Z9 ?_
  refine .retX (Post.retR1 rfl ((gs, g61.1)) (by exact .inl ⟨by unfold varC; omega, by rw [plS_36 c4]; rw [show (envD m f).Globals = m.Globals.map (·.Ty) from rfl, show (envD m f).Mutable = m.Globals.map (·.Mutable) from rfl, getI_map, getI_map, h54]; simp only [Option.map_some, Option.bind_some]; rw [if_pos h57, tks_one, h61]; rfl⟩) (fun _ _ _ h => h) (.rt rfl) ?_)
  exact VLe.prop ⟨fun _ => by unfold varC; omega, fun _ => trivial⟩
 refine Z8 ?_
 refine .retX (Post.retR1 rfl ((gs, s)) (by exact .inr ⟨by unfold varC; omega, rfl⟩) (fun _ _ _ h => h) (.rt rfl) ?_)
 exact VLe.prop ⟨fun h => h.elim, fun h => by unfold varC at h; omega⟩
theorem kcall_spec {labs : List (List UInt8)} (hp0 : (L0 ++ s.1).length ≤ 60000) (hp1 : CkOk m f) (hp2 : InsOk x) : FnX Tryz.prog 310 211 [addrV cb 0, aggV (encInstr x)] (ckL cb m f gs bb bc L0 B k s) (callC x.Code ∧ plS (envD m f) x s labs = none) (γ := SB × Stk) (fun z => (callC x.Code ∧ plS (envD m f) x s labs = some z.2) ∨ (¬ callC x.Code ∧ z = (gs, s))) (fun z => ckL cb m f z.1 bb bc L0 B k z.2) (fun _ => propV (callC x.Code)) := by
 refine InX 93 Tryz.func211 fun _ _ _ => ?_
 have hsl := hp1.fits.lens.1
 refine Z20 ?_
 refine Cd (fun c0 => ?_) fun c0 => ?_
 ·
  refine Z1 ?_
  refine .stagedK [(0, 0), (1, 0), (2, 0), (3, 0), (4, 1), (5, 0), (6, 0), (7, 0), (8, 0), (9, 0), (10, 0), (11, 0), (12, 4), (13, 3)] 14 1 FM.out (by kernel_rfl) (k := ?_)
  refine Z7 ?_
  refine .p rfl (fun _ => opConvF FU.out FU.out (.t rfl) (fits_i64 (by have := hp2.A0; omega) (by have := hp2.A16 c0; omega))) ?_
  refine .p rfl (fun _ => opCall (msig_spec (m := m) (f := x.A)) FB.out (.cons (.t rfl) (.cons (.t rfl) .nil))) ?_
  refine Z3 ?_
  refine .a rfl (opAlloc FZ.out) (fun _ _ => OLe.drop (OLe.refl _)) fun b5 _ => ?_
  refine .s rfl (opStoreOA (i := 0) FC.out rfl (.t rfl) (.t rfl) rfl rfl rfl) ?_
  refine .fin ?_
  refine Z3 ?_
  refine .share (t := 5) (i := 0) rfl rfl ?_
  refine Z3 ?_
  refine .x (cX (h := must_spec (e := 2) (by decide))) rfl (fun h => ⟨by unfold callC; omega, by rw [plS_16 c0, sigO_getI (f := f) hp1.fits, show sigO m x.A = none by simpa using h]; rfl⟩) fun g25 h25 => ?_
  refine Z2 ?_
  obtain ⟨g, hg⟩ := Option.isSome_iff_exists.1 h25
  simp only [hg, Option.getD_some]
  have hgi : getI (envD m f).Funcs x.A = some g := (sigO_getI (f := f) hp1.fits).trans hg
  refine Z3 ?_
  refine .x (cX (h := kapply_spec (s := s) (g := g) hp0 (by have := (hp1.fits.few g (sig_mem hg)).2; omega))) rfl (fun h => ⟨by unfold callC; omega, by rw [plS_16 c0, hgi]; exact h⟩) fun g28 h28 => ?_
  refine Z9 ?_
  refine .retX (Post.retR1 rfl (g28) (by exact .inl ⟨by unfold callC; omega, by rw [plS_16 c0, hgi]; exact h28⟩) (fun _ _ _ h => h) (.rt rfl) ?_)
  exact VLe.prop ⟨fun _ => by unfold callC; omega, fun _ => trivial⟩
 refine Z6 ?_
 refine Cd (fun c1 => ?_) fun c1 => ?_
 ·
  refine Z1 ?_
  have hA0 := hp2.A0
  refine .drawK 12 18 FM.out (by kernel_rfl) (k := ?_)
  refine Z30 ?_
  refine .x (cX (h := must_spec (e := 2) (by decide))) rfl (fun h => ⟨by unfold callC; omega, by (rw [plS_17 c1]; cases hgg : getI (envD m f).Sigs x.A with | none => rfl | some g => exact if_neg (fun e => h ⟨⟨(getI_get hgg).2.1, e.1⟩, e.2⟩))⟩) fun g60 h60 => ?_
  refine Z3 ?_
  obtain ⟨⟨hlt, hB⟩, hTb⟩ := h60
  obtain ⟨g, hg, hgi⟩ := getI_in (L := m.Sigs) hp2.A0 hlt
  have hgs : getI (envD m f).Sigs x.A = some g := hg
  refine Z2 ?_
  refine .x (cX (h := kpop_spec (s := s) (w := 127))) rfl (fun h => ⟨by unfold callC; omega, by rw [plS_17 c1, hgs, Option.bind_some, if_pos ⟨hB, hTb⟩, tgS, tks_snoc, h]; rfl⟩) fun g62 h62 => ?_
  refine Z2 ?_
  refine .drawK 13 1 FM.out (by kernel_rfl) (k := ?_)
  refine Z11 ?_
  refine .p (cI x.A.toNat (h := hgi) (hi := by have := hp2.A0; omega)) ?_
  refine Z2 ?_
  refine .x (cX (h := kapply_spec (s := g62.1) (g := g) (by simp only [List.length_append] at hp0 ⊢; have := tk1_le h62; omega) (by have := (hp1.fits.few g (List.mem_of_getElem? hgi)).2; omega))) rfl (fun h => ⟨by unfold callC; omega, by rw [plS_17 c1, hgs, Option.bind_some, if_pos ⟨hB, hTb⟩, tgS, tks_snoc, h62]; exact h⟩) fun g76 h76 => ?_
  refine Z9 ?_
  refine .retX (Post.retR1 rfl (g76) (by exact .inl ⟨by unfold callC; omega, by rw [plS_17 c1, hgs, Option.bind_some, if_pos ⟨hB, hTb⟩, tgS, tks_snoc, h62]; exact h76⟩) (fun _ _ _ h => h) (.rt rfl) ?_)
  exact VLe.prop ⟨fun _ => by unfold callC; omega, fun _ => trivial⟩
 refine Z6 ?_
 refine Cd (fun c2 => ?_) fun c2 => ?_
 ·
  refine Z2 ?_
  refine .x (cX (h := kpop_spec (s := s) (w := 0))) rfl (fun h => ⟨by unfold callC; omega, by rw [plS_26 c2, h]; rfl⟩) fun g80 h80 => ?_
  refine Z9 ?_
  refine .retX (Post.retR1 rfl ((gs, g80.1)) (by exact .inl ⟨by unfold callC; omega, by rw [plS_26 c2, h80]; rfl⟩) (fun _ _ _ h => h) (.rt rfl) ?_)
  exact VLe.prop ⟨fun _ => by unfold callC; omega, fun _ => trivial⟩
 refine Z6 ?_
 refine Cd (fun c3 => ?_) fun c3 => ?_
 ·
  refine Z3 ?_
  refine .x (cX (h := kpop_spec (s := s) (w := 127))) rfl (fun h => ⟨by unfold callC; omega, by rw [plS_27 c3, tks_one, h]; rfl⟩) fun g84 h84 => ?_
  refine Z5 ?_
  refine .x (cX (h := kpop_spec (s := g84.1) (w := 0))) rfl (fun h => ⟨by unfold callC; omega, by rw [plS_27 c3, tks_one, h84]; simp only [Option.map_some, Option.bind_some]; rw [h]; rfl⟩) fun g86 h86 => ?_
  refine Z7 ?_
  refine .x (cX (h := kpop_spec (s := g86.1) (w := g86.2))) rfl (fun h => ⟨by unfold callC; omega, by rw [plS_27 c3, tks_one, h84]; simp only [Option.map_some, Option.bind_some]; rw [h86, Option.bind_some, h]; rfl⟩) fun g90 h90 => ?_
  refine .p (cB encU8 [_]) rfl ?_
  refine .n (cE (h := kpush_spec (st := L0 ++ g90.1.1) (l := [g90.2]) (st2 := L0 ++ (giveS g90.1 [g90.2]).1) (by simp only [List.length_append] at hp0 ⊢; have := tk1_le h84; have := tk1_le h86; have := tk1_le h90; omega) (by simp) (by simp [giveS]))) rfl fun g92 h92 => ?_
  refine Z9 ?_
  refine .retX (Post.retR1 rfl ((g92, giveS g90.1 [g90.2])) (by exact .inl ⟨by unfold callC; omega, by rw [plS_27 c3, tks_one, h84]; simp only [Option.map_some, Option.bind_some]; rw [h86, Option.bind_some, h90]; rfl⟩) (fun _ _ _ h => h) (.rt rfl) ?_)
  exact VLe.prop ⟨fun _ => by unfold callC; omega, fun _ => trivial⟩
 refine Z8 ?_
 refine .retX (Post.retR1 rfl ((gs, s)) (by exact .inr ⟨by unfold callC; omega, rfl⟩) (fun _ _ _ h => h) (.rt rfl) ?_)
 exact VLe.prop ⟨fun h => h.elim, fun h => by unfold callC at h; omega⟩
theorem kbranch_spec (hp0 : B.length ≤ 50000) (hp1 : InsOk x) : FnX Tryz.prog 310 232 [addrV cb 0, aggV (encInstr x)] (ckL cb m f gs bb bc L0 B k s) (∀ v : EnvD, x.Code = 14 → plS v x s ((B ++ [bkF L0.length k s]).map labB) = none) (γ := Unit) (fun _ => ∀ v : EnvD, x.Code = 14 → plS v x s ((B ++ [bkF L0.length k s]).map labB) = some killS) (fun _ => ckL cb m f gs bb bc L0 B k killS) (fun _ => tupV []) := by
 refine InX 45 Tryz.func232 fun _ _ _ => ?_
 have hBl : (B ++ [bkF L0.length k s]).length ≤ 60000 := by simp; omega
 have hLn := hp1.Ln
 refine Z10 ?_
 refine .x (cXi [_] [0,2,1] (h := klabel_spec (n := x.A) hBl hp1.A0)) rfl (fun h v h14 => by rw [plS_14 h14, h]; rfl) fun g12 h12 => ?_
 refine Z13 ?_
 refine .loopO (σ := Nat) (fun _ => _) (fun j => [(16, intV .i64 (j : Int))]) (fun j => j ≤ x.L.length) (fun j => x.L.length - j) 0 (Nat.zero_le _) rfl ?_ ?_
 · exact (.get rfl (VLe.refl _) (.refl _ _))
 rintro j hj
 refine Z6 ?_
 refine Cd (fun c0 => ?_) fun c0 => ?_
 ·
  obtain ⟨n0, hn0⟩ := getElem?_lt (xs := x.L) (k := j) (by omega)
  have hnp := hp1.L0 n0 (List.mem_of_getElem? hn0)
  refine Z6 ?_
  refine .p (cI j (h := hn0)) rfl ?_
  refine Z7 ?_
  refine .x (cX (h := klabel_spec (n := n0) hBl hnp)) rfl (fun h v h14 => by rw [plS_14 h14, h12, Option.bind_some, if_neg (fun e => by have h9 := e n0 (List.mem_of_getElem? hn0); rw [h] at h9; cases h9)]) fun g22 h22 => ?_
  refine Z7 ?_
  refine .round (j + 1) (by omega) (by omega) rfl ?_
  exact (.get rfl (VLe.int (by omega)) ((.keep 10 rfl rfl)))
 refine Z15 ?_
 refine .loopO (σ := Nat) (fun _ => _) (fun j => [(27, intV .i64 (j : Int))]) (fun j => j ≤ x.L.length ∧ ∀ n ∈ x.L.take j, labAt ((B ++ [bkF L0.length k s]).map labB) n = some g12) (fun j => x.L.length - j) 0 ⟨Nat.zero_le _, fun n hn => by simp at hn⟩ rfl ?_ ?_
 · exact (.get rfl (VLe.refl _) (.refl _ _))
 rintro j ⟨hj, hall⟩
 refine Z6 ?_
 refine Cd (fun c1 => ?_) fun c1 => ?_
 ·
  obtain ⟨n0, hn0⟩ := getElem?_lt (xs := x.L) (k := j) (by omega)
  have hnp := hp1.L0 n0 (List.mem_of_getElem? hn0)
  refine Z6 ?_
  refine .p (cI j (h := hn0)) rfl ?_
  refine Z7 ?_
  refine .x (cX (h := klabel_spec (n := n0) hBl hnp)) rfl (fun h v h14 => by rw [plS_14 h14, h12, Option.bind_some, if_neg (fun e => by have h9 := e n0 (List.mem_of_getElem? hn0); rw [h] at h9; cases h9)]) fun g33 h33 => ?_
  refine Z1 ?_
  refine .p (cA (h := eqType_spec)) rfl ?_
  refine .x (cX (h := must_spec (e := 5) (by decide))) rfl (fun h v h14 => by rw [plS_14 h14, h12, Option.bind_some, if_neg (fun e => by have h9 := e n0 (List.mem_of_getElem? hn0); rw [h33] at h9; exact h (Option.some.inj h9))]) fun g36 h36 => ?_
  refine Z7 ?_
  refine .round (j + 1) ⟨by omega, fun n hn => by (rw [← take_snoc hn0] at hn; rcases List.mem_append.1 hn with hn | hn; exact hall n hn; (simp only [List.mem_singleton] at hn; subst hn; rw [h33, h36]))⟩ (by omega) rfl ?_
  exact (.get rfl (VLe.int (by omega)) ((.keep 13 rfl rfl)))
 have hall2 : ∀ n ∈ x.L, labAt ((B ++ [bkF L0.length k s]).map labB) n = some g12 := fun n hn => hall n (by rw [List.take_of_length_le (by omega)]; exact hn)
 refine Z8 ?_
 refine .x (cXi [] [0,2,1] (h := kpop_spec (s := s) (w := 127))) rfl (fun h v h14 => by rw [plS_14 h14, h12, Option.bind_some, if_pos hall2, tks_snoc, h]; rfl) fun g39 h39 => ?_
 refine Z6 ?_
 refine .x (cX (h := kpops_spec (s := g39.1) (l := g12))) rfl (fun h v h14 => by rw [plS_14 h14, h12, Option.bind_some, if_pos hall2, tks_snoc, h39, Option.bind_some, h]; rfl) fun g42 h42 => ?_
 refine Z4 ?_
 refine .n (cE (h := kkill_spec (s := g42))) rfl fun g44 h44 => ?_
 refine Z1 ?_
 refine .norX (Post.retR0 rfl (()) (by exact fun v h14 => by rw [plS_14 h14, h12, Option.bind_some, if_pos hall2, tks_snoc, h39, Option.bind_some, h42]; rfl) (fun _ _ _ h => h) rfl)
end Go.Proofs.YtpahnbgfmhcndaaGreatDoor
end
