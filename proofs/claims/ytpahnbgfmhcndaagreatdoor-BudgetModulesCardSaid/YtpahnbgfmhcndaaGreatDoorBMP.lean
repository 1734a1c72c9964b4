/-
  What the statement's proof leans on, several texts in one (packed by a program).
-/
import Derived.Test.YtpahnbgfmhcndaaGreatDoorBMO
set_option linter.all false
set_option maxRecDepth 1000000
set_option maxHeartbeats 4000000
section
namespace Go.Proofs.YtpahnbgfmhcndaaGreatDoor
open Go.Hl Go.RowKit
variable {v : EnvD} {x : InstrD} {s : Stk} {base : Int} {labs : List (List UInt8)}
theorem dp8_spec (hp0 : PlOk v x s labs) (hp1 : ¬ ctlC x.Code) (hp2 : ¬ varC x.Code) (hp3 : ¬ callC x.Code) (hp4 : formR x.Code = 8) : FnE Tryz.prog 97 [aggV (encEnv v), aggV (encInstr x), aggV (encStk s base), sliceV 1 encSlT labs] [] (γ := Stk × Int) (plQ s (plS v x s labs)) (fun _ => []) (fun g => tupV [aggV (encStk g.1 base), intV .i64 g.2]) := by
 refine In 517 Tryz.func97 fun _ _ _ => ?_
 have hs5 := hp0.stk
 have hA0 := hp0.ins.A0
 have hA6 := hp0.ins.A64
 have hln := hp0.lbn
 have hE := hp0.env
 have hf1 := hE.F
 have hf2 := hE.S
 have hf3 := hE.L
 have hf4 := hE.G
 have hf5 := hE.W
 have hp1b := hp1
 have hp2b := hp2
 have hp3b := hp3
 unfold ctlC at hp1b
 unfold varC at hp2b
 unfold callC at hp3b
 have htl := takes_len x.Code
 obtain ⟨t0, tl, htk⟩ := takes_8 hp4
 have htk1 : 1 ≤ (takesR x.Code).1.length := by rw [htk]; simp
 have ha0 := hp0.ins.a0
 have ha1 := hp0.ins.a31
 refine Z4 ?_
 refine .n (opBoxOA (.t rfl)) rfl fun b6 _ => ?_
 refine .n (opAlloc FZ.out) rfl fun b8 _ => ?_
 refine Z35 ?_
 refine Cd (fun c0 => ?_) fun c0 => ?_
 · exfalso; omega
 refine Z7 ?_
 refine Cd (fun c1 => ?_) fun c1 => ?_
 · exfalso; omega
 refine Z5 ?_
 refine Cd (fun c2 => ?_) fun c2 => ?_
 · exfalso; omega
 refine Z6 ?_
 refine Cd (fun c3 => ?_) fun c3 => ?_
 · exfalso; omega
 refine Z6 ?_
 refine Cd (fun c4 => ?_) fun c4 => ?_
 · exfalso; omega
 refine Z6 ?_
 refine Cd (fun c5 => ?_) fun c5 => ?_
 · exfalso; omega
 refine Z6 ?_
 refine Cd (fun c6 => ?_) fun c6 => ?_
 · exfalso; omega
 refine Z6 ?_
 refine Cd (fun c7 => ?_) fun c7 => ?_
 · exfalso; omega
 refine Z6 ?_
 refine Cd (fun c8 => ?_) fun c8 => ?_
 · exfalso; omega
 refine Z7 ?_
 refine Cd (fun c9 => ?_) fun c9 => ?_
 · exfalso; omega
 refine Z6 ?_
 refine Cd (fun c10 => ?_) fun c10 => ?_
 · exfalso; omega
 refine Z5 ?_
 refine Cd (fun c11 => ?_) fun c11 => ?_
 · exfalso; omega
 refine Z7 ?_
 refine Cd (fun c12 => ?_) fun c12 => ?_
 · exfalso; omega
 refine Z5 ?_
 refine Cd (fun c13 => ?_) fun c13 => ?_
 · exfalso; omega
 refine Z7 ?_
 refine .p (cA (h := rform_spec)) rfl ?_
 refine Z7 ?_
 refine .p (cA (h := rtakes_spec)) rfl ?_
 refine Z18 ?_
 refine Cd (fun c14 => ?_) fun c14 => ?_
 · exfalso; omega
 refine Z27 ?_
 refine Cd (fun c15 => ?_) fun c15 => ?_
 ·
  refine Z9 ?_
  refine Post.retR rfl rfl ((s, 2)) (by exact plQ_no (by decide) (by (rw [plS_mem hp1 hp2 hp3 (by omega), memS_8 hp4]; rcases c15 with h | ⟨h, h2⟩; (rw [getI_no h]; rfl); omega)) (by omega)) (OLe.sel [] [0, 1] rfl rfl) rfl (.cons (.ra (i := 0) FA.out FC.out rfl rfl rfl rfl) ?_ (.cons (.rt rfl) ?_ .nil))
  · exact VLe.refl _
  exact VLe.refl _
 obtain ⟨wa, hw, hw2⟩ := getI_at (L := v.Wide) hA0 (fun h => c15 (.inl h))
 refine Z8 ?_
 refine .cut (σ := Unit) (fun _ => [cellsH b8 (List.map exactV [.slice none 0 0, .bool false, .int .i64 0]), cellsH b6 (encStk s base)]) (fun _ => [(25, intV .u8 ((adrW wa : UInt8).toNat : Int))]) (fun _ => True) ?_ ?_
 ·
  refine Z6 ?_
  refine .p (cI x.A.toNat (h := hw2)) rfl ?_
  refine Z3 ?_
  refine Cd (fun c16 => ?_) fun c16 => ?_
  ·
   refine Z4 ?_
   refine .meet () trivial rfl (.get rfl (VLe.of_eq (by rw [show adrW wa = 126 from adrW_t c16]; rfl)) (.keep 8 rfl rfl))
  refine Z1 ?_
  refine .meet () trivial rfl (.get rfl (VLe.of_eq (by rw [show adrW wa = 127 from adrW_f c16]; rfl)) (.keep 6 rfl rfl))
 intro _ _
 refine Z9 ?_
 refine Cd (fun c17 => ?_) fun c17 => ?_
 ·
  refine Z7 ?_
  refine .p (cI x.A.toNat (h := hw2)) rfl ?_
  refine Z9 ?_
  refine Cd (fun c18 => ?_) fun c18 => ?_
  ·
   refine Z11 ?_
   refine Post.retR rfl rfl ((s, 2)) (by exact plQ_no (by decide) (by rw [plS_mem hp1 hp2 hp3 (by omega), memS_8 hp4, hw, Option.bind_some]; exact if_pos (.inl c18)) (by omega)) (OLe.sel [] [0, 1] rfl rfl) rfl (.cons (.ra (i := 0) FA.out FC.out rfl rfl rfl rfl) ?_ (.cons (.rt rfl) ?_ .nil))
   · exact VLe.refl _
   exact VLe.refl _
  refine Z14 ?_
  refine .loopO (σ := Nat) (fun _ => [cellsH b8 (List.map exactV [.slice none 0 0, .bool false, .int .i64 0]), cellsH b6 (encStk s base)]) (fun k => [(26, intV .i64 ((2 : Int) ^ k)), (27, intV .i64 (k : Int))]) (fun k => k ≤ x.Align.toNat) (fun k => x.Align.toNat - k) 0 (Nat.zero_le _) rfl ?_ ?_
  · exact (.get rfl (VLe.int (by show (1 : Int) = 2 ^ 0; rfl)) (.get rfl (VLe.refl _) (.refl _ _)))
  rintro k hk
  refine Z9 ?_
  refine Cd (fun c19 => ?_) fun c19 => ?_
  ·
   have hpk := pw31 (k := k) (by omega)
   refine Z16 ?_
   refine .round (k + 1) (by omega) (by omega) rfl ?_
   exact (.get rfl (VLe.int (by show (_ : Int) = 2 ^ (k + 1); rw [Int.pow_succ]; omega)) (.get rfl (VLe.int (by omega)) ((.keep 12 rfl rfl))))
  have hkk : k = x.Align.toNat := by omega
  subst hkk
  refine Z11 ?_
  refine .p (cA (h := rwidth_spec)) rfl ?_
  refine Z3 ?_
  refine Cd (fun c20 => ?_) fun c20 => ?_
  ·
   refine Z11 ?_
   refine Post.retR rfl rfl ((s, 5)) (by exact plQ_no (by decide) (by rw [plS_mem hp1 hp2 hp3 (by omega), memS_8 hp4, hw, Option.bind_some]; exact if_pos (.inr c20)) (by omega)) (OLe.sel [] [0, 1] rfl rfl) rfl (.cons (.ra (i := 0) FA.out FC.out rfl rfl rfl rfl) ?_ (.cons (.rt rfl) ?_ .nil))
   · exact VLe.refl _
   exact VLe.refl _
  refine Z4 ?_
  refine .n (opBuildSliceO encU8 [adrW wa] FU.out FC.out rfl FZ.out rfl (.cons (.t rfl) .nil) rfl rfl rfl rfl rfl) rfl fun g481 _ => ?_
  refine Z1 ?_
  refine .p (opSliceLo FU.out FC.out rfl (.t rfl) (.c _) rfl (by omega)) rfl ?_
  refine .n (OpE.shareS (G := fun g => g) (hs1 := fun _ => _) (xs := fun _ => _) (opAppend (i := 0) FU.out FU.out FC.out rfl FZ.out rfl FY.out (.t rfl) (.t rfl) rfl (by rw [htk] at htl ⊢; simp at htl ⊢; omega) (by rw [htk] at htl ⊢; simp at htl ⊢; omega))) rfl fun _ _ => ?_
  refine Z8 ?_
  refine .n (cE (h := dtakes_spec (s := s) (l := [adrW wa] ++ List.drop 1 (takesR x.Code).1) (by omega))) rfl fun g510 h510 => ?_
  refine Z11 ?_
  refine .n (cE (h := dgive_spec (s := g510.1) (l := (takesR x.Code).2) (by have := h510.2; omega) (by omega))) rfl fun g515 h515 => ?_
  refine Z6 ?_
  refine Post.retR rfl rfl ((giveS g510.1 (takesR x.Code).2, g510.2)) (by exact plQ_tg (by rw [plS_mem hp1 hp2 hp3 (by omega), memS_8 hp4, hw, Option.bind_some, ← List.drop_one]; exact if_neg (by rintro (h | h); exact c18 h; exact c20 h)) h510 (by omega)) (OLe.sel [] [0, 1] rfl rfl) rfl (.cons (.ra (i := 0) FA.out FC.out rfl rfl rfl rfl) ?_ (.cons (.rt rfl) ?_ .nil))
  · exact VLe.refl _
  exact VLe.refl _
 exfalso; omega
theorem dp63_spec (hp0 : PlOk v x s labs) (hp1 : x.Code = 63) : FnE Tryz.prog 97 [aggV (encEnv v), aggV (encInstr x), aggV (encStk s base), sliceV 1 encSlT labs] [] (γ := Stk × Int) (plQ s (plS v x s labs)) (fun _ => []) (fun g => tupV [aggV (encStk g.1 base), intV .i64 g.2]) := by
 refine In 517 Tryz.func97 fun _ _ _ => ?_
 have hs5 := hp0.stk
 have hA0 := hp0.ins.A0
 have hA6 := hp0.ins.A64
 have hln := hp0.lbn
 have hE := hp0.env
 have hf1 := hE.F
 have hf2 := hE.S
 have hf3 := hE.L
 have hf4 := hE.G
 have hf5 := hE.W
 have hf : formR x.Code = 9 := by rw [hp1]; decide
 have htl := takes_len x.Code
 refine Z4 ?_
 refine .n (opBoxOA (.t rfl)) rfl fun b6 _ => ?_
 refine .n (opAlloc FZ.out) rfl fun b8 _ => ?_
 refine Z35 ?_
 refine Cd (fun c0 => ?_) fun c0 => ?_
 · exfalso; omega
 refine Z7 ?_
 refine Cd (fun c1 => ?_) fun c1 => ?_
 · exfalso; omega
 refine Z5 ?_
 refine Cd (fun c2 => ?_) fun c2 => ?_
 · exfalso; omega
 refine Z6 ?_
 refine Cd (fun c3 => ?_) fun c3 => ?_
 · exfalso; omega
 refine Z6 ?_
 refine Cd (fun c4 => ?_) fun c4 => ?_
 · exfalso; omega
 refine Z6 ?_
 refine Cd (fun c5 => ?_) fun c5 => ?_
 · exfalso; omega
 refine Z6 ?_
 refine Cd (fun c6 => ?_) fun c6 => ?_
 · exfalso; omega
 refine Z6 ?_
 refine Cd (fun c7 => ?_) fun c7 => ?_
 · exfalso; omega
 refine Z6 ?_
 refine Cd (fun c8 => ?_) fun c8 => ?_
 · exfalso; omega
 refine Z7 ?_
 refine Cd (fun c9 => ?_) fun c9 => ?_
 · exfalso; omega
 refine Z6 ?_
 refine Cd (fun c10 => ?_) fun c10 => ?_
 · exfalso; omega
 refine Z5 ?_
 refine Cd (fun c11 => ?_) fun c11 => ?_
 · exfalso; omega
 refine Z7 ?_
 refine Cd (fun c12 => ?_) fun c12 => ?_
 · exfalso; omega
 refine Z5 ?_
 refine Cd (fun c13 => ?_) fun c13 => ?_
 · exfalso; omega
 refine Z7 ?_
 refine .p (cA (h := rform_spec)) rfl ?_
 refine Z7 ?_
 refine .p (cA (h := rtakes_spec)) rfl ?_
 refine Z18 ?_
 refine Cd (fun c14 => ?_) fun c14 => ?_
 · exfalso; omega
 refine Z27 ?_
 refine Cd (fun c15 => ?_) fun c15 => ?_
 ·
  refine Z9 ?_
  refine Post.retR rfl rfl ((s, 2)) (by exact plQ_no (by decide) (by (rw [plS_mem (by unfold ctlC; omega) (by unfold varC; omega) (by unfold callC; omega) (by omega), memS_63 hp1]; rcases c15 with h | ⟨h, h2⟩; (rw [getI_no h]; rfl); omega)) (by omega)) (OLe.sel [] [0, 1] rfl rfl) rfl (.cons (.ra (i := 0) FA.out FC.out rfl rfl rfl rfl) ?_ (.cons (.rt rfl) ?_ .nil))
  · exact VLe.refl _
  exact VLe.refl _
 obtain ⟨wa, hw, hw2⟩ := getI_at (L := v.Wide) hA0 (fun h => c15 (.inl h))
 refine Z8 ?_
 refine .cut (σ := Unit) (fun _ => [cellsH b8 (List.map exactV [.slice none 0 0, .bool false, .int .i64 0]), cellsH b6 (encStk s base)]) (fun _ => [(25, intV .u8 ((adrW wa : UInt8).toNat : Int))]) (fun _ => True) ?_ ?_
 ·
  refine Z6 ?_
  refine .p (cI x.A.toNat (h := hw2)) rfl ?_
  refine Z3 ?_
  refine Cd (fun c16 => ?_) fun c16 => ?_
  ·
   refine Z4 ?_
   refine .meet () trivial rfl (.get rfl (VLe.of_eq (by rw [show adrW wa = 126 from adrW_t c16]; rfl)) (.keep 8 rfl rfl))
  refine Z1 ?_
  refine .meet () trivial rfl (.get rfl (VLe.of_eq (by rw [show adrW wa = 127 from adrW_f c16]; rfl)) (.keep 6 rfl rfl))
 intro _ _
 refine Z9 ?_
 refine Cd (fun c17 => ?_) fun c17 => ?_
 · exfalso; omega
 refine Z8 ?_
 refine Cd (fun c18 => ?_) fun c18 => ?_
 ·
  refine Z2 ?_
  refine .p (cB encU8 [adrW wa]) rfl ?_
  refine Z8 ?_
  refine .n (cE (h := dtakes_spec (s := s) (l := (takesR x.Code).1) (by omega))) rfl fun g510 h510 => ?_
  refine Z11 ?_
  refine .n (cE (h := dgive_spec (s := g510.1) (l := [adrW wa]) (by have := h510.2; omega) (by simp))) rfl fun g515 h515 => ?_
  refine Z6 ?_
  refine Post.retR rfl rfl ((giveS g510.1 [adrW wa], g510.2)) (by exact plQ_tg (by rw [plS_mem (by unfold ctlC; omega) (by unfold varC; omega) (by unfold callC; omega) (by omega), memS_63 hp1, hw, Option.bind_some, show (takesR x.Code).1 = [] by rw [hp1]; rfl]; rfl) h510 (by simp)) (OLe.sel [] [0, 1] rfl rfl) rfl (.cons (.ra (i := 0) FA.out FC.out rfl rfl rfl rfl) ?_ (.cons (.rt rfl) ?_ .nil))
  · exact VLe.refl _
  exact VLe.refl _
 exfalso; omega
theorem dp64_spec (hp0 : PlOk v x s labs) (hp1 : x.Code = 64) : FnE Tryz.prog 97 [aggV (encEnv v), aggV (encInstr x), aggV (encStk s base), sliceV 1 encSlT labs] [] (γ := Stk × Int) (plQ s (plS v x s labs)) (fun _ => []) (fun g => tupV [aggV (encStk g.1 base), intV .i64 g.2]) := by
 refine In 517 Tryz.func97 fun _ _ _ => ?_
 have hs5 := hp0.stk
 have hA0 := hp0.ins.A0
 have hA6 := hp0.ins.A64
 have hln := hp0.lbn
 have hE := hp0.env
 have hf1 := hE.F
 have hf2 := hE.S
 have hf3 := hE.L
 have hf4 := hE.G
 have hf5 := hE.W
 have hf : formR x.Code = 9 := by rw [hp1]; decide
 have htl := takes_len x.Code
 refine Z4 ?_
 refine .n (opBoxOA (.t rfl)) rfl fun b6 _ => ?_
 refine .n (opAlloc FZ.out) rfl fun b8 _ => ?_
 refine Z35 ?_
 refine Cd (fun c0 => ?_) fun c0 => ?_
 · exfalso; omega
 refine Z7 ?_
 refine Cd (fun c1 => ?_) fun c1 => ?_
 · exfalso; omega
 refine Z5 ?_
 refine Cd (fun c2 => ?_) fun c2 => ?_
 · exfalso; omega
 refine Z6 ?_
 refine Cd (fun c3 => ?_) fun c3 => ?_
 · exfalso; omega
 refine Z6 ?_
 refine Cd (fun c4 => ?_) fun c4 => ?_
 · exfalso; omega
 refine Z6 ?_
 refine Cd (fun c5 => ?_) fun c5 => ?_
 · exfalso; omega
 refine Z6 ?_
 refine Cd (fun c6 => ?_) fun c6 => ?_
 · exfalso; omega
 refine Z6 ?_
 refine Cd (fun c7 => ?_) fun c7 => ?_
 · exfalso; omega
 refine Z6 ?_
 refine Cd (fun c8 => ?_) fun c8 => ?_
 · exfalso; omega
 refine Z7 ?_
 refine Cd (fun c9 => ?_) fun c9 => ?_
 · exfalso; omega
 refine Z6 ?_
 refine Cd (fun c10 => ?_) fun c10 => ?_
 · exfalso; omega
 refine Z5 ?_
 refine Cd (fun c11 => ?_) fun c11 => ?_
 · exfalso; omega
 refine Z7 ?_
 refine Cd (fun c12 => ?_) fun c12 => ?_
 · exfalso; omega
 refine Z5 ?_
 refine Cd (fun c13 => ?_) fun c13 => ?_
 · exfalso; omega
 refine Z7 ?_
 refine .p (cA (h := rform_spec)) rfl ?_
 refine Z7 ?_
 refine .p (cA (h := rtakes_spec)) rfl ?_
 refine Z18 ?_
 refine Cd (fun c14 => ?_) fun c14 => ?_
 · exfalso; omega
 refine Z27 ?_
 refine Cd (fun c15 => ?_) fun c15 => ?_
 ·
  refine Z9 ?_
  refine Post.retR rfl rfl ((s, 2)) (by exact plQ_no (by decide) (by (rw [plS_mem (by unfold ctlC; omega) (by unfold varC; omega) (by unfold callC; omega) (by omega), memS_64 hp1]; rcases c15 with h | ⟨h, h2⟩; (rw [getI_no h]; rfl); omega)) (by omega)) (OLe.sel [] [0, 1] rfl rfl) rfl (.cons (.ra (i := 0) FA.out FC.out rfl rfl rfl rfl) ?_ (.cons (.rt rfl) ?_ .nil))
  · exact VLe.refl _
  exact VLe.refl _
 obtain ⟨wa, hw, hw2⟩ := getI_at (L := v.Wide) hA0 (fun h => c15 (.inl h))
 refine Z8 ?_
 refine .cut (σ := Unit) (fun _ => [cellsH b8 (List.map exactV [.slice none 0 0, .bool false, .int .i64 0]), cellsH b6 (encStk s base)]) (fun _ => [(25, intV .u8 ((adrW wa : UInt8).toNat : Int))]) (fun _ => True) ?_ ?_
 ·
  refine Z6 ?_
  refine .p (cI x.A.toNat (h := hw2)) rfl ?_
  refine Z3 ?_
  refine Cd (fun c16 => ?_) fun c16 => ?_
  ·
   refine Z4 ?_
   refine .meet () trivial rfl (.get rfl (VLe.of_eq (by rw [show adrW wa = 126 from adrW_t c16]; rfl)) (.keep 8 rfl rfl))
  refine Z1 ?_
  refine .meet () trivial rfl (.get rfl (VLe.of_eq (by rw [show adrW wa = 127 from adrW_f c16]; rfl)) (.keep 6 rfl rfl))
 intro _ _
 refine Z9 ?_
 refine Cd (fun c17 => ?_) fun c17 => ?_
 · exfalso; omega
 refine Z8 ?_
 refine Cd (fun c18 => ?_) fun c18 => ?_
 · exfalso; omega
 refine Z8 ?_
 refine Cd (fun c19 => ?_) fun c19 => ?_
 ·
  refine Z2 ?_
  refine .p (cB encU8 [adrW wa]) rfl ?_
  refine Z1 ?_
  refine .p (cB encU8 [adrW wa]) rfl ?_
  refine Z9 ?_
  refine .n (cE (h := dtakes_spec (s := s) (l := [adrW wa]) (by omega))) rfl fun g510 h510 => ?_
  refine Z11 ?_
  refine .n (cE (h := dgive_spec (s := g510.1) (l := [adrW wa]) (by have := h510.2; omega) (by simp))) rfl fun g515 h515 => ?_
  refine Z6 ?_
  refine Post.retR rfl rfl ((giveS g510.1 [adrW wa], g510.2)) (by exact plQ_tg (by rw [plS_mem (by unfold ctlC; omega) (by unfold varC; omega) (by unfold callC; omega) (by omega), memS_64 hp1, hw, Option.bind_some]) h510 (by simp)) (OLe.sel [] [0, 1] rfl rfl) rfl (.cons (.ra (i := 0) FA.out FC.out rfl rfl rfl rfl) ?_ (.cons (.rt rfl) ?_ .nil))
  · exact VLe.refl _
  exact VLe.refl _
 exfalso; omega
theorem dpfill_spec (hp0 : PlOk v x s labs) (hp1 : x.Code = 64523) : FnE Tryz.prog 97 [aggV (encEnv v), aggV (encInstr x), aggV (encStk s base), sliceV 1 encSlT labs] [] (γ := Stk × Int) (plQ s (plS v x s labs)) (fun _ => []) (fun g => tupV [aggV (encStk g.1 base), intV .i64 g.2]) := by
 refine In 517 Tryz.func97 fun _ _ _ => ?_
 have hs5 := hp0.stk
 have hA0 := hp0.ins.A0
 have hA6 := hp0.ins.A64
 have hln := hp0.lbn
 have hE := hp0.env
 have hf1 := hE.F
 have hf2 := hE.S
 have hf3 := hE.L
 have hf4 := hE.G
 have hf5 := hE.W
 have hf : formR x.Code = 9 := by rw [hp1]; decide
 have htl := takes_len x.Code
 refine Z4 ?_
 refine .n (opBoxOA (.t rfl)) rfl fun b6 _ => ?_
 refine .n (opAlloc FZ.out) rfl fun b8 _ => ?_
 refine Z35 ?_
 refine Cd (fun c0 => ?_) fun c0 => ?_
 · exfalso; omega
 refine Z7 ?_
 refine Cd (fun c1 => ?_) fun c1 => ?_
 · exfalso; omega
 refine Z5 ?_
 refine Cd (fun c2 => ?_) fun c2 => ?_
 · exfalso; omega
 refine Z6 ?_
 refine Cd (fun c3 => ?_) fun c3 => ?_
 · exfalso; omega
 refine Z6 ?_
 refine Cd (fun c4 => ?_) fun c4 => ?_
 · exfalso; omega
 refine Z6 ?_
 refine Cd (fun c5 => ?_) fun c5 => ?_
 · exfalso; omega
 refine Z6 ?_
 refine Cd (fun c6 => ?_) fun c6 => ?_
 · exfalso; omega
 refine Z6 ?_
 refine Cd (fun c7 => ?_) fun c7 => ?_
 · exfalso; omega
 refine Z6 ?_
 refine Cd (fun c8 => ?_) fun c8 => ?_
 · exfalso; omega
 refine Z7 ?_
 refine Cd (fun c9 => ?_) fun c9 => ?_
 · exfalso; omega
 refine Z6 ?_
 refine Cd (fun c10 => ?_) fun c10 => ?_
 · exfalso; omega
 refine Z5 ?_
 refine Cd (fun c11 => ?_) fun c11 => ?_
 · exfalso; omega
 refine Z7 ?_
 refine Cd (fun c12 => ?_) fun c12 => ?_
 · exfalso; omega
 refine Z5 ?_
 refine Cd (fun c13 => ?_) fun c13 => ?_
 · exfalso; omega
 refine Z7 ?_
 refine .p (cA (h := rform_spec)) rfl ?_
 refine Z7 ?_
 refine .p (cA (h := rtakes_spec)) rfl ?_
 refine Z18 ?_
 refine Cd (fun c14 => ?_) fun c14 => ?_
 · exfalso; omega
 refine Z27 ?_
 refine Cd (fun c15 => ?_) fun c15 => ?_
 ·
  refine Z9 ?_
  refine Post.retR rfl rfl ((s, 2)) (by exact plQ_no (by decide) (by (rw [plS_mem (by unfold ctlC; omega) (by unfold varC; omega) (by unfold callC; omega) (by omega), memS_fill hp1]; rcases c15 with h | ⟨h, h2⟩; (rw [getI_no h]; rfl); omega)) (by omega)) (OLe.sel [] [0, 1] rfl rfl) rfl (.cons (.ra (i := 0) FA.out FC.out rfl rfl rfl rfl) ?_ (.cons (.rt rfl) ?_ .nil))
  · exact VLe.refl _
  exact VLe.refl _
 obtain ⟨wa, hw, hw2⟩ := getI_at (L := v.Wide) hA0 (fun h => c15 (.inl h))
 refine Z8 ?_
 refine .cut (σ := Unit) (fun _ => [cellsH b8 (List.map exactV [.slice none 0 0, .bool false, .int .i64 0]), cellsH b6 (encStk s base)]) (fun _ => [(25, intV .u8 ((adrW wa : UInt8).toNat : Int))]) (fun _ => True) ?_ ?_
 ·
  refine Z6 ?_
  refine .p (cI x.A.toNat (h := hw2)) rfl ?_
  refine Z3 ?_
  refine Cd (fun c16 => ?_) fun c16 => ?_
  ·
   refine Z4 ?_
   refine .meet () trivial rfl (.get rfl (VLe.of_eq (by rw [show adrW wa = 126 from adrW_t c16]; rfl)) (.keep 8 rfl rfl))
  refine Z1 ?_
  refine .meet () trivial rfl (.get rfl (VLe.of_eq (by rw [show adrW wa = 127 from adrW_f c16]; rfl)) (.keep 6 rfl rfl))
 intro _ _
 refine Z9 ?_
 refine Cd (fun c17 => ?_) fun c17 => ?_
 · exfalso; omega
 refine Z8 ?_
 refine Cd (fun c18 => ?_) fun c18 => ?_
 · exfalso; omega
 refine Z8 ?_
 refine Cd (fun c19 => ?_) fun c19 => ?_
 · exfalso; omega
 refine Z8 ?_
 refine Cd (fun c20 => ?_) fun c20 => ?_
 ·
  refine Z4 ?_
  refine .p (cB encU8 [adrW wa, 127, adrW wa]) rfl ?_
  refine Z8 ?_
  refine .n (cE (h := dtakes_spec (s := s) (l := [adrW wa, 127, adrW wa]) (by omega))) rfl fun g510 h510 => ?_
  refine Z11 ?_
  refine .n (cE (h := dgive_spec (s := g510.1) (l := (takesR x.Code).2) (by have := h510.2; omega) (by omega))) rfl fun g515 h515 => ?_
  refine Z6 ?_
  refine Post.retR rfl rfl ((giveS g510.1 (takesR x.Code).2, g510.2)) (by exact plQ_tg (by rw [plS_mem (by unfold ctlC; omega) (by unfold varC; omega) (by unfold callC; omega) (by omega), memS_fill hp1, hw, Option.bind_some, show (takesR x.Code).2 = [] by rw [hp1]; rfl, tgS_nil_out]) h510 (by omega)) (OLe.sel [] [0, 1] rfl rfl) rfl (.cons (.ra (i := 0) FA.out FC.out rfl rfl rfl rfl) ?_ (.cons (.rt rfl) ?_ .nil))
  · exact VLe.refl _
  exact VLe.refl _
 exfalso; omega
theorem dpcopy_spec (hp0 : PlOk v x s labs) (hp1 : x.Code = 64522) : FnE Tryz.prog 97 [aggV (encEnv v), aggV (encInstr x), aggV (encStk s base), sliceV 1 encSlT labs] [] (γ := Stk × Int) (plQ s (plS v x s labs)) (fun _ => []) (fun g => tupV [aggV (encStk g.1 base), intV .i64 g.2]) := by
 refine In 517 Tryz.func97 fun _ _ _ => ?_
 have hs5 := hp0.stk
 have hA0 := hp0.ins.A0
 have hA6 := hp0.ins.A64
 have hln := hp0.lbn
 have hE := hp0.env
 have hf1 := hE.F
 have hf2 := hE.S
 have hf3 := hE.L
 have hf4 := hE.G
 have hf5 := hE.W
 have hf : formR x.Code = 10 := by rw [hp1]; decide
 have htl := takes_len x.Code
 have hB0 := hp0.ins.B0
 have hB6 := hp0.ins.B64
 refine Z4 ?_
 refine .n (opBoxOA (.t rfl)) rfl fun b6 _ => ?_
 refine .n (opAlloc FZ.out) rfl fun b8 _ => ?_
 refine Z35 ?_
 refine Cd (fun c0 => ?_) fun c0 => ?_
 · exfalso; omega
 refine Z7 ?_
 refine Cd (fun c1 => ?_) fun c1 => ?_
 · exfalso; omega
 refine Z5 ?_
 refine Cd (fun c2 => ?_) fun c2 => ?_
 · exfalso; omega
 refine Z6 ?_
 refine Cd (fun c3 => ?_) fun c3 => ?_
 · exfalso; omega
 refine Z6 ?_
 refine Cd (fun c4 => ?_) fun c4 => ?_
 · exfalso; omega
 refine Z6 ?_
 refine Cd (fun c5 => ?_) fun c5 => ?_
 · exfalso; omega
 refine Z6 ?_
 refine Cd (fun c6 => ?_) fun c6 => ?_
 · exfalso; omega
 refine Z6 ?_
 refine Cd (fun c7 => ?_) fun c7 => ?_
 · exfalso; omega
 refine Z6 ?_
 refine Cd (fun c8 => ?_) fun c8 => ?_
 · exfalso; omega
 refine Z7 ?_
 refine Cd (fun c9 => ?_) fun c9 => ?_
 · exfalso; omega
 refine Z6 ?_
 refine Cd (fun c10 => ?_) fun c10 => ?_
 · exfalso; omega
 refine Z5 ?_
 refine Cd (fun c11 => ?_) fun c11 => ?_
 · exfalso; omega
 refine Z7 ?_
 refine Cd (fun c12 => ?_) fun c12 => ?_
 · exfalso; omega
 refine Z5 ?_
 refine Cd (fun c13 => ?_) fun c13 => ?_
 · exfalso; omega
 refine Z7 ?_
 refine .p (cA (h := rform_spec)) rfl ?_
 refine Z7 ?_
 refine .p (cA (h := rtakes_spec)) rfl ?_
 refine Z18 ?_
 refine Cd (fun c14 => ?_) fun c14 => ?_
 · exfalso; omega
 refine Z27 ?_
 refine Cd (fun c15 => ?_) fun c15 => ?_
 ·
  refine Z9 ?_
  refine Post.retR rfl rfl ((s, 2)) (by exact plQ_no (by decide) (by (rw [plS_mem (by unfold ctlC; omega) (by unfold varC; omega) (by unfold callC; omega) (by omega), memS_copy hp1]; rcases c15 with h | ⟨h, h2⟩; (rw [getI_no h]; rfl); (cases getI v.Wide x.A with | none => rfl | some g => rw [Option.bind_some, getI_no h2]; rfl))) (by omega)) (OLe.sel [] [0, 1] rfl rfl) rfl (.cons (.ra (i := 0) FA.out FC.out rfl rfl rfl rfl) ?_ (.cons (.rt rfl) ?_ .nil))
  · exact VLe.refl _
  exact VLe.refl _
 obtain ⟨wa, hw, hw2⟩ := getI_at (L := v.Wide) hA0 (fun h => c15 (.inl h))
 obtain ⟨wb, hx, hx2⟩ := getI_at (L := v.Wide) hB0 (fun h => c15 (.inr ⟨by omega, h⟩))
 refine Z8 ?_
 refine .cut (σ := Unit) (fun _ => [cellsH b8 (List.map exactV [.slice none 0 0, .bool false, .int .i64 0]), cellsH b6 (encStk s base)]) (fun _ => [(25, intV .u8 ((adrW wa : UInt8).toNat : Int))]) (fun _ => True) ?_ ?_
 ·
  refine Z6 ?_
  refine .p (cI x.A.toNat (h := hw2)) rfl ?_
  refine Z3 ?_
  refine Cd (fun c16 => ?_) fun c16 => ?_
  ·
   refine Z4 ?_
   refine .meet () trivial rfl (.get rfl (VLe.of_eq (by rw [show adrW wa = 126 from adrW_t c16]; rfl)) (.keep 8 rfl rfl))
  refine Z1 ?_
  refine .meet () trivial rfl (.get rfl (VLe.of_eq (by rw [show adrW wa = 127 from adrW_f c16]; rfl)) (.keep 6 rfl rfl))
 intro _ _
 refine Z9 ?_
 refine Cd (fun c17 => ?_) fun c17 => ?_
 · exfalso; omega
 refine Z8 ?_
 refine Cd (fun c18 => ?_) fun c18 => ?_
 · exfalso; omega
 refine Z8 ?_
 refine Cd (fun c19 => ?_) fun c19 => ?_
 · exfalso; omega
 refine Z8 ?_
 refine Cd (fun c20 => ?_) fun c20 => ?_
 · exfalso; omega
 refine Z8 ?_
 refine .cut (σ := Unit) (fun _ => [cellsH b8 (List.map exactV [.slice none 0 0, .bool false, .int .i64 0]), cellsH b6 (encStk s base)]) (fun _ => [(28, intV .u8 ((adrW wb : UInt8).toNat : Int))]) (fun _ => True) ?_ ?_
 ·
  refine Z6 ?_
  refine .p (cI x.B.toNat (h := hx2)) rfl ?_
  refine Z3 ?_
  refine Cd (fun c21 => ?_) fun c21 => ?_
  ·
   refine Z4 ?_
   refine .meet () trivial rfl (.get rfl (VLe.of_eq (by rw [show adrW wb = 126 from adrW_t c21]; rfl)) (.keep 8 rfl rfl))
  refine Z1 ?_
  refine .meet () trivial rfl (.get rfl (VLe.of_eq (by rw [show adrW wb = 127 from adrW_f c21]; rfl)) (.keep 6 rfl rfl))
 intro _ _
 refine .cut (σ := Unit) (fun _ => [cellsH b8 (List.map exactV [.slice none 0 0, .bool false, .int .i64 0]), cellsH b6 (encStk s base)]) (fun _ => [(29, intV .u8 ((adrW (wa ∧ wb) : UInt8).toNat : Int))]) (fun _ => True) ?_ ?_
 ·
  refine Z12 ?_
  refine Cd (fun c22 => ?_) fun c22 => ?_
  ·
   refine Z4 ?_
   refine .meet () trivial rfl (.get rfl (VLe.of_eq (by rw [show adrW (wa ∧ wb) = 126 from adrW_t ⟨adrW_iff.1 c22.1, adrW_iff.1 c22.2⟩]; rfl)) (.keep 10 rfl rfl))
  refine Z1 ?_
  refine .meet () trivial rfl (.get rfl (VLe.of_eq (by rw [show adrW (wa ∧ wb) = 127 from adrW_f (fun h => c22 ⟨adrW_iff.2 h.1, adrW_iff.2 h.2⟩)]; rfl)) (.keep 8 rfl rfl))
 intro _ _
 refine Z4 ?_
 refine .p (cB encU8 [adrW wa, adrW wb, adrW (wa ∧ wb)]) rfl ?_
 refine Z8 ?_
 refine .n (cE (h := dtakes_spec (s := s) (l := [adrW wa, adrW wb, adrW (wa ∧ wb)]) (by omega))) rfl fun g510 h510 => ?_
 refine Z11 ?_
 refine .n (cE (h := dgive_spec (s := g510.1) (l := (takesR x.Code).2) (by have := h510.2; omega) (by omega))) rfl fun g515 h515 => ?_
 refine Z6 ?_
 refine Post.retR rfl rfl ((giveS g510.1 (takesR x.Code).2, g510.2)) (by exact plQ_tg (by rw [plS_mem (by unfold ctlC; omega) (by unfold varC; omega) (by unfold callC; omega) (by omega), memS_copy hp1, hw, Option.bind_some, hx, Option.bind_some, show (takesR x.Code).2 = [] by rw [hp1]; rfl, tgS_nil_out]) h510 (by omega)) (OLe.sel [] [0, 1] rfl rfl) rfl (.cons (.ra (i := 0) FA.out FC.out rfl rfl rfl rfl) ?_ (.cons (.rt rfl) ?_ .nil))
 · exact VLe.refl _
 exact VLe.refl _
end Go.Proofs.YtpahnbgfmhcndaaGreatDoor
end
section
namespace Go.Proofs.YtpahnbgfmhcndaaGreatDoor
open Go.Hl Go.RowKit
theorem dplain_spec {v : EnvD} {x : InstrD} {s : Stk} {base : Int} {labs : List (List UInt8)} (hp : PlOk v x s labs) (hn : ¬ (x.Code = 2 ∨ x.Code = 3 ∨ x.Code = 4 ∨ x.Code = 5 ∨ x.Code = 11)) :
    FnE Tryz.prog 97 [aggV (encEnv v), aggV (encInstr x), aggV (encStk s base), sliceV 1 encSlT labs] [] (γ := Stk × Int) (plQ s (plS v x s labs)) (fun _ => []) (fun g => tupV [aggV (encStk g.1 base), intV .i64 g.2]) := by
  by_cases h0 : x.Code = 0
  · exact dp0_spec hp h0
  by_cases h12 : x.Code = 12
  · exact dp12_spec hp h12
  by_cases h13 : x.Code = 13
  · exact dp13_spec hp h13
  by_cases h14 : x.Code = 14
  · exact dp14_spec hp h14
  by_cases h15 : x.Code = 15
  · exact dp15_spec hp h15
  by_cases h16 : x.Code = 16
  · exact dp16_spec hp h16
  by_cases h17 : x.Code = 17
  · exact dp17_spec hp h17
  by_cases h26 : x.Code = 26
  · exact dp26_spec hp h26
  by_cases h27 : x.Code = 27
  · exact dp27_spec hp h27
  by_cases h32 : x.Code = 32
  · exact dp32_spec hp h32
  by_cases h33 : x.Code = 33
  · exact dp33_spec hp h33
  by_cases h34 : x.Code = 34
  · exact dp34_spec hp h34
  by_cases h35 : x.Code = 35
  · exact dp35_spec hp h35
  by_cases h36 : x.Code = 36
  · exact dp36_spec hp h36
  by_cases h63 : x.Code = 63
  · exact dp63_spec hp h63
  by_cases h64 : x.Code = 64
  · exact dp64_spec hp h64
  by_cases hfl : x.Code = 64523
  · exact dpfill_spec hp hfl
  by_cases hcp : x.Code = 64522
  · exact dpcopy_spec hp hcp
  have c1 : ¬ ctlC x.Code := by unfold ctlC; omega
  have c2 : ¬ varC x.Code := by unfold varC; omega
  have c3 : ¬ callC x.Code := by unfold callC; omega
  by_cases hf8 : formR x.Code = 8
  · exact dp8_spec hp c1 c2 c3 hf8
  refine dpform_spec hp c1 c2 c3 ?_
  have n9 : formR x.Code ≠ 9 := fun h => by have := form_9 h; omega
  have n10 : formR x.Code ≠ 10 := fun h => by have := form_10 h; omega
  rcases Int.lt_or_le (formR x.Code) 8 with h | h
  · exact .inl h
  · exact .inr (by omega)
end Go.Proofs.YtpahnbgfmhcndaaGreatDoor
namespace Go.Hl
open Go.RowKit
noncomputable abbrev nbD (v : EnvD) := nbk (fun x : InstrD => x.Code) resI (plS v)
section
variable {v : EnvD} {l : List InstrD} {x : InstrD} {i d at0 base : Nat} {labs : List (List UInt8)} {res : List UInt8} {s s1 : Stk} {hs : List Nat}
theorem drop_of {α : Type} {l : List α} {i : Nat} {x : α} (h : l[i]? = some x) : l.drop i = x :: l.drop (i + 1) := by
 obtain ⟨h1, h2⟩ := List.getElem?_eq_some_iff.1 h
 rw [List.drop_eq_getElem_cons h1, h2]
def labI (x : InstrD) : List UInt8 := if x.Code = 3 then [] else resI x
abbrev tk4 (x : InstrD) (s : Stk) (o : Option Stk) : Prop := (x.Code = 4 → o = tksS s [127]) ∧ (x.Code ≠ 4 → o = some s)
theorem tk4_eq {o : Option Stk} (h : tk4 x s o) [Decidable (x.Code = 4)] : (if x.Code = 4 then tksS s [127] else some s) = o := by
 by_cases h4 : x.Code = 4
 · rw [if_pos h4, h.1 h4]
 · rw [if_neg h4, h.2 h4]
theorem labI_eq [Decidable (x.Code = 3)] : (if x.Code = 3 then [] else resI x) = labI x := by
 unfold labI; by_cases h : x.Code = 3
 · rw [if_pos h, if_pos h]
 · rw [if_neg h, if_neg h]
theorem resI_le (x : InstrD) : (resI x).length ≤ 1 := by unfold resI; split <;> simp
theorem labI_le (x : InstrD) : (labI x).length ≤ 1 := by
 unfold labI; split
 · simp
 · exact resI_le x
theorem nbD_end (hx : l[i]? = some x) (h : x.Code = 11 ∨ x.Code = 5) (hc : ∃ s', tksS s res = some s' ∧ s'.1 = []) : nbD v (l.drop i) labs res s base = some ([base + s.1.length], l.drop i) := by
 rw [drop_of hx]; exact nbk_end h hc
theorem nbD_end_no (hx : l[i]? = some x) (h : x.Code = 11 ∨ x.Code = 5) (hc : ¬ ∃ s', tksS s res = some s' ∧ s'.1 = []) : nbD v (l.drop i) labs res s base = none := by
 rw [drop_of hx]; exact nbk_end_no h hc
theorem nbD_plain (hx : l[i]? = some x) (h1 : ¬ (x.Code = 11 ∨ x.Code = 5)) (h2 : ¬ opensC x.Code) : nbD v (l.drop i) labs res s base = (plS v x s labs).bind fun s1 => (nbD v (l.drop (i + 1)) labs res s1 base).map fun p => ((base + s.1.length) :: p.1, p.2) := by
 rw [drop_of hx]; exact nbk_plain h1 h2
def runB (v : EnvD) (l : List InstrD) (labs : List (List UInt8)) (res : List UInt8) (base d : Nat) (at0 : Nat) (s0 : Stk) (i : Nat) (s : Stk) (pre : List Nat) : Prop :=
 okBl (fun x : InstrD => x.Code) (l.drop i) d ∧ nbD v (l.drop at0) labs res s0 base = (nbD v (l.drop i) labs res s base).map fun p => (pre ++ p.1, p.2)
theorem runB.refl (h : okBl (fun x : InstrD => x.Code) (l.drop at0) d) : runB v l labs res base d at0 s at0 s [] := ⟨h, by simp⟩
theorem runB.trans {a : Nat} {s0 : Stk} {pre p2 : List Nat} {k : Nat} {s2 : Stk} (h : runB v l labs res base d a s0 i s pre) (h2 : runB v l labs res base d i s k s2 p2) : runB v l labs res base d a s0 k s2 (pre ++ p2) :=
 ⟨h2.1, by rw [h.2, h2.2, Option.map_map]; congr 1; funext p; simp⟩
theorem runB.plain {s2 : Stk} (hok : okBl (fun x : InstrD => x.Code) (l.drop i) d) (hx : l[i]? = some x) (h1 : ¬ (x.Code = 11 ∨ x.Code = 5)) (h2 : ¬ opensC x.Code) (hp : plS v x s labs = some s2) : runB v l labs res base d i s (i + 1) s2 [base + s.1.length] :=
 ⟨okBl_plain (by rw [← drop_of hx]; exact hok) h1 h2, by rw [nbD_plain hx h1 h2, hp]; rfl⟩
theorem runB.none {a : Nat} {s0 : Stk} {pre : List Nat} (h : runB v l labs res base d a s0 i s pre) (hn : nbD v (l.drop i) labs res s base = Option.none) : nbD v (l.drop a) labs res s0 base = Option.none := by rw [h.2, hn]; rfl
theorem nbD_plain_no (hx : l[i]? = some x) (h1 : ¬ (x.Code = 11 ∨ x.Code = 5)) (h2 : ¬ opensC x.Code) (hp : plS v x s labs = none) : nbD v (l.drop i) labs res s base = none := by rw [nbD_plain hx h1 h2, hp]; rfl
noncomputable abbrev inD (v : EnvD) (l : List InstrD) (labs : List (List UInt8)) (x : InstrD) (base : Nat) (s1 : Stk) (k : Nat) := nbD v (l.drop k) (labs ++ [labI x]) (resI x) ([], False) (base + s1.1.length)
theorem nbD_open (hx : l[i]? = some x) (h2 : opensC x.Code) : nbD v (l.drop i) labs res s base = ((if x.Code = 4 then tksS s [127] else some s).bind fun s1 =>
      (inD v l labs x base s1 (i + 1)).bind fun p =>
      match p.2 with
      | [] => none
      | x2 :: r2 =>
        if x2.Code = 5 then
          (nbD v r2 (labs ++ [labI x]) (resI x) ([], False) (base + s1.1.length)).bind fun p2 =>
          match p2.2 with
          | [] => none
          | _ :: r3 => (nbD v r3 labs res (giveS s1 (resI x)) base).map fun p3 => ((base + s.1.length) :: p.1 ++ p2.1 ++ p3.1, p3.2)
        else if x.Code = 4 ∧ resI x ≠ [] then none
        else (nbD v r2 labs res (giveS s1 (resI x)) base).map fun p3 => ((base + s.1.length) :: p.1 ++ p3.1, p3.2)) := by
  rw [drop_of hx, nbD, nbk_open (by unfold opensC at h2; omega) h2]
  simp only [labI_eq]
  refine Option.bind_congr fun s1 _ => ?_
  unfold inD
  refine Option.bind_congr fun p _ => ?_
  obtain ⟨ha, la⟩ := p
  cases la with
  | nil => rfl
  | cons x2 r2 =>
    dsimp only
    by_cases h5 : x2.Code = 5
    · rw [if_pos h5, if_pos h5]
      refine Option.bind_congr fun p2 _ => ?_
      obtain ⟨hb, lb⟩ := p2
      cases lb <;> rfl
    · rw [if_neg h5, if_neg h5]
theorem nbD_open_no1 (hx : l[i]? = some x) (h2 : opensC x.Code) (h : tk4 x s none) : nbD v (l.drop i) labs res s base = none := by
 rw [nbD_open hx h2, tk4_eq h]; rfl
theorem nbD_open_no2 (hx : l[i]? = some x) (h2 : opensC x.Code) (h : tk4 x s (some s1)) (hi : inD v l labs x base s1 (i + 1) = none) : nbD v (l.drop i) labs res s base = none := by
 rw [nbD_open hx h2, tk4_eq h, Option.bind_some, hi]; rfl
theorem nbD_open_one {k : Nat} {h1 : List Nat} {x2 : InstrD} (hok : okBl (fun x : InstrD => x.Code) (l.drop i) d) (hx : l[i]? = some x) (h2 : opensC x.Code) (h : tk4 x s (some s1)) (hi : inD v l labs x base s1 (i + 1) = some (h1, l.drop k)) (hx2 : l[k]? = some x2) (h5 : ¬ x2.Code = 5) (h4 : ¬ (x.Code = 4 ∧ resI x ≠ [])) :
    runB v l labs res base d i s (k + 1) (giveS s1 (resI x)) ((base + s.1.length) :: h1) := by
  rw [drop_of hx] at hok
  rw [drop_of hx2] at hi
  refine ⟨((okBl_after hok h2 hi).resolve_right (fun h => h5 h.1)).2, ?_⟩
  rw [nbD_open hx h2, tk4_eq h, Option.bind_some, hi, Option.bind_some]
  simp only
  rw [if_neg h5, if_neg h4]
theorem nbD_open_bad {k : Nat} {h1 : List Nat} {x2 : InstrD} (hx : l[i]? = some x) (h2 : opensC x.Code) (h : tk4 x s (some s1)) (hi : inD v l labs x base s1 (i + 1) = some (h1, l.drop k)) (hx2 : l[k]? = some x2) (h5 : ¬ x2.Code = 5) (h4 : x.Code = 4 ∧ resI x ≠ []) :
    nbD v (l.drop i) labs res s base = none := by
  rw [drop_of hx2] at hi
  rw [nbD_open hx h2, tk4_eq h, Option.bind_some, hi, Option.bind_some]
  simp only
  rw [if_neg h5, if_pos h4]
theorem nbD_open_no3 {k : Nat} {h1 : List Nat} {x2 : InstrD} (hx : l[i]? = some x) (h2 : opensC x.Code) (h : tk4 x s (some s1)) (hi : inD v l labs x base s1 (i + 1) = some (h1, l.drop k)) (hx2 : l[k]? = some x2) (h5 : x2.Code = 5) (hi2 : inD v l labs x base s1 (k + 1) = none) :
    nbD v (l.drop i) labs res s base = none := by
  rw [drop_of hx2] at hi
  rw [nbD_open hx h2, tk4_eq h, Option.bind_some, hi, Option.bind_some]
  simp only
  rw [if_pos h5, show nbD v (l.drop (k + 1)) (labs ++ [labI x]) (resI x) ([], False) (base + s1.1.length) = none from hi2]; rfl
theorem nbD_open_two {k k2 : Nat} {h1 h3 : List Nat} {x2 x3 : InstrD} (hok : okBl (fun x : InstrD => x.Code) (l.drop i) d) (hx : l[i]? = some x) (h2 : opensC x.Code) (h : tk4 x s (some s1)) (hi : inD v l labs x base s1 (i + 1) = some (h1, l.drop k)) (hx2 : l[k]? = some x2) (h5 : x2.Code = 5) (hi2 : inD v l labs x base s1 (k + 1) = some (h3, l.drop k2)) (hx3 : l[k2]? = some x3) :
    runB v l labs res base d i s (k2 + 1) (giveS s1 (resI x)) ((base + s.1.length) :: (h1 ++ h3)) := by
  rw [drop_of hx] at hok
  rw [drop_of hx2] at hi
  rw [drop_of hx3] at hi2
  obtain ⟨_, _, _, hb⟩ := (okBl_after hok h2 hi).resolve_left (fun h => by omega)
  obtain ⟨x3', r3, e, _, _, hb2⟩ := hb _ _ _ _ _ _ hi2
  cases e
  refine ⟨hb2, ?_⟩
  rw [nbD_open hx h2, tk4_eq h, Option.bind_some, hi, Option.bind_some]
  simp only
  rw [if_pos h5, show nbD v (l.drop (k + 1)) (labs ++ [labI x]) (resI x) ([], False) (base + s1.1.length) = _ from hi2, Option.bind_some]
  simp only
  first | done | (congr 1; done) | (congr 1; funext p; simp)
def dbR (v : EnvD) (l : List InstrD) (at0 : Nat) (labs : List (List UInt8)) (res : List UInt8) (base : Nat) (hs : List Nat) (g : Int × Int × SB × List Nat) : Prop :=
 (g.2.1 = 0 ∧ ∃ (h1 : List Nat) (k : Nat), g.1 = (k : Int) ∧ at0 ≤ k ∧ k ≤ l.length ∧ g.2.2.2.length ≤ k + 1 ∧ nbD v (l.drop at0) labs res ([], False) base = some (h1, l.drop k) ∧ g.2.2.2 = hs ++ h1) ∨ (g.2.1 ≠ 0 ∧ nbD v (l.drop at0) labs res ([], False) base = none)
theorem okD_in (hok : okBl (fun x : InstrD => x.Code) (l.drop i) d) (hx : l[i]? = some x) (h2 : opensC x.Code) : okBl (fun x : InstrD => x.Code) (l.drop (i + 1)) (d + 1) ∧ ¬ 64 ≤ d := okBl_in (by rw [← drop_of hx]; exact hok) h2
theorem okD_at {k : Nat} {hs1 : List Nat} {labs' : List (List UInt8)} {res' : List UInt8} {st' : Stk} {b' : Nat} (hok : okBl (fun x : InstrD => x.Code) (l.drop i) d) (hb : nbD v (l.drop i) labs' res' st' b' = some (hs1, l.drop k)) : ∃ x2, l[k]? = some x2 := by
 obtain ⟨x2, r2, h1, h2⟩ := okBl_ne (labs' := labs') hok hb
 have : k < l.length := Classical.byContradiction fun h => by rw [List.drop_eq_nil_of_le (by omega)] at h1; cases h1
 exact getElem?_lt this
theorem okD_else {k : Nat} {h1 : List Nat} {x2 : InstrD} (hok : okBl (fun x : InstrD => x.Code) (l.drop i) d) (hx : l[i]? = some x) (h2 : opensC x.Code) (hi : inD v l labs x base s1 (i + 1) = some (h1, l.drop k)) (hx2 : l[k]? = some x2) (h5 : x2.Code = 5) : okBl (fun x : InstrD => x.Code) (l.drop (k + 1)) (d + 1) := by
 rw [drop_of hx] at hok
 rw [drop_of hx2] at hi
 exact ((okBl_after hok h2 hi).resolve_left (fun h => by omega)).2.2.1
theorem runB.fin {a : Nat} {s0 : Stk} {pre h1 : List Nat} {r : List InstrD} (h : runB v l labs res base d a s0 i s pre) (he : nbD v (l.drop i) labs res s base = some (h1, r)) : nbD v (l.drop a) labs res s0 base = some (pre ++ h1, r) := by rw [h.2, he]; rfl
theorem runB.fin_nil {a : Nat} {s0 : Stk} {pre : List Nat} (h : runB v l labs res base d a s0 i s pre) (hi : l.length ≤ i) : nbD v (l.drop a) labs res s0 base = some (pre, l.drop i) := by
 have e : l.drop i = [] := List.drop_eq_nil_of_le hi
 have := h.fin (h1 := []) (r := []) (by rw [e]; rfl)
 rw [this, e, List.append_nil]
theorem cls_yes {g : Stk × Int} (h : tkP s res g) (c : g.2 = 0 ∧ (g.1.1.length : Int) > 0) : (5 : Int) = 0 ↔ ∃ s', tksS s res = some s' ∧ s'.1 = [] :=
 ⟨fun h => by simp at h, fun ⟨s', h1, h2⟩ => by
  rw [h.ok c.1] at h1; cases h1; have := c.2; rw [h2] at this; simp at this⟩
theorem cls_no {g : Stk × Int} (h : tkP s res g) (c : ¬ (g.2 = 0 ∧ (g.1.1.length : Int) > 0)) : g.2 = 0 ↔ ∃ s', tksS s res = some s' ∧ s'.1 = [] :=
 ⟨fun h0 => ⟨g.1, h.ok h0, List.eq_nil_of_length_eq_zero (Classical.byContradiction fun h9 => c ⟨h0, by omega⟩)⟩, fun ⟨s', h1, h2⟩ => Classical.byContradiction fun h0 => by
  rw [h.no h0] at h1; cases h1⟩
structure BlkOk (v : EnvD) (l : List InstrD) : Prop where
 env : EnvOkD v
 ins : ∀ x ∈ l, InsOk x
 len : l.length ≤ 2000
end
end Go.Hl
end
section
namespace Go.Proofs.YtpahnbgfmhcndaaGreatDoor
open Go.Hl Go.RowKit
theorem dblk_spec {v : EnvD} {n : Nat} {l : List InstrD} {at0 d base : Nat} {labs : List (List UInt8)} {res : List UInt8} {gs : SB} {hs : List Nat} (hp0 : l.length - at0 < n) (hp1 : BlkOk v l) (hp2 : at0 ≤ l.length) (hp3 : base ≤ 20 * at0) (hp4 : hs.length ≤ at0) (hp5 : d ≤ 64) (hp6 : labs.length ≤ d + 1) (hp7 : ∀ w ∈ labs, w.length ≤ 20) (hp8 : res.length ≤ 20) (hp9 : okBl (fun x : InstrD => x.Code) (l.drop at0) d) : FnE Tryz.prog 81 [aggV (encEnv v), sliceV 5 encInstr (l), aggV [intV .i64 (at0 : Int), intV .i64 0, exactV (sval gs hs.length)], intV .i64 ((base : Int)), sliceV 1 encU8 (res), sliceV 1 encSlT labs] [sliceH gs 1 encNt hs] (γ := Int × Int × SB × List Nat) (dbR v l at0 labs res base hs) (fun g => [sliceH g.2.2.1 1 encNt g.2.2.2]) (fun g => aggV [intV .i64 g.1, intV .i64 g.2.1, exactV (sval g.2.2.1 g.2.2.2.length)]) := by
 induction n generalizing at0 d base labs res gs hs
 case zero => omega
 rename_i n ih
 refine In 188 Tryz.func81 fun _ _ _ => ?_
 have hll := hp1.len
 refine Z3 ?_
 refine .n (opBoxOA (.t rfl)) rfl fun b8 _ => ?_
 refine .n (opAlloc FZ.out) rfl fun b12 _ => ?_
 refine Z6 ?_
 refine .n (opAlloc FZ.out) rfl fun b13 _ => ?_
 refine Z3 ?_
 refine .own (OLe.cellsY (cs' := encStk ([], False) (base : Int)) (.cons (sliceV_nil 1 encU8) (.cons falseV (.cons (.refl _) .nil)))) ?_
 refine Z2 ?_
 refine .loopO (σ := Nat × SB × List Nat × Stk) (fun z => [cellsH b13 (encStk z.2.2.2 (base : Int)), cellsH b12 (List.map exactV [.int .i64 0, .int .i64 0, .slice none 0 0]), cellsH b8 [intV .i64 (z.1 : Int), intV .i64 0, exactV (sval z.2.1 (z.2.2.1).length)], sliceH z.2.1 1 encNt (z.2.2.1)]) (fun z => []) (fun z => at0 ≤ z.1 ∧ z.1 ≤ l.length ∧ base + z.2.2.2.1.length ≤ 20 * z.1 ∧ z.2.2.1.length ≤ z.1 ∧ ∃ pre, z.2.2.1 = hs ++ pre ∧ runB v l labs res base d at0 ([], False) z.1 z.2.2.2 pre) (fun z => l.length - z.1) (at0, gs, hs, ([], False)) ⟨Nat.le_refl _, hp2, by simpa using hp3, hp4, [], by simp, runB.refl hp9⟩ rfl ?_ ?_
 · exact (.refl _ _)
 rintro ⟨i, gh, hh, s⟩ ⟨hai, hil, hbs, hhl, pre, hpr, hrun⟩
 simp only at hai hil hbs hhl hpr hrun ⊢
 refine Z10 ?_
 refine Cd (fun c0 => ?_) fun c0 => ?_
 ·
  obtain ⟨x, hx⟩ := getElem?_lt (xs := l) (k := i) (by omega)
  have hix := hp1.ins x (List.mem_of_getElem? hx)
  refine Z8 ?_
  refine .p (cI i (h := hx)) rfl ?_
  refine Z1 ?_
  refine .n (opAlloc FZ.out) rfl fun b14 _ => ?_
  refine Z3 ?_
  refine .share (t := 14) (i := 0) rfl rfl ?_
  refine Z9 ?_
  refine .p ((opAddF (.t rfl) (.t rfl) fits_z).le (VLe.int (show (base : Int) + (s.1.length : Int) = ((base + s.1.length : Nat) : Int) by omega))) rfl ?_
  refine .p (cB encNt [base + s.1.length]) rfl ?_
  refine .n (opAppend (i := 3) FU.out FU.out FC.out rfl FZ.out rfl FY.out (.t rfl) (.t rfl) rfl (by simp only [List.length_cons, List.length_nil]; omega) (by simp only [List.length_cons, List.length_nil]; omega)) rfl fun g40 _ => ?_
  refine Z22 ?_
  refine Cd (fun c1 => ?_) fun c1 => ?_
  ·
   refine Z4 ?_
   refine .n (cE (h := dtakes_spec (s := s) (l := res) (by omega))) rfl fun g53 h53 => ?_
   refine Z7 ?_
   refine .cut (σ := Int) (fun _ => [cellsH b13 (encStk g53.1 (base : Int)), cellsH b12 (List.map exactV [.int .i64 0, .int .i64 0, .slice none 0 0]), cellsH b8 [intV .i64 (i : Int), intV .i64 0, exactV (sval g40 (hh ++ [base + s.1.length]).length)], sliceH g40 1 encNt (hh ++ [base + s.1.length])]) (fun e => [(15, intV .i64 e)]) (fun e => e = 0 ↔ ∃ s', tksS s res = some s' ∧ s'.1 = []) ?_ ?_
   ·
    refine Z12 ?_
    refine Cd (fun c2 => ?_) fun c2 => ?_
    ·
     refine Z3 ?_
     refine .meet 5 (cls_yes h53 c2) rfl (.get rfl (VLe.refl _) (.keep 9 rfl rfl))
    refine Z1 ?_
    refine .meet g53.2 (cls_no h53 c2) rfl (.get rfl (VLe.refl _) (.keep 8 rfl rfl))
   intro e he
   refine Z19 ?_
   refine Post.retR1 rfl (((i : Int), e, g40, hh ++ [base + s.1.length])) (by by_cases he0 : e = 0; exact .inl ⟨he0, pre ++ [base + s.1.length], i, rfl, hai, hil, by (show (hh ++ [base + s.1.length]).length ≤ i + 1; rw [List.length_append]; simp only [List.length_cons, List.length_nil]; omega), hrun.fin (nbD_end hx c1 (he.1 he0)), by (show hh ++ [base + s.1.length] = _; rw [hpr, List.append_assoc])⟩; exact .inr ⟨he0, hrun.none (nbD_end_no hx c1 (fun h => he0 (he.2 h)))⟩) (OLe.sel [3] [0, 1, 2] rfl rfl) (.ra (i := 1) FA.out FC.out rfl rfl rfl rfl) ?_
   exact VLe.refl _
  refine Z15 ?_
  refine Cd (fun c3 => ?_) fun c3 => ?_
  ·
   refine Z6 ?_
   refine .n (cE (h := dplain_spec (labs := labs) ⟨hp1.env, hix, by omega, by omega, hp7⟩ (by omega))) rfl fun g80 h80 => ?_
   refine Z14 ?_
   refine Cd (fun c4 => ?_) fun c4 => ?_
   ·
    have hno : plS v x s labs = none := h80.1.elim (fun h => absurd h.1 c4) (fun h => h.2)
    refine Z20 ?_
    refine Post.retR1 rfl (((i : Int), g80.2, g40, hh ++ [base + s.1.length])) (by exact .inr ⟨c4, hrun.none (nbD_plain_no hx c1 (by unfold opensC; omega) hno)⟩) (OLe.sel [3] [0, 1, 2] rfl rfl) (.ra (i := 1) FA.out FC.out rfl rfl rfl rfl) ?_
    exact VLe.refl _
   have hpl : plS v x s labs = some g80.1 := h80.1.elim (fun h => h.2) (fun h => absurd h.1 c4)
   refine Z6 ?_
   refine .p ((opAddF (.t rfl) (.c _) fits_z).le (VLe.int (show (i : Int) + 1 = ((i + 1 : Nat) : Int) by omega))) rfl ?_
   refine Z7 ?_
   refine .round (i + 1, g40, hh ++ [base + s.1.length], g80.1) ⟨by show at0 ≤ i + 1; omega, by show i + 1 ≤ _; omega, by (show base + g80.1.1.length ≤ 20 * (i + 1); have := h80.2; omega), by (show (hh ++ [base + s.1.length]).length ≤ i + 1; rw [List.length_append]; simp only [List.length_cons, List.length_nil]; omega), pre ++ [base + s.1.length], by (show hh ++ [base + s.1.length] = _; rw [hpr, List.append_assoc]), hrun.trans (runB.plain hrun.1 hx c1 (by unfold opensC; omega) hpl)⟩ (by show l.length - (i + 1) < l.length - i; omega) rfl ?_
   exact ((.keep 55 rfl rfl))
  have hop : opensC x.Code := by unfold opensC; omega
  have hin := okD_in hrun.1 hx hop
  have hlw : ∀ w ∈ labs ++ [labI x], w.length ≤ 20 := fun w hw => by (rcases List.mem_append.1 hw with h | h; exact hp7 w h; (simp only [List.mem_singleton] at h; subst h; have := labI_le x; omega))
  refine Z2 ?_
  refine .cut (σ := Stk) (fun s1 => [cellsH b13 (encStk s1 (base : Int)), cellsH b12 (List.map exactV [.int .i64 0, .int .i64 0, .slice none 0 0]), cellsH b8 [intV .i64 (i : Int), intV .i64 0, exactV (sval g40 (hh ++ [base + s.1.length]).length)], sliceH g40 1 encNt (hh ++ [base + s.1.length])]) (fun s1 => [(15, anyV)]) (fun s1 => tk4 x s (some s1) ∧ s1.1.length ≤ s.1.length) ?_ ?_
  ·
   refine Z7 ?_
   refine Cd (fun c5 => ?_) fun c5 => ?_
   ·
    refine Z3 ?_
    refine .p (cB encU8 [127]) rfl ?_
    refine .n (cE (h := dtakes_spec (s := s) (l := [127]) (by omega))) rfl fun g98 h98 => ?_
    refine Z13 ?_
    refine Cd (fun c6 => ?_) fun c6 => ?_
    ·
     refine Z19 ?_
     refine Post.retR1 rfl (((i : Int), g98.2, g40, hh ++ [base + s.1.length])) (by exact .inr ⟨c6, hrun.none (nbD_open_no1 hx hop ⟨fun _ => (h98.no c6).symm, fun h => absurd c5 h⟩)⟩) (OLe.sel [3] [0, 1, 2] rfl rfl) (.ra (i := 1) FA.out FC.out rfl rfl rfl rfl) ?_
     exact VLe.refl _
    refine Z1 ?_
    refine .meet g98.1 ⟨⟨fun _ => (h98.ok (Classical.not_not.1 c6)).symm, fun h => absurd c5 h⟩, h98.2⟩ rfl (.get rfl VLe.any (.keep 12 rfl rfl))
   refine Z1 ?_
   refine .meet s ⟨⟨fun h => absurd h c5, fun _ => rfl⟩, Nat.le_refl _⟩ rfl (.get rfl VLe.any (.keep 3 rfl rfl))
  intro s1 ⟨ht4, hs1l⟩
  refine Z6 ?_
  refine .cut (σ := Unit) (fun _ => [cellsH b13 (encStk s1 (base : Int)), cellsH b12 (List.map exactV [.int .i64 0, .int .i64 0, .slice none 0 0]), cellsH b8 [intV .i64 (i : Int), intV .i64 0, exactV (sval g40 (hh ++ [base + s.1.length]).length)], sliceH g40 1 encNt (hh ++ [base + s.1.length])]) (fun _ => [(16, sliceV 1 encU8 (resI x))]) (fun _ => True) ?_ ?_
  ·
   refine Z7 ?_
   refine Cd (fun c7 => ?_) fun c7 => ?_
   ·
    refine Z3 ?_
    refine .p ((opConv FU.out FU.out (.t rfl)).le (VLe.int (u8_wrap hix.A0))) rfl ?_
    refine .p (cB encU8 [UInt8.ofNat x.A.toNat]) rfl ?_
    refine Z2 ?_
    refine .meet () trivial rfl (.get rfl (VLe.of_eq (by rw [show resI x = [UInt8.ofNat x.A.toNat] from if_neg c7])) (.keep 8 rfl rfl))
   refine Z1 ?_
   refine .meet () trivial rfl (.get rfl ((show resI x = [] from if_pos (Classical.not_not.1 c7)) ▸ sliceV_nil 1 encU8) (.keep 3 rfl rfl))
  intro _ _
  refine .cut (σ := Unit) (fun _ => [cellsH b13 (encStk s1 (base : Int)), cellsH b12 (List.map exactV [.int .i64 0, .int .i64 0, .slice none 0 0]), cellsH b8 [intV .i64 (i : Int), intV .i64 0, exactV (sval g40 (hh ++ [base + s.1.length]).length)], sliceH g40 1 encNt (hh ++ [base + s.1.length])]) (fun _ => [(17, sliceV 1 encU8 (labI x))]) (fun _ => True) ?_ ?_
  ·
   refine Z7 ?_
   refine Cd (fun c8 => ?_) fun c8 => ?_
   ·
    refine Z4 ?_
    refine .meet () trivial rfl (.get rfl (VLe.of_eq (by rw [show labI x = resI x from if_neg c8])) (.keep 5 rfl rfl))
   refine Z1 ?_
   refine .meet () trivial rfl (.get rfl ((show labI x = [] from if_pos (Classical.not_not.1 c8)) ▸ sliceV_nil 1 encU8) (.keep 3 rfl rfl))
  intro _ _
  refine Z2 ?_
  refine .n (opBuildSliceO encSlT ([] : List (List UInt8)) FU.out FC.out rfl FZ.out rfl .nil rfl rfl rfl rfl rfl) rfl fun g117 _ => ?_
  refine Z1 ?_
  refine .n (opAppend (i := 0) FU.out FU.out FC.out rfl FZ.out rfl FY.out (.t rfl) (.t rfl) rfl (by simp <;> omega) (by simp <;> omega)) rfl fun g119 _ => ?_
  refine Z1 ?_
  refine .p (cB encSlT [labI x]) rfl ?_
  refine .n (OpE.shareS (G := fun g => g) (hs1 := fun _ => _) (xs := fun _ => _) (opAppend (i := 0) FU.out FU.out FC.out rfl FZ.out rfl FY.out (.t rfl) (.t rfl) rfl (by simp <;> omega) (by simp <;> omega))) rfl fun _ _ => ?_
  refine Z7 ?_
  refine .p ((opAddF (.t rfl) (.c _) fits_z).le (VLe.int (show (i : Int) + 1 = ((i + 1 : Nat) : Int) by omega))) rfl ?_
  refine Z14 ?_
  refine .p ((opAddF (.t rfl) (.t rfl) fits_z).le (VLe.int (show (base : Int) + (s1.1.length : Int) = ((base + s1.1.length : Nat) : Int) by omega))) rfl ?_
  refine Z2 ?_
  refine .n (cEi [_,_,_] [3,0,1,2] (h := @ih (i + 1) (d + 1) (base + s1.1.length) (labs ++ [labI x]) (resI x) g40 (hh ++ [base + s.1.length]) (by omega) (by omega) (by omega) (by rw [List.length_append]; simp only [List.length_cons, List.length_nil]; omega) (by omega) (by simp only [List.length_append, List.length_cons, List.length_nil]; omega) hlw (by have := resI_le x; omega) (hin.1))) rfl fun g138 h138 => ?_
  refine .s (opStoreOA (i := 3) FC.out rfl (.t rfl) (.t rfl) rfl rfl rfl) ?_
  refine Z10 ?_
  refine Cd (fun c9 => ?_) fun c9 => ?_
  ·
   unfold dbR at h138
   have hno := (h138.resolve_left (fun h => c9 h.1)).2
   refine Z12 ?_
   refine Post.retR1 rfl (g138) (by exact .inr ⟨c9, hrun.none (nbD_open_no2 hx hop ht4 hno)⟩) (OLe.sel [0] [1, 2, 3] rfl rfl) (.ra (i := 2) FA.out FC.out rfl rfl rfl rfl) ?_
   exact VLe.refl _
  unfold dbR at h138
  obtain ⟨a138, e138, gs2, hh2⟩ := g138
  obtain ⟨he0, h1, k, hk0, hik, hkl, hhk, hb1, hh1⟩ := h138.resolve_right (fun h => c9 h.1)
  simp only at he0 hk0 hhk hh1
  subst he0
  subst hk0
  obtain ⟨x2, hx2⟩ := okD_at hin.1 hb1
  have hk3 := (List.getElem?_eq_some_iff.1 hx2).1
  refine Z2 ?_
  refine .cut (σ := Nat × SB × List Nat) (fun z => [cellsH b13 (encStk s1 (base : Int)), cellsH b12 (List.map exactV [.int .i64 0, .int .i64 0, .slice none 0 0]), cellsH b8 [intV .i64 (z.1 : Int), intV .i64 0, exactV (sval z.2.1 (z.2.2).length)], sliceH z.2.1 1 encNt (z.2.2)]) (fun z => []) (fun z => i + 1 ≤ z.1 ∧ z.1 < l.length ∧ z.2.2.length ≤ z.1 + 1 ∧ ∃ pp, z.2.2 = (hh ++ [base + s.1.length]) ++ pp ∧ runB v l labs res base d i s (z.1 + 1) (giveS s1 (resI x)) ((base + s.1.length) :: pp)) ?_ ?_
  ·
   refine Z5 ?_
   refine .p (cI k (h := hx2)) rfl ?_
   refine Z5 ?_
   refine Cd (fun c10 => ?_) fun c10 => ?_
   ·
    refine Z4 ?_
    refine .p ((opAddF (.t rfl) (.c _) fits_z).le (VLe.int (show (k : Int) + 1 = ((k + 1 : Nat) : Int) by omega))) rfl ?_
    refine Z1 ?_
    refine .s (opStoreO (i := 3) FC.out (.t rfl) (.t rfl) rfl rfl) ?_
    refine Z12 ?_
    refine .p ((opAddF (.t rfl) (.t rfl) fits_z).le (VLe.int (show (base : Int) + (s1.1.length : Int) = ((base + s1.1.length : Nat) : Int) by omega))) rfl ?_
    refine Z2 ?_
    refine .n (cE (h := @ih (k + 1) (d + 1) (base + s1.1.length) (labs ++ [labI x]) (resI x) gs2 (hh2) (by omega) (by omega) (by omega) (by omega) (by omega) (by simp only [List.length_append, List.length_cons, List.length_nil]; omega) hlw (by have := resI_le x; omega) (okD_else hrun.1 hx hop hb1 hx2 c10))) rfl fun g165 h165 => ?_
    refine .s (opStoreOA (i := 3) FC.out rfl (.t rfl) (.t rfl) rfl rfl rfl) ?_
    refine Z9 ?_
    refine Cd (fun c11 => ?_) fun c11 => ?_
    ·
     unfold dbR at h165
     have hno := (h165.resolve_left (fun h => c11 h.1)).2
     refine Z12 ?_
     refine Post.retR1 rfl (g165) (by exact .inr ⟨c11, hrun.none (nbD_open_no3 hx hop ht4 hb1 hx2 c10 hno)⟩) (OLe.sel [0] [1, 2, 3] rfl rfl) (.ra (i := 2) FA.out FC.out rfl rfl rfl rfl) ?_
     exact VLe.refl _
    unfold dbR at h165
    obtain ⟨a165, e165, gs3, hh3⟩ := g165
    obtain ⟨he02, h3, k2, hk02, hik2, hkl2, hhk2, hb3, hh3e⟩ := h165.resolve_right (fun h => c11 h.1)
    simp only at he02 hk02 hhk2 hh3e
    subst he02
    subst hk02
    obtain ⟨x3, hx3⟩ := okD_at (okD_else hrun.1 hx hop hb1 hx2 c10) hb3
    have hk4 := (List.getElem?_eq_some_iff.1 hx3).1
    refine Z1 ?_
    refine .own (OLe.perm (Perm.idx [1, 2, 3, 0] rfl rfl)) (EndT.meet (k2, gs3, hh3) ⟨by show i + 1 ≤ k2; omega, hk4, hhk2, h1 ++ h3, by (show hh3 = _; rw [hh3e, hh1, List.append_assoc]), nbD_open_two hrun.1 hx hop ht4 hb1 hx2 c10 hb3 hx3⟩ rfl (.keep 26 rfl rfl))
   refine Z12 ?_
   refine Cd (fun c12 => ?_) fun c12 => ?_
   ·
    refine Z3 ?_
    refine .s (opStoreO (i := 3) FC.out (.t rfl) (.c _) rfl rfl) ?_
    refine Z14 ?_
    refine Post.retR1 rfl (((k : Int), 5, gs2, hh2)) (by exact .inr ⟨by show (5 : Int) ≠ 0; decide, hrun.none (nbD_open_bad hx hop ht4 hb1 hx2 c10 ⟨c12.1, fun h => by have := c12.2; rw [h] at this; simp at this⟩)⟩) (OLe.sel [0] [1, 2, 3] rfl rfl) (.ra (i := 2) FA.out FC.out rfl rfl rfl rfl) ?_
    exact VLe.refl _
   refine Z1 ?_
   refine .own (OLe.perm (Perm.idx [1, 2, 3, 0] rfl rfl)) (EndT.meet (k, gs2, hh2) ⟨by show i + 1 ≤ k; omega, hk3, hhk, h1, hh1, nbD_open_one hrun.1 hx hop ht4 hb1 hx2 c10 (fun h => c12 ⟨h.1, by have := List.length_pos_iff.2 h.2; omega⟩)⟩ rfl (.keep 15 rfl rfl))
  intro ⟨kz, gz, hz⟩ ⟨hik9, hkz, hzl, pp, hzp, hrz⟩
  simp only at hik9 hkz hzl hzp hrz ⊢
  refine Z4 ?_
  refine .n (cE (h := dgive_spec (s := s1) (l := resI x) (by omega) (by have := resI_le x; omega))) rfl fun g182 h182 => ?_
  refine Z6 ?_
  refine .p ((opAddF (.t rfl) (.c _) fits_z).le (VLe.int (show (kz : Int) + 1 = ((kz + 1 : Nat) : Int) by omega))) rfl ?_
  refine Z4 ?_
  refine .round (kz + 1, gz, hz, giveS s1 (resI x)) ⟨by show at0 ≤ kz + 1; omega, by show kz + 1 ≤ _; omega, by (show base + (s1.1 ++ resI x).length ≤ 20 * (kz + 1); rw [List.length_append]; have := resI_le x; omega), hzl, _, by (show hz = hs ++ _; rw [hzp, hpr, List.append_assoc, List.append_assoc]; rfl), hrun.trans hrz⟩ (by show l.length - (kz + 1) < l.length - i; omega) rfl ?_
  exact ((.keep 78 rfl rfl))
 refine Z12 ?_
 refine Post.retR1 rfl (((i : Int), 0, gh, hh)) (by exact .inl ⟨rfl, pre, i, rfl, hai, hil, by (show hh.length ≤ i + 1; omega), hrun.fin_nil (by omega), hpr⟩) (OLe.sel [3] [0, 1, 2] rfl rfl) (.ra (i := 1) FA.out FC.out rfl rfl rfl rfl) ?_
 exact VLe.refl _
end Go.Proofs.YtpahnbgfmhcndaaGreatDoor
end
section
namespace Go.Hl
open Go.RowKit
def envC (m : ModD) (a b c d e p r l : VP) : List VP := [a, b, c, d, e, propV (0 ≤ m.Table), p, r, l]
instance {m : ModD} {a b c d e p r l : VP} [Flat a] [Flat b] [Flat c] [Flat d] [Flat e] [Flat p] [Flat r] [Flat l] : FlatL (envC m a b c d e p r l) := by unfold envC; infer_instance
instance (s : SigD) : FlatL (encSig s) := by unfold encSig; infer_instance
def chkR (v : EnvD) (b : BodyD) (g : Int × Int × List Nat) : Prop :=
 (g.2.1 = 0 ∧ ∃ rest, nbD v b.L [v.Own.R] v.Own.R ([], False) 0 = some (g.2.2, rest)) ∨ (g.2.1 ≠ 0 ∧ nbD v b.L [v.Own.R] v.Own.R ([], False) 0 = none ∧ g.2.2 = [])
variable {m : ModD}
theorem imp_in {z : ImportD} (h : importE m z = 0) : InP z.Sig m.Sigs.length := by
 unfold importE at h
 split at h
 · cases h
 · exact Classical.not_not.1 ((whenE_eq (by decide)).1 h)
theorem FitsM.imp (h : FitsM m) {z : ImportD} (hz : z ∈ m.Imports) : InP z.Sig m.Sigs.length := imp_in (firstE_on.1 (manyE_zero.1 h.imports).2 z hz)
variable {f : FuncD}
theorem envOk (h : FitsM m) (ho : ModOk m) (hf : f ∈ m.Funcs) : EnvOkD (envD m f) := by
 have hl := h.lens
 have hs := (sigAt_mem (func_sig h hf)).2
 have h1 := ho.loc f hf
 have h2 := h.few _ hs
 have hc := hl.2.2.2.2
 unfold countM at hc
 refine ⟨?_, ?_, ?_, ?_, ?_, ?_, ?_, ?_, ?_⟩
 · simp [envD]; omega
 · simp [envD]; omega
 · simp [envD]; omega
 · simp [envD]; omega
 · simp [envD]; omega
 · simp [envD]
 · intro g hg
   simp only [envD, List.mem_append, List.mem_map] at hg
   rcases hg with ⟨z, hz, rfl⟩ | ⟨z, hz, rfl⟩
   · exact h.few _ (sigAt_mem (h.imp hz)).2
   · exact h.few _ (sigAt_mem (func_sig h hz)).2
 · intro g hg; exact h.few g hg
 · exact h2.2
theorem blkOk (h : FitsM m) (ho : ModOk m) (hf : f ∈ m.Funcs) (he : encBd f.Body) : BlkOk (envD m f) f.Body.L := ⟨envOk h ho hf, fun x hx => .of (ho.ins f hf x hx) (he.1 x hx), ho.len f hf⟩
theorem encBd_ok (h : encBd f.Body) : okBl (fun x : InstrD => x.Code) f.Body.L 0 := ⟨[11], (nrun_rblk (by simp)).1 h.2.2.2.1, by simp⟩
theorem chk_heights (he : encBd f.Body) {g : Int × Int × List Nat} (h : chkR (envD m f) f.Body g) : (g.2.1 = 0 ∧ heightsF m f = some g.2.2) ∨ (g.2.1 ≠ 0 ∧ ¬ typedF m f ∧ g.2.2 = []) := by
 have hd := heightsF_doc (m := m) (f := f) (k := f.Body.L.length + 1) he (by omega)
 have hd2 : heightsF m f = (nbD (envD m f) f.Body.L [(envD m f).Own.R] (envD m f).Own.R ([], False) 0).map Prod.fst := hd
 rcases h with ⟨h1, rest, h2⟩ | ⟨h1, h2, h3⟩
 · exact .inl ⟨h1, by rw [hd2, h2]; rfl⟩
 · exact .inr ⟨h1, fun ⟨_, hs, hh⟩ => (by rw [hd2, h2] at hh; cases hh), h3⟩
def chkE (m : ModD) (f : FuncD) (g : Int × Int × List Nat) : Prop := (g.2.1 = 0 ∧ FitsM m ∧ encBd f.Body ∧ heightsF m f = some g.2.2) ∨ (g.2.1 ≠ 0 ∧ ¬ (FitsM m ∧ typedF m f))
theorem chkE.iff {g : Int × Int × List Nat} (h : chkE m f g) : g.2.1 = 0 ↔ FitsM m ∧ typedF m f := by
 rcases h with ⟨h1, h2, h3, h4⟩ | ⟨h1, h2⟩
 · exact ⟨fun _ => ⟨h2, h3, _, h4⟩, fun _ => h1⟩
 · exact ⟨fun h => absurd h h1, fun h => absurd h h2⟩
end Go.Hl
end
section
namespace Go.Proofs.YtpahnbgfmhcndaaGreatDoor
open Go.Hl Go.RowKit
theorem dcheck_spec {v : EnvD} {b : BodyD} (hp0 : BlkOk v b.L) (hp1 : okBl (fun x : InstrD => x.Code) b.L 0) : FnE Tryz.prog 62 [aggV (encEnv v), aggV (encBody b)] [] (γ := Int × Int × List Nat) (chkR v b) (fun _ => []) (fun g => aggV [intV .i64 g.1, intV .i64 g.2.1, sliceV 1 encNt g.2.2]) := by
 refine In 24 Tryz.func62 fun _ _ _ => ?_
 refine Z4 ?_
 refine .n (opAlloc FZ.out) rfl fun b4 _ => ?_
 refine Z3 ?_
 refine .ownNil 1 encNt ?_
 refine Z11 ?_
 refine .p (cB encSlT [v.Own.R]) rfl ?_
 refine .n (cE (h := dblk_spec (n := b.L.length + 1) (at0 := 0) (d := 0) (base := 0) (labs := [v.Own.R]) (res := v.Own.R) (gs := none) (hs := []) (by omega) hp0 (Nat.zero_le _) (Nat.le_refl _) (Nat.le_refl _) (by omega) (by simp) (by simpa using hp0.env.own) hp0.env.own hp1)) rfl fun g17 h17 => ?_
 refine .n (opAlloc FZ.out) rfl fun b5 _ => ?_
 refine Z11 ?_
 refine Cd (fun c0 => ?_) fun c0 => ?_
 ·
  unfold dbR at h17
  obtain ⟨h0, h1, k, _, _, _, _, hb, hh⟩ := h17.resolve_right (fun h => h.1 c0)
  simp only [List.nil_append] at hh
  refine Z5 ?_
  refine .shareIn (i := 1) (j := 0) (f := 2) rfl rfl rfl ?_
  refine Z7 ?_
  refine Post.retR1 rfl ((0, g17.2.1, g17.2.2.2)) (by exact .inl ⟨h0, _, by (show nbD v b.L [v.Own.R] v.Own.R ([], False) 0 = some (g17.2.2.2, _); rw [hh]; exact hb)⟩) (OLe.sel [] [0, 1] rfl rfl) (.ra (i := 1) FA.out FC.out rfl rfl rfl rfl) ?_
  exact VLe.refl _
 unfold dbR at h17
 have hno := (h17.resolve_left (fun h => c0 h.1)).2
 refine Z12 ?_
 refine Post.retR1 rfl ((g17.1, g17.2.1, [])) (by exact .inr ⟨c0, hno, rfl⟩) (OLe.sel [] [0, 1, 2] rfl rfl) (.ra (i := 2) FA.out FC.out rfl rfl rfl rfl) ?_
 exact VLe.agg (.cons (VLe.refl _) (.cons (VLe.refl _) (.cons (sliceV_nil 1 encNt) .nil)))
theorem denv_spec {m : ModD} {f : FuncD} {i : Nat} (hp0 : FitsM m) (hp1 : ModOk m) (hp2 : m.Funcs[i]? = some f) : FnE Tryz.prog 63 [aggV (encMod m), intV .i64 ((i : Int))] [] (γ := Unit) (fun _ => True) (fun _ => []) (fun _ => aggV (encEnv (envD m f))) := by
 refine In 157 Tryz.func63 fun _ _ _ => ?_
 have hfm : f ∈ m.Funcs := List.mem_of_getElem? hp2
 have hlens := hp0.lens
 have hcn : (m.Imports.length : Int) + (m.Funcs.length : Int) ≤ 100 := hlens.2.2.2.2
 have hfs := sigAt_mem (func_sig hp0 hfm)
 have hfin := func_sig hp0 hfm
 unfold InP at hfin
 have hlo := hp1.loc f hfm
 have hfw := hp0.few _ hfs.2
 refine Z3 ?_
 refine .n (opAlloc FZ.out) rfl fun b4 _ => ?_
 refine Z8 ?_
 refine .n (opAlloc FZ.out) rfl fun b5 _ => ?_
 refine Z10 ?_
 refine .ownNil 2 encSig ?_
 refine .loopO (σ := Nat × SB) (fun s => [sliceH s.2 2 encSig (m.Sigs.take s.1), cellsH b5 (envC m (exactV (.slice none 0 0)) (exactV (sval s.2 (m.Sigs.take s.1).length)) (exactV (.slice none 0 0)) (exactV (.slice none 0 0)) (exactV (.slice none 0 0)) (exactV (.slice none 0 0)) (exactV (.slice none 0 0)) (exactV (.slice none 0 0))), cellsH b4 (List.map exactV [.slice none 0 0, .slice none 0 0, .slice none 0 0, .slice none 0 0, .slice none 0 0, .bool false, .slice none 0 0, .slice none 0 0, .slice none 0 0])]) (fun s => [(6, intV .i64 (s.1 : Int))]) (fun s => s.1 ≤ m.Sigs.length) (fun s => m.Sigs.length - s.1) (0, none) (Nat.zero_le _) rfl ?_ ?_
 · exact (.get rfl (VLe.refl _) (.refl _ _))
 rintro ⟨k0, q0⟩ hk0
 simp only at hk0 ⊢
 refine Z10 ?_
 refine Cd (fun c0 => ?_) fun c0 => ?_
 ·
  obtain ⟨y, hx⟩ := getElem?_lt (xs := m.Sigs) (k := k0) (by omega)
  refine Z4 ?_
  refine .stagedK [(0, 0), (1, 1), (2, 0), (3, 0), (4, 0), (5, 0), (6, 0), (7, 0), (8, 0), (9, 0), (10, 0), (11, 0), (12, 0), (13, 0), (14, 0), (15, 0)] 16 3 FM.out (by kernel_rfl) (k := ?_)
  refine Z5 ?_
  refine .p rfl (fun _ => opIndexAddr (j := k0) FU.out FC.out rfl (.t rfl) (.t rfl) rfl hx) ?_
  refine Z5 ?_
  refine .p rfl (fun _ => opIndexAddr (j := k0) FU.out FC.out rfl (.t rfl) (.t rfl) rfl hx) ?_
  refine Z3 ?_
  refine .p rfl (fun _ => opBuildSlice (enc := encSig) [y] FU.out FC.out rfl FZ.out rfl (.cons (.t rfl) .nil) rfl rfl rfl rfl rfl) ?_
  refine .fin ?_
  refine .n (opAppend (i := 0) FU.out FU.out FC.out rfl FZ.out rfl FY.out (.t rfl) (.t rfl) rfl (by simp <;> omega) (by simp <;> omega)) rfl fun g38 _ => ?_
  refine Z10 ?_
  refine .round (k0 + 1, g38) (by show k0 + 1 ≤ _; omega) (by show m.Sigs.length - (k0 + 1) < m.Sigs.length - k0; omega) (by simp only [← take_snoc hx, List.map_append, List.map_cons, List.map_nil, List.append_assoc]; rfl) ?_
  exact (.get rfl (VLe.int (by show (_ : Int) = ((k0 + 1 : Nat) : Int); omega)) ((.keep 27 rfl rfl)))
 have hall0 : m.Sigs.take k0 = m.Sigs := List.take_of_length_le (by omega)
 rw [hall0]
 refine .shareIn (n := 2) (enc := encSig) (i := 0) (j := 0) (f := 1) rfl rfl rfl ?_
 refine Z12 ?_
 refine .ownNil 2 encSig ?_
 refine .loopO (σ := Nat × SB) (fun s => [sliceH s.2 2 encSig ((m.Imports.take s.1).map fun z => sigAt m z.Sig), cellsH b5 (envC m (exactV (sval s.2 (((m.Imports.take s.1).map fun z => sigAt m z.Sig)).length)) (sliceV 2 encSig m.Sigs) (exactV (.slice none 0 0)) (exactV (.slice none 0 0)) (exactV (.slice none 0 0)) (exactV (.slice none 0 0)) (exactV (.slice none 0 0)) (exactV (.slice none 0 0))), cellsH b4 (List.map exactV [.slice none 0 0, .slice none 0 0, .slice none 0 0, .slice none 0 0, .slice none 0 0, .bool false, .slice none 0 0, .slice none 0 0, .slice none 0 0])]) (fun s => [(7, intV .i64 (s.1 : Int))]) (fun s => s.1 ≤ m.Imports.length) (fun s => m.Imports.length - s.1) (0, none) (Nat.zero_le _) rfl ?_ ?_
 · exact (.get rfl (VLe.refl _) (.refl _ _))
 rintro ⟨k1, q1⟩ hk1
 simp only at hk1 ⊢
 refine Z10 ?_
 refine Cd (fun c1 => ?_) fun c1 => ?_
 ·
  obtain ⟨y, hx⟩ := getElem?_lt (xs := m.Imports) (k := k1) (by omega)
  have hyi := hp0.imp (List.mem_of_getElem? hx)
  have hys := (sigAt_mem hyi).1
  unfold InP at hyi
  refine Z4 ?_
  refine .stagedK [(0, 0), (1, 1), (2, 0), (3, 1), (4, 0), (5, 0), (6, 0), (7, 0), (8, 0), (9, 0), (10, 0), (11, 0), (12, 0)] 13 3 FM.out (by kernel_rfl) (k := ?_)
  refine Z7 ?_
  refine .p rfl (fun _ => opIndexAddr (j := k1) FU.out FC.out rfl (.t rfl) (.t rfl) rfl hx) ?_
  refine Z2 ?_
  refine .p rfl (fun _ => opIndexAddr (j := y.Sig.toNat) FU.out FC.out rfl (.t rfl) (.t rfl) (by omega) hys) ?_
  refine Z1 ?_
  refine .p rfl (fun _ => opBuildSlice (enc := encSig) [sigAt m y.Sig] FU.out FC.out rfl FZ.out rfl (.cons (.t rfl) .nil) rfl rfl rfl rfl rfl) ?_
  refine .fin ?_
  refine .n (opAppend (i := 0) FU.out FU.out FC.out rfl FZ.out rfl FY.out (.t rfl) (.t rfl) rfl (by simp <;> omega) (by simp <;> omega)) rfl fun g60 _ => ?_
  refine Z10 ?_
  refine .round (k1 + 1, g60) (by show k1 + 1 ≤ _; omega) (by show m.Imports.length - (k1 + 1) < m.Imports.length - k1; omega) (by simp only [← take_snoc hx, List.map_append, List.map_cons, List.map_nil, List.append_assoc]; rfl) ?_
  exact (.get rfl (VLe.int (by show (_ : Int) = ((k1 + 1 : Nat) : Int); omega)) ((.keep 24 rfl rfl)))
 have hall1 : m.Imports.take k1 = m.Imports := List.take_of_length_le (by omega)
 rw [hall1]
 refine Z12 ?_
 refine .loopO (σ := Nat × SB) (fun s => [sliceH s.2 2 encSig ((m.Imports.map fun z => sigAt m z.Sig) ++ ((m.Funcs.take s.1).map fun z => sigAt m z.Sig)), cellsH b5 (envC m (exactV (sval s.2 ((m.Imports.map fun z => sigAt m z.Sig) ++ ((m.Funcs.take s.1).map fun z => sigAt m z.Sig)).length)) (sliceV 2 encSig m.Sigs) (exactV (.slice none 0 0)) (exactV (.slice none 0 0)) (exactV (.slice none 0 0)) (exactV (.slice none 0 0)) (exactV (.slice none 0 0)) (exactV (.slice none 0 0))), cellsH b4 (List.map exactV [.slice none 0 0, .slice none 0 0, .slice none 0 0, .slice none 0 0, .slice none 0 0, .bool false, .slice none 0 0, .slice none 0 0, .slice none 0 0])]) (fun s => [(8, intV .i64 (s.1 : Int))]) (fun s => s.1 ≤ m.Funcs.length) (fun s => m.Funcs.length - s.1) (0, q1) (Nat.zero_le _) (by simp only [List.take_zero, List.map_nil, List.append_nil]) ?_ ?_
 · exact (.get rfl (VLe.refl _) (.refl _ _))
 rintro ⟨k2, q2⟩ hk2
 simp only at hk2 ⊢
 refine Z10 ?_
 refine Cd (fun c2 => ?_) fun c2 => ?_
 ·
  obtain ⟨y, hx⟩ := getElem?_lt (xs := m.Funcs) (k := k2) (by omega)
  have hyi := func_sig hp0 (List.mem_of_getElem? hx)
  have hys := (sigAt_mem hyi).1
  unfold InP at hyi
  refine Z4 ?_
  refine .stagedK [(0, 0), (1, 1), (2, 0), (3, 1), (4, 0), (5, 0), (6, 0), (7, 0), (8, 0), (9, 0), (10, 0), (11, 0), (12, 0)] 13 3 FM.out (by kernel_rfl) (k := ?_)
  refine Z7 ?_
  refine .p rfl (fun _ => opIndexAddr (j := k2) FU.out FC.out rfl (.t rfl) (.t rfl) rfl hx) ?_
  refine Z2 ?_
  refine .p rfl (fun _ => opIndexAddr (j := y.Sig.toNat) FU.out FC.out rfl (.t rfl) (.t rfl) (by omega) hys) ?_
  refine Z1 ?_
  refine .p rfl (fun _ => opBuildSlice (enc := encSig) [sigAt m y.Sig] FU.out FC.out rfl FZ.out rfl (.cons (.t rfl) .nil) rfl rfl rfl rfl rfl) ?_
  refine .fin ?_
  refine .n (opAppend (i := 0) FU.out FU.out FC.out rfl FZ.out rfl FY.out (.t rfl) (.t rfl) rfl (by simp <;> omega) (by simp <;> omega)) rfl fun g82 _ => ?_
  refine Z10 ?_
  refine .round (k2 + 1, g82) (by show k2 + 1 ≤ _; omega) (by show m.Funcs.length - (k2 + 1) < m.Funcs.length - k2; omega) (by simp only [← take_snoc hx, List.map_append, List.map_cons, List.map_nil, List.append_assoc]; rfl) ?_
  exact (.get rfl (VLe.int (by show (_ : Int) = ((k2 + 1 : Nat) : Int); omega)) ((.keep 24 rfl rfl)))
 have hall2 : m.Funcs.take k2 = m.Funcs := List.take_of_length_le (by omega)
 rw [hall2]
 refine .shareIn (n := 2) (enc := encSig) (i := 0) (j := 0) (f := 0) rfl rfl rfl ?_
 refine Z12 ?_
 refine .ownNil 1 encPr ?_
 refine .loopO (σ := Nat × SB) (fun s => [sliceH s.2 1 encPr ((m.Mems.take s.1).map fun z => z.Wide), cellsH b5 (envC m (sliceV 2 encSig ((m.Imports.map fun z => sigAt m z.Sig) ++ (m.Funcs.map fun z => sigAt m z.Sig))) (sliceV 2 encSig m.Sigs) (exactV (sval s.2 (((m.Mems.take s.1).map fun z => z.Wide)).length)) (exactV (.slice none 0 0)) (exactV (.slice none 0 0)) (exactV (.slice none 0 0)) (exactV (.slice none 0 0)) (exactV (.slice none 0 0))), cellsH b4 (List.map exactV [.slice none 0 0, .slice none 0 0, .slice none 0 0, .slice none 0 0, .slice none 0 0, .bool false, .slice none 0 0, .slice none 0 0, .slice none 0 0])]) (fun s => [(9, intV .i64 (s.1 : Int))]) (fun s => s.1 ≤ m.Mems.length) (fun s => m.Mems.length - s.1) (0, none) (Nat.zero_le _) rfl ?_ ?_
 · exact (.get rfl (VLe.refl _) (.refl _ _))
 rintro ⟨k3, q3⟩ hk3
 simp only at hk3 ⊢
 refine Z10 ?_
 refine Cd (fun c3 => ?_) fun c3 => ?_
 ·
  obtain ⟨y, hx⟩ := getElem?_lt (xs := m.Mems) (k := k3) (by omega)
  refine Z4 ?_
  refine .stagedK [(0, 0), (1, 1), (2, 0), (3, 0), (4, 0), (5, 0), (6, 0), (7, 0), (8, 0)] 9 3 FM.out (by kernel_rfl) (k := ?_)
  refine Z5 ?_
  refine .p rfl (fun _ => opIndexAddr (j := k3) FU.out FC.out rfl (.t rfl) (.t rfl) rfl hx) ?_
  refine Z2 ?_
  refine .p rfl (fun _ => opBuildSlice (enc := encPr) [y.Wide] FU.out FC.out rfl FZ.out rfl (.cons (.t rfl) .nil) rfl rfl rfl rfl rfl) ?_
  refine .fin ?_
  refine .n (opAppend (i := 0) FU.out FU.out FC.out rfl FZ.out rfl FY.out (.t rfl) (.t rfl) rfl (by simp <;> omega) (by simp <;> omega)) rfl fun g100 _ => ?_
  refine Z10 ?_
  refine .round (k3 + 1, g100) (by show k3 + 1 ≤ _; omega) (by show m.Mems.length - (k3 + 1) < m.Mems.length - k3; omega) (by simp only [← take_snoc hx, List.map_append, List.map_cons, List.map_nil, List.append_assoc]; rfl) ?_
  exact (.get rfl (VLe.int (by show (_ : Int) = ((k3 + 1 : Nat) : Int); omega)) ((.keep 20 rfl rfl)))
 have hall3 : m.Mems.take k3 = m.Mems := List.take_of_length_le (by omega)
 rw [hall3]
 refine .shareIn (n := 1) (enc := encPr) (i := 0) (j := 0) (f := 2) rfl rfl rfl ?_
 refine Z12 ?_
 refine .ownNil 1 encPr ?_
 refine .ownNil 1 encU8 ?_
 refine .loopO (σ := Nat × SB × SB) (fun s => [sliceH s.2.1 1 encU8 ((m.Globals.take s.1).map fun z => z.Ty), sliceH s.2.2 1 encPr ((m.Globals.take s.1).map fun z => z.Mutable), cellsH b5 (envC m (sliceV 2 encSig ((m.Imports.map fun z => sigAt m z.Sig) ++ (m.Funcs.map fun z => sigAt m z.Sig))) (sliceV 2 encSig m.Sigs) (sliceV 1 encPr (m.Mems.map fun z => z.Wide)) (exactV (sval s.2.1 (((m.Globals.take s.1).map fun z => z.Ty)).length)) (exactV (sval s.2.2 (((m.Globals.take s.1).map fun z => z.Mutable)).length)) (exactV (.slice none 0 0)) (exactV (.slice none 0 0)) (exactV (.slice none 0 0))), cellsH b4 (List.map exactV [.slice none 0 0, .slice none 0 0, .slice none 0 0, .slice none 0 0, .slice none 0 0, .bool false, .slice none 0 0, .slice none 0 0, .slice none 0 0])]) (fun s => [(10, intV .i64 (s.1 : Int))]) (fun s => s.1 ≤ m.Globals.length) (fun s => m.Globals.length - s.1) (0, none, none) (Nat.zero_le _) rfl ?_ ?_
 · exact (.get rfl (VLe.refl _) (.refl _ _))
 rintro ⟨k4, q4, q5⟩ hk4
 simp only at hk4 ⊢
 refine Z10 ?_
 refine Cd (fun c4 => ?_) fun c4 => ?_
 ·
  obtain ⟨y, hx⟩ := getElem?_lt (xs := m.Globals) (k := k4) (by omega)
  refine Z5 ?_
  refine .stagedK [(0, 0), (1, 1), (2, 0), (3, 0), (4, 0), (5, 0), (6, 0), (7, 0), (8, 0)] 9 3 FM.out (by kernel_rfl) (k := ?_)
  refine Z5 ?_
  refine .p rfl (fun _ => opIndexAddr (j := k4) FU.out FC.out rfl (.t rfl) (.t rfl) rfl hx) ?_
  refine Z2 ?_
  refine .p rfl (fun _ => opBuildSlice (enc := encU8) [y.Ty] FU.out FC.out rfl FZ.out rfl (.cons (.t rfl) .nil) rfl rfl rfl rfl rfl) ?_
  refine .fin ?_
  refine .n (opAppend (i := 0) FU.out FU.out FC.out rfl FZ.out rfl FY.out (.t rfl) (.t rfl) rfl (by simp <;> omega) (by simp <;> omega)) rfl fun g118 _ => ?_
  refine Z4 ?_
  refine .stagedK [(0, 0), (1, 1), (2, 0), (3, 0), (4, 0), (5, 0), (6, 0), (7, 0), (8, 0)] 9 3 FM.out (by kernel_rfl) (k := ?_)
  refine Z5 ?_
  refine .p rfl (fun _ => opIndexAddr (j := k4) FU.out FC.out rfl (.t rfl) (.t rfl) rfl hx) ?_
  refine Z2 ?_
  refine .p rfl (fun _ => opBuildSlice (enc := encPr) [y.Mutable] FU.out FC.out rfl FZ.out rfl (.cons (.t rfl) .nil) rfl rfl rfl rfl rfl) ?_
  refine .fin ?_
  refine .n (opAppend (i := 1) FU.out FU.out FC.out rfl FZ.out rfl FY.out (.t rfl) (.t rfl) rfl (by simp <;> omega) (by simp <;> omega)) rfl fun g129 _ => ?_
  refine Z10 ?_
  refine .round (k4 + 1, g118, g129) (by show k4 + 1 ≤ _; omega) (by show m.Globals.length - (k4 + 1) < m.Globals.length - k4; omega) (by simp only [← take_snoc hx, List.map_append, List.map_cons, List.map_nil, List.append_assoc]; rfl) ?_
  exact (.get rfl (VLe.int (by show (_ : Int) = ((k4 + 1 : Nat) : Int); omega)) ((.keep 31 rfl rfl)))
 have hall4 : m.Globals.take k4 = m.Globals := List.take_of_length_le (by omega)
 rw [hall4]
 refine .shareIn (n := 1) (enc := encU8) (i := 0) (j := 1) (f := 3) rfl rfl rfl ?_
 refine .shareIn (n := 1) (enc := encPr) (i := 0) (j := 0) (f := 4) rfl rfl rfl ?_
 refine Z6 ?_
 refine .drawK 8 4 FM.out (by kernel_rfl) (k := ?_)
 refine Z5 ?_
 refine .p (cI i (h := hp2)) ?_
 refine Z3 ?_
 refine .p (cI f.Sig.toNat (h := hfs.1)) rfl ?_
 refine Z6 ?_
 refine .stagedK [(1, 0), (2, 0), (3, 1), (5, 0), (6, 0), (7, 0), (8, 0), (9, 0), (10, 0), (11, 0), (0, 4), (4, 2)] 12 3 FM.out (by kernel_rfl) (k := ?_)
 refine Z6 ?_
 refine .p rfl (fun _ => opIndexAddr (j := i) FU.out FC.out rfl (.t rfl) (.t rfl) rfl hp2) ?_
 refine Z3 ?_
 refine .a rfl (opBuildSliceO encU8 ([] : List UInt8) FU.out FC.out rfl FZ.out rfl .nil rfl rfl rfl rfl rfl) (fun _ _ => OLe.drop (OLe.refl _)) fun g142 _ => ?_
 refine .e rfl (opAppend (i := 0) FU.out FU.out FC.out rfl FZ.out rfl FY.out (.t rfl) (.t rfl) rfl (by simp <;> omega) (by simp <;> omega)) fun g146 _ => ?_
 refine .fin ?_
 refine .n (OpE.shareS (G := fun g => g) (hs1 := fun _ => _) (xs := fun _ => _) (opAppend (i := 0) FU.out FU.out FC.out rfl FZ.out rfl FY.out (.t rfl) (.t rfl) rfl (by simp <;> omega) (by simp <;> omega))) rfl fun _ _ => ?_
 refine Z11 ?_
 refine Post.retR1 rfl (()) (by trivial) (OLe.sel [] [0, 1] rfl rfl) (.ra (i := 1) FA.out FC.out rfl rfl rfl rfl) ?_
 exact VLe.refl _
theorem l13sig_spec {x : ModD} {n : Int} {s : SigD} (hp0 : sigO x n = some s) : FnP Tryz.prog 60 [aggV (encMod x), intV .i64 n] (aggV (encSig s)) := by
 refine In 34 Tryz.func60 fun _ _ _ => ?_
 refine .fact (t := 0) rfl (fun S w v h => modLens3 h) fun hlen => ?_
 have hall := hlen
 obtain ⟨⟨hl0, hl1, hl2, hl3, hl4, hl5, hl6, hl7⟩, ⟨hi0, hi1, hi2, hi3, hi4⟩, hi5⟩ := hlen
 refine Z3 ?_
 refine .n (opAlloc FZ.out) rfl fun b4 _ => ?_
 refine Z12 ?_
 refine Cd (fun c0 => ?_) fun c0 => ?_
 ·
  obtain ⟨y, hy1, hy2, hy3, hy4⟩ := sig_import hp0 c0
  refine Z1 ?_
  refine .drawK 8 3 FM.out (by kernel_rfl) (k := ?_)
  refine Z5 ?_
  refine .p (cI n.toNat (h := hy1) (hi := hy3)) ?_
  refine Z3 ?_
  refine .p (cI y.Sig.toNat (h := hy2) (hi := hy4)) rfl ?_
  refine Z6 ?_
  refine Post.retR1 rfl () trivial (fun _ _ _ _ => trivial) (.ra (i := 0) FA.out FC.out rfl rfl rfl rfl) ?_
  first | exact VLe.refl _ | exact VLe.int (by omega) | exact VLe.prop (by omega) | exact VLe.prop (by simp_all) | exact VLe.prop (by simp; omega)
 obtain ⟨y, hy1, hy2, hy3, hy4, hy5⟩ := sig_func hp0 c0
 unfold countM at hy5
 refine Z3 ?_
 refine .drawK 12 3 FM.out (by kernel_rfl) (k := ?_)
 refine Z9 ?_
 refine .p (cI ((n - (x.Imports.length : Int)).toNat) (h := hy1) (hi := hy3)) ?_
 refine Z3 ?_
 refine .p (cI y.Sig.toNat (h := hy2) (hi := hy4)) rfl ?_
 refine Z5 ?_
 refine Post.retR1 rfl () trivial (fun _ _ _ _ => trivial) (.ra (i := 0) FA.out FC.out rfl rfl rfl rfl) ?_
 first | exact VLe.refl _ | exact VLe.int (by omega) | exact VLe.prop (by omega) | exact VLe.prop (by simp_all) | exact VLe.prop (by simp; omega)
theorem unfitI_spec {x : ModD} : FnP Tryz.prog 32 [aggV (encMod x)] (tupV [anyV, exV (fun n : Int => n = 0 ↔ FitsM x) (intV .i64)]) := by
 refine In 393 Tryz.func32 fun _ _ _ => ?_
 refine .fact (t := 0) rfl (fun S w v h => modLens3 h) fun hlen => ?_
 have hall := hlen
 obtain ⟨⟨hl0, hl1, hl2, hl3, hl4, hl5, hl6, hl7⟩, ⟨hi0, hi1, hi2, hi3, hi4⟩, hi5⟩ := hlen
 refine Z3 ?_
 refine .p (opAssign (.s [] rfl rfl)) rfl ?_
 refine Z24 ?_
 refine Cd (fun c0 => ?_) fun c0 => ?_
 ·
  refine Z2 ?_
  refine .p (opAssign (.s [115, 105, 103, 115] rfl rfl)) rfl ?_
  refine Z5 ?_
  refine Rt2 ?_ ?_
  · exact VLe.any
  exact VLe.ex _ ⟨fun h => absurd h (by decide), fun h => by (exfalso; have hL := fo_lens h; have hl1 := hL.sigs; have hl2 := hL.imports; have hl3 := hL.funcs; have hl4 := hL.mems; have hl5 := hL.globals; have hl6 := hL.exports; have hl7 := hL.elems; have hl8 := hL.datas; have hl9 := hL.table; omega)⟩ (VLe.refl _)
 refine Z9 ?_
 refine .loopO (σ := Nat) (fun _ => []) (fun ka => [(5, intV .i64 (ka : Int))]) (fun ka => ka ≤ x.Sigs.length ∧ NotB (fun z : SigD => sigE z ≠ 0) x.Sigs ka) (fun ka => x.Sigs.length - ka) 0 ⟨by omega, NotB.zero _ _⟩ rfl ?_ ?_
 · exact (.get rfl (VLe.refl _) (.refl _ _))
 rintro ka ⟨hk1, hn1⟩
 refine Z10 ?_
 refine Cd (fun c1 => ?_) fun c1 => ?_
 ·
  obtain ⟨z, hz⟩ := getElem?_lt (xs := x.Sigs) (k := ka) (by omega)
  refine Z9 ?_
  refine .p (cI _) rfl ?_
  refine Z2 ?_
  refine .p (cA (h := typed_spec)) rfl ?_
  refine Z5 ?_
  refine .g (OpG.gF rfl rfl rfl rfl (fun hg => opIndexAddr FU.out FC.out rfl (.when (.t rfl) hg) (.when (.t rfl) hg) rfl (by assumption))) rfl rfl ?_
  refine Z2 ?_
  refine .g (OpG.gF rfl rfl rfl rfl (fun hg => opCall (typed_spec) FB.out (.cons (.when (.t rfl) hg) .nil))) rfl rfl ?_
  refine Z4 ?_
  refine Cd (fun c2 => ?_) fun c2 => ?_
  ·
   refine Z2 ?_
   refine .p (opAssign (.s [115, 105, 103, 115] rfl rfl)) rfl ?_
   refine Z9 ?_
   refine Rt2 ?_ ?_
   · exact VLe.any
   exact VLe.ex _ ⟨fun h => absurd h (by decide), fun h => by (exfalso; have hL := fo_lens h; have hl1 := hL.sigs; have hl2 := hL.imports; have hl3 := hL.funcs; have hl4 := hL.mems; have hl5 := hL.globals; have hl6 := hL.exports; have hl7 := hL.elems; have hl8 := hL.datas; have hl9 := hL.table; have h9 := fo_sig h (List.mem_of_getElem? hz); rcases c2 with c | c; exact c h9.1; exact c h9.2)⟩ (VLe.refl _)
  refine Z8 ?_
  refine .round (ka + 1) ⟨by omega, hn1.succ hz (not_not_intro (sigE_ok (by simpa using c2)))⟩ (by omega) rfl ?_
  exact (.get rfl (VLe.int (by omega)) (.keep 27 rfl rfl))
 have fa : sigsE x = 0 := many_ok (by omega) hn1 (by omega)
 refine Z14 ?_
 refine Cd (fun c3 => ?_) fun c3 => ?_
 ·
  refine Z2 ?_
  refine .p (opAssign (.s [105, 109, 112, 111, 114, 116, 115] rfl rfl)) rfl ?_
  refine Z5 ?_
  refine Rt2 ?_ ?_
  · exact VLe.any
  exact VLe.ex _ ⟨fun h => absurd h (by decide), fun h => by (exfalso; have hL := fo_lens h; have hl1 := hL.sigs; have hl2 := hL.imports; have hl3 := hL.funcs; have hl4 := hL.mems; have hl5 := hL.globals; have hl6 := hL.exports; have hl7 := hL.elems; have hl8 := hL.datas; have hl9 := hL.table; omega)⟩ (VLe.refl _)
 refine Z9 ?_
 refine .loopO (σ := Nat) (fun _ => []) (fun kb => [(6, intV .i64 (kb : Int))]) (fun kb => kb ≤ x.Imports.length ∧ NotB (fun z : ImportD => importE x z ≠ 0) x.Imports kb) (fun kb => x.Imports.length - kb) 0 ⟨by omega, NotB.zero _ _⟩ rfl ?_ ?_
 · exact (.get rfl (VLe.refl _) (.refl _ _))
 rintro kb ⟨hk4, hn4⟩
 refine Z10 ?_
 refine Cd (fun c4 => ?_) fun c4 => ?_
 ·
  obtain ⟨z, hz⟩ := getElem?_lt (xs := x.Imports) (k := kb) (by omega)
  refine Z10 ?_
  refine .p (cI _) rfl ?_
  refine Z2 ?_
  refine .p (cA (h := lnamed_spec)) rfl ?_
  refine Z5 ?_
  refine .g (OpG.gF rfl rfl rfl rfl (fun hg => opIndexAddr FU.out FC.out rfl (.when (.t rfl) hg) (.when (.t rfl) hg) rfl (by assumption))) rfl rfl ?_
  refine Z2 ?_
  refine .g (OpG.gF rfl rfl rfl rfl (fun hg => opCall (lnamed_spec) FB.out (.cons (.when (.t rfl) hg) .nil))) rfl rfl ?_
  refine Z4 ?_
  refine Cd (fun c5 => ?_) fun c5 => ?_
  ·
   refine Z2 ?_
   refine .p (opAssign (.s [105, 109, 112, 111, 114, 116, 115] rfl rfl)) rfl ?_
   refine Z10 ?_
   refine Rt2 ?_ ?_
   · exact VLe.any
   exact VLe.ex _ ⟨fun h => absurd h (by decide), fun h => by (exfalso; have hL := fo_lens h; have hl1 := hL.sigs; have hl2 := hL.imports; have hl3 := hL.funcs; have hl4 := hL.mems; have hl5 := hL.globals; have hl6 := hL.exports; have hl7 := hL.elems; have hl8 := hL.datas; have hl9 := hL.table; have h9 := fo_imp h (List.mem_of_getElem? hz); rcases c5 with c | c; exact c h9.1; exact c h9.2.1)⟩ (VLe.refl _)
  refine Z3 ?_
  refine .drawK 9 2 FM.out (by kernel_rfl) (k := ?_)
  refine Z3 ?_
  refine .p (cI _) ?_
  refine Z6 ?_
  refine .p (cA (h := lin_spec)) rfl ?_
  refine Z3 ?_
  refine Cd (fun c6 => ?_) fun c6 => ?_
  ·
   refine Z2 ?_
   refine .p (opAssign (.s [105, 109, 112, 111, 114, 116, 115] rfl rfl)) rfl ?_
   refine Z9 ?_
   refine Rt2 ?_ ?_
   · exact VLe.any
   exact VLe.ex _ ⟨fun h => absurd h (by decide), fun h => by (exfalso; have hL := fo_lens h; have hl1 := hL.sigs; have hl2 := hL.imports; have hl3 := hL.funcs; have hl4 := hL.mems; have hl5 := hL.globals; have hl6 := hL.exports; have hl7 := hL.elems; have hl8 := hL.datas; have hl9 := hL.table; have h9 := fo_imp h (List.mem_of_getElem? hz); exact c6 (by simpa using h9.2.2))⟩ (VLe.refl _)
  refine Z8 ?_
  refine .round (kb + 1) ⟨by omega, hn4.succ hz (not_not_intro (importE_ok (by simpa using c5) (by simpa using c6)))⟩ (by omega) rfl ?_
  exact (.get rfl (VLe.int (by omega)) (.keep 38 rfl rfl))
 have fb0 := hn4.zero_at (by omega)
 have fb : importsE x = 0 := many_ok (by omega) hn4 (by omega)
 refine Z12 ?_
 refine Cd (fun c7 => ?_) fun c7 => ?_
 ·
  refine Z2 ?_
  refine .p (opAssign (.s [102, 117, 110, 99, 115] rfl rfl)) rfl ?_
  refine Z5 ?_
  refine Rt2 ?_ ?_
  · exact VLe.any
  exact VLe.ex _ ⟨fun h => absurd h (by decide), fun h => by (exfalso; have hL := fo_lens h; have hl1 := hL.sigs; have hl2 := hL.imports; have hl3 := hL.funcs; have hl4 := hL.mems; have hl5 := hL.globals; have hl6 := hL.exports; have hl7 := hL.elems; have hl8 := hL.datas; have hl9 := hL.table; omega)⟩ (VLe.refl _)
 refine Z9 ?_
 refine .loopO (σ := Nat) (fun _ => []) (fun kc => [(7, intV .i64 (kc : Int))]) (fun kc => kc ≤ x.Funcs.length ∧ NotB (fun z : FuncD => funcE x z ≠ 0) x.Funcs kc) (fun kc => x.Funcs.length - kc) 0 ⟨by omega, NotB.zero _ _⟩ rfl ?_ ?_
 · exact (.get rfl (VLe.refl _) (.refl _ _))
 rintro kc ⟨hk8, hn8⟩
 refine Z10 ?_
 refine Cd (fun c8 => ?_) fun c8 => ?_
 ·
  obtain ⟨z, hz⟩ := getElem?_lt (xs := x.Funcs) (k := kc) (by omega)
  refine Z5 ?_
  refine .drawK 9 2 FM.out (by kernel_rfl) (k := ?_)
  refine Z3 ?_
  refine .p (cI _) ?_
  refine Z6 ?_
  refine .p (cA (h := lin_spec)) rfl ?_
  refine Z3 ?_
  refine Cd (fun c9 => ?_) fun c9 => ?_
  ·
   refine Z2 ?_
   refine .p (opAssign (.s [102, 117, 110, 99, 115] rfl rfl)) rfl ?_
   refine Z9 ?_
   refine Rt2 ?_ ?_
   · exact VLe.any
   exact VLe.ex _ ⟨fun h => absurd h (by decide), fun h => by (exfalso; have hL := fo_lens h; have hl1 := hL.sigs; have hl2 := hL.imports; have hl3 := hL.funcs; have hl4 := hL.mems; have hl5 := hL.globals; have hl6 := hL.exports; have hl7 := hL.elems; have hl8 := hL.datas; have hl9 := hL.table; have h9 := fo_func h (List.mem_of_getElem? hz); exact c9 (by simpa using h9))⟩ (VLe.refl _)
  refine Z8 ?_
  refine .round (kc + 1) ⟨by omega, hn8.succ hz (not_not_intro (funcE_ok (by simpa using c9)))⟩ (by omega) rfl ?_
  exact (.get rfl (VLe.int (by omega)) (.keep 20 rfl rfl))
 have fc0 := hn8.zero_at (by omega)
 have fc : funcsE x = 0 := funcs_ok (by omega) hn8 (by omega)
 refine Z13 ?_
 refine Cd (fun c10 => ?_) fun c10 => ?_
 ·
  refine Z2 ?_
  refine .p (opAssign (.s [116, 97, 98, 108, 101] rfl rfl)) rfl ?_
  refine Z5 ?_
  refine Rt2 ?_ ?_
  · exact VLe.any
  exact VLe.ex _ ⟨fun h => absurd h (by decide), fun h => by (exfalso; have hL := fo_lens h; have hl1 := hL.sigs; have hl2 := hL.imports; have hl3 := hL.funcs; have hl4 := hL.mems; have hl5 := hL.globals; have hl6 := hL.exports; have hl7 := hL.elems; have hl8 := hL.datas; have hl9 := hL.table; omega)⟩ (VLe.refl _)
 refine Z10 ?_
 refine Cd (fun c11 => ?_) fun c11 => ?_
 ·
  refine Z2 ?_
  refine .p (opAssign (.s [116, 97, 98, 108, 101] rfl rfl)) rfl ?_
  refine Z5 ?_
  refine Rt2 ?_ ?_
  · exact VLe.any
  exact VLe.ex _ ⟨fun h => absurd h (by decide), fun h => by (exfalso; have hL := fo_lens h; have hl1 := hL.sigs; have hl2 := hL.imports; have hl3 := hL.funcs; have hl4 := hL.mems; have hl5 := hL.globals; have hl6 := hL.exports; have hl7 := hL.elems; have hl8 := hL.datas; have hl9 := hL.table; omega)⟩ (VLe.refl _)
 have fd : tableE x = 0 := tableE_ok (by omega) (by omega)
 refine Z11 ?_
 refine Cd (fun c12 => ?_) fun c12 => ?_
 ·
  refine Z2 ?_
  refine .p (opAssign (.s [109, 101, 109, 115] rfl rfl)) rfl ?_
  refine Z5 ?_
  refine Rt2 ?_ ?_
  · exact VLe.any
  exact VLe.ex _ ⟨fun h => absurd h (by decide), fun h => by (exfalso; have hL := fo_lens h; have hl1 := hL.sigs; have hl2 := hL.imports; have hl3 := hL.funcs; have hl4 := hL.mems; have hl5 := hL.globals; have hl6 := hL.exports; have hl7 := hL.elems; have hl8 := hL.datas; have hl9 := hL.table; omega)⟩ (VLe.refl _)
 refine Z9 ?_
 refine .loopO (σ := Nat) (fun _ => []) (fun kd => [(8, intV .i64 (kd : Int))]) (fun kd => kd ≤ x.Mems.length ∧ NotB (fun z : LimitsD => memE z ≠ 0) x.Mems kd) (fun kd => x.Mems.length - kd) 0 ⟨by omega, NotB.zero _ _⟩ rfl ?_ ?_
 · exact (.get rfl (VLe.refl _) (.refl _ _))
 rintro kd ⟨hk13, hn13⟩
 refine Z10 ?_
 refine Cd (fun c13 => ?_) fun c13 => ?_
 ·
  obtain ⟨z, hz⟩ := getElem?_lt (xs := x.Mems) (k := kd) (by omega)
  refine Z9 ?_
  refine .p (cI _) rfl ?_
  refine Z1 ?_
  refine .n (opAlloc FZ.out) rfl fun b9 _ => ?_
  refine Z3 ?_
  refine .share (t := 9) (i := 0) rfl rfl ?_
  refine Z29 ?_
  refine Cd (fun c14 => ?_) fun c14 => ?_
  ·
   refine Z2 ?_
   refine .p (opAssign (.s [109, 101, 109, 115] rfl rfl)) rfl ?_
   refine Z9 ?_
   refine Rt2 ?_ ?_
   · exact VLe.any
   exact VLe.ex _ ⟨fun h => absurd h (by decide), fun h => by (exfalso; have hL := fo_lens h; have hl1 := hL.sigs; have hl2 := hL.imports; have hl3 := hL.funcs; have hl4 := hL.mems; have hl5 := hL.globals; have hl6 := hL.exports; have hl7 := hL.elems; have hl8 := hL.datas; have hl9 := hL.table; have h9 := fo_mem h (List.mem_of_getElem? hz); omega)⟩ (VLe.refl _)
  refine Z8 ?_
  refine .round (kd + 1) ⟨by omega, hn13.succ hz (not_not_intro (memE_ok (by omega)))⟩ (by omega) rfl ?_
  exact (.get rfl (VLe.int (by omega)) (.keep 41 rfl rfl))
 have fe : memsE x = 0 := many_ok (by omega) hn13 (by omega)
 refine Z14 ?_
 refine Cd (fun c15 => ?_) fun c15 => ?_
 ·
  refine Z2 ?_
  refine .p (opAssign (.s [103, 108, 111, 98, 97, 108, 115] rfl rfl)) rfl ?_
  refine Z5 ?_
  refine Rt2 ?_ ?_
  · exact VLe.any
  exact VLe.ex _ ⟨fun h => absurd h (by decide), fun h => by (exfalso; have hL := fo_lens h; have hl1 := hL.sigs; have hl2 := hL.imports; have hl3 := hL.funcs; have hl4 := hL.mems; have hl5 := hL.globals; have hl6 := hL.exports; have hl7 := hL.elems; have hl8 := hL.datas; have hl9 := hL.table; omega)⟩ (VLe.refl _)
 refine Z9 ?_
 refine .loopO (σ := Nat) (fun _ => []) (fun ke => [(10, intV .i64 (ke : Int))]) (fun ke => ke ≤ x.Globals.length ∧ NotB (fun z : GlobalD => globalE z ≠ 0) x.Globals ke) (fun ke => x.Globals.length - ke) 0 ⟨by omega, NotB.zero _ _⟩ rfl ?_ ?_
 · exact (.get rfl (VLe.refl _) (.refl _ _))
 rintro ke ⟨hk16, hn16⟩
 refine Z10 ?_
 refine Cd (fun c16 => ?_) fun c16 => ?_
 ·
  obtain ⟨z, hz⟩ := getElem?_lt (xs := x.Globals) (k := ke) (by omega)
  refine Z9 ?_
  refine .p (cI _) rfl ?_
  refine Z1 ?_
  refine .n (opAlloc FZ.out) rfl fun b11 _ => ?_
  refine Z3 ?_
  refine .share (t := 11) (i := 0) rfl rfl ?_
  refine Z17 ?_
  refine Cd (fun c17 => ?_) fun c17 => ?_
  ·
   refine Z2 ?_
   refine .p (opAssign (.s [103, 108, 111, 98, 97, 108, 115] rfl rfl)) rfl ?_
   refine Z9 ?_
   refine Rt2 ?_ ?_
   · exact VLe.any
   exact VLe.ex _ ⟨fun h => absurd h (by decide), fun h => by (exfalso; have hL := fo_lens h; have hl1 := hL.sigs; have hl2 := hL.imports; have hl3 := hL.funcs; have hl4 := hL.mems; have hl5 := hL.globals; have hl6 := hL.exports; have hl7 := hL.elems; have hl8 := hL.datas; have hl9 := hL.table; have h9 := fo_global h (List.mem_of_getElem? hz); omega)⟩ (VLe.refl _)
  refine Z8 ?_
  refine .round (ke + 1) ⟨by omega, hn16.succ hz (not_not_intro (globalE_ok (by omega)))⟩ (by omega) rfl ?_
  exact (.get rfl (VLe.int (by omega)) (.keep 29 rfl rfl))
 have ff : globalsE x = 0 := many_ok (by omega) hn16 (by omega)
 refine Z14 ?_
 refine Cd (fun c18 => ?_) fun c18 => ?_
 ·
  refine Z2 ?_
  refine .p (opAssign (.s [101, 120, 112, 111, 114, 116, 115] rfl rfl)) rfl ?_
  refine Z5 ?_
  refine Rt2 ?_ ?_
  · exact VLe.any
  exact VLe.ex _ ⟨fun h => absurd h (by decide), fun h => by (exfalso; have hL := fo_lens h; have hl1 := hL.sigs; have hl2 := hL.imports; have hl3 := hL.funcs; have hl4 := hL.mems; have hl5 := hL.globals; have hl6 := hL.exports; have hl7 := hL.elems; have hl8 := hL.datas; have hl9 := hL.table; omega)⟩ (VLe.refl _)
 refine Z9 ?_
 refine .loopO (σ := Nat) (fun _ => []) (fun kf => [(12, intV .i64 (kf : Int))]) (fun kf => kf ≤ x.Exports.length ∧ ∀ j, j < kf → exportE x j = 0) (fun kf => x.Exports.length - kf) 0 ⟨by omega, fun j hj => absurd hj (by omega)⟩ rfl ?_ ?_
 · exact (.get rfl (VLe.refl _) (.refl _ _))
 rintro kf ⟨hk19, hn19⟩
 refine Z10 ?_
 refine Cd (fun c19 => ?_) fun c19 => ?_
 ·
  obtain ⟨z, hz⟩ := getElem?_lt (xs := x.Exports) (k := kf) (by omega)
  refine Z9 ?_
  refine .p (cI _) rfl ?_
  refine Z1 ?_
  refine .n (opAlloc FZ.out) rfl fun b13 _ => ?_
  refine Z3 ?_
  refine .share (t := 13) (i := 0) rfl rfl ?_
  refine Z5 ?_
  refine .p (cA (h := lnamed_spec)) rfl ?_
  refine Z3 ?_
  refine Cd (fun c20 => ?_) fun c20 => ?_
  ·
   refine Z2 ?_
   refine .p (opAssign (.s [101, 120, 112, 111, 114, 116, 115] rfl rfl)) rfl ?_
   refine Z10 ?_
   refine Rt2 ?_ ?_
   · exact VLe.any
   exact VLe.ex _ ⟨fun h => absurd h (by decide), fun h => by (exfalso; have hL := fo_lens h; have hl1 := hL.sigs; have hl2 := hL.imports; have hl3 := hL.funcs; have hl4 := hL.mems; have hl5 := hL.globals; have hl6 := hL.exports; have hl7 := hL.elems; have hl8 := hL.datas; have hl9 := hL.table; exact c20 (fo_export h hz).1)⟩ (VLe.refl _)
  refine Z9 ?_
  refine .loopO (σ := Nat) (fun _ => []) (fun kg => [(14, intV .i64 (kg : Int))]) (fun kg => kg ≤ kf ∧ NotB (fun w : ExportD => w.Name = z.Name) x.Exports kg) (fun kg => kf - kg) 0 ⟨by omega, NotB.zero _ _⟩ rfl ?_ ?_
  · exact (.get rfl (VLe.refl _) (.refl _ _))
  rintro kg ⟨hk21, hn21⟩
  refine Z8 ?_
  refine Cd (fun c21 => ?_) fun c21 => ?_
  ·
   obtain ⟨w, hw⟩ := getElem?_lt (xs := x.Exports) (k := kg) (by omega)
   refine Z5 ?_
   refine .drawK 8 1 FM.out (by kernel_rfl) (k := ?_)
   refine Z3 ?_
   refine .p (cI _) ?_
   refine Z8 ?_
   refine Cd (fun c22 => ?_) fun c22 => ?_
   ·
    refine Z2 ?_
    refine .p (opAssign (.s [101, 120, 112, 111, 114, 116, 115] rfl rfl)) rfl ?_
    refine Z14 ?_
    refine Rt2 ?_ ?_
    · exact VLe.any
    exact VLe.ex _ ⟨fun h => absurd h (by decide), fun h => by (exfalso; have hL := fo_lens h; have hl1 := hL.sigs; have hl2 := hL.imports; have hl3 := hL.funcs; have hl4 := hL.mems; have hl5 := hL.globals; have hl6 := hL.exports; have hl7 := hL.elems; have hl8 := hL.datas; have hl9 := hL.table; exact (fo_export h hz).2.1 kg w (by omega) hw c22)⟩ (VLe.refl _)
   refine Z8 ?_
   refine .round (kg + 1) ⟨by omega, hn21.succ hw c22⟩ (by omega) rfl ?_
   exact (.get rfl (VLe.int (by omega)) (.keep 16 rfl rfl))
  have hq19 : NotB (fun w : ExportD => w.Name = z.Name) x.Exports kf := fun j y hj => hn21 j y (by omega)
  refine Z14 ?_
  refine .g (OpG.gT rfl rfl rfl rfl (fun hg => opCall (lin_spec) FB.out (.cons (.when (.t rfl) hg) (.cons (.when (.t rfl) hg) .nil)))) rfl rfl ?_
  refine Z26 ?_
  refine .g (OpG.hT rfl rfl rfl rfl (fun hg => opCall (lin_spec) FB.out (.cons (.when (.t rfl) hg) (.cons (.when (.t rfl) hg) .nil)))) rfl rfl ?_
  refine Z12 ?_
  refine .g (OpG.hT rfl rfl rfl rfl (fun hg => opCall (lin_spec) FB.out (.cons (.when (.t rfl) hg) (.cons (.when (.t rfl) hg) .nil)))) rfl rfl ?_
  refine Z11 ?_
  refine Cd (fun c23 => ?_) fun c23 => ?_
  ·
   refine Z2 ?_
   refine .p (opAssign (.s [101, 120, 112, 111, 114, 116, 115] rfl rfl)) rfl ?_
   refine Z9 ?_
   refine Rt2 ?_ ?_
   · exact VLe.any
   exact VLe.ex _ ⟨fun h => absurd h (by decide), fun h => by (exfalso; have hL := fo_lens h; have hl1 := hL.sigs; have hl2 := hL.imports; have hl3 := hL.funcs; have hl4 := hL.mems; have hl5 := hL.globals; have hl6 := hL.exports; have hl7 := hL.elems; have hl8 := hL.datas; have hl9 := hL.table; exact c23 (fo_export h hz).2.2)⟩ (VLe.refl _)
  refine Z8 ?_
  refine .round (kf + 1) ⟨by omega, fun j hj => by rcases Nat.lt_succ_iff_lt_or_eq.1 hj with h | h; exact hn19 j h; exact h ▸ exportE_ok hz (by simpa using c20) hq19 (by omega) (by omega) (or4 (Classical.not_not.1 c23))⟩ (by omega) rfl ?_
  exact (.get rfl (VLe.int (by omega)) (.keep 78 rfl rfl))
 have fg : exportsE x = 0 := exports_ok (by omega) hn19 (by omega)
 refine Z5 ?_
 refine .cut (σ := Unit) (fun _ => []) (fun _ => []) (fun _ => startE x = 0) ?_ ?_
 ·
  refine Z7 ?_
  refine Cd (fun c24 => ?_) fun c24 => ?_
  ·
   refine Z6 ?_
   refine .p (cA (h := lin_spec)) rfl ?_
   refine Z3 ?_
   refine Cd (fun c25 => ?_) fun c25 => ?_
   ·
    refine Z2 ?_
    refine .p (opAssign (.s [115, 116, 97, 114, 116] rfl rfl)) rfl ?_
    refine Z6 ?_
    refine Rt2 ?_ ?_
    · exact VLe.any
    exact VLe.ex _ ⟨fun h => absurd h (by decide), fun h => by (exfalso; have hL := fo_lens h; have hl1 := hL.sigs; have hl2 := hL.imports; have hl3 := hL.funcs; have hl4 := hL.mems; have hl5 := hL.globals; have hl6 := hL.exports; have hl7 := hL.elems; have hl8 := hL.datas; have hl9 := hL.table; exact c25 (by simpa [countM] using (fo_start h (by omega)).1))⟩ (VLe.refl _)
   obtain ⟨s, hs⟩ := sig_found (m := x) (f := x.Start) (by simpa [countM] using c25) fb0 fc0
   obtain ⟨si, hsi⟩ := List.mem_iff_getElem?.1 (sig_mem hs)
   have hs0 := hi0 si s hsi
   refine Z7 ?_
   refine .p (cA (h := (l13sig_spec hs))) rfl ?_
   refine .n (opAlloc FZ.out) rfl fun b16 _ => ?_
   refine Z3 ?_
   refine .share (t := 16) (i := 0) rfl rfl ?_
   refine Z12 ?_
   refine Cd (fun c26 => ?_) fun c26 => ?_
   ·
    refine Z2 ?_
    refine .p (opAssign (.s [115, 116, 97, 114, 116] rfl rfl)) rfl ?_
    refine Z5 ?_
    refine Rt2 ?_ ?_
    · exact VLe.any
    exact VLe.ex _ ⟨fun h => absurd h (by decide), fun h => by (exfalso; have hL := fo_lens h; have hl1 := hL.sigs; have hl2 := hL.imports; have hl3 := hL.funcs; have hl4 := hL.mems; have hl5 := hL.globals; have hl6 := hL.exports; have hl7 := hL.elems; have hl8 := hL.datas; have hl9 := hL.table; have h9 := (fo_start h (by omega)).2 s hs; omega)⟩ (VLe.refl _)
   refine Z1 ?_
   refine .meet () (startE_ok hs (by omega)) rfl (.keep 22 rfl rfl)
  refine Z1 ?_
  refine .meet () (startE_no (by omega)) rfl (.keep 3 rfl rfl)
 intro _ fh
 refine Z9 ?_
 refine Cd (fun c27 => ?_) fun c27 => ?_
 ·
  refine Z2 ?_
  refine .p (opAssign (.s [101, 108, 101, 109, 115] rfl rfl)) rfl ?_
  refine Z5 ?_
  refine Rt2 ?_ ?_
  · exact VLe.any
  exact VLe.ex _ ⟨fun h => absurd h (by decide), fun h => by (exfalso; have hL := fo_lens h; have hl1 := hL.sigs; have hl2 := hL.imports; have hl3 := hL.funcs; have hl4 := hL.mems; have hl5 := hL.globals; have hl6 := hL.exports; have hl7 := hL.elems; have hl8 := hL.datas; have hl9 := hL.table; omega)⟩ (VLe.refl _)
 refine Z9 ?_
 refine .loopO (σ := Nat) (fun _ => []) (fun kh => [(17, intV .i64 (kh : Int))]) (fun kh => kh ≤ x.Elems.length ∧ NotB (fun z : ElemD => elemE x z ≠ 0) x.Elems kh) (fun kh => x.Elems.length - kh) 0 ⟨by omega, NotB.zero _ _⟩ rfl ?_ ?_
 · exact (.get rfl (VLe.refl _) (.refl _ _))
 rintro kh ⟨hk28, hn28⟩
 refine Z10 ?_
 refine Cd (fun c28 => ?_) fun c28 => ?_
 ·
  obtain ⟨z, hz⟩ := getElem?_lt (xs := x.Elems) (k := kh) (by omega)
  refine Z10 ?_
  refine .p (cI _) rfl ?_
  refine Z6 ?_
  refine Cd (fun c29 => ?_) fun c29 => ?_
  ·
   refine Z2 ?_
   refine .p (opAssign (.s [101, 108, 101, 109, 115] rfl rfl)) rfl ?_
   refine Z10 ?_
   refine Rt2 ?_ ?_
   · exact VLe.any
   exact VLe.ex _ ⟨fun h => absurd h (by decide), fun h => by (exfalso; have hL := fo_lens h; have hl1 := hL.sigs; have hl2 := hL.imports; have hl3 := hL.funcs; have hl4 := hL.mems; have hl5 := hL.globals; have hl6 := hL.exports; have hl7 := hL.elems; have hl8 := hL.datas; have hl9 := hL.table; have h9 := (fo_elem h (List.mem_of_getElem? hz)).1; omega)⟩ (VLe.refl _)
  refine Z12 ?_
  refine .g (OpG.gF rfl rfl rfl rfl (fun hg => opIndexAddr FU.out FC.out rfl (.when (.t rfl) hg) (.when (.t rfl) hg) rfl (by assumption))) rfl rfl ?_
  refine Z6 ?_
  refine Cd (fun c30 => ?_) fun c30 => ?_
  ·
   refine Z2 ?_
   refine .p (opAssign (.s [101, 108, 101, 109, 115] rfl rfl)) rfl ?_
   refine Z10 ?_
   refine Rt2 ?_ ?_
   · exact VLe.any
   exact VLe.ex _ ⟨fun h => absurd h (by decide), fun h => by (exfalso; have hL := fo_lens h; have hl1 := hL.sigs; have hl2 := hL.imports; have hl3 := hL.funcs; have hl4 := hL.mems; have hl5 := hL.globals; have hl6 := hL.exports; have hl7 := hL.elems; have hl8 := hL.datas; have hl9 := hL.table; have h9 := fo_elem h (List.mem_of_getElem? hz); omega)⟩ (VLe.refl _)
  refine Z8 ?_
  refine .loopO (σ := Nat) (fun _ => []) (fun kj => [(18, intV .i64 (kj : Int))]) (fun kj => kj ≤ z.Funcs.length ∧ NotB (fun w : Int => ¬ InP w (countM x)) z.Funcs kj) (fun kj => z.Funcs.length - kj) 0 ⟨by omega, NotB.zero _ _⟩ rfl ?_ ?_
  · exact (.get rfl (VLe.refl _) (.refl _ _))
  rintro kj ⟨hk31, hn31⟩
  refine Z7 ?_
  refine .p (cI _) rfl ?_
  refine Z6 ?_
  refine Cd (fun c31 => ?_) fun c31 => ?_
  ·
   obtain ⟨w, hw⟩ := getElem?_lt (xs := z.Funcs) (k := kj) (by omega)
   refine Z9 ?_
   refine .p (cI _) rfl ?_
   refine Z3 ?_
   refine .p (cI _) rfl ?_
   refine Z2 ?_
   refine .p (cA (h := lin_spec)) rfl ?_
   refine Z3 ?_
   refine Cd (fun c32 => ?_) fun c32 => ?_
   ·
    refine Z2 ?_
    refine .p (opAssign (.s [101, 108, 101, 109, 115] rfl rfl)) rfl ?_
    refine Z13 ?_
    refine Rt2 ?_ ?_
    · exact VLe.any
    exact VLe.ex _ ⟨fun h => absurd h (by decide), fun h => by (exfalso; have hL := fo_lens h; have hl1 := hL.sigs; have hl2 := hL.imports; have hl3 := hL.funcs; have hl4 := hL.mems; have hl5 := hL.globals; have hl6 := hL.exports; have hl7 := hL.elems; have hl8 := hL.datas; have hl9 := hL.table; have h9 := (fo_elem h (List.mem_of_getElem? hz)).2.2.2 w (List.mem_of_getElem? hw); exact c32 (by simpa [countM] using h9))⟩ (VLe.refl _)
   refine Z8 ?_
   refine .round (kj + 1) ⟨by omega, hn31.succ hw (by simpa [countM] using c32)⟩ (by omega) rfl ?_
   exact (.get rfl (VLe.int (by omega)) (.keep 25 rfl rfl))
  refine Z11 ?_
  refine .round (kh + 1) ⟨by omega, hn28.succ hz (not_not_intro (elemE_ok (k := kj) (by omega) (by omega) (by omega) hn31 (by omega)))⟩ (by omega) rfl ?_
  exact (.get rfl (VLe.int (by omega)) (.keep 40 rfl rfl))
 have fi : elemsE x = 0 := many_ok (by omega) hn28 (by omega)
 refine Z14 ?_
 refine Cd (fun c33 => ?_) fun c33 => ?_
 ·
  refine Z2 ?_
  refine .p (opAssign (.s [100, 97, 116, 97] rfl rfl)) rfl ?_
  refine Z5 ?_
  refine Rt2 ?_ ?_
  · exact VLe.any
  exact VLe.ex _ ⟨fun h => absurd h (by decide), fun h => by (exfalso; have hL := fo_lens h; have hl1 := hL.sigs; have hl2 := hL.imports; have hl3 := hL.funcs; have hl4 := hL.mems; have hl5 := hL.globals; have hl6 := hL.exports; have hl7 := hL.elems; have hl8 := hL.datas; have hl9 := hL.table; omega)⟩ (VLe.refl _)
 refine Z9 ?_
 refine .loopO (σ := Nat) (fun _ => []) (fun kl => [(19, intV .i64 (kl : Int))]) (fun kl => kl ≤ x.Datas.length ∧ NotB (fun z : DataD => dataE x z ≠ 0) x.Datas kl) (fun kl => x.Datas.length - kl) 0 ⟨by omega, NotB.zero _ _⟩ rfl ?_ ?_
 · exact (.get rfl (VLe.refl _) (.refl _ _))
 rintro kl ⟨hk34, hn34⟩
 refine Z10 ?_
 refine Cd (fun c34 => ?_) fun c34 => ?_
 ·
  obtain ⟨z, hz⟩ := getElem?_lt (xs := x.Datas) (k := kl) (by omega)
  refine Z9 ?_
  refine .p (cI _) rfl ?_
  refine Z1 ?_
  refine .n (opAlloc FZ.out) rfl fun b20 _ => ?_
  refine Z3 ?_
  refine .share (t := 20) (i := 0) rfl rfl ?_
  refine Z9 ?_
  refine Cd (fun c35 => ?_) fun c35 => ?_
  ·
   refine Z2 ?_
   refine .p (opAssign (.s [100, 97, 116, 97] rfl rfl)) rfl ?_
   refine Z10 ?_
   refine Rt2 ?_ ?_
   · exact VLe.any
   exact VLe.ex _ ⟨fun h => absurd h (by decide), fun h => by (exfalso; have hL := fo_lens h; have hl1 := hL.sigs; have hl2 := hL.imports; have hl3 := hL.funcs; have hl4 := hL.mems; have hl5 := hL.globals; have hl6 := hL.exports; have hl7 := hL.elems; have hl8 := hL.datas; have hl9 := hL.table; have h9 := (fo_data h (List.mem_of_getElem? hz)).1; omega)⟩ (VLe.refl _)
  refine Z10 ?_
  refine .p (cA (h := lin_spec)) rfl ?_
  refine Z3 ?_
  refine Cd (fun c36 => ?_) fun c36 => ?_
  ·
   refine Z2 ?_
   refine .p (opAssign (.s [100, 97, 116, 97] rfl rfl)) rfl ?_
   refine Z10 ?_
   refine Rt2 ?_ ?_
   · exact VLe.any
   exact VLe.ex _ ⟨fun h => absurd h (by decide), fun h => by (exfalso; have hL := fo_lens h; have hl1 := hL.sigs; have hl2 := hL.imports; have hl3 := hL.funcs; have hl4 := hL.mems; have hl5 := hL.globals; have hl6 := hL.exports; have hl7 := hL.elems; have hl8 := hL.datas; have hl9 := hL.table; have h9 := (fo_data h (List.mem_of_getElem? hz)).2.1; exact c36 (by simpa using h9))⟩ (VLe.refl _)
  obtain ⟨hy3, hy2⟩ := InP.at (n := z.Mem) (k := x.Mems.length) (by simpa using c36)
  obtain ⟨y, hy1⟩ := getElem?_lt (xs := x.Mems) (k := z.Mem.toNat) hy3
  refine Z8 ?_
  refine .p (cI z.Mem.toNat (h := hy1) (hi := hy2)) rfl ?_
  refine Z10 ?_
  refine Cd (fun c37 => ?_) fun c37 => ?_
  ·
   refine Z2 ?_
   refine .p (opAssign (.s [100, 97, 116, 97] rfl rfl)) rfl ?_
   refine Z9 ?_
   refine Rt2 ?_ ?_
   · exact VLe.any
   exact VLe.ex _ ⟨fun h => absurd h (by decide), fun h => by (exfalso; have hL := fo_lens h; have hl1 := hL.sigs; have hl2 := hL.imports; have hl3 := hL.funcs; have hl4 := hL.mems; have hl5 := hL.globals; have hl6 := hL.exports; have hl7 := hL.elems; have hl8 := hL.datas; have hl9 := hL.table; have h9 := (fo_data h (List.mem_of_getElem? hz)).2.2 y hy1; exact h9 c37)⟩ (VLe.refl _)
  refine Z8 ?_
  refine .round (kl + 1) ⟨by omega, hn34.succ hz (not_not_intro (dataE_ok (by omega) (by simpa using c36) hy1 (by simpa using c37)))⟩ (by omega) rfl ?_
  exact (.get rfl (VLe.int (by omega)) (.keep 40 rfl rfl))
 have fj : datasE x = 0 := many_ok (by omega) hn34 (by omega)
 refine Z7 ?_
 refine .p (opAssign (.s [] rfl rfl)) rfl ?_
 refine Z4 ?_
 refine Rt2 ?_ ?_
 · exact VLe.any
 exact VLe.ex _ ⟨fun _ => ⟨fa, fb, fc, fd, fe, ff, fg, fh, fi, fj⟩, fun _ => rfl⟩ (VLe.refl _)
variable {n : Nat}
theorem dblock_spec {l : List InstrD} {a d : Nat} (hp0 : l.length - a < n) (hp1 : a ≤ l.length) (hp2 : d ≤ 64) (hp3 : l.length ≤ 10000) : FnE Tryz.prog 94 [sliceV 5 encInstr (l), intV .i64 ((a : Int)), intV .i64 ((d : Int))] [] (γ := Int × SB × List SpD × Int) (fun g => rcP l a d g.1 g.2.2.1 g.2.2.2) (fun g => [sliceH g.2.1 3 encSpan3 g.2.2.1]) (fun g => tupV [intV .i64 g.1, exactV (sval g.2.1 g.2.2.1.length), intV .i64 g.2.2.2]) := by
 induction n generalizing a d
 case zero => omega
 rename_i n ih
 refine In 128 Tryz.func94 fun _ _ _ => ?_
 refine Z12 ?_
 refine .ownNil 3 encSpan3 ?_
 refine Z2 ?_
 refine .loopO (σ := Nat × SB × List SpD) (fun g => [sliceH g.2.1 3 encSpan3 g.2.2]) (fun g => [(1, intV .i64 (g.1 : Int)), (9, exactV (sval g.2.1 g.2.2.length))]) (fun g => a ≤ g.1 ∧ g.1 ≤ l.length ∧ g.2.2.length + a ≤ g.1 ∧ rc ((codesL l).drop a) d = rc ((codesL l).drop g.1) d) (fun g => l.length - g.1) (a, none, []) ⟨Nat.le_refl _, hp1, by simp, rfl⟩ rfl ?_ ?_
 · exact (.get rfl (VLe.refl _) (.get rfl (VLe.of_eq rfl) (.refl _ _)))
 rintro ⟨i, gs, out⟩ ⟨hai, hil, hol, hrc⟩
 simp only at hai hil hol hrc ⊢
 refine Z9 ?_
 refine Cd (fun c0 => ?_) fun c0 => ?_
 ·
  obtain ⟨x, hx⟩ := getElem?_lt (xs := l) (k := i) (by omega)
  refine Z7 ?_
  refine .p (cI i (h := hx)) rfl ?_
  refine Z16 ?_
  refine Cd (fun c1 => ?_) fun c1 => ?_
  ·
   refine Z15 ?_
   refine Post.retR rfl rfl (((i : Int), gs, out, 0)) (by exact .inl ⟨rfl, i, rfl, by rw [hrc, codes_at hx, rc_end c1], by omega, hil, by omega⟩) (fun _ _ _ h => h) rfl (.cons (.rt rfl) ?_ (.cons (.rt rfl) ?_ (.cons (.rt rfl) ?_ .nil)))
   · exact VLe.refl _
   · exact VLe.refl _
   exact VLe.refl _
  refine Z13 ?_
  refine Cd (fun c2 => ?_) fun c2 => ?_
  ·
   refine Z10 ?_
   refine .round (i + 1, gs, out) ⟨by show a ≤ i + 1; omega, by show i + 1 ≤ _; omega, by show out.length + a ≤ i + 1; omega, by (show _ = rc ((codesL l).drop (i + 1)) d; rw [hrc, codes_at hx, rc_plain c1 (by unfold opensC; omega)])⟩ (by show l.length - (i + 1) < l.length - i; omega) rfl ?_
   exact (.get rfl (VLe.int (by show (_ : Int) = ((i + 1 : Nat) : Int); omega)) (.get rfl (VLe.refl _) ((.keep 27 rfl rfl))))
  have ho : opensC x.Code := by unfold opensC; omega
  refine Z9 ?_
  refine Cd (fun c3 => ?_) fun c3 => ?_
  ·
   refine Z14 ?_
   refine Post.retR rfl rfl (((i : Int), none, [], 15)) (by exact .inr ⟨by show (15 : Int) ≠ 0; decide, by rw [hrc, codes_at hx]; exact rc_deep ho (by omega), rfl⟩) (OLe.trans (OLe.nil _) OLe.none) rfl (.cons (.rt rfl) ?_ (.cons (.rt rfl) ?_ (.cons (.rt rfl) ?_ .nil)))
   · exact VLe.refl _
   · exact VLe.refl _
   exact VLe.refl _
  have hd : ¬ 64 ≤ d := by omega
  refine Z6 ?_
  refine .n (opAlloc FZ.out) rfl fun b11 _ => ?_
  refine Z10 ?_
  refine .n (opCallE (rest := [_, _]) (@ih (i + 1) (d + 1) (by omega) (by omega) (by omega)) FB.out (.cons (.t rfl) (.cons (.le (.t rfl) (VLe.int (show (i : Int) + 1 = ((i + 1 : Nat) : Int) by omega))) (.cons (.le (.t rfl) (VLe.int (show (d : Int) + 1 = ((d + 1 : Nat) : Int) by omega))) .nil))) (Perm.idx [0, 1] rfl rfl)) rfl fun g52 h52 => ?_
  refine Z9 ?_
  refine .cut (σ := Int × SB × List SpD × Int × Int) (fun z => [sliceH z.2.1 3 encSpan3 z.2.2.1, cellsH b11 [intV .i64 (i : Int), intV .i64 z.2.2.2.2, intV .i64 (-1)], sliceH gs 3 encSpan3 out]) (fun z => [(12, intV .i64 z.1), (13, exactV (sval z.2.1 z.2.2.1.length)), (14, intV .i64 z.2.2.2.1)]) (fun z => rcM l i d z.1 z.2.2.1 z.2.2.2.1) ?_ ?_
  ·
   refine Z13 ?_
   refine .g (OpG.gT rfl rfl rfl rfl (fun hg => opIndexAddr (j := g52.1.toNat) FU.out FC.out rfl (.when (.t rfl) hg) (.when (.t rfl) hg) (by (rcases h52 with ⟨_, k, h2, _⟩ | ⟨h1, _⟩; omega; exact absurd hg.1 h1)) (gI_in (by omega)))) rfl rfl ?_
   refine Z6 ?_
   refine Cd (fun c4 => ?_) fun c4 => ?_
   ·
    refine Z7 ?_
    refine Cd (fun c5 => ?_) fun c5 => ?_
    ·
     refine Z15 ?_
     refine Post.retR rfl rfl ((g52.1, none, [], 4)) (by exact .inr ⟨by show (4 : Int) ≠ 0; decide, by (rw [hrc]; rcases h52 with ⟨_, k, h2, h3, _, h5, _⟩ | ⟨h1, _⟩; (have hk : g52.1.toNat = k := by omega); have hc := c4.2; (rw [hk] at hc); exact rc_else_no hx ho hd h3 (gI_in (by omega)) hc c5; exact absurd c4.1.1 h1), rfl⟩) (OLe.trans (OLe.nil _) OLe.none) rfl (.cons (.rt rfl) ?_ (.cons (.rt rfl) ?_ (.cons (.rt rfl) ?_ .nil)))
     · exact VLe.refl _
     · exact VLe.refl _
     exact VLe.refl _
    have h4 : x.Code = 4 := by omega
    have hen0 : 0 ≤ g52.1 ∧ i + 1 ≤ g52.1.toNat ∧ g52.1.toNat < l.length := by (have h8 := c4.1.2; rcases h52 with ⟨_, k, h2, _, h3, _⟩ | ⟨h1, _⟩; omega; exact absurd c4.1.1 h1)
    refine Z21 ?_
    refine .n (opCallE (rest := [_, _, _]) (@ih (g52.1.toNat + 1) (d + 1) (by omega) (by omega) (by omega)) FB.out (.cons (.t rfl) (.cons (.le (.t rfl) (VLe.int (show g52.1 + 1 = ((g52.1.toNat + 1 : Nat) : Int) by omega))) (.cons (.le (.t rfl) (VLe.int (show (d : Int) + 1 = ((d + 1 : Nat) : Int) by omega))) .nil))) (Perm.idx [0, 1, 2] rfl rfl)) rfl fun g83 h83 => ?_
    refine Z10 ?_
    refine .shareS (t := 15) (i := 0) (g := g83.2.1) (xs := g83.2.2.1) rfl rfl ?_
    refine Z3 ?_
    refine .n (opAppend (i := 0) FU.out FU.out FC.out rfl FZ.out rfl FY.out (.t rfl) (.t rfl) rfl (by have := rcP_len h52; have := rcP_len h83; omega) (by have := rcP_len h52; have := rcP_len h83; omega)) rfl fun g89 _ => ?_
    refine Z16 ?_
    refine .g (OpG.gT rfl rfl rfl rfl (fun hg => opIndexAddr (j := g83.1.toNat) FU.out FC.out rfl (.when (.t rfl) hg) (.when (.t rfl) hg) (by (rcases h83 with ⟨_, k, h2, _⟩ | ⟨h1, _⟩; omega; exact absurd hg.1 h1)) (gI_in (by omega)))) rfl rfl ?_
    refine Z6 ?_
    refine Cd (fun c6 => ?_) fun c6 => ?_
    ·
     refine Z14 ?_
     refine Post.retR rfl rfl ((g83.1, none, [], 4)) (by exact .inr ⟨by show (4 : Int) ≠ 0; decide, by rw [hrc]; exact (rcM_two hx ho hd hp2 h52 hp3 c4 h4 h83).1 c6, rfl⟩) (OLe.trans (OLe.nil _) OLe.none) rfl (.cons (.rt rfl) ?_ (.cons (.rt rfl) ?_ (.cons (.rt rfl) ?_ .nil)))
     · exact VLe.refl _
     · exact VLe.refl _
     exact VLe.refl _
    refine Z1 ?_
    refine .meet (g83.1, g89, g52.2.2.1 ++ g83.2.2.1, g83.2.2.2, g52.1) ((rcM_two hx ho hd hp2 h52 hp3 c4 h4 h83).2 c6) rfl (.get rfl (VLe.refl _) (.get rfl (VLe.refl _) (.get rfl (VLe.refl _) (.keep 55 rfl rfl))))
   refine Z1 ?_
   refine .meet (g52.1, g52.2.1, g52.2.2.1, g52.2.2.2, -1) (rcM_one hx ho hd h52 hp3 c4) rfl (.get rfl (VLe.refl _) (.get rfl (VLe.refl _) (.get rfl (VLe.refl _) (.keep 16 rfl rfl))))
  intro ⟨en, gi, inn, e, el⟩ hM
  simp only at hM ⊢
  refine Z7 ?_
  refine Cd (fun c7 => ?_) fun c7 => ?_
  ·
   refine Z15 ?_
   refine Post.retR rfl rfl ((en, none, [], e)) (by exact .inr ⟨c7, by (rw [hrc]; rcases hM with ⟨_, h, _⟩ | ⟨h1, _⟩ | ⟨h1, _⟩; exact h; exact absurd h1 c7; exact absurd h1 c7), rfl⟩) (OLe.trans (OLe.nil _) OLe.none) rfl (.cons (.rt rfl) ?_ (.cons (.rt rfl) ?_ (.cons (.rt rfl) ?_ .nil)))
   · exact VLe.refl _
   · exact VLe.refl _
   exact VLe.refl _
  refine Z11 ?_
  refine Cd (fun c8 => ?_) fun c8 => ?_
  ·
   refine Z14 ?_
   refine Post.retR rfl rfl ((en, none, [], 4)) (by exact .inr ⟨by show (4 : Int) ≠ 0; decide, by (rw [hrc]; rcases hM with ⟨h1, h, _⟩ | ⟨_, _, h, _⟩ | ⟨_, k, h1, h2, _⟩; exact h; exact h; exact absurd c8 (by omega)), rfl⟩) (OLe.trans (OLe.nil _) OLe.none) rfl (.cons (.rt rfl) ?_ (.cons (.rt rfl) ?_ (.cons (.rt rfl) ?_ .nil)))
   · exact VLe.refl _
   · exact VLe.refl _
   exact VLe.refl _
  obtain ⟨hk0, k, hk1, hk2, hk3, hk4, hk5⟩ : e = 0 ∧ ∃ k : Nat, en = (k : Int) ∧ k < l.length ∧ rc ((codesL l).drop i) d = rc ((codesL l).drop (k + 1)) d ∧ i + 1 ≤ k ∧ inn.length + i + 1 ≤ k := by (rcases hM with ⟨h1, _⟩ | ⟨_, h1, _⟩ | h1; exact absurd h1 c7; exact absurd h1 c8; exact h1)
  refine Z10 ?_
  refine .shareS (t := 13) (i := 0) (g := gi) (xs := inn) rfl rfl ?_
  refine Z3 ?_
  refine .p (cB encSpan3 [((i : Int), el, en)]) rfl ?_
  refine .n (opAppend (i := 1) FU.out FU.out FC.out rfl FZ.out rfl FY.out (.t rfl) (.t rfl) rfl (by simp only [List.length_cons, List.length_nil]; omega) (by simp only [List.length_cons, List.length_nil]; omega)) rfl fun g121 _ => ?_
  refine Z1 ?_
  refine .n (opAppend (i := 1) FU.out FU.out FC.out rfl FZ.out rfl FY.out (.t rfl) (.t rfl) rfl (by simp only [List.length_append, List.length_cons, List.length_nil]; omega) (by simp only [List.length_append, List.length_cons, List.length_nil]; omega)) rfl fun g123 _ => ?_
  refine Z9 ?_
  refine .own (OLe.sel [1] [0] rfl rfl) (EndT.round (k + 1, g123, (out ++ [((i : Int), el, en)]) ++ inn) ⟨by show a ≤ k + 1; omega, by show k + 1 ≤ _; omega, by (show ((out ++ [_]) ++ inn).length + a ≤ k + 1; simp only [List.length_append, List.length_cons, List.length_nil]; omega), by (show _ = rc ((codesL l).drop (k + 1)) d; rw [hrc, hk3])⟩ (by show l.length - (k + 1) < l.length - i; omega) rfl ?_)
  exact (.get rfl (VLe.int (by show (_ : Int) = ((k + 1 : Nat) : Int); omega)) (.get rfl (VLe.refl _) ((.keep 64 rfl rfl))))
 refine Z15 ?_
 refine Post.retR rfl rfl (((i : Int), gs, out, 0)) (by exact .inl ⟨rfl, i, rfl, by (rw [hrc, codes_end (by omega)]; rfl), by omega, hil, by omega⟩) (fun _ _ _ h => h) rfl (.cons (.rt rfl) ?_ (.cons (.rt rfl) ?_ (.cons (.rt rfl) ?_ .nil)))
 · exact VLe.refl _
 · exact VLe.refl _
 exact VLe.refl _
theorem dspans_spec {l : List InstrD} (hp0 : l.length ≤ 10000) : FnE Tryz.prog 78 [sliceV 5 encInstr (l)] [] (γ := Int) (fun e => e = 0 ↔ nrun (codesL l) []) (fun _ => []) (fun e => tupV [anyV, anyV, intV .i64 e]) := by
 refine In 39 Tryz.func78 fun _ _ _ => ?_
 refine Z10 ?_
 refine .n (cE (h := dblock_spec (n := l.length + 1) (a := 0) (d := 0) (by omega) (Nat.zero_le _) (by omega) hp0)) rfl fun g10 h10 => ?_
 refine Z16 ?_
 refine Cd (fun c0 => ?_) fun c0 => ?_
 ·
  have hno : ¬ nrun (codesL l) [] := fun h => by (rw [nrun_rc] at h; rcases h10 with ⟨h1, _⟩ | ⟨_, h2, _⟩; exact c0 h1; rw [List.drop_zero] at h2; rw [h2] at h; cases h)
  refine Z11 ?_
  refine Post.retR rfl rfl (g10.2.2.2) (by exact ⟨fun h => absurd h c0, fun h => absurd h hno⟩) (fun _ _ _ _ => trivial) rfl (.cons (.rt rfl) ?_ (.cons (.rt rfl) ?_ (.cons (.rt rfl) ?_ .nil)))
  · exact VLe.any
  · exact VLe.any
  exact VLe.refl _
 obtain ⟨h1, k, hk1, hk2, _, hk3, _⟩ : g10.2.2.2 = 0 ∧ ∃ n : Nat, g10.1 = (n : Int) ∧ rc ((codesL l).drop 0) 0 = some ((codesL l).drop n) ∧ 0 ≤ n ∧ n ≤ l.length ∧ g10.2.2.1.length + 0 ≤ n := by (rcases h10 with h | ⟨h1, _⟩; exact h; exact absurd (Classical.not_not.1 c0) h1)
 rw [List.drop_zero] at hk2
 have hkk : g10.1.toNat = k := by omega
 refine Z12 ?_
 refine .g (OpG.gF rfl rfl rfl rfl (fun hg => opIndexAddr (j := g10.1.toNat) FU.out FC.out rfl (.when (.t rfl) hg) (.when (.t rfl) hg) (by (rcases h10 with ⟨_, k, h2, _⟩ | ⟨h1, _⟩; omega; exact absurd (Classical.not_not.1 c0) h1)) (gI_in (by (rcases h10 with ⟨_, k, h2, _, _, h5, _⟩ | ⟨h1, _⟩; omega; exact absurd (Classical.not_not.1 c0) h1))))) rfl rfl ?_
 refine Z6 ?_
 refine Cd (fun c1 => ?_) fun c1 => ?_
 ·
  refine Z10 ?_
  refine Post.retR rfl rfl (4) (by exact ⟨fun h => by simp at h, fun h => by (rw [nrun_rc, hk2] at h; rcases c1 with c1 | c1; (rw [codes_end (by omega)] at h; cases h); (by_cases hlt : k < l.length; (rw [codes_at (gI_in hlt)] at h; rw [hkk] at c1; rw [c1] at h; simp at h); (rw [codes_end (by omega)] at h; cases h)))⟩) (fun _ _ _ _ => trivial) rfl (.cons (.rt rfl) ?_ (.cons (.rt rfl) ?_ (.cons (.rt rfl) ?_ .nil)))
  · exact VLe.any
  · exact VLe.any
  exact VLe.refl _
 have hlt : k < l.length := by (have : ¬ g10.1 = (l.length : Int) := fun h => c1 (.inl h); omega)
 have hy : l[k]? = some (gI l k) := gI_in hlt
 have hn5 : ¬ (gI l k).Code = 5 := fun h => c1 (.inr (by rw [hkk]; exact h))
 rw [codes_at hy] at hk2
 have h11 := (rc_head (by omega) hk2).resolve_right hn5
 refine Z12 ?_
 refine Cd (fun c2 => ?_) fun c2 => ?_
 ·
  refine Z11 ?_
  refine Post.retR rfl rfl (4) (by exact ⟨fun h => by simp at h, fun h => by (rw [nrun_rc, hk2] at h; simp only [Option.some.injEq, List.cons.injEq] at h; have h9 := congrArg List.length h.2; rw [List.length_drop, codes_len] at h9; simp at h9; omega)⟩) (fun _ _ _ _ => trivial) rfl (.cons (.rt rfl) ?_ (.cons (.rt rfl) ?_ (.cons (.rt rfl) ?_ .nil)))
  · exact VLe.any
  · exact VLe.any
  exact VLe.refl _
 refine Z11 ?_
 refine Post.retR rfl rfl (0) (by exact ⟨fun _ => by (rw [nrun_rc, hk2, h11, codes_end (by omega)]), fun _ => rfl⟩) (fun _ _ _ _ => trivial) rfl (.cons (.rt rfl) ?_ (.cons (.rt rfl) ?_ (.cons (.rt rfl) ?_ .nil)))
 · exact VLe.any
 · exact VLe.any
 exact VLe.refl _
theorem dput_spec (hp0 : n < 18446744073709551616) : FnE Tryz.prog 79 [intV .u64 ((n : Int))] [] (γ := List UInt8) (fun z => z.length = lenU n) (fun _ => []) (fun z => sliceV 1 encU8 z) := by
 refine In 20 Tryz.func79 fun _ _ _ => ?_
 have hl10 := lenU_64 hp0
 refine Z10 ?_
 refine .ownNil 1 encU8 ?_
 refine Z2 ?_
 refine .loopO (σ := SB × List UInt8 × Nat) (fun z => [sliceH z.1 1 encU8 z.2.1]) (fun z => [(3, exactV (sval z.1 z.2.1.length)), (0, intV .u64 (z.2.2 : Int))]) (fun z => z.2.1.length + lenU z.2.2 = lenU n ∧ z.2.2 ≤ n) (fun z => z.2.2) (none, [], n) ⟨by simp, Nat.le_refl _⟩ rfl ?_ ?_
 · exact (.get rfl (VLe.of_eq rfl) (.get rfl (VLe.refl _) (.refl _ _)))
 rintro ⟨g1, ys, j⟩ ⟨hl, hk⟩
 simp only at hl hk ⊢
 refine Z7 ?_
 refine Cd (fun c0 => ?_) fun c0 => ?_
 ·
  refine Z7 ?_
  refine .p (opRem_u64 (b := 128) (by decide) (.t rfl) (.c _)) rfl ?_
  refine .p ((opConv FU.out FU.out (.t rfl)).le (VLe.int (show _ = ((j % 128 : Nat) : Int) by rw [u8_wr]; omega))) rfl ?_
  refine .p ((opAddF (.t rfl) (.c _) fits_z).le (VLe.trans (VLe.int (show _ = ((j % 128 + 128 : Nat) : Int) by omega)) (u8_nt (by omega)))) rfl ?_
  refine .p (cB encU8 [(UInt8.ofNat (j % 128 + 128))]) rfl ?_
  refine .n (opAppend (i := 0) FU.out FU.out FC.out rfl FZ.out rfl FY.out (.t rfl) (.t rfl) rfl (by simp only [List.length_cons, List.length_nil]; omega) (by simp only [List.length_cons, List.length_nil]; omega)) rfl fun g12 _ => ?_
  refine Z5 ?_
  refine .p (opQuo_u64 (b := 128) (by omega) (.t rfl) (.c _)) rfl ?_
  refine Z3 ?_
  refine .round (g12, ys ++ [(UInt8.ofNat (j % 128 + 128))], j / 128) ⟨by (show (ys ++ [_]).length + lenU (j / 128) = _; rw [List.length_append]; simp only [List.length_cons, List.length_nil]; have := lenU_ge (n := j) (by omega); omega), by show j / 128 ≤ n; omega⟩ (by show j / 128 < j; omega) rfl ?_
  exact (.get rfl (VLe.refl _) (.get rfl (VLe.refl _) ((.keep 15 rfl rfl))))
 refine Z9 ?_
 refine .p ((opConv FU.out FU.out (.t rfl)).le (VLe.trans (VLe.int (show _ = ((j : Nat) : Int) by rw [u8_wr]; omega)) (u8_nt (by omega)))) rfl ?_
 refine .p (cB encU8 [UInt8.ofNat j]) rfl ?_
 refine .n (OpE.shareS (G := fun g => g) (hs1 := fun _ => _) (xs := fun _ => _) (opAppend (i := 0) FU.out FU.out FC.out rfl FZ.out rfl FY.out (.t rfl) (.t rfl) rfl (by simp only [List.length_cons, List.length_nil]; omega) (by simp only [List.length_cons, List.length_nil]; omega))) rfl fun _ _ => ?_
 refine Z4 ?_
 refine Post.retR1 rfl (ys ++ [UInt8.ofNat j]) (by exact (by (show (ys ++ [_]).length = _; rw [List.length_append]; simp only [List.length_cons, List.length_nil]; have := lenU_lt (n := j) (by omega); omega))) (fun _ _ _ h => h) (.rt rfl) ?_
 exact VLe.refl _
theorem dputO_spec (hp0 : n < 18446744073709551616) : FnE Tryz.prog 79 [intV .u64 ((n : Int))] [] (γ := SB × List UInt8) (fun z => z.2.length = lenU n) (fun z => [sliceH z.1 1 encU8 z.2]) (fun z => exactV (sval z.1 z.2.length)) := by
 refine In 20 Tryz.func79 fun _ _ _ => ?_
 have hl10 := lenU_64 hp0
 refine Z10 ?_
 refine .ownNil 1 encU8 ?_
 refine Z2 ?_
 refine .loopO (σ := SB × List UInt8 × Nat) (fun z => [sliceH z.1 1 encU8 z.2.1]) (fun z => [(3, exactV (sval z.1 z.2.1.length)), (0, intV .u64 (z.2.2 : Int))]) (fun z => z.2.1.length + lenU z.2.2 = lenU n ∧ z.2.2 ≤ n) (fun z => z.2.2) (none, [], n) ⟨by simp, Nat.le_refl _⟩ rfl ?_ ?_
 · exact (.get rfl (VLe.of_eq rfl) (.get rfl (VLe.refl _) (.refl _ _)))
 rintro ⟨g1, ys, j⟩ ⟨hl, hk⟩
 simp only at hl hk ⊢
 refine Z7 ?_
 refine Cd (fun c0 => ?_) fun c0 => ?_
 ·
  refine Z7 ?_
  refine .p (opRem_u64 (b := 128) (by decide) (.t rfl) (.c _)) rfl ?_
  refine .p ((opConv FU.out FU.out (.t rfl)).le (VLe.int (show _ = ((j % 128 : Nat) : Int) by rw [u8_wr]; omega))) rfl ?_
  refine .p ((opAddF (.t rfl) (.c _) fits_z).le (VLe.trans (VLe.int (show _ = ((j % 128 + 128 : Nat) : Int) by omega)) (u8_nt (by omega)))) rfl ?_
  refine .p (cB encU8 [(UInt8.ofNat (j % 128 + 128))]) rfl ?_
  refine .n (opAppend (i := 0) FU.out FU.out FC.out rfl FZ.out rfl FY.out (.t rfl) (.t rfl) rfl (by simp only [List.length_cons, List.length_nil]; omega) (by simp only [List.length_cons, List.length_nil]; omega)) rfl fun g12 _ => ?_
  refine Z5 ?_
  refine .p (opQuo_u64 (b := 128) (by omega) (.t rfl) (.c _)) rfl ?_
  refine Z3 ?_
  refine .round (g12, ys ++ [(UInt8.ofNat (j % 128 + 128))], j / 128) ⟨by (show (ys ++ [_]).length + lenU (j / 128) = _; rw [List.length_append]; simp only [List.length_cons, List.length_nil]; have := lenU_ge (n := j) (by omega); omega), by show j / 128 ≤ n; omega⟩ (by show j / 128 < j; omega) rfl ?_
  exact (.get rfl (VLe.refl _) (.get rfl (VLe.refl _) ((.keep 15 rfl rfl))))
 refine Z9 ?_
 refine .p ((opConv FU.out FU.out (.t rfl)).le (VLe.trans (VLe.int (show _ = ((j : Nat) : Int) by rw [u8_wr]; omega)) (u8_nt (by omega)))) rfl ?_
 refine .p (cB encU8 [UInt8.ofNat j]) rfl ?_
 refine .n (opAppend (i := 0) FU.out FU.out FC.out rfl FZ.out rfl FY.out (.t rfl) (.t rfl) rfl (by simp only [List.length_cons, List.length_nil]; omega) (by simp only [List.length_cons, List.length_nil]; omega)) rfl fun g19 _ => ?_
 refine Z4 ?_
 refine Post.retR1 rfl ((g19, ys ++ [UInt8.ofNat j])) (by exact (by (show (ys ++ [_]).length = _; rw [List.length_append]; simp only [List.length_cons, List.length_nil]; have := lenU_lt (n := j) (by omega); omega))) (fun _ _ _ h => h) (.rt rfl) ?_
 exact VLe.refl _
theorem dputS_spec {n : Int} (hp0 : -9223372036854775808 ≤ n) (hp1 : n ≤ 9223372036854775807) : FnE Tryz.prog 95 [intV .i64 (n)] [] (γ := List UInt8) (fun z => z.length = lenS n) (fun _ => []) (fun z => sliceV 1 encU8 z) := by
 refine In 50 Tryz.func95 fun _ _ _ => ?_
 have hl10 := lenS_64 hp0 (by omega : n < 9223372036854775808)
 refine Z10 ?_
 refine .ownNil 1 encU8 ?_
 refine Z7 ?_
 refine .loopO (σ := SB × List UInt8 × Nat × Int) (fun z => [sliceH z.1 1 encU8 z.2.1]) (fun z => [(0, intV .i64 z.2.2.2), (3, exactV (sval z.1 z.2.1.length)), (4, intV .i64 (z.2.2.1 : Int))]) (fun z => z.2.1.length = z.2.2.1 ∧ z.2.2.1 + lenS z.2.2.2 = lenS n ∧ -9223372036854775808 ≤ z.2.2.2 ∧ z.2.2.2 ≤ 9223372036854775807) (fun z => 10 - z.2.2.1) (none, [], 0, n) ⟨rfl, by simp, hp0, hp1⟩ rfl ?_ ?_
 · exact (.get rfl (VLe.refl _) (.get rfl (VLe.of_eq rfl) (.get rfl (VLe.refl _) (.refl _ _))))
 rintro ⟨g1, ys, j, v⟩ ⟨hl, hk, hv1, hv2⟩
 simp only at hl hk hv1 hv2 ⊢
 have hpos := lenS_pos v
 refine Z7 ?_
 refine Cd (fun c0 => ?_) fun c0 => ?_
 ·
  refine Z7 ?_
  refine .p (opRemT (.t rfl) (.c _) (by decide)) rfl ?_
  refine Z3 ?_
  refine .cut (σ := Unit) (fun _ => [sliceH g1 1 encU8 ys]) (fun _ => [(5, intV .i64 (v % 128))]) (fun _ => True) ?_ ?_
  ·
   refine Z6 ?_
   refine Cd (fun c1 => ?_) fun c1 => ?_
   ·
    refine Z2 ?_
    refine .p (opAddF (.t rfl) (.c _) (fits_i64 (by rw [tmod128]; split <;> omega) (by rw [tmod128]; split <;> omega))) rfl ?_
    refine Z2 ?_
    refine .meet () trivial rfl (.get rfl (VLe.int (by have h9 := tmod128 v; split at h9 <;> omega)) (.keep 5 rfl rfl))
   refine Z1 ?_
   refine .meet () trivial rfl (.get rfl (VLe.int (by have h9 := tmod128 v; split at h9 <;> omega)) (.keep 2 rfl rfl))
  intro _ _
  refine Z4 ?_
  refine .p (opSub (.t rfl) (.t rfl)) rfl ?_
  refine .p (opQuoT (.t rfl) (.c _) (by decide)) rfl ?_
  refine Z3 ?_
  refine .cut (σ := Unit) (fun _ => [sliceH g1 1 encU8 ys]) (fun _ => [(6, intV .i64 (v / 128))]) (fun _ => True) ?_ ?_
  ·
   refine Z6 ?_
   refine Cd (fun c2 => ?_) fun c2 => ?_
   ·
    refine Z3 ?_
    refine .meet () trivial rfl (.get rfl (VLe.int (by omega)) (.keep 3 rfl rfl))
   refine Z1 ?_
   refine .meet () trivial rfl (.get rfl (VLe.int (tdiv128 (by omega) hv2)) (.keep 2 rfl rfl))
  intro _ _
  refine Z19 ?_
  refine Cd (fun c3 => ?_) fun c3 => ?_
  ·
   refine Z4 ?_
   refine .p ((opConv FU.out FU.out (.t rfl)).le (VLe.trans (VLe.int (show _ = (((v % 128).toNat : Nat) : Int) by rw [u8_wr]; omega)) (u8_nt (by omega)))) rfl ?_
   refine .p (cB encU8 [UInt8.ofNat (v % 128).toNat]) rfl ?_
   refine .n (OpE.shareS (G := fun g => g) (hs1 := fun _ => _) (xs := fun _ => _) (opAppend (i := 0) FU.out FU.out FC.out rfl FZ.out rfl FY.out (.t rfl) (.t rfl) rfl (by simp only [List.length_cons, List.length_nil]; omega) (by simp only [List.length_cons, List.length_nil]; omega))) rfl fun _ _ => ?_
   refine Z10 ?_
   refine Post.retR1 rfl (ys ++ [UInt8.ofNat (v % 128).toNat]) (by exact (by (show (ys ++ [_]).length = _; rw [List.length_append]; simp only [List.length_cons, List.length_nil]; have := lenS_stop c3; omega))) (fun _ _ _ h => h) (.rt rfl) ?_
   exact VLe.refl _
  refine Z6 ?_
  refine .p ((opConv FU.out FU.out (.t rfl)).le (VLe.int (show _ = v % 128 by rw [u8_wr]; omega))) rfl ?_
  refine .p ((opAddF (.t rfl) (.c _) fits_z).le (VLe.trans (VLe.int (show _ = (((v % 128 + 128).toNat : Nat) : Int) by omega)) (u8_nt (by omega)))) rfl ?_
  refine .p (cB encU8 [(UInt8.ofNat ((v % 128 + 128).toNat))]) rfl ?_
  refine .n (opAppend (i := 0) FU.out FU.out FC.out rfl FZ.out rfl FY.out (.t rfl) (.t rfl) rfl (by simp only [List.length_cons, List.length_nil]; omega) (by simp only [List.length_cons, List.length_nil]; omega)) rfl fun g47 _ => ?_
  refine Z14 ?_
  refine .round (g47, ys ++ [(UInt8.ofNat ((v % 128 + 128).toNat))], j + 1, v / 128) ⟨by (show (ys ++ [_]).length = j + 1; rw [List.length_append]; simp only [List.length_cons, List.length_nil]; omega), by (show j + 1 + lenS (v / 128) = _; have := lenS_go c3; omega), by show _ ≤ v / 128; omega, by show v / 128 ≤ _; omega⟩ (by show 10 - (j + 1) < 10 - j; omega) rfl ?_
  exact (.get rfl (VLe.refl _) (.get rfl (VLe.refl _) (.get rfl (VLe.int (by show (_ : Int) = ((j + 1 : Nat) : Int); omega)) ((.keep 41 rfl rfl)))))
 exfalso
 omega
theorem dright_spec {x : InstrD} (hp0 : InsOk0 x) : FnP Tryz.prog 77 [aggV (encInstr x)] (propV (rightI x)) := by
 refine In 125 Tryz.func77 fun _ _ _ => ?_
 have hxA := hp0.A0
 have hxB := hp0.B0
 have hxL := hp0.Ln
 refine Z11 ?_
 refine .p (cA (h := rname_spec)) rfl ?_
 refine .p (opEqlS (.t rfl) (.s [] rfl rfl)) rfl ?_
 refine Z2 ?_
 refine Cd (fun c0 => ?_) fun c0 => ?_
 ·
  refine Z7 ?_
  refine Rt1 ?_
  exact VLe.prop ⟨fun h => h.elim, fun h => absurd c0 h.1⟩
 refine Z6 ?_
 refine .p (cA (h := rform_spec)) rfl ?_
 refine Z34 ?_
 refine Cd (fun c1 => ?_) fun c1 => ?_
 ·
  refine Z7 ?_
  refine Rt1 ?_
  exact VLe.prop ⟨fun h => h.elim, fun h => by (have h9 := h.2.1; unfold sml at h9; omega)⟩
 refine Z33 ?_
 refine Cd (fun c2 => ?_) fun c2 => ?_
 ·
  refine Z7 ?_
  refine Rt1 ?_
  exact VLe.prop ⟨fun h => h.elim, fun h => by (have h9 := h.2.2.1; omega)⟩
 refine Z40 ?_
 refine Z1 ?_
 refine Cd (fun c3 => ?_) fun c3 => ?_
 ·
  refine Z7 ?_
  refine Rt1 ?_
  exact VLe.prop ⟨fun h => h.elim, fun h => by (have h9 := h.2.2.2.1; omega)⟩
 refine Z9 ?_
 refine .loopO (σ := Nat) (fun _ => []) (fun j => [(4, intV .i64 (j : Int))]) (fun j => j ≤ x.L.length ∧ ∀ n ∈ x.L.take j, sml n) (fun j => x.L.length - j) 0 ⟨Nat.zero_le _, by simp⟩ rfl ?_ ?_
 · exact (.get rfl (VLe.refl _) (.refl _ _))
 rintro j ⟨hj, hall⟩
 refine Z10 ?_
 refine Cd (fun c4 => ?_) fun c4 => ?_
 ·
  obtain ⟨y, hy⟩ := getElem?_lt (xs := x.L) (k := j) (by omega)
  refine Z9 ?_
  refine .p (cI j (h := hy)) rfl ?_
  refine Z4 ?_
  refine Cd (fun c5 => ?_) fun c5 => ?_
  ·
   refine Z11 ?_
   refine Rt1 ?_
   exact VLe.prop ⟨fun h => h.elim, fun h => by (have h9 := h.2.2.2.2.1 y (List.mem_of_getElem? hy); unfold sml at h9; omega)⟩
  refine Z8 ?_
  refine .round (j + 1) ⟨by omega, fun n hn => by (rw [← take_snoc hy] at hn; rcases List.mem_append.1 hn with hn | hn; exact hall n hn; (simp only [List.mem_singleton] at hn; subst hn; unfold sml; omega))⟩ (by omega) rfl ?_
  exact (.get rfl (VLe.int (by omega)) ((.keep 15 rfl rfl)))
 have hall2 : ∀ n ∈ x.L, sml n := fun n hn => hall n (by rw [List.take_of_length_le (by omega)]; exact hn)
 refine Z25 ?_
 refine Rt1 ?_
 exact VLe.prop (by unfold rightI; simp only [← List.length_eq_zero_iff]; exact ⟨fun h => ⟨c0, by unfold sml; omega, by omega, by omega, hall2, by omega⟩, fun h => by have h9 := h.2.2.2.2.2; omega⟩)
end Go.Proofs.YtpahnbgfmhcndaaGreatDoor
end
