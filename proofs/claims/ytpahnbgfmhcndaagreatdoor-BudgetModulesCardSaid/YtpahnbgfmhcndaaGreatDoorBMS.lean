/-
  What the statement's proof leans on, several texts in one (packed by a program).
-/
import Derived.Test.YtpahnbgfmhcndaaGreatDoorBMR
set_option linter.all false
set_option maxRecDepth 1000000
set_option maxHeartbeats 4000000
section
namespace Go.Proofs.YtpahnbgfmhcndaaGreatDoor
open Go.Hl Go.RowKit
theorem dchecked_spec {m : ModD} {f : FuncD} {i : Nat} (hp0 : ModOk m) (hp1 : m.Funcs[i]? = some f) (hp2 : m.Funcs.length ≤ 60000) : FnE Tryz.prog 33 [aggV (encMod m), intV .i64 ((i : Int))] [] (γ := Int × Int × List Nat) (chkE m f) (fun _ => []) (fun g => aggV [intV .i64 g.1, intV .i64 g.2.1, sliceV 1 encNt g.2.2]) := by
 refine In 51 Tryz.func33 fun _ _ _ => ?_
 have hil := (List.getElem?_eq_some_iff.1 hp1).1
 have hfm : f ∈ m.Funcs := List.mem_of_getElem? hp1
 refine Z3 ?_
 refine .n (opAlloc FZ.out) rfl fun b4 _ => ?_
 refine Z5 ?_
 refine .p (cA (h := unfitI_spec (x := m))) rfl ?_
 refine Z2 ?_
 refine .n (OpP.openX (opExtract (.t rfl) rfl)) rfl fun n13 hn13 => ?_
 refine Z11 ?_
 refine Cd (fun c0 => ?_) fun c0 => ?_
 ·
  refine Z8 ?_
  refine Post.retR1 rfl ((0, 12, [])) (by exact .inr ⟨by show (12 : Int) ≠ 0; decide, fun h => c0 (hn13.2 h.1)⟩) (OLe.sel [] [0] rfl rfl) (.ra (i := 0) FA.out FC.out rfl rfl rfl rfl) ?_
  exact VLe.agg (.cons (VLe.refl _) (.cons (VLe.refl _) (.cons (sliceV_nil 1 encNt) .nil)))
 have hfit := hn13.1 (Classical.not_not.1 c0)
 refine Z16 ?_
 refine Cd (fun c1 => ?_) fun c1 => ?_
 · exfalso; omega
 refine Z7 ?_
 refine .p (cI i (h := hp1)) rfl ?_
 refine Z2 ?_
 refine .n (cE (h := d12enc_spec (hp0.bd hfm))) rfl fun g34 h34 => ?_
 refine Z14 ?_
 refine Cd (fun c2 => ?_) fun c2 => ?_
 ·
  refine Z9 ?_
  refine Post.retR1 rfl ((0, g34, [])) (by exact .inr ⟨c2, fun h => c2 (h34.2 h.2.1)⟩) (OLe.sel [] [0] rfl rfl) (.ra (i := 0) FA.out FC.out rfl rfl rfl rfl) ?_
  exact VLe.agg (.cons (VLe.refl _) (.cons (VLe.refl _) (.cons (sliceV_nil 1 encNt) .nil)))
 have henc := h34.1 (Classical.not_not.1 c2)
 refine Z3 ?_
 refine .stagedK [(0, 0), (1, 0), (3, 0), (4, 0), (5, 0), (6, 0), (7, 0), (8, 0), (2, 2)] 9 2 FM.out (by kernel_rfl) (k := ?_)
 refine Z5 ?_
 refine .p rfl (fun _ => opIndexAddr (j := i) FU.out FC.out rfl (.t rfl) (.t rfl) rfl hp1) ?_
 refine Z2 ?_
 refine .e rfl (cE (h := denv_spec hfit hp0 hp1)) fun g43 h43 => ?_
 refine .fin ?_
 refine .n (cE (h := dcheck_spec (v := envD m f) (b := f.Body) (blkOk hfit hp0 hfm henc) (encBd_ok henc))) rfl fun g50 h50 => ?_
 refine Z4 ?_
 refine Post.retR1 rfl (g50) (by exact (chk_heights henc h50).elim (fun h => .inl ⟨h.1, hfit, henc, h.2⟩) (fun h => .inr ⟨h.1, fun h2 => h.2.1 h2.2⟩)) (OLe.sel [] [0] rfl rfl) (.ra (i := 0) FA.out FC.out rfl rfl rfl rfl) ?_
 exact VLe.refl _
theorem dvalid_spec {m : ModD} (hp0 : ModOk m) (hp1 : m.Funcs.length ≤ 60000) : FnE Tryz.prog 9 [aggV (encMod m)] [] (γ := Int) (fun n => 0 ≤ n ∧ (n = 0 ↔ ValidD m)) (fun _ => []) (fun n => intV .i64 n) := by
 refine In 29 Tryz.func9 fun _ _ _ => ?_
 refine Z9 ?_
 refine .p (cA (h := unfitI_spec (x := m))) rfl ?_
 refine Z2 ?_
 refine .n (OpP.openX (opExtract (.t rfl) rfl)) rfl fun n11 hn11 => ?_
 refine Z11 ?_
 refine Cd (fun c0 => ?_) fun c0 => ?_
 ·
  refine Z7 ?_
  refine Post.retR1 rfl (1) (by exact ⟨by decide, fun h => absurd h (by decide), fun h => absurd (hn11.2 h.1) c0⟩) (fun _ _ _ h => h) (.rt rfl) ?_
  exact VLe.refl _
 have hfit := hn11.1 (Classical.not_not.1 c0)
 refine Z14 ?_
 refine .loopO (σ := Nat × Nat) (fun _ => []) (fun g => [(5, intV .i64 (g.2 : Int)), (6, intV .i64 (g.1 : Int))]) (fun g => g.1 ≤ m.Funcs.length ∧ g.2 ≤ g.1 ∧ (g.2 = 0 ↔ ∀ f ∈ m.Funcs.take g.1, typedF m f)) (fun g => m.Funcs.length - g.1) (0, 0) ⟨Nat.zero_le _, Nat.le_refl _, by simp⟩ rfl ?_ ?_
 · exact (.get rfl (VLe.refl _) (.get rfl (VLe.refl _) (.refl _ _)))
 rintro ⟨j, n⟩ ⟨hj, hnj, hv⟩
 simp only at hj hnj hv ⊢
 refine Z10 ?_
 refine Cd (fun c1 => ?_) fun c1 => ?_
 ·
  obtain ⟨f, hf⟩ := getElem?_lt (xs := m.Funcs) (k := j) (by omega)
  refine Z8 ?_
  refine .n (cE (h := dchecked_spec hp0 hf hp1)) rfl fun g23 h23 => ?_
  refine .p (opFieldV (T := 104) (i := 1) (off := 1) (by kernel_rfl) Tryz.ag3.out (.t rfl) rfl) rfl ?_
  refine Z3 ?_
  refine Cd (fun c2 => ?_) fun c2 => ?_
  ·
   refine Z12 ?_
   refine .round (j + 1, n + 1) ⟨by show j + 1 ≤ _; omega, by show n + 1 ≤ j + 1; omega, ⟨fun h => absurd h (by show ¬ (n + 1 = 0); omega), fun h => absurd (h23.iff.2 ⟨hfit, h f (by rw [← take_snoc hf]; simp)⟩) c2⟩⟩ (by show m.Funcs.length - (j + 1) < m.Funcs.length - j; omega) rfl ?_
   exact (.get rfl (VLe.int (by show (_ : Int) = ((n + 1 : Nat) : Int); omega)) (.get rfl (VLe.int (by show (_ : Int) = ((j + 1 : Nat) : Int); omega)) ((.keep 18 rfl rfl))))
  refine Z8 ?_
  refine .round (j + 1, n) ⟨by show j + 1 ≤ _; omega, by show n ≤ j + 1; omega, by (show n = 0 ↔ _; rw [hv, ← take_snoc hf]; have h9 := (h23.iff.1 (Classical.not_not.1 c2)).2; constructor; intro h g hg; rcases List.mem_append.1 hg with hg | hg; exact h g hg; (simp only [List.mem_singleton] at hg; subst hg; exact h9); intro h g hg; exact h g (List.mem_append_left _ hg))⟩ (by show m.Funcs.length - (j + 1) < m.Funcs.length - j; omega) rfl ?_
  exact (.get rfl (VLe.refl _) (.get rfl (VLe.int (by show (_ : Int) = ((j + 1 : Nat) : Int); omega)) ((.keep 15 rfl rfl))))
 have hall : m.Funcs.take j = m.Funcs := List.take_of_length_le (by omega)
 rw [hall] at hv
 refine Z12 ?_
 refine Post.retR1 rfl ((n : Int)) (by exact ⟨by omega, fun h => ⟨hfit, hv.1 (by omega)⟩, fun h => by have := hv.2 h.2; omega⟩) (fun _ _ _ h => h) (.rt rfl) ?_
 exact VLe.refl _
end Go.Proofs.YtpahnbgfmhcndaaGreatDoor
end
