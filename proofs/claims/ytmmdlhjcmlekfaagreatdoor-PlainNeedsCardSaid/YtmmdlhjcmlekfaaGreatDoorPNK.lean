/-
  What the statement's proof leans on, several texts in one (packed by a program).
-/
import Derived.Test.YtmmdlhjcmlekfaaGreatDoorPNJ
set_option linter.all false
set_option maxRecDepth 1000000
set_option maxHeartbeats 4000000
section
namespace Go.Proofs.YtmmdlhjcmlekfaaGreatDoor
open Go.Hl Go.RowKit
theorem pone_spec {x : InstrD} {a : Nat} (hp0 : a < 18446744073709551616) : FnE Tryz.prog 98 [aggV (encInstr x), uV a] [tabH 0 .u8 Lib.deBruijn64tab] (γ := Unit) (fun _ => True) (fun _ => []) (fun _ => tupV [aggV (encInstr ((oneC x.Code a).elim zerI (mkI (outC x.Code)))), propV ((oneC x.Code a).isSome = true)]) := by
 refine In 72 Tryz.func98 fun _ _ _ => ?_
 refine Z3 ?_
 refine .n (opAlloc Tryz.zb61) rfl fun b4 _ => ?_
 refine Z11 ?_
 refine Cd (fun c0 => ?_) fun c0 => ?_
 ·
  have ho : oneC x.Code a = some (a % 4294967296) := by rw [c0]; rfl
  rw [ho]
  refine Z1 ?_
  refine .drawK 4 3 FM.out (by kernel_rfl) (k := ?_)
  refine Z3 ?_
  refine .p (cA (h := cwrap_spec hp0)) ?_
  refine Z1 ?_
  refine .p (cA (h := pof_spec (find_code (by omega)).1)) rfl ?_
  refine Z6 ?_
  refine Post.retR rfl rfl () trivial (fun _ _ _ _ => trivial) rfl (.cons (.ra (i := 0) Tryz.ag61 Tryz.cz61 rfl rfl rfl rfl) ?_ (.cons (.rt rfl) ?_ .nil))
  · exact VLe.refl _
  exact VLe.prop (by simp)
 refine Z7 ?_
 refine .p (cA (h := pext_spec)) rfl ?_
 refine Z15 ?_
 refine Cd (fun c1 => ?_) fun c1 => ?_
 ·
  have ho := one_ext (a := a) c1
  rw [ho]
  have hcs := ext_codes c1
  refine Z6 ?_
  refine .p (cA (h := cextend_spec (ext_ok c1).1 (ext_ok c1).2 hp0)) rfl ?_
  refine Z12 ?_
  refine .p (cA (h := pof_spec (find_code (by omega)).1)) rfl ?_
  refine Z6 ?_
  refine Post.retR rfl rfl () trivial (fun _ _ _ _ => trivial) rfl (.cons (.ra (i := 0) Tryz.ag61 Tryz.cz61 rfl rfl rfl rfl) ?_ (.cons (.rt rfl) ?_ .nil))
  · exact VLe.refl _
  exact VLe.prop (by simp)
 refine Z6 ?_
 refine .p (cA (h := numeric_spec)) rfl ?_
 refine Z22 ?_
 refine Cd (fun c2 => ?_) fun c2 => ?_
 ·
  have ho := one_no (a := a) c2 c0 c1
  rw [ho]
  refine Z9 ?_
  refine Post.retR rfl rfl () trivial (fun _ _ _ _ => trivial) rfl (.cons (.ra (i := 0) Tryz.ag61 Tryz.cz61 rfl rfl rfl rfl) ?_ (.cons (.rt rfl) ?_ .nil))
  · exact zer_le
  exact VLe.prop (by simp)
 obtain ⟨⟨g, n, b⟩, hno⟩ := Option.isSome_iff_exists.1 (Classical.byContradiction fun h => c2 (.inl h))
 simp only [hno, Option.getD_some] at c2 ⊢
 obtain rfl : g = 2 := Classical.byContradiction fun h => c2 (.inr h)
 obtain ⟨hb, hn, ho⟩ := one_num (a := a) hno
 rw [ho]
 have hcs := num_code hno
 refine Z5 ?_
 refine .p ((opMove (.t rfl)).le (VLe.int (show b = ((b.toNat : Nat) : Int) by omega))) rfl ?_
 refine Z1 ?_
 refine .p (cD 1 (h := wunary_spec (n := b.toNat) (by unfold WN; omega) hp0 hn.1 hn.2)) rfl ?_
 refine Z12 ?_
 refine .p (cA (h := pof_spec (find_code (by omega)).1)) rfl ?_
 refine Z5 ?_
 refine Post.retR rfl rfl () trivial (fun _ _ _ _ => trivial) rfl (.cons (.ra (i := 0) Tryz.ag61 Tryz.cz61 rfl rfl rfl rfl) ?_ (.cons (.rt rfl) ?_ .nil))
 · exact VLe.refl _
 exact VLe.prop (by simp)
theorem ptwo_spec {x : InstrD} {a b : Nat} (hp0 : a < 18446744073709551616) (hp1 : b < 18446744073709551616) : FnP Tryz.prog 99 [aggV (encInstr x), uV a, uV b] (tupV [aggV (encInstr (twoI x.Code a b)), propV (twoOk x.Code a b)]) := by
 refine In 61 Tryz.func99 fun _ _ _ => ?_
 refine Z3 ?_
 refine .n (opAlloc Tryz.zb61) rfl fun b6 _ => ?_
 refine Z7 ?_
 refine .p (cA (h := numeric_spec)) rfl ?_
 refine Z22 ?_
 refine Cd (fun c0 => ?_) fun c0 => ?_
 ·
  have hz := num_zero c0
  rw [twoI_no hz]
  have hzo := two_no (a := a) (b := b) hz
  refine Z9 ?_
  refine Post.retR rfl rfl () trivial (fun _ _ _ _ => trivial) rfl (.cons (.ra (i := 0) Tryz.ag61 Tryz.cz61 rfl rfl rfl rfl) ?_ (.cons (.rt rfl) ?_ .nil))
  · exact zer_le
  exact VLe.prop (by simp [hzo])
 obtain ⟨⟨g, n, w⟩, hno⟩ := Option.isSome_iff_exists.1 (Classical.byContradiction fun h => c0 (.inl h))
 simp only [hno, Option.getD_some] at c0 ⊢
 have hg2 : ¬ g = 2 := fun h => c0 (.inr h)
 rw [twoI_of hno hg2]
 have hcs := num_code hno
 refine Z9 ?_
 refine Cd (fun c1 => ?_) fun c1 => ?_
 ·
  subst c1
  obtain ⟨hb, hn, hv, ho⟩ := two_test (x := a) (y := b) hno
  rw [hv]
  refine Z3 ?_
  refine .p ((opMove (.t rfl)).le (VLe.int (show w = ((w.toNat : Nat) : Int) by omega))) rfl ?_
  refine Z2 ?_
  refine .p (cA (h := wtest_spec (n := w.toNat) (by unfold WN; omega) hp0 hp1 hn.1 hn.2)) rfl ?_
  refine Z12 ?_
  refine .p (cA (h := pof_spec (find_code (by omega)).1)) rfl ?_
  refine Z6 ?_
  refine Post.retR rfl rfl () trivial (fun _ _ _ _ => trivial) rfl (.cons (.ra (i := 0) Tryz.ag61 Tryz.cz61 rfl rfl rfl rfl) ?_ (.cons (.rt rfl) ?_ .nil))
  · exact VLe.refl _
  exact VLe.prop (by simp [ho])
 have hg0 := num_group hno hg2 c1
 subst hg0
 obtain ⟨hb, hn, hv, ho⟩ := two_bin (x := a) (y := b) hno
 rw [hv]
 refine Z5 ?_
 refine .p ((opMove (.t rfl)).le (VLe.int (show w = ((w.toNat : Nat) : Int) by omega))) rfl ?_
 refine Z2 ?_
 refine .p (cA (h := wbinary_spec (n := w.toNat) (by unfold WN; omega) hp0 hp1 hn.1 hn.2)) rfl ?_
 refine Z14 ?_
 refine .p (cA (h := pof_spec (find_code (by omega)).1)) rfl ?_
 refine Z7 ?_
 refine Post.retR rfl rfl () trivial (fun _ _ _ _ => trivial) rfl (.cons (.ra (i := 0) Tryz.ag61 Tryz.cz61 rfl rfl rfl rfl) ?_ (.cons (.rt rfl) ?_ .nil))
 · exact VLe.refl _
 exact VLe.prop ho.symm
theorem pnops_spec {l : List InstrD} {i : Nat} (hp0 : SmL l 60000) (hp1 : i < l.length) : FnP Tryz.prog 67 [sliceV 5 encInstr (l), iV (i : Int)] (stV l i 0) := by
 refine In 15 Tryz.func67 fun _ _ _ => ?_
 have hll := hp0.len
 obtain ⟨ha1, ha2⟩ := okA (hp0.gI (i := i))
 obtain ⟨hb1, hb2⟩ := okA (hp0.gI (i := i + 1))
 refine Z11 ?_
 refine .p (cI i (h := gI_in (by omega))) rfl ?_
 refine Z5 ?_
 refine Cd (fun c0 => ?_) fun c0 => ?_
 ·
  refine Z8 ?_
  refine Rt2 ?_ ?_
  · rw [f0_no c0]; exact sliceV_nil 5 encInstr
  exact VLe.prop (by rw [f0_no c0]; simp)
 refine Z6 ?_
 refine .p (opCall (pcut_spec (n := 1) (ins := []) (by omega) (by simp; omega)) Tryz.cb96 (.cons (.t rfl) (.cons (.t rfl) (.cons (.c _) (.cons (.le (.c _) (sliceV_nil 5 encInstr)) .nil))))) rfl ?_
 refine Z5 ?_
 refine Rt2 ?_ ?_
 · rw [f0_yes (Classical.not_not.1 c0)]; exact VLe.refl _
 exact VLe.prop (by rw [f0_yes (Classical.not_not.1 c0)]; simp)
theorem pfolds_spec {l : List InstrD} {i : Nat} (hp0 : SmL l 60000) (hp1 : i < l.length) : FnE Tryz.prog 68 [sliceV 5 encInstr (l), iV (i : Int)] [tabH 0 .u8 Lib.deBruijn64tab] (γ := Unit) (fun _ => True) (fun _ => []) (fun _ => stV l i 1) := by
 refine In 42 Tryz.func68 fun _ _ _ => ?_
 have hll := hp0.len
 obtain ⟨ha1, ha2⟩ := okA (hp0.gI (i := i))
 obtain ⟨hb1, hb2⟩ := okA (hp0.gI (i := i + 1))
 refine Z17 ?_
 refine .g (OpG.gF rfl rfl rfl rfl (fun hg => opIndexAddr (j := i) Tryz.underlying45 Tryz.cz61 rfl (.when (.t rfl) hg) (.when (.t rfl) hg) rfl (gI_in (by omega)))) rfl rfl ?_
 refine Z1 ?_
 refine .g (OpG.gF rfl rfl rfl rfl (fun hg => opCall (pconst_spec) Tryz.cb97 (.cons (.when (.t rfl) hg) .nil))) rfl rfl ?_
 refine Z4 ?_
 refine Cd (fun c0 => ?_) fun c0 => ?_
 ·
  refine Z8 ?_
  refine Rt2 ?_ ?_
  · rw [f1_a c0]; exact sliceV_nil 5 encInstr
  exact VLe.prop (by rw [f1_a c0]; simp)
 have hlt : i + 1 < l.length := by omega
 have hcx : isC (gI l i) := Classical.byContradiction fun h => c0 (.inr h)
 refine Z3 ?_
 refine .stagedK [(0, 0), (1, 0), (2, 0), (3, 0), (4, 0), (5, 0), (6, 0), (7, 0), (8, 0), (9, 0), (10, 1), (11, 0), (12, 0), (13, 0), (14, 4), (15, 3)] 16 1 FM.out (by kernel_rfl) (k := ?_)
 refine Z3 ?_
 refine .p rfl (fun _ => opIndexAddr (j := i + 1) Tryz.underlying45 Tryz.cz61 rfl (.t rfl) (.t rfl) (by omega) (gI_in (by omega))) ?_
 refine Z3 ?_
 refine .p rfl (fun _ => opIndexAddr (j := i) Tryz.underlying45 Tryz.cz61 rfl (.t rfl) (.t rfl) rfl (gI_in (by omega))) ?_
 refine Z1 ?_
 refine .p rfl (fun _ => (opLoad Tryz.ag58 (.t rfl)).le (VLe.int ha1)) ?_
 refine .o rfl (cD 0 (h := pone_spec (a := XA l i) ha2)) ?_
 refine Z3 ?_
 refine .a rfl (opAlloc Tryz.zb61) (fun _ _ => OLe.drop (OLe.refl _)) fun b6 _ => ?_
 refine .s rfl (opStoreOA (i := 0) Tryz.cz61 rfl (.t rfl) (.t rfl) rfl rfl rfl) ?_
 refine .fin ?_
 refine Z10 ?_
 refine Cd (fun c1 => ?_) fun c1 => ?_
 ·
  have ho : oneC (gI l (i + 1)).Code (XA l i) = none := by simpa using c1
  refine Z8 ?_
  refine Rt2 ?_ ?_
  · rw [f1_b ho]; exact sliceV_nil 5 encInstr
  exact VLe.prop (by rw [f1_b ho]; simp)
 obtain ⟨v, ho⟩ := Option.isSome_iff_exists.1 (Classical.not_not.1 c1)
 refine Z7 ?_
 refine .p (cB encInstr [(oneC (gI l (i + 1)).Code (XA l i)).elim zerI (mkI (outC (gI l (i + 1)).Code))]) rfl ?_
 refine .p (cA (h := pcut_spec (n := 2) (by omega) (by simp; omega))) rfl ?_
 refine Z5 ?_
 refine Rt2 ?_ ?_
 · rw [f1_c hcx ho]; exact VLe.of_eq (by rw [ho]; rfl)
 exact VLe.prop (by rw [f1_c hcx ho]; simp)
theorem ppairs_spec {l : List InstrD} {i : Nat} (hp0 : SmL l 60000) (hp1 : i < l.length) : FnP Tryz.prog 69 [sliceV 5 encInstr (l), iV (i : Int)] (stV l i 2) := by
 refine In 57 Tryz.func69 fun _ _ _ => ?_
 have hll := hp0.len
 obtain ⟨ha1, ha2⟩ := okA (hp0.gI (i := i))
 obtain ⟨hb1, hb2⟩ := okA (hp0.gI (i := i + 1))
 refine Z17 ?_
 refine .g (OpG.gF rfl rfl rfl rfl (fun hg => opIndexAddr (j := i) Tryz.underlying45 Tryz.cz61 rfl (.when (.t rfl) hg) (.when (.t rfl) hg) rfl (gI_in (by omega)))) rfl rfl ?_
 refine Z1 ?_
 refine .g (OpG.gF rfl rfl rfl rfl (fun hg => opCall (pconst_spec) Tryz.cb97 (.cons (.when (.t rfl) hg) .nil))) rfl rfl ?_
 refine Z6 ?_
 refine .g (OpG.gF rfl rfl rfl rfl (fun hg => opIndexAddr (j := i + 1) Tryz.underlying45 Tryz.cz61 rfl (.when (.t rfl) hg) (.when (.t rfl) hg) (by omega) (gI_in (by omega)))) rfl rfl ?_
 refine Z1 ?_
 refine .g (OpG.gF rfl rfl rfl rfl (fun hg => opCall (pconst_spec) Tryz.cb97 (.cons (.when (.t rfl) hg) .nil))) rfl rfl ?_
 refine Z4 ?_
 refine Cd (fun c0 => ?_) fun c0 => ?_
 ·
  refine Z8 ?_
  refine Rt2 ?_ ?_
  · rw [f2_a c0]; exact sliceV_nil 5 encInstr
  exact VLe.prop (by rw [f2_a c0]; simp)
 have hlt : i + 2 < l.length := by omega
 have hcx : isC (gI l i) := Classical.byContradiction fun h => c0 (.inl (.inr h))
 have hcy : isC (gI l (i + 1)) := Classical.byContradiction fun h => c0 (.inr h)
 refine Z3 ?_
 refine .stagedK [(0, 0), (1, 0), (2, 0), (3, 0), (4, 0), (5, 0), (6, 0), (7, 0), (8, 0), (9, 0), (10, 0), (11, 0), (12, 0), (13, 0), (14, 0), (15, 0), (16, 0), (17, 0), (18, 0), (19, 0), (20, 4), (21, 3)] 22 1 FM.out (by kernel_rfl) (k := ?_)
 refine Z3 ?_
 refine .p rfl (fun _ => opIndexAddr (j := i + 2) Tryz.underlying45 Tryz.cz61 rfl (.t rfl) (.t rfl) (by omega) (gI_in (by omega))) ?_
 refine Z3 ?_
 refine .p rfl (fun _ => opIndexAddr (j := i) Tryz.underlying45 Tryz.cz61 rfl (.t rfl) (.t rfl) rfl (gI_in (by omega))) ?_
 refine Z1 ?_
 refine .p rfl (fun _ => (opLoad Tryz.ag58 (.t rfl)).le (VLe.int ha1)) ?_
 refine Z3 ?_
 refine .p rfl (fun _ => opIndexAddr (j := i + 1) Tryz.underlying45 Tryz.cz61 rfl (.t rfl) (.t rfl) (by omega) (gI_in (by omega))) ?_
 refine Z1 ?_
 refine .p rfl (fun _ => (opLoad Tryz.ag58 (.t rfl)).le (VLe.int hb1)) ?_
 refine .p rfl (fun _ => opCall (ptwo_spec (a := XA l i) (b := XA l (i + 1)) ha2 hb2) Tryz.cb99 (.cons (.t rfl) (.cons (.t rfl) (.cons (.t rfl) .nil)))) ?_
 refine Z3 ?_
 refine .a rfl (opAlloc Tryz.zb61) (fun _ _ => OLe.drop (OLe.refl _)) fun b6 _ => ?_
 refine .s rfl (opStoreOA (i := 0) Tryz.cz61 rfl (.t rfl) (.t rfl) rfl rfl rfl) ?_
 refine .fin ?_
 refine Z10 ?_
 refine Cd (fun c1 => ?_) fun c1 => ?_
 ·
  refine Z8 ?_
  refine Rt2 ?_ ?_
  · rw [f2_b c1]; exact sliceV_nil 5 encInstr
  exact VLe.prop (by rw [f2_b c1]; simp)
 refine Z7 ?_
 refine .p (cB encInstr [twoI (gI l (i + 2)).Code (XA l i) (XA l (i + 1))]) rfl ?_
 refine .p (cA (h := pcut_spec (n := 3) (by omega) (by simp; omega))) rfl ?_
 refine Z5 ?_
 refine Rt2 ?_ ?_
 · rw [f2_c hcx hcy (Classical.not_not.1 c1)]; exact VLe.refl _
 exact VLe.prop (by rw [f2_c hcx hcy (Classical.not_not.1 c1)]; simp)
theorem pdrops_spec {l : List InstrD} {i : Nat} (hp0 : SmL l 60000) (hp1 : i < l.length) : FnP Tryz.prog 70 [sliceV 5 encInstr (l), iV (i : Int)] (stV l i 3) := by
 refine In 45 Tryz.func70 fun _ _ _ => ?_
 have hll := hp0.len
 obtain ⟨ha1, ha2⟩ := okA (hp0.gI (i := i))
 obtain ⟨hb1, hb2⟩ := okA (hp0.gI (i := i + 1))
 refine Z10 ?_
 refine .p (cI i (h := gI_in (by omega))) rfl ?_
 refine Z17 ?_
 refine .g (OpG.gF rfl rfl rfl rfl (fun hg => opIndexAddr (j := i + 1) Tryz.underlying45 Tryz.cz61 rfl (.when (.t rfl) hg) (.when (.t rfl) hg) (by omega) (gI_in (by omega)))) rfl rfl ?_
 refine Z7 ?_
 refine .g (OpG.gF rfl rfl rfl rfl (fun hg => opIndexAddr (j := i) Tryz.underlying45 Tryz.cz61 rfl (.when (.t rfl) hg) (.when (.t rfl) hg) rfl (gI_in (by omega)))) rfl rfl ?_
 refine Z1 ?_
 refine .g (OpG.gF rfl rfl rfl rfl (fun hg => opCall (pconst_spec) Tryz.cb97 (.cons (.when (.t rfl) hg) .nil))) rfl rfl ?_
 refine Z12 ?_
 refine Cd (fun c0 => ?_) fun c0 => ?_
 ·
  refine Z8 ?_
  refine Rt2 ?_ ?_
  · rw [f3_no c0]; exact sliceV_nil 5 encInstr
  exact VLe.prop (by rw [f3_no c0]; simp)
 refine Z6 ?_
 refine .p (opCall (pcut_spec (n := 2) (ins := []) (by omega) (by simp; omega)) Tryz.cb96 (.cons (.t rfl) (.cons (.t rfl) (.cons (.c _) (.cons (.le (.c _) (sliceV_nil 5 encInstr)) .nil))))) rfl ?_
 refine Z5 ?_
 refine Rt2 ?_ ?_
 · rw [f3_yes c0]; exact VLe.refl _
 exact VLe.prop (by rw [f3_yes c0]; simp)
theorem ptees_spec {l : List InstrD} {i : Nat} (hp0 : SmL l 60000) (hp1 : i < l.length) : FnP Tryz.prog 71 [sliceV 5 encInstr (l), iV (i : Int)] (stV l i 4) := by
 refine In 52 Tryz.func71 fun _ _ _ => ?_
 have hll := hp0.len
 obtain ⟨ha1, ha2⟩ := okA (hp0.gI (i := i))
 obtain ⟨hb1, hb2⟩ := okA (hp0.gI (i := i + 1))
 refine Z8 ?_
 refine .drawK 34 2 FM.out (by kernel_rfl) (k := ?_)
 refine Z8 ?_
 refine .cons (OpG.gF rfl rfl rfl rfl (fun hg => opIndexAddr (j := i) Tryz.underlying45 Tryz.cz61 rfl (.when (.t rfl) hg) (.when (.t rfl) hg) rfl (gI_in (by omega)))) ?_
 refine Z8 ?_
 refine .cons (OpG.gF rfl rfl rfl rfl (fun hg => opIndexAddr (j := i + 1) Tryz.underlying45 Tryz.cz61 rfl (.when (.t rfl) hg) (.when (.t rfl) hg) (by omega) (gI_in (by omega)))) ?_
 refine Z7 ?_
 refine .cons (OpG.gF rfl rfl rfl rfl (fun hg => opIndexAddr (j := i) Tryz.underlying45 Tryz.cz61 rfl (.when (.t rfl) hg) (.when (.t rfl) hg) rfl (gI_in (by omega)))) ?_
 refine Z5 ?_
 refine .cons (OpG.gF rfl rfl rfl rfl (fun hg => opIndexAddr (j := i + 1) Tryz.underlying45 Tryz.cz61 rfl (.when (.t rfl) hg) (.when (.t rfl) hg) (by omega) (gI_in (by omega)))) ?_
 refine Z7 ?_
 refine Cd (fun c0 => ?_) fun c0 => ?_
 ·
  refine Z8 ?_
  refine Rt2 ?_ ?_
  · rw [f4_no c0]; exact sliceV_nil 5 encInstr
  exact VLe.prop (by rw [f4_no c0]; simp)
 refine Z8 ?_
 refine .p (cI i (h := gI_in (by omega))) rfl ?_
 refine Z2 ?_
 refine .p ((opBuild Tryz.pl61 Tryz.zb61 (.cons (.c _) (.cons (.t rfl) .nil)) rfl).le (tee_le)) rfl ?_
 refine .p (cB encInstr [⟨34, (gI l i).A, 0, 0, []⟩]) rfl ?_
 refine .p (cA (h := pcut_spec (n := 2) (by omega) (by simp; omega))) rfl ?_
 refine Z5 ?_
 refine Rt2 ?_ ?_
 · rw [f4_yes c0]; exact VLe.refl _
 exact VLe.prop (by rw [f4_yes c0]; simp)
theorem pdead_spec {l : List InstrD} {i : Nat} (hp0 : SmL l 60000) (hp1 : i < l.length) : FnP Tryz.prog 72 [sliceV 5 encInstr (l), iV (i : Int)] (stV l i 5) := by
 refine In 33 Tryz.func72 fun _ _ _ => ?_
 have hll := hp0.len
 obtain ⟨ha1, ha2⟩ := okA (hp0.gI (i := i))
 obtain ⟨hb1, hb2⟩ := okA (hp0.gI (i := i + 1))
 refine Z17 ?_
 refine .g (OpG.gF rfl rfl rfl rfl (fun hg => opIndexAddr (j := i) Tryz.underlying45 Tryz.cz61 rfl (.when (.t rfl) hg) (.when (.t rfl) hg) rfl (gI_in (by omega)))) rfl rfl ?_
 refine Z2 ?_
 refine .g (OpG.gF rfl rfl rfl rfl (fun hg => opCall (pstops_spec) Tryz.cb100 (.cons (.when (.t rfl) hg) .nil))) rfl rfl ?_
 refine Z6 ?_
 refine .g (OpG.gF rfl rfl rfl rfl (fun hg => opIndexAddr (j := i + 1) Tryz.underlying45 Tryz.cz61 rfl (.when (.t rfl) hg) (.when (.t rfl) hg) (by omega) (gI_in (by omega)))) rfl rfl ?_
 refine Z2 ?_
 refine .g (OpG.gF rfl rfl rfl rfl (fun hg => opCall (pbound_spec) Tryz.cb101 (.cons (.when (.t rfl) hg) .nil))) rfl rfl ?_
 refine Z3 ?_
 refine Cd (fun c0 => ?_) fun c0 => ?_
 ·
  refine Z8 ?_
  refine Rt2 ?_ ?_
  · rw [f5_no c0]; exact sliceV_nil 5 encInstr
  exact VLe.prop (by rw [f5_no c0]; simp)
 refine Z6 ?_
 refine .p ((opAddF (.t rfl) (.c _) fits_z).le (VLe.int (show _ = ((i + 1 : Nat) : Int) by omega))) rfl ?_
 refine .p (opCall (pcut_spec (i := i + 1) (n := 1) (ins := []) (by omega) (by simp; omega)) Tryz.cb96 (.cons (.t rfl) (.cons (.t rfl) (.cons (.c _) (.cons (.le (.c _) (sliceV_nil 5 encInstr)) .nil))))) rfl ?_
 refine Z5 ?_
 refine Rt2 ?_ ?_
 · rw [f5_yes hp1 c0]; exact VLe.refl _
 exact VLe.prop (by rw [f5_yes hp1 c0]; simp)
end Go.Proofs.YtmmdlhjcmlekfaaGreatDoor
end
section
namespace Go.Hl
open Go.RowKit
noncomputable def stepFV (P : Program) (k : Nat) : VP := funV P (A := List InstrD × Nat) (fun a => SmL a.1 60000 ∧ a.2 < a.1.length) (fun a => [sliceV 5 encInstr a.1, iV (a.2 : Int)]) (fun a => stV a.1 a.2 k)
instance (P : Program) (k : Nat) : Flat (stepFV P k) := by unfold stepFV; infer_instance
noncomputable def stepsV (P : Program) : List VP := [stepFV P 0, stepFV P 1, stepFV P 2, stepFV P 3, stepFV P 4, stepFV P 5]
instance (P : Program) : FlatL (stepsV P) := by unfold stepsV; infer_instance
theorem steps_at {P : Program} {k : Nat} (h : k < 6) : (stepsV P)[k]? = some (stepFV P k) := by
  match k, h with
  | 0, _ => rfl
  | 1, _ => rfl
  | 2, _ => rfl
  | 3, _ => rfl
  | 4, _ => rfl
  | 5, _ => rfl
end Go.Hl
namespace Go.Proofs.YtmmdlhjcmlekfaaGreatDoor
open Go.Hl Go.RowKit
theorem stepsV_of {F S : BS} {w : World} {v : Value} (ho : Own [tabH 0 .u8 Lib.deBruijn64tab] F S w)
    (hv : (aggV [exactV (.func (.func 67) #[] #[]), exactV (.func (.func 68) #[] #[]), exactV (.func (.func 69) #[] #[]), exactV (.func (.func 70) #[] #[]), exactV (.func (.func 71) #[] #[]), exactV (.func (.func 72) #[] #[])]).p S w v) : (aggV (stepsV Tryz.prog)).p S w v := by
  obtain ⟨arr, h1, h2, h3⟩ := hv
  obtain ⟨F', hvh⟩ := ho.at (i := 0) rfl
  refine ⟨arr, h1, h2, fun j q hj => ?_⟩
  match j, hj with
  | 0, hj => obtain ⟨u, hu, e⟩ := h3 0 _ rfl; cases hj; exact ⟨u, hu, e ▸ funV_pure Tryz.cb67 (fun a h => pnops_spec h.1 h.2) S w⟩
  | 1, hj => obtain ⟨u, hu, e⟩ := h3 1 _ rfl; cases hj; exact ⟨u, hu, e ▸ funV_dup (vh := tabH 0 .u8 Lib.deBruijn64tab) Tryz.cb68 (fun a h => pfolds_spec h.1 h.2) hvh⟩
  | 2, hj => obtain ⟨u, hu, e⟩ := h3 2 _ rfl; cases hj; exact ⟨u, hu, e ▸ funV_pure Tryz.cb69 (fun a h => ppairs_spec h.1 h.2) S w⟩
  | 3, hj => obtain ⟨u, hu, e⟩ := h3 3 _ rfl; cases hj; exact ⟨u, hu, e ▸ funV_pure Tryz.cb70 (fun a h => pdrops_spec h.1 h.2) S w⟩
  | 4, hj => obtain ⟨u, hu, e⟩ := h3 4 _ rfl; cases hj; exact ⟨u, hu, e ▸ funV_pure Tryz.cb71 (fun a h => ptees_spec h.1 h.2) S w⟩
  | 5, hj => obtain ⟨u, hu, e⟩ := h3 5 _ rfl; cases hj; exact ⟨u, hu, e ▸ funV_pure Tryz.cb72 (fun a h => pdead_spec h.1 h.2) S w⟩
  | j + 6, hj => cases hj
end Go.Proofs.YtmmdlhjcmlekfaaGreatDoor
end
section
namespace Go.Proofs.YtmmdlhjcmlekfaaGreatDoor
open Go.Hl Go.RowKit
theorem cloneI_spec {l : List InstrD} (hp0 : l.length ≤ 65536) : FnP Tryz.prog 73 [sliceV 5 encInstr (l)] (sliceV 5 encInstr (l)) := by
 refine In 8 Tryz.func73 fun _ _ _ => ?_
 refine .nilCase (t := 0) rfl fun p hp => ?_
 refine Z9 ?_
 refine .p (opEqlNilN Tryz.underlying45 (.t rfl) (.c _)) rfl ?_
 refine Z2 ?_
 refine Cd (fun c0 => ?_) fun c0 => ?_
 ·
  refine Z7 ?_
  refine Rt1 ?_
  exact (show VLe (exactV (.slice none 0 0)) (sliceV 5 encInstr l) from hp c0 ▸ sliceV_nil 5 encInstr)
 refine Z4 ?_
 refine .p (opBuildEmpty Tryz.underlying45 Tryz.cz61 rfl Tryz.zb61 rfl) rfl ?_
 refine Z1 ?_
 refine .p (opAppendE Tryz.underlying45 Tryz.underlying45 Tryz.cz61 rfl Tryz.zb61 rfl Tryz.by61 (.t rfl) (.le (.t rfl) sliceNV_le) (by omega)) rfl ?_
 refine Z4 ?_
 refine Rt1 ?_
 exact VLe.refl _
theorem pstep_spec {l : List InstrD} (hp0 : SmL l 60000) : FnE Tryz.prog 47 [sliceV 5 encInstr (l)] [tabH 0 .u8 Lib.deBruijn64tab] (γ := Unit) (fun _ => True) (fun _ => []) (fun _ => tupV [sliceV 5 encInstr ((stepR l).1), iV ((stepR l).2 : Int)]) := by
 refine In 36 Tryz.func47 fun _ _ _ => ?_
 have hll := hp0.len
 refine Z8 ?_
 refine .p (OpP.leH (opBuildArr Tryz.ar152 Tryz.zb152 (.cons (.f _) (.cons (.f _) (.cons (.f _) (.cons (.f _) (.cons (.f _) (.cons (.f _) .nil)))))) rfl) (fun F S w v ho hv => stepsV_of ho hv)) rfl ?_
 refine .n (opAlloc Tryz.zb152) rfl fun b4 _ => ?_
 refine Z12 ?_
 refine .loopO (σ := Nat) (fun _ => [cellsH b4 (stepsV Tryz.prog), tabH 0 .u8 Lib.deBruijn64tab]) (fun i => [(13, iV (i : Int))]) (fun i => i ≤ l.length ∧ stepK l i = none) (fun i => l.length - i) 0 ⟨Nat.zero_le _, rfl⟩ rfl ?_ ?_
 · exact (.get rfl (VLe.refl _) (.refl _ _))
 rintro i ⟨hi, hno⟩
 refine Z6 ?_
 refine Cd (fun c0 => ?_) fun c0 => ?_
 ·
  have hil : i < l.length := by omega
  refine Z17 ?_
  refine .loopO (σ := Nat) (fun _ => [cellsH b4 (stepsV Tryz.prog), tabH 0 .u8 Lib.deBruijn64tab]) (fun k => [(17, iV (k : Int))]) (fun k => k ≤ 6 ∧ stepAtK l i k = none) (fun k => 6 - k) 0 ⟨Nat.zero_le _, rfl⟩ rfl ?_ ?_
  · exact (.get rfl (VLe.refl _) (.refl _ _))
  rintro k ⟨hk, hnk⟩
  refine Z6 ?_
  refine Cd (fun c1 => ?_) fun c1 => ?_
  ·
   have hk6 : k < 6 := by omega
   refine Z7 ?_
   refine .p (opIndexA1 Tryz.underlying152 Tryz.cz151 Tryz.ag151 (.t rfl) rfl (.t rfl) rfl (steps_at hk6)) rfl ?_
   refine Z9 ?_
   refine .p (cV (l, i) (h := by exact ⟨hp0, hil⟩)) rfl ?_
   refine Z12 ?_
   refine Cd (fun c2 => ?_) fun c2 => ?_
   ·
    obtain ⟨r, hf⟩ := Option.isSome_iff_exists.1 c2
    have hsl := stepL_at hno hil (stepAtK_stay (stepAtK_yes hnk hf) 6 (by omega))
    refine Z19 ?_
    refine Rt2 ?_ ?_
    · exact VLe.of_eq (by unfold stepR; rw [hsl, hf]; rfl)
    exact VLe.int (by unfold stepR; rw [hsl]; rfl)
   have hf : fK l i k = none := by simpa using c2
   refine Z7 ?_
   refine .round (k + 1) ⟨by omega, stepAtK_no hnk hf⟩ (by omega) rfl ?_
   exact (.get rfl (VLe.int (by (show (k : Int) + 1 = ((k + 1 : Nat) : Int); omega))) ((.keep 18 rfl rfl)))
  have hk6 : k = 6 := by omega
  subst hk6
  have hat : stepAt l i = none := hnk
  refine Z10 ?_
  refine .round (i + 1) ⟨by omega, stepK_next hno hat⟩ (by omega) rfl ?_
  exact (.get rfl (VLe.int (by (show (i : Int) + 1 = ((i + 1 : Nat) : Int); omega))) ((.keep 10 rfl rfl)))
 have hil : i = l.length := by omega
 subst hil
 have hsl : stepL l = none := hno
 refine Z8 ?_
 refine .p (cA (h := cloneI_spec (by omega))) rfl ?_
 refine Z5 ?_
 refine Rt2 ?_ ?_
 · exact VLe.of_eq (by unfold stepR; rw [hsl]; rfl)
 exact VLe.int (by unfold stepR; rw [hsl]; rfl)
theorem pbody_spec {l : List InstrD} (hp0 : SmL l 60000) : FnE Tryz.prog 16 [sliceV 5 encInstr (l)] [tabH 0 .u8 Lib.deBruijn64tab] (γ := Unit) (fun _ => True) (fun _ => []) (fun _ => sliceV 5 encInstr (bodyL l)) := by
 refine In 14 Tryz.func16 fun _ _ _ => ?_
 refine Z6 ?_
 refine .loopO (σ := List InstrD) (fun _ => [tabH 0 .u8 Lib.deBruijn64tab]) (fun m => [(0, sliceV 5 encInstr (m))]) (fun m => SmL m 60000 ∧ bodyL m = bodyL l) (fun m => m.length) l ⟨hp0, rfl⟩ rfl ?_ ?_
 · exact (.get rfl (VLe.refl _) (.refl _ _))
 rintro m ⟨hm, hb⟩
 obtain ⟨r, hr⟩ : ∃ r, stepL m = r := ⟨_, rfl⟩
 refine Z4 ?_
 refine .p (cD 0 (h := pstep_spec hm)) rfl ?_
 refine Z14 ?_
 refine Cd (fun c0 => ?_) fun c0 => ?_
 ·
  have hr0 : r = none := by cases r with | none => rfl | some p => (exfalso; have h3 := (stepL_less hm (show stepL m = some (p.1, p.2) from hr)).2.2; unfold stepR at c0; rw [hr] at c0; simp at c0; omega)
  subst hr0
  refine Z11 ?_
  refine Rt1 ?_
  exact VLe.of_eq (by rw [← hb, bodyL_none hr]; unfold stepR; rw [hr]; rfl)
 obtain ⟨⟨r, n⟩, rfl⟩ : ∃ p, r = some p := by cases r with | none => exact absurd (by unfold stepR; rw [hr]; rfl) c0 | some p => exact ⟨p, rfl⟩
 obtain ⟨hl1, hl2, hl3⟩ := stepL_less hm hr
 refine Z7 ?_
 refine .round r ⟨hl2, (bodyL_some hm hr).symm.trans hb⟩ hl1 rfl ?_
 exact (.get rfl (VLe.of_eq (by unfold stepR; rw [hr]; rfl)) ((.keep 12 rfl rfl)))
end Go.Proofs.YtmmdlhjcmlekfaaGreatDoor
end
section
namespace Go.Hl
def opensC (c : Int) : Prop := c = 2 ∨ c = 3 ∨ c = 4
instance (c : Int) : Decidable (opensC c) := inferInstanceAs (Decidable (_ ∨ _))
def nrun : List Int → List (Int × Bool) → Prop
  | [], _ => False
  | c :: r, st =>
    if opensC c then st.length < 64 ∧ nrun r ((c, false) :: st)
    else if c = 5 then match st with
      | [] => False
      | (b, e) :: t => (b = 4 ∧ e = false) ∧ nrun r ((b, true) :: t)
    else if c = 11 then match st with
      | [] => r = []
      | _ :: t => nrun r t
    else nrun r st
theorem nrun_cons (c : Int) (r : List Int) (st : List (Int × Bool)) : nrun (c :: r) st = (if opensC c then st.length < 64 ∧ nrun r ((c, false) :: st)
    else if c = 5 then match st with
      | [] => False
      | (b, e) :: t => (b = 4 ∧ e = false) ∧ nrun r ((b, true) :: t)
    else if c = 11 then match st with
      | [] => r = []
      | _ :: t => nrun r t
    else nrun r st) := by
  rw [nrun.eq_def]
def rblk : Nat → List Int → Nat → Option (List Int)
  | 0, _, _ => none
  | _ + 1, [], _ => some []
  | f + 1, c :: r, d =>
    if c = 11 ∨ c = 5 then some (c :: r)
    else if opensC c then
      if 64 ≤ d then none else
      match rblk f r (d + 1) with
      | none => none
      | some [] => none
      | some (c2 :: r2) =>
        if c2 = 5 then
          if c = 4 then
            match rblk f r2 (d + 1) with
            | none => none
            | some [] => none
            | some (c3 :: r3) => if c3 = 5 then none else rblk f r3 d
          else none
        else rblk f r2 d
    else rblk f r d
theorem rblk_spec : ∀ (f : Nat) (s : List Int) (d : Nat), s.length < f → d ≤ 64 →
    (rblk f s d = none → ∀ st, st.length = d → ¬ nrun s st) ∧
    (∀ r, rblk f s d = some r → r.length ≤ s.length ∧ (∀ c r', r = c :: r' → c = 11 ∨ c = 5) ∧ ∀ st, st.length = d → (nrun s st ↔ nrun r st)) := by
  intro f
  induction f with
  | zero => intro s d h; omega
  | succ f ih =>
    intro s d h hd
    cases s with
    | nil => simp [rblk]
    | cons c r =>
      simp only [List.length_cons] at h
      by_cases h1 : c = 11 ∨ c = 5
      · simp only [rblk, h1, if_true]
        refine ⟨by simp, fun r' hr => ?_⟩
        cases hr
        exact ⟨Nat.le_refl _, fun c' r' e => by cases e; exact h1, fun st _ => Iff.rfl⟩
      by_cases h2 : opensC c
      · simp only [rblk, h1, if_false, h2, if_true]
        have hn : ∀ st, nrun (c :: r) st ↔ st.length < 64 ∧ nrun r ((c, false) :: st) := fun st => by rw [nrun_cons]; simp [h2]
        by_cases h3 : 64 ≤ d
        · simp only [h3, if_true]
          refine ⟨fun _ st hs hh => ?_, by simp⟩
          have := ((hn st).1 hh).1; omega
        simp only [h3, if_false]
        have i1 := ih r (d + 1) (by omega) (by omega)
        generalize rblk f r (d + 1) = o1 at i1
        have q : ∀ st, st.length = d → (nrun (c :: r) st ↔ nrun r ((c, false) :: st)) := fun st hs => (hn st).trans ⟨fun x => x.2, fun x => ⟨by omega, x⟩⟩
        match o1, i1 with
        | none, i1 => exact ⟨fun _ st hs hh => i1.1 rfl ((c, false) :: st) (by simp [hs]) ((q st hs).1 hh), by simp⟩
        | some [], i1 =>
          obtain ⟨_, _, i3⟩ := i1.2 [] rfl
          exact ⟨fun _ st hs hh => by have := (i3 ((c, false) :: st) (by simp [hs])).1 ((q st hs).1 hh); exact this, by simp⟩
        | some (c2 :: r2), i1 =>
          obtain ⟨l2, k2, i3⟩ := i1.2 _ rfl
          simp only [List.length_cons] at l2
          have q2 : ∀ st, st.length = d → (nrun (c :: r) st ↔ nrun (c2 :: r2) ((c, false) :: st)) := fun st hs => (q st hs).trans (i3 _ (by simp [hs]))
          rcases k2 c2 r2 rfl with e | e
          · subst e
            have hi := ih r2 d (by omega) hd
            have q3 : ∀ st, st.length = d → (nrun (c :: r) st ↔ nrun r2 st) := fun st hs => (q2 st hs).trans (by rw [nrun]; simp [opensC])
            simp only [show ¬ ((11 : Int) = 5) by decide, if_false]
            exact ⟨fun e st hs hh => hi.1 e st hs ((q3 st hs).1 hh), fun r' e => ⟨by have := (hi.2 r' e).1; simp; omega, (hi.2 r' e).2.1, fun st hs => (q3 st hs).trans ((hi.2 r' e).2.2 st hs)⟩⟩
          · subst e
            simp only [if_true]
            by_cases h4 : c = 4
            · subst h4
              simp only [if_true]
              have q3 : ∀ st, st.length = d → (nrun (4 :: r) st ↔ nrun r2 ((4, true) :: st)) := fun st hs => (q2 st hs).trans (by rw [nrun]; simp [opensC])
              have i4 := ih r2 (d + 1) (by omega) (by omega)
              generalize rblk f r2 (d + 1) = o2 at i4
              match o2, i4 with
              | none, i4 => exact ⟨fun _ st hs hh => i4.1 rfl _ (by simp [hs]) ((q3 st hs).1 hh), by simp⟩
              | some [], i4 =>
                obtain ⟨_, _, i5⟩ := i4.2 [] rfl
                exact ⟨fun _ st hs hh => (i5 ((4, true) :: st) (by simp [hs])).1 ((q3 st hs).1 hh), by simp⟩
              | some (c3 :: r3), i4 =>
                obtain ⟨l3, k3, i5⟩ := i4.2 _ rfl
                simp only [List.length_cons] at l3
                have q4 : ∀ st, st.length = d → (nrun (4 :: r) st ↔ nrun (c3 :: r3) ((4, true) :: st)) := fun st hs => (q3 st hs).trans (i5 _ (by simp [hs]))
                rcases k3 c3 r3 rfl with e | e
                · subst e
                  have hi := ih r3 d (by omega) hd
                  have q5 : ∀ st, st.length = d → (nrun (4 :: r) st ↔ nrun r3 st) := fun st hs => (q4 st hs).trans (by rw [nrun]; simp [opensC])
                  simp only [show ¬ ((11 : Int) = 5) by decide, if_false]
                  exact ⟨fun e st hs hh => hi.1 e st hs ((q5 st hs).1 hh), fun r' e => ⟨by have := (hi.2 r' e).1; simp; omega, (hi.2 r' e).2.1, fun st hs => (q5 st hs).trans ((hi.2 r' e).2.2 st hs)⟩⟩
                · subst e
                  simp only [if_true]
                  exact ⟨fun _ st hs hh => by have := (q4 st hs).1 hh; rw [nrun] at this; simp [opensC] at this, by simp⟩
            · simp only [h4, if_false]
              exact ⟨fun _ st hs hh => by have := (q2 st hs).1 hh; rw [nrun] at this; simp [opensC, h4] at this, by simp⟩
      · simp only [rblk, h1, if_false, h2]
        have hn : ∀ st, nrun (c :: r) st ↔ nrun r st := fun st => by
          rw [nrun_cons]; simp only [h2, if_false]
          rw [if_neg (fun e => h1 (.inr e)), if_neg (fun e => h1 (.inl e))]
        have hi := ih r d (by omega) hd
        exact ⟨fun e st hs hh => hi.1 e st hs ((hn st).1 hh), fun r' e => ⟨by have := (hi.2 r' e).1; simp; omega, (hi.2 r' e).2.1, fun st hs => (hn st).trans ((hi.2 r' e).2.2 st hs)⟩⟩
theorem nrun_rblk {f : Nat} {s : List Int} (h : s.length < f) : nrun s [] ↔ rblk f s 0 = some [11] := by
  have hi := rblk_spec f s 0 h (by omega)
  generalize rblk f s 0 = o at hi
  match o, hi with
  | none, hi => simp [hi.1 rfl [] rfl]
  | some [], hi => simp [(hi.2 [] rfl).2.2 [] rfl, nrun]
  | some (c :: r), hi =>
    obtain ⟨_, k, q⟩ := hi.2 _ rfl
    rw [q [] rfl]
    rcases k c r rfl with e | e <;> subst e <;> simp [nrun, opensC]
end Go.Hl
end
section
namespace Go.Hl
abbrev Stk := List UInt8 × Prop
open Classical in
noncomputable def tk1S (s : Stk) (want : UInt8) : Option (Stk × UInt8) :=
  match s.1.getLast? with
  | none => if s.2 then some (s, want) else none
  | some got => if got = want ∨ got = 0 ∨ want = 0 then some ((s.1.dropLast, s.2), if got = 0 then want else got) else none
noncomputable def tksR (s : Stk) : List UInt8 → Option Stk
  | [] => some s
  | t :: l => (tk1S s t).bind fun p => tksR p.1 l
noncomputable def tksS (s : Stk) (l : List UInt8) : Option Stk := tksR s l.reverse
def giveS (s : Stk) (l : List UInt8) : Stk := (s.1 ++ l, s.2)
def killS : Stk := ([], True)
structure FrC where
  loop : Prop
  is : Prop
  res : List UInt8
  st : Stk
open Classical in
noncomputable def labF (b : FrC) : List UInt8 := if b.loop then [] else b.res
def hgtF (fs : List FrC) : Nat := (fs.map fun b => b.st.1.length).sum
section
variable {ι : Type} (cd : ι → Int) (rr : ι → List UInt8) (pl : ι → Stk → List (List UInt8) → Option Stk)
open Classical
noncomputable def closeF (b : FrC) : Prop := ∃ s, tksS b.st b.res = some s ∧ s.1 = []
noncomputable def stepF (x : ι) (fs : List FrC) (b : FrC) : Option (List FrC) :=
  if cd x = 11 then
    if closeF b ∧ (b.is → b.res = []) then some (match fs.getLast? with
      | none => []
      | some t => fs.dropLast ++ [{ t with st := giveS t.st b.res }]) else none
  else if cd x = 5 then if closeF b then some (fs ++ [{ b with is := False, st := ([], False) }]) else none
  else if opensC (cd x) then (if cd x = 4 then tksS b.st [127] else some b.st).map fun s => fs ++ [{ b with st := s }] ++ [⟨cd x = 3, cd x = 4, rr x, ([], False)⟩]
  else (pl x b.st ((fs ++ [b]).map labF)).map fun s => fs ++ [{ b with st := s }]
noncomputable def crun : List ι → List FrC → Option (List Nat)
  | [], _ => some []
  | x :: r, fs => match fs.getLast? with
    | none => none
    | some b => (stepF cd rr pl x fs.dropLast b).bind fun fs' => (crun r fs').map (hgtF fs :: ·)
noncomputable def bchk : Nat → List ι → List (List UInt8) → List UInt8 → Stk → Nat → Option (List Nat × List ι)
  | 0, _, _, _, _, _ => none
  | _ + 1, [], _, _, _, _ => some ([], [])
  | f + 1, x :: r, labs, res, s, base =>
    if cd x = 11 ∨ cd x = 5 then
      if ∃ s', tksS s res = some s' ∧ s'.1 = [] then some ([base + s.1.length], x :: r) else none
    else if opensC (cd x) then
      (if cd x = 4 then tksS s [127] else some s).bind fun s1 =>
      (bchk f r (labs ++ [if cd x = 3 then [] else rr x]) (rr x) ([], False) (base + s1.1.length)).bind fun p =>
      match p.2 with
      | [] => none
      | x2 :: r2 =>
        if cd x2 = 5 then
          (bchk f r2 (labs ++ [if cd x = 3 then [] else rr x]) (rr x) ([], False) (base + s1.1.length)).bind fun p2 =>
          match p2.2 with
          | [] => none
          | _ :: r3 => (bchk f r3 labs res (giveS s1 (rr x)) base).map fun p3 => ((base + s.1.length) :: p.1 ++ p2.1 ++ p3.1, p3.2)
        else if cd x = 4 ∧ rr x ≠ [] then none
        else (bchk f r2 labs res (giveS s1 (rr x)) base).map fun p3 => ((base + s.1.length) :: p.1 ++ p3.1, p3.2)
    else (pl x s labs).bind fun s1 => (bchk f r labs res s1 base).map fun p => ((base + s.1.length) :: p.1, p.2)
theorem crun_cons (x : ι) (r : List ι) (fs : List FrC) (b : FrC) : crun cd rr pl (x :: r) (fs ++ [b]) = (stepF cd rr pl x fs b).bind fun fs' => (crun cd rr pl r fs').map (hgtF (fs ++ [b]) :: ·) := by
  simp [crun]
theorem hgtF_snoc (fs : List FrC) (b : FrC) : hgtF (fs ++ [b]) = hgtF fs + b.st.1.length := by simp [hgtF]
theorem bchk_spec : ∀ (f : Nat) (s : List ι) (d : Nat) (labs : List (List UInt8)) (res : List UInt8) (st : Stk) (base : Nat) (fs : List FrC) (loop is : Prop) (rest0 : List Int),
    s.length < f → rblk f (s.map cd) d = some rest0 → rest0 ≠ [] → labs = (fs ++ [FrC.mk loop is res st]).map labF → base = hgtF fs →
    (bchk cd rr pl f s labs res st base = none → crun cd rr pl s (fs ++ [FrC.mk loop is res st]) = none) ∧
    (∀ hs rest, bchk cd rr pl f s labs res st base = some (hs, rest) → rest.map cd = rest0 ∧ ∃ st', (∃ s', tksS st' res = some s' ∧ s'.1 = []) ∧
      ∀ x r, rest = x :: r → crun cd rr pl s (fs ++ [FrC.mk loop is res st]) = (stepF cd rr pl x fs ⟨loop, is, res, st'⟩).bind fun fs' => (crun cd rr pl r fs').map (hs ++ ·)) := by
  intro f
  induction f with
  | zero => intro s _ _ _ _ _ _ _ _ _ h; omega
  | succ f ih =>
    intro s d labs res st base fs loop is rest0 h hr hne hl hb
    cases s with
    | nil => simp [rblk] at hr; exact absurd hr hne
    | cons x r =>
      simp only [List.length_cons] at h
      rw [crun_cons, hgtF_snoc, ← hb]
      simp only [List.map_cons, rblk] at hr
      by_cases h1 : cd x = 11 ∨ cd x = 5
      · simp only [h1, if_true, Option.some.injEq] at hr
        simp only [bchk, h1, if_true]
        by_cases hc : ∃ s', tksS st res = some s' ∧ s'.1 = []
        · simp only [hc, if_true]
          refine ⟨by simp, fun hs rest e => ?_⟩
          simp only [Option.some.injEq, Prod.mk.injEq] at e
          obtain ⟨rfl, rfl⟩ := e
          refine ⟨by simpa using hr, st, hc, fun x' r' e => ?_⟩
          cases e
          rfl
        · simp only [hc, if_false]
          refine ⟨fun _ => ?_, by simp⟩
          have : stepF cd rr pl x fs ⟨loop, is, res, st⟩ = none := by
            unfold stepF
            rcases h1 with h1 | h1 <;> simp [h1, closeF] <;> intros <;> simp_all
          rw [this]; rfl
      simp only [h1, if_false] at hr
      have h11 : cd x ≠ 11 := fun e => h1 (.inl e)
      have h5 : cd x ≠ 5 := fun e => h1 (.inr e)
      by_cases h2 : opensC (cd x)
      · simp only [h2, if_true] at hr
        by_cases h3 : 64 ≤ d
        · simp [h3] at hr
        simp only [h3, if_false] at hr
        have hx0 : stepF cd rr pl x fs (FrC.mk loop is res st) = (if cd x = 4 then tksS st [127] else some st).map fun s => fs ++ [FrC.mk loop is res s] ++ [FrC.mk (cd x = 3) (cd x = 4) (rr x) ([], False)] := by
          simp only [stepF, h11, h5, h2, if_true, if_false]
        rw [hx0]
        simp only [bchk, h1, if_false, h2, if_true]
        generalize (if cd x = 4 then tksS st [127] else some st) = o1
        match o1 with
        | none => simp
        | some s1 =>
          simp only [Option.map_some, Option.bind_some]
          cases hr1 : rblk f (r.map cd) (d + 1) with
          | none => simp [hr1] at hr
          | some rest1 =>
            simp only [hr1] at hr
            have hne1 : rest1 ≠ [] := by intro e; simp [e] at hr
            have i1 := ih r (d + 1) (labs ++ [if cd x = 3 then [] else rr x]) (rr x) ([], False) (base + s1.1.length) (fs ++ [FrC.mk loop is res s1]) (cd x = 3) (cd x = 4) rest1 (by omega) hr1 hne1
              (by rw [hl]; simp [labF]) (by rw [hgtF_snoc, hb])
            obtain ⟨len1, k1, _⟩ := (rblk_spec f (r.map cd) (d + 1) (by simpa using (by omega : r.length < f)) (by omega)).2 rest1 hr1
            simp only [List.length_map] at len1
            generalize bchk cd rr pl f r (labs ++ [if cd x = 3 then [] else rr x]) (rr x) ([], False) (base + s1.1.length) = o2 at i1
            match o2, i1 with
            | none, i1 => rw [i1.1 rfl]; simp
            | some (hs1, []), i1 => exact absurd (i1.2 hs1 [] rfl).1.symm (by simpa using hne1)
            | some (hs1, x2 :: r2), i1 =>
              obtain ⟨e1, st1, hcl, q1⟩ := i1.2 _ _ rfl
              have q1 := q1 x2 r2 rfl
              simp only [Option.bind_some]
              rw [q1]
              subst e1
              simp only [List.map_cons, List.length_cons, List.length_map] at hr len1
              have key : ∀ (f' : Prop) (st2 : Stk) (r3 : List ι) (hsA : List Nat) (x3 : ι), cd x3 = 11 → (∃ s', tksS st2 (rr x) = some s' ∧ s'.1 = []) → r3.length < f → rblk f (r3.map cd) d = some rest0 →
                  ((f' ∧ rr x ≠ [] → (((stepF cd rr pl x3 (fs ++ [FrC.mk loop is res s1]) (FrC.mk (cd x = 3) f' (rr x) st2)).bind fun fs' => (crun cd rr pl r3 fs').map (hsA ++ ·)) = none)) ∧
                  (¬ (f' ∧ rr x ≠ []) → (bchk cd rr pl f r3 labs res (giveS s1 (rr x)) base = none → (((stepF cd rr pl x3 (fs ++ [FrC.mk loop is res s1]) (FrC.mk (cd x = 3) f' (rr x) st2)).bind fun fs' => (crun cd rr pl r3 fs').map (hsA ++ ·)) = none)) ∧
                    (∀ hs3 rest3, bchk cd rr pl f r3 labs res (giveS s1 (rr x)) base = some (hs3, rest3) → rest3.map cd = rest0 ∧ ∃ st', (∃ s', tksS st' res = some s' ∧ s'.1 = []) ∧
                      ∀ y r', rest3 = y :: r' → ((stepF cd rr pl x3 (fs ++ [FrC.mk loop is res s1]) (FrC.mk (cd x = 3) f' (rr x) st2)).bind fun fs' => (crun cd rr pl r3 fs').map (hsA ++ ·)) = (stepF cd rr pl y fs ⟨loop, is, res, st'⟩).bind fun fs' => (crun cd rr pl r' fs').map ((hsA ++ hs3) ++ ·)))) := by
                intro f' st2 r3 hsA x3 h3 hc3 hlen hr3
                have hst : stepF cd rr pl x3 (fs ++ [FrC.mk loop is res s1]) (FrC.mk (cd x = 3) f' (rr x) st2) = if (f' → rr x = []) then some (fs ++ [FrC.mk loop is res (giveS s1 (rr x))]) else none := by
                  have hcf : closeF (FrC.mk (cd x = 3) f' (rr x) st2) := hc3
                  simp [stepF, h3, hcf]
                rw [hst]
                refine ⟨fun hf => by rw [if_neg (fun e => hf.2 (e hf.1))]; rfl, fun hf => ?_⟩
                rw [if_pos (fun e => Classical.byContradiction fun e' => hf ⟨e, e'⟩)]
                simp only [Option.bind_some]
                have i3 := ih r3 d labs res (giveS s1 (rr x)) base fs loop is rest0 hlen hr3 hne (by rw [hl]; simp [labF]) hb
                refine ⟨fun e => by rw [i3.1 e]; rfl, fun hs3 rest3 e => ?_⟩
                obtain ⟨a1, st', a2, a3⟩ := i3.2 _ _ e
                refine ⟨a1, st', a2, fun y r' e' => ?_⟩
                rw [a3 y r' e']
                cases stepF cd rr pl y fs ⟨loop, is, res, st'⟩ with
                | none => rfl
                | some z => simp only [Option.bind_some, Option.map_map]; congr 1; funext l; simp
              have done : ∀ {o : Option (List Nat)} {z : Nat} {g : List Nat → List Nat}, (Option.map (z :: ·) (Option.map g o)) = Option.map (fun l => z :: g l) o := fun {o z g} => by cases o <;> rfl
              rcases k1 (cd x2) _ rfl with e | e
              · have hr' : rblk f (r2.map cd) d = some rest0 := by simpa [e] using hr
                obtain ⟨kA, kB⟩ := key (cd x = 4) st1 r2 hs1 x2 e hcl (by omega) hr'
                simp only [e, show ¬ ((11 : Int) = 5) by decide, if_false]
                by_cases hf : cd x = 4 ∧ rr x ≠ []
                · rw [if_pos hf, kA hf]
                  exact ⟨fun _ => rfl, by simp⟩
                · rw [if_neg hf]
                  obtain ⟨kC, kD⟩ := kB hf
                  refine ⟨fun e' => ?_, fun hs rest e' => ?_⟩
                  · rw [kC (by simpa using e')]; rfl
                  · obtain ⟨p3, e3, e4⟩ := Option.map_eq_some_iff.1 e'
                    simp only [Prod.mk.injEq] at e4
                    obtain ⟨rfl, rfl⟩ := e4
                    obtain ⟨a1, st', a2, a3⟩ := kD _ _ (by rw [e3])
                    refine ⟨a1, st', a2, fun y r' e5 => ?_⟩
                    rw [a3 y r' e5]
                    cases stepF cd rr pl y fs ⟨loop, is, res, st'⟩ with
                    | none => rfl
                    | some z => simp only [Option.bind_some]; rw [done]; rfl
              · simp only [e, if_true] at hr ⊢
                by_cases h4 : cd x = 4
                · simp only [h4, if_true] at hr
                  cases hr2 : rblk f (r2.map cd) (d + 1) with
                  | none => simp [hr2] at hr
                  | some rest2 =>
                    simp only [hr2] at hr
                    have hne2 : rest2 ≠ [] := by intro e; simp [e] at hr
                    have i2 := ih r2 (d + 1) (labs ++ [if cd x = 3 then [] else rr x]) (rr x) ([], False) (base + s1.1.length) (fs ++ [FrC.mk loop is res s1]) (cd x = 3) False rest2 (by omega) hr2 hne2
                      (by rw [hl]; simp [labF]) (by rw [hgtF_snoc, hb])
                    obtain ⟨len2, k2, _⟩ := (rblk_spec f (r2.map cd) (d + 1) (by simpa using (by omega : r2.length < f)) (by omega)).2 rest2 hr2
                    simp only [List.length_map] at len2
                    have hst5 : stepF cd rr pl x2 (fs ++ [FrC.mk loop is res s1]) (FrC.mk (cd x = 3) (cd x = 4) (rr x) st1) = some (fs ++ [FrC.mk loop is res s1] ++ [FrC.mk (cd x = 3) False (rr x) ([], False)]) := by
                      have hcf : closeF (FrC.mk (cd x = 3) (cd x = 4) (rr x) st1) := hcl
                      simp only [stepF, e, show ¬ ((5 : Int) = 11) by decide, if_false, if_true, hcf]
                    rw [hst5]
                    simp only [Option.bind_some]
                    generalize bchk cd rr pl f r2 (labs ++ [if cd x = 3 then [] else rr x]) (rr x) ([], False) (base + s1.1.length) = o3 at i2
                    match o3, i2 with
                    | none, i2 => rw [i2.1 rfl]; simp
                    | some (hs2, []), i2 => exact absurd (i2.2 hs2 [] rfl).1.symm (by simpa using hne2)
                    | some (hs2, x3 :: r3), i2 =>
                      obtain ⟨e2, st2, hcl2, q2⟩ := i2.2 _ _ rfl
                      rw [q2 x3 r3 rfl]
                      subst e2
                      simp only [List.map_cons, List.length_cons, List.length_map] at hr len2
                      rcases k2 (cd x3) _ rfl with e3 | e3
                      · have hr' : rblk f (r3.map cd) d = some rest0 := by simpa [e3] using hr
                        obtain ⟨kA, kB⟩ := key False st2 r3 (hs1 ++ hs2) x3 e3 hcl2 (by omega) hr'
                        obtain ⟨kC, kD⟩ := kB (fun h => h.1)
                        have hmm : (Option.map (hs1 ++ ·) ((stepF cd rr pl x3 (fs ++ [FrC.mk loop is res s1]) (FrC.mk (cd x = 3) False (rr x) st2)).bind fun fs' => (crun cd rr pl r3 fs').map (hs2 ++ ·))) =
                            ((stepF cd rr pl x3 (fs ++ [FrC.mk loop is res s1]) (FrC.mk (cd x = 3) False (rr x) st2)).bind fun fs' => (crun cd rr pl r3 fs').map (hs1 ++ hs2 ++ ·)) := by
                          cases stepF cd rr pl x3 (fs ++ [FrC.mk loop is res s1]) (FrC.mk (cd x = 3) False (rr x) st2) with
                          | none => rfl
                          | some z => simp only [Option.bind_some]; cases crun cd rr pl r3 z <;> simp
                        rw [hmm]
                        simp only [Option.bind_some]
                        refine ⟨fun e' => ?_, fun hs rest e' => ?_⟩
                        · rw [kC (by simpa using e')]; rfl
                        · obtain ⟨p3, e3, e4⟩ := Option.map_eq_some_iff.1 e'
                          simp only [Prod.mk.injEq] at e4
                          obtain ⟨rfl, rfl⟩ := e4
                          obtain ⟨a1, st', a2, a3⟩ := kD _ _ (by rw [e3])
                          refine ⟨a1, st', a2, fun y r' e5 => ?_⟩
                          rw [a3 y r' e5]
                          cases stepF cd rr pl y fs ⟨loop, is, res, st'⟩ with
                          | none => rfl
                          | some z => simp only [Option.bind_some]; rw [done]; rfl
                      · simp [e3] at hr
                · simp [h4] at hr
      · simp only [h2, if_false] at hr
        have hx0 : stepF cd rr pl x fs (FrC.mk loop is res st) = (pl x st labs).map fun s => fs ++ [FrC.mk loop is res s] := by
          simp only [stepF, h11, h5, h2, if_false, hl]
        rw [hx0]
        simp only [bchk, h1, if_false, h2]
        cases pl x st labs with
        | none => simp
        | some s1 =>
          simp only [Option.map_some, Option.bind_some]
          have i1 := ih r d labs res s1 base fs loop is rest0 (by omega) hr hne (by rw [hl]; simp [labF]) hb
          refine ⟨fun e' => ?_, fun hs rest e' => ?_⟩
          · rw [i1.1 (by simpa using e')]; rfl
          · obtain ⟨p3, e3, e4⟩ := Option.map_eq_some_iff.1 e'
            simp only [Prod.mk.injEq] at e4
            obtain ⟨rfl, rfl⟩ := e4
            obtain ⟨a1, st', a2, a3⟩ := i1.2 _ _ (by rw [e3])
            refine ⟨a1, st', a2, fun y r' e5 => ?_⟩
            rw [a3 y r' e5]
            cases stepF cd rr pl y fs ⟨loop, is, res, st'⟩ with
            | none => rfl
            | some z => simp only [Option.bind_some]; cases crun cd rr pl r' z <;> rfl
theorem crun_bchk {f : Nat} {s : List ι} {res : List UInt8} (h : s.length < f) (hr : rblk f (s.map cd) 0 = some [11]) :
    crun cd rr pl s [FrC.mk False False res ([], False)] = (bchk cd rr pl f s [res] res ([], False) 0).map Prod.fst := by
  have i := bchk_spec cd rr pl f s 0 [res] res ([], False) 0 [] False False [11] h hr (by simp) (by simp [labF]) rfl
  generalize bchk cd rr pl f s [res] res ([], False) 0 = o at i
  match o, i with
  | none, i => simpa using i.1 rfl
  | some (hs, rest), i =>
    obtain ⟨e, st', hc, q⟩ := i.2 _ _ rfl
    obtain ⟨x, rfl⟩ : ∃ x, rest = [x] := by
      cases rest with
      | nil => simp at e
      | cons x t => cases t with
        | nil => exact ⟨x, rfl⟩
        | cons y t => simp at e
    have q := q x [] rfl
    simp only [List.nil_append] at q
    have hx : cd x = 11 := by simpa using e
    have hcf : closeF (FrC.mk False False res st') := hc
    rw [q]
    simp [stepF, hx, hcf, crun]
end
end Go.Hl
end
section
namespace Go.Hl
structure EnvD where
  Funcs : List SigD
  Sigs : List SigD
  Wide : List Prop
  Globals : List UInt8
  Mutable : List Prop
  Table : Prop
  Own : SigD
  Locals : List UInt8
open Classical
noncomputable def tgS (s : Stk) (i o : List UInt8) : Option Stk := (tksS s i).map (giveS · o)
noncomputable def adrW (w : Prop) : UInt8 := if w then 126 else 127
def labAt (labs : List (List UInt8)) (n : Int) : Option (List UInt8) := if n < (labs.length : Int) ∧ 0 ≤ n then labs[labs.length - 1 - n.toNat]? else none
def getI {α : Type} (l : List α) (n : Int) : Option α := if n < (l.length : Int) ∧ 0 ≤ n then l[n.toNat]? else none
noncomputable def memS (v : EnvD) (x : InstrD) (s : Stk) : Option Stk :=
  (getI v.Wide x.A).bind fun wa =>
  (if formR x.Code = 10 then getI v.Wide x.B else some wa).bind fun wb =>
  if formR x.Code = 8 then
    if (¬ wa ∧ 4294967295 < x.B) ∨ widthR x.Code < 2 ^ x.Align.toNat then none
    else tgS s (adrW wa :: (takesR x.Code).1.tail) (takesR x.Code).2
  else if x.Code = 63 then tgS s (takesR x.Code).1 [adrW wa]
  else if x.Code = 64 then tgS s [adrW wa] [adrW wa]
  else if x.Code = 64523 then tgS s [adrW wa, 127, adrW wa] (takesR x.Code).2
  else tgS s [adrW wa, adrW wb, adrW (wa ∧ wb)] (takesR x.Code).2
noncomputable def plS (v : EnvD) (x : InstrD) (s : Stk) (labs : List (List UInt8)) : Option Stk :=
  if x.Code = 0 then some killS
  else if x.Code = 12 then (labAt labs x.A).bind fun w => (tksS s w).map fun _ => killS
  else if x.Code = 13 then (labAt labs x.A).bind fun w => tgS s (w ++ [127]) w
  else if x.Code = 14 then (labAt labs x.A).bind fun w => if ∀ n ∈ x.L, labAt labs n = some w then (tksS s (w ++ [127])).map fun _ => killS else none
  else if x.Code = 15 then (tksS s v.Own.R).map fun _ => killS
  else if x.Code = 16 then (getI v.Funcs x.A).bind fun g => tgS s g.P g.R
  else if x.Code = 17 then (getI v.Sigs x.A).bind fun g => if x.B = 0 ∧ v.Table then tgS s (g.P ++ [127]) g.R else none
  else if x.Code = 26 then (tk1S s 0).map Prod.fst
  else if x.Code = 27 then (tksS s [127]).bind fun s => (tk1S s 0).bind fun p => (tk1S p.1 p.2).map fun p => giveS p.1 [p.2]
  else if x.Code = 32 then (getI v.Locals x.A).map fun t => giveS s [t]
  else if x.Code = 33 then (getI v.Locals x.A).bind fun t => tksS s [t]
  else if x.Code = 34 then (getI v.Locals x.A).bind fun t => tgS s [t] [t]
  else if x.Code = 35 then (getI v.Globals x.A).map fun t => giveS s [t]
  else if x.Code = 36 then (getI v.Globals x.A).bind fun t => (getI v.Mutable x.A).bind fun m => if m then tksS s [t] else none
  else if formR x.Code < 8 ∨ 10 < formR x.Code then tgS s (takesR x.Code).1 (takesR x.Code).2
  else memS v x s
end Go.Hl
end
section
namespace Go.Hl
def lenU (n : Nat) : Nat := if n < 128 then 1 else lenU (n / 128) + 1
termination_by n
decreasing_by omega
def lenS (n : Int) : Nat := if -64 ≤ n ∧ n < 64 then 1 else lenS (n / 128) + 1
termination_by n.natAbs
decreasing_by omega
theorem lenS_pos (n : Int) : 0 < lenS n := by unfold lenS; split <;> omega
theorem lenU_lt {n : Nat} (h : n < 128) : lenU n = 1 := by unfold lenU; simp [h]
theorem lenU_ge {n : Nat} (h : 128 ≤ n) : lenU n = lenU (n / 128) + 1 := by rw [lenU]; simp [Nat.not_lt.2 h]
theorem lenS_in {n : Int} (h : -64 ≤ n ∧ n < 64) : lenS n = 1 := by unfold lenS; simp [h]
theorem lenS_out {n : Int} (h : ¬ (-64 ≤ n ∧ n < 64)) : lenS n = lenS (n / 128) + 1 := by rw [lenS]; simp [h]
theorem lenU_le : ∀ (k n : Nat), n < 128 ^ (k + 1) → lenU n ≤ k + 1 := by
  intro k
  induction k with
  | zero => intro n h; rw [lenU_lt (by simpa using h)]; omega
  | succ k ih =>
    intro n h
    by_cases h1 : n < 128
    · rw [lenU_lt h1]; omega
    · rw [lenU_ge (by omega)]
      have := ih (n / 128) (by rw [Nat.div_lt_iff_lt_mul (by omega)]; rw [← Nat.pow_succ]; exact h)
      omega
theorem lenU_64 {n : Nat} (h : n < 18446744073709551616) : lenU n ≤ 10 := lenU_le 9 n (Nat.lt_of_lt_of_le h (by decide))
theorem lenS_le : ∀ (k : Nat) (n : Int), -(64 * 128 ^ k : Int) ≤ n → n < 64 * 128 ^ k → lenS n ≤ k + 1 := by
  intro k
  induction k with
  | zero => intro n h1 h2; rw [lenS_in (by omega)]; omega
  | succ k ih =>
    intro n h1 h2
    by_cases h : -64 ≤ n ∧ n < 64
    · rw [lenS_in h]; omega
    · rw [lenS_out h]
      have e : (64 * 128 ^ (k + 1) : Int) = (64 * 128 ^ k) * 128 := by rw [Int.pow_succ]; omega
      rw [e] at h1 h2
      have := ih (n / 128) (by omega) (by omega)
      omega
theorem lenS_64 {n : Int} (h1 : -9223372036854775808 ≤ n) (h2 : n < 9223372036854775808) : lenS n ≤ 10 := lenS_le 9 n (by omega) (by omega)
def btL (m : Nat) : Nat := if m = 0 then 0 else Nat.log2 m + 1
theorem btL_div (m : Nat) (h : 128 ≤ m) : btL m = btL (m / 128) + 7 := by
  have h0 : m / 128 ≠ 0 := by omega
  simp only [btL, h0, if_false, show m ≠ 0 by omega]
  have e : m / 128 = m / 2 / 2 / 2 / 2 / 2 / 2 / 2 := by simp [Nat.div_div_eq_div_mul]
  have l : ∀ k : Nat, 2 ≤ k → Nat.log2 k = Nat.log2 (k / 2) + 1 := fun k hk => by rw [Nat.log2_def]; simp [hk]
  rw [e, l m (by omega), l (m / 2) (by omega), l (m / 2 / 2) (by omega), l (m / 2 / 2 / 2) (by omega), l (m / 2 / 2 / 2 / 2) (by omega), l (m / 2 / 2 / 2 / 2 / 2) (by omega), l (m / 2 / 2 / 2 / 2 / 2 / 2) (by omega)]
theorem btL_lt {m k : Nat} (h : m < 2 ^ k) : btL m ≤ k := by
  unfold btL; split
  · omega
  · rename_i h0; have := (Nat.log2_lt h0).2 h; omega
theorem btL_ge {m k : Nat} (h : 2 ^ k ≤ m) : k < btL m := by
  unfold btL
  have h0 : m ≠ 0 := by have := Nat.two_pow_pos k; omega
  rw [if_neg h0]
  have := (Nat.le_log2 h0).2 h; omega
theorem lenS_bits : ∀ (k : Nat) (n : Int), n.natAbs ≤ k → lenS n = (btL (if n < 0 then (-n - 1).toNat else n.toNat) + 7) / 7 := by
  intro k
  induction k with
  | zero => intro n h; have : n = 0 := by omega
            subst this; rw [lenS_in (by omega)]; simp [btL]
  | succ k ih =>
    intro n h
    generalize hm : (if n < 0 then (-n - 1).toNat else n.toNat) = m
    by_cases h1 : -64 ≤ n ∧ n < 64
    · rw [lenS_in h1]; have := btL_lt (m := m) (k := 6) (by split at hm <;> omega); omega
    · rw [lenS_out h1, ih (n / 128) (by omega)]
      have e : (if n / 128 < 0 then (-(n / 128) - 1).toNat else (n / 128).toNat) = m / 128 := by split at hm <;> split <;> omega
      rw [e]
      by_cases h2 : 128 ≤ m
      · rw [btL_div m h2]; omega
      · have h3 : m / 128 = 0 := by omega
        have a := btL_lt (m := m) (k := 7) (by omega)
        have b := btL_ge (m := m) (k := 6) (by split at hm <;> omega)
        rw [h3]; simp only [btL, if_true]
        simp only [btL] at a b
        omega
end Go.Hl
end
section
namespace Go.Hl
def sml (n : Int) : Prop := n ≤ 4294967295
def rightI (x : InstrD) : Prop :=
  nameR x.Code ≠ [] ∧ ¬ (formR x.Code ≠ 11 ∧ ¬ sml x.A ∨ x.Code = 65 ∧ ¬ sml x.A ∨ formR x.Code ≠ 8 ∧ ¬ sml x.B) ∧
  ¬ (formR x.Code = 0 ∧ x.A ≠ 0 ∨ formR x.Code = 1 ∧ x.A ≠ 64 ∧ x.A ≠ 126 ∧ x.A ≠ 127) ∧
  ¬ (formR x.Code ≠ 5 ∧ formR x.Code ≠ 8 ∧ formR x.Code ≠ 10 ∧ x.B ≠ 0 ∨ formR x.Code ≠ 8 ∧ x.Align ≠ 0 ∨ x.Align < 0 ∨ 31 < x.Align) ∧
  (∀ n ∈ x.L, sml n) ∧ (x.L = [] ∨ formR x.Code = 3 ∧ x.L.length ≤ 100)
def lenUI (n : Int) : Nat := lenU n.toNat
def lenI (x : InstrD) : Nat :=
  (if 64512 ≤ x.Code then 1 + lenUI (x.Code - 64512) else 1) +
  (if formR x.Code = 1 then 1
   else if formR x.Code = 2 ∨ formR x.Code = 4 ∨ formR x.Code = 6 ∨ formR x.Code = 7 ∨ formR x.Code = 9 then lenUI x.A
   else if formR x.Code = 3 then lenU x.L.length + (x.L.map lenUI).sum + lenUI x.A
   else if formR x.Code = 5 ∨ formR x.Code = 10 then lenUI x.A + lenUI x.B
   else if formR x.Code = 8 then (if x.A = 0 then lenUI x.Align else lenUI (x.Align + 64) + lenUI x.A) + lenUI x.B
   else if formR x.Code = 11 then lenS (if x.Code = 65 then (if x.A < 2147483648 then x.A else x.A - 4294967296) else (if x.A < 9223372036854775808 then x.A else x.A - 18446744073709551616))
   else 0)
def runsB : List UInt8 → List Nat
  | [] => []
  | t :: l => match l, runsB l with
    | t' :: _, n :: r => if t' = t then (n + 1) :: r else 1 :: n :: r
    | _, _ => [1]
def lenB (b : BodyD) : Nat := lenU (runsB b.Locals).length + ((runsB b.Locals).map fun n => lenU n + 1).sum + (b.L.map lenI).sum
def encBd (b : BodyD) : Prop :=
  (∀ x ∈ b.L, rightI x) ∧ (∀ t ∈ b.Locals, t = 126 ∨ t = 127) ∧ b.Locals.length ≤ 50 ∧ nrun (b.L.map (·.Code)) [] ∧ lenB b ≤ 4096
end Go.Hl
end
section
namespace Go.Hl
theorem aggV_at {cs : List VP} {S : BS} {w : World} {v : Value} (h : (aggV cs).p S w v) (j : Nat) {q : VP} (hj : cs[j]? = some q) : ∃ u, q.p S w u := by
  obtain ⟨arr, _, _, hc⟩ := h
  obtain ⟨u, _, hq⟩ := hc j _ hj
  exact ⟨u, hq⟩
theorem sliceV_mem {α : Type} {n : Nat} {enc : α → List VP} {xs : List α} {S : BS} {w : World} {v : Value} (h : (sliceV n enc xs).p S w v) {x : α} (hx : x ∈ xs) (j : Nat) {q : VP} (hj : (enc x)[j]? = some q) : ∃ u, q.p S w u := by
  obtain ⟨a, cap, _, hc, _, he⟩ := h
  obtain ⟨i, hi⟩ := List.mem_iff_getElem?.1 hx
  have hil : i < xs.length := (List.getElem?_eq_some_iff.1 hi).1
  cases a with
  | none => have : cap = 0 := he; omega
  | some ad =>
    obtain ⟨_, _, hel⟩ := he (by omega)
    obtain ⟨u, _, hq⟩ := hel i x hi j q hj
    exact ⟨u, hq⟩
structure BodyLens (b : BodyD) : Prop where
  locals : b.Locals.length ≤ 281474976710656
  l : b.L.length ≤ 281474976710656
  all : ∀ (i : Nat) x, b.L[i]? = some x → x.L.length ≤ 281474976710656
theorem bodyLens {b : BodyD} {S : BS} {w : World} {v : Value} (h : (aggV (encBody b)).p S w v) : BodyLens b :=
  ⟨aggV_len h 0 rfl, aggV_len h 1 rfl, fun i x hx => by
    obtain ⟨u, hu⟩ := aggV_at h 1 rfl
    obtain ⟨u', hu'⟩ := sliceV_mem hu (List.mem_of_getElem? hx) 4 rfl
    exact sliceV_len hu'⟩
structure SmallB (b : BodyD) : Prop where
  locals : b.Locals.length ≤ 60
  l : b.L.length ≤ 150
  all : ∀ x ∈ b.L, x.L.length ≤ 110
structure ModIn (m : ModD) : Prop where
  sigs : ∀ (i : Nat) x, m.Sigs[i]? = some x → x.P.length ≤ 281474976710656 ∧ x.R.length ≤ 281474976710656
  imports : ∀ (i : Nat) x, m.Imports[i]? = some x → x.Module.length ≤ 281474976710656 ∧ x.Name.length ≤ 281474976710656
  exports : ∀ (i : Nat) x, m.Exports[i]? = some x → x.Name.length ≤ 281474976710656
  elems : ∀ (i : Nat) x, m.Elems[i]? = some x → x.Funcs.length ≤ 281474976710656
  datas : ∀ (i : Nat) x, m.Datas[i]? = some x → x.Bytes.length ≤ 281474976710656
theorem modIn {m : ModD} {S : BS} {w : World} {v : Value} (h : (aggV (encMod m)).p S w v) : ModIn m where
  sigs i x hx := by
    obtain ⟨u, hu⟩ := aggV_at h 0 rfl
    obtain ⟨_, h1⟩ := sliceV_mem hu (List.mem_of_getElem? hx) 0 rfl
    obtain ⟨_, h2⟩ := sliceV_mem hu (List.mem_of_getElem? hx) 1 rfl
    exact ⟨sliceV_len h1, sliceV_len h2⟩
  imports i x hx := by
    obtain ⟨u, hu⟩ := aggV_at h 1 rfl
    obtain ⟨_, h1⟩ := sliceV_mem hu (List.mem_of_getElem? hx) 0 rfl
    obtain ⟨_, h2⟩ := sliceV_mem hu (List.mem_of_getElem? hx) 1 rfl
    exact ⟨strV_len h1, strV_len h2⟩
  exports i x hx := by
    obtain ⟨u, hu⟩ := aggV_at h 6 rfl
    obtain ⟨_, h1⟩ := sliceV_mem hu (List.mem_of_getElem? hx) 0 rfl
    exact strV_len h1
  elems i x hx := by
    obtain ⟨u, hu⟩ := aggV_at h 8 rfl
    obtain ⟨_, h1⟩ := sliceV_mem hu (List.mem_of_getElem? hx) 1 rfl
    exact sliceV_len h1
  datas i x hx := by
    obtain ⟨u, hu⟩ := aggV_at h 9 rfl
    obtain ⟨_, h1⟩ := sliceV_mem hu (List.mem_of_getElem? hx) 2 rfl
    exact sliceV_len h1
structure SmallM (m : ModD) : Prop where
  sigs : m.Sigs.length ≤ 60
  imports : m.Imports.length ≤ 25
  funcs : m.Funcs.length ≤ 110
  mems : m.Mems.length ≤ 8
  globals : m.Globals.length ≤ 60
  exports : m.Exports.length ≤ 60
  elems : m.Elems.length ≤ 25
  datas : m.Datas.length ≤ 25
  sig : ∀ x ∈ m.Sigs, x.P.length + x.R.length ≤ 60
  imp : ∀ x ∈ m.Imports, x.Module.length + x.Name.length ≤ 100
  fn : ∀ x ∈ m.Funcs, SmallB x.Body
  exp : ∀ x ∈ m.Exports, x.Name.length ≤ 60
  elem : ∀ x ∈ m.Elems, x.Funcs.length ≤ 30
  data : ∀ x ∈ m.Datas, x.Bytes.length ≤ 4100
def toCells (x : ModD) (a f : VP) : List VP := [a, sliceV 3 encImport x.Imports, f, intV .i64 x.Table, sliceV 3 encLimits x.Mems, sliceV 3 encGlobal x.Globals, sliceV 3 encExport x.Exports, intV .i64 x.Start, sliceV 2 encElem x.Elems, sliceV 3 encData x.Datas]
def anyV : VP := ⟨fun _ _ _ => True, fun _ _ _ => trivial⟩
theorem VLe.any {q : VP} : VLe q anyV := fun _ _ _ _ => trivial
structure FitsM (x : ModD) : Prop where
  sigs : sigsE x = 0
  imports : importsE x = 0
  funcs : funcsE x = 0
  table : tableE x = 0
  mems : memsE x = 0
  globals : globalsE x = 0
  exports : exportsE x = 0
  start : startE x = 0
  elems : elemsE x = 0
  datas : datasE x = 0
theorem many_ok {α : Type} {xs : List α} {most : Int} {f : α → Int} {k : Nat} (h : (xs.length : Int) ≤ most) (hn : NotB (fun z => f z ≠ 0) xs k) (hk : xs.length ≤ k) : manyE xs.length most (onI xs f) = 0 :=
  manyE_zero.2 ⟨h, firstE_on.2 fun z hz => Classical.not_not.1 (hn.all hk z hz)⟩
theorem first_ok {α : Type} {xs : List α} {f : α → Int} {k : Nat} (hn : NotB (fun z => f z ≠ 0) xs k) (hk : xs.length ≤ k) : firstE (onI xs f) xs.length = 0 := firstE_on.2 fun z hz => Classical.not_not.1 (hn.all hk z hz)
theorem sigE_ok {s : SigD} (h : TypedP s.P ∧ TypedP s.R) : sigE s = 0 := (whenE_eq (by decide)).2 (not_not_intro h)
theorem importE_ok {m : ModD} {x : ImportD} (h1 : NamedP x.Module ∧ NamedP x.Name) (h2 : InP x.Sig m.Sigs.length) : importE m x = 0 := by
  unfold importE; rw [if_neg (by simp [h1])]; exact (whenE_eq (by decide)).2 (not_not_intro h2)
theorem funcE_ok {m : ModD} {x : FuncD} (h2 : InP x.Sig m.Sigs.length) : funcE m x = 0 := (whenE_eq (by decide)).2 (not_not_intro h2)
theorem funcs_ok {m : ModD} {k : Nat} (h : (m.Imports.length : Int) + (m.Funcs.length : Int) ≤ 100) (hn : NotB (fun z => funcE m z ≠ 0) m.Funcs k) (hk : m.Funcs.length ≤ k) : funcsE m = 0 := by
  unfold funcsE countM; rw [if_neg (by omega)]; exact first_ok hn hk
theorem tableE_ok {m : ModD} (h : -1 ≤ m.Table) (h2 : m.Table ≤ 1000) : tableE m = 0 := by
  unfold tableE; rw [if_neg (by omega)]; exact (whenE_eq (by decide)).2 (by omega)
theorem memE_ok {x : LimitsD} (h : 0 ≤ x.Min ∧ x.Min ≤ 65536 ∧ (x.Max < 0 ∨ x.Min ≤ x.Max ∧ x.Max ≤ 65536)) : memE x = 0 := (whenE_eq (by decide)).2 (not_not_intro h)
theorem globalE_ok {x : GlobalD} (h : (x.Ty.toNat : Int) = 126 ∨ (x.Ty.toNat : Int) = 127 ∧ x.Value ≤ 4294967295) : globalE x = 0 := by
  refine (whenE_eq (by decide)).2 fun h' => ?_
  rcases h' with h' | h'
  · rw [bitsI_zero] at h'
    apply h'
    rcases h with h | h
    · exact .inl (UInt8.toNat_inj.1 (by simpa using (by omega : x.Ty.toNat = 126)))
    · exact .inr (UInt8.toNat_inj.1 (by simpa using (by omega : x.Ty.toNat = 127)))
  · omega
theorem exportE_ok {m : ModD} {i : Nat} {x : ExportD} (hx : m.Exports[i]? = some x) (h1 : NamedP x.Name) (h2 : NotB (fun z : ExportD => z.Name = x.Name) m.Exports i) (ht : -1 ≤ m.Table) (ht2 : m.Table ≤ 1000)
    (h3 : x.Kind = 0 ∧ InP x.Index (countM m) ∨ (x.Kind = 1 ∧ 0 ≤ m.Table) ∧ x.Index = 0 ∨ x.Kind = 2 ∧ InP x.Index m.Mems.length ∨ x.Kind = 3 ∧ InP x.Index m.Globals.length) : exportE m i = 0 := by
  rw [exportE_rest hx]
  · refine (whenE_eq (by decide)).2 fun h => ?_
    have k0 : kindJ 0 = 0 := by decide
    have k1 : kindJ 1 = 1 := by decide
    have k2 : kindJ 2 = 2 := by decide
    have k3 : kindJ 3 = 3 := by decide
    unfold InP at h h3
    rcases h3 with ⟨h4, h5⟩ | ⟨⟨h4, h5⟩, h6⟩ | ⟨h4, h5⟩ | ⟨h4, h5⟩
    · rw [h4, k0] at h; simp only [cnt] at h; omega
    · rw [h4, k1] at h
      have hw : IntKind.i64.wrap (m.Table + 1) = m.Table + 1 := by unfold IntKind.wrap; simp [IntKind.signed, IntKind.bits]; omega
      simp only [cnt, hw] at h; omega
    · rw [h4, k2] at h; simp only [cnt] at h; omega
    · rw [h4, k3] at h; simp only [cnt] at h; omega
  · rintro (h | ⟨y, hy, he⟩)
    · exact h h1
    · obtain ⟨j, hj⟩ := List.mem_iff_getElem?.1 hy
      rw [List.getElem?_take] at hj
      split at hj
      · rename_i hlt; exact h2 j y hlt hj he
      · cases hj
theorem exports_ok {m : ModD} {k : Nat} (h : (m.Exports.length : Int) ≤ 50) (hn : ∀ j, j < k → exportE m j = 0) (hk : m.Exports.length ≤ k) : exportsE m = 0 := manyE_zero.2 ⟨h, firstE_zero.2 fun i hi => hn i (by omega)⟩
theorem InP.at {n : Int} {k : Nat} (h : InP n k) : n.toNat < k ∧ n = (n.toNat : Int) := by unfold InP at h; omega
theorem sig_found {m : ModD} {f : Int} (hf : InP f (countM m)) (h1 : ∀ z ∈ m.Imports, importE m z = 0) (h2 : ∀ z ∈ m.Funcs, funcE m z = 0) : ∃ s, sigO m f = some s := by
  have hf' := hf
  unfold InP countM at hf'
  unfold sigO numberO
  rw [if_neg (by unfold countM; omega)]
  have key : ∀ n : Int, InP n m.Sigs.length → ∃ s, (match some n with | none => none | some n => if 0 ≤ n then m.Sigs[n.toNat]? else none) = some s := fun n hn => by
    obtain ⟨h3, h4⟩ := hn.at
    simp only
    rw [if_pos (by omega)]
    exact ⟨_, List.getElem?_eq_getElem h3⟩
  by_cases hlt : f < (m.Imports.length : Int)
  · rw [if_pos hlt]
    have hl : f.toNat < m.Imports.length := by omega
    rw [List.getElem?_eq_getElem hl]
    refine key _ ?_
    have := h1 _ (List.getElem_mem hl)
    unfold importE at this
    split at this
    · cases this
    · exact Classical.not_not.1 ((whenE_eq (by decide)).1 this)
  · rw [if_neg hlt]
    have hl : (f - (m.Imports.length : Int)).toNat < m.Funcs.length := by omega
    rw [List.getElem?_eq_getElem hl]
    refine key _ ?_
    have := h2 _ (List.getElem_mem hl)
    exact Classical.not_not.1 ((whenE_eq (by decide)).1 this)
theorem sig_import {m : ModD} {f : Int} {s : SigD} (h : sigO m f = some s) (hf : f < (m.Imports.length : Int)) : ∃ x : ImportD, m.Imports[f.toNat]? = some x ∧ m.Sigs[x.Sig.toNat]? = some s ∧ f = (f.toNat : Int) ∧ x.Sig = (x.Sig.toNat : Int) := by
  unfold sigO numberO at h
  split at h
  · cases h
  · rename_i n hn
    split at hn
    · cases hn
    · rename_i hc
      cases hx : m.Imports[f.toNat]? with
      | none => rw [hx] at hn; cases hn
      | some x =>
        rw [hx] at hn; cases hn
        split at h
        · rename_i h0; exact ⟨x, rfl, h, by omega, by have h1 : 0 ≤ x.Sig := h0; omega⟩
        · cases h
theorem sig_func {m : ModD} {f : Int} {s : SigD} (h : sigO m f = some s) (hf : ¬ f < (m.Imports.length : Int)) : ∃ x : FuncD, m.Funcs[(f - (m.Imports.length : Int)).toNat]? = some x ∧ m.Sigs[x.Sig.toNat]? = some s ∧ f - (m.Imports.length : Int) = ((f - (m.Imports.length : Int)).toNat : Int) ∧ x.Sig = (x.Sig.toNat : Int) ∧ f < countM m := by
  unfold sigO numberO at h
  split at h
  · cases h
  · rename_i n hn
    split at hn
    · cases hn
    · rename_i hc
      cases hx : m.Funcs[(f - (m.Imports.length : Int)).toNat]? with
      | none => rw [hx] at hn; cases hn
      | some x =>
        rw [hx] at hn; cases hn
        split at h
        · rename_i h0; exact ⟨x, rfl, h, by omega, by have h1 : 0 ≤ x.Sig := h0; omega, by omega⟩
        · cases h
theorem startE_no {m : ModD} (h : m.Start = -1) : startE m = 0 := by unfold startE; rw [if_pos h]
theorem startE_ok {m : ModD} {s : SigD} (h : sigO m m.Start = some s) (h2 : ¬ 0 < (s.P.length : Int) + (s.R.length : Int)) : startE m = 0 := by
  unfold startE; split
  · rfl
  · rw [h]; exact (whenE_eq (by decide)).2 h2
theorem elemE_ok {m : ModD} {x : ElemD} {k : Nat} (h : (x.Funcs.length : Int) ≤ 20) (h1 : 0 ≤ m.Table) (h2 : x.At ≤ 4294967295) (h3 : NotB (fun z : Int => ¬ InP z (countM m)) x.Funcs k) (hk : x.Funcs.length ≤ k) : elemE m x = 0 := by
  unfold elemE; rw [if_neg (by omega)]
  refine (whenE_eq (by decide)).2 ?_
  rintro (h4 | ⟨f, hf, h5⟩ | h6)
  · omega
  · exact h3.all hk f hf h5
  · omega
theorem dataE_ok {m : ModD} {x : DataD} {y : LimitsD} (h : (x.Bytes.length : Int) ≤ 4096) (h1 : InP x.Mem m.Mems.length) (hy : m.Mems[x.Mem.toNat]? = some y) (h2 : ¬ (¬ y.Wide ∧ 4294967295 < x.At)) : dataE m x = 0 := by
  unfold dataE; rw [if_neg (by omega)]
  refine (whenE_eq (by decide)).2 ?_
  rintro (h4 | ⟨z, hz, h5⟩)
  · exact h4 h1
  · rw [hy] at hz; cases hz; exact h2 h5
theorem NotB.zero_at {α : Type} {f : α → Int} {xs : List α} {k : Nat} (hn : NotB (fun z => f z ≠ 0) xs k) (hk : xs.length ≤ k) : ∀ z ∈ xs, f z = 0 := fun z hz => Classical.not_not.1 (hn.all hk z hz)
theorem or4 {a b c d : Prop} (h : ((a ∨ b) ∨ c) ∨ d) : a ∨ b ∨ c ∨ d := by simpa [or_assoc] using h
theorem sig_mem {m : ModD} {f : Int} {s : SigD} (h : sigO m f = some s) : s ∈ m.Sigs := by
  unfold sigO at h
  split at h
  · cases h
  · split at h
    · exact List.mem_of_getElem? h
    · cases h
theorem funcs_each {m : ModD} (h : funcsE m = 0) : ∀ z ∈ m.Funcs, funcE m z = 0 := by
  unfold funcsE at h
  split at h
  · cases h
  · exact firstE_on.1 h
theorem sig_iff {m : ModD} {f : Int} (h1 : ∀ z ∈ m.Imports, importE m z = 0) (h2 : ∀ z ∈ m.Funcs, funcE m z = 0) : (sigO m f).isSome = true ↔ InP f (countM m) := by
  constructor
  · intro h
    obtain ⟨s, hs⟩ := Option.isSome_iff_exists.1 h
    unfold sigO numberO at hs
    unfold InP
    by_cases hc : f < 0 ∨ countM m ≤ f
    · rw [if_pos hc] at hs; cases hs
    · omega
  · intro h
    obtain ⟨s, hs⟩ := sig_found h h1 h2
    rw [hs]; rfl
def sumN (f : Nat → Int) : Nat → Int
  | 0 => 0
  | n + 1 => sumN f n + f n
theorem sumN_le {f : Nat → Int} {C : Int} (h : ∀ i, 0 ≤ f i ∧ f i ≤ C) : ∀ n : Nat, 0 ≤ sumN f n ∧ sumN f n ≤ n * C
  | 0 => by simp [sumN]
  | n + 1 => by
    have h1 := sumN_le h n
    have h2 := h n
    simp only [sumN]
    refine ⟨by omega, ?_⟩
    have : ((n + 1 : Nat) : Int) * C = n * C + C := by rw [Int.natCast_add, Int.add_mul]; simp
    omega
theorem sumN_zero {f : Nat → Int} (h : ∀ i, 0 ≤ f i) : ∀ {n : Nat}, sumN f n ≤ 0 → ∀ i, i < n → f i ≤ 0
  | 0, _, i, hi => by omega
  | n + 1, hs, i, hi => by
    have h0 : ∀ k : Nat, 0 ≤ sumN f k := fun k => by
      induction k with
      | zero => simp [sumN]
      | succ k ih => have := h k; simp only [sumN]; omega
    have h1 := h0 n
    have h2 := h n
    simp only [sumN] at hs
    by_cases e : i = n
    · subst e; omega
    · exact sumN_zero (n := n) h (by omega) i (by omega)
theorem onI_le {α : Type} {xs : List α} {g : α → Int} {C : Int} (hC : 0 ≤ C) (h : ∀ (i : Nat) x, xs[i]? = some x → 0 ≤ g x ∧ g x ≤ C) (i : Nat) : 0 ≤ onI xs g i ∧ onI xs g i ≤ C := by
  unfold onI
  split
  · rename_i x hx; exact h i x hx
  · exact ⟨by omega, hC⟩
def addN {α : Type} (xs : List α) (g : α → Int) (cap : Nat) : Int := sumN (onI xs g) (min xs.length cap)
theorem addN_le {α : Type} {xs : List α} {g : α → Int} {cap : Nat} (C : Int) (hC : 0 ≤ C) (h : ∀ (i : Nat) x, xs[i]? = some x → 0 ≤ g x ∧ g x ≤ C) : 0 ≤ addN xs g cap ∧ addN xs g cap ≤ cap * C := by
  have h1 := sumN_le (onI_le hC h) (min xs.length cap)
  refine ⟨h1.1, Int.le_trans h1.2 (Int.mul_le_mul_of_nonneg_right (by omega) hC)⟩
theorem addN_zero {α : Type} {xs : List α} {g : α → Int} {cap : Nat} (h : ∀ (i : Nat) x, xs[i]? = some x → 0 ≤ g x) (h0 : addN xs g cap ≤ 0) (hl : xs.length ≤ cap) : ∀ x ∈ xs, g x ≤ 0 := fun x hx => by
  obtain ⟨i, hi⟩ := List.mem_iff_getElem?.1 hx
  have := sumN_zero (f := onI xs g) (fun j => by unfold onI; split; exact h j _ (by assumption); omega) h0 i (by have := (List.getElem?_eq_some_iff.1 hi).1; omega)
  rwa [onI_eq hi] at this
theorem addN_part {α : Type} {xs : List α} {g : α → Int} {C : Int} (hC : 0 ≤ C) (h : ∀ (i : Nat) x, xs[i]? = some x → 0 ≤ g x ∧ g x ≤ C) (k : Nat) : 0 ≤ sumN (onI xs g) k ∧ sumN (onI xs g) k ≤ k * C := sumN_le (onI_le hC h) k
theorem sumN_at {α : Type} {xs : List α} {g : α → Int} {k : Nat} {x : α} (hx : xs[k]? = some x) : sumN (onI xs g) (k + 1) = sumN (onI xs g) k + g x := by simp only [sumN]; rw [onI_eq hx]
def gInstr (x : InstrD) : Int := max ((x.L.length : Int) - 110) 0
def greatB (b : BodyD) : Int := max ((b.Locals.length : Int) - 60) 0 + max ((b.L.length : Int) - 150) 0 + addN b.L gInstr 150
theorem gInstr_le {b : BodyD} (h : BodyLens b) : ∀ (i : Nat) x, b.L[i]? = some x → 0 ≤ gInstr x ∧ gInstr x ≤ 281474976710656 := fun i x hx => by have := h.all i x hx; unfold gInstr; omega
theorem greatB_le {b : BodyD} (h : BodyLens b) : 0 ≤ greatB b ∧ greatB b ≤ 152 * 281474976710656 := by
  have h1 := addN_le (cap := 150) 281474976710656 (by omega) (gInstr_le h)
  have h2 := h.locals
  have h3 := h.l
  unfold greatB; omega
theorem greatB_small {b : BodyD} (h : BodyLens b) (h0 : greatB b ≤ 0) : SmallB b := by
  have h1 := addN_le (cap := 150) 281474976710656 (by omega) (gInstr_le h)
  unfold greatB at h0
  have h2 := addN_zero (xs := b.L) (g := gInstr) (cap := 150) (fun i x _ => by unfold gInstr; omega) (by omega) (by omega)
  exact ⟨by omega, by omega, fun x hx => by have := h2 x hx; unfold gInstr at this; omega⟩
def gSig (y : SigD) : Int := max ((y.P.length : Int) + (y.R.length : Int) - 60) 0
def gImp (y : ImportD) : Int := max ((y.Module.length : Int) + (y.Name.length : Int) - 100) 0
def gFn (y : FuncD) : Int := greatB y.Body
def gExp (y : ExportD) : Int := max ((y.Name.length : Int) - 60) 0
def gElem (y : ElemD) : Int := max ((y.Funcs.length : Int) - 30) 0
def gData (y : DataD) : Int := max ((y.Bytes.length : Int) - 4100) 0
def great0 (x : ModD) : Int := max ((x.Sigs.length : Int) - 60) 0 + max ((x.Imports.length : Int) - 25) 0 + max ((x.Funcs.length : Int) - 110) 0 + max ((x.Mems.length : Int) - 8) 0 + max ((x.Globals.length : Int) - 60) 0 + max ((x.Exports.length : Int) - 60) 0 + max ((x.Elems.length : Int) - 25) 0 + max ((x.Datas.length : Int) - 25) 0
def great1 (x : ModD) : Int := great0 x + addN x.Sigs gSig 60
def great2 (x : ModD) : Int := great1 x + addN x.Imports gImp 25
def great3 (x : ModD) : Int := great2 x + addN x.Funcs gFn 110
def great4 (x : ModD) : Int := great3 x + addN x.Exports gExp 60
def great5 (x : ModD) : Int := great4 x + addN x.Elems gElem 25
def greatM (x : ModD) : Int := great5 x + addN x.Datas gData 25
structure ModLens3 (x : ModD) : Prop where
  top : ModLens x
  mid : ModIn x
  fns : ∀ (i : Nat) y, x.Funcs[i]? = some y → BodyLens y.Body
theorem modLens3 {m : ModD} {S : BS} {w : World} {v : Value} (h : (aggV (encMod m)).p S w v) : ModLens3 m :=
  ⟨modLensA h, modIn h, fun i x hx => by
    obtain ⟨u, hu⟩ := aggV_at h 2 rfl
    obtain ⟨_, h1⟩ := sliceV_mem hu (List.mem_of_getElem? hx) 1 rfl
    obtain ⟨_, h2⟩ := sliceV_mem hu (List.mem_of_getElem? hx) 2 rfl
    exact ⟨sliceV_len h1, sliceV_len h2, fun j y hy => by
      obtain ⟨_, h3⟩ := sliceV_mem h2 (List.mem_of_getElem? hy) 4 rfl
      exact sliceV_len h3⟩⟩
structure GreatB (x : ModD) : Prop where
  n0 : 0 ≤ great0 x ∧ great0 x ≤ 8 * 281474976710656
  sig : ∀ (i : Nat) y, x.Sigs[i]? = some y → 0 ≤ gSig y ∧ gSig y ≤ 2 * 281474976710656
  imp : ∀ (i : Nat) y, x.Imports[i]? = some y → 0 ≤ gImp y ∧ gImp y ≤ 2 * 281474976710656
  fn : ∀ (i : Nat) y, x.Funcs[i]? = some y → 0 ≤ gFn y ∧ gFn y ≤ 152 * 281474976710656
  exp : ∀ (i : Nat) y, x.Exports[i]? = some y → 0 ≤ gExp y ∧ gExp y ≤ 281474976710656
  elem : ∀ (i : Nat) y, x.Elems[i]? = some y → 0 ≤ gElem y ∧ gElem y ≤ 281474976710656
  data : ∀ (i : Nat) y, x.Datas[i]? = some y → 0 ≤ gData y ∧ gData y ≤ 281474976710656
theorem great0_le {x : ModD} (h : ModLens x) : 0 ≤ great0 x ∧ great0 x ≤ 8 * 281474976710656 := by
  obtain ⟨h1, h2, h3, h4, h5, h6, h7, h8⟩ := h
  have mx : ∀ (n : Nat) (c : Int), 0 ≤ c → n ≤ 281474976710656 → 0 ≤ max ((n : Int) - c) 0 ∧ max ((n : Int) - c) 0 ≤ 281474976710656 := fun n c _ _ => by omega
  have a1 := mx _ 60 (by omega) h1
  have a2 := mx _ 25 (by omega) h2
  have a3 := mx _ 110 (by omega) h3
  have a4 := mx _ 8 (by omega) h4
  have a5 := mx _ 60 (by omega) h5
  have a6 := mx _ 60 (by omega) h6
  have a7 := mx _ 25 (by omega) h7
  have a8 := mx _ 25 (by omega) h8
  unfold great0
  generalize max ((x.Sigs.length : Int) - 60) 0 = b1 at *
  generalize max ((x.Imports.length : Int) - 25) 0 = b2 at *
  generalize max ((x.Funcs.length : Int) - 110) 0 = b3 at *
  generalize max ((x.Mems.length : Int) - 8) 0 = b4 at *
  generalize max ((x.Globals.length : Int) - 60) 0 = b5 at *
  generalize max ((x.Exports.length : Int) - 60) 0 = b6 at *
  generalize max ((x.Elems.length : Int) - 25) 0 = b7 at *
  generalize max ((x.Datas.length : Int) - 25) 0 = b8 at *
  omega
theorem greatB_of {x : ModD} (h : ModLens3 x) : GreatB x :=
  ⟨great0_le h.top, fun i y hy => by have := h.mid.sigs i y hy; unfold gSig; omega, fun i y hy => by have := h.mid.imports i y hy; unfold gImp; omega, fun i y hy => greatB_le (h.fns i y hy),
   fun i y hy => by have := h.mid.exports i y hy; unfold gExp; omega, fun i y hy => by have := h.mid.elems i y hy; unfold gElem; omega, fun i y hy => by have := h.mid.datas i y hy; unfold gData; omega⟩
theorem greatM_small {x : ModD} (h : ModLens3 x) (h0 : greatM x ≤ 0) : SmallM x := by
  have hb := greatB_of h
  have n0 := hb.n0.1
  have n1 := (addN_le (cap := 60) _ (by omega) hb.sig).1
  have n2 := (addN_le (cap := 25) _ (by omega) hb.imp).1
  have n3 := (addN_le (cap := 110) _ (by omega) hb.fn).1
  have n4 := (addN_le (cap := 60) _ (by omega) hb.exp).1
  have n5 := (addN_le (cap := 25) _ (by omega) hb.elem).1
  have n6 := (addN_le (cap := 25) _ (by omega) hb.data).1
  unfold greatM great5 great4 great3 great2 great1 at h0
  have z0 : great0 x ≤ 0 := by omega
  unfold great0 at z0
  have g1 : x.Sigs.length ≤ 60 := by omega
  have g2 : x.Imports.length ≤ 25 := by omega
  have g3 : x.Funcs.length ≤ 110 := by omega
  have g6 : x.Exports.length ≤ 60 := by omega
  have g7 : x.Elems.length ≤ 25 := by omega
  have g8 : x.Datas.length ≤ 25 := by omega
  exact ⟨g1, g2, g3, by omega, by omega, g6, g7, g8,
    fun y hy => by have := addN_zero (fun i y hy => (hb.sig i y hy).1) (by omega) g1 y hy; unfold gSig at this; omega,
    fun y hy => by have := addN_zero (fun i y hy => (hb.imp i y hy).1) (by omega) g2 y hy; unfold gImp at this; omega,
    fun y hy => by
      have h9 := addN_zero (fun i y hy => (hb.fn i y hy).1) (by omega) g3 y hy
      obtain ⟨i, hi⟩ := List.mem_iff_getElem?.1 hy
      exact greatB_small (h.fns i y hi) h9,
    fun y hy => by have := addN_zero (fun i y hy => (hb.exp i y hy).1) (by omega) g6 y hy; unfold gExp at this; omega,
    fun y hy => by have := addN_zero (fun i y hy => (hb.elem i y hy).1) (by omega) g7 y hy; unfold gElem at this; omega,
    fun y hy => by have := addN_zero (fun i y hy => (hb.data i y hy).1) (by omega) g8 y hy; unfold gData at this; omega⟩
theorem great_bnds {x : ModD} (hb : GreatB x) : (0 ≤ great1 x ∧ great1 x ≤ 128 * 281474976710656) ∧ (0 ≤ great2 x ∧ great2 x ≤ 178 * 281474976710656) ∧ (0 ≤ great3 x ∧ great3 x ≤ 16898 * 281474976710656) ∧ (0 ≤ great4 x ∧ great4 x ≤ 16958 * 281474976710656) ∧ (0 ≤ great5 x ∧ great5 x ≤ 16983 * 281474976710656) := by
  have n0 := hb.n0
  have n1 := addN_le (cap := 60) _ (by omega) hb.sig
  have n2 := addN_le (cap := 25) _ (by omega) hb.imp
  have n3 := addN_le (cap := 110) _ (by omega) hb.fn
  have n4 := addN_le (cap := 60) _ (by omega) hb.exp
  have n5 := addN_le (cap := 25) _ (by omega) hb.elem
  unfold great5 great4 great3 great2 great1
  omega
end Go.Hl
end
section
namespace Go.Hl
def sigAt (m : ModD) (n : Int) : SigD := (m.Sigs[n.toNat]?).getD ⟨[], []⟩
def envD (m : ModD) (f : FuncD) : EnvD where
  Funcs := m.Imports.map (fun i => sigAt m i.Sig) ++ m.Funcs.map (fun g => sigAt m g.Sig)
  Sigs := m.Sigs
  Wide := m.Mems.map (·.Wide)
  Globals := m.Globals.map (·.Ty)
  Mutable := m.Globals.map (·.Mutable)
  Table := 0 ≤ m.Table
  Own := sigAt m f.Sig
  Locals := (sigAt m f.Sig).P ++ f.Body.Locals
def resI (x : InstrD) : List UInt8 := if x.A = 64 then [] else [UInt8.ofNat x.A.toNat]
noncomputable def heightsF (m : ModD) (f : FuncD) : Option (List Nat) :=
  crun (·.Code) resI (plS (envD m f)) f.Body.L [FrC.mk False False (sigAt m f.Sig).R ([], False)]
def typedF (m : ModD) (f : FuncD) : Prop := encBd f.Body ∧ ∃ hs, heightsF m f = some hs
def ValidD (m : ModD) : Prop := FitsM m ∧ ∀ f ∈ m.Funcs, typedF m f
theorem heightsF_doc {m : ModD} {f : FuncD} {k : Nat} (h : encBd f.Body) (hk : f.Body.L.length < k) :
    heightsF m f = (bchk (·.Code) resI (plS (envD m f)) k f.Body.L [(sigAt m f.Sig).R] (sigAt m f.Sig).R ([], False) 0).map Prod.fst :=
  crun_bchk _ _ _ hk ((nrun_rblk (by simpa using hk)).1 h.2.2.2.1)
end Go.Hl
end
section
namespace Go.Hl
open Go.RowKit
structure BkD where
  loop : Prop
  is : Prop
  res : List UInt8
  h : Nat
  dead : Prop
def encBkD (b : BkD) : List VP := [propV b.loop, propV b.is, sliceV 1 encU8 b.res, intV .i64 (b.h : Int), propV b.dead]
instance : Enc 5 encBkD := ⟨fun _ => rfl, fun x q h => by simp only [encBkD, List.mem_cons, List.not_mem_nil, or_false] at h; rcases h with h | h | h | h | h <;> rw [h] <;> infer_instance⟩
instance (x : BkD) : FlatL (encBkD x) := FlatL.of x
def bkF (h : Nat) (k : FrC) (s : Stk) : BkD := ⟨k.loop, k.is, k.res, h, s.2⟩
def stkF (fs : List FrC) : List UInt8 := fs.flatMap (·.st.1)
def bksG : Nat → List FrC → List BkD
  | _, [] => []
  | h, k :: fs => bkF h k k.st :: bksG (h + k.st.1.length) fs
abbrev bksF (fs : List FrC) : List BkD := bksG 0 fs
theorem bksG_snoc (k : FrC) : ∀ (fs : List FrC) (h : Nat), bksG h (fs ++ [k]) = bksG h fs ++ [bkF (h + hgtF fs) k k.st]
  | [], h => by simp [bksG, hgtF]
  | k' :: fs, h => by simp [bksG, bksG_snoc k fs, hgtF, Nat.add_assoc]
theorem bksG_len : ∀ (fs : List FrC) (h : Nat), (bksG h fs).length = fs.length
  | [], _ => rfl
  | _ :: fs, h => by simp [bksG, bksG_len fs]
theorem stkF_len (fs : List FrC) : (stkF fs).length = hgtF fs := by
  induction fs with
  | nil => rfl
  | cons k fs ih => simp only [stkF, List.flatMap_cons, List.length_append] at ih ⊢; rw [ih]; simp [hgtF]
theorem stkF_snoc (fs : List FrC) (k : FrC) : stkF (fs ++ [k]) = stkF fs ++ k.st.1 := by simp [stkF]
theorem bksF_snoc (fs : List FrC) (k : FrC) : bksF (fs ++ [k]) = bksF fs ++ [bkF (stkF fs).length k k.st] := by rw [bksF, bksG_snoc, Nat.zero_add, stkF_len]
open Classical in
noncomputable def labB (b : BkD) : List UInt8 := if b.loop then [] else b.res
theorem labB_map : ∀ (fs : List FrC) (h : Nat), (bksG h fs).map labB = fs.map labF
  | [], _ => rfl
  | k :: fs, h => by simp only [bksG, List.map_cons, labB_map fs]; rfl
abbrev ckC (cb : Nat) (m : ModD) (f : FuncD) (gs : SB) (ns : Nat) (gb : SB) (nb : Nat) : HP := cellsH cb [ptrV (encMod m), sliceV 1 encU8 (envD m f).Locals, sliceV 1 encU8 (sigAt m f.Sig).P, sliceV 1 encU8 (sigAt m f.Sig).R, exactV (sval gs ns), exactV (sval gb nb)]
abbrev ckG (cb : Nat) (m : ModD) (f : FuncD) (gs gb : SB) (st : List UInt8) (B : List BkD) : List HP := [ckC cb m f gs st.length gb B.length, sliceH gs 1 encU8 st, sliceH gb 5 encBkD B]
abbrev ckL (cb : Nat) (m : ModD) (f : FuncD) (gs : SB) (bb bc : Nat) (S0 : List UInt8) (B : List BkD) (k : FrC) (s : Stk) : List HP := ckG cb m f gs (some (bb, bc)) (S0 ++ s.1) (B ++ [bkF S0.length k s])
theorem tk1_nil {d : Prop} {w : UInt8} (h : d) : tk1S ([], d) w = some (([], d), w) := by simp [tk1S, h]
theorem tk1_nil_no {d : Prop} {w : UInt8} (h : ¬ d) : tk1S ([], d) w = none := by simp [tk1S, h]
theorem tk1_snoc {l : List UInt8} {d : Prop} {g w : UInt8} (h : g = w ∨ g = 0 ∨ w = 0) : tk1S (l ++ [g], d) w = some ((l, d), if g = 0 then w else g) := by
  simp [tk1S, h]
theorem tk1_snoc_no {l : List UInt8} {d : Prop} {g w : UInt8} (h : ¬ (g = w ∨ g = 0 ∨ w = 0)) : tk1S (l ++ [g], d) w = none := by
  simp only [tk1S, List.getLast?_append, List.getLast?_singleton, Option.some_or]
  rw [if_neg h]
theorem u8_zero (a : UInt8) : (a.toNat : Int) = 0 ↔ a = 0 := by
  rw [← UInt8.toNat_inj]; simp
theorem snoc_of {α : Type} {l : List α} (h : l ≠ []) : ∃ m x, l = m ++ [x] := ⟨l.dropLast, l.getLast h, (List.dropLast_concat_getLast h).symm⟩
theorem tksR_append (s : Stk) (a b : List UInt8) : tksR s (a ++ b) = (tksR s a).bind fun s => tksR s b := by
  induction a generalizing s with
  | nil => rfl
  | cons t a ih =>
    simp only [List.cons_append, tksR]
    cases tk1S s t with
    | none => rfl
    | some p => simp only [Option.bind_some]; exact ih _
theorem tks_app (s : Stk) (a b : List UInt8) : tksS s (a ++ b) = (tksS s b).bind fun s => tksS s a := by
  unfold tksS; rw [List.reverse_append, tksR_append]
theorem tks_one (s : Stk) (t : UInt8) : tksS s [t] = (tk1S s t).map Prod.fst := by
  simp only [tksS, List.reverse_cons, List.reverse_nil, List.nil_append, tksR]
  cases tk1S s t <;> rfl
theorem tks_snoc (s : Stk) (l : List UInt8) (t : UInt8) : tksS s (l ++ [t]) = (tk1S s t).bind fun p => tksS p.1 l := by
  rw [tks_app, tks_one]; cases tk1S s t <;> rfl
theorem tks_at {s : Stk} {l : List UInt8} {i : Nat} {t : UInt8} (h : l[i]? = some t) : tksS s (l.take (i + 1)) = (tk1S s t).bind fun p => tksS p.1 (l.take i) := by
  rw [← take_snoc h, tks_snoc]
theorem giveS_len (s : Stk) (l : List UInt8) : (giveS s l).1.length = s.1.length + l.length := by simp [giveS]
theorem tk1_le {s : Stk} {w : UInt8} {p : Stk × UInt8} (h : tk1S s w = some p) : p.1.1.length ≤ s.1.length := by
  unfold tk1S at h
  split at h
  · split at h
    · cases h; exact Nat.le_refl _
    · cases h
  · split at h
    · cases h; simp
    · cases h
theorem tksR_le : ∀ (l : List UInt8) {s s' : Stk}, tksR s l = some s' → s'.1.length ≤ s.1.length
  | [], s, s', h => by cases h; exact Nat.le_refl _
  | t :: l, s, s', h => by
    simp only [tksR] at h
    cases h1 : tk1S s t with
    | none => rw [h1] at h; cases h
    | some p => rw [h1] at h; exact Nat.le_trans (tksR_le l h) (tk1_le h1)
theorem tks_le {s s' : Stk} {l : List UInt8} (h : tksS s l = some s') : s'.1.length ≤ s.1.length := tksR_le _ h
theorem labAt_in {L : List (List UInt8)} {n : Int} (h0 : 0 ≤ n) (h : n < (L.length : Int)) : ∃ w, labAt L n = some w ∧ L[L.length - 1 - n.toNat]? = some w := by
  have : L.length - 1 - n.toNat < L.length := by omega
  exact ⟨L[L.length - 1 - n.toNat], by unfold labAt; rw [if_pos ⟨h, h0⟩]; exact List.getElem?_eq_getElem this, List.getElem?_eq_getElem this⟩
theorem labAt_out {L : List (List UInt8)} {n : Int} (h : ¬ n < (L.length : Int)) : labAt L n = none := by unfold labAt; rw [if_neg (fun e => h e.1)]
theorem getI_in {α : Type} {L : List α} {n : Int} (h0 : 0 ≤ n) (h : n < (L.length : Int)) : ∃ w, getI L n = some w ∧ L[n.toNat]? = some w := by
  have : n.toNat < L.length := by omega
  exact ⟨L[n.toNat], by unfold getI; rw [if_pos ⟨h, h0⟩]; exact List.getElem?_eq_getElem this, List.getElem?_eq_getElem this⟩
theorem getI_out {α : Type} {L : List α} {n : Int} (h : ¬ n < (L.length : Int)) : getI L n = none := by unfold getI; rw [if_neg (fun e => h e.1)]
theorem getI_get {α : Type} {L : List α} {n : Int} {w : α} (h : getI L n = some w) : 0 ≤ n ∧ n < (L.length : Int) ∧ L[n.toNat]? = some w := by
  unfold getI at h
  split at h
  · rename_i hc; exact ⟨hc.2, hc.1, h⟩
  · cases h
def clsP (res : List UInt8) (s : Stk) : Prop := ∃ s', tksS s res = some s' ∧ s'.1 = []
theorem u8_pop {x w : UInt8} : (((x.toNat : Int) = (w.toNat : Int) ∨ (x.toNat : Int) = 0) ∨ (w.toNat : Int) = 0) ↔ (x = w ∨ x = 0 ∨ w = 0) := by
  rw [u8_eq, u8_zero, u8_zero, or_assoc]
theorem pre_app {α : Type} (a b : List α) : a <+: a ++ b := List.prefix_append a b
theorem u8_wrap {n : Int} (h : 0 ≤ n) : IntKind.u8.wrap n = ((UInt8.ofNat n.toNat).toNat : Int) := by
  unfold IntKind.wrap
  simp [IntKind.signed, IntKind.bits]
  omega
theorem falseV : VLe (exactV (.bool false)) (propV False) := fun S w v h => ⟨false, h, by simp⟩
end Go.Hl
end
section
namespace Go.Hl
open Go.RowKit
structure CkOk (m : ModD) (f : FuncD) : Prop where
  fits : FitsM m
  lo : (envD m f).Locals.length ≤ 60000
  own : sigAt m f.Sig ∈ m.Sigs
structure InsOk0 (x : InstrD) : Prop where
  A0 : 0 ≤ x.A
  A64 : x.A < 18446744073709551616
  B0 : 0 ≤ x.B
  B64 : x.B < 18446744073709551616
  L0 : ∀ n ∈ x.L, 0 ≤ n
  Ln : x.L.length ≤ 60000
structure InsOk (x : InstrD) : Prop extends InsOk0 x where
  A16 : x.Code = 16 → x.A ≤ 4294967295
  a0 : 0 ≤ x.Align
  a31 : x.Align ≤ 31
theorem FitsM.few {m : ModD} (h : FitsM m) : ∀ g ∈ m.Sigs, g.P.length ≤ 20 ∧ g.R.length ≤ 20 := fun g hg => by
  have h1 := firstE_on.1 (manyE_zero.1 h.sigs).2 g hg
  have h2 : RightP g := Classical.not_not.1 ((whenE_eq (by decide)).1 h1)
  exact ⟨h2.1.1, h2.2.1⟩
theorem FitsM.lens {m : ModD} (h : FitsM m) : m.Sigs.length ≤ 50 ∧ m.Imports.length ≤ 20 ∧ m.Mems.length ≤ 4 ∧ m.Globals.length ≤ 50 ∧ countM m ≤ 100 := by
  have h1 := (manyE_zero.1 h.sigs).1
  have h2 := (manyE_zero.1 h.imports).1
  have h3 := (manyE_zero.1 h.mems).1
  have h4 := (manyE_zero.1 h.globals).1
  have h5 := h.funcs
  unfold funcsE at h5
  split at h5
  · cases h5
  · exact ⟨by omega, by omega, by omega, by omega, by omega⟩
theorem sigAt_mem {m : ModD} {n : Int} (h : InP n m.Sigs.length) : m.Sigs[n.toNat]? = some (sigAt m n) ∧ sigAt m n ∈ m.Sigs := by
  obtain ⟨h1, h2⟩ := h.at
  have : m.Sigs[n.toNat]? = some (sigAt m n) := by unfold sigAt; rw [List.getElem?_eq_getElem h1]; rfl
  exact ⟨this, List.mem_of_getElem? this⟩
theorem sigAt_of {m : ModD} {n : Int} {s : SigD} (h : m.Sigs[n.toNat]? = some s) : sigAt m n = s := by unfold sigAt; rw [h]; rfl
theorem sigO_getI {m : ModD} {f : FuncD} {n : Int} (h : FitsM m) : getI (envD m f).Funcs n = sigO m n := by
  have h1 : ∀ z ∈ m.Imports, importE m z = 0 := firstE_on.1 (manyE_zero.1 h.imports).2
  have h2 : ∀ z ∈ m.Funcs, funcE m z = 0 := funcs_each h.funcs
  have hlen : (envD m f).Funcs.length = m.Imports.length + m.Funcs.length := by simp [envD]
  by_cases hc : InP n (countM m)
  · obtain ⟨s, hs⟩ := sig_found hc h1 h2
    rw [hs]
    have hc' := hc
    unfold InP countM at hc'
    unfold getI
    rw [if_pos (by rw [hlen]; omega)]
    by_cases hl : n < (m.Imports.length : Int)
    · obtain ⟨x, hx, hx2, _, _⟩ := sig_import hs hl
      show (m.Imports.map (fun i => sigAt m i.Sig) ++ m.Funcs.map (fun g => sigAt m g.Sig))[n.toNat]? = some s
      rw [List.getElem?_append_left (by simp; omega), List.getElem?_map, hx]
      exact congrArg some (sigAt_of hx2)
    · obtain ⟨x, hx, hx2, _, _, _⟩ := sig_func hs hl
      show (m.Imports.map (fun i => sigAt m i.Sig) ++ m.Funcs.map (fun g => sigAt m g.Sig))[n.toNat]? = some s
      rw [List.getElem?_append_right (by simp; omega), List.getElem?_map, List.length_map]
      rw [show n.toNat - m.Imports.length = (n - (m.Imports.length : Int)).toNat by omega, hx]
      exact congrArg some (sigAt_of hx2)
  · have hno : ¬ (sigO m n).isSome = true := fun e => hc ((sig_iff h1 h2).1 e)
    have : sigO m n = none := by simpa using hno
    rw [this]
    unfold getI
    rw [if_neg (by rw [hlen]; unfold InP countM at hc; omega)]
theorem getI_map {α β : Type} {L : List α} {g : α → β} {n : Int} : getI (L.map g) n = (getI L n).map g := by
  unfold getI
  rw [List.length_map]
  split
  · rw [List.getElem?_map]
  · rfl
theorem labs_top (fs : List FrC) (b : FrC) (s : Stk) : (bksF fs ++ [bkF (stkF fs).length b s]).map labB = (fs ++ [b]).map labF := by
  rw [List.map_append, List.map_append, labB_map]; rfl
def StOf (fs : List FrC) (st : List UInt8) (B : List BkD) : Prop := B = bksF fs ∧ (fs ≠ [] → st = stkF fs)
theorem stOf_top (fs : List FrC) (b : FrC) (s : Stk) : StOf (fs ++ [{ b with st := s }]) (stkF fs ++ s.1) (bksF fs ++ [bkF (stkF fs).length b s]) :=
  ⟨by rw [bksF_snoc]; rfl, fun _ => by rw [stkF_snoc]⟩
theorem giveS_nil (s : Stk) : giveS s [] = s := by simp [giveS]
theorem tgS_nil_out (s : Stk) (i : List UInt8) : tgS s i [] = tksS s i := by
  unfold tgS; cases tksS s i <;> simp [giveS_nil]
section
variable {v : EnvD} {x : InstrD} {s : Stk} {labs : List (List UInt8)}
theorem plS_0 (h : x.Code = 0) : plS v x s labs = some killS := by unfold plS; rw [if_pos h]
theorem plS_12 (h : x.Code = 12) : plS v x s labs = (labAt labs x.A).bind fun w => (tksS s w).map fun _ => killS := by unfold plS; rw [if_neg (by omega), if_pos h]
theorem plS_13 (h : x.Code = 13) : plS v x s labs = (labAt labs x.A).bind fun w => tgS s (w ++ [127]) w := by unfold plS; rw [if_neg (by omega), if_neg (by omega), if_pos h]
open Classical in
theorem plS_14 (h : x.Code = 14) : plS v x s labs = (labAt labs x.A).bind fun w => if ∀ n ∈ x.L, labAt labs n = some w then (tksS s (w ++ [127])).map fun _ => killS else none := by unfold plS; rw [if_neg (by omega), if_neg (by omega), if_neg (by omega), if_pos h]
theorem plS_15 (h : x.Code = 15) : plS v x s labs = (tksS s v.Own.R).map fun _ => killS := by unfold plS; iterate 4 rw [if_neg (by omega)]
                                                                                              rw [if_pos h]
theorem plS_16 (h : x.Code = 16) : plS v x s labs = (getI v.Funcs x.A).bind fun g => tgS s g.P g.R := by
  unfold plS; iterate 5 rw [if_neg (by omega)]
  rw [if_pos h]
open Classical in
theorem plS_17 (h : x.Code = 17) : plS v x s labs = (getI v.Sigs x.A).bind fun g => if x.B = 0 ∧ v.Table then tgS s (g.P ++ [127]) g.R else none := by
  unfold plS; iterate 6 rw [if_neg (by omega)]
  rw [if_pos h]
theorem plS_26 (h : x.Code = 26) : plS v x s labs = (tk1S s 0).map Prod.fst := by
  unfold plS; iterate 7 rw [if_neg (by omega)]
  rw [if_pos h]
theorem plS_27 (h : x.Code = 27) : plS v x s labs = (tksS s [127]).bind fun s => (tk1S s 0).bind fun p => (tk1S p.1 p.2).map fun p => giveS p.1 [p.2] := by
  unfold plS; iterate 8 rw [if_neg (by omega)]
  rw [if_pos h]
theorem plS_32 (h : x.Code = 32) : plS v x s labs = (getI v.Locals x.A).map fun t => giveS s [t] := by
  unfold plS; iterate 9 rw [if_neg (by omega)]
  rw [if_pos h]
theorem plS_33 (h : x.Code = 33) : plS v x s labs = (getI v.Locals x.A).bind fun t => tksS s [t] := by
  unfold plS; iterate 10 rw [if_neg (by omega)]
  rw [if_pos h]
theorem plS_34 (h : x.Code = 34) : plS v x s labs = (getI v.Locals x.A).bind fun t => tgS s [t] [t] := by
  unfold plS; iterate 11 rw [if_neg (by omega)]
  rw [if_pos h]
theorem plS_35 (h : x.Code = 35) : plS v x s labs = (getI v.Globals x.A).map fun t => giveS s [t] := by
  unfold plS; iterate 12 rw [if_neg (by omega)]
  rw [if_pos h]
open Classical in
theorem plS_36 (h : x.Code = 36) : plS v x s labs = (getI v.Globals x.A).bind fun t => (getI v.Mutable x.A).bind fun m => if m then tksS s [t] else none := by
  unfold plS; iterate 13 rw [if_neg (by omega)]
  rw [if_pos h]
def varC (c : Int) : Prop := 32 ≤ c ∧ c ≤ 36
def callC (c : Int) : Prop := c = 16 ∨ c = 17 ∨ c = 26 ∨ c = 27
def ctlC (c : Int) : Prop := c = 0 ∨ c = 2 ∨ c = 3 ∨ c = 4 ∨ c = 5 ∨ c = 11 ∨ c = 12 ∨ c = 13 ∨ c = 14 ∨ c = 15
theorem plS_form (h1 : ¬ ctlC x.Code) (h2 : ¬ varC x.Code) (h3 : ¬ callC x.Code) (hf : formR x.Code < 8 ∨ 10 < formR x.Code) : plS v x s labs = tgS s (takesR x.Code).1 (takesR x.Code).2 := by
  unfold ctlC at h1; unfold varC at h2; unfold callC at h3
  unfold plS; iterate 14 rw [if_neg (by omega)]
  rw [if_pos hf]
theorem plS_mem (h1 : ¬ ctlC x.Code) (h2 : ¬ varC x.Code) (h3 : ¬ callC x.Code) (hf : ¬ (formR x.Code < 8 ∨ 10 < formR x.Code)) : plS v x s labs = memS v x s := by
  unfold ctlC at h1; unfold varC at h2; unfold callC at h3
  unfold plS; iterate 14 rw [if_neg (by omega)]
  rw [if_neg hf]
open Classical in
theorem memS_8 (hf : formR x.Code = 8) : memS v x s = (getI v.Wide x.A).bind fun wa => if (¬ wa ∧ 4294967295 < x.B) ∨ widthR x.Code < 2 ^ x.Align.toNat then none else tgS s (adrW wa :: (takesR x.Code).1.tail) (takesR x.Code).2 := by
  unfold memS
  refine Option.bind_congr fun wa _ => ?_
  rw [if_neg (by omega), Option.bind_some, if_pos hf]
theorem form_9 {c : Int} (h : formR c = 9) : c = 63 ∨ c = 64 ∨ c = 64523 := by
  unfold formR at h
  repeat' split at h
  all_goals omega
theorem form_10 {c : Int} (h : formR c = 10) : c = 64522 := by
  unfold formR at h
  repeat' split at h
  all_goals omega
theorem memS_63 (h : x.Code = 63) : memS v x s = (getI v.Wide x.A).bind fun wa => some (giveS s [adrW wa]) := by
  unfold memS
  have hf : formR x.Code = 9 := by rw [h]; decide
  refine Option.bind_congr fun wa _ => ?_
  rw [if_neg (by omega), Option.bind_some, if_neg (by omega), if_pos h, h]; rfl
theorem memS_64 (h : x.Code = 64) : memS v x s = (getI v.Wide x.A).bind fun wa => tgS s [adrW wa] [adrW wa] := by
  unfold memS
  have hf : formR x.Code = 9 := by rw [h]; decide
  refine Option.bind_congr fun wa _ => ?_
  rw [if_neg (by omega), Option.bind_some, if_neg (by omega), if_neg (by omega), if_pos h]
theorem memS_fill (h : x.Code = 64523) : memS v x s = (getI v.Wide x.A).bind fun wa => tksS s [adrW wa, 127, adrW wa] := by
  unfold memS
  have hf : formR x.Code = 9 := by rw [h]; decide
  refine Option.bind_congr fun wa _ => ?_
  rw [if_neg (by omega), Option.bind_some, if_neg (by omega), if_neg (by omega), if_neg (by omega), if_pos h, h]
  exact tgS_nil_out _ _
theorem memS_copy (h : x.Code = 64522) : memS v x s = (getI v.Wide x.A).bind fun wa => (getI v.Wide x.B).bind fun wb => tksS s [adrW wa, adrW wb, adrW (wa ∧ wb)] := by
  unfold memS
  have hf : formR x.Code = 10 := by rw [h]; decide
  refine Option.bind_congr fun wa _ => ?_
  rw [if_pos hf]
  refine Option.bind_congr fun wb _ => ?_
  rw [if_neg (by omega), if_neg (by omega), if_neg (by omega), if_neg (by omega), h]
  exact tgS_nil_out _ _
end
theorem adrW_iff {w : Prop} : ((adrW w).toNat : Int) = 126 ↔ w := by
  unfold adrW; split <;> simp_all
noncomputable abbrev stepX (m : ModD) (f : FuncD) (x : InstrD) (fs : List FrC) (b : FrC) : Option (List FrC) := stepF (·.Code) resI (plS (envD m f)) x fs b
section
variable {m : ModD} {f : FuncD} {x : InstrD} {fs : List FrC} {b : FrC}
theorem stepX_pl (h11 : x.Code ≠ 11) (h5 : x.Code ≠ 5) (ho : ¬ opensC x.Code) : stepX m f x fs b = (plS (envD m f) x b.st ((fs ++ [b]).map labF)).map fun s => fs ++ [{ b with st := s }] := by
  unfold stepX stepF; rw [if_neg h11, if_neg h5, if_neg ho]
open Classical in
theorem stepX_open (ho : opensC x.Code) : stepX m f x fs b = (if x.Code = 4 then tksS b.st [127] else some b.st).map fun s => fs ++ [{ b with st := s }] ++ [⟨x.Code = 3, x.Code = 4, resI x, ([], False)⟩] := by
  have ho' := ho
  unfold opensC at ho'
  have e1 : ¬ x.Code = 11 := by omega
  have e2 : ¬ x.Code = 5 := by omega
  unfold stepX stepF; rw [if_neg e1, if_neg e2, if_pos ho]
theorem stepX_else (h : x.Code = 5) (hc : clsP b.res b.st) : stepX m f x fs b = some (fs ++ [{ b with is := False, st := ([], False) }]) := by
  have e1 : ¬ x.Code = 11 := by omega
  unfold stepX stepF; rw [if_neg e1, if_pos h, if_pos (show closeF b from hc)]
theorem stepX_else_no (h : x.Code = 5) (hc : ¬ clsP b.res b.st) : stepX m f x fs b = none := by
  have e1 : ¬ x.Code = 11 := by omega
  unfold stepX stepF; rw [if_neg e1, if_pos h, if_neg (show ¬ closeF b from hc)]
theorem stepX_end (h : x.Code = 11) (hc : clsP b.res b.st ∧ (b.is → b.res = [])) : stepX m f x fs b = some (match fs.getLast? with | none => [] | some t => fs.dropLast ++ [{ t with st := giveS t.st b.res }]) := by
  unfold stepX stepF; rw [if_pos h, if_pos (show closeF b ∧ (b.is → b.res = []) from hc)]; try rfl
theorem stepX_end_no (h : x.Code = 11) (hc : ¬ (clsP b.res b.st ∧ (b.is → b.res = []))) : stepX m f x fs b = none := by
  unfold stepX stepF; rw [if_pos h, if_neg (show ¬ (closeF b ∧ (b.is → b.res = [])) from hc)]
theorem stOf_end (fs : List FrC) (r : List UInt8) : StOf (match fs.getLast? with | none => [] | some t => fs.dropLast ++ [{ t with st := giveS t.st r }]) (stkF fs ++ r) (bksF fs) := by
  rcases List.eq_nil_or_concat fs with rfl | ⟨gs, t, rfl⟩
  · exact ⟨rfl, fun h => absurd rfl h⟩
  · simp only [List.concat_eq_append, List.getLast?_append, List.getLast?_singleton, Option.some_or, List.dropLast_concat]
    refine ⟨?_, fun _ => ?_⟩
    · rw [bksF_snoc, bksF_snoc]; first | done | rfl
    · rw [stkF_snoc, stkF_snoc]; first | done | simp [giveS, List.append_assoc]
theorem stOf_open (fs : List FrC) (b : FrC) (s : Stk) (x : InstrD) : StOf (fs ++ [{ b with st := s }] ++ [⟨x.Code = 3, x.Code = 4, resI x, ([], False)⟩]) (stkF fs ++ s.1) ((bksF fs ++ [bkF (stkF fs).length b s]) ++ [bkF (stkF fs ++ s.1).length ⟨x.Code = 3, x.Code = 4, resI x, ([], False)⟩ ([], False)]) :=
  ⟨by rw [bksF_snoc, bksF_snoc, stkF_snoc]; rfl, fun _ => by rw [stkF_snoc, stkF_snoc]; simp⟩
theorem stOf_else (fs : List FrC) (b : FrC) : StOf (fs ++ [{ b with is := False, st := ([], False) }]) (stkF fs) (bksF fs ++ [bkF (stkF fs).length ⟨b.loop, False, b.res, ([], False)⟩ ([], False)]) :=
  ⟨by rw [bksF_snoc], fun _ => by rw [stkF_snoc]; simp⟩
end
end Go.Hl
end
section
namespace Go.Hl
theorem tg_grow {s s' : Stk} {i o : List UInt8} (h : tgS s i o = some s') : s'.1.length ≤ s.1.length + o.length := by
  unfold tgS at h
  obtain ⟨t, h1, rfl⟩ := Option.map_eq_some_iff.1 h
  rw [giveS_len]
  have := tks_le h1
  omega
theorem kill_grow {s s' : Stk} {w : List UInt8} (h : ((tksS s w).map fun _ => killS) = some s') : s'.1.length ≤ s.1.length := by
  obtain ⟨t, h1, rfl⟩ := Option.map_eq_some_iff.1 h
  simp [killS]
theorem labAt_mem {L : List (List UInt8)} {n : Int} {w : List UInt8} (h : labAt L n = some w) : w ∈ L := by
  unfold labAt at h
  split at h
  · exact List.mem_of_getElem? h
  · cases h
theorem getI_mem {α : Type} {L : List α} {n : Int} {w : α} (h : getI L n = some w) : w ∈ L := by
  unfold getI at h
  split at h
  · exact List.mem_of_getElem? h
  · cases h
theorem memS_grow {v : EnvD} {x : InstrD} {s s' : Stk} (ht : (takesR x.Code).2.length ≤ 20) (h : memS v x s = some s') : s'.1.length ≤ s.1.length + 20 := by
  unfold memS at h
  obtain ⟨wa, _, h⟩ := Option.bind_eq_some_iff.1 h
  obtain ⟨wb, _, h⟩ := Option.bind_eq_some_iff.1 h
  split at h
  · split at h
    · cases h
    · have := tg_grow h; omega
  split at h
  · have := tg_grow h; simp only [List.length_cons, List.length_nil] at this; omega
  split at h
  · have := tg_grow h; simp only [List.length_cons, List.length_nil] at this; omega
  split at h
  · have := tg_grow h; omega
  · have := tg_grow h; omega
theorem plS_grow {v : EnvD} {x : InstrD} {s s' : Stk} {labs : List (List UInt8)} (hl : ∀ w ∈ labs, w.length ≤ 20) (hF : ∀ g ∈ v.Funcs, g.R.length ≤ 20) (hS : ∀ g ∈ v.Sigs, g.R.length ≤ 20) (ht : (takesR x.Code).2.length ≤ 20)
    (h : plS v x s labs = some s') : s'.1.length ≤ s.1.length + 20 := by
  unfold plS at h
  by_cases c0 : x.Code = 0
  · rw [if_pos c0] at h
    cases h; simp [killS]
  rw [if_neg c0] at h
  by_cases c1 : x.Code = 12
  · rw [if_pos c1] at h
    obtain ⟨w, hw, h⟩ := Option.bind_eq_some_iff.1 h
    have := kill_grow h; omega
  rw [if_neg c1] at h
  by_cases c2 : x.Code = 13
  · rw [if_pos c2] at h
    obtain ⟨w, hw, h⟩ := Option.bind_eq_some_iff.1 h
    have := tg_grow h; have := hl w (labAt_mem hw); omega
  rw [if_neg c2] at h
  by_cases c3 : x.Code = 14
  · rw [if_pos c3] at h
    obtain ⟨w, hw, h⟩ := Option.bind_eq_some_iff.1 h
    split at h
    · have := kill_grow h; omega
    · cases h
  rw [if_neg c3] at h
  by_cases c4 : x.Code = 15
  · rw [if_pos c4] at h
    have := kill_grow h; omega
  rw [if_neg c4] at h
  by_cases c5 : x.Code = 16
  · rw [if_pos c5] at h
    obtain ⟨g, hg, h⟩ := Option.bind_eq_some_iff.1 h
    have := tg_grow h; have := hF g (getI_mem hg); omega
  rw [if_neg c5] at h
  by_cases c6 : x.Code = 17
  · rw [if_pos c6] at h
    obtain ⟨g, hg, h⟩ := Option.bind_eq_some_iff.1 h
    split at h
    · have := tg_grow h; have := hS g (getI_mem hg); omega
    · cases h
  rw [if_neg c6] at h
  by_cases c7 : x.Code = 26
  · rw [if_pos c7] at h
    obtain ⟨p, h1, rfl⟩ := Option.map_eq_some_iff.1 h
    have := tk1_le h1; omega
  rw [if_neg c7] at h
  by_cases c8 : x.Code = 27
  · rw [if_pos c8] at h
    obtain ⟨p, h1, h⟩ := Option.bind_eq_some_iff.1 h
    obtain ⟨q, h2, h⟩ := Option.bind_eq_some_iff.1 h
    obtain ⟨r, h3, rfl⟩ := Option.map_eq_some_iff.1 h
    have := tks_le h1; have := tk1_le h2; have := tk1_le h3
    rw [giveS_len]; simp only [List.length_cons, List.length_nil]; omega
  rw [if_neg c8] at h
  by_cases c9 : x.Code = 32
  · rw [if_pos c9] at h
    obtain ⟨t, _, rfl⟩ := Option.map_eq_some_iff.1 h
    rw [giveS_len]; simp only [List.length_cons, List.length_nil]; omega
  rw [if_neg c9] at h
  by_cases c10 : x.Code = 33
  · rw [if_pos c10] at h
    obtain ⟨t, _, h⟩ := Option.bind_eq_some_iff.1 h
    have := tks_le h; omega
  rw [if_neg c10] at h
  by_cases c11 : x.Code = 34
  · rw [if_pos c11] at h
    obtain ⟨t, _, h⟩ := Option.bind_eq_some_iff.1 h
    have := tg_grow h; simp only [List.length_cons, List.length_nil] at this; omega
  rw [if_neg c11] at h
  by_cases c12 : x.Code = 35
  · rw [if_pos c12] at h
    obtain ⟨t, _, rfl⟩ := Option.map_eq_some_iff.1 h
    rw [giveS_len]; simp only [List.length_cons, List.length_nil]; omega
  rw [if_neg c12] at h
  by_cases c13 : x.Code = 36
  · rw [if_pos c13] at h
    obtain ⟨t, _, h⟩ := Option.bind_eq_some_iff.1 h
    obtain ⟨mu, _, h⟩ := Option.bind_eq_some_iff.1 h
    split at h
    · have := tks_le h; omega
    · cases h
  rw [if_neg c13] at h
  by_cases c14 : formR x.Code < 8 ∨ 10 < formR x.Code
  · rw [if_pos c14] at h
    have := tg_grow h; omega
  · rw [if_neg c14] at h; exact memS_grow ht h
def FewF (fs : List FrC) : Prop := ∀ k ∈ fs, k.res.length ≤ 20
theorem labF_few {fs : List FrC} (h : FewF fs) : ∀ w ∈ fs.map labF, w.length ≤ 20 := fun w hw => by
  obtain ⟨k, hk, rfl⟩ := List.mem_map.1 hw
  unfold labF
  split
  · simp
  · exact h k hk
theorem stepF_grow {v : EnvD} {x : InstrD} {fs fs' : List FrC} {b : FrC} {rr : InstrD → List UInt8} (hr : (rr x).length ≤ 20) (hb : FewF (fs ++ [b])) (hF : ∀ g ∈ v.Funcs, g.R.length ≤ 20) (hS : ∀ g ∈ v.Sigs, g.R.length ≤ 20) (ht : (takesR x.Code).2.length ≤ 20)
    (h : stepF (·.Code) rr (plS v) x fs b = some fs') : FewF fs' ∧ hgtF fs' ≤ hgtF (fs ++ [b]) + 20 ∧ fs'.length ≤ fs.length + 2 := by
  have hbl : b.res.length ≤ 20 := hb b (by simp)
  have hfs : FewF fs := fun k hk => hb k (by simp [hk])
  rw [hgtF_snoc]
  unfold stepF at h
  split at h
  · split at h
    · simp only [Option.some.injEq] at h
      subst h
      rcases List.eq_nil_or_concat fs with rfl | ⟨gs, t, rfl⟩
      · exact ⟨fun k hk => by simp at hk, by simp [hgtF], by simp⟩
      · simp only [List.concat_eq_append, List.getLast?_append, List.getLast?_singleton, Option.some_or, List.dropLast_concat]
        refine ⟨fun k hk => ?_, ?_, by simp⟩
        · rcases List.mem_append.1 hk with hk | hk
          · exact hfs k (by simp [hk])
          · simp only [List.mem_singleton] at hk; subst hk; exact hfs t (by simp)
        · rw [hgtF_snoc, hgtF_snoc]; simp only [giveS_len]; omega
    · cases h
  split at h
  · split at h
    · simp only [Option.some.injEq] at h
      subst h
      refine ⟨fun k hk => ?_, ?_, by simp⟩
      · rcases List.mem_append.1 hk with hk | hk
        · exact hfs k hk
        · simp only [List.mem_singleton] at hk; subst hk; exact hbl
      · rw [hgtF_snoc]; simp only [List.length_nil]; omega
    · cases h
  split at h
  · obtain ⟨s, h1, rfl⟩ := Option.map_eq_some_iff.1 h
    have hs : s.1.length ≤ b.st.1.length := by
      split at h1
      · exact tks_le h1
      · cases h1; exact Nat.le_refl _
    refine ⟨fun k hk => ?_, ?_, by simp⟩
    · rcases List.mem_append.1 hk with hk | hk
      · rcases List.mem_append.1 hk with hk | hk
        · exact hfs k hk
        · simp only [List.mem_singleton] at hk; subst hk; exact hbl
      · simp only [List.mem_singleton] at hk; subst hk; exact hr
    · rw [hgtF_snoc, hgtF_snoc]; simp only [List.length_nil]; omega
  · obtain ⟨s, h1, rfl⟩ := Option.map_eq_some_iff.1 h
    have hs := plS_grow (labF_few hb) hF hS ht h1
    refine ⟨fun k hk => ?_, ?_, by simp⟩
    · rcases List.mem_append.1 hk with hk | hk
      · exact hfs k hk
      · simp only [List.mem_singleton] at hk; subst hk; exact hbl
    · rw [hgtF_snoc]; simp only; omega
end Go.Hl
end
section
namespace Go.Hl
open Go.RowKit
def encInfoP (x : InfoD) (g : SB) : List VP := [intV .i64 x.Code, strV x.Name, intV .i64 x.Form, exactV (sval g x.Takes.length), sliceV 1 encU8 x.Gives]
instance (x : InfoD) (g : SB) : FlatL (encInfoP x g) := ⟨fun q h => by simp only [encInfoP, List.mem_cons, List.not_mem_nil, or_false] at h; rcases h with h | h | h | h | h <;> subst h <;> infer_instance⟩
theorem takes_8 {c : Int} (h : formR c = 8) : ∃ t tl, (takesR c).1 = t :: tl := by
  have hc : 40 ≤ c ∧ c ≤ 62 := by
    unfold formR at h
    repeat' split at h
    all_goals first | omega | assumption
  unfold takesR
  rw [if_neg (by omega)]
  by_cases h1 : c = 40 ∨ 44 ≤ c ∧ c ≤ 47
  · rw [if_pos h1]; exact ⟨_, _, rfl⟩
  rw [if_neg h1]
  by_cases h2 : c = 41 ∨ 48 ≤ c ∧ c ≤ 53
  · rw [if_pos h2]; exact ⟨_, _, rfl⟩
  rw [if_neg h2]
  by_cases h3 : (c = 54 ∨ c = 58) ∨ c = 59
  · rw [if_pos h3]; exact ⟨_, _, rfl⟩
  rw [if_neg h3, if_pos hc.2]
  exact ⟨_, _, rfl⟩
theorem pow_fit {a : Int} (h : a < 8) : IntKind.i64.wrap (1 * 2 ^ a.toNat) = 2 ^ a.toNat := by
  have : a.toNat = 0 ∨ a.toNat = 1 ∨ a.toNat = 2 ∨ a.toNat = 3 ∨ a.toNat = 4 ∨ a.toNat = 5 ∨ a.toNat = 6 ∨ a.toNat = 7 := by omega
  rcases this with h | h | h | h | h | h | h | h <;> rw [h] <;> decide
theorem pow_big {a : Int} (h : ¬ a < 8) : (256 : Int) ≤ 2 ^ a.toNat := by
  have h8 : 8 ≤ a.toNat := by omega
  have h9 : 2 ^ 8 ≤ 2 ^ a.toNat := Nat.pow_le_pow_right (by decide) h8
  have : ((2 ^ a.toNat : Nat) : Int) = 2 ^ a.toNat := by simp
  omega
theorem widthR_le (c : Int) : widthR c ≤ 8 := by unfold widthR; repeat (first | split | omega)
theorem width_ok {x : InstrD} : (x.Align < 8 ∧ 2 ^ x.Align.toNat ≤ (widthO x.Code).getD 0) ↔ ¬ widthR x.Code < 2 ^ x.Align.toNat := by
  rw [(width_iff x.Code).1]
  constructor
  · rintro ⟨h1, h2⟩; omega
  · intro h
    refine ⟨Classical.byContradiction fun h8 => ?_, by omega⟩
    have := pow_big h8
    have := widthR_le x.Code
    omega
abbrev CkT := SB × SB × List UInt8 × List BkD
abbrev ckZ (cb : Nat) (m : ModD) (f : FuncD) (z : CkT) : List HP := ckG cb m f z.1 z.2.1 z.2.2.1 z.2.2.2
def stepP (m : ModD) (f : FuncD) (x : InstrD) (fs : List FrC) (b : FrC) (z : CkT) : Prop := ∃ fs', stepX m f x fs b = some fs' ∧ StOf fs' z.2.2.1 z.2.2.2
theorem stepP_top {m : ModD} {f : FuncD} {x : InstrD} {fs : List FrC} {b : FrC} {gs gb : SB} {s : Stk} (h11 : x.Code ≠ 11) (h5 : x.Code ≠ 5) (ho : ¬ opensC x.Code) (h : plS (envD m f) x b.st ((fs ++ [b]).map labF) = some s) :
    stepP m f x fs b (gs, gb, stkF fs ++ s.1, bksF fs ++ [bkF (stkF fs).length b s]) := ⟨_, by rw [stepX_pl h11 h5 ho, h]; rfl, stOf_top fs b s⟩
theorem stepX_pl_no {m : ModD} {f : FuncD} {x : InstrD} {fs : List FrC} {b : FrC} (h11 : x.Code ≠ 11) (h5 : x.Code ≠ 5) (ho : ¬ opensC x.Code) (h : plS (envD m f) x b.st ((fs ++ [b]).map labF) = none) : stepX m f x fs b = none := by rw [stepX_pl h11 h5 ho, h]; rfl
theorem few_lab {fs : List FrC} {n : Int} {w : List UInt8} (h : FewF fs) (hw : labAt (fs.map labF) n = some w) : w.length ≤ 20 := labF_few h w (labAt_mem hw)
end Go.Hl
end
section
namespace Go.Hl
def bareI (x : InstrD) : Prop := x.Align = 0 ∧ x.L = []
def rightF (x : InstrD) (f : Int) : Prop :=
  (f = 0 ∧ x.A = 0 ∧ x.B = 0 ∧ bareI x) ∨ (f = 1 ∧ (x.A = 64 ∨ x.A = 127 ∨ x.A = 126) ∧ x.B = 0 ∧ bareI x) ∨
  ((f = 2 ∨ f = 4 ∨ f = 6 ∨ f = 7 ∨ f = 9) ∧ sml x.A ∧ x.B = 0 ∧ bareI x) ∨
  (f = 3 ∧ sml x.A ∧ (∀ n ∈ x.L, sml n) ∧ x.L.length ≤ 100 ∧ x.B = 0 ∧ x.Align = 0) ∨
  ((f = 5 ∨ f = 10) ∧ sml x.A ∧ sml x.B ∧ bareI x) ∨ (f = 8 ∧ sml x.A ∧ 0 ≤ x.Align ∧ x.Align ≤ 31 ∧ x.L = []) ∨
  (f = 11 ∧ (x.Code = 66 ∨ sml x.A) ∧ x.B = 0 ∧ bareI x)
theorem rightI_form {x : InstrD} (hA : 0 ≤ x.A) (hB : 0 ≤ x.B) (hf : 0 ≤ formR x.Code ∧ formR x.Code ≤ 11) (h66 : formR x.Code = 11 → x.Code = 65 ∨ x.Code = 66) (h65 : x.Code = 65 → formR x.Code = 11) :
    rightI x ↔ nameR x.Code ≠ [] ∧ rightF x (formR x.Code) := by
  unfold rightI rightF bareI
  generalize formR x.Code = f at *
  refine and_congr_right fun _ => ?_
  simp only [sml]
  have hL : x.L = [] → ∀ n ∈ x.L, n ≤ 4294967295 := fun e n h => by rw [e] at h; cases h
  obtain ⟨h0, h1⟩ := hf
  have hc : f = 0 ∨ f = 1 ∨ f = 2 ∨ f = 3 ∨ f = 4 ∨ f = 5 ∨ f = 6 ∨ f = 7 ∨ f = 8 ∨ f = 9 ∨ f = 10 ∨ f = 11 := by omega
  generalize hQ : (∀ n ∈ x.L, n ≤ 4294967295) = Q at *
  generalize hE : (x.L = []) = E at *
  have hlen : E → x.L.length ≤ 100 := fun h => by rw [← hE] at h; simp [h]
  rcases hc with rfl | rfl | rfl | rfl | rfl | rfl | rfl | rfl | rfl | rfl | rfl | rfl <;> simp at h65 h66 ⊢ <;> (by_cases e : E <;> by_cases q : Q <;> simp [e, q] at hL hlen ⊢) <;> omega
end Go.Hl
end
section
namespace Go.Hl
def runStep (out : List (Nat × UInt8)) (t : UInt8) : List (Nat × UInt8) :=
  match out.getLast? with
  | none => [(1, t)]
  | some p => if p.2 = t then out.dropLast ++ [(p.1 + 1, t)] else out ++ [(1, t)]
theorem runStep_snoc (o : List (Nat × UInt8)) (n : Nat) (t t' : UInt8) : runStep (o ++ [(n, t)]) t' = o ++ runStep [(n, t)] t' := by
  simp only [runStep, List.getLast?_append, List.getLast?_singleton, Option.some_or]
  split <;> simp_all
theorem runs_snoc (l : List UInt8) : ∀ (o : List (Nat × UInt8)) (n : Nat) (t : UInt8), l.foldl runStep (o ++ [(n, t)]) = o ++ l.foldl runStep [(n, t)] := by
  induction l with
  | nil => intros; rfl
  | cons a l ih =>
    intro o n t
    simp only [List.foldl_cons, runStep_snoc]
    by_cases h : t = a
    · subst h
      have e : runStep [(n, t)] t = [(n + 1, t)] := by simp [runStep]
      rw [e, ih]
    · have e : runStep [(n, t)] a = [(n, t)] ++ [(1, a)] := by simp [runStep, h]
      rw [e, ih [(n, t)] 1 a, ← List.append_assoc, ih (o ++ [(n, t)]) 1 a, List.append_assoc]
theorem runsB_ne (t : UInt8) (l : List UInt8) : ∃ n r, runsB (t :: l) = (n + 1) :: r := by
  simp only [runsB]
  split
  · split
    · exact ⟨_, _, rfl⟩
    · exact ⟨0, _, rfl⟩
  · exact ⟨0, [], rfl⟩
theorem runs_map (l : List UInt8) : ∀ (n : Nat) (t : UInt8) (k : Nat) (r : List Nat), runsB (t :: l) = (k + 1) :: r → (l.foldl runStep [(n, t)]).map Prod.fst = (n + k) :: r := by
  induction l with
  | nil => intro n t k r h; simp [runsB] at h; obtain ⟨rfl, rfl⟩ := h; simp
  | cons a l ih =>
    intro n t k r h
    obtain ⟨n2, r2, e2⟩ := runsB_ne a l
    have h' : runsB (t :: a :: l) = if a = t then (n2 + 1 + 1) :: r2 else 1 :: (n2 + 1) :: r2 := by
      rw [runsB]; simp only [e2]
    rw [h'] at h
    simp only [List.foldl_cons]
    by_cases e : a = t
    · subst e
      simp only [if_true, List.cons.injEq] at h
      have e3 : runStep [(n, a)] a = [(n + 1, a)] := by simp [runStep]
      rw [e3, ih (n + 1) a n2 r2 e2]
      obtain ⟨h1, rfl⟩ := h
      congr 1; omega
    · simp only [e, if_false, List.cons.injEq] at h
      have e3 : runStep [(n, t)] a = [(n, t)] ++ [(1, a)] := by simp [runStep, Ne.symm e]
      rw [e3, runs_snoc, List.map_append, ih 1 a n2 r2 e2]
      obtain ⟨h1, rfl⟩ := h
      simp; omega
theorem runs_eq (l : List UInt8) : (l.foldl runStep []).map Prod.fst = runsB l := by
  cases l with
  | nil => rfl
  | cons t l =>
    obtain ⟨n, r, e⟩ := runsB_ne t l
    have : runStep [] t = [(1, t)] := rfl
    rw [List.foldl_cons, this, runs_map l 1 t n r e, e]; congr 1; omega
end Go.Hl
end
section
namespace Go.Hl
open Go.RowKit
theorem wrp8 (n : Int) (h0 : 0 ≤ n) (h1 : n < 2 ^ 8) : IntKind.u8.wrap n = n := wrap_fits (fits_u8 h0 (by omega))
section
variable {P : Program} {hs : List HP} {env : Env} {q : VP} {dst : Option Tmp} {ty T T2 T' E : TypeId} {pos : String} {after : Array Edge} {gd : Option (Nat × Bool)} {x y z : Operand}
theorem opAnd_u8 {a b : Nat} (ha : a < 256) (hb : b < 256) (hx : Opd env x (intV .u8 (a : Int))) (hy : Opd env y (intV .u8 (b : Int))) : OpP P hs env ⟨dst, .binOp .and T x y T', ty, pos, after, gd⟩ (intV .u8 ((a &&& b : Nat) : Int)) :=
  OpP.of_read fun ρ w S F _ he => by
    have h1 := he.o _ _ hx; have h2 := he.o _ _ hy; simp only [exactV] at h1 h2
    exact ⟨.int .u8 ((a &&& b : Nat) : Int), by simp [execOp, h1, h2, go_sem, (bits_nat .u8 8 (by decide) wrp8 a b (by omega) (by omega)).1], rfl⟩
theorem opOr_u8 {a b : Nat} (ha : a < 256) (hb : b < 256) (hx : Opd env x (intV .u8 (a : Int))) (hy : Opd env y (intV .u8 (b : Int))) : OpP P hs env ⟨dst, .binOp .or T x y T', ty, pos, after, gd⟩ (intV .u8 ((a ||| b : Nat) : Int)) :=
  OpP.of_read fun ρ w S F _ he => by
    have h1 := he.o _ _ hx; have h2 := he.o _ _ hy; simp only [exactV] at h1 h2
    exact ⟨.int .u8 ((a ||| b : Nat) : Int), by simp [execOp, h1, h2, go_sem, (bits_nat .u8 8 (by decide) wrp8 a b (by omega) (by omega)).2], rfl⟩
theorem bits_turn {n : Int} (h1 : -9223372036854775808 ≤ n) (h2 : n ≤ 9223372036854775807) : bits .xor .i64 (-1) n = -n - 1 := by
  have e : BitVec.ofInt 64 (-1) ^^^ BitVec.ofInt 64 n = ~~~ (BitVec.ofInt 64 n) := by rw [show BitVec.ofInt 64 (-1) = BitVec.allOnes 64 from by decide, BitVec.allOnes_xor]
  show IntKind.i64.wrap ((BitVec.ofInt 64 (-1) ^^^ BitVec.ofInt 64 n).toNat : Int) = -n - 1
  rw [e, BitVec.toNat_not, BitVec.toNat_ofInt]
  unfold IntKind.wrap
  simp only [IntKind.signed, IntKind.bits]
  simp
  omega
theorem opNot_i64 {n : Int} (h1 : -9223372036854775808 ≤ n) (h2 : n ≤ 9223372036854775807) (hx : Opd env x (intV .i64 n)) : OpP P hs env ⟨dst, .unOp .xor T x, ty, pos, after, gd⟩ (intV .i64 (-n - 1)) :=
  OpP.of_read fun ρ w S F _ he => by
    have h3 := he.o _ _ hx; simp only [exactV] at h3
    exact ⟨.int .i64 (-n - 1), by simp [execOp, h3, go_sem, bits_turn h1 h2, show IntKind.i64.signed = true from rfl], rfl⟩
end
theorem u8_wr (n : Int) : IntKind.u8.wrap n = ((n % 256).toNat : Int) := by
  unfold IntKind.wrap
  simp [IntKind.signed, IntKind.bits]
  omega
theorem an127 (k : Nat) : k &&& 127 < 256 := Nat.lt_of_le_of_lt Nat.and_le_right (by decide)
theorem or_128 {k : Nat} (h : k < 256) : k ||| 128 < 256 := Nat.or_lt_two_pow (n := 8) h (by decide)
theorem u8_nt {k : Nat} (h : k < 256) : VLe (intV .u8 (k : Int)) (intV .u8 ((UInt8.ofNat k).toNat : Int)) := VLe.int (by simp; omega)
theorem bl_bits (a : Nat) : blN a = btL a := rfl
theorem lenS_at (n : Int) : lenS n = (blN (if n < 0 then (-n - 1).toNat else n.toNat) + 7) / 7 := lenS_bits n.natAbs n (Nat.le_refl _)
theorem bl_64 {a : Nat} (h : a < 18446744073709551616) : blN a ≤ 64 := by rw [bl_bits]; exact btL_lt (k := 64) h
def formI (x : InstrD) : Int := (findI x.Code).elim (-1) (·.Form)
theorem formI_none {x : InstrD} (h : findI x.Code = none) : formI x = -1 ∧ nameR x.Code = [] := by unfold formI; rw [h]; exact ⟨rfl, find_none_of h⟩
theorem formI_some {x : InstrD} {i : InfoD} (h : findI x.Code = some i) : formI x = formR x.Code ∧ nameR x.Code ≠ [] := by
  unfold formI; rw [h]; have := find_some_of h; exact ⟨this.2.2.2.1, this.2.2.1⟩
theorem form_bound (c : Int) : 0 ≤ formR c ∧ formR c ≤ 11 := by unfold formR; repeat (first | split | omega)
theorem form_11 {c : Int} (h : formR c = 11) : c = 65 ∨ c = 66 := by
  unfold formR at h
  repeat' split at h
  all_goals omega
theorem right_at {x : InstrD} (hA : 0 ≤ x.A) (hB : 0 ≤ x.B) : rightI x ↔ rightF x (formI x) := by
  rw [rightI_form hA hB (form_bound _) (fun h => form_11 h) (fun h => by rw [h]; decide)]
  cases hf : findI x.Code with
  | none =>
    obtain ⟨h1, h2⟩ := formI_none hf
    rw [h1, h2]
    constructor
    · rintro ⟨h, _⟩; exact absurd rfl h
    · intro h; unfold rightF at h; omega
  | some i =>
    obtain ⟨h1, h2⟩ := formI_some hf
    rw [h1]
    exact ⟨fun h => h.2, fun h => ⟨h2, h⟩⟩
theorem right_form {x : InstrD} (hA : 0 ≤ x.A) (hB : 0 ≤ x.B) (h : rightI x) : formI x = formR x.Code ∧ nameR x.Code ≠ [] := by
  cases hf : findI x.Code with
  | none => exact absurd (formI_none hf).2 h.1
  | some i => exact formI_some hf
theorem code_in {c : Int} (h : nameR c ≠ []) : 0 ≤ c ∧ c ≤ 196 ∨ 64522 ≤ c ∧ c ≤ 64523 := by
  by_cases h2 : c < 0 ∨ 196 < c ∧ c < 64522 ∨ 64523 < c
  · exact absurd (find_none_of (find_out h2)) h
  · omega
end Go.Hl
namespace Go.Hl
def sumU (l : List Int) : Nat := (l.map lenUI).sum
theorem sumU_snoc (l : List Int) (n : Int) : sumU (l ++ [n]) = sumU l + lenUI n := by simp [sumU]
theorem sumU_le : ∀ (l : List Int), (∀ n ∈ l, 0 ≤ n ∧ n < 18446744073709551616) → sumU l ≤ 10 * l.length
  | [], _ => by simp [sumU]
  | n :: l, h => by
    have h1 := sumU_le l (fun m hm => h m (List.mem_cons_of_mem _ hm))
    have h2 := h n (List.mem_cons_self ..)
    have h3 : lenUI n ≤ 10 := lenU_64 (by omega)
    simp only [sumU, List.map_cons, List.sum_cons, List.length_cons] at h1 ⊢
    omega
def headN (x : InstrD) : Nat := if 64512 ≤ x.Code then 1 + lenUI (x.Code - 64512) else 1
def wordV (x : InstrD) : Int := if x.Code = 65 then (if x.A < 2147483648 then x.A else x.A - 4294967296) else (if x.A < 9223372036854775808 then x.A else x.A - 18446744073709551616)
def memN (x : InstrD) : Nat := (if x.A = 0 then lenUI x.Align else lenUI (x.Align + 64) + lenUI x.A) + lenUI x.B
theorem lenI_eq (x : InstrD) : lenI x = headN x + (if formR x.Code = 1 then 1
   else if formR x.Code = 2 ∨ formR x.Code = 4 ∨ formR x.Code = 6 ∨ formR x.Code = 7 ∨ formR x.Code = 9 then lenUI x.A
   else if formR x.Code = 3 then lenU x.L.length + sumU x.L + lenUI x.A
   else if formR x.Code = 5 ∨ formR x.Code = 10 then lenUI x.A + lenUI x.B
   else if formR x.Code = 8 then memN x
   else if formR x.Code = 11 then lenS (wordV x) else 0) := rfl
theorem wrap_64 {a : Int} (h0 : 0 ≤ a) (h1 : a < 18446744073709551616) : IntKind.i64.wrap a = if a < 9223372036854775808 then a else a - 18446744073709551616 := by
  by_cases h : a < 9223372036854775808
  · rw [if_pos h]; unfold IntKind.wrap; simp only [IntKind.signed, IntKind.bits]; simp; omega
  · rw [if_neg h]; unfold IntKind.wrap; simp only [IntKind.signed, IntKind.bits]; simp; omega
theorem wrap_32 {a : Int} (h0 : 0 ≤ a) (h1 : a ≤ 4294967295) : IntKind.i32.wrap a = if a < 2147483648 then a else a - 4294967296 := by
  by_cases h : a < 2147483648
  · rw [if_pos h]; unfold IntKind.wrap; simp only [IntKind.signed, IntKind.bits]; simp; omega
  · rw [if_neg h]; unfold IntKind.wrap; simp only [IntKind.signed, IntKind.bits]; simp; omega
end Go.Hl
end
section
namespace Go.Hl
open Go.RowKit
abbrev SpD := Int × Int × Int
def encSpan3 (s : SpD) : List VP := [intV .i64 s.1, intV .i64 s.2.1, intV .i64 s.2.2]
instance : Enc 3 encSpan3 := ⟨fun _ => rfl, fun x q h => by simp only [encSpan3, List.mem_cons, List.not_mem_nil, or_false] at h; rcases h with h | h | h <;> rw [h] <;> infer_instance⟩
instance (x : SpD) : FlatL (encSpan3 x) := FlatL.of x
def encNt (n : Nat) : List VP := [intV .i64 (n : Int)]
instance : Enc 1 encNt := ⟨fun _ => rfl, fun x q h => by simp only [encNt, List.mem_cons, List.not_mem_nil, or_false] at h; rw [h]; infer_instance⟩
instance (x : Nat) : FlatL (encNt x) := FlatL.of x
def encRun (r : Nat × UInt8) : List VP := [intV .i64 (r.1 : Int), intV .u8 (r.2.toNat : Int)]
instance : Enc 2 encRun := ⟨fun _ => rfl, fun x q h => by simp only [encRun, List.mem_cons, List.not_mem_nil, or_false] at h; rcases h with h | h <;> rw [h] <;> infer_instance⟩
instance (x : Nat × UInt8) : FlatL (encRun x) := FlatL.of x
structure NsT where
  gp : SB
  go : SB
  sp : List SpD
  op : List Nat
  cl : Prop
  dp : Int
abbrev nsH (nb : Nat) (l : List InstrD) (z : NsT) : List HP := [cellsH nb [sliceV 5 encInstr l, exactV (sval z.gp z.sp.length), exactV (sval z.go z.op.length), propV z.cl, intV .i64 z.dp], sliceH z.gp 3 encSpan3 z.sp, sliceH z.go 1 encNt z.op]
def relS (l : List InstrD) (sp : List SpD) (p : Nat) (ce : Int × Bool) : Prop := ∃ (i : Nat) (el en : Int) (x : InstrD), sp[p]? = some ((i : Int), el, en) ∧ l[i]? = some x ∧ x.Code = ce.1 ∧ (ce.2 = true ↔ el ≠ -1)
structure NestR (l : List InstrD) (sp : List SpD) (op : List Nat) (rs : List (Int × Bool)) : Prop where
  len : op.length = rs.length
  inc : op.Pairwise (· < ·)
  rel : ∀ (k p : Nat) (ce : Int × Bool), op[k]? = some p → rs[k]? = some ce → relS l sp p ce
theorem NestR.nil (l : List InstrD) (sp : List SpD) : NestR l sp [] [] := ⟨rfl, List.Pairwise.nil, fun k p ce h => by simp at h⟩
theorem NestR.at_ {l : List InstrD} {sp : List SpD} {op : List Nat} {rs : List (Int × Bool)} (h : NestR l sp op rs) {p : Nat} (hp : p ∈ op) : ∃ ce, relS l sp p ce := by
  obtain ⟨k, hk⟩ := List.mem_iff_getElem?.1 hp
  have hl : k < rs.length := by have := (List.getElem?_eq_some_iff.1 hk).1; rw [h.len] at this; exact this
  exact ⟨_, h.rel k p _ hk (List.getElem?_eq_getElem hl)⟩
theorem relS.lt {l : List InstrD} {sp : List SpD} {p : Nat} {ce : Int × Bool} (h : relS l sp p ce) : p < sp.length := by
  obtain ⟨_, _, _, _, h1, _⟩ := h; exact (List.getElem?_eq_some_iff.1 h1).1
theorem NestR.begin {l : List InstrD} {sp : List SpD} {op : List Nat} {rs : List (Int × Bool)} (h : NestR l sp op rs) {i : Nat} {x : InstrD} (hx : l[i]? = some x) : NestR l (sp ++ [((i : Int), -1, -1)]) (op ++ [sp.length]) (rs ++ [(x.Code, false)]) := by
  refine ⟨by simp [h.len], ?_, fun k p ce hk hr => ?_⟩
  · rw [List.pairwise_append]
    refine ⟨h.inc, List.pairwise_singleton _ _, fun a ha b hb => ?_⟩
    simp only [List.mem_singleton] at hb; subst hb
    obtain ⟨ce, hce⟩ := h.at_ ha
    exact hce.lt
  · by_cases hkl : k < op.length
    · rw [List.getElem?_append_left hkl] at hk
      rw [List.getElem?_append_left (by rw [← h.len]; exact hkl)] at hr
      obtain ⟨j, el, en, y, h1, h2, h3, h4⟩ := h.rel k p ce hk hr
      exact ⟨j, el, en, y, by rw [List.getElem?_append_left (List.getElem?_eq_some_iff.1 h1).1]; exact h1, h2, h3, h4⟩
    · rw [List.getElem?_append_right (by omega)] at hk
      rw [List.getElem?_append_right (by rw [← h.len]; omega)] at hr
      have hk0 : k - op.length = 0 := by
        have := (List.getElem?_eq_some_iff.1 hk).1; simp at this; omega
      rw [hk0] at hk
      rw [← h.len, hk0] at hr
      simp at hk hr
      subst hk; subst hr
      exact ⟨i, -1, -1, x, by simp, hx, rfl, by simp⟩
theorem snoc_at {α : Type} {o : List α} {p : α} : (o ++ [p])[o.length]? = some p := by simp
theorem NestR.top {l : List InstrD} {sp : List SpD} {o : List Nat} {p : Nat} {rs : List (Int × Bool)} {ce : Int × Bool} (h : NestR l sp (o ++ [p]) (rs ++ [ce])) : relS l sp p ce := by
  have hl : o.length = rs.length := by have := h.len; simp at this; exact this
  exact h.rel o.length p ce snoc_at (by rw [hl]; exact snoc_at)
theorem NestR.not_in {l : List InstrD} {sp : List SpD} {o : List Nat} {p : Nat} {rs : List (Int × Bool)} (h : NestR l sp (o ++ [p]) rs) : p ∉ o := fun hp => by
  have := (List.pairwise_append.1 h.inc).2.2 p hp p (by simp)
  omega
theorem relS.set {l : List InstrD} {sp : List SpD} {p q : Nat} {s : SpD} {ce : Int × Bool} (h : relS l sp q ce) (hne : q ≠ p) : relS l (sp.set p s) q ce := by
  obtain ⟨j, el, en, y, h1, h2⟩ := h
  exact ⟨j, el, en, y, by rw [List.getElem?_set_ne (by omega)]; exact h1, h2⟩
theorem NestR.pop {l : List InstrD} {sp : List SpD} {o : List Nat} {p : Nat} {rs : List (Int × Bool)} {ce : Int × Bool} (h : NestR l sp (o ++ [p]) (rs ++ [ce])) (s : SpD) : NestR l (sp.set p s) o rs := by
  have hl : o.length = rs.length := by have := h.len; simp at this; exact this
  refine ⟨hl, (List.pairwise_append.1 h.inc).1, fun k q c hk hr => ?_⟩
  have hq : q ∈ o := List.mem_of_getElem? hk
  refine (h.rel k q c ?_ ?_).set (fun e => h.not_in (e ▸ hq))
  · rw [List.getElem?_append_left (List.getElem?_eq_some_iff.1 hk).1]; exact hk
  · rw [List.getElem?_append_left (List.getElem?_eq_some_iff.1 hr).1]; exact hr
theorem NestR.other {l : List InstrD} {sp : List SpD} {o : List Nat} {p : Nat} {rs : List (Int × Bool)} {c : Int} {e : Bool} (h : NestR l sp (o ++ [p]) (rs ++ [(c, e)])) {i : Nat} {el en : Int} {x : InstrD} (hs : sp[p]? = some ((i : Int), el, en)) (hx : l[i]? = some x) (hc : x.Code = c) {j : Nat} :
    NestR l (sp.set p ((i : Int), (j : Int), en)) (o ++ [p]) (rs ++ [(c, true)]) := by
  have hl : o.length = rs.length := by have := h.len; simp at this; exact this
  have hpop := h.pop ((i : Int), (j : Int), en)
  refine ⟨by simp [hl], h.inc, fun k q ce hk hr => ?_⟩
  by_cases hkl : k < o.length
  · rw [List.getElem?_append_left hkl] at hk
    rw [List.getElem?_append_left (by omega)] at hr
    exact hpop.rel k q ce hk hr
  · rw [List.getElem?_append_right (by omega)] at hk
    rw [List.getElem?_append_right (by omega)] at hr
    have hk0 : k - o.length = 0 := by
      have := (List.getElem?_eq_some_iff.1 hk).1; simp at this; omega
    rw [hk0] at hk
    rw [← hl, hk0] at hr
    simp at hk hr
    subst hk; subst hr
    exact ⟨i, j, en, x, by rw [List.getElem?_set_self (List.getElem?_eq_some_iff.1 hs).1], hx, hc, by simp⟩
def nrunC (cl : Prop) (rs : List (Int × Bool)) (r : List Int) : Prop := (cl ∧ r = []) ∨ (¬ cl ∧ nrun r rs.reverse)
theorem nrunC_open {rs : List (Int × Bool)} {c : Int} {r : List Int} (h : opensC c) (hl : rs.length ≠ 64) (hb : rs.length ≤ 64) : nrunC False rs (c :: r) ↔ nrunC False (rs ++ [(c, false)]) r := by
  simp only [nrunC, false_and, not_false_eq_true, true_and, false_or, List.reverse_append, List.reverse_cons, List.reverse_nil, List.nil_append, List.singleton_append]
  rw [nrun_cons, if_pos h]
  simp only [List.length_reverse]
  exact ⟨fun h => h.2, fun h => ⟨by omega, h⟩⟩
theorem nrunC_deep {rs : List (Int × Bool)} {c : Int} {r : List Int} (h : opensC c) (hl : rs.length = 64) : ¬ nrunC False rs (c :: r) := by
  simp only [nrunC, false_and, not_false_eq_true, true_and, false_or]
  rw [nrun_cons, if_pos h]
  simp only [List.length_reverse]
  omega
theorem nrunC_else_no {r : List Int} : ¬ nrunC False [] (5 :: r) := by
  simp only [nrunC, false_and, not_false_eq_true, true_and, false_or, List.reverse_nil]
  rw [nrun_cons]; simp [opensC]
theorem nrunC_else {rs : List (Int × Bool)} {b : Int} {e : Bool} {r : List Int} : nrunC False (rs ++ [(b, e)]) (5 :: r) ↔ (b = 4 ∧ e = false) ∧ nrunC False (rs ++ [(b, true)]) r := by
  simp only [nrunC, false_and, not_false_eq_true, true_and, false_or, List.reverse_append, List.reverse_cons, List.reverse_nil, List.nil_append, List.singleton_append]
  rw [nrun_cons]; simp [opensC]
theorem nrunC_end_last {r : List Int} : nrunC False [] (11 :: r) ↔ nrunC True [] r := by
  simp only [nrunC, false_and, not_false_eq_true, true_and, false_or, not_true_eq_false, or_false, List.reverse_nil]
  rw [nrun_cons]; simp [opensC]
theorem nrunC_end {rs : List (Int × Bool)} {ce : Int × Bool} {r : List Int} : nrunC False (rs ++ [ce]) (11 :: r) ↔ nrunC False rs r := by
  simp only [nrunC, false_and, not_false_eq_true, true_and, false_or, List.reverse_append, List.reverse_cons, List.reverse_nil, List.nil_append, List.singleton_append]
  rw [nrun_cons]; simp [opensC]
theorem nrunC_plain {rs : List (Int × Bool)} {c : Int} {r : List Int} (h1 : ¬ opensC c) (h2 : c ≠ 5) (h3 : c ≠ 11) : nrunC False rs (c :: r) ↔ nrunC False rs r := by
  simp only [nrunC, false_and, not_false_eq_true, true_and, false_or]
  rw [nrun_cons, if_neg h1, if_neg h2, if_neg h3]
theorem nrunC_closed {rs : List (Int × Bool)} {c : Int} {r : List Int} : ¬ nrunC True rs (c :: r) := by simp [nrunC]
theorem nrunC_nil {cl : Prop} {rs : List (Int × Bool)} : nrunC cl rs [] ↔ cl := by simp [nrunC, nrun]
def nsP (l : List InstrD) (cl : Prop) (rs : List (Int × Bool)) (c : Int) (m : Nat) (e : Int) (z : NsT) : Prop :=
  (e = 0 ∧ z.sp.length ≤ m ∧ z.op.length ≤ 64 ∧ ∃ rs', NestR l z.sp z.op rs' ∧ ∀ r, nrunC cl rs (c :: r) ↔ nrunC z.cl rs' r) ∨ (e ≠ 0 ∧ ∀ r, ¬ nrunC cl rs (c :: r))
theorem nil_two {α β : Type} {n k : Nat} {e1 : α → List VP} {e2 : β → List VP} {r : List HP} : OLe r (sliceH none n e1 [] :: sliceH none k e2 [] :: r) := fun F S w h =>
  ⟨fun _ => False, F, fun _ h => h.elim, fun _ h => h, rfl, fun _ => False, F, fun _ h => h.elim, fun _ h => h, rfl, h⟩
end Go.Hl
end
section
namespace Go.Hl
theorem runStep_nil (t : UInt8) : runStep [] t = [(1, t)] := rfl
theorem runStep_same (m : List (Nat × UInt8)) (n : Nat) (t : UInt8) : runStep (m ++ [(n, t)]) t = m ++ [(n + 1, t)] := by rw [runStep_snoc]; simp [runStep]
theorem runStep_other (m : List (Nat × UInt8)) (n : Nat) {t t' : UInt8} (h : ¬ t = t') : runStep (m ++ [(n, t)]) t' = (m ++ [(n, t)]) ++ [(1, t')] := by rw [runStep_snoc]; simp [runStep, h]
theorem foldl_take {l : List UInt8} {k : Nat} {t : UInt8} (h : l[k]? = some t) : (l.take (k + 1)).foldl runStep [] = runStep ((l.take k).foldl runStep []) t := by
  rw [← take_snoc h, List.foldl_append]; rfl
theorem runStep_le {o : List (Nat × UInt8)} {t : UInt8} {M : Nat} (h : ∀ p ∈ o, p.1 ≤ M) : (∀ p ∈ runStep o t, p.1 ≤ M + 1) ∧ (runStep o t).length ≤ o.length + 1 := by
  rcases List.eq_nil_or_concat o with rfl | ⟨m, ⟨n, t'⟩, rfl⟩
  · simp [runStep_nil]
  · rw [List.concat_eq_append] at h ⊢
    by_cases e : t' = t
    · subst e
      rw [runStep_same]
      refine ⟨fun p hp => ?_, by simp⟩
      rcases List.mem_append.1 hp with hp | hp
      · have := h p (by simp [hp]); omega
      · simp only [List.mem_singleton] at hp; subst hp
        have := h (n, t') (by simp); simp only at this ⊢; omega
    · rw [runStep_other _ _ e]
      refine ⟨fun p hp => ?_, by simp⟩
      rcases List.mem_append.1 hp with hp | hp
      · have := h p hp; omega
      · simp only [List.mem_singleton] at hp; subst hp; simp
theorem runs_le : ∀ (l : List UInt8) (o : List (Nat × UInt8)) (M : Nat), (∀ p ∈ o, p.1 ≤ M) → (∀ p ∈ l.foldl runStep o, p.1 ≤ M + l.length) ∧ (l.foldl runStep o).length ≤ o.length + l.length
  | [], o, M, h => ⟨by simpa using h, by simp⟩
  | t :: l, o, M, h => by
    obtain ⟨h1, h2⟩ := runStep_le (t := t) h
    obtain ⟨h3, h4⟩ := runs_le l _ _ h1
    simp only [List.foldl_cons, List.length_cons]
    exact ⟨fun p hp => by have := h3 p hp; omega, by omega⟩
theorem lenI_le {x : InstrD} (h : InsOk x) (r : rightI x) : lenI x ≤ 1100 := by
  obtain ⟨r1, r2, r3, r4, r5, r6⟩ := r
  have hL : x.L.length ≤ 100 := r6.elim (fun h => by rw [h]; simp) (fun h => h.2)
  have hA : lenUI x.A ≤ 10 := lenU_64 (by have := h.A0; have := h.A64; omega)
  have hB : lenUI x.B ≤ 10 := lenU_64 (by have := h.B0; have := h.B64; omega)
  have hs := sumU_le x.L (fun n hn => ⟨h.L0 n hn, by have h9 : n ≤ 4294967295 := r5 n hn; omega⟩)
  have hl : lenU x.L.length ≤ 10 := lenU_64 (by omega)
  have ha : lenUI x.Align ≤ 10 := lenU_64 (by have := h.a31; omega)
  have ha2 : lenUI (x.Align + 64) ≤ 10 := lenU_64 (by have := h.a31; omega)
  have hm : memN x ≤ 30 := by unfold memN; split <;> omega
  have h65 : x.Code = 65 → x.A ≤ 4294967295 := fun h65 => Classical.byContradiction fun h9 => r2 (.inr (.inl ⟨h65, h9⟩))
  have hw : lenS (wordV x) ≤ 10 := lenS_64 (by have := h.A0; have := h.A64; unfold wordV; (repeat split) <;> (try omega)) (by have := h.A0; have := h.A64; unfold wordV; split <;> (try have := h65 (by assumption)) <;> split <;> omega)
  have hh : headN x ≤ 11 := by
    unfold headN
    split
    · have : lenUI (x.Code - 64512) ≤ 10 := lenU_64 (by have := code_in r1; omega)
      omega
    · omega
  rw [lenI_eq]
  repeat (first | split | omega)
def sumI (l : List InstrD) : Nat := (l.map lenI).sum
theorem sumI_snoc (l : List InstrD) (x : InstrD) : sumI (l ++ [x]) = sumI l + lenI x := by simp [sumI]
theorem sumI_le : ∀ (l : List InstrD), (∀ x ∈ l, InsOk x ∧ rightI x) → sumI l ≤ 1100 * l.length
  | [], _ => by simp [sumI]
  | x :: l, h => by
    have h1 := sumI_le l (fun y hy => h y (List.mem_cons_of_mem _ hy))
    have h2 := h x (List.mem_cons_self ..)
    have h3 := lenI_le h2.1 h2.2
    simp only [sumI, List.map_cons, List.sum_cons, List.length_cons] at h1 ⊢
    omega
def sumR (r : List (Nat × UInt8)) : Nat := (r.map fun p => lenU p.1 + 1).sum
theorem sumR_snoc (r : List (Nat × UInt8)) (p : Nat × UInt8) : sumR (r ++ [p]) = sumR r + (lenU p.1 + 1) := by simp [sumR]
theorem sumR_le : ∀ (r : List (Nat × UInt8)), (∀ p ∈ r, p.1 ≤ 1000000) → sumR r ≤ 11 * r.length
  | [], _ => by simp [sumR]
  | p :: r, h => by
    have h1 := sumR_le r (fun q hq => h q (List.mem_cons_of_mem _ hq))
    have h2 := h p (List.mem_cons_self ..)
    have h3 : lenU p.1 ≤ 10 := lenU_64 (by omega)
    simp only [sumR, List.map_cons, List.sum_cons, List.length_cons] at h1 ⊢
    omega
theorem lenB_eq (b : BodyD) : lenB b = lenU (b.Locals.foldl runStep []).length + sumR (b.Locals.foldl runStep []) + sumI b.L := by
  unfold lenB sumR sumI
  rw [← runs_eq]
  simp [List.map_map, Function.comp_def]
theorem InsOk.of {x : InstrD} (h : InsOk0 x) (r : rightI x) : InsOk x where
  toInsOk0 := h
  A16 := fun e => by
    have hf : formR x.Code ≠ 11 := by rw [e]; decide
    have h1 := r.2.1
    have h2 : sml x.A := Classical.byContradiction fun h9 => h1 (.inl ⟨hf, h9⟩)
    have := h.A0
    unfold sml at h2; omega
  a0 := by have h1 := r.2.2.2.1; omega
  a31 := by have h1 := r.2.2.2.1; omega
structure BdOk (b : BodyD) : Prop where
  ins : ∀ x ∈ b.L, InsOk0 x
  len : b.L.length ≤ 10000
  loc : b.Locals.length ≤ 60000
end Go.Hl
end
section
namespace Go.Hl
open Go.RowKit
def nestK (rest : List InstrD) (fs : List FrC) : Prop := (fs = [] ∧ rest = []) ∨ ∃ st : List (Int × Bool), st.length + 1 = fs.length ∧ nrun (rest.map (·.Code)) st
theorem nestK_ne {x : InstrD} {r : List InstrD} {fs : List FrC} (h : nestK (x :: r) fs) : ∃ gs b, fs = gs ++ [b] := by
  rcases h with ⟨_, h⟩ | ⟨st, h, _⟩
  · cases h
  · exact snoc_of (fun e => by rw [e] at h; simp at h)
theorem nestK_step {m : ModD} {f : FuncD} {x : InstrD} {r : List InstrD} {fs fs' : List FrC} {b : FrC} (h : nestK (x :: r) (fs ++ [b])) (hs : stepX m f x fs b = some fs') : nestK r fs' := by
  rcases h with ⟨h, _⟩ | ⟨st, hl, hn⟩
  · simp at h
  simp only [List.length_append, List.length_cons, List.length_nil] at hl
  rw [List.map_cons, nrun_cons] at hn
  by_cases h11 : x.Code = 11
  · rw [if_neg (by rw [h11]; decide), if_neg (by omega), if_pos h11] at hn
    unfold stepX stepF at hs
    rw [if_pos h11] at hs
    split at hs
    · simp only [Option.some.injEq] at hs
      subst hs
      cases st with
      | nil =>
        simp only at hn
        have : fs = [] := List.eq_nil_of_length_eq_zero (by simp only [List.length_nil] at hl; omega)
        subst this
        exact .inl ⟨rfl, by simpa using hn⟩
      | cons p t =>
        simp only at hn
        rcases List.eq_nil_or_concat fs with rfl | ⟨gs, y, rfl⟩
        · simp at hl
        · refine .inr ⟨t, ?_, hn⟩
          simp only [List.concat_eq_append, List.getLast?_append, List.getLast?_singleton, Option.some_or, List.dropLast_concat, List.length_append, List.length_cons, List.length_nil] at hl ⊢
          omega
    · cases hs
  by_cases h5 : x.Code = 5
  · rw [if_neg (by rw [h5]; decide), if_pos h5] at hn
    unfold stepX stepF at hs
    rw [if_neg h11, if_pos h5] at hs
    split at hs
    · simp only [Option.some.injEq] at hs
      subst hs
      cases st with
      | nil => exact hn.elim
      | cons p t =>
        obtain ⟨pb, pe⟩ := p
        simp only at hn
        exact .inr ⟨(pb, true) :: t, by simpa using hl, hn.2⟩
    · cases hs
  by_cases ho : opensC x.Code
  · rw [if_pos ho] at hn
    unfold stepX stepF at hs
    rw [if_neg h11, if_neg h5, if_pos ho] at hs
    obtain ⟨s, _, rfl⟩ := Option.map_eq_some_iff.1 hs
    exact .inr ⟨(x.Code, false) :: st, by simp; omega, hn.2⟩
  · rw [if_neg ho, if_neg h5, if_neg h11] at hn
    rw [stepX_pl h11 h5 ho] at hs
    obtain ⟨s, _, rfl⟩ := Option.map_eq_some_iff.1 hs
    exact .inr ⟨st, by simp; omega, hn⟩
theorem envD_funcs {m : ModD} {f : FuncD} (h : FitsM m) : ∀ g ∈ (envD m f).Funcs, g.R.length ≤ 20 := fun g hg => by
  obtain ⟨k, hk⟩ := List.mem_iff_getElem?.1 hg
  have h9 := sigO_getI (f := f) (n := (k : Int)) h
  have : getI (envD m f).Funcs (k : Int) = some g := by unfold getI; rw [if_pos ⟨by have := (List.getElem?_eq_some_iff.1 hk).1; omega, by omega⟩]; simpa using hk
  rw [this] at h9
  exact (h.few g (sig_mem h9.symm)).2
theorem resI_len (x : InstrD) : (resI x).length ≤ 20 := by unfold resI; split <;> simp
structure RunP (m : ModD) (f : FuncD) (i : Nat) (hts : List Nat) (fs : List FrC) : Prop where
  few : FewF fs
  hgt : hgtF fs ≤ 20 * i
  len : fs.length ≤ 1 + i
  nest : nestK (f.Body.L.drop i) fs
  run : heightsF m f = (crun (·.Code) resI (plS (envD m f)) (f.Body.L.drop i) fs).map (hts ++ ·)
theorem RunP.init {m : ModD} {f : FuncD} (h : FitsM m) (hs : sigAt m f.Sig ∈ m.Sigs) (hn : nrun (f.Body.L.map (·.Code)) []) : RunP m f 0 [] [FrC.mk False False (sigAt m f.Sig).R ([], False)] where
  few := fun k hk => by simp only [List.mem_singleton] at hk; subst hk; exact (h.few _ hs).2
  hgt := by simp [hgtF]
  len := by simp
  nest := .inr ⟨[], by simp, by simpa using hn⟩
  run := by
    show heightsF m f = (crun _ _ _ f.Body.L _).map ([] ++ ·)
    unfold heightsF
    cases crun (fun x : InstrD => x.Code) resI (plS (envD m f)) f.Body.L [FrC.mk False False (sigAt m f.Sig).R ([], False)] <;> rfl
theorem drop_at {α : Type} {l : List α} {i : Nat} {x : α} (h : l[i]? = some x) : l.drop i = x :: l.drop (i + 1) := by
  have hl := (List.getElem?_eq_some_iff.1 h)
  rw [List.drop_eq_getElem_cons hl.1, hl.2]
theorem RunP.next {m : ModD} {f : FuncD} {i : Nat} {hts : List Nat} {fs fs' : List FrC} {b : FrC} {x : InstrD} (h : RunP m f i hts (fs ++ [b])) (hm : FitsM m) (hx : f.Body.L[i]? = some x) (hs : stepX m f x fs b = some fs') : RunP m f (i + 1) (hts ++ [hgtF (fs ++ [b])]) fs' := by
  obtain ⟨g1, g2, g3⟩ := stepF_grow (v := envD m f) (x := x) (rr := resI) (resI_len x) h.few (envD_funcs hm) (fun g hg => (hm.few g hg).2) (by have := (takes_len x.Code).2; omega) hs
  have hd := drop_at hx
  refine ⟨g1, by have := h.hgt; omega, by have := h.len; simp at this; omega, nestK_step (hd ▸ h.nest) hs, ?_⟩
  rw [h.run, hd, crun_cons]
  have hs' : stepF (fun x : InstrD => x.Code) resI (plS (envD m f)) x fs b = some fs' := hs
  rw [hs']
  simp only [Option.bind_some, Option.map_map]
  congr 1
  funext l
  simp
theorem RunP.fails {m : ModD} {f : FuncD} {i : Nat} {hts : List Nat} {fs : List FrC} {b : FrC} {x : InstrD} (h : RunP m f i hts (fs ++ [b])) (hx : f.Body.L[i]? = some x) (hs : stepX m f x fs b = none) : heightsF m f = none := by
  rw [h.run, drop_at hx, crun_cons]
  have hs' : stepF (fun x : InstrD => x.Code) resI (plS (envD m f)) x fs b = none := hs
  rw [hs']; rfl
theorem RunP.done {m : ModD} {f : FuncD} {i : Nat} {hts : List Nat} {fs : List FrC} (h : RunP m f i hts fs) (hi : f.Body.L.length ≤ i) : heightsF m f = some hts := by
  rw [h.run, List.drop_eq_nil_of_le hi]; simp [crun]
structure ModOk (m : ModD) : Prop where
  ins : ∀ f ∈ m.Funcs, ∀ x ∈ f.Body.L, InsOk0 x
  len : ∀ f ∈ m.Funcs, f.Body.L.length ≤ 2000
  loc : ∀ f ∈ m.Funcs, f.Body.Locals.length ≤ 50000
theorem ModOk.bd {m : ModD} (h : ModOk m) {f : FuncD} (hf : f ∈ m.Funcs) : BdOk f.Body := ⟨h.ins f hf, by have := h.len f hf; omega, by have := h.loc f hf; omega⟩
theorem func_sig {m : ModD} (h : FitsM m) {f : FuncD} (hf : f ∈ m.Funcs) : InP f.Sig m.Sigs.length := Classical.not_not.1 ((whenE_eq (by decide)).1 (funcs_each h.funcs f hf))
theorem func_sigO {m : ModD} (h : FitsM m) {f : FuncD} {i : Nat} (hf : m.Funcs[i]? = some f) : sigO m ((m.Imports.length : Int) + (i : Int)) = some (sigAt m f.Sig) := by
  have hl := (List.getElem?_eq_some_iff.1 hf).1
  have h1 := sigO_getI (f := f) (n := (m.Imports.length : Int) + (i : Int)) h
  rw [← h1]
  have hlen : (envD m f).Funcs.length = m.Imports.length + m.Funcs.length := by simp [envD]
  unfold getI
  rw [if_pos (by rw [hlen]; omega)]
  show (m.Imports.map (fun i => sigAt m i.Sig) ++ m.Funcs.map (fun g => sigAt m g.Sig))[_]? = _
  rw [List.getElem?_append_right (by simp; omega), List.getElem?_map, List.length_map]
  rw [show ((m.Imports.length : Int) + (i : Int)).toNat - m.Imports.length = i by omega, hf]; rfl
end Go.Hl
namespace Go.Hl
def encSlT (l : List UInt8) : List VP := [sliceV 1 encU8 l]
instance : Enc 1 encSlT := ⟨fun _ => rfl, fun x q h => by simp only [encSlT, List.mem_cons, List.not_mem_nil, or_false] at h; subst h; infer_instance⟩
end Go.Hl
namespace Go.Hl
def encFnd (x : List UInt8 × Int × Int × Int) : List VP := [strV x.1, intV .i64 x.2.1, intV .i64 x.2.2.1, intV .i64 x.2.2.2]
instance : Enc 4 encFnd := ⟨fun _ => rfl, fun x q h => by simp only [encFnd, List.mem_cons, List.not_mem_nil, or_false] at h; rcases h with h | h | h | h <;> subst h <;> infer_instance⟩
instance (x : List UInt8 × Int × Int × Int) : FlatL (encFnd x) := FlatL.of x
end Go.Hl
end
section
namespace Go.Hl
structure FitLens (m : ModD) : Prop where
  sigs : (m.Sigs.length : Int) ≤ 50
  imports : (m.Imports.length : Int) ≤ 20
  funcs : (m.Imports.length : Int) + (m.Funcs.length : Int) ≤ 100
  mems : (m.Mems.length : Int) ≤ 4
  globals : (m.Globals.length : Int) ≤ 50
  exports : (m.Exports.length : Int) ≤ 50
  elems : (m.Elems.length : Int) ≤ 20
  datas : (m.Datas.length : Int) ≤ 20
  table : -1 ≤ m.Table ∧ m.Table ≤ 1000
theorem fo_lens {m : ModD} (h : FitsM m) : FitLens m where
  sigs := (manyE_zero.1 h.sigs).1
  imports := (manyE_zero.1 h.imports).1
  funcs := by
    have h5 := h.funcs
    unfold funcsE at h5
    split at h5
    · cases h5
    · unfold countM at *; omega
  mems := (manyE_zero.1 h.mems).1
  globals := (manyE_zero.1 h.globals).1
  exports := (manyE_zero.1 h.exports).1
  elems := (manyE_zero.1 h.elems).1
  datas := (manyE_zero.1 h.datas).1
  table := by
    have h5 := h.table
    unfold tableE at h5
    split at h5
    · cases h5
    · have h6 := (whenE_eq (by decide)).1 h5; omega
theorem fo_sig {m : ModD} (h : FitsM m) {z : SigD} (hz : z ∈ m.Sigs) : TypedP z.P ∧ TypedP z.R := Classical.not_not.1 ((whenE_eq (by decide)).1 (firstE_on.1 (manyE_zero.1 h.sigs).2 z hz))
theorem fo_imp {m : ModD} (h : FitsM m) {z : ImportD} (hz : z ∈ m.Imports) : NamedP z.Module ∧ NamedP z.Name ∧ InP z.Sig m.Sigs.length := by
  have h1 := firstE_on.1 (manyE_zero.1 h.imports).2 z hz
  unfold importE at h1
  split at h1
  · cases h1
  · rename_i h2
    exact ⟨Classical.byContradiction fun e => h2 (.inl e), Classical.byContradiction fun e => h2 (.inr e), Classical.not_not.1 ((whenE_eq (by decide)).1 h1)⟩
theorem fo_func {m : ModD} (h : FitsM m) {z : FuncD} (hz : z ∈ m.Funcs) : InP z.Sig m.Sigs.length := Classical.not_not.1 ((whenE_eq (by decide)).1 (funcs_each h.funcs z hz))
theorem fo_mem {m : ModD} (h : FitsM m) {z : LimitsD} (hz : z ∈ m.Mems) : 0 ≤ z.Min ∧ z.Min ≤ 65536 ∧ (z.Max < 0 ∨ z.Min ≤ z.Max ∧ z.Max ≤ 65536) := Classical.not_not.1 ((whenE_eq (by decide)).1 (firstE_on.1 (manyE_zero.1 h.mems).2 z hz))
theorem fo_global {m : ModD} (h : FitsM m) {z : GlobalD} (hz : z ∈ m.Globals) : (z.Ty.toNat : Int) = 126 ∨ (z.Ty.toNat : Int) = 127 ∧ z.Value ≤ 4294967295 := by
  have h1 := (whenE_eq (by decide)).1 (firstE_on.1 (manyE_zero.1 h.globals).2 z hz)
  have h2 : ¬ bitsI z.Ty = 0 := fun e => h1 (.inl e)
  have h3 : ¬ ((z.Ty.toNat : Int) = 127 ∧ 4294967295 < z.Value) := fun e => h1 (.inr e)
  rw [bitsI_zero, Classical.not_not] at h2
  rcases h2 with e | e
  · exact .inl (by rw [e]; rfl)
  · exact .inr ⟨by rw [e]; rfl, Classical.byContradiction fun h4 => h3 ⟨by rw [e]; rfl, by omega⟩⟩
theorem fo_export {m : ModD} (h : FitsM m) {i : Nat} {x : ExportD} (hx : m.Exports[i]? = some x) : NamedP x.Name ∧ (∀ j y, j < i → m.Exports[j]? = some y → y.Name ≠ x.Name) ∧
    (((x.Kind = 0 ∧ InP x.Index (countM m) ∨ (x.Kind = 1 ∧ 0 ≤ m.Table) ∧ x.Index = 0) ∨ x.Kind = 2 ∧ InP x.Index m.Mems.length) ∨ x.Kind = 3 ∧ InP x.Index m.Globals.length) := by
  have hi := (List.getElem?_eq_some_iff.1 hx).1
  have h1 : exportE m i = 0 := firstE_zero.1 (manyE_zero.1 h.exports).2 i hi
  unfold exportE at h1
  rw [hx] at h1
  simp only at h1
  split at h1
  · cases h1
  · rename_i h2
    have h3 := Classical.not_not.1 ((whenE_eq (by decide)).1 h1)
    have ht := (fo_lens h).table
    refine ⟨Classical.byContradiction fun e => h2 (.inl e), fun j y hj hy e => h2 (.inr ⟨y, List.mem_iff_getElem?.2 ⟨j, by rw [List.getElem?_take, if_pos hj]; exact hy⟩, e⟩), ?_⟩
    obtain ⟨h4, h5⟩ := h3
    unfold InP at h4
    have hw : IntKind.i64.wrap (m.Table + 1) = m.Table + 1 := by unfold IntKind.wrap; simp [IntKind.signed, IntKind.bits]; omega
    have k0 : kindJ 0 = 0 := by decide
    have k1 : kindJ 1 = 1 := by decide
    have k2 : kindJ 2 = 2 := by decide
    have k3 : kindJ 3 = 3 := by decide
    rcases (by omega : x.Kind = 0 ∨ x.Kind = 1 ∨ x.Kind = 2 ∨ x.Kind = 3) with e | e | e | e
    · rw [e, k0] at h5; exact .inl (.inl (.inl ⟨e, h5⟩))
    · rw [e, k1] at h5; unfold InP at h5; simp only [cnt, hw] at h5; exact .inl (.inl (.inr ⟨⟨e, by omega⟩, by omega⟩))
    · rw [e, k2] at h5; exact .inl (.inr ⟨e, h5⟩)
    · rw [e, k3] at h5; exact .inr ⟨e, h5⟩
theorem fo_start {m : ModD} (h : FitsM m) (hn : m.Start ≠ -1) : InP m.Start (countM m) ∧ ∀ s, sigO m m.Start = some s → ¬ 0 < (s.P.length : Int) + (s.R.length : Int) := by
  have h1 := h.start
  unfold startE at h1
  rw [if_neg hn] at h1
  have hI : ∀ z ∈ m.Imports, importE m z = 0 := firstE_on.1 (manyE_zero.1 h.imports).2
  cases hs : sigO m m.Start with
  | none => rw [hs] at h1; cases h1
  | some s =>
    rw [hs] at h1
    refine ⟨(sig_iff hI (funcs_each h.funcs)).1 (by rw [hs]; rfl), fun s' e => ?_⟩
    cases e
    exact (whenE_eq (by decide)).1 h1
theorem fo_elem {m : ModD} (h : FitsM m) {z : ElemD} (hz : z ∈ m.Elems) : (z.Funcs.length : Int) ≤ 20 ∧ 0 ≤ m.Table ∧ z.At ≤ 4294967295 ∧ ∀ f ∈ z.Funcs, InP f (countM m) := by
  have h1 := firstE_on.1 (manyE_zero.1 h.elems).2 z hz
  unfold elemE at h1
  split at h1
  · cases h1
  · have h2 := (whenE_eq (by decide)).1 h1
    have ht := (fo_lens h).table
    have h3 : m.Table ≠ -1 := fun e => h2 (.inl e)
    exact ⟨by omega, by omega, Classical.byContradiction fun e => h2 (.inr (.inr (by omega))), fun f hf => Classical.byContradiction fun e => h2 (.inr (.inl ⟨f, hf, e⟩))⟩
theorem fo_data {m : ModD} (h : FitsM m) {z : DataD} (hz : z ∈ m.Datas) : (z.Bytes.length : Int) ≤ 4096 ∧ InP z.Mem m.Mems.length ∧ ∀ y, m.Mems[z.Mem.toNat]? = some y → ¬ (¬ y.Wide ∧ 4294967295 < z.At) := by
  have h1 := firstE_on.1 (manyE_zero.1 h.datas).2 z hz
  unfold dataE at h1
  split at h1
  · cases h1
  · have h2 := (whenE_eq (by decide)).1 h1
    exact ⟨by omega, Classical.byContradiction fun e => h2 (.inl e), fun y hy e => h2 (.inr ⟨y, hy, e⟩)⟩
end Go.Hl
end
section
namespace Go.Hl
open Go.RowKit
theorem FnE.borrow {P : Program} {f : FuncId} {ps : List VP} {cs : List VP} {b : Nat} {γ : Type} {φ : γ → Prop} {q : γ → VP} (h : FnE P f (ptrV cs :: ps) [] φ (fun _ => []) q)
    (hq : ∀ g S w S' w' v, (q g).p S w v → (q g).p S' w' v) : FnE P f (addrV b 0 :: ps) [cellsH b cs] φ (fun _ => [cellsH b cs]) q := by
  intro w S F vs hS hF hd ho ha
  obtain ⟨F1, F2, h1, h2, ⟨hb, arr, T, hh, hn, hc⟩, _⟩ := ho
  have hbF : F b := (h1 b hb).1
  have hbw : b < w.heap.size := hF b hbF
  let S1 : BS := fun k => S k ∨ k = b
  have hS1 : ∀ k, S1 k → k < w.heap.size := fun k hk => hk.elim (hS k) (fun e => e ▸ hbw)
  have ha1 : All2 (ptrV cs :: ps) S1 w vs.toList := by
    obtain ⟨hl, hp⟩ := ha
    refine ⟨by simpa using hl, fun j p v hj hv => ?_⟩
    cases j with
    | zero =>
      simp only [List.getElem?_cons_zero, Option.some.injEq] at hj
      subst hj
      have h0 := hp 0 (addrV b 0) v (by simp) hv
      refine ⟨b, 0, h0, .inr rfl, fun j q hj => ?_⟩
      obtain ⟨u, hu, hqu⟩ := hc j q hj
      refine ⟨u, ?_, q.mono (fun k hk => .inl hk) (fun _ _ => rfl) hqu⟩
      have hj2 : j < arr.size := by
        have := (List.getElem?_eq_some_iff.1 hj).1; omega
      simp only [World.cell?, Addr.add]
      first | (simp [hh, hu]; done) | (split <;> simp_all)
    | succ j =>
      have := hp (j + 1) p v (by simpa using hj) hv
      exact p.mono (fun k hk => .inl hk) (fun _ _ => rfl) this
  refine (h w S1 (fun _ => False) vs hS1 (fun _ hk => hk.elim) (fun _ _ hk => hk) trivial ha1).mono ?_
  rintro e w' ⟨v, S', F', g, rfl, hs, hφ, _, hqv⟩
  have hk : ∀ k, k < w.heap.size → w'.heap[k]? = w.heap[k]? := fun k hk => hs.kept k hk (fun h => h)
  refine ⟨v, S, F, g, rfl, ⟨hs.os, hs.tape, hs.output, hs.size, fun k hk' _ => hk k hk', hd, fun k hk' => Nat.lt_of_lt_of_le (hS k hk') hs.size, fun k hk' => Nat.lt_of_lt_of_le (hF k hk') hs.size, fun k hk' => .inl hk', fun k hk' => .inl hk', fun _ h => h⟩, hφ, ?_, hq g _ _ _ _ _ hqv⟩
  refine Own.mono (F := F) (S := S) (w := w) (fun _ h => h) (fun _ h => h) (fun k hk' => hk k (hF k hk')) (fun k hk' => hk k (hS k hk')) ?_
  exact ⟨F1, F2, h1, h2, ⟨hb, arr, T, hh, hn, hc⟩, trivial⟩
theorem stK_ok2 {x y z : InstrD} {more : Prop} (hx : InsOk0 x) : ∀ k n ins, stK x y z more k = some (n, ins) → ∀ w ∈ ins, InsOk0 w
  | 0, n, ins, h => by simp only [stK] at h; split at h <;> cases h; intro w hw; cases hw
  | 1, n, ins, h => by
    simp only [stK] at h
    split at h
    · cases ho : oneC y.Code x.A.toNat with
      | none => rw [ho] at h; cases h
      | some v =>
        rw [ho] at h; cases h
        intro w hw
        obtain rfl := List.mem_singleton.1 hw
        have := mkI_ok (c := outC y.Code) (oneC_lt ho)
        exact ⟨this.1, this.2, (show (0 : Int) ≤ 0 by decide), (show (0 : Int) < 18446744073709551616 by decide), (fun n hn => by cases hn), Nat.zero_le _⟩
    · cases h
  | 2, n, ins, h => by
    simp only [stK] at h
    split at h <;> cases h
    intro w hw
    obtain rfl := List.mem_singleton.1 hw
    have := mkI_ok (c := outC z.Code) (twoV_lt (c := z.Code) (a := x.A.toNat) (b := y.A.toNat))
    exact ⟨this.1, this.2, (show (0 : Int) ≤ 0 by decide), (show (0 : Int) < 18446744073709551616 by decide), (fun n hn => by cases hn), Nat.zero_le _⟩
  | 3, n, ins, h => by simp only [stK] at h; split at h <;> cases h; intro w hw; cases hw
  | 4, n, ins, h => by
    simp only [stK] at h
    split at h <;> cases h
    intro w hw
    obtain rfl := List.mem_singleton.1 hw
    exact ⟨hx.A0, hx.A64, (show (0 : Int) ≤ 0 by decide), (show (0 : Int) < 18446744073709551616 by decide), (fun n hn => by cases hn), Nat.zero_le _⟩
  | 5, n, ins, h => by
    simp only [stK] at h
    split at h <;> cases h
    intro w hw
    obtain rfl := List.mem_singleton.1 hw
    exact hx
  | _ + 6, n, ins, h => by simp [stK] at h
theorem InsOk0.sm {l : List InstrD} {n : Nat} (h : ∀ x ∈ l, InsOk0 x) (hn : l.length ≤ n) : SmL l n := ⟨hn, fun x hx => ⟨(h x hx).A0, (h x hx).A64⟩, fun x hx => by have := (h x hx).Ln; omega⟩
theorem stepL_ok0 {l r : List InstrD} {n : Nat} (hl : ∀ x ∈ l, InsOk0 x) (h : stepL l = some (r, n)) : ∀ x ∈ r, InsOk0 x := by
  obtain ⟨i, hi, hr⟩ := stepK_inv _ _ h
  obtain ⟨j, j1, j2, j3⟩ := stepAtK_inv _ _ hr
  unfold fK at j2
  cases hs : stK (gI l i) (gI l (i + 1)) (gI l (i + 2)) (i + 1 < l.length) j with
  | none => rw [hs] at j2; cases j2
  | some p =>
    obtain ⟨m, ins⟩ := p
    rw [hs] at j2
    have j2' : r = cutL l i m ins := (Option.some.inj j2).symm
    subst j2'
    have hg : gI l i ∈ l := by rw [gI_at (List.getElem?_eq_getElem hi)]; exact List.getElem_mem hi
    have h1 := stK_ok2 (hl _ hg) _ _ _ hs
    intro w hw
    unfold cutL at hw
    rcases List.mem_append.1 hw with hw | hw
    · rcases List.mem_append.1 hw with hw | hw
      · exact hl w (List.mem_of_mem_take hw)
      · exact h1 w hw
    · exact hl w (List.mem_of_mem_drop hw)
theorem bodyL_facts : ∀ (n : Nat) (l : List InstrD), l.length ≤ n → (∀ x ∈ l, InsOk0 x) → stepL (bodyL l) = none ∧ (∀ x ∈ bodyL l, InsOk0 x) ∧ (bodyL l).length ≤ l.length
  | n, l, hn, hl => by
    cases hs : stepL l with
    | none => rw [bodyL_none hs]; exact ⟨hs, hl, Nat.le_refl _⟩
    | some p =>
      obtain ⟨r, k⟩ := p
      have hsm := InsOk0.sm hl (Nat.le_refl l.length)
      have h1 := (stepL_less hsm hs).1
      rw [bodyL_some hsm hs]
      cases n with
      | zero => omega
      | succ n =>
        obtain ⟨a, b, c⟩ := bodyL_facts n r (by omega) (stepL_ok0 hl hs)
        exact ⟨a, b, by omega⟩
noncomputable def plF (f : FuncD) : FuncD := { f with Body := { f.Body with L := bodyL f.Body.L } }
noncomputable def pmM (m : ModD) : ModD := { m with Funcs := m.Funcs.map plF }
open Classical in
noncomputable def plM (m : ModD) : ModD := if ValidD (pmM m) then pmM m else m
theorem pmM_ok {m : ModD} (h : ModOk m) : ModOk (pmM m) where
  ins := fun f hf => by
    obtain ⟨g, hg, rfl⟩ := List.mem_map.1 hf
    exact (bodyL_facts _ g.Body.L (Nat.le_refl _) (h.ins g hg)).2.1
  len := fun f hf => by
    obtain ⟨g, hg, rfl⟩ := List.mem_map.1 hf
    have := (bodyL_facts _ g.Body.L (Nat.le_refl _) (h.ins g hg)).2.2
    have h2 := h.len g hg
    show (bodyL g.Body.L).length ≤ 2000; omega
  loc := fun f hf => by
    obtain ⟨g, hg, rfl⟩ := List.mem_map.1 hf
    exact h.loc g hg
theorem plM_yes {m : ModD} (h : ValidD (pmM m)) : plM m = pmM m := by unfold plM; exact if_pos h
theorem plM_no {m : ModD} (h : ¬ ValidD (pmM m)) : plM m = m := by unfold plM; exact if_neg h
theorem plM_ok {m : ModD} (h : ModOk m) : ModOk (plM m) := by
  by_cases hv : ValidD (pmM m)
  · rw [plM_yes hv]; exact pmM_ok h
  · rw [plM_no hv]; exact h
theorem plM_len {m : ModD} : (plM m).Funcs.length = m.Funcs.length := by
  by_cases hv : ValidD (pmM m)
  · rw [plM_yes hv]; simp [pmM]
  · rw [plM_no hv]
theorem ModOk.sm {m : ModD} (h : ModOk m) {f : FuncD} (hf : f ∈ m.Funcs) : SmL f.Body.L 60000 := InsOk0.sm (h.ins f hf) (by have := h.len f hf; omega)
end Go.Hl
end
section
namespace Go.Proofs.YtmmdlhjcmlekfaaGreatDoor
open Go.Hl
def encPart (p : List UInt8 × Int) : List VP := [strV p.1, funV Tryz.prog (fun _ : Unit => True) (fun _ => []) (fun _ => intV .i64 p.2)]
instance : Enc 2 encPart := ⟨fun _ => rfl, fun x q h => by simp only [encPart, List.mem_cons, List.not_mem_nil, or_false] at h; rcases h with h | h <;> rw [h] <;> infer_instance⟩
instance (x : List UInt8 × Int) : FlatL (encPart x) := FlatL.of x
noncomputable def partsM (m : ModD) : List (List UInt8 × Int) := [([115, 105, 103, 115], sigsE m), ([105, 109, 112, 111, 114, 116, 115], importsE m), ([102, 117, 110, 99, 115], funcsE m), ([116, 97, 98, 108, 101], tableE m), ([109, 101, 109, 115], memsE m), ([103, 108, 111, 98, 97, 108, 115], globalsE m), ([101, 120, 112, 111, 114, 116, 115], exportsE m), ([115, 116, 97, 114, 116], startE m), ([101, 108, 101, 109, 115], elemsE m), ([100, 97, 116, 97], datasE m)]
noncomputable def fitP (m : ModD) : List UInt8 × Int := ((partsM m).find? fun p => p.2 != 0).getD ([], 0)
theorem fit_at {m : ModD} {k : Nat} {p : List UInt8 × Int} (h : NotB (fun p : List UInt8 × Int => p.2 ≠ 0) (partsM m) k) (hp : (partsM m)[k]? = some p) (hn : p.2 ≠ 0) : fitP m = p := by
  unfold fitP
  have key : ∀ (l : List (List UInt8 × Int)) (k : Nat), NotB (fun p : List UInt8 × Int => p.2 ≠ 0) l k → l[k]? = some p → l.find? (fun p => p.2 != 0) = some p := by
    intro l
    induction l with
    | nil => intro k _ h; simp at h
    | cons x l ih =>
      intro k h hk
      cases k with
      | zero => simp at hk; subst hk; simp [hn]
      | succ k =>
        have h0 := h 0 x (by omega) rfl
        simp only [ne_eq, Classical.not_not] at h0
        rw [List.find?_cons_of_neg (by simp [h0])]
        exact ih k (fun j y hj hy => h (j + 1) y (by omega) (by simpa using hy)) (by simpa using hk)
  rw [key _ k h hp]; rfl
theorem fit_none {m : ModD} (h : ∀ p ∈ partsM m, ¬ p.2 ≠ 0) : fitP m = ([], 0) := by
  unfold fitP
  rw [List.find?_eq_none.2 (fun p hp => by have := h p hp; simpa using this)]; rfl
theorem fit_zero {m : ModD} : (fitP m).2 = 0 ↔ ∀ p ∈ partsM m, p.2 = 0 := by
  constructor
  · intro h p hp
    unfold fitP at h
    cases hf : (partsM m).find? (fun p => p.2 != 0) with
    | none => have := List.find?_eq_none.1 hf p hp; simpa using this
    | some x => rw [hf] at h; have := List.find?_some hf; simp at this h; exact absurd h this
  · intro h; rw [fit_none (fun p hp => by simpa using h p hp)]
theorem parts_len {m : ModD} : (partsM m).length = 10 := rfl
end Go.Proofs.YtmmdlhjcmlekfaaGreatDoor
end
section
namespace Go.Proofs.YtmmdlhjcmlekfaaGreatDoor
open Go.Hl Go.RowKit
theorem has_spec {n m : Int} : FnP Tryz.prog 63 [intV .i64 n, intV .i64 m] (propV (InP n m)) := by
 refine In 12 Tryz.func63 fun _ _ _ => ?_
 refine Z18 ?_
 refine Rt1 ?_
 first | exact VLe.refl _ | exact VLe.int (by omega) | exact VLe.prop (by omega) | exact VLe.prop (by simp_all) | exact VLe.prop (by simp; omega)
theorem lin_spec {n m : Int} : FnP Tryz.prog 52 [intV .i64 n, intV .i64 m] (propV (InP n m)) := by
 refine In 12 Tryz.func52 fun _ _ _ => ?_
 refine Z18 ?_
 refine Rt1 ?_
 first | exact VLe.refl _ | exact VLe.int (by omega) | exact VLe.prop (by omega) | exact VLe.prop (by simp_all) | exact VLe.prop (by simp; omega)
theorem when_spec {p : Prop} {e : Int} : FnP Tryz.prog 144 [propV p, intV .i64 e] (intV .i64 (whenE p e)) := by
 refine In 7 Tryz.func144 fun _ _ _ => ?_
 refine Z11 ?_
 refine Cd (fun c0 => ?_) fun c0 => ?_
 ·
  refine Z8 ?_
  refine Rt1 ?_
  exact VLe.int (by simp [whenE, *])
 refine Z8 ?_
 refine Rt1 ?_
 exact VLe.int (by simp [whenE, *])
theorem bits_spec {t : UInt8} : FnP Tryz.prog 153 [intV .u8 (t.toNat : Int)] (intV .i64 (bitsI t)) := by
 refine In 8 Tryz.func153 fun _ _ _ => ?_
 refine Z18 ?_
 refine Cd (fun c0 => ?_) fun c0 => ?_
 ·
  refine Z8 ?_
  refine Rt1 ?_
  exact VLe.int (by simp [bitsI, *])
 refine Z6 ?_
 refine Cd (fun c1 => ?_) fun c1 => ?_
 ·
  refine Z8 ?_
  refine Rt1 ?_
  exact VLe.int (by simp [bitsI, *])
 refine Z9 ?_
 refine Rt1 ?_
 exact VLe.int (by simp [bitsI, *])
theorem fewc_spec {t : UInt8} : FnP Tryz.prog 209 [intV .u8 (t.toNat : Int)] (propV (bitsI t = 0)) := by
 refine In 6 Tryz.func209 fun _ _ _ => ?_
 refine Z8 ?_
 refine .p (cA (h := bits_spec)) rfl ?_
 refine Z5 ?_
 refine Rt1 ?_
 first | exact VLe.refl _ | exact VLe.int (by omega) | exact VLe.prop (by omega) | exact VLe.prop (by simp_all) | exact VLe.prop (by simp; omega)
theorem idxType_spec {l : List UInt8} {p : UInt8 → Prop} : FnP Tryz.prog 216 [sliceV 1 encU8 l, funV Tryz.prog (fun _ : UInt8 => True) (fun x => [intV .u8 (x.toNat : Int)]) (fun x => propV (p x))] (intV .i64 (idxF p l)) := by
 refine In 19 Tryz.func216 fun _ _ _ => ?_
 refine .fact (t := 0) rfl (fun S w v h => sliceV_len h) fun hlen => ?_
 refine Z14 ?_
 refine .loopO (σ := Nat) (fun _ => []) (fun k => [(8, intV .i64 (k : Int))]) (fun k => k ≤ l.length ∧ NotB p l k) (fun k => l.length - k) 0 ⟨by omega, NotB.zero p l⟩ rfl ?_ ?_
 · exact (.get rfl (VLe.refl _) (.refl _ _))
 rintro k ⟨hk, hnot⟩
 refine Z6 ?_
 refine Cd (fun c0 => ?_) fun c0 => ?_
 ·
  obtain ⟨x, hx⟩ := getElem?_lt (xs := l) (k := k) (by omega)
  refine Z15 ?_
  refine .p (cI _) rfl ?_
  refine Z1 ?_
  refine .p (cV x) rfl ?_
  refine Z2 ?_
  refine Cd (fun c1 => ?_) fun c1 => ?_
  ·
   refine Z12 ?_
   refine Rt1 ?_
   exact VLe.int (idxF_at hx (by assumption) hnot).symm
  refine Z7 ?_
  refine .round (k + 1) ⟨by omega, hnot.succ hx (by assumption)⟩ (by omega) rfl ?_
  exact (.get rfl (VLe.int (by omega)) (.keep 12 rfl rfl))
 refine Z11 ?_
 refine Rt1 ?_
 exact VLe.int (idxF_none (hnot.all (by omega))).symm
theorem conType_spec {l : List UInt8} {p : UInt8 → Prop} : FnP Tryz.prog 190 [sliceV 1 encU8 l, funV Tryz.prog (fun _ : UInt8 => True) (fun x => [intV .u8 (x.toNat : Int)]) (fun x => propV (p x))] (propV (∃ x ∈ l, p x)) := by
 refine In 9 Tryz.func190 fun _ _ _ => ?_
 refine Z9 ?_
 refine .p (cA (h := idxType_spec)) rfl ?_
 refine Z5 ?_
 refine Rt1 ?_
 exact VLe.prop idxF_nonneg
theorem idxInt_spec {l : List Int} {p : Int → Prop} : FnP Tryz.prog 186 [sliceV 1 encInt l, funV Tryz.prog (fun _ : Int => True) (fun x => [intV .i64 x]) (fun x => propV (p x))] (intV .i64 (idxF p l)) := by
 refine In 19 Tryz.func186 fun _ _ _ => ?_
 refine .fact (t := 0) rfl (fun S w v h => sliceV_len h) fun hlen => ?_
 refine Z14 ?_
 refine .loopO (σ := Nat) (fun _ => []) (fun k => [(8, intV .i64 (k : Int))]) (fun k => k ≤ l.length ∧ NotB p l k) (fun k => l.length - k) 0 ⟨by omega, NotB.zero p l⟩ rfl ?_ ?_
 · exact (.get rfl (VLe.refl _) (.refl _ _))
 rintro k ⟨hk, hnot⟩
 refine Z6 ?_
 refine Cd (fun c0 => ?_) fun c0 => ?_
 ·
  obtain ⟨x, hx⟩ := getElem?_lt (xs := l) (k := k) (by omega)
  refine Z15 ?_
  refine .p (cI _) rfl ?_
  refine Z1 ?_
  refine .p (cV x) rfl ?_
  refine Z2 ?_
  refine Cd (fun c1 => ?_) fun c1 => ?_
  ·
   refine Z12 ?_
   refine Rt1 ?_
   exact VLe.int (idxF_at hx (by assumption) hnot).symm
  refine Z7 ?_
  refine .round (k + 1) ⟨by omega, hnot.succ hx (by assumption)⟩ (by omega) rfl ?_
  exact (.get rfl (VLe.int (by omega)) (.keep 12 rfl rfl))
 refine Z11 ?_
 refine Rt1 ?_
 exact VLe.int (idxF_none (hnot.all (by omega))).symm
theorem conInt_spec {l : List Int} {p : Int → Prop} : FnP Tryz.prog 159 [sliceV 1 encInt l, funV Tryz.prog (fun _ : Int => True) (fun x => [intV .i64 x]) (fun x => propV (p x))] (propV (∃ x ∈ l, p x)) := by
 refine In 9 Tryz.func159 fun _ _ _ => ?_
 refine Z9 ?_
 refine .p (cA (h := idxInt_spec)) rfl ?_
 refine Z5 ?_
 refine Rt1 ?_
 exact VLe.prop idxF_nonneg
theorem idxExport_spec {l : List ExportD} {p : ExportD → Prop} : FnP Tryz.prog 185 [sliceV 3 encExport l, funV Tryz.prog (fun _ : ExportD => True) (fun x => [aggV (encExport x)]) (fun x => propV (p x))] (intV .i64 (idxF p l)) := by
 refine In 19 Tryz.func185 fun _ _ _ => ?_
 refine .fact (t := 0) rfl (fun S w v h => sliceV_len h) fun hlen => ?_
 refine Z14 ?_
 refine .loopO (σ := Nat) (fun _ => []) (fun k => [(8, intV .i64 (k : Int))]) (fun k => k ≤ l.length ∧ NotB p l k) (fun k => l.length - k) 0 ⟨by omega, NotB.zero p l⟩ rfl ?_ ?_
 · exact (.get rfl (VLe.refl _) (.refl _ _))
 rintro k ⟨hk, hnot⟩
 refine Z6 ?_
 refine Cd (fun c0 => ?_) fun c0 => ?_
 ·
  obtain ⟨x, hx⟩ := getElem?_lt (xs := l) (k := k) (by omega)
  refine Z15 ?_
  refine .p (cI _) rfl ?_
  refine Z1 ?_
  refine .p (cV x) rfl ?_
  refine Z2 ?_
  refine Cd (fun c1 => ?_) fun c1 => ?_
  ·
   refine Z12 ?_
   refine Rt1 ?_
   exact VLe.int (idxF_at hx (by assumption) hnot).symm
  refine Z7 ?_
  refine .round (k + 1) ⟨by omega, hnot.succ hx (by assumption)⟩ (by omega) rfl ?_
  exact (.get rfl (VLe.int (by omega)) (.keep 12 rfl rfl))
 refine Z11 ?_
 refine Rt1 ?_
 exact VLe.int (idxF_none (hnot.all (by omega))).symm
theorem conExport_spec {l : List ExportD} {p : ExportD → Prop} : FnP Tryz.prog 156 [sliceV 3 encExport l, funV Tryz.prog (fun _ : ExportD => True) (fun x => [aggV (encExport x)]) (fun x => propV (p x))] (propV (∃ x ∈ l, p x)) := by
 refine In 9 Tryz.func156 fun _ _ _ => ?_
 refine Z9 ?_
 refine .p (cA (h := idxExport_spec)) rfl ?_
 refine Z5 ?_
 refine Rt1 ?_
 exact VLe.prop idxF_nonneg
theorem few_spec {l : List UInt8} : FnP Tryz.prog 184 [sliceV 1 encU8 l] (propV (TypedP l)) := by
 refine In 11 Tryz.func184 fun _ _ _ => ?_
 refine Z12 ?_
 refine .g (OpG.gT rfl rfl rfl rfl (fun hg => opCall (conType_spec) Tryz.cb190 (.cons (.when (.t rfl) hg) (.cons (.le (.f _) (funV_of Tryz.cb209 (fun (b : UInt8) (_ : True) => fewc_spec (t := b)))) .nil)))) rfl rfl ?_
 refine Z6 ?_
 refine Rt1 ?_
 exact VLe.prop typed_iff
theorem right_spec {s : SigD} : FnP Tryz.prog 145 [aggV (encSig s)] (propV (RightP s)) := by
 refine In 11 Tryz.func145 fun _ _ _ => ?_
 refine Z10 ?_
 refine .p (cA (h := few_spec)) rfl ?_
 refine Z3 ?_
 refine .g (OpG.gT rfl rfl rfl rfl (fun hg => opCall (few_spec) Tryz.cb184 (.cons (.when (.t rfl) hg) .nil))) rfl rfl ?_
 refine Z5 ?_
 refine Rt1 ?_
 first | exact VLe.refl _ | exact VLe.int (by omega) | exact VLe.prop (by omega) | exact VLe.prop (by simp_all) | exact VLe.prop (by simp; omega)
theorem lright_spec {l : LimitsD} {most : Int} : FnP Tryz.prog 151 [aggV (encLimits l), intV .i64 most] (propV (LimitsP l most)) := by
 refine In 32 Tryz.func151 fun _ _ _ => ?_
 refine Z39 ?_
 refine Rt1 ?_
 exact VLe.prop (by unfold LimitsP; constructor <;> (intro h; omega))
theorem named_spec {l : List UInt8} : FnP Tryz.prog 147 [strV l] (propV (NamedP l)) := by
 refine In 27 Tryz.func147 fun _ _ _ => ?_
 refine .fact (t := 0) rfl (fun S w v h => strV_len h) fun hlen => ?_
 refine Z14 ?_
 refine .loopO (σ := Nat) (fun _ => []) (fun k => [(6, intV .i64 (k : Int))]) (fun k => k ≤ l.length ∧ NotB (fun b : UInt8 => (b.toNat : Int) < 33 ∨ 126 < (b.toNat : Int)) l k) (fun k => l.length - k) 0 ⟨by omega, NotB.zero _ l⟩ rfl ?_ ?_
 · exact (.get rfl (VLe.refl _) (.refl _ _))
 rintro k ⟨hk, hnot⟩
 refine Z6 ?_
 refine Cd (fun c0 => ?_) fun c0 => ?_
 ·
  obtain ⟨x, hx⟩ := getElem?_lt (xs := l) (k := k) (by omega)
  refine Z14 ?_
  refine .p (opIndexS Tryz.underlying9 (.t rfl) (.t rfl) rfl (by assumption)) rfl ?_
  refine Z4 ?_
  refine .g (OpG.gF rfl rfl rfl rfl (fun hg => opIndexS Tryz.underlying9 (.when (.t rfl) hg) (.when (.t rfl) hg) rfl (by assumption))) rfl rfl ?_
  refine Z4 ?_
  refine Cd (fun c1 => ?_) fun c1 => ?_
  ·
   refine Z11 ?_
   refine Rt1 ?_
   exact VLe.prop (named_bad hx (by assumption)).symm
  refine Z7 ?_
  refine .round (k + 1) ⟨by omega, hnot.succ hx (by assumption)⟩ (by omega) rfl ?_
  exact (.get rfl (VLe.int (by omega)) (.keep 16 rfl rfl))
 refine Z8 ?_
 refine .p (opNeqS (.t rfl) (.s [] rfl rfl)) rfl ?_
 refine Z9 ?_
 refine Rt1 ?_
 exact VLe.prop (named_iff (hnot.all (by omega)))
theorem lnamed_spec {l : List UInt8} : FnP Tryz.prog 51 [strV l] (propV (NamedP l)) := by
 refine In 28 Tryz.func51 fun _ _ _ => ?_
 refine .fact (t := 0) rfl (fun S w v h => strV_len h) fun hlen => ?_
 refine Z12 ?_
 refine .loopO (σ := Nat) (fun _ => []) (fun k => [(3, intV .i64 (k : Int))]) (fun k => k ≤ l.length ∧ NotB (fun b : UInt8 => (b.toNat : Int) < 33 ∨ 126 < (b.toNat : Int)) l k) (fun k => l.length - k) 0 ⟨by omega, NotB.zero _ l⟩ rfl ?_ ?_
 · exact (.get rfl (VLe.refl _) (.refl _ _))
 rintro k ⟨hk, hnot⟩
 refine Z9 ?_
 refine Cd (fun c0 => ?_) fun c0 => ?_
 ·
  obtain ⟨x, hx⟩ := getElem?_lt (xs := l) (k := k) (by omega)
  refine Z8 ?_
  refine .p (opIndexS Tryz.underlying9 (.t rfl) (.t rfl) rfl (by assumption)) rfl ?_
  refine Z4 ?_
  refine .g (OpG.gF rfl rfl rfl rfl (fun hg => opIndexS Tryz.underlying9 (.when (.t rfl) hg) (.when (.t rfl) hg) rfl (by assumption))) rfl rfl ?_
  refine Z4 ?_
  refine Cd (fun c1 => ?_) fun c1 => ?_
  ·
   refine Z11 ?_
   refine Rt1 ?_
   exact VLe.prop (named_bad hx (by assumption)).symm
  refine Z8 ?_
  refine .round (k + 1) ⟨by omega, hnot.succ hx (by assumption)⟩ (by omega) rfl ?_
  exact (.get rfl (VLe.int (by omega)) (.keep 18 rfl rfl))
 refine Z19 ?_
 refine Rt1 ?_
 exact VLe.prop (named_iff2 (hnot.all (by omega)))
theorem typed_spec {l : List UInt8} : FnP Tryz.prog 50 [sliceV 1 encU8 l] (propV (TypedP l)) := by
 refine In 25 Tryz.func50 fun _ _ _ => ?_
 refine .fact (t := 0) rfl (fun S w v h => sliceV_len h) fun hlen => ?_
 refine Z12 ?_
 refine .loopO (σ := Nat) (fun _ => []) (fun k => [(3, intV .i64 (k : Int))]) (fun k => k ≤ l.length ∧ NotB (fun b : UInt8 => (b.toNat : Int) ≠ 126 ∧ (b.toNat : Int) ≠ 127) l k) (fun k => l.length - k) 0 ⟨by omega, NotB.zero _ l⟩ rfl ?_ ?_
 · exact (.get rfl (VLe.refl _) (.refl _ _))
 rintro k ⟨hk, hnot⟩
 refine Z9 ?_
 refine Cd (fun c0 => ?_) fun c0 => ?_
 ·
  obtain ⟨x, hx⟩ := getElem?_lt (xs := l) (k := k) (by omega)
  refine Z8 ?_
  refine .p (cI _) rfl ?_
  refine Z5 ?_
  refine .g (OpG.gT rfl rfl rfl rfl (fun hg => opIndexAddr Tryz.underlying64 Tryz.cz5 rfl (.when (.t rfl) hg) (.when (.t rfl) hg) rfl (by assumption))) rfl rfl ?_
  refine Z5 ?_
  refine Cd (fun c1 => ?_) fun c1 => ?_
  ·
   refine Z11 ?_
   refine Rt1 ?_
   exact VLe.prop (typed_bad hx (by assumption)).symm
  refine Z8 ?_
  refine .round (k + 1) ⟨by omega, hnot.succ hx (by assumption)⟩ (by omega) rfl ?_
  exact (.get rfl (VLe.int (by omega)) (.keep 20 rfl rfl))
 refine Z14 ?_
 refine Rt1 ?_
 exact VLe.prop (typed_iff2 (hnot.all (by omega)))
theorem first_spec {n : Nat} {g : Nat → Int} (hp0 : n ≤ 281474976710656) : FnP Tryz.prog 148 [intV .i64 (n : Int), funV Tryz.prog (fun i : Nat => i < n) (fun i => [intV .i64 (i : Int)]) (fun i => intV .i64 (g i))] (intV .i64 (firstE g n)) := by
 refine In 18 Tryz.func148 fun _ _ _ => ?_
 refine Z13 ?_
 refine .loopO (σ := Nat) (fun _ => []) (fun k => [(8, intV .i64 (k : Int))]) (fun k => k ≤ n ∧ firstE g k = 0) (fun k => n - k) 0 ⟨by omega, rfl⟩ rfl ?_ ?_
 · exact (.get rfl (VLe.refl _) (.refl _ _))
 rintro k ⟨hk, hg⟩
 refine Z6 ?_
 refine Cd (fun c0 => ?_) fun c0 => ?_
 ·
  refine Z14 ?_
  refine .p (cV k (h := by show k < n; omega)) rfl ?_
  refine Z9 ?_
  refine Cd (fun c1 => ?_) fun c1 => ?_
  ·
   refine Z12 ?_
   refine Rt1 ?_
   exact VLe.int (firstE_at hg c1 (by omega)).symm
  refine Z7 ?_
  refine .round (k + 1) ⟨by omega, by simp only [firstE, hg]; simpa using c1⟩ (by omega) rfl ?_
  exact (.get rfl (VLe.int (by omega)) (.keep 12 rfl rfl))
 refine Z11 ?_
 refine Rt1 ?_
 exact VLe.int (by rw [show n = k by omega]; exact hg.symm)
theorem many_spec {n : Nat} {most : Int} {g : Nat → Int} (hp0 : n ≤ 281474976710656) : FnP Tryz.prog 142 [intV .i64 (n : Int), intV .i64 most, funV Tryz.prog (fun i : Nat => i < n) (fun i => [intV .i64 (i : Int)]) (fun i => intV .i64 (g i))] (intV .i64 (manyE n most g)) := by
 refine In 13 Tryz.func142 fun _ _ _ => ?_
 refine Z13 ?_
 refine Cd (fun c0 => ?_) fun c0 => ?_
 ·
  refine Z7 ?_
  refine Rt1 ?_
  exact VLe.int (by simp [manyE, *])
 refine Z6 ?_
 refine .p (cA (h := first_spec (by first | assumption | omega))) rfl ?_
 refine Z4 ?_
 refine Rt1 ?_
 exact VLe.int (by simp [manyE, *])
theorem count_spec {m : ModD} : FnP Tryz.prog 93 [ptrV (encMod m)] (intV .i64 (countM m)) := by
 refine In 16 Tryz.func93 fun _ _ _ => ?_
 refine .fact (t := 0) rfl (fun S w v h => modLens h) fun hl => ?_
 have hl1 := hl.sigs; have hl2 := hl.imports; have hl3 := hl.funcs; have hl4 := hl.mems; have hl5 := hl.globals; have hl6 := hl.exports; have hl7 := hl.elems; have hl8 := hl.datas
 refine Z12 ?_
 refine Cd (fun c0 => ?_) fun c0 => ?_
 · exact c0.elim
 refine Z3 ?_
 refine .drawK 10 2 FM.out (by kernel_rfl) (k := ?_)
 refine Z16 ?_
 refine Rt1 ?_
 first | exact VLe.refl _ | exact VLe.int (by omega) | exact VLe.prop (by omega) | exact VLe.prop (by simp_all) | exact VLe.prop (by simp; omega)
theorem sigsc_spec {m : ModD} {i : Nat} (hp0 : i < m.Sigs.length) : FnP Tryz.prog 143 [intV .i64 (i : Int), ptrV [ptrV (encMod m)]] (intV .i64 (onI m.Sigs sigE i)) := by
 refine In 14 Tryz.func143 fun _ _ _ => ?_
 refine .fact (t := 1) rfl (fun S w v h => modLens2 h) fun hl => ?_
 have hl1 := hl.sigs; have hl2 := hl.imports; have hl3 := hl.funcs; have hl4 := hl.mems; have hl5 := hl.globals; have hl6 := hl.exports; have hl7 := hl.elems; have hl8 := hl.datas
 obtain ⟨x, hx⟩ := getElem?_lt hp0
 refine Z12 ?_
 refine .p (cI _) rfl ?_
 refine Z1 ?_
 refine .p (cA (h := right_spec)) rfl ?_
 refine Z1 ?_
 refine .p (cA (h := when_spec)) rfl ?_
 refine Z4 ?_
 refine Rt1 ?_
 exact VLe.int (by rw [onI_eq hx]; rfl)
theorem importsc_spec {m : ModD} {i : Nat} (hp0 : i < m.Imports.length) : FnP Tryz.prog 146 [intV .i64 (i : Int), ptrV [ptrV (encMod m)]] (intV .i64 (onI m.Imports (importE m) i)) := by
 refine In 32 Tryz.func146 fun _ _ _ => ?_
 refine .fact (t := 1) rfl (fun S w v h => modLens2 h) fun hl => ?_
 have hl1 := hl.sigs; have hl2 := hl.imports; have hl3 := hl.funcs; have hl4 := hl.mems; have hl5 := hl.globals; have hl6 := hl.exports; have hl7 := hl.elems; have hl8 := hl.datas
 obtain ⟨x, hx⟩ := getElem?_lt hp0
 refine Z12 ?_
 refine .p (cI _) rfl ?_
 refine Z1 ?_
 refine .n (opAlloc Tryz.zb102) rfl fun b4 _ => ?_
 refine Z3 ?_
 refine .share (t := 4) (i := 0) rfl rfl ?_
 refine Z5 ?_
 refine .p (cA (h := named_spec)) rfl ?_
 refine Z4 ?_
 refine .g (OpG.gF rfl rfl rfl rfl (fun hg => opCall (named_spec) Tryz.cb147 (.cons (.when (.t rfl) hg) .nil))) rfl rfl ?_
 refine Z4 ?_
 refine Cd (fun c0 => ?_) fun c0 => ?_
 ·
  refine Z7 ?_
  refine Rt1 ?_
  exact VLe.int (by rw [onI_eq hx]; simp only [importE]; first | rw [if_pos (by assumption)] | rw [if_neg (by assumption)])
 refine Z3 ?_
 refine .drawK 7 4 FM.out (by kernel_rfl) (k := ?_)
 refine Z8 ?_
 refine .p (cA (h := has_spec)) rfl ?_
 refine Z1 ?_
 refine .p (cA (h := when_spec)) rfl ?_
 refine Z4 ?_
 refine Rt1 ?_
 exact VLe.int (by rw [onI_eq hx]; simp only [importE]; first | rw [if_pos (by assumption)] | rw [if_neg (by assumption)])
theorem funcsc_spec {m : ModD} {i : Nat} (hp0 : i < m.Funcs.length) : FnP Tryz.prog 149 [intV .i64 (i : Int), ptrV [ptrV (encMod m)]] (intV .i64 (onI m.Funcs (funcE m) i)) := by
 refine In 20 Tryz.func149 fun _ _ _ => ?_
 refine .fact (t := 1) rfl (fun S w v h => modLens2 h) fun hl => ?_
 have hl1 := hl.sigs; have hl2 := hl.imports; have hl3 := hl.funcs; have hl4 := hl.mems; have hl5 := hl.globals; have hl6 := hl.exports; have hl7 := hl.elems; have hl8 := hl.datas
 obtain ⟨x, hx⟩ := getElem?_lt hp0
 refine Z6 ?_
 refine .drawK 13 4 FM.out (by kernel_rfl) (k := ?_)
 refine Z5 ?_
 refine .p (cI _) ?_
 refine Z8 ?_
 refine .p (cA (h := has_spec)) rfl ?_
 refine Z1 ?_
 refine .p (cA (h := when_spec)) rfl ?_
 refine Z4 ?_
 refine Rt1 ?_
 exact VLe.int (by rw [onI_eq hx]; rfl)
theorem memsc_spec {m : ModD} {i : Nat} (hp0 : i < m.Mems.length) : FnP Tryz.prog 150 [intV .i64 (i : Int), ptrV [ptrV (encMod m)]] (intV .i64 (onI m.Mems memE i)) := by
 refine In 14 Tryz.func150 fun _ _ _ => ?_
 refine .fact (t := 1) rfl (fun S w v h => modLens2 h) fun hl => ?_
 have hl1 := hl.sigs; have hl2 := hl.imports; have hl3 := hl.funcs; have hl4 := hl.mems; have hl5 := hl.globals; have hl6 := hl.exports; have hl7 := hl.elems; have hl8 := hl.datas
 obtain ⟨x, hx⟩ := getElem?_lt hp0
 refine Z12 ?_
 refine .p (cI _) rfl ?_
 refine Z1 ?_
 refine .p (cA (h := lright_spec)) rfl ?_
 refine Z1 ?_
 refine .p (cA (h := when_spec)) rfl ?_
 refine Z4 ?_
 refine Rt1 ?_
 exact VLe.int (by rw [onI_eq hx]; rfl)
theorem globalsc_spec {m : ModD} {i : Nat} (hp0 : i < m.Globals.length) : FnP Tryz.prog 152 [intV .i64 (i : Int), ptrV [ptrV (encMod m)]] (intV .i64 (onI m.Globals globalE i)) := by
 refine In 27 Tryz.func152 fun _ _ _ => ?_
 refine .fact (t := 1) rfl (fun S w v h => modLens2 h) fun hl => ?_
 have hl1 := hl.sigs; have hl2 := hl.imports; have hl3 := hl.funcs; have hl4 := hl.mems; have hl5 := hl.globals; have hl6 := hl.exports; have hl7 := hl.elems; have hl8 := hl.datas
 obtain ⟨x, hx⟩ := getElem?_lt hp0
 refine Z12 ?_
 refine .p (cI _) rfl ?_
 refine Z1 ?_
 refine .n (opAlloc Tryz.zb109) rfl fun b4 _ => ?_
 refine Z3 ?_
 refine .share (t := 4) (i := 0) rfl rfl ?_
 refine Z4 ?_
 refine .p (cA (h := bits_spec)) rfl ?_
 refine Z11 ?_
 refine .p (cA (h := when_spec)) rfl ?_
 refine Z4 ?_
 refine Rt1 ?_
 exact VLe.int (by rw [onI_eq hx]; rfl)
theorem sigs_spec {m : ModD} : FnP Tryz.prog 109 [ptrV (encMod m)] (intV .i64 (sigsE m)) := by
 refine In 10 Tryz.func109 fun _ _ _ => ?_
 refine .fact (t := 0) rfl (fun S w v h => modLens h) fun hl => ?_
 have hl1 := hl.sigs; have hl2 := hl.imports; have hl3 := hl.funcs; have hl4 := hl.mems; have hl5 := hl.globals; have hl6 := hl.exports; have hl7 := hl.elems; have hl8 := hl.datas
 refine Z13 ?_
 refine .p (opMakeFunc (A := Nat) (ok := fun i => i < m.Sigs.length) (arg := fun i => [intV .i64 (i : Int)]) (res := fun i => intV .i64 (onI m.Sigs sigE i)) Tryz.cb143 .nil (.cons (.t rfl) .nil) (fun i hi => sigsc_spec hi)) rfl ?_
 refine .p (cA (h := many_spec (by first | assumption | omega))) rfl ?_
 refine Z4 ?_
 refine Rt1 ?_
 exact VLe.refl _
theorem imports_spec {m : ModD} : FnP Tryz.prog 110 [ptrV (encMod m)] (intV .i64 (importsE m)) := by
 refine In 10 Tryz.func110 fun _ _ _ => ?_
 refine .fact (t := 0) rfl (fun S w v h => modLens h) fun hl => ?_
 have hl1 := hl.sigs; have hl2 := hl.imports; have hl3 := hl.funcs; have hl4 := hl.mems; have hl5 := hl.globals; have hl6 := hl.exports; have hl7 := hl.elems; have hl8 := hl.datas
 refine Z13 ?_
 refine .p (opMakeFunc (A := Nat) (ok := fun i => i < m.Imports.length) (arg := fun i => [intV .i64 (i : Int)]) (res := fun i => intV .i64 (onI m.Imports (importE m) i)) Tryz.cb146 .nil (.cons (.t rfl) .nil) (fun i hi => importsc_spec hi)) rfl ?_
 refine .p (cA (h := many_spec (by first | assumption | omega))) rfl ?_
 refine Z4 ?_
 refine Rt1 ?_
 exact VLe.refl _
theorem mems_spec {m : ModD} : FnP Tryz.prog 113 [ptrV (encMod m)] (intV .i64 (memsE m)) := by
 refine In 10 Tryz.func113 fun _ _ _ => ?_
 refine .fact (t := 0) rfl (fun S w v h => modLens h) fun hl => ?_
 have hl1 := hl.sigs; have hl2 := hl.imports; have hl3 := hl.funcs; have hl4 := hl.mems; have hl5 := hl.globals; have hl6 := hl.exports; have hl7 := hl.elems; have hl8 := hl.datas
 refine Z13 ?_
 refine .p (opMakeFunc (A := Nat) (ok := fun i => i < m.Mems.length) (arg := fun i => [intV .i64 (i : Int)]) (res := fun i => intV .i64 (onI m.Mems memE i)) Tryz.cb150 .nil (.cons (.t rfl) .nil) (fun i hi => memsc_spec hi)) rfl ?_
 refine .p (cA (h := many_spec (by first | assumption | omega))) rfl ?_
 refine Z4 ?_
 refine Rt1 ?_
 exact VLe.refl _
theorem globals_spec {m : ModD} : FnP Tryz.prog 114 [ptrV (encMod m)] (intV .i64 (globalsE m)) := by
 refine In 10 Tryz.func114 fun _ _ _ => ?_
 refine .fact (t := 0) rfl (fun S w v h => modLens h) fun hl => ?_
 have hl1 := hl.sigs; have hl2 := hl.imports; have hl3 := hl.funcs; have hl4 := hl.mems; have hl5 := hl.globals; have hl6 := hl.exports; have hl7 := hl.elems; have hl8 := hl.datas
 refine Z13 ?_
 refine .p (opMakeFunc (A := Nat) (ok := fun i => i < m.Globals.length) (arg := fun i => [intV .i64 (i : Int)]) (res := fun i => intV .i64 (onI m.Globals globalE i)) Tryz.cb152 .nil (.cons (.t rfl) .nil) (fun i hi => globalsc_spec hi)) rfl ?_
 refine .p (cA (h := many_spec (by first | assumption | omega))) rfl ?_
 refine Z4 ?_
 refine Rt1 ?_
 exact VLe.refl _
theorem funcs_spec {m : ModD} : FnP Tryz.prog 111 [ptrV (encMod m)] (intV .i64 (funcsE m)) := by
 refine In 13 Tryz.func111 fun _ _ _ => ?_
 refine .fact (t := 0) rfl (fun S w v h => modLens h) fun hl => ?_
 have hl1 := hl.sigs; have hl2 := hl.imports; have hl3 := hl.funcs; have hl4 := hl.mems; have hl5 := hl.globals; have hl6 := hl.exports; have hl7 := hl.elems; have hl8 := hl.datas
 refine Z10 ?_
 refine .p (cA (h := count_spec)) rfl ?_
 refine Z3 ?_
 refine Cd (fun c0 => ?_) fun c0 => ?_
 ·
  refine Z7 ?_
  refine Rt1 ?_
  exact VLe.int (by simp [funcsE, *])
 refine Z9 ?_
 refine .p (opMakeFunc (A := Nat) (ok := fun i => i < m.Funcs.length) (arg := fun i => [intV .i64 (i : Int)]) (res := fun i => intV .i64 (onI m.Funcs (funcE m) i)) Tryz.cb149 .nil (.cons (.t rfl) .nil) (fun i hi => funcsc_spec hi)) rfl ?_
 refine .p (cA (h := first_spec (by first | assumption | omega))) rfl ?_
 refine Z4 ?_
 refine Rt1 ?_
 exact VLe.int (by simp [funcsE, *])
theorem table_spec {m : ModD} : FnP Tryz.prog 112 [ptrV (encMod m)] (intV .i64 (tableE m)) := by
 refine In 14 Tryz.func112 fun _ _ _ => ?_
 refine Z15 ?_
 refine Cd (fun c0 => ?_) fun c0 => ?_
 ·
  refine Z7 ?_
  refine Rt1 ?_
  exact VLe.int (by simp [tableE, *])
 refine Z9 ?_
 refine .p (cA (h := when_spec)) rfl ?_
 refine Z4 ?_
 refine Rt1 ?_
 exact VLe.int (by simp [tableE, *])
theorem number_spec {m : ModD} {f : Int} : FnP Tryz.prog 62 [ptrV (encMod m), intV .i64 f] (tupV [intV .i64 ((numberO m f).getD 0), propV (numberO m f).isSome]) := by
 refine In 43 Tryz.func62 fun _ _ _ => ?_
 refine .fact (t := 0) rfl (fun S w v h => modLens h) fun hl => ?_
 have hl1 := hl.sigs; have hl2 := hl.imports; have hl3 := hl.funcs; have hl4 := hl.mems; have hl5 := hl.globals; have hl6 := hl.exports; have hl7 := hl.elems; have hl8 := hl.datas
 refine Z24 ?_
 refine .g (OpG.gF rfl rfl rfl rfl (fun hg => opCall (count_spec) Tryz.cb93 (.cons (.when (.t rfl) hg) .nil))) rfl rfl ?_
 refine Z5 ?_
 refine Cd (fun c0 => ?_) fun c0 => ?_
 ·
  refine Z8 ?_
  refine Rt2 ?_ ?_
  · exact VLe.int (by simp [numberO, *])
  exact VLe.prop (by simp [numberO, *])
 refine Z8 ?_
 refine Cd (fun c1 => ?_) fun c1 => ?_
 ·
  refine Z1 ?_
  obtain ⟨j, rfl⟩ : ∃ j : Nat, f = (j : Int) := ⟨f.toNat, by omega⟩
  obtain ⟨x, hx⟩ := getElem?_lt (xs := m.Imports) (k := j) (by omega)
  refine Z6 ?_
  refine .p (cI _) rfl ?_
  refine Z8 ?_
  refine Rt2 ?_ ?_
  · exact VLe.int (by rw [numberO_import (by omega) hx]; rfl)
  exact VLe.prop (by rw [numberO_import (by omega) hx]; simp)
 refine Z1 ?_
 obtain ⟨j, rfl⟩ : ∃ j : Nat, f = (m.Imports.length : Int) + (j : Int) := ⟨(f - m.Imports.length).toNat, by omega⟩
 have hcm : countM m = (m.Imports.length : Int) + (m.Funcs.length : Int) := rfl
 obtain ⟨x, hx⟩ := getElem?_lt (xs := m.Funcs) (k := j) (by omega)
 refine Z8 ?_
 refine .p (cI j) rfl ?_
 refine Z8 ?_
 refine Rt2 ?_ ?_
 · exact VLe.int (by rw [numberO_func hx]; rfl)
 exact VLe.prop (by rw [numberO_func hx]; simp)
theorem msig_spec {m : ModD} {f : Int} : FnP Tryz.prog 43 [ptrV (encMod m), intV .i64 f] (tupV [aggV (encSig ((sigO m f).getD ⟨[], []⟩)), propV (sigO m f).isSome]) := by
 refine In 37 Tryz.func43 fun _ _ _ => ?_
 refine .fact (t := 0) rfl (fun S w v h => modLens h) fun hl => ?_
 have hl1 := hl.sigs; have hl2 := hl.imports; have hl3 := hl.funcs; have hl4 := hl.mems; have hl5 := hl.globals; have hl6 := hl.exports; have hl7 := hl.elems; have hl8 := hl.datas
 refine Z2 ?_
 refine .n (opAlloc Tryz.zb68) rfl fun b4 _ => ?_
 refine Z10 ?_
 refine Cd (fun c0 => ?_) fun c0 => ?_
 · exact c0.elim
 refine Z6 ?_
 refine .p (cA (h := number_spec)) rfl ?_
 refine Z19 ?_
 refine .g (OpG.gF rfl rfl rfl rfl (fun hg => opCall (has_spec) Tryz.cb63 (.cons (.when (.t rfl) hg) (.cons (.when (.t rfl) hg) .nil)))) rfl rfl ?_
 refine Z4 ?_
 refine Cd (fun c1 => ?_) fun c1 => ?_
 ·
  refine Z9 ?_
  refine Post.retR rfl rfl () trivial (fun _ _ _ _ => trivial) rfl (.cons (.ra (i := 0) Tryz.ag68 Tryz.cz68 rfl rfl rfl rfl) ?_ (.cons (.rt rfl) ?_ .nil))
  · rw [sigO_none c1]; exact VLe.agg2 (sliceV_nil _ _) (sliceV_nil _ _)
  exact VLe.prop (by rw [sigO_none c1]; simp)
 refine Z3 ?_
 obtain ⟨n, hn⟩ : ∃ n, numberO m f = some n := Option.isSome_iff_exists.1 (Classical.byContradiction fun h => c1 (.inl h))
 have hin : InP n m.Sigs.length := Classical.byContradiction fun h => c1 (.inr (by rw [hn]; exact h))
 obtain ⟨j, hj⟩ : ∃ j : Nat, n = (j : Int) := ⟨n.toNat, by have := hin.1; omega⟩
 obtain ⟨x, hx⟩ := getElem?_lt (xs := m.Sigs) (k := j) (by have := hin.2; omega)
 refine Z6 ?_
 refine .p (cI j (h := by assumption) (hi := by rw [hn, hj]; rfl)) rfl ?_
 refine Z6 ?_
 refine Post.retR rfl rfl () trivial (fun _ _ _ _ => trivial) rfl (.cons (.ra (i := 0) Tryz.ag68 Tryz.cz68 rfl rfl rfl rfl) ?_ (.cons (.rt rfl) ?_ .nil))
 · rw [sigO_some hn hj hx]; exact VLe.refl _
 exact VLe.prop (by rw [sigO_some hn hj hx]; simp)
theorem start_spec {m : ModD} : FnP Tryz.prog 116 [ptrV (encMod m)] (intV .i64 (startE m)) := by
 refine In 30 Tryz.func116 fun _ _ _ => ?_
 refine .fact (t := 0) rfl (fun S w v h => modLens h) fun hl => ?_
 have hl1 := hl.sigs; have hl2 := hl.imports; have hl3 := hl.funcs; have hl4 := hl.mems; have hl5 := hl.globals; have hl6 := hl.exports; have hl7 := hl.elems; have hl8 := hl.datas
 refine Z15 ?_
 refine Cd (fun c0 => ?_) fun c0 => ?_
 ·
  refine Z7 ?_
  refine Rt1 ?_
  exact VLe.int (by simp [startE, *])
 refine Z9 ?_
 refine .p (cA (h := msig_spec)) rfl ?_
 refine Z3 ?_
 refine .n (opAlloc Tryz.zb68) rfl fun b3 _ => ?_
 refine Z4 ?_
 refine .share (t := 3) (i := 0) rfl rfl ?_
 refine .fact (t := 17) rfl (fun S w v h => And.intro (aggV_len h 0 rfl) (aggV_len h 1 rfl)) fun hs2 => ?_
 obtain ⟨hs3, hs4⟩ := hs2
 refine Z7 ?_
 refine Cd (fun c1 => ?_) fun c1 => ?_
 ·
  refine Z7 ?_
  refine Rt1 ?_
  exact VLe.int (startE_none c0 c1).symm
 refine Z12 ?_
 refine .p (cA (h := when_spec)) rfl ?_
 refine Z4 ?_
 refine Rt1 ?_
 exact VLe.int (startE_some c0 c1).symm
theorem counts_spec {m : ModD} : FnP Tryz.prog 154 [ptrV (encMod m)] (aggV [intV .i64 (cnt m 0), intV .i64 (cnt m 1), intV .i64 (cnt m 2), intV .i64 (cnt m 3)]) := by
 refine In 22 Tryz.func154 fun _ _ _ => ?_
 refine .fact (t := 0) rfl (fun S w v h => modLens h) fun hl => ?_
 have hl1 := hl.sigs; have hl2 := hl.imports; have hl3 := hl.funcs; have hl4 := hl.mems; have hl5 := hl.globals; have hl6 := hl.exports; have hl7 := hl.elems; have hl8 := hl.datas
 refine Z2 ?_
 refine .n (opAlloc Tryz.zb248) rfl fun b2 _ => ?_
 refine Z3 ?_
 refine .drawK 18 2 FM.out (by kernel_rfl) (k := ?_)
 refine Z1 ?_
 refine .p (cA (h := count_spec)) ?_
 refine Z4 ?_
 refine .p (opAdd (.t rfl) (.c _)) ?_
 refine .p (opMin (.t rfl) (.c _)) ?_
 refine Z11 ?_
 refine .p (opBuildArr Tryz.ar248 Tryz.zb248 (.cons (.t rfl) (.cons (.t rfl) (.cons (.t rfl) (.cons (.t rfl) .nil)))) rfl) rfl ?_
 refine Z4 ?_
 refine Post.retR1 rfl () trivial (fun _ _ _ _ => trivial) (.ra (i := 0) Tryz.ag248 Tryz.cz248 rfl rfl rfl rfl) ?_
 exact VLe.refl _
theorem exportscc_spec {x y : ExportD} : FnP Tryz.prog 157 [aggV (encExport y), ptrV (encExport x)] (propV (y.Name = x.Name)) := by
 refine In 9 Tryz.func157 fun _ _ _ => ?_
 refine Z17 ?_
 refine Rt1 ?_
 first | exact VLe.refl _ | exact VLe.int (by omega) | exact VLe.prop (by omega) | exact VLe.prop (by simp_all) | exact VLe.prop (by simp; omega)
theorem exportsc_spec {m : ModD} {i : Nat} (hp0 : i < m.Exports.length) : FnP Tryz.prog 155 [intV .i64 (i : Int), ptrV [ptrV (encMod m)], ptrV [intV .i64 (cnt m 0), intV .i64 (cnt m 1), intV .i64 (cnt m 2), intV .i64 (cnt m 3)]] (intV .i64 (exportE m i)) := by
 refine In 46 Tryz.func155 fun _ _ _ => ?_
 refine .fact (t := 1) rfl (fun S w v h => modLens2 h) fun hl => ?_
 have hl1 := hl.sigs; have hl2 := hl.imports; have hl3 := hl.funcs; have hl4 := hl.mems; have hl5 := hl.globals; have hl6 := hl.exports; have hl7 := hl.elems; have hl8 := hl.datas
 obtain ⟨x, hx⟩ := getElem?_lt hp0
 refine Z12 ?_
 refine .p (cI _) rfl ?_
 refine Z1 ?_
 refine .n (opAlloc Tryz.zb112) rfl fun b5 _ => ?_
 refine Z3 ?_
 refine .share (t := 5) (i := 0) rfl rfl ?_
 refine Z7 ?_
 refine .p (opSliceHi Tryz.underlying27 Tryz.cz112 rfl (.t rfl) (.t rfl) rfl (by omega)) rfl ?_
 refine .p (opMakeFunc (A := ExportD) (ok := fun _ => True) (arg := fun y => [aggV (encExport y)]) (res := fun y => propV (y.Name = x.Name)) Tryz.cb157 .nil (.cons (.t rfl) .nil) (fun y _ => exportscc_spec)) rfl ?_
 refine .p (cA (h := conExport_spec)) rfl ?_
 refine Z8 ?_
 refine .p (cA (h := named_spec)) rfl ?_
 refine Z6 ?_
 refine Cd (fun c0 => ?_) fun c0 => ?_
 ·
  refine Z7 ?_
  refine Rt1 ?_
  exact VLe.int (exportE_name hx c0).symm
 refine Z3 ?_
 refine .drawK 13 5 FM.out (by kernel_rfl) (k := ?_)
 refine Z2 ?_
 refine .p (cA (h := has_spec)) ?_
 refine Z6 ?_
 refine .cons (OpG.gF rfl rfl rfl rfl (fun hg => opMin (.when (.t rfl) hg) (.c _))) ?_
 refine Z1 ?_
 refine .cons (OpG.gF rfl rfl rfl rfl (fun hg => opIndexAddrA (kindJ x.Kind) Tryz.underlying248 Tryz.cz3 rfl (.t rfl) (.when (.t rfl) hg) (by unfold kindJ; omega) (by unfold kindJ; omega))) ?_
 refine .cons (OpG.gF rfl rfl rfl rfl (fun hg => opLoad Tryz.ag3 (.le (.when (.t rfl) hg) (ptrV_at (cnt_at m (kindJ x.Kind) (by unfold kindJ; omega)))))) ?_
 refine Z1 ?_
 refine .g (OpG.gF rfl rfl rfl rfl (fun hg => opCall (has_spec) Tryz.cb63 (.cons (.when (.t rfl) hg) (.cons (.when (.t rfl) hg) .nil)))) rfl rfl ?_
 refine Z2 ?_
 refine .p (cA (h := when_spec)) rfl ?_
 refine Z4 ?_
 refine Rt1 ?_
 exact VLe.int (exportE_rest hx c0).symm
theorem exports_spec {m : ModD} : FnP Tryz.prog 115 [ptrV (encMod m)] (intV .i64 (exportsE m)) := by
 refine In 13 Tryz.func115 fun _ _ _ => ?_
 refine .fact (t := 0) rfl (fun S w v h => modLens h) fun hl => ?_
 have hl1 := hl.sigs; have hl2 := hl.imports; have hl3 := hl.funcs; have hl4 := hl.mems; have hl5 := hl.globals; have hl6 := hl.exports; have hl7 := hl.elems; have hl8 := hl.datas
 refine Z9 ?_
 refine .p (cA (h := counts_spec)) rfl ?_
 refine .n (opAlloc Tryz.zb248) rfl fun b3 _ => ?_
 refine Z3 ?_
 refine .share (t := 3) (i := 0) rfl rfl ?_
 refine Z7 ?_
 refine .p (opMakeFunc (A := Nat) (ok := fun i => i < m.Exports.length) (arg := fun i => [intV .i64 (i : Int)]) (res := fun i => intV .i64 (exportE m i)) Tryz.cb155 .nil (.cons (.t rfl) (.cons (.t rfl) .nil)) (fun i hi => exportsc_spec hi)) rfl ?_
 refine .p (cA (h := many_spec (by first | assumption | omega))) rfl ?_
 refine Z4 ?_
 refine Rt1 ?_
 exact VLe.refl _
theorem elemscc_spec {m : ModD} {f : Int} : FnP Tryz.prog 160 [intV .i64 f, ptrV [ptrV (encMod m)]] (propV (¬ InP f (countM m))) := by
 refine In 9 Tryz.func160 fun _ _ _ => ?_
 refine Z9 ?_
 refine .p (cA (h := count_spec)) rfl ?_
 refine .p (cA (h := has_spec)) rfl ?_
 refine Z5 ?_
 refine Rt1 ?_
 first | exact VLe.refl _ | exact VLe.int (by omega) | exact VLe.prop (by omega) | exact VLe.prop (by simp_all) | exact VLe.prop (by simp; omega)
theorem elemsc_spec {m : ModD} {i : Nat} (hp0 : i < m.Elems.length) : FnP Tryz.prog 158 [intV .i64 (i : Int), ptrV [ptrV (encMod m)]] (intV .i64 (onI m.Elems (elemE m) i)) := by
 refine In 35 Tryz.func158 fun _ _ _ => ?_
 refine .fact (t := 1) rfl (fun S w v h => modLens2 h) fun hl => ?_
 have hl1 := hl.sigs; have hl2 := hl.imports; have hl3 := hl.funcs; have hl4 := hl.mems; have hl5 := hl.globals; have hl6 := hl.exports; have hl7 := hl.elems; have hl8 := hl.datas
 obtain ⟨x, hx⟩ := getElem?_lt hp0
 refine Z12 ?_
 refine .p (cI _) rfl ?_
 refine Z1 ?_
 refine .n (opAlloc Tryz.zb90) rfl fun b4 _ => ?_
 refine Z3 ?_
 refine .share (t := 4) (i := 0) rfl rfl ?_
 refine Z9 ?_
 refine Cd (fun c0 => ?_) fun c0 => ?_
 ·
  refine Z7 ?_
  refine Rt1 ?_
  exact VLe.int (by rw [onI_eq hx]; simp [elemE, *])
 refine Z6 ?_
 refine .p (opMakeFunc (A := Int) (ok := fun _ => True) (arg := fun f => [intV .i64 f]) (res := fun f => propV (¬ InP f (countM m))) Tryz.cb160 .nil (.cons (.t rfl) .nil) (fun f _ => elemscc_spec)) rfl ?_
 refine .p (cA (h := conInt_spec)) rfl ?_
 refine Z18 ?_
 refine .p (cA (h := when_spec)) rfl ?_
 refine Z4 ?_
 refine Rt1 ?_
 exact VLe.int (by rw [onI_eq hx]; exact (elemE_rest c0).symm)
theorem elems_spec {m : ModD} : FnP Tryz.prog 117 [ptrV (encMod m)] (intV .i64 (elemsE m)) := by
 refine In 10 Tryz.func117 fun _ _ _ => ?_
 refine .fact (t := 0) rfl (fun S w v h => modLens h) fun hl => ?_
 have hl1 := hl.sigs; have hl2 := hl.imports; have hl3 := hl.funcs; have hl4 := hl.mems; have hl5 := hl.globals; have hl6 := hl.exports; have hl7 := hl.elems; have hl8 := hl.datas
 refine Z13 ?_
 refine .p (opMakeFunc (A := Nat) (ok := fun i => i < m.Elems.length) (arg := fun i => [intV .i64 (i : Int)]) (res := fun i => intV .i64 (onI m.Elems (elemE m) i)) Tryz.cb158 .nil (.cons (.t rfl) .nil) (fun i hi => elemsc_spec hi)) rfl ?_
 refine .p (cA (h := many_spec (by first | assumption | omega))) rfl ?_
 refine Z4 ?_
 refine Rt1 ?_
 exact VLe.refl _
theorem datasc_spec {m : ModD} {i : Nat} (hp0 : i < m.Datas.length) : FnP Tryz.prog 161 [intV .i64 (i : Int), ptrV [ptrV (encMod m)]] (intV .i64 (onI m.Datas (dataE m) i)) := by
 refine In 51 Tryz.func161 fun _ _ _ => ?_
 refine .fact (t := 1) rfl (fun S w v h => modLens2 h) fun hl => ?_
 have hl1 := hl.sigs; have hl2 := hl.imports; have hl3 := hl.funcs; have hl4 := hl.mems; have hl5 := hl.globals; have hl6 := hl.exports; have hl7 := hl.elems; have hl8 := hl.datas
 obtain ⟨x, hx⟩ := getElem?_lt hp0
 refine Z12 ?_
 refine .p (cI _) rfl ?_
 refine Z1 ?_
 refine .n (opAlloc Tryz.zb95) rfl fun b4 _ => ?_
 refine Z3 ?_
 refine .share (t := 4) (i := 0) rfl rfl ?_
 refine Z9 ?_
 refine Cd (fun c0 => ?_) fun c0 => ?_
 ·
  refine Z7 ?_
  refine Rt1 ?_
  exact VLe.int (by rw [onI_eq hx]; simp [dataE, *])
 refine Z3 ?_
 refine .drawK 24 12 FM.out (by kernel_rfl) (k := ?_)
 refine Z7 ?_
 refine .p (cA (h := has_spec)) ?_
 refine Z14 ?_
 refine .cons (OpG.gF rfl rfl rfl rfl (fun hg => opMin (.when (.t rfl) hg) (.when (.t rfl) hg))) ?_
 refine Z2 ?_
 refine .g (OpG.gF rfl rfl rfl rfl (fun hg => opIndexAddr (j := x.Mem.toNat) Tryz.underlying25 Tryz.cz105 rfl (.when (.t rfl) hg) (.when (.t rfl) hg) (data_at (Classical.not_not.1 hg)) (data_mem (Classical.not_not.1 hg)))) rfl rfl ?_
 refine Z9 ?_
 refine .p (cA (h := when_spec)) rfl ?_
 refine Z4 ?_
 refine Rt1 ?_
 exact VLe.int (by rw [onI_eq hx]; exact (dataE_rest c0).symm)
theorem datas_spec {m : ModD} : FnP Tryz.prog 118 [ptrV (encMod m)] (intV .i64 (datasE m)) := by
 refine In 10 Tryz.func118 fun _ _ _ => ?_
 refine .fact (t := 0) rfl (fun S w v h => modLens h) fun hl => ?_
 have hl1 := hl.sigs; have hl2 := hl.imports; have hl3 := hl.funcs; have hl4 := hl.mems; have hl5 := hl.globals; have hl6 := hl.exports; have hl7 := hl.elems; have hl8 := hl.datas
 refine Z13 ?_
 refine .p (opMakeFunc (A := Nat) (ok := fun i => i < m.Datas.length) (arg := fun i => [intV .i64 (i : Int)]) (res := fun i => intV .i64 (onI m.Datas (dataE m) i)) Tryz.cb161 .nil (.cons (.t rfl) .nil) (fun i hi => datasc_spec hi)) rfl ?_
 refine .p (cA (h := many_spec (by first | assumption | omega))) rfl ?_
 refine Z4 ?_
 refine Rt1 ?_
 exact VLe.refl _
theorem fit_spec {m : ModD} : FnP Tryz.prog 80 [ptrV (encMod m)] (tupV [strV (fitP m).1, intV .i64 (fitP m).2]) := by
 refine In 52 Tryz.func80 fun _ _ _ => ?_
 refine Z2 ?_
 refine .p (opAssign (.s [] rfl rfl)) rfl ?_
 refine Z10 ?_
 refine Cd (fun c0 => ?_) fun c0 => ?_
 · exact c0.elim
 refine Z6 ?_
 refine .p (opMakeFunc (A := Unit) (ok := fun _ => True) (arg := fun _ => []) (res := fun _ => intV .i64 (sigsE m)) Tryz.cb109 (.cons (.t rfl) .nil) .nil (fun _ _ => sigs_spec)) rfl ?_
 refine .p (opBuild Tryz.pl200 Tryz.zb200 (.cons (.s [115, 105, 103, 115] rfl rfl) (.cons (.t rfl) .nil)) rfl) rfl ?_
 refine Z1 ?_
 refine .p (opMakeFunc (A := Unit) (ok := fun _ => True) (arg := fun _ => []) (res := fun _ => intV .i64 (importsE m)) Tryz.cb110 (.cons (.t rfl) .nil) .nil (fun _ _ => imports_spec)) rfl ?_
 refine .p (opBuild Tryz.pl200 Tryz.zb200 (.cons (.s [105, 109, 112, 111, 114, 116, 115] rfl rfl) (.cons (.t rfl) .nil)) rfl) rfl ?_
 refine Z1 ?_
 refine .p (opMakeFunc (A := Unit) (ok := fun _ => True) (arg := fun _ => []) (res := fun _ => intV .i64 (funcsE m)) Tryz.cb111 (.cons (.t rfl) .nil) .nil (fun _ _ => funcs_spec)) rfl ?_
 refine .p (opBuild Tryz.pl200 Tryz.zb200 (.cons (.s [102, 117, 110, 99, 115] rfl rfl) (.cons (.t rfl) .nil)) rfl) rfl ?_
 refine Z1 ?_
 refine .p (opMakeFunc (A := Unit) (ok := fun _ => True) (arg := fun _ => []) (res := fun _ => intV .i64 (tableE m)) Tryz.cb112 (.cons (.t rfl) .nil) .nil (fun _ _ => table_spec)) rfl ?_
 refine .p (opBuild Tryz.pl200 Tryz.zb200 (.cons (.s [116, 97, 98, 108, 101] rfl rfl) (.cons (.t rfl) .nil)) rfl) rfl ?_
 refine Z1 ?_
 refine .p (opMakeFunc (A := Unit) (ok := fun _ => True) (arg := fun _ => []) (res := fun _ => intV .i64 (memsE m)) Tryz.cb113 (.cons (.t rfl) .nil) .nil (fun _ _ => mems_spec)) rfl ?_
 refine .p (opBuild Tryz.pl200 Tryz.zb200 (.cons (.s [109, 101, 109, 115] rfl rfl) (.cons (.t rfl) .nil)) rfl) rfl ?_
 refine Z1 ?_
 refine .p (opMakeFunc (A := Unit) (ok := fun _ => True) (arg := fun _ => []) (res := fun _ => intV .i64 (globalsE m)) Tryz.cb114 (.cons (.t rfl) .nil) .nil (fun _ _ => globals_spec)) rfl ?_
 refine .p (opBuild Tryz.pl200 Tryz.zb200 (.cons (.s [103, 108, 111, 98, 97, 108, 115] rfl rfl) (.cons (.t rfl) .nil)) rfl) rfl ?_
 refine Z1 ?_
 refine .p (opMakeFunc (A := Unit) (ok := fun _ => True) (arg := fun _ => []) (res := fun _ => intV .i64 (exportsE m)) Tryz.cb115 (.cons (.t rfl) .nil) .nil (fun _ _ => exports_spec)) rfl ?_
 refine .p (opBuild Tryz.pl200 Tryz.zb200 (.cons (.s [101, 120, 112, 111, 114, 116, 115] rfl rfl) (.cons (.t rfl) .nil)) rfl) rfl ?_
 refine Z1 ?_
 refine .p (opMakeFunc (A := Unit) (ok := fun _ => True) (arg := fun _ => []) (res := fun _ => intV .i64 (startE m)) Tryz.cb116 (.cons (.t rfl) .nil) .nil (fun _ _ => start_spec)) rfl ?_
 refine .p (opBuild Tryz.pl200 Tryz.zb200 (.cons (.s [115, 116, 97, 114, 116] rfl rfl) (.cons (.t rfl) .nil)) rfl) rfl ?_
 refine Z1 ?_
 refine .p (opMakeFunc (A := Unit) (ok := fun _ => True) (arg := fun _ => []) (res := fun _ => intV .i64 (elemsE m)) Tryz.cb117 (.cons (.t rfl) .nil) .nil (fun _ _ => elems_spec)) rfl ?_
 refine .p (opBuild Tryz.pl200 Tryz.zb200 (.cons (.s [101, 108, 101, 109, 115] rfl rfl) (.cons (.t rfl) .nil)) rfl) rfl ?_
 refine Z1 ?_
 refine .p (opMakeFunc (A := Unit) (ok := fun _ => True) (arg := fun _ => []) (res := fun _ => intV .i64 (datasE m)) Tryz.cb118 (.cons (.t rfl) .nil) .nil (fun _ _ => datas_spec)) rfl ?_
 refine .p (opBuild Tryz.pl200 Tryz.zb200 (.cons (.s [100, 97, 116, 97] rfl rfl) (.cons (.t rfl) .nil)) rfl) rfl ?_
 refine .p (opBuildArr Tryz.ar201 Tryz.zb201 (.cons (.t rfl) (.cons (.t rfl) (.cons (.t rfl) (.cons (.t rfl) (.cons (.t rfl) (.cons (.t rfl) (.cons (.t rfl) (.cons (.t rfl) (.cons (.t rfl) (.cons (.t rfl) .nil)))))))))) rfl) rfl ?_
 refine Z4 ?_
 refine .loopO (σ := Nat) (fun _ => []) (fun k => [(40, intV .i64 (k : Int))]) (fun k => k ≤ 10 ∧ NotB (fun p : List UInt8 × Int => p.2 ≠ 0) (partsM m) k) (fun k => 10 - k) 0 ⟨by omega, NotB.zero _ _⟩ rfl ?_ ?_
 · exact (.get rfl (VLe.refl _) (.refl _ _))
 rintro k ⟨hk, hnot⟩
 refine Z6 ?_
 refine Cd (fun c1 => ?_) fun c1 => ?_
 ·
  obtain ⟨p, hp⟩ := getElem?_lt (xs := partsM m) (k := k) (by rw [parts_len]; omega)
  refine Z6 ?_
  refine .p (opIndexA (enc := encPart) (partsM m) Tryz.underlying201 Tryz.cz200 rfl Tryz.ag200 (.t rfl) rfl rfl (.t rfl) rfl (by assumption)) rfl ?_
  refine .n (opAlloc Tryz.zb200) rfl fun b5 _ => ?_
  refine Z3 ?_
  refine .share (t := 5) (i := 0) rfl rfl ?_
  refine Z4 ?_
  refine .p (cV ()) rfl ?_
  refine Z9 ?_
  refine Cd (fun c2 => ?_) fun c2 => ?_
  ·
   refine Z15 ?_
   refine Rt2 ?_ ?_
   · exact VLe.of_eq (by rw [fit_at hnot hp c2])
   exact VLe.of_eq (by rw [fit_at hnot hp c2])
  refine Z7 ?_
  refine .round (k + 1) ⟨by omega, hnot.succ hp (by assumption)⟩ (by omega) rfl ?_
  exact (.get rfl (VLe.int (by omega)) (.keep 13 rfl rfl))
 refine Z7 ?_
 refine .p (opAssign (.s [] rfl rfl)) rfl ?_
 refine Z4 ?_
 refine Rt2 ?_ ?_
 · exact VLe.of_eq (by rw [fit_none (hnot.all (by rw [parts_len]; omega))])
 exact VLe.of_eq (by rw [fit_none (hnot.all (by rw [parts_len]; omega))])
theorem eqType_spec {a b : List UInt8} : FnP Tryz.prog 58 [sliceV 1 encU8 a, sliceV 1 encU8 b] (propV (a = b)) := by
 refine In 26 Tryz.func58 fun _ _ _ => ?_
 refine .fact (t := 0) rfl (fun S w v h => sliceV_len h) fun hlen => ?_
 refine Z15 ?_
 refine Cd (fun c0 => ?_) fun c0 => ?_
 ·
  refine Z7 ?_
  refine Rt1 ?_
  exact VLe.prop (ne_len c0).symm
 refine Z11 ?_
 refine .loopO (σ := Nat) (fun _ => []) (fun k => [(13, intV .i64 (k : Int))]) (fun k => k ≤ a.length ∧ EqB a b k) (fun k => a.length - k) 0 ⟨by omega, EqB.zero _ _⟩ rfl ?_ ?_
 · exact (.get rfl (VLe.refl _) (.refl _ _))
 rintro k ⟨hk, heq⟩
 refine Z6 ?_
 refine Cd (fun c1 => ?_) fun c1 => ?_
 ·
  obtain ⟨x, hx⟩ := getElem?_lt (xs := a) (k := k) (by omega)
  obtain ⟨y, hy⟩ := getElem?_lt (xs := b) (k := k) (by omega)
  refine Z11 ?_
  refine .drawK 8 1 FM.out (by kernel_rfl) (k := ?_)
  refine Z2 ?_
  refine .p (cI _) ?_
  refine Z3 ?_
  refine .p (cI _) ?_
  refine Z5 ?_
  refine .cond (.le (.t rfl) (VLe.prop (not_congr u8_eq))) (fun c2 => ?_) (fun c2 => ?_)
  ·
   refine Z11 ?_
   refine Rt1 ?_
   exact VLe.prop (ne_at hx hy c2).symm
  refine Z7 ?_
  refine .round (k + 1) ⟨by omega, heq.succ hx hy (Classical.not_not.1 c2)⟩ (by omega) rfl ?_
  exact (.get rfl (VLe.int (by omega)) (.keep 15 rfl rfl))
 refine Z11 ?_
 refine Rt1 ?_
 exact VLe.prop (by simp [heq.all (by omega) (by omega)])
theorem eqU64_spec {a b : List Int} : FnP Tryz.prog 48 [sliceV 1 encU64 a, sliceV 1 encU64 b] (propV (a = b)) := by
 refine In 26 Tryz.func48 fun _ _ _ => ?_
 refine .fact (t := 0) rfl (fun S w v h => sliceV_len h) fun hlen => ?_
 refine Z15 ?_
 refine Cd (fun c0 => ?_) fun c0 => ?_
 ·
  refine Z7 ?_
  refine Rt1 ?_
  exact VLe.prop (ne_len c0).symm
 refine Z11 ?_
 refine .loopO (σ := Nat) (fun _ => []) (fun k => [(13, intV .i64 (k : Int))]) (fun k => k ≤ a.length ∧ EqB a b k) (fun k => a.length - k) 0 ⟨by omega, EqB.zero _ _⟩ rfl ?_ ?_
 · exact (.get rfl (VLe.refl _) (.refl _ _))
 rintro k ⟨hk, heq⟩
 refine Z6 ?_
 refine Cd (fun c1 => ?_) fun c1 => ?_
 ·
  obtain ⟨x, hx⟩ := getElem?_lt (xs := a) (k := k) (by omega)
  obtain ⟨y, hy⟩ := getElem?_lt (xs := b) (k := k) (by omega)
  refine Z11 ?_
  refine .drawK 8 1 FM.out (by kernel_rfl) (k := ?_)
  refine Z2 ?_
  refine .p (cI _) ?_
  refine Z3 ?_
  refine .p (cI _) ?_
  refine Z5 ?_
  refine Cd (fun c2 => ?_) fun c2 => ?_
  ·
   refine Z11 ?_
   refine Rt1 ?_
   exact VLe.prop (ne_at hx hy c2).symm
  refine Z7 ?_
  refine .round (k + 1) ⟨by omega, heq.succ hx hy (Classical.not_not.1 c2)⟩ (by omega) rfl ?_
  exact (.get rfl (VLe.int (by omega)) (.keep 15 rfl rfl))
 refine Z11 ?_
 refine Rt1 ?_
 exact VLe.prop (by simp [heq.all (by omega) (by omega)])
theorem isame_spec {a b : InstrD} : FnP Tryz.prog 17 [aggV (encInstr a), aggV (encInstr b)] (propV (a = b)) := by
 refine In 38 Tryz.func17 fun _ _ _ => ?_
 refine Z40 ?_
 refine .g (OpG.gT rfl rfl rfl rfl (fun hg => opCall (eqU64_spec) Tryz.cb48 (.cons (.when (.t rfl) hg) (.cons (.when (.t rfl) hg) .nil)))) rfl rfl ?_
 refine Z5 ?_
 refine Rt1 ?_
 exact VLe.prop instr_eq
end Go.Proofs.YtmmdlhjcmlekfaaGreatDoor
end
section
namespace Go.Proofs.YtmmdlhjcmlekfaaGreatDoor
open Go.Hl Go.RowKit
theorem l12great_spec {b : BodyD} : FnP Tryz.prog 46 [aggV (encBody b)] (intV .i64 (greatB b)) := by
 refine In 39 Tryz.func46 fun _ _ _ => ?_
 refine .fact (t := 0) rfl (fun S w v h => bodyLens h) fun hlen => ?_
 have hl1 := hlen.locals
 have hl2 := hlen.l
 refine Z29 ?_
 refine .loopO (σ := Nat) (fun _ => []) (fun k => [(4, intV .i64 (k : Int)), (3, intV .i64 (max ((b.Locals.length : Int) - 60) 0 + max ((b.L.length : Int) - 150) 0 + sumN (onI b.L gInstr) k))]) (fun k => k ≤ b.L.length ∧ k ≤ 150) (fun k => b.L.length - k) 0 ⟨by omega, by omega⟩ rfl ?_ ?_
 · exact (.get rfl (VLe.refl _) (.get rfl (VLe.int (by simp [sumN])) (.refl _ _)))
 rintro k ⟨hk, hk2⟩
 have hq := addN_part (by omega) (gInstr_le hlen) k
 refine Z14 ?_
 refine Cd (fun c0 => ?_) fun c0 => ?_
 ·
  obtain ⟨x, hx⟩ := getElem?_lt (xs := b.L) (k := k) (by omega)
  have hxl := hlen.all k x hx
  refine Z9 ?_
  refine .p (cI _) rfl ?_
  refine Z15 ?_
  refine .round (k + 1) ⟨by omega, by omega⟩ (by omega) rfl ?_
  exact (.get rfl (VLe.int (by omega)) (.get rfl (VLe.int (by rw [sumN_at hx]; unfold gInstr; omega)) (.keep 26 rfl rfl)))
 refine Z12 ?_
 refine Rt1 ?_
 exact VLe.int (by unfold greatB addN; rw [show min b.L.length 150 = k by omega])
theorem great_spec {x : ModD} : FnP Tryz.prog 15 [aggV (encMod x)] (intV .i64 (greatM x)) := by
 refine In 204 Tryz.func15 fun _ _ _ => ?_
 refine .fact (t := 0) rfl (fun S w v h => modLens3 h) fun hlen => ?_
 have hall := hlen
 obtain ⟨⟨hl0, hl1, hl2, hl3, hl4, hl5, hl6, hl7⟩, ⟨hi0, hi1, hi2, hi3, hi4⟩, hi5⟩ := hlen
 have hb := greatB_of hall
 have hb0 := hb.n0
 obtain ⟨hb1, hb2, hb3, hb4, hb5⟩ := great_bnds hb
 refine Z40 ?_
 refine Z25 ?_
 refine .loopO (σ := Nat) (fun _ => []) (fun k0 => [(4, intV .i64 (k0 : Int)), (3, intV .i64 (great0 x + sumN (onI x.Sigs gSig) k0))]) (fun k0 => k0 ≤ x.Sigs.length ∧ k0 ≤ 60) (fun k0 => x.Sigs.length - k0) 0 ⟨by omega, by omega⟩ rfl ?_ ?_
 · exact (.get rfl (VLe.refl _) (.get rfl (VLe.int (by simp only [sumN]; unfold great0; omega)) (.refl _ _)))
 rintro k0 ⟨hk0, hc0⟩
 have hq0 := addN_part (by omega) hb.sig k0
 refine Z14 ?_
 refine Cd (fun c0 => ?_) fun c0 => ?_
 ·
  obtain ⟨y, hx⟩ := getElem?_lt (xs := x.Sigs) (k := k0) (by omega)
  have hy1 := hi0 k0 y hx
  refine Z4 ?_
  refine .drawK 18 2 FM.out (by kernel_rfl) (k := ?_)
  refine Z4 ?_
  refine .p (cI _) ?_
  refine Z6 ?_
  refine .p (cI _) ?_
  refine Z17 ?_
  refine .round (k0 + 1) ⟨by omega, by omega⟩ (by omega) rfl ?_
  exact (.get rfl (VLe.int (by omega)) (.get rfl (VLe.int (by rw [sumN_at hx]; unfold gSig; omega)) (.keep 34 rfl rfl)))
 refine Z12 ?_
 refine .loopO (σ := Nat) (fun _ => []) (fun k1 => [(5, intV .i64 (k1 : Int)), (3, intV .i64 (great1 x + sumN (onI x.Imports gImp) k1))]) (fun k1 => k1 ≤ x.Imports.length ∧ k1 ≤ 25) (fun k1 => x.Imports.length - k1) 0 ⟨by omega, by omega⟩ rfl ?_ ?_
 · exact (.get rfl (VLe.refl _) (.get rfl (VLe.int (by simp only [sumN]; unfold great1 addN; rw [show min x.Sigs.length 60 = k0 by omega]; omega)) (.refl _ _)))
 rintro k1 ⟨hk1, hc1⟩
 have hq1 := addN_part (by omega) hb.imp k1
 refine Z14 ?_
 refine Cd (fun c1 => ?_) fun c1 => ?_
 ·
  obtain ⟨y, hx⟩ := getElem?_lt (xs := x.Imports) (k := k1) (by omega)
  have hy1 := hi1 k1 y hx
  refine Z4 ?_
  refine .drawK 18 2 FM.out (by kernel_rfl) (k := ?_)
  refine Z4 ?_
  refine .p (cI _) ?_
  refine Z6 ?_
  refine .p (cI _) ?_
  refine Z17 ?_
  refine .round (k1 + 1) ⟨by omega, by omega⟩ (by omega) rfl ?_
  exact (.get rfl (VLe.int (by omega)) (.get rfl (VLe.int (by rw [sumN_at hx]; unfold gImp; omega)) (.keep 34 rfl rfl)))
 refine Z12 ?_
 refine .loopO (σ := Nat) (fun _ => []) (fun k2 => [(6, intV .i64 (k2 : Int)), (3, intV .i64 (great2 x + sumN (onI x.Funcs gFn) k2))]) (fun k2 => k2 ≤ x.Funcs.length ∧ k2 ≤ 110) (fun k2 => x.Funcs.length - k2) 0 ⟨by omega, by omega⟩ rfl ?_ ?_
 · exact (.get rfl (VLe.refl _) (.get rfl (VLe.int (by simp only [sumN]; unfold great2 addN; rw [show min x.Imports.length 25 = k1 by omega]; omega)) (.refl _ _)))
 rintro k2 ⟨hk2, hc2⟩
 have hq2 := addN_part (by omega) hb.fn k2
 refine Z14 ?_
 refine Cd (fun c2 => ?_) fun c2 => ?_
 ·
  obtain ⟨y, hx⟩ := getElem?_lt (xs := x.Funcs) (k := k2) (by omega)
  have hy1 := hb.fn k2 y hx
  unfold gFn at hy1
  refine Z9 ?_
  refine .p (cI _) rfl ?_
  refine Z2 ?_
  refine .p (cA (h := l12great_spec)) rfl ?_
  refine Z10 ?_
  refine .round (k2 + 1) ⟨by omega, by omega⟩ (by omega) rfl ?_
  exact (.get rfl (VLe.int (by omega)) (.get rfl (VLe.int (by rw [sumN_at hx]; unfold gFn; omega)) (.keep 24 rfl rfl)))
 refine Z12 ?_
 refine .loopO (σ := Nat) (fun _ => []) (fun k3 => [(7, intV .i64 (k3 : Int)), (3, intV .i64 (great3 x + sumN (onI x.Exports gExp) k3))]) (fun k3 => k3 ≤ x.Exports.length ∧ k3 ≤ 60) (fun k3 => x.Exports.length - k3) 0 ⟨by omega, by omega⟩ rfl ?_ ?_
 · exact (.get rfl (VLe.refl _) (.get rfl (VLe.int (by simp only [sumN]; unfold great3 addN; rw [show min x.Funcs.length 110 = k2 by omega]; omega)) (.refl _ _)))
 rintro k3 ⟨hk3, hc3⟩
 have hq3 := addN_part (by omega) hb.exp k3
 refine Z14 ?_
 refine Cd (fun c3 => ?_) fun c3 => ?_
 ·
  obtain ⟨y, hx⟩ := getElem?_lt (xs := x.Exports) (k := k3) (by omega)
  have hy1 := hi2 k3 y hx
  refine Z9 ?_
  refine .p (cI _) rfl ?_
  refine Z15 ?_
  refine .round (k3 + 1) ⟨by omega, by omega⟩ (by omega) rfl ?_
  exact (.get rfl (VLe.int (by omega)) (.get rfl (VLe.int (by rw [sumN_at hx]; unfold gExp; omega)) (.keep 26 rfl rfl)))
 refine Z12 ?_
 refine .loopO (σ := Nat) (fun _ => []) (fun k4 => [(8, intV .i64 (k4 : Int)), (3, intV .i64 (great4 x + sumN (onI x.Elems gElem) k4))]) (fun k4 => k4 ≤ x.Elems.length ∧ k4 ≤ 25) (fun k4 => x.Elems.length - k4) 0 ⟨by omega, by omega⟩ rfl ?_ ?_
 · exact (.get rfl (VLe.refl _) (.get rfl (VLe.int (by simp only [sumN]; unfold great4 addN; rw [show min x.Exports.length 60 = k3 by omega]; omega)) (.refl _ _)))
 rintro k4 ⟨hk4, hc4⟩
 have hq4 := addN_part (by omega) hb.elem k4
 refine Z14 ?_
 refine Cd (fun c4 => ?_) fun c4 => ?_
 ·
  obtain ⟨y, hx⟩ := getElem?_lt (xs := x.Elems) (k := k4) (by omega)
  have hy1 := hi3 k4 y hx
  refine Z9 ?_
  refine .p (cI _) rfl ?_
  refine Z15 ?_
  refine .round (k4 + 1) ⟨by omega, by omega⟩ (by omega) rfl ?_
  exact (.get rfl (VLe.int (by omega)) (.get rfl (VLe.int (by rw [sumN_at hx]; unfold gElem; omega)) (.keep 26 rfl rfl)))
 refine Z12 ?_
 refine .loopO (σ := Nat) (fun _ => []) (fun k5 => [(9, intV .i64 (k5 : Int)), (3, intV .i64 (great5 x + sumN (onI x.Datas gData) k5))]) (fun k5 => k5 ≤ x.Datas.length ∧ k5 ≤ 25) (fun k5 => x.Datas.length - k5) 0 ⟨by omega, by omega⟩ rfl ?_ ?_
 · exact (.get rfl (VLe.refl _) (.get rfl (VLe.int (by simp only [sumN]; unfold great5 addN; rw [show min x.Elems.length 25 = k4 by omega]; omega)) (.refl _ _)))
 rintro k5 ⟨hk5, hc5⟩
 have hq5 := addN_part (by omega) hb.data k5
 refine Z14 ?_
 refine Cd (fun c5 => ?_) fun c5 => ?_
 ·
  obtain ⟨y, hx⟩ := getElem?_lt (xs := x.Datas) (k := k5) (by omega)
  have hy1 := hi4 k5 y hx
  refine Z9 ?_
  refine .p (cI _) rfl ?_
  refine Z15 ?_
  refine .round (k5 + 1) ⟨by omega, by omega⟩ (by omega) rfl ?_
  exact (.get rfl (VLe.int (by omega)) (.get rfl (VLe.int (by rw [sumN_at hx]; unfold gData; omega)) (.keep 26 rfl rfl)))
 refine Z12 ?_
 refine Rt1 ?_
 exact VLe.int (by unfold greatM addN; rw [show min x.Datas.length 25 = k5 by omega])
end Go.Proofs.YtmmdlhjcmlekfaaGreatDoor
end
section
namespace Go.Proofs.YtmmdlhjcmlekfaaGreatDoor
open Go.Hl Go.RowKit
theorem l09to_spec {l : List UInt8} (hp0 : l.length ≤ 65536) : FnP Tryz.prog 18 [sliceV 1 encU8 l] (sliceV 1 encU8 l) := by
 refine In 19 Tryz.func18 fun _ _ _ => ?_
 refine Z17 ?_
 refine .ownNil 1 encU8 ?_
 refine .loopO (σ := Nat × SB) (fun s => [sliceH s.2 1 encU8 (l.take s.1)]) (fun s => [(3, exactV (sval s.2 (l.take s.1).length)), (4, intV .i64 (s.1 : Int))]) (fun s => s.1 ≤ l.length) (fun s => l.length - s.1) (0, none) (by simp) (by simp) ?_ ?_
 · exact (.get rfl (VLe.of_eq (by simp [sval])) (.get rfl (VLe.refl _) (.refl _ _)))
 rintro s hk
 refine Z9 ?_
 refine Cd (fun c0 => ?_) fun c0 => ?_
 ·
  obtain ⟨x, hx⟩ := getElem?_lt (xs := l) (k := s.1) (by omega)
  refine Z8 ?_
  refine .p (cI _) rfl ?_
  refine Z1 ?_
  refine .p (cB encU8 [_]) rfl ?_
  refine .n (opAppend (i := 0) Tryz.underlying44 Tryz.underlying44 Tryz.cz107 rfl Tryz.zb107 rfl Tryz.by107 (.t rfl) (.t rfl) rfl (by first | omega | (simp <;> omega)) (by first | omega | (simp <;> omega))) rfl fun g17 _ => ?_
  refine Z9 ?_
  refine .round (s.1 + 1, g17) (by omega) (by omega) (by simp only [take_snoc hx]; rfl) ?_
  exact (.get rfl (VLe.of_eq (by simp only [take_snoc hx])) (.get rfl (VLe.int (by omega)) (.keep 17 rfl rfl)))
 have hall : l.take s.1 = l := List.take_of_length_le (by omega)
 rw [hall]
 refine .shareS (n := 1) (enc := encU8) (i := 0) (t := 3) rfl rfl ?_
 refine Z12 ?_
 refine Rt1 ?_
 first | exact VLe.refl _ | exact VLe.int (by omega) | exact VLe.prop (by omega) | exact VLe.prop (by simp_all) | exact VLe.prop (by simp; omega)
theorem l11to_spec {x : InstrD} (hp0 : x.L.length ≤ 65536) : FnP Tryz.prog 74 [aggV (encInstr x)] (aggV (encInstr x)) := by
 refine In 16 Tryz.func74 fun _ _ _ => ?_
 refine Z3 ?_
 refine .n (opAlloc Tryz.zb61) rfl fun b2 _ => ?_
 refine Z3 ?_
 refine .drawK 12 2 FM.out (by kernel_rfl) (k := ?_)
 refine Z8 ?_
 refine .p (opBuildEmpty Tryz.underlying59 Tryz.cz58 rfl Tryz.zb58 rfl) ?_
 refine Z2 ?_
 refine .p (opAppendE Tryz.underlying59 Tryz.underlying59 Tryz.cz58 rfl Tryz.zb58 rfl Tryz.by58 (.t rfl) (.t rfl) (by omega)) ?_
 refine Z6 ?_
 refine Post.retR1 rfl () trivial (fun _ _ _ _ => trivial) (.ra (i := 0) Tryz.ag61 Tryz.cz61 rfl rfl rfl rfl) ?_
 first | exact VLe.refl _ | exact VLe.int (by omega) | exact VLe.prop (by omega) | exact VLe.prop (by simp_all) | exact VLe.prop (by simp; omega)
theorem l12list_spec {l : List InstrD} (hp0 : l.length ≤ 65536) (hp1 : ∀ x ∈ l, x.L.length ≤ 65536) : FnP Tryz.prog 49 [sliceV 5 encInstr l] (sliceV 5 encInstr l) := by
 refine In 20 Tryz.func49 fun _ _ _ => ?_
 refine Z17 ?_
 refine .ownNil 5 encInstr ?_
 refine .loopO (σ := Nat × SB) (fun s => [sliceH s.2 5 encInstr (l.take s.1)]) (fun s => [(3, exactV (sval s.2 (l.take s.1).length)), (4, intV .i64 (s.1 : Int))]) (fun s => s.1 ≤ l.length) (fun s => l.length - s.1) (0, none) (by simp) (by simp) ?_ ?_
 · exact (.get rfl (VLe.of_eq (by simp [sval])) (.get rfl (VLe.refl _) (.refl _ _)))
 rintro s hk
 refine Z9 ?_
 refine Cd (fun c0 => ?_) fun c0 => ?_
 ·
  obtain ⟨x, hx⟩ := getElem?_lt (xs := l) (k := s.1) (by omega)
  have hxl := hp1 x (List.mem_of_getElem? hx)
  refine Z8 ?_
  refine .p (cI _) rfl ?_
  refine Z1 ?_
  refine .p (cA (h := l11to_spec (by first | assumption | omega))) rfl ?_
  refine .p (cB encInstr [_]) rfl ?_
  refine .n (opAppend (i := 0) Tryz.underlying45 Tryz.underlying45 Tryz.cz61 rfl Tryz.zb61 rfl Tryz.by61 (.t rfl) (.t rfl) rfl (by first | omega | (simp <;> omega)) (by first | omega | (simp <;> omega))) rfl fun g18 _ => ?_
  refine Z9 ?_
  refine .round (s.1 + 1, g18) (by omega) (by omega) (by simp only [take_snoc hx]; rfl) ?_
  exact (.get rfl (VLe.of_eq (by simp only [take_snoc hx])) (.get rfl (VLe.int (by omega)) (.keep 18 rfl rfl)))
 have hall : l.take s.1 = l := List.take_of_length_le (by omega)
 rw [hall]
 refine .shareS (n := 5) (enc := encInstr) (i := 0) (t := 3) rfl rfl ?_
 refine Z12 ?_
 refine Rt1 ?_
 first | exact VLe.refl _ | exact VLe.int (by omega) | exact VLe.prop (by omega) | exact VLe.prop (by simp_all) | exact VLe.prop (by simp; omega)
theorem l12to_spec {b : BodyD} (hp0 : SmallB b) : FnP Tryz.prog 19 [aggV (encBody b)] (aggV (encBody b)) := by
 refine In 10 Tryz.func19 fun _ _ _ => ?_
 refine Z3 ?_
 refine .n (opAlloc Tryz.zb47) rfl fun b2 _ => ?_
 refine Z3 ?_
 refine .drawK 5 3 FM.out (by kernel_rfl) (k := ?_)
 refine Z2 ?_
 refine .p (cA (h := l09to_spec (by have := hp0.locals; omega))) ?_
 refine Z3 ?_
 refine .p (cA (h := l12list_spec (by have := hp0.l; omega) (fun x hx => by have := hp0.all x hx; omega))) rfl ?_
 refine Z5 ?_
 refine Post.retR1 rfl () trivial (fun _ _ _ _ => trivial) (.ra (i := 0) Tryz.ag47 Tryz.cz47 rfl rfl rfl rfl) ?_
 first | exact VLe.refl _ | exact VLe.int (by omega) | exact VLe.prop (by omega) | exact VLe.prop (by simp_all) | exact VLe.prop (by simp; omega)
theorem l13to_spec {x : ModD} (hp0 : SmallM x) : FnP Tryz.prog 7 [aggV (encMod x)] (ptrV (encMod x)) := by
 refine In 86 Tryz.func7 fun _ _ _ => ?_
 have hc1 := hp0.sigs
 have hc2 := hp0.funcs
 refine Z25 ?_
 refine .n (opBoxOA (.t rfl)) rfl fun b23 _ => ?_
 refine Z10 ?_
 refine .ownNil 2 encSig ?_
 refine .loopO (σ := Nat × SB) (fun s => [sliceH s.2 2 encSig (x.Sigs.take s.1), cellsH b23 (toCells x (exactV (sval s.2 (x.Sigs.take s.1).length)) (exactV (.slice none 0 0)))]) (fun s => [(4, intV .i64 (s.1 : Int))]) (fun s => s.1 ≤ x.Sigs.length) (fun s => x.Sigs.length - s.1) (0, none) (by simp) rfl ?_ ?_
 · exact (.get rfl (VLe.refl _) (.refl _ _))
 rintro s hk
 refine Z10 ?_
 refine Cd (fun c0 => ?_) fun c0 => ?_
 ·
  obtain ⟨y, hx⟩ := getElem?_lt (xs := x.Sigs) (k := s.1) (by omega)
  refine Z4 ?_
  refine .stagedK [(0, 0), (1, 0), (2, 0), (3, 0), (4, 1), (5, 0), (6, 0), (7, 0), (8, 0), (9, 0), (10, 0), (11, 0), (12, 0), (13, 0), (14, 0), (15, 0), (16, 0), (17, 0), (18, 0), (19, 0), (20, 0), (21, 2)] 22 3 FM.out (by kernel_rfl) (k := ?_)
  refine Z8 ?_
  refine .p rfl (fun _ => opIndexAddr Tryz.underlying22 Tryz.cz66 rfl (.t rfl) (.t rfl) rfl (by assumption)) ?_
  refine Z2 ?_
  refine .p rfl (fun _ => opCall (l09to_spec (by have := hp0.sig y (List.mem_of_getElem? hx); omega)) Tryz.cb18 (.cons (.t rfl) .nil)) ?_
  refine Z3 ?_
  refine .p rfl (fun _ => opIndexAddr Tryz.underlying22 Tryz.cz66 rfl (.t rfl) (.t rfl) rfl (by assumption)) ?_
  refine Z2 ?_
  refine .p rfl (fun _ => opCall (l09to_spec (by have := hp0.sig y (List.mem_of_getElem? hx); omega)) Tryz.cb18 (.cons (.t rfl) .nil)) ?_
  refine Z1 ?_
  refine .p rfl (fun _ => opBuildSlice (enc := encSig) [y] Tryz.underlying40 Tryz.cz68 rfl Tryz.zb68 rfl (.cons (.t rfl) .nil) rfl rfl rfl rfl rfl) ?_
  refine .e rfl (opAppend (i := 0) Tryz.underlying40 Tryz.underlying40 Tryz.cz68 rfl Tryz.zb68 rfl Tryz.by68 (.t rfl) (.t rfl) rfl (by first | omega | (simp <;> omega)) (by first | omega | (simp <;> omega))) fun g52 _ => ?_
  refine .fin ?_
  refine Z11 ?_
  refine .round (s.1 + 1, g52) (by omega) (by omega) (by simp only [take_snoc hx]; rfl) ?_
  exact (.get rfl (VLe.int (by omega)) (.keep 33 rfl rfl))
 have hall : x.Sigs.take s.1 = x.Sigs := List.take_of_length_le (by omega)
 rw [hall]
 refine .shareIn (n := 2) (enc := encSig) (i := 0) (j := 0) (f := 0) rfl rfl rfl ?_
 refine Z12 ?_
 refine .ownNil 3 encFunc ?_
 refine .loopO (σ := Nat × SB) (fun s => [sliceH s.2 3 encFunc (x.Funcs.take s.1), cellsH b23 (toCells x (sliceV 2 encSig x.Sigs) (exactV (sval s.2 (x.Funcs.take s.1).length)))]) (fun s => [(5, intV .i64 (s.1 : Int))]) (fun s => s.1 ≤ x.Funcs.length) (fun s => x.Funcs.length - s.1) (0, none) (by simp) rfl ?_ ?_
 · exact (.get rfl (VLe.refl _) (.refl _ _))
 rintro s hk
 refine Z10 ?_
 refine Cd (fun c1 => ?_) fun c1 => ?_
 ·
  obtain ⟨y, hx⟩ := getElem?_lt (xs := x.Funcs) (k := s.1) (by omega)
  refine Z4 ?_
  refine .stagedK [(0, 0), (1, 0), (2, 0), (3, 0), (4, 1), (5, 0), (6, 0), (7, 0), (8, 0), (9, 0), (10, 0), (11, 0), (12, 0), (13, 0), (14, 0), (15, 0), (16, 0), (17, 0), (18, 0), (19, 0), (20, 2)] 21 3 FM.out (by kernel_rfl) (k := ?_)
  refine Z8 ?_
  refine .p rfl (fun _ => opIndexAddr Tryz.underlying24 Tryz.cz73 rfl (.t rfl) (.t rfl) rfl (by assumption)) ?_
  refine Z5 ?_
  refine .p rfl (fun _ => opIndexAddr Tryz.underlying24 Tryz.cz73 rfl (.t rfl) (.t rfl) rfl (by assumption)) ?_
  refine Z2 ?_
  refine .p rfl (fun _ => opCall (l12to_spec (hp0.fn y (List.mem_of_getElem? hx))) Tryz.cb19 (.cons (.t rfl) .nil)) ?_
  refine Z1 ?_
  refine .p rfl (fun _ => opBuildSlice (enc := encFunc) [y] Tryz.underlying41 Tryz.cz49 rfl Tryz.zb49 rfl (.cons (.t rfl) .nil) rfl rfl rfl rfl rfl) ?_
  refine .e rfl (opAppend (i := 0) Tryz.underlying41 Tryz.underlying41 Tryz.cz49 rfl Tryz.zb49 rfl Tryz.by49 (.t rfl) (.t rfl) rfl (by first | omega | (simp <;> omega)) (by first | omega | (simp <;> omega))) fun g82 _ => ?_
  refine .fin ?_
  refine Z11 ?_
  refine .round (s.1 + 1, g82) (by omega) (by omega) (by simp only [take_snoc hx]; rfl) ?_
  exact (.get rfl (VLe.int (by omega)) (.keep 32 rfl rfl))
 have hall : x.Funcs.take s.1 = x.Funcs := List.take_of_length_le (by omega)
 rw [hall]
 refine .shareIn (n := 3) (enc := encFunc) (i := 0) (j := 0) (f := 2) rfl rfl rfl ?_
 refine .share (t := 3) (i := 0) rfl rfl ?_
 refine Z12 ?_
 refine Rt1 ?_
 first | exact VLe.refl _ | exact VLe.int (by omega) | exact VLe.prop (by omega) | exact VLe.prop (by simp_all) | exact VLe.prop (by simp; omega)
end Go.Proofs.YtmmdlhjcmlekfaaGreatDoor
end
section
namespace Go.Hl
theorem suf_tail {α : Type} {x : α} {r s : List α} (h : (x :: r) <:+ s) : r <:+ s := (List.suffix_cons x r).trans h
theorem suf_len {α : Type} {r s : List α} (h : r <:+ s) : r.length ≤ s.length := h.length_le
theorem rblk_suf : ∀ (f : Nat) (s : List Int) (d : Nat) (r : List Int), rblk f s d = some r → r <:+ s := by
  intro f
  induction f with
  | zero => intro s d r h; simp [rblk] at h
  | succ f ih =>
    intro s d r h
    cases s with
    | nil => simp [rblk] at h; subst h; exact List.suffix_refl _
    | cons c s =>
      simp only [rblk] at h
      split at h
      · cases h; exact List.suffix_refl _
      split at h
      · split at h
        · cases h
        · split at h
          · cases h
          · cases h
          · rename_i c2 r2 h1
            have e1 := ih _ _ _ h1
            split at h
            · split at h
              · split at h
                · cases h
                · cases h
                · rename_i c3 r3 h2
                  have e2 := ih _ _ _ h2
                  split at h
                  · cases h
                  · exact ((ih _ _ _ h).trans (suf_tail (e2.trans (suf_tail e1)))).trans (List.suffix_cons _ _)
              · cases h
            · exact ((ih _ _ _ h).trans (suf_tail e1)).trans (List.suffix_cons _ _)
      · exact (ih _ _ _ h).trans (List.suffix_cons _ _)
theorem rblk_fuel : ∀ (f g : Nat) (s : List Int) (d : Nat), s.length < f → s.length < g → rblk f s d = rblk g s d := by
  intro f
  induction f with
  | zero => intro g s d h; omega
  | succ f ih =>
    intro g s d h hg
    cases g with
    | zero => omega
    | succ g =>
      cases s with
      | nil => rfl
      | cons c s =>
        simp only [List.length_cons] at h hg
        have i1 : rblk f s (d + 1) = rblk g s (d + 1) := ih g s _ (by omega) (by omega)
        have i2 : rblk f s d = rblk g s d := ih g s _ (by omega) (by omega)
        simp only [rblk, i1, i2]
        split
        · rfl
        split
        · split
          · rfl
          · split
            · rfl
            · rfl
            · rename_i c2 r2 h1
              have l1 := suf_len (rblk_suf _ _ _ _ h1)
              simp only [List.length_cons] at l1
              have i3 : rblk f r2 (d + 1) = rblk g r2 (d + 1) := ih g r2 _ (by omega) (by omega)
              have i4 : rblk f r2 d = rblk g r2 d := ih g r2 _ (by omega) (by omega)
              rw [i3, i4]
              split
              · split
                · split
                  · rfl
                  · rfl
                  · rename_i c3 r3 h2
                    have l2 := suf_len (rblk_suf _ _ _ _ h2)
                    simp only [List.length_cons] at l2
                    split
                    · rfl
                    · exact ih g r3 _ (by omega) (by omega)
                · rfl
              · rfl
        · rfl
section
variable {ι : Type} (cd : ι → Int) (rr : ι → List UInt8) (pl : ι → Stk → List (List UInt8) → Option Stk)
theorem bchk_suf : ∀ (f : Nat) (s : List ι) (labs : List (List UInt8)) (res : List UInt8) (st : Stk) (base : Nat) (hs : List Nat) (rest : List ι), bchk cd rr pl f s labs res st base = some (hs, rest) → rest <:+ s := by
  intro f
  induction f with
  | zero => intro s _ _ _ _ _ _ h; simp [bchk] at h
  | succ f ih =>
    intro s labs res st base hs rest h
    cases s with
    | nil => simp [bchk] at h; rw [← h.2]; exact List.suffix_refl _
    | cons x s =>
      simp only [bchk] at h
      split at h
      · split at h
        · cases h; exact List.suffix_refl _
        · cases h
      split at h
      · obtain ⟨s1, _, h⟩ := Option.bind_eq_some_iff.1 h
        obtain ⟨⟨hs1, l1⟩, hb1, h⟩ := Option.bind_eq_some_iff.1 h
        have e1 := ih _ _ _ _ _ _ _ hb1
        cases l1 with
        | nil => cases h
        | cons x2 r2 =>
          simp only at h
          split at h
          · obtain ⟨⟨hs2, l2⟩, hb2, h⟩ := Option.bind_eq_some_iff.1 h
            have e2 := ih _ _ _ _ _ _ _ hb2
            cases l2 with
            | nil => cases h
            | cons x3 r3 =>
              simp only at h
              obtain ⟨⟨hs3, l3⟩, hb3, h⟩ := Option.map_eq_some_iff.1 h
              cases h
              exact ((ih _ _ _ _ _ _ _ hb3).trans (suf_tail (e2.trans (suf_tail e1)))).trans (List.suffix_cons _ _)
          split at h
          · cases h
          · obtain ⟨⟨hs3, l3⟩, hb3, h⟩ := Option.map_eq_some_iff.1 h
            cases h
            exact ((ih _ _ _ _ _ _ _ hb3).trans (suf_tail e1)).trans (List.suffix_cons _ _)
      · obtain ⟨s1, _, h⟩ := Option.bind_eq_some_iff.1 h
        obtain ⟨⟨hs1, l1⟩, hb1, h⟩ := Option.map_eq_some_iff.1 h
        cases h
        exact (ih _ _ _ _ _ _ _ hb1).trans (List.suffix_cons _ _)
theorem bchk_fuel : ∀ (f g : Nat) (s : List ι) (labs : List (List UInt8)) (res : List UInt8) (st : Stk) (base : Nat), s.length < f → s.length < g → bchk cd rr pl f s labs res st base = bchk cd rr pl g s labs res st base := by
  intro f
  induction f with
  | zero => intro g s _ _ _ _ h; omega
  | succ f ih =>
    intro g s labs res st base h hg
    cases g with
    | zero => omega
    | succ g =>
      cases s with
      | nil => rfl
      | cons x s =>
        simp only [List.length_cons] at h hg
        simp only [bchk]
        split
        · rfl
        split
        · refine Option.bind_congr fun s1 _ => ?_
          rw [ih g s _ _ _ _ (by omega) (by omega)]
          refine Option.bind_congr fun p hp => ?_
          obtain ⟨hs1, l1⟩ := p
          have e1 := suf_len (bchk_suf cd rr pl _ _ _ _ _ _ _ _ hp)
          cases l1 with
          | nil => rfl
          | cons x2 r2 =>
            simp only [List.length_cons] at e1
            simp only
            split
            · rw [ih g r2 _ _ _ _ (by omega) (by omega)]
              refine Option.bind_congr fun p hp => ?_
              obtain ⟨hs2, l2⟩ := p
              have e2 := suf_len (bchk_suf cd rr pl _ _ _ _ _ _ _ _ hp)
              cases l2 with
              | nil => rfl
              | cons x3 r3 =>
                simp only [List.length_cons] at e2
                simp only
                rw [ih g r3 _ _ _ _ (by omega) (by omega)]
            split
            · rfl
            · rw [ih g r2 _ _ _ _ (by omega) (by omega)]
        · refine Option.bind_congr fun s1 _ => ?_
          rw [ih g s _ _ _ _ (by omega) (by omega)]
noncomputable def nbk (s : List ι) (labs : List (List UInt8)) (res : List UInt8) (st : Stk) (base : Nat) : Option (List Nat × List ι) := bchk cd rr pl (s.length + 1) s labs res st base
def okBl (s : List ι) (d : Nat) : Prop := ∃ rest0, rblk (s.length + 1) (s.map cd) d = some rest0 ∧ rest0 ≠ []
variable {cd rr pl} {x : ι} {r : List ι} {labs : List (List UInt8)} {res : List UInt8} {st : Stk} {base d : Nat}
theorem nbk_end (h : cd x = 11 ∨ cd x = 5) (hc : ∃ s', tksS st res = some s' ∧ s'.1 = []) : nbk cd rr pl (x :: r) labs res st base = some ([base + st.1.length], x :: r) := by
  simp only [nbk, bchk, h, hc, if_true]
theorem nbk_end_no (h : cd x = 11 ∨ cd x = 5) (hc : ¬ ∃ s', tksS st res = some s' ∧ s'.1 = []) : nbk cd rr pl (x :: r) labs res st base = none := by
  simp only [nbk, bchk, h, if_true]; rw [if_neg hc]
theorem nbk_plain (h1 : ¬ (cd x = 11 ∨ cd x = 5)) (h2 : ¬ opensC (cd x)) : nbk cd rr pl (x :: r) labs res st base = (pl x st labs).bind fun s1 => (nbk cd rr pl r labs res s1 base).map fun p => ((base + st.1.length) :: p.1, p.2) := by
  simp only [nbk, bchk, h1, h2, if_false, List.length_cons]
theorem nbk_open (h1 : ¬ (cd x = 11 ∨ cd x = 5)) (h2 : opensC (cd x)) : nbk cd rr pl (x :: r) labs res st base =
    (if cd x = 4 then tksS st [127] else some st).bind fun s1 =>
      (nbk cd rr pl r (labs ++ [if cd x = 3 then [] else rr x]) (rr x) ([], False) (base + s1.1.length)).bind fun p =>
      match p.2 with
      | [] => none
      | x2 :: r2 =>
        if cd x2 = 5 then
          (nbk cd rr pl r2 (labs ++ [if cd x = 3 then [] else rr x]) (rr x) ([], False) (base + s1.1.length)).bind fun p2 =>
          match p2.2 with
          | [] => none
          | _ :: r3 => (nbk cd rr pl r3 labs res (giveS s1 (rr x)) base).map fun p3 => ((base + st.1.length) :: p.1 ++ p2.1 ++ p3.1, p3.2)
        else if cd x = 4 ∧ rr x ≠ [] then none
        else (nbk cd rr pl r2 labs res (giveS s1 (rr x)) base).map fun p3 => ((base + st.1.length) :: p.1 ++ p3.1, p3.2) := by
  simp only [nbk, bchk, h1, h2, if_false, if_true, List.length_cons]
  refine Option.bind_congr fun s1 _ => Option.bind_congr fun p hp => ?_
  obtain ⟨hs1, l1⟩ := p
  have e1 := suf_len (bchk_suf cd rr pl _ _ _ _ _ _ _ _ hp)
  cases l1 with
  | nil => rfl
  | cons x2 r2 =>
    simp only [List.length_cons] at e1
    simp only
    split
    · rw [bchk_fuel cd rr pl (r.length + 1) (r2.length + 1) r2 _ _ _ _ (by omega) (by omega)]
      refine Option.bind_congr fun p hp => ?_
      obtain ⟨hs2, l2⟩ := p
      have e2 := suf_len (bchk_suf cd rr pl _ _ _ _ _ _ _ _ hp)
      cases l2 with
      | nil => rfl
      | cons x3 r3 =>
        simp only [List.length_cons] at e2
        simp only
        rw [bchk_fuel cd rr pl (r.length + 1) (r3.length + 1) r3 _ _ _ _ (by omega) (by omega)]
    split
    · rfl
    · rw [bchk_fuel cd rr pl (r.length + 1) (r2.length + 1) r2 _ _ _ _ (by omega) (by omega)]
theorem bchk_rest : ∀ (f : Nat) (s : List ι) (d : Nat) (labs : List (List UInt8)) (res : List UInt8) (st : Stk) (base : Nat) (hs : List Nat) (rest : List ι) (rest0 : List Int), s.length < f → rblk f (s.map cd) d = some rest0 → bchk cd rr pl f s labs res st base = some (hs, rest) → rest.map cd = rest0 := by
  intro f
  induction f with
  | zero => intro s d _ _ _ _ _ _ _ h; omega
  | succ f ih =>
    intro s d labs res st base hs rest rest0 h hr hb
    cases s with
    | nil => simp only [bchk, Option.some.injEq, Prod.mk.injEq] at hb; simp [rblk] at hr; rw [hr, ← hb.2]; rfl
    | cons x r =>
      simp only [List.length_cons] at h
      simp only [List.map_cons, rblk] at hr
      simp only [bchk] at hb
      by_cases h1 : cd x = 11 ∨ cd x = 5
      · simp only [h1, if_true, Option.some.injEq] at hr hb
        split at hb
        · cases hb; rw [← hr]; rfl
        · cases hb
      by_cases h2 : opensC (cd x)
      · simp only [h1, if_false, h2, if_true] at hr hb
        by_cases h3 : 64 ≤ d
        · simp [h3] at hr
        simp only [h3, if_false] at hr
        obtain ⟨s1, _, hb⟩ := Option.bind_eq_some_iff.1 hb
        obtain ⟨⟨hs1, l1⟩, hb1, hb⟩ := Option.bind_eq_some_iff.1 hb
        cases hr1 : rblk f (r.map cd) (d + 1) with
        | none => simp [hr1] at hr
        | some rest1 =>
          simp only [hr1] at hr
          have e1 := ih r (d + 1) _ _ _ _ _ _ _ (by omega) hr1 hb1
          have l1s := suf_len (bchk_suf cd rr pl _ _ _ _ _ _ _ _ hb1)
          subst e1
          cases l1 with
          | nil => cases hb
          | cons x2 r2 =>
            simp only [List.length_cons] at l1s
            simp only [List.map_cons] at hr
            simp only at hb
            by_cases h5 : cd x2 = 5
            · simp only [h5, if_true] at hr hb
              by_cases h4 : cd x = 4
              · simp only [h4, if_true] at hr
                obtain ⟨⟨hs2, l2⟩, hb2, hb⟩ := Option.bind_eq_some_iff.1 hb
                cases hr2 : rblk f (r2.map cd) (d + 1) with
                | none => simp [hr2] at hr
                | some rest2 =>
                  simp only [hr2] at hr
                  have e2 := ih r2 (d + 1) _ _ _ _ _ _ _ (by omega) hr2 hb2
                  have l2s := suf_len (bchk_suf cd rr pl _ _ _ _ _ _ _ _ hb2)
                  subst e2
                  cases l2 with
                  | nil => cases hb
                  | cons x3 r3 =>
                    simp only [List.length_cons] at l2s
                    simp only [List.map_cons] at hr
                    simp only at hb
                    split at hr
                    · cases hr
                    · obtain ⟨⟨hs3, l3⟩, hb3, hb⟩ := Option.map_eq_some_iff.1 hb
                      cases hb
                      exact ih r3 d _ _ _ _ _ _ _ (by omega) hr hb3
              · simp [h4] at hr
            · simp only [h5, if_false] at hr hb
              split at hb
              · cases hb
              · obtain ⟨⟨hs3, l3⟩, hb3, hb⟩ := Option.map_eq_some_iff.1 hb
                cases hb
                exact ih r2 d _ _ _ _ _ _ _ (by omega) hr hb3
      · simp only [h1, if_false, h2] at hr hb
        obtain ⟨s1, _, hb⟩ := Option.bind_eq_some_iff.1 hb
        obtain ⟨⟨hs1, l1⟩, hb1, hb⟩ := Option.map_eq_some_iff.1 hb
        cases hb
        exact ih r d _ _ _ _ _ _ _ (by omega) hr hb1
theorem okBl_plain (h : okBl cd (x :: r) d) (h1 : ¬ (cd x = 11 ∨ cd x = 5)) (h2 : ¬ opensC (cd x)) : okBl cd r d := by
  obtain ⟨rest0, h3, h4⟩ := h
  simp only [List.length_cons, List.map_cons, rblk, h1, h2, if_false] at h3
  exact ⟨rest0, h3, h4⟩
theorem okBl_in (h : okBl cd (x :: r) d) (h2 : opensC (cd x)) : okBl cd r (d + 1) ∧ ¬ 64 ≤ d := by
  obtain ⟨rest0, h3, h4⟩ := h
  have h1 : ¬ (cd x = 11 ∨ cd x = 5) := by unfold opensC at h2; omega
  simp only [List.length_cons, List.map_cons, rblk, h1, h2, if_false, if_true] at h3
  split at h3
  · cases h3
  · rename_i h5
    split at h3
    · cases h3
    · cases h3
    · rename_i c2 r2 h6
      exact ⟨⟨_, h6, by simp⟩, h5⟩
theorem okBl_ne {labs' : List (List UInt8)} {hs : List Nat} {l : List ι} (h : okBl cd r d) (hb : nbk cd rr pl r labs res st base = some (hs, l)) : ∃ x2 r2, l = x2 :: r2 ∧ (x2 :: r2) <:+ r := by
  obtain ⟨rest0, h3, h4⟩ := h
  have e := bchk_rest _ _ _ _ _ _ _ _ _ _ (by omega) h3 hb
  have e2 := bchk_suf cd rr pl _ _ _ _ _ _ _ _ hb
  cases l with
  | nil => exact absurd e.symm h4
  | cons x2 r2 => exact ⟨x2, r2, rfl, e2⟩
theorem okBl_after {hs1 : List Nat} {x2 : ι} {r2 : List ι} (h : okBl cd (x :: r) d) (h2 : opensC (cd x)) (hb : nbk cd rr pl r labs res st base = some (hs1, x2 :: r2)) :
    (cd x2 = 11 ∧ okBl cd r2 d) ∨ (cd x2 = 5 ∧ cd x = 4 ∧ okBl cd r2 (d + 1) ∧ ∀ labs' res' st' base' hs2 l2, nbk cd rr pl r2 labs' res' st' base' = some (hs2, l2) → ∃ x3 r3, l2 = x3 :: r3 ∧ cd x3 = 11 ∧ (x3 :: r3) <:+ r2 ∧ okBl cd r3 d) := by
  obtain ⟨rest0, h3, h4⟩ := h
  have h1 : ¬ (cd x = 11 ∨ cd x = 5) := by unfold opensC at h2; omega
  simp only [List.length_cons, List.map_cons, rblk, h1, h2, if_false, if_true] at h3
  split at h3
  · cases h3
  · rename_i h5
    have hd : d + 1 ≤ 64 := by omega
    cases hr1 : rblk (r.length + 1) (r.map cd) (d + 1) with
    | none => simp [hr1] at h3
    | some rest1 =>
      simp only [hr1] at h3
      have e := bchk_rest _ _ _ _ _ _ _ _ _ _ (by omega) hr1 hb
      have e2 := suf_len (bchk_suf cd rr pl _ _ _ _ _ _ _ _ hb)
      have k1 := ((rblk_spec (r.length + 1) (r.map cd) (d + 1) (by simp) hd).2 _ hr1).2.1
      subst e
      simp only [List.length_cons] at e2
      simp only [List.map_cons] at h3 k1
      rcases k1 _ _ rfl with e5 | e5
      · refine .inl ⟨e5, ?_⟩
        simp only [e5, show ¬ ((11 : Int) = 5) by decide, if_false] at h3
        exact ⟨rest0, by rw [← h3]; exact rblk_fuel _ _ _ _ (by simp) (by simp; omega), h4⟩
      · simp only [e5, if_true] at h3
        split at h3
        · rename_i e4
          refine .inr ⟨e5, e4, ?_⟩
          cases hr2 : rblk (r.length + 1) (r2.map cd) (d + 1) with
          | none => simp [hr2] at h3
          | some rest2 =>
            simp only [hr2] at h3
            have hr2' : rblk (r2.length + 1) (r2.map cd) (d + 1) = some rest2 := by rw [← hr2]; exact rblk_fuel _ _ _ _ (by simp) (by simp; omega)
            have hne : rest2 ≠ [] := by intro e; subst e; cases h3
            refine ⟨⟨rest2, hr2', hne⟩, fun labs' res' st' base' hs2 l2 hb2 => ?_⟩
            have e7 := bchk_rest _ _ _ _ _ _ _ _ _ _ (by omega) hr2' hb2
            have e8 := bchk_suf cd rr pl _ _ _ _ _ _ _ _ hb2
            have k2 := ((rblk_spec (r2.length + 1) (r2.map cd) (d + 1) (by simp) hd).2 _ hr2').2.1
            subst e7
            cases l2 with
            | nil => exact absurd rfl hne
            | cons x3 r3 =>
              have e9 := suf_len e8
              simp only [List.length_cons] at e9
              simp only [List.map_cons] at h3 k2
              split at h3
              · cases h3
              · rename_i hn5
                refine ⟨x3, r3, rfl, (k2 _ _ rfl).resolve_right hn5, e8, ⟨rest0, ?_, h4⟩⟩
                rw [← h3]; exact rblk_fuel _ _ _ _ (by simp) (by simp; omega)
        · cases h3
end
end Go.Hl
end
