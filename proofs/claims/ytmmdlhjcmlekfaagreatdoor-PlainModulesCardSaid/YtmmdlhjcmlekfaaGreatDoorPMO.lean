/-
  What the statement's proof leans on, several texts in one (packed by a program).
-/
import Derived.Test.YtmmdlhjcmlekfaaGreatDoorPMN
import Derived.Lib.LaidTab
set_option linter.all false
section
namespace Go.Hl
open Go.RowKit
set_option linter.unusedVariables false
def exL : List InstrD := [mkI 65 2, mkI 65 3, mkI 106 0]
theorem ex_two : twoV 106 2 3 = 5 ∧ twoOk 106 2 3 ∧ outC 106 = 65 := by
  refine ⟨?_, ?_, ?_⟩
  · unfold twoV; rw [if_neg (by decide), if_neg (by decide), if_pos (by decide)]; decide
  · unfold twoOk; rw [if_neg (by decide), if_neg (by decide), if_pos (by decide)]; decide
  · decide
theorem ex_sm : SmL exL 60000 := ⟨by decide, fun x hx => by
  simp only [exL, List.mem_cons, List.not_mem_nil, or_false] at hx
  rcases hx with rfl | rfl | rfl <;> exact mkI_ok (by decide), fun x hx => by
  simp only [exL, List.mem_cons, List.not_mem_nil, or_false] at hx
  rcases hx with rfl | rfl | rfl <;> simp [mkI]⟩
theorem ex_step : stepL exL = some ([mkI 65 5], 3) := by
  refine stepL_at (i := 0) rfl (by decide) (stepAtK_stay (k := 3) (stepAtK_yes (stepAtK_none 2 fun j hj => ?_) ?_) 6 (by decide))
  · match j, hj with
    | 0, _ => exact f0_no (by decide)
    | 1, _ => exact f1_b (by decide)
  · rw [f2_c (l := exL) (i := 0) (by decide) (by decide) ex_two.2.1, two_num (c := (gI exL (0 + 2)).Code) (a := XA exL 0) (b := XA exL (0 + 1)) ex_two.2.1]
    have e : gI exL (0 + 2) = mkI 106 0 := rfl
    rw [e]
    show some (cutL exL 0 3 [mkI (outC 106) (twoV 106 2 3)]) = _
    rw [ex_two.1, ex_two.2.2]; rfl
theorem ex_end : stepL [mkI 65 5] = none := by
  refine stepK_next (l := [mkI 65 5]) (i := 0) rfl (stepAtK_none 6 fun j hj => ?_)
  match j, hj with
  | 0, _ => exact f0_no (by decide)
  | 1, _ => exact fK_1n (by decide)
  | 2, _ => exact fK_2n (by decide)
  | 3, _ => exact fK_3n (by decide)
  | 4, _ => exact fK_4n (by decide)
  | 5, _ => exact fK_5n (by decide)
theorem ex_body : bodyL exL = [mkI 65 5] := by rw [bodyL_some ex_sm ex_step, bodyL_none ex_end]
theorem mkk_le {k : Int} {v : Nat} : VLe (aggV [intV .i64 k, intV .u64 (v : Int), exactV (.int .u64 0), exactV (.int .i64 0), exactV (.slice none 0 0)]) (aggV (encInstr (mkI k v))) :=
  VLe.agg (.cons (VLe.refl _) (.cons (VLe.refl _) (.cons (VLe.refl _) (.cons (VLe.refl _) (.cons (sliceV_nil 1 encU64) .nil)))))
instance (m : ModD) : FlatL (encMod m) := by unfold encMod; infer_instance
def InsW (x : InstrD) : Prop := (0 ≤ x.A ∧ x.A < 18446744073709551616) ∧ (0 ≤ x.B ∧ x.B < 18446744073709551616) ∧ ∀ n ∈ x.L, 0 ≤ n
theorem greatM_bnd {x : ModD} (hb : GreatB x) : 0 ≤ greatM x ∧ greatM x ≤ 17100 * 281474976710656 := by
  have h5 := (great_bnds hb).2.2.2.2
  have hq := addN_le (xs := x.Datas) (g := gData) (cap := 25) 281474976710656 (by decide) hb.data
  unfold greatM
  omega
theorem small17 {x : ModD} (h : ModLens3 x) (hw : ∀ f ∈ x.Funcs, ∀ y ∈ f.Body.L, InsW y) (h0 : greatM x + max ((x.Funcs.length : Int) - 12) 0 + max ((x.Datas.length : Int) - 4) 0 ≤ 0) : SmallM x ∧ ModOk x ∧ x.Funcs.length ≤ 60000 := by
  have hb := greatM_bnd (greatB_of h)
  have hs : SmallM x := greatM_small h (by omega)
  refine ⟨hs, ⟨fun f hf y hy => ?_, fun f hf => ?_, fun f hf => ?_⟩, by omega⟩
  · obtain ⟨⟨a1, a2⟩, ⟨b1, b2⟩, c⟩ := hw f hf y hy
    exact ⟨a1, a2, b1, b2, c, by have := (hs.fn f hf).all y hy; omega⟩
  · have := (hs.fn f hf).l; omega
  · have := (hs.fn f hf).locals; omega
theorem funcs_set {fs : List FuncD} {i : Nat} {f : FuncD} (h : fs[i]? = some f) : ((fs.take i).map plF ++ fs.drop i).set i (plF f) = (fs.take (i + 1)).map plF ++ fs.drop (i + 1) := by
  have hi := (List.getElem?_eq_some_iff.1 h).1
  have hl : ((fs.take i).map plF).length = i := by rw [List.length_map, List.length_take]; omega
  have hd : fs.drop i = f :: fs.drop (i + 1) := by
    obtain ⟨h1, h2⟩ := List.getElem?_eq_some_iff.1 h
    rw [List.drop_eq_getElem_cons h1, h2]
  rw [hd, List.set_append_right _ _ (by omega), hl, Nat.sub_self, List.set_cons_zero, ← take_snoc h, List.map_append, List.append_assoc]
  rfl
theorem funcs_at {fs : List FuncD} {i : Nat} {f : FuncD} (h : fs[i]? = some f) : ((fs.take i).map plF ++ fs.drop i)[i]? = some f := by
  have hi := (List.getElem?_eq_some_iff.1 h).1
  have hl : ((fs.take i).map plF).length = i := by rw [List.length_map, List.length_take]; omega
  rw [List.getElem?_append_right (by omega), hl, Nat.sub_self, List.getElem?_drop, Nat.add_zero, h]
theorem funcs_len {fs : List FuncD} {i : Nat} (hi : i ≤ fs.length) : ((fs.take i).map plF ++ fs.drop i).length = fs.length := by
  rw [List.length_append, List.length_map, List.length_take, List.length_drop]; omega
end Go.Hl
namespace Go.Proofs.YtmmdlhjcmlekfaaGreatDoor
open Go.Hl Go.RowKit
theorem visB_spec {b : Nat} {m : ModD} (h1 : ModOk m) (h2 : m.Funcs.length ≤ 60000) : FnE Tryz.prog 11 [addrV b 0] [cellsH b (encMod m)] (γ := Unit) (fun _ => True) (fun _ => [cellsH b (encMod m)]) (fun _ => propV (ValidD m)) :=
  (vis_spec h1 h2).borrow fun _ _ _ _ _ _ h => h
end Go.Proofs.YtmmdlhjcmlekfaaGreatDoor
end
section
namespace Go.Proofs.YtmmdlhjcmlekfaaGreatDoor
open Go.Hl Go.RowKit
set_option linter.unusedVariables false
set_option maxRecDepth 100000
set_option maxHeartbeats 4000000
theorem cloneF_spec {l : List FuncD} (hp0 : l.length ≤ 60000) : FnE Tryz.prog 20 [sliceV 3 encFunc l] [] (γ := SB) (fun _ => True) (fun g => [sliceH g 3 encFunc l]) (fun g => exactV (sval g l.length)) := by
 refine In 8 Tryz.func20 fun _ _ _ => ?_
 refine .nilCase (t := 0) rfl fun p hp => ?_
 refine Z9 ?_
 refine .p (opEqlNilN Tryz.underlying41 (.t rfl) (.c _)) rfl ?_
 refine Z2 ?_
 refine Cd (fun c0 => ?_) fun c0 => ?_
 ·
  refine Z7 ?_
  refine Post.retR1 rfl (none) (by trivial) (by rw [hp c0]; exact OLe.none) (.rt rfl) ?_
  exact VLe.of_eq (by rw [hp c0]; rfl)
 refine Z4 ?_
 refine .n (opBuildSliceO encFunc ([] : List FuncD) Tryz.underlying41 Tryz.cz49 rfl Tryz.zb49 rfl .nil rfl rfl rfl rfl rfl) rfl fun g5 _ => ?_
 refine Z1 ?_
 refine .n (opAppend (i := 0) Tryz.underlying41 Tryz.underlying41 Tryz.cz49 rfl Tryz.zb49 rfl Tryz.by49 (.t rfl) (.le (.t rfl) sliceNV_le) rfl (by simp <;> omega) (by simp <;> omega)) rfl fun g7 _ => ?_
 refine Z4 ?_
 refine Post.retR1 rfl (g7) (by trivial) (fun _ _ _ h => by simpa using h) (.rt rfl) ?_
 exact VLe.of_eq (by simp)
theorem pcount_spec {m : ModD} (hp0 : ModOk m) (hp1 : m.Funcs.length ≤ 60000) : FnP Tryz.prog 23 [ptrV (encMod m)] (intV .i64 ((cntL m.Funcs : Int))) := by
 refine In 23 Tryz.func23 fun _ _ _ => ?_
 refine Z22 ?_
 refine .loopO (σ := Nat) (fun _ => []) (fun k => [(3, intV .i64 (cntL (m.Funcs.take k) : Int)), (11, intV .i64 (k : Int))]) (fun k => k ≤ m.Funcs.length) (fun k => m.Funcs.length - k) 0 (Nat.zero_le _) rfl ?_ ?_
 · exact (.get rfl (VLe.refl _) (.get rfl (VLe.refl _) (.refl _ _)))
 rintro k hk
 have hcl := cntL_le (m.Funcs.take k) (fun g hg => hp0.len g (List.mem_of_mem_take hg))
 rw [List.length_take] at hcl
 refine Z6 ?_
 refine Cd (fun c0 => ?_) fun c0 => ?_
 ·
  obtain ⟨f, hf⟩ := getElem?_lt (xs := m.Funcs) (k := k) (by omega)
  have hfl := hp0.len f (List.mem_of_getElem? hf)
  refine Z6 ?_
  refine .p (cI k (h := hf)) rfl ?_
  refine Z1 ?_
  refine .n (opAlloc Tryz.zb49) rfl fun b5 _ => ?_
  refine Z3 ?_
  refine .share (t := 5) (i := 0) rfl rfl ?_
  refine Z15 ?_
  refine .round (k + 1) (by omega) (by omega) rfl ?_
  exact (.get rfl (VLe.int (by rw [← take_snoc hf, cntL_snoc]; omega)) (.get rfl (VLe.int (by omega)) ((.keep 16 rfl rfl))))
 have hall : m.Funcs.take k = m.Funcs := List.take_of_length_le (by omega)
 rw [hall]
 refine Z12 ?_
 refine Rt1 ?_
 exact VLe.refl _
theorem great17_spec {x : ModD} : FnP Tryz.prog 5 [aggV (encMod x)] (intV .i64 (greatM x + max ((x.Funcs.length : Int) - 12) 0 + max ((x.Datas.length : Int) - 4) 0)) := by
 refine In 17 Tryz.func5 fun _ _ _ => ?_
 refine .fact (t := 0) rfl (fun S w v h => modLens3 h) fun hlen => ?_
 have hall := hlen
 obtain ⟨⟨hl0, hl1, hl2, hl3, hl4, hl5, hl6, hl7⟩, ⟨hi0, hi1, hi2, hi3, hi4⟩, hi5⟩ := hlen
 have hgb := greatM_bnd (greatB_of hall)
 refine Z7 ?_
 refine .drawK 13 2 FM.out (by kernel_rfl) (k := ?_)
 refine Z1 ?_
 refine .p (cA (h := great_spec)) ?_
 refine Z17 ?_
 refine Rt1 ?_
 exact VLe.refl _
theorem awake23_spec  : FnE Tryz.prog 6 [] [tabH 0 .u8 Lib.deBruijn64tab] (γ := Unit) (fun _ => True) (fun _ => []) (fun _ => propV True) := by
 refine In 17 Tryz.func6 fun _ _ _ => ?_
 refine Z7 ?_
 refine .p ((opBuild Tryz.pl61 Tryz.zb61 (.cons (.c _) (.cons (.c _) .nil)) rfl).le (mkk_le (k := 65) (v := 2))) rfl ?_
 refine .p ((opBuild Tryz.pl61 Tryz.zb61 (.cons (.c _) (.cons (.c _) .nil)) rfl).le (mkk_le (k := 65) (v := 3))) rfl ?_
 refine .p ((opBuild Tryz.pl61 Tryz.zb61 (.cons (.c _) .nil) rfl).le (mkk_le (k := 106) (v := 0))) rfl ?_
 refine .p (opBuildSlice (enc := encInstr) (pcs := [(0, encInstr (mkI 65 2)), (1, encInstr (mkI 65 3)), (2, encInstr (mkI 106 0))]) exL Tryz.underlying45 Tryz.cz61 rfl Tryz.zb61 rfl (.cons (.t rfl) (.cons (.t rfl) (.cons (.t rfl) .nil))) rfl rfl rfl rfl rfl) rfl ?_
 refine .p ((cD 0 (h := pbody_spec ex_sm)).le (VLe.of_eq (by rw [ex_body]))) rfl ?_
 refine Z10 ?_
 refine .g (OpG.gT rfl rfl rfl rfl (fun hg => opIndexAddr (j := 0) Tryz.underlying45 Tryz.cz61 rfl (.when (.t rfl) hg) (.c _) rfl (show [mkI 65 5][0]? = some (mkI 65 5) from rfl))) rfl rfl ?_
 refine Z1 ?_
 refine .g (OpG.gT rfl rfl rfl rfl (fun hg => (opBuild Tryz.pl61 Tryz.zb61 (.cons (.c _) (.cons (.c _) .nil)) rfl).le (mkk_le (k := 65) (v := 5)))) rfl rfl ?_
 refine .g (OpG.gT rfl rfl rfl rfl (fun hg => opCall (isame_spec (a := mkI 65 5) (b := mkI 65 5)) Tryz.cb17 (.cons (.when (.t rfl) hg) (.cons (.when (.t rfl) hg) .nil)))) rfl rfl ?_
 refine Z5 ?_
 refine Rt1 ?_
 exact VLe.prop (by simp)
set_option maxHeartbeats 2000000 in
theorem pmod_spec {m : ModD} (hp0 : ModOk m) (hp1 : m.Funcs.length ≤ 60000) (hp2 : ValidD m) : FnE Tryz.prog 8 [ptrV (encMod m)] [tabH 0 .u8 Lib.deBruijn64tab] (γ := Unit) (fun _ => True) (fun _ => []) (fun _ => tupV [ptrV (encMod (plM m)), intV .i64 0]) := by
 refine In 53 Tryz.func8 fun _ _ _ => ?_
 refine Z15 ?_
 refine Cd (fun c0 => ?_) fun c0 => ?_
 · exact c0.elim
 refine Z3 ?_
 refine .n (cE (h := vis_spec hp0 hp1)) rfl fun g11 h11 => ?_
 refine Z4 ?_
 refine Cd (fun c1 => ?_) fun c1 => ?_
 · exact absurd hp2 c1
 refine Z8 ?_
 refine .n (opAlloc Tryz.zb43) rfl fun b4 _ => ?_
 refine Z9 ?_
 refine .n (cE (h := cloneF_spec hp1)) rfl fun g20 h20 => ?_
 refine Z14 ?_
 refine .loopO (σ := Nat) (fun i => [sliceH g20 3 encFunc ((m.Funcs.take i).map plF ++ m.Funcs.drop i), cellsH b4 [sliceV 2 encSig m.Sigs, sliceV 3 encImport m.Imports, exactV (sval g20 ((m.Funcs.take i).map plF ++ m.Funcs.drop i).length), intV .i64 m.Table, sliceV 3 encLimits m.Mems, sliceV 3 encGlobal m.Globals, sliceV 3 encExport m.Exports, intV .i64 m.Start, sliceV 2 encElem m.Elems, sliceV 3 encData m.Datas], tabH 0 .u8 Lib.deBruijn64tab]) (fun i => [(25, intV .i64 (i : Int))]) (fun i => i ≤ m.Funcs.length) (fun i => m.Funcs.length - i) 0 (Nat.zero_le _) rfl ?_ ?_
 · exact (.get rfl (VLe.refl _) (.refl _ _))
 rintro i hi
 have hfl := funcs_len hi
 refine Z6 ?_
 refine Cd (fun c2 => ?_) fun c2 => ?_
 ·
  obtain ⟨f, hf⟩ := getElem?_lt (xs := m.Funcs) (k := i) (by omega)
  refine .sliceSome 0 rfl (fun e => by rw [e] at hfl; simp at hfl; omega) fun bb bc hg => ?_
  subst hg
  refine Z10 ?_
  refine .drawK 13 4 FM.out (by kernel_rfl) (k := ?_)
  refine Z8 ?_
  refine .p (cI i (h := hf)) ?_
  refine Z3 ?_
  refine .p (cD 2 (h := pbody_spec (hp0.sm (List.mem_of_getElem? hf)))) ?_
  refine Z1 ?_
  refine .p (opIndexAddrW i Tryz.underlying41 Tryz.cz49 rfl (.t rfl) (.t rfl) rfl (by omega)) rfl ?_
  refine Z2 ?_
  refine .s (opStoreW (enc := encFunc) (i := 0) (r := 2) (plF f) rfl Tryz.cz45 (.t rfl) (.t rfl) rfl (funcs_at hf) rfl rfl) ?_
  refine Z7 ?_
  refine .round (i + 1) (by omega) (by omega) (by rw [funcs_set hf]; simp only [funcs_len hi, funcs_len (show i + 1 ≤ m.Funcs.length by omega)]; rfl) ?_
  exact (.get rfl (VLe.int (by omega)) ((.keep 22 rfl rfl)))
 have hall : (m.Funcs.take i).map plF ++ m.Funcs.drop i = m.Funcs.map plF := by rw [List.take_of_length_le (by omega), List.drop_eq_nil_of_le (by omega), List.append_nil]
 rw [hall]
 refine .shareIn (n := 3) (enc := encFunc) (i := 0) (j := 0) (f := 2) rfl rfl rfl ?_
 refine Z8 ?_
 refine .n ((cE (h := visB_spec (b := b4) (m := pmM m) (pmM_ok hp0) (by simpa [pmM] using hp1))).same (fun _ _ => OLe.refl _) (fun _ _ => VLe.refl _)) rfl fun _ _ => ?_
 refine Z3 ?_
 refine Cd (fun c3 => ?_) fun c3 => ?_
 ·
  refine Z5 ?_
  refine .n (cE (h := cloneF_spec hp1)) rfl fun g51 h51 => ?_
  refine Z4 ?_
  refine .shareIn (i := 0) (j := 0) (f := 2) rfl rfl rfl ?_
  refine Z1 ?_
  refine .share (t := 4) (i := 0) rfl rfl ?_
  refine Z6 ?_
  refine Rt2 ?_ ?_
  · exact VLe.of_eq (by rw [plM_no c3]; rfl)
  exact VLe.refl _
 refine Z3 ?_
 refine .share (t := 4) (i := 0) rfl rfl ?_
 refine Z6 ?_
 refine Rt2 ?_ ?_
 · exact VLe.of_eq (by rw [plM_yes (Classical.not_not.1 c3)]; rfl)
 exact VLe.refl _
theorem pmodN_spec {m : ModD} (hp0 : ModOk m) (hp1 : m.Funcs.length ≤ 60000) (hp2 : ¬ ValidD m) : FnE Tryz.prog 8 [ptrV (encMod m)] [tabH 0 .u8 Lib.deBruijn64tab] (γ := Unit) (fun _ => True) (fun _ => []) (fun _ => tupV [nilV, intV .i64 5]) := by
 refine In 53 Tryz.func8 fun _ _ _ => ?_
 refine Z15 ?_
 refine Cd (fun c0 => ?_) fun c0 => ?_
 · exact c0.elim
 refine Z3 ?_
 refine .n (cE (h := vis_spec hp0 hp1)) rfl fun g11 h11 => ?_
 refine Z4 ?_
 refine Cd (fun c1 => ?_) fun c1 => ?_
 ·
  refine Z9 ?_
  refine Rt2 ?_ ?_
  · exact VLe.refl _
  exact VLe.refl _
 exact absurd hp2 c1
theorem pmodNil_spec  : FnE Tryz.prog 8 [nilV] [tabH 0 .u8 Lib.deBruijn64tab] (γ := Unit) (fun _ => True) (fun _ => []) (fun _ => tupV [nilV, intV .i64 12]) := by
 refine In 53 Tryz.func8 fun _ _ _ => ?_
 refine Z15 ?_
 refine Cd (fun c0 => ?_) fun c0 => ?_
 ·
  refine Z9 ?_
  refine Rt2 ?_ ?_
  · exact VLe.refl _
  exact VLe.refl _
 exact (c0 trivial).elim
theorem psaved_spec {m : ModD} (hp0 : ModOk m) (hp1 : m.Funcs.length ≤ 60000) (hp2 : ValidD m) : FnE Tryz.prog 10 [ptrV (encMod m)] [tabH 0 .u8 Lib.deBruijn64tab] (γ := Unit) (fun _ => True) (fun _ => []) (fun _ => intV .i64 ((cntL m.Funcs : Int) - (cntL (plM m).Funcs : Int))) := by
 refine In 17 Tryz.func10 fun _ _ _ => ?_
 have hc1 := cntL_le m.Funcs hp0.len
 have hc2 := cntL_pl hp0
 refine Z8 ?_
 refine .p (cD 0 (h := pmod_spec hp0 hp1 hp2)) rfl ?_
 refine Z14 ?_
 refine Cd (fun c0 => ?_) fun c0 => ?_
 · exact absurd rfl c0
 refine Z5 ?_
 refine .p (cA (h := pcount_spec hp0 hp1)) rfl ?_
 refine Z1 ?_
 refine .p (cA (h := pcount_spec (plM_ok hp0) (by rw [plM_len]; exact hp1))) rfl ?_
 refine Z5 ?_
 refine Rt1 ?_
 exact VLe.refl _
theorem psavedN_spec {m : ModD} (hp0 : ModOk m) (hp1 : m.Funcs.length ≤ 60000) (hp2 : ¬ ValidD m) : FnE Tryz.prog 10 [ptrV (encMod m)] [tabH 0 .u8 Lib.deBruijn64tab] (γ := Unit) (fun _ => True) (fun _ => []) (fun _ => intV .i64 (0)) := by
 refine In 17 Tryz.func10 fun _ _ _ => ?_
 refine Z8 ?_
 refine .p (cD 0 (h := pmodN_spec hp0 hp1 hp2)) rfl ?_
 refine Z14 ?_
 refine Cd (fun c0 => ?_) fun c0 => ?_
 ·
  refine Z7 ?_
  refine Rt1 ?_
  exact VLe.refl _
 exact absurd (show (5 : Int) ≠ 0 by decide) c0
set_option maxHeartbeats 4000000 in
theorem PlainModules0_spec {x : ModD} (hp0 : ∀ f ∈ x.Funcs, ∀ y ∈ f.Body.L, InsW y) : FnE Tryz.prog 3 [aggV (encMod x)] [tabH 0 .u8 Lib.deBruijn64tab] (γ := Unit) (fun _ => True) (fun _ => []) (fun _ => propV True) := by
 refine In 122 Tryz.func3 fun _ _ _ => ?_
 refine .fact (t := 0) rfl (fun S w v h => modLens3 h) fun hlen => ?_
 have hall := hlen
 obtain ⟨⟨hl0, hl1, hl2, hl3, hl4, hl5, hl6, hl7⟩, ⟨hi0, hi1, hi2, hi3, hi4⟩, hi5⟩ := hlen
 have hgm := greatM_bnd (greatB_of hall)
 refine Z10 ?_
 refine .p (cA (h := great17_spec)) rfl ?_
 refine Z2 ?_
 refine .g (OpG.gF rfl rfl rfl rfl (fun hg => opCallDup (i := 0) (awake23_spec) Tryz.cb6 .nil rfl)) rfl rfl ?_
 refine Z4 ?_
 refine Cd (fun c0 => ?_) fun c0 => ?_
 ·
  refine Z2 ?_
  refine .p (cD 0 (h := awake23_spec)) rfl ?_
  refine Z5 ?_
  refine Rt1 ?_
  exact VLe.refl _
 obtain ⟨hsm, hmo, hfl⟩ := small17 hall hp0 (by omega)
 refine Z5 ?_
 refine .p (cA (h := l13to_spec hsm)) rfl ?_
 refine Z4 ?_
 by_cases hv : ValidD x
 ·
  refine Z2 ?_
  refine .p (cD 0 (h := pmod_spec hmo hfl hv)) rfl ?_
  refine Z11 ?_
  refine .n (cE (h := dvalid_spec hmo hfl)) rfl fun g29 h29 => ?_
  refine Z3 ?_
  refine Cd (fun c1 => ?_) fun c1 => ?_
  · exact absurd (h29.2.2 hv) (by omega)
  refine Z15 ?_
  refine .loopO (σ := Nat) (fun _ => [tabH 0 .u8 Lib.deBruijn64tab]) (fun k => [(6, intV .i64 (cntL (x.Funcs.take k) : Int)), (7, intV .i64 (cntL ((plM x).Funcs.take k) : Int)), (8, intV .i64 (k : Int))]) (fun k => k ≤ x.Funcs.length) (fun k => x.Funcs.length - k) 0 (Nat.zero_le _) rfl ?_ ?_
  · exact (.get rfl (VLe.refl _) (.get rfl (VLe.refl _) (.get rfl (VLe.refl _) (.refl _ _))))
  rintro k hk
  have hcl := cntL_le (x.Funcs.take k) (fun g hg => hmo.len g (List.mem_of_mem_take hg))
  have hcl2 := cntL_le ((plM x).Funcs.take k) (fun g hg => (plM_ok hmo).len g (List.mem_of_mem_take hg))
  rw [List.length_take] at hcl hcl2
  refine Z12 ?_
  refine Cd (fun c2 => ?_) fun c2 => ?_
  ·
   obtain ⟨f1, hf1⟩ := getElem?_lt (xs := x.Funcs) (k := k) (by omega)
   obtain ⟨f2, hf2⟩ := getElem?_lt (xs := (plM x).Funcs) (k := k) (by rw [plM_len]; omega)
   have hl1 := hmo.len f1 (List.mem_of_getElem? hf1)
   have hl2 := (plM_ok hmo).len f2 (List.mem_of_getElem? hf2)
   refine Z12 ?_
   refine .p (cI k (h := hf1)) rfl ?_
   refine Z15 ?_
   refine .p (cI k (h := hf2)) rfl ?_
   refine Z14 ?_
   refine .round (k + 1) (by omega) (by omega) rfl ?_
   exact (.get rfl (VLe.int (by rw [← take_snoc hf1, cntL_snoc]; omega)) (.get rfl (VLe.int (by rw [← take_snoc hf2, cntL_snoc]; omega)) (.get rfl (VLe.int (by omega)) ((.keep 39 rfl rfl)))))
  have ha1 : x.Funcs.take k = x.Funcs := List.take_of_length_le (by omega)
  have ha2 : (plM x).Funcs.take k = (plM x).Funcs := List.take_of_length_le (by rw [plM_len]; omega)
  rw [ha1, ha2]
  have hc1 := cntL_le x.Funcs hmo.len
  have hc2 := cntL_pl hmo
  have hid := plM_idem hmo
  have hvp := plM_valid hv
  refine Z8 ?_
  refine .p (cD 0 (h := pmod_spec (plM_ok hmo) (by rw [plM_len]; exact hfl) (plM_valid hv))) rfl ?_
  refine Z9 ?_
  refine .p (cD 0 (h := pmodNil_spec)) rfl ?_
  refine Z21 ?_
  refine .egT rfl rfl rfl rfl (fun hg => (cE (h := vis_spec (plM_ok hmo) (by rw [plM_len]; exact hfl))).same (fun _ _ => OLe.refl _) (fun _ _ => VLe.refl _)) rfl rfl ?_
  refine Z3 ?_
  refine .g (OpG.gT rfl rfl rfl rfl (fun hg => opCallDup (i := 0) (psaved_spec hmo hfl hv) Tryz.cb10 (.cons (.when (.t rfl) hg) .nil) rfl)) rfl rfl ?_
  refine Z13 ?_
  refine .g (OpG.gT rfl rfl rfl rfl (fun hg => opCall (msame_spec) Tryz.cb12 (.cons (.when (.t rfl) hg) (.cons (.when (.t rfl) hg) .nil)))) rfl rfl ?_
  refine Z4 ?_
  refine .g (OpG.gT rfl rfl rfl rfl (fun hg => opCall (l13to_spec hsm) Tryz.cb7 (.cons (.when (.t rfl) hg) .nil))) rfl rfl ?_
  refine .g (OpG.gT rfl rfl rfl rfl (fun hg => opCall (msame_spec) Tryz.cb12 (.cons (.when (.t rfl) hg) (.cons (.when (.t rfl) hg) .nil)))) rfl rfl ?_
  refine Z5 ?_
  refine Rt1 ?_
  exact VLe.prop (by simp [hid, hvp]; omega)
 refine Z2 ?_
 refine .p (cD 0 (h := pmodN_spec hmo hfl hv)) rfl ?_
 refine Z11 ?_
 refine .n (cE (h := dvalid_spec hmo hfl)) rfl fun g29 h29 => ?_
 refine Z3 ?_
 refine Cd (fun c1 => ?_) fun c1 => ?_
 ·
  refine Z10 ?_
  refine .g (OpG.gT rfl rfl rfl rfl (fun hg => opCallDup (i := 0) (psavedN_spec hmo hfl hv) Tryz.cb10 (.cons (.when (.t rfl) hg) .nil) rfl)) rfl rfl ?_
  refine Z7 ?_
  refine Rt1 ?_
  exact VLe.prop (by simp)
 exact (hv (h29.2.1 (by omega))).elim
end Go.Proofs.YtmmdlhjcmlekfaaGreatDoor
end
section
namespace Go.Hl
open Go.RowKit
set_option linter.unusedVariables false
theorem VP.ext' {a b : VP} (h : ∀ S w v, a.p S w v ↔ b.p S w v) : a = b := by
  cases a; cases b
  congr
  funext S w v
  exact propext (h S w v)
theorem sliceV_map {α β : Type} {n : Nat} {enc : β → List VP} {f : α → β} {l : List α} : sliceV n (fun a => enc (f a)) l = sliceV n enc (l.map f) := by
  refine VP.ext' fun S w v => ⟨fun ⟨a, cap, h1, h2, h3, h4⟩ => ⟨a, cap, by rw [List.length_map]; exact h1, by rw [List.length_map]; exact h2, by rw [List.length_map]; exact h3, ?_⟩, fun ⟨a, cap, h1, h2, h3, h4⟩ => ⟨a, cap, by rw [List.length_map] at h1; exact h1, by rw [List.length_map] at h2; exact h2, by rw [List.length_map] at h3; exact h3, ?_⟩⟩
  · cases a with
    | none => exact h4
    | some ad =>
      intro h0
      obtain ⟨k1, k2, k3⟩ := h4 h0
      refine ⟨k1, k2, fun i x hx => ?_⟩
      rw [List.getElem?_map] at hx
      obtain ⟨y, hy, rfl⟩ := Option.map_eq_some_iff.1 hx
      exact k3 i y hy
  · cases a with
    | none => exact h4
    | some ad =>
      intro h0
      obtain ⟨k1, k2, k3⟩ := h4 h0
      exact ⟨k1, k2, fun i x hx => k3 i (f x) (by rw [List.getElem?_map, hx]; rfl)⟩
abbrev encU64W (n : IntOf .u64) : List VP := encU64 n.1
abbrev IWm := { x : InstrD // InsW x }
theorem u64_in (a : IntOf .u64) : 0 ≤ a.1 ∧ a.1 < 18446744073709551616 := by
  have h := a.2
  have e1 : IntKind.u64.min = 0 := by decide
  have e2 : IntKind.u64.max = 18446744073709551615 := by decide
  simp [Lit.wf] at h
  omega
def mkIWm (c : Int) (a b : IntOf .u64) (al : Int) (l : List (IntOf .u64)) : IWm := ⟨⟨c, a.1, b.1, al, l.map (·.1)⟩, u64_in a, u64_in b, fun n hn => by
  obtain ⟨y, _, rfl⟩ := List.mem_map.1 hn; exact (u64_in y).1⟩
abbrev encIWm (x : IWm) : List VP := encInstr x.1
instance : Enc 5 encIWm := ⟨fun x => (inferInstance : Enc 5 encInstr).len x.1, fun x q h => (inferInstance : Enc 5 encInstr).flat x.1 q h⟩
abbrev BodyW := { b : BodyD // ∀ y ∈ b.L, InsW y }
def mkBodyW (t : List UInt8) (l : List IWm) : BodyW := ⟨⟨t, l.map (·.1)⟩, fun y hy => by
  obtain ⟨z, _, rfl⟩ := List.mem_map.1 hy; exact z.2⟩
abbrev encBodyW (b : BodyW) : List VP := encBody b.1
instance : Enc 2 encBodyW := ⟨fun x => (inferInstance : Enc 2 encBody).len x.1, fun x q h => (inferInstance : Enc 2 encBody).flat x.1 q h⟩
abbrev FuncW := { f : FuncD // ∀ y ∈ f.Body.L, InsW y }
def mkFuncW (s : Int) (b : BodyW) : FuncW := ⟨⟨s, b.1⟩, b.2⟩
abbrev encFuncW (f : FuncW) : List VP := encFunc f.1
instance : Enc 3 encFuncW := ⟨fun x => (inferInstance : Enc 3 encFunc).len x.1, fun x q h => (inferInstance : Enc 3 encFunc).flat x.1 q h⟩
abbrev ModW := { m : ModD // ∀ f ∈ m.Funcs, ∀ y ∈ f.Body.L, InsW y }
def mkModW (a : List SigD) (b : List ImportD) (c : List FuncW) (d : Int) (e : List LimitsD) (f : List GlobalD) (g : List ExportD) (h : Int) (i : List ElemD) (j : List DataD) : ModW := ⟨⟨a, b, c.map (·.1), d, e, f, g, h, i, j⟩, fun f hf => by
  obtain ⟨z, _, rfl⟩ := List.mem_map.1 hf; exact z.2⟩
abbrev encModW (m : ModW) : List VP := encMod m.1
theorem mkIWm_enc (c : Int) (a b : IntOf .u64) (al : Int) (l : List (IntOf .u64)) : [intV .i64 c, intV .u64 a.1, intV .u64 b.1, intV .i64 al, sliceV 1 encU64W l] = encIWm (mkIWm c a b al l) := by
  rw [show sliceV 1 encU64W l = sliceV 1 encU64 (l.map (·.1)) from sliceV_map (enc := encU64) (f := Subtype.val)]; rfl
theorem mkBodyW_enc (t : List UInt8) (l : List IWm) : [sliceV 1 encU8 t, sliceV 5 encIWm l] = encBodyW (mkBodyW t l) := by
  rw [show sliceV 5 encIWm l = sliceV 5 encInstr (l.map (·.1)) from sliceV_map (enc := encInstr) (f := Subtype.val)]; rfl
theorem mkModW_enc (a : List SigD) (b : List ImportD) (c : List FuncW) (d : Int) (e : List LimitsD) (f : List GlobalD) (g : List ExportD) (h : Int) (i : List ElemD) (j : List DataD) :
    [sliceV 2 encSig a, sliceV 3 encImport b, sliceV 3 encFuncW c, intV .i64 d, sliceV 3 encLimits e, sliceV 3 encGlobal f, sliceV 3 encExport g, intV .i64 h, sliceV 2 encElem i, sliceV 3 encData j] = encModW (mkModW a b c d e f g h i j) := by
  rw [show sliceV 3 encFuncW c = sliceV 3 encFunc (c.map (·.1)) from sliceV_map (enc := encFunc) (f := Subtype.val)]; rfl
end Go.Hl
end
