/-
  What the statement's proof leans on, several texts in one (packed by a program).
-/
import Derived.Test.YtmmdlhjcmlekfaaGreatDoorPNN
import Derived.Lib.LaidTab
set_option linter.all false
set_option maxRecDepth 1000000
set_option maxHeartbeats 4000000
section
namespace Go.Hl
open Go.RowKit
def exL : List InstrD := [mkI 65 2, mkI 65 3, mkI 106 0]
theorem ex_two : twoV 106 2 3 = 5 ∧ twoOk 106 2 3 ∧ outC 106 = 65 := by
  refine ⟨?_, ?_, ?_⟩
  · unfold twoV; rw [if_neg (by decide), if_neg (by decide), if_pos (by decide)]; decide
  · unfold twoOk; rw [if_neg (by decide), if_neg (by decide), if_pos (by decide)]; decide
  · decide
theorem ex_sm : SmL exL 60000 := ⟨by decide, fun x hx => by
  simp only [exL, List.mem_cons, List.not_mem_nil, or_false] at hx
  rcases hx with rfl | rfl | rfl <;> exact mkI_ok (by decide), fun x hx => by
  simp only [exL, List.mem_cons, List.not_mem_nil, or_false] at hx
  rcases hx with rfl | rfl | rfl <;> simp [mkI]⟩
theorem ex_step : stepL exL = some ([mkI 65 5], 3) := by
  refine stepL_at (i := 0) rfl (by decide) (stepAtK_stay (k := 3) (stepAtK_yes (stepAtK_none 2 fun j hj => ?_) ?_) 6 (by decide))
  · match j, hj with
    | 0, _ => exact f0_no (by decide)
    | 1, _ => exact f1_b (by decide)
  · rw [f2_c (l := exL) (i := 0) (by decide) (by decide) ex_two.2.1, two_num (c := (gI exL (0 + 2)).Code) (a := XA exL 0) (b := XA exL (0 + 1)) ex_two.2.1]
    have e : gI exL (0 + 2) = mkI 106 0 := rfl
    rw [e]
    show some (cutL exL 0 3 [mkI (outC 106) (twoV 106 2 3)]) = _
    rw [ex_two.1, ex_two.2.2]; rfl
theorem ex_end : stepL [mkI 65 5] = none := by
  refine stepK_next (l := [mkI 65 5]) (i := 0) rfl (stepAtK_none 6 fun j hj => ?_)
  match j, hj with
  | 0, _ => exact f0_no (by decide)
  | 1, _ => exact fK_1n (by decide)
  | 2, _ => exact fK_2n (by decide)
  | 3, _ => exact fK_3n (by decide)
  | 4, _ => exact fK_4n (by decide)
  | 5, _ => exact fK_5n (by decide)
theorem ex_body : bodyL exL = [mkI 65 5] := by rw [bodyL_some ex_sm ex_step, bodyL_none ex_end]
theorem mkk_le {k : Int} {v : Nat} : VLe (aggV [intV .i64 k, intV .u64 (v : Int), exactV (.int .u64 0), exactV (.int .i64 0), exactV (.slice none 0 0)]) (aggV (encInstr (mkI k v))) :=
  VLe.agg (.cons (VLe.refl _) (.cons (VLe.refl _) (.cons (VLe.refl _) (.cons (VLe.refl _) (.cons (sliceV_nil 1 encU64) .nil)))))
instance (m : ModD) : FlatL (encMod m) := by unfold encMod; infer_instance
def InsW (x : InstrD) : Prop := (0 ≤ x.A ∧ x.A < 18446744073709551616) ∧ (0 ≤ x.B ∧ x.B < 18446744073709551616) ∧ ∀ n ∈ x.L, 0 ≤ n
theorem greatM_bnd {x : ModD} (hb : GreatB x) : 0 ≤ greatM x ∧ greatM x ≤ 17100 * 281474976710656 := by
  have h5 := (great_bnds hb).2.2.2.2
  have hq := addN_le (xs := x.Datas) (g := gData) (cap := 25) 281474976710656 (by decide) hb.data
  unfold greatM
  omega
theorem small17 {x : ModD} (h : ModLens3 x) (hw : ∀ f ∈ x.Funcs, ∀ y ∈ f.Body.L, InsW y) (h0 : greatM x + max ((x.Funcs.length : Int) - 12) 0 + max ((x.Datas.length : Int) - 4) 0 ≤ 0) : SmallM x ∧ ModOk x ∧ x.Funcs.length ≤ 60000 := by
  have hb := greatM_bnd (greatB_of h)
  have hs : SmallM x := greatM_small h (by omega)
  refine ⟨hs, ⟨fun f hf y hy => ?_, fun f hf => ?_, fun f hf => ?_⟩, by omega⟩
  · obtain ⟨⟨a1, a2⟩, ⟨b1, b2⟩, c⟩ := hw f hf y hy
    exact ⟨a1, a2, b1, b2, c, by have := (hs.fn f hf).all y hy; omega⟩
  · have := (hs.fn f hf).l; omega
  · have := (hs.fn f hf).locals; omega
theorem funcs_set {fs : List FuncD} {i : Nat} {f : FuncD} (h : fs[i]? = some f) : ((fs.take i).map plF ++ fs.drop i).set i (plF f) = (fs.take (i + 1)).map plF ++ fs.drop (i + 1) := by
  have hi := (List.getElem?_eq_some_iff.1 h).1
  have hl : ((fs.take i).map plF).length = i := by rw [List.length_map, List.length_take]; omega
  have hd : fs.drop i = f :: fs.drop (i + 1) := by
    obtain ⟨h1, h2⟩ := List.getElem?_eq_some_iff.1 h
    rw [List.drop_eq_getElem_cons h1, h2]
  rw [hd, List.set_append_right _ _ (by omega), hl, Nat.sub_self, List.set_cons_zero, ← take_snoc h, List.map_append, List.append_assoc]
  rfl
theorem funcs_at {fs : List FuncD} {i : Nat} {f : FuncD} (h : fs[i]? = some f) : ((fs.take i).map plF ++ fs.drop i)[i]? = some f := by
  have hi := (List.getElem?_eq_some_iff.1 h).1
  have hl : ((fs.take i).map plF).length = i := by rw [List.length_map, List.length_take]; omega
  rw [List.getElem?_append_right (by omega), hl, Nat.sub_self, List.getElem?_drop, Nat.add_zero, h]
theorem funcs_len {fs : List FuncD} {i : Nat} (hi : i ≤ fs.length) : ((fs.take i).map plF ++ fs.drop i).length = fs.length := by
  rw [List.length_append, List.length_map, List.length_take, List.length_drop]; omega
end Go.Hl
namespace Go.Proofs.YtmmdlhjcmlekfaaGreatDoor
open Go.Hl Go.RowKit
theorem visB_spec {b : Nat} {m : ModD} (h1 : ModOk m) (h2 : m.Funcs.length ≤ 60000) : FnE Tryz.prog 11 [addrV b 0] [cellsH b (encMod m)] (γ := Unit) (fun _ => True) (fun _ => [cellsH b (encMod m)]) (fun _ => propV (ValidD m)) :=
  (vis_spec h1 h2).borrow fun _ _ _ _ _ _ h => h
end Go.Proofs.YtmmdlhjcmlekfaaGreatDoor
end
section
namespace Go.Proofs.YtmmdlhjcmlekfaaGreatDoor
open Go.Hl Go.RowKit
theorem cloneF_spec {l : List FuncD} (hp0 : l.length ≤ 60000) : FnE Tryz.prog 20 [sliceV 3 encFunc l] [] (γ := SB) (fun _ => True) (fun g => [sliceH g 3 encFunc l]) (fun g => exactV (sval g l.length)) := by
 refine In 8 Tryz.func20 fun _ _ _ => ?_
 refine .nilCase (t := 0) rfl fun p hp => ?_
 refine Z9 ?_
 refine .p (opEqlNilN Tryz.underlying41 (.t rfl) (.c _)) rfl ?_
 refine Z2 ?_
 refine Cd (fun c0 => ?_) fun c0 => ?_
 ·
  refine Z7 ?_
  refine Post.retR1 rfl (none) (by trivial) (by rw [hp c0]; exact OLe.none) (.rt rfl) ?_
  exact VLe.of_eq (by rw [hp c0]; rfl)
 refine Z4 ?_
 refine .n (opBuildSliceO encFunc ([] : List FuncD) Tryz.underlying41 Tryz.cz49 rfl Tryz.zb49 rfl .nil rfl rfl rfl rfl rfl) rfl fun g5 _ => ?_
 refine Z1 ?_
 refine .n (opAppend (i := 0) Tryz.underlying41 Tryz.underlying41 Tryz.cz49 rfl Tryz.zb49 rfl Tryz.by49 (.t rfl) (.le (.t rfl) sliceNV_le) rfl (by simp <;> omega) (by simp <;> omega)) rfl fun g7 _ => ?_
 refine Z4 ?_
 refine Post.retR1 rfl (g7) (by trivial) (fun _ _ _ h => by simpa using h) (.rt rfl) ?_
 exact VLe.of_eq (by simp)
theorem great17_spec {x : ModD} : FnP Tryz.prog 5 [aggV (encMod x)] (intV .i64 (greatM x + max ((x.Funcs.length : Int) - 12) 0 + max ((x.Datas.length : Int) - 4) 0)) := by
 refine In 17 Tryz.func5 fun _ _ _ => ?_
 refine .fact (t := 0) rfl (fun S w v h => modLens3 h) fun hlen => ?_
 have hall := hlen
 obtain ⟨⟨hl0, hl1, hl2, hl3, hl4, hl5, hl6, hl7⟩, ⟨hi0, hi1, hi2, hi3, hi4⟩, hi5⟩ := hlen
 have hgb := greatM_bnd (greatB_of hall)
 refine Z7 ?_
 refine .drawK 13 2 FM.out (by kernel_rfl) (k := ?_)
 refine Z1 ?_
 refine .p (cA (h := great_spec)) ?_
 refine Z17 ?_
 refine Rt1 ?_
 exact VLe.refl _
theorem awake23_spec  : FnE Tryz.prog 6 [] [tabH 0 .u8 Lib.deBruijn64tab] (γ := Unit) (fun _ => True) (fun _ => []) (fun _ => propV True) := by
 refine In 17 Tryz.func6 fun _ _ _ => ?_
 refine Z7 ?_
 refine .p ((opBuild Tryz.pl61 Tryz.zb61 (.cons (.c _) (.cons (.c _) .nil)) rfl).le (mkk_le (k := 65) (v := 2))) rfl ?_
 refine .p ((opBuild Tryz.pl61 Tryz.zb61 (.cons (.c _) (.cons (.c _) .nil)) rfl).le (mkk_le (k := 65) (v := 3))) rfl ?_
 refine .p ((opBuild Tryz.pl61 Tryz.zb61 (.cons (.c _) .nil) rfl).le (mkk_le (k := 106) (v := 0))) rfl ?_
 refine .p (opBuildSlice (enc := encInstr) (pcs := [(0, encInstr (mkI 65 2)), (1, encInstr (mkI 65 3)), (2, encInstr (mkI 106 0))]) exL Tryz.underlying45 Tryz.cz61 rfl Tryz.zb61 rfl (.cons (.t rfl) (.cons (.t rfl) (.cons (.t rfl) .nil))) rfl rfl rfl rfl rfl) rfl ?_
 refine .p ((cD 0 (h := pbody_spec ex_sm)).le (VLe.of_eq (by rw [ex_body]))) rfl ?_
 refine Z10 ?_
 refine .g (OpG.gT rfl rfl rfl rfl (fun hg => opIndexAddr (j := 0) Tryz.underlying45 Tryz.cz61 rfl (.when (.t rfl) hg) (.c _) rfl (show [mkI 65 5][0]? = some (mkI 65 5) from rfl))) rfl rfl ?_
 refine Z1 ?_
 refine .g (OpG.gT rfl rfl rfl rfl (fun hg => (opBuild Tryz.pl61 Tryz.zb61 (.cons (.c _) (.cons (.c _) .nil)) rfl).le (mkk_le (k := 65) (v := 5)))) rfl rfl ?_
 refine .g (OpG.gT rfl rfl rfl rfl (fun hg => opCall (isame_spec (a := mkI 65 5) (b := mkI 65 5)) Tryz.cb17 (.cons (.when (.t rfl) hg) (.cons (.when (.t rfl) hg) .nil)))) rfl rfl ?_
 refine Z5 ?_
 refine Rt1 ?_
 exact VLe.prop (by simp)
theorem pmod_spec {m : ModD} (hp0 : ModOk m) (hp1 : m.Funcs.length ≤ 60000) (hp2 : ValidD m) : FnE Tryz.prog 8 [ptrV (encMod m)] [tabH 0 .u8 Lib.deBruijn64tab] (γ := Unit) (fun _ => True) (fun _ => []) (fun _ => tupV [ptrV (encMod (plM m)), intV .i64 0]) := by
 refine In 53 Tryz.func8 fun _ _ _ => ?_
 refine Z15 ?_
 refine Cd (fun c0 => ?_) fun c0 => ?_
 · exact c0.elim
 refine Z3 ?_
 refine .n (cE (h := vis_spec hp0 hp1)) rfl fun g11 h11 => ?_
 refine Z4 ?_
 refine Cd (fun c1 => ?_) fun c1 => ?_
 · exact absurd hp2 c1
 refine Z8 ?_
 refine .n (opAlloc Tryz.zb43) rfl fun b4 _ => ?_
 refine Z9 ?_
 refine .n (cE (h := cloneF_spec hp1)) rfl fun g20 h20 => ?_
 refine Z14 ?_
 refine .loopO (σ := Nat) (fun i => [sliceH g20 3 encFunc ((m.Funcs.take i).map plF ++ m.Funcs.drop i), cellsH b4 [sliceV 2 encSig m.Sigs, sliceV 3 encImport m.Imports, exactV (sval g20 ((m.Funcs.take i).map plF ++ m.Funcs.drop i).length), intV .i64 m.Table, sliceV 3 encLimits m.Mems, sliceV 3 encGlobal m.Globals, sliceV 3 encExport m.Exports, intV .i64 m.Start, sliceV 2 encElem m.Elems, sliceV 3 encData m.Datas], tabH 0 .u8 Lib.deBruijn64tab]) (fun i => [(25, intV .i64 (i : Int))]) (fun i => i ≤ m.Funcs.length) (fun i => m.Funcs.length - i) 0 (Nat.zero_le _) rfl ?_ ?_
 · exact (.get rfl (VLe.refl _) (.refl _ _))
 rintro i hi
 have hfl := funcs_len hi
 refine Z6 ?_
 refine Cd (fun c2 => ?_) fun c2 => ?_
 ·
  obtain ⟨f, hf⟩ := getElem?_lt (xs := m.Funcs) (k := i) (by omega)
  refine .sliceSome 0 rfl (fun e => by rw [e] at hfl; simp at hfl; omega) fun bb bc hg => ?_
  subst hg
  refine Z10 ?_
  refine .drawK 13 4 FM.out (by kernel_rfl) (k := ?_)
  refine Z8 ?_
  refine .p (cI i (h := hf)) ?_
  refine Z3 ?_
  refine .p (cD 2 (h := pbody_spec (hp0.sm (List.mem_of_getElem? hf)))) ?_
  refine Z1 ?_
  refine .p (opIndexAddrW i Tryz.underlying41 Tryz.cz49 rfl (.t rfl) (.t rfl) rfl (by omega)) rfl ?_
  refine Z2 ?_
  refine .s (opStoreW (enc := encFunc) (i := 0) (r := 2) (plF f) rfl Tryz.cz45 (.t rfl) (.t rfl) rfl (funcs_at hf) rfl rfl) ?_
  refine Z7 ?_
  refine .round (i + 1) (by omega) (by omega) (by rw [funcs_set hf]; simp only [funcs_len hi, funcs_len (show i + 1 ≤ m.Funcs.length by omega)]; rfl) ?_
  exact (.get rfl (VLe.int (by omega)) ((.keep 22 rfl rfl)))
 have hall : (m.Funcs.take i).map plF ++ m.Funcs.drop i = m.Funcs.map plF := by rw [List.take_of_length_le (by omega), List.drop_eq_nil_of_le (by omega), List.append_nil]
 rw [hall]
 refine .shareIn (n := 3) (enc := encFunc) (i := 0) (j := 0) (f := 2) rfl rfl rfl ?_
 refine Z8 ?_
 refine .n ((cE (h := visB_spec (b := b4) (m := pmM m) (pmM_ok hp0) (by simpa [pmM] using hp1))).same (fun _ _ => OLe.refl _) (fun _ _ => VLe.refl _)) rfl fun _ _ => ?_
 refine Z3 ?_
 refine Cd (fun c3 => ?_) fun c3 => ?_
 ·
  refine Z5 ?_
  refine .n (cE (h := cloneF_spec hp1)) rfl fun g51 h51 => ?_
  refine Z4 ?_
  refine .shareIn (i := 0) (j := 0) (f := 2) rfl rfl rfl ?_
  refine Z1 ?_
  refine .share (t := 4) (i := 0) rfl rfl ?_
  refine Z6 ?_
  refine Rt2 ?_ ?_
  · exact VLe.of_eq (by rw [plM_no c3]; rfl)
  exact VLe.refl _
 refine Z3 ?_
 refine .share (t := 4) (i := 0) rfl rfl ?_
 refine Z6 ?_
 refine Rt2 ?_ ?_
 · exact VLe.of_eq (by rw [plM_yes (Classical.not_not.1 c3)]; rfl)
 exact VLe.refl _
end Go.Proofs.YtmmdlhjcmlekfaaGreatDoor
end
section
namespace Go.Hl
def TLe (a b : UInt8) : Prop := a = b ∨ a = 0
theorem TLe.rfl' {a : UInt8} : TLe a a := .inl rfl
inductive TsLe : List UInt8 → List UInt8 → Prop
  | nil : TsLe [] []
  | snoc {l m : List UInt8} {a b : UInt8} (h : TsLe l m) (k : TLe a b) : TsLe (l ++ [a]) (m ++ [b])
theorem TsLe.len {l m : List UInt8} (h : TsLe l m) : l.length = m.length := by
  induction h with
  | nil => rfl
  | snoc _ _ ih => simp [ih]
theorem TsLe.app {l m r s : List UInt8} (h : TsLe l m) (k : TsLe r s) : TsLe (l ++ r) (m ++ s) := by
  induction k with
  | nil => simpa using h
  | snoc _ k ih => rw [← List.append_assoc, ← List.append_assoc]; exact .snoc ih k
theorem TsLe.one {a b : UInt8} (h : TLe a b) : TsLe [a] [b] := .snoc (l := []) (m := []) .nil h
theorem TsLe.rfl' : ∀ (l : List UInt8), TsLe l l
  | [] => .nil
  | a :: l => (TsLe.one .rfl').app (TsLe.rfl' l)
def SLe (a b : Stk) : Prop := ∃ p l, b.1 = p ++ l ∧ TsLe a.1 l ∧ (p ≠ [] → a.2) ∧ (b.2 → a.2)
theorem SLe.rfl' {s : Stk} : SLe s s := ⟨[], s.1, by simp, .rfl' _, fun h => absurd rfl h, fun h => h⟩
theorem SLe.len {a b : Stk} (h : SLe a b) : a.1.length ≤ b.1.length := by
  obtain ⟨p, l, h1, h2, _⟩ := h
  rw [h1, List.length_append, h2.len]; omega
theorem SLe.kill {s : Stk} : SLe killS s := ⟨s.1, [], by simp, .nil, fun _ => trivial, fun _ => trivial⟩
theorem SLe.give {a b : Stk} {l m : List UInt8} (h : SLe a b) (k : TsLe l m) : SLe (giveS a l) (giveS b m) := by
  obtain ⟨p, r, h1, h2, h3, h4⟩ := h
  exact ⟨p, r ++ m, by show b.1 ++ m = _; rw [h1, List.append_assoc], h2.app k, h3, h4⟩
theorem SLe.tk1 {a b b' : Stk} {v w t : UInt8} (h : SLe a b) (hw : TLe v w) (hb : tk1S b w = some (b', t)) : ∃ a' u, tk1S a v = some (a', u) ∧ SLe a' b' ∧ TLe u t := by
  obtain ⟨bl, bd⟩ := b
  obtain ⟨al, ad⟩ := a
  obtain ⟨p, l, h1, h2, h3, h4⟩ := h
  simp only at h1 h2 h3 h4
  cases h2 with
  | nil =>
    by_cases hbl : bl = []
    · subst hbl
      have hd : bd := Classical.byContradiction fun e => by rw [tk1_nil_no e] at hb; cases hb
      rw [tk1_nil hd] at hb
      obtain ⟨rfl, rfl⟩ := Prod.mk.inj (Option.some.inj hb)
      exact ⟨_, _, tk1_nil (h4 hd), ⟨[], [], by simp, .nil, fun h => absurd rfl h, h4⟩, hw⟩
    · have hp : p ≠ [] := fun e => hbl (by rw [h1, e]; rfl)
      obtain ⟨m, g, rfl⟩ := snoc_of hbl
      have hg : g = w ∨ g = 0 ∨ w = 0 := Classical.byContradiction fun e => by rw [tk1_snoc_no e] at hb; cases hb
      rw [tk1_snoc hg] at hb
      obtain ⟨rfl, rfl⟩ := Prod.mk.inj (Option.some.inj hb)
      refine ⟨_, _, tk1_nil (h3 hp), ⟨m, [], by simp, .nil, fun _ => h3 hp, h4⟩, ?_⟩
      rcases hw with rfl | rfl
      · by_cases g0 : g = 0
        · rw [if_pos g0]; exact .inl rfl
        · rw [if_neg g0]
          rcases hg with e | e | e
          · exact .inl e.symm
          · exact absurd e g0
          · exact .inr e
      · exact .inr rfl
  | @snoc l0 m0 x y k1 k2 =>
    rw [← List.append_assoc] at h1
    subst h1
    have hg : y = w ∨ y = 0 ∨ w = 0 := Classical.byContradiction fun e => by rw [tk1_snoc_no e] at hb; cases hb
    rw [tk1_snoc hg] at hb
    obtain ⟨rfl, rfl⟩ := Prod.mk.inj (Option.some.inj hb)
    have hx : x = v ∨ x = 0 ∨ v = 0 := by
      rcases k2 with rfl | e
      · rcases hw with rfl | e
        · exact hg
        · exact .inr (.inr e)
      · exact .inr (.inl e)
    refine ⟨_, _, tk1_snoc hx, ⟨p, m0, rfl, k1, h3, h4⟩, ?_⟩
    by_cases x0 : x = 0
    · rw [if_pos x0]
      rcases hw with rfl | rfl
      · by_cases y0 : y = 0
        · rw [if_pos y0]; exact .inl rfl
        · rw [if_neg y0]
          rcases hg with e | e | e
          · exact .inl e.symm
          · exact absurd e y0
          · exact .inr e
      · exact .inr rfl
    · rw [if_neg x0]
      rcases k2 with rfl | e
      · rw [if_neg x0]; exact .inl rfl
      · exact absurd e x0
theorem SLe.tksR : ∀ (l : List UInt8) {a b b' : Stk}, SLe a b → tksR b l = some b' → ∃ a', Go.Hl.tksR a l = some a' ∧ SLe a' b'
  | [], a, b, b', h, hb => by cases hb; exact ⟨a, rfl, h⟩
  | t :: l, a, b, b', h, hb => by
    simp only [Go.Hl.tksR] at hb ⊢
    cases h1 : tk1S b t with
    | none => rw [h1] at hb; cases hb
    | some q =>
      rw [h1] at hb
      obtain ⟨a1, u, k1, k2, _⟩ := h.tk1 .rfl' h1
      obtain ⟨a2, k3, k4⟩ := SLe.tksR l k2 hb
      exact ⟨a2, by rw [k1]; exact k3, k4⟩
theorem SLe.tks {a b b' : Stk} {l : List UInt8} (h : SLe a b) (hb : tksS b l = some b') : ∃ a', tksS a l = some a' ∧ SLe a' b' := SLe.tksR _ h hb
def UpS (f : Stk → Option Stk) : Prop := ∀ a b b', SLe a b → f b = some b' → ∃ a', f a = some a' ∧ SLe a' b'
theorem UpS.none : UpS fun _ => none := fun _ _ _ _ h => by cases h
theorem UpS.tks (l : List UInt8) : UpS fun s => tksS s l := fun _ _ _ h hb => h.tks hb
theorem UpS.tg (i o : List UInt8) : UpS fun s => tgS s i o := fun a b b' h hb => by
  unfold tgS at hb ⊢
  obtain ⟨c, hc, rfl⟩ := Option.map_eq_some_iff.1 hb
  obtain ⟨a', k1, k2⟩ := h.tks hc
  exact ⟨_, by simp only; rw [k1]; rfl, k2.give (.rfl' _)⟩
theorem UpS.kill (l : List UInt8) : UpS fun s => (tksS s l).map fun _ => killS := fun a b b' h hb => by
  obtain ⟨c, hc, rfl⟩ := Option.map_eq_some_iff.1 hb
  obtain ⟨a', k1, k2⟩ := h.tks hc
  exact ⟨_, by simp only; rw [k1]; rfl, .rfl'⟩
theorem UpS.give (l : List UInt8) : UpS fun s => some (giveS s l) := fun a b b' h hb => by cases hb; exact ⟨_, rfl, h.give (.rfl' _)⟩
theorem UpS.bindC {α : Type} (o : Option α) {f : α → Stk → Option Stk} (h : ∀ x, o = some x → UpS (f x)) : UpS fun s => o.bind fun x => f x s := by
  cases o with
  | none => exact .none
  | some x => exact h x rfl
theorem UpS.mapC {α : Type} (o : Option α) {f : α → Stk → Stk} (h : ∀ x, UpS fun s => some (f x s)) : UpS fun s => o.map fun x => f x s := by
  cases o with
  | none => exact .none
  | some x => exact h x
theorem UpS.ite {p : Prop} [Decidable p] {f g : Stk → Option Stk} (h : UpS f) (k : UpS g) : UpS fun s => if p then f s else g s := by
  by_cases e : p
  · simp only [e, if_true]; exact h
  · simp only [e, if_false]; exact k
open Classical in
theorem UpS.mem {v : EnvD} {x : InstrD} : UpS (memS v x) := by
  show UpS fun s => memS v x s
  unfold memS
  exact .bindC _ fun wa _ => .bindC _ fun wb _ => .ite (.ite .none (.tg _ _)) (.ite (.tg _ _) (.ite (.tg _ _) (.ite (.tg _ _) (.tg _ _))))
open Classical in
theorem UpS.pl {v : EnvD} {x : InstrD} {labs : List (List UInt8)} : UpS fun s => plS v x s labs := by
  unfold plS
  refine .ite (fun a b b' h hb => by cases hb; exact ⟨_, rfl, .rfl'⟩) (.ite (.bindC _ fun w _ => .kill w) (.ite (.bindC _ fun w _ => .tg _ _) (.ite (.bindC _ fun w _ => .ite (.kill _) .none) (.ite (.kill _) (.ite (.bindC _ fun g _ => .tg _ _) (.ite (.bindC _ fun g _ => .ite (.tg _ _) .none) (.ite ?_ (.ite ?_ (.ite (.mapC _ fun t => .give _) (.ite (.bindC _ fun t _ => .tks _) (.ite (.bindC _ fun t _ => .tg _ _) (.ite (.mapC _ fun t => .give _) (.ite (.bindC _ fun t _ => .bindC _ fun m _ => .ite (.tks _) .none) (.ite (.tg _ _) .mem))))))))))))))
  · intro a b b' h hb
    obtain ⟨q, hq, rfl⟩ := Option.map_eq_some_iff.1 hb
    obtain ⟨a', u, k1, k2, _⟩ := h.tk1 .rfl' hq
    exact ⟨_, by simp only; rw [k1]; rfl, k2⟩
  · intro a b b' h hb
    simp only at hb ⊢
    cases h1 : tksS b [127] with
    | none => rw [h1] at hb; cases hb
    | some c =>
      rw [h1] at hb; simp only [Option.bind_some] at hb
      obtain ⟨a1, k1, k2⟩ := h.tks h1
      cases h2 : tk1S c 0 with
      | none => rw [h2] at hb; cases hb
      | some q =>
        rw [h2] at hb; simp only [Option.bind_some] at hb
        obtain ⟨a2, u2, k3, k4, k5⟩ := k2.tk1 .rfl' h2
        obtain ⟨r, hr, rfl⟩ := Option.map_eq_some_iff.1 hb
        obtain ⟨a3, u3, k6, k7, k8⟩ := k4.tk1 k5 hr
        refine ⟨_, by rw [k1]; simp only [Option.bind_some]; rw [k3]; simp only [Option.bind_some]; rw [k6]; rfl, k7.give (.one k8)⟩
def FLe (a b : FrC) : Prop := a.loop = b.loop ∧ a.is = b.is ∧ a.res = b.res ∧ SLe a.st b.st
theorem FLe.rfl' {b : FrC} : FLe b b := ⟨rfl, rfl, rfl, .rfl'⟩
inductive FsLe : List FrC → List FrC → Prop
  | nil : FsLe [] []
  | snoc {l m : List FrC} {a b : FrC} (h : FsLe l m) (k : FLe a b) : FsLe (l ++ [a]) (m ++ [b])
theorem FsLe.rfl' (l : List FrC) : FsLe l l := by
  suffices H : ∀ n (l : List FrC), l.length = n → FsLe l l from H _ l rfl
  intro n
  induction n with
  | zero => intro l h; rw [List.eq_nil_of_length_eq_zero h]; exact .nil
  | succ n ih =>
    intro l h
    obtain ⟨m, x, rfl⟩ := snoc_of (l := l) (fun e => by rw [e] at h; cases h)
    exact .snoc (ih m (by simpa using h)) .rfl'
theorem FLe.lab {a b : FrC} (h : FLe a b) : labF a = labF b := by
  unfold labF
  by_cases e : b.loop
  · rw [if_pos e, if_pos (h.1 ▸ e)]
  · rw [if_neg e, if_neg (h.1 ▸ e), h.2.2.1]
theorem FsLe.lab {l m : List FrC} (h : FsLe l m) : l.map labF = m.map labF := by
  induction h with
  | nil => rfl
  | snoc _ k ih => simp [ih, k.lab]
theorem FsLe.hgt {l m : List FrC} (h : FsLe l m) : hgtF l ≤ hgtF m := by
  induction h with
  | nil => exact Nat.le_refl _
  | snoc _ k ih => rw [hgtF_snoc, hgtF_snoc]; have := k.2.2.2.len; omega
theorem FLe.close {a b : FrC} (h : FLe a b) (k : closeF b) : closeF a := by
  obtain ⟨s, h1, h2⟩ := k
  obtain ⟨t, k1, k2⟩ := h.2.2.2.tks h1
  refine ⟨t, by rw [h.2.2.1]; exact k1, ?_⟩
  have := k2.len
  rw [h2] at this
  exact List.eq_nil_of_length_eq_zero (by simpa using this)
theorem FLe.with {a b : FrC} {s t : Stk} (h : FLe a b) (k : SLe s t) : FLe { a with st := s } { b with st := t } := ⟨h.1, h.2.1, h.2.2.1, k⟩
section
variable {m : ModD} {f : FuncD}
open Classical in
theorem FsLe.step {x : InstrD} {fs gs : List FrC} {a b : FrC} {r : List FrC} (h : FsLe gs fs) (k : FLe a b) (hr : stepX m f x fs b = some r) : ∃ q, stepX m f x gs a = some q ∧ FsLe q r := by
  by_cases h11 : x.Code = 11
  · unfold stepX stepF at hr ⊢
    rw [if_pos h11] at hr ⊢
    by_cases hc : closeF b ∧ (b.is → b.res = [])
    · rw [if_pos hc] at hr
      rw [if_pos (show closeF a ∧ (a.is → a.res = []) from ⟨k.close hc.1, fun e => by rw [k.2.2.1]; exact hc.2 (k.2.1 ▸ e)⟩)]
      cases h with
      | nil => cases hr; exact ⟨_, rfl, .nil⟩
      | snoc h1 k1 =>
        simp only [List.getLast?_append, List.getLast?_singleton, Option.some_or, List.dropLast_concat] at hr ⊢
        cases hr
        refine ⟨_, rfl, .snoc h1 ⟨k1.1, k1.2.1, k1.2.2.1, ?_⟩⟩
        rw [k.2.2.1]
        exact k1.2.2.2.give (.rfl' _)
    · rw [if_neg hc] at hr; cases hr
  by_cases h5 : x.Code = 5
  · unfold stepX stepF at hr ⊢
    rw [if_neg h11, if_pos h5] at hr ⊢
    by_cases hc : closeF b
    · rw [if_pos hc] at hr
      rw [if_pos (k.close hc)]
      cases hr
      exact ⟨_, rfl, .snoc h ⟨k.1, rfl, k.2.2.1, .rfl'⟩⟩
    · rw [if_neg hc] at hr; cases hr
  by_cases ho : opensC x.Code
  · unfold stepX stepF at hr ⊢
    rw [if_neg h11, if_neg h5, if_pos ho] at hr ⊢
    obtain ⟨s, hs, rfl⟩ := Option.map_eq_some_iff.1 hr
    by_cases h4 : x.Code = 4
    · rw [if_pos h4] at hs ⊢
      obtain ⟨t, k1, k2⟩ := k.2.2.2.tks hs
      exact ⟨_, by rw [k1]; rfl, .snoc (.snoc h (k.with k2)) .rfl'⟩
    · rw [if_neg h4] at hs ⊢
      cases hs
      exact ⟨_, rfl, .snoc (.snoc h (k.with k.2.2.2)) .rfl'⟩
  · rw [stepX_pl h11 h5 ho] at hr ⊢
    obtain ⟨s, hs, rfl⟩ := Option.map_eq_some_iff.1 hr
    obtain ⟨t, k1, k2⟩ := UpS.pl _ _ _ k.2.2.2 hs
    simp only at k1
    rw [← (FsLe.snoc h k).lab] at k1
    exact ⟨_, by rw [k1]; rfl, .snoc h (k.with k2)⟩
def pkL : List Nat → Nat
  | [] => 0
  | h :: l => max h (pkL l)
noncomputable abbrev cr (m : ModD) (f : FuncD) (l : List InstrD) (fs : List FrC) : Option (List Nat) := crun (·.Code) resI (plS (envD m f)) l fs
theorem FsLe.run : ∀ (l : List InstrD) {fs gs : List FrC} {hs : List Nat}, FsLe gs fs → cr m f l fs = some hs → ∃ ks, cr m f l gs = some ks ∧ pkL ks ≤ pkL hs
  | [], fs, gs, hs, h, hr => ⟨[], rfl, Nat.zero_le _⟩
  | x :: l, fs, gs, hs, h, hr => by
    cases h with
    | nil => simp [cr, crun] at hr
    | @snoc gl fl a b h1 k1 =>
      unfold cr at hr ⊢
      rw [crun_cons] at hr ⊢
      cases hst : stepF (fun x : InstrD => x.Code) resI (plS (envD m f)) x fl b with
      | none => rw [hst] at hr; cases hr
      | some r =>
        rw [hst] at hr
        obtain ⟨t, ht, rfl⟩ := Option.map_eq_some_iff.1 hr
        obtain ⟨q, k2, k3⟩ := FsLe.step (m := m) (f := f) h1 k1 hst
        obtain ⟨ks, k4, k5⟩ := FsLe.run l k3 ht
        have k2' : stepF (fun x : InstrD => x.Code) resI (plS (envD m f)) x gl a = some q := k2
        refine ⟨_, by rw [k2']; show Option.map _ (cr m f l q) = _; rw [k4]; rfl, ?_⟩
        have h9 := (FsLe.snoc h1 k1).hgt
        show max _ _ ≤ max _ _
        omega
def LsLe (m : ModD) (f : FuncD) (l l' : List InstrD) : Prop := ∀ fs hs, cr m f l fs = some hs → ∃ ks, cr m f l' fs = some ks ∧ pkL ks ≤ pkL hs
theorem LsLe.cons {x : InstrD} {l l' : List InstrD} (h : LsLe m f l l') : LsLe m f (x :: l) (x :: l') := fun fs hs hr => by
  rcases List.eq_nil_or_concat fs with rfl | ⟨gs, b, rfl⟩
  · simp [cr, crun] at hr
  rw [List.concat_eq_append] at hr ⊢
  unfold cr at hr ⊢
  rw [crun_cons] at hr ⊢
  cases hst : stepF (fun x : InstrD => x.Code) resI (plS (envD m f)) x gs b with
  | none => rw [hst] at hr; cases hr
  | some r =>
    rw [hst] at hr
    obtain ⟨t, ht, rfl⟩ := Option.map_eq_some_iff.1 hr
    obtain ⟨ks, k4, k5⟩ := h r t ht
    refine ⟨_, by show Option.map _ (cr m f l' r) = _; rw [k4]; rfl, ?_⟩
    show max _ _ ≤ max _ _
    omega
theorem LsLe.app : ∀ (a : List InstrD) {l l' : List InstrD}, LsLe m f l l' → LsLe m f (a ++ l) (a ++ l')
  | [], _, _, h => h
  | x :: a, _, _, h => (LsLe.app a h).cons
theorem LsLe.rfl' {l : List InstrD} : LsLe m f l l := fun fs hs h => ⟨hs, h, Nat.le_refl _⟩
theorem LsLe.trans {a b c : List InstrD} (h : LsLe m f a b) (k : LsLe m f b c) : LsLe m f a c := fun fs hs hr => by
  obtain ⟨k1, h1, h2⟩ := h fs hs hr
  obtain ⟨k2, h3, h4⟩ := k fs k1 h1
  exact ⟨k2, h3, Nat.le_trans h4 h2⟩
def plainC (c : Int) : Prop := c ≠ 11 ∧ c ≠ 5 ∧ ¬ opensC c
theorem cr_pl {x : InstrD} {l : List InstrD} {fs : List FrC} {hs : List Nat} (hx : plainC x.Code) (hr : cr m f (x :: l) fs = some hs) :
    ∃ gs b s t, fs = gs ++ [b] ∧ plS (envD m f) x b.st ((gs ++ [b]).map labF) = some s ∧ cr m f l (gs ++ [{ b with st := s }]) = some t ∧ hs = hgtF (gs ++ [b]) :: t := by
  rcases List.eq_nil_or_concat fs with rfl | ⟨gs, b, rfl⟩
  · simp [cr, crun] at hr
  rw [List.concat_eq_append] at hr ⊢
  unfold cr at hr
  rw [crun_cons, show stepF (fun x : InstrD => x.Code) resI (plS (envD m f)) x gs b = stepX m f x gs b from rfl, stepX_pl hx.1 hx.2.1 hx.2.2] at hr
  cases hp : plS (envD m f) x b.st ((gs ++ [b]).map labF) with
  | none => rw [hp] at hr; cases hr
  | some s =>
    rw [hp] at hr
    obtain ⟨t, ht, rfl⟩ := Option.map_eq_some_iff.1 hr
    exact ⟨gs, b, s, t, rfl, hp, ht, rfl⟩
theorem cr_pl_mk {x : InstrD} {l : List InstrD} {gs : List FrC} {b : FrC} {s : Stk} (hx : plainC x.Code) (hp : plS (envD m f) x b.st ((gs ++ [b]).map labF) = some s) :
    cr m f (x :: l) (gs ++ [b]) = (cr m f l (gs ++ [{ b with st := s }])).map (hgtF (gs ++ [b]) :: ·) := by
  unfold cr
  rw [crun_cons, show stepF (fun x : InstrD => x.Code) resI (plS (envD m f)) x gs b = stepX m f x gs b from rfl, stepX_pl hx.1 hx.2.1 hx.2.2, hp]
  rfl
theorem tg_give {s : Stk} {t u : UInt8} {o : List UInt8} {r : Stk} (ht : t ≠ 0) (h : tgS (giveS s [t]) [u] o = some r) : r = giveS s o := by
  unfold tgS at h
  rw [tks_one] at h
  unfold giveS at h
  by_cases hg : t = u ∨ t = 0 ∨ u = 0
  · rw [tk1_snoc hg] at h; cases h; rfl
  · rw [tk1_snoc_no hg] at h; cases h
theorem tg_give2 {s : Stk} {t1 t2 u1 u2 : UInt8} {o : List UInt8} {r : Stk} (h : tgS (giveS (giveS s [t1]) [t2]) [u1, u2] o = some r) : r = giveS s o := by
  unfold tgS at h
  rw [show [u1, u2] = [u1] ++ [u2] from rfl, tks_snoc, show giveS (giveS s [t1]) [t2] = ((s.1 ++ [t1]) ++ [t2], s.2) from rfl] at h
  by_cases hg : t2 = u2 ∨ t2 = 0 ∨ u2 = 0
  · rw [tk1_snoc hg] at h
    simp only [Option.bind_some] at h
    rw [tks_one] at h
    by_cases hk : t1 = u1 ∨ t1 = 0 ∨ u1 = 0
    · rw [tk1_snoc hk] at h; cases h; rfl
    · rw [tk1_snoc_no hk] at h; cases h
  · rw [tk1_snoc_no hg] at h; cases h
end
theorem pl_plain {v : EnvD} {x : InstrD} {s : Stk} {labs : List (List UInt8)} (h : (65 ≤ x.Code ∧ x.Code ≤ 196) ∨ x.Code = 1) : plS v x s labs = tgS s (takesR x.Code).1 (takesR x.Code).2 := by
  unfold plS
  iterate 14 rw [if_neg (by omega)]
  rw [if_pos]
  unfold formR
  rcases h with h | h
  · iterate 10 rw [if_neg (by omega)]
    split <;> decide
  · rw [h]; decide
theorem one_codes {c : Int} {a v : Nat} (h : oneC c a = some v) : (65 ≤ c ∧ c ≤ 196) ∧ ∃ u o, (takesR c).1 = [u] ∧ (takesR c).2 = [o] ∧ (o = 126 ∨ o = 127) := by
  unfold oneC at h
  have key : c = 69 ∨ c = 80 ∨ (103 ≤ c ∧ c ≤ 105) ∨ (121 ≤ c ∧ c ≤ 123) ∨ c = 167 ∨ c = 172 ∨ c = 173 ∨ (192 ≤ c ∧ c ≤ 196) := by
    apply Classical.byContradiction
    intro hn
    iterate 12 rw [if_neg (by omega)] at h
    cases h
  refine ⟨by omega, ?_⟩
  rcases key with rfl | rfl | ⟨h1, h2⟩ | ⟨h1, h2⟩ | rfl | rfl | rfl | ⟨h1, h2⟩
  · exact ⟨127, 127, by decide, by decide, by decide⟩
  · exact ⟨126, 127, by decide, by decide, by decide⟩
  · obtain rfl | rfl | rfl : c = 103 ∨ c = 104 ∨ c = 105 := by omega
    all_goals exact ⟨127, 127, by decide, by decide, by decide⟩
  · obtain rfl | rfl | rfl : c = 121 ∨ c = 122 ∨ c = 123 := by omega
    all_goals exact ⟨126, 126, by decide, by decide, by decide⟩
  · exact ⟨126, 127, by decide, by decide, by decide⟩
  · exact ⟨127, 126, by decide, by decide, by decide⟩
  · exact ⟨127, 126, by decide, by decide, by decide⟩
  · obtain rfl | rfl | rfl | rfl | rfl : c = 192 ∨ c = 193 ∨ c = 194 ∨ c = 195 ∨ c = 196 := by omega
    · exact ⟨127, 127, by decide, by decide, by decide⟩
    · exact ⟨127, 127, by decide, by decide, by decide⟩
    all_goals exact ⟨126, 126, by decide, by decide, by decide⟩
theorem two_codes {c : Int} {a b : Nat} (h : twoOk c a b) : (65 ≤ c ∧ c ≤ 196) ∧ ∃ u w o, (takesR c).1 = [u, w] ∧ (takesR c).2 = [o] ∧ (o = 126 ∨ o = 127) := by
  unfold twoOk at h
  have key : (70 ≤ c ∧ c ≤ 79) ∨ (81 ≤ c ∧ c ≤ 90) ∨ (106 ≤ c ∧ c ≤ 120) ∨ (124 ≤ c ∧ c ≤ 138) := by
    apply Classical.byContradiction
    intro hn
    iterate 4 rw [if_neg (by omega)] at h
    exact h
  refine ⟨by omega, ?_⟩
  have ht : takesR c = ([127, 127], [127]) ∨ takesR c = ([126, 126], [127]) ∨ takesR c = ([126, 126], [126]) := by
    unfold takesR
    rcases key with h | h | h | h
    · iterate 8 rw [if_neg (by omega)]
      rw [if_pos (by omega)]; exact .inl rfl
    · iterate 9 rw [if_neg (by omega)]
      rw [if_pos (by omega)]; exact .inr (.inl rfl)
    · iterate 8 rw [if_neg (by omega)]
      rw [if_pos (by omega)]; exact .inl rfl
    · iterate 10 rw [if_neg (by omega)]
      rw [if_pos (by omega)]; exact .inr (.inr rfl)
  rcases ht with e | e | e <;> rw [e] <;> exact ⟨_, _, _, rfl, rfl, by decide⟩
theorem out_takes {c : Int} {o : UInt8} (h : (takesR c).2 = [o]) (ho : o = 126 ∨ o = 127) : takesR (outC c) = ([], [o]) ∧ (outC c = 65 ∨ outC c = 66) := by
  unfold outC
  rw [h]
  rcases ho with rfl | rfl
  · rw [if_pos rfl]; exact ⟨by decide, .inr rfl⟩
  · rw [if_neg (by decide)]; exact ⟨by decide, .inl rfl⟩
theorem con_takes {c : Int} (h : c = 65 ∨ c = 66) : ∃ t : UInt8, takesR c = ([], [t]) ∧ t ≠ 0 := by
  rcases h with rfl | rfl
  · exact ⟨127, by decide, by decide⟩
  · exact ⟨126, by decide, by decide⟩
theorem plain_num {c : Int} (h : (65 ≤ c ∧ c ≤ 196) ∨ c = 1) : plainC c := ⟨by omega, by omega, by unfold opensC; omega⟩
section
variable {m : ModD} {f : FuncD}
theorem pl_con {x : InstrD} {s : Stk} {labs : List (List UInt8)} {v : EnvD} {t : UInt8} (hx : x.Code = 65 ∨ x.Code = 66) (ht : takesR x.Code = ([], [t])) : plS v x s labs = some (giveS s [t]) := by
  rw [pl_plain (.inl (by omega)), ht]; rfl
theorem stK_run {x y z : InstrD} {more : Prop} {n : Nat} {ins L r : List InstrD} (g1 : n = 1 → L = x :: r) (g2 : n = 2 → L = x :: y :: r) (g3 : n = 3 → L = x :: y :: z :: r) : ∀ k, stK x y z more k = some (n, ins) → LsLe m f L (ins ++ L.drop n)
  | 0, h => by
    simp only [stK] at h
    split at h <;> cases h
    rename_i hc
    intro fs hs hr
    rw [g1 rfl] at hr ⊢
    obtain ⟨gs, b, s, t, rfl, hp, ht, rfl⟩ := cr_pl (plain_num (.inr hc)) hr
    rw [pl_plain (.inr hc), hc, show takesR 1 = ([], []) by decide] at hp
    have e : s = b.st := by cases hp; unfold giveS; simp
    subst e
    exact ⟨t, ht, by show _ ≤ max _ _; omega⟩
  | 1, h => by
    simp only [stK] at h
    split at h
    · rename_i hc
      cases ho : oneC y.Code x.A.toNat with
      | none => rw [ho] at h; cases h
      | some v =>
        rw [ho] at h; cases h
        obtain ⟨hy, u, o, h1, h2, h3⟩ := one_codes ho
        obtain ⟨h4, h5⟩ := out_takes h2 h3
        obtain ⟨tc, k1, k2⟩ := con_takes hc
        have hcc : 65 ≤ x.Code ∧ x.Code ≤ 196 := by unfold isC at hc; omega
        intro fs hs hr
        rw [g2 rfl] at hr ⊢
        obtain ⟨gs, b, s, t, rfl, hp, ht, rfl⟩ := cr_pl (plain_num (.inl hcc)) hr
        rw [pl_con hc k1] at hp; cases hp
        obtain ⟨gs2, b2, s2, t2, e2, hp2, ht2, rfl⟩ := cr_pl (plain_num (.inl hy)) ht
        obtain ⟨rfl, rfl⟩ := List.append_inj' e2 rfl |>.imp id fun e => (List.cons.inj e).1
        rw [pl_plain (.inl hy), h1, h2] at hp2
        have e3 := tg_give k2 hp2
        subst e3
        refine ⟨hgtF (gs ++ [b]) :: t2, ?_, ?_⟩
        · show cr m f (mkI (outC y.Code) v :: r) _ = _
          rw [cr_pl_mk (s := giveS b.st [o]) (plain_num (.inl (by show 65 ≤ outC y.Code ∧ outC y.Code ≤ 196; omega))) (pl_con (x := mkI (outC y.Code) v) h5 h4)]
          show Option.map _ (cr m f (r) (gs ++ [{ b with st := giveS b.st [o] }])) = _
          rw [show cr m f (r) (gs ++ [{ b with st := giveS b.st [o] }]) = some t2 from ht2]; rfl
        · show max _ _ ≤ max _ (max _ _); omega
    · cases h
  | 2, h => by
    simp only [stK] at h
    split at h <;> cases h
    rename_i hc
    obtain ⟨⟨hx, hy⟩, ho⟩ := hc
    obtain ⟨hz, u, w, o, h1, h2, h3⟩ := two_codes ho
    obtain ⟨h4, h5⟩ := out_takes h2 h3
    obtain ⟨tx, k1, _⟩ := con_takes hx
    obtain ⟨ty, k2, _⟩ := con_takes hy
    have hxx : 65 ≤ x.Code ∧ x.Code ≤ 196 := by unfold isC at hx; omega
    have hyy : 65 ≤ y.Code ∧ y.Code ≤ 196 := by unfold isC at hy; omega
    intro fs hs hr
    rw [g3 rfl] at hr ⊢
    obtain ⟨gs, b, s, t, rfl, hp, ht, rfl⟩ := cr_pl (plain_num (.inl hxx)) hr
    rw [pl_con hx k1] at hp; cases hp
    obtain ⟨gs2, b2, s2, t2, e2, hp2, ht2, rfl⟩ := cr_pl (plain_num (.inl hyy)) ht
    obtain ⟨rfl, rfl⟩ := List.append_inj' e2 rfl |>.imp id fun e => (List.cons.inj e).1
    rw [pl_con hy k2] at hp2; cases hp2
    obtain ⟨gs3, b3, s3, t3, e3, hp3, ht3, rfl⟩ := cr_pl (plain_num (.inl hz)) ht2
    obtain ⟨rfl, rfl⟩ := List.append_inj' e3 rfl |>.imp id fun e => (List.cons.inj e).1
    rw [pl_plain (.inl hz), h1, h2] at hp3
    have e4 := tg_give2 hp3
    subst e4
    refine ⟨hgtF (gs ++ [b]) :: t3, ?_, ?_⟩
    · show cr m f (mkI (outC z.Code) (twoV z.Code x.A.toNat y.A.toNat) :: r) _ = _
      rw [cr_pl_mk (s := giveS b.st [o]) (plain_num (.inl (by show 65 ≤ outC z.Code ∧ outC z.Code ≤ 196; omega))) (pl_con (x := mkI (outC z.Code) (twoV z.Code x.A.toNat y.A.toNat)) h5 h4)]
      show Option.map _ (cr m f r (gs ++ [{ b with st := giveS b.st [o] }])) = _
      rw [show cr m f r (gs ++ [{ b with st := giveS b.st [o] }]) = some t3 from ht3]; rfl
    · show max _ _ ≤ max _ (max _ (max _ _)); omega
  | 3, h => by
    simp only [stK] at h
    split at h <;> cases h
    rename_i hc
    obtain ⟨hy, hx⟩ := hc
    have hxp : plainC x.Code := ⟨by unfold isC at hx; omega, by unfold isC at hx; omega, by unfold isC at hx; unfold opensC; omega⟩
    intro fs hs hr
    rw [g2 rfl] at hr ⊢
    obtain ⟨gs, b, s, t, rfl, hp, ht, rfl⟩ := cr_pl hxp hr
    have hs' : ∃ u, s = giveS b.st [u] := by
      rcases hx with hx | hx | hx
      · obtain ⟨tx, k1, _⟩ := con_takes hx
        rw [pl_con hx k1] at hp; cases hp; exact ⟨_, rfl⟩
      · rw [plS_32 hx] at hp; obtain ⟨u, _, rfl⟩ := Option.map_eq_some_iff.1 hp; exact ⟨u, rfl⟩
      · rw [plS_35 hx] at hp; obtain ⟨u, _, rfl⟩ := Option.map_eq_some_iff.1 hp; exact ⟨u, rfl⟩
    obtain ⟨u, rfl⟩ := hs'
    obtain ⟨gs2, b2, s2, t2, e2, hp2, ht2, rfl⟩ := cr_pl (x := y) ⟨by omega, by omega, by unfold opensC; omega⟩ ht
    obtain ⟨rfl, rfl⟩ := List.append_inj' e2 rfl |>.imp id fun e => (List.cons.inj e).1
    rw [plS_26 hy] at hp2
    simp only [giveS] at hp2
    rw [tk1_snoc (.inr (.inr rfl))] at hp2
    cases hp2
    exact ⟨t2, ht2, by show _ ≤ max _ (max _ _); omega⟩
  | 4, h => by
    simp only [stK] at h
    split at h <;> cases h
    rename_i hc
    obtain ⟨⟨hx, hy⟩, hA⟩ := hc
    intro fs hs hr
    rw [g2 rfl] at hr ⊢
    obtain ⟨gs, b, s, t, rfl, hp, ht, rfl⟩ := cr_pl (x := x) ⟨by omega, by omega, by unfold opensC; omega⟩ hr
    obtain ⟨gs2, b2, s2, t2, e2, hp2, ht2, rfl⟩ := cr_pl (x := y) ⟨by omega, by omega, by unfold opensC; omega⟩ ht
    obtain ⟨rfl, rfl⟩ := List.append_inj' e2 rfl |>.imp id fun e => (List.cons.inj e).1
    rw [plS_33 hx] at hp
    rw [plS_32 hy, ← hA] at hp2
    cases hg : getI (envD m f).Locals x.A with
    | none => rw [hg] at hp; cases hp
    | some u =>
      rw [hg] at hp hp2
      simp only [Option.bind_some] at hp
      cases hp2
      refine ⟨hgtF (gs ++ [b]) :: t2, ?_, ?_⟩
      · show cr m f (⟨34, x.A, 0, 0, []⟩ :: r) _ = _
        rw [cr_pl_mk (s := giveS s [u]) (x := ⟨34, x.A, 0, 0, []⟩) (show plainC (34 : Int) from ⟨by decide, by decide, by unfold opensC; decide⟩) (by rw [plS_34 rfl]; show (getI (envD m f).Locals x.A).bind _ = _; rw [hg]; unfold tgS; simp only [Option.bind_some]; rw [hp]; rfl)]
        show Option.map _ (cr m f (r) (gs ++ [{ b with st := giveS s [u] }])) = _
        rw [show cr m f (r) (gs ++ [{ b with st := giveS s [u] }]) = some t2 from ht2]; rfl
      · show max _ _ ≤ max _ (max _ _); omega
  | 5, h => by
    simp only [stK] at h
    split at h <;> cases h
    rename_i hc
    obtain ⟨⟨hx, _⟩, hb⟩ := hc
    unfold stopP at hx
    intro fs hs hr
    rw [g2 rfl] at hr ⊢
    have hxp : plainC x.Code := ⟨by omega, by omega, by unfold opensC; omega⟩
    obtain ⟨gs, b, s, t, rfl, hp, ht, rfl⟩ := cr_pl hxp hr
    have hk : s = killS := by
      rcases hx with ((hx | hx) | hx) | hx
      · rw [plS_0 hx] at hp; cases hp; rfl
      · rw [plS_12 hx] at hp
        cases hg : labAt ((gs ++ [b]).map labF) x.A with
        | none => rw [hg] at hp; cases hp
        | some w => rw [hg] at hp; obtain ⟨_, _, rfl⟩ := Option.map_eq_some_iff.1 hp; rfl
      · rw [plS_14 hx] at hp
        cases hg : labAt ((gs ++ [b]).map labF) x.A with
        | none => rw [hg] at hp; cases hp
        | some w =>
          rw [hg] at hp
          simp only [Option.bind_some] at hp
          split at hp
          · obtain ⟨_, _, rfl⟩ := Option.map_eq_some_iff.1 hp; rfl
          · cases hp
      · rw [plS_15 hx] at hp; obtain ⟨_, _, rfl⟩ := Option.map_eq_some_iff.1 hp; rfl
    subst hk
    unfold boundP at hb
    obtain ⟨gs2, b2, s2, t2, e2, hp2, ht2, rfl⟩ := cr_pl (x := y) ⟨by omega, by omega, by unfold opensC; omega⟩ ht
    obtain ⟨rfl, rfl⟩ := List.append_inj' e2 rfl |>.imp id fun e => (List.cons.inj e).1
    obtain ⟨ks, k1, k2⟩ := FsLe.run (m := m) (f := f) (r) (.snoc (.rfl' gs) (FLe.with (a := b) (b := b) .rfl' (SLe.kill (s := s2)))) ht2
    refine ⟨hgtF (gs ++ [b]) :: ks, ?_, ?_⟩
    · show cr m f (x :: r) _ = _
      rw [cr_pl_mk hxp hp, show cr m f (r) (gs ++ [{ b with st := killS }]) = some ks from k1]; rfl
    · show max _ _ ≤ max _ (max _ _); omega
  | k + 6, h => by cases h
theorem fK_run {l r : List InstrD} {i k : Nat} (hi : i < l.length) (h : fK l i k = some r) : LsLe m f l r := by
  unfold fK at h
  cases hs : stK (gI l i) (gI l (i + 1)) (gI l (i + 2)) (i + 1 < l.length) k with
  | none => rw [hs] at h; cases h
  | some p =>
    obtain ⟨n, ins⟩ := p
    rw [hs] at h
    obtain rfl : cutL l i n ins = r := Option.some.inj h
    have h4 := stK_room hi hs
    have hd : ∀ j, j < l.length → l.drop j = gI l j :: l.drop (j + 1) := fun j hj => by
      rw [List.drop_eq_getElem_cons hj, gI_at (List.getElem?_eq_getElem hj)]
    have key := stK_run (m := m) (f := f) (L := l.drop i) (r := l.drop (i + n)) (fun e => by subst e; exact hd i hi)
      (fun e => by subst e; rw [hd i hi, hd (i + 1) (by omega)]) (fun e => by subst e; rw [hd i hi, hd (i + 1) (by omega), hd (i + 2) (by omega)]) k hs
    have h5 := key.app (l.take i)
    rw [List.take_append_drop] at h5
    unfold cutL
    rw [List.append_assoc, ← List.drop_drop]
    rw [List.drop_drop] at h5 ⊢
    exact h5
theorem stK_call {x y z : InstrD} {more : Prop} : ∀ k n ins, stK x y z more k = some (n, ins) → ∀ w ∈ ins, w.Code ≠ 16 ∨ w = x
  | 0, n, ins, h => by simp only [stK] at h; split at h <;> cases h; intro w hw; cases hw
  | 1, n, ins, h => by
    simp only [stK] at h
    split at h
    · cases ho : oneC y.Code x.A.toNat with
      | none => rw [ho] at h; cases h
      | some v =>
        rw [ho] at h; cases h
        intro w hw
        obtain rfl := List.mem_singleton.1 hw
        exact .inl (by show outC y.Code ≠ 16; unfold outC; split <;> decide)
    · cases h
  | 2, n, ins, h => by
    simp only [stK] at h
    split at h <;> cases h
    intro w hw
    obtain rfl := List.mem_singleton.1 hw
    exact .inl (by show outC z.Code ≠ 16; unfold outC; split <;> decide)
  | 3, n, ins, h => by simp only [stK] at h; split at h <;> cases h; intro w hw; cases hw
  | 4, n, ins, h => by
    simp only [stK] at h
    split at h <;> cases h
    intro w hw
    obtain rfl := List.mem_singleton.1 hw
    exact .inl (by show (34 : Int) ≠ 16; decide)
  | 5, n, ins, h => by
    simp only [stK] at h
    split at h <;> cases h
    intro w hw
    exact .inr (List.mem_singleton.1 hw)
  | k + 6, n, ins, h => by cases h
theorem fK_call {l r : List InstrD} {i k : Nat} (hi : i < l.length) (h : fK l i k = some r) : ∀ w ∈ r, w.Code = 16 → w ∈ l := by
  unfold fK at h
  cases hs : stK (gI l i) (gI l (i + 1)) (gI l (i + 2)) (i + 1 < l.length) k with
  | none => rw [hs] at h; cases h
  | some p =>
    obtain ⟨n, ins⟩ := p
    rw [hs] at h
    obtain rfl : cutL l i n ins = r := Option.some.inj h
    have hg : gI l i ∈ l := by rw [gI_at (List.getElem?_eq_getElem hi)]; exact List.getElem_mem hi
    intro w hw hc
    unfold cutL at hw
    rcases List.mem_append.1 hw with hw | hw
    · rcases List.mem_append.1 hw with hw | hw
      · exact List.mem_of_mem_take hw
      · rcases stK_call _ _ _ hs w hw with e | e
        · exact absurd hc e
        · rw [e]; exact hg
    · exact List.mem_of_mem_drop hw
theorem bodyL_run : ∀ (n : Nat) (l : List InstrD), l.length ≤ n → (∀ x ∈ l, InsOk0 x) → LsLe m f l (bodyL l) ∧ ∀ w ∈ bodyL l, w.Code = 16 → w ∈ l
  | n, l, hn, hl => by
    cases hs : stepL l with
    | none => rw [bodyL_none hs]; exact ⟨.rfl', fun w hw _ => hw⟩
    | some p =>
      obtain ⟨r, k⟩ := p
      have hsm := InsOk0.sm hl (Nat.le_refl l.length)
      have h1 := (stepL_less hsm hs).1
      rw [bodyL_some hsm hs]
      obtain ⟨i, hi, hr⟩ := stepK_inv _ _ hs
      obtain ⟨j, j1, j2, j3⟩ := stepAtK_inv _ _ hr
      cases n with
      | zero => omega
      | succ n =>
        obtain ⟨a, b⟩ := bodyL_run n r (by omega) (stepL_ok0 hl hs)
        exact ⟨(fK_run hi j2).trans a, fun w hw hc => fK_call hi j2 w (b w hw hc) hc⟩
end
theorem envD_pl {m : ModD} {f : FuncD} : envD (pmM m) (plF f) = envD m f := by
  unfold envD pmM
  simp only [List.map_map]
  rfl
theorem heights_pl {m : ModD} (h : ModOk m) {f : FuncD} (hf : f ∈ m.Funcs) {hs : List Nat} (hh : heightsF m f = some hs) : ∃ ks, heightsF (pmM m) (plF f) = some ks ∧ pkL ks ≤ pkL hs := by
  obtain ⟨ks, k1, k2⟩ := (bodyL_run (m := m) (f := f) _ f.Body.L (Nat.le_refl _) (h.ins f hf)).1 _ _ hh
  refine ⟨ks, ?_, k2⟩
  unfold heightsF
  rw [envD_pl]
  exact k1
def callsI (l : List InstrD) : List Int := (l.filter (fun x => x.Code = 16)).map (fun x => Go.IntKind.i64.wrap x.A)
theorem calls_pl {m : ModD} (h : ModOk m) {f : FuncD} (hf : f ∈ m.Funcs) : ∀ a ∈ callsI (plF f).Body.L, a ∈ callsI f.Body.L := fun a ha => by
  unfold callsI at ha ⊢
  obtain ⟨w, hw, rfl⟩ := List.mem_map.1 ha
  obtain ⟨h1, h2⟩ := List.mem_filter.1 hw
  have hc : w.Code = 16 := by simpa using h2
  exact List.mem_map.2 ⟨w, List.mem_filter.2 ⟨(bodyL_run (m := m) (f := f) _ f.Body.L (Nat.le_refl _) (h.ins f hf)).2 w h1 hc, h2⟩, rfl⟩
theorem callsI_yes {l : List InstrD} {j : Nat} {x : InstrD} (hx : l[j]? = some x) (h : x.Code = 16) : callsI (l.take (j + 1)) = callsI (l.take j) ++ [Go.IntKind.i64.wrap x.A] := by
  rw [← take_snoc hx]; unfold callsI; rw [List.filter_append, List.map_append, List.filter_cons_of_pos (by simpa using h)]; rfl
theorem callsI_no {l : List InstrD} {j : Nat} {x : InstrD} (hx : l[j]? = some x) (h : ¬ x.Code = 16) : callsI (l.take (j + 1)) = callsI (l.take j) := by
  rw [← take_snoc hx]; unfold callsI; rw [List.filter_append, List.map_append, List.filter_cons_of_neg (by simpa using h)]; simp
theorem callsI_len (l : List InstrD) : (callsI l).length ≤ l.length := by unfold callsI; rw [List.length_map]; exact List.length_filter_le _ _
theorem pkL_snoc (l : List Nat) (x : Nat) : pkL (l ++ [x]) = max (pkL l) x := by
  induction l with
  | nil => show max x 0 = max 0 x; omega
  | cons a l ih => show max a (pkL (l ++ [x])) = max (max a (pkL l)) x; rw [ih]; omega
theorem pkL_one {l : List Nat} {x : Nat} (h : l[0]? = some x) : (x : Int) = ((pkL (l.take 1) : Nat) : Int) := by
  cases l with
  | nil => cases h
  | cons a l => cases h; show (x : Int) = ((max x 0 : Nat) : Int); omega
theorem heights_len {m : ModD} {f : FuncD} {hs : List Nat} (h : heightsF m f = some hs) : hs.length = f.Body.L.length := by
  suffices H : ∀ (l : List InstrD) (fs : List FrC) (hs : List Nat), cr m f l fs = some hs → hs.length = l.length from H _ _ _ h
  intro l
  induction l with
  | nil => intro fs hs h; cases h; rfl
  | cons x l ih =>
    intro fs hs h
    rcases List.eq_nil_or_concat fs with rfl | ⟨gs, b, rfl⟩
    · simp [cr, crun] at h
    rw [List.concat_eq_append] at h
    unfold cr at h
    rw [crun_cons] at h
    cases hst : stepF (fun x : InstrD => x.Code) resI (plS (envD m f)) x gs b with
    | none => rw [hst] at h; cases h
    | some r =>
      rw [hst] at h
      obtain ⟨t, ht, rfl⟩ := Option.map_eq_some_iff.1 h
      rw [List.length_cons, ih _ _ ht, List.length_cons]
theorem run_pk {m : ModD} {f : FuncD} (hm : FitsM m) : ∀ n i hts fs t, f.Body.L.length - i = n → i ≤ f.Body.L.length → RunP m f i hts fs → cr m f (f.Body.L.drop i) fs = some t → pkL t ≤ 20 * f.Body.L.length
  | 0, i, hts, fs, t, hn, hi, h, ht => by
    rw [List.drop_eq_nil_of_le (by omega)] at ht; cases ht; exact Nat.zero_le _
  | n + 1, i, hts, fs, t, hn, hi, h, ht => by
    obtain ⟨x, hx⟩ := getElem?_lt (xs := f.Body.L) (k := i) (by omega)
    obtain ⟨gs, b, rfl⟩ := nestK_ne (drop_at hx ▸ h.nest)
    rw [drop_at hx] at ht
    unfold cr at ht
    rw [crun_cons] at ht
    cases hst : stepF (fun x : InstrD => x.Code) resI (plS (envD m f)) x gs b with
    | none => rw [hst] at ht; cases ht
    | some r =>
      rw [hst] at ht
      obtain ⟨u, hu, rfl⟩ := Option.map_eq_some_iff.1 ht
      have h1 := run_pk hm n (i + 1) _ r u (by omega) (by omega) (h.next hm hx hst) hu
      have h2 := h.hgt
      show max _ _ ≤ _
      omega
theorem pkL_le {m : ModD} {f : FuncD} {hs : List Nat} (hm : ValidD m) (hf : f ∈ m.Funcs) (h : heightsF m f = some hs) : pkL hs ≤ 20 * f.Body.L.length := by
  have henc := (hm.2 f hf).1
  exact run_pk hm.1 _ 0 [] _ hs rfl (Nat.zero_le _) (RunP.init hm.1 (sigAt_mem (func_sig hm.1 hf)).2 henc.2.2.2.1) h
def needI (m : ModD) (f : FuncD) (hs : List Nat) : Int := ((envD m f).Locals.length : Int) + ((pkL hs : Nat) : Int) + ((sigAt m f.Sig).R.length : Int)
open Classical in
noncomputable def callsM (m : ModD) (n : Int) : List Int := if (ValidD m ∧ 0 ≤ n) ∧ n < (m.Funcs.length : Int) then ((m.Funcs[n.toNat]?).map fun f => callsI f.Body.L).getD [] else []
open Classical in
noncomputable def needM (m : ModD) (n : Int) : Int := if (ValidD m ∧ 0 ≤ n) ∧ n < (m.Funcs.length : Int) then ((m.Funcs[n.toNat]?).bind fun f => (heightsF m f).map fun hs => needI m f hs).getD 0 else 0
theorem callsM_in {m : ModD} {i : Nat} {f : FuncD} (hv : ValidD m) (hf : m.Funcs[i]? = some f) : callsM m (i : Int) = callsI f.Body.L := by
  have := (List.getElem?_eq_some_iff.1 hf).1
  unfold callsM; rw [if_pos ⟨⟨hv, by omega⟩, by omega⟩, Int.toNat_natCast, hf]; rfl
theorem callsM_out {m : ModD} {n : Int} (h : ¬ ((ValidD m ∧ 0 ≤ n) ∧ n < (m.Funcs.length : Int))) : callsM m n = [] := by unfold callsM; exact if_neg h
theorem needM_in {m : ModD} {i : Nat} {f : FuncD} {hs : List Nat} (hv : ValidD m) (hf : m.Funcs[i]? = some f) (hh : heightsF m f = some hs) : needM m (i : Int) = needI m f hs := by
  have := (List.getElem?_eq_some_iff.1 hf).1
  unfold needM; rw [if_pos ⟨⟨hv, by omega⟩, by omega⟩, Int.toNat_natCast, hf]; simp only [Option.bind_some]; rw [hh]; rfl
theorem needM_out {m : ModD} {n : Int} (h : ¬ ((ValidD m ∧ 0 ≤ n) ∧ n < (m.Funcs.length : Int))) : needM m n = 0 := by unfold needM; exact if_neg h
theorem nat_of {n : Int} (h : 0 ≤ n) : ∃ i : Nat, n = (i : Int) := ⟨n.toNat, by omega⟩
theorem callsM_pl {m : ModD} {n : Int} (h : ModOk m) (hv : ValidD m) : ∀ a ∈ callsM (plM m) n, a ∈ callsM m n := by
  by_cases hp : ValidD (pmM m)
  · rw [plM_yes hp]
    by_cases hn : 0 ≤ n ∧ n < (m.Funcs.length : Int)
    · obtain ⟨i, rfl⟩ := nat_of hn.1
      obtain ⟨f, hf⟩ := getElem?_lt (xs := m.Funcs) (k := i) (by omega)
      have hf2 : (pmM m).Funcs[i]? = some (plF f) := by show (m.Funcs.map plF)[i]? = _; rw [List.getElem?_map, hf]; rfl
      rw [callsM_in hp hf2, callsM_in hv hf]
      exact calls_pl h (List.mem_of_getElem? hf)
    · rw [callsM_out (fun e => hn ⟨e.1.2, by have := e.2; simpa [pmM] using this⟩)]
      intro a ha; cases ha
  · rw [plM_no hp]; exact fun a ha => ha
theorem needM_pl {m : ModD} {n : Int} (h : ModOk m) (hv : ValidD m) : needM (plM m) n ≤ needM m n := by
  by_cases hp : ValidD (pmM m)
  · rw [plM_yes hp]
    by_cases hn : 0 ≤ n ∧ n < (m.Funcs.length : Int)
    · obtain ⟨i, rfl⟩ := nat_of hn.1
      obtain ⟨f, hf⟩ := getElem?_lt (xs := m.Funcs) (k := i) (by omega)
      have hfm := List.mem_of_getElem? hf
      have hf2 : (pmM m).Funcs[i]? = some (plF f) := by show (m.Funcs.map plF)[i]? = _; rw [List.getElem?_map, hf]; rfl
      obtain ⟨hs, hh⟩ := (hv.2 f hfm).2
      obtain ⟨ks, k1, k2⟩ := heights_pl h hfm hh
      rw [needM_in hp hf2 k1, needM_in hv hf hh]
      unfold needI
      rw [envD_pl]
      show _ + _ + ((sigAt (pmM m) f.Sig).R.length : Int) ≤ _
      have e : sigAt (pmM m) f.Sig = sigAt m f.Sig := rfl
      rw [e]; omega
    · rw [needM_out (fun e => hn ⟨e.1.2, by have := e.2; simpa [pmM] using this⟩), needM_out (fun e => hn ⟨e.1.2, e.2⟩)]
      exact Int.le_refl _
  · rw [plM_no hp]; exact Int.le_refl _
theorem found_snoc {l : List Int} {a b : Int} : ((∃ c ∈ l, c = b) ∨ a = b) ↔ ∃ c ∈ l ++ [a], c = b := by
  constructor
  · rintro (⟨c, h1, h2⟩ | h)
    · exact ⟨c, List.mem_append_left _ h1, h2⟩
    · exact ⟨a, by simp, h⟩
  · rintro ⟨c, h1, h2⟩
    rcases List.mem_append.1 h1 with h | h
    · exact .inl ⟨c, h, h2⟩
    · obtain rfl := List.mem_singleton.1 h; exact .inr h2
end Go.Hl
end
section
namespace Go.Proofs.YtmmdlhjcmlekfaaGreatDoor
open Go.Hl Go.RowKit
theorem insI0_spec  : FnP Tryz.prog 82 [sliceV 1 encInt [], intV .i64 (0), intV .i64 (0)] (tupV []) := by
 refine In 49 Tryz.func82 fun _ _ _ => ?_
 refine Z8 ?_
 refine .loopO (σ := Unit) (fun _ => []) (fun _ => []) (fun _ => True) (fun _ => 0) () trivial rfl ?_ ?_
 · exact (.refl _ _)
 rintro ⟨⟩ _
 refine Z8 ?_
 refine Cd (fun c0 => ?_) fun c0 => ?_
 · exfalso; omega
 refine Z4 ?_
 refine Post.retR rfl rfl () trivial (fun _ _ _ _ => trivial) rfl .nil
theorem pdqI0_spec  : FnP Tryz.prog 60 [sliceV 1 encInt [], intV .i64 (0), intV .i64 (0), intV .i64 (0)] (tupV []) := by
 refine In 134 Tryz.func60 fun _ _ _ => ?_
 refine Z11 ?_
 refine .loopO (σ := Unit) (fun _ => []) (fun _ => []) (fun _ => True) (fun _ => 0) () trivial rfl ?_ ?_
 · exact (.refl _ _)
 rintro ⟨⟩ _
 refine Z16 ?_
 refine Cd (fun c0 => ?_) fun c0 => ?_
 ·
  refine Z5 ?_
  refine .p (cA (h := insI0_spec)) rfl ?_
  refine Z7 ?_
  refine Post.retR rfl rfl () trivial (fun _ _ _ _ => trivial) rfl .nil
 exfalso; omega
theorem len64z_spec  : FnP Tryz.prog 92 [intV .u64 0] (intV .i64 (0)) := by
 refine In 25 Tryz.func92 fun _ _ _ => ?_
 have hz0 : (0 : UInt8).toNat = 0 := rfl
 refine Z12 ?_
 refine Cd (fun c0 => ?_) fun c0 => ?_
 · exfalso; omega
 refine Z9 ?_
 refine Cd (fun c1 => ?_) fun c1 => ?_
 · exfalso; omega
 refine Z9 ?_
 refine Cd (fun c2 => ?_) fun c2 => ?_
 · exfalso; omega
 refine Z7 ?_
 refine .p (opIndexS Tryz.underlying9 (.s [0, 1, 2, 2, 3, 3, 3, 3, 4, 4, 4, 4, 4, 4, 4, 4, 5, 5, 5, 5, 5, 5, 5, 5, 5, 5, 5, 5, 5, 5, 5, 5, 6, 6, 6, 6, 6, 6, 6, 6, 6, 6, 6, 6, 6, 6, 6, 6, 6, 6, 6, 6, 6, 6, 6, 6, 6, 6, 6, 6, 6, 6, 6, 6, 7, 7, 7, 7, 7, 7, 7, 7, 7, 7, 7, 7, 7, 7, 7, 7, 7, 7, 7, 7, 7, 7, 7, 7, 7, 7, 7, 7, 7, 7, 7, 7, 7, 7, 7, 7, 7, 7, 7, 7, 7, 7, 7, 7, 7, 7, 7, 7, 7, 7, 7, 7, 7, 7, 7, 7, 7, 7, 7, 7, 7, 7, 7, 7, 8, 8, 8, 8, 8, 8, 8, 8, 8, 8, 8, 8, 8, 8, 8, 8, 8, 8, 8, 8, 8, 8, 8, 8, 8, 8, 8, 8, 8, 8, 8, 8, 8, 8, 8, 8, 8, 8, 8, 8, 8, 8, 8, 8, 8, 8, 8, 8, 8, 8, 8, 8, 8, 8, 8, 8, 8, 8, 8, 8, 8, 8, 8, 8, 8, 8, 8, 8, 8, 8, 8, 8, 8, 8, 8, 8, 8, 8, 8, 8, 8, 8, 8, 8, 8, 8, 8, 8, 8, 8, 8, 8, 8, 8, 8, 8, 8, 8, 8, 8, 8, 8, 8, 8, 8, 8, 8, 8, 8, 8, 8, 8, 8, 8, 8, 8, 8, 8, 8, 8, 8, 8, 8, 8, 8, 8, 8, 8] rfl rfl) (.t rfl) (show (0 : Int) = ((0 : Nat) : Int) from rfl) (e := 0) rfl) rfl ?_
 refine Z6 ?_
 refine Rt1 ?_
 exact VLe.int (by decide)
theorem lenz_spec  : FnP Tryz.prog 61 [intV .u64 0] (intV .i64 (0)) := by
 refine In 8 Tryz.func61 fun _ _ _ => ?_
 refine Z6 ?_
 refine Cd (fun c0 => ?_) fun c0 => ?_
 · exact c0.elim
 refine Z5 ?_
 refine .p (cA (h := len64z_spec)) rfl ?_
 refine Z4 ?_
 refine Rt1 ?_
 exact VLe.refl _
theorem sortI0_spec  : FnP Tryz.prog 41 [sliceV 1 encInt []] (tupV []) := by
 refine In 11 Tryz.func41 fun _ _ _ => ?_
 refine Z11 ?_
 refine .p (opConv Tryz.underlying3 Tryz.underlying142 (.t rfl)) rfl ?_
 refine .p (cA (h := lenz_spec)) rfl ?_
 refine .p (cA (h := pdqI0_spec)) rfl ?_
 refine Z1 ?_
 refine Post.retR rfl rfl () trivial (fun _ _ _ _ => trivial) rfl .nil
end Go.Proofs.YtmmdlhjcmlekfaaGreatDoor
end
section
namespace Go.Proofs.YtmmdlhjcmlekfaaGreatDoor
open Go.Hl Go.RowKit
theorem kheights_spec {m : ModD} {f : FuncD} {i : Nat} {hts : List Nat} (hp0 : FitsM m) (hp1 : ModOk m) (hp2 : m.Funcs[i]? = some f) (hp3 : heightsF m f = some hts) (hp4 : encBd f.Body) : FnE Tryz.prog 65 [ptrV (encMod m), intV .i64 ((i : Int))] [] (γ := SB) (fun _ => True) (fun g => [sliceH g 1 encNt hts]) (fun g => tupV [exactV (sval g hts.length), intV .i64 0]) := by
 refine In 18 Tryz.func65 fun _ _ _ => ?_
 refine Z10 ?_
 refine .n (cE (h := krun_spec hp0 hp1 hp2)) rfl fun g12 h12 => ?_
 refine Z10 ?_
 obtain ⟨a12, e12, l12, b12⟩ := g12
 obtain ⟨rfl, rfl⟩ : (0 : Int) = e12 ∧ hts = l12 := by (rcases h12 with ⟨h1, _, h3⟩ | ⟨h1, h2, _⟩; exact ⟨h1.symm, Option.some.inj (hp3.symm.trans h3)⟩; exact absurd ⟨hp4, hts, hp3⟩ h2)
 refine Z8 ?_
 refine Post.retR rfl rfl (b12) (by trivial) (fun _ _ _ h => h) rfl (.cons (.rt rfl) ?_ (.cons (.rt rfl) ?_ .nil))
 · exact VLe.refl _
 exact VLe.refl _
theorem maxI_spec {l : List Nat} (hp0 : l ≠ []) : FnP Tryz.prog 66 [sliceV 1 encNt l] (intV .i64 (((pkL l : Nat) : Int))) := by
 refine In 25 Tryz.func66 fun _ _ _ => ?_
 refine .fact (t := 0) rfl (fun S w v h => sliceV_len h) fun hln => ?_
 have hl0 : 0 < l.length := List.length_pos_iff.2 hp0
 obtain ⟨x0, hx0⟩ := getElem?_lt (xs := l) (k := 0) hl0
 refine Z13 ?_
 refine Cd (fun c0 => ?_) fun c0 => ?_
 · exfalso; omega
 refine Z5 ?_
 refine .p (cI 0 (h := hx0)) rfl ?_
 refine Z11 ?_
 refine .loopO (σ := Nat) (fun _ => []) (fun k => [(3, intV .i64 ((pkL (l.take k) : Nat) : Int)), (4, intV .i64 (k : Int))]) (fun k => 1 ≤ k ∧ k ≤ l.length) (fun k => l.length - k) 1 ⟨Nat.le_refl _, hl0⟩ rfl ?_ ?_
 · exact (.get rfl (VLe.int (by rw [pkL_one hx0])) (.get rfl (VLe.refl _) (.refl _ _)))
 rintro k hk
 refine Z9 ?_
 refine Cd (fun c1 => ?_) fun c1 => ?_
 ·
  obtain ⟨x, hx⟩ := getElem?_lt (xs := l) (k := k) (by omega)
  refine Z8 ?_
  refine .p (cI k (h := hx)) rfl ?_
  refine Z11 ?_
  refine .round (k + 1) (by omega) (by omega) rfl ?_
  exact (.get rfl (VLe.int (by rw [← take_snoc hx, pkL_snoc]; omega)) (.get rfl (VLe.int (by omega)) ((.keep 16 rfl rfl))))
 have hall : l.take k = l := List.take_of_length_le (by omega)
 rw [hall]
 refine Z12 ?_
 refine Rt1 ?_
 exact VLe.refl _
theorem kpeak_spec {m : ModD} {f : FuncD} {i : Nat} {hts : List Nat} (hp0 : FitsM m) (hp1 : ModOk m) (hp2 : m.Funcs[i]? = some f) (hp3 : heightsF m f = some hts) (hp4 : encBd f.Body) : FnE Tryz.prog 45 [ptrV (encMod m), intV .i64 ((i : Int))] [] (γ := Unit) (fun _ => True) (fun _ => []) (fun _ => intV .i64 (((pkL hts : Nat) : Int))) := by
 refine In 17 Tryz.func45 fun _ _ _ => ?_
 have hlen := heights_len hp3
 have hl2 := hp1.len f (List.mem_of_getElem? hp2)
 refine Z9 ?_
 refine .n (cE (h := kheights_spec hp0 hp1 hp2 hp3 hp4)) rfl fun g10 h10 => ?_
 refine Z10 ?_
 refine .p (cB encNt [0]) rfl ?_
 refine .n (OpE.shareS (G := fun g => g) (hs1 := fun _ => _) (xs := fun _ => _) (opAppend (i := 0) Tryz.underlying53 Tryz.underlying53 Tryz.cz3 rfl Tryz.zb3 rfl Tryz.by3 (.t rfl) (.t rfl) rfl (by simp only [List.length_cons, List.length_nil]; omega) (by simp only [List.length_cons, List.length_nil]; omega))) rfl fun _ _ => ?_
 refine .p (cA (h := maxI_spec (l := hts ++ [0]) (by simp))) rfl ?_
 refine Z4 ?_
 refine Rt1 ?_
 exact VLe.int (by rw [pkL_snoc, Nat.max_zero])
theorem klocalsN_spec {m : ModD} {f : FuncD} {i : Nat} (hp0 : FitsM m) (hp1 : ModOk m) (hp2 : m.Funcs[i]? = some f) : FnP Tryz.prog 44 [ptrV (encMod m), intV .i64 ((i : Int))] (intV .i64 (((envD m f).Locals.length : Int))) := by
 refine In 15 Tryz.func44 fun _ _ _ => ?_
 refine Z9 ?_
 refine .p (cA (h := klocals_spec hp0 hp1 hp2)) rfl ?_
 refine Z15 ?_
 refine Rt1 ?_
 exact VLe.refl _
end Go.Proofs.YtmmdlhjcmlekfaaGreatDoor
end
