/-
  A fit module with less. No project text.
-/
import Derived.Test.YtbiahdejccipaaaM13C
import Derived.Test.YtbiahdejccipaaaM13B
import Derived.Test.YtbiahdejccipaaaHlU
namespace Go.Proofs.Ytbiahdejccipaaa
open Go.Hl
instance (x : ModD) : FlatL (encMod x) := ⟨fun q h => by simp only [encMod, List.mem_cons, List.not_mem_nil, or_false] at h; rcases h with h | h | h | h | h | h | h | h | h | h <;> rw [h] <;> infer_instance⟩
theorem fit_of {m : ModD} (h : FitsM m) : fitP m = ([], 0) := by
  obtain ⟨fa, fb, fc, fd, fe, ff, fg, fh, fi, fj⟩ := h
  refine fit_none fun p hp => ?_
  simp only [partsM, List.mem_cons, List.not_mem_nil, or_false] at hp
  simp only [ne_eq, Classical.not_not]
  rcases hp with rfl | rfl | rfl | rfl | rfl | rfl | rfl | rfl | rfl | rfl <;> assumption
def dropE (x : ModD) : ModD := { x with Exports := [] }
def dropS (x : ModD) : ModD := { x with Start := -1 }
def dropL (x : ModD) : ModD := { x with Elems := [] }
def dropD (x : ModD) : ModD := { x with Datas := [] }
def dropA (x : ModD) : ModD := { x with Exports := [], Start := -1, Elems := [], Datas := [] }
theorem exports_nil {m : ModD} (h : m.Exports = []) : exportsE m = 0 := by simp [exportsE, h, manyE, firstE]
theorem elems_nil {m : ModD} (h : m.Elems = []) : elemsE m = 0 := by simp [elemsE, h, manyE, firstE]
theorem datas_nil {m : ModD} (h : m.Datas = []) : datasE m = 0 := by simp [datasE, h, manyE, firstE]
theorem start_nil {m : ModD} (h : m.Start = -1) : startE m = 0 := by simp [startE, h]
theorem fits_E {x : ModD} (h : FitsM x) : FitsM (dropE x) := ⟨h.1, h.2, h.3, h.4, h.5, h.6, exports_nil rfl, h.8, h.9, h.10⟩
theorem fits_S {x : ModD} (h : FitsM x) : FitsM (dropS x) := ⟨h.1, h.2, h.3, h.4, h.5, h.6, h.7, start_nil rfl, h.9, h.10⟩
theorem fits_L {x : ModD} (h : FitsM x) : FitsM (dropL x) := ⟨h.1, h.2, h.3, h.4, h.5, h.6, h.7, h.8, elems_nil rfl, h.10⟩
theorem fits_D {x : ModD} (h : FitsM x) : FitsM (dropD x) := ⟨h.1, h.2, h.3, h.4, h.5, h.6, h.7, h.8, h.9, datas_nil rfl⟩
theorem fits_A {x : ModD} (h : FitsM x) : FitsM (dropA x) := ⟨h.1, h.2, h.3, h.4, h.5, h.6, exports_nil rfl, start_nil rfl, elems_nil rfl, datas_nil rfl⟩
theorem le_E (x : ModD) : LeL [sliceV 2 encSig x.Sigs, sliceV 3 encImport x.Imports, sliceV 3 encFunc x.Funcs, intV .i64 x.Table, sliceV 3 encLimits x.Mems, sliceV 3 encGlobal x.Globals, exactV (.slice none 0 0), intV .i64 x.Start, sliceV 2 encElem x.Elems, sliceV 3 encData x.Datas] (encMod (dropE x)) :=
  .cons (VLe.refl _) <| .cons (VLe.refl _) <| .cons (VLe.refl _) <| .cons (VLe.refl _) <| .cons (VLe.refl _) <| .cons (VLe.refl _) <| .cons (sliceV_nil _ _) <| .cons (VLe.refl _) <| .cons (VLe.refl _) <| .cons (VLe.refl _) .nil
theorem le_L (x : ModD) : LeL [sliceV 2 encSig x.Sigs, sliceV 3 encImport x.Imports, sliceV 3 encFunc x.Funcs, intV .i64 x.Table, sliceV 3 encLimits x.Mems, sliceV 3 encGlobal x.Globals, sliceV 3 encExport x.Exports, intV .i64 x.Start, exactV (.slice none 0 0), sliceV 3 encData x.Datas] (encMod (dropL x)) :=
  .cons (VLe.refl _) <| .cons (VLe.refl _) <| .cons (VLe.refl _) <| .cons (VLe.refl _) <| .cons (VLe.refl _) <| .cons (VLe.refl _) <| .cons (VLe.refl _) <| .cons (VLe.refl _) <| .cons (sliceV_nil _ _) <| .cons (VLe.refl _) .nil
theorem le_D (x : ModD) : LeL [sliceV 2 encSig x.Sigs, sliceV 3 encImport x.Imports, sliceV 3 encFunc x.Funcs, intV .i64 x.Table, sliceV 3 encLimits x.Mems, sliceV 3 encGlobal x.Globals, sliceV 3 encExport x.Exports, intV .i64 x.Start, sliceV 2 encElem x.Elems, exactV (.slice none 0 0)] (encMod (dropD x)) :=
  .cons (VLe.refl _) <| .cons (VLe.refl _) <| .cons (VLe.refl _) <| .cons (VLe.refl _) <| .cons (VLe.refl _) <| .cons (VLe.refl _) <| .cons (VLe.refl _) <| .cons (VLe.refl _) <| .cons (VLe.refl _) <| .cons (sliceV_nil _ _) .nil
theorem le_A (x : ModD) : LeL [sliceV 2 encSig x.Sigs, sliceV 3 encImport x.Imports, sliceV 3 encFunc x.Funcs, intV .i64 x.Table, sliceV 3 encLimits x.Mems, sliceV 3 encGlobal x.Globals, exactV (.slice none 0 0), intV .i64 (-1), exactV (.slice none 0 0), exactV (.slice none 0 0)] (encMod (dropA x)) :=
  .cons (VLe.refl _) <| .cons (VLe.refl _) <| .cons (VLe.refl _) <| .cons (VLe.refl _) <| .cons (VLe.refl _) <| .cons (VLe.refl _) <| .cons (sliceV_nil _ _) <| .cons (VLe.refl _) <| .cons (sliceV_nil _ _) <| .cons (sliceV_nil _ _) .nil
theorem small_of {x y : ModD} (h : SmallM x) (h1 : y.Sigs = x.Sigs) (h2 : y.Imports = x.Imports) (h3 : y.Funcs = x.Funcs) (h4 : y.Mems = x.Mems) (h5 : y.Globals = x.Globals) (h6 : y.Exports = x.Exports ∨ y.Exports = []) (h7 : y.Elems = x.Elems ∨ y.Elems = []) (h8 : y.Datas = x.Datas ∨ y.Datas = []) : SmallM y := by
  refine ⟨h1 ▸ h.sigs, h2 ▸ h.imports, h3 ▸ h.funcs, h4 ▸ h.mems, h5 ▸ h.globals, ?_, ?_, ?_, h1 ▸ h.sig, h2 ▸ h.imp, h3 ▸ h.fn, ?_, ?_, ?_⟩
  · rcases h6 with e | e
    · rw [e]; exact h.exports
    · rw [e]; simp
  · rcases h7 with e | e
    · rw [e]; exact h.elems
    · rw [e]; simp
  · rcases h8 with e | e
    · rw [e]; exact h.datas
    · rw [e]; simp
  · rcases h6 with e | e
    · rw [e]; exact h.exp
    · rw [e]; simp
  · rcases h7 with e | e
    · rw [e]; exact h.elem
    · rw [e]; simp
  · rcases h8 with e | e
    · rw [e]; exact h.data
    · rw [e]; simp
end Go.Proofs.Ytbiahdejccipaaa
