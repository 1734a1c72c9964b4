/-
  How great a module is: bounds. No project text.
-/
import Derived.Test.YtgmpadhfgohodaaDoorM13A
namespace Go.Hl
set_option linter.unusedVariables false

theorem aggV_at {cs : List VP} {S : BS} {w : World} {v : Value} (h : (aggV cs).p S w v) (j : Nat) {q : VP} (hj : cs[j]? = some q) : ∃ u, q.p S w u := by
  obtain ⟨arr, _, _, hc⟩ := h
  obtain ⟨u, _, hq⟩ := hc j _ hj
  exact ⟨u, hq⟩
theorem sliceV_mem {α : Type} {n : Nat} {enc : α → List VP} {xs : List α} {S : BS} {w : World} {v : Value} (h : (sliceV n enc xs).p S w v) {x : α} (hx : x ∈ xs) (j : Nat) {q : VP} (hj : (enc x)[j]? = some q) : ∃ u, q.p S w u := by
  obtain ⟨a, cap, _, hc, _, he⟩ := h
  obtain ⟨i, hi⟩ := List.mem_iff_getElem?.1 hx
  have hil : i < xs.length := (List.getElem?_eq_some_iff.1 hi).1
  cases a with
  | none => have : cap = 0 := he; omega
  | some ad =>
    obtain ⟨_, _, hel⟩ := he (by omega)
    obtain ⟨u, _, hq⟩ := hel i x hi j q hj
    exact ⟨u, hq⟩

/-! ### bodies -/
structure BodyLens (b : BodyD) : Prop where
  locals : b.Locals.length ≤ 281474976710656
  l : b.L.length ≤ 281474976710656
  all : ∀ (i : Nat) x, b.L[i]? = some x → x.L.length ≤ 281474976710656
theorem bodyLens {b : BodyD} {S : BS} {w : World} {v : Value} (h : (aggV (encBody b)).p S w v) : BodyLens b :=
  ⟨aggV_len h 0 rfl, aggV_len h 1 rfl, fun i x hx => by
    obtain ⟨u, hu⟩ := aggV_at h 1 rfl
    obtain ⟨u', hu'⟩ := sliceV_mem hu (List.mem_of_getElem? hx) 4 rfl
    exact sliceV_len hu'⟩
structure SmallB (b : BodyD) : Prop where
  locals : b.Locals.length ≤ 60
  l : b.L.length ≤ 150
  all : ∀ x ∈ b.L, x.L.length ≤ 110
theorem SmallB.of {b : BodyD} (h1 : b.Locals.length ≤ 60) (h2 : b.L.length ≤ 150) (h3 : NotB (fun x : InstrD => 110 < x.L.length) b.L b.L.length) : SmallB b :=
  ⟨h1, h2, fun x hx => by
    obtain ⟨i, hi⟩ := List.mem_iff_getElem?.1 hx
    have := h3 i x (List.getElem?_eq_some_iff.1 hi).1 hi
    omega⟩

/-! ### modules -/
structure ModIn (m : ModD) : Prop where
  sigs : ∀ (i : Nat) x, m.Sigs[i]? = some x → x.P.length ≤ 281474976710656 ∧ x.R.length ≤ 281474976710656
  imports : ∀ (i : Nat) x, m.Imports[i]? = some x → x.Module.length ≤ 281474976710656 ∧ x.Name.length ≤ 281474976710656
  exports : ∀ (i : Nat) x, m.Exports[i]? = some x → x.Name.length ≤ 281474976710656
  elems : ∀ (i : Nat) x, m.Elems[i]? = some x → x.Funcs.length ≤ 281474976710656
  datas : ∀ (i : Nat) x, m.Datas[i]? = some x → x.Bytes.length ≤ 281474976710656
theorem modIn {m : ModD} {S : BS} {w : World} {v : Value} (h : (aggV (encMod m)).p S w v) : ModIn m where
  sigs i x hx := by
    obtain ⟨u, hu⟩ := aggV_at h 0 rfl
    obtain ⟨_, h1⟩ := sliceV_mem hu (List.mem_of_getElem? hx) 0 rfl
    obtain ⟨_, h2⟩ := sliceV_mem hu (List.mem_of_getElem? hx) 1 rfl
    exact ⟨sliceV_len h1, sliceV_len h2⟩
  imports i x hx := by
    obtain ⟨u, hu⟩ := aggV_at h 1 rfl
    obtain ⟨_, h1⟩ := sliceV_mem hu (List.mem_of_getElem? hx) 0 rfl
    obtain ⟨_, h2⟩ := sliceV_mem hu (List.mem_of_getElem? hx) 1 rfl
    exact ⟨strV_len h1, strV_len h2⟩
  exports i x hx := by
    obtain ⟨u, hu⟩ := aggV_at h 6 rfl
    obtain ⟨_, h1⟩ := sliceV_mem hu (List.mem_of_getElem? hx) 0 rfl
    exact strV_len h1
  elems i x hx := by
    obtain ⟨u, hu⟩ := aggV_at h 8 rfl
    obtain ⟨_, h1⟩ := sliceV_mem hu (List.mem_of_getElem? hx) 1 rfl
    exact sliceV_len h1
  datas i x hx := by
    obtain ⟨u, hu⟩ := aggV_at h 9 rfl
    obtain ⟨_, h1⟩ := sliceV_mem hu (List.mem_of_getElem? hx) 2 rfl
    exact sliceV_len h1
structure SmallM (m : ModD) : Prop where
  sigs : m.Sigs.length ≤ 60
  imports : m.Imports.length ≤ 25
  funcs : m.Funcs.length ≤ 110
  mems : m.Mems.length ≤ 8
  globals : m.Globals.length ≤ 60
  exports : m.Exports.length ≤ 60
  elems : m.Elems.length ≤ 25
  datas : m.Datas.length ≤ 25
  sig : ∀ x ∈ m.Sigs, x.P.length + x.R.length ≤ 60
  imp : ∀ x ∈ m.Imports, x.Module.length + x.Name.length ≤ 100
  fn : ∀ x ∈ m.Funcs, SmallB x.Body
  exp : ∀ x ∈ m.Exports, x.Name.length ≤ 60
  elem : ∀ x ∈ m.Elems, x.Funcs.length ≤ 30
  data : ∀ x ∈ m.Datas, x.Bytes.length ≤ 4100
/-- what the counts say -/
structure CountM (m : ModD) : Prop where
  sigs : m.Sigs.length ≤ 60
  imports : m.Imports.length ≤ 25
  funcs : m.Funcs.length ≤ 110
  mems : m.Mems.length ≤ 8
  globals : m.Globals.length ≤ 60
  exports : m.Exports.length ≤ 60
  elems : m.Elems.length ≤ 25
  datas : m.Datas.length ≤ 25
theorem allB {α : Type} {p : α → Prop} {l : List α} (h : NotB (fun x => ¬ p x) l l.length) : ∀ x ∈ l, p x := fun x hx => by
  obtain ⟨i, hi⟩ := List.mem_iff_getElem?.1 hx
  exact Classical.byContradiction fun hn => h i x (List.getElem?_eq_some_iff.1 hi).1 hi hn
theorem SmallM.of {m : ModD} (h : CountM m) (h1 : ∀ x ∈ m.Sigs, x.P.length + x.R.length ≤ 60) (h2 : ∀ x ∈ m.Imports, x.Module.length + x.Name.length ≤ 100) (h3 : ∀ x ∈ m.Funcs, SmallB x.Body) (h4 : ∀ x ∈ m.Exports, x.Name.length ≤ 60) (h5 : ∀ x ∈ m.Elems, x.Funcs.length ≤ 30) (h6 : ∀ x ∈ m.Datas, x.Bytes.length ≤ 4100) : SmallM m :=
  ⟨h.sigs, h.imports, h.funcs, h.mems, h.globals, h.exports, h.elems, h.datas, h1, h2, h3, h4, h5, h6⟩
theorem great_end {x : ModD} {k : Nat} (h : ((((((CountM x ∧ ∀ y ∈ x.Sigs, ¬ (60 < y.P.length + y.R.length)) ∧ ∀ y ∈ x.Imports, ¬ (100 < y.Module.length + y.Name.length)) ∧ ∀ y ∈ x.Funcs, ¬ ¬ SmallB y.Body) ∧ ∀ y ∈ x.Exports, ¬ (60 < y.Name.length)) ∧ ∀ y ∈ x.Elems, ¬ (30 < y.Funcs.length)) ∧ NotB (fun y : DataD => 4100 < y.Bytes.length) x.Datas k))
    (hk : x.Datas.length ≤ 25 → x.Datas.length ≤ k) : SmallM x := by
  obtain ⟨⟨⟨⟨⟨⟨hC, hA⟩, hB⟩, hE⟩, hF⟩, hG⟩, hH⟩ := h
  have hH2 := hH.all (hk hC.datas)
  exact SmallM.of hC (fun y hy => by have := hA y hy; omega) (fun y hy => by have := hB y hy; omega) (fun y hy => Classical.not_not.1 (hE y hy)) (fun y hy => by have := hF y hy; omega) (fun y hy => by have := hG y hy; omega) (fun y hy => by have := hH2 y hy; omega)
/-- a module's cells, its signatures and its functions under way -/
def toCells (x : ModD) (a f : VP) : List VP := [a, sliceV 3 encImport x.Imports, f, intV .i64 x.Table, sliceV 3 encLimits x.Mems, sliceV 3 encGlobal x.Globals, sliceV 3 encExport x.Exports, intV .i64 x.Start, sliceV 2 encElem x.Elems, sliceV 3 encData x.Datas]
/-- any value -/
def anyV : VP := ⟨fun _ _ _ => True, fun _ _ _ => trivial⟩
theorem VLe.any {q : VP} : VLe q anyV := fun _ _ _ _ => trivial

/-! ### a module fits -/
structure FitsM (x : ModD) : Prop where
  sigs : sigsE x = 0
  imports : importsE x = 0
  funcs : funcsE x = 0
  table : tableE x = 0
  mems : memsE x = 0
  globals : globalsE x = 0
  exports : exportsE x = 0
  start : startE x = 0
  elems : elemsE x = 0
  datas : datasE x = 0
theorem many_ok {α : Type} {xs : List α} {most : Int} {f : α → Int} {k : Nat} (h : (xs.length : Int) ≤ most) (hn : NotB (fun z => f z ≠ 0) xs k) (hk : xs.length ≤ k) : manyE xs.length most (onI xs f) = 0 :=
  manyE_zero.2 ⟨h, firstE_on.2 fun z hz => Classical.not_not.1 (hn.all hk z hz)⟩
theorem first_ok {α : Type} {xs : List α} {f : α → Int} {k : Nat} (hn : NotB (fun z => f z ≠ 0) xs k) (hk : xs.length ≤ k) : firstE (onI xs f) xs.length = 0 := firstE_on.2 fun z hz => Classical.not_not.1 (hn.all hk z hz)
theorem sigE_ok {s : SigD} (h : TypedP s.P ∧ TypedP s.R) : sigE s = 0 := (whenE_eq (by decide)).2 (not_not_intro h)
theorem importE_ok {m : ModD} {x : ImportD} (h1 : NamedP x.Module ∧ NamedP x.Name) (h2 : InP x.Sig m.Sigs.length) : importE m x = 0 := by
  unfold importE; rw [if_neg (by simp [h1])]; exact (whenE_eq (by decide)).2 (not_not_intro h2)
theorem funcE_ok {m : ModD} {x : FuncD} (h2 : InP x.Sig m.Sigs.length) : funcE m x = 0 := (whenE_eq (by decide)).2 (not_not_intro h2)
theorem funcs_ok {m : ModD} {k : Nat} (h : (m.Imports.length : Int) + (m.Funcs.length : Int) ≤ 100) (hn : NotB (fun z => funcE m z ≠ 0) m.Funcs k) (hk : m.Funcs.length ≤ k) : funcsE m = 0 := by
  unfold funcsE countM; rw [if_neg (by omega)]; exact first_ok hn hk
theorem tableE_ok {m : ModD} (h : -1 ≤ m.Table) (h2 : m.Table ≤ 1000) : tableE m = 0 := by
  unfold tableE; rw [if_neg (by omega)]; exact (whenE_eq (by decide)).2 (by omega)
theorem memE_ok {x : LimitsD} (h : 0 ≤ x.Min ∧ x.Min ≤ 65536 ∧ (x.Max < 0 ∨ x.Min ≤ x.Max ∧ x.Max ≤ 65536)) : memE x = 0 := (whenE_eq (by decide)).2 (not_not_intro h)
theorem globalE_ok {x : GlobalD} (h : (x.Ty.toNat : Int) = 126 ∨ (x.Ty.toNat : Int) = 127 ∧ x.Value ≤ 4294967295) : globalE x = 0 := by
  refine (whenE_eq (by decide)).2 fun h' => ?_
  rcases h' with h' | h'
  · rw [bitsI_zero] at h'
    apply h'
    rcases h with h | h
    · exact .inl (UInt8.toNat_inj.1 (by simpa using (by omega : x.Ty.toNat = 126)))
    · exact .inr (UInt8.toNat_inj.1 (by simpa using (by omega : x.Ty.toNat = 127)))
  · omega
theorem exportE_ok {m : ModD} {i : Nat} {x : ExportD} (hx : m.Exports[i]? = some x) (h1 : NamedP x.Name) (h2 : NotB (fun z : ExportD => z.Name = x.Name) m.Exports i) (ht : -1 ≤ m.Table) (ht2 : m.Table ≤ 1000)
    (h3 : x.Kind = 0 ∧ InP x.Index (countM m) ∨ (x.Kind = 1 ∧ 0 ≤ m.Table) ∧ x.Index = 0 ∨ x.Kind = 2 ∧ InP x.Index m.Mems.length ∨ x.Kind = 3 ∧ InP x.Index m.Globals.length) : exportE m i = 0 := by
  rw [exportE_rest hx]
  · refine (whenE_eq (by decide)).2 fun h => ?_
    have k0 : kindJ 0 = 0 := by decide
    have k1 : kindJ 1 = 1 := by decide
    have k2 : kindJ 2 = 2 := by decide
    have k3 : kindJ 3 = 3 := by decide
    unfold InP at h h3
    rcases h3 with ⟨h4, h5⟩ | ⟨⟨h4, h5⟩, h6⟩ | ⟨h4, h5⟩ | ⟨h4, h5⟩
    · rw [h4, k0] at h; simp only [cnt] at h; omega
    · rw [h4, k1] at h
      have hw : IntKind.i64.wrap (m.Table + 1) = m.Table + 1 := by unfold IntKind.wrap; simp [IntKind.signed, IntKind.bits]; omega
      simp only [cnt, hw] at h; omega
    · rw [h4, k2] at h; simp only [cnt] at h; omega
    · rw [h4, k3] at h; simp only [cnt] at h; omega
  · rintro (h | ⟨y, hy, he⟩)
    · exact h h1
    · obtain ⟨j, hj⟩ := List.mem_iff_getElem?.1 hy
      rw [List.getElem?_take] at hj
      split at hj
      · rename_i hlt; exact h2 j y hlt hj he
      · cases hj
theorem exports_ok {m : ModD} {k : Nat} (h : (m.Exports.length : Int) ≤ 50) (hn : ∀ j, j < k → exportE m j = 0) (hk : m.Exports.length ≤ k) : exportsE m = 0 := manyE_zero.2 ⟨h, firstE_zero.2 fun i hi => hn i (by omega)⟩
theorem InP.at {n : Int} {k : Nat} (h : InP n k) : n.toNat < k ∧ n = (n.toNat : Int) := by unfold InP at h; omega
/-- the signature of a function -/
theorem sig_found {m : ModD} {f : Int} (hf : InP f (countM m)) (h1 : ∀ z ∈ m.Imports, importE m z = 0) (h2 : ∀ z ∈ m.Funcs, funcE m z = 0) : ∃ s, sigO m f = some s := by
  have hf' := hf
  unfold InP countM at hf'
  unfold sigO numberO
  rw [if_neg (by unfold countM; omega)]
  have key : ∀ n : Int, InP n m.Sigs.length → ∃ s, (match some n with | none => none | some n => if 0 ≤ n then m.Sigs[n.toNat]? else none) = some s := fun n hn => by
    obtain ⟨h3, h4⟩ := hn.at
    simp only
    rw [if_pos (by omega)]
    exact ⟨_, List.getElem?_eq_getElem h3⟩
  by_cases hlt : f < (m.Imports.length : Int)
  · rw [if_pos hlt]
    have hl : f.toNat < m.Imports.length := by omega
    rw [List.getElem?_eq_getElem hl]
    refine key _ ?_
    have := h1 _ (List.getElem_mem hl)
    unfold importE at this
    split at this
    · cases this
    · exact Classical.not_not.1 ((whenE_eq (by decide)).1 this)
  · rw [if_neg hlt]
    have hl : (f - (m.Imports.length : Int)).toNat < m.Funcs.length := by omega
    rw [List.getElem?_eq_getElem hl]
    refine key _ ?_
    have := h2 _ (List.getElem_mem hl)
    exact Classical.not_not.1 ((whenE_eq (by decide)).1 this)
theorem sig_import {m : ModD} {f : Int} {s : SigD} (h : sigO m f = some s) (hf : f < (m.Imports.length : Int)) : ∃ x : ImportD, m.Imports[f.toNat]? = some x ∧ m.Sigs[x.Sig.toNat]? = some s ∧ f = (f.toNat : Int) ∧ x.Sig = (x.Sig.toNat : Int) := by
  unfold sigO numberO at h
  split at h
  · cases h
  · rename_i n hn
    split at hn
    · cases hn
    · rename_i hc
      cases hx : m.Imports[f.toNat]? with
      | none => rw [hx] at hn; cases hn
      | some x =>
        rw [hx] at hn; cases hn
        split at h
        · rename_i h0; exact ⟨x, rfl, h, by omega, by have h1 : 0 ≤ x.Sig := h0; omega⟩
        · cases h
theorem sig_func {m : ModD} {f : Int} {s : SigD} (h : sigO m f = some s) (hf : ¬ f < (m.Imports.length : Int)) : ∃ x : FuncD, m.Funcs[(f - (m.Imports.length : Int)).toNat]? = some x ∧ m.Sigs[x.Sig.toNat]? = some s ∧ f - (m.Imports.length : Int) = ((f - (m.Imports.length : Int)).toNat : Int) ∧ x.Sig = (x.Sig.toNat : Int) ∧ f < countM m := by
  unfold sigO numberO at h
  split at h
  · cases h
  · rename_i n hn
    split at hn
    · cases hn
    · rename_i hc
      cases hx : m.Funcs[(f - (m.Imports.length : Int)).toNat]? with
      | none => rw [hx] at hn; cases hn
      | some x =>
        rw [hx] at hn; cases hn
        split at h
        · rename_i h0; exact ⟨x, rfl, h, by omega, by have h1 : 0 ≤ x.Sig := h0; omega, by omega⟩
        · cases h
theorem startE_no {m : ModD} (h : m.Start = -1) : startE m = 0 := by unfold startE; rw [if_pos h]
theorem startE_ok {m : ModD} {s : SigD} (h : sigO m m.Start = some s) (h2 : ¬ 0 < (s.P.length : Int) + (s.R.length : Int)) : startE m = 0 := by
  unfold startE; split
  · rfl
  · rw [h]; exact (whenE_eq (by decide)).2 h2
theorem elemE_ok {m : ModD} {x : ElemD} {k : Nat} (h : (x.Funcs.length : Int) ≤ 20) (h1 : 0 ≤ m.Table) (h2 : x.At ≤ 4294967295) (h3 : NotB (fun z : Int => ¬ InP z (countM m)) x.Funcs k) (hk : x.Funcs.length ≤ k) : elemE m x = 0 := by
  unfold elemE; rw [if_neg (by omega)]
  refine (whenE_eq (by decide)).2 ?_
  rintro (h4 | ⟨f, hf, h5⟩ | h6)
  · omega
  · exact h3.all hk f hf h5
  · omega
theorem dataE_ok {m : ModD} {x : DataD} {y : LimitsD} (h : (x.Bytes.length : Int) ≤ 4096) (h1 : InP x.Mem m.Mems.length) (hy : m.Mems[x.Mem.toNat]? = some y) (h2 : ¬ (¬ y.Wide ∧ 4294967295 < x.At)) : dataE m x = 0 := by
  unfold dataE; rw [if_neg (by omega)]
  refine (whenE_eq (by decide)).2 ?_
  rintro (h4 | ⟨z, hz, h5⟩)
  · exact h4 h1
  · rw [hy] at hz; cases hz; exact h2 h5
theorem NotB.zero_at {α : Type} {f : α → Int} {xs : List α} {k : Nat} (hn : NotB (fun z => f z ≠ 0) xs k) (hk : xs.length ≤ k) : ∀ z ∈ xs, f z = 0 := fun z hz => Classical.not_not.1 (hn.all hk z hz)
theorem or4 {a b c d : Prop} (h : ((a ∨ b) ∨ c) ∨ d) : a ∨ b ∨ c ∨ d := by simpa [or_assoc] using h
theorem sig_mem {m : ModD} {f : Int} {s : SigD} (h : sigO m f = some s) : s ∈ m.Sigs := by
  unfold sigO at h
  split at h
  · cases h
  · split at h
    · exact List.mem_of_getElem? h
    · cases h
theorem funcs_each {m : ModD} (h : funcsE m = 0) : ∀ z ∈ m.Funcs, funcE m z = 0 := by
  unfold funcsE at h
  split at h
  · cases h
  · exact firstE_on.1 h
theorem sig_iff {m : ModD} {f : Int} (h1 : ∀ z ∈ m.Imports, importE m z = 0) (h2 : ∀ z ∈ m.Funcs, funcE m z = 0) : (sigO m f).isSome = true ↔ InP f (countM m) := by
  constructor
  · intro h
    obtain ⟨s, hs⟩ := Option.isSome_iff_exists.1 h
    unfold sigO numberO at hs
    unfold InP
    by_cases hc : f < 0 ∨ countM m ≤ f
    · rw [if_pos hc] at hs; cases hs
    · omega
  · intro h
    obtain ⟨s, hs⟩ := sig_found h h1 h2
    rw [hs]; rfl

/-! ### how great, to the number -/
def sumN (f : Nat → Int) : Nat → Int
  | 0 => 0
  | n + 1 => sumN f n + f n
theorem sumN_le {f : Nat → Int} {C : Int} (h : ∀ i, 0 ≤ f i ∧ f i ≤ C) : ∀ n : Nat, 0 ≤ sumN f n ∧ sumN f n ≤ n * C
  | 0 => by simp [sumN]
  | n + 1 => by
    have h1 := sumN_le h n
    have h2 := h n
    simp only [sumN]
    refine ⟨by omega, ?_⟩
    have : ((n + 1 : Nat) : Int) * C = n * C + C := by rw [Int.natCast_add, Int.add_mul]; simp
    omega
theorem sumN_zero {f : Nat → Int} (h : ∀ i, 0 ≤ f i) : ∀ {n : Nat}, sumN f n ≤ 0 → ∀ i, i < n → f i ≤ 0
  | 0, _, i, hi => by omega
  | n + 1, hs, i, hi => by
    have h0 : ∀ k : Nat, 0 ≤ sumN f k := fun k => by
      induction k with
      | zero => simp [sumN]
      | succ k ih => have := h k; simp only [sumN]; omega
    have h1 := h0 n
    have h2 := h n
    simp only [sumN] at hs
    by_cases e : i = n
    · subst e; omega
    · exact sumN_zero (n := n) h (by omega) i (by omega)
theorem onI_le {α : Type} {xs : List α} {g : α → Int} {C : Int} (hC : 0 ≤ C) (h : ∀ (i : Nat) x, xs[i]? = some x → 0 ≤ g x ∧ g x ≤ C) (i : Nat) : 0 ≤ onI xs g i ∧ onI xs g i ≤ C := by
  unfold onI
  split
  · rename_i x hx; exact h i x hx
  · exact ⟨by omega, hC⟩
/-- of a list, of its first so many, how much they add -/
def addN {α : Type} (xs : List α) (g : α → Int) (cap : Nat) : Int := sumN (onI xs g) (min xs.length cap)
theorem addN_le {α : Type} {xs : List α} {g : α → Int} {cap : Nat} (C : Int) (hC : 0 ≤ C) (h : ∀ (i : Nat) x, xs[i]? = some x → 0 ≤ g x ∧ g x ≤ C) : 0 ≤ addN xs g cap ∧ addN xs g cap ≤ cap * C := by
  have h1 := sumN_le (onI_le hC h) (min xs.length cap)
  refine ⟨h1.1, Int.le_trans h1.2 (Int.mul_le_mul_of_nonneg_right (by omega) hC)⟩
theorem addN_zero {α : Type} {xs : List α} {g : α → Int} {cap : Nat} (h : ∀ (i : Nat) x, xs[i]? = some x → 0 ≤ g x) (h0 : addN xs g cap ≤ 0) (hl : xs.length ≤ cap) : ∀ x ∈ xs, g x ≤ 0 := fun x hx => by
  obtain ⟨i, hi⟩ := List.mem_iff_getElem?.1 hx
  have := sumN_zero (f := onI xs g) (fun j => by unfold onI; split; exact h j _ (by assumption); omega) h0 i (by have := (List.getElem?_eq_some_iff.1 hi).1; omega)
  rwa [onI_eq hi] at this
theorem addN_part {α : Type} {xs : List α} {g : α → Int} {C : Int} (hC : 0 ≤ C) (h : ∀ (i : Nat) x, xs[i]? = some x → 0 ≤ g x ∧ g x ≤ C) (k : Nat) : 0 ≤ sumN (onI xs g) k ∧ sumN (onI xs g) k ≤ k * C := sumN_le (onI_le hC h) k
theorem sumN_at {α : Type} {xs : List α} {g : α → Int} {k : Nat} {x : α} (hx : xs[k]? = some x) : sumN (onI xs g) (k + 1) = sumN (onI xs g) k + g x := by simp only [sumN]; rw [onI_eq hx]

def gInstr (x : InstrD) : Int := max ((x.L.length : Int) - 110) 0
def greatB (b : BodyD) : Int := max ((b.Locals.length : Int) - 60) 0 + max ((b.L.length : Int) - 150) 0 + addN b.L gInstr 150
theorem gInstr_le {b : BodyD} (h : BodyLens b) : ∀ (i : Nat) x, b.L[i]? = some x → 0 ≤ gInstr x ∧ gInstr x ≤ 281474976710656 := fun i x hx => by have := h.all i x hx; unfold gInstr; omega
theorem greatB_le {b : BodyD} (h : BodyLens b) : 0 ≤ greatB b ∧ greatB b ≤ 152 * 281474976710656 := by
  have h1 := addN_le (cap := 150) 281474976710656 (by omega) (gInstr_le h)
  have h2 := h.locals
  have h3 := h.l
  unfold greatB; omega
theorem greatB_small {b : BodyD} (h : BodyLens b) (h0 : greatB b ≤ 0) : SmallB b := by
  have h1 := addN_le (cap := 150) 281474976710656 (by omega) (gInstr_le h)
  unfold greatB at h0
  have h2 := addN_zero (xs := b.L) (g := gInstr) (cap := 150) (fun i x _ => by unfold gInstr; omega) (by omega) (by omega)
  exact ⟨by omega, by omega, fun x hx => by have := h2 x hx; unfold gInstr at this; omega⟩

def gSig (y : SigD) : Int := max ((y.P.length : Int) + (y.R.length : Int) - 60) 0
def gImp (y : ImportD) : Int := max ((y.Module.length : Int) + (y.Name.length : Int) - 100) 0
def gFn (y : FuncD) : Int := greatB y.Body
def gExp (y : ExportD) : Int := max ((y.Name.length : Int) - 60) 0
def gElem (y : ElemD) : Int := max ((y.Funcs.length : Int) - 30) 0
def gData (y : DataD) : Int := max ((y.Bytes.length : Int) - 4100) 0
def great0 (x : ModD) : Int := max ((x.Sigs.length : Int) - 60) 0 + max ((x.Imports.length : Int) - 25) 0 + max ((x.Funcs.length : Int) - 110) 0 + max ((x.Mems.length : Int) - 8) 0 + max ((x.Globals.length : Int) - 60) 0 + max ((x.Exports.length : Int) - 60) 0 + max ((x.Elems.length : Int) - 25) 0 + max ((x.Datas.length : Int) - 25) 0
def great1 (x : ModD) : Int := great0 x + addN x.Sigs gSig 60
def great2 (x : ModD) : Int := great1 x + addN x.Imports gImp 25
def great3 (x : ModD) : Int := great2 x + addN x.Funcs gFn 110
def great4 (x : ModD) : Int := great3 x + addN x.Exports gExp 60
def great5 (x : ModD) : Int := great4 x + addN x.Elems gElem 25
def greatM (x : ModD) : Int := great5 x + addN x.Datas gData 25
structure ModLens3 (x : ModD) : Prop where
  top : ModLens x
  mid : ModIn x
  fns : ∀ (i : Nat) y, x.Funcs[i]? = some y → BodyLens y.Body
theorem modLens3 {m : ModD} {S : BS} {w : World} {v : Value} (h : (aggV (encMod m)).p S w v) : ModLens3 m :=
  ⟨modLensA h, modIn h, fun i x hx => by
    obtain ⟨u, hu⟩ := aggV_at h 2 rfl
    obtain ⟨_, h1⟩ := sliceV_mem hu (List.mem_of_getElem? hx) 1 rfl
    obtain ⟨_, h2⟩ := sliceV_mem hu (List.mem_of_getElem? hx) 2 rfl
    exact ⟨sliceV_len h1, sliceV_len h2, fun j y hy => by
      obtain ⟨_, h3⟩ := sliceV_mem h2 (List.mem_of_getElem? hy) 4 rfl
      exact sliceV_len h3⟩⟩
structure GreatB (x : ModD) : Prop where
  n0 : 0 ≤ great0 x ∧ great0 x ≤ 8 * 281474976710656
  sig : ∀ (i : Nat) y, x.Sigs[i]? = some y → 0 ≤ gSig y ∧ gSig y ≤ 2 * 281474976710656
  imp : ∀ (i : Nat) y, x.Imports[i]? = some y → 0 ≤ gImp y ∧ gImp y ≤ 2 * 281474976710656
  fn : ∀ (i : Nat) y, x.Funcs[i]? = some y → 0 ≤ gFn y ∧ gFn y ≤ 152 * 281474976710656
  exp : ∀ (i : Nat) y, x.Exports[i]? = some y → 0 ≤ gExp y ∧ gExp y ≤ 281474976710656
  elem : ∀ (i : Nat) y, x.Elems[i]? = some y → 0 ≤ gElem y ∧ gElem y ≤ 281474976710656
  data : ∀ (i : Nat) y, x.Datas[i]? = some y → 0 ≤ gData y ∧ gData y ≤ 281474976710656
theorem great0_le {x : ModD} (h : ModLens x) : 0 ≤ great0 x ∧ great0 x ≤ 8 * 281474976710656 := by
  obtain ⟨h1, h2, h3, h4, h5, h6, h7, h8⟩ := h
  have mx : ∀ (n : Nat) (c : Int), 0 ≤ c → n ≤ 281474976710656 → 0 ≤ max ((n : Int) - c) 0 ∧ max ((n : Int) - c) 0 ≤ 281474976710656 := fun n c _ _ => by omega
  have a1 := mx _ 60 (by omega) h1
  have a2 := mx _ 25 (by omega) h2
  have a3 := mx _ 110 (by omega) h3
  have a4 := mx _ 8 (by omega) h4
  have a5 := mx _ 60 (by omega) h5
  have a6 := mx _ 60 (by omega) h6
  have a7 := mx _ 25 (by omega) h7
  have a8 := mx _ 25 (by omega) h8
  unfold great0
  generalize max ((x.Sigs.length : Int) - 60) 0 = b1 at *
  generalize max ((x.Imports.length : Int) - 25) 0 = b2 at *
  generalize max ((x.Funcs.length : Int) - 110) 0 = b3 at *
  generalize max ((x.Mems.length : Int) - 8) 0 = b4 at *
  generalize max ((x.Globals.length : Int) - 60) 0 = b5 at *
  generalize max ((x.Exports.length : Int) - 60) 0 = b6 at *
  generalize max ((x.Elems.length : Int) - 25) 0 = b7 at *
  generalize max ((x.Datas.length : Int) - 25) 0 = b8 at *
  omega
theorem greatB_of {x : ModD} (h : ModLens3 x) : GreatB x :=
  ⟨great0_le h.top, fun i y hy => by have := h.mid.sigs i y hy; unfold gSig; omega, fun i y hy => by have := h.mid.imports i y hy; unfold gImp; omega, fun i y hy => greatB_le (h.fns i y hy),
   fun i y hy => by have := h.mid.exports i y hy; unfold gExp; omega, fun i y hy => by have := h.mid.elems i y hy; unfold gElem; omega, fun i y hy => by have := h.mid.datas i y hy; unfold gData; omega⟩
theorem greatM_small {x : ModD} (h : ModLens3 x) (h0 : greatM x ≤ 0) : SmallM x := by
  have hb := greatB_of h
  have n0 := hb.n0.1
  have n1 := (addN_le (cap := 60) _ (by omega) hb.sig).1
  have n2 := (addN_le (cap := 25) _ (by omega) hb.imp).1
  have n3 := (addN_le (cap := 110) _ (by omega) hb.fn).1
  have n4 := (addN_le (cap := 60) _ (by omega) hb.exp).1
  have n5 := (addN_le (cap := 25) _ (by omega) hb.elem).1
  have n6 := (addN_le (cap := 25) _ (by omega) hb.data).1
  unfold greatM great5 great4 great3 great2 great1 at h0
  have z0 : great0 x ≤ 0 := by omega
  unfold great0 at z0
  have g1 : x.Sigs.length ≤ 60 := by omega
  have g2 : x.Imports.length ≤ 25 := by omega
  have g3 : x.Funcs.length ≤ 110 := by omega
  have g6 : x.Exports.length ≤ 60 := by omega
  have g7 : x.Elems.length ≤ 25 := by omega
  have g8 : x.Datas.length ≤ 25 := by omega
  exact ⟨g1, g2, g3, by omega, by omega, g6, g7, g8,
    fun y hy => by have := addN_zero (fun i y hy => (hb.sig i y hy).1) (by omega) g1 y hy; unfold gSig at this; omega,
    fun y hy => by have := addN_zero (fun i y hy => (hb.imp i y hy).1) (by omega) g2 y hy; unfold gImp at this; omega,
    fun y hy => by
      have h9 := addN_zero (fun i y hy => (hb.fn i y hy).1) (by omega) g3 y hy
      obtain ⟨i, hi⟩ := List.mem_iff_getElem?.1 hy
      exact greatB_small (h.fns i y hi) h9,
    fun y hy => by have := addN_zero (fun i y hy => (hb.exp i y hy).1) (by omega) g6 y hy; unfold gExp at this; omega,
    fun y hy => by have := addN_zero (fun i y hy => (hb.elem i y hy).1) (by omega) g7 y hy; unfold gElem at this; omega,
    fun y hy => by have := addN_zero (fun i y hy => (hb.data i y hy).1) (by omega) g8 y hy; unfold gData at this; omega⟩
theorem great_bnds {x : ModD} (hb : GreatB x) : (0 ≤ great1 x ∧ great1 x ≤ 128 * 281474976710656) ∧ (0 ≤ great2 x ∧ great2 x ≤ 178 * 281474976710656) ∧ (0 ≤ great3 x ∧ great3 x ≤ 16898 * 281474976710656) ∧ (0 ≤ great4 x ∧ great4 x ≤ 16958 * 281474976710656) ∧ (0 ≤ great5 x ∧ great5 x ≤ 16983 * 281474976710656) := by
  have n0 := hb.n0
  have n1 := addN_le (cap := 60) _ (by omega) hb.sig
  have n2 := addN_le (cap := 25) _ (by omega) hb.imp
  have n3 := addN_le (cap := 110) _ (by omega) hb.fn
  have n4 := addN_le (cap := 60) _ (by omega) hb.exp
  have n5 := addN_le (cap := 25) _ (by omega) hb.elem
  unfold great5 great4 great3 great2 great1
  omega

/-! ### the same -/
theorem eqB_step {α : Type} {xs ys : List α} {k : Nat} {a b : α} {S p : Prop} (h : S ∧ EqB xs ys k) (hx : xs[k]? = some a) (hy : ys[k]? = some b) (he : p ↔ a = b) : p ↔ S ∧ EqB xs ys (k + 1) := by
  constructor
  · intro hp; exact ⟨h.1, h.2.succ hx hy (he.1 hp)⟩
  · intro hp
    have := hp.2 k (by omega)
    rw [hx, hy] at this; exact he.2 (Option.some.inj this)
theorem eqB_end {α : Type} {xs ys : List α} {k : Nat} {S : Prop} (hc : ¬ ((k : Int) < (xs.length : Int) ∧ (S ∧ EqB xs ys k))) (hl : S → xs.length = ys.length) : (S ∧ EqB xs ys k) ↔ (S ∧ xs = ys) := by
  constructor
  · intro h
    exact ⟨h.1, h.2.all (hl h.1) (by have : ¬ (k : Int) < (xs.length : Int) := fun h2 => hc ⟨h2, h⟩; omega)⟩
  · rintro ⟨h, rfl⟩
    exact ⟨h, fun i _ => rfl⟩
theorem eqB_next {α β : Type} {xs ys : List α} {us vs : List β} {k : Nat} {S : Prop} (hc : ¬ ((k : Int) < (xs.length : Int) ∧ (S ∧ EqB xs ys k))) (hl : S → xs.length = ys.length) : (S ∧ EqB xs ys k) ↔ ((S ∧ xs = ys) ∧ EqB us vs 0) :=
  (eqB_end hc hl).trans ⟨fun h => ⟨h, EqB.zero _ _⟩, fun h => h.1⟩
structure SameL (x y : ModD) : Prop where
  sigs : x.Sigs.length = y.Sigs.length
  imports : x.Imports.length = y.Imports.length
  funcs : x.Funcs.length = y.Funcs.length
  table : x.Table = y.Table
  mems : x.Mems.length = y.Mems.length
  globals : x.Globals.length = y.Globals.length
  exports : x.Exports.length = y.Exports.length
  start : x.Start = y.Start
  elems : x.Elems.length = y.Elems.length
  datas : x.Datas.length = y.Datas.length
theorem sameL_iff {x y : ModD} : (((((((((((x.Sigs.length : Int) = (y.Sigs.length : Int)) ∧ (x.Imports.length : Int) = (y.Imports.length : Int)) ∧ (x.Funcs.length : Int) = (y.Funcs.length : Int)) ∧ x.Table = y.Table) ∧ (x.Mems.length : Int) = (y.Mems.length : Int)) ∧ (x.Globals.length : Int) = (y.Globals.length : Int)) ∧ (x.Exports.length : Int) = (y.Exports.length : Int)) ∧ x.Start = y.Start) ∧ (x.Elems.length : Int) = (y.Elems.length : Int)) ∧ (x.Datas.length : Int) = (y.Datas.length : Int)) ↔ SameL x y ∧ EqB x.Sigs y.Sigs 0 := by
  constructor
  · rintro ⟨⟨⟨⟨⟨⟨⟨⟨⟨h1, h2⟩, h3⟩, h4⟩, h5⟩, h6⟩, h7⟩, h8⟩, h9⟩, h10⟩
    exact ⟨⟨by omega, by omega, by omega, h4, by omega, by omega, by omega, h8, by omega, by omega⟩, EqB.zero _ _⟩
  · rintro ⟨⟨h1, h2, h3, h4, h5, h6, h7, h8, h9, h10⟩, _⟩
    exact ⟨⟨⟨⟨⟨⟨⟨⟨⟨by omega, by omega⟩, by omega⟩, h4⟩, by omega⟩, by omega⟩, by omega⟩, h8⟩, by omega⟩, by omega⟩
theorem same_all {x y : ModD} : x = y ↔ ((((((((SameL x y ∧ x.Sigs = y.Sigs) ∧ x.Imports = y.Imports) ∧ x.Funcs = y.Funcs) ∧ x.Mems = y.Mems) ∧ x.Globals = y.Globals) ∧ x.Exports = y.Exports) ∧ x.Elems = y.Elems) ∧ x.Datas = y.Datas) := by
  constructor
  · rintro rfl; exact ⟨⟨⟨⟨⟨⟨⟨⟨⟨rfl, rfl, rfl, rfl, rfl, rfl, rfl, rfl, rfl, rfl⟩, rfl⟩, rfl⟩, rfl⟩, rfl⟩, rfl⟩, rfl⟩, rfl⟩, rfl⟩
  · rintro ⟨⟨⟨⟨⟨⟨⟨⟨h, h1⟩, h2⟩, h3⟩, h4⟩, h5⟩, h6⟩, h7⟩, h8⟩
    have ht := h.table
    have hs := h.start
    cases x; cases y
    simp only at h1 h2 h3 h4 h5 h6 h7 h8 ht hs
    subst h1; subst h2; subst h3; subst h4; subst h5; subst h6; subst h7; subst h8; subst ht; subst hs; rfl
theorem elem_iff {a b : ElemD} : ((a.At = b.At ∧ (a.Funcs.length : Int) = (b.Funcs.length : Int)) ∧ a.Funcs = b.Funcs) ↔ a = b := by
  rw [← elem_eq]
  constructor
  · rintro ⟨⟨h1, _⟩, h2⟩; exact ⟨h1, h2⟩
  · rintro ⟨h1, h2⟩; exact ⟨⟨h1, by rw [h2]⟩, h2⟩
end Go.Hl
