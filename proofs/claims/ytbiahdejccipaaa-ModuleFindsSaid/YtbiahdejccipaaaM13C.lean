/-
  How great a module is: bounds. No project text.
-/
import Derived.Test.YtbiahdejccipaaaM13A
namespace Go.Hl
set_option linter.unusedVariables false

theorem aggV_at {cs : List VP} {S : BS} {w : World} {v : Value} (h : (aggV cs).p S w v) (j : Nat) {q : VP} (hj : cs[j]? = some q) : ∃ u, q.p S w u := by
  obtain ⟨arr, _, _, hc⟩ := h
  obtain ⟨u, _, hq⟩ := hc j _ hj
  exact ⟨u, hq⟩
theorem sliceV_mem {α : Type} {n : Nat} {enc : α → List VP} {xs : List α} {S : BS} {w : World} {v : Value} (h : (sliceV n enc xs).p S w v) {x : α} (hx : x ∈ xs) (j : Nat) {q : VP} (hj : (enc x)[j]? = some q) : ∃ u, q.p S w u := by
  obtain ⟨a, cap, _, hc, _, he⟩ := h
  obtain ⟨i, hi⟩ := List.mem_iff_getElem?.1 hx
  have hil : i < xs.length := (List.getElem?_eq_some_iff.1 hi).1
  cases a with
  | none => have : cap = 0 := he; omega
  | some ad =>
    obtain ⟨_, _, hel⟩ := he (by omega)
    obtain ⟨u, _, hq⟩ := hel i x hi j q hj
    exact ⟨u, hq⟩

/-! ### bodies -/
structure BodyLens (b : BodyD) : Prop where
  locals : b.Locals.length ≤ 281474976710656
  l : b.L.length ≤ 281474976710656
  all : ∀ (i : Nat) x, b.L[i]? = some x → x.L.length ≤ 281474976710656
theorem bodyLens {b : BodyD} {S : BS} {w : World} {v : Value} (h : (aggV (encBody b)).p S w v) : BodyLens b :=
  ⟨aggV_len h 0 rfl, aggV_len h 1 rfl, fun i x hx => by
    obtain ⟨u, hu⟩ := aggV_at h 1 rfl
    obtain ⟨u', hu'⟩ := sliceV_mem hu (List.mem_of_getElem? hx) 4 rfl
    exact sliceV_len hu'⟩
structure SmallB (b : BodyD) : Prop where
  locals : b.Locals.length ≤ 60
  l : b.L.length ≤ 150
  all : ∀ x ∈ b.L, x.L.length ≤ 110
theorem SmallB.of {b : BodyD} (h1 : b.Locals.length ≤ 60) (h2 : b.L.length ≤ 150) (h3 : NotB (fun x : InstrD => 110 < x.L.length) b.L b.L.length) : SmallB b :=
  ⟨h1, h2, fun x hx => by
    obtain ⟨i, hi⟩ := List.mem_iff_getElem?.1 hx
    have := h3 i x (List.getElem?_eq_some_iff.1 hi).1 hi
    omega⟩

/-! ### modules -/
structure ModIn (m : ModD) : Prop where
  sigs : ∀ (i : Nat) x, m.Sigs[i]? = some x → x.P.length ≤ 281474976710656 ∧ x.R.length ≤ 281474976710656
  imports : ∀ (i : Nat) x, m.Imports[i]? = some x → x.Module.length ≤ 281474976710656 ∧ x.Name.length ≤ 281474976710656
  exports : ∀ (i : Nat) x, m.Exports[i]? = some x → x.Name.length ≤ 281474976710656
  elems : ∀ (i : Nat) x, m.Elems[i]? = some x → x.Funcs.length ≤ 281474976710656
  datas : ∀ (i : Nat) x, m.Datas[i]? = some x → x.Bytes.length ≤ 281474976710656
theorem modIn {m : ModD} {S : BS} {w : World} {v : Value} (h : (aggV (encMod m)).p S w v) : ModIn m where
  sigs i x hx := by
    obtain ⟨u, hu⟩ := aggV_at h 0 rfl
    obtain ⟨_, h1⟩ := sliceV_mem hu (List.mem_of_getElem? hx) 0 rfl
    obtain ⟨_, h2⟩ := sliceV_mem hu (List.mem_of_getElem? hx) 1 rfl
    exact ⟨sliceV_len h1, sliceV_len h2⟩
  imports i x hx := by
    obtain ⟨u, hu⟩ := aggV_at h 1 rfl
    obtain ⟨_, h1⟩ := sliceV_mem hu (List.mem_of_getElem? hx) 0 rfl
    obtain ⟨_, h2⟩ := sliceV_mem hu (List.mem_of_getElem? hx) 1 rfl
    exact ⟨strV_len h1, strV_len h2⟩
  exports i x hx := by
    obtain ⟨u, hu⟩ := aggV_at h 6 rfl
    obtain ⟨_, h1⟩ := sliceV_mem hu (List.mem_of_getElem? hx) 0 rfl
    exact strV_len h1
  elems i x hx := by
    obtain ⟨u, hu⟩ := aggV_at h 8 rfl
    obtain ⟨_, h1⟩ := sliceV_mem hu (List.mem_of_getElem? hx) 1 rfl
    exact sliceV_len h1
  datas i x hx := by
    obtain ⟨u, hu⟩ := aggV_at h 9 rfl
    obtain ⟨_, h1⟩ := sliceV_mem hu (List.mem_of_getElem? hx) 2 rfl
    exact sliceV_len h1
structure SmallM (m : ModD) : Prop where
  sigs : m.Sigs.length ≤ 60
  imports : m.Imports.length ≤ 25
  funcs : m.Funcs.length ≤ 110
  mems : m.Mems.length ≤ 8
  globals : m.Globals.length ≤ 60
  exports : m.Exports.length ≤ 60
  elems : m.Elems.length ≤ 25
  datas : m.Datas.length ≤ 25
  sig : ∀ x ∈ m.Sigs, x.P.length + x.R.length ≤ 60
  imp : ∀ x ∈ m.Imports, x.Module.length + x.Name.length ≤ 100
  fn : ∀ x ∈ m.Funcs, SmallB x.Body
  exp : ∀ x ∈ m.Exports, x.Name.length ≤ 60
  elem : ∀ x ∈ m.Elems, x.Funcs.length ≤ 30
  data : ∀ x ∈ m.Datas, x.Bytes.length ≤ 4100
/-- what the counts say -/
structure CountM (m : ModD) : Prop where
  sigs : m.Sigs.length ≤ 60
  imports : m.Imports.length ≤ 25
  funcs : m.Funcs.length ≤ 110
  mems : m.Mems.length ≤ 8
  globals : m.Globals.length ≤ 60
  exports : m.Exports.length ≤ 60
  elems : m.Elems.length ≤ 25
  datas : m.Datas.length ≤ 25
theorem allB {α : Type} {p : α → Prop} {l : List α} (h : NotB (fun x => ¬ p x) l l.length) : ∀ x ∈ l, p x := fun x hx => by
  obtain ⟨i, hi⟩ := List.mem_iff_getElem?.1 hx
  exact Classical.byContradiction fun hn => h i x (List.getElem?_eq_some_iff.1 hi).1 hi hn
theorem SmallM.of {m : ModD} (h : CountM m) (h1 : ∀ x ∈ m.Sigs, x.P.length + x.R.length ≤ 60) (h2 : ∀ x ∈ m.Imports, x.Module.length + x.Name.length ≤ 100) (h3 : ∀ x ∈ m.Funcs, SmallB x.Body) (h4 : ∀ x ∈ m.Exports, x.Name.length ≤ 60) (h5 : ∀ x ∈ m.Elems, x.Funcs.length ≤ 30) (h6 : ∀ x ∈ m.Datas, x.Bytes.length ≤ 4100) : SmallM m :=
  ⟨h.sigs, h.imports, h.funcs, h.mems, h.globals, h.exports, h.elems, h.datas, h1, h2, h3, h4, h5, h6⟩
theorem great_end {x : ModD} {k : Nat} (h : ((((((CountM x ∧ ∀ y ∈ x.Sigs, ¬ (60 < y.P.length + y.R.length)) ∧ ∀ y ∈ x.Imports, ¬ (100 < y.Module.length + y.Name.length)) ∧ ∀ y ∈ x.Funcs, ¬ ¬ SmallB y.Body) ∧ ∀ y ∈ x.Exports, ¬ (60 < y.Name.length)) ∧ ∀ y ∈ x.Elems, ¬ (30 < y.Funcs.length)) ∧ NotB (fun y : DataD => 4100 < y.Bytes.length) x.Datas k))
    (hk : x.Datas.length ≤ 25 → x.Datas.length ≤ k) : SmallM x := by
  obtain ⟨⟨⟨⟨⟨⟨hC, hA⟩, hB⟩, hE⟩, hF⟩, hG⟩, hH⟩ := h
  have hH2 := hH.all (hk hC.datas)
  exact SmallM.of hC (fun y hy => by have := hA y hy; omega) (fun y hy => by have := hB y hy; omega) (fun y hy => Classical.not_not.1 (hE y hy)) (fun y hy => by have := hF y hy; omega) (fun y hy => by have := hG y hy; omega) (fun y hy => by have := hH2 y hy; omega)
/-- a module's cells, its signatures and its functions under way -/
def toCells (x : ModD) (a f : VP) : List VP := [a, sliceV 3 encImport x.Imports, f, intV .i64 x.Table, sliceV 3 encLimits x.Mems, sliceV 3 encGlobal x.Globals, sliceV 3 encExport x.Exports, intV .i64 x.Start, sliceV 2 encElem x.Elems, sliceV 3 encData x.Datas]
/-- any value -/
def anyV : VP := ⟨fun _ _ _ => True, fun _ _ _ => trivial⟩
theorem VLe.any {q : VP} : VLe q anyV := fun _ _ _ _ => trivial

/-! ### a module fits -/
structure FitsM (x : ModD) : Prop where
  sigs : sigsE x = 0
  imports : importsE x = 0
  funcs : funcsE x = 0
  table : tableE x = 0
  mems : memsE x = 0
  globals : globalsE x = 0
  exports : exportsE x = 0
  start : startE x = 0
  elems : elemsE x = 0
  datas : datasE x = 0
theorem many_ok {α : Type} {xs : List α} {most : Int} {f : α → Int} {k : Nat} (h : (xs.length : Int) ≤ most) (hn : NotB (fun z => f z ≠ 0) xs k) (hk : xs.length ≤ k) : manyE xs.length most (onI xs f) = 0 :=
  manyE_zero.2 ⟨h, firstE_on.2 fun z hz => Classical.not_not.1 (hn.all hk z hz)⟩
theorem first_ok {α : Type} {xs : List α} {f : α → Int} {k : Nat} (hn : NotB (fun z => f z ≠ 0) xs k) (hk : xs.length ≤ k) : firstE (onI xs f) xs.length = 0 := firstE_on.2 fun z hz => Classical.not_not.1 (hn.all hk z hz)
theorem sigE_ok {s : SigD} (h : TypedP s.P ∧ TypedP s.R) : sigE s = 0 := (whenE_eq (by decide)).2 (not_not_intro h)
theorem importE_ok {m : ModD} {x : ImportD} (h1 : NamedP x.Module ∧ NamedP x.Name) (h2 : InP x.Sig m.Sigs.length) : importE m x = 0 := by
  unfold importE; rw [if_neg (by simp [h1])]; exact (whenE_eq (by decide)).2 (not_not_intro h2)
theorem funcE_ok {m : ModD} {x : FuncD} (h2 : InP x.Sig m.Sigs.length) : funcE m x = 0 := (whenE_eq (by decide)).2 (not_not_intro h2)
theorem funcs_ok {m : ModD} {k : Nat} (h : (m.Imports.length : Int) + (m.Funcs.length : Int) ≤ 100) (hn : NotB (fun z => funcE m z ≠ 0) m.Funcs k) (hk : m.Funcs.length ≤ k) : funcsE m = 0 := by
  unfold funcsE countM; rw [if_neg (by omega)]; exact first_ok hn hk
theorem tableE_ok {m : ModD} (h : -1 ≤ m.Table) (h2 : m.Table ≤ 1000) : tableE m = 0 := by
  unfold tableE; rw [if_neg (by omega)]; exact (whenE_eq (by decide)).2 (by omega)
theorem memE_ok {x : LimitsD} (h : 0 ≤ x.Min ∧ x.Min ≤ 65536 ∧ (x.Max < 0 ∨ x.Min ≤ x.Max ∧ x.Max ≤ 65536)) : memE x = 0 := (whenE_eq (by decide)).2 (not_not_intro h)
theorem globalE_ok {x : GlobalD} (h : (x.Ty.toNat : Int) = 126 ∨ (x.Ty.toNat : Int) = 127 ∧ x.Value ≤ 4294967295) : globalE x = 0 := by
  refine (whenE_eq (by decide)).2 fun h' => ?_
  rcases h' with h' | h'
  · rw [bitsI_zero] at h'
    apply h'
    rcases h with h | h
    · exact .inl (UInt8.toNat_inj.1 (by simpa using (by omega : x.Ty.toNat = 126)))
    · exact .inr (UInt8.toNat_inj.1 (by simpa using (by omega : x.Ty.toNat = 127)))
  · omega
theorem exportE_ok {m : ModD} {i : Nat} {x : ExportD} (hx : m.Exports[i]? = some x) (h1 : NamedP x.Name) (h2 : NotB (fun z : ExportD => z.Name = x.Name) m.Exports i) (ht : -1 ≤ m.Table) (ht2 : m.Table ≤ 1000)
    (h3 : x.Kind = 0 ∧ InP x.Index (countM m) ∨ (x.Kind = 1 ∧ 0 ≤ m.Table) ∧ x.Index = 0 ∨ x.Kind = 2 ∧ InP x.Index m.Mems.length ∨ x.Kind = 3 ∧ InP x.Index m.Globals.length) : exportE m i = 0 := by
  rw [exportE_rest hx]
  · refine (whenE_eq (by decide)).2 fun h => ?_
    have k0 : kindJ 0 = 0 := by decide
    have k1 : kindJ 1 = 1 := by decide
    have k2 : kindJ 2 = 2 := by decide
    have k3 : kindJ 3 = 3 := by decide
    unfold InP at h h3
    rcases h3 with ⟨h4, h5⟩ | ⟨⟨h4, h5⟩, h6⟩ | ⟨h4, h5⟩ | ⟨h4, h5⟩
    · rw [h4, k0] at h; simp only [cnt] at h; omega
    · rw [h4, k1] at h
      have hw : IntKind.i64.wrap (m.Table + 1) = m.Table + 1 := by unfold IntKind.wrap; simp [IntKind.signed, IntKind.bits]; omega
      simp only [cnt, hw] at h; omega
    · rw [h4, k2] at h; simp only [cnt] at h; omega
    · rw [h4, k3] at h; simp only [cnt] at h; omega
  · rintro (h | ⟨y, hy, he⟩)
    · exact h h1
    · obtain ⟨j, hj⟩ := List.mem_iff_getElem?.1 hy
      rw [List.getElem?_take] at hj
      split at hj
      · rename_i hlt; exact h2 j y hlt hj he
      · cases hj
theorem exports_ok {m : ModD} {k : Nat} (h : (m.Exports.length : Int) ≤ 50) (hn : ∀ j, j < k → exportE m j = 0) (hk : m.Exports.length ≤ k) : exportsE m = 0 := manyE_zero.2 ⟨h, firstE_zero.2 fun i hi => hn i (by omega)⟩
theorem InP.at {n : Int} {k : Nat} (h : InP n k) : n.toNat < k ∧ n = (n.toNat : Int) := by unfold InP at h; omega
/-- the signature of a function -/
theorem sig_found {m : ModD} {f : Int} (hf : InP f (countM m)) (h1 : ∀ z ∈ m.Imports, importE m z = 0) (h2 : ∀ z ∈ m.Funcs, funcE m z = 0) : ∃ s, sigO m f = some s := by
  have hf' := hf
  unfold InP countM at hf'
  unfold sigO numberO
  rw [if_neg (by unfold countM; omega)]
  have key : ∀ n : Int, InP n m.Sigs.length → ∃ s, (match some n with | none => none | some n => if 0 ≤ n then m.Sigs[n.toNat]? else none) = some s := fun n hn => by
    obtain ⟨h3, h4⟩ := hn.at
    simp only
    rw [if_pos (by omega)]
    exact ⟨_, List.getElem?_eq_getElem h3⟩
  by_cases hlt : f < (m.Imports.length : Int)
  · rw [if_pos hlt]
    have hl : f.toNat < m.Imports.length := by omega
    rw [List.getElem?_eq_getElem hl]
    refine key _ ?_
    have := h1 _ (List.getElem_mem hl)
    unfold importE at this
    split at this
    · cases this
    · exact Classical.not_not.1 ((whenE_eq (by decide)).1 this)
  · rw [if_neg hlt]
    have hl : (f - (m.Imports.length : Int)).toNat < m.Funcs.length := by omega
    rw [List.getElem?_eq_getElem hl]
    refine key _ ?_
    have := h2 _ (List.getElem_mem hl)
    exact Classical.not_not.1 ((whenE_eq (by decide)).1 this)
theorem sig_import {m : ModD} {f : Int} {s : SigD} (h : sigO m f = some s) (hf : f < (m.Imports.length : Int)) : ∃ x : ImportD, m.Imports[f.toNat]? = some x ∧ m.Sigs[x.Sig.toNat]? = some s ∧ f = (f.toNat : Int) ∧ x.Sig = (x.Sig.toNat : Int) := by
  unfold sigO numberO at h
  split at h
  · cases h
  · rename_i n hn
    split at hn
    · cases hn
    · rename_i hc
      cases hx : m.Imports[f.toNat]? with
      | none => rw [hx] at hn; cases hn
      | some x =>
        rw [hx] at hn; cases hn
        split at h
        · rename_i h0; exact ⟨x, rfl, h, by omega, by have h1 : 0 ≤ x.Sig := h0; omega⟩
        · cases h
theorem sig_func {m : ModD} {f : Int} {s : SigD} (h : sigO m f = some s) (hf : ¬ f < (m.Imports.length : Int)) : ∃ x : FuncD, m.Funcs[(f - (m.Imports.length : Int)).toNat]? = some x ∧ m.Sigs[x.Sig.toNat]? = some s ∧ f - (m.Imports.length : Int) = ((f - (m.Imports.length : Int)).toNat : Int) ∧ x.Sig = (x.Sig.toNat : Int) ∧ f < countM m := by
  unfold sigO numberO at h
  split at h
  · cases h
  · rename_i n hn
    split at hn
    · cases hn
    · rename_i hc
      cases hx : m.Funcs[(f - (m.Imports.length : Int)).toNat]? with
      | none => rw [hx] at hn; cases hn
      | some x =>
        rw [hx] at hn; cases hn
        split at h
        · rename_i h0; exact ⟨x, rfl, h, by omega, by have h1 : 0 ≤ x.Sig := h0; omega, by omega⟩
        · cases h
theorem startE_no {m : ModD} (h : m.Start = -1) : startE m = 0 := by unfold startE; rw [if_pos h]
theorem startE_ok {m : ModD} {s : SigD} (h : sigO m m.Start = some s) (h2 : ¬ 0 < (s.P.length : Int) + (s.R.length : Int)) : startE m = 0 := by
  unfold startE; split
  · rfl
  · rw [h]; exact (whenE_eq (by decide)).2 h2
theorem elemE_ok {m : ModD} {x : ElemD} {k : Nat} (h : (x.Funcs.length : Int) ≤ 20) (h1 : 0 ≤ m.Table) (h2 : x.At ≤ 4294967295) (h3 : NotB (fun z : Int => ¬ InP z (countM m)) x.Funcs k) (hk : x.Funcs.length ≤ k) : elemE m x = 0 := by
  unfold elemE; rw [if_neg (by omega)]
  refine (whenE_eq (by decide)).2 ?_
  rintro (h4 | ⟨f, hf, h5⟩ | h6)
  · omega
  · exact h3.all hk f hf h5
  · omega
theorem dataE_ok {m : ModD} {x : DataD} {y : LimitsD} (h : (x.Bytes.length : Int) ≤ 4096) (h1 : InP x.Mem m.Mems.length) (hy : m.Mems[x.Mem.toNat]? = some y) (h2 : ¬ (¬ y.Wide ∧ 4294967295 < x.At)) : dataE m x = 0 := by
  unfold dataE; rw [if_neg (by omega)]
  refine (whenE_eq (by decide)).2 ?_
  rintro (h4 | ⟨z, hz, h5⟩)
  · exact h4 h1
  · rw [hy] at hz; cases hz; exact h2 h5
theorem NotB.zero_at {α : Type} {f : α → Int} {xs : List α} {k : Nat} (hn : NotB (fun z => f z ≠ 0) xs k) (hk : xs.length ≤ k) : ∀ z ∈ xs, f z = 0 := fun z hz => Classical.not_not.1 (hn.all hk z hz)
theorem or4 {a b c d : Prop} (h : ((a ∨ b) ∨ c) ∨ d) : a ∨ b ∨ c ∨ d := by simpa [or_assoc] using h
theorem sig_mem {m : ModD} {f : Int} {s : SigD} (h : sigO m f = some s) : s ∈ m.Sigs := by
  unfold sigO at h
  split at h
  · cases h
  · split at h
    · exact List.mem_of_getElem? h
    · cases h
theorem funcs_each {m : ModD} (h : funcsE m = 0) : ∀ z ∈ m.Funcs, funcE m z = 0 := by
  unfold funcsE at h
  split at h
  · cases h
  · exact firstE_on.1 h
theorem sig_iff {m : ModD} {f : Int} (h1 : ∀ z ∈ m.Imports, importE m z = 0) (h2 : ∀ z ∈ m.Funcs, funcE m z = 0) : (sigO m f).isSome = true ↔ InP f (countM m) := by
  constructor
  · intro h
    obtain ⟨s, hs⟩ := Option.isSome_iff_exists.1 h
    unfold sigO numberO at hs
    unfold InP
    by_cases hc : f < 0 ∨ countM m ≤ f
    · rw [if_pos hc] at hs; cases hs
    · omega
  · intro h
    obtain ⟨s, hs⟩ := sig_found h h1 h2
    rw [hs]; rfl
end Go.Hl
