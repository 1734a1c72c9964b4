/-
  What the statement's proof leans on, several texts in one (packed by a program).
-/
import Derived.Test.YtpahnbgfmhcndaaGreatDoorBMJ
set_option linter.all false
set_option maxRecDepth 1000000
set_option maxHeartbeats 4000000
section
namespace Go.Hl
def lenU (n : Nat) : Nat := if n < 128 then 1 else lenU (n / 128) + 1
termination_by n
decreasing_by omega
def lenS (n : Int) : Nat := if -64 ≤ n ∧ n < 64 then 1 else lenS (n / 128) + 1
termination_by n.natAbs
decreasing_by omega
theorem lenS_pos (n : Int) : 0 < lenS n := by unfold lenS; split <;> omega
variable {n : Nat}
theorem lenU_lt (h : n < 128) : lenU n = 1 := by unfold lenU; simp [h]
theorem lenU_ge (h : 128 ≤ n) : lenU n = lenU (n / 128) + 1 := by rw [lenU]; simp [Nat.not_lt.2 h]
theorem lenS_in {n : Int} (h : -64 ≤ n ∧ n < 64) : lenS n = 1 := by unfold lenS; simp [h]
theorem lenS_out {n : Int} (h : ¬ (-64 ≤ n ∧ n < 64)) : lenS n = lenS (n / 128) + 1 := by rw [lenS]; simp [h]
theorem lenU_le : ∀ (k n : Nat), n < 128 ^ (k + 1) → lenU n ≤ k + 1 := by
 intro k
 induction k with
 | zero => intro n h; rw [lenU_lt (by simpa using h)]; omega
 | succ k ih =>
  intro n h
  by_cases h1 : n < 128
  · rw [lenU_lt h1]; omega
  · rw [lenU_ge (by omega)]
    have := ih (n / 128) (by rw [Nat.div_lt_iff_lt_mul (by omega)]; rw [← Nat.pow_succ]; exact h)
    omega
theorem lenU_64 (h : n < 18446744073709551616) : lenU n ≤ 10 := lenU_le 9 n (Nat.lt_of_lt_of_le h (by decide))
theorem lenS_le : ∀ (k : Nat) (n : Int), -(64 * 128 ^ k : Int) ≤ n → n < 64 * 128 ^ k → lenS n ≤ k + 1 := by
 intro k
 induction k with
 | zero => intro n h1 h2; rw [lenS_in (by omega)]; omega
 | succ k ih =>
  intro n h1 h2
  by_cases h : -64 ≤ n ∧ n < 64
  · rw [lenS_in h]; omega
  · rw [lenS_out h]
    have e : (64 * 128 ^ (k + 1) : Int) = (64 * 128 ^ k) * 128 := by rw [Int.pow_succ]; omega
    rw [e] at h1 h2
    have := ih (n / 128) (by omega) (by omega)
    omega
theorem lenS_64 {n : Int} (h1 : -9223372036854775808 ≤ n) (h2 : n < 9223372036854775808) : lenS n ≤ 10 := lenS_le 9 n (by omega) (by omega)
def btL (m : Nat) : Nat := if m = 0 then 0 else Nat.log2 m + 1
theorem btL_div (m : Nat) (h : 128 ≤ m) : btL m = btL (m / 128) + 7 := by
 have h0 : m / 128 ≠ 0 := by omega
 simp only [btL, h0, if_false, show m ≠ 0 by omega]
 have e : m / 128 = m / 2 / 2 / 2 / 2 / 2 / 2 / 2 := by simp [Nat.div_div_eq_div_mul]
 have l : ∀ k : Nat, 2 ≤ k → Nat.log2 k = Nat.log2 (k / 2) + 1 := fun k hk => by rw [Nat.log2_def]; simp [hk]
 rw [e, l m (by omega), l (m / 2) (by omega), l (m / 2 / 2) (by omega), l (m / 2 / 2 / 2) (by omega), l (m / 2 / 2 / 2 / 2) (by omega), l (m / 2 / 2 / 2 / 2 / 2) (by omega), l (m / 2 / 2 / 2 / 2 / 2 / 2) (by omega)]
variable {k : Nat}
theorem btL_lt {m : Nat} (h : m < 2 ^ k) : btL m ≤ k := by
 unfold btL; split
 · omega
 · rename_i h0; have := (Nat.log2_lt h0).2 h; omega
theorem btL_ge {m : Nat} (h : 2 ^ k ≤ m) : k < btL m := by
 unfold btL
 have h0 : m ≠ 0 := by have := Nat.two_pow_pos k; omega
 rw [if_neg h0]
 have := (Nat.le_log2 h0).2 h; omega
theorem lenS_bits : ∀ (k : Nat) (n : Int), n.natAbs ≤ k → lenS n = (btL (if n < 0 then (-n - 1).toNat else n.toNat) + 7) / 7 := by
  intro k
  induction k with
  | zero => intro n h; have : n = 0 := by omega
            subst this; rw [lenS_in (by omega)]; simp [btL]
  | succ k ih =>
    intro n h
    generalize hm : (if n < 0 then (-n - 1).toNat else n.toNat) = m
    by_cases h1 : -64 ≤ n ∧ n < 64
    · rw [lenS_in h1]; have := btL_lt (m := m) (k := 6) (by split at hm <;> omega); omega
    · rw [lenS_out h1, ih (n / 128) (by omega)]
      have e : (if n / 128 < 0 then (-(n / 128) - 1).toNat else (n / 128).toNat) = m / 128 := by split at hm <;> split <;> omega
      rw [e]
      by_cases h2 : 128 ≤ m
      · rw [btL_div m h2]; omega
      · have h3 : m / 128 = 0 := by omega
        have a := btL_lt (m := m) (k := 7) (by omega)
        have b := btL_ge (m := m) (k := 6) (by split at hm <;> omega)
        rw [h3]; simp only [btL, if_true]
        simp only [btL] at a b
        omega
def sml (n : Int) : Prop := n ≤ 4294967295
def rightI (x : InstrD) : Prop :=
 nameR x.Code ≠ [] ∧ ¬ (formR x.Code ≠ 11 ∧ ¬ sml x.A ∨ x.Code = 65 ∧ ¬ sml x.A ∨ formR x.Code ≠ 8 ∧ ¬ sml x.B) ∧
 ¬ (formR x.Code = 0 ∧ x.A ≠ 0 ∨ formR x.Code = 1 ∧ x.A ≠ 64 ∧ x.A ≠ 126 ∧ x.A ≠ 127) ∧
 ¬ (formR x.Code ≠ 5 ∧ formR x.Code ≠ 8 ∧ formR x.Code ≠ 10 ∧ x.B ≠ 0 ∨ formR x.Code ≠ 8 ∧ x.Align ≠ 0 ∨ x.Align < 0 ∨ 31 < x.Align) ∧
 (∀ n ∈ x.L, sml n) ∧ (x.L = [] ∨ formR x.Code = 3 ∧ x.L.length ≤ 100)
def lenUI (n : Int) : Nat := lenU n.toNat
def lenI (x : InstrD) : Nat :=
 (if 64512 ≤ x.Code then 1 + lenUI (x.Code - 64512) else 1) +
 (if formR x.Code = 1 then 1
  else if formR x.Code = 2 ∨ formR x.Code = 4 ∨ formR x.Code = 6 ∨ formR x.Code = 7 ∨ formR x.Code = 9 then lenUI x.A
  else if formR x.Code = 3 then lenU x.L.length + (x.L.map lenUI).sum + lenUI x.A
  else if formR x.Code = 5 ∨ formR x.Code = 10 then lenUI x.A + lenUI x.B
  else if formR x.Code = 8 then (if x.A = 0 then lenUI x.Align else lenUI (x.Align + 64) + lenUI x.A) + lenUI x.B
  else if formR x.Code = 11 then lenS (if x.Code = 65 then (if x.A < 2147483648 then x.A else x.A - 4294967296) else (if x.A < 9223372036854775808 then x.A else x.A - 18446744073709551616))
  else 0)
def runsB : List UInt8 → List Nat
 | [] => []
 | t :: l => match l, runsB l with
  | t' :: _, n :: r => if t' = t then (n + 1) :: r else 1 :: n :: r
  | _, _ => [1]
def lenB (b : BodyD) : Nat := lenU (runsB b.Locals).length + ((runsB b.Locals).map fun n => lenU n + 1).sum + (b.L.map lenI).sum
def encBd (b : BodyD) : Prop :=
 (∀ x ∈ b.L, rightI x) ∧ (∀ t ∈ b.Locals, t = 126 ∨ t = 127) ∧ b.Locals.length ≤ 50 ∧ nrun (b.L.map (·.Code)) [] ∧ lenB b ≤ 4096
variable {S : BS} {w : World} {v : Value}
theorem aggV_at {cs : List VP} (h : (aggV cs).p S w v) (j : Nat) {q : VP} (hj : cs[j]? = some q) : ∃ u, q.p S w u := by
 obtain ⟨arr, _, _, hc⟩ := h
 obtain ⟨u, _, hq⟩ := hc j _ hj
 exact ⟨u, hq⟩
variable {α : Type} {xs : List α}
theorem sliceV_mem {enc : α → List VP} (h : (sliceV n enc xs).p S w v) {x : α} (hx : x ∈ xs) (j : Nat) {q : VP} (hj : (enc x)[j]? = some q) : ∃ u, q.p S w u := by
 obtain ⟨a, cap, _, hc, _, he⟩ := h
 obtain ⟨i, hi⟩ := List.mem_iff_getElem?.1 hx
 have hil : i < xs.length := (List.getElem?_eq_some_iff.1 hi).1
 cases a with
 | none => have : cap = 0 := he; omega
 | some ad =>
  obtain ⟨_, _, hel⟩ := he (by omega)
  obtain ⟨u, _, hq⟩ := hel i x hi j q hj
  exact ⟨u, hq⟩
structure BodyLens (b : BodyD) : Prop where
 locals : b.Locals.length ≤ 281474976710656
 l : b.L.length ≤ 281474976710656
 all : ∀ (i : Nat) x, b.L[i]? = some x → x.L.length ≤ 281474976710656
variable {b : BodyD}
theorem bodyLens (h : (aggV (encBody b)).p S w v) : BodyLens b :=
 ⟨aggV_len h 0 rfl, aggV_len h 1 rfl, fun i x hx => by
  obtain ⟨u, hu⟩ := aggV_at h 1 rfl
  obtain ⟨u', hu'⟩ := sliceV_mem hu (List.mem_of_getElem? hx) 4 rfl
  exact sliceV_len hu'⟩
structure SmallB (b : BodyD) : Prop where
 locals : b.Locals.length ≤ 60
 l : b.L.length ≤ 150
 all : ∀ x ∈ b.L, x.L.length ≤ 110
structure ModIn (m : ModD) : Prop where
 sigs : ∀ (i : Nat) x, m.Sigs[i]? = some x → x.P.length ≤ 281474976710656 ∧ x.R.length ≤ 281474976710656
 imports : ∀ (i : Nat) x, m.Imports[i]? = some x → x.Module.length ≤ 281474976710656 ∧ x.Name.length ≤ 281474976710656
 exports : ∀ (i : Nat) x, m.Exports[i]? = some x → x.Name.length ≤ 281474976710656
 elems : ∀ (i : Nat) x, m.Elems[i]? = some x → x.Funcs.length ≤ 281474976710656
 datas : ∀ (i : Nat) x, m.Datas[i]? = some x → x.Bytes.length ≤ 281474976710656
variable {m : ModD}
theorem modIn (h : (aggV (encMod m)).p S w v) : ModIn m where
 sigs i x hx := by
  obtain ⟨u, hu⟩ := aggV_at h 0 rfl
  obtain ⟨_, h1⟩ := sliceV_mem hu (List.mem_of_getElem? hx) 0 rfl
  obtain ⟨_, h2⟩ := sliceV_mem hu (List.mem_of_getElem? hx) 1 rfl
  exact ⟨sliceV_len h1, sliceV_len h2⟩
 imports i x hx := by
  obtain ⟨u, hu⟩ := aggV_at h 1 rfl
  obtain ⟨_, h1⟩ := sliceV_mem hu (List.mem_of_getElem? hx) 0 rfl
  obtain ⟨_, h2⟩ := sliceV_mem hu (List.mem_of_getElem? hx) 1 rfl
  exact ⟨strV_len h1, strV_len h2⟩
 exports i x hx := by
  obtain ⟨u, hu⟩ := aggV_at h 6 rfl
  obtain ⟨_, h1⟩ := sliceV_mem hu (List.mem_of_getElem? hx) 0 rfl
  exact strV_len h1
 elems i x hx := by
  obtain ⟨u, hu⟩ := aggV_at h 8 rfl
  obtain ⟨_, h1⟩ := sliceV_mem hu (List.mem_of_getElem? hx) 1 rfl
  exact sliceV_len h1
 datas i x hx := by
  obtain ⟨u, hu⟩ := aggV_at h 9 rfl
  obtain ⟨_, h1⟩ := sliceV_mem hu (List.mem_of_getElem? hx) 2 rfl
  exact sliceV_len h1
structure SmallM (m : ModD) : Prop where
 sigs : m.Sigs.length ≤ 60
 imports : m.Imports.length ≤ 25
 funcs : m.Funcs.length ≤ 110
 mems : m.Mems.length ≤ 8
 globals : m.Globals.length ≤ 60
 exports : m.Exports.length ≤ 60
 elems : m.Elems.length ≤ 25
 datas : m.Datas.length ≤ 25
 sig : ∀ x ∈ m.Sigs, x.P.length + x.R.length ≤ 60
 imp : ∀ x ∈ m.Imports, x.Module.length + x.Name.length ≤ 100
 fn : ∀ x ∈ m.Funcs, SmallB x.Body
 exp : ∀ x ∈ m.Exports, x.Name.length ≤ 60
 elem : ∀ x ∈ m.Elems, x.Funcs.length ≤ 30
 data : ∀ x ∈ m.Datas, x.Bytes.length ≤ 4100
def toCells (x : ModD) (a f : VP) : List VP := [a, sliceV 3 encImport x.Imports, f, intV .i64 x.Table, sliceV 3 encLimits x.Mems, sliceV 3 encGlobal x.Globals, sliceV 3 encExport x.Exports, intV .i64 x.Start, sliceV 2 encElem x.Elems, sliceV 3 encData x.Datas]
structure FitsM (x : ModD) : Prop where
 sigs : sigsE x = 0
 imports : importsE x = 0
 funcs : funcsE x = 0
 table : tableE x = 0
 mems : memsE x = 0
 globals : globalsE x = 0
 exports : exportsE x = 0
 start : startE x = 0
 elems : elemsE x = 0
 datas : datasE x = 0
theorem many_ok {most : Int} {f : α → Int} (h : (xs.length : Int) ≤ most) (hn : NotB (fun z => f z ≠ 0) xs k) (hk : xs.length ≤ k) : manyE xs.length most (onI xs f) = 0 :=
 manyE_zero.2 ⟨h, firstE_on.2 fun z hz => Classical.not_not.1 (hn.all hk z hz)⟩
theorem first_ok {f : α → Int} (hn : NotB (fun z => f z ≠ 0) xs k) (hk : xs.length ≤ k) : firstE (onI xs f) xs.length = 0 := firstE_on.2 fun z hz => Classical.not_not.1 (hn.all hk z hz)
variable {s : SigD}
theorem sigE_ok (h : TypedP s.P ∧ TypedP s.R) : sigE s = 0 := (whenE_eq (by decide)).2 (not_not_intro h)
theorem importE_ok {x : ImportD} (h1 : NamedP x.Module ∧ NamedP x.Name) (h2 : InP x.Sig m.Sigs.length) : importE m x = 0 := by
 unfold importE; rw [if_neg (by simp [h1])]; exact (whenE_eq (by decide)).2 (not_not_intro h2)
theorem funcE_ok {x : FuncD} (h2 : InP x.Sig m.Sigs.length) : funcE m x = 0 := (whenE_eq (by decide)).2 (not_not_intro h2)
theorem funcs_ok (h : (m.Imports.length : Int) + (m.Funcs.length : Int) ≤ 100) (hn : NotB (fun z => funcE m z ≠ 0) m.Funcs k) (hk : m.Funcs.length ≤ k) : funcsE m = 0 := by
 unfold funcsE countM; rw [if_neg (by omega)]; exact first_ok hn hk
theorem tableE_ok (h : -1 ≤ m.Table) (h2 : m.Table ≤ 1000) : tableE m = 0 := by
 unfold tableE; rw [if_neg (by omega)]; exact (whenE_eq (by decide)).2 (by omega)
theorem memE_ok {x : LimitsD} (h : 0 ≤ x.Min ∧ x.Min ≤ 65536 ∧ (x.Max < 0 ∨ x.Min ≤ x.Max ∧ x.Max ≤ 65536)) : memE x = 0 := (whenE_eq (by decide)).2 (not_not_intro h)
theorem globalE_ok {x : GlobalD} (h : (x.Ty.toNat : Int) = 126 ∨ (x.Ty.toNat : Int) = 127 ∧ x.Value ≤ 4294967295) : globalE x = 0 := by
 refine (whenE_eq (by decide)).2 fun h' => ?_
 rcases h' with h' | h'
 · rw [bitsI_zero] at h'
   apply h'
   rcases h with h | h
   · exact .inl (UInt8.toNat_inj.1 (by simpa using (by omega : x.Ty.toNat = 126)))
   · exact .inr (UInt8.toNat_inj.1 (by simpa using (by omega : x.Ty.toNat = 127)))
 · omega
theorem exportE_ok {i : Nat} {x : ExportD} (hx : m.Exports[i]? = some x) (h1 : NamedP x.Name) (h2 : NotB (fun z : ExportD => z.Name = x.Name) m.Exports i) (ht : -1 ≤ m.Table) (ht2 : m.Table ≤ 1000)
    (h3 : x.Kind = 0 ∧ InP x.Index (countM m) ∨ (x.Kind = 1 ∧ 0 ≤ m.Table) ∧ x.Index = 0 ∨ x.Kind = 2 ∧ InP x.Index m.Mems.length ∨ x.Kind = 3 ∧ InP x.Index m.Globals.length) : exportE m i = 0 := by
  rw [exportE_rest hx]
  · refine (whenE_eq (by decide)).2 fun h => ?_
    have k0 : kindJ 0 = 0 := by decide
    have k1 : kindJ 1 = 1 := by decide
    have k2 : kindJ 2 = 2 := by decide
    have k3 : kindJ 3 = 3 := by decide
    unfold InP at h h3
    rcases h3 with ⟨h4, h5⟩ | ⟨⟨h4, h5⟩, h6⟩ | ⟨h4, h5⟩ | ⟨h4, h5⟩
    · rw [h4, k0] at h; simp only [cnt] at h; omega
    · rw [h4, k1] at h
      have hw : IntKind.i64.wrap (m.Table + 1) = m.Table + 1 := by unfold IntKind.wrap; simp [IntKind.signed, IntKind.bits]; omega
      simp only [cnt, hw] at h; omega
    · rw [h4, k2] at h; simp only [cnt] at h; omega
    · rw [h4, k3] at h; simp only [cnt] at h; omega
  · rintro (h | ⟨y, hy, he⟩)
    · exact h h1
    · obtain ⟨j, hj⟩ := List.mem_iff_getElem?.1 hy
      rw [List.getElem?_take] at hj
      split at hj
      · rename_i hlt; exact h2 j y hlt hj he
      · cases hj
theorem exports_ok (h : (m.Exports.length : Int) ≤ 50) (hn : ∀ j, j < k → exportE m j = 0) (hk : m.Exports.length ≤ k) : exportsE m = 0 := manyE_zero.2 ⟨h, firstE_zero.2 fun i hi => hn i (by omega)⟩
theorem InP.at {n : Int} {k : Nat} (h : InP n k) : n.toNat < k ∧ n = (n.toNat : Int) := by unfold InP at h; omega
variable {f : Int}
theorem sig_found (hf : InP f (countM m)) (h1 : ∀ z ∈ m.Imports, importE m z = 0) (h2 : ∀ z ∈ m.Funcs, funcE m z = 0) : ∃ s, sigO m f = some s := by
 have hf' := hf
 unfold InP countM at hf'
 unfold sigO numberO
 rw [if_neg (by unfold countM; omega)]
 have key : ∀ n : Int, InP n m.Sigs.length → ∃ s, (match some n with | none => none | some n => if 0 ≤ n then m.Sigs[n.toNat]? else none) = some s := fun n hn => by
  obtain ⟨h3, h4⟩ := hn.at
  simp only
  rw [if_pos (by omega)]
  exact ⟨_, List.getElem?_eq_getElem h3⟩
 by_cases hlt : f < (m.Imports.length : Int)
 · rw [if_pos hlt]
   have hl : f.toNat < m.Imports.length := by omega
   rw [List.getElem?_eq_getElem hl]
   refine key _ ?_
   have := h1 _ (List.getElem_mem hl)
   unfold importE at this
   split at this
   · cases this
   · exact Classical.not_not.1 ((whenE_eq (by decide)).1 this)
 · rw [if_neg hlt]
   have hl : (f - (m.Imports.length : Int)).toNat < m.Funcs.length := by omega
   rw [List.getElem?_eq_getElem hl]
   refine key _ ?_
   have := h2 _ (List.getElem_mem hl)
   exact Classical.not_not.1 ((whenE_eq (by decide)).1 this)
theorem sig_import (h : sigO m f = some s) (hf : f < (m.Imports.length : Int)) : ∃ x : ImportD, m.Imports[f.toNat]? = some x ∧ m.Sigs[x.Sig.toNat]? = some s ∧ f = (f.toNat : Int) ∧ x.Sig = (x.Sig.toNat : Int) := by
 unfold sigO numberO at h
 split at h
 · cases h
 · rename_i n hn
   split at hn
   · cases hn
   · rename_i hc
     cases hx : m.Imports[f.toNat]? with
     | none => rw [hx] at hn; cases hn
     | some x =>
      rw [hx] at hn; cases hn
      split at h
      · rename_i h0; exact ⟨x, rfl, h, by omega, by have h1 : 0 ≤ x.Sig := h0; omega⟩
      · cases h
theorem sig_func (h : sigO m f = some s) (hf : ¬ f < (m.Imports.length : Int)) : ∃ x : FuncD, m.Funcs[(f - (m.Imports.length : Int)).toNat]? = some x ∧ m.Sigs[x.Sig.toNat]? = some s ∧ f - (m.Imports.length : Int) = ((f - (m.Imports.length : Int)).toNat : Int) ∧ x.Sig = (x.Sig.toNat : Int) ∧ f < countM m := by
 unfold sigO numberO at h
 split at h
 · cases h
 · rename_i n hn
   split at hn
   · cases hn
   · rename_i hc
     cases hx : m.Funcs[(f - (m.Imports.length : Int)).toNat]? with
     | none => rw [hx] at hn; cases hn
     | some x =>
      rw [hx] at hn; cases hn
      split at h
      · rename_i h0; exact ⟨x, rfl, h, by omega, by have h1 : 0 ≤ x.Sig := h0; omega, by omega⟩
      · cases h
theorem startE_no (h : m.Start = -1) : startE m = 0 := by unfold startE; rw [if_pos h]
theorem startE_ok (h : sigO m m.Start = some s) (h2 : ¬ 0 < (s.P.length : Int) + (s.R.length : Int)) : startE m = 0 := by
 unfold startE; split
 · rfl
 · rw [h]; exact (whenE_eq (by decide)).2 h2
theorem elemE_ok {x : ElemD} (h : (x.Funcs.length : Int) ≤ 20) (h1 : 0 ≤ m.Table) (h2 : x.At ≤ 4294967295) (h3 : NotB (fun z : Int => ¬ InP z (countM m)) x.Funcs k) (hk : x.Funcs.length ≤ k) : elemE m x = 0 := by
 unfold elemE; rw [if_neg (by omega)]
 refine (whenE_eq (by decide)).2 ?_
 rintro (h4 | ⟨f, hf, h5⟩ | h6)
 · omega
 · exact h3.all hk f hf h5
 · omega
theorem dataE_ok {x : DataD} {y : LimitsD} (h : (x.Bytes.length : Int) ≤ 4096) (h1 : InP x.Mem m.Mems.length) (hy : m.Mems[x.Mem.toNat]? = some y) (h2 : ¬ (¬ y.Wide ∧ 4294967295 < x.At)) : dataE m x = 0 := by
 unfold dataE; rw [if_neg (by omega)]
 refine (whenE_eq (by decide)).2 ?_
 rintro (h4 | ⟨z, hz, h5⟩)
 · exact h4 h1
 · rw [hy] at hz; cases hz; exact h2 h5
theorem NotB.zero_at {f : α → Int} (hn : NotB (fun z => f z ≠ 0) xs k) (hk : xs.length ≤ k) : ∀ z ∈ xs, f z = 0 := fun z hz => Classical.not_not.1 (hn.all hk z hz)
theorem or4 {a b c d : Prop} (h : ((a ∨ b) ∨ c) ∨ d) : a ∨ b ∨ c ∨ d := by simpa [or_assoc] using h
theorem sig_mem (h : sigO m f = some s) : s ∈ m.Sigs := by
 unfold sigO at h
 split at h
 · cases h
 · split at h
   · exact List.mem_of_getElem? h
   · cases h
theorem funcs_each (h : funcsE m = 0) : ∀ z ∈ m.Funcs, funcE m z = 0 := by
 unfold funcsE at h
 split at h
 · cases h
 · exact firstE_on.1 h
theorem sig_iff (h1 : ∀ z ∈ m.Imports, importE m z = 0) (h2 : ∀ z ∈ m.Funcs, funcE m z = 0) : (sigO m f).isSome = true ↔ InP f (countM m) := by
 constructor
 · intro h
   obtain ⟨s, hs⟩ := Option.isSome_iff_exists.1 h
   unfold sigO numberO at hs
   unfold InP
   by_cases hc : f < 0 ∨ countM m ≤ f
   · rw [if_pos hc] at hs; cases hs
   · omega
 · intro h
   obtain ⟨s, hs⟩ := sig_found h h1 h2
   rw [hs]; rfl
def sumN (f : Nat → Int) : Nat → Int
 | 0 => 0
 | n + 1 => sumN f n + f n
theorem sumN_le {f : Nat → Int} {C : Int} (h : ∀ i, 0 ≤ f i ∧ f i ≤ C) : ∀ n : Nat, 0 ≤ sumN f n ∧ sumN f n ≤ n * C
 | 0 => by simp [sumN]
 | n + 1 => by
  have h1 := sumN_le h n
  have h2 := h n
  simp only [sumN]
  refine ⟨by omega, ?_⟩
  have : ((n + 1 : Nat) : Int) * C = n * C + C := by rw [Int.natCast_add, Int.add_mul]; simp
  omega
theorem sumN_zero {f : Nat → Int} (h : ∀ i, 0 ≤ f i) : ∀ {n : Nat}, sumN f n ≤ 0 → ∀ i, i < n → f i ≤ 0
 | 0, _, i, hi => by omega
 | n + 1, hs, i, hi => by
  have h0 : ∀ k : Nat, 0 ≤ sumN f k := fun k => by
   induction k with
   | zero => simp [sumN]
   | succ k ih => have := h k; simp only [sumN]; omega
  have h1 := h0 n
  have h2 := h n
  simp only [sumN] at hs
  by_cases e : i = n
  · subst e; omega
  · exact sumN_zero (n := n) h (by omega) i (by omega)
variable {g : α → Int}
theorem onI_le {C : Int} (hC : 0 ≤ C) (h : ∀ (i : Nat) x, xs[i]? = some x → 0 ≤ g x ∧ g x ≤ C) (i : Nat) : 0 ≤ onI xs g i ∧ onI xs g i ≤ C := by
 unfold onI
 split
 · rename_i x hx; exact h i x hx
 · exact ⟨by omega, hC⟩
def addN (xs : List α) (g : α → Int) (cap : Nat) : Int := sumN (onI xs g) (min xs.length cap)
theorem addN_le {cap : Nat} (C : Int) (hC : 0 ≤ C) (h : ∀ (i : Nat) x, xs[i]? = some x → 0 ≤ g x ∧ g x ≤ C) : 0 ≤ addN xs g cap ∧ addN xs g cap ≤ cap * C := by
 have h1 := sumN_le (onI_le hC h) (min xs.length cap)
 refine ⟨h1.1, Int.le_trans h1.2 (Int.mul_le_mul_of_nonneg_right (by omega) hC)⟩
theorem addN_zero {cap : Nat} (h : ∀ (i : Nat) x, xs[i]? = some x → 0 ≤ g x) (h0 : addN xs g cap ≤ 0) (hl : xs.length ≤ cap) : ∀ x ∈ xs, g x ≤ 0 := fun x hx => by
 obtain ⟨i, hi⟩ := List.mem_iff_getElem?.1 hx
 have := sumN_zero (f := onI xs g) (fun j => by unfold onI; split; exact h j _ (by assumption); omega) h0 i (by have := (List.getElem?_eq_some_iff.1 hi).1; omega)
 rwa [onI_eq hi] at this
theorem addN_part {C : Int} (hC : 0 ≤ C) (h : ∀ (i : Nat) x, xs[i]? = some x → 0 ≤ g x ∧ g x ≤ C) (k : Nat) : 0 ≤ sumN (onI xs g) k ∧ sumN (onI xs g) k ≤ k * C := sumN_le (onI_le hC h) k
theorem sumN_at {x : α} (hx : xs[k]? = some x) : sumN (onI xs g) (k + 1) = sumN (onI xs g) k + g x := by simp only [sumN]; rw [onI_eq hx]
def gInstr (x : InstrD) : Int := max ((x.L.length : Int) - 110) 0
def greatB (b : BodyD) : Int := max ((b.Locals.length : Int) - 60) 0 + max ((b.L.length : Int) - 150) 0 + addN b.L gInstr 150
theorem gInstr_le (h : BodyLens b) : ∀ (i : Nat) x, b.L[i]? = some x → 0 ≤ gInstr x ∧ gInstr x ≤ 281474976710656 := fun i x hx => by have := h.all i x hx; unfold gInstr; omega
theorem greatB_le (h : BodyLens b) : 0 ≤ greatB b ∧ greatB b ≤ 152 * 281474976710656 := by
 have h1 := addN_le (cap := 150) 281474976710656 (by omega) (gInstr_le h)
 have h2 := h.locals
 have h3 := h.l
 unfold greatB; omega
theorem greatB_small (h : BodyLens b) (h0 : greatB b ≤ 0) : SmallB b := by
 have h1 := addN_le (cap := 150) 281474976710656 (by omega) (gInstr_le h)
 unfold greatB at h0
 have h2 := addN_zero (xs := b.L) (g := gInstr) (cap := 150) (fun i x _ => by unfold gInstr; omega) (by omega) (by omega)
 exact ⟨by omega, by omega, fun x hx => by have := h2 x hx; unfold gInstr at this; omega⟩
def gSig (y : SigD) : Int := max ((y.P.length : Int) + (y.R.length : Int) - 60) 0
def gImp (y : ImportD) : Int := max ((y.Module.length : Int) + (y.Name.length : Int) - 100) 0
def gFn (y : FuncD) : Int := greatB y.Body
def gExp (y : ExportD) : Int := max ((y.Name.length : Int) - 60) 0
def gElem (y : ElemD) : Int := max ((y.Funcs.length : Int) - 30) 0
def gData (y : DataD) : Int := max ((y.Bytes.length : Int) - 4100) 0
def great0 (x : ModD) : Int := max ((x.Sigs.length : Int) - 60) 0 + max ((x.Imports.length : Int) - 25) 0 + max ((x.Funcs.length : Int) - 110) 0 + max ((x.Mems.length : Int) - 8) 0 + max ((x.Globals.length : Int) - 60) 0 + max ((x.Exports.length : Int) - 60) 0 + max ((x.Elems.length : Int) - 25) 0 + max ((x.Datas.length : Int) - 25) 0
def great1 (x : ModD) : Int := great0 x + addN x.Sigs gSig 60
def great2 (x : ModD) : Int := great1 x + addN x.Imports gImp 25
def great3 (x : ModD) : Int := great2 x + addN x.Funcs gFn 110
def great4 (x : ModD) : Int := great3 x + addN x.Exports gExp 60
def great5 (x : ModD) : Int := great4 x + addN x.Elems gElem 25
def greatM (x : ModD) : Int := great5 x + addN x.Datas gData 25
structure ModLens3 (x : ModD) : Prop where
 top : ModLens x
 mid : ModIn x
 fns : ∀ (i : Nat) y, x.Funcs[i]? = some y → BodyLens y.Body
theorem modLens3 (h : (aggV (encMod m)).p S w v) : ModLens3 m :=
 ⟨modLensA h, modIn h, fun i x hx => by
  obtain ⟨u, hu⟩ := aggV_at h 2 rfl
  obtain ⟨_, h1⟩ := sliceV_mem hu (List.mem_of_getElem? hx) 1 rfl
  obtain ⟨_, h2⟩ := sliceV_mem hu (List.mem_of_getElem? hx) 2 rfl
  exact ⟨sliceV_len h1, sliceV_len h2, fun j y hy => by
   obtain ⟨_, h3⟩ := sliceV_mem h2 (List.mem_of_getElem? hy) 4 rfl
   exact sliceV_len h3⟩⟩
structure GreatB (x : ModD) : Prop where
 n0 : 0 ≤ great0 x ∧ great0 x ≤ 8 * 281474976710656
 sig : ∀ (i : Nat) y, x.Sigs[i]? = some y → 0 ≤ gSig y ∧ gSig y ≤ 2 * 281474976710656
 imp : ∀ (i : Nat) y, x.Imports[i]? = some y → 0 ≤ gImp y ∧ gImp y ≤ 2 * 281474976710656
 fn : ∀ (i : Nat) y, x.Funcs[i]? = some y → 0 ≤ gFn y ∧ gFn y ≤ 152 * 281474976710656
 exp : ∀ (i : Nat) y, x.Exports[i]? = some y → 0 ≤ gExp y ∧ gExp y ≤ 281474976710656
 elem : ∀ (i : Nat) y, x.Elems[i]? = some y → 0 ≤ gElem y ∧ gElem y ≤ 281474976710656
 data : ∀ (i : Nat) y, x.Datas[i]? = some y → 0 ≤ gData y ∧ gData y ≤ 281474976710656
variable {x : ModD}
theorem great0_le (h : ModLens x) : 0 ≤ great0 x ∧ great0 x ≤ 8 * 281474976710656 := by
 obtain ⟨h1, h2, h3, h4, h5, h6, h7, h8⟩ := h
 have mx : ∀ (n : Nat) (c : Int), 0 ≤ c → n ≤ 281474976710656 → 0 ≤ max ((n : Int) - c) 0 ∧ max ((n : Int) - c) 0 ≤ 281474976710656 := fun n c _ _ => by omega
 have a1 := mx _ 60 (by omega) h1
 have a2 := mx _ 25 (by omega) h2
 have a3 := mx _ 110 (by omega) h3
 have a4 := mx _ 8 (by omega) h4
 have a5 := mx _ 60 (by omega) h5
 have a6 := mx _ 60 (by omega) h6
 have a7 := mx _ 25 (by omega) h7
 have a8 := mx _ 25 (by omega) h8
 unfold great0
 generalize max ((x.Sigs.length : Int) - 60) 0 = b1 at *
 generalize max ((x.Imports.length : Int) - 25) 0 = b2 at *
 generalize max ((x.Funcs.length : Int) - 110) 0 = b3 at *
 generalize max ((x.Mems.length : Int) - 8) 0 = b4 at *
 generalize max ((x.Globals.length : Int) - 60) 0 = b5 at *
 generalize max ((x.Exports.length : Int) - 60) 0 = b6 at *
 generalize max ((x.Elems.length : Int) - 25) 0 = b7 at *
 generalize max ((x.Datas.length : Int) - 25) 0 = b8 at *
 omega
theorem greatB_of (h : ModLens3 x) : GreatB x :=
 ⟨great0_le h.top, fun i y hy => by have := h.mid.sigs i y hy; unfold gSig; omega, fun i y hy => by have := h.mid.imports i y hy; unfold gImp; omega, fun i y hy => greatB_le (h.fns i y hy),
  fun i y hy => by have := h.mid.exports i y hy; unfold gExp; omega, fun i y hy => by have := h.mid.elems i y hy; unfold gElem; omega, fun i y hy => by have := h.mid.datas i y hy; unfold gData; omega⟩
theorem greatM_small (h : ModLens3 x) (h0 : greatM x ≤ 0) : SmallM x := by
 have hb := greatB_of h
 have n0 := hb.n0.1
 have n1 := (addN_le (cap := 60) _ (by omega) hb.sig).1
 have n2 := (addN_le (cap := 25) _ (by omega) hb.imp).1
 have n3 := (addN_le (cap := 110) _ (by omega) hb.fn).1
 have n4 := (addN_le (cap := 60) _ (by omega) hb.exp).1
 have n5 := (addN_le (cap := 25) _ (by omega) hb.elem).1
 have n6 := (addN_le (cap := 25) _ (by omega) hb.data).1
 unfold greatM great5 great4 great3 great2 great1 at h0
 have z0 : great0 x ≤ 0 := by omega
 unfold great0 at z0
 have g1 : x.Sigs.length ≤ 60 := by omega
 have g2 : x.Imports.length ≤ 25 := by omega
 have g3 : x.Funcs.length ≤ 110 := by omega
 have g6 : x.Exports.length ≤ 60 := by omega
 have g7 : x.Elems.length ≤ 25 := by omega
 have g8 : x.Datas.length ≤ 25 := by omega
 exact ⟨g1, g2, g3, by omega, by omega, g6, g7, g8,
  fun y hy => by have := addN_zero (fun i y hy => (hb.sig i y hy).1) (by omega) g1 y hy; unfold gSig at this; omega,
  fun y hy => by have := addN_zero (fun i y hy => (hb.imp i y hy).1) (by omega) g2 y hy; unfold gImp at this; omega,
  fun y hy => by
   have h9 := addN_zero (fun i y hy => (hb.fn i y hy).1) (by omega) g3 y hy
   obtain ⟨i, hi⟩ := List.mem_iff_getElem?.1 hy
   exact greatB_small (h.fns i y hi) h9,
  fun y hy => by have := addN_zero (fun i y hy => (hb.exp i y hy).1) (by omega) g6 y hy; unfold gExp at this; omega,
  fun y hy => by have := addN_zero (fun i y hy => (hb.elem i y hy).1) (by omega) g7 y hy; unfold gElem at this; omega,
  fun y hy => by have := addN_zero (fun i y hy => (hb.data i y hy).1) (by omega) g8 y hy; unfold gData at this; omega⟩
theorem great_bnds (hb : GreatB x) : (0 ≤ great1 x ∧ great1 x ≤ 128 * 281474976710656) ∧ (0 ≤ great2 x ∧ great2 x ≤ 178 * 281474976710656) ∧ (0 ≤ great3 x ∧ great3 x ≤ 16898 * 281474976710656) ∧ (0 ≤ great4 x ∧ great4 x ≤ 16958 * 281474976710656) ∧ (0 ≤ great5 x ∧ great5 x ≤ 16983 * 281474976710656) := by
 have n0 := hb.n0
 have n1 := addN_le (cap := 60) _ (by omega) hb.sig
 have n2 := addN_le (cap := 25) _ (by omega) hb.imp
 have n3 := addN_le (cap := 110) _ (by omega) hb.fn
 have n4 := addN_le (cap := 60) _ (by omega) hb.exp
 have n5 := addN_le (cap := 25) _ (by omega) hb.elem
 unfold great5 great4 great3 great2 great1
 omega
def sigAt (m : ModD) (n : Int) : SigD := (m.Sigs[n.toNat]?).getD ⟨[], []⟩
def envD (m : ModD) (f : FuncD) : EnvD where
 Funcs := m.Imports.map (fun i => sigAt m i.Sig) ++ m.Funcs.map (fun g => sigAt m g.Sig)
 Sigs := m.Sigs
 Wide := m.Mems.map (·.Wide)
 Globals := m.Globals.map (·.Ty)
 Mutable := m.Globals.map (·.Mutable)
 Table := 0 ≤ m.Table
 Own := sigAt m f.Sig
 Locals := (sigAt m f.Sig).P ++ f.Body.Locals
def resI (x : InstrD) : List UInt8 := if x.A = 64 then [] else [UInt8.ofNat x.A.toNat]
noncomputable def heightsF (m : ModD) (f : FuncD) : Option (List Nat) :=
 crun (·.Code) resI (plS (envD m f)) f.Body.L [FrC.mk False False (sigAt m f.Sig).R ([], False)]
def typedF (m : ModD) (f : FuncD) : Prop := encBd f.Body ∧ ∃ hs, heightsF m f = some hs
def ValidD (m : ModD) : Prop := FitsM m ∧ ∀ f ∈ m.Funcs, typedF m f
theorem heightsF_doc {f : FuncD} (h : encBd f.Body) (hk : f.Body.L.length < k) :
    heightsF m f = (bchk (·.Code) resI (plS (envD m f)) k f.Body.L [(sigAt m f.Sig).R] (sigAt m f.Sig).R ([], False) 0).map Prod.fst :=
  crun_bchk _ _ _ hk ((nrun_rblk (by simpa using hk)).1 h.2.2.2.1)
end Go.Hl
end
section
namespace Go.Hl
open Go.RowKit
structure BkD where
 loop : Prop
 is : Prop
 res : List UInt8
 h : Nat
 dead : Prop
def encBkD (b : BkD) : List VP := [propV b.loop, propV b.is, sliceV 1 encU8 b.res, intV .i64 (b.h : Int), propV b.dead]
instance : Enc 5 encBkD := ⟨fun _ => rfl, fun x q h => by simp only [encBkD, List.mem_cons, List.not_mem_nil, or_false] at h; rcases h with h | h | h | h | h <;> rw [h] <;> infer_instance⟩
instance (x : BkD) : FlatL (encBkD x) := FlatL.of x
def bkF (h : Nat) (k : FrC) (s : Stk) : BkD := ⟨k.loop, k.is, k.res, h, s.2⟩
def stkF (fs : List FrC) : List UInt8 := fs.flatMap (·.st.1)
def bksG : Nat → List FrC → List BkD
 | _, [] => []
 | h, k :: fs => bkF h k k.st :: bksG (h + k.st.1.length) fs
abbrev bksF (fs : List FrC) : List BkD := bksG 0 fs
theorem bksG_snoc (k : FrC) : ∀ (fs : List FrC) (h : Nat), bksG h (fs ++ [k]) = bksG h fs ++ [bkF (h + hgtF fs) k k.st]
 | [], h => by simp [bksG, hgtF]
 | k' :: fs, h => by simp [bksG, bksG_snoc k fs, hgtF, Nat.add_assoc]
theorem bksG_len : ∀ (fs : List FrC) (h : Nat), (bksG h fs).length = fs.length
 | [], _ => rfl
 | _ :: fs, h => by simp [bksG, bksG_len fs]
theorem stkF_len (fs : List FrC) : (stkF fs).length = hgtF fs := by
 induction fs with
 | nil => rfl
 | cons k fs ih => simp only [stkF, List.flatMap_cons, List.length_append] at ih ⊢; rw [ih]; simp [hgtF]
theorem stkF_snoc (fs : List FrC) (k : FrC) : stkF (fs ++ [k]) = stkF fs ++ k.st.1 := by simp [stkF]
theorem bksF_snoc (fs : List FrC) (k : FrC) : bksF (fs ++ [k]) = bksF fs ++ [bkF (stkF fs).length k k.st] := by rw [bksF, bksG_snoc, Nat.zero_add, stkF_len]
open Classical in
noncomputable def labB (b : BkD) : List UInt8 := if b.loop then [] else b.res
theorem labB_map : ∀ (fs : List FrC) (h : Nat), (bksG h fs).map labB = fs.map labF
 | [], _ => rfl
 | k :: fs, h => by simp only [bksG, List.map_cons, labB_map fs]; rfl
abbrev ckC (cb : Nat) (m : ModD) (f : FuncD) (gs : SB) (ns : Nat) (gb : SB) (nb : Nat) : HP := cellsH cb [ptrV (encMod m), sliceV 1 encU8 (envD m f).Locals, sliceV 1 encU8 (sigAt m f.Sig).P, sliceV 1 encU8 (sigAt m f.Sig).R, exactV (sval gs ns), exactV (sval gb nb)]
abbrev ckG (cb : Nat) (m : ModD) (f : FuncD) (gs gb : SB) (st : List UInt8) (B : List BkD) : List HP := [ckC cb m f gs st.length gb B.length, sliceH gs 1 encU8 st, sliceH gb 5 encBkD B]
abbrev ckL (cb : Nat) (m : ModD) (f : FuncD) (gs : SB) (bb bc : Nat) (S0 : List UInt8) (B : List BkD) (k : FrC) (s : Stk) : List HP := ckG cb m f gs (some (bb, bc)) (S0 ++ s.1) (B ++ [bkF S0.length k s])
variable {w : UInt8} {d : Prop}
theorem tk1_nil (h : d) : tk1S ([], d) w = some (([], d), w) := by simp [tk1S, h]
theorem tk1_nil_no (h : ¬ d) : tk1S ([], d) w = none := by simp [tk1S, h]
variable {l : List UInt8}
theorem tk1_snoc {g : UInt8} (h : g = w ∨ g = 0 ∨ w = 0) : tk1S (l ++ [g], d) w = some ((l, d), if g = 0 then w else g) := by
 simp [tk1S, h]
theorem tk1_snoc_no {g : UInt8} (h : ¬ (g = w ∨ g = 0 ∨ w = 0)) : tk1S (l ++ [g], d) w = none := by
 simp only [tk1S, List.getLast?_append, List.getLast?_singleton, Option.some_or]
 rw [if_neg h]
theorem u8_zero (a : UInt8) : (a.toNat : Int) = 0 ↔ a = 0 := by
 rw [← UInt8.toNat_inj]; simp
variable {α : Type}
theorem snoc_of {l : List α} (h : l ≠ []) : ∃ m x, l = m ++ [x] := ⟨l.dropLast, l.getLast h, (List.dropLast_concat_getLast h).symm⟩
theorem tksR_append (s : Stk) (a b : List UInt8) : tksR s (a ++ b) = (tksR s a).bind fun s => tksR s b := by
 induction a generalizing s with
 | nil => rfl
 | cons t a ih =>
  simp only [List.cons_append, tksR]
  cases tk1S s t with
  | none => rfl
  | some p => simp only [Option.bind_some]; exact ih _
theorem tks_app (s : Stk) (a b : List UInt8) : tksS s (a ++ b) = (tksS s b).bind fun s => tksS s a := by
 unfold tksS; rw [List.reverse_append, tksR_append]
theorem tks_one (s : Stk) (t : UInt8) : tksS s [t] = (tk1S s t).map Prod.fst := by
 simp only [tksS, List.reverse_cons, List.reverse_nil, List.nil_append, tksR]
 cases tk1S s t <;> rfl
theorem tks_snoc (s : Stk) (l : List UInt8) (t : UInt8) : tksS s (l ++ [t]) = (tk1S s t).bind fun p => tksS p.1 l := by
 rw [tks_app, tks_one]; cases tk1S s t <;> rfl
variable {s : Stk}
theorem tks_at {i : Nat} {t : UInt8} (h : l[i]? = some t) : tksS s (l.take (i + 1)) = (tk1S s t).bind fun p => tksS p.1 (l.take i) := by
 rw [← take_snoc h, tks_snoc]
theorem giveS_len (s : Stk) (l : List UInt8) : (giveS s l).1.length = s.1.length + l.length := by simp [giveS]
theorem tk1_le {p : Stk × UInt8} (h : tk1S s w = some p) : p.1.1.length ≤ s.1.length := by
 unfold tk1S at h
 split at h
 · split at h
   · cases h; exact Nat.le_refl _
   · cases h
 · split at h
   · cases h; simp
   · cases h
theorem tksR_le : ∀ (l : List UInt8) {s s' : Stk}, tksR s l = some s' → s'.1.length ≤ s.1.length
 | [], s, s', h => by cases h; exact Nat.le_refl _
 | t :: l, s, s', h => by
  simp only [tksR] at h
  cases h1 : tk1S s t with
  | none => rw [h1] at h; cases h
  | some p => rw [h1] at h; exact Nat.le_trans (tksR_le l h) (tk1_le h1)
theorem tks_le {s' : Stk} (h : tksS s l = some s') : s'.1.length ≤ s.1.length := tksR_le _ h
variable {n : Int}
theorem labAt_in {L : List (List UInt8)} (h0 : 0 ≤ n) (h : n < (L.length : Int)) : ∃ w, labAt L n = some w ∧ L[L.length - 1 - n.toNat]? = some w := by
 have : L.length - 1 - n.toNat < L.length := by omega
 exact ⟨L[L.length - 1 - n.toNat], by unfold labAt; rw [if_pos ⟨h, h0⟩]; exact List.getElem?_eq_getElem this, List.getElem?_eq_getElem this⟩
theorem labAt_out {L : List (List UInt8)} (h : ¬ n < (L.length : Int)) : labAt L n = none := by unfold labAt; rw [if_neg (fun e => h e.1)]
variable {L : List α}
theorem getI_in (h0 : 0 ≤ n) (h : n < (L.length : Int)) : ∃ w, getI L n = some w ∧ L[n.toNat]? = some w := by
 have : n.toNat < L.length := by omega
 exact ⟨L[n.toNat], by unfold getI; rw [if_pos ⟨h, h0⟩]; exact List.getElem?_eq_getElem this, List.getElem?_eq_getElem this⟩
theorem getI_out (h : ¬ n < (L.length : Int)) : getI L n = none := by unfold getI; rw [if_neg (fun e => h e.1)]
theorem getI_get {w : α} (h : getI L n = some w) : 0 ≤ n ∧ n < (L.length : Int) ∧ L[n.toNat]? = some w := by
 unfold getI at h
 split at h
 · rename_i hc; exact ⟨hc.2, hc.1, h⟩
 · cases h
def clsP (res : List UInt8) (s : Stk) : Prop := ∃ s', tksS s res = some s' ∧ s'.1 = []
theorem u8_pop {x : UInt8} : (((x.toNat : Int) = (w.toNat : Int) ∨ (x.toNat : Int) = 0) ∨ (w.toNat : Int) = 0) ↔ (x = w ∨ x = 0 ∨ w = 0) := by
 rw [u8_eq, u8_zero, u8_zero, or_assoc]
theorem pre_app (a b : List α) : a <+: a ++ b := List.prefix_append a b
theorem u8_wrap (h : 0 ≤ n) : IntKind.u8.wrap n = ((UInt8.ofNat n.toNat).toNat : Int) := by
 unfold IntKind.wrap
 simp [IntKind.signed, IntKind.bits]
 omega
theorem falseV : VLe (exactV (.bool false)) (propV False) := fun S w v h => ⟨false, h, by simp⟩
structure CkOk (m : ModD) (f : FuncD) : Prop where
 fits : FitsM m
 lo : (envD m f).Locals.length ≤ 60000
 own : sigAt m f.Sig ∈ m.Sigs
structure InsOk0 (x : InstrD) : Prop where
 A0 : 0 ≤ x.A
 A64 : x.A < 18446744073709551616
 B0 : 0 ≤ x.B
 B64 : x.B < 18446744073709551616
 L0 : ∀ n ∈ x.L, 0 ≤ n
 Ln : x.L.length ≤ 60000
structure InsOk (x : InstrD) : Prop extends InsOk0 x where
 A16 : x.Code = 16 → x.A ≤ 4294967295
 a0 : 0 ≤ x.Align
 a31 : x.Align ≤ 31
variable {m : ModD}
theorem FitsM.few (h : FitsM m) : ∀ g ∈ m.Sigs, g.P.length ≤ 20 ∧ g.R.length ≤ 20 := fun g hg => by
 have h1 := firstE_on.1 (manyE_zero.1 h.sigs).2 g hg
 have h2 : RightP g := Classical.not_not.1 ((whenE_eq (by decide)).1 h1)
 exact ⟨h2.1.1, h2.2.1⟩
theorem FitsM.lens (h : FitsM m) : m.Sigs.length ≤ 50 ∧ m.Imports.length ≤ 20 ∧ m.Mems.length ≤ 4 ∧ m.Globals.length ≤ 50 ∧ countM m ≤ 100 := by
 have h1 := (manyE_zero.1 h.sigs).1
 have h2 := (manyE_zero.1 h.imports).1
 have h3 := (manyE_zero.1 h.mems).1
 have h4 := (manyE_zero.1 h.globals).1
 have h5 := h.funcs
 unfold funcsE at h5
 split at h5
 · cases h5
 · exact ⟨by omega, by omega, by omega, by omega, by omega⟩
theorem sigAt_mem (h : InP n m.Sigs.length) : m.Sigs[n.toNat]? = some (sigAt m n) ∧ sigAt m n ∈ m.Sigs := by
 obtain ⟨h1, h2⟩ := h.at
 have : m.Sigs[n.toNat]? = some (sigAt m n) := by unfold sigAt; rw [List.getElem?_eq_getElem h1]; rfl
 exact ⟨this, List.mem_of_getElem? this⟩
theorem sigAt_of {s : SigD} (h : m.Sigs[n.toNat]? = some s) : sigAt m n = s := by unfold sigAt; rw [h]; rfl
theorem sigO_getI {f : FuncD} (h : FitsM m) : getI (envD m f).Funcs n = sigO m n := by
 have h1 : ∀ z ∈ m.Imports, importE m z = 0 := firstE_on.1 (manyE_zero.1 h.imports).2
 have h2 : ∀ z ∈ m.Funcs, funcE m z = 0 := funcs_each h.funcs
 have hlen : (envD m f).Funcs.length = m.Imports.length + m.Funcs.length := by simp [envD]
 by_cases hc : InP n (countM m)
 · obtain ⟨s, hs⟩ := sig_found hc h1 h2
   rw [hs]
   have hc' := hc
   unfold InP countM at hc'
   unfold getI
   rw [if_pos (by rw [hlen]; omega)]
   by_cases hl : n < (m.Imports.length : Int)
   · obtain ⟨x, hx, hx2, _, _⟩ := sig_import hs hl
     show (m.Imports.map (fun i => sigAt m i.Sig) ++ m.Funcs.map (fun g => sigAt m g.Sig))[n.toNat]? = some s
     rw [List.getElem?_append_left (by simp; omega), List.getElem?_map, hx]
     exact congrArg some (sigAt_of hx2)
   · obtain ⟨x, hx, hx2, _, _, _⟩ := sig_func hs hl
     show (m.Imports.map (fun i => sigAt m i.Sig) ++ m.Funcs.map (fun g => sigAt m g.Sig))[n.toNat]? = some s
     rw [List.getElem?_append_right (by simp; omega), List.getElem?_map, List.length_map]
     rw [show n.toNat - m.Imports.length = (n - (m.Imports.length : Int)).toNat by omega, hx]
     exact congrArg some (sigAt_of hx2)
 · have hno : ¬ (sigO m n).isSome = true := fun e => hc ((sig_iff h1 h2).1 e)
   have : sigO m n = none := by simpa using hno
   rw [this]
   unfold getI
   rw [if_neg (by rw [hlen]; unfold InP countM at hc; omega)]
theorem getI_map {β : Type} {g : α → β} : getI (L.map g) n = (getI L n).map g := by
 unfold getI
 rw [List.length_map]
 split
 · rw [List.getElem?_map]
 · rfl
theorem labs_top (fs : List FrC) (b : FrC) (s : Stk) : (bksF fs ++ [bkF (stkF fs).length b s]).map labB = (fs ++ [b]).map labF := by
 rw [List.map_append, List.map_append, labB_map]; rfl
def StOf (fs : List FrC) (st : List UInt8) (B : List BkD) : Prop := B = bksF fs ∧ (fs ≠ [] → st = stkF fs)
theorem stOf_top (fs : List FrC) (b : FrC) (s : Stk) : StOf (fs ++ [{ b with st := s }]) (stkF fs ++ s.1) (bksF fs ++ [bkF (stkF fs).length b s]) :=
 ⟨by rw [bksF_snoc]; rfl, fun _ => by rw [stkF_snoc]⟩
theorem giveS_nil (s : Stk) : giveS s [] = s := by simp [giveS]
theorem tgS_nil_out (s : Stk) (i : List UInt8) : tgS s i [] = tksS s i := by
 unfold tgS; cases tksS s i <;> simp [giveS_nil]
section
variable {v : EnvD} {x : InstrD} {s : Stk} {labs : List (List UInt8)}
theorem plS_0 (h : x.Code = 0) : plS v x s labs = some killS := by unfold plS; rw [if_pos h]
theorem plS_12 (h : x.Code = 12) : plS v x s labs = (labAt labs x.A).bind fun w => (tksS s w).map fun _ => killS := by unfold plS; rw [if_neg (by omega), if_pos h]
theorem plS_13 (h : x.Code = 13) : plS v x s labs = (labAt labs x.A).bind fun w => tgS s (w ++ [127]) w := by unfold plS; rw [if_neg (by omega), if_neg (by omega), if_pos h]
open Classical in
theorem plS_14 (h : x.Code = 14) : plS v x s labs = (labAt labs x.A).bind fun w => if ∀ n ∈ x.L, labAt labs n = some w then (tksS s (w ++ [127])).map fun _ => killS else none := by unfold plS; rw [if_neg (by omega), if_neg (by omega), if_neg (by omega), if_pos h]
theorem plS_15 (h : x.Code = 15) : plS v x s labs = (tksS s v.Own.R).map fun _ => killS := by unfold plS; iterate 4 rw [if_neg (by omega)]
                                                                                              rw [if_pos h]
theorem plS_16 (h : x.Code = 16) : plS v x s labs = (getI v.Funcs x.A).bind fun g => tgS s g.P g.R := by
 unfold plS; iterate 5 rw [if_neg (by omega)]
 rw [if_pos h]
open Classical in
theorem plS_17 (h : x.Code = 17) : plS v x s labs = (getI v.Sigs x.A).bind fun g => if x.B = 0 ∧ v.Table then tgS s (g.P ++ [127]) g.R else none := by
 unfold plS; iterate 6 rw [if_neg (by omega)]
 rw [if_pos h]
theorem plS_26 (h : x.Code = 26) : plS v x s labs = (tk1S s 0).map Prod.fst := by
 unfold plS; iterate 7 rw [if_neg (by omega)]
 rw [if_pos h]
theorem plS_27 (h : x.Code = 27) : plS v x s labs = (tksS s [127]).bind fun s => (tk1S s 0).bind fun p => (tk1S p.1 p.2).map fun p => giveS p.1 [p.2] := by
 unfold plS; iterate 8 rw [if_neg (by omega)]
 rw [if_pos h]
theorem plS_32 (h : x.Code = 32) : plS v x s labs = (getI v.Locals x.A).map fun t => giveS s [t] := by
 unfold plS; iterate 9 rw [if_neg (by omega)]
 rw [if_pos h]
theorem plS_33 (h : x.Code = 33) : plS v x s labs = (getI v.Locals x.A).bind fun t => tksS s [t] := by
 unfold plS; iterate 10 rw [if_neg (by omega)]
 rw [if_pos h]
theorem plS_34 (h : x.Code = 34) : plS v x s labs = (getI v.Locals x.A).bind fun t => tgS s [t] [t] := by
 unfold plS; iterate 11 rw [if_neg (by omega)]
 rw [if_pos h]
theorem plS_35 (h : x.Code = 35) : plS v x s labs = (getI v.Globals x.A).map fun t => giveS s [t] := by
 unfold plS; iterate 12 rw [if_neg (by omega)]
 rw [if_pos h]
open Classical in
theorem plS_36 (h : x.Code = 36) : plS v x s labs = (getI v.Globals x.A).bind fun t => (getI v.Mutable x.A).bind fun m => if m then tksS s [t] else none := by
 unfold plS; iterate 13 rw [if_neg (by omega)]
 rw [if_pos h]
def varC (c : Int) : Prop := 32 ≤ c ∧ c ≤ 36
def callC (c : Int) : Prop := c = 16 ∨ c = 17 ∨ c = 26 ∨ c = 27
def ctlC (c : Int) : Prop := c = 0 ∨ c = 2 ∨ c = 3 ∨ c = 4 ∨ c = 5 ∨ c = 11 ∨ c = 12 ∨ c = 13 ∨ c = 14 ∨ c = 15
theorem plS_form (h1 : ¬ ctlC x.Code) (h2 : ¬ varC x.Code) (h3 : ¬ callC x.Code) (hf : formR x.Code < 8 ∨ 10 < formR x.Code) : plS v x s labs = tgS s (takesR x.Code).1 (takesR x.Code).2 := by
 unfold ctlC at h1; unfold varC at h2; unfold callC at h3
 unfold plS; iterate 14 rw [if_neg (by omega)]
 rw [if_pos hf]
theorem plS_mem (h1 : ¬ ctlC x.Code) (h2 : ¬ varC x.Code) (h3 : ¬ callC x.Code) (hf : ¬ (formR x.Code < 8 ∨ 10 < formR x.Code)) : plS v x s labs = memS v x s := by
 unfold ctlC at h1; unfold varC at h2; unfold callC at h3
 unfold plS; iterate 14 rw [if_neg (by omega)]
 rw [if_neg hf]
open Classical in
theorem memS_8 (hf : formR x.Code = 8) : memS v x s = (getI v.Wide x.A).bind fun wa => if (¬ wa ∧ 4294967295 < x.B) ∨ widthR x.Code < 2 ^ x.Align.toNat then none else tgS s (adrW wa :: (takesR x.Code).1.tail) (takesR x.Code).2 := by
 unfold memS
 refine Option.bind_congr fun wa _ => ?_
 rw [if_neg (by omega), Option.bind_some, if_pos hf]
theorem form_9 {c : Int} (h : formR c = 9) : c = 63 ∨ c = 64 ∨ c = 64523 := by
 unfold formR at h
 repeat' split at h
 all_goals omega
theorem form_10 {c : Int} (h : formR c = 10) : c = 64522 := by
 unfold formR at h
 repeat' split at h
 all_goals omega
theorem memS_63 (h : x.Code = 63) : memS v x s = (getI v.Wide x.A).bind fun wa => some (giveS s [adrW wa]) := by
 unfold memS
 have hf : formR x.Code = 9 := by rw [h]; decide
 refine Option.bind_congr fun wa _ => ?_
 rw [if_neg (by omega), Option.bind_some, if_neg (by omega), if_pos h, h]; rfl
theorem memS_64 (h : x.Code = 64) : memS v x s = (getI v.Wide x.A).bind fun wa => tgS s [adrW wa] [adrW wa] := by
 unfold memS
 have hf : formR x.Code = 9 := by rw [h]; decide
 refine Option.bind_congr fun wa _ => ?_
 rw [if_neg (by omega), Option.bind_some, if_neg (by omega), if_neg (by omega), if_pos h]
theorem memS_fill (h : x.Code = 64523) : memS v x s = (getI v.Wide x.A).bind fun wa => tksS s [adrW wa, 127, adrW wa] := by
 unfold memS
 have hf : formR x.Code = 9 := by rw [h]; decide
 refine Option.bind_congr fun wa _ => ?_
 rw [if_neg (by omega), Option.bind_some, if_neg (by omega), if_neg (by omega), if_neg (by omega), if_pos h, h]
 exact tgS_nil_out _ _
theorem memS_copy (h : x.Code = 64522) : memS v x s = (getI v.Wide x.A).bind fun wa => (getI v.Wide x.B).bind fun wb => tksS s [adrW wa, adrW wb, adrW (wa ∧ wb)] := by
 unfold memS
 have hf : formR x.Code = 10 := by rw [h]; decide
 refine Option.bind_congr fun wa _ => ?_
 rw [if_pos hf]
 refine Option.bind_congr fun wb _ => ?_
 rw [if_neg (by omega), if_neg (by omega), if_neg (by omega), if_neg (by omega), h]
 exact tgS_nil_out _ _
end
theorem adrW_iff {w : Prop} : ((adrW w).toNat : Int) = 126 ↔ w := by
 unfold adrW; split <;> simp_all
noncomputable abbrev stepX (m : ModD) (f : FuncD) (x : InstrD) (fs : List FrC) (b : FrC) : Option (List FrC) := stepF (·.Code) resI (plS (envD m f)) x fs b
section
variable {m : ModD} {f : FuncD} {x : InstrD} {fs : List FrC} {b : FrC}
theorem stepX_pl (h11 : x.Code ≠ 11) (h5 : x.Code ≠ 5) (ho : ¬ opensC x.Code) : stepX m f x fs b = (plS (envD m f) x b.st ((fs ++ [b]).map labF)).map fun s => fs ++ [{ b with st := s }] := by
 unfold stepX stepF; rw [if_neg h11, if_neg h5, if_neg ho]
open Classical in
theorem stepX_open (ho : opensC x.Code) : stepX m f x fs b = (if x.Code = 4 then tksS b.st [127] else some b.st).map fun s => fs ++ [{ b with st := s }] ++ [⟨x.Code = 3, x.Code = 4, resI x, ([], False)⟩] := by
 have ho' := ho
 unfold opensC at ho'
 have e1 : ¬ x.Code = 11 := by omega
 have e2 : ¬ x.Code = 5 := by omega
 unfold stepX stepF; rw [if_neg e1, if_neg e2, if_pos ho]
theorem stepX_else (h : x.Code = 5) (hc : clsP b.res b.st) : stepX m f x fs b = some (fs ++ [{ b with is := False, st := ([], False) }]) := by
 have e1 : ¬ x.Code = 11 := by omega
 unfold stepX stepF; rw [if_neg e1, if_pos h, if_pos (show closeF b from hc)]
theorem stepX_else_no (h : x.Code = 5) (hc : ¬ clsP b.res b.st) : stepX m f x fs b = none := by
 have e1 : ¬ x.Code = 11 := by omega
 unfold stepX stepF; rw [if_neg e1, if_pos h, if_neg (show ¬ closeF b from hc)]
theorem stepX_end (h : x.Code = 11) (hc : clsP b.res b.st ∧ (b.is → b.res = [])) : stepX m f x fs b = some (match fs.getLast? with | none => [] | some t => fs.dropLast ++ [{ t with st := giveS t.st b.res }]) := by
 unfold stepX stepF; rw [if_pos h, if_pos (show closeF b ∧ (b.is → b.res = []) from hc)]; try rfl
theorem stepX_end_no (h : x.Code = 11) (hc : ¬ (clsP b.res b.st ∧ (b.is → b.res = []))) : stepX m f x fs b = none := by
 unfold stepX stepF; rw [if_pos h, if_neg (show ¬ (closeF b ∧ (b.is → b.res = [])) from hc)]
theorem stOf_end (fs : List FrC) (r : List UInt8) : StOf (match fs.getLast? with | none => [] | some t => fs.dropLast ++ [{ t with st := giveS t.st r }]) (stkF fs ++ r) (bksF fs) := by
 rcases List.eq_nil_or_concat fs with rfl | ⟨gs, t, rfl⟩
 · exact ⟨rfl, fun h => absurd rfl h⟩
 · simp only [List.concat_eq_append, List.getLast?_append, List.getLast?_singleton, Option.some_or, List.dropLast_concat]
   refine ⟨?_, fun _ => ?_⟩
   · rw [bksF_snoc, bksF_snoc]; first | done | rfl
   · rw [stkF_snoc, stkF_snoc]; first | done | simp [giveS, List.append_assoc]
theorem stOf_open (fs : List FrC) (b : FrC) (s : Stk) (x : InstrD) : StOf (fs ++ [{ b with st := s }] ++ [⟨x.Code = 3, x.Code = 4, resI x, ([], False)⟩]) (stkF fs ++ s.1) ((bksF fs ++ [bkF (stkF fs).length b s]) ++ [bkF (stkF fs ++ s.1).length ⟨x.Code = 3, x.Code = 4, resI x, ([], False)⟩ ([], False)]) :=
 ⟨by rw [bksF_snoc, bksF_snoc, stkF_snoc]; rfl, fun _ => by rw [stkF_snoc, stkF_snoc]; simp⟩
theorem stOf_else (fs : List FrC) (b : FrC) : StOf (fs ++ [{ b with is := False, st := ([], False) }]) (stkF fs) (bksF fs ++ [bkF (stkF fs).length ⟨b.loop, False, b.res, ([], False)⟩ ([], False)]) :=
 ⟨by rw [bksF_snoc], fun _ => by rw [stkF_snoc]; simp⟩
end
end Go.Hl
end
section
namespace Go.Hl
variable {s : Stk} {s' : Stk}
theorem tg_grow {i o : List UInt8} (h : tgS s i o = some s') : s'.1.length ≤ s.1.length + o.length := by
 unfold tgS at h
 obtain ⟨t, h1, rfl⟩ := Option.map_eq_some_iff.1 h
 rw [giveS_len]
 have := tks_le h1
 omega
theorem kill_grow {w : List UInt8} (h : ((tksS s w).map fun _ => killS) = some s') : s'.1.length ≤ s.1.length := by
 obtain ⟨t, h1, rfl⟩ := Option.map_eq_some_iff.1 h
 simp [killS]
theorem labAt_mem {L : List (List UInt8)} {n : Int} {w : List UInt8} (h : labAt L n = some w) : w ∈ L := by
 unfold labAt at h
 split at h
 · exact List.mem_of_getElem? h
 · cases h
theorem getI_mem {α : Type} {L : List α} {n : Int} {w : α} (h : getI L n = some w) : w ∈ L := by
 unfold getI at h
 split at h
 · exact List.mem_of_getElem? h
 · cases h
variable {v : EnvD} {x : InstrD}
theorem memS_grow (ht : (takesR x.Code).2.length ≤ 20) (h : memS v x s = some s') : s'.1.length ≤ s.1.length + 20 := by
 unfold memS at h
 obtain ⟨wa, _, h⟩ := Option.bind_eq_some_iff.1 h
 obtain ⟨wb, _, h⟩ := Option.bind_eq_some_iff.1 h
 split at h
 · split at h
   · cases h
   · have := tg_grow h; omega
 split at h
 · have := tg_grow h; simp only [List.length_cons, List.length_nil] at this; omega
 split at h
 · have := tg_grow h; simp only [List.length_cons, List.length_nil] at this; omega
 split at h
 · have := tg_grow h; omega
 · have := tg_grow h; omega
theorem plS_grow {labs : List (List UInt8)} (hl : ∀ w ∈ labs, w.length ≤ 20) (hF : ∀ g ∈ v.Funcs, g.R.length ≤ 20) (hS : ∀ g ∈ v.Sigs, g.R.length ≤ 20) (ht : (takesR x.Code).2.length ≤ 20)
    (h : plS v x s labs = some s') : s'.1.length ≤ s.1.length + 20 := by
  unfold plS at h
  by_cases c0 : x.Code = 0
  · rw [if_pos c0] at h
    cases h; simp [killS]
  rw [if_neg c0] at h
  by_cases c1 : x.Code = 12
  · rw [if_pos c1] at h
    obtain ⟨w, hw, h⟩ := Option.bind_eq_some_iff.1 h
    have := kill_grow h; omega
  rw [if_neg c1] at h
  by_cases c2 : x.Code = 13
  · rw [if_pos c2] at h
    obtain ⟨w, hw, h⟩ := Option.bind_eq_some_iff.1 h
    have := tg_grow h; have := hl w (labAt_mem hw); omega
  rw [if_neg c2] at h
  by_cases c3 : x.Code = 14
  · rw [if_pos c3] at h
    obtain ⟨w, hw, h⟩ := Option.bind_eq_some_iff.1 h
    split at h
    · have := kill_grow h; omega
    · cases h
  rw [if_neg c3] at h
  by_cases c4 : x.Code = 15
  · rw [if_pos c4] at h
    have := kill_grow h; omega
  rw [if_neg c4] at h
  by_cases c5 : x.Code = 16
  · rw [if_pos c5] at h
    obtain ⟨g, hg, h⟩ := Option.bind_eq_some_iff.1 h
    have := tg_grow h; have := hF g (getI_mem hg); omega
  rw [if_neg c5] at h
  by_cases c6 : x.Code = 17
  · rw [if_pos c6] at h
    obtain ⟨g, hg, h⟩ := Option.bind_eq_some_iff.1 h
    split at h
    · have := tg_grow h; have := hS g (getI_mem hg); omega
    · cases h
  rw [if_neg c6] at h
  by_cases c7 : x.Code = 26
  · rw [if_pos c7] at h
    obtain ⟨p, h1, rfl⟩ := Option.map_eq_some_iff.1 h
    have := tk1_le h1; omega
  rw [if_neg c7] at h
  by_cases c8 : x.Code = 27
  · rw [if_pos c8] at h
    obtain ⟨p, h1, h⟩ := Option.bind_eq_some_iff.1 h
    obtain ⟨q, h2, h⟩ := Option.bind_eq_some_iff.1 h
    obtain ⟨r, h3, rfl⟩ := Option.map_eq_some_iff.1 h
    have := tks_le h1; have := tk1_le h2; have := tk1_le h3
    rw [giveS_len]; simp only [List.length_cons, List.length_nil]; omega
  rw [if_neg c8] at h
  by_cases c9 : x.Code = 32
  · rw [if_pos c9] at h
    obtain ⟨t, _, rfl⟩ := Option.map_eq_some_iff.1 h
    rw [giveS_len]; simp only [List.length_cons, List.length_nil]; omega
  rw [if_neg c9] at h
  by_cases c10 : x.Code = 33
  · rw [if_pos c10] at h
    obtain ⟨t, _, h⟩ := Option.bind_eq_some_iff.1 h
    have := tks_le h; omega
  rw [if_neg c10] at h
  by_cases c11 : x.Code = 34
  · rw [if_pos c11] at h
    obtain ⟨t, _, h⟩ := Option.bind_eq_some_iff.1 h
    have := tg_grow h; simp only [List.length_cons, List.length_nil] at this; omega
  rw [if_neg c11] at h
  by_cases c12 : x.Code = 35
  · rw [if_pos c12] at h
    obtain ⟨t, _, rfl⟩ := Option.map_eq_some_iff.1 h
    rw [giveS_len]; simp only [List.length_cons, List.length_nil]; omega
  rw [if_neg c12] at h
  by_cases c13 : x.Code = 36
  · rw [if_pos c13] at h
    obtain ⟨t, _, h⟩ := Option.bind_eq_some_iff.1 h
    obtain ⟨mu, _, h⟩ := Option.bind_eq_some_iff.1 h
    split at h
    · have := tks_le h; omega
    · cases h
  rw [if_neg c13] at h
  by_cases c14 : formR x.Code < 8 ∨ 10 < formR x.Code
  · rw [if_pos c14] at h
    have := tg_grow h; omega
  · rw [if_neg c14] at h; exact memS_grow ht h
def FewF (fs : List FrC) : Prop := ∀ k ∈ fs, k.res.length ≤ 20
theorem labF_few {fs : List FrC} (h : FewF fs) : ∀ w ∈ fs.map labF, w.length ≤ 20 := fun w hw => by
 obtain ⟨k, hk, rfl⟩ := List.mem_map.1 hw
 unfold labF
 split
 · simp
 · exact h k hk
theorem stepF_grow {fs fs' : List FrC} {b : FrC} {rr : InstrD → List UInt8} (hr : (rr x).length ≤ 20) (hb : FewF (fs ++ [b])) (hF : ∀ g ∈ v.Funcs, g.R.length ≤ 20) (hS : ∀ g ∈ v.Sigs, g.R.length ≤ 20) (ht : (takesR x.Code).2.length ≤ 20)
    (h : stepF (·.Code) rr (plS v) x fs b = some fs') : FewF fs' ∧ hgtF fs' ≤ hgtF (fs ++ [b]) + 20 ∧ fs'.length ≤ fs.length + 2 := by
  have hbl : b.res.length ≤ 20 := hb b (by simp)
  have hfs : FewF fs := fun k hk => hb k (by simp [hk])
  rw [hgtF_snoc]
  unfold stepF at h
  split at h
  · split at h
    · simp only [Option.some.injEq] at h
      subst h
      rcases List.eq_nil_or_concat fs with rfl | ⟨gs, t, rfl⟩
      · exact ⟨fun k hk => by simp at hk, by simp [hgtF], by simp⟩
      · simp only [List.concat_eq_append, List.getLast?_append, List.getLast?_singleton, Option.some_or, List.dropLast_concat]
        refine ⟨fun k hk => ?_, ?_, by simp⟩
        · rcases List.mem_append.1 hk with hk | hk
          · exact hfs k (by simp [hk])
          · simp only [List.mem_singleton] at hk; subst hk; exact hfs t (by simp)
        · rw [hgtF_snoc, hgtF_snoc]; simp only [giveS_len]; omega
    · cases h
  split at h
  · split at h
    · simp only [Option.some.injEq] at h
      subst h
      refine ⟨fun k hk => ?_, ?_, by simp⟩
      · rcases List.mem_append.1 hk with hk | hk
        · exact hfs k hk
        · simp only [List.mem_singleton] at hk; subst hk; exact hbl
      · rw [hgtF_snoc]; simp only [List.length_nil]; omega
    · cases h
  split at h
  · obtain ⟨s, h1, rfl⟩ := Option.map_eq_some_iff.1 h
    have hs : s.1.length ≤ b.st.1.length := by
      split at h1
      · exact tks_le h1
      · cases h1; exact Nat.le_refl _
    refine ⟨fun k hk => ?_, ?_, by simp⟩
    · rcases List.mem_append.1 hk with hk | hk
      · rcases List.mem_append.1 hk with hk | hk
        · exact hfs k hk
        · simp only [List.mem_singleton] at hk; subst hk; exact hbl
      · simp only [List.mem_singleton] at hk; subst hk; exact hr
    · rw [hgtF_snoc, hgtF_snoc]; simp only [List.length_nil]; omega
  · obtain ⟨s, h1, rfl⟩ := Option.map_eq_some_iff.1 h
    have hs := plS_grow (labF_few hb) hF hS ht h1
    refine ⟨fun k hk => ?_, ?_, by simp⟩
    · rcases List.mem_append.1 hk with hk | hk
      · exact hfs k hk
      · simp only [List.mem_singleton] at hk; subst hk; exact hbl
    · rw [hgtF_snoc]; simp only; omega
end Go.Hl
end
section
namespace Go.Hl
open Go.RowKit
def encInfoP (x : InfoD) (g : SB) : List VP := [intV .i64 x.Code, strV x.Name, intV .i64 x.Form, exactV (sval g x.Takes.length), sliceV 1 encU8 x.Gives]
instance (x : InfoD) (g : SB) : FlatL (encInfoP x g) := ⟨fun q h => by simp only [encInfoP, List.mem_cons, List.not_mem_nil, or_false] at h; rcases h with h | h | h | h | h <;> subst h <;> infer_instance⟩
theorem takes_8 {c : Int} (h : formR c = 8) : ∃ t tl, (takesR c).1 = t :: tl := by
 have hc : 40 ≤ c ∧ c ≤ 62 := by
  unfold formR at h
  repeat' split at h
  all_goals first | omega | assumption
 unfold takesR
 rw [if_neg (by omega)]
 by_cases h1 : c = 40 ∨ 44 ≤ c ∧ c ≤ 47
 · rw [if_pos h1]; exact ⟨_, _, rfl⟩
 rw [if_neg h1]
 by_cases h2 : c = 41 ∨ 48 ≤ c ∧ c ≤ 53
 · rw [if_pos h2]; exact ⟨_, _, rfl⟩
 rw [if_neg h2]
 by_cases h3 : (c = 54 ∨ c = 58) ∨ c = 59
 · rw [if_pos h3]; exact ⟨_, _, rfl⟩
 rw [if_neg h3, if_pos hc.2]
 exact ⟨_, _, rfl⟩
theorem pow_fit {a : Int} (h : a < 8) : IntKind.i64.wrap (1 * 2 ^ a.toNat) = 2 ^ a.toNat := by
 have : a.toNat = 0 ∨ a.toNat = 1 ∨ a.toNat = 2 ∨ a.toNat = 3 ∨ a.toNat = 4 ∨ a.toNat = 5 ∨ a.toNat = 6 ∨ a.toNat = 7 := by omega
 rcases this with h | h | h | h | h | h | h | h <;> rw [h] <;> decide
theorem pow_big {a : Int} (h : ¬ a < 8) : (256 : Int) ≤ 2 ^ a.toNat := by
 have h8 : 8 ≤ a.toNat := by omega
 have h9 : 2 ^ 8 ≤ 2 ^ a.toNat := Nat.pow_le_pow_right (by decide) h8
 have : ((2 ^ a.toNat : Nat) : Int) = 2 ^ a.toNat := by simp
 omega
theorem widthR_le (c : Int) : widthR c ≤ 8 := by unfold widthR; repeat (first | split | omega)
variable {x : InstrD}
theorem width_ok : (x.Align < 8 ∧ 2 ^ x.Align.toNat ≤ (widthO x.Code).getD 0) ↔ ¬ widthR x.Code < 2 ^ x.Align.toNat := by
 rw [(width_iff x.Code).1]
 constructor
 · rintro ⟨h1, h2⟩; omega
 · intro h
   refine ⟨Classical.byContradiction fun h8 => ?_, by omega⟩
   have := pow_big h8
   have := widthR_le x.Code
   omega
abbrev CkT := SB × SB × List UInt8 × List BkD
abbrev ckZ (cb : Nat) (m : ModD) (f : FuncD) (z : CkT) : List HP := ckG cb m f z.1 z.2.1 z.2.2.1 z.2.2.2
def stepP (m : ModD) (f : FuncD) (x : InstrD) (fs : List FrC) (b : FrC) (z : CkT) : Prop := ∃ fs', stepX m f x fs b = some fs' ∧ StOf fs' z.2.2.1 z.2.2.2
variable {fs : List FrC}
theorem stepP_top {m : ModD} {f : FuncD} {b : FrC} {gs gb : SB} {s : Stk} (h11 : x.Code ≠ 11) (h5 : x.Code ≠ 5) (ho : ¬ opensC x.Code) (h : plS (envD m f) x b.st ((fs ++ [b]).map labF) = some s) :
    stepP m f x fs b (gs, gb, stkF fs ++ s.1, bksF fs ++ [bkF (stkF fs).length b s]) := ⟨_, by rw [stepX_pl h11 h5 ho, h]; rfl, stOf_top fs b s⟩
theorem stepX_pl_no {m : ModD} {f : FuncD} {b : FrC} (h11 : x.Code ≠ 11) (h5 : x.Code ≠ 5) (ho : ¬ opensC x.Code) (h : plS (envD m f) x b.st ((fs ++ [b]).map labF) = none) : stepX m f x fs b = none := by rw [stepX_pl h11 h5 ho, h]; rfl
theorem few_lab {n : Int} {w : List UInt8} (h : FewF fs) (hw : labAt (fs.map labF) n = some w) : w.length ≤ 20 := labF_few h w (labAt_mem hw)
end Go.Hl
end
section
namespace Go.Hl
def bareI (x : InstrD) : Prop := x.Align = 0 ∧ x.L = []
def rightF (x : InstrD) (f : Int) : Prop :=
 (f = 0 ∧ x.A = 0 ∧ x.B = 0 ∧ bareI x) ∨ (f = 1 ∧ (x.A = 64 ∨ x.A = 127 ∨ x.A = 126) ∧ x.B = 0 ∧ bareI x) ∨
 ((f = 2 ∨ f = 4 ∨ f = 6 ∨ f = 7 ∨ f = 9) ∧ sml x.A ∧ x.B = 0 ∧ bareI x) ∨
 (f = 3 ∧ sml x.A ∧ (∀ n ∈ x.L, sml n) ∧ x.L.length ≤ 100 ∧ x.B = 0 ∧ x.Align = 0) ∨
 ((f = 5 ∨ f = 10) ∧ sml x.A ∧ sml x.B ∧ bareI x) ∨ (f = 8 ∧ sml x.A ∧ 0 ≤ x.Align ∧ x.Align ≤ 31 ∧ x.L = []) ∨
 (f = 11 ∧ (x.Code = 66 ∨ sml x.A) ∧ x.B = 0 ∧ bareI x)
theorem rightI_form {x : InstrD} (hA : 0 ≤ x.A) (hB : 0 ≤ x.B) (hf : 0 ≤ formR x.Code ∧ formR x.Code ≤ 11) (h66 : formR x.Code = 11 → x.Code = 65 ∨ x.Code = 66) (h65 : x.Code = 65 → formR x.Code = 11) :
    rightI x ↔ nameR x.Code ≠ [] ∧ rightF x (formR x.Code) := by
  unfold rightI rightF bareI
  generalize formR x.Code = f at *
  refine and_congr_right fun _ => ?_
  simp only [sml]
  have hL : x.L = [] → ∀ n ∈ x.L, n ≤ 4294967295 := fun e n h => by rw [e] at h; cases h
  obtain ⟨h0, h1⟩ := hf
  have hc : f = 0 ∨ f = 1 ∨ f = 2 ∨ f = 3 ∨ f = 4 ∨ f = 5 ∨ f = 6 ∨ f = 7 ∨ f = 8 ∨ f = 9 ∨ f = 10 ∨ f = 11 := by omega
  generalize hQ : (∀ n ∈ x.L, n ≤ 4294967295) = Q at *
  generalize hE : (x.L = []) = E at *
  have hlen : E → x.L.length ≤ 100 := fun h => by rw [← hE] at h; simp [h]
  rcases hc with rfl | rfl | rfl | rfl | rfl | rfl | rfl | rfl | rfl | rfl | rfl | rfl <;> simp at h65 h66 ⊢ <;> (by_cases e : E <;> by_cases q : Q <;> simp [e, q] at hL hlen ⊢) <;> omega
def runStep (out : List (Nat × UInt8)) (t : UInt8) : List (Nat × UInt8) :=
 match out.getLast? with
 | none => [(1, t)]
 | some p => if p.2 = t then out.dropLast ++ [(p.1 + 1, t)] else out ++ [(1, t)]
theorem runStep_snoc (o : List (Nat × UInt8)) (n : Nat) (t t' : UInt8) : runStep (o ++ [(n, t)]) t' = o ++ runStep [(n, t)] t' := by
 simp only [runStep, List.getLast?_append, List.getLast?_singleton, Option.some_or]
 split <;> simp_all
theorem runs_snoc (l : List UInt8) : ∀ (o : List (Nat × UInt8)) (n : Nat) (t : UInt8), l.foldl runStep (o ++ [(n, t)]) = o ++ l.foldl runStep [(n, t)] := by
 induction l with
 | nil => intros; rfl
 | cons a l ih =>
  intro o n t
  simp only [List.foldl_cons, runStep_snoc]
  by_cases h : t = a
  · subst h
    have e : runStep [(n, t)] t = [(n + 1, t)] := by simp [runStep]
    rw [e, ih]
  · have e : runStep [(n, t)] a = [(n, t)] ++ [(1, a)] := by simp [runStep, h]
    rw [e, ih [(n, t)] 1 a, ← List.append_assoc, ih (o ++ [(n, t)]) 1 a, List.append_assoc]
theorem runsB_ne (t : UInt8) (l : List UInt8) : ∃ n r, runsB (t :: l) = (n + 1) :: r := by
 simp only [runsB]
 split
 · split
   · exact ⟨_, _, rfl⟩
   · exact ⟨0, _, rfl⟩
 · exact ⟨0, [], rfl⟩
theorem runs_map (l : List UInt8) : ∀ (n : Nat) (t : UInt8) (k : Nat) (r : List Nat), runsB (t :: l) = (k + 1) :: r → (l.foldl runStep [(n, t)]).map Prod.fst = (n + k) :: r := by
 induction l with
 | nil => intro n t k r h; simp [runsB] at h; obtain ⟨rfl, rfl⟩ := h; simp
 | cons a l ih =>
  intro n t k r h
  obtain ⟨n2, r2, e2⟩ := runsB_ne a l
  have h' : runsB (t :: a :: l) = if a = t then (n2 + 1 + 1) :: r2 else 1 :: (n2 + 1) :: r2 := by
   rw [runsB]; simp only [e2]
  rw [h'] at h
  simp only [List.foldl_cons]
  by_cases e : a = t
  · subst e
    simp only [if_true, List.cons.injEq] at h
    have e3 : runStep [(n, a)] a = [(n + 1, a)] := by simp [runStep]
    rw [e3, ih (n + 1) a n2 r2 e2]
    obtain ⟨h1, rfl⟩ := h
    congr 1; omega
  · simp only [e, if_false, List.cons.injEq] at h
    have e3 : runStep [(n, t)] a = [(n, t)] ++ [(1, a)] := by simp [runStep, Ne.symm e]
    rw [e3, runs_snoc, List.map_append, ih 1 a n2 r2 e2]
    obtain ⟨h1, rfl⟩ := h
    simp; omega
theorem runs_eq (l : List UInt8) : (l.foldl runStep []).map Prod.fst = runsB l := by
 cases l with
 | nil => rfl
 | cons t l =>
  obtain ⟨n, r, e⟩ := runsB_ne t l
  have : runStep [] t = [(1, t)] := rfl
  rw [List.foldl_cons, this, runs_map l 1 t n r e, e]; congr 1; omega
end Go.Hl
end
