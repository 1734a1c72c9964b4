/-
  The data of modules, as plain structures, and how they lie in cells. No project text.
-/
import Derived.Test.YtgmpadhfgohodaaDoorHlN
namespace Go.Hl
set_option linter.unusedVariables false

def encInt (n : Int) : List VP := [intV .i64 n]
def encU64 (n : Int) : List VP := [intV .u64 n]
structure SigD where
  P : List UInt8
  R : List UInt8
def encSig (s : SigD) : List VP := [sliceV 1 encU8 s.P, sliceV 1 encU8 s.R]
structure ImportD where
  Module : List UInt8
  Name : List UInt8
  Sig : Int
def encImport (x : ImportD) : List VP := [strV x.Module, strV x.Name, intV .i64 x.Sig]
structure InstrD where
  Code : Int
  A : Int
  B : Int
  Align : Int
  L : List Int
def encInstr (x : InstrD) : List VP := [intV .i64 x.Code, intV .u64 x.A, intV .u64 x.B, intV .i64 x.Align, sliceV 1 encU64 x.L]
structure BodyD where
  Locals : List UInt8
  L : List InstrD
def encBody (x : BodyD) : List VP := [sliceV 1 encU8 x.Locals, sliceV 5 encInstr x.L]
structure FuncD where
  Sig : Int
  Body : BodyD
def encFunc (x : FuncD) : List VP := [intV .i64 x.Sig, sliceV 1 encU8 x.Body.Locals, sliceV 5 encInstr x.Body.L]
structure LimitsD where
  Min : Int
  Max : Int
  Wide : Prop
def encLimits (x : LimitsD) : List VP := [intV .i64 x.Min, intV .i64 x.Max, propV x.Wide]
structure GlobalD where
  Ty : UInt8
  Mutable : Prop
  Value : Int
def encGlobal (x : GlobalD) : List VP := [intV .u8 (x.Ty.toNat : Int), propV x.Mutable, intV .u64 x.Value]
structure ExportD where
  Name : List UInt8
  Kind : Int
  Index : Int
def encExport (x : ExportD) : List VP := [strV x.Name, intV .i64 x.Kind, intV .i64 x.Index]
structure ElemD where
  At : Int
  Funcs : List Int
def encElem (x : ElemD) : List VP := [intV .u64 x.At, sliceV 1 encInt x.Funcs]
structure DataD where
  Mem : Int
  At : Int
  Bytes : List UInt8
def encData (x : DataD) : List VP := [intV .i64 x.Mem, intV .u64 x.At, sliceV 1 encU8 x.Bytes]
structure ModD where
  Sigs : List SigD
  Imports : List ImportD
  Funcs : List FuncD
  Table : Int
  Mems : List LimitsD
  Globals : List GlobalD
  Exports : List ExportD
  Start : Int
  Elems : List ElemD
  Datas : List DataD
def encMod (m : ModD) : List VP := [sliceV 2 encSig m.Sigs, sliceV 3 encImport m.Imports, sliceV 3 encFunc m.Funcs, intV .i64 m.Table, sliceV 3 encLimits m.Mems, sliceV 3 encGlobal m.Globals, sliceV 3 encExport m.Exports, intV .i64 m.Start, sliceV 2 encElem m.Elems, sliceV 3 encData m.Datas]

instance : Enc 1 encInt := ⟨fun _ => rfl, fun x q h => by simp only [encInt, List.mem_cons, List.not_mem_nil, or_false] at h; rw [h]; infer_instance⟩
instance : Enc 1 encU64 := ⟨fun _ => rfl, fun x q h => by simp only [encU64, List.mem_cons, List.not_mem_nil, or_false] at h; rw [h]; infer_instance⟩
instance : Enc 2 encSig := ⟨fun _ => rfl, fun x q h => by simp only [encSig, List.mem_cons, List.not_mem_nil, or_false] at h; rcases h with h | h <;> rw [h] <;> infer_instance⟩
instance : Enc 3 encImport := ⟨fun _ => rfl, fun x q h => by simp only [encImport, List.mem_cons, List.not_mem_nil, or_false] at h; rcases h with h | h | h <;> rw [h] <;> infer_instance⟩
instance : Enc 5 encInstr := ⟨fun _ => rfl, fun x q h => by simp only [encInstr, List.mem_cons, List.not_mem_nil, or_false] at h; rcases h with h | h | h | h | h <;> rw [h] <;> infer_instance⟩
instance : Enc 2 encBody := ⟨fun _ => rfl, fun x q h => by simp only [encBody, List.mem_cons, List.not_mem_nil, or_false] at h; rcases h with h | h <;> rw [h] <;> infer_instance⟩
instance : Enc 3 encFunc := ⟨fun _ => rfl, fun x q h => by simp only [encFunc, List.mem_cons, List.not_mem_nil, or_false] at h; rcases h with h | h | h <;> rw [h] <;> infer_instance⟩
instance : Enc 3 encLimits := ⟨fun _ => rfl, fun x q h => by simp only [encLimits, List.mem_cons, List.not_mem_nil, or_false] at h; rcases h with h | h | h <;> rw [h] <;> infer_instance⟩
instance : Enc 3 encGlobal := ⟨fun _ => rfl, fun x q h => by simp only [encGlobal, List.mem_cons, List.not_mem_nil, or_false] at h; rcases h with h | h | h <;> rw [h] <;> infer_instance⟩
instance : Enc 3 encExport := ⟨fun _ => rfl, fun x q h => by simp only [encExport, List.mem_cons, List.not_mem_nil, or_false] at h; rcases h with h | h | h <;> rw [h] <;> infer_instance⟩
instance : Enc 2 encElem := ⟨fun _ => rfl, fun x q h => by simp only [encElem, List.mem_cons, List.not_mem_nil, or_false] at h; rcases h with h | h <;> rw [h] <;> infer_instance⟩
instance : Enc 3 encData := ⟨fun _ => rfl, fun x q h => by simp only [encData, List.mem_cons, List.not_mem_nil, or_false] at h; rcases h with h | h | h <;> rw [h] <;> infer_instance⟩
theorem FlatL.of {α : Type} {n : Nat} {enc : α → List VP} [h : Enc n enc] (x : α) : FlatL (enc x) := ⟨fun q hq => h.flat x q hq⟩
instance (x : SigD) : FlatL (encSig x) := FlatL.of x
instance (x : ImportD) : FlatL (encImport x) := FlatL.of x
instance (x : InstrD) : FlatL (encInstr x) := FlatL.of x
instance (x : BodyD) : FlatL (encBody x) := FlatL.of x
instance (x : FuncD) : FlatL (encFunc x) := FlatL.of x
instance (x : LimitsD) : FlatL (encLimits x) := FlatL.of x
instance (x : GlobalD) : FlatL (encGlobal x) := FlatL.of x
instance (x : ExportD) : FlatL (encExport x) := FlatL.of x
instance (x : ElemD) : FlatL (encElem x) := FlatL.of x
instance (x : DataD) : FlatL (encData x) := FlatL.of x

/-! ### what the functions say -/
/-- types are right, and not too many -/
def TypedP (l : List UInt8) : Prop := l.length ≤ 20 ∧ ∀ b ∈ l, b = 126 ∨ b = 127
/-- a text may be a name -/
def NamedP (l : List UInt8) : Prop := (∀ b ∈ l, 33 ≤ b.toNat ∧ b.toNat ≤ 126) ∧ l ≠ [] ∧ l.length ≤ 30
def InP (n many : Int) : Prop := 0 ≤ n ∧ n < many
def LimitsP (l : LimitsD) (most : Int) : Prop := 0 ≤ l.Min ∧ l.Min ≤ most ∧ (l.Max < 0 ∨ l.Min ≤ l.Max ∧ l.Max ≤ most)
end Go.Hl
namespace Go.Hl
set_option linter.unusedVariables false
/-! ### a module's parts -/
def manyE (n : Nat) (most : Int) (g : Nat → Int) : Int := if most < (n : Int) then 15 else firstE g n
theorem manyE_zero {n : Nat} {most : Int} {g : Nat → Int} : manyE n most g = 0 ↔ (n : Int) ≤ most ∧ firstE g n = 0 := by
  unfold manyE; split
  · constructor
    · intro h; cases h
    · rintro ⟨h, _⟩; omega
  · constructor
    · intro h; exact ⟨by omega, h⟩
    · exact fun h => h.2
def countM (m : ModD) : Int := (m.Imports.length : Int) + (m.Funcs.length : Int)
def RightP (s : SigD) : Prop := TypedP s.P ∧ TypedP s.R
noncomputable def sigE (s : SigD) : Int := whenE (¬ RightP s) 5
noncomputable def sigsE (m : ModD) : Int := manyE m.Sigs.length 50 (onI m.Sigs sigE)
open Classical in
noncomputable def importE (m : ModD) (x : ImportD) : Int := if ¬ NamedP x.Module ∨ ¬ NamedP x.Name then 16 else whenE (¬ InP x.Sig m.Sigs.length) 2
noncomputable def importsE (m : ModD) : Int := manyE m.Imports.length 20 (onI m.Imports (importE m))
noncomputable def funcE (m : ModD) (x : FuncD) : Int := whenE (¬ InP x.Sig m.Sigs.length) 2
noncomputable def funcsE (m : ModD) : Int := if 100 < countM m then 15 else firstE (onI m.Funcs (funcE m)) m.Funcs.length
noncomputable def tableE (m : ModD) : Int := if m.Table < -1 then 2 else whenE (1000 < m.Table) 15
noncomputable def memE (x : LimitsD) : Int := whenE (¬ LimitsP x 65536) 5
noncomputable def memsE (m : ModD) : Int := manyE m.Mems.length 4 (onI m.Mems memE)
def bitsI (t : UInt8) : Int := if (t.toNat : Int) = 127 then 32 else if (t.toNat : Int) = 126 then 64 else 0
theorem bitsI_zero (b : UInt8) : bitsI b = 0 ↔ ¬ (b = 126 ∨ b = 127) := by
  unfold bitsI
  by_cases h1 : (b.toNat : Int) = 127
  · have e : b = 127 := UInt8.toNat_inj.1 (by simp; omega)
    subst e; simp
  · by_cases h2 : (b.toNat : Int) = 126
    · have e : b = 126 := UInt8.toNat_inj.1 (by simp; omega)
      subst e; simp
    · rw [if_neg h1, if_neg h2]
      simp only [true_iff]
      rintro (e | e) <;> subst e <;> simp at h1 h2
theorem typed_iff {l : List UInt8} : ((l.length : Int) ≤ 20 ∧ ¬ ∃ x ∈ l, bitsI x = 0) ↔ TypedP l := by
  unfold TypedP
  simp only [not_exists, not_and, bitsI_zero, Classical.not_not]
  constructor <;> (rintro ⟨h1, h2⟩; exact ⟨by omega, h2⟩)
noncomputable def globalE (x : GlobalD) : Int := whenE (bitsI x.Ty = 0 ∨ (x.Ty.toNat : Int) = 127 ∧ 4294967295 < x.Value) 5
noncomputable def globalsE (m : ModD) : Int := manyE m.Globals.length 50 (onI m.Globals globalE)
def cnt (m : ModD) : Nat → Int
  | 0 => countM m
  | 1 => min (IntKind.i64.wrap (m.Table + 1)) 1
  | 2 => (m.Mems.length : Int)
  | _ => (m.Globals.length : Int)
def kindJ (k : Int) : Nat := (max (min k 3) 0).toNat
def ExportP (m : ModD) (x : ExportD) : Prop := InP x.Kind 4 ∧ InP x.Index (cnt m (kindJ x.Kind))
open Classical in
noncomputable def exportE (m : ModD) (i : Nat) : Int := match m.Exports[i]? with
  | none => 0
  | some x => if ¬ NamedP x.Name ∨ (∃ y ∈ m.Exports.take i, y.Name = x.Name) then 16 else whenE (¬ ExportP m x) 2
noncomputable def exportsE (m : ModD) : Int := manyE m.Exports.length 50 (exportE m)
/-- the number of a function's signature -/
def numberO (m : ModD) (f : Int) : Option Int :=
  if f < 0 ∨ countM m ≤ f then none else if f < (m.Imports.length : Int) then (m.Imports[f.toNat]?).map (·.Sig) else (m.Funcs[(f - (m.Imports.length : Int)).toNat]?).map (·.Sig)
def sigO (m : ModD) (f : Int) : Option SigD := match numberO m f with
  | none => none
  | some n => if 0 ≤ n then m.Sigs[n.toNat]? else none
noncomputable def startE (m : ModD) : Int := if m.Start = -1 then 0 else match sigO m m.Start with
  | none => 2
  | some s => whenE (0 < (s.P.length : Int) + (s.R.length : Int)) 5
open Classical in
noncomputable def elemE (m : ModD) (x : ElemD) : Int := if 20 < (x.Funcs.length : Int) then 15 else whenE (m.Table = -1 ∨ (∃ f ∈ x.Funcs, ¬ InP f (countM m)) ∨ 4294967295 < x.At) 2
noncomputable def elemsE (m : ModD) : Int := manyE m.Elems.length 20 (onI m.Elems (elemE m))
open Classical in
noncomputable def dataE (m : ModD) (x : DataD) : Int := if 4096 < (x.Bytes.length : Int) then 15 else
  whenE (¬ InP x.Mem m.Mems.length ∨ (∃ y, m.Mems[x.Mem.toNat]? = some y ∧ ¬ y.Wide ∧ 4294967295 < x.At)) 2
noncomputable def datasE (m : ModD) : Int := manyE m.Datas.length 20 (onI m.Datas (dataE m))
end Go.Hl

namespace Go.Hl
set_option linter.unusedVariables false
theorem ptrV_len {cs : List VP} {S : BS} {w : World} {v : Value} (h : (ptrV cs).p S w v) {α : Type} {n : Nat} {enc : α → List VP} {xs : List α} (j : Nat) (hj : cs[j]? = some (sliceV n enc xs)) : xs.length ≤ 281474976710656 := by
  obtain ⟨b, off, _, _, hc⟩ := h
  obtain ⟨u, _, hq⟩ := hc j _ hj
  exact sliceV_len hq
theorem aggV_len {cs : List VP} {S : BS} {w : World} {v : Value} (h : (aggV cs).p S w v) {α : Type} {n : Nat} {enc : α → List VP} {xs : List α} (j : Nat) (hj : cs[j]? = some (sliceV n enc xs)) : xs.length ≤ 281474976710656 := by
  obtain ⟨arr, _, _, hc⟩ := h
  obtain ⟨u, _, hq⟩ := hc j _ hj
  exact sliceV_len hq
theorem ptrV_in {q : VP} {S : BS} {w : World} {v : Value} (h : (ptrV [q]).p S w v) : ∃ u, q.p S w u := by
  obtain ⟨b, off, _, _, hc⟩ := h
  obtain ⟨u, _, hq⟩ := hc 0 _ rfl
  exact ⟨u, hq⟩
structure ModLens (m : ModD) : Prop where
  sigs : m.Sigs.length ≤ 281474976710656
  imports : m.Imports.length ≤ 281474976710656
  funcs : m.Funcs.length ≤ 281474976710656
  mems : m.Mems.length ≤ 281474976710656
  globals : m.Globals.length ≤ 281474976710656
  exports : m.Exports.length ≤ 281474976710656
  elems : m.Elems.length ≤ 281474976710656
  datas : m.Datas.length ≤ 281474976710656
theorem modLens {m : ModD} {S : BS} {w : World} {v : Value} (h : (ptrV (encMod m)).p S w v) : ModLens m :=
  ⟨ptrV_len h 0 rfl, ptrV_len h 1 rfl, ptrV_len h 2 rfl, ptrV_len h 4 rfl, ptrV_len h 5 rfl, ptrV_len h 6 rfl, ptrV_len h 8 rfl, ptrV_len h 9 rfl⟩
theorem modLens2 {m : ModD} {S : BS} {w : World} {v : Value} (h : (ptrV [ptrV (encMod m)]).p S w v) : ModLens m := let ⟨_, h⟩ := ptrV_in h; modLens h
theorem modLensA {m : ModD} {S : BS} {w : World} {v : Value} (h : (aggV (encMod m)).p S w v) : ModLens m :=
  ⟨aggV_len h 0 rfl, aggV_len h 1 rfl, aggV_len h 2 rfl, aggV_len h 4 rfl, aggV_len h 5 rfl, aggV_len h 6 rfl, aggV_len h 8 rfl, aggV_len h 9 rfl⟩
end Go.Hl

namespace Go.Hl
theorem named_bad {l : List UInt8} {k : Nat} {x : UInt8} (hx : l[k]? = some x) (h : (x.toNat : Int) < 33 ∨ 126 < (x.toNat : Int)) : NamedP l ↔ False := by
  constructor
  · intro hn; have := hn.1 x (List.mem_of_getElem? hx); omega
  · exact False.elim
theorem named_all {l : List UInt8} (h : ∀ x ∈ l, ¬ ((x.toNat : Int) < 33 ∨ 126 < (x.toNat : Int))) : ∀ b ∈ l, 33 ≤ b.toNat ∧ b.toNat ≤ 126 := fun b hb => by have := h b hb; omega
theorem named_iff {l : List UInt8} (h : ∀ x ∈ l, ¬ ((x.toNat : Int) < 33 ∨ 126 < (x.toNat : Int))) : (l ≠ [] ∧ (l.length : Int) ≤ 30) ↔ NamedP l := by
  have := named_all h
  unfold NamedP
  constructor
  · rintro ⟨h1, h2⟩; exact ⟨this, h1, by omega⟩
  · rintro ⟨_, h1, h2⟩; exact ⟨h1, by omega⟩
theorem named_iff2 {l : List UInt8} (h : ∀ x ∈ l, ¬ ((x.toNat : Int) < 33 ∨ 126 < (x.toNat : Int))) : (0 < (l.length : Int) ∧ (l.length : Int) ≤ 30) ↔ NamedP l := by
  rw [← named_iff h]
  have : 0 < (l.length : Int) ↔ l ≠ [] := by
    rw [← List.length_pos_iff]; omega
  rw [this]
theorem typed_bad {l : List UInt8} {k : Nat} {x : UInt8} (hx : l[k]? = some x) (h : (x.toNat : Int) ≠ 126 ∧ (x.toNat : Int) ≠ 127) : TypedP l ↔ False := by
  constructor
  · intro hn; rcases hn.2 x (List.mem_of_getElem? hx) with e | e <;> subst e <;> simp at h
  · exact False.elim
theorem typed_iff2 {l : List UInt8} (h : ∀ x ∈ l, ¬ ((x.toNat : Int) ≠ 126 ∧ (x.toNat : Int) ≠ 127)) : (l.length : Int) ≤ 20 ↔ TypedP l := by
  unfold TypedP
  constructor
  · intro h1
    refine ⟨by omega, fun b hb => ?_⟩
    have := h b hb
    by_cases e : (b.toNat : Int) = 126
    · exact .inl (UInt8.toNat_inj.1 (by simp; omega))
    · exact .inr (UInt8.toNat_inj.1 (by simp; omega))
  · rintro ⟨h1, _⟩; omega
end Go.Hl

namespace Go.Hl
theorem numberO_import {m : ModD} {j : Nat} {x : ImportD} (hj : j < m.Imports.length) (hx : m.Imports[j]? = some x) : numberO m (j : Int) = some x.Sig := by
  unfold numberO countM
  rw [if_neg (by omega), if_pos (by omega)]
  simp [hx]
theorem numberO_func {m : ModD} {j : Nat} {x : FuncD} (hx : m.Funcs[j]? = some x) : numberO m ((m.Imports.length : Int) + (j : Int)) = some x.Sig := by
  have := (List.getElem?_eq_some_iff.1 hx).1
  unfold numberO countM
  rw [if_neg (by omega), if_neg (by omega)]
  rw [show ((m.Imports.length : Int) + (j : Int) - (m.Imports.length : Int)).toNat = j by omega]
  simp [hx]
theorem sigO_none {m : ModD} {f : Int} (h : ¬ (numberO m f).isSome ∨ ¬ InP ((numberO m f).getD 0) m.Sigs.length) : sigO m f = none := by
  unfold sigO
  cases hn : numberO m f with
  | none => rfl
  | some n =>
    rw [hn] at h
    simp only [Option.isSome_some, not_true, false_or, Option.getD_some] at h
    unfold InP at h
    simp only
    split
    · rw [List.getElem?_eq_none (by omega)]
    · rfl
theorem sigO_some {m : ModD} {f n : Int} {j : Nat} {x : SigD} (hn : numberO m f = some n) (hj : n = (j : Int)) (hx : m.Sigs[j]? = some x) : sigO m f = some x := by
  unfold sigO
  rw [hn]; subst hj; simp [hx]
theorem VLe.agg2 {a b c d : VP} (h1 : VLe a c) (h2 : VLe b d) : VLe (aggV [a, b]) (aggV [c, d]) := fun S w v ⟨arr, hv, hn, hc⟩ => ⟨arr, hv, hn, fun j q hj => by
  match j, hj with
  | 0, hj => simp at hj; subst hj; obtain ⟨u, hu, hq⟩ := hc 0 a rfl; exact ⟨u, hu, h1 _ _ _ hq⟩
  | 1, hj => simp at hj; subst hj; obtain ⟨u, hu, hq⟩ := hc 1 b rfl; exact ⟨u, hu, h2 _ _ _ hq⟩⟩
theorem startE_none {m : ModD} (h0 : ¬ m.Start = -1) (h : ¬ (sigO m m.Start).isSome) : startE m = 2 := by
  unfold startE
  rw [if_neg h0]
  cases hs : sigO m m.Start with
  | none => rfl
  | some s => rw [hs] at h; simp at h
theorem startE_some {m : ModD} (h0 : ¬ m.Start = -1) (h : ¬ ¬ (sigO m m.Start).isSome) : startE m = whenE (0 < ((((sigO m m.Start).getD ⟨[], []⟩).P.length : Int) + (((sigO m m.Start).getD ⟨[], []⟩).R.length : Int))) 5 := by
  unfold startE
  rw [if_neg h0]
  cases hs : sigO m m.Start with
  | none => rw [hs] at h; simp at h
  | some s => rfl
end Go.Hl

namespace Go.Hl
theorem cnt_at (m : ModD) (j : Nat) (hj : j < 4) : [intV .i64 (cnt m 0), intV .i64 (cnt m 1), intV .i64 (cnt m 2), intV .i64 (cnt m 3)][j]? = some (intV .i64 (cnt m j)) := by
  match j, hj with
  | 0, _ => rfl
  | 1, _ => rfl
  | 2, _ => rfl
  | 3, _ => rfl
theorem exportE_name {m : ModD} {i : Nat} {x : ExportD} (hx : m.Exports[i]? = some x) (h : ¬ NamedP x.Name ∨ ∃ y ∈ m.Exports.take i, y.Name = x.Name) : exportE m i = 16 := by
  unfold exportE; rw [hx]; simp only; rw [if_pos h]
theorem exportE_rest {m : ModD} {i : Nat} {x : ExportD} (hx : m.Exports[i]? = some x) (h : ¬ (¬ NamedP x.Name ∨ ∃ y ∈ m.Exports.take i, y.Name = x.Name)) : exportE m i = whenE (¬ InP x.Kind 4 ∨ ¬ InP x.Index (cnt m (kindJ x.Kind))) 2 := by
  unfold exportE; rw [hx]; simp only; rw [if_neg h]
  congr 1; unfold ExportP; exact propext (by rw [Classical.not_and_iff_not_or_not])
theorem elemE_rest {m : ModD} {x : ElemD} (h : ¬ 20 < (x.Funcs.length : Int)) : elemE m x = whenE ((m.Table = -1 ∨ ∃ f ∈ x.Funcs, ¬ InP f (countM m)) ∨ 4294967295 < x.At) 2 := by
  unfold elemE; rw [if_neg h]; congr 1; exact propext (by rw [or_assoc])
theorem data_at {x : DataD} {n : Nat} (h : InP x.Mem n) : max (min x.Mem ((n : Int) - 1)) 0 = (x.Mem.toNat : Int) := by
  obtain ⟨h1, h2⟩ := h; omega
end Go.Hl
namespace Go.Hl
def memAt (m : ModD) (k : Nat) : LimitsD := (m.Mems[k]?).getD ⟨0, 0, False⟩
theorem data_mem {m : ModD} {x : DataD} (h : InP x.Mem m.Mems.length) : m.Mems[x.Mem.toNat]? = some (memAt m x.Mem.toNat) := by
  obtain ⟨h1, h2⟩ := h
  obtain ⟨y, hy⟩ := getElem?_lt (xs := m.Mems) (k := x.Mem.toNat) (by omega)
  unfold memAt; rw [hy]; rfl
theorem dataE_rest {m : ModD} {x : DataD} (h : ¬ 4096 < (x.Bytes.length : Int)) : dataE m x = whenE (¬ InP x.Mem m.Mems.length ∨ ¬ (memAt m x.Mem.toNat).Wide ∧ 4294967295 < x.At) 2 := by
  unfold dataE; rw [if_neg h]; congr 1; apply propext
  by_cases hi : InP x.Mem m.Mems.length
  · have := data_mem hi
    simp only [hi, not_true, false_or, this, Option.some.injEq, exists_eq_left']
  · simp only [hi, not_false_iff, true_or]
end Go.Hl
namespace Go.Hl
set_option linter.unusedVariables false
/-- two lists are the same, before a place -/
def EqB {α : Type} (a b : List α) (k : Nat) : Prop := ∀ i, i < k → a[i]? = b[i]?
theorem EqB.zero {α : Type} (a b : List α) : EqB a b 0 := fun i h => by omega
theorem EqB.succ {α : Type} {a b : List α} {k : Nat} {x y : α} (h : EqB a b k) (hx : a[k]? = some x) (hy : b[k]? = some y) (e : x = y) : EqB a b (k + 1) := fun i hi => by
  by_cases e1 : i = k
  · subst e1; rw [hx, hy, e]
  · exact h i (by omega)
theorem EqB.all {α : Type} {a b : List α} {k : Nat} (h : EqB a b k) (hl : a.length = b.length) (hk : a.length ≤ k) : a = b := by
  apply List.ext_getElem?
  intro i
  by_cases hi : i < a.length
  · exact h i (by omega)
  · rw [List.getElem?_eq_none (by omega), List.getElem?_eq_none (by omega)]
theorem ne_at {α : Type} {a b : List α} {k : Nat} {x y : α} (hx : a[k]? = some x) (hy : b[k]? = some y) (e : x ≠ y) : a = b ↔ False := by
  constructor
  · intro h; subst h; rw [hx] at hy; exact e (Option.some.inj hy)
  · exact False.elim
theorem ne_len {α : Type} {a b : List α} (h : (a.length : Int) ≠ (b.length : Int)) : a = b ↔ False := by
  constructor
  · intro e; subst e; exact h rfl
  · exact False.elim
theorem u8_eq {x y : UInt8} : ((x.toNat : Int) = (y.toNat : Int)) ↔ x = y := by
  constructor
  · intro h; exact UInt8.toNat_inj.1 (by omega)
  · intro h; rw [h]
theorem import_eq {x y : ImportD} : (x.Module = y.Module ∧ x.Name = y.Name ∧ x.Sig = y.Sig ∧ True) ↔ x = y := by
  constructor
  · rintro ⟨h1, h2, h3, _⟩; cases x; cases y; simp_all
  · intro h; subst h; simp
theorem limits_eq {x y : LimitsD} : (x.Min = y.Min ∧ x.Max = y.Max ∧ (x.Wide ↔ y.Wide) ∧ True) ↔ x = y := by
  constructor
  · rintro ⟨h1, h2, h3, _⟩; cases x; cases y; simp at h1 h2 h3 ⊢; exact ⟨h1, h2, h3⟩
  · intro h; subst h; simp
theorem global_eq {x y : GlobalD} : ((x.Ty.toNat : Int) = (y.Ty.toNat : Int) ∧ (x.Mutable ↔ y.Mutable) ∧ x.Value = y.Value ∧ True) ↔ x = y := by
  rw [u8_eq]
  constructor
  · rintro ⟨h1, h2, h3, _⟩; cases x; cases y; simp at h1 h2 h3 ⊢; exact ⟨h1, h2, h3⟩
  · intro h; subst h; simp
theorem export_eq {x y : ExportD} : (x.Name = y.Name ∧ x.Kind = y.Kind ∧ x.Index = y.Index ∧ True) ↔ x = y := by
  constructor
  · rintro ⟨h1, h2, h3, _⟩; cases x; cases y; simp_all
  · intro h; subst h; simp
theorem sig_eq {x y : SigD} : (x.P = y.P ∧ x.R = y.R) ↔ x = y := by
  constructor
  · rintro ⟨h1, h2⟩; cases x; cases y; simp_all
  · intro h; subst h; simp
theorem body_eq {x y : BodyD} : (x.Locals = y.Locals ∧ x.L = y.L) ↔ x = y := by
  constructor
  · rintro ⟨h1, h2⟩; cases x; cases y; simp_all
  · intro h; subst h; simp
theorem func_eq {x y : FuncD} : (x.Sig = y.Sig ∧ x.Body = y.Body) ↔ x = y := by
  constructor
  · rintro ⟨h1, h2⟩; cases x; cases y; simp_all
  · intro h; subst h; simp
theorem elem_eq {x y : ElemD} : (x.At = y.At ∧ x.Funcs = y.Funcs) ↔ x = y := by
  constructor
  · rintro ⟨h1, h2⟩; cases x; cases y; simp_all
  · intro h; subst h; simp
theorem data_eq {x y : DataD} : ((x.Mem = y.Mem ∧ x.At = y.At) ∧ x.Bytes = y.Bytes) ↔ x = y := by
  constructor
  · rintro ⟨⟨h1, h2⟩, h3⟩; cases x; cases y; simp_all
  · intro h; subst h; simp
theorem instr_eq {x y : InstrD} : ((((x.Code = y.Code ∧ x.A = y.A) ∧ x.B = y.B) ∧ x.Align = y.Align) ∧ x.L = y.L) ↔ x = y := by
  constructor
  · rintro ⟨⟨⟨⟨h1, h2⟩, h3⟩, h4⟩, h5⟩; cases x; cases y; simp_all
  · intro h; subst h; simp
theorem mod_eq {x y : ModD} : (((((((((x.Funcs = y.Funcs ∧ x.Elems = y.Elems) ∧ x.Datas = y.Datas) ∧ x.Sigs = y.Sigs) ∧ x.Imports = y.Imports) ∧ x.Table = y.Table) ∧ x.Mems = y.Mems) ∧ x.Globals = y.Globals) ∧ x.Exports = y.Exports) ∧ x.Start = y.Start) ↔ x = y := by
  constructor
  · rintro ⟨⟨⟨⟨⟨⟨⟨⟨⟨h1, h2⟩, h3⟩, h4⟩, h5⟩, h6⟩, h7⟩, h8⟩, h9⟩, h10⟩; cases x; cases y; simp_all
  · intro h; subst h; simp
/-- the first export of a name -/
def findO (m : ModD) (l : List UInt8) : Option ExportD := m.Exports.find? fun x => x.Name == l
theorem find_at {m : ModD} {l : List UInt8} {k : Nat} {x : ExportD} (h : NotB (fun x : ExportD => x.Name = l) m.Exports k) (hx : m.Exports[k]? = some x) (hn : x.Name = l) : findO m l = some x := by
  unfold findO
  generalize m.Exports = xs at *
  induction xs generalizing k with
  | nil => simp at hx
  | cons y xs ih =>
    cases k with
    | zero => simp at hx; subst hx; simp [hn]
    | succ k =>
      have h0 := h 0 y (by omega) rfl
      rw [List.find?_cons_of_neg (by simpa using h0)]
      exact ih (k := k) (fun j z hj hz => h (j + 1) z (by omega) (by simpa using hz)) (by simpa using hx)
theorem find_none {m : ModD} {l : List UInt8} (h : ∀ x ∈ m.Exports, ¬ x.Name = l) : findO m l = none := by
  unfold findO; exact List.find?_eq_none.2 fun x hx => by simpa using h x hx
end Go.Hl
