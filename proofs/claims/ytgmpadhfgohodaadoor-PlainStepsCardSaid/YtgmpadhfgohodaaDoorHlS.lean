/-
  Rules for strings: parts of them, the library's search for a byte. No project text.
-/
import Derived.Test.YtgmpadhfgohodaaDoorHlI
import Derived.Lib.Bytealg
namespace Go.Hl
open Go.RowKit
set_option linter.unusedVariables false

section
variable {P : Program} {hs : List HP} {env : Env} {q : VP} {dst : Option Tmp} {ty T T' E : TypeId} {pos : String} {after : Array Edge} {gd : Option (Nat × Bool)} {x y z : Operand} {k k' : IntKind} {l : List UInt8}

theorem bytes_extract (l : List UInt8) (i j : Nat) (hij : i ≤ j) (hj : j ≤ l.length) : (ByteArray.mk l.toArray).extract i j = ⟨((l.take j).drop i).toArray⟩ := by
  apply ByteArray.ext
  rw [ByteArray.data_extract]
  apply Array.toList_inj.1
  simp [List.take_drop, show i + (j - i) = j by omega]
theorem bytes_size (l : List UInt8) : (ByteArray.mk l.toArray).size = l.length := by show l.toArray.size = _; simp

theorem opSliceSHi {i : Int} {h : Nat} (hT : P.underlying T = some .string) (hx : Opd env x (strV l)) (hy : Opd env y (intV k i)) (hi : i = (h : Int)) (hh : h ≤ l.length) :
    OpP P hs env ⟨dst, .slice T x none (some y) none, ty, pos, after, gd⟩ (strV (l.take h)) :=
  OpP.of_read fun ρ w S F _ he => by
    obtain ⟨hv, hm⟩ := he.o _ _ hx
    have h2 := he.o _ _ hy; simp only [exactV] at h2
    subst hi
    have hs := bytes_size l
    have he := bytes_extract l 0 h (by omega) hh
    simp only [List.drop_zero] at he
    refine ⟨.string ⟨(l.take h).toArray⟩, ?_, rfl, by simp; omega⟩
    simp [execOp, hv, h2, Instr.sliceAt, Instr.slice, Instr.sliceBounds, Instr.sliceBound, asIntOf, run_underlying hT, hs, hh, he, - ByteArray.size_data, - List.extract_toArray]
theorem opSliceSLo {i : Int} {h : Nat} (hT : P.underlying T = some .string) (hx : Opd env x (strV l)) (hy : Opd env y (intV k i)) (hi : i = (h : Int)) (hh : h ≤ l.length) :
    OpP P hs env ⟨dst, .slice T x (some y) none none, ty, pos, after, gd⟩ (strV (l.drop h)) :=
  OpP.of_read fun ρ w S F _ he => by
    obtain ⟨hv, hm⟩ := he.o _ _ hx
    have h2 := he.o _ _ hy; simp only [exactV] at h2
    subst hi
    have hs := bytes_size l
    have he := bytes_extract l h l.length (by omega) (by omega)
    rw [List.take_length] at he
    refine ⟨.string ⟨(l.drop h).toArray⟩, ?_, rfl, by simp; omega⟩
    simp [execOp, hv, h2, Instr.sliceAt, Instr.slice, Instr.sliceBounds, Instr.sliceBound, asIntOf, run_underlying hT, hs, hh, he, - ByteArray.size_data, - List.extract_toArray]
theorem opSliceSLH {i i' : Int} {a h : Nat} (hT : P.underlying T = some .string) (hx : Opd env x (strV l)) (hy : Opd env y (intV k i)) (hz : Opd env z (intV k' i')) (hi : i = (a : Int)) (hi' : i' = (h : Int)) (hah : a ≤ h) (hh : h ≤ l.length) :
    OpP P hs env ⟨dst, .slice T x (some y) (some z) none, ty, pos, after, gd⟩ (strV ((l.take h).drop a)) :=
  OpP.of_read fun ρ w S F _ he => by
    obtain ⟨hv, hm⟩ := he.o _ _ hx
    have h2 := he.o _ _ hy; simp only [exactV] at h2
    have h3 := he.o _ _ hz; simp only [exactV] at h3
    subst hi; subst hi'
    have hs := bytes_size l
    have he := bytes_extract l a h hah hh
    refine ⟨.string ⟨((l.take h).drop a).toArray⟩, ?_, rfl, by simp; omega⟩
    simp [execOp, hv, h2, h3, Instr.sliceAt, Instr.slice, Instr.sliceBounds, Instr.sliceBound, asIntOf, run_underlying hT, hs, hh, hah, he, - ByteArray.size_data, - List.extract_toArray]

/-- a function of the library that has no text: it reads alone -/
theorem opCallX {f : FuncId} {xs : List Operand} {ats : Array TypeId} {ps : List VP} (hx : Opds env xs ps) (hr : ∀ S w vs, All2 ps S w vs → ∃ v, (callFunc f vs.toArray).run P w = .ok (.value v) w ∧ q.p S w v) :
    OpP P hs env ⟨dst, .call ⟨.value (.func f), xs.toArray, ats⟩, ty, pos, after, gd⟩ q := by
  intro a w S F h1 h2 h3 h4 h5 K Q hk
  obtain ⟨v, hv, hq⟩ := hr S w _ (hx S w a h5)
  unfold Oper.wp
  have : (execOp a.eval ⟨dst, .call ⟨.value (.func f), xs.toArray, ats⟩, ty, pos, after, gd⟩).run P w = .ok (.value v) w := by
    have h := hv
    simp [execOp, resolve, Act.eval, Deferred.ofValue, invoke] at h ⊢; exact h
  rw [this]
  exact hk v w S (Grow.refl _ _) hq
def extB (P : Program) (f : FuncId) (e : Array Value → Sem Value) : Prop := ∀ args w, (callFunc f args).run P w = ((e args).run P w).andThen fun v w' => .ok (.value v) w'
theorem opIdxByteS {f : FuncId} {xs : List Operand} {ats : Array TypeId} {b : UInt8} (hf : extB P f Extern.BytealgIndexByte.indexByte) (hx : Opds env xs [strV l, intV .u8 (b.toNat : Int)]) :
    OpP P hs env ⟨dst, .call ⟨.value (.func f), xs.toArray, ats⟩, ty, pos, after, gd⟩ (intV .i64 (Lib.indexByte l b)) :=
  opCallX hx fun S w vs h => by
    obtain ⟨h1, h2⟩ := h
    match vs, h1, h2 with
    | [u, v], _, h2 =>
      have hu := (h2 0 _ u rfl rfl).1
      have hv := h2 1 _ v rfl rfl; simp only [exactV] at hv
      subst hu; subst hv
      refine ⟨_, ?_, rfl⟩
      rw [hf, Lib.run_indexByteString]
      simp [Result.andThen]
end

/-! ### what they give -/
def hasSuf (l s : List UInt8) : Prop := s.length ≤ l.length ∧ l.drop (l.length - s.length) = s
def hasPre (l s : List UInt8) : Prop := s.length ≤ l.length ∧ l.take s.length = s
instance (l s : List UInt8) : Decidable (hasSuf l s) := inferInstanceAs (Decidable (_ ∧ _))
instance (l s : List UInt8) : Decidable (hasPre l s) := inferInstanceAs (Decidable (_ ∧ _))
def trimSuf (l s : List UInt8) : List UInt8 := if hasSuf l s then l.take (l.length - s.length) else l
/-- what stands ahead of a byte, behind it, and whether it is there -/
def cutB (l : List UInt8) (b : UInt8) : List UInt8 × List UInt8 × Bool := if 0 ≤ Lib.indexByte l b then (l.take (Lib.indexByte l b).toNat, l.drop ((Lib.indexByte l b).toNat + 1), true) else (l, [], false)
theorem indexByte_lt (l : List UInt8) (b : UInt8) : Lib.indexByte l b < l.length := by
  induction l with
  | nil => simp [Lib.indexByte]
  | cons x l ih =>
    unfold Lib.indexByte
    split
    · simp only [List.length_cons]; omega
    · split
      · simp only [List.length_cons]; omega
      · simp only [List.length_cons]; omega
end Go.Hl
