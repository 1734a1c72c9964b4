/-
  What the statement's proof leans on, several texts in one (packed by a program).
-/
import Derived.Test.YtmmdlhjcmlekfaaGreatDoorPND
import Derived.Lib.Bytealg
set_option linter.all false
set_option maxRecDepth 1000000
set_option maxHeartbeats 4000000
section
namespace Go.Hl
open Go.RowKit
section
variable {P : Program} {hs : List HP} {env : Env} {q : VP} {dst : Option Tmp} {ty T T' E : TypeId} {pos : String} {after : Array Edge} {gd : Option (Nat × Bool)} {x y z : Operand} {k k' : IntKind} {l : List UInt8}
theorem bytes_extract (l : List UInt8) (i j : Nat) (hij : i ≤ j) (hj : j ≤ l.length) : (ByteArray.mk l.toArray).extract i j = ⟨((l.take j).drop i).toArray⟩ := by
  apply ByteArray.ext
  rw [ByteArray.data_extract]
  apply Array.toList_inj.1
  simp [List.take_drop, show i + (j - i) = j by omega]
theorem bytes_size (l : List UInt8) : (ByteArray.mk l.toArray).size = l.length := by show l.toArray.size = _; simp
theorem opSliceSHi {i : Int} {h : Nat} (hT : P.underlying T = some .string) (hx : Opd env x (strV l)) (hy : Opd env y (intV k i)) (hi : i = (h : Int)) (hh : h ≤ l.length) :
    OpP P hs env ⟨dst, .slice T x none (some y) none, ty, pos, after, gd⟩ (strV (l.take h)) :=
  OpP.of_read fun ρ w S F _ he => by
    obtain ⟨hv, hm⟩ := he.o _ _ hx
    have h2 := he.o _ _ hy; simp only [exactV] at h2
    subst hi
    have hs := bytes_size l
    have he := bytes_extract l 0 h (by omega) hh
    simp only [List.drop_zero] at he
    refine ⟨.string ⟨(l.take h).toArray⟩, ?_, rfl, by simp; omega⟩
    simp [execOp, hv, h2, Instr.sliceAt, Instr.slice, Instr.sliceBounds, Instr.sliceBound, asIntOf, run_underlying hT, hs, hh, he, - ByteArray.size_data, - List.extract_toArray]
theorem opSliceSLo {i : Int} {h : Nat} (hT : P.underlying T = some .string) (hx : Opd env x (strV l)) (hy : Opd env y (intV k i)) (hi : i = (h : Int)) (hh : h ≤ l.length) :
    OpP P hs env ⟨dst, .slice T x (some y) none none, ty, pos, after, gd⟩ (strV (l.drop h)) :=
  OpP.of_read fun ρ w S F _ he => by
    obtain ⟨hv, hm⟩ := he.o _ _ hx
    have h2 := he.o _ _ hy; simp only [exactV] at h2
    subst hi
    have hs := bytes_size l
    have he := bytes_extract l h l.length (by omega) (by omega)
    rw [List.take_length] at he
    refine ⟨.string ⟨(l.drop h).toArray⟩, ?_, rfl, by simp; omega⟩
    simp [execOp, hv, h2, Instr.sliceAt, Instr.slice, Instr.sliceBounds, Instr.sliceBound, asIntOf, run_underlying hT, hs, hh, he, - ByteArray.size_data, - List.extract_toArray]
theorem opCallX {f : FuncId} {xs : List Operand} {ats : Array TypeId} {ps : List VP} (hx : Opds env xs ps) (hr : ∀ S w vs, All2 ps S w vs → ∃ v, (callFunc f vs.toArray).run P w = .ok (.value v) w ∧ q.p S w v) :
    OpP P hs env ⟨dst, .call ⟨.value (.func f), xs.toArray, ats⟩, ty, pos, after, gd⟩ q := by
  intro a w S F h1 h2 h3 h4 h5 K Q hk
  obtain ⟨v, hv, hq⟩ := hr S w _ (hx S w a h5)
  unfold Oper.wp
  have : (execOp a.eval ⟨dst, .call ⟨.value (.func f), xs.toArray, ats⟩, ty, pos, after, gd⟩).run P w = .ok (.value v) w := by
    have h := hv
    simp [execOp, resolve, Act.eval, Deferred.ofValue, invoke] at h ⊢; exact h
  rw [this]
  exact hk v w S (Grow.refl _ _) hq
def extB (P : Program) (f : FuncId) (e : Array Value → Sem Value) : Prop := ∀ args w, (callFunc f args).run P w = ((e args).run P w).andThen fun v w' => .ok (.value v) w'
theorem opIdxByteS {f : FuncId} {xs : List Operand} {ats : Array TypeId} {b : UInt8} (hf : extB P f Extern.BytealgIndexByte.indexByte) (hx : Opds env xs [strV l, intV .u8 (b.toNat : Int)]) :
    OpP P hs env ⟨dst, .call ⟨.value (.func f), xs.toArray, ats⟩, ty, pos, after, gd⟩ (intV .i64 (Lib.indexByte l b)) :=
  opCallX hx fun S w vs h => by
    obtain ⟨h1, h2⟩ := h
    match vs, h1, h2 with
    | [u, v], _, h2 =>
      have hu := (h2 0 _ u rfl rfl).1
      have hv := h2 1 _ v rfl rfl; simp only [exactV] at hv
      subst hu; subst hv
      refine ⟨_, ?_, rfl⟩
      rw [hf, Lib.run_indexByteString]
      simp [Result.andThen]
end
def hasSuf (l s : List UInt8) : Prop := s.length ≤ l.length ∧ l.drop (l.length - s.length) = s
def hasPre (l s : List UInt8) : Prop := s.length ≤ l.length ∧ l.take s.length = s
instance (l s : List UInt8) : Decidable (hasSuf l s) := inferInstanceAs (Decidable (_ ∧ _))
instance (l s : List UInt8) : Decidable (hasPre l s) := inferInstanceAs (Decidable (_ ∧ _))
def trimSuf (l s : List UInt8) : List UInt8 := if hasSuf l s then l.take (l.length - s.length) else l
def cutB (l : List UInt8) (b : UInt8) : List UInt8 × List UInt8 × Bool := if 0 ≤ Lib.indexByte l b then (l.take (Lib.indexByte l b).toNat, l.drop ((Lib.indexByte l b).toNat + 1), true) else (l, [], false)
theorem indexByte_lt (l : List UInt8) (b : UInt8) : Lib.indexByte l b < l.length := by
  induction l with
  | nil => simp [Lib.indexByte]
  | cons x l ih =>
    unfold Lib.indexByte
    split
    · simp only [List.length_cons]; omega
    · split
      · simp only [List.length_cons]; omega
      · simp only [List.length_cons]; omega
end Go.Hl
end
section
namespace Go.Hl
open Go.RowKit
section
variable {P : Program} {hs : List HP} {env : Env} {q : VP} {dst : Option Tmp} {ty T T' E : TypeId} {pos : String} {after : Array Edge} {gd : Option (Nat × Bool)} {x y z : Operand}
theorem opCallE {f : FuncId} {xs : List Operand} {ats : Array TypeId} {ps : List VP} {hs0 rest : List HP} {γ : Type} {φ : γ → Prop} {hs' : γ → List HP} {q : γ → VP} (hf : FnE P f ps hs0 φ hs' q) (hb : callB P f = true) (hx : Opds env xs ps) (hp : hs.Perm (hs0 ++ rest)) :
    OpE P hs env ⟨dst, .call ⟨.value (.func f), xs.toArray, ats⟩, ty, pos, after, gd⟩ φ (fun g => hs' g ++ rest) q := by
  intro c a w S F hsit hown he K Q hk
  obtain ⟨F1, F2, hF1, hF2, ho1, ho2⟩ := Own.append.1 (hown.perm hp)
  have hd1 : ∀ k, F1 k → k < w.heap.size := fun k hk => hsit.domF k (hF1 k hk).1
  have hSF : ∀ k, S k → ¬ F1 k := fun k hk hf => hsit.disj k hk (hF1 k hf).1
  unfold Oper.wp
  rw [run_call hb]
  refine (hf w S F1 _ hsit.domS hd1 hSF ho1 (by simpa using hx S w a he)).mono ?_
  rintro e w' ⟨v, S', F1', g, rfl, h2, hφ, hown', hq⟩
  have hoS : ∀ k, S k → w'.heap[k]? = w.heap[k]? := fun k hk => h2.kept k (hsit.domS k hk) (hSF k hk)
  have ho2F : ∀ k, F2 k → ¬ F1 k := fun k hk hf => (hF1 k hf).2 hk
  refine hk g v w' S' (fun k => F1' k ∨ F2 k) hφ ⟨h2.os.trans hsit.os, h2.tape.trans hsit.tape, h2.output.trans hsit.output, Nat.le_trans hsit.size h2.size, fun k hk hm => ?_, fun k hk hf => ?_, h2.domS, fun k hk => ?_, fun k hk => ?_, fun k hk => ?_, fun k hk => h2.base k (hsit.base k hk)⟩ h2.base hoS ?_ hq
  · have hnF : ¬ F1 k := fun hf => (hsit.own k (hF1 k hf).1).elim hm (fun h => by omega)
    exact (h2.kept k (Nat.lt_of_lt_of_le hk hsit.size) hnF).trans (hsit.kept k hk hm)
  · rcases hf with hf | hf
    · exact h2.disj k hk hf
    · rcases h2.shr k hk with h | h | h
      · exact hsit.disj k h (hF2 k hf)
      · exact (hF1 k h).2 hf
      · exact Nat.lt_irrefl _ (Nat.lt_of_lt_of_le (hsit.domF k (hF2 k hf)) h)
  · rcases hk with hk | hk
    · exact h2.domF k hk
    · exact Nat.lt_of_lt_of_le (hsit.domF k (hF2 k hk)) h2.size
  · rcases hk with hk | hk
    · rcases h2.own k hk with h | h
      · exact hsit.own k (hF1 k h).1
      · exact .inr (Nat.le_trans hsit.size h)
    · exact hsit.own k (hF2 k hk)
  · rcases h2.shr k hk with h | h | h
    · exact hsit.shr k h
    · exact .inr (hsit.own k (hF1 k h).1)
    · exact .inr (.inr (Nat.le_trans hsit.size h))
  · refine Own.append.2 ⟨F1', F2, fun k hk => ⟨.inl hk, fun hf => ?_⟩, fun k hk => .inr hk, hown', ho2.mono (fun _ h => h) h2.base (fun k hk => h2.kept k (hsit.domF k (hF2 k hk)) (ho2F k hk)) hoS⟩
    rcases h2.own k hk with h | h
    · exact (hF1 k h).2 hf
    · exact Nat.lt_irrefl _ (Nat.lt_of_lt_of_le (hsit.domF k (hF2 k hf)) h)
theorem CodeT.sliceSome {Q : Exit → Act → World → Prop} {c : Ctx} {s : Code} {α : Type} {g : SB} {n : Nat} {enc : α → List VP} {xs : List α} (i : Nat) (hi : hs[i]? = some (sliceH g n enc xs)) (hne : xs ≠ [])
    (h : ∀ b cap, g = some (b, cap) → CodeT P Q c s hs env) : CodeT P Q c s hs env := by
  intro a w hst
  obtain ⟨h1, h2, S, F, h3, h4, h5⟩ := hst
  obtain ⟨F1, _, hp⟩ := h4.get hi
  cases g with
  | none => exact absurd hp hne
  | some p => exact h p.1 p.2 rfl a w ⟨h1, h2, S, F, h3, h4, h5⟩
end
end Go.Hl
end
section
namespace Go.Hl
open Go.RowKit
section
variable {P : Program} {hs : List HP} {env : Env} {q : VP} {dst : Option Tmp} {ty T T' T2 E : TypeId} {pos : String} {after : Array Edge} {gd : Option (Nat × Bool)} {x y z : Operand}
def subV (b off len : Nat) : VP := ⟨fun _ _ v => ∃ o cap, v = .slice (some ⟨b, o, none⟩) len cap ∧ (len = 0 ∨ o = off) ∧ len ≤ cap ∧ cap ≤ 281474976710656, fun _ _ h => h⟩
instance (b off len : Nat) : Flat (subV b off len) := ⟨fun ⟨_, _, h, _⟩ => by subst h; exact ⟨rfl, rfl⟩⟩
theorem eq_slice_nil (d : Nat) (a : Option Addr) (l c : Nat) {w : World} (h : P.underlying T = some (.slice E)) : (Op.equalIn (d + 1) T (.slice a l c) (.slice none 0 0)).run P w = .ok a.isNone w := by
  cases a <;> simp [Op.equalIn, run_underlying h]
end
end Go.Hl
end
