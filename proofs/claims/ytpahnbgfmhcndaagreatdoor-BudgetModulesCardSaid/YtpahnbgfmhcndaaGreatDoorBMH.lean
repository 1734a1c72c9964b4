/-
  What the statement's proof leans on, several texts in one (packed by a program).
-/
import Derived.Test.YtpahnbgfmhcndaaGreatDoorBMG
import Derived.Laws.Bits64b
import Derived.Laws.BitsLemmas
set_option linter.all false
set_option maxRecDepth 1000000
set_option maxHeartbeats 4000000
section
namespace Go.Hl
open Go.RowKit
section
variable {P : Program} {hs : List HP} {env : Env} {q : VP} {dst : Option Tmp} {ty T T' E : TypeId} {pos : String} {after : Array Edge} {gd : Option (Nat × Bool)} {x y z : Operand}
theorem opShr {k k' : IntKind} {n : Int} {s : Nat} (hx : Opd env x (intV k n)) (hy : Opd env y (intV k' (s : Int))) (h : s ≤ k.bits) : OpP P hs env ⟨dst, .binOp .shr T x y T', ty, pos, after, gd⟩ (intV k (n / 2 ^ s)) :=
 OpP.of_read fun ρ w S F _ he => by
  have h1 := he.o _ _ hx; have h2 := he.o _ _ hy; simp only [exactV] at h1 h2
  have hn : ¬ ((s : Int) < 0) := by omega
  have hf : n.fdiv (2 ^ s) = n / 2 ^ s := Int.fdiv_eq_ediv_of_nonneg _ (Int.le_of_lt (Int.pow_pos (by decide)))
  refine ⟨.int k (n / 2 ^ s), ?_, rfl⟩
  cases k <;> simp only [IntKind.bits] at h <;> simp [execOp, h1, h2, go_sem, Op.shift, hn, Nat.min_eq_left h, hf]
theorem opShrN {k k' : IntKind} {a s : Nat} (hx : Opd env x (intV k (a : Int))) (hy : Opd env y (intV k' (s : Int))) (h : s ≤ k.bits) : OpP P hs env ⟨dst, .binOp .shr T x y T', ty, pos, after, gd⟩ (intV k ((a / 2 ^ s : Nat) : Int)) :=
 (opShr hx hy h).le (VLe.int (by simp))
theorem opRem_u64 {a b : Nat} (hb : 0 < b) (hx : Opd env x (intV .u64 (a : Int))) (hy : Opd env y (intV .u64 (b : Int))) : OpP P hs env ⟨dst, .binOp .rem T x y T', ty, pos, after, gd⟩ (intV .u64 ((a % b : Nat) : Int)) :=
 (opRem hx hy (by omega) (by omega)).le (VLe.int (by rw [Int.natCast_emod]))
theorem opQuo_u64 {a b : Nat} (hb : 0 < b ∧ a < 18446744073709551616) (hx : Opd env x (intV .u64 (a : Int))) (hy : Opd env y (intV .u64 (b : Int))) : OpP P hs env ⟨dst, .binOp .quo T x y T', ty, pos, after, gd⟩ (intV .u64 ((a / b : Nat) : Int)) :=
 (opQuo hx hy (by omega) (by omega) (fits_u64 (Int.ediv_nonneg (by omega) (by omega)) (by rw [← Int.natCast_ediv]; have := Nat.div_le_self a b; omega))).le (VLe.int (by rw [Int.natCast_ediv]))
theorem opQuoT {k : IntKind} {n m : Int} (hx : Opd env x (intV k n)) (hy : Opd env y (intV k m)) (hm : m ≠ 0) : OpP P hs env ⟨dst, .binOp .quo T x y T', ty, pos, after, gd⟩ (intV k (k.wrap (n.tdiv m))) :=
 OpP.of_read fun ρ w S F _ he => by
  have h1 := he.o _ _ hx; have h2 := he.o _ _ hy; simp only [exactV] at h1 h2
  exact ⟨.int k (k.wrap (n.tdiv m)), by simp [execOp, h1, h2, go_sem, Op.intDiv, hm], rfl⟩
theorem opRemT {k : IntKind} {n m : Int} (hx : Opd env x (intV k n)) (hy : Opd env y (intV k m)) (hm : m ≠ 0) : OpP P hs env ⟨dst, .binOp .rem T x y T', ty, pos, after, gd⟩ (intV k (n.tmod m)) :=
 OpP.of_read fun ρ w S F _ he => by
  have h1 := he.o _ _ hx; have h2 := he.o _ _ hy; simp only [exactV] at h1 h2
  exact ⟨.int k (n.tmod m), by simp [execOp, h1, h2, go_sem, Op.intDiv, hm], rfl⟩
theorem OpE.shareS {α : Type} {o : Oper} {γ : Type} {φ : γ → Prop} {hs1 : γ → List HP} {G : γ → SB} {n : Nat} {enc : α → List VP} {xs : γ → List α} [he : Enc n enc] (h : OpE P hs env o φ (fun g => sliceH (G g) n enc (xs g) :: hs1 g) (fun g => exactV (sval (G g) (xs g).length))) :
    OpE P hs env o φ hs1 (fun g => sliceV n enc (xs g)) := by
  intro c a w S F hsit hown hev K Q hk
  refine h c a w S F hsit hown hev K Q fun g v w' S' F' hφ h3 hS' hag hown' hq => ?_
  obtain ⟨F1, F2, f1, f2, f3, f5⟩ := hown'
  simp only [exactV] at hq
  generalize hG : G g = gg at *
  cases gg with
  | none =>
    have hxs : xs g = [] := f3
    refine hk g v w' S' F2 hφ ⟨h3.os, h3.tape, h3.output, h3.size, h3.kept, fun k hk hf => h3.disj k hk (f2 k hf), h3.domS, fun k hk => h3.domF k (f2 k hk), fun k hk => h3.own k (f2 k hk), h3.shr, h3.base⟩ hS' hag f5 ⟨none, 0, hq.trans (by rw [hxs]; rfl), by rw [hxs]; simp, by rw [hxs]; simp, rfl⟩
  | some bc =>
    obtain ⟨b, cap⟩ := bc
    obtain ⟨hFb, hl, hm, arr, T, hh, hn, hc⟩ := f3
    have hb := f1 b hFb
    have hS : ∀ k, S' k → S' k ∨ k = b := fun _ h => .inl h
    have hcl : CellsAt (fun k => S' k ∨ k = b) w' b 0 ((xs g).flatMap enc) := fun j q hj => let ⟨u, hu, hq⟩ := hc j q hj; ⟨u, by simp [World.cell?, hh, hu], q.mono hS (fun _ _ => rfl) hq⟩
    refine hk g v w' (fun k => S' k ∨ k = b) F2 hφ ⟨h3.os, h3.tape, h3.output, h3.size, h3.kept, ?_, ?_, fun k hk => h3.domF k (f2 k hk), fun k hk => h3.own k (f2 k hk), ?_, fun k hk => .inl (h3.base k hk)⟩ (fun k hk => .inl (hS' k hk)) hag
      (f5.mono (fun _ h => h) hS (fun _ _ => rfl) (fun _ _ => rfl)) ⟨some ⟨b, 0, none⟩, cap, hq, hl, hm, fun _ => ⟨rfl, .inr rfl, fun i x hx => flat_cellsAt he.len hcl i x hx⟩⟩
    · exact fun k hk hf => hk.elim (fun h => h3.disj k h (f2 k hf)) (fun e => hb.2 (e ▸ hf))
    · exact fun k hk => hk.elim (h3.domS k) (fun e => h3.domF k (e ▸ hb.1))
    · exact fun k hk => hk.elim (h3.shr k) (fun e => by
        rcases h3.own b hb.1 with h | h
        · exact .inr (.inl (e ▸ h))
        · exact .inr (.inr (e ▸ h)))
class DupH (h : HP) : Prop where
 dup : ∀ {F F' S : BS} {w : World}, h.p F S w → h.p F' S w
def tabH (g : Nat) (k : IntKind) (tab : List Nat) : HP :=
 ⟨fun F S w => S g ∧ ∀ j, j < tab.length → w.cell? ⟨g, j, none⟩ = some (.int k (tab.getD j 0)), fun h1 h2 h3 h4 ⟨hS, hc⟩ => ⟨h2 g hS, fun j hj => by rw [cell_same (h4 g hS)]; exact hc j hj⟩⟩
instance (g : Nat) (k : IntKind) (tab : List Nat) : DupH (tabH g k tab) := ⟨fun h => h⟩
theorem FnE.ofBelow {P : Program} {f : FuncId} {ps : List VP} {hs : List HP} {q : VP}
    (h : ∀ (w : World) (S F : BS) (vs : List Value), (∀ k, S k → k < w.heap.size) → Own hs F S w → All2 ps S w vs → Calls P f vs.toArray w fun e w' => ∃ v S', e = .returned v ∧ Below w.heap.size w w' ∧ (∀ k, S k → S' k) ∧ (∀ k, S' k → S k ∨ w.heap.size ≤ k ∧ k < w'.heap.size) ∧ q.p S' w' v) :
    FnE P f ps hs (γ := Unit) (fun _ => True) (fun _ => []) (fun _ => q) := by
  intro w S F vs hS hF hSF hown hall
  have := h w S F vs.toList hS hown hall
  simp only [Array.toArray_toList] at this
  refine this.mono ?_
  rintro e w' ⟨v, S', rfl, hb, hs1, hs2, hq⟩
  refine ⟨v, S', fun _ => False, (), rfl, ⟨hb.os, hb.tape, hb.output, hb.size, fun k hk _ => hb.block k hk, fun _ _ h => h, fun k hk => ?_, fun _ h => h.elim, fun _ h => h.elim, fun k hk => ?_, hs1⟩, trivial, trivial, hq⟩
  · rcases hs2 k hk with h1 | h1
    · exact Nat.lt_of_lt_of_le (hS k h1) hb.size
    · exact h1.2
  · rcases hs2 k hk with h1 | h1
    · exact .inl h1
    · exact .inr (.inr h1.1)
end
section
variable {P : Program} {hs : List HP} {env : Env} {q : VP} {dst : Option Tmp} {ty T T' E : TypeId} {pos : String} {after : Array Edge} {gd : Option (Nat × Bool)} {x y z : Operand}
theorem opNo {o : Oper} {q : VP} (h : False) : OpP P hs env o q := h.elim
def sliceNV {α : Type} (p : Prop) (n : Nat) (enc : α → List VP) (xs : List α) : VP :=
 ⟨fun S w v => (sliceV n enc xs).p S w v ∧ ∃ a l c, v = .slice a l c ∧ (p ↔ a = none), fun h1 h2 ⟨a, b⟩ => ⟨(sliceV n enc xs).mono h1 h2 a, b⟩⟩
instance {α : Type} (p : Prop) (n : Nat) (enc : α → List VP) (xs : List α) : Flat (sliceNV p n enc xs) := ⟨fun ⟨h, _⟩ => (inferInstance : Flat (sliceV n enc xs)).flat h⟩
end
theorem OLe.cellsY {b : Nat} {cs cs' : List VP} (h : LeL cs cs') {r : List HP} : OLe (cellsH b cs :: r) (cellsH b cs' :: r) := fun F S w ⟨F1, F2, h1, h2, ⟨f1, arr, T, hh, hn, hc⟩, h4⟩ =>
 ⟨F1, F2, h1, h2, ⟨f1, arr, T, hh, by rw [hn, h.len], fun j q' hj => let ⟨q, k1, k2⟩ := h.get j q' hj; let ⟨u, hu, hq⟩ := hc j q k1; ⟨u, hu, k2 _ _ _ hq⟩⟩, h4⟩
end Go.Hl
end
