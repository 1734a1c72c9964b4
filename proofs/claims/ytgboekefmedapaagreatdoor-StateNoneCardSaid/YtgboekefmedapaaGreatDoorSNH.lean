/-
  What the statement's proof leans on, several texts in one (packed by a program).
-/
import Derived.Test.YtgboekefmedapaaGreatDoorSNG
import Derived.Laws.Bits64b
import Derived.Laws.BitsLemmas
set_option linter.all false
set_option maxRecDepth 1000000
set_option maxHeartbeats 4000000
section
namespace Go.Hl
open Go.RowKit
section
variable {P : Program} {hs : List HP} {env : Env} {q : VP} {dst : Option Tmp} {ty T T' E : TypeId} {pos : String} {after : Array Edge} {gd : Option (Nat × Bool)} {x y z : Operand}
theorem wraps64 (n : Int) (h0 : 0 ≤ n) (h1 : n < 2 ^ 64) : IntKind.u64.wrap n = n := wrap_fits (fits_u64 h0 (by omega))
theorem opOr_u64 {a b : Nat} (ha : a < 18446744073709551616) (hb : b < 18446744073709551616) (hx : Opd env x (intV .u64 (a : Int))) (hy : Opd env y (intV .u64 (b : Int))) : OpP P hs env ⟨dst, .binOp .or T x y T', ty, pos, after, gd⟩ (intV .u64 ((a ||| b : Nat) : Int)) :=
 OpP.of_read fun ρ w S F _ he => by
  have h1 := he.o _ _ hx; have h2 := he.o _ _ hy; simp only [exactV] at h1 h2
  exact ⟨.int .u64 ((a ||| b : Nat) : Int), by simp [execOp, h1, h2, go_sem, (bits_nat .u64 64 (by decide) wraps64 a b (by omega) (by omega)).2], rfl⟩
theorem opShr {k k' : IntKind} {n : Int} {s : Nat} (hx : Opd env x (intV k n)) (hy : Opd env y (intV k' (s : Int))) (h : s ≤ k.bits) : OpP P hs env ⟨dst, .binOp .shr T x y T', ty, pos, after, gd⟩ (intV k (n / 2 ^ s)) :=
 OpP.of_read fun ρ w S F _ he => by
  have h1 := he.o _ _ hx; have h2 := he.o _ _ hy; simp only [exactV] at h1 h2
  have hn : ¬ ((s : Int) < 0) := by omega
  have hf : n.fdiv (2 ^ s) = n / 2 ^ s := Int.fdiv_eq_ediv_of_nonneg _ (Int.le_of_lt (Int.pow_pos (by decide)))
  refine ⟨.int k (n / 2 ^ s), ?_, rfl⟩
  cases k <;> simp only [IntKind.bits] at h <;> simp [execOp, h1, h2, go_sem, Op.shift, hn, Nat.min_eq_left h, hf]
theorem opShrN {k k' : IntKind} {a s : Nat} (hx : Opd env x (intV k (a : Int))) (hy : Opd env y (intV k' (s : Int))) (h : s ≤ k.bits) : OpP P hs env ⟨dst, .binOp .shr T x y T', ty, pos, after, gd⟩ (intV k ((a / 2 ^ s : Nat) : Int)) :=
 (opShr hx hy h).le (VLe.int (by simp))
theorem opShl_u64 {k' : IntKind} {a s : Nat} (hx : Opd env x (intV .u64 (a : Int))) (hy : Opd env y (intV k' (s : Int))) (h : s ≤ 64) : OpP P hs env ⟨dst, .binOp .shl T x y T', ty, pos, after, gd⟩ (intV .u64 ((a * 2 ^ s % 18446744073709551616 : Nat) : Int)) :=
 (opShl hx hy h).le (VLe.int (by
  rw [IntKind.wrap_u64, Int.natCast_emod, Int.natCast_mul, Int.natCast_pow]; rfl))
class DupH (h : HP) : Prop where
 dup : ∀ {F F' S : BS} {w : World}, h.p F S w → h.p F' S w
def tabH (g : Nat) (k : IntKind) (tab : List Nat) : HP :=
 ⟨fun F S w => S g ∧ ∀ j, j < tab.length → w.cell? ⟨g, j, none⟩ = some (.int k (tab.getD j 0)), fun h1 h2 h3 h4 ⟨hS, hc⟩ => ⟨h2 g hS, fun j hj => by rw [cell_same (h4 g hS)]; exact hc j hj⟩⟩
instance (g : Nat) (k : IntKind) (tab : List Nat) : DupH (tabH g k tab) := ⟨fun h => h⟩
end
section
variable {P : Program} {hs : List HP} {env : Env} {q : VP} {dst : Option Tmp} {ty T T' E : TypeId} {pos : String} {after : Array Edge} {gd : Option (Nat × Bool)} {x y z : Operand}
theorem opNo {o : Oper} {q : VP} (h : False) : OpP P hs env o q := h.elim
def sliceNV {α : Type} (p : Prop) (n : Nat) (enc : α → List VP) (xs : List α) : VP :=
 ⟨fun S w v => (sliceV n enc xs).p S w v ∧ ∃ a l c, v = .slice a l c ∧ (p ↔ a = none), fun h1 h2 ⟨a, b⟩ => ⟨(sliceV n enc xs).mono h1 h2 a, b⟩⟩
instance {α : Type} (p : Prop) (n : Nat) (enc : α → List VP) (xs : List α) : Flat (sliceNV p n enc xs) := ⟨fun ⟨h, _⟩ => (inferInstance : Flat (sliceV n enc xs)).flat h⟩
end
end Go.Hl
end
