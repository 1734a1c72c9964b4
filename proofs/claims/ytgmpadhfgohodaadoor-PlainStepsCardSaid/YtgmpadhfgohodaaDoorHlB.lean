/-
  Rules for single operations: values, reading, new memory. No project text.
-/
import Derived.Test.YtgmpadhfgohodaaDoorHlA
namespace Go.Hl
open Go.RowKit
set_option linter.unusedVariables false

section
variable {P : Program} {hs : List HP} {env : Env} {q : VP} {dst : Option Tmp} {ty T T' : TypeId} {pos : String} {after : Array Edge} {g : Option (Nat × Bool)}

/-- what the operands give -/
structure Rho (env : Env) (S : BS) (w : World) (ρ : Operand → Value) : Prop where
  c : ∀ v, ρ (.const v) = v
  f : ∀ f, ρ (.func f) = .func (.func f) #[] #[]
  o : ∀ x q, Opd env x q → q.p S w (ρ x)
theorem Rho.of {env : Env} {S : BS} {w : World} {a : Act} (h : EnvOk env S w a.tmps) : Rho env S w a.eval := ⟨fun _ => rfl, fun _ => rfl, fun x q hx => hx S w a h⟩

theorem OpP.of_run {o : Oper} (h : ∀ (ρ : Operand → Value) (w : World) (S F : BS), (∀ k, S k → k < w.heap.size) → (∀ k, F k → k < w.heap.size) → (∀ k, S k → ¬ F k) → Own hs F S w → Rho env S w ρ →
    ∃ v w' S', (execOp ρ o).run P w = .ok (.value v) w' ∧ Grow w w' S S' ∧ q.p S' w' v) : OpP P hs env o q := by
  intro a w S F h1 h2 h3 h4 h5 K Q hk
  obtain ⟨v, w', S', hr, hg, hq⟩ := h a.eval w S F h1 h2 h3 h4 (Rho.of h5)
  unfold Oper.wp; rw [hr]; exact hk v w' S' hg hq

/-- it reads alone -/
theorem OpP.of_read {o : Oper} (h : ∀ (ρ : Operand → Value) (w : World) (S F : BS), Own hs F S w → Rho env S w ρ → ∃ v, (execOp ρ o).run P w = .ok (.value v) w ∧ q.p S w v) : OpP P hs env o q :=
  OpP.of_run fun a w S F _ _ _ h4 h5 => let ⟨v, h, hq⟩ := h a w S F h4 h5; ⟨v, w, S, h, Grow.refl _ _, hq⟩

theorem opMove {x : Operand} (h : Opd env x q) : OpP P hs env ⟨dst, .move x, ty, pos, after, g⟩ q :=
  OpP.of_read fun ρ w S F _ he => ⟨ρ x, rfl, he.o _ _ h⟩
theorem opAssign {x : Operand} (h : Opd env x q) : OpP P hs env ⟨dst, .assign x, ty, pos, after, g⟩ q :=
  OpP.of_read fun ρ w S F _ he => ⟨ρ x, rfl, he.o _ _ h⟩

/-! ### integers -/
variable {k : IntKind} {n m : Int} {x y z : Operand}

theorem opAdd (hx : Opd env x (intV k n)) (hy : Opd env y (intV k m)) : OpP P hs env ⟨dst, .binOp .add T x y T', ty, pos, after, g⟩ (intV k (k.wrap (n + m))) :=
  OpP.of_read fun ρ w S F _ he => by
    have h1 := he.o _ _ hx; have h2 := he.o _ _ hy; simp only [exactV] at h1 h2
    exact ⟨_, by simp [execOp, h1, h2, go_sem, Op.intArith], rfl⟩
theorem opSub (hx : Opd env x (intV k n)) (hy : Opd env y (intV k m)) : OpP P hs env ⟨dst, .binOp .sub T x y T', ty, pos, after, g⟩ (intV k (k.wrap (n - m))) :=
  OpP.of_read fun ρ w S F _ he => by
    have h1 := he.o _ _ hx; have h2 := he.o _ _ hy; simp only [exactV] at h1 h2
    exact ⟨_, by simp [execOp, h1, h2, go_sem, Op.intArith], rfl⟩
theorem opMul (hx : Opd env x (intV k n)) (hy : Opd env y (intV k m)) : OpP P hs env ⟨dst, .binOp .mul T x y T', ty, pos, after, g⟩ (intV k (k.wrap (n * m))) :=
  OpP.of_read fun ρ w S F _ he => by
    have h1 := he.o _ _ hx; have h2 := he.o _ _ hy; simp only [exactV] at h1 h2
    exact ⟨_, by simp [execOp, h1, h2, go_sem, Op.intArith], rfl⟩

/-- a number that its kind holds -/
def fits (k : IntKind) (n : Int) : Prop := k.min ≤ n ∧ n ≤ k.max
theorem wrap_fits {k : IntKind} {n : Int} (h : fits k n) : k.wrap n = n := by
  obtain ⟨h1, h2⟩ := h
  cases k <;> simp [IntKind.wrap, IntKind.min, IntKind.max, IntKind.signed, IntKind.bits] at * <;> omega
theorem fits_i64 {n : Int} (h1 : -9223372036854775808 ≤ n) (h2 : n ≤ 9223372036854775807) : fits .i64 n := by
  constructor <;> simp [IntKind.min, IntKind.max, IntKind.signed, IntKind.bits] <;> omega
theorem fits_u64 {n : Int} (h1 : 0 ≤ n) (h2 : n ≤ 18446744073709551615) : fits .u64 n := by
  constructor <;> simp [IntKind.min, IntKind.max, IntKind.signed, IntKind.bits] <;> omega
theorem fits_u8 {n : Int} (h1 : 0 ≤ n) (h2 : n ≤ 255) : fits .u8 n := by
  constructor <;> simp [IntKind.min, IntKind.max, IntKind.signed, IntKind.bits] <;> omega
theorem fits_u32 {n : Int} (h1 : 0 ≤ n) (h2 : n ≤ 4294967295) : fits .u32 n := by
  constructor <;> simp [IntKind.min, IntKind.max, IntKind.signed, IntKind.bits] <;> omega
theorem fits_u16 {n : Int} (h1 : 0 ≤ n) (h2 : n ≤ 65535) : fits .u16 n := by
  constructor <;> simp [IntKind.min, IntKind.max, IntKind.signed, IntKind.bits] <;> omega

/-- '+', '-', '*' where the result fits -/
theorem opAddF (hx : Opd env x (intV k n)) (hy : Opd env y (intV k m)) (h : fits k (n + m)) : OpP P hs env ⟨dst, .binOp .add T x y T', ty, pos, after, g⟩ (intV k (n + m)) :=
  (opAdd hx hy).le (VLe.int (wrap_fits h))
theorem opSubF (hx : Opd env x (intV k n)) (hy : Opd env y (intV k m)) (h : fits k (n - m)) : OpP P hs env ⟨dst, .binOp .sub T x y T', ty, pos, after, g⟩ (intV k (n - m)) :=
  (opSub hx hy).le (VLe.int (wrap_fits h))
theorem opMulF (hx : Opd env x (intV k n)) (hy : Opd env y (intV k m)) (h : fits k (n * m)) : OpP P hs env ⟨dst, .binOp .mul T x y T', ty, pos, after, g⟩ (intV k (n * m)) :=
  (opMul hx hy).le (VLe.int (wrap_fits h))

theorem opLss (hx : Opd env x (intV k n)) (hy : Opd env y (intV k m)) : OpP P hs env ⟨dst, .binOp .lss T x y T', ty, pos, after, g⟩ (propV (n < m)) :=
  OpP.of_read fun ρ w S F _ he => by
    have h1 := he.o _ _ hx; have h2 := he.o _ _ hy; simp only [exactV] at h1 h2
    exact ⟨.bool (decide (n < m)), by simp [execOp, h1, h2, go_sem], _, rfl, by simp⟩
theorem opLeq (hx : Opd env x (intV k n)) (hy : Opd env y (intV k m)) : OpP P hs env ⟨dst, .binOp .leq T x y T', ty, pos, after, g⟩ (propV (n ≤ m)) :=
  OpP.of_read fun ρ w S F _ he => by
    have h1 := he.o _ _ hx; have h2 := he.o _ _ hy; simp only [exactV] at h1 h2
    exact ⟨.bool (decide (n ≤ m)), by simp [execOp, h1, h2, go_sem], _, rfl, by simp⟩
theorem opGtr (hx : Opd env x (intV k n)) (hy : Opd env y (intV k m)) : OpP P hs env ⟨dst, .binOp .gtr T x y T', ty, pos, after, g⟩ (propV (m < n)) :=
  OpP.of_read fun ρ w S F _ he => by
    have h1 := he.o _ _ hx; have h2 := he.o _ _ hy; simp only [exactV] at h1 h2
    exact ⟨.bool (decide (n > m)), by simp [execOp, h1, h2, go_sem], _, rfl, by simp⟩
theorem opGeq (hx : Opd env x (intV k n)) (hy : Opd env y (intV k m)) : OpP P hs env ⟨dst, .binOp .geq T x y T', ty, pos, after, g⟩ (propV (m ≤ n)) :=
  OpP.of_read fun ρ w S F _ he => by
    have h1 := he.o _ _ hx; have h2 := he.o _ _ hy; simp only [exactV] at h1 h2
    exact ⟨.bool (decide (n ≥ m)), by simp [execOp, h1, h2, go_sem], _, rfl, by simp⟩
theorem opEql (hx : Opd env x (intV k n)) (hy : Opd env y (intV k m)) : OpP P hs env ⟨dst, .binOp .eql T x y T', ty, pos, after, g⟩ (propV (n = m)) :=
  OpP.of_read fun ρ w S F _ he => by
    have h1 := he.o _ _ hx; have h2 := he.o _ _ hy; simp only [exactV] at h1 h2
    exact ⟨.bool (n == m), by simp [execOp, h1, h2, go_sem], _, rfl, by simp⟩
theorem opNeq (hx : Opd env x (intV k n)) (hy : Opd env y (intV k m)) : OpP P hs env ⟨dst, .binOp .neq T x y T', ty, pos, after, g⟩ (propV (n ≠ m)) :=
  OpP.of_read fun ρ w S F _ he => by
    have h1 := he.o _ _ hx; have h2 := he.o _ _ hy; simp only [exactV] at h1 h2
    exact ⟨.bool (n != m), by simp [execOp, h1, h2, go_sem], _, rfl, by simp⟩

/-! ### bools -/
variable {p r : Prop}
theorem opNot (hx : Opd env x (propV p)) : OpP P hs env ⟨dst, .unOp .not T x, ty, pos, after, g⟩ (propV (¬ p)) :=
  OpP.of_read fun ρ w S F _ he => by
    obtain ⟨b, hb, hp⟩ := he.o _ _ hx
    exact ⟨.bool (!b), by simp [execOp, hb, go_sem, Op.unary], _, rfl, by rw [← hp]; simp⟩
theorem opEqlB (hT : P.underlying T = some .bool) (hx : Opd env x (propV p)) (hy : Opd env y (propV r)) : OpP P hs env ⟨dst, .binOp .eql T x y T', ty, pos, after, g⟩ (propV (p ↔ r)) :=
  OpP.of_read fun ρ w S F _ he => by
    obtain ⟨b, hb, hp⟩ := he.o _ _ hx
    obtain ⟨b', hb', hp'⟩ := he.o _ _ hy
    exact ⟨.bool (b == b'), by simp [execOp, hb, hb', go_sem, hT], _, rfl, by rw [← hp, ← hp']; cases b <;> cases b' <;> simp⟩
theorem opNeqB (hT : P.underlying T = some .bool) (hx : Opd env x (propV p)) (hy : Opd env y (propV r)) : OpP P hs env ⟨dst, .binOp .neq T x y T', ty, pos, after, g⟩ (propV (¬ (p ↔ r))) :=
  OpP.of_read fun ρ w S F _ he => by
    obtain ⟨b, hb, hp⟩ := he.o _ _ hx
    obtain ⟨b', hb', hp'⟩ := he.o _ _ hy
    exact ⟨.bool (!(b == b')), by simp [execOp, hb, hb', go_sem, hT], _, rfl, by rw [← hp, ← hp']; cases b <;> cases b' <;> simp⟩
/-- 'a && b' -/
theorem opAnd (hx : Opd env x (propV p)) (hy : Opd env y (whenV p (propV r))) : OpP P hs env ⟨dst, .pick x y (.const (.bool false)), ty, pos, after, g⟩ (propV (p ∧ r)) :=
  OpP.of_read fun ρ w S F _ he => by
    obtain ⟨b, hb, hp⟩ := he.o _ _ hx
    have h2 := he.o _ _ hy
    cases b with
    | false => exact ⟨.bool false, by simp [execOp, hb, go_sem, he.c], _, rfl, by simp at hp ⊢; exact fun h => (hp h).elim⟩
    | true =>
      have hp' : p := hp.1 rfl
      obtain ⟨b', hb', hr⟩ := h2.1 hp'
      exact ⟨.bool b', by simp [execOp, hb, hb', go_sem], _, rfl, by rw [hr]; simp [hp']⟩
/-- 'a || b' -/
theorem opOr (hx : Opd env x (propV p)) (hy : Opd env y (whenV (¬ p) (propV r))) : OpP P hs env ⟨dst, .pick x (.const (.bool true)) y, ty, pos, after, g⟩ (propV (p ∨ r)) :=
  OpP.of_read fun ρ w S F _ he => by
    obtain ⟨b, hb, hp⟩ := he.o _ _ hx
    have h2 := he.o _ _ hy
    cases b with
    | true => exact ⟨.bool true, by simp [execOp, hb, go_sem, he.c], _, rfl, by simp [hp.1 rfl]⟩
    | false =>
      have hp' : ¬ p := fun h => by have := hp.2 h; cases this
      obtain ⟨b', hb', hr⟩ := h2.1 hp'
      exact ⟨.bool b', by simp [execOp, hb, hb', go_sem], _, rfl, by rw [hr]; simp [hp']⟩
theorem Opd.when {c : Prop} (hx : Opd env x (whenV c q)) (h : c) : Opd env x q := fun S w a he => (hx S w a he).1 h
theorem Opd.under {c p : Prop} (hx : Opd env x (whenV (c ∧ p) q)) (h : c) : Opd env x (whenV p q) := fun S w a he => ⟨fun hp => (hx S w a he).1 ⟨h, hp⟩, fun hp => (hx S w a he).2 (fun h' => hp h'.2)⟩

/-! ### memory that is shared -/
class Flat (q : VP) : Prop where
  flat : ∀ {S w v}, q.p S w v → v.cells = #[v] ∧ v.oneCell' = true
instance (k : IntKind) (n : Int) : Flat (exactV (.int k n)) := ⟨fun h => by subst h; exact ⟨rfl, rfl⟩⟩
instance (b : Bool) : Flat (exactV (.bool b)) := ⟨fun h => by subst h; exact ⟨rfl, rfl⟩⟩
instance (s : ByteArray) : Flat (exactV (.string s)) := ⟨fun h => by subst h; exact ⟨rfl, rfl⟩⟩
instance (a : Option Addr) : Flat (exactV (.pointer a)) := ⟨fun h => by subst h; exact ⟨rfl, rfl⟩⟩
instance (a : Option Addr) (l c : Nat) : Flat (exactV (.slice a l c)) := ⟨fun h => by subst h; exact ⟨rfl, rfl⟩⟩
instance : Flat (exactV .nilFunc) := ⟨fun h => by subst h; exact ⟨rfl, rfl⟩⟩
instance : Flat (exactV .nilIface) := ⟨fun h => by subst h; exact ⟨rfl, rfl⟩⟩
instance (m : Option Nat) : Flat (exactV (.map m)) := ⟨fun h => by subst h; exact ⟨rfl, rfl⟩⟩
instance (f : Fn) (a b : Array Value) : Flat (exactV (.func f a b)) := ⟨fun h => by subst h; exact ⟨rfl, rfl⟩⟩
instance (p : Prop) : Flat (propV p) := ⟨fun ⟨b, h, _⟩ => by subst h; exact ⟨rfl, rfl⟩⟩

def CellsAt (S : BS) (w : World) (b off : Nat) (cs : List VP) : Prop := ∀ (j : Nat) (q : VP), cs[j]? = some q → ∃ v, w.cell? ⟨b, off + j, none⟩ = some v ∧ q.p S w v
theorem cell_same {w w' : World} {b off : Nat} (h : w'.heap[b]? = w.heap[b]?) : w'.cell? ⟨b, off, none⟩ = w.cell? ⟨b, off, none⟩ := by simp [World.cell?, h]
theorem CellsAt.mono {S S' : BS} {w w' : World} {b off : Nat} {cs : List VP} (hS : ∀ k, S k → S' k) (eS : ∀ k, S k → w'.heap[k]? = w.heap[k]?) (hb : S b) (h : CellsAt S w b off cs) : CellsAt S' w' b off cs :=
  fun j q hj => let ⟨v, hv, hq⟩ := h j q hj; ⟨v, by rw [cell_same (eS b hb)]; exact hv, q.mono hS eS hq⟩
theorem CellsAt.drop {S : BS} {w : World} {b off : Nat} {cs : List VP} (k : Nat) (h : CellsAt S w b off cs) : CellsAt S w b (off + k) (cs.drop k) :=
  fun j q hj => by have := h (k + j) q (by rw [List.getElem?_drop] at hj; exact hj); rwa [← Nat.add_assoc] at this

/-- a pointer to shared cells -/
def ptrV (cs : List VP) : VP := ⟨fun S w v => ∃ b off, v = .pointer (some ⟨b, off, none⟩) ∧ S b ∧ CellsAt S w b off cs,
  fun h1 h2 ⟨b, off, hv, hb, hc⟩ => ⟨b, off, hv, h1 b hb, hc.mono h1 h2 hb⟩⟩
instance (cs : List VP) : Flat (ptrV cs) := ⟨fun ⟨_, _, h, _⟩ => by subst h; exact ⟨rfl, rfl⟩⟩
/-- several cells as one value -/
def aggV (cs : List VP) : VP := ⟨fun S w v => ∃ arr : Array Value, v = .agg arr ∧ arr.size = cs.length ∧ ∀ (j : Nat) (q : VP), cs[j]? = some q → ∃ u, arr[j]? = some u ∧ q.p S w u,
  fun h1 h2 ⟨arr, hv, hn, hc⟩ => ⟨arr, hv, hn, fun j q hj => let ⟨u, hu, hq⟩ := hc j q hj; ⟨u, hu, q.mono h1 h2 hq⟩⟩⟩

def aggB (P : Program) (T : TypeId) : Option Bool := (P.underlying T).map fun | .struct _ | .array _ _ => true | _ => false
theorem run_isAgg {b : Bool} (h : aggB P T = some b) (w : World) : (isAgg T).run P w = .ok b w := by
  unfold aggB at h
  cases hu : P.underlying T with
  | none => simp [hu] at h
  | some d =>
    simp only [hu, Option.map_some, Option.some.injEq] at h
    subst h
    cases d <;> simp [isAgg, run_underlying hu]
theorem run_sizeOf {n : Nat} (h : P.cellsOf T = n) (hn : Nat.blt 0 n = true) (w : World) : (sizeOf T).run P w = .ok n w := by
  have hn' : 0 < n := by simpa using hn
  unfold Program.cellsOf at h
  cases hi : P.info? T with
  | none => simp [hi] at h; omega
  | some i => simp [hi] at h; subst h; simp [sizeOf, typeInfo, hi]

theorem run_bind_ok {α β : Type} {s : Sem α} {f : α → Sem β} {w w' : World} {a : α} (h : s.run P w = .ok a w') : (s >>= f).run P w = (f a).run P w' := by
  rw [Sem.run_bind, h]; rfl

theorem opLoad {cs : List VP} (hT : aggB P T = some false) (hx : Opd env x (ptrV (q :: cs))) : OpP P hs env ⟨dst, .load T x, ty, pos, after, g⟩ q :=
  OpP.of_read fun ρ w S F _ he => by
    obtain ⟨b, off, hv, hb, hc⟩ := he.o _ _ hx
    obtain ⟨v, hv', hq⟩ := hc 0 q rfl
    refine ⟨v, ?_, hq⟩
    have h1 : (loadVar T ⟨b, off, none⟩).run P w = .ok v w := by
      unfold loadVar
      rw [run_bind_ok (run_isAgg hT w)]
      simp only [Nat.add_zero] at hv'
      simp [hv']
    simp [execOp, hv, Instr.loadAt, Instr.sureAddr, h1]

theorem run_loadCellsFrom {b off : Nat} : ∀ (n i : Nat) (acc : Array Value) (w : World) (vs : List Value), vs.length = n → (∀ j v, vs[j]? = some v → w.cell? ⟨b, off + (i + j), none⟩ = some v) →
    (loadCellsFrom ⟨b, off, none⟩ i n acc).run P w = .ok (acc ++ vs.toArray) w
  | 0, i, acc, w, vs, hn, h => by
    have : vs = [] := List.length_eq_zero_iff.1 hn
    subst this; simp [loadCellsFrom, go_sem]
  | n + 1, i, acc, w, [], hn, h => by cases hn
  | n + 1, i, acc, w, v :: vs, hn, h => by
    have h0 : w.cell? (Addr.add ⟨b, off, none⟩ i) = some v := by
      have := h 0 v rfl
      unfold Addr.add
      split
      · rename_i hi; subst hi; simpa using this
      · simpa using this
    have hl : (load (Addr.add ⟨b, off, none⟩ i)).run P w = .ok v w := by simp [load, Sem.run, h0]
    unfold loadCellsFrom
    rw [run_bind_ok hl, run_loadCellsFrom n (i + 1) (acc.push v) w vs (by simpa using hn) (fun j u hj => by
      have := h (j + 1) u (by simpa using hj)
      rwa [show i + (j + 1) = i + 1 + j by omega] at this)]
    simp

theorem cells_list {S : BS} {w : World} {b off : Nat} : ∀ (cs : List VP) , CellsAt S w b off cs → ∃ vs : List Value, vs.length = cs.length ∧ (∀ j v, vs[j]? = some v → w.cell? ⟨b, off + j, none⟩ = some v) ∧ ∀ (j : Nat) (q : VP), cs[j]? = some q → ∃ u, vs[j]? = some u ∧ q.p S w u
  | [], _ => ⟨[], rfl, fun _ _ h => by simp at h, fun _ _ h => by simp at h⟩
  | c :: cs, h => by
    obtain ⟨v, hv, hq⟩ := h 0 c rfl
    have h' : CellsAt S w b (off + 1) cs := h.drop 1
    obtain ⟨vs, h1, h2, h3⟩ := cells_list cs h'
    refine ⟨v :: vs, by simp [h1], fun j u hj => ?_, fun j q hj => ?_⟩
    · cases j with
      | zero => simp at hj; subst hj; simpa using hv
      | succ j => have := h2 j u (by simpa using hj); rwa [show off + (j + 1) = off + 1 + j by omega]
    · cases j with
      | zero => simp at hj; subst hj; exact ⟨v, rfl, hq⟩
      | succ j => obtain ⟨u, hu, hq⟩ := h3 j q (by simpa using hj); exact ⟨u, by simpa using hu, hq⟩

theorem CellsAt.take {S : BS} {w : World} {b off : Nat} {cs : List VP} (k : Nat) (h : CellsAt S w b off cs) : CellsAt S w b off (cs.take k) :=
  fun j q hj => h j q (by
    rw [List.getElem?_take] at hj
    split at hj
    · exact hj
    · cases hj)

theorem run_loadAgg {S : BS} {w : World} {b off n : Nat} {cs : List VP} (hT : aggB P T = some true) (hn : P.cellsOf T = n) (h0 : Nat.blt 0 n = true) (hl : cs.length = n) (hc : CellsAt S w b off cs) :
    ∃ v, (loadVar T ⟨b, off, none⟩).run P w = .ok v w ∧ (aggV cs).p S w v := by
  obtain ⟨vs, h1, h2, h3⟩ := cells_list _ hc
  refine ⟨.agg vs.toArray, ?_, vs.toArray, rfl, by simp [h1], fun j q hj => by obtain ⟨u, hu, hq⟩ := h3 j q hj; exact ⟨u, by simpa using hu, hq⟩⟩
  unfold loadVar
  rw [run_bind_ok (run_isAgg hT w)]
  simp only [if_true]
  have : (loadCells ⟨b, off, none⟩ n).run P w = .ok vs.toArray w := by
    have := run_loadCellsFrom (P := P) (b := b) (off := off) n 0 #[] w vs (by omega) (fun j v hj => by simpa using h2 j v hj)
    simpa [loadCells] using this
  simp [run_sizeOf hn h0 w, this]

theorem opLoadA {cs : List VP} {n : Nat} (hT : aggB P T = some true) (hn : P.cellsOf T = n) (h0 : Nat.blt 0 n = true) (hx : Opd env x (ptrV cs)) (hl : Nat.ble n cs.length = true) :
    OpP P hs env ⟨dst, .load T x, ty, pos, after, g⟩ (aggV (cs.take n)) :=
  OpP.of_read fun ρ w S F _ he => by
    obtain ⟨b, off, hv, hb, hc⟩ := he.o _ _ hx
    have hl' : n ≤ cs.length := by simpa using hl
    obtain ⟨v, hr, hq⟩ := run_loadAgg hT hn h0 (cs := cs.take n) (by simp; omega) (hc.take n)
    refine ⟨v, ?_, hq⟩
    simp [execOp, hv, Instr.loadAt, Instr.sureAddr, hr]

/-- where a field lies -/
def fieldB (P : Program) (T : TypeId) (f : Nat) : Option Nat :=
  match P.underlying T with
  | some (.struct fs) => match fs[f]? with
    | some fd => if P.cellsOf fd.type = 0 then none else some fd.offset
    | none => none
  | _ => none
theorem run_fieldAt {f off k b : Nat} (h : fieldB P T f = some k) (w : World) : (Instr.fieldAt T (.pointer (some ⟨b, off, none⟩)) f).run P w = .ok (.pointer (some ⟨b, off + k, none⟩)) w := by
  unfold fieldB at h
  split at h
  · rename_i fs hu
    split at h
    · rename_i fd hf
      split at h
      · cases h
      · rename_i hz
        simp only [Option.some.injEq] at h
        have hs : (sizeOf fd.type).run P w = .ok (P.cellsOf fd.type) w := run_sizeOf rfl (by simp; omega) w
        have hadd : Addr.add ⟨b, off, none⟩ fd.offset = ⟨b, off + k, none⟩ := by
          unfold Addr.add
          split
          · rename_i h0; simp
          · simp [h]
        simp [Instr.fieldAt, Instr.sureAddr, run_underlying hu, hf, fieldPlace, hs, hz, hadd]
    · cases h
  · cases h

theorem opField {cs : List VP} {f k : Nat} (h : fieldB P T f = some k) (hx : Opd env x (ptrV cs)) : OpP P hs env ⟨dst, .fieldAddr T x f, ty, pos, after, g⟩ (ptrV (cs.drop k)) :=
  OpP.of_read fun ρ w S F _ he => by
    obtain ⟨b, off, hv, hb, hc⟩ := he.o _ _ hx
    exact ⟨_, by simp [execOp, hv, run_fieldAt h], b, off + k, rfl, hb, hc.drop k⟩

theorem opNilChk {cs : List VP} (hx : Opd env x (ptrV cs)) : OpP P hs env ⟨dst, .nilCheck x, ty, pos, after, g⟩ (ptrV cs) :=
  OpP.of_read fun ρ w S F _ he => by
    have h := he.o _ _ hx
    obtain ⟨b, off, hv, hb, hc⟩ := h
    exact ⟨_, by simp [execOp, hv, go_sem], b, off, rfl, hb, hc⟩
abbrev nilV : VP := exactV (.pointer none)
theorem opEqlNil {cs : List VP} {E : TypeId} (hT : P.underlying T = some (.pointer E)) (hx : Opd env x (ptrV cs)) : OpP P hs env ⟨dst, .binOp .eql T x (.const (.pointer none)) T', ty, pos, after, g⟩ (propV False) :=
  OpP.of_read fun ρ w S F _ he => by
    obtain ⟨b, off, hv, hb, hc⟩ := he.o _ _ hx
    exact ⟨.bool false, by simp [execOp, hv, he.c, go_sem, hT], _, rfl, by simp⟩
theorem opNeqNil {cs : List VP} {E : TypeId} (hT : P.underlying T = some (.pointer E)) (hx : Opd env x (ptrV cs)) : OpP P hs env ⟨dst, .binOp .neq T x (.const (.pointer none)) T', ty, pos, after, g⟩ (propV True) :=
  OpP.of_read fun ρ w S F _ he => by
    obtain ⟨b, off, hv, hb, hc⟩ := he.o _ _ hx
    exact ⟨.bool true, by simp [execOp, hv, he.c, go_sem, hT], _, rfl, by simp⟩
theorem opNilEqlNil {E : TypeId} (hT : P.underlying T = some (.pointer E)) (hx : Opd env x nilV) : OpP P hs env ⟨dst, .binOp .eql T x (.const (.pointer none)) T', ty, pos, after, g⟩ (propV True) :=
  OpP.of_read fun ρ w S F _ he => by
    have hv := he.o _ _ hx; simp only [exactV] at hv
    exact ⟨.bool true, by simp [execOp, hv, he.c, go_sem, hT], _, rfl, by simp⟩
theorem opNilNeqNil {E : TypeId} (hT : P.underlying T = some (.pointer E)) (hx : Opd env x nilV) : OpP P hs env ⟨dst, .binOp .neq T x (.const (.pointer none)) T', ty, pos, after, g⟩ (propV False) :=
  OpP.of_read fun ρ w S F _ he => by
    have hv := he.o _ _ hx; simp only [exactV] at hv
    exact ⟨.bool false, by simp [execOp, hv, he.c, go_sem, hT], _, rfl, by simp⟩

/-! ### slices -/
/-- a slice of shared cells: n cells an element -/
def sliceV {α : Type} (n : Nat) (enc : α → List VP) (xs : List α) : VP :=
  ⟨fun S w v => ∃ (a : Option Addr) (cap : Nat), v = .slice a xs.length cap ∧ xs.length ≤ cap ∧ xs.length ≤ 281474976710656 ∧
      (match a with | none => cap = 0 | some ad => cap ≠ 0 → ad.spot = none ∧ S ad.block ∧ ∀ (i : Nat) (x : α), xs[i]? = some x → CellsAt S w ad.block (ad.off + i * n) (enc x)),
   fun {S S' w w' v} h1 h2 ⟨a, cap, hv, hc, hm, h⟩ => ⟨a, cap, hv, hc, hm, by
      cases a with
      | none => exact h
      | some ad => exact fun h0 => let h := h h0; ⟨h.1, h1 _ h.2.1, fun i x hx => (h.2.2 i x hx).mono h1 h2 h.2.1⟩⟩⟩
instance {α : Type} (n : Nat) (enc : α → List VP) (xs : List α) : Flat (sliceV n enc xs) := ⟨fun ⟨_, _, h, _⟩ => by subst h; exact ⟨rfl, rfl⟩⟩
theorem sliceV_len {α : Type} {n : Nat} {enc : α → List VP} {xs : List α} {S : BS} {w : World} {v : Value} (h : (sliceV n enc xs).p S w v) : xs.length ≤ 281474976710656 := h.choose_spec.choose_spec.2.2.1
theorem sliceV_nil {α : Type} (n : Nat) (enc : α → List VP) : VLe (exactV (.slice none 0 0)) (sliceV n enc []) :=
  fun S w v h => ⟨none, 0, h, by simp, by simp, rfl⟩

theorem opLen {α : Type} {n : Nat} {enc : α → List VP} {xs : List α} {E : TypeId} {ats : Array TypeId} (hat : ats[0]? = some T) (hT : P.underlying T = some (.slice E)) (hx : Opd env x (sliceV n enc xs)) :
    OpP P hs env ⟨dst, .call ⟨.builtin .len, #[x], ats⟩, ty, pos, after, g⟩ (intV .i64 (xs.length : Int)) :=
  OpP.of_read fun ρ w S F _ he => by
    obtain ⟨ad, cap, hv, _⟩ := he.o _ _ hx
    exact ⟨_, by simp [execOp, resolve, invoke, builtin, Builtin.len_, hat, hv, run_underlying hT, goInt], rfl⟩

theorem opIndexAddr {α : Type} {n : Nat} {enc : α → List VP} {xs : List α} {E : TypeId} {i : Int} {j : Nat} {e : α} (hT : P.underlying T = some (.slice E)) (hE : P.cellsOf E = n) (h0 : Nat.blt 0 n = true)
    (hx : Opd env x (sliceV n enc xs)) (hy : Opd env y (intV k i)) (hi : i = (j : Int)) (hj : xs[j]? = some e) : OpP P hs env ⟨dst, .indexAddr T x y, ty, pos, after, g⟩ (ptrV (enc e)) :=
  OpP.of_read fun ρ w S F _ he => by
    obtain ⟨ad, cap, hv, hc, hm, h⟩ := he.o _ _ hx
    have h2 := he.o _ _ hy; simp only [exactV] at h2
    have hjl : j < xs.length := (List.getElem?_eq_some_iff.1 hj).1
    cases ad with
    | none => simp at h; omega
    | some ad =>
      obtain ⟨b, off, sp⟩ := ad
      obtain ⟨hsp, hb, hel⟩ := h (by omega)
      simp only at hsp hb hel; subst hsp
      refine ⟨.pointer (some ⟨b, off + j * n, none⟩), ?_, b, off + j * n, rfl, hb, hel j e hj⟩
      have hadd : Addr.add ⟨b, off, none⟩ (j * n) = ⟨b, off + j * n, none⟩ := by
        unfold Addr.add
        split
        · rename_i h0; simp
        · rfl
      have hs := run_sizeOf (T := E) hE h0 w
      subst hi
      simp [execOp, hv, h2, Instr.indexAt, asIntOf, run_underlying hT, hs, hadd, hjl]

/-! ### new memory that is shared from the first -/
theorem heap_push_old (w : World) (o : Obj) (k : Nat) (h : k < w.heap.size) : (w.heap.push o)[k]? = w.heap[k]? := by
  rw [Array.getElem?_push, if_neg (by omega)]
theorem Grow.new1 (w : World) (S : BS) (o : Obj) : Grow w { w with heap := w.heap.push o } S (fun k => S k ∨ k = w.heap.size) :=
  ⟨rfl, rfl, rfl, by simp, fun k hk => heap_push_old w o k hk, fun _ h => .inl h, fun k hk => hk.elim .inl (fun h => .inr ⟨by omega, by simp [h]⟩)⟩
/-- a new block that nothing shared speaks of -/
theorem Grow.new0 (w : World) (S : BS) (o : Obj) : Grow w { w with heap := w.heap.push o } S S :=
  ⟨rfl, rfl, rfl, by simp, fun k hk => heap_push_old w o k hk, fun _ h => h, fun k hk => .inl hk⟩

theorem cells_new {S : BS} {w : World} {cs : List VP} {arr : Array Value} {T : TypeId} (hd : ∀ k, S k → k < w.heap.size) (hn : arr.size = cs.length) (h : ∀ (j : Nat) (q : VP), cs[j]? = some q → ∃ u, arr[j]? = some u ∧ q.p S w u) :
    CellsAt (fun k => S k ∨ k = w.heap.size) { w with heap := w.heap.push (.cells arr T) } w.heap.size 0 cs := fun j q hj => by
  obtain ⟨u, hu, hq⟩ := h j q hj
  refine ⟨u, ?_, (Grow.new1 w S (.cells arr T)).vp hd hq⟩
  simp [World.cell?, hu]

theorem opBoxA {cs : List VP} (hx : Opd env x (aggV cs)) : OpP P hs env ⟨dst, .box T x, ty, pos, after, g⟩ (ptrV cs) :=
  OpP.of_run fun ρ w S F hd _ _ _ he => by
    obtain ⟨arr, hv, hn, hc⟩ := he.o _ _ hx
    refine ⟨.pointer (some ⟨w.heap.size, 0, none⟩), _, _, ?_, Grow.new1 w S (.cells arr T), w.heap.size, 0, rfl, .inr rfl, cells_new hd hn hc⟩
    simp [execOp, hv, Instr.box, newVar, newRow, Value.cells]
theorem opBox [Flat q] (hx : Opd env x q) : OpP P hs env ⟨dst, .box T x, ty, pos, after, g⟩ (ptrV [q]) :=
  OpP.of_run fun ρ w S F hd _ _ _ he => by
    have hv := he.o _ _ hx
    have hf := (Flat.flat hv).1
    refine ⟨.pointer (some ⟨w.heap.size, 0, none⟩), _, _, ?_, Grow.new1 w S (.cells #[ρ x] T), w.heap.size, 0, rfl, .inr rfl, cells_new hd (by simp) (fun j q' hj => ?_)⟩
    · simp [execOp, Instr.box, newVar, newRow, hf]
    · cases j with
      | zero => simp at hj; subst hj; exact ⟨_, rfl, hv⟩
      | succ j => simp at hj

/-! ### calls -/
/-- a function that has a body -/
def callB (P : Program) (f : FuncId) : Bool := match P.funcs[f]? with | some fn => !(fn.name == "runtime.NumGoroutine") && fn.body.isSome | none => false
theorem run_callFunc {f : FuncId} (h : callB P f = true) (vs : Array Value) (w : World) : (callFunc f vs).run P w = .ok (.enter f vs) w := by
  unfold callB at h
  split at h
  · rename_i fn hf
    simp only [Bool.and_eq_true, Bool.not_eq_true'] at h
    have h3 : ¬ fn.name = "runtime.NumGoroutine" := by simpa using h.1
    obtain ⟨c, hc⟩ := Option.isSome_iff_exists.1 h.2
    simp [callFunc, hf, h3, hc]
  · cases h

/-- the operands of a call -/
def Opds (env : Env) (xs : List Operand) (ps : List VP) : Prop := ∀ S w (a : Act), EnvOk env S w a.tmps → All2 ps S w (xs.map a.eval)
theorem Opds.nil : Opds env [] [] := fun _ _ _ _ => ⟨rfl, fun _ _ _ h => by simp at h⟩
theorem Opds.cons {x : Operand} {xs : List Operand} {ps : List VP} (h : Opd env x q) (t : Opds env xs ps) : Opds env (x :: xs) (q :: ps) := fun S w a he => by
  obtain ⟨h1, h2⟩ := t S w a he
  refine ⟨by simpa using h1, fun j p v hp hv => ?_⟩
  cases j with
  | zero => simp at hp hv; subst hp; subst hv; exact h S w a he
  | succ j => exact h2 j p v (by simpa using hp) (by simpa using hv)

theorem run_call {f : FuncId} {xs : List Operand} {ats : Array TypeId} (hb : callB P f = true) (a : Act) (w : World) :
    (execOp a.eval ⟨dst, .call ⟨.value (.func f), xs.toArray, ats⟩, ty, pos, after, g⟩).run P w = .ok (.enter f (xs.map a.eval).toArray) w := by
  have h := run_callFunc hb (xs.map a.eval).toArray w
  simp [execOp, resolve, Act.eval, Deferred.ofValue, invoke] at h ⊢; exact h

theorem opCall {f : FuncId} {xs : List Operand} {ats : Array TypeId} {ps : List VP} (hf : FnP P f ps q) (hb : callB P f = true) (hx : Opds env xs ps) :
    OpP P hs env ⟨dst, .call ⟨.value (.func f), xs.toArray, ats⟩, ty, pos, after, g⟩ q := by
  intro a w S F h1 h2 h3 h4 h5 K Q hk
  unfold Oper.wp
  rw [run_call hb]
  refine (hf w S (fun _ => False) _ h1 (fun _ h => h.elim) (fun _ _ h => h) trivial (by simpa using hx S w a h5)).mono ?_
  rintro e w' ⟨v, S', F', _, rfl, hsit, _, _, hq⟩
  refine hk v w' S' ⟨hsit.os, hsit.tape, hsit.output, hsit.size, fun k hk => hsit.kept k hk (fun h => h), hsit.base, fun k hk => ?_⟩ hq
  rcases hsit.shr k hk with h | h | h
  · exact .inl h
  · exact h.elim
  · exact .inr ⟨h, hsit.domS k hk⟩

theorem opExtract {ps : List VP} {i : Nat} (hx : Opd env x (tupV ps)) (hi : ps[i]? = some q) : OpP P hs env ⟨dst, .extract x i, ty, pos, after, g⟩ q :=
  OpP.of_read fun ρ w S F _ he => by
    obtain ⟨vs, hv, hl, hp⟩ := he.o _ _ hx
    have hi' : i < vs.size := by have := (List.getElem?_eq_some_iff.1 hi).1; simp at hl; omega
    refine ⟨vs[i], ?_, hp i q _ hi (by simp [hi'])⟩
    simp [execOp, hv, Instr.extract, hi']

end
end Go.Hl
