/-
  Rules for bits of whole numbers, for new slices of one kind of element, for what is shared at once; tables in package variables. No project text.
-/
import Derived.Test.YtgmpadhfgohodaaDoorHlP
import Derived.Laws.Bits64b
import Derived.Laws.BitsLemmas
namespace Go.Hl
open Go.RowKit
set_option linter.unusedVariables false

section
variable {P : Program} {hs : List HP} {env : Env} {q : VP} {dst : Option Tmp} {ty T T' E : TypeId} {pos : String} {after : Array Edge} {gd : Option (Nat × Bool)} {x y z : Operand}

/-! ### bits -/
theorem bits_xor64 (a b : Nat) (ha : a < 18446744073709551616) (hb : b < 18446744073709551616) : bits .xor .u64 (a : Int) (b : Int) = ((a ^^^ b : Nat) : Int) := bits_xor_u64_nat a b ha hb
theorem wraps64 (n : Int) (h0 : 0 ≤ n) (h1 : n < 2 ^ 64) : IntKind.u64.wrap n = n := wrap_fits (fits_u64 h0 (by omega))
theorem wraps63 (n : Int) (h0 : 0 ≤ n) (h1 : n < 2 ^ 63) : IntKind.i64.wrap n = n := wrap_fits (fits_i64 (by omega) (by omega))
theorem wraps32 (n : Int) (h0 : 0 ≤ n) (h1 : n < 2 ^ 32) : IntKind.u32.wrap n = n := wrap_fits (fits_u32 h0 (by omega))
theorem opAnd_u64 {a b : Nat} (ha : a < 18446744073709551616) (hb : b < 18446744073709551616) (hx : Opd env x (intV .u64 (a : Int))) (hy : Opd env y (intV .u64 (b : Int))) : OpP P hs env ⟨dst, .binOp .and T x y T', ty, pos, after, gd⟩ (intV .u64 ((a &&& b : Nat) : Int)) :=
  OpP.of_read fun ρ w S F _ he => by
    have h1 := he.o _ _ hx; have h2 := he.o _ _ hy; simp only [exactV] at h1 h2
    exact ⟨.int .u64 ((a &&& b : Nat) : Int), by simp [execOp, h1, h2, go_sem, (bits_nat .u64 64 (by decide) wraps64 a b (by omega) (by omega)).1], rfl⟩
theorem opOr_u64 {a b : Nat} (ha : a < 18446744073709551616) (hb : b < 18446744073709551616) (hx : Opd env x (intV .u64 (a : Int))) (hy : Opd env y (intV .u64 (b : Int))) : OpP P hs env ⟨dst, .binOp .or T x y T', ty, pos, after, gd⟩ (intV .u64 ((a ||| b : Nat) : Int)) :=
  OpP.of_read fun ρ w S F _ he => by
    have h1 := he.o _ _ hx; have h2 := he.o _ _ hy; simp only [exactV] at h1 h2
    exact ⟨.int .u64 ((a ||| b : Nat) : Int), by simp [execOp, h1, h2, go_sem, (bits_nat .u64 64 (by decide) wraps64 a b (by omega) (by omega)).2], rfl⟩
theorem opXor_u64 {a b : Nat} (ha : a < 18446744073709551616) (hb : b < 18446744073709551616) (hx : Opd env x (intV .u64 (a : Int))) (hy : Opd env y (intV .u64 (b : Int))) : OpP P hs env ⟨dst, .binOp .xor T x y T', ty, pos, after, gd⟩ (intV .u64 ((a ^^^ b : Nat) : Int)) :=
  OpP.of_read fun ρ w S F _ he => by
    have h1 := he.o _ _ hx; have h2 := he.o _ _ hy; simp only [exactV] at h1 h2
    exact ⟨.int .u64 ((a ^^^ b : Nat) : Int), by simp [execOp, h1, h2, go_sem, bits_xor64 a b ha hb], rfl⟩
theorem opAnd_i64 {a b : Nat} (ha : a < 9223372036854775808) (hb : b < 9223372036854775808) (hx : Opd env x (intV .i64 (a : Int))) (hy : Opd env y (intV .i64 (b : Int))) : OpP P hs env ⟨dst, .binOp .and T x y T', ty, pos, after, gd⟩ (intV .i64 ((a &&& b : Nat) : Int)) :=
  OpP.of_read fun ρ w S F _ he => by
    have h1 := he.o _ _ hx; have h2 := he.o _ _ hy; simp only [exactV] at h1 h2
    exact ⟨.int .i64 ((a &&& b : Nat) : Int), by simp [execOp, h1, h2, go_sem, (bits_nat .i64 63 (by decide) wraps63 a b (by omega) (by omega)).1], rfl⟩
theorem opOr_u32 {a b : Nat} (ha : a < 4294967296) (hb : b < 4294967296) (hx : Opd env x (intV .u32 (a : Int))) (hy : Opd env y (intV .u32 (b : Int))) : OpP P hs env ⟨dst, .binOp .or T x y T', ty, pos, after, gd⟩ (intV .u32 ((a ||| b : Nat) : Int)) :=
  OpP.of_read fun ρ w S F _ he => by
    have h1 := he.o _ _ hx; have h2 := he.o _ _ hy; simp only [exactV] at h1 h2
    exact ⟨.int .u32 ((a ||| b : Nat) : Int), by simp [execOp, h1, h2, go_sem, (bits_nat .u32 32 (by decide) wraps32 a b (by omega) (by omega)).2], rfl⟩
/-- to the right: any number, any kind -/
theorem opShr {k k' : IntKind} {n : Int} {s : Nat} (hx : Opd env x (intV k n)) (hy : Opd env y (intV k' (s : Int))) (h : s ≤ k.bits) : OpP P hs env ⟨dst, .binOp .shr T x y T', ty, pos, after, gd⟩ (intV k (n / 2 ^ s)) :=
  OpP.of_read fun ρ w S F _ he => by
    have h1 := he.o _ _ hx; have h2 := he.o _ _ hy; simp only [exactV] at h1 h2
    have hn : ¬ ((s : Int) < 0) := by omega
    have hf : n.fdiv (2 ^ s) = n / 2 ^ s := Int.fdiv_eq_ediv_of_nonneg _ (Int.le_of_lt (Int.pow_pos (by decide)))
    refine ⟨.int k (n / 2 ^ s), ?_, rfl⟩
    cases k <;> simp only [IntKind.bits] at h <;> simp [execOp, h1, h2, go_sem, Op.shift, hn, Nat.min_eq_left h, hf]
theorem opShrN {k k' : IntKind} {a s : Nat} (hx : Opd env x (intV k (a : Int))) (hy : Opd env y (intV k' (s : Int))) (h : s ≤ k.bits) : OpP P hs env ⟨dst, .binOp .shr T x y T', ty, pos, after, gd⟩ (intV k ((a / 2 ^ s : Nat) : Int)) :=
  (opShr hx hy h).le (VLe.int (by simp))
theorem opShl_u64 {k' : IntKind} {a s : Nat} (hx : Opd env x (intV .u64 (a : Int))) (hy : Opd env y (intV k' (s : Int))) (h : s ≤ 64) : OpP P hs env ⟨dst, .binOp .shl T x y T', ty, pos, after, gd⟩ (intV .u64 ((a * 2 ^ s % 18446744073709551616 : Nat) : Int)) :=
  (opShl hx hy h).le (VLe.int (by
    rw [IntKind.wrap_u64, Int.natCast_emod, Int.natCast_mul, Int.natCast_pow]; rfl))
theorem opShl_u32 {k' : IntKind} {a s : Nat} (hx : Opd env x (intV .u32 (a : Int))) (hy : Opd env y (intV k' (s : Int))) (h : s ≤ 32) : OpP P hs env ⟨dst, .binOp .shl T x y T', ty, pos, after, gd⟩ (intV .u32 ((a * 2 ^ s % 4294967296 : Nat) : Int)) :=
  (opShl hx hy h).le (VLe.int (by
    rw [IntKind.wrap_u32, Int.natCast_emod, Int.natCast_mul, Int.natCast_pow]; rfl))
theorem opAdd_u64 {a b : Nat} (hx : Opd env x (intV .u64 (a : Int))) (hy : Opd env y (intV .u64 (b : Int))) : OpP P hs env ⟨dst, .binOp .add T x y T', ty, pos, after, gd⟩ (intV .u64 (((a + b) % 18446744073709551616 : Nat) : Int)) :=
  (opAdd hx hy).le (VLe.int (by rw [IntKind.wrap_u64]; omega))
theorem opSub_u64 {a b : Nat} (hb : b < 18446744073709551616) (hx : Opd env x (intV .u64 (a : Int))) (hy : Opd env y (intV .u64 (b : Int))) : OpP P hs env ⟨dst, .binOp .sub T x y T', ty, pos, after, gd⟩ (intV .u64 (((a + 18446744073709551616 - b) % 18446744073709551616 : Nat) : Int)) :=
  (opSub hx hy).le (VLe.int (by rw [IntKind.wrap_u64]; omega))
theorem opMul_u64 {a b : Nat} (hx : Opd env x (intV .u64 (a : Int))) (hy : Opd env y (intV .u64 (b : Int))) : OpP P hs env ⟨dst, .binOp .mul T x y T', ty, pos, after, gd⟩ (intV .u64 ((a * b % 18446744073709551616 : Nat) : Int)) :=
  (opMul hx hy).le (VLe.int (by rw [IntKind.wrap_u64, Int.natCast_emod, Int.natCast_mul]; rfl))
theorem opRem_u64 {a b : Nat} (hb : 0 < b) (hx : Opd env x (intV .u64 (a : Int))) (hy : Opd env y (intV .u64 (b : Int))) : OpP P hs env ⟨dst, .binOp .rem T x y T', ty, pos, after, gd⟩ (intV .u64 ((a % b : Nat) : Int)) :=
  (opRem hx hy (by omega) (by omega)).le (VLe.int (by rw [Int.natCast_emod]))
theorem opQuo_u64 {a b : Nat} (hb : 0 < b ∧ a < 18446744073709551616) (hx : Opd env x (intV .u64 (a : Int))) (hy : Opd env y (intV .u64 (b : Int))) : OpP P hs env ⟨dst, .binOp .quo T x y T', ty, pos, after, gd⟩ (intV .u64 ((a / b : Nat) : Int)) :=
  (opQuo hx hy (by omega) (by omega) (fits_u64 (Int.ediv_nonneg (by omega) (by omega)) (by rw [← Int.natCast_ediv]; have := Nat.div_le_self a b; omega))).le (VLe.int (by rw [Int.natCast_ediv]))
theorem opNeg {k : IntKind} {n : Int} (hx : Opd env x (intV k n)) : OpP P hs env ⟨dst, .unOp .neg T x, ty, pos, after, gd⟩ (intV k (k.wrap (-n))) :=
  OpP.of_read fun ρ w S F _ he => by
    have h1 := he.o _ _ hx; simp only [exactV] at h1
    exact ⟨.int k (k.wrap (0 - n)), by simp [execOp, h1, go_sem, Op.unary, Op.intArith], by rw [Int.zero_sub]; rfl⟩
theorem opNegF {k : IntKind} {n : Int} (hx : Opd env x (intV k n)) (h : fits k (-n)) : OpP P hs env ⟨dst, .unOp .neg T x, ty, pos, after, gd⟩ (intV k (-n)) := (opNeg hx).le (VLe.int (wrap_fits h))
theorem opQuoT {k : IntKind} {n m : Int} (hx : Opd env x (intV k n)) (hy : Opd env y (intV k m)) (hm : m ≠ 0) : OpP P hs env ⟨dst, .binOp .quo T x y T', ty, pos, after, gd⟩ (intV k (k.wrap (n.tdiv m))) :=
  OpP.of_read fun ρ w S F _ he => by
    have h1 := he.o _ _ hx; have h2 := he.o _ _ hy; simp only [exactV] at h1 h2
    exact ⟨.int k (k.wrap (n.tdiv m)), by simp [execOp, h1, h2, go_sem, Op.intDiv, hm], rfl⟩
theorem opRemT {k : IntKind} {n m : Int} (hx : Opd env x (intV k n)) (hy : Opd env y (intV k m)) (hm : m ≠ 0) : OpP P hs env ⟨dst, .binOp .rem T x y T', ty, pos, after, gd⟩ (intV k (n.tmod m)) :=
  OpP.of_read fun ρ w S F _ he => by
    have h1 := he.o _ _ hx; have h2 := he.o _ _ hy; simp only [exactV] at h1 h2
    exact ⟨.int k (n.tmod m), by simp [execOp, h1, h2, go_sem, Op.intDiv, hm], rfl⟩

/-! ### new slices of one kind of element -/
theorem run_makeG {n by_ : Nat} {z0 : Value} {w : World} {ρ : Operand → Value} (hT : P.underlying T = some (.slice E)) (hn : P.cellsOf E = 1) (hb : P.bytesOf E = by_) (hz : zeroB P E = some [z0]) (hv : ρ x = .int .i64 (n : Int)) (hle : n * by_ ≤ 281474976710656) (hle' : n ≤ 281474976710656) :
    (execOp ρ ⟨dst, .makeSlice T x x, ty, pos, after, gd⟩).run P w = .ok (.value (.slice (some ⟨w.heap.size, 0, none⟩) n n)) { w with heap := w.heap.push (.cells (List.replicate n z0).toArray E) } := by
  obtain ⟨info, hi1, hi2⟩ := run_typeInfo' hn rfl w
  obtain ⟨zv, hz1, hz2⟩ := run_zero hz w
  have hs1 := run_sizeOf hn rfl w
  have hw : IntKind.i64.wrap (n : Int) = (n : Int) := wrap_fits (fits_i64 (by omega) (by omega))
  have hbytes : info.bytes = by_ := hi2.trans hb
  have hcells : (Array.range (n * 1)).map (fun t => zv.cells[t % zv.cells.size]!) = (List.replicate n z0).toArray := by
    rw [hz2]
    apply Array.ext
    · simp
    · intro j h1 h2
      simp [Nat.mod_one]
  have hnn : ¬ ((n : Int) < 0) := by omega
  have hbig : ¬ ((281474976710656 : Int) < (by_ : Int) * (n : Int)) := by rw [← Int.natCast_mul, Nat.mul_comm]; omega
  have hroom : ∀ m : Nat, (askRoom m).run P w = .ok () w := fun m => by unfold askRoom; split <;> simp [mark, Sem.run]
  by_cases h0 : n = 0
  · subst h0
    have hw0 : IntKind.i64.wrap 0 = 0 := hw
    have hr0 : Array.map (fun _ : Nat => (default : Value)) (Array.range 0) = (List.replicate 0 z0).toArray := by apply Array.ext <;> simp
    simp [execOp, Instr.makeSlice, run_underlying hT, asInt, asIntOf, hv, hi1, hw0, hs1, newRow]
    exact congrArg (fun r => w.alloc (.cells r E)) hr0
  · simp [execOp, Instr.makeSlice, run_underlying hT, asInt, asIntOf, hv, hi1, hbytes, hw, hnn, hbig, hroom, hs1, h0, hz1, newRow]
    rw [Nat.mul_one] at hcells
    simpa using congrArg (fun r => w.alloc (.cells r E)) hcells
theorem opMakeG {α : Type} {n by_ : Nat} {i : Int} {z0 : Value} {enc : α → List VP} (x0 : α) {q0 : VP} (hT : P.underlying T = some (.slice E)) (hn : P.cellsOf E = 1) (hb : P.bytesOf E = by_) (hz : zeroB P E = some [z0]) (he0 : enc x0 = [q0]) (hq0 : VLe (exactV z0) q0) (hx : Opd env x (intV .i64 i)) (hi : i = (n : Int)) (hle : n * by_ ≤ 281474976710656) (hle' : n ≤ 281474976710656) :
    OpE P hs env ⟨dst, .makeSlice T x x, ty, pos, after, gd⟩ (γ := Nat) (fun _ => True) (fun b => sliceH (some (b, n)) 1 enc (List.replicate n x0) :: hs) (fun b => exactV (sval (some (b, n)) n)) := by
  intro c a w S F hsit hown he K Q hk
  have hv := hx S w a he; simp only [exactV] at hv
  subst hi
  have hr := run_makeG (dst := dst) (ty := ty) (pos := pos) (after := after) (gd := gd) (w := w) hT hn hb hz hv hle hle'
  unfold Oper.wp
  rw [hr]
  refine hk w.heap.size _ _ S _ trivial (hsit.newOwn _) (fun _ h => h) (fun k hk => heap_push_old w _ k (hsit.domS k hk)) (hown.newOwn hsit.domS hsit.domF _ ⟨rfl, by simp, by simp; exact hle', (List.replicate n z0).toArray, E, by simp, by simp, fun j q hj => ?_⟩) rfl
  have hfm : (List.replicate n x0).flatMap enc = List.replicate n q0 := by
    clear hr hle hle' hv hk hx hj
    induction n with
    | zero => rfl
    | succ n ih => rw [List.replicate_succ, List.flatMap_cons, ih, he0]; rfl
  rw [hfm] at hj
  obtain ⟨hjn, rfl⟩ := by simpa [List.getElem?_replicate] using hj
  exact ⟨z0, by simp [hjn], hq0 _ _ _ rfl⟩

theorem vtt : VLe (propV True) (propV (true = true)) := VLe.prop (by simp)
theorem vff : VLe (propV False) (propV (false = true)) := VLe.prop (by simp)
theorem mk_false : VLe (exactV (.bool false)) (propV (false = true)) := fun _ _ v h => ⟨false, h, Iff.rfl⟩
/-! ### what was owned, shared at once -/
theorem OpE.shareS {α : Type} {o : Oper} {γ : Type} {φ : γ → Prop} {hs1 : γ → List HP} {G : γ → SB} {n : Nat} {enc : α → List VP} {xs : γ → List α} [he : Enc n enc] (h : OpE P hs env o φ (fun g => sliceH (G g) n enc (xs g) :: hs1 g) (fun g => exactV (sval (G g) (xs g).length))) :
    OpE P hs env o φ hs1 (fun g => sliceV n enc (xs g)) := by
  intro c a w S F hsit hown hev K Q hk
  refine h c a w S F hsit hown hev K Q fun g v w' S' F' hφ h3 hS' hag hown' hq => ?_
  obtain ⟨F1, F2, f1, f2, f3, f5⟩ := hown'
  simp only [exactV] at hq
  generalize hG : G g = gg at *
  cases gg with
  | none =>
    have hxs : xs g = [] := f3
    refine hk g v w' S' F2 hφ ⟨h3.os, h3.tape, h3.output, h3.size, h3.kept, fun k hk hf => h3.disj k hk (f2 k hf), h3.domS, fun k hk => h3.domF k (f2 k hk), fun k hk => h3.own k (f2 k hk), h3.shr, h3.base⟩ hS' hag f5 ⟨none, 0, hq.trans (by rw [hxs]; rfl), by rw [hxs]; simp, by rw [hxs]; simp, rfl⟩
  | some bc =>
    obtain ⟨b, cap⟩ := bc
    obtain ⟨hFb, hl, hm, arr, T, hh, hn, hc⟩ := f3
    have hb := f1 b hFb
    have hS : ∀ k, S' k → S' k ∨ k = b := fun _ h => .inl h
    have hcl : CellsAt (fun k => S' k ∨ k = b) w' b 0 ((xs g).flatMap enc) := fun j q hj => let ⟨u, hu, hq⟩ := hc j q hj; ⟨u, by simp [World.cell?, hh, hu], q.mono hS (fun _ _ => rfl) hq⟩
    refine hk g v w' (fun k => S' k ∨ k = b) F2 hφ ⟨h3.os, h3.tape, h3.output, h3.size, h3.kept, ?_, ?_, fun k hk => h3.domF k (f2 k hk), fun k hk => h3.own k (f2 k hk), ?_, fun k hk => .inl (h3.base k hk)⟩ (fun k hk => .inl (hS' k hk)) hag
      (f5.mono (fun _ h => h) hS (fun _ _ => rfl) (fun _ _ => rfl)) ⟨some ⟨b, 0, none⟩, cap, hq, hl, hm, fun _ => ⟨rfl, .inr rfl, fun i x hx => flat_cellsAt he.len hcl i x hx⟩⟩
    · exact fun k hk hf => hk.elim (fun h => h3.disj k h (f2 k hf)) (fun e => hb.2 (e ▸ hf))
    · exact fun k hk => hk.elim (h3.domS k) (fun e => h3.domF k (e ▸ hb.1))
    · exact fun k hk => hk.elim (h3.shr k) (fun e => by
        rcases h3.own b hb.1 with h | h
        · exact .inr (.inl (e ▸ h))
        · exact .inr (.inr (e ▸ h)))
theorem OpE.le {o : Oper} {γ : Type} {φ : γ → Prop} {hs1 : γ → List HP} {q1 q2 : γ → VP} (h : OpE P hs env o φ hs1 q1) (hq : ∀ g, φ g → VLe (q1 g) (q2 g)) : OpE P hs env o φ hs1 q2 :=
  fun c a w S F hsit hown hev K Q hk => h c a w S F hsit hown hev K Q fun g v w' S' F' hφ h3 hS' hag hown' hv => hk g v w' S' F' hφ h3 hS' hag hown' (hq g hφ _ _ _ hv)
theorem opMakeShG {α : Type} {n by_ : Nat} {i : Int} {z0 : Value} {enc : α → List VP} [he : Enc 1 enc] (x0 : α) {q0 : VP} (hT : P.underlying T = some (.slice E)) (hn : P.cellsOf E = 1) (hb : P.bytesOf E = by_) (hz : zeroB P E = some [z0]) (he0 : enc x0 = [q0]) (hq0 : VLe (exactV z0) q0) (hx : Opd env x (intV .i64 i)) (hi : i = (n : Int)) (hle : n * by_ ≤ 281474976710656) (hle' : n ≤ 281474976710656) :
    OpE P hs env ⟨dst, .makeSlice T x x, ty, pos, after, gd⟩ (γ := Nat) (fun _ => True) (fun _ => hs) (fun _ => sliceV 1 enc (List.replicate n x0)) :=
  OpE.shareS (G := fun b => some (b, n)) (xs := fun _ => List.replicate n x0) ((opMakeG (hs := hs) x0 hT hn hb hz he0 hq0 hx hi hle hle').le fun g _ => VLe.of_eq (by rw [List.length_replicate]))

/-! ### package variables: what is owned by nobody -/
class DupH (h : HP) : Prop where
  dup : ∀ {F F' S : BS} {w : World}, h.p F S w → h.p F' S w
theorem Own.at {vh : HP} : ∀ {hs : List HP} {i : Nat} {F S : BS} {w : World}, Own hs F S w → hs[i]? = some vh → ∃ F', vh.p F' S w
  | [], i, F, S, w, _, h => by simp at h
  | h0 :: hs, 0, F, S, w, ho, h => by
    obtain ⟨F1, F2, _, _, hp, _⟩ := ho
    simp only [List.getElem?_cons_zero, Option.some.injEq] at h
    subst h; exact ⟨F1, hp⟩
  | h0 :: hs, i + 1, F, S, w, ho, h => by
    obtain ⟨F1, F2, _, _, _, hr⟩ := ho
    exact Own.at hr (by simpa using h)
/-- a call of what reads package variables -/
theorem opCallDup {i : Nat} {vh : HP} [dv : DupH vh] {f : FuncId} {xs : List Operand} {ats : Array TypeId} {ps : List VP} (hf : FnE P f ps [vh] (γ := Unit) (fun _ => True) (fun _ => []) (fun _ => q)) (hb : callB P f = true) (hx : Opds env xs ps) (hi : hs[i]? = some vh) :
    OpP P hs env ⟨dst, .call ⟨.value (.func f), xs.toArray, ats⟩, ty, pos, after, gd⟩ q := by
  intro a w S F h1 h2 h3 h4 h5 K Q hk
  unfold Oper.wp
  rw [run_call hb]
  obtain ⟨F', hv⟩ := h4.at hi
  refine (hf w S (fun _ => False) _ h1 (fun _ h => h.elim) (fun _ _ h => h) ⟨fun _ => False, fun _ => False, fun _ h => h.elim, fun _ h => h.elim, dv.dup hv, trivial⟩ (by simpa using hx S w a h5)).mono ?_
  rintro e w' ⟨v, S', F', _, rfl, hsit, _, _, hq⟩
  refine hk v w' S' ⟨hsit.os, hsit.tape, hsit.output, hsit.size, fun k hk => hsit.kept k hk (fun h => h), hsit.base, fun k hk => ?_⟩ hq
  rcases hsit.shr k hk with h | h | h
  · exact .inl h
  · exact h.elim
  · exact .inr ⟨h, hsit.domS k hk⟩
/-- a table of numbers in a variable -/
def tabH (g : Nat) (k : IntKind) (tab : List Nat) : HP :=
  ⟨fun F S w => S g ∧ ∀ j, j < tab.length → w.cell? ⟨g, j, none⟩ = some (.int k (tab.getD j 0)), fun h1 h2 h3 h4 ⟨hS, hc⟩ => ⟨h2 g hS, fun j hj => by rw [cell_same (h4 g hS)]; exact hc j hj⟩⟩
instance (g : Nat) (k : IntKind) (tab : List Nat) : DupH (tabH g k tab) := ⟨fun h => h⟩
theorem Opd.g {env : Env} (g : Nat) : Opd env (.global g) (addrV g 0) := fun _ _ _ _ => rfl
theorem opLoadTab {i g off : Nat} {k : IntKind} {tab : List Nat} (hT : aggB P T = some false) (hx : Opd env x (addrV g off)) (hi : hs[i]? = some (tabH g k tab)) (ho : off < tab.length) : OpP P hs env ⟨dst, .load T x, ty, pos, after, gd⟩ (intV k ((tab.getD off 0 : Nat) : Int)) :=
  OpP.of_read fun ρ w S F hown he => by
    have hv := he.o _ _ hx; simp only [exactV] at hv
    obtain ⟨F', _, hc⟩ := hown.at hi
    refine ⟨.int k ((tab.getD off 0 : Nat) : Int), ?_, rfl⟩
    have h1 : (loadVar T ⟨g, off, none⟩).run P w = .ok (.int k ((tab.getD off 0 : Nat) : Int)) w := by
      unfold loadVar
      rw [run_bind_ok (run_isAgg hT w)]
      have hcc := hc off ho
      simp [hcc]
    simp [execOp, hv, Instr.loadAt, Instr.sureAddr, h1]
theorem map_getD (tab : List Nat) (j : Nat) : (tab.map Int.ofNat).getD j 0 = ((tab.getD j 0 : Nat) : Int) := by
  simp only [List.getD_eq_getElem?_getD, List.getElem?_map]
  cases tab[j]? <;> rfl
theorem law_callsD {vh : HP} {f : FuncId} {ps : List VP} (h : FnE P f ps [vh] (γ := Unit) (fun _ => True) (fun _ => []) (fun _ => propV True)) {W : World} {vs : Array Value}
    (hv : vh.p (fun _ => False) (fun k => k < W.heap.size) W) (ha : All2 ps (fun k => k < W.heap.size) W vs.toList) : Calls P f vs W fun e W' => e = .returned (.bool true) ∧ Below W.heap.size W W' := by
  refine (h W (fun k => k < W.heap.size) (fun _ => False) vs (fun _ h => h) (fun _ h => h.elim) (fun _ _ h => h.elim) ⟨fun _ => False, fun _ => False, fun _ h => h.elim, fun _ h => h.elim, hv, trivial⟩ ha).mono fun e W' ⟨v, S', F', g, he, hsit, _, _, hq⟩ => ?_
  obtain ⟨b, rfl, hb⟩ := hq
  have : b = true := hb.2 trivial
  subst this
  exact ⟨he, hsit.os, hsit.tape, hsit.output, hsit.size, fun k hk => hsit.kept k hk (fun h => h.elim)⟩
end
end Go.Hl
