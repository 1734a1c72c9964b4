/-
  Rules for a range over a string, for remainders and shifts. No project text.
-/
import Derived.Test.YtgmpadhfgohodaaDoorHlH
namespace Go.Hl
open Go.RowKit
set_option linter.unusedVariables false

section
variable {P : Program} {hs : List HP} {env : Env} {q : VP} {dst : Option Tmp} {ty T T' E : TypeId} {pos : String} {after : Array Edge} {gd : Option (Nat × Bool)} {x y z : Operand}

def putO (w : World) (b : Nat) (o : Obj) : World := { w with heap := w.heap.setIfInBounds b o }
/-- an iterator over a string -/
def iterH (b : Nat) (l : List UInt8) (k : Nat) : HP :=
  ⟨fun F S w => F b ∧ w.heap[b]? = some (.stringIter ⟨l.toArray⟩ k), fun h1 h2 h3 h4 ⟨hF, hh⟩ => ⟨h1 b hF, (h3 b hF).trans hh⟩⟩

theorem opRangeS {l : List UInt8} (hT : P.underlying T = some .string) (hx : Opd env x (strV l)) : OpE P hs env ⟨dst, .range T x, ty, pos, after, gd⟩ (γ := Nat) (fun _ => True) (fun b => iterH b l 0 :: hs) (fun b => addrV b 0) := by
  intro c a w S F hsit hown he K Q hk
  have hv := (hx S w a he).1
  have hr : (execOp a.eval ⟨dst, .range T x, ty, pos, after, gd⟩).run P w = .ok (.value (.pointer (some ⟨w.heap.size, 0, none⟩))) { w with heap := w.heap.push (.stringIter ⟨l.toArray⟩ 0) } := by
    simp [execOp, hv, Instr.range, run_underlying hT, newObj, Sem.run]
  unfold Oper.wp
  rw [hr]
  exact hk w.heap.size _ _ S _ trivial (hsit.newOwn _) (fun _ h => h) (fun k hk => heap_push_old w _ k (hsit.domS k hk)) (hown.newOwn hsit.domS hsit.domF _ ⟨rfl, by simp⟩) rfl

/-- what a step of it gives: bytes below 128 alone -/
def nextSV (l : List UInt8) (k : Nat) : VP := ⟨fun _ _ v => (k < l.length → v = .tuple #[.bool true, .int .i64 (k : Int), .int .i32 ((l.getD k 0).toNat : Int)]) ∧ (¬ k < l.length → v = .tuple #[.bool false]), fun _ _ h => h⟩
theorem decode_ascii {l : List UInt8} {k : Nat} (hk : k < l.length) (h : ∀ b ∈ l, b < 128) : Utf8.decode ⟨l.toArray⟩ k = ((l.getD k 0).toNat, 1) := by
  have hb : (l.getD k 0) < 128 := by
    rw [List.getD_eq_getElem?_getD, List.getElem?_eq_getElem hk]; exact h _ (List.getElem_mem hk)
  have h0 : (ByteArray.mk l.toArray).get! (k + 0) = l.getD k 0 := by
    simp [ByteArray.get!, List.getD_eq_getElem?_getD, hk]
  have hb' : (l.getD k 0).toNat < 128 := by simpa [UInt8.lt_iff_toNat_lt] using hb
  unfold Utf8.decode
  simp only [h0]
  rw [if_pos hb']
theorem opNextS {l : List UInt8} {b k i : Nat} (h : ∀ b ∈ l, b < 128) (hkl : k ≤ l.length) (hx : Opd env x (addrV b 0)) (hi : hs[i]? = some (iterH b l k)) :
    OpE P hs env ⟨dst, .next x true, ty, pos, after, gd⟩ (γ := Unit) (fun _ => True) (fun _ => hs.set i (iterH b l (min (k + 1) l.length))) (fun _ => nextSV l k) := by
  intro c a w S F hsit hown he K Q hk
  have hv := hx S w a he; simp only [exactV] at hv
  obtain ⟨F1, F2, f1, f2, f3, _, f4⟩ := hown.upd hi
  obtain ⟨hFb, hb⟩ := f3
  have hbs : b < w.heap.size := hsit.domF b (f1 b hFb).1
  by_cases hkl' : k < l.length
  · have hr : (execOp a.eval ⟨dst, .next x true, ty, pos, after, gd⟩).run P w = .ok (.value (.tuple #[.bool true, .int .i64 (k : Int), .int .i32 ((l.getD k 0).toNat : Int)])) (putO w b (.stringIter ⟨l.toArray⟩ (k + 1))) := by
      have hd := decode_ascii hkl' h
      have hsz : k < (ByteArray.mk l.toArray).size := by simpa [ByteArray.size] using hkl'
      simp [execOp, hv, Instr.next, getObj, setObj, Sem.run, hb, hd, hsz, putO, goInt]
    unfold Oper.wp
    rw [hr]
    have hne : ∀ k', k' ≠ b → (putO w b (.stringIter ⟨l.toArray⟩ (k + 1))).heap[k']? = w.heap[k']? := fun k' hk' => by simp [putO, Array.getElem?_setIfInBounds_ne (fun e => hk' e.symm)]
    have hag : ∀ k', S k' → (putO w b (.stringIter ⟨l.toArray⟩ (k + 1))).heap[k']? = w.heap[k']? := fun k' hk' => hne k' (fun e => hsit.disj k' hk' (e ▸ (f1 b hFb).1))
    refine hk () _ _ S F trivial (hsit.write (f1 b hFb).1 rfl rfl rfl (by simp [putO]) hne) (fun _ h => h) hag ?_ ⟨fun _ => rfl, fun h' => absurd hkl' h'⟩
    have := f4 S F1 (putO w b (.stringIter ⟨l.toArray⟩ (k + 1))) (iterH b l (min (k + 1) l.length)) (fun k hk => (f1 k hk).2) (fun _ h => h) (fun k hk => hne k (fun e => (f1 b hFb).2 (e ▸ hk))) hag
      ⟨hFb, by rw [show min (k + 1) l.length = k + 1 by omega]; simp [putO, hbs]⟩
    exact this.mono (fun k hk => hk.elim (fun h => (f1 k h).1) (f2 k)) (fun _ h => h) (fun _ _ => rfl) (fun _ _ => rfl)
  · have hr : (execOp a.eval ⟨dst, .next x true, ty, pos, after, gd⟩).run P w = .ok (.value (.tuple #[.bool false])) w := by
      have hsz : ¬ k < (ByteArray.mk l.toArray).size := by simpa [ByteArray.size] using hkl'
      simp [execOp, hv, Instr.next, getObj, Sem.run, hb, hsz]
    unfold Oper.wp
    rw [hr]
    refine hk () _ _ S F trivial hsit (fun _ h => h) (fun _ _ => rfl) ?_ ⟨fun h' => absurd h' hkl', fun _ => rfl⟩
    have := f4 S F1 w (iterH b l (min (k + 1) l.length)) (fun k hk => (f1 k hk).2) (fun _ h => h) (fun _ _ => rfl) (fun _ _ => rfl) ⟨hFb, by rw [show min (k + 1) l.length = k by omega]; exact hb⟩
    exact this.mono (fun k hk => hk.elim (fun h => (f1 k h).1) (f2 k)) (fun _ h => h) (fun _ _ => rfl) (fun _ _ => rfl)
theorem opNext0 {l : List UInt8} {k : Nat} (hx : Opd env x (nextSV l k)) : OpP P hs env ⟨dst, .extract x 0, ty, pos, after, gd⟩ (propV (k < l.length)) :=
  OpP.of_read fun ρ w S F _ he => by
    have hv := he.o _ _ hx
    by_cases h : k < l.length
    · exact ⟨.bool true, by simp [execOp, hv.1 h, Instr.extract], true, rfl, by simp [h]⟩
    · exact ⟨.bool false, by simp [execOp, hv.2 h, Instr.extract], false, rfl, by simp [h]⟩
theorem opNext1 {l : List UInt8} {k : Nat} (h : k < l.length) (hx : Opd env x (nextSV l k)) : OpP P hs env ⟨dst, .extract x 1, ty, pos, after, gd⟩ (intV .i64 (k : Int)) :=
  OpP.of_read fun ρ w S F _ he => by
    have hv := he.o _ _ hx
    exact ⟨_, by simp [execOp, hv.1 h, Instr.extract], rfl⟩
theorem opNext2 {l : List UInt8} {k : Nat} {e : UInt8} (h : l[k]? = some e) (hx : Opd env x (nextSV l k)) : OpP P hs env ⟨dst, .extract x 2, ty, pos, after, gd⟩ (intV .i32 (e.toNat : Int)) :=
  OpP.of_read fun ρ w S F _ he => by
    have hv := he.o _ _ hx
    have hk := (List.getElem?_eq_some_iff.1 h).1
    have he' : l.getD k 0 = e := by rw [List.getD_eq_getElem?_getD, h]; rfl
    exact ⟨_, by simp [execOp, hv.1 hk, Instr.extract]; rw [← List.getD_eq_getElem?_getD, he'], rfl⟩

instance {α : Type} {n : Nat} {enc : α → List VP} [h : Enc n enc] {xs : List α} : FlatL (xs.flatMap enc) := ⟨fun q hq => let ⟨x, _, hx⟩ := List.mem_flatMap.1 hq; h.flat x q hx⟩

/-! ### remainders, quotients, shifts -/
variable {k k' : IntKind} {n m : Int}
theorem opRem (hx : Opd env x (intV k n)) (hy : Opd env y (intV k m)) (h0 : 0 ≤ n) (hm : 0 < m) : OpP P hs env ⟨dst, .binOp .rem T x y T', ty, pos, after, gd⟩ (intV k (n % m)) :=
  OpP.of_read fun ρ w S F _ he => by
    have h1 := he.o _ _ hx; have h2 := he.o _ _ hy; simp only [exactV] at h1 h2
    refine ⟨.int k (n.tmod m), by simp [execOp, h1, h2, go_sem, Op.intDiv]; omega, ?_⟩
    show Value.int k _ = Value.int k _
    rw [Int.tmod_eq_emod_of_nonneg h0]
theorem opQuo (hx : Opd env x (intV k n)) (hy : Opd env y (intV k m)) (h0 : 0 ≤ n) (hm : 0 < m) (hf : fits k (n / m)) : OpP P hs env ⟨dst, .binOp .quo T x y T', ty, pos, after, gd⟩ (intV k (n / m)) :=
  OpP.of_read fun ρ w S F _ he => by
    have h1 := he.o _ _ hx; have h2 := he.o _ _ hy; simp only [exactV] at h1 h2
    refine ⟨.int k (k.wrap (n.tdiv m)), by simp [execOp, h1, h2, go_sem, Op.intDiv]; omega, ?_⟩
    show Value.int k _ = Value.int k _
    rw [Int.tdiv_eq_ediv_of_nonneg h0, wrap_fits hf]
theorem opShl {s : Nat} {hs' : List HP} (hx : Opd env x (intV k n)) (hy : Opd env y (intV k' (s : Int))) (h : s ≤ k.bits) : OpP P hs' env ⟨dst, .binOp .shl T x y T', ty, pos, after, gd⟩ (intV k (k.wrap (n * 2 ^ s))) :=
  OpP.of_read fun ρ w S F _ he => by
    have h1 := he.o _ _ hx; have h2 := he.o _ _ hy; simp only [exactV] at h1 h2
    have hs2 : min (s : Nat) k.bits = s := Nat.min_eq_left h
    have hn : ¬ ((s : Int) < 0) := by omega
    refine ⟨.int k (k.wrap (n * 2 ^ s)), ?_, rfl⟩
    cases k <;> simp only [IntKind.bits] at h <;> simp [execOp, h1, h2, go_sem, Op.shift, hn, Nat.min_eq_left h]
end
end Go.Hl
