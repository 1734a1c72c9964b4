/-
  Rules: function values, strings, arrays, slices of slices, owned memory, append. No project text.
-/
import Derived.Test.YtgmpadhfgohodaaDoorHlB
namespace Go.Hl
open Go.RowKit
set_option linter.unusedVariables false

/-! ### function values -/
/-- a function value that may be called: with what fits 'arg a', where 'ok a' -/
def funV (P : Program) {A : Type} (ok : A → Prop) (arg : A → List VP) (res : A → VP) : VP :=
  ⟨fun S w v => ∃ (f : FuncId) (first cap : Array Value), v = .func (.func f) first cap ∧ callB P f = true ∧ ∀ (S' : BS) (w' : World), (∀ k, S k → S' k) → (∀ k, S k → w'.heap[k]? = w.heap[k]?) → (∀ k, S' k → k < w'.heap.size) →
      ∀ a, ok a → ∀ vs : List Value, All2 (arg a) S' w' vs → Calls P f (first ++ vs.toArray ++ cap) w' fun e w'' => ∃ u S'' F'', e = .returned u ∧ Sit ⟨w', S', fun _ => False, 0, none, []⟩ w'' S'' F'' ∧ (res a).p S'' w'' u,
   fun {S S' w w' v} h1 h2 ⟨f, fi, ca, hv, hc, h⟩ => ⟨f, fi, ca, hv, hc, fun S'' w'' g1 g2 g3 => h S'' w'' (fun k hk => g1 k (h1 k hk)) (fun k hk => (g2 k (h1 k hk)).trans (h2 k hk)) g3⟩⟩

theorem All2.app {ps qs : List VP} {S : BS} {w : World} {vs us : List Value} (h : All2 ps S w vs) (k : All2 qs S w us) : All2 (ps ++ qs) S w (vs ++ us) := by
  refine ⟨by simp [h.1, k.1], fun j p v hp hv => ?_⟩
  by_cases hj : j < ps.length
  · rw [List.getElem?_append_left hj] at hp
    rw [List.getElem?_append_left (by rw [← h.1]; exact hj)] at hv
    exact h.2 j p v hp hv
  · rw [List.getElem?_append_right (by omega)] at hp
    rw [List.getElem?_append_right (by rw [← h.1]; omega)] at hv
    rw [← h.1] at hv
    exact k.2 _ p v hp hv
theorem All2.mono {ps : List VP} {S S' : BS} {w w' : World} {vs : List Value} (h1 : ∀ k, S k → S' k) (h2 : ∀ k, S k → w'.heap[k]? = w.heap[k]?) (h : All2 ps S w vs) : All2 ps S' w' vs :=
  ⟨h.1, fun j p v hp hv => p.mono h1 h2 (h.2 j p v hp hv)⟩

section
variable {P : Program} {hs : List HP} {env : Env} {q : VP} {dst : Option Tmp} {ty T T' : TypeId} {pos : String} {after : Array Edge} {g : Option (Nat × Bool)} {x y z : Operand}

theorem funV_mk {A : Type} {ok : A → Prop} {arg : A → List VP} {res : A → VP} {f : FuncId} {fs cs : List VP} (hcb : callB P f = true) (hf : ∀ a, ok a → FnP P f (fs ++ arg a ++ cs) (res a)) {S : BS} {w : World} {first cap : List Value}
    (h1 : All2 fs S w first) (h2 : All2 cs S w cap) : (funV P ok arg res).p S w (.func (.func f) first.toArray cap.toArray) := by
  refine ⟨f, _, _, rfl, hcb, fun S' w' g1 g2 g3 a ha vs hvs => ?_⟩
  refine (hf a ha w' S' (fun _ => False) _ g3 (fun _ h => h.elim) (fun _ _ h => h) trivial ?_).mono ?_
  · have := ((h1.mono g1 g2).app hvs).app (h2.mono g1 g2)
    simpa using this
  · rintro e w'' ⟨v, S'', F'', _, rfl, hsit, _, _, hq⟩
    exact ⟨v, S'', F'', rfl, hsit, hq⟩

theorem funV_of {A : Type} {ok : A → Prop} {arg : A → List VP} {res : A → VP} {f : FuncId} (hcb : callB P f = true) (hf : ∀ a, ok a → FnP P f (arg a) (res a)) : VLe (exactV (.func (.func f) #[] #[])) (funV P ok arg res) :=
  fun S w v hv => by
    subst hv
    exact funV_mk (fs := []) (cs := []) (first := []) (cap := []) hcb (fun a ha => by simpa using hf a ha) ⟨rfl, fun _ _ _ h => by simp at h⟩ ⟨rfl, fun _ _ _ h => by simp at h⟩

theorem opMakeFunc {A : Type} {ok : A → Prop} {arg : A → List VP} {res : A → VP} {f : FuncId} {fs cs : List VP} {xs ys : List Operand} (hcb : callB P f = true) (h1 : Opds env xs fs) (h2 : Opds env ys cs) (hf : ∀ a, ok a → FnP P f (fs ++ arg a ++ cs) (res a)) :
    OpP P hs env ⟨dst, .makeFunc (.func f) xs.toArray ys.toArray, ty, pos, after, g⟩ (funV P ok arg res) := by
  intro a w S F _ _ _ _ he K Q hk
  unfold Oper.wp
  refine hk _ w S (Grow.refl _ _) ?_
  have := funV_mk (P := P) hcb hf (h1 S w a he) (h2 S w a he)
  simpa using this

instance {A : Type} (ok : A → Prop) (arg : A → List VP) (res : A → VP) : Flat (funV P ok arg res) := ⟨fun ⟨_, _, _, h, _⟩ => by subst h; exact ⟨rfl, rfl⟩⟩

theorem opCallV {A : Type} {ok : A → Prop} {arg : A → List VP} {res : A → VP} {xs : List Operand} {ats : Array TypeId} (a : A) (hx : Opd env x (funV P ok arg res)) (ha : ok a) (hxs : Opds env xs (arg a)) :
    OpP P hs env ⟨dst, .call ⟨.value x, xs.toArray, ats⟩, ty, pos, after, g⟩ (res a) := by
  intro ac w S F h1 h2 h3 h4 h5 K Q hk
  obtain ⟨f, first, cap, hv, hcb, hc⟩ := hx S w ac h5
  have hr : (execOp ac.eval ⟨dst, .call ⟨.value x, xs.toArray, ats⟩, ty, pos, after, g⟩).run P w = .ok (.enter f (first ++ (xs.map ac.eval).toArray ++ cap)) w := by
    have h := run_callFunc hcb (first ++ (xs.map ac.eval).toArray ++ cap) w
    simp [execOp, resolve, hv, Deferred.ofValue, invoke] at h ⊢; exact h
  unfold Oper.wp
  rw [hr]
  refine (hc S w (fun _ h => h) (fun _ _ => rfl) h1 a ha _ (hxs S w ac h5)).mono ?_
  rintro e w' ⟨v, S', F', rfl, hsit, hq⟩
  refine hk v w' S' ⟨hsit.os, hsit.tape, hsit.output, hsit.size, fun k hk => hsit.kept k hk (fun h => h), hsit.base, fun k hk => ?_⟩ hq
  rcases hsit.shr k hk with h | h | h
  · exact .inl h
  · exact h.elim
  · exact .inr ⟨h, hsit.domS k hk⟩

/-! ### strings -/
/-- a string of these bytes -/
def strV (l : List UInt8) : VP := ⟨fun _ _ v => v = .string ⟨l.toArray⟩ ∧ l.length ≤ 281474976710656, fun _ _ h => h⟩
instance (l : List UInt8) : Flat (strV l) := ⟨fun ⟨h, _⟩ => by subst h; exact ⟨rfl, rfl⟩⟩
theorem strV_len {l : List UInt8} {S : BS} {w : World} {v : Value} (h : (strV l).p S w v) : l.length ≤ 281474976710656 := h.2
theorem strV_nil : VLe (exactV (.string ⟨#[]⟩)) (strV []) := fun _ _ v hv => ⟨hv, by simp⟩
theorem strV_of {b : ByteArray} (h : b.size ≤ 281474976710656) : VLe (exactV (.string b)) (strV b.data.toList) := fun _ _ v hv => ⟨hv, h⟩
theorem Opd.s {b : ByteArray} (l : List UInt8) (h : b.data.toList = l) (hl : Nat.ble l.length 281474976710656 = true) : Opd env (.const (.string b)) (strV l) := fun S w a _ => by
  subst h
  exact ⟨rfl, by simpa using hl⟩

theorem bytes_toList (b : ByteArray) : b.toList = b.data.toList := by
  have key : ∀ (n i : Nat) (r : List UInt8), b.size - i = n → ByteArray.toList.loop b i r = r.reverse ++ b.data.toList.drop i := by
    intro n
    induction n with
    | zero =>
      intro i r h
      unfold ByteArray.toList.loop
      rw [if_neg (by omega)]
      have : b.data.toList.drop i = [] := List.drop_eq_nil_of_le (by have : b.data.toList.length = b.size := Array.length_toList
                                                                     omega)
      simp [this]
    | succ n ih =>
      intro i r h
      unfold ByteArray.toList.loop
      have hi : i < b.size := by omega
      rw [if_pos hi, ih (i + 1) _ (by omega)]
      have hl : i < b.data.toList.length := by have : b.data.toList.length = b.size := Array.length_toList
                                               omega
      rw [List.drop_eq_getElem_cons hl]
      have hd : b.data.size = b.size := rfl
      simp [ByteArray.get!, hi, hd]
  have := key b.size 0 [] (by omega)
  simpa [ByteArray.toList] using this

theorem opLenS {l : List UInt8} {ats : Array TypeId} (hat : ats[0]? = some T) (hT : P.underlying T = some .string) (hx : Opd env x (strV l)) : OpP P hs env ⟨dst, .call ⟨.builtin .len, #[x], ats⟩, ty, pos, after, g⟩ (intV .i64 (l.length : Int)) :=
  OpP.of_read fun ρ w S F _ he => by
    obtain ⟨hv, _⟩ := he.o _ _ hx
    have hs : (ByteArray.mk l.toArray).size = l.length := by show l.toArray.size = _; simp
    exact ⟨.int .i64 (l.length : Int), by simp [execOp, resolve, invoke, builtin, Builtin.len_, hat, hv, run_underlying hT, goInt, hs, - ByteArray.size_data], rfl⟩
theorem opIndexS {l : List UInt8} {k : IntKind} {i : Int} {j : Nat} {e : UInt8} (hT : P.underlying T = some .string) (hx : Opd env x (strV l)) (hy : Opd env y (intV k i)) (hi : i = (j : Int)) (hj : l[j]? = some e) :
    OpP P hs env ⟨dst, .index T x y, ty, pos, after, g⟩ (intV .u8 (e.toNat : Int)) :=
  OpP.of_read fun ρ w S F _ he => by
    obtain ⟨hv, _⟩ := he.o _ _ hx
    have h2 := he.o _ _ hy; simp only [exactV] at h2
    subst hi
    have hjl : j < l.length := (List.getElem?_eq_some_iff.1 hj).1
    have he' : l[j] = e := (List.getElem?_eq_some_iff.1 hj).2
    have hs : (ByteArray.mk l.toArray).size = l.length := by show l.toArray.size = _; simp
    have hg : (ByteArray.mk l.toArray)[j]? = some e := by
      rw [getElem?_pos _ j (by rw [hs]; exact hjl)]
      simp [ByteArray.getElem_eq_getElem_data, he']
    exact ⟨.int .u8 (e.toNat : Int), by simp [execOp, hv, h2, Instr.index, asIntOf, run_underlying hT, hg], rfl⟩
theorem opEqlS {l m : List UInt8} (hx : Opd env x (strV l)) (hy : Opd env y (strV m)) : OpP P hs env ⟨dst, .binOp .eql T x y T', ty, pos, after, g⟩ (propV (l = m)) :=
  OpP.of_read fun ρ w S F _ he => by
    obtain ⟨hv, _⟩ := he.o _ _ hx
    obtain ⟨hv', _⟩ := he.o _ _ hy
    exact ⟨.bool (l == m), by simp [execOp, hv, hv', eqGuard, binOp, Op.stringOp, bytes_toList], _, rfl, by simp⟩
theorem opNeqS {l m : List UInt8} (hx : Opd env x (strV l)) (hy : Opd env y (strV m)) : OpP P hs env ⟨dst, .binOp .neq T x y T', ty, pos, after, g⟩ (propV (l ≠ m)) :=
  OpP.of_read fun ρ w S F _ he => by
    obtain ⟨hv, _⟩ := he.o _ _ hx
    obtain ⟨hv', _⟩ := he.o _ _ hy
    exact ⟨.bool (!(l == m)), by simp [execOp, hv, hv', eqGuard, binOp, Op.stringOp, bytes_toList], _, rfl, by simp⟩
theorem opCat {l m : List UInt8} (hx : Opd env x (strV l)) (hy : Opd env y (strV m)) (hl : l.length + m.length ≤ 281474976710656) : OpP P hs env ⟨dst, .binOp .add T x y T', ty, pos, after, g⟩ (strV (l ++ m)) :=
  OpP.of_read fun ρ w S F _ he => by
    obtain ⟨hv, _⟩ := he.o _ _ hx
    obtain ⟨hv', _⟩ := he.o _ _ hy
    refine ⟨.string ⟨(l ++ m).toArray⟩, ?_, rfl, by simpa using hl⟩
    have h1 : ¬ (((ByteArray.mk l.toArray).size + (ByteArray.mk m.toArray).size : Nat) : Int) > IntKind.i64.max := by
      have e1 : (ByteArray.mk l.toArray).size = l.length := by show l.toArray.size = _; simp
      have e2 : (ByteArray.mk m.toArray).size = m.length := by show m.toArray.size = _; simp
      rw [e1, e2]; simp [IntKind.max, IntKind.signed, IntKind.bits]; omega
    have h2 : ByteArray.mk l.toArray ++ ByteArray.mk m.toArray = ByteArray.mk (l ++ m).toArray := by
      apply ByteArray.ext; simp
    simp [execOp, hv, hv', eqGuard, binOp, Op.stringOp, h2] at h1 ⊢
    exact h1

/-! ### min, max, conversions -/
theorem opMax {k : IntKind} {n m : Int} {ats : Array TypeId} (hx : Opd env x (intV k n)) (hy : Opd env y (intV k m)) : OpP P hs env ⟨dst, .call ⟨.builtin .max, #[x, y], ats⟩, ty, pos, after, g⟩ (intV k (max n m)) :=
  OpP.of_read fun ρ w S F _ he => by
    have h1 := he.o _ _ hx; have h2 := he.o _ _ hy; simp only [exactV] at h1 h2
    refine ⟨.int k (if m > n then m else n), by simp [execOp, resolve, invoke, builtin, Builtin.max_, h1, h2, Builtin.max2], ?_⟩
    show Value.int k _ = Value.int k _
    congr 1; split <;> omega
theorem opMin {k : IntKind} {n m : Int} {ats : Array TypeId} (hx : Opd env x (intV k n)) (hy : Opd env y (intV k m)) : OpP P hs env ⟨dst, .call ⟨.builtin .min, #[x, y], ats⟩, ty, pos, after, g⟩ (intV k (min n m)) :=
  OpP.of_read fun ρ w S F _ he => by
    have h1 := he.o _ _ hx; have h2 := he.o _ _ hy; simp only [exactV] at h1 h2
    refine ⟨.int k (if m < n then m else n), by simp [execOp, resolve, invoke, builtin, Builtin.min_, h1, h2, Builtin.min2], ?_⟩
    show Value.int k _ = Value.int k _
    congr 1; split <;> omega
theorem opConv {k k' : IntKind} {n : Int} {D : TypeDesc} (h1 : P.underlying T = some D) (h2 : P.underlying T' = some (.int k')) (hx : Opd env x (intV k n)) : OpP P hs env ⟨dst, .convert T T' x, ty, pos, after, g⟩ (intV k' (k'.wrap n)) :=
  OpP.of_read fun ρ w S F _ he => by
    have hv := he.o _ _ hx; simp only [exactV] at hv
    exact ⟨_, by simp [execOp, hv, convert, run_underlying h1, run_underlying h2, Conv.intToInt], rfl⟩
theorem opConvF {k k' : IntKind} {n : Int} {D : TypeDesc} (h1 : P.underlying T = some D) (h2 : P.underlying T' = some (.int k')) (hx : Opd env x (intV k n)) (h : fits k' n) : OpP P hs env ⟨dst, .convert T T' x, ty, pos, after, g⟩ (intV k' n) :=
  (opConv h1 h2 hx).le (VLe.int (wrap_fits h))

/-! ### owned memory -/
abbrev addrV (b off : Nat) : VP := exactV (.pointer (some ⟨b, off, none⟩))
/-- an owned block of cells -/
def cellsH (b : Nat) (cs : List VP) : HP :=
  ⟨fun F S w => F b ∧ ∃ (arr : Array Value) (T : TypeId), w.heap[b]? = some (.cells arr T (0, 0)) ∧ arr.size = cs.length ∧ ∀ (j : Nat) (q : VP), cs[j]? = some q → ∃ u, arr[j]? = some u ∧ q.p S w u,
   fun h1 h2 h3 h4 ⟨hF, arr, T, hh, hn, hc⟩ => ⟨h1 b hF, arr, T, (h3 b hF).trans hh, hn, fun j q hj => let ⟨u, hu, hq⟩ := hc j q hj; ⟨u, hu, q.mono h2 h4 hq⟩⟩⟩

/-- one of the owned ones, and what happens when it is turned -/
theorem Own.upd {hs : List HP} {F S : BS} {w : World} (h : Own hs F S w) {i : Nat} {h0 : HP} (hi : hs[i]? = some h0) :
    ∃ F1 F2 : BS, (∀ k, F1 k → F k ∧ ¬ F2 k) ∧ (∀ k, F2 k → F k) ∧ h0.p F1 S w ∧ Own (hs.eraseIdx i) F2 S w ∧
      ∀ (S' F1' : BS) (w' : World) (h1 : HP), (∀ k, F1' k → ¬ F2 k) → (∀ k, S k → S' k) → (∀ k, F2 k → w'.heap[k]? = w.heap[k]?) → (∀ k, S k → w'.heap[k]? = w.heap[k]?) → h1.p F1' S' w' → Own (hs.set i h1) (fun k => F1' k ∨ F2 k) S' w' := by
  induction hs generalizing F i with
  | nil => simp at hi
  | cons a hs ih =>
    obtain ⟨G1, G2, g1, g2, g3, g4⟩ := h
    cases i with
    | zero =>
      simp at hi; subst hi
      refine ⟨G1, G2, g1, g2, g3, g4, fun S' F1' w' h1 k1 k2 k3 k4 k5 => ⟨F1', G2, fun k hk => ⟨.inl hk, k1 k hk⟩, fun k hk => .inr hk, k5, g4.mono (fun _ h => h) k2 k3 k4⟩⟩
    | succ i =>
      obtain ⟨F1, F2, f1, f2, f3, f5, f4⟩ := ih g4 (i := i) (by simpa using hi)
      refine ⟨F1, fun k => F2 k ∨ G1 k, fun k hk => ⟨g2 k (f1 k hk).1, fun h => h.elim (f1 k hk).2 (fun hg => (g1 k hg).2 (f1 k hk).1)⟩, fun k hk => hk.elim (fun h => g2 k (f2 k h)) (fun h => (g1 k h).1), f3, ?_, ?_⟩
      · exact ⟨G1, F2, fun k hk => ⟨.inr hk, fun hf => (g1 k hk).2 (f2 k hf)⟩, fun k hk => .inl hk, g3, f5⟩
      intro S' F1' w' h1 k1 k2 k3 k4 k5
      have := f4 S' F1' w' h1 (fun k hk hf => k1 k hk (.inl hf)) k2 (fun k hk => k3 k (.inl hk)) k4 k5
      refine ⟨G1, fun k => F1' k ∨ F2 k, ?_, ?_, a.mono (fun _ h => h) k2 (fun k hk => k3 k (.inr hk)) k4 g3, this⟩
      · exact fun k hk => ⟨.inr (.inr hk), fun h => h.elim (fun hf => k1 k hf (.inr hk)) (fun hf => (g1 k hk).2 (f2 k hf))⟩
      · exact fun k hk => hk.elim .inl (fun h => .inr (.inl h))

theorem Own.get {hs : List HP} {F S : BS} {w : World} (h : Own hs F S w) {i : Nat} {h0 : HP} (hi : hs[i]? = some h0) : ∃ F1 : BS, (∀ k, F1 k → F k) ∧ h0.p F1 S w :=
  let ⟨F1, _, h1, _, h3, _, _⟩ := h.upd hi; ⟨F1, fun k hk => (h1 k hk).1, h3⟩

theorem cell_owned {b : Nat} {cs : List VP} {F S : BS} {w : World} (h : (cellsH b cs).p F S w) : CellsAt S w b 0 cs := fun j q hj => by
  obtain ⟨_, arr, T, hh, _, hc⟩ := h
  obtain ⟨u, hu, hq⟩ := hc j q hj
  exact ⟨u, by simp [World.cell?, hh, hu], hq⟩

theorem opLoadO {cs : List VP} {b off i : Nat} (hT : aggB P T = some false) (hx : Opd env x (addrV b off)) (hi : hs[i]? = some (cellsH b cs)) (hc : cs[off]? = some q) : OpP P hs env ⟨dst, .load T x, ty, pos, after, g⟩ q :=
  OpP.of_read fun ρ w S F ho he => by
    have hv := he.o _ _ hx; simp only [exactV] at hv
    obtain ⟨F1, _, hp⟩ := ho.get hi
    obtain ⟨v, hv', hq⟩ := cell_owned hp off q hc
    refine ⟨v, ?_, hq⟩
    have h1 : (loadVar T ⟨b, off, none⟩).run P w = .ok v w := by
      unfold loadVar
      rw [run_bind_ok (run_isAgg hT w)]
      simp only [Nat.zero_add] at hv'
      simp [hv']
    simp [execOp, hv, Instr.loadAt, Instr.sureAddr, h1]
theorem opLoadOA {cs : List VP} {b off i n : Nat} (hT : aggB P T = some true) (hn : P.cellsOf T = n) (h0 : Nat.blt 0 n = true) (hx : Opd env x (addrV b off)) (hi : hs[i]? = some (cellsH b cs)) (hl : Nat.ble (off + n) cs.length = true) :
    OpP P hs env ⟨dst, .load T x, ty, pos, after, g⟩ (aggV ((cs.drop off).take n)) :=
  OpP.of_read fun ρ w S F ho he => by
    have hv := he.o _ _ hx; simp only [exactV] at hv
    obtain ⟨F1, _, hp⟩ := ho.get hi
    have hl' : off + n ≤ cs.length := by simpa using hl
    have hc : CellsAt S w b off (cs.drop off) := by have := (cell_owned hp).drop off; simpa using this
    obtain ⟨v, hr, hq⟩ := run_loadAgg hT hn h0 (cs := (cs.drop off).take n) (by simp; omega) (hc.take n)
    exact ⟨v, by simp [execOp, hv, Instr.loadAt, Instr.sureAddr, hr], hq⟩
theorem opFieldO {b off f k : Nat} (h : fieldB P T f = some k) (hx : Opd env x (addrV b off)) : OpP P hs env ⟨dst, .fieldAddr T x f, ty, pos, after, g⟩ (addrV b (off + k)) :=
  OpP.of_read fun ρ w S F _ he => by
    have hv := he.o _ _ hx; simp only [exactV] at hv
    exact ⟨_, by simp [execOp, hv, run_fieldAt h], rfl⟩
theorem opNilChkO {b off : Nat} (hx : Opd env x (addrV b off)) : OpP P hs env ⟨dst, .nilCheck x, ty, pos, after, g⟩ (addrV b off) :=
  OpP.of_read fun ρ w S F _ he => by
    have hv := he.o _ _ hx; simp only [exactV] at hv
    exact ⟨_, by simp [execOp, hv], rfl⟩
theorem opEqlNilO {b off : Nat} {E : TypeId} (hT : P.underlying T = some (.pointer E)) (hx : Opd env x (addrV b off)) : OpP P hs env ⟨dst, .binOp .eql T x (.const (.pointer none)) T', ty, pos, after, g⟩ (propV False) :=
  OpP.of_read fun ρ w S F _ he => by
    have hv := he.o _ _ hx; simp only [exactV] at hv
    exact ⟨.bool false, by simp [execOp, hv, he.c, go_sem, hT], _, rfl, by simp⟩
theorem opNeqNilO {b off : Nat} {E : TypeId} (hT : P.underlying T = some (.pointer E)) (hx : Opd env x (addrV b off)) : OpP P hs env ⟨dst, .binOp .neq T x (.const (.pointer none)) T', ty, pos, after, g⟩ (propV True) :=
  OpP.of_read fun ρ w S F _ he => by
    have hv := he.o _ _ hx; simp only [exactV] at hv
    exact ⟨.bool true, by simp [execOp, hv, he.c, go_sem, hT], _, rfl, by simp⟩

/-- a new block that is owned -/
theorem Sit.newOwn {c : Ctx} {w : World} {S F : BS} (h : Sit c w S F) (o : Obj) : Sit c { w with heap := w.heap.push o } S (fun k => k = w.heap.size ∨ F k) where
  os := h.os
  tape := h.tape
  output := h.output
  size := by simp; have := h.size; omega
  kept := fun k hk hm => (heap_push_old w o k (Nat.lt_of_lt_of_le hk h.size)).trans (h.kept k hk hm)
  disj := fun k hk hf => hf.elim (fun e => by have := h.domS k hk; omega) (h.disj k hk)
  domS := fun k hk => by have := h.domS k hk; simp; omega
  domF := fun k hk => by rcases hk with hk | hk; · simp [hk]
                         · have := h.domF k hk; simp; omega
  own := fun k hk => hk.elim (fun e => .inr (e ▸ h.size)) (h.own k)
  shr := h.shr
  base := h.base
theorem Own.newOwn {hs : List HP} {w : World} {S F : BS} (h : Own hs F S w) (hS : ∀ k, S k → k < w.heap.size) (hF : ∀ k, F k → k < w.heap.size) (o : Obj) {h1 : HP} (hp : h1.p (fun k => k = w.heap.size) S { w with heap := w.heap.push o }) :
    Own (h1 :: hs) (fun k => k = w.heap.size ∨ F k) S { w with heap := w.heap.push o } :=
  ⟨fun k => k = w.heap.size, F, fun k hk => ⟨.inl hk, fun hf => by have := hF k hf; omega⟩, fun k hk => .inr hk, hp,
    h.mono (fun _ h => h) (fun _ h => h) (fun k hk => heap_push_old w o k (hF k hk)) (fun k hk => heap_push_old w o k (hS k hk))⟩
theorem cellsH_new {S : BS} {w : World} {cs : List VP} {arr : Array Value} {T : TypeId} (hd : ∀ k, S k → k < w.heap.size) (hn : arr.size = cs.length) (h : ∀ (j : Nat) (q : VP), cs[j]? = some q → ∃ u, arr[j]? = some u ∧ q.p S w u) :
    (cellsH w.heap.size cs).p (fun k => k = w.heap.size) S { w with heap := w.heap.push (.cells arr T) } :=
  ⟨rfl, arr, T, by simp, hn, fun j q hj => let ⟨u, hu, hq⟩ := h j q hj; ⟨u, hu, (Grow.new0 w S (.cells arr T)).vp hd hq⟩⟩

theorem opBoxO [Flat q] (hx : Opd env x q) : OpE P hs env ⟨dst, .box T x, ty, pos, after, g⟩ (γ := Nat) (fun _ => True) (fun b => cellsH b [q] :: hs) (fun b => addrV b 0) := by
  intro c a w S F hsit hown he K Q hk
  have hv := hx S w a he
  have hf := (Flat.flat hv).1
  have hr : (execOp a.eval ⟨dst, .box T x, ty, pos, after, g⟩).run P w = .ok (.value (.pointer (some ⟨w.heap.size, 0, none⟩))) { w with heap := w.heap.push (.cells #[a.eval x] T) } := by
    simp [execOp, Instr.box, newVar, newRow, hf]
  unfold Oper.wp
  rw [hr]
  refine hk w.heap.size _ _ S _ trivial (hsit.newOwn _) (fun _ h => h) (fun k hk => heap_push_old w _ k (hsit.domS k hk)) (hown.newOwn hsit.domS hsit.domF _ (cellsH_new hsit.domS rfl fun j q' hj => ?_)) rfl
  cases j with
  | zero => simp at hj; subst hj; exact ⟨_, rfl, hv⟩
  | succ j => simp at hj
theorem opBoxOA {cs : List VP} (hx : Opd env x (aggV cs)) : OpE P hs env ⟨dst, .box T x, ty, pos, after, g⟩ (γ := Nat) (fun _ => True) (fun b => cellsH b cs :: hs) (fun b => addrV b 0) := by
  intro c a w S F hsit hown he K Q hk
  obtain ⟨arr, hv, hn, hc⟩ := hx S w a he
  have hr : (execOp a.eval ⟨dst, .box T x, ty, pos, after, g⟩).run P w = .ok (.value (.pointer (some ⟨w.heap.size, 0, none⟩))) { w with heap := w.heap.push (.cells arr T) } := by
    simp [execOp, hv, Instr.box, newVar, newRow, Value.cells]
  unfold Oper.wp
  rw [hr]
  exact hk w.heap.size _ _ S _ trivial (hsit.newOwn _) (fun _ h => h) (fun k hk => heap_push_old w _ k (hsit.domS k hk)) (hown.newOwn hsit.domS hsit.domF _ (cellsH_new hsit.domS hn hc)) rfl

/-- a type's cells at zero -/
def zeroB (P : Program) (T : TypeId) : Option (List Value) := (P.info? T).bind fun i => i.zero.map fun z => z.cells.toList
theorem run_zero {zs : List Value} (h : zeroB P T = some zs) (w : World) : ∃ z, (zeroValue T).run P w = .ok z w ∧ z.cells = zs.toArray := by
  unfold zeroB at h
  cases hi : P.info? T with
  | none => simp [hi] at h
  | some i =>
    cases hz : i.zero with
    | none => simp [hi, hz] at h
    | some z =>
      simp only [hi, Option.bind_some, hz, Option.map_some, Option.some.injEq] at h
      exact ⟨z, by simp [zeroValue, typeInfo, hi, hz], by simp [← h]⟩

theorem opAlloc {zs : List Value} (hz : zeroB P T = some zs) : OpE P hs env ⟨dst, .alloc T, ty, pos, after, g⟩ (γ := Nat) (fun _ => True) (fun b => cellsH b (zs.map exactV) :: hs) (fun b => addrV b 0) := by
  intro c a w S F hsit hown he K Q hk
  obtain ⟨z, hz1, hz2⟩ := run_zero hz w
  have hr : (execOp a.eval ⟨dst, .alloc T, ty, pos, after, g⟩).run P w = .ok (.value (.pointer (some ⟨w.heap.size, 0, none⟩))) { w with heap := w.heap.push (.cells zs.toArray T) } := by
    simp [execOp, Instr.alloc, hz1, newVar, newRow, hz2]
  unfold Oper.wp
  rw [hr]
  refine hk w.heap.size _ _ S _ trivial (hsit.newOwn _) (fun _ h => h) (fun k hk => heap_push_old w _ k (hsit.domS k hk)) (hown.newOwn hsit.domS hsit.domF _ (cellsH_new hsit.domS (by simp) fun j q' hj => ?_)) rfl
  rw [List.getElem?_map] at hj
  cases hzj : zs[j]? with
  | none => rw [hzj] at hj; cases hj
  | some u => rw [hzj] at hj; cases hj; exact ⟨u, by simpa using hzj, rfl⟩

theorem heap_setCell_ne (w : World) (a : Addr) (u : Value) (k : Nat) (h : k ≠ a.block) : (w.setCell a u).heap[k]? = w.heap[k]? := Below.heap_setCell w a u k h

/-- what is owned is written -/
theorem Sit.write {c : Ctx} {w w' : World} {S F : BS} (h : Sit c w S F) {b : Nat} (hb : F b) (h1 : w'.os = w.os) (h2 : w'.tape = w.tape) (h3 : w'.output = w.output) (h4 : w'.heap.size = w.heap.size) (h5 : ∀ k, k ≠ b → w'.heap[k]? = w.heap[k]?) : Sit c w' S F where
  os := h1.trans h.os
  tape := h2.trans h.tape
  output := h3.trans h.output
  size := h4 ▸ h.size
  kept := fun k hk hm => by
    have hne : k ≠ b := fun e => by
      subst e
      rcases h.own k hb with h' | h'
      · exact hm h'
      · omega
    exact (h5 k hne).trans (h.kept k hk hm)
  disj := h.disj
  domS := fun k hk => h4 ▸ h.domS k hk
  domF := fun k hk => h4 ▸ h.domF k hk
  own := h.own
  shr := h.shr
  base := h.base

theorem run_storeVar1 {v : Value} {b off : Nat} {arr : Array Value} {E : TypeId} {w : World} (hn : P.cellsOf T = 1) (hf : v.cells = #[v] ∧ v.oneCell' = true) (hb : w.heap[b]? = some (.cells arr E (0, 0))) (ho : off < arr.size) :
    (storeVar T ⟨b, off, none⟩ v).run P w = .ok () (w.setCell ⟨b, off, none⟩ v) := by
  have h1 := hf.2
  have hst : (store ⟨b, off, none⟩ v).run P w = .ok () (w.setCell ⟨b, off, none⟩ v) := by
    rw [run_store _ _ _ _ _ h1]
    have : w.cell? ⟨b, off, none⟩ = some arr[off] := by simp [World.cell?, hb, ho]
    simp [this, World.frozen?, hb]
  unfold storeVar
  rw [run_bind_ok (run_sizeOf hn rfl w)]
  simp [hf.1, storeCells, Addr.add, hst]

theorem opStoreO [Flat q] {cs : List VP} {b off i : Nat} (hn : P.cellsOf T = 1) (hx : Opd env x (addrV b off)) (hy : Opd env y q) (hi : hs[i]? = some (cellsH b cs)) (hl : Nat.blt off cs.length = true) :
    OpE P hs env ⟨none, .store T x y, ty, pos, after, g⟩ (γ := Unit) (fun _ => True) (fun _ => hs.set i (cellsH b (cs.set off q))) (fun _ => exactV undef) := by
  intro c a w S F hsit hown he K Q hk
  have hv := hx S w a he; simp only [exactV] at hv
  have hu := hy S w a he
  have hl' : off < cs.length := by simpa using hl
  obtain ⟨F1, F2, f1, f2, f3, _, f4⟩ := hown.upd hi
  obtain ⟨hFb, arr, E, hb, hsz, hc⟩ := f3
  have ho : off < arr.size := by omega
  have hr : (execOp a.eval ⟨none, .store T x y, ty, pos, after, g⟩).run P w = .ok .skip (w.setCell ⟨b, off, none⟩ (a.eval y)) := by
    simp [execOp, hv, Instr.storeAt, Instr.sureAddr, run_storeVar1 hn (Flat.flat hu) hb ho]
  unfold Oper.wp
  rw [hr]
  have hne : ∀ k, k ≠ b → (w.setCell ⟨b, off, none⟩ (a.eval y)).heap[k]? = w.heap[k]? := fun k hk => heap_setCell_ne w _ _ k hk
  have hag : ∀ k, S k → (w.setCell ⟨b, off, none⟩ (a.eval y)).heap[k]? = w.heap[k]? := fun k hk => hne k (fun e => hsit.disj k hk (e ▸ (f1 b hFb).1))
  refine hk () undef _ S F trivial (hsit.write (f1 b hFb).1 rfl rfl rfl (by simp [World.setCell]) hne) (fun _ h => h) hag ?_ rfl
  have := f4 S F1 (w.setCell ⟨b, off, none⟩ (a.eval y)) (cellsH b (cs.set off q)) (fun k hk => (f1 k hk).2) (fun _ h => h) (fun k hk => hne k (fun e => (f1 b hFb).2 (e ▸ hk))) hag
    ⟨hFb, arr.setIfInBounds off (a.eval y), E, by simp [World.setCell, Array.getElem?_modify, hb], by simp [hsz], fun j q' hj => ?_⟩
  · exact this.mono (fun k hk => hk.elim (fun h => (f1 k h).1) (f2 k)) (fun _ h => h) (fun _ _ => rfl) (fun _ _ => rfl)
  · rw [List.getElem?_set] at hj
    by_cases e : off = j
    · subst e
      rw [if_pos rfl, if_pos hl'] at hj; cases hj
      exact ⟨a.eval y, by simp [ho], q.mono (fun _ h => h) hag hu⟩
    · rw [if_neg e] at hj
      obtain ⟨u, hu', hq⟩ := hc j q' hj
      exact ⟨u, by simp [Array.getElem?_setIfInBounds_ne e, hu'], q'.mono (fun _ h => h) hag hq⟩

theorem SeqT.s {ops : Array Oper} {Q : Exit → Act → World → Prop} {c : Ctx} {l : List Oper} {op : Op} {hs' : List HP} {q' : VP} (h : OpE P hs env ⟨none, op, ty, pos, after, none⟩ (γ := Unit) (fun _ => True) (fun _ => hs') (fun _ => q'))
    (k : SeqT P ops Q c l hs' env) : SeqT P ops Q c (⟨none, op, ty, pos, after, none⟩ :: l) hs env := SeqT.e h rfl rfl (fun _ _ => k)
theorem SeqT.n {ops : Array Oper} {Q : Exit → Act → World → Prop} {c : Ctx} {l : List Oper} {op : Op} {d : Tmp} {γ : Type} {φ : γ → Prop} {hs' : γ → List HP} {q' : γ → VP} (h : OpE P hs env ⟨some d, op, ty, pos, after, none⟩ φ hs' q') (hd : Nat.blt d c.n = true)
    (k : ∀ b, φ b → SeqT P ops Q c l (hs' b) ((d, q' b) :: env)) : SeqT P ops Q c (⟨some d, op, ty, pos, after, none⟩ :: l) hs env := SeqT.e h rfl (by simpa using hd) k

/-! ### what is owned may be shared, or forgotten -/
theorem Own.drop {hs : List HP} {F S : BS} {w : World} (h : Own hs F S w) (i : Nat) : Own (hs.eraseIdx i) F S w := by
  induction hs generalizing F i with
  | nil => exact trivial
  | cons a hs ih =>
    obtain ⟨G1, G2, g1, g2, g3, g4⟩ := h
    cases i with
    | zero => exact g4.mono g2 (fun _ h => h) (fun _ _ => rfl) (fun _ _ => rfl)
    | succ i => exact ⟨G1, G2, g1, g2, g3, ih g4 i⟩
theorem CodeT.forget {Q : Exit → Act → World → Prop} {c : Ctx} {s : Code} (i : Nat) (h : CodeT P Q c s (hs.eraseIdx i) env) : CodeT P Q c s hs env := fun a w ⟨h1, h2, S, F, h3, h4, h5⟩ => h a w ⟨h1, h2, S, F, h3, h4.drop i, h5⟩

/-- an owned block is shared from now on -/
theorem CodeT.share {Q : Exit → Act → World → Prop} {c : Ctx} {s : Code} {i b off t : Nat} {cs : List VP} (hi : hs[i]? = some (cellsH b cs)) (ht : look env t = some (addrV b off)) (h : CodeT P Q c s (hs.eraseIdx i) ((t, ptrV (cs.drop off)) :: env)) : CodeT P Q c s hs env := by
  intro a w ⟨h1, h2, S, F, h3, h4, h5⟩
  obtain ⟨F1, F2, f1, f2, f3, f5, _⟩ := h4.upd hi
  have hb := f1 b f3.1
  have hS : ∀ k, S k → S k ∨ k = b := fun _ h => .inl h
  have hc : CellsAt (fun k => S k ∨ k = b) w b 0 cs := fun j q hj => let ⟨v, hv, hq⟩ := cell_owned f3 j q hj; ⟨v, hv, q.mono hS (fun _ _ => rfl) hq⟩
  refine h a w ⟨h1, h2, fun k => S k ∨ k = b, F2, ⟨h3.os, h3.tape, h3.output, h3.size, h3.kept, ?_, ?_, fun k hk => h3.domF k (f2 k hk), fun k hk => h3.own k (f2 k hk), ?_, fun k hk => .inl (h3.base k hk)⟩,
    f5.mono (fun _ h => h) hS (fun _ _ => rfl) (fun _ _ => rfl), fun s q hl => ?_⟩
  · exact fun k hk hf => hk.elim (fun h => h3.disj k h (f2 k hf)) (fun e => hb.2 (e ▸ hf))
  · exact fun k hk => hk.elim (h3.domS k) (fun e => h3.domF k (e ▸ hb.1))
  · exact fun k hk => hk.elim (h3.shr k) (fun e => by
      rcases h3.own b hb.1 with h | h
      · exact .inr (.inl (e ▸ h))
      · exact .inr (.inr (e ▸ h)))
  · rw [look_cons] at hl
    by_cases e : t = s
    · rw [if_pos e] at hl; cases hl; subst e
      have hv := h5 t _ ht; simp only [exactV] at hv
      refine ⟨b, off, hv, .inr rfl, ?_⟩
      have := hc.drop off; simpa using this
    · rw [if_neg e] at hl
      exact q.mono hS (fun _ _ => rfl) (h5 s q hl)
end
end Go.Hl
