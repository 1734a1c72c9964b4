/-
  Packs of what is owned; slices that are owned, element by element; a number that is counted up. No project text.
-/
import Derived.Test.YtgmpadhfgohodaaDoorHlO
import Derived.Laws.LoneSync
namespace Go.Hl
open Go.RowKit
set_option linter.unusedVariables false

def ownH (l : List HP) : HP := ⟨fun F S w => Own l F S w, fun h1 h2 h3 h4 h => Own.mono h1 h2 h3 h4 h⟩
def exH {α : Type} (f : α → HP) : HP := ⟨fun F S w => ∃ a, (f a).p F S w, fun h1 h2 h3 h4 ⟨a, h⟩ => ⟨a, (f a).mono h1 h2 h3 h4 h⟩⟩
def pureH (p : Prop) : HP := ⟨fun _ _ _ => p, fun _ _ _ _ h => h⟩
theorem OLe.refl (hs : List HP) : OLe hs hs := fun _ _ _ h => h
theorem OLe.trans {a b c : List HP} (h : OLe a b) (k : OLe b c) : OLe a c := fun F S w x => k F S w (h F S w x)
theorem OLe.perm {a b : List HP} (h : a.Perm b) : OLe a b := fun _ _ _ x => x.perm h
theorem OLe.cons (h0 : HP) {a b : List HP} (h : OLe a b) : OLe (h0 :: a) (h0 :: b) := fun F S w ⟨F1, F2, h1, h2, h3, h4⟩ => ⟨F1, F2, h1, h2, h3, h _ _ _ h4⟩
theorem OLe.drop {h0 : HP} {a b : List HP} (h : OLe a b) : OLe (h0 :: a) b := fun F S w ⟨F1, F2, h1, h2, h3, h4⟩ => (h _ _ _ h4).mono h2 (fun _ h => h) (fun _ _ => rfl) (fun _ _ => rfl)
theorem OLe.nil (a : List HP) : OLe a [] := fun _ _ _ _ => trivial
theorem OLe.pack {l r : List HP} : OLe (l ++ r) (ownH l :: r) := fun F S w h => by
  obtain ⟨F1, F2, h1, h2, h3, h4⟩ := Own.append.1 h
  exact ⟨F1, F2, h1, h2, h3, h4⟩
theorem OLe.unpack {l r : List HP} : OLe (ownH l :: r) (l ++ r) := fun F S w ⟨F1, F2, h1, h2, h3, h4⟩ => Own.append.2 ⟨F1, F2, h1, h2, h3, h4⟩
theorem OLe.ex {α : Type} {f : α → HP} (a : α) {r : List HP} : OLe (f a :: r) (exH f :: r) := fun F S w ⟨F1, F2, h1, h2, h3, h4⟩ => ⟨F1, F2, h1, h2, ⟨a, h3⟩, h4⟩
theorem OLe.pure {p : Prop} (h : p) {r : List HP} : OLe r (pureH p :: r) := fun F S w x => ⟨fun _ => False, F, fun _ h => h.elim, fun _ h => h, h, x⟩

def permB : List Nat → List Nat → Bool
  | [], l => l.isEmpty
  | i :: ix, l => l.contains i && permB ix (l.erase i)
theorem permB_perm : ∀ {a b : List Nat}, permB a b = true → a.Perm b
  | [], b, h => by simp [permB] at h; subst h; exact .refl _
  | i :: ix, b, h => by
    simp only [permB, Bool.and_eq_true, List.contains_iff_mem] at h
    exact ((permB_perm h.2).cons i).trans (List.perm_cons_erase h.1).symm
/-- in another order -/
theorem Perm.idx {α : Type} {hs hs' : List α} (ix : List Nat) (h1 : ix.filterMap (fun i => hs[i]?) = hs') (h2 : permB (List.range hs.length) ix = true) : hs.Perm hs' := by
  have e : (List.range hs.length).filterMap (fun i => hs[i]?) = hs := by
    have : ∀ (l : List α) (k : Nat) (pre : List α), pre.length = k → (List.range' k l.length).filterMap (fun i => (pre ++ l)[i]?) = l := by
      intro l
      induction l with
      | nil => intro k pre _; rfl
      | cons a l ih =>
        intro k pre hp
        rw [List.length_cons, List.range'_succ, List.filterMap_cons]
        have : (pre ++ a :: l)[k]? = some a := by rw [List.getElem?_append_right (by omega)]; simp [hp]
        rw [this]
        have h3 := ih (k + 1) (pre ++ [a]) (by simp [hp])
        simp only [List.append_assoc, List.singleton_append] at h3
        rw [h3]
    have h4 := this hs 0 [] rfl
    rw [List.range_eq_range']
    simpa using h4
  rw [← h1]
  conv => lhs; rw [← e]
  exact (permB_perm h2).filterMap _
theorem OLe.left {a b : List HP} : OLe (a ++ b) a := fun F S w h => by
  obtain ⟨F1, F2, h1, h2, h3, h4⟩ := Own.append.1 h
  exact h3.mono (fun k hk => (h1 k hk).1) (fun _ h => h) (fun _ _ => rfl) (fun _ _ => rfl)
/-- some of it, in another order -/
theorem OLe.sel {hs hs' : List HP} (ix rest : List Nat) (h1 : ix.filterMap (fun i => hs[i]?) = hs') (h2 : permB (List.range hs.length) (ix ++ rest) = true) : OLe hs hs' := by
  have h := Perm.idx (hs := hs) (ix ++ rest) rfl h2
  rw [List.filterMap_append, h1] at h
  exact (OLe.perm h).trans OLe.left

section
variable {P : Program} {hs : List HP} {env : Env} {q : VP} {dst : Option Tmp} {ty T T' E K V : TypeId} {pos : String} {after : Array Edge} {gd : Option (Nat × Bool)} {x y z : Operand}

theorem CodeT.own {Q : Exit → Act → World → Prop} {c : Ctx} {s : Code} {hs' : List HP} (h : OLe hs hs') (k : CodeT P Q c s hs' env) : CodeT P Q c s hs env := fun a w ⟨h1, h2, S, F, h3, h4, h5⟩ => k a w ⟨h1, h2, S, F, h3, h _ _ _ h4, h5⟩
theorem EndT.own {Q : Exit → Act → World → Prop} {c : Ctx} {e : Exit} {hs' : List HP} (h : OLe hs hs') (k : EndT Q e c hs' env) : EndT Q e c hs env := fun a w ⟨h1, h2, S, F, h3, h4, h5⟩ => k a w ⟨h1, h2, S, F, h3, h _ _ _ h4, h5⟩
theorem CodeT.opens {Q : Exit → Act → World → Prop} {c : Ctx} {s : Code} {α : Type} {f : α → HP} {r : List HP} (k : ∀ a, CodeT P Q c s (f a :: r) env) : CodeT P Q c s (exH f :: r) env := fun a w ⟨h1, h2, S, F, h3, ⟨F1, F2, f1, f2, ⟨b, f3⟩, f4⟩, h5⟩ => k b a w ⟨h1, h2, S, F, h3, ⟨F1, F2, f1, f2, f3, f4⟩, h5⟩
theorem CodeT.pureH {Q : Exit → Act → World → Prop} {c : Ctx} {s : Code} {p : Prop} {r : List HP} (k : p → CodeT P Q c s r env) : CodeT P Q c s (pureH p :: r) env := fun a w ⟨h1, h2, S, F, h3, ⟨F1, F2, f1, f2, f3, f4⟩, h5⟩ => k f3 a w ⟨h1, h2, S, F, h3, f4.mono f2 (fun _ h => h) (fun _ _ => rfl) (fun _ _ => rfl), h5⟩
theorem CodeT.permH {Q : Exit → Act → World → Prop} {c : Ctx} {s : Code} {hs' : List HP} (h : hs.Perm hs') (k : CodeT P Q c s hs' env) : CodeT P Q c s hs env := CodeT.own (OLe.perm h) k

def zeroV1 (P : Program) (T : TypeId) : Option Value := (P.info? T).bind fun i => i.zero
theorem run_zv {v : Value} (h : zeroV1 P T = some v) (w : World) : (zeroValue T).run P w = .ok v w := by
  unfold zeroV1 at h
  cases hi : P.info? T with
  | none => simp [hi] at h
  | some i =>
    simp only [hi, Option.bind_some] at h
    simp [zeroValue, typeInfo, hi, h]

/-! ### an owned slice, element by element -/
theorem opLenW {b cap len : Nat} {ats : Array TypeId} (hat : ats[0]? = some T) (hT : P.underlying T = some (.slice E)) (hx : Opd env x (exactV (sval (some (b, cap)) len))) : OpP P hs env ⟨dst, .call ⟨.builtin .len, #[x], ats⟩, ty, pos, after, gd⟩ (intV .i64 (len : Int)) :=
  OpP.of_read fun ρ w S F _ he => by
    have hv := he.o _ _ hx; simp only [exactV, sval] at hv
    exact ⟨.int .i64 (len : Int), by simp [execOp, resolve, invoke, builtin, Builtin.len_, hat, hv, run_underlying hT, goInt], rfl⟩
theorem agg_pair {a : PairK} : VLe (aggV [intV .i64 a.1, intV .i64 a.2]) (exactV (kpair a)) := fun S w v ⟨arr, hv, hn, hc⟩ => by
  obtain ⟨u0, h0, e0⟩ := hc 0 _ rfl
  obtain ⟨u1, h1, e1⟩ := hc 1 _ rfl
  simp only [exactV] at e0 e1 ⊢
  subst hv; subst e0; subst e1
  unfold kpair
  congr 1
  apply Array.ext
  · simpa using hn
  · intro i h2 h3
    simp only [List.length_cons, List.length_nil] at hn
    match i, h2 with
    | 0, _ => exact (Array.getElem?_eq_some_iff.1 h0).2
    | 1, _ => exact (Array.getElem?_eq_some_iff.1 h1).2
    | i + 2, h => omega
theorem opIndexAddrW {b cap len n : Nat} {k : IntKind} {i : Int} (j : Nat) (hT : P.underlying T = some (.slice E)) (hn : P.cellsOf E = n) (h0 : Nat.blt 0 n = true) (hx : Opd env x (exactV (sval (some (b, cap)) len))) (hy : Opd env y (intV k i)) (hi : i = (j : Int)) (hj : j < len) :
    OpP P hs env ⟨dst, .indexAddr T x y, ty, pos, after, gd⟩ (addrV b (j * n)) :=
  OpP.of_read fun ρ w S F _ he => by
    have hv := he.o _ _ hx; simp only [exactV, sval] at hv
    have h2 := he.o _ _ hy; simp only [exactV] at h2
    subst hi
    have hs := run_sizeOf (T := E) hn h0 w
    have hadd : Addr.add ⟨b, 0, none⟩ (j * n) = ⟨b, j * n, none⟩ := by
      unfold Addr.add
      split <;> simp
    exact ⟨_, by simp [execOp, hv, h2, Instr.indexAt, asIntOf, run_underlying hT, Instr.sureAddr, hs, hadd, hj], rfl⟩
theorem sliceW_cell {α : Type} {b cap n j r : Nat} {enc : α → List VP} [he : Enc n enc] {xs : List α} {e : α} {F S : BS} {w : World} (h : (sliceH (some (b, cap)) n enc xs).p F S w) (hj : xs[j]? = some e) (hc : (enc e)[r]? = some q) : ∃ u, w.cell? ⟨b, j * n + r, none⟩ = some u ∧ q.p S w u := by
  obtain ⟨_, _, _, arr, T, hh, _, hc'⟩ := h
  obtain ⟨u, hu, hq⟩ := hc' _ _ (flat_get he.len xs j e r q hj hc)
  exact ⟨u, by simp [World.cell?, hh, hu], hq⟩
theorem opLoadW {α : Type} {b cap n j r i : Nat} {enc : α → List VP} {xs : List α} {e : α} [he : Enc n enc] (hT : aggB P T = some false) (hx : Opd env x (addrV b (j * n + r))) (hi : hs[i]? = some (sliceH (some (b, cap)) n enc xs)) (hj : xs[j]? = some e) (hc : (enc e)[r]? = some q) : OpP P hs env ⟨dst, .load T x, ty, pos, after, gd⟩ q :=
  OpP.of_read fun ρ w S F ho hev => by
    have hv := hev.o _ _ hx; simp only [exactV] at hv
    obtain ⟨F1, _, hp⟩ := ho.get hi
    obtain ⟨v, hv', hq⟩ := sliceW_cell hp hj hc
    refine ⟨v, ?_, hq⟩
    have h1 : (loadVar T ⟨b, j * n + r, none⟩).run P w = .ok v w := by
      unfold loadVar
      rw [run_bind_ok (run_isAgg hT w)]
      simp [hv']
    simp [execOp, hv, Instr.loadAt, Instr.sureAddr, h1]
theorem opLoadWA {α : Type} {b cap n j r i m : Nat} {enc : α → List VP} {xs : List α} {e : α} [he : Enc n enc] (hT : aggB P T = some true) (hn : P.cellsOf T = m) (h0 : Nat.blt 0 m = true) (hx : Opd env x (addrV b (j * n + r))) (hi : hs[i]? = some (sliceH (some (b, cap)) n enc xs)) (hj : xs[j]? = some e) (hl : Nat.ble (r + m) (enc e).length = true) :
    OpP P hs env ⟨dst, .load T x, ty, pos, after, gd⟩ (aggV (((enc e).drop r).take m)) :=
  OpP.of_read fun ρ w S F ho hev => by
    have hv := hev.o _ _ hx; simp only [exactV] at hv
    obtain ⟨F1, _, hp⟩ := ho.get hi
    have hl' : r + m ≤ (enc e).length := by simpa using hl
    have hc : CellsAt S w b (j * n + r) ((enc e).drop r) := fun t q hq => by
      rw [List.getElem?_drop] at hq
      obtain ⟨u, hu, hq'⟩ := sliceW_cell hp hj hq
      exact ⟨u, by rw [Nat.add_assoc]; exact hu, hq'⟩
    obtain ⟨v, hr, hq⟩ := run_loadAgg hT hn h0 (cs := ((enc e).drop r).take m) (by simp; omega) (hc.take m)
    exact ⟨v, by simp [execOp, hv, Instr.loadAt, Instr.sureAddr, hr], hq⟩
/-- some cells of an element are written -/
theorem sliceW_put {α : Type} {b cap n j r : Nat} {enc : α → List VP} [he : Enc n enc] {xs : List α} {e e' : α} {new : List VP} {vs : List Value} {F S : BS} {w w' : World} (h : (sliceH (some (b, cap)) n enc xs).p F S w) (hj : xs[j]? = some e) (hl : r + new.length ≤ (enc e).length) (hE : enc e' = spliceV r new (enc e)) (h0 : 0 < n)
    (hag : ∀ k, S k → w'.heap[k]? = w.heap[k]?) (hvl : vs.length = new.length) (hnew : ∀ (t : Nat) (q : VP), new[t]? = some q → ∃ u, vs[t]? = some u ∧ q.p S w u)
    (hw : ∀ arr T, w.heap[b]? = some (.cells arr T (0, 0)) → j * n + r + vs.length ≤ arr.size → ∃ arr', w'.heap[b]? = some (.cells arr' T (0, 0)) ∧ arr'.size = arr.size ∧ (∀ t, (t < j * n + r ∨ j * n + r + vs.length ≤ t) → arr'[t]? = arr[t]?) ∧ ∀ t v, vs[t]? = some v → arr'[j * n + r + t]? = some v) :
    (sliceH (some (b, cap)) n enc (xs.set j e')).p F S w' := by
  obtain ⟨hF, hlc, hm, arr, T, hh, hsz, hc⟩ := h
  have hel : (enc e).length = n := he.len e
  have hjl : j < xs.length := (List.getElem?_eq_some_iff.1 hj).1
  have hjn : j * n + n ≤ cap * n := by
    have : (j + 1) * n ≤ cap * n := Nat.mul_le_mul_right _ (by omega)
    rw [Nat.add_mul, Nat.one_mul] at this; exact this
  obtain ⟨arr', h1, h2, h3, h4⟩ := hw arr T hh (by rw [hsz, hvl]; omega)
  refine ⟨hF, by simpa using hlc, by simpa using hm, arr', T, h1, by rw [h2, hsz], fun t q hq => ?_⟩
  obtain ⟨y, hy, hyq⟩ := flat_inv he.len h0 _ t q hq
  have hdm : t = (t / n) * n + t % n := by rw [Nat.mul_comm]; exact (Nat.div_add_mod t n).symm
  have hmod : t % n < n := Nat.mod_lt _ h0
  rw [List.getElem?_set] at hy
  by_cases htj : j = t / n
  · rw [if_pos htj, if_pos (by omega)] at hy
    cases hy
    rw [hE, spliceV_get r new (enc e) _ hl] at hyq
    by_cases hin : r ≤ t % n ∧ t % n < r + new.length
    · rw [if_pos hin] at hyq
      obtain ⟨u, hu, hq'⟩ := hnew _ _ hyq
      have h5 := h4 _ u hu
      have h6 : j * n + r + (t % n - r) = t := by rw [htj]; omega
      rw [h6] at h5
      exact ⟨u, h5, q.mono (fun _ h => h) hag hq'⟩
    · rw [if_neg hin] at hyq
      obtain ⟨u, hu, hq'⟩ := hc _ _ (flat_get he.len xs j e _ q hj hyq)
      rw [htj, ← hdm] at hu
      exact ⟨u, by rw [h3 t (by rw [hvl, htj]; omega)]; exact hu, q.mono (fun _ h => h) hag hq'⟩
  · rw [if_neg htj] at hy
    obtain ⟨u, hu, hq'⟩ := hc _ _ (flat_get he.len xs (t / n) y _ q hy hyq)
    rw [← hdm] at hu
    suffices hout : t < j * n + r ∨ j * n + r + vs.length ≤ t by
      exact ⟨u, (h3 t hout).trans hu, q.mono (fun _ h => h) hag hq'⟩
    rw [hvl]
    rcases Nat.lt_or_gt_of_ne htj with h5 | h5
    · right
      have : (j + 1) * n ≤ (t / n) * n := Nat.mul_le_mul_right _ h5
      rw [Nat.add_mul, Nat.one_mul] at this
      omega
    · left
      have : (t / n + 1) * n ≤ j * n := Nat.mul_le_mul_right _ h5
      rw [Nat.add_mul, Nat.one_mul] at this
      omega
theorem opStoreW {α : Type} [Flat q] {b cap n j r i : Nat} {enc : α → List VP} {xs : List α} {e : α} (e' : α) [he : Enc n enc] (h0 : Nat.blt 0 n = true) (hn : P.cellsOf T = 1) (hx : Opd env x (addrV b (j * n + r))) (hy : Opd env y q) (hi : hs[i]? = some (sliceH (some (b, cap)) n enc xs)) (hj : xs[j]? = some e) (hl : Nat.blt r (enc e).length = true) (hE : enc e' = spliceV r [q] (enc e)) :
    OpE P hs env ⟨none, .store T x y, ty, pos, after, gd⟩ (γ := Unit) (fun _ => True) (fun _ => hs.set i (sliceH (some (b, cap)) n enc (xs.set j e'))) (fun _ => exactV undef) := by
  intro c a w S F hsit hown hev Kp Q hk
  have hv := hx S w a hev; simp only [exactV] at hv
  have hu := hy S w a hev
  have hl' : r < (enc e).length := by simpa using hl
  have hel : (enc e).length = n := he.len e
  have hjl : j < xs.length := (List.getElem?_eq_some_iff.1 hj).1
  obtain ⟨F1, F2, f1, f2, f3, _, f4⟩ := hown.upd hi
  obtain ⟨hFb, hlc, _, arr, E', hb, hsz, hc⟩ := f3
  have hjn : j * n + n ≤ cap * n := by
    have : (j + 1) * n ≤ cap * n := Nat.mul_le_mul_right _ (by omega)
    rw [Nat.add_mul, Nat.one_mul] at this; exact this
  have ho : j * n + r < arr.size := by omega
  have hr : (execOp a.eval ⟨none, .store T x y, ty, pos, after, gd⟩).run P w = .ok .skip (w.setCell ⟨b, j * n + r, none⟩ (a.eval y)) := by
    simp [execOp, hv, Instr.storeAt, Instr.sureAddr, run_storeVar1 hn (Flat.flat hu) hb ho]
  have hne : ∀ k, k ≠ b → (w.setCell ⟨b, j * n + r, none⟩ (a.eval y)).heap[k]? = w.heap[k]? := fun k hk => heap_setCell_ne w _ _ k hk
  have hag : ∀ k, S k → (w.setCell ⟨b, j * n + r, none⟩ (a.eval y)).heap[k]? = w.heap[k]? := fun k hk => hne k (fun e => hsit.disj k hk (e ▸ (f1 b hFb).1))
  unfold Oper.wp
  rw [hr]
  refine hk () undef _ S F trivial (hsit.write (f1 b hFb).1 rfl rfl rfl (by simp [World.setCell]) hne) (fun _ h => h) hag ?_ rfl
  have := f4 S F1 (w.setCell ⟨b, j * n + r, none⟩ (a.eval y)) (sliceH (some (b, cap)) n enc (xs.set j e')) (fun k hk => (f1 k hk).2) (fun _ h => h) (fun k hk => hne k (fun e => (f1 b hFb).2 (e ▸ hk))) hag
    (sliceW_put (new := [q]) (vs := [a.eval y]) ⟨hFb, hlc, by assumption, arr, E', hb, hsz, hc⟩ hj (by simp; omega) hE (by simpa using h0) hag rfl (fun t q' ht => by
      cases t with
      | zero => simp at ht; subst ht; exact ⟨_, rfl, hu⟩
      | succ t => simp at ht) (fun arr1 T1 hb1 hs1 => ⟨arr1.setIfInBounds (j * n + r) (a.eval y), by simp [World.setCell, Array.getElem?_modify, hb1], by simp, fun t ht => Array.getElem?_setIfInBounds_ne (by simp at ht; omega), fun t v ht => by
        cases t with
        | zero => simp at ht; subst ht; have h9 : j * n + r < arr1.size := by (simp at hs1; omega)
                  simp [h9]
        | succ t => simp at ht⟩))
  exact this.mono (fun k hk => hk.elim (fun h => (f1 k h).1) (f2 k)) (fun _ h => h) (fun _ _ => rfl) (fun _ _ => rfl)
theorem opStoreWA {α : Type} {new : List VP} [hfl : FlatL new] {b cap n j r i m : Nat} {enc : α → List VP} {xs : List α} {e : α} (e' : α) [he : Enc n enc] (h0 : Nat.blt 0 n = true) (hn : P.cellsOf T = m) (hm : Nat.blt 0 m = true) (hx : Opd env x (addrV b (j * n + r))) (hy : Opd env y (aggV new)) (hln : Nat.beq new.length m = true) (hi : hs[i]? = some (sliceH (some (b, cap)) n enc xs)) (hj : xs[j]? = some e) (hl : Nat.ble (r + m) (enc e).length = true) (hE : enc e' = spliceV r new (enc e)) :
    OpE P hs env ⟨none, .store T x y, ty, pos, after, gd⟩ (γ := Unit) (fun _ => True) (fun _ => hs.set i (sliceH (some (b, cap)) n enc (xs.set j e'))) (fun _ => exactV undef) := by
  intro c a w S F hsit hown hev Kp Q hk
  have hv := hx S w a hev; simp only [exactV] at hv
  obtain ⟨va, hyv, hyn, hyc⟩ := hy S w a hev
  have hl' : r + m ≤ (enc e).length := by simpa using hl
  have hln' : new.length = m := by simpa using hln
  have hel : (enc e).length = n := he.len e
  have hjl : j < xs.length := (List.getElem?_eq_some_iff.1 hj).1
  obtain ⟨F1, F2, f1, f2, f3, _, f4⟩ := hown.upd hi
  obtain ⟨hFb, hlc, hm48, arr, E', hb, hsz, hc⟩ := f3
  have hjn : j * n + n ≤ cap * n := by
    have : (j + 1) * n ≤ cap * n := Nat.mul_le_mul_right _ (by omega)
    rw [Nat.add_mul, Nat.one_mul] at this; exact this
  have hone : ∀ v ∈ va.toList, v.oneCell' = true := by
    intro v hv'
    obtain ⟨j, hj⟩ := List.mem_iff_getElem?.1 hv'
    have hjl : j < new.length := by have := (List.getElem?_eq_some_iff.1 hj).1; simp at this; omega
    obtain ⟨u, hu, hq⟩ := hyc j _ (List.getElem?_eq_getElem hjl)
    have : u = v := by simp at hj hu; rw [hj] at hu; exact (Option.some.inj hu).symm
    subst this
    exact ((hfl.flat _ (List.getElem_mem hjl)).flat hq).2
  have hval : va.toList.length = m := by simp [hyn, hln']
  obtain ⟨w', arr', k1, k2, k3, k4, k5, k6, k7, k8, k9, k10⟩ := run_storeCells (P := P) (b := b) (off := j * n + r) (T := E') va.toList 0 w arr hone hb (by rw [hval, hsz]; omega)
  have hr : (execOp a.eval ⟨none, .store T x y, ty, pos, after, gd⟩).run P w = .ok .skip w' := by
    have hs := run_sizeOf hn hm w
    simp [execOp, hv, hyv, Instr.storeAt, Instr.sureAddr, storeVar, hs, Value.cells, hyn, hln', k1]
  have hag : ∀ k, S k → w'.heap[k]? = w.heap[k]? := fun k hk => k6 k (fun e => hsit.disj k hk (e ▸ (f1 b hFb).1))
  unfold Oper.wp
  rw [hr]
  refine hk () undef w' S F trivial (hsit.write (f1 b hFb).1 k2 k3 k4 k5 k6) (fun _ h => h) hag ?_ rfl
  have := f4 S F1 w' (sliceH (some (b, cap)) n enc (xs.set j e')) (fun k hk => (f1 k hk).2) (fun _ h => h) (fun k hk => k6 k (fun e => (f1 b hFb).2 (e ▸ hk))) hag
    (sliceW_put (new := new) (vs := va.toList) ⟨hFb, hlc, hm48, arr, E', hb, hsz, hc⟩ hj (by omega) hE (by simpa using h0) hag (by omega) (fun t q' ht => by
      obtain ⟨u, hu, hq⟩ := hyc t q' ht
      exact ⟨u, by simpa using hu, hq⟩) (fun arr1 T1 hb1 hs1 => by
        have : arr1 = arr ∧ T1 = E' := by rw [hb] at hb1; cases hb1; exact ⟨rfl, rfl⟩
        obtain ⟨rfl, rfl⟩ := this
        exact ⟨arr', k7, k8, fun t ht => k9 t (by simpa using ht), fun t v ht => by simpa using k10 t v ht⟩))
  exact this.mono (fun k hk => hk.elim (fun h => (f1 k h).1) (f2 k)) (fun _ h => h) (fun _ _ => rfl) (fun _ _ => rfl)

/-! ### a number that is counted up -/
theorem opAtomAdd {f : FuncId} {fn : Func} {cs : List VP} {b off i : Nat} {n m : Int} {ats : Array TypeId} (hf : P.funcs[f]? = some fn) (hname : (fn.name == "runtime.NumGoroutine") = false) (hb : fn.body.isNone = true) (hn : Extern.findNext fn = none)
    (he : Extern.find fn = some (Extern.Atomic.update (Op.intArith .add) .i64 true)) (hx : Opd env x (addrV b off)) (hy : Opd env y (intV .i64 m)) (hi : hs[i]? = some (cellsH b cs)) (hc : cs[off]? = some (intV .i64 n)) :
    OpE P hs env ⟨dst, .call ⟨.value (.func f), #[x, y], ats⟩, ty, pos, after, gd⟩ (γ := Unit) (fun _ => True) (fun _ => hs.set i (cellsH b (cs.set off (intV .i64 (IntKind.i64.wrap (n + m)))))) (fun _ => intV .i64 (IntKind.i64.wrap (n + m))) := by
  intro c a w S F hsit hown hev Kp Q hk
  have hv := hx S w a hev; simp only [exactV] at hv
  have hu := hy S w a hev; simp only [exactV] at hu
  obtain ⟨F0, _, hp0⟩ := hown.get hi
  obtain ⟨hF0, arr, E', hbb, hsz, hcc⟩ := hp0
  have ho : off < cs.length := (List.getElem?_eq_some_iff.1 hc).1
  obtain ⟨u0, hu0, hq0⟩ := hcc _ _ hc
  simp only [exactV] at hq0; subst hq0
  have hcell : w.cell? ⟨b, off, none⟩ = some (.int .i64 n) := by simp [World.cell?, hbb, hu0]
  have hfr : w.frozen? ⟨b, off, none⟩ = false := by simp [World.frozen?, hbb]
  have hadd : (Op.intArith .add .i64 n m).run P w = .ok (.int .i64 (IntKind.i64.wrap (n + m))) w := by simp [Op.intArith]
  have hrun := run_call_add hf hname hb hn .i64 he hcell hfr hadd
  have hr : (execOp a.eval ⟨dst, .call ⟨.value (.func f), #[x, y], ats⟩, ty, pos, after, gd⟩).run P w = .ok (.value (.int .i64 (IntKind.i64.wrap (n + m)))) (w.setCell ⟨b, off, none⟩ (.int .i64 (IntKind.i64.wrap (n + m)))) := by
    have hfv : a.eval (.func f) = .func (.func f) #[] #[] := rfl
    simp [execOp, resolve, Deferred.ofValue, invoke, hv, hu, hfv, hrun]
  refine OpE.turnW (m := b) (h1 := cellsH b (cs.set off (intV .i64 (IntKind.i64.wrap (n + m))))) hsit hown hi (fun F1 S w h => h.1) hr rfl rfl rfl (by simp [World.setCell]) (fun k hk => heap_setCell_ne w _ _ k hk) (fun F1 h => ?_) (fun hS hag hO => hk () _ _ S F trivial hS (fun _ h => h) hag hO rfl)
  have hag : ∀ k, S k → (w.setCell ⟨b, off, none⟩ (.int .i64 (IntKind.i64.wrap (n + m)))).heap[k]? = w.heap[k]? := fun k hk => heap_setCell_ne w _ _ k (fun e => by
    obtain ⟨F1', F2', f1, _, f3, _⟩ := hown.upd hi
    exact hsit.disj k hk (e ▸ (f1 b f3.1).1))
  refine ⟨h.1, arr.setIfInBounds off (.int .i64 (IntKind.i64.wrap (n + m))), E', by simp [World.setCell, Array.getElem?_modify, hbb], by simp [hsz], fun j q' hj => ?_⟩
  rw [List.getElem?_set] at hj
  by_cases e : off = j
  · subst e
    rw [if_pos rfl, if_pos ho] at hj; cases hj
    have h9 : off < arr.size := by omega
    exact ⟨_, by simp [h9], rfl⟩
  · rw [if_neg e] at hj
    obtain ⟨u, hu', hq⟩ := hcc j q' hj
    exact ⟨u, by simp [Array.getElem?_setIfInBounds_ne e, hu'], q'.mono (fun _ h => h) hag hq⟩

/-- zeros, given away -/
theorem opMakeSh {n : Nat} {i : Int} (hT : P.underlying T = some (.slice E)) (hn : P.cellsOf E = 1) (hb : P.bytesOf E = 1) (hz : zeroB P E = some [.int .u8 0]) (hx : Opd env x (intV .i64 i)) (hi : i = (n : Int)) (hle : n ≤ 281474976710656) :
    OpP P hs env ⟨dst, .makeSlice T x x, ty, pos, after, gd⟩ (sliceV 1 encU8 (List.replicate n 0)) := by
  intro a w S F h1 h2 h3 h4 hev K Q hk
  have hv := hx S w a hev; simp only [exactV] at hv
  subst hi
  have hr := run_makeBuf (dst := dst) (ty := ty) (pos := pos) (after := after) (gd := gd) (w := w) hT hn hb hz hv hle
  unfold Oper.wp
  rw [hr]
  refine hk _ _ _ (Grow.new1 w S _) ⟨some ⟨w.heap.size, 0, none⟩, n, by simp, by simp, by simpa using hle, fun _ => ⟨rfl, .inr rfl, fun t b hb j q hj => ?_⟩⟩
  have e0 : j = 0 := by
    have := (List.getElem?_eq_some_iff.1 hj).1
    simp [encU8] at this; exact this
  subst e0
  simp [encU8] at hj; subst hj
  refine ⟨.int .u8 (b.toNat : Int), ?_, rfl⟩
  have hbt : (u8s (List.replicate n 0))[t]? = some (.int .u8 (b.toNat : Int)) := by rw [u8s_get, hb]; rfl
  simp [World.cell?]
  simpa using hbt

/-- of what may be a part or nothing -/
theorem opEqlNilOpt {off len : Nat} {o : Option Nat} (hT : P.underlying T = some (.slice E)) (hx : Opd env x (optV (fun b => subV b off len) (exactV (.slice none 0 0)) o)) (hy : Opd env y (exactV (.slice none 0 0))) : OpP P hs env ⟨dst, .binOp .eql T x y T', ty, pos, after, gd⟩ (propV (o = none)) := by
  cases o with
  | some b => exact (opEqlNilSub hT hx hy).le (VLe.prop (by simp))
  | none =>
    exact OpP.of_read fun ρ w S F _ he => by
      have h1 := he.o _ _ hx; have h2 := he.o _ _ hy; simp only [optV, exactV] at h1 h2
      have e2 : (binOp .eql T (.slice none 0 0) (.slice none 0 0)).run P w = .ok (.bool true) w := by
        show ((do pure (.bool (← Op.equalIn (9999 + 1) T (.slice none 0 0) (.slice none 0 0)))) : Sem Value).run P w = _
        rw [run_bind_ok (eq_slice_nil 9999 none 0 0 hT)]; rfl
      exact ⟨.bool true, by simp [execOp, h1, h2, eqGuard, e2], _, rfl, by simp⟩
theorem opNeqNilOpt {off len : Nat} {o : Option Nat} (hT : P.underlying T = some (.slice E)) (hx : Opd env x (optV (fun b => subV b off len) (exactV (.slice none 0 0)) o)) (hy : Opd env y (exactV (.slice none 0 0))) : OpP P hs env ⟨dst, .binOp .neq T x y T', ty, pos, after, gd⟩ (propV (o ≠ none)) := by
  cases o with
  | some b => exact (opNeqNilSub hT hx hy).le (VLe.prop (by simp))
  | none =>
    exact OpP.of_read fun ρ w S F _ he => by
      have h1 := he.o _ _ hx; have h2 := he.o _ _ hy; simp only [optV, exactV] at h1 h2
      have e2 : (binOp .neq T (.slice none 0 0) (.slice none 0 0)).run P w = .ok (.bool false) w := by
        show ((do pure (.bool (!(← Op.equalIn (9999 + 1) T (.slice none 0 0) (.slice none 0 0))))) : Sem Value).run P w = _
        rw [run_bind_ok (eq_slice_nil 9999 none 0 0 hT)]; rfl
      exact ⟨.bool false, by simp [execOp, h1, h2, eqGuard, e2], _, rfl, by simp⟩

/-! ### an effect that is guarded and leaves what is owned as it was -/
theorem OpE.same {o : Oper} {γ : Type} {φ : γ → Prop} {hs' : γ → List HP} {q : γ → VP} {q' : VP} (h : OpE P hs env o φ hs' q) (hl : ∀ g, φ g → OLe (hs' g) hs) (hq : ∀ g, φ g → VLe (q g) q') : OpE P hs env o (γ := Unit) (fun _ => True) (fun _ => hs) (fun _ => q') :=
  fun c a w S F h1 h2 h3 K Q hk => h c a w S F h1 h2 h3 K Q fun g v w' S' F' hφ hs hS hag ho hqv => hk () v w' S' F' trivial hs hS hag (hl g hφ _ _ _ ho) (hq g hφ _ _ _ hqv)
theorem SeqT.ge {ops : Array Oper} {Q : Exit → Act → World → Prop} {c : Ctx} {l : List Oper} {o : Oper} {d : Tmp} {j : Nat} {want : Bool} {t : Tmp} {c0 p : Prop} (hl : look env t = some (whenV c0 (propV p)) ∨ (look env t = some (propV p) ∧ c0 = True)) (hog : o.guard = some (j, want)) (hj : (ops[j]?).bind (·.dst) = some t) (ht : Nat.blt t c.n = true)
    (h : (c0 ∧ (if want then p else ¬ p)) → OpE P hs env o (γ := Unit) (fun _ => True) (fun _ => hs) (fun _ => q)) (hod : o.dst = some d) (hd : Nat.blt d c.n = true) (k : SeqT P ops Q c l hs ((d, whenV (c0 ∧ (if want then p else ¬ p)) q) :: env)) : SeqT P ops Q c (o :: l) hs env := by
  intro a w hst
  obtain ⟨h1, h2, S, F, h3, h4, h5⟩ := hst
  refine wpListIn_step fun K hK => ?_
  have ht' : t < a.tmps.size := by rw [h2]; simpa using ht
  have h6 : a.tmps[t]? = some (a.tmps.getD t undef) := by simp [ht']
  have hk : ∀ v w' S' F', Sit c w' S' F' → (∀ k, S k → S' k) → (∀ k, S k → w'.heap[k]? = w.heap[k]?) → Own hs F' S' w' → (whenV (c0 ∧ (if want then p else ¬ p)) q).p S' w' v → K (a.put o.dst v) w' := fun v w' S' F' k1 k2 k3 k4 k5 => hK _ _ (k _ _ ⟨by rw [Act.defers_put]; exact h1, by rw [Act.size_put]; exact h2, S', F', k1, k4, by rw [hod]; exact (h5.mono k2 k3).put k5 (by rw [h2]; simpa using hd)⟩)
  have hb : (c0 ∧ ∃ b, a.tmps.getD t undef = .bool b ∧ (b = true ↔ p)) ∨ (¬ c0 ∧ a.tmps.getD t undef = undef) := by
    rcases hl with hl | ⟨hl, hc⟩
    · exact OpG.auxW hl S w a.tmps h5
    · exact .inl ⟨hc ▸ trivial, h5 t _ hl⟩
  rcases hb with ⟨hc, b, hb, hbp⟩ | ⟨hc, hu⟩
  · have hy : yielded ops a.tmps j = some b := by
      unfold yielded; rw [hj]; simp only [Option.bind_some, h6, hb]
    by_cases hw : b = want
    · have hp : (if want then p else ¬ p) := by
        cases want
        · simp at hw ⊢; intro hp'; rw [hbp.2 hp'] at hw; cases hw
        · simpa using hbp.1 hw
      rw [if_pos (by simp [Region.wanted, hog, hy, hw])]
      exact Oper.wp_in ((h ⟨hc, hp⟩).noDefer h3 h4 h5) (h ⟨hc, hp⟩ c a w S F h3 h4 h5 K Q fun g v w' S' F' _ k1 k2 k3 k4 k5 => hk v w' S' F' k1 k2 k3 k4 ⟨fun _ => k5, fun hn => (hn ⟨hc, hp⟩).elim⟩)
    · have hp : ¬ (if want then p else ¬ p) := by
        cases want
        · simp at hw ⊢; exact hbp.1 hw
        · intro hp'; exact hw (hbp.2 (by simpa using hp'))
      rw [if_neg (by simp [Region.wanted, hog, hy, hw])]
      exact ⟨fun _ _ => trivial, hk _ _ S F h3 (fun _ h => h) (fun _ _ => rfl) h4 ⟨fun hn => (hp hn.2).elim, fun _ => rfl⟩⟩
  · have hy : yielded ops a.tmps j = none := by
      unfold yielded; rw [hj]; simp only [Option.bind_some, h6, hu]; rfl
    rw [if_neg (by simp [Region.wanted, hog, hy])]
    exact ⟨fun _ _ => trivial, hk _ _ S F h3 (fun _ h => h) (fun _ _ => rfl) h4 ⟨fun hn => (hc hn.1).elim, fun _ => rfl⟩⟩
theorem look_here (t : Nat) (q : VP) (e : Env) : look ((t, q) :: e) t = some q := by rw [look_cons, if_pos rfl]
theorem SeqT.egT {ops : Array Oper} {Q : Exit → Act → World → Prop} {c : Ctx} {l : List Oper} {o : Oper} {d : Tmp} {j : Nat} {t : Tmp} {p : Prop} (hl : look env t = some (propV p)) (hog : o.guard = some (j, true)) (hj : (ops[j]?).bind (·.dst) = some t) (ht : Nat.blt t c.n = true)
    (h : p → OpE P hs env o (γ := Unit) (fun _ => True) (fun _ => hs) (fun _ => q)) (hod : o.dst = some d) (hd : Nat.blt d c.n = true) (k : SeqT P ops Q c l hs ((d, whenV (p) q) :: env)) : SeqT P ops Q c (o :: l) hs env := by
  have hr : (True ∧ (if (true : Bool) = true then p else ¬ p)) ↔ (p) := ⟨fun h => by simpa using h.2, fun h => ⟨trivial, by simpa using h⟩⟩
  refine SeqT.ge (c0 := True) (p := p) (want := true) (.inr ⟨hl, rfl⟩) hog hj ht (fun h1 => h (hr.1 h1)) hod hd fun a w hst => k a w (hst.mono (EnvLeX.le (EnvLeX.cons (look_here _ _ _) (whenV.congr hr) ?_)))
  exact EnvLeX.skip (by simp) (EnvLeX.refl _ _)
theorem SeqT.egF {ops : Array Oper} {Q : Exit → Act → World → Prop} {c : Ctx} {l : List Oper} {o : Oper} {d : Tmp} {j : Nat} {t : Tmp} {p : Prop} (hl : look env t = some (propV p)) (hog : o.guard = some (j, false)) (hj : (ops[j]?).bind (·.dst) = some t) (ht : Nat.blt t c.n = true)
    (h : ¬ p → OpE P hs env o (γ := Unit) (fun _ => True) (fun _ => hs) (fun _ => q)) (hod : o.dst = some d) (hd : Nat.blt d c.n = true) (k : SeqT P ops Q c l hs ((d, whenV (¬ p) q) :: env)) : SeqT P ops Q c (o :: l) hs env := by
  have hr : (True ∧ (if (false : Bool) = true then p else ¬ p)) ↔ (¬ p) := ⟨fun h => by simpa using h.2, fun h => ⟨trivial, by simpa using h⟩⟩
  refine SeqT.ge (c0 := True) (p := p) (want := false) (.inr ⟨hl, rfl⟩) hog hj ht (fun h1 => h (hr.1 h1)) hod hd fun a w hst => k a w (hst.mono (EnvLeX.le (EnvLeX.cons (look_here _ _ _) (whenV.congr hr) ?_)))
  exact EnvLeX.skip (by simp) (EnvLeX.refl _ _)
theorem SeqT.ehT {ops : Array Oper} {Q : Exit → Act → World → Prop} {c : Ctx} {l : List Oper} {o : Oper} {d : Tmp} {j : Nat} {t : Tmp} {c0 p : Prop} (hl : look env t = some (whenV c0 (propV p))) (hog : o.guard = some (j, true)) (hj : (ops[j]?).bind (·.dst) = some t) (ht : Nat.blt t c.n = true)
    (h : c0 ∧ p → OpE P hs env o (γ := Unit) (fun _ => True) (fun _ => hs) (fun _ => q)) (hod : o.dst = some d) (hd : Nat.blt d c.n = true) (k : SeqT P ops Q c l hs ((d, whenV (c0 ∧ p) q) :: env)) : SeqT P ops Q c (o :: l) hs env := by
  have hr : (c0 ∧ (if (true : Bool) = true then p else ¬ p)) ↔ (c0 ∧ p) := ⟨fun h => by simpa using h, fun h => by simpa using h⟩
  refine SeqT.ge (c0 := c0) (p := p) (want := true) (.inl hl) hog hj ht (fun h1 => h (hr.1 h1)) hod hd fun a w hst => k a w (hst.mono (EnvLeX.le (EnvLeX.cons (look_here _ _ _) (whenV.congr hr) ?_)))
  exact EnvLeX.skip (by simp) (EnvLeX.refl _ _)
theorem SeqT.ehF {ops : Array Oper} {Q : Exit → Act → World → Prop} {c : Ctx} {l : List Oper} {o : Oper} {d : Tmp} {j : Nat} {t : Tmp} {c0 p : Prop} (hl : look env t = some (whenV c0 (propV p))) (hog : o.guard = some (j, false)) (hj : (ops[j]?).bind (·.dst) = some t) (ht : Nat.blt t c.n = true)
    (h : c0 ∧ ¬ p → OpE P hs env o (γ := Unit) (fun _ => True) (fun _ => hs) (fun _ => q)) (hod : o.dst = some d) (hd : Nat.blt d c.n = true) (k : SeqT P ops Q c l hs ((d, whenV (c0 ∧ ¬ p) q) :: env)) : SeqT P ops Q c (o :: l) hs env := by
  have hr : (c0 ∧ (if (false : Bool) = true then p else ¬ p)) ↔ (c0 ∧ ¬ p) := ⟨fun h => by simpa using h, fun h => by simpa using h⟩
  refine SeqT.ge (c0 := c0) (p := p) (want := false) (.inl hl) hog hj ht (fun h1 => h (hr.1 h1)) hod hd fun a w hst => k a w (hst.mono (EnvLeX.le (EnvLeX.cons (look_here _ _ _) (whenV.congr hr) ?_)))
  exact EnvLeX.skip (by simp) (EnvLeX.refl _ _)
end
end Go.Hl
