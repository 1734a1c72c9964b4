/-
  What the statement's proof leans on, several texts in one (packed by a program).
-/
import Derived.Test.YtpahnbgfmhcndaaGreatDoorBMF
import Derived.Laws.LoneSync
set_option linter.all false
set_option maxRecDepth 1000000
set_option maxHeartbeats 4000000
section
namespace Go.Hl
open Go.RowKit
theorem OLe.refl (hs : List HP) : OLe hs hs := fun _ _ _ h => h
variable {b : List HP}
theorem OLe.trans {a c : List HP} (h : OLe a b) (k : OLe b c) : OLe a c := fun F S w x => k F S w (h F S w x)
theorem OLe.perm {a b : List HP} (h : a.Perm b) : OLe a b := fun _ _ _ x => x.perm h
theorem OLe.cons (h0 : HP) {a : List HP} (h : OLe a b) : OLe (h0 :: a) (h0 :: b) := fun F S w ⟨F1, F2, h1, h2, h3, h4⟩ => ⟨F1, F2, h1, h2, h3, h _ _ _ h4⟩
theorem OLe.drop {h0 : HP} {a : List HP} (h : OLe a b) : OLe (h0 :: a) b := fun F S w ⟨F1, F2, h1, h2, h3, h4⟩ => (h _ _ _ h4).mono h2 (fun _ h => h) (fun _ _ => rfl) (fun _ _ => rfl)
theorem OLe.nil (a : List HP) : OLe a [] := fun _ _ _ _ => trivial
def permB : List Nat → List Nat → Bool
 | [], l => l.isEmpty
 | i :: ix, l => l.contains i && permB ix (l.erase i)
theorem permB_perm : ∀ {a b : List Nat}, permB a b = true → a.Perm b
 | [], b, h => by simp [permB] at h; subst h; exact .refl _
 | i :: ix, b, h => by
  simp only [permB, Bool.and_eq_true, List.contains_iff_mem] at h
  exact ((permB_perm h.2).cons i).trans (List.perm_cons_erase h.1).symm
theorem Perm.idx {α : Type} {hs hs' : List α} (ix : List Nat) (h1 : ix.filterMap (fun i => hs[i]?) = hs') (h2 : permB (List.range hs.length) ix = true) : hs.Perm hs' := by
 have e : (List.range hs.length).filterMap (fun i => hs[i]?) = hs := by
  have : ∀ (l : List α) (k : Nat) (pre : List α), pre.length = k → (List.range' k l.length).filterMap (fun i => (pre ++ l)[i]?) = l := by
   intro l
   induction l with
   | nil => intro k pre _; rfl
   | cons a l ih =>
    intro k pre hp
    rw [List.length_cons, List.range'_succ, List.filterMap_cons]
    have : (pre ++ a :: l)[k]? = some a := by rw [List.getElem?_append_right (by omega)]; simp [hp]
    rw [this]
    have h3 := ih (k + 1) (pre ++ [a]) (by simp [hp])
    simp only [List.append_assoc, List.singleton_append] at h3
    rw [h3]
  have h4 := this hs 0 [] rfl
  rw [List.range_eq_range']
  simpa using h4
 rw [← h1]
 conv => lhs; rw [← e]
 exact (permB_perm h2).filterMap _
theorem OLe.left {a : List HP} : OLe (a ++ b) a := fun F S w h => by
 obtain ⟨F1, F2, h1, h2, h3, h4⟩ := Own.append.1 h
 exact h3.mono (fun k hk => (h1 k hk).1) (fun _ h => h) (fun _ _ => rfl) (fun _ _ => rfl)
theorem OLe.sel {hs hs' : List HP} (ix rest : List Nat) (h1 : ix.filterMap (fun i => hs[i]?) = hs') (h2 : permB (List.range hs.length) (ix ++ rest) = true) : OLe hs hs' := by
 have h := Perm.idx (hs := hs) (ix ++ rest) rfl h2
 rw [List.filterMap_append, h1] at h
 exact (OLe.perm h).trans OLe.left
section
variable {P : Program} {hs : List HP} {env : Env} {q : VP} {dst : Option Tmp} {ty T T' E K V : TypeId} {pos : String} {after : Array Edge} {gd : Option (Nat × Bool)} {x y z : Operand}
theorem CodeT.own {Q : Exit → Act → World → Prop} {c : Ctx} {s : Code} {hs' : List HP} (h : OLe hs hs') (k : CodeT P Q c s hs' env) : CodeT P Q c s hs env := fun a w ⟨h1, h2, S, F, h3, h4, h5⟩ => k a w ⟨h1, h2, S, F, h3, h _ _ _ h4, h5⟩
theorem EndT.own {Q : Exit → Act → World → Prop} {c : Ctx} {e : Exit} {hs' : List HP} (h : OLe hs hs') (k : EndT Q e c hs' env) : EndT Q e c hs env := fun a w ⟨h1, h2, S, F, h3, h4, h5⟩ => k a w ⟨h1, h2, S, F, h3, h _ _ _ h4, h5⟩
theorem opLenW {b cap len : Nat} {ats : Array TypeId} (hat : ats[0]? = some T) (hT : P.underlying T = some (.slice E)) (hx : Opd env x (exactV (sval (some (b, cap)) len))) : OpP P hs env ⟨dst, .call ⟨.builtin .len, #[x], ats⟩, ty, pos, after, gd⟩ (intV .i64 (len : Int)) :=
 OpP.of_read fun ρ w S F _ he => by
  have hv := he.o _ _ hx; simp only [exactV, sval] at hv
  exact ⟨.int .i64 (len : Int), by simp [execOp, resolve, invoke, builtin, Builtin.len_, hat, hv, run_underlying hT, goInt], rfl⟩
theorem agg_pair {a : PairK} {k0 k1 : IntKind} : VLe (aggV [intV k0 a.1, intV k1 a.2]) (exactV (kpr k0 k1 a)) := fun S w v ⟨arr, hv, hn, hc⟩ => by
 obtain ⟨u0, h0, e0⟩ := hc 0 _ rfl
 obtain ⟨u1, h1, e1⟩ := hc 1 _ rfl
 simp only [exactV] at e0 e1 ⊢
 subst hv; subst e0; subst e1
 unfold kpr
 congr 1
 apply Array.ext
 · simpa using hn
 · intro i h2 h3
   simp only [List.length_cons, List.length_nil] at hn
   match i, h2 with
   | 0, _ => exact (Array.getElem?_eq_some_iff.1 h0).2
   | 1, _ => exact (Array.getElem?_eq_some_iff.1 h1).2
   | i + 2, h => omega
theorem opIndexAddrW {b cap len n : Nat} {k : IntKind} {i : Int} (j : Nat) (hT : P.underlying T = some (.slice E)) (hn : P.cellsOf E = n) (h0 : Nat.blt 0 n = true) (hx : Opd env x (exactV (sval (some (b, cap)) len))) (hy : Opd env y (intV k i)) (hi : i = (j : Int)) (hj : j < len) :
    OpP P hs env ⟨dst, .indexAddr T x y, ty, pos, after, gd⟩ (addrV b (j * n)) :=
  OpP.of_read fun ρ w S F _ he => by
    have hv := he.o _ _ hx; simp only [exactV, sval] at hv
    have h2 := he.o _ _ hy; simp only [exactV] at h2
    subst hi
    have hs := run_sizeOf (T := E) hn h0 w
    have hadd : Addr.add ⟨b, 0, none⟩ (j * n) = ⟨b, j * n, none⟩ := by
      unfold Addr.add
      split <;> simp
    exact ⟨_, by simp [execOp, hv, h2, Instr.indexAt, asIntOf, run_underlying hT, Instr.sureAddr, hs, hadd, hj], rfl⟩
theorem sliceW_cell {α : Type} {b cap n j r : Nat} {enc : α → List VP} [he : Enc n enc] {xs : List α} {e : α} {F S : BS} {w : World} (h : (sliceH (some (b, cap)) n enc xs).p F S w) (hj : xs[j]? = some e) (hc : (enc e)[r]? = some q) : ∃ u, w.cell? ⟨b, j * n + r, none⟩ = some u ∧ q.p S w u := by
 obtain ⟨_, _, _, arr, T, hh, _, hc'⟩ := h
 obtain ⟨u, hu, hq⟩ := hc' _ _ (flat_get he.len xs j e r q hj hc)
 exact ⟨u, by simp [World.cell?, hh, hu], hq⟩
theorem opLoadW {α : Type} {b cap n j r i : Nat} {enc : α → List VP} {xs : List α} {e : α} [he : Enc n enc] (hT : aggB P T = some false) (hx : Opd env x (addrV b (j * n + r))) (hi : hs[i]? = some (sliceH (some (b, cap)) n enc xs)) (hj : xs[j]? = some e) (hc : (enc e)[r]? = some q) : OpP P hs env ⟨dst, .load T x, ty, pos, after, gd⟩ q :=
 OpP.of_read fun ρ w S F ho hev => by
  have hv := hev.o _ _ hx; simp only [exactV] at hv
  obtain ⟨F1, _, hp⟩ := ho.get hi
  obtain ⟨v, hv', hq⟩ := sliceW_cell hp hj hc
  refine ⟨v, ?_, hq⟩
  have h1 : (loadVar T ⟨b, j * n + r, none⟩).run P w = .ok v w := by
   unfold loadVar
   rw [run_bind_ok (run_isAgg hT w)]
   simp [hv']
  simp [execOp, hv, Instr.loadAt, Instr.sureAddr, h1]
theorem opLoadWA {α : Type} {b cap n j r i m : Nat} {enc : α → List VP} {xs : List α} {e : α} [he : Enc n enc] (hT : aggB P T = some true) (hn : P.cellsOf T = m) (h0 : Nat.blt 0 m = true) (hx : Opd env x (addrV b (j * n + r))) (hi : hs[i]? = some (sliceH (some (b, cap)) n enc xs)) (hj : xs[j]? = some e) (hl : Nat.ble (r + m) (enc e).length = true) :
    OpP P hs env ⟨dst, .load T x, ty, pos, after, gd⟩ (aggV (((enc e).drop r).take m)) :=
  OpP.of_read fun ρ w S F ho hev => by
    have hv := hev.o _ _ hx; simp only [exactV] at hv
    obtain ⟨F1, _, hp⟩ := ho.get hi
    have hl' : r + m ≤ (enc e).length := by simpa using hl
    have hc : CellsAt S w b (j * n + r) ((enc e).drop r) := fun t q hq => by
      rw [List.getElem?_drop] at hq
      obtain ⟨u, hu, hq'⟩ := sliceW_cell hp hj hq
      exact ⟨u, by rw [Nat.add_assoc]; exact hu, hq'⟩
    obtain ⟨v, hr, hq⟩ := run_loadAgg hT hn h0 (cs := ((enc e).drop r).take m) (by simp; omega) (hc.take m)
    exact ⟨v, by simp [execOp, hv, Instr.loadAt, Instr.sureAddr, hr], hq⟩
theorem sliceW_put {α : Type} {b cap n j r : Nat} {enc : α → List VP} [he : Enc n enc] {xs : List α} {e e' : α} {new : List VP} {vs : List Value} {F S : BS} {w w' : World} (h : (sliceH (some (b, cap)) n enc xs).p F S w) (hj : xs[j]? = some e) (hl : r + new.length ≤ (enc e).length) (hE : enc e' = spliceV r new (enc e)) (h0 : 0 < n)
    (hag : ∀ k, S k → w'.heap[k]? = w.heap[k]?) (hvl : vs.length = new.length) (hnew : ∀ (t : Nat) (q : VP), new[t]? = some q → ∃ u, vs[t]? = some u ∧ q.p S w u)
    (hw : ∀ arr T, w.heap[b]? = some (.cells arr T (0, 0)) → j * n + r + vs.length ≤ arr.size → ∃ arr', w'.heap[b]? = some (.cells arr' T (0, 0)) ∧ arr'.size = arr.size ∧ (∀ t, (t < j * n + r ∨ j * n + r + vs.length ≤ t) → arr'[t]? = arr[t]?) ∧ ∀ t v, vs[t]? = some v → arr'[j * n + r + t]? = some v) :
    (sliceH (some (b, cap)) n enc (xs.set j e')).p F S w' := by
  obtain ⟨hF, hlc, hm, arr, T, hh, hsz, hc⟩ := h
  have hel : (enc e).length = n := he.len e
  have hjl : j < xs.length := (List.getElem?_eq_some_iff.1 hj).1
  have hjn : j * n + n ≤ cap * n := by
    have : (j + 1) * n ≤ cap * n := Nat.mul_le_mul_right _ (by omega)
    rw [Nat.add_mul, Nat.one_mul] at this; exact this
  obtain ⟨arr', h1, h2, h3, h4⟩ := hw arr T hh (by rw [hsz, hvl]; omega)
  refine ⟨hF, by simpa using hlc, by simpa using hm, arr', T, h1, by rw [h2, hsz], fun t q hq => ?_⟩
  obtain ⟨y, hy, hyq⟩ := flat_inv he.len h0 _ t q hq
  have hdm : t = (t / n) * n + t % n := by rw [Nat.mul_comm]; exact (Nat.div_add_mod t n).symm
  have hmod : t % n < n := Nat.mod_lt _ h0
  rw [List.getElem?_set] at hy
  by_cases htj : j = t / n
  · rw [if_pos htj, if_pos (by omega)] at hy
    cases hy
    rw [hE, spliceV_get r new (enc e) _ hl] at hyq
    by_cases hin : r ≤ t % n ∧ t % n < r + new.length
    · rw [if_pos hin] at hyq
      obtain ⟨u, hu, hq'⟩ := hnew _ _ hyq
      have h5 := h4 _ u hu
      have h6 : j * n + r + (t % n - r) = t := by rw [htj]; omega
      rw [h6] at h5
      exact ⟨u, h5, q.mono (fun _ h => h) hag hq'⟩
    · rw [if_neg hin] at hyq
      obtain ⟨u, hu, hq'⟩ := hc _ _ (flat_get he.len xs j e _ q hj hyq)
      rw [htj, ← hdm] at hu
      exact ⟨u, by rw [h3 t (by rw [hvl, htj]; omega)]; exact hu, q.mono (fun _ h => h) hag hq'⟩
  · rw [if_neg htj] at hy
    obtain ⟨u, hu, hq'⟩ := hc _ _ (flat_get he.len xs (t / n) y _ q hy hyq)
    rw [← hdm] at hu
    suffices hout : t < j * n + r ∨ j * n + r + vs.length ≤ t by
      exact ⟨u, (h3 t hout).trans hu, q.mono (fun _ h => h) hag hq'⟩
    rw [hvl]
    rcases Nat.lt_or_gt_of_ne htj with h5 | h5
    · right
      have : (j + 1) * n ≤ (t / n) * n := Nat.mul_le_mul_right _ h5
      rw [Nat.add_mul, Nat.one_mul] at this
      omega
    · left
      have : (t / n + 1) * n ≤ j * n := Nat.mul_le_mul_right _ h5
      rw [Nat.add_mul, Nat.one_mul] at this
      omega
theorem opStoreW {α : Type} [Flat q] {b cap n j r i : Nat} {enc : α → List VP} {xs : List α} {e : α} (e' : α) [he : Enc n enc] (h0 : Nat.blt 0 n = true) (hn : P.cellsOf T = 1) (hx : Opd env x (addrV b (j * n + r))) (hy : Opd env y q) (hi : hs[i]? = some (sliceH (some (b, cap)) n enc xs)) (hj : xs[j]? = some e) (hl : Nat.blt r (enc e).length = true) (hE : enc e' = spliceV r [q] (enc e)) :
    OpE P hs env ⟨none, .store T x y, ty, pos, after, gd⟩ (γ := Unit) (fun _ => True) (fun _ => hs.set i (sliceH (some (b, cap)) n enc (xs.set j e'))) (fun _ => exactV undef) := by
  intro c a w S F hsit hown hev Kp Q hk
  have hv := hx S w a hev; simp only [exactV] at hv
  have hu := hy S w a hev
  have hl' : r < (enc e).length := by simpa using hl
  have hel : (enc e).length = n := he.len e
  have hjl : j < xs.length := (List.getElem?_eq_some_iff.1 hj).1
  obtain ⟨F1, F2, f1, f2, f3, _, f4⟩ := hown.upd hi
  obtain ⟨hFb, hlc, _, arr, E', hb, hsz, hc⟩ := f3
  have hjn : j * n + n ≤ cap * n := by
    have : (j + 1) * n ≤ cap * n := Nat.mul_le_mul_right _ (by omega)
    rw [Nat.add_mul, Nat.one_mul] at this; exact this
  have ho : j * n + r < arr.size := by omega
  have hr : (execOp a.eval ⟨none, .store T x y, ty, pos, after, gd⟩).run P w = .ok .skip (w.setCell ⟨b, j * n + r, none⟩ (a.eval y)) := by
    simp [execOp, hv, Instr.storeAt, Instr.sureAddr, run_storeVar1 hn (Flat.flat hu) hb ho]
  have hne : ∀ k, k ≠ b → (w.setCell ⟨b, j * n + r, none⟩ (a.eval y)).heap[k]? = w.heap[k]? := fun k hk => heap_setCell_ne w _ _ k hk
  have hag : ∀ k, S k → (w.setCell ⟨b, j * n + r, none⟩ (a.eval y)).heap[k]? = w.heap[k]? := fun k hk => hne k (fun e => hsit.disj k hk (e ▸ (f1 b hFb).1))
  unfold Oper.wp
  rw [hr]
  refine hk () undef _ S F trivial (hsit.write (f1 b hFb).1 rfl rfl rfl (by simp [World.setCell]) hne) (fun _ h => h) hag ?_ rfl
  have := f4 S F1 (w.setCell ⟨b, j * n + r, none⟩ (a.eval y)) (sliceH (some (b, cap)) n enc (xs.set j e')) (fun k hk => (f1 k hk).2) (fun _ h => h) (fun k hk => hne k (fun e => (f1 b hFb).2 (e ▸ hk))) hag
    (sliceW_put (new := [q]) (vs := [a.eval y]) ⟨hFb, hlc, by assumption, arr, E', hb, hsz, hc⟩ hj (by simp; omega) hE (by simpa using h0) hag rfl (fun t q' ht => by
      cases t with
      | zero => simp at ht; subst ht; exact ⟨_, rfl, hu⟩
      | succ t => simp at ht) (fun arr1 T1 hb1 hs1 => ⟨arr1.setIfInBounds (j * n + r) (a.eval y), by simp [World.setCell, Array.getElem?_modify, hb1], by simp, fun t ht => Array.getElem?_setIfInBounds_ne (by simp at ht; omega), fun t v ht => by
        cases t with
        | zero => simp at ht; subst ht; have h9 : j * n + r < arr1.size := by (simp at hs1; omega)
                  simp [h9]
        | succ t => simp at ht⟩))
  exact this.mono (fun k hk => hk.elim (fun h => (f1 k h).1) (f2 k)) (fun _ h => h) (fun _ _ => rfl) (fun _ _ => rfl)
theorem OpE.same {o : Oper} {γ : Type} {φ : γ → Prop} {hs' : γ → List HP} {q : γ → VP} {q' : VP} (h : OpE P hs env o φ hs' q) (hl : ∀ g, φ g → OLe (hs' g) hs) (hq : ∀ g, φ g → VLe (q g) q') : OpE P hs env o (γ := Unit) (fun _ => True) (fun _ => hs) (fun _ => q') :=
 fun c a w S F h1 h2 h3 K Q hk => h c a w S F h1 h2 h3 K Q fun g v w' S' F' hφ hs hS hag ho hqv => hk () v w' S' F' trivial hs hS hag (hl g hφ _ _ _ ho) (hq g hφ _ _ _ hqv)
end
def DrawF (P : Program) (l : List Oper) (n : Nat) (e0 : Env) (T : Done → List HP → Prop) (FR : List HP) : List (Nat × Nat) → Done → List HP → Prop
 | [], done, hs => T done hs
 | (i, 0) :: r, done, hs => ∃ o d q, l[i]? = some o ∧ o.dst = some d ∧ (∀ hs', OpG P l.toArray n hs' (avail o.after done ++ e0) o q) ∧ DrawF P l n e0 T FR r ((i, d, q) :: done) hs
 | (i, 1) :: r, done, hs => ∃ o d q, l[i]? = some o ∧ o.dst = some d ∧ (∀ hs', OLe hs' FR → OpG P l.toArray n hs' (avail o.after done ++ e0) o q) ∧ OLe hs FR ∧ DrawF P l n e0 T FR r ((i, d, q) :: done) hs
 | (i, 2) :: r, done, hs => ∃ (o : Oper) (d : Tmp), l[i]? = some o ∧ o.dst = some d ∧ o.guard = none ∧ ∃ (γ : Type) (φ : γ → Prop) (hs' : γ → List HP) (q : γ → VP), OpE P hs (avail o.after done ++ e0) o φ hs' q ∧ ∀ g, φ g → DrawF P l n e0 T FR r ((i, d, q g) :: done) (hs' g)
 | (i, 3) :: r, done, hs => ∃ (o : Oper), l[i]? = some o ∧ o.dst = none ∧ o.guard = none ∧ ∃ (γ : Type) (φ : γ → Prop) (hs' : γ → List HP) (q : γ → VP), OpE P hs (avail o.after done ++ e0) o φ hs' q ∧ ∀ g, φ g → DrawF P l n e0 T FR r ((i, n, unV) :: done) (hs' g)
 | (i, 4) :: r, done, hs => ∃ (o : Oper) (d : Tmp), l[i]? = some o ∧ o.dst = some d ∧ o.guard = none ∧ ∃ (γ : Type) (φ : γ → Prop) (hs' : γ → List HP) (q : γ → VP), OpE P hs (avail o.after done ++ e0) o φ hs' q ∧ (∀ g, φ g → OLe (hs' g) FR) ∧ ∀ g, φ g → DrawF P l n e0 T FR r ((i, d, q g) :: done) (hs' g)
 | (_, _ + 5) :: _, _, _ => False
section
variable {P : Program} {l : List Oper} {n : Nat} {hs : List HP} {e0 : Env} {T : Done → List HP → Prop} {FR : List HP} {Q : Exit → Act → World → Prop} {c : Ctx} {done : Done} {r : List (Nat × Nat)} {i : Nat}
theorem DrawF.p {d : Tmp} {q : VP} {op : Op} {ty : TypeId} {pos : String} {after : Array Edge} (ho : l[i]? = some ⟨some d, op, ty, pos, after, none⟩)
    (h : ∀ hs', OpP P hs' (avail after done ++ e0) ⟨some d, op, ty, pos, after, none⟩ q) (k : DrawF P l n e0 T FR r ((i, d, q) :: done) hs) : DrawF P l n e0 T FR ((i, 0) :: r) done hs :=
  ⟨_, d, q, ho, rfl, fun hs' => OpG.plain (h hs') rfl, k⟩
theorem DrawF.g {d : Tmp} {q : VP} {op : Op} {ty : TypeId} {pos : String} {after : Array Edge} {gd : Option (Nat × Bool)} (ho : l[i]? = some ⟨some d, op, ty, pos, after, gd⟩)
    (h : ∀ hs', OpG P l.toArray n hs' (avail after done ++ e0) ⟨some d, op, ty, pos, after, gd⟩ q) (k : DrawF P l n e0 T FR r ((i, d, q) :: done) hs) : DrawF P l n e0 T FR ((i, 0) :: r) done hs :=
  ⟨_, d, q, ho, rfl, h, k⟩
theorem DrawF.o {d : Tmp} {q : VP} {op : Op} {ty : TypeId} {pos : String} {after : Array Edge} (ho : l[i]? = some ⟨some d, op, ty, pos, after, none⟩)
    (h : OpP P FR (avail after done ++ e0) ⟨some d, op, ty, pos, after, none⟩ q) (hl : OLe hs FR) (k : DrawF P l n e0 T FR r ((i, d, q) :: done) hs) : DrawF P l n e0 T FR ((i, 1) :: r) done hs :=
  ⟨_, d, q, ho, rfl, fun _ hl' => (OpG.plain h rfl).own hl', hl, k⟩
theorem DrawF.a {d : Tmp} {op : Op} {ty : TypeId} {pos : String} {after : Array Edge} {γ : Type} {φ : γ → Prop} {hs' : γ → List HP} {q : γ → VP} (ho : l[i]? = some ⟨some d, op, ty, pos, after, none⟩)
    (h : OpE P hs (avail after done ++ e0) ⟨some d, op, ty, pos, after, none⟩ φ hs' q) (hl : ∀ g, φ g → OLe (hs' g) FR) (k : ∀ g, φ g → DrawF P l n e0 T FR r ((i, d, q g) :: done) (hs' g)) : DrawF P l n e0 T FR ((i, 4) :: r) done hs :=
  ⟨_, d, ho, rfl, rfl, γ, φ, hs', q, h, hl, k⟩
theorem DrawF.s {op : Op} {ty : TypeId} {pos : String} {after : Array Edge} {hs' : List HP} {q : Unit → VP} (ho : l[i]? = some ⟨none, op, ty, pos, after, none⟩)
    (h : OpE P hs (avail after done ++ e0) ⟨none, op, ty, pos, after, none⟩ (γ := Unit) (fun _ => True) (fun _ => hs') q) (k : DrawF P l n e0 T FR r ((i, n, unV) :: done) hs') : DrawF P l n e0 T FR ((i, 3) :: r) done hs :=
  ⟨_, ho, rfl, rfl, Unit, _, _, q, h, fun _ _ => k⟩
theorem DrawF.head {s : List (Nat × Nat)} : ∀ {k : Nat}, 2 ≤ k → k ≤ 4 → DrawF P l n e0 T FR ((i, k) :: s) done hs → ∃ (o : Oper) (dd : Nat) (γ : Type) (φ : γ → Prop) (hs' : γ → List HP) (q : γ → VP), l[i]? = some o ∧ (o.dst = some dd ∨ o.dst = none ∧ dd = n) ∧ o.guard = none ∧ OpE P hs (avail o.after done ++ e0) o φ hs' q ∧ (k = 4 → ∀ g, φ g → OLe (hs' g) FR) ∧
    ∀ g, φ g → ∃ q' : VP, (∀ S w v, (q g).p S w v → (o.dst = some dd → q'.p S w v)) ∧ (o.dst = none → ∀ S w v, q'.p S w v) ∧ DrawF P l n e0 T FR s ((i, dd, q') :: done) (hs' g)
  | 0, h, _, _ => absurd h (by omega)
  | 1, h, _, _ => absurd h (by omega)
  | 2, _, _, ⟨o', d', g1, g2, g3, γ, φ, hs', q, g4, g5⟩ => ⟨o', d', γ, φ, hs', q, g1, .inl g2, g3, g4, (fun h => by cases h), fun g hg => ⟨q g, fun _ _ _ h _ => h, (fun h => by rw [g2] at h; cases h), g5 g hg⟩⟩
  | 3, _, _, ⟨o', g1, g2, g3, γ, φ, hs', q, g4, g5⟩ => ⟨o', n, γ, φ, hs', q, g1, .inr ⟨g2, rfl⟩, g3, g4, (fun h => by cases h), fun g hg => ⟨unV, fun _ _ _ _ _ => trivial, fun _ _ _ _ => trivial, g5 g hg⟩⟩
  | 4, _, _, ⟨o', d', g1, g2, g3, γ, φ, hs', q, g4, g6, g5⟩ => ⟨o', d', γ, φ, hs', q, g1, .inl g2, g3, g4, (fun _ => g6), fun g hg => ⟨q g, fun _ _ _ h _ => h, (fun h => by rw [g2] at h; cases h), g5 g hg⟩⟩
  | _ + 5, _, h, _ => absurd h (by omega)
def PendF (P : Program) (l : List Oper) (n : Nat) (e0 : Env) (FR hs : List HP) (done : Done) (p : Nat × Nat) : Prop :=
 ∃ o d q dn, l[p.1]? = some o ∧ o.dst = some d ∧ (p.1, d, q) ∈ done ∧ (∀ x, x ∈ dn → x ∈ done) ∧ OpG P l.toArray n hs (avail o.after dn ++ e0) o q ∧ (p.2 = 0 → ∀ hs', OpG P l.toArray n hs' (avail o.after dn ++ e0) o q) ∧ (p.2 = 1 → ∀ hs', OLe hs' FR → OpG P l.toArray n hs' (avail o.after dn ++ e0) o q)
theorem DrawF.expand : ∀ (r : List (Nat × Nat)) (done : Done), DrawF P l n e0 T FR r done hs → ∃ B r' done', r = B ++ r' ∧ (r' = [] ∨ ∃ i k s, r' = (i, k) :: s ∧ 2 ≤ k) ∧ DrawF P l n e0 T FR r' done' hs ∧ (∀ x, x ∈ done → x ∈ done') ∧
    done'.map (·.1) = (B.map (·.1)).reverse ++ done.map (·.1) ∧ (∀ x, x ∈ done' → x ∈ done ∨ ((∃ o, l[x.1]? = some o ∧ o.dst = some x.2.1) ∧ ∃ p ∈ B, p.1 = x.1)) ∧ (∀ p, p ∈ B → PendF P l n e0 FR hs done' p) ∧ ∀ p, p ∈ B → p.2 < 2
  | [], done, h => ⟨[], [], done, rfl, .inl rfl, h, fun _ h => h, rfl, fun x hx => .inl hx, fun p hp => by simp at hp, fun p hp => by simp at hp⟩
  | (i, 0) :: r, done, h => by
    obtain ⟨o, d, q, h1, h2, h3, h4⟩ := h
    obtain ⟨B, r', done', g1, g2, g3, g4, g5, g6, g7, g8⟩ := DrawF.expand r _ h4
    refine ⟨(i, 0) :: B, r', done', by rw [g1]; rfl, g2, g3, fun x hx => g4 x (List.mem_cons_of_mem _ hx), by rw [g5]; simp, fun x hx => ?_, fun p hp => ?_, fun p hp => ?_⟩
    · rcases g6 x hx with h | ⟨h, p, hp, he⟩
      · rcases List.mem_cons.1 h with h | h
        · subst h; exact .inr ⟨⟨o, h1, h2⟩, (i, 0), List.mem_cons_self .., rfl⟩
        · exact .inl h
      · exact .inr ⟨h, p, List.mem_cons_of_mem _ hp, he⟩
    · rcases List.mem_cons.1 hp with h | h
      · subst h; exact ⟨o, d, q, done, h1, h2, g4 _ (List.mem_cons_self ..), fun x hx => g4 x (List.mem_cons_of_mem _ hx), h3 hs, fun _ => h3, fun h => by simp at h⟩
      · exact g7 p h
    · rcases List.mem_cons.1 hp with h | h
      · subst h; simp
      · exact g8 p h
  | (i, 1) :: r, done, h => by
    obtain ⟨o, d, q, h1, h2, h3, h3b, h4⟩ := h
    obtain ⟨B, r', done', g1, g2, g3, g4, g5, g6, g7, g8⟩ := DrawF.expand r _ h4
    refine ⟨(i, 1) :: B, r', done', by rw [g1]; rfl, g2, g3, fun x hx => g4 x (List.mem_cons_of_mem _ hx), by rw [g5]; simp, fun x hx => ?_, fun p hp => ?_, fun p hp => ?_⟩
    · rcases g6 x hx with h | ⟨h, p, hp, he⟩
      · rcases List.mem_cons.1 h with h | h
        · subst h; exact .inr ⟨⟨o, h1, h2⟩, (i, 1), List.mem_cons_self .., rfl⟩
        · exact .inl h
      · exact .inr ⟨h, p, List.mem_cons_of_mem _ hp, he⟩
    · rcases List.mem_cons.1 hp with h | h
      · subst h; exact ⟨o, d, q, done, h1, h2, g4 _ (List.mem_cons_self ..), fun x hx => g4 x (List.mem_cons_of_mem _ hx), h3 hs h3b, (fun h => by simp at h), fun _ => h3⟩
      · exact g7 p h
    · rcases List.mem_cons.1 hp with h | h
      · subst h; simp
      · exact g8 p h
  | (i, 2) :: r, done, h => ⟨[], (i, 2) :: r, done, rfl, .inr ⟨i, 2, r, rfl, by omega⟩, h, fun _ h => h, rfl, fun x hx => .inl hx, fun p hp => by simp at hp, fun p hp => by simp at hp⟩
  | (i, 3) :: r, done, h => ⟨[], (i, 3) :: r, done, rfl, .inr ⟨i, 3, r, rfl, by omega⟩, h, fun _ h => h, rfl, fun x hx => .inl hx, fun p hp => by simp at hp, fun p hp => by simp at hp⟩
  | (i, 4) :: r, done, h => ⟨[], (i, 4) :: r, done, rfl, .inr ⟨i, 4, r, rfl, by omega⟩, h, fun _ h => h, rfl, fun x hx => .inl hx, fun p hp => by simp at hp, fun p hp => by simp at hp⟩
  | (_, _ + 5) :: _, _, h => h.elim
structure UndF (P : Program) (l : List Oper) (c : Ctx) (e0 : Env) (T : Done → List HP → Prop) (FR : List HP) (plan : List (Nat × Nat)) (pre r : List (Nat × Nat)) (done : Done) (hs : List HP) (listed : Array Bool) (a : Act) (w : World) : Prop where
 df : a.defers = c.df
 sz : a.tmps.size = c.n
 split : plan = pre ++ r
 dr : DrawF P l c.n e0 T FR r done hs
 hd : r = [] ∨ ∃ i k s, r = (i, k) :: s ∧ 2 ≤ k
 un : ∀ p ∈ r, listed.getD p.1 false = false
 idx : done.map (·.1) = (pre.map (·.1)).reverse
 dst : ∀ x ∈ done, ∃ o, l[x.1]? = some o ∧ (o.dst = some x.2.1 ∨ o.dst = none ∧ x.2.1 = c.n)
 pend : ∀ p ∈ pre, listed.getD p.1 false = false → PendF P l c.n e0 FR hs done p
 st : ∃ S F, Sit c w S F ∧ Own hs F S w ∧ EnvOk e0 S w a.tmps ∧ ∀ j d q, (j, d, q) ∈ done → listed.getD j false = true → q.p S w (a.tmps.getD d undef)
theorem stagedF_any {m g : Nat} {env : Env} {plan : List (Nat × Nat)} (hB : stagedB l.toArray plan m g c.n = true) (hT : ∀ done hs, T done hs → SeqT P l.toArray Q c (l.drop m) hs (doneEnv done ++ env)) :
    ∀ (u : Nat) (listed : Array Bool) (a : Act) (w : World) (pre r : List (Nat × Nat)) (done : Done) (hs : List HP), count m listed = u → HeadInv .any l.toArray m listed → UndF P l c (strip (dstsOf (l.take m)) env) T FR plan pre r done hs listed a w → wpAnyIn (WF c.ro) 0 P .any l.toArray Q (u + g) listed a w := by
  simp only [stagedB, headB, Bool.and_eq_true] at hB
  obtain ⟨⟨⟨⟨⟨⟨⟨⟨⟨⟨hsum, hnd⟩, hds⟩, hback⟩, hsc⟩, hseq⟩, hpn⟩, hpl⟩, hpm⟩, hpc⟩, hpb⟩ := hB
  have hsum' : m + g = l.toArray.size := by simpa using hsum
  have hnd' : (dstsOf (l.take m)).Nodup := by simpa using hnd
  have hpn' : (plan.map (·.1)).Nodup := by simpa using hpn
  have hpl' : plan.length = m := by simpa using hpl
  have hpm2 : ∀ p ∈ plan, p.1 < m ∧ p.2 ≤ 4 := fun p hp => by have := List.all_eq_true.1 hpm p hp; simpa using this
  have hpm' : ∀ p ∈ plan, p.1 < m := fun p hp => (hpm2 p hp).1
  have hdst : ∀ o ∈ l.take m, ∀ d, o.dst = some d → d < c.n := fun o ho d hd => by
    have := List.all_eq_true.1 hds o (by simpa using ho)
    rw [hd] at this; simpa using this
  have hlen : (l.take m).length = m := by simp at hsum' ⊢; omega
  have hcov : ∀ i, i < m → ∃ k, (i, k) ∈ plan := fun i hi => by
    obtain ⟨p, hp, he⟩ := List.any_eq_true.1 (List.all_eq_true.1 hpc i (List.mem_range.2 hi))
    have : p.1 = i := by simpa using he
    exact ⟨p.2, by rw [← this]; exact hp⟩
  intro u
  induction u with
  | zero =>
    intro listed a w pre r done hs hc inv hu
    rw [Nat.zero_add]
    have hr : r = [] := by
      cases r with
      | nil => rfl
      | cons p r =>
        have h1 := hu.un p (List.mem_cons_self ..)
        have h2 := count_zero hc p.1 (hpm' p (by rw [hu.split]; simp))
        rw [h1] at h2; cases h2
    subst hr
    have hl : listed = (List.replicate m true ++ List.replicate g false).toArray := by
      apply Array.ext
      · simp [inv.size] at hsum' ⊢; omega
      · intro i h1 h2
        have hi : i < l.toArray.size := by rw [← inv.size]; exact h1
        by_cases him : i < m
        · have := count_zero hc i him
          simp [h1] at this
          simp [him, this]
        · have := inv.tail i (by omega) hi
          simp [h1] at this
          simp [List.getElem_append, him, this]
    have hdl : (l.drop m).length = g := by simp at hsum' ⊢; omega
    have hw : wpListIn (WF c.ro) 0 P l.toArray Q (l.drop m) a w := by
      obtain ⟨S, F, h1, h2, h3, h4⟩ := hu.st
      refine hT done hs hu.dr a w ⟨hu.df, hu.sz, S, F, h1, h2, fun t q hl => ?_⟩
      have hin : ∀ j, j < m → j ∈ done.map (·.1) := fun j hj => by
        obtain ⟨k, hk⟩ := hcov j hj
        rw [hu.idx, List.mem_reverse]
        refine List.mem_map.2 ⟨(j, k), ?_, rfl⟩
        rw [hu.split] at hk; simpa using hk
      rcases look_append2 hl with h5 | ⟨h6, h5⟩
      · obtain ⟨j, hj⟩ := look_doneEnv h5
        refine h4 j t q hj (count_zero hc j ?_)
        have : j ∈ pre.map (·.1) := by
          have := idx_mem hj
          rw [hu.idx, List.mem_reverse] at this; exact this
        obtain ⟨p, hp, rfl⟩ := List.mem_map.1 this
        exact hpm' p (by rw [hu.split]; simp [hp])
      · refine h3 t q (look_strip_of h5 ?_)
        cases hct : (dstsOf (l.take m)).contains t with
        | false => rfl
        | true =>
          obtain ⟨j, o, ho, hd⟩ := dsts_mem hct
          have hjm : j < m := by have := (List.getElem?_eq_some_iff.1 ho).1; omega
          obtain ⟨x, hx, he⟩ := List.mem_map.1 (hin j hjm)
          obtain ⟨o', ho', hd'⟩ := hu.dst x hx
          rw [he] at ho'
          rw [List.getElem?_take, if_pos hjm] at ho
          rw [ho] at ho'; cases ho'
          rw [hd] at hd'
          have hd2 : t = x.2.1 := hd'.elim (fun h => Option.some.inj h) (fun h => by cases h.1)
          subst hd2
          exact absurd h6 (look_done_mem (j := x.1) (q := x.2.2) hx)
    have := wpAnyIn_of_seq (F := WF c.ro) (n := 0) (md := .any) (P := P) (ops := l.toArray) (Q' := Q) (l.drop m) m listed a w (fun j => by simp [List.getElem?_drop]) (by rw [hdl, hl]; exact hseq) hw
    rwa [hdl] at this
  | succ u ih =>
    intro listed a w pre r done hs hc inv hu
    rw [show u + 1 + g = (u + g) + 1 by omega]
    refine ⟨fun h0 => absurd h0 (ready_least (by omega) inv.size hback (by omega)), fun i hi => ?_⟩
    have him : i < m := by
      rcases Nat.lt_or_ge i m with h | h
      · exact h
      · exfalso
        have hio : i < l.toArray.size := by
          obtain ⟨_, o, ho, _⟩ := mem_ready.1 hi
          exact (Array.getElem?_eq_some_iff.1 ho).1
        have hg : Nat.beq g 0 = false := by
          cases hg : Nat.beq g 0
          · rfl
          · have : g = 0 := by simpa using hg
            omega
        rw [hg] at hsc
        simp only [Bool.false_or, Bool.and_eq_true] at hsc
        obtain ⟨k, hk1, hk2⟩ : ∃ k, k < m ∧ listed.getD k false = false := by
          cases hf : (List.range m).filter (fun i => !listed.getD i false) with
          | nil => rw [count, hf] at hc; simp at hc
          | cons x l =>
            have : x ∈ (List.range m).filter (fun i => !listed.getD i false) := by rw [hf]; exact List.mem_cons_self ..
            rw [List.mem_filter, List.mem_range] at this
            exact ⟨x, this.1, by simpa using this.2⟩
        exact tail_waits hsc.1 hsc.2 (by omega) inv _ k rfl hk1 (getD_in (by rw [inv.size]; omega) hk2) i h hi
    obtain ⟨hun, o, ho, haft⟩ := mem_ready.1 hi
    have hun' := getD_both hun
    have hol' : l[i]? = some o := by simpa using ho
    have hol : (l.take m)[i]? = some o := by rw [List.getElem?_take, if_pos him]; exact hol'
    obtain ⟨S, F, h1, h2, h3, h4⟩ := hu.st
    have hidn : (done.map (·.1)).Nodup := by
      rw [hu.idx]
      have := hpn'
      rw [hu.split, List.map_append] at this
      exact (List.reverse_perm _).nodup_iff.2 (List.nodup_append.1 this).1
    have hneed : ∀ j, needB l.toArray (m + 1) i j = true → listed.getD j false = true := fun j hj => needB_listed inv _ i j (fun o' ho' => by
      rw [ho] at ho'; cases ho'; exact haft) hj
    have henv : ∀ dn : Done, (∀ x, x ∈ dn → x ∈ done) → EnvOk (avail o.after dn ++ strip (dstsOf (l.take m)) env) S w a.tmps := fun dn hdn t x hx => by
      rcases look_append hx with h5 | h5
      · obtain ⟨j, hj, hw⟩ := look_avail h5
        refine h4 j t x (hdn _ hj) ?_
        unfold waits at hw
        obtain ⟨e, he, hb⟩ := List.any_eq_true.1 hw
        simp only [Bool.and_eq_true] at hb
        have : e.on = j := by simpa using hb.1
        rw [← this]; exact haft e (by simpa using he) hb.2
      · exact h3 t x h5
    have hslot : ∀ j dj qj, (j, dj, qj) ∈ done → j ≠ i → ∀ d, o.dst = some d → d ≠ dj := fun j dj qj hmj hij d hod e => by
      subst e
      obtain ⟨oj, hoj, hdj⟩ := hu.dst _ hmj
      have hdn' := hdst o (List.mem_of_getElem? hol) d hod
      have hdj : oj.dst = some d := hdj.resolve_right (fun h => by have h9 : d = c.n := h.2; rw [h9] at hdn'; exact Nat.lt_irrefl _ hdn')
      have hjm : j < m := by
        have : j ∈ pre.map (·.1) := by
          have := idx_mem hmj
          rw [hu.idx, List.mem_reverse] at this; exact this
        obtain ⟨p, hp, rfl⟩ := List.mem_map.1 this
        exact hpm' p (by rw [hu.split]; simp [hp])
      have hoj' : (l.take m)[j]? = some oj := by rw [List.getElem?_take, if_pos hjm]; exact hoj
      exact hij (nodup_dst' hnd' hoj' hol hdj hod)
    have hne0 : ∀ t x, look (strip (dstsOf (l.take m)) env) t = some x → ∀ d, o.dst = some d → d ≠ t := fun t x hx d hod e => by
      subst e
      have := (look_strip hx).2
      rw [mem_dsts hol hod] at this; cases this
    have hcnt : count m (listed.setIfInBounds i true) = u := by have := count_set him hun' (by rw [inv.size]; omega); omega
    obtain ⟨k, hk⟩ := hcov i him
    rw [hu.split] at hk
    rcases List.mem_append.1 hk with hpre | hrest
    ·
      obtain ⟨o', d, q, dn, g1, hod, g3, g4, g5, g6⟩ := hu.pend _ hpre hun'
      simp only at g1
      rw [hol'] at g1; cases g1
      have hdn' := hdst o (List.mem_of_getElem? hol) d hod
      have hne_r : ∀ p ∈ r, p.1 ≠ i := fun p hp e => by
        have h7 := hpn'
        rw [hu.split, List.map_append] at h7
        exact (List.nodup_append.1 h7).2.2 i (List.mem_map.2 ⟨_, hpre, rfl⟩) p.1 (List.mem_map.2 ⟨p, hp, rfl⟩) e.symm
      unfold wpOpIn
      simp only [ho]
      have key := g5 a w S F hu.sz h1.domS h1.domF h1.disj h2 (henv dn g4) (wpAnyIn (WF c.ro) 0 P .any l.toArray Q (u + g) (listed.setIfInBounds i true)) Q (fun v w' S' gr hq => by
        refine ih _ _ _ pre r done hs hcnt (inv.set hi him) ⟨by rw [Act.defers_put]; exact hu.df, by rw [Act.size_put]; exact hu.sz, hu.split, hu.dr, hu.hd, fun p hp => ?_, hu.idx, hu.dst, fun p hp hpu => ?_, S', F, h1.grow gr, gr.owns h1.domS h1.domF h2, ?_, ?_⟩
        · rw [getD_set_ne false (fun e => hne_r p hp e.symm)]; exact hu.un p hp
        · refine hu.pend p hp ?_
          by_cases e : i = p.1
          · rw [← e]; exact hun'
          · rw [getD_set_ne false e] at hpu; exact hpu
        · intro t x hx
          rw [getD_put_ne' (hne0 t x hx)]
          exact gr.vp h1.domS (h3 t x hx)
        · intro j dj qj hmj hlj
          by_cases hij : j = i
          · subst hij
            obtain ⟨rfl, rfl⟩ := done_uniq hidn hmj g3
            rw [hod]
            have : dj < a.tmps.size := by rw [hu.sz]; exact hdn'
            simpa [Act.put, this] using hq
          · rw [getD_set_ne false (fun e => hij e.symm)] at hlj
            rw [getD_put_ne' (hslot j dj qj hmj hij)]
            exact gr.vp h1.domS (h4 j dj qj hmj hlj))
      by_cases hw : Region.wanted o (yielded l.toArray a.tmps) = true
      · rw [if_pos hw] at key ⊢; exact Oper.wp_in (OpG.noDefer g5 hu.sz h1 h2 (henv dn g4) hw) key
      · rw [if_neg hw] at key ⊢; exact ⟨fun _ _ => trivial, key⟩
    ·
      obtain ⟨i0, k0, s, rfl, hk2⟩ : ∃ i0 k0 s, r = (i0, k0) :: s ∧ 2 ≤ k0 := hu.hd.resolve_left (fun e => by rw [e] at hrest; cases hrest)
      obtain ⟨hafter, hread⟩ := planB_at hpb hk2 hu.split
      have hii : i0 = i := by
        rcases List.mem_cons.1 hrest with e | e
        · cases e; rfl
        · have := hneed i0 (hafter _ e)
          rw [hu.un (i0, k0) (List.mem_cons_self ..)] at this; cases this
      subst hii
      have hns : ∀ p ∈ s, p.1 ≠ i0 := fun p hp e => by
        have h7 := hpn'
        rw [hu.split, List.map_append, List.map_cons] at h7
        exact (List.nodup_cons.1 (List.nodup_append.1 h7).2.1).1 (List.mem_map.2 ⟨p, hp, e⟩)
      have hnp : ∀ p ∈ pre, p.1 ≠ i0 := fun p hp e => by
        have h7 := hpn'
        rw [hu.split, List.map_append] at h7
        exact (List.nodup_append.1 h7).2.2 p.1 (List.mem_map.2 ⟨p, hp, rfl⟩) i0 (by simp) e
      obtain ⟨dd, γ, φ, hs', q, hdd, g3, g4, g45, g5⟩ : ∃ (dd : Nat) (γ : Type) (φ : γ → Prop) (hs' : γ → List HP) (q : γ → VP), (o.dst = some dd ∨ o.dst = none ∧ dd = c.n) ∧ o.guard = none ∧ OpE P hs (avail o.after done ++ strip (dstsOf (l.take m)) env) o φ hs' q ∧ (k0 = 4 → ∀ g, φ g → OLe (hs' g) FR) ∧
          ∀ g, φ g → ∃ q' : VP, (∀ S w v, (q g).p S w v → (o.dst = some dd → q'.p S w v)) ∧ (o.dst = none → ∀ S w v, q'.p S w v) ∧ DrawF P l c.n (strip (dstsOf (l.take m)) env) T FR s ((i0, dd, q') :: done) (hs' g) := by
        obtain ⟨o', dd, γ, φ, hs', q, g1, g2, g3, g4, g45, g5⟩ := DrawF.head hk2 (hpm2 (i0, k0) (by rw [hu.split]; simp)).2 hu.dr
        rw [hol'] at g1; cases g1
        exact ⟨dd, γ, φ, hs', q, g2, g3, g4, g45, g5⟩
      unfold wpOpIn
      simp only [ho]
      rw [if_pos (by simp [Region.wanted, g3])]
      refine Oper.wp_in (OpE.noDefer g4 h1 h2 (henv done (fun _ h => h))) (g4 c a w S F h1 h2 (henv done (fun _ h => h)) _ _ fun gh v w' S' F' hφ hsit hSS hag hown hq => ?_)
      obtain ⟨q', hq1, hq2, g6⟩ := g5 gh hφ
      obtain ⟨B, r', done', e1, e2, e3, e4, e5, e6, e7, e8⟩ := DrawF.expand s _ g6
      refine ih _ _ _ (pre ++ (i0, k0) :: B) r' done' (hs' gh) hcnt (inv.set hi him) ⟨by rw [Act.defers_put]; exact hu.df, by rw [Act.size_put]; exact hu.sz, by rw [hu.split, e1]; simp, e3, e2, fun p hp => ?_, by rw [e5]; simp [hu.idx], fun x hx => ?_, fun p hp hpu => ?_, S', F', hsit, hown, ?_, ?_⟩
      · have hp' : p ∈ s := by rw [e1]; simp [hp]
        rw [getD_set_ne false (fun e => hns p hp' e.symm)]; exact hu.un p (List.mem_cons_of_mem _ hp')
      · rcases e6 x hx with h | h
        · rcases List.mem_cons.1 h with h | h
          · subst h; exact ⟨o, hol', hdd⟩
          · exact hu.dst x h
        · obtain ⟨⟨o1, f1, f2⟩, _⟩ := h
          exact ⟨o1, f1, .inl f2⟩
      · rcases List.mem_append.1 hp with h | h
        · have hpu' : listed.getD p.1 false = false := by
            rw [getD_set_ne false (fun e => hnp p h e.symm)] at hpu; exact hpu
          obtain ⟨o1, d1, q1, dn, f1, f2, f3, f4, f5, f6, f7⟩ := hu.pend p h hpu'
          have hk2' : ¬ 2 ≤ p.2 := fun h2 => by
              obtain ⟨a1, b1, hab⟩ := List.append_of_mem h
              have := (planB_at hpb (a := a1) (b := b1 ++ (i0, k0) :: s) (i := p.1) h2 (by rw [hu.split, hab]; simp)).1 (i0, k0) (by simp)
              have := hneed p.1 this
              rw [hpu'] at this; cases this
          by_cases hk4 : k0 = 4
          · exact ⟨o1, d1, q1, dn, f1, f2, e4 _ (List.mem_cons_of_mem _ f3), fun x hx => e4 x (List.mem_cons_of_mem _ (f4 x hx)), (if h0 : p.2 = 0 then f6 h0 _ else f7 (by omega) _ (g45 hk4 gh hφ)), f6, f7⟩
          have hp0 : p.2 = 0 := by
            have hkind : p.2 ≠ 1 := fun h1 => by
              have := hneed p.1 (hread hk4 p (.inr h) h1)
              rw [hpu'] at this; cases this
            have hk2 : ¬ 2 ≤ p.2 := fun h2 => by
              obtain ⟨a1, b1, hab⟩ := List.append_of_mem h
              have := (planB_at hpb (a := a1) (b := b1 ++ (i0, k0) :: s) (i := p.1) h2 (by rw [hu.split, hab]; simp)).1 (i0, k0) (by simp)
              have := hneed p.1 this
              rw [hpu'] at this; cases this
            omega
          exact ⟨o1, d1, q1, dn, f1, f2, e4 _ (List.mem_cons_of_mem _ f3), fun x hx => e4 x (List.mem_cons_of_mem _ (f4 x hx)), f6 hp0 _, fun _ => f6 hp0, f7⟩
        · rcases List.mem_cons.1 h with h | h
          · subst h
            have : i0 < listed.size := by rw [inv.size]; omega
            simp [this] at hpu
          · exact e7 p h
      · intro t x hx
        rw [getD_put_ne' (hne0 t x hx)]
        exact x.mono hSS hag (h3 t x hx)
      · intro j dj qj hmj hlj
        by_cases hij : j = i0
        · subst hij
          have hnd2 : (done'.map (·.1)).Nodup := by
            rw [e5]
            have h7 := hpn'
            rw [hu.split, e1] at h7
            simp only [List.map_append, List.map_cons, hu.idx] at h7 ⊢
            refine (List.Perm.nodup_iff ?_).1 (List.nodup_append.1 (by simpa using h7 : ((pre.map (·.1) ++ j :: B.map (·.1)) ++ r'.map (·.1)).Nodup)).1
            have q1 : (pre.map (·.1) ++ j :: B.map (·.1)).Perm (B.map (·.1) ++ (j :: pre.map (·.1))) := by
              refine List.perm_append_comm.trans ?_
              simp only [List.cons_append]
              exact (List.perm_middle.symm)
            exact q1.trans ((List.reverse_perm _).symm.append ((List.reverse_perm _).symm.cons j))
          obtain ⟨rfl, rfl⟩ := done_uniq hnd2 hmj (e4 _ (List.mem_cons_self ..))
          rcases hdd with hod | ⟨hod, _⟩
          · have hdn' := hdst o (List.mem_of_getElem? hol) dj hod
            rw [hod]
            have : dj < a.tmps.size := by rw [hu.sz]; exact hdn'
            simpa [Act.put, this] using hq1 _ _ _ hq hod
          · exact hq2 hod _ _ _
        · rw [getD_set_ne false (fun e => hij e.symm)] at hlj
          rcases e6 _ hmj with h | ⟨_, p, hp, hpe⟩
          · rcases List.mem_cons.1 h with h | h
            · cases h; exact absurd rfl hij
            · rw [getD_put_ne' (hslot j dj qj h hij)]
              exact qj.mono hSS hag (h4 j dj qj h hlj)
          · simp only at hpe
            have := hu.un p (List.mem_cons_of_mem _ (by rw [e1]; simp [hp]))
            rw [hpe, hlj] at this; cases this
theorem DrawF.fin {ops : Array Oper} {tl : List Oper} {env : Env} (h : SeqT P ops Q c tl hs (doneEnv done ++ env)) : DrawF P l n e0 (fun done hs => SeqT P ops Q c tl hs (doneEnv done ++ env)) FR [] done hs := h
theorem CodeT.stagedF {id : Nat} {env : Env} (plan : List (Nat × Nat)) (m g : Nat) (hm : P.follows .mixedOrders = true) (hB : stagedB l.toArray plan m g c.n = true)
    (h : DrawF P l c.n (strip (dstsOf (l.take m)) env) (fun done hs => SeqT P l.toArray Q c (l.drop m) hs (doneEnv done ++ env)) FR plan [] hs) : CodeT P Q c (.region id l.toArray true) hs env := by
  intro a w hst
  refine wpIn_region_any hm ?_
  obtain ⟨h1, h2, S, F, h3, h4, h5⟩ := hst
  have hsum : m + g = l.toArray.size := by
    simp only [stagedB, headB, Bool.and_eq_true] at hB
    simpa using hB.1.1.1.1.1.1.1.1.1.1
  have g0 := Grow.drew w S
  obtain ⟨B, r', done', e1, e2, e3, e4, e5, e6, e7, e8⟩ := DrawF.expand plan [] h
  have key := stagedF_any (FR := FR) (P := P) (Q := Q) (l := l) (c := c) (env := env) hB (fun _ _ h => h) m (Array.replicate l.toArray.size false) a { w with drawn := w.drawn + 1 } B r' done' hs ?_ ?_ ?_
  · rw [hsum] at key; exact key
  · unfold count
    rw [List.filter_eq_self.2 (fun i hi => by rw [getD_replicate_false]; rfl)]
    simp
  · exact ⟨by simp, fun j oj _ hl => (by rw [getD_replicate_false] at hl; cases hl), fun t _ ht => getD_in (by simpa using ht) (getD_replicate_false _ _)⟩
  · exact ⟨h1, h2, e1, e3, e2, fun p _ => getD_replicate_false _ _, by simpa using e5, fun x hx => (e6 x hx).elim (fun h => by cases h) (fun h => let ⟨o, f1, f2⟩ := h.1; ⟨o, f1, .inl f2⟩), fun p hp _ => e7 p hp, S, F, h3.grow g0, g0.owns h3.domS h3.domF h4, fun t q hl => g0.vp h3.domS (h5 t q (look_strip hl).1), fun j d q _ hl => by rw [getD_replicate_false] at hl; cases hl⟩
end
end Go.Hl
end
