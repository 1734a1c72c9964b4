/-
  Pages in frames: the state as plain data, and what the functions make of it. No project text.
-/
import Derived.Test.YtiicgelmdmhajaaDoorP07A
import Derived.Test.YtiicgelmdmhajaaDoorHlN
namespace Go.Hl
set_option linter.unusedVariables false

structure Fr where
  at_ : Nat
  k : PairK
  used : Bool
  seen : Bool
  dirty : Bool
def encFr (f : Fr) : List VP := [i64V (f.at_ : Int), i64V f.k.1, i64V f.k.2, propV (BP f.used), propV (BP f.seen), propV (BP f.dirty)]
instance : Enc 6 encFr := ⟨fun _ => rfl, fun x q h => by simp only [encFr, List.mem_cons, List.not_mem_nil, or_false] at h; rcases h with h | h | h | h | h | h <;> subst h <;> infer_instance⟩
structure PgI where
  (pb sb fb cap m1 m2 n lo hi : Nat)
  Y : ArI
structure PgD where
  l : List Fr
  hand : Nat
  inm : List (PairK × Int)
  bm : List (PairK × Int)
  fault : Nat
  closed : Bool
def pagerC (X : PgI) (p : PgD) : HP := cellsH X.pb [addrV X.Y.ab 0, addrV X.sb 0, exactV (sval (some (X.fb, X.cap)) X.n), i64V (p.hand : Int), exactV (.map (some X.m1)), exactV (.map (some X.m2)), i64V (p.fault : Int), propV (BP p.closed)]
def pagerF (X : PgI) (p : PgD) : HP := sliceH (some (X.fb, X.cap)) 6 encFr p.l
def pagerI (X : PgI) (p : PgD) : HP := mapH X.m1 kpair i64V p.inm
def pagerB (X : PgI) (p : PgD) : HP := mapH X.m2 kpair i64V p.bm
def stopsP (p : PgD) : Prop := p.closed = true ∨ p.fault ≠ 0
instance (p : PgD) : Decidable (stopsP p) := inferInstanceAs (Decidable (_ ∨ _))
def zerosP (l : List UInt8) : Prop := ∀ x ∈ l, x = 0
def wrongF (p : PgD) (size : Nat) (k : PairK) (at_ n : Int) : Nat := if stopsP p then 12 else if k.1 < 0 ∨ k.2 < 0 then 1 else if at_ < 0 ∨ n < 0 ∨ (size : Int) < at_ ∨ (size : Int) - at_ < n then 2 else 0
/-- a page's block is freed, if it has one -/
def freePF (p : PgD) (s : StD) (k : PairK) : PgD × StD × Nat := match lookD p.bm k with
  | none => (p, s, 0)
  | some id => ({ p with bm := delD p.bm k }, (freeF s id).1, (freeF s id).2)
def knownP (p : PgD) (k : PairK) : Prop := (lookD p.inm k).isSome = true ∨ (lookD p.bm k).isSome = true
structure PgOk (X : PgI) (p : PgD) (a : ArD) (s : StD) : Prop where
  n : p.l.length = X.n
  pos : 0 < X.n
  most : X.n ≤ 64
  hand : p.hand < X.n
  room : ∀ f ∈ p.l, (X.lo ≤ f.at_ ∧ f.at_ + s.size ≤ X.hi) ∧ f.at_ + s.size ≤ X.Y.size
  ar : ArOk X.Y a
  st : StOk s

theorem OLe.headE {a b : HP} (h : a = b) {r : List HP} : OLe (a :: r) (b :: r) := h ▸ OLe.refl _
theorem pagerF_eq {X : PgI} {p q : PgD} (h : p.l = q.l) : pagerF X p = pagerF X q := by unfold pagerF; rw [h]
theorem freePF_l (p : PgD) (s : StD) (k : PairK) : (freePF p s k).1.l = p.l := by unfold freePF; split <;> rfl
/-- a frame is changed -/
def PgD.setF (p : PgD) (i : Nat) (f : Fr) : PgD := { p with l := p.l.set i f }
/-- a frame's page is written to its block, if that must be -/
inductive SaveR (p : PgD) (a : ArD) (s : StD) (i : Nat) (fr : Fr) : PgD × StD × Nat → Prop
  | clean (h : ¬ (fr.used = true ∧ fr.dirty = true)) : SaveR p a s i fr (p, s, 0)
  | zero (h : fr.used = true ∧ fr.dirty = true) (hz : zerosP (a.get fr.at_ s.size)) : SaveR p a s i fr (freePF (p.setF i { fr with dirty := false }) s fr.k)
  | has (h : fr.used = true ∧ fr.dirty = true) (hz : ¬ zerosP (a.get fr.at_ s.size)) (id : Int) (hid : lookD p.bm fr.k = some id) : SaveR p a s i fr (p.setF i { fr with dirty := false }, (writeF s id (a.get fr.at_ s.size)).1, (writeF s id (a.get fr.at_ s.size)).2)
  | full (h : fr.used = true ∧ fr.dirty = true) (hz : ¬ zerosP (a.get fr.at_ s.size)) (hid : lookD p.bm fr.k = none) (ga : StD × Int × Nat) (hga : allocR s ga) (he : ga.2.2 ≠ 0) : SaveR p a s i fr (p, ga.1, ga.2.2)
  | new (h : fr.used = true ∧ fr.dirty = true) (hz : ¬ zerosP (a.get fr.at_ s.size)) (hid : lookD p.bm fr.k = none) (ga : StD × Int × Nat) (hga : allocR s ga) (he : ga.2.2 = 0) : SaveR p a s i fr ({ p with l := p.l.set i { fr with dirty := false }, bm := updD p.bm fr.k ga.2.1 }, (writeF ga.1 ga.2.1 (a.get fr.at_ s.size)).1, (writeF ga.1 ga.2.1 (a.get fr.at_ s.size)).2)
theorem lookD_not_mem {α : Type} {m : List (Int × α)} {k : Int} (h : lookD m k = none) : k ∉ m.map (fun e => e.1) := by
  intro hk
  obtain ⟨e, he, hek⟩ := List.mem_map.1 hk
  unfold lookD at h
  cases hf : m.find? fun p => decide (p.1 = k) with
  | none => have := List.find?_eq_none.1 hf e he; simp [hek] at this
  | some p => rw [hf] at h; cases h
theorem StOk.op {s : StD} (h : StOk s) {s' : StD} (hm : s'.m = s.m) (hz : s'.size = s.size) (hc : s'.cap = s.cap) : StOk s' :=
  ⟨hz ▸ h.size, hc ▸ h.cap, by rw [hm, hz]; exact h.len, by rw [hm]; exact h.keys, by rw [hm, hc]; exact h.many, by rw [hm]; exact h.nodup⟩
theorem StOk.alloc {s : StD} (h : StOk s) {g : StD × Int × Nat} (hg : allocR s g) : StOk g.1 ∧ g.1.size = s.size := by
  have ho := opF_m s
  rcases hg with ⟨_, rfl⟩ | ⟨_, _, rfl⟩ | ⟨_, hne, id, hid, hno, rfl⟩
  · exact ⟨h.op ho.1 ho.2.1 ho.2.2.1, ho.2.1⟩
  · exact ⟨h.op ho.1 ho.2.1 ho.2.2.1, ho.2.1⟩
  · have h1 := h.many
    have h2 := h.cap
    refine ⟨⟨?_, ?_, ?_, ?_, ?_, ?_⟩, ho.2.1⟩
    · show (opF s).1.size ≤ 1024; rw [ho.2.1]; exact h.size
    · show (opF s).1.cap ≤ 4096; rw [ho.2.2.1]; exact h.cap
    · intro e he
      show e.2.length = (opF s).1.size
      rw [ho.2.1]
      rcases List.mem_append.1 he with h3 | h3
      · exact h.len e h3
      · simp at h3; subst h3; simp
    · intro e he
      rcases List.mem_append.1 he with h3 | h3
      · exact h.keys e h3
      · simp at h3; subst h3; exact ⟨by simp, by show (id : Int) < 4096; omega⟩
    · show ((s.m ++ [((id : Int), List.replicate s.size 0)]).length : Int) ≤ (opF s).1.cap
      rw [ho.2.2.1]; simp; omega
    · show (List.map (fun e : Int × List UInt8 => e.1) (s.m ++ [((id : Int), List.replicate s.size 0)])).Nodup
      rw [List.map_append, List.nodup_append]
      refine ⟨h.nodup, by simp, fun a ha b hb e => ?_⟩
      simp at hb
      subst e; subst hb
      exact lookD_not_mem hno ha

/-! ### bytes at both ends -/
def trimRk (l : List UInt8) (c : UInt8) : Nat → List UInt8
  | 0 => []
  | k + 1 => if l.getD k 0 = c then trimRk l c k else l.take (k + 1)
theorem trimRk_nil {l : List UInt8} {c : UInt8} : ∀ {k : Nat}, k ≤ l.length → (trimRk l c k = [] ↔ ∀ j, j < k → l.getD j 0 = c)
  | 0, _ => by simp [trimRk]
  | k + 1, hk => by
    unfold trimRk
    by_cases h : l.getD k 0 = c
    · rw [if_pos h, trimRk_nil (by omega)]
      constructor
      · intro h2 j hj
        rcases Nat.lt_or_ge j k with h3 | h3
        · exact h2 j h3
        · rw [show j = k by omega]; exact h
      · intro h2 j hj; exact h2 j (by omega)
    · rw [if_neg h]
      constructor
      · intro h2
        have h3 : (l.take (k + 1)).length = 0 := by rw [h2]; rfl
        rw [List.length_take] at h3
        omega
      · intro h2; exact absurd (h2 k (by omega)) h
def trimL (l : List UInt8) (c : UInt8) : List UInt8 := l.dropWhile fun b => decide (b = c)
theorem trimL_nil {l : List UInt8} {c : UInt8} : trimL l c = [] ↔ ∀ b ∈ l, b = c := by
  unfold trimL
  induction l with
  | nil => simp
  | cons x l ih =>
    rw [List.dropWhile_cons]
    by_cases h : x = c
    · rw [if_pos (by simpa using h), ih]; simp [h]
    · rw [if_neg (by simpa using h)]; simp [h]
theorem trimR_nil {l : List UInt8} {c : UInt8} : trimRk l c l.length = [] ↔ ∀ b ∈ l, b = c := by
  rw [trimRk_nil (Nat.le_refl _)]
  constructor
  · intro h b hb
    obtain ⟨j, hj, rfl⟩ := List.mem_iff_getElem.1 hb
    have := h j hj
    simpa [List.getD_eq_getElem?_getD, hj] using this
  · intro h j hj
    have := h (l[j]) (List.getElem_mem hj)
    simpa [List.getD_eq_getElem?_getD, hj] using this
theorem trimRk_sub {l : List UInt8} {c : UInt8} : ∀ {k : Nat}, ∀ b, b ∈ trimRk l c k → b ∈ l
  | 0, b, h => by simp [trimRk] at h
  | k + 1, b, h => by
    unfold trimRk at h
    split at h
    · exact trimRk_sub b h
    · exact List.mem_of_mem_take h
theorem trim_zero {l : List UInt8} : trimL (trimRk l 0 l.length) 0 = [] ↔ zerosP l := by
  rw [trimL_nil]
  constructor
  · intro h
    by_cases hn : trimRk l 0 l.length = []
    · exact trimR_nil.1 hn
    · exfalso
      have key : ∀ k, k ≤ l.length → trimRk l 0 k ≠ [] → ∃ b ∈ trimRk l 0 k, b ≠ 0 := by
        intro k
        induction k with
        | zero => intro _ h; exact absurd rfl h
        | succ k ih =>
          intro hk hne
          unfold trimRk at hne ⊢
          by_cases hc : l.getD k 0 = 0
          · rw [if_pos hc] at hne ⊢; exact ih (by omega) hne
          · rw [if_neg hc]
            refine ⟨l.getD k 0, ?_, hc⟩
            have hkl : k < l.length := by omega
            rw [List.mem_iff_getElem?]
            exact ⟨k, by rw [List.getElem?_take, if_pos (by omega)]; simp [List.getD_eq_getElem?_getD, hkl]⟩
      obtain ⟨b, hb, hb0⟩ := key _ (Nat.le_refl _) hn
      exact hb0 (h b hb)
  · intro h b hb
    exact h b (trimRk_sub b hb)

/-! ### which frame is taken next -/
theorem idxF_lt {α : Type} (p : α → Prop) : ∀ l : List α, idxF p l < l.length
  | [] => by simp [idxF]
  | x :: l => by unfold idxF; have := idxF_lt p l; simp only [List.length_cons]; split <;> (try split) <;> omega
def unseen (f : Fr) : Fr := { f with seen := false }
structure VicR (X : PgI) (p p1 : PgD) : Prop where
  l : p1.l.map unseen = p.l.map unseen
  len : p1.l.length = X.n
  hand : p1.hand < X.n
  rest : p1 = { p with l := p1.l, hand := p1.hand }
theorem VicR.refl {X : PgI} {p : PgD} {a : ArD} {s : StD} (h : PgOk X p a s) : VicR X p p := ⟨rfl, h.n, h.hand, rfl⟩
theorem VicR.next {X : PgI} {p p1 : PgD} (h : VicR X p p1) (h0 : 0 < X.n) : VicR X p { p1 with hand := (p1.hand + 1) % X.n } :=
  ⟨h.l, h.len, Nat.mod_lt _ h0, by have := h.rest; rw [this]⟩
theorem VicR.step {X : PgI} {p p1 : PgD} {x : Fr} (h : VicR X p p1) (hx : p1.l[p1.hand]? = some x) (h0 : 0 < X.n) : VicR X p { p1 with l := p1.l.set p1.hand { x with seen := false }, hand := (p1.hand + 1) % X.n } :=
  ⟨by
    show (p1.l.set p1.hand { x with seen := false }).map unseen = p.l.map unseen
    rw [← h.l, List.map_set]
    apply List.ext_getElem?
    intro j
    rw [List.getElem?_set]
    by_cases hj : p1.hand = j
    · subst hj
      have hl := (List.getElem?_eq_some_iff.1 hx).1
      rw [if_pos rfl, if_pos (by simpa using hl), List.getElem?_map, hx]; rfl
    · rw [if_neg hj], by simpa using h.len, Nat.mod_lt _ h0, by have := h.rest; rw [this]⟩
theorem seen_less : ∀ {l : List Fr} {k : Nat} {x : Fr}, l[k]? = some x → x.seen = true → ((l.set k { x with seen := false }).filter (·.seen)).length < (l.filter (·.seen)).length
  | [], _, _, h, _ => by simp at h
  | f :: l, 0, x, h, hs => by
    simp at h; subst h
    simp [hs]
  | f :: l, k + 1, x, h, hs => by
    have := seen_less (l := l) (k := k) (x := x) (by simpa using h) hs
    rw [List.set_cons_succ]
    cases hf : f.seen <;> simp [hf] <;> omega
end Go.Hl
