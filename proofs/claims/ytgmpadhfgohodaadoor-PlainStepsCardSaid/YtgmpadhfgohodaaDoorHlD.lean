/-
  A region that draws its order: its head in any order, its tail in the text's. No project text.
-/
import Derived.Test.YtgmpadhfgohodaaDoorHlA
import Derived.StillTail
namespace Go.Hl
open Go.RowKit
set_option linter.unusedVariables false

/-- (place, slot, what it holds) -/
abbrev Done := List (Nat × Nat × VP)
def waits (after : Array Edge) (j : Nat) : Bool := after.toList.any fun e => Nat.beq e.on j && Region.binds .any e
/-- what an operation may look at: what it waits for -/
def avail (after : Array Edge) : Done → Env
  | [] => []
  | (j, d, q) :: r => bif waits after j then (d, q) :: avail after r else avail after r
def doneEnv : Done → Env
  | [] => []
  | (_, d, q) :: r => (d, q) :: doneEnv r
def strip (ds : List Nat) : Env → Env
  | [] => []
  | (t, q) :: r => bif ds.contains t then strip ds r else (t, q) :: strip ds r
def dstsOf : List Oper → List Nat
  | [] => []
  | o :: l => match o.dst with | some d => d :: dstsOf l | none => dstsOf l

/-- the head's operations, each by what it waits for -/
def DrawH (P : Program) (ops : Array Oper) (n : Nat) (hs : List HP) (e0 : Env) : Nat → Done → List Oper → Done → Prop
  | _, done, [], all => done = all
  | i, done, o :: l, all => ∃ d q, o.dst = some d ∧ OpG P ops n hs (avail o.after done ++ e0) o q ∧ DrawH P ops n hs e0 (i + 1) ((i, d, q) :: done) l all

section
variable {P : Program} {ops : Array Oper} {n : Nat} {hs : List HP} {e0 : Env} {Q : Exit → Act → World → Prop} {c : Ctx}

theorem DrawH.nil {i : Nat} {done : Done} : DrawH P ops n hs e0 i done [] done := rfl
theorem DrawH.cons {i : Nat} {done all : Done} {d : Tmp} {q : VP} {op : Op} {ty : TypeId} {pos : String} {after : Array Edge} {gd : Option (Nat × Bool)} {l : List Oper}
    (h : OpG P ops n hs (avail after done ++ e0) ⟨some d, op, ty, pos, after, gd⟩ q) (k : DrawH P ops n hs e0 (i + 1) ((i, d, q) :: done) l all) : DrawH P ops n hs e0 i done (⟨some d, op, ty, pos, after, gd⟩ :: l) all :=
  ⟨d, q, rfl, h, k⟩
theorem DrawH.p {i : Nat} {done all : Done} {d : Tmp} {q : VP} {op : Op} {ty : TypeId} {pos : String} {after : Array Edge} {l : List Oper}
    (h : OpP P hs (avail after done ++ e0) ⟨some d, op, ty, pos, after, none⟩ q) (k : DrawH P ops n hs e0 (i + 1) ((i, d, q) :: done) l all) : DrawH P ops n hs e0 i done (⟨some d, op, ty, pos, after, none⟩ :: l) all :=
  ⟨d, q, rfl, OpG.plain h rfl, k⟩

theorem look_append {a b : Env} {t : Nat} {q : VP} (h : look (a ++ b) t = some q) : look a t = some q ∨ look b t = some q := by
  induction a with
  | nil => exact .inr h
  | cons p a ih =>
    obtain ⟨s, x⟩ := p
    rw [List.cons_append, look_cons] at h
    rw [look_cons]
    by_cases e : s = t
    · rw [if_pos e] at h ⊢; exact .inl h
    · rw [if_neg e] at h ⊢; exact ih h

theorem look_avail {after : Array Edge} {done : Done} {t : Nat} {q : VP} (h : look (avail after done) t = some q) : ∃ j, (j, t, q) ∈ done ∧ waits after j = true := by
  induction done with
  | nil => cases h
  | cons p done ih =>
    obtain ⟨j, d, x⟩ := p
    simp only [avail] at h
    cases hw : waits after j with
    | false => rw [hw] at h; obtain ⟨j', h1, h2⟩ := ih (by simpa using h); exact ⟨j', List.mem_cons_of_mem _ h1, h2⟩
    | true =>
      rw [hw] at h
      simp only [cond_true, look_cons] at h
      by_cases e : d = t
      · rw [if_pos e] at h; cases h; subst e; exact ⟨j, List.mem_cons_self .., hw⟩
      · rw [if_neg e] at h; obtain ⟨j', h1, h2⟩ := ih h; exact ⟨j', List.mem_cons_of_mem _ h1, h2⟩

theorem look_doneEnv {done : Done} {t : Nat} {q : VP} (h : look (doneEnv done) t = some q) : ∃ j, (j, t, q) ∈ done := by
  induction done with
  | nil => cases h
  | cons p done ih =>
    obtain ⟨j, d, x⟩ := p
    simp only [doneEnv, look_cons] at h
    by_cases e : d = t
    · rw [if_pos e] at h; cases h; subst e; exact ⟨j, List.mem_cons_self ..⟩
    · rw [if_neg e] at h; obtain ⟨j', h1⟩ := ih h; exact ⟨j', List.mem_cons_of_mem _ h1⟩

theorem look_strip {ds : List Nat} {e : Env} {t : Nat} {q : VP} (h : look (strip ds e) t = some q) : look e t = some q ∧ ds.contains t = false := by
  induction e with
  | nil => cases h
  | cons p e ih =>
    obtain ⟨s, x⟩ := p
    simp only [strip] at h
    cases hc : ds.contains s with
    | true =>
      rw [hc] at h
      obtain ⟨h1, h2⟩ := ih (by simpa using h)
      have hne : s ≠ t := fun e => by subst e; rw [hc] at h2; cases h2
      exact ⟨by rw [look_cons, if_neg hne]; exact h1, h2⟩
    | false =>
      rw [hc] at h
      simp only [cond_false, look_cons] at h
      rw [look_cons]
      by_cases e : s = t
      · rw [if_pos e] at h ⊢; subst e; exact ⟨h, hc⟩
      · rw [if_neg e] at h ⊢; exact ih h

theorem look_append2 {a b : Env} {t : Nat} {q : VP} (h : look (a ++ b) t = some q) : look a t = some q ∨ (look a t = none ∧ look b t = some q) := by
  induction a with
  | nil => exact .inr ⟨rfl, h⟩
  | cons p a ih =>
    obtain ⟨s, x⟩ := p
    rw [List.cons_append, look_cons] at h
    rw [look_cons]
    by_cases e : s = t
    · rw [if_pos e] at h ⊢; exact .inl h
    · rw [if_neg e] at h ⊢; exact ih h
theorem look_done_mem {done : Done} {j d : Nat} {q : VP} (h : (j, d, q) ∈ done) : look (doneEnv done) d ≠ none := by
  induction done with
  | nil => cases h
  | cons p done ih =>
    obtain ⟨j', d', q'⟩ := p
    simp only [doneEnv, look_cons]
    by_cases e : d' = d
    · rw [if_pos e]; simp
    · rw [if_neg e]
      rcases List.mem_cons.1 h with h | h
      · cases h; exact absurd rfl e
      · exact ih h
theorem look_strip_of {ds : List Nat} {e : Env} {t : Nat} {q : VP} (h : look e t = some q) (hc : ds.contains t = false) : look (strip ds e) t = some q := by
  induction e with
  | nil => cases h
  | cons p e ih =>
    obtain ⟨s, x⟩ := p
    rw [look_cons] at h
    simp only [strip]
    by_cases e1 : s = t
    · rw [if_pos e1] at h; subst e1; rw [hc]; simp only [cond_false, look_cons, if_true]; exact h
    · rw [if_neg e1] at h
      cases hs : ds.contains s with
      | true => simp only [cond_true]; exact ih h
      | false => simp only [cond_false, look_cons, if_neg e1]; exact ih h
theorem dsts_mem {l : List Oper} {d : Nat} (h : (dstsOf l).contains d = true) : ∃ (j : Nat) (o : Oper), l[j]? = some o ∧ o.dst = some d := by
  induction l with
  | nil => simp [dstsOf] at h
  | cons o l ih =>
    simp only [dstsOf] at h
    cases ho : o.dst with
    | none =>
      rw [ho] at h; obtain ⟨j, o', h1, h2⟩ := ih h; exact ⟨j + 1, o', by simpa using h1, h2⟩
    | some d' =>
      rw [ho] at h
      simp only [List.contains_cons, Bool.or_eq_true, beq_iff_eq] at h
      rcases h with h | h
      · exact ⟨0, o, rfl, by rw [ho, h]⟩
      · obtain ⟨j, o', h1, h2⟩ := ih h; exact ⟨j + 1, o', by simpa using h1, h2⟩
theorem mem_dsts {l : List Oper} {j : Nat} {o : Oper} {d : Nat} (h : l[j]? = some o) (hd : o.dst = some d) : (dstsOf l).contains d = true := by
  induction l generalizing j with
  | nil => simp at h
  | cons x l ih =>
    cases j with
    | zero => simp at h; subst h; simp [dstsOf, hd]
    | succ j =>
      have := ih (j := j) (by simpa using h)
      simp only [dstsOf]
      split
      · simp only [List.contains_cons, this, Bool.or_true]
      · exact this

/-- what DrawH says of each place -/
theorem DrawH.spec {l : List Oper} {i : Nat} {done all : Done} (h : DrawH P ops n hs e0 i done l all) :
    ∃ new : Done, all = new ++ done ∧ (∀ j d q, (j, d, q) ∈ new → i ≤ j ∧ j < i + l.length) ∧ ∀ j o, l[j]? = some o → ∃ d q dn, (i + j, d, q) ∈ new ∧ o.dst = some d ∧ OpG P ops n hs (avail o.after dn ++ e0) o q ∧
      (∀ x, x ∈ dn → x ∈ all) ∧ (∀ j' d' q', (j', d', q') ∈ all → j' = i + j → (∀ x ∈ done, x.1 < i) → d' = d ∧ q' = q) := by
  induction l generalizing i done with
  | nil => exact ⟨[], by simp [DrawH] at h; exact h.symm, by simp, by simp⟩
  | cons o l ih =>
    obtain ⟨d, q, hd, hop, hr⟩ := h
    obtain ⟨new, h1, h2, h3⟩ := ih hr
    refine ⟨new ++ [(i, d, q)], by simp [h1], ?_, ?_⟩
    · intro j d' q' hm
      rcases List.mem_append.1 hm with hm | hm
      · have := h2 j d' q' hm; simp; omega
      · simp at hm; obtain ⟨rfl, _, _⟩ := hm; simp
    · intro j o' ho
      cases j with
      | zero =>
        simp at ho; subst ho
        refine ⟨d, q, done, by simp, hd, hop, fun x hx => by rw [h1]; simp [hx], ?_⟩
        intro j' d' q' hm hj hdone
        rw [h1] at hm
        rcases List.mem_append.1 hm with hm | hm
        · have := h2 _ _ _ hm; omega
        · rcases List.mem_cons.1 hm with hm | hm
          · cases hm; exact ⟨rfl, rfl⟩
          · have := hdone _ hm; simp at this; omega
      | succ j =>
        obtain ⟨d1, q1, dn, g1, g2, g3, g4, g5⟩ := h3 j o' (by simpa using ho)
        refine ⟨d1, q1, dn, by rw [show i + (j + 1) = i + 1 + j by omega]; simp [g1], g2, g3, g4, fun j' d' q' hm hj hdone => g5 j' d' q' hm (by omega) ?_⟩
        intro x hx
        rcases List.mem_cons.1 hx with hx | hx
        · subst hx; simp
        · have := hdone x hx; omega

/-- the closed facts of a region that draws: its head of m operations, its tail of g -/
def drawB (ops : Array Oper) (m g n : Nat) : Bool :=
  Nat.beq (m + g) ops.size && (dstsOf (ops.toList.take m)).Nodup && (ops.toList.take m).all (fun o => match o.dst with | some d => Nat.blt d n | none => false) &&
  (List.range m).all (fun i => match ops[i]? with | some o => o.after.toList.all (fun e => !Region.binds .any e || Nat.blt e.on i) | none => false) &&
  (Nat.beq g 0 || (Region.sinkB .any ops m && Region.chainB .any ops m)) && Region.seqB .any ops g m ((List.replicate m true ++ List.replicate g false).toArray)

def count (m : Nat) (listed : Array Bool) : Nat := ((List.range m).filter fun i => !listed.getD i false).length

theorem count_zero {m : Nat} {listed : Array Bool} (h : count m listed = 0) : ∀ i, i < m → listed.getD i false = true := by
  intro i hi
  have h0 : (List.range m).filter (fun i => !listed.getD i false) = [] := List.length_eq_zero_iff.1 h
  have := List.filter_eq_nil_iff.1 h0 i (List.mem_range.2 hi)
  simpa using this

theorem filter_len_set (l : List Nat) (hn : l.Nodup) (listed : Array Bool) (i : Nat) (hi : i ∈ l) (hu : listed.getD i false = false) (hs : i < listed.size) :
    (l.filter fun j => !(listed.setIfInBounds i true).getD j false).length + 1 = (l.filter fun j => !listed.getD j false).length := by
  induction l with
  | nil => cases hi
  | cons x l ih =>
    rw [List.nodup_cons] at hn
    rcases List.mem_cons.1 hi with he | hm
    · subst he
      have h1 : (listed.setIfInBounds i true).getD i false = true := by simp [hs]
      have h2 : l.filter (fun j => !(listed.setIfInBounds i true).getD j false) = l.filter (fun j => !listed.getD j false) := by
        apply List.filter_congr
        intro j hj
        have hne : i ≠ j := fun e => hn.1 (e ▸ hj)
        rw [getD_set_ne false hne]
      simp only [List.filter_cons, h1, hu, h2]; simp
    · have hne : i ≠ x := fun e => hn.1 (e ▸ hm)
      have := ih hn.2 hm
      simp only [List.filter_cons, getD_set_ne false hne]
      split
      · simp only [List.length_cons]; omega
      · exact this

theorem count_set {m : Nat} {listed : Array Bool} {i : Nat} (hi : i < m) (hu : listed.getD i false = false) (hs : i < listed.size) : count m (listed.setIfInBounds i true) + 1 = count m listed :=
  filter_len_set (List.range m) List.nodup_range listed i (List.mem_range.2 hi) hu hs

theorem ready_least {ops : Array Oper} {m : Nat} {listed : Array Bool} (hm : m ≤ ops.size) (hsz : listed.size = ops.size) (hb : (List.range m).all (fun i => match ops[i]? with | some o => o.after.toList.all (fun e => !Region.binds .any e || Nat.blt e.on i) | none => false) = true)
    (h : count m listed ≠ 0) : Region.ready .any ops listed ≠ [] := by
  -- the least that is not listed
  have hex : ∃ i, i < m ∧ listed.getD i false = false := by
    cases hf : (List.range m).filter (fun i => !listed.getD i false) with
    | nil => exact absurd (by unfold count; rw [hf]; rfl) h
    | cons x l =>
      have : x ∈ (List.range m).filter (fun i => !listed.getD i false) := by rw [hf]; exact List.mem_cons_self ..
      rw [List.mem_filter, List.mem_range] at this
      exact ⟨x, this.1, by simpa using this.2⟩
  obtain ⟨i, hi, hu, hmin⟩ : ∃ i, i < m ∧ listed.getD i false = false ∧ ∀ j, j < i → listed.getD j false = true := by
    obtain ⟨i, hi⟩ := hex
    induction i using Nat.strongRecOn with
    | _ i ih =>
      by_cases hc : ∃ j, j < i ∧ listed.getD j false = false
      · obtain ⟨j, hj, hju⟩ := hc; exact ih j hj ⟨by omega, hju⟩
      · exact ⟨i, hi.1, hi.2, fun j hj => by
          cases hl : listed.getD j false
          · exact (hc ⟨j, hj, hl⟩).elim
          · rfl⟩
  have hio : i < ops.size := by omega
  intro hnil
  have : i ∈ Region.ready .any ops listed := by
    rw [mem_ready]
    refine ⟨getD_in (by rw [hsz]; exact hio) hu, ops[i], by simp [hio], fun e he hbi => ?_⟩
    have h1 := List.all_eq_true.1 hb i (List.mem_range.2 hi)
    simp only [Array.getElem?_eq_getElem hio] at h1
    have h2 := List.all_eq_true.1 h1 e (by simpa using he)
    simp only [hbi, Bool.not_true, Bool.false_or] at h2
    exact hmin _ (by simpa using h2)
  rw [hnil] at this; cases this

/-- the state while the head is under way -/
structure Under (P : Program) (c : Ctx) (hs : List HP) (e0 : Env) (all : Done) (m : Nat) (listed : Array Bool) (a : Act) (w : World) : Prop where
  df : a.defers = c.df
  sz : a.tmps.size = c.n
  st : ∃ S F, Sit c w S F ∧ Own hs F S w ∧ EnvOk e0 S w a.tmps ∧ ∀ j d q, (j, d, q) ∈ all → listed.getD j false = true → q.p S w (a.tmps.getD d undef)

theorem getD_put_ne {a : Act} {d t : Nat} {v : Value} (h : d ≠ t) : (a.put (some d) v).tmps.getD t undef = a.tmps.getD t undef := by
  simp only [Act.put, Array.getD_eq_getD_getElem?]
  rw [Array.getElem?_setIfInBounds_ne h]

theorem nodup_dst {l : List Oper} (hn : (dstsOf l).Nodup) (ha : ∀ o ∈ l, ∃ d, o.dst = some d) {i j : Nat} {oi oj : Oper} {d : Nat} (hi : l[i]? = some oi) (hj : l[j]? = some oj) (h1 : oi.dst = some d) (h2 : oj.dst = some d) : i = j := by
  induction l generalizing i j with
  | nil => simp at hi
  | cons x l ih =>
    obtain ⟨dx, hx⟩ := ha x (List.mem_cons_self ..)
    simp only [dstsOf, hx, List.nodup_cons] at hn
    cases i with
    | zero =>
      cases j with
      | zero => rfl
      | succ j =>
        simp at hi hj; subst hi
        rw [hx] at h1; cases h1
        have := mem_dsts hj h2
        exact absurd (by simpa using this) hn.1
    | succ i =>
      cases j with
      | zero =>
        simp at hi hj; subst hj
        rw [hx] at h2; cases h2
        have := mem_dsts hi h1
        exact absurd (by simpa using this) hn.1
      | succ j =>
        have := ih hn.2 (fun o ho => ha o (List.mem_cons_of_mem _ ho)) (i := i) (j := j) (by simpa using hi) (by simpa using hj)
        rw [this]

theorem wpAnyIn_of_seq {F : Fence} {n : Nat} {md : Region.Mode} {ops : Array Oper} {Q' : Exit → Act → World → Prop} : ∀ (l : List Oper) (k : Nat) (listed : Array Bool) (a : Act) (w : World), (∀ j, l[j]? = ops[k + j]?) →
    Region.seqB md ops l.length k listed = true → wpListIn F n P ops Q' l a w → wpAnyIn F n P md ops Q' l.length listed a w
  | [], _, _, _, _, _, hB, h => ⟨by simpa [Region.seqB] using hB, h⟩
  | o :: l, k, listed, a, w, hl, hB, h => by
    have h0 : ops[k]? = some o := by simpa using (hl 0).symm
    simp only [List.length_cons, Region.seqB, Bool.and_eq_true, decide_eq_true_eq] at hB
    refine ⟨fun h1 => (by rw [hB.1] at h1; cases h1), fun i hi => ?_⟩
    rw [hB.1] at hi
    have hik : i = k := by simpa using hi
    subst hik
    have hw : wpOpIn F n P ops Q' i (wpListIn F n P ops Q' l) a w := by unfold wpOpIn; simp only [h0]; exact h
    exact wpOpIn_mono (fun a' w' h' => wpAnyIn_of_seq l (i + 1) _ a' w' (fun j => by have := hl (j + 1); simpa [Nat.add_assoc, Nat.add_comm 1 j] using this) hB.2 h') hw
theorem draw_any {m g : Nat} {env : Env} {all : Done} (hB : drawB ops m g c.n = true) (h : DrawH P ops c.n hs (strip (dstsOf (ops.toList.take m)) env) 0 [] (ops.toList.take m) all)
    (ht : SeqT P ops Q c (ops.toList.drop m) hs (doneEnv all ++ env)) :
    ∀ (u : Nat) (listed : Array Bool) (a : Act) (w : World), count m listed = u → HeadInv .any ops m listed → Under P c hs (strip (dstsOf (ops.toList.take m)) env) all m listed a w → wpAnyIn (WF c.ro) 0 P .any ops Q (u + g) listed a w := by
  simp only [drawB, Bool.and_eq_true] at hB
  obtain ⟨⟨⟨⟨⟨hsum, hnd⟩, hds⟩, hback⟩, hsc⟩, hseq⟩ := hB
  have hsum' : m + g = ops.size := by simpa using hsum
  have hnd' : (dstsOf (ops.toList.take m)).Nodup := by simpa using hnd
  have hdst : ∀ o ∈ ops.toList.take m, ∃ d, o.dst = some d ∧ d < c.n := fun o ho => by
    have := List.all_eq_true.1 hds o ho
    cases hd : o.dst with
    | none => rw [hd] at this; cases this
    | some d => rw [hd] at this; exact ⟨d, rfl, by simpa using this⟩
  obtain ⟨new, hall, hrange, hspec⟩ := h.spec
  simp only [List.append_nil] at hall
  subst hall
  have hlen : (ops.toList.take m).length = m := by simp; omega
  intro u
  induction u with
  | zero =>
    intro listed a w hc inv hu
    rw [Nat.zero_add]
    have hl : listed = (List.replicate m true ++ List.replicate g false).toArray := by
      apply Array.ext
      · simp [inv.size]; omega
      · intro i h1 h2
        have hi : i < ops.size := by rw [← inv.size]; exact h1
        by_cases him : i < m
        · have := count_zero hc i him
          simp [h1] at this
          simp [him, this]
        · have := inv.tail i (by omega) hi
          simp [h1] at this
          simp [List.getElem_append, him, this]
    have hdl : (ops.toList.drop m).length = g := by simp; omega
    have hw : wpListIn (WF c.ro) 0 P ops Q (ops.toList.drop m) a w := by
      obtain ⟨S, F, h1, h2, h3, h4⟩ := hu.st
      refine ht a w ⟨hu.df, hu.sz, S, F, h1, h2, fun t q hl => ?_⟩
      rcases look_append2 hl with h5 | ⟨h6, h5⟩
      · obtain ⟨j, hj⟩ := look_doneEnv h5
        have := hrange j t q hj
        exact h4 j t q hj (count_zero hc j (by rw [hlen] at this; omega))
      · refine h3 t q (look_strip_of h5 ?_)
        cases hct : (dstsOf (ops.toList.take m)).contains t with
        | false => rfl
        | true =>
          obtain ⟨j, o, ho, hd⟩ := dsts_mem hct
          obtain ⟨d, q', dn, hm, hd', _⟩ := hspec j o ho
          rw [hd] at hd'; cases hd'
          exact absurd h6 (look_done_mem hm)
    have := wpAnyIn_of_seq (F := WF c.ro) (n := 0) (md := .any) (P := P) (ops := ops) (Q' := Q) (ops.toList.drop m) m listed a w (fun j => by simp [List.getElem?_drop]) (by rw [hdl, hl]; exact hseq) hw
    rwa [hdl] at this
  | succ u ih =>
    intro listed a w hc inv hu
    rw [show u + 1 + g = (u + g) + 1 by omega]
    refine ⟨fun h0 => absurd h0 (ready_least (by omega) inv.size hback (by omega)), fun i hi => ?_⟩
    have him : i < m := by
      rcases Nat.lt_or_ge i m with h | h
      · exact h
      · exfalso
        have hio : i < ops.size := by
          obtain ⟨_, o, ho, _⟩ := mem_ready.1 hi
          exact (Array.getElem?_eq_some_iff.1 ho).1
        have hg : Nat.beq g 0 = false := by
          cases hg : Nat.beq g 0
          · rfl
          · have : g = 0 := by simpa using hg
            omega
        rw [hg] at hsc
        simp only [Bool.false_or, Bool.and_eq_true] at hsc
        obtain ⟨k, hk1, hk2⟩ : ∃ k, k < m ∧ listed.getD k false = false := by
          cases hf : (List.range m).filter (fun i => !listed.getD i false) with
          | nil => rw [count, hf] at hc; simp at hc
          | cons x l =>
            have : x ∈ (List.range m).filter (fun i => !listed.getD i false) := by rw [hf]; exact List.mem_cons_self ..
            rw [List.mem_filter, List.mem_range] at this
            exact ⟨x, this.1, by simpa using this.2⟩
        exact tail_waits hsc.1 hsc.2 (by omega) inv _ k rfl hk1 (getD_in (by rw [inv.size]; omega) hk2) i h hi
    obtain ⟨hun, o, ho, haft⟩ := mem_ready.1 hi
    have hun' := getD_both hun
    have hol : (ops.toList.take m)[i]? = some o := by
      rw [List.getElem?_take, if_pos him]; simpa using ho
    obtain ⟨d, q, dn, hmem, hod, hop, hdn, huniq⟩ := hspec i o hol
    obtain ⟨d', hd', hdn'⟩ := hdst o (List.mem_of_getElem? hol)
    rw [hod] at hd'; cases hd'
    obtain ⟨S, F, h1, h2, h3, h4⟩ := hu.st
    have henv : EnvOk (avail o.after dn ++ strip (dstsOf (ops.toList.take m)) env) S w a.tmps := fun t x hx => by
      rcases look_append hx with h5 | h5
      · obtain ⟨j, hj, hw⟩ := look_avail h5
        refine h4 j t x (hdn _ hj) ?_
        unfold waits at hw
        obtain ⟨e, he, hb⟩ := List.any_eq_true.1 hw
        simp only [Bool.and_eq_true] at hb
        have : e.on = j := by simpa using hb.1
        rw [← this]; exact haft e (by simpa using he) hb.2
      · exact h3 t x h5
    unfold wpOpIn
    simp only [ho]
    have key := hop a w S F hu.sz h1.domS h1.domF h1.disj h2 henv (wpAnyIn (WF c.ro) 0 P .any ops Q (u + g) (listed.setIfInBounds i true)) Q (fun v w' S' gr hq => by
      refine ih _ _ _ ?_ (inv.set hi him) ⟨by rw [Act.defers_put]; exact hu.df, by rw [Act.size_put]; exact hu.sz, S', F, h1.grow gr, gr.owns h1.domS h1.domF h2, ?_, ?_⟩
      · have := count_set him hun' (by rw [inv.size]; omega); omega
      · intro t x hx
        have hne : d ≠ t := fun e => by
          subst e
          have := (look_strip hx).2
          rw [mem_dsts hol hod] at this; cases this
        rw [hod, getD_put_ne hne]
        exact gr.vp h1.domS (h3 t x hx)
      · intro j dj qj hmj hlj
        by_cases hij : j = i
        · subst hij
          obtain ⟨rfl, rfl⟩ := huniq j dj qj hmj (by omega) (by simp)
          rw [hod]
          have : dj < a.tmps.size := by rw [hu.sz]; exact hdn'
          simpa [Act.put, this] using hq
        · rw [getD_set_ne false (fun e => hij e.symm)] at hlj
          have hne : d ≠ dj := fun e => by
            subst e
            have hjr := hrange j d qj hmj
            have hjm : j < m := by rw [hlen] at hjr; omega
            obtain ⟨oj, hoj⟩ : ∃ oj, (ops.toList.take m)[j]? = some oj := ⟨_, List.getElem?_eq_getElem (by rw [hlen]; exact hjm)⟩
            obtain ⟨d2, q2, _, hm2, hod2, _, _, hu2⟩ := hspec j oj hoj
            obtain ⟨e1, e2⟩ := hu2 j d qj hmj (by omega) (by simp)
            subst e1
            exact hij (nodup_dst hnd' (fun o ho => ⟨_, (hdst o ho).choose_spec.1⟩) hoj hol hod2 hod)
          rw [hod, getD_put_ne hne]
          exact gr.vp h1.domS (h4 j dj qj hmj hlj))
    by_cases hw : Region.wanted o (yielded ops a.tmps) = true
    · rw [if_pos hw] at key ⊢; exact Oper.wp_in (OpG.noDefer hop hu.sz h1 h2 henv hw) key
    · rw [if_neg hw] at key ⊢; exact ⟨fun _ _ => trivial, key⟩

/-- a region that draws: m operations in whatever order, then the others in the text's -/
theorem CodeT.draw {l : List Oper} {id : Nat} {env : Env} {all : Done} (m g : Nat) (hm : P.follows .mixedOrders = true) (hB : drawB l.toArray m g c.n = true)
    (h : DrawH P l.toArray c.n hs (strip (dstsOf (l.take m)) env) 0 [] (l.take m) all)
    (ht : SeqT P l.toArray Q c (l.drop m) hs (doneEnv all ++ env)) : CodeT P Q c (.region id l.toArray true) hs env := by
  intro a w hst
  refine wpIn_region_any hm ?_
  obtain ⟨h1, h2, S, F, h3, h4, h5⟩ := hst
  have hsum : m + g = l.toArray.size := by
    simp only [drawB, Bool.and_eq_true] at hB
    simpa using hB.1.1.1.1.1
  have g0 := Grow.drew w S
  have key := draw_any (P := P) (Q := Q) (ops := l.toArray) (hs := hs) (c := c) (env := env) hB h ht m (Array.replicate l.toArray.size false) a { w with drawn := w.drawn + 1 } ?_ ?_ ?_
  · rw [hsum] at key; exact key
  · unfold count
    rw [List.filter_eq_self.2 (fun i hi => by rw [getD_replicate_false]; rfl)]
    simp
  · exact ⟨by simp, fun j oj _ hl => (by rw [getD_replicate_false] at hl; cases hl), fun t _ ht => getD_in (by simpa using ht) (getD_replicate_false _ _)⟩
  · exact ⟨h1, h2, S, F, h3.grow g0, g0.owns h3.domS h3.domF h4, fun t q hl => g0.vp h3.domS (h5 t q (look_strip hl).1), fun j d q _ hl => by rw [getD_replicate_false] at hl; cases hl⟩
end
end Go.Hl
