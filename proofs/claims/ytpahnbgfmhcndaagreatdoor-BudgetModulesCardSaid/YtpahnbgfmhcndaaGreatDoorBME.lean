/-
  What the statement's proof leans on, several texts in one (packed by a program).
-/
import Derived.Test.YtpahnbgfmhcndaaGreatDoorBMD
import Derived.StillTail
set_option linter.all false
set_option maxRecDepth 1000000
set_option maxHeartbeats 4000000
section
namespace Go.Hl
open Go.RowKit
abbrev Done := List (Nat × Nat × VP)
def waits (after : Array Edge) (j : Nat) : Bool := after.toList.any fun e => Nat.beq e.on j && Region.binds .any e
def avail (after : Array Edge) : Done → Env
 | [] => []
 | (j, d, q) :: r => bif waits after j then (d, q) :: avail after r else avail after r
def doneEnv : Done → Env
 | [] => []
 | (_, d, q) :: r => (d, q) :: doneEnv r
def strip (ds : List Nat) : Env → Env
 | [] => []
 | (t, q) :: r => bif ds.contains t then strip ds r else (t, q) :: strip ds r
def dstsOf : List Oper → List Nat
 | [] => []
 | o :: l => match o.dst with | some d => d :: dstsOf l | none => dstsOf l
def DrawH (P : Program) (ops : Array Oper) (n : Nat) (hs : List HP) (e0 : Env) : Nat → Done → List Oper → Done → Prop
 | _, done, [], all => done = all
 | i, done, o :: l, all => ∃ d q, o.dst = some d ∧ OpG P ops n hs (avail o.after done ++ e0) o q ∧ DrawH P ops n hs e0 (i + 1) ((i, d, q) :: done) l all
section
variable {P : Program} {ops : Array Oper} {n : Nat} {hs : List HP} {e0 : Env} {Q : Exit → Act → World → Prop} {c : Ctx}
theorem DrawH.nil {i : Nat} {done : Done} : DrawH P ops n hs e0 i done [] done := rfl
theorem DrawH.cons {i : Nat} {done all : Done} {d : Tmp} {q : VP} {op : Op} {ty : TypeId} {pos : String} {after : Array Edge} {gd : Option (Nat × Bool)} {l : List Oper}
    (h : OpG P ops n hs (avail after done ++ e0) ⟨some d, op, ty, pos, after, gd⟩ q) (k : DrawH P ops n hs e0 (i + 1) ((i, d, q) :: done) l all) : DrawH P ops n hs e0 i done (⟨some d, op, ty, pos, after, gd⟩ :: l) all :=
  ⟨d, q, rfl, h, k⟩
theorem DrawH.p {i : Nat} {done all : Done} {d : Tmp} {q : VP} {op : Op} {ty : TypeId} {pos : String} {after : Array Edge} {l : List Oper}
    (h : OpP P hs (avail after done ++ e0) ⟨some d, op, ty, pos, after, none⟩ q) (k : DrawH P ops n hs e0 (i + 1) ((i, d, q) :: done) l all) : DrawH P ops n hs e0 i done (⟨some d, op, ty, pos, after, none⟩ :: l) all :=
  ⟨d, q, rfl, OpG.plain h rfl, k⟩
theorem look_append {a b : Env} {t : Nat} {q : VP} (h : look (a ++ b) t = some q) : look a t = some q ∨ look b t = some q := by
 induction a with
 | nil => exact .inr h
 | cons p a ih =>
  obtain ⟨s, x⟩ := p
  rw [List.cons_append, look_cons] at h
  rw [look_cons]
  by_cases e : s = t
  · rw [if_pos e] at h ⊢; exact .inl h
  · rw [if_neg e] at h ⊢; exact ih h
theorem look_avail {after : Array Edge} {done : Done} {t : Nat} {q : VP} (h : look (avail after done) t = some q) : ∃ j, (j, t, q) ∈ done ∧ waits after j = true := by
 induction done with
 | nil => cases h
 | cons p done ih =>
  obtain ⟨j, d, x⟩ := p
  simp only [avail] at h
  cases hw : waits after j with
  | false => rw [hw] at h; obtain ⟨j', h1, h2⟩ := ih (by simpa using h); exact ⟨j', List.mem_cons_of_mem _ h1, h2⟩
  | true =>
   rw [hw] at h
   simp only [cond_true, look_cons] at h
   by_cases e : d = t
   · rw [if_pos e] at h; cases h; subst e; exact ⟨j, List.mem_cons_self .., hw⟩
   · rw [if_neg e] at h; obtain ⟨j', h1, h2⟩ := ih h; exact ⟨j', List.mem_cons_of_mem _ h1, h2⟩
theorem look_doneEnv {done : Done} {t : Nat} {q : VP} (h : look (doneEnv done) t = some q) : ∃ j, (j, t, q) ∈ done := by
 induction done with
 | nil => cases h
 | cons p done ih =>
  obtain ⟨j, d, x⟩ := p
  simp only [doneEnv, look_cons] at h
  by_cases e : d = t
  · rw [if_pos e] at h; cases h; subst e; exact ⟨j, List.mem_cons_self ..⟩
  · rw [if_neg e] at h; obtain ⟨j', h1⟩ := ih h; exact ⟨j', List.mem_cons_of_mem _ h1⟩
theorem look_strip {ds : List Nat} {e : Env} {t : Nat} {q : VP} (h : look (strip ds e) t = some q) : look e t = some q ∧ ds.contains t = false := by
 induction e with
 | nil => cases h
 | cons p e ih =>
  obtain ⟨s, x⟩ := p
  simp only [strip] at h
  cases hc : ds.contains s with
  | true =>
   rw [hc] at h
   obtain ⟨h1, h2⟩ := ih (by simpa using h)
   have hne : s ≠ t := fun e => by subst e; rw [hc] at h2; cases h2
   exact ⟨by rw [look_cons, if_neg hne]; exact h1, h2⟩
  | false =>
   rw [hc] at h
   simp only [cond_false, look_cons] at h
   rw [look_cons]
   by_cases e : s = t
   · rw [if_pos e] at h ⊢; subst e; exact ⟨h, hc⟩
   · rw [if_neg e] at h ⊢; exact ih h
theorem look_append2 {a b : Env} {t : Nat} {q : VP} (h : look (a ++ b) t = some q) : look a t = some q ∨ (look a t = none ∧ look b t = some q) := by
 induction a with
 | nil => exact .inr ⟨rfl, h⟩
 | cons p a ih =>
  obtain ⟨s, x⟩ := p
  rw [List.cons_append, look_cons] at h
  rw [look_cons]
  by_cases e : s = t
  · rw [if_pos e] at h ⊢; exact .inl h
  · rw [if_neg e] at h ⊢; exact ih h
theorem look_done_mem {done : Done} {j d : Nat} {q : VP} (h : (j, d, q) ∈ done) : look (doneEnv done) d ≠ none := by
 induction done with
 | nil => cases h
 | cons p done ih =>
  obtain ⟨j', d', q'⟩ := p
  simp only [doneEnv, look_cons]
  by_cases e : d' = d
  · rw [if_pos e]; simp
  · rw [if_neg e]
    rcases List.mem_cons.1 h with h | h
    · cases h; exact absurd rfl e
    · exact ih h
theorem look_strip_of {ds : List Nat} {e : Env} {t : Nat} {q : VP} (h : look e t = some q) (hc : ds.contains t = false) : look (strip ds e) t = some q := by
 induction e with
 | nil => cases h
 | cons p e ih =>
  obtain ⟨s, x⟩ := p
  rw [look_cons] at h
  simp only [strip]
  by_cases e1 : s = t
  · rw [if_pos e1] at h; subst e1; rw [hc]; simp only [cond_false, look_cons, if_true]; exact h
  · rw [if_neg e1] at h
    cases hs : ds.contains s with
    | true => simp only [cond_true]; exact ih h
    | false => simp only [cond_false, look_cons, if_neg e1]; exact ih h
theorem dsts_mem {l : List Oper} {d : Nat} (h : (dstsOf l).contains d = true) : ∃ (j : Nat) (o : Oper), l[j]? = some o ∧ o.dst = some d := by
 induction l with
 | nil => simp [dstsOf] at h
 | cons o l ih =>
  simp only [dstsOf] at h
  cases ho : o.dst with
  | none =>
   rw [ho] at h; obtain ⟨j, o', h1, h2⟩ := ih h; exact ⟨j + 1, o', by simpa using h1, h2⟩
  | some d' =>
   rw [ho] at h
   simp only [List.contains_cons, Bool.or_eq_true, beq_iff_eq] at h
   rcases h with h | h
   · exact ⟨0, o, rfl, by rw [ho, h]⟩
   · obtain ⟨j, o', h1, h2⟩ := ih h; exact ⟨j + 1, o', by simpa using h1, h2⟩
theorem mem_dsts {l : List Oper} {j : Nat} {o : Oper} {d : Nat} (h : l[j]? = some o) (hd : o.dst = some d) : (dstsOf l).contains d = true := by
 induction l generalizing j with
 | nil => simp at h
 | cons x l ih =>
  cases j with
  | zero => simp at h; subst h; simp [dstsOf, hd]
  | succ j =>
   have := ih (j := j) (by simpa using h)
   simp only [dstsOf]
   split
   · simp only [List.contains_cons, this, Bool.or_true]
   · exact this
theorem DrawH.spec {l : List Oper} {i : Nat} {done all : Done} (h : DrawH P ops n hs e0 i done l all) :
    ∃ new : Done, all = new ++ done ∧ (∀ j d q, (j, d, q) ∈ new → i ≤ j ∧ j < i + l.length) ∧ ∀ j o, l[j]? = some o → ∃ d q dn, (i + j, d, q) ∈ new ∧ o.dst = some d ∧ OpG P ops n hs (avail o.after dn ++ e0) o q ∧
      (∀ x, x ∈ dn → x ∈ all) ∧ (∀ j' d' q', (j', d', q') ∈ all → j' = i + j → (∀ x ∈ done, x.1 < i) → d' = d ∧ q' = q) := by
  induction l generalizing i done with
  | nil => exact ⟨[], by simp [DrawH] at h; exact h.symm, by simp, by simp⟩
  | cons o l ih =>
    obtain ⟨d, q, hd, hop, hr⟩ := h
    obtain ⟨new, h1, h2, h3⟩ := ih hr
    refine ⟨new ++ [(i, d, q)], by simp [h1], ?_, ?_⟩
    · intro j d' q' hm
      rcases List.mem_append.1 hm with hm | hm
      · have := h2 j d' q' hm; simp; omega
      · simp at hm; obtain ⟨rfl, _, _⟩ := hm; simp
    · intro j o' ho
      cases j with
      | zero =>
        simp at ho; subst ho
        refine ⟨d, q, done, by simp, hd, hop, fun x hx => by rw [h1]; simp [hx], ?_⟩
        intro j' d' q' hm hj hdone
        rw [h1] at hm
        rcases List.mem_append.1 hm with hm | hm
        · have := h2 _ _ _ hm; omega
        · rcases List.mem_cons.1 hm with hm | hm
          · cases hm; exact ⟨rfl, rfl⟩
          · have := hdone _ hm; simp at this; omega
      | succ j =>
        obtain ⟨d1, q1, dn, g1, g2, g3, g4, g5⟩ := h3 j o' (by simpa using ho)
        refine ⟨d1, q1, dn, by rw [show i + (j + 1) = i + 1 + j by omega]; simp [g1], g2, g3, g4, fun j' d' q' hm hj hdone => g5 j' d' q' hm (by omega) ?_⟩
        intro x hx
        rcases List.mem_cons.1 hx with hx | hx
        · subst hx; simp
        · have := hdone x hx; omega
def drawB (ops : Array Oper) (m g n : Nat) : Bool :=
 Nat.beq (m + g) ops.size && (dstsOf (ops.toList.take m)).Nodup && (ops.toList.take m).all (fun o => match o.dst with | some d => Nat.blt d n | none => false) &&
 (List.range m).all (fun i => match ops[i]? with | some o => o.after.toList.all (fun e => !Region.binds .any e || Nat.blt e.on i) | none => false) &&
 (Nat.beq g 0 || (Region.sinkB .any ops m && Region.chainB .any ops m)) && Region.seqB .any ops g m ((List.replicate m true ++ List.replicate g false).toArray)
def count (m : Nat) (listed : Array Bool) : Nat := ((List.range m).filter fun i => !listed.getD i false).length
theorem count_zero {m : Nat} {listed : Array Bool} (h : count m listed = 0) : ∀ i, i < m → listed.getD i false = true := by
 intro i hi
 have h0 : (List.range m).filter (fun i => !listed.getD i false) = [] := List.length_eq_zero_iff.1 h
 have := List.filter_eq_nil_iff.1 h0 i (List.mem_range.2 hi)
 simpa using this
theorem filter_len_set (l : List Nat) (hn : l.Nodup) (listed : Array Bool) (i : Nat) (hi : i ∈ l) (hu : listed.getD i false = false) (hs : i < listed.size) :
    (l.filter fun j => !(listed.setIfInBounds i true).getD j false).length + 1 = (l.filter fun j => !listed.getD j false).length := by
  induction l with
  | nil => cases hi
  | cons x l ih =>
    rw [List.nodup_cons] at hn
    rcases List.mem_cons.1 hi with he | hm
    · subst he
      have h1 : (listed.setIfInBounds i true).getD i false = true := by simp [hs]
      have h2 : l.filter (fun j => !(listed.setIfInBounds i true).getD j false) = l.filter (fun j => !listed.getD j false) := by
        apply List.filter_congr
        intro j hj
        have hne : i ≠ j := fun e => hn.1 (e ▸ hj)
        rw [getD_set_ne false hne]
      simp only [List.filter_cons, h1, hu, h2]; simp
    · have hne : i ≠ x := fun e => hn.1 (e ▸ hm)
      have := ih hn.2 hm
      simp only [List.filter_cons, getD_set_ne false hne]
      split
      · simp only [List.length_cons]; omega
      · exact this
theorem count_set {m : Nat} {listed : Array Bool} {i : Nat} (hi : i < m) (hu : listed.getD i false = false) (hs : i < listed.size) : count m (listed.setIfInBounds i true) + 1 = count m listed :=
 filter_len_set (List.range m) List.nodup_range listed i (List.mem_range.2 hi) hu hs
theorem ready_least {ops : Array Oper} {m : Nat} {listed : Array Bool} (hm : m ≤ ops.size) (hsz : listed.size = ops.size) (hb : (List.range m).all (fun i => match ops[i]? with | some o => o.after.toList.all (fun e => !Region.binds .any e || Nat.blt e.on i) | none => false) = true)
    (h : count m listed ≠ 0) : Region.ready .any ops listed ≠ [] := by
  have hex : ∃ i, i < m ∧ listed.getD i false = false := by
    cases hf : (List.range m).filter (fun i => !listed.getD i false) with
    | nil => exact absurd (by unfold count; rw [hf]; rfl) h
    | cons x l =>
      have : x ∈ (List.range m).filter (fun i => !listed.getD i false) := by rw [hf]; exact List.mem_cons_self ..
      rw [List.mem_filter, List.mem_range] at this
      exact ⟨x, this.1, by simpa using this.2⟩
  obtain ⟨i, hi, hu, hmin⟩ : ∃ i, i < m ∧ listed.getD i false = false ∧ ∀ j, j < i → listed.getD j false = true := by
    obtain ⟨i, hi⟩ := hex
    induction i using Nat.strongRecOn with
    | _ i ih =>
      by_cases hc : ∃ j, j < i ∧ listed.getD j false = false
      · obtain ⟨j, hj, hju⟩ := hc; exact ih j hj ⟨by omega, hju⟩
      · exact ⟨i, hi.1, hi.2, fun j hj => by
          cases hl : listed.getD j false
          · exact (hc ⟨j, hj, hl⟩).elim
          · rfl⟩
  have hio : i < ops.size := by omega
  intro hnil
  have : i ∈ Region.ready .any ops listed := by
    rw [mem_ready]
    refine ⟨getD_in (by rw [hsz]; exact hio) hu, ops[i], by simp [hio], fun e he hbi => ?_⟩
    have h1 := List.all_eq_true.1 hb i (List.mem_range.2 hi)
    simp only [Array.getElem?_eq_getElem hio] at h1
    have h2 := List.all_eq_true.1 h1 e (by simpa using he)
    simp only [hbi, Bool.not_true, Bool.false_or] at h2
    exact hmin _ (by simpa using h2)
  rw [hnil] at this; cases this
structure Under (P : Program) (c : Ctx) (hs : List HP) (e0 : Env) (all : Done) (m : Nat) (listed : Array Bool) (a : Act) (w : World) : Prop where
 df : a.defers = c.df
 sz : a.tmps.size = c.n
 st : ∃ S F, Sit c w S F ∧ Own hs F S w ∧ EnvOk e0 S w a.tmps ∧ ∀ j d q, (j, d, q) ∈ all → listed.getD j false = true → q.p S w (a.tmps.getD d undef)
theorem getD_put_ne {a : Act} {d t : Nat} {v : Value} (h : d ≠ t) : (a.put (some d) v).tmps.getD t undef = a.tmps.getD t undef := by
 simp only [Act.put, Array.getD_eq_getD_getElem?]
 rw [Array.getElem?_setIfInBounds_ne h]
theorem nodup_dst {l : List Oper} (hn : (dstsOf l).Nodup) (ha : ∀ o ∈ l, ∃ d, o.dst = some d) {i j : Nat} {oi oj : Oper} {d : Nat} (hi : l[i]? = some oi) (hj : l[j]? = some oj) (h1 : oi.dst = some d) (h2 : oj.dst = some d) : i = j := by
 induction l generalizing i j with
 | nil => simp at hi
 | cons x l ih =>
  obtain ⟨dx, hx⟩ := ha x (List.mem_cons_self ..)
  simp only [dstsOf, hx, List.nodup_cons] at hn
  cases i with
  | zero =>
   cases j with
   | zero => rfl
   | succ j =>
    simp at hi hj; subst hi
    rw [hx] at h1; cases h1
    have := mem_dsts hj h2
    exact absurd (by simpa using this) hn.1
  | succ i =>
   cases j with
   | zero =>
    simp at hi hj; subst hj
    rw [hx] at h2; cases h2
    have := mem_dsts hi h1
    exact absurd (by simpa using this) hn.1
   | succ j =>
    have := ih hn.2 (fun o ho => ha o (List.mem_cons_of_mem _ ho)) (i := i) (j := j) (by simpa using hi) (by simpa using hj)
    rw [this]
theorem wpAnyIn_of_seq {F : Fence} {n : Nat} {md : Region.Mode} {ops : Array Oper} {Q' : Exit → Act → World → Prop} : ∀ (l : List Oper) (k : Nat) (listed : Array Bool) (a : Act) (w : World), (∀ j, l[j]? = ops[k + j]?) →
    Region.seqB md ops l.length k listed = true → wpListIn F n P ops Q' l a w → wpAnyIn F n P md ops Q' l.length listed a w
  | [], _, _, _, _, _, hB, h => ⟨by simpa [Region.seqB] using hB, h⟩
  | o :: l, k, listed, a, w, hl, hB, h => by
    have h0 : ops[k]? = some o := by simpa using (hl 0).symm
    simp only [List.length_cons, Region.seqB, Bool.and_eq_true, decide_eq_true_eq] at hB
    refine ⟨fun h1 => (by rw [hB.1] at h1; cases h1), fun i hi => ?_⟩
    rw [hB.1] at hi
    have hik : i = k := by simpa using hi
    subst hik
    have hw : wpOpIn F n P ops Q' i (wpListIn F n P ops Q' l) a w := by unfold wpOpIn; simp only [h0]; exact h
    exact wpOpIn_mono (fun a' w' h' => wpAnyIn_of_seq l (i + 1) _ a' w' (fun j => by have := hl (j + 1); simpa [Nat.add_assoc, Nat.add_comm 1 j] using this) hB.2 h') hw
theorem draw_any {m g : Nat} {env : Env} {all : Done} (hB : drawB ops m g c.n = true) (h : DrawH P ops c.n hs (strip (dstsOf (ops.toList.take m)) env) 0 [] (ops.toList.take m) all)
    (ht : SeqT P ops Q c (ops.toList.drop m) hs (doneEnv all ++ env)) :
    ∀ (u : Nat) (listed : Array Bool) (a : Act) (w : World), count m listed = u → HeadInv .any ops m listed → Under P c hs (strip (dstsOf (ops.toList.take m)) env) all m listed a w → wpAnyIn (WF c.ro) 0 P .any ops Q (u + g) listed a w := by
  simp only [drawB, Bool.and_eq_true] at hB
  obtain ⟨⟨⟨⟨⟨hsum, hnd⟩, hds⟩, hback⟩, hsc⟩, hseq⟩ := hB
  have hsum' : m + g = ops.size := by simpa using hsum
  have hnd' : (dstsOf (ops.toList.take m)).Nodup := by simpa using hnd
  have hdst : ∀ o ∈ ops.toList.take m, ∃ d, o.dst = some d ∧ d < c.n := fun o ho => by
    have := List.all_eq_true.1 hds o ho
    cases hd : o.dst with
    | none => rw [hd] at this; cases this
    | some d => rw [hd] at this; exact ⟨d, rfl, by simpa using this⟩
  obtain ⟨new, hall, hrange, hspec⟩ := h.spec
  simp only [List.append_nil] at hall
  subst hall
  have hlen : (ops.toList.take m).length = m := by simp; omega
  intro u
  induction u with
  | zero =>
    intro listed a w hc inv hu
    rw [Nat.zero_add]
    have hl : listed = (List.replicate m true ++ List.replicate g false).toArray := by
      apply Array.ext
      · simp [inv.size]; omega
      · intro i h1 h2
        have hi : i < ops.size := by rw [← inv.size]; exact h1
        by_cases him : i < m
        · have := count_zero hc i him
          simp [h1] at this
          simp [him, this]
        · have := inv.tail i (by omega) hi
          simp [h1] at this
          simp [List.getElem_append, him, this]
    have hdl : (ops.toList.drop m).length = g := by simp; omega
    have hw : wpListIn (WF c.ro) 0 P ops Q (ops.toList.drop m) a w := by
      obtain ⟨S, F, h1, h2, h3, h4⟩ := hu.st
      refine ht a w ⟨hu.df, hu.sz, S, F, h1, h2, fun t q hl => ?_⟩
      rcases look_append2 hl with h5 | ⟨h6, h5⟩
      · obtain ⟨j, hj⟩ := look_doneEnv h5
        have := hrange j t q hj
        exact h4 j t q hj (count_zero hc j (by rw [hlen] at this; omega))
      · refine h3 t q (look_strip_of h5 ?_)
        cases hct : (dstsOf (ops.toList.take m)).contains t with
        | false => rfl
        | true =>
          obtain ⟨j, o, ho, hd⟩ := dsts_mem hct
          obtain ⟨d, q', dn, hm, hd', _⟩ := hspec j o ho
          rw [hd] at hd'; cases hd'
          exact absurd h6 (look_done_mem hm)
    have := wpAnyIn_of_seq (F := WF c.ro) (n := 0) (md := .any) (P := P) (ops := ops) (Q' := Q) (ops.toList.drop m) m listed a w (fun j => by simp [List.getElem?_drop]) (by rw [hdl, hl]; exact hseq) hw
    rwa [hdl] at this
  | succ u ih =>
    intro listed a w hc inv hu
    rw [show u + 1 + g = (u + g) + 1 by omega]
    refine ⟨fun h0 => absurd h0 (ready_least (by omega) inv.size hback (by omega)), fun i hi => ?_⟩
    have him : i < m := by
      rcases Nat.lt_or_ge i m with h | h
      · exact h
      · exfalso
        have hio : i < ops.size := by
          obtain ⟨_, o, ho, _⟩ := mem_ready.1 hi
          exact (Array.getElem?_eq_some_iff.1 ho).1
        have hg : Nat.beq g 0 = false := by
          cases hg : Nat.beq g 0
          · rfl
          · have : g = 0 := by simpa using hg
            omega
        rw [hg] at hsc
        simp only [Bool.false_or, Bool.and_eq_true] at hsc
        obtain ⟨k, hk1, hk2⟩ : ∃ k, k < m ∧ listed.getD k false = false := by
          cases hf : (List.range m).filter (fun i => !listed.getD i false) with
          | nil => rw [count, hf] at hc; simp at hc
          | cons x l =>
            have : x ∈ (List.range m).filter (fun i => !listed.getD i false) := by rw [hf]; exact List.mem_cons_self ..
            rw [List.mem_filter, List.mem_range] at this
            exact ⟨x, this.1, by simpa using this.2⟩
        exact tail_waits hsc.1 hsc.2 (by omega) inv _ k rfl hk1 (getD_in (by rw [inv.size]; omega) hk2) i h hi
    obtain ⟨hun, o, ho, haft⟩ := mem_ready.1 hi
    have hun' := getD_both hun
    have hol : (ops.toList.take m)[i]? = some o := by
      rw [List.getElem?_take, if_pos him]; simpa using ho
    obtain ⟨d, q, dn, hmem, hod, hop, hdn, huniq⟩ := hspec i o hol
    obtain ⟨d', hd', hdn'⟩ := hdst o (List.mem_of_getElem? hol)
    rw [hod] at hd'; cases hd'
    obtain ⟨S, F, h1, h2, h3, h4⟩ := hu.st
    have henv : EnvOk (avail o.after dn ++ strip (dstsOf (ops.toList.take m)) env) S w a.tmps := fun t x hx => by
      rcases look_append hx with h5 | h5
      · obtain ⟨j, hj, hw⟩ := look_avail h5
        refine h4 j t x (hdn _ hj) ?_
        unfold waits at hw
        obtain ⟨e, he, hb⟩ := List.any_eq_true.1 hw
        simp only [Bool.and_eq_true] at hb
        have : e.on = j := by simpa using hb.1
        rw [← this]; exact haft e (by simpa using he) hb.2
      · exact h3 t x h5
    unfold wpOpIn
    simp only [ho]
    have key := hop a w S F hu.sz h1.domS h1.domF h1.disj h2 henv (wpAnyIn (WF c.ro) 0 P .any ops Q (u + g) (listed.setIfInBounds i true)) Q (fun v w' S' gr hq => by
      refine ih _ _ _ ?_ (inv.set hi him) ⟨by rw [Act.defers_put]; exact hu.df, by rw [Act.size_put]; exact hu.sz, S', F, h1.grow gr, gr.owns h1.domS h1.domF h2, ?_, ?_⟩
      · have := count_set him hun' (by rw [inv.size]; omega); omega
      · intro t x hx
        have hne : d ≠ t := fun e => by
          subst e
          have := (look_strip hx).2
          rw [mem_dsts hol hod] at this; cases this
        rw [hod, getD_put_ne hne]
        exact gr.vp h1.domS (h3 t x hx)
      · intro j dj qj hmj hlj
        by_cases hij : j = i
        · subst hij
          obtain ⟨rfl, rfl⟩ := huniq j dj qj hmj (by omega) (by simp)
          rw [hod]
          have : dj < a.tmps.size := by rw [hu.sz]; exact hdn'
          simpa [Act.put, this] using hq
        · rw [getD_set_ne false (fun e => hij e.symm)] at hlj
          have hne : d ≠ dj := fun e => by
            subst e
            have hjr := hrange j d qj hmj
            have hjm : j < m := by rw [hlen] at hjr; omega
            obtain ⟨oj, hoj⟩ : ∃ oj, (ops.toList.take m)[j]? = some oj := ⟨_, List.getElem?_eq_getElem (by rw [hlen]; exact hjm)⟩
            obtain ⟨d2, q2, _, hm2, hod2, _, _, hu2⟩ := hspec j oj hoj
            obtain ⟨e1, e2⟩ := hu2 j d qj hmj (by omega) (by simp)
            subst e1
            exact hij (nodup_dst hnd' (fun o ho => ⟨_, (hdst o ho).choose_spec.1⟩) hoj hol hod2 hod)
          rw [hod, getD_put_ne hne]
          exact gr.vp h1.domS (h4 j dj qj hmj hlj))
    by_cases hw : Region.wanted o (yielded ops a.tmps) = true
    · rw [if_pos hw] at key ⊢; exact Oper.wp_in (OpG.noDefer hop hu.sz h1 h2 henv hw) key
    · rw [if_neg hw] at key ⊢; exact ⟨fun _ _ => trivial, key⟩
theorem CodeT.draw {l : List Oper} {id : Nat} {env : Env} {all : Done} (m g : Nat) (hm : P.follows .mixedOrders = true) (hB : drawB l.toArray m g c.n = true)
    (h : DrawH P l.toArray c.n hs (strip (dstsOf (l.take m)) env) 0 [] (l.take m) all)
    (ht : SeqT P l.toArray Q c (l.drop m) hs (doneEnv all ++ env)) : CodeT P Q c (.region id l.toArray true) hs env := by
  intro a w hst
  refine wpIn_region_any hm ?_
  obtain ⟨h1, h2, S, F, h3, h4, h5⟩ := hst
  have hsum : m + g = l.toArray.size := by
    simp only [drawB, Bool.and_eq_true] at hB
    simpa using hB.1.1.1.1.1
  have g0 := Grow.drew w S
  have key := draw_any (P := P) (Q := Q) (ops := l.toArray) (hs := hs) (c := c) (env := env) hB h ht m (Array.replicate l.toArray.size false) a { w with drawn := w.drawn + 1 } ?_ ?_ ?_
  · rw [hsum] at key; exact key
  · unfold count
    rw [List.filter_eq_self.2 (fun i hi => by rw [getD_replicate_false]; rfl)]
    simp
  · exact ⟨by simp, fun j oj _ hl => (by rw [getD_replicate_false] at hl; cases hl), fun t _ ht => getD_in (by simpa using ht) (getD_replicate_false _ _)⟩
  · exact ⟨h1, h2, S, F, h3.grow g0, g0.owns h3.domS h3.domF h4, fun t q hl => g0.vp h3.domS (h5 t q (look_strip hl).1), fun j d q _ hl => by rw [getD_replicate_false] at hl; cases hl⟩
end
def needB (ops : Array Oper) : Nat → Nat → Nat → Bool
 | 0, _, _ => false
 | f + 1, i, j => match ops[i]? with
  | some o => o.after.toList.any fun e => Region.binds .any e && (Nat.beq e.on j || needB ops f e.on j)
  | none => false
theorem needB_listed {ops : Array Oper} {m : Nat} {listed : Array Bool} (inv : HeadInv .any ops m listed) : ∀ (f i j : Nat), (∀ o, ops[i]? = some o → ∀ e ∈ o.after, Region.binds .any e = true → listed.getD e.on false = true) → needB ops f i j = true → listed.getD j false = true
 | 0, _, _, _, h => by simp [needB] at h
 | f + 1, i, j, hi, h => by
  simp only [needB] at h
  cases ho : ops[i]? with
  | none => rw [ho] at h; cases h
  | some o =>
   rw [ho] at h
   obtain ⟨e, he, hb⟩ := List.any_eq_true.1 h
   simp only [Bool.and_eq_true, Bool.or_eq_true] at hb
   have hl := hi o ho e (by simpa using he) hb.1
   rcases hb.2 with h1 | h1
   · have : e.on = j := by simpa using h1
     rw [← this]; exact hl
   · exact needB_listed inv f e.on j (fun o' ho' e' he' hb' => inv.closed _ o' ho' hl e' he' hb') h1
def OLe (hs hs' : List HP) : Prop := ∀ F S w, Own hs F S w → Own hs' F S w
theorem OpG.own {P : Program} {ops : Array Oper} {n : Nat} {hs hs' : List HP} {env : Env} {o : Oper} {q : VP} (h : OpG P ops n hs env o q) (hl : OLe hs' hs) : OpG P ops n hs' env o q :=
 fun a w S F h1 h2 h3 h4 h5 => h a w S F h1 h2 h3 h4 (hl _ _ _ h5)
def unV : VP := ⟨fun _ _ _ => True, fun _ _ _ => trivial⟩
def DrawS (P : Program) (l : List Oper) (n : Nat) (e0 : Env) (T : Done → List HP → Prop) : List (Nat × Nat) → Done → List HP → Prop
 | [], done, hs => T done hs
 | (i, 0) :: r, done, hs => ∃ o d q, l[i]? = some o ∧ o.dst = some d ∧ (∀ hs', OpG P l.toArray n hs' (avail o.after done ++ e0) o q) ∧ DrawS P l n e0 T r ((i, d, q) :: done) hs
 | (i, 1) :: r, done, hs => ∃ o d q, l[i]? = some o ∧ o.dst = some d ∧ OpG P l.toArray n hs (avail o.after done ++ e0) o q ∧ DrawS P l n e0 T r ((i, d, q) :: done) hs
 | (i, 2) :: r, done, hs => ∃ (o : Oper) (d : Tmp), l[i]? = some o ∧ o.dst = some d ∧ o.guard = none ∧ ∃ (γ : Type) (φ : γ → Prop) (hs' : γ → List HP) (q : γ → VP), OpE P hs (avail o.after done ++ e0) o φ hs' q ∧ ∀ g, φ g → DrawS P l n e0 T r ((i, d, q g) :: done) (hs' g)
 | (i, 3) :: r, done, hs => ∃ (o : Oper), l[i]? = some o ∧ o.dst = none ∧ o.guard = none ∧ ∃ (γ : Type) (φ : γ → Prop) (hs' : γ → List HP) (q : γ → VP), OpE P hs (avail o.after done ++ e0) o φ hs' q ∧ ∀ g, φ g → DrawS P l n e0 T r ((i, n, unV) :: done) (hs' g)
 | (i, 4) :: r, done, hs => ∃ (o : Oper) (d : Tmp), l[i]? = some o ∧ o.dst = some d ∧ o.guard = none ∧ ∃ (γ : Type) (φ : γ → Prop) (hs' : γ → List HP) (q : γ → VP), OpE P hs (avail o.after done ++ e0) o φ hs' q ∧ (∀ g, φ g → OLe (hs' g) hs) ∧ ∀ g, φ g → DrawS P l n e0 T r ((i, d, q g) :: done) (hs' g)
 | (_, _ + 5) :: _, _, _ => False
section
variable {P : Program} {l : List Oper} {n : Nat} {hs : List HP} {e0 : Env} {T : Done → List HP → Prop} {Q : Exit → Act → World → Prop} {c : Ctx} {done : Done} {r : List (Nat × Nat)} {i : Nat}
theorem DrawS.p {d : Tmp} {q : VP} {op : Op} {ty : TypeId} {pos : String} {after : Array Edge} (ho : l[i]? = some ⟨some d, op, ty, pos, after, none⟩)
    (h : ∀ hs', OpP P hs' (avail after done ++ e0) ⟨some d, op, ty, pos, after, none⟩ q) (k : DrawS P l n e0 T r ((i, d, q) :: done) hs) : DrawS P l n e0 T ((i, 0) :: r) done hs :=
  ⟨_, d, q, ho, rfl, fun hs' => OpG.plain (h hs') rfl, k⟩
theorem DrawS.g {d : Tmp} {q : VP} {op : Op} {ty : TypeId} {pos : String} {after : Array Edge} {gd : Option (Nat × Bool)} (ho : l[i]? = some ⟨some d, op, ty, pos, after, gd⟩)
    (h : ∀ hs', OpG P l.toArray n hs' (avail after done ++ e0) ⟨some d, op, ty, pos, after, gd⟩ q) (k : DrawS P l n e0 T r ((i, d, q) :: done) hs) : DrawS P l n e0 T ((i, 0) :: r) done hs :=
  ⟨_, d, q, ho, rfl, h, k⟩
theorem DrawS.o {d : Tmp} {q : VP} {op : Op} {ty : TypeId} {pos : String} {after : Array Edge} (ho : l[i]? = some ⟨some d, op, ty, pos, after, none⟩)
    (h : OpP P hs (avail after done ++ e0) ⟨some d, op, ty, pos, after, none⟩ q) (k : DrawS P l n e0 T r ((i, d, q) :: done) hs) : DrawS P l n e0 T ((i, 1) :: r) done hs :=
  ⟨_, d, q, ho, rfl, OpG.plain h rfl, k⟩
theorem DrawS.e {d : Tmp} {op : Op} {ty : TypeId} {pos : String} {after : Array Edge} {γ : Type} {φ : γ → Prop} {hs' : γ → List HP} {q : γ → VP} (ho : l[i]? = some ⟨some d, op, ty, pos, after, none⟩)
    (h : OpE P hs (avail after done ++ e0) ⟨some d, op, ty, pos, after, none⟩ φ hs' q) (k : ∀ g, φ g → DrawS P l n e0 T r ((i, d, q g) :: done) (hs' g)) : DrawS P l n e0 T ((i, 2) :: r) done hs :=
  ⟨_, d, ho, rfl, rfl, γ, φ, hs', q, h, k⟩
theorem DrawS.a {d : Tmp} {op : Op} {ty : TypeId} {pos : String} {after : Array Edge} {γ : Type} {φ : γ → Prop} {hs' : γ → List HP} {q : γ → VP} (ho : l[i]? = some ⟨some d, op, ty, pos, after, none⟩)
    (h : OpE P hs (avail after done ++ e0) ⟨some d, op, ty, pos, after, none⟩ φ hs' q) (hl : ∀ g, φ g → OLe (hs' g) hs) (k : ∀ g, φ g → DrawS P l n e0 T r ((i, d, q g) :: done) (hs' g)) : DrawS P l n e0 T ((i, 4) :: r) done hs :=
  ⟨_, d, ho, rfl, rfl, γ, φ, hs', q, h, hl, k⟩
theorem DrawS.s {op : Op} {ty : TypeId} {pos : String} {after : Array Edge} {hs' : List HP} {q : Unit → VP} (ho : l[i]? = some ⟨none, op, ty, pos, after, none⟩)
    (h : OpE P hs (avail after done ++ e0) ⟨none, op, ty, pos, after, none⟩ (γ := Unit) (fun _ => True) (fun _ => hs') q) (k : DrawS P l n e0 T r ((i, n, unV) :: done) hs') : DrawS P l n e0 T ((i, 3) :: r) done hs :=
  ⟨_, ho, rfl, rfl, Unit, _, _, q, h, fun _ _ => k⟩
theorem DrawS.head {s : List (Nat × Nat)} : ∀ {k : Nat}, 2 ≤ k → k ≤ 4 → DrawS P l n e0 T ((i, k) :: s) done hs → ∃ (o : Oper) (dd : Nat) (γ : Type) (φ : γ → Prop) (hs' : γ → List HP) (q : γ → VP), l[i]? = some o ∧ (o.dst = some dd ∨ o.dst = none ∧ dd = n) ∧ o.guard = none ∧ OpE P hs (avail o.after done ++ e0) o φ hs' q ∧ (k = 4 → ∀ g, φ g → OLe (hs' g) hs) ∧
    ∀ g, φ g → ∃ q' : VP, (∀ S w v, (q g).p S w v → (o.dst = some dd → q'.p S w v)) ∧ (o.dst = none → ∀ S w v, q'.p S w v) ∧ DrawS P l n e0 T s ((i, dd, q') :: done) (hs' g)
  | 0, h, _, _ => absurd h (by omega)
  | 1, h, _, _ => absurd h (by omega)
  | 2, _, _, ⟨o', d', g1, g2, g3, γ, φ, hs', q, g4, g5⟩ => ⟨o', d', γ, φ, hs', q, g1, .inl g2, g3, g4, (fun h => by cases h), fun g hg => ⟨q g, fun _ _ _ h _ => h, (fun h => by rw [g2] at h; cases h), g5 g hg⟩⟩
  | 3, _, _, ⟨o', g1, g2, g3, γ, φ, hs', q, g4, g5⟩ => ⟨o', n, γ, φ, hs', q, g1, .inr ⟨g2, rfl⟩, g3, g4, (fun h => by cases h), fun g hg => ⟨unV, fun _ _ _ _ _ => trivial, fun _ _ _ _ => trivial, g5 g hg⟩⟩
  | 4, _, _, ⟨o', d', g1, g2, g3, γ, φ, hs', q, g4, g6, g5⟩ => ⟨o', d', γ, φ, hs', q, g1, .inl g2, g3, g4, (fun _ => g6), fun g hg => ⟨q g, fun _ _ _ h _ => h, (fun h => by rw [g2] at h; cases h), g5 g hg⟩⟩
  | _ + 5, _, h, _ => absurd h (by omega)
def Pend (P : Program) (l : List Oper) (n : Nat) (e0 : Env) (hs : List HP) (done : Done) (p : Nat × Nat) : Prop :=
 ∃ o d q dn, l[p.1]? = some o ∧ o.dst = some d ∧ (p.1, d, q) ∈ done ∧ (∀ x, x ∈ dn → x ∈ done) ∧ OpG P l.toArray n hs (avail o.after dn ++ e0) o q ∧ (p.2 = 0 → ∀ hs', OpG P l.toArray n hs' (avail o.after dn ++ e0) o q)
theorem DrawS.expand : ∀ (r : List (Nat × Nat)) (done : Done), DrawS P l n e0 T r done hs → ∃ B r' done', r = B ++ r' ∧ (r' = [] ∨ ∃ i k s, r' = (i, k) :: s ∧ 2 ≤ k) ∧ DrawS P l n e0 T r' done' hs ∧ (∀ x, x ∈ done → x ∈ done') ∧
    done'.map (·.1) = (B.map (·.1)).reverse ++ done.map (·.1) ∧ (∀ x, x ∈ done' → x ∈ done ∨ ((∃ o, l[x.1]? = some o ∧ o.dst = some x.2.1) ∧ ∃ p ∈ B, p.1 = x.1)) ∧ (∀ p, p ∈ B → Pend P l n e0 hs done' p) ∧ ∀ p, p ∈ B → p.2 < 2
  | [], done, h => ⟨[], [], done, rfl, .inl rfl, h, fun _ h => h, rfl, fun x hx => .inl hx, fun p hp => by simp at hp, fun p hp => by simp at hp⟩
  | (i, 0) :: r, done, h => by
    obtain ⟨o, d, q, h1, h2, h3, h4⟩ := h
    obtain ⟨B, r', done', g1, g2, g3, g4, g5, g6, g7, g8⟩ := DrawS.expand r _ h4
    refine ⟨(i, 0) :: B, r', done', by rw [g1]; rfl, g2, g3, fun x hx => g4 x (List.mem_cons_of_mem _ hx), by rw [g5]; simp, fun x hx => ?_, fun p hp => ?_, fun p hp => ?_⟩
    · rcases g6 x hx with h | ⟨h, p, hp, he⟩
      · rcases List.mem_cons.1 h with h | h
        · subst h; exact .inr ⟨⟨o, h1, h2⟩, (i, 0), List.mem_cons_self .., rfl⟩
        · exact .inl h
      · exact .inr ⟨h, p, List.mem_cons_of_mem _ hp, he⟩
    · rcases List.mem_cons.1 hp with h | h
      · subst h; exact ⟨o, d, q, done, h1, h2, g4 _ (List.mem_cons_self ..), fun x hx => g4 x (List.mem_cons_of_mem _ hx), h3 hs, fun _ => h3⟩
      · exact g7 p h
    · rcases List.mem_cons.1 hp with h | h
      · subst h; simp
      · exact g8 p h
  | (i, 1) :: r, done, h => by
    obtain ⟨o, d, q, h1, h2, h3, h4⟩ := h
    obtain ⟨B, r', done', g1, g2, g3, g4, g5, g6, g7, g8⟩ := DrawS.expand r _ h4
    refine ⟨(i, 1) :: B, r', done', by rw [g1]; rfl, g2, g3, fun x hx => g4 x (List.mem_cons_of_mem _ hx), by rw [g5]; simp, fun x hx => ?_, fun p hp => ?_, fun p hp => ?_⟩
    · rcases g6 x hx with h | ⟨h, p, hp, he⟩
      · rcases List.mem_cons.1 h with h | h
        · subst h; exact .inr ⟨⟨o, h1, h2⟩, (i, 1), List.mem_cons_self .., rfl⟩
        · exact .inl h
      · exact .inr ⟨h, p, List.mem_cons_of_mem _ hp, he⟩
    · rcases List.mem_cons.1 hp with h | h
      · subst h; exact ⟨o, d, q, done, h1, h2, g4 _ (List.mem_cons_self ..), fun x hx => g4 x (List.mem_cons_of_mem _ hx), h3, fun h => by simp at h⟩
      · exact g7 p h
    · rcases List.mem_cons.1 hp with h | h
      · subst h; simp
      · exact g8 p h
  | (i, 2) :: r, done, h => ⟨[], (i, 2) :: r, done, rfl, .inr ⟨i, 2, r, rfl, by omega⟩, h, fun _ h => h, rfl, fun x hx => .inl hx, fun p hp => by simp at hp, fun p hp => by simp at hp⟩
  | (i, 3) :: r, done, h => ⟨[], (i, 3) :: r, done, rfl, .inr ⟨i, 3, r, rfl, by omega⟩, h, fun _ h => h, rfl, fun x hx => .inl hx, fun p hp => by simp at hp, fun p hp => by simp at hp⟩
  | (i, 4) :: r, done, h => ⟨[], (i, 4) :: r, done, rfl, .inr ⟨i, 4, r, rfl, by omega⟩, h, fun _ h => h, rfl, fun x hx => .inl hx, fun p hp => by simp at hp, fun p hp => by simp at hp⟩
  | (_, _ + 5) :: _, _, h => h.elim
def planB (ops : Array Oper) (f : Nat) : List (Nat × Nat) → List (Nat × Nat) → Bool
 | _, [] => true
 | pre, p :: r => (Nat.blt p.2 2 || (r.all (fun q => needB ops f q.1 p.1) && (Nat.beq p.2 4 || pre.all (fun q => !Nat.beq q.2 1 || needB ops f p.1 q.1)))) && planB ops f (p :: pre) r
theorem planB_at {ops : Array Oper} {f : Nat} : ∀ {pre r : List (Nat × Nat)}, planB ops f pre r = true → ∀ {a b : List (Nat × Nat)} {i k : Nat}, 2 ≤ k → r = a ++ (i, k) :: b → (∀ q ∈ b, needB ops f q.1 i = true) ∧ (k ≠ 4 → ∀ q, q ∈ pre ∨ q ∈ a → q.2 = 1 → needB ops f i q.1 = true)
 | pre, [], _, a, b, i, k, hk, e => by simp at e
 | pre, p :: r, h, a, b, i, k, hk, e => by
  simp only [planB, Bool.and_eq_true] at h
  cases a with
  | nil =>
   simp at e
   obtain ⟨rfl, rfl⟩ := e
   have h1 := h.1
   simp only [Bool.or_eq_true, Bool.and_eq_true] at h1
   rcases h1 with h1 | h1
   · have h2 : k < 2 := by simpa using h1
     omega
   · refine ⟨fun q hq => List.all_eq_true.1 h1.1 q hq, fun hk4 q hq hq1 => ?_⟩
     have h12 := h1.2.resolve_left (by simpa using hk4)
     rcases hq with hq | hq
     · have := List.all_eq_true.1 h12 q hq
       simpa [hq1] using this
     · simp at hq
  | cons x a =>
   simp at e
   obtain ⟨rfl, rfl⟩ := e
   obtain ⟨g1, g2⟩ := planB_at h.2 (a := a) (b := b) (i := i) hk rfl
   refine ⟨g1, fun hk4 q hq hq1 => g2 hk4 q ?_ hq1⟩
   rcases hq with hq | hq
   · exact .inl (List.mem_cons_of_mem _ hq)
   · rcases List.mem_cons.1 hq with hq | hq
     · exact .inl (hq ▸ List.mem_cons_self ..)
     · exact .inr hq
def headB (ops : Array Oper) (m g n : Nat) : Bool :=
 Nat.beq (m + g) ops.size && (dstsOf (ops.toList.take m)).Nodup && (ops.toList.take m).all (fun o => match o.dst with | some d => Nat.blt d n | none => true) &&
 (List.range m).all (fun i => match ops[i]? with | some o => o.after.toList.all (fun e => !Region.binds .any e || Nat.blt e.on i) | none => false) &&
 (Nat.beq g 0 || (Region.sinkB .any ops m && Region.chainB .any ops m)) && Region.seqB .any ops g m ((List.replicate m true ++ List.replicate g false).toArray)
theorem nodup_dst' {l : List Oper} (hn : (dstsOf l).Nodup) {i j : Nat} {oi oj : Oper} {d : Nat} (hi : l[i]? = some oi) (hj : l[j]? = some oj) (h1 : oi.dst = some d) (h2 : oj.dst = some d) : i = j := by
 induction l generalizing i j with
 | nil => simp at hi
 | cons x l ih =>
  have hn2 : (dstsOf l).Nodup := by
   simp only [dstsOf] at hn
   split at hn
   · exact (List.nodup_cons.1 hn).2
   · exact hn
  cases i with
  | zero =>
   cases j with
   | zero => rfl
   | succ j =>
    simp at hi hj; subst hi
    simp only [dstsOf, h1, List.nodup_cons] at hn
    have := mem_dsts hj h2
    exact absurd (by simpa using this) hn.1
  | succ i =>
   cases j with
   | zero =>
    simp at hi hj; subst hj
    simp only [dstsOf, h2, List.nodup_cons] at hn
    have := mem_dsts hi h1
    exact absurd (by simpa using this) hn.1
   | succ j =>
    have := ih hn2 (i := i) (j := j) (by simpa using hi) (by simpa using hj)
    rw [this]
theorem getD_put_ne' {a : Act} {o : Option Tmp} {t : Nat} {v : Value} (h : ∀ d, o = some d → d ≠ t) : (a.put o v).tmps.getD t undef = a.tmps.getD t undef := by
 cases o with
 | none => rfl
 | some d => exact getD_put_ne (h d rfl)
def stagedB (ops : Array Oper) (plan : List (Nat × Nat)) (m g n : Nat) : Bool :=
 headB ops m g n && (plan.map (·.1)).Nodup && Nat.beq plan.length m && plan.all (fun p => Nat.blt p.1 m && Nat.ble p.2 4) && (List.range m).all (fun i => plan.any fun p => Nat.beq p.1 i) && planB ops (m + 1) [] plan
structure UndS (P : Program) (l : List Oper) (c : Ctx) (e0 : Env) (T : Done → List HP → Prop) (plan : List (Nat × Nat)) (pre r : List (Nat × Nat)) (done : Done) (hs : List HP) (listed : Array Bool) (a : Act) (w : World) : Prop where
 df : a.defers = c.df
 sz : a.tmps.size = c.n
 split : plan = pre ++ r
 dr : DrawS P l c.n e0 T r done hs
 hd : r = [] ∨ ∃ i k s, r = (i, k) :: s ∧ 2 ≤ k
 un : ∀ p ∈ r, listed.getD p.1 false = false
 idx : done.map (·.1) = (pre.map (·.1)).reverse
 dst : ∀ x ∈ done, ∃ o, l[x.1]? = some o ∧ (o.dst = some x.2.1 ∨ o.dst = none ∧ x.2.1 = c.n)
 pend : ∀ p ∈ pre, listed.getD p.1 false = false → Pend P l c.n e0 hs done p
 st : ∃ S F, Sit c w S F ∧ Own hs F S w ∧ EnvOk e0 S w a.tmps ∧ ∀ j d q, (j, d, q) ∈ done → listed.getD j false = true → q.p S w (a.tmps.getD d undef)
theorem idx_mem {done : Done} {x : Nat × Nat × VP} (h : x ∈ done) : x.1 ∈ done.map (·.1) := List.mem_map.2 ⟨x, h, rfl⟩
theorem done_uniq {done : Done} (hn : (done.map (·.1)).Nodup) {j d d' : Nat} {q q' : VP} (h : (j, d, q) ∈ done) (h' : (j, d', q') ∈ done) : d = d' ∧ q = q' := by
 induction done with
 | nil => cases h
 | cons x done ih =>
  simp only [List.map_cons, List.nodup_cons] at hn
  rcases List.mem_cons.1 h with e | e <;> rcases List.mem_cons.1 h' with e' | e'
  · subst e; cases e'; exact ⟨rfl, rfl⟩
  · subst e; exact (hn.1 (show j ∈ done.map (·.1) from idx_mem e')).elim
  · subst e'; exact (hn.1 (show j ∈ done.map (·.1) from idx_mem e)).elim
  · exact ih hn.2 e e'
theorem staged_any {m g : Nat} {env : Env} {plan : List (Nat × Nat)} (hB : stagedB l.toArray plan m g c.n = true) (hT : ∀ done hs, T done hs → SeqT P l.toArray Q c (l.drop m) hs (doneEnv done ++ env)) :
    ∀ (u : Nat) (listed : Array Bool) (a : Act) (w : World) (pre r : List (Nat × Nat)) (done : Done) (hs : List HP), count m listed = u → HeadInv .any l.toArray m listed → UndS P l c (strip (dstsOf (l.take m)) env) T plan pre r done hs listed a w → wpAnyIn (WF c.ro) 0 P .any l.toArray Q (u + g) listed a w := by
  simp only [stagedB, headB, Bool.and_eq_true] at hB
  obtain ⟨⟨⟨⟨⟨⟨⟨⟨⟨⟨hsum, hnd⟩, hds⟩, hback⟩, hsc⟩, hseq⟩, hpn⟩, hpl⟩, hpm⟩, hpc⟩, hpb⟩ := hB
  have hsum' : m + g = l.toArray.size := by simpa using hsum
  have hnd' : (dstsOf (l.take m)).Nodup := by simpa using hnd
  have hpn' : (plan.map (·.1)).Nodup := by simpa using hpn
  have hpl' : plan.length = m := by simpa using hpl
  have hpm2 : ∀ p ∈ plan, p.1 < m ∧ p.2 ≤ 4 := fun p hp => by have := List.all_eq_true.1 hpm p hp; simpa using this
  have hpm' : ∀ p ∈ plan, p.1 < m := fun p hp => (hpm2 p hp).1
  have hdst : ∀ o ∈ l.take m, ∀ d, o.dst = some d → d < c.n := fun o ho d hd => by
    have := List.all_eq_true.1 hds o (by simpa using ho)
    rw [hd] at this; simpa using this
  have hlen : (l.take m).length = m := by simp at hsum' ⊢; omega
  have hcov : ∀ i, i < m → ∃ k, (i, k) ∈ plan := fun i hi => by
    obtain ⟨p, hp, he⟩ := List.any_eq_true.1 (List.all_eq_true.1 hpc i (List.mem_range.2 hi))
    have : p.1 = i := by simpa using he
    exact ⟨p.2, by rw [← this]; exact hp⟩
  intro u
  induction u with
  | zero =>
    intro listed a w pre r done hs hc inv hu
    rw [Nat.zero_add]
    have hr : r = [] := by
      cases r with
      | nil => rfl
      | cons p r =>
        have h1 := hu.un p (List.mem_cons_self ..)
        have h2 := count_zero hc p.1 (hpm' p (by rw [hu.split]; simp))
        rw [h1] at h2; cases h2
    subst hr
    have hl : listed = (List.replicate m true ++ List.replicate g false).toArray := by
      apply Array.ext
      · simp [inv.size] at hsum' ⊢; omega
      · intro i h1 h2
        have hi : i < l.toArray.size := by rw [← inv.size]; exact h1
        by_cases him : i < m
        · have := count_zero hc i him
          simp [h1] at this
          simp [him, this]
        · have := inv.tail i (by omega) hi
          simp [h1] at this
          simp [List.getElem_append, him, this]
    have hdl : (l.drop m).length = g := by simp at hsum' ⊢; omega
    have hw : wpListIn (WF c.ro) 0 P l.toArray Q (l.drop m) a w := by
      obtain ⟨S, F, h1, h2, h3, h4⟩ := hu.st
      refine hT done hs hu.dr a w ⟨hu.df, hu.sz, S, F, h1, h2, fun t q hl => ?_⟩
      have hin : ∀ j, j < m → j ∈ done.map (·.1) := fun j hj => by
        obtain ⟨k, hk⟩ := hcov j hj
        rw [hu.idx, List.mem_reverse]
        refine List.mem_map.2 ⟨(j, k), ?_, rfl⟩
        rw [hu.split] at hk; simpa using hk
      rcases look_append2 hl with h5 | ⟨h6, h5⟩
      · obtain ⟨j, hj⟩ := look_doneEnv h5
        refine h4 j t q hj (count_zero hc j ?_)
        have : j ∈ pre.map (·.1) := by
          have := idx_mem hj
          rw [hu.idx, List.mem_reverse] at this; exact this
        obtain ⟨p, hp, rfl⟩ := List.mem_map.1 this
        exact hpm' p (by rw [hu.split]; simp [hp])
      · refine h3 t q (look_strip_of h5 ?_)
        cases hct : (dstsOf (l.take m)).contains t with
        | false => rfl
        | true =>
          obtain ⟨j, o, ho, hd⟩ := dsts_mem hct
          have hjm : j < m := by have := (List.getElem?_eq_some_iff.1 ho).1; omega
          obtain ⟨x, hx, he⟩ := List.mem_map.1 (hin j hjm)
          obtain ⟨o', ho', hd'⟩ := hu.dst x hx
          rw [he] at ho'
          rw [List.getElem?_take, if_pos hjm] at ho
          rw [ho] at ho'; cases ho'
          rw [hd] at hd'
          have hd2 : t = x.2.1 := hd'.elim (fun h => Option.some.inj h) (fun h => by cases h.1)
          subst hd2
          exact absurd h6 (look_done_mem (j := x.1) (q := x.2.2) hx)
    have := wpAnyIn_of_seq (F := WF c.ro) (n := 0) (md := .any) (P := P) (ops := l.toArray) (Q' := Q) (l.drop m) m listed a w (fun j => by simp [List.getElem?_drop]) (by rw [hdl, hl]; exact hseq) hw
    rwa [hdl] at this
  | succ u ih =>
    intro listed a w pre r done hs hc inv hu
    rw [show u + 1 + g = (u + g) + 1 by omega]
    refine ⟨fun h0 => absurd h0 (ready_least (by omega) inv.size hback (by omega)), fun i hi => ?_⟩
    have him : i < m := by
      rcases Nat.lt_or_ge i m with h | h
      · exact h
      · exfalso
        have hio : i < l.toArray.size := by
          obtain ⟨_, o, ho, _⟩ := mem_ready.1 hi
          exact (Array.getElem?_eq_some_iff.1 ho).1
        have hg : Nat.beq g 0 = false := by
          cases hg : Nat.beq g 0
          · rfl
          · have : g = 0 := by simpa using hg
            omega
        rw [hg] at hsc
        simp only [Bool.false_or, Bool.and_eq_true] at hsc
        obtain ⟨k, hk1, hk2⟩ : ∃ k, k < m ∧ listed.getD k false = false := by
          cases hf : (List.range m).filter (fun i => !listed.getD i false) with
          | nil => rw [count, hf] at hc; simp at hc
          | cons x l =>
            have : x ∈ (List.range m).filter (fun i => !listed.getD i false) := by rw [hf]; exact List.mem_cons_self ..
            rw [List.mem_filter, List.mem_range] at this
            exact ⟨x, this.1, by simpa using this.2⟩
        exact tail_waits hsc.1 hsc.2 (by omega) inv _ k rfl hk1 (getD_in (by rw [inv.size]; omega) hk2) i h hi
    obtain ⟨hun, o, ho, haft⟩ := mem_ready.1 hi
    have hun' := getD_both hun
    have hol' : l[i]? = some o := by simpa using ho
    have hol : (l.take m)[i]? = some o := by rw [List.getElem?_take, if_pos him]; exact hol'
    obtain ⟨S, F, h1, h2, h3, h4⟩ := hu.st
    have hidn : (done.map (·.1)).Nodup := by
      rw [hu.idx]
      have := hpn'
      rw [hu.split, List.map_append] at this
      exact (List.reverse_perm _).nodup_iff.2 (List.nodup_append.1 this).1
    have hneed : ∀ j, needB l.toArray (m + 1) i j = true → listed.getD j false = true := fun j hj => needB_listed inv _ i j (fun o' ho' => by
      rw [ho] at ho'; cases ho'; exact haft) hj
    have henv : ∀ dn : Done, (∀ x, x ∈ dn → x ∈ done) → EnvOk (avail o.after dn ++ strip (dstsOf (l.take m)) env) S w a.tmps := fun dn hdn t x hx => by
      rcases look_append hx with h5 | h5
      · obtain ⟨j, hj, hw⟩ := look_avail h5
        refine h4 j t x (hdn _ hj) ?_
        unfold waits at hw
        obtain ⟨e, he, hb⟩ := List.any_eq_true.1 hw
        simp only [Bool.and_eq_true] at hb
        have : e.on = j := by simpa using hb.1
        rw [← this]; exact haft e (by simpa using he) hb.2
      · exact h3 t x h5
    have hslot : ∀ j dj qj, (j, dj, qj) ∈ done → j ≠ i → ∀ d, o.dst = some d → d ≠ dj := fun j dj qj hmj hij d hod e => by
      subst e
      obtain ⟨oj, hoj, hdj⟩ := hu.dst _ hmj
      have hdn' := hdst o (List.mem_of_getElem? hol) d hod
      have hdj : oj.dst = some d := hdj.resolve_right (fun h => by have h9 : d = c.n := h.2; rw [h9] at hdn'; exact Nat.lt_irrefl _ hdn')
      have hjm : j < m := by
        have : j ∈ pre.map (·.1) := by
          have := idx_mem hmj
          rw [hu.idx, List.mem_reverse] at this; exact this
        obtain ⟨p, hp, rfl⟩ := List.mem_map.1 this
        exact hpm' p (by rw [hu.split]; simp [hp])
      have hoj' : (l.take m)[j]? = some oj := by rw [List.getElem?_take, if_pos hjm]; exact hoj
      exact hij (nodup_dst' hnd' hoj' hol hdj hod)
    have hne0 : ∀ t x, look (strip (dstsOf (l.take m)) env) t = some x → ∀ d, o.dst = some d → d ≠ t := fun t x hx d hod e => by
      subst e
      have := (look_strip hx).2
      rw [mem_dsts hol hod] at this; cases this
    have hcnt : count m (listed.setIfInBounds i true) = u := by have := count_set him hun' (by rw [inv.size]; omega); omega
    obtain ⟨k, hk⟩ := hcov i him
    rw [hu.split] at hk
    rcases List.mem_append.1 hk with hpre | hrest
    ·
      obtain ⟨o', d, q, dn, g1, hod, g3, g4, g5, g6⟩ := hu.pend _ hpre hun'
      simp only at g1
      rw [hol'] at g1; cases g1
      have hdn' := hdst o (List.mem_of_getElem? hol) d hod
      have hne_r : ∀ p ∈ r, p.1 ≠ i := fun p hp e => by
        have h7 := hpn'
        rw [hu.split, List.map_append] at h7
        exact (List.nodup_append.1 h7).2.2 i (List.mem_map.2 ⟨_, hpre, rfl⟩) p.1 (List.mem_map.2 ⟨p, hp, rfl⟩) e.symm
      unfold wpOpIn
      simp only [ho]
      have key := g5 a w S F hu.sz h1.domS h1.domF h1.disj h2 (henv dn g4) (wpAnyIn (WF c.ro) 0 P .any l.toArray Q (u + g) (listed.setIfInBounds i true)) Q (fun v w' S' gr hq => by
        refine ih _ _ _ pre r done hs hcnt (inv.set hi him) ⟨by rw [Act.defers_put]; exact hu.df, by rw [Act.size_put]; exact hu.sz, hu.split, hu.dr, hu.hd, fun p hp => ?_, hu.idx, hu.dst, fun p hp hpu => ?_, S', F, h1.grow gr, gr.owns h1.domS h1.domF h2, ?_, ?_⟩
        · rw [getD_set_ne false (fun e => hne_r p hp e.symm)]; exact hu.un p hp
        · refine hu.pend p hp ?_
          by_cases e : i = p.1
          · rw [← e]; exact hun'
          · rw [getD_set_ne false e] at hpu; exact hpu
        · intro t x hx
          rw [getD_put_ne' (hne0 t x hx)]
          exact gr.vp h1.domS (h3 t x hx)
        · intro j dj qj hmj hlj
          by_cases hij : j = i
          · subst hij
            obtain ⟨rfl, rfl⟩ := done_uniq hidn hmj g3
            rw [hod]
            have : dj < a.tmps.size := by rw [hu.sz]; exact hdn'
            simpa [Act.put, this] using hq
          · rw [getD_set_ne false (fun e => hij e.symm)] at hlj
            rw [getD_put_ne' (hslot j dj qj hmj hij)]
            exact gr.vp h1.domS (h4 j dj qj hmj hlj))
      by_cases hw : Region.wanted o (yielded l.toArray a.tmps) = true
      · rw [if_pos hw] at key ⊢; exact Oper.wp_in (OpG.noDefer g5 hu.sz h1 h2 (henv dn g4) hw) key
      · rw [if_neg hw] at key ⊢; exact ⟨fun _ _ => trivial, key⟩
    ·
      obtain ⟨i0, k0, s, rfl, hk2⟩ : ∃ i0 k0 s, r = (i0, k0) :: s ∧ 2 ≤ k0 := hu.hd.resolve_left (fun e => by rw [e] at hrest; cases hrest)
      obtain ⟨hafter, hread⟩ := planB_at hpb hk2 hu.split
      have hii : i0 = i := by
        rcases List.mem_cons.1 hrest with e | e
        · cases e; rfl
        · have := hneed i0 (hafter _ e)
          rw [hu.un (i0, k0) (List.mem_cons_self ..)] at this; cases this
      subst hii
      have hns : ∀ p ∈ s, p.1 ≠ i0 := fun p hp e => by
        have h7 := hpn'
        rw [hu.split, List.map_append, List.map_cons] at h7
        exact (List.nodup_cons.1 (List.nodup_append.1 h7).2.1).1 (List.mem_map.2 ⟨p, hp, e⟩)
      have hnp : ∀ p ∈ pre, p.1 ≠ i0 := fun p hp e => by
        have h7 := hpn'
        rw [hu.split, List.map_append] at h7
        exact (List.nodup_append.1 h7).2.2 p.1 (List.mem_map.2 ⟨p, hp, rfl⟩) i0 (by simp) e
      obtain ⟨dd, γ, φ, hs', q, hdd, g3, g4, g45, g5⟩ : ∃ (dd : Nat) (γ : Type) (φ : γ → Prop) (hs' : γ → List HP) (q : γ → VP), (o.dst = some dd ∨ o.dst = none ∧ dd = c.n) ∧ o.guard = none ∧ OpE P hs (avail o.after done ++ strip (dstsOf (l.take m)) env) o φ hs' q ∧ (k0 = 4 → ∀ g, φ g → OLe (hs' g) hs) ∧
          ∀ g, φ g → ∃ q' : VP, (∀ S w v, (q g).p S w v → (o.dst = some dd → q'.p S w v)) ∧ (o.dst = none → ∀ S w v, q'.p S w v) ∧ DrawS P l c.n (strip (dstsOf (l.take m)) env) T s ((i0, dd, q') :: done) (hs' g) := by
        obtain ⟨o', dd, γ, φ, hs', q, g1, g2, g3, g4, g45, g5⟩ := DrawS.head hk2 (hpm2 (i0, k0) (by rw [hu.split]; simp)).2 hu.dr
        rw [hol'] at g1; cases g1
        exact ⟨dd, γ, φ, hs', q, g2, g3, g4, g45, g5⟩
      unfold wpOpIn
      simp only [ho]
      rw [if_pos (by simp [Region.wanted, g3])]
      refine Oper.wp_in (OpE.noDefer g4 h1 h2 (henv done (fun _ h => h))) (g4 c a w S F h1 h2 (henv done (fun _ h => h)) _ _ fun gh v w' S' F' hφ hsit hSS hag hown hq => ?_)
      obtain ⟨q', hq1, hq2, g6⟩ := g5 gh hφ
      obtain ⟨B, r', done', e1, e2, e3, e4, e5, e6, e7, e8⟩ := DrawS.expand s _ g6
      refine ih _ _ _ (pre ++ (i0, k0) :: B) r' done' (hs' gh) hcnt (inv.set hi him) ⟨by rw [Act.defers_put]; exact hu.df, by rw [Act.size_put]; exact hu.sz, by rw [hu.split, e1]; simp, e3, e2, fun p hp => ?_, by rw [e5]; simp [hu.idx], fun x hx => ?_, fun p hp hpu => ?_, S', F', hsit, hown, ?_, ?_⟩
      · have hp' : p ∈ s := by rw [e1]; simp [hp]
        rw [getD_set_ne false (fun e => hns p hp' e.symm)]; exact hu.un p (List.mem_cons_of_mem _ hp')
      · rcases e6 x hx with h | h
        · rcases List.mem_cons.1 h with h | h
          · subst h; exact ⟨o, hol', hdd⟩
          · exact hu.dst x h
        · obtain ⟨⟨o1, f1, f2⟩, _⟩ := h
          exact ⟨o1, f1, .inl f2⟩
      · rcases List.mem_append.1 hp with h | h
        · have hpu' : listed.getD p.1 false = false := by
            rw [getD_set_ne false (fun e => hnp p h e.symm)] at hpu; exact hpu
          obtain ⟨o1, d1, q1, dn, f1, f2, f3, f4, f5, f6⟩ := hu.pend p h hpu'
          by_cases hk4 : k0 = 4
          · exact ⟨o1, d1, q1, dn, f1, f2, e4 _ (List.mem_cons_of_mem _ f3), fun x hx => e4 x (List.mem_cons_of_mem _ (f4 x hx)), f5.own (g45 hk4 gh hφ), f6⟩
          have hp0 : p.2 = 0 := by
            have hkind : p.2 ≠ 1 := fun h1 => by
              have := hneed p.1 (hread hk4 p (.inr h) h1)
              rw [hpu'] at this; cases this
            have hk2 : ¬ 2 ≤ p.2 := fun h2 => by
              obtain ⟨a1, b1, hab⟩ := List.append_of_mem h
              have := (planB_at hpb (a := a1) (b := b1 ++ (i0, k0) :: s) (i := p.1) h2 (by rw [hu.split, hab]; simp)).1 (i0, k0) (by simp)
              have := hneed p.1 this
              rw [hpu'] at this; cases this
            omega
          exact ⟨o1, d1, q1, dn, f1, f2, e4 _ (List.mem_cons_of_mem _ f3), fun x hx => e4 x (List.mem_cons_of_mem _ (f4 x hx)), f6 hp0 _, fun _ => f6 hp0⟩
        · rcases List.mem_cons.1 h with h | h
          · subst h
            have : i0 < listed.size := by rw [inv.size]; omega
            simp [this] at hpu
          · exact e7 p h
      · intro t x hx
        rw [getD_put_ne' (hne0 t x hx)]
        exact x.mono hSS hag (h3 t x hx)
      · intro j dj qj hmj hlj
        by_cases hij : j = i0
        · subst hij
          have hnd2 : (done'.map (·.1)).Nodup := by
            rw [e5]
            have h7 := hpn'
            rw [hu.split, e1] at h7
            simp only [List.map_append, List.map_cons, hu.idx] at h7 ⊢
            refine (List.Perm.nodup_iff ?_).1 (List.nodup_append.1 (by simpa using h7 : ((pre.map (·.1) ++ j :: B.map (·.1)) ++ r'.map (·.1)).Nodup)).1
            have q1 : (pre.map (·.1) ++ j :: B.map (·.1)).Perm (B.map (·.1) ++ (j :: pre.map (·.1))) := by
              refine List.perm_append_comm.trans ?_
              simp only [List.cons_append]
              exact (List.perm_middle.symm)
            exact q1.trans ((List.reverse_perm _).symm.append ((List.reverse_perm _).symm.cons j))
          obtain ⟨rfl, rfl⟩ := done_uniq hnd2 hmj (e4 _ (List.mem_cons_self ..))
          rcases hdd with hod | ⟨hod, _⟩
          · have hdn' := hdst o (List.mem_of_getElem? hol) dj hod
            rw [hod]
            have : dj < a.tmps.size := by rw [hu.sz]; exact hdn'
            simpa [Act.put, this] using hq1 _ _ _ hq hod
          · exact hq2 hod _ _ _
        · rw [getD_set_ne false (fun e => hij e.symm)] at hlj
          rcases e6 _ hmj with h | ⟨_, p, hp, hpe⟩
          · rcases List.mem_cons.1 h with h | h
            · cases h; exact absurd rfl hij
            · rw [getD_put_ne' (hslot j dj qj h hij)]
              exact qj.mono hSS hag (h4 j dj qj h hlj)
          · simp only at hpe
            have := hu.un p (List.mem_cons_of_mem _ (by rw [e1]; simp [hp]))
            rw [hpe, hlj] at this; cases this
theorem DrawS.fin {ops : Array Oper} {tl : List Oper} {env : Env} (h : SeqT P ops Q c tl hs (doneEnv done ++ env)) : DrawS P l n e0 (fun done hs => SeqT P ops Q c tl hs (doneEnv done ++ env)) [] done hs := h
theorem CodeT.staged {id : Nat} {env : Env} (plan : List (Nat × Nat)) (m g : Nat) (hm : P.follows .mixedOrders = true) (hB : stagedB l.toArray plan m g c.n = true)
    (h : DrawS P l c.n (strip (dstsOf (l.take m)) env) (fun done hs => SeqT P l.toArray Q c (l.drop m) hs (doneEnv done ++ env)) plan [] hs) : CodeT P Q c (.region id l.toArray true) hs env := by
  intro a w hst
  refine wpIn_region_any hm ?_
  obtain ⟨h1, h2, S, F, h3, h4, h5⟩ := hst
  have hsum : m + g = l.toArray.size := by
    simp only [stagedB, headB, Bool.and_eq_true] at hB
    simpa using hB.1.1.1.1.1.1.1.1.1.1
  have g0 := Grow.drew w S
  obtain ⟨B, r', done', e1, e2, e3, e4, e5, e6, e7, e8⟩ := DrawS.expand plan [] h
  have key := staged_any (P := P) (Q := Q) (l := l) (c := c) (env := env) hB (fun _ _ h => h) m (Array.replicate l.toArray.size false) a { w with drawn := w.drawn + 1 } B r' done' hs ?_ ?_ ?_
  · rw [hsum] at key; exact key
  · unfold count
    rw [List.filter_eq_self.2 (fun i hi => by rw [getD_replicate_false]; rfl)]
    simp
  · exact ⟨by simp, fun j oj _ hl => (by rw [getD_replicate_false] at hl; cases hl), fun t _ ht => getD_in (by simpa using ht) (getD_replicate_false _ _)⟩
  · exact ⟨h1, h2, e1, e3, e2, fun p _ => getD_replicate_false _ _, by simpa using e5, fun x hx => (e6 x hx).elim (fun h => by cases h) (fun h => let ⟨o, f1, f2⟩ := h.1; ⟨o, f1, .inl f2⟩), fun p hp _ => e7 p hp, S, F, h3.grow g0, g0.owns h3.domS h3.domF h4, fun t q hl => g0.vp h3.domS (h5 t q (look_strip hl).1), fun j d q _ hl => by rw [getD_replicate_false] at hl; cases hl⟩
end
abbrev Alc := Nat × Nat × List Value
def alcH (b : Nat → Nat) (a : Alc) : HP := cellsH (b a.1) (a.2.2.map exactV)
def alcD (b : Nat → Nat) (a : Alc) : Nat × Nat × VP := (a.1, a.2.1, addrV (b a.1) 0)
def alcI (a : Alc) : Nat × Nat := (a.1, 0)
def AlcOk (P : Program) (l : List Oper) (a : Alc) : Prop := ∃ T ty pos after, l[a.1]? = some ⟨some a.2.1, .alloc T, ty, pos, after, none⟩ ∧ zeroB P T = some a.2.2
theorem alc_congr {b b' : Nat → Nat} {as : List Alc} (h : ∀ a ∈ as, b a.1 = b' a.1) : as.map (alcH b) = as.map (alcH b') := List.map_congr_left fun a ha => by unfold alcH; rw [h a ha]
theorem filter_set_perm {as : List Alc} (hn : (as.map (·.1)).Nodup) {listed : Array Bool} {a : Alc} (ha : a ∈ as) (hu : listed.getD a.1 false = false) (hs : a.1 < listed.size) :
    (as.filter fun x => (listed.setIfInBounds a.1 true).getD x.1 false).Perm (a :: as.filter fun x => listed.getD x.1 false) := by
  induction as with
  | nil => cases ha
  | cons x as ih =>
    simp only [List.map_cons, List.nodup_cons] at hn
    have hset : (listed.setIfInBounds a.1 true).getD a.1 false = true := by simp [hs]
    rcases List.mem_cons.1 ha with e | hm
    · subst e
      rw [List.filter_cons_of_pos (by simpa using hset), List.filter_cons_of_neg (by rw [hu]; simp)]
      refine List.Perm.cons _ (List.Perm.of_eq (List.filter_congr fun y hy => ?_))
      have hne : a.1 ≠ y.1 := fun e => hn.1 (e ▸ List.mem_map.2 ⟨y, hy, rfl⟩)
      rw [getD_set_ne false hne]
    · have hne : a.1 ≠ x.1 := fun e => hn.1 (e ▸ List.mem_map.2 ⟨a, hm, rfl⟩)
      have ih' := ih hn.2 hm
      by_cases hx : listed.getD x.1 false = true
      · rw [List.filter_cons_of_pos (by rw [getD_set_ne false hne]; exact hx), List.filter_cons_of_pos (p := fun x : Alc => listed.getD x.1 false) hx]
        exact (ih'.cons x).trans (List.Perm.swap _ _ _)
      · rw [List.filter_cons_of_neg (by rw [getD_set_ne false hne]; exact hx), List.filter_cons_of_neg (p := fun x : Alc => listed.getD x.1 false) hx]
        exact ih'
section
variable {P : Program} {l : List Oper} {n : Nat} {hs : List HP} {e0 : Env} {Q : Exit → Act → World → Prop} {c : Ctx} {done : Done}
structure UndA (P : Program) (l : List Oper) (c : Ctx) (e0 : Env) (ls : List (Nat × Nat)) (as : List Alc) (done : Done) (hs : List HP) (listed : Array Bool) (a : Act) (w : World) : Prop where
 df : a.defers = c.df
 sz : a.tmps.size = c.n
 st : ∃ (b : Nat → Nat) (S F : BS), Sit c w S F ∧ Own ((as.filter fun x => listed.getD x.1 false).map (alcH b) ++ hs) F S w ∧ EnvOk e0 S w a.tmps ∧ (∀ j d q, (j, d, q) ∈ done → listed.getD j false = true → q.p S w (a.tmps.getD d undef)) ∧
  ∀ x ∈ as, listed.getD x.1 false = true → a.tmps.getD x.2.1 undef = .pointer (some ⟨b x.1, 0, none⟩)
def alcB (ops : Array Oper) (as : List Nat) (R : List (Nat × Nat)) (f : Nat) : Bool := R.all (fun q => as.all fun a => needB ops f q.1 a)
theorem allocs_any {m g : Nat} {env : Env} {ls R : List (Nat × Nat)} {as : List Alc} (hB : stagedB l.toArray (ls ++ ((as.map alcI).reverse ++ R)) m g c.n = true) (hC : alcB l.toArray (as.map (·.1)) R (m + 1) = true)
    (hA : ∀ a ∈ as, AlcOk P l a) (hls : ∀ p ∈ ls, p.2 = 0) (hane : as ≠ [])
    (hidx : done.map (·.1) = (ls.map (·.1)).reverse) (hdd : ∀ x ∈ done, ∃ o, l[x.1]? = some o ∧ o.dst = some x.2.1) (hpend : ∀ p ∈ ls, Pend P l c.n (strip (dstsOf (l.take m)) env) hs done p)
    (hR : ∀ b : Nat → Nat, DrawS P l c.n (strip (dstsOf (l.take m)) env) (fun done hs => SeqT P l.toArray Q c (l.drop m) hs (doneEnv done ++ env)) R (as.map (alcD b) ++ done) (as.map (alcH b) ++ hs)) :
    ∀ (u : Nat) (listed : Array Bool) (a : Act) (w : World), count m listed = u → HeadInv .any l.toArray m listed → (∀ p ∈ R, listed.getD p.1 false = false) → (∃ x ∈ as, listed.getD x.1 false = false) →
      UndA P l c (strip (dstsOf (l.take m)) env) ls as done hs listed a w → wpAnyIn (WF c.ro) 0 P .any l.toArray Q (u + g) listed a w := by
  have hB' := hB
  simp only [stagedB, headB, Bool.and_eq_true] at hB'
  obtain ⟨⟨⟨⟨⟨⟨⟨⟨⟨⟨hsum, hnd⟩, hds⟩, hback⟩, hsc⟩, hseq⟩, hpn⟩, hpl⟩, hpm⟩, hpc⟩, hpb⟩ := hB'
  have hsum' : m + g = l.toArray.size := by simpa using hsum
  have hnd' : (dstsOf (l.take m)).Nodup := by simpa using hnd
  have hpn' : ((ls ++ ((as.map alcI).reverse ++ R)).map (·.1)).Nodup := by simpa using hpn
  have hpm' : ∀ p ∈ ls ++ ((as.map alcI).reverse ++ R), p.1 < m := fun p hp => by have := List.all_eq_true.1 hpm p hp; simp at this; exact this.1
  have hmL : ∀ p ∈ ls, p.1 < m := fun p hp => hpm' p (by simp [hp])
  have hmA : ∀ a ∈ as, a.1 < m := fun a ha => hpm' (alcI a) (List.mem_append_right _ (List.mem_append_left _ (List.mem_reverse.2 (List.mem_map.2 ⟨a, ha, rfl⟩))))
  have hdst : ∀ o ∈ l.take m, ∀ d, o.dst = some d → d < c.n := fun o ho d hd => by
    have := List.all_eq_true.1 hds o (by simpa using ho)
    rw [hd] at this; simpa using this
  have hn3 := hpn'
  simp only [List.map_append, List.map_reverse, List.map_map] at hn3
  have hfst : ((fun x : Nat × Nat => x.1) ∘ alcI) = fun a : Alc => a.1 := rfl
  rw [hfst] at hn3
  obtain ⟨hnL, hnAR, hLAR⟩ := List.nodup_append.1 hn3
  obtain ⟨hnA0, hnR, hAR⟩ := List.nodup_append.1 hnAR
  have hnA : (as.map (·.1)).Nodup := (List.reverse_perm _).nodup_iff.1 hnA0
  have hLA : ∀ p ∈ ls, ∀ x ∈ as, p.1 ≠ x.1 := fun p hp x hx e => hLAR p.1 (List.mem_map.2 ⟨p, hp, rfl⟩) x.1 (List.mem_append_left _ (List.mem_reverse.2 (List.mem_map.2 ⟨x, hx, rfl⟩))) e
  have hAR' : ∀ x ∈ as, ∀ p ∈ R, x.1 ≠ p.1 := fun x hx p hp e => hAR x.1 (List.mem_reverse.2 (List.mem_map.2 ⟨x, hx, rfl⟩)) p.1 (List.mem_map.2 ⟨p, hp, rfl⟩) e
  have hLR : ∀ p ∈ ls, ∀ q ∈ R, p.1 ≠ q.1 := fun p hp q hq e => hLAR p.1 (List.mem_map.2 ⟨p, hp, rfl⟩) q.1 (List.mem_append_right _ (List.mem_map.2 ⟨q, hq, rfl⟩)) e
  have hidn : (done.map (·.1)).Nodup := by rw [hidx]; exact (List.reverse_perm _).nodup_iff.2 hnL
  have hdoneL : ∀ x ∈ done, ∃ p ∈ ls, p.1 = x.1 := fun x hx => by
    have := idx_mem hx
    rw [hidx, List.mem_reverse] at this
    obtain ⟨p, hp, he⟩ := List.mem_map.1 this
    exact ⟨p, hp, he⟩
  intro u
  induction u with
  | zero =>
    intro listed a w hc inv _ hex _
    obtain ⟨x, hx, hu⟩ := hex
    have := count_zero hc x.1 (hmA x hx)
    rw [hu] at this; cases this
  | succ u ih =>
    intro listed a w hc inv hRu hex hu
    rw [show u + 1 + g = (u + g) + 1 by omega]
    refine ⟨fun h0 => absurd h0 (ready_least (by omega) inv.size hback (by omega)), fun i hi => ?_⟩
    have him : i < m := by
      rcases Nat.lt_or_ge i m with h | h
      · exact h
      · exfalso
        have hio : i < l.toArray.size := by
          obtain ⟨_, o, ho, _⟩ := mem_ready.1 hi
          exact (Array.getElem?_eq_some_iff.1 ho).1
        have hg : Nat.beq g 0 = false := by
          cases hg : Nat.beq g 0
          · rfl
          · have : g = 0 := by simpa using hg
            omega
        rw [hg] at hsc
        simp only [Bool.false_or, Bool.and_eq_true] at hsc
        obtain ⟨x, hx, hxu⟩ := hex
        exact tail_waits hsc.1 hsc.2 (by omega) inv _ x.1 rfl (hmA x hx) (getD_in (by rw [inv.size]; have := hmA x hx; omega) hxu) i h hi
    obtain ⟨hun, o, ho, haft⟩ := mem_ready.1 hi
    have hun' := getD_both hun
    have hol' : l[i]? = some o := by simpa using ho
    have hol : (l.take m)[i]? = some o := by rw [List.getElem?_take, if_pos him]; exact hol'
    obtain ⟨b, S, F, h1, h2, h3, h4, h5⟩ := hu.st
    have hneed : ∀ j, needB l.toArray (m + 1) i j = true → listed.getD j false = true := fun j hj => needB_listed inv _ i j (fun o' ho' => by
      rw [ho] at ho'; cases ho'; exact haft) hj
    have hils : i < listed.size := by rw [inv.size]; omega
    have hcnt : count m (listed.setIfInBounds i true) = u := by have := count_set him hun' hils; omega
    have hne0 : ∀ t x, look (strip (dstsOf (l.take m)) env) t = some x → ∀ d, o.dst = some d → d ≠ t := fun t x hx d hod e => by
      subst e
      have := (look_strip hx).2
      rw [mem_dsts hol hod] at this; cases this
    have hslot : ∀ j dj, j ≠ i → (∃ oj, l[j]? = some oj ∧ oj.dst = some dj) → j < m → ∀ d, o.dst = some d → d ≠ dj := fun j dj hij ⟨oj, hoj, hdj⟩ hjm d hod e => by
      subst e
      exact hij (nodup_dst' hnd' (by rw [List.getElem?_take, if_pos hjm]; exact hoj) hol hdj hod)
    have hslD : ∀ j dj qj, (j, dj, qj) ∈ done → j ≠ i → ∀ d, o.dst = some d → d ≠ dj := fun j dj qj hmj hij => by
      obtain ⟨p, hp, he⟩ := hdoneL _ hmj
      exact hslot j dj hij (hdd _ hmj) (by have := hmL p hp; simp only at he; omega)
    have hslA : ∀ x ∈ as, x.1 ≠ i → ∀ d, o.dst = some d → d ≠ x.2.1 := fun x hx hij => by
      obtain ⟨T, ty, pos, after, hxo, _⟩ := hA x hx
      exact hslot x.1 x.2.1 hij ⟨_, hxo, rfl⟩ (hmA x hx)
    obtain ⟨p, hp, hpe⟩ := List.any_eq_true.1 (List.all_eq_true.1 hpc i (List.mem_range.2 him))
    have hpe' : p.1 = i := by simpa using hpe
    rcases List.mem_append.1 hp with hpL | hpAR
    ·
      subst hpe'
      obtain ⟨o', d, q, dn, g1, hod, g3, g4, g5, g6⟩ := hpend p hpL
      rw [hol'] at g1; cases g1
      have hdn' := hdst o (List.mem_of_getElem? hol) d hod
      have henv : EnvOk (avail o.after dn ++ strip (dstsOf (l.take m)) env) S w a.tmps := fun t x hx => by
        rcases look_append hx with h6 | h6
        · obtain ⟨j, hj, hw⟩ := look_avail h6
          refine h4 j t x (g4 _ hj) ?_
          unfold waits at hw
          obtain ⟨e, he, hb⟩ := List.any_eq_true.1 hw
          simp only [Bool.and_eq_true] at hb
          have : e.on = j := by simpa using hb.1
          rw [← this]; exact haft e (by simpa using he) hb.2
        · exact h3 t x h6
      have hfil : (as.filter fun x => (listed.setIfInBounds p.1 true).getD x.1 false) = as.filter fun x => listed.getD x.1 false := List.filter_congr fun x hx => by rw [getD_set_ne false (hLA p hpL x hx)]
      unfold wpOpIn
      simp only [ho]
      have key := g6 (hls p hpL) ((as.filter fun x => listed.getD x.1 false).map (alcH b) ++ hs) a w S F hu.sz h1.domS h1.domF h1.disj h2 henv (wpAnyIn (WF c.ro) 0 P .any l.toArray Q (u + g) (listed.setIfInBounds p.1 true)) Q (fun v w' S' gr hq => by
        refine ih _ _ _ hcnt (inv.set hi him) (fun q hq => by rw [getD_set_ne false (hLR p hpL q hq)]; exact hRu q hq) ?_ ⟨by rw [Act.defers_put]; exact hu.df, by rw [Act.size_put]; exact hu.sz, b, S', F, h1.grow gr, by rw [hfil]; exact gr.owns h1.domS h1.domF h2, ?_, ?_, ?_⟩
        · obtain ⟨x, hx, hxu⟩ := hex
          exact ⟨x, hx, by rw [getD_set_ne false (hLA p hpL x hx)]; exact hxu⟩
        · intro t x hx
          rw [getD_put_ne' (hne0 t x hx)]
          exact gr.vp h1.domS (h3 t x hx)
        · intro j dj qj hmj hlj
          by_cases hij : j = p.1
          · subst hij
            obtain ⟨rfl, rfl⟩ := done_uniq hidn hmj g3
            rw [hod]
            have : dj < a.tmps.size := by rw [hu.sz]; exact hdn'
            simpa [Act.put, this] using hq
          · rw [getD_set_ne false (fun e => hij e.symm)] at hlj
            rw [getD_put_ne' (hslD j dj qj hmj hij)]
            exact gr.vp h1.domS (h4 j dj qj hmj hlj)
        · intro x hx hlx
          rw [getD_set_ne false (hLA p hpL x hx)] at hlx
          rw [getD_put_ne' (hslA x hx (fun e => hLA p hpL x hx e.symm))]
          exact h5 x hx hlx)
      by_cases hw : Region.wanted o (yielded l.toArray a.tmps) = true
      · rw [if_pos hw] at key ⊢; exact Oper.wp_in (OpG.noDefer (g6 (hls p hpL) ((as.filter fun x => listed.getD x.1 false).map (alcH b) ++ hs)) hu.sz h1 h2 henv hw) key
      · rw [if_neg hw] at key ⊢; exact ⟨fun _ _ => trivial, key⟩
    rcases List.mem_append.1 hpAR with hpA | hpR
    ·
      rw [List.mem_reverse] at hpA
      obtain ⟨x, hx, hxe⟩ := List.mem_map.1 hpA
      have hxi : x.1 = i := by rw [← hpe', ← hxe]; rfl
      subst hxi
      obtain ⟨T, ty, pos, after, hxo, hz⟩ := hA x hx
      rw [hol'] at hxo; cases hxo
      have hdn' := hdst _ (List.mem_of_getElem? hol) x.2.1 rfl
      unfold wpOpIn
      simp only [ho]
      rw [if_pos (by simp [Region.wanted])]
      refine Oper.wp_in (fun _ e => by cases e) (opAlloc (hs := (as.filter fun y => listed.getD y.1 false).map (alcH b) ++ hs) (env := strip (dstsOf (l.take m)) env) hz c a w S F h1 h2 h3 _ _ fun k v w' S' F' _ hsit hSS hag hown hq => ?_)
      simp only [exactV] at hq
      subst hq
      let b' : Nat → Nat := fun j => if j = x.1 then k else b j
      have hbx : b' x.1 = k := if_pos rfl
      have hbo : ∀ y, y ≠ x.1 → b' y = b y := fun y hy => if_neg hy
      have hperm := filter_set_perm hnA hx hun' hils
      have hold : (as.filter fun y => listed.getD y.1 false).map (alcH b) = (as.filter fun y => listed.getD y.1 false).map (alcH b') := alc_congr fun y hy => by
        have hy2 := (List.mem_filter.1 hy).2
        exact (hbo y.1 (fun e => by rw [e, hun'] at hy2; cases hy2)).symm
      have hown' : Own ((as.filter fun y => (listed.setIfInBounds x.1 true).getD y.1 false).map (alcH b') ++ hs) F' S' w' := by
        refine Own.perm ?_ hown
        show (cellsH k (x.2.2.map exactV) :: ((as.filter fun y => listed.getD y.1 false).map (alcH b) ++ hs)).Perm _
        rw [hold]
        have e1 : cellsH k (x.2.2.map exactV) = alcH b' x := by unfold alcH; rw [hbx]
        rw [e1]
        exact ((hperm.map (alcH b')).symm).append_right hs
      have hfe : EnvOk (strip (dstsOf (l.take m)) env) S' w' (a.put (some x.2.1) (.pointer (some ⟨k, 0, none⟩))).tmps := fun t y hy => by
        rw [getD_put_ne' (hne0 t y hy)]
        exact y.mono hSS hag (h3 t y hy)
      have hfd : ∀ j d q, (j, d, q) ∈ done → (listed.setIfInBounds x.1 true).getD j false = true → q.p S' w' ((a.put (some x.2.1) (.pointer (some ⟨k, 0, none⟩))).tmps.getD d undef) := fun j dj qj hmj hlj => by
        obtain ⟨p', hp', he'⟩ := hdoneL _ hmj
        have hjx : j ≠ x.1 := fun e => hLA p' hp' x hx (he'.trans e)
        rw [getD_set_ne false (fun e => hjx e.symm)] at hlj
        rw [getD_put_ne' (hslD j dj qj hmj hjx)]
        exact qj.mono hSS hag (h4 j dj qj hmj hlj)
      have hfa : ∀ y ∈ as, (listed.setIfInBounds x.1 true).getD y.1 false = true → (a.put (some x.2.1) (.pointer (some ⟨k, 0, none⟩))).tmps.getD y.2.1 undef = .pointer (some ⟨b' y.1, 0, none⟩) := fun y hy hly => by
        by_cases hyx : y.1 = x.1
        · have : y = x := by
            obtain ⟨j, hj⟩ := List.mem_iff_getElem?.1 hy
            obtain ⟨j', hj'⟩ := List.mem_iff_getElem?.1 hx
            have e1 : (as.map (·.1))[j]? = some y.1 := by rw [List.getElem?_map, hj]; rfl
            have e2 : (as.map (·.1))[j']? = some x.1 := by rw [List.getElem?_map, hj']; rfl
            have hjl : j < (as.map (·.1)).length := (List.getElem?_eq_some_iff.1 e1).1
            have : j = j' := (List.getElem?_inj hjl hnA (j := j')).1 (e1.trans (by rw [hyx]; exact e2.symm))
            subst this
            rw [hj] at hj'; exact Option.some.inj hj'
          subst this
          rw [hbx]
          have : y.2.1 < a.tmps.size := by rw [hu.sz]; exact hdn'
          simp [Act.put, this]
        · rw [getD_set_ne false (fun e => hyx e.symm)] at hly
          rw [getD_put_ne' (hslA y hy hyx), hbo y.1 hyx]
          exact h5 y hy hly
      have hRu' : ∀ q ∈ R, (listed.setIfInBounds x.1 true).getD q.1 false = false := fun q hq => by rw [getD_set_ne false (hAR' x hx q hq)]; exact hRu q hq
      by_cases hex' : ∃ y ∈ as, (listed.setIfInBounds x.1 true).getD y.1 false = false
      · exact ih _ _ _ hcnt (inv.set hi him) hRu' hex' ⟨by rw [Act.defers_put]; exact hu.df, by rw [Act.size_put]; exact hu.sz, b', S', F', hsit, hown', hfe, hfd, hfa⟩
      ·
        have hall : ∀ y ∈ as, (listed.setIfInBounds x.1 true).getD y.1 false = true := fun y hy => by
          cases hl : (listed.setIfInBounds x.1 true).getD y.1 false
          · exact (hex' ⟨y, hy, hl⟩).elim
          · rfl
        have hfilt : (as.filter fun y => (listed.setIfInBounds x.1 true).getD y.1 false) = as := List.filter_eq_self.2 fun y hy => hall y hy
        rw [hfilt] at hown'
        obtain ⟨B, r', done', e1, e2, e3, e4, e5, e6, e7, e8⟩ := DrawS.expand R _ (hR b')
        have hmemA : ∀ y ∈ as.map (alcD b'), ∃ z ∈ as, y = alcD b' z := fun y hy => let ⟨z, hz, he⟩ := List.mem_map.1 hy; ⟨z, hz, he.symm⟩
        refine staged_any hB (fun _ _ h => h) u _ _ _ (ls ++ ((as.map alcI).reverse ++ B)) r' done' _ hcnt (inv.set hi him) ⟨by rw [Act.defers_put]; exact hu.df, by rw [Act.size_put]; exact hu.sz, by rw [e1]; simp, e3, e2, fun q hq => hRu' q (by rw [e1]; simp [hq]), ?_, fun y hy => ?_, fun q hq hqu => ?_, S', F', hsit, hown', hfe, fun j d q hmj hlj => ?_⟩
        · rw [e5]
          simp [hidx, List.map_map, Function.comp_def, alcD, alcI]
        · rcases e6 y hy with h | h
          · rcases List.mem_append.1 h with h | h
            · obtain ⟨z, hz, rfl⟩ := hmemA y h
              obtain ⟨T', ty', pos', after', hzo, _⟩ := hA z hz
              exact ⟨_, hzo, .inl rfl⟩
            · obtain ⟨o1, f1, f2⟩ := hdd y h; exact ⟨o1, f1, .inl f2⟩
          · obtain ⟨⟨o1, f1, f2⟩, _⟩ := h; exact ⟨o1, f1, .inl f2⟩
        · rcases List.mem_append.1 hq with h | h
          · have h7 := hpend q h
            obtain ⟨o1, d1, q1, dn, f1, f2, f3, f4, f5, f6⟩ := h7
            exact ⟨o1, d1, q1, dn, f1, f2, e4 _ (List.mem_append_right _ f3), fun z hz => e4 z (List.mem_append_right _ (f4 z hz)), f6 (hls q h) _, fun _ => f6 (hls q h)⟩
          · rcases List.mem_append.1 h with h | h
            · rw [List.mem_reverse] at h
              obtain ⟨z, hz, rfl⟩ := List.mem_map.1 h
              have h8 := hall z hz
              have h9 : (listed.setIfInBounds x.1 true).getD z.1 false = false := hqu
              rw [h9] at h8; cases h8
            · exact e7 q h
        · rcases e6 _ hmj with h | ⟨_, q', hq', he'⟩
          · rcases List.mem_append.1 h with h | h
            · obtain ⟨z, hz, he⟩ := hmemA _ h
              unfold alcD at he
              cases he
              exact hfa z hz hlj
            · exact hfd j d q h hlj
          · have := hRu' q' (by rw [e1]; simp [hq'])
            simp only at he'
            rw [he'] at this
            rw [hlj] at this; cases this
    ·
      exfalso
      obtain ⟨x, hx, hxu⟩ := hex
      have h6 := List.all_eq_true.1 hC p hpR
      have h7 := List.all_eq_true.1 h6 x.1 (List.mem_map.2 ⟨x, hx, rfl⟩)
      rw [hpe'] at h7
      have := hneed x.1 h7
      rw [hxu] at this; cases this
theorem DrawS.alc {P : Program} {l : List Oper} {n : Nat} {e0 : Env} {hs : List HP} {done : Done} {T : Done → List HP → Prop} (h : T done hs) : DrawS P l n e0 T [] done hs := h
theorem CodeT.allocs {id : Nat} {env : Env} (ls R : List (Nat × Nat)) (as : List Alc) (m g : Nat) (hm : P.follows .mixedOrders = true) (hB : stagedB l.toArray (ls ++ ((as.map alcI).reverse ++ R)) m g c.n = true)
    (hC : (alcB l.toArray (as.map (·.1)) R (m + 1) && ls.all (fun p => Nat.beq p.2 0) && !as.isEmpty) = true) (hA : ∀ a ∈ as, AlcOk P l a)
    (h : DrawS P l c.n (strip (dstsOf (l.take m)) env) (fun done hs => ∀ b : Nat → Nat, DrawS P l c.n (strip (dstsOf (l.take m)) env) (fun done hs => SeqT P l.toArray Q c (l.drop m) hs (doneEnv done ++ env)) R (as.map (alcD b) ++ done) (as.map (alcH b) ++ hs)) ls [] hs) :
    CodeT P Q c (.region id l.toArray true) hs env := by
  intro a w hst
  refine wpIn_region_any hm ?_
  obtain ⟨h1, h2, S, F, h3, h4, h5⟩ := hst
  have hsum : m + g = l.toArray.size := by
    simp only [stagedB, headB, Bool.and_eq_true] at hB
    simpa using hB.1.1.1.1.1.1.1.1.1.1
  have hpm : ∀ p ∈ ls ++ ((as.map alcI).reverse ++ R), p.1 < m := fun p hp => by
    simp only [stagedB, headB, Bool.and_eq_true] at hB
    have := List.all_eq_true.1 hB.1.1.2 p hp; simp at this; exact this.1
  simp only [Bool.and_eq_true] at hC
  obtain ⟨⟨hC1, hC2⟩, hC3⟩ := hC
  have hls : ∀ p ∈ ls, p.2 = 0 := fun p hp => by have := List.all_eq_true.1 hC2 p hp; simpa using this
  have hane : as ≠ [] := fun e => by subst e; simp at hC3
  have g0 := Grow.drew w S
  obtain ⟨B, r', done', e1, e2, e3, e4, e5, e6, e7, e8⟩ := DrawS.expand ls [] h
  have hr' : r' = [] := by
    rcases e2 with e | ⟨i, k, s, e, hk⟩
    · exact e
    · exfalso
      have := hls (i, k) (by rw [e1, e]; simp)
      simp only at this; omega
  subst hr'
  rw [List.append_nil] at e1
  subst e1
  have hex : ∃ x ∈ as, (Array.replicate l.toArray.size false).getD x.1 false = false := by
    cases as with
    | nil => exact absurd rfl hane
    | cons x as => exact ⟨x, List.mem_cons_self .., getD_replicate_false _ _⟩
  have hfil : (as.filter fun x => (Array.replicate l.toArray.size false).getD x.1 false) = [] := List.filter_eq_nil_iff.2 fun x _ => by rw [getD_replicate_false]; simp
  have key := allocs_any (P := P) (Q := Q) (l := l) (c := c) (env := env) (done := done') (hs := hs) hB hC1 hA hls hane (by simpa using e5) (fun x hx => (e6 x hx).elim (fun h => by cases h) (fun h => h.1)) (fun p hp => e7 p hp) e3
    m (Array.replicate l.toArray.size false) a { w with drawn := w.drawn + 1 } ?_ ?_ (fun p _ => getD_replicate_false _ _) hex ?_
  · rw [hsum] at key; exact key
  · unfold count
    rw [List.filter_eq_self.2 (fun i hi => by rw [getD_replicate_false]; rfl)]
    simp
  · exact ⟨by simp, fun j oj _ hl => (by rw [getD_replicate_false] at hl; cases hl), fun t _ ht => getD_in (by simpa using ht) (getD_replicate_false _ _)⟩
  · exact ⟨h1, h2, fun _ => 0, S, F, h3.grow g0, by rw [hfil]; exact g0.owns h3.domS h3.domF h4, fun t q hl => g0.vp h3.domS (h5 t q (look_strip hl).1), fun j d q _ hl => (by rw [getD_replicate_false] at hl; cases hl), fun x _ hl => by rw [getD_replicate_false] at hl; cases hl⟩
end
section
variable {P : Program} {hs : List HP} {env : Env} {q : VP} {dst : Option Tmp} {ty T T' E : TypeId} {pos : String} {after : Array Edge} {gd : Option (Nat × Bool)} {x y z : Operand}
def putO (w : World) (b : Nat) (o : Obj) : World := { w with heap := w.heap.setIfInBounds b o }
def iterH (b : Nat) (l : List UInt8) (k : Nat) : HP :=
 ⟨fun F S w => F b ∧ w.heap[b]? = some (.stringIter ⟨l.toArray⟩ k), fun h1 h2 h3 h4 ⟨hF, hh⟩ => ⟨h1 b hF, (h3 b hF).trans hh⟩⟩
theorem opRangeS {l : List UInt8} (hT : P.underlying T = some .string) (hx : Opd env x (strV l)) : OpE P hs env ⟨dst, .range T x, ty, pos, after, gd⟩ (γ := Nat) (fun _ => True) (fun b => iterH b l 0 :: hs) (fun b => addrV b 0) := by
 intro c a w S F hsit hown he K Q hk
 have hv := (hx S w a he).1
 have hr : (execOp a.eval ⟨dst, .range T x, ty, pos, after, gd⟩).run P w = .ok (.value (.pointer (some ⟨w.heap.size, 0, none⟩))) { w with heap := w.heap.push (.stringIter ⟨l.toArray⟩ 0) } := by
  simp [execOp, hv, Instr.range, run_underlying hT, newObj, Sem.run]
 unfold Oper.wp
 rw [hr]
 exact hk w.heap.size _ _ S _ trivial (hsit.newOwn _) (fun _ h => h) (fun k hk => heap_push_old w _ k (hsit.domS k hk)) (hown.newOwn hsit.domS hsit.domF _ ⟨rfl, by simp⟩) rfl
def nextSV (l : List UInt8) (k : Nat) : VP := ⟨fun _ _ v => (k < l.length → v = .tuple #[.bool true, .int .i64 (k : Int), .int .i32 ((l.getD k 0).toNat : Int)]) ∧ (¬ k < l.length → v = .tuple #[.bool false]), fun _ _ h => h⟩
theorem decode_ascii {l : List UInt8} {k : Nat} (hk : k < l.length) (h : ∀ b ∈ l, b < 128) : Utf8.decode ⟨l.toArray⟩ k = ((l.getD k 0).toNat, 1) := by
 have hb : (l.getD k 0) < 128 := by
  rw [List.getD_eq_getElem?_getD, List.getElem?_eq_getElem hk]; exact h _ (List.getElem_mem hk)
 have h0 : (ByteArray.mk l.toArray).get! (k + 0) = l.getD k 0 := by
  simp [ByteArray.get!, List.getD_eq_getElem?_getD, hk]
 have hb' : (l.getD k 0).toNat < 128 := by simpa [UInt8.lt_iff_toNat_lt] using hb
 unfold Utf8.decode
 simp only [h0]
 rw [if_pos hb']
theorem opNextS {l : List UInt8} {b k i : Nat} (h : ∀ b ∈ l, b < 128) (hkl : k ≤ l.length) (hx : Opd env x (addrV b 0)) (hi : hs[i]? = some (iterH b l k)) :
    OpE P hs env ⟨dst, .next x true, ty, pos, after, gd⟩ (γ := Unit) (fun _ => True) (fun _ => hs.set i (iterH b l (min (k + 1) l.length))) (fun _ => nextSV l k) := by
  intro c a w S F hsit hown he K Q hk
  have hv := hx S w a he; simp only [exactV] at hv
  obtain ⟨F1, F2, f1, f2, f3, _, f4⟩ := hown.upd hi
  obtain ⟨hFb, hb⟩ := f3
  have hbs : b < w.heap.size := hsit.domF b (f1 b hFb).1
  by_cases hkl' : k < l.length
  · have hr : (execOp a.eval ⟨dst, .next x true, ty, pos, after, gd⟩).run P w = .ok (.value (.tuple #[.bool true, .int .i64 (k : Int), .int .i32 ((l.getD k 0).toNat : Int)])) (putO w b (.stringIter ⟨l.toArray⟩ (k + 1))) := by
      have hd := decode_ascii hkl' h
      have hsz : k < (ByteArray.mk l.toArray).size := by simpa [ByteArray.size] using hkl'
      simp [execOp, hv, Instr.next, getObj, setObj, Sem.run, hb, hd, hsz, putO, goInt]
    unfold Oper.wp
    rw [hr]
    have hne : ∀ k', k' ≠ b → (putO w b (.stringIter ⟨l.toArray⟩ (k + 1))).heap[k']? = w.heap[k']? := fun k' hk' => by simp [putO, Array.getElem?_setIfInBounds_ne (fun e => hk' e.symm)]
    have hag : ∀ k', S k' → (putO w b (.stringIter ⟨l.toArray⟩ (k + 1))).heap[k']? = w.heap[k']? := fun k' hk' => hne k' (fun e => hsit.disj k' hk' (e ▸ (f1 b hFb).1))
    refine hk () _ _ S F trivial (hsit.write (f1 b hFb).1 rfl rfl rfl (by simp [putO]) hne) (fun _ h => h) hag ?_ ⟨fun _ => rfl, fun h' => absurd hkl' h'⟩
    have := f4 S F1 (putO w b (.stringIter ⟨l.toArray⟩ (k + 1))) (iterH b l (min (k + 1) l.length)) (fun k hk => (f1 k hk).2) (fun _ h => h) (fun k hk => hne k (fun e => (f1 b hFb).2 (e ▸ hk))) hag
      ⟨hFb, by rw [show min (k + 1) l.length = k + 1 by omega]; simp [putO, hbs]⟩
    exact this.mono (fun k hk => hk.elim (fun h => (f1 k h).1) (f2 k)) (fun _ h => h) (fun _ _ => rfl) (fun _ _ => rfl)
  · have hr : (execOp a.eval ⟨dst, .next x true, ty, pos, after, gd⟩).run P w = .ok (.value (.tuple #[.bool false])) w := by
      have hsz : ¬ k < (ByteArray.mk l.toArray).size := by simpa [ByteArray.size] using hkl'
      simp [execOp, hv, Instr.next, getObj, Sem.run, hb, hsz]
    unfold Oper.wp
    rw [hr]
    refine hk () _ _ S F trivial hsit (fun _ h => h) (fun _ _ => rfl) ?_ ⟨fun h' => absurd h' hkl', fun _ => rfl⟩
    have := f4 S F1 w (iterH b l (min (k + 1) l.length)) (fun k hk => (f1 k hk).2) (fun _ h => h) (fun _ _ => rfl) (fun _ _ => rfl) ⟨hFb, by rw [show min (k + 1) l.length = k by omega]; exact hb⟩
    exact this.mono (fun k hk => hk.elim (fun h => (f1 k h).1) (f2 k)) (fun _ h => h) (fun _ _ => rfl) (fun _ _ => rfl)
theorem opNext0 {l : List UInt8} {k : Nat} (hx : Opd env x (nextSV l k)) : OpP P hs env ⟨dst, .extract x 0, ty, pos, after, gd⟩ (propV (k < l.length)) :=
 OpP.of_read fun ρ w S F _ he => by
  have hv := he.o _ _ hx
  by_cases h : k < l.length
  · exact ⟨.bool true, by simp [execOp, hv.1 h, Instr.extract], true, rfl, by simp [h]⟩
  · exact ⟨.bool false, by simp [execOp, hv.2 h, Instr.extract], false, rfl, by simp [h]⟩
theorem opNext2 {l : List UInt8} {k : Nat} {e : UInt8} (h : l[k]? = some e) (hx : Opd env x (nextSV l k)) : OpP P hs env ⟨dst, .extract x 2, ty, pos, after, gd⟩ (intV .i32 (e.toNat : Int)) :=
 OpP.of_read fun ρ w S F _ he => by
  have hv := he.o _ _ hx
  have hk := (List.getElem?_eq_some_iff.1 h).1
  have he' : l.getD k 0 = e := by rw [List.getD_eq_getElem?_getD, h]; rfl
  exact ⟨_, by simp [execOp, hv.1 hk, Instr.extract]; rw [← List.getD_eq_getElem?_getD, he'], rfl⟩
instance {α : Type} {n : Nat} {enc : α → List VP} [h : Enc n enc] {xs : List α} : FlatL (xs.flatMap enc) := ⟨fun q hq => let ⟨x, _, hx⟩ := List.mem_flatMap.1 hq; h.flat x q hx⟩
variable {k k' : IntKind} {n m : Int}
theorem opRem (hx : Opd env x (intV k n)) (hy : Opd env y (intV k m)) (h0 : 0 ≤ n) (hm : 0 < m) : OpP P hs env ⟨dst, .binOp .rem T x y T', ty, pos, after, gd⟩ (intV k (n % m)) :=
 OpP.of_read fun ρ w S F _ he => by
  have h1 := he.o _ _ hx; have h2 := he.o _ _ hy; simp only [exactV] at h1 h2
  refine ⟨.int k (n.tmod m), by simp [execOp, h1, h2, go_sem, Op.intDiv]; omega, ?_⟩
  show Value.int k _ = Value.int k _
  rw [Int.tmod_eq_emod_of_nonneg h0]
theorem opQuo (hx : Opd env x (intV k n)) (hy : Opd env y (intV k m)) (h0 : 0 ≤ n) (hm : 0 < m) (hf : fits k (n / m)) : OpP P hs env ⟨dst, .binOp .quo T x y T', ty, pos, after, gd⟩ (intV k (n / m)) :=
 OpP.of_read fun ρ w S F _ he => by
  have h1 := he.o _ _ hx; have h2 := he.o _ _ hy; simp only [exactV] at h1 h2
  refine ⟨.int k (k.wrap (n.tdiv m)), by simp [execOp, h1, h2, go_sem, Op.intDiv]; omega, ?_⟩
  show Value.int k _ = Value.int k _
  rw [Int.tdiv_eq_ediv_of_nonneg h0, wrap_fits hf]
theorem opShl {s : Nat} {hs' : List HP} (hx : Opd env x (intV k n)) (hy : Opd env y (intV k' (s : Int))) (h : s ≤ k.bits) : OpP P hs' env ⟨dst, .binOp .shl T x y T', ty, pos, after, gd⟩ (intV k (k.wrap (n * 2 ^ s))) :=
 OpP.of_read fun ρ w S F _ he => by
  have h1 := he.o _ _ hx; have h2 := he.o _ _ hy; simp only [exactV] at h1 h2
  have hs2 : min (s : Nat) k.bits = s := Nat.min_eq_left h
  have hn : ¬ ((s : Int) < 0) := by omega
  refine ⟨.int k (k.wrap (n * 2 ^ s)), ?_, rfl⟩
  cases k <;> simp only [IntKind.bits] at h <;> simp [execOp, h1, h2, go_sem, Op.shift, hn, Nat.min_eq_left h]
end
end Go.Hl
end
