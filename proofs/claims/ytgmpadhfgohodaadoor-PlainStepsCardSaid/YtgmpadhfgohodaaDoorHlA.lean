/-
  A Hoare logic over the model's walks, in a function's frame and in a round's: stable value predicates, owned heap predicates, the state assertion. No project text.
-/
import Derived.WalkKit
import Derived.OrdersIn
import Derived.TacticsIn
import Derived.CallsIn
namespace Go.Hl
open Go.RowKit
set_option linter.unusedVariables false

abbrev BS := Nat → Prop

/-- A value predicate, stable while the blocks of S stay as they are. -/
structure VP where
  p : BS → World → Value → Prop
  mono : ∀ {S S' : BS} {w w' : World} {v : Value}, (∀ k, S k → S' k) → (∀ k, S k → w'.heap[k]? = w.heap[k]?) → p S w v → p S' w' v

/-- A heap predicate over its own blocks F, reading shared blocks S. -/
structure HP where
  p : BS → BS → World → Prop
  mono : ∀ {F F' S S' : BS} {w w' : World}, (∀ k, F k → F' k) → (∀ k, S k → S' k) → (∀ k, F k → w'.heap[k]? = w.heap[k]?) → (∀ k, S k → w'.heap[k]? = w.heap[k]?) → p F S w → p F' S' w'

def Own : List HP → BS → BS → World → Prop
  | [], _, _, _ => True
  | h :: hs, F, S, w => ∃ F1 F2 : BS, (∀ k, F1 k → F k ∧ ¬ F2 k) ∧ (∀ k, F2 k → F k) ∧ h.p F1 S w ∧ Own hs F2 S w

theorem Own.mono {hs : List HP} {F F' S S' : BS} {w w' : World} (hF : ∀ k, F k → F' k) (hS : ∀ k, S k → S' k) (eF : ∀ k, F k → w'.heap[k]? = w.heap[k]?) (eS : ∀ k, S k → w'.heap[k]? = w.heap[k]?)
    (h : Own hs F S w) : Own hs F' S' w' := by
  induction hs generalizing F F' with
  | nil => trivial
  | cons h' hs ih =>
    obtain ⟨F1, F2, h1, h2, h3, h4⟩ := h
    exact ⟨F1, F2, fun k hk => ⟨hF k (h1 k hk).1, (h1 k hk).2⟩, fun k hk => hF k (h2 k hk),
      h'.mono (fun _ h => h) hS (fun k hk => eF k (h1 k hk).1) eS h3, ih (fun _ h => h) (fun k hk => eF k (h2 k hk)) h4⟩

theorem Own.append {as bs : List HP} {F S : BS} {w : World} : Own (as ++ bs) F S w ↔ ∃ F1 F2 : BS, (∀ k, F1 k → F k ∧ ¬ F2 k) ∧ (∀ k, F2 k → F k) ∧ Own as F1 S w ∧ Own bs F2 S w := by
  induction as generalizing F with
  | nil =>
    constructor
    · intro h; exact ⟨fun _ => False, F, fun _ h => h.elim, fun _ h => h, trivial, h⟩
    · rintro ⟨F1, F2, h1, h2, _, h4⟩; exact h4.mono h2 (fun _ h => h) (fun _ _ => rfl) (fun _ _ => rfl)
  | cons a as ih =>
    constructor
    · rintro ⟨F1, F2, h1, h2, h3, h4⟩
      obtain ⟨G1, G2, g1, g2, g3, g4⟩ := ih.1 h4
      refine ⟨fun k => F1 k ∨ G1 k, G2, ?_, fun k hk => h2 k (g2 k hk), ⟨F1, G1, ?_, fun _ h => .inr h, h3, g3⟩, g4⟩
      · rintro k (hk | hk)
        · exact ⟨(h1 k hk).1, fun hg => (h1 k hk).2 (g2 k hg)⟩
        · exact ⟨h2 k (g1 k hk).1, (g1 k hk).2⟩
      · exact fun k hk => ⟨.inl hk, fun hg => (h1 k hk).2 (g1 k hg).1⟩
    · rintro ⟨F1, F2, h1, h2, ⟨G1, G2, g1, g2, g3, g4⟩, h4⟩
      refine ⟨G1, fun k => G2 k ∨ F2 k, ?_, ?_, g3, ih.2 ⟨G2, F2, ?_, fun _ h => .inr h, g4, h4⟩⟩
      · exact fun k hk => ⟨(h1 k (g1 k hk).1).1, fun h => h.elim (g1 k hk).2 (h1 k (g1 k hk).1).2⟩
      · rintro k (hk | hk)
        · exact (h1 k (g2 k hk)).1
        · exact h2 k hk
      · exact fun k hk => ⟨.inl hk, (h1 k (g2 k hk)).2⟩

theorem Own.swap {as bs : List HP} {F S : BS} {w : World} (h : Own (as ++ bs) F S w) : Own (bs ++ as) F S w := by
  obtain ⟨F1, F2, h1, h2, h3, h4⟩ := Own.append.1 h
  exact Own.append.2 ⟨F2, F1, fun k hk => ⟨h2 k hk, fun hf => (h1 k hf).2 hk⟩, fun k hk => (h1 k hk).1, h4, h3⟩

theorem Own.perm {as bs : List HP} (hp : as.Perm bs) {F S : BS} {w : World} (h : Own as F S w) : Own bs F S w := by
  induction hp generalizing F with
  | nil => exact h
  | cons x _ ih => obtain ⟨F1, F2, h1, h2, h3, h4⟩ := h; exact ⟨F1, F2, h1, h2, h3, ih h4⟩
  | swap x y l =>
    have h' : Own ([y] ++ ([x] ++ l)) F S w := h
    obtain ⟨F1, F2, h1, h2, h3, h4⟩ := Own.append.1 h'
    obtain ⟨G1, G2, g1, g2, g3, g4⟩ := Own.append.1 h4
    refine Own.append (as := [x]) (bs := [y] ++ l) |>.2 ⟨G1, fun k => F1 k ∨ G2 k, ?_, ?_, g3, Own.append.2 ⟨F1, G2, ?_, fun _ h => .inr h, h3, g4⟩⟩
    · exact fun k hk => ⟨h2 k (g1 k hk).1, fun h => h.elim (fun hf => (h1 k hf).2 (g1 k hk).1) (g1 k hk).2⟩
    · rintro k (hk | hk)
      · exact (h1 k hk).1
      · exact h2 k (g2 k hk)
    · exact fun k hk => ⟨.inl hk, fun hg => (h1 k hk).2 (g2 k hg)⟩
  | trans _ _ ih1 ih2 => exact ih2 (ih1 h)

/-! ### environments -/
abbrev Env := List (Nat × VP)
def look : Env → Nat → Option VP
  | [], _ => none
  | (s, q) :: r, t => match Nat.beq s t with | true => some q | false => look r t

theorem look_cons (s : Nat) (q : VP) (r : Env) (t : Nat) : look ((s, q) :: r) t = if s = t then some q else look r t := by
  simp only [look]
  cases h : Nat.beq s t
  · rw [if_neg (by intro e; simp [e] at h)]
  · rw [if_pos (by simpa using h)]

def EnvOk (env : Env) (S : BS) (w : World) (tmps : Array Value) : Prop := ∀ t q, look env t = some q → q.p S w (tmps.getD t undef)

theorem EnvOk.mono {env : Env} {S S' : BS} {w w' : World} {tmps : Array Value} (hS : ∀ k, S k → S' k) (eS : ∀ k, S k → w'.heap[k]? = w.heap[k]?) (h : EnvOk env S w tmps) : EnvOk env S' w' tmps :=
  fun t q hq => q.mono hS eS (h t q hq)

theorem EnvOk.put {env : Env} {S : BS} {w : World} {a : Act} {d : Nat} {q : VP} {v : Value} (h : EnvOk env S w a.tmps) (hq : q.p S w v) (hd : d < a.tmps.size) :
    EnvOk ((d, q) :: env) S w (a.put (some d) v).tmps := by
  intro t q' hl
  rw [look_cons] at hl
  by_cases e : d = t
  · rw [if_pos e] at hl; cases hl; subst e; simpa [Act.put, hd] using hq
  · rw [if_neg e] at hl
    have := h t q' hl
    simp only [Act.put, Array.getD_eq_getD_getElem?] at this ⊢
    rw [Array.getElem?_setIfInBounds_ne e]; exact this

theorem EnvOk.putNone {env : Env} {S : BS} {w : World} {a : Act} {v : Value} (h : EnvOk env S w a.tmps) : EnvOk env S w (a.put none v).tmps := h

/-- the second environment says no more than the first -/
def EnvLe (e e' : Env) : Prop := ∀ S w tmps, EnvOk e S w tmps → EnvOk e' S w tmps
theorem EnvLe.nil (e : Env) : EnvLe e [] := fun _ _ _ _ _ _ h => by cases h
def VLe (q q' : VP) : Prop := ∀ S w v, q.p S w v → q'.p S w v
theorem VLe.refl (q : VP) : VLe q q := fun _ _ _ h => h
theorem VLe.of_eq {q q' : VP} (h : q = q') : VLe q q' := h ▸ VLe.refl q
theorem VLe.trans {a b c : VP} (h : VLe a b) (k : VLe b c) : VLe a c := fun S w v x => k S w v (h S w v x)
theorem EnvLe.cons {e e' : Env} {t : Nat} {q q' : VP} (hl : look e t = some q) (hq : VLe q q') (h : EnvLe e e') : EnvLe e ((t, q') :: e') := by
  intro S w tmps ho s x hx
  rw [look_cons] at hx
  by_cases hs : t = s
  · rw [if_pos hs] at hx; cases hx; subst hs; exact hq _ _ _ (ho t q hl)
  · rw [if_neg hs] at hx; exact h S w tmps ho s x hx

/-- an environment over another one, but for some slots -/
def EnvLeX (X : List Nat) (e e' : Env) : Prop := ∀ t q', X.contains t = false → look e' t = some q' → ∃ q, look e t = some q ∧ VLe q q'
theorem EnvLeX.le {e e' : Env} (h : EnvLeX [] e e') : EnvLe e e' := fun S w tmps ho t q' hl => by
  obtain ⟨q, hq, hle⟩ := h t q' rfl hl
  exact hle _ _ _ (ho t q hq)
theorem EnvLeX.cons {X : List Nat} {e e' : Env} {t : Nat} {q q' : VP} (hl : look e t = some q) (hq : VLe q q') (h : EnvLeX (t :: X) e e') : EnvLeX X e ((t, q') :: e') := by
  intro s x hs hx
  rw [look_cons] at hx
  by_cases hts : t = s
  · rw [if_pos hts] at hx; cases hx; subst hts; exact ⟨q, hl, hq⟩
  · rw [if_neg hts] at hx
    refine h s x ?_ hx
    simp only [List.contains_cons, Bool.or_eq_false_iff]
    exact ⟨by simpa using fun h => hts h.symm, hs⟩
theorem EnvLeX.refl (X : List Nat) (e : Env) : EnvLeX X e e := fun t q' _ h => ⟨q', h, VLe.refl q'⟩
theorem EnvLeX.nil (X : List Nat) (e : Env) : EnvLeX X e [] := fun t q' _ h => by cases h
def hasKey : Env → Nat → Bool
  | [], _ => false
  | (s, _) :: r, t => Nat.beq s t || hasKey r t
theorem look_hasKey {e : Env} {t : Nat} {q : VP} (h : look e t = some q) : hasKey e t = true := by
  induction e with
  | nil => cases h
  | cons p e ih =>
    obtain ⟨s, x⟩ := p
    rw [look_cons] at h
    by_cases hs : s = t
    · simp [hasKey, hs]
    · rw [if_neg hs] at h; simp [hasKey, ih h]
theorem EnvLeX.skip {X : List Nat} {e e' : Env} {t : Nat} {q : VP} (hk : (X.contains t || !hasKey e' t) = true) (h : EnvLeX X e e') : EnvLeX X ((t, q) :: e) e' := by
  intro s x hs hx
  have hne : t ≠ s := by
    intro e1; subst e1
    rw [hs, look_hasKey hx] at hk; simp at hk
  obtain ⟨q', h1, h2⟩ := h s x hs hx
  exact ⟨q', by rw [look_cons, if_neg hne]; exact h1, h2⟩
def skipB (X : List Nat) (e' : Env) : Nat → Env → Bool
  | 0, _ => true
  | m + 1, [] => true
  | m + 1, (t, _) :: r => (X.contains t || !hasKey e' t) && skipB X e' m r
theorem EnvLeX.keepAux {X : List Nat} {e' : Env} : ∀ (m : Nat) (e : Env), skipB X e' m e = true → EnvLeX X (e.drop m) e' → EnvLeX X e e'
  | 0, _, _, h => h
  | m + 1, [], _, h => h
  | m + 1, (t, q) :: r, hb, h => by
    simp only [skipB, Bool.and_eq_true] at hb
    exact EnvLeX.skip hb.1 (EnvLeX.keepAux m r hb.2 h)
/-- the m newest slots are forgotten: none of them is one of the others -/
theorem EnvLeX.keep {X : List Nat} {e e' : Env} (m : Nat) (he : e.drop m = e') (hb : skipB X e' m e = true) : EnvLeX X e e' :=
  EnvLeX.keepAux m e hb (he ▸ EnvLeX.refl X _)
/-- slot by slot -/
theorem EnvLeX.get {X : List Nat} {e : Env} {t : Nat} {q q' : VP} {r : Env} (hl : look e t = some q) (hq : VLe q q') (h : EnvLeX (t :: X) e r) : EnvLeX X e ((t, q') :: r) := EnvLeX.cons hl hq h

/-! ### the state -/
structure Ctx where
  w0 : World
  S0 : BS
  M : BS
  n : Nat
  ro : Option Nat
  df : List Deferred

structure Sit (c : Ctx) (w : World) (S F : BS) : Prop where
  os : w.os = c.w0.os
  tape : w.tape = c.w0.tape
  output : w.output = c.w0.output
  size : c.w0.heap.size ≤ w.heap.size
  kept : ∀ k, k < c.w0.heap.size → ¬ c.M k → w.heap[k]? = c.w0.heap[k]?
  disj : ∀ k, S k → ¬ F k
  domS : ∀ k, S k → k < w.heap.size
  domF : ∀ k, F k → k < w.heap.size
  own : ∀ k, F k → c.M k ∨ c.w0.heap.size ≤ k
  shr : ∀ k, S k → c.S0 k ∨ c.M k ∨ c.w0.heap.size ≤ k
  base : ∀ k, c.S0 k → S k

def St (c : Ctx) (hs : List HP) (env : Env) (a : Act) (w : World) : Prop :=
  a.defers = c.df ∧ a.tmps.size = c.n ∧ ∃ S F, Sit c w S F ∧ Own hs F S w ∧ EnvOk env S w a.tmps

theorem St.mono {c : Ctx} {hs : List HP} {e e' : Env} {a : Act} {w : World} (h : St c hs e a w) (hle : EnvLe e e') : St c hs e' a w := by
  obtain ⟨h1, h2, S, F, h3, h4, h5⟩ := h
  exact ⟨h1, h2, S, F, h3, h4, hle _ _ _ h5⟩
theorem St.permH {c : Ctx} {hs hs' : List HP} {e : Env} {a : Act} {w : World} (h : St c hs e a w) (hp : hs.Perm hs') : St c hs' e a w := by
  obtain ⟨h1, h2, S, F, h3, h4, h5⟩ := h
  exact ⟨h1, h2, S, F, h3, h4.perm hp, h5⟩

/-- a step that changes nothing that was there -/
structure Grow (w w' : World) (S S' : BS) : Prop where
  os : w'.os = w.os
  tape : w'.tape = w.tape
  output : w'.output = w.output
  size : w.heap.size ≤ w'.heap.size
  kept : ∀ k, k < w.heap.size → w'.heap[k]? = w.heap[k]?
  sub : ∀ k, S k → S' k
  new : ∀ k, S' k → S k ∨ (w.heap.size ≤ k ∧ k < w'.heap.size)

theorem Grow.refl (w : World) (S : BS) : Grow w w S S := ⟨rfl, rfl, rfl, Nat.le_refl _, fun _ _ => rfl, fun _ h => h, fun _ h => .inl h⟩
theorem Grow.trans {w w1 w2 : World} {S S1 S2 : BS} (h : Grow w w1 S S1) (k : Grow w1 w2 S1 S2) : Grow w w2 S S2 :=
  ⟨k.os.trans h.os, k.tape.trans h.tape, k.output.trans h.output, Nat.le_trans h.size k.size, fun i hi => (k.kept i (Nat.lt_of_lt_of_le hi h.size)).trans (h.kept i hi), fun i hi => k.sub i (h.sub i hi),
    fun i hi => by
      rcases k.new i hi with h1 | ⟨h1, h2⟩
      · rcases h.new i h1 with h3 | ⟨h3, h4⟩
        · exact .inl h3
        · exact .inr ⟨h3, Nat.lt_of_lt_of_le h4 k.size⟩
      · exact .inr ⟨Nat.le_trans h.size h1, h2⟩⟩

theorem Sit.grow {c : Ctx} {w w' : World} {S S' F : BS} (h : Sit c w S F) (g : Grow w w' S S') : Sit c w' S' F where
  os := g.os.trans h.os
  tape := g.tape.trans h.tape
  output := g.output.trans h.output
  size := Nat.le_trans h.size g.size
  kept := fun k hk hm => (g.kept k (Nat.lt_of_lt_of_le hk h.size)).trans (h.kept k hk hm)
  disj := fun k hk hf => by
    rcases g.new k hk with h1 | ⟨h1, _⟩
    · exact h.disj k h1 hf
    · have := h.domF k hf; omega
  domS := fun k hk => by
    rcases g.new k hk with h1 | ⟨_, h1⟩
    · exact Nat.lt_of_lt_of_le (h.domS k h1) g.size
    · exact h1
  domF := fun k hk => Nat.lt_of_lt_of_le (h.domF k hk) g.size
  own := h.own
  shr := fun k hk => by
    rcases g.new k hk with h1 | ⟨h1, _⟩
    · exact h.shr k h1
    · exact .inr (.inr (Nat.le_trans h.size h1))
  base := fun k hk => g.sub k (h.base k hk)

theorem Grow.env {w w' : World} {S S' : BS} {env : Env} {tmps : Array Value} (g : Grow w w' S S') (hd : ∀ k, S k → k < w.heap.size) (h : EnvOk env S w tmps) : EnvOk env S' w' tmps :=
  h.mono g.sub fun k hk => g.kept k (hd k hk)
theorem Grow.vp {w w' : World} {S S' : BS} {q : VP} {v : Value} (g : Grow w w' S S') (hd : ∀ k, S k → k < w.heap.size) (h : q.p S w v) : q.p S' w' v :=
  q.mono g.sub (fun k hk => g.kept k (hd k hk)) h
theorem Grow.owns {w w' : World} {S S' F : BS} {hs : List HP} (g : Grow w w' S S') (hd : ∀ k, S k → k < w.heap.size) (hf : ∀ k, F k → k < w.heap.size) (h : Own hs F S w) : Own hs F S' w' :=
  h.mono (fun _ h => h) g.sub (fun k hk => g.kept k (hf k hk)) (fun k hk => g.kept k (hd k hk))

theorem Grow.drew (w : World) (S : BS) : Grow w { w with drawn := w.drawn + 1 } S S := ⟨rfl, rfl, rfl, Nat.le_refl _, fun _ _ => rfl, fun _ h => h, fun _ h => .inl h⟩

/-! ### operands -/
def Opd (env : Env) (x : Operand) (q : VP) : Prop := ∀ S w (a : Act), EnvOk env S w a.tmps → q.p S w (a.eval x)
def exactV (v : Value) : VP := ⟨fun _ _ u => u = v, fun _ _ h => h⟩
abbrev intV (k : IntKind) (n : Int) : VP := exactV (.int k n)
def propV (p : Prop) : VP := ⟨fun _ _ v => ∃ b : Bool, v = .bool b ∧ (b = true ↔ p), fun _ _ h => h⟩
theorem Opd.t {env : Env} {t : Nat} {q : VP} (h : look env t = some q) : Opd env (.tmp t) q := fun _ _ _ he => he t q h
theorem Opd.c {env : Env} (v : Value) : Opd env (.const v) (exactV v) := fun _ _ _ _ => rfl
theorem Opd.ct {env : Env} : Opd env (.const (.bool true)) (propV True) := fun _ _ _ _ => ⟨true, rfl, by simp⟩
theorem Opd.cf {env : Env} : Opd env (.const (.bool false)) (propV False) := fun _ _ _ _ => ⟨false, rfl, by simp⟩
theorem Opd.f {env : Env} (f : FuncId) : Opd env (.func f) (exactV (.func (.func f) #[] #[])) := fun _ _ _ _ => rfl
theorem Opd.le {env : Env} {x : Operand} {q q' : VP} (h : Opd env x q) (hq : VLe q q') : Opd env x q' := fun S w a he => hq _ _ _ (h S w a he)

theorem VLe.prop {p q : Prop} (h : p ↔ q) : VLe (propV p) (propV q) := fun _ _ _ ⟨b, hb, hp⟩ => ⟨b, hb, hp.trans h⟩
theorem VLe.int {k : IntKind} {n m : Int} (h : n = m) : VLe (intV k n) (intV k m) := VLe.of_eq (by rw [h])

/-! ### one operation -/
/-- it leaves all that was there as it was, and yields a value -/
def OpP (P : Program) (hs : List HP) (env : Env) (o : Oper) (q : VP) : Prop :=
  ∀ (a : Act) (w : World) (S F : BS), (∀ k, S k → k < w.heap.size) → (∀ k, F k → k < w.heap.size) → (∀ k, S k → ¬ F k) → Own hs F S w → EnvOk env S w a.tmps →
  ∀ (K : Act → World → Prop) (Q : Exit → Act → World → Prop), (∀ v w' S', Grow w w' S S' → q.p S' w' v → K (a.put o.dst v) w') → o.wp P a w K Q

/-- it may change what is owned -/
def OpE (P : Program) (hs : List HP) (env : Env) (o : Oper) {γ : Type} (φ : γ → Prop) (hs' : γ → List HP) (q : γ → VP) : Prop :=
  ∀ (c : Ctx) (a : Act) (w : World) (S F : BS), Sit c w S F → Own hs F S w → EnvOk env S w a.tmps →
  ∀ (K : Act → World → Prop) (Q : Exit → Act → World → Prop),
    (∀ g v w' S' F', φ g → Sit c w' S' F' → (∀ k, S k → S' k) → (∀ k, S k → w'.heap[k]? = w.heap[k]?) → Own (hs' g) F' S' w' → (q g).p S' w' v → K (a.put o.dst v) w') → o.wp P a w K Q

theorem OpP.toE {P : Program} {hs : List HP} {env : Env} {o : Oper} {q : VP} (h : OpP P hs env o q) : OpE P hs env o (γ := Unit) (fun _ => True) (fun _ => hs) (fun _ => q) :=
  fun c a w S F hsit hown henv K Q hk => h a w S F hsit.domS hsit.domF hsit.disj hown henv K Q fun v w' S' g hq =>
    hk () v w' S' F trivial (hsit.grow g) g.sub (fun k hk => g.kept k (hsit.domS k hk)) (g.owns hsit.domS hsit.domF hown) hq

theorem OpP.le {P : Program} {hs : List HP} {env : Env} {o : Oper} {q q' : VP} (h : OpP P hs env o q) (hq : VLe q q') : OpP P hs env o q' :=
  fun a w S F h1 h2 h3 h4 h5 K Q hk => h a w S F h1 h2 h3 h4 h5 K Q fun v w' S' g hv => hk v w' S' g (hq _ _ _ hv)

/-! ### an operation in a function's frame and in a round's -/
/-- no fence; the frame of a function, or of a round of a loop -/
def WF (ρ : Option Nat) : Fence := { Fence.wide with round := ρ }
theorem wf_calls {ρ : Option Nat} {n : Nat} {P : Program} {f : FuncId} {args : Array Value} {w : World} {R : Ending → World → Prop} (h : Calls P f args w R) : CallsIn (WF ρ) n P f args w R := callsIn_wide.2 h
theorem wf_rows {ρ : Option Nat} {n : Nat} {P : Program} {row : String} {args : Array Value} {w : World} {R : Value → World → Prop} (h : Rows P row args w R) : RowsIn (WF ρ) n P row args w R := fun c cs _ =>
  let ⟨v, w', r, s⟩ := h c cs; ⟨v, w', r, (stepsIn_wide (P := P)).2 s⟩
theorem Oper.wp_in {P : Program} {o : Oper} {a : Act} {w : World} {K : Act → World → Prop} {Q : Exit → Act → World → Prop} {ρ : Option Nat} (hd : ∀ c, o.op ≠ .defer c) (h : o.wp P a w K Q) : o.wpIn (WF ρ) 0 P a w K Q := by
  refine ⟨fun _ _ => trivial, ?_⟩
  rw [Oper.semAt_eq _ _ _ hd]
  unfold Oper.wp at h
  cases hr : (execOp a.eval o).run P w with
  | ok v w' =>
    rw [hr] at h
    cases v with
    | value v => exact h
    | skip => exact h
    | defer d => exact h
    | enter f args => exact ⟨fun h0 => (by cases h0), wf_calls h⟩
    | row r args => exact ⟨fun h0 => (by cases h0), wf_rows h⟩
    | _ => exact h.elim
  | halt k w' =>
    rw [hr] at h
    cases k with
    | panic v => exact h
    | _ => exact h.elim
/-- what leaves a frame's deferred calls as they were is no 'defer' -/
theorem Oper.no_defer {P : Program} {o : Oper} {a : Act} {w : World} (h : o.wp P a w (fun a' _ => a'.defers = a.defers) (fun _ _ _ => False)) : ∀ c, o.op ≠ .defer c := by
  intro cl e
  unfold Oper.wp at h
  have hx : execOp a.eval o = (do pure (.defer (← resolve a.eval cl o.type))) := by
    cases o; simp only at e; subst e; rfl
  rw [hx] at h
  simp only [Sem.run_bind] at h
  cases hr : (resolve a.eval cl o.type).run P w with
  | ok d w' =>
    rw [hr] at h
    have h2 : ({ a with defers := d :: a.defers }.put o.dst undef).defers = a.defers := h
    have h3 : ({ a with defers := d :: a.defers }.put o.dst undef).defers = d :: a.defers := by cases o.dst <;> rfl
    rw [h3] at h2
    exact absurd (congrArg List.length h2) (by simp)
  | halt k w' =>
    rw [hr] at h
    cases k with
    | panic v => exact h
    | _ => exact h

/-! ### lists of operations, in order -/
def SeqT (P : Program) (ops : Array Oper) (Q : Exit → Act → World → Prop) (c : Ctx) (l : List Oper) (hs : List HP) (env : Env) : Prop :=
  ∀ a w, St c hs env a w → wpListIn (WF c.ro) 0 P ops Q l a w
def CodeT (P : Program) (Q : Exit → Act → World → Prop) (c : Ctx) (x : Code) (hs : List HP) (env : Env) : Prop :=
  ∀ a w, St c hs env a w → x.wpIn (WF c.ro) 0 P Q a w
/-- what is to be shown at an exit -/
def EndT (Q : Exit → Act → World → Prop) (e : Exit) (c : Ctx) (hs : List HP) (env : Env) : Prop := ∀ a w, St c hs env a w → Q e a w

section
variable {P : Program} {ops : Array Oper} {Q : Exit → Act → World → Prop} {c : Ctx} {l : List Oper} {hs : List HP} {env : Env} {o : Oper} {q : VP}

theorem SeqT.nil (h : EndT Q .normal c hs env) : SeqT P ops Q c [] hs env := fun a w hst => wpListIn_nil (h a w hst)

theorem Act.size_put (a : Act) (d : Option Tmp) (v : Value) : (a.put d v).tmps.size = a.tmps.size := by cases d <;> simp [Act.put]
theorem Act.defers_put (a : Act) (d : Option Tmp) (v : Value) : (a.put d v).defers = a.defers := by cases d <;> rfl

/-- the environment behind an operation that writes d -/
def Env.upd (env : Env) (d : Option Tmp) (q : VP) : Env := match d with | some d => (d, q) :: env | none => env

theorem EnvOk.upd {env : Env} {S : BS} {w : World} {a : Act} {d : Option Tmp} {q : VP} {v : Value} (h : EnvOk env S w a.tmps) (hq : q.p S w v) (hd : ∀ t, d = some t → t < a.tmps.size) :
    EnvOk (Env.upd env d q) S w (a.put d v).tmps := by
  cases d with
  | none => exact h
  | some t => exact h.put hq (hd t rfl)

theorem OpE.noDefer {γ : Type} {φ : γ → Prop} {hs' : γ → List HP} {qs : γ → VP} (h : OpE P hs env o φ hs' qs) {a : Act} {w : World} {S F : BS} (h3 : Sit c w S F) (h4 : Own hs F S w) (h5 : EnvOk env S w a.tmps) : ∀ cl, o.op ≠ .defer cl :=
  Oper.no_defer (h c a w S F h3 h4 h5 (fun a' _ => a'.defers = a.defers) (fun _ _ _ => False) fun g v w' S' F' _ _ _ _ _ _ => Act.defers_put a o.dst v)
theorem SeqT.e {γ : Type} {φ : γ → Prop} {hs' : γ → List HP} {qs : γ → VP} (h : OpE P hs env o φ hs' qs) (hg : o.guard = none) (hd : (match o.dst with | some t => decide (t < c.n) | none => true) = true)
    (k : ∀ g, φ g → SeqT P ops Q c l (hs' g) (Env.upd env o.dst (qs g))) : SeqT P ops Q c (o :: l) hs env := by
  intro a w hst
  obtain ⟨h1, h2, S, F, h3, h4, h5⟩ := hst
  refine wpListIn_plain hg fun K hK => Oper.wp_in (h.noDefer h3 h4 h5) <| h c a w S F h3 h4 h5 K Q fun g v w' S' F' hφ hsit hsub hag hown hq => hK _ _ (k g hφ _ _ ⟨?_, ?_, S', F', hsit, hown, ?_⟩)
  · rw [Act.defers_put]; exact h1
  · rw [Act.size_put]; exact h2
  · refine (h5.mono hsub hag).upd hq fun t ht => ?_
    rw [ht] at hd; rw [h2]; simpa using hd

theorem SeqT.p {d : Tmp} {op : Op} {ty : TypeId} {pos : String} {after : Array Edge} (h : OpP P hs env ⟨some d, op, ty, pos, after, none⟩ q) (hd : Nat.blt d c.n = true)
    (k : SeqT P ops Q c l hs ((d, q) :: env)) : SeqT P ops Q c (⟨some d, op, ty, pos, after, none⟩ :: l) hs env :=
  SeqT.e h.toE rfl (by simpa using hd) (fun _ _ => k)

/-- of an operation that is guarded: where its guard says no, nothing -/
def whenV (p : Prop) (q : VP) : VP := ⟨fun S w v => (p → q.p S w v) ∧ (¬ p → v = undef), fun h1 h2 h => ⟨fun hp => q.mono h1 h2 (h.1 hp), h.2⟩⟩

/-- an operation with its guard -/
def OpG (P : Program) (ops : Array Oper) (n : Nat) (hs : List HP) (env : Env) (o : Oper) (q : VP) : Prop :=
  ∀ (a : Act) (w : World) (S F : BS), a.tmps.size = n → (∀ k, S k → k < w.heap.size) → (∀ k, F k → k < w.heap.size) → (∀ k, S k → ¬ F k) → Own hs F S w → EnvOk env S w a.tmps →
  ∀ (K : Act → World → Prop) (Q : Exit → Act → World → Prop), (∀ v w' S', Grow w w' S S' → q.p S' w' v → K (a.put o.dst v) w') →
    if Region.wanted o (yielded ops a.tmps) then o.wp P a w K Q else K (a.put o.dst undef) w

theorem OpG.plain {n : Nat} (h : OpP P hs env o q) (hg : o.guard = none) : OpG P ops n hs env o q := by
  intro a w S F hn h1 h2 h3 h4 h5 K Q hk
  rw [if_pos (by simp [Region.wanted, hg])]
  exact h a w S F h1 h2 h3 h4 h5 K Q hk

theorem OpG.aux {n : Nat} {j : Nat} {want : Bool} {t : Tmp} {p : Prop} {c : Prop} (hog : o.guard = some (j, want))
    (hj : (ops[j]?).bind (·.dst) = some t) (ht : Nat.blt t n = true)
    (hb : ∀ S w (tmps : Array Value), EnvOk env S w tmps → (c ∧ ∃ b, tmps.getD t undef = .bool b ∧ (b = true ↔ p)) ∨ (¬ c ∧ tmps.getD t undef = undef))
    (h : (c ∧ (if want then p else ¬ p)) → OpP P hs env o q) : OpG P ops n hs env o (whenV (c ∧ (if want then p else ¬ p)) q) := by
  intro a w S F hn h1 h2 h3 h4 h5 K Q hk
  have ht' : t < a.tmps.size := by rw [hn]; simpa using ht
  have h6 : a.tmps[t]? = some (a.tmps.getD t undef) := by simp [ht']
  rcases hb S w a.tmps h5 with ⟨hc, b, hb, hbp⟩ | ⟨hc, hu⟩
  · have hy : yielded ops a.tmps j = some b := by
      unfold yielded; rw [hj]; simp only [Option.bind_some, h6, hb]
    by_cases hw : b = want
    · have hp : (if want then p else ¬ p) := by
        cases want
        · simp at hw ⊢; intro hp'; rw [hbp.2 hp'] at hw; cases hw
        · simpa using hbp.1 hw
      rw [if_pos (by simp [Region.wanted, hog, hy, hw])]
      exact h ⟨hc, hp⟩ a w S F h1 h2 h3 h4 h5 K Q fun v w' S' g hq => hk v w' S' g ⟨fun _ => hq, fun hn => (hn ⟨hc, hp⟩).elim⟩
    · have hp : ¬ (if want then p else ¬ p) := by
        cases want
        · simp at hw ⊢; exact hbp.1 hw
        · intro hp'; exact hw (hbp.2 (by simpa using hp'))
      rw [if_neg (by simp [Region.wanted, hog, hy, hw])]
      exact hk _ _ S (Grow.refl _ _) ⟨fun hn => (hp hn.2).elim, fun _ => rfl⟩
  · have hy : yielded ops a.tmps j = none := by
      unfold yielded; rw [hj]; simp only [Option.bind_some, h6, hu]; rfl
    rw [if_neg (by simp [Region.wanted, hog, hy])]
    exact hk _ _ S (Grow.refl _ _) ⟨fun hn => (hc hn.1).elim, fun _ => rfl⟩

theorem whenV.congr {p p' : Prop} (h : p ↔ p') {q : VP} : VLe (whenV p q) (whenV p' q) := fun _ _ _ hv => ⟨fun hp => hv.1 (h.2 hp), fun hp => hv.2 (fun h' => hp (h.1 h'))⟩
theorem OpG.le {n : Nat} {q' : VP} (h : OpG P ops n hs env o q) (hq : VLe q q') : OpG P ops n hs env o q' := by
  intro a w S F hn h1 h2 h3 h4 h5 K Q hk
  exact h a w S F hn h1 h2 h3 h4 h5 K Q fun v w' S' g hv => hk v w' S' g (hq _ _ _ hv)

/-- guarded by a plain test: true, false -/
theorem OpG.gT {n : Nat} {j : Nat} {t : Tmp} {p : Prop} (hl : look env t = some (propV p)) (hog : o.guard = some (j, true)) (hj : (ops[j]?).bind (·.dst) = some t) (ht : Nat.blt t n = true)
    (h : p → OpP P hs env o q) : OpG P ops n hs env o (whenV p q) :=
  (OpG.aux (c := True) (p := p) hog hj ht (fun S w tmps he => .inl ⟨trivial, he t _ hl⟩) (fun hp => h (by simpa using hp.2))).le (whenV.congr (by simp))
theorem OpG.gF {n : Nat} {j : Nat} {t : Tmp} {p : Prop} (hl : look env t = some (propV p)) (hog : o.guard = some (j, false)) (hj : (ops[j]?).bind (·.dst) = some t) (ht : Nat.blt t n = true)
    (h : ¬ p → OpP P hs env o q) : OpG P ops n hs env o (whenV (¬ p) q) :=
  (OpG.aux (c := True) (p := p) hog hj ht (fun S w tmps he => .inl ⟨trivial, he t _ hl⟩) (fun hp => h (by simpa using hp.2))).le (whenV.congr (by simp))
/-- guarded by a test that is guarded itself -/
theorem OpG.auxW {t : Tmp} {c p : Prop} (hl : look env t = some (whenV c (propV p))) (S : BS) (w : World) (tmps : Array Value) (he : EnvOk env S w tmps) :
    (c ∧ ∃ b, tmps.getD t undef = .bool b ∧ (b = true ↔ p)) ∨ (¬ c ∧ tmps.getD t undef = undef) := by
  have h := he t _ hl
  by_cases hc : c
  · exact .inl ⟨hc, h.1 hc⟩
  · exact .inr ⟨hc, h.2 hc⟩
theorem OpG.hT {n : Nat} {j : Nat} {t : Tmp} {c p : Prop} (hl : look env t = some (whenV c (propV p))) (hog : o.guard = some (j, true)) (hj : (ops[j]?).bind (·.dst) = some t) (ht : Nat.blt t n = true)
    (h : c ∧ p → OpP P hs env o q) : OpG P ops n hs env o (whenV (c ∧ p) q) :=
  (OpG.aux (c := c) (p := p) hog hj ht (OpG.auxW hl) (fun hp => h (by simpa using hp))).le (whenV.congr (by simp))
theorem OpG.hF {n : Nat} {j : Nat} {t : Tmp} {c p : Prop} (hl : look env t = some (whenV c (propV p))) (hog : o.guard = some (j, false)) (hj : (ops[j]?).bind (·.dst) = some t) (ht : Nat.blt t n = true)
    (h : c ∧ ¬ p → OpP P hs env o q) : OpG P ops n hs env o (whenV (c ∧ ¬ p) q) :=
  (OpG.aux (c := c) (p := p) hog hj ht (OpG.auxW hl) (fun hp => h (by simpa using hp))).le (whenV.congr (by simp))

theorem OpG.noDefer {n : Nat} (h : OpG P ops n hs env o q) {a : Act} {w : World} {S F : BS} (hn : a.tmps.size = n) (h3 : Sit c w S F) (h4 : Own hs F S w) (h5 : EnvOk env S w a.tmps) (hw : Region.wanted o (yielded ops a.tmps) = true) : ∀ cl, o.op ≠ .defer cl := by
  have := h a w S F hn h3.domS h3.domF h3.disj h4 h5 (fun a' _ => a'.defers = a.defers) (fun _ _ _ => False) fun v w' S' _ _ => Act.defers_put a o.dst v
  rw [if_pos hw] at this
  exact Oper.no_defer this
theorem wanted_in {n : Nat} (h : OpG P ops n hs env o q) {a : Act} {w : World} {S F : BS} (hn : a.tmps.size = n) (h3 : Sit c w S F) (h4 : Own hs F S w) (h5 : EnvOk env S w a.tmps) {ρ : Option Nat} {K : Act → World → Prop} (k : if Region.wanted o (yielded ops a.tmps) then o.wp P a w K Q else K (a.put o.dst undef) w) :
    if Region.wanted o (yielded ops a.tmps) then o.wpIn (WF ρ) 0 P a w K Q else (∀ f, o.about P w a.eval = some f → (WF ρ).fn f) ∧ K (a.put o.dst undef) w := by
  by_cases hw : Region.wanted o (yielded ops a.tmps) = true
  · rw [if_pos hw] at k ⊢; exact Oper.wp_in (h.noDefer hn h3 h4 h5 hw) k
  · rw [if_neg hw] at k ⊢; exact ⟨fun _ _ => trivial, k⟩
theorem SeqT.g {d : Tmp} (h : OpG P ops c.n hs env o q) (hod : o.dst = some d) (hd : Nat.blt d c.n = true) (k : SeqT P ops Q c l hs ((d, q) :: env)) : SeqT P ops Q c (o :: l) hs env := by
  intro a w hst
  obtain ⟨h1, h2, S, F, h3, h4, h5⟩ := hst
  refine wpListIn_step fun K hK => wanted_in h h2 h3 h4 h5 ?_
  refine h a w S F h2 h3.domS h3.domF h3.disj h4 h5 K Q fun v w' S' g hq => hK _ _ (k _ _ ⟨?_, ?_, S', F, h3.grow g, g.owns h3.domS h3.domF h4, ?_⟩)
  · rw [Act.defers_put]; exact h1
  · rw [Act.size_put]; exact h2
  · rw [hod]; exact (g.env h3.domS h5).put hq (by rw [h2]; simpa using hd)

/-! ### code -/
theorem CodeT.region {id : Nat} (h : SeqT P l.toArray Q c l hs env) : CodeT P Q c (.region id l.toArray false) hs env := fun a w hst => wpIn_region_lit (h a w hst)
theorem CodeT.seq {x y : Code} (h : CodeT P (Exit.then (y.wpIn (WF c.ro) 0 P Q) Q) c x hs env) : CodeT P Q c (.seq x y) hs env := fun a w hst => wpIn_seq (h a w hst)
theorem CodeT.block {id : Nat} {x : Code} (h : CodeT P (Exit.inBlock id Q) c x hs env) : CodeT P Q c (.block id x) hs env := fun a w hst => wpIn_block (h a w hst)
theorem CodeT.skip (h : EndT Q .normal c hs env) : CodeT P Q c .skip hs env := fun a w hst => wpIn_skip (h a w hst)
theorem CodeT.ret (h : EndT Q .ret c hs env) : CodeT P Q c .ret hs env := fun a w hst => wpIn_ret (h a w hst)
theorem CodeT.exit {id : Nat} (h : EndT Q (.exit id) c hs env) : CodeT P Q c (.exit id) hs env := fun a w hst => wpIn_exit (h a w hst)
theorem CodeT.cond {x : Operand} {p : Prop} {s t : Code} (hx : Opd env x (propV p)) (ht : p → CodeT P Q c s hs env) (hf : ¬ p → CodeT P Q c t hs env) : CodeT P Q c (.cond x s t) hs env := by
  intro a w hst
  obtain ⟨b, hb, hbp⟩ := hx _ w a hst.2.2.choose_spec.choose_spec.2.2
  refine wpIn_cond_split hb (fun h => ht (hbp.1 h) a w hst) (fun h => hf (fun hp => ?_) a w hst)
  rw [hbp.2 hp] at h; cases h
theorem CodeT.weak {x : Code} {env' : Env} (hle : EnvLe env env') (h : CodeT P Q c x hs env') : CodeT P Q c x hs env := fun a w hst => h a w (hst.mono hle)
theorem EndT.weak {e : Exit} {env' : Env} (hle : EnvLe env env') (h : EndT Q e c hs env') : EndT Q e c hs env := fun a w hst => h a w (hst.mono hle)
/-- what a slot's predicate says without the world -/
theorem CodeT.fact {x : Code} {t : Nat} {p : Prop} (hl : look env t = some q) (hp : ∀ S w v, q.p S w v → p) (h : p → CodeT P Q c x hs env) : CodeT P Q c x hs env := by
  intro a w hst
  exact h (hp _ _ _ (hst.2.2.choose_spec.choose_spec.2.2 t q hl)) a w hst

theorem CodeT.loop {x : Code} {σ : Type} (ih : σ → List HP) (ie : σ → Env) (φ : σ → Prop) (μ : σ → Nat) (s0 : σ) (h0 : φ s0) (hst0 : ∀ a w, St c hs env a w → St c (ih s0) (ie s0) a w)
    (round : ∀ s, φ s → CodeT P (Exit.then (fun a w => ∃ s', φ s' ∧ μ s' < μ s ∧ St c (ih s') (ie s') a w) Q) c x (ih s) (ie s)) : CodeT P Q c (.loop x) hs env := by
  intro a w hst
  intro b k cs hro hb hr
  have key : ∀ n s, μ s = n → φ s → ∀ a w, St c (ih s) (ie s) a w →
      ∃ e a' w', Q e a' w' ∧ ArrivesIn (Machine.fenced P (WF c.ro)) P (lone (b.atR a (.code x :: .inLoop x :: k)) cs w) b k cs e a' w' := by
    intro n
    induction n using Nat.strongRecOn with
    | _ n IH =>
      intro s hn hs a w hst
      obtain ⟨e, a₁, w₁, hq, harr⟩ := round s hs a w hst b (.inLoop x :: k) cs hro hb hr
      cases e with
      | normal =>
        obtain ⟨s', h1, hlt, h2⟩ := hq
        obtain ⟨e₂, a₂, w₂, hq₂, harr₂⟩ := IH (μ s') (hn ▸ hlt) s' rfl h1 a₁ w₁ h2
        exact ⟨e₂, a₂, w₂, hq₂, .of_steps (StepsIn.trans harr (.one (fenced_calm hb hr rfl) stepR_inLoop)) harr₂⟩
      | exit id => exact ⟨_, a₁, w₁, hq, .pass (x := .inLoop x) rfl (fun _ _ => .inl (by simp)) harr⟩
      | goto l => exact ⟨_, a₁, w₁, hq, .pass (x := .inLoop x) rfl (fun _ _ => .inl (by simp)) harr⟩
      | ret => exact ⟨_, a₁, w₁, hq, .pass (x := .inLoop x) rfl (fun _ _ => .inl (by simp)) harr⟩
      | panic ch => exact ⟨_, a₁, w₁, hq, .pass (x := .inLoop x) rfl (fun _ _ => .inl (by simp)) harr⟩
      | outgrown => exact ⟨_, a₁, w₁, hq, .pass (x := .inLoop x) rfl (fun _ _ => .inl (by simp)) harr⟩
  obtain ⟨e, a', w', hq, harr⟩ := key _ s0 rfl h0 a w (hst0 a w hst)
  exact ⟨e, a', w', hq, .of_steps (.one (fenced_calm hb hr rfl) stepR_loop) harr⟩
end

section
variable {P : Program} {Q : Exit → Act → World → Prop} {c : Ctx} {hs : List HP} {env : Env}
theorem EndT.thenN {x : Code} {ρ : Option Nat} (h : CodeT P Q c x hs env) (hro : c.ro = ρ := by rfl) : EndT (Exit.then (x.wpIn (WF ρ) 0 P Q) Q) .normal c hs env := hro ▸ h
theorem EndT.thenR {K : Act → World → Prop} (h : EndT Q .ret c hs env) : EndT (Exit.then K Q) .ret c hs env := h
theorem EndT.thenX {K : Act → World → Prop} {id : Nat} (h : EndT Q (.exit id) c hs env) : EndT (Exit.then K Q) (.exit id) c hs env := h
theorem EndT.blkN {id : Nat} (h : EndT Q .normal c hs env) : EndT (Exit.inBlock id Q) .normal c hs env := h
theorem EndT.blkR {id : Nat} (h : EndT Q .ret c hs env) : EndT (Exit.inBlock id Q) .ret c hs env := h
theorem EndT.blkX {id : Nat} (h : EndT Q .normal c hs env) : EndT (Exit.inBlock id Q) (.exit id) c hs env := fun a w hst => by
  simp only [Exit.inBlock, if_true]; exact h a w hst
theorem EndT.blkO {id id' : Nat} (hne : Nat.beq id' id = false) (h : EndT Q (.exit id') c hs env) : EndT (Exit.inBlock id Q) (.exit id') c hs env := fun a w hst => by
  have hne' : ¬ id' = id := fun e => by subst e; simp at hne
  simp only [Exit.inBlock, if_neg hne']; exact h a w hst

/-- a loop: what it changes over what was there -/
theorem CodeT.loopO {x : Code} {σ : Type} (ih : σ → List HP) (ov : σ → Env) (φ : σ → Prop) (μ : σ → Nat) (s0 : σ) (h0 : φ s0) (hh : hs = ih s0) (hst0 : EnvLeX [] env (ov s0 ++ env))
    (round : ∀ s, φ s → CodeT P (Exit.then (fun a w => ∃ s', φ s' ∧ μ s' < μ s ∧ St c (ih s') (ov s' ++ env) a w) Q) c x (ih s) (ov s ++ env)) : CodeT P Q c (.loop x) hs env :=
  CodeT.loop ih (fun s => ov s ++ env) φ μ s0 h0 (fun a w h => (hh ▸ h).mono hst0.le) round
theorem EndT.round {σ : Type} {ih : σ → List HP} {ov : σ → Env} {φ : σ → Prop} {m : σ → Prop} {env0 : Env} (s' : σ) (h1 : φ s') (h2 : m s') (hh : hs = ih s') (h3 : EnvLeX [] env (ov s' ++ env0)) :
    EndT (Exit.then (fun a w => ∃ s', φ s' ∧ m s' ∧ St c (ih s') (ov s' ++ env0) a w) Q) .normal c hs env :=
  fun a w hst => ⟨s', h1, h2, (hh ▸ hst).mono h3.le⟩

/-- where ways meet -/
theorem CodeT.cut {x y : Code} {σ : Type} (ih : σ → List HP) (ov : σ → Env) (φ : σ → Prop) (h1 : CodeT P (Exit.then (fun a w => ∃ s, φ s ∧ St c (ih s) (ov s ++ env) a w) Q) c x hs env)
    (h2 : ∀ s, φ s → CodeT P Q c y (ih s) (ov s ++ env)) : CodeT P Q c (.seq x y) hs env := fun a w hst =>
  wpIn_seq (Code.wpIn_mono (fun e a w q => by
    cases e with
    | normal => obtain ⟨s, hs, hst⟩ := q; exact h2 s hs a w hst
    | _ => exact q) (h1 a w hst))
theorem EndT.meet {σ : Type} {ih : σ → List HP} {ov : σ → Env} {φ : σ → Prop} {env0 : Env} (s' : σ) (h1 : φ s') (hh : hs = ih s') (h3 : EnvLeX [] env (ov s' ++ env0)) :
    EndT (Exit.then (fun a w => ∃ s', φ s' ∧ St c (ih s') (ov s' ++ env0) a w) Q) .normal c hs env :=
  fun a w hst => ⟨s', h1, (hh ▸ hst).mono h3.le⟩
end

/-! ### contracts -/
def All2 (ps : List VP) (S : BS) (w : World) (vs : List Value) : Prop := ps.length = vs.length ∧ ∀ (j : Nat) (p : VP) (v : Value), ps[j]? = some p → vs[j]? = some v → p.p S w v

def FnE (P : Program) (f : FuncId) (ps : List VP) (hs : List HP) {γ : Type} (φ : γ → Prop) (hs' : γ → List HP) (q : γ → VP) : Prop :=
  ∀ (w : World) (S F : BS) (vs : Array Value), (∀ k, S k → k < w.heap.size) → (∀ k, F k → k < w.heap.size) → (∀ k, S k → ¬ F k) → Own hs F S w → All2 ps S w vs.toList →
    Calls P f vs w fun e w' => ∃ v S' F' g, e = .returned v ∧ Sit ⟨w, S, F, 0, none, []⟩ w' S' F' ∧ φ g ∧ Own (hs' g) F' S' w' ∧ (q g).p S' w' v

def FnP (P : Program) (f : FuncId) (ps : List VP) (q : VP) : Prop := FnE P f ps [] (γ := Unit) (fun _ => True) (fun _ => []) (fun _ => q)

/-- the slots at a function's beginning -/
def args (ps : List VP) : Env := ps.zipIdx.map fun (p, i) => (i, p)

theorem look_args : ∀ (ps : List VP) (k t : Nat) (q : VP), look ((ps.zipIdx k).map fun (p, i) => (i, p)) t = some q → ∃ j, t = k + j ∧ ps[j]? = some q
  | [], _, _, _, h => by cases h
  | p :: ps, k, t, q, h => by
    rw [List.zipIdx_cons, List.map_cons] at h
    simp only [look_cons] at h
    by_cases e : k = t
    · rw [if_pos e] at h; exact ⟨0, by omega, by simpa using h⟩
    · rw [if_neg e] at h
      obtain ⟨j, h1, h2⟩ := look_args ps (k + 1) t q h
      exact ⟨j + 1, by omega, by simpa using h2⟩

/-- the post of a body -/
def Post (P : Program) (fn : Func) (c : Ctx) {γ : Type} (φ : γ → Prop) (hs' : γ → List HP) (q : γ → VP) : Exit → Act → World → Prop :=
  bodyPost P fn fun e w' => ∃ v S' F' g, e = .returned v ∧ Sit ⟨c.w0, c.S0, c.M, 0, none, []⟩ w' S' F' ∧ φ g ∧ Own (hs' g) F' S' w' ∧ (q g).p S' w' v

theorem FnE.intro {P : Program} {f : FuncId} {fn : Func} {x : Code} {ps : List VP} {hs : List HP} {γ : Type} {φ : γ → Prop} {hs' : γ → List HP} {q : γ → VP}
    (n : Nat) (hf : P.funcs[f]? = some fn) (hb : fn.body = some x) (hnt : fn.ntmps = n) (hn : Nat.ble ps.length n = true)
    (h : ∀ (w0 : World) (S0 M : BS), CodeT P (Post P fn ⟨w0, S0, M, n, none, []⟩ φ hs' q) ⟨w0, S0, M, n, none, []⟩ x hs (args ps)) : FnE P f ps hs φ hs' q := by
  intro w S F vs hS hF hSF hown hall
  have hlen : ps.length = vs.size := by simpa using hall.1
  have hn' : ps.length ≤ n := by simpa using hn
  refine calls_of_wp hf hb (wpIn_wide.1 (h w S F _ _ ⟨rfl, ?_, S, F, ?_, hown, ?_⟩))
  · simp; omega
  · exact ⟨rfl, rfl, rfl, Nat.le_refl _, fun _ _ _ => rfl, hSF, hS, hF, fun k hk => .inl hk, fun k hk => .inl hk, fun _ hk => hk⟩
  · intro t q' hl
    obtain ⟨j, hj, hq⟩ := look_args ps 0 t q' hl
    have htj : t = j := by omega
    subst htj
    have hjl : t < ps.length := (List.getElem?_eq_some_iff.1 hq).1
    have hjv : t < vs.size := by omega
    have : (vs ++ Array.replicate (fn.ntmps - vs.size) undef).getD t undef = vs[t] := by simp [Array.getElem?_append, hjv]
    rw [this]
    exact hall.2 t q' _ hq (by simp [hjv])

theorem Post.ret1 {P : Program} {fn : Func} {c : Ctx} {γ : Type} {φ : γ → Prop} {hs' : γ → List HP} {q : γ → VP} {hs : List HP} {env : Env} {t : Tmp} {x : VP}
    (hr : fn.results = #[.tmp t]) (hl : look env t = some x) (g : γ) (hφ : φ g) (hh : ∀ F S w, Own hs F S w → Own (hs' g) F S w) (hx : VLe x (q g)) (hdf : c.df = [] := by rfl) : EndT (Post P fn c φ hs' q) .ret c hs env := by
  intro a w hst
  obtain ⟨h1, h2, S, F, h3, h4, h5⟩ := hst
  exact ⟨h1.trans hdf, _, results_tmp hr _ _ _, _, S, F, g, rfl, ⟨h3.os, h3.tape, h3.output, h3.size, h3.kept, h3.disj, h3.domS, h3.domF, h3.own, h3.shr, h3.base⟩, hφ, hh _ _ _ h4, hx _ _ _ (h5 t x hl)⟩

theorem Post.retP {P : Program} {fn : Func} {c : Ctx} {q : VP} {hs : List HP} {env : Env} {t : Tmp} {x : VP}
    (hr : fn.results = #[.tmp t]) (hl : look env t = some x) (hx : VLe x q) (hdf : c.df = [] := by rfl) : EndT (Post P fn c (γ := Unit) (fun _ => True) (fun _ => []) (fun _ => q)) .ret c hs env :=
  Post.ret1 hr hl () trivial (fun _ _ _ _ => trivial) hx hdf

def tupV (qs : List VP) : VP := ⟨fun S w v => ∃ vs : Array Value, v = .tuple vs ∧ All2 qs S w vs.toList,
  fun h1 h2 ⟨vs, hv, hl, hp⟩ => ⟨vs, hv, hl, fun j p v hj hv' => p.mono h1 h2 (hp j p v hj hv')⟩⟩

theorem Post.ret2 {P : Program} {fn : Func} {c : Ctx} {γ : Type} {φ : γ → Prop} {hs' : γ → List HP} {q : γ → VP} {hs : List HP} {env : Env} {t u : Tmp} {x y x' y' : VP}
    (hr : fn.results = #[.tmp t, .tmp u]) (hl : look env t = some x) (hm : look env u = some y) (g : γ) (hφ : φ g) (hh : ∀ F S w, Own hs F S w → Own (hs' g) F S w) (hq : q g = tupV [x', y']) (hx : VLe x x') (hy : VLe y y') (hdf : c.df = [] := by rfl) :
    EndT (Post P fn c φ hs' q) .ret c hs env := by
  intro a w hst
  obtain ⟨h1, h2, S, F, h3, h4, h5⟩ := hst
  refine ⟨h1.trans hdf, _, results_tmp2 hr _ _ _, _, S, F, g, rfl, ⟨h3.os, h3.tape, h3.output, h3.size, h3.kept, h3.disj, h3.domS, h3.domF, h3.own, h3.shr, h3.base⟩, hφ, hh _ _ _ h4, ?_⟩
  rw [hq]
  refine ⟨_, rfl, rfl, fun j p v hj hv => ?_⟩
  match j, hj, hv with
  | 0, hj, hv => simp at hj hv; subst hj; subst hv; exact hx _ _ _ (by simpa using h5 t x hl)
  | 1, hj, hv => simp at hj hv; subst hj; subst hv; exact hy _ _ _ (by simpa using h5 u y hm)

end Go.Hl
