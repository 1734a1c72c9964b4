/-
  A range over a function: the iterator, and the rounds. No project text.
-/
import Derived.Test.YtghmenjcnopibaaGreatDoorHlV
import Derived.RangeFuncIn
import Derived.RangeFuncRecord
import Derived.RangeFuncLeaves
namespace Go.Hl
open Go.RowKit
set_option linter.unusedVariables false

/-- a function's value over captured ones -/
def closV (f : FuncId) (ps : List VP) : VP := ⟨fun S w v => ∃ lb : List Value, v = .func (.func f) #[] lb.toArray ∧ All2 ps S w lb, fun h1 h2 ⟨lb, hv, h⟩ => ⟨lb, hv, h.mono h1 h2⟩⟩
instance (f : FuncId) (ps : List VP) : Flat (closV f ps) := ⟨fun ⟨_, h, _⟩ => by subst h; exact ⟨rfl, rfl⟩⟩
structure RecD where
  fn : FuncId
  tmps : Array Value
  ps : Array Tmp
  assign : Code
  body : Code
def RecD.loop (r : RecD) (D : Nat) (st : LoopState) : Loop := { state := st, pending := none, fn := r.fn, tmps := r.tmps, params := r.ps, assign := r.assign, body := r.body, defers := D }
/-- a loop's record, what its slots hold, and the block for its rounds' deferred calls -/
def recH (l D : Nat) (st : LoopState) (r : RecD) (e : Env) : HP :=
  ⟨fun F S w => (F l ∧ F D ∧ l ≠ D) ∧ w.heap[l]? = some (.loop (r.loop D st)) ∧ w.heap[D]? = some (.deferred (some [])) ∧ EnvOk e S w r.tmps,
   fun h1 h2 h3 h4 ⟨⟨a, b, c⟩, h, k, he⟩ => ⟨⟨h1 _ a, h1 _ b, c⟩, (h3 _ a).trans h, (h3 _ b).trans k, he.mono h2 h4⟩⟩
def markH (D : Nat) : HP := ⟨fun F S w => F D ∧ w.heap[D]? = some (.deferred (some [])), fun h1 h2 h3 h4 ⟨a, h⟩ => ⟨h1 _ a, (h3 _ a).trans h⟩⟩
theorem rec_mark {l D : Nat} {st : LoopState} {r : RecD} {e : Env} {hs : List HP} : OLe (recH l D st r e :: hs) (markH D :: hs) := fun F S w ⟨F1, F2, h1, h2, ⟨⟨_, b, _⟩, _, k, _⟩, h4⟩ => ⟨F1, F2, h1, h2, ⟨b, k⟩, h4⟩
abbrev yV (l : Nat) : VP := exactV (.func (.yield l) #[] #[])

/-- a part of what is owned is turned -/
theorem Sit.over {c : Ctx} {w w' : World} {S F F1 F2 S' F1' : BS} {hs' rest : List HP} (hsit : Sit c w S F) (hF1 : ∀ k, F1 k → F k ∧ ¬ F2 k) (hF2 : ∀ k, F2 k → F k) (ho2 : Own rest F2 S w) {nn : Nat} {ρ : Option Nat} {df : List Deferred} (h2 : Sit ⟨w, S, F1, nn, ρ, df⟩ w' S' F1') (hown' : Own hs' F1' S' w') :
    Sit c w' S' (fun k => F1' k ∨ F2 k) ∧ (∀ k, S k → S' k) ∧ (∀ k, S k → w'.heap[k]? = w.heap[k]?) ∧ Own (hs' ++ rest) (fun k => F1' k ∨ F2 k) S' w' := by
  have hSF : ∀ k, S k → ¬ F1 k := fun k hk hf => hsit.disj k hk (hF1 k hf).1
  have hoS : ∀ k, S k → w'.heap[k]? = w.heap[k]? := fun k hk => h2.kept k (hsit.domS k hk) (hSF k hk)
  have ho2F : ∀ k, F2 k → ¬ F1 k := fun k hk hf => (hF1 k hf).2 hk
  refine ⟨⟨h2.os.trans hsit.os, h2.tape.trans hsit.tape, h2.output.trans hsit.output, Nat.le_trans hsit.size h2.size, fun k hk hm => ?_, fun k hk hf => ?_, h2.domS, fun k hk => ?_, fun k hk => ?_, fun k hk => ?_, fun k hk => h2.base k (hsit.base k hk)⟩, h2.base, hoS, ?_⟩
  · have hnF : ¬ F1 k := fun hf => (hsit.own k (hF1 k hf).1).elim hm (fun h => by omega)
    exact (h2.kept k (Nat.lt_of_lt_of_le hk hsit.size) hnF).trans (hsit.kept k hk hm)
  · rcases hf with hf | hf
    · exact h2.disj k hk hf
    · rcases h2.shr k hk with h | h | h
      · exact hsit.disj k h (hF2 k hf)
      · exact (hF1 k h).2 hf
      · exact Nat.lt_irrefl _ (Nat.lt_of_lt_of_le (hsit.domF k (hF2 k hf)) h)
  · rcases hk with hk | hk
    · exact h2.domF k hk
    · exact Nat.lt_of_lt_of_le (hsit.domF k (hF2 k hk)) h2.size
  · rcases hk with hk | hk
    · rcases h2.own k hk with h | h
      · exact hsit.own k (hF1 k h).1
      · exact .inr (Nat.le_trans hsit.size h)
    · exact hsit.own k (hF2 k hk)
  · rcases h2.shr k hk with h | h | h
    · exact hsit.shr k h
    · exact .inr (hsit.own k (hF1 k h).1)
    · exact .inr (.inr (Nat.le_trans hsit.size h))
  · refine Own.append.2 ⟨F1', F2, fun k hk => ⟨.inl hk, fun hf => ?_⟩, fun k hk => .inr hk, hown', ho2.mono (fun _ h => h) h2.base (fun k hk => h2.kept k (hsit.domF k (hF2 k hk)) (ho2F k hk)) hoS⟩
    rcases h2.own k hk with h | h
    · exact (hF1 k h).2 hf
    · exact Nat.lt_irrefl _ (Nat.lt_of_lt_of_le (hsit.domF k (hF2 k hf)) h)

/-- what a round leaves -/
def RndR (c : Ctx) (hs' : List HP) : Ending → World → Prop := fun e w' => e = .returned (.bool true) ∧ ∃ S' F', Sit ⟨c.w0, c.S0, c.M, 0, none, []⟩ w' S' F' ∧ Own hs' F' S' w'
/-- a call of yield: a round that goes on -/
def YldE (P : Program) (l : Nat) (ps : List VP) (hs hs' : List HP) : Prop :=
  ∀ (w : World) (S F : BS) (vs : List Value), (∀ k, S k → k < w.heap.size) → (∀ k, F k → k < w.heap.size) → (∀ k, S k → ¬ F k) → Own hs F S w → All2 ps S w vs →
    ∃ (fn : FuncId) (tmps : Array Value) (assign body : Code), (Instr.yield l vs.toArray).run P w = .ok (.round l fn tmps assign body) w ∧ RoundIn (WF none) 0 P l fn tmps assign body w (RndR ⟨w, S, F, 0, none, []⟩ hs')

section
variable {P : Program} {ops : Array Oper} {Q : Exit → Act → World → Prop} {c : Ctx} {hs : List HP} {env : Env} {q : VP} {dst : Option Tmp} {ty T T' : TypeId} {pos : String} {after : Array Edge} {gd : Option (Nat × Bool)} {x y z : Operand}

theorem opMakeClos {f : FuncId} {cs : List VP} {ys : List Operand} (h2 : Opds env ys cs) : OpP P hs env ⟨dst, .makeFunc (.func f) #[] ys.toArray, ty, pos, after, gd⟩ (closV f cs) := by
  intro a w S F _ _ _ _ he K Q hk
  unfold Oper.wp
  exact hk _ w S (Grow.refl _ _) ⟨_, by simp, h2 S w a he⟩

theorem SeqT.yld {lst : List Oper} {l d : Nat} {ys : List Operand} {ats : Array TypeId} {ps : List VP} {hs0 hs1 rest : List HP} (hY : YldE P l ps hs0 hs1) (hx : Opd env x (yV l)) (hys : Opds env ys ps) (hp : hs.Perm (hs0 ++ rest)) (hd : Nat.blt d c.n = true)
    (k : SeqT P ops Q c lst (hs1 ++ rest) ((d, propV True) :: env)) : SeqT P ops Q c (⟨some d, .call ⟨.value x, ys.toArray, ats⟩, ty, pos, after, none⟩ :: lst) hs env := by
  intro a w hst
  obtain ⟨h1, h2, S, F, h3, h4, h5⟩ := hst
  obtain ⟨F1, F2, hF1, hF2, ho1, ho2⟩ := Own.append.1 (h4.perm hp)
  have hd1 : ∀ k, F1 k → k < w.heap.size := fun k hk => h3.domF k (hF1 k hk).1
  have hSF : ∀ k, S k → ¬ F1 k := fun k hk hf => h3.disj k hk (hF1 k hf).1
  obtain ⟨fn, tmps, assign, body, hyl, hrd⟩ := hY w S F1 _ h3.domS hd1 hSF ho1 (hys S w a h5)
  have hv := hx S w a h5; simp only [exactV] at hv
  refine wpListIn_plain rfl fun K hK => ⟨fun _ _ => trivial, ?_⟩
  rw [Oper.semAt_eq _ _ _ (fun _ e => by cases e)]
  have hr : (execOp a.eval ⟨some d, .call ⟨.value x, ys.toArray, ats⟩, ty, pos, after, none⟩).run P w = .ok (.round l fn tmps assign body) w := by
    simp [execOp, resolve, Deferred.ofValue, invoke, hv] at hyl ⊢
    exact hyl
  rw [hr]
  refine ⟨fun h => (by cases h), RoundIn.mono (F := WF c.ro) hrd ?_⟩
  rintro e w' ⟨rfl, S', F1', hs', ho'⟩
  obtain ⟨k1, k2, k3, k4⟩ := h3.over hF1 hF2 ho2 hs' ho'
  refine hK _ _ (k _ _ ⟨?_, ?_, S', _, k1, k4, ?_⟩)
  · rw [Act.defers_put]; exact h1
  · rw [Act.size_put]; exact h2
  · exact (h5.mono k2 k3).put ⟨true, rfl, by simp⟩ (by rw [h2]; simpa using hd)

/-! ### a round -/
def RndB (P : Program) (l : Nat) (c : Ctx) (hs' : List HP) : Exit → Act → World → Prop := roundPost P l (RndR c hs')
def RndA (P : Program) (l : Nat) (c : Ctx) (hs' : List HP) (body : Code) : Exit → Act → World → Prop := Exit.then (fun a w => ∃ w₂, (Instr.beginRound l).run P w = .ok () w₂ ∧ body.wpIn (WF (some l)) 0 P (RndB P l c hs') a w₂) (fun _ _ _ => False)
/-- the head of what is owned is turned in its block -/
theorem Sit.put0 {c : Ctx} {w : World} {S F : BS} {h0 h1 : HP} (hsit : Sit c w S F) (hown : Own (h0 :: hs) F S w) {m : Nat} {o : Obj} (hF : ∀ F1, h0.p F1 S w → F1 m) (hp : ∀ F1, (∀ k, S k → (w.putObj m o).heap[k]? = w.heap[k]?) → h0.p F1 S w → h1.p F1 S (w.putObj m o)) : Sit c (w.putObj m o) S F ∧ Own (h1 :: hs) F S (w.putObj m o) ∧ (∀ k, S k → (w.putObj m o).heap[k]? = w.heap[k]?) := by
  obtain ⟨F1, F2, f1, f2, f3, f4⟩ := hown
  have hFm := hF F1 f3
  have hne : ∀ k, k ≠ m → (w.putObj m o).heap[k]? = w.heap[k]? := fun k hk => World.putObj_heap_other hk
  have hag : ∀ k, S k → (w.putObj m o).heap[k]? = w.heap[k]? := fun k hk => hne k (fun e => hsit.disj k hk (e ▸ (f1 m hFm).1))
  exact ⟨hsit.write (f1 m hFm).1 rfl rfl rfl World.putObj_size hne, ⟨F1, F2, f1, f2, hp F1 hag f3, f4.mono (fun _ h => h) (fun _ h => h) (fun k hk => hne k (fun e => (f1 m hFm).2 (e ▸ hk))) hag⟩, hag⟩
theorem recH.turn {l D : Nat} {st st' : LoopState} {r : RecD} {e0 : Env} {F1 S : BS} {w : World} (hag : ∀ k, S k → (w.putObj l (.loop (r.loop D st'))).heap[k]? = w.heap[k]?) (h : (recH l D st r e0).p F1 S w) : (recH l D st' r e0).p F1 S (w.putObj l (.loop (r.loop D st'))) := by
  obtain ⟨⟨a, b, c⟩, h, k, he⟩ := h
  exact ⟨⟨a, b, c⟩, World.putObj_heap_same (Array.getElem?_eq_some_iff.1 h).1, (World.putObj_heap_other (fun e => c e.symm)).trans k, he.mono (fun _ h => h) hag⟩
theorem EndT.begin {l D : Nat} {r : RecD} {e0 : Env} {hs' : List HP} {body : Code} {c' : Ctx} (h : CodeT P (RndB P l c' hs') c body (recH l D .busy r e0 :: hs) env) (hro : c.ro = some l := by rfl) : EndT (RndA P l c' hs' body) .normal c (recH l D .ready r e0 :: hs) env := by
  intro a w hst
  obtain ⟨h1, h2, S, F, h3, h4, h5⟩ := hst
  obtain ⟨F1, F2, f1, f2, f3, f4⟩ := id h4
  have hl := f3.2.1
  obtain ⟨k1, k2, k3⟩ := h3.put0 (h1 := recH l D .busy r e0) (m := l) (o := .loop (r.loop D .busy)) h4 (fun F1 h => h.1.1) (fun F1 hag h => recH.turn hag h)
  refine ⟨_, run_beginRound hl rfl, ?_⟩
  have := h a _ ⟨h1, h2, S, F, k1, k2, h5.mono (fun _ h => h) k3⟩
  rw [hro] at this; exact this
theorem EndT.endRound {l D : Nat} {r : RecD} {e0 : Env} {hs' : List HP} {c' : Ctx} (hc : c'.w0 = c.w0 ∧ c'.S0 = c.S0 ∧ c'.M = c.M := by exact ⟨rfl, rfl, rfl⟩) : EndT (RndB P l c' (recH l D .ready r e0 :: hs')) .normal c (recH l D .busy r e0 :: hs') env := by
  intro a w hst
  obtain ⟨h1, h2, S, F, h3, h4, h5⟩ := hst
  obtain ⟨F1, F2, f1, f2, f3, f4⟩ := id h4
  have hl := f3.2.1
  obtain ⟨k1, k2, k3⟩ := h3.put0 (h1 := recH l D .ready r e0) (m := l) (o := .loop (r.loop D .ready)) h4 (fun F1 h => h.1.1) (fun F1 hag h => recH.turn hag h)
  refine ⟨_, _, run_endRound none hl, rfl, S, F, ?_, k2⟩
  obtain ⟨e1, e2, e3⟩ := hc
  rw [e1, e2, e3]
  exact ⟨k1.os, k1.tape, k1.output, k1.size, k1.kept, k1.disj, k1.domS, k1.domF, k1.own, k1.shr, k1.base⟩

/-- the slots at a round's beginning -/
def argsAt : List Tmp → List VP → Env
  | t :: ts, p :: ps => (t, p) :: argsAt ts ps
  | _, _ => []
theorem argsAt_ok {S : BS} {w : World} {env : Env} : ∀ (ts : List Tmp) (ps : List VP) (vs : List Value) (tmps : Array Value), ts.length = ps.length → All2 ps S w vs → EnvOk env S w tmps → (∀ t ∈ ts, t < tmps.size) → ts.Nodup →
    EnvOk (argsAt ts ps ++ env) S w ((ts.zip vs).foldl (fun tmps (p : Tmp × Value) => tmps.setIfInBounds p.1 p.2) tmps)
  | [], ps, vs, tmps, hl, hv, he, _, _ => by
    cases ps with
    | nil => cases vs <;> exact he
    | cons p ps => simp at hl
  | t :: ts, ps, vs, tmps, hl, hv, he, ht, hn => by
    cases ps with
    | nil => simp at hl
    | cons p ps =>
      cases vs with
      | nil => have := hv.1; simp at this
      | cons v vs =>
        rw [List.nodup_cons] at hn
        have h0 : p.p S w v := hv.2 0 p v rfl rfl
        have hv' : All2 ps S w vs := ⟨by have := hv.1; simpa using this, fun j q u hq hu => hv.2 (j + 1) q u (by simpa using hq) (by simpa using hu)⟩
        have he' : EnvOk ((t, p) :: env) S w (tmps.setIfInBounds t v) := EnvOk.put (a := { tmps := tmps, defers := [] }) he h0 (ht t (List.mem_cons_self ..))
        have ih := argsAt_ok ts ps vs (tmps.setIfInBounds t v) (by simpa using hl) hv' he' (fun u hu => by simp; exact ht u (List.mem_cons_of_mem _ hu)) hn.2
        intro u q hq
        refine ih u q ?_
        have key : ∀ (ts : List Tmp) (ps : List VP), t ∉ ts → look ((t, p) :: (argsAt ts ps ++ env)) u = some q → look (argsAt ts ps ++ (t, p) :: env) u = some q := by
          intro ts
          induction ts with
          | nil => intro ps _ h; cases ps <;> exact h
          | cons s ts ih2 =>
            intro ps hs h
            cases ps with
            | nil => exact h
            | cons p2 ps =>
              simp only [argsAt, List.cons_append, look_cons] at h ⊢
              by_cases e : s = u
              · rw [if_pos e] at h ⊢
                rw [if_neg (fun e2 : t = u => hs (by rw [e2, ← e]; exact List.mem_cons_self ..))] at h; exact h
              · rw [if_neg e] at h ⊢
                exact ih2 ps (fun hm => hs (List.mem_cons_of_mem _ hm)) (by rw [look_cons]; exact h)
        exact key ts ps hn.1 hq

theorem yld_of_round {l D : Nat} {r : RecD} {e0 : Env} {n : Nat} {arg : List VP} {hs hs' : List HP} (hlen : r.ps.toList.length = arg.length) (hsz : r.tmps.size = n) (hlt : ∀ t ∈ r.ps.toList, t < n) (hnd : r.ps.toList.Nodup)
    (hround : ∀ (w0 : World) (S0 M : BS), CodeT P (RndA P l ⟨w0, S0, M, n, some l, []⟩ (recH l D .ready r e0 :: hs') r.body) ⟨w0, S0, M, n, some l, []⟩ r.assign (recH l D .ready r e0 :: hs) (argsAt r.ps.toList arg ++ e0)) : YldE P l arg (recH l D .ready r e0 :: hs) (recH l D .ready r e0 :: hs') := by
  intro w S F vs hS hF hSF hown hall
  obtain ⟨F1, F2, f1, f2, f3, f4⟩ := id hown
  have hl := f3.2.1
  have hvl : vs.length = r.ps.size := by rw [← hall.1, ← hlen]; simp
  refine ⟨r.fn, _, r.assign, r.body, run_yield hl (by simpa [RecD.loop] using hvl), ?_⟩
  refine roundIn_of_wpIn (F := WF none) trivial ?_
  refine hround w S F { tmps := _, defers := [] } w ⟨rfl, ?_, S, F, ⟨rfl, rfl, rfl, Nat.le_refl _, fun _ _ _ => rfl, hSF, hS, hF, fun k hk => .inl hk, fun k hk => .inl hk, fun _ hk => hk⟩, hown, ?_⟩
  · have hfs : ∀ (l : List (Tmp × Value)) (tmps : Array Value), (l.foldl (fun tmps (p : Tmp × Value) => tmps.setIfInBounds p.1 p.2) tmps).size = tmps.size := by
      intro l
      induction l with
      | nil => intro _; rfl
      | cons p l ih => intro tmps; rw [List.foldl_cons, ih]; simp
    show ((r.ps.zip vs.toArray).foldl (fun tmps (p : Tmp × Value) => tmps.setIfInBounds p.1 p.2) r.tmps).size = n
    rw [← Array.foldl_toList]
    exact (hfs _ _).trans hsz
  · have := argsAt_ok (env := e0) r.ps.toList arg vs r.tmps hlen hall f3.2.2.2 (fun t ht => by rw [hsz]; exact hlt t ht) hnd
    show EnvOk _ S w ((r.ps.zip vs.toArray).foldl (fun tmps (p : Tmp × Value) => tmps.setIfInBounds p.1 p.2) r.tmps)
    rw [← Array.foldl_toList]
    have e : (r.ps.zip vs.toArray).toList = r.ps.toList.zip vs := by simp
    rw [e]; exact this
end

/-! ### a function that holds one -/
def PostM (P : Program) (fn : Func) (c : Ctx) {γ : Type} (φ : γ → Prop) (hs' : γ → List HP) (q : γ → VP) : Exit → Act → World → Prop :=
  bodyPostM (WF none) 0 P fn fun e w' => ∃ v S' F' g, e = .returned v ∧ Sit ⟨c.w0, c.S0, c.M, 0, none, []⟩ w' S' F' ∧ φ g ∧ Own (hs' g) F' S' w' ∧ (q g).p S' w' v
theorem FnE.introM {P : Program} {f : FuncId} {fn : Func} {x : Code} {ps : List VP} {hs : List HP} {γ : Type} {φ : γ → Prop} {hs' : γ → List HP} {q : γ → VP}
    (n : Nat) (hf : P.funcs[f]? = some fn) (hb : fn.body = some x) (hnt : fn.ntmps = n) (hn : Nat.ble ps.length n = true)
    (h : ∀ (w0 : World) (S0 M : BS), CodeT P (PostM P fn ⟨w0, S0, M, n, none, []⟩ φ hs' q) ⟨w0, S0, M, n, none, []⟩ x hs (args ps)) : FnE P f ps hs φ hs' q := by
  intro w S F vs hS hF hSF hown hall
  have hlen : ps.length = vs.size := by simpa using hall.1
  have hn' : ps.length ≤ n := by simpa using hn
  refine callsIn_wide.1 (callsIn_of_wp_marks (F := WF none) (n := 0) hf hb trivial (h w S F _ _ ⟨rfl, ?_, S, F, ?_, hown, ?_⟩))
  · simp; omega
  · exact ⟨rfl, rfl, rfl, Nat.le_refl _, fun _ _ _ => rfl, hSF, hS, hF, fun k hk => .inl hk, fun k hk => .inl hk, fun _ hk => hk⟩
  · intro t q' hl
    obtain ⟨j, hj, hq⟩ := look_args ps 0 t q' hl
    have htj : t = j := by omega
    subst htj
    have hjl : t < ps.length := (List.getElem?_eq_some_iff.1 hq).1
    have hjv : t < vs.size := by omega
    have : (vs ++ Array.replicate (fn.ntmps - vs.size) undef).getD t undef = vs[t] := by simp [Array.getElem?_append, hjv]
    rw [this]
    exact hall.2 t q' _ hq (by simp [hjv])

section
variable {P : Program} {Q : Exit → Act → World → Prop} {c : Ctx} {hs : List HP} {env : Env}
abbrev markD (D : Nat) : List Deferred := [{ target := .collected D, args := #[] }]
theorem PostM.leave {fn : Func} {c0 : Ctx} {γ : Type} {φ : γ → Prop} {hs' : γ → List HP} {q : γ → VP} {D : Nat} (hdf : c.df = markD D) (hc : c0.w0 = c.w0 ∧ c0.S0 = c.S0 ∧ c0.M = c.M) (g : γ) (hφ : φ g) (hh : ∀ F S w, Own hs F S w → Own (hs' g) F S w)
    (hres : ∀ F S w (tmps : Array Value), Own hs F S w → EnvOk env S w tmps → ∃ v, (results fn tmps).run P w = .ok v w ∧ (q g).p S w v) : EndT (PostM P fn c0 φ hs' q) .ret c (markH D :: hs) env := by
  intro a w hst
  obtain ⟨h1, h2, S, F, h3, h4, h5⟩ := hst
  obtain ⟨F1, F2, f1, f2, f3, f4⟩ := id h4
  obtain ⟨hFD, hD⟩ := f3
  have hne : ∀ k, k ≠ D → (w.putObj D (.deferred none)).heap[k]? = w.heap[k]? := fun k hk => World.putObj_heap_other hk
  have hag : ∀ k, S k → (w.putObj D (.deferred none)).heap[k]? = w.heap[k]? := fun k hk => hne k (fun e => h3.disj k hk (e ▸ (f1 D hFD).1))
  have k1 : Sit c (w.putObj D (.deferred none)) S F := h3.write (f1 D hFD).1 rfl rfl rfl World.putObj_size hne
  have k2 : Own hs F S (w.putObj D (.deferred none)) := f4.mono f2 (fun _ h => h) (fun k hk => hne k (fun e => (f1 D hFD).2 (e ▸ hk))) hag
  obtain ⟨v, hv, hq⟩ := hres _ _ _ a.tmps k2 (h5.mono (fun _ h => h) hag)
  obtain ⟨e1, e2, e3⟩ := hc
  show LeavesInM (WF none) 0 P fn a.tmps _ a.defers .returning w
  rw [h1, hdf]
  refine ⟨fun e => (by cases e), .inl ⟨D, _, rfl, run_takeDeferred hD, v, hv, v, S, F, g, rfl, ?_, hφ, hh _ _ _ k2, hq⟩⟩
  rw [e1, e2, e3]
  exact ⟨k1.os, k1.tape, k1.output, k1.size, k1.kept, k1.disj, k1.domS, k1.domF, k1.own, k1.shr, k1.base⟩
theorem PostM.retR1 {fn : Func} {c0 : Ctx} {γ : Type} {φ : γ → Prop} {hs' : γ → List HP} {q : γ → VP} {r : ResultVar} {q0 : VP} {D : Nat} (hr : fn.results = #[r]) (g : γ) (hφ : φ g) (hh : ∀ F S w, Own hs F S w → Own (hs' g) F S w) (h : Res P hs env r q0) (hq : VLe q0 (q g))
    (hdf : c.df = markD D := by rfl) (hc : c0.w0 = c.w0 ∧ c0.S0 = c.S0 ∧ c0.M = c.M := by exact ⟨rfl, rfl, rfl⟩) : EndT (PostM P fn c0 φ hs' q) .ret c (markH D :: hs) env :=
  PostM.leave hdf hc g hφ hh fun F S w tmps ho he => by
    obtain ⟨vs, e1, e2⟩ := run_results (P := P) hr (ResL.cons h hq ResL.nil) ho he
    match vs, e2 with
    | [v], e2 => exact ⟨v, e1, e2.2 0 _ v rfl rfl⟩
theorem PostM.retR {fn : Func} {c0 : Ctx} {γ : Type} {φ : γ → Prop} {hs' : γ → List HP} {q : γ → VP} {rs : List ResultVar} {qs : List VP} {D : Nat} (hr : fn.results = rs.toArray) (hn : Nat.beq qs.length 1 = false) (g : γ) (hφ : φ g) (hh : ∀ F S w, Own hs F S w → Own (hs' g) F S w) (hq : q g = tupV qs) (h : ResL P hs env rs qs)
    (hdf : c.df = markD D := by rfl) (hc : c0.w0 = c.w0 ∧ c0.S0 = c.S0 ∧ c0.M = c.M := by exact ⟨rfl, rfl, rfl⟩) : EndT (PostM P fn c0 φ hs' q) .ret c (markH D :: hs) env :=
  PostM.leave hdf hc g hφ hh fun F S w tmps ho he => by
    obtain ⟨vs, e1, e2⟩ := run_results (P := P) hr h ho he
    have hne : ¬ vs.toArray.size = 1 := by
      rw [List.size_toArray, ← e2.1]; intro e; rw [e] at hn; cases hn
    rw [dif_neg hne] at e1
    exact ⟨_, e1, by rw [hq]; exact ⟨vs.toArray, rfl, by simpa using e2⟩⟩

theorem CodeT.rangeF {g : Operand} {ps : Array Tmp} {assign body : Code} {f : FuncId} {psb : List VP} {qi : VP} (N : Nat) (J : Nat → List HP) (arg : Nat → List VP) (hro : c.ro = none) (hdf : c.df = []) (hh : hs = J 0)
    (hcb : callB P f = true) (hg : Opd env g (closV f psb)) (hps : (ps.toList.all fun t => Nat.blt t c.n) = true) (hnd : ps.toList.Nodup) (hlen : ∀ j, j < N → (arg j).length = ps.toList.length)
    (hit : ∀ (l D : Nat) (r : RecD), (∀ j, j < N → YldE P l (arg j) (recH l D .ready r env :: J j) (recH l D .ready r env :: J (j + 1))) → FnE P f (yV l :: psb) (recH l D .ready r env :: J 0) (γ := Unit) (fun _ => True) (fun _ => recH l D .ready r env :: J N) (fun _ => qi))
    (hround : ∀ (l D : Nat) (fn : FuncId) (tmps : Array Value) (j : Nat), j < N → ∀ (w0 : World) (S0 M : BS), CodeT P (RndA P l ⟨w0, S0, M, c.n, some l, []⟩ (recH l D .ready ⟨fn, tmps, ps, assign, body⟩ env :: J (j + 1)) body) ⟨w0, S0, M, c.n, some l, []⟩ assign (recH l D .ready ⟨fn, tmps, ps, assign, body⟩ env :: J j) (argsAt ps.toList (arg j) ++ env))
    (hend : ∀ D, EndT Q .normal { c with df := markD D } (markH D :: J N) env) : CodeT P Q c (.rangeFunc g ps assign body) hs env := by
  intro a w hst
  obtain ⟨h1, h2, S, F, h3, h4, h5⟩ := hst
  subst hh
  obtain ⟨lb, hv, hlb⟩ := hg S w a h5
  rw [show WF c.ro = WF none by rw [hro]]
  refine wpIn_rangeFunc fun fn _ => ?_
  let r : RecD := ⟨fn, a.tmps, ps, assign, body⟩
  let D := w.heap.size
  let l := w.heap.size + 1
  let w1 : World := (w.alloc (.deferred (some []))).alloc (.loop (r.loop D .ready))
  have s1 : Sit c w1 S (fun k => k = l ∨ (k = D ∨ F k)) := by
    have := (h3.newOwn (.deferred (some []))).newOwn (.loop (r.loop D .ready))
    have e : ({ w with heap := w.heap.push (.deferred (some [])) } : World).heap.size = l := by simp [l]
    rw [e] at this; exact this
  have hold : ∀ k, k < w.heap.size → w1.heap[k]? = w.heap[k]? := fun k hk => by
    show ((w.heap.push _).push _)[k]? = _
    rw [Array.getElem?_push_lt (by simp; omega)]
    simp [Array.getElem_push_lt hk, hk]
  have hagS : ∀ k, S k → w1.heap[k]? = w.heap[k]? := fun k hk => hold k (h3.domS k hk)
  have o1 : Own (recH l D .ready r env :: J 0) (fun k => k = l ∨ (k = D ∨ F k)) S w1 := by
    refine ⟨fun k => k = l ∨ k = D, F, fun k hk => ⟨hk.elim .inl fun e => .inr (.inl e), fun hf => ?_⟩, fun k hk => .inr (.inr hk), ⟨⟨.inl rfl, .inr rfl, by simp [l, D]⟩, ?_, ?_, h5.mono (fun _ h => h) hagS⟩, h4.mono (fun _ h => h) (fun _ h => h) (fun k hk => hold k (h3.domF k hk)) hagS⟩
    · have := h3.domF k hf
      rcases hk with e | e <;> (simp only [l, D] at e; omega)
    · show ((w.heap.push _).push _)[w.heap.size + 1]? = _
      have : w.heap.size + 1 = (w.heap.push (Obj.deferred (some []))).size := by simp
      rw [this, Array.getElem?_push_size]
    · show ((w.heap.push _).push _)[w.heap.size]? = _
      rw [Array.getElem?_push_lt (by simp)]
      simp
  have hy : ∀ j, j < N → YldE P l (arg j) (recH l D .ready r env :: J j) (recH l D .ready r env :: J (j + 1)) := fun j hj =>
    yld_of_round (n := c.n) (hlen j hj).symm h2 (fun t ht => by simpa using List.all_eq_true.1 hps t ht) hnd fun w0 S0 M => hround l D fn a.tmps j hj w0 S0 M
  have hcall := hit l D r hy w1 S _ (#[.func (.yield l) #[] #[]] ++ lb.toArray) s1.domS s1.domF s1.disj o1 (by
    have : All2 (yV l :: psb) S w1 (.func (.yield l) #[] #[] :: lb) := ⟨by simp [hlb.1], fun j p v hj hv' => by
      cases j with
      | zero => simp at hj hv'; subst hj; subst hv'; rfl
      | succ j => exact (hlb.mono (fun _ h => h) hagS).2 j p v (by simpa using hj) (by simpa using hv')⟩
    simpa using this)
  have hent : (Instr.enterLoop fn a.tmps ps assign body none).run P w = .ok (l, markD D) w1 := run_enterLoop_outer fn a.tmps ps assign body
  have hres : (resolve a.eval (rangeCall g l) 0).run P w1 = .ok { target := .fn (.func f) lb.toArray, args := #[.func (.yield l) #[] #[]] } w1 := by
    have e : a.eval (.const (.func (.yield l) #[] #[])) = .func (.yield l) #[] #[] := rfl
    simp [resolve, rangeCall, hv, Deferred.ofValue, e]
  have hinv : (invoke (.fn (.func f) lb.toArray) #[.func (.yield l) #[] #[]]).run P w1 = .ok (.enter f (#[.func (.yield l) #[] #[]] ++ lb.toArray)) w1 := by
    have := run_callFunc hcb (#[.func (.yield l) #[] #[]] ++ lb.toArray) w1
    simp [invoke] at this ⊢
    exact this
  have hcl : CallsIn (WF none) (0 - 1) P f (#[.func (.yield l) #[] #[]] ++ lb.toArray) w1 (rangePost (WF none) 0 P l Q { a with defers := markD D ++ a.defers }) := by
    refine CallsIn.mono (wf_calls hcall) ?_
    rintro e w' ⟨v, S', F', _, rfl, hs', _, ho', _⟩
    obtain ⟨k1, k2, k3, k4⟩ := s1.over (rest := []) (F2 := fun _ => False) (fun k hk => ⟨hk, id⟩) (fun k hk => hk.elim) trivial hs' ho'
    rw [List.append_nil] at k4
    obtain ⟨G1, G2, g1, g2, g3, g4⟩ := id k4
    have hl := g3.2.1
    obtain ⟨m1, m2, m3⟩ := k1.put0 (h1 := markH D) (m := l) (o := .loop { r.loop D .ready with state := .exhausted }) k4 (fun F1 h => h.1.1) (fun F1 hag h => ⟨h.1.2.1, (World.putObj_heap_other (fun e => h.1.2.2 e.symm)).trans h.2.2.1⟩)
    refine ⟨none, _, run_endLoop hl (by simp [RecD.loop]), ?_⟩
    refine hend D _ _ ⟨?_, h2, S', _, ⟨m1.os, m1.tape, m1.output, m1.size, m1.kept, m1.disj, m1.domS, m1.domF, m1.own, m1.shr, m1.base⟩, m2, (h5.mono k2 (fun k hk => (k3 k hk).trans (hagS k hk))).mono (fun _ h => h) m3⟩
    show markD D ++ a.defers = markD D
    rw [h1, hdf]; rfl
  exact ⟨l, markD D, w1, _, w1, f, _, w1, hent, hres, fun _ _ => trivial, hinv, fun h => (by cases h), hcl⟩
end
theorem EndT.share {hs : List HP} {env : Env} {Q : Exit → Act → World → Prop} {c : Ctx} {e0 : Exit} {i b off t : Nat} {cs : List VP} (hi : hs[i]? = some (cellsH b cs)) (ht : look env t = some (addrV b off)) (h : EndT Q e0 c (hs.eraseIdx i) ((t, ptrV (cs.drop off)) :: env)) : EndT Q e0 c hs env := by
  intro a w ⟨h1, h2, S, F, h3, h4, h5⟩
  obtain ⟨F1, F2, f1, f2, f3, f5, _⟩ := h4.upd hi
  have hb := f1 b f3.1
  have hS : ∀ k, S k → S k ∨ k = b := fun _ h => .inl h
  have hc : CellsAt (fun k => S k ∨ k = b) w b 0 cs := fun j q hj => let ⟨v, hv, hq⟩ := cell_owned f3 j q hj; ⟨v, hv, q.mono hS (fun _ _ => rfl) hq⟩
  refine h a w ⟨h1, h2, fun k => S k ∨ k = b, F2, ⟨h3.os, h3.tape, h3.output, h3.size, h3.kept, ?_, ?_, fun k hk => h3.domF k (f2 k hk), fun k hk => h3.own k (f2 k hk), ?_, fun k hk => .inl (h3.base k hk)⟩,
    f5.mono (fun _ h => h) hS (fun _ _ => rfl) (fun _ _ => rfl), fun s q hl => ?_⟩
  · exact fun k hk hf => hk.elim (fun h => h3.disj k h (f2 k hf)) (fun e => hb.2 (e ▸ hf))
  · exact fun k hk => hk.elim (h3.domS k) (fun e => h3.domF k (e ▸ hb.1))
  · exact fun k hk => hk.elim (h3.shr k) (fun e => by
      rcases h3.own b hb.1 with h | h
      · exact .inr (.inl (e ▸ h))
      · exact .inr (.inr (e ▸ h)))
  · rw [look_cons] at hl
    by_cases e : t = s
    · rw [if_pos e] at hl; cases hl; subst e
      have hv := h5 t _ ht; simp only [exactV] at hv
      refine ⟨b, off, hv, .inr rfl, ?_⟩
      have := hc.drop off; simpa using this
    · rw [if_neg e] at hl
      exact q.mono hS (fun _ _ => rfl) (h5 s q hl)
end Go.Hl
