/-
  What the statement's proof leans on, several texts in one (packed by a program).
-/
import Derived.Test.YtpahnbgfmhcndaaGreatDoorBMH
import Derived.Defers
import Derived.Recover
set_option linter.all false
set_option maxRecDepth 1000000
set_option maxHeartbeats 4000000
section
namespace Go.Hl
open Go.RowKit
def faultV (tf : TypeId) (e : Int) : Value := .iface tf (.agg #[.int .i64 e])
def FaultC (tf : TypeId) (ch : List PanicEntry) : Prop := ∃ e : Int, e ≠ 0 ∧ ch = [{ v := faultV tf e, recovered := false }]
variable {γ : Type}
def EndX (c : Ctx) (tf : TypeId) (D : Prop) (φ : γ → Prop) (hs' : γ → List HP) (q : γ → VP) (e : Ending) (w' : World) : Prop :=
 (∃ v S' F' g, e = .returned v ∧ Sit ⟨c.w0, c.S0, c.M, 0, none, []⟩ w' S' F' ∧ φ g ∧ Own (hs' g) F' S' w' ∧ (q g).p S' w' v) ∨ (D ∧ ∃ ch S' F', e = .panicked ch ∧ FaultC tf ch ∧ Sit ⟨c.w0, c.S0, c.M, 0, none, []⟩ w' S' F')
def FnX (P : Program) (tf : TypeId) (f : FuncId) (ps : List VP) (hs : List HP) (D : Prop) (φ : γ → Prop) (hs' : γ → List HP) (q : γ → VP) : Prop :=
 ∀ (w : World) (S F : BS) (vs : Array Value), (∀ k, S k → k < w.heap.size) → (∀ k, F k → k < w.heap.size) → (∀ k, S k → ¬ F k) → Own hs F S w → All2 ps S w vs.toList →
  Calls P f vs w fun e w' => EndX ⟨w, S, F, 0, none, []⟩ tf D φ hs' q e w'
def PostX (P : Program) (fn : Func) (c : Ctx) (tf : TypeId) (D : Prop) (φ : γ → Prop) (hs' : γ → List HP) (q : γ → VP) : Exit → Act → World → Prop :=
 bodyPost P fn fun e w' => EndX c tf D φ hs' q e w'
theorem FnX.intro {P : Program} {tf : TypeId} {D : Prop} {f : FuncId} {fn : Func} {x : Code} {ps : List VP} {hs : List HP} {γ : Type} {φ : γ → Prop} {hs' : γ → List HP} {q : γ → VP}
    (n : Nat) (hf : P.funcs[f]? = some fn) (hb : fn.body = some x) (hnt : fn.ntmps = n) (hn : Nat.ble ps.length n = true)
    (h : ∀ (w0 : World) (S0 M : BS), CodeT P (PostX P fn ⟨w0, S0, M, n, none, []⟩ tf D φ hs' q) ⟨w0, S0, M, n, none, []⟩ x hs (args ps)) : FnX P tf f ps hs D φ hs' q := by
  intro w S F vs hS hF hSF hown hall
  have hlen : ps.length = vs.size := by simpa using hall.1
  have hn' : ps.length ≤ n := by simpa using hn
  refine calls_of_wp hf hb (wpIn_wide.1 (h w S F _ _ ⟨rfl, ?_, S, F, ?_, hown, ?_⟩))
  · simp; omega
  · exact ⟨rfl, rfl, rfl, Nat.le_refl _, fun _ _ _ => rfl, hSF, hS, hF, fun k hk => .inl hk, fun k hk => .inl hk, fun _ hk => hk⟩
  · intro t q' hl
    obtain ⟨j, hj, hq⟩ := look_args ps 0 t q' hl
    have htj : t = j := by omega
    subst htj
    have hjl : t < ps.length := (List.getElem?_eq_some_iff.1 hq).1
    have hjv : t < vs.size := by omega
    have : (vs ++ Array.replicate (fn.ntmps - vs.size) undef).getD t undef = vs[t] := by simp [Array.getElem?_append, hjv]
    rw [this]
    exact hall.2 t q' _ hq (by simp [hjv])
variable {P : Program} {hs : List HP} {env : Env} {c : Ctx} {fn : Func} {tf : TypeId} {D : Prop} {φ : γ → Prop} {hs' : γ → List HP}
theorem EndT.retX {q : γ → VP} (h : EndT (Post P fn c φ hs' q) .ret c hs env) : EndT (PostX P fn c tf D φ hs' q) .ret c hs env :=
 fun a w hst => let ⟨h1, v, h2, h3⟩ := h a w hst; ⟨h1, v, h2, .inl h3⟩
theorem EndT.norX {q : γ → VP} (h : EndT (Post P fn c φ hs' q) .normal c hs env) : EndT (PostX P fn c tf D φ hs' q) .normal c hs env :=
 fun a w hst => let ⟨h1, v, h2, h3⟩ := h a w hst; ⟨h1, v, h2, .inl h3⟩
class PanQ (tf : TypeId) (D : outParam Prop) (Q : Exit → Act → World → Prop) (c : Ctx) : Prop where
 pan : ∀ {ch : List PanicEntry} {hs : List HP} {env : Env}, D → FaultC tf ch → EndT Q (.panic ch) c hs env
instance {P : Program} {fn : Func} {w0 : World} {S0 M : BS} {n : Nat} {ro : Option Nat} {tf : TypeId} {D : Prop} {γ : Type} (φ : γ → Prop) (hs' : γ → List HP) (q : γ → VP) : PanQ tf D (PostX P fn ⟨w0, S0, M, n, ro, []⟩ tf D φ hs' q) ⟨w0, S0, M, n, ro, []⟩ :=
 ⟨fun {ch hs env} hD hc a w hst => by
  obtain ⟨h1, h2, S, F, h3, h4, h5⟩ := hst
  exact ⟨h1, .inr ⟨hD, ch, S, F, rfl, hc, ⟨h3.os, h3.tape, h3.output, h3.size, h3.kept, h3.disj, h3.domS, h3.domF, h3.own, h3.shr, h3.base⟩⟩⟩⟩
instance {tf : TypeId} {D : Prop} {Q : Exit → Act → World → Prop} {K : Act → World → Prop} {c : Ctx} [h : PanQ tf D Q c] : PanQ tf D (Exit.then K Q) c := ⟨fun hD hc => h.pan hD hc⟩
instance {tf : TypeId} {D : Prop} {Q : Exit → Act → World → Prop} {id : Nat} {c : Ctx} [h : PanQ tf D Q c] : PanQ tf D (Exit.inBlock id Q) c := ⟨fun hD hc => h.pan hD hc⟩
theorem Sit.through {w w' : World} {S F F1 F2 S' F1' : BS} (hsit : Sit c w S F) (hF1 : ∀ k, F1 k → F k ∧ ¬ F2 k) (hF2 : ∀ k, F2 k → F k) (h2 : Sit ⟨w, S, F1, 0, none, []⟩ w' S' F1') :
    Sit c w' S' (fun k => F1' k ∨ F2 k) ∧ (∀ k, S k → w'.heap[k]? = w.heap[k]?) ∧ (∀ k, F2 k → w'.heap[k]? = w.heap[k]?) ∧ (∀ k, F1' k → ¬ F2 k) := by
  have hSF : ∀ k, S k → ¬ F1 k := fun k hk hf => hsit.disj k hk (hF1 k hf).1
  have hoS : ∀ k, S k → w'.heap[k]? = w.heap[k]? := fun k hk => h2.kept k (hsit.domS k hk) (hSF k hk)
  have ho2F : ∀ k, F2 k → ¬ F1 k := fun k hk hf => (hF1 k hf).2 hk
  have hn : ∀ k, F1' k → ¬ F2 k := fun k hk hf => by
    rcases h2.own k hk with h | h
    · exact (hF1 k h).2 hf
    · exact Nat.lt_irrefl _ (Nat.lt_of_lt_of_le (hsit.domF k (hF2 k hf)) h)
  refine ⟨⟨h2.os.trans hsit.os, h2.tape.trans hsit.tape, h2.output.trans hsit.output, Nat.le_trans hsit.size h2.size, fun k hk hm => ?_, fun k hk hf => ?_, h2.domS, fun k hk => ?_, fun k hk => ?_, fun k hk => ?_, fun k hk => h2.base k (hsit.base k hk)⟩, hoS, fun k hk => h2.kept k (hsit.domF k (hF2 k hk)) (ho2F k hk), hn⟩
  · have hnF : ¬ F1 k := fun hf => (hsit.own k (hF1 k hf).1).elim hm (fun h => by omega)
    exact (h2.kept k (Nat.lt_of_lt_of_le hk hsit.size) hnF).trans (hsit.kept k hk hm)
  · rcases hf with hf | hf
    · exact h2.disj k hk hf
    · rcases h2.shr k hk with h | h | h
      · exact hsit.disj k h (hF2 k hf)
      · exact (hF1 k h).2 hf
      · exact Nat.lt_irrefl _ (Nat.lt_of_lt_of_le (hsit.domF k (hF2 k hf)) h)
  · rcases hk with hk | hk
    · exact h2.domF k hk
    · exact Nat.lt_of_lt_of_le (hsit.domF k (hF2 k hk)) h2.size
  · rcases hk with hk | hk
    · rcases h2.own k hk with h | h
      · exact hsit.own k (hF1 k h).1
      · exact .inr (Nat.le_trans hsit.size h)
    · exact hsit.own k (hF2 k hk)
  · rcases h2.shr k hk with h | h | h
    · exact hsit.shr k h
    · exact .inr ((hsit.own k (hF1 k h).1).imp (fun h => h) (fun h => h))
    · exact .inr (.inr (Nat.le_trans hsit.size h))
def OpX (P : Program) (tf : TypeId) (hs rest : List HP) (env : Env) (o : Oper) (D : Prop) (φ : γ → Prop) (hs' : γ → List HP) (q : γ → VP) : Prop :=
 ∀ (c : Ctx) (a : Act) (w : World) (S F : BS), Sit c w S F → Own hs F S w → EnvOk env S w a.tmps →
 ∀ (K : Act → World → Prop) (Q : Exit → Act → World → Prop),
  (∀ g v w' S' F', φ g → Sit c w' S' F' → (∀ k, S k → S' k) → (∀ k, S k → w'.heap[k]? = w.heap[k]?) → Own (hs' g) F' S' w' → (q g).p S' w' v → K (a.put o.dst v) w') →
  (∀ ch w' S' F', D → FaultC tf ch → Sit c w' S' F' → (∀ k, S k → S' k) → (∀ k, S k → w'.heap[k]? = w.heap[k]?) → Own rest F' S' w' → Q (.panic ch) a w') → o.wp P a w K Q
variable {o : Oper}
theorem OpX.noDefer {rest : List HP} {q : γ → VP} (h : OpX P tf hs rest env o D φ hs' q) {a : Act} {w : World} {S F : BS} (h3 : Sit c w S F) (h4 : Own hs F S w) (h5 : EnvOk env S w a.tmps) (hcall : ∃ cl, o.op = .call cl) : ∀ cl, o.op ≠ .defer cl := by
 obtain ⟨cl, e⟩ := hcall
 intro cl' e'; rw [e] at e'; cases e'
section
variable {P : Program} {tf : TypeId} {ops : Array Oper} {Q : Exit → Act → World → Prop} {c : Ctx} {l : List Oper} {hs : List HP} {env : Env} {ty : TypeId} {pos : String} {after : Array Edge} {dst : Option Tmp}
theorem SeqT.xd {d : Tmp} {cl : Call} {rest : List HP} {D : Prop} {γ : Type} {φ : γ → Prop} {hs' : γ → List HP} {q : γ → VP} (h : OpX P tf hs rest env ⟨some d, .call cl, ty, pos, after, none⟩ D φ hs' q) (hd : Nat.blt d c.n = true) (hpan : ∀ ch, D → FaultC tf ch → EndT Q (.panic ch) c rest env)
    (k : ∀ g, φ g → SeqT P ops Q c l (hs' g) ((d, q g) :: env)) : SeqT P ops Q c (⟨some d, .call cl, ty, pos, after, none⟩ :: l) hs env := by
  intro a w hst
  obtain ⟨h1, h2, S, F, h3, h4, h5⟩ := hst
  refine wpListIn_plain rfl fun K hK => Oper.wp_in (h.noDefer h3 h4 h5 ⟨cl, rfl⟩) <| h c a w S F h3 h4 h5 K Q (fun g v w' S' F' hφ hsit hsub hag hown hq => hK _ _ (k g hφ _ _ ⟨?_, ?_, S', F', hsit, hown, ?_⟩)) (fun ch w' S' F' hD hc hsit hsub hag hown => ?_)
  · rw [Act.defers_put]; exact h1
  · rw [Act.size_put]; exact h2
  · exact (h5.mono hsub hag).put hq (by rw [h2]; simpa using hd)
  · exact hpan ch hD hc a w' ⟨h1, h2, S', F', hsit, hown, h5.mono hsub hag⟩
theorem SeqT.x {d : Tmp} {cl : Call} {rest : List HP} {D D' : Prop} {γ : Type} {φ : γ → Prop} {hs' : γ → List HP} {q : γ → VP} (h : OpX P tf hs rest env ⟨some d, .call cl, ty, pos, after, none⟩ D' φ hs' q) (hd : Nat.blt d c.n = true) [pq : PanQ tf D Q c] (hD : D' → D)
    (k : ∀ g, φ g → SeqT P ops Q c l (hs' g) ((d, q g) :: env)) : SeqT P ops Q c (⟨some d, .call cl, ty, pos, after, none⟩ :: l) hs env := SeqT.xd h hd (fun ch hd' hc => pq.pan (hD hd') hc) k
theorem opCallPan {D : Prop} {f : FuncId} {xs : List Operand} {ats : Array TypeId} {ps : List VP} {hs0 rest : List HP} {γ : Type} {φ : γ → Prop} {hs' : γ → List HP} {q : γ → VP} (hf : FnX P tf f ps hs0 D φ hs' q) (hb : callB P f = true) (hx : Opds env xs ps) (hp : hs.Perm (hs0 ++ rest)) :
    OpX P tf hs rest env ⟨dst, .call ⟨.value (.func f), xs.toArray, ats⟩, ty, pos, after, none⟩ D φ (fun g => hs' g ++ rest) q := by
  intro c a w S F hsit hown he K Q hk hpan
  obtain ⟨F1, F2, hF1, hF2, ho1, ho2⟩ := Own.append.1 (hown.perm hp)
  have hd1 : ∀ k, F1 k → k < w.heap.size := fun k hk => hsit.domF k (hF1 k hk).1
  have hSF : ∀ k, S k → ¬ F1 k := fun k hk hf => hsit.disj k hk (hF1 k hf).1
  have key : ∀ {w' : World} {S' F1' : BS}, Sit ⟨w, S, F1, 0, none, []⟩ w' S' F1' → _ := fun h2 => hsit.through hF1 hF2 h2
  unfold Oper.wp
  rw [run_call hb]
  refine (hf w S F1 _ hsit.domS hd1 hSF ho1 (by simpa using hx S w a he)).mono ?_
  rintro e w' (⟨v, S', F1', g, rfl, h2, hφ, hown', hq⟩ | ⟨hD, ch, S', F1', rfl, hc, h2⟩)
  · obtain ⟨k1, k2, k3, k4⟩ := key h2
    exact hk g v w' S' _ hφ k1 h2.base k2 (Own.append.2 ⟨F1', F2, fun k hk => ⟨.inl hk, k4 k hk⟩, fun k hk => .inr hk, hown', ho2.mono (fun _ h => h) h2.base k3 k2⟩) hq
  · obtain ⟨k1, k2, k3, k4⟩ := key h2
    exact hpan ch w' S' _ hD hc k1 h2.base k2 ((Own.append (as := [])).2 ⟨F1', F2, fun k hk => ⟨.inl hk, k4 k hk⟩, fun k hk => .inr hk, trivial, ho2.mono (fun _ h => h) h2.base k3 k2⟩)
theorem SeqT.panicX {x : Operand} {e : Int} (hx : Opd env x (exactV (faultV tf e))) (he : e ≠ 0) {D : Prop} [pq : PanQ tf D Q c] (hD : D) : SeqT P ops Q c (⟨dst, .panic x, ty, pos, after, none⟩ :: l) hs env := by
 intro a w hst
 obtain ⟨h1, h2, S, F, h3, h4, h5⟩ := hst
 have hv := hx S w a h5; simp only [exactV] at hv
 refine wpListIn_plain rfl fun K hK => Oper.wp_in (by intro cl e'; cases e') ?_
 unfold Oper.wp
 have hr : (execOp a.eval (⟨dst, .panic x, ty, pos, after, none⟩ : Oper)).run P w = .halt (.panic (faultV tf e)) w := by
  have h0 : (Instr.panic (faultV tf e)).run P w = .halt (.panic (faultV tf e)) w := rfl
  simp only [execOp, hv, Sem.run_bind, h0]
  rfl
 rw [hr]
 exact pq.pan (hs := []) (env := env) hD ⟨e, he, rfl⟩ a w ⟨h1, h2, S, F, h3, trivial, h5⟩
end
def Catch (P : Program) (f : FuncId) (p : Value) (ch : List PanicEntry) (hs : List HP) {δ : Type} (φ' : δ → Prop) (hs2 : δ → List HP) : Prop :=
 ∀ (w : World) (S F : BS), (∀ k, S k → k < w.heap.size) → (∀ k, F k → k < w.heap.size) → (∀ k, S k → ¬ F k) → Own hs F S w →
  CallsD P f #[p] (.panicking ch) w fun e u' w' => e = .returned (.tuple #[]) ∧ (∃ v, u' = .panicking [{ v, recovered := true }]) ∧ ∃ S' F' g, φ' g ∧ Sit ⟨w, S, F, 0, none, []⟩ w' S' F' ∧ Own (hs2 g) F' S' w'
def PostLA (P : Program) (fn : Func) (c : Ctx) (φ : γ → Prop) (hs' : γ → List HP) (q : γ → VP) : Exit → Act → World → Prop :=
 bodyPostD P fn fun e w' => ∃ v S' F' g, e = .returned v ∧ Sit ⟨c.w0, c.S0, c.M, 0, none, []⟩ w' S' F' ∧ φ g ∧ Own (hs' g) F' S' w' ∧ (q g).p S' w' v
variable {f : FuncId} {ps : List VP}
theorem FnE.introLA {x : Code} {q : γ → VP}
    (n : Nat) (hf : P.funcs[f]? = some fn) (hb : fn.body = some x) (hnt : fn.ntmps = n) (hn : Nat.ble ps.length n = true)
    (h : ∀ (w0 : World) (S0 M : BS), CodeT P (PostLA P fn ⟨w0, S0, M, n, none, []⟩ φ hs' q) ⟨w0, S0, M, n, none, []⟩ x hs (args ps)) : FnE P f ps hs φ hs' q := by
  intro w S F vs hS hF hSF hown hall
  have hlen : ps.length = vs.size := by simpa using hall.1
  have hn' : ps.length ≤ n := by simpa using hn
  refine calls_of_wp_defers hf hb (wpIn_wide.1 (h w S F _ _ ⟨rfl, ?_, S, F, ?_, hown, ?_⟩))
  · simp; omega
  · exact ⟨rfl, rfl, rfl, Nat.le_refl _, fun _ _ _ => rfl, hSF, hS, hF, fun k hk => .inl hk, fun k hk => .inl hk, fun _ hk => hk⟩
  · intro t q' hl
    obtain ⟨j, hj, hq⟩ := look_args ps 0 t q' hl
    have htj : t = j := by omega
    subst htj
    have hjl : t < ps.length := (List.getElem?_eq_some_iff.1 hq).1
    have hjv : t < vs.size := by omega
    have : (vs ++ Array.replicate (fn.ntmps - vs.size) undef).getD t undef = vs[t] := by simp [Array.getElem?_append, hjv]
    rw [this]
    exact hall.2 t q' _ hq (by simp [hjv])
variable {ops : Array Oper} {Q : Exit → Act → World → Prop}
theorem SeqT.deferLA {l : List Oper} {p : Value} {x : Operand} {ats : Array TypeId} {ty : TypeId} {pos : String} {after : Array Edge}
    (hro : c.ro = none) (hx : Opd env x (exactV (.func (.func f) #[] #[p]))) (k : SeqT P ops Q { c with df := ⟨.fn (.func f) #[p], #[]⟩ :: c.df } l hs env) :
    SeqT P ops Q c (⟨none, .defer ⟨.value x, #[], ats⟩, ty, pos, after, none⟩ :: l) hs env := by
  intro a w hst
  obtain ⟨h1, h2, S, F, h3, h4, h5⟩ := hst
  refine wpListIn_plain rfl fun K hK => ⟨fun _ _ => trivial, ?_⟩
  have hv := hx S w a h5; simp only [exactV] at hv
  have hr : (execOp a.eval (⟨none, .defer ⟨.value x, #[], ats⟩, ty, pos, after, none⟩ : Oper)).run P w = .ok (.defer ⟨.fn (.func f) #[p], #[]⟩) w := by
    simp [execOp, resolve, hv, Deferred.ofValue]
  have hs0 : (WF c.ro).round = none := by rw [hro]; rfl
  rw [hs0, Oper.semAt_none, hr, Oper.uponIn_defer]
  refine hK _ _ ?_
  have := k { a with defers := ⟨.fn (.func f) #[p], #[]⟩ :: a.defers } w ⟨by simp [h1], h2, S, F, ⟨h3.os, h3.tape, h3.output, h3.size, h3.kept, h3.disj, h3.domS, h3.domF, h3.own, h3.shr, h3.base⟩, h4, h5⟩
  exact this
theorem EndT.retLA {c' : Ctx} {q : γ → VP} {p : Value}
    (hd : ∀ w : World, CallsD P f #[p] .returning w fun e u' w' => e = .returned (.tuple #[]) ∧ u' = .returning ∧ Below w.heap.size w w') (hc : c' = { c with df := [⟨.fn (.func f) #[p], #[]⟩] })
    (hcf : c.df = []) (hb : callB P f = true) (h : EndT (Post P fn c φ hs' q) .ret c hs env) : EndT (PostLA P fn c φ hs' q) .ret c' hs env := by
  subst hc
  intro a w hst
  obtain ⟨h1, h2, S, F, h3, h4, h5⟩ := hst
  show Leaves P fn a.tmps _ a.defers .returning w
  have h1' : a.defers = [⟨.fn (.func f) #[p], #[]⟩] := h1
  rw [h1']
  refine leaves_cons (f := f) (args := #[p]) (by simp) (by have h9 := run_callFunc hb #[p] w; simpa [invoke] using h9) ?_
  refine (hd w).mono ?_
  rintro e u' w'' ⟨rfl, rfl, hbl⟩
  have g : Grow w w'' S S := ⟨hbl.os, hbl.tape, hbl.output, hbl.size, fun k hk => hbl.block k hk, fun _ h => h, fun _ h => .inl h⟩
  have h3' : Sit c w S F := ⟨h3.os, h3.tape, h3.output, h3.size, h3.kept, h3.disj, h3.domS, h3.domF, h3.own, h3.shr, h3.base⟩
  have := h { a with defers := [] } w'' ⟨hcf.symm, h2, S, F, h3'.grow g, g.owns h3.domS h3.domF h4, g.env h3.domS h5⟩
  obtain ⟨_, v, hr, hR⟩ := this
  exact ⟨v, hr, hR⟩
theorem EndT.panLA {c' : Ctx} {δ : Type} {q : γ → VP} {p : Value} {ch : List PanicEntry} {φ' : δ → Prop} {hs2 : δ → List HP}
    (hd : Catch P f p ch hs φ' hs2) (hc : c' = { c with df := [⟨.fn (.func f) #[p], #[]⟩] }) (hcf : c.df = []) (hb : callB P f = true)
    (h : ∀ g, φ' g → EndT (Post P fn c φ hs' q) .ret c (hs2 g) env) : EndT (PostLA P fn c φ hs' q) (.panic ch) c' hs env := by
  subst hc
  intro a w hst
  obtain ⟨h1, h2, S, F, h3, h4, h5⟩ := hst
  show Leaves P fn a.tmps _ a.defers (.panicking ch) w
  have h1' : a.defers = [⟨.fn (.func f) #[p], #[]⟩] := h1
  rw [h1']
  refine leaves_cons (f := f) (args := #[p]) (by simp) (by have h9 := run_callFunc hb #[p] w; simpa [invoke] using h9) ?_
  refine (hd w S F h3.domS h3.domF h3.disj h4).mono ?_
  rintro e u' w'' ⟨rfl, ⟨v, rfl⟩, S', F', g, hφ, hs, ho⟩
  have h3' : Sit c w S F := ⟨h3.os, h3.tape, h3.output, h3.size, h3.kept, h3.disj, h3.domS, h3.domF, h3.own, h3.shr, h3.base⟩
  obtain ⟨k1, k2, k3, k4⟩ := h3'.through (F2 := fun _ => False) (fun k hk => ⟨hk, id⟩) (fun k hk => hk.elim) hs
  have := h g hφ { a with defers := [] } w'' ⟨hcf.symm, h2, S', _, k1, (Own.append (as := []).2 ⟨fun _ => False, F', fun k hk => hk.elim, fun k hk => .inl hk, trivial, ho⟩), h5.mono hs.base k2⟩
  obtain ⟨_, v, hr, hR⟩ := this
  exact ⟨v, hr, hR⟩
abbrev undV : VP := exactV undef
section
variable {P : Program} {tf : TypeId} {ops : Array Oper} {Q : Exit → Act → World → Prop} {c : Ctx} {l : List Oper} {hs : List HP} {env : Env} {ty : TypeId} {pos : String} {after : Array Edge} {dst : Option Tmp} {gd : Option (Nat × Bool)}
theorem yld_prop {t j : Nat} {p : Prop} {a : Act} {w : World} {S : BS} (hl : look env t = some (propV p)) (hj : (ops[j]?).bind (·.dst) = some t) (ht : Nat.blt t c.n = true) (h2 : a.tmps.size = c.n) (h5 : EnvOk env S w a.tmps) : ∃ b, yielded ops a.tmps j = some b ∧ (b = true ↔ p) := by
 have ht' : t < a.tmps.size := by rw [h2]; simpa using ht
 have h6 : a.tmps[t]? = some (a.tmps.getD t undef) := by simp [ht']
 obtain ⟨b, hb, hbp⟩ := h5 t _ hl
 exact ⟨b, by unfold yielded; rw [hj]; simp only [Option.bind_some, h6, hb], hbp⟩
theorem SeqT.gx {d : Tmp} {cl : Call} {j : Nat} {want : Bool} {t : Tmp} {p : Prop} {rest : List HP} {D D' : Prop} {γ : Type} {φ : γ → Prop} {hs' : γ → List HP} {q : γ → VP} (hl : look env t = some (propV p)) (hj : (ops[j]?).bind (·.dst) = some t) (ht : Nat.blt t c.n = true) (hw : if want = true then p else ¬ p)
    (h : OpX P tf hs rest env ⟨some d, .call cl, ty, pos, after, some (j, want)⟩ D' φ hs' q) (hd : Nat.blt d c.n = true) [pq : PanQ tf D Q c] (hD : D' → D)
    (k : ∀ g, φ g → SeqT P ops Q c l (hs' g) ((d, q g) :: env)) : SeqT P ops Q c (⟨some d, .call cl, ty, pos, after, some (j, want)⟩ :: l) hs env := by
  intro a w hst
  obtain ⟨h1, h2, S, F, h3, h4, h5⟩ := hst
  refine wpListIn_step fun K hK => ?_
  obtain ⟨b, hy, hb⟩ := yld_prop (ops := ops) hl hj ht h2 h5
  have hbw : b = want := by
    cases want
    · simp only [Bool.false_eq_true, if_false] at hw
      cases b with
      | false => rfl
      | true => exact absurd (hb.1 rfl) hw
    · simp only [if_true] at hw; exact hb.2 hw
  rw [if_pos (by simp [Region.wanted, hy, hbw])]
  refine Oper.wp_in (h.noDefer h3 h4 h5 ⟨cl, rfl⟩) <| h c a w S F h3 h4 h5 K Q (fun g v w' S' F' hφ hsit hsub hag hown hq => hK _ _ (k g hφ _ _ ⟨?_, ?_, S', F', hsit, hown, ?_⟩)) (fun ch w' S' F' hD' hc hsit hsub hag hown => ?_)
  · rw [Act.defers_put]; exact h1
  · rw [Act.size_put]; exact h2
  · exact (h5.mono hsub hag).put hq (by rw [h2]; simpa using hd)
  · exact pq.pan (hD hD') hc a w' ⟨h1, h2, S', F', hsit, hown, h5.mono hsub hag⟩
theorem SeqT.gskip {o : Oper} {d : Tmp} {j : Nat} {want : Bool} {t : Tmp} {p : Prop} (hl : look env t = some (propV p)) (hog : o.guard = some (j, want)) (hod : o.dst = some d) (hj : (ops[j]?).bind (·.dst) = some t) (ht : Nat.blt t c.n = true) (hw : if want = true then ¬ p else p) (hd : Nat.blt d c.n = true)
    (k : SeqT P ops Q c l hs ((d, undV) :: env)) : SeqT P ops Q c (o :: l) hs env := by
  intro a w hst
  obtain ⟨h1, h2, S, F, h3, h4, h5⟩ := hst
  refine wpListIn_step fun K hK => ?_
  obtain ⟨b, hy, hb⟩ := yld_prop (ops := ops) hl hj ht h2 h5
  have hbw : ¬ b = want := by
    cases want
    · simp only [Bool.false_eq_true, if_false] at hw; rw [hb.2 hw]; simp
    · simp only [if_true] at hw; intro e; exact hw (hb.1 e)
  rw [if_neg (by simp [Region.wanted, hog, hy, hbw])]
  refine ⟨fun _ _ => trivial, hK _ _ (k _ _ ⟨?_, ?_, S, F, h3, h4, ?_⟩)⟩
  · rw [Act.defers_put]; exact h1
  · rw [Act.size_put]; exact h2
  · rw [hod]; exact h5.put (by simp only [exactV]) (by rw [h2]; simpa using hd)
theorem opPickT {x y z : Operand} {p : Prop} {q : VP} (hx : Opd env x (propV p)) (hp : p) (hy : Opd env y q) : OpP P hs env ⟨dst, .pick x y z, ty, pos, after, gd⟩ q :=
 OpP.of_read fun ρ w S F _ he => by
  obtain ⟨b, hb, hbp⟩ := he.o _ _ hx
  have h2 := he.o _ _ hy
  have := hbp.2 hp; subst this
  exact ⟨_, by simp [execOp, hb, go_sem], h2⟩
theorem opPickF {x y z : Operand} {p : Prop} {q : VP} (hx : Opd env x (propV p)) (hp : ¬ p) (hz : Opd env z q) : OpP P hs env ⟨dst, .pick x y z, ty, pos, after, gd⟩ q :=
 OpP.of_read fun ρ w S F _ he => by
  obtain ⟨b, hb, hbp⟩ := he.o _ _ hx
  have h2 := he.o _ _ hz
  cases b with
  | true => exact absurd (hbp.1 rfl) hp
  | false => exact ⟨_, by simp [execOp, hb, go_sem], h2⟩
theorem opCallPanG {D : Prop} {f : FuncId} {xs : List Operand} {ats : Array TypeId} {ps : List VP} {hs0 rest : List HP} {γ : Type} {φ : γ → Prop} {hs' : γ → List HP} {q : γ → VP} (hf : FnX P tf f ps hs0 D φ hs' q) (hb : callB P f = true) (hx : Opds env xs ps) (hp : hs.Perm (hs0 ++ rest)) :
    OpX P tf hs rest env ⟨dst, .call ⟨.value (.func f), xs.toArray, ats⟩, ty, pos, after, gd⟩ D φ (fun g => hs' g ++ rest) q :=
  fun c a w S F hsit hown he K Q hk hpan => opCallPan (dst := dst) (ty := ty) (pos := pos) (after := after) hf hb hx hp c a w S F hsit hown he K Q hk hpan
theorem opIfaceN {e : Int} {T : TypeId} {x : Operand} {fs : Array Field} (hT : P.underlying T = some (.struct fs)) (hx : Opd env x (aggV [intV .i64 e])) : OpP P hs env ⟨dst, .makeInterface T x, ty, pos, after, gd⟩ (exactV (faultV T e)) :=
 OpP.of_read fun ρ w S F _ he => by
  obtain ⟨arr, hv, hn, hc⟩ := he.o _ _ hx
  obtain ⟨u, hu, hq⟩ := hc 0 _ rfl
  simp only [exactV] at hq
  subst hq
  have : arr = #[.int .i64 e] := by
   refine Array.ext (by simpa using hn) fun i h1 h2 => ?_
   have : i = 0 := by simp at h2; omega
   subst this
   have h3 : arr[0]? = some arr[0] := by simp at hn; simp [hn]
   rw [h3] at hu
   simpa using hu
  subst this
  exact ⟨faultV T e, by simp [execOp, Instr.makeInterface, hv, run_underlying hT, faultV], rfl⟩
theorem opSliceOwn {α : Type} {g : SB} {n i h len : Nat} {k : IntKind} {ii : Int} {enc : α → List VP} {xs : List α} {T E : TypeId} {x y : Operand} (hT : P.underlying T = some (.slice E)) (hn : P.cellsOf E = n) (h0 : Nat.blt 0 n = true) (hx : Opd env x (exactV (sval g len))) (hy : Opd env y (intV k ii)) (hii : ii = (h : Int))
    (hi : hs[i]? = some (sliceH g n enc xs)) (hl : len = xs.length) (hh : h ≤ len) : OpP P hs env ⟨dst, .slice T x none (some y) none, ty, pos, after, gd⟩ (exactV (sval g h)) :=
  OpP.of_read fun ρ w S F ho he => by
    have hv := he.o _ _ hx; have h2 := he.o _ _ hy; simp only [exactV, sval] at hv h2
    subst hii
    have hs := run_sizeOf (T := E) hn h0 w
    obtain ⟨F1, _, hp⟩ := ho.get hi
    cases g with
    | none =>
      have hp' : xs = [] := hp
      have h00 : h = 0 := by rw [hp'] at hl; simp at hl; omega
      subst h00
      refine ⟨.slice none 0 0, ?_, rfl⟩
      simp [execOp, hv, h2, Instr.sliceAt, Instr.slice, Instr.sliceBounds, Instr.sliceBound, asIntOf, run_underlying hT, hs]
    | some p =>
      obtain ⟨b, cap⟩ := p
      have hcap : h ≤ cap := Nat.le_trans (by omega) hp.2.1
      refine ⟨.slice (some ⟨b, 0, none⟩) h cap, ?_, rfl⟩
      simp [execOp, hv, h2, Instr.sliceAt, Instr.slice, Instr.sliceBounds, Instr.sliceBound, asIntOf, run_underlying hT, hs, hcap, Addr.add]
theorem opLenOw {α : Type} {g : SB} {n i len : Nat} {enc : α → List VP} {xs : List α} {T E : TypeId} {x : Operand} {ats : Array TypeId} (hat : ats[0]? = some T) (hT : P.underlying T = some (.slice E)) (hx : Opd env x (exactV (sval g len))) (hi : hs[i]? = some (sliceH g n enc xs)) (hl : len = xs.length) :
    OpP P hs env ⟨dst, .call ⟨.builtin .len, #[x], ats⟩, ty, pos, after, gd⟩ (intV .i64 (len : Int)) :=
  OpP.of_read fun ρ w S F ho he => by
    have hv := he.o _ _ hx; simp only [exactV] at hv
    refine ⟨.int .i64 (len : Int), ?_, rfl⟩
    obtain ⟨F1, _, hp⟩ := ho.get hi
    cases g with
    | none =>
      have hp' : xs = [] := hp
      subst hp'
      subst hl
      simp [execOp, resolve, invoke, builtin, Builtin.len_, hat, hv, sval, run_underlying hT, goInt]
    | some p => simp [execOp, resolve, invoke, builtin, Builtin.len_, hat, hv, sval, run_underlying hT, goInt]
end
variable {α : Type} {n : Nat}
theorem OLe.cutS {g : SB} {enc : α → List VP} {xs : List α} (ys : List α) (h : ys <+: xs) {r : List HP} : OLe (sliceH g n enc xs :: r) (sliceH g n enc ys :: r) := fun F S w ⟨F1, F2, f1, f2, hp, hr⟩ => by
 refine ⟨F1, F2, f1, f2, ?_, hr⟩
 obtain ⟨t, rfl⟩ := h
 cases g with
 | none => exact (List.append_eq_nil_iff.1 (show ys ++ t = [] from hp)).1
 | some p =>
  obtain ⟨h1, h2, h3, arr, T, h4, h5, h6⟩ := hp
  simp only [List.length_append] at h2 h3
  refine ⟨h1, by omega, by omega, arr, T, h4, h5, fun j q hj => h6 j q ?_⟩
  rw [List.flatMap_append, List.getElem?_append_left ((List.getElem?_eq_some_iff.1 hj).1)]
  exact hj
theorem set_snoc (B : List α) (x y : α) : (B ++ [x]).set B.length y = B ++ [y] := by simp
theorem get_snoc (B : List α) (x : α) : (B ++ [x])[B.length]? = some x := by simp
theorem OLe.of_eq {a b : List HP} (h : a = b) : OLe a b := h ▸ OLe.refl a
theorem CodeT.sliceLe {s : Code} {g : SB} {enc : α → List VP} {xs : List α} (i : Nat) (hi : hs[i]? = some (sliceH g n enc xs))
    (h : xs.length ≤ 281474976710656 → CodeT P Q c s hs env) : CodeT P Q c s hs env := by
  intro a w hst
  obtain ⟨h1, h2, S, F, h3, h4, h5⟩ := hst
  obtain ⟨F1, _, hp⟩ := h4.get hi
  refine h ?_ a w ⟨h1, h2, S, F, h3, h4, h5⟩
  cases g with
  | none => have h9 : xs = [] := hp; rw [h9]; simp
  | some p => exact hp.2.2.1
theorem Post.retV {q : γ → VP} (hr : fn.results = #[]) (g : γ) (hφ : φ g) (hh : ∀ F S w, Own hs F S w → Own (hs' g) F S w) (hq : q g = tupV []) (hdf : c.df = [] := by rfl) : EndT (Post P fn c φ hs' q) .ret c hs env :=
 Post.retR (rs := []) (qs := []) (by rw [hr]) rfl g hφ hh hq .nil hdf
theorem Post.retR0 {q : γ → VP} (hr : fn.results = #[]) (g : γ) (hφ : φ g) (hh : ∀ F S w, Own hs F S w → Own (hs' g) F S w) (hq : q g = tupV []) (hdf : c.df = [] := by rfl) : EndT (Post P fn c φ hs' q) .normal c hs env :=
 fun a w hst => Post.retV hr g hφ hh hq hdf a w hst
def fieldT (P : Program) (T : TypeId) (i : Nat) : Option (TypeId × Nat) := match P.underlying T with | some (.struct fs) => (fs[i]?).map fun f => (f.type, f.offset) | _ => none
variable {q : VP}
theorem opFieldV {dst : Option Tmp} {ty : TypeId} {pos : String} {after : Array Edge} {gd : Option (Nat × Bool)} {T E : TypeId} {i off : Nat} {x : Operand} {cs : List VP} (hT : fieldT P T i = some (E, off)) (hE : aggB P E = some false) (hx : Opd env x (aggV cs)) (hq : cs[off]? = some q) :
    OpP P hs env ⟨dst, .field T x i, ty, pos, after, gd⟩ q :=
  OpP.of_read fun ρ w S F _ he => by
    obtain ⟨arr, hv, hn, hc⟩ := he.o _ _ hx
    obtain ⟨u, hu, huq⟩ := hc off q hq
    unfold fieldT at hT
    split at hT
    · rename_i fs hfs
      obtain ⟨f, hf, he2⟩ := Option.map_eq_some_iff.1 hT
      simp only [Prod.mk.injEq] at he2
      obtain ⟨rfl, rfl⟩ := he2
      have h1 := run_isAgg hE w
      refine ⟨u, ?_, huq⟩
      simp [execOp, Instr.field, run_underlying hfs, hf, hv, asAgg, part, h1, hu]
    · cases hT
class FA (P : Program) (T : TypeId) (b : outParam Bool) : Prop where
 out : aggB P T = some b
class FC (P : Program) (T : TypeId) (n : outParam Nat) : Prop where
 out : P.cellsOf T = n
class FU (P : Program) (T : TypeId) (u : outParam TypeDesc) : Prop where
 out : P.underlying T = some u
class FF (P : Program) (T : TypeId) (f : Nat) (k : outParam Nat) : Prop where
 out : fieldB P T f = some k
class FZ (P : Program) (T : TypeId) (z : outParam (List Value)) : Prop where
 out : zeroB P T = some z
class FP (P : Program) (T : TypeId) (l : outParam (List (Nat × Nat))) : Prop where
 out : placesB P T = some l
class FY (P : Program) (T : TypeId) (n : outParam Nat) : Prop where
 out : P.bytesOf T = n
class FB (P : Program) (f : FuncId) : Prop where
 out : callB P f = true
class FR (P : Program) (T : TypeId) (x : outParam (Nat × Nat)) : Prop where
 out : arrB P T = some x
class FM (P : Program) : Prop where
 out : P.follows .mixedOrders = true
def Via (a b : VP) : Prop := VLe a b
theorem Via.id : Via q q := VLe.refl q
theorem Via.when {c : Prop} (h : c) : Via (whenV c q) q := fun _ _ _ k => k.1 h
theorem Via.under {c p : Prop} (h : c) : Via (whenV (c ∧ p) q) (whenV p q) := fun _ _ _ k => ⟨fun hp => k.1 ⟨h, hp⟩, fun hp => k.2 fun h' => hp h'.2⟩
theorem Opd.via {t : Nat} {a : VP} (hl : look env t = some a) (h : Via a q) : Opd env (.tmp t) q := (Opd.t hl).le h
theorem Opd.z {x : Operand} (h : Opd env x q := by first
 | ((with_reducible apply Opd.via); exact rfl; first | with_reducible exact .when (by assumption) | with_reducible exact .when (And.left (by assumption)) | with_reducible exact .id | with_reducible exact .under (by assumption) | exact .id | exact .when (by assumption) | exact .when (And.left (by assumption)))
 | with_reducible exact .ct
 | with_reducible exact .cf
 | with_reducible exact .c _
 | exact .c _
 | exact .g _) : Opd env x q := h
theorem Opds.z {env : Env} {xs : List Operand} {qs : List VP} (h : Opds env xs qs := by ((repeat (refine Opds.cons .z ?_)); exact .nil)) : Opds env xs qs := h
theorem Parts.one {x : Operand} {k : Nat} {ps : List (Nat × Operand)} {cs : List (Nat × List VP)} {c : List VP} (h : Opd env x q) (hp : PartC q c) (t : Parts env ps cs) : Parts env ((k, x) :: ps) ((k, c) :: cs) := .cons h t
theorem Parts.z {env : Env} {ps : List (Nat × Operand)} {cs : List (Nat × List VP)} (h : Parts env ps cs := by ((repeat (apply Parts.one; exact .z; exact inferInstance)); exact .nil)) : Parts env ps cs := h
theorem fits_z {k : IntKind} {n : Int} (h : fits k n := by first
 | (with_reducible apply fits_i64) <;> omega
 | (with_reducible apply fits_u64) <;> omega
 | (with_reducible apply fits_u32) <;> omega
 | (with_reducible apply fits_u8) <;> omega) : fits k n := h
section
variable {P : Program} {hs : List HP} {env : Env} {q : VP} {dst : Option Tmp} {ty T E : TypeId} {pos : String} {after : Array Edge} {gd : Option (Nat × Bool)} {x y : Operand}
theorem opBoxF (hx : Opd env x q) (hf : Flat q) : OpP P hs env ⟨dst, .box T x, ty, pos, after, gd⟩ (ptrV [q]) := opBox hx
theorem opLen1 {α : Type} {n : Nat} {enc : α → List VP} {xs : List α} (hT : P.underlying T = some (.slice E)) (hx : Opd env x (sliceV n enc xs)) :
    OpP P hs env ⟨dst, .call ⟨.builtin .len, #[x], #[T]⟩, ty, pos, after, gd⟩ (intV .i64 (xs.length : Int)) := opLen rfl hT hx
theorem opLenS1 {l : List UInt8} (hT : P.underlying T = some .string) (hx : Opd env x (strV l)) :
    OpP P hs env ⟨dst, .call ⟨.builtin .len, #[x], #[T]⟩, ty, pos, after, gd⟩ (intV .i64 (l.length : Int)) := opLenS rfl hT hx
theorem opLen2 {α : Type} {g : SB} {n i len : Nat} {enc : α → List VP} {xs : List α} (hT : P.underlying T = some (.slice E)) (hx : Opd env x (exactV (sval g len))) (hi : hs[i]? = some (sliceH g n enc xs)) (hl : len = xs.length) :
    OpP P hs env ⟨dst, .call ⟨.builtin .len, #[x], #[T]⟩, ty, pos, after, gd⟩ (intV .i64 (len : Int)) := opLenOw rfl hT hx hi hl
end
section
variable {P : Program} {hs : List HP} {env : Env} {q : VP} {dst : Option Tmp} {ty T T2 : TypeId} {pos : String} {after : Array Edge} {gd : Option (Nat × Bool)} {x y : Operand} {b : BinOp} {f : Builtin} {as : Array Operand} {ats : Array TypeId}
theorem g_ld (h : OpP P hs env ⟨dst, .load T x, ty, pos, after, gd⟩ q) : OpP P hs env ⟨dst, .load T x, ty, pos, after, gd⟩ q := h
theorem g_bin (h : OpP P hs env ⟨dst, .binOp b T x y T2, ty, pos, after, gd⟩ q) : OpP P hs env ⟨dst, .binOp b T x y T2, ty, pos, after, gd⟩ q := h
theorem g_call (h : OpP P hs env ⟨dst, .call ⟨.builtin f, as, ats⟩, ty, pos, after, gd⟩ q) : OpP P hs env ⟨dst, .call ⟨.builtin f, as, ats⟩, ty, pos, after, gd⟩ q := h
end
theorem OpP.z {P : Program} {hs : List HP} {env : Env} {o : Oper} {q : VP} (h : OpP P hs env o q := by first
 | (with_reducible apply opMove); exact .z
 | (with_reducible apply opAssign); exact .z
 | (with_reducible apply g_ld); first
  | (with_reducible apply opLoad); exact FA.out; exact .z
  | (with_reducible apply opLoadA); exact FA.out; exact FC.out; rfl; exact .z; rfl
  | (with_reducible apply opLoadO (i := 0)); exact FA.out; exact .z; rfl; rfl
  | (with_reducible apply opLoadO (i := 1)); exact FA.out; exact .z; rfl; rfl
  | (with_reducible apply opLoadO (i := 2)); exact FA.out; exact .z; rfl; rfl
  | (with_reducible apply opLoadO (i := 3)); exact FA.out; exact .z; rfl; rfl
  | (with_reducible apply opLoadOA (i := 0)); exact FA.out; exact FC.out; rfl; exact .z; rfl; rfl
  | (with_reducible apply opLoadOA (i := 1)); exact FA.out; exact FC.out; rfl; exact .z; rfl; rfl
  | (with_reducible apply opLoadOA (i := 2)); exact FA.out; exact FC.out; rfl; exact .z; rfl; rfl
  | (with_reducible apply opLoadOA (i := 3)); exact FA.out; exact FC.out; rfl; exact .z; rfl; rfl
 | (with_reducible apply opField); exact FF.out; exact .z
 | (with_reducible apply opFieldO); exact FF.out; exact .z
 | (with_reducible apply opNilChk); exact .z
 | (with_reducible apply opNilChkO); exact .z
 | (with_reducible apply g_bin); first
  | (with_reducible apply opEql); exact .z; exact .z
  | (with_reducible apply opNeq); exact .z; exact .z
  | (with_reducible apply opLss); exact .z; exact .z
  | (with_reducible apply opGeq); exact .z; exact .z
  | (with_reducible apply opGtr); exact .z; exact .z
  | (with_reducible apply opLeq); exact .z; exact .z
  | (with_reducible apply opAddF); exact .z; exact .z; exact fits_z
  | (with_reducible apply opSubF); exact .z; exact .z; exact fits_z
  | (with_reducible apply opMulF); exact .z; exact .z; exact fits_z
  | (with_reducible apply opEqlS); exact .z; exact .z
  | (with_reducible apply opNeqS); exact .z; exact .z
  | (with_reducible apply opEqlB); exact FU.out; exact .z; exact .z
  | (with_reducible apply opEqlNil); exact FU.out; exact .z
  | (with_reducible apply opNeqNil); exact FU.out; exact .z
  | (with_reducible apply opNilEqlNil); exact FU.out; exact .z
  | (with_reducible apply opNilNeqNil); exact FU.out; exact .z
 | (with_reducible apply opAnd); exact .z; exact .z
 | (with_reducible apply opOr); exact .z; exact .z
 | (with_reducible apply opNot); exact .z
 | (with_reducible apply opExtract); exact .z; rfl
 | (with_reducible apply opBuild); exact FP.out; exact FZ.out; exact .z; rfl
 | (with_reducible apply opBoxA); exact .z
 | (with_reducible apply opBoxF); exact .z; exact inferInstance
 | (with_reducible apply opConvF); exact FU.out; exact FU.out; exact .z; exact fits_z
 | (with_reducible apply opBytesStr); exact FU.out; exact FU.out; exact FU.out; exact .z
 | (with_reducible apply g_call); first
  | (with_reducible apply opLen1); exact FU.out; exact .z
  | (with_reducible apply opLenS1); exact FU.out; exact .z
  | (with_reducible apply opMax); exact .z; exact .z
  | (with_reducible apply opLen2 (i := 0)); exact FU.out; exact .z; rfl; rfl
  | (with_reducible apply opLen2 (i := 1)); exact FU.out; exact .z; rfl; rfl
  | (with_reducible apply opLen2 (i := 2)); exact FU.out; exact .z; rfl; rfl) : OpP P hs env o q := h
section
variable {P : Program} {hs : List HP} {env : Env} {q : VP} {dst : Option Tmp} {ty T E : TypeId} {pos : String} {after : Array Edge} {gd : Option (Nat × Bool)} {x y : Operand}
theorem cA {f : FuncId} {xs : List Operand} {ats : Array TypeId} {ps : List VP} [hb : FB P f] (hx : Opds env xs ps := by exact .z) (h : FnP P f ps q) :
    OpP P hs env ⟨dst, .call ⟨.value (.func f), xs.toArray, ats⟩, ty, pos, after, gd⟩ q := opCall h hb.out hx
theorem cV {A : Type} {ok : A → Prop} {arg : A → List VP} {res : A → VP} {xs : List Operand} {ats : Array TypeId} (a : A) (hx : Opd env x (funV P ok arg res) := by exact .z) (hxs : Opds env xs (arg a) := by exact .z) (h : ok a := by trivial) :
    OpP P hs env ⟨dst, .call ⟨.value x, xs.toArray, ats⟩, ty, pos, after, gd⟩ (res a) := opCallV a hx h hxs
theorem cI {α : Type} {n : Nat} {enc : α → List VP} {xs : List α} {k : IntKind} {i : Int} {e : α} [hT : FU P T (.slice E)] [hE : FC P E n] (j : Nat) (hx : Opd env x (sliceV n enc xs) := by exact .z) (hy : Opd env y (intV k i) := by exact .z) (h0 : Nat.blt 0 n = true := by rfl) (h : xs[j]? = some e := by assumption) (hi : i = (j : Int) := by first | rfl | omega) :
    OpP P hs env ⟨dst, .indexAddr T x y, ty, pos, after, gd⟩ (ptrV (enc e)) := opIndexAddr hT.out hE.out h0 hx hy hi h
theorem cB {α : Type} {n len : Nat} (enc : α → List VP) (ys : List α) {ps : List (Nat × Operand)} {pcs : List (Nat × List VP)} {zs : List Value} {cs : List VP} [henc : Enc n enc] [hT : FU P T (.slice E)] [hn : FC P E n] [hz : FZ P E zs] (hp : Parts env ps pcs := by exact .z) (h0 : Nat.blt 0 n = true := by rfl)
    (hzl : zs.length = n := by rfl) (hsm : Nat.ble (len * n) 16777216 = true := by rfl) (hf : fillV (fun i => some (i * n, n)) (zeroV zs (len * n)) pcs = some cs := by rfl) (hcs : cs = ys.flatMap enc := by rfl) (hl : ys.length = len := by rfl) (hs2 : Nat.ble len 16777216 = true := by rfl) :
    OpP P hs env ⟨dst, .buildSlice T len ps.toArray, ty, pos, after, gd⟩ (sliceV n enc ys) := opBuildSlice ys hT.out hn.out h0 hz.out hzl hp hsm hf hcs hl hs2
end
section
variable {P : Program} {hs : List HP} {env : Env} {dst : Option Tmp} {ty T E tf : TypeId} {pos : String} {after : Array Edge} {gd : Option (Nat × Bool)} {x y : Operand} {D : Prop}
theorem cE {f : FuncId} {xs : List Operand} {ats : Array TypeId} {ps : List VP} {hs0 rest : List HP} {γ : Type} {φ : γ → Prop} {hs' : γ → List HP} {q : γ → VP} [hb : FB P f] (hx : Opds env xs ps := by exact .z) (hp : hs = hs0 ++ rest := by rfl) (h : FnE P f ps hs0 φ hs' q) :
    OpE P hs env ⟨dst, .call ⟨.value (.func f), xs.toArray, ats⟩, ty, pos, after, gd⟩ φ (fun g => hs' g ++ rest) q := opCallE h hb.out hx (.of_eq hp)
theorem cEi {f : FuncId} {xs : List Operand} {ats : Array TypeId} {ps : List VP} {hs0 : List HP} {γ : Type} {φ : γ → Prop} {hs' : γ → List HP} {q : γ → VP} [hb : FB P f] (rest : List HP) (ix : List Nat) (hx : Opds env xs ps := by exact .z) (h1 : ix.filterMap (fun i => hs[i]?) = hs0 ++ rest := by rfl) (h2 : permB (List.range hs.length) ix = true := by rfl) (h : FnE P f ps hs0 φ hs' q) :
    OpE P hs env ⟨dst, .call ⟨.value (.func f), xs.toArray, ats⟩, ty, pos, after, gd⟩ φ (fun g => hs' g ++ rest) q := opCallE h hb.out hx (Perm.idx ix h1 h2)
theorem cX {f : FuncId} {xs : List Operand} {ats : Array TypeId} {ps : List VP} {hs0 rest : List HP} {γ : Type} {φ : γ → Prop} {hs' : γ → List HP} {q : γ → VP} [hb : FB P f] (hx : Opds env xs ps := by exact .z) (hp : hs = hs0 ++ rest := by rfl) (h : FnX P tf f ps hs0 D φ hs' q) :
    OpX P tf hs rest env ⟨dst, .call ⟨.value (.func f), xs.toArray, ats⟩, ty, pos, after, none⟩ D φ (fun g => hs' g ++ rest) q := opCallPan h hb.out hx (.of_eq hp)
theorem cXi {f : FuncId} {xs : List Operand} {ats : Array TypeId} {ps : List VP} {hs0 : List HP} {γ : Type} {φ : γ → Prop} {hs' : γ → List HP} {q : γ → VP} [hb : FB P f] (rest : List HP) (ix : List Nat) (hx : Opds env xs ps := by exact .z) (h1 : ix.filterMap (fun i => hs[i]?) = hs0 ++ rest := by rfl) (h2 : permB (List.range hs.length) ix = true := by rfl) (h : FnX P tf f ps hs0 D φ hs' q) :
    OpX P tf hs rest env ⟨dst, .call ⟨.value (.func f), xs.toArray, ats⟩, ty, pos, after, none⟩ D φ (fun g => hs' g ++ rest) q := opCallPan h hb.out hx (Perm.idx ix h1 h2)
end
variable {j : Nat} {t : Tmp}
theorem OpG.kT {p : Prop} (hog : o.guard = some (j, true)) (hj : (ops[j]?).bind (·.dst) = some t) (ht : Nat.blt t n = true) (hl : look env t = some (propV p)) (h : p → OpP P hs env o q) : OpG P ops n hs env o (whenV p q) := .gT hl hog hj ht h
theorem OpG.kF {p : Prop} (hog : o.guard = some (j, false)) (hj : (ops[j]?).bind (·.dst) = some t) (ht : Nat.blt t n = true) (hl : look env t = some (propV p)) (h : ¬ p → OpP P hs env o q) : OpG P ops n hs env o (whenV (¬ p) q) := .gF hl hog hj ht h
theorem OpG.lT {c p : Prop} (hog : o.guard = some (j, true)) (hj : (ops[j]?).bind (·.dst) = some t) (ht : Nat.blt t n = true) (hl : look env t = some (whenV c (propV p))) (h : c ∧ p → OpP P hs env o q) : OpG P ops n hs env o (whenV (c ∧ p) q) := .hT hl hog hj ht h
theorem OpG.lF {c p : Prop} (hog : o.guard = some (j, false)) (hj : (ops[j]?).bind (·.dst) = some t) (ht : Nat.blt t n = true) (hl : look env t = some (whenV c (propV p))) (h : c ∧ ¬ p → OpP P hs env o q) : OpG P ops n hs env o (whenV (c ∧ ¬ p) q) := .hF hl hog hj ht h
theorem OpG.z {P : Program} {ops : Array Oper} {n : Nat} {hs : List HP} {env : Env} {o : Oper} {q : VP} (h : OpG P ops n hs env o q := by first
 | (with_reducible apply OpG.kT); rfl; rfl; rfl; rfl; intro hg; exact .z
 | (with_reducible apply OpG.kF); rfl; rfl; rfl; rfl; intro hg; exact .z
 | (with_reducible apply OpG.lT); rfl; rfl; rfl; rfl; intro hg; exact .z
 | (with_reducible apply OpG.lF); rfl; rfl; rfl; rfl; intro hg; exact .z) : OpG P ops n hs env o q := h
section
variable {P : Program} {ops : Array Oper} {Q : Exit → Act → World → Prop} {c : Ctx} {l : List Oper} {hs : List HP} {env : Env} {q : VP} {ty T E : TypeId} {pos : String} {after : Array Edge} {x y : Operand}
theorem SeqT.st1 (i : Nat) {b off : Nat} {cs : List VP} (hn : P.cellsOf T = 1) (hx : Opd env x (addrV b off)) (hy : Opd env y q) (hf : Flat q) (hi : hs[i]? = some (cellsH b cs)) (hl : Nat.blt off cs.length = true)
    (k : SeqT P ops Q c l (hs.set i (cellsH b (cs.set off q))) env) : SeqT P ops Q c (⟨none, .store T x y, ty, pos, after, none⟩ :: l) hs env := .s (opStoreO hn hx hy hi hl) k
theorem SeqT.st2 (i : Nat) {b off n : Nat} {cs new : List VP} (hn : P.cellsOf T = n) (h0 : Nat.blt 0 n = true) (hx : Opd env x (addrV b off)) (hy : Opd env y (aggV new)) (hfl : FlatL new) (hln : Nat.beq new.length n = true) (hi : hs[i]? = some (cellsH b cs)) (hl : Nat.ble (off + n) cs.length = true)
    (k : SeqT P ops Q c l (hs.set i (cellsH b (spliceV off new cs))) env) : SeqT P ops Q c (⟨none, .store T x y, ty, pos, after, none⟩ :: l) hs env := .s (opStoreOA hn h0 hx hy hln hi hl) k
end
variable {as : List α}
theorem takeS {a : α} {l : List α} (h : as.take n = l) : (a :: as).take (n + 1) = a :: l := congrArg (List.cons a) h
theorem take0 : as.take 0 = [] := rfl
theorem dropS {a : α} {l : List α} (h : as.drop n = l) : (a :: as).drop (n + 1) = l := h
theorem drop0 : as.drop 0 = as := rfl
def DrawK (P : Program) (ops : Array Oper) (n : Nat) (hs : List HP) (e0 : Env) (i : Nat) (done : Done) (l : List Oper) (K : Done → Prop) : Prop := ∃ all, DrawH P ops n hs e0 i done l all ∧ K all
section
variable {P : Program} {ops : Array Oper} {n : Nat} {hs : List HP} {e0 : Env} {K : Done → Prop} {i : Nat} {done : Done} {d : Tmp} {q : VP} {op : Op} {ty : TypeId} {pos : String} {after : Array Edge} {gd : Option (Nat × Bool)} {l : List Oper}
theorem DrawK.g (h : OpG P ops n hs (avail after done ++ e0) ⟨some d, op, ty, pos, after, gd⟩ q) (k : DrawK P ops n hs e0 (i + 1) ((i, d, q) :: done) l K) : DrawK P ops n hs e0 i done (⟨some d, op, ty, pos, after, gd⟩ :: l) K :=
 let ⟨all, k1, k2⟩ := k; ⟨all, .cons h k1, k2⟩
theorem DrawK.cons (h : OpG P ops n hs (avail after done ++ e0) ⟨some d, op, ty, pos, after, gd⟩ q) (k : DrawK P ops n hs e0 (i + 1) ((i, d, q) :: done) l K) : DrawK P ops n hs e0 i done (⟨some d, op, ty, pos, after, gd⟩ :: l) K := .g h k
theorem DrawK.p (h : OpP P hs (avail after done ++ e0) ⟨some d, op, ty, pos, after, none⟩ q) (k : DrawK P ops n hs e0 (i + 1) ((i, d, q) :: done) l K) : DrawK P ops n hs e0 i done (⟨some d, op, ty, pos, after, none⟩ :: l) K :=
 let ⟨all, k1, k2⟩ := k; ⟨all, .p h k1, k2⟩
theorem DrawK.nil (k : K done) : DrawK P ops n hs e0 i done [] K := ⟨_, .nil, k⟩
theorem CodeT.drawK {Q : Exit → Act → World → Prop} {c : Ctx} {l l1 l2 : List Oper} {id : Nat} {env : Env} (m g : Nat) (hm : P.follows .mixedOrders = true) (hB : drawB l.toArray m g c.n = true) (h1 : l.take m = l1 := by ((repeat (first | with_reducible apply takeS | apply takeS)); exact take0)) (h2 : l.drop m = l2 := by ((repeat (first | with_reducible apply dropS | apply dropS)); exact drop0))
    (k : DrawK P l.toArray c.n hs (strip (dstsOf l1) env) 0 [] l1 (fun all => SeqT P l.toArray Q c l2 hs (doneEnv all ++ env))) : CodeT P Q c (.region id l.toArray true) hs env :=
  let ⟨all, k1, k2⟩ := k; .draw m g hm hB (h1 ▸ k1) (h2 ▸ k2)
theorem CodeT.stagedK {Q : Exit → Act → World → Prop} {c : Ctx} {l l2 : List Oper} {id : Nat} {env : Env} (plan : List (Nat × Nat)) (m g : Nat) (hm : P.follows .mixedOrders = true) (hB : stagedB l.toArray plan m g c.n = true) (h2 : l.drop m = l2 := by ((repeat (first | with_reducible apply dropS | apply dropS)); exact drop0))
    (k : DrawS P l c.n (strip (dstsOf (l.take m)) env) (fun done hs => SeqT P l.toArray Q c l2 hs (doneEnv done ++ env)) plan [] hs) : CodeT P Q c (.region id l.toArray true) hs env := .staged plan m g hm hB (h2 ▸ k)
end
variable {h' : Prop}
theorem stepZ {g : Prop} (k : h') (j : h' → g := by first
 | (with_reducible apply SeqT.p); exact .z; rfl
 | (with_reducible exact SeqT.nil)
 | (with_reducible apply SeqT.g); exact .z; rfl; rfl
 | (with_reducible exact CodeT.seq)
 | (with_reducible exact CodeT.region)
 | (with_reducible exact fun k => EndT.thenN k)
 | (with_reducible exact CodeT.block)
 | (with_reducible exact EndT.blkN)
 | (with_reducible exact CodeT.skip)
 | (with_reducible exact CodeT.ret)
 | (with_reducible exact CodeT.exit)
 | (with_reducible exact EndT.thenR)
 | (with_reducible exact EndT.blkR)
 | (with_reducible exact EndT.thenX)
 | (with_reducible exact EndT.blkX)
 | (with_reducible apply EndT.blkO); rfl
 | (with_reducible apply SeqT.st1 0); exact FC.out; exact .z; exact .z; exact inferInstance; rfl; rfl
 | (with_reducible apply SeqT.st1 1); exact FC.out; exact .z; exact .z; exact inferInstance; rfl; rfl
 | (with_reducible apply SeqT.st1 2); exact FC.out; exact .z; exact .z; exact inferInstance; rfl; rfl
 | (with_reducible apply SeqT.st2 0); exact FC.out; rfl; exact .z; exact .z; exact inferInstance; rfl; rfl; rfl
 | (with_reducible apply SeqT.st2 1); exact FC.out; rfl; exact .z; exact .z; exact inferInstance; rfl; rfl; rfl
 | (with_reducible apply SeqT.st2 2); exact FC.out; rfl; exact .z; exact .z; exact inferInstance; rfl; rfl; rfl
 | (with_reducible apply DrawS.p); rfl; intro _; exact .z
 | (with_reducible apply DrawS.o); rfl; exact .z
 | (with_reducible apply DrawS.g); rfl; intro _; exact .z
 | (with_reducible apply DrawF.p); rfl; intro _; exact .z
 | (with_reducible apply DrawF.g); rfl; intro _; exact .z
 | (with_reducible apply DrawK.p); exact .z
 | (with_reducible apply DrawK.g); exact .z
 | (with_reducible exact DrawK.nil)
 | (apply DrawK.p); exact .z
 | (apply DrawK.g); exact .z
 | (apply SeqT.p); exact .z; rfl
 | (exact SeqT.nil)) : g := j k
structure Last (p : Prop) : Prop where
 out : p
theorem Z1 {g : Prop} (k : h') (j : Last h' → g := by (intro k; (iterate 1 refine stepZ ?_); exact k.out)) : g := j ⟨k⟩
theorem Z2 {g : Prop} (k : h') (j : Last h' → g := by (intro k; (iterate 2 refine stepZ ?_); exact k.out)) : g := j ⟨k⟩
theorem Z3 {g : Prop} (k : h') (j : Last h' → g := by (intro k; (iterate 3 refine stepZ ?_); exact k.out)) : g := j ⟨k⟩
theorem Z4 {g : Prop} (k : h') (j : Last h' → g := by (intro k; (iterate 4 refine stepZ ?_); exact k.out)) : g := j ⟨k⟩
theorem Z5 {g : Prop} (k : h') (j : Last h' → g := by (intro k; (iterate 5 refine stepZ ?_); exact k.out)) : g := j ⟨k⟩
theorem Z6 {g : Prop} (k : h') (j : Last h' → g := by (intro k; (iterate 6 refine stepZ ?_); exact k.out)) : g := j ⟨k⟩
theorem Z7 {g : Prop} (k : h') (j : Last h' → g := by (intro k; (iterate 7 refine stepZ ?_); exact k.out)) : g := j ⟨k⟩
theorem Z8 {g : Prop} (k : h') (j : Last h' → g := by (intro k; (iterate 8 refine stepZ ?_); exact k.out)) : g := j ⟨k⟩
theorem Z9 {g : Prop} (k : h') (j : Last h' → g := by (intro k; (iterate 9 refine stepZ ?_); exact k.out)) : g := j ⟨k⟩
theorem Z10 {g : Prop} (k : h') (j : Last h' → g := by (intro k; (iterate 10 refine stepZ ?_); exact k.out)) : g := j ⟨k⟩
theorem Z11 {g : Prop} (k : h') (j : Last h' → g := by (intro k; (iterate 11 refine stepZ ?_); exact k.out)) : g := j ⟨k⟩
theorem Z12 {g : Prop} (k : h') (j : Last h' → g := by (intro k; (iterate 12 refine stepZ ?_); exact k.out)) : g := j ⟨k⟩
theorem Z13 {g : Prop} (k : h') (j : Last h' → g := by (intro k; (iterate 13 refine stepZ ?_); exact k.out)) : g := j ⟨k⟩
theorem Z14 {g : Prop} (k : h') (j : Last h' → g := by (intro k; (iterate 14 refine stepZ ?_); exact k.out)) : g := j ⟨k⟩
theorem Z15 {g : Prop} (k : h') (j : Last h' → g := by (intro k; (iterate 15 refine stepZ ?_); exact k.out)) : g := j ⟨k⟩
theorem Z16 {g : Prop} (k : h') (j : Last h' → g := by (intro k; (iterate 16 refine stepZ ?_); exact k.out)) : g := j ⟨k⟩
theorem Z17 {g : Prop} (k : h') (j : Last h' → g := by (intro k; (iterate 17 refine stepZ ?_); exact k.out)) : g := j ⟨k⟩
theorem Z18 {g : Prop} (k : h') (j : Last h' → g := by (intro k; (iterate 18 refine stepZ ?_); exact k.out)) : g := j ⟨k⟩
theorem Z19 {g : Prop} (k : h') (j : Last h' → g := by (intro k; (iterate 19 refine stepZ ?_); exact k.out)) : g := j ⟨k⟩
theorem Z20 {g : Prop} (k : h') (j : Last h' → g := by (intro k; (iterate 20 refine stepZ ?_); exact k.out)) : g := j ⟨k⟩
theorem Z21 {g : Prop} (k : h') (j : Last h' → g := by (intro k; (iterate 21 refine stepZ ?_); exact k.out)) : g := j ⟨k⟩
theorem Z22 {g : Prop} (k : h') (j : Last h' → g := by (intro k; (iterate 22 refine stepZ ?_); exact k.out)) : g := j ⟨k⟩
theorem Z23 {g : Prop} (k : h') (j : Last h' → g := by (intro k; (iterate 23 refine stepZ ?_); exact k.out)) : g := j ⟨k⟩
theorem Z24 {g : Prop} (k : h') (j : Last h' → g := by (intro k; (iterate 24 refine stepZ ?_); exact k.out)) : g := j ⟨k⟩
theorem Z25 {g : Prop} (k : h') (j : Last h' → g := by (intro k; (iterate 25 refine stepZ ?_); exact k.out)) : g := j ⟨k⟩
theorem Z26 {g : Prop} (k : h') (j : Last h' → g := by (intro k; (iterate 26 refine stepZ ?_); exact k.out)) : g := j ⟨k⟩
theorem Z27 {g : Prop} (k : h') (j : Last h' → g := by (intro k; (iterate 27 refine stepZ ?_); exact k.out)) : g := j ⟨k⟩
theorem Z29 {g : Prop} (k : h') (j : Last h' → g := by (intro k; (iterate 29 refine stepZ ?_); exact k.out)) : g := j ⟨k⟩
theorem Z30 {g : Prop} (k : h') (j : Last h' → g := by (intro k; (iterate 30 refine stepZ ?_); exact k.out)) : g := j ⟨k⟩
theorem Z33 {g : Prop} (k : h') (j : Last h' → g := by (intro k; (iterate 33 refine stepZ ?_); exact k.out)) : g := j ⟨k⟩
theorem Z34 {g : Prop} (k : h') (j : Last h' → g := by (intro k; (iterate 34 refine stepZ ?_); exact k.out)) : g := j ⟨k⟩
theorem Z35 {g : Prop} (k : h') (j : Last h' → g := by (intro k; (iterate 35 refine stepZ ?_); exact k.out)) : g := j ⟨k⟩
theorem Z39 {g : Prop} (k : h') (j : Last h' → g := by (intro k; (iterate 39 refine stepZ ?_); exact k.out)) : g := j ⟨k⟩
theorem Z40 {g : Prop} (k : h') (j : Last h' → g := by (intro k; (iterate 40 refine stepZ ?_); exact k.out)) : g := j ⟨k⟩
theorem In {x : Code} {q : γ → VP} (n : Nat)
    (hf : P.funcs[f]? = some fn) (h : ∀ (w0 : World) (S0 M : BS), CodeT P (Post P fn ⟨w0, S0, M, n, none, []⟩ φ hs' q) ⟨w0, S0, M, n, none, []⟩ x hs (args ps)) (hb : fn.body = some x := by rfl) (hnt : fn.ntmps = n := by rfl) (hn : Nat.ble ps.length n = true := by rfl) : FnE P f ps hs φ hs' q := .intro n hf hb hnt hn h
theorem InX {x : Code} {q : γ → VP} (n : Nat)
    (hf : P.funcs[f]? = some fn) (h : ∀ (w0 : World) (S0 M : BS), CodeT P (PostX P fn ⟨w0, S0, M, n, none, []⟩ tf D φ hs' q) ⟨w0, S0, M, n, none, []⟩ x hs (args ps)) (hb : fn.body = some x := by rfl) (hnt : fn.ntmps = n := by rfl) (hn : Nat.ble ps.length n = true := by rfl) : FnX P tf f ps hs D φ hs' q := .intro n hf hb hnt hn h
theorem Cd {x : Operand} {p : Prop} {s t : Code} (ht : p → CodeT P Q c s hs env) (hf : ¬ p → CodeT P Q c t hs env) (hx : Opd env x (propV p) := by exact .z) : CodeT P Q c (.cond x s t) hs env := .cond hx ht hf
variable {a : Prop}
theorem Rt1 {g : Prop} (x : a) (j : a → g := by (intro x; first | exact Post.retP rfl rfl x | exact Post.retR1 rfl () trivial (fun _ _ _ _ => trivial) (.rt rfl) x | exact Post.retR1 rfl () trivial (fun _ _ _ h => h) (.rt rfl) x)) : g := j x
variable {b : Prop}
theorem Rt2 {g : Prop} (x : a) (y : b) (j : a → b → g := by (intro x y; first | exact Post.retR rfl rfl () trivial (fun _ _ _ _ => trivial) rfl (.cons (.rt rfl) x (.cons (.rt rfl) y .nil)) | exact Post.retR rfl rfl () trivial (fun _ _ _ h => h) rfl (.cons (.rt rfl) x (.cons (.rt rfl) y .nil)))) : g := j x y
theorem Rt4 {g d e : Prop} (x : a) (y : b) (z : d) (u : e) (j : a → b → d → e → g := by (intro x y z u; first | exact Post.retR rfl rfl () trivial (fun _ _ _ _ => trivial) rfl (.cons (.rt rfl) x (.cons (.rt rfl) y (.cons (.rt rfl) z (.cons (.rt rfl) u .nil)))) | exact Post.retR rfl rfl () trivial (fun _ _ _ h => h) rfl (.cons (.rt rfl) x (.cons (.rt rfl) y (.cons (.rt rfl) z (.cons (.rt rfl) u .nil)))))) : g := j x y z u
theorem Rt3 {g d : Prop} (x : a) (y : b) (z : d) (j : a → b → d → g := by (intro x y z; first | exact Post.retR rfl rfl () trivial (fun _ _ _ _ => trivial) rfl (.cons (.rt rfl) x (.cons (.rt rfl) y (.cons (.rt rfl) z .nil))) | exact Post.retR rfl rfl () trivial (fun _ _ _ h => h) rfl (.cons (.rt rfl) x (.cons (.rt rfl) y (.cons (.rt rfl) z .nil))))) : g := j x y z
end Go.Hl
end
