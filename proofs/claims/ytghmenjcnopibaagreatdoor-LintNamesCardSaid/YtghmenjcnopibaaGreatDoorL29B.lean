/-
  A function that lays one call aside: rules; the call that is laid aside does nothing where nothing has failed.
-/
import Derived.Test.YtghmenjcnopibaaGreatDoorL29A
import Derived.Test.YtghmenjcnopibaaGreatDoorTab
import Derived.Defers
import Derived.Recover
namespace Go.Hl
open Go.RowKit
set_option linter.unusedVariables false

def PostD (P : Program) (fn : Func) (c : Ctx) {γ : Type} (φ : γ → Prop) (hs' : γ → List HP) (q : γ → VP) : Exit → Act → World → Prop :=
  bodyPostD P fn fun e w' => ∃ v S' F' g, e = .returned v ∧ Sit ⟨c.w0, c.S0, c.M, 0, none, []⟩ w' S' F' ∧ φ g ∧ Own (hs' g) F' S' w' ∧ (q g).p S' w' v
theorem FnE.introD {P : Program} {f : FuncId} {fn : Func} {x : Code} {ps : List VP} {hs : List HP} {γ : Type} {φ : γ → Prop} {hs' : γ → List HP} {q : γ → VP}
    (n : Nat) (hf : P.funcs[f]? = some fn) (hb : fn.body = some x) (hnt : fn.ntmps = n) (hn : Nat.ble ps.length n = true)
    (h : ∀ (w0 : World) (S0 M : BS), CodeT P (PostD P fn ⟨w0, S0, M, n, none, []⟩ φ hs' q) ⟨w0, S0, M, n, none, []⟩ x hs (args ps)) : FnE P f ps hs φ hs' q := by
  intro w S F vs hS hF hSF hown hall
  have hlen : ps.length = vs.size := by simpa using hall.1
  have hn' : ps.length ≤ n := by simpa using hn
  refine calls_of_wp_defers hf hb (wpIn_wide.1 (h w S F _ _ ⟨rfl, ?_, S, F, ?_, hown, ?_⟩))
  · simp; omega
  · exact ⟨rfl, rfl, rfl, Nat.le_refl _, fun _ _ _ => rfl, hSF, hS, hF, fun k hk => .inl hk, fun k hk => .inl hk, fun _ hk => hk⟩
  · intro t q' hl
    obtain ⟨j, hj, hq⟩ := look_args ps 0 t q' hl
    have htj : t = j := by omega
    subst htj
    have hjl : t < ps.length := (List.getElem?_eq_some_iff.1 hq).1
    have hjv : t < vs.size := by omega
    have : (vs ++ Array.replicate (fn.ntmps - vs.size) undef).getD t undef = vs[t] := by simp [Array.getElem?_append, hjv]
    rw [this]
    exact hall.2 t q' _ hq (by simp [hjv])
theorem SeqT.deferX {P : Program} {ops : Array Oper} {Q : Exit → Act → World → Prop} {c : Ctx} {l : List Oper} {hs : List HP} {env : Env} {f : FuncId} {p : Value} {x : Operand} {ats : Array TypeId} {ty : TypeId} {pos : String} {after : Array Edge}
    (hro : c.ro = none) (hx : Opd env x (exactV (.func (.func f) #[] #[p]))) (k : SeqT P ops Q { c with df := ⟨.fn (.func f) #[p], #[]⟩ :: c.df } l hs env) :
    SeqT P ops Q c (⟨none, .defer ⟨.value x, #[], ats⟩, ty, pos, after, none⟩ :: l) hs env := by
  intro a w hst
  obtain ⟨h1, h2, S, F, h3, h4, h5⟩ := hst
  refine wpListIn_plain rfl fun K hK => ⟨fun _ _ => trivial, ?_⟩
  have hv := hx S w a h5; simp only [exactV] at hv
  have hr : (execOp a.eval (⟨none, .defer ⟨.value x, #[], ats⟩, ty, pos, after, none⟩ : Oper)).run P w = .ok (.defer ⟨.fn (.func f) #[p], #[]⟩) w := by
    simp [execOp, resolve, hv, Deferred.ofValue]
  have hs0 : (WF c.ro).round = none := by rw [hro]; rfl
  rw [hs0, Oper.semAt_none, hr, Oper.uponIn_defer]
  refine hK _ _ ?_
  have := k { a with defers := ⟨.fn (.func f) #[p], #[]⟩ :: a.defers } w ⟨by simp [h1], h2, S, F, ⟨h3.os, h3.tape, h3.output, h3.size, h3.kept, h3.disj, h3.domS, h3.domF, h3.own, h3.shr, h3.base⟩, h4, h5⟩
  exact this
theorem EndT.retD {P : Program} {fn : Func} {c c' : Ctx} {γ : Type} {φ : γ → Prop} {hs' : γ → List HP} {q : γ → VP} {hs : List HP} {env : Env} {f : FuncId} {p : Value}
    (hd : ∀ w : World, CallsD P f #[p] .returning w fun e u' w' => e = .returned (.tuple #[]) ∧ u' = .returning ∧ Below w.heap.size w w') (hc : c' = { c with df := [⟨.fn (.func f) #[p], #[]⟩] })
    (hcf : c.df = []) (hb : callB P f = true) (h : EndT (Post P fn c φ hs' q) .ret c hs env) : EndT (PostD P fn c φ hs' q) .ret c' hs env := by
  subst hc
  intro a w hst
  obtain ⟨h1, h2, S, F, h3, h4, h5⟩ := hst
  show Leaves P fn a.tmps _ a.defers .returning w
  have h1' : a.defers = [⟨.fn (.func f) #[p], #[]⟩] := h1
  rw [h1']
  refine leaves_cons (f := f) (args := #[p]) (by simp) (by have h9 := run_callFunc hb #[p] w; simpa [invoke] using h9) ?_
  refine (hd w).mono ?_
  rintro e u' w'' ⟨rfl, rfl, hbl⟩
  have g : Grow w w'' S S := ⟨hbl.os, hbl.tape, hbl.output, hbl.size, fun k hk => hbl.block k hk, fun _ h => h, fun _ h => .inl h⟩
  have h3' : Sit c w S F := ⟨h3.os, h3.tape, h3.output, h3.size, h3.kept, h3.disj, h3.domS, h3.domF, h3.own, h3.shr, h3.base⟩
  have := h { a with defers := [] } w'' ⟨hcf.symm, h2, S, F, h3'.grow g, g.owns h3.domS h3.domF h4, g.env h3.domS h5⟩
  obtain ⟨_, v, hr, hR⟩ := this
  exact ⟨v, hr, hR⟩
theorem clos1 {f : FuncId} {v : Value} : VLe (closV f [exactV v]) (exactV (.func (.func f) #[] #[v])) := fun S w u ⟨lb, hv, h1, h2⟩ => by
  match lb, h1, h2 with
  | [x], _, h2 =>
    have := h2 0 _ x rfl rfl
    simp only [exactV] at this
    subst this; exact hv
end Go.Hl
namespace Go.Proofs.YtghmenjcnopibaaGreatDoor
open Go.Hl Go.RowKit
theorem assert_nil (w : World) : (Instr.typeAssert Value.nilIface 20 204 true).run Tryz.prog w = .ok (.tuple #[.agg #[.int .i64 0], .bool false]) w := by
  kernel_rfl
set_option maxRecDepth 100000 in
set_option maxHeartbeats 4000000 in
theorem catch_idle (p : Value) (w : World) :
    CallsD Tryz.prog 104 #[p] .returning w fun e u' w' => e = .returned (.tuple #[]) ∧ u' = .returning ∧ Below w.heap.size w w' := by
  refine callsD_of_wpS Tryz.func104 rfl fun c₀ cs hu => ?_
  apply wpS_seq
  apply wpS_region
  simp [wpOpsS, go_sem, recoverD, hu, Tryz.ntmps104, Exit.thenS, assert_nil]
  apply wpS_seq
  apply wpS_region
  simp [wpOpsS, go_sem, Exit.thenS]
  refine wpS_cond (t := false) (by simp [Act.eval, Array.replicate]) ?_
  simp only [Bool.false_eq_true, if_false]
  refine wpS_of_wp (wp_skip ?_)
  have hb : Below w.heap.size w (w.alloc (Obj.cells #[Value.int IntKind.i64 0] 204)) := (Below.refl _ _).alloc (Nat.le_refl _) _
  generalize w.alloc (Obj.cells #[Value.int IntKind.i64 0] 204) = w1 at hb
  cases c₀
  simp_all [bodyPostS, results, Tryz.results104]
end Go.Proofs.YtghmenjcnopibaaGreatDoor
