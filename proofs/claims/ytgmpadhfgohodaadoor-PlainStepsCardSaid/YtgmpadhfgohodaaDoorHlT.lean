/-
  A call that turns what is owned. No project text.
-/
import Derived.Test.YtgmpadhfgohodaaDoorHlS
namespace Go.Hl
open Go.RowKit
set_option linter.unusedVariables false

section
variable {P : Program} {hs : List HP} {env : Env} {q : VP} {dst : Option Tmp} {ty T T' E : TypeId} {pos : String} {after : Array Edge} {gd : Option (Nat × Bool)} {x y z : Operand}

theorem opCallE {f : FuncId} {xs : List Operand} {ats : Array TypeId} {ps : List VP} {hs0 rest : List HP} {γ : Type} {φ : γ → Prop} {hs' : γ → List HP} {q : γ → VP} (hf : FnE P f ps hs0 φ hs' q) (hb : callB P f = true) (hx : Opds env xs ps) (hp : hs.Perm (hs0 ++ rest)) :
    OpE P hs env ⟨dst, .call ⟨.value (.func f), xs.toArray, ats⟩, ty, pos, after, gd⟩ φ (fun g => hs' g ++ rest) q := by
  intro c a w S F hsit hown he K Q hk
  obtain ⟨F1, F2, hF1, hF2, ho1, ho2⟩ := Own.append.1 (hown.perm hp)
  have hd1 : ∀ k, F1 k → k < w.heap.size := fun k hk => hsit.domF k (hF1 k hk).1
  have hSF : ∀ k, S k → ¬ F1 k := fun k hk hf => hsit.disj k hk (hF1 k hf).1
  unfold Oper.wp
  rw [run_call hb]
  refine (hf w S F1 _ hsit.domS hd1 hSF ho1 (by simpa using hx S w a he)).mono ?_
  rintro e w' ⟨v, S', F1', g, rfl, h2, hφ, hown', hq⟩
  have hoS : ∀ k, S k → w'.heap[k]? = w.heap[k]? := fun k hk => h2.kept k (hsit.domS k hk) (hSF k hk)
  have ho2F : ∀ k, F2 k → ¬ F1 k := fun k hk hf => (hF1 k hf).2 hk
  refine hk g v w' S' (fun k => F1' k ∨ F2 k) hφ ⟨h2.os.trans hsit.os, h2.tape.trans hsit.tape, h2.output.trans hsit.output, Nat.le_trans hsit.size h2.size, fun k hk hm => ?_, fun k hk hf => ?_, h2.domS, fun k hk => ?_, fun k hk => ?_, fun k hk => ?_, fun k hk => h2.base k (hsit.base k hk)⟩ h2.base hoS ?_ hq
  · have hnF : ¬ F1 k := fun hf => (hsit.own k (hF1 k hf).1).elim hm (fun h => by omega)
    exact (h2.kept k (Nat.lt_of_lt_of_le hk hsit.size) hnF).trans (hsit.kept k hk hm)
  · rcases hf with hf | hf
    · exact h2.disj k hk hf
    · rcases h2.shr k hk with h | h | h
      · exact hsit.disj k h (hF2 k hf)
      · exact (hF1 k h).2 hf
      · exact Nat.lt_irrefl _ (Nat.lt_of_lt_of_le (hsit.domF k (hF2 k hf)) h)
  · rcases hk with hk | hk
    · exact h2.domF k hk
    · exact Nat.lt_of_lt_of_le (hsit.domF k (hF2 k hk)) h2.size
  · rcases hk with hk | hk
    · rcases h2.own k hk with h | h
      · exact hsit.own k (hF1 k h).1
      · exact .inr (Nat.le_trans hsit.size h)
    · exact hsit.own k (hF2 k hk)
  · rcases h2.shr k hk with h | h | h
    · exact hsit.shr k h
    · exact .inr (hsit.own k (hF1 k h).1)
    · exact .inr (.inr (Nat.le_trans hsit.size h))
  · refine Own.append.2 ⟨F1', F2, fun k hk => ⟨.inl hk, fun hf => ?_⟩, fun k hk => .inr hk, hown', ho2.mono (fun _ h => h) h2.base (fun k hk => h2.kept k (hsit.domF k (hF2 k hk)) (ho2F k hk)) hoS⟩
    rcases h2.own k hk with h | h
    · exact (hF1 k h).2 hf
    · exact Nat.lt_irrefl _ (Nat.lt_of_lt_of_le (hsit.domF k (hF2 k hf)) h)

/-- an owned slice of something has a block -/
theorem CodeT.sliceSome {Q : Exit → Act → World → Prop} {c : Ctx} {s : Code} {α : Type} {g : SB} {n : Nat} {enc : α → List VP} {xs : List α} (i : Nat) (hi : hs[i]? = some (sliceH g n enc xs)) (hne : xs ≠ [])
    (h : ∀ b cap, g = some (b, cap) → CodeT P Q c s hs env) : CodeT P Q c s hs env := by
  intro a w hst
  obtain ⟨h1, h2, S, F, h3, h4, h5⟩ := hst
  obtain ⟨F1, _, hp⟩ := h4.get hi
  cases g with
  | none => exact absurd hp hne
  | some p => exact h p.1 p.2 rfl a w ⟨h1, h2, S, F, h3, h4, h5⟩
end
end Go.Hl
