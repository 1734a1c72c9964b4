/-
  General words of the plain laws: the first one that is so, none before a place. No project text.
-/
import Derived.Test.YtgmpadhfgohodaaDoorHlG
namespace Go.Hl
set_option linter.unusedVariables false

open Classical in
noncomputable def whenE (p : Prop) (e : Int) : Int := if p then e else 0
theorem whenE_eq {p : Prop} {e : Int} (he : e ≠ 0) : whenE p e = 0 ↔ ¬ p := by unfold whenE; split <;> simp_all
/-- the first error of so many -/
def firstE (g : Nat → Int) : Nat → Int
  | 0 => 0
  | n + 1 => if firstE g n ≠ 0 then firstE g n else g n
theorem firstE_zero {g : Nat → Int} : ∀ {n : Nat}, firstE g n = 0 ↔ ∀ i, i < n → g i = 0
  | 0 => by simp [firstE]
  | n + 1 => by
    simp only [firstE]
    split
    · rename_i h
      constructor
      · intro h'; exact absurd h' h
      · intro h'; exact absurd (firstE_zero.2 fun i hi => h' i (by omega)) h
    · rename_i h
      have h0 : firstE g n = 0 := by simpa using h
      constructor
      · intro h' i hi
        by_cases e : i = n
        · subst e; exact h'
        · exact firstE_zero.1 h0 i (by omega)
      · intro h'; exact h' n (by omega)
theorem firstE_at {g : Nat → Int} {k n : Nat} (h0 : firstE g k = 0) (hk : g k ≠ 0) (hn : k < n) : firstE g n = g k := by
  induction n with
  | zero => omega
  | succ n ih =>
    by_cases e : k = n
    · subst e; simp [firstE, h0]
    · have := ih (by omega)
      simp [firstE, this, hk]
def onI {α : Type} (xs : List α) (f : α → Int) (i : Nat) : Int := match xs[i]? with | some x => f x | none => 0
theorem onI_eq {α : Type} {xs : List α} {f : α → Int} {i : Nat} {x : α} (h : xs[i]? = some x) : onI xs f i = f x := by simp [onI, h]
theorem firstE_on {α : Type} {xs : List α} {f : α → Int} : firstE (onI xs f) xs.length = 0 ↔ ∀ x ∈ xs, f x = 0 := by
  rw [firstE_zero]
  constructor
  · intro h x hx
    obtain ⟨i, hi⟩ := List.mem_iff_getElem?.1 hx
    have := h i (List.getElem?_eq_some_iff.1 hi).1
    rwa [onI_eq hi] at this
  · intro h i hi
    obtain ⟨x, hx⟩ := getElem?_lt hi
    rw [onI_eq hx]; exact h x (List.mem_of_getElem? hx)
open Classical in
/-- where the first one is that is so; -1: none is -/
noncomputable def idxF {α : Type} (p : α → Prop) : List α → Int
  | [] => -1
  | x :: l => if p x then 0 else if idxF p l < 0 then -1 else idxF p l + 1
theorem idxF_ge {α : Type} (p : α → Prop) : ∀ l : List α, -1 ≤ idxF p l
  | [] => by simp [idxF]
  | x :: l => by unfold idxF; have := idxF_ge p l; split <;> (try split) <;> omega
theorem idxF_nonneg {α : Type} {p : α → Prop} : ∀ {l : List α}, 0 ≤ idxF p l ↔ ∃ x ∈ l, p x
  | [] => by simp [idxF]
  | x :: l => by
    unfold idxF
    have ih := idxF_nonneg (p := p) (l := l)
    split
    · rename_i h; simp [h]
    · rename_i h
      split
      · rename_i h2
        simp only [List.mem_cons, exists_eq_or_imp, h, false_or]
        rw [← ih]; omega
      · rename_i h2
        simp only [List.mem_cons, exists_eq_or_imp, h, false_or]
        rw [← ih]; omega
theorem idxF_none {α : Type} {p : α → Prop} {l : List α} (h : ∀ x ∈ l, ¬ p x) : idxF p l = -1 := by
  have h1 := idxF_ge p l
  have h2 : ¬ 0 ≤ idxF p l := fun h' => by obtain ⟨x, hx, hp⟩ := idxF_nonneg.1 h'; exact h x hx hp
  omega
theorem idxF_at {α : Type} {p : α → Prop} : ∀ {l : List α} {k : Nat} {x : α}, l[k]? = some x → p x → (∀ j y, j < k → l[j]? = some y → ¬ p y) → idxF p l = k
  | [], _, _, h, _, _ => by simp at h
  | y :: l, 0, x, h, hp, _ => by simp at h; subst h; simp [idxF, hp]
  | y :: l, k + 1, x, h, hp, hn => by
    have h1 := idxF_at (l := l) (k := k) (x := x) (by simpa using h) hp (fun j z hj hz => hn (j + 1) z (by omega) (by simpa using hz))
    have h2 := hn 0 y (by omega) rfl
    unfold idxF
    rw [if_neg h2, h1, if_neg (by omega)]; omega
/-- none is so, before a place -/
def NotB {α : Type} (p : α → Prop) (l : List α) (k : Nat) : Prop := ∀ j y, j < k → l[j]? = some y → ¬ p y
theorem NotB.zero {α : Type} (p : α → Prop) (l : List α) : NotB p l 0 := fun j y h => by omega
theorem NotB.succ {α : Type} {p : α → Prop} {l : List α} {k : Nat} {x : α} (h : NotB p l k) (hx : l[k]? = some x) (hp : ¬ p x) : NotB p l (k + 1) := fun j y hj hy => by
  by_cases e : j = k
  · subst e; rw [hx] at hy; cases hy; exact hp
  · exact h j y (by omega) hy
theorem NotB.all {α : Type} {p : α → Prop} {l : List α} {k : Nat} (h : NotB p l k) (hk : l.length ≤ k) : ∀ x ∈ l, ¬ p x := fun x hx => by
  obtain ⟨j, hj⟩ := List.mem_iff_getElem?.1 hx
  exact h j x (by have := (List.getElem?_eq_some_iff.1 hj).1; omega) hj
theorem ptrV_at {cs : List VP} {j : Nat} {q : VP} (h : cs[j]? = some q) : VLe (ptrV (cs.drop (j * 1))) (ptrV [q]) := fun S w v ⟨b, off, hv, hb, hc⟩ => ⟨b, off, hv, hb, fun t p ht => by
  cases t with
  | zero => simp at ht; subst ht; exact hc 0 q (by rw [Nat.mul_one, List.getElem?_drop]; simpa using h)
  | succ t => simp at ht⟩

end Go.Hl
