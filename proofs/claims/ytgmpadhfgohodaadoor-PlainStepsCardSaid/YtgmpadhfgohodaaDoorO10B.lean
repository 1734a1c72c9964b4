/-
  What is told of any code is the document's. No project text.
-/
import Derived.Test.YtgmpadhfgohodaaDoorO10A
namespace Go.Hl
set_option linter.unusedVariables false
set_option maxRecDepth 100000

def FactI (c : Int) : Prop := (widthO c = if 0 < widthR c then some (widthR c) else none) ∧ (ForeignP c ↔ foreignR c) ∧
  match findI c with
  | none => nameR c = []
  | some x => x.Code = c ∧ x.Name = nameR c ∧ nameR c ≠ [] ∧ x.Form = formR c ∧ x.Takes = (takesR c).1 ∧ x.Gives = (takesR c).2 ∧ ¬ ForeignP c
instance (c : Int) : Decidable (FactI c) := by unfold FactI; cases findI c <;> infer_instance
theorem fact_in : ∀ c : Fin 256, FactI (c.val : Int) := by decide +kernel
theorem fact_hi : ∀ c : Fin 18, FactI ((c.val : Int) + 64512) := by decide +kernel
theorem find_out {c : Int} (h : c < 0 ∨ 196 < c ∧ c < 64522 ∨ 64523 < c) : findI c = none := by
  have h1 : ∀ r ∈ rowsT, 0 ≤ r.code ∧ r.code ≤ 196 := by decide
  have h2 : ∀ r ∈ lateT, 0 ≤ r.code ∧ r.code ≤ 196 ∨ 64522 ≤ r.code ∧ r.code ≤ 64523 := by decide
  have h3 : ∀ s ∈ spansT, 0 ≤ s.first ∧ s.first + s.many ≤ 197 := by decide
  unfold findI rowO numberedO numO
  rw [List.find?_eq_none.2 (fun r hr => by have := h1 r hr; simp [hasCode]; omega)]
  simp only
  rw [List.find?_eq_none.2 (fun r hr => by have := h2 r hr; simp [hasCode]; omega)]
  simp only
  rw [List.find?_eq_none.2 (fun s hs => by have := h3 s hs; simp [inSpan]; omega)]
  rfl
theorem fact_out {c : Int} (h : c < 0 ∨ 255 < c ∧ c < 64512 ∨ 64529 < c) : FactI c := by
  have hf : findI c = none := find_out (by omega)
  have h4 : ∀ r ∈ foreignT, 0 ≤ r.1 ∧ r.2 ≤ 255 ∨ 64512 ≤ r.1 ∧ r.2 ≤ 64529 := by decide
  have hno : ¬ ForeignP c := fun ⟨r, hr, hc⟩ => by have := h4 r hr; omega
  have hnr : ¬ foreignR c := by unfold foreignR; omega
  have hw : widthR c = 0 := by unfold widthR; repeat rw [if_neg (by omega)]
  refine ⟨?_, ⟨fun h => (hno h).elim, fun h => (hnr h).elim⟩, ?_⟩
  · rw [width_none1 hf, hw]; rfl
  · rw [hf]
    show nameR c = []
    unfold nameR
    rw [if_neg (by omega), if_neg (by omega)]
    by_cases h0 : c < 0 ∨ 196 < c
    · rw [if_pos h0]
    · omega
theorem fact_all (c : Int) : FactI c := by
  by_cases h1 : 0 ≤ c ∧ c < 256
  · have := fact_in ⟨c.toNat, by omega⟩
    rwa [show ((⟨c.toNat, by omega⟩ : Fin 256).val : Int) = c by simp; omega] at this
  by_cases h2 : 64512 ≤ c ∧ c < 64530
  · have := fact_hi ⟨(c - 64512).toNat, by omega⟩
    rwa [show ((⟨(c - 64512).toNat, by omega⟩ : Fin 18).val : Int) + 64512 = c by simp; omega] at this
  · exact fact_out (by omega)
theorem find_none_of {c : Int} (h : findI c = none) : nameR c = [] := by have := (fact_all c).2.2; rw [h] at this; exact this
theorem find_some_of {c : Int} {x : InfoD} (h : findI c = some x) : x.Code = c ∧ x.Name = nameR c ∧ nameR c ≠ [] ∧ x.Form = formR c ∧ x.Takes = (takesR c).1 ∧ x.Gives = (takesR c).2 ∧ ¬ ForeignP c := by
  have := (fact_all c).2.2; rw [h] at this; exact this
theorem find_iff {c : Int} : (findI c).isSome ↔ nameR c ≠ [] := by
  cases h : findI c with
  | none => simp [find_none_of h]
  | some x => simp [(find_some_of h).2.2.1]
theorem width_iff (c : Int) : (widthO c).getD 0 = widthR c ∧ ((widthO c).isSome ↔ 0 < widthR c) := by
  rw [(fact_all c).1]
  have h0 : 0 ≤ widthR c := by unfold widthR; repeat (first | split | omega)
  split
  · rename_i h; simp [h]
  · rename_i h; simp; omega
theorem foreign_iff (c : Int) : ForeignP c ↔ foreignR c := (fact_all c).2.1
theorem ite_pred {α : Type} {P : α → Prop} {c : Prop} [Decidable c] {a b : α} (ha : P a) (hb : P b) : P (if c then a else b) := by split <;> assumption
theorem takes_len (c : Int) : (takesR c).1.length ≤ 3 ∧ (takesR c).2.length ≤ 3 := by
  suffices h : (fun p : List UInt8 × List UInt8 => p.1.length ≤ 3 ∧ p.2.length ≤ 3) (takesR c) from h
  unfold takesR
  iterate 14 refine ite_pred (P := fun p : List UInt8 × List UInt8 => p.1.length ≤ 3 ∧ p.2.length ≤ 3) ⟨by simp, by simp⟩ ?_
  exact ⟨by simp, by simp⟩

/-! ### all of them, by codes -/
def codesT : List Int := ((List.range 197).map fun (n : Nat) => (n : Int)) ++ [64522, 64523]
def allT : List InfoD := codesT.filterMap findI
def spanRows (s : SpanD) : List RowD := (List.range s.many.toNat).filterMap fun (i : Nat) => numberedO (s.first + (i : Int))
def madeT : List InfoD := (rowsT.map infoOf ++ lateT.map infoOf) ++ (spansT.flatMap spanRows).map infoOf
theorem made_perm : madeT.Perm allT := by
  have : madeT.isPerm allT = true := by decide +kernel
  exact List.isPerm_iff.1 this
theorem all_len : 100 < allT.length ∧ allT.length ≤ 200 := by decide +kernel
theorem all_sorted : allT.Pairwise fun a b => a.Code < b.Code := by decide +kernel

def spanPre (s : SpanD) (i : Nat) : List InfoD := ((List.range i).filterMap fun (i : Nat) => numberedO (s.first + (i : Int))).map infoOf
theorem spanPre_all (s : SpanD) : spanPre s s.many.toNat = (spanRows s).map infoOf := rfl
theorem num_in : ∀ s ∈ spansT, ∀ i ∈ List.range s.many.toNat, (numberedO (s.first + ((i : Nat) : Int))).isSome = true := by decide +kernel
theorem num_some {s : SpanD} {i : Nat} (hs : s ∈ spansT) (hi : i < s.many.toNat) : ∃ r, numberedO (s.first + (i : Int)) = some r ∧ RowOk r := by
  obtain ⟨r, hr⟩ := Option.isSome_iff_exists.1 (num_in s hs i (List.mem_range.2 hi))
  refine ⟨r, hr, ?_⟩
  unfold numberedO at hr
  cases hn : numO (s.first + (i : Int)) with
  | none => rw [hn] at hr; cases hr
  | some p => rw [hn] at hr; cases hr; exact numRow_ok _ _ _ _
theorem spanPre_snoc {s : SpanD} {i : Nat} {r : RowD} (h : numberedO (s.first + (i : Int)) = some r) : spanPre s (i + 1) = spanPre s i ++ [infoOf r] := by
  unfold spanPre
  rw [List.range_succ, List.filterMap_append, List.map_append]
  congr 1
  simp [h]
theorem snoc_map {α β : Type} {f : α → β} {l : List α} {k : Nat} {x : α} (h : l[k]? = some x) : (l.take (k + 1)).map f = (l.take k).map f ++ [f x] := by rw [← take_snoc h]; simp
theorem made_codes : ∀ x ∈ madeT, 0 ≤ x.Code ∧ x.Code ≤ 100000 := by decide +kernel
theorem made_ne : madeT ≠ [] := fun h => by have := made_perm.length_eq; have := all_len.1; rw [h] at *; simp at *; omega
theorem sorted_uniq : ∀ {l m : List InfoD}, l.Perm m → l.Pairwise (fun a b => a.Code ≤ b.Code) → m.Pairwise (fun a b => a.Code < b.Code) → l = m
  | [], m, hp, _, _ => (List.nil_perm.1 hp).symm
  | a :: l, [], hp, _, _ => absurd (List.perm_nil.1 hp) (by simp)
  | a :: l, b :: m, hp, h1, h2 => by
    rw [List.pairwise_cons] at h1 h2
    have hab : a = b := by
      have ha : a ∈ b :: m := hp.mem_iff.1 (List.mem_cons_self ..)
      have hb : b ∈ a :: l := hp.mem_iff.2 (List.mem_cons_self ..)
      rcases List.mem_cons.1 ha with h | h
      · exact h
      rcases List.mem_cons.1 hb with h' | h'
      · exact h'.symm
      have e1 := h1.1 b h'
      have e2 := h2.1 a h
      omega
    subst hab
    rw [sorted_uniq ((List.perm_cons a).1 hp) h1.2 h2.2]
theorem all_uniq {l ys : List InfoD} (hl : l = madeT) (hp : ys.Perm l) (hs : ys.Pairwise (fun a b => a.Code ≤ b.Code)) : ys = allT :=
  sorted_uniq (hp.trans (hl ▸ made_perm)) hs all_sorted
end Go.Hl
