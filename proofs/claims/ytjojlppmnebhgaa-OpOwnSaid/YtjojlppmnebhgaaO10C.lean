/-
  Ops by names; the laws of the table, in plain words. No project text.
-/
import Derived.Test.YtjojlppmnebhgaaO10B
namespace Go.Hl
set_option linter.unusedVariables false
set_option maxRecDepth 100000

def encSL (x : List (List UInt8)) : List VP := [sliceV 1 encStrD x]
instance : Enc 1 encSL := ⟨fun _ => rfl, fun x q h => by simp only [encSL, List.mem_cons, List.not_mem_nil, or_false] at h; rw [h]; infer_instance⟩
def namedO (l : List UInt8) : Option InfoD := allT.find? fun x => decide (x.Name = l)
theorem idxF_find {α : Type} {p : α → Prop} [DecidablePred p] : ∀ {l : List α}, 0 ≤ idxF p l → ∃ y, l[(idxF p l).toNat]? = some y ∧ l.find? (fun x => decide (p x)) = some y
  | [], h => by simp [idxF] at h
  | x :: l, h => by
    unfold idxF at h ⊢
    by_cases hp : p x
    · rw [if_pos hp]; exact ⟨x, rfl, by simp [hp]⟩
    · rw [if_neg hp] at h ⊢
      by_cases h2 : idxF p l < 0
      · rw [if_pos h2] at h; omega
      · rw [if_neg h2]
        obtain ⟨y, h3, h4⟩ := idxF_find (p := p) (l := l) (by omega)
        refine ⟨y, ?_, by rw [List.find?_cons_of_neg (by simpa using hp)]; exact h4⟩
        rw [show (idxF p l + 1).toNat = (idxF p l).toNat + 1 by omega]
        simpa using h3
theorem idxF_find_none {α : Type} {p : α → Prop} [DecidablePred p] {l : List α} (h : idxF p l < 0) : l.find? (fun x => decide (p x)) = none :=
  List.find?_eq_none.2 fun x hx => by
    have : ¬ ∃ x ∈ l, p x := fun h' => by have := idxF_nonneg.2 h'; omega
    simpa using fun hp => this ⟨x, hx, hp⟩
theorem named_some {l : List UInt8} (h : ¬ idxF (fun x : InfoD => x.Name = l) allT < 0) : ∃ y, allT[(idxF (fun x : InfoD => x.Name = l) allT).toNat]? = some y ∧ namedO l = some y := idxF_find (by omega)
theorem named_none {l : List UInt8} (h : idxF (fun x : InfoD => x.Name = l) allT < 0) : namedO l = none := idxF_find_none h

theorem awake10 : ((((findI 106).isSome = true ∧ ((findI 106).getD zeroI).Name = [105, 51, 50, 46, 97, 100, 100]) ∧ (((findI 106).getD zeroI).Takes.length : Int) = 2) ∧ (100 : Int) < (allT.length : Int)) := ⟨by decide +kernel, by have := all_len.1; omega⟩
theorem all_named : ∀ x ∈ allT, namedO x.Name = some x := by decide +kernel
theorem mem_codes {c : Int} (h : findI c ≠ none) : c ∈ codesT := by
  have : ¬ (c < 0 ∨ 196 < c ∧ c < 64522 ∨ 64523 < c) := fun h' => h (find_out h')
  unfold codesT
  rw [List.mem_append]
  by_cases h1 : c ≤ 196
  · exact .inl (List.mem_map.2 ⟨c.toNat, List.mem_range.2 (by omega), by omega⟩)
  · refine .inr ?_
    simp; omega
theorem find_mem {c : Int} {x : InfoD} (h : findI c = some x) : x ∈ allT := List.mem_filterMap.2 ⟨c, mem_codes (by rw [h]; simp), h⟩
theorem named_find {c : Int} {x : InfoD} (h : findI c = some x) : namedO x.Name = some x := all_named x (find_mem h)
theorem find_code {c : Int} {x : InfoD} (h : findI c = some x) : x.Code = c := (find_some_of h).1
theorem apart {a b : Int} {x y : InfoD} (hx : findI a = some x) (hy : findI b = some y) : x.Name = y.Name ↔ a = b := by
  constructor
  · intro h
    have h1 := named_find hx
    rw [h, named_find hy] at h1
    cases h1
    rw [← find_code hx, ← find_code hy]
  · intro h; subst h; rw [hx] at hy; cases hy; rfl
theorem mem_find {x : InfoD} (h : x ∈ allT) : findI x.Code = some x := by
  obtain ⟨c, _, hc⟩ := List.mem_filterMap.1 h
  rw [find_code hc]; exact hc
theorem named_mem {l : List UInt8} {x : InfoD} (h : namedO l = some x) : x ∈ allT ∧ x.Name = l := ⟨List.mem_of_find?_eq_some h, by simpa using List.find?_some h⟩

/-! ### numeric ops -/
def NumFact (c : Int) : Prop := match numO c with
    | none => ¬ (69 ≤ c ∧ c ≤ 90 ∨ 103 ≤ c ∧ c ≤ 138)
    | some p => nameR c = kindS p.2.2 ++ (wordsT.getD p.1.toNat []).getD p.2.1.toNat []
instance (c : Int) : Decidable (NumFact c) := by unfold NumFact; cases numO c <;> infer_instance
theorem num_in_fin : ∀ c : Fin 256, NumFact (c.val : Int) := by decide +kernel
theorem spans_hi : ∀ s ∈ spansT, 0 ≤ s.first ∧ s.first + s.many ≤ 200 := by decide
theorem num_range {c : Int} {p : Int × Int × Int} (h : numO c = some p) : 0 ≤ c ∧ c < 256 := by
  unfold numO at h
  cases hs : spansT.find? (inSpan c) with
  | none => rw [hs] at h; cases h
  | some s =>
    have h1 := spans_hi s (List.mem_of_find?_eq_some hs)
    have h2 := List.find?_some hs
    simp only [inSpan, decide_eq_true_eq] at h2
    omega
theorem num_fin (c : Int) (h : 0 ≤ c ∧ c < 256) : NumFact c := by
  have := num_in_fin ⟨c.toNat, by omega⟩
  rwa [show ((⟨c.toNat, by omega⟩ : Fin 256).val : Int) = c by simp; omega] at this
theorem num_name {c : Int} {p : Int × Int × Int} (h : numO c = some p) : nameR c = kindS p.2.2 ++ (wordsT.getD p.1.toNat []).getD p.2.1.toNat [] := by
  have := num_fin c (num_range h); unfold NumFact at this; rw [h] at this; exact this
theorem num_no {c : Int} (h : numO c = none) : ¬ (69 ≤ c ∧ c ≤ 90 ∨ 103 ≤ c ∧ c ≤ 138) := fun h' => by
  have := num_fin c (by omega); unfold NumFact at this; rw [h] at this; exact this h'
theorem wordsT_at {g : Nat} (h : g < 3) : wordsT[g]? = some (wordsT.getD g []) := by
  rw [List.getD_eq_getElem?_getD, List.getElem?_eq_getElem (show g < wordsT.length from h)]; rfl
theorem words_at {l : List (List UInt8)} {n : Nat} (h : n < l.length) : l[n]? = some (l.getD n []) := by
  rw [List.getD_eq_getElem?_getD, List.getElem?_eq_getElem h]; rfl
theorem words_len {g n b : Int} (h : 0 ≤ n ∧ (g = 0 ∧ n < 15 ∨ g = 1 ∧ n < 10 ∨ g = 2 ∧ n < 4) ∧ (b = 32 ∨ b = 64)) : n.toNat < (wordsT.getD g.toNat []).length := by
  have e0 : (wordsT.getD 0 []).length = 15 := rfl
  have e1 : (wordsT.getD 1 []).length = 10 := rfl
  have e2 : (wordsT.getD 2 []).length = 4 := rfl
  rcases h.2.1 with ⟨rfl, h⟩ | ⟨rfl, h⟩ | ⟨rfl, h⟩
  · show n.toNat < (wordsT.getD 0 []).length; omega
  · show n.toNat < (wordsT.getD 1 []).length; omega
  · show n.toNat < (wordsT.getD 2 []).length; omega
theorem words_short {g n : Nat} : ((wordsT.getD g []).getD n []).length ≤ 10 := by
  have : ∀ l ∈ wordsT, ∀ s ∈ l, s.length ≤ 10 := by decide
  have e : wordsT.getD g [] = (wordsT[g]?).getD [] := List.getD_eq_getElem?_getD
  rw [e]
  cases hl : wordsT[g]? with
  | none => simp
  | some l => exact getD_len (this l (List.mem_of_getElem? hl)) n

/-! ### what is found by a name -/
def stepN (name : List UInt8) (acc : Int × Int) (c : Int) : Int × Int := if nameR c = [] then acc else (if nameR c = name then c else acc.1, acc.2 + 1)
def foundN (name : List UInt8) (k : Nat) : Int × Int := (codesT.take k).foldl (stepN name) (-1, 0)
theorem foundN_snoc {name : List UInt8} {k : Nat} {c : Int} (h : codesT[k]? = some c) : foundN name (k + 1) = stepN name (foundN name k) c := by
  unfold foundN; rw [← take_snoc h, List.foldl_append]; rfl
theorem codes_at {k : Nat} (h : k < 199) : codesT[k]? = some (if 196 < (k : Int) then 64522 + (k : Int) - 197 else (k : Int)) := by
  have : ∀ k : Fin 199, codesT[k.val]? = some (if 196 < (k.val : Int) then 64522 + (k.val : Int) - 197 else (k.val : Int)) := by decide +kernel
  exact this ⟨k, h⟩
theorem fold_count (name : List UInt8) : ∀ (l : List Int) (a : Int × Int), (l.foldl (stepN name) a).2 = a.2 + ((l.filterMap findI).length : Int)
  | [], a => by simp
  | c :: l, a => by
    rw [List.foldl_cons, fold_count name l]
    unfold stepN
    cases h : findI c with
    | none => rw [if_pos (find_none_of h), List.filterMap_cons_none h]
    | some x => rw [if_neg (find_some_of h).2.2.1, List.filterMap_cons_some h]; simp; omega
theorem fold_found (name : List UInt8) : ∀ (l : List Int) (a : Int × Int), ((l.foldl (stepN name) a).1 = a.1 ∧ ∀ c ∈ l, nameR c = [] ∨ nameR c ≠ name) ∨ ((l.foldl (stepN name) a).1 ∈ l ∧ nameR (l.foldl (stepN name) a).1 ≠ [] ∧ nameR (l.foldl (stepN name) a).1 = name)
  | [], a => .inl ⟨rfl, by simp⟩
  | c :: l, a => by
    rw [List.foldl_cons]
    rcases fold_found name l (stepN name a c) with ⟨h1, h2⟩ | ⟨h1, h2⟩
    · by_cases h0 : nameR c = []
      · refine .inl ⟨h1.trans (by unfold stepN; rw [if_pos h0]), fun d hd => ?_⟩
        rcases List.mem_cons.1 hd with rfl | hd
        · exact .inl h0
        · exact h2 d hd
      · by_cases hn : nameR c = name
        · refine .inr ?_
          rw [h1]; unfold stepN; rw [if_neg h0]; simp only [if_pos hn]
          exact ⟨List.mem_cons_self .., h0, hn⟩
        · refine .inl ⟨h1.trans (by unfold stepN; rw [if_neg h0]; simp only [if_neg hn]), fun d hd => ?_⟩
          rcases List.mem_cons.1 hd with rfl | hd
          · exact .inr hn
          · exact h2 d hd
    · exact .inr ⟨List.mem_cons_of_mem _ h1, h2⟩
theorem codes_pos : ∀ c ∈ codesT, 0 ≤ c := by decide +kernel
theorem codes_len : codesT.length = 199 := by decide +kernel
theorem found_end (name : List UInt8) : (foundN name 199).2 = (allT.length : Int) ∧ (match namedO name with | some x => (foundN name 199).1 = x.Code ∧ 0 ≤ x.Code | none => (foundN name 199).1 = -1) := by
  have ht : codesT.take 199 = codesT := List.take_of_length_le (by rw [codes_len]; omega)
  unfold foundN
  rw [ht]
  refine ⟨by rw [fold_count]; simp [allT], ?_⟩
  rcases fold_found name codesT (-1, 0) with ⟨h1, h2⟩ | ⟨h1, h2, h3⟩
  · cases hn : namedO name with
    | none => exact h1
    | some x =>
      obtain ⟨hx, hxn⟩ := named_mem hn
      have hf := mem_find hx
      have hs := find_some_of hf
      rcases h2 x.Code (mem_codes (by rw [hf]; simp)) with h | h
      · exact absurd h hs.2.2.1
      · exact absurd (hs.2.1.symm.trans hxn) h
  · obtain ⟨x, hx⟩ := Option.isSome_iff_exists.1 (find_iff.2 h2)
    have hs := find_some_of hx
    have hn := named_find hx
    rw [hs.2.1, h3] at hn
    rw [hn]
    exact ⟨hs.1.symm, by rw [hs.1]; exact codes_pos _ h1⟩
theorem all_name {j : Nat} {x : InfoD} (h : allT[j]? = some x) : x.Name = nameR x.Code := (find_some_of (mem_find (List.mem_of_getElem? h))).2.1
theorem all_lt {j : Nat} {x y : InfoD} (hx : allT[j]? = some x) (hy : allT[j + 1]? = some y) : x.Code < y.Code := by
  obtain ⟨h1, rfl⟩ := List.getElem?_eq_some_iff.1 hx
  obtain ⟨h2, rfl⟩ := List.getElem?_eq_some_iff.1 hy
  exact List.pairwise_iff_getElem.1 all_sorted j (j + 1) h1 h2 (by omega)
theorem u64_nonneg (n : Int) : 0 ≤ IntKind.u64.wrap n := by simp [IntKind.wrap, IntKind.signed, IntKind.bits]; omega
end Go.Hl
namespace Go.Hl
theorem fold_bounds (l : List UInt8) : ∀ k : Nat, 0 ≤ (foundN l k).2 ∧ (foundN l k).2 ≤ (k : Int)
  | 0 => by simp [foundN]
  | k + 1 => by
    have ih := fold_bounds l k
    cases h : codesT[k]? with
    | none =>
      have hk : codesT.length ≤ k := by simpa using h
      have e : foundN l (k + 1) = foundN l k := by
        unfold foundN
        rw [List.take_of_length_le hk, List.take_of_length_le (by omega)]
      rw [e]; omega
    | some c =>
      rw [foundN_snoc h]
      unfold stepN
      split
      · omega
      · simp only []; omega
theorem u64_len_eq (h : 100 < allT.length ∧ allT.length ≤ 200) : IntKind.u64.wrap (max (allT.length : Int) 1) = (allT.length : Int) := by
  have : max (allT.length : Int) 1 = (allT.length : Int) := by omega
  rw [this]; exact wrap_fits (fits_u64 (by omega) (by omega))
theorem u64_len (h : 100 < allT.length ∧ allT.length ≤ 200) : 0 < IntKind.u64.wrap (max (allT.length : Int) 1) := by rw [u64_len_eq h]; omega
end Go.Hl
