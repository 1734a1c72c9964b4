/-
  Numbers in texts: what is told of five numbers is read as these.
-/
import Derived.Lib.AtoiAllCases
import Derived.Lib.ItoaNum
import Derived.Lib.SplitLaws
import Derived.Lib.Join
namespace Go.Hl
open Go.Lib

/-- the number that is taken from a text, whatever the text -/
def atoiV (l : List UInt8) : Int := match atoiAll l with | .ok v => v | .range => atoiSat l | _ => 0
/-- the numbers' text -/
def textL (xs : List Int) : List UInt8 := Lib.join (xs.map itoa) [32]
/-- the parts of a text: at most five -/
def partsL (s : List UInt8) : List (List UInt8) := splitN s [32] 5
/-- a text's five numbers -/
def numsL (s : List UInt8) : List Int := (partsL s).map atoiV ++ List.replicate (5 - (partsL s).length) 0

theorem parse_append (l r : List UInt8) : ∀ (acc : Nat), parseUint10 acc (l ++ r) = match parseUint10 acc l with | .ok a => parseUint10 a r | e => e := by
  induction l with
  | nil => intro acc; simp [parseUint10]
  | cons c t ih =>
    intro acc
    simp only [List.cons_append, parseUint10]
    split
    · split
      · rfl
      · split
        · rfl
        · exact ih _
    · rfl

theorem dig_toNat {d : Nat} (h : d < 10) : (UInt8.ofNat (48 + d)).toNat = 48 + d := by
  rw [UInt8.toNat_ofNat']; omega

theorem parse_dec (u : Nat) (h : u < 18446744073709551616) : parseUint10 0 (decDigits u) = .ok u := by
  induction u using Nat.strongRecOn with
  | _ u ih =>
    by_cases h10 : u < 10
    · rw [decDigits, dif_pos h10]
      simp only [parseUint10, dig_toNat h10]
      rw [if_pos (by omega), if_neg (by omega), if_neg (by omega)]
      simp
    · rw [decDigits, dif_neg h10, parse_append, ih (u / 10) (by omega) (by omega)]
      simp only [parseUint10, dig_toNat (Nat.mod_lt u (by decide : 0 < 10))]
      rw [if_pos (by omega), if_neg (by omega), if_neg (by omega)]
      congr 1; omega

theorem dec_digits (u : Nat) : ∀ b ∈ decDigits u, 48 ≤ b.toNat ∧ b.toNat ≤ 57 := by
  induction u using Nat.strongRecOn with
  | _ u ih =>
    intro b hb
    by_cases h10 : u < 10
    · rw [decDigits, dif_pos h10] at hb
      simp only [List.mem_cons, List.not_mem_nil, or_false] at hb
      subst hb; rw [dig_toNat h10]; omega
    · rw [decDigits, dif_neg h10] at hb
      rcases List.mem_append.1 hb with hb | hb
      · exact ih (u / 10) (by omega) b hb
      · simp only [List.mem_cons, List.not_mem_nil, or_false] at hb
        subst hb; rw [dig_toNat (Nat.mod_lt u (by decide : 0 < 10))]; omega

theorem dec_ne (u : Nat) : decDigits u ≠ [] := by
  rw [decDigits]; split <;> simp

theorem itoa_mem (v : Int) : ∀ b ∈ itoa v, b ≠ 32 := by
  intro b hb e
  subst e
  unfold itoa at hb
  split at hb
  · rcases List.mem_cons.1 hb with h | h
    · cases h
    · have := dec_digits _ _ h; simp at this
  · have := dec_digits _ _ hb; simp at this

/-- a number's text is read as it -/
theorem atoiV_itoa {v : Int} (h0 : -9223372036854775808 ≤ v) (h1 : v ≤ 9223372036854775807) : atoiV (itoa v) = v := by
  unfold atoiV itoa
  by_cases hn : v < 0
  · rw [if_pos hn, atoiAll_minus, parseMag, if_neg (dec_ne _), parse_dec _ (by omega)]
    simp only [signed]
    rw [if_neg (by omega)]
    simp only; omega
  · rw [if_neg hn]
    cases hd : decDigits v.toNat with
    | nil => exact absurd hd (dec_ne _)
    | cons c r =>
      have hc := dec_digits v.toNat c (by rw [hd]; simp)
      rw [atoiAll_plain c r (by omega) (by omega), parseMag, if_neg (by simp), ← hd, parse_dec _ (by omega)]
      simp only [signless]
      rw [if_neg (by omega)]
      simp only; omega

theorem occ1 (c : UInt8) (s : List UInt8) (j : Nat) : occAt s [c] j = decide (s[j]? = some c) := by
  unfold occAt
  rw [Bool.eq_iff_iff]
  cases h : s.drop j with
  | nil =>
    have : s[j]? = none := by rw [List.getElem?_eq_none_iff]; exact List.drop_eq_nil_iff.1 h
    simp [this]
  | cons a t =>
    have e : s[j]? = some a := by
      have e1 : (s.drop j)[0]? = some a := by rw [h]; rfl
      rw [List.getElem?_drop] at e1; exact e1
    simp only [e, List.isPrefixOf, Bool.and_true, beq_iff_eq, decide_eq_true_eq, Option.some.injEq]
    exact eq_comm

theorem index_hit1 (c : UInt8) (a r : List UInt8) (h : ∀ b ∈ a, b ≠ c) : index (a ++ c :: r) [c] = a.length := by
  refine index_first (by simp) (by rw [occ1]; simp) fun j hj => ?_
  rw [occ1]
  simp only [decide_eq_false_iff_not]
  rw [List.getElem?_append_left hj]
  intro e
  exact h c (List.mem_of_getElem? e) rfl
theorem index_miss1 (c : UInt8) (a : List UInt8) (h : ∀ b ∈ a, b ≠ c) : index a [c] = -1 := by
  refine index_none fun j _ => ?_
  rw [occ1]
  simp only [decide_eq_false_iff_not]
  intro e
  exact h c (List.mem_of_getElem? e) rfl

theorem splitK_join (c : UInt8) : ∀ (xs : List (List UInt8)) (x : List UInt8) (k : Nat), (∀ y ∈ x :: xs, ∀ b ∈ y, b ≠ c) → xs.length ≤ k → splitK [c] 0 k (Lib.join (x :: xs) [c]) = x :: xs
  | [], x, k, h, _ => by
    rw [join_one]
    cases k with
    | zero => rfl
    | succ k => unfold splitK; rw [index_miss1 c x (h x (by simp))]; rfl
  | y :: ys, x, k + 1, h, hk => by
    have e : Lib.join (x :: y :: ys) [c] = x ++ c :: Lib.join (y :: ys) [c] := by
      rw [join_cons, join_cons]; simp [joinTail]
    rw [e]
    unfold splitK
    rw [index_hit1 c x _ (h x (by simp))]
    have hm : ¬ (((x.length : Nat) : Int) == -1) = true := by
      intro e; have := eq_of_beq e; omega
    rw [if_neg hm]
    have e1 : (((x.length : Nat) : Int).toNat + 0) = x.length := by omega
    have e2 : (((x.length : Nat) : Int).toNat + [c].length) = x.length + 1 := by simp
    rw [e1, e2]
    have e3 : (x ++ c :: Lib.join (y :: ys) [c]).drop (x.length + 1) = Lib.join (y :: ys) [c] := by
      rw [List.drop_append, List.drop_eq_nil_of_le (by omega)]
      simp
    rw [e3, splitK_join c ys y k (fun z hz => h z (by simp at hz ⊢; right; exact hz)) (by simpa using hk)]
    simp
  | y :: ys, x, 0, _, hk => by simp at hk

theorem joinTail_len (r : List (List UInt8)) : r.length ≤ (joinTail [32] r).length := by
  rw [joinTail_length]; simp

/-- what is told of five numbers is read as these -/
theorem nums_text (a b c d e : Int) (h : ∀ v ∈ [a, b, c, d, e], -9223372036854775808 ≤ v ∧ v ≤ 9223372036854775807) : numsL (textL [a, b, c, d, e]) = [a, b, c, d, e] := by
  have hp : partsL (textL [a, b, c, d, e]) = [a, b, c, d, e].map itoa := by
    unfold partsL textL splitN
    simp only [List.map_cons, List.map_nil]
    refine splitK_join 32 _ _ _ ?_ ?_
    · intro y hy
      simp only [List.mem_cons, List.not_mem_nil, or_false] at hy
      rcases hy with rfl | rfl | rfl | rfl | rfl <;> exact itoa_mem _
    · rw [join_cons]
      have := joinTail_len [itoa b, itoa c, itoa d, itoa e]
      simp only [List.length_append, List.length_cons, List.length_nil] at this ⊢
      omega
  unfold numsL
  rw [hp]
  simp only [List.mem_cons, List.not_mem_nil, or_false, forall_eq_or_imp, forall_eq] at h
  obtain ⟨⟨ha, ha'⟩, ⟨hb, hb'⟩, ⟨hc, hc'⟩, ⟨hd, hd'⟩, he, he'⟩ := h
  simp [atoiV_itoa, *]

theorem nums_len (s : List UInt8) : (numsL s).length = 5 := by
  have h : (partsL s).length ≤ 5 := by
    unfold partsL splitN
    have : ∀ (k : Nat) (s : List UInt8), (splitK [32] 0 k s).length ≤ k + 1 := by
      intro k
      induction k with
      | zero => intro s; simp [splitK]
      | succ k ih =>
        intro s
        unfold splitK
        split
        · simp
        · simp; exact ih _
    have := this (min 5 (s.length + 1) - 1) s
    omega
  simp [numsL]; omega

theorem atoiV_range (l : List UInt8) : -9223372036854775808 ≤ atoiV l ∧ atoiV l ≤ 9223372036854775807 := by
  unfold atoiV
  cases h : atoiAll l with
  | ok v => exact atoiAll_bounds h
  | range => simp only [atoiSat]; split <;> simp
  | _ => simp

theorem nums_range (s : List UInt8) : ∀ v ∈ numsL s, -9223372036854775808 ≤ v ∧ v ≤ 9223372036854775807 := by
  intro v hv
  rcases List.mem_append.1 hv with hv | hv
  · obtain ⟨l, _, rfl⟩ := List.mem_map.1 hv; exact atoiV_range l
  · have := (List.mem_replicate.1 hv).2; subst this; simp

/-- the example -/
theorem nums_12345 : numsL [49, 32, 50, 32, 51, 32, 52, 32, 53] = [1, 2, 3, 4, 5] := by
  have : textL [1, 2, 3, 4, 5] = [49, 32, 50, 32, 51, 32, 52, 32, 53] := by
    have e : ∀ i : Nat, i < 10 → itoa (i : Int) = [UInt8.ofNat (48 + i)] := fun i h => by
      unfold itoa; rw [if_neg (by omega)]; exact decDigits_one h
    unfold textL
    simp only [List.map_cons, List.map_nil]
    rw [show itoa 1 = _ from e 1 (by decide), show itoa 2 = _ from e 2 (by decide), show itoa 3 = _ from e 3 (by decide), show itoa 4 = _ from e 4 (by decide), show itoa 5 = _ from e 5 (by decide)]
    rfl
  rw [← this]
  exact nums_text 1 2 3 4 5 (by simp)
theorem text_12345 : textL [1, 2, 3, 4, 5] = [49, 32, 50, 32, 51, 32, 52, 32, 53] := by
  have e : ∀ i : Nat, i < 10 → itoa (i : Int) = [UInt8.ofNat (48 + i)] := fun i h => by
    unfold itoa; rw [if_neg (by omega)]; exact decDigits_one h
  unfold textL
  simp only [List.map_cons, List.map_nil]
  rw [show itoa 1 = _ from e 1 (by decide), show itoa 2 = _ from e 2 (by decide), show itoa 3 = _ from e 3 (by decide), show itoa 4 = _ from e 4 (by decide), show itoa 5 = _ from e 5 (by decide)]
  rfl
end Go.Hl
