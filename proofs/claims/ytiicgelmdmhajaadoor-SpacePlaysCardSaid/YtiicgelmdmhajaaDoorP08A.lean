/-
  Memories: parts of pages, bytes at places, what is read and written. No project text.
-/
import Derived.Test.YtiicgelmdmhajaaDoorP07C
namespace Go.Hl
set_option linter.unusedVariables false

/-! ### parts -/
def stepK (z at_ n d : Nat) : Nat := min (n - d) (z - (at_ + d) % z)
def dnK (z at_ n : Nat) : Nat → Nat
  | 0 => 0
  | j + 1 => dnK z at_ n j + stepK z at_ n (dnK z at_ n j)
theorem stepK_pos {z at_ n d : Nat} (hz : 0 < z) (h : d < n) : 0 < stepK z at_ n d := by
  have := Nat.mod_lt (at_ + d) hz
  unfold stepK; omega
theorem stepK_fit {z at_ n d : Nat} (hz : 0 < z) : (at_ + d) % z + stepK z at_ n d ≤ z := by
  have := Nat.mod_lt (at_ + d) hz
  unfold stepK; omega
theorem dnK_le (z at_ n : Nat) : ∀ j, dnK z at_ n j ≤ n
  | 0 => Nat.zero_le _
  | j + 1 => by
    have := dnK_le z at_ n j
    unfold dnK stepK; omega
theorem dnK_grow {z at_ n : Nat} (hz : 0 < z) : ∀ j, j ≤ dnK z at_ n j ∨ dnK z at_ n j = n
  | 0 => .inl (Nat.zero_le _)
  | j + 1 => by
    have hl := dnK_le z at_ n j
    rcases dnK_grow hz (at_ := at_) (n := n) j with h | h
    · by_cases e : dnK z at_ n j = n
      · right; show dnK z at_ n j + stepK z at_ n (dnK z at_ n j) = n; unfold stepK; omega
      · have := stepK_pos (at_ := at_) hz (show dnK z at_ n j < n by omega)
        left; show j + 1 ≤ dnK z at_ n j + stepK z at_ n (dnK z at_ n j); omega
    · right; show dnK z at_ n j + stepK z at_ n (dnK z at_ n j) = n; unfold stepK; omega
/-- how many parts there are -/
theorem parts_end {z at_ n : Nat} (hz : 0 < z) : ∃ N, dnK z at_ n N = n ∧ ∀ j, j < N → dnK z at_ n j < n := by
  have hex : ∃ N, dnK z at_ n N = n := by
    refine ⟨n, ?_⟩
    have := dnK_le z at_ n n
    rcases dnK_grow hz (at_ := at_) (n := n) n with h | h
    · omega
    · exact h
  have key : ∀ M, dnK z at_ n M = n → ∃ N, dnK z at_ n N = n ∧ ∀ j, j < N → dnK z at_ n j < n := by
    intro M
    induction M with
    | zero => intro h; exact ⟨0, h, fun j hj => absurd hj (Nat.not_lt_zero _)⟩
    | succ M ih =>
      intro h
      by_cases e : ∃ j, j ≤ M ∧ dnK z at_ n j = n
      · obtain ⟨j, hj, hd⟩ := e
        have mono : ∀ t, dnK z at_ n (j + t) = n := by
          intro t
          induction t with
          | zero => exact hd
          | succ t iht => show dnK z at_ n (j + t) + stepK z at_ n (dnK z at_ n (j + t)) = n; rw [iht]; unfold stepK; omega
        have := mono (M - j)
        rw [show j + (M - j) = M by omega] at this
        exact ih this
      · exact ⟨M + 1, h, fun j hj => by
          have := dnK_le z at_ n j
          have : dnK z at_ n j ≠ n := fun hd => e ⟨j, by omega, hd⟩
          omega⟩
  exact key _ hex.choose_spec
theorem dnK_next {z at_ n : Nat} (hz : 0 < z) : ∀ j, dnK z at_ n j < n → 0 < j → (at_ + dnK z at_ n j) % z = 0 ∧ (j - 1) * z + 1 ≤ dnK z at_ n j
  | 0, _, h => absurd h (Nat.lt_irrefl _)
  | j + 1, h, _ => by
    have hl := dnK_le z at_ n j
    have hm := Nat.mod_lt (at_ + dnK z at_ n j) hz
    have hs : dnK z at_ n (j + 1) = dnK z at_ n j + stepK z at_ n (dnK z at_ n j) := rfl
    have hst : stepK z at_ n (dnK z at_ n j) = z - (at_ + dnK z at_ n j) % z := by unfold stepK at hs ⊢; omega
    have hdiv := Nat.div_add_mod (at_ + dnK z at_ n j) z
    refine ⟨?_, ?_⟩
    · rw [hs, hst, ← Nat.add_assoc]
      have : at_ + dnK z at_ n j + (z - (at_ + dnK z at_ n j) % z) = z * ((at_ + dnK z at_ n j) / z + 1) := by rw [Nat.mul_add, Nat.mul_one]; omega
      rw [this]; exact Nat.mul_mod_right _ _
    · rw [Nat.add_sub_cancel]
      rcases Nat.eq_zero_or_pos j with h0 | h0
      · subst h0; rw [hs, hst, Nat.zero_mul]; generalize (at_ + dnK z at_ n 0) % z = r at *; omega
      · obtain ⟨h1, h2⟩ := dnK_next (at_ := at_) (n := n) hz j (by omega) h0
        rw [hs, hst, h1]
        have h6 : j * z = (j - 1) * z + z := by rw [← Nat.succ_mul]; congr 1; omega
        rw [h6]; omega
theorem parts_few {z at_ n N : Nat} (hz : 0 < z) (h : ∀ j, j < N → dnK z at_ n j < n) : N ≤ n / z + 2 := by
  rcases Nat.lt_or_ge N 2 with h2 | h2
  · exact Nat.le_trans (show N ≤ 2 by omega) (Nat.le_add_left 2 _)
  · obtain ⟨_, h3⟩ := dnK_next hz (N - 1) (h (N - 1) (by omega)) (by omega)
    have h4 := h (N - 1) (by omega)
    have h5 : (N - 2) * z ≤ n := by rw [show N - 1 - 1 = N - 2 by omega] at h3; omega
    have h6 : N - 2 ≤ n / z := (Nat.le_div_iff_mul_le hz).2 h5
    omega

/-! ### bytes at places -/
def memB (z : Nat) (C : Cont) (num : Int) (a : Nat) : UInt8 := (C (num, ((a / z : Nat) : Int))).getD (a % z) 0
def memR (z : Nat) (C : Cont) (num : Int) (at_ n : Nat) : List UInt8 := (List.range n).map fun i => memB z C num (at_ + i)
theorem memR_len (z : Nat) (C : Cont) (num : Int) (at_ n : Nat) : (memR z C num at_ n).length = n := by simp [memR]
theorem memR_add (z : Nat) (C : Cont) (num : Int) (at_ d s : Nat) : memR z C num at_ (d + s) = memR z C num at_ d ++ memR z C num (at_ + d) s := by
  unfold memR
  rw [List.range_add, List.map_append, List.map_map]
  congr 1
  apply List.map_congr_left
  intro i _
  show memB z C num (at_ + (d + i)) = memB z C num (at_ + d + i)
  rw [Nat.add_assoc]
theorem same_page {z a s i : Nat} (hz : 0 < z) (h : a % z + s ≤ z) (hi : i < s) : (a + i) / z = a / z ∧ (a + i) % z = a % z + i := by
  have h1 := Nat.div_add_mod a z
  have h2 : a + i = z * (a / z) + (a % z + i) := by omega
  have h3 : (a % z + i) / z = 0 := Nat.div_eq_of_lt (by omega)
  constructor
  · rw [h2, Nat.mul_add_div hz, h3, Nat.add_zero]
  · rw [h2, Nat.mul_add_mod, Nat.mod_eq_of_lt (by omega)]
theorem wrongG_part {z : Nat} {num : Int} {a s : Nat} (hn : 0 ≤ num) (hz : 0 < z) (h : a % z + s ≤ z) : wrongG z (num, ((a / z : Nat) : Int)) ((a % z : Nat) : Int) (s : Int) = 0 := by
  unfold wrongG
  generalize a / z = q at *
  generalize a % z = r at *
  rw [if_neg (by show ¬ (num < 0 ∨ (q : Int) < 0); omega), if_neg (by omega)]
theorem read_part {z : Nat} {C : Cont} {num : Int} {a s : Nat} (hn : 0 ≤ num) (hz : 0 < z) (hC : ∀ k, (C k).length = z) (h : a % z + s ≤ z) : readG z C (num, ((a / z : Nat) : Int)) ((a % z : Nat) : Int) (s : Int) = memR z C num a s := by
  unfold readG
  rw [if_pos (wrongG_part hn hz h)]
  have hl := hC (num, ((a / z : Nat) : Int))
  apply List.ext_getElem?
  intro i
  simp only [Int.toNat_natCast]
  rw [List.getElem?_take]
  unfold memR
  rw [List.getElem?_map]
  by_cases hi : i < s
  · obtain ⟨h1, h2⟩ := same_page hz h hi
    rw [if_pos hi, List.getElem?_drop, List.getElem?_range hi]
    simp only [Option.map_some, memB, h1, h2]
    rw [List.getD_eq_getElem?_getD, List.getElem?_eq_getElem (by omega)]
    rfl
  · rw [if_neg hi, List.getElem?_eq_none (by simp; omega)]; rfl
/-- what is there behind a writing -/
def wrC (z : Nat) (C : Cont) (num : Int) (at_ : Nat) (ys : List UInt8) : Cont := fun k => if k.1 = num ∧ 0 ≤ k.2 then (List.range z).map fun o => if at_ ≤ k.2.toNat * z + o ∧ k.2.toNat * z + o < at_ + ys.length then ys.getD (k.2.toNat * z + o - at_) 0 else (C k).getD o 0 else C k
theorem wrC_len {z : Nat} {C : Cont} {num : Int} {at_ : Nat} {ys : List UInt8} (hC : ∀ k, (C k).length = z) (k : PairK) : (wrC z C num at_ ys k).length = z := by
  unfold wrC; split
  · simp
  · exact hC k
theorem list_range {l : List UInt8} : (List.range l.length).map (fun o => l.getD o 0) = l := by
  apply List.ext_getElem?
  intro i
  rw [List.getElem?_map]
  by_cases hi : i < l.length
  · rw [List.getElem?_range hi, List.getElem?_eq_getElem hi]; simp [List.getD_eq_getElem?_getD, hi]
  · rw [List.getElem?_eq_none (by simp; omega), List.getElem?_eq_none (by omega)]; rfl
theorem wrC_nil {z : Nat} {C : Cont} {num : Int} {at_ : Nat} (hC : ∀ k, (C k).length = z) : wrC z C num at_ [] = C := by
  funext k
  unfold wrC
  split
  · have : ∀ o, (if at_ ≤ k.2.toNat * z + o ∧ k.2.toNat * z + o < at_ + ([] : List UInt8).length then ([] : List UInt8).getD (k.2.toNat * z + o - at_) 0 else (C k).getD o 0) = (C k).getD o 0 := fun o => if_neg (by simp only [List.length_nil]; omega)
    simp only [this]
    rw [← hC k]; exact list_range
  · rfl
theorem wrC_byte {z : Nat} {C : Cont} {num : Int} {at_ a : Nat} {ys : List UInt8} (hz : 0 < z) : memB z (wrC z C num at_ ys) num a = if at_ ≤ a ∧ a < at_ + ys.length then ys.getD (a - at_) 0 else memB z C num a := by
  have hm := Nat.mod_lt a hz
  have hd := Nat.div_add_mod a z
  have e : a / z * z + a % z = a := by rw [Nat.mul_comm]; exact hd
  unfold memB wrC
  rw [if_pos ⟨rfl, Int.natCast_nonneg _⟩]
  simp only [Int.toNat_natCast]
  rw [List.getD_eq_getElem?_getD, List.getElem?_map, List.getElem?_range hm]
  simp only [Option.map_some, Option.getD_some, e]
theorem wrC_other {z : Nat} {C : Cont} {num num' : Int} {at_ a : Nat} {ys : List UInt8} (h : num' ≠ num) : memB z (wrC z C num at_ ys) num' a = memB z C num' a := by
  unfold memB wrC
  rw [if_neg (fun e => h e.1)]
theorem write_part {z : Nat} {C : Cont} {num : Int} {at_ d s : Nat} {ys : List UInt8} (hn : 0 ≤ num) (hz : 0 < z) (hC : ∀ k, (C k).length = z) (h : (at_ + d) % z + s ≤ z) (hs : d + s ≤ ys.length) :
    writeG z (wrC z C num at_ (ys.take d)) (num, (((at_ + d) / z : Nat) : Int)) (((at_ + d) % z : Nat) : Int) ((ys.drop d).take s) = wrC z C num at_ (ys.take (d + s)) := by
  have hl : ((ys.drop d).take s).length = s := by simp; omega
  unfold writeG
  rw [hl, if_pos (wrongG_part hn hz h)]
  have hd := Nat.div_add_mod (at_ + d) z
  have hd2 : (at_ + d) / z * z + (at_ + d) % z = at_ + d := by rw [Nat.mul_comm]; exact hd
  have hl1 : (ys.take d).length = d := by simp; omega
  have hl2 : (ys.take (d + s)).length = d + s := by simp; omega
  have hg : ∀ t e, t < e → (ys.take e).getD t 0 = ys.getD t 0 := fun t e ht => by
    rw [List.getD_eq_getElem?_getD, List.getD_eq_getElem?_getD, List.getElem?_take, if_pos ht]
  funext k
  unfold updC
  by_cases hk : k = (num, (((at_ + d) / z : Nat) : Int))
  · rw [if_pos hk, hk]
    simp only [Int.toNat_natCast]
    have hw := wrC_len (num := num) (at_ := at_) (ys := ys.take d) hC (num, (((at_ + d) / z : Nat) : Int))
    apply List.ext_getElem?
    intro o
    by_cases ho : o < z
    · have e2 : (wrC z C num at_ (ys.take (d + s)) (num, (((at_ + d) / z : Nat) : Int)))[o]? = some (if at_ ≤ (at_ + d) / z * z + o ∧ (at_ + d) / z * z + o < at_ + (d + s) then ys.getD ((at_ + d) / z * z + o - at_) 0 else (C (num, (((at_ + d) / z : Nat) : Int))).getD o 0) := by
        unfold wrC
        rw [if_pos ⟨rfl, Int.natCast_nonneg _⟩, List.getElem?_map, List.getElem?_range ho, hl2]
        simp only [Option.map_some, Int.toNat_natCast, Option.some.injEq]
        split
        · rename_i hc; exact hg _ _ (by omega)
        · rfl
      have e1 : (wrC z C num at_ (ys.take d) (num, (((at_ + d) / z : Nat) : Int)))[o]? = some (if at_ ≤ (at_ + d) / z * z + o ∧ (at_ + d) / z * z + o < at_ + d then ys.getD ((at_ + d) / z * z + o - at_) 0 else (C (num, (((at_ + d) / z : Nat) : Int))).getD o 0) := by
        unfold wrC
        rw [if_pos ⟨rfl, Int.natCast_nonneg _⟩, List.getElem?_map, List.getElem?_range ho, hl1]
        simp only [Option.map_some, Int.toNat_natCast, Option.some.injEq]
        split
        · rename_i hc; exact hg _ _ (by omega)
        · rfl
      rw [e2]
      unfold spl
      simp only [List.getElem?_append, List.length_append, List.length_take, hl, hw]
      by_cases o1 : o < (at_ + d) % z
      · rw [if_pos (by omega), if_pos (by omega), List.getElem?_take, if_pos o1, e1]
        congr 1
        by_cases c1 : at_ ≤ (at_ + d) / z * z + o ∧ (at_ + d) / z * z + o < at_ + d
        · rw [if_pos c1, if_pos ⟨c1.1, by omega⟩]
        · rw [if_neg c1, if_neg (fun c2 => c1 ⟨c2.1, by omega⟩)]
      · by_cases o2 : o < (at_ + d) % z + s
        · rw [if_pos (by omega), if_neg (by omega), List.getElem?_take, if_pos (by omega), List.getElem?_drop, if_pos ⟨by omega, by omega⟩]
          rw [show d + (o - min ((at_ + d) % z) z) = (at_ + d) / z * z + o - at_ by omega]
          rw [List.getD_eq_getElem?_getD, List.getElem?_eq_getElem (by omega)]; rfl
        · rw [if_neg (by omega), List.getElem?_drop]
          rw [show (at_ + d) % z + s + (o - (min ((at_ + d) % z) z + s)) = o by omega, e1]
          congr 1
          rw [if_neg (by omega), if_neg (by omega)]
    · rw [List.getElem?_eq_none (by rw [spl_len (by rw [hw, hl]; exact h), hw]; omega), List.getElem?_eq_none (by rw [wrC_len hC]; omega)]
  · rw [if_neg hk]
    unfold wrC
    by_cases hc : k.1 = num ∧ 0 ≤ k.2
    · rw [if_pos hc, if_pos hc]
      apply List.map_congr_left
      intro o ho
      have ho' := List.mem_range.1 ho
      have hne : k.2.toNat ≠ (at_ + d) / z := fun e => hk (Prod.ext hc.1 (by show k.2 = _; omega))
      have hfar : ¬ (at_ + d ≤ k.2.toNat * z + o ∧ k.2.toNat * z + o < at_ + d + s) := fun ⟨c1, c2⟩ => by
        have c3 : (k.2.toNat * z + o) / z = k.2.toNat := by rw [Nat.mul_comm, Nat.mul_add_div hz, Nat.div_eq_of_lt ho', Nat.add_zero]
        obtain ⟨i, hi⟩ : ∃ i, k.2.toNat * z + o = at_ + d + i := ⟨_, (Nat.add_sub_cancel' c1).symm⟩
        have c4 := (same_page hz h (show i < s by omega)).1
        rw [hi, c4] at c3
        exact hne c3.symm
      rw [hl1, hl2]
      by_cases c1 : at_ ≤ k.2.toNat * z + o ∧ k.2.toNat * z + o < at_ + d
      · rw [if_pos c1, if_pos ⟨c1.1, by omega⟩, hg _ _ (by omega), hg _ _ (by omega)]
      · rw [if_neg c1, if_neg (by omega)]
    · rw [if_neg hc, if_neg hc]
theorem memR_wr {z : Nat} {C : Cont} {num : Int} {at_ : Nat} {ys : List UInt8} (hz : 0 < z) : memR z (wrC z C num at_ ys) num at_ ys.length = ys := by
  unfold memR
  apply List.ext_getElem?
  intro i
  rw [List.getElem?_map]
  by_cases hi : i < ys.length
  · rw [List.getElem?_range hi]
    simp only [Option.map_some]
    rw [wrC_byte hz, if_pos ⟨by omega, by omega⟩, Nat.add_sub_cancel_left, List.getD_eq_getElem?_getD, List.getElem?_eq_getElem hi]; rfl
  · rw [List.getElem?_eq_none (by simp; omega), List.getElem?_eq_none (by omega)]; rfl
/-- of what a pager's pages are so many bytes -/
theorem CodeT.lenG {P : Program} {Q : Exit → Act → World → Prop} {c : Ctx} {x : Code} {env : Env} {X : PgI} {z q m : Nat} {T : PgD → Prop} {C : Cont} {R : ArD → HP} {hs : List HP} (i : Nat) (hi : hs[i]? = some (pagH X z q T C m R)) (k : (∀ k, (C k).length = z) → CodeT P Q c x hs env) : CodeT P Q c x hs env := by
  intro a w hst
  obtain ⟨F1, _, ⟨p, hp⟩⟩ := hst.2.2.choose_spec.choose_spec.2.1.get hi
  obtain ⟨G1, G2, g1, g2, g3, g4⟩ := hp
  obtain ⟨D, _, _, hI⟩ := g3.ex
  exact k (fun k => by rw [hI.lenC k]; exact g3.sz) a w hst
end Go.Hl
