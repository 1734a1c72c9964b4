/-
  Needs, configs, bits in lists, digits: as values, and what is plain of them. Arrays as owned slices.
-/
import Derived.Test.YtnjfnjgjeibaiaaDoorB26A
import Derived.Test.YtnjfnjgjeibaiaaDoorHlP
import Derived.Test.YtnjfnjgjeibaiaaDoorHlS
import Derived.Test.YtnjfnjgjeibaiaaDoorHlR
namespace Go.Hl
open Go.Lib Go.RowKit
set_option linter.unusedVariables false

abbrev iV (n : Int) : VP := intV .i64 n
def encI (v : Int) : List VP := [iV v]
instance : Enc 1 encI := ⟨fun _ => rfl, fun x q h => by simp only [encI, List.mem_cons, List.not_mem_nil, or_false] at h; subst h; infer_instance⟩
def encSt (l : List UInt8) : List VP := [strV l]
instance : Enc 1 encSt := ⟨fun _ => rfl, fun x q h => by simp only [encSt, List.mem_cons, List.not_mem_nil, or_false] at h; subst h; infer_instance⟩
def encB (b : Bool) : List VP := [propV (b = true)]
instance : Enc 1 encB := ⟨fun _ => rfl, fun x q h => by simp only [encB, List.mem_cons, List.not_mem_nil, or_false] at h; subst h; infer_instance⟩

structure Nd where
  a : Int
  c : Int
  l : Int
  f : Int
  b : Int
  deriving DecidableEq
namespace Nd
def toL (x : Nd) : List Int := [x.a, x.c, x.l, x.f, x.b]
def ofL : List Int → Nd
  | [a, c, l, f, b] => ⟨a, c, l, f, b⟩
  | _ => ⟨0, 0, 0, 0, 0⟩
def mx (x y : Nd) : Nd := ⟨max x.a y.a, max x.c y.c, max x.l y.l, max x.f y.f, max x.b y.b⟩
def ok (x : Nd) : Prop := ∀ v ∈ x.toL, -9223372036854775808 ≤ v ∧ v ≤ 9223372036854775807
def zero : Nd := ⟨0, 0, 0, 0, 0⟩
theorem ofL_toL (x : Nd) : ofL x.toL = x := rfl
theorem toL_len (x : Nd) : x.toL.length = 5 := rfl
theorem toL_ofL {l : List Int} (h : l.length = 5) : (ofL l).toL = l := by
  match l, h with
  | [a, c, l, f, b], _ => rfl
theorem ext_toL {x y : Nd} (h : x.toL = y.toL) : x = y := by rw [← ofL_toL x, h, ofL_toL]
theorem mx_toL (x y : Nd) : (x.mx y).toL = [max x.a y.a, max x.c y.c, max x.l y.l, max x.f y.f, max x.b y.b] := rfl
theorem ext_iff {x y : Nd} : x = y ↔ x.a = y.a ∧ x.c = y.c ∧ x.l = y.l ∧ x.f = y.f ∧ x.b = y.b := by
  obtain ⟨a, c, l, f, b⟩ := x; obtain ⟨a', c', l', f', b'⟩ := y; simp
theorem mx_ok {x y : Nd} (hx : x.ok) (hy : y.ok) : (x.mx y).ok := by
  simp only [ok, mx, toL, List.mem_cons, List.not_mem_nil, or_false, forall_eq_or_imp, forall_eq] at hx hy ⊢
  omega
theorem mx_self (x : Nd) : x.mx x = x := by obtain ⟨a, c, l, f, b⟩ := x; simp [mx]
theorem mx_comm (x y : Nd) : x.mx y = y.mx x := by simp only [mx, Nd.mk.injEq]; refine ⟨?_, ?_, ?_, ?_, ?_⟩ <;> omega
theorem mx_e1 (x y z : Nd) : z.mx (y.mx x) = (x.mx y).mx z := by simp only [mx, Nd.mk.injEq]; refine ⟨?_, ?_, ?_, ?_, ?_⟩ <;> omega
theorem mx_e2 (x y z : Nd) : ((x.mx y).mx z).mx x = (x.mx y).mx z := by simp only [mx, Nd.mk.injEq]; refine ⟨?_, ?_, ?_, ?_, ?_⟩ <;> omega
theorem mx_e3 (x y z : Nd) : ((x.mx y).mx z).mx y = (x.mx y).mx z := by simp only [mx, Nd.mk.injEq]; refine ⟨?_, ?_, ?_, ?_, ?_⟩ <;> omega
theorem mx_e4 (x y : Nd) : (x.mx y).mx y = x.mx y := by simp only [mx, Nd.mk.injEq]; refine ⟨?_, ?_, ?_, ?_, ?_⟩ <;> omega
theorem mx_e5 (x y z : Nd) : (x.mx z).mx y = (x.mx y).mx z := by simp only [mx, Nd.mk.injEq]; refine ⟨?_, ?_, ?_, ?_, ?_⟩ <;> omega
theorem mx_eq (x y : Nd) : x.mx y = x ↔ y.a ≤ x.a ∧ y.c ≤ x.c ∧ y.l ≤ x.l ∧ y.f ≤ x.f ∧ y.b ≤ x.b := by
  rw [ext_iff]; simp only [mx]
  constructor
  · rintro ⟨h1, h2, h3, h4, h5⟩
    exact ⟨by omega, by omega, by omega, by omega, by omega⟩
  · rintro ⟨h1, h2, h3, h4, h5⟩
    exact ⟨by omega, by omega, by omega, by omega, by omega⟩
theorem ok_iff (x : Nd) : x.ok ↔ (-9223372036854775808 ≤ x.a ∧ x.a ≤ 9223372036854775807) ∧ (-9223372036854775808 ≤ x.c ∧ x.c ≤ 9223372036854775807) ∧ (-9223372036854775808 ≤ x.l ∧ x.l ≤ 9223372036854775807) ∧ (-9223372036854775808 ≤ x.f ∧ x.f ≤ 9223372036854775807) ∧ (-9223372036854775808 ≤ x.b ∧ x.b ≤ 9223372036854775807) := by
  simp [ok, toL]
end Nd
def encNd (x : Nd) : List VP := [iV x.a, iV x.c, iV x.l, iV x.f, iV x.b]
theorem encNd_flat (x : Nd) : encNd x = x.toL.flatMap encI := rfl
theorem flat_nd {l : List Int} (h : l.length = 5) : l.flatMap encI = encNd (Nd.ofL l) := by rw [encNd_flat, Nd.toL_ofL h]
/-- a config: its numbers as a need, frames, block -/
def encCf (x : Nd) (fr bl : Int) : List VP := [iV x.a, iV fr, iV bl, iV x.b, iV x.c, iV x.l, iV x.f, exactV (.slice none 0 0)]
instance (x : Nd) : FlatL (encNd x) := by unfold encNd; infer_instance
instance (x : Nd) (fr bl : Int) : FlatL (encCf x fr bl) := by unfold encCf; infer_instance
theorem nd_get {x : Nd} {k : Nat} (h : k < 5) : (encNd x)[k]? = some (iV (x.toL.getD k 0)) := by
  match k, h with
  | 0, _ => rfl
  | 1, _ => rfl
  | 2, _ => rfl
  | 3, _ => rfl
  | 4, _ => rfl
theorem toL_get {x : Nd} {k : Nat} (h : k < 5) : x.toL[k]? = some (x.toL.getD k 0) := by
  rw [List.getElem?_eq_getElem (by rw [Nd.toL_len]; exact h)]; simp [List.getD, List.getElem?_eq_getElem (show k < x.toL.length by rw [Nd.toL_len]; exact h)]

theorem nd_take {x : Nd} {k : Nat} (h : k < 5) : (x.toL.take (k + 1)).map itoa = (x.toL.take k).map itoa ++ [itoa (x.toL.getD k 0)] := by
  rw [List.take_add_one, toL_get h, List.map_append]; rfl

/-! ### arrays as owned slices -/
theorem arr_sl {α : Type} {b n N : Nat} {enc : α → List VP} {xs : List α} {cs : List VP} {r : List HP} (hcs : cs = xs.flatMap enc) (hl : cs.length = N * n) (hx : xs.length = N) (hN : N ≤ 281474976710656) : OLe (cellsH b cs :: r) (sliceH (some (b, N)) n enc xs :: r) := fun F S w ⟨F1, F2, h1, h2, ⟨hF, arr, T, hh, hn, hc⟩, h4⟩ => by
  subst hcs
  exact ⟨F1, F2, h1, h2, ⟨hF, by omega, by omega, arr, T, hh, by rw [hn, hl], hc⟩, h4⟩
theorem sl_arr {α : Type} {b n N : Nat} {enc : α → List VP} {xs : List α} {cs : List VP} {r : List HP} (hcs : xs.flatMap enc = cs) (hl : cs.length = N * n) : OLe (sliceH (some (b, N)) n enc xs :: r) (cellsH b cs :: r) := fun F S w ⟨F1, F2, h1, h2, ⟨hF, _, _, arr, T, hh, hn, hc⟩, h4⟩ => by
  subst hcs
  exact ⟨F1, F2, h1, h2, ⟨hF, arr, T, hh, by rw [hn, hl], hc⟩, h4⟩
section
variable {P : Program} {hs : List HP} {env : Env} {q : VP} {dst : Option Tmp} {ty T T' E : TypeId} {pos : String} {after : Array Edge} {gd : Option (Nat × Bool)} {x y z : Operand}
theorem opIndexAddrAW {len n b : Nat} {k : IntKind} {i : Int} (j : Nat) (hT : P.underlying T = some (.array len E)) (hn : P.cellsOf E = n) (h0 : Nat.blt 0 n = true) (hx : Opd env x (addrV b 0)) (hy : Opd env y (intV k i)) (hi : i = (j : Int)) (hj : j < len) :
    OpP P hs env ⟨dst, .indexAddr T x y, ty, pos, after, gd⟩ (addrV b (j * n)) := (opIndexAddrO j hT hn h0 hx hy hi hj).le (VLe.of_eq (by rw [Nat.zero_add]))
end

/-! ### bits -/
def bitsL (n a : Nat) : List Bool := (List.range n).map fun i => (a / 2 ^ i) % 2 == 1
theorem bitsL_succ (n a : Nat) : bitsL (n + 1) a = bitsL n a ++ [(a / 2 ^ n) % 2 == 1] := by simp [bitsL, List.range_succ]
theorem bitsL_len (n a : Nat) : (bitsL n a).length = n := by simp [bitsL]
theorem bitsL_cons (n a : Nat) : bitsL (n + 1) a = (a % 2 == 1) :: bitsL n (a / 2) := by
  unfold bitsL
  rw [List.range_succ_eq_map, List.map_cons, List.map_map]
  congr 1
  · simp
  · refine List.map_congr_left fun i _ => ?_
    simp only [Function.comp, Nat.succ_eq_add_one]
    rw [Nat.div_div_eq_div_mul, Nat.pow_succ, Nat.mul_comm]
def wordN : List Bool → Nat
  | [] => 0
  | b :: l => 2 * wordN l + (if b then 1 else 0)
theorem wordN_lt (l : List Bool) : wordN l < 2 ^ l.length := by
  induction l with
  | nil => simp [wordN]
  | cons b l ih =>
    simp only [wordN, List.length_cons, Nat.pow_succ]
    split <;> omega
theorem wordN_bits (n : Nat) : ∀ a : Nat, wordN (bitsL n a) = a % 2 ^ n := by
  induction n with
  | zero => intro a; simp [bitsL, wordN, Nat.mod_one]
  | succ n ih =>
    intro a
    rw [bitsL_cons, wordN, ih, Nat.pow_succ, Nat.mul_comm (2 ^ n) 2, Nat.mod_mul]
    by_cases h : a % 2 = 1
    · simp [h]; omega
    · have : a % 2 = 0 := by omega
      simp [this]
theorem wordN_drop {l : List Bool} {k : Nat} (h : k < l.length) : wordN (l.drop k) = 2 * wordN (l.drop (k + 1)) + (if l[k] = true then 1 else 0) := by
  rw [List.drop_eq_getElem_cons h]; rfl
theorem wordN_drop_lt {l : List Bool} {k : Nat} (h : l.length ≤ 64) (hk : k ≤ l.length) : wordN (l.drop k) < 2 ^ (64 - k) := by
  refine Nat.lt_of_lt_of_le (wordN_lt _) (Nat.pow_le_pow_right (by decide) ?_)
  rw [List.length_drop]; omega
theorem half_div (a k : Nat) : a / 2 ^ k / 2 = a / 2 ^ (k + 1) := by rw [Nat.div_div_eq_div_mul, Nat.pow_succ]

theorem wrap_u64 (v : Int) : IntKind.u64.wrap v = (((v % 18446744073709551616).toNat : Nat) : Int) := by
  have e : IntKind.u64.wrap v = v % 18446744073709551616 := rfl
  rw [e]; omega

/-! ### digits -/
def remD (a : Nat) : List UInt8 := if a = 0 then [] else decDigits a
theorem dec_step (a : Nat) : decDigits a = remD (a / 10) ++ [UInt8.ofNat (48 + a % 10)] := by
  by_cases h : a < 10
  · rw [decDigits, dif_pos h, remD, if_pos (by omega), List.nil_append, Nat.mod_eq_of_lt h]
  · rw [decDigits, dif_neg h, remD, if_neg (by omega)]
theorem hex_digit {d : Nat} (h : d < 10) : (([48, 49, 50, 51, 52, 53, 54, 55, 56, 57, 97, 98, 99, 100, 101, 102] : List UInt8).take (d + 1)).drop d = [UInt8.ofNat (48 + d)] := by
  have : ∀ d : Fin 10, (([48, 49, 50, 51, 52, 53, 54, 55, 56, 57, 97, 98, 99, 100, 101, 102] : List UInt8).take (d.1 + 1)).drop d.1 = [UInt8.ofNat (48 + d.1)] := by decide
  exact this ⟨d, h⟩
theorem dec_len : ∀ (k u : Nat), u < 10 ^ (k + 1) → (decDigits u).length ≤ k + 1
  | 0, u, h => by rw [decDigits, dif_pos (by simpa using h)]; simp
  | k + 1, u, h => by
    rw [decDigits]
    split
    · simp
    · rw [List.length_append]
      have := dec_len k (u / 10) (by rw [Nat.pow_succ] at h; omega)
      simp; omega
def DigI (a0 a : Nat) (s : List UInt8) : Prop := (s = [] ∧ a = a0) ∨ (s ≠ [] ∧ remD a ++ s = decDigits a0)
theorem DigI.len {a0 a : Nat} {s : List UInt8} (h : DigI a0 a s) (h0 : a0 < 18446744073709551616) : s.length ≤ 20 ∧ a ≤ a0 ∨ s.length ≤ 20 ∧ a < 18446744073709551616 := by
  rcases h with ⟨rfl, rfl⟩ | ⟨_, h⟩
  · exact .inl ⟨by simp, Nat.le_refl _⟩
  · have hl := congrArg List.length h
    have := dec_len 19 a0 (by omega)
    rw [List.length_append] at hl
    refine .inr ⟨by omega, ?_⟩
    by_cases ha : a < 18446744073709551616
    · exact ha
    · exfalso
      have h1 : remD a = decDigits a := by rw [remD, if_neg (by omega)]
      have h2 : ∀ (k u : Nat), 10 ^ k ≤ u → k + 1 ≤ (decDigits u).length := by
        intro k
        induction k with
        | zero => intro u _; have := dec_ne u; cases hd : decDigits u with
          | nil => exact absurd hd this
          | cons _ _ => simp
        | succ k ih =>
          intro u hu
          rw [Nat.pow_succ] at hu
          have h10 : ¬ u < 10 := by have := Nat.one_le_pow k 10 (by decide); omega
          rw [decDigits, dif_neg h10, List.length_append]
          have := ih (u / 10) (by omega)
          simp; omega
      have h3 := h2 19 a (by omega)
      have h4 : s ≠ [] := by assumption
      have h5 : 0 < s.length := List.length_pos_iff.2 h4
      rw [h1] at hl
      omega
theorem DigI.next {a0 a : Nat} {s : List UInt8} (h : DigI a0 a s) (hc : s = [] ∨ 0 < a) : DigI a0 (a / 10) ([UInt8.ofNat (48 + a % 10)] ++ s) := by
  refine .inr ⟨by simp, ?_⟩
  have e : decDigits a ++ s = decDigits a0 := by
    rcases h with ⟨rfl, rfl⟩ | ⟨h1, h2⟩
    · simp
    · rcases hc with hc | hc
      · exact absurd hc h1
      · rw [remD, if_neg (by omega)] at h2; exact h2
  rw [← e, dec_step a, List.append_assoc]
theorem DigI.done {a0 a : Nat} {s : List UInt8} (h : DigI a0 a s) (hc : ¬ (s = [] ∨ 0 < a)) : s = decDigits a0 := by
  rcases h with ⟨h1, _⟩ | ⟨_, h2⟩
  · exact absurd (.inl h1) hc
  · have h0 : a = 0 := by
      rcases Nat.eq_zero_or_pos a with h | h
      · exact h
      · exact absurd (.inr h) hc
    subst h0
    simpa [remD] using h2
/-- a word, told with its sign -/
def printL (a : Nat) : List UInt8 := if a < 9223372036854775808 then decDigits a else 45 :: decDigits (18446744073709551616 - a)
theorem printL_int {v : Int} (h0 : -9223372036854775808 ≤ v) (h1 : v ≤ 9223372036854775807) : printL (v % 18446744073709551616).toNat = itoa v := by
  unfold printL itoa
  by_cases hn : v < 0
  · rw [if_neg (by omega), if_pos hn]
    have : 18446744073709551616 - (v % 18446744073709551616).toNat = v.natAbs := by omega
    rw [this]
  · rw [if_pos (by omega), if_neg hn]
    have : (v % 18446744073709551616).toNat = v.toNat := by omega
    rw [this]

/-! ### texts -/
theorem itoa_len {v : Int} (h0 : -9223372036854775808 ≤ v) (h1 : v ≤ 9223372036854775807) : (itoa v).length ≤ 20 := by
  unfold itoa
  split
  · have := dec_len 18 v.natAbs (by omega)
    simp; omega
  · have := dec_len 18 v.toNat (by omega); omega
def wantL (x : Nd) (k : Nat) : List UInt8 := textL (x.toL.take k)
theorem wantL_step (x : Nd) {k : Nat} (h : k < 5) : (if 0 < k then wantL x k ++ [32] else wantL x k) ++ itoa (x.toL.getD k 0) = wantL x (k + 1) := by
  match k, h with
  | 0, _ => simp [wantL, textL, Nd.toL, Lib.join, List.intercalate]
  | 1, _ => simp [wantL, textL, Nd.toL, join_cons, joinTail]
  | 2, _ => simp [wantL, textL, Nd.toL, join_cons, joinTail]
  | 3, _ => simp [wantL, textL, Nd.toL, join_cons, joinTail]
  | 4, _ => simp [wantL, textL, Nd.toL, join_cons, joinTail]
theorem wantL_all (x : Nd) : wantL x 5 = textL x.toL := rfl
theorem itoas_len {x : Nd} (h : x.ok) {k : Nat} (hk : k < 5) : (itoa (x.toL.getD k 0)).length ≤ 20 := by
  obtain ⟨h1, h2⟩ := h (x.toL.getD k 0) (List.mem_of_getElem? (toL_get hk))
  exact itoa_len h1 h2
theorem wantL_len {x : Nd} (h : x.ok) : ∀ {k : Nat}, k ≤ 5 → (wantL x k).length ≤ 21 * k
  | 0, _ => by simp [wantL, textL, Lib.join, List.intercalate]
  | k + 1, hk => by
    have h1 := wantL_len h (k := k) (by omega)
    have h2 := itoas_len h (k := k) (by omega)
    rw [← wantL_step x (by omega), List.length_append]
    split
    · rw [List.length_append]; simp only [List.length_cons, List.length_nil]; omega
    · omega
theorem textL_len {x : Nd} (h : x.ok) : (textL x.toL).length ≤ 105 := wantL_len h (k := 5) (by omega)

/-- each number may be -/
def okN (x : Nd) : Prop := ∀ v ∈ x.toL, 0 ≤ v ∧ v ≤ 1000000000
def numsN (s : List UInt8) : Nd := Nd.ofL (numsL s)
def okP (s : List UInt8) : Prop := okN (numsN s) ∧ textL (numsN s).toL = s
open Classical in
noncomputable def parseN (s : List UInt8) : Nd := if okP s then numsN s else .zero
open Classical in
noncomputable def parseE (s : List UInt8) : Int := if okP s then 0 else 4
theorem numsN_ok (s : List UInt8) : (numsN s).ok := by
  intro v hv
  rw [numsN, Nd.toL_ofL (nums_len s)] at hv
  exact nums_range s v hv
theorem numsN_text {x : Nd} (h : x.ok) : numsN (textL x.toL) = x := by
  unfold numsN
  rw [show x.toL = [x.a, x.c, x.l, x.f, x.b] from rfl, nums_text _ _ _ _ _ h]
  rfl
theorem okP_text {x : Nd} (h : x.ok) : okP (textL x.toL) ↔ okN x := by
  unfold okP
  rw [numsN_text h]
  exact ⟨fun h => h.1, fun h => ⟨h, rfl⟩⟩
theorem parse_pos {s : List UInt8} (h : okP s) : parseN s = numsN s ∧ parseE s = 0 := by
  unfold parseN parseE; rw [if_pos h, if_pos h]; exact ⟨rfl, rfl⟩
theorem parse_neg {s : List UInt8} (h : ¬ okP s) : parseN s = .zero ∧ parseE s = 4 := by
  unfold parseN parseE; rw [if_neg h, if_neg h]; exact ⟨rfl, rfl⟩
theorem parseN_ok (s : List UInt8) : (parseN s).ok := by
  by_cases h : okP s
  · rw [(parse_pos h).1]; exact numsN_ok s
  · rw [(parse_neg h).1]; simp [Nd.ok, Nd.zero, Nd.toL]
theorem okP_12345 : okP [49, 32, 50, 32, 51, 32, 52, 32, 53] ∧ numsN [49, 32, 50, 32, 51, 32, 52, 32, 53] = ⟨1, 2, 3, 4, 5⟩ := by
  have e : numsN [49, 32, 50, 32, 51, 32, 52, 32, 53] = ⟨1, 2, 3, 4, 5⟩ := by unfold numsN; rw [nums_12345]; rfl
  refine ⟨⟨?_, ?_⟩, e⟩
  · rw [e]; simp [okN, Nd.toL]
  · rw [e]; exact text_12345

/-! ### rounds -/
/-- the numbers, as far as they are taken -/
def numsK (s : List UInt8) (k : Nat) : List Int := ((partsL s).take k).map atoiV ++ List.replicate (5 - min k (partsL s).length) 0
theorem parts_len (s : List UInt8) : (partsL s).length ≤ 5 := by
  have := nums_len s
  simp only [numsL, List.length_append, List.length_map, List.length_replicate] at this
  omega
theorem numsK_len (s : List UInt8) (k : Nat) : (numsK s k).length = 5 := by
  have := parts_len s
  simp [numsK]; omega
theorem numsK_zero (s : List UInt8) : numsK s 0 = [0, 0, 0, 0, 0] := by simp [numsK, List.replicate]
theorem numsK_all (s : List UInt8) : numsK s (partsL s).length = numsL s := by simp [numsK, numsL]
theorem numsK_set {s : List UInt8} {k : Nat} {x : List UInt8} (hx : (partsL s)[k]? = some x) : (numsK s k).set k (atoiV x) = numsK s (k + 1) := by
  have hk := (List.getElem?_eq_some_iff.1 hx).1
  have h5 := parts_len s
  have hx' : (partsL s)[k] = x := (List.getElem?_eq_some_iff.1 hx).2
  unfold numsK
  rw [List.set_append_right _ _ (by simp; omega), List.take_succ_eq_append_getElem hk, List.map_append]
  have e : 5 - min k (partsL s).length = (5 - min (k + 1) (partsL s).length) + 1 := by omega
  have e2 : k - (((partsL s).take k).map atoiV).length = 0 := by simp; omega
  rw [e, e2, List.replicate_succ, List.set_cons_zero, hx']
  simp
theorem numsK_get {s : List UInt8} {k : Nat} (h : k < 5) : (numsK s k)[k]? = some ((numsK s k).getD k 0) := by
  have := numsK_len s k
  simp [List.getD, List.getElem?_eq_getElem (show k < (numsK s k).length by omega)]
/-- the greater ones, as far as they are taken -/
def mxK (x y : Nd) (k : Nat) : List Int := (x.mx y).toL.take k ++ x.toL.drop k
theorem mxK_len (x y : Nd) (k : Nat) : (mxK x y k).length = 5 := by simp [mxK, Nd.toL_len]; omega
theorem mxK_zero (x y : Nd) : mxK x y 0 = x.toL := by simp [mxK]
theorem mxK_all (x y : Nd) : mxK x y 5 = (x.mx y).toL := by simp [mxK, Nd.toL]
theorem mxK_get {x y : Nd} {k : Nat} (h : k < 5) : (mxK x y k)[k]? = some (x.toL.getD k 0) := by
  match k, h with
  | 0, _ => rfl
  | 1, _ => rfl
  | 2, _ => rfl
  | 3, _ => rfl
  | 4, _ => rfl
theorem mxK_set {x y : Nd} {k : Nat} (h : k < 5) : (mxK x y k).set k (max (x.toL.getD k 0) (y.toL.getD k 0)) = mxK x y (k + 1) := by
  match k, h with
  | 0, _ => rfl
  | 1, _ => rfl
  | 2, _ => rfl
  | 3, _ => rfl
  | 4, _ => rfl
/-- of so many numbers -/
def okK (x : Nd) (k : Nat) : Prop := ∀ v ∈ x.toL.take k, 0 ≤ v ∧ v ≤ 1000000000
theorem okK_step {x : Nd} {k : Nat} (h : k < 5) : okK x (k + 1) ↔ okK x k ∧ 0 ≤ x.toL.getD k 0 ∧ x.toL.getD k 0 ≤ 1000000000 := by
  have e : x.toL.take (k + 1) = x.toL.take k ++ [x.toL.getD k 0] := by
    rw [List.take_add_one, toL_get h]; rfl
  unfold okK
  rw [e]
  constructor
  · intro h
    exact ⟨fun v hv => h v (List.mem_append_left _ hv), h _ (by simp)⟩
  · rintro ⟨h1, h2⟩ v hv
    rcases List.mem_append.1 hv with hv | hv
    · exact h1 v hv
    · simp only [List.mem_cons, List.not_mem_nil, or_false] at hv; subst hv; exact h2
theorem okK_zero (x : Nd) : okK x 0 := by simp [okK]
theorem okK_all (x : Nd) : okK x 5 ↔ okN x := Iff.rfl
def geK (x y : Nd) (k : Nat) : Prop := ∀ j, j < k → y.toL.getD j 0 ≤ x.toL.getD j 0
theorem geK_zero (x y : Nd) : geK x y 0 := fun j h => absurd h (by omega)
theorem geK_step {x y : Nd} {k : Nat} : geK x y (k + 1) ↔ geK x y k ∧ y.toL.getD k 0 ≤ x.toL.getD k 0 := by
  constructor
  · intro h
    exact ⟨fun j hj => h j (by omega), h k (by omega)⟩
  · rintro ⟨h1, h2⟩ j hj
    rcases Nat.lt_or_ge j k with h | h
    · exact h1 j h
    · have : j = k := by omega
      subst this; exact h2
theorem geK_all (x y : Nd) : geK x y 5 ↔ y.a ≤ x.a ∧ y.c ≤ x.c ∧ y.l ≤ x.l ∧ y.f ≤ x.f ∧ y.b ≤ x.b := by
  constructor
  · intro h
    exact ⟨h 0 (by omega), h 1 (by omega), h 2 (by omega), h 3 (by omega), h 4 (by omega)⟩
  · rintro ⟨h0, h1, h2, h3, h4⟩ j hj
    match j, hj with
    | 0, _ => exact h0
    | 1, _ => exact h1
    | 2, _ => exact h2
    | 3, _ => exact h3
    | 4, _ => exact h4
/-- a need as an argument -/
def NdOk : Type := { x : Nd // x.ok }
def ndOk (a c l f b : IntOf .i64) : NdOk := ⟨⟨a.1, c.1, l.1, f.1, b.1⟩, by
  have h : ∀ n : IntOf .i64, -9223372036854775808 ≤ n.1 ∧ n.1 ≤ 9223372036854775807 := fun n => by
    have := n.2
    simp only [Lit.wf, Bool.and_eq_true, decide_eq_true_eq] at this
    have e1 : IntKind.i64.min = -9223372036854775808 := rfl
    have e2 : IntKind.i64.max = 9223372036854775807 := rfl
    omega
  rw [Nd.ok_iff]
  exact ⟨h a, h c, h l, h f, h b⟩⟩
/-! ### what the law asks -/
theorem ask1 {x : Nd} (h : x.ok) : ¬ (((textL x.toL ≠ wantL x 5 ∨ ¬(okK x 5 ↔ parseE (textL x.toL) = 0)) ∨
      okK x 5 ∧ ¬((parseN (textL x.toL)).a = x.a ∧ (parseN (textL x.toL)).c = x.c ∧ (parseN (textL x.toL)).l = x.l ∧ (parseN (textL x.toL)).f = x.f ∧ (parseN (textL x.toL)).b = x.b ∧ True)) ∨
    ¬okK x 5 ∧ parseE (textL x.toL) ≠ 4) := by
  rw [wantL_all]
  by_cases hN : okN x
  · have hP := (okP_text h).2 hN
    have hK : okK x 5 := hN
    rw [(parse_pos hP).1, (parse_pos hP).2, numsN_text h]
    simp [hK]
  · have hP : ¬ okP (textL x.toL) := fun e => hN ((okP_text h).1 e)
    have hK : ¬ okK x 5 := hN
    rw [(parse_neg hP).1, (parse_neg hP).2]
    simp [hK]
theorem ask2 (x y : Nd) : ¬ (((((((¬(x.mx y = x ↔ geK x y 5) ∨ ¬(x.mx y).mx y = x.mx y) ∨ (3 : Int) ≠ 3) ∨ (5 : Int) ≠ 5) ∨
          ¬((x.mx y).a = (y.mx x).a ∧ (x.mx y).c = (y.mx x).c ∧ (x.mx y).l = (y.mx x).l ∧ (x.mx y).f = (y.mx x).f ∧ (x.mx y).b = (y.mx x).b ∧ True)) ∨
        ¬((x.mx y).a = (x.mx y).a ∧ (x.mx y).c = (x.mx y).c ∧ (x.mx y).l = (x.mx y).l ∧ (x.mx y).f = (x.mx y).f ∧ (x.mx y).b = (x.mx y).b ∧ True)) ∨
      (x.mx y).a ≠ (x.mx y).a) ∨ (x.mx y).f ≠ (x.mx y).f) := by
  rw [Nd.mx_comm y x, Nd.mx_e4, Nd.mx_eq, geK_all]
  simp
theorem ask3 {s : List UInt8} (h : parseE s ≠ 0) : parseE s = 4 ∧ (parseN s).a = Nd.zero.a ∧ (parseN s).c = Nd.zero.c ∧ (parseN s).l = Nd.zero.l ∧ (parseN s).f = Nd.zero.f ∧ (parseN s).b = Nd.zero.b ∧ True := by
  have hP : ¬ okP s := fun e => h (parse_pos e).2
  rw [(parse_neg hP).1, (parse_neg hP).2]
  simp
theorem ask4 {s : List UInt8} (h : ¬ parseE s ≠ 0) : (textL (parseN s).toL = s ∧ 0 ≤ (parseN s).a) ∧ (parseN s).b ≤ 1000000000 := by
  have hP : okP s := by
    by_cases hP : okP s
    · exact hP
    · rw [(parse_neg hP).2] at h; simp at h
  rw [(parse_pos hP).1]
  exact ⟨⟨hP.2, (hP.1 _ (by simp [Nd.toL])).1⟩, (hP.1 (numsN s).b (by simp [Nd.toL])).2⟩
end Go.Hl
