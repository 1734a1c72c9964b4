/-
  Bits counted side by side, in words of 64 bits.
-/
import Derived.Test.YtgmpadhfgohodaaDoorW05C
namespace Go.Hl
set_option linter.unusedVariables false
/-! ### bits counted side by side -/
theorem and_cat (j y m d e : Nat) (hd : d < 2 ^ j) (he : e < 2 ^ j) : (2 ^ j * y + d) &&& (2 ^ j * m + e) = 2 ^ j * (y &&& m) + (d &&& e) := by
  have h : d &&& e < 2 ^ j := Nat.and_lt_two_pow _ he
  refine Nat.eq_of_testBit_eq fun i => ?_
  rw [Nat.testBit_and, Nat.testBit_two_pow_mul_add _ hd, Nat.testBit_two_pow_mul_add _ he, Nat.testBit_two_pow_mul_add _ h]
  split
  · rw [Nat.testBit_and]
  · rw [Nat.testBit_and]
theorem and_cat8 (y m d e : Nat) (hd : d < 256) (he : e < 256) : (256 * y + d) &&& (256 * m + e) = 256 * (y &&& m) + (d &&& e) := and_cat 8 y m d e hd he
def rep8 (e : Nat) : Nat → Nat
  | 0 => 0
  | k + 1 => 256 * rep8 e k + e
def b1 (d : Nat) : Nat := (d / 2 &&& 85) + (d &&& 85)
def b2 (d : Nat) : Nat := (d / 4 &&& 51) + (d &&& 51)
def b3 (d : Nat) : Nat := (d / 16 + d) &&& 15
def byF (f : Nat → Nat) : Nat → Nat → Nat
  | 0, _ => 0
  | k + 1, x => 256 * byF f k (x / 256) + f (x % 256)
theorem byF_div (f : Nat → Nat) (hf : ∀ d, d < 256 → f d < 256) (k x : Nat) : byF f (k + 1) x / 256 = byF f k (x / 256) ∧ byF f (k + 1) x % 256 = f (x % 256) := by
  have := hf (x % 256) (Nat.mod_lt _ (by decide))
  simp only [byF]; omega
theorem byF_comp (f g : Nat → Nat) (hf : ∀ d, d < 256 → f d < 256) : ∀ (k x : Nat), byF g k (byF f k x) = byF (fun d => g (f d)) k x
  | 0, _ => rfl
  | k + 1, x => by
    obtain ⟨h1, h2⟩ := byF_div f hf k x
    have ih := byF_comp f g hf k (x / 256)
    show 256 * byF g k (byF f (k + 1) x / 256) + g (byF f (k + 1) x % 256) = _
    rw [h1, h2, ih]; rfl
theorem b1_lt : ∀ d, d < 256 → b1 d < 256 := by decide +kernel
theorem b2_lt : ∀ d, d < 256 → b2 d < 256 := by decide +kernel
theorem b12_lt : ∀ d, d < 256 → b2 (b1 d) ≤ 68 ∧ b2 (b1 d) % 16 ≤ 4 := by decide +kernel
theorem b123 : ∀ d, d < 256 → b3 (b2 (b1 d)) = popN 8 d := by decide +kernel
theorem low85 : ∀ d, d < 256 → d &&& 85 = d % 128 &&& 85 := by decide +kernel
theorem low51 : ∀ d, d < 256 → d &&& 51 = d % 64 &&& 51 := by decide +kernel
theorem low15 : ∀ d, d < 256 → d &&& 15 = d % 16 := by decide +kernel
theorem step85 (c e : Nat) (hc : c < 2) (he : e < 128) : 128 * c + e &&& 85 = e &&& 85 := by
  rw [low85 _ (by omega), Nat.mul_add_mod, Nat.mod_eq_of_lt he]
theorem step51 (c e : Nat) (hc : c < 4) (he : e < 64) : 64 * c + e &&& 51 = e &&& 51 := by
  rw [low51 _ (by omega), Nat.mul_add_mod, Nat.mod_eq_of_lt he]
theorem swar1 : ∀ (k x : Nat), x < 256 ^ k → (x / 2 &&& rep8 85 k) + (x &&& rep8 85 k) = byF b1 k x
  | 0, x, h => by simp at h; subst h; rfl
  | k + 1, x, h => by
    have hy : x / 256 < 256 ^ k := by rw [Nat.pow_succ] at h; exact Nat.div_lt_of_lt_mul (by omega)
    have ih := swar1 k (x / 256) hy
    have hx : x = 256 * (x / 256) + x % 256 := (Nat.div_add_mod x 256).symm
    have hd := Nat.mod_lt x (show 0 < 256 by decide)
    generalize x / 256 = y at *
    generalize x % 256 = d at *
    subst hx
    have e1 : (256 * y + d) / 2 = 256 * (y / 2) + (128 * (y % 2) + d / 2) := by omega
    rw [e1]
    simp only [rep8]
    rw [and_cat8 _ _ _ _ (by omega) (by decide), and_cat8 _ _ _ _ hd (by decide), step85 _ _ (by omega) (by omega)]
    show _ = 256 * byF b1 k ((256 * y + d) / 256) + b1 ((256 * y + d) % 256)
    rw [show (256 * y + d) / 256 = y by omega, show (256 * y + d) % 256 = d by omega, ← ih]
    unfold b1; omega
theorem swar2 : ∀ (k x : Nat), x < 256 ^ k → (x / 4 &&& rep8 51 k) + (x &&& rep8 51 k) = byF b2 k x
  | 0, x, h => by simp at h; subst h; rfl
  | k + 1, x, h => by
    have hy : x / 256 < 256 ^ k := by rw [Nat.pow_succ] at h; exact Nat.div_lt_of_lt_mul (by omega)
    have ih := swar2 k (x / 256) hy
    have hx : x = 256 * (x / 256) + x % 256 := (Nat.div_add_mod x 256).symm
    have hd := Nat.mod_lt x (show 0 < 256 by decide)
    generalize x / 256 = y at *
    generalize x % 256 = d at *
    subst hx
    have e1 : (256 * y + d) / 4 = 256 * (y / 4) + (64 * (y % 4) + d / 4) := by omega
    rw [e1]
    simp only [rep8]
    rw [and_cat8 _ _ _ _ (by omega) (by decide), and_cat8 _ _ _ _ hd (by decide), step51 _ _ (by omega) (by omega)]
    show _ = 256 * byF b2 k ((256 * y + d) / 256) + b2 ((256 * y + d) % 256)
    rw [show (256 * y + d) / 256 = y by omega, show (256 * y + d) % 256 = d by omega, ← ih]
    unfold b2; omega
def okB : Nat → Nat → Prop
  | 0, _ => True
  | k + 1, x => (x % 256 ≤ 68 ∧ x % 16 ≤ 4) ∧ okB k (x / 256)
theorem swar3 : ∀ (k x : Nat), x < 256 ^ k → okB k x → (x / 16 + x) &&& rep8 15 k = byF b3 k x
  | 0, x, h, _ => by simp at h; subst h; rfl
  | k + 1, x, h, ho => by
    have hy : x / 256 < 256 ^ k := by rw [Nat.pow_succ] at h; exact Nat.div_lt_of_lt_mul (by omega)
    have ih := swar3 k (x / 256) hy ho.2
    have hk0 : k = 0 → x / 256 = 0 := fun e => by subst e; simp at hy; omega
    have ho2 : x / 256 % 16 ≤ 4 := by
      cases k with
      | zero => rw [hk0 rfl]; decide
      | succ k => exact ho.2.1.2
    have ho1 := ho.1.1
    have hx : x = 256 * (x / 256) + x % 256 := (Nat.div_add_mod x 256).symm
    have hd := Nat.mod_lt x (show 0 < 256 by decide)
    generalize x / 256 = y at *
    generalize x % 256 = d at *
    subst hx
    have e1 : (256 * y + d) / 16 + (256 * y + d) = 256 * (y / 16 + y) + (16 * (y % 16) + d / 16 + d) := by omega
    rw [e1]
    simp only [rep8]
    rw [and_cat8 _ _ _ _ (by omega) (by decide), low15 _ (by omega)]
    show _ = 256 * byF b3 k ((256 * y + d) / 256) + b3 ((256 * y + d) % 256)
    rw [show (256 * y + d) / 256 = y by omega, show (256 * y + d) % 256 = d by omega, ← ih]
    unfold b3
    rw [low15 _ (by omega)]
    omega
theorem byF_ok : ∀ (k x : Nat), okB k (byF (fun d => b2 (b1 d)) k x)
  | 0, _ => trivial
  | k + 1, x => by
    have hb := b12_lt (x % 256) (Nat.mod_lt _ (by decide))
    have ih := byF_ok k (x / 256)
    generalize hf : (fun d => b2 (b1 d)) = f at *
    have hfx : f (x % 256) = b2 (b1 (x % 256)) := by rw [← hf]
    have e1 : byF f (k + 1) x / 256 = byF f k (x / 256) := by simp only [byF]; omega
    refine ⟨by simp only [byF]; omega, ?_⟩
    rw [e1]; exact ih
theorem byF_lt (f : Nat → Nat) (hf : ∀ d, d < 256 → f d < 256) : ∀ (k x : Nat), byF f k x < 256 ^ k
  | 0, _ => by simp [byF]
  | k + 1, x => by
    have ih := byF_lt f hf k (x / 256)
    have := hf (x % 256) (Nat.mod_lt _ (by decide))
    simp only [byF, Nat.pow_succ]; omega
theorem popN_add (i j a : Nat) : popN (i + j) a = popN i a + popN j (a / 2 ^ i) := by
  induction j with
  | zero => rfl
  | succ j ih =>
    show popN (i + j) a + toN (a.testBit (i + j)) = popN i a + (popN j (a / 2 ^ i) + toN ((a / 2 ^ i).testBit j))
    rw [ih, Nat.testBit_div_two_pow, Nat.add_assoc, Nat.add_comm j i]
theorem popN_mod (i a : Nat) : popN i (a % 2 ^ i) = popN i a := by
  have key : ∀ j, j ≤ i → popN j (a % 2 ^ i) = popN j a := by
    intro j
    induction j with
    | zero => intro _; rfl
    | succ j ih =>
      intro h
      simp only [popN]
      rw [ih (by omega), Nat.testBit_mod_two_pow]
      simp [show j < i by omega]
  exact key i (Nat.le_refl _)
def sumB : Nat → Nat → Nat
  | 0, _ => 0
  | k + 1, x => popN 8 (x % 256) + sumB k (x / 256)
theorem sumB_pop : ∀ (k x : Nat), sumB k x = popN (8 * k) x
  | 0, _ => rfl
  | k + 1, x => by
    rw [show 8 * (k + 1) = 8 + 8 * k by omega, popN_add]
    simp only [sumB]
    rw [sumB_pop k, ← popN_mod 8 x]
theorem pop8_le (d : Nat) : popN 8 d ≤ 8 := popN_le 8 d
theorem div256 (s m : Nat) (h : s < 256) : (s + 256 * m) / 256 = m := by omega
/-- the sum of the bytes is gathered in the lowest one -/
theorem gather {c0 c1 c2 c3 c4 c5 c6 c7 k1 k2 k3 k4 k5 k6 k7 : Nat} (h0 : c0 ≤ 8) (h1 : c1 ≤ 8) (h2 : c2 ≤ 8) (h3 : c3 ≤ 8) (h4 : c4 ≤ 8) (h5 : c5 ≤ 8) (h6 : c6 ≤ 8) (h7 : c7 ≤ 8) {v v1 v2 : Nat}
    (e7 : k7 = c7) (e6 : k6 = c6 + 256 * k7) (e5 : k5 = c5 + 256 * k6) (e4 : k4 = c4 + 256 * k5) (e3 : k3 = c3 + 256 * k4) (e2 : k2 = c2 + 256 * k3) (e1 : k1 = c1 + 256 * k2) (hv : v = c0 + 256 * k1) (hv1 : v1 = v + v / 256) (hv2 : v2 = v1 + v1 / 65536) :
    (v2 + v2 / 4294967296) % 128 = c0 + c1 + c2 + c3 + c4 + c5 + c6 + c7 ∧ v2 + v2 / 4294967296 < 9223372036854775808 ∧ v < 1229782938247303442 := by
  have dv : v / 256 = k1 := by rw [hv]; exact div256 _ _ (by omega)
  have w1 : v1 = (c0 + c1) + 256 * ((c1 + c2) + 256 * (k2 + k3)) := by rw [hv1, dv, hv]; clear hv2 hv1 dv; omega
  have d1 : v1 / 65536 = k2 + k3 := by
    rw [show (65536 : Nat) = 256 * 256 from rfl, ← Nat.div_div_eq_div_mul, w1, div256 _ _ (by omega), div256 _ _ (by omega)]
  have w2 : v2 = (c0 + c1 + c2 + c3) + 256 * ((c1 + c2 + c3 + c4) + 256 * ((c2 + c3 + c4 + c5) + 256 * ((c3 + c4 + c5 + c6) + 256 * (k4 + k5 + k6 + k7)))) := by
    rw [hv2, d1, w1]; clear hv2 hv1 dv d1 w1 hv; omega
  have d2 : v2 / 4294967296 = k4 + k5 + k6 + k7 := by
    rw [show (4294967296 : Nat) = 256 * 256 * 256 * 256 from rfl, ← Nat.div_div_eq_div_mul, ← Nat.div_div_eq_div_mul, ← Nat.div_div_eq_div_mul, w2, div256 _ _ (by omega), div256 _ _ (by omega), div256 _ _ (by omega), div256 _ _ (by omega)]
  rw [d2]
  clear d2 d1 dv hv1 hv2 w1
  refine ⟨?_, ?_, ?_⟩
  · have : v2 + (k4 + k5 + k6 + k7) = (c0 + c1 + c2 + c3 + c4 + c5 + c6 + c7) + 128 * (2 * (((c1 + c2 + c3 + c4) + 256 * ((c2 + c3 + c4 + c5) + 256 * ((c3 + c4 + c5 + c6) + 256 * (k4 + k5 + k6 + k7)))) + (k5 + k6 + k7))) := by
      rw [w2]; clear w2 hv e1 e2 e3; omega
    rw [this, Nat.add_mul_mod_self_left, Nat.mod_eq_of_lt (by omega)]
  · rw [w2]; clear w2 hv; omega
  · clear w2; omega
/-- the last number that bits.OnesCount64 makes -/
theorem ones64 {x y1 y2 y3 v1 v2 : Nat} (hx : x < 18446744073709551616) (h1 : y1 = (x / 2 &&& 6148914691236517205) + (x &&& 6148914691236517205)) (h2 : y2 = (y1 / 4 &&& 3689348814741910323) + (y1 &&& 3689348814741910323))
    (h3 : y3 = (y2 / 16 + y2) &&& 1085102592571150095) (h4 : v1 = y3 + y3 / 256) (h5 : v2 = v1 + v1 / 65536) :
    y1 < 18446744073709551616 ∧ y2 < 18446744073709551616 ∧ y2 / 16 + y2 < 18446744073709551616 ∧ y3 < 1229782938247303442 ∧ (v2 + v2 / 4294967296) % 128 = popN 64 x ∧ v2 + v2 / 4294967296 < 9223372036854775808 := by
  have m1 : rep8 85 8 = 6148914691236517205 := by decide
  have m2 : rep8 51 8 = 3689348814741910323 := by decide
  have m3 : rep8 15 8 = 1085102592571150095 := by decide
  have p8 : 256 ^ 8 = 18446744073709551616 := by decide
  have g1 : y1 = byF b1 8 x := by rw [h1, ← m1]; exact swar1 8 x (by omega)
  have l1 : y1 < 256 ^ 8 := by rw [g1]; exact byF_lt b1 b1_lt 8 x
  have g2 : y2 = byF (fun d => b2 (b1 d)) 8 x := by rw [h2, ← m2, swar2 8 y1 l1, g1]; exact byF_comp b1 b2 b1_lt 8 x
  have lf : ∀ d, d < 256 → (fun d => b2 (b1 d)) d < 256 := fun d hd => by have := (b12_lt d hd).1; show b2 (b1 d) < 256; omega
  have l2 : y2 < 256 ^ 8 := by rw [g2]; exact byF_lt _ lf 8 x
  have o2 : okB 8 y2 := by rw [g2]; exact byF_ok 8 x
  have g3 : y3 = byF (fun d => b3 (b2 (b1 d))) 8 x := by rw [h3, ← m3, swar3 8 y2 l2 o2, g2]; exact byF_comp (fun d => b2 (b1 d)) b3 lf 8 x
  have top : y2 / 72057594037927936 ≤ 68 := by
    have o3 : y2 / 256 / 256 / 256 / 256 / 256 / 256 / 256 % 256 ≤ 68 := o2.2.2.2.2.2.2.2.1.1
    omega
  have hs : popN 64 x = popN 8 (x % 256) + (popN 8 (x / 256 % 256) + (popN 8 (x / 256 / 256 % 256) + (popN 8 (x / 256 / 256 / 256 % 256) + (popN 8 (x / 256 / 256 / 256 / 256 % 256) + (popN 8 (x / 256 / 256 / 256 / 256 / 256 % 256) + (popN 8 (x / 256 / 256 / 256 / 256 / 256 / 256 % 256) + (popN 8 (x / 256 / 256 / 256 / 256 / 256 / 256 / 256 % 256) + 0))))))) := (sumB_pop 8 x).symm
  have q : ∀ z, b3 (b2 (b1 (z % 256))) = popN 8 (z % 256) := fun z => b123 _ (Nat.mod_lt _ (by decide))
  have hy : y3 = 256 * (256 * (256 * (256 * (256 * (256 * (256 * (256 * 0 + popN 8 (x / 256 / 256 / 256 / 256 / 256 / 256 / 256 % 256)) + popN 8 (x / 256 / 256 / 256 / 256 / 256 / 256 % 256)) + popN 8 (x / 256 / 256 / 256 / 256 / 256 % 256)) + popN 8 (x / 256 / 256 / 256 / 256 % 256)) + popN 8 (x / 256 / 256 / 256 % 256)) + popN 8 (x / 256 / 256 % 256)) + popN 8 (x / 256 % 256)) + popN 8 (x % 256) := by
    rw [g3]; simp only [byF, q]
  have c0 := pop8_le (x % 256); have c1 := pop8_le (x / 256 % 256); have c2 := pop8_le (x / 256 / 256 % 256); have c3 := pop8_le (x / 256 / 256 / 256 % 256)
  have c4 := pop8_le (x / 256 / 256 / 256 / 256 % 256); have c5 := pop8_le (x / 256 / 256 / 256 / 256 / 256 % 256); have c6 := pop8_le (x / 256 / 256 / 256 / 256 / 256 / 256 % 256); have c7 := pop8_le (x / 256 / 256 / 256 / 256 / 256 / 256 / 256 % 256)
  clear g1 g2 g3 o2 lf q h1 h2 h3 m1 m2 m3
  generalize popN 8 (x % 256) = d0 at *
  generalize popN 8 (x / 256 % 256) = d1 at *
  generalize popN 8 (x / 256 / 256 % 256) = d2 at *
  generalize popN 8 (x / 256 / 256 / 256 % 256) = d3 at *
  generalize popN 8 (x / 256 / 256 / 256 / 256 % 256) = d4 at *
  generalize popN 8 (x / 256 / 256 / 256 / 256 / 256 % 256) = d5 at *
  generalize popN 8 (x / 256 / 256 / 256 / 256 / 256 / 256 % 256) = d6 at *
  generalize popN 8 (x / 256 / 256 / 256 / 256 / 256 / 256 / 256 % 256) = d7 at *
  obtain ⟨k1, k2, k3⟩ := gather c0 c1 c2 c3 c4 c5 c6 c7 (v := y3) (k7 := d7) (k6 := d6 + 256 * d7) (k5 := d5 + 256 * (d6 + 256 * d7)) (k4 := d4 + 256 * (d5 + 256 * (d6 + 256 * d7))) (k3 := d3 + 256 * (d4 + 256 * (d5 + 256 * (d6 + 256 * d7)))) (k2 := d2 + 256 * (d3 + 256 * (d4 + 256 * (d5 + 256 * (d6 + 256 * d7))))) (k1 := d1 + 256 * (d2 + 256 * (d3 + 256 * (d4 + 256 * (d5 + 256 * (d6 + 256 * d7)))))) rfl rfl rfl rfl rfl rfl rfl (by rw [hy]; clear hy; omega) h4 h5
  refine ⟨by clear hy; omega, by clear hy; omega, ?_, k3, ?_, k2⟩
  · clear hy hs k1 k2 k3 c0 c1 c2 c3 c4 c5 c6 c7 h4 h5
    rw [p8] at l2; omega
  · rw [k1, hs]; clear hy hs k1 k2 k3; omega
end Go.Hl
