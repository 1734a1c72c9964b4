/-
  What the statement's proof leans on, several texts in one (packed by a program).
-/
import Derived.Test.YtpahnbgfmhcndaaGreatDoorBMK
import Derived.Lib.TrailingZeros
set_option linter.all false
set_option maxRecDepth 1000000
set_option maxHeartbeats 4000000
section
namespace Go.Hl
open Go.Lib
abbrev uV (a : Nat) : VP := intV .u64 (a : Int)
def sgnN (n A : Nat) : Int := if A < 2 ^ (n - 1) then (A : Int) else (A : Int) - 2 ^ n
def lessF (n : Nat) (signed : Prop) [Decidable signed] (A B : Nat) : Prop := if signed then sgnN n A < sgnN n B else A < B
instance {n : Nat} {s : Prop} [Decidable s] {A B : Nat} : Decidable (lessF n s A B) := by unfold lessF; infer_instance
def blN (a : Nat) : Nat := if a = 0 then 0 else Nat.log2 a + 1
variable {a : Nat}
theorem bl_le {n : Nat} (h : a < 2 ^ n) : blN a ≤ n := by
 unfold blN; split
 · omega
 · exact (Nat.log2_lt (by assumption)).2 h
theorem bl_iff {n : Nat} (h0 : 2 ^ n ≤ a) (h1 : a < 2 ^ (n + 1)) : blN a = n + 1 := by
 have ha : a ≠ 0 := by have := Nat.two_pow_pos n; omega
 unfold blN; rw [if_neg ha]
 have h2 := (Nat.log2_lt ha).2 h1
 have h3 := (Nat.le_log2 ha).2 h0
 omega
theorem bl_div {k : Nat} (h : 2 ^ k ≤ a) : blN a = blN (a / 2 ^ k) + k := by
 have hp := Nat.two_pow_pos k
 have hd : 0 < a / 2 ^ k := Nat.div_pos h hp
 have hne : a / 2 ^ k ≠ 0 := by omega
 have h1 : blN (a / 2 ^ k) = Nat.log2 (a / 2 ^ k) + 1 := by unfold blN; rw [if_neg hne]
 have h2 : 2 ^ Nat.log2 (a / 2 ^ k) ≤ a / 2 ^ k := Nat.log2_self_le hne
 have h3 : a / 2 ^ k < 2 ^ (Nat.log2 (a / 2 ^ k) + 1) := Nat.lt_log2_self
 have h4 : 2 ^ (Nat.log2 (a / 2 ^ k) + k) ≤ a := by
  rw [Nat.pow_add]
  exact Nat.le_trans (Nat.mul_le_mul_right _ h2) (Nat.div_mul_le_self _ _)
 have h5 : a < 2 ^ (Nat.log2 (a / 2 ^ k) + k + 1) := by
  have : a < 2 ^ (Nat.log2 (a / 2 ^ k) + 1) * 2 ^ k := by
   rw [← Nat.div_lt_iff_lt_mul hp]; exact h3
  rw [← Nat.pow_add] at this
  rwa [show Nat.log2 (a / 2 ^ k) + k + 1 = Nat.log2 (a / 2 ^ k) + 1 + k by omega]
 rw [bl_iff h4 h5, h1]; omega
end Go.Hl
end
section
namespace Go.Hl
open Go.RowKit
theorem wrp8 (n : Int) (h0 : 0 ≤ n) (h1 : n < 2 ^ 8) : IntKind.u8.wrap n = n := wrap_fits (fits_u8 h0 (by omega))
section
variable {P : Program} {hs : List HP} {env : Env} {q : VP} {dst : Option Tmp} {ty T T2 T' E : TypeId} {pos : String} {after : Array Edge} {gd : Option (Nat × Bool)} {x y z : Operand}
theorem opAnd_u8 {a b : Nat} (ha : a < 256) (hb : b < 256) (hx : Opd env x (intV .u8 (a : Int))) (hy : Opd env y (intV .u8 (b : Int))) : OpP P hs env ⟨dst, .binOp .and T x y T', ty, pos, after, gd⟩ (intV .u8 ((a &&& b : Nat) : Int)) :=
 OpP.of_read fun ρ w S F _ he => by
  have h1 := he.o _ _ hx; have h2 := he.o _ _ hy; simp only [exactV] at h1 h2
  exact ⟨.int .u8 ((a &&& b : Nat) : Int), by simp [execOp, h1, h2, go_sem, (bits_nat .u8 8 (by decide) wrp8 a b (by omega) (by omega)).1], rfl⟩
theorem opOr_u8 {a b : Nat} (ha : a < 256) (hb : b < 256) (hx : Opd env x (intV .u8 (a : Int))) (hy : Opd env y (intV .u8 (b : Int))) : OpP P hs env ⟨dst, .binOp .or T x y T', ty, pos, after, gd⟩ (intV .u8 ((a ||| b : Nat) : Int)) :=
 OpP.of_read fun ρ w S F _ he => by
  have h1 := he.o _ _ hx; have h2 := he.o _ _ hy; simp only [exactV] at h1 h2
  exact ⟨.int .u8 ((a ||| b : Nat) : Int), by simp [execOp, h1, h2, go_sem, (bits_nat .u8 8 (by decide) wrp8 a b (by omega) (by omega)).2], rfl⟩
theorem bits_turn {n : Int} (h1 : -9223372036854775808 ≤ n) (h2 : n ≤ 9223372036854775807) : bits .xor .i64 (-1) n = -n - 1 := by
 have e : BitVec.ofInt 64 (-1) ^^^ BitVec.ofInt 64 n = ~~~ (BitVec.ofInt 64 n) := by rw [show BitVec.ofInt 64 (-1) = BitVec.allOnes 64 from by decide, BitVec.allOnes_xor]
 show IntKind.i64.wrap ((BitVec.ofInt 64 (-1) ^^^ BitVec.ofInt 64 n).toNat : Int) = -n - 1
 rw [e, BitVec.toNat_not, BitVec.toNat_ofInt]
 unfold IntKind.wrap
 simp only [IntKind.signed, IntKind.bits]
 simp
 omega
theorem opNot_i64 {n : Int} (h1 : -9223372036854775808 ≤ n) (h2 : n ≤ 9223372036854775807) (hx : Opd env x (intV .i64 n)) : OpP P hs env ⟨dst, .unOp .xor T x, ty, pos, after, gd⟩ (intV .i64 (-n - 1)) :=
 OpP.of_read fun ρ w S F _ he => by
  have h3 := he.o _ _ hx; simp only [exactV] at h3
  exact ⟨.int .i64 (-n - 1), by simp [execOp, h3, go_sem, bits_turn h1 h2, show IntKind.i64.signed = true from rfl], rfl⟩
end
theorem u8_wr (n : Int) : IntKind.u8.wrap n = ((n % 256).toNat : Int) := by
 unfold IntKind.wrap
 simp [IntKind.signed, IntKind.bits]
 omega
theorem an127 (k : Nat) : k &&& 127 < 256 := Nat.lt_of_le_of_lt Nat.and_le_right (by decide)
theorem or_128 {k : Nat} (h : k < 256) : k ||| 128 < 256 := Nat.or_lt_two_pow (n := 8) h (by decide)
theorem u8_nt {k : Nat} (h : k < 256) : VLe (intV .u8 (k : Int)) (intV .u8 ((UInt8.ofNat k).toNat : Int)) := VLe.int (by simp; omega)
theorem bl_bits (a : Nat) : blN a = btL a := rfl
theorem lenS_at (n : Int) : lenS n = (blN (if n < 0 then (-n - 1).toNat else n.toNat) + 7) / 7 := lenS_bits n.natAbs n (Nat.le_refl _)
theorem bl_64 {a : Nat} (h : a < 18446744073709551616) : blN a ≤ 64 := by rw [bl_bits]; exact btL_lt (k := 64) h
def formI (x : InstrD) : Int := (findI x.Code).elim (-1) (·.Form)
theorem formI_none {x : InstrD} (h : findI x.Code = none) : formI x = -1 ∧ nameR x.Code = [] := by unfold formI; rw [h]; exact ⟨rfl, find_none_of h⟩
theorem formI_some {x : InstrD} {i : InfoD} (h : findI x.Code = some i) : formI x = formR x.Code ∧ nameR x.Code ≠ [] := by
 unfold formI; rw [h]; have := find_some_of h; exact ⟨this.2.2.2.1, this.2.2.1⟩
theorem form_bound (c : Int) : 0 ≤ formR c ∧ formR c ≤ 11 := by unfold formR; repeat (first | split | omega)
theorem form_11 {c : Int} (h : formR c = 11) : c = 65 ∨ c = 66 := by
 unfold formR at h
 repeat' split at h
 all_goals omega
theorem right_at {x : InstrD} (hA : 0 ≤ x.A) (hB : 0 ≤ x.B) : rightI x ↔ rightF x (formI x) := by
 rw [rightI_form hA hB (form_bound _) (fun h => form_11 h) (fun h => by rw [h]; decide)]
 cases hf : findI x.Code with
 | none =>
  obtain ⟨h1, h2⟩ := formI_none hf
  rw [h1, h2]
  constructor
  · rintro ⟨h, _⟩; exact absurd rfl h
  · intro h; unfold rightF at h; omega
 | some i =>
  obtain ⟨h1, h2⟩ := formI_some hf
  rw [h1]
  exact ⟨fun h => h.2, fun h => ⟨h2, h⟩⟩
theorem right_form {x : InstrD} (hA : 0 ≤ x.A) (hB : 0 ≤ x.B) (h : rightI x) : formI x = formR x.Code ∧ nameR x.Code ≠ [] := by
 cases hf : findI x.Code with
 | none => exact absurd (formI_none hf).2 h.1
 | some i => exact formI_some hf
theorem code_in {c : Int} (h : nameR c ≠ []) : 0 ≤ c ∧ c ≤ 196 ∨ 64522 ≤ c ∧ c ≤ 64523 := by
 by_cases h2 : c < 0 ∨ 196 < c ∧ c < 64522 ∨ 64523 < c
 · exact absurd (find_none_of (find_out h2)) h
 · omega
end Go.Hl
namespace Go.Hl
def sumU (l : List Int) : Nat := (l.map lenUI).sum
theorem sumU_snoc (l : List Int) (n : Int) : sumU (l ++ [n]) = sumU l + lenUI n := by simp [sumU]
theorem sumU_le : ∀ (l : List Int), (∀ n ∈ l, 0 ≤ n ∧ n < 18446744073709551616) → sumU l ≤ 10 * l.length
 | [], _ => by simp [sumU]
 | n :: l, h => by
  have h1 := sumU_le l (fun m hm => h m (List.mem_cons_of_mem _ hm))
  have h2 := h n (List.mem_cons_self ..)
  have h3 : lenUI n ≤ 10 := lenU_64 (by omega)
  simp only [sumU, List.map_cons, List.sum_cons, List.length_cons] at h1 ⊢
  omega
def headN (x : InstrD) : Nat := if 64512 ≤ x.Code then 1 + lenUI (x.Code - 64512) else 1
def wordV (x : InstrD) : Int := if x.Code = 65 then (if x.A < 2147483648 then x.A else x.A - 4294967296) else (if x.A < 9223372036854775808 then x.A else x.A - 18446744073709551616)
def memN (x : InstrD) : Nat := (if x.A = 0 then lenUI x.Align else lenUI (x.Align + 64) + lenUI x.A) + lenUI x.B
theorem lenI_eq (x : InstrD) : lenI x = headN x + (if formR x.Code = 1 then 1
   else if formR x.Code = 2 ∨ formR x.Code = 4 ∨ formR x.Code = 6 ∨ formR x.Code = 7 ∨ formR x.Code = 9 then lenUI x.A
   else if formR x.Code = 3 then lenU x.L.length + sumU x.L + lenUI x.A
   else if formR x.Code = 5 ∨ formR x.Code = 10 then lenUI x.A + lenUI x.B
   else if formR x.Code = 8 then memN x
   else if formR x.Code = 11 then lenS (wordV x) else 0) := rfl
theorem wrap_64 {a : Int} (h0 : 0 ≤ a) (h1 : a < 18446744073709551616) : IntKind.i64.wrap a = if a < 9223372036854775808 then a else a - 18446744073709551616 := by
 by_cases h : a < 9223372036854775808
 · rw [if_pos h]; unfold IntKind.wrap; simp only [IntKind.signed, IntKind.bits]; simp; omega
 · rw [if_neg h]; unfold IntKind.wrap; simp only [IntKind.signed, IntKind.bits]; simp; omega
theorem wrap_32 {a : Int} (h0 : 0 ≤ a) (h1 : a ≤ 4294967295) : IntKind.i32.wrap a = if a < 2147483648 then a else a - 4294967296 := by
 by_cases h : a < 2147483648
 · rw [if_pos h]; unfold IntKind.wrap; simp only [IntKind.signed, IntKind.bits]; simp; omega
 · rw [if_neg h]; unfold IntKind.wrap; simp only [IntKind.signed, IntKind.bits]; simp; omega
end Go.Hl
end
section
namespace Go.Hl
open Go.RowKit
abbrev SpD := Int × Int × Int
def encSpan3 (s : SpD) : List VP := [intV .i64 s.1, intV .i64 s.2.1, intV .i64 s.2.2]
instance : Enc 3 encSpan3 := ⟨fun _ => rfl, fun x q h => by simp only [encSpan3, List.mem_cons, List.not_mem_nil, or_false] at h; rcases h with h | h | h <;> rw [h] <;> infer_instance⟩
instance (x : SpD) : FlatL (encSpan3 x) := FlatL.of x
def encNt (n : Nat) : List VP := [intV .i64 (n : Int)]
instance : Enc 1 encNt := ⟨fun _ => rfl, fun x q h => by simp only [encNt, List.mem_cons, List.not_mem_nil, or_false] at h; rw [h]; infer_instance⟩
instance (x : Nat) : FlatL (encNt x) := FlatL.of x
def encRun (r : Nat × UInt8) : List VP := [intV .i64 (r.1 : Int), intV .u8 (r.2.toNat : Int)]
instance : Enc 2 encRun := ⟨fun _ => rfl, fun x q h => by simp only [encRun, List.mem_cons, List.not_mem_nil, or_false] at h; rcases h with h | h <;> rw [h] <;> infer_instance⟩
instance (x : Nat × UInt8) : FlatL (encRun x) := FlatL.of x
structure NsT where
 gp : SB
 go : SB
 sp : List SpD
 op : List Nat
 cl : Prop
 dp : Int
abbrev nsH (nb : Nat) (l : List InstrD) (z : NsT) : List HP := [cellsH nb [sliceV 5 encInstr l, exactV (sval z.gp z.sp.length), exactV (sval z.go z.op.length), propV z.cl, intV .i64 z.dp], sliceH z.gp 3 encSpan3 z.sp, sliceH z.go 1 encNt z.op]
def relS (l : List InstrD) (sp : List SpD) (p : Nat) (ce : Int × Bool) : Prop := ∃ (i : Nat) (el en : Int) (x : InstrD), sp[p]? = some ((i : Int), el, en) ∧ l[i]? = some x ∧ x.Code = ce.1 ∧ (ce.2 = true ↔ el ≠ -1)
structure NestR (l : List InstrD) (sp : List SpD) (op : List Nat) (rs : List (Int × Bool)) : Prop where
 len : op.length = rs.length
 inc : op.Pairwise (· < ·)
 rel : ∀ (k p : Nat) (ce : Int × Bool), op[k]? = some p → rs[k]? = some ce → relS l sp p ce
theorem NestR.nil (l : List InstrD) (sp : List SpD) : NestR l sp [] [] := ⟨rfl, List.Pairwise.nil, fun k p ce h => by simp at h⟩
variable {rs : List (Int × Bool)} {l : List InstrD} {sp : List SpD} {p : Nat}
theorem NestR.at_ {op : List Nat} (h : NestR l sp op rs) (hp : p ∈ op) : ∃ ce, relS l sp p ce := by
 obtain ⟨k, hk⟩ := List.mem_iff_getElem?.1 hp
 have hl : k < rs.length := by have := (List.getElem?_eq_some_iff.1 hk).1; rw [h.len] at this; exact this
 exact ⟨_, h.rel k p _ hk (List.getElem?_eq_getElem hl)⟩
variable {ce : Int × Bool}
theorem relS.lt (h : relS l sp p ce) : p < sp.length := by
 obtain ⟨_, _, _, _, h1, _⟩ := h; exact (List.getElem?_eq_some_iff.1 h1).1
theorem NestR.begin {op : List Nat} (h : NestR l sp op rs) {i : Nat} {x : InstrD} (hx : l[i]? = some x) : NestR l (sp ++ [((i : Int), -1, -1)]) (op ++ [sp.length]) (rs ++ [(x.Code, false)]) := by
 refine ⟨by simp [h.len], ?_, fun k p ce hk hr => ?_⟩
 · rw [List.pairwise_append]
   refine ⟨h.inc, List.pairwise_singleton _ _, fun a ha b hb => ?_⟩
   simp only [List.mem_singleton] at hb; subst hb
   obtain ⟨ce, hce⟩ := h.at_ ha
   exact hce.lt
 · by_cases hkl : k < op.length
   · rw [List.getElem?_append_left hkl] at hk
     rw [List.getElem?_append_left (by rw [← h.len]; exact hkl)] at hr
     obtain ⟨j, el, en, y, h1, h2, h3, h4⟩ := h.rel k p ce hk hr
     exact ⟨j, el, en, y, by rw [List.getElem?_append_left (List.getElem?_eq_some_iff.1 h1).1]; exact h1, h2, h3, h4⟩
   · rw [List.getElem?_append_right (by omega)] at hk
     rw [List.getElem?_append_right (by rw [← h.len]; omega)] at hr
     have hk0 : k - op.length = 0 := by
      have := (List.getElem?_eq_some_iff.1 hk).1; simp at this; omega
     rw [hk0] at hk
     rw [← h.len, hk0] at hr
     simp at hk hr
     subst hk; subst hr
     exact ⟨i, -1, -1, x, by simp, hx, rfl, by simp⟩
theorem snoc_at {α : Type} {o : List α} {p : α} : (o ++ [p])[o.length]? = some p := by simp
variable {o : List Nat}
theorem NestR.top (h : NestR l sp (o ++ [p]) (rs ++ [ce])) : relS l sp p ce := by
 have hl : o.length = rs.length := by have := h.len; simp at this; exact this
 exact h.rel o.length p ce snoc_at (by rw [hl]; exact snoc_at)
theorem NestR.not_in (h : NestR l sp (o ++ [p]) rs) : p ∉ o := fun hp => by
 have := (List.pairwise_append.1 h.inc).2.2 p hp p (by simp)
 omega
theorem relS.set {l : List InstrD} {sp : List SpD} {p q : Nat} {s : SpD} {ce : Int × Bool} (h : relS l sp q ce) (hne : q ≠ p) : relS l (sp.set p s) q ce := by
 obtain ⟨j, el, en, y, h1, h2⟩ := h
 exact ⟨j, el, en, y, by rw [List.getElem?_set_ne (by omega)]; exact h1, h2⟩
theorem NestR.pop (h : NestR l sp (o ++ [p]) (rs ++ [ce])) (s : SpD) : NestR l (sp.set p s) o rs := by
 have hl : o.length = rs.length := by have := h.len; simp at this; exact this
 refine ⟨hl, (List.pairwise_append.1 h.inc).1, fun k q c hk hr => ?_⟩
 have hq : q ∈ o := List.mem_of_getElem? hk
 refine (h.rel k q c ?_ ?_).set (fun e => h.not_in (e ▸ hq))
 · rw [List.getElem?_append_left (List.getElem?_eq_some_iff.1 hk).1]; exact hk
 · rw [List.getElem?_append_left (List.getElem?_eq_some_iff.1 hr).1]; exact hr
variable {c : Int}
theorem NestR.other {e : Bool} (h : NestR l sp (o ++ [p]) (rs ++ [(c, e)])) {i : Nat} {el en : Int} {x : InstrD} (hs : sp[p]? = some ((i : Int), el, en)) (hx : l[i]? = some x) (hc : x.Code = c) {j : Nat} :
    NestR l (sp.set p ((i : Int), (j : Int), en)) (o ++ [p]) (rs ++ [(c, true)]) := by
  have hl : o.length = rs.length := by have := h.len; simp at this; exact this
  have hpop := h.pop ((i : Int), (j : Int), en)
  refine ⟨by simp [hl], h.inc, fun k q ce hk hr => ?_⟩
  by_cases hkl : k < o.length
  · rw [List.getElem?_append_left hkl] at hk
    rw [List.getElem?_append_left (by omega)] at hr
    exact hpop.rel k q ce hk hr
  · rw [List.getElem?_append_right (by omega)] at hk
    rw [List.getElem?_append_right (by omega)] at hr
    have hk0 : k - o.length = 0 := by
      have := (List.getElem?_eq_some_iff.1 hk).1; simp at this; omega
    rw [hk0] at hk
    rw [← hl, hk0] at hr
    simp at hk hr
    subst hk; subst hr
    exact ⟨i, j, en, x, by rw [List.getElem?_set_self (List.getElem?_eq_some_iff.1 hs).1], hx, hc, by simp⟩
def nrunC (cl : Prop) (rs : List (Int × Bool)) (r : List Int) : Prop := (cl ∧ r = []) ∨ (¬ cl ∧ nrun r rs.reverse)
variable {r : List Int}
theorem nrunC_open (h : opensC c) (hl : rs.length ≠ 64) (hb : rs.length ≤ 64) : nrunC False rs (c :: r) ↔ nrunC False (rs ++ [(c, false)]) r := by
 simp only [nrunC, false_and, not_false_eq_true, true_and, false_or, List.reverse_append, List.reverse_cons, List.reverse_nil, List.nil_append, List.singleton_append]
 rw [nrun_cons, if_pos h]
 simp only [List.length_reverse]
 exact ⟨fun h => h.2, fun h => ⟨by omega, h⟩⟩
theorem nrunC_deep (h : opensC c) (hl : rs.length = 64) : ¬ nrunC False rs (c :: r) := by
 simp only [nrunC, false_and, not_false_eq_true, true_and, false_or]
 rw [nrun_cons, if_pos h]
 simp only [List.length_reverse]
 omega
theorem nrunC_else_no : ¬ nrunC False [] (5 :: r) := by
 simp only [nrunC, false_and, not_false_eq_true, true_and, false_or, List.reverse_nil]
 rw [nrun_cons]; simp [opensC]
theorem nrunC_else {b : Int} {e : Bool} : nrunC False (rs ++ [(b, e)]) (5 :: r) ↔ (b = 4 ∧ e = false) ∧ nrunC False (rs ++ [(b, true)]) r := by
 simp only [nrunC, false_and, not_false_eq_true, true_and, false_or, List.reverse_append, List.reverse_cons, List.reverse_nil, List.nil_append, List.singleton_append]
 rw [nrun_cons]; simp [opensC]
theorem nrunC_end_last : nrunC False [] (11 :: r) ↔ nrunC True [] r := by
 simp only [nrunC, false_and, not_false_eq_true, true_and, false_or, not_true_eq_false, or_false, List.reverse_nil]
 rw [nrun_cons]; simp [opensC]
theorem nrunC_end : nrunC False (rs ++ [ce]) (11 :: r) ↔ nrunC False rs r := by
 simp only [nrunC, false_and, not_false_eq_true, true_and, false_or, List.reverse_append, List.reverse_cons, List.reverse_nil, List.nil_append, List.singleton_append]
 rw [nrun_cons]; simp [opensC]
theorem nrunC_plain (h1 : ¬ opensC c) (h2 : c ≠ 5) (h3 : c ≠ 11) : nrunC False rs (c :: r) ↔ nrunC False rs r := by
 simp only [nrunC, false_and, not_false_eq_true, true_and, false_or]
 rw [nrun_cons, if_neg h1, if_neg h2, if_neg h3]
theorem nrunC_closed : ¬ nrunC True rs (c :: r) := by simp [nrunC]
theorem nrunC_nil {cl : Prop} : nrunC cl rs [] ↔ cl := by simp [nrunC, nrun]
def nsP (l : List InstrD) (cl : Prop) (rs : List (Int × Bool)) (c : Int) (m : Nat) (e : Int) (z : NsT) : Prop :=
 (e = 0 ∧ z.sp.length ≤ m ∧ z.op.length ≤ 64 ∧ ∃ rs', NestR l z.sp z.op rs' ∧ ∀ r, nrunC cl rs (c :: r) ↔ nrunC z.cl rs' r) ∨ (e ≠ 0 ∧ ∀ r, ¬ nrunC cl rs (c :: r))
theorem nil_two {α β : Type} {n k : Nat} {e1 : α → List VP} {e2 : β → List VP} {r : List HP} : OLe r (sliceH none n e1 [] :: sliceH none k e2 [] :: r) := fun F S w h =>
 ⟨fun _ => False, F, fun _ h => h.elim, fun _ h => h, rfl, fun _ => False, F, fun _ h => h.elim, fun _ h => h, rfl, h⟩
end Go.Hl
end
section
namespace Go.Hl
theorem runStep_nil (t : UInt8) : runStep [] t = [(1, t)] := rfl
theorem runStep_same (m : List (Nat × UInt8)) (n : Nat) (t : UInt8) : runStep (m ++ [(n, t)]) t = m ++ [(n + 1, t)] := by rw [runStep_snoc]; simp [runStep]
variable {t : UInt8}
theorem runStep_other (m : List (Nat × UInt8)) (n : Nat) {t' : UInt8} (h : ¬ t = t') : runStep (m ++ [(n, t)]) t' = (m ++ [(n, t)]) ++ [(1, t')] := by rw [runStep_snoc]; simp [runStep, h]
theorem foldl_take {l : List UInt8} {k : Nat} (h : l[k]? = some t) : (l.take (k + 1)).foldl runStep [] = runStep ((l.take k).foldl runStep []) t := by
 rw [← take_snoc h, List.foldl_append]; rfl
theorem runStep_le {o : List (Nat × UInt8)} {M : Nat} (h : ∀ p ∈ o, p.1 ≤ M) : (∀ p ∈ runStep o t, p.1 ≤ M + 1) ∧ (runStep o t).length ≤ o.length + 1 := by
 rcases List.eq_nil_or_concat o with rfl | ⟨m, ⟨n, t'⟩, rfl⟩
 · simp [runStep_nil]
 · rw [List.concat_eq_append] at h ⊢
   by_cases e : t' = t
   · subst e
     rw [runStep_same]
     refine ⟨fun p hp => ?_, by simp⟩
     rcases List.mem_append.1 hp with hp | hp
     · have := h p (by simp [hp]); omega
     · simp only [List.mem_singleton] at hp; subst hp
       have := h (n, t') (by simp); simp only at this ⊢; omega
   · rw [runStep_other _ _ e]
     refine ⟨fun p hp => ?_, by simp⟩
     rcases List.mem_append.1 hp with hp | hp
     · have := h p hp; omega
     · simp only [List.mem_singleton] at hp; subst hp; simp
theorem runs_le : ∀ (l : List UInt8) (o : List (Nat × UInt8)) (M : Nat), (∀ p ∈ o, p.1 ≤ M) → (∀ p ∈ l.foldl runStep o, p.1 ≤ M + l.length) ∧ (l.foldl runStep o).length ≤ o.length + l.length
 | [], o, M, h => ⟨by simpa using h, by simp⟩
 | t :: l, o, M, h => by
  obtain ⟨h1, h2⟩ := runStep_le (t := t) h
  obtain ⟨h3, h4⟩ := runs_le l _ _ h1
  simp only [List.foldl_cons, List.length_cons]
  exact ⟨fun p hp => by have := h3 p hp; omega, by omega⟩
theorem lenI_le {x : InstrD} (h : InsOk x) (r : rightI x) : lenI x ≤ 1100 := by
 obtain ⟨r1, r2, r3, r4, r5, r6⟩ := r
 have hL : x.L.length ≤ 100 := r6.elim (fun h => by rw [h]; simp) (fun h => h.2)
 have hA : lenUI x.A ≤ 10 := lenU_64 (by have := h.A0; have := h.A64; omega)
 have hB : lenUI x.B ≤ 10 := lenU_64 (by have := h.B0; have := h.B64; omega)
 have hs := sumU_le x.L (fun n hn => ⟨h.L0 n hn, by have h9 : n ≤ 4294967295 := r5 n hn; omega⟩)
 have hl : lenU x.L.length ≤ 10 := lenU_64 (by omega)
 have ha : lenUI x.Align ≤ 10 := lenU_64 (by have := h.a31; omega)
 have ha2 : lenUI (x.Align + 64) ≤ 10 := lenU_64 (by have := h.a31; omega)
 have hm : memN x ≤ 30 := by unfold memN; split <;> omega
 have h65 : x.Code = 65 → x.A ≤ 4294967295 := fun h65 => Classical.byContradiction fun h9 => r2 (.inr (.inl ⟨h65, h9⟩))
 have hw : lenS (wordV x) ≤ 10 := lenS_64 (by have := h.A0; have := h.A64; unfold wordV; (repeat split) <;> (try omega)) (by have := h.A0; have := h.A64; unfold wordV; split <;> (try have := h65 (by assumption)) <;> split <;> omega)
 have hh : headN x ≤ 11 := by
  unfold headN
  split
  · have : lenUI (x.Code - 64512) ≤ 10 := lenU_64 (by have := code_in r1; omega)
    omega
  · omega
 rw [lenI_eq]
 repeat (first | split | omega)
def sumI (l : List InstrD) : Nat := (l.map lenI).sum
theorem sumI_snoc (l : List InstrD) (x : InstrD) : sumI (l ++ [x]) = sumI l + lenI x := by simp [sumI]
theorem sumI_le : ∀ (l : List InstrD), (∀ x ∈ l, InsOk x ∧ rightI x) → sumI l ≤ 1100 * l.length
 | [], _ => by simp [sumI]
 | x :: l, h => by
  have h1 := sumI_le l (fun y hy => h y (List.mem_cons_of_mem _ hy))
  have h2 := h x (List.mem_cons_self ..)
  have h3 := lenI_le h2.1 h2.2
  simp only [sumI, List.map_cons, List.sum_cons, List.length_cons] at h1 ⊢
  omega
def sumR (r : List (Nat × UInt8)) : Nat := (r.map fun p => lenU p.1 + 1).sum
theorem sumR_snoc (r : List (Nat × UInt8)) (p : Nat × UInt8) : sumR (r ++ [p]) = sumR r + (lenU p.1 + 1) := by simp [sumR]
theorem sumR_le : ∀ (r : List (Nat × UInt8)), (∀ p ∈ r, p.1 ≤ 1000000) → sumR r ≤ 11 * r.length
 | [], _ => by simp [sumR]
 | p :: r, h => by
  have h1 := sumR_le r (fun q hq => h q (List.mem_cons_of_mem _ hq))
  have h2 := h p (List.mem_cons_self ..)
  have h3 : lenU p.1 ≤ 10 := lenU_64 (by omega)
  simp only [sumR, List.map_cons, List.sum_cons, List.length_cons] at h1 ⊢
  omega
theorem lenB_eq (b : BodyD) : lenB b = lenU (b.Locals.foldl runStep []).length + sumR (b.Locals.foldl runStep []) + sumI b.L := by
 unfold lenB sumR sumI
 rw [← runs_eq]
 simp [List.map_map, Function.comp_def]
theorem InsOk.of {x : InstrD} (h : InsOk0 x) (r : rightI x) : InsOk x where
 toInsOk0 := h
 A16 := fun e => by
  have hf : formR x.Code ≠ 11 := by rw [e]; decide
  have h1 := r.2.1
  have h2 : sml x.A := Classical.byContradiction fun h9 => h1 (.inl ⟨hf, h9⟩)
  have := h.A0
  unfold sml at h2; omega
 a0 := by have h1 := r.2.2.2.1; omega
 a31 := by have h1 := r.2.2.2.1; omega
structure BdOk (b : BodyD) : Prop where
 ins : ∀ x ∈ b.L, InsOk0 x
 len : b.L.length ≤ 10000
 loc : b.Locals.length ≤ 60000
end Go.Hl
end
section
namespace Go.Hl
open Go.RowKit
def nestK (rest : List InstrD) (fs : List FrC) : Prop := (fs = [] ∧ rest = []) ∨ ∃ st : List (Int × Bool), st.length + 1 = fs.length ∧ nrun (rest.map (·.Code)) st
theorem nestK_ne {x : InstrD} {r : List InstrD} {fs : List FrC} (h : nestK (x :: r) fs) : ∃ gs b, fs = gs ++ [b] := by
 rcases h with ⟨_, h⟩ | ⟨st, h, _⟩
 · cases h
 · exact snoc_of (fun e => by rw [e] at h; simp at h)
theorem nestK_step {m : ModD} {f : FuncD} {x : InstrD} {r : List InstrD} {fs fs' : List FrC} {b : FrC} (h : nestK (x :: r) (fs ++ [b])) (hs : stepX m f x fs b = some fs') : nestK r fs' := by
 rcases h with ⟨h, _⟩ | ⟨st, hl, hn⟩
 · simp at h
 simp only [List.length_append, List.length_cons, List.length_nil] at hl
 rw [List.map_cons, nrun_cons] at hn
 by_cases h11 : x.Code = 11
 · rw [if_neg (by rw [h11]; decide), if_neg (by omega), if_pos h11] at hn
   unfold stepX stepF at hs
   rw [if_pos h11] at hs
   split at hs
   · simp only [Option.some.injEq] at hs
     subst hs
     cases st with
     | nil =>
      simp only at hn
      have : fs = [] := List.eq_nil_of_length_eq_zero (by simp only [List.length_nil] at hl; omega)
      subst this
      exact .inl ⟨rfl, by simpa using hn⟩
     | cons p t =>
      simp only at hn
      rcases List.eq_nil_or_concat fs with rfl | ⟨gs, y, rfl⟩
      · simp at hl
      · refine .inr ⟨t, ?_, hn⟩
        simp only [List.concat_eq_append, List.getLast?_append, List.getLast?_singleton, Option.some_or, List.dropLast_concat, List.length_append, List.length_cons, List.length_nil] at hl ⊢
        omega
   · cases hs
 by_cases h5 : x.Code = 5
 · rw [if_neg (by rw [h5]; decide), if_pos h5] at hn
   unfold stepX stepF at hs
   rw [if_neg h11, if_pos h5] at hs
   split at hs
   · simp only [Option.some.injEq] at hs
     subst hs
     cases st with
     | nil => exact hn.elim
     | cons p t =>
      obtain ⟨pb, pe⟩ := p
      simp only at hn
      exact .inr ⟨(pb, true) :: t, by simpa using hl, hn.2⟩
   · cases hs
 by_cases ho : opensC x.Code
 · rw [if_pos ho] at hn
   unfold stepX stepF at hs
   rw [if_neg h11, if_neg h5, if_pos ho] at hs
   obtain ⟨s, _, rfl⟩ := Option.map_eq_some_iff.1 hs
   exact .inr ⟨(x.Code, false) :: st, by simp; omega, hn.2⟩
 · rw [if_neg ho, if_neg h5, if_neg h11] at hn
   rw [stepX_pl h11 h5 ho] at hs
   obtain ⟨s, _, rfl⟩ := Option.map_eq_some_iff.1 hs
   exact .inr ⟨st, by simp; omega, hn⟩
theorem envD_funcs {m : ModD} {f : FuncD} (h : FitsM m) : ∀ g ∈ (envD m f).Funcs, g.R.length ≤ 20 := fun g hg => by
 obtain ⟨k, hk⟩ := List.mem_iff_getElem?.1 hg
 have h9 := sigO_getI (f := f) (n := (k : Int)) h
 have : getI (envD m f).Funcs (k : Int) = some g := by unfold getI; rw [if_pos ⟨by have := (List.getElem?_eq_some_iff.1 hk).1; omega, by omega⟩]; simpa using hk
 rw [this] at h9
 exact (h.few g (sig_mem h9.symm)).2
theorem resI_len (x : InstrD) : (resI x).length ≤ 20 := by unfold resI; split <;> simp
structure RunP (m : ModD) (f : FuncD) (i : Nat) (hts : List Nat) (fs : List FrC) : Prop where
 few : FewF fs
 hgt : hgtF fs ≤ 20 * i
 len : fs.length ≤ 1 + i
 nest : nestK (f.Body.L.drop i) fs
 run : heightsF m f = (crun (·.Code) resI (plS (envD m f)) (f.Body.L.drop i) fs).map (hts ++ ·)
theorem RunP.init {m : ModD} {f : FuncD} (h : FitsM m) (hs : sigAt m f.Sig ∈ m.Sigs) (hn : nrun (f.Body.L.map (·.Code)) []) : RunP m f 0 [] [FrC.mk False False (sigAt m f.Sig).R ([], False)] where
 few := fun k hk => by simp only [List.mem_singleton] at hk; subst hk; exact (h.few _ hs).2
 hgt := by simp [hgtF]
 len := by simp
 nest := .inr ⟨[], by simp, by simpa using hn⟩
 run := by
  show heightsF m f = (crun _ _ _ f.Body.L _).map ([] ++ ·)
  unfold heightsF
  cases crun (fun x : InstrD => x.Code) resI (plS (envD m f)) f.Body.L [FrC.mk False False (sigAt m f.Sig).R ([], False)] <;> rfl
theorem drop_at {α : Type} {l : List α} {i : Nat} {x : α} (h : l[i]? = some x) : l.drop i = x :: l.drop (i + 1) := by
 have hl := (List.getElem?_eq_some_iff.1 h)
 rw [List.drop_eq_getElem_cons hl.1, hl.2]
theorem RunP.next {m : ModD} {f : FuncD} {i : Nat} {hts : List Nat} {fs fs' : List FrC} {b : FrC} {x : InstrD} (h : RunP m f i hts (fs ++ [b])) (hm : FitsM m) (hx : f.Body.L[i]? = some x) (hs : stepX m f x fs b = some fs') : RunP m f (i + 1) (hts ++ [hgtF (fs ++ [b])]) fs' := by
 obtain ⟨g1, g2, g3⟩ := stepF_grow (v := envD m f) (x := x) (rr := resI) (resI_len x) h.few (envD_funcs hm) (fun g hg => (hm.few g hg).2) (by have := (takes_len x.Code).2; omega) hs
 have hd := drop_at hx
 refine ⟨g1, by have := h.hgt; omega, by have := h.len; simp at this; omega, nestK_step (hd ▸ h.nest) hs, ?_⟩
 rw [h.run, hd, crun_cons]
 have hs' : stepF (fun x : InstrD => x.Code) resI (plS (envD m f)) x fs b = some fs' := hs
 rw [hs']
 simp only [Option.bind_some, Option.map_map]
 congr 1
 funext l
 simp
theorem RunP.fails {m : ModD} {f : FuncD} {i : Nat} {hts : List Nat} {fs : List FrC} {b : FrC} {x : InstrD} (h : RunP m f i hts (fs ++ [b])) (hx : f.Body.L[i]? = some x) (hs : stepX m f x fs b = none) : heightsF m f = none := by
 rw [h.run, drop_at hx, crun_cons]
 have hs' : stepF (fun x : InstrD => x.Code) resI (plS (envD m f)) x fs b = none := hs
 rw [hs']; rfl
theorem RunP.done {m : ModD} {f : FuncD} {i : Nat} {hts : List Nat} {fs : List FrC} (h : RunP m f i hts fs) (hi : f.Body.L.length ≤ i) : heightsF m f = some hts := by
 rw [h.run, List.drop_eq_nil_of_le hi]; simp [crun]
structure ModOk (m : ModD) : Prop where
 ins : ∀ f ∈ m.Funcs, ∀ x ∈ f.Body.L, InsOk0 x
 len : ∀ f ∈ m.Funcs, f.Body.L.length ≤ 2000
 loc : ∀ f ∈ m.Funcs, f.Body.Locals.length ≤ 50000
theorem ModOk.bd {m : ModD} (h : ModOk m) {f : FuncD} (hf : f ∈ m.Funcs) : BdOk f.Body := ⟨h.ins f hf, by have := h.len f hf; omega, by have := h.loc f hf; omega⟩
theorem func_sig {m : ModD} (h : FitsM m) {f : FuncD} (hf : f ∈ m.Funcs) : InP f.Sig m.Sigs.length := Classical.not_not.1 ((whenE_eq (by decide)).1 (funcs_each h.funcs f hf))
theorem func_sigO {m : ModD} (h : FitsM m) {f : FuncD} {i : Nat} (hf : m.Funcs[i]? = some f) : sigO m ((m.Imports.length : Int) + (i : Int)) = some (sigAt m f.Sig) := by
 have hl := (List.getElem?_eq_some_iff.1 hf).1
 have h1 := sigO_getI (f := f) (n := (m.Imports.length : Int) + (i : Int)) h
 rw [← h1]
 have hlen : (envD m f).Funcs.length = m.Imports.length + m.Funcs.length := by simp [envD]
 unfold getI
 rw [if_pos (by rw [hlen]; omega)]
 show (m.Imports.map (fun i => sigAt m i.Sig) ++ m.Funcs.map (fun g => sigAt m g.Sig))[_]? = _
 rw [List.getElem?_append_right (by simp; omega), List.getElem?_map, List.length_map]
 rw [show ((m.Imports.length : Int) + (i : Int)).toNat - m.Imports.length = i by omega, hf]; rfl
end Go.Hl
namespace Go.Hl
def encSlT (l : List UInt8) : List VP := [sliceV 1 encU8 l]
instance : Enc 1 encSlT := ⟨fun _ => rfl, fun x q h => by simp only [encSlT, List.mem_cons, List.not_mem_nil, or_false] at h; subst h; infer_instance⟩
end Go.Hl
namespace Go.Hl
def encFnd (x : List UInt8 × Int × Int × Int) : List VP := [strV x.1, intV .i64 x.2.1, intV .i64 x.2.2.1, intV .i64 x.2.2.2]
instance : Enc 4 encFnd := ⟨fun _ => rfl, fun x q h => by simp only [encFnd, List.mem_cons, List.not_mem_nil, or_false] at h; rcases h with h | h | h | h <;> subst h <;> infer_instance⟩
instance (x : List UInt8 × Int × Int × Int) : FlatL (encFnd x) := FlatL.of x
end Go.Hl
end
section
namespace Go.Hl
structure FitLens (m : ModD) : Prop where
 sigs : (m.Sigs.length : Int) ≤ 50
 imports : (m.Imports.length : Int) ≤ 20
 funcs : (m.Imports.length : Int) + (m.Funcs.length : Int) ≤ 100
 mems : (m.Mems.length : Int) ≤ 4
 globals : (m.Globals.length : Int) ≤ 50
 exports : (m.Exports.length : Int) ≤ 50
 elems : (m.Elems.length : Int) ≤ 20
 datas : (m.Datas.length : Int) ≤ 20
 table : -1 ≤ m.Table ∧ m.Table ≤ 1000
variable {m : ModD}
theorem fo_lens (h : FitsM m) : FitLens m where
 sigs := (manyE_zero.1 h.sigs).1
 imports := (manyE_zero.1 h.imports).1
 funcs := by
  have h5 := h.funcs
  unfold funcsE at h5
  split at h5
  · cases h5
  · unfold countM at *; omega
 mems := (manyE_zero.1 h.mems).1
 globals := (manyE_zero.1 h.globals).1
 exports := (manyE_zero.1 h.exports).1
 elems := (manyE_zero.1 h.elems).1
 datas := (manyE_zero.1 h.datas).1
 table := by
  have h5 := h.table
  unfold tableE at h5
  split at h5
  · cases h5
  · have h6 := (whenE_eq (by decide)).1 h5; omega
theorem fo_sig (h : FitsM m) {z : SigD} (hz : z ∈ m.Sigs) : TypedP z.P ∧ TypedP z.R := Classical.not_not.1 ((whenE_eq (by decide)).1 (firstE_on.1 (manyE_zero.1 h.sigs).2 z hz))
theorem fo_imp (h : FitsM m) {z : ImportD} (hz : z ∈ m.Imports) : NamedP z.Module ∧ NamedP z.Name ∧ InP z.Sig m.Sigs.length := by
 have h1 := firstE_on.1 (manyE_zero.1 h.imports).2 z hz
 unfold importE at h1
 split at h1
 · cases h1
 · rename_i h2
   exact ⟨Classical.byContradiction fun e => h2 (.inl e), Classical.byContradiction fun e => h2 (.inr e), Classical.not_not.1 ((whenE_eq (by decide)).1 h1)⟩
theorem fo_func (h : FitsM m) {z : FuncD} (hz : z ∈ m.Funcs) : InP z.Sig m.Sigs.length := Classical.not_not.1 ((whenE_eq (by decide)).1 (funcs_each h.funcs z hz))
theorem fo_mem (h : FitsM m) {z : LimitsD} (hz : z ∈ m.Mems) : 0 ≤ z.Min ∧ z.Min ≤ 65536 ∧ (z.Max < 0 ∨ z.Min ≤ z.Max ∧ z.Max ≤ 65536) := Classical.not_not.1 ((whenE_eq (by decide)).1 (firstE_on.1 (manyE_zero.1 h.mems).2 z hz))
theorem fo_global (h : FitsM m) {z : GlobalD} (hz : z ∈ m.Globals) : (z.Ty.toNat : Int) = 126 ∨ (z.Ty.toNat : Int) = 127 ∧ z.Value ≤ 4294967295 := by
 have h1 := (whenE_eq (by decide)).1 (firstE_on.1 (manyE_zero.1 h.globals).2 z hz)
 have h2 : ¬ bitsI z.Ty = 0 := fun e => h1 (.inl e)
 have h3 : ¬ ((z.Ty.toNat : Int) = 127 ∧ 4294967295 < z.Value) := fun e => h1 (.inr e)
 rw [bitsI_zero, Classical.not_not] at h2
 rcases h2 with e | e
 · exact .inl (by rw [e]; rfl)
 · exact .inr ⟨by rw [e]; rfl, Classical.byContradiction fun h4 => h3 ⟨by rw [e]; rfl, by omega⟩⟩
theorem fo_export (h : FitsM m) {i : Nat} {x : ExportD} (hx : m.Exports[i]? = some x) : NamedP x.Name ∧ (∀ j y, j < i → m.Exports[j]? = some y → y.Name ≠ x.Name) ∧
    (((x.Kind = 0 ∧ InP x.Index (countM m) ∨ (x.Kind = 1 ∧ 0 ≤ m.Table) ∧ x.Index = 0) ∨ x.Kind = 2 ∧ InP x.Index m.Mems.length) ∨ x.Kind = 3 ∧ InP x.Index m.Globals.length) := by
  have hi := (List.getElem?_eq_some_iff.1 hx).1
  have h1 : exportE m i = 0 := firstE_zero.1 (manyE_zero.1 h.exports).2 i hi
  unfold exportE at h1
  rw [hx] at h1
  simp only at h1
  split at h1
  · cases h1
  · rename_i h2
    have h3 := Classical.not_not.1 ((whenE_eq (by decide)).1 h1)
    have ht := (fo_lens h).table
    refine ⟨Classical.byContradiction fun e => h2 (.inl e), fun j y hj hy e => h2 (.inr ⟨y, List.mem_iff_getElem?.2 ⟨j, by rw [List.getElem?_take, if_pos hj]; exact hy⟩, e⟩), ?_⟩
    obtain ⟨h4, h5⟩ := h3
    unfold InP at h4
    have hw : IntKind.i64.wrap (m.Table + 1) = m.Table + 1 := by unfold IntKind.wrap; simp [IntKind.signed, IntKind.bits]; omega
    have k0 : kindJ 0 = 0 := by decide
    have k1 : kindJ 1 = 1 := by decide
    have k2 : kindJ 2 = 2 := by decide
    have k3 : kindJ 3 = 3 := by decide
    rcases (by omega : x.Kind = 0 ∨ x.Kind = 1 ∨ x.Kind = 2 ∨ x.Kind = 3) with e | e | e | e
    · rw [e, k0] at h5; exact .inl (.inl (.inl ⟨e, h5⟩))
    · rw [e, k1] at h5; unfold InP at h5; simp only [cnt, hw] at h5; exact .inl (.inl (.inr ⟨⟨e, by omega⟩, by omega⟩))
    · rw [e, k2] at h5; exact .inl (.inr ⟨e, h5⟩)
    · rw [e, k3] at h5; exact .inr ⟨e, h5⟩
theorem fo_start (h : FitsM m) (hn : m.Start ≠ -1) : InP m.Start (countM m) ∧ ∀ s, sigO m m.Start = some s → ¬ 0 < (s.P.length : Int) + (s.R.length : Int) := by
 have h1 := h.start
 unfold startE at h1
 rw [if_neg hn] at h1
 have hI : ∀ z ∈ m.Imports, importE m z = 0 := firstE_on.1 (manyE_zero.1 h.imports).2
 cases hs : sigO m m.Start with
 | none => rw [hs] at h1; cases h1
 | some s =>
  rw [hs] at h1
  refine ⟨(sig_iff hI (funcs_each h.funcs)).1 (by rw [hs]; rfl), fun s' e => ?_⟩
  cases e
  exact (whenE_eq (by decide)).1 h1
theorem fo_elem (h : FitsM m) {z : ElemD} (hz : z ∈ m.Elems) : (z.Funcs.length : Int) ≤ 20 ∧ 0 ≤ m.Table ∧ z.At ≤ 4294967295 ∧ ∀ f ∈ z.Funcs, InP f (countM m) := by
 have h1 := firstE_on.1 (manyE_zero.1 h.elems).2 z hz
 unfold elemE at h1
 split at h1
 · cases h1
 · have h2 := (whenE_eq (by decide)).1 h1
   have ht := (fo_lens h).table
   have h3 : m.Table ≠ -1 := fun e => h2 (.inl e)
   exact ⟨by omega, by omega, Classical.byContradiction fun e => h2 (.inr (.inr (by omega))), fun f hf => Classical.byContradiction fun e => h2 (.inr (.inl ⟨f, hf, e⟩))⟩
theorem fo_data (h : FitsM m) {z : DataD} (hz : z ∈ m.Datas) : (z.Bytes.length : Int) ≤ 4096 ∧ InP z.Mem m.Mems.length ∧ ∀ y, m.Mems[z.Mem.toNat]? = some y → ¬ (¬ y.Wide ∧ 4294967295 < z.At) := by
 have h1 := firstE_on.1 (manyE_zero.1 h.datas).2 z hz
 unfold dataE at h1
 split at h1
 · cases h1
 · have h2 := (whenE_eq (by decide)).1 h1
   exact ⟨by omega, Classical.byContradiction fun e => h2 (.inl e), fun y hy e => h2 (.inr ⟨y, hy, e⟩)⟩
end Go.Hl
end
section
namespace Go.Hl
open Go.RowKit
def encFd (x : Int × Int × Int) : List VP := [iV x.1, iV x.2.1, iV x.2.2]
instance : Enc 3 encFd := ⟨fun _ => rfl, fun x q h => by simp only [encFd, List.mem_cons, List.not_mem_nil, or_false] at h; rcases h with h | h | h <;> rw [h] <;> infer_instance⟩
instance (x : Int × Int × Int) : FlatL (encFd x) := FlatL.of x
def catL {α : Type} (h : Nat → List α) : Nat → List α
 | 0 => []
 | k + 1 => catL h k ++ h k
theorem catL_len {α : Type} {h : Nat → List α} {c : Nat} : ∀ {n : Nat}, (∀ i, i < n → (h i).length ≤ c) → (catL h n).length ≤ n * c
 | 0, _ => by simp [catL]
 | n + 1, e => by
  have h1 := catL_len (n := n) fun i hi => e i (by omega)
  have h2 := e n (by omega)
  have h3 : (catL h (n + 1)).length = (catL h n).length + (h n).length := List.length_append
  rw [Nat.add_mul, Nat.one_mul]; omega
theorem catL_mem {α : Type} {h : Nat → List α} {x : α} : ∀ {n : Nat}, x ∈ catL h n ↔ ∃ i, i < n ∧ x ∈ h i
 | 0 => by simp [catL]
 | n + 1 => by
  show x ∈ catL h n ++ h n ↔ _
  rw [List.mem_append, catL_mem]
  constructor
  · rintro (⟨i, hi, hx⟩ | hx)
    · exact ⟨i, by omega, hx⟩
    · exact ⟨n, by omega, hx⟩
  · rintro ⟨i, hi, hx⟩
    by_cases e : i = n
    · subst e; exact .inr hx
    · exact .inl ⟨i, by omega, hx⟩
theorem lookD_upd {κ ν : Type} [DecidableEq κ] (D : List (κ × ν)) (a b : κ) (v : ν) : lookD (updD D a v) b = if b = a then some v else lookD D b := by
 have key : ∀ (D : List (κ × ν)), lookD (updD D a v) b = if b = a then some v else lookD D b := by
  intro D
  induction D with
  | nil =>
   by_cases h : b = a
   · subst h; simp [updD, lookD]
   · have h2 : ¬ a = b := fun e => h e.symm
     simp [updD, lookD, h, h2]
  | cons p D ih =>
   by_cases hp : p.1 = a
   · have h1 : updD (p :: D) a v = (a, v) :: D := by simp [updD, List.findIdx?_cons, hp]
     rw [h1]
     by_cases h : b = a
     · subst h; simp [lookD]
     · have h2 : ¬ a = b := fun e => h e.symm
       have h3 : ¬ p.1 = b := fun e => h2 (hp.symm.trans e)
       simp [lookD, List.find?_cons, h, h2, h3]
   · have h1 : updD (p :: D) a v = p :: updD D a v := by
      simp only [updD, List.map_cons, List.findIdx?_cons, hp, decide_false, Bool.false_eq_true, if_false]
      cases hf : (D.map (·.1)).findIdx? (fun k => decide (k = a)) with
      | none => simp
      | some j => simp
     rw [h1]
     by_cases h : p.1 = b
     · have h2 : ¬ b = a := fun e => hp (h.trans e)
       simp [lookD, List.find?_cons, h, h2]
     · have e1 : ∀ D' : List (κ × ν), lookD (p :: D') b = lookD D' b := fun D' => by simp [lookD, List.find?_cons, h]
       rw [e1, e1, ih]
 exact key D
abbrev MapB := List (PairK × Bool)
def putN {κ : Type} [DecidableEq κ] (D : List (κ × Bool)) (l : List κ) : List (κ × Bool) := l.foldl (fun D k => updD D k true) D
section
variable {κ : Type} [DecidableEq κ]
theorem putN_app (D : List (κ × Bool)) (l k : List κ) : putN D (l ++ k) = putN (putN D l) k := List.foldl_append
theorem putN_one (D : List (κ × Bool)) (k : κ) : putN D [k] = updD D k true := rfl
theorem putN_snoc (D : List (κ × Bool)) (l : List κ) (k : κ) : updD (putN D l) k true = putN D (l ++ [k]) := by rw [putN_app, putN_one]
theorem lookD_putN (k : κ) : ∀ (l : List κ) (D : List (κ × Bool)), lookD (putN D l) k = if k ∈ l then some true else lookD D k
 | [], D => by simp [putN]
 | a :: l, D => by
  show lookD (putN (updD D a true) l) k = _
  rw [lookD_putN k l, lookD_upd]
  by_cases h1 : k ∈ l
  · simp [h1]
  · by_cases h2 : k = a
    · simp [h2]
    · simp [h1, h2]
end
end Go.Hl
end
