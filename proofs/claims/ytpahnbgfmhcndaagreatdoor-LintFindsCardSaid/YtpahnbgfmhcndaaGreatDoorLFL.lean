/-
  What the statement's proof leans on, several texts in one (packed by a program).
-/
import Derived.Test.YtpahnbgfmhcndaaGreatDoorLFK
import Derived.Lib.TrailingZeros
set_option linter.all false
set_option maxRecDepth 1000000
set_option maxHeartbeats 4000000
section
namespace Go.Hl
open Go.Lib
abbrev uV (a : Nat) : VP := intV .u64 (a : Int)
def sgnN (n A : Nat) : Int := if A < 2 ^ (n - 1) then (A : Int) else (A : Int) - 2 ^ n
def lessF (n : Nat) (signed : Prop) [Decidable signed] (A B : Nat) : Prop := if signed then sgnN n A < sgnN n B else A < B
instance {n : Nat} {s : Prop} [Decidable s] {A B : Nat} : Decidable (lessF n s A B) := by unfold lessF; infer_instance
def blN (a : Nat) : Nat := if a = 0 then 0 else Nat.log2 a + 1
variable {a : Nat}
theorem bl_le {n : Nat} (h : a < 2 ^ n) : blN a ≤ n := by
 unfold blN; split
 · omega
 · exact (Nat.log2_lt (by assumption)).2 h
theorem bl_iff {n : Nat} (h0 : 2 ^ n ≤ a) (h1 : a < 2 ^ (n + 1)) : blN a = n + 1 := by
 have ha : a ≠ 0 := by have := Nat.two_pow_pos n; omega
 unfold blN; rw [if_neg ha]
 have h2 := (Nat.log2_lt ha).2 h1
 have h3 := (Nat.le_log2 ha).2 h0
 omega
theorem bl_div {k : Nat} (h : 2 ^ k ≤ a) : blN a = blN (a / 2 ^ k) + k := by
 have hp := Nat.two_pow_pos k
 have hd : 0 < a / 2 ^ k := Nat.div_pos h hp
 have hne : a / 2 ^ k ≠ 0 := by omega
 have h1 : blN (a / 2 ^ k) = Nat.log2 (a / 2 ^ k) + 1 := by unfold blN; rw [if_neg hne]
 have h2 : 2 ^ Nat.log2 (a / 2 ^ k) ≤ a / 2 ^ k := Nat.log2_self_le hne
 have h3 : a / 2 ^ k < 2 ^ (Nat.log2 (a / 2 ^ k) + 1) := Nat.lt_log2_self
 have h4 : 2 ^ (Nat.log2 (a / 2 ^ k) + k) ≤ a := by
  rw [Nat.pow_add]
  exact Nat.le_trans (Nat.mul_le_mul_right _ h2) (Nat.div_mul_le_self _ _)
 have h5 : a < 2 ^ (Nat.log2 (a / 2 ^ k) + k + 1) := by
  have : a < 2 ^ (Nat.log2 (a / 2 ^ k) + 1) * 2 ^ k := by
   rw [← Nat.div_lt_iff_lt_mul hp]; exact h3
  rw [← Nat.pow_add] at this
  rwa [show Nat.log2 (a / 2 ^ k) + k + 1 = Nat.log2 (a / 2 ^ k) + 1 + k by omega]
 rw [bl_iff h4 h5, h1]; omega
end Go.Hl
end
section
namespace Go.Hl
open Go.RowKit
theorem wrp8 (n : Int) (h0 : 0 ≤ n) (h1 : n < 2 ^ 8) : IntKind.u8.wrap n = n := wrap_fits (fits_u8 h0 (by omega))
section
variable {P : Program} {hs : List HP} {env : Env} {q : VP} {dst : Option Tmp} {ty T T2 T' E : TypeId} {pos : String} {after : Array Edge} {gd : Option (Nat × Bool)} {x y z : Operand}
theorem opAnd_u8 {a b : Nat} (ha : a < 256) (hb : b < 256) (hx : Opd env x (intV .u8 (a : Int))) (hy : Opd env y (intV .u8 (b : Int))) : OpP P hs env ⟨dst, .binOp .and T x y T', ty, pos, after, gd⟩ (intV .u8 ((a &&& b : Nat) : Int)) :=
 OpP.of_read fun ρ w S F _ he => by
  have h1 := he.o _ _ hx; have h2 := he.o _ _ hy; simp only [exactV] at h1 h2
  exact ⟨.int .u8 ((a &&& b : Nat) : Int), by simp [execOp, h1, h2, go_sem, (bits_nat .u8 8 (by decide) wrp8 a b (by omega) (by omega)).1], rfl⟩
theorem opOr_u8 {a b : Nat} (ha : a < 256) (hb : b < 256) (hx : Opd env x (intV .u8 (a : Int))) (hy : Opd env y (intV .u8 (b : Int))) : OpP P hs env ⟨dst, .binOp .or T x y T', ty, pos, after, gd⟩ (intV .u8 ((a ||| b : Nat) : Int)) :=
 OpP.of_read fun ρ w S F _ he => by
  have h1 := he.o _ _ hx; have h2 := he.o _ _ hy; simp only [exactV] at h1 h2
  exact ⟨.int .u8 ((a ||| b : Nat) : Int), by simp [execOp, h1, h2, go_sem, (bits_nat .u8 8 (by decide) wrp8 a b (by omega) (by omega)).2], rfl⟩
theorem bits_turn {n : Int} (h1 : -9223372036854775808 ≤ n) (h2 : n ≤ 9223372036854775807) : bits .xor .i64 (-1) n = -n - 1 := by
 have e : BitVec.ofInt 64 (-1) ^^^ BitVec.ofInt 64 n = ~~~ (BitVec.ofInt 64 n) := by rw [show BitVec.ofInt 64 (-1) = BitVec.allOnes 64 from by decide, BitVec.allOnes_xor]
 show IntKind.i64.wrap ((BitVec.ofInt 64 (-1) ^^^ BitVec.ofInt 64 n).toNat : Int) = -n - 1
 rw [e, BitVec.toNat_not, BitVec.toNat_ofInt]
 unfold IntKind.wrap
 simp only [IntKind.signed, IntKind.bits]
 simp
 omega
theorem opNot_i64 {n : Int} (h1 : -9223372036854775808 ≤ n) (h2 : n ≤ 9223372036854775807) (hx : Opd env x (intV .i64 n)) : OpP P hs env ⟨dst, .unOp .xor T x, ty, pos, after, gd⟩ (intV .i64 (-n - 1)) :=
 OpP.of_read fun ρ w S F _ he => by
  have h3 := he.o _ _ hx; simp only [exactV] at h3
  exact ⟨.int .i64 (-n - 1), by simp [execOp, h3, go_sem, bits_turn h1 h2, show IntKind.i64.signed = true from rfl], rfl⟩
end
theorem u8_wr (n : Int) : IntKind.u8.wrap n = ((n % 256).toNat : Int) := by
 unfold IntKind.wrap
 simp [IntKind.signed, IntKind.bits]
 omega
theorem an127 (k : Nat) : k &&& 127 < 256 := Nat.lt_of_le_of_lt Nat.and_le_right (by decide)
theorem or_128 {k : Nat} (h : k < 256) : k ||| 128 < 256 := Nat.or_lt_two_pow (n := 8) h (by decide)
theorem u8_nt {k : Nat} (h : k < 256) : VLe (intV .u8 (k : Int)) (intV .u8 ((UInt8.ofNat k).toNat : Int)) := VLe.int (by simp; omega)
theorem bl_bits (a : Nat) : blN a = btL a := rfl
theorem lenS_at (n : Int) : lenS n = (blN (if n < 0 then (-n - 1).toNat else n.toNat) + 7) / 7 := lenS_bits n.natAbs n (Nat.le_refl _)
theorem bl_64 {a : Nat} (h : a < 18446744073709551616) : blN a ≤ 64 := by rw [bl_bits]; exact btL_lt (k := 64) h
def formI (x : InstrD) : Int := (findI x.Code).elim (-1) (·.Form)
theorem formI_none {x : InstrD} (h : findI x.Code = none) : formI x = -1 ∧ nameR x.Code = [] := by unfold formI; rw [h]; exact ⟨rfl, find_none_of h⟩
theorem formI_some {x : InstrD} {i : InfoD} (h : findI x.Code = some i) : formI x = formR x.Code ∧ nameR x.Code ≠ [] := by
 unfold formI; rw [h]; have := find_some_of h; exact ⟨this.2.2.2.1, this.2.2.1⟩
theorem form_bound (c : Int) : 0 ≤ formR c ∧ formR c ≤ 11 := by unfold formR; repeat (first | split | omega)
theorem form_11 {c : Int} (h : formR c = 11) : c = 65 ∨ c = 66 := by
 unfold formR at h
 repeat' split at h
 all_goals omega
theorem right_at {x : InstrD} (hA : 0 ≤ x.A) (hB : 0 ≤ x.B) : rightI x ↔ rightF x (formI x) := by
 rw [rightI_form hA hB (form_bound _) (fun h => form_11 h) (fun h => by rw [h]; decide)]
 cases hf : findI x.Code with
 | none =>
  obtain ⟨h1, h2⟩ := formI_none hf
  rw [h1, h2]
  constructor
  · rintro ⟨h, _⟩; exact absurd rfl h
  · intro h; unfold rightF at h; omega
 | some i =>
  obtain ⟨h1, h2⟩ := formI_some hf
  rw [h1]
  exact ⟨fun h => h.2, fun h => ⟨h2, h⟩⟩
theorem right_form {x : InstrD} (hA : 0 ≤ x.A) (hB : 0 ≤ x.B) (h : rightI x) : formI x = formR x.Code ∧ nameR x.Code ≠ [] := by
 cases hf : findI x.Code with
 | none => exact absurd (formI_none hf).2 h.1
 | some i => exact formI_some hf
theorem code_in {c : Int} (h : nameR c ≠ []) : 0 ≤ c ∧ c ≤ 196 ∨ 64522 ≤ c ∧ c ≤ 64523 := by
 by_cases h2 : c < 0 ∨ 196 < c ∧ c < 64522 ∨ 64523 < c
 · exact absurd (find_none_of (find_out h2)) h
 · omega
end Go.Hl
namespace Go.Hl
def sumU (l : List Int) : Nat := (l.map lenUI).sum
theorem sumU_snoc (l : List Int) (n : Int) : sumU (l ++ [n]) = sumU l + lenUI n := by simp [sumU]
theorem sumU_le : ∀ (l : List Int), (∀ n ∈ l, 0 ≤ n ∧ n < 18446744073709551616) → sumU l ≤ 10 * l.length
 | [], _ => by simp [sumU]
 | n :: l, h => by
  have h1 := sumU_le l (fun m hm => h m (List.mem_cons_of_mem _ hm))
  have h2 := h n (List.mem_cons_self ..)
  have h3 : lenUI n ≤ 10 := lenU_64 (by omega)
  simp only [sumU, List.map_cons, List.sum_cons, List.length_cons] at h1 ⊢
  omega
def headN (x : InstrD) : Nat := if 64512 ≤ x.Code then 1 + lenUI (x.Code - 64512) else 1
def wordV (x : InstrD) : Int := if x.Code = 65 then (if x.A < 2147483648 then x.A else x.A - 4294967296) else (if x.A < 9223372036854775808 then x.A else x.A - 18446744073709551616)
def memN (x : InstrD) : Nat := (if x.A = 0 then lenUI x.Align else lenUI (x.Align + 64) + lenUI x.A) + lenUI x.B
theorem lenI_eq (x : InstrD) : lenI x = headN x + (if formR x.Code = 1 then 1
   else if formR x.Code = 2 ∨ formR x.Code = 4 ∨ formR x.Code = 6 ∨ formR x.Code = 7 ∨ formR x.Code = 9 then lenUI x.A
   else if formR x.Code = 3 then lenU x.L.length + sumU x.L + lenUI x.A
   else if formR x.Code = 5 ∨ formR x.Code = 10 then lenUI x.A + lenUI x.B
   else if formR x.Code = 8 then memN x
   else if formR x.Code = 11 then lenS (wordV x) else 0) := rfl
theorem wrap_64 {a : Int} (h0 : 0 ≤ a) (h1 : a < 18446744073709551616) : IntKind.i64.wrap a = if a < 9223372036854775808 then a else a - 18446744073709551616 := by
 by_cases h : a < 9223372036854775808
 · rw [if_pos h]; unfold IntKind.wrap; simp only [IntKind.signed, IntKind.bits]; simp; omega
 · rw [if_neg h]; unfold IntKind.wrap; simp only [IntKind.signed, IntKind.bits]; simp; omega
theorem wrap_32 {a : Int} (h0 : 0 ≤ a) (h1 : a ≤ 4294967295) : IntKind.i32.wrap a = if a < 2147483648 then a else a - 4294967296 := by
 by_cases h : a < 2147483648
 · rw [if_pos h]; unfold IntKind.wrap; simp only [IntKind.signed, IntKind.bits]; simp; omega
 · rw [if_neg h]; unfold IntKind.wrap; simp only [IntKind.signed, IntKind.bits]; simp; omega
end Go.Hl
end
section
namespace Go.Hl
open Go.RowKit
abbrev SpD := Int × Int × Int
def encSpan3 (s : SpD) : List VP := [intV .i64 s.1, intV .i64 s.2.1, intV .i64 s.2.2]
instance : Enc 3 encSpan3 := ⟨fun _ => rfl, fun x q h => by simp only [encSpan3, List.mem_cons, List.not_mem_nil, or_false] at h; rcases h with h | h | h <;> rw [h] <;> infer_instance⟩
instance (x : SpD) : FlatL (encSpan3 x) := FlatL.of x
def encNt (n : Nat) : List VP := [intV .i64 (n : Int)]
instance : Enc 1 encNt := ⟨fun _ => rfl, fun x q h => by simp only [encNt, List.mem_cons, List.not_mem_nil, or_false] at h; rw [h]; infer_instance⟩
instance (x : Nat) : FlatL (encNt x) := FlatL.of x
def encRun (r : Nat × UInt8) : List VP := [intV .i64 (r.1 : Int), intV .u8 (r.2.toNat : Int)]
instance : Enc 2 encRun := ⟨fun _ => rfl, fun x q h => by simp only [encRun, List.mem_cons, List.not_mem_nil, or_false] at h; rcases h with h | h <;> rw [h] <;> infer_instance⟩
instance (x : Nat × UInt8) : FlatL (encRun x) := FlatL.of x
structure NsT where
 gp : SB
 go : SB
 sp : List SpD
 op : List Nat
 cl : Prop
 dp : Int
abbrev nsH (nb : Nat) (l : List InstrD) (z : NsT) : List HP := [cellsH nb [sliceV 5 encInstr l, exactV (sval z.gp z.sp.length), exactV (sval z.go z.op.length), propV z.cl, intV .i64 z.dp], sliceH z.gp 3 encSpan3 z.sp, sliceH z.go 1 encNt z.op]
def relS (l : List InstrD) (sp : List SpD) (p : Nat) (ce : Int × Bool) : Prop := ∃ (i : Nat) (el en : Int) (x : InstrD), sp[p]? = some ((i : Int), el, en) ∧ l[i]? = some x ∧ x.Code = ce.1 ∧ (ce.2 = true ↔ el ≠ -1)
structure NestR (l : List InstrD) (sp : List SpD) (op : List Nat) (rs : List (Int × Bool)) : Prop where
 len : op.length = rs.length
 inc : op.Pairwise (· < ·)
 rel : ∀ (k p : Nat) (ce : Int × Bool), op[k]? = some p → rs[k]? = some ce → relS l sp p ce
theorem NestR.nil (l : List InstrD) (sp : List SpD) : NestR l sp [] [] := ⟨rfl, List.Pairwise.nil, fun k p ce h => by simp at h⟩
variable {rs : List (Int × Bool)} {l : List InstrD} {sp : List SpD} {p : Nat}
theorem NestR.at_ {op : List Nat} (h : NestR l sp op rs) (hp : p ∈ op) : ∃ ce, relS l sp p ce := by
 obtain ⟨k, hk⟩ := List.mem_iff_getElem?.1 hp
 have hl : k < rs.length := by have := (List.getElem?_eq_some_iff.1 hk).1; rw [h.len] at this; exact this
 exact ⟨_, h.rel k p _ hk (List.getElem?_eq_getElem hl)⟩
variable {ce : Int × Bool}
theorem relS.lt (h : relS l sp p ce) : p < sp.length := by
 obtain ⟨_, _, _, _, h1, _⟩ := h; exact (List.getElem?_eq_some_iff.1 h1).1
theorem NestR.begin {op : List Nat} (h : NestR l sp op rs) {i : Nat} {x : InstrD} (hx : l[i]? = some x) : NestR l (sp ++ [((i : Int), -1, -1)]) (op ++ [sp.length]) (rs ++ [(x.Code, false)]) := by
 refine ⟨by simp [h.len], ?_, fun k p ce hk hr => ?_⟩
 · rw [List.pairwise_append]
   refine ⟨h.inc, List.pairwise_singleton _ _, fun a ha b hb => ?_⟩
   simp only [List.mem_singleton] at hb; subst hb
   obtain ⟨ce, hce⟩ := h.at_ ha
   exact hce.lt
 · by_cases hkl : k < op.length
   · rw [List.getElem?_append_left hkl] at hk
     rw [List.getElem?_append_left (by rw [← h.len]; exact hkl)] at hr
     obtain ⟨j, el, en, y, h1, h2, h3, h4⟩ := h.rel k p ce hk hr
     exact ⟨j, el, en, y, by rw [List.getElem?_append_left (List.getElem?_eq_some_iff.1 h1).1]; exact h1, h2, h3, h4⟩
   · rw [List.getElem?_append_right (by omega)] at hk
     rw [List.getElem?_append_right (by rw [← h.len]; omega)] at hr
     have hk0 : k - op.length = 0 := by
      have := (List.getElem?_eq_some_iff.1 hk).1; simp at this; omega
     rw [hk0] at hk
     rw [← h.len, hk0] at hr
     simp at hk hr
     subst hk; subst hr
     exact ⟨i, -1, -1, x, by simp, hx, rfl, by simp⟩
theorem snoc_at {α : Type} {o : List α} {p : α} : (o ++ [p])[o.length]? = some p := by simp
variable {o : List Nat}
theorem NestR.top (h : NestR l sp (o ++ [p]) (rs ++ [ce])) : relS l sp p ce := by
 have hl : o.length = rs.length := by have := h.len; simp at this; exact this
 exact h.rel o.length p ce snoc_at (by rw [hl]; exact snoc_at)
theorem NestR.not_in (h : NestR l sp (o ++ [p]) rs) : p ∉ o := fun hp => by
 have := (List.pairwise_append.1 h.inc).2.2 p hp p (by simp)
 omega
theorem relS.set {l : List InstrD} {sp : List SpD} {p q : Nat} {s : SpD} {ce : Int × Bool} (h : relS l sp q ce) (hne : q ≠ p) : relS l (sp.set p s) q ce := by
 obtain ⟨j, el, en, y, h1, h2⟩ := h
 exact ⟨j, el, en, y, by rw [List.getElem?_set_ne (by omega)]; exact h1, h2⟩
theorem NestR.pop (h : NestR l sp (o ++ [p]) (rs ++ [ce])) (s : SpD) : NestR l (sp.set p s) o rs := by
 have hl : o.length = rs.length := by have := h.len; simp at this; exact this
 refine ⟨hl, (List.pairwise_append.1 h.inc).1, fun k q c hk hr => ?_⟩
 have hq : q ∈ o := List.mem_of_getElem? hk
 refine (h.rel k q c ?_ ?_).set (fun e => h.not_in (e ▸ hq))
 · rw [List.getElem?_append_left (List.getElem?_eq_some_iff.1 hk).1]; exact hk
 · rw [List.getElem?_append_left (List.getElem?_eq_some_iff.1 hr).1]; exact hr
variable {c : Int}
theorem NestR.other {e : Bool} (h : NestR l sp (o ++ [p]) (rs ++ [(c, e)])) {i : Nat} {el en : Int} {x : InstrD} (hs : sp[p]? = some ((i : Int), el, en)) (hx : l[i]? = some x) (hc : x.Code = c) {j : Nat} :
    NestR l (sp.set p ((i : Int), (j : Int), en)) (o ++ [p]) (rs ++ [(c, true)]) := by
  have hl : o.length = rs.length := by have := h.len; simp at this; exact this
  have hpop := h.pop ((i : Int), (j : Int), en)
  refine ⟨by simp [hl], h.inc, fun k q ce hk hr => ?_⟩
  by_cases hkl : k < o.length
  · rw [List.getElem?_append_left hkl] at hk
    rw [List.getElem?_append_left (by omega)] at hr
    exact hpop.rel k q ce hk hr
  · rw [List.getElem?_append_right (by omega)] at hk
    rw [List.getElem?_append_right (by omega)] at hr
    have hk0 : k - o.length = 0 := by
      have := (List.getElem?_eq_some_iff.1 hk).1; simp at this; omega
    rw [hk0] at hk
    rw [← hl, hk0] at hr
    simp at hk hr
    subst hk; subst hr
    exact ⟨i, j, en, x, by rw [List.getElem?_set_self (List.getElem?_eq_some_iff.1 hs).1], hx, hc, by simp⟩
def nrunC (cl : Prop) (rs : List (Int × Bool)) (r : List Int) : Prop := (cl ∧ r = []) ∨ (¬ cl ∧ nrun r rs.reverse)
variable {r : List Int}
theorem nrunC_open (h : opensC c) (hl : rs.length ≠ 64) (hb : rs.length ≤ 64) : nrunC False rs (c :: r) ↔ nrunC False (rs ++ [(c, false)]) r := by
 simp only [nrunC, false_and, not_false_eq_true, true_and, false_or, List.reverse_append, List.reverse_cons, List.reverse_nil, List.nil_append, List.singleton_append]
 rw [nrun_cons, if_pos h]
 simp only [List.length_reverse]
 exact ⟨fun h => h.2, fun h => ⟨by omega, h⟩⟩
theorem nrunC_deep (h : opensC c) (hl : rs.length = 64) : ¬ nrunC False rs (c :: r) := by
 simp only [nrunC, false_and, not_false_eq_true, true_and, false_or]
 rw [nrun_cons, if_pos h]
 simp only [List.length_reverse]
 omega
theorem nrunC_else_no : ¬ nrunC False [] (5 :: r) := by
 simp only [nrunC, false_and, not_false_eq_true, true_and, false_or, List.reverse_nil]
 rw [nrun_cons]; simp [opensC]
theorem nrunC_else {b : Int} {e : Bool} : nrunC False (rs ++ [(b, e)]) (5 :: r) ↔ (b = 4 ∧ e = false) ∧ nrunC False (rs ++ [(b, true)]) r := by
 simp only [nrunC, false_and, not_false_eq_true, true_and, false_or, List.reverse_append, List.reverse_cons, List.reverse_nil, List.nil_append, List.singleton_append]
 rw [nrun_cons]; simp [opensC]
theorem nrunC_end_last : nrunC False [] (11 :: r) ↔ nrunC True [] r := by
 simp only [nrunC, false_and, not_false_eq_true, true_and, false_or, not_true_eq_false, or_false, List.reverse_nil]
 rw [nrun_cons]; simp [opensC]
theorem nrunC_end : nrunC False (rs ++ [ce]) (11 :: r) ↔ nrunC False rs r := by
 simp only [nrunC, false_and, not_false_eq_true, true_and, false_or, List.reverse_append, List.reverse_cons, List.reverse_nil, List.nil_append, List.singleton_append]
 rw [nrun_cons]; simp [opensC]
theorem nrunC_plain (h1 : ¬ opensC c) (h2 : c ≠ 5) (h3 : c ≠ 11) : nrunC False rs (c :: r) ↔ nrunC False rs r := by
 simp only [nrunC, false_and, not_false_eq_true, true_and, false_or]
 rw [nrun_cons, if_neg h1, if_neg h2, if_neg h3]
theorem nrunC_closed : ¬ nrunC True rs (c :: r) := by simp [nrunC]
theorem nrunC_nil {cl : Prop} : nrunC cl rs [] ↔ cl := by simp [nrunC, nrun]
def nsP (l : List InstrD) (cl : Prop) (rs : List (Int × Bool)) (c : Int) (m : Nat) (e : Int) (z : NsT) : Prop :=
 (e = 0 ∧ z.sp.length ≤ m ∧ z.op.length ≤ 64 ∧ ∃ rs', NestR l z.sp z.op rs' ∧ ∀ r, nrunC cl rs (c :: r) ↔ nrunC z.cl rs' r) ∨ (e ≠ 0 ∧ ∀ r, ¬ nrunC cl rs (c :: r))
theorem nil_two {α β : Type} {n k : Nat} {e1 : α → List VP} {e2 : β → List VP} {r : List HP} : OLe r (sliceH none n e1 [] :: sliceH none k e2 [] :: r) := fun F S w h =>
 ⟨fun _ => False, F, fun _ h => h.elim, fun _ h => h, rfl, fun _ => False, F, fun _ h => h.elim, fun _ h => h, rfl, h⟩
end Go.Hl
end
section
namespace Go.Hl
theorem runStep_nil (t : UInt8) : runStep [] t = [(1, t)] := rfl
theorem runStep_same (m : List (Nat × UInt8)) (n : Nat) (t : UInt8) : runStep (m ++ [(n, t)]) t = m ++ [(n + 1, t)] := by rw [runStep_snoc]; simp [runStep]
variable {t : UInt8}
theorem runStep_other (m : List (Nat × UInt8)) (n : Nat) {t' : UInt8} (h : ¬ t = t') : runStep (m ++ [(n, t)]) t' = (m ++ [(n, t)]) ++ [(1, t')] := by rw [runStep_snoc]; simp [runStep, h]
theorem foldl_take {l : List UInt8} {k : Nat} (h : l[k]? = some t) : (l.take (k + 1)).foldl runStep [] = runStep ((l.take k).foldl runStep []) t := by
 rw [← take_snoc h, List.foldl_append]; rfl
theorem runStep_le {o : List (Nat × UInt8)} {M : Nat} (h : ∀ p ∈ o, p.1 ≤ M) : (∀ p ∈ runStep o t, p.1 ≤ M + 1) ∧ (runStep o t).length ≤ o.length + 1 := by
 rcases List.eq_nil_or_concat o with rfl | ⟨m, ⟨n, t'⟩, rfl⟩
 · simp [runStep_nil]
 · rw [List.concat_eq_append] at h ⊢
   by_cases e : t' = t
   · subst e
     rw [runStep_same]
     refine ⟨fun p hp => ?_, by simp⟩
     rcases List.mem_append.1 hp with hp | hp
     · have := h p (by simp [hp]); omega
     · simp only [List.mem_singleton] at hp; subst hp
       have := h (n, t') (by simp); simp only at this ⊢; omega
   · rw [runStep_other _ _ e]
     refine ⟨fun p hp => ?_, by simp⟩
     rcases List.mem_append.1 hp with hp | hp
     · have := h p hp; omega
     · simp only [List.mem_singleton] at hp; subst hp; simp
theorem runs_le : ∀ (l : List UInt8) (o : List (Nat × UInt8)) (M : Nat), (∀ p ∈ o, p.1 ≤ M) → (∀ p ∈ l.foldl runStep o, p.1 ≤ M + l.length) ∧ (l.foldl runStep o).length ≤ o.length + l.length
 | [], o, M, h => ⟨by simpa using h, by simp⟩
 | t :: l, o, M, h => by
  obtain ⟨h1, h2⟩ := runStep_le (t := t) h
  obtain ⟨h3, h4⟩ := runs_le l _ _ h1
  simp only [List.foldl_cons, List.length_cons]
  exact ⟨fun p hp => by have := h3 p hp; omega, by omega⟩
theorem lenI_le {x : InstrD} (h : InsOk x) (r : rightI x) : lenI x ≤ 1100 := by
 obtain ⟨r1, r2, r3, r4, r5, r6⟩ := r
 have hL : x.L.length ≤ 100 := r6.elim (fun h => by rw [h]; simp) (fun h => h.2)
 have hA : lenUI x.A ≤ 10 := lenU_64 (by have := h.A0; have := h.A64; omega)
 have hB : lenUI x.B ≤ 10 := lenU_64 (by have := h.B0; have := h.B64; omega)
 have hs := sumU_le x.L (fun n hn => ⟨h.L0 n hn, by have h9 : n ≤ 4294967295 := r5 n hn; omega⟩)
 have hl : lenU x.L.length ≤ 10 := lenU_64 (by omega)
 have ha : lenUI x.Align ≤ 10 := lenU_64 (by have := h.a31; omega)
 have ha2 : lenUI (x.Align + 64) ≤ 10 := lenU_64 (by have := h.a31; omega)
 have hm : memN x ≤ 30 := by unfold memN; split <;> omega
 have h65 : x.Code = 65 → x.A ≤ 4294967295 := fun h65 => Classical.byContradiction fun h9 => r2 (.inr (.inl ⟨h65, h9⟩))
 have hw : lenS (wordV x) ≤ 10 := lenS_64 (by have := h.A0; have := h.A64; unfold wordV; (repeat split) <;> (try omega)) (by have := h.A0; have := h.A64; unfold wordV; split <;> (try have := h65 (by assumption)) <;> split <;> omega)
 have hh : headN x ≤ 11 := by
  unfold headN
  split
  · have : lenUI (x.Code - 64512) ≤ 10 := lenU_64 (by have := code_in r1; omega)
    omega
  · omega
 rw [lenI_eq]
 repeat (first | split | omega)
def sumI (l : List InstrD) : Nat := (l.map lenI).sum
theorem sumI_snoc (l : List InstrD) (x : InstrD) : sumI (l ++ [x]) = sumI l + lenI x := by simp [sumI]
theorem sumI_le : ∀ (l : List InstrD), (∀ x ∈ l, InsOk x ∧ rightI x) → sumI l ≤ 1100 * l.length
 | [], _ => by simp [sumI]
 | x :: l, h => by
  have h1 := sumI_le l (fun y hy => h y (List.mem_cons_of_mem _ hy))
  have h2 := h x (List.mem_cons_self ..)
  have h3 := lenI_le h2.1 h2.2
  simp only [sumI, List.map_cons, List.sum_cons, List.length_cons] at h1 ⊢
  omega
def sumR (r : List (Nat × UInt8)) : Nat := (r.map fun p => lenU p.1 + 1).sum
theorem sumR_snoc (r : List (Nat × UInt8)) (p : Nat × UInt8) : sumR (r ++ [p]) = sumR r + (lenU p.1 + 1) := by simp [sumR]
theorem sumR_le : ∀ (r : List (Nat × UInt8)), (∀ p ∈ r, p.1 ≤ 1000000) → sumR r ≤ 11 * r.length
 | [], _ => by simp [sumR]
 | p :: r, h => by
  have h1 := sumR_le r (fun q hq => h q (List.mem_cons_of_mem _ hq))
  have h2 := h p (List.mem_cons_self ..)
  have h3 : lenU p.1 ≤ 10 := lenU_64 (by omega)
  simp only [sumR, List.map_cons, List.sum_cons, List.length_cons] at h1 ⊢
  omega
theorem lenB_eq (b : BodyD) : lenB b = lenU (b.Locals.foldl runStep []).length + sumR (b.Locals.foldl runStep []) + sumI b.L := by
 unfold lenB sumR sumI
 rw [← runs_eq]
 simp [List.map_map, Function.comp_def]
theorem InsOk.of {x : InstrD} (h : InsOk0 x) (r : rightI x) : InsOk x where
 toInsOk0 := h
 A16 := fun e => by
  have hf : formR x.Code ≠ 11 := by rw [e]; decide
  have h1 := r.2.1
  have h2 : sml x.A := Classical.byContradiction fun h9 => h1 (.inl ⟨hf, h9⟩)
  have := h.A0
  unfold sml at h2; omega
 a0 := by have h1 := r.2.2.2.1; omega
 a31 := by have h1 := r.2.2.2.1; omega
structure BdOk (b : BodyD) : Prop where
 ins : ∀ x ∈ b.L, InsOk0 x
 len : b.L.length ≤ 10000
 loc : b.Locals.length ≤ 60000
end Go.Hl
end
section
namespace Go.Hl
open Go.RowKit
def nestK (rest : List InstrD) (fs : List FrC) : Prop := (fs = [] ∧ rest = []) ∨ ∃ st : List (Int × Bool), st.length + 1 = fs.length ∧ nrun (rest.map (·.Code)) st
theorem nestK_ne {x : InstrD} {r : List InstrD} {fs : List FrC} (h : nestK (x :: r) fs) : ∃ gs b, fs = gs ++ [b] := by
 rcases h with ⟨_, h⟩ | ⟨st, h, _⟩
 · cases h
 · exact snoc_of (fun e => by rw [e] at h; simp at h)
theorem nestK_step {m : ModD} {f : FuncD} {x : InstrD} {r : List InstrD} {fs fs' : List FrC} {b : FrC} (h : nestK (x :: r) (fs ++ [b])) (hs : stepX m f x fs b = some fs') : nestK r fs' := by
 rcases h with ⟨h, _⟩ | ⟨st, hl, hn⟩
 · simp at h
 simp only [List.length_append, List.length_cons, List.length_nil] at hl
 rw [List.map_cons, nrun_cons] at hn
 by_cases h11 : x.Code = 11
 · rw [if_neg (by rw [h11]; decide), if_neg (by omega), if_pos h11] at hn
   unfold stepX stepF at hs
   rw [if_pos h11] at hs
   split at hs
   · simp only [Option.some.injEq] at hs
     subst hs
     cases st with
     | nil =>
      simp only at hn
      have : fs = [] := List.eq_nil_of_length_eq_zero (by simp only [List.length_nil] at hl; omega)
      subst this
      exact .inl ⟨rfl, by simpa using hn⟩
     | cons p t =>
      simp only at hn
      rcases List.eq_nil_or_concat fs with rfl | ⟨gs, y, rfl⟩
      · simp at hl
      · refine .inr ⟨t, ?_, hn⟩
        simp only [List.concat_eq_append, List.getLast?_append, List.getLast?_singleton, Option.some_or, List.dropLast_concat, List.length_append, List.length_cons, List.length_nil] at hl ⊢
        omega
   · cases hs
 by_cases h5 : x.Code = 5
 · rw [if_neg (by rw [h5]; decide), if_pos h5] at hn
   unfold stepX stepF at hs
   rw [if_neg h11, if_pos h5] at hs
   split at hs
   · simp only [Option.some.injEq] at hs
     subst hs
     cases st with
     | nil => exact hn.elim
     | cons p t =>
      obtain ⟨pb, pe⟩ := p
      simp only at hn
      exact .inr ⟨(pb, true) :: t, by simpa using hl, hn.2⟩
   · cases hs
 by_cases ho : opensC x.Code
 · rw [if_pos ho] at hn
   unfold stepX stepF at hs
   rw [if_neg h11, if_neg h5, if_pos ho] at hs
   obtain ⟨s, _, rfl⟩ := Option.map_eq_some_iff.1 hs
   exact .inr ⟨(x.Code, false) :: st, by simp; omega, hn.2⟩
 · rw [if_neg ho, if_neg h5, if_neg h11] at hn
   rw [stepX_pl h11 h5 ho] at hs
   obtain ⟨s, _, rfl⟩ := Option.map_eq_some_iff.1 hs
   exact .inr ⟨st, by simp; omega, hn⟩
theorem envD_funcs {m : ModD} {f : FuncD} (h : FitsM m) : ∀ g ∈ (envD m f).Funcs, g.R.length ≤ 20 := fun g hg => by
 obtain ⟨k, hk⟩ := List.mem_iff_getElem?.1 hg
 have h9 := sigO_getI (f := f) (n := (k : Int)) h
 have : getI (envD m f).Funcs (k : Int) = some g := by unfold getI; rw [if_pos ⟨by have := (List.getElem?_eq_some_iff.1 hk).1; omega, by omega⟩]; simpa using hk
 rw [this] at h9
 exact (h.few g (sig_mem h9.symm)).2
theorem resI_len (x : InstrD) : (resI x).length ≤ 20 := by unfold resI; split <;> simp
structure RunP (m : ModD) (f : FuncD) (i : Nat) (hts : List Nat) (fs : List FrC) : Prop where
 few : FewF fs
 hgt : hgtF fs ≤ 20 * i
 len : fs.length ≤ 1 + i
 nest : nestK (f.Body.L.drop i) fs
 run : heightsF m f = (crun (·.Code) resI (plS (envD m f)) (f.Body.L.drop i) fs).map (hts ++ ·)
theorem RunP.init {m : ModD} {f : FuncD} (h : FitsM m) (hs : sigAt m f.Sig ∈ m.Sigs) (hn : nrun (f.Body.L.map (·.Code)) []) : RunP m f 0 [] [FrC.mk False False (sigAt m f.Sig).R ([], False)] where
 few := fun k hk => by simp only [List.mem_singleton] at hk; subst hk; exact (h.few _ hs).2
 hgt := by simp [hgtF]
 len := by simp
 nest := .inr ⟨[], by simp, by simpa using hn⟩
 run := by
  show heightsF m f = (crun _ _ _ f.Body.L _).map ([] ++ ·)
  unfold heightsF
  cases crun (fun x : InstrD => x.Code) resI (plS (envD m f)) f.Body.L [FrC.mk False False (sigAt m f.Sig).R ([], False)] <;> rfl
theorem drop_at {α : Type} {l : List α} {i : Nat} {x : α} (h : l[i]? = some x) : l.drop i = x :: l.drop (i + 1) := by
 have hl := (List.getElem?_eq_some_iff.1 h)
 rw [List.drop_eq_getElem_cons hl.1, hl.2]
theorem RunP.next {m : ModD} {f : FuncD} {i : Nat} {hts : List Nat} {fs fs' : List FrC} {b : FrC} {x : InstrD} (h : RunP m f i hts (fs ++ [b])) (hm : FitsM m) (hx : f.Body.L[i]? = some x) (hs : stepX m f x fs b = some fs') : RunP m f (i + 1) (hts ++ [hgtF (fs ++ [b])]) fs' := by
 obtain ⟨g1, g2, g3⟩ := stepF_grow (v := envD m f) (x := x) (rr := resI) (resI_len x) h.few (envD_funcs hm) (fun g hg => (hm.few g hg).2) (by have := (takes_len x.Code).2; omega) hs
 have hd := drop_at hx
 refine ⟨g1, by have := h.hgt; omega, by have := h.len; simp at this; omega, nestK_step (hd ▸ h.nest) hs, ?_⟩
 rw [h.run, hd, crun_cons]
 have hs' : stepF (fun x : InstrD => x.Code) resI (plS (envD m f)) x fs b = some fs' := hs
 rw [hs']
 simp only [Option.bind_some, Option.map_map]
 congr 1
 funext l
 simp
theorem RunP.fails {m : ModD} {f : FuncD} {i : Nat} {hts : List Nat} {fs : List FrC} {b : FrC} {x : InstrD} (h : RunP m f i hts (fs ++ [b])) (hx : f.Body.L[i]? = some x) (hs : stepX m f x fs b = none) : heightsF m f = none := by
 rw [h.run, drop_at hx, crun_cons]
 have hs' : stepF (fun x : InstrD => x.Code) resI (plS (envD m f)) x fs b = none := hs
 rw [hs']; rfl
theorem RunP.done {m : ModD} {f : FuncD} {i : Nat} {hts : List Nat} {fs : List FrC} (h : RunP m f i hts fs) (hi : f.Body.L.length ≤ i) : heightsF m f = some hts := by
 rw [h.run, List.drop_eq_nil_of_le hi]; simp [crun]
structure ModOk (m : ModD) : Prop where
 ins : ∀ f ∈ m.Funcs, ∀ x ∈ f.Body.L, InsOk0 x
 len : ∀ f ∈ m.Funcs, f.Body.L.length ≤ 2000
 loc : ∀ f ∈ m.Funcs, f.Body.Locals.length ≤ 50000
theorem ModOk.bd {m : ModD} (h : ModOk m) {f : FuncD} (hf : f ∈ m.Funcs) : BdOk f.Body := ⟨h.ins f hf, by have := h.len f hf; omega, by have := h.loc f hf; omega⟩
theorem func_sig {m : ModD} (h : FitsM m) {f : FuncD} (hf : f ∈ m.Funcs) : InP f.Sig m.Sigs.length := Classical.not_not.1 ((whenE_eq (by decide)).1 (funcs_each h.funcs f hf))
theorem func_sigO {m : ModD} (h : FitsM m) {f : FuncD} {i : Nat} (hf : m.Funcs[i]? = some f) : sigO m ((m.Imports.length : Int) + (i : Int)) = some (sigAt m f.Sig) := by
 have hl := (List.getElem?_eq_some_iff.1 hf).1
 have h1 := sigO_getI (f := f) (n := (m.Imports.length : Int) + (i : Int)) h
 rw [← h1]
 have hlen : (envD m f).Funcs.length = m.Imports.length + m.Funcs.length := by simp [envD]
 unfold getI
 rw [if_pos (by rw [hlen]; omega)]
 show (m.Imports.map (fun i => sigAt m i.Sig) ++ m.Funcs.map (fun g => sigAt m g.Sig))[_]? = _
 rw [List.getElem?_append_right (by simp; omega), List.getElem?_map, List.length_map]
 rw [show ((m.Imports.length : Int) + (i : Int)).toNat - m.Imports.length = i by omega, hf]; rfl
end Go.Hl
namespace Go.Hl
def encSlT (l : List UInt8) : List VP := [sliceV 1 encU8 l]
instance : Enc 1 encSlT := ⟨fun _ => rfl, fun x q h => by simp only [encSlT, List.mem_cons, List.not_mem_nil, or_false] at h; subst h; infer_instance⟩
end Go.Hl
namespace Go.Hl
def encFnd (x : List UInt8 × Int × Int × Int) : List VP := [strV x.1, intV .i64 x.2.1, intV .i64 x.2.2.1, intV .i64 x.2.2.2]
instance : Enc 4 encFnd := ⟨fun _ => rfl, fun x q h => by simp only [encFnd, List.mem_cons, List.not_mem_nil, or_false] at h; rcases h with h | h | h | h <;> subst h <;> infer_instance⟩
instance (x : List UInt8 × Int × Int × Int) : FlatL (encFnd x) := FlatL.of x
end Go.Hl
end
section
namespace Go.Hl
structure FitLens (m : ModD) : Prop where
 sigs : (m.Sigs.length : Int) ≤ 50
 imports : (m.Imports.length : Int) ≤ 20
 funcs : (m.Imports.length : Int) + (m.Funcs.length : Int) ≤ 100
 mems : (m.Mems.length : Int) ≤ 4
 globals : (m.Globals.length : Int) ≤ 50
 exports : (m.Exports.length : Int) ≤ 50
 elems : (m.Elems.length : Int) ≤ 20
 datas : (m.Datas.length : Int) ≤ 20
 table : -1 ≤ m.Table ∧ m.Table ≤ 1000
variable {m : ModD}
theorem fo_lens (h : FitsM m) : FitLens m where
 sigs := (manyE_zero.1 h.sigs).1
 imports := (manyE_zero.1 h.imports).1
 funcs := by
  have h5 := h.funcs
  unfold funcsE at h5
  split at h5
  · cases h5
  · unfold countM at *; omega
 mems := (manyE_zero.1 h.mems).1
 globals := (manyE_zero.1 h.globals).1
 exports := (manyE_zero.1 h.exports).1
 elems := (manyE_zero.1 h.elems).1
 datas := (manyE_zero.1 h.datas).1
 table := by
  have h5 := h.table
  unfold tableE at h5
  split at h5
  · cases h5
  · have h6 := (whenE_eq (by decide)).1 h5; omega
theorem fo_sig (h : FitsM m) {z : SigD} (hz : z ∈ m.Sigs) : TypedP z.P ∧ TypedP z.R := Classical.not_not.1 ((whenE_eq (by decide)).1 (firstE_on.1 (manyE_zero.1 h.sigs).2 z hz))
theorem fo_imp (h : FitsM m) {z : ImportD} (hz : z ∈ m.Imports) : NamedP z.Module ∧ NamedP z.Name ∧ InP z.Sig m.Sigs.length := by
 have h1 := firstE_on.1 (manyE_zero.1 h.imports).2 z hz
 unfold importE at h1
 split at h1
 · cases h1
 · rename_i h2
   exact ⟨Classical.byContradiction fun e => h2 (.inl e), Classical.byContradiction fun e => h2 (.inr e), Classical.not_not.1 ((whenE_eq (by decide)).1 h1)⟩
theorem fo_func (h : FitsM m) {z : FuncD} (hz : z ∈ m.Funcs) : InP z.Sig m.Sigs.length := Classical.not_not.1 ((whenE_eq (by decide)).1 (funcs_each h.funcs z hz))
theorem fo_mem (h : FitsM m) {z : LimitsD} (hz : z ∈ m.Mems) : 0 ≤ z.Min ∧ z.Min ≤ 65536 ∧ (z.Max < 0 ∨ z.Min ≤ z.Max ∧ z.Max ≤ 65536) := Classical.not_not.1 ((whenE_eq (by decide)).1 (firstE_on.1 (manyE_zero.1 h.mems).2 z hz))
theorem fo_global (h : FitsM m) {z : GlobalD} (hz : z ∈ m.Globals) : (z.Ty.toNat : Int) = 126 ∨ (z.Ty.toNat : Int) = 127 ∧ z.Value ≤ 4294967295 := by
 have h1 := (whenE_eq (by decide)).1 (firstE_on.1 (manyE_zero.1 h.globals).2 z hz)
 have h2 : ¬ bitsI z.Ty = 0 := fun e => h1 (.inl e)
 have h3 : ¬ ((z.Ty.toNat : Int) = 127 ∧ 4294967295 < z.Value) := fun e => h1 (.inr e)
 rw [bitsI_zero, Classical.not_not] at h2
 rcases h2 with e | e
 · exact .inl (by rw [e]; rfl)
 · exact .inr ⟨by rw [e]; rfl, Classical.byContradiction fun h4 => h3 ⟨by rw [e]; rfl, by omega⟩⟩
theorem fo_export (h : FitsM m) {i : Nat} {x : ExportD} (hx : m.Exports[i]? = some x) : NamedP x.Name ∧ (∀ j y, j < i → m.Exports[j]? = some y → y.Name ≠ x.Name) ∧
    (((x.Kind = 0 ∧ InP x.Index (countM m) ∨ (x.Kind = 1 ∧ 0 ≤ m.Table) ∧ x.Index = 0) ∨ x.Kind = 2 ∧ InP x.Index m.Mems.length) ∨ x.Kind = 3 ∧ InP x.Index m.Globals.length) := by
  have hi := (List.getElem?_eq_some_iff.1 hx).1
  have h1 : exportE m i = 0 := firstE_zero.1 (manyE_zero.1 h.exports).2 i hi
  unfold exportE at h1
  rw [hx] at h1
  simp only at h1
  split at h1
  · cases h1
  · rename_i h2
    have h3 := Classical.not_not.1 ((whenE_eq (by decide)).1 h1)
    have ht := (fo_lens h).table
    refine ⟨Classical.byContradiction fun e => h2 (.inl e), fun j y hj hy e => h2 (.inr ⟨y, List.mem_iff_getElem?.2 ⟨j, by rw [List.getElem?_take, if_pos hj]; exact hy⟩, e⟩), ?_⟩
    obtain ⟨h4, h5⟩ := h3
    unfold InP at h4
    have hw : IntKind.i64.wrap (m.Table + 1) = m.Table + 1 := by unfold IntKind.wrap; simp [IntKind.signed, IntKind.bits]; omega
    have k0 : kindJ 0 = 0 := by decide
    have k1 : kindJ 1 = 1 := by decide
    have k2 : kindJ 2 = 2 := by decide
    have k3 : kindJ 3 = 3 := by decide
    rcases (by omega : x.Kind = 0 ∨ x.Kind = 1 ∨ x.Kind = 2 ∨ x.Kind = 3) with e | e | e | e
    · rw [e, k0] at h5; exact .inl (.inl (.inl ⟨e, h5⟩))
    · rw [e, k1] at h5; unfold InP at h5; simp only [cnt, hw] at h5; exact .inl (.inl (.inr ⟨⟨e, by omega⟩, by omega⟩))
    · rw [e, k2] at h5; exact .inl (.inr ⟨e, h5⟩)
    · rw [e, k3] at h5; exact .inr ⟨e, h5⟩
theorem fo_start (h : FitsM m) (hn : m.Start ≠ -1) : InP m.Start (countM m) ∧ ∀ s, sigO m m.Start = some s → ¬ 0 < (s.P.length : Int) + (s.R.length : Int) := by
 have h1 := h.start
 unfold startE at h1
 rw [if_neg hn] at h1
 have hI : ∀ z ∈ m.Imports, importE m z = 0 := firstE_on.1 (manyE_zero.1 h.imports).2
 cases hs : sigO m m.Start with
 | none => rw [hs] at h1; cases h1
 | some s =>
  rw [hs] at h1
  refine ⟨(sig_iff hI (funcs_each h.funcs)).1 (by rw [hs]; rfl), fun s' e => ?_⟩
  cases e
  exact (whenE_eq (by decide)).1 h1
theorem fo_elem (h : FitsM m) {z : ElemD} (hz : z ∈ m.Elems) : (z.Funcs.length : Int) ≤ 20 ∧ 0 ≤ m.Table ∧ z.At ≤ 4294967295 ∧ ∀ f ∈ z.Funcs, InP f (countM m) := by
 have h1 := firstE_on.1 (manyE_zero.1 h.elems).2 z hz
 unfold elemE at h1
 split at h1
 · cases h1
 · have h2 := (whenE_eq (by decide)).1 h1
   have ht := (fo_lens h).table
   have h3 : m.Table ≠ -1 := fun e => h2 (.inl e)
   exact ⟨by omega, by omega, Classical.byContradiction fun e => h2 (.inr (.inr (by omega))), fun f hf => Classical.byContradiction fun e => h2 (.inr (.inl ⟨f, hf, e⟩))⟩
theorem fo_data (h : FitsM m) {z : DataD} (hz : z ∈ m.Datas) : (z.Bytes.length : Int) ≤ 4096 ∧ InP z.Mem m.Mems.length ∧ ∀ y, m.Mems[z.Mem.toNat]? = some y → ¬ (¬ y.Wide ∧ 4294967295 < z.At) := by
 have h1 := firstE_on.1 (manyE_zero.1 h.datas).2 z hz
 unfold dataE at h1
 split at h1
 · cases h1
 · have h2 := (whenE_eq (by decide)).1 h1
   exact ⟨by omega, Classical.byContradiction fun e => h2 (.inl e), fun y hy e => h2 (.inr ⟨y, hy, e⟩)⟩
end Go.Hl
end
section
namespace Go.Hl
open Go.RowKit
def encFd (x : Int × Int × Int) : List VP := [iV x.1, iV x.2.1, iV x.2.2]
instance : Enc 3 encFd := ⟨fun _ => rfl, fun x q h => by simp only [encFd, List.mem_cons, List.not_mem_nil, or_false] at h; rcases h with h | h | h <;> rw [h] <;> infer_instance⟩
instance (x : Int × Int × Int) : FlatL (encFd x) := FlatL.of x
def namesK : List (List UInt8) := [[117, 110, 117, 115, 101, 100], [105, 100, 108, 101], [115, 116, 105, 108, 108], [98, 97, 114, 101], [100, 101, 97, 100], [108, 111, 99, 97, 108]]
def kindN (kind : Int) : List UInt8 := if 0 ≤ kind ∧ kind < 6 then namesK.getD kind.toNat [] else []
variable {kind : Int}
theorem kindN_in (h : 0 ≤ kind ∧ kind < 6) : kindN kind = namesK.getD kind.toNat [] := if_pos h
theorem kindN_out (h : kind < 0 ∨ kind ≥ 6) : kindN kind = [] := if_neg (by omega)
def catL {α : Type} (h : Nat → List α) : Nat → List α
 | 0 => []
 | k + 1 => catL h k ++ h k
theorem catL_len {α : Type} {h : Nat → List α} {c : Nat} : ∀ {n : Nat}, (∀ i, i < n → (h i).length ≤ c) → (catL h n).length ≤ n * c
 | 0, _ => by simp [catL]
 | n + 1, e => by
  have h1 := catL_len (n := n) fun i hi => e i (by omega)
  have h2 := e n (by omega)
  have h3 : (catL h (n + 1)).length = (catL h n).length + (h n).length := List.length_append
  rw [Nat.add_mul, Nat.one_mul]; omega
theorem catL_mem {α : Type} {h : Nat → List α} {x : α} : ∀ {n : Nat}, x ∈ catL h n ↔ ∃ i, i < n ∧ x ∈ h i
 | 0 => by simp [catL]
 | n + 1 => by
  show x ∈ catL h n ++ h n ↔ _
  rw [List.mem_append, catL_mem]
  constructor
  · rintro (⟨i, hi, hx⟩ | hx)
    · exact ⟨i, by omega, hx⟩
    · exact ⟨n, by omega, hx⟩
  · rintro ⟨i, hi, hx⟩
    by_cases e : i = n
    · subst e; exact .inr hx
    · exact .inl ⟨i, by omega, hx⟩
abbrev FdT := Int × Int × Int
open Classical in
noncomputable def ifL (p : Prop) (x : FdT) : List FdT := if p then [x] else []
variable {p : Prop}
theorem ifL_yes (x : FdT) (h : p) : ifL p x = [x] := if_pos h
theorem ifL_no (x : FdT) (h : ¬ p) : ifL p x = [] := if_neg h
theorem ifL_len (p : Prop) (x : FdT) : (ifL p x).length ≤ 1 := by unfold ifL; split <;> simp
theorem lookD_upd {κ ν : Type} [DecidableEq κ] (D : List (κ × ν)) (a b : κ) (v : ν) : lookD (updD D a v) b = if b = a then some v else lookD D b := by
 have key : ∀ (D : List (κ × ν)), lookD (updD D a v) b = if b = a then some v else lookD D b := by
  intro D
  induction D with
  | nil =>
   by_cases h : b = a
   · subst h; simp [updD, lookD]
   · have h2 : ¬ a = b := fun e => h e.symm
     simp [updD, lookD, h, h2]
  | cons p D ih =>
   by_cases hp : p.1 = a
   · have h1 : updD (p :: D) a v = (a, v) :: D := by simp [updD, List.findIdx?_cons, hp]
     rw [h1]
     by_cases h : b = a
     · subst h; simp [lookD]
     · have h2 : ¬ a = b := fun e => h e.symm
       have h3 : ¬ p.1 = b := fun e => h2 (hp.symm.trans e)
       simp [lookD, List.find?_cons, h, h2, h3]
   · have h1 : updD (p :: D) a v = p :: updD D a v := by
      simp only [updD, List.map_cons, List.findIdx?_cons, hp, decide_false, Bool.false_eq_true, if_false]
      cases hf : (D.map (·.1)).findIdx? (fun k => decide (k = a)) with
      | none => simp
      | some j => simp
     rw [h1]
     by_cases h : p.1 = b
     · have h2 : ¬ b = a := fun e => hp (h.trans e)
       simp [lookD, List.find?_cons, h, h2]
     · have e1 : ∀ D' : List (κ × ν), lookD (p :: D') b = lookD D' b := fun D' => by simp [lookD, List.find?_cons, h]
       rw [e1, e1, ih]
 exact key D
abbrev MapB := List (PairK × Bool)
def putN {κ : Type} [DecidableEq κ] (D : List (κ × Bool)) (l : List κ) : List (κ × Bool) := l.foldl (fun D k => updD D k true) D
section
variable {κ : Type} [DecidableEq κ]
theorem putN_app (D : List (κ × Bool)) (l k : List κ) : putN D (l ++ k) = putN (putN D l) k := List.foldl_append
theorem putN_one (D : List (κ × Bool)) (k : κ) : putN D [k] = updD D k true := rfl
theorem putN_snoc (D : List (κ × Bool)) (l : List κ) (k : κ) : updD (putN D l) k true = putN D (l ++ [k]) := by rw [putN_app, putN_one]
theorem lookD_putN (k : κ) : ∀ (l : List κ) (D : List (κ × Bool)), lookD (putN D l) k = if k ∈ l then some true else lookD D k
 | [], D => by simp [putN]
 | a :: l, D => by
  show lookD (putN (updD D a true) l) k = _
  rw [lookD_putN k l, lookD_upd]
  by_cases h1 : k ∈ l
  · simp [h1]
  · by_cases h2 : k = a
    · simp [h2]
    · simp [h1, h2]
theorem look_names {k : κ} {l : List κ} : VLe (optV (fun b : Bool => propV (b = true)) (exactV (.bool false)) (lookD (putN [] l) k)) (propV (k ∈ l)) := by
 rw [lookD_putN]
 by_cases h : k ∈ l
 · rw [if_pos h]; exact VLe.prop (by simp [h])
 · rw [if_neg h]; exact fun S w v hv => ⟨false, hv, by simp [h, lookD]⟩
end
abbrev w64 (n : Int) : Int := Go.IntKind.i64.wrap n
variable {n : Int} {a : Int}
theorem w64_eq (ha : 0 ≤ a ∧ a < 18446744073709551616) (hn : 0 ≤ n ∧ n < 9223372036854775808) : w64 a = n ↔ a = n := by
 unfold w64 IntKind.wrap
 simp [IntKind.signed, IntKind.bits]
 omega
open Classical in
noncomputable def usesN (x : InstrD) (own : Int) : List PairK :=
 if x.Code = 16 ∧ w64 x.A ≠ own then [(0, w64 x.A)] else if x.Code = 17 then [(1, w64 x.A)] else if x.Code = 36 then [(2, w64 x.A)]
 else if formR x.Code = 10 then [(3, w64 x.A), (3, w64 x.B)] else if formR x.Code = 8 ∨ formR x.Code = 9 then [(3, w64 x.A)] else []
abbrev lkH (m : ModD) (kb mb : Nat) (o : VP) : HP := cellsH kb [ptrV (encMod m), exactV (.map (some mb)), o]
abbrev nmH (mb : Nat) (D : MapB) : HP := mapH mb kpair (fun b : Bool => propV (b = true)) D
abbrev lkO (m : ModD) (kb mb : Nat) (g : SB) (l : List FdT) (N : List PairK) : List HP := [lkH m kb mb (exactV (sval g l.length)), sliceH g 3 encFd l, nmH mb (putN [] N)]
variable {k : Nat}
theorem takeM {α β : Type} {f : α → β} {l : List α} {x : α} (h : l[k]? = some x) : (l.take k).map f ++ [f x] = (l.take (k + 1)).map f := by rw [← take_snoc h]; simp
theorem takeF {α β : Type} {f : α → List β} {l : List α} {x : α} (h : l[k]? = some x) : (l.take k).flatMap f ++ f x = (l.take (k + 1)).flatMap f := by rw [← take_snoc h]; simp
def kindX (k : Int) : Int := if k = 0 then 0 else if k = 1 then 6 else if k = 2 then 3 else 2
theorem kind_at {k : Int} (h : 0 ≤ k ∧ k ≤ 3) : ([iV 0, iV 6, iV 3, iV 2] : List VP)[k.toNat]? = some (iV (kindX k)) := by
 rcases (by omega : k = 0 ∨ k = 1 ∨ k = 2 ∨ k = 3) with e | e | e | e <;> subst e <;> rfl
abbrev nmX (m : ModD) (n : Nat) : List PairK := (m.Exports.take n).map fun e => (kindX e.Kind, e.Index)
abbrev nmE (m : ModD) (n : Nat) : List PairK := (m.Elems.take n).flatMap fun e => e.Funcs.map fun g => ((0 : Int), g)
abbrev nmD (m : ModD) (n : Nat) : List PairK := (m.Datas.take n).map fun d => ((3 : Int), d.Mem)
abbrev nmI (m : ModD) (n : Nat) : List PairK := (m.Imports.take n).map fun d => ((1 : Int), d.Sig)
abbrev nmF (m : ModD) (n : Nat) : List PairK := (m.Funcs.take n).map fun d => ((1 : Int), d.Sig)
variable {m : ModD}
theorem nmX_s {x : ExportD} (h : m.Exports[k]? = some x) : nmX m k ++ [(kindX x.Kind, x.Index)] = nmX m (k + 1) := takeM h
theorem nmE_s {x : ElemD} (h : m.Elems[k]? = some x) : nmE m k ++ x.Funcs.map (fun g => ((0 : Int), g)) = nmE m (k + 1) := takeF h
theorem nmD_s {x : DataD} (h : m.Datas[k]? = some x) : nmD m k ++ [(3, x.Mem)] = nmD m (k + 1) := takeM h
theorem nmI_s {x : ImportD} (h : m.Imports[k]? = some x) : nmI m k ++ [(1, x.Sig)] = nmI m (k + 1) := takeM h
theorem nmF_s {x : FuncD} (h : m.Funcs[k]? = some x) : nmF m k ++ [(1, x.Sig)] = nmF m (k + 1) := takeM h
def namesX (m : ModD) : List PairK := ((((nmX m m.Exports.length ++ [(0, m.Start)]) ++ nmE m m.Elems.length) ++ nmD m m.Datas.length) ++ nmI m m.Imports.length) ++ nmF m m.Funcs.length
noncomputable abbrev usesL (l : List InstrD) (own : Int) (n : Nat) : List PairK := (l.take n).flatMap fun x => usesN x own
variable {l : List InstrD} {own : Int} {y : InstrD}
theorem usesL_s {j : Nat} (h : l[j]? = some y) : usesL l own j ++ usesN y own = usesL l own (j + 1) := takeF h
def fnAt (m : ModD) (i : Nat) : FuncD := (m.Funcs[i]?).getD ⟨0, [], []⟩
variable {i : Nat} {f : FuncD}
theorem fnAt_eq (h : m.Funcs[i]? = some f) : fnAt m i = f := by unfold fnAt; rw [h]; rfl
noncomputable abbrev namesB (m : ModD) (n : Nat) : List PairK := catL (fun i => usesL (fnAt m i).Body.L ((m.Imports.length : Int) + (i : Int)) (fnAt m i).Body.L.length) n
noncomputable def namesM (m : ModD) : List PairK := namesX m ++ namesB m m.Funcs.length
def stopC (c : Int) : Prop := ((c = 0 ∨ c = 12) ∨ c = 14) ∨ c = 15
def bndC (c : Int) : Prop := (2 ≤ c ∧ c ≤ 5) ∨ c = 11
variable {c : Int}
theorem stop_bnd (h : stopC c) : ¬ bndC c := by unfold stopC bndC at *; omega
def cdI (l : List InstrD) (i : Nat) : Int := ((l[i]?).map (·.Code)).getD 11
variable {x : InstrD}
theorem cdI_eq (h : l[i]? = some x) : cdI l i = x.Code := by unfold cdI; rw [h]; rfl
open Classical in
noncomputable def stdL (l : List InstrD) : Nat → Prop
 | 0 => False
 | k + 1 => ¬ bndC (cdI l k) ∧ (stdL l k ∨ stopC (cdI l k))
abbrev behD (l : List InstrD) (n : Nat) : Prop := ¬ bndC (cdI l n) ∧ stdL l n
def deadP (l : List InstrD) (i : Nat) : Prop := 1 ≤ i ∧ stopC (cdI l (i - 1)) ∧ ¬ bndC (cdI l i) ∧ ¬ behD l (i - 1)
theorem beh_zero : ¬ behD l 0 := fun h => h.2
theorem beh_stop {n : Nat} (hn : 1 ≤ n) (hb : ¬ bndC (cdI l n)) (hs : stopC (cdI l (n - 1))) : behD l n := by
 obtain ⟨i, rfl⟩ : ∃ i, n = i + 1 := ⟨n - 1, by omega⟩
 exact ⟨hb, stop_bnd hs, .inr hs⟩
theorem beh_next {n : Nat} (hn : 1 ≤ n) (hb : ¬ bndC (cdI l n)) (hs : ¬ stopC (cdI l (n - 1))) : behD l n ↔ behD l (n - 1) := by
 obtain ⟨i, rfl⟩ : ∃ i, n = i + 1 := ⟨n - 1, by omega⟩
 exact ⟨fun h => ⟨h.2.1, h.2.2.resolve_right hs⟩, fun h => ⟨hb, h.1, .inl h.2⟩⟩
theorem beh_end {n : Nat} {q : Prop} (h : behD l n) (hq : 1 ≤ n → ¬ bndC (cdI l n) → q) : q := by
 cases n with
 | zero => exact (beh_zero h).elim
 | succ i => exact hq (by omega) h.1
theorem beh_prev {n : Nat} (hn : 1 ≤ n) (h : behD l n) : ¬ bndC (cdI l (n - 1)) := by
 obtain ⟨i, rfl⟩ : ∃ i, n = i + 1 := ⟨n - 1, by omega⟩
 exact h.2.1
theorem dead_law : deadP l k ↔ ¬ bndC (cdI l k) ∧ stdL l k ∧ 0 < k ∧ ¬ bndC (cdI l (k - 1)) ∧ ¬ behD l (k - 1) := by
 cases k with
 | zero => simp [deadP]
 | succ j =>
  simp only [deadP, Nat.add_sub_cancel, stdL, behD]
  constructor
  · rintro ⟨_, h2, h3, h4⟩
    have h5 := stop_bnd h2
    exact ⟨h3, ⟨h5, .inr h2⟩, by omega, h5, h4⟩
  · rintro ⟨h1, ⟨h2, h3⟩, _, h4, h5⟩
    exact ⟨by omega, h3.resolve_left fun h => h5 ⟨h4, h⟩, h1, h5⟩
noncomputable abbrev deadL (l : List InstrD) (f : Int) (n : Nat) : List FdT := catL (fun i => ifL (deadP l i) (4, f, (i : Int))) n
def locC (c : Int) : Prop := 32 ≤ c ∧ c ≤ 34
theorem form_6 : formR c = 6 ↔ locC c := by
 unfold formR locC
 (repeat' split) <;> simp <;> omega
open Classical in
noncomputable def locU (x : InstrD) : List Int := if locC x.Code then [w64 x.A] else []
def locP (l : List InstrD) (n : Int) : Prop := ∃ x ∈ l, locC x.Code ∧ w64 x.A = n
theorem loc_mem : n ∈ l.flatMap locU ↔ locP l n := by
 rw [List.mem_flatMap]
 unfold locP
 refine exists_congr fun x => and_congr_right fun _ => ?_
 unfold locU
 split
 · rename_i h; simp [h, eq_comm]
 · rename_i h; simp [h]
noncomputable abbrev locL (l : List InstrD) (f : Int) (n0 n : Nat) : List FdT := catL (fun i => ifL (¬ locP l ((n0 : Int) + (i : Int))) (5, f, (n0 : Int) + (i : Int))) n
noncomputable abbrev eachL (p : Int → Prop) (N : List PairK) (kind : Int) (a n : Nat) : List FdT := catL (fun j => ifL (p ((a : Int) + (j : Int)) ∧ (kind, (a : Int) + (j : Int)) ∉ N) (kind, (a : Int) + (j : Int), 0)) n
def mutG (m : ModD) (i : Int) : Prop := ∃ g, m.Globals[i.toNat]? = some g ∧ g.Mutable
noncomputable abbrev fU (m : ModD) : List FdT := eachL (fun _ => True) (namesM m) 0 m.Imports.length m.Funcs.length
noncomputable abbrev fI (m : ModD) : List FdT := eachL (fun _ => True) (namesM m) 1 0 m.Sigs.length
noncomputable abbrev fS (m : ModD) : List FdT := eachL (mutG m) (namesM m) 2 0 m.Globals.length
noncomputable abbrev fB (m : ModD) : List FdT := eachL (fun _ => True) (namesM m) 3 0 m.Mems.length
noncomputable abbrev fD (m : ModD) (n : Nat) : List FdT := catL (fun f => deadL (fnAt m f).Body.L (f : Int) (fnAt m f).Body.L.length) n
noncomputable abbrev fL (m : ModD) (n : Nat) : List FdT := catL (fun f => locL (fnAt m f).Body.L (f : Int) (sigAt m (fnAt m f).Sig).P.length (fnAt m f).Body.Locals.length) n
noncomputable def findM (m : ModD) : List FdT := ((((fU m ++ fI m) ++ fS m) ++ fB m) ++ fD m m.Funcs.length) ++ fL m m.Funcs.length
theorem eachL_len {p : Int → Prop} {N : List PairK} {a n : Nat} : (eachL p N kind a n).length ≤ n := by
 have := catL_len (h := fun j => ifL (p ((a : Int) + (j : Int)) ∧ (kind, (a : Int) + (j : Int)) ∉ N) (kind, (a : Int) + (j : Int), 0)) (c := 1) (n := n) fun i _ => ifL_len _ _
 simpa using this
theorem deadL_len {f : Int} {n : Nat} : (deadL l f n).length ≤ n := by
 have := catL_len (h := fun i => ifL (deadP l i) (4, f, (i : Int))) (c := 1) (n := n) fun i _ => ifL_len _ _
 simpa using this
theorem locL_len {f : Int} {n0 n : Nat} : (locL l f n0 n).length ≤ n := by
 have := catL_len (h := fun i => ifL (¬ locP l ((n0 : Int) + (i : Int))) (5, f, (n0 : Int) + (i : Int))) (c := 1) (n := n) fun i _ => ifL_len _ _
 simpa using this
theorem fU_len (m : ModD) : (fU m).length ≤ m.Funcs.length := eachL_len
theorem fI_len (m : ModD) : (fI m).length ≤ m.Sigs.length := eachL_len
theorem fS_len (m : ModD) : (fS m).length ≤ m.Globals.length := eachL_len
theorem fB_len (m : ModD) : (fB m).length ≤ m.Mems.length := eachL_len
theorem valid_found (h : ValidD m) : ∀ f ∈ m.Funcs, ∀ y ∈ f.Body.L, (findI y.Code).isSome = true := fun f hf y hy => find_iff.2 ((h.2 f hf).1.1 y hy).1
theorem fnAt_ok (h : ModOk m) (i : Nat) : (fnAt m i).Body.L.length ≤ 2000 ∧ (fnAt m i).Body.Locals.length ≤ 50000 := by
 unfold fnAt
 cases hf : m.Funcs[i]? with
 | none => exact ⟨by simp, by simp⟩
 | some f => exact ⟨h.len f (List.mem_of_getElem? hf), h.loc f (List.mem_of_getElem? hf)⟩
theorem fD_len (h : ModOk m) (n : Nat) : (fD m n).length ≤ n * 2000 := catL_len fun i _ => by
 have h1 := deadL_len (l := (fnAt m i).Body.L) (f := (i : Int)) (n := (fnAt m i).Body.L.length)
 have h2 := (fnAt_ok h i).1
 omega
theorem fL_len (h : ModOk m) (n : Nat) : (fL m n).length ≤ n * 50000 := catL_len fun i _ => by
 have h1 := locL_len (l := (fnAt m i).Body.L) (f := (i : Int)) (n0 := (sigAt m (fnAt m i).Sig).P.length) (n := (fnAt m i).Body.Locals.length)
 have h2 := (fnAt_ok h i).2
 omega
def hasIn (m : ModD) (but code n : Int) (k : Nat) : Prop := ∃ (i : Nat) (f : FuncD), i < k ∧ m.Funcs[i]? = some f ∧ (i : Int) ≠ but ∧ ∃ y ∈ f.Body.L, y.Code = code ∧ y.A = n
abbrev hasP (m : ModD) (but code n : Int) : Prop := hasIn m but code n m.Funcs.length
def expP (m : ModD) (kind n : Int) : Prop := ∃ e ∈ m.Exports, e.Kind = kind ∧ e.Index = n
def elemP (m : ModD) (n : Int) : Prop := ∃ e ∈ m.Elems, n ∈ e.Funcs
def memI (y : InstrD) (n : Int) : Prop := (8 ≤ formR y.Code ∧ formR y.Code ≤ 10 ∧ y.A = n) ∨ (formR y.Code = 10 ∧ y.B = n)
def memU (m : ModD) (n : Int) : Prop := ∃ f ∈ m.Funcs, ∃ y ∈ f.Body.L, memI y n
def unusedP (m : ModD) (n f : Int) : Prop := ¬ elemP m n ∧ ¬ expP m 0 n ∧ m.Start ≠ n ∧ ¬ hasP m f 16 n
def idleP (m : ModD) (s : Int) : Prop := (∀ i ∈ m.Imports, i.Sig ≠ s) ∧ (∀ i ∈ m.Funcs, i.Sig ≠ s) ∧ ¬ hasP m (-1) 17 s
def stillP (m : ModD) (i : Int) : Prop := ¬ hasP m (-1) 36 i ∧ ¬ expP m 3 i
def KindsOk (m : ModD) : Prop := ∀ e ∈ m.Exports, 0 ≤ e.Kind ∧ e.Kind ≤ 3
def bareP (m : ModD) (n : Int) : Prop := (∀ d ∈ m.Datas, d.Mem ≠ n) ∧ ¬ memU m n ∧ ¬ expP m 2 n
theorem hasIn_succ {but code : Int} (h : ¬ hasIn m but code n k) (hf : m.Funcs[k]? = some f) (hn : ∀ y ∈ f.Body.L, ¬ (((k : Int) ≠ but ∧ y.Code = code) ∧ y.A = n)) : ¬ hasIn m but code n (k + 1) := by
 rintro ⟨i, g, hi, hg, hb, y, hy, h1, h2⟩
 by_cases e : i = k
 · subst e; rw [hf] at hg; cases hg; exact hn y hy ⟨⟨hb, h1⟩, h2⟩
 · exact h ⟨i, g, by omega, hg, hb, y, hy, h1, h2⟩
theorem memI_iff : memI y n ↔ ((8 ≤ formR y.Code ∧ formR y.Code ≤ 10) ∧ y.A = n) ∨ (formR y.Code = 10 ∧ y.B = n) := by unfold memI; rw [and_assoc]
theorem mem_names {k : PairK} : k ∈ namesM m ↔ (∃ e ∈ m.Exports, (kindX e.Kind, e.Index) = k) ∨ k = (0, m.Start) ∨ (∃ e ∈ m.Elems, ∃ g ∈ e.Funcs, ((0 : Int), g) = k) ∨ (∃ d ∈ m.Datas, ((3 : Int), d.Mem) = k) ∨ (∃ d ∈ m.Imports, ((1 : Int), d.Sig) = k) ∨ (∃ d ∈ m.Funcs, ((1 : Int), d.Sig) = k) ∨
    (∃ (i : Nat) (f : FuncD), m.Funcs[i]? = some f ∧ ∃ x ∈ f.Body.L, k ∈ usesN x ((m.Imports.length : Int) + (i : Int))) := by
  unfold namesM namesX nmX nmE nmD nmI nmF namesB
  simp only [List.take_length, List.mem_append, List.mem_map, List.mem_flatMap, List.mem_singleton, catL_mem, usesL, or_assoc]
  have e : (∃ i, i < m.Funcs.length ∧ ∃ a, a ∈ (fnAt m i).Body.L ∧ k ∈ usesN a ((m.Imports.length : Int) + (i : Int))) ↔ (∃ (i : Nat) (f : FuncD), m.Funcs[i]? = some f ∧ ∃ x ∈ f.Body.L, k ∈ usesN x ((m.Imports.length : Int) + (i : Int))) := by
    constructor
    · rintro ⟨i, hi, h⟩
      obtain ⟨f, hf⟩ := getElem?_lt hi
      rw [fnAt_eq hf] at h
      exact ⟨i, f, hf, h⟩
    · rintro ⟨i, f, hf, h⟩
      exact ⟨i, (List.getElem?_eq_some_iff.1 hf).1, by rw [fnAt_eq hf]; exact h⟩
  rw [e]
theorem form_cs : formR 16 = 4 ∧ formR 17 = 5 ∧ formR 36 = 7 := by decide
theorem uses_0 : ((0 : Int), n) ∈ usesN x own ↔ x.Code = 16 ∧ w64 x.A ≠ own ∧ w64 x.A = n := by
 obtain ⟨f1, f2, f3⟩ := form_cs
 unfold usesN
 by_cases c : x.Code = 16 ∧ w64 x.A ≠ own
 · rw [if_pos c]; simp [c.1, c.2, eq_comm]
 · rw [if_neg c]
   have h : ¬ (x.Code = 16 ∧ w64 x.A ≠ own ∧ w64 x.A = n) := fun h => c ⟨h.1, h.2.1⟩
   simp only [h, iff_false]
   split <;> (try split) <;> (try split) <;> (try split) <;> simp
theorem uses_1 : ((1 : Int), n) ∈ usesN x own ↔ x.Code = 17 ∧ w64 x.A = n := by
 unfold usesN
 by_cases c : x.Code = 16 ∧ w64 x.A ≠ own
 · rw [if_pos c]; simp [c.1]
 · rw [if_neg c]
   by_cases c2 : x.Code = 17
   · rw [if_pos c2]; simp [c2, eq_comm]
   · rw [if_neg c2]
     simp only [c2, false_and, iff_false]
     split <;> (try split) <;> (try split) <;> simp
theorem uses_2 : ((2 : Int), n) ∈ usesN x own ↔ x.Code = 36 ∧ w64 x.A = n := by
 unfold usesN
 by_cases c : x.Code = 16 ∧ w64 x.A ≠ own
 · rw [if_pos c]; simp [c.1]
 · rw [if_neg c]
   by_cases c2 : x.Code = 17
   · rw [if_pos c2]; simp [c2]
   · rw [if_neg c2]
     by_cases c3 : x.Code = 36
     · rw [if_pos c3]; simp [c3, eq_comm]
     · rw [if_neg c3]
       simp only [c3, false_and, iff_false]
       split <;> (try split) <;> simp
theorem uses_3 : ((3 : Int), n) ∈ usesN x own ↔ (8 ≤ formR x.Code ∧ formR x.Code ≤ 10 ∧ w64 x.A = n) ∨ (formR x.Code = 10 ∧ w64 x.B = n) := by
 obtain ⟨f1, f2, f3⟩ := form_cs
 unfold usesN
 by_cases c : x.Code = 16 ∧ w64 x.A ≠ own
 · rw [if_pos c, c.1, f1]; simp
 · rw [if_neg c]
   by_cases c2 : x.Code = 17
   · rw [if_pos c2, c2, f2]; simp
   · rw [if_neg c2]
     by_cases c3 : x.Code = 36
     · rw [if_pos c3, c3, f3]; simp
     · rw [if_neg c3]
       by_cases c4 : formR x.Code = 10
       · rw [if_pos c4, c4]; simp [eq_comm]
       · rw [if_neg c4]
         by_cases c5 : formR x.Code = 8 ∨ formR x.Code = 9
         · rw [if_pos c5]
           simp only [List.mem_singleton, Prod.mk.injEq, true_and, c4, false_and, or_false]
           constructor
           · intro h; exact ⟨by omega, by omega, h.symm⟩
           · intro h; exact h.2.2.symm
         · rw [if_neg c5]
           simp only [List.not_mem_nil, false_iff, c4, false_and, or_false]
           omega
theorem kindX_of {k : Int} (h : 0 ≤ k ∧ k ≤ 3) : (kindX k = 0 ↔ k = 0) ∧ kindX k ≠ 1 ∧ (kindX k = 3 ↔ k = 2) ∧ (kindX k = 2 ↔ k = 3) := by
 unfold kindX
 rcases (by omega : k = 0 ∨ k = 1 ∨ k = 2 ∨ k = 3) with e | e | e | e <;> subst e <;> simp
theorem hasP_iff {but code : Int} : hasP m but code n ↔ ∃ (i : Nat) (f : FuncD), m.Funcs[i]? = some f ∧ (i : Int) ≠ but ∧ ∃ y ∈ f.Body.L, y.Code = code ∧ y.A = n :=
 ⟨fun ⟨i, f, _, h⟩ => ⟨i, f, h⟩, fun ⟨i, f, h1, h2⟩ => ⟨i, f, (List.getElem?_eq_some_iff.1 h1).1, h1, h2⟩⟩
theorem ins_rng (h : ModOk m) (hf : m.Funcs[i]? = some f) (hy : y ∈ f.Body.L) : (0 ≤ y.A ∧ y.A < 18446744073709551616) ∧ 0 ≤ y.B ∧ y.B < 18446744073709551616 :=
 have h1 := h.ins f (List.mem_of_getElem? hf) y hy
 ⟨⟨h1.A0, h1.A64⟩, h1.B0, h1.B64⟩
theorem exp_iff (hk : KindsOk m) (hx : ∀ k, 0 ≤ k ∧ k ≤ 3 → (kindX k = a ↔ k = kind)) : (∃ e ∈ m.Exports, (kindX e.Kind, e.Index) = (a, n)) ↔ expP m kind n := by
 unfold expP
 constructor
 · rintro ⟨e, he, h⟩
   rw [Prod.mk.injEq, hx _ (hk e he)] at h
   exact ⟨e, he, h⟩
 · rintro ⟨e, he, h⟩
   exact ⟨e, he, by rw [Prod.mk.injEq, hx _ (hk e he)]; exact h⟩
theorem unused_law (h : ModOk m) (hk : KindsOk m) {f : Int} (hn : 0 ≤ n ∧ n < 9223372036854775808) (hf : n = (m.Imports.length : Int) + f) : ((0 : Int), n) ∉ namesM m ↔ unusedP m n f := by
 rw [mem_names, exp_iff hk (kind := 0) fun k h => (kindX_of h).1]
 have e1 : (∃ e ∈ m.Elems, ∃ g ∈ e.Funcs, ((0 : Int), g) = (0, n)) ↔ elemP m n := by
  unfold elemP
  constructor
  · rintro ⟨e, he, g, hg, h⟩; cases h; exact ⟨e, he, hg⟩
  · rintro ⟨e, he, hg⟩; exact ⟨e, he, n, hg, rfl⟩
 have e2 : (∃ (i : Nat) (f : FuncD), m.Funcs[i]? = some f ∧ ∃ x ∈ f.Body.L, ((0 : Int), n) ∈ usesN x ((m.Imports.length : Int) + (i : Int))) ↔ hasP m f 16 n := by
  rw [hasP_iff]
  refine exists_congr fun i => exists_congr fun g => and_congr_right fun hg => ?_
  constructor
  · rintro ⟨x, hx, hu⟩
    rw [uses_0, w64_eq (ins_rng h hg hx).1 hn] at hu
    exact ⟨fun e => hu.2.1 (by rw [(w64_eq (ins_rng h hg hx).1 hn).2 hu.2.2]; omega), x, hx, hu.1, hu.2.2⟩
  · rintro ⟨hi, x, hx, h1, h2⟩
    refine ⟨x, hx, uses_0.2 ⟨h1, ?_, (w64_eq (ins_rng h hg hx).1 hn).2 h2⟩⟩
    rw [(w64_eq (ins_rng h hg hx).1 hn).2 h2]; omega
 rw [e1, e2]
 unfold unusedP
 simp
 constructor
 · rintro ⟨a, b, c, d⟩; exact ⟨c, a, fun e => b e.symm, d⟩
 · rintro ⟨a, b, c, d⟩; exact ⟨b, fun e => c e.symm, a, d⟩
theorem uses_has (h : ModOk m) (hn : 0 ≤ n ∧ n < 9223372036854775808) (hu : ∀ x own, (a, n) ∈ usesN x own ↔ x.Code = c ∧ w64 x.A = n) : (∃ (i : Nat) (f : FuncD), m.Funcs[i]? = some f ∧ ∃ x ∈ f.Body.L, (a, n) ∈ usesN x ((m.Imports.length : Int) + (i : Int))) ↔ hasP m (-1) c n := by
 rw [hasP_iff]
 refine exists_congr fun i => exists_congr fun g => and_congr_right fun hg => ?_
 constructor
 · rintro ⟨x, hx, h1⟩
   rw [hu, w64_eq (ins_rng h hg hx).1 hn] at h1
   exact ⟨by omega, x, hx, h1⟩
 · rintro ⟨_, x, hx, h1, h2⟩
   exact ⟨x, hx, (hu x _).2 ⟨h1, (w64_eq (ins_rng h hg hx).1 hn).2 h2⟩⟩
theorem idle_law (h : ModOk m) (hk : KindsOk m) (hn : 0 ≤ n ∧ n < 9223372036854775808) : ((1 : Int), n) ∉ namesM m ↔ idleP m n := by
 rw [mem_names, uses_has h hn fun x own => uses_1]
 unfold idleP
 simp
 exact fun _ _ _ e he h1 _ => (kindX_of (hk e he)).2.1 h1
theorem still_law (h : ModOk m) (hk : KindsOk m) (hn : 0 ≤ n ∧ n < 9223372036854775808) : ((2 : Int), n) ∉ namesM m ↔ stillP m n := by
 rw [mem_names, uses_has h hn fun x own => uses_2, exp_iff hk (kind := 3) fun k h => (kindX_of h).2.2.2]
 unfold stillP
 simp [and_comm]
theorem bare_law (h : ModOk m) (hk : KindsOk m) (hn : 0 ≤ n ∧ n < 9223372036854775808) : ((3 : Int), n) ∉ namesM m ↔ bareP m n := by
 rw [mem_names, exp_iff hk (kind := 2) fun k h => (kindX_of h).2.2.1]
 have e2 : (∃ (i : Nat) (f : FuncD), m.Funcs[i]? = some f ∧ ∃ x ∈ f.Body.L, ((3 : Int), n) ∈ usesN x ((m.Imports.length : Int) + (i : Int))) ↔ memU m n := by
  unfold memU memI
  constructor
  · rintro ⟨i, f, hf, x, hx, h1⟩
    obtain ⟨ra, rb⟩ := ins_rng h hf hx
    rw [uses_3, w64_eq ra hn, w64_eq rb hn] at h1
    exact ⟨f, List.mem_of_getElem? hf, x, hx, h1⟩
  · rintro ⟨f, hf, x, hx, h1⟩
    obtain ⟨i, hi⟩ := List.mem_iff_getElem?.1 hf
    obtain ⟨ra, rb⟩ := ins_rng h hi hx
    exact ⟨i, f, hi, x, hx, by rw [uses_3, w64_eq ra hn, w64_eq rb hn]; exact h1⟩
 rw [e2]
 unfold bareP
 simp
 constructor
 · rintro ⟨a, b, c⟩; exact ⟨b, c, a⟩
 · rintro ⟨a, b, c⟩; exact ⟨c, a, b⟩
theorem valid_kinds (h : ValidD m) : KindsOk m := fun e he => by
 obtain ⟨i, hi⟩ := List.mem_iff_getElem?.1 he
 have := (fo_export h.1 hi).2.2
 omega
theorem mutG_at {g : GlobalD} (h : m.Globals[k]? = some g) : mutG m (((0 : Nat) : Int) + (k : Int)) ↔ g.Mutable := by
 have e : (((0 : Nat) : Int) + (k : Int)).toNat = k := by omega
 unfold mutG
 rw [e, h]
 exact ⟨fun ⟨g2, h2, h3⟩ => by cases h2; exact h3, fun h3 => ⟨g, rfl, h3⟩⟩
theorem std_bnd (h : bndC (cdI l k)) : ¬ stdL l (k + 1) := fun h2 => h2.1 h
theorem std_on (hb : ¬ bndC (cdI l k)) (h : stdL l k) : stdL l (k + 1) := ⟨hb, .inl h⟩
theorem std_off (hb : ¬ bndC (cdI l k)) (h : ¬ stdL l k) : stopC (cdI l k) ↔ stdL l (k + 1) := ⟨fun h2 => ⟨hb, .inr h2⟩, fun h2 => h2.2.resolve_left h⟩
theorem dead_bnd (h : bndC (cdI l k)) : ¬ deadP l k := fun h2 => h2.2.2.1 h
theorem dead_no (h : ¬ stdL l k) : ¬ deadP l k := fun h2 => h (dead_law.1 h2).2.1
theorem locP_snoc {t : Nat} (h : l[t]? = some y) (ha : 0 ≤ y.A ∧ y.A < 18446744073709551616) (hn : 0 ≤ n ∧ n < 9223372036854775808) : (locP (l.take t) n ∨ ((y.Code ≥ 32 ∧ y.Code ≤ 34) ∧ y.A = n)) ↔ locP (l.take (t + 1)) n := by
 rw [← take_snoc h]
 unfold locP
 rw [← w64_eq ha hn]
 constructor
 · rintro (⟨x, hx, h1⟩ | ⟨h1, h2⟩)
   · exact ⟨x, List.mem_append_left _ hx, h1⟩
   · exact ⟨y, by simp, h1, h2⟩
 · rintro ⟨x, hx, h1, h2⟩
   rcases List.mem_append.1 hx with hx | hx
   · exact .inl ⟨x, hx, h1, h2⟩
   · simp only [List.mem_singleton] at hx; subst hx; exact .inr ⟨h1, h2⟩
theorem ifL_mem {x y : FdT} (h : x ∈ ifL p y) : p ∧ x = y := by
 unfold ifL at h
 split at h
 · exact ⟨by assumption, by simpa using h⟩
 · cases h
theorem eachL_ok {p : Int → Prop} {N : List PairK} {a n : Nat} {x : FdT} (h : x ∈ eachL p N kind a n) (hn : a + n ≤ 100000) : 0 ≤ x.2.1 ∧ x.2.1 ≤ 1000000 ∧ 0 ≤ x.2.2 ∧ x.2.2 ≤ 1000000 := by
 obtain ⟨i, hi, hx⟩ := catL_mem.1 h
 obtain ⟨_, rfl⟩ := ifL_mem hx
 simp only; omega
theorem find_ok (hv : ValidD m) (ho : ModOk m) : ∀ x ∈ findM m, 0 ≤ x.2.1 ∧ x.2.1 ≤ 1000000 ∧ 0 ≤ x.2.2 ∧ x.2.2 ≤ 1000000 := fun x hx => by
 have hl := hv.1.lens
 have hc : (m.Imports.length : Int) + (m.Funcs.length : Int) ≤ 100 := hl.2.2.2.2
 unfold findM at hx
 simp only [List.mem_append] at hx
 rcases hx with ((((h | h) | h) | h) | h) | h
 · exact eachL_ok h (by omega)
 · exact eachL_ok h (by omega)
 · exact eachL_ok h (by omega)
 · exact eachL_ok h (by omega)
 · obtain ⟨i, hi, h⟩ := catL_mem.1 h
   obtain ⟨j, hj, h⟩ := catL_mem.1 h
   obtain ⟨_, rfl⟩ := ifL_mem h
   have := (fnAt_ok ho i).1
   simp only; omega
 · obtain ⟨i, hi, h⟩ := catL_mem.1 h
   obtain ⟨j, hj, h⟩ := catL_mem.1 h
   obtain ⟨_, rfl⟩ := ifL_mem h
   obtain ⟨f, hf⟩ := getElem?_lt hi
   have h1 := (fnAt_ok ho i).2
   rw [fnAt_eq hf] at hj h1 ⊢
   have h2 := (hv.1.few _ (sigAt_mem (func_sig hv.1 (List.mem_of_getElem? hf))).2).1
   simp only; omega
theorem find_len (hv : ValidD m) (ho : ModOk m) : (findM m).length ≤ 10000000 := by
 have hl := hv.1.lens
 have hc : (m.Imports.length : Int) + (m.Funcs.length : Int) ≤ 100 := hl.2.2.2.2
 have h1 := fU_len m; have h2 := fI_len m; have h3 := fS_len m; have h4 := fB_len m; have h5 := fD_len ho m.Funcs.length; have h6 := fL_len ho m.Funcs.length
 unfold findM
 simp only [List.length_append]
 omega
end Go.Hl
end
section
namespace Go.Proofs.YtpahnbgfmhcndaaGreatDoor
open Go.Hl
def encPart (p : List UInt8 × Int) : List VP := [strV p.1, funV Tryz.prog (fun _ : Unit => True) (fun _ => []) (fun _ => intV .i64 p.2)]
instance : Enc 2 encPart := ⟨fun _ => rfl, fun x q h => by simp only [encPart, List.mem_cons, List.not_mem_nil, or_false] at h; rcases h with h | h <;> rw [h] <;> infer_instance⟩
instance (x : List UInt8 × Int) : FlatL (encPart x) := FlatL.of x
noncomputable def partsM (m : ModD) : List (List UInt8 × Int) := [([115, 105, 103, 115], sigsE m), ([105, 109, 112, 111, 114, 116, 115], importsE m), ([102, 117, 110, 99, 115], funcsE m), ([116, 97, 98, 108, 101], tableE m), ([109, 101, 109, 115], memsE m), ([103, 108, 111, 98, 97, 108, 115], globalsE m), ([101, 120, 112, 111, 114, 116, 115], exportsE m), ([115, 116, 97, 114, 116], startE m), ([101, 108, 101, 109, 115], elemsE m), ([100, 97, 116, 97], datasE m)]
noncomputable def fitP (m : ModD) : List UInt8 × Int := ((partsM m).find? fun p => p.2 != 0).getD ([], 0)
variable {m : ModD}
theorem fit_at {k : Nat} {p : List UInt8 × Int} (h : NotB (fun p : List UInt8 × Int => p.2 ≠ 0) (partsM m) k) (hp : (partsM m)[k]? = some p) (hn : p.2 ≠ 0) : fitP m = p := by
 unfold fitP
 have key : ∀ (l : List (List UInt8 × Int)) (k : Nat), NotB (fun p : List UInt8 × Int => p.2 ≠ 0) l k → l[k]? = some p → l.find? (fun p => p.2 != 0) = some p := by
  intro l
  induction l with
  | nil => intro k _ h; simp at h
  | cons x l ih =>
   intro k h hk
   cases k with
   | zero => simp at hk; subst hk; simp [hn]
   | succ k =>
    have h0 := h 0 x (by omega) rfl
    simp only [ne_eq, Classical.not_not] at h0
    rw [List.find?_cons_of_neg (by simp [h0])]
    exact ih k (fun j y hj hy => h (j + 1) y (by omega) (by simpa using hy)) (by simpa using hk)
 rw [key _ k h hp]; rfl
theorem fit_none (h : ∀ p ∈ partsM m, ¬ p.2 ≠ 0) : fitP m = ([], 0) := by
 unfold fitP
 rw [List.find?_eq_none.2 (fun p hp => by have := h p hp; simpa using this)]; rfl
theorem fit_zero : (fitP m).2 = 0 ↔ ∀ p ∈ partsM m, p.2 = 0 := by
 constructor
 · intro h p hp
   unfold fitP at h
   cases hf : (partsM m).find? (fun p => p.2 != 0) with
   | none => have := List.find?_eq_none.1 hf p hp; simpa using this
   | some x => rw [hf] at h; have := List.find?_some hf; simp at this h; exact absurd h this
 · intro h; rw [fit_none (fun p hp => by simpa using h p hp)]
theorem parts_len : (partsM m).length = 10 := rfl
end Go.Proofs.YtpahnbgfmhcndaaGreatDoor
end
section
namespace Go.Proofs.YtpahnbgfmhcndaaGreatDoor
open Go.Hl Go.RowKit
theorem has_spec {n m : Int} : FnP Tryz.prog 73 [intV .i64 n, intV .i64 m] (propV (InP n m)) := by
 refine In 12 Tryz.func73 fun _ _ _ => ?_
 refine Z18 ?_
 refine Rt1 ?_
 first | exact VLe.refl _ | exact VLe.int (by omega) | exact VLe.prop (by omega) | exact VLe.prop (by simp_all) | exact VLe.prop (by simp; omega)
theorem lin_spec {n m : Int} : FnP Tryz.prog 59 [intV .i64 n, intV .i64 m] (propV (InP n m)) := by
 refine In 12 Tryz.func59 fun _ _ _ => ?_
 refine Z18 ?_
 refine Rt1 ?_
 first | exact VLe.refl _ | exact VLe.int (by omega) | exact VLe.prop (by omega) | exact VLe.prop (by simp_all) | exact VLe.prop (by simp; omega)
theorem when_spec {p : Prop} {e : Int} : FnP Tryz.prog 150 [propV p, intV .i64 e] (intV .i64 (whenE p e)) := by
 refine In 7 Tryz.func150 fun _ _ _ => ?_
 refine Z11 ?_
 refine Cd (fun c0 => ?_) fun c0 => ?_
 ·
  refine Z8 ?_
  refine Rt1 ?_
  exact VLe.int (by simp [whenE, *])
 refine Z8 ?_
 refine Rt1 ?_
 exact VLe.int (by simp [whenE, *])
theorem bits_spec {t : UInt8} : FnP Tryz.prog 159 [intV .u8 (t.toNat : Int)] (intV .i64 (bitsI t)) := by
 refine In 8 Tryz.func159 fun _ _ _ => ?_
 refine Z18 ?_
 refine Cd (fun c0 => ?_) fun c0 => ?_
 ·
  refine Z8 ?_
  refine Rt1 ?_
  exact VLe.int (by simp [bitsI, *])
 refine Z6 ?_
 refine Cd (fun c1 => ?_) fun c1 => ?_
 ·
  refine Z8 ?_
  refine Rt1 ?_
  exact VLe.int (by simp [bitsI, *])
 refine Z9 ?_
 refine Rt1 ?_
 exact VLe.int (by simp [bitsI, *])
theorem fewc_spec {t : UInt8} : FnP Tryz.prog 197 [intV .u8 (t.toNat : Int)] (propV (bitsI t = 0)) := by
 refine In 6 Tryz.func197 fun _ _ _ => ?_
 refine Z8 ?_
 refine .p (cA (h := bits_spec)) rfl ?_
 refine Z5 ?_
 refine Rt1 ?_
 first | exact VLe.refl _ | exact VLe.int (by omega) | exact VLe.prop (by omega) | exact VLe.prop (by simp_all) | exact VLe.prop (by simp; omega)
variable {l : List UInt8}
theorem idxType_spec {p : UInt8 → Prop} : FnP Tryz.prog 215 [sliceV 1 encU8 l, funV Tryz.prog (fun _ : UInt8 => True) (fun x => [intV .u8 (x.toNat : Int)]) (fun x => propV (p x))] (intV .i64 (idxF p l)) := by
 refine In 19 Tryz.func215 fun _ _ _ => ?_
 refine .fact (t := 0) rfl (fun S w v h => sliceV_len h) fun hlen => ?_
 refine Z14 ?_
 refine .loopO (σ := Nat) (fun _ => []) (fun k => [(8, intV .i64 (k : Int))]) (fun k => k ≤ l.length ∧ NotB p l k) (fun k => l.length - k) 0 ⟨by omega, NotB.zero p l⟩ rfl ?_ ?_
 · exact (.get rfl (VLe.refl _) (.refl _ _))
 rintro k ⟨hk, hnot⟩
 refine Z6 ?_
 refine Cd (fun c0 => ?_) fun c0 => ?_
 ·
  obtain ⟨x, hx⟩ := getElem?_lt (xs := l) (k := k) (by omega)
  refine Z15 ?_
  refine .p (cI _) rfl ?_
  refine Z1 ?_
  refine .p (cV x) rfl ?_
  refine Z2 ?_
  refine Cd (fun c1 => ?_) fun c1 => ?_
  ·
   refine Z12 ?_
   refine Rt1 ?_
   exact VLe.int (idxF_at hx (by assumption) hnot).symm
  refine Z7 ?_
  refine .round (k + 1) ⟨by omega, hnot.succ hx (by assumption)⟩ (by omega) rfl ?_
  exact (.get rfl (VLe.int (by omega)) (.keep 12 rfl rfl))
 refine Z11 ?_
 refine Rt1 ?_
 exact VLe.int (idxF_none (hnot.all (by omega))).symm
theorem conType_spec {p : UInt8 → Prop} : FnP Tryz.prog 196 [sliceV 1 encU8 l, funV Tryz.prog (fun _ : UInt8 => True) (fun x => [intV .u8 (x.toNat : Int)]) (fun x => propV (p x))] (propV (∃ x ∈ l, p x)) := by
 refine In 9 Tryz.func196 fun _ _ _ => ?_
 refine Z9 ?_
 refine .p (cA (h := idxType_spec)) rfl ?_
 refine Z5 ?_
 refine Rt1 ?_
 exact VLe.prop idxF_nonneg
theorem idxInt_spec {l : List Int} {p : Int → Prop} : FnP Tryz.prog 185 [sliceV 1 encInt l, funV Tryz.prog (fun _ : Int => True) (fun x => [intV .i64 x]) (fun x => propV (p x))] (intV .i64 (idxF p l)) := by
 refine In 19 Tryz.func185 fun _ _ _ => ?_
 refine .fact (t := 0) rfl (fun S w v h => sliceV_len h) fun hlen => ?_
 refine Z14 ?_
 refine .loopO (σ := Nat) (fun _ => []) (fun k => [(8, intV .i64 (k : Int))]) (fun k => k ≤ l.length ∧ NotB p l k) (fun k => l.length - k) 0 ⟨by omega, NotB.zero p l⟩ rfl ?_ ?_
 · exact (.get rfl (VLe.refl _) (.refl _ _))
 rintro k ⟨hk, hnot⟩
 refine Z6 ?_
 refine Cd (fun c0 => ?_) fun c0 => ?_
 ·
  obtain ⟨x, hx⟩ := getElem?_lt (xs := l) (k := k) (by omega)
  refine Z15 ?_
  refine .p (cI _) rfl ?_
  refine Z1 ?_
  refine .p (cV x) rfl ?_
  refine Z2 ?_
  refine Cd (fun c1 => ?_) fun c1 => ?_
  ·
   refine Z12 ?_
   refine Rt1 ?_
   exact VLe.int (idxF_at hx (by assumption) hnot).symm
  refine Z7 ?_
  refine .round (k + 1) ⟨by omega, hnot.succ hx (by assumption)⟩ (by omega) rfl ?_
  exact (.get rfl (VLe.int (by omega)) (.keep 12 rfl rfl))
 refine Z11 ?_
 refine Rt1 ?_
 exact VLe.int (idxF_none (hnot.all (by omega))).symm
theorem conInt_spec {l : List Int} {p : Int → Prop} : FnP Tryz.prog 165 [sliceV 1 encInt l, funV Tryz.prog (fun _ : Int => True) (fun x => [intV .i64 x]) (fun x => propV (p x))] (propV (∃ x ∈ l, p x)) := by
 refine In 9 Tryz.func165 fun _ _ _ => ?_
 refine Z9 ?_
 refine .p (cA (h := idxInt_spec)) rfl ?_
 refine Z5 ?_
 refine Rt1 ?_
 exact VLe.prop idxF_nonneg
theorem idxExport_spec {l : List ExportD} {p : ExportD → Prop} : FnP Tryz.prog 184 [sliceV 3 encExport l, funV Tryz.prog (fun _ : ExportD => True) (fun x => [aggV (encExport x)]) (fun x => propV (p x))] (intV .i64 (idxF p l)) := by
 refine In 19 Tryz.func184 fun _ _ _ => ?_
 refine .fact (t := 0) rfl (fun S w v h => sliceV_len h) fun hlen => ?_
 refine Z14 ?_
 refine .loopO (σ := Nat) (fun _ => []) (fun k => [(8, intV .i64 (k : Int))]) (fun k => k ≤ l.length ∧ NotB p l k) (fun k => l.length - k) 0 ⟨by omega, NotB.zero p l⟩ rfl ?_ ?_
 · exact (.get rfl (VLe.refl _) (.refl _ _))
 rintro k ⟨hk, hnot⟩
 refine Z6 ?_
 refine Cd (fun c0 => ?_) fun c0 => ?_
 ·
  obtain ⟨x, hx⟩ := getElem?_lt (xs := l) (k := k) (by omega)
  refine Z15 ?_
  refine .p (cI _) rfl ?_
  refine Z1 ?_
  refine .p (cV x) rfl ?_
  refine Z2 ?_
  refine Cd (fun c1 => ?_) fun c1 => ?_
  ·
   refine Z12 ?_
   refine Rt1 ?_
   exact VLe.int (idxF_at hx (by assumption) hnot).symm
  refine Z7 ?_
  refine .round (k + 1) ⟨by omega, hnot.succ hx (by assumption)⟩ (by omega) rfl ?_
  exact (.get rfl (VLe.int (by omega)) (.keep 12 rfl rfl))
 refine Z11 ?_
 refine Rt1 ?_
 exact VLe.int (idxF_none (hnot.all (by omega))).symm
theorem conExport_spec {l : List ExportD} {p : ExportD → Prop} : FnP Tryz.prog 162 [sliceV 3 encExport l, funV Tryz.prog (fun _ : ExportD => True) (fun x => [aggV (encExport x)]) (fun x => propV (p x))] (propV (∃ x ∈ l, p x)) := by
 refine In 9 Tryz.func162 fun _ _ _ => ?_
 refine Z9 ?_
 refine .p (cA (h := idxExport_spec)) rfl ?_
 refine Z5 ?_
 refine Rt1 ?_
 exact VLe.prop idxF_nonneg
theorem few_spec : FnP Tryz.prog 183 [sliceV 1 encU8 l] (propV (TypedP l)) := by
 refine In 11 Tryz.func183 fun _ _ _ => ?_
 refine Z12 ?_
 refine .g (OpG.gT rfl rfl rfl rfl (fun hg => opCall (conType_spec) FB.out (.cons (.when (.t rfl) hg) (.cons (.le (.f _) (funV_of FB.out (fun (b : UInt8) (_ : True) => fewc_spec (t := b)))) .nil)))) rfl rfl ?_
 refine Z6 ?_
 refine Rt1 ?_
 exact VLe.prop typed_iff
theorem right_spec {s : SigD} : FnP Tryz.prog 151 [aggV (encSig s)] (propV (RightP s)) := by
 refine In 11 Tryz.func151 fun _ _ _ => ?_
 refine Z10 ?_
 refine .p (cA (h := few_spec)) rfl ?_
 refine Z3 ?_
 refine .g (OpG.gT rfl rfl rfl rfl (fun hg => opCall (few_spec) FB.out (.cons (.when (.t rfl) hg) .nil))) rfl rfl ?_
 refine Z5 ?_
 refine Rt1 ?_
 first | exact VLe.refl _ | exact VLe.int (by omega) | exact VLe.prop (by omega) | exact VLe.prop (by simp_all) | exact VLe.prop (by simp; omega)
theorem lright_spec {l : LimitsD} {most : Int} : FnP Tryz.prog 157 [aggV (encLimits l), intV .i64 most] (propV (LimitsP l most)) := by
 refine In 32 Tryz.func157 fun _ _ _ => ?_
 refine Z39 ?_
 refine Rt1 ?_
 exact VLe.prop (by unfold LimitsP; constructor <;> (intro h; omega))
theorem named_spec : FnP Tryz.prog 153 [strV l] (propV (NamedP l)) := by
 refine In 27 Tryz.func153 fun _ _ _ => ?_
 refine .fact (t := 0) rfl (fun S w v h => strV_len h) fun hlen => ?_
 refine Z14 ?_
 refine .loopO (σ := Nat) (fun _ => []) (fun k => [(6, intV .i64 (k : Int))]) (fun k => k ≤ l.length ∧ NotB (fun b : UInt8 => (b.toNat : Int) < 33 ∨ 126 < (b.toNat : Int)) l k) (fun k => l.length - k) 0 ⟨by omega, NotB.zero _ l⟩ rfl ?_ ?_
 · exact (.get rfl (VLe.refl _) (.refl _ _))
 rintro k ⟨hk, hnot⟩
 refine Z6 ?_
 refine Cd (fun c0 => ?_) fun c0 => ?_
 ·
  obtain ⟨x, hx⟩ := getElem?_lt (xs := l) (k := k) (by omega)
  refine Z14 ?_
  refine .p (opIndexS FU.out (.t rfl) (.t rfl) rfl (by assumption)) rfl ?_
  refine Z4 ?_
  refine .g (OpG.gF rfl rfl rfl rfl (fun hg => opIndexS FU.out (.when (.t rfl) hg) (.when (.t rfl) hg) rfl (by assumption))) rfl rfl ?_
  refine Z4 ?_
  refine Cd (fun c1 => ?_) fun c1 => ?_
  ·
   refine Z11 ?_
   refine Rt1 ?_
   exact VLe.prop (named_bad hx (by assumption)).symm
  refine Z7 ?_
  refine .round (k + 1) ⟨by omega, hnot.succ hx (by assumption)⟩ (by omega) rfl ?_
  exact (.get rfl (VLe.int (by omega)) (.keep 16 rfl rfl))
 refine Z8 ?_
 refine .p (opNeqS (.t rfl) (.s [] rfl rfl)) rfl ?_
 refine Z9 ?_
 refine Rt1 ?_
 exact VLe.prop (named_iff (hnot.all (by omega)))
theorem lnamed_spec : FnP Tryz.prog 58 [strV l] (propV (NamedP l)) := by
 refine In 28 Tryz.func58 fun _ _ _ => ?_
 refine .fact (t := 0) rfl (fun S w v h => strV_len h) fun hlen => ?_
 refine Z12 ?_
 refine .loopO (σ := Nat) (fun _ => []) (fun k => [(3, intV .i64 (k : Int))]) (fun k => k ≤ l.length ∧ NotB (fun b : UInt8 => (b.toNat : Int) < 33 ∨ 126 < (b.toNat : Int)) l k) (fun k => l.length - k) 0 ⟨by omega, NotB.zero _ l⟩ rfl ?_ ?_
 · exact (.get rfl (VLe.refl _) (.refl _ _))
 rintro k ⟨hk, hnot⟩
 refine Z9 ?_
 refine Cd (fun c0 => ?_) fun c0 => ?_
 ·
  obtain ⟨x, hx⟩ := getElem?_lt (xs := l) (k := k) (by omega)
  refine Z8 ?_
  refine .p (opIndexS FU.out (.t rfl) (.t rfl) rfl (by assumption)) rfl ?_
  refine Z4 ?_
  refine .g (OpG.gF rfl rfl rfl rfl (fun hg => opIndexS FU.out (.when (.t rfl) hg) (.when (.t rfl) hg) rfl (by assumption))) rfl rfl ?_
  refine Z4 ?_
  refine Cd (fun c1 => ?_) fun c1 => ?_
  ·
   refine Z11 ?_
   refine Rt1 ?_
   exact VLe.prop (named_bad hx (by assumption)).symm
  refine Z8 ?_
  refine .round (k + 1) ⟨by omega, hnot.succ hx (by assumption)⟩ (by omega) rfl ?_
  exact (.get rfl (VLe.int (by omega)) (.keep 18 rfl rfl))
 refine Z19 ?_
 refine Rt1 ?_
 exact VLe.prop (named_iff2 (hnot.all (by omega)))
theorem typed_spec : FnP Tryz.prog 57 [sliceV 1 encU8 l] (propV (TypedP l)) := by
 refine In 25 Tryz.func57 fun _ _ _ => ?_
 refine .fact (t := 0) rfl (fun S w v h => sliceV_len h) fun hlen => ?_
 refine Z12 ?_
 refine .loopO (σ := Nat) (fun _ => []) (fun k => [(3, intV .i64 (k : Int))]) (fun k => k ≤ l.length ∧ NotB (fun b : UInt8 => (b.toNat : Int) ≠ 126 ∧ (b.toNat : Int) ≠ 127) l k) (fun k => l.length - k) 0 ⟨by omega, NotB.zero _ l⟩ rfl ?_ ?_
 · exact (.get rfl (VLe.refl _) (.refl _ _))
 rintro k ⟨hk, hnot⟩
 refine Z9 ?_
 refine Cd (fun c0 => ?_) fun c0 => ?_
 ·
  obtain ⟨x, hx⟩ := getElem?_lt (xs := l) (k := k) (by omega)
  refine Z8 ?_
  refine .p (cI _) rfl ?_
  refine Z5 ?_
  refine .g (OpG.gT rfl rfl rfl rfl (fun hg => opIndexAddr FU.out FC.out rfl (.when (.t rfl) hg) (.when (.t rfl) hg) rfl (by assumption))) rfl rfl ?_
  refine Z5 ?_
  refine Cd (fun c1 => ?_) fun c1 => ?_
  ·
   refine Z11 ?_
   refine Rt1 ?_
   exact VLe.prop (typed_bad hx (by assumption)).symm
  refine Z8 ?_
  refine .round (k + 1) ⟨by omega, hnot.succ hx (by assumption)⟩ (by omega) rfl ?_
  exact (.get rfl (VLe.int (by omega)) (.keep 20 rfl rfl))
 refine Z14 ?_
 refine Rt1 ?_
 exact VLe.prop (typed_iff2 (hnot.all (by omega)))
theorem first_spec {n : Nat} {g : Nat → Int} (hp0 : n ≤ 281474976710656) : FnP Tryz.prog 154 [intV .i64 (n : Int), funV Tryz.prog (fun i : Nat => i < n) (fun i => [intV .i64 (i : Int)]) (fun i => intV .i64 (g i))] (intV .i64 (firstE g n)) := by
 refine In 18 Tryz.func154 fun _ _ _ => ?_
 refine Z13 ?_
 refine .loopO (σ := Nat) (fun _ => []) (fun k => [(8, intV .i64 (k : Int))]) (fun k => k ≤ n ∧ firstE g k = 0) (fun k => n - k) 0 ⟨by omega, rfl⟩ rfl ?_ ?_
 · exact (.get rfl (VLe.refl _) (.refl _ _))
 rintro k ⟨hk, hg⟩
 refine Z6 ?_
 refine Cd (fun c0 => ?_) fun c0 => ?_
 ·
  refine Z14 ?_
  refine .p (cV k (h := by show k < n; omega)) rfl ?_
  refine Z9 ?_
  refine Cd (fun c1 => ?_) fun c1 => ?_
  ·
   refine Z12 ?_
   refine Rt1 ?_
   exact VLe.int (firstE_at hg c1 (by omega)).symm
  refine Z7 ?_
  refine .round (k + 1) ⟨by omega, by simp only [firstE, hg]; simpa using c1⟩ (by omega) rfl ?_
  exact (.get rfl (VLe.int (by omega)) (.keep 12 rfl rfl))
 refine Z11 ?_
 refine Rt1 ?_
 exact VLe.int (by rw [show n = k by omega]; exact hg.symm)
theorem many_spec {n : Nat} {most : Int} {g : Nat → Int} (hp0 : n ≤ 281474976710656) : FnP Tryz.prog 148 [intV .i64 (n : Int), intV .i64 most, funV Tryz.prog (fun i : Nat => i < n) (fun i => [intV .i64 (i : Int)]) (fun i => intV .i64 (g i))] (intV .i64 (manyE n most g)) := by
 refine In 13 Tryz.func148 fun _ _ _ => ?_
 refine Z13 ?_
 refine Cd (fun c0 => ?_) fun c0 => ?_
 ·
  refine Z7 ?_
  refine Rt1 ?_
  exact VLe.int (by simp [manyE, *])
 refine Z6 ?_
 refine .p (cA (h := first_spec (by first | assumption | omega))) rfl ?_
 refine Z4 ?_
 refine Rt1 ?_
 exact VLe.int (by simp [manyE, *])
variable {m : ModD}
theorem count_spec : FnP Tryz.prog 25 [ptrV (encMod m)] (intV .i64 (countM m)) := by
 refine In 16 Tryz.func25 fun _ _ _ => ?_
 refine .fact (t := 0) rfl (fun S w v h => modLens h) fun hl => ?_
 have hl1 := hl.sigs; have hl2 := hl.imports; have hl3 := hl.funcs; have hl4 := hl.mems; have hl5 := hl.globals; have hl6 := hl.exports; have hl7 := hl.elems; have hl8 := hl.datas
 refine Z12 ?_
 refine Cd (fun c0 => ?_) fun c0 => ?_
 · exact c0.elim
 refine Z3 ?_
 refine .drawK 10 2 FM.out (by kernel_rfl) (k := ?_)
 refine Z16 ?_
 refine Rt1 ?_
 first | exact VLe.refl _ | exact VLe.int (by omega) | exact VLe.prop (by omega) | exact VLe.prop (by simp_all) | exact VLe.prop (by simp; omega)
variable {i : Nat}
theorem sigsc_spec (hp0 : i < m.Sigs.length) : FnP Tryz.prog 149 [intV .i64 (i : Int), ptrV [ptrV (encMod m)]] (intV .i64 (onI m.Sigs sigE i)) := by
 refine In 14 Tryz.func149 fun _ _ _ => ?_
 refine .fact (t := 1) rfl (fun S w v h => modLens2 h) fun hl => ?_
 have hl1 := hl.sigs; have hl2 := hl.imports; have hl3 := hl.funcs; have hl4 := hl.mems; have hl5 := hl.globals; have hl6 := hl.exports; have hl7 := hl.elems; have hl8 := hl.datas
 obtain ⟨x, hx⟩ := getElem?_lt hp0
 refine Z12 ?_
 refine .p (cI _) rfl ?_
 refine Z1 ?_
 refine .p (cA (h := right_spec)) rfl ?_
 refine Z1 ?_
 refine .p (cA (h := when_spec)) rfl ?_
 refine Z4 ?_
 refine Rt1 ?_
 exact VLe.int (by rw [onI_eq hx]; rfl)
theorem importsc_spec (hp0 : i < m.Imports.length) : FnP Tryz.prog 152 [intV .i64 (i : Int), ptrV [ptrV (encMod m)]] (intV .i64 (onI m.Imports (importE m) i)) := by
 refine In 32 Tryz.func152 fun _ _ _ => ?_
 refine .fact (t := 1) rfl (fun S w v h => modLens2 h) fun hl => ?_
 have hl1 := hl.sigs; have hl2 := hl.imports; have hl3 := hl.funcs; have hl4 := hl.mems; have hl5 := hl.globals; have hl6 := hl.exports; have hl7 := hl.elems; have hl8 := hl.datas
 obtain ⟨x, hx⟩ := getElem?_lt hp0
 refine Z12 ?_
 refine .p (cI _) rfl ?_
 refine Z1 ?_
 refine .n (opAlloc FZ.out) rfl fun b4 _ => ?_
 refine Z3 ?_
 refine .share (t := 4) (i := 0) rfl rfl ?_
 refine Z5 ?_
 refine .p (cA (h := named_spec)) rfl ?_
 refine Z4 ?_
 refine .g (OpG.gF rfl rfl rfl rfl (fun hg => opCall (named_spec) FB.out (.cons (.when (.t rfl) hg) .nil))) rfl rfl ?_
 refine Z4 ?_
 refine Cd (fun c0 => ?_) fun c0 => ?_
 ·
  refine Z7 ?_
  refine Rt1 ?_
  exact VLe.int (by rw [onI_eq hx]; simp only [importE]; first | rw [if_pos (by assumption)] | rw [if_neg (by assumption)])
 refine Z3 ?_
 refine .drawK 7 4 FM.out (by kernel_rfl) (k := ?_)
 refine Z8 ?_
 refine .p (cA (h := has_spec)) rfl ?_
 refine Z1 ?_
 refine .p (cA (h := when_spec)) rfl ?_
 refine Z4 ?_
 refine Rt1 ?_
 exact VLe.int (by rw [onI_eq hx]; simp only [importE]; first | rw [if_pos (by assumption)] | rw [if_neg (by assumption)])
theorem funcsc_spec (hp0 : i < m.Funcs.length) : FnP Tryz.prog 155 [intV .i64 (i : Int), ptrV [ptrV (encMod m)]] (intV .i64 (onI m.Funcs (funcE m) i)) := by
 refine In 20 Tryz.func155 fun _ _ _ => ?_
 refine .fact (t := 1) rfl (fun S w v h => modLens2 h) fun hl => ?_
 have hl1 := hl.sigs; have hl2 := hl.imports; have hl3 := hl.funcs; have hl4 := hl.mems; have hl5 := hl.globals; have hl6 := hl.exports; have hl7 := hl.elems; have hl8 := hl.datas
 obtain ⟨x, hx⟩ := getElem?_lt hp0
 refine Z6 ?_
 refine .drawK 13 4 FM.out (by kernel_rfl) (k := ?_)
 refine Z5 ?_
 refine .p (cI _) ?_
 refine Z8 ?_
 refine .p (cA (h := has_spec)) rfl ?_
 refine Z1 ?_
 refine .p (cA (h := when_spec)) rfl ?_
 refine Z4 ?_
 refine Rt1 ?_
 exact VLe.int (by rw [onI_eq hx]; rfl)
theorem memsc_spec (hp0 : i < m.Mems.length) : FnP Tryz.prog 156 [intV .i64 (i : Int), ptrV [ptrV (encMod m)]] (intV .i64 (onI m.Mems memE i)) := by
 refine In 14 Tryz.func156 fun _ _ _ => ?_
 refine .fact (t := 1) rfl (fun S w v h => modLens2 h) fun hl => ?_
 have hl1 := hl.sigs; have hl2 := hl.imports; have hl3 := hl.funcs; have hl4 := hl.mems; have hl5 := hl.globals; have hl6 := hl.exports; have hl7 := hl.elems; have hl8 := hl.datas
 obtain ⟨x, hx⟩ := getElem?_lt hp0
 refine Z12 ?_
 refine .p (cI _) rfl ?_
 refine Z1 ?_
 refine .p (cA (h := lright_spec)) rfl ?_
 refine Z1 ?_
 refine .p (cA (h := when_spec)) rfl ?_
 refine Z4 ?_
 refine Rt1 ?_
 exact VLe.int (by rw [onI_eq hx]; rfl)
theorem globalsc_spec (hp0 : i < m.Globals.length) : FnP Tryz.prog 158 [intV .i64 (i : Int), ptrV [ptrV (encMod m)]] (intV .i64 (onI m.Globals globalE i)) := by
 refine In 27 Tryz.func158 fun _ _ _ => ?_
 refine .fact (t := 1) rfl (fun S w v h => modLens2 h) fun hl => ?_
 have hl1 := hl.sigs; have hl2 := hl.imports; have hl3 := hl.funcs; have hl4 := hl.mems; have hl5 := hl.globals; have hl6 := hl.exports; have hl7 := hl.elems; have hl8 := hl.datas
 obtain ⟨x, hx⟩ := getElem?_lt hp0
 refine Z12 ?_
 refine .p (cI _) rfl ?_
 refine Z1 ?_
 refine .n (opAlloc FZ.out) rfl fun b4 _ => ?_
 refine Z3 ?_
 refine .share (t := 4) (i := 0) rfl rfl ?_
 refine Z4 ?_
 refine .p (cA (h := bits_spec)) rfl ?_
 refine Z11 ?_
 refine .p (cA (h := when_spec)) rfl ?_
 refine Z4 ?_
 refine Rt1 ?_
 exact VLe.int (by rw [onI_eq hx]; rfl)
theorem sigs_spec : FnP Tryz.prog 114 [ptrV (encMod m)] (intV .i64 (sigsE m)) := by
 refine In 10 Tryz.func114 fun _ _ _ => ?_
 refine .fact (t := 0) rfl (fun S w v h => modLens h) fun hl => ?_
 have hl1 := hl.sigs; have hl2 := hl.imports; have hl3 := hl.funcs; have hl4 := hl.mems; have hl5 := hl.globals; have hl6 := hl.exports; have hl7 := hl.elems; have hl8 := hl.datas
 refine Z13 ?_
 refine .p (opMakeFunc (A := Nat) (ok := fun i => i < m.Sigs.length) (arg := fun i => [intV .i64 (i : Int)]) (res := fun i => intV .i64 (onI m.Sigs sigE i)) FB.out .nil (.cons (.t rfl) .nil) (fun i hi => sigsc_spec hi)) rfl ?_
 refine .p (cA (h := many_spec (by first | assumption | omega))) rfl ?_
 refine Z4 ?_
 refine Rt1 ?_
 exact VLe.refl _
theorem imports_spec : FnP Tryz.prog 115 [ptrV (encMod m)] (intV .i64 (importsE m)) := by
 refine In 10 Tryz.func115 fun _ _ _ => ?_
 refine .fact (t := 0) rfl (fun S w v h => modLens h) fun hl => ?_
 have hl1 := hl.sigs; have hl2 := hl.imports; have hl3 := hl.funcs; have hl4 := hl.mems; have hl5 := hl.globals; have hl6 := hl.exports; have hl7 := hl.elems; have hl8 := hl.datas
 refine Z13 ?_
 refine .p (opMakeFunc (A := Nat) (ok := fun i => i < m.Imports.length) (arg := fun i => [intV .i64 (i : Int)]) (res := fun i => intV .i64 (onI m.Imports (importE m) i)) FB.out .nil (.cons (.t rfl) .nil) (fun i hi => importsc_spec hi)) rfl ?_
 refine .p (cA (h := many_spec (by first | assumption | omega))) rfl ?_
 refine Z4 ?_
 refine Rt1 ?_
 exact VLe.refl _
theorem mems_spec : FnP Tryz.prog 118 [ptrV (encMod m)] (intV .i64 (memsE m)) := by
 refine In 10 Tryz.func118 fun _ _ _ => ?_
 refine .fact (t := 0) rfl (fun S w v h => modLens h) fun hl => ?_
 have hl1 := hl.sigs; have hl2 := hl.imports; have hl3 := hl.funcs; have hl4 := hl.mems; have hl5 := hl.globals; have hl6 := hl.exports; have hl7 := hl.elems; have hl8 := hl.datas
 refine Z13 ?_
 refine .p (opMakeFunc (A := Nat) (ok := fun i => i < m.Mems.length) (arg := fun i => [intV .i64 (i : Int)]) (res := fun i => intV .i64 (onI m.Mems memE i)) FB.out .nil (.cons (.t rfl) .nil) (fun i hi => memsc_spec hi)) rfl ?_
 refine .p (cA (h := many_spec (by first | assumption | omega))) rfl ?_
 refine Z4 ?_
 refine Rt1 ?_
 exact VLe.refl _
theorem globals_spec : FnP Tryz.prog 119 [ptrV (encMod m)] (intV .i64 (globalsE m)) := by
 refine In 10 Tryz.func119 fun _ _ _ => ?_
 refine .fact (t := 0) rfl (fun S w v h => modLens h) fun hl => ?_
 have hl1 := hl.sigs; have hl2 := hl.imports; have hl3 := hl.funcs; have hl4 := hl.mems; have hl5 := hl.globals; have hl6 := hl.exports; have hl7 := hl.elems; have hl8 := hl.datas
 refine Z13 ?_
 refine .p (opMakeFunc (A := Nat) (ok := fun i => i < m.Globals.length) (arg := fun i => [intV .i64 (i : Int)]) (res := fun i => intV .i64 (onI m.Globals globalE i)) FB.out .nil (.cons (.t rfl) .nil) (fun i hi => globalsc_spec hi)) rfl ?_
 refine .p (cA (h := many_spec (by first | assumption | omega))) rfl ?_
 refine Z4 ?_
 refine Rt1 ?_
 exact VLe.refl _
theorem funcs_spec : FnP Tryz.prog 116 [ptrV (encMod m)] (intV .i64 (funcsE m)) := by
 refine In 13 Tryz.func116 fun _ _ _ => ?_
 refine .fact (t := 0) rfl (fun S w v h => modLens h) fun hl => ?_
 have hl1 := hl.sigs; have hl2 := hl.imports; have hl3 := hl.funcs; have hl4 := hl.mems; have hl5 := hl.globals; have hl6 := hl.exports; have hl7 := hl.elems; have hl8 := hl.datas
 refine Z10 ?_
 refine .p (cA (h := count_spec)) rfl ?_
 refine Z3 ?_
 refine Cd (fun c0 => ?_) fun c0 => ?_
 ·
  refine Z7 ?_
  refine Rt1 ?_
  exact VLe.int (by simp [funcsE, *])
 refine Z9 ?_
 refine .p (opMakeFunc (A := Nat) (ok := fun i => i < m.Funcs.length) (arg := fun i => [intV .i64 (i : Int)]) (res := fun i => intV .i64 (onI m.Funcs (funcE m) i)) FB.out .nil (.cons (.t rfl) .nil) (fun i hi => funcsc_spec hi)) rfl ?_
 refine .p (cA (h := first_spec (by first | assumption | omega))) rfl ?_
 refine Z4 ?_
 refine Rt1 ?_
 exact VLe.int (by simp [funcsE, *])
theorem table_spec : FnP Tryz.prog 117 [ptrV (encMod m)] (intV .i64 (tableE m)) := by
 refine In 14 Tryz.func117 fun _ _ _ => ?_
 refine Z15 ?_
 refine Cd (fun c0 => ?_) fun c0 => ?_
 ·
  refine Z7 ?_
  refine Rt1 ?_
  exact VLe.int (by simp [tableE, *])
 refine Z9 ?_
 refine .p (cA (h := when_spec)) rfl ?_
 refine Z4 ?_
 refine Rt1 ?_
 exact VLe.int (by simp [tableE, *])
variable {f : Int}
theorem number_spec : FnP Tryz.prog 72 [ptrV (encMod m), intV .i64 f] (tupV [intV .i64 ((numberO m f).getD 0), propV (numberO m f).isSome]) := by
 refine In 43 Tryz.func72 fun _ _ _ => ?_
 refine .fact (t := 0) rfl (fun S w v h => modLens h) fun hl => ?_
 have hl1 := hl.sigs; have hl2 := hl.imports; have hl3 := hl.funcs; have hl4 := hl.mems; have hl5 := hl.globals; have hl6 := hl.exports; have hl7 := hl.elems; have hl8 := hl.datas
 refine Z24 ?_
 refine .g (OpG.gF rfl rfl rfl rfl (fun hg => opCall (count_spec) FB.out (.cons (.when (.t rfl) hg) .nil))) rfl rfl ?_
 refine Z5 ?_
 refine Cd (fun c0 => ?_) fun c0 => ?_
 ·
  refine Z8 ?_
  refine Rt2 ?_ ?_
  · exact VLe.int (by simp [numberO, *])
  exact VLe.prop (by simp [numberO, *])
 refine Z8 ?_
 refine Cd (fun c1 => ?_) fun c1 => ?_
 ·
  refine Z1 ?_
  obtain ⟨j, rfl⟩ : ∃ j : Nat, f = (j : Int) := ⟨f.toNat, by omega⟩
  obtain ⟨x, hx⟩ := getElem?_lt (xs := m.Imports) (k := j) (by omega)
  refine Z6 ?_
  refine .p (cI _) rfl ?_
  refine Z8 ?_
  refine Rt2 ?_ ?_
  · exact VLe.int (by rw [numberO_import (by omega) hx]; rfl)
  exact VLe.prop (by rw [numberO_import (by omega) hx]; simp)
 refine Z1 ?_
 obtain ⟨j, rfl⟩ : ∃ j : Nat, f = (m.Imports.length : Int) + (j : Int) := ⟨(f - m.Imports.length).toNat, by omega⟩
 have hcm : countM m = (m.Imports.length : Int) + (m.Funcs.length : Int) := rfl
 obtain ⟨x, hx⟩ := getElem?_lt (xs := m.Funcs) (k := j) (by omega)
 refine Z8 ?_
 refine .p (cI j) rfl ?_
 refine Z8 ?_
 refine Rt2 ?_ ?_
 · exact VLe.int (by rw [numberO_func hx]; rfl)
 exact VLe.prop (by rw [numberO_func hx]; simp)
theorem msig_spec : FnP Tryz.prog 54 [ptrV (encMod m), intV .i64 f] (tupV [aggV (encSig ((sigO m f).getD ⟨[], []⟩)), propV (sigO m f).isSome]) := by
 refine In 37 Tryz.func54 fun _ _ _ => ?_
 refine .fact (t := 0) rfl (fun S w v h => modLens h) fun hl => ?_
 have hl1 := hl.sigs; have hl2 := hl.imports; have hl3 := hl.funcs; have hl4 := hl.mems; have hl5 := hl.globals; have hl6 := hl.exports; have hl7 := hl.elems; have hl8 := hl.datas
 refine Z2 ?_
 refine .n (opAlloc FZ.out) rfl fun b4 _ => ?_
 refine Z10 ?_
 refine Cd (fun c0 => ?_) fun c0 => ?_
 · exact c0.elim
 refine Z6 ?_
 refine .p (cA (h := number_spec)) rfl ?_
 refine Z19 ?_
 refine .g (OpG.gF rfl rfl rfl rfl (fun hg => opCall (has_spec) FB.out (.cons (.when (.t rfl) hg) (.cons (.when (.t rfl) hg) .nil)))) rfl rfl ?_
 refine Z4 ?_
 refine Cd (fun c1 => ?_) fun c1 => ?_
 ·
  refine Z9 ?_
  refine Post.retR rfl rfl () trivial (fun _ _ _ _ => trivial) rfl (.cons (.ra (i := 0) FA.out FC.out rfl rfl rfl rfl) ?_ (.cons (.rt rfl) ?_ .nil))
  · rw [sigO_none c1]; exact VLe.agg2 (sliceV_nil _ _) (sliceV_nil _ _)
  exact VLe.prop (by rw [sigO_none c1]; simp)
 refine Z3 ?_
 obtain ⟨n, hn⟩ : ∃ n, numberO m f = some n := Option.isSome_iff_exists.1 (Classical.byContradiction fun h => c1 (.inl h))
 have hin : InP n m.Sigs.length := Classical.byContradiction fun h => c1 (.inr (by rw [hn]; exact h))
 obtain ⟨j, hj⟩ : ∃ j : Nat, n = (j : Int) := ⟨n.toNat, by have := hin.1; omega⟩
 obtain ⟨x, hx⟩ := getElem?_lt (xs := m.Sigs) (k := j) (by have := hin.2; omega)
 refine Z6 ?_
 refine .p (cI j (h := by assumption) (hi := by rw [hn, hj]; rfl)) rfl ?_
 refine Z6 ?_
 refine Post.retR rfl rfl () trivial (fun _ _ _ _ => trivial) rfl (.cons (.ra (i := 0) FA.out FC.out rfl rfl rfl rfl) ?_ (.cons (.rt rfl) ?_ .nil))
 · rw [sigO_some hn hj hx]; exact VLe.refl _
 exact VLe.prop (by rw [sigO_some hn hj hx]; simp)
theorem start_spec : FnP Tryz.prog 121 [ptrV (encMod m)] (intV .i64 (startE m)) := by
 refine In 30 Tryz.func121 fun _ _ _ => ?_
 refine .fact (t := 0) rfl (fun S w v h => modLens h) fun hl => ?_
 have hl1 := hl.sigs; have hl2 := hl.imports; have hl3 := hl.funcs; have hl4 := hl.mems; have hl5 := hl.globals; have hl6 := hl.exports; have hl7 := hl.elems; have hl8 := hl.datas
 refine Z15 ?_
 refine Cd (fun c0 => ?_) fun c0 => ?_
 ·
  refine Z7 ?_
  refine Rt1 ?_
  exact VLe.int (by simp [startE, *])
 refine Z9 ?_
 refine .p (cA (h := msig_spec)) rfl ?_
 refine Z3 ?_
 refine .n (opAlloc FZ.out) rfl fun b3 _ => ?_
 refine Z4 ?_
 refine .share (t := 3) (i := 0) rfl rfl ?_
 refine .fact (t := 17) rfl (fun S w v h => And.intro (aggV_len h 0 rfl) (aggV_len h 1 rfl)) fun hs2 => ?_
 obtain ⟨hs3, hs4⟩ := hs2
 refine Z7 ?_
 refine Cd (fun c1 => ?_) fun c1 => ?_
 ·
  refine Z7 ?_
  refine Rt1 ?_
  exact VLe.int (startE_none c0 c1).symm
 refine Z12 ?_
 refine .p (cA (h := when_spec)) rfl ?_
 refine Z4 ?_
 refine Rt1 ?_
 exact VLe.int (startE_some c0 c1).symm
theorem counts_spec : FnP Tryz.prog 160 [ptrV (encMod m)] (aggV [intV .i64 (cnt m 0), intV .i64 (cnt m 1), intV .i64 (cnt m 2), intV .i64 (cnt m 3)]) := by
 refine In 22 Tryz.func160 fun _ _ _ => ?_
 refine .fact (t := 0) rfl (fun S w v h => modLens h) fun hl => ?_
 have hl1 := hl.sigs; have hl2 := hl.imports; have hl3 := hl.funcs; have hl4 := hl.mems; have hl5 := hl.globals; have hl6 := hl.exports; have hl7 := hl.elems; have hl8 := hl.datas
 refine Z2 ?_
 refine .n (opAlloc FZ.out) rfl fun b2 _ => ?_
 refine Z3 ?_
 refine .drawK 18 2 FM.out (by kernel_rfl) (k := ?_)
 refine Z1 ?_
 refine .p (cA (h := count_spec)) ?_
 refine Z4 ?_
 refine .p (opAdd (.t rfl) (.c _)) ?_
 refine .p (opMin (.t rfl) (.c _)) ?_
 refine Z11 ?_
 refine .p (opBuildArr FR.out FZ.out (.cons (.t rfl) (.cons (.t rfl) (.cons (.t rfl) (.cons (.t rfl) .nil)))) rfl) rfl ?_
 refine Z4 ?_
 refine Post.retR1 rfl () trivial (fun _ _ _ _ => trivial) (.ra (i := 0) FA.out FC.out rfl rfl rfl rfl) ?_
 exact VLe.refl _
theorem exportscc_spec {x y : ExportD} : FnP Tryz.prog 163 [aggV (encExport y), ptrV (encExport x)] (propV (y.Name = x.Name)) := by
 refine In 9 Tryz.func163 fun _ _ _ => ?_
 refine Z17 ?_
 refine Rt1 ?_
 first | exact VLe.refl _ | exact VLe.int (by omega) | exact VLe.prop (by omega) | exact VLe.prop (by simp_all) | exact VLe.prop (by simp; omega)
theorem exportsc_spec (hp0 : i < m.Exports.length) : FnP Tryz.prog 161 [intV .i64 (i : Int), ptrV [ptrV (encMod m)], ptrV [intV .i64 (cnt m 0), intV .i64 (cnt m 1), intV .i64 (cnt m 2), intV .i64 (cnt m 3)]] (intV .i64 (exportE m i)) := by
 refine In 46 Tryz.func161 fun _ _ _ => ?_
 refine .fact (t := 1) rfl (fun S w v h => modLens2 h) fun hl => ?_
 have hl1 := hl.sigs; have hl2 := hl.imports; have hl3 := hl.funcs; have hl4 := hl.mems; have hl5 := hl.globals; have hl6 := hl.exports; have hl7 := hl.elems; have hl8 := hl.datas
 obtain ⟨x, hx⟩ := getElem?_lt hp0
 refine Z12 ?_
 refine .p (cI _) rfl ?_
 refine Z1 ?_
 refine .n (opAlloc FZ.out) rfl fun b5 _ => ?_
 refine Z3 ?_
 refine .share (t := 5) (i := 0) rfl rfl ?_
 refine Z7 ?_
 refine .p (opSliceHi FU.out FC.out rfl (.t rfl) (.t rfl) rfl (by omega)) rfl ?_
 refine .p (opMakeFunc (A := ExportD) (ok := fun _ => True) (arg := fun y => [aggV (encExport y)]) (res := fun y => propV (y.Name = x.Name)) FB.out .nil (.cons (.t rfl) .nil) (fun y _ => exportscc_spec)) rfl ?_
 refine .p (cA (h := conExport_spec)) rfl ?_
 refine Z8 ?_
 refine .p (cA (h := named_spec)) rfl ?_
 refine Z6 ?_
 refine Cd (fun c0 => ?_) fun c0 => ?_
 ·
  refine Z7 ?_
  refine Rt1 ?_
  exact VLe.int (exportE_name hx c0).symm
 refine Z3 ?_
 refine .drawK 13 5 FM.out (by kernel_rfl) (k := ?_)
 refine Z2 ?_
 refine .p (cA (h := has_spec)) ?_
 refine Z6 ?_
 refine .cons (OpG.gF rfl rfl rfl rfl (fun hg => opMin (.when (.t rfl) hg) (.c _))) ?_
 refine Z1 ?_
 refine .cons (OpG.gF rfl rfl rfl rfl (fun hg => opIndexAddrA (kindJ x.Kind) FU.out FC.out rfl (.t rfl) (.when (.t rfl) hg) (by unfold kindJ; omega) (by unfold kindJ; omega))) ?_
 refine .cons (OpG.gF rfl rfl rfl rfl (fun hg => opLoad FA.out (.le (.when (.t rfl) hg) (ptrV_at (cnt_at m (kindJ x.Kind) (by unfold kindJ; omega)))))) ?_
 refine Z1 ?_
 refine .g (OpG.gF rfl rfl rfl rfl (fun hg => opCall (has_spec) FB.out (.cons (.when (.t rfl) hg) (.cons (.when (.t rfl) hg) .nil)))) rfl rfl ?_
 refine Z2 ?_
 refine .p (cA (h := when_spec)) rfl ?_
 refine Z4 ?_
 refine Rt1 ?_
 exact VLe.int (exportE_rest hx c0).symm
theorem exports_spec : FnP Tryz.prog 120 [ptrV (encMod m)] (intV .i64 (exportsE m)) := by
 refine In 13 Tryz.func120 fun _ _ _ => ?_
 refine .fact (t := 0) rfl (fun S w v h => modLens h) fun hl => ?_
 have hl1 := hl.sigs; have hl2 := hl.imports; have hl3 := hl.funcs; have hl4 := hl.mems; have hl5 := hl.globals; have hl6 := hl.exports; have hl7 := hl.elems; have hl8 := hl.datas
 refine Z9 ?_
 refine .p (cA (h := counts_spec)) rfl ?_
 refine .n (opAlloc FZ.out) rfl fun b3 _ => ?_
 refine Z3 ?_
 refine .share (t := 3) (i := 0) rfl rfl ?_
 refine Z7 ?_
 refine .p (opMakeFunc (A := Nat) (ok := fun i => i < m.Exports.length) (arg := fun i => [intV .i64 (i : Int)]) (res := fun i => intV .i64 (exportE m i)) FB.out .nil (.cons (.t rfl) (.cons (.t rfl) .nil)) (fun i hi => exportsc_spec hi)) rfl ?_
 refine .p (cA (h := many_spec (by first | assumption | omega))) rfl ?_
 refine Z4 ?_
 refine Rt1 ?_
 exact VLe.refl _
theorem elemscc_spec : FnP Tryz.prog 166 [intV .i64 f, ptrV [ptrV (encMod m)]] (propV (¬ InP f (countM m))) := by
 refine In 9 Tryz.func166 fun _ _ _ => ?_
 refine Z9 ?_
 refine .p (cA (h := count_spec)) rfl ?_
 refine .p (cA (h := has_spec)) rfl ?_
 refine Z5 ?_
 refine Rt1 ?_
 first | exact VLe.refl _ | exact VLe.int (by omega) | exact VLe.prop (by omega) | exact VLe.prop (by simp_all) | exact VLe.prop (by simp; omega)
theorem elemsc_spec (hp0 : i < m.Elems.length) : FnP Tryz.prog 164 [intV .i64 (i : Int), ptrV [ptrV (encMod m)]] (intV .i64 (onI m.Elems (elemE m) i)) := by
 refine In 35 Tryz.func164 fun _ _ _ => ?_
 refine .fact (t := 1) rfl (fun S w v h => modLens2 h) fun hl => ?_
 have hl1 := hl.sigs; have hl2 := hl.imports; have hl3 := hl.funcs; have hl4 := hl.mems; have hl5 := hl.globals; have hl6 := hl.exports; have hl7 := hl.elems; have hl8 := hl.datas
 obtain ⟨x, hx⟩ := getElem?_lt hp0
 refine Z12 ?_
 refine .p (cI _) rfl ?_
 refine Z1 ?_
 refine .n (opAlloc FZ.out) rfl fun b4 _ => ?_
 refine Z3 ?_
 refine .share (t := 4) (i := 0) rfl rfl ?_
 refine Z9 ?_
 refine Cd (fun c0 => ?_) fun c0 => ?_
 ·
  refine Z7 ?_
  refine Rt1 ?_
  exact VLe.int (by rw [onI_eq hx]; simp [elemE, *])
 refine Z6 ?_
 refine .p (opMakeFunc (A := Int) (ok := fun _ => True) (arg := fun f => [intV .i64 f]) (res := fun f => propV (¬ InP f (countM m))) FB.out .nil (.cons (.t rfl) .nil) (fun f _ => elemscc_spec)) rfl ?_
 refine .p (cA (h := conInt_spec)) rfl ?_
 refine Z18 ?_
 refine .p (cA (h := when_spec)) rfl ?_
 refine Z4 ?_
 refine Rt1 ?_
 exact VLe.int (by rw [onI_eq hx]; exact (elemE_rest c0).symm)
theorem elems_spec : FnP Tryz.prog 122 [ptrV (encMod m)] (intV .i64 (elemsE m)) := by
 refine In 10 Tryz.func122 fun _ _ _ => ?_
 refine .fact (t := 0) rfl (fun S w v h => modLens h) fun hl => ?_
 have hl1 := hl.sigs; have hl2 := hl.imports; have hl3 := hl.funcs; have hl4 := hl.mems; have hl5 := hl.globals; have hl6 := hl.exports; have hl7 := hl.elems; have hl8 := hl.datas
 refine Z13 ?_
 refine .p (opMakeFunc (A := Nat) (ok := fun i => i < m.Elems.length) (arg := fun i => [intV .i64 (i : Int)]) (res := fun i => intV .i64 (onI m.Elems (elemE m) i)) FB.out .nil (.cons (.t rfl) .nil) (fun i hi => elemsc_spec hi)) rfl ?_
 refine .p (cA (h := many_spec (by first | assumption | omega))) rfl ?_
 refine Z4 ?_
 refine Rt1 ?_
 exact VLe.refl _
theorem datasc_spec (hp0 : i < m.Datas.length) : FnP Tryz.prog 167 [intV .i64 (i : Int), ptrV [ptrV (encMod m)]] (intV .i64 (onI m.Datas (dataE m) i)) := by
 refine In 51 Tryz.func167 fun _ _ _ => ?_
 refine .fact (t := 1) rfl (fun S w v h => modLens2 h) fun hl => ?_
 have hl1 := hl.sigs; have hl2 := hl.imports; have hl3 := hl.funcs; have hl4 := hl.mems; have hl5 := hl.globals; have hl6 := hl.exports; have hl7 := hl.elems; have hl8 := hl.datas
 obtain ⟨x, hx⟩ := getElem?_lt hp0
 refine Z12 ?_
 refine .p (cI _) rfl ?_
 refine Z1 ?_
 refine .n (opAlloc FZ.out) rfl fun b4 _ => ?_
 refine Z3 ?_
 refine .share (t := 4) (i := 0) rfl rfl ?_
 refine Z9 ?_
 refine Cd (fun c0 => ?_) fun c0 => ?_
 ·
  refine Z7 ?_
  refine Rt1 ?_
  exact VLe.int (by rw [onI_eq hx]; simp [dataE, *])
 refine Z3 ?_
 refine .drawK 24 12 FM.out (by kernel_rfl) (k := ?_)
 refine Z7 ?_
 refine .p (cA (h := has_spec)) ?_
 refine Z14 ?_
 refine .cons (OpG.gF rfl rfl rfl rfl (fun hg => opMin (.when (.t rfl) hg) (.when (.t rfl) hg))) ?_
 refine Z2 ?_
 refine .g (OpG.gF rfl rfl rfl rfl (fun hg => opIndexAddr (j := x.Mem.toNat) FU.out FC.out rfl (.when (.t rfl) hg) (.when (.t rfl) hg) (data_at (Classical.not_not.1 hg)) (data_mem (Classical.not_not.1 hg)))) rfl rfl ?_
 refine Z9 ?_
 refine .p (cA (h := when_spec)) rfl ?_
 refine Z4 ?_
 refine Rt1 ?_
 exact VLe.int (by rw [onI_eq hx]; exact (dataE_rest c0).symm)
theorem datas_spec : FnP Tryz.prog 123 [ptrV (encMod m)] (intV .i64 (datasE m)) := by
 refine In 10 Tryz.func123 fun _ _ _ => ?_
 refine .fact (t := 0) rfl (fun S w v h => modLens h) fun hl => ?_
 have hl1 := hl.sigs; have hl2 := hl.imports; have hl3 := hl.funcs; have hl4 := hl.mems; have hl5 := hl.globals; have hl6 := hl.exports; have hl7 := hl.elems; have hl8 := hl.datas
 refine Z13 ?_
 refine .p (opMakeFunc (A := Nat) (ok := fun i => i < m.Datas.length) (arg := fun i => [intV .i64 (i : Int)]) (res := fun i => intV .i64 (onI m.Datas (dataE m) i)) FB.out .nil (.cons (.t rfl) .nil) (fun i hi => datasc_spec hi)) rfl ?_
 refine .p (cA (h := many_spec (by first | assumption | omega))) rfl ?_
 refine Z4 ?_
 refine Rt1 ?_
 exact VLe.refl _
theorem fit_spec : FnP Tryz.prog 87 [ptrV (encMod m)] (tupV [strV (fitP m).1, intV .i64 (fitP m).2]) := by
 refine In 52 Tryz.func87 fun _ _ _ => ?_
 refine Z2 ?_
 refine .p (opAssign (.s [] rfl rfl)) rfl ?_
 refine Z10 ?_
 refine Cd (fun c0 => ?_) fun c0 => ?_
 · exact c0.elim
 refine Z6 ?_
 refine .p (opMakeFunc (A := Unit) (ok := fun _ => True) (arg := fun _ => []) (res := fun _ => intV .i64 (sigsE m)) FB.out (.cons (.t rfl) .nil) .nil (fun _ _ => sigs_spec)) rfl ?_
 refine .p (opBuild FP.out FZ.out (.cons (.s [115, 105, 103, 115] rfl rfl) (.cons (.t rfl) .nil)) rfl) rfl ?_
 refine Z1 ?_
 refine .p (opMakeFunc (A := Unit) (ok := fun _ => True) (arg := fun _ => []) (res := fun _ => intV .i64 (importsE m)) FB.out (.cons (.t rfl) .nil) .nil (fun _ _ => imports_spec)) rfl ?_
 refine .p (opBuild FP.out FZ.out (.cons (.s [105, 109, 112, 111, 114, 116, 115] rfl rfl) (.cons (.t rfl) .nil)) rfl) rfl ?_
 refine Z1 ?_
 refine .p (opMakeFunc (A := Unit) (ok := fun _ => True) (arg := fun _ => []) (res := fun _ => intV .i64 (funcsE m)) FB.out (.cons (.t rfl) .nil) .nil (fun _ _ => funcs_spec)) rfl ?_
 refine .p (opBuild FP.out FZ.out (.cons (.s [102, 117, 110, 99, 115] rfl rfl) (.cons (.t rfl) .nil)) rfl) rfl ?_
 refine Z1 ?_
 refine .p (opMakeFunc (A := Unit) (ok := fun _ => True) (arg := fun _ => []) (res := fun _ => intV .i64 (tableE m)) FB.out (.cons (.t rfl) .nil) .nil (fun _ _ => table_spec)) rfl ?_
 refine .p (opBuild FP.out FZ.out (.cons (.s [116, 97, 98, 108, 101] rfl rfl) (.cons (.t rfl) .nil)) rfl) rfl ?_
 refine Z1 ?_
 refine .p (opMakeFunc (A := Unit) (ok := fun _ => True) (arg := fun _ => []) (res := fun _ => intV .i64 (memsE m)) FB.out (.cons (.t rfl) .nil) .nil (fun _ _ => mems_spec)) rfl ?_
 refine .p (opBuild FP.out FZ.out (.cons (.s [109, 101, 109, 115] rfl rfl) (.cons (.t rfl) .nil)) rfl) rfl ?_
 refine Z1 ?_
 refine .p (opMakeFunc (A := Unit) (ok := fun _ => True) (arg := fun _ => []) (res := fun _ => intV .i64 (globalsE m)) FB.out (.cons (.t rfl) .nil) .nil (fun _ _ => globals_spec)) rfl ?_
 refine .p (opBuild FP.out FZ.out (.cons (.s [103, 108, 111, 98, 97, 108, 115] rfl rfl) (.cons (.t rfl) .nil)) rfl) rfl ?_
 refine Z1 ?_
 refine .p (opMakeFunc (A := Unit) (ok := fun _ => True) (arg := fun _ => []) (res := fun _ => intV .i64 (exportsE m)) FB.out (.cons (.t rfl) .nil) .nil (fun _ _ => exports_spec)) rfl ?_
 refine .p (opBuild FP.out FZ.out (.cons (.s [101, 120, 112, 111, 114, 116, 115] rfl rfl) (.cons (.t rfl) .nil)) rfl) rfl ?_
 refine Z1 ?_
 refine .p (opMakeFunc (A := Unit) (ok := fun _ => True) (arg := fun _ => []) (res := fun _ => intV .i64 (startE m)) FB.out (.cons (.t rfl) .nil) .nil (fun _ _ => start_spec)) rfl ?_
 refine .p (opBuild FP.out FZ.out (.cons (.s [115, 116, 97, 114, 116] rfl rfl) (.cons (.t rfl) .nil)) rfl) rfl ?_
 refine Z1 ?_
 refine .p (opMakeFunc (A := Unit) (ok := fun _ => True) (arg := fun _ => []) (res := fun _ => intV .i64 (elemsE m)) FB.out (.cons (.t rfl) .nil) .nil (fun _ _ => elems_spec)) rfl ?_
 refine .p (opBuild FP.out FZ.out (.cons (.s [101, 108, 101, 109, 115] rfl rfl) (.cons (.t rfl) .nil)) rfl) rfl ?_
 refine Z1 ?_
 refine .p (opMakeFunc (A := Unit) (ok := fun _ => True) (arg := fun _ => []) (res := fun _ => intV .i64 (datasE m)) FB.out (.cons (.t rfl) .nil) .nil (fun _ _ => datas_spec)) rfl ?_
 refine .p (opBuild FP.out FZ.out (.cons (.s [100, 97, 116, 97] rfl rfl) (.cons (.t rfl) .nil)) rfl) rfl ?_
 refine .p (opBuildArr FR.out FZ.out (.cons (.t rfl) (.cons (.t rfl) (.cons (.t rfl) (.cons (.t rfl) (.cons (.t rfl) (.cons (.t rfl) (.cons (.t rfl) (.cons (.t rfl) (.cons (.t rfl) (.cons (.t rfl) .nil)))))))))) rfl) rfl ?_
 refine Z4 ?_
 refine .loopO (σ := Nat) (fun _ => []) (fun k => [(40, intV .i64 (k : Int))]) (fun k => k ≤ 10 ∧ NotB (fun p : List UInt8 × Int => p.2 ≠ 0) (partsM m) k) (fun k => 10 - k) 0 ⟨by omega, NotB.zero _ _⟩ rfl ?_ ?_
 · exact (.get rfl (VLe.refl _) (.refl _ _))
 rintro k ⟨hk, hnot⟩
 refine Z6 ?_
 refine Cd (fun c1 => ?_) fun c1 => ?_
 ·
  obtain ⟨p, hp⟩ := getElem?_lt (xs := partsM m) (k := k) (by rw [parts_len]; omega)
  refine Z6 ?_
  refine .p (opIndexA (enc := encPart) (partsM m) FU.out FC.out rfl FA.out (.t rfl) rfl rfl (.t rfl) rfl (by assumption)) rfl ?_
  refine .n (opAlloc FZ.out) rfl fun b5 _ => ?_
  refine Z3 ?_
  refine .share (t := 5) (i := 0) rfl rfl ?_
  refine Z4 ?_
  refine .p (cV ()) rfl ?_
  refine Z9 ?_
  refine Cd (fun c2 => ?_) fun c2 => ?_
  ·
   refine Z15 ?_
   refine Rt2 ?_ ?_
   · exact VLe.of_eq (by rw [fit_at hnot hp c2])
   exact VLe.of_eq (by rw [fit_at hnot hp c2])
  refine Z7 ?_
  refine .round (k + 1) ⟨by omega, hnot.succ hp (by assumption)⟩ (by omega) rfl ?_
  exact (.get rfl (VLe.int (by omega)) (.keep 13 rfl rfl))
 refine Z7 ?_
 refine .p (opAssign (.s [] rfl rfl)) rfl ?_
 refine Z4 ?_
 refine Rt2 ?_ ?_
 · exact VLe.of_eq (by rw [fit_none (hnot.all (by rw [parts_len]; omega))])
 exact VLe.of_eq (by rw [fit_none (hnot.all (by rw [parts_len]; omega))])
theorem eqType_spec {a b : List UInt8} : FnP Tryz.prog 247 [sliceV 1 encU8 a, sliceV 1 encU8 b] (propV (a = b)) := by
 refine In 26 Tryz.func247 fun _ _ _ => ?_
 refine .fact (t := 0) rfl (fun S w v h => sliceV_len h) fun hlen => ?_
 refine Z15 ?_
 refine Cd (fun c0 => ?_) fun c0 => ?_
 ·
  refine Z7 ?_
  refine Rt1 ?_
  exact VLe.prop (ne_len c0).symm
 refine Z11 ?_
 refine .loopO (σ := Nat) (fun _ => []) (fun k => [(13, intV .i64 (k : Int))]) (fun k => k ≤ a.length ∧ EqB a b k) (fun k => a.length - k) 0 ⟨by omega, EqB.zero _ _⟩ rfl ?_ ?_
 · exact (.get rfl (VLe.refl _) (.refl _ _))
 rintro k ⟨hk, heq⟩
 refine Z6 ?_
 refine Cd (fun c1 => ?_) fun c1 => ?_
 ·
  obtain ⟨x, hx⟩ := getElem?_lt (xs := a) (k := k) (by omega)
  obtain ⟨y, hy⟩ := getElem?_lt (xs := b) (k := k) (by omega)
  refine Z11 ?_
  refine .drawK 8 1 FM.out (by kernel_rfl) (k := ?_)
  refine Z2 ?_
  refine .p (cI _) ?_
  refine Z3 ?_
  refine .p (cI _) ?_
  refine Z5 ?_
  refine .cond (.le (.t rfl) (VLe.prop (not_congr u8_eq))) (fun c2 => ?_) (fun c2 => ?_)
  ·
   refine Z11 ?_
   refine Rt1 ?_
   exact VLe.prop (ne_at hx hy c2).symm
  refine Z7 ?_
  refine .round (k + 1) ⟨by omega, heq.succ hx hy (Classical.not_not.1 c2)⟩ (by omega) rfl ?_
  exact (.get rfl (VLe.int (by omega)) (.keep 15 rfl rfl))
 refine Z11 ?_
 refine Rt1 ?_
 exact VLe.prop (by simp [heq.all (by omega) (by omega)])
theorem l12great_spec {b : BodyD} : FnP Tryz.prog 47 [aggV (encBody b)] (intV .i64 (greatB b)) := by
 refine In 39 Tryz.func47 fun _ _ _ => ?_
 refine .fact (t := 0) rfl (fun S w v h => bodyLens h) fun hlen => ?_
 have hl1 := hlen.locals
 have hl2 := hlen.l
 refine Z29 ?_
 refine .loopO (σ := Nat) (fun _ => []) (fun k => [(4, intV .i64 (k : Int)), (3, intV .i64 (max ((b.Locals.length : Int) - 60) 0 + max ((b.L.length : Int) - 150) 0 + sumN (onI b.L gInstr) k))]) (fun k => k ≤ b.L.length ∧ k ≤ 150) (fun k => b.L.length - k) 0 ⟨by omega, by omega⟩ rfl ?_ ?_
 · exact (.get rfl (VLe.refl _) (.get rfl (VLe.int (by simp [sumN])) (.refl _ _)))
 rintro k ⟨hk, hk2⟩
 have hq := addN_part (by omega) (gInstr_le hlen) k
 refine Z14 ?_
 refine Cd (fun c0 => ?_) fun c0 => ?_
 ·
  obtain ⟨x, hx⟩ := getElem?_lt (xs := b.L) (k := k) (by omega)
  have hxl := hlen.all k x hx
  refine Z9 ?_
  refine .p (cI _) rfl ?_
  refine Z15 ?_
  refine .round (k + 1) ⟨by omega, by omega⟩ (by omega) rfl ?_
  exact (.get rfl (VLe.int (by omega)) (.get rfl (VLe.int (by rw [sumN_at hx]; unfold gInstr; omega)) (.keep 26 rfl rfl)))
 refine Z12 ?_
 refine Rt1 ?_
 exact VLe.int (by unfold greatB addN; rw [show min b.L.length 150 = k by omega])
theorem great_spec {x : ModD} : FnP Tryz.prog 20 [aggV (encMod x)] (intV .i64 (greatM x)) := by
 refine In 204 Tryz.func20 fun _ _ _ => ?_
 refine .fact (t := 0) rfl (fun S w v h => modLens3 h) fun hlen => ?_
 have hall := hlen
 obtain ⟨⟨hl0, hl1, hl2, hl3, hl4, hl5, hl6, hl7⟩, ⟨hi0, hi1, hi2, hi3, hi4⟩, hi5⟩ := hlen
 have hb := greatB_of hall
 have hb0 := hb.n0
 obtain ⟨hb1, hb2, hb3, hb4, hb5⟩ := great_bnds hb
 refine Z40 ?_
 refine Z25 ?_
 refine .loopO (σ := Nat) (fun _ => []) (fun k0 => [(4, intV .i64 (k0 : Int)), (3, intV .i64 (great0 x + sumN (onI x.Sigs gSig) k0))]) (fun k0 => k0 ≤ x.Sigs.length ∧ k0 ≤ 60) (fun k0 => x.Sigs.length - k0) 0 ⟨by omega, by omega⟩ rfl ?_ ?_
 · exact (.get rfl (VLe.refl _) (.get rfl (VLe.int (by simp only [sumN]; unfold great0; omega)) (.refl _ _)))
 rintro k0 ⟨hk0, hc0⟩
 have hq0 := addN_part (by omega) hb.sig k0
 refine Z14 ?_
 refine Cd (fun c0 => ?_) fun c0 => ?_
 ·
  obtain ⟨y, hx⟩ := getElem?_lt (xs := x.Sigs) (k := k0) (by omega)
  have hy1 := hi0 k0 y hx
  refine Z4 ?_
  refine .drawK 18 2 FM.out (by kernel_rfl) (k := ?_)
  refine Z4 ?_
  refine .p (cI _) ?_
  refine Z6 ?_
  refine .p (cI _) ?_
  refine Z17 ?_
  refine .round (k0 + 1) ⟨by omega, by omega⟩ (by omega) rfl ?_
  exact (.get rfl (VLe.int (by omega)) (.get rfl (VLe.int (by rw [sumN_at hx]; unfold gSig; omega)) (.keep 34 rfl rfl)))
 refine Z12 ?_
 refine .loopO (σ := Nat) (fun _ => []) (fun k1 => [(5, intV .i64 (k1 : Int)), (3, intV .i64 (great1 x + sumN (onI x.Imports gImp) k1))]) (fun k1 => k1 ≤ x.Imports.length ∧ k1 ≤ 25) (fun k1 => x.Imports.length - k1) 0 ⟨by omega, by omega⟩ rfl ?_ ?_
 · exact (.get rfl (VLe.refl _) (.get rfl (VLe.int (by simp only [sumN]; unfold great1 addN; rw [show min x.Sigs.length 60 = k0 by omega]; omega)) (.refl _ _)))
 rintro k1 ⟨hk1, hc1⟩
 have hq1 := addN_part (by omega) hb.imp k1
 refine Z14 ?_
 refine Cd (fun c1 => ?_) fun c1 => ?_
 ·
  obtain ⟨y, hx⟩ := getElem?_lt (xs := x.Imports) (k := k1) (by omega)
  have hy1 := hi1 k1 y hx
  refine Z4 ?_
  refine .drawK 18 2 FM.out (by kernel_rfl) (k := ?_)
  refine Z4 ?_
  refine .p (cI _) ?_
  refine Z6 ?_
  refine .p (cI _) ?_
  refine Z17 ?_
  refine .round (k1 + 1) ⟨by omega, by omega⟩ (by omega) rfl ?_
  exact (.get rfl (VLe.int (by omega)) (.get rfl (VLe.int (by rw [sumN_at hx]; unfold gImp; omega)) (.keep 34 rfl rfl)))
 refine Z12 ?_
 refine .loopO (σ := Nat) (fun _ => []) (fun k2 => [(6, intV .i64 (k2 : Int)), (3, intV .i64 (great2 x + sumN (onI x.Funcs gFn) k2))]) (fun k2 => k2 ≤ x.Funcs.length ∧ k2 ≤ 110) (fun k2 => x.Funcs.length - k2) 0 ⟨by omega, by omega⟩ rfl ?_ ?_
 · exact (.get rfl (VLe.refl _) (.get rfl (VLe.int (by simp only [sumN]; unfold great2 addN; rw [show min x.Imports.length 25 = k1 by omega]; omega)) (.refl _ _)))
 rintro k2 ⟨hk2, hc2⟩
 have hq2 := addN_part (by omega) hb.fn k2
 refine Z14 ?_
 refine Cd (fun c2 => ?_) fun c2 => ?_
 ·
  obtain ⟨y, hx⟩ := getElem?_lt (xs := x.Funcs) (k := k2) (by omega)
  have hy1 := hb.fn k2 y hx
  unfold gFn at hy1
  refine Z9 ?_
  refine .p (cI _) rfl ?_
  refine Z2 ?_
  refine .p (cA (h := l12great_spec)) rfl ?_
  refine Z10 ?_
  refine .round (k2 + 1) ⟨by omega, by omega⟩ (by omega) rfl ?_
  exact (.get rfl (VLe.int (by omega)) (.get rfl (VLe.int (by rw [sumN_at hx]; unfold gFn; omega)) (.keep 24 rfl rfl)))
 refine Z12 ?_
 refine .loopO (σ := Nat) (fun _ => []) (fun k3 => [(7, intV .i64 (k3 : Int)), (3, intV .i64 (great3 x + sumN (onI x.Exports gExp) k3))]) (fun k3 => k3 ≤ x.Exports.length ∧ k3 ≤ 60) (fun k3 => x.Exports.length - k3) 0 ⟨by omega, by omega⟩ rfl ?_ ?_
 · exact (.get rfl (VLe.refl _) (.get rfl (VLe.int (by simp only [sumN]; unfold great3 addN; rw [show min x.Funcs.length 110 = k2 by omega]; omega)) (.refl _ _)))
 rintro k3 ⟨hk3, hc3⟩
 have hq3 := addN_part (by omega) hb.exp k3
 refine Z14 ?_
 refine Cd (fun c3 => ?_) fun c3 => ?_
 ·
  obtain ⟨y, hx⟩ := getElem?_lt (xs := x.Exports) (k := k3) (by omega)
  have hy1 := hi2 k3 y hx
  refine Z9 ?_
  refine .p (cI _) rfl ?_
  refine Z15 ?_
  refine .round (k3 + 1) ⟨by omega, by omega⟩ (by omega) rfl ?_
  exact (.get rfl (VLe.int (by omega)) (.get rfl (VLe.int (by rw [sumN_at hx]; unfold gExp; omega)) (.keep 26 rfl rfl)))
 refine Z12 ?_
 refine .loopO (σ := Nat) (fun _ => []) (fun k4 => [(8, intV .i64 (k4 : Int)), (3, intV .i64 (great4 x + sumN (onI x.Elems gElem) k4))]) (fun k4 => k4 ≤ x.Elems.length ∧ k4 ≤ 25) (fun k4 => x.Elems.length - k4) 0 ⟨by omega, by omega⟩ rfl ?_ ?_
 · exact (.get rfl (VLe.refl _) (.get rfl (VLe.int (by simp only [sumN]; unfold great4 addN; rw [show min x.Exports.length 60 = k3 by omega]; omega)) (.refl _ _)))
 rintro k4 ⟨hk4, hc4⟩
 have hq4 := addN_part (by omega) hb.elem k4
 refine Z14 ?_
 refine Cd (fun c4 => ?_) fun c4 => ?_
 ·
  obtain ⟨y, hx⟩ := getElem?_lt (xs := x.Elems) (k := k4) (by omega)
  have hy1 := hi3 k4 y hx
  refine Z9 ?_
  refine .p (cI _) rfl ?_
  refine Z15 ?_
  refine .round (k4 + 1) ⟨by omega, by omega⟩ (by omega) rfl ?_
  exact (.get rfl (VLe.int (by omega)) (.get rfl (VLe.int (by rw [sumN_at hx]; unfold gElem; omega)) (.keep 26 rfl rfl)))
 refine Z12 ?_
 refine .loopO (σ := Nat) (fun _ => []) (fun k5 => [(9, intV .i64 (k5 : Int)), (3, intV .i64 (great5 x + sumN (onI x.Datas gData) k5))]) (fun k5 => k5 ≤ x.Datas.length ∧ k5 ≤ 25) (fun k5 => x.Datas.length - k5) 0 ⟨by omega, by omega⟩ rfl ?_ ?_
 · exact (.get rfl (VLe.refl _) (.get rfl (VLe.int (by simp only [sumN]; unfold great5 addN; rw [show min x.Elems.length 25 = k4 by omega]; omega)) (.refl _ _)))
 rintro k5 ⟨hk5, hc5⟩
 have hq5 := addN_part (by omega) hb.data k5
 refine Z14 ?_
 refine Cd (fun c5 => ?_) fun c5 => ?_
 ·
  obtain ⟨y, hx⟩ := getElem?_lt (xs := x.Datas) (k := k5) (by omega)
  have hy1 := hi4 k5 y hx
  refine Z9 ?_
  refine .p (cI _) rfl ?_
  refine Z15 ?_
  refine .round (k5 + 1) ⟨by omega, by omega⟩ (by omega) rfl ?_
  exact (.get rfl (VLe.int (by omega)) (.get rfl (VLe.int (by rw [sumN_at hx]; unfold gData; omega)) (.keep 26 rfl rfl)))
 refine Z12 ?_
 refine Rt1 ?_
 exact VLe.int (by unfold greatM addN; rw [show min x.Datas.length 25 = k5 by omega])
theorem l09to_spec (hp0 : l.length ≤ 65536) : FnP Tryz.prog 30 [sliceV 1 encU8 l] (sliceV 1 encU8 l) := by
 refine In 19 Tryz.func30 fun _ _ _ => ?_
 refine Z17 ?_
 refine .ownNil 1 encU8 ?_
 refine .loopO (σ := Nat × SB) (fun s => [sliceH s.2 1 encU8 (l.take s.1)]) (fun s => [(3, exactV (sval s.2 (l.take s.1).length)), (4, intV .i64 (s.1 : Int))]) (fun s => s.1 ≤ l.length) (fun s => l.length - s.1) (0, none) (by simp) (by simp) ?_ ?_
 · exact (.get rfl (VLe.of_eq (by simp [sval])) (.get rfl (VLe.refl _) (.refl _ _)))
 rintro s hk
 refine Z9 ?_
 refine Cd (fun c0 => ?_) fun c0 => ?_
 ·
  obtain ⟨x, hx⟩ := getElem?_lt (xs := l) (k := s.1) (by omega)
  refine Z8 ?_
  refine .p (cI _) rfl ?_
  refine Z1 ?_
  refine .p (cB encU8 [_]) rfl ?_
  refine .n (opAppend (i := 0) FU.out FU.out FC.out rfl FZ.out rfl FY.out (.t rfl) (.t rfl) rfl (by first | omega | (simp <;> omega)) (by first | omega | (simp <;> omega))) rfl fun g17 _ => ?_
  refine Z9 ?_
  refine .round (s.1 + 1, g17) (by omega) (by omega) (by simp only [take_snoc hx]; rfl) ?_
  exact (.get rfl (VLe.of_eq (by simp only [take_snoc hx])) (.get rfl (VLe.int (by omega)) (.keep 17 rfl rfl)))
 have hall : l.take s.1 = l := List.take_of_length_le (by omega)
 rw [hall]
 refine .shareS (n := 1) (enc := encU8) (i := 0) (t := 3) rfl rfl ?_
 refine Z12 ?_
 refine Rt1 ?_
 first | exact VLe.refl _ | exact VLe.int (by omega) | exact VLe.prop (by omega) | exact VLe.prop (by simp_all) | exact VLe.prop (by simp; omega)
theorem l11to_spec {x : InstrD} (hp0 : x.L.length ≤ 65536) : FnP Tryz.prog 76 [aggV (encInstr x)] (aggV (encInstr x)) := by
 refine In 16 Tryz.func76 fun _ _ _ => ?_
 refine Z3 ?_
 refine .n (opAlloc FZ.out) rfl fun b2 _ => ?_
 refine Z3 ?_
 refine .drawK 12 2 FM.out (by kernel_rfl) (k := ?_)
 refine Z8 ?_
 refine .p (opBuildEmpty FU.out FC.out rfl FZ.out rfl) ?_
 refine Z2 ?_
 refine .p (opAppendE FU.out FU.out FC.out rfl FZ.out rfl FY.out (.t rfl) (.t rfl) (by omega)) ?_
 refine Z6 ?_
 refine Post.retR1 rfl () trivial (fun _ _ _ _ => trivial) (.ra (i := 0) FA.out FC.out rfl rfl rfl rfl) ?_
 first | exact VLe.refl _ | exact VLe.int (by omega) | exact VLe.prop (by omega) | exact VLe.prop (by simp_all) | exact VLe.prop (by simp; omega)
theorem l12list_spec {l : List InstrD} (hp0 : l.length ≤ 65536) (hp1 : ∀ x ∈ l, x.L.length ≤ 65536) : FnP Tryz.prog 56 [sliceV 5 encInstr l] (sliceV 5 encInstr l) := by
 refine In 20 Tryz.func56 fun _ _ _ => ?_
 refine Z17 ?_
 refine .ownNil 5 encInstr ?_
 refine .loopO (σ := Nat × SB) (fun s => [sliceH s.2 5 encInstr (l.take s.1)]) (fun s => [(3, exactV (sval s.2 (l.take s.1).length)), (4, intV .i64 (s.1 : Int))]) (fun s => s.1 ≤ l.length) (fun s => l.length - s.1) (0, none) (by simp) (by simp) ?_ ?_
 · exact (.get rfl (VLe.of_eq (by simp [sval])) (.get rfl (VLe.refl _) (.refl _ _)))
 rintro s hk
 refine Z9 ?_
 refine Cd (fun c0 => ?_) fun c0 => ?_
 ·
  obtain ⟨x, hx⟩ := getElem?_lt (xs := l) (k := s.1) (by omega)
  have hxl := hp1 x (List.mem_of_getElem? hx)
  refine Z8 ?_
  refine .p (cI _) rfl ?_
  refine Z1 ?_
  refine .p (cA (h := l11to_spec (by first | assumption | omega))) rfl ?_
  refine .p (cB encInstr [_]) rfl ?_
  refine .n (opAppend (i := 0) FU.out FU.out FC.out rfl FZ.out rfl FY.out (.t rfl) (.t rfl) rfl (by first | omega | (simp <;> omega)) (by first | omega | (simp <;> omega))) rfl fun g18 _ => ?_
  refine Z9 ?_
  refine .round (s.1 + 1, g18) (by omega) (by omega) (by simp only [take_snoc hx]; rfl) ?_
  exact (.get rfl (VLe.of_eq (by simp only [take_snoc hx])) (.get rfl (VLe.int (by omega)) (.keep 18 rfl rfl)))
 have hall : l.take s.1 = l := List.take_of_length_le (by omega)
 rw [hall]
 refine .shareS (n := 5) (enc := encInstr) (i := 0) (t := 3) rfl rfl ?_
 refine Z12 ?_
 refine Rt1 ?_
 first | exact VLe.refl _ | exact VLe.int (by omega) | exact VLe.prop (by omega) | exact VLe.prop (by simp_all) | exact VLe.prop (by simp; omega)
theorem l12to_spec {b : BodyD} (hp0 : SmallB b) : FnP Tryz.prog 31 [aggV (encBody b)] (aggV (encBody b)) := by
 refine In 10 Tryz.func31 fun _ _ _ => ?_
 refine Z3 ?_
 refine .n (opAlloc FZ.out) rfl fun b2 _ => ?_
 refine Z3 ?_
 refine .drawK 5 3 FM.out (by kernel_rfl) (k := ?_)
 refine Z2 ?_
 refine .p (cA (h := l09to_spec (by have := hp0.locals; omega))) ?_
 refine Z3 ?_
 refine .p (cA (h := l12list_spec (by have := hp0.l; omega) (fun x hx => by have := hp0.all x hx; omega))) rfl ?_
 refine Z5 ?_
 refine Post.retR1 rfl () trivial (fun _ _ _ _ => trivial) (.ra (i := 0) FA.out FC.out rfl rfl rfl rfl) ?_
 first | exact VLe.refl _ | exact VLe.int (by omega) | exact VLe.prop (by omega) | exact VLe.prop (by simp_all) | exact VLe.prop (by simp; omega)
theorem l13to_spec {x : ModD} (hp0 : SmallM x) : FnP Tryz.prog 8 [aggV (encMod x)] (ptrV (encMod x)) := by
 refine In 86 Tryz.func8 fun _ _ _ => ?_
 have hc1 := hp0.sigs
 have hc2 := hp0.funcs
 refine Z25 ?_
 refine .n (opBoxOA (.t rfl)) rfl fun b23 _ => ?_
 refine Z10 ?_
 refine .ownNil 2 encSig ?_
 refine .loopO (σ := Nat × SB) (fun s => [sliceH s.2 2 encSig (x.Sigs.take s.1), cellsH b23 (toCells x (exactV (sval s.2 (x.Sigs.take s.1).length)) (exactV (.slice none 0 0)))]) (fun s => [(4, intV .i64 (s.1 : Int))]) (fun s => s.1 ≤ x.Sigs.length) (fun s => x.Sigs.length - s.1) (0, none) (by simp) rfl ?_ ?_
 · exact (.get rfl (VLe.refl _) (.refl _ _))
 rintro s hk
 refine Z10 ?_
 refine Cd (fun c0 => ?_) fun c0 => ?_
 ·
  obtain ⟨y, hx⟩ := getElem?_lt (xs := x.Sigs) (k := s.1) (by omega)
  refine Z4 ?_
  refine .stagedK [(0, 0), (1, 0), (2, 0), (3, 0), (4, 1), (5, 0), (6, 0), (7, 0), (8, 0), (9, 0), (10, 0), (11, 0), (12, 0), (13, 0), (14, 0), (15, 0), (16, 0), (17, 0), (18, 0), (19, 0), (20, 0), (21, 2)] 22 3 FM.out (by kernel_rfl) (k := ?_)
  refine Z8 ?_
  refine .p rfl (fun _ => opIndexAddr FU.out FC.out rfl (.t rfl) (.t rfl) rfl (by assumption)) ?_
  refine Z2 ?_
  refine .p rfl (fun _ => opCall (l09to_spec (by have := hp0.sig y (List.mem_of_getElem? hx); omega)) FB.out (.cons (.t rfl) .nil)) ?_
  refine Z3 ?_
  refine .p rfl (fun _ => opIndexAddr FU.out FC.out rfl (.t rfl) (.t rfl) rfl (by assumption)) ?_
  refine Z2 ?_
  refine .p rfl (fun _ => opCall (l09to_spec (by have := hp0.sig y (List.mem_of_getElem? hx); omega)) FB.out (.cons (.t rfl) .nil)) ?_
  refine Z1 ?_
  refine .p rfl (fun _ => opBuildSlice (enc := encSig) [y] FU.out FC.out rfl FZ.out rfl (.cons (.t rfl) .nil) rfl rfl rfl rfl rfl) ?_
  refine .e rfl (opAppend (i := 0) FU.out FU.out FC.out rfl FZ.out rfl FY.out (.t rfl) (.t rfl) rfl (by first | omega | (simp <;> omega)) (by first | omega | (simp <;> omega))) fun g52 _ => ?_
  refine .fin ?_
  refine Z11 ?_
  refine .round (s.1 + 1, g52) (by omega) (by omega) (by simp only [take_snoc hx]; rfl) ?_
  exact (.get rfl (VLe.int (by omega)) (.keep 33 rfl rfl))
 have hall : x.Sigs.take s.1 = x.Sigs := List.take_of_length_le (by omega)
 rw [hall]
 refine .shareIn (n := 2) (enc := encSig) (i := 0) (j := 0) (f := 0) rfl rfl rfl ?_
 refine Z12 ?_
 refine .ownNil 3 encFunc ?_
 refine .loopO (σ := Nat × SB) (fun s => [sliceH s.2 3 encFunc (x.Funcs.take s.1), cellsH b23 (toCells x (sliceV 2 encSig x.Sigs) (exactV (sval s.2 (x.Funcs.take s.1).length)))]) (fun s => [(5, intV .i64 (s.1 : Int))]) (fun s => s.1 ≤ x.Funcs.length) (fun s => x.Funcs.length - s.1) (0, none) (by simp) rfl ?_ ?_
 · exact (.get rfl (VLe.refl _) (.refl _ _))
 rintro s hk
 refine Z10 ?_
 refine Cd (fun c1 => ?_) fun c1 => ?_
 ·
  obtain ⟨y, hx⟩ := getElem?_lt (xs := x.Funcs) (k := s.1) (by omega)
  refine Z4 ?_
  refine .stagedK [(0, 0), (1, 0), (2, 0), (3, 0), (4, 1), (5, 0), (6, 0), (7, 0), (8, 0), (9, 0), (10, 0), (11, 0), (12, 0), (13, 0), (14, 0), (15, 0), (16, 0), (17, 0), (18, 0), (19, 0), (20, 2)] 21 3 FM.out (by kernel_rfl) (k := ?_)
  refine Z8 ?_
  refine .p rfl (fun _ => opIndexAddr FU.out FC.out rfl (.t rfl) (.t rfl) rfl (by assumption)) ?_
  refine Z5 ?_
  refine .p rfl (fun _ => opIndexAddr FU.out FC.out rfl (.t rfl) (.t rfl) rfl (by assumption)) ?_
  refine Z2 ?_
  refine .p rfl (fun _ => opCall (l12to_spec (hp0.fn y (List.mem_of_getElem? hx))) FB.out (.cons (.t rfl) .nil)) ?_
  refine Z1 ?_
  refine .p rfl (fun _ => opBuildSlice (enc := encFunc) [y] FU.out FC.out rfl FZ.out rfl (.cons (.t rfl) .nil) rfl rfl rfl rfl rfl) ?_
  refine .e rfl (opAppend (i := 0) FU.out FU.out FC.out rfl FZ.out rfl FY.out (.t rfl) (.t rfl) rfl (by first | omega | (simp <;> omega)) (by first | omega | (simp <;> omega))) fun g82 _ => ?_
  refine .fin ?_
  refine Z11 ?_
  refine .round (s.1 + 1, g82) (by omega) (by omega) (by simp only [take_snoc hx]; rfl) ?_
  exact (.get rfl (VLe.int (by omega)) (.keep 32 rfl rfl))
 have hall : x.Funcs.take s.1 = x.Funcs := List.take_of_length_le (by omega)
 rw [hall]
 refine .shareIn (n := 3) (enc := encFunc) (i := 0) (j := 0) (f := 2) rfl rfl rfl ?_
 refine .share (t := 3) (i := 0) rfl rfl ?_
 refine Z12 ?_
 refine Rt1 ?_
 first | exact VLe.refl _ | exact VLe.int (by omega) | exact VLe.prop (by omega) | exact VLe.prop (by simp_all) | exact VLe.prop (by simp; omega)
end Go.Proofs.YtpahnbgfmhcndaaGreatDoor
end
section
namespace Go.Hl
def b1 (d : Nat) : Nat := (d / 2 &&& 85) + (d &&& 85)
def b2 (d : Nat) : Nat := (d / 4 &&& 51) + (d &&& 51)
def b3 (d : Nat) : Nat := (d / 16 + d) &&& 15
def len8L : List UInt8 := (List.range 256).map fun i => UInt8.ofNat (blN i)
theorem bl8 : ∀ i, i < 256 → (UInt8.ofNat (blN i)).toNat = blN i := by decide +kernel
theorem len8_at {x : Nat} (h : x < 256) : len8L[x]? = some (UInt8.ofNat (blN x)) := by simp [len8L, h]
end Go.Hl
end
