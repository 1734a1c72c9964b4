/-
  What the statement's proof leans on, several texts in one (packed by a program).
-/
import Derived.Test.YtpahnbgfmhcndaaGreatDoorBMM
import Derived.Lib.AtoiAllCases
import Derived.Lib.SplitLaws
import Derived.Lib.Join
set_option linter.all false
set_option maxRecDepth 1000000
set_option maxHeartbeats 4000000
section
namespace Go.Hl
open Go.Lib
def atoiV (l : List UInt8) : Int := match atoiAll l with | .ok v => v | .range => atoiSat l | _ => 0
def textL (xs : List Int) : List UInt8 := Lib.join (xs.map itoa) [32]
def partsL (s : List UInt8) : List (List UInt8) := splitN s [32] 5
def numsL (s : List UInt8) : List Int := (partsL s).map atoiV ++ List.replicate (5 - (partsL s).length) 0
theorem parse_append (l r : List UInt8) : ∀ (acc : Nat), parseUint10 acc (l ++ r) = match parseUint10 acc l with | .ok a => parseUint10 a r | e => e := by
 induction l with
 | nil => intro acc; simp [parseUint10]
 | cons c t ih =>
  intro acc
  simp only [List.cons_append, parseUint10]
  split
  · split
    · rfl
    · split
      · rfl
      · exact ih _
  · rfl
theorem dig_toNat {d : Nat} (h : d < 10) : (UInt8.ofNat (48 + d)).toNat = 48 + d := by
 rw [UInt8.toNat_ofNat']; omega
theorem parse_dec (u : Nat) (h : u < 18446744073709551616) : parseUint10 0 (decDigits u) = .ok u := by
 induction u using Nat.strongRecOn with
 | _ u ih =>
  by_cases h10 : u < 10
  · rw [decDigits, dif_pos h10]
    simp only [parseUint10, dig_toNat h10]
    rw [if_pos (by omega), if_neg (by omega), if_neg (by omega)]
    simp
  · rw [decDigits, dif_neg h10, parse_append, ih (u / 10) (by omega) (by omega)]
    simp only [parseUint10, dig_toNat (Nat.mod_lt u (by decide : 0 < 10))]
    rw [if_pos (by omega), if_neg (by omega), if_neg (by omega)]
    congr 1; omega
theorem dec_digits (u : Nat) : ∀ b ∈ decDigits u, 48 ≤ b.toNat ∧ b.toNat ≤ 57 := by
 induction u using Nat.strongRecOn with
 | _ u ih =>
  intro b hb
  by_cases h10 : u < 10
  · rw [decDigits, dif_pos h10] at hb
    simp only [List.mem_cons, List.not_mem_nil, or_false] at hb
    subst hb; rw [dig_toNat h10]; omega
  · rw [decDigits, dif_neg h10] at hb
    rcases List.mem_append.1 hb with hb | hb
    · exact ih (u / 10) (by omega) b hb
    · simp only [List.mem_cons, List.not_mem_nil, or_false] at hb
      subst hb; rw [dig_toNat (Nat.mod_lt u (by decide : 0 < 10))]; omega
theorem itoa_mem (v : Int) : ∀ b ∈ itoa v, b ≠ 32 := by
 intro b hb e
 subst e
 unfold itoa at hb
 split at hb
 · rcases List.mem_cons.1 hb with h | h
   · cases h
   · have := dec_digits _ _ h; simp at this
 · have := dec_digits _ _ hb; simp at this
theorem atoiV_itoa {v : Int} (h0 : -9223372036854775808 ≤ v) (h1 : v ≤ 9223372036854775807) : atoiV (itoa v) = v := by
 unfold atoiV itoa
 by_cases hn : v < 0
 · rw [if_pos hn, atoiAll_minus, parseMag, if_neg (dec_ne _), parse_dec _ (by omega)]
   simp only [signed]
   rw [if_neg (by omega)]
   simp only; omega
 · rw [if_neg hn]
   cases hd : decDigits v.toNat with
   | nil => exact absurd hd (dec_ne _)
   | cons c r =>
    have hc := dec_digits v.toNat c (by rw [hd]; simp)
    rw [atoiAll_plain c r (by omega) (by omega), parseMag, if_neg (by simp), ← hd, parse_dec _ (by omega)]
    simp only [signless]
    rw [if_neg (by omega)]
    simp only; omega
theorem occ1 (c : UInt8) (s : List UInt8) (j : Nat) : occAt s [c] j = decide (s[j]? = some c) := by
 unfold occAt
 rw [Bool.eq_iff_iff]
 cases h : s.drop j with
 | nil =>
  have : s[j]? = none := by rw [List.getElem?_eq_none_iff]; exact List.drop_eq_nil_iff.1 h
  simp [this]
 | cons a t =>
  have e : s[j]? = some a := by
   have e1 : (s.drop j)[0]? = some a := by rw [h]; rfl
   rw [List.getElem?_drop] at e1; exact e1
  simp only [e, List.isPrefixOf, Bool.and_true, beq_iff_eq, decide_eq_true_eq, Option.some.injEq]
  exact eq_comm
theorem index_hit1 (c : UInt8) (a r : List UInt8) (h : ∀ b ∈ a, b ≠ c) : index (a ++ c :: r) [c] = a.length := by
 refine index_first (by simp) (by rw [occ1]; simp) fun j hj => ?_
 rw [occ1]
 simp only [decide_eq_false_iff_not]
 rw [List.getElem?_append_left hj]
 intro e
 exact h c (List.mem_of_getElem? e) rfl
theorem index_miss1 (c : UInt8) (a : List UInt8) (h : ∀ b ∈ a, b ≠ c) : index a [c] = -1 := by
 refine index_none fun j _ => ?_
 rw [occ1]
 simp only [decide_eq_false_iff_not]
 intro e
 exact h c (List.mem_of_getElem? e) rfl
theorem splitK_join (c : UInt8) : ∀ (xs : List (List UInt8)) (x : List UInt8) (k : Nat), (∀ y ∈ x :: xs, ∀ b ∈ y, b ≠ c) → xs.length ≤ k → splitK [c] 0 k (Lib.join (x :: xs) [c]) = x :: xs
 | [], x, k, h, _ => by
  rw [join_one]
  cases k with
  | zero => rfl
  | succ k => unfold splitK; rw [index_miss1 c x (h x (by simp))]; rfl
 | y :: ys, x, k + 1, h, hk => by
  have e : Lib.join (x :: y :: ys) [c] = x ++ c :: Lib.join (y :: ys) [c] := by
   rw [join_cons, join_cons]; simp [joinTail]
  rw [e]
  unfold splitK
  rw [index_hit1 c x _ (h x (by simp))]
  have hm : ¬ (((x.length : Nat) : Int) == -1) = true := by
   intro e; have := eq_of_beq e; omega
  rw [if_neg hm]
  have e1 : (((x.length : Nat) : Int).toNat + 0) = x.length := by omega
  have e2 : (((x.length : Nat) : Int).toNat + [c].length) = x.length + 1 := by simp
  rw [e1, e2]
  have e3 : (x ++ c :: Lib.join (y :: ys) [c]).drop (x.length + 1) = Lib.join (y :: ys) [c] := by
   rw [List.drop_append, List.drop_eq_nil_of_le (by omega)]
   simp
  rw [e3, splitK_join c ys y k (fun z hz => h z (by simp at hz ⊢; right; exact hz)) (by simpa using hk)]
  simp
 | y :: ys, x, 0, _, hk => by simp at hk
theorem joinTail_len (r : List (List UInt8)) : r.length ≤ (joinTail [32] r).length := by
 rw [joinTail_length]; simp
theorem nums_text (a b c d e : Int) (h : ∀ v ∈ [a, b, c, d, e], -9223372036854775808 ≤ v ∧ v ≤ 9223372036854775807) : numsL (textL [a, b, c, d, e]) = [a, b, c, d, e] := by
 have hp : partsL (textL [a, b, c, d, e]) = [a, b, c, d, e].map itoa := by
  unfold partsL textL splitN
  simp only [List.map_cons, List.map_nil]
  refine splitK_join 32 _ _ _ ?_ ?_
  · intro y hy
    simp only [List.mem_cons, List.not_mem_nil, or_false] at hy
    rcases hy with rfl | rfl | rfl | rfl | rfl <;> exact itoa_mem _
  · rw [join_cons]
    have := joinTail_len [itoa b, itoa c, itoa d, itoa e]
    simp only [List.length_append, List.length_cons, List.length_nil] at this ⊢
    omega
 unfold numsL
 rw [hp]
 simp only [List.mem_cons, List.not_mem_nil, or_false, forall_eq_or_imp, forall_eq] at h
 obtain ⟨⟨ha, ha'⟩, ⟨hb, hb'⟩, ⟨hc, hc'⟩, ⟨hd, hd'⟩, he, he'⟩ := h
 simp [atoiV_itoa, *]
theorem nums_len (s : List UInt8) : (numsL s).length = 5 := by
 have h : (partsL s).length ≤ 5 := by
  unfold partsL splitN
  have : ∀ (k : Nat) (s : List UInt8), (splitK [32] 0 k s).length ≤ k + 1 := by
   intro k
   induction k with
   | zero => intro s; simp [splitK]
   | succ k ih =>
    intro s
    unfold splitK
    split
    · simp
    · simp; exact ih _
  have := this (min 5 (s.length + 1) - 1) s
  omega
 simp [numsL]; omega
theorem atoiV_range (l : List UInt8) : -9223372036854775808 ≤ atoiV l ∧ atoiV l ≤ 9223372036854775807 := by
 unfold atoiV
 cases h : atoiAll l with
 | ok v => exact atoiAll_bounds h
 | range => simp only [atoiSat]; split <;> simp
 | _ => simp
theorem nums_range (s : List UInt8) : ∀ v ∈ numsL s, -9223372036854775808 ≤ v ∧ v ≤ 9223372036854775807 := by
 intro v hv
 rcases List.mem_append.1 hv with hv | hv
 · obtain ⟨l, _, rfl⟩ := List.mem_map.1 hv; exact atoiV_range l
 · have := (List.mem_replicate.1 hv).2; subst this; simp
theorem nums_12345 : numsL [49, 32, 50, 32, 51, 32, 52, 32, 53] = [1, 2, 3, 4, 5] := by
 have : textL [1, 2, 3, 4, 5] = [49, 32, 50, 32, 51, 32, 52, 32, 53] := by
  have e : ∀ i : Nat, i < 10 → itoa (i : Int) = [UInt8.ofNat (48 + i)] := fun i h => by
   unfold itoa; rw [if_neg (by omega)]; exact decDigits_one h
  unfold textL
  simp only [List.map_cons, List.map_nil]
  rw [show itoa 1 = _ from e 1 (by decide), show itoa 2 = _ from e 2 (by decide), show itoa 3 = _ from e 3 (by decide), show itoa 4 = _ from e 4 (by decide), show itoa 5 = _ from e 5 (by decide)]
  rfl
 rw [← this]
 exact nums_text 1 2 3 4 5 (by simp)
theorem text_12345 : textL [1, 2, 3, 4, 5] = [49, 32, 50, 32, 51, 32, 52, 32, 53] := by
 have e : ∀ i : Nat, i < 10 → itoa (i : Int) = [UInt8.ofNat (48 + i)] := fun i h => by
  unfold itoa; rw [if_neg (by omega)]; exact decDigits_one h
 unfold textL
 simp only [List.map_cons, List.map_nil]
 rw [show itoa 1 = _ from e 1 (by decide), show itoa 2 = _ from e 2 (by decide), show itoa 3 = _ from e 3 (by decide), show itoa 4 = _ from e 4 (by decide), show itoa 5 = _ from e 5 (by decide)]
 rfl
end Go.Hl
end
section
namespace Go.Hl
open Go.Lib Go.RowKit
def encI (v : Int) : List VP := [iV v]
instance : Enc 1 encI := ⟨fun _ => rfl, fun x q h => by simp only [encI, List.mem_cons, List.not_mem_nil, or_false] at h; subst h; infer_instance⟩
def encSt (l : List UInt8) : List VP := [strV l]
instance : Enc 1 encSt := ⟨fun _ => rfl, fun x q h => by simp only [encSt, List.mem_cons, List.not_mem_nil, or_false] at h; subst h; infer_instance⟩
structure Nd where
 a : Int
 c : Int
 l : Int
 f : Int
 b : Int
 deriving DecidableEq
namespace Nd
def toL (x : Nd) : List Int := [x.a, x.c, x.l, x.f, x.b]
def ofL : List Int → Nd
 | [a, c, l, f, b] => ⟨a, c, l, f, b⟩
 | _ => ⟨0, 0, 0, 0, 0⟩
def mx (x y : Nd) : Nd := ⟨max x.a y.a, max x.c y.c, max x.l y.l, max x.f y.f, max x.b y.b⟩
def ok (x : Nd) : Prop := ∀ v ∈ x.toL, -9223372036854775808 ≤ v ∧ v ≤ 9223372036854775807
def zero : Nd := ⟨0, 0, 0, 0, 0⟩
theorem toL_len (x : Nd) : x.toL.length = 5 := rfl
theorem toL_ofL {l : List Int} (h : l.length = 5) : (ofL l).toL = l := by
 match l, h with
 | [a, c, l, f, b], _ => rfl
end Nd
def encNd (x : Nd) : List VP := [iV x.a, iV x.c, iV x.l, iV x.f, iV x.b]
theorem encNd_flat (x : Nd) : encNd x = x.toL.flatMap encI := rfl
theorem flat_nd {l : List Int} (h : l.length = 5) : l.flatMap encI = encNd (Nd.ofL l) := by rw [encNd_flat, Nd.toL_ofL h]
def encCf (x : Nd) (fr bl : Int) : List VP := [iV x.a, iV fr, iV bl, iV x.b, iV x.c, iV x.l, iV x.f, exactV (.slice none 0 0)]
instance (x : Nd) : FlatL (encNd x) := by unfold encNd; infer_instance
instance (x : Nd) (fr bl : Int) : FlatL (encCf x fr bl) := by unfold encCf; infer_instance
theorem nd_get {x : Nd} {k : Nat} (h : k < 5) : (encNd x)[k]? = some (iV (x.toL.getD k 0)) := by
 match k, h with
 | 0, _ => rfl
 | 1, _ => rfl
 | 2, _ => rfl
 | 3, _ => rfl
 | 4, _ => rfl
theorem toL_get {x : Nd} {k : Nat} (h : k < 5) : x.toL[k]? = some (x.toL.getD k 0) := by
 rw [List.getElem?_eq_getElem (by rw [Nd.toL_len]; exact h)]; simp [List.getD, List.getElem?_eq_getElem (show k < x.toL.length by rw [Nd.toL_len]; exact h)]
theorem nd_take {x : Nd} {k : Nat} (h : k < 5) : (x.toL.take (k + 1)).map itoa = (x.toL.take k).map itoa ++ [itoa (x.toL.getD k 0)] := by
 rw [List.take_add_one, toL_get h, List.map_append]; rfl
theorem arr_sl {α : Type} {b n N : Nat} {enc : α → List VP} {xs : List α} {cs : List VP} {r : List HP} (hcs : cs = xs.flatMap enc) (hl : cs.length = N * n) (hx : xs.length = N) (hN : N ≤ 281474976710656) : OLe (cellsH b cs :: r) (sliceH (some (b, N)) n enc xs :: r) := fun F S w ⟨F1, F2, h1, h2, ⟨hF, arr, T, hh, hn, hc⟩, h4⟩ => by
 subst hcs
 exact ⟨F1, F2, h1, h2, ⟨hF, by omega, by omega, arr, T, hh, by rw [hn, hl], hc⟩, h4⟩
theorem sl_arr {α : Type} {b n N : Nat} {enc : α → List VP} {xs : List α} {cs : List VP} {r : List HP} (hcs : xs.flatMap enc = cs) (hl : cs.length = N * n) : OLe (sliceH (some (b, N)) n enc xs :: r) (cellsH b cs :: r) := fun F S w ⟨F1, F2, h1, h2, ⟨hF, _, _, arr, T, hh, hn, hc⟩, h4⟩ => by
 subst hcs
 exact ⟨F1, F2, h1, h2, ⟨hF, arr, T, hh, by rw [hn, hl], hc⟩, h4⟩
section
variable {P : Program} {hs : List HP} {env : Env} {q : VP} {dst : Option Tmp} {ty T T' E : TypeId} {pos : String} {after : Array Edge} {gd : Option (Nat × Bool)} {x y z : Operand}
theorem opIndexAddrAW {len n b : Nat} {k : IntKind} {i : Int} (j : Nat) (hT : P.underlying T = some (.array len E)) (hn : P.cellsOf E = n) (h0 : Nat.blt 0 n = true) (hx : Opd env x (addrV b 0)) (hy : Opd env y (intV k i)) (hi : i = (j : Int)) (hj : j < len) :
    OpP P hs env ⟨dst, .indexAddr T x y, ty, pos, after, gd⟩ (addrV b (j * n)) := (opIndexAddrO j hT hn h0 hx hy hi hj).le (VLe.of_eq (by rw [Nat.zero_add]))
end
def wantL (x : Nd) (k : Nat) : List UInt8 := textL (x.toL.take k)
theorem wantL_step (x : Nd) {k : Nat} (h : k < 5) : (if 0 < k then wantL x k ++ [32] else wantL x k) ++ itoa (x.toL.getD k 0) = wantL x (k + 1) := by
 match k, h with
 | 0, _ => simp [wantL, textL, Nd.toL, Lib.join, List.intercalate]
 | 1, _ => simp [wantL, textL, Nd.toL, join_cons, joinTail]
 | 2, _ => simp [wantL, textL, Nd.toL, join_cons, joinTail]
 | 3, _ => simp [wantL, textL, Nd.toL, join_cons, joinTail]
 | 4, _ => simp [wantL, textL, Nd.toL, join_cons, joinTail]
theorem itoas_len {x : Nd} (h : x.ok) {k : Nat} (hk : k < 5) : (itoa (x.toL.getD k 0)).length ≤ 20 := by
 obtain ⟨h1, h2⟩ := h (x.toL.getD k 0) (List.mem_of_getElem? (toL_get hk))
 exact itoa_len h1 h2
theorem wantL_len {x : Nd} (h : x.ok) : ∀ {k : Nat}, k ≤ 5 → (wantL x k).length ≤ 21 * k
 | 0, _ => by simp [wantL, textL, Lib.join, List.intercalate]
 | k + 1, hk => by
  have h1 := wantL_len h (k := k) (by omega)
  have h2 := itoas_len h (k := k) (by omega)
  rw [← wantL_step x (by omega), List.length_append]
  split
  · rw [List.length_append]; simp only [List.length_cons, List.length_nil]; omega
  · omega
theorem textL_len {x : Nd} (h : x.ok) : (textL x.toL).length ≤ 105 := wantL_len h (k := 5) (by omega)
def okN (x : Nd) : Prop := ∀ v ∈ x.toL, 0 ≤ v ∧ v ≤ 1000000000
def numsN (s : List UInt8) : Nd := Nd.ofL (numsL s)
def okP (s : List UInt8) : Prop := okN (numsN s) ∧ textL (numsN s).toL = s
open Classical in
noncomputable def parseN (s : List UInt8) : Nd := if okP s then numsN s else .zero
open Classical in
noncomputable def parseE (s : List UInt8) : Int := if okP s then 0 else 4
theorem numsN_ok (s : List UInt8) : (numsN s).ok := by
 intro v hv
 rw [numsN, Nd.toL_ofL (nums_len s)] at hv
 exact nums_range s v hv
theorem parse_pos {s : List UInt8} (h : okP s) : parseN s = numsN s ∧ parseE s = 0 := by
 unfold parseN parseE; rw [if_pos h, if_pos h]; exact ⟨rfl, rfl⟩
theorem parse_neg {s : List UInt8} (h : ¬ okP s) : parseN s = .zero ∧ parseE s = 4 := by
 unfold parseN parseE; rw [if_neg h, if_neg h]; exact ⟨rfl, rfl⟩
theorem okP_12345 : okP [49, 32, 50, 32, 51, 32, 52, 32, 53] ∧ numsN [49, 32, 50, 32, 51, 32, 52, 32, 53] = ⟨1, 2, 3, 4, 5⟩ := by
 have e : numsN [49, 32, 50, 32, 51, 32, 52, 32, 53] = ⟨1, 2, 3, 4, 5⟩ := by unfold numsN; rw [nums_12345]; rfl
 refine ⟨⟨?_, ?_⟩, e⟩
 · rw [e]; simp [okN, Nd.toL]
 · rw [e]; exact text_12345
def numsK (s : List UInt8) (k : Nat) : List Int := ((partsL s).take k).map atoiV ++ List.replicate (5 - min k (partsL s).length) 0
theorem nparts_len (s : List UInt8) : (partsL s).length ≤ 5 := by
 have := nums_len s
 simp only [numsL, List.length_append, List.length_map, List.length_replicate] at this
 omega
theorem numsK_len (s : List UInt8) (k : Nat) : (numsK s k).length = 5 := by
 have := nparts_len s
 simp [numsK]; omega
theorem numsK_zero (s : List UInt8) : numsK s 0 = [0, 0, 0, 0, 0] := by simp [numsK, List.replicate]
theorem numsK_all (s : List UInt8) : numsK s (partsL s).length = numsL s := by simp [numsK, numsL]
theorem numsK_set {s : List UInt8} {k : Nat} {x : List UInt8} (hx : (partsL s)[k]? = some x) : (numsK s k).set k (atoiV x) = numsK s (k + 1) := by
 have hk := (List.getElem?_eq_some_iff.1 hx).1
 have h5 := nparts_len s
 have hx' : (partsL s)[k] = x := (List.getElem?_eq_some_iff.1 hx).2
 unfold numsK
 rw [List.set_append_right _ _ (by simp; omega), List.take_succ_eq_append_getElem hk, List.map_append]
 have e : 5 - min k (partsL s).length = (5 - min (k + 1) (partsL s).length) + 1 := by omega
 have e2 : k - (((partsL s).take k).map atoiV).length = 0 := by simp; omega
 rw [e, e2, List.replicate_succ, List.set_cons_zero, hx']
 simp
theorem numsK_get {s : List UInt8} {k : Nat} (h : k < 5) : (numsK s k)[k]? = some ((numsK s k).getD k 0) := by
 have := numsK_len s k
 simp [List.getD, List.getElem?_eq_getElem (show k < (numsK s k).length by omega)]
def mxK (x y : Nd) (k : Nat) : List Int := (x.mx y).toL.take k ++ x.toL.drop k
theorem mxK_get {x y : Nd} {k : Nat} (h : k < 5) : (mxK x y k)[k]? = some (x.toL.getD k 0) := by
 match k, h with
 | 0, _ => rfl
 | 1, _ => rfl
 | 2, _ => rfl
 | 3, _ => rfl
 | 4, _ => rfl
theorem mxK_set {x y : Nd} {k : Nat} (h : k < 5) : (mxK x y k).set k (max (x.toL.getD k 0) (y.toL.getD k 0)) = mxK x y (k + 1) := by
 match k, h with
 | 0, _ => rfl
 | 1, _ => rfl
 | 2, _ => rfl
 | 3, _ => rfl
 | 4, _ => rfl
def okK (x : Nd) (k : Nat) : Prop := ∀ v ∈ x.toL.take k, 0 ≤ v ∧ v ≤ 1000000000
theorem okK_step {x : Nd} {k : Nat} (h : k < 5) : okK x (k + 1) ↔ okK x k ∧ 0 ≤ x.toL.getD k 0 ∧ x.toL.getD k 0 ≤ 1000000000 := by
 have e : x.toL.take (k + 1) = x.toL.take k ++ [x.toL.getD k 0] := by
  rw [List.take_add_one, toL_get h]; rfl
 unfold okK
 rw [e]
 constructor
 · intro h
   exact ⟨fun v hv => h v (List.mem_append_left _ hv), h _ (by simp)⟩
 · rintro ⟨h1, h2⟩ v hv
   rcases List.mem_append.1 hv with hv | hv
   · exact h1 v hv
   · simp only [List.mem_cons, List.not_mem_nil, or_false] at hv; subst hv; exact h2
theorem okK_zero (x : Nd) : okK x 0 := by simp [okK]
end Go.Hl
end
section
namespace Go.Proofs.YtpahnbgfmhcndaaGreatDoor
open Go.Hl
def encPart (p : List UInt8 × Int) : List VP := [strV p.1, funV Tryz.prog (fun _ : Unit => True) (fun _ => []) (fun _ => intV .i64 p.2)]
instance : Enc 2 encPart := ⟨fun _ => rfl, fun x q h => by simp only [encPart, List.mem_cons, List.not_mem_nil, or_false] at h; rcases h with h | h <;> rw [h] <;> infer_instance⟩
instance (x : List UInt8 × Int) : FlatL (encPart x) := FlatL.of x
noncomputable def partsM (m : ModD) : List (List UInt8 × Int) := [([115, 105, 103, 115], sigsE m), ([105, 109, 112, 111, 114, 116, 115], importsE m), ([102, 117, 110, 99, 115], funcsE m), ([116, 97, 98, 108, 101], tableE m), ([109, 101, 109, 115], memsE m), ([103, 108, 111, 98, 97, 108, 115], globalsE m), ([101, 120, 112, 111, 114, 116, 115], exportsE m), ([115, 116, 97, 114, 116], startE m), ([101, 108, 101, 109, 115], elemsE m), ([100, 97, 116, 97], datasE m)]
noncomputable def fitP (m : ModD) : List UInt8 × Int := ((partsM m).find? fun p => p.2 != 0).getD ([], 0)
variable {m : ModD}
theorem fit_at {k : Nat} {p : List UInt8 × Int} (h : NotB (fun p : List UInt8 × Int => p.2 ≠ 0) (partsM m) k) (hp : (partsM m)[k]? = some p) (hn : p.2 ≠ 0) : fitP m = p := by
 unfold fitP
 have key : ∀ (l : List (List UInt8 × Int)) (k : Nat), NotB (fun p : List UInt8 × Int => p.2 ≠ 0) l k → l[k]? = some p → l.find? (fun p => p.2 != 0) = some p := by
  intro l
  induction l with
  | nil => intro k _ h; simp at h
  | cons x l ih =>
   intro k h hk
   cases k with
   | zero => simp at hk; subst hk; simp [hn]
   | succ k =>
    have h0 := h 0 x (by omega) rfl
    simp only [ne_eq, Classical.not_not] at h0
    rw [List.find?_cons_of_neg (by simp [h0])]
    exact ih k (fun j y hj hy => h (j + 1) y (by omega) (by simpa using hy)) (by simpa using hk)
 rw [key _ k h hp]; rfl
theorem fit_none (h : ∀ p ∈ partsM m, ¬ p.2 ≠ 0) : fitP m = ([], 0) := by
 unfold fitP
 rw [List.find?_eq_none.2 (fun p hp => by have := h p hp; simpa using this)]; rfl
theorem fit_zero : (fitP m).2 = 0 ↔ ∀ p ∈ partsM m, p.2 = 0 := by
 constructor
 · intro h p hp
   unfold fitP at h
   cases hf : (partsM m).find? (fun p => p.2 != 0) with
   | none => have := List.find?_eq_none.1 hf p hp; simpa using this
   | some x => rw [hf] at h; have := List.find?_some hf; simp at this h; exact absurd h this
 · intro h; rw [fit_none (fun p hp => by simpa using h p hp)]
theorem parts_len : (partsM m).length = 10 := rfl
end Go.Proofs.YtpahnbgfmhcndaaGreatDoor
end
section
namespace Go.Proofs.YtpahnbgfmhcndaaGreatDoor
open Go.Hl Go.RowKit
theorem has_spec {n m : Int} : FnP Tryz.prog 73 [intV .i64 n, intV .i64 m] (propV (InP n m)) := by
 refine In 12 Tryz.func73 fun _ _ _ => ?_
 refine Z18 ?_
 refine Rt1 ?_
 first | exact VLe.refl _ | exact VLe.int (by omega) | exact VLe.prop (by omega) | exact VLe.prop (by simp_all) | exact VLe.prop (by simp; omega)
theorem lin_spec {n m : Int} : FnP Tryz.prog 59 [intV .i64 n, intV .i64 m] (propV (InP n m)) := by
 refine In 12 Tryz.func59 fun _ _ _ => ?_
 refine Z18 ?_
 refine Rt1 ?_
 first | exact VLe.refl _ | exact VLe.int (by omega) | exact VLe.prop (by omega) | exact VLe.prop (by simp_all) | exact VLe.prop (by simp; omega)
theorem when_spec {p : Prop} {e : Int} : FnP Tryz.prog 150 [propV p, intV .i64 e] (intV .i64 (whenE p e)) := by
 refine In 7 Tryz.func150 fun _ _ _ => ?_
 refine Z11 ?_
 refine Cd (fun c0 => ?_) fun c0 => ?_
 ·
  refine Z8 ?_
  refine Rt1 ?_
  exact VLe.int (by simp [whenE, *])
 refine Z8 ?_
 refine Rt1 ?_
 exact VLe.int (by simp [whenE, *])
theorem bits_spec {t : UInt8} : FnP Tryz.prog 159 [intV .u8 (t.toNat : Int)] (intV .i64 (bitsI t)) := by
 refine In 8 Tryz.func159 fun _ _ _ => ?_
 refine Z18 ?_
 refine Cd (fun c0 => ?_) fun c0 => ?_
 ·
  refine Z8 ?_
  refine Rt1 ?_
  exact VLe.int (by simp [bitsI, *])
 refine Z6 ?_
 refine Cd (fun c1 => ?_) fun c1 => ?_
 ·
  refine Z8 ?_
  refine Rt1 ?_
  exact VLe.int (by simp [bitsI, *])
 refine Z9 ?_
 refine Rt1 ?_
 exact VLe.int (by simp [bitsI, *])
theorem fewc_spec {t : UInt8} : FnP Tryz.prog 197 [intV .u8 (t.toNat : Int)] (propV (bitsI t = 0)) := by
 refine In 6 Tryz.func197 fun _ _ _ => ?_
 refine Z8 ?_
 refine .p (cA (h := bits_spec)) rfl ?_
 refine Z5 ?_
 refine Rt1 ?_
 first | exact VLe.refl _ | exact VLe.int (by omega) | exact VLe.prop (by omega) | exact VLe.prop (by simp_all) | exact VLe.prop (by simp; omega)
variable {l : List UInt8}
theorem idxType_spec {p : UInt8 → Prop} : FnP Tryz.prog 215 [sliceV 1 encU8 l, funV Tryz.prog (fun _ : UInt8 => True) (fun x => [intV .u8 (x.toNat : Int)]) (fun x => propV (p x))] (intV .i64 (idxF p l)) := by
 refine In 19 Tryz.func215 fun _ _ _ => ?_
 refine .fact (t := 0) rfl (fun S w v h => sliceV_len h) fun hlen => ?_
 refine Z14 ?_
 refine .loopO (σ := Nat) (fun _ => []) (fun k => [(8, intV .i64 (k : Int))]) (fun k => k ≤ l.length ∧ NotB p l k) (fun k => l.length - k) 0 ⟨by omega, NotB.zero p l⟩ rfl ?_ ?_
 · exact (.get rfl (VLe.refl _) (.refl _ _))
 rintro k ⟨hk, hnot⟩
 refine Z6 ?_
 refine Cd (fun c0 => ?_) fun c0 => ?_
 ·
  obtain ⟨x, hx⟩ := getElem?_lt (xs := l) (k := k) (by omega)
  refine Z15 ?_
  refine .p (cI _) rfl ?_
  refine Z1 ?_
  refine .p (cV x) rfl ?_
  refine Z2 ?_
  refine Cd (fun c1 => ?_) fun c1 => ?_
  ·
   refine Z12 ?_
   refine Rt1 ?_
   exact VLe.int (idxF_at hx (by assumption) hnot).symm
  refine Z7 ?_
  refine .round (k + 1) ⟨by omega, hnot.succ hx (by assumption)⟩ (by omega) rfl ?_
  exact (.get rfl (VLe.int (by omega)) (.keep 12 rfl rfl))
 refine Z11 ?_
 refine Rt1 ?_
 exact VLe.int (idxF_none (hnot.all (by omega))).symm
theorem conType_spec {p : UInt8 → Prop} : FnP Tryz.prog 196 [sliceV 1 encU8 l, funV Tryz.prog (fun _ : UInt8 => True) (fun x => [intV .u8 (x.toNat : Int)]) (fun x => propV (p x))] (propV (∃ x ∈ l, p x)) := by
 refine In 9 Tryz.func196 fun _ _ _ => ?_
 refine Z9 ?_
 refine .p (cA (h := idxType_spec)) rfl ?_
 refine Z5 ?_
 refine Rt1 ?_
 exact VLe.prop idxF_nonneg
theorem idxInt_spec {l : List Int} {p : Int → Prop} : FnP Tryz.prog 185 [sliceV 1 encInt l, funV Tryz.prog (fun _ : Int => True) (fun x => [intV .i64 x]) (fun x => propV (p x))] (intV .i64 (idxF p l)) := by
 refine In 19 Tryz.func185 fun _ _ _ => ?_
 refine .fact (t := 0) rfl (fun S w v h => sliceV_len h) fun hlen => ?_
 refine Z14 ?_
 refine .loopO (σ := Nat) (fun _ => []) (fun k => [(8, intV .i64 (k : Int))]) (fun k => k ≤ l.length ∧ NotB p l k) (fun k => l.length - k) 0 ⟨by omega, NotB.zero p l⟩ rfl ?_ ?_
 · exact (.get rfl (VLe.refl _) (.refl _ _))
 rintro k ⟨hk, hnot⟩
 refine Z6 ?_
 refine Cd (fun c0 => ?_) fun c0 => ?_
 ·
  obtain ⟨x, hx⟩ := getElem?_lt (xs := l) (k := k) (by omega)
  refine Z15 ?_
  refine .p (cI _) rfl ?_
  refine Z1 ?_
  refine .p (cV x) rfl ?_
  refine Z2 ?_
  refine Cd (fun c1 => ?_) fun c1 => ?_
  ·
   refine Z12 ?_
   refine Rt1 ?_
   exact VLe.int (idxF_at hx (by assumption) hnot).symm
  refine Z7 ?_
  refine .round (k + 1) ⟨by omega, hnot.succ hx (by assumption)⟩ (by omega) rfl ?_
  exact (.get rfl (VLe.int (by omega)) (.keep 12 rfl rfl))
 refine Z11 ?_
 refine Rt1 ?_
 exact VLe.int (idxF_none (hnot.all (by omega))).symm
theorem conInt_spec {l : List Int} {p : Int → Prop} : FnP Tryz.prog 165 [sliceV 1 encInt l, funV Tryz.prog (fun _ : Int => True) (fun x => [intV .i64 x]) (fun x => propV (p x))] (propV (∃ x ∈ l, p x)) := by
 refine In 9 Tryz.func165 fun _ _ _ => ?_
 refine Z9 ?_
 refine .p (cA (h := idxInt_spec)) rfl ?_
 refine Z5 ?_
 refine Rt1 ?_
 exact VLe.prop idxF_nonneg
theorem idxExport_spec {l : List ExportD} {p : ExportD → Prop} : FnP Tryz.prog 184 [sliceV 3 encExport l, funV Tryz.prog (fun _ : ExportD => True) (fun x => [aggV (encExport x)]) (fun x => propV (p x))] (intV .i64 (idxF p l)) := by
 refine In 19 Tryz.func184 fun _ _ _ => ?_
 refine .fact (t := 0) rfl (fun S w v h => sliceV_len h) fun hlen => ?_
 refine Z14 ?_
 refine .loopO (σ := Nat) (fun _ => []) (fun k => [(8, intV .i64 (k : Int))]) (fun k => k ≤ l.length ∧ NotB p l k) (fun k => l.length - k) 0 ⟨by omega, NotB.zero p l⟩ rfl ?_ ?_
 · exact (.get rfl (VLe.refl _) (.refl _ _))
 rintro k ⟨hk, hnot⟩
 refine Z6 ?_
 refine Cd (fun c0 => ?_) fun c0 => ?_
 ·
  obtain ⟨x, hx⟩ := getElem?_lt (xs := l) (k := k) (by omega)
  refine Z15 ?_
  refine .p (cI _) rfl ?_
  refine Z1 ?_
  refine .p (cV x) rfl ?_
  refine Z2 ?_
  refine Cd (fun c1 => ?_) fun c1 => ?_
  ·
   refine Z12 ?_
   refine Rt1 ?_
   exact VLe.int (idxF_at hx (by assumption) hnot).symm
  refine Z7 ?_
  refine .round (k + 1) ⟨by omega, hnot.succ hx (by assumption)⟩ (by omega) rfl ?_
  exact (.get rfl (VLe.int (by omega)) (.keep 12 rfl rfl))
 refine Z11 ?_
 refine Rt1 ?_
 exact VLe.int (idxF_none (hnot.all (by omega))).symm
theorem conExport_spec {l : List ExportD} {p : ExportD → Prop} : FnP Tryz.prog 162 [sliceV 3 encExport l, funV Tryz.prog (fun _ : ExportD => True) (fun x => [aggV (encExport x)]) (fun x => propV (p x))] (propV (∃ x ∈ l, p x)) := by
 refine In 9 Tryz.func162 fun _ _ _ => ?_
 refine Z9 ?_
 refine .p (cA (h := idxExport_spec)) rfl ?_
 refine Z5 ?_
 refine Rt1 ?_
 exact VLe.prop idxF_nonneg
theorem few_spec : FnP Tryz.prog 183 [sliceV 1 encU8 l] (propV (TypedP l)) := by
 refine In 11 Tryz.func183 fun _ _ _ => ?_
 refine Z12 ?_
 refine .g (OpG.gT rfl rfl rfl rfl (fun hg => opCall (conType_spec) FB.out (.cons (.when (.t rfl) hg) (.cons (.le (.f _) (funV_of FB.out (fun (b : UInt8) (_ : True) => fewc_spec (t := b)))) .nil)))) rfl rfl ?_
 refine Z6 ?_
 refine Rt1 ?_
 exact VLe.prop typed_iff
theorem right_spec {s : SigD} : FnP Tryz.prog 151 [aggV (encSig s)] (propV (RightP s)) := by
 refine In 11 Tryz.func151 fun _ _ _ => ?_
 refine Z10 ?_
 refine .p (cA (h := few_spec)) rfl ?_
 refine Z3 ?_
 refine .g (OpG.gT rfl rfl rfl rfl (fun hg => opCall (few_spec) FB.out (.cons (.when (.t rfl) hg) .nil))) rfl rfl ?_
 refine Z5 ?_
 refine Rt1 ?_
 first | exact VLe.refl _ | exact VLe.int (by omega) | exact VLe.prop (by omega) | exact VLe.prop (by simp_all) | exact VLe.prop (by simp; omega)
theorem lright_spec {l : LimitsD} {most : Int} : FnP Tryz.prog 157 [aggV (encLimits l), intV .i64 most] (propV (LimitsP l most)) := by
 refine In 32 Tryz.func157 fun _ _ _ => ?_
 refine Z39 ?_
 refine Rt1 ?_
 exact VLe.prop (by unfold LimitsP; constructor <;> (intro h; omega))
theorem named_spec : FnP Tryz.prog 153 [strV l] (propV (NamedP l)) := by
 refine In 27 Tryz.func153 fun _ _ _ => ?_
 refine .fact (t := 0) rfl (fun S w v h => strV_len h) fun hlen => ?_
 refine Z14 ?_
 refine .loopO (σ := Nat) (fun _ => []) (fun k => [(6, intV .i64 (k : Int))]) (fun k => k ≤ l.length ∧ NotB (fun b : UInt8 => (b.toNat : Int) < 33 ∨ 126 < (b.toNat : Int)) l k) (fun k => l.length - k) 0 ⟨by omega, NotB.zero _ l⟩ rfl ?_ ?_
 · exact (.get rfl (VLe.refl _) (.refl _ _))
 rintro k ⟨hk, hnot⟩
 refine Z6 ?_
 refine Cd (fun c0 => ?_) fun c0 => ?_
 ·
  obtain ⟨x, hx⟩ := getElem?_lt (xs := l) (k := k) (by omega)
  refine Z14 ?_
  refine .p (opIndexS FU.out (.t rfl) (.t rfl) rfl (by assumption)) rfl ?_
  refine Z4 ?_
  refine .g (OpG.gF rfl rfl rfl rfl (fun hg => opIndexS FU.out (.when (.t rfl) hg) (.when (.t rfl) hg) rfl (by assumption))) rfl rfl ?_
  refine Z4 ?_
  refine Cd (fun c1 => ?_) fun c1 => ?_
  ·
   refine Z11 ?_
   refine Rt1 ?_
   exact VLe.prop (named_bad hx (by assumption)).symm
  refine Z7 ?_
  refine .round (k + 1) ⟨by omega, hnot.succ hx (by assumption)⟩ (by omega) rfl ?_
  exact (.get rfl (VLe.int (by omega)) (.keep 16 rfl rfl))
 refine Z8 ?_
 refine .p (opNeqS (.t rfl) (.s [] rfl rfl)) rfl ?_
 refine Z9 ?_
 refine Rt1 ?_
 exact VLe.prop (named_iff (hnot.all (by omega)))
theorem lnamed_spec : FnP Tryz.prog 58 [strV l] (propV (NamedP l)) := by
 refine In 28 Tryz.func58 fun _ _ _ => ?_
 refine .fact (t := 0) rfl (fun S w v h => strV_len h) fun hlen => ?_
 refine Z12 ?_
 refine .loopO (σ := Nat) (fun _ => []) (fun k => [(3, intV .i64 (k : Int))]) (fun k => k ≤ l.length ∧ NotB (fun b : UInt8 => (b.toNat : Int) < 33 ∨ 126 < (b.toNat : Int)) l k) (fun k => l.length - k) 0 ⟨by omega, NotB.zero _ l⟩ rfl ?_ ?_
 · exact (.get rfl (VLe.refl _) (.refl _ _))
 rintro k ⟨hk, hnot⟩
 refine Z9 ?_
 refine Cd (fun c0 => ?_) fun c0 => ?_
 ·
  obtain ⟨x, hx⟩ := getElem?_lt (xs := l) (k := k) (by omega)
  refine Z8 ?_
  refine .p (opIndexS FU.out (.t rfl) (.t rfl) rfl (by assumption)) rfl ?_
  refine Z4 ?_
  refine .g (OpG.gF rfl rfl rfl rfl (fun hg => opIndexS FU.out (.when (.t rfl) hg) (.when (.t rfl) hg) rfl (by assumption))) rfl rfl ?_
  refine Z4 ?_
  refine Cd (fun c1 => ?_) fun c1 => ?_
  ·
   refine Z11 ?_
   refine Rt1 ?_
   exact VLe.prop (named_bad hx (by assumption)).symm
  refine Z8 ?_
  refine .round (k + 1) ⟨by omega, hnot.succ hx (by assumption)⟩ (by omega) rfl ?_
  exact (.get rfl (VLe.int (by omega)) (.keep 18 rfl rfl))
 refine Z19 ?_
 refine Rt1 ?_
 exact VLe.prop (named_iff2 (hnot.all (by omega)))
theorem typed_spec : FnP Tryz.prog 57 [sliceV 1 encU8 l] (propV (TypedP l)) := by
 refine In 25 Tryz.func57 fun _ _ _ => ?_
 refine .fact (t := 0) rfl (fun S w v h => sliceV_len h) fun hlen => ?_
 refine Z12 ?_
 refine .loopO (σ := Nat) (fun _ => []) (fun k => [(3, intV .i64 (k : Int))]) (fun k => k ≤ l.length ∧ NotB (fun b : UInt8 => (b.toNat : Int) ≠ 126 ∧ (b.toNat : Int) ≠ 127) l k) (fun k => l.length - k) 0 ⟨by omega, NotB.zero _ l⟩ rfl ?_ ?_
 · exact (.get rfl (VLe.refl _) (.refl _ _))
 rintro k ⟨hk, hnot⟩
 refine Z9 ?_
 refine Cd (fun c0 => ?_) fun c0 => ?_
 ·
  obtain ⟨x, hx⟩ := getElem?_lt (xs := l) (k := k) (by omega)
  refine Z8 ?_
  refine .p (cI _) rfl ?_
  refine Z5 ?_
  refine .g (OpG.gT rfl rfl rfl rfl (fun hg => opIndexAddr FU.out FC.out rfl (.when (.t rfl) hg) (.when (.t rfl) hg) rfl (by assumption))) rfl rfl ?_
  refine Z5 ?_
  refine Cd (fun c1 => ?_) fun c1 => ?_
  ·
   refine Z11 ?_
   refine Rt1 ?_
   exact VLe.prop (typed_bad hx (by assumption)).symm
  refine Z8 ?_
  refine .round (k + 1) ⟨by omega, hnot.succ hx (by assumption)⟩ (by omega) rfl ?_
  exact (.get rfl (VLe.int (by omega)) (.keep 20 rfl rfl))
 refine Z14 ?_
 refine Rt1 ?_
 exact VLe.prop (typed_iff2 (hnot.all (by omega)))
theorem first_spec {n : Nat} {g : Nat → Int} (hp0 : n ≤ 281474976710656) : FnP Tryz.prog 154 [intV .i64 (n : Int), funV Tryz.prog (fun i : Nat => i < n) (fun i => [intV .i64 (i : Int)]) (fun i => intV .i64 (g i))] (intV .i64 (firstE g n)) := by
 refine In 18 Tryz.func154 fun _ _ _ => ?_
 refine Z13 ?_
 refine .loopO (σ := Nat) (fun _ => []) (fun k => [(8, intV .i64 (k : Int))]) (fun k => k ≤ n ∧ firstE g k = 0) (fun k => n - k) 0 ⟨by omega, rfl⟩ rfl ?_ ?_
 · exact (.get rfl (VLe.refl _) (.refl _ _))
 rintro k ⟨hk, hg⟩
 refine Z6 ?_
 refine Cd (fun c0 => ?_) fun c0 => ?_
 ·
  refine Z14 ?_
  refine .p (cV k (h := by show k < n; omega)) rfl ?_
  refine Z9 ?_
  refine Cd (fun c1 => ?_) fun c1 => ?_
  ·
   refine Z12 ?_
   refine Rt1 ?_
   exact VLe.int (firstE_at hg c1 (by omega)).symm
  refine Z7 ?_
  refine .round (k + 1) ⟨by omega, by simp only [firstE, hg]; simpa using c1⟩ (by omega) rfl ?_
  exact (.get rfl (VLe.int (by omega)) (.keep 12 rfl rfl))
 refine Z11 ?_
 refine Rt1 ?_
 exact VLe.int (by rw [show n = k by omega]; exact hg.symm)
theorem many_spec {n : Nat} {most : Int} {g : Nat → Int} (hp0 : n ≤ 281474976710656) : FnP Tryz.prog 148 [intV .i64 (n : Int), intV .i64 most, funV Tryz.prog (fun i : Nat => i < n) (fun i => [intV .i64 (i : Int)]) (fun i => intV .i64 (g i))] (intV .i64 (manyE n most g)) := by
 refine In 13 Tryz.func148 fun _ _ _ => ?_
 refine Z13 ?_
 refine Cd (fun c0 => ?_) fun c0 => ?_
 ·
  refine Z7 ?_
  refine Rt1 ?_
  exact VLe.int (by simp [manyE, *])
 refine Z6 ?_
 refine .p (cA (h := first_spec (by first | assumption | omega))) rfl ?_
 refine Z4 ?_
 refine Rt1 ?_
 exact VLe.int (by simp [manyE, *])
variable {m : ModD}
theorem count_spec : FnP Tryz.prog 25 [ptrV (encMod m)] (intV .i64 (countM m)) := by
 refine In 16 Tryz.func25 fun _ _ _ => ?_
 refine .fact (t := 0) rfl (fun S w v h => modLens h) fun hl => ?_
 have hl1 := hl.sigs; have hl2 := hl.imports; have hl3 := hl.funcs; have hl4 := hl.mems; have hl5 := hl.globals; have hl6 := hl.exports; have hl7 := hl.elems; have hl8 := hl.datas
 refine Z12 ?_
 refine Cd (fun c0 => ?_) fun c0 => ?_
 · exact c0.elim
 refine Z3 ?_
 refine .drawK 10 2 FM.out (by kernel_rfl) (k := ?_)
 refine Z16 ?_
 refine Rt1 ?_
 first | exact VLe.refl _ | exact VLe.int (by omega) | exact VLe.prop (by omega) | exact VLe.prop (by simp_all) | exact VLe.prop (by simp; omega)
variable {i : Nat}
theorem sigsc_spec (hp0 : i < m.Sigs.length) : FnP Tryz.prog 149 [intV .i64 (i : Int), ptrV [ptrV (encMod m)]] (intV .i64 (onI m.Sigs sigE i)) := by
 refine In 14 Tryz.func149 fun _ _ _ => ?_
 refine .fact (t := 1) rfl (fun S w v h => modLens2 h) fun hl => ?_
 have hl1 := hl.sigs; have hl2 := hl.imports; have hl3 := hl.funcs; have hl4 := hl.mems; have hl5 := hl.globals; have hl6 := hl.exports; have hl7 := hl.elems; have hl8 := hl.datas
 obtain ⟨x, hx⟩ := getElem?_lt hp0
 refine Z12 ?_
 refine .p (cI _) rfl ?_
 refine Z1 ?_
 refine .p (cA (h := right_spec)) rfl ?_
 refine Z1 ?_
 refine .p (cA (h := when_spec)) rfl ?_
 refine Z4 ?_
 refine Rt1 ?_
 exact VLe.int (by rw [onI_eq hx]; rfl)
theorem importsc_spec (hp0 : i < m.Imports.length) : FnP Tryz.prog 152 [intV .i64 (i : Int), ptrV [ptrV (encMod m)]] (intV .i64 (onI m.Imports (importE m) i)) := by
 refine In 32 Tryz.func152 fun _ _ _ => ?_
 refine .fact (t := 1) rfl (fun S w v h => modLens2 h) fun hl => ?_
 have hl1 := hl.sigs; have hl2 := hl.imports; have hl3 := hl.funcs; have hl4 := hl.mems; have hl5 := hl.globals; have hl6 := hl.exports; have hl7 := hl.elems; have hl8 := hl.datas
 obtain ⟨x, hx⟩ := getElem?_lt hp0
 refine Z12 ?_
 refine .p (cI _) rfl ?_
 refine Z1 ?_
 refine .n (opAlloc FZ.out) rfl fun b4 _ => ?_
 refine Z3 ?_
 refine .share (t := 4) (i := 0) rfl rfl ?_
 refine Z5 ?_
 refine .p (cA (h := named_spec)) rfl ?_
 refine Z4 ?_
 refine .g (OpG.gF rfl rfl rfl rfl (fun hg => opCall (named_spec) FB.out (.cons (.when (.t rfl) hg) .nil))) rfl rfl ?_
 refine Z4 ?_
 refine Cd (fun c0 => ?_) fun c0 => ?_
 ·
  refine Z7 ?_
  refine Rt1 ?_
  exact VLe.int (by rw [onI_eq hx]; simp only [importE]; first | rw [if_pos (by assumption)] | rw [if_neg (by assumption)])
 refine Z3 ?_
 refine .drawK 7 4 FM.out (by kernel_rfl) (k := ?_)
 refine Z8 ?_
 refine .p (cA (h := has_spec)) rfl ?_
 refine Z1 ?_
 refine .p (cA (h := when_spec)) rfl ?_
 refine Z4 ?_
 refine Rt1 ?_
 exact VLe.int (by rw [onI_eq hx]; simp only [importE]; first | rw [if_pos (by assumption)] | rw [if_neg (by assumption)])
theorem funcsc_spec (hp0 : i < m.Funcs.length) : FnP Tryz.prog 155 [intV .i64 (i : Int), ptrV [ptrV (encMod m)]] (intV .i64 (onI m.Funcs (funcE m) i)) := by
 refine In 20 Tryz.func155 fun _ _ _ => ?_
 refine .fact (t := 1) rfl (fun S w v h => modLens2 h) fun hl => ?_
 have hl1 := hl.sigs; have hl2 := hl.imports; have hl3 := hl.funcs; have hl4 := hl.mems; have hl5 := hl.globals; have hl6 := hl.exports; have hl7 := hl.elems; have hl8 := hl.datas
 obtain ⟨x, hx⟩ := getElem?_lt hp0
 refine Z6 ?_
 refine .drawK 13 4 FM.out (by kernel_rfl) (k := ?_)
 refine Z5 ?_
 refine .p (cI _) ?_
 refine Z8 ?_
 refine .p (cA (h := has_spec)) rfl ?_
 refine Z1 ?_
 refine .p (cA (h := when_spec)) rfl ?_
 refine Z4 ?_
 refine Rt1 ?_
 exact VLe.int (by rw [onI_eq hx]; rfl)
theorem memsc_spec (hp0 : i < m.Mems.length) : FnP Tryz.prog 156 [intV .i64 (i : Int), ptrV [ptrV (encMod m)]] (intV .i64 (onI m.Mems memE i)) := by
 refine In 14 Tryz.func156 fun _ _ _ => ?_
 refine .fact (t := 1) rfl (fun S w v h => modLens2 h) fun hl => ?_
 have hl1 := hl.sigs; have hl2 := hl.imports; have hl3 := hl.funcs; have hl4 := hl.mems; have hl5 := hl.globals; have hl6 := hl.exports; have hl7 := hl.elems; have hl8 := hl.datas
 obtain ⟨x, hx⟩ := getElem?_lt hp0
 refine Z12 ?_
 refine .p (cI _) rfl ?_
 refine Z1 ?_
 refine .p (cA (h := lright_spec)) rfl ?_
 refine Z1 ?_
 refine .p (cA (h := when_spec)) rfl ?_
 refine Z4 ?_
 refine Rt1 ?_
 exact VLe.int (by rw [onI_eq hx]; rfl)
theorem globalsc_spec (hp0 : i < m.Globals.length) : FnP Tryz.prog 158 [intV .i64 (i : Int), ptrV [ptrV (encMod m)]] (intV .i64 (onI m.Globals globalE i)) := by
 refine In 27 Tryz.func158 fun _ _ _ => ?_
 refine .fact (t := 1) rfl (fun S w v h => modLens2 h) fun hl => ?_
 have hl1 := hl.sigs; have hl2 := hl.imports; have hl3 := hl.funcs; have hl4 := hl.mems; have hl5 := hl.globals; have hl6 := hl.exports; have hl7 := hl.elems; have hl8 := hl.datas
 obtain ⟨x, hx⟩ := getElem?_lt hp0
 refine Z12 ?_
 refine .p (cI _) rfl ?_
 refine Z1 ?_
 refine .n (opAlloc FZ.out) rfl fun b4 _ => ?_
 refine Z3 ?_
 refine .share (t := 4) (i := 0) rfl rfl ?_
 refine Z4 ?_
 refine .p (cA (h := bits_spec)) rfl ?_
 refine Z11 ?_
 refine .p (cA (h := when_spec)) rfl ?_
 refine Z4 ?_
 refine Rt1 ?_
 exact VLe.int (by rw [onI_eq hx]; rfl)
theorem sigs_spec : FnP Tryz.prog 114 [ptrV (encMod m)] (intV .i64 (sigsE m)) := by
 refine In 10 Tryz.func114 fun _ _ _ => ?_
 refine .fact (t := 0) rfl (fun S w v h => modLens h) fun hl => ?_
 have hl1 := hl.sigs; have hl2 := hl.imports; have hl3 := hl.funcs; have hl4 := hl.mems; have hl5 := hl.globals; have hl6 := hl.exports; have hl7 := hl.elems; have hl8 := hl.datas
 refine Z13 ?_
 refine .p (opMakeFunc (A := Nat) (ok := fun i => i < m.Sigs.length) (arg := fun i => [intV .i64 (i : Int)]) (res := fun i => intV .i64 (onI m.Sigs sigE i)) FB.out .nil (.cons (.t rfl) .nil) (fun i hi => sigsc_spec hi)) rfl ?_
 refine .p (cA (h := many_spec (by first | assumption | omega))) rfl ?_
 refine Z4 ?_
 refine Rt1 ?_
 exact VLe.refl _
theorem imports_spec : FnP Tryz.prog 115 [ptrV (encMod m)] (intV .i64 (importsE m)) := by
 refine In 10 Tryz.func115 fun _ _ _ => ?_
 refine .fact (t := 0) rfl (fun S w v h => modLens h) fun hl => ?_
 have hl1 := hl.sigs; have hl2 := hl.imports; have hl3 := hl.funcs; have hl4 := hl.mems; have hl5 := hl.globals; have hl6 := hl.exports; have hl7 := hl.elems; have hl8 := hl.datas
 refine Z13 ?_
 refine .p (opMakeFunc (A := Nat) (ok := fun i => i < m.Imports.length) (arg := fun i => [intV .i64 (i : Int)]) (res := fun i => intV .i64 (onI m.Imports (importE m) i)) FB.out .nil (.cons (.t rfl) .nil) (fun i hi => importsc_spec hi)) rfl ?_
 refine .p (cA (h := many_spec (by first | assumption | omega))) rfl ?_
 refine Z4 ?_
 refine Rt1 ?_
 exact VLe.refl _
theorem mems_spec : FnP Tryz.prog 118 [ptrV (encMod m)] (intV .i64 (memsE m)) := by
 refine In 10 Tryz.func118 fun _ _ _ => ?_
 refine .fact (t := 0) rfl (fun S w v h => modLens h) fun hl => ?_
 have hl1 := hl.sigs; have hl2 := hl.imports; have hl3 := hl.funcs; have hl4 := hl.mems; have hl5 := hl.globals; have hl6 := hl.exports; have hl7 := hl.elems; have hl8 := hl.datas
 refine Z13 ?_
 refine .p (opMakeFunc (A := Nat) (ok := fun i => i < m.Mems.length) (arg := fun i => [intV .i64 (i : Int)]) (res := fun i => intV .i64 (onI m.Mems memE i)) FB.out .nil (.cons (.t rfl) .nil) (fun i hi => memsc_spec hi)) rfl ?_
 refine .p (cA (h := many_spec (by first | assumption | omega))) rfl ?_
 refine Z4 ?_
 refine Rt1 ?_
 exact VLe.refl _
theorem globals_spec : FnP Tryz.prog 119 [ptrV (encMod m)] (intV .i64 (globalsE m)) := by
 refine In 10 Tryz.func119 fun _ _ _ => ?_
 refine .fact (t := 0) rfl (fun S w v h => modLens h) fun hl => ?_
 have hl1 := hl.sigs; have hl2 := hl.imports; have hl3 := hl.funcs; have hl4 := hl.mems; have hl5 := hl.globals; have hl6 := hl.exports; have hl7 := hl.elems; have hl8 := hl.datas
 refine Z13 ?_
 refine .p (opMakeFunc (A := Nat) (ok := fun i => i < m.Globals.length) (arg := fun i => [intV .i64 (i : Int)]) (res := fun i => intV .i64 (onI m.Globals globalE i)) FB.out .nil (.cons (.t rfl) .nil) (fun i hi => globalsc_spec hi)) rfl ?_
 refine .p (cA (h := many_spec (by first | assumption | omega))) rfl ?_
 refine Z4 ?_
 refine Rt1 ?_
 exact VLe.refl _
theorem funcs_spec : FnP Tryz.prog 116 [ptrV (encMod m)] (intV .i64 (funcsE m)) := by
 refine In 13 Tryz.func116 fun _ _ _ => ?_
 refine .fact (t := 0) rfl (fun S w v h => modLens h) fun hl => ?_
 have hl1 := hl.sigs; have hl2 := hl.imports; have hl3 := hl.funcs; have hl4 := hl.mems; have hl5 := hl.globals; have hl6 := hl.exports; have hl7 := hl.elems; have hl8 := hl.datas
 refine Z10 ?_
 refine .p (cA (h := count_spec)) rfl ?_
 refine Z3 ?_
 refine Cd (fun c0 => ?_) fun c0 => ?_
 ·
  refine Z7 ?_
  refine Rt1 ?_
  exact VLe.int (by simp [funcsE, *])
 refine Z9 ?_
 refine .p (opMakeFunc (A := Nat) (ok := fun i => i < m.Funcs.length) (arg := fun i => [intV .i64 (i : Int)]) (res := fun i => intV .i64 (onI m.Funcs (funcE m) i)) FB.out .nil (.cons (.t rfl) .nil) (fun i hi => funcsc_spec hi)) rfl ?_
 refine .p (cA (h := first_spec (by first | assumption | omega))) rfl ?_
 refine Z4 ?_
 refine Rt1 ?_
 exact VLe.int (by simp [funcsE, *])
theorem table_spec : FnP Tryz.prog 117 [ptrV (encMod m)] (intV .i64 (tableE m)) := by
 refine In 14 Tryz.func117 fun _ _ _ => ?_
 refine Z15 ?_
 refine Cd (fun c0 => ?_) fun c0 => ?_
 ·
  refine Z7 ?_
  refine Rt1 ?_
  exact VLe.int (by simp [tableE, *])
 refine Z9 ?_
 refine .p (cA (h := when_spec)) rfl ?_
 refine Z4 ?_
 refine Rt1 ?_
 exact VLe.int (by simp [tableE, *])
variable {f : Int}
theorem number_spec : FnP Tryz.prog 72 [ptrV (encMod m), intV .i64 f] (tupV [intV .i64 ((numberO m f).getD 0), propV (numberO m f).isSome]) := by
 refine In 43 Tryz.func72 fun _ _ _ => ?_
 refine .fact (t := 0) rfl (fun S w v h => modLens h) fun hl => ?_
 have hl1 := hl.sigs; have hl2 := hl.imports; have hl3 := hl.funcs; have hl4 := hl.mems; have hl5 := hl.globals; have hl6 := hl.exports; have hl7 := hl.elems; have hl8 := hl.datas
 refine Z24 ?_
 refine .g (OpG.gF rfl rfl rfl rfl (fun hg => opCall (count_spec) FB.out (.cons (.when (.t rfl) hg) .nil))) rfl rfl ?_
 refine Z5 ?_
 refine Cd (fun c0 => ?_) fun c0 => ?_
 ·
  refine Z8 ?_
  refine Rt2 ?_ ?_
  · exact VLe.int (by simp [numberO, *])
  exact VLe.prop (by simp [numberO, *])
 refine Z8 ?_
 refine Cd (fun c1 => ?_) fun c1 => ?_
 ·
  refine Z1 ?_
  obtain ⟨j, rfl⟩ : ∃ j : Nat, f = (j : Int) := ⟨f.toNat, by omega⟩
  obtain ⟨x, hx⟩ := getElem?_lt (xs := m.Imports) (k := j) (by omega)
  refine Z6 ?_
  refine .p (cI _) rfl ?_
  refine Z8 ?_
  refine Rt2 ?_ ?_
  · exact VLe.int (by rw [numberO_import (by omega) hx]; rfl)
  exact VLe.prop (by rw [numberO_import (by omega) hx]; simp)
 refine Z1 ?_
 obtain ⟨j, rfl⟩ : ∃ j : Nat, f = (m.Imports.length : Int) + (j : Int) := ⟨(f - m.Imports.length).toNat, by omega⟩
 have hcm : countM m = (m.Imports.length : Int) + (m.Funcs.length : Int) := rfl
 obtain ⟨x, hx⟩ := getElem?_lt (xs := m.Funcs) (k := j) (by omega)
 refine Z8 ?_
 refine .p (cI j) rfl ?_
 refine Z8 ?_
 refine Rt2 ?_ ?_
 · exact VLe.int (by rw [numberO_func hx]; rfl)
 exact VLe.prop (by rw [numberO_func hx]; simp)
theorem msig_spec : FnP Tryz.prog 54 [ptrV (encMod m), intV .i64 f] (tupV [aggV (encSig ((sigO m f).getD ⟨[], []⟩)), propV (sigO m f).isSome]) := by
 refine In 37 Tryz.func54 fun _ _ _ => ?_
 refine .fact (t := 0) rfl (fun S w v h => modLens h) fun hl => ?_
 have hl1 := hl.sigs; have hl2 := hl.imports; have hl3 := hl.funcs; have hl4 := hl.mems; have hl5 := hl.globals; have hl6 := hl.exports; have hl7 := hl.elems; have hl8 := hl.datas
 refine Z2 ?_
 refine .n (opAlloc FZ.out) rfl fun b4 _ => ?_
 refine Z10 ?_
 refine Cd (fun c0 => ?_) fun c0 => ?_
 · exact c0.elim
 refine Z6 ?_
 refine .p (cA (h := number_spec)) rfl ?_
 refine Z19 ?_
 refine .g (OpG.gF rfl rfl rfl rfl (fun hg => opCall (has_spec) FB.out (.cons (.when (.t rfl) hg) (.cons (.when (.t rfl) hg) .nil)))) rfl rfl ?_
 refine Z4 ?_
 refine Cd (fun c1 => ?_) fun c1 => ?_
 ·
  refine Z9 ?_
  refine Post.retR rfl rfl () trivial (fun _ _ _ _ => trivial) rfl (.cons (.ra (i := 0) FA.out FC.out rfl rfl rfl rfl) ?_ (.cons (.rt rfl) ?_ .nil))
  · rw [sigO_none c1]; exact VLe.agg2 (sliceV_nil _ _) (sliceV_nil _ _)
  exact VLe.prop (by rw [sigO_none c1]; simp)
 refine Z3 ?_
 obtain ⟨n, hn⟩ : ∃ n, numberO m f = some n := Option.isSome_iff_exists.1 (Classical.byContradiction fun h => c1 (.inl h))
 have hin : InP n m.Sigs.length := Classical.byContradiction fun h => c1 (.inr (by rw [hn]; exact h))
 obtain ⟨j, hj⟩ : ∃ j : Nat, n = (j : Int) := ⟨n.toNat, by have := hin.1; omega⟩
 obtain ⟨x, hx⟩ := getElem?_lt (xs := m.Sigs) (k := j) (by have := hin.2; omega)
 refine Z6 ?_
 refine .p (cI j (h := by assumption) (hi := by rw [hn, hj]; rfl)) rfl ?_
 refine Z6 ?_
 refine Post.retR rfl rfl () trivial (fun _ _ _ _ => trivial) rfl (.cons (.ra (i := 0) FA.out FC.out rfl rfl rfl rfl) ?_ (.cons (.rt rfl) ?_ .nil))
 · rw [sigO_some hn hj hx]; exact VLe.refl _
 exact VLe.prop (by rw [sigO_some hn hj hx]; simp)
theorem start_spec : FnP Tryz.prog 121 [ptrV (encMod m)] (intV .i64 (startE m)) := by
 refine In 30 Tryz.func121 fun _ _ _ => ?_
 refine .fact (t := 0) rfl (fun S w v h => modLens h) fun hl => ?_
 have hl1 := hl.sigs; have hl2 := hl.imports; have hl3 := hl.funcs; have hl4 := hl.mems; have hl5 := hl.globals; have hl6 := hl.exports; have hl7 := hl.elems; have hl8 := hl.datas
 refine Z15 ?_
 refine Cd (fun c0 => ?_) fun c0 => ?_
 ·
  refine Z7 ?_
  refine Rt1 ?_
  exact VLe.int (by simp [startE, *])
 refine Z9 ?_
 refine .p (cA (h := msig_spec)) rfl ?_
 refine Z3 ?_
 refine .n (opAlloc FZ.out) rfl fun b3 _ => ?_
 refine Z4 ?_
 refine .share (t := 3) (i := 0) rfl rfl ?_
 refine .fact (t := 17) rfl (fun S w v h => And.intro (aggV_len h 0 rfl) (aggV_len h 1 rfl)) fun hs2 => ?_
 obtain ⟨hs3, hs4⟩ := hs2
 refine Z7 ?_
 refine Cd (fun c1 => ?_) fun c1 => ?_
 ·
  refine Z7 ?_
  refine Rt1 ?_
  exact VLe.int (startE_none c0 c1).symm
 refine Z12 ?_
 refine .p (cA (h := when_spec)) rfl ?_
 refine Z4 ?_
 refine Rt1 ?_
 exact VLe.int (startE_some c0 c1).symm
theorem counts_spec : FnP Tryz.prog 160 [ptrV (encMod m)] (aggV [intV .i64 (cnt m 0), intV .i64 (cnt m 1), intV .i64 (cnt m 2), intV .i64 (cnt m 3)]) := by
 refine In 22 Tryz.func160 fun _ _ _ => ?_
 refine .fact (t := 0) rfl (fun S w v h => modLens h) fun hl => ?_
 have hl1 := hl.sigs; have hl2 := hl.imports; have hl3 := hl.funcs; have hl4 := hl.mems; have hl5 := hl.globals; have hl6 := hl.exports; have hl7 := hl.elems; have hl8 := hl.datas
 refine Z2 ?_
 refine .n (opAlloc FZ.out) rfl fun b2 _ => ?_
 refine Z3 ?_
 refine .drawK 18 2 FM.out (by kernel_rfl) (k := ?_)
 refine Z1 ?_
 refine .p (cA (h := count_spec)) ?_
 refine Z4 ?_
 refine .p (opAdd (.t rfl) (.c _)) ?_
 refine .p (opMin (.t rfl) (.c _)) ?_
 refine Z11 ?_
 refine .p (opBuildArr FR.out FZ.out (.cons (.t rfl) (.cons (.t rfl) (.cons (.t rfl) (.cons (.t rfl) .nil)))) rfl) rfl ?_
 refine Z4 ?_
 refine Post.retR1 rfl () trivial (fun _ _ _ _ => trivial) (.ra (i := 0) FA.out FC.out rfl rfl rfl rfl) ?_
 exact VLe.refl _
theorem exportscc_spec {x y : ExportD} : FnP Tryz.prog 163 [aggV (encExport y), ptrV (encExport x)] (propV (y.Name = x.Name)) := by
 refine In 9 Tryz.func163 fun _ _ _ => ?_
 refine Z17 ?_
 refine Rt1 ?_
 first | exact VLe.refl _ | exact VLe.int (by omega) | exact VLe.prop (by omega) | exact VLe.prop (by simp_all) | exact VLe.prop (by simp; omega)
theorem exportsc_spec (hp0 : i < m.Exports.length) : FnP Tryz.prog 161 [intV .i64 (i : Int), ptrV [ptrV (encMod m)], ptrV [intV .i64 (cnt m 0), intV .i64 (cnt m 1), intV .i64 (cnt m 2), intV .i64 (cnt m 3)]] (intV .i64 (exportE m i)) := by
 refine In 46 Tryz.func161 fun _ _ _ => ?_
 refine .fact (t := 1) rfl (fun S w v h => modLens2 h) fun hl => ?_
 have hl1 := hl.sigs; have hl2 := hl.imports; have hl3 := hl.funcs; have hl4 := hl.mems; have hl5 := hl.globals; have hl6 := hl.exports; have hl7 := hl.elems; have hl8 := hl.datas
 obtain ⟨x, hx⟩ := getElem?_lt hp0
 refine Z12 ?_
 refine .p (cI _) rfl ?_
 refine Z1 ?_
 refine .n (opAlloc FZ.out) rfl fun b5 _ => ?_
 refine Z3 ?_
 refine .share (t := 5) (i := 0) rfl rfl ?_
 refine Z7 ?_
 refine .p (opSliceHi FU.out FC.out rfl (.t rfl) (.t rfl) rfl (by omega)) rfl ?_
 refine .p (opMakeFunc (A := ExportD) (ok := fun _ => True) (arg := fun y => [aggV (encExport y)]) (res := fun y => propV (y.Name = x.Name)) FB.out .nil (.cons (.t rfl) .nil) (fun y _ => exportscc_spec)) rfl ?_
 refine .p (cA (h := conExport_spec)) rfl ?_
 refine Z8 ?_
 refine .p (cA (h := named_spec)) rfl ?_
 refine Z6 ?_
 refine Cd (fun c0 => ?_) fun c0 => ?_
 ·
  refine Z7 ?_
  refine Rt1 ?_
  exact VLe.int (exportE_name hx c0).symm
 refine Z3 ?_
 refine .drawK 13 5 FM.out (by kernel_rfl) (k := ?_)
 refine Z2 ?_
 refine .p (cA (h := has_spec)) ?_
 refine Z6 ?_
 refine .cons (OpG.gF rfl rfl rfl rfl (fun hg => opMin (.when (.t rfl) hg) (.c _))) ?_
 refine Z1 ?_
 refine .cons (OpG.gF rfl rfl rfl rfl (fun hg => opIndexAddrA (kindJ x.Kind) FU.out FC.out rfl (.t rfl) (.when (.t rfl) hg) (by unfold kindJ; omega) (by unfold kindJ; omega))) ?_
 refine .cons (OpG.gF rfl rfl rfl rfl (fun hg => opLoad FA.out (.le (.when (.t rfl) hg) (ptrV_at (cnt_at m (kindJ x.Kind) (by unfold kindJ; omega)))))) ?_
 refine Z1 ?_
 refine .g (OpG.gF rfl rfl rfl rfl (fun hg => opCall (has_spec) FB.out (.cons (.when (.t rfl) hg) (.cons (.when (.t rfl) hg) .nil)))) rfl rfl ?_
 refine Z2 ?_
 refine .p (cA (h := when_spec)) rfl ?_
 refine Z4 ?_
 refine Rt1 ?_
 exact VLe.int (exportE_rest hx c0).symm
theorem exports_spec : FnP Tryz.prog 120 [ptrV (encMod m)] (intV .i64 (exportsE m)) := by
 refine In 13 Tryz.func120 fun _ _ _ => ?_
 refine .fact (t := 0) rfl (fun S w v h => modLens h) fun hl => ?_
 have hl1 := hl.sigs; have hl2 := hl.imports; have hl3 := hl.funcs; have hl4 := hl.mems; have hl5 := hl.globals; have hl6 := hl.exports; have hl7 := hl.elems; have hl8 := hl.datas
 refine Z9 ?_
 refine .p (cA (h := counts_spec)) rfl ?_
 refine .n (opAlloc FZ.out) rfl fun b3 _ => ?_
 refine Z3 ?_
 refine .share (t := 3) (i := 0) rfl rfl ?_
 refine Z7 ?_
 refine .p (opMakeFunc (A := Nat) (ok := fun i => i < m.Exports.length) (arg := fun i => [intV .i64 (i : Int)]) (res := fun i => intV .i64 (exportE m i)) FB.out .nil (.cons (.t rfl) (.cons (.t rfl) .nil)) (fun i hi => exportsc_spec hi)) rfl ?_
 refine .p (cA (h := many_spec (by first | assumption | omega))) rfl ?_
 refine Z4 ?_
 refine Rt1 ?_
 exact VLe.refl _
theorem elemscc_spec : FnP Tryz.prog 166 [intV .i64 f, ptrV [ptrV (encMod m)]] (propV (¬ InP f (countM m))) := by
 refine In 9 Tryz.func166 fun _ _ _ => ?_
 refine Z9 ?_
 refine .p (cA (h := count_spec)) rfl ?_
 refine .p (cA (h := has_spec)) rfl ?_
 refine Z5 ?_
 refine Rt1 ?_
 first | exact VLe.refl _ | exact VLe.int (by omega) | exact VLe.prop (by omega) | exact VLe.prop (by simp_all) | exact VLe.prop (by simp; omega)
theorem elemsc_spec (hp0 : i < m.Elems.length) : FnP Tryz.prog 164 [intV .i64 (i : Int), ptrV [ptrV (encMod m)]] (intV .i64 (onI m.Elems (elemE m) i)) := by
 refine In 35 Tryz.func164 fun _ _ _ => ?_
 refine .fact (t := 1) rfl (fun S w v h => modLens2 h) fun hl => ?_
 have hl1 := hl.sigs; have hl2 := hl.imports; have hl3 := hl.funcs; have hl4 := hl.mems; have hl5 := hl.globals; have hl6 := hl.exports; have hl7 := hl.elems; have hl8 := hl.datas
 obtain ⟨x, hx⟩ := getElem?_lt hp0
 refine Z12 ?_
 refine .p (cI _) rfl ?_
 refine Z1 ?_
 refine .n (opAlloc FZ.out) rfl fun b4 _ => ?_
 refine Z3 ?_
 refine .share (t := 4) (i := 0) rfl rfl ?_
 refine Z9 ?_
 refine Cd (fun c0 => ?_) fun c0 => ?_
 ·
  refine Z7 ?_
  refine Rt1 ?_
  exact VLe.int (by rw [onI_eq hx]; simp [elemE, *])
 refine Z6 ?_
 refine .p (opMakeFunc (A := Int) (ok := fun _ => True) (arg := fun f => [intV .i64 f]) (res := fun f => propV (¬ InP f (countM m))) FB.out .nil (.cons (.t rfl) .nil) (fun f _ => elemscc_spec)) rfl ?_
 refine .p (cA (h := conInt_spec)) rfl ?_
 refine Z18 ?_
 refine .p (cA (h := when_spec)) rfl ?_
 refine Z4 ?_
 refine Rt1 ?_
 exact VLe.int (by rw [onI_eq hx]; exact (elemE_rest c0).symm)
theorem elems_spec : FnP Tryz.prog 122 [ptrV (encMod m)] (intV .i64 (elemsE m)) := by
 refine In 10 Tryz.func122 fun _ _ _ => ?_
 refine .fact (t := 0) rfl (fun S w v h => modLens h) fun hl => ?_
 have hl1 := hl.sigs; have hl2 := hl.imports; have hl3 := hl.funcs; have hl4 := hl.mems; have hl5 := hl.globals; have hl6 := hl.exports; have hl7 := hl.elems; have hl8 := hl.datas
 refine Z13 ?_
 refine .p (opMakeFunc (A := Nat) (ok := fun i => i < m.Elems.length) (arg := fun i => [intV .i64 (i : Int)]) (res := fun i => intV .i64 (onI m.Elems (elemE m) i)) FB.out .nil (.cons (.t rfl) .nil) (fun i hi => elemsc_spec hi)) rfl ?_
 refine .p (cA (h := many_spec (by first | assumption | omega))) rfl ?_
 refine Z4 ?_
 refine Rt1 ?_
 exact VLe.refl _
theorem datasc_spec (hp0 : i < m.Datas.length) : FnP Tryz.prog 167 [intV .i64 (i : Int), ptrV [ptrV (encMod m)]] (intV .i64 (onI m.Datas (dataE m) i)) := by
 refine In 51 Tryz.func167 fun _ _ _ => ?_
 refine .fact (t := 1) rfl (fun S w v h => modLens2 h) fun hl => ?_
 have hl1 := hl.sigs; have hl2 := hl.imports; have hl3 := hl.funcs; have hl4 := hl.mems; have hl5 := hl.globals; have hl6 := hl.exports; have hl7 := hl.elems; have hl8 := hl.datas
 obtain ⟨x, hx⟩ := getElem?_lt hp0
 refine Z12 ?_
 refine .p (cI _) rfl ?_
 refine Z1 ?_
 refine .n (opAlloc FZ.out) rfl fun b4 _ => ?_
 refine Z3 ?_
 refine .share (t := 4) (i := 0) rfl rfl ?_
 refine Z9 ?_
 refine Cd (fun c0 => ?_) fun c0 => ?_
 ·
  refine Z7 ?_
  refine Rt1 ?_
  exact VLe.int (by rw [onI_eq hx]; simp [dataE, *])
 refine Z3 ?_
 refine .drawK 24 12 FM.out (by kernel_rfl) (k := ?_)
 refine Z7 ?_
 refine .p (cA (h := has_spec)) ?_
 refine Z14 ?_
 refine .cons (OpG.gF rfl rfl rfl rfl (fun hg => opMin (.when (.t rfl) hg) (.when (.t rfl) hg))) ?_
 refine Z2 ?_
 refine .g (OpG.gF rfl rfl rfl rfl (fun hg => opIndexAddr (j := x.Mem.toNat) FU.out FC.out rfl (.when (.t rfl) hg) (.when (.t rfl) hg) (data_at (Classical.not_not.1 hg)) (data_mem (Classical.not_not.1 hg)))) rfl rfl ?_
 refine Z9 ?_
 refine .p (cA (h := when_spec)) rfl ?_
 refine Z4 ?_
 refine Rt1 ?_
 exact VLe.int (by rw [onI_eq hx]; exact (dataE_rest c0).symm)
theorem datas_spec : FnP Tryz.prog 123 [ptrV (encMod m)] (intV .i64 (datasE m)) := by
 refine In 10 Tryz.func123 fun _ _ _ => ?_
 refine .fact (t := 0) rfl (fun S w v h => modLens h) fun hl => ?_
 have hl1 := hl.sigs; have hl2 := hl.imports; have hl3 := hl.funcs; have hl4 := hl.mems; have hl5 := hl.globals; have hl6 := hl.exports; have hl7 := hl.elems; have hl8 := hl.datas
 refine Z13 ?_
 refine .p (opMakeFunc (A := Nat) (ok := fun i => i < m.Datas.length) (arg := fun i => [intV .i64 (i : Int)]) (res := fun i => intV .i64 (onI m.Datas (dataE m) i)) FB.out .nil (.cons (.t rfl) .nil) (fun i hi => datasc_spec hi)) rfl ?_
 refine .p (cA (h := many_spec (by first | assumption | omega))) rfl ?_
 refine Z4 ?_
 refine Rt1 ?_
 exact VLe.refl _
theorem fit_spec : FnP Tryz.prog 87 [ptrV (encMod m)] (tupV [strV (fitP m).1, intV .i64 (fitP m).2]) := by
 refine In 52 Tryz.func87 fun _ _ _ => ?_
 refine Z2 ?_
 refine .p (opAssign (.s [] rfl rfl)) rfl ?_
 refine Z10 ?_
 refine Cd (fun c0 => ?_) fun c0 => ?_
 · exact c0.elim
 refine Z6 ?_
 refine .p (opMakeFunc (A := Unit) (ok := fun _ => True) (arg := fun _ => []) (res := fun _ => intV .i64 (sigsE m)) FB.out (.cons (.t rfl) .nil) .nil (fun _ _ => sigs_spec)) rfl ?_
 refine .p (opBuild FP.out FZ.out (.cons (.s [115, 105, 103, 115] rfl rfl) (.cons (.t rfl) .nil)) rfl) rfl ?_
 refine Z1 ?_
 refine .p (opMakeFunc (A := Unit) (ok := fun _ => True) (arg := fun _ => []) (res := fun _ => intV .i64 (importsE m)) FB.out (.cons (.t rfl) .nil) .nil (fun _ _ => imports_spec)) rfl ?_
 refine .p (opBuild FP.out FZ.out (.cons (.s [105, 109, 112, 111, 114, 116, 115] rfl rfl) (.cons (.t rfl) .nil)) rfl) rfl ?_
 refine Z1 ?_
 refine .p (opMakeFunc (A := Unit) (ok := fun _ => True) (arg := fun _ => []) (res := fun _ => intV .i64 (funcsE m)) FB.out (.cons (.t rfl) .nil) .nil (fun _ _ => funcs_spec)) rfl ?_
 refine .p (opBuild FP.out FZ.out (.cons (.s [102, 117, 110, 99, 115] rfl rfl) (.cons (.t rfl) .nil)) rfl) rfl ?_
 refine Z1 ?_
 refine .p (opMakeFunc (A := Unit) (ok := fun _ => True) (arg := fun _ => []) (res := fun _ => intV .i64 (tableE m)) FB.out (.cons (.t rfl) .nil) .nil (fun _ _ => table_spec)) rfl ?_
 refine .p (opBuild FP.out FZ.out (.cons (.s [116, 97, 98, 108, 101] rfl rfl) (.cons (.t rfl) .nil)) rfl) rfl ?_
 refine Z1 ?_
 refine .p (opMakeFunc (A := Unit) (ok := fun _ => True) (arg := fun _ => []) (res := fun _ => intV .i64 (memsE m)) FB.out (.cons (.t rfl) .nil) .nil (fun _ _ => mems_spec)) rfl ?_
 refine .p (opBuild FP.out FZ.out (.cons (.s [109, 101, 109, 115] rfl rfl) (.cons (.t rfl) .nil)) rfl) rfl ?_
 refine Z1 ?_
 refine .p (opMakeFunc (A := Unit) (ok := fun _ => True) (arg := fun _ => []) (res := fun _ => intV .i64 (globalsE m)) FB.out (.cons (.t rfl) .nil) .nil (fun _ _ => globals_spec)) rfl ?_
 refine .p (opBuild FP.out FZ.out (.cons (.s [103, 108, 111, 98, 97, 108, 115] rfl rfl) (.cons (.t rfl) .nil)) rfl) rfl ?_
 refine Z1 ?_
 refine .p (opMakeFunc (A := Unit) (ok := fun _ => True) (arg := fun _ => []) (res := fun _ => intV .i64 (exportsE m)) FB.out (.cons (.t rfl) .nil) .nil (fun _ _ => exports_spec)) rfl ?_
 refine .p (opBuild FP.out FZ.out (.cons (.s [101, 120, 112, 111, 114, 116, 115] rfl rfl) (.cons (.t rfl) .nil)) rfl) rfl ?_
 refine Z1 ?_
 refine .p (opMakeFunc (A := Unit) (ok := fun _ => True) (arg := fun _ => []) (res := fun _ => intV .i64 (startE m)) FB.out (.cons (.t rfl) .nil) .nil (fun _ _ => start_spec)) rfl ?_
 refine .p (opBuild FP.out FZ.out (.cons (.s [115, 116, 97, 114, 116] rfl rfl) (.cons (.t rfl) .nil)) rfl) rfl ?_
 refine Z1 ?_
 refine .p (opMakeFunc (A := Unit) (ok := fun _ => True) (arg := fun _ => []) (res := fun _ => intV .i64 (elemsE m)) FB.out (.cons (.t rfl) .nil) .nil (fun _ _ => elems_spec)) rfl ?_
 refine .p (opBuild FP.out FZ.out (.cons (.s [101, 108, 101, 109, 115] rfl rfl) (.cons (.t rfl) .nil)) rfl) rfl ?_
 refine Z1 ?_
 refine .p (opMakeFunc (A := Unit) (ok := fun _ => True) (arg := fun _ => []) (res := fun _ => intV .i64 (datasE m)) FB.out (.cons (.t rfl) .nil) .nil (fun _ _ => datas_spec)) rfl ?_
 refine .p (opBuild FP.out FZ.out (.cons (.s [100, 97, 116, 97] rfl rfl) (.cons (.t rfl) .nil)) rfl) rfl ?_
 refine .p (opBuildArr FR.out FZ.out (.cons (.t rfl) (.cons (.t rfl) (.cons (.t rfl) (.cons (.t rfl) (.cons (.t rfl) (.cons (.t rfl) (.cons (.t rfl) (.cons (.t rfl) (.cons (.t rfl) (.cons (.t rfl) .nil)))))))))) rfl) rfl ?_
 refine Z4 ?_
 refine .loopO (σ := Nat) (fun _ => []) (fun k => [(40, intV .i64 (k : Int))]) (fun k => k ≤ 10 ∧ NotB (fun p : List UInt8 × Int => p.2 ≠ 0) (partsM m) k) (fun k => 10 - k) 0 ⟨by omega, NotB.zero _ _⟩ rfl ?_ ?_
 · exact (.get rfl (VLe.refl _) (.refl _ _))
 rintro k ⟨hk, hnot⟩
 refine Z6 ?_
 refine Cd (fun c1 => ?_) fun c1 => ?_
 ·
  obtain ⟨p, hp⟩ := getElem?_lt (xs := partsM m) (k := k) (by rw [parts_len]; omega)
  refine Z6 ?_
  refine .p (opIndexA (enc := encPart) (partsM m) FU.out FC.out rfl FA.out (.t rfl) rfl rfl (.t rfl) rfl (by assumption)) rfl ?_
  refine .n (opAlloc FZ.out) rfl fun b5 _ => ?_
  refine Z3 ?_
  refine .share (t := 5) (i := 0) rfl rfl ?_
  refine Z4 ?_
  refine .p (cV ()) rfl ?_
  refine Z9 ?_
  refine Cd (fun c2 => ?_) fun c2 => ?_
  ·
   refine Z15 ?_
   refine Rt2 ?_ ?_
   · exact VLe.of_eq (by rw [fit_at hnot hp c2])
   exact VLe.of_eq (by rw [fit_at hnot hp c2])
  refine Z7 ?_
  refine .round (k + 1) ⟨by omega, hnot.succ hp (by assumption)⟩ (by omega) rfl ?_
  exact (.get rfl (VLe.int (by omega)) (.keep 13 rfl rfl))
 refine Z7 ?_
 refine .p (opAssign (.s [] rfl rfl)) rfl ?_
 refine Z4 ?_
 refine Rt2 ?_ ?_
 · exact VLe.of_eq (by rw [fit_none (hnot.all (by rw [parts_len]; omega))])
 exact VLe.of_eq (by rw [fit_none (hnot.all (by rw [parts_len]; omega))])
theorem eqType_spec {a b : List UInt8} : FnP Tryz.prog 247 [sliceV 1 encU8 a, sliceV 1 encU8 b] (propV (a = b)) := by
 refine In 26 Tryz.func247 fun _ _ _ => ?_
 refine .fact (t := 0) rfl (fun S w v h => sliceV_len h) fun hlen => ?_
 refine Z15 ?_
 refine Cd (fun c0 => ?_) fun c0 => ?_
 ·
  refine Z7 ?_
  refine Rt1 ?_
  exact VLe.prop (ne_len c0).symm
 refine Z11 ?_
 refine .loopO (σ := Nat) (fun _ => []) (fun k => [(13, intV .i64 (k : Int))]) (fun k => k ≤ a.length ∧ EqB a b k) (fun k => a.length - k) 0 ⟨by omega, EqB.zero _ _⟩ rfl ?_ ?_
 · exact (.get rfl (VLe.refl _) (.refl _ _))
 rintro k ⟨hk, heq⟩
 refine Z6 ?_
 refine Cd (fun c1 => ?_) fun c1 => ?_
 ·
  obtain ⟨x, hx⟩ := getElem?_lt (xs := a) (k := k) (by omega)
  obtain ⟨y, hy⟩ := getElem?_lt (xs := b) (k := k) (by omega)
  refine Z11 ?_
  refine .drawK 8 1 FM.out (by kernel_rfl) (k := ?_)
  refine Z2 ?_
  refine .p (cI _) ?_
  refine Z3 ?_
  refine .p (cI _) ?_
  refine Z5 ?_
  refine .cond (.le (.t rfl) (VLe.prop (not_congr u8_eq))) (fun c2 => ?_) (fun c2 => ?_)
  ·
   refine Z11 ?_
   refine Rt1 ?_
   exact VLe.prop (ne_at hx hy c2).symm
  refine Z7 ?_
  refine .round (k + 1) ⟨by omega, heq.succ hx hy (Classical.not_not.1 c2)⟩ (by omega) rfl ?_
  exact (.get rfl (VLe.int (by omega)) (.keep 15 rfl rfl))
 refine Z11 ?_
 refine Rt1 ?_
 exact VLe.prop (by simp [heq.all (by omega) (by omega)])
theorem l12great_spec {b : BodyD} : FnP Tryz.prog 47 [aggV (encBody b)] (intV .i64 (greatB b)) := by
 refine In 39 Tryz.func47 fun _ _ _ => ?_
 refine .fact (t := 0) rfl (fun S w v h => bodyLens h) fun hlen => ?_
 have hl1 := hlen.locals
 have hl2 := hlen.l
 refine Z29 ?_
 refine .loopO (σ := Nat) (fun _ => []) (fun k => [(4, intV .i64 (k : Int)), (3, intV .i64 (max ((b.Locals.length : Int) - 60) 0 + max ((b.L.length : Int) - 150) 0 + sumN (onI b.L gInstr) k))]) (fun k => k ≤ b.L.length ∧ k ≤ 150) (fun k => b.L.length - k) 0 ⟨by omega, by omega⟩ rfl ?_ ?_
 · exact (.get rfl (VLe.refl _) (.get rfl (VLe.int (by simp [sumN])) (.refl _ _)))
 rintro k ⟨hk, hk2⟩
 have hq := addN_part (by omega) (gInstr_le hlen) k
 refine Z14 ?_
 refine Cd (fun c0 => ?_) fun c0 => ?_
 ·
  obtain ⟨x, hx⟩ := getElem?_lt (xs := b.L) (k := k) (by omega)
  have hxl := hlen.all k x hx
  refine Z9 ?_
  refine .p (cI _) rfl ?_
  refine Z15 ?_
  refine .round (k + 1) ⟨by omega, by omega⟩ (by omega) rfl ?_
  exact (.get rfl (VLe.int (by omega)) (.get rfl (VLe.int (by rw [sumN_at hx]; unfold gInstr; omega)) (.keep 26 rfl rfl)))
 refine Z12 ?_
 refine Rt1 ?_
 exact VLe.int (by unfold greatB addN; rw [show min b.L.length 150 = k by omega])
theorem great_spec {x : ModD} : FnP Tryz.prog 20 [aggV (encMod x)] (intV .i64 (greatM x)) := by
 refine In 204 Tryz.func20 fun _ _ _ => ?_
 refine .fact (t := 0) rfl (fun S w v h => modLens3 h) fun hlen => ?_
 have hall := hlen
 obtain ⟨⟨hl0, hl1, hl2, hl3, hl4, hl5, hl6, hl7⟩, ⟨hi0, hi1, hi2, hi3, hi4⟩, hi5⟩ := hlen
 have hb := greatB_of hall
 have hb0 := hb.n0
 obtain ⟨hb1, hb2, hb3, hb4, hb5⟩ := great_bnds hb
 refine Z40 ?_
 refine Z25 ?_
 refine .loopO (σ := Nat) (fun _ => []) (fun k0 => [(4, intV .i64 (k0 : Int)), (3, intV .i64 (great0 x + sumN (onI x.Sigs gSig) k0))]) (fun k0 => k0 ≤ x.Sigs.length ∧ k0 ≤ 60) (fun k0 => x.Sigs.length - k0) 0 ⟨by omega, by omega⟩ rfl ?_ ?_
 · exact (.get rfl (VLe.refl _) (.get rfl (VLe.int (by simp only [sumN]; unfold great0; omega)) (.refl _ _)))
 rintro k0 ⟨hk0, hc0⟩
 have hq0 := addN_part (by omega) hb.sig k0
 refine Z14 ?_
 refine Cd (fun c0 => ?_) fun c0 => ?_
 ·
  obtain ⟨y, hx⟩ := getElem?_lt (xs := x.Sigs) (k := k0) (by omega)
  have hy1 := hi0 k0 y hx
  refine Z4 ?_
  refine .drawK 18 2 FM.out (by kernel_rfl) (k := ?_)
  refine Z4 ?_
  refine .p (cI _) ?_
  refine Z6 ?_
  refine .p (cI _) ?_
  refine Z17 ?_
  refine .round (k0 + 1) ⟨by omega, by omega⟩ (by omega) rfl ?_
  exact (.get rfl (VLe.int (by omega)) (.get rfl (VLe.int (by rw [sumN_at hx]; unfold gSig; omega)) (.keep 34 rfl rfl)))
 refine Z12 ?_
 refine .loopO (σ := Nat) (fun _ => []) (fun k1 => [(5, intV .i64 (k1 : Int)), (3, intV .i64 (great1 x + sumN (onI x.Imports gImp) k1))]) (fun k1 => k1 ≤ x.Imports.length ∧ k1 ≤ 25) (fun k1 => x.Imports.length - k1) 0 ⟨by omega, by omega⟩ rfl ?_ ?_
 · exact (.get rfl (VLe.refl _) (.get rfl (VLe.int (by simp only [sumN]; unfold great1 addN; rw [show min x.Sigs.length 60 = k0 by omega]; omega)) (.refl _ _)))
 rintro k1 ⟨hk1, hc1⟩
 have hq1 := addN_part (by omega) hb.imp k1
 refine Z14 ?_
 refine Cd (fun c1 => ?_) fun c1 => ?_
 ·
  obtain ⟨y, hx⟩ := getElem?_lt (xs := x.Imports) (k := k1) (by omega)
  have hy1 := hi1 k1 y hx
  refine Z4 ?_
  refine .drawK 18 2 FM.out (by kernel_rfl) (k := ?_)
  refine Z4 ?_
  refine .p (cI _) ?_
  refine Z6 ?_
  refine .p (cI _) ?_
  refine Z17 ?_
  refine .round (k1 + 1) ⟨by omega, by omega⟩ (by omega) rfl ?_
  exact (.get rfl (VLe.int (by omega)) (.get rfl (VLe.int (by rw [sumN_at hx]; unfold gImp; omega)) (.keep 34 rfl rfl)))
 refine Z12 ?_
 refine .loopO (σ := Nat) (fun _ => []) (fun k2 => [(6, intV .i64 (k2 : Int)), (3, intV .i64 (great2 x + sumN (onI x.Funcs gFn) k2))]) (fun k2 => k2 ≤ x.Funcs.length ∧ k2 ≤ 110) (fun k2 => x.Funcs.length - k2) 0 ⟨by omega, by omega⟩ rfl ?_ ?_
 · exact (.get rfl (VLe.refl _) (.get rfl (VLe.int (by simp only [sumN]; unfold great2 addN; rw [show min x.Imports.length 25 = k1 by omega]; omega)) (.refl _ _)))
 rintro k2 ⟨hk2, hc2⟩
 have hq2 := addN_part (by omega) hb.fn k2
 refine Z14 ?_
 refine Cd (fun c2 => ?_) fun c2 => ?_
 ·
  obtain ⟨y, hx⟩ := getElem?_lt (xs := x.Funcs) (k := k2) (by omega)
  have hy1 := hb.fn k2 y hx
  unfold gFn at hy1
  refine Z9 ?_
  refine .p (cI _) rfl ?_
  refine Z2 ?_
  refine .p (cA (h := l12great_spec)) rfl ?_
  refine Z10 ?_
  refine .round (k2 + 1) ⟨by omega, by omega⟩ (by omega) rfl ?_
  exact (.get rfl (VLe.int (by omega)) (.get rfl (VLe.int (by rw [sumN_at hx]; unfold gFn; omega)) (.keep 24 rfl rfl)))
 refine Z12 ?_
 refine .loopO (σ := Nat) (fun _ => []) (fun k3 => [(7, intV .i64 (k3 : Int)), (3, intV .i64 (great3 x + sumN (onI x.Exports gExp) k3))]) (fun k3 => k3 ≤ x.Exports.length ∧ k3 ≤ 60) (fun k3 => x.Exports.length - k3) 0 ⟨by omega, by omega⟩ rfl ?_ ?_
 · exact (.get rfl (VLe.refl _) (.get rfl (VLe.int (by simp only [sumN]; unfold great3 addN; rw [show min x.Funcs.length 110 = k2 by omega]; omega)) (.refl _ _)))
 rintro k3 ⟨hk3, hc3⟩
 have hq3 := addN_part (by omega) hb.exp k3
 refine Z14 ?_
 refine Cd (fun c3 => ?_) fun c3 => ?_
 ·
  obtain ⟨y, hx⟩ := getElem?_lt (xs := x.Exports) (k := k3) (by omega)
  have hy1 := hi2 k3 y hx
  refine Z9 ?_
  refine .p (cI _) rfl ?_
  refine Z15 ?_
  refine .round (k3 + 1) ⟨by omega, by omega⟩ (by omega) rfl ?_
  exact (.get rfl (VLe.int (by omega)) (.get rfl (VLe.int (by rw [sumN_at hx]; unfold gExp; omega)) (.keep 26 rfl rfl)))
 refine Z12 ?_
 refine .loopO (σ := Nat) (fun _ => []) (fun k4 => [(8, intV .i64 (k4 : Int)), (3, intV .i64 (great4 x + sumN (onI x.Elems gElem) k4))]) (fun k4 => k4 ≤ x.Elems.length ∧ k4 ≤ 25) (fun k4 => x.Elems.length - k4) 0 ⟨by omega, by omega⟩ rfl ?_ ?_
 · exact (.get rfl (VLe.refl _) (.get rfl (VLe.int (by simp only [sumN]; unfold great4 addN; rw [show min x.Exports.length 60 = k3 by omega]; omega)) (.refl _ _)))
 rintro k4 ⟨hk4, hc4⟩
 have hq4 := addN_part (by omega) hb.elem k4
 refine Z14 ?_
 refine Cd (fun c4 => ?_) fun c4 => ?_
 ·
  obtain ⟨y, hx⟩ := getElem?_lt (xs := x.Elems) (k := k4) (by omega)
  have hy1 := hi3 k4 y hx
  refine Z9 ?_
  refine .p (cI _) rfl ?_
  refine Z15 ?_
  refine .round (k4 + 1) ⟨by omega, by omega⟩ (by omega) rfl ?_
  exact (.get rfl (VLe.int (by omega)) (.get rfl (VLe.int (by rw [sumN_at hx]; unfold gElem; omega)) (.keep 26 rfl rfl)))
 refine Z12 ?_
 refine .loopO (σ := Nat) (fun _ => []) (fun k5 => [(9, intV .i64 (k5 : Int)), (3, intV .i64 (great5 x + sumN (onI x.Datas gData) k5))]) (fun k5 => k5 ≤ x.Datas.length ∧ k5 ≤ 25) (fun k5 => x.Datas.length - k5) 0 ⟨by omega, by omega⟩ rfl ?_ ?_
 · exact (.get rfl (VLe.refl _) (.get rfl (VLe.int (by simp only [sumN]; unfold great5 addN; rw [show min x.Elems.length 25 = k4 by omega]; omega)) (.refl _ _)))
 rintro k5 ⟨hk5, hc5⟩
 have hq5 := addN_part (by omega) hb.data k5
 refine Z14 ?_
 refine Cd (fun c5 => ?_) fun c5 => ?_
 ·
  obtain ⟨y, hx⟩ := getElem?_lt (xs := x.Datas) (k := k5) (by omega)
  have hy1 := hi4 k5 y hx
  refine Z9 ?_
  refine .p (cI _) rfl ?_
  refine Z15 ?_
  refine .round (k5 + 1) ⟨by omega, by omega⟩ (by omega) rfl ?_
  exact (.get rfl (VLe.int (by omega)) (.get rfl (VLe.int (by rw [sumN_at hx]; unfold gData; omega)) (.keep 26 rfl rfl)))
 refine Z12 ?_
 refine Rt1 ?_
 exact VLe.int (by unfold greatM addN; rw [show min x.Datas.length 25 = k5 by omega])
theorem l09to_spec (hp0 : l.length ≤ 65536) : FnP Tryz.prog 30 [sliceV 1 encU8 l] (sliceV 1 encU8 l) := by
 refine In 19 Tryz.func30 fun _ _ _ => ?_
 refine Z17 ?_
 refine .ownNil 1 encU8 ?_
 refine .loopO (σ := Nat × SB) (fun s => [sliceH s.2 1 encU8 (l.take s.1)]) (fun s => [(3, exactV (sval s.2 (l.take s.1).length)), (4, intV .i64 (s.1 : Int))]) (fun s => s.1 ≤ l.length) (fun s => l.length - s.1) (0, none) (by simp) (by simp) ?_ ?_
 · exact (.get rfl (VLe.of_eq (by simp [sval])) (.get rfl (VLe.refl _) (.refl _ _)))
 rintro s hk
 refine Z9 ?_
 refine Cd (fun c0 => ?_) fun c0 => ?_
 ·
  obtain ⟨x, hx⟩ := getElem?_lt (xs := l) (k := s.1) (by omega)
  refine Z8 ?_
  refine .p (cI _) rfl ?_
  refine Z1 ?_
  refine .p (cB encU8 [_]) rfl ?_
  refine .n (opAppend (i := 0) FU.out FU.out FC.out rfl FZ.out rfl FY.out (.t rfl) (.t rfl) rfl (by first | omega | (simp <;> omega)) (by first | omega | (simp <;> omega))) rfl fun g17 _ => ?_
  refine Z9 ?_
  refine .round (s.1 + 1, g17) (by omega) (by omega) (by simp only [take_snoc hx]; rfl) ?_
  exact (.get rfl (VLe.of_eq (by simp only [take_snoc hx])) (.get rfl (VLe.int (by omega)) (.keep 17 rfl rfl)))
 have hall : l.take s.1 = l := List.take_of_length_le (by omega)
 rw [hall]
 refine .shareS (n := 1) (enc := encU8) (i := 0) (t := 3) rfl rfl ?_
 refine Z12 ?_
 refine Rt1 ?_
 first | exact VLe.refl _ | exact VLe.int (by omega) | exact VLe.prop (by omega) | exact VLe.prop (by simp_all) | exact VLe.prop (by simp; omega)
theorem l11to_spec {x : InstrD} (hp0 : x.L.length ≤ 65536) : FnP Tryz.prog 76 [aggV (encInstr x)] (aggV (encInstr x)) := by
 refine In 16 Tryz.func76 fun _ _ _ => ?_
 refine Z3 ?_
 refine .n (opAlloc FZ.out) rfl fun b2 _ => ?_
 refine Z3 ?_
 refine .drawK 12 2 FM.out (by kernel_rfl) (k := ?_)
 refine Z8 ?_
 refine .p (opBuildEmpty FU.out FC.out rfl FZ.out rfl) ?_
 refine Z2 ?_
 refine .p (opAppendE FU.out FU.out FC.out rfl FZ.out rfl FY.out (.t rfl) (.t rfl) (by omega)) ?_
 refine Z6 ?_
 refine Post.retR1 rfl () trivial (fun _ _ _ _ => trivial) (.ra (i := 0) FA.out FC.out rfl rfl rfl rfl) ?_
 first | exact VLe.refl _ | exact VLe.int (by omega) | exact VLe.prop (by omega) | exact VLe.prop (by simp_all) | exact VLe.prop (by simp; omega)
theorem l12list_spec {l : List InstrD} (hp0 : l.length ≤ 65536) (hp1 : ∀ x ∈ l, x.L.length ≤ 65536) : FnP Tryz.prog 56 [sliceV 5 encInstr l] (sliceV 5 encInstr l) := by
 refine In 20 Tryz.func56 fun _ _ _ => ?_
 refine Z17 ?_
 refine .ownNil 5 encInstr ?_
 refine .loopO (σ := Nat × SB) (fun s => [sliceH s.2 5 encInstr (l.take s.1)]) (fun s => [(3, exactV (sval s.2 (l.take s.1).length)), (4, intV .i64 (s.1 : Int))]) (fun s => s.1 ≤ l.length) (fun s => l.length - s.1) (0, none) (by simp) (by simp) ?_ ?_
 · exact (.get rfl (VLe.of_eq (by simp [sval])) (.get rfl (VLe.refl _) (.refl _ _)))
 rintro s hk
 refine Z9 ?_
 refine Cd (fun c0 => ?_) fun c0 => ?_
 ·
  obtain ⟨x, hx⟩ := getElem?_lt (xs := l) (k := s.1) (by omega)
  have hxl := hp1 x (List.mem_of_getElem? hx)
  refine Z8 ?_
  refine .p (cI _) rfl ?_
  refine Z1 ?_
  refine .p (cA (h := l11to_spec (by first | assumption | omega))) rfl ?_
  refine .p (cB encInstr [_]) rfl ?_
  refine .n (opAppend (i := 0) FU.out FU.out FC.out rfl FZ.out rfl FY.out (.t rfl) (.t rfl) rfl (by first | omega | (simp <;> omega)) (by first | omega | (simp <;> omega))) rfl fun g18 _ => ?_
  refine Z9 ?_
  refine .round (s.1 + 1, g18) (by omega) (by omega) (by simp only [take_snoc hx]; rfl) ?_
  exact (.get rfl (VLe.of_eq (by simp only [take_snoc hx])) (.get rfl (VLe.int (by omega)) (.keep 18 rfl rfl)))
 have hall : l.take s.1 = l := List.take_of_length_le (by omega)
 rw [hall]
 refine .shareS (n := 5) (enc := encInstr) (i := 0) (t := 3) rfl rfl ?_
 refine Z12 ?_
 refine Rt1 ?_
 first | exact VLe.refl _ | exact VLe.int (by omega) | exact VLe.prop (by omega) | exact VLe.prop (by simp_all) | exact VLe.prop (by simp; omega)
theorem l12to_spec {b : BodyD} (hp0 : SmallB b) : FnP Tryz.prog 31 [aggV (encBody b)] (aggV (encBody b)) := by
 refine In 10 Tryz.func31 fun _ _ _ => ?_
 refine Z3 ?_
 refine .n (opAlloc FZ.out) rfl fun b2 _ => ?_
 refine Z3 ?_
 refine .drawK 5 3 FM.out (by kernel_rfl) (k := ?_)
 refine Z2 ?_
 refine .p (cA (h := l09to_spec (by have := hp0.locals; omega))) ?_
 refine Z3 ?_
 refine .p (cA (h := l12list_spec (by have := hp0.l; omega) (fun x hx => by have := hp0.all x hx; omega))) rfl ?_
 refine Z5 ?_
 refine Post.retR1 rfl () trivial (fun _ _ _ _ => trivial) (.ra (i := 0) FA.out FC.out rfl rfl rfl rfl) ?_
 first | exact VLe.refl _ | exact VLe.int (by omega) | exact VLe.prop (by omega) | exact VLe.prop (by simp_all) | exact VLe.prop (by simp; omega)
theorem l13to_spec {x : ModD} (hp0 : SmallM x) : FnP Tryz.prog 8 [aggV (encMod x)] (ptrV (encMod x)) := by
 refine In 86 Tryz.func8 fun _ _ _ => ?_
 have hc1 := hp0.sigs
 have hc2 := hp0.funcs
 refine Z25 ?_
 refine .n (opBoxOA (.t rfl)) rfl fun b23 _ => ?_
 refine Z10 ?_
 refine .ownNil 2 encSig ?_
 refine .loopO (σ := Nat × SB) (fun s => [sliceH s.2 2 encSig (x.Sigs.take s.1), cellsH b23 (toCells x (exactV (sval s.2 (x.Sigs.take s.1).length)) (exactV (.slice none 0 0)))]) (fun s => [(4, intV .i64 (s.1 : Int))]) (fun s => s.1 ≤ x.Sigs.length) (fun s => x.Sigs.length - s.1) (0, none) (by simp) rfl ?_ ?_
 · exact (.get rfl (VLe.refl _) (.refl _ _))
 rintro s hk
 refine Z10 ?_
 refine Cd (fun c0 => ?_) fun c0 => ?_
 ·
  obtain ⟨y, hx⟩ := getElem?_lt (xs := x.Sigs) (k := s.1) (by omega)
  refine Z4 ?_
  refine .stagedK [(0, 0), (1, 0), (2, 0), (3, 0), (4, 1), (5, 0), (6, 0), (7, 0), (8, 0), (9, 0), (10, 0), (11, 0), (12, 0), (13, 0), (14, 0), (15, 0), (16, 0), (17, 0), (18, 0), (19, 0), (20, 0), (21, 2)] 22 3 FM.out (by kernel_rfl) (k := ?_)
  refine Z8 ?_
  refine .p rfl (fun _ => opIndexAddr FU.out FC.out rfl (.t rfl) (.t rfl) rfl (by assumption)) ?_
  refine Z2 ?_
  refine .p rfl (fun _ => opCall (l09to_spec (by have := hp0.sig y (List.mem_of_getElem? hx); omega)) FB.out (.cons (.t rfl) .nil)) ?_
  refine Z3 ?_
  refine .p rfl (fun _ => opIndexAddr FU.out FC.out rfl (.t rfl) (.t rfl) rfl (by assumption)) ?_
  refine Z2 ?_
  refine .p rfl (fun _ => opCall (l09to_spec (by have := hp0.sig y (List.mem_of_getElem? hx); omega)) FB.out (.cons (.t rfl) .nil)) ?_
  refine Z1 ?_
  refine .p rfl (fun _ => opBuildSlice (enc := encSig) [y] FU.out FC.out rfl FZ.out rfl (.cons (.t rfl) .nil) rfl rfl rfl rfl rfl) ?_
  refine .e rfl (opAppend (i := 0) FU.out FU.out FC.out rfl FZ.out rfl FY.out (.t rfl) (.t rfl) rfl (by first | omega | (simp <;> omega)) (by first | omega | (simp <;> omega))) fun g52 _ => ?_
  refine .fin ?_
  refine Z11 ?_
  refine .round (s.1 + 1, g52) (by omega) (by omega) (by simp only [take_snoc hx]; rfl) ?_
  exact (.get rfl (VLe.int (by omega)) (.keep 33 rfl rfl))
 have hall : x.Sigs.take s.1 = x.Sigs := List.take_of_length_le (by omega)
 rw [hall]
 refine .shareIn (n := 2) (enc := encSig) (i := 0) (j := 0) (f := 0) rfl rfl rfl ?_
 refine Z12 ?_
 refine .ownNil 3 encFunc ?_
 refine .loopO (σ := Nat × SB) (fun s => [sliceH s.2 3 encFunc (x.Funcs.take s.1), cellsH b23 (toCells x (sliceV 2 encSig x.Sigs) (exactV (sval s.2 (x.Funcs.take s.1).length)))]) (fun s => [(5, intV .i64 (s.1 : Int))]) (fun s => s.1 ≤ x.Funcs.length) (fun s => x.Funcs.length - s.1) (0, none) (by simp) rfl ?_ ?_
 · exact (.get rfl (VLe.refl _) (.refl _ _))
 rintro s hk
 refine Z10 ?_
 refine Cd (fun c1 => ?_) fun c1 => ?_
 ·
  obtain ⟨y, hx⟩ := getElem?_lt (xs := x.Funcs) (k := s.1) (by omega)
  refine Z4 ?_
  refine .stagedK [(0, 0), (1, 0), (2, 0), (3, 0), (4, 1), (5, 0), (6, 0), (7, 0), (8, 0), (9, 0), (10, 0), (11, 0), (12, 0), (13, 0), (14, 0), (15, 0), (16, 0), (17, 0), (18, 0), (19, 0), (20, 2)] 21 3 FM.out (by kernel_rfl) (k := ?_)
  refine Z8 ?_
  refine .p rfl (fun _ => opIndexAddr FU.out FC.out rfl (.t rfl) (.t rfl) rfl (by assumption)) ?_
  refine Z5 ?_
  refine .p rfl (fun _ => opIndexAddr FU.out FC.out rfl (.t rfl) (.t rfl) rfl (by assumption)) ?_
  refine Z2 ?_
  refine .p rfl (fun _ => opCall (l12to_spec (hp0.fn y (List.mem_of_getElem? hx))) FB.out (.cons (.t rfl) .nil)) ?_
  refine Z1 ?_
  refine .p rfl (fun _ => opBuildSlice (enc := encFunc) [y] FU.out FC.out rfl FZ.out rfl (.cons (.t rfl) .nil) rfl rfl rfl rfl rfl) ?_
  refine .e rfl (opAppend (i := 0) FU.out FU.out FC.out rfl FZ.out rfl FY.out (.t rfl) (.t rfl) rfl (by first | omega | (simp <;> omega)) (by first | omega | (simp <;> omega))) fun g82 _ => ?_
  refine .fin ?_
  refine Z11 ?_
  refine .round (s.1 + 1, g82) (by omega) (by omega) (by simp only [take_snoc hx]; rfl) ?_
  exact (.get rfl (VLe.int (by omega)) (.keep 32 rfl rfl))
 have hall : x.Funcs.take s.1 = x.Funcs := List.take_of_length_le (by omega)
 rw [hall]
 refine .shareIn (n := 3) (enc := encFunc) (i := 0) (j := 0) (f := 2) rfl rfl rfl ?_
 refine .share (t := 3) (i := 0) rfl rfl ?_
 refine Z12 ?_
 refine Rt1 ?_
 first | exact VLe.refl _ | exact VLe.int (by omega) | exact VLe.prop (by omega) | exact VLe.prop (by simp_all) | exact VLe.prop (by simp; omega)
end Go.Proofs.YtpahnbgfmhcndaaGreatDoor
end
section
namespace Go.Hl
def b1 (d : Nat) : Nat := (d / 2 &&& 85) + (d &&& 85)
def b2 (d : Nat) : Nat := (d / 4 &&& 51) + (d &&& 51)
def b3 (d : Nat) : Nat := (d / 16 + d) &&& 15
def len8L : List UInt8 := (List.range 256).map fun i => UInt8.ofNat (blN i)
theorem bl8 : ∀ i, i < 256 → (UInt8.ofNat (blN i)).toNat = blN i := by decide +kernel
theorem len8_at {x : Nat} (h : x < 256) : len8L[x]? = some (UInt8.ofNat (blN x)) := by simp [len8L, h]
def encP (p : Prop) : List VP := [propV p]
instance : Enc 1 encP := ⟨fun _ => rfl, fun x q h => by simp only [encP, List.mem_cons, List.not_mem_nil, or_false] at h; subst h; infer_instance⟩
def sgP (n : Nat) (op : Int) (A : Nat) : Prop := (op = 3 ∨ op = 5) ∧ 2 ^ (n - 1) ≤ A
instance {n : Nat} {op : Int} {A : Nat} : Decidable (sgP n op A) := by unfold sgP; infer_instance
def noI : InstrD := ⟨-1, 0, 0, 0, []⟩
def isC (x : InstrD) : Prop := x.Code = 65 ∨ x.Code = 66
instance (x : InstrD) : Decidable (isC x) := by unfold isC; infer_instance
def stopP (c : Int) : Prop := ((c = 0 ∨ c = 12) ∨ c = 14) ∨ c = 15
def boundP (c : Int) : Prop := (2 ≤ c ∧ c ≤ 5) ∨ c = 11
instance (c : Int) : Decidable (stopP c) := by unfold stopP; infer_instance
instance (c : Int) : Decidable (boundP c) := by unfold boundP; infer_instance
abbrev gI (l : List InstrD) (i : Nat) : InstrD := l.getD i noI
end Go.Hl
end
section
namespace Go.Hl
open Go.RowKit
section
variable {P : Program} {hs : List HP} {env : Env} {q : VP} {dst : Option Tmp} {ty T T' E : TypeId} {pos : String} {after : Array Edge} {gd : Option (Nat × Bool)} {x y z : Operand}
theorem opAppendMk {α : Type} {n N by_ : Nat} {i : Int} {k : IntKind} {enc : α → List VP} {zs : List Value} (hT : P.underlying T = some (.slice E)) (hT2 : P.underlying T' = some (.int k)) (hn : P.cellsOf E = N) (h0 : Nat.blt 0 N = true)
    (hz : zeroB P E = some zs) (hzl : zs.length = N) (hb : P.bytesOf E = by_) (hx : Opd env x (exactV (.slice none 0 0))) (hy : Opd env y (intV .i64 i)) (hi : i = (n : Int)) (hn1 : 0 < n) (hroom : (2 * n + 256) * by_ ≤ 281474976710656) (hlen : n ≤ 281474976710656) :
    OpE P hs env ⟨dst, .call ⟨.builtin .append, #[x, y], #[T, T']⟩, ty, pos, after, gd⟩ (γ := Nat × Nat) (fun _ => True) (fun g => sliceH (some g) N enc ([] : List α) :: hs) (fun g => exactV (sval (some g) n)) := by
  intro c a w S F hsit hown hev K Q hk
  have hv := hx S w a hev; simp only [exactV] at hv
  have hyv := hy S w a hev; simp only [exactV] at hyv
  subst hi
  have hsz := run_sizeOf hn h0 w
  obtain ⟨info, hi1, hi2⟩ := run_typeInfo' hn h0 w
  have hbytes : info.bytes = by_ := hi2.trans hb
  have hw : IntKind.i64.wrap (n : Int) = (n : Int) := wrap_fits (fits_i64 (by omega) (by omega))
  have hnn : ¬ ((n : Int) < 0) := by omega
  have hns := nextslicecap_le (need := n) (cap := 0) (by omega)
  have hcapB : Builtin.nextslicecap n 0 * by_ ≤ 281474976710656 := Nat.le_trans (Nat.mul_le_mul_right _ hns) hroom
  obtain ⟨zv', hz1', hz2'⟩ := run_zero hz w.drew
  obtain ⟨info', hi1', hi2'⟩ := run_typeInfo' hn h0 w.drew
  generalize hcut : Question.cut (.appendCap n 0 E) (w.tape w.drawn (.appendCap n 0 E)) = newCap
  have hge : n ≤ newCap := by rw [← hcut]; simp only [Question.cut]; omega
  have hN0 : 0 < N := by simpa using h0
  have hnN : ¬ (n * N = 0) := Nat.mul_ne_zero (by omega) (by omega)
  let row : Array Value := Builtin.zeroCells zv'.cells n ++ Builtin.zeroCells zv'.cells (newCap - n)
  have hr : (execOp a.eval ⟨dst, .call ⟨.builtin .append, #[x, y], #[T, T']⟩, ty, pos, after, gd⟩).run P w = .ok (.value (.slice (some ⟨w.heap.size, 0, none⟩) n newCap)) (w.drew.alloc (.cells row E)) := by
    have hnot : ¬ (n ≤ 0) := by omega
    have hn0 : ¬ (n = 0) := by omega
    have hNn0 : ¬ (N = 0) := by omega
    have hbig : ¬ ((9223372036854775807 : Int) < (n : Int)) := by omega
    have hbig2 : ¬ (281474976710656 < Builtin.nextslicecap n 0 * by_) := by omega
    have hnb : n * by_ ≤ 281474976710656 := Nat.le_trans (Nat.mul_le_mul_right _ (by omega)) hroom
    have hbig3 : ¬ ((281474976710656 : Int) < (n : Int) * (by_ : Int)) := by rw [← Int.natCast_mul]; omega
    have hvx2' : (Builtin.firstCells N 0 (.slice none 0 0)).run P w.drew = .ok #[] w.drew := by simp [Builtin.firstCells]
    simp [execOp, resolve, invoke, builtin, Builtin.append_, hv, hyv, run_underlying hT, run_underlying hT2, hsz, asInt, asIntOf, hw, hnn, hn0, hNn0, hbig, hi1, hbytes, hbig2, hbig3, hnN, Question.forced, hcut, hi1', hvx2', hz1', newRow, row]
    done
  generalize hw' : w.drew.alloc (.cells row E) = w' at hr
  unfold Oper.wp
  rw [hr]
  have hs1 : Sit c w.drew S F := hsit.grow (Grow.drew w S)
  have ho1 : Own hs F S w.drew := (Grow.drew w S).owns hsit.domS hsit.domF hown
  subst hw'
  refine hk (w.heap.size, newCap) _ _ S _ trivial (hs1.newOwn _) (fun _ h => h) (fun k hk => heap_push_old w _ k (hsit.domS k hk)) (ho1.newOwn hsit.domS hsit.domF _ ⟨rfl, Nat.zero_le _, by simp, row, E, by show (w.heap.push _)[w.heap.size]? = _; simp, ?_, fun j q h => by simp at h⟩) rfl
  simp only [row, Array.size_append]
  have hsz0 : ∀ m, (Builtin.zeroCells zv'.cells m).size = m * N := fun m => by rw [hz2']; simp [Builtin.zeroCells, hzl]
  rw [hsz0, hsz0, ← Nat.add_mul, Nat.add_sub_cancel' hge]
theorem opSliceOwn0 {b cap len N : Nat} {i : Int} (hT : P.underlying T = some (.slice E)) (hn : P.cellsOf E = N) (h0 : Nat.blt 0 N = true) (hx : Opd env x (exactV (sval (some (b, cap)) len))) (hy : Opd env y (intV .i64 i)) (hi : i = 0) :
    OpP P hs env ⟨dst, .slice T x none (some y) none, ty, pos, after, gd⟩ (exactV (sval (some (b, cap)) 0)) :=
  OpP.of_read fun ρ w S F _ he => by
    have hv := he.o _ _ hx; have h2 := he.o _ _ hy; simp only [exactV, sval] at hv h2
    subst hi
    have hs := run_sizeOf (T := E) hn h0 w
    refine ⟨.slice (some ⟨b, 0, none⟩) 0 cap, ?_, rfl⟩
    simp [execOp, hv, h2, Instr.sliceAt, Instr.slice, Instr.sliceBounds, Instr.sliceBound, asIntOf, run_underlying hT, hs, Addr.add]
def encSl (l : List InstrD) : List VP := [sliceV 5 encInstr l]
instance : Enc 1 encSl := ⟨fun _ => rfl, fun x q h => by simp only [encSl, List.mem_cons, List.not_mem_nil, or_false] at h; subst h; infer_instance⟩
theorem opCapN {ats : Array TypeId} (hat : ats[0]? = some T) (hT : P.underlying T = some (.slice E)) (hx : Opd env x (exactV (.slice none 0 0))) : OpP P hs env ⟨dst, .call ⟨.builtin .cap, #[x], ats⟩, ty, pos, after, gd⟩ (intV .i64 0) :=
 OpP.of_read fun ρ w S F _ he => by
  have hv := he.o _ _ hx; simp only [exactV] at hv
  exact ⟨_, by simp [execOp, resolve, invoke, builtin, Builtin.cap_, hat, hv, run_underlying hT, goInt], rfl⟩
theorem flat_snoc {α : Type} {ls : List (List α)} {k : Nat} {l : List α} (h : ls[k]? = some l) : (ls.take (k + 1)).flatten = (ls.take k).flatten ++ l := by
 rw [List.take_add_one, h]; simp
theorem flat_part {α : Type} (ls : List (List α)) (k : Nat) : (ls.take k).flatten.length ≤ ls.flatten.length := by
 have h : (ls.take k).flatten ++ (ls.drop k).flatten = ls.flatten := by rw [← List.flatten_append, List.take_append_drop]
 have := congrArg List.length h
 rw [List.length_append] at this; omega
end
section
variable {P : Program} {hs : List HP} {env : Env} {q : VP} {dst : Option Tmp} {ty T T' E : TypeId} {pos : String} {after : Array Edge} {gd : Option (Nat × Bool)} {x y z : Operand}
theorem opSliceNil0 {N : Nat} {i : Int} (hT : P.underlying T = some (.slice E)) (hn : P.cellsOf E = N) (h0 : Nat.blt 0 N = true) (hx : Opd env x (exactV (.slice none 0 0))) (hy : Opd env y (intV .i64 i)) (hi : i = 0) :
    OpP P hs env ⟨dst, .slice T x none (some y) none, ty, pos, after, gd⟩ (exactV (.slice none 0 0)) :=
  OpP.of_read fun ρ w S F _ he => by
    have hv := he.o _ _ hx; have h2 := he.o _ _ hy; simp only [exactV] at hv h2
    subst hi
    have hs := run_sizeOf (T := E) hn h0 w
    refine ⟨.slice none 0 0, ?_, rfl⟩
    simp [execOp, hv, h2, Instr.sliceAt, Instr.slice, Instr.sliceBounds, Instr.sliceBound, asIntOf, run_underlying hT, hs]
end
def xfS (c : Int) : Prop := if c = 172 ∨ c = 173 then c = 172 else if c = 192 ∨ c = 193 then True else if c = 194 ∨ c = 195 ∨ c = 196 then True else False
instance (c : Int) : Decidable (xfS c) := by unfold xfS; infer_instance
section
variable {l : List InstrD} {i : Nat}
theorem gI_in {j : Nat} (h : j < l.length) : l[j]? = some (gI l j) := by unfold gI; rw [List.getD_eq_getElem?_getD, List.getElem?_eq_getElem h]; rfl
end
end Go.Hl
end
section
namespace Go.Hl
theorem suf_tail {α : Type} {x : α} {r s : List α} (h : (x :: r) <:+ s) : r <:+ s := (List.suffix_cons x r).trans h
theorem suf_len {α : Type} {r s : List α} (h : r <:+ s) : r.length ≤ s.length := h.length_le
theorem rblk_suf : ∀ (f : Nat) (s : List Int) (d : Nat) (r : List Int), rblk f s d = some r → r <:+ s := by
 intro f
 induction f with
 | zero => intro s d r h; simp [rblk] at h
 | succ f ih =>
  intro s d r h
  cases s with
  | nil => simp [rblk] at h; subst h; exact List.suffix_refl _
  | cons c s =>
   simp only [rblk] at h
   split at h
   · cases h; exact List.suffix_refl _
   split at h
   · split at h
     · cases h
     · split at h
       · cases h
       · cases h
       · rename_i c2 r2 h1
         have e1 := ih _ _ _ h1
         split at h
         · split at h
           · split at h
             · cases h
             · cases h
             · rename_i c3 r3 h2
               have e2 := ih _ _ _ h2
               split at h
               · cases h
               · exact ((ih _ _ _ h).trans (suf_tail (e2.trans (suf_tail e1)))).trans (List.suffix_cons _ _)
           · cases h
         · exact ((ih _ _ _ h).trans (suf_tail e1)).trans (List.suffix_cons _ _)
   · exact (ih _ _ _ h).trans (List.suffix_cons _ _)
theorem rblk_fuel : ∀ (f g : Nat) (s : List Int) (d : Nat), s.length < f → s.length < g → rblk f s d = rblk g s d := by
 intro f
 induction f with
 | zero => intro g s d h; omega
 | succ f ih =>
  intro g s d h hg
  cases g with
  | zero => omega
  | succ g =>
   cases s with
   | nil => rfl
   | cons c s =>
    simp only [List.length_cons] at h hg
    have i1 : rblk f s (d + 1) = rblk g s (d + 1) := ih g s _ (by omega) (by omega)
    have i2 : rblk f s d = rblk g s d := ih g s _ (by omega) (by omega)
    simp only [rblk, i1, i2]
    split
    · rfl
    split
    · split
      · rfl
      · split
        · rfl
        · rfl
        · rename_i c2 r2 h1
          have l1 := suf_len (rblk_suf _ _ _ _ h1)
          simp only [List.length_cons] at l1
          have i3 : rblk f r2 (d + 1) = rblk g r2 (d + 1) := ih g r2 _ (by omega) (by omega)
          have i4 : rblk f r2 d = rblk g r2 d := ih g r2 _ (by omega) (by omega)
          rw [i3, i4]
          split
          · split
            · split
              · rfl
              · rfl
              · rename_i c3 r3 h2
                have l2 := suf_len (rblk_suf _ _ _ _ h2)
                simp only [List.length_cons] at l2
                split
                · rfl
                · exact ih g r3 _ (by omega) (by omega)
            · rfl
          · rfl
    · rfl
section
variable {ι : Type} (cd : ι → Int) (rr : ι → List UInt8) (pl : ι → Stk → List (List UInt8) → Option Stk)
theorem bchk_suf : ∀ (f : Nat) (s : List ι) (labs : List (List UInt8)) (res : List UInt8) (st : Stk) (base : Nat) (hs : List Nat) (rest : List ι), bchk cd rr pl f s labs res st base = some (hs, rest) → rest <:+ s := by
 intro f
 induction f with
 | zero => intro s _ _ _ _ _ _ h; simp [bchk] at h
 | succ f ih =>
  intro s labs res st base hs rest h
  cases s with
  | nil => simp [bchk] at h; rw [← h.2]; exact List.suffix_refl _
  | cons x s =>
   simp only [bchk] at h
   split at h
   · split at h
     · cases h; exact List.suffix_refl _
     · cases h
   split at h
   · obtain ⟨s1, _, h⟩ := Option.bind_eq_some_iff.1 h
     obtain ⟨⟨hs1, l1⟩, hb1, h⟩ := Option.bind_eq_some_iff.1 h
     have e1 := ih _ _ _ _ _ _ _ hb1
     cases l1 with
     | nil => cases h
     | cons x2 r2 =>
      simp only at h
      split at h
      · obtain ⟨⟨hs2, l2⟩, hb2, h⟩ := Option.bind_eq_some_iff.1 h
        have e2 := ih _ _ _ _ _ _ _ hb2
        cases l2 with
        | nil => cases h
        | cons x3 r3 =>
         simp only at h
         obtain ⟨⟨hs3, l3⟩, hb3, h⟩ := Option.map_eq_some_iff.1 h
         cases h
         exact ((ih _ _ _ _ _ _ _ hb3).trans (suf_tail (e2.trans (suf_tail e1)))).trans (List.suffix_cons _ _)
      split at h
      · cases h
      · obtain ⟨⟨hs3, l3⟩, hb3, h⟩ := Option.map_eq_some_iff.1 h
        cases h
        exact ((ih _ _ _ _ _ _ _ hb3).trans (suf_tail e1)).trans (List.suffix_cons _ _)
   · obtain ⟨s1, _, h⟩ := Option.bind_eq_some_iff.1 h
     obtain ⟨⟨hs1, l1⟩, hb1, h⟩ := Option.map_eq_some_iff.1 h
     cases h
     exact (ih _ _ _ _ _ _ _ hb1).trans (List.suffix_cons _ _)
theorem bchk_fuel : ∀ (f g : Nat) (s : List ι) (labs : List (List UInt8)) (res : List UInt8) (st : Stk) (base : Nat), s.length < f → s.length < g → bchk cd rr pl f s labs res st base = bchk cd rr pl g s labs res st base := by
 intro f
 induction f with
 | zero => intro g s _ _ _ _ h; omega
 | succ f ih =>
  intro g s labs res st base h hg
  cases g with
  | zero => omega
  | succ g =>
   cases s with
   | nil => rfl
   | cons x s =>
    simp only [List.length_cons] at h hg
    simp only [bchk]
    split
    · rfl
    split
    · refine Option.bind_congr fun s1 _ => ?_
      rw [ih g s _ _ _ _ (by omega) (by omega)]
      refine Option.bind_congr fun p hp => ?_
      obtain ⟨hs1, l1⟩ := p
      have e1 := suf_len (bchk_suf cd rr pl _ _ _ _ _ _ _ _ hp)
      cases l1 with
      | nil => rfl
      | cons x2 r2 =>
       simp only [List.length_cons] at e1
       simp only
       split
       · rw [ih g r2 _ _ _ _ (by omega) (by omega)]
         refine Option.bind_congr fun p hp => ?_
         obtain ⟨hs2, l2⟩ := p
         have e2 := suf_len (bchk_suf cd rr pl _ _ _ _ _ _ _ _ hp)
         cases l2 with
         | nil => rfl
         | cons x3 r3 =>
          simp only [List.length_cons] at e2
          simp only
          rw [ih g r3 _ _ _ _ (by omega) (by omega)]
       split
       · rfl
       · rw [ih g r2 _ _ _ _ (by omega) (by omega)]
    · refine Option.bind_congr fun s1 _ => ?_
      rw [ih g s _ _ _ _ (by omega) (by omega)]
noncomputable def nbk (s : List ι) (labs : List (List UInt8)) (res : List UInt8) (st : Stk) (base : Nat) : Option (List Nat × List ι) := bchk cd rr pl (s.length + 1) s labs res st base
def okBl (s : List ι) (d : Nat) : Prop := ∃ rest0, rblk (s.length + 1) (s.map cd) d = some rest0 ∧ rest0 ≠ []
variable {cd rr pl} {x : ι} {r : List ι} {labs : List (List UInt8)} {res : List UInt8} {st : Stk} {base d : Nat}
theorem nbk_end (h : cd x = 11 ∨ cd x = 5) (hc : ∃ s', tksS st res = some s' ∧ s'.1 = []) : nbk cd rr pl (x :: r) labs res st base = some ([base + st.1.length], x :: r) := by
 simp only [nbk, bchk, h, hc, if_true]
theorem nbk_end_no (h : cd x = 11 ∨ cd x = 5) (hc : ¬ ∃ s', tksS st res = some s' ∧ s'.1 = []) : nbk cd rr pl (x :: r) labs res st base = none := by
 simp only [nbk, bchk, h, if_true]; rw [if_neg hc]
theorem nbk_plain (h1 : ¬ (cd x = 11 ∨ cd x = 5)) (h2 : ¬ opensC (cd x)) : nbk cd rr pl (x :: r) labs res st base = (pl x st labs).bind fun s1 => (nbk cd rr pl r labs res s1 base).map fun p => ((base + st.1.length) :: p.1, p.2) := by
 simp only [nbk, bchk, h1, h2, if_false, List.length_cons]
theorem nbk_open (h1 : ¬ (cd x = 11 ∨ cd x = 5)) (h2 : opensC (cd x)) : nbk cd rr pl (x :: r) labs res st base =
    (if cd x = 4 then tksS st [127] else some st).bind fun s1 =>
      (nbk cd rr pl r (labs ++ [if cd x = 3 then [] else rr x]) (rr x) ([], False) (base + s1.1.length)).bind fun p =>
      match p.2 with
      | [] => none
      | x2 :: r2 =>
        if cd x2 = 5 then
          (nbk cd rr pl r2 (labs ++ [if cd x = 3 then [] else rr x]) (rr x) ([], False) (base + s1.1.length)).bind fun p2 =>
          match p2.2 with
          | [] => none
          | _ :: r3 => (nbk cd rr pl r3 labs res (giveS s1 (rr x)) base).map fun p3 => ((base + st.1.length) :: p.1 ++ p2.1 ++ p3.1, p3.2)
        else if cd x = 4 ∧ rr x ≠ [] then none
        else (nbk cd rr pl r2 labs res (giveS s1 (rr x)) base).map fun p3 => ((base + st.1.length) :: p.1 ++ p3.1, p3.2) := by
  simp only [nbk, bchk, h1, h2, if_false, if_true, List.length_cons]
  refine Option.bind_congr fun s1 _ => Option.bind_congr fun p hp => ?_
  obtain ⟨hs1, l1⟩ := p
  have e1 := suf_len (bchk_suf cd rr pl _ _ _ _ _ _ _ _ hp)
  cases l1 with
  | nil => rfl
  | cons x2 r2 =>
    simp only [List.length_cons] at e1
    simp only
    split
    · rw [bchk_fuel cd rr pl (r.length + 1) (r2.length + 1) r2 _ _ _ _ (by omega) (by omega)]
      refine Option.bind_congr fun p hp => ?_
      obtain ⟨hs2, l2⟩ := p
      have e2 := suf_len (bchk_suf cd rr pl _ _ _ _ _ _ _ _ hp)
      cases l2 with
      | nil => rfl
      | cons x3 r3 =>
        simp only [List.length_cons] at e2
        simp only
        rw [bchk_fuel cd rr pl (r.length + 1) (r3.length + 1) r3 _ _ _ _ (by omega) (by omega)]
    split
    · rfl
    · rw [bchk_fuel cd rr pl (r.length + 1) (r2.length + 1) r2 _ _ _ _ (by omega) (by omega)]
theorem bchk_rest : ∀ (f : Nat) (s : List ι) (d : Nat) (labs : List (List UInt8)) (res : List UInt8) (st : Stk) (base : Nat) (hs : List Nat) (rest : List ι) (rest0 : List Int), s.length < f → rblk f (s.map cd) d = some rest0 → bchk cd rr pl f s labs res st base = some (hs, rest) → rest.map cd = rest0 := by
 intro f
 induction f with
 | zero => intro s d _ _ _ _ _ _ _ h; omega
 | succ f ih =>
  intro s d labs res st base hs rest rest0 h hr hb
  cases s with
  | nil => simp only [bchk, Option.some.injEq, Prod.mk.injEq] at hb; simp [rblk] at hr; rw [hr, ← hb.2]; rfl
  | cons x r =>
   simp only [List.length_cons] at h
   simp only [List.map_cons, rblk] at hr
   simp only [bchk] at hb
   by_cases h1 : cd x = 11 ∨ cd x = 5
   · simp only [h1, if_true, Option.some.injEq] at hr hb
     split at hb
     · cases hb; rw [← hr]; rfl
     · cases hb
   by_cases h2 : opensC (cd x)
   · simp only [h1, if_false, h2, if_true] at hr hb
     by_cases h3 : 64 ≤ d
     · simp [h3] at hr
     simp only [h3, if_false] at hr
     obtain ⟨s1, _, hb⟩ := Option.bind_eq_some_iff.1 hb
     obtain ⟨⟨hs1, l1⟩, hb1, hb⟩ := Option.bind_eq_some_iff.1 hb
     cases hr1 : rblk f (r.map cd) (d + 1) with
     | none => simp [hr1] at hr
     | some rest1 =>
      simp only [hr1] at hr
      have e1 := ih r (d + 1) _ _ _ _ _ _ _ (by omega) hr1 hb1
      have l1s := suf_len (bchk_suf cd rr pl _ _ _ _ _ _ _ _ hb1)
      subst e1
      cases l1 with
      | nil => cases hb
      | cons x2 r2 =>
       simp only [List.length_cons] at l1s
       simp only [List.map_cons] at hr
       simp only at hb
       by_cases h5 : cd x2 = 5
       · simp only [h5, if_true] at hr hb
         by_cases h4 : cd x = 4
         · simp only [h4, if_true] at hr
           obtain ⟨⟨hs2, l2⟩, hb2, hb⟩ := Option.bind_eq_some_iff.1 hb
           cases hr2 : rblk f (r2.map cd) (d + 1) with
           | none => simp [hr2] at hr
           | some rest2 =>
            simp only [hr2] at hr
            have e2 := ih r2 (d + 1) _ _ _ _ _ _ _ (by omega) hr2 hb2
            have l2s := suf_len (bchk_suf cd rr pl _ _ _ _ _ _ _ _ hb2)
            subst e2
            cases l2 with
            | nil => cases hb
            | cons x3 r3 =>
             simp only [List.length_cons] at l2s
             simp only [List.map_cons] at hr
             simp only at hb
             split at hr
             · cases hr
             · obtain ⟨⟨hs3, l3⟩, hb3, hb⟩ := Option.map_eq_some_iff.1 hb
               cases hb
               exact ih r3 d _ _ _ _ _ _ _ (by omega) hr hb3
         · simp [h4] at hr
       · simp only [h5, if_false] at hr hb
         split at hb
         · cases hb
         · obtain ⟨⟨hs3, l3⟩, hb3, hb⟩ := Option.map_eq_some_iff.1 hb
           cases hb
           exact ih r2 d _ _ _ _ _ _ _ (by omega) hr hb3
   · simp only [h1, if_false, h2] at hr hb
     obtain ⟨s1, _, hb⟩ := Option.bind_eq_some_iff.1 hb
     obtain ⟨⟨hs1, l1⟩, hb1, hb⟩ := Option.map_eq_some_iff.1 hb
     cases hb
     exact ih r d _ _ _ _ _ _ _ (by omega) hr hb1
theorem okBl_plain (h : okBl cd (x :: r) d) (h1 : ¬ (cd x = 11 ∨ cd x = 5)) (h2 : ¬ opensC (cd x)) : okBl cd r d := by
 obtain ⟨rest0, h3, h4⟩ := h
 simp only [List.length_cons, List.map_cons, rblk, h1, h2, if_false] at h3
 exact ⟨rest0, h3, h4⟩
theorem okBl_in (h : okBl cd (x :: r) d) (h2 : opensC (cd x)) : okBl cd r (d + 1) ∧ ¬ 64 ≤ d := by
 obtain ⟨rest0, h3, h4⟩ := h
 have h1 : ¬ (cd x = 11 ∨ cd x = 5) := by unfold opensC at h2; omega
 simp only [List.length_cons, List.map_cons, rblk, h1, h2, if_false, if_true] at h3
 split at h3
 · cases h3
 · rename_i h5
   split at h3
   · cases h3
   · cases h3
   · rename_i c2 r2 h6
     exact ⟨⟨_, h6, by simp⟩, h5⟩
theorem okBl_ne {labs' : List (List UInt8)} {hs : List Nat} {l : List ι} (h : okBl cd r d) (hb : nbk cd rr pl r labs res st base = some (hs, l)) : ∃ x2 r2, l = x2 :: r2 ∧ (x2 :: r2) <:+ r := by
 obtain ⟨rest0, h3, h4⟩ := h
 have e := bchk_rest _ _ _ _ _ _ _ _ _ _ (by omega) h3 hb
 have e2 := bchk_suf cd rr pl _ _ _ _ _ _ _ _ hb
 cases l with
 | nil => exact absurd e.symm h4
 | cons x2 r2 => exact ⟨x2, r2, rfl, e2⟩
theorem okBl_after {hs1 : List Nat} {x2 : ι} {r2 : List ι} (h : okBl cd (x :: r) d) (h2 : opensC (cd x)) (hb : nbk cd rr pl r labs res st base = some (hs1, x2 :: r2)) :
    (cd x2 = 11 ∧ okBl cd r2 d) ∨ (cd x2 = 5 ∧ cd x = 4 ∧ okBl cd r2 (d + 1) ∧ ∀ labs' res' st' base' hs2 l2, nbk cd rr pl r2 labs' res' st' base' = some (hs2, l2) → ∃ x3 r3, l2 = x3 :: r3 ∧ cd x3 = 11 ∧ (x3 :: r3) <:+ r2 ∧ okBl cd r3 d) := by
  obtain ⟨rest0, h3, h4⟩ := h
  have h1 : ¬ (cd x = 11 ∨ cd x = 5) := by unfold opensC at h2; omega
  simp only [List.length_cons, List.map_cons, rblk, h1, h2, if_false, if_true] at h3
  split at h3
  · cases h3
  · rename_i h5
    have hd : d + 1 ≤ 64 := by omega
    cases hr1 : rblk (r.length + 1) (r.map cd) (d + 1) with
    | none => simp [hr1] at h3
    | some rest1 =>
      simp only [hr1] at h3
      have e := bchk_rest _ _ _ _ _ _ _ _ _ _ (by omega) hr1 hb
      have e2 := suf_len (bchk_suf cd rr pl _ _ _ _ _ _ _ _ hb)
      have k1 := ((rblk_spec (r.length + 1) (r.map cd) (d + 1) (by simp) hd).2 _ hr1).2.1
      subst e
      simp only [List.length_cons] at e2
      simp only [List.map_cons] at h3 k1
      rcases k1 _ _ rfl with e5 | e5
      · refine .inl ⟨e5, ?_⟩
        simp only [e5, show ¬ ((11 : Int) = 5) by decide, if_false] at h3
        exact ⟨rest0, by rw [← h3]; exact rblk_fuel _ _ _ _ (by simp) (by simp; omega), h4⟩
      · simp only [e5, if_true] at h3
        split at h3
        · rename_i e4
          refine .inr ⟨e5, e4, ?_⟩
          cases hr2 : rblk (r.length + 1) (r2.map cd) (d + 1) with
          | none => simp [hr2] at h3
          | some rest2 =>
            simp only [hr2] at h3
            have hr2' : rblk (r2.length + 1) (r2.map cd) (d + 1) = some rest2 := by rw [← hr2]; exact rblk_fuel _ _ _ _ (by simp) (by simp; omega)
            have hne : rest2 ≠ [] := by intro e; subst e; cases h3
            refine ⟨⟨rest2, hr2', hne⟩, fun labs' res' st' base' hs2 l2 hb2 => ?_⟩
            have e7 := bchk_rest _ _ _ _ _ _ _ _ _ _ (by omega) hr2' hb2
            have e8 := bchk_suf cd rr pl _ _ _ _ _ _ _ _ hb2
            have k2 := ((rblk_spec (r2.length + 1) (r2.map cd) (d + 1) (by simp) hd).2 _ hr2').2.1
            subst e7
            cases l2 with
            | nil => exact absurd rfl hne
            | cons x3 r3 =>
              have e9 := suf_len e8
              simp only [List.length_cons] at e9
              simp only [List.map_cons] at h3 k2
              split at h3
              · cases h3
              · rename_i hn5
                refine ⟨x3, r3, rfl, (k2 _ _ rfl).resolve_right hn5, e8, ⟨rest0, ?_, h4⟩⟩
                rw [← h3]; exact rblk_fuel _ _ _ _ (by simp) (by simp; omega)
        · cases h3
end
end Go.Hl
end
section
namespace Go.Hl
open Go.RowKit
def codesL (l : List InstrD) : List Int := l.map (·.Code)
def rc (s : List Int) (d : Nat) : Option (List Int) := rblk (s.length + 1) s d
theorem rc_end {c : Int} {r : List Int} {d : Nat} (h : c = 11 ∨ c = 5) : rc (c :: r) d = some (c :: r) := by simp only [rc, List.length_cons, rblk, h, if_true]
theorem rc_plain {c : Int} {r : List Int} {d : Nat} (h : ¬ (c = 11 ∨ c = 5)) (h2 : ¬ opensC c) : rc (c :: r) d = rc r d := by simp only [rc, List.length_cons, rblk, h, h2, if_false]
theorem rc_deep {c : Int} {r : List Int} {d : Nat} (h2 : opensC c) (h3 : 64 ≤ d) : rc (c :: r) d = none := by
 have h : ¬ (c = 11 ∨ c = 5) := by unfold opensC at h2; omega
 simp only [rc, List.length_cons, rblk, h, h2, h3, if_false, if_true]
theorem rc_open {c : Int} {r : List Int} {d : Nat} (h2 : opensC c) (h3 : ¬ 64 ≤ d) : rc (c :: r) d = match rc r (d + 1) with
    | none => none
    | some [] => none
    | some (c2 :: r2) => if c2 = 5 then (if c = 4 then (match rc r2 (d + 1) with | none => none | some [] => none | some (c3 :: r3) => if c3 = 5 then none else rc r3 d) else none) else rc r2 d := by
  have h : ¬ (c = 11 ∨ c = 5) := by unfold opensC at h2; omega
  simp only [rc, List.length_cons, rblk, h, h2, h3, if_false, if_true]
  cases hr : rblk (r.length + 1) r (d + 1) with
  | none => rfl
  | some s =>
    cases s with
    | nil => rfl
    | cons c2 r2 =>
      have e1 := suf_len (rblk_suf _ _ _ _ hr)
      simp only [List.length_cons] at e1
      simp only
      rw [rblk_fuel (r.length + 1) (r2.length + 1) r2 (d + 1) (by omega) (by omega), rblk_fuel (r.length + 1) (r2.length + 1) r2 d (by omega) (by omega)]
      split
      · split
        · cases hr2 : rblk (r2.length + 1) r2 (d + 1) with
          | none => rfl
          | some s2 =>
            cases s2 with
            | nil => rfl
            | cons c3 r3 =>
              have e2 := suf_len (rblk_suf _ _ _ _ hr2)
              simp only [List.length_cons] at e2
              simp only
              rw [rblk_fuel (r.length + 1) (r3.length + 1) r3 d (by omega) (by omega)]
        · rfl
      · rfl
theorem rc_head {s r : List Int} {c : Int} {d : Nat} (hd : d ≤ 64) (h : rc s d = some (c :: r)) : c = 11 ∨ c = 5 := ((rblk_spec (s.length + 1) s d (by omega) hd).2 _ h).2.1 c r rfl
theorem codes_len (l : List InstrD) : (codesL l).length = l.length := by simp [codesL]
theorem codes_at {l : List InstrD} {i : Nat} {x : InstrD} (h : l[i]? = some x) : (codesL l).drop i = x.Code :: (codesL l).drop (i + 1) := by
 refine drop_at ?_
 rw [codesL, List.getElem?_map, h]; rfl
theorem codes_end {l : List InstrD} {i : Nat} (h : l.length ≤ i) : (codesL l).drop i = [] := List.drop_eq_nil_of_le (by rw [codes_len]; exact h)
def rcP (l : List InstrD) (a d : Nat) (en : Int) (sp : List SpD) (e : Int) : Prop :=
 (e = 0 ∧ ∃ n : Nat, en = (n : Int) ∧ rc ((codesL l).drop a) d = some ((codesL l).drop n) ∧ a ≤ n ∧ n ≤ l.length ∧ sp.length + a ≤ n) ∨ (e ≠ 0 ∧ rc ((codesL l).drop a) d = none ∧ sp = [])
theorem rcP_len {l : List InstrD} {a d : Nat} {en : Int} {sp : List SpD} {e : Int} (h : rcP l a d en sp e) : sp.length ≤ l.length := by
 rcases h with ⟨_, n, _, _, _, h5, h6⟩ | ⟨_, _, h⟩
 · omega
 · rw [h]; simp
def rcM (l : List InstrD) (i d : Nat) (en : Int) (sp : List SpD) (e : Int) : Prop :=
 (e ≠ 0 ∧ rc ((codesL l).drop i) d = none ∧ sp.length ≤ 20000) ∨ (e = 0 ∧ en = (l.length : Int) ∧ rc ((codesL l).drop i) d = none ∧ sp.length ≤ 20000) ∨
 (e = 0 ∧ ∃ n : Nat, en = (n : Int) ∧ n < l.length ∧ rc ((codesL l).drop i) d = rc ((codesL l).drop (n + 1)) d ∧ i + 1 ≤ n ∧ sp.length + i + 1 ≤ n)
theorem OLe.none {α : Type} {n : Nat} {enc : α → List VP} {r : List HP} : OLe r (sliceH none n enc ([] : List α) :: r) := fun F S w h => ⟨fun _ => False, F, fun _ h => h.elim, fun _ h => h, rfl, h⟩
section
variable {l : List InstrD} {i d : Nat} {x : InstrD}
theorem rc_else_no (hx : l[i]? = some x) (ho : opensC x.Code) (hd : ¬ 64 ≤ d) {n : Nat} {y : InstrD} (hr : rc ((codesL l).drop (i + 1)) (d + 1) = some ((codesL l).drop n)) (hy : l[n]? = some y) (h5 : y.Code = 5) (h4 : x.Code ≠ 4) : rc ((codesL l).drop i) d = none := by
 rw [codes_at hx, rc_open ho hd, hr, codes_at hy]
 simp only [h5, if_true, h4, if_false]
theorem rc_two {n : Nat} {y : InstrD} (hx : l[i]? = some x) (ho : opensC x.Code) (hd : ¬ 64 ≤ d) (hr : rc ((codesL l).drop (i + 1)) (d + 1) = some ((codesL l).drop n)) (hy : l[n]? = some y) (h5 : y.Code = 5) (h4 : x.Code = 4) :
    rc ((codesL l).drop i) d = match rc ((codesL l).drop (n + 1)) (d + 1) with | none => none | some [] => none | some (c3 :: r3) => if c3 = 5 then none else rc r3 d := by
  rw [codes_at hx, rc_open ho hd, hr, codes_at hy]
  simp only [h5, if_true, h4]
theorem rc_one {n : Nat} {y : InstrD} (hx : l[i]? = some x) (ho : opensC x.Code) (hd : ¬ 64 ≤ d) (hr : rc ((codesL l).drop (i + 1)) (d + 1) = some ((codesL l).drop n)) (hy : l[n]? = some y) (h5 : y.Code ≠ 5) :
    rc ((codesL l).drop i) d = rc ((codesL l).drop (n + 1)) d := by
  rw [codes_at hx, rc_open ho hd, hr, codes_at hy]
  simp only [h5, if_false]
theorem rc_none (hx : l[i]? = some x) (ho : opensC x.Code) (hd : ¬ 64 ≤ d) (hr : rc ((codesL l).drop (i + 1)) (d + 1) = none) : rc ((codesL l).drop i) d = none := by
 rw [codes_at hx, rc_open ho hd, hr]
theorem rc_short (hx : l[i]? = some x) (ho : opensC x.Code) (hd : ¬ 64 ≤ d) {n : Nat} (hn : l.length ≤ n) (hr : rc ((codesL l).drop (i + 1)) (d + 1) = some ((codesL l).drop n)) : rc ((codesL l).drop i) d = none := by
 rw [codes_at hx, rc_open ho hd, hr, codes_end hn]
theorem rcM_one (hx : l[i]? = some x) (ho : opensC x.Code) (hd : ¬ 64 ≤ d) {en e : Int} {sp : List SpD} (h : rcP l (i + 1) (d + 1) en sp e) (hll : l.length ≤ 10000) (hn : ¬ ((e = 0 ∧ en < (l.length : Int)) ∧ (gI l en.toNat).Code = 5)) : rcM l i d en sp e := by
 rcases h with ⟨h1, n, h2, h3, h4, h5, h6⟩ | ⟨h1, h2, h3⟩
 · by_cases hlt : n < l.length
   · refine .inr (.inr ⟨h1, n, h2, hlt, ?_, h4, by omega⟩)
     have hy : l[n]? = some (gI l n) := gI_in hlt
     exact rc_one hx ho hd h3 hy (fun h9 => hn ⟨⟨h1, by omega⟩, by rw [h2]; simpa using h9⟩)
   · exact .inr (.inl ⟨h1, by omega, rc_short hx ho hd (by omega) h3, by omega⟩)
 · exact .inl ⟨h1, rc_none hx ho hd h2, by rw [h3]; simp⟩
theorem rcM_two (hx : l[i]? = some x) (ho : opensC x.Code) (hd : ¬ 64 ≤ d) (hd64 : d ≤ 64) {en e en2 e2 : Int} {sp sp2 : List SpD} (h : rcP l (i + 1) (d + 1) en sp e) (hll : l.length ≤ 10000) (hn : (e = 0 ∧ en < (l.length : Int)) ∧ (gI l en.toNat).Code = 5) (h4 : x.Code = 4) (h' : rcP l (en.toNat + 1) (d + 1) en2 sp2 e2) :
    (((e2 = 0 ∧ en2 < (l.length : Int)) ∧ (gI l en2.toNat).Code = 5) → rc ((codesL l).drop i) d = none) ∧ (¬ ((e2 = 0 ∧ en2 < (l.length : Int)) ∧ (gI l en2.toNat).Code = 5) → rcM l i d en2 (sp ++ sp2) e2) := by
  rcases h with ⟨_, n, h2, h3, h4', h5, h6⟩ | ⟨h1, h2, h3⟩
  · obtain ⟨⟨h1, h1'⟩, h55⟩ := hn
    have hlt : n < l.length := by omega
    have hen : en.toNat = n := by omega
    rw [hen] at h55 h'
    have hy : l[n]? = some (gI l n) := gI_in hlt
    have hk := rc_two hx ho hd h3 hy h55 h4
    rw [hk]
    rcases h' with ⟨k1, n2, k2, k3, k4, k5, k6⟩ | ⟨k1, k2, k3⟩
    · by_cases hlt2 : n2 < l.length
      · have hy2 : l[n2]? = some (gI l n2) := gI_in hlt2
        have hn2 : en2.toNat = n2 := by omega
        rw [k3, codes_at hy2]
        simp only
        refine ⟨fun h9 => ?_, fun h9 => ?_⟩
        · rw [if_pos (by rw [hn2] at h9; exact h9.2)]
        · refine .inr (.inr ⟨k1, n2, k2, hlt2, ?_, by omega, by rw [List.length_append]; omega⟩)
          rw [hk, k3, codes_at hy2]
          simp only
          rw [if_neg (fun h8 => h9 ⟨⟨k1, by omega⟩, by rw [hn2]; exact h8⟩)]
      · have he := codes_end (l := l) (i := n2) (by omega)
        rw [k3, he]
        refine ⟨fun _ => rfl, fun _ => .inr (.inl ⟨k1, by omega, by rw [hk, k3, he], by rw [List.length_append]; omega⟩)⟩
    · rw [k2]
      exact ⟨fun _ => rfl, fun _ => .inl ⟨k1, by rw [hk, k2], by rw [List.length_append, k3]; simp; omega⟩⟩
  · exact absurd hn.1.1 h1
end
theorem nrun_rc (l : List InstrD) : nrun (codesL l) [] ↔ rc (codesL l) 0 = some [11] := nrun_rblk (by omega)
end Go.Hl
namespace Go.Hl
theorem tmod128 (v : Int) : v.tmod 128 = if 0 ≤ v then v % 128 else -((-v) % 128) := by
 split
 · rename_i h; exact Int.tmod_eq_emod_of_nonneg h
 · rename_i h
   have h1 : v.tmod 128 = -((-v).tmod 128) := by rw [Int.neg_tmod]; omega
   rw [h1, Int.tmod_eq_emod_of_nonneg (by omega)]
theorem tdiv128 {v : Int} (h1 : -9223372036854775680 ≤ v) (h2 : v ≤ 9223372036854775807) : IntKind.i64.wrap ((IntKind.i64.wrap (v - v % 128)).tdiv 128) = v / 128 := by
 have hw : IntKind.i64.wrap (v - v % 128) = 128 * (v / 128) := by rw [wrap_fits (fits_i64 (by omega) (by omega))]; omega
 rw [hw, Int.mul_tdiv_cancel_left _ (by decide)]; exact wrap_fits (fits_i64 (by omega) (by omega))
theorem lenS_stop {v : Int} (h : (v / 128 = 0 ∧ v % 128 < 64) ∨ (v / 128 = -1 ∧ 64 ≤ v % 128)) : lenS v = 1 := lenS_in (by omega)
theorem lenS_go {v : Int} (h : ¬ ((v / 128 = 0 ∧ v % 128 < 64) ∨ (v / 128 = -1 ∧ 64 ≤ v % 128))) : lenS v = lenS (v / 128) + 1 := lenS_out (by omega)
theorem runs_lead (t : UInt8) : ∀ (n : Nat) (l : List UInt8), 0 < n → n ≤ l.length → (∀ j, j < n → l[j]? = some t) → l[n]? ≠ some t → runsB l = n :: runsB (l.drop n) := by
 intro n
 induction n with
 | zero => intro l h; omega
 | succ n ih =>
  intro l _ hl ha hn
  cases l with
  | nil => simp at hl
  | cons a l =>
   have h0 := ha 0 (by omega)
   simp only [List.getElem?_cons_zero, Option.some.injEq] at h0
   subst h0
   simp only [List.drop_succ_cons]
   by_cases h : n = 0
   · subst h
     simp only [List.drop_zero]
     cases l with
     | nil => rfl
     | cons b r =>
      have hb : b ≠ a := fun e => hn (by simp [e])
      obtain ⟨k, s, hk⟩ := runsB_ne b r
      have e : runsB (a :: b :: r) = match runsB (b :: r) with | n :: r => if b = a then (n + 1) :: r else 1 :: n :: r | _ => [1] := by rw [runsB.eq_def]; simp only; split <;> simp_all
      rw [e, hk]
      simp only
      rw [if_neg hb]
   · have i1 := ih l (by omega) (by simp at hl; omega) (fun j hj => by have := ha (j + 1) (by omega); simpa using this) (fun e => hn (by simpa using e))
     cases l with
     | nil => simp at hl; omega
     | cons b r =>
      have hb : b = a := by have := ha 1 (by omega); simpa using this
      have e : runsB (a :: b :: r) = match runsB (b :: r) with | n :: r => if b = a then (n + 1) :: r else 1 :: n :: r | _ => [1] := by rw [runsB.eq_def]; simp only; split <;> simp_all
      rw [e, i1]
      simp only
      rw [if_pos hb]
def sumN_ (p : List Nat) : Nat := (p.map fun n => lenU n + 1).sum
theorem sumN_snoc (p : List Nat) (n : Nat) : sumN_ (p ++ [n]) = sumN_ p + (lenU n + 1) := by simp [sumN_]
theorem sumN_le_ : ∀ (p : List Nat), (∀ n ∈ p, n ≤ 1000000) → sumN_ p ≤ 11 * p.length
 | [], _ => by simp [sumN_]
 | n :: p, h => by
  have h1 := sumN_le_ p (fun q hq => h q (List.mem_cons_of_mem _ hq))
  have h2 := h n (List.mem_cons_self ..)
  have h3 : lenU n ≤ 10 := lenU_64 (by omega)
  simp only [sumN_, List.map_cons, List.sum_cons, List.length_cons] at h1 ⊢
  omega
theorem lenB_doc (b : BodyD) : lenB b = lenU (runsB b.Locals).length + sumN_ (runsB b.Locals) + sumI b.L := rfl
theorem runsB_nil : runsB [] = [] := rfl
end Go.Hl
namespace Go.Hl
theorem u8_126 {t : UInt8} : (t.toNat : Int) = 126 ↔ t = 126 := by rw [← UInt8.toNat_inj]; simp; omega
theorem u8_127 {t : UInt8} : (t.toNat : Int) = 127 ↔ t = 127 := by rw [← UInt8.toNat_inj]; simp; omega
def gU (l : List UInt8) (j : Nat) : UInt8 := l.getD j 0
theorem gU_in {l : List UInt8} {j : Nat} (h : j < l.length) : l[j]? = some (gU l j) := by unfold gU; rw [List.getD_eq_getElem?_getD, List.getElem?_eq_getElem h]; rfl
theorem lead_at {l : List UInt8} {k k2 : Nat} {t : UInt8} (hk : k < k2) (h2 : k2 ≤ l.length) (ha : ∀ j, j < k2 - k → (l.drop k)[j]? = some t) (hn : ¬ ((k2 : Int) < (l.length : Int) ∧ ((gU l k2).toNat : Int) = (t.toNat : Int))) : runsB (l.drop k) = (k2 - k) :: runsB (l.drop k2) := by
 have h9 := runs_lead t (k2 - k) (l.drop k) (by omega) (by rw [List.length_drop]; omega) ha (fun e => by
  rw [List.getElem?_drop, show k + (k2 - k) = k2 by omega] at e
  have hl := (List.getElem?_eq_some_iff.1 e).1
  rw [gU_in hl] at e
  exact hn ⟨by omega, by rw [Option.some.inj e]⟩)
 rw [List.drop_drop, show k + (k2 - k) = k2 by omega] at h9
 exact h9
theorem lead_pos {l : List UInt8} {k k2 : Nat} {t : UInt8} (hk : k ≤ k2) (ht : l[k]? = some t) (hn : ¬ ((k2 : Int) < (l.length : Int) ∧ ((gU l k2).toNat : Int) = (t.toNat : Int))) : k < k2 := by
 rcases Nat.lt_or_ge k k2 with h | h
 · exact h
 · have he : k2 = k := by omega
   subst he
   have hl := (List.getElem?_eq_some_iff.1 ht).1
   rw [gU_in hl] at ht
   exact absurd ⟨by omega, by rw [Option.some.inj ht]⟩ hn
end Go.Hl
end
section
namespace Go.Hl
open Go.RowKit
def encStk (s : Stk) (base : Int) : List VP := [sliceV 1 encU8 s.1, propV s.2, intV .i64 base]
instance (s : Stk) (base : Int) : FlatL (encStk s base) := ⟨fun q h => by simp only [encStk, List.mem_cons, List.not_mem_nil, or_false] at h; rcases h with h | h | h <;> subst h <;> infer_instance⟩
def encPr (p : Prop) : List VP := [propV p]
instance : Enc 1 encPr := ⟨fun _ => rfl, fun x q h => by simp only [encPr, List.mem_cons, List.not_mem_nil, or_false] at h; subst h; infer_instance⟩
def encEnv (v : EnvD) : List VP := [sliceV 2 encSig v.Funcs, sliceV 2 encSig v.Sigs, sliceV 1 encPr v.Wide, sliceV 1 encU8 v.Globals, sliceV 1 encPr v.Mutable, propV v.Table, sliceV 1 encU8 v.Own.P, sliceV 1 encU8 v.Own.R, sliceV 1 encU8 v.Locals]
instance (v : EnvD) : FlatL (encEnv v) := ⟨fun q h => by simp only [encEnv, List.mem_cons, List.not_mem_nil, or_false] at h; rcases h with h | h | h | h | h | h | h | h | h <;> subst h <;> infer_instance⟩
instance {cs : List VP} {q : VP} {n : Nat} [h : FlatL cs] [h2 : Flat q] : FlatL (cs.set n q) := ⟨fun p hp => (List.mem_or_eq_of_mem_set hp).elim (h.flat p) (fun e => e ▸ h2)⟩
def plR (o : Option Stk) (g : Stk × Int) : Prop := (g.2 = 0 ∧ o = some g.1) ∨ (g.2 ≠ 0 ∧ o = none)
def tkP (s : Stk) (l : List UInt8) (g : Stk × Int) : Prop := plR (tksS s l) g ∧ g.1.1.length ≤ s.1.length
def tk1P (s : Stk) (w : UInt8) (g : Stk × UInt8 × Int) : Prop := ((g.2.2 = 0 ∧ tk1S s w = some (g.1, g.2.1)) ∨ (g.2.2 ≠ 0 ∧ tk1S s w = none)) ∧ g.1.1.length ≤ s.1.length
variable {s : Stk} {g : Stk × Int} {l : List UInt8}
theorem tkP.ok (h : tkP s l g) (he : g.2 = 0) : tksS s l = some g.1 := h.1.elim (fun h => h.2) (fun h => absurd he h.1)
theorem tkP.no (h : tkP s l g) (he : g.2 ≠ 0) : tksS s l = none := h.1.elim (fun h => absurd h.1 he) (fun h => h.2)
variable {w : UInt8}
theorem tk1P.ok {g : Stk × UInt8 × Int} (h : tk1P s w g) (he : g.2.2 = 0) : tk1S s w = some (g.1, g.2.1) := h.1.elim (fun h => h.2) (fun h => absurd he h.1)
theorem tk1P.no {g : Stk × UInt8 × Int} (h : tk1P s w g) (he : g.2.2 ≠ 0) : tk1S s w = none := h.1.elim (fun h => absurd h.1 he) (fun h => h.2)
variable {i : List UInt8}
theorem tg_of {o : List UInt8} (h : tkP s i g) : plR (tgS s i o) (giveS g.1 o, g.2) := by
 unfold tgS
 rcases h.1 with ⟨h1, h2⟩ | ⟨h1, h2⟩
 · exact .inl ⟨h1, by rw [h2]; rfl⟩
 · exact .inr ⟨h1, by rw [h2]; rfl⟩
def plQ (s : Stk) (o : Option Stk) (g : Stk × Int) : Prop := plR o g ∧ g.1.1.length ≤ s.1.length + 20
theorem plQ_no {o : Option Stk} {t : Stk} {e : Int} (he : e ≠ 0) (h : o = none) (hl : t.1.length ≤ s.1.length + 20) : plQ s o (t, e) := ⟨.inr ⟨he, h⟩, hl⟩
theorem plQ_ok {o : Option Stk} {t : Stk} (h : o = some t) (hl : t.1.length ≤ s.1.length + 20) : plQ s o (t, 0) := ⟨.inl ⟨rfl, h⟩, hl⟩
theorem plQ_tg {o : List UInt8} {p : Option Stk} (hp : p = tgS s i o) (h : tkP s i g) (ho : o.length ≤ 20) : plQ s p (giveS g.1 o, g.2) :=
 ⟨by rw [hp]; exact tg_of h, by have := h.2; simp only [giveS, List.length_append]; omega⟩
theorem plQ_tk {p : Option Stk} (hp : p = tksS s i) (h : tkP s i g) : plQ s p g := ⟨by rw [hp]; exact h.1, by have := h.2; omega⟩
theorem tks_snoc2 (s : Stk) (l : List UInt8) (t : UInt8) : tksS s (l ++ [t]) = (tksS s [t]).bind fun p => tksS p l := by
 rw [tks_snoc, tks_one]; cases tk1S s t <;> rfl
theorem adrW_t {w : Prop} (h : w) : adrW w = 126 := if_pos h
theorem adrW_f {w : Prop} (h : ¬ w) : adrW w = 127 := if_neg h
theorem pw31 {k : Nat} (h : k ≤ 31) : (0 : Int) < 2 ^ k ∧ (2 : Int) ^ k ≤ 2147483648 := by
 have h1 : (2 : Int) ^ k = ((2 ^ k : Nat) : Int) := by norm_cast
 have h2 : 2 ^ k ≤ 2 ^ 31 := Nat.pow_le_pow_right (by decide) h
 have h3 : 0 < 2 ^ k := Nat.two_pow_pos k
 rw [h1]; omega
structure EnvOkD (v : EnvD) : Prop where
 F : v.Funcs.length ≤ 60000
 S : v.Sigs.length ≤ 60000
 L : v.Locals.length ≤ 60000
 G : v.Globals.length ≤ 60000
 W : v.Wide.length ≤ 60000
 mu : v.Mutable.length = v.Globals.length
 sf : ∀ g ∈ v.Funcs, g.P.length ≤ 20 ∧ g.R.length ≤ 20
 ss : ∀ g ∈ v.Sigs, g.P.length ≤ 20 ∧ g.R.length ≤ 20
 own : v.Own.R.length ≤ 20
structure PlOk (v : EnvD) (x : InstrD) (s : Stk) (labs : List (List UInt8)) : Prop where
 env : EnvOkD v
 ins : InsOk x
 stk : s.1.length ≤ 50000
 lbn : labs.length ≤ 60000
 lbw : ∀ w ∈ labs, w.length ≤ 20
variable {n : Int}
theorem getI_at {α : Type} {L : List α} (h0 : 0 ≤ n) (h : ¬ n ≥ (L.length : Int)) : ∃ w, getI L n = some w ∧ L[n.toNat]? = some w := getI_in h0 (by omega)
theorem labAt_at {L : List (List UInt8)} (h0 : 0 ≤ n) (h : ¬ n ≥ (L.length : Int)) : ∃ w, labAt L n = some w ∧ L[L.length - 1 - n.toNat]? = some w := labAt_in h0 (by omega)
theorem getI_no {α : Type} {L : List α} (h : n ≥ (L.length : Int)) : getI L n = none := getI_out (by omega)
theorem labAt_no {L : List (List UInt8)} (h : n ≥ (L.length : Int)) : labAt L n = none := labAt_out (by omega)
theorem tk1_bad {d : Prop} {g : UInt8} (h : (((g.toNat : Int) ≠ 0) ∧ ((w.toNat : Int) ≠ 0)) ∧ ((g.toNat : Int) ≠ (w.toNat : Int))) : tk1S (l ++ [g], d) w = none :=
 tk1_snoc_no fun e => by
  obtain ⟨⟨h1, h2⟩, h3⟩ := h
  rcases e with e | e | e
  · exact h3 (by rw [e])
  · exact h1 (by rw [e]; rfl)
  · exact h2 (by rw [e]; rfl)
theorem tk1_good {d : Prop} {g : UInt8} (h : ¬ ((((g.toNat : Int) ≠ 0) ∧ ((w.toNat : Int) ≠ 0)) ∧ ((g.toNat : Int) ≠ (w.toNat : Int)))) : tk1S (l ++ [g], d) w = some ((l, d), if g = 0 then w else g) := by
 refine tk1_snoc (Classical.byContradiction fun e => h ⟨⟨fun h1 => ?_, fun h1 => ?_⟩, fun h1 => ?_⟩)
 · exact e (.inr (.inl ((u8_zero g).1 h1)))
 · exact e (.inr (.inr ((u8_zero w).1 h1)))
 · exact e (.inl (u8_eq.1 h1))
end Go.Hl
end
