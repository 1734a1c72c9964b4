/-
  What the statement's proof leans on, several texts in one (packed by a program).
-/
import Derived.Test.YtpahnbgfmhcndaaGreatDoorBMS
import Derived.Lib.LaidTab
set_option linter.all false
set_option maxRecDepth 1000000
set_option maxHeartbeats 4000000
section
namespace Go.Hl
open Go.RowKit
instance (m : ModD) : FlatL (encMod m) := by unfold encMod; infer_instance
def InsW (x : InstrD) : Prop := (0 ≤ x.A ∧ x.A < 18446744073709551616) ∧ (0 ≤ x.B ∧ x.B < 18446744073709551616) ∧ ∀ n ∈ x.L, 0 ≤ n
theorem greatM_bnd {x : ModD} (hb : GreatB x) : 0 ≤ greatM x ∧ greatM x ≤ 17100 * 281474976710656 := by
 have h5 := (great_bnds hb).2.2.2.2
 have hq := addN_le (xs := x.Datas) (g := gData) (cap := 25) 281474976710656 (by decide) hb.data
 unfold greatM
 omega
theorem small17 {x : ModD} (h : ModLens3 x) (hw : ∀ f ∈ x.Funcs, ∀ y ∈ f.Body.L, InsW y) (h0 : greatM x + max ((x.Funcs.length : Int) - 12) 0 + max ((x.Datas.length : Int) - 4) 0 ≤ 0) : SmallM x ∧ ModOk x ∧ x.Funcs.length ≤ 60000 := by
 have hb := greatM_bnd (greatB_of h)
 have hs : SmallM x := greatM_small h (by omega)
 refine ⟨hs, ⟨fun f hf y hy => ?_, fun f hf => ?_, fun f hf => ?_⟩, by omega⟩
 · obtain ⟨⟨a1, a2⟩, ⟨b1, b2⟩, c⟩ := hw f hf y hy
   exact ⟨a1, a2, b1, b2, c, by have := (hs.fn f hf).all y hy; omega⟩
 · have := (hs.fn f hf).l; omega
 · have := (hs.fn f hf).locals; omega
theorem updD_len {κ ν : Type} [DecidableEq κ] (D : List (κ × ν)) (a : κ) (v : ν) : (updD D a v).length = if (lookD D a).isSome then D.length else D.length + 1 := by
 have h := find_idx a D
 unfold updD
 cases hf : (D.map (·.1)).findIdx? (fun k => decide (k = a)) with
 | none => rw [hf] at h; simp only at h; rw [h]; simp
 | some i => rw [hf] at h; obtain ⟨x, _, hx⟩ := h; rw [hx]; simp
def pgNo (d : DataD) (k : Nat) (sz : Int) : Int := IntKind.u64.wrap (d.At + (k : Int)) / sz
abbrev keyD (d : DataD) (k : Nat) (sz : Int) : PairK := (d.Mem, pgNo d k sz)
def byD (d : DataD) (k : Nat) : UInt8 := (d.Bytes[k]?).getD 0
variable {d : DataD} {k : Nat} {b : UInt8}
theorem byD_eq (h : d.Bytes[k]? = some b) : byD d k = b := by unfold byD; rw [h]; rfl
def t1L (d : DataD) (sz : Int) (k : Nat) : List PairK := if ((byD d k).toNat : Int) = 0 then [] else [keyD d k sz]
variable {sz : Int}
theorem t1_no (h : d.Bytes[k]? = some b) (hb : (b.toNat : Int) = 0) : t1L d sz k = [] := by unfold t1L; rw [byD_eq h, if_pos hb]
theorem t1_yes (h : d.Bytes[k]? = some b) (hb : ¬ (b.toNat : Int) = 0) : t1L d sz k = [keyD d k sz] := by unfold t1L; rw [byD_eq h, if_neg hb]
abbrev tchD (d : DataD) (sz : Int) (n : Nat) : List PairK := catL (t1L d sz) n
def dtAt (m : ModD) (i : Nat) : DataD := (m.Datas[i]?).getD ⟨0, 0, []⟩
variable {m : ModD} {i : Nat}
theorem dtAt_eq (h : m.Datas[i]? = some d) : dtAt m i = d := by unfold dtAt; rw [h]; rfl
abbrev tchM (m : ModD) (sz : Int) (n : Nat) : List PairK := catL (fun i => tchD (dtAt m i) sz (dtAt m i).Bytes.length) n
theorem tchM_s (h : m.Datas[i]? = some d) : tchM m sz (i + 1) = tchM m sz i ++ tchD d sz d.Bytes.length := by
 show tchM m sz i ++ tchD (dtAt m i) sz (dtAt m i).Bytes.length = _
 rw [dtAt_eq h]
abbrev pgH (mb : Nat) (D : MapB) : HP := mapH mb (kpr .i64 .u64) (fun b : Bool => propV (b = true)) D
def pagesN (l : List PairK) : Nat := (putN [] l).length
theorem putN_keys (k : PairK) (l : List PairK) : (lookD (putN [] l) k).isSome ↔ k ∈ l := by
 rw [lookD_putN]
 by_cases h : k ∈ l <;> simp [h, lookD]
theorem pages_yes {l : List PairK} {k : PairK} (h : k ∉ l) : pagesN (l ++ [k]) = pagesN l + 1 := by
 unfold pagesN
 rw [putN_app, putN_one, updD_len, if_neg (fun e => h ((putN_keys k l).1 e))]
theorem pages_no {l : List PairK} {k : PairK} (h : k ∈ l) : pagesN (l ++ [k]) = pagesN l := by
 unfold pagesN
 rw [putN_app, putN_one, updD_len, if_pos ((putN_keys k l).2 h)]
theorem pages_le (l : List PairK) : pagesN l ≤ l.length := by
 have key : ∀ (l : List PairK) (D : MapB), (putN D l).length ≤ D.length + l.length := by
  intro l
  induction l with
  | nil => intro D; exact Nat.le_refl _
  | cons a l ih =>
   intro D
   have h1 := ih (updD D a true)
   have h2 := updD_len D a true
   have h3 : (updD D a true).length ≤ D.length + 1 := by rw [h2]; split <;> omega
   show (putN (updD D a true) l).length ≤ _
   simp only [List.length_cons]; omega
 exact Nat.le_trans (key l []) (by simp)
variable {n : Nat}
theorem tchD_len : (tchD d sz n).length ≤ n := by
 have := catL_len (h := t1L d sz) (c := 1) (n := n) fun i _ => by unfold t1L; split <;> simp
 simpa using this
theorem tchM_len (h : ∀ d ∈ m.Datas, d.Bytes.length ≤ 5000) : (tchM m sz n).length ≤ n * 5000 := catL_len fun i _ => by
 refine Nat.le_trans tchD_len ?_
 unfold dtAt
 cases hd : m.Datas[i]? with
 | none => simp
 | some d => exact h d (List.mem_of_getElem? hd)
def preL (m : ModD) (sz : Int) (d : DataD) (i k j : Nat) : List PairK := if j ≤ i then tchM m sz j else tchM m sz i ++ tchD d sz k
theorem preL_all : preL m sz d i k (i + 1) = tchM m sz i ++ tchD d sz k := if_neg (by omega)
variable {j : Nat}
theorem preL_sub (hj : j ≤ i + 1) {x : PairK} (h : x ∈ preL m sz d i k j) : x ∈ tchM m sz i ++ tchD d sz k := by
 unfold preL at h
 split at h
 · rename_i hji
   obtain ⟨t, ht, hx⟩ := catL_mem.1 h
   exact List.mem_append_left _ (catL_mem.2 ⟨t, by omega, hx⟩)
 · exact h
theorem preL_next {e : DataD} {l : Nat} {x : PairK} (hj : j ≤ i) (hd : m.Datas[i]? = some d) (he : m.Datas[j]? = some e) (h1 : x ∉ preL m sz d i k j) (h2 : x ∉ tchD e sz l) (h3 : j < i → e.Bytes.length ≤ l) (h4 : j = i → k ≤ l) : x ∉ preL m sz d i k (j + 1) := by
 have up : ∀ {n : Nat}, n ≤ l → x ∉ tchD e sz n := fun {n} hn hx => by
  obtain ⟨t, ht, h⟩ := catL_mem.1 hx
  exact h2 (catL_mem.2 ⟨t, by omega, h⟩)
 have e1 : preL m sz d i k j = tchM m sz j := if_pos hj
 rw [e1] at h1
 by_cases hji : j < i
 · have e2 : preL m sz d i k (j + 1) = tchM m sz (j + 1) := if_pos (by omega)
   rw [e2, tchM_s he, List.mem_append]
   rintro (h | h)
   · exact h1 h
   · exact up (h3 hji) h
 · have hji : j = i := by omega
   subst hji
   rw [hd] at he; cases he
   rw [preL_all, List.mem_append]
   rintro (h | h)
   · exact h1 h
   · exact up (h4 rfl) h
theorem preL_hit {e : DataD} {l : Nat} (hj : j ≤ i) (hd : m.Datas[i]? = some d) (he : m.Datas[j]? = some e) (hb : e.Bytes[l]? = some b) (hz : ¬ (b.toNat : Int) = 0) (hl : j < i ∨ l < k) : keyD e l sz ∈ preL m sz d i k (j + 1) := by
 have hm : ∀ {n : Nat}, l < n → keyD e l sz ∈ tchD e sz n := fun {n} hn => catL_mem.2 ⟨l, hn, by rw [t1_yes hb hz]; simp⟩
 by_cases hji : j < i
 · have e2 : preL m sz d i k (j + 1) = tchM m sz (j + 1) := if_pos (by omega)
   rw [e2, tchM_s he]
   exact List.mem_append_right _ (hm (List.getElem?_eq_some_iff.1 hb).1)
 · have hji : j = i := by omega
   subst hji
   rw [hd] at he; cases he
   rw [preL_all]
   exact List.mem_append_right _ (hm (by omega))
def dblC : Nat → Nat → Nat → Nat
 | 0, c, _ => c
 | k + 1, c, n => if c < n then dblC k (c * 2) n else c
def clsN (n : Nat) : Nat := dblC 20 16 n
theorem dblC_done {c : Nat} (h : n ≤ c) : dblC k c n = c := by
 cases k with
 | zero => rfl
 | succ k => unfold dblC; rw [if_neg (by omega)]
theorem dblC_step {c : Nat} (h : c < n) : dblC (k + 1) c n = dblC k (c * 2) n := by
 show (if c < n then dblC k (c * 2) n else c) = _
 rw [if_pos h]
theorem dblC_le : ∀ (k c n : Nat), dblC k c n ≤ c * 2 ^ k
 | 0, c, n => by simp [dblC]
 | k + 1, c, n => by
  unfold dblC
  split
  · have := dblC_le k (c * 2) n
    rw [Nat.pow_succ]
    have e : c * 2 * 2 ^ k = c * (2 ^ k * 2) := by rw [Nat.mul_assoc, Nat.mul_comm 2]
    omega
  · exact Nat.le_mul_of_pos_right _ (Nat.two_pow_pos _)
theorem clsN_le (n : Nat) : clsN n ≤ 16777216 := dblC_le 20 16 n
def inN (n : Int) : Prop := n ≥ 1 ∧ n ≤ 100000
def tabN (m : ModD) : Nat := (min (max m.Table 0) 100000).toNat
open Classical in
noncomputable def arenaN (m : ModD) (fr bl ce ca : Int) : Int :=
 if inN fr ∧ inN bl ∧ inN ce ∧ inN ca then fr * (clsN bl.toNat : Int) + ((clsN (8 * m.Globals.length) : Int) + (clsN (4 * tabN m) : Int)) + (clsN (8 * ce.toNat) : Int) + (clsN (12 * ca.toNat) : Int) else 0
theorem mul_cls {fr : Int} (h : inN fr) (n : Nat) : 0 ≤ fr * (clsN n : Int) ∧ fr * (clsN n : Int) ≤ 100000 * 16777216 := by
 have h1 := clsN_le n
 obtain ⟨h2, h3⟩ := h
 refine ⟨Int.mul_nonneg (by omega) (by omega), ?_⟩
 exact Int.mul_le_mul h3 (by omega) (by omega) (by decide)
theorem u64_rng (n : Int) : 0 ≤ IntKind.u64.wrap n ∧ IntKind.u64.wrap n < 18446744073709551616 := by
 have e : IntKind.u64.wrap n = n % 18446744073709551616 := rfl
 rw [e]; omega
theorem quo_fits {a b : Int} (h : 0 ≤ a ∧ a < 18446744073709551616) (hb : 0 < b) : fits .u64 (a / b) := by
 have h1 : 0 ≤ a / b := Int.ediv_nonneg h.1 (by omega)
 have h2 : a / b ≤ a := Int.ediv_le_self _ h.1
 exact fits_u64 h1 (by omega)
noncomputable def needN (m : ModD) (x : Nd) (fr bl : Int) : Nd := ⟨arenaN m fr bl x.c x.l, x.c, x.l, x.f, (pagesN (tchM m bl m.Datas.length) : Int)⟩
end Go.Hl
end
section
namespace Go.Proofs.YtpahnbgfmhcndaaGreatDoor
open Go.Hl Go.RowKit
theorem bclass_spec {n : Nat} (hp0 : n ≤ 4194304) : FnP Tryz.prog 45 [iV (n : Int)] (iV (clsN n : Int)) := by
 refine In 12 Tryz.func45 fun _ _ _ => ?_
 refine Z12 ?_
 refine Cd (fun c0 => ?_) fun c0 => ?_
 · exfalso; omega
 refine Z9 ?_
 refine .loopO (σ := Nat × Nat) (fun _ => []) (fun s => [(3, iV (s.1 : Int))]) (fun s => s.1 * 2 ^ s.2 = 16 * 2 ^ 20 ∧ 16 ≤ s.1 ∧ dblC s.2 s.1 n = clsN n) (fun s => s.2) (16, 20) ⟨rfl, by decide, rfl⟩ rfl ?_ ?_
 · exact (.get rfl (VLe.refl _) (.refl _ _))
 rintro ⟨c, k⟩ ⟨hk, h16, hd⟩
 simp only at hk h16 hd ⊢
 have hcm : c ≤ 16777216 := by (have h2 : 0 < 2 ^ k := Nat.two_pow_pos k; have h3 : c ≤ c * 2 ^ k := Nat.le_mul_of_pos_right _ h2; omega)
 refine Z8 ?_
 refine Cd (fun c1 => ?_) fun c1 => ?_
 ·
  refine Z9 ?_
  refine .round (c * 2, k - 1) (by obtain ⟨k, rfl⟩ : ∃ j, k = j + 1 := ⟨k - 1, by (cases k with | zero => simp at hk; omega | succ k => omega)⟩; simp only [Nat.add_sub_cancel]; exact ⟨by rw [← hk, Nat.pow_succ]; simp only [Nat.mul_assoc, Nat.mul_comm, Nat.mul_left_comm], by omega, by rw [← hd, dblC_step (by omega)]⟩) (by cases k with | zero => simp at hk; omega | succ k => simp) rfl ?_
  exact (.get rfl (VLe.int (by show _ = ((c * 2 : Nat) : Int); omega)) ((.keep 7 rfl rfl)))
 refine Z12 ?_
 refine Rt1 ?_
 exact VLe.int (by rw [← hd, dblC_done (by omega)])
theorem wclass_spec {n : Nat} (hp0 : n ≤ 4194304) : FnP Tryz.prog 17 [iV (n : Int)] (iV (clsN n : Int)) := by
 refine In 10 Tryz.func17 fun _ _ _ => ?_
 refine Z12 ?_
 refine .loopO (σ := Nat × Nat) (fun _ => []) (fun s => [(3, iV (s.1 : Int))]) (fun s => s.1 * 2 ^ s.2 = 16 * 2 ^ 20 ∧ 16 ≤ s.1 ∧ dblC s.2 s.1 n = clsN n) (fun s => s.2) (16, 20) ⟨rfl, by decide, rfl⟩ rfl ?_ ?_
 · exact (.get rfl (VLe.refl _) (.refl _ _))
 rintro ⟨c, k⟩ ⟨hk, h16, hd⟩
 simp only at hk h16 hd ⊢
 have hcm : c ≤ 16777216 := by (have h2 : 0 < 2 ^ k := Nat.two_pow_pos k; have h3 : c ≤ c * 2 ^ k := Nat.le_mul_of_pos_right _ h2; omega)
 refine Z8 ?_
 refine Cd (fun c0 => ?_) fun c0 => ?_
 ·
  refine Z9 ?_
  refine .round (c * 2, k - 1) (by obtain ⟨k, rfl⟩ : ∃ j, k = j + 1 := ⟨k - 1, by (cases k with | zero => simp at hk; omega | succ k => omega)⟩; simp only [Nat.add_sub_cancel]; exact ⟨by rw [← hk, Nat.pow_succ]; simp only [Nat.mul_assoc, Nat.mul_comm, Nat.mul_left_comm], by omega, by rw [← hd, dblC_step (by omega)]⟩) (by cases k with | zero => simp at hk; omega | succ k => simp) rfl ?_
  exact (.get rfl (VLe.int (by show _ = ((c * 2 : Nat) : Int); omega)) ((.keep 7 rfl rfl)))
 refine Z12 ?_
 refine Rt1 ?_
 exact VLe.int (by rw [← hd, dblC_done (by omega)])
theorem binn_spec {n : Int} : FnP Tryz.prog 44 [iV n] (propV (inN n)) := by
 refine In 9 Tryz.func44 fun _ _ _ => ?_
 refine Z17 ?_
 refine Rt1 ?_
 exact VLe.refl _
variable {m : ModD} {fr : Int} {bl : Int}
theorem barena_spec {ce ca : Int} (hp0 : m.Globals.length ≤ 60000) : FnP Tryz.prog 16 [ptrV (encMod m), iV fr, iV bl, iV ce, iV ca] (iV (arenaN m fr bl ce ca)) := by
 refine In 65 Tryz.func16 fun _ _ _ => ?_
 refine Z12 ?_
 refine .g (OpG.gF rfl rfl rfl rfl (fun hg => opCall (binn_spec) FB.out (.cons (.when (.t rfl) hg) .nil))) rfl rfl ?_
 refine Z4 ?_
 refine .g (OpG.gF rfl rfl rfl rfl (fun hg => opCall (binn_spec) FB.out (.cons (.when (.t rfl) hg) .nil))) rfl rfl ?_
 refine Z4 ?_
 refine .g (OpG.gF rfl rfl rfl rfl (fun hg => opCall (binn_spec) FB.out (.cons (.when (.t rfl) hg) .nil))) rfl rfl ?_
 refine Z4 ?_
 refine .g (OpG.gF rfl rfl rfl rfl (fun hg => opCall (binn_spec) FB.out (.cons (.when (.t rfl) hg) .nil))) rfl rfl ?_
 refine Z4 ?_
 refine Cd (fun c0 => ?_) fun c0 => ?_
 ·
  have hno : ¬ (inN fr ∧ inN bl ∧ inN ce ∧ inN ca) := fun h => by (rcases c0 with (((c | c) | c) | c) | c; exact c; exact c h.1; exact c h.2.1; exact c h.2.2.1; exact c h.2.2.2)
  refine Z7 ?_
  refine Rt1 ?_
  exact VLe.int (by unfold arenaN; rw [if_neg hno])
 have hyes : inN fr ∧ inN bl ∧ inN ce ∧ inN ca := ⟨Classical.byContradiction fun h => c0 (.inl (.inl (.inl (.inr h)))), Classical.byContradiction fun h => c0 (.inl (.inl (.inr h))), Classical.byContradiction fun h => c0 (.inl (.inr h)), Classical.byContradiction fun h => c0 (.inr h)⟩
 obtain ⟨y1, y2, y3, y4⟩ := id hyes
 have hmc := mul_cls y1 bl.toNat
 have htb : ((tabN m : Nat) : Int) = min (max m.Table 0) 100000 ∧ tabN m ≤ 100000 := by unfold tabN; omega
 unfold inN at y1 y2 y3 y4
 have q1 := clsN_le bl.toNat
 have q2 := clsN_le (8 * m.Globals.length)
 have q3 := clsN_le (4 * tabN m)
 have q4 := clsN_le (8 * ce.toNat)
 have q5 := clsN_le (12 * ca.toNat)
 refine Z5 ?_
 refine .p ((opMove (.t rfl)).le (VLe.int (show bl = ((bl.toNat : Nat) : Int) by omega))) rfl ?_
 refine .p (cA (h := bclass_spec (n := bl.toNat) (by omega))) rfl ?_
 refine Z5 ?_
 refine .drawK 17 2 FM.out (by kernel_rfl) (k := ?_)
 refine Z6 ?_
 refine .p ((opMulF (.c _) (.t rfl) fits_z).le (VLe.int (show _ = ((8 * m.Globals.length : Nat) : Int) by omega))) ?_
 refine .p (cA (h := bclass_spec (n := 8 * m.Globals.length) (by omega))) ?_
 refine Z5 ?_
 refine .p (opMin (.t rfl) (.c _)) ?_
 refine .p ((opMulF (.c _) (.t rfl) fits_z).le (VLe.int (show _ = ((4 * tabN m : Nat) : Int) by omega))) ?_
 refine .p (cA (h := bclass_spec (n := 4 * tabN m) (by omega))) ?_
 refine Z10 ?_
 refine .p ((opMulF (.c _) (.t rfl) fits_z).le (VLe.int (show _ = ((8 * ce.toNat : Nat) : Int) by omega))) rfl ?_
 refine .p (cA (h := bclass_spec (n := 8 * ce.toNat) (by omega))) rfl ?_
 refine Z2 ?_
 refine .p ((opMulF (.c _) (.t rfl) fits_z).le (VLe.int (show _ = ((12 * ca.toNat : Nat) : Int) by omega))) rfl ?_
 refine .p (cA (h := bclass_spec (n := 12 * ca.toNat) (by omega))) rfl ?_
 refine Z5 ?_
 refine Rt1 ?_
 exact VLe.int (by unfold arenaN; rw [if_pos hyes])
variable {sz : Int}
theorem btouched_spec {d : DataD} {mb : Nat} {B : List PairK} (hp0 : 0 < sz) (hp1 : d.Bytes.length ≤ 5000) : FnE Tryz.prog 46 [aggV (encData d), intV .u64 sz, exactV (.map (some mb))] [pgH mb (putN [] B)] (γ := Unit) (fun _ => True) (fun _ => [pgH mb (putN [] (B ++ tchD d sz d.Bytes.length))]) (fun _ => tupV []) := by
 refine In 30 Tryz.func46 fun _ _ _ => ?_
 refine Z14 ?_
 refine .loopO (σ := Nat) (fun k => [pgH mb (putN [] (B ++ tchD d sz k))]) (fun k => [(11, iV (k : Int))]) (fun k => k ≤ d.Bytes.length) (fun k => d.Bytes.length - k) 0 (Nat.zero_le _) (by show _ = [pgH mb (putN [] (B ++ []))]; simp only [List.append_nil]) ?_ ?_
 · exact (.get rfl (VLe.refl _) (.refl _ _))
 rintro k hk
 refine Z6 ?_
 refine Cd (fun c0 => ?_) fun c0 => ?_
 ·
  obtain ⟨b, hx⟩ := getElem?_lt (xs := d.Bytes) (k := k) (by omega)
  have hwr := u64_rng (d.At + (k : Int))
  have hqf := quo_fits hwr hp0
  refine Z7 ?_
  refine .p (cI k (h := hx)) rfl ?_
  refine Z11 ?_
  refine Cd (fun c1 => ?_) fun c1 => ?_
  ·
   refine .drawK 11 1 FM.out (by kernel_rfl) (k := ?_)
   refine Z7 ?_
   refine .p (opAdd (.t rfl) (.t rfl)) ?_
   refine Z1 ?_
   refine .p (opQuo (.t rfl) (.t rfl) hwr.1 hp0 hqf) ?_
   refine Z2 ?_
   refine .s (opUpd (i := 0) (a := keyD d k sz) true Tryz.kt113 Tryz.underlying113 (.t rfl) (.le (.t rfl) (agg_pair (a := keyD d k sz))) (.le .ct (VLe.prop (by simp))) rfl) ?_
   refine Z7 ?_
   refine .round (k + 1) (by omega) (by omega) (by show _ = [pgH mb (putN [] (B ++ (tchD d sz k ++ t1L d sz k)))]; rw [t1_yes hx c1, ← List.append_assoc, ← putN_snoc]; try rfl) ?_
   exact (.get rfl (VLe.int (by (show (k : Int) + 1 = ((k + 1 : Nat) : Int); omega))) ((.keep 22 rfl rfl)))
  refine Z7 ?_
  refine .round (k + 1) (by omega) (by omega) (by show _ = [pgH mb (putN [] (B ++ (tchD d sz k ++ t1L d sz k)))]; rw [t1_no hx (Classical.not_not.1 c1), List.append_nil]; try rfl) ?_
  exact (.get rfl (VLe.int (by (show (k : Int) + 1 = ((k + 1 : Nat) : Int); omega))) ((.keep 11 rfl rfl)))
 have hke : k = d.Bytes.length := by omega
 subst hke
 refine Z4 ?_
 refine Post.retR0 rfl (()) (by trivial) (fun _ _ _ h => h) rfl
theorem bblocks_spec (hp0 : 1 ≤ sz ∧ sz ≤ 100000) (hp1 : m.Datas.length ≤ 60000) (hp2 : ∀ d ∈ m.Datas, d.Bytes.length ≤ 5000) : FnP Tryz.prog 18 [ptrV (encMod m), iV sz] (iV (pagesN (tchM m sz m.Datas.length) : Int)) := by
 refine In 32 Tryz.func18 fun _ _ _ => ?_
 refine Z16 ?_
 refine Cd (fun c0 => ?_) fun c0 => ?_
 · exfalso; rcases c0 with c | c; exact c; omega
 refine Z4 ?_
 refine .n (opMakeM (kpr .i64 .u64) (fun b : Bool => propV (b = true))) rfl fun m14 _ => ?_
 refine Z15 ?_
 refine .loopO (σ := Nat) (fun k => [pgH m14 (putN [] (tchM m sz k))]) (fun k => [(20, iV (k : Int))]) (fun k => k ≤ m.Datas.length) (fun k => m.Datas.length - k) 0 (Nat.zero_le _) rfl ?_ ?_
 · exact (.get rfl (VLe.refl _) (.refl _ _))
 rintro k hk
 refine Z6 ?_
 refine Cd (fun c1 => ?_) fun c1 => ?_
 ·
  obtain ⟨d, hx⟩ := getElem?_lt (xs := m.Datas) (k := k) (by omega)
  refine Z6 ?_
  refine .p (cI k (h := hx)) rfl ?_
  refine Z1 ?_
  refine .n (opAlloc FZ.out) rfl fun b7 _ => ?_
  refine Z3 ?_
  refine .share (t := 7) (i := 0) rfl rfl ?_
  refine Z1 ?_
  refine .p (OpP.le (opLoadA FA.out FC.out rfl (.t rfl) rfl) (VLe.refl (aggV (encData d)))) rfl ?_
  refine Z3 ?_
  refine .n (cE (h := btouched_spec (d := d) (by omega) (hp2 d (List.mem_of_getElem? hx)))) rfl fun g28 h28 => ?_
  refine Z7 ?_
  refine .round (k + 1) (by omega) (by omega) (by rw [tchM_s hx]; try rfl) ?_
  exact (.get rfl (VLe.int (by (show (k : Int) + 1 = ((k + 1 : Nat) : Int); omega))) ((.keep 13 rfl rfl)))
 have hke : k = m.Datas.length := by omega
 subst hke
 refine Z8 ?_
 refine .p (opLenM (i := 0) rfl Tryz.underlying113 (.t rfl) rfl) rfl ?_
 refine Z4 ?_
 refine Rt1 ?_
 exact VLe.refl _
theorem bblocksNil_spec : FnP Tryz.prog 18 [nilV, iV sz] (iV 0) := by
 refine In 32 Tryz.func18 fun _ _ _ => ?_
 refine Z16 ?_
 refine Cd (fun c0 => ?_) fun c0 => ?_
 ·
  refine Z7 ?_
  refine Rt1 ?_
  exact VLe.refl _
 exact (c0 (.inl trivial)).elim
theorem bblocksZ_spec : FnP Tryz.prog 18 [ptrV (encMod m), iV 0] (iV 0) := by
 refine In 32 Tryz.func18 fun _ _ _ => ?_
 refine Z16 ?_
 refine Cd (fun c0 => ?_) fun c0 => ?_
 ·
  refine Z7 ?_
  refine Rt1 ?_
  exact VLe.refl _
 exact (c0 (.inr (by decide))).elim
variable {y : Nd}
theorem bmodule_spec (hp0 : ModOk m) (hp1 : m.Funcs.length ≤ 60000) (hp2 : ValidD m) (hp3 : m.Globals.length ≤ 60000) (hp4 : 1 ≤ bl ∧ bl ≤ 100000) (hp5 : m.Datas.length ≤ 60000) (hp6 : ∀ d ∈ m.Datas, d.Bytes.length ≤ 5000) : FnP Tryz.prog 19 [ptrV (encMod m), aggV (encCf y fr bl)] (tupV [aggV (encNd (needN m y fr bl)), iV 0]) := by
 refine In 36 Tryz.func19 fun _ _ _ => ?_
 refine Z3 ?_
 refine .n (opAlloc FZ.out) rfl fun b4 _ => ?_
 refine Z12 ?_
 refine Cd (fun c0 => ?_) fun c0 => ?_
 · exact c0.elim
 refine Z3 ?_
 refine .n (cE (h := vis_spec hp0 hp1)) rfl fun g12 h12 => ?_
 refine Z4 ?_
 refine Cd (fun c1 => ?_) fun c1 => ?_
 · exact absurd hp2 c1
 refine Z4 ?_
 refine .drawK 20 3 FM.out (by kernel_rfl) (k := ?_)
 refine Z9 ?_
 refine .p (cA (h := barena_spec hp3)) ?_
 refine Z9 ?_
 refine .p (cA (h := bblocks_spec hp4 hp5 hp6)) ?_
 refine Z7 ?_
 refine Post.retR rfl rfl () trivial (fun _ _ _ _ => trivial) rfl (.cons (.ra (i := 0) FA.out FC.out rfl rfl rfl rfl) ?_ (.cons (.rt rfl) ?_ .nil))
 · exact VLe.refl _
 exact VLe.refl _
theorem bmoduleN_spec (hp0 : ModOk m) (hp1 : m.Funcs.length ≤ 60000) (hp2 : ¬ ValidD m) : FnP Tryz.prog 19 [ptrV (encMod m), aggV (encCf y fr bl)] (tupV [aggV (encNd Nd.zero), iV 5]) := by
 refine In 36 Tryz.func19 fun _ _ _ => ?_
 refine Z3 ?_
 refine .n (opAlloc FZ.out) rfl fun b4 _ => ?_
 refine Z12 ?_
 refine Cd (fun c0 => ?_) fun c0 => ?_
 · exact c0.elim
 refine Z3 ?_
 refine .n (cE (h := vis_spec hp0 hp1)) rfl fun g12 h12 => ?_
 refine Z4 ?_
 refine Cd (fun c1 => ?_) fun c1 => ?_
 ·
  refine Z10 ?_
  refine Post.retR rfl rfl () trivial (fun _ _ _ _ => trivial) rfl (.cons (.ra (i := 0) FA.out FC.out rfl rfl rfl rfl) ?_ (.cons (.rt rfl) ?_ .nil))
  · exact VLe.refl _
  exact VLe.refl _
 exact absurd hp2 c1
theorem bmoduleNil_spec : FnP Tryz.prog 19 [nilV, aggV (encCf y fr bl)] (tupV [aggV (encNd Nd.zero), iV 12]) := by
 refine In 36 Tryz.func19 fun _ _ _ => ?_
 refine Z3 ?_
 refine .n (opAlloc FZ.out) rfl fun b4 _ => ?_
 refine Z12 ?_
 refine Cd (fun c0 => ?_) fun c0 => ?_
 ·
  refine Z10 ?_
  refine Post.retR rfl rfl () trivial (fun _ _ _ _ => trivial) rfl (.cons (.ra (i := 0) FA.out FC.out rfl rfl rfl rfl) ?_ (.cons (.rt rfl) ?_ .nil))
  · exact VLe.refl _
  exact VLe.refl _
 exact (c0 trivial).elim
end Go.Proofs.YtpahnbgfmhcndaaGreatDoor
end
