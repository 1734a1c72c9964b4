/-
  Acts on two memories: what is known at each of them. No project text.
-/
import Derived.Test.YtiicgelmdmhajaaDoorP08F
namespace Go.Hl
open Go.RowKit
set_option linter.unusedVariables false

def N64 : Type := { m : Nat // m < 18446744073709551616 }
def n64 (a : IntOf .u64) : N64 := ⟨a.1.toNat, by
  obtain ⟨m, hm, hl⟩ := nat_of64 a
  rw [hm]; simpa using hl⟩
theorem n64_eq (a : IntOf .u64) : a.1 = ((n64 a).1 : Int) := by
  obtain ⟨m, hm, hl⟩ := nat_of64 a
  show a.1 = ((a.1.toNat : Nat) : Int)
  rw [hm]; simp
structure ActS where
  Kind : UInt8
  (Q Self : Prop)
  (At Off : N64)
  N : IntOf .i64
  B : List UInt8
def encActS (a : ActS) : List VP := [intV .u8 (a.Kind.toNat : Int), propV a.Q, propV a.Self, intV .u64 (a.At.1 : Int), intV .u64 (a.Off.1 : Int), intV .i64 a.N.1, sliceV 1 encU8 a.B]
instance : Enc 7 encActS := ⟨fun _ => rfl, fun x q h => by simp only [encActS, List.mem_cons, List.not_mem_nil, or_false] at h; rcases h with h | h | h | h | h | h | h <;> subst h <;> infer_instance⟩
theorem intOf_b (a : IntOf .i64) : a.1 ≤ 9223372036854775807 ∧ -9223372036854775808 ≤ a.1 := by
  have h := a.2
  have e1 : IntKind.i64.min = -9223372036854775808 := by decide
  have e2 : IntKind.i64.max = 9223372036854775807 := by decide
  simp [Lit.wf] at h
  omega
theorem wrap_u8 (n : Nat) : IntKind.u8.wrap (n : Int) = ((UInt8.ofNat n).toNat : Int) := by
  have e : IntKind.u8.wrap (n : Int) = (n : Int) % 256 := rfl
  rw [e]; simp
theorem ptr_pick {i : Nat} {a b : Int} (h : i < 2) : VLe (ptrV ([intV .u8 a, intV .u8 b].drop (i * 1))) (ptrV [intV .u8 (pick i a b)]) := by
  rcases i with _ | _ | i
  · intro S w v ⟨bl, off, hv, hS, hc⟩
    exact ⟨bl, off, hv, hS, fun j q hj => by
      cases j with
      | zero => exact hc 0 q (by simpa [pick] using hj)
      | succ j => simp at hj⟩
  · exact VLe.refl _
  · omega
/-! ### at the beginning -/
def pgN (p : UInt8 × UInt8) (i : Nat) : Nat := (pick i p.1 p.2).toNat % 4
def L1 (ms : List MemP) : List (Option Nat) := [ms[0]?.map (·.1), ms[1]?.map (·.1)]
def M1 (p : UInt8 × UInt8) (i : Nat) : List RM := [if 0 < i then ⟨pgN p 0, 5, []⟩ else ⟨0, 0, []⟩, if 1 < i then ⟨pgN p 1, 5, []⟩ else ⟨0, 0, []⟩]
def memI (p : UInt8 × UInt8) (j : Nat) : SpD := ⟨(j : Int), pgN p j, 5, 5, (j : Int) = 1⟩
structure BegI (p : UInt8 × UInt8) (i : Nat) (ms : List MemP) : Prop where
  le : i ≤ 2
  len : ms.length = i
  at_ : ∀ (j : Nat) (q : MemP), ms[j]? = some q → q.2 = memI p j
theorem pgN_lt (p : UInt8 × UInt8) (i : Nat) : pgN p i < 4 := Nat.mod_lt _ (by decide)
theorem BegI.begin (p : UInt8 × UInt8) : BegI p 0 [] := ⟨by decide, rfl, fun j q h => by simp at h⟩
theorem BegI.free {p : UInt8 × UInt8} {i : Nat} {ms : List MemP} (h : BegI p i ms) (hi : i < 2) : (L1 ms)[i]? = some none ∧ (M1 p i)[i]? = some ⟨0, 0, []⟩ := by
  have hl := h.len
  rcases i with _ | _ | i
  · have : ms = [] := List.length_eq_zero_iff.1 hl
    subst this; exact ⟨rfl, rfl⟩
  · match ms, hl with
    | [a], _ => exact ⟨rfl, rfl⟩
  · omega
theorem BegI.step {p : UInt8 × UInt8} {i : Nat} {ms : List MemP} (h : BegI p i ms) (hi : i < 2) (b : Nat) : BegI p (i + 1) (ms ++ [(b, memI p i)]) := by
  refine ⟨by omega, by simp [h.len], fun j q hj => ?_⟩
  by_cases e : j < ms.length
  · rw [List.getElem?_append_left e] at hj; exact h.at_ j q hj
  · have hjl := (List.getElem?_eq_some_iff.1 hj).1
    simp at hjl
    have ej : j = ms.length := by omega
    subst ej
    simp at hj; subst hj
    rw [h.len]
theorem pgN_eq (p : UInt8 × UInt8) (i : Nat) : pick i (p.1.toNat : Int) (p.2.toNat : Int) % 4 = ((pgN p i : Nat) : Int) := by
  unfold pgN pick
  split <;> omega
theorem L1_add {i : Nat} {ms : List MemP} (hl : ms.length = i) (hi : i < 2) (b : Nat) (M : SpD) : (L1 ms).set i (some b) = L1 (ms ++ [(b, M)]) := by
  rcases i with _ | _ | i
  · have : ms = [] := List.length_eq_zero_iff.1 hl
    subst this; rfl
  · match ms, hl with
    | [a], _ => rfl
  · omega
theorem M1_add {p : UInt8 × UInt8} {i : Nat} (hi : i < 2) : (M1 p i).set i ⟨pgN p i, 5, []⟩ = M1 p (i + 1) := by
  rcases i with _ | _ | i
  · rfl
  · rfl
  · omega
theorem BegI.two {p : UInt8 × UInt8} {ms : List MemP} (h : BegI p 2 ms) : ∃ b0 b1, ms = [(b0, memI p 0), (b1, memI p 1)] := by
  match ms, h.len with
  | [q0, q1], _ =>
    have h0 := h.at_ 0 q0 rfl
    have h1 := h.at_ 1 q1 rfl
    obtain ⟨b0, M0⟩ := q0
    obtain ⟨b1, M1⟩ := q1
    simp only at h0 h1
    exact ⟨b0, b1, by rw [h0, h1]⟩
/-! ### behind so many acts -/
structure PlayI (n i : Nat) (M0 M1 : SpD) (r0 r1 : RM) (C : Cont) (m : Nat) : Prop where
  le : i ≤ n
  s0 : Side 0 M0 r0 C
  s1 : Side 1 M1 r1 C
  few : m ≤ i * 16
  n0 : r0.puts.length ≤ i
  n1 : r1.puts.length ≤ i
  l0 : ∀ p ∈ r0.puts, p.2.length ≤ 1000
  l1 : ∀ p ∈ r1.puts, p.2.length ≤ 1000
theorem PlayI.begin (n : Nat) (p : UInt8 × UInt8) : PlayI n 0 (memI p 0) (memI p 1) ⟨pgN p 0, 5, []⟩ ⟨pgN p 1, 5, []⟩ (zeroC 64) 0 :=
  ⟨Nat.zero_le _, Side.new (by have := pgN_lt p 0; omega), Side.new (by have := pgN_lt p 1; omega), Nat.le_refl _, Nat.le_refl _, Nat.le_refl _, fun _ h => (by cases h), fun _ h => (by cases h)⟩
/-- one of the two, and the other one -/
structure AtI (i : Nat) (pb b0 b1 : Nat) (M0 M1 : SpD) (r0 r1 : RM) (C : Cont) (k : Nat) (bk bj : Nat) (Mk Mj : SpD) (rk rj : RM) : Prop where
  hopen : ∀ R, OLe (memsH pb [(b0, M0), (b1, M1)] :: R) (spaceH bk pb Mk :: spaceH bj pb Mj :: R)
  lk : [some b0, some b1][k]? = some (some bk)
  lj : [some b0, some b1][1 - k]? = some (some bj)
  ek : [r0, r1][k]? = some rk
  ej : [r0, r1][1 - k]? = some rj
  sk : Side k Mk rk C
  sj : Side (1 - k) Mj rj C
  nk : rk.puts.length ≤ i
  nj : rj.puts.length ≤ i
  bk_ : ∀ p ∈ rk.puts, p.2.length ≤ 1000
  bj_ : ∀ p ∈ rj.puts, p.2.length ≤ 1000
  back : ∀ (n : Nat) (M' : SpD) (r' : RM) (C' : Cont) (m' : Nat), i < n → Side k M' r' C' → Side (1 - k) Mj rj C' → m' ≤ (i + 1) * 16 → r'.puts.length ≤ i + 1 → (∀ p ∈ r'.puts, p.2.length ≤ 1000) →
    ∃ M0' M1' r0' r1', PlayI n (i + 1) M0' M1' r0' r1' C' m' ∧ [r0, r1].set k r' = [r0', r1'] ∧ ∀ R, OLe (spaceH bk pb M' :: spaceH bj pb Mj :: R) (memsH pb [(b0, M0'), (b1, M1')] :: R)
theorem mems_back {pb b0 b1 : Nat} {M0 M1 : SpD} {R : List HP} : OLe (spaceH b0 pb M0 :: spaceH b1 pb M1 :: R) (memsH pb [(b0, M0), (b1, M1)] :: R) := OLe.pack (l := [spaceH b0 pb M0, spaceH b1 pb M1])
theorem PlayI.at_ {n i pb b0 b1 m k : Nat} {M0 M1 : SpD} {r0 r1 : RM} {C : Cont} (h : PlayI n i M0 M1 r0 r1 C m) (hk : k ≤ 1) : ∃ bk bj Mk Mj rk rj, AtI i pb b0 b1 M0 M1 r0 r1 C k bk bj Mk Mj rk rj := by
  rcases k with _ | _ | k
  · exact ⟨b0, b1, M0, M1, r0, r1, fun R => mems_open (k := 0), rfl, rfl, rfl, rfl, h.s0, h.s1, h.n0, h.n1, h.l0, h.l1, fun n M' r' C' m' hi h1 h2 h3 h4 h5 => ⟨M', M1, r', r1, ⟨by omega, h1, h2, h3, h4, Nat.le_succ_of_le h.n1, h5, h.l1⟩, rfl, fun R => mems_back⟩⟩
  · exact ⟨b1, b0, M1, M0, r1, r0, fun R => mems_open (k := 1), rfl, rfl, rfl, rfl, h.s1, h.s0, h.n1, h.n0, h.l1, h.l0, fun n M' r' C' m' hi h1 h2 h3 h4 h5 => ⟨M0, M', r0, r', ⟨by omega, h2, h1, h3, Nat.le_succ_of_le h.n0, h4, h.l0, h5⟩, rfl, fun R => OLe.trans (OLe.perm (List.Perm.swap _ _ _)) mems_back⟩⟩
  · omega
theorem set_id {α : Type} {l : List α} {k : Nat} {x : α} (h : l[k]? = some x) : l.set k x = l := by
  apply List.ext_getElem?
  intro j
  by_cases e : k = j
  · subst e; rw [h, List.getElem?_set_self (List.getElem?_eq_some_iff.1 h).1]
  · rw [List.getElem?_set_ne e]
theorem set_at {α : Type} {l : List α} {k : Nat} {x y : α} (h : l[k]? = some x) : (l.set k y)[k]? = some y := List.getElem?_set_self (List.getElem?_eq_some_iff.1 h).1
/-- what is wrong with an access, where it may be long -/
theorem wrongS_eq {pages a o n : Nat} (h : n ≤ 1048576) : wrongS pages a o (n : Int) = if beyondS pages (a + o) n then (0, 4, 0) else (a + o, 0, 0) := by
  unfold wrongS
  rw [if_neg (by omega), if_neg (by omega), Int.toNat_natCast]
theorem fillS_eq {p a n : Nat} (h : n ≤ 1048576) : fillS p a n = if beyondS p a n then (4, 0) else (0, 0) := by
  unfold fillS
  rw [if_neg (show ¬ 1048576 < n by omega)]
theorem copyS_eq {p q t a n : Nat} (h : n ≤ 1048576) : copyS p q t a n = if beyondS p t n ∨ beyondS q a n then (4, 0) else (0, 0) := by
  unfold copyS
  rw [if_neg (show ¬ 1048576 < n by omega)]
theorem puts_add {r : RM} {a : Nat} {ys : List UInt8} (h : ∀ p ∈ r.puts, p.2.length ≤ 1000) (hy : ys.length ≤ 1000) : ∀ p ∈ (writeM r a ys).puts, p.2.length ≤ 1000 := fun p hp => by
  rcases List.mem_append.1 hp with h1 | h1
  · exact h p h1
  · simp at h1; subst h1; exact hy
/-- where the acts' ways meet -/
structure MeetI (k : Nat) (Mj : SpD) (rj rk : RM) (m : Nat) (M' : SpD) (r' : RM) (C' : Cont) (m' : Nat) : Prop where
  sk : Side k M' r' C'
  sj : Side (1 - k) Mj rj C'
  few : m' ≤ m + 16
  n : r'.puts.length ≤ rk.puts.length + 1
  b : ∀ p ∈ r'.puts, p.2.length ≤ 1000
section
variable {i pb b0 b1 k bk bj m : Nat} {M0 M1 Mk Mj : SpD} {r0 r1 rk rj : RM} {C : Cont}
theorem AtI.same (A : AtI i pb b0 b1 M0 M1 r0 r1 C k bk bj Mk Mj rk rj) : MeetI k Mj rj rk m Mk rk C m := ⟨A.sk, A.sj, Nat.le_add_right _ _, Nat.le_succ _, A.bk_⟩
theorem AtI.same' (A : AtI i pb b0 b1 M0 M1 r0 r1 C k bk bj Mk Mj rk rj) {C' : Cont} {m' : Nat} (hC : C' = C) (hm : m' ≤ m + 16) : MeetI k Mj rj rk m Mk rk C' m' := by
  subst hC; exact ⟨A.sk, A.sj, hm, Nat.le_succ _, A.bk_⟩
theorem AtI.wrote (A : AtI i pb b0 b1 M0 M1 r0 r1 C k bk bj Mk Mj rk rj) (hk : k ≤ 1) {a : Nat} {ys : List UInt8} {C' : Cont} {m' : Nat} (hC : C' = wrC 64 C Mk.num a ys) (hm : m' ≤ m + 16) (hy : ys.length ≤ 1000) : MeetI k Mj rj rk m Mk (writeM rk a ys) C' m' := by
  subst hC
  exact ⟨A.sk.write a ys, A.sj.other (show k ≠ 1 - k by omega) a ys A.sk.num, hm, by simp [writeM], puts_add A.bk_ hy⟩
theorem AtI.grew (A : AtI i pb b0 b1 M0 M1 r0 r1 C k bk bj Mk Mj rk rj) (n : Nat) : MeetI k Mj rj rk m (growS Mk n).1 (growM rk n).1 C m := by
  refine ⟨(A.sk.grow n).1, A.sj, Nat.le_add_right _ _, ?_, ?_⟩
  · unfold growM; split <;> exact Nat.le_succ _
  · unfold growM; split <;> exact A.bk_
theorem AtI.capped (A : AtI i pb b0 b1 M0 M1 r0 r1 C k bk bj Mk Mj rk rj) {p : Int} {r' : RM} (h : r' = capM rk p) : MeetI k Mj rj rk m (capS Mk p) r' C m := by
  subst h; exact ⟨A.sk.cap p, A.sj, Nat.le_add_right _ _, Nat.le_succ _, A.bk_⟩
theorem Side.load {M : SpD} {r : RM} (h : Side k M r C) {a o n : Nat} (hn : n ≤ 1048576) : (((wrongS M.pages a o (n : Int)).2.1 : Nat) : Int) = (if beyondS r.pages (a + o) n then 4 else 0) ∧ (((wrongS M.pages a o (n : Int)).2.2 : Nat) : Int) = 0 ∧
    (if (wrongS M.pages a o (n : Int)).2 = (0, 0) then memR 64 C M.num (a + o) (n : Int).toNat else []) = (if beyondS r.pages (a + o) n then [] else readM r (a + o) n) ∧ ((wrongS M.pages a o (n : Int)).2 = (0, 0) ↔ ¬ beyondS r.pages (a + o) n) := by
  rw [wrongS_eq hn, h.pages]
  by_cases hb : beyondS r.pages (a + o) n
  · simp [hb]
  · simp [hb, h.read]
theorem Side.fill {M : SpD} {r : RM} (h : Side k M r C) {a n : Nat} (hn : n ≤ 1048576) : (((fillS M.pages a n).1 : Nat) : Int) = (if beyondS r.pages a n then 4 else 0) ∧ (((fillS M.pages a n).2 : Nat) : Int) = 0 ∧ (fillS M.pages a n = (0, 0) ↔ ¬ beyondS r.pages a n) := by
  rw [fillS_eq hn, h.pages]
  by_cases hb : beyondS r.pages a n <;> simp [hb]
theorem copy_facts {M M' : SpD} {r r' : RM} {k' : Nat} (h : Side k M r C) (h' : Side k' M' r' C) {t a n : Nat} (hn : n ≤ 1048576) : (((copyS M.pages M'.pages t a n).1 : Nat) : Int) = (if beyondS r.pages t n ∨ beyondS r'.pages a n then 4 else 0) ∧ (((copyS M.pages M'.pages t a n).2 : Nat) : Int) = 0 ∧ (copyS M.pages M'.pages t a n = (0, 0) ↔ ¬ (beyondS r.pages t n ∨ beyondS r'.pages a n)) := by
  rw [copyS_eq hn, h.pages, h'.pages]
  by_cases hb : beyondS r.pages t n ∨ beyondS r'.pages a n
  · rw [if_pos hb, if_pos hb]; exact ⟨rfl, rfl, ⟨fun e => by simp at e, fun e => absurd hb e⟩⟩
  · rw [if_neg hb, if_neg hb]; exact ⟨rfl, rfl, ⟨fun _ => hb, fun _ => rfl⟩⟩
end
end Go.Hl
