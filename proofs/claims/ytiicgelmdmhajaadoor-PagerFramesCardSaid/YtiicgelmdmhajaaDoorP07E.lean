/-
  Pages of one memory are let go; two pagers over one arena. No project text.
-/
import Derived.Test.YtiicgelmdmhajaaDoorP07D
import Derived.Test.YtiicgelmdmhajaaDoorHlV
namespace Go.Hl
set_option linter.unusedVariables false

theorem pair_agg {a : PairK} : VLe (exactV (kpair a)) (aggV [i64V a.1, i64V a.2]) := fun S w v h => by
  simp only [exactV] at h
  refine ⟨_, h, rfl, fun j q hj => ?_⟩
  match j, hj with
  | 0, hj => simp at hj; subst hj; exact ⟨_, rfl, rfl⟩
  | 1, hj => simp at hj; subst hj; exact ⟨_, rfl, rfl⟩
/-- those of one memory, among the places handed out -/
def collectK (D : List (PairK × Int)) (mem : Int) (seen : List Nat) : List PairK := seen.filterMap fun j => (D[j]?).bind fun p => if p.1.1 = mem then some p.1 else none
theorem collectK_yes {D : List (PairK × Int)} {mem : Int} {seen : List Nat} {j : Nat} {p : PairK × Int} (h : D[j]? = some p) (hm : p.1.1 = mem) : collectK D mem (seen ++ [j]) = collectK D mem seen ++ [p.1] := by
  unfold collectK
  rw [List.filterMap_append]
  simp [h, hm]
theorem collectK_no {D : List (PairK × Int)} {mem : Int} {seen : List Nat} {j : Nat} {p : PairK × Int} (h : D[j]? = some p) (hm : ¬ p.1.1 = mem) : collectK D mem (seen ++ [j]) = collectK D mem seen := by
  unfold collectK
  rw [List.filterMap_append]
  simp [h, hm]
theorem collectK_mem {D : List (PairK × Int)} {mem : Int} {seen : List Nat} (hn : (D.map (·.1)).Nodup) (hall : ∀ j, j < D.length → j ∈ seen) (k : PairK) : k ∈ collectK D mem seen ↔ k.1 = mem ∧ ∃ id, lookD D k = some id := by
  unfold collectK
  rw [List.mem_filterMap]
  constructor
  · rintro ⟨j, _, h⟩
    cases hj : D[j]? with
    | none => rw [hj] at h; cases h
    | some p =>
      rw [hj] at h
      simp only [Option.bind_some] at h
      split at h
      · rename_i hm
        cases h
        exact ⟨hm, p.2, lookD_of_mem hn (List.mem_of_getElem? hj)⟩
      · cases h
  · rintro ⟨hm, id, hid⟩
    obtain ⟨j, hj⟩ := List.mem_iff_getElem?.1 (lookD_pair hid)
    exact ⟨j, hall j (List.getElem?_eq_some_iff.1 hj).1, by rw [hj]; simp [hm]⟩
theorem seen_len {seen : List Nat} {n : Nat} (hn : seen.Nodup) (h : ∀ j ∈ seen, j < n) : seen.length ≤ n := by
  have := pigeon (m := List.range n) hn fun x hx => List.mem_range.2 (h x hx)
  simpa using this
theorem collectK_len (D : List (PairK × Int)) (mem : Int) (seen : List Nat) : (collectK D mem seen).length ≤ seen.length := List.length_filterMap_le _ _
theorem nodup_snoc {seen : List Nat} {j : Nat} (h : seen.Nodup) (hj : j ∉ seen) : (seen ++ [j]).Nodup := by
  rw [List.nodup_append]
  exact ⟨h, by simp, fun a ha b hb e => by simp at hb; subst hb; subst e; exact hj ha⟩

/-- what is there when a memory's pages are let go -/
def dropG (z : Nat) (C : Cont) (mem : Int) : Cont := if wrongG z (mem, 0) 0 0 = 0 then fun k => if k.1 = mem then List.replicate z 0 else C k else C

/-- behind the frames: none has a page of the memory -/
structure DropA (X : PgI) (p0 : PgD) (a : ArD) (s : StD) (C : Cont) (D : List PairK) (mem : Int) (p : PgD) (C1 : Cont) (i : Nat) : Prop where
  inv : Inv X p a s C1 D
  bm : p.bm = p0.bm
  out : ∀ k : PairK, k.1 ≠ mem → C1 k = C k
  le : i ≤ X.n
  fr : ∀ (j : Nat) (f : Fr), j < i → p.l[j]? = some f → f.used = true → f.k.1 ≠ mem
theorem DropA.yes {X : PgI} {p0 p : PgD} {a : ArD} {s : StD} {C C1 : Cont} {D : List PairK} {mem : Int} {i : Nat} {fr : Fr} (h : DropA X p0 a s C D mem p C1 i) (hi : p.l[i]? = some fr) (hu : fr.used = true) (hm : fr.k.1 = mem) :
    DropA X p0 a s C D mem { p with l := p.l.set i ⟨fr.at_, (0, 0), false, false, false⟩, inm := delD p.inm fr.k } (updC C1 fr.k (blkC p s fr.k)) (i + 1) := by
  refine ⟨h.inv.drop1 hi hu, h.bm, fun k hk => ?_, ?_, fun j f hj hjf hfu => ?_⟩
  · unfold updC; rw [if_neg (fun e => hk ((congrArg Prod.fst e).trans hm))]; exact h.out k hk
  · have := (List.getElem?_eq_some_iff.1 hi).1; have := h.inv.ok.n; omega
  · rcases set_get hjf with ⟨rfl, rfl⟩ | ⟨hne, hjf⟩
    · cases hfu
    · exact h.fr j f (by omega) hjf hfu
theorem DropA.no {X : PgI} {p0 p : PgD} {a : ArD} {s : StD} {C C1 : Cont} {D : List PairK} {mem : Int} {i : Nat} {fr : Fr} (h : DropA X p0 a s C D mem p C1 i) (hi : p.l[i]? = some fr) (hu : ¬ (fr.used = true ∧ fr.k.1 = mem)) : DropA X p0 a s C D mem p C1 (i + 1) := by
  refine ⟨h.inv, h.bm, h.out, ?_, fun j f hj hjf hfu => ?_⟩
  · have := (List.getElem?_eq_some_iff.1 hi).1; have := h.inv.ok.n; omega
  · by_cases e : j = i
    · subst e; rw [hi] at hjf; cases hjf; exact fun hm => hu ⟨hfu, hm⟩
    · exact h.fr j f (by omega) hjf hfu
/-- behind the blocks -/
structure DropB (X : PgI) (a : ArD) (s0 : StD) (C : Cont) (D : List PairK) (mem : Int) (l : List PairK) (p : PgD) (s : StD) (C2 : Cont) (i : Nat) : Prop where
  inv : Inv X p a s C2 D
  size : s.size = s0.size
  cap : s.cap = s0.cap
  out : ∀ k : PairK, k.1 ≠ mem → C2 k = C k
  fr : ∀ k : PairK, k.1 = mem → lookD p.inm k = none
  bm : ∀ (k : PairK) (id : Int), lookD p.bm k = some id → k.1 = mem → k ∈ l.drop i
  le : i ≤ l.length
theorem DropA.done {X : PgI} {p0 p : PgD} {a : ArD} {s : StD} {C C1 : Cont} {D : List PairK} {mem : Int} (h : DropA X p0 a s C D mem p C1 X.n) {l : List PairK} (hl : ∀ k, k ∈ l ↔ k.1 = mem ∧ ∃ id, lookD p.bm k = some id) : DropB X a s C D mem l p s C1 0 := by
  refine ⟨h.inv, rfl, rfl, h.out, fun k hk => ?_, fun k id hb hk => by rw [List.drop_zero]; exact (hl k).2 ⟨hk, id, hb⟩, Nat.zero_le _⟩
  cases hq : lookD p.inm k with
  | none => rfl
  | some v =>
    obtain ⟨j, f, _, hj, hu, hfk⟩ := h.inv.in1 k v hq
    have := (List.getElem?_eq_some_iff.1 hj).1
    exact absurd (hfk ▸ hk) (h.fr j f (by have := h.inv.ok.n; omega) hj hu)
theorem DropB.step {X : PgI} {p : PgD} {a : ArD} {s0 s : StD} {C C2 : Cont} {D : List PairK} {mem : Int} {l : List PairK} {i : Nat} {k : PairK} (h : DropB X a s0 C D mem l p s C2 i) (hk : l[i]? = some k) (hm : k.1 = mem) {g : PgD × StD × Nat} (hg : g = freePF p s k) :
    g.2.2 = 0 ∧ DropB X a s0 C D mem l g.1 g.2.1 (updC C2 k (List.replicate s.size 0)) (i + 1) ∧ g.1.l = p.l ∧ g.1.inm = p.inm := by
  obtain ⟨h1, h2, h3, h4, h5, h6, h7⟩ := h.inv.free (h.fr k hm) hg
  refine ⟨h1, ⟨h2, h3.trans h.size, h7.trans h.cap, fun k' hk' => ?_, fun k' hk' => by rw [h5]; exact h.fr k' hk', fun k' id hb hk' => ?_, (List.getElem?_eq_some_iff.1 hk).1⟩, h4, h5⟩
  · unfold updC; rw [if_neg (fun e => hk' ((congrArg Prod.fst e).trans hm))]; exact h.out k' hk'
  · rw [h6] at hb
    by_cases e : k' = k
    · rw [if_pos e] at hb; cases hb
    · rw [if_neg e] at hb
      have h9 := h.bm k' id hb hk'
      rw [List.drop_eq_getElem_cons (List.getElem?_eq_some_iff.1 hk).1] at h9
      rcases List.mem_cons.1 h9 with h9 | h9
      · exact absurd (h9.trans (List.getElem?_eq_some_iff.1 hk).2) e
      · exact h9
theorem DropB.done {X : PgI} {p : PgD} {a : ArD} {s0 s : StD} {C C2 : Cont} {D : List PairK} {mem : Int} {l : List PairK} {z : Nat} (h : DropB X a s0 C D mem l p s C2 l.length) (hz : s.size = z) (h0 : wrongG z (mem, 0) 0 0 = 0) : C2 = dropG z C mem := by
  unfold dropG
  rw [if_pos h0]
  funext k
  by_cases hk : k.1 = mem
  · rw [if_pos hk]
    rcases h.inv.noFr (h.fr k hk) with h1 | ⟨id, h1, _⟩
    · rw [zeros_rep h1.2, h.inv.lenC, hz]
    · have := h.bm k id h1 hk
      rw [List.drop_length] at this; cases this
  · rw [if_neg hk]; exact h.out k hk

/-! ### a contract of less, and of more -/
theorem FnE.own {P : Program} {f : FuncId} {ps : List VP} {hs hs0 : List HP} {γ : Type} {φ : γ → Prop} {hs' hs1 : γ → List HP} {q : γ → VP} (h : FnE P f ps hs φ hs' q) (h0 : OLe hs0 hs) (h1 : ∀ g, φ g → OLe (hs' g) (hs1 g)) : FnE P f ps hs0 φ hs1 q := by
  intro w S F vs k1 k2 k3 k4 k5
  refine (h w S F vs k1 k2 k3 (h0 _ _ _ k4) k5).mono ?_
  rintro e w' ⟨v, S', F', g, he, hs, hφ, ho, hq⟩
  exact ⟨v, S', F', g, he, hs, hφ, h1 g hφ _ _ _ ho, hq⟩

/-! ### two pagers over one arena -/
def partH (X : PgI) (z q : Nat) (T : PgD → Prop) (C : Cont) (m : Nat) (a : ArD) : HP := exH fun x : PgD × StD => ownH [pureH (InvZ X z q T x.1 a x.2 C m), pagerC X x.1, pagerF X x.1, pagerI X x.1, pagerB X x.1, storeH X.sb x.2]
structure ApartX (X1 X2 : PgI) : Prop where
  Y : X1.Y = X2.Y
  apart : X1.hi ≤ X2.lo ∨ X2.hi ≤ X1.lo
theorem ApartX.symm {X1 X2 : PgI} (h : ApartX X1 X2) : ApartX X2 X1 := ⟨h.Y.symm, h.apart.symm⟩
theorem InvZ.other {X1 X2 : PgI} {z q m : Nat} {T : PgD → Prop} {p : PgD} {a a' : ArD} {s : StD} {C : Cont} (h : InvZ X2 z q T p a s C m) (hA : ApartX X1 X2) (ho : ArOk X1.Y a) (hs : SameOut X1 a a') : InvZ X2 z q T p a' s C m := by
  obtain ⟨D, h1, h2, h3⟩ := h.ex
  refine ⟨⟨D, h1, h2, { h3 with ok := { h3.ok with ar := hA.Y ▸ hs.ok ho }, fr := fun j f hj hu => ?_ }⟩, h.sz, h.cp, h.cln⟩
  rw [hs.get ho, h3.fr j f hj hu]
  have := h3.ok.room f (List.mem_of_getElem? hj)
  have h4 := hA.apart
  omega
theorem part_ok {X1 X2 : PgI} {z q m : Nat} {T : PgD → Prop} {C : Cont} (hA : ApartX X1 X2) : RestOk X1 (partH X2 z q T C m) := fun a a' ho hs F S w ⟨F1, F2, h1, h2, ⟨x, h3⟩, h4⟩ =>
  ⟨F1, F2, h1, h2, ⟨x, by
    obtain ⟨G1, G2, g1, g2, g3, g4⟩ := h3
    exact ⟨G1, G2, g1, g2, g3.other hA ho hs, g4⟩⟩, h4⟩
set_option maxHeartbeats 1000000 in
theorem part_swap {X1 X2 : PgI} {z1 q1 m1 z2 q2 m2 : Nat} {T1 T2 : PgD → Prop} {C1 C2 : Cont} (hY : X1.Y = X2.Y) {r : List HP} : OLe (pagH X1 z1 q1 T1 C1 m1 (partH X2 z2 q2 T2 C2 m2) :: r) (pagH X2 z2 q2 T2 C2 m2 (partH X1 z1 q1 T1 C1 m1) :: r) := by
  rintro F S w ⟨F1, F2, h1, h2, ⟨⟨p1, a, s1⟩, h3⟩, h4⟩
  refine ⟨F1, F2, h1, h2, ?_, h4⟩
  have k1 : Own [pureH (InvZ X1 z1 q1 T1 p1 a s1 C1 m1), pagerC X1 p1, pagerF X1 p1, pagerI X1 p1, pagerB X1 p1, storeH X1.sb s1, cellsH X1.Y.ab [subV X1.Y.db 0 X1.Y.size, intV .i64 (a.height : Int), intV .i64 (a.live : Int), exactV (.map (some X1.Y.tm)), exactV (.map (some X1.Y.gm))], bufH X1.Y.db a.bytes, mapH X1.Y.tm (Value.int .i64) i64V a.taken, mapH X1.Y.gm (Value.int .i64) (fun _ : Unit => emptyV) [], partH X2 z2 q2 T2 C2 m2 a] F1 S w := h3
  have k2 := k1.perm (Perm.idx (hs' := [partH X2 z2 q2 T2 C2 m2 a, pureH (InvZ X1 z1 q1 T1 p1 a s1 C1 m1), pagerC X1 p1, pagerF X1 p1, pagerI X1 p1, pagerB X1 p1, storeH X1.sb s1, cellsH X1.Y.ab [subV X1.Y.db 0 X1.Y.size, intV .i64 (a.height : Int), intV .i64 (a.live : Int), exactV (.map (some X1.Y.tm)), exactV (.map (some X1.Y.gm))], bufH X1.Y.db a.bytes, mapH X1.Y.tm (Value.int .i64) i64V a.taken, mapH X1.Y.gm (Value.int .i64) (fun _ : Unit => emptyV) []]) [10, 0, 1, 2, 3, 4, 5, 6, 7, 8, 9] rfl rfl)
  obtain ⟨G1, G2, g1, g2, ⟨⟨p2, s2⟩, g3⟩, g4⟩ := k2
  have k3 := Own.append.2 ⟨G1, G2, g1, g2, g3, g4⟩
  have k4 := k3.perm (Perm.idx (hs' := [pureH (InvZ X1 z1 q1 T1 p1 a s1 C1 m1), pagerC X1 p1, pagerF X1 p1, pagerI X1 p1, pagerB X1 p1, storeH X1.sb s1] ++ [pureH (InvZ X2 z2 q2 T2 p2 a s2 C2 m2), pagerC X2 p2, pagerF X2 p2, pagerI X2 p2, pagerB X2 p2, storeH X2.sb s2, cellsH X1.Y.ab [subV X1.Y.db 0 X1.Y.size, intV .i64 (a.height : Int), intV .i64 (a.live : Int), exactV (.map (some X1.Y.tm)), exactV (.map (some X1.Y.gm))], bufH X1.Y.db a.bytes, mapH X1.Y.tm (Value.int .i64) i64V a.taken, mapH X1.Y.gm (Value.int .i64) (fun _ : Unit => emptyV) []]) [6, 7, 8, 9, 10, 11, 0, 1, 2, 3, 4, 5, 12, 13, 14, 15] rfl rfl)
  obtain ⟨L1, L2, l1, l2, l3, l4⟩ := Own.append.1 k4
  rw [hY] at l4
  refine ⟨(p2, a, s2), ?_⟩
  have k5 : Own (partH X1 z1 q1 T1 C1 m1 a :: [pureH (InvZ X2 z2 q2 T2 p2 a s2 C2 m2), pagerC X2 p2, pagerF X2 p2, pagerI X2 p2, pagerB X2 p2, storeH X2.sb s2, cellsH X2.Y.ab [subV X2.Y.db 0 X2.Y.size, intV .i64 (a.height : Int), intV .i64 (a.live : Int), exactV (.map (some X2.Y.tm)), exactV (.map (some X2.Y.gm))], bufH X2.Y.db a.bytes, mapH X2.Y.tm (Value.int .i64) i64V a.taken, mapH X2.Y.gm (Value.int .i64) (fun _ : Unit => emptyV) []]) F1 S w := ⟨L1, L2, l1, l2, ⟨(p1, s1), l3⟩, l4⟩
  exact k5.perm (Perm.idx [1, 2, 3, 4, 5, 6, 7, 8, 9, 10, 0] rfl rfl)
end Go.Hl
