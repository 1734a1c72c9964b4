/-
  What pages hold that are written with one byte, and written over; how many there are. No project text.
-/
import Derived.Test.YtiicgelmdmhajaaDoorP07C
namespace Go.Hl
set_option linter.unusedVariables false
theorem class16 : classN 16 = 16 := by decide
theorem class32 : classN 32 = 32 := by decide
theorem class64 : classN 64 = 64 := by decide
theorem arT_new {X : ArI} {n c : Nat} (h : X.size = n) (hn : n ≤ 4194304) : ArT X ⟨List.replicate n 0, 0, 0, []⟩ ⟨List.replicate n 0, 0, 0, []⟩ c 0 :=
  ⟨⟨by rw [h]; simp, Nat.zero_le _, by omega, Nat.le_refl _⟩, by simp, fun _ _ _ => rfl⟩
theorem arT_at {X : ArI} {a : ArD} {c : Nat} (h : ArOk X a) : ArT X a a c 0 := ⟨h, by simp, fun _ _ _ => rfl⟩
def cleanRes (p : PgD) : Prop := cleanP p ∧ 0 < p.inm.length
theorem Inv.pos {X : PgI} {p : PgD} {a : ArD} {s : StD} {C : Cont} {D : List PairK} (h : Inv X p a s C D) {i : Nat} {f : Fr} (hi : p.l[i]? = some f) (hu : f.used = true) : 0 < p.inm.length := by
  have h1 := lookD_pair (h.in2 i f hi hu)
  exact List.length_pos_of_mem h1
def one16 (n : Nat) : List UInt8 := spl (List.replicate 16 0) (n % 16) [1]
open Classical in
noncomputable def genC (S : Nat → Prop) : Cont := fun k => if k.1 = 0 ∧ 0 ≤ k.2 ∧ S k.2.toNat then one16 k.2.toNat else List.replicate 16 0
theorem genC_congr {S S' : Nat → Prop} (h : ∀ n, S n ↔ S' n) : genC S = genC S' := by
  have : S = S' := funext fun n => propext (h n)
  rw [this]
theorem genC_zero {S : Nat → Prop} (h : ∀ n, ¬ S n) : genC S = zeroC 16 := by
  funext k
  unfold genC zeroC
  rw [if_neg (fun e => h _ e.2.2)]
theorem one16_nz (n : Nat) : ¬ zerosP (one16 n) := fun h => absurd (h 1 (by simp [one16, spl])) (by decide)
theorem genC_nz {S : Nat → Prop} {k : PairK} : ¬ zerosP (genC S k) ↔ k.1 = 0 ∧ 0 ≤ k.2 ∧ S k.2.toNat := by
  unfold genC
  by_cases h : k.1 = 0 ∧ 0 ≤ k.2 ∧ S k.2.toNat
  · rw [if_pos h]; exact ⟨fun _ => h, fun _ => one16_nz _⟩
  · rw [if_neg h]; exact ⟨fun e => absurd zeros_of_rep e, fun e => absurd e h⟩
theorem one_one : ∀ r : Fin 16, spl (spl (List.replicate 16 0) r.1 [1]) r.1 [1] = spl (List.replicate 16 (0 : UInt8)) r.1 [1] := by decide
theorem one_zero : ∀ r : Fin 16, spl (spl (List.replicate 16 0) r.1 [1]) r.1 [0] = List.replicate 16 (0 : UInt8) := by decide
theorem zero_zero : ∀ r : Fin 16, spl (List.replicate 16 0) r.1 [0] = List.replicate 16 (0 : UInt8) := by decide
theorem wrong16 (x : Nat) : wrongG 16 (0, (x : Int)) ((x : Int) % 16) ((([0] : List UInt8).length : Nat) : Int) = 0 := by
  unfold wrongG
  rw [if_neg (by show ¬ ((0 : Int) < 0 ∨ (x : Int) < 0); omega), if_neg (by show ¬ ((x : Int) % 16 < 0 ∨ ((1 : Nat) : Int) < 0 ∨ ((16 : Nat) : Int) < (x : Int) % 16 ∨ ((16 : Nat) : Int) - (x : Int) % 16 < ((1 : Nat) : Int)); omega)]
theorem write_one {S : Nat → Prop} (x : Nat) : writeG 16 (genC S) (0, (x : Int)) ((x : Int) % 16) [1] = genC fun n => S n ∨ n = x := by
  have hr : x % 16 < 16 := Nat.mod_lt _ (by decide)
  have hm : ((x : Int) % 16).toNat = x % 16 := by omega
  unfold writeG
  rw [if_pos (by exact wrong16 x), hm]
  funext k
  unfold updC
  by_cases hk : k = (0, (x : Int))
  · rw [if_pos hk, hk]
    unfold genC
    rw [if_pos (c := _ ∧ _ ∧ (_ ∨ _)) (by simp)]
    by_cases hs : S x
    · rw [if_pos (by simpa using hs)]
      simp only [Int.toNat_natCast]
      exact one_one ⟨x % 16, hr⟩
    · rw [if_neg (by simpa using hs)]
      simp only [Int.toNat_natCast]; rfl
  · rw [if_neg hk]
    unfold genC
    have : (k.1 = 0 ∧ 0 ≤ k.2 ∧ S k.2.toNat) ↔ (k.1 = 0 ∧ 0 ≤ k.2 ∧ (S k.2.toNat ∨ k.2.toNat = x)) := by
      constructor
      · rintro ⟨h1, h2, h3⟩; exact ⟨h1, h2, .inl h3⟩
      · rintro ⟨h1, h2, h3 | h3⟩
        · exact ⟨h1, h2, h3⟩
        · exact absurd (Prod.ext h1 (by show k.2 = (x : Int); omega)) hk
    by_cases h9 : k.1 = 0 ∧ 0 ≤ k.2 ∧ S k.2.toNat
    · rw [if_pos h9, if_pos (this.1 h9)]
    · rw [if_neg h9, if_neg (fun e => h9 (this.2 e))]
theorem write_zero {S : Nat → Prop} (x : Nat) : writeG 16 (genC S) (0, (x : Int)) ((x : Int) % 16) [0] = genC fun n => S n ∧ n ≠ x := by
  have hr : x % 16 < 16 := Nat.mod_lt _ (by decide)
  have hm : ((x : Int) % 16).toNat = x % 16 := by omega
  unfold writeG
  rw [if_pos (by exact wrong16 x), hm]
  funext k
  unfold updC
  by_cases hk : k = (0, (x : Int))
  · rw [if_pos hk, hk]
    unfold genC
    rw [if_neg (c := _ ∧ _ ∧ (_ ∧ _)) (by simp)]
    by_cases hs : S x
    · rw [if_pos (by simpa using hs)]
      simp only [Int.toNat_natCast]
      exact one_zero ⟨x % 16, hr⟩
    · rw [if_neg (by simpa using hs)]
      exact zero_zero ⟨x % 16, hr⟩
  · rw [if_neg hk]
    unfold genC
    have : (k.1 = 0 ∧ 0 ≤ k.2 ∧ S k.2.toNat) ↔ (k.1 = 0 ∧ 0 ≤ k.2 ∧ (S k.2.toNat ∧ k.2.toNat ≠ x)) := by
      constructor
      · rintro ⟨h1, h2, h3⟩; exact ⟨h1, h2, h3, fun e => hk (Prod.ext h1 (by show k.2 = (x : Int); omega))⟩
      · rintro ⟨h1, h2, h3, _⟩; exact ⟨h1, h2, h3⟩
    by_cases h9 : k.1 = 0 ∧ 0 ≤ k.2 ∧ S k.2.toNat
    · rw [if_pos h9, if_pos (this.1 h9)]
    · rw [if_neg h9, if_neg (fun e => h9 (this.2 e))]
/-- what the first j pages leave -/
noncomputable def putC (l : List UInt8) (j : Nat) : Cont := genC fun n => ∃ x ∈ l.take j, x.toNat = n
theorem take_succ' {α : Type} {l : List α} {j : Nat} {x : α} (h : l[j]? = some x) : l.take (j + 1) = l.take j ++ [x] := by
  rw [List.take_add_one, h]; rfl
theorem putC_zero (l : List UInt8) : putC l 0 = zeroC 16 := genC_zero fun n => by simp
theorem putC_succ {l : List UInt8} {j : Nat} {x : UInt8} (h : l[j]? = some x) : writeG 16 (putC l j) (0, (x.toNat : Int)) ((x.toNat : Int) % 16) [1] = putC l (j + 1) := by
  unfold putC
  rw [write_one]
  refine genC_congr fun n => ?_
  rw [take_succ' h]
  simp only [List.mem_append, List.mem_singleton]
  constructor
  · rintro (⟨y, hy, e⟩ | e)
    · exact ⟨y, .inl hy, e⟩
    · exact ⟨x, .inr rfl, e.symm⟩
  · rintro ⟨y, hy | hy, e⟩
    · exact .inl ⟨y, hy, e⟩
    · subst hy; exact .inr e.symm
/-- what is left of them when the first j are written over -/
noncomputable def clrC (l : List UInt8) (j : Nat) : Cont := genC fun n => (∃ x ∈ l, x.toNat = n) ∧ ¬ ∃ x ∈ l.take j, x.toNat = n
theorem clrC_zero (l : List UInt8) : putC l l.length = clrC l 0 := genC_congr fun n => by simp
theorem clrC_succ {l : List UInt8} {j : Nat} {x : UInt8} (h : l[j]? = some x) : writeG 16 (clrC l j) (0, (x.toNat : Int)) ((x.toNat : Int) % 16) [0] = clrC l (j + 1) := by
  unfold clrC
  rw [write_zero]
  refine genC_congr fun n => ?_
  rw [take_succ' h]
  simp only [List.mem_append, List.mem_singleton]
  constructor
  · rintro ⟨⟨h1, h2⟩, h3⟩
    refine ⟨h1, ?_⟩
    rintro ⟨y, hy | hy, e⟩
    · exact h2 ⟨y, hy, e⟩
    · subst hy; exact h3 e.symm
  · rintro ⟨h1, h2⟩
    exact ⟨⟨h1, fun ⟨y, hy, e⟩ => h2 ⟨y, .inl hy, e⟩⟩, fun e => h2 ⟨x, .inr rfl, e.symm⟩⟩
theorem clrC_nil {l : List UInt8} {k : PairK} : zerosP (clrC l l.length k) := by
  apply Classical.byContradiction
  intro h
  have := (genC_nz.1 h).2.2
  rw [List.take_length] at this
  exact this.2 this.1
/-- those of which none stood before -/
def dstN (l : List UInt8) : List UInt8 := l.foldl (fun acc x => if x ∈ acc then acc else acc ++ [x]) []
theorem dst_aux : ∀ (l acc : List UInt8), acc.Nodup → (l.foldl (fun acc x => if x ∈ acc then acc else acc ++ [x]) acc).Nodup ∧ ∀ y, y ∈ l.foldl (fun acc x => if x ∈ acc then acc else acc ++ [x]) acc ↔ y ∈ acc ∨ y ∈ l
  | [], acc, h => ⟨h, fun y => by simp⟩
  | x :: l, acc, h => by
    rw [List.foldl_cons]
    by_cases hx : x ∈ acc
    · rw [if_pos hx]
      obtain ⟨h1, h2⟩ := dst_aux l acc h
      refine ⟨h1, fun y => (h2 y).trans ?_⟩
      simp only [List.mem_cons]
      constructor
      · rintro (h3 | h3)
        · exact .inl h3
        · exact .inr (.inr h3)
      · rintro (h3 | h3 | h3)
        · exact .inl h3
        · subst h3; exact .inl hx
        · exact .inr h3
    · rw [if_neg hx]
      obtain ⟨h1, h2⟩ := dst_aux l (acc ++ [x]) (by
        rw [List.nodup_append]
        exact ⟨h, by simp, fun a ha b hb e => by simp at hb; subst hb; subst e; exact hx ha⟩)
      refine ⟨h1, fun y => (h2 y).trans ?_⟩
      simp only [List.mem_append, List.mem_singleton, List.mem_cons, List.not_mem_nil, false_or, or_assoc]
theorem dst_nodup (l : List UInt8) : (dstN l).Nodup := (dst_aux l [] List.nodup_nil).1
theorem dst_mem {l : List UInt8} {y : UInt8} : y ∈ dstN l ↔ y ∈ l := ((dst_aux l [] List.nodup_nil).2 y).trans (by simp)
theorem dst_succ {l : List UInt8} {j : Nat} {x : UInt8} (h : l[j]? = some x) : dstN (l.take (j + 1)) = if x ∈ l.take j then dstN (l.take j) else dstN (l.take j) ++ [x] := by
  have e : dstN (l.take (j + 1)) = if x ∈ dstN (l.take j) then dstN (l.take j) else dstN (l.take j) ++ [x] := by
    unfold dstN
    rw [take_succ' h, List.foldl_append]
    rfl
  rw [e]
  simp only [dst_mem]
def keysD (l : List UInt8) : List PairK := (dstN l).map fun x => ((0 : Int), (x.toNat : Int))
theorem keysD_nodup (l : List UInt8) : (keysD l).Nodup := by
  have := dst_nodup l
  unfold keysD List.Nodup at *
  rw [List.pairwise_map]
  exact this.imp fun hab e => hab (UInt8.toNat_inj.1 (by have h9 : (_ : Int) = _ := congrArg Prod.snd e; simp only at h9; omega))
theorem keysD_nz (l : List UInt8) (k : PairK) : k ∈ keysD l ↔ ¬ zerosP (putC l l.length k) := by
  unfold putC
  rw [genC_nz]
  unfold keysD
  rw [List.take_length]
  simp only [List.mem_map, dst_mem]
  constructor
  · rintro ⟨x, hx, rfl⟩
    exact ⟨rfl, by simp, x, hx, by simp⟩
  · rintro ⟨h1, h2, x, hx, h3⟩
    exact ⟨x, hx, Prod.ext h1.symm (by show (x.toNat : Int) = k.2; omega)⟩
theorem keysD_len (l : List UInt8) : (keysD l).length = (dstN l).length := by simp [keysD]
theorem awake_keys (k : PairK) : k ∈ [((0 : Int), (7 : Int)), (1, 9)] ↔ ¬ zerosP (writeG 16 (writeG 16 (zeroC 16) (0, 7) 3 [1]) (1, 9) 0 [2] k) := by
  have e1 : writeG 16 (zeroC 16) (0, 7) 3 [1] = updC (zeroC 16) (0, 7) (spl (List.replicate 16 0) 3 [1]) := by
    unfold writeG; rw [if_pos (by decide)]; rfl
  have e2 : writeG 16 (writeG 16 (zeroC 16) (0, 7) 3 [1]) (1, 9) 0 [2] = updC (updC (zeroC 16) (0, 7) (spl (List.replicate 16 0) 3 [1])) (1, 9) (spl (List.replicate 16 0) 0 [2]) := by
    rw [e1]; unfold writeG; rw [if_pos (by decide)]; rfl
  rw [e2]
  simp only [List.mem_cons, List.not_mem_nil, or_false]
  unfold updC
  by_cases h1 : k = (1, 9)
  · rw [if_pos h1]; subst h1
    exact ⟨fun _ h => absurd (h 2 (by decide)) (by decide), fun _ => .inr rfl⟩
  · rw [if_neg h1]
    by_cases h2 : k = (0, 7)
    · rw [if_pos h2]; subst h2
      exact ⟨fun _ h => absurd (h 1 (by decide)) (by decide), fun _ => .inl rfl⟩
    · rw [if_neg h2]
      exact ⟨fun h => h.elim (fun h => absurd h h2) (fun h => absurd h h1), fun h => absurd zeros_of_rep h⟩
def encK (k : PairK) : List VP := [i64V k.1, i64V k.2]
instance : Enc 2 encK := ⟨fun _ => rfl, fun x q h => by simp only [encK, List.mem_cons, List.not_mem_nil, or_false] at h; rcases h with h | h <;> subst h <;> infer_instance⟩
theorem Post.retV {P : Program} {fn : Func} {c : Ctx} {γ : Type} {φ : γ → Prop} {hs' : γ → List HP} {q : γ → VP} {hs : List HP} {env : Env} (hr : fn.results = #[]) (g : γ) (hφ : φ g) (hh : ∀ F S w, Own hs F S w → Own (hs' g) F S w) (hq : q g = tupV []) (hdf : c.df = [] := by rfl) : EndT (Post P fn c φ hs' q) .ret c hs env :=
  Post.retR (rs := []) (qs := []) (by rw [hr]) rfl g hφ hh hq .nil hdf
theorem Post.retR0 {P : Program} {fn : Func} {c : Ctx} {γ : Type} {φ : γ → Prop} {hs' : γ → List HP} {q : γ → VP} {hs : List HP} {env : Env} (hr : fn.results = #[]) (g : γ) (hφ : φ g) (hh : ∀ F S w, Own hs F S w → Own (hs' g) F S w) (hq : q g = tupV []) (hdf : c.df = [] := by rfl) : EndT (Post P fn c φ hs' q) .normal c hs env :=
  fun a w hst => Post.retV hr g hφ hh hq hdf a w hst
end Go.Hl
