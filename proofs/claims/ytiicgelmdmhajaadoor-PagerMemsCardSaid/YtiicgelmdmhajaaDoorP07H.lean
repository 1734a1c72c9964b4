/-
  Two pagers over one arena: how they come to be; rules for guarded calls that turn something. No project text.
-/
import Derived.Test.YtiicgelmdmhajaaDoorP07E
import Derived.Test.YtiicgelmdmhajaaDoorHlR
namespace Go.Hl
open Go.RowKit
set_option linter.unusedVariables false

theorem intOf_hi (a : IntOf .i64) : a.1 ≤ 9223372036854775807 ∧ -9223372036854775808 ≤ a.1 := by
  have h := a.2
  have e1 : IntKind.i64.min = -9223372036854775808 := by decide
  have e2 : IntKind.i64.max = 9223372036854775807 := by decide
  simp [Lit.wf] at h
  omega
structure ActP where
  Kind : UInt8
  (Mem Page At N : IntOf .i64)
  B : List UInt8
def encAct (a : ActP) : List VP := [intV .u8 (a.Kind.toNat : Int), intV .i64 a.Mem.1, intV .i64 a.Page.1, intV .i64 a.At.1, intV .i64 a.N.1, sliceV 1 encU8 a.B]
instance : Enc 6 encAct := ⟨fun _ => rfl, fun x q h => by simp only [encAct, List.mem_cons, List.not_mem_nil, or_false] at h; rcases h with h | h | h | h | h | h <;> subst h <;> infer_instance⟩

section
variable {P : Program} {hs : List HP} {env : Env} {q : VP} {o : Oper} {dst : Option Tmp} {ty T T' : TypeId} {pos : String} {after : Array Edge} {gd : Option (Nat × Bool)} {x y : Operand}
theorem OpE.conv {γ : Type} {φ : γ → Prop} {hs' : γ → List HP} {q : γ → VP} {q' : VP} {hsX : List HP} (h : OpE P hs env o φ hs' q) (hl : ∀ g, φ g → OLe (hs' g) hsX) (hq : ∀ g, φ g → VLe (q g) q') : OpE P hs env o (γ := Unit) (fun _ => True) (fun _ => hsX) (fun _ => q') :=
  fun c a w S F h1 h2 h3 K Q hk => h c a w S F h1 h2 h3 K Q fun g v w' S' F' hφ hs hS hag ho hqv => hk () v w' S' F' trivial hs hS hag (hl g hφ _ _ _ ho) (hq g hφ _ _ _ hqv)
theorem SeqT.egI {ops : Array Oper} {Q : Exit → Act → World → Prop} {c : Ctx} {l : List Oper} {d : Tmp} {j : Nat} {t : Tmp} {p : Prop} (hsX : List HP) (hl : look env t = some (propV p)) (hog : o.guard = some (j, true)) (hj : (ops[j]?).bind (·.dst) = some t) (ht : Nat.blt t c.n = true)
    (h : p → OpE P hs env o (γ := Unit) (fun _ => True) (fun _ => hsX) (fun _ => q)) (hF : ¬ p → OLe hs hsX) (hod : o.dst = some d) (hd : Nat.blt d c.n = true) (k : SeqT P ops Q c l hsX ((d, whenV p q) :: env)) : SeqT P ops Q c (o :: l) hs env := by
  intro a w hst
  obtain ⟨h1, h2, S, F, h3, h4, h5⟩ := hst
  refine wpListIn_step fun K hK => ?_
  have ht' : t < a.tmps.size := by rw [h2]; simpa using ht
  have h6 : a.tmps[t]? = some (a.tmps.getD t undef) := by simp [ht']
  have hk : ∀ v w' S' F', Sit c w' S' F' → (∀ k, S k → S' k) → (∀ k, S k → w'.heap[k]? = w.heap[k]?) → Own hsX F' S' w' → (whenV p q).p S' w' v → K (a.put o.dst v) w' := fun v w' S' F' k1 k2 k3 k4 k5 => hK _ _ (k _ _ ⟨by rw [Act.defers_put]; exact h1, by rw [Act.size_put]; exact h2, S', F', k1, k4, by rw [hod]; exact (h5.mono k2 k3).put k5 (by rw [h2]; simpa using hd)⟩)
  obtain ⟨b, hb, hbp⟩ := h5 t _ hl
  have hy : yielded ops a.tmps j = some b := by
    unfold yielded; rw [hj]; simp only [Option.bind_some, h6, hb]
  by_cases hp : p
  · have hbt : b = true := hbp.2 hp
    rw [if_pos (by simp [Region.wanted, hog, hy, hbt])]
    exact Oper.wp_in ((h hp).noDefer h3 h4 h5) (h hp c a w S F h3 h4 h5 K Q fun g v w' S' F' _ k1 k2 k3 k4 k5 => hk v w' S' F' k1 k2 k3 k4 ⟨fun _ => k5, fun hn => (hn hp).elim⟩)
  · have hbt : b = false := by cases b with | false => rfl | true => exact absurd (hbp.1 rfl) hp
    rw [if_neg (by simp [Region.wanted, hog, hy, hbt])]
    exact ⟨fun _ _ => trivial, hk _ _ S F h3 (fun _ h => h) (fun _ _ => rfl) (hF hp _ _ _ h4) ⟨fun hn => (hp hn).elim, fun _ => rfl⟩⟩
/-- a number that is at most another one -/
def leV (n : Nat) : VP := ⟨fun _ _ v => ∃ r : Nat, r ≤ n ∧ v = .int .i64 (r : Int), fun _ _ h => h⟩
theorem opLeqX {n : Nat} {m : Int} (hx : Opd env x (leV n)) (hy : Opd env y (intV .i64 m)) (h : (n : Int) ≤ m) : OpP P hs env ⟨dst, .binOp .leq T x y T', ty, pos, after, gd⟩ (propV True) :=
  OpP.of_read fun ρ w S F _ he => by
    obtain ⟨r, hr, h1⟩ := he.o _ _ hx
    have h2 := he.o _ _ hy; simp only [exactV] at h2
    have h3 : (r : Int) ≤ m := by omega
    exact ⟨.bool true, by simp [execOp, h1, h2, go_sem, h3], true, rfl, by simp⟩
theorem opRemT {k : IntKind} {n m : Int} (hx : Opd env x (intV k n)) (hy : Opd env y (intV k m)) (h0 : m ≠ 0) : OpP P hs env ⟨dst, .binOp .rem T x y T', ty, pos, after, gd⟩ (intV k (n.tmod m)) :=
  OpP.of_read fun ρ w S F _ he => by
    have h1 := he.o _ _ hx; have h2 := he.o _ _ hy; simp only [exactV] at h1 h2
    exact ⟨.int k (n.tmod m), by simp [execOp, h1, h2, go_sem, Op.intDiv, h0], rfl⟩
end

/-! ### two of them are made -/
theorem InvZ.later {X : PgI} {z q m : Nat} {T : PgD → Prop} {p : PgD} {a1 a2 : ArD} {s : StD} {C : Cont} {c n : Nat} (h : InvZ X z q T p a1 s C m) {Y : ArI} (hT : ArT Y a1 a2 c n) (hY : X.Y = Y) (hi : X.hi ≤ a1.height) : InvZ X z q T p a2 s C m := by
  obtain ⟨D, h1, h2, h3⟩ := h.ex
  refine ⟨⟨D, h1, h2, { h3 with ok := { h3.ok with ar := hY ▸ hT.ok }, fr := fun j f hj hu => ?_ }⟩, h.sz, h.cp, h.cln⟩
  rw [hT.same, h3.fr j f hj hu]
  have := h3.ok.room f (List.mem_of_getElem? hj)
  omega
def anyT : PgD → Prop := fun _ => True
abbrev duoH (X1 X2 : PgI) (z q : Nat) (C1 C2 : Cont) (m1 m2 : Nat) : HP := pagH X1 z q anyT C1 m1 (partH X2 z q anyT C2 m2)
set_option maxHeartbeats 1000000 in
theorem duo_new {X1 X2 : PgI} {z q m1 m2 : Nat} {T1 T2 : PgD → Prop} {C1 C2 : Cont} {p1 p2 : PgD} {a : ArD} {s1 s2 : StD} (h1 : InvZ X1 z q T1 p1 a s1 C1 m1) (h2 : InvZ X2 z q T2 p2 a s2 C2 m2) (hA : ApartX X1 X2) :
    OLe (pagL X2 p2 a s2 ++ [pagerC X1 p1, pagerF X1 p1, pagerI X1 p1, pagerB X1 p1, storeH X1.sb s1]) [duoH X1 X2 z q C1 C2 m1 m2] := by
  have e1 : OLe ([pagerC X1 p1, pagerF X1 p1, pagerI X1 p1, pagerB X1 p1, storeH X1.sb s1]) [partH X1 z q anyT C1 m1 a] := fun F S w h =>
    ⟨F, fun _ => False, fun k hk => ⟨hk, id⟩, fun _ h => h.elim, ⟨(p1, s1), fun _ => False, F, fun _ h => h.elim, fun _ h => h, ⟨h1.ex, h1.sz, h1.cp, trivial⟩, h⟩, trivial⟩
  have e2 : OLe (pagL X2 p2 a s2 ++ [partH X1 z q anyT C1 m1 a]) [pagH X2 z q anyT C2 m2 (partH X1 z q anyT C1 m1)] := fun F S w h =>
    pag_close (r := []) (part_ok hA.symm) h2.ex.choose_spec.2.2.ok.ar (SameOut.refl _ _) (⟨h2.ex, h2.sz, h2.cp, trivial⟩ : InvZ X2 z q anyT p2 a s2 C2 m2) F S w (by simpa using h)
  exact (OLe.behind e1).trans (e2.trans (part_swap hA.Y.symm))
theorem part_less {X1 X2 : PgI} {z1 q1 m1 z q m m' : Nat} {T1 T : PgD → Prop} {C1 C : Cont} (hm : m ≤ m') {r : List HP} : OLe (pagH X1 z1 q1 T1 C1 m1 (partH X2 z q T C m) :: r) (pagH X1 z1 q1 T1 C1 m1 (partH X2 z q T C m') :: r) := fun F S w ⟨F1, F2, h1, h2, ⟨x, h3⟩, h4⟩ =>
  ⟨F1, F2, h1, h2, ⟨x, by
    obtain ⟨G1, G2, g1, g2, g3, g4⟩ := h3
    refine ⟨G1, G2, g1, g2, g3, OLe.behind (r := pagL X1 x.1 x.2.1 x.2.2) (a := [partH X2 z q T C m x.2.1]) ?_ _ _ _ g4⟩
    rintro F S w ⟨K1, K2, k1, k2, ⟨y, k3⟩, k4⟩
    refine ⟨K1, K2, k1, k2, ⟨y, ?_⟩, k4⟩
    obtain ⟨L1, L2, l1, l2, l3, l4⟩ := k3
    exact ⟨L1, L2, l1, l2, ⟨⟨l3.ex.choose, Nat.le_trans l3.ex.choose_spec.1 hm, l3.ex.choose_spec.2⟩, l3.sz, l3.cp, l3.cln⟩, l4⟩⟩, h4⟩

/-! ### what one memory holds -/
def memOf (x : ActP) : Int := if x.Mem.1.tmod 2 = 0 then 0 else 1
def sameM (C1 C2 : Cont) : Prop := ∀ g : Int, C2 (0, g) = C1 (0, g)
theorem sameM.read {C1 C2 : Cont} (h : sameM C1 C2) (z : Nat) (g at_ n : Int) : readG z C2 (0, g) at_ n = readG z C1 (0, g) at_ n := by
  unfold readG; rw [h g]
theorem sameM.write {C1 C2 : Cont} (h : sameM C1 C2) (z : Nat) (g at_ : Int) (ys : List UInt8) : sameM (writeG z C1 (0, g) at_ ys) (writeG z C2 (0, g) at_ ys) := fun k => by
  unfold writeG
  split
  · unfold updC
    by_cases e : ((0 : Int), k) = (0, g)
    · rw [if_pos e, if_pos e, h g]
    · rw [if_neg e, if_neg e]; exact h k
  · exact h k
theorem sameM.writeO {C1 C2 : Cont} (h : sameM C1 C2) (z : Nat) (g at_ : Int) (ys : List UInt8) : sameM (writeG z C1 (1, g) at_ ys) C2 := fun k => by
  unfold writeG
  split
  · unfold updC
    rw [if_neg (by intro e; simp at e)]; exact h k
  · exact h k
theorem sameM.drop {C1 C2 : Cont} (h : sameM C1 C2) (z : Nat) : sameM (dropG z C1 0) (dropG z C2 0) := fun k => by
  unfold dropG
  split
  · simp
  · exact h k
theorem sameM.dropO {C1 C2 : Cont} (h : sameM C1 C2) (z : Nat) : sameM (dropG z C1 1) C2 := fun k => by
  unfold dropG
  split
  · simp; exact h k
  · exact h k
end Go.Hl
