/-
  What the statement's proof leans on, several texts in one (packed by a program).
-/
import Derived.Test.YtgboekefmedapaaGreatDoorSNF
import Derived.Laws.LoneSync
set_option linter.all false
set_option maxRecDepth 1000000
set_option maxHeartbeats 4000000
section
namespace Go.Hl
open Go.RowKit
def ownH (l : List HP) : HP := ⟨fun F S w => Own l F S w, fun h1 h2 h3 h4 h => Own.mono h1 h2 h3 h4 h⟩
variable {α : Type}
def exH (f : α → HP) : HP := ⟨fun F S w => ∃ a, (f a).p F S w, fun h1 h2 h3 h4 ⟨a, h⟩ => ⟨a, (f a).mono h1 h2 h3 h4 h⟩⟩
def pureH (p : Prop) : HP := ⟨fun _ _ _ => p, fun _ _ _ _ h => h⟩
theorem OLe.refl (hs : List HP) : OLe hs hs := fun _ _ _ h => h
variable {a : List HP} {b : List HP}
theorem OLe.trans {c : List HP} (h : OLe a b) (k : OLe b c) : OLe a c := fun F S w x => k F S w (h F S w x)
theorem OLe.perm {a b : List HP} (h : a.Perm b) : OLe a b := fun _ _ _ x => x.perm h
theorem OLe.cons (h0 : HP) (h : OLe a b) : OLe (h0 :: a) (h0 :: b) := fun F S w ⟨F1, F2, h1, h2, h3, h4⟩ => ⟨F1, F2, h1, h2, h3, h _ _ _ h4⟩
variable {r : List HP}
theorem OLe.pack {l : List HP} : OLe (l ++ r) (ownH l :: r) := fun F S w h => by
 obtain ⟨F1, F2, h1, h2, h3, h4⟩ := Own.append.1 h
 exact ⟨F1, F2, h1, h2, h3, h4⟩
theorem OLe.unpack {l : List HP} : OLe (ownH l :: r) (l ++ r) := fun F S w ⟨F1, F2, h1, h2, h3, h4⟩ => Own.append.2 ⟨F1, F2, h1, h2, h3, h4⟩
theorem OLe.ex {f : α → HP} (a : α) : OLe (f a :: r) (exH f :: r) := fun F S w ⟨F1, F2, h1, h2, h3, h4⟩ => ⟨F1, F2, h1, h2, ⟨a, h3⟩, h4⟩
theorem OLe.pure {p : Prop} (h : p) : OLe r (pureH p :: r) := fun F S w x => ⟨fun _ => False, F, fun _ h => h.elim, fun _ h => h, h, x⟩
def permB : List Nat → List Nat → Bool
 | [], l => l.isEmpty
 | i :: ix, l => l.contains i && permB ix (l.erase i)
theorem permB_perm : ∀ {a b : List Nat}, permB a b = true → a.Perm b
 | [], b, h => by simp [permB] at h; subst h; exact .refl _
 | i :: ix, b, h => by
  simp only [permB, Bool.and_eq_true, List.contains_iff_mem] at h
  exact ((permB_perm h.2).cons i).trans (List.perm_cons_erase h.1).symm
theorem Perm.idx {hs hs' : List α} (ix : List Nat) (h1 : ix.filterMap (fun i => hs[i]?) = hs') (h2 : permB (List.range hs.length) ix = true) : hs.Perm hs' := by
 have e : (List.range hs.length).filterMap (fun i => hs[i]?) = hs := by
  have : ∀ (l : List α) (k : Nat) (pre : List α), pre.length = k → (List.range' k l.length).filterMap (fun i => (pre ++ l)[i]?) = l := by
   intro l
   induction l with
   | nil => intro k pre _; rfl
   | cons a l ih =>
    intro k pre hp
    rw [List.length_cons, List.range'_succ, List.filterMap_cons]
    have : (pre ++ a :: l)[k]? = some a := by rw [List.getElem?_append_right (by omega)]; simp [hp]
    rw [this]
    have h3 := ih (k + 1) (pre ++ [a]) (by simp [hp])
    simp only [List.append_assoc, List.singleton_append] at h3
    rw [h3]
  have h4 := this hs 0 [] rfl
  rw [List.range_eq_range']
  simpa using h4
 rw [← h1]
 conv => lhs; rw [← e]
 exact (permB_perm h2).filterMap _
theorem OLe.left : OLe (a ++ b) a := fun F S w h => by
 obtain ⟨F1, F2, h1, h2, h3, h4⟩ := Own.append.1 h
 exact h3.mono (fun k hk => (h1 k hk).1) (fun _ h => h) (fun _ _ => rfl) (fun _ _ => rfl)
theorem OLe.sel {hs hs' : List HP} (ix rest : List Nat) (h1 : ix.filterMap (fun i => hs[i]?) = hs') (h2 : permB (List.range hs.length) (ix ++ rest) = true) : OLe hs hs' := by
 have h := Perm.idx (hs := hs) (ix ++ rest) rfl h2
 rw [List.filterMap_append, h1] at h
 exact (OLe.perm h).trans OLe.left
section
variable {P : Program} {hs : List HP} {env : Env} {q : VP} {dst : Option Tmp} {ty T T' E K V : TypeId} {pos : String} {after : Array Edge} {gd : Option (Nat × Bool)} {x y z : Operand}
theorem CodeT.own {Q : Exit → Act → World → Prop} {c : Ctx} {s : Code} {hs' : List HP} (h : OLe hs hs') (k : CodeT P Q c s hs' env) : CodeT P Q c s hs env := fun a w ⟨h1, h2, S, F, h3, h4, h5⟩ => k a w ⟨h1, h2, S, F, h3, h _ _ _ h4, h5⟩
theorem EndT.own {Q : Exit → Act → World → Prop} {c : Ctx} {e : Exit} {hs' : List HP} (h : OLe hs hs') (k : EndT Q e c hs' env) : EndT Q e c hs env := fun a w ⟨h1, h2, S, F, h3, h4, h5⟩ => k a w ⟨h1, h2, S, F, h3, h _ _ _ h4, h5⟩
theorem CodeT.opens {Q : Exit → Act → World → Prop} {c : Ctx} {s : Code} {α : Type} {f : α → HP} {r : List HP} (k : ∀ a, CodeT P Q c s (f a :: r) env) : CodeT P Q c s (exH f :: r) env := fun a w ⟨h1, h2, S, F, h3, ⟨F1, F2, f1, f2, ⟨b, f3⟩, f4⟩, h5⟩ => k b a w ⟨h1, h2, S, F, h3, ⟨F1, F2, f1, f2, f3, f4⟩, h5⟩
theorem CodeT.pureH {Q : Exit → Act → World → Prop} {c : Ctx} {s : Code} {p : Prop} {r : List HP} (k : p → CodeT P Q c s r env) : CodeT P Q c s (pureH p :: r) env := fun a w ⟨h1, h2, S, F, h3, ⟨F1, F2, f1, f2, f3, f4⟩, h5⟩ => k f3 a w ⟨h1, h2, S, F, h3, f4.mono f2 (fun _ h => h) (fun _ _ => rfl) (fun _ _ => rfl), h5⟩
def zeroV1 (P : Program) (T : TypeId) : Option Value := (P.info? T).bind fun i => i.zero
theorem run_zv {v : Value} (h : zeroV1 P T = some v) (w : World) : (zeroValue T).run P w = .ok v w := by
 unfold zeroV1 at h
 cases hi : P.info? T with
 | none => simp [hi] at h
 | some i =>
  simp only [hi, Option.bind_some] at h
  simp [zeroValue, typeInfo, hi, h]
theorem OpE.same {o : Oper} {γ : Type} {φ : γ → Prop} {hs' : γ → List HP} {q : γ → VP} {q' : VP} (h : OpE P hs env o φ hs' q) (hl : ∀ g, φ g → OLe (hs' g) hs) (hq : ∀ g, φ g → VLe (q g) q') : OpE P hs env o (γ := Unit) (fun _ => True) (fun _ => hs) (fun _ => q') :=
 fun c a w S F h1 h2 h3 K Q hk => h c a w S F h1 h2 h3 K Q fun g v w' S' F' hφ hs hS hag ho hqv => hk () v w' S' F' trivial hs hS hag (hl g hφ _ _ _ ho) (hq g hφ _ _ _ hqv)
theorem SeqT.ge {ops : Array Oper} {Q : Exit → Act → World → Prop} {c : Ctx} {l : List Oper} {o : Oper} {d : Tmp} {j : Nat} {want : Bool} {t : Tmp} {c0 p : Prop} (hl : look env t = some (whenV c0 (propV p)) ∨ (look env t = some (propV p) ∧ c0 = True)) (hog : o.guard = some (j, want)) (hj : (ops[j]?).bind (·.dst) = some t) (ht : Nat.blt t c.n = true)
    (h : (c0 ∧ (if want then p else ¬ p)) → OpE P hs env o (γ := Unit) (fun _ => True) (fun _ => hs) (fun _ => q)) (hod : o.dst = some d) (hd : Nat.blt d c.n = true) (k : SeqT P ops Q c l hs ((d, whenV (c0 ∧ (if want then p else ¬ p)) q) :: env)) : SeqT P ops Q c (o :: l) hs env := by
  intro a w hst
  obtain ⟨h1, h2, S, F, h3, h4, h5⟩ := hst
  refine wpListIn_step fun K hK => ?_
  have ht' : t < a.tmps.size := by rw [h2]; simpa using ht
  have h6 : a.tmps[t]? = some (a.tmps.getD t undef) := by simp [ht']
  have hk : ∀ v w' S' F', Sit c w' S' F' → (∀ k, S k → S' k) → (∀ k, S k → w'.heap[k]? = w.heap[k]?) → Own hs F' S' w' → (whenV (c0 ∧ (if want then p else ¬ p)) q).p S' w' v → K (a.put o.dst v) w' := fun v w' S' F' k1 k2 k3 k4 k5 => hK _ _ (k _ _ ⟨by rw [Act.defers_put]; exact h1, by rw [Act.size_put]; exact h2, S', F', k1, k4, by rw [hod]; exact (h5.mono k2 k3).put k5 (by rw [h2]; simpa using hd)⟩)
  have hb : (c0 ∧ ∃ b, a.tmps.getD t undef = .bool b ∧ (b = true ↔ p)) ∨ (¬ c0 ∧ a.tmps.getD t undef = undef) := by
    rcases hl with hl | ⟨hl, hc⟩
    · exact OpG.auxW hl S w a.tmps h5
    · exact .inl ⟨hc ▸ trivial, h5 t _ hl⟩
  rcases hb with ⟨hc, b, hb, hbp⟩ | ⟨hc, hu⟩
  · have hy : yielded ops a.tmps j = some b := by
      unfold yielded; rw [hj]; simp only [Option.bind_some, h6, hb]
    by_cases hw : b = want
    · have hp : (if want then p else ¬ p) := by
        cases want
        · simp at hw ⊢; intro hp'; rw [hbp.2 hp'] at hw; cases hw
        · simpa using hbp.1 hw
      rw [if_pos (by simp [Region.wanted, hog, hy, hw])]
      exact Oper.wp_in ((h ⟨hc, hp⟩).noDefer h3 h4 h5) (h ⟨hc, hp⟩ c a w S F h3 h4 h5 K Q fun g v w' S' F' _ k1 k2 k3 k4 k5 => hk v w' S' F' k1 k2 k3 k4 ⟨fun _ => k5, fun hn => (hn ⟨hc, hp⟩).elim⟩)
    · have hp : ¬ (if want then p else ¬ p) := by
        cases want
        · simp at hw ⊢; exact hbp.1 hw
        · intro hp'; exact hw (hbp.2 (by simpa using hp'))
      rw [if_neg (by simp [Region.wanted, hog, hy, hw])]
      exact ⟨fun _ _ => trivial, hk _ _ S F h3 (fun _ h => h) (fun _ _ => rfl) h4 ⟨fun hn => (hp hn.2).elim, fun _ => rfl⟩⟩
  · have hy : yielded ops a.tmps j = none := by
      unfold yielded; rw [hj]; simp only [Option.bind_some, h6, hu]; rfl
    rw [if_neg (by simp [Region.wanted, hog, hy])]
    exact ⟨fun _ _ => trivial, hk _ _ S F h3 (fun _ h => h) (fun _ _ => rfl) h4 ⟨fun hn => (hc hn.1).elim, fun _ => rfl⟩⟩
theorem look_here (t : Nat) (q : VP) (e : Env) : look ((t, q) :: e) t = some q := by rw [look_cons, if_pos rfl]
theorem SeqT.egF {ops : Array Oper} {Q : Exit → Act → World → Prop} {c : Ctx} {l : List Oper} {o : Oper} {d : Tmp} {j : Nat} {t : Tmp} {p : Prop} (hl : look env t = some (propV p)) (hog : o.guard = some (j, false)) (hj : (ops[j]?).bind (·.dst) = some t) (ht : Nat.blt t c.n = true)
    (h : ¬ p → OpE P hs env o (γ := Unit) (fun _ => True) (fun _ => hs) (fun _ => q)) (hod : o.dst = some d) (hd : Nat.blt d c.n = true) (k : SeqT P ops Q c l hs ((d, whenV (¬ p) q) :: env)) : SeqT P ops Q c (o :: l) hs env := by
  have hr : (True ∧ (if (false : Bool) = true then p else ¬ p)) ↔ (¬ p) := ⟨fun h => by simpa using h.2, fun h => ⟨trivial, by simpa using h⟩⟩
  refine SeqT.ge (c0 := True) (p := p) (want := false) (.inr ⟨hl, rfl⟩) hog hj ht (fun h1 => h (hr.1 h1)) hod hd fun a w hst => k a w (hst.mono (EnvLeX.le (EnvLeX.cons (look_here _ _ _) (whenV.congr hr) ?_)))
  exact EnvLeX.skip (by simp) (EnvLeX.refl _ _)
end
def DrawF (P : Program) (l : List Oper) (n : Nat) (e0 : Env) (T : Done → List HP → Prop) (FR : List HP) : List (Nat × Nat) → Done → List HP → Prop
 | [], done, hs => T done hs
 | (i, 0) :: r, done, hs => ∃ o d q, l[i]? = some o ∧ o.dst = some d ∧ (∀ hs', OpG P l.toArray n hs' (avail o.after done ++ e0) o q) ∧ DrawF P l n e0 T FR r ((i, d, q) :: done) hs
 | (i, 1) :: r, done, hs => ∃ o d q, l[i]? = some o ∧ o.dst = some d ∧ (∀ hs', OLe hs' FR → OpG P l.toArray n hs' (avail o.after done ++ e0) o q) ∧ OLe hs FR ∧ DrawF P l n e0 T FR r ((i, d, q) :: done) hs
 | (i, 2) :: r, done, hs => ∃ (o : Oper) (d : Tmp), l[i]? = some o ∧ o.dst = some d ∧ o.guard = none ∧ ∃ (γ : Type) (φ : γ → Prop) (hs' : γ → List HP) (q : γ → VP), OpE P hs (avail o.after done ++ e0) o φ hs' q ∧ ∀ g, φ g → DrawF P l n e0 T FR r ((i, d, q g) :: done) (hs' g)
 | (i, 3) :: r, done, hs => ∃ (o : Oper), l[i]? = some o ∧ o.dst = none ∧ o.guard = none ∧ ∃ (γ : Type) (φ : γ → Prop) (hs' : γ → List HP) (q : γ → VP), OpE P hs (avail o.after done ++ e0) o φ hs' q ∧ ∀ g, φ g → DrawF P l n e0 T FR r ((i, n, unV) :: done) (hs' g)
 | (i, 4) :: r, done, hs => ∃ (o : Oper) (d : Tmp), l[i]? = some o ∧ o.dst = some d ∧ o.guard = none ∧ ∃ (γ : Type) (φ : γ → Prop) (hs' : γ → List HP) (q : γ → VP), OpE P hs (avail o.after done ++ e0) o φ hs' q ∧ (∀ g, φ g → OLe (hs' g) FR) ∧ ∀ g, φ g → DrawF P l n e0 T FR r ((i, d, q g) :: done) (hs' g)
 | (_, _ + 5) :: _, _, _ => False
section
variable {P : Program} {l : List Oper} {n : Nat} {hs : List HP} {e0 : Env} {T : Done → List HP → Prop} {FR : List HP} {Q : Exit → Act → World → Prop} {c : Ctx} {done : Done} {r : List (Nat × Nat)} {i : Nat}
theorem DrawF.p {d : Tmp} {q : VP} {op : Op} {ty : TypeId} {pos : String} {after : Array Edge} (ho : l[i]? = some ⟨some d, op, ty, pos, after, none⟩)
    (h : ∀ hs', OpP P hs' (avail after done ++ e0) ⟨some d, op, ty, pos, after, none⟩ q) (k : DrawF P l n e0 T FR r ((i, d, q) :: done) hs) : DrawF P l n e0 T FR ((i, 0) :: r) done hs :=
  ⟨_, d, q, ho, rfl, fun hs' => OpG.plain (h hs') rfl, k⟩
theorem DrawF.g {d : Tmp} {q : VP} {op : Op} {ty : TypeId} {pos : String} {after : Array Edge} {gd : Option (Nat × Bool)} (ho : l[i]? = some ⟨some d, op, ty, pos, after, gd⟩)
    (h : ∀ hs', OpG P l.toArray n hs' (avail after done ++ e0) ⟨some d, op, ty, pos, after, gd⟩ q) (k : DrawF P l n e0 T FR r ((i, d, q) :: done) hs) : DrawF P l n e0 T FR ((i, 0) :: r) done hs :=
  ⟨_, d, q, ho, rfl, h, k⟩
end
end Go.Hl
end
