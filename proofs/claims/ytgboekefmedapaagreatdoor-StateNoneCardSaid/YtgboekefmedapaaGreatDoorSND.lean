/-
  What the statement's proof leans on, several texts in one (packed by a program).
-/
import Derived.Test.YtgboekefmedapaaGreatDoorSNC
import Derived.SizedLaws
import Derived.Below
import Derived.Carry
import Derived.ChangeArms
import Derived.ChangeOld
import Derived.DataReads
import Derived.OpenShut
set_option linter.all false
set_option maxRecDepth 1000000
set_option maxHeartbeats 4000000
section
namespace Go.Hl
open Go.RowKit
def Opn (P : Program) (t : TypeId) {α : Type} (enc : α → List VP) : Prop :=
 ∀ (H : Type) (en : TypeId × Value → H) (W : World) (fuel : Nat) (cs : List Value) (d : DataW H) (ps : List MemPlace), DataW.trod en P W 0 (fun _ => true) true fuel t cs = some (d, ps) →
  (∀ x ∈ d.weights P t, x ≤ reachBytes) → ∃ a : α, All2 (enc a) (fun k => k < W.heap.size) W cs
variable {S : BS} {w : World}
theorem All2.one {q : VP} {v : Value} (h : q.p S w v) : All2 [q] S w [v] := ⟨rfl, fun j p u hj hu => by
 cases j with
 | zero => simp at hj hu; subst hj; subst hu; exact h
 | succ j => simp at hj⟩
theorem All2.cat {ps qs : List VP} {us vs : List Value} (h : All2 ps S w us) (k : All2 qs S w vs) : All2 (ps ++ qs) S w (us ++ vs) :=
 ⟨by simp [h.1, k.1], fun j p v hj hv => by
  by_cases hl : j < ps.length
  · rw [List.getElem?_append_left hl] at hj
    rw [List.getElem?_append_left (h.1 ▸ hl)] at hv
    exact h.2 j p v hj hv
  · rw [List.getElem?_append_right (by omega)] at hj
    rw [List.getElem?_append_right (h.1 ▸ by omega), ← h.1] at hv
    exact k.2 _ p v hj hv⟩
theorem All2.nil : All2 [] S w [] := ⟨rfl, fun j p v hj _ => by simp at hj⟩
theorem Opn.int {P : Program} {t : TypeId} {k : IntKind} (ht : P.underlying t = some (.int k)) : Opn P t (fun n : Int => [intV k n]) := fun H en W fuel cs d ps h _ => by
 obtain ⟨n, rfl, _, hw⟩ := DataW.trod_int ht h
 exact ⟨n, .one rfl⟩
variable {P : Program}
theorem reach_at {H : Type} {ts : List TypeId} {ds : List (DataW H)} (h : (DataW.weightsEach P ts ds).all (· ≤ reachBytes) = true) {j : Nat} {t : TypeId} {d : DataW H} (ht : ts[j]? = some t) (hd : ds[j]? = some d) : ∀ x ∈ d.weights P t, x ≤ reachBytes :=
 fun x hx => by simpa using List.all_eq_true.1 h x (DataW.weights_mem_each ht hd x hx)
theorem arg_one {t : TypeId} {α : Type} {enc : α → List VP} {q : α → VP} (o : Opn P t enc) (hag : aggB P t = some false) (he : ∀ a, enc a = [q a]) {H : Type} {en : TypeId × Value → H} {W : World} {base : Nat} {v : Value} {d : DataW H} {ps : List MemPlace}
    (hv : Value.okWide P W .any base t v) (h : DataW.Trod en P W 0 (fun _ => true) true t v d ps) (hz : ∀ x ∈ d.weights P t, x ≤ reachBytes) : ∃ a, (q a).p (fun k => k < W.heap.size) W v := by
  have hcells : v.cells.toList = [v] := by
    cases v with
    | agg cs =>
      exfalso
      unfold aggB at hag
      unfold Value.okWide at hv
      cases hu : P.underlying t with
      | none => rw [hu] at hag; cases hag
      | some D =>
        rw [hu] at hv hag
        cases D <;> simp [Cell.okWide, Cell.ok, hu] at hv hag
    | _ => rfl
  obtain ⟨fuel, h⟩ := h
  rw [hcells] at h
  obtain ⟨a, ha⟩ := o H en W fuel _ d ps h hz
  rw [he a] at ha
  exact ⟨a, ha.2 0 _ _ rfl rfl⟩
theorem law_calls {f : FuncId} {ps : List VP} (h : FnP P f ps (propV True)) {W : World} {vs : Array Value} (ha : All2 ps (fun k => k < W.heap.size) W vs.toList) :
    Calls P f vs W fun e W' => e = .returned (.bool true) ∧ Below W.heap.size W W' := by
  refine (h W (fun k => k < W.heap.size) (fun _ => False) vs (fun _ h => h) (fun _ h => h.elim) (fun _ _ h => h.elim) trivial ha).mono fun e W' ⟨v, S', F', g, he, hsit, _, _, hq⟩ => ?_
  obtain ⟨b, rfl, hb⟩ := hq
  have : b = true := hb.2 trivial
  subst this
  exact ⟨he, hsit.os, hsit.tape, hsit.output, hsit.size, fun k hk => hsit.kept k hk (fun h => h.elim)⟩
end Go.Hl
end
