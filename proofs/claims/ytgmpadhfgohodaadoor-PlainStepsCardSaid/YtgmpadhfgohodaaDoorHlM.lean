/-
  Owned maps. No project text.
-/
import Derived.Test.YtgmpadhfgohodaaDoorHlU
import Derived.Test.YtgmpadhfgohodaaDoorHlT
namespace Go.Hl
open Go.RowKit
set_option linter.unusedVariables false

section
variable {P : Program} {hs : List HP} {env : Env} {q : VP} {dst : Option Tmp} {ty T T' K V : TypeId} {pos : String} {after : Array Edge} {gd : Option (Nat × Bool)} {x y z : Operand}

def findR (es : List MapEntry) (i : Option Nat) : Option (Nat × Value) := i.bind fun i => (es[i]?).map fun e => (i, e.val)
/-- keys that the map compares as their data -/
structure KeyT (P : Program) (K : TypeId) {κ : Type} [DecidableEq κ] (kenc : κ → Value) : Prop where
  check : ∀ (a : κ) (e : Bool) (w : World), (Instr.checkKey e 10000 K (kenc a)).run P w = .ok () w
  find : ∀ (a : κ) (es : List MapEntry) (ks : List κ) (w : World), es.map (·.key) = ks.map kenc → (Instr.findKey K (kenc a) es).run P w = .ok (findR es (ks.findIdx? fun k => decide (k = a))) w
  same : ∀ a : κ, Instr.sameBits 10000 (kenc a) (kenc a) = true

theorem KeyT.int {k : IntKind} (h : P.underlying K = some (.int k)) : KeyT P K (Value.int k) where
  check a e w := by unfold Instr.checkKey; rw [run_bind_ok (run_underlying h w)]; rfl
  same a := by unfold Instr.sameBits; simp
  find a es ks w hk := by
    have key : ∀ (es : List MapEntry) (ks : List Int) (i : Nat), es.map (·.key) = ks.map (Value.int k) → Instr.findNow (.int k) (.int k a) es i = some ((ks.findIdx? fun b => decide (b = a)).bind fun j => (es[j]?).map fun e => (i + j, e.val)) := by
      intro es
      induction es with
      | nil => intro ks i hk; cases ks with
        | nil => rfl
        | cons b ks => simp at hk
      | cons e es ih =>
        intro ks i hk
        cases ks with
        | nil => simp at hk
        | cons b ks =>
          simp only [List.map_cons, List.cons.injEq] at hk
          simp only [Instr.findNow, hk.1, Instr.sameNow, if_true]
          by_cases hab : a = b
          · subst hab; simp [List.findIdx?_cons]
          · have h1 : (a == b) = false := by simpa using hab
            have h2 : ¬ b = a := fun e => hab e.symm
            rw [h1]
            simp only [ih ks (i + 1) hk.2, List.findIdx?_cons, h2, decide_false, if_neg (Bool.false_ne_true)]
            cases ks.findIdx? (fun b => decide (b = a)) with
            | none => rfl
            | some j => simp [Nat.add_assoc, Nat.add_comm 1 j]
    have h0 := key es ks 0 hk
    simp only [Instr.findKey, run_bind_ok (run_underlying h w), h0]
    simp [findR]

/-- the entries' stamps: no two alike, each below the clock -/
def BornOk (es : Array MapEntry) (clock : Nat) : Prop := (es.toList.map (·.born)).Nodup ∧ ∀ e ∈ es.toList, e.born < clock
theorem BornOk.push {es : Array MapEntry} {clock : Nat} (h : BornOk es clock) (e : MapEntry) (he : e.born = clock) : BornOk (es.push e) (clock + 1) := by
  obtain ⟨h1, h2⟩ := h
  refine ⟨?_, fun x hx => ?_⟩
  · rw [Array.toList_push, List.map_append, List.nodup_append]
    refine ⟨h1, by simp, fun a ha b hb e1 => ?_⟩
    obtain ⟨x, hx, rfl⟩ := List.mem_map.1 ha
    have := h2 x hx
    simp at hb; omega
  · rw [Array.toList_push, List.mem_append] at hx
    rcases hx with hx | hx
    · have := h2 x hx; omega
    · simp at hx; subst hx; omega
theorem BornOk.same {es es' : Array MapEntry} {clock : Nat} (h : BornOk es clock) (he : es'.toList.map (·.born) = es.toList.map (·.born)) : BornOk es' clock :=
  ⟨he ▸ h.1, fun x hx => by
    have h3 : x.born ∈ es.toList.map (·.born) := he ▸ List.mem_map.2 ⟨x, hx, rfl⟩
    obtain ⟨y, hy, e⟩ := List.mem_map.1 h3
    rw [← e]; exact h.2 y hy⟩
theorem BornOk.sub {es es' : Array MapEntry} {clock : Nat} (h : BornOk es clock) (he : List.Sublist es'.toList es.toList) : BornOk es' clock :=
  ⟨h.1.sublist (he.map _), fun x hx => h.2 x (he.subset hx)⟩
/-- an owned map: its entries as they came -/
def mapH {κ ν : Type} [DecidableEq κ] (m : Nat) (kenc : κ → Value) (vq : ν → VP) (D : List (κ × ν)) : HP :=
  ⟨fun F S w => F m ∧ ∃ (es : Array MapEntry) (clock : Nat), w.heap[m]? = some (.map es clock) ∧ es.toList.map (·.key) = D.map (fun p => kenc p.1) ∧ (∀ (i : Nat) (p : κ × ν), D[i]? = some p → (∃ e, es[i]? = some e ∧ (vq p.2).p S w e.val)) ∧ BornOk es clock,
   fun h1 h2 h3 h4 ⟨hF, es, cl, hh, hk, hv, hb⟩ => ⟨h1 m hF, es, cl, (h3 m hF).trans hh, hk, fun i p hp => let ⟨e, he, hq⟩ := hv i p hp; ⟨e, he, (vq p.2).mono h2 h4 hq⟩, hb⟩⟩

theorem opMakeM {κ ν : Type} [DecidableEq κ] (kenc : κ → Value) (vq : ν → VP) : OpE P hs env ⟨dst, .makeMap T none, ty, pos, after, gd⟩ (γ := Nat) (fun _ => True) (fun m => mapH m kenc vq [] :: hs) (fun m => exactV (.map (some m))) := by
  intro c a w S F hsit hown he K Q hk
  have hr : (execOp a.eval ⟨dst, .makeMap T none, ty, pos, after, gd⟩).run P w = .ok (.value (.map (some w.heap.size))) { w with heap := w.heap.push (.map #[] 0) } := by
    simp [execOp, Instr.makeMap, newObj, Sem.run]
  unfold Oper.wp
  rw [hr]
  exact hk w.heap.size _ _ S _ trivial (hsit.newOwn _) (fun _ h => h) (fun k hk => heap_push_old w _ k (hsit.domS k hk)) (hown.newOwn hsit.domS hsit.domF _ ⟨rfl, #[], 0, by simp, rfl, fun i p h => (by simp at h), ⟨by simp, fun e he => (by simp at he)⟩⟩) rfl

def lookD {κ ν : Type} [DecidableEq κ] (D : List (κ × ν)) (a : κ) : Option ν := (D.find? fun p => decide (p.1 = a)).map (·.2)
def optV {ν : Type} (vq : ν → VP) (z : VP) : Option ν → VP
  | some v => vq v
  | none => z
theorem find_idx {κ ν : Type} [DecidableEq κ] (a : κ) : ∀ D : List (κ × ν), match (D.map (·.1)).findIdx? (fun k => decide (k = a)) with
    | none => lookD D a = none
    | some i => ∃ v, D[i]? = some (a, v) ∧ lookD D a = some v
  | [] => rfl
  | p :: D => by
    have ih := find_idx a D
    have hl : lookD (p :: D) a = if p.1 = a then some p.2 else lookD D a := by
      unfold lookD
      by_cases h : p.1 = a
      · rw [List.find?_cons_of_pos (by simpa using h), if_pos h]; rfl
      · rw [List.find?_cons_of_neg (by simpa using h), if_neg h]
    rw [hl, List.map_cons, List.findIdx?_cons]
    by_cases h : p.1 = a
    · rw [if_pos (by simpa using h), if_pos h]
      exact ⟨p.2, by rw [← h]; rfl, rfl⟩
    · rw [if_neg (by simpa using h), if_neg h]
      cases hf : (D.map (·.1)).findIdx? (fun k => decide (k = a)) with
      | none => rw [hf] at ih; exact ih
      | some i => rw [hf] at ih; simpa using ih
theorem keys_map {κ ν : Type} (kenc : κ → Value) (D : List (κ × ν)) : D.map (fun p => kenc p.1) = (D.map (·.1)).map kenc := by simp

theorem opLook {κ ν : Type} [DecidableEq κ] {kenc : κ → Value} {vq : ν → VP} {D : List (κ × ν)} {m i : Nat} {a : κ} {zs : Value} (hK : KeyT P K kenc) (hT : P.underlying T = some (.map K V)) (hz : ∀ w, (zeroValue V).run P w = .ok zs w)
    (hx : Opd env x (exactV (.map (some m)))) (hy : Opd env y (exactV (kenc a))) (hi : hs[i]? = some (mapH m kenc vq D)) : OpP P hs env ⟨dst, .lookup T x y false, ty, pos, after, gd⟩ (optV vq (exactV zs) (lookD D a)) :=
  OpP.of_read fun ρ w S F ho he => by
    have h1 := he.o _ _ hx; have h2 := he.o _ _ hy; simp only [exactV] at h1 h2
    obtain ⟨F1, _, _, es, cl, hh, hk, hv, _⟩ := ho.get hi
    have hck := hK.check a es.isEmpty w
    have hf := hK.find a es.toList (D.map (·.1)) w (hk.trans (keys_map kenc D))
    have hfi := find_idx a D
    cases hix : (D.map (·.1)).findIdx? (fun k => decide (k = a)) with
    | none =>
      rw [hix] at hf hfi
      refine ⟨zs, ?_, by rw [hfi]; rfl⟩
      simp only [findR, Option.bind_none] at hf
      simp [execOp, h1, h2, Instr.lookup, run_underlying hT, getObj, Sem.run, hh, hck, hf, hz w]
    | some j =>
      rw [hix] at hf hfi
      obtain ⟨v, hj, hl⟩ := hfi
      obtain ⟨e, he, hq⟩ := hv j _ hj
      refine ⟨e.val, ?_, by rw [hl]; exact hq⟩
      have he' : es.toList[j]? = some e := by simpa using he
      simp only [findR, Option.bind_some, he', Option.map_some] at hf
      simp [execOp, h1, h2, Instr.lookup, run_underlying hT, getObj, Sem.run, hh, hck, hf]
theorem opLookOk {κ ν : Type} [DecidableEq κ] {kenc : κ → Value} {vq : ν → VP} {D : List (κ × ν)} {m i : Nat} {a : κ} {zs : Value} (hK : KeyT P K kenc) (hT : P.underlying T = some (.map K V)) (hz : ∀ w, (zeroValue V).run P w = .ok zs w)
    (hx : Opd env x (exactV (.map (some m)))) (hy : Opd env y (exactV (kenc a))) (hi : hs[i]? = some (mapH m kenc vq D)) : OpP P hs env ⟨dst, .lookup T x y true, ty, pos, after, gd⟩ (tupV [optV vq (exactV zs) (lookD D a), propV ((lookD D a).isSome = true)]) :=
  OpP.of_read fun ρ w S F ho he => by
    have h1 := he.o _ _ hx; have h2 := he.o _ _ hy; simp only [exactV] at h1 h2
    obtain ⟨F1, _, _, es, cl, hh, hk, hv, _⟩ := ho.get hi
    have hck := hK.check a es.isEmpty w
    have hf := hK.find a es.toList (D.map (·.1)) w (hk.trans (keys_map kenc D))
    have hfi := find_idx a D
    have tup : ∀ (u : Value) (b : Bool), (optV vq (exactV zs) (lookD D a)).p S w u → (b = true ↔ (lookD D a).isSome = true) → (tupV [optV vq (exactV zs) (lookD D a), propV ((lookD D a).isSome = true)]).p S w (.tuple #[u, .bool b]) := fun u b hu hb =>
      ⟨_, rfl, rfl, fun j p v hj hv => by
        match j, hj, hv with
        | 0, hj, hv => simp at hj hv; subst hj; subst hv; exact hu
        | 1, hj, hv => simp at hj hv; subst hj; subst hv; exact ⟨b, rfl, hb⟩⟩
    cases hix : (D.map (·.1)).findIdx? (fun k => decide (k = a)) with
    | none =>
      rw [hix] at hf hfi
      refine ⟨.tuple #[zs, .bool false], ?_, tup _ _ (by rw [hfi]; rfl) (by simp [hfi])⟩
      simp only [findR, Option.bind_none] at hf
      simp [execOp, h1, h2, Instr.lookup, run_underlying hT, getObj, Sem.run, hh, hck, hf, hz w]
    | some j =>
      rw [hix] at hf hfi
      obtain ⟨v, hj, hl⟩ := hfi
      obtain ⟨e, he, hq⟩ := hv j _ hj
      refine ⟨.tuple #[e.val, .bool true], ?_, tup _ _ (by rw [hl]; exact hq) (by simp [hl])⟩
      have he' : es.toList[j]? = some e := by simpa using he
      simp only [findR, Option.bind_some, he', Option.map_some] at hf
      simp [execOp, h1, h2, Instr.lookup, run_underlying hT, getObj, Sem.run, hh, hck, hf]

/-- an owned object is turned -/
theorem OpE.turn {o : Oper} {c : Ctx} {a : Act} {w : World} {S F : BS} (hsit : Sit c w S F) (hown : Own hs F S w) {m i : Nat} {h0 h1 : HP} (hi : hs[i]? = some h0) (hF : ∀ F1 S w, h0.p F1 S w → F1 m) {ob : Obj} {v : Value} {Kp : Act → World → Prop} {Q : Exit → Act → World → Prop}
    (hr : (execOp a.eval o).run P w = .ok (.value v) (putO w m ob) ∨ (execOp a.eval o).run P w = .ok .skip (putO w m ob) ∧ o.dst = none) (hp : ∀ F1, h0.p F1 S w → h1.p F1 S (putO w m ob))
    (hk : ∀ w', Sit c w' S F → (∀ k, S k → w'.heap[k]? = w.heap[k]?) → Own (hs.set i h1) F S w' → Kp (a.put o.dst v) w') : o.wp P a w Kp Q := by
  obtain ⟨F1, F2, f1, f2, f3, _, f4⟩ := hown.upd hi
  have hFm := hF F1 S w f3
  have hne : ∀ k', k' ≠ m → (putO w m ob).heap[k']? = w.heap[k']? := fun k' hk' => by simp [putO, Array.getElem?_setIfInBounds_ne (fun e => hk' e.symm)]
  have hag : ∀ k', S k' → (putO w m ob).heap[k']? = w.heap[k']? := fun k' hk' => hne k' (fun e => hsit.disj k' hk' (e ▸ (f1 m hFm).1))
  have hO : Own (hs.set i h1) F S (putO w m ob) := by
    have := f4 S F1 (putO w m ob) h1 (fun k hk => (f1 k hk).2) (fun _ h => h) (fun k hk => hne k (fun e => (f1 m hFm).2 (e ▸ hk))) hag (hp F1 f3)
    exact this.mono (fun k hk => hk.elim (fun h => (f1 k h).1) (f2 k)) (fun _ h => h) (fun _ _ => rfl) (fun _ _ => rfl)
  have hS : Sit c (putO w m ob) S F := hsit.write (f1 m hFm).1 rfl rfl rfl (by simp [putO]) hne
  unfold Oper.wp
  rcases hr with hr | ⟨hr, hd⟩
  · rw [hr]; exact hk _ hS hag hO
  · rw [hr]
    have h9 := hk _ hS hag hO
    show Kp (a.put o.dst undef) _
    rw [hd] at h9 ⊢; exact h9

def updD {κ ν : Type} [DecidableEq κ] (D : List (κ × ν)) (a : κ) (v : ν) : List (κ × ν) := match (D.map (·.1)).findIdx? (fun k => decide (k = a)) with
  | some i => D.set i (a, v)
  | none => D ++ [(a, v)]
def delD {κ ν : Type} [DecidableEq κ] (D : List (κ × ν)) (a : κ) : List (κ × ν) := match (D.map (·.1)).findIdx? (fun k => decide (k = a)) with
  | some i => D.eraseIdx i
  | none => D

theorem map_find {κ ν : Type} [DecidableEq κ] {kenc : κ → Value} {D : List (κ × ν)} {a : κ} (hK : KeyT P K kenc) {es : Array MapEntry} (hk : es.toList.map (·.key) = D.map (fun p => kenc p.1)) (w' : World) :
    (Instr.findKey K (kenc a) es.toList).run P w' = .ok (findR es.toList ((D.map (·.1)).findIdx? fun k => decide (k = a))) w' := hK.find a es.toList (D.map (·.1)) w' (hk.trans (keys_map kenc D))

theorem opUpd {κ ν : Type} [DecidableEq κ] {kenc : κ → Value} {vq : ν → VP} {D : List (κ × ν)} {m i : Nat} {a : κ} (v : ν) (hK : KeyT P K kenc) (hT : P.underlying T = some (.map K V))
    (hx : Opd env x (exactV (.map (some m)))) (hy : Opd env y (exactV (kenc a))) (hz : Opd env z (vq v)) (hi : hs[i]? = some (mapH m kenc vq D)) :
    OpE P hs env ⟨none, .mapUpdate T x y z, ty, pos, after, gd⟩ (γ := Unit) (fun _ => True) (fun _ => hs.set i (mapH m kenc vq (updD D a v))) (fun _ => exactV undef) := by
  intro c ac w S F hsit hown he Kp Q hk
  have h1 := hx S w ac he; have h2 := hy S w ac he; simp only [exactV] at h1 h2
  have h3 := hz S w ac he
  obtain ⟨F0, _, hp0⟩ := hown.get hi
  obtain ⟨_, es, cl, hh, hke, hv, hbo⟩ := hp0
  have hck := hK.check a false w
  have hf := map_find (a := a) hK hke w
  have hsm := hK.same a
  have hlen : es.size = D.length := by have := congrArg List.length hke; simpa using this
  have hfi := find_idx a D
  cases hix : (D.map (·.1)).findIdx? (fun k => decide (k = a)) with
  | none =>
    rw [hix] at hf hfi
    simp only [findR, Option.bind_none] at hf
    refine OpE.turn (v := undef) (ob := .map (es.push { key := kenc a, val := ac.eval z, born := cl }) (cl + 1)) (h1 := mapH m kenc vq (updD D a v)) hsit hown hi (fun F1 S w h => h.1) (.inr ⟨?_, rfl⟩) (fun F1 hp => ?_) (fun w' hS hag hO => hk () _ _ S F trivial hS (fun _ h => h) hag hO rfl)
    · simp [execOp, h1, h2, Instr.mapUpdate, run_underlying hT, getObj, setObj, Sem.run, hh, hck, hf, putO]
    · refine ⟨hp.1, es.push { key := kenc a, val := ac.eval z, born := cl }, cl + 1, by simp [putO, (Array.getElem?_eq_some_iff.1 hh).1], ?_, fun j p hj => ?_, hbo.push _ rfl⟩
      · unfold updD; rw [hix]; simp [hke]
      · have hup : updD D a v = D ++ [(a, v)] := by unfold updD; rw [hix]
        have hag : ∀ k, S k → (putO w m (.map (es.push { key := kenc a, val := ac.eval z, born := cl }) (cl + 1))).heap[k]? = w.heap[k]? := fun k hk => by
          have hkm : k ≠ m := fun e => by
            obtain ⟨F1', F2', f1, _, f3, _⟩ := hown.upd hi
            exact hsit.disj k hk (e ▸ (f1 m f3.1).1)
          simp [putO, Array.getElem?_setIfInBounds_ne (fun e => hkm e.symm)]
        rw [hup] at hj
        rcases Nat.lt_or_ge j D.length with h | h
        · rw [List.getElem?_append_left h] at hj
          obtain ⟨e, he1, hq⟩ := hv j p hj
          exact ⟨e, by rw [Array.getElem?_push_lt (by omega)]; rw [← he1]; exact (Array.getElem?_eq_getElem (by omega)).symm, (vq p.2).mono (fun _ h => h) hag hq⟩
        · rw [List.getElem?_append_right h] at hj
          have hj0 : j = D.length := by
            have := (List.getElem?_eq_some_iff.1 hj).1
            simp at this; omega
          subst hj0
          simp at hj; subst hj
          exact ⟨{ key := kenc a, val := ac.eval z, born := cl }, by rw [← hlen]; simp, (vq v).mono (fun _ h => h) hag h3⟩
  | some j =>
    rw [hix] at hf hfi
    obtain ⟨v0, hj, hl⟩ := hfi
    obtain ⟨e, he1, hq0⟩ := hv j _ hj
    have he' : es.toList[j]? = some e := by simpa using he1
    have hjs : j < es.size := (Array.getElem?_eq_some_iff.1 he1).1
    have hek : e.key = kenc a := by
      have := congrArg (fun l => l[j]?) hke
      simp only [List.getElem?_map, he', hj, Option.map_some, Option.some.injEq] at this
      exact this
    simp only [findR, Option.bind_some, he', Option.map_some] at hf
    have hup : updD D a v = D.set j (a, v) := by unfold updD; rw [hix]
    refine OpE.turn (v := undef) (ob := .map (es.modify j fun e => { e with key := kenc a, val := ac.eval z }) cl) (h1 := mapH m kenc vq (updD D a v)) hsit hown hi (fun F1 S w h => h.1) (.inr ⟨?_, rfl⟩) (fun F1 hp => ?_) (fun w' hS hag hO => hk () _ _ S F trivial hS (fun _ h => h) hag hO rfl)
    · simp [execOp, h1, h2, Instr.mapUpdate, run_underlying hT, getObj, setObj, Sem.run, hh, hck, hf, putO, he1, hek, Instr.keyThatStays, hsm]
    · have hag : ∀ k, S k → (putO w m (.map (es.modify j fun e => { e with key := kenc a, val := ac.eval z }) cl)).heap[k]? = w.heap[k]? := fun k hk => by
        have hkm : k ≠ m := fun e => by
          obtain ⟨F1', F2', f1, _, f3, _⟩ := hown.upd hi
          exact hsit.disj k hk (e ▸ (f1 m f3.1).1)
        simp [putO, Array.getElem?_setIfInBounds_ne (fun e => hkm e.symm)]
      refine ⟨hp.1, es.modify j fun e => { e with key := kenc a, val := ac.eval z }, cl, by simp [putO, (Array.getElem?_eq_some_iff.1 hh).1], ?_, fun t p ht => ?_, hbo.same (List.ext_getElem? fun t => ?_)⟩
      · rw [hup]
        apply List.ext_getElem?
        intro t
        have := congrArg (fun l => l[t]?) hke
        simp only [List.getElem?_map] at this ⊢
        simp only [Array.getElem?_toList, Array.getElem?_modify, List.getElem?_set] at this ⊢
        by_cases htj : j = t
        · subst htj
          rw [if_pos rfl, if_pos rfl, he1]
          have : j < D.length := by omega
          simp [this]
        · rw [if_neg htj, if_neg htj]; exact this
      · rw [hup, List.getElem?_set] at ht
        by_cases htj : j = t
        · subst htj
          rw [if_pos rfl, if_pos (by omega)] at ht
          cases ht
          exact ⟨_, by rw [Array.getElem?_modify, if_pos rfl, he1]; rfl, (vq v).mono (fun _ h => h) hag h3⟩
        · rw [if_neg htj] at ht
          obtain ⟨e2, he2, hq2⟩ := hv t p ht
          exact ⟨e2, by rw [Array.getElem?_modify, if_neg htj]; exact he2, (vq p.2).mono (fun _ h => h) hag hq2⟩
      · simp only [List.getElem?_map, Array.getElem?_toList, Array.getElem?_modify]
        by_cases htj : j = t
        · subst htj; rw [if_pos rfl, he1]; rfl
        · rw [if_neg htj]

theorem opDel {κ ν : Type} [DecidableEq κ] {kenc : κ → Value} {vq : ν → VP} {D : List (κ × ν)} {m i : Nat} {a : κ} {ats : Array TypeId} (hat : ats[0]? = some T) (hK : KeyT P K kenc) (hT : P.underlying T = some (.map K V))
    (hx : Opd env x (exactV (.map (some m)))) (hy : Opd env y (exactV (kenc a))) (hi : hs[i]? = some (mapH m kenc vq D)) :
    OpE P hs env ⟨dst, .call ⟨.builtin .delete, #[x, y], ats⟩, ty, pos, after, gd⟩ (γ := Unit) (fun _ => True) (fun _ => hs.set i (mapH m kenc vq (delD D a))) (fun _ => tupV []) := by
  intro c ac w S F hsit hown he Kp Q hk
  have h1 := hx S w ac he; have h2 := hy S w ac he; simp only [exactV] at h1 h2
  obtain ⟨F0, _, hp0⟩ := hown.get hi
  obtain ⟨_, es, cl, hh, hke, hv, hbo⟩ := hp0
  have hck := hK.check a es.isEmpty w
  have hf := map_find (a := a) hK hke w
  have hlen : es.size = D.length := by have := congrArg List.length hke; simpa using this
  have hfi := find_idx a D
  have htup : (tupV []).p S w (.tuple #[]) := ⟨#[], rfl, rfl, fun j p v hj => by simp at hj⟩
  have htup' : ∀ w', (tupV []).p S w' (.tuple #[]) := fun w' => ⟨#[], rfl, rfl, fun j p v hj => by simp at hj⟩
  have hagx : ∀ (ob : Obj) k, S k → (putO w m ob).heap[k]? = w.heap[k]? := fun ob k hk => by
    have hkm : k ≠ m := fun e => by
      obtain ⟨F1', F2', f1, _, f3, _⟩ := hown.upd hi
      exact hsit.disj k hk (e ▸ (f1 m f3.1).1)
    simp [putO, Array.getElem?_setIfInBounds_ne (fun e => hkm e.symm)]
  have hms : m < w.heap.size := (Array.getElem?_eq_some_iff.1 hh).1
  cases hix : (D.map (·.1)).findIdx? (fun k => decide (k = a)) with
  | none =>
    rw [hix] at hf hfi
    simp only [findR, Option.bind_none] at hf
    have hup : delD D a = D := by unfold delD; rw [hix]
    refine OpE.turn (v := .tuple #[]) (ob := .map es cl) (h1 := mapH m kenc vq (delD D a)) hsit hown hi (fun F1 S w h => h.1) (.inl ?_) (fun F1 hp => ?_) (fun w' hS hag hO => hk () _ _ S F trivial hS (fun _ h => h) hag hO (htup' _))
    · simp [execOp, resolve, invoke, builtin, Builtin.delete_, hat, h1, h2, run_underlying hT, getObj, setObj, Sem.run, hh, hck, hf, putO]
    · rw [hup]
      exact ⟨hp.1, es, cl, by simp [putO, hms], hke, fun j p hj => let ⟨e, he1, hq⟩ := hv j p hj; ⟨e, he1, (vq p.2).mono (fun _ h => h) (hagx _) hq⟩, hbo⟩
  | some j =>
    rw [hix] at hf hfi
    obtain ⟨v0, hj, hl⟩ := hfi
    obtain ⟨e, he1, hq0⟩ := hv j _ hj
    have he' : es.toList[j]? = some e := by simpa using he1
    have hjs : j < es.size := (Array.getElem?_eq_some_iff.1 he1).1
    simp only [findR, Option.bind_some, he', Option.map_some] at hf
    have hup : delD D a = D.eraseIdx j := by unfold delD; rw [hix]
    refine OpE.turn (v := .tuple #[]) (ob := .map (es.eraseIdxIfInBounds j) cl) (h1 := mapH m kenc vq (delD D a)) hsit hown hi (fun F1 S w h => h.1) (.inl ?_) (fun F1 hp => ?_) (fun w' hS hag hO => hk () _ _ S F trivial hS (fun _ h => h) hag hO (htup' _))
    · simp [execOp, resolve, invoke, builtin, Builtin.delete_, hat, h1, h2, run_underlying hT, getObj, setObj, Sem.run, hh, hck, hf, putO]
    · have hel : (es.eraseIdxIfInBounds j).toList = es.toList.eraseIdx j := by
        unfold Array.eraseIdxIfInBounds; rw [dif_pos hjs]; simp
      refine ⟨hp.1, es.eraseIdxIfInBounds j, cl, by simp [putO, hms], ?_, fun t p ht => ?_, hbo.sub (by rw [hel]; exact List.eraseIdx_sublist _ _)⟩
      · rw [hup, hel]
        have hme : ∀ {α β : Type} (g : α → β) (l : List α) (i : Nat), (l.eraseIdx i).map g = (l.map g).eraseIdx i := fun g l i => by
          apply List.ext_getElem?
          intro t
          simp only [List.getElem?_map, List.getElem?_eraseIdx]
          split <;> rfl
        rw [hme, hme, hke]
      · rw [hup, List.getElem?_eraseIdx] at ht
        have key : ∀ t', D[t']? = some p → (es.eraseIdxIfInBounds j)[t]? = es[t']? → ∃ e, (es.eraseIdxIfInBounds j)[t]? = some e ∧ (vq p.2).p S (putO w m (.map (es.eraseIdxIfInBounds j) cl)) e.val := fun t' hD he2 => by
          obtain ⟨e2, he3, hq2⟩ := hv t' p hD
          exact ⟨e2, he2.trans he3, (vq p.2).mono (fun _ h => h) (hagx _) hq2⟩
        have hget : (es.eraseIdxIfInBounds j)[t]? = if t < j then es[t]? else es[t + 1]? := by
          rw [← Array.getElem?_toList, hel, List.getElem?_eraseIdx]; simp
        by_cases htj : t < j
        · rw [if_pos htj] at ht hget; exact key t ht hget
        · rw [if_neg htj] at ht hget; exact key (t + 1) ht hget

theorem opLenM {κ ν : Type} [DecidableEq κ] {kenc : κ → Value} {vq : ν → VP} {D : List (κ × ν)} {m i : Nat} {ats : Array TypeId} (hat : ats[0]? = some T) (hT : P.underlying T = some (.map K V)) (hx : Opd env x (exactV (.map (some m)))) (hi : hs[i]? = some (mapH m kenc vq D)) :
    OpP P hs env ⟨dst, .call ⟨.builtin .len, #[x], ats⟩, ty, pos, after, gd⟩ (intV .i64 (D.length : Int)) :=
  OpP.of_read fun ρ w S F ho he => by
    have h1 := he.o _ _ hx; simp only [exactV] at h1
    obtain ⟨F1, _, _, es, cl, hh, hk, hv, _⟩ := ho.get hi
    have hlen : es.size = D.length := by have := congrArg List.length hk; simpa using this
    exact ⟨.int .i64 (D.length : Int), by simp [execOp, resolve, invoke, builtin, Builtin.len_, hat, h1, run_underlying hT, goInt, getObj, Sem.run, hh, hlen], rfl⟩
end
end Go.Hl
