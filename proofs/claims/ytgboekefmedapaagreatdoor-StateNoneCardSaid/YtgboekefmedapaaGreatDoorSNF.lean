/-
  What the statement's proof leans on, several texts in one (packed by a program).
-/
import Derived.Test.YtgboekefmedapaaGreatDoorSNE
import Derived.Lib.Bytealg
set_option linter.all false
set_option maxRecDepth 1000000
set_option maxHeartbeats 4000000
section
namespace Go.Hl
open Go.RowKit
def hasSuf (l s : List UInt8) : Prop := s.length ≤ l.length ∧ l.drop (l.length - s.length) = s
def hasPre (l s : List UInt8) : Prop := s.length ≤ l.length ∧ l.take s.length = s
instance (l s : List UInt8) : Decidable (hasSuf l s) := inferInstanceAs (Decidable (_ ∧ _))
instance (l s : List UInt8) : Decidable (hasPre l s) := inferInstanceAs (Decidable (_ ∧ _))
section
variable {P : Program} {hs : List HP} {env : Env} {q : VP} {dst : Option Tmp} {ty T T' E : TypeId} {pos : String} {after : Array Edge} {gd : Option (Nat × Bool)} {x y z : Operand}
theorem opCallE {f : FuncId} {xs : List Operand} {ats : Array TypeId} {ps : List VP} {hs0 rest : List HP} {γ : Type} {φ : γ → Prop} {hs' : γ → List HP} {q : γ → VP} (hf : FnE P f ps hs0 φ hs' q) (hb : callB P f = true) (hx : Opds env xs ps) (hp : hs.Perm (hs0 ++ rest)) :
    OpE P hs env ⟨dst, .call ⟨.value (.func f), xs.toArray, ats⟩, ty, pos, after, gd⟩ φ (fun g => hs' g ++ rest) q := by
  intro c a w S F hsit hown he K Q hk
  obtain ⟨F1, F2, hF1, hF2, ho1, ho2⟩ := Own.append.1 (hown.perm hp)
  have hd1 : ∀ k, F1 k → k < w.heap.size := fun k hk => hsit.domF k (hF1 k hk).1
  have hSF : ∀ k, S k → ¬ F1 k := fun k hk hf => hsit.disj k hk (hF1 k hf).1
  unfold Oper.wp
  rw [run_call hb]
  refine (hf w S F1 _ hsit.domS hd1 hSF ho1 (by simpa using hx S w a he)).mono ?_
  rintro e w' ⟨v, S', F1', g, rfl, h2, hφ, hown', hq⟩
  have hoS : ∀ k, S k → w'.heap[k]? = w.heap[k]? := fun k hk => h2.kept k (hsit.domS k hk) (hSF k hk)
  have ho2F : ∀ k, F2 k → ¬ F1 k := fun k hk hf => (hF1 k hf).2 hk
  refine hk g v w' S' (fun k => F1' k ∨ F2 k) hφ ⟨h2.os.trans hsit.os, h2.tape.trans hsit.tape, h2.output.trans hsit.output, Nat.le_trans hsit.size h2.size, fun k hk hm => ?_, fun k hk hf => ?_, h2.domS, fun k hk => ?_, fun k hk => ?_, fun k hk => ?_, fun k hk => h2.base k (hsit.base k hk)⟩ h2.base hoS ?_ hq
  · have hnF : ¬ F1 k := fun hf => (hsit.own k (hF1 k hf).1).elim hm (fun h => by omega)
    exact (h2.kept k (Nat.lt_of_lt_of_le hk hsit.size) hnF).trans (hsit.kept k hk hm)
  · rcases hf with hf | hf
    · exact h2.disj k hk hf
    · rcases h2.shr k hk with h | h | h
      · exact hsit.disj k h (hF2 k hf)
      · exact (hF1 k h).2 hf
      · exact Nat.lt_irrefl _ (Nat.lt_of_lt_of_le (hsit.domF k (hF2 k hf)) h)
  · rcases hk with hk | hk
    · exact h2.domF k hk
    · exact Nat.lt_of_lt_of_le (hsit.domF k (hF2 k hk)) h2.size
  · rcases hk with hk | hk
    · rcases h2.own k hk with h | h
      · exact hsit.own k (hF1 k h).1
      · exact .inr (Nat.le_trans hsit.size h)
    · exact hsit.own k (hF2 k hk)
  · rcases h2.shr k hk with h | h | h
    · exact hsit.shr k h
    · exact .inr (hsit.own k (hF1 k h).1)
    · exact .inr (.inr (Nat.le_trans hsit.size h))
  · refine Own.append.2 ⟨F1', F2, fun k hk => ⟨.inl hk, fun hf => ?_⟩, fun k hk => .inr hk, hown', ho2.mono (fun _ h => h) h2.base (fun k hk => h2.kept k (hsit.domF k (hF2 k hk)) (ho2F k hk)) hoS⟩
    rcases h2.own k hk with h | h
    · exact (hF1 k h).2 hf
    · exact Nat.lt_irrefl _ (Nat.lt_of_lt_of_le (hsit.domF k (hF2 k hf)) h)
theorem CodeT.sliceSome {Q : Exit → Act → World → Prop} {c : Ctx} {s : Code} {α : Type} {g : SB} {n : Nat} {enc : α → List VP} {xs : List α} (i : Nat) (hi : hs[i]? = some (sliceH g n enc xs)) (hne : xs ≠ [])
    (h : ∀ b cap, g = some (b, cap) → CodeT P Q c s hs env) : CodeT P Q c s hs env := by
  intro a w hst
  obtain ⟨h1, h2, S, F, h3, h4, h5⟩ := hst
  obtain ⟨F1, _, hp⟩ := h4.get hi
  cases g with
  | none => exact absurd hp hne
  | some p => exact h p.1 p.2 rfl a w ⟨h1, h2, S, F, h3, h4, h5⟩
end
section
variable {P : Program} {hs : List HP} {env : Env} {q : VP} {dst : Option Tmp} {ty T T' K V : TypeId} {pos : String} {after : Array Edge} {gd : Option (Nat × Bool)} {x y z : Operand}
def findR (es : List MapEntry) (i : Option Nat) : Option (Nat × Value) := i.bind fun i => (es[i]?).map fun e => (i, e.val)
structure KeyT (P : Program) (K : TypeId) {κ : Type} [DecidableEq κ] (kenc : κ → Value) : Prop where
 check : ∀ (a : κ) (e : Bool) (w : World), (Instr.checkKey e 10000 K (kenc a)).run P w = .ok () w
 find : ∀ (a : κ) (es : List MapEntry) (ks : List κ) (w : World), es.map (·.key) = ks.map kenc → (Instr.findKey K (kenc a) es).run P w = .ok (findR es (ks.findIdx? fun k => decide (k = a))) w
 same : ∀ a : κ, Instr.sameBits 10000 (kenc a) (kenc a) = true
theorem KeyT.int {k : IntKind} (h : P.underlying K = some (.int k)) : KeyT P K (Value.int k) where
 check a e w := by unfold Instr.checkKey; rw [run_bind_ok (run_underlying h w)]; rfl
 same a := by unfold Instr.sameBits; simp
 find a es ks w hk := by
  have key : ∀ (es : List MapEntry) (ks : List Int) (i : Nat), es.map (·.key) = ks.map (Value.int k) → Instr.findNow (.int k) (.int k a) es i = some ((ks.findIdx? fun b => decide (b = a)).bind fun j => (es[j]?).map fun e => (i + j, e.val)) := by
   intro es
   induction es with
   | nil => intro ks i hk; cases ks with
    | nil => rfl
    | cons b ks => simp at hk
   | cons e es ih =>
    intro ks i hk
    cases ks with
    | nil => simp at hk
    | cons b ks =>
     simp only [List.map_cons, List.cons.injEq] at hk
     simp only [Instr.findNow, hk.1, Instr.sameNow, if_true]
     by_cases hab : a = b
     · subst hab; simp [List.findIdx?_cons]
     · have h1 : (a == b) = false := by simpa using hab
       have h2 : ¬ b = a := fun e => hab e.symm
       rw [h1]
       simp only [ih ks (i + 1) hk.2, List.findIdx?_cons, h2, decide_false, if_neg (Bool.false_ne_true)]
       cases ks.findIdx? (fun b => decide (b = a)) with
       | none => rfl
       | some j => simp [Nat.add_assoc, Nat.add_comm 1 j]
  have h0 := key es ks 0 hk
  simp only [Instr.findKey, run_bind_ok (run_underlying h w), h0]
  simp [findR]
def BornOk (es : Array MapEntry) (clock : Nat) : Prop := (es.toList.map (·.born)).Nodup ∧ ∀ e ∈ es.toList, e.born < clock
theorem BornOk.push {es : Array MapEntry} {clock : Nat} (h : BornOk es clock) (e : MapEntry) (he : e.born = clock) : BornOk (es.push e) (clock + 1) := by
 obtain ⟨h1, h2⟩ := h
 refine ⟨?_, fun x hx => ?_⟩
 · rw [Array.toList_push, List.map_append, List.nodup_append]
   refine ⟨h1, by simp, fun a ha b hb e1 => ?_⟩
   obtain ⟨x, hx, rfl⟩ := List.mem_map.1 ha
   have := h2 x hx
   simp at hb; omega
 · rw [Array.toList_push, List.mem_append] at hx
   rcases hx with hx | hx
   · have := h2 x hx; omega
   · simp at hx; subst hx; omega
theorem BornOk.same {es es' : Array MapEntry} {clock : Nat} (h : BornOk es clock) (he : es'.toList.map (·.born) = es.toList.map (·.born)) : BornOk es' clock :=
 ⟨he ▸ h.1, fun x hx => by
  have h3 : x.born ∈ es.toList.map (·.born) := he ▸ List.mem_map.2 ⟨x, hx, rfl⟩
  obtain ⟨y, hy, e⟩ := List.mem_map.1 h3
  rw [← e]; exact h.2 y hy⟩
def mapH {κ ν : Type} [DecidableEq κ] (m : Nat) (kenc : κ → Value) (vq : ν → VP) (D : List (κ × ν)) : HP :=
 ⟨fun F S w => F m ∧ ∃ (es : Array MapEntry) (clock : Nat), w.heap[m]? = some (.map es clock) ∧ es.toList.map (·.key) = D.map (fun p => kenc p.1) ∧ (∀ (i : Nat) (p : κ × ν), D[i]? = some p → (∃ e, es[i]? = some e ∧ (vq p.2).p S w e.val)) ∧ BornOk es clock,
  fun h1 h2 h3 h4 ⟨hF, es, cl, hh, hk, hv, hb⟩ => ⟨h1 m hF, es, cl, (h3 m hF).trans hh, hk, fun i p hp => let ⟨e, he, hq⟩ := hv i p hp; ⟨e, he, (vq p.2).mono h2 h4 hq⟩, hb⟩⟩
theorem opMakeM {κ ν : Type} [DecidableEq κ] (kenc : κ → Value) (vq : ν → VP) : OpE P hs env ⟨dst, .makeMap T none, ty, pos, after, gd⟩ (γ := Nat) (fun _ => True) (fun m => mapH m kenc vq [] :: hs) (fun m => exactV (.map (some m))) := by
 intro c a w S F hsit hown he K Q hk
 have hr : (execOp a.eval ⟨dst, .makeMap T none, ty, pos, after, gd⟩).run P w = .ok (.value (.map (some w.heap.size))) { w with heap := w.heap.push (.map #[] 0) } := by
  simp [execOp, Instr.makeMap, newObj, Sem.run]
 unfold Oper.wp
 rw [hr]
 exact hk w.heap.size _ _ S _ trivial (hsit.newOwn _) (fun _ h => h) (fun k hk => heap_push_old w _ k (hsit.domS k hk)) (hown.newOwn hsit.domS hsit.domF _ ⟨rfl, #[], 0, by simp, rfl, fun i p h => (by simp at h), ⟨by simp, fun e he => (by simp at he)⟩⟩) rfl
def lookD {κ ν : Type} [DecidableEq κ] (D : List (κ × ν)) (a : κ) : Option ν := (D.find? fun p => decide (p.1 = a)).map (·.2)
def optV {ν : Type} (vq : ν → VP) (z : VP) : Option ν → VP
 | some v => vq v
 | none => z
theorem find_idx {κ ν : Type} [DecidableEq κ] (a : κ) : ∀ D : List (κ × ν), match (D.map (·.1)).findIdx? (fun k => decide (k = a)) with
    | none => lookD D a = none
    | some i => ∃ v, D[i]? = some (a, v) ∧ lookD D a = some v
  | [] => rfl
  | p :: D => by
    have ih := find_idx a D
    have hl : lookD (p :: D) a = if p.1 = a then some p.2 else lookD D a := by
      unfold lookD
      by_cases h : p.1 = a
      · rw [List.find?_cons_of_pos (by simpa using h), if_pos h]; rfl
      · rw [List.find?_cons_of_neg (by simpa using h), if_neg h]
    rw [hl, List.map_cons, List.findIdx?_cons]
    by_cases h : p.1 = a
    · rw [if_pos (by simpa using h), if_pos h]
      exact ⟨p.2, by rw [← h]; rfl, rfl⟩
    · rw [if_neg (by simpa using h), if_neg h]
      cases hf : (D.map (·.1)).findIdx? (fun k => decide (k = a)) with
      | none => rw [hf] at ih; exact ih
      | some i => rw [hf] at ih; simpa using ih
theorem keys_map {κ ν : Type} (kenc : κ → Value) (D : List (κ × ν)) : D.map (fun p => kenc p.1) = (D.map (·.1)).map kenc := by simp
theorem opLook {κ ν : Type} [DecidableEq κ] {kenc : κ → Value} {vq : ν → VP} {D : List (κ × ν)} {m i : Nat} {a : κ} {zs : Value} (hK : KeyT P K kenc) (hT : P.underlying T = some (.map K V)) (hz : ∀ w, (zeroValue V).run P w = .ok zs w)
    (hx : Opd env x (exactV (.map (some m)))) (hy : Opd env y (exactV (kenc a))) (hi : hs[i]? = some (mapH m kenc vq D)) : OpP P hs env ⟨dst, .lookup T x y false, ty, pos, after, gd⟩ (optV vq (exactV zs) (lookD D a)) :=
  OpP.of_read fun ρ w S F ho he => by
    have h1 := he.o _ _ hx; have h2 := he.o _ _ hy; simp only [exactV] at h1 h2
    obtain ⟨F1, _, _, es, cl, hh, hk, hv, _⟩ := ho.get hi
    have hck := hK.check a es.isEmpty w
    have hf := hK.find a es.toList (D.map (·.1)) w (hk.trans (keys_map kenc D))
    have hfi := find_idx a D
    cases hix : (D.map (·.1)).findIdx? (fun k => decide (k = a)) with
    | none =>
      rw [hix] at hf hfi
      refine ⟨zs, ?_, by rw [hfi]; rfl⟩
      simp only [findR, Option.bind_none] at hf
      simp [execOp, h1, h2, Instr.lookup, run_underlying hT, getObj, Sem.run, hh, hck, hf, hz w]
    | some j =>
      rw [hix] at hf hfi
      obtain ⟨v, hj, hl⟩ := hfi
      obtain ⟨e, he, hq⟩ := hv j _ hj
      refine ⟨e.val, ?_, by rw [hl]; exact hq⟩
      have he' : es.toList[j]? = some e := by simpa using he
      simp only [findR, Option.bind_some, he', Option.map_some] at hf
      simp [execOp, h1, h2, Instr.lookup, run_underlying hT, getObj, Sem.run, hh, hck, hf]
theorem OpE.turn {o : Oper} {c : Ctx} {a : Act} {w : World} {S F : BS} (hsit : Sit c w S F) (hown : Own hs F S w) {m i : Nat} {h0 h1 : HP} (hi : hs[i]? = some h0) (hF : ∀ F1 S w, h0.p F1 S w → F1 m) {ob : Obj} {v : Value} {Kp : Act → World → Prop} {Q : Exit → Act → World → Prop}
    (hr : (execOp a.eval o).run P w = .ok (.value v) (putO w m ob) ∨ (execOp a.eval o).run P w = .ok .skip (putO w m ob) ∧ o.dst = none) (hp : ∀ F1, h0.p F1 S w → h1.p F1 S (putO w m ob))
    (hk : ∀ w', Sit c w' S F → (∀ k, S k → w'.heap[k]? = w.heap[k]?) → Own (hs.set i h1) F S w' → Kp (a.put o.dst v) w') : o.wp P a w Kp Q := by
  obtain ⟨F1, F2, f1, f2, f3, _, f4⟩ := hown.upd hi
  have hFm := hF F1 S w f3
  have hne : ∀ k', k' ≠ m → (putO w m ob).heap[k']? = w.heap[k']? := fun k' hk' => by simp [putO, Array.getElem?_setIfInBounds_ne (fun e => hk' e.symm)]
  have hag : ∀ k', S k' → (putO w m ob).heap[k']? = w.heap[k']? := fun k' hk' => hne k' (fun e => hsit.disj k' hk' (e ▸ (f1 m hFm).1))
  have hO : Own (hs.set i h1) F S (putO w m ob) := by
    have := f4 S F1 (putO w m ob) h1 (fun k hk => (f1 k hk).2) (fun _ h => h) (fun k hk => hne k (fun e => (f1 m hFm).2 (e ▸ hk))) hag (hp F1 f3)
    exact this.mono (fun k hk => hk.elim (fun h => (f1 k h).1) (f2 k)) (fun _ h => h) (fun _ _ => rfl) (fun _ _ => rfl)
  have hS : Sit c (putO w m ob) S F := hsit.write (f1 m hFm).1 rfl rfl rfl (by simp [putO]) hne
  unfold Oper.wp
  rcases hr with hr | ⟨hr, hd⟩
  · rw [hr]; exact hk _ hS hag hO
  · rw [hr]
    have h9 := hk _ hS hag hO
    show Kp (a.put o.dst undef) _
    rw [hd] at h9 ⊢; exact h9
def updD {κ ν : Type} [DecidableEq κ] (D : List (κ × ν)) (a : κ) (v : ν) : List (κ × ν) := match (D.map (·.1)).findIdx? (fun k => decide (k = a)) with
 | some i => D.set i (a, v)
 | none => D ++ [(a, v)]
theorem map_find {κ ν : Type} [DecidableEq κ] {kenc : κ → Value} {D : List (κ × ν)} {a : κ} (hK : KeyT P K kenc) {es : Array MapEntry} (hk : es.toList.map (·.key) = D.map (fun p => kenc p.1)) (w' : World) :
    (Instr.findKey K (kenc a) es.toList).run P w' = .ok (findR es.toList ((D.map (·.1)).findIdx? fun k => decide (k = a))) w' := hK.find a es.toList (D.map (·.1)) w' (hk.trans (keys_map kenc D))
theorem opUpd {κ ν : Type} [DecidableEq κ] {kenc : κ → Value} {vq : ν → VP} {D : List (κ × ν)} {m i : Nat} {a : κ} (v : ν) (hK : KeyT P K kenc) (hT : P.underlying T = some (.map K V))
    (hx : Opd env x (exactV (.map (some m)))) (hy : Opd env y (exactV (kenc a))) (hz : Opd env z (vq v)) (hi : hs[i]? = some (mapH m kenc vq D)) :
    OpE P hs env ⟨none, .mapUpdate T x y z, ty, pos, after, gd⟩ (γ := Unit) (fun _ => True) (fun _ => hs.set i (mapH m kenc vq (updD D a v))) (fun _ => exactV undef) := by
  intro c ac w S F hsit hown he Kp Q hk
  have h1 := hx S w ac he; have h2 := hy S w ac he; simp only [exactV] at h1 h2
  have h3 := hz S w ac he
  obtain ⟨F0, _, hp0⟩ := hown.get hi
  obtain ⟨_, es, cl, hh, hke, hv, hbo⟩ := hp0
  have hck := hK.check a false w
  have hf := map_find (a := a) hK hke w
  have hsm := hK.same a
  have hlen : es.size = D.length := by have := congrArg List.length hke; simpa using this
  have hfi := find_idx a D
  cases hix : (D.map (·.1)).findIdx? (fun k => decide (k = a)) with
  | none =>
    rw [hix] at hf hfi
    simp only [findR, Option.bind_none] at hf
    refine OpE.turn (v := undef) (ob := .map (es.push { key := kenc a, val := ac.eval z, born := cl }) (cl + 1)) (h1 := mapH m kenc vq (updD D a v)) hsit hown hi (fun F1 S w h => h.1) (.inr ⟨?_, rfl⟩) (fun F1 hp => ?_) (fun w' hS hag hO => hk () _ _ S F trivial hS (fun _ h => h) hag hO rfl)
    · simp [execOp, h1, h2, Instr.mapUpdate, run_underlying hT, getObj, setObj, Sem.run, hh, hck, hf, putO]
    · refine ⟨hp.1, es.push { key := kenc a, val := ac.eval z, born := cl }, cl + 1, by simp [putO, (Array.getElem?_eq_some_iff.1 hh).1], ?_, fun j p hj => ?_, hbo.push _ rfl⟩
      · unfold updD; rw [hix]; simp [hke]
      · have hup : updD D a v = D ++ [(a, v)] := by unfold updD; rw [hix]
        have hag : ∀ k, S k → (putO w m (.map (es.push { key := kenc a, val := ac.eval z, born := cl }) (cl + 1))).heap[k]? = w.heap[k]? := fun k hk => by
          have hkm : k ≠ m := fun e => by
            obtain ⟨F1', F2', f1, _, f3, _⟩ := hown.upd hi
            exact hsit.disj k hk (e ▸ (f1 m f3.1).1)
          simp [putO, Array.getElem?_setIfInBounds_ne (fun e => hkm e.symm)]
        rw [hup] at hj
        rcases Nat.lt_or_ge j D.length with h | h
        · rw [List.getElem?_append_left h] at hj
          obtain ⟨e, he1, hq⟩ := hv j p hj
          exact ⟨e, by rw [Array.getElem?_push_lt (by omega)]; rw [← he1]; exact (Array.getElem?_eq_getElem (by omega)).symm, (vq p.2).mono (fun _ h => h) hag hq⟩
        · rw [List.getElem?_append_right h] at hj
          have hj0 : j = D.length := by
            have := (List.getElem?_eq_some_iff.1 hj).1
            simp at this; omega
          subst hj0
          simp at hj; subst hj
          exact ⟨{ key := kenc a, val := ac.eval z, born := cl }, by rw [← hlen]; simp, (vq v).mono (fun _ h => h) hag h3⟩
  | some j =>
    rw [hix] at hf hfi
    obtain ⟨v0, hj, hl⟩ := hfi
    obtain ⟨e, he1, hq0⟩ := hv j _ hj
    have he' : es.toList[j]? = some e := by simpa using he1
    have hjs : j < es.size := (Array.getElem?_eq_some_iff.1 he1).1
    have hek : e.key = kenc a := by
      have := congrArg (fun l => l[j]?) hke
      simp only [List.getElem?_map, he', hj, Option.map_some, Option.some.injEq] at this
      exact this
    simp only [findR, Option.bind_some, he', Option.map_some] at hf
    have hup : updD D a v = D.set j (a, v) := by unfold updD; rw [hix]
    refine OpE.turn (v := undef) (ob := .map (es.modify j fun e => { e with key := kenc a, val := ac.eval z }) cl) (h1 := mapH m kenc vq (updD D a v)) hsit hown hi (fun F1 S w h => h.1) (.inr ⟨?_, rfl⟩) (fun F1 hp => ?_) (fun w' hS hag hO => hk () _ _ S F trivial hS (fun _ h => h) hag hO rfl)
    · simp [execOp, h1, h2, Instr.mapUpdate, run_underlying hT, getObj, setObj, Sem.run, hh, hck, hf, putO, he1, hek, Instr.keyThatStays, hsm]
    · have hag : ∀ k, S k → (putO w m (.map (es.modify j fun e => { e with key := kenc a, val := ac.eval z }) cl)).heap[k]? = w.heap[k]? := fun k hk => by
        have hkm : k ≠ m := fun e => by
          obtain ⟨F1', F2', f1, _, f3, _⟩ := hown.upd hi
          exact hsit.disj k hk (e ▸ (f1 m f3.1).1)
        simp [putO, Array.getElem?_setIfInBounds_ne (fun e => hkm e.symm)]
      refine ⟨hp.1, es.modify j fun e => { e with key := kenc a, val := ac.eval z }, cl, by simp [putO, (Array.getElem?_eq_some_iff.1 hh).1], ?_, fun t p ht => ?_, hbo.same (List.ext_getElem? fun t => ?_)⟩
      · rw [hup]
        apply List.ext_getElem?
        intro t
        have := congrArg (fun l => l[t]?) hke
        simp only [List.getElem?_map] at this ⊢
        simp only [Array.getElem?_toList, Array.getElem?_modify, List.getElem?_set] at this ⊢
        by_cases htj : j = t
        · subst htj
          rw [if_pos rfl, if_pos rfl, he1]
          have : j < D.length := by omega
          simp [this]
        · rw [if_neg htj, if_neg htj]; exact this
      · rw [hup, List.getElem?_set] at ht
        by_cases htj : j = t
        · subst htj
          rw [if_pos rfl, if_pos (by omega)] at ht
          cases ht
          exact ⟨_, by rw [Array.getElem?_modify, if_pos rfl, he1]; rfl, (vq v).mono (fun _ h => h) hag h3⟩
        · rw [if_neg htj] at ht
          obtain ⟨e2, he2, hq2⟩ := hv t p ht
          exact ⟨e2, by rw [Array.getElem?_modify, if_neg htj]; exact he2, (vq p.2).mono (fun _ h => h) hag hq2⟩
      · simp only [List.getElem?_map, Array.getElem?_toList, Array.getElem?_modify]
        by_cases htj : j = t
        · subst htj; rw [if_pos rfl, he1]; rfl
        · rw [if_neg htj]
end
section
variable {P : Program} {hs : List HP} {env : Env} {q : VP} {dst : Option Tmp} {ty T T' T2 E : TypeId} {pos : String} {after : Array Edge} {gd : Option (Nat × Bool)} {x y z : Operand}
def u8s (l : List UInt8) : List Value := l.map fun b => .int .u8 (b.toNat : Int)
def bufH (b : Nat) (l : List UInt8) : HP :=
 ⟨fun F S w => F b ∧ ∃ T : TypeId, w.heap[b]? = some (.cells (u8s l).toArray T (0, 0)), fun h1 h2 h3 h4 ⟨hF, T, hh⟩ => ⟨h1 b hF, T, (h3 b hF).trans hh⟩⟩
def subV (b off len : Nat) : VP := ⟨fun _ _ v => ∃ o cap, v = .slice (some ⟨b, o, none⟩) len cap ∧ (len = 0 ∨ o = off) ∧ len ≤ cap ∧ cap ≤ 281474976710656, fun _ _ h => h⟩
instance (b off len : Nat) : Flat (subV b off len) := ⟨fun ⟨_, _, h, _⟩ => by subst h; exact ⟨rfl, rfl⟩⟩
theorem u8s_get {l : List UInt8} {j : Nat} : (u8s l)[j]? = (l[j]?).map fun b => .int .u8 (b.toNat : Int) := by simp [u8s]
theorem u8s_len (l : List UInt8) : (u8s l).length = l.length := by simp [u8s]
theorem run_makeBuf {n : Nat} {w : World} {ρ : Operand → Value} (hT : P.underlying T = some (.slice E)) (hn : P.cellsOf E = 1) (hb : P.bytesOf E = 1) (hz : zeroB P E = some [.int .u8 0]) (hv : ρ x = .int .i64 (n : Int)) (hle : n ≤ 281474976710656) :
    (execOp ρ ⟨dst, .makeSlice T x x, ty, pos, after, gd⟩).run P w = .ok (.value (.slice (some ⟨w.heap.size, 0, none⟩) n n)) { w with heap := w.heap.push (.cells (u8s (List.replicate n 0)).toArray E) } := by
  obtain ⟨info, hi1, hi2⟩ := run_typeInfo' hn rfl w
  obtain ⟨zv, hz1, hz2⟩ := run_zero hz w
  have hs1 := run_sizeOf hn rfl w
  have hw : IntKind.i64.wrap (n : Int) = (n : Int) := wrap_fits (fits_i64 (by omega) (by omega))
  have hbytes : info.bytes = 1 := hi2.trans hb
  have hcells : (Array.range (n * 1)).map (fun t => zv.cells[t % zv.cells.size]!) = (u8s (List.replicate n 0)).toArray := by
    rw [hz2]
    apply Array.ext
    · simp [u8s]
    · intro j h1 h2
      simp [u8s, Nat.mod_one]
  have hnn : ¬ ((n : Int) < 0) := by omega
  have hbig : ¬ ((281474976710656 : Int) < (n : Int)) := by omega
  have hroom : ∀ m : Nat, (askRoom m).run P w = .ok () w := fun m => by unfold askRoom; split <;> simp [mark, Sem.run]
  by_cases h0 : n = 0
  · subst h0
    have hw0 : IntKind.i64.wrap 0 = 0 := hw
    have hr0 : Array.map (fun _ : Nat => (default : Value)) (Array.range 0) = (u8s []).toArray := by apply Array.ext <;> simp [u8s]
    simp [execOp, Instr.makeSlice, run_underlying hT, asInt, asIntOf, hv, hi1, hw0, hs1, newRow]
    exact congrArg (fun r => w.alloc (.cells r E)) hr0
  · simp [execOp, Instr.makeSlice, run_underlying hT, asInt, asIntOf, hv, hi1, hbytes, hw, hnn, hbig, hroom, hs1, h0, hz1, newRow]
    rw [Nat.mul_one] at hcells
    exact congrArg (fun r => w.alloc (.cells r E)) hcells
theorem opMakeBuf {n : Nat} {i : Int} (hT : P.underlying T = some (.slice E)) (hn : P.cellsOf E = 1) (hb : P.bytesOf E = 1) (hz : zeroB P E = some [.int .u8 0]) (hx : Opd env x (intV .i64 i)) (hi : i = (n : Int)) (hle : n ≤ 281474976710656) :
    OpE P hs env ⟨dst, .makeSlice T x x, ty, pos, after, gd⟩ (γ := Nat) (fun _ => True) (fun b => bufH b (List.replicate n 0) :: hs) (fun b => subV b 0 n) := by
  intro c a w S F hsit hown he K Q hk
  have hv := hx S w a he; simp only [exactV] at hv
  subst hi
  have hr := run_makeBuf (dst := dst) (ty := ty) (pos := pos) (after := after) (gd := gd) (w := w) hT hn hb hz hv hle
  unfold Oper.wp
  rw [hr]
  exact hk w.heap.size _ _ S _ trivial (hsit.newOwn _) (fun _ h => h) (fun k hk => heap_push_old w _ k (hsit.domS k hk)) (hown.newOwn hsit.domS hsit.domF _ ⟨rfl, E, by simp⟩) ⟨0, n, rfl, .inr rfl, Nat.le_refl _, hle⟩
theorem opLenSub {b off len : Nat} {ats : Array TypeId} (hat : ats[0]? = some T) (hT : P.underlying T = some (.slice E)) (hx : Opd env x (subV b off len)) : OpP P hs env ⟨dst, .call ⟨.builtin .len, #[x], ats⟩, ty, pos, after, gd⟩ (intV .i64 (len : Int)) :=
 OpP.of_read fun ρ w S F _ he => by
  obtain ⟨o, cap, hv, _⟩ := he.o _ _ hx
  exact ⟨.int .i64 (len : Int), by simp [execOp, resolve, invoke, builtin, Builtin.len_, hat, hv, run_underlying hT, goInt], rfl⟩
theorem opSliceSub {b off len : Nat} {k k' : IntKind} {i i' : Int} {l h : Nat} (hT : P.underlying T = some (.slice E)) (hn : P.cellsOf E = 1) (hx : Opd env x (subV b off len)) (hy : Opd env y (intV k i)) (hz : Opd env z (intV k' i'))
    (hi : i = (l : Int)) (hi' : i' = (h : Int)) (hlh : l ≤ h) (hh : h ≤ len) : OpP P hs env ⟨dst, .slice T x (some y) (some z) none, ty, pos, after, gd⟩ (subV b (off + l) (h - l)) :=
  OpP.of_read fun ρ w S F _ he => by
    obtain ⟨o, cap, hv, h1, h2, h3⟩ := he.o _ _ hx
    have h4 := he.o _ _ hy; simp only [exactV] at h4
    have h5 := he.o _ _ hz; simp only [exactV] at h5
    subst hi; subst hi'
    have hs := run_sizeOf (T := E) hn rfl w
    have hle : h ≤ cap := by omega
    have hadd : Addr.add ⟨b, o, none⟩ l = ⟨b, o + l, none⟩ := by
      unfold Addr.add
      split
      · rename_i h0; simp
      · rfl
    refine ⟨.slice (if cap = l then some ⟨b, o, none⟩ else some ⟨b, o + l, none⟩) (h - l) (cap - l), ?_, ?_⟩
    · simp [execOp, hv, h4, h5, Instr.sliceAt, Instr.slice, Instr.sliceBounds, Instr.sliceBound, asIntOf, run_underlying hT, hs, hle, hlh, hadd]
    · by_cases hcl : cap = l
      · exact ⟨o, cap - l, by rw [if_pos hcl], .inl (by omega), by omega, by omega⟩
      · exact ⟨o + l, cap - l, by rw [if_neg hcl], by omega, by omega, by omega⟩
theorem OpE.turnW {o : Oper} {c : Ctx} {a : Act} {w w1 : World} {S F : BS} (hsit : Sit c w S F) (hown : Own hs F S w) {m i : Nat} {h0 h1 : HP} (hi : hs[i]? = some h0) (hF : ∀ F1 S w, h0.p F1 S w → F1 m) {v : Value} {Kp : Act → World → Prop} {Q : Exit → Act → World → Prop}
    (hr : (execOp a.eval o).run P w = .ok (.value v) w1) (e1 : w1.os = w.os) (e2 : w1.tape = w.tape) (e3 : w1.output = w.output) (e4 : w1.heap.size = w.heap.size) (hne : ∀ k', k' ≠ m → w1.heap[k']? = w.heap[k']?) (hp : ∀ F1, h0.p F1 S w → h1.p F1 S w1)
    (hk : Sit c w1 S F → (∀ k, S k → w1.heap[k]? = w.heap[k]?) → Own (hs.set i h1) F S w1 → Kp (a.put o.dst v) w1) : o.wp P a w Kp Q := by
  obtain ⟨F1, F2, f1, f2, f3, _, f4⟩ := hown.upd hi
  have hFm := hF F1 S w f3
  have hag : ∀ k', S k' → w1.heap[k']? = w.heap[k']? := fun k' hk' => hne k' (fun e => hsit.disj k' hk' (e ▸ (f1 m hFm).1))
  have hO : Own (hs.set i h1) F S w1 := by
    have := f4 S F1 w1 h1 (fun k hk => (f1 k hk).2) (fun _ h => h) (fun k hk => hne k (fun e => (f1 m hFm).2 (e ▸ hk))) hag (hp F1 f3)
    exact this.mono (fun k hk => hk.elim (fun h => (f1 k h).1) (f2 k)) (fun _ h => h) (fun _ _ => rfl) (fun _ _ => rfl)
  have hS : Sit c w1 S F := hsit.write (f1 m hFm).1 e1 e2 e3 e4 hne
  unfold Oper.wp
  rw [hr]
  exact hk hS hag hO
theorem u8s_one {l : List UInt8} : ∀ v ∈ u8s l, v.oneCell' = true := fun v hv => by
 obtain ⟨b, _, rfl⟩ := List.mem_map.1 hv; rfl
theorem u8s_splice {l ys : List UInt8} {off : Nat} (h : off + ys.length ≤ l.length) {arr : Array Value} (hs : arr.size = (u8s l).toArray.size) (h1 : ∀ j, (j < off ∨ off + ys.length ≤ j) → arr[j]? = (u8s l).toArray[j]?) (h2 : ∀ j v, (u8s ys)[j]? = some v → arr[off + j]? = some v) :
    arr = (u8s (l.take off ++ ys ++ l.drop (off + ys.length))).toArray := by
  have hz : arr.size = l.length := by simpa [u8s] using hs
  apply Array.ext_getElem?
  intro j
  simp only [List.getElem?_toArray, u8s_get] at h1 ⊢
  rcases Nat.lt_or_ge j off with h3 | h3
  · rw [h1 j (.inl h3), List.append_assoc, List.getElem?_append_left (by simp; omega), List.getElem?_take, if_pos h3]
  · rcases Nat.lt_or_ge j (off + ys.length) with h4 | h4
    · have h5 : ys[j - off]? = some (ys[j - off]'(by omega)) := List.getElem?_eq_getElem (by omega)
      have := h2 (j - off) _ (by rw [u8s_get, h5]; rfl)
      rw [show off + (j - off) = j by omega] at this
      have hto : (List.take off l).length = off := by simp; omega
      rw [this, List.append_assoc, List.getElem?_append_right (by omega), List.getElem?_append_left (by omega), hto, h5]; rfl
    · rw [h1 j (.inr h4), List.getElem?_append_right (by simp; omega), List.getElem?_drop]
      congr 2
      simp only [List.length_append, List.length_take]; omega
theorem bufH_store {b off o i : Nat} {l ys : List UInt8} {vs : List Value} {op : Oper} {c : Ctx} {a : Act} {w : World} {S F : BS} (hsit : Sit c w S F) (hown : Own hs F S w) (hi : hs[i]? = some (bufH b l)) (hvs : vs = u8s ys) (ho : ys.length = 0 ∨ o = off) (hl : off + ys.length ≤ l.length) {v : Value} {Kp : Act → World → Prop} {Q : Exit → Act → World → Prop}
    (hr : ∀ w1, (storeCells ⟨b, o, none⟩ vs 0).run P w = .ok () w1 → (execOp a.eval op).run P w = .ok (.value v) w1)
    (hk : ∀ w1, Sit c w1 S F → (∀ k, S k → w1.heap[k]? = w.heap[k]?) → Own (hs.set i (bufH b (l.take off ++ ys ++ l.drop (off + ys.length)))) F S w1 → Kp (a.put op.dst v) w1) : op.wp P a w Kp Q := by
  subst hvs
  obtain ⟨F1, _, hp⟩ := hown.get hi
  obtain ⟨_, T, hb⟩ := hp
  rcases ho with h0 | h0
  · have hy : ys = [] := List.length_eq_zero_iff.1 h0
    subst hy
    refine OpE.turnW (m := b) (h1 := bufH b (l.take off ++ [] ++ l.drop (off + [].length))) hsit hown hi (fun F1 S w h => h.1) (hr w (by simp [u8s, storeCells])) rfl rfl rfl rfl (fun _ _ => rfl) (fun F1 h => ?_) (hk w)
    simp only [List.length_nil, Nat.add_zero, List.append_nil, List.take_append_drop]; exact h
  · subst h0
    obtain ⟨w', arr', h1, h2, h3, h4, h5, h6, h7, h8, h9, h10⟩ := run_storeCells (P := P) (b := b) (off := o) (T := T) (u8s ys) 0 w _ u8s_one hb (by simpa [u8s] using hl)
    refine OpE.turnW (m := b) (h1 := bufH b (l.take o ++ ys ++ l.drop (o + ys.length))) hsit hown hi (fun F1 S w h => h.1) (hr w' h1) h2 h3 h4 h5 h6 (fun F1 h => ⟨h.1, T, ?_⟩) (hk w')
    rw [h7, u8s_splice hl h8 (fun j hj => h9 j (by simpa [u8s_len] using hj)) (fun j v hj => by simpa using h10 j v hj)]
theorem opClearSub {b off len i : Nat} {l : List UInt8} {ats : Array TypeId} (hat : ats[0]? = some T) (hT : P.underlying T = some (.slice E)) (hn : P.cellsOf E = 1) (hz : zeroB P E = some [.int .u8 0]) (hx : Opd env x (subV b off len)) (hi : hs[i]? = some (bufH b l)) (hl : off + len ≤ l.length) :
    OpE P hs env ⟨dst, .call ⟨.builtin .clear, #[x], ats⟩, ty, pos, after, gd⟩ (γ := Unit) (fun _ => True) (fun _ => hs.set i (bufH b (l.take off ++ List.replicate len 0 ++ l.drop (off + len)))) (fun _ => tupV []) := by
  intro c a w S F hsit hown he Kp Q hk
  obtain ⟨o, cap, hv, h1, h2, h3⟩ := hx S w a he
  obtain ⟨zv, hz1, hz2⟩ := run_zero hz w
  have hzc : (Builtin.zeroCells zv.cells len).toList = u8s (List.replicate len 0) := by
    apply List.ext_getElem
    · simp [u8s, Builtin.zeroCells, hz2]
    · intro j _ _
      simp [u8s, Builtin.zeroCells, hz2, Nat.mod_one]
  have hlr : (List.replicate len (0 : UInt8)).length = len := by simp
  have := bufH_store (P := P) (ys := List.replicate len 0) (vs := u8s (List.replicate len 0)) (o := o) (off := off) (op := ⟨dst, .call ⟨.builtin .clear, #[x], ats⟩, ty, pos, after, gd⟩) (a := a) (v := .tuple #[]) (Kp := Kp) (Q := Q) hsit hown hi rfl (by rw [hlr]; exact h1) (by rw [hlr]; exact hl) (fun w1 hw1 => ?_) (fun w1 hS hag hO => hk () (.tuple #[]) w1 S F trivial hS (fun _ h => h) hag (by rw [hlr] at hO; exact hO) ⟨#[], rfl, rfl, fun j p v hj => by simp at hj⟩)
  · exact this
  · by_cases h0 : len = 0
    · subst h0
      simp [u8s, storeCells] at hw1
      subst hw1
      simp [execOp, resolve, invoke, builtin, Builtin.clear_, hat, hv, run_underlying hT]
    · obtain ⟨n, rfl⟩ : ∃ n, len = n + 1 := ⟨len - 1, by omega⟩
      simp [execOp, resolve, invoke, builtin, Builtin.clear_, hat, hv, run_underlying hT, hz1]
      simp only [hzc, hw1, Result.andThen_ok]
abbrev PairK := Int × Int
def kpr (k0 k1 : IntKind) (a : PairK) : Value := .agg #[.int k0 a.1, .int k1 a.2]
abbrev kpair := kpr .i64 .i64
end
end Go.Hl
end
