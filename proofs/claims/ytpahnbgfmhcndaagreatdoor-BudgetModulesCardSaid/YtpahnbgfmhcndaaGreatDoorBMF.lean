/-
  What the statement's proof leans on, several texts in one (packed by a program).
-/
import Derived.Test.YtpahnbgfmhcndaaGreatDoorBME
import Derived.Lib.Bytealg
set_option linter.all false
set_option maxRecDepth 1000000
set_option maxHeartbeats 4000000
section
namespace Go.Hl
open Go.RowKit
section
variable {P : Program} {hs : List HP} {env : Env} {q : VP} {dst : Option Tmp} {ty T T' E : TypeId} {pos : String} {after : Array Edge} {gd : Option (Nat × Bool)} {x y z : Operand} {k k' : IntKind} {l : List UInt8}
theorem bytes_extract (l : List UInt8) (i j : Nat) (hij : i ≤ j) (hj : j ≤ l.length) : (ByteArray.mk l.toArray).extract i j = ⟨((l.take j).drop i).toArray⟩ := by
 apply ByteArray.ext
 rw [ByteArray.data_extract]
 apply Array.toList_inj.1
 simp [List.take_drop, show i + (j - i) = j by omega]
theorem bytes_size (l : List UInt8) : (ByteArray.mk l.toArray).size = l.length := by show l.toArray.size = _; simp
theorem opSliceSHi {i : Int} {h : Nat} (hT : P.underlying T = some .string) (hx : Opd env x (strV l)) (hy : Opd env y (intV k i)) (hi : i = (h : Int)) (hh : h ≤ l.length) :
    OpP P hs env ⟨dst, .slice T x none (some y) none, ty, pos, after, gd⟩ (strV (l.take h)) :=
  OpP.of_read fun ρ w S F _ he => by
    obtain ⟨hv, hm⟩ := he.o _ _ hx
    have h2 := he.o _ _ hy; simp only [exactV] at h2
    subst hi
    have hs := bytes_size l
    have he := bytes_extract l 0 h (by omega) hh
    simp only [List.drop_zero] at he
    refine ⟨.string ⟨(l.take h).toArray⟩, ?_, rfl, by simp; omega⟩
    simp [execOp, hv, h2, Instr.sliceAt, Instr.slice, Instr.sliceBounds, Instr.sliceBound, asIntOf, run_underlying hT, hs, hh, he, - ByteArray.size_data, - List.extract_toArray]
theorem opSliceSLo {i : Int} {h : Nat} (hT : P.underlying T = some .string) (hx : Opd env x (strV l)) (hy : Opd env y (intV k i)) (hi : i = (h : Int)) (hh : h ≤ l.length) :
    OpP P hs env ⟨dst, .slice T x (some y) none none, ty, pos, after, gd⟩ (strV (l.drop h)) :=
  OpP.of_read fun ρ w S F _ he => by
    obtain ⟨hv, hm⟩ := he.o _ _ hx
    have h2 := he.o _ _ hy; simp only [exactV] at h2
    subst hi
    have hs := bytes_size l
    have he := bytes_extract l h l.length (by omega) (by omega)
    rw [List.take_length] at he
    refine ⟨.string ⟨(l.drop h).toArray⟩, ?_, rfl, by simp; omega⟩
    simp [execOp, hv, h2, Instr.sliceAt, Instr.slice, Instr.sliceBounds, Instr.sliceBound, asIntOf, run_underlying hT, hs, hh, he, - ByteArray.size_data, - List.extract_toArray]
theorem opCallX {f : FuncId} {xs : List Operand} {ats : Array TypeId} {ps : List VP} (hx : Opds env xs ps) (hr : ∀ S w vs, All2 ps S w vs → ∃ v, (callFunc f vs.toArray).run P w = .ok (.value v) w ∧ q.p S w v) :
    OpP P hs env ⟨dst, .call ⟨.value (.func f), xs.toArray, ats⟩, ty, pos, after, gd⟩ q := by
  intro a w S F h1 h2 h3 h4 h5 K Q hk
  obtain ⟨v, hv, hq⟩ := hr S w _ (hx S w a h5)
  unfold Oper.wp
  have : (execOp a.eval ⟨dst, .call ⟨.value (.func f), xs.toArray, ats⟩, ty, pos, after, gd⟩).run P w = .ok (.value v) w := by
    have h := hv
    simp [execOp, resolve, Act.eval, Deferred.ofValue, invoke] at h ⊢; exact h
  rw [this]
  exact hk v w S (Grow.refl _ _) hq
def extB (P : Program) (f : FuncId) (e : Array Value → Sem Value) : Prop := ∀ args w, (callFunc f args).run P w = ((e args).run P w).andThen fun v w' => .ok (.value v) w'
theorem opIdxByteS {f : FuncId} {xs : List Operand} {ats : Array TypeId} {b : UInt8} (hf : extB P f Extern.BytealgIndexByte.indexByte) (hx : Opds env xs [strV l, intV .u8 (b.toNat : Int)]) :
    OpP P hs env ⟨dst, .call ⟨.value (.func f), xs.toArray, ats⟩, ty, pos, after, gd⟩ (intV .i64 (Lib.indexByte l b)) :=
  opCallX hx fun S w vs h => by
    obtain ⟨h1, h2⟩ := h
    match vs, h1, h2 with
    | [u, v], _, h2 =>
      have hu := (h2 0 _ u rfl rfl).1
      have hv := h2 1 _ v rfl rfl; simp only [exactV] at hv
      subst hu; subst hv
      refine ⟨_, ?_, rfl⟩
      rw [hf, Lib.run_indexByteString]
      simp [Result.andThen]
end
def hasSuf (l s : List UInt8) : Prop := s.length ≤ l.length ∧ l.drop (l.length - s.length) = s
def hasPre (l s : List UInt8) : Prop := s.length ≤ l.length ∧ l.take s.length = s
instance (l s : List UInt8) : Decidable (hasSuf l s) := inferInstanceAs (Decidable (_ ∧ _))
instance (l s : List UInt8) : Decidable (hasPre l s) := inferInstanceAs (Decidable (_ ∧ _))
def trimSuf (l s : List UInt8) : List UInt8 := if hasSuf l s then l.take (l.length - s.length) else l
def cutB (l : List UInt8) (b : UInt8) : List UInt8 × List UInt8 × Bool := if 0 ≤ Lib.indexByte l b then (l.take (Lib.indexByte l b).toNat, l.drop ((Lib.indexByte l b).toNat + 1), true) else (l, [], false)
theorem indexByte_lt (l : List UInt8) (b : UInt8) : Lib.indexByte l b < l.length := by
 induction l with
 | nil => simp [Lib.indexByte]
 | cons x l ih =>
  unfold Lib.indexByte
  split
  · simp only [List.length_cons]; omega
  · split
    · simp only [List.length_cons]; omega
    · simp only [List.length_cons]; omega
section
variable {P : Program} {hs : List HP} {env : Env} {q : VP} {dst : Option Tmp} {ty T T' E : TypeId} {pos : String} {after : Array Edge} {gd : Option (Nat × Bool)} {x y z : Operand}
theorem opCallE {f : FuncId} {xs : List Operand} {ats : Array TypeId} {ps : List VP} {hs0 rest : List HP} {γ : Type} {φ : γ → Prop} {hs' : γ → List HP} {q : γ → VP} (hf : FnE P f ps hs0 φ hs' q) (hb : callB P f = true) (hx : Opds env xs ps) (hp : hs.Perm (hs0 ++ rest)) :
    OpE P hs env ⟨dst, .call ⟨.value (.func f), xs.toArray, ats⟩, ty, pos, after, gd⟩ φ (fun g => hs' g ++ rest) q := by
  intro c a w S F hsit hown he K Q hk
  obtain ⟨F1, F2, hF1, hF2, ho1, ho2⟩ := Own.append.1 (hown.perm hp)
  have hd1 : ∀ k, F1 k → k < w.heap.size := fun k hk => hsit.domF k (hF1 k hk).1
  have hSF : ∀ k, S k → ¬ F1 k := fun k hk hf => hsit.disj k hk (hF1 k hf).1
  unfold Oper.wp
  rw [run_call hb]
  refine (hf w S F1 _ hsit.domS hd1 hSF ho1 (by simpa using hx S w a he)).mono ?_
  rintro e w' ⟨v, S', F1', g, rfl, h2, hφ, hown', hq⟩
  have hoS : ∀ k, S k → w'.heap[k]? = w.heap[k]? := fun k hk => h2.kept k (hsit.domS k hk) (hSF k hk)
  have ho2F : ∀ k, F2 k → ¬ F1 k := fun k hk hf => (hF1 k hf).2 hk
  refine hk g v w' S' (fun k => F1' k ∨ F2 k) hφ ⟨h2.os.trans hsit.os, h2.tape.trans hsit.tape, h2.output.trans hsit.output, Nat.le_trans hsit.size h2.size, fun k hk hm => ?_, fun k hk hf => ?_, h2.domS, fun k hk => ?_, fun k hk => ?_, fun k hk => ?_, fun k hk => h2.base k (hsit.base k hk)⟩ h2.base hoS ?_ hq
  · have hnF : ¬ F1 k := fun hf => (hsit.own k (hF1 k hf).1).elim hm (fun h => by omega)
    exact (h2.kept k (Nat.lt_of_lt_of_le hk hsit.size) hnF).trans (hsit.kept k hk hm)
  · rcases hf with hf | hf
    · exact h2.disj k hk hf
    · rcases h2.shr k hk with h | h | h
      · exact hsit.disj k h (hF2 k hf)
      · exact (hF1 k h).2 hf
      · exact Nat.lt_irrefl _ (Nat.lt_of_lt_of_le (hsit.domF k (hF2 k hf)) h)
  · rcases hk with hk | hk
    · exact h2.domF k hk
    · exact Nat.lt_of_lt_of_le (hsit.domF k (hF2 k hk)) h2.size
  · rcases hk with hk | hk
    · rcases h2.own k hk with h | h
      · exact hsit.own k (hF1 k h).1
      · exact .inr (Nat.le_trans hsit.size h)
    · exact hsit.own k (hF2 k hk)
  · rcases h2.shr k hk with h | h | h
    · exact hsit.shr k h
    · exact .inr (hsit.own k (hF1 k h).1)
    · exact .inr (.inr (Nat.le_trans hsit.size h))
  · refine Own.append.2 ⟨F1', F2, fun k hk => ⟨.inl hk, fun hf => ?_⟩, fun k hk => .inr hk, hown', ho2.mono (fun _ h => h) h2.base (fun k hk => h2.kept k (hsit.domF k (hF2 k hk)) (ho2F k hk)) hoS⟩
    rcases h2.own k hk with h | h
    · exact (hF1 k h).2 hf
    · exact Nat.lt_irrefl _ (Nat.lt_of_lt_of_le (hsit.domF k (hF2 k hf)) h)
theorem CodeT.sliceSome {Q : Exit → Act → World → Prop} {c : Ctx} {s : Code} {α : Type} {g : SB} {n : Nat} {enc : α → List VP} {xs : List α} (i : Nat) (hi : hs[i]? = some (sliceH g n enc xs)) (hne : xs ≠ [])
    (h : ∀ b cap, g = some (b, cap) → CodeT P Q c s hs env) : CodeT P Q c s hs env := by
  intro a w hst
  obtain ⟨h1, h2, S, F, h3, h4, h5⟩ := hst
  obtain ⟨F1, _, hp⟩ := h4.get hi
  cases g with
  | none => exact absurd hp hne
  | some p => exact h p.1 p.2 rfl a w ⟨h1, h2, S, F, h3, h4, h5⟩
end
section
variable {P : Program} {hs : List HP} {env : Env} {q : VP} {dst : Option Tmp} {ty T T' K V : TypeId} {pos : String} {after : Array Edge} {gd : Option (Nat × Bool)} {x y z : Operand}
def findR (es : List MapEntry) (i : Option Nat) : Option (Nat × Value) := i.bind fun i => (es[i]?).map fun e => (i, e.val)
structure KeyT (P : Program) (K : TypeId) {κ : Type} [DecidableEq κ] (kenc : κ → Value) : Prop where
 check : ∀ (a : κ) (e : Bool) (w : World), (Instr.checkKey e 10000 K (kenc a)).run P w = .ok () w
 find : ∀ (a : κ) (es : List MapEntry) (ks : List κ) (w : World), es.map (·.key) = ks.map kenc → (Instr.findKey K (kenc a) es).run P w = .ok (findR es (ks.findIdx? fun k => decide (k = a))) w
 same : ∀ a : κ, Instr.sameBits 10000 (kenc a) (kenc a) = true
def BornOk (es : Array MapEntry) (clock : Nat) : Prop := (es.toList.map (·.born)).Nodup ∧ ∀ e ∈ es.toList, e.born < clock
theorem BornOk.push {es : Array MapEntry} {clock : Nat} (h : BornOk es clock) (e : MapEntry) (he : e.born = clock) : BornOk (es.push e) (clock + 1) := by
 obtain ⟨h1, h2⟩ := h
 refine ⟨?_, fun x hx => ?_⟩
 · rw [Array.toList_push, List.map_append, List.nodup_append]
   refine ⟨h1, by simp, fun a ha b hb e1 => ?_⟩
   obtain ⟨x, hx, rfl⟩ := List.mem_map.1 ha
   have := h2 x hx
   simp at hb; omega
 · rw [Array.toList_push, List.mem_append] at hx
   rcases hx with hx | hx
   · have := h2 x hx; omega
   · simp at hx; subst hx; omega
theorem BornOk.same {es es' : Array MapEntry} {clock : Nat} (h : BornOk es clock) (he : es'.toList.map (·.born) = es.toList.map (·.born)) : BornOk es' clock :=
 ⟨he ▸ h.1, fun x hx => by
  have h3 : x.born ∈ es.toList.map (·.born) := he ▸ List.mem_map.2 ⟨x, hx, rfl⟩
  obtain ⟨y, hy, e⟩ := List.mem_map.1 h3
  rw [← e]; exact h.2 y hy⟩
def mapH {κ ν : Type} [DecidableEq κ] (m : Nat) (kenc : κ → Value) (vq : ν → VP) (D : List (κ × ν)) : HP :=
 ⟨fun F S w => F m ∧ ∃ (es : Array MapEntry) (clock : Nat), w.heap[m]? = some (.map es clock) ∧ es.toList.map (·.key) = D.map (fun p => kenc p.1) ∧ (∀ (i : Nat) (p : κ × ν), D[i]? = some p → (∃ e, es[i]? = some e ∧ (vq p.2).p S w e.val)) ∧ BornOk es clock,
  fun h1 h2 h3 h4 ⟨hF, es, cl, hh, hk, hv, hb⟩ => ⟨h1 m hF, es, cl, (h3 m hF).trans hh, hk, fun i p hp => let ⟨e, he, hq⟩ := hv i p hp; ⟨e, he, (vq p.2).mono h2 h4 hq⟩, hb⟩⟩
theorem opMakeM {κ ν : Type} [DecidableEq κ] (kenc : κ → Value) (vq : ν → VP) : OpE P hs env ⟨dst, .makeMap T none, ty, pos, after, gd⟩ (γ := Nat) (fun _ => True) (fun m => mapH m kenc vq [] :: hs) (fun m => exactV (.map (some m))) := by
 intro c a w S F hsit hown he K Q hk
 have hr : (execOp a.eval ⟨dst, .makeMap T none, ty, pos, after, gd⟩).run P w = .ok (.value (.map (some w.heap.size))) { w with heap := w.heap.push (.map #[] 0) } := by
  simp [execOp, Instr.makeMap, newObj, Sem.run]
 unfold Oper.wp
 rw [hr]
 exact hk w.heap.size _ _ S _ trivial (hsit.newOwn _) (fun _ h => h) (fun k hk => heap_push_old w _ k (hsit.domS k hk)) (hown.newOwn hsit.domS hsit.domF _ ⟨rfl, #[], 0, by simp, rfl, fun i p h => (by simp at h), ⟨by simp, fun e he => (by simp at he)⟩⟩) rfl
def lookD {κ ν : Type} [DecidableEq κ] (D : List (κ × ν)) (a : κ) : Option ν := (D.find? fun p => decide (p.1 = a)).map (·.2)
theorem find_idx {κ ν : Type} [DecidableEq κ] (a : κ) : ∀ D : List (κ × ν), match (D.map (·.1)).findIdx? (fun k => decide (k = a)) with
    | none => lookD D a = none
    | some i => ∃ v, D[i]? = some (a, v) ∧ lookD D a = some v
  | [] => rfl
  | p :: D => by
    have ih := find_idx a D
    have hl : lookD (p :: D) a = if p.1 = a then some p.2 else lookD D a := by
      unfold lookD
      by_cases h : p.1 = a
      · rw [List.find?_cons_of_pos (by simpa using h), if_pos h]; rfl
      · rw [List.find?_cons_of_neg (by simpa using h), if_neg h]
    rw [hl, List.map_cons, List.findIdx?_cons]
    by_cases h : p.1 = a
    · rw [if_pos (by simpa using h), if_pos h]
      exact ⟨p.2, by rw [← h]; rfl, rfl⟩
    · rw [if_neg (by simpa using h), if_neg h]
      cases hf : (D.map (·.1)).findIdx? (fun k => decide (k = a)) with
      | none => rw [hf] at ih; exact ih
      | some i => rw [hf] at ih; simpa using ih
theorem keys_map {κ ν : Type} (kenc : κ → Value) (D : List (κ × ν)) : D.map (fun p => kenc p.1) = (D.map (·.1)).map kenc := by simp
theorem OpE.turn {o : Oper} {c : Ctx} {a : Act} {w : World} {S F : BS} (hsit : Sit c w S F) (hown : Own hs F S w) {m i : Nat} {h0 h1 : HP} (hi : hs[i]? = some h0) (hF : ∀ F1 S w, h0.p F1 S w → F1 m) {ob : Obj} {v : Value} {Kp : Act → World → Prop} {Q : Exit → Act → World → Prop}
    (hr : (execOp a.eval o).run P w = .ok (.value v) (putO w m ob) ∨ (execOp a.eval o).run P w = .ok .skip (putO w m ob) ∧ o.dst = none) (hp : ∀ F1, h0.p F1 S w → h1.p F1 S (putO w m ob))
    (hk : ∀ w', Sit c w' S F → (∀ k, S k → w'.heap[k]? = w.heap[k]?) → Own (hs.set i h1) F S w' → Kp (a.put o.dst v) w') : o.wp P a w Kp Q := by
  obtain ⟨F1, F2, f1, f2, f3, _, f4⟩ := hown.upd hi
  have hFm := hF F1 S w f3
  have hne : ∀ k', k' ≠ m → (putO w m ob).heap[k']? = w.heap[k']? := fun k' hk' => by simp [putO, Array.getElem?_setIfInBounds_ne (fun e => hk' e.symm)]
  have hag : ∀ k', S k' → (putO w m ob).heap[k']? = w.heap[k']? := fun k' hk' => hne k' (fun e => hsit.disj k' hk' (e ▸ (f1 m hFm).1))
  have hO : Own (hs.set i h1) F S (putO w m ob) := by
    have := f4 S F1 (putO w m ob) h1 (fun k hk => (f1 k hk).2) (fun _ h => h) (fun k hk => hne k (fun e => (f1 m hFm).2 (e ▸ hk))) hag (hp F1 f3)
    exact this.mono (fun k hk => hk.elim (fun h => (f1 k h).1) (f2 k)) (fun _ h => h) (fun _ _ => rfl) (fun _ _ => rfl)
  have hS : Sit c (putO w m ob) S F := hsit.write (f1 m hFm).1 rfl rfl rfl (by simp [putO]) hne
  unfold Oper.wp
  rcases hr with hr | ⟨hr, hd⟩
  · rw [hr]; exact hk _ hS hag hO
  · rw [hr]
    have h9 := hk _ hS hag hO
    show Kp (a.put o.dst undef) _
    rw [hd] at h9 ⊢; exact h9
def updD {κ ν : Type} [DecidableEq κ] (D : List (κ × ν)) (a : κ) (v : ν) : List (κ × ν) := match (D.map (·.1)).findIdx? (fun k => decide (k = a)) with
 | some i => D.set i (a, v)
 | none => D ++ [(a, v)]
theorem map_find {κ ν : Type} [DecidableEq κ] {kenc : κ → Value} {D : List (κ × ν)} {a : κ} (hK : KeyT P K kenc) {es : Array MapEntry} (hk : es.toList.map (·.key) = D.map (fun p => kenc p.1)) (w' : World) :
    (Instr.findKey K (kenc a) es.toList).run P w' = .ok (findR es.toList ((D.map (·.1)).findIdx? fun k => decide (k = a))) w' := hK.find a es.toList (D.map (·.1)) w' (hk.trans (keys_map kenc D))
theorem opUpd {κ ν : Type} [DecidableEq κ] {kenc : κ → Value} {vq : ν → VP} {D : List (κ × ν)} {m i : Nat} {a : κ} (v : ν) (hK : KeyT P K kenc) (hT : P.underlying T = some (.map K V))
    (hx : Opd env x (exactV (.map (some m)))) (hy : Opd env y (exactV (kenc a))) (hz : Opd env z (vq v)) (hi : hs[i]? = some (mapH m kenc vq D)) :
    OpE P hs env ⟨none, .mapUpdate T x y z, ty, pos, after, gd⟩ (γ := Unit) (fun _ => True) (fun _ => hs.set i (mapH m kenc vq (updD D a v))) (fun _ => exactV undef) := by
  intro c ac w S F hsit hown he Kp Q hk
  have h1 := hx S w ac he; have h2 := hy S w ac he; simp only [exactV] at h1 h2
  have h3 := hz S w ac he
  obtain ⟨F0, _, hp0⟩ := hown.get hi
  obtain ⟨_, es, cl, hh, hke, hv, hbo⟩ := hp0
  have hck := hK.check a false w
  have hf := map_find (a := a) hK hke w
  have hsm := hK.same a
  have hlen : es.size = D.length := by have := congrArg List.length hke; simpa using this
  have hfi := find_idx a D
  cases hix : (D.map (·.1)).findIdx? (fun k => decide (k = a)) with
  | none =>
    rw [hix] at hf hfi
    simp only [findR, Option.bind_none] at hf
    refine OpE.turn (v := undef) (ob := .map (es.push { key := kenc a, val := ac.eval z, born := cl }) (cl + 1)) (h1 := mapH m kenc vq (updD D a v)) hsit hown hi (fun F1 S w h => h.1) (.inr ⟨?_, rfl⟩) (fun F1 hp => ?_) (fun w' hS hag hO => hk () _ _ S F trivial hS (fun _ h => h) hag hO rfl)
    · simp [execOp, h1, h2, Instr.mapUpdate, run_underlying hT, getObj, setObj, Sem.run, hh, hck, hf, putO]
    · refine ⟨hp.1, es.push { key := kenc a, val := ac.eval z, born := cl }, cl + 1, by simp [putO, (Array.getElem?_eq_some_iff.1 hh).1], ?_, fun j p hj => ?_, hbo.push _ rfl⟩
      · unfold updD; rw [hix]; simp [hke]
      · have hup : updD D a v = D ++ [(a, v)] := by unfold updD; rw [hix]
        have hag : ∀ k, S k → (putO w m (.map (es.push { key := kenc a, val := ac.eval z, born := cl }) (cl + 1))).heap[k]? = w.heap[k]? := fun k hk => by
          have hkm : k ≠ m := fun e => by
            obtain ⟨F1', F2', f1, _, f3, _⟩ := hown.upd hi
            exact hsit.disj k hk (e ▸ (f1 m f3.1).1)
          simp [putO, Array.getElem?_setIfInBounds_ne (fun e => hkm e.symm)]
        rw [hup] at hj
        rcases Nat.lt_or_ge j D.length with h | h
        · rw [List.getElem?_append_left h] at hj
          obtain ⟨e, he1, hq⟩ := hv j p hj
          exact ⟨e, by rw [Array.getElem?_push_lt (by omega)]; rw [← he1]; exact (Array.getElem?_eq_getElem (by omega)).symm, (vq p.2).mono (fun _ h => h) hag hq⟩
        · rw [List.getElem?_append_right h] at hj
          have hj0 : j = D.length := by
            have := (List.getElem?_eq_some_iff.1 hj).1
            simp at this; omega
          subst hj0
          simp at hj; subst hj
          exact ⟨{ key := kenc a, val := ac.eval z, born := cl }, by rw [← hlen]; simp, (vq v).mono (fun _ h => h) hag h3⟩
  | some j =>
    rw [hix] at hf hfi
    obtain ⟨v0, hj, hl⟩ := hfi
    obtain ⟨e, he1, hq0⟩ := hv j _ hj
    have he' : es.toList[j]? = some e := by simpa using he1
    have hjs : j < es.size := (Array.getElem?_eq_some_iff.1 he1).1
    have hek : e.key = kenc a := by
      have := congrArg (fun l => l[j]?) hke
      simp only [List.getElem?_map, he', hj, Option.map_some, Option.some.injEq] at this
      exact this
    simp only [findR, Option.bind_some, he', Option.map_some] at hf
    have hup : updD D a v = D.set j (a, v) := by unfold updD; rw [hix]
    refine OpE.turn (v := undef) (ob := .map (es.modify j fun e => { e with key := kenc a, val := ac.eval z }) cl) (h1 := mapH m kenc vq (updD D a v)) hsit hown hi (fun F1 S w h => h.1) (.inr ⟨?_, rfl⟩) (fun F1 hp => ?_) (fun w' hS hag hO => hk () _ _ S F trivial hS (fun _ h => h) hag hO rfl)
    · simp [execOp, h1, h2, Instr.mapUpdate, run_underlying hT, getObj, setObj, Sem.run, hh, hck, hf, putO, he1, hek, Instr.keyThatStays, hsm]
    · have hag : ∀ k, S k → (putO w m (.map (es.modify j fun e => { e with key := kenc a, val := ac.eval z }) cl)).heap[k]? = w.heap[k]? := fun k hk => by
        have hkm : k ≠ m := fun e => by
          obtain ⟨F1', F2', f1, _, f3, _⟩ := hown.upd hi
          exact hsit.disj k hk (e ▸ (f1 m f3.1).1)
        simp [putO, Array.getElem?_setIfInBounds_ne (fun e => hkm e.symm)]
      refine ⟨hp.1, es.modify j fun e => { e with key := kenc a, val := ac.eval z }, cl, by simp [putO, (Array.getElem?_eq_some_iff.1 hh).1], ?_, fun t p ht => ?_, hbo.same (List.ext_getElem? fun t => ?_)⟩
      · rw [hup]
        apply List.ext_getElem?
        intro t
        have := congrArg (fun l => l[t]?) hke
        simp only [List.getElem?_map] at this ⊢
        simp only [Array.getElem?_toList, Array.getElem?_modify, List.getElem?_set] at this ⊢
        by_cases htj : j = t
        · subst htj
          rw [if_pos rfl, if_pos rfl, he1]
          have : j < D.length := by omega
          simp [this]
        · rw [if_neg htj, if_neg htj]; exact this
      · rw [hup, List.getElem?_set] at ht
        by_cases htj : j = t
        · subst htj
          rw [if_pos rfl, if_pos (by omega)] at ht
          cases ht
          exact ⟨_, by rw [Array.getElem?_modify, if_pos rfl, he1]; rfl, (vq v).mono (fun _ h => h) hag h3⟩
        · rw [if_neg htj] at ht
          obtain ⟨e2, he2, hq2⟩ := hv t p ht
          exact ⟨e2, by rw [Array.getElem?_modify, if_neg htj]; exact he2, (vq p.2).mono (fun _ h => h) hag hq2⟩
      · simp only [List.getElem?_map, Array.getElem?_toList, Array.getElem?_modify]
        by_cases htj : j = t
        · subst htj; rw [if_pos rfl, he1]; rfl
        · rw [if_neg htj]
theorem opLenM {κ ν : Type} [DecidableEq κ] {kenc : κ → Value} {vq : ν → VP} {D : List (κ × ν)} {m i : Nat} {ats : Array TypeId} (hat : ats[0]? = some T) (hT : P.underlying T = some (.map K V)) (hx : Opd env x (exactV (.map (some m)))) (hi : hs[i]? = some (mapH m kenc vq D)) :
    OpP P hs env ⟨dst, .call ⟨.builtin .len, #[x], ats⟩, ty, pos, after, gd⟩ (intV .i64 (D.length : Int)) :=
  OpP.of_read fun ρ w S F ho he => by
    have h1 := he.o _ _ hx; simp only [exactV] at h1
    obtain ⟨F1, _, _, es, cl, hh, hk, hv, _⟩ := ho.get hi
    have hlen : es.size = D.length := by have := congrArg List.length hk; simpa using this
    exact ⟨.int .i64 (D.length : Int), by simp [execOp, resolve, invoke, builtin, Builtin.len_, hat, h1, run_underlying hT, goInt, getObj, Sem.run, hh, hlen], rfl⟩
end
section
variable {P : Program} {hs : List HP} {env : Env} {q : VP} {dst : Option Tmp} {ty T T' T2 E : TypeId} {pos : String} {after : Array Edge} {gd : Option (Nat × Bool)} {x y z : Operand}
def subV (b off len : Nat) : VP := ⟨fun _ _ v => ∃ o cap, v = .slice (some ⟨b, o, none⟩) len cap ∧ (len = 0 ∨ o = off) ∧ len ≤ cap ∧ cap ≤ 281474976710656, fun _ _ h => h⟩
instance (b off len : Nat) : Flat (subV b off len) := ⟨fun ⟨_, _, h, _⟩ => by subst h; exact ⟨rfl, rfl⟩⟩
abbrev PairK := Int × Int
def kpr (k0 k1 : IntKind) (a : PairK) : Value := .agg #[.int k0 a.1, .int k1 a.2]
theorem KeyT.pair {K : TypeId} {f0 f1 : Field} {k0 k1 : IntKind} (h : P.underlying K = some (.struct #[f0, f1])) (hst : P.stoodInHeld K = false) (n0 : f0.name ≠ "_") (n1 : f1.name ≠ "_") (o0 : f0.offset = 0) (o1 : f1.offset = 1)
    (t0 : P.underlying f0.type = some (.int k0)) (t1 : P.underlying f1.type = some (.int k1)) : KeyT P K (kpr k0 k1) where
  check a e w := by
    have c0 : ∀ (x : Int) (n : Nat), (Instr.checkKey e (n + 1) f0.type (.int k0 x)).run P w = .ok () w := fun x n => by unfold Instr.checkKey; rw [run_bind_ok (run_underlying t0 w)]; rfl
    have c1 : ∀ (x : Int) (n : Nat), (Instr.checkKey e (n + 1) f1.type (.int k1 x)).run P w = .ok () w := fun x n => by unfold Instr.checkKey; rw [run_bind_ok (run_underlying t1 w)]; rfl
    have a0 : aggB P f0.type = some false := by unfold aggB; rw [t0]; rfl
    have a1 : aggB P f1.type = some false := by unfold aggB; rw [t1]; rfl
    have p0 : (part f0.type #[.int k0 a.1, .int k1 a.2] f0.offset).run P w = .ok (.int k0 a.1) w := by unfold part; rw [run_bind_ok (run_isAgg a0 w)]; simp [o0]
    have p1 : (part f1.type #[.int k0 a.1, .int k1 a.2] f1.offset).run P w = .ok (.int k1 a.2) w := by unfold part; rw [run_bind_ok (run_isAgg a1 w)]; simp [o1]
    unfold Instr.checkKey kpr
    rw [run_bind_ok (run_underlying h w)]
    simp [n0, n1, p0, p1, c0, c1]
  same a := by simp [kpr, Instr.sameBits]
  find a es ks w hk := by
    have hf : P.fieldsOf K = #[f0, f1] := by simp [Program.fieldsOf, h]
    have a0 : aggB P f0.type = some false := by unfold aggB; rw [t0]; rfl
    have a1 : aggB P f1.type = some false := by unfold aggB; rw [t1]; rfl
    have p0 : ∀ b : PairK, (part f0.type #[.int k0 b.1, .int k1 b.2] f0.offset).run P w = .ok (.int k0 b.1) w := fun b => by unfold part; rw [run_bind_ok (run_isAgg a0 w)]; simp [o0]
    have p1 : ∀ b : PairK, (part f1.type #[.int k0 b.1, .int k1 b.2] f1.offset).run P w = .ok (.int k1 b.2) w := fun b => by unfold part; rw [run_bind_ok (run_isAgg a1 w)]; simp [o1]
    have heq : ∀ b : PairK, (Op.equal K (kpr k0 k1 a) (kpr k0 k1 b)).run P w = .ok (decide (b = a)) w := fun b => by
      have e1 := run_equalIn_struct (P := P) w 9999 K #[.int k0 a.1, .int k1 a.2] #[.int k0 b.1, .int k1 b.2] (by rw [hf]; exact h) hst
      rw [hf] at e1
      refine e1.trans ?_
      have q0 := run_equalIn_int (P := P) w 9998 f0.type k0 k0 a.1 b.1 t0
      have q1 := run_equalIn_int (P := P) w 9998 f1.type k1 k1 a.2 b.2 t1
      obtain ⟨a1, a2⟩ := a
      obtain ⟨b1, b2⟩ := b
      have p0a := p0 (a1, a2); have p0b := p0 (b1, b2); have p1a := p1 (a1, a2); have p1b := p1 (b1, b2)
      simp only at p0a p0b p1a p1b q0 q1
      simp [Op.eqFields, n0, n1, p0a, p0b, p1a, p1b, q0, q1]
      by_cases h1 : a1 = b1 <;> by_cases h2 : a2 = b2 <;> simp [h1, h2] <;> omega
    have key : ∀ (es : List MapEntry) (ks : List PairK) (i : Nat), es.map (·.key) = ks.map (kpr k0 k1) → (Instr.findAsking K (kpr k0 k1 a) es i).run P w = .ok ((ks.findIdx? fun b => decide (b = a)).bind fun j => (es[j]?).map fun e => (i + j, e.val)) w := by
      intro es
      induction es with
      | nil => intro ks i hk; cases ks with
        | nil => rfl
        | cons b ks => simp at hk
      | cons e es ih =>
        intro ks i hk
        cases ks with
        | nil => simp at hk
        | cons b ks =>
          simp only [List.map_cons, List.cons.injEq] at hk
          unfold Instr.findAsking
          rw [hk.1, run_bind_ok (heq b)]
          by_cases hab : b = a
          · subst hab; simp [List.findIdx?_cons]
          · simp only [hab, decide_false, Bool.false_eq_true, if_false, ih ks (i + 1) hk.2, List.findIdx?_cons]
            cases ks.findIdx? (fun b => decide (b = a)) with
            | none => rfl
            | some j => simp [Nat.add_assoc, Nat.add_comm 1 j]
    have hnow : Instr.findNow (.struct #[f0, f1]) (kpr k0 k1 a) es 0 = none ∨ es = [] := by
      cases es with
      | nil => exact .inr rfl
      | cons e es =>
        cases ks with
        | nil => simp at hk
        | cons b ks =>
          simp only [List.map_cons, List.cons.injEq] at hk
          exact .inl (by unfold Instr.findNow; rw [hk.1]; rfl)
    have h0 := key es ks 0 hk
    simp only [Instr.findKey, run_bind_ok (run_underlying h w)]
    rcases hnow with h1 | h1
    · rw [h1]; simp only [h0]; simp [findR]
    · subst h1
      cases ks with
      | nil => rfl
      | cons b ks => simp at hk
end
end Go.Hl
end
