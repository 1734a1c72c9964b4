/-
  Pages in frames: what stays true of them, and of what each page holds. No project text.
-/
import Derived.Test.YtiicgelmdmhajaaDoorP07B
namespace Go.Hl
set_option linter.unusedVariables false

section maps
variable {κ ν : Type} [DecidableEq κ]
theorem lookD_cons (p : κ × ν) (D : List (κ × ν)) (a : κ) : lookD (p :: D) a = if p.1 = a then some p.2 else lookD D a := by
  unfold lookD
  by_cases h : p.1 = a
  · rw [List.find?_cons_of_pos (by simpa using h), if_pos h]; rfl
  · rw [List.find?_cons_of_neg (by simpa using h), if_neg h]
theorem lookD_app1 (k : κ) (v : ν) (b : κ) : ∀ D : List (κ × ν), lookD D k = none → lookD (D ++ [(k, v)]) b = if k = b then some v else lookD D b
  | [], _ => by rw [List.nil_append, lookD_cons]
  | p :: D, h => by
    rw [lookD_cons] at h
    by_cases hp : p.1 = k
    · rw [if_pos hp] at h; cases h
    · rw [if_neg hp] at h
      rw [List.cons_append, lookD_cons, lookD_app1 k v b D h, lookD_cons]
      by_cases hb : p.1 = b
      · rw [if_pos hb, if_pos hb, if_neg (fun e => hp (hb.trans e.symm))]
      · rw [if_neg hb, if_neg hb]
theorem delD_cons (p : κ × ν) (D : List (κ × ν)) (a : κ) : delD (p :: D) a = if p.1 = a then D else p :: delD D a := by
  unfold delD
  rw [List.map_cons, List.findIdx?_cons]
  by_cases h : p.1 = a
  · rw [if_pos (by simpa using h), if_pos h]; rfl
  · rw [if_neg (by simpa using h), if_neg h]
    cases (D.map (·.1)).findIdx? (fun k => decide (k = a)) <;> rfl
theorem lookD_out : ∀ {D : List (κ × ν)} {a : κ}, a ∉ D.map (·.1) → lookD D a = none
  | [], _, _ => rfl
  | p :: D, a, h => by
    rw [List.map_cons, List.mem_cons, not_or] at h
    rw [lookD_cons, if_neg (fun e => h.1 e.symm)]; exact lookD_out h.2
theorem lookD_in : ∀ {D : List (κ × ν)} {a : κ}, a ∈ D.map (·.1) → ∃ v, lookD D a = some v
  | [], _, h => by simp at h
  | p :: D, a, h => by
    rw [lookD_cons]
    by_cases hp : p.1 = a
    · exact ⟨p.2, if_pos hp⟩
    · rw [if_neg hp]
      rw [List.map_cons, List.mem_cons] at h
      rcases h with h | h
      · exact absurd h.symm hp
      · exact lookD_in h
theorem lookD_key {D : List (κ × ν)} {a : κ} {v : ν} (h : lookD D a = some v) : a ∈ D.map (·.1) := by
  apply Classical.byContradiction
  intro hn
  rw [lookD_out hn] at h; cases h
theorem lookD_pair : ∀ {D : List (κ × ν)} {a : κ} {v : ν}, lookD D a = some v → (a, v) ∈ D
  | [], _, _, h => by cases h
  | p :: D, a, v, h => by
    rw [lookD_cons] at h
    by_cases hp : p.1 = a
    · rw [if_pos hp] at h; cases h; subst hp; exact List.mem_cons_self
    · rw [if_neg hp] at h; exact List.mem_cons_of_mem _ (lookD_pair h)
theorem lookD_of_mem : ∀ {D : List (κ × ν)} {a : κ} {v : ν}, (D.map (·.1)).Nodup → (a, v) ∈ D → lookD D a = some v
  | [], _, _, _, h => by cases h
  | p :: D, a, v, hn, h => by
    rw [List.map_cons, List.nodup_cons] at hn
    rw [lookD_cons]
    rcases List.mem_cons.1 h with h | h
    · subst h; exact if_pos rfl
    · rw [if_neg (fun e : p.1 = a => hn.1 (List.mem_map.2 ⟨_, h, e.symm⟩)), lookD_of_mem hn.2 h]
theorem lookD_del : ∀ {D : List (κ × ν)} (a b : κ), (D.map (·.1)).Nodup → lookD (delD D a) b = if a = b then none else lookD D b
  | [], a, b, _ => by
    have : delD ([] : List (κ × ν)) a = [] := rfl
    rw [this]; by_cases h : a = b <;> simp [h, lookD]
  | p :: D, a, b, hn => by
    rw [List.map_cons, List.nodup_cons] at hn
    rw [delD_cons, lookD_cons]
    by_cases hp : p.1 = a
    · rw [if_pos hp]
      by_cases hb : a = b
      · subst hb; rw [if_pos rfl]; exact lookD_out (hp ▸ hn.1)
      · rw [if_neg hb, if_neg (fun e => hb (hp.symm.trans e))]
    · rw [if_neg hp, lookD_cons, lookD_del a b hn.2]
      by_cases hb : p.1 = b
      · rw [if_pos hb, if_pos hb, if_neg (fun e => hp (hb.trans e.symm))]
      · rw [if_neg hb, if_neg hb]
theorem keys_del : ∀ (D : List (κ × ν)) (a : κ), List.Sublist (delD D a) D
  | [], a => List.Sublist.refl _
  | p :: D, a => by
    rw [delD_cons]
    by_cases hp : p.1 = a
    · rw [if_pos hp]; exact List.sublist_cons_self _ _
    · rw [if_neg hp]; exact (keys_del D a).cons_cons p
theorem nodup_del {D : List (κ × ν)} (a : κ) (h : (D.map (·.1)).Nodup) : ((delD D a).map (·.1)).Nodup := h.sublist ((keys_del D a).map _)
theorem len_del : ∀ {D : List (κ × ν)} {a : κ} {v : ν}, lookD D a = some v → (delD D a).length + 1 = D.length
  | [], _, _, h => by cases h
  | p :: D, a, v, h => by
    rw [lookD_cons] at h
    rw [delD_cons]
    by_cases hp : p.1 = a
    · rw [if_pos hp]; rfl
    · rw [if_neg hp] at h ⊢
      rw [List.length_cons, List.length_cons, len_del h]
theorem nodup_app1 {D : List (κ × ν)} {a : κ} {v : ν} (h : (D.map (·.1)).Nodup) (hl : lookD D a = none) : ((D ++ [(a, v)]).map (·.1)).Nodup := by
  rw [List.map_append, List.nodup_append]
  refine ⟨h, by simp, fun x hx y hy e => ?_⟩
  simp at hy
  subst e; subst hy
  obtain ⟨w, hw⟩ := lookD_in hx
  rw [hw] at hl; cases hl
end maps
theorem look_setM {α : Type} {id : Int} (l : α) (b : Int) : ∀ {E : List (Int × α)} {l0 : α}, lookD E id = some l0 → lookD (setM E id l) b = if id = b then some l else lookD E b
  | [], _, h => by cases h
  | e :: E, l0, h => by
    rw [lookD_cons] at h
    unfold setM
    by_cases he : e.1 = id
    · rw [if_pos he, lookD_cons, lookD_cons]
      by_cases hb : id = b
      · rw [if_pos (he.trans hb), if_pos hb]
      · rw [if_neg (fun x => hb (he.symm.trans x)), if_neg hb, if_neg (fun x => hb (he.symm.trans x))]
    · rw [if_neg he] at h ⊢
      rw [lookD_cons, look_setM l b h, lookD_cons]
      by_cases hb : e.1 = b
      · rw [if_pos hb, if_pos hb, if_neg (fun x => he (hb.trans x.symm))]
      · rw [if_neg hb, if_neg hb]
theorem keys_setM {α : Type} (id : Int) (l : α) : ∀ E : List (Int × α), (setM E id l).map (·.1) = E.map (·.1)
  | [] => rfl
  | e :: E => by
    unfold setM
    by_cases he : e.1 = id
    · rw [if_pos he]; rfl
    · rw [if_neg he, List.map_cons, List.map_cons, keys_setM id l E]
theorem mem_setM {α : Type} {id : Int} {l : α} {x : Int × α} : ∀ {E : List (Int × α)}, x ∈ setM E id l → x ∈ E ∨ (x.2 = l ∧ ∃ y ∈ E, y.1 = x.1)
  | [], h => by cases h
  | e :: E, h => by
    unfold setM at h
    by_cases he : e.1 = id
    · rw [if_pos he] at h
      rcases List.mem_cons.1 h with h | h
      · subst h; exact .inr ⟨rfl, e, List.mem_cons_self, rfl⟩
      · exact .inl (List.mem_cons_of_mem _ h)
    · rw [if_neg he] at h
      rcases List.mem_cons.1 h with h | h
      · subst h; exact .inl List.mem_cons_self
      · rcases mem_setM h with h | ⟨h, y, hy, h2⟩
        · exact .inl (List.mem_cons_of_mem _ h)
        · exact .inr ⟨h, y, List.mem_cons_of_mem _ hy, h2⟩

/-! ### the store, of which nothing fails -/
theorem opF_ok {s : StD} (h : s.fail < 0) : ∃ k, opF s = ({ s with ops := k }, true) := by
  refine ⟨IntKind.i64.wrap (s.ops + 1), ?_⟩
  unfold opF
  dsimp only
  rw [if_neg (by omega)]
theorem useF_okv {s : StD} {id : Int} {l : List UInt8} {r : Prop} [Decidable r] (h : s.fail < 0) (hl : lookD s.m id = some l) (hr : r) : ∃ k, useF s id r = ({ s with ops := k }, 0) := by
  obtain ⟨k, hk⟩ := opF_ok h
  exact ⟨k, by rw [(useF_op (id := id) (r := r) (by rw [hl]; simp) hr).1 (by rw [hk]), hk]⟩
theorem writeF_okv {s : StD} {id : Int} {l ys : List UInt8} (h : s.fail < 0) (hl : lookD s.m id = some l) (hy : ys.length = s.size) : ∃ k, writeF s id ys = ({ s with ops := k, m := setM s.m id ys }, 0) := by
  obtain ⟨k, hk⟩ := useF_okv (r := ys.length = s.size) h hl hy
  exact ⟨k, by rw [writeF_ok (by rw [hk]), hk]⟩
theorem freeF_okv {s : StD} {id : Int} {l : List UInt8} (h : s.fail < 0) (hl : lookD s.m id = some l) : ∃ k, freeF s id = ({ s with ops := k, m := delD s.m id }, 0) := by
  obtain ⟨k, hk⟩ := useF_okv (r := True) h hl trivial
  exact ⟨k, by rw [freeF_ok (by rw [hk]), hk, delD_rem]⟩
theorem readF_okv {s : StD} {id : Int} {l : List UInt8} (h : s.fail < 0) (hl : lookD s.m id = some l) : ∃ k, readF s id = ({ s with ops := k }, l, 0) := by
  obtain ⟨k, hk⟩ := useF_okv (r := True) h hl trivial
  exact ⟨k, by rw [readF_ok (by rw [hk]) hl, hk]⟩
theorem allocR_okv {s : StD} {g : StD × Int × Nat} (h : s.fail < 0) (hm : (s.m.length : Int) < s.cap) (hg : allocR s g) :
    ∃ (id k pk : Int), lookD s.m id = none ∧ g = ({ s with ops := k, m := s.m ++ [(id, List.replicate s.size 0)], peak := pk }, id, 0) := by
  obtain ⟨k, hk⟩ := opF_ok h
  rcases hg with ⟨h1, _⟩ | ⟨_, h2, _⟩ | ⟨_, _, id, _, hno, rfl⟩
  · rw [hk] at h1; cases h1
  · omega
  · rw [hk]; exact ⟨id, k, _, hno, rfl⟩
theorem StOk.write {s : StD} (h : StOk s) {id k : Int} {ys : List UInt8} (hy : ys.length = s.size) : StOk { s with ops := k, m := setM s.m id ys } :=
  ⟨h.size, h.cap, fun e he => by
    rcases mem_setM he with h1 | ⟨h1, _⟩
    · exact h.len e h1
    · rw [h1]; exact hy, fun e he => by
    rcases mem_setM he with h1 | ⟨_, y, hy, h1⟩
    · exact h.keys e h1
    · rw [← h1]; exact h.keys y hy, by
    have := congrArg List.length (keys_setM id ys s.m)
    simp at this
    show ((setM s.m id ys).length : Int) ≤ s.cap
    rw [this]; exact h.many, by
    show ((setM s.m id ys).map (·.1)).Nodup
    rw [keys_setM]; exact h.nodup⟩
theorem StOk.free {s : StD} (h : StOk s) {id k : Int} : StOk { s with ops := k, m := delD s.m id } :=
  ⟨h.size, h.cap, fun e he => h.len e ((keys_del s.m id).subset he), fun e he => h.keys e ((keys_del s.m id).subset he), by
    have := (keys_del s.m id).length_le
    have h2 := h.many
    show ((delD s.m id).length : Int) ≤ s.cap
    omega, nodup_del id h.nodup⟩

/-! ### an arena's bytes -/
theorem get_put_in {a : ArD} {x o n : Nat} {ys : List UInt8} (h : x + n ≤ a.bytes.length) (ho : o + ys.length ≤ n) : (a.put (x + o) ys).get x n = (a.get x n).take o ++ ys ++ (a.get x n).drop (o + ys.length) := by
  unfold ArD.put ArD.get
  apply List.ext_getElem?
  intro j
  simp only [List.getElem?_take, List.getElem?_drop, List.getElem?_append, List.length_append, List.length_take, List.length_drop]
  by_cases h1 : j < n
  · rw [if_pos h1]
    by_cases h2 : j < o
    · rw [if_pos (by omega), if_pos (by omega), if_pos (by omega), if_pos (by omega), if_pos (by omega), if_pos h2, if_pos (by omega)]
    · by_cases h3 : j < o + ys.length
      · rw [if_pos (by omega), if_neg (by omega), if_pos (by omega), if_neg (by omega)]
        congr 1; omega
      · rw [if_neg (by omega), if_neg (by omega), if_pos (by omega)]
        congr 1; omega
  · rw [if_neg h1]
    by_cases h3 : j < o + ys.length
    · omega
    · rw [if_neg (by omega), if_neg (by omega)]
theorem get_put_out {a : ArD} {x y n : Nat} {ys : List UInt8} (hx : x + ys.length ≤ a.bytes.length) (h : y + n ≤ x ∨ x + ys.length ≤ y) : (a.put x ys).get y n = a.get y n := by
  unfold ArD.put ArD.get
  apply List.ext_getElem?
  intro j
  simp only [List.getElem?_take, List.getElem?_drop, List.getElem?_append, List.length_append, List.length_take, List.length_drop]
  by_cases h1 : j < n
  · rw [if_pos h1, if_pos h1]
    rcases h with h | h
    · rw [if_pos (by omega), if_pos (by omega), if_pos (by omega)]
    · rw [if_neg (by omega)]
      congr 1; omega
  · rw [if_neg h1, if_neg h1]
theorem get_len {a : ArD} {x n : Nat} (h : x + n ≤ a.bytes.length) : (a.get x n).length = n := by
  unfold ArD.get; simp; omega
theorem get_get {a : ArD} {x n o m : Nat} (h : o + m ≤ n) : a.get (x + o) m = ((a.get x n).drop o).take m := by
  unfold ArD.get
  apply List.ext_getElem?
  intro j
  simp only [List.getElem?_take, List.getElem?_drop]
  by_cases h1 : j < m
  · rw [if_pos h1, if_pos h1, if_pos (by omega)]; congr 1; omega
  · rw [if_neg h1, if_neg h1]
theorem ArOk.put {Y : ArI} {a : ArD} (h : ArOk Y a) {x : Nat} {ys : List UInt8} (hx : x + ys.length ≤ Y.size) : ArOk Y (a.put x ys) :=
  ⟨by have := h.len; show (a.bytes.take x ++ ys ++ a.bytes.drop (x + ys.length)).length = Y.size; simp; omega, h.hi, h.most, h.live⟩
def spl (l : List UInt8) (o : Nat) (ys : List UInt8) : List UInt8 := l.take o ++ ys ++ l.drop (o + ys.length)
theorem spl_len {l ys : List UInt8} {o : Nat} (h : o + ys.length ≤ l.length) : (spl l o ys).length = l.length := by unfold spl; simp; omega
theorem zeros_rep {l : List UInt8} (h : zerosP l) : l = List.replicate l.length 0 := List.eq_replicate_iff.2 ⟨rfl, h⟩
theorem zeros_of_rep {n : Nat} : zerosP (List.replicate n 0) := fun x hx => (List.mem_replicate.1 hx).2
theorem spl_zero {l ys : List UInt8} {o : Nat} (hl : zerosP l) (hy : zerosP ys) (h : o + ys.length ≤ l.length) : spl l o ys = l := by
  have h2 : zerosP (spl l o ys) := fun x hx => by
    unfold spl at hx
    rcases List.mem_append.1 hx with hx | hx
    · rcases List.mem_append.1 hx with hx | hx
      · exact hl x (List.mem_of_mem_take hx)
      · exact hy x hx
    · exact hl x (List.mem_of_mem_drop hx)
  rw [zeros_rep h2, spl_len h]; exact (zeros_rep hl).symm

/-! ### the invariant -/
theorem set_get {α : Type} {l : List α} {i j : Nat} {x y : α} (h : (l.set i x)[j]? = some y) : (i = j ∧ y = x) ∨ (i ≠ j ∧ l[j]? = some y) := by
  rw [List.getElem?_set] at h
  by_cases e : i = j
  · rw [if_pos e] at h
    by_cases h2 : i < l.length
    · rw [if_pos h2] at h; cases h; exact .inl ⟨e, rfl⟩
    · rw [if_neg h2] at h; cases h
  · rw [if_neg e] at h; exact .inr ⟨e, h⟩
theorem set_here {α : Type} {l : List α} {i : Nat} {x y : α} (h : l[i]? = some y) : (l.set i x)[i]? = some x := by
  simp [(List.getElem?_eq_some_iff.1 h).1]
theorem set_there {α : Type} {l : List α} {i j : Nat} {x y : α} (h : l[j]? = some y) (e : i ≠ j) : (l.set i x)[j]? = some y := by
  rw [List.getElem?_set, if_neg e]; exact h

abbrev Cont := PairK → List UInt8
structure Inv (X : PgI) (p : PgD) (a : ArD) (s : StD) (C : Cont) (D : List PairK) : Prop where
  ok : PgOk X p a s
  opn : p.fault = 0 ∧ p.closed = false
  nf : s.fail < 0
  lenC : ∀ k, (C k).length = s.size
  inK : (p.inm.map (·.1)).Nodup
  in1 : ∀ k i, lookD p.inm k = some i → ∃ (j : Nat) (f : Fr), i = (j : Int) ∧ p.l[j]? = some f ∧ f.used = true ∧ f.k = k
  in2 : ∀ (j : Nat) (f : Fr), p.l[j]? = some f → f.used = true → lookD p.inm f.k = some (j : Int)
  apart : ∀ (i j : Nat) (f g : Fr), p.l[i]? = some f → p.l[j]? = some g → i ≠ j → f.at_ + s.size ≤ g.at_ ∨ g.at_ + s.size ≤ f.at_
  bmK : (p.bm.map (·.1)).Nodup
  inj : ∀ k k' id, lookD p.bm k = some id → lookD p.bm k' = some id → k = k'
  num : p.bm.length = s.m.length
  has : ∀ k id, lookD p.bm k = some id → ∃ l, lookD s.m id = some l ∧ ¬ zerosP l
  cnt : ∀ k id, lookD p.bm k = some id → k ∈ D
  few : (D.length : Int) ≤ s.cap
  nzD : ∀ k, ¬ zerosP (C k) → k ∈ D
  fr : ∀ (j : Nat) (f : Fr), p.l[j]? = some f → f.used = true → a.get f.at_ s.size = C f.k
  cl : ∀ k, (∀ (j : Nat) (f : Fr), p.l[j]? = some f → f.used = true → f.k = k → f.dirty = false) → (lookD p.bm k = none ∧ zerosP (C k)) ∨ ∃ id, lookD p.bm k = some id ∧ lookD s.m id = some (C k) ∧ ¬ zerosP (C k)

section
variable {X : PgI} {p : PgD} {a : ArD} {s : StD} {C : Cont} {D : List PairK} {i : Nat} {fr : Fr}
theorem Inv.place (h : Inv X p a s C D) (hi : p.l[i]? = some fr) : fr.at_ + s.size ≤ a.bytes.length := by
  have := (h.ok.room fr (List.mem_of_getElem? hi)).2
  rw [h.ok.ar.len]; exact this
theorem Inv.less (h : Inv X p a s C D) {D' : List PairK} (hs : ∀ k ∈ D, k ∈ D') (hf : (D'.length : Int) ≤ s.cap) : Inv X p a s C D' :=
  { h with cnt := fun k id hk => hs _ (h.cnt k id hk), few := hf, nzD := fun k hk => hs _ (h.nzD k hk) }

/-- a frame's page is now as its block is -/
theorem Inv.rebm (h : Inv X p a s C D) (hi : p.l[i]? = some fr) (hu : fr.used = true) {s' : StD} {bm' : List (PairK × Int)} (hst : StOk s') (hz : s'.size = s.size) (hc : s'.cap = s.cap) (hf : s'.fail = s.fail)
    (hk : (bm'.map (·.1)).Nodup) (hn : bm'.length = s'.m.length) (hb : ∀ k, k ≠ fr.k → lookD bm' k = lookD p.bm k) (hm : ∀ k id, k ≠ fr.k → lookD p.bm k = some id → lookD s'.m id = lookD s.m id)
    (hd : (lookD bm' fr.k = none ∧ zerosP (C fr.k)) ∨ ∃ id, lookD bm' fr.k = some id ∧ lookD s'.m id = some (C fr.k) ∧ ¬ zerosP (C fr.k) ∧ ∀ k, k ≠ fr.k → lookD p.bm k ≠ some id) :
    Inv X { p with l := p.l.set i { fr with dirty := false }, bm := bm' } a s' C D := by
  have hbm : ∀ k id, lookD bm' k = some id → (k ≠ fr.k ∧ lookD p.bm k = some id) ∨ (k = fr.k ∧ lookD s'.m id = some (C fr.k) ∧ ¬ zerosP (C fr.k) ∧ ∀ k, k ≠ fr.k → lookD p.bm k ≠ some id) := fun k id hk => by
    by_cases e : k = fr.k
    · subst e
      rcases hd with ⟨h1, _⟩ | ⟨id', h1, h2, h3, h4⟩
      · rw [h1] at hk; cases hk
      · rw [h1] at hk; cases hk; exact .inr ⟨rfl, h2, h3, h4⟩
    · exact .inl ⟨e, (hb k e) ▸ hk⟩
  refine ⟨⟨by simpa using h.ok.n, h.ok.pos, h.ok.most, h.ok.hand, fun f hf' => ?_, h.ok.ar, hst⟩, h.opn, hf ▸ h.nf, fun k => hz ▸ h.lenC k, h.inK, fun k j hk => ?_, fun j f hj hfu => ?_, fun j j' f g hj hj' hne => ?_, hk, ?_, hn, ?_, ?_, hc ▸ h.few, h.nzD, fun j f hj hfu => ?_, fun k hk => ?_⟩
  · obtain ⟨j, hj⟩ := List.mem_iff_getElem?.1 hf'
    rcases set_get hj with ⟨rfl, rfl⟩ | ⟨_, hj⟩
    · exact hz ▸ h.ok.room fr (List.mem_of_getElem? hi)
    · exact hz ▸ h.ok.room f (List.mem_of_getElem? hj)
  · obtain ⟨j', f, e, hj, hfu, hfk⟩ := h.in1 k j hk
    by_cases e2 : i = j'
    · subst e2
      rw [hi] at hj; cases hj
      exact ⟨i, _, e, set_here hi, hfu, hfk⟩
    · exact ⟨j', f, e, set_there hj e2, hfu, hfk⟩
  · rcases set_get hj with ⟨rfl, rfl⟩ | ⟨_, hj⟩
    · exact h.in2 i fr hi hu
    · exact h.in2 j f hj hfu
  · rw [hz]
    have pre : ∀ {j : Nat} {f : Fr}, (p.l.set i { fr with dirty := false })[j]? = some f → ∃ f0, p.l[j]? = some f0 ∧ f0.at_ = f.at_ := fun {j f} hj => by
      rcases set_get hj with ⟨rfl, rfl⟩ | ⟨_, hj⟩
      · exact ⟨fr, hi, rfl⟩
      · exact ⟨f, hj, rfl⟩
    obtain ⟨f0, h1, e1⟩ := pre hj
    obtain ⟨g0, h2, e2⟩ := pre hj'
    rw [← e1, ← e2]; exact h.apart j j' f0 g0 h1 h2 hne
  · intro k k' id h1 h2
    rcases hbm k id h1 with ⟨e1, g1⟩ | ⟨e1, _, _, g1⟩ <;> rcases hbm k' id h2 with ⟨e2, g2⟩ | ⟨e2, _, _, g2⟩
    · exact h.inj k k' id g1 g2
    · exact absurd g1 (g2 k e1)
    · exact absurd g2 (g1 k' e2)
    · rw [e1, e2]
  · intro k id h1
    rcases hbm k id h1 with ⟨e1, g1⟩ | ⟨e1, g2, g3, g1⟩
    · rw [hm k id e1 g1]; exact h.has k id g1
    · exact ⟨_, g2, g3⟩
  · intro k id h1
    rcases hbm k id h1 with ⟨e1, g1⟩ | ⟨e1, g2, g3, g1⟩
    · exact h.cnt k id g1
    · rw [e1]; exact h.nzD _ g3
  · rw [hz]
    rcases set_get hj with ⟨rfl, rfl⟩ | ⟨_, hj⟩
    · exact h.fr i fr hi hu
    · exact h.fr j f hj hfu
  · by_cases e : k = fr.k
    · subst e
      rcases hd with hd | ⟨id, h1, h2, h3, _⟩
      · exact .inl hd
      · exact .inr ⟨id, h1, h2, h3⟩
    · have h1 := h.cl k fun j f hj hfu hfk => by
        by_cases e2 : i = j
        · subst e2; rw [hi] at hj; cases hj; exact absurd hfk.symm e
        · exact hk j f (set_there hj e2) hfu hfk
      rcases h1 with ⟨g1, g2⟩ | ⟨id, g1, g2, g3⟩
      · exact .inl ⟨(hb k e).trans g1, g2⟩
      · exact .inr ⟨id, (hb k e).trans g1, (hm k id e g1).trans g2, g3⟩

theorem Inv.less_cap (h : Inv X p a s C D) {k : PairK} (hno : lookD p.bm k = none) (hk : k ∈ D) : (s.m.length : Int) < s.cap := by
  have h1 : (k :: p.bm.map (·.1)).Nodup := List.nodup_cons.2 ⟨fun hm => (lookD_in hm).elim fun v hv => by (rw [hv] at hno; cases hno), h.bmK⟩
  have h2 := pigeon (m := D) h1 fun x hx => by
    rcases List.mem_cons.1 hx with hx | hx
    · rw [hx]; exact hk
    · obtain ⟨v, hv⟩ := lookD_in hx
      exact h.cnt x v hv
  have h3 := h.few
  have h4 := h.num
  simp at h2
  omega

/-- what saving leaves -/
structure SavedF (p p1 : PgD) (i : Nat) (fr : Fr) : Prop where
  ex : ∃ fr' : Fr, p1.l = p.l.set i fr' ∧ fr'.at_ = fr.at_ ∧ fr'.k = fr.k ∧ fr'.used = fr.used ∧ (fr'.used = true → fr'.dirty = false)
  inm : p1.inm = p.inm
theorem set_same {α : Type} {l : List α} {i : Nat} {x : α} (h : l[i]? = some x) : l.set i x = l := by
  apply List.ext_getElem?
  intro j
  rw [List.getElem?_set]
  by_cases e : i = j
  · subst e; rw [if_pos rfl, if_pos (List.getElem?_eq_some_iff.1 h).1, h]
  · rw [if_neg e]
theorem Inv.save (h : Inv X p a s C D) (hi : p.l[i]? = some fr) {g : PgD × StD × Nat} (hs : SaveR p a s i fr g) : g.2.2 = 0 ∧ Inv X g.1 a g.2.1 C D ∧ SavedF p g.1 i fr ∧ g.2.1.size = s.size ∧ g.2.1.cap = s.cap := by
  have hsame : SavedF p { p with l := p.l.set i { fr with dirty := false } } i fr := ⟨⟨_, rfl, rfl, rfl, rfl, fun _ => rfl⟩, rfl⟩
  have hst := h.ok.st
  cases hs with
  | clean hc => exact ⟨rfl, h, ⟨⟨fr, (set_same hi).symm, rfl, rfl, rfl, fun hu => by cases hd : fr.dirty with | false => rfl | true => exact absurd ⟨hu, hd⟩ hc⟩, rfl⟩, rfl, rfl⟩
  | zero hud hz =>
    have hfr := h.fr i fr hi hud.1
    rw [hfr] at hz
    unfold freePF
    show (match lookD p.bm fr.k with | none => _ | some id => _ : PgD × StD × Nat).2.2 = 0 ∧ _
    cases hb : lookD p.bm fr.k with
    | none =>
      simp only [PgD.setF, hb]
      exact ⟨trivial, h.rebm hi hud.1 hst rfl rfl rfl h.bmK h.num (fun _ _ => rfl) (fun _ _ _ _ => rfl) (.inl ⟨hb, hz⟩), hsame, trivial, trivial⟩
    | some id =>
      obtain ⟨l, hl, _⟩ := h.has _ _ hb
      obtain ⟨k, hk⟩ := freeF_okv h.nf hl
      simp only [PgD.setF, hb, hk]
      refine ⟨trivial, h.rebm hi hud.1 hst.free rfl rfl rfl (nodup_del _ h.bmK) ?_ (fun k' hk' => ?_) (fun k' id' hk' hid' => ?_) (.inl ⟨?_, hz⟩), ⟨⟨_, rfl, rfl, rfl, rfl, fun _ => rfl⟩, rfl⟩, trivial, trivial⟩
      · have h1 := len_del hb; have h2 := len_del hl; have h3 := h.num
        show (delD p.bm fr.k).length = (delD s.m id).length
        omega
      · rw [lookD_del _ _ h.bmK, if_neg (fun e => hk' e.symm)]
      · show lookD (delD s.m id) id' = _
        rw [lookD_del _ _ hst.nodup, if_neg (fun e : id = id' => hk' (h.inj k' fr.k id (e ▸ hid') hb))]
      · rw [lookD_del _ _ h.bmK, if_pos rfl]
  | has hud hz id hid =>
    have hfr := h.fr i fr hi hud.1
    obtain ⟨l, hl, _⟩ := h.has _ _ hid
    have hln : (a.get fr.at_ s.size).length = s.size := get_len (h.place hi)
    obtain ⟨k, hk⟩ := writeF_okv h.nf hl hln
    rw [hk]
    refine ⟨rfl, h.rebm hi hud.1 (hst.write hln) rfl rfl rfl h.bmK ?_ (fun _ _ => rfl) (fun k' id' hk' hid' => ?_) (.inr ⟨id, hid, ?_, hfr ▸ hz, fun k' hk' hb => hk' (h.inj k' fr.k id hb hid)⟩), hsame, rfl, rfl⟩
    · have h2 := congrArg List.length (keys_setM id (a.get fr.at_ s.size) s.m)
      simp at h2
      show p.bm.length = (setM s.m id (a.get fr.at_ s.size)).length
      rw [h2]; exact h.num
    · show lookD (setM s.m id _) id' = _
      rw [look_setM _ _ hl, if_neg (fun e : id = id' => hk' (h.inj k' fr.k id (e ▸ hid') hid))]
    · show lookD (setM s.m id _) id = _
      rw [look_setM _ _ hl, if_pos rfl, hfr]
  | full hud hz hid ga hga he =>
    have hfr := h.fr i fr hi hud.1
    obtain ⟨id, k, pk, _, rfl⟩ := allocR_okv h.nf (h.less_cap hid (h.nzD _ (hfr ▸ hz))) hga
    exact absurd rfl he
  | new hud hz hid ga hga he =>
    have hfr := h.fr i fr hi hud.1
    have hln : (a.get fr.at_ s.size).length = s.size := get_len (h.place hi)
    have hso := (hst.alloc hga).1
    obtain ⟨id, k, pk, hno, rfl⟩ := allocR_okv h.nf (h.less_cap hid (h.nzD _ (hfr ▸ hz))) hga
    have hl1 : lookD (s.m ++ [(id, List.replicate s.size (0 : UInt8))]) id = some (List.replicate s.size 0) := by rw [lookD_app1 _ _ _ _ hno, if_pos rfl]
    obtain ⟨k2, hk2⟩ := writeF_okv (s := { s with ops := k, m := s.m ++ [(id, List.replicate s.size 0)], peak := pk }) h.nf hl1 hln
    have hnn : ∀ k' id', lookD p.bm k' = some id' → id' ≠ id := fun k' id' h1 e => by
      obtain ⟨l, hl, _⟩ := h.has k' id' h1
      rw [e, hno] at hl; cases hl
    rw [hk2, updD_new _ hid]
    refine ⟨rfl, h.rebm hi hud.1 (hso.write hln) rfl rfl rfl (nodup_app1 h.bmK hid) ?_ (fun k' hk' => ?_) (fun k' id' hk' hid' => ?_) (.inr ⟨id, ?_, ?_, hfr ▸ hz, fun k' hk' hb => hnn _ _ hb rfl⟩), ⟨⟨_, rfl, rfl, rfl, rfl, fun _ => rfl⟩, rfl⟩, rfl, rfl⟩
    · have h2 := congrArg List.length (keys_setM id (a.get fr.at_ s.size) (s.m ++ [(id, List.replicate s.size (0 : UInt8))]))
      have h3 := h.num
      simp at h2
      show (p.bm ++ [(fr.k, id)]).length = (setM (s.m ++ [(id, List.replicate s.size (0 : UInt8))]) id (a.get fr.at_ s.size)).length
      rw [h2]; simp; exact h3
    · rw [lookD_app1 _ _ _ _ hid, if_neg (fun e => hk' e.symm)]
    · show lookD (setM (s.m ++ [(id, List.replicate s.size (0 : UInt8))]) id (a.get fr.at_ s.size)) id' = _
      rw [look_setM _ _ hl1, if_neg (fun e => hnn k' id' hid' e.symm), lookD_app1 _ _ _ _ hno, if_neg (fun e => hnn k' id' hid' e.symm)]
    · rw [lookD_app1 _ _ _ _ hid, if_pos rfl]
    · show lookD (setM (s.m ++ [(id, List.replicate s.size (0 : UInt8))]) id (a.get fr.at_ s.size)) id = _
      rw [look_setM _ _ hl1, if_pos rfl, hfr]

/-! ### steps of frames -/
structure SameFr (f g : Fr) : Prop where
  at_ : g.at_ = f.at_
  k : g.k = f.k
  used : g.used = f.used
  dirty : g.dirty = f.dirty
theorem Inv.relab (h : Inv X p a s C D) {l' : List Fr} {hd : Nat} (hn : l'.length = p.l.length) (h1 : ∀ (j : Nat) (f : Fr), l'[j]? = some f → ∃ g, p.l[j]? = some g ∧ SameFr f g) (h2 : ∀ (j : Nat) (g : Fr), p.l[j]? = some g → ∃ f, l'[j]? = some f ∧ SameFr f g) (hh : hd < X.n) : Inv X { p with l := l', hand := hd } a s C D := by
  refine { h with ok := ⟨by rw [← h.ok.n]; exact hn, h.ok.pos, h.ok.most, hh, fun f hf => ?_, h.ok.ar, h.ok.st⟩, in1 := fun k i hk => ?_, in2 := fun j f hj hu => ?_, apart := fun j j' f f' hj hj' hne => ?_, fr := fun j f hj hu => ?_, cl := fun k hk => h.cl k fun j g hj hu hgk => ?_ }
  · obtain ⟨j, hj⟩ := List.mem_iff_getElem?.1 hf
    obtain ⟨g, hg, e⟩ := h1 j f hj
    rw [← e.at_]; exact h.ok.room g (List.mem_of_getElem? hg)
  · obtain ⟨j, g, e, hj, hu, hgk⟩ := h.in1 k i hk
    obtain ⟨f, hf, e2⟩ := h2 j g hj
    exact ⟨j, f, e, hf, e2.used ▸ hu, e2.k ▸ hgk⟩
  · obtain ⟨g, hg, e⟩ := h1 j f hj
    rw [← e.k]; exact h.in2 j g hg (e.used.trans hu)
  · obtain ⟨g, hg, e⟩ := h1 j f hj
    obtain ⟨g', hg', e'⟩ := h1 j' f' hj'
    rw [← e.at_, ← e'.at_]; exact h.apart j j' g g' hg hg' hne
  · obtain ⟨g, hg, e⟩ := h1 j f hj
    rw [← e.k, ← e.at_]; exact h.fr j g hg (e.used.trans hu)
  · obtain ⟨f, hf, e⟩ := h2 j g hj
    rw [e.dirty]; exact hk j f hf (e.used ▸ hu) (e.k ▸ hgk)
theorem same_of_unseen {f g : Fr} (h : unseen g = unseen f) : SameFr f g := by
  unfold unseen at h
  cases f; cases g
  simp only [Fr.mk.injEq] at h
  exact ⟨h.1, h.2.1, h.2.2.1, h.2.2.2.2⟩
theorem Inv.vic (h : Inv X p a s C D) {p1 : PgD} (hv : VicR X p p1) : Inv X p1 a s C D := by
  rw [hv.rest]
  have hl := hv.l
  refine h.relab (by rw [hv.len, h.ok.n]) (fun j f hj => ?_) (fun j g hj => ?_) hv.hand
  · have := congrArg (fun l => l[j]?) hl
    simp only [List.getElem?_map, hj, Option.map_some] at this
    cases hg : p.l[j]? with
    | none => rw [hg] at this; cases this
    | some g => rw [hg] at this; simp only [Option.map_some, Option.some.injEq] at this; exact ⟨g, rfl, same_of_unseen this.symm⟩
  · have := congrArg (fun l => l[j]?) hl
    simp only [List.getElem?_map, hj, Option.map_some] at this
    cases hg : p1.l[j]? with
    | none => rw [hg] at this; cases this
    | some f => rw [hg] at this; simp only [Option.map_some, Option.some.injEq] at this; exact ⟨f, rfl, same_of_unseen this.symm⟩
theorem Inv.seen (h : Inv X p a s C D) (hi : p.l[i]? = some fr) : Inv X { p with l := p.l.set i { fr with seen := true } } a s C D :=
  h.relab (hd := p.hand) (by simp) (fun j f hj => by
    rcases set_get hj with ⟨rfl, rfl⟩ | ⟨_, hj⟩
    · exact ⟨fr, hi, rfl, rfl, rfl, rfl⟩
    · exact ⟨f, hj, rfl, rfl, rfl, rfl⟩) (fun j g hj => by
    by_cases e : i = j
    · subst e; rw [hi] at hj; cases hj; exact ⟨_, set_here hi, rfl, rfl, rfl, rfl⟩
    · exact ⟨g, set_there hj e, rfl, rfl, rfl, rfl⟩) h.ok.hand

/-- a frame is given another page, or none; its old page was saved, or is forgotten -/
theorem Inv.refr (h : Inv X p a s C D) (hi : p.l[i]? = some fr) {f' : Fr} (hat : f'.at_ = fr.at_) {a' : ArD} {C' : Cont} {inm' : List (PairK × Int)} (har : ArOk X.Y a') (hlen : ∀ k, (C' k).length = s.size) (hK : (inm'.map (·.1)).Nodup)
    (hin : ∀ k, lookD inm' k = if f'.used = true ∧ f'.k = k then some (i : Int) else if fr.used = true ∧ fr.k = k then none else lookD p.inm k)
    (hnew : f'.used = true → (fr.used = true ∧ fr.k = f'.k) ∨ lookD p.inm f'.k = none)
    (hget : ∀ (j : Nat) (f : Fr), p.l[j]? = some f → i ≠ j → a'.get f.at_ s.size = a.get f.at_ s.size) (hfr : f'.used = true → a'.get fr.at_ s.size = C' f'.k)
    (hC : ∀ k, k ≠ fr.k → k ≠ f'.k → C' k = C k) (hnz : ∀ k, ¬ zerosP (C' k) → k ∈ D) (hCo : ∀ (j : Nat) (f : Fr), p.l[j]? = some f → i ≠ j → f.used = true → C' f.k = C f.k)
    (hcl : ∀ k, (k = fr.k ∨ k = f'.k) → (∀ (j : Nat) (f : Fr), (p.l.set i f')[j]? = some f → f.used = true → f.k = k → f.dirty = false) → (lookD p.bm k = none ∧ zerosP (C' k)) ∨ ∃ id, lookD p.bm k = some id ∧ lookD s.m id = some (C' k) ∧ ¬ zerosP (C' k)) :
    Inv X { p with l := p.l.set i f', inm := inm' } a' s C' D := by
  refine ⟨⟨by simpa using h.ok.n, h.ok.pos, h.ok.most, h.ok.hand, fun f hf => ?_, har, h.ok.st⟩, h.opn, h.nf, hlen, hK, fun k j hk => ?_, fun j f hj hu => ?_, fun j j' f g hj hj' hne => ?_, h.bmK, h.inj, h.num, h.has, h.cnt, h.few, hnz, fun j f hj hu => ?_, fun k hk => ?_⟩
  · obtain ⟨j, hj⟩ := List.mem_iff_getElem?.1 hf
    rcases set_get hj with ⟨rfl, rfl⟩ | ⟨_, hj⟩
    · rw [hat]; exact h.ok.room fr (List.mem_of_getElem? hi)
    · exact h.ok.room f (List.mem_of_getElem? hj)
  · have hk' : lookD inm' k = some j := hk
    rw [hin k] at hk'
    by_cases e1 : f'.used = true ∧ f'.k = k
    · rw [if_pos e1] at hk'; cases hk'
      exact ⟨i, f', rfl, set_here hi, e1.1, e1.2⟩
    · rw [if_neg e1] at hk'
      by_cases e2 : fr.used = true ∧ fr.k = k
      · rw [if_pos e2] at hk'; cases hk'
      · rw [if_neg e2] at hk'
        obtain ⟨j', f, e, hj, hu, hfk⟩ := h.in1 k j hk'
        by_cases e3 : i = j'
        · subst e3; rw [hi] at hj; cases hj; exact absurd ⟨hu, hfk⟩ e2
        · exact ⟨j', f, e, set_there hj e3, hu, hfk⟩
  · show lookD inm' f.k = some (j : Int)
    rcases set_get hj with ⟨rfl, rfl⟩ | ⟨hne, hj⟩
    · rw [hin, if_pos ⟨hu, rfl⟩]
    · have h3 := h.in2 j f hj hu
      have e2 : ¬ (fr.used = true ∧ fr.k = f.k) := fun e => by
        have h4 := h.in2 i fr hi e.1
        rw [e.2, h3] at h4
        have h5 : (j : Int) = (i : Int) := Option.some.inj h4
        omega
      rw [hin, if_neg, if_neg e2, h3]
      intro e
      rcases hnew e.1 with h4 | h4
      · exact e2 ⟨h4.1, h4.2.trans e.2⟩
      · rw [e.2, h3] at h4; cases h4
  · have pre : ∀ {j : Nat} {f : Fr}, (p.l.set i f')[j]? = some f → ∃ f0, p.l[j]? = some f0 ∧ f0.at_ = f.at_ := fun {j f} hj => by
      rcases set_get hj with ⟨rfl, rfl⟩ | ⟨_, hj⟩
      · exact ⟨fr, hi, hat.symm⟩
      · exact ⟨f, hj, rfl⟩
    obtain ⟨f0, h1, e1⟩ := pre hj
    obtain ⟨g0, h2, e2⟩ := pre hj'
    rw [← e1, ← e2]; exact h.apart j j' f0 g0 h1 h2 hne
  · rcases set_get hj with ⟨rfl, rfl⟩ | ⟨hne, hj⟩
    · rw [hat]; exact hfr hu
    · rw [hget j f hj hne, h.fr j f hj hu, hCo j f hj hne hu]
  · by_cases e : k = fr.k ∨ k = f'.k
    · exact hcl k e hk
    · rw [not_or] at e
      rw [hC k e.1 e.2]
      exact h.cl k fun j f hj hu hfk => by
        by_cases e2 : i = j
        · subst e2; rw [hi] at hj; cases hj; exact absurd hfk.symm e.1
        · exact hk j f (set_there hj e2) hu hfk

theorem Inv.evict (h : Inv X p a s C D) (hi : p.l[i]? = some fr) (hu : fr.used = true) (hd : fr.dirty = false) : Inv X { p with l := p.l.set i { fr with used := false }, inm := delD p.inm fr.k } a s C D :=
  h.refr (f' := { fr with used := false }) hi rfl h.ok.ar h.lenC (nodup_del _ h.inK) (fun k => by rw [lookD_del _ _ h.inK]; simp [hu]) (fun e => by cases e) (fun _ _ _ _ => rfl) (fun e => by cases e) (fun _ _ _ => rfl) h.nzD (fun _ _ _ _ _ => rfl)
    (fun k hk hcl => h.cl k fun j f hj hfu hfk => by
      by_cases e : i = j
      · subst e; rw [hi] at hj; cases hj; exact hd
      · exact hcl j f (set_there hj e) hfu hfk)
theorem Inv.load (h : Inv X p a s C D) (hi : p.l[i]? = some fr) (hu : fr.used = false) {k : PairK} (hk : lookD p.inm k = none) :
    Inv X { p with l := p.l.set i ⟨fr.at_, k, true, false, false⟩, inm := updD p.inm k (i : Int) } (a.put fr.at_ (C k)) s C D := by
  have hpl := h.place hi
  have hln := h.lenC k
  have hrm := h.ok.room fr (List.mem_of_getElem? hi)
  refine h.refr (f' := ⟨fr.at_, k, true, false, false⟩) hi rfl (h.ok.ar.put (by omega)) h.lenC ?_ (fun k' => ?_) (fun _ => .inr hk) (fun j f hj hne => ?_) (fun _ => ?_) (fun _ _ _ => rfl) h.nzD (fun _ _ _ _ _ => rfl) (fun k' _ hcl => ?_)
  · rw [updD_new _ hk]; exact nodup_app1 h.inK hk
  · rw [updD_new _ hk, lookD_app1 _ _ _ _ hk]; simp [hu]
  · refine get_put_out (by omega) ?_
    rcases h.apart i j fr f hi hj hne with h1 | h1
    · right; omega
    · left; omega
  · have := get_put_in (a := a) (x := fr.at_) (o := 0) (n := s.size) (ys := C k) hpl (by omega)
    rw [Nat.add_zero] at this
    rw [this, List.take_zero, List.nil_append, Nat.zero_add, List.drop_of_length_le (by rw [get_len hpl]; omega), List.append_nil]
  · exact h.cl k' fun j f hj hfu hfk => by
      by_cases e : i = j
      · subst e; rw [hi] at hj; cases hj; rw [hu] at hfu; cases hfu
      · exact hcl j f (set_there hj e) hfu hfk
def updC (C : Cont) (k : PairK) (l : List UInt8) : Cont := fun k' => if k' = k then l else C k'
theorem Inv.write (h : Inv X p a s C D) (hi : p.l[i]? = some fr) (hu : fr.used = true) {o : Nat} {ys : List UInt8} (ho : o + ys.length ≤ s.size) (hD : fr.k ∈ D) :
    Inv X { p with l := p.l.set i { fr with dirty := true } } (a.put (fr.at_ + o) ys) s (updC C fr.k (spl (C fr.k) o ys)) D := by
  have hpl := h.place hi
  have hln := h.lenC fr.k
  have hrm := h.ok.room fr (List.mem_of_getElem? hi)
  have hfr := h.fr i fr hi hu
  refine h.refr hi (f' := { fr with dirty := true }) (inm' := p.inm) rfl (h.ok.ar.put (by omega)) (fun k' => ?_) h.inK (fun k' => ?_) (fun _ => .inl ⟨hu, rfl⟩) (fun j f hj hne => ?_) (fun _ => ?_) (fun k' h1 _ => ?_) (fun k' hk' => ?_) (fun j f hj hne hfu => ?_) (fun k' hk' hcl => ?_)
  · unfold updC; split
    · rw [spl_len (by omega)]; exact hln
    · exact h.lenC k'
  · by_cases e : fr.k = k'
    · subst e; rw [if_pos ⟨hu, rfl⟩]; exact h.in2 i fr hi hu
    · rw [if_neg (fun x => e x.2), if_neg (fun x => e x.2)]
  · refine get_put_out (by omega) ?_
    rcases h.apart i j fr f hi hj hne with h1 | h1
    · right; omega
    · left; omega
  · rw [get_put_in hpl ho, hfr]
    show _ = updC C fr.k _ fr.k
    unfold updC; rw [if_pos rfl]; rfl
  · unfold updC; rw [if_neg h1]
  · unfold updC at hk'
    by_cases e : k' = fr.k
    · rw [e]; exact hD
    · rw [if_neg e] at hk'; exact h.nzD k' hk'
  · unfold updC
    rw [if_neg]
    intro e
    have h1 := h.in2 j f hj hfu
    have h2 := h.in2 i fr hi hu
    rw [e, h2] at h1
    have h3 : (i : Int) = (j : Int) := Option.some.inj h1
    omega
  · have e : k' = fr.k := hk'.elim id id
    have := hcl i _ (set_here hi) hu e.symm
    cases this
/-- what a page's block says -/
def blkC (p : PgD) (s : StD) (k : PairK) : List UInt8 := match lookD p.bm k with
  | some id => (lookD s.m id).getD []
  | none => List.replicate s.size 0
theorem Inv.blk (h : Inv X p a s C D) (k : PairK) : (blkC p s k).length = s.size ∧ ((lookD p.bm k = none ∧ zerosP (blkC p s k)) ∨ ∃ id, lookD p.bm k = some id ∧ lookD s.m id = some (blkC p s k) ∧ ¬ zerosP (blkC p s k)) := by
  unfold blkC
  cases hb : lookD p.bm k with
  | none => exact ⟨by simp, .inl ⟨rfl, zeros_of_rep⟩⟩
  | some id =>
    obtain ⟨l, hl, hz⟩ := h.has k id hb
    refine ⟨?_, .inr ⟨id, rfl, ?_⟩⟩
    · obtain ⟨e, he, e2⟩ := lookD_mem hl
      simp only [hl, Option.getD_some]
      rw [← e2]; exact h.ok.st.len e he
    · simp only [hl, Option.getD_some]
      exact ⟨trivial, hz⟩
theorem Inv.drop1 (h : Inv X p a s C D) (hi : p.l[i]? = some fr) (hu : fr.used = true) {k0 : PairK} : Inv X { p with l := p.l.set i ⟨fr.at_, k0, false, false, false⟩, inm := delD p.inm fr.k } a s (updC C fr.k (blkC p s fr.k)) D := by
  have hb := h.blk fr.k
  have other : ∀ (j : Nat) (f : Fr), p.l[j]? = some f → i ≠ j → f.used = true → f.k ≠ fr.k := fun j f hj hne hfu e => by
    have h1 := h.in2 j f hj hfu
    have h2 := h.in2 i fr hi hu
    rw [e, h2] at h1
    have h3 : (i : Int) = (j : Int) := Option.some.inj h1
    omega
  have base : ∀ k, (lookD p.bm k = none ∧ zerosP (C k)) ∨ (∃ id, lookD p.bm k = some id ∧ lookD s.m id = some (C k) ∧ ¬ zerosP (C k)) → k ≠ fr.k → (lookD p.bm k = none ∧ zerosP (updC C fr.k (blkC p s fr.k) k)) ∨ ∃ id, lookD p.bm k = some id ∧ lookD s.m id = some (updC C fr.k (blkC p s fr.k) k) ∧ ¬ zerosP (updC C fr.k (blkC p s fr.k) k) := fun k hk e => by
    unfold updC; rw [if_neg e]; exact hk
  refine h.refr (f' := ⟨fr.at_, k0, false, false, false⟩) hi rfl h.ok.ar (fun k => ?_) (nodup_del _ h.inK) (fun k => by rw [lookD_del _ _ h.inK]; simp [hu]) (fun e => by cases e) (fun _ _ _ _ => rfl) (fun e => by cases e) (fun k e _ => ?_) (fun k hk => ?_) (fun j f hj hne hfu => ?_) (fun k _ hcl => ?_)
  · unfold updC; split
    · exact hb.1
    · exact h.lenC k
  · unfold updC; rw [if_neg e]
  · unfold updC at hk
    by_cases e : k = fr.k
    · rw [if_pos e] at hk
      rcases hb.2 with h1 | ⟨id, h1, _⟩
      · exact absurd h1.2 hk
      · rw [e]; exact h.cnt _ _ h1
    · rw [if_neg e] at hk; exact h.nzD k hk
  · unfold updC; rw [if_neg (other j f hj hne hfu)]
  · by_cases e : k = fr.k
    · subst e
      have : updC C fr.k (blkC p s fr.k) fr.k = blkC p s fr.k := if_pos rfl
      rw [this]; exact hb.2
    · refine base k (h.cl k fun j f hj hfu hfk => ?_) e
      by_cases e2 : i = j
      · subst e2; rw [hi] at hj; cases hj; exact absurd hfk.symm e
      · exact hcl j f (set_there hj e2) hfu hfk
theorem Inv.noFr (h : Inv X p a s C D) {k : PairK} (hk : lookD p.inm k = none) : (lookD p.bm k = none ∧ zerosP (C k)) ∨ ∃ id, lookD p.bm k = some id ∧ lookD s.m id = some (C k) ∧ ¬ zerosP (C k) :=
  h.cl k fun j f hj hu hfk => by
    have := h.in2 j f hj hu
    rw [hfk, hk] at this; cases this
theorem Inv.unknown (h : Inv X p a s C D) {k : PairK} (hk : ¬ knownP p k) : zerosP (C k) := by
  unfold knownP at hk
  rw [not_or] at hk
  have h1 : lookD p.inm k = none := by cases hq : lookD p.inm k with | none => rfl | some v => (rw [hq] at hk; exact absurd rfl hk.1)
  have h2 : lookD p.bm k = none := by cases hq : lookD p.bm k with | none => rfl | some v => (rw [hq] at hk; exact absurd rfl hk.2)
  rcases h.noFr h1 with h3 | ⟨id, h3, _⟩
  · exact h3.2
  · rw [h2] at h3; cases h3
theorem Inv.free (h : Inv X p a s C D) {k : PairK} (hk : lookD p.inm k = none) {g : PgD × StD × Nat} (hg : g = freePF p s k) : g.2.2 = 0 ∧ Inv X g.1 a g.2.1 (updC C k (List.replicate s.size 0)) D ∧ g.2.1.size = s.size ∧ g.1.l = p.l ∧ g.1.inm = p.inm ∧ (∀ k', lookD g.1.bm k' = if k' = k then none else lookD p.bm k') ∧ g.2.1.cap = s.cap := by
  have hst := h.ok.st
  have key : ∀ (bm' : List (PairK × Int)) (s' : StD), StOk s' → s'.size = s.size → s'.cap = s.cap → s'.fail = s.fail → (bm'.map (·.1)).Nodup → bm'.length = s'.m.length → (∀ k', lookD bm' k' = if k' = k then none else lookD p.bm k') →
      (∀ k' id, k' ≠ k → lookD p.bm k' = some id → lookD s'.m id = lookD s.m id) → Inv X { p with bm := bm' } a s' (updC C k (List.replicate s.size 0)) D := by
    intro bm' s' h1 h2 h3 h4 h5 h6 h7 h8
    have hbm : ∀ k' id, lookD bm' k' = some id → k' ≠ k ∧ lookD p.bm k' = some id := fun k' id hk' => by
      rw [h7] at hk'
      by_cases e : k' = k
      · rw [if_pos e] at hk'; cases hk'
      · rw [if_neg e] at hk'; exact ⟨e, hk'⟩
    refine ⟨⟨h.ok.n, h.ok.pos, h.ok.most, h.ok.hand, fun f hf => h2 ▸ h.ok.room f hf, h.ok.ar, h1⟩, h.opn, h4 ▸ h.nf, fun k' => ?_, h.inK, h.in1, h.in2, fun i j f g hf hg hne => h2 ▸ h.apart i j f g hf hg hne, h5, fun k1 k2 id e1 e2 => h.inj k1 k2 id (hbm _ _ e1).2 (hbm _ _ e2).2, h6, fun k' id hk' => ?_, fun k' id hk' => h.cnt k' id (hbm _ _ hk').2, h3 ▸ h.few, fun k' hk' => ?_, fun j f hj hu => ?_, fun k' hk' => ?_⟩
    · unfold updC; split
      · rw [h2]; simp
      · rw [h2]; exact h.lenC k'
    · rw [h8 k' id (hbm _ _ hk').1 (hbm _ _ hk').2]; exact h.has k' id (hbm _ _ hk').2
    · unfold updC at hk'
      by_cases e : k' = k
      · rw [if_pos e] at hk'; exact absurd zeros_of_rep hk'
      · rw [if_neg e] at hk'; exact h.nzD k' hk'
    · have e : f.k ≠ k := fun e => by
        have := h.in2 j f hj hu
        rw [e, hk] at this; cases this
      unfold updC; rw [if_neg e, h2]; exact h.fr j f hj hu
    · by_cases e : k' = k
      · left
        refine ⟨by show lookD bm' k' = none; rw [h7, if_pos e], ?_⟩
        unfold updC; rw [if_pos e]; exact zeros_of_rep
      · have e3 : updC C k (List.replicate s.size 0) k' = C k' := if_neg e
        have e4 : lookD bm' k' = lookD p.bm k' := by rw [h7, if_neg e]
        rw [e3]
        show (lookD bm' k' = none ∧ _) ∨ ∃ id, lookD bm' k' = some id ∧ _
        rw [e4]
        rcases h.cl k' hk' with h9 | ⟨id, h9, h10, h11⟩
        · exact .inl h9
        · exact .inr ⟨id, h9, (h8 k' id e h9).trans h10, h11⟩
  subst hg
  cases hb : lookD p.bm k with
  | none =>
    have e0 : freePF p s k = (p, s, 0) := by unfold freePF; rw [hb]
    rw [e0]
    refine ⟨rfl, key p.bm s hst rfl rfl rfl h.bmK h.num (fun k' => ?_) (fun _ _ _ _ => rfl), rfl, rfl, rfl, fun k' => ?_, rfl⟩
    · split
      · rename_i e; rw [e, hb]
      · rfl
    · split
      · rename_i e; simp only [e, hb]
      · rfl
  | some id =>
    obtain ⟨l, hl, _⟩ := h.has _ _ hb
    obtain ⟨n, hn⟩ := freeF_okv h.nf hl
    have e0 : freePF p s k = ({ p with bm := delD p.bm k }, { s with ops := n, m := delD s.m id }, 0) := by unfold freePF; rw [hb]; simp only [hn]
    rw [e0]
    have hlk : ∀ k', lookD (delD p.bm k) k' = if k' = k then none else lookD p.bm k' := fun k' => by
      rw [lookD_del _ _ h.bmK]
      by_cases e : k = k'
      · rw [if_pos e, if_pos e.symm]
      · rw [if_neg e, if_neg (fun x => e x.symm)]
    refine ⟨rfl, key (delD p.bm k) _ hst.free rfl rfl rfl (nodup_del _ h.bmK) ?_ hlk (fun k' id' hk' hid' => ?_), rfl, rfl, rfl, hlk, rfl⟩
    · have h1 := len_del hb; have h2 := len_del hl; have h3 := h.num
      show (delD p.bm k).length = (delD s.m id).length
      omega
    · show lookD (delD s.m id) id' = _
      rw [lookD_del _ _ hst.nodup, if_neg (fun e : id = id' => hk' (h.inj k' k id (e ▸ hid') hb))]
def cleanP (p : PgD) : Prop := ∀ (j : Nat) (f : Fr), p.l[j]? = some f → f.used = true → f.dirty = false
theorem Inv.count (h : Inv X p a s C D) (hc : cleanP p) : ∃ ks : List PairK, ks.Nodup ∧ ks.length = s.m.length ∧ ∀ k, k ∈ ks ↔ ¬ zerosP (C k) := by
  refine ⟨p.bm.map (·.1), h.bmK, by rw [List.length_map, h.num], fun k => ?_⟩
  have h1 := h.cl k fun j f hj hu _ => hc j f hj hu
  constructor
  · intro hk
    obtain ⟨v, hv⟩ := lookD_in hk
    rcases h1 with h1 | ⟨_, _, _, h1⟩
    · rw [hv] at h1; cases h1.1
    · exact h1
  · intro hk
    rcases h1 with h1 | ⟨id, h1, _⟩
    · exact absurd h1.2 hk
    · exact lookD_key h1
theorem Inv.resident (h : Inv X p a s C D) : p.inm.length ≤ X.n := by
  have h1 := pigeon (l := p.inm.map (·.1)) (m := p.l.map (·.k)) h.inK fun k hk => by
    obtain ⟨v, hv⟩ := lookD_in hk
    obtain ⟨j, f, _, hj, _, hfk⟩ := h.in1 k v hv
    exact List.mem_map.2 ⟨f, List.mem_of_getElem? hj, hfk⟩
  simp at h1
  rw [h.ok.n] at h1; exact h1
theorem noneD {κ ν : Type} [DecidableEq κ] {m : List (κ × ν)} {k : κ} (h : ¬ (lookD m k).isSome = true) : lookD m k = none := by cases hq : lookD m k with | none => rfl | some v => (rw [hq] at h; exact absurd rfl h)
theorem Inv.ops (h : Inv X p a s C D) (n : Int) : Inv X p a { s with ops := n } C D :=
  { h with ok := ⟨h.ok.n, h.ok.pos, h.ok.most, h.ok.hand, h.ok.room, h.ok.ar, h.ok.st.op rfl rfl rfl⟩ }
end

/-! ### all of a pager, as one thing -/
def pagL (X : PgI) (p : PgD) (a : ArD) (s : StD) : List HP := pagerC X p :: pagerF X p :: pagerI X p :: pagerB X p :: storeH X.sb s :: arenaL X.Y a
def keyOk (k : PairK) : Prop := 0 ≤ k.1 ∧ 0 ≤ k.2 ∧ k.2 ≤ 9223372036854775807
structure InvZ (X : PgI) (z q : Nat) (T : PgD → Prop) (p : PgD) (a : ArD) (s : StD) (C : Cont) (m : Nat) : Prop where
  ex : ∃ D : List PairK, D.length ≤ m ∧ (∀ k ∈ D, keyOk k) ∧ Inv X p a s C D
  sz : s.size = z
  cp : s.cap = (q : Int)
  cln : T p
/-- what lies outside the pager's frames stays -/
structure SameOut (X : PgI) (a a' : ArD) : Prop where
  ok : ArOk X.Y a → ArOk X.Y a'
  get : ArOk X.Y a → ∀ y n, y + n ≤ X.lo ∨ X.hi ≤ y → a'.get y n = a.get y n
theorem SameOut.refl (X : PgI) (a : ArD) : SameOut X a a := ⟨id, fun _ _ _ _ => rfl⟩
theorem SameOut.trans {X : PgI} {a b c : ArD} (h : SameOut X a b) (k : SameOut X b c) : SameOut X a c := ⟨fun ho => k.ok (h.ok ho), fun ho y n hy => (k.get (h.ok ho) y n hy).trans (h.get ho y n hy)⟩
theorem SameOut.put {X : PgI} {a : ArD} {x : Nat} {ys : List UInt8} (h1 : X.lo ≤ x) (h2 : x + ys.length ≤ X.hi) (h3 : x + ys.length ≤ X.Y.size) : SameOut X a (a.put x ys) :=
  ⟨fun ho => ho.put h3, fun ho y n hy => get_put_out (by rw [ho.len]; exact h3) (by omega)⟩
/-- what else hangs on the arena, and minds no writing in the pager's frames -/
def RestOk (X : PgI) (R : ArD → HP) : Prop := ∀ a a', ArOk X.Y a → SameOut X a a' → OLe [R a] [R a']
def noR : ArD → HP := fun _ => ownH []
theorem noR_ok (X : PgI) : RestOk X noR := fun _ _ _ _ => OLe.refl _
def pagH (X : PgI) (z q : Nat) (T : PgD → Prop) (C : Cont) (m : Nat) (R : ArD → HP) : HP := exH fun x : PgD × ArD × StD => ownH (pureH (InvZ X z q T x.1 x.2.1 x.2.2 C m) :: (pagL X x.1 x.2.1 x.2.2 ++ [R x.2.1]))
theorem CodeT.openG {P : Program} {Q : Exit → Act → World → Prop} {c : Ctx} {x : Code} {env : Env} {X : PgI} {z q m : Nat} {T : PgD → Prop} {C : Cont} {R : ArD → HP} {r : List HP} (k : ∀ p a s, InvZ X z q T p a s C m → CodeT P Q c x ((pagL X p a s ++ [R a]) ++ r) env) : CodeT P Q c x (pagH X z q T C m R :: r) env :=
  CodeT.opens fun ⟨p, a, s⟩ => CodeT.own OLe.unpack (CodeT.pureH fun h => k p a s h)
theorem OLe.frame {a b r : List HP} (h : OLe a b) : OLe (a ++ r) (b ++ r) := fun F S w x => by
  obtain ⟨F1, F2, h1, h2, h3, h4⟩ := Own.append.1 x
  exact Own.append.2 ⟨F1, F2, h1, h2, h _ _ _ h3, h4⟩
theorem OLe.behind {a b r : List HP} (h : OLe a b) : OLe (r ++ a) (r ++ b) := fun F S w x => by
  obtain ⟨F1, F2, h1, h2, h3, h4⟩ := Own.append.1 x
  exact Own.append.2 ⟨F1, F2, h1, h2, h3, h _ _ _ h4⟩
theorem pag_close {X : PgI} {z q m : Nat} {T : PgD → Prop} {C : Cont} {p : PgD} {a0 a : ArD} {s : StD} {R : ArD → HP} {r : List HP} (hR : RestOk X R) (h0 : ArOk X.Y a0) (hs : SameOut X a0 a) (h : InvZ X z q T p a s C m) : OLe ((pagL X p a s ++ [R a0]) ++ r) (pagH X z q T C m R :: r) :=
  (OLe.frame (OLe.behind (hR a0 a h0 hs))).trans ((OLe.pure h).trans ((OLe.pack (l := pureH _ :: (pagL X p a s ++ [R a]))).trans (OLe.ex (f := fun x : PgD × ArD × StD => ownH (pureH (InvZ X z q T x.1 x.2.1 x.2.2 C m) :: (pagL X x.1 x.2.1 x.2.2 ++ [R x.2.1]))) (p, a, s))))
theorem pag_less {X : PgI} {z q m m' : Nat} {T : PgD → Prop} {C : Cont} {R : ArD → HP} (hm : m ≤ m') {r : List HP} : OLe (pagH X z q T C m R :: r) (pagH X z q T C m' R :: r) := fun F S w ⟨F1, F2, h1, h2, ⟨x, h3⟩, h4⟩ =>
  ⟨F1, F2, h1, h2, ⟨x, by
    obtain ⟨G1, G2, g1, g2, g3, g4⟩ := h3
    exact ⟨G1, G2, g1, g2, ⟨⟨g3.ex.choose, Nat.le_trans g3.ex.choose_spec.1 hm, g3.ex.choose_spec.2⟩, g3.sz, g3.cp, g3.cln⟩, g4⟩⟩, h4⟩
theorem pag_new {X : PgI} {z q m : Nat} {T : PgD → Prop} {C : Cont} {p : PgD} {a : ArD} {s : StD} {r : List HP} (h : InvZ X z q T p a s C m) : OLe (pagL X p a s ++ r) (pagH X z q T C m noR :: r) :=
  OLe.trans (OLe.frame (show OLe (pagL X p a s) (pagL X p a s ++ [noR a]) from fun F S w x => Own.append.2 ⟨F, fun _ => False, fun k hk => ⟨hk, id⟩, fun _ h => h.elim, x, ownNil _ _ _ trivial⟩)) (pag_close (noR_ok X) h.ex.choose_spec.2.2.ok.ar (SameOut.refl _ _) h)
/-- why bytes of a page can't be had -/
def wrongG (z : Nat) (k : PairK) (at_ n : Int) : Nat := if k.1 < 0 ∨ k.2 < 0 then 1 else if at_ < 0 ∨ n < 0 ∨ (z : Int) < at_ ∨ (z : Int) - at_ < n then 2 else 0
theorem wrongG_ok {z : Nat} {k : PairK} {at_ n : Int} (h : wrongG z k at_ n = 0) : 0 ≤ k.1 ∧ 0 ≤ k.2 ∧ 0 ≤ at_ ∧ 0 ≤ n ∧ at_ + n ≤ (z : Int) := by
  unfold wrongG at h
  split at h
  · omega
  · split at h <;> omega
theorem InvZ.wrong {X : PgI} {z q m : Nat} {T : PgD → Prop} {C : Cont} {p : PgD} {a : ArD} {s : StD} (h : InvZ X z q T p a s C m) (k : PairK) (at_ n : Int) : wrongF p s.size k at_ n = wrongG z k at_ n := by
  obtain ⟨D, _, _, hD⟩ := h.ex
  have hs : ¬ stopsP p := fun e => e.elim (fun e => by rw [hD.opn.2] at e; cases e) (fun e => e hD.opn.1)
  unfold wrongF wrongG
  rw [if_neg hs, h.sz]
/-- what is read -/
def readG (z : Nat) (C : Cont) (k : PairK) (at_ n : Int) : List UInt8 := if wrongG z k at_ n = 0 then ((C k).drop at_.toNat).take n.toNat else []
/-- what is there behind a writing -/
def writeG (z : Nat) (C : Cont) (k : PairK) (at_ : Int) (ys : List UInt8) : Cont := if wrongG z k at_ (ys.length : Int) = 0 then updC C k (spl (C k) at_.toNat ys) else C
theorem updC_same {C : Cont} {k : PairK} {l : List UInt8} (h : l = C k) : updC C k l = C := by
  funext k'
  unfold updC
  split
  · rename_i e; rw [h, e]
  · rfl
structure WantR (X : PgI) (p : PgD) (a : ArD) (s : StD) (C : Cont) (D : List PairK) (k : PairK) (g : PgD × ArD × StD × Nat) : Prop where
  inv : Inv X g.1 g.2.1 g.2.2.1 C D
  size : g.2.2.1.size = s.size
  cap : g.2.2.1.cap = s.cap
  out : SameOut X a g.2.1
  fr : ∃ f : Fr, g.1.l[g.2.2.2]? = some f ∧ f.used = true ∧ f.k = k ∧ (lookD p.inm k = none → f.dirty = false)
theorem getElem?_lt' {α : Type} {xs : List α} {k : Nat} (h : k < xs.length) : ∃ x, xs[k]? = some x := ⟨xs[k], List.getElem?_eq_getElem h⟩

/-! ### a new pager -/
def frs (b c : Nat) (j : Nat) : List Fr := (List.range j).map fun i => ⟨b + i * c, (0, 0), false, false, false⟩
theorem frs_len (b c j : Nat) : (frs b c j).length = j := by simp [frs]
theorem frs_succ (b c j : Nat) : frs b c (j + 1) = frs b c j ++ [⟨b + j * c, (0, 0), false, false, false⟩] := by simp [frs, List.range_succ]
theorem frs_get {b c j i : Nat} {f : Fr} (h : (frs b c j)[i]? = some f) : i < j ∧ f = ⟨b + i * c, (0, 0), false, false, false⟩ := by
  unfold frs at h
  rw [List.getElem?_map] at h
  by_cases hi : i < j
  · rw [List.getElem?_range hi] at h; cases h; exact ⟨hi, rfl⟩
  · rw [List.getElem?_eq_none (by simp; omega)] at h; cases h
theorem dblN_ge : ∀ (k c n : Nat), n ≤ c * 2 ^ k → n ≤ dblN k c n
  | 0, c, n, h => by simpa [dblN] using h
  | k + 1, c, n, h => by
    unfold dblN
    split
    · exact dblN_ge k (c * 2) n (by rw [Nat.mul_assoc, ← Nat.pow_succ']; exact h)
    · omega
theorem classN_ge {n : Nat} (h : n ≤ 4194304) : n ≤ classN n := by
  unfold classN
  rw [if_neg (by omega)]
  exact dblN_ge 19 16 n (by omega)
/-- an arena of which so many rooms of one class are taken, behind what was taken -/
structure ArT (Y : ArI) (a0 a : ArD) (c j : Nat) : Prop where
  ok : ArOk Y a
  hi : a.height = a0.height + j * c
  same : ∀ y n, y + n ≤ a0.height → a.get y n = a0.get y n
theorem ArT.take {Y : ArI} {a0 a : ArD} {n j : Nat} (h : ArT Y a0 a (classN n) j) (hn : n ≤ 4194304) (hr : a0.height + (j + 1) * classN n ≤ Y.size) {g : ArD × Nat × Nat} (hg : g = takeF Y.size a n) : g.2.2 = 0 ∧ g.2.1 = a0.height + j * classN n ∧ ArT Y a0 g.1 (classN n) (j + 1) := by
  have h1 := h.hi
  have h2 := h.ok.len
  have h3 := h.ok.live
  rw [Nat.add_mul, Nat.one_mul] at hr
  unfold takeF at hg
  rw [if_neg (by omega), if_neg (by omega)] at hg
  subst hg
  refine ⟨rfl, h1, ⟨?_, ?_, h.ok.most, ?_⟩, ?_, fun y m hy => ?_⟩
  · show (a.bytes.take a.height ++ List.replicate (classN n) 0 ++ a.bytes.drop (a.height + classN n)).length = Y.size
    simp; omega
  · show a.height + classN n ≤ Y.size; omega
  · show a.live + classN n ≤ a.height + classN n; omega
  · show a.height + classN n = a0.height + (j + 1) * classN n
    rw [Nat.add_mul, Nat.one_mul, h1]; omega
  · rw [← h.same y m hy]
    show ((a.bytes.take a.height ++ List.replicate (classN n) 0 ++ a.bytes.drop (a.height + classN n)).drop y).take m = (a.bytes.drop y).take m
    apply List.ext_getElem?
    intro t
    simp only [List.getElem?_take, List.getElem?_drop, List.getElem?_append, List.length_append, List.length_take, List.length_replicate]
    by_cases h4 : t < m
    · rw [if_pos h4, if_pos h4, if_pos (by omega), if_pos (by omega), if_pos (by omega)]
    · rw [if_neg h4, if_neg h4]
def zeroC (z : Nat) : Cont := fun _ => List.replicate z 0
theorem ownSl {α : Type} {n : Nat} {enc : α → List VP} {r : List HP} : OLe r (sliceH none n enc [] :: r) := fun F S w x => ⟨fun _ => False, F, fun _ h => h.elim, fun _ h => h, rfl, x⟩
theorem inv_new {X : PgI} {z q : Nat} {a0 a : ArD} (hn : 0 < X.n) (hm : X.n ≤ 64) (hz : z ≤ 1024) (hq : q ≤ 4096) (ha : ArT X.Y a0 a (classN z) X.n) (hlo : X.lo = a0.height) (hhi : X.hi = a0.height + X.n * classN z) : InvZ X z q cleanP ⟨frs a0.height (classN z) X.n, 0, [], [], 0, false⟩ a ⟨z, (q : Int), 0, 0, -1, false, []⟩ (zeroC z) 0 := by
  have hc := classN_ge (n := z) (by omega)
  have hh := ha.ok.hi
  have hh2 := ha.hi
  refine ⟨⟨[], Nat.le_refl _, fun k h => (by cases h), ⟨⟨frs_len _ _ _, hn, hm, hn, fun f hf => ?_, ha.ok, ⟨hz, by (show (q : Int) ≤ 4096; omega), fun e he => (by cases he), fun e he => (by cases he), by (show ((0 : Nat) : Int) ≤ (q : Int); omega), List.nodup_nil⟩⟩, ⟨rfl, rfl⟩, (show (-1 : Int) < 0 by decide), fun k => (by simp [zeroC]), List.nodup_nil, fun k i h => (by cases h), fun j f hj hu => ?_, fun i j f g hi hj hne => ?_, List.nodup_nil, fun k k' id h => (by cases h), rfl, fun k id h => (by cases h), fun k id h => (by cases h), by (show ((0 : Nat) : Int) ≤ (q : Int); omega), fun k h => absurd zeros_of_rep h, fun j f hj hu => ?_, fun k _ => .inl ⟨rfl, zeros_of_rep⟩⟩⟩, rfl, rfl, fun j f hj hu => ?_⟩
  · obtain ⟨j, hj⟩ := List.mem_iff_getElem?.1 hf
    obtain ⟨h1, rfl⟩ := frs_get hj
    have h2 : (j + 1) * classN z ≤ X.n * classN z := Nat.mul_le_mul_right _ h1
    rw [Nat.add_mul, Nat.one_mul] at h2
    show (X.lo ≤ a0.height + j * classN z ∧ a0.height + j * classN z + z ≤ X.hi) ∧ a0.height + j * classN z + z ≤ X.Y.size
    omega
  · obtain ⟨_, rfl⟩ := frs_get hj; cases hu
  · obtain ⟨h1, rfl⟩ := frs_get hi
    obtain ⟨h2, rfl⟩ := frs_get hj
    show a0.height + i * classN z + z ≤ a0.height + j * classN z ∨ a0.height + j * classN z + z ≤ a0.height + i * classN z
    rcases Nat.lt_or_gt_of_ne hne with h3 | h3
    · have h4 : (i + 1) * classN z ≤ j * classN z := Nat.mul_le_mul_right _ h3
      rw [Nat.add_mul, Nat.one_mul] at h4; omega
    · have h4 : (j + 1) * classN z ≤ i * classN z := Nat.mul_le_mul_right _ h3
      rw [Nat.add_mul, Nat.one_mul] at h4; omega
  · obtain ⟨_, rfl⟩ := frs_get hj; cases hu
  · obtain ⟨_, rfl⟩ := frs_get hj; cases hu
/-- just this page is in the frames -/
def onlyP (k : PairK) (p : PgD) : Prop := ∀ k', k' ≠ k → lookD p.inm k' = none
theorem Inv.only {X : PgI} {p : PgD} {a : ArD} {s : StD} {C : Cont} {D : List PairK} (h : Inv X p a s C D) (hn : X.n = 1) {i : Nat} {f : Fr} (hi : p.l[i]? = some f) (hu : f.used = true) : onlyP f.k p := fun k' hk => by
  cases hq : lookD p.inm k' with
  | none => rfl
  | some v =>
    obtain ⟨j, g, _, hj, _, hgk⟩ := h.in1 k' v hq
    have h1 := (List.getElem?_eq_some_iff.1 hi).1
    have h2 := (List.getElem?_eq_some_iff.1 hj).1
    have h3 := h.ok.n
    have h4 : i = j := by omega
    subst h4
    rw [hi] at hj; cases hj
    exact absurd hgk.symm hk
theorem Inv.one {X : PgI} {p : PgD} {a : ArD} {s : StD} {C : Cont} {D : List PairK} (h : Inv X p a s C D) (hn : X.n = 1) {i : Nat} {f : Fr} (hi : p.l[i]? = some f) (hd : f.dirty = false) : cleanP p := fun j g hj _ => by
  have h1 := (List.getElem?_eq_some_iff.1 hi).1
  have h2 := (List.getElem?_eq_some_iff.1 hj).1
  have h3 := h.ok.n
  have h4 : i = j := by omega
  subst h4
  rw [hi] at hj; cases hj
  exact hd
theorem pag_any {X : PgI} {z q m : Nat} {T T' : PgD → Prop} {C : Cont} {R : ArD → HP} (hT : ∀ p, T p → T' p) {r : List HP} : OLe (pagH X z q T C m R :: r) (pagH X z q T' C m R :: r) := fun F S w ⟨F1, F2, h1, h2, ⟨x, h3⟩, h4⟩ =>
  ⟨F1, F2, h1, h2, ⟨x, by
    obtain ⟨G1, G2, g1, g2, g3, g4⟩ := h3
    exact ⟨G1, G2, g1, g2, ⟨g3.ex, g3.sz, g3.cp, hT _ g3.cln⟩, g4⟩⟩, h4⟩
theorem Inv.outLoad {X : PgI} {p : PgD} {a : ArD} {s : StD} {C : Cont} {D : List PairK} (h : Inv X p a s C D) {i : Nat} {fr : Fr} (hi : p.l[i]? = some fr) (k : PairK) : SameOut X a (a.put fr.at_ (C k)) := by
  have h1 := h.ok.room fr (List.mem_of_getElem? hi)
  have h2 := h.lenC k
  exact SameOut.put (by omega) (by omega) (by omega)
end Go.Hl
