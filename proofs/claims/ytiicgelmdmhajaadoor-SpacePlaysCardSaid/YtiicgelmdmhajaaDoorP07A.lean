/-
  Arenas, blocks, pages in frames: their states as plain data, what the functions make of them, and how they lie in memory. No project text.
-/
import Derived.Test.YtiicgelmdmhajaaDoorHlP
namespace Go.Hl
set_option linter.unusedVariables false

abbrev i64V (n : Int) : VP := intV .i64 n
/-! ### arenas -/
structure ArI where
  (ab db tm gm size : Nat)
structure ArD where
  bytes : List UInt8
  height : Nat
  live : Nat
  taken : List (Int × Int)
/-- an arena of which no room was given back -/
def arenaL (X : ArI) (a : ArD) : List HP :=
  [cellsH X.ab [subV X.db 0 X.size, intV .i64 (a.height : Int), intV .i64 (a.live : Int), exactV (.map (some X.tm)), exactV (.map (some X.gm))],
   bufH X.db a.bytes, mapH X.tm (Value.int .i64) i64V a.taken, mapH X.gm (Value.int .i64) (fun _ : Unit => emptyV) []]
structure ArOk (X : ArI) (a : ArD) : Prop where
  len : a.bytes.length = X.size
  hi : a.height ≤ X.size
  most : X.size ≤ 4194304
  live : a.live ≤ a.height
def dblN : Nat → Nat → Nat → Nat
  | 0, c, _ => c
  | k + 1, c, n => if c < n then dblN k (c * 2) n else c
def classN (n : Nat) : Nat := if 4194304 < n then 0 else dblN 19 16 n
theorem dblN_most : ∀ (k c n : Nat), dblN k c n ≤ c * 2 ^ k
  | 0, c, n => by simp [dblN]
  | k + 1, c, n => by
    unfold dblN
    have := dblN_most k (c * 2) n
    have h2 : 0 < 2 ^ k := Nat.two_pow_pos k
    rw [Nat.pow_succ, Nat.mul_comm (2 ^ k) 2, ← Nat.mul_assoc]
    split
    · exact this
    · calc c ≤ c * 2 := by omega
        _ ≤ c * 2 * 2 ^ k := Nat.le_mul_of_pos_right _ h2
theorem classN_most (n : Nat) : classN n ≤ 8388608 := by
  unfold classN
  split
  · omega
  · exact dblN_most 19 16 n
theorem dblN_done {k c n : Nat} (h : ¬ c < n) : dblN k c n = c := by
  cases k with
  | zero => rfl
  | succ k => unfold dblN; rw [if_neg h]
def placeF (size : Nat) (a : ArD) (c : Nat) : ArD × Nat × Bool := if size - a.height < c then (a, 0, false) else ({ a with height := a.height + c }, a.height, true)
theorem placeF_no {size : Nat} {a : ArD} {c : Nat} (h : ¬ (placeF size a c).2.2 = true) : placeF size a c = (a, 0, false) ∧ size - a.height < c := by
  unfold placeF at h ⊢
  by_cases hc : size - a.height < c
  · rw [if_pos hc]; exact ⟨rfl, hc⟩
  · rw [if_neg hc] at h; exact absurd rfl h
theorem placeF_yes {size : Nat} {a : ArD} {c : Nat} (h : (placeF size a c).2.2 = true) : placeF size a c = ({ a with height := a.height + c }, a.height, true) ∧ ¬ size - a.height < c := by
  unfold placeF at h ⊢
  by_cases hc : size - a.height < c
  · rw [if_pos hc] at h; cases h
  · rw [if_neg hc]; exact ⟨rfl, hc⟩
def takeF (size : Nat) (a : ArD) (n : Nat) : ArD × Nat × Nat :=
  if 4194304 < n then (a, 0, 1) else if size - a.height < classN n then (a, 0, 8)
  else ({ bytes := a.bytes.take a.height ++ List.replicate (classN n) 0 ++ a.bytes.drop (a.height + classN n), height := a.height + classN n, live := a.live + classN n, taken := updD a.taken (a.height : Int) (classN n : Int) }, a.height, 0)
def ArD.get (a : ArD) (at_ n : Nat) : List UInt8 := (a.bytes.drop at_).take n
def ArD.put (a : ArD) (at_ : Nat) (ys : List UInt8) : ArD := { a with bytes := a.bytes.take at_ ++ ys ++ a.bytes.drop (at_ + ys.length) }

theorem OLe.cells {b : Nat} {cs cs' : List VP} (h : LeL cs cs') {r : List HP} : OLe (cellsH b cs :: r) (cellsH b cs' :: r) := fun F S w ⟨F1, F2, h1, h2, ⟨f1, arr, T, hh, hn, hc⟩, h4⟩ =>
  ⟨F1, F2, h1, h2, ⟨f1, arr, T, hh, by rw [hn, h.len], fun j q' hj => let ⟨q, k1, k2⟩ := h.get j q' hj; let ⟨u, hu, hq⟩ := hc j q k1; ⟨u, hu, k2 _ _ _ hq⟩⟩, h4⟩
theorem OLe.bufE {b : Nat} {l l' : List UInt8} (h : l = l') {r : List HP} : OLe (bufH b l :: r) (bufH b l' :: r) := h ▸ OLe.refl _
theorem falseV : VLe (exactV (.bool false)) (propV False) := fun S w v h => ⟨false, h, by simp⟩
theorem trueV : VLe (exactV (.bool true)) (propV True) := fun S w v h => ⟨true, h, by simp⟩
/-! ### blocks -/
def BP : Bool → Prop
  | true => True
  | false => False
theorem BP_iff (b : Bool) : BP b ↔ b = true := by cases b <;> simp [BP]

structure StD where
  size : Nat
  cap : Int
  peak : Int
  ops : Int
  fail : Int
  failed : Bool
  m : List (Int × List UInt8)
def storeC (sb mb : Nat) (s : StD) : HP := cellsH sb [intV .i64 (s.size : Int), intV .i64 s.cap, intV .i64 s.peak, exactV (.map (some mb)), intV .i64 s.ops, intV .i64 s.fail, propV (BP s.failed)]
abbrev BlkE := List (Int × Nat × List UInt8)
def storeM (mb size : Nat) (E : BlkE) : HP := mapH mb (Value.int .i64) (fun b => subV b 0 size) (E.map fun e => (e.1, e.2.1))
def storeH (sb : Nat) (s : StD) : HP := exH fun x : Nat × BlkE => ownH (pureH (x.2.map (fun e => (e.1, e.2.2)) = s.m) :: storeC sb x.1 s :: storeM x.1 s.size x.2 :: x.2.map fun e => bufH e.2.1 e.2.2)
structure StOk (s : StD) : Prop where
  size : s.size ≤ 1024
  cap : s.cap ≤ 4096
  len : ∀ e ∈ s.m, e.2.length = s.size
  keys : ∀ e ∈ s.m, 0 ≤ e.1 ∧ e.1 < 4096
  many : (s.m.length : Int) ≤ s.cap
  nodup : (s.m.map (·.1)).Nodup
/-- an operation is counted -/
def opF (s : StD) : StD × Bool :=
  let k := IntKind.i64.wrap (s.ops + 1)
  if 0 ≤ s.fail ∧ s.fail ≤ IntKind.i64.wrap (k - 1) then ({ s with ops := k, failed := true }, false) else ({ s with ops := k }, true)
def useF (s : StD) (id : Int) (right : Prop) [Decidable right] : StD × Nat :=
  match lookD s.m id with
  | none => (s, 2)
  | some _ => if ¬ right then (s, 1) else match opF s with | (s', true) => (s', 0) | (s', false) => (s', 9)

def bufsH (E : BlkE) : List HP := E.map fun e => bufH e.2.1 e.2.2
theorem lookD_map {κ α β : Type} [DecidableEq κ] (f : α → β) (a : κ) : ∀ E : List (κ × α), lookD (E.map fun e => (e.1, f e.2)) a = (lookD E a).map f
  | [] => rfl
  | e :: E => by
    have ih := lookD_map f a E
    unfold lookD at ih ⊢
    rw [List.map_cons]
    by_cases h : e.1 = a
    · rw [List.find?_cons_of_pos (by simpa using h), List.find?_cons_of_pos (by simpa using h)]; rfl
    · rw [List.find?_cons_of_neg (by simpa using h), List.find?_cons_of_neg (by simpa using h)]; exact ih
/-- the entry of a key is given another value -/
def setM {α : Type} : List (Int × α) → Int → α → List (Int × α)
  | [], _, _ => []
  | e :: E, id, l => if e.1 = id then (e.1, l) :: E else e :: setM E id l
def remM {α : Type} (m : List (Int × α)) (id : Int) : List (Int × α) := m.eraseP fun e => decide (e.1 = id)
theorem setM_map {α β : Type} (f : α → β) (id : Int) (l : α) : ∀ E : List (Int × α), (setM E id l).map (fun e => (e.1, f e.2)) = setM (E.map fun e => (e.1, f e.2)) id (f l)
  | [] => rfl
  | e :: E => by
    unfold setM
    rw [List.map_cons]
    by_cases h : e.1 = id
    · simp [h, setM]
    · simp [h, setM, setM_map f id l E]
theorem setM_same {α : Type} (id : Int) (l : α) : ∀ E : List (Int × α), lookD E id = some l → setM E id l = E
  | [], h => rfl
  | e :: E, h => by
    unfold lookD at h
    unfold setM
    by_cases he : e.1 = id
    · rw [List.find?_cons_of_pos (by simpa using he)] at h
      simp at h; rw [if_pos he, ← h]
    · rw [List.find?_cons_of_neg (by simpa using he)] at h
      rw [if_neg he, setM_same id l E h]
theorem bufs_split (id : Int) : ∀ {E : BlkE} {b : Nat} {l : List UInt8}, lookD E id = some (b, l) → (bufsH E).Perm (bufH b l :: bufsH (remM E id))
  | [], b, l, h => by cases h
  | e :: E, b, l, h => by
    unfold lookD at h
    by_cases he : e.1 = id
    · rw [List.find?_cons_of_pos (by simpa using he)] at h
      simp at h
      unfold remM bufsH
      rw [List.eraseP_cons_of_pos (by simpa using he), List.map_cons, h]
    · rw [List.find?_cons_of_neg (by simpa using he)] at h
      have ih := bufs_split id (E := E) (b := b) (l := l) h
      unfold remM bufsH at ih ⊢
      rw [List.eraseP_cons_of_neg (by simpa using he), List.map_cons, List.map_cons]
      exact (ih.cons _).trans (List.Perm.swap _ _ _)
theorem bufs_set (id : Int) : ∀ {E : BlkE} {b : Nat} {l : List UInt8} (l' : List UInt8), lookD E id = some (b, l) → (bufH b l' :: bufsH (remM E id)).Perm (bufsH (setM E id (b, l')))
  | [], b, l, l', h => by cases h
  | e :: E, b, l, l', h => by
    unfold lookD at h
    by_cases he : e.1 = id
    · rw [List.find?_cons_of_pos (by simpa using he)] at h
      simp at h
      unfold remM bufsH setM
      rw [List.eraseP_cons_of_pos (by simpa using he), if_pos he, List.map_cons]
    · rw [List.find?_cons_of_neg (by simpa using he)] at h
      have ih := bufs_set id (E := E) (b := b) (l := l) l' h
      unfold bufsH remM at ih ⊢
      unfold setM
      rw [List.eraseP_cons_of_neg (by simpa using he), if_neg he, List.map_cons, List.map_cons]
      exact (List.Perm.swap _ _ _).trans (ih.cons _)
theorem delD_rem {α : Type} (id : Int) (D : List (Int × α)) : delD D id = remM D id := by
  unfold delD remM
  induction D with
  | nil => rfl
  | cons e D ih =>
    rw [List.map_cons, List.findIdx?_cons]
    by_cases he : e.1 = id
    · rw [if_pos (by simpa using he), List.eraseP_cons_of_pos (by simpa using he)]; rfl
    · rw [if_neg (by simpa using he), List.eraseP_cons_of_neg (by simpa using he), ← ih]
      cases h : (D.map (·.1)).findIdx? (fun k => decide (k = id)) <;> simp
theorem rem_map {α β : Type} (f : α → β) (id : Int) : ∀ E : List (Int × α), (remM E id).map (fun e => (e.1, f e.2)) = remM (E.map fun e => (e.1, f e.2)) id
  | [] => rfl
  | e :: E => by
    unfold remM
    rw [List.map_cons]
    by_cases h : e.1 = id
    · rw [List.eraseP_cons_of_pos (by simpa using h), List.eraseP_cons_of_pos (by simpa using h)]
    · rw [List.eraseP_cons_of_neg (by simpa using h), List.eraseP_cons_of_neg (by simpa using h), List.map_cons]
      have := rem_map f id E; unfold remM at this; rw [this]
theorem updD_new {κ α : Type} [DecidableEq κ] {D : List (κ × α)} {id : κ} (v : α) (h : lookD D id = none) : updD D id v = D ++ [(id, v)] := by
  unfold updD
  have hf := find_idx id D
  cases hi : (D.map (·.1)).findIdx? (fun k => decide (k = id)) with
  | none => rfl
  | some i => rw [hi] at hf; obtain ⟨u, _, hu⟩ := hf; rw [h] at hu; cases hu
def contM (E : BlkE) : List (Int × List UInt8) := E.map fun e => (e.1, e.2.2)
theorem store_close {sb mb sz : Nat} {s : StD} {E : BlkE} (hE : contM E = s.m) (hz : sz = s.size) {r : List HP} : OLe (storeC sb mb s :: storeM mb sz E :: ownH (bufsH E) :: r) (storeH sb s :: r) := by
  subst hz
  refine OLe.trans ?_ (OLe.ex (f := fun x : Nat × BlkE => ownH (pureH (x.2.map (fun e => (e.1, e.2.2)) = s.m) :: storeC sb x.1 s :: storeM x.1 s.size x.2 :: x.2.map fun e => bufH e.2.1 e.2.2)) (mb, E))
  refine OLe.trans (OLe.cons _ (OLe.cons _ OLe.unpack)) ?_
  refine OLe.trans (OLe.pure (p := contM E = s.m) hE) ?_
  exact OLe.pack (l := pureH (contM E = s.m) :: storeC sb mb s :: storeM mb s.size E :: bufsH E)
theorem CodeT.openS {P : Program} {Q : Exit → Act → World → Prop} {c : Ctx} {x : Code} {env : Env} {sb : Nat} {s : StD} {r : List HP} (k : ∀ mb E, contM E = s.m → CodeT P Q c x (storeC sb mb s :: storeM mb s.size E :: ownH (bufsH E) :: r) env) : CodeT P Q c x (storeH sb s :: r) env :=
  CodeT.opens fun ⟨mb, E⟩ => CodeT.own OLe.unpack (CodeT.pureH fun h => CodeT.own (OLe.cons _ (OLe.cons _ (OLe.pack (l := bufsH E)))) (k mb E h))
/-- one block is set apart -/
theorem CodeT.split1 {P : Program} {Q : Exit → Act → World → Prop} {c : Ctx} {x : Code} {env : Env} {a b0 : HP} {E : BlkE} {id : Int} {b : Nat} {l : List UInt8} {r : List HP} (h : lookD E id = some (b, l)) (k : CodeT P Q c x (a :: b0 :: bufH b l :: ownH (bufsH (remM E id)) :: r) env) : CodeT P Q c x (a :: b0 :: ownH (bufsH E) :: r) env := by
  refine CodeT.own (OLe.trans (OLe.cons a (OLe.cons b0 (OLe.trans OLe.unpack (OLe.perm ((bufs_split id h).append_right r))))) ?_) k
  refine OLe.cons a (OLe.cons b0 (OLe.cons _ ?_))
  exact OLe.pack
theorem join1 {a b0 : HP} {E : BlkE} {id : Int} {b : Nat} {l : List UInt8} (l' : List UInt8) {r : List HP} (h : lookD E id = some (b, l)) : OLe (a :: b0 :: bufH b l' :: ownH (bufsH (remM E id)) :: r) (a :: b0 :: ownH (bufsH (setM E id (b, l'))) :: r) := by
  refine OLe.trans (OLe.cons a (OLe.cons b0 (OLe.cons _ OLe.unpack))) ?_
  refine OLe.trans (OLe.perm (List.Perm.cons a (List.Perm.cons b0 ?_))) (OLe.cons a (OLe.cons b0 OLe.pack))
  exact (bufs_set id l' h).append_right r
theorem storeM_set {mb size : Nat} {E : BlkE} {id : Int} {b : Nat} {l l' : List UInt8} (h : lookD E id = some (b, l)) : storeM mb size (setM E id (b, l')) = storeM mb size E := by
  unfold storeM
  congr 1
  have h1 := setM_map (fun x : Nat × List UInt8 => x.1) id (b, l') E
  rw [h1]
  exact setM_same id b _ (by rw [lookD_map (fun x : Nat × List UInt8 => x.1), h]; rfl)
theorem contM_set {E : BlkE} {id : Int} {b : Nat} {l' : List UInt8} : contM (setM E id (b, l')) = setM (contM E) id l' := setM_map (fun x : Nat × List UInt8 => x.2) id (b, l') E
theorem look_cont {E : BlkE} {id : Int} : lookD (contM E) id = (lookD E id).map (·.2) := lookD_map (fun x : Nat × List UInt8 => x.2) id E
theorem look_blk {E : BlkE} {id : Int} : lookD (E.map fun e => (e.1, e.2.1)) id = (lookD E id).map (·.1) := lookD_map (fun x : Nat × List UInt8 => x.1) id E
theorem pigeon {α : Type} [BEq α] [LawfulBEq α] : ∀ {l m : List α}, l.Nodup → (∀ x ∈ l, x ∈ m) → l.length ≤ m.length
  | [], m, _, _ => by simp
  | a :: l, m, hn, hs => by
    rw [List.nodup_cons] at hn
    have h1 : a ∈ m := hs a (List.mem_cons_self ..)
    have := pigeon (l := l) (m := m.erase a) hn.2 fun x hx => by
      have hne : x ≠ a := fun e => hn.1 (e ▸ hx)
      exact (List.mem_erase_of_ne hne).2 (hs x (List.mem_cons_of_mem _ hx))
    rw [List.length_erase_of_mem h1] at this
    have h2 : 0 < m.length := List.length_pos_of_mem h1
    simp only [List.length_cons]; omega
theorem store_close1 {sb mb sz : Nat} {s : StD} {m0 : List (Int × List UInt8)} {E : BlkE} {id : Int} {b : Nat} {l l' : List UInt8} (h : lookD E id = some (b, l)) (hE : contM E = m0) (hm : s.m = setM m0 id l') (hz : sz = s.size) {r : List HP} :
    OLe (storeC sb mb s :: storeM mb sz E :: bufH b l' :: ownH (bufsH (remM E id)) :: r) (storeH sb s :: r) := by
  refine (join1 l' h).trans ?_
  rw [← storeM_set (mb := mb) (size := sz) (l' := l') h]
  exact store_close (by rw [contM_set, hE, hm]) hz
theorem store_closeR {sb mb sz : Nat} {s : StD} {m0 : List (Int × List UInt8)} {E : BlkE} {id : Int} {b : Nat} {l : List UInt8} (h : lookD E id = some (b, l)) (hE : contM E = m0) (hm : s.m = m0) (hz : sz = s.size) {r : List HP} :
    OLe (storeC sb mb s :: storeM mb sz E :: bufH b l :: ownH (bufsH (remM E id)) :: r) (storeH sb s :: r) :=
  store_close1 h hE (by rw [hm, setM_same id l m0 (by rw [← hE, look_cont, h]; rfl)]) hz
theorem store_closeA {sb mb sz k : Nat} {s : StD} {E : BlkE} {b : Nat} {l : List UInt8} (h : lookD E (k : Int) = none) (hm : s.m = contM E ++ [((k : Int), l)]) (hz : sz = s.size) {r : List HP} :
    OLe (bufH b l :: storeC sb mb s :: mapH mb (Value.int .i64) (fun b => subV b 0 sz) (updD (E.map fun e => (e.1, e.2.1)) (k : Int) b) :: ownH (bufsH E) :: r) (storeH sb s :: r) := by
  have e : mapH mb (Value.int .i64) (fun b => subV b 0 sz) (updD (E.map fun e => (e.1, e.2.1)) (k : Int) b) = storeM mb sz (E ++ [((k : Int), b, l)]) := by
    unfold storeM
    rw [updD_new b (by rw [look_blk, h]; rfl)]; simp
  rw [e]
  have e2 : bufsH (E ++ [((k : Int), b, l)]) = bufsH E ++ [bufH b l] := by simp [bufsH]
  have h0 : OLe (storeC sb mb s :: storeM mb sz (E ++ [((k : Int), b, l)]) :: ownH (bufsH (E ++ [((k : Int), b, l)])) :: r) (storeH sb s :: r) := store_close (by rw [hm]; simp [contM]) hz
  refine OLe.trans ?_ h0
  refine OLe.trans (OLe.perm (List.perm_middle (l₁ := [storeC sb mb s, storeM mb sz (E ++ [((k : Int), b, l)]), ownH (bufsH E)]) (a := bufH b l) (l₂ := r)).symm) ?_
  refine OLe.cons _ (OLe.cons _ (OLe.trans OLe.unpack ?_))
  rw [e2]
  have h3 : bufsH E ++ bufH b l :: r = (bufsH E ++ [bufH b l]) ++ r := by simp
  show OLe (bufsH E ++ bufH b l :: r) _
  rw [h3]
  exact OLe.pack
theorem opF_m (s : StD) : (opF s).1.m = s.m ∧ (opF s).1.size = s.size ∧ (opF s).1.cap = s.cap ∧ (opF s).1.fail = s.fail ∧ (opF s).1.peak = s.peak := by
  unfold opF; dsimp only; split <;> exact ⟨rfl, rfl, rfl, rfl, rfl⟩
theorem useF_m (s : StD) (id : Int) (r : Prop) [Decidable r] : (useF s id r).1.m = s.m ∧ (useF s id r).1.size = s.size := by
  unfold useF
  split
  · exact ⟨rfl, rfl⟩
  · split
    · exact ⟨rfl, rfl⟩
    · have h := opF_m s
      split <;> rename_i h2 <;> rw [h2] at h <;> exact ⟨h.1, h.2.1⟩
theorem useF_ok {s : StD} {id : Int} {r : Prop} [Decidable r] (h : (useF s id r).2 = 0) : r ∧ ∃ l, lookD s.m id = some l := by
  unfold useF at h
  split at h
  · cases h
  · split at h
    · cases h
    · rename_i l hl hr
      exact ⟨Classical.not_not.1 hr, l, hl⟩
theorem ownNil {r : List HP} : OLe r (ownH [] :: r) := fun F S w x => ⟨fun _ => False, F, fun _ h => h.elim, fun _ h => h, trivial, x⟩
theorem lookD_mem {κ α : Type} [DecidableEq κ] {D : List (κ × α)} {a : κ} {v : α} (h : lookD D a = some v) : ∃ e ∈ D, e.2 = v := by
  unfold lookD at h
  cases hf : D.find? fun p => decide (p.1 = a) with
  | none => rw [hf] at h; cases h
  | some p => rw [hf] at h; cases h; exact ⟨p, List.mem_of_find?_eq_some hf, rfl⟩
theorem useF_none {s : StD} {id : Int} {r : Prop} [Decidable r] (h : lookD s.m id = none) : useF s id r = (s, 2) := by unfold useF; rw [h]
theorem useF_wrong {s : StD} {id : Int} {r : Prop} [Decidable r] (h : lookD s.m id ≠ none) (hr : ¬ r) : useF s id r = (s, 1) := by
  unfold useF
  split
  · rename_i h2; exact absurd h2 h
  · rw [if_pos hr]
theorem useF_op {s : StD} {id : Int} {r : Prop} [Decidable r] (h : lookD s.m id ≠ none) (hr : r) : ((opF s).2 = true → useF s id r = ((opF s).1, 0)) ∧ (¬ (opF s).2 = true → useF s id r = ((opF s).1, 9)) := by
  unfold useF
  split
  · rename_i h2; exact absurd h2 h
  · rw [if_neg (fun hn => hn hr)]
    cases ho : opF s with
    | mk s1 b => cases b <;> simp
def readF (s : StD) (id : Int) : StD × List UInt8 × Nat := match useF s id True with
  | (s1, 0) => (s1, (lookD s.m id).getD [], 0)
  | (s1, e) => (s1, [], e)
def writeF (s : StD) (id : Int) (ys : List UInt8) : StD × Nat := match useF s id (ys.length = s.size) with
  | (s1, 0) => ({ s1 with m := setM s1.m id ys }, 0)
  | (s1, e) => (s1, e)
def freeF (s : StD) (id : Int) : StD × Nat := match useF s id True with
  | (s1, 0) => ({ s1 with m := remM s1.m id }, 0)
  | (s1, e) => (s1, e)
def allocR (s : StD) (g : StD × Int × Nat) : Prop :=
  ((opF s).2 = false ∧ g = ((opF s).1, 0, 9)) ∨ ((opF s).2 = true ∧ (s.m.length : Int) = s.cap ∧ g = ((opF s).1, 0, 8)) ∨
  ((opF s).2 = true ∧ (s.m.length : Int) ≠ s.cap ∧ ∃ id : Nat, id ≤ s.m.length ∧ lookD s.m (id : Int) = none ∧ g = ({ (opF s).1 with m := s.m ++ [((id : Int), List.replicate s.size 0)], peak := max s.peak ((s.m.length : Int) + 1) }, (id : Int), 0))
theorem readF_bad {s : StD} {id : Int} (h : (useF s id True).2 ≠ 0) : readF s id = ((useF s id True).1, [], (useF s id True).2) := by
  unfold readF
  split
  · rename_i h2; rw [h2] at h; exact absurd rfl h
  · rename_i h2; rw [h2]
theorem readF_ok {s : StD} {id : Int} {l : List UInt8} (h : (useF s id True).2 = 0) (hl : lookD s.m id = some l) : readF s id = ((useF s id True).1, l, 0) := by
  cases hu : useF s id True with
  | mk s1 e => rw [hu] at h; simp only at h; subst h; simp [readF, hu, hl]
theorem writeF_bad {s : StD} {id : Int} {ys : List UInt8} (h : (useF s id (ys.length = s.size)).2 ≠ 0) : writeF s id ys = ((useF s id (ys.length = s.size)).1, (useF s id (ys.length = s.size)).2) := by
  unfold writeF
  split
  · rename_i h2; rw [h2] at h; exact absurd rfl h
  · rename_i h2; rw [h2]
theorem writeF_ok {s : StD} {id : Int} {ys : List UInt8} (h : (useF s id (ys.length = s.size)).2 = 0) : writeF s id ys = ({ (useF s id (ys.length = s.size)).1 with m := setM s.m id ys }, 0) := by
  have hm := (useF_m s id (ys.length = s.size)).1
  cases hu : useF s id (ys.length = s.size) with
  | mk s1 e => rw [hu] at h hm; simp only at h hm; subst h; simp [writeF, hu, hm]
theorem freeF_bad {s : StD} {id : Int} (h : (useF s id True).2 ≠ 0) : freeF s id = ((useF s id True).1, (useF s id True).2) := by
  unfold freeF
  split
  · rename_i h2; rw [h2] at h; exact absurd rfl h
  · rename_i h2; rw [h2]
theorem freeF_ok {s : StD} {id : Int} (h : (useF s id True).2 = 0) : freeF s id = ({ (useF s id True).1 with m := remM s.m id }, 0) := by
  have hm := (useF_m s id True).1
  cases hu : useF s id True with
  | mk s1 e => rw [hu] at h hm; simp only at h hm; subst h; simp [freeF, hu, hm]
theorem store_closeF {sb mb sz : Nat} {s : StD} {E : BlkE} {id : Int} {x : HP} (hm : s.m = remM (contM E) id) (hz : sz = s.size) {r : List HP} :
    OLe (storeC sb mb s :: mapH mb (Value.int .i64) (fun b => subV b 0 sz) (delD (E.map fun e => (e.1, e.2.1)) id) :: x :: ownH (bufsH (remM E id)) :: r) (storeH sb s :: r) := by
  have e : mapH mb (Value.int .i64) (fun b => subV b 0 sz) (delD (E.map fun e => (e.1, e.2.1)) id) = storeM mb sz (remM E id) := by
    unfold storeM
    rw [delD_rem, rem_map (fun x : Nat × List UInt8 => x.1)]
  rw [e]
  refine OLe.trans (OLe.cons _ (OLe.cons _ (OLe.drop (OLe.refl _)))) (store_close ?_ hz)
  rw [hm]
  exact rem_map (fun x : Nat × List UInt8 => x.2) id E
theorem opF_form (s : StD) : ∃ k f, (opF s).1 = { s with ops := k, failed := f } := by
  unfold opF; dsimp only; split
  · exact ⟨_, _, rfl⟩
  · exact ⟨_, s.failed, rfl⟩
theorem look_many {α : Type} {m : List (Int × α)} {k : Nat} (h : ∀ j : Nat, j < k → lookD m (j : Int) ≠ none) : k ≤ m.length := by
  have h1 : ((List.range k).map fun j : Nat => (j : Int)).Nodup := by
    have h2 := List.nodup_range (n := k)
    unfold List.Nodup at h2 ⊢
    rw [List.pairwise_map]
    exact h2.imp fun hab e => hab (by omega)
  have h3 := pigeon (m := m.map (·.1)) h1 fun x hx => by
    obtain ⟨j, hj, rfl⟩ := List.mem_map.1 hx
    have h4 := h j (List.mem_range.1 hj)
    unfold lookD at h4
    cases hf : m.find? fun p => decide (p.1 = (j : Int)) with
    | none => rw [hf] at h4; exact absurd rfl h4
    | some p =>
      have h5 := List.find?_some hf
      exact List.mem_map.2 ⟨p, List.mem_of_find?_eq_some hf, by simpa using h5⟩
  simpa using h3
end Go.Hl
