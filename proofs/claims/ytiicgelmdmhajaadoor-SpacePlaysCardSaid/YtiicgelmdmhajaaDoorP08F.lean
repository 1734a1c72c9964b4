/-
  The document's answer for memories, and what stands for it; two memories of one pager; a pair as an argument. No project text.
-/
import Derived.Test.YtiicgelmdmhajaaDoorP08E
import Derived.Test.YtiicgelmdmhajaaDoorP08D
import Derived.OpenShut
namespace Go.Hl
open Go.RowKit
set_option linter.unusedVariables false

/-! ### a pair as an argument -/
theorem Opn.arr2 {P : Program} {t e : TypeId} {α : Type} {q : α → VP} {enc : α → List VP} (ht : P.underlying t = some (.array 2 e)) (hn : P.cellsOf e = 1) (hc : P.cellsOf t = 2) (o : Opn P e enc) (hq : ∀ a, enc a = [q a]) : Opn P t (fun p : α × α => [q p.1, q p.2]) := fun H en W fuel cs d ps h hz => by
  obtain ⟨xs, m, rfl, hx, hl, hxl, hea⟩ := DataW.trod_array ht h
  obtain ⟨hd, _⟩ := Prod.mk.inj hx
  rw [hc] at hl
  match cs, hl, xs, hxl with
  | [c0, c1], _, [x0, x1], _ =>
    have h0 := hea 0 (by decide)
    have h1 := hea 1 (by decide)
    rw [hn] at h0 h1
    simp only [Nat.zero_mul, Nat.one_mul, List.drop_zero, List.take_succ_cons, List.take_zero, List.drop_succ_cons, List.getElem?_cons_zero, List.getElem?_cons_succ] at h0 h1
    have hw : ∀ y, y = x0 ∨ y = x1 → ∀ z ∈ y.1.weights P e, z ≤ reachBytes := fun y hy z hz' => hz z (by
      rw [hd]; simp only [DataW.weights, ht, List.map_cons, List.map_nil]
      exact weightsAll_mem (by rcases hy with e | e <;> simp [e]) z hz')
    obtain ⟨a, ha⟩ := o H en W m _ x0.1 x0.2 h0 (hw x0 (.inl rfl))
    obtain ⟨b, hb⟩ := o H en W m _ x1.1 x1.2 h1 (hw x1 (.inr rfl))
    rw [hq] at ha hb
    exact ⟨(a, b), ha.cat hb⟩
theorem arg_arr {P : Program} {t e : TypeId} {n : Nat} {α : Type} {enc : α → List VP} (o : Opn P t enc) (ht : P.underlying t = some (.array n e)) {H : Type} {en : TypeId × Value → H} {W : World} {base : Nat} {v : Value} {d : DataW H} {ps : List MemPlace}
    (hv : Value.okWide P W .any base t v) (h : DataW.Trod en P W 0 (fun _ => true) true t v d ps) (hz : ∀ x ∈ d.weights P t, x ≤ reachBytes) : ∃ a, (aggV (enc a)).p (fun k => k < W.heap.size) W v := by
  unfold Value.okWide at hv
  rw [ht] at hv
  obtain ⟨cs, rfl, _, _⟩ := hv
  obtain ⟨fuel, h⟩ := h
  obtain ⟨a, ha⟩ := o H en W fuel _ d ps h hz
  simp only [Value.cells] at ha
  refine ⟨a, cs, rfl, by simpa using ha.1.symm, fun j q hj => ?_⟩
  have hjl : j < (enc a).length := (List.getElem?_eq_some_iff.1 hj).1
  have hjc : j < cs.size := by have := ha.1; simp at this; omega
  exact ⟨cs[j], Array.getElem?_eq_getElem hjc, ha.2 j q _ hj (by simp [hjc])⟩

/-! ### the document's memory -/
abbrev PutR := Nat × List UInt8
def encPut (p : PutR) : List VP := [intV .u64 (p.1 : Int), sliceV 1 encU8 p.2]
instance : Enc 2 encPut := ⟨fun _ => rfl, fun x q h => by simp only [encPut, List.mem_cons, List.not_mem_nil, or_false] at h; rcases h with h | h <;> subst h <;> infer_instance⟩
structure RM where
  pages : Nat
  most : Nat
  puts : List PutR
def encRM (r : RM) : List VP := [intV .i64 (r.pages : Int), intV .i64 (r.most : Int), sliceV 2 encPut r.puts]
instance : Enc 3 encRM := ⟨fun _ => rfl, fun x q h => by simp only [encRM, List.mem_cons, List.not_mem_nil, or_false] at h; rcases h with h | h | h <;> subst h <;> infer_instance⟩
instance (r : RM) : FlatL (encRM r) := ⟨fun q h => Enc.flat (enc := encRM) r q h⟩
def inPut (p : PutR) (a : Nat) : Prop := p.1 ≤ a ∧ a - p.1 < p.2.length
instance (p : PutR) (a : Nat) : Decidable (inPut p a) := inferInstanceAs (Decidable (_ ∧ _))
def byteR (ps : List PutR) (a : Nat) : Nat → UInt8
  | 0 => 0
  | i + 1 => match ps[i]? with
    | some p => if inPut p a then p.2.getD (a - p.1) 0 else byteR ps a i
    | none => 0
def byteM (r : RM) (a : Nat) : UInt8 := byteR r.puts a r.puts.length
def readM (r : RM) (a n : Nat) : List UInt8 := (List.range n).map fun i => byteM r (a + i)
def writeM (r : RM) (a : Nat) (ys : List UInt8) : RM := { r with puts := r.puts ++ [(a, ys)] }
def growM (r : RM) (n : Nat) : RM × Nat × Bool := if r.most - r.pages < n then (r, 0, false) else ({ r with pages := r.pages + n }, r.pages, true)
theorem readM_len (r : RM) (a n : Nat) : (readM r a n).length = n := by simp [readM]
theorem readM_succ (r : RM) (a n : Nat) : readM r a (n + 1) = readM r a n ++ [byteM r (a + n)] := by simp [readM, List.range_succ]
theorem byteR_yes {ps : List PutR} {a i : Nat} {p : PutR} (h : ps[i]? = some p) (hi : inPut p a) : byteR ps a (i + 1) = p.2.getD (a - p.1) 0 := by
  show (match ps[i]? with | some p => if inPut p a then p.2.getD (a - p.1) 0 else byteR ps a i | none => 0) = _
  rw [h]; exact if_pos hi
theorem byteR_no {ps : List PutR} {a i : Nat} {p : PutR} (h : ps[i]? = some p) (hi : ¬ inPut p a) : byteR ps a (i + 1) = byteR ps a i := by
  show (match ps[i]? with | some p => if inPut p a then p.2.getD (a - p.1) 0 else byteR ps a i | none => 0) = _
  rw [h]; exact if_neg hi
theorem byteR_app {ps qs : List PutR} {a : Nat} : ∀ i, i ≤ ps.length → byteR (ps ++ qs) a i = byteR ps a i
  | 0, _ => rfl
  | i + 1, h => by
    have ih := byteR_app (ps := ps) (qs := qs) (a := a) i (by omega)
    obtain ⟨p, hp⟩ : ∃ p, ps[i]? = some p := ⟨ps[i], List.getElem?_eq_getElem (by omega)⟩
    have hp2 : (ps ++ qs)[i]? = some p := by rw [List.getElem?_append_left (by omega)]; exact hp
    by_cases hi : inPut p a
    · rw [byteR_yes hp hi, byteR_yes hp2 hi]
    · rw [byteR_no hp hi, byteR_no hp2 hi, ih]
theorem byteM_write (r : RM) (at_ : Nat) (ys : List UInt8) (a : Nat) : byteM (writeM r at_ ys) a = if at_ ≤ a ∧ a < at_ + ys.length then ys.getD (a - at_) 0 else byteM r a := by
  unfold byteM writeM
  simp only [List.length_append, List.length_singleton]
  have hp : (r.puts ++ [(at_, ys)])[r.puts.length]? = some (at_, ys) := by simp
  by_cases h : at_ ≤ a ∧ a < at_ + ys.length
  · rw [if_pos h, byteR_yes hp (show inPut (at_, ys) a from ⟨h.1, by show a - at_ < ys.length; omega⟩)]
  · rw [if_neg h, byteR_no hp (fun hi => h ⟨hi.1, by have h2 : a - at_ < ys.length := hi.2; have h1 : at_ ≤ a := hi.1; omega⟩), byteR_app _ (Nat.le_refl _)]
/-- a memory is as the document's one -/
structure Side (i : Nat) (M : SpD) (r : RM) (C : Cont) : Prop where
  ok : SpOk M
  num : M.num = (i : Int)
  pages : M.pages = r.pages
  most : M.most = 5
  high : M.high = r.most
  eq : ∀ a, memB 64 C (i : Int) a = byteM r a
theorem Side.read {num : Nat} {M : SpD} {r : RM} {C : Cont} (h : Side num M r C) (a n : Nat) : memR 64 C M.num a n = readM r a n := by
  unfold memR readM
  apply List.map_congr_left
  intro i _
  rw [h.num]; exact h.eq _
theorem Side.write {num : Nat} {M : SpD} {r : RM} {C : Cont} (h : Side num M r C) (a : Nat) (ys : List UInt8) : Side num M (writeM r a ys) (wrC 64 C M.num a ys) :=
  ⟨h.ok, h.num, h.pages, h.most, h.high, fun x => by rw [h.num, wrC_byte (by decide), byteM_write, h.eq]⟩
theorem Side.other {num num' : Nat} {M : SpD} {r : RM} {C : Cont} (h : Side num M r C) (hn : num' ≠ num) (a : Nat) (ys : List UInt8) {n : Int} (he : n = (num' : Int)) : Side num M r (wrC 64 C n a ys) :=
  ⟨h.ok, h.num, h.pages, h.most, h.high, fun x => by rw [he, wrC_other (by omega)]; exact h.eq x⟩
theorem Side.grow {num : Nat} {M : SpD} {r : RM} {C : Cont} (h : Side num M r C) (n : Nat) : Side num (growS M n).1 (growM r n).1 C ∧ (growS M n).2 = (growM r n).2 := by
  have h1 := h.pages; have h2 := h.high
  have h3 := h.ok.pages; have h4 := h.ok.high
  unfold growS growM
  by_cases hg : M.high - M.pages < n
  · rw [if_pos hg, if_pos (by omega)]; exact ⟨h, rfl⟩
  · rw [if_neg hg, if_neg (by omega)]
    exact ⟨⟨⟨h.ok.num, (by show M.pages + n ≤ M.most; omega), h.ok.high, h.ok.most⟩, h.num, (by show M.pages + n = r.pages + n; omega), h.most, h.high, h.eq⟩, by rw [h1]⟩
def capM (r : RM) (p : Int) : RM := { r with most := if 0 ≤ p then (min p 5).toNat else 5 }
theorem Side.cap {num : Nat} {M : SpD} {r : RM} {C : Cont} (h : Side num M r C) (p : Int) : Side num (capS M p) (capM r p) C := by
  have h1 := h.most
  refine ⟨⟨h.ok.num, h.ok.pages, ?_, h.ok.most⟩, h.num, h.pages, h.most, ?_, h.eq⟩
  · show (if 0 ≤ p then min p.toNat M.most else M.most) ≤ M.most
    split <;> omega
  · show (if 0 ≤ p then min p.toNat M.most else M.most) = if 0 ≤ p then (min p 5).toNat else 5
    split <;> omega
theorem Side.new {num pages : Nat} {wide : Prop} (h : pages ≤ 5) : Side num ⟨(num : Int), pages, 5, 5, wide⟩ ⟨pages, 5, []⟩ (zeroC 64) :=
  ⟨⟨Int.natCast_nonneg _, h, Nat.le_refl _, by show 5 ≤ 65536; decide⟩, rfl, rfl, rfl, rfl, fun a => by
    unfold memB zeroC byteM
    rw [List.getD_eq_getElem?_getD, List.getElem?_replicate]
    split <;> rfl⟩

/-! ### two of them -/
def pick {α : Type} (k : Nat) (x y : α) : α := if k = 0 then x else y
theorem pick0 {α : Type} (x y : α) : pick 0 x y = x := rfl
theorem pick1 {α : Type} (x y : α) : pick 1 x y = y := rfl
abbrev MemP := Nat × SpD
def memsH (pb : Nat) (l : List MemP) : HP := ownH (l.map fun p : MemP => spaceH p.1 pb p.2)
theorem mems_nil {pb : Nat} {r : List HP} : OLe r (memsH pb [] :: r) := fun F S w x => ⟨fun _ => False, F, fun _ h => h.elim, fun _ h => h, trivial, x⟩
theorem mems_add {pb b : Nat} {M : SpD} {l : List MemP} {r : List HP} : OLe (spaceH b pb M :: memsH pb l :: r) (memsH pb (l ++ [(b, M)]) :: r) := by
  refine OLe.trans (OLe.perm (List.Perm.swap _ _ _)) ?_
  refine OLe.trans (OLe.unpack (l := l.map fun p : MemP => spaceH p.1 pb p.2) (r := spaceH b pb M :: r)) ?_
  have := OLe.pack (l := (l ++ [(b, M)]).map fun p : MemP => spaceH p.1 pb p.2) (r := r)
  rw [List.map_append, List.append_assoc] at this
  rw [memsH, List.map_append]; exact this
theorem mems_open {pb k : Nat} {p0 p1 : MemP} {r : List HP} : OLe (memsH pb [p0, p1] :: r) (spaceH (pick k p0 p1).1 pb (pick k p0 p1).2 :: spaceH (pick k p1 p0).1 pb (pick k p1 p0).2 :: r) := by
  refine OLe.trans (OLe.unpack (l := [p0, p1].map fun p : MemP => spaceH p.1 pb p.2) (r := r)) ?_
  unfold pick
  by_cases h : k = 0
  · rw [if_pos h, if_pos h]; exact OLe.refl _
  · rw [if_neg h, if_neg h]; exact OLe.perm (List.Perm.swap _ _ _)
/-- an array of elements, as a slice -/
theorem arr_slice {α : Type} {b n N : Nat} {enc : α → List VP} {xs : List α} {cs : List VP} {r : List HP} (hcs : cs = xs.flatMap enc) (hl : cs.length = N * n) (hx : xs.length = N) (hN : N ≤ 281474976710656) : OLe (cellsH b cs :: r) (sliceH (some (b, N)) n enc xs :: r) := fun F S w ⟨F1, F2, h1, h2, ⟨hF, arr, T, hh, hn, hc⟩, h4⟩ => by
  subst hcs
  exact ⟨F1, F2, h1, h2, ⟨hF, by omega, by omega, arr, T, hh, by rw [hn, hl], hc⟩, h4⟩
def encPt (o : Option Nat) : List VP := [match o with | none => nilV | some b => addrV b 0]
instance : Enc 1 encPt := ⟨fun _ => rfl, fun x q h => by
  simp only [encPt, List.mem_cons, List.not_mem_nil, or_false] at h
  subst h
  cases x <;> infer_instance⟩
section
variable {P : Program} {hs : List HP} {env : Env} {q : VP} {dst : Option Tmp} {ty T T' E : TypeId} {pos : String} {after : Array Edge} {gd : Option (Nat × Bool)} {x y z : Operand}
theorem opIndexAddrAW {len n b : Nat} {k : IntKind} {i : Int} (j : Nat) (hT : P.underlying T = some (.array len E)) (hn : P.cellsOf E = n) (h0 : Nat.blt 0 n = true) (hx : Opd env x (addrV b 0)) (hy : Opd env y (intV k i)) (hi : i = (j : Int)) (hj : j < len) :
    OpP P hs env ⟨dst, .indexAddr T x y, ty, pos, after, gd⟩ (addrV b (j * n)) := (opIndexAddrO j hT hn h0 hx hy hi hj).le (VLe.of_eq (by rw [Nat.zero_add]))
/-- new bytes, as elements -/
theorem opMakeW {n : Nat} {i : Int} (hT : P.underlying T = some (.slice E)) (hn : P.cellsOf E = 1) (hb : P.bytesOf E = 1) (hz : zeroB P E = some [.int .u8 0]) (hx : Opd env x (intV .i64 i)) (hi : i = (n : Int)) (hle : n ≤ 281474976710656) :
    OpE P hs env ⟨dst, .makeSlice T x x, ty, pos, after, gd⟩ (γ := Nat) (fun _ => True) (fun b => sliceH (some (b, n)) 1 encU8 (List.replicate n (0 : UInt8)) :: hs) (fun b => exactV (sval (some (b, n)) n)) := by
  intro c a w S F hsit hown he K Q hk
  have hv := hx S w a he; simp only [exactV] at hv
  subst hi
  have hr := run_makeBuf (dst := dst) (ty := ty) (pos := pos) (after := after) (gd := gd) (w := w) hT hn hb hz hv hle
  unfold Oper.wp
  rw [hr]
  refine hk w.heap.size _ _ S _ trivial (hsit.newOwn _) (fun _ h => h) (fun k hk => heap_push_old w _ k (hsit.domS k hk)) (hown.newOwn hsit.domS hsit.domF _ ⟨rfl, by simp, by simp; exact hle, (u8s (List.replicate n 0)).toArray, E, by simp, by simp [u8s], fun j q hj => ?_⟩) rfl
  obtain ⟨u, h1, h2⟩ := enc_u8s hj (S := S) (w := { w with heap := w.heap.push (.cells (u8s (List.replicate n 0)).toArray E) })
  exact ⟨u, by simpa using h1, h2⟩
end
theorem rep_set {v : UInt8} {n i : Nat} (h : i < n) : (List.replicate i v ++ List.replicate (n - i) 0).set i v = List.replicate (i + 1) v ++ List.replicate (n - (i + 1)) 0 := by
  have e : n - i = (n - (i + 1)) + 1 := by omega
  rw [List.set_append_right _ _ (by simp), e, List.length_replicate, Nat.sub_self, List.replicate_succ, List.set_cons_zero, List.replicate_succ', List.append_assoc]
  rfl
end Go.Hl
