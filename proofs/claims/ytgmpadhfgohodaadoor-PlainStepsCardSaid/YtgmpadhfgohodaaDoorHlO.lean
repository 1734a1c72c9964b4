/-
  Owned bytes, and parts of them. No project text.
-/
import Derived.Test.YtgmpadhfgohodaaDoorHlM
namespace Go.Hl
open Go.RowKit
set_option linter.unusedVariables false

section
variable {P : Program} {hs : List HP} {env : Env} {q : VP} {dst : Option Tmp} {ty T T' T2 E : TypeId} {pos : String} {after : Array Edge} {gd : Option (Nat × Bool)} {x y z : Operand}

def u8s (l : List UInt8) : List Value := l.map fun b => .int .u8 (b.toNat : Int)
/-- an owned block of bytes -/
def bufH (b : Nat) (l : List UInt8) : HP :=
  ⟨fun F S w => F b ∧ ∃ T : TypeId, w.heap[b]? = some (.cells (u8s l).toArray T (0, 0)), fun h1 h2 h3 h4 ⟨hF, T, hh⟩ => ⟨h1 b hF, T, (h3 b hF).trans hh⟩⟩
/-- a part of a block of bytes -/
def subV (b off len : Nat) : VP := ⟨fun _ _ v => ∃ o cap, v = .slice (some ⟨b, o, none⟩) len cap ∧ (len = 0 ∨ o = off) ∧ len ≤ cap ∧ cap ≤ 281474976710656, fun _ _ h => h⟩
instance (b off len : Nat) : Flat (subV b off len) := ⟨fun ⟨_, _, h, _⟩ => by subst h; exact ⟨rfl, rfl⟩⟩
theorem subV_len {b off len : Nat} {S : BS} {w : World} {v : Value} (h : (subV b off len).p S w v) : len ≤ 281474976710656 := by obtain ⟨o, cap, _, _, h1, h2⟩ := h; omega

/-- what may be appended, or copied -/
def Src (P : Program) (hs : List HP) (env : Env) (y : Operand) {α : Type} (n : Nat) (enc : α → List VP) (ys : List α) : Prop :=
  ∀ (S F : BS) (w : World) (a : Act), Own hs F S w → EnvOk env S w a.tmps → ∃ (ya : Option Addr) (ycap : Nat) (vy : List Value), a.eval y = .slice ya ys.length ycap ∧ ys.length ≤ 281474976710656 ∧ vy.length = ys.length * n ∧
    (∀ d : Nat, (Builtin.firstCells n ys.length (.slice ya ys.length ycap)).run P { w with drawn := d } = .ok vy.toArray { w with drawn := d }) ∧ ∀ (j : Nat) (q : VP), (ys.flatMap enc)[j]? = some q → ∃ u, vy[j]? = some u ∧ q.p S w u
theorem Src.shared {α : Type} {n : Nat} {enc : α → List VP} {ys : List α} [he : Enc n enc] (h0 : Nat.blt 0 n = true) (hy : Opd env y (sliceV n enc ys)) : Src P hs env y n enc ys := fun S F w a _ hev => by
  obtain ⟨ya, ycap, hyv, hyc, hym, hyel⟩ := hy S w a hev
  obtain ⟨vy, h1, h2, h3⟩ := firstCells_shared (P := P) he.len (by simpa using h0) hyel hyc
  exact ⟨ya, ycap, vy, hyv, hym, h1, h2, h3⟩
theorem u8s_get {l : List UInt8} {j : Nat} : (u8s l)[j]? = (l[j]?).map fun b => .int .u8 (b.toNat : Int) := by simp [u8s]
theorem u8s_len (l : List UInt8) : (u8s l).length = l.length := by simp [u8s]
theorem enc_u8s {l : List UInt8} {S : BS} {w : World} {j : Nat} {q : VP} (h : (l.flatMap encU8)[j]? = some q) : ∃ u, (u8s l)[j]? = some u ∧ q.p S w u := by
  have e : l.flatMap encU8 = l.map fun b => intV .u8 (b.toNat : Int) := by
    induction l with
    | nil => rfl
    | cons x l ih => rw [List.flatMap_cons, List.map_cons]; rw [show l.flatMap encU8 = l.map fun b => intV .u8 (b.toNat : Int) from by
        clear ih h; induction l with
        | nil => rfl
        | cons x l ih => rw [List.flatMap_cons, List.map_cons, ih]; rfl]; rfl
  rw [e, List.getElem?_map] at h
  cases hj : l[j]? with
  | none => rw [hj] at h; cases h
  | some b => rw [hj] at h; cases h; exact ⟨_, by rw [u8s_get, hj]; rfl, rfl⟩
theorem buf_first {b o len cap off : Nat} {l : List UInt8} {w : World} {T : TypeId} (hb : w.heap[b]? = some (.cells (u8s l).toArray T (0, 0))) (ho : len = 0 ∨ o = off) (hl : off + len ≤ l.length) (d : Nat) :
    (Builtin.firstCells 1 len (.slice (some ⟨b, o, none⟩) len cap)).run P { w with drawn := d } = .ok (u8s ((l.drop off).take len)).toArray { w with drawn := d } := by
  have hlen : ((l.drop off).take len).length = len := by simp; omega
  rcases ho with h0 | ho
  · subst h0
    simp [Builtin.firstCells, loadCells, loadCellsFrom, u8s]
  · subst ho
    have := run_loadCellsFrom (P := P) (b := b) (off := o) (len * 1) 0 #[] { w with drawn := d } (u8s ((l.drop o).take len)) (by rw [u8s_len, hlen]; omega) (fun j v hj => by
      rw [u8s_get, List.getElem?_take] at hj
      split at hj
      · rw [List.getElem?_drop] at hj
        simp only [World.cell?, hb, Nat.zero_add]
        simpa [u8s] using hj
      · cases hj)
    simpa [Builtin.firstCells, loadCells] using this
theorem Src.buf {b off len i : Nat} {l : List UInt8} (hy : Opd env y (subV b off len)) (hi : hs[i]? = some (bufH b l)) (hl : off + len ≤ l.length) : Src P hs env y 1 encU8 ((l.drop off).take len) := fun S F w a ho hev => by
  obtain ⟨o, cap, hv, h1, h2, h3⟩ := hy S w a hev
  obtain ⟨F1, _, _, T, hb⟩ := ho.get hi
  have hlen : ((l.drop off).take len).length = len := by simp; omega
  refine ⟨some ⟨b, o, none⟩, cap, u8s ((l.drop off).take len), by rw [hlen]; exact hv, by omega, by rw [u8s_len]; omega, fun d => by rw [hlen]; exact buf_first hb h1 hl d, fun j q hj => enc_u8s hj⟩

/-- 'append(x, y...)': x is empty -/
theorem opAppendEX {α : Type} {n by_ : Nat} {enc : α → List VP} {ys : List α} {zs : List Value} {E2 : TypeId} [he : Enc n enc] (hT : P.underlying T = some (.slice E)) (hT2 : P.underlying T2 = some (.slice E2)) (hn : P.cellsOf E = n) (h0 : Nat.blt 0 n = true)
    (hz : zeroB P E = some zs) (hzl : zs.length = n) (hb : P.bytesOf E = by_) (hx : Opd env x emptyV) (hy : Src P hs env y n enc ys) (hroom : (2 * ys.length + 256) * by_ ≤ 281474976710656) :
    OpP P hs env ⟨dst, .call ⟨.builtin .append, #[x, y], #[T, T2]⟩, ty, pos, after, gd⟩ (sliceV n enc ys) := by
  intro a w S F h1 h2 h3 h4 hev K Q hk
  have hn0 : 0 < n := by simpa using h0
  obtain ⟨base, hv⟩ := hx S w a hev
  obtain ⟨ya, ycap, vy, hyv, hym, hvy1, hvy2, hvy3⟩ := hy S F w a h4 hev
  have hsz := run_sizeOf hn h0 w
  by_cases hy0 : ys = []
  · subst hy0
    have hr : (execOp a.eval ⟨dst, .call ⟨.builtin .append, #[x, y], #[T, T2]⟩, ty, pos, after, gd⟩).run P w = .ok (.value (.slice base 0 0)) w := by
      have h5 := hvy2 w.drawn
      have : vy = [] := List.length_eq_zero_iff.1 (by rw [hvy1]; simp)
      subst this
      simp at h5
      cases base <;> simp [execOp, resolve, invoke, builtin, Builtin.append_, hv, hyv, run_underlying hT, run_underlying hT2, hsz, Builtin.lenOf, h5, storeCells]
    unfold Oper.wp
    rw [hr]
    exact hk _ w S (Grow.refl _ _) (emptyV_slice n enc S w _ ⟨_, rfl⟩)
  · have hy1 : 0 < ys.length := List.length_pos_iff.2 hy0
    obtain ⟨info, hi1, hi2⟩ := run_typeInfo' hn h0 w
    obtain ⟨zv', hz1', hz2'⟩ := run_zero hz w.drew
    obtain ⟨info', hi1', hi2'⟩ := run_typeInfo' hn h0 w.drew
    have hbytes : info.bytes = by_ := hi2.trans hb
    have hns := nextslicecap_le (need := ys.length) (cap := 0) (by omega)
    have hcapB : Builtin.nextslicecap (ys.length) 0 * by_ ≤ 281474976710656 := Nat.le_trans (Nat.mul_le_mul_right _ hns) hroom
    have hvy2' : (Builtin.firstCells n ys.length (.slice ya ys.length ycap)).run P w.drew = .ok vy.toArray w.drew := hvy2 (w.drawn + 1)
    have hvx2' : (Builtin.firstCells n 0 (.slice base 0 0)).run P w.drew = .ok #[] w.drew := by cases base <;> simp [Builtin.firstCells, loadCells, loadCellsFrom]
    generalize hcut : Question.cut (.appendCap (ys.length) 0 E) (w.tape w.drawn (.appendCap (ys.length) 0 E)) = newCap
    have hge : ys.length ≤ newCap := by rw [← hcut]; simp only [Question.cut]; omega
    let row : Array Value := vy.toArray ++ Builtin.zeroCells zv'.cells (newCap - (ys.length))
    have hr : (execOp a.eval ⟨dst, .call ⟨.builtin .append, #[x, y], #[T, T2]⟩, ty, pos, after, gd⟩).run P w = .ok (.value (.slice (some ⟨w.heap.size, 0, none⟩) ys.length newCap)) (w.drew.alloc (.cells row E)) := by
      have hnot : ¬ (ys.length ≤ 0) := by omega
      have hnot2 : ¬ ys = [] := hy0
      have hbig : ¬ ((9223372036854775807 : Int) < (ys.length : Int)) := by omega
      have hbig2 : ¬ (281474976710656 < Builtin.nextslicecap (ys.length) 0 * info.bytes) := by rw [hbytes]; omega
      simp [execOp, resolve, invoke, builtin, Builtin.append_, hv, hyv, run_underlying hT, run_underlying hT2, hsz, Builtin.lenOf, hnot2, hbig, hi1, hbig2, Question.forced, hcut, hi1', hvx2', hvy2', hz1', newRow, row]
    generalize hw' : w.drew.alloc (.cells row E) = w' at hr
    unfold Oper.wp
    rw [hr]
    have hheap : w'.heap = w.heap.push (.cells row E) := by rw [← hw']; rfl
    have hg0 := Grow.new1 w S (.cells row E)
    have hg : Grow w w' S (fun k => S k ∨ k = w.heap.size) := ⟨by rw [← hw']; rfl, by rw [← hw']; rfl, by rw [← hw']; rfl, by rw [hheap]; exact hg0.size, fun k hk => by rw [hheap]; exact heap_push_old w _ k hk, hg0.sub, fun k hk => by rw [hheap]; exact hg0.new k hk⟩
    refine hk _ w' _ hg ⟨some ⟨w.heap.size, 0, none⟩, newCap, rfl, hge, hym, fun _ => ⟨rfl, .inr rfl, fun i y0 hi j q hj => ?_⟩⟩
    have hcl : CellsAt (fun k => S k ∨ k = w.heap.size) w' w.heap.size 0 (ys.flatMap enc) := fun j q hj => by
      obtain ⟨u, hu, hq⟩ := hvy3 j q hj
      have hjl := (List.getElem?_eq_some_iff.1 hj).1
      rw [flat_len he.len] at hjl
      refine ⟨u, ?_, hg.vp h1 hq⟩
      have : row[j]? = some u := by
        simp only [row]
        rw [Array.getElem?_append_left (by simp [hvy1]; omega)]
        simpa using hu
      simp [World.cell?, hheap, this]
    exact flat_cellsAt he.len hcl i y0 hi j q hj

theorem run_makeBuf {n : Nat} {w : World} {ρ : Operand → Value} (hT : P.underlying T = some (.slice E)) (hn : P.cellsOf E = 1) (hb : P.bytesOf E = 1) (hz : zeroB P E = some [.int .u8 0]) (hv : ρ x = .int .i64 (n : Int)) (hle : n ≤ 281474976710656) :
    (execOp ρ ⟨dst, .makeSlice T x x, ty, pos, after, gd⟩).run P w = .ok (.value (.slice (some ⟨w.heap.size, 0, none⟩) n n)) { w with heap := w.heap.push (.cells (u8s (List.replicate n 0)).toArray E) } := by
  obtain ⟨info, hi1, hi2⟩ := run_typeInfo' hn rfl w
  obtain ⟨zv, hz1, hz2⟩ := run_zero hz w
  have hs1 := run_sizeOf hn rfl w
  have hw : IntKind.i64.wrap (n : Int) = (n : Int) := wrap_fits (fits_i64 (by omega) (by omega))
  have hbytes : info.bytes = 1 := hi2.trans hb
  have hcells : (Array.range (n * 1)).map (fun t => zv.cells[t % zv.cells.size]!) = (u8s (List.replicate n 0)).toArray := by
    rw [hz2]
    apply Array.ext
    · simp [u8s]
    · intro j h1 h2
      simp [u8s, Nat.mod_one]
  have hnn : ¬ ((n : Int) < 0) := by omega
  have hbig : ¬ ((281474976710656 : Int) < (n : Int)) := by omega
  have hroom : ∀ m : Nat, (askRoom m).run P w = .ok () w := fun m => by unfold askRoom; split <;> simp [mark, Sem.run]
  by_cases h0 : n = 0
  · subst h0
    have hw0 : IntKind.i64.wrap 0 = 0 := hw
    have hr0 : Array.map (fun _ : Nat => (default : Value)) (Array.range 0) = (u8s []).toArray := by apply Array.ext <;> simp [u8s]
    simp [execOp, Instr.makeSlice, run_underlying hT, asInt, asIntOf, hv, hi1, hw0, hs1, newRow]
    exact congrArg (fun r => w.alloc (.cells r E)) hr0
  · simp [execOp, Instr.makeSlice, run_underlying hT, asInt, asIntOf, hv, hi1, hbytes, hw, hnn, hbig, hroom, hs1, h0, hz1, newRow]
    rw [Nat.mul_one] at hcells
    exact congrArg (fun r => w.alloc (.cells r E)) hcells
theorem opMakeBuf {n : Nat} {i : Int} (hT : P.underlying T = some (.slice E)) (hn : P.cellsOf E = 1) (hb : P.bytesOf E = 1) (hz : zeroB P E = some [.int .u8 0]) (hx : Opd env x (intV .i64 i)) (hi : i = (n : Int)) (hle : n ≤ 281474976710656) :
    OpE P hs env ⟨dst, .makeSlice T x x, ty, pos, after, gd⟩ (γ := Nat) (fun _ => True) (fun b => bufH b (List.replicate n 0) :: hs) (fun b => subV b 0 n) := by
  intro c a w S F hsit hown he K Q hk
  have hv := hx S w a he; simp only [exactV] at hv
  subst hi
  have hr := run_makeBuf (dst := dst) (ty := ty) (pos := pos) (after := after) (gd := gd) (w := w) hT hn hb hz hv hle
  unfold Oper.wp
  rw [hr]
  exact hk w.heap.size _ _ S _ trivial (hsit.newOwn _) (fun _ h => h) (fun k hk => heap_push_old w _ k (hsit.domS k hk)) (hown.newOwn hsit.domS hsit.domF _ ⟨rfl, E, by simp⟩) ⟨0, n, rfl, .inr rfl, Nat.le_refl _, hle⟩

/-! ### parts -/
theorem opLenSub {b off len : Nat} {ats : Array TypeId} (hat : ats[0]? = some T) (hT : P.underlying T = some (.slice E)) (hx : Opd env x (subV b off len)) : OpP P hs env ⟨dst, .call ⟨.builtin .len, #[x], ats⟩, ty, pos, after, gd⟩ (intV .i64 (len : Int)) :=
  OpP.of_read fun ρ w S F _ he => by
    obtain ⟨o, cap, hv, _⟩ := he.o _ _ hx
    exact ⟨.int .i64 (len : Int), by simp [execOp, resolve, invoke, builtin, Builtin.len_, hat, hv, run_underlying hT, goInt], rfl⟩
theorem opSliceSub {b off len : Nat} {k k' : IntKind} {i i' : Int} {l h : Nat} (hT : P.underlying T = some (.slice E)) (hn : P.cellsOf E = 1) (hx : Opd env x (subV b off len)) (hy : Opd env y (intV k i)) (hz : Opd env z (intV k' i'))
    (hi : i = (l : Int)) (hi' : i' = (h : Int)) (hlh : l ≤ h) (hh : h ≤ len) : OpP P hs env ⟨dst, .slice T x (some y) (some z) none, ty, pos, after, gd⟩ (subV b (off + l) (h - l)) :=
  OpP.of_read fun ρ w S F _ he => by
    obtain ⟨o, cap, hv, h1, h2, h3⟩ := he.o _ _ hx
    have h4 := he.o _ _ hy; simp only [exactV] at h4
    have h5 := he.o _ _ hz; simp only [exactV] at h5
    subst hi; subst hi'
    have hs := run_sizeOf (T := E) hn rfl w
    have hle : h ≤ cap := by omega
    have hadd : Addr.add ⟨b, o, none⟩ l = ⟨b, o + l, none⟩ := by
      unfold Addr.add
      split
      · rename_i h0; simp
      · rfl
    refine ⟨.slice (if cap = l then some ⟨b, o, none⟩ else some ⟨b, o + l, none⟩) (h - l) (cap - l), ?_, ?_⟩
    · simp [execOp, hv, h4, h5, Instr.sliceAt, Instr.slice, Instr.sliceBounds, Instr.sliceBound, asIntOf, run_underlying hT, hs, hle, hlh, hadd]
    · by_cases hcl : cap = l
      · exact ⟨o, cap - l, by rw [if_pos hcl], .inl (by omega), by omega, by omega⟩
      · exact ⟨o + l, cap - l, by rw [if_neg hcl], by omega, by omega, by omega⟩
theorem eq_slice_nil (d : Nat) (a : Option Addr) (l c : Nat) {w : World} (h : P.underlying T = some (.slice E)) : (Op.equalIn (d + 1) T (.slice a l c) (.slice none 0 0)).run P w = .ok a.isNone w := by
  cases a <;> simp [Op.equalIn, run_underlying h]
theorem opNeqNilSub {b off len : Nat} (hT : P.underlying T = some (.slice E)) (hx : Opd env x (subV b off len)) (hy : Opd env y (exactV (.slice none 0 0))) : OpP P hs env ⟨dst, .binOp .neq T x y T', ty, pos, after, gd⟩ (propV True) :=
  OpP.of_read fun ρ w S F _ he => by
    obtain ⟨o, cap, hv, _⟩ := he.o _ _ hx
    have h2 := he.o _ _ hy; simp only [exactV] at h2
    have e2 : (binOp .neq T (.slice (some ⟨b, o, none⟩) len cap) (.slice none 0 0)).run P w = .ok (.bool true) w := by
      show ((do pure (.bool (!(← Op.equalIn (9999 + 1) T (.slice (some ⟨b, o, none⟩) len cap) (.slice none 0 0))))) : Sem Value).run P w = _
      rw [run_bind_ok (eq_slice_nil 9999 (some ⟨b, o, none⟩) len cap hT)]; rfl
    exact ⟨.bool true, by simp [execOp, hv, h2, eqGuard, e2], _, rfl, by simp⟩
theorem opEqlNilSub {b off len : Nat} (hT : P.underlying T = some (.slice E)) (hx : Opd env x (subV b off len)) (hy : Opd env y (exactV (.slice none 0 0))) : OpP P hs env ⟨dst, .binOp .eql T x y T', ty, pos, after, gd⟩ (propV False) :=
  OpP.of_read fun ρ w S F _ he => by
    obtain ⟨o, cap, hv, _⟩ := he.o _ _ hx
    have h2 := he.o _ _ hy; simp only [exactV] at h2
    have e2 : (binOp .eql T (.slice (some ⟨b, o, none⟩) len cap) (.slice none 0 0)).run P w = .ok (.bool false) w := by
      show ((do pure (.bool (← Op.equalIn (9999 + 1) T (.slice (some ⟨b, o, none⟩) len cap) (.slice none 0 0)))) : Sem Value).run P w = _
      rw [run_bind_ok (eq_slice_nil 9999 (some ⟨b, o, none⟩) len cap hT)]; rfl
    exact ⟨.bool false, by simp [execOp, hv, h2, eqGuard, e2], _, rfl, by simp⟩

/-- an owned object is turned, by its cells -/
theorem OpE.turnW {o : Oper} {c : Ctx} {a : Act} {w w1 : World} {S F : BS} (hsit : Sit c w S F) (hown : Own hs F S w) {m i : Nat} {h0 h1 : HP} (hi : hs[i]? = some h0) (hF : ∀ F1 S w, h0.p F1 S w → F1 m) {v : Value} {Kp : Act → World → Prop} {Q : Exit → Act → World → Prop}
    (hr : (execOp a.eval o).run P w = .ok (.value v) w1) (e1 : w1.os = w.os) (e2 : w1.tape = w.tape) (e3 : w1.output = w.output) (e4 : w1.heap.size = w.heap.size) (hne : ∀ k', k' ≠ m → w1.heap[k']? = w.heap[k']?) (hp : ∀ F1, h0.p F1 S w → h1.p F1 S w1)
    (hk : Sit c w1 S F → (∀ k, S k → w1.heap[k]? = w.heap[k]?) → Own (hs.set i h1) F S w1 → Kp (a.put o.dst v) w1) : o.wp P a w Kp Q := by
  obtain ⟨F1, F2, f1, f2, f3, _, f4⟩ := hown.upd hi
  have hFm := hF F1 S w f3
  have hag : ∀ k', S k' → w1.heap[k']? = w.heap[k']? := fun k' hk' => hne k' (fun e => hsit.disj k' hk' (e ▸ (f1 m hFm).1))
  have hO : Own (hs.set i h1) F S w1 := by
    have := f4 S F1 w1 h1 (fun k hk => (f1 k hk).2) (fun _ h => h) (fun k hk => hne k (fun e => (f1 m hFm).2 (e ▸ hk))) hag (hp F1 f3)
    exact this.mono (fun k hk => hk.elim (fun h => (f1 k h).1) (f2 k)) (fun _ h => h) (fun _ _ => rfl) (fun _ _ => rfl)
  have hS : Sit c w1 S F := hsit.write (f1 m hFm).1 e1 e2 e3 e4 hne
  unfold Oper.wp
  rw [hr]
  exact hk hS hag hO
theorem u8s_one {l : List UInt8} : ∀ v ∈ u8s l, v.oneCell' = true := fun v hv => by
  obtain ⟨b, _, rfl⟩ := List.mem_map.1 hv; rfl
theorem u8s_splice {l ys : List UInt8} {off : Nat} (h : off + ys.length ≤ l.length) {arr : Array Value} (hs : arr.size = (u8s l).toArray.size) (h1 : ∀ j, (j < off ∨ off + ys.length ≤ j) → arr[j]? = (u8s l).toArray[j]?) (h2 : ∀ j v, (u8s ys)[j]? = some v → arr[off + j]? = some v) :
    arr = (u8s (l.take off ++ ys ++ l.drop (off + ys.length))).toArray := by
  have hz : arr.size = l.length := by simpa [u8s] using hs
  apply Array.ext_getElem?
  intro j
  simp only [List.getElem?_toArray, u8s_get] at h1 ⊢
  rcases Nat.lt_or_ge j off with h3 | h3
  · rw [h1 j (.inl h3), List.append_assoc, List.getElem?_append_left (by simp; omega), List.getElem?_take, if_pos h3]
  · rcases Nat.lt_or_ge j (off + ys.length) with h4 | h4
    · have h5 : ys[j - off]? = some (ys[j - off]'(by omega)) := List.getElem?_eq_getElem (by omega)
      have := h2 (j - off) _ (by rw [u8s_get, h5]; rfl)
      rw [show off + (j - off) = j by omega] at this
      have hto : (List.take off l).length = off := by simp; omega
      rw [this, List.append_assoc, List.getElem?_append_right (by omega), List.getElem?_append_left (by omega), hto, h5]; rfl
    · rw [h1 j (.inr h4), List.getElem?_append_right (by simp; omega), List.getElem?_drop]
      congr 2
      simp only [List.length_append, List.length_take]; omega
theorem bufH_store {b off o i : Nat} {l ys : List UInt8} {vs : List Value} {op : Oper} {c : Ctx} {a : Act} {w : World} {S F : BS} (hsit : Sit c w S F) (hown : Own hs F S w) (hi : hs[i]? = some (bufH b l)) (hvs : vs = u8s ys) (ho : ys.length = 0 ∨ o = off) (hl : off + ys.length ≤ l.length) {v : Value} {Kp : Act → World → Prop} {Q : Exit → Act → World → Prop}
    (hr : ∀ w1, (storeCells ⟨b, o, none⟩ vs 0).run P w = .ok () w1 → (execOp a.eval op).run P w = .ok (.value v) w1)
    (hk : ∀ w1, Sit c w1 S F → (∀ k, S k → w1.heap[k]? = w.heap[k]?) → Own (hs.set i (bufH b (l.take off ++ ys ++ l.drop (off + ys.length)))) F S w1 → Kp (a.put op.dst v) w1) : op.wp P a w Kp Q := by
  subst hvs
  obtain ⟨F1, _, hp⟩ := hown.get hi
  obtain ⟨_, T, hb⟩ := hp
  rcases ho with h0 | h0
  · have hy : ys = [] := List.length_eq_zero_iff.1 h0
    subst hy
    refine OpE.turnW (m := b) (h1 := bufH b (l.take off ++ [] ++ l.drop (off + [].length))) hsit hown hi (fun F1 S w h => h.1) (hr w (by simp [u8s, storeCells])) rfl rfl rfl rfl (fun _ _ => rfl) (fun F1 h => ?_) (hk w)
    simp only [List.length_nil, Nat.add_zero, List.append_nil, List.take_append_drop]; exact h
  · subst h0
    obtain ⟨w', arr', h1, h2, h3, h4, h5, h6, h7, h8, h9, h10⟩ := run_storeCells (P := P) (b := b) (off := o) (T := T) (u8s ys) 0 w _ u8s_one hb (by simpa [u8s] using hl)
    refine OpE.turnW (m := b) (h1 := bufH b (l.take o ++ ys ++ l.drop (o + ys.length))) hsit hown hi (fun F1 S w h => h.1) (hr w' h1) h2 h3 h4 h5 h6 (fun F1 h => ⟨h.1, T, ?_⟩) (hk w')
    rw [h7, u8s_splice hl h8 (fun j hj => h9 j (by simpa [u8s_len] using hj)) (fun j v hj => by simpa using h10 j v hj)]

/-- bytes that may be read -/
def SrcB (P : Program) (hs : List HP) (env : Env) (y : Operand) (ys : List UInt8) : Prop :=
  ∀ (S F : BS) (w : World) (a : Act), Own hs F S w → EnvOk env S w a.tmps → ∃ (ya : Option Addr) (ycap : Nat), a.eval y = .slice ya ys.length ycap ∧ ys.length ≤ 281474976710656 ∧
    ∀ d : Nat, (Builtin.firstCells 1 ys.length (.slice ya ys.length ycap)).run P { w with drawn := d } = .ok (u8s ys).toArray { w with drawn := d }
theorem SrcB.src {ys : List UInt8} (h : SrcB P hs env y ys) : Src P hs env y 1 encU8 ys := fun S F w a ho he => by
  obtain ⟨ya, ycap, h1, h2, h3⟩ := h S F w a ho he
  exact ⟨ya, ycap, u8s ys, h1, h2, by rw [u8s_len]; omega, h3, fun j q hj => enc_u8s hj⟩
theorem SrcB.shared {ys : List UInt8} (hy : Opd env y (sliceV 1 encU8 ys)) : SrcB P hs env y ys := fun S F w a _ hev => by
  obtain ⟨ya, ycap, hyv, hyc, hym, hyel⟩ := hy S w a hev
  refine ⟨ya, ycap, hyv, hym, fun d => ?_⟩
  by_cases h0 : ys = []
  · subst h0; cases ya <;> simp [Builtin.firstCells, loadCells, loadCellsFrom, u8s]
  · have : 0 < ys.length := List.length_pos_iff.2 h0
    cases ya with
    | none => have h9 : ycap = 0 := hyel; omega
    | some ad =>
      obtain ⟨b, off, sp⟩ := ad
      obtain ⟨h4, h5, h6⟩ := hyel (by omega)
      simp only at h4 h5 h6; subst h4
      have := cells_u8 (P := P) h6 d
      simp only [Builtin.firstCells, Nat.mul_one]
      rw [this]
      simp [u8s]
theorem SrcB.buf {b off len i : Nat} {l : List UInt8} (hy : Opd env y (subV b off len)) (hi : hs[i]? = some (bufH b l)) (hl : off + len ≤ l.length) : SrcB P hs env y ((l.drop off).take len) := fun S F w a ho hev => by
  obtain ⟨o, cap, hv, h1, h2, h3⟩ := hy S w a hev
  obtain ⟨F1, _, _, T, hb⟩ := ho.get hi
  have hlen : ((l.drop off).take len).length = len := by simp; omega
  exact ⟨some ⟨b, o, none⟩, cap, by rw [hlen]; exact hv, by omega, fun d => by rw [hlen]; exact buf_first hb h1 hl d⟩

/-- 'copy': all of it fits -/
theorem opCopySub {b off len i : Nat} {l ys : List UInt8} {ats : Array TypeId} (hat : ats[0]? = some T) (hT : P.underlying T = some (.slice E)) (hn : P.cellsOf E = 1) (hx : Opd env x (subV b off len)) (hy : SrcB P hs env y ys) (hi : hs[i]? = some (bufH b l)) (hle : ys.length ≤ len) (hl : off + len ≤ l.length) :
    OpE P hs env ⟨dst, .call ⟨.builtin .copy, #[x, y], ats⟩, ty, pos, after, gd⟩ (γ := Unit) (fun _ => True) (fun _ => hs.set i (bufH b (l.take off ++ ys ++ l.drop (off + ys.length)))) (fun _ => intV .i64 (ys.length : Int)) := by
  intro c a w S F hsit hown he Kp Q hk
  obtain ⟨o, cap, hv, h1, h2, h3⟩ := hx S w a he
  obtain ⟨ya, ycap, hyv, hym, hyf⟩ := hy S F w a hown he
  have hyf := hyf w.drawn
  have hsz := run_sizeOf (T := E) hn rfl w
  have hmin : Nat.min ys.length len = ys.length := Nat.min_eq_left hle
  refine bufH_store (vs := u8s ys) (o := o) hsit hown hi rfl (by omega) (by omega) (fun w1 hw1 => ?_) (fun w1 hS hag hO => hk () (.int .i64 (ys.length : Int)) w1 S F trivial hS (fun _ h => h) hag hO rfl)
  simp [execOp, resolve, invoke, builtin, Builtin.copy_, hat, hv, hyv, run_underlying hT, Builtin.lenOf, hmin, hsz, hyf, hw1, goInt]
theorem opClearSub {b off len i : Nat} {l : List UInt8} {ats : Array TypeId} (hat : ats[0]? = some T) (hT : P.underlying T = some (.slice E)) (hn : P.cellsOf E = 1) (hz : zeroB P E = some [.int .u8 0]) (hx : Opd env x (subV b off len)) (hi : hs[i]? = some (bufH b l)) (hl : off + len ≤ l.length) :
    OpE P hs env ⟨dst, .call ⟨.builtin .clear, #[x], ats⟩, ty, pos, after, gd⟩ (γ := Unit) (fun _ => True) (fun _ => hs.set i (bufH b (l.take off ++ List.replicate len 0 ++ l.drop (off + len)))) (fun _ => tupV []) := by
  intro c a w S F hsit hown he Kp Q hk
  obtain ⟨o, cap, hv, h1, h2, h3⟩ := hx S w a he
  obtain ⟨zv, hz1, hz2⟩ := run_zero hz w
  have hzc : (Builtin.zeroCells zv.cells len).toList = u8s (List.replicate len 0) := by
    apply List.ext_getElem
    · simp [u8s, Builtin.zeroCells, hz2]
    · intro j _ _
      simp [u8s, Builtin.zeroCells, hz2, Nat.mod_one]
  have hlr : (List.replicate len (0 : UInt8)).length = len := by simp
  have := bufH_store (P := P) (ys := List.replicate len 0) (vs := u8s (List.replicate len 0)) (o := o) (off := off) (op := ⟨dst, .call ⟨.builtin .clear, #[x], ats⟩, ty, pos, after, gd⟩) (a := a) (v := .tuple #[]) (Kp := Kp) (Q := Q) hsit hown hi rfl (by rw [hlr]; exact h1) (by rw [hlr]; exact hl) (fun w1 hw1 => ?_) (fun w1 hS hag hO => hk () (.tuple #[]) w1 S F trivial hS (fun _ h => h) hag (by rw [hlr] at hO; exact hO) ⟨#[], rfl, rfl, fun j p v hj => by simp at hj⟩)
  · exact this
  · by_cases h0 : len = 0
    · subst h0
      simp [u8s, storeCells] at hw1
      subst hw1
      simp [execOp, resolve, invoke, builtin, Builtin.clear_, hat, hv, run_underlying hT]
    · obtain ⟨n, rfl⟩ : ∃ n, len = n + 1 := ⟨len - 1, by omega⟩
      simp [execOp, resolve, invoke, builtin, Builtin.clear_, hat, hv, run_underlying hT, hz1]
      simp only [hzc, hw1, Result.andThen_ok]

/-! ### keys that are two numbers -/
abbrev PairK := Int × Int
def kpair (a : PairK) : Value := .agg #[.int .i64 a.1, .int .i64 a.2]
theorem KeyT.pair {K : TypeId} {f0 f1 : Field} (h : P.underlying K = some (.struct #[f0, f1])) (hst : P.stoodInHeld K = false) (n0 : f0.name ≠ "_") (n1 : f1.name ≠ "_") (o0 : f0.offset = 0) (o1 : f1.offset = 1)
    (t0 : P.underlying f0.type = some (.int .i64)) (t1 : P.underlying f1.type = some (.int .i64)) : KeyT P K kpair where
  check a e w := by
    have c0 : ∀ (x : Int) (n : Nat), (Instr.checkKey e (n + 1) f0.type (.int .i64 x)).run P w = .ok () w := fun x n => by unfold Instr.checkKey; rw [run_bind_ok (run_underlying t0 w)]; rfl
    have c1 : ∀ (x : Int) (n : Nat), (Instr.checkKey e (n + 1) f1.type (.int .i64 x)).run P w = .ok () w := fun x n => by unfold Instr.checkKey; rw [run_bind_ok (run_underlying t1 w)]; rfl
    have a0 : aggB P f0.type = some false := by unfold aggB; rw [t0]; rfl
    have a1 : aggB P f1.type = some false := by unfold aggB; rw [t1]; rfl
    have p0 : (part f0.type #[.int .i64 a.1, .int .i64 a.2] f0.offset).run P w = .ok (.int .i64 a.1) w := by unfold part; rw [run_bind_ok (run_isAgg a0 w)]; simp [o0]
    have p1 : (part f1.type #[.int .i64 a.1, .int .i64 a.2] f1.offset).run P w = .ok (.int .i64 a.2) w := by unfold part; rw [run_bind_ok (run_isAgg a1 w)]; simp [o1]
    unfold Instr.checkKey kpair
    rw [run_bind_ok (run_underlying h w)]
    simp [n0, n1, p0, p1, c0, c1]
  same a := by simp [kpair, Instr.sameBits]
  find a es ks w hk := by
    have hf : P.fieldsOf K = #[f0, f1] := by simp [Program.fieldsOf, h]
    have a0 : aggB P f0.type = some false := by unfold aggB; rw [t0]; rfl
    have a1 : aggB P f1.type = some false := by unfold aggB; rw [t1]; rfl
    have p0 : ∀ b : PairK, (part f0.type #[.int .i64 b.1, .int .i64 b.2] f0.offset).run P w = .ok (.int .i64 b.1) w := fun b => by unfold part; rw [run_bind_ok (run_isAgg a0 w)]; simp [o0]
    have p1 : ∀ b : PairK, (part f1.type #[.int .i64 b.1, .int .i64 b.2] f1.offset).run P w = .ok (.int .i64 b.2) w := fun b => by unfold part; rw [run_bind_ok (run_isAgg a1 w)]; simp [o1]
    have heq : ∀ b : PairK, (Op.equal K (kpair a) (kpair b)).run P w = .ok (decide (b = a)) w := fun b => by
      have e1 := run_equalIn_struct (P := P) w 9999 K #[.int .i64 a.1, .int .i64 a.2] #[.int .i64 b.1, .int .i64 b.2] (by rw [hf]; exact h) hst
      rw [hf] at e1
      refine e1.trans ?_
      have q0 := run_equalIn_int (P := P) w 9998 f0.type .i64 .i64 a.1 b.1 t0
      have q1 := run_equalIn_int (P := P) w 9998 f1.type .i64 .i64 a.2 b.2 t1
      obtain ⟨a1, a2⟩ := a
      obtain ⟨b1, b2⟩ := b
      have p0a := p0 (a1, a2); have p0b := p0 (b1, b2); have p1a := p1 (a1, a2); have p1b := p1 (b1, b2)
      simp only at p0a p0b p1a p1b q0 q1
      simp [Op.eqFields, n0, n1, p0a, p0b, p1a, p1b, q0, q1]
      by_cases h1 : a1 = b1 <;> by_cases h2 : a2 = b2 <;> simp [h1, h2] <;> omega
    have key : ∀ (es : List MapEntry) (ks : List PairK) (i : Nat), es.map (·.key) = ks.map kpair → (Instr.findAsking K (kpair a) es i).run P w = .ok ((ks.findIdx? fun b => decide (b = a)).bind fun j => (es[j]?).map fun e => (i + j, e.val)) w := by
      intro es
      induction es with
      | nil => intro ks i hk; cases ks with
        | nil => rfl
        | cons b ks => simp at hk
      | cons e es ih =>
        intro ks i hk
        cases ks with
        | nil => simp at hk
        | cons b ks =>
          simp only [List.map_cons, List.cons.injEq] at hk
          unfold Instr.findAsking
          rw [hk.1, run_bind_ok (heq b)]
          by_cases hab : b = a
          · subst hab; simp [List.findIdx?_cons]
          · simp only [hab, decide_false, Bool.false_eq_true, if_false, ih ks (i + 1) hk.2, List.findIdx?_cons]
            cases ks.findIdx? (fun b => decide (b = a)) with
            | none => rfl
            | some j => simp [Nat.add_assoc, Nat.add_comm 1 j]
    have hnow : Instr.findNow (.struct #[f0, f1]) (kpair a) es 0 = none ∨ es = [] := by
      cases es with
      | nil => exact .inr rfl
      | cons e es =>
        cases ks with
        | nil => simp at hk
        | cons b ks =>
          simp only [List.map_cons, List.cons.injEq] at hk
          exact .inl (by unfold Instr.findNow; rw [hk.1]; rfl)
    have h0 := key es ks 0 hk
    simp only [Instr.findKey, run_bind_ok (run_underlying h w)]
    rcases hnow with h1 | h1
    · rw [h1]; simp only [h0]; simp [findR]
    · subst h1
      cases ks with
      | nil => rfl
      | cons b ks => simp at hk
end
end Go.Hl
