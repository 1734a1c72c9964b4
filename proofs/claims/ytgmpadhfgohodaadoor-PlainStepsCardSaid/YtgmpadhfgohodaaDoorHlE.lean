/-
  Rules: append, composite values, parts of slices. No project text.
-/
import Derived.Test.YtgmpadhfgohodaaDoorHlC
namespace Go.Hl
open Go.RowKit
set_option linter.unusedVariables false

/-! ### lists of elements, cell by cell -/
/-- every element has n cells, each of one value -/
class Enc {α : Type} (n : outParam Nat) (enc : α → List VP) : Prop where
  len : ∀ x, (enc x).length = n
  flat : ∀ x q, q ∈ enc x → Flat q

section
variable {α : Type} {n : Nat} {enc : α → List VP}

theorem flat_len (h : ∀ x, (enc x).length = n) : ∀ xs : List α, (xs.flatMap enc).length = xs.length * n
  | [] => by simp
  | x :: xs => by simp only [List.flatMap_cons, List.length_append, h, flat_len h xs, List.length_cons, Nat.succ_mul]; omega
theorem flat_get (h : ∀ x, (enc x).length = n) : ∀ (xs : List α) (i : Nat) (x : α) (j : Nat) (q : VP), xs[i]? = some x → (enc x)[j]? = some q → (xs.flatMap enc)[i * n + j]? = some q
  | [], _, _, _, _, hi, _ => by simp at hi
  | y :: xs, 0, x, j, q, hi, hj => by
    simp at hi; subst hi
    have : j < (enc y).length := (List.getElem?_eq_some_iff.1 hj).1
    simp only [List.flatMap_cons, Nat.zero_mul, Nat.zero_add]
    rw [List.getElem?_append_left this]; exact hj
  | y :: xs, i + 1, x, j, q, hi, hj => by
    simp only [List.flatMap_cons]
    rw [List.getElem?_append_right (by rw [h]; simp [Nat.succ_mul]; omega), h]
    have := flat_get h xs i x j q (by simpa using hi) hj
    rwa [show (i + 1) * n + j - n = i * n + j by simp [Nat.succ_mul]; omega]
theorem flat_inv (h : ∀ x, (enc x).length = n) (hn : 0 < n) : ∀ (xs : List α) (t : Nat) (q : VP), (xs.flatMap enc)[t]? = some q → ∃ x, xs[t / n]? = some x ∧ (enc x)[t % n]? = some q
  | [], _, _, ht => by simp at ht
  | y :: xs, t, q, ht => by
    simp only [List.flatMap_cons] at ht
    by_cases hl : t < n
    · rw [List.getElem?_append_left (by rw [h]; exact hl)] at ht
      exact ⟨y, by simp [Nat.div_eq_of_lt hl], by rwa [Nat.mod_eq_of_lt hl]⟩
    · rw [List.getElem?_append_right (by rw [h]; omega), h] at ht
      obtain ⟨x, h1, h2⟩ := flat_inv h hn xs (t - n) q ht
      have e1 : t / n = (t - n) / n + 1 := by rw [← Nat.sub_add_cancel (show n ≤ t by omega), Nat.add_div_right _ hn]; simp
      have e2 : t % n = (t - n) % n := by rw [Nat.mod_eq_sub_mod (by omega)]
      exact ⟨x, by rw [e1]; simpa using h1, by rw [e2]; exact h2⟩

theorem cellsAt_flat (h : ∀ x, (enc x).length = n) (hn : 0 < n) {S : BS} {w : World} {b off : Nat} {xs : List α} (hc : ∀ (i : Nat) (x : α), xs[i]? = some x → CellsAt S w b (off + i * n) (enc x)) : CellsAt S w b off (xs.flatMap enc) := by
  intro t q ht
  obtain ⟨x, h1, h2⟩ := flat_inv h hn xs t q ht
  obtain ⟨v, hv, hq⟩ := hc _ x h1 _ q h2
  refine ⟨v, ?_, hq⟩
  rw [Nat.add_assoc] at hv
  rwa [show t / n * n + t % n = t by rw [Nat.mul_comm]; exact Nat.div_add_mod t n] at hv
theorem flat_cellsAt (h : ∀ x, (enc x).length = n) {S : BS} {w : World} {b off : Nat} {xs : List α} (hc : CellsAt S w b off (xs.flatMap enc)) (i : Nat) (x : α) (hi : xs[i]? = some x) : CellsAt S w b (off + i * n) (enc x) := by
  intro j q hj
  obtain ⟨v, hv, hq⟩ := hc _ q (flat_get h xs i x j q hi hj)
  exact ⟨v, by rwa [Nat.add_assoc], hq⟩
end

/-! ### a slice that is owned, with what may stand behind it -/
abbrev SB := Option (Nat × Nat)
def sval (g : SB) (len : Nat) : Value := match g with | none => .slice none 0 0 | some (b, cap) => .slice (some ⟨b, 0, none⟩) len cap
instance (g : SB) (len : Nat) : Flat (exactV (sval g len)) := ⟨fun h => by subst h; cases g <;> exact ⟨rfl, rfl⟩⟩
def sliceH {α : Type} (g : SB) (n : Nat) (enc : α → List VP) (xs : List α) : HP :=
  ⟨fun F S w => match g with
      | none => xs = []
      | some (b, cap) => F b ∧ xs.length ≤ cap ∧ xs.length ≤ 281474976710656 ∧ ∃ (arr : Array Value) (T : TypeId), w.heap[b]? = some (.cells arr T (0, 0)) ∧ arr.size = cap * n ∧ ∀ (j : Nat) (q : VP), (xs.flatMap enc)[j]? = some q → ∃ u, arr[j]? = some u ∧ q.p S w u,
   fun {F F' S S' w w'} h1 h2 h3 h4 h => by
      cases g with
      | none => exact h
      | some bc =>
        obtain ⟨b, cap⟩ := bc
        obtain ⟨hF, hl, hm, arr, T, hh, hn, hc⟩ := h
        exact ⟨h1 b hF, hl, hm, arr, T, (h3 b hF).trans hh, hn, fun j q hj => let ⟨u, hu, hq⟩ := hc j q hj; ⟨u, hu, q.mono h2 h4 hq⟩⟩⟩

theorem run_storeCells {P : Program} {b off : Nat} {T : TypeId} : ∀ (vs : List Value) (i : Nat) (w : World) (arr : Array Value), (∀ v ∈ vs, v.oneCell' = true) → w.heap[b]? = some (.cells arr T (0, 0)) → off + i + vs.length ≤ arr.size →
    ∃ (w' : World) (arr' : Array Value), (storeCells ⟨b, off, none⟩ vs i).run P w = .ok () w' ∧ w'.os = w.os ∧ w'.tape = w.tape ∧ w'.output = w.output ∧ w'.heap.size = w.heap.size ∧ (∀ k, k ≠ b → w'.heap[k]? = w.heap[k]?) ∧
      w'.heap[b]? = some (.cells arr' T (0, 0)) ∧ arr'.size = arr.size ∧ (∀ j, (j < off + i ∨ off + i + vs.length ≤ j) → arr'[j]? = arr[j]?) ∧ ∀ j v, vs[j]? = some v → arr'[off + i + j]? = some v
  | [], i, w, arr, _, hb, _ => ⟨w, arr, by simp [storeCells], rfl, rfl, rfl, rfl, fun _ _ => rfl, hb, rfl, fun _ _ => rfl, fun _ _ h => by simp at h⟩
  | v :: vs, i, w, arr, hv, hb, hsz => by
    simp only [List.length_cons] at hsz
    have hadd : Addr.add ⟨b, off, none⟩ i = ⟨b, off + i, none⟩ := by
      unfold Addr.add
      split
      · rename_i h0; simp
      · rfl
    have hst : (store (Addr.add ⟨b, off, none⟩ i) v).run P w = .ok () (w.setCell ⟨b, off + i, none⟩ v) := by
      rw [hadd, run_store _ _ _ _ _ (hv v (List.mem_cons_self ..))]
      have : w.cell? ⟨b, off + i, none⟩ = some (arr[off + i]'(by omega)) := by
        have hlt : off + i < arr.size := by omega
        simp [World.cell?, hb, hlt]
      simp [this, World.frozen?, hb]
    obtain ⟨w', arr', h1, h2, h3, h4, h5, h6, h7, h8, h9, h10⟩ := run_storeCells (P := P) (b := b) (off := off) (T := T) vs (i + 1) (w.setCell ⟨b, off + i, none⟩ v) (arr.setIfInBounds (off + i) v) (fun u hu => hv u (List.mem_cons_of_mem _ hu))
      (by simp [World.setCell, Array.getElem?_modify, hb]) (by simp; omega)
    refine ⟨w', arr', ?_, h2, h3, h4, by rw [h5]; simp [World.setCell], fun k hk => (h6 k hk).trans (heap_setCell_ne w _ _ k hk), h7, by rw [h8]; simp, ?_, ?_⟩
    · unfold storeCells; rw [run_bind_ok hst]; exact h1
    · intro j hj
      rw [h9 j (by simp only [List.length_cons] at hj; omega), Array.getElem?_setIfInBounds_ne (by simp only [List.length_cons] at hj; omega)]
    · intro j u hj
      cases j with
      | zero =>
        simp at hj; subst hj
        rw [h9 (off + i + 0) (.inl (by omega))]
        have : off + i < arr.size := by omega
        simp [this]
      | succ j =>
        have := h10 j u (by simpa using hj)
        rwa [show off + i + (j + 1) = off + (i + 1) + j by omega]

theorem growBy_le (newLen : Nat) : ∀ (r c : Nat), c ≤ newLen + newLen / 4 + 192 → Builtin.growBy newLen r c ≤ newLen + newLen / 4 + 192
  | 0, c, h => h
  | r + 1, c, h => by
    unfold Builtin.growBy
    split
    · exact h
    · exact growBy_le newLen r _ (by omega)
theorem nextslicecap_le {need cap : Nat} (h : cap < need) : Builtin.nextslicecap need cap ≤ 2 * need + 256 := by
  unfold Builtin.nextslicecap
  split
  · omega
  · split
    · omega
    · have := growBy_le need 4 cap (by omega); omega

section
variable {P : Program} {hs : List HP} {env : Env} {q : VP} {dst : Option Tmp} {ty T T2 T' E : TypeId} {pos : String} {after : Array Edge} {gd : Option (Nat × Bool)} {x y z : Operand}

/-- a type's bytes -/
theorem run_typeInfo' {n : Nat} (h : P.cellsOf E = n) (hn : Nat.blt 0 n = true) (w : World) : ∃ i, (typeInfo E).run P w = .ok i w ∧ i.bytes = P.bytesOf E := by
  have hn' : 0 < n := by simpa using hn
  unfold Program.cellsOf at h
  cases hi : P.info? E with
  | none => simp [hi] at h; omega
  | some i => exact ⟨i, by simp [typeInfo, hi], by simp [Program.bytesOf, hi]⟩

theorem firstCells_shared {α : Type} {n : Nat} {enc : α → List VP} {xs : List α} (h : ∀ x, (enc x).length = n) (hn : 0 < n) {S : BS} {w : World} {a : Option Addr} {cap : Nat}
    (hm : match a with | none => cap = 0 | some ad => cap ≠ 0 → ad.spot = none ∧ S ad.block ∧ ∀ (i : Nat) (x : α), xs[i]? = some x → CellsAt S w ad.block (ad.off + i * n) (enc x)) (hc : xs.length ≤ cap) :
    ∃ vs : List Value, vs.length = xs.length * n ∧ (∀ d : Nat, (Builtin.firstCells n xs.length (.slice a xs.length cap)).run P { w with drawn := d } = .ok vs.toArray { w with drawn := d }) ∧ ∀ (j : Nat) (q : VP), (xs.flatMap enc)[j]? = some q → ∃ u, vs[j]? = some u ∧ q.p S w u := by
  cases a with
  | none =>
    have : xs = [] := by have : xs.length = 0 := by simp at hm; omega
                         exact List.length_eq_zero_iff.1 this
    subst this
    exact ⟨[], by simp, fun d => by simp [Builtin.firstCells], fun j q hj => by simp at hj⟩
  | some ad =>
    by_cases h0 : xs = []
    · subst h0
      exact ⟨[], by simp, fun d => by simp [Builtin.firstCells, loadCells, loadCellsFrom], fun j q hj => by simp at hj⟩
    have hxp : 0 < xs.length := List.length_pos_iff.2 h0
    obtain ⟨b, off, sp⟩ := ad
    obtain ⟨hsp, hb, hel⟩ := hm (by omega)
    simp only at hsp hb hel; subst hsp
    obtain ⟨vs, h1, h2, h3⟩ := cells_list _ (cellsAt_flat h hn hel)
    refine ⟨vs, by rw [h1, flat_len h], fun d => ?_, h3⟩
    have := run_loadCellsFrom (P := P) (b := b) (off := off) (xs.length * n) 0 #[] { w with drawn := d } vs (by rw [h1, flat_len h]) (fun j v hj => by simpa [World.cell?] using h2 j v hj)
    simpa [Builtin.firstCells, loadCells] using this

/-- 'append(x, y...)': x is owned -/
theorem opAppend {α : Type} {g : SB} {n by_ i : Nat} {enc : α → List VP} {xs ys : List α} {zs : List Value} {E2 : TypeId} [he : Enc n enc] (hT : P.underlying T = some (.slice E)) (hT2 : P.underlying T2 = some (.slice E2)) (hn : P.cellsOf E = n) (h0 : Nat.blt 0 n = true)
    (hz : zeroB P E = some zs) (hzl : zs.length = n) (hb : P.bytesOf E = by_) (hx : Opd env x (exactV (sval g xs.length))) (hy : Opd env y (sliceV n enc ys)) (hi : hs[i]? = some (sliceH g n enc xs)) (hroom : (2 * (xs.length + ys.length) + 256) * by_ ≤ 281474976710656) (hlen : xs.length + ys.length ≤ 281474976710656) :
    OpE P hs env ⟨dst, .call ⟨.builtin .append, #[x, y], #[T, T2]⟩, ty, pos, after, gd⟩ (γ := SB) (fun _ => True) (fun g' => hs.set i (sliceH g' n enc (xs ++ ys))) (fun g' => exactV (sval g' (xs ++ ys).length)) := by
  intro c a w S F hsit hown hev K Q hk
  have hn0 : 0 < n := by simpa using h0
  have hv := hx S w a hev; simp only [exactV] at hv
  obtain ⟨ya, ycap, hyv, hyc, hym, hyel⟩ := hy S w a hev
  obtain ⟨F1, F2, f1, f2, f3, _, f4⟩ := hown.upd hi
  obtain ⟨vy, hvy1, hvy2, hvy3⟩ := firstCells_shared (P := P) he.len hn0 hyel hyc
  have hsz := run_sizeOf hn h0 w
  -- the values that are appended are one cell each
  have hvy4 : ∀ v ∈ vy, v.oneCell' = true := by
    intro v hv'
    obtain ⟨j, hj⟩ := List.mem_iff_getElem?.1 hv'
    have hjl : j < (ys.flatMap enc).length := by rw [flat_len he.len, ← hvy1]; exact (List.getElem?_eq_some_iff.1 hj).1
    obtain ⟨u, hu, hq⟩ := hvy3 j _ (List.getElem?_eq_getElem hjl)
    rw [hj] at hu; cases hu
    obtain ⟨y0, h1, h2⟩ := flat_inv he.len hn0 ys j _ (List.getElem?_eq_getElem hjl)
    exact ((he.flat y0 _ (List.mem_of_getElem? h2)).flat hq).2
  -- where there is room
  have room : ∀ (b cap : Nat), g = some (b, cap) → xs.length + ys.length ≤ cap → Oper.wp P ⟨dst, .call ⟨.builtin .append, #[x, y], #[T, T2]⟩, ty, pos, after, gd⟩ a w K Q := by
    intro b cap hg hfit
    subst hg
    obtain ⟨hFb, hl, hm, arr, E', hbl, harr, hc⟩ := f3
    have hsum : (xs.length + ys.length) * n ≤ cap * n := Nat.mul_le_mul_right n hfit
    rw [Nat.add_mul] at hsum
    obtain ⟨w', arr', k1, k2, k3, k4, k5, k6, k7, k8, k9, k10⟩ := run_storeCells (P := P) (b := b) (off := xs.length * n) (T := E') vy 0 w arr hvy4 hbl (by rw [hvy1, harr]; omega)
    have hadd : Addr.add ⟨b, 0, none⟩ (xs.length * n) = ⟨b, xs.length * n, none⟩ := by
      unfold Addr.add
      split
      · rename_i h0; simp
      · simp
    have hr : (execOp a.eval ⟨dst, .call ⟨.builtin .append, #[x, y], #[T, T2]⟩, ty, pos, after, gd⟩).run P w = .ok (.value (sval (some (b, cap)) (xs ++ ys).length)) w' := by
      simp [execOp, resolve, invoke, builtin, Builtin.append_, hv, hyv, sval, run_underlying hT, run_underlying hT2, hsz, Builtin.lenOf, hfit, hvy2 w.drawn, hadd, k1]
    unfold Oper.wp
    rw [hr]
    have hag : ∀ k, S k → w'.heap[k]? = w.heap[k]? := fun k hk => k6 k (fun e => hsit.disj k hk (e ▸ (f1 b hFb).1))
    refine hk (some (b, cap)) _ w' S F trivial (hsit.write (f1 b hFb).1 k2 k3 k4 k5 k6) (fun _ h => h) hag ?_ rfl
    have := f4 S F1 w' (sliceH (some (b, cap)) n enc (xs ++ ys)) (fun k hk => (f1 k hk).2) (fun _ h => h) (fun k hk => k6 k (fun e => (f1 b hFb).2 (e ▸ hk))) hag
      ⟨hFb, by simpa using hfit, by simpa using hlen, arr', E', k7, by rw [k8, harr], fun j q' hj => ?_⟩
    · exact this.mono (fun k hk => hk.elim (fun h => (f1 k h).1) (f2 k)) (fun _ h => h) (fun _ _ => rfl) (fun _ _ => rfl)
    · rw [List.flatMap_append] at hj
      by_cases hjl : j < (xs.flatMap enc).length
      · rw [List.getElem?_append_left hjl] at hj
        obtain ⟨u, hu, hq⟩ := hc j q' hj
        rw [flat_len he.len] at hjl
        exact ⟨u, by rw [k9 j (.inl (by omega))]; exact hu, q'.mono (fun _ h => h) hag hq⟩
      · rw [List.getElem?_append_right (by omega)] at hj
        rw [flat_len he.len] at hj hjl
        obtain ⟨u, hu, hq⟩ := hvy3 _ q' hj
        have := k10 _ u hu
        rw [show xs.length * n + 0 + (j - xs.length * n) = j by omega] at this
        exact ⟨u, this, q'.mono (fun _ h => h) hag hq⟩
  -- where it grows
  have grow : ∀ (sl : Value) (cap : Nat), sl = sval g xs.length → (∃ base, sl = .slice base xs.length cap) → cap < xs.length + ys.length →
      (∃ vx : List Value, vx.length = xs.length * n ∧ (∀ d : Nat, (Builtin.firstCells n xs.length sl).run P { w with drawn := d } = .ok vx.toArray { w with drawn := d }) ∧ ∀ (j : Nat) (q : VP), (xs.flatMap enc)[j]? = some q → ∃ u, vx[j]? = some u ∧ q.p S w u) →
      Oper.wp P ⟨dst, .call ⟨.builtin .append, #[x, y], #[T, T2]⟩, ty, pos, after, gd⟩ a w K Q := by
    rintro sl cap hsl ⟨base, rfl⟩ hcap ⟨vx, hvx1, hvx2, hvx3⟩
    obtain ⟨info, hi1, hi2⟩ := run_typeInfo' hn h0 w
    obtain ⟨zv, hz1, hz2⟩ := run_zero hz w
    obtain ⟨zv', hz1', hz2'⟩ := run_zero hz w.drew
    obtain ⟨info', hi1', hi2'⟩ := run_typeInfo' hn h0 w.drew
    have hbytes : info.bytes = by_ := hi2.trans hb
    have hbytes' : info'.bytes = by_ := hi2'.trans hb
    have hns := nextslicecap_le hcap
    have hcapB : Builtin.nextslicecap (xs.length + ys.length) cap * by_ ≤ 281474976710656 := Nat.le_trans (Nat.mul_le_mul_right _ hns) hroom
    have hvy2' : (Builtin.firstCells n ys.length (.slice ya ys.length ycap)).run P w.drew = .ok vy.toArray w.drew := hvy2 (w.drawn + 1)
    have hvx2' : (Builtin.firstCells n xs.length (.slice base xs.length cap)).run P w.drew = .ok vx.toArray w.drew := hvx2 (w.drawn + 1)
    generalize hcut : Question.cut (.appendCap (xs.length + ys.length) cap E) (w.tape w.drawn (.appendCap (xs.length + ys.length) cap E)) = newCap
    have hge : xs.length + ys.length ≤ newCap := by rw [← hcut]; simp only [Question.cut]; omega
    let row : Array Value := vx.toArray ++ vy.toArray ++ Builtin.zeroCells zv'.cells (newCap - (xs.length + ys.length))
    have hr : (execOp a.eval ⟨dst, .call ⟨.builtin .append, #[x, y], #[T, T2]⟩, ty, pos, after, gd⟩).run P w = .ok (.value (sval (some (w.heap.size, newCap)) (xs ++ ys).length)) (w.drew.alloc (.cells row E)) := by
      have hnot : ¬ (xs.length + ys.length ≤ cap) := by omega
      have hbig : ¬ ((9223372036854775807 : Int) < ((xs.length : Int) + (ys.length : Int))) := by omega
      have hbig2 : ¬ (281474976710656 < Builtin.nextslicecap (xs.length + ys.length) cap * info.bytes) := by rw [hbytes]; omega
      have hv' : a.eval x = .slice base xs.length cap := hv.trans hsl.symm
      simp [execOp, resolve, invoke, builtin, Builtin.append_, hv', hyv, sval, run_underlying hT, run_underlying hT2, hsz, Builtin.lenOf, hnot, hbig, hi1, hbig2, Question.forced, hcut, hi1', hvx2', hvy2', hz1', newRow, row]
    generalize hw' : w.drew.alloc (.cells row E) = w' at hr
    unfold Oper.wp
    rw [hr]
    have hheap : w'.heap = w.heap.push (.cells row E) := by rw [← hw']; rfl
    have hold : ∀ k, k < w.heap.size → w'.heap[k]? = w.heap[k]? := fun k hk => by rw [hheap]; exact heap_push_old w _ k hk
    have hag : ∀ k, S k → w'.heap[k]? = w.heap[k]? := fun k hk => hold k (hsit.domS k hk)
    have hzsz : zv'.cells.size = n := by rw [hz2']; simpa using hzl
    have hrow : row.size = newCap * n := by
      simp only [row, Array.size_append, List.size_toArray, hvx1, hvy1, Builtin.zeroCells, Array.size_map, Array.size_range, hzsz]
      rw [← Nat.add_mul, ← Nat.add_mul]; congr 1; omega
    have hsit' : Sit c w' S (fun k => k = w.heap.size ∨ F k) := by
      have h1 := hsit.newOwn (.cells row E)
      exact ⟨by rw [← hw']; exact h1.os, by rw [← hw']; exact h1.tape, by rw [← hw']; exact h1.output, by rw [hheap]; exact h1.size, fun k h2 h3 => by rw [hheap]; exact h1.kept k h2 h3, h1.disj, fun k hk => by rw [hheap]; exact h1.domS k hk, fun k hk => by rw [hheap]; exact h1.domF k hk, h1.own, h1.shr, h1.base⟩
    have := f4 S (fun k => k = w.heap.size) w' (sliceH (some (w.heap.size, newCap)) n enc (xs ++ ys)) (fun k hk hf => by have := hsit.domF k (f2 k hf); omega) (fun _ h => h) (fun k hk => hold k (hsit.domF k (f2 k hk))) hag
      ⟨rfl, by simpa using hge, by simpa using hlen, row, E, by rw [hheap]; simp, hrow, fun j q' hj => ?_⟩
    · exact hk (some (w.heap.size, newCap)) _ w' S _ trivial hsit' (fun _ h => h) hag (this.mono (fun k hk => hk.elim .inl (fun h => .inr (f2 k h))) (fun _ h => h) (fun _ _ => rfl) (fun _ _ => rfl)) rfl
    · rw [List.flatMap_append] at hj
      by_cases hjl : j < (xs.flatMap enc).length
      · rw [List.getElem?_append_left hjl] at hj
        obtain ⟨u, hu, hq⟩ := hvx3 j q' hj
        rw [flat_len he.len] at hjl
        refine ⟨u, ?_, q'.mono (fun _ h => h) hag hq⟩
        simp only [row]
        rw [Array.getElem?_append_left (by simp [hvx1, hvy1]; omega), Array.getElem?_append_left (by simp [hvx1]; omega)]
        simpa using hu
      · rw [List.getElem?_append_right (by omega)] at hj
        have hj2 := (List.getElem?_eq_some_iff.1 hj).1
        rw [flat_len he.len] at hj hjl hj2
        rw [flat_len he.len] at hj2
        obtain ⟨u, hu, hq⟩ := hvy3 _ q' hj
        refine ⟨u, ?_, q'.mono (fun _ h => h) hag hq⟩
        simp only [row]
        rw [Array.getElem?_append_left (by simp [hvx1, hvy1]; omega), Array.getElem?_append_right (by simp [hvx1]; omega)]
        simpa [hvx1] using hu
  cases g with
  | none =>
    have hxs : xs = [] := f3
    subst hxs
    by_cases hy0 : ys = []
    · subst hy0
      have hr : (execOp a.eval ⟨dst, .call ⟨.builtin .append, #[x, y], #[T, T2]⟩, ty, pos, after, gd⟩).run P w = .ok (.value (sval none 0)) w := by
        have := hvy2 w.drawn
        simp at this
        simp [execOp, resolve, invoke, builtin, Builtin.append_, hv, hyv, sval, run_underlying hT, run_underlying hT2, hsz, Builtin.lenOf, this]
      unfold Oper.wp
      rw [hr]
      refine hk none _ w S F trivial hsit (fun _ h => h) (fun _ _ => rfl) ?_ rfl
      have := f4 S F1 w (sliceH none n enc ([] ++ [])) (fun k hk => (f1 k hk).2) (fun _ h => h) (fun _ _ => rfl) (fun _ _ => rfl) (by show ([] ++ [] : List α) = []; rfl)
      exact this.mono (fun k hk => hk.elim (fun h => (f1 k h).1) (f2 k)) (fun _ h => h) (fun _ _ => rfl) (fun _ _ => rfl)
    · have hy1 : ys.length ≠ 0 := fun h => hy0 (List.length_eq_zero_iff.1 h)
      refine grow (.slice none 0 0) 0 rfl ⟨none, rfl⟩ (by simp; omega) ⟨[], by simp, fun d => by simp [Builtin.firstCells], fun j q hj => by simp at hj⟩
  | some bc =>
    obtain ⟨b, cap⟩ := bc
    by_cases hfit : xs.length + ys.length ≤ cap
    · exact room b cap rfl hfit
    · obtain ⟨hFb, hl, hm, arr, E', hbl, harr, hc⟩ := f3
      have hcl : CellsAt S w b 0 (xs.flatMap enc) := fun j q hj => let ⟨u, hu, hq⟩ := hc j q hj; ⟨u, by simp [World.cell?, hbl, hu], hq⟩
      obtain ⟨vs, s1, s2, s3⟩ := cells_list _ hcl
      refine grow _ cap rfl ⟨some ⟨b, 0, none⟩, rfl⟩ (by omega) ⟨vs, by rw [s1, flat_len he.len], fun d => ?_, s3⟩
      have := run_loadCellsFrom (P := P) (b := b) (off := 0) (xs.length * n) 0 #[] { w with drawn := d } vs (by rw [s1, flat_len he.len]) (fun j v hj => by simpa [World.cell?] using s2 j v hj)
      simpa [Builtin.firstCells, loadCells, sval] using this

/-- a slice that was owned is shared from now on -/
theorem CodeT.shareS {Q : Exit → Act → World → Prop} {c : Ctx} {s : Code} {α : Type} {g : SB} {n i t : Nat} {enc : α → List VP} {xs : List α} [he : Enc n enc] (hi : hs[i]? = some (sliceH g n enc xs)) (ht : look env t = some (exactV (sval g xs.length)))
    (h : CodeT P Q c s (hs.eraseIdx i) ((t, sliceV n enc xs) :: env)) : CodeT P Q c s hs env := by
  intro a w ⟨h1, h2, S, F, h3, h4, h5⟩
  obtain ⟨F1, F2, f1, f2, f3, f5, _⟩ := h4.upd hi
  have hv := h5 t _ ht; simp only [exactV] at hv
  cases g with
  | none =>
    have hxs : xs = [] := f3
    subst hxs
    refine h a w ⟨h1, h2, S, F2, ⟨h3.os, h3.tape, h3.output, h3.size, h3.kept, fun k hk hf => h3.disj k hk (f2 k hf), h3.domS, fun k hk => h3.domF k (f2 k hk), fun k hk => h3.own k (f2 k hk), h3.shr, h3.base⟩, f5, fun s q hl => ?_⟩
    rw [look_cons] at hl
    by_cases e : t = s
    · rw [if_pos e] at hl; cases hl; subst e; exact ⟨none, 0, hv, by simp, by simp, rfl⟩
    · rw [if_neg e] at hl; exact h5 s q hl
  | some bc =>
    obtain ⟨b, cap⟩ := bc
    obtain ⟨hFb, hl, hm, arr, T, hh, hn, hc⟩ := f3
    have hb := f1 b hFb
    have hS : ∀ k, S k → S k ∨ k = b := fun _ h => .inl h
    have hcl : CellsAt (fun k => S k ∨ k = b) w b 0 (xs.flatMap enc) := fun j q hj => let ⟨u, hu, hq⟩ := hc j q hj; ⟨u, by simp [World.cell?, hh, hu], q.mono hS (fun _ _ => rfl) hq⟩
    refine h a w ⟨h1, h2, fun k => S k ∨ k = b, F2, ⟨h3.os, h3.tape, h3.output, h3.size, h3.kept, ?_, ?_, fun k hk => h3.domF k (f2 k hk), fun k hk => h3.own k (f2 k hk), ?_, fun k hk => .inl (h3.base k hk)⟩,
      f5.mono (fun _ h => h) hS (fun _ _ => rfl) (fun _ _ => rfl), fun s q hls => ?_⟩
    · exact fun k hk hf => hk.elim (fun h => h3.disj k h (f2 k hf)) (fun e => hb.2 (e ▸ hf))
    · exact fun k hk => hk.elim (h3.domS k) (fun e => h3.domF k (e ▸ hb.1))
    · exact fun k hk => hk.elim (h3.shr k) (fun e => by
        rcases h3.own b hb.1 with h | h
        · exact .inr (.inl (e ▸ h))
        · exact .inr (.inr (e ▸ h)))
    · rw [look_cons] at hls
      by_cases e : t = s
      · rw [if_pos e] at hls; cases hls; subst e
        refine ⟨some ⟨b, 0, none⟩, cap, hv, hl, hm, fun _ => ⟨rfl, .inr rfl, fun i x hx => ?_⟩⟩
        exact flat_cellsAt he.len hcl i x hx
      · rw [if_neg e] at hls
        exact q.mono hS (fun _ _ => rfl) (h5 s q hls)

/-- a new slice that is nil, owned -/
theorem CodeT.ownNil {Q : Exit → Act → World → Prop} {c : Ctx} {s : Code} {α : Type} (n : Nat) (enc : α → List VP) (h : CodeT P Q c s (sliceH none n enc [] :: hs) env) : CodeT P Q c s hs env := by
  intro a w ⟨h1, h2, S, F, h3, h4, h5⟩
  exact h a w ⟨h1, h2, S, F, h3, ⟨fun _ => False, F, fun _ h => h.elim, fun _ h => h, rfl, h4⟩, h5⟩

/-! ### composite values -/
class PartC (q : VP) (cs : outParam (List VP)) : Prop where
  part : ∀ {S w v}, q.p S w v → v.cells.size = cs.length ∧ ∀ (j : Nat) (p : VP), cs[j]? = some p → ∃ u, v.cells[j]? = some u ∧ p.p S w u
instance (cs : List VP) : PartC (aggV cs) cs := ⟨fun ⟨arr, hv, hn, hc⟩ => by subst hv; exact ⟨hn, hc⟩⟩
instance [Flat q] : PartC q [q] := ⟨fun hv => by
  have := (Flat.flat hv).1
  rw [this]
  refine ⟨rfl, fun j p hj => ?_⟩
  cases j with
  | zero => simp at hj; subst hj; exact ⟨_, rfl, hv⟩
  | succ j => simp at hj⟩

/-- new cells over others, from a place on -/
def overV : List VP → List VP → List VP
  | [], base => base
  | q :: qs, _ :: base => q :: overV qs base
  | qs, [] => qs
def spliceV : Nat → List VP → List VP → List VP
  | 0, new, base => overV new base
  | k + 1, new, b :: base => b :: spliceV k new base
  | _ + 1, _, [] => []
def fillV (place : Nat → Option (Nat × Nat)) (base : List VP) : List (Nat × List VP) → Option (List VP)
  | [] => some base
  | (i, new) :: r => match place i with
    | none => none
    | some (off, size) => bif Nat.beq new.length size && Nat.ble (off + size) base.length then fillV place (spliceV off new base) r else none

def CellsOf (S : BS) (w : World) (arr : Array Value) (cs : List VP) : Prop := arr.size = cs.length ∧ ∀ (j : Nat) (q : VP), cs[j]? = some q → ∃ u, arr[j]? = some u ∧ q.p S w u

theorem overV_len : ∀ (new base : List VP), new.length ≤ base.length → (overV new base).length = base.length
  | [], base, _ => rfl
  | q :: qs, [], h => by simp at h
  | q :: qs, b :: base, h => by simp [overV, overV_len qs base (by simpa using h)]
theorem overV_get : ∀ (new base : List VP) (j : Nat), new.length ≤ base.length → (overV new base)[j]? = if j < new.length then new[j]? else base[j]?
  | [], base, j, _ => by simp [overV]
  | q :: qs, [], j, h => by simp at h
  | q :: qs, b :: base, 0, h => by simp [overV]
  | q :: qs, b :: base, j + 1, h => by
    simp only [overV, List.getElem?_cons_succ, List.length_cons, Nat.add_lt_add_iff_right]
    exact overV_get qs base j (by simpa using h)
theorem spliceV_len : ∀ (off : Nat) (new base : List VP), off + new.length ≤ base.length → (spliceV off new base).length = base.length
  | 0, new, base, h => overV_len new base (by omega)
  | k + 1, new, [], h => by simp at h
  | k + 1, new, b :: base, h => by simp [spliceV, spliceV_len k new base (by simp at h; omega)]
theorem spliceV_get : ∀ (off : Nat) (new base : List VP) (j : Nat), off + new.length ≤ base.length → (spliceV off new base)[j]? = if off ≤ j ∧ j < off + new.length then new[j - off]? else base[j]?
  | 0, new, base, j, h => by
    simp only [spliceV, overV_get new base j (by omega)]
    simp
  | k + 1, new, [], j, h => by simp at h
  | k + 1, new, b :: base, 0, h => by simp [spliceV]
  | k + 1, new, b :: base, j + 1, h => by
    simp only [spliceV, List.getElem?_cons_succ]
    rw [spliceV_get k new base j (by simp at h; omega)]
    simp only [show (k + 1 ≤ j + 1 ∧ j + 1 < k + 1 + new.length) ↔ (k ≤ j ∧ j < k + new.length) by omega, show j + 1 - (k + 1) = j - k by omega]

theorem foldl_zip_get (vs : Array Value) (off : Nat) : ∀ (l : List (Value × Nat)) (cs : Array Value), (∀ p ∈ l, off + p.2 < cs.size) →
    (l.foldl (fun cs (p : Value × Nat) => cs.setIfInBounds (off + p.2) p.1) cs).size = cs.size
  | [], cs, _ => rfl
  | p :: l, cs, h => by
    simp only [List.foldl_cons]
    rw [foldl_zip_get vs off l _ (fun q hq => by simp; exact h q (List.mem_cons_of_mem _ hq))]
    simp
theorem foldl_set_get (off : Nat) : ∀ (vs : List Value) (k : Nat) (cs : Array Value), off + k + vs.length ≤ cs.size → ∀ j,
    ((vs.zipIdx k).foldl (fun cs (p : Value × Nat) => cs.setIfInBounds (off + p.2) p.1) cs)[j]? = if off + k ≤ j ∧ j < off + k + vs.length then vs[j - (off + k)]? else cs[j]?
  | [], k, cs, _, j => by simp; omega
  | v :: vs, k, cs, h, j => by
    simp only [List.zipIdx_cons, List.foldl_cons, List.length_cons] at h ⊢
    rw [foldl_set_get off vs (k + 1) _ (by simp; omega) j]
    by_cases h1 : off + k = j
    · subst h1
      have : off + k < cs.size := by omega
      rw [if_neg (by omega), if_pos (by omega)]
      simp [this]
    · rw [Array.getElem?_setIfInBounds_ne h1]
      by_cases h2 : off + (k + 1) ≤ j ∧ j < off + (k + 1) + vs.length
      · rw [if_pos h2, if_pos (by omega)]
        rw [show j - (off + k) = (j - (off + (k + 1))) + 1 by omega]; simp
      · rw [if_neg h2, if_neg (by omega)]

theorem CellsOf.splice {S : BS} {w : World} {arr : Array Value} {cs new : List VP} {v : Value} {off : Nat} (h : CellsOf S w arr cs) (hv : v.cells.size = new.length ∧ ∀ (j : Nat) (p : VP), new[j]? = some p → ∃ u, v.cells[j]? = some u ∧ p.p S w u) (hl : off + new.length ≤ cs.length) :
    CellsOf S w (v.cells.zipIdx.foldl (fun cs (c, j) => cs.setIfInBounds (off + j) c) arr) (spliceV off new cs) := by
  have e : v.cells.zipIdx.foldl (fun cs (c, j) => cs.setIfInBounds (off + j) c) arr = (v.cells.toList.zipIdx 0).foldl (fun cs (p : Value × Nat) => cs.setIfInBounds (off + p.2) p.1) arr := by
    rw [← Array.foldl_toList, Array.toList_zipIdx]
  have hg := foldl_set_get off v.cells.toList 0 arr (by simp [hv.1, h.1]; omega)
  rw [e]
  refine ⟨?_, fun j q hj => ?_⟩
  · rw [foldl_zip_get v.cells off _ _ (fun p hp => by
      have := List.snd_lt_of_mem_zipIdx hp
      simp at this; rw [hv.1] at this; rw [h.1]; omega), spliceV_len off new cs hl, h.1]
  · rw [hg j]
    rw [spliceV_get off new cs j hl] at hj
    by_cases h1 : off ≤ j ∧ j < off + new.length
    · rw [if_pos h1] at hj
      rw [if_pos (by simp [hv.1]; omega)]
      obtain ⟨u, hu, hq⟩ := hv.2 _ q hj
      exact ⟨u, by simpa using hu, hq⟩
    · rw [if_neg h1] at hj
      rw [if_neg (by simp [hv.1]; omega)]
      exact h.2 j q hj

/-- the parts of a composite value -/
def Parts (env : Env) (ps : List (Nat × Operand)) (cs : List (Nat × List VP)) : Prop := ∀ S w (a : Act), EnvOk env S w a.tmps →
  ps.length = cs.length ∧ ∀ (t : Nat) (p : Nat × Operand) (c : Nat × List VP), ps[t]? = some p → cs[t]? = some c → p.1 = c.1 ∧ (a.eval p.2).cells.size = c.2.length ∧ ∀ (j : Nat) (x : VP), c.2[j]? = some x → ∃ u, (a.eval p.2).cells[j]? = some u ∧ x.p S w u
theorem Parts.nil : Parts env [] [] := fun _ _ _ _ => ⟨rfl, fun _ _ _ h => by simp at h⟩
theorem Parts.cons {k : Nat} {ps : List (Nat × Operand)} {cs : List (Nat × List VP)} {c : List VP} [hp : PartC q c] (h : Opd env x q) (t : Parts env ps cs) : Parts env ((k, x) :: ps) ((k, c) :: cs) := fun S w a he => by
  obtain ⟨h1, h2⟩ := t S w a he
  refine ⟨by simpa using h1, fun t p d hp' hd => ?_⟩
  cases t with
  | zero => simp at hp' hd; subst hp'; subst hd; exact ⟨rfl, hp.part (h S w a he)⟩
  | succ t => exact h2 t p d (by simpa using hp') (by simpa using hd)

theorem fill_ok {place : Nat → Option (Nat × Nat)} {S : BS} {w : World} : ∀ (parts : List (Nat × Value)) (cs : List (Nat × List VP)) (base : List VP) (arr : Array Value) (out : List VP), CellsOf S w arr base → parts.length = cs.length →
    (∀ (t : Nat) (p : Nat × Value) (c : Nat × List VP), parts[t]? = some p → cs[t]? = some c → p.1 = c.1 ∧ p.2.cells.size = c.2.length ∧ ∀ (j : Nat) (x : VP), c.2[j]? = some x → ∃ u, p.2.cells[j]? = some u ∧ x.p S w u) →
    fillV place base cs = some out → ∃ arr', Instr.fill place arr parts = some arr' ∧ CellsOf S w arr' out
  | [], [], base, arr, out, h, _, _, hf => by simp [fillV] at hf; subst hf; exact ⟨arr, rfl, h⟩
  | [], c :: cs, _, _, _, _, hl, _, _ => by simp at hl
  | p :: ps, [], _, _, _, _, hl, _, _ => by simp at hl
  | (i, v) :: ps, (i', new) :: cs, base, arr, out, h, hl, hp, hf => by
    obtain ⟨e1, e2, e3⟩ := hp 0 _ _ rfl rfl
    simp only at e1 e2 e3; subst e1
    simp only [fillV] at hf
    cases hpl : place i with
    | none => rw [hpl] at hf; cases hf
    | some os =>
      obtain ⟨off, size⟩ := os
      rw [hpl] at hf
      simp only at hf
      cases hc : (Nat.beq new.length size && Nat.ble (off + size) base.length) with
      | false => rw [hc] at hf; cases hf
      | true =>
        rw [hc] at hf
        simp only [Bool.and_eq_true] at hc
        have c1 : new.length = size := by simpa using hc.1
        have c2 : off + size ≤ base.length := by simpa using hc.2
        have hsp := h.splice (v := v) (off := off) ⟨e2, e3⟩ (by omega)
        obtain ⟨arr', g1, g2⟩ := fill_ok ps cs _ _ out hsp (by simpa using hl) (fun t p c ht hc' => hp (t + 1) p c (by simpa using ht) (by simpa using hc')) hf
        refine ⟨arr', ?_, g2⟩
        simp only [Instr.fill, hpl]
        rw [if_neg (by simp [e2, c1, h.1]; omega)]
        exact g1

/-- where the parts of a struct or an array lie -/
def placesB (P : Program) (T : TypeId) : Option (List (Nat × Nat)) :=
  match P.underlying T with
  | some (.struct fs) => if fs.toList.all (fun f => Nat.blt 0 (P.cellsOf f.type)) then some (fs.toList.map fun f => (f.offset, P.cellsOf f.type)) else none
  | _ => none

theorem mapM_places {fs : List Field} (h : fs.all (fun f => Nat.blt 0 (P.cellsOf f.type)) = true) (w : World) : (fs.mapM fun f => do pure (f.offset, ← sizeOf f.type) : Sem (List (Nat × Nat))).run P w = .ok (fs.map fun f => (f.offset, P.cellsOf f.type)) w := by
  induction fs with
  | nil => simp
  | cons f fs ih =>
    simp only [List.all_cons, Bool.and_eq_true] at h
    have hs := run_sizeOf (P := P) (T := f.type) rfl h.1 w
    have := ih h.2
    simp only [List.mapM_cons, Sem.run_bind, hs, Result.andThen_ok, Sem.run_pure, this, List.map_cons]

theorem opBuild {ps : List (Nat × Operand)} {pcs : List (Nat × List VP)} {pl : List (Nat × Nat)} {zs : List Value} {cs : List VP} (hpl : placesB P T = some pl) (hz : zeroB P T = some zs) (hp : Parts env ps pcs) (hf : fillV (pl[·]?) (zs.map exactV) pcs = some cs) :
    OpP P hs env ⟨dst, .build T ps.toArray, ty, pos, after, gd⟩ (aggV cs) := by
  intro a w S F h1 h2 h3 h4 he K Q hk
  obtain ⟨z, hz1, hz2⟩ := run_zero hz w
  unfold placesB at hpl
  split at hpl
  · rename_i fs hu
    split at hpl
    · rename_i hall
      simp only [Option.some.injEq] at hpl
      obtain ⟨g1, g2⟩ := hp S w a he
      have hm := mapM_places (P := P) hall w
      obtain ⟨arr', r1, r2⟩ := fill_ok (S := S) (w := w) (place := (pl[·]?)) (ps.map fun (i, x) => (i, a.eval x)) pcs (zs.map exactV) z.cells cs
        ⟨by rw [hz2]; simp, fun j q hj => by
          rw [List.getElem?_map] at hj
          cases hzj : zs[j]? with
          | none => rw [hzj] at hj; cases hj
          | some u => rw [hzj] at hj; cases hj; exact ⟨u, by rw [hz2]; simpa using hzj, rfl⟩⟩ (by simpa using g1)
        (fun t p c ht hc => by
          rw [List.getElem?_map] at ht
          cases hpt : ps[t]? with
          | none => rw [hpt] at ht; cases ht
          | some p0 => rw [hpt] at ht; cases ht; exact g2 t p0 c hpt hc) hf
      have hr : (execOp a.eval ⟨dst, .build T ps.toArray, ty, pos, after, gd⟩).run P w = .ok (.value (.agg arr')) w := by
        have hm2 : (fs.mapM fun f => do pure (f.offset, ← sizeOf f.type) : Sem (Array (Nat × Nat))).run P w = .ok pl.toArray w := by
          rw [← Array.toArray_toList (xs := fs), List.mapM_toArray, ← hpl]
          simp only [Sem.run_map, hm, Result.andThen_ok]
        have r1' : Instr.fill (fun x => pl[x]?) z.cells (ps.map fun x => (x.1, a.eval x.2)) = some arr' := by simpa using r1
        simp only [execOp, Instr.build, Sem.run_bind, hz1, Result.andThen_ok, run_underlying hu, hm2]
        simp [r1']
      unfold Oper.wp
      rw [hr]
      exact hk _ w S (Grow.refl _ _) ⟨arr', rfl, r2.1, r2.2⟩
    · cases hpl
  · cases hpl
end
end Go.Hl
