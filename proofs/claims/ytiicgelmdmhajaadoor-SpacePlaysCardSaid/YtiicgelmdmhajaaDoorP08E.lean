/-
  New bytes of whatever value, and copies within them; bits of numbers that need no carry. No project text.
-/
import Derived.Test.YtiicgelmdmhajaaDoorP08C
import Derived.Lib.MakeNoZero
import Derived.Lib.VarintBits
namespace Go.Hl
open Go.RowKit
set_option linter.unusedVariables false
section
variable {P : Program} {hs : List HP} {env : Env} {q : VP} {dst : Option Tmp} {ty T T' E : TypeId} {pos : String} {after : Array Edge} {gd : Option (Nat × Bool)} {x y z : Operand}
/-- new bytes, with whatever room -/
def rawV (b n : Nat) : VP := ⟨fun _ _ v => ∃ cap, v = .slice (some ⟨b, 0, none⟩) n cap ∧ n ≤ cap, fun _ _ h => h⟩
theorem digits_u8 : ∀ (n t : Nat) (acc : Array Value), ∃ l : List UInt8, l.length = n ∧ Extern.BytealgMakeNoZero.digits n t acc = acc ++ (u8s l).toArray
  | 0, t, acc => ⟨[], rfl, by simp [Extern.BytealgMakeNoZero.digits, u8s]⟩
  | n + 1, t, acc => by
    obtain ⟨l, h1, h2⟩ := digits_u8 n (t / 256) (acc.push (.int .u8 (Int.ofNat (t % 256))))
    refine ⟨UInt8.ofNat (t % 256) :: l, by simp [h1], ?_⟩
    rw [Extern.BytealgMakeNoZero.digits, h2]
    simp [u8s]
theorem opMakeNoZ {f : FuncId} {n : Nat} {i : Int} {ps : Array TypeId} {ats : Array TypeId} (hf : extB P f (Extern.BytealgMakeNoZero.makeNoZero ps #[T])) (hT : P.underlying T = some (.slice E)) (hx : Opd env x (intV .i64 i)) (hi : i = (n : Int)) (hle : n ≤ 281474976710656) :
    OpE P hs env ⟨dst, .call ⟨.value (.func f), #[x], ats⟩, ty, pos, after, gd⟩ (γ := Nat × List UInt8) (fun g => n ≤ g.2.length) (fun g => bufH g.1 g.2 :: hs) (fun g => rawV g.1 n) := by
  intro c a w S F hsit hown he K Q hk
  have hv := hx S w a he; simp only [exactV] at hv
  subst hi
  obtain ⟨l, hl1, hl2⟩ := digits_u8 (grownCap w n 0 E) ((Question.extern "internal/bytealg.MakeNoZero.bytes" 0).cut (w.tape (w.drawn + 1) (.extern "internal/bytealg.MakeNoZero.bytes" 0))) #[]
  have hge : n ≤ grownCap w n 0 E := by simpa using grownCap_ge w n 0 E
  have hrun : (Extern.BytealgMakeNoZero.makeNoZero ps #[T] #[.int .i64 n]).run P w = .ok (.slice (some ⟨w.heap.size, 0, none⟩) n l.length) (w.drew.drew.alloc (.cells (u8s l).toArray E)) := by
    have hdef : Extern.BytealgMakeNoZero.makeNoZero ps #[T] #[.int .i64 n] =
        (do
          let .slice elem ← underlying T | stuck "bytealg.MakeNoZero: slice type expected"
          if (n : Int) < 0 || (n : Int) > 2 ^ 48 then runtimePanic (.error "makeslice: len out of range")
          let cap ← choose (.appendCap (n : Int).toNat 0 elem)
          askRoom cap
          let bytes ← choose (.extern "internal/bytealg.MakeNoZero.bytes" 0)
          let a ← newRow elem (Extern.BytealgMakeNoZero.digits cap bytes #[])
          pure (.slice (some a) (n : Int).toNat cap)) := rfl
    have h1 : ¬ (n : Int) < 0 := by omega
    have h2 : ¬ (281474976710656 : Int) < (n : Int) := by omega
    have hl2' := hl2
    rw [Array.empty_append] at hl2'
    rw [hdef, ← hl2', hl1]
    simp [run_underlying hT, h1, h2, Question.forced, newRow, grownCap]
  have hr : (execOp a.eval ⟨dst, .call ⟨.value (.func f), #[x], ats⟩, ty, pos, after, gd⟩).run P w = .ok (.value (.slice (some ⟨w.heap.size, 0, none⟩) n l.length)) (w.drew.drew.alloc (.cells (u8s l).toArray E)) := by
    have h := hf #[.int .i64 n] w
    rw [hrun] at h
    simp [execOp, resolve, Act.eval, Deferred.ofValue, invoke, Result.andThen] at h hv ⊢
    simp [hv]
    exact h
  unfold Oper.wp
  rw [hr]
  have s1 : Sit c (w.drew.drew.alloc (.cells (u8s l).toArray E)) S (fun k => k = w.heap.size ∨ F k) := by
    have := hsit.newOwn (.cells (u8s l).toArray E (0, 0))
    exact ⟨this.os, this.tape, this.output, this.size, this.kept, this.disj, this.domS, this.domF, this.own, this.shr, this.base⟩
  refine hk (w.heap.size, l) _ _ S _ (by show n ≤ l.length; omega) s1 (fun _ h => h) (fun k hk => heap_push_old w _ k (hsit.domS k hk)) ?_ ⟨l.length, rfl, by omega⟩
  have h9 := hown.newOwn hsit.domS hsit.domF (.cells (u8s l).toArray E (0, 0)) (h1 := bufH w.heap.size l) ⟨rfl, E, by simp⟩
  refine Own.mono ?_ ?_ ?_ ?_ h9
  · exact fun _ h => h
  · exact fun _ h => h
  · exact fun _ _ => rfl
  · exact fun _ _ => rfl
theorem addr_at (b o l : Nat) : Addr.add ⟨b, o, none⟩ l = ⟨b, o + l, none⟩ := by
  unfold Addr.add
  split
  · rename_i h0; simp
  · rfl
theorem opSlice3Raw {b n : Nat} {k k' : IntKind} {i i' : Int} {h : Nat} (hT : P.underlying T = some (.slice E)) (hn : P.cellsOf E = 1) (hx : Opd env x (rawV b n)) (hy : Opd env y (intV k i)) (hz : Opd env z (intV k' i'))
    (hi : i = (h : Int)) (hi' : i' = (h : Int)) (hh : h ≤ n) (hle : h ≤ 281474976710656) : OpP P hs env ⟨dst, .slice T x none (some y) (some z), ty, pos, after, gd⟩ (subV b 0 h) :=
  OpP.of_read fun ρ w S F _ he => by
    obtain ⟨cap, hv, h1⟩ := he.o _ _ hx
    have h4 := he.o _ _ hy; simp only [exactV] at h4
    have h5 := he.o _ _ hz; simp only [exactV] at h5
    subst hi; subst hi'
    have hs := run_sizeOf (T := E) hn rfl w
    have hle2 : h ≤ cap := by omega
    refine ⟨.slice (some ⟨b, 0, none⟩) h h, ?_, 0, h, rfl, .inr rfl, Nat.le_refl _, hle⟩
    simp [execOp, hv, h4, h5, Instr.sliceAt, Instr.slice, Instr.sliceBounds, Instr.sliceBound, asIntOf, run_underlying hT, hs, hle2, addr_at]
theorem opSliceSubLo {b off len : Nat} {k : IntKind} {i : Int} {l : Nat} (hT : P.underlying T = some (.slice E)) (hn : P.cellsOf E = 1) (hx : Opd env x (subV b off len)) (hy : Opd env y (intV k i))
    (hi : i = (l : Int)) (hh : l ≤ len) : OpP P hs env ⟨dst, .slice T x (some y) none none, ty, pos, after, gd⟩ (subV b (off + l) (len - l)) :=
  OpP.of_read fun ρ w S F _ he => by
    obtain ⟨o, cap, hv, h1, h2, h3⟩ := he.o _ _ hx
    have h4 := he.o _ _ hy; simp only [exactV] at h4
    subst hi
    have hs := run_sizeOf (T := E) hn rfl w
    refine ⟨.slice (if cap = l then some ⟨b, o, none⟩ else some ⟨b, o + l, none⟩) (len - l) (cap - l), ?_, ?_⟩
    · simp [execOp, hv, h4, Instr.sliceAt, Instr.slice, Instr.sliceBounds, Instr.sliceBound, asIntOf, run_underlying hT, hs, hh, h2, addr_at]
    · by_cases hcl : cap = l
      · exact ⟨o, cap - l, by rw [if_pos hcl], .inl (by omega), by omega, by omega⟩
      · exact ⟨o + l, cap - l, by rw [if_neg hcl], by omega, by omega, by omega⟩
theorem opSliceSubHi {b off len : Nat} {k : IntKind} {i : Int} {h : Nat} (hT : P.underlying T = some (.slice E)) (hn : P.cellsOf E = 1) (hx : Opd env x (subV b off len)) (hy : Opd env y (intV k i))
    (hi : i = (h : Int)) (hh : h ≤ len) : OpP P hs env ⟨dst, .slice T x none (some y) none, ty, pos, after, gd⟩ (subV b off h) :=
  OpP.of_read fun ρ w S F _ he => by
    obtain ⟨o, cap, hv, h1, h2, h3⟩ := he.o _ _ hx
    have h4 := he.o _ _ hy; simp only [exactV] at h4
    subst hi
    have hs := run_sizeOf (T := E) hn rfl w
    have hle : h ≤ cap := by omega
    refine ⟨.slice (some ⟨b, o, none⟩) h cap, ?_, o, cap, rfl, by omega, hle, h3⟩
    simp [execOp, hv, h4, Instr.sliceAt, Instr.slice, Instr.sliceBounds, Instr.sliceBound, asIntOf, run_underlying hT, hs, hle, addr_at]
theorem buf_firstM {b o len cap off m : Nat} {l : List UInt8} {w : World} {T : TypeId} (hb : w.heap[b]? = some (.cells (u8s l).toArray T (0, 0))) (ho : len = 0 ∨ o = off) (hl : off + m ≤ l.length) (hm : m ≤ len) (d : Nat) :
    (Builtin.firstCells 1 m (.slice (some ⟨b, o, none⟩) len cap)).run P { w with drawn := d } = .ok (u8s ((l.drop off).take m)).toArray { w with drawn := d } := by
  have := buf_first (P := P) (len := m) (cap := cap) (off := off) (o := o) hb (by omega) hl d
  simpa [Builtin.firstCells] using this
/-- 'copy' within one block: as much as fits -/
theorem opCopySelf {b off len off2 len2 i : Nat} {l : List UInt8} {ats : Array TypeId} (hat : ats[0]? = some T) (hT : P.underlying T = some (.slice E)) (hn : P.cellsOf E = 1) (hx : Opd env x (subV b off len)) (hy : Opd env y (subV b off2 len2)) (hi : hs[i]? = some (bufH b l)) (hl : off + len ≤ l.length) (hl2 : off2 + len2 ≤ l.length) :
    OpE P hs env ⟨dst, .call ⟨.builtin .copy, #[x, y], ats⟩, ty, pos, after, gd⟩ (γ := Unit) (fun _ => True) (fun _ => hs.set i (bufH b (l.take off ++ (l.drop off2).take (min len2 len) ++ l.drop (off + min len2 len)))) (fun _ => intV .i64 ((min len2 len : Nat) : Int)) := by
  intro c a w S F hsit hown he Kp Q hk
  obtain ⟨o, cap, hv, h1, h2, h3⟩ := hx S w a he
  obtain ⟨o2, cap2, hv2, k1, k2, k3⟩ := hy S w a he
  obtain ⟨F1, _, _, T0, hb⟩ := hown.get hi
  have hyf := buf_firstM (P := P) (len := len2) (cap := cap2) (m := min len2 len) (off := off2) hb k1 (by omega) (by omega) w.drawn
  have hsz := run_sizeOf (T := E) hn rfl w
  have hlen : ((l.drop off2).take (min len2 len)).length = min len2 len := by simp; omega
  have hmin : Nat.min len2 len = min len2 len := rfl
  have := bufH_store (P := P) (ys := (l.drop off2).take (min len2 len)) (vs := u8s ((l.drop off2).take (min len2 len))) (o := o) (off := off) (op := ⟨dst, .call ⟨.builtin .copy, #[x, y], ats⟩, ty, pos, after, gd⟩) (a := a) (v := .int .i64 ((min len2 len : Nat) : Int)) (Kp := Kp) (Q := Q) hsit hown hi rfl (by rw [hlen]; omega) (by rw [hlen]; omega) (fun w1 hw1 => ?_) (fun w1 hS hag hO => ?_)
  · exact this
  · have hyf' : (Builtin.firstCells 1 (Nat.min len2 len) (.slice (some ⟨b, o2, none⟩) len2 cap2)).run P w = .ok (u8s ((l.drop off2).take (min len2 len))).toArray w := hyf
    simp [execOp, resolve, invoke, builtin, Builtin.copy_, hat, hv, hv2, run_underlying hT, Builtin.lenOf, hsz, hyf', hw1, goInt]
  · rw [hlen] at hO
    exact hk () (.int .i64 ((min len2 len : Nat) : Int)) w1 S F trivial hS (fun _ h => h) hag hO rfl
/-- a block of bytes is shared from now on -/
theorem CodeT.shareB {Q : Exit → Act → World → Prop} {c : Ctx} {s : Code} {b off len i t : Nat} {l : List UInt8} (hi : hs[i]? = some (bufH b l)) (ht : look env t = some (subV b off len)) (hl : off + len ≤ l.length) (h : CodeT P Q c s (hs.eraseIdx i) ((t, sliceV 1 encU8 ((l.drop off).take len)) :: env)) : CodeT P Q c s hs env := by
  intro a w ⟨h1, h2, S, F, h3, h4, h5⟩
  obtain ⟨F1, F2, f1, f2, f3, f5, _⟩ := h4.upd hi
  obtain ⟨hFb, T0, hb⟩ := f3
  have hbF := f1 b hFb
  obtain ⟨o, cap, hv, k1, k2, k3⟩ := h5 t _ ht
  have hS : ∀ k, S k → S k ∨ k = b := fun _ h => .inl h
  refine h a w ⟨h1, h2, fun k => S k ∨ k = b, F2, ⟨h3.os, h3.tape, h3.output, h3.size, h3.kept, ?_, ?_, fun k hk => h3.domF k (f2 k hk), fun k hk => h3.own k (f2 k hk), ?_, fun k hk => .inl (h3.base k hk)⟩,
    f5.mono (fun _ h => h) hS (fun _ _ => rfl) (fun _ _ => rfl), fun s q hls => ?_⟩
  · exact fun k hk hf => hk.elim (fun h => h3.disj k h (f2 k hf)) (fun e => hbF.2 (e ▸ hf))
  · exact fun k hk => hk.elim (h3.domS k) (fun e => h3.domF k (e ▸ hbF.1))
  · exact fun k hk => hk.elim (h3.shr k) (fun e => by
      rcases h3.own b hbF.1 with h | h
      · exact .inr (.inl (e ▸ h))
      · exact .inr (.inr (e ▸ h)))
  · rw [look_cons] at hls
    by_cases e : t = s
    · rw [if_pos e] at hls; cases hls; subst e
      have hlen : ((l.drop off).take len).length = len := by simp; omega
      refine ⟨some ⟨b, o, none⟩, cap, by rw [hlen]; exact hv, by omega, by omega, fun hc => ⟨rfl, .inr rfl, fun i x hx j p hj => ?_⟩⟩
      have hil : i < len := by have := (List.getElem?_eq_some_iff.1 hx).1; omega
      have ho : o = off := by omega
      subst ho
      rw [List.getElem?_take, if_pos hil, List.getElem?_drop] at hx
      cases j with
      | zero =>
        simp [encU8] at hj; subst hj
        refine ⟨.int .u8 (x.toNat : Int), ?_, rfl⟩
        simp [World.cell?, hb, u8s, hx]
      | succ j => simp [encU8] at hj
    · rw [if_neg e] at hls
      exact q.mono hS (fun _ _ => rfl) (h5 s q hls)
/-- bits of a number, by a mask of 32 -/
theorem opAnd32 {n : Nat} (hn : n < 18446744073709551616) (hx : Opd env x (intV .u64 (n : Int))) : OpP P hs env ⟨dst, .binOp .and T x (.const (.int .u64 4294967295)) T', ty, pos, after, gd⟩ (intV .u64 ((n % 4294967296 : Nat) : Int)) :=
  OpP.of_read fun ρ w S F _ he => by
    have h1 := he.o _ _ hx; simp only [exactV] at h1
    have h2 : ρ (.const (.int .u64 4294967295)) = .int .u64 4294967295 := he.o _ _ (.c _)
    refine ⟨.int .u64 ((n % 4294967296 : Nat) : Int), ?_, rfl⟩
    have h3 := bits_mask .u64 64 (by decide) wraps_u64 32 (by decide) (n : Int) (by omega) (by omega)
    have h4 : bits .and .u64 (n : Int) 4294967295 = (n : Int) % 4294967296 := h3
    simp [execOp, h1, h2, go_sem, h4]
theorem opShr32 {n : Nat} (hn : n < 18446744073709551616) (hx : Opd env x (intV .u64 (n : Int))) : OpP P hs env ⟨dst, .binOp .shr T x (.const (.int .u64 32)) T', ty, pos, after, gd⟩ (intV .u64 ((n / 4294967296 : Nat) : Int)) :=
  OpP.of_read fun ρ w S F _ he => by
    have h1 := he.o _ _ hx; simp only [exactV] at h1
    have h2 : ρ (.const (.int .u64 32)) = .int .u64 32 := he.o _ _ (.c _)
    refine ⟨.int .u64 ((n / 4294967296 : Nat) : Int), ?_, rfl⟩
    simp [execOp, h1, h2, go_sem]
end
/-- how far a byte is repeated -/
structure RepI (v : UInt8) (c L : Nat) (l : List UInt8) (bp : Nat) : Prop where
  len : l.length = L
  pos : 1 ≤ bp
  le : bp ≤ c
  room : c ≤ L
  eq : l.take bp = List.replicate bp v
theorem RepI.begin {v : UInt8} {c : Nat} {l : List UInt8} (h : c ≤ l.length) (h1 : 1 ≤ c) : RepI v c l.length (l.take 0 ++ [v] ++ l.drop (0 + [v].length)) 1 :=
  ⟨by simp; omega, Nat.le_refl _, h1, h, by simp⟩
theorem RepI.step {v : UInt8} {c L cm : Nat} {l : List UInt8} {bp : Nat} (h : RepI v c L l bp) (hc : bp < c) : RepI v c L (l.take (0 + bp) ++ (l.drop 0).take (min (min bp cm) (c - bp)) ++ l.drop (0 + bp + min (min bp cm) (c - bp))) (bp + min (min bp cm) (c - bp)) := by
  have h1 := h.len; have h2 := h.pos; have h3 := h.room
  have hk : min (min bp cm) (c - bp) ≤ bp ∧ min (min bp cm) (c - bp) ≤ c - bp := by omega
  generalize min (min bp cm) (c - bp) = k at *
  refine ⟨by simp; omega, by omega, by omega, h3, ?_⟩
  rw [Nat.zero_add, List.drop_zero]
  have e1 : (l.take bp ++ l.take k).length = bp + k := by simp; omega
  rw [List.take_append_of_le_length (by omega), List.take_of_length_le (by omega), h.eq]
  have e2 : l.take k = (l.take bp).take k := by rw [List.take_take, Nat.min_eq_left hk.1]
  rw [e2, h.eq, List.take_replicate, Nat.min_eq_left hk.1, List.replicate_append_replicate]
theorem RepI.done {v : UInt8} {c L : Nat} {l : List UInt8} {bp : Nat} (h : RepI v c L l bp) (hc : ¬ bp < c) : (l.drop 0).take c = List.replicate c v := by
  have := h.le
  have e : bp = c := by omega
  subst e; rw [List.drop_zero]; exact h.eq
/-- what comes of a filling: the trap, the error -/
def fillS (p a n : Nat) : Nat × Nat := if beyondS p a n then (4, 0) else if 1048576 < n then (0, 15) else (0, 0)
end Go.Hl
