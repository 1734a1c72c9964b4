/-
  What the statement's proof leans on, several texts in one (packed by a program).
-/
import Derived.Test.YtpahnbgfmhcndaaGreatDoorLFL
set_option linter.all false
set_option maxRecDepth 1000000
set_option maxHeartbeats 4000000
section
namespace Go.Hl
def encP (p : Prop) : List VP := [propV p]
instance : Enc 1 encP := ⟨fun _ => rfl, fun x q h => by simp only [encP, List.mem_cons, List.not_mem_nil, or_false] at h; subst h; infer_instance⟩
def sgP (n : Nat) (op : Int) (A : Nat) : Prop := (op = 3 ∨ op = 5) ∧ 2 ^ (n - 1) ≤ A
instance {n : Nat} {op : Int} {A : Nat} : Decidable (sgP n op A) := by unfold sgP; infer_instance
def noI : InstrD := ⟨-1, 0, 0, 0, []⟩
def isC (x : InstrD) : Prop := x.Code = 65 ∨ x.Code = 66
instance (x : InstrD) : Decidable (isC x) := by unfold isC; infer_instance
def stopP (c : Int) : Prop := ((c = 0 ∨ c = 12) ∨ c = 14) ∨ c = 15
def boundP (c : Int) : Prop := (2 ≤ c ∧ c ≤ 5) ∨ c = 11
instance (c : Int) : Decidable (stopP c) := by unfold stopP; infer_instance
instance (c : Int) : Decidable (boundP c) := by unfold boundP; infer_instance
abbrev gI (l : List InstrD) (i : Nat) : InstrD := l.getD i noI
end Go.Hl
end
section
namespace Go.Hl
open Go.RowKit
section
variable {P : Program} {hs : List HP} {env : Env} {q : VP} {dst : Option Tmp} {ty T T' E : TypeId} {pos : String} {after : Array Edge} {gd : Option (Nat × Bool)} {x y z : Operand}
theorem opAppendMk {α : Type} {n N by_ : Nat} {i : Int} {k : IntKind} {enc : α → List VP} {zs : List Value} (hT : P.underlying T = some (.slice E)) (hT2 : P.underlying T' = some (.int k)) (hn : P.cellsOf E = N) (h0 : Nat.blt 0 N = true)
    (hz : zeroB P E = some zs) (hzl : zs.length = N) (hb : P.bytesOf E = by_) (hx : Opd env x (exactV (.slice none 0 0))) (hy : Opd env y (intV .i64 i)) (hi : i = (n : Int)) (hn1 : 0 < n) (hroom : (2 * n + 256) * by_ ≤ 281474976710656) (hlen : n ≤ 281474976710656) :
    OpE P hs env ⟨dst, .call ⟨.builtin .append, #[x, y], #[T, T']⟩, ty, pos, after, gd⟩ (γ := Nat × Nat) (fun _ => True) (fun g => sliceH (some g) N enc ([] : List α) :: hs) (fun g => exactV (sval (some g) n)) := by
  intro c a w S F hsit hown hev K Q hk
  have hv := hx S w a hev; simp only [exactV] at hv
  have hyv := hy S w a hev; simp only [exactV] at hyv
  subst hi
  have hsz := run_sizeOf hn h0 w
  obtain ⟨info, hi1, hi2⟩ := run_typeInfo' hn h0 w
  have hbytes : info.bytes = by_ := hi2.trans hb
  have hw : IntKind.i64.wrap (n : Int) = (n : Int) := wrap_fits (fits_i64 (by omega) (by omega))
  have hnn : ¬ ((n : Int) < 0) := by omega
  have hns := nextslicecap_le (need := n) (cap := 0) (by omega)
  have hcapB : Builtin.nextslicecap n 0 * by_ ≤ 281474976710656 := Nat.le_trans (Nat.mul_le_mul_right _ hns) hroom
  obtain ⟨zv', hz1', hz2'⟩ := run_zero hz w.drew
  obtain ⟨info', hi1', hi2'⟩ := run_typeInfo' hn h0 w.drew
  generalize hcut : Question.cut (.appendCap n 0 E) (w.tape w.drawn (.appendCap n 0 E)) = newCap
  have hge : n ≤ newCap := by rw [← hcut]; simp only [Question.cut]; omega
  have hN0 : 0 < N := by simpa using h0
  have hnN : ¬ (n * N = 0) := Nat.mul_ne_zero (by omega) (by omega)
  let row : Array Value := Builtin.zeroCells zv'.cells n ++ Builtin.zeroCells zv'.cells (newCap - n)
  have hr : (execOp a.eval ⟨dst, .call ⟨.builtin .append, #[x, y], #[T, T']⟩, ty, pos, after, gd⟩).run P w = .ok (.value (.slice (some ⟨w.heap.size, 0, none⟩) n newCap)) (w.drew.alloc (.cells row E)) := by
    have hnot : ¬ (n ≤ 0) := by omega
    have hn0 : ¬ (n = 0) := by omega
    have hNn0 : ¬ (N = 0) := by omega
    have hbig : ¬ ((9223372036854775807 : Int) < (n : Int)) := by omega
    have hbig2 : ¬ (281474976710656 < Builtin.nextslicecap n 0 * by_) := by omega
    have hnb : n * by_ ≤ 281474976710656 := Nat.le_trans (Nat.mul_le_mul_right _ (by omega)) hroom
    have hbig3 : ¬ ((281474976710656 : Int) < (n : Int) * (by_ : Int)) := by rw [← Int.natCast_mul]; omega
    have hvx2' : (Builtin.firstCells N 0 (.slice none 0 0)).run P w.drew = .ok #[] w.drew := by simp [Builtin.firstCells]
    simp [execOp, resolve, invoke, builtin, Builtin.append_, hv, hyv, run_underlying hT, run_underlying hT2, hsz, asInt, asIntOf, hw, hnn, hn0, hNn0, hbig, hi1, hbytes, hbig2, hbig3, hnN, Question.forced, hcut, hi1', hvx2', hz1', newRow, row]
    done
  generalize hw' : w.drew.alloc (.cells row E) = w' at hr
  unfold Oper.wp
  rw [hr]
  have hs1 : Sit c w.drew S F := hsit.grow (Grow.drew w S)
  have ho1 : Own hs F S w.drew := (Grow.drew w S).owns hsit.domS hsit.domF hown
  subst hw'
  refine hk (w.heap.size, newCap) _ _ S _ trivial (hs1.newOwn _) (fun _ h => h) (fun k hk => heap_push_old w _ k (hsit.domS k hk)) (ho1.newOwn hsit.domS hsit.domF _ ⟨rfl, Nat.zero_le _, by simp, row, E, by show (w.heap.push _)[w.heap.size]? = _; simp, ?_, fun j q h => by simp at h⟩) rfl
  simp only [row, Array.size_append]
  have hsz0 : ∀ m, (Builtin.zeroCells zv'.cells m).size = m * N := fun m => by rw [hz2']; simp [Builtin.zeroCells, hzl]
  rw [hsz0, hsz0, ← Nat.add_mul, Nat.add_sub_cancel' hge]
theorem opSliceOwn0 {b cap len N : Nat} {i : Int} (hT : P.underlying T = some (.slice E)) (hn : P.cellsOf E = N) (h0 : Nat.blt 0 N = true) (hx : Opd env x (exactV (sval (some (b, cap)) len))) (hy : Opd env y (intV .i64 i)) (hi : i = 0) :
    OpP P hs env ⟨dst, .slice T x none (some y) none, ty, pos, after, gd⟩ (exactV (sval (some (b, cap)) 0)) :=
  OpP.of_read fun ρ w S F _ he => by
    have hv := he.o _ _ hx; have h2 := he.o _ _ hy; simp only [exactV, sval] at hv h2
    subst hi
    have hs := run_sizeOf (T := E) hn h0 w
    refine ⟨.slice (some ⟨b, 0, none⟩) 0 cap, ?_, rfl⟩
    simp [execOp, hv, h2, Instr.sliceAt, Instr.slice, Instr.sliceBounds, Instr.sliceBound, asIntOf, run_underlying hT, hs, Addr.add]
def encSl (l : List InstrD) : List VP := [sliceV 5 encInstr l]
instance : Enc 1 encSl := ⟨fun _ => rfl, fun x q h => by simp only [encSl, List.mem_cons, List.not_mem_nil, or_false] at h; subst h; infer_instance⟩
theorem opCapN {ats : Array TypeId} (hat : ats[0]? = some T) (hT : P.underlying T = some (.slice E)) (hx : Opd env x (exactV (.slice none 0 0))) : OpP P hs env ⟨dst, .call ⟨.builtin .cap, #[x], ats⟩, ty, pos, after, gd⟩ (intV .i64 0) :=
 OpP.of_read fun ρ w S F _ he => by
  have hv := he.o _ _ hx; simp only [exactV] at hv
  exact ⟨_, by simp [execOp, resolve, invoke, builtin, Builtin.cap_, hat, hv, run_underlying hT, goInt], rfl⟩
theorem flat_snoc {α : Type} {ls : List (List α)} {k : Nat} {l : List α} (h : ls[k]? = some l) : (ls.take (k + 1)).flatten = (ls.take k).flatten ++ l := by
 rw [List.take_add_one, h]; simp
theorem flat_part {α : Type} (ls : List (List α)) (k : Nat) : (ls.take k).flatten.length ≤ ls.flatten.length := by
 have h : (ls.take k).flatten ++ (ls.drop k).flatten = ls.flatten := by rw [← List.flatten_append, List.take_append_drop]
 have := congrArg List.length h
 rw [List.length_append] at this; omega
end
section
variable {P : Program} {hs : List HP} {env : Env} {q : VP} {dst : Option Tmp} {ty T T' E : TypeId} {pos : String} {after : Array Edge} {gd : Option (Nat × Bool)} {x y z : Operand}
theorem opSliceNil0 {N : Nat} {i : Int} (hT : P.underlying T = some (.slice E)) (hn : P.cellsOf E = N) (h0 : Nat.blt 0 N = true) (hx : Opd env x (exactV (.slice none 0 0))) (hy : Opd env y (intV .i64 i)) (hi : i = 0) :
    OpP P hs env ⟨dst, .slice T x none (some y) none, ty, pos, after, gd⟩ (exactV (.slice none 0 0)) :=
  OpP.of_read fun ρ w S F _ he => by
    have hv := he.o _ _ hx; have h2 := he.o _ _ hy; simp only [exactV] at hv h2
    subst hi
    have hs := run_sizeOf (T := E) hn h0 w
    refine ⟨.slice none 0 0, ?_, rfl⟩
    simp [execOp, hv, h2, Instr.sliceAt, Instr.slice, Instr.sliceBounds, Instr.sliceBound, asIntOf, run_underlying hT, hs]
end
def xfS (c : Int) : Prop := if c = 172 ∨ c = 173 then c = 172 else if c = 192 ∨ c = 193 then True else if c = 194 ∨ c = 195 ∨ c = 196 then True else False
instance (c : Int) : Decidable (xfS c) := by unfold xfS; infer_instance
section
variable {l : List InstrD} {i : Nat}
theorem gI_in {j : Nat} (h : j < l.length) : l[j]? = some (gI l j) := by unfold gI; rw [List.getD_eq_getElem?_getD, List.getElem?_eq_getElem h]; rfl
end
end Go.Hl
end
section
namespace Go.Hl
theorem suf_tail {α : Type} {x : α} {r s : List α} (h : (x :: r) <:+ s) : r <:+ s := (List.suffix_cons x r).trans h
theorem suf_len {α : Type} {r s : List α} (h : r <:+ s) : r.length ≤ s.length := h.length_le
theorem rblk_suf : ∀ (f : Nat) (s : List Int) (d : Nat) (r : List Int), rblk f s d = some r → r <:+ s := by
 intro f
 induction f with
 | zero => intro s d r h; simp [rblk] at h
 | succ f ih =>
  intro s d r h
  cases s with
  | nil => simp [rblk] at h; subst h; exact List.suffix_refl _
  | cons c s =>
   simp only [rblk] at h
   split at h
   · cases h; exact List.suffix_refl _
   split at h
   · split at h
     · cases h
     · split at h
       · cases h
       · cases h
       · rename_i c2 r2 h1
         have e1 := ih _ _ _ h1
         split at h
         · split at h
           · split at h
             · cases h
             · cases h
             · rename_i c3 r3 h2
               have e2 := ih _ _ _ h2
               split at h
               · cases h
               · exact ((ih _ _ _ h).trans (suf_tail (e2.trans (suf_tail e1)))).trans (List.suffix_cons _ _)
           · cases h
         · exact ((ih _ _ _ h).trans (suf_tail e1)).trans (List.suffix_cons _ _)
   · exact (ih _ _ _ h).trans (List.suffix_cons _ _)
theorem rblk_fuel : ∀ (f g : Nat) (s : List Int) (d : Nat), s.length < f → s.length < g → rblk f s d = rblk g s d := by
 intro f
 induction f with
 | zero => intro g s d h; omega
 | succ f ih =>
  intro g s d h hg
  cases g with
  | zero => omega
  | succ g =>
   cases s with
   | nil => rfl
   | cons c s =>
    simp only [List.length_cons] at h hg
    have i1 : rblk f s (d + 1) = rblk g s (d + 1) := ih g s _ (by omega) (by omega)
    have i2 : rblk f s d = rblk g s d := ih g s _ (by omega) (by omega)
    simp only [rblk, i1, i2]
    split
    · rfl
    split
    · split
      · rfl
      · split
        · rfl
        · rfl
        · rename_i c2 r2 h1
          have l1 := suf_len (rblk_suf _ _ _ _ h1)
          simp only [List.length_cons] at l1
          have i3 : rblk f r2 (d + 1) = rblk g r2 (d + 1) := ih g r2 _ (by omega) (by omega)
          have i4 : rblk f r2 d = rblk g r2 d := ih g r2 _ (by omega) (by omega)
          rw [i3, i4]
          split
          · split
            · split
              · rfl
              · rfl
              · rename_i c3 r3 h2
                have l2 := suf_len (rblk_suf _ _ _ _ h2)
                simp only [List.length_cons] at l2
                split
                · rfl
                · exact ih g r3 _ (by omega) (by omega)
            · rfl
          · rfl
    · rfl
section
variable {ι : Type} (cd : ι → Int) (rr : ι → List UInt8) (pl : ι → Stk → List (List UInt8) → Option Stk)
theorem bchk_suf : ∀ (f : Nat) (s : List ι) (labs : List (List UInt8)) (res : List UInt8) (st : Stk) (base : Nat) (hs : List Nat) (rest : List ι), bchk cd rr pl f s labs res st base = some (hs, rest) → rest <:+ s := by
 intro f
 induction f with
 | zero => intro s _ _ _ _ _ _ h; simp [bchk] at h
 | succ f ih =>
  intro s labs res st base hs rest h
  cases s with
  | nil => simp [bchk] at h; rw [← h.2]; exact List.suffix_refl _
  | cons x s =>
   simp only [bchk] at h
   split at h
   · split at h
     · cases h; exact List.suffix_refl _
     · cases h
   split at h
   · obtain ⟨s1, _, h⟩ := Option.bind_eq_some_iff.1 h
     obtain ⟨⟨hs1, l1⟩, hb1, h⟩ := Option.bind_eq_some_iff.1 h
     have e1 := ih _ _ _ _ _ _ _ hb1
     cases l1 with
     | nil => cases h
     | cons x2 r2 =>
      simp only at h
      split at h
      · obtain ⟨⟨hs2, l2⟩, hb2, h⟩ := Option.bind_eq_some_iff.1 h
        have e2 := ih _ _ _ _ _ _ _ hb2
        cases l2 with
        | nil => cases h
        | cons x3 r3 =>
         simp only at h
         obtain ⟨⟨hs3, l3⟩, hb3, h⟩ := Option.map_eq_some_iff.1 h
         cases h
         exact ((ih _ _ _ _ _ _ _ hb3).trans (suf_tail (e2.trans (suf_tail e1)))).trans (List.suffix_cons _ _)
      split at h
      · cases h
      · obtain ⟨⟨hs3, l3⟩, hb3, h⟩ := Option.map_eq_some_iff.1 h
        cases h
        exact ((ih _ _ _ _ _ _ _ hb3).trans (suf_tail e1)).trans (List.suffix_cons _ _)
   · obtain ⟨s1, _, h⟩ := Option.bind_eq_some_iff.1 h
     obtain ⟨⟨hs1, l1⟩, hb1, h⟩ := Option.map_eq_some_iff.1 h
     cases h
     exact (ih _ _ _ _ _ _ _ hb1).trans (List.suffix_cons _ _)
theorem bchk_fuel : ∀ (f g : Nat) (s : List ι) (labs : List (List UInt8)) (res : List UInt8) (st : Stk) (base : Nat), s.length < f → s.length < g → bchk cd rr pl f s labs res st base = bchk cd rr pl g s labs res st base := by
 intro f
 induction f with
 | zero => intro g s _ _ _ _ h; omega
 | succ f ih =>
  intro g s labs res st base h hg
  cases g with
  | zero => omega
  | succ g =>
   cases s with
   | nil => rfl
   | cons x s =>
    simp only [List.length_cons] at h hg
    simp only [bchk]
    split
    · rfl
    split
    · refine Option.bind_congr fun s1 _ => ?_
      rw [ih g s _ _ _ _ (by omega) (by omega)]
      refine Option.bind_congr fun p hp => ?_
      obtain ⟨hs1, l1⟩ := p
      have e1 := suf_len (bchk_suf cd rr pl _ _ _ _ _ _ _ _ hp)
      cases l1 with
      | nil => rfl
      | cons x2 r2 =>
       simp only [List.length_cons] at e1
       simp only
       split
       · rw [ih g r2 _ _ _ _ (by omega) (by omega)]
         refine Option.bind_congr fun p hp => ?_
         obtain ⟨hs2, l2⟩ := p
         have e2 := suf_len (bchk_suf cd rr pl _ _ _ _ _ _ _ _ hp)
         cases l2 with
         | nil => rfl
         | cons x3 r3 =>
          simp only [List.length_cons] at e2
          simp only
          rw [ih g r3 _ _ _ _ (by omega) (by omega)]
       split
       · rfl
       · rw [ih g r2 _ _ _ _ (by omega) (by omega)]
    · refine Option.bind_congr fun s1 _ => ?_
      rw [ih g s _ _ _ _ (by omega) (by omega)]
noncomputable def nbk (s : List ι) (labs : List (List UInt8)) (res : List UInt8) (st : Stk) (base : Nat) : Option (List Nat × List ι) := bchk cd rr pl (s.length + 1) s labs res st base
def okBl (s : List ι) (d : Nat) : Prop := ∃ rest0, rblk (s.length + 1) (s.map cd) d = some rest0 ∧ rest0 ≠ []
variable {cd rr pl} {x : ι} {r : List ι} {labs : List (List UInt8)} {res : List UInt8} {st : Stk} {base d : Nat}
theorem nbk_end (h : cd x = 11 ∨ cd x = 5) (hc : ∃ s', tksS st res = some s' ∧ s'.1 = []) : nbk cd rr pl (x :: r) labs res st base = some ([base + st.1.length], x :: r) := by
 simp only [nbk, bchk, h, hc, if_true]
theorem nbk_end_no (h : cd x = 11 ∨ cd x = 5) (hc : ¬ ∃ s', tksS st res = some s' ∧ s'.1 = []) : nbk cd rr pl (x :: r) labs res st base = none := by
 simp only [nbk, bchk, h, if_true]; rw [if_neg hc]
theorem nbk_plain (h1 : ¬ (cd x = 11 ∨ cd x = 5)) (h2 : ¬ opensC (cd x)) : nbk cd rr pl (x :: r) labs res st base = (pl x st labs).bind fun s1 => (nbk cd rr pl r labs res s1 base).map fun p => ((base + st.1.length) :: p.1, p.2) := by
 simp only [nbk, bchk, h1, h2, if_false, List.length_cons]
theorem nbk_open (h1 : ¬ (cd x = 11 ∨ cd x = 5)) (h2 : opensC (cd x)) : nbk cd rr pl (x :: r) labs res st base =
    (if cd x = 4 then tksS st [127] else some st).bind fun s1 =>
      (nbk cd rr pl r (labs ++ [if cd x = 3 then [] else rr x]) (rr x) ([], False) (base + s1.1.length)).bind fun p =>
      match p.2 with
      | [] => none
      | x2 :: r2 =>
        if cd x2 = 5 then
          (nbk cd rr pl r2 (labs ++ [if cd x = 3 then [] else rr x]) (rr x) ([], False) (base + s1.1.length)).bind fun p2 =>
          match p2.2 with
          | [] => none
          | _ :: r3 => (nbk cd rr pl r3 labs res (giveS s1 (rr x)) base).map fun p3 => ((base + st.1.length) :: p.1 ++ p2.1 ++ p3.1, p3.2)
        else if cd x = 4 ∧ rr x ≠ [] then none
        else (nbk cd rr pl r2 labs res (giveS s1 (rr x)) base).map fun p3 => ((base + st.1.length) :: p.1 ++ p3.1, p3.2) := by
  simp only [nbk, bchk, h1, h2, if_false, if_true, List.length_cons]
  refine Option.bind_congr fun s1 _ => Option.bind_congr fun p hp => ?_
  obtain ⟨hs1, l1⟩ := p
  have e1 := suf_len (bchk_suf cd rr pl _ _ _ _ _ _ _ _ hp)
  cases l1 with
  | nil => rfl
  | cons x2 r2 =>
    simp only [List.length_cons] at e1
    simp only
    split
    · rw [bchk_fuel cd rr pl (r.length + 1) (r2.length + 1) r2 _ _ _ _ (by omega) (by omega)]
      refine Option.bind_congr fun p hp => ?_
      obtain ⟨hs2, l2⟩ := p
      have e2 := suf_len (bchk_suf cd rr pl _ _ _ _ _ _ _ _ hp)
      cases l2 with
      | nil => rfl
      | cons x3 r3 =>
        simp only [List.length_cons] at e2
        simp only
        rw [bchk_fuel cd rr pl (r.length + 1) (r3.length + 1) r3 _ _ _ _ (by omega) (by omega)]
    split
    · rfl
    · rw [bchk_fuel cd rr pl (r.length + 1) (r2.length + 1) r2 _ _ _ _ (by omega) (by omega)]
theorem bchk_rest : ∀ (f : Nat) (s : List ι) (d : Nat) (labs : List (List UInt8)) (res : List UInt8) (st : Stk) (base : Nat) (hs : List Nat) (rest : List ι) (rest0 : List Int), s.length < f → rblk f (s.map cd) d = some rest0 → bchk cd rr pl f s labs res st base = some (hs, rest) → rest.map cd = rest0 := by
 intro f
 induction f with
 | zero => intro s d _ _ _ _ _ _ _ h; omega
 | succ f ih =>
  intro s d labs res st base hs rest rest0 h hr hb
  cases s with
  | nil => simp only [bchk, Option.some.injEq, Prod.mk.injEq] at hb; simp [rblk] at hr; rw [hr, ← hb.2]; rfl
  | cons x r =>
   simp only [List.length_cons] at h
   simp only [List.map_cons, rblk] at hr
   simp only [bchk] at hb
   by_cases h1 : cd x = 11 ∨ cd x = 5
   · simp only [h1, if_true, Option.some.injEq] at hr hb
     split at hb
     · cases hb; rw [← hr]; rfl
     · cases hb
   by_cases h2 : opensC (cd x)
   · simp only [h1, if_false, h2, if_true] at hr hb
     by_cases h3 : 64 ≤ d
     · simp [h3] at hr
     simp only [h3, if_false] at hr
     obtain ⟨s1, _, hb⟩ := Option.bind_eq_some_iff.1 hb
     obtain ⟨⟨hs1, l1⟩, hb1, hb⟩ := Option.bind_eq_some_iff.1 hb
     cases hr1 : rblk f (r.map cd) (d + 1) with
     | none => simp [hr1] at hr
     | some rest1 =>
      simp only [hr1] at hr
      have e1 := ih r (d + 1) _ _ _ _ _ _ _ (by omega) hr1 hb1
      have l1s := suf_len (bchk_suf cd rr pl _ _ _ _ _ _ _ _ hb1)
      subst e1
      cases l1 with
      | nil => cases hb
      | cons x2 r2 =>
       simp only [List.length_cons] at l1s
       simp only [List.map_cons] at hr
       simp only at hb
       by_cases h5 : cd x2 = 5
       · simp only [h5, if_true] at hr hb
         by_cases h4 : cd x = 4
         · simp only [h4, if_true] at hr
           obtain ⟨⟨hs2, l2⟩, hb2, hb⟩ := Option.bind_eq_some_iff.1 hb
           cases hr2 : rblk f (r2.map cd) (d + 1) with
           | none => simp [hr2] at hr
           | some rest2 =>
            simp only [hr2] at hr
            have e2 := ih r2 (d + 1) _ _ _ _ _ _ _ (by omega) hr2 hb2
            have l2s := suf_len (bchk_suf cd rr pl _ _ _ _ _ _ _ _ hb2)
            subst e2
            cases l2 with
            | nil => cases hb
            | cons x3 r3 =>
             simp only [List.length_cons] at l2s
             simp only [List.map_cons] at hr
             simp only at hb
             split at hr
             · cases hr
             · obtain ⟨⟨hs3, l3⟩, hb3, hb⟩ := Option.map_eq_some_iff.1 hb
               cases hb
               exact ih r3 d _ _ _ _ _ _ _ (by omega) hr hb3
         · simp [h4] at hr
       · simp only [h5, if_false] at hr hb
         split at hb
         · cases hb
         · obtain ⟨⟨hs3, l3⟩, hb3, hb⟩ := Option.map_eq_some_iff.1 hb
           cases hb
           exact ih r2 d _ _ _ _ _ _ _ (by omega) hr hb3
   · simp only [h1, if_false, h2] at hr hb
     obtain ⟨s1, _, hb⟩ := Option.bind_eq_some_iff.1 hb
     obtain ⟨⟨hs1, l1⟩, hb1, hb⟩ := Option.map_eq_some_iff.1 hb
     cases hb
     exact ih r d _ _ _ _ _ _ _ (by omega) hr hb1
theorem okBl_plain (h : okBl cd (x :: r) d) (h1 : ¬ (cd x = 11 ∨ cd x = 5)) (h2 : ¬ opensC (cd x)) : okBl cd r d := by
 obtain ⟨rest0, h3, h4⟩ := h
 simp only [List.length_cons, List.map_cons, rblk, h1, h2, if_false] at h3
 exact ⟨rest0, h3, h4⟩
theorem okBl_in (h : okBl cd (x :: r) d) (h2 : opensC (cd x)) : okBl cd r (d + 1) ∧ ¬ 64 ≤ d := by
 obtain ⟨rest0, h3, h4⟩ := h
 have h1 : ¬ (cd x = 11 ∨ cd x = 5) := by unfold opensC at h2; omega
 simp only [List.length_cons, List.map_cons, rblk, h1, h2, if_false, if_true] at h3
 split at h3
 · cases h3
 · rename_i h5
   split at h3
   · cases h3
   · cases h3
   · rename_i c2 r2 h6
     exact ⟨⟨_, h6, by simp⟩, h5⟩
theorem okBl_ne {labs' : List (List UInt8)} {hs : List Nat} {l : List ι} (h : okBl cd r d) (hb : nbk cd rr pl r labs res st base = some (hs, l)) : ∃ x2 r2, l = x2 :: r2 ∧ (x2 :: r2) <:+ r := by
 obtain ⟨rest0, h3, h4⟩ := h
 have e := bchk_rest _ _ _ _ _ _ _ _ _ _ (by omega) h3 hb
 have e2 := bchk_suf cd rr pl _ _ _ _ _ _ _ _ hb
 cases l with
 | nil => exact absurd e.symm h4
 | cons x2 r2 => exact ⟨x2, r2, rfl, e2⟩
theorem okBl_after {hs1 : List Nat} {x2 : ι} {r2 : List ι} (h : okBl cd (x :: r) d) (h2 : opensC (cd x)) (hb : nbk cd rr pl r labs res st base = some (hs1, x2 :: r2)) :
    (cd x2 = 11 ∧ okBl cd r2 d) ∨ (cd x2 = 5 ∧ cd x = 4 ∧ okBl cd r2 (d + 1) ∧ ∀ labs' res' st' base' hs2 l2, nbk cd rr pl r2 labs' res' st' base' = some (hs2, l2) → ∃ x3 r3, l2 = x3 :: r3 ∧ cd x3 = 11 ∧ (x3 :: r3) <:+ r2 ∧ okBl cd r3 d) := by
  obtain ⟨rest0, h3, h4⟩ := h
  have h1 : ¬ (cd x = 11 ∨ cd x = 5) := by unfold opensC at h2; omega
  simp only [List.length_cons, List.map_cons, rblk, h1, h2, if_false, if_true] at h3
  split at h3
  · cases h3
  · rename_i h5
    have hd : d + 1 ≤ 64 := by omega
    cases hr1 : rblk (r.length + 1) (r.map cd) (d + 1) with
    | none => simp [hr1] at h3
    | some rest1 =>
      simp only [hr1] at h3
      have e := bchk_rest _ _ _ _ _ _ _ _ _ _ (by omega) hr1 hb
      have e2 := suf_len (bchk_suf cd rr pl _ _ _ _ _ _ _ _ hb)
      have k1 := ((rblk_spec (r.length + 1) (r.map cd) (d + 1) (by simp) hd).2 _ hr1).2.1
      subst e
      simp only [List.length_cons] at e2
      simp only [List.map_cons] at h3 k1
      rcases k1 _ _ rfl with e5 | e5
      · refine .inl ⟨e5, ?_⟩
        simp only [e5, show ¬ ((11 : Int) = 5) by decide, if_false] at h3
        exact ⟨rest0, by rw [← h3]; exact rblk_fuel _ _ _ _ (by simp) (by simp; omega), h4⟩
      · simp only [e5, if_true] at h3
        split at h3
        · rename_i e4
          refine .inr ⟨e5, e4, ?_⟩
          cases hr2 : rblk (r.length + 1) (r2.map cd) (d + 1) with
          | none => simp [hr2] at h3
          | some rest2 =>
            simp only [hr2] at h3
            have hr2' : rblk (r2.length + 1) (r2.map cd) (d + 1) = some rest2 := by rw [← hr2]; exact rblk_fuel _ _ _ _ (by simp) (by simp; omega)
            have hne : rest2 ≠ [] := by intro e; subst e; cases h3
            refine ⟨⟨rest2, hr2', hne⟩, fun labs' res' st' base' hs2 l2 hb2 => ?_⟩
            have e7 := bchk_rest _ _ _ _ _ _ _ _ _ _ (by omega) hr2' hb2
            have e8 := bchk_suf cd rr pl _ _ _ _ _ _ _ _ hb2
            have k2 := ((rblk_spec (r2.length + 1) (r2.map cd) (d + 1) (by simp) hd).2 _ hr2').2.1
            subst e7
            cases l2 with
            | nil => exact absurd rfl hne
            | cons x3 r3 =>
              have e9 := suf_len e8
              simp only [List.length_cons] at e9
              simp only [List.map_cons] at h3 k2
              split at h3
              · cases h3
              · rename_i hn5
                refine ⟨x3, r3, rfl, (k2 _ _ rfl).resolve_right hn5, e8, ⟨rest0, ?_, h4⟩⟩
                rw [← h3]; exact rblk_fuel _ _ _ _ (by simp) (by simp; omega)
        · cases h3
end
end Go.Hl
end
section
namespace Go.Hl
open Go.RowKit
def codesL (l : List InstrD) : List Int := l.map (·.Code)
def rc (s : List Int) (d : Nat) : Option (List Int) := rblk (s.length + 1) s d
theorem rc_end {c : Int} {r : List Int} {d : Nat} (h : c = 11 ∨ c = 5) : rc (c :: r) d = some (c :: r) := by simp only [rc, List.length_cons, rblk, h, if_true]
theorem rc_plain {c : Int} {r : List Int} {d : Nat} (h : ¬ (c = 11 ∨ c = 5)) (h2 : ¬ opensC c) : rc (c :: r) d = rc r d := by simp only [rc, List.length_cons, rblk, h, h2, if_false]
theorem rc_deep {c : Int} {r : List Int} {d : Nat} (h2 : opensC c) (h3 : 64 ≤ d) : rc (c :: r) d = none := by
 have h : ¬ (c = 11 ∨ c = 5) := by unfold opensC at h2; omega
 simp only [rc, List.length_cons, rblk, h, h2, h3, if_false, if_true]
theorem rc_open {c : Int} {r : List Int} {d : Nat} (h2 : opensC c) (h3 : ¬ 64 ≤ d) : rc (c :: r) d = match rc r (d + 1) with
    | none => none
    | some [] => none
    | some (c2 :: r2) => if c2 = 5 then (if c = 4 then (match rc r2 (d + 1) with | none => none | some [] => none | some (c3 :: r3) => if c3 = 5 then none else rc r3 d) else none) else rc r2 d := by
  have h : ¬ (c = 11 ∨ c = 5) := by unfold opensC at h2; omega
  simp only [rc, List.length_cons, rblk, h, h2, h3, if_false, if_true]
  cases hr : rblk (r.length + 1) r (d + 1) with
  | none => rfl
  | some s =>
    cases s with
    | nil => rfl
    | cons c2 r2 =>
      have e1 := suf_len (rblk_suf _ _ _ _ hr)
      simp only [List.length_cons] at e1
      simp only
      rw [rblk_fuel (r.length + 1) (r2.length + 1) r2 (d + 1) (by omega) (by omega), rblk_fuel (r.length + 1) (r2.length + 1) r2 d (by omega) (by omega)]
      split
      · split
        · cases hr2 : rblk (r2.length + 1) r2 (d + 1) with
          | none => rfl
          | some s2 =>
            cases s2 with
            | nil => rfl
            | cons c3 r3 =>
              have e2 := suf_len (rblk_suf _ _ _ _ hr2)
              simp only [List.length_cons] at e2
              simp only
              rw [rblk_fuel (r.length + 1) (r3.length + 1) r3 d (by omega) (by omega)]
        · rfl
      · rfl
theorem rc_head {s r : List Int} {c : Int} {d : Nat} (hd : d ≤ 64) (h : rc s d = some (c :: r)) : c = 11 ∨ c = 5 := ((rblk_spec (s.length + 1) s d (by omega) hd).2 _ h).2.1 c r rfl
theorem codes_len (l : List InstrD) : (codesL l).length = l.length := by simp [codesL]
theorem codes_at {l : List InstrD} {i : Nat} {x : InstrD} (h : l[i]? = some x) : (codesL l).drop i = x.Code :: (codesL l).drop (i + 1) := by
 refine drop_at ?_
 rw [codesL, List.getElem?_map, h]; rfl
theorem codes_end {l : List InstrD} {i : Nat} (h : l.length ≤ i) : (codesL l).drop i = [] := List.drop_eq_nil_of_le (by rw [codes_len]; exact h)
def rcP (l : List InstrD) (a d : Nat) (en : Int) (sp : List SpD) (e : Int) : Prop :=
 (e = 0 ∧ ∃ n : Nat, en = (n : Int) ∧ rc ((codesL l).drop a) d = some ((codesL l).drop n) ∧ a ≤ n ∧ n ≤ l.length ∧ sp.length + a ≤ n) ∨ (e ≠ 0 ∧ rc ((codesL l).drop a) d = none ∧ sp = [])
theorem rcP_len {l : List InstrD} {a d : Nat} {en : Int} {sp : List SpD} {e : Int} (h : rcP l a d en sp e) : sp.length ≤ l.length := by
 rcases h with ⟨_, n, _, _, _, h5, h6⟩ | ⟨_, _, h⟩
 · omega
 · rw [h]; simp
def rcM (l : List InstrD) (i d : Nat) (en : Int) (sp : List SpD) (e : Int) : Prop :=
 (e ≠ 0 ∧ rc ((codesL l).drop i) d = none ∧ sp.length ≤ 20000) ∨ (e = 0 ∧ en = (l.length : Int) ∧ rc ((codesL l).drop i) d = none ∧ sp.length ≤ 20000) ∨
 (e = 0 ∧ ∃ n : Nat, en = (n : Int) ∧ n < l.length ∧ rc ((codesL l).drop i) d = rc ((codesL l).drop (n + 1)) d ∧ i + 1 ≤ n ∧ sp.length + i + 1 ≤ n)
theorem OLe.none {α : Type} {n : Nat} {enc : α → List VP} {r : List HP} : OLe r (sliceH none n enc ([] : List α) :: r) := fun F S w h => ⟨fun _ => False, F, fun _ h => h.elim, fun _ h => h, rfl, h⟩
section
variable {l : List InstrD} {i d : Nat} {x : InstrD}
theorem rc_else_no (hx : l[i]? = some x) (ho : opensC x.Code) (hd : ¬ 64 ≤ d) {n : Nat} {y : InstrD} (hr : rc ((codesL l).drop (i + 1)) (d + 1) = some ((codesL l).drop n)) (hy : l[n]? = some y) (h5 : y.Code = 5) (h4 : x.Code ≠ 4) : rc ((codesL l).drop i) d = none := by
 rw [codes_at hx, rc_open ho hd, hr, codes_at hy]
 simp only [h5, if_true, h4, if_false]
theorem rc_two {n : Nat} {y : InstrD} (hx : l[i]? = some x) (ho : opensC x.Code) (hd : ¬ 64 ≤ d) (hr : rc ((codesL l).drop (i + 1)) (d + 1) = some ((codesL l).drop n)) (hy : l[n]? = some y) (h5 : y.Code = 5) (h4 : x.Code = 4) :
    rc ((codesL l).drop i) d = match rc ((codesL l).drop (n + 1)) (d + 1) with | none => none | some [] => none | some (c3 :: r3) => if c3 = 5 then none else rc r3 d := by
  rw [codes_at hx, rc_open ho hd, hr, codes_at hy]
  simp only [h5, if_true, h4]
theorem rc_one {n : Nat} {y : InstrD} (hx : l[i]? = some x) (ho : opensC x.Code) (hd : ¬ 64 ≤ d) (hr : rc ((codesL l).drop (i + 1)) (d + 1) = some ((codesL l).drop n)) (hy : l[n]? = some y) (h5 : y.Code ≠ 5) :
    rc ((codesL l).drop i) d = rc ((codesL l).drop (n + 1)) d := by
  rw [codes_at hx, rc_open ho hd, hr, codes_at hy]
  simp only [h5, if_false]
theorem rc_none (hx : l[i]? = some x) (ho : opensC x.Code) (hd : ¬ 64 ≤ d) (hr : rc ((codesL l).drop (i + 1)) (d + 1) = none) : rc ((codesL l).drop i) d = none := by
 rw [codes_at hx, rc_open ho hd, hr]
theorem rc_short (hx : l[i]? = some x) (ho : opensC x.Code) (hd : ¬ 64 ≤ d) {n : Nat} (hn : l.length ≤ n) (hr : rc ((codesL l).drop (i + 1)) (d + 1) = some ((codesL l).drop n)) : rc ((codesL l).drop i) d = none := by
 rw [codes_at hx, rc_open ho hd, hr, codes_end hn]
theorem rcM_one (hx : l[i]? = some x) (ho : opensC x.Code) (hd : ¬ 64 ≤ d) {en e : Int} {sp : List SpD} (h : rcP l (i + 1) (d + 1) en sp e) (hll : l.length ≤ 10000) (hn : ¬ ((e = 0 ∧ en < (l.length : Int)) ∧ (gI l en.toNat).Code = 5)) : rcM l i d en sp e := by
 rcases h with ⟨h1, n, h2, h3, h4, h5, h6⟩ | ⟨h1, h2, h3⟩
 · by_cases hlt : n < l.length
   · refine .inr (.inr ⟨h1, n, h2, hlt, ?_, h4, by omega⟩)
     have hy : l[n]? = some (gI l n) := gI_in hlt
     exact rc_one hx ho hd h3 hy (fun h9 => hn ⟨⟨h1, by omega⟩, by rw [h2]; simpa using h9⟩)
   · exact .inr (.inl ⟨h1, by omega, rc_short hx ho hd (by omega) h3, by omega⟩)
 · exact .inl ⟨h1, rc_none hx ho hd h2, by rw [h3]; simp⟩
theorem rcM_two (hx : l[i]? = some x) (ho : opensC x.Code) (hd : ¬ 64 ≤ d) (hd64 : d ≤ 64) {en e en2 e2 : Int} {sp sp2 : List SpD} (h : rcP l (i + 1) (d + 1) en sp e) (hll : l.length ≤ 10000) (hn : (e = 0 ∧ en < (l.length : Int)) ∧ (gI l en.toNat).Code = 5) (h4 : x.Code = 4) (h' : rcP l (en.toNat + 1) (d + 1) en2 sp2 e2) :
    (((e2 = 0 ∧ en2 < (l.length : Int)) ∧ (gI l en2.toNat).Code = 5) → rc ((codesL l).drop i) d = none) ∧ (¬ ((e2 = 0 ∧ en2 < (l.length : Int)) ∧ (gI l en2.toNat).Code = 5) → rcM l i d en2 (sp ++ sp2) e2) := by
  rcases h with ⟨_, n, h2, h3, h4', h5, h6⟩ | ⟨h1, h2, h3⟩
  · obtain ⟨⟨h1, h1'⟩, h55⟩ := hn
    have hlt : n < l.length := by omega
    have hen : en.toNat = n := by omega
    rw [hen] at h55 h'
    have hy : l[n]? = some (gI l n) := gI_in hlt
    have hk := rc_two hx ho hd h3 hy h55 h4
    rw [hk]
    rcases h' with ⟨k1, n2, k2, k3, k4, k5, k6⟩ | ⟨k1, k2, k3⟩
    · by_cases hlt2 : n2 < l.length
      · have hy2 : l[n2]? = some (gI l n2) := gI_in hlt2
        have hn2 : en2.toNat = n2 := by omega
        rw [k3, codes_at hy2]
        simp only
        refine ⟨fun h9 => ?_, fun h9 => ?_⟩
        · rw [if_pos (by rw [hn2] at h9; exact h9.2)]
        · refine .inr (.inr ⟨k1, n2, k2, hlt2, ?_, by omega, by rw [List.length_append]; omega⟩)
          rw [hk, k3, codes_at hy2]
          simp only
          rw [if_neg (fun h8 => h9 ⟨⟨k1, by omega⟩, by rw [hn2]; exact h8⟩)]
      · have he := codes_end (l := l) (i := n2) (by omega)
        rw [k3, he]
        refine ⟨fun _ => rfl, fun _ => .inr (.inl ⟨k1, by omega, by rw [hk, k3, he], by rw [List.length_append]; omega⟩)⟩
    · rw [k2]
      exact ⟨fun _ => rfl, fun _ => .inl ⟨k1, by rw [hk, k2], by rw [List.length_append, k3]; simp; omega⟩⟩
  · exact absurd hn.1.1 h1
end
theorem nrun_rc (l : List InstrD) : nrun (codesL l) [] ↔ rc (codesL l) 0 = some [11] := nrun_rblk (by omega)
end Go.Hl
namespace Go.Hl
theorem tmod128 (v : Int) : v.tmod 128 = if 0 ≤ v then v % 128 else -((-v) % 128) := by
 split
 · rename_i h; exact Int.tmod_eq_emod_of_nonneg h
 · rename_i h
   have h1 : v.tmod 128 = -((-v).tmod 128) := by rw [Int.neg_tmod]; omega
   rw [h1, Int.tmod_eq_emod_of_nonneg (by omega)]
theorem tdiv128 {v : Int} (h1 : -9223372036854775680 ≤ v) (h2 : v ≤ 9223372036854775807) : IntKind.i64.wrap ((IntKind.i64.wrap (v - v % 128)).tdiv 128) = v / 128 := by
 have hw : IntKind.i64.wrap (v - v % 128) = 128 * (v / 128) := by rw [wrap_fits (fits_i64 (by omega) (by omega))]; omega
 rw [hw, Int.mul_tdiv_cancel_left _ (by decide)]; exact wrap_fits (fits_i64 (by omega) (by omega))
theorem lenS_stop {v : Int} (h : (v / 128 = 0 ∧ v % 128 < 64) ∨ (v / 128 = -1 ∧ 64 ≤ v % 128)) : lenS v = 1 := lenS_in (by omega)
theorem lenS_go {v : Int} (h : ¬ ((v / 128 = 0 ∧ v % 128 < 64) ∨ (v / 128 = -1 ∧ 64 ≤ v % 128))) : lenS v = lenS (v / 128) + 1 := lenS_out (by omega)
theorem runs_lead (t : UInt8) : ∀ (n : Nat) (l : List UInt8), 0 < n → n ≤ l.length → (∀ j, j < n → l[j]? = some t) → l[n]? ≠ some t → runsB l = n :: runsB (l.drop n) := by
 intro n
 induction n with
 | zero => intro l h; omega
 | succ n ih =>
  intro l _ hl ha hn
  cases l with
  | nil => simp at hl
  | cons a l =>
   have h0 := ha 0 (by omega)
   simp only [List.getElem?_cons_zero, Option.some.injEq] at h0
   subst h0
   simp only [List.drop_succ_cons]
   by_cases h : n = 0
   · subst h
     simp only [List.drop_zero]
     cases l with
     | nil => rfl
     | cons b r =>
      have hb : b ≠ a := fun e => hn (by simp [e])
      obtain ⟨k, s, hk⟩ := runsB_ne b r
      have e : runsB (a :: b :: r) = match runsB (b :: r) with | n :: r => if b = a then (n + 1) :: r else 1 :: n :: r | _ => [1] := by rw [runsB.eq_def]; simp only; split <;> simp_all
      rw [e, hk]
      simp only
      rw [if_neg hb]
   · have i1 := ih l (by omega) (by simp at hl; omega) (fun j hj => by have := ha (j + 1) (by omega); simpa using this) (fun e => hn (by simpa using e))
     cases l with
     | nil => simp at hl; omega
     | cons b r =>
      have hb : b = a := by have := ha 1 (by omega); simpa using this
      have e : runsB (a :: b :: r) = match runsB (b :: r) with | n :: r => if b = a then (n + 1) :: r else 1 :: n :: r | _ => [1] := by rw [runsB.eq_def]; simp only; split <;> simp_all
      rw [e, i1]
      simp only
      rw [if_pos hb]
def sumN_ (p : List Nat) : Nat := (p.map fun n => lenU n + 1).sum
theorem sumN_snoc (p : List Nat) (n : Nat) : sumN_ (p ++ [n]) = sumN_ p + (lenU n + 1) := by simp [sumN_]
theorem sumN_le_ : ∀ (p : List Nat), (∀ n ∈ p, n ≤ 1000000) → sumN_ p ≤ 11 * p.length
 | [], _ => by simp [sumN_]
 | n :: p, h => by
  have h1 := sumN_le_ p (fun q hq => h q (List.mem_cons_of_mem _ hq))
  have h2 := h n (List.mem_cons_self ..)
  have h3 : lenU n ≤ 10 := lenU_64 (by omega)
  simp only [sumN_, List.map_cons, List.sum_cons, List.length_cons] at h1 ⊢
  omega
theorem lenB_doc (b : BodyD) : lenB b = lenU (runsB b.Locals).length + sumN_ (runsB b.Locals) + sumI b.L := rfl
theorem runsB_nil : runsB [] = [] := rfl
end Go.Hl
namespace Go.Hl
theorem u8_126 {t : UInt8} : (t.toNat : Int) = 126 ↔ t = 126 := by rw [← UInt8.toNat_inj]; simp; omega
theorem u8_127 {t : UInt8} : (t.toNat : Int) = 127 ↔ t = 127 := by rw [← UInt8.toNat_inj]; simp; omega
def gU (l : List UInt8) (j : Nat) : UInt8 := l.getD j 0
theorem gU_in {l : List UInt8} {j : Nat} (h : j < l.length) : l[j]? = some (gU l j) := by unfold gU; rw [List.getD_eq_getElem?_getD, List.getElem?_eq_getElem h]; rfl
theorem lead_at {l : List UInt8} {k k2 : Nat} {t : UInt8} (hk : k < k2) (h2 : k2 ≤ l.length) (ha : ∀ j, j < k2 - k → (l.drop k)[j]? = some t) (hn : ¬ ((k2 : Int) < (l.length : Int) ∧ ((gU l k2).toNat : Int) = (t.toNat : Int))) : runsB (l.drop k) = (k2 - k) :: runsB (l.drop k2) := by
 have h9 := runs_lead t (k2 - k) (l.drop k) (by omega) (by rw [List.length_drop]; omega) ha (fun e => by
  rw [List.getElem?_drop, show k + (k2 - k) = k2 by omega] at e
  have hl := (List.getElem?_eq_some_iff.1 e).1
  rw [gU_in hl] at e
  exact hn ⟨by omega, by rw [Option.some.inj e]⟩)
 rw [List.drop_drop, show k + (k2 - k) = k2 by omega] at h9
 exact h9
theorem lead_pos {l : List UInt8} {k k2 : Nat} {t : UInt8} (hk : k ≤ k2) (ht : l[k]? = some t) (hn : ¬ ((k2 : Int) < (l.length : Int) ∧ ((gU l k2).toNat : Int) = (t.toNat : Int))) : k < k2 := by
 rcases Nat.lt_or_ge k k2 with h | h
 · exact h
 · have he : k2 = k := by omega
   subst he
   have hl := (List.getElem?_eq_some_iff.1 ht).1
   rw [gU_in hl] at ht
   exact absurd ⟨by omega, by rw [Option.some.inj ht]⟩ hn
end Go.Hl
end
section
namespace Go.Hl
open Go.RowKit
def encStk (s : Stk) (base : Int) : List VP := [sliceV 1 encU8 s.1, propV s.2, intV .i64 base]
instance (s : Stk) (base : Int) : FlatL (encStk s base) := ⟨fun q h => by simp only [encStk, List.mem_cons, List.not_mem_nil, or_false] at h; rcases h with h | h | h <;> subst h <;> infer_instance⟩
def encPr (p : Prop) : List VP := [propV p]
instance : Enc 1 encPr := ⟨fun _ => rfl, fun x q h => by simp only [encPr, List.mem_cons, List.not_mem_nil, or_false] at h; subst h; infer_instance⟩
def encEnv (v : EnvD) : List VP := [sliceV 2 encSig v.Funcs, sliceV 2 encSig v.Sigs, sliceV 1 encPr v.Wide, sliceV 1 encU8 v.Globals, sliceV 1 encPr v.Mutable, propV v.Table, sliceV 1 encU8 v.Own.P, sliceV 1 encU8 v.Own.R, sliceV 1 encU8 v.Locals]
instance (v : EnvD) : FlatL (encEnv v) := ⟨fun q h => by simp only [encEnv, List.mem_cons, List.not_mem_nil, or_false] at h; rcases h with h | h | h | h | h | h | h | h | h <;> subst h <;> infer_instance⟩
instance {cs : List VP} {q : VP} {n : Nat} [h : FlatL cs] [h2 : Flat q] : FlatL (cs.set n q) := ⟨fun p hp => (List.mem_or_eq_of_mem_set hp).elim (h.flat p) (fun e => e ▸ h2)⟩
def plR (o : Option Stk) (g : Stk × Int) : Prop := (g.2 = 0 ∧ o = some g.1) ∨ (g.2 ≠ 0 ∧ o = none)
def tkP (s : Stk) (l : List UInt8) (g : Stk × Int) : Prop := plR (tksS s l) g ∧ g.1.1.length ≤ s.1.length
def tk1P (s : Stk) (w : UInt8) (g : Stk × UInt8 × Int) : Prop := ((g.2.2 = 0 ∧ tk1S s w = some (g.1, g.2.1)) ∨ (g.2.2 ≠ 0 ∧ tk1S s w = none)) ∧ g.1.1.length ≤ s.1.length
variable {s : Stk} {g : Stk × Int} {l : List UInt8}
theorem tkP.ok (h : tkP s l g) (he : g.2 = 0) : tksS s l = some g.1 := h.1.elim (fun h => h.2) (fun h => absurd he h.1)
theorem tkP.no (h : tkP s l g) (he : g.2 ≠ 0) : tksS s l = none := h.1.elim (fun h => absurd h.1 he) (fun h => h.2)
variable {w : UInt8}
theorem tk1P.ok {g : Stk × UInt8 × Int} (h : tk1P s w g) (he : g.2.2 = 0) : tk1S s w = some (g.1, g.2.1) := h.1.elim (fun h => h.2) (fun h => absurd he h.1)
theorem tk1P.no {g : Stk × UInt8 × Int} (h : tk1P s w g) (he : g.2.2 ≠ 0) : tk1S s w = none := h.1.elim (fun h => absurd h.1 he) (fun h => h.2)
variable {i : List UInt8}
theorem tg_of {o : List UInt8} (h : tkP s i g) : plR (tgS s i o) (giveS g.1 o, g.2) := by
 unfold tgS
 rcases h.1 with ⟨h1, h2⟩ | ⟨h1, h2⟩
 · exact .inl ⟨h1, by rw [h2]; rfl⟩
 · exact .inr ⟨h1, by rw [h2]; rfl⟩
def plQ (s : Stk) (o : Option Stk) (g : Stk × Int) : Prop := plR o g ∧ g.1.1.length ≤ s.1.length + 20
theorem plQ_no {o : Option Stk} {t : Stk} {e : Int} (he : e ≠ 0) (h : o = none) (hl : t.1.length ≤ s.1.length + 20) : plQ s o (t, e) := ⟨.inr ⟨he, h⟩, hl⟩
theorem plQ_ok {o : Option Stk} {t : Stk} (h : o = some t) (hl : t.1.length ≤ s.1.length + 20) : plQ s o (t, 0) := ⟨.inl ⟨rfl, h⟩, hl⟩
theorem plQ_tg {o : List UInt8} {p : Option Stk} (hp : p = tgS s i o) (h : tkP s i g) (ho : o.length ≤ 20) : plQ s p (giveS g.1 o, g.2) :=
 ⟨by rw [hp]; exact tg_of h, by have := h.2; simp only [giveS, List.length_append]; omega⟩
theorem plQ_tk {p : Option Stk} (hp : p = tksS s i) (h : tkP s i g) : plQ s p g := ⟨by rw [hp]; exact h.1, by have := h.2; omega⟩
theorem tks_snoc2 (s : Stk) (l : List UInt8) (t : UInt8) : tksS s (l ++ [t]) = (tksS s [t]).bind fun p => tksS p l := by
 rw [tks_snoc, tks_one]; cases tk1S s t <;> rfl
theorem adrW_t {w : Prop} (h : w) : adrW w = 126 := if_pos h
theorem adrW_f {w : Prop} (h : ¬ w) : adrW w = 127 := if_neg h
theorem pw31 {k : Nat} (h : k ≤ 31) : (0 : Int) < 2 ^ k ∧ (2 : Int) ^ k ≤ 2147483648 := by
 have h1 : (2 : Int) ^ k = ((2 ^ k : Nat) : Int) := by norm_cast
 have h2 : 2 ^ k ≤ 2 ^ 31 := Nat.pow_le_pow_right (by decide) h
 have h3 : 0 < 2 ^ k := Nat.two_pow_pos k
 rw [h1]; omega
structure EnvOkD (v : EnvD) : Prop where
 F : v.Funcs.length ≤ 60000
 S : v.Sigs.length ≤ 60000
 L : v.Locals.length ≤ 60000
 G : v.Globals.length ≤ 60000
 W : v.Wide.length ≤ 60000
 mu : v.Mutable.length = v.Globals.length
 sf : ∀ g ∈ v.Funcs, g.P.length ≤ 20 ∧ g.R.length ≤ 20
 ss : ∀ g ∈ v.Sigs, g.P.length ≤ 20 ∧ g.R.length ≤ 20
 own : v.Own.R.length ≤ 20
structure PlOk (v : EnvD) (x : InstrD) (s : Stk) (labs : List (List UInt8)) : Prop where
 env : EnvOkD v
 ins : InsOk x
 stk : s.1.length ≤ 50000
 lbn : labs.length ≤ 60000
 lbw : ∀ w ∈ labs, w.length ≤ 20
variable {n : Int}
theorem getI_at {α : Type} {L : List α} (h0 : 0 ≤ n) (h : ¬ n ≥ (L.length : Int)) : ∃ w, getI L n = some w ∧ L[n.toNat]? = some w := getI_in h0 (by omega)
theorem labAt_at {L : List (List UInt8)} (h0 : 0 ≤ n) (h : ¬ n ≥ (L.length : Int)) : ∃ w, labAt L n = some w ∧ L[L.length - 1 - n.toNat]? = some w := labAt_in h0 (by omega)
theorem getI_no {α : Type} {L : List α} (h : n ≥ (L.length : Int)) : getI L n = none := getI_out (by omega)
theorem labAt_no {L : List (List UInt8)} (h : n ≥ (L.length : Int)) : labAt L n = none := labAt_out (by omega)
theorem tk1_bad {d : Prop} {g : UInt8} (h : (((g.toNat : Int) ≠ 0) ∧ ((w.toNat : Int) ≠ 0)) ∧ ((g.toNat : Int) ≠ (w.toNat : Int))) : tk1S (l ++ [g], d) w = none :=
 tk1_snoc_no fun e => by
  obtain ⟨⟨h1, h2⟩, h3⟩ := h
  rcases e with e | e | e
  · exact h3 (by rw [e])
  · exact h1 (by rw [e]; rfl)
  · exact h2 (by rw [e]; rfl)
theorem tk1_good {d : Prop} {g : UInt8} (h : ¬ ((((g.toNat : Int) ≠ 0) ∧ ((w.toNat : Int) ≠ 0)) ∧ ((g.toNat : Int) ≠ (w.toNat : Int)))) : tk1S (l ++ [g], d) w = some ((l, d), if g = 0 then w else g) := by
 refine tk1_snoc (Classical.byContradiction fun e => h ⟨⟨fun h1 => ?_, fun h1 => ?_⟩, fun h1 => ?_⟩)
 · exact e (.inr (.inl ((u8_zero g).1 h1)))
 · exact e (.inr (.inr ((u8_zero w).1 h1)))
 · exact e (.inl (u8_eq.1 h1))
end Go.Hl
end
section
namespace Go.Proofs.YtpahnbgfmhcndaaGreatDoor
open Go.Hl Go.RowKit
variable {code : Int}
theorem rname_spec : FnP Tryz.prog 93 [intV .i64 code] (strV (nameR code)) := by
 refine In 20 Tryz.func93 fun _ _ _ => ?_
 refine Z2 ?_
 refine .p (opAssign (.s [] rfl rfl)) rfl ?_
 refine Z15 ?_
 refine Cd (fun c0 => ?_) fun c0 => ?_
 ·
  refine Z2 ?_
  refine .p (opAssign (.s [109, 101, 109, 111, 114, 121, 46, 99, 111, 112, 121] rfl rfl)) rfl ?_
  refine Z5 ?_
  refine Rt1 ?_
  exact VLe.of_eq (by unfold nameR; rw [if_pos c0])
 refine Z6 ?_
 refine Cd (fun c1 => ?_) fun c1 => ?_
 ·
  refine Z2 ?_
  refine .p (opAssign (.s [109, 101, 109, 111, 114, 121, 46, 102, 105, 108, 108] rfl rfl)) rfl ?_
  refine Z5 ?_
  refine Rt1 ?_
  exact VLe.of_eq (by unfold nameR; rw [if_neg c0, if_pos c1])
 refine Z14 ?_
 refine Cd (fun c2 => ?_) fun c2 => ?_
 ·
  refine Z2 ?_
  refine .p (opAssign (.s [] rfl rfl)) rfl ?_
  refine Z4 ?_
  refine Rt1 ?_
  exact VLe.of_eq (by unfold nameR; rw [if_neg c0, if_neg c1, if_pos c2])
 refine Z4 ?_
 refine .p (opBuildSlice (enc := encStrD) namesT FU.out FC.out rfl FZ.out rfl (.cons (.s [117, 110, 114, 101, 97, 99, 104, 97, 98, 108, 101] rfl rfl) (.cons (.s [110, 111, 112] rfl rfl) (.cons (.s [98, 108, 111, 99, 107] rfl rfl) (.cons (.s [108, 111, 111, 112] rfl rfl) (.cons (.s [105, 102] rfl rfl) (.cons (.s [101, 108, 115, 101] rfl rfl) (.cons (.s [] rfl rfl) (.cons (.s [] rfl rfl) (.cons (.s [] rfl rfl) (.cons (.s [] rfl rfl) (.cons (.s [] rfl rfl) (.cons (.s [101, 110, 100] rfl rfl) (.cons (.s [98, 114] rfl rfl) (.cons (.s [98, 114, 95, 105, 102] rfl rfl) (.cons (.s [98, 114, 95, 116, 97, 98, 108, 101] rfl rfl) (.cons (.s [114, 101, 116, 117, 114, 110] rfl rfl) (.cons (.s [99, 97, 108, 108] rfl rfl) (.cons (.s [99, 97, 108, 108, 95, 105, 110, 100, 105, 114, 101, 99, 116] rfl rfl) (.cons (.s [] rfl rfl) (.cons (.s [] rfl rfl) (.cons (.s [] rfl rfl) (.cons (.s [] rfl rfl) (.cons (.s [] rfl rfl) (.cons (.s [] rfl rfl) (.cons (.s [] rfl rfl) (.cons (.s [] rfl rfl) (.cons (.s [100, 114, 111, 112] rfl rfl) (.cons (.s [115, 101, 108, 101, 99, 116] rfl rfl) (.cons (.s [] rfl rfl) (.cons (.s [] rfl rfl) (.cons (.s [] rfl rfl) (.cons (.s [] rfl rfl) (.cons (.s [108, 111, 99, 97, 108, 46, 103, 101, 116] rfl rfl) (.cons (.s [108, 111, 99, 97, 108, 46, 115, 101, 116] rfl rfl) (.cons (.s [108, 111, 99, 97, 108, 46, 116, 101, 101] rfl rfl) (.cons (.s [103, 108, 111, 98, 97, 108, 46, 103, 101, 116] rfl rfl) (.cons (.s [103, 108, 111, 98, 97, 108, 46, 115, 101, 116] rfl rfl) (.cons (.s [] rfl rfl) (.cons (.s [] rfl rfl) (.cons (.s [] rfl rfl) (.cons (.s [105, 51, 50, 46, 108, 111, 97, 100] rfl rfl) (.cons (.s [105, 54, 52, 46, 108, 111, 97, 100] rfl rfl) (.cons (.s [] rfl rfl) (.cons (.s [] rfl rfl) (.cons (.s [105, 51, 50, 46, 108, 111, 97, 100, 56, 95, 115] rfl rfl) (.cons (.s [105, 51, 50, 46, 108, 111, 97, 100, 56, 95, 117] rfl rfl) (.cons (.s [105, 51, 50, 46, 108, 111, 97, 100, 49, 54, 95, 115] rfl rfl) (.cons (.s [105, 51, 50, 46, 108, 111, 97, 100, 49, 54, 95, 117] rfl rfl) (.cons (.s [105, 54, 52, 46, 108, 111, 97, 100, 56, 95, 115] rfl rfl) (.cons (.s [105, 54, 52, 46, 108, 111, 97, 100, 56, 95, 117] rfl rfl) (.cons (.s [105, 54, 52, 46, 108, 111, 97, 100, 49, 54, 95, 115] rfl rfl) (.cons (.s [105, 54, 52, 46, 108, 111, 97, 100, 49, 54, 95, 117] rfl rfl) (.cons (.s [105, 54, 52, 46, 108, 111, 97, 100, 51, 50, 95, 115] rfl rfl) (.cons (.s [105, 54, 52, 46, 108, 111, 97, 100, 51, 50, 95, 117] rfl rfl) (.cons (.s [105, 51, 50, 46, 115, 116, 111, 114, 101] rfl rfl) (.cons (.s [105, 54, 52, 46, 115, 116, 111, 114, 101] rfl rfl) (.cons (.s [] rfl rfl) (.cons (.s [] rfl rfl) (.cons (.s [105, 51, 50, 46, 115, 116, 111, 114, 101, 56] rfl rfl) (.cons (.s [105, 51, 50, 46, 115, 116, 111, 114, 101, 49, 54] rfl rfl) (.cons (.s [105, 54, 52, 46, 115, 116, 111, 114, 101, 56] rfl rfl) (.cons (.s [105, 54, 52, 46, 115, 116, 111, 114, 101, 49, 54] rfl rfl) (.cons (.s [105, 54, 52, 46, 115, 116, 111, 114, 101, 51, 50] rfl rfl) (.cons (.s [109, 101, 109, 111, 114, 121, 46, 115, 105, 122, 101] rfl rfl) (.cons (.s [109, 101, 109, 111, 114, 121, 46, 103, 114, 111, 119] rfl rfl) (.cons (.s [105, 51, 50, 46, 99, 111, 110, 115, 116] rfl rfl) (.cons (.s [105, 54, 52, 46, 99, 111, 110, 115, 116] rfl rfl) (.cons (.s [] rfl rfl) (.cons (.s [] rfl rfl) (.cons (.s [105, 51, 50, 46, 101, 113, 122] rfl rfl) (.cons (.s [105, 51, 50, 46, 101, 113] rfl rfl) (.cons (.s [105, 51, 50, 46, 110, 101] rfl rfl) (.cons (.s [105, 51, 50, 46, 108, 116, 95, 115] rfl rfl) (.cons (.s [105, 51, 50, 46, 108, 116, 95, 117] rfl rfl) (.cons (.s [105, 51, 50, 46, 103, 116, 95, 115] rfl rfl) (.cons (.s [105, 51, 50, 46, 103, 116, 95, 117] rfl rfl) (.cons (.s [105, 51, 50, 46, 108, 101, 95, 115] rfl rfl) (.cons (.s [105, 51, 50, 46, 108, 101, 95, 117] rfl rfl) (.cons (.s [105, 51, 50, 46, 103, 101, 95, 115] rfl rfl) (.cons (.s [105, 51, 50, 46, 103, 101, 95, 117] rfl rfl) (.cons (.s [105, 54, 52, 46, 101, 113, 122] rfl rfl) (.cons (.s [105, 54, 52, 46, 101, 113] rfl rfl) (.cons (.s [105, 54, 52, 46, 110, 101] rfl rfl) (.cons (.s [105, 54, 52, 46, 108, 116, 95, 115] rfl rfl) (.cons (.s [105, 54, 52, 46, 108, 116, 95, 117] rfl rfl) (.cons (.s [105, 54, 52, 46, 103, 116, 95, 115] rfl rfl) (.cons (.s [105, 54, 52, 46, 103, 116, 95, 117] rfl rfl) (.cons (.s [105, 54, 52, 46, 108, 101, 95, 115] rfl rfl) (.cons (.s [105, 54, 52, 46, 108, 101, 95, 117] rfl rfl) (.cons (.s [105, 54, 52, 46, 103, 101, 95, 115] rfl rfl) (.cons (.s [105, 54, 52, 46, 103, 101, 95, 117] rfl rfl) (.cons (.s [] rfl rfl) (.cons (.s [] rfl rfl) (.cons (.s [] rfl rfl) (.cons (.s [] rfl rfl) (.cons (.s [] rfl rfl) (.cons (.s [] rfl rfl) (.cons (.s [] rfl rfl) (.cons (.s [] rfl rfl) (.cons (.s [] rfl rfl) (.cons (.s [] rfl rfl) (.cons (.s [] rfl rfl) (.cons (.s [] rfl rfl) (.cons (.s [105, 51, 50, 46, 99, 108, 122] rfl rfl) (.cons (.s [105, 51, 50, 46, 99, 116, 122] rfl rfl) (.cons (.s [105, 51, 50, 46, 112, 111, 112, 99, 110, 116] rfl rfl) (.cons (.s [105, 51, 50, 46, 97, 100, 100] rfl rfl) (.cons (.s [105, 51, 50, 46, 115, 117, 98] rfl rfl) (.cons (.s [105, 51, 50, 46, 109, 117, 108] rfl rfl) (.cons (.s [105, 51, 50, 46, 100, 105, 118, 95, 115] rfl rfl) (.cons (.s [105, 51, 50, 46, 100, 105, 118, 95, 117] rfl rfl) (.cons (.s [105, 51, 50, 46, 114, 101, 109, 95, 115] rfl rfl) (.cons (.s [105, 51, 50, 46, 114, 101, 109, 95, 117] rfl rfl) (.cons (.s [105, 51, 50, 46, 97, 110, 100] rfl rfl) (.cons (.s [105, 51, 50, 46, 111, 114] rfl rfl) (.cons (.s [105, 51, 50, 46, 120, 111, 114] rfl rfl) (.cons (.s [105, 51, 50, 46, 115, 104, 108] rfl rfl) (.cons (.s [105, 51, 50, 46, 115, 104, 114, 95, 115] rfl rfl) (.cons (.s [105, 51, 50, 46, 115, 104, 114, 95, 117] rfl rfl) (.cons (.s [105, 51, 50, 46, 114, 111, 116, 108] rfl rfl) (.cons (.s [105, 51, 50, 46, 114, 111, 116, 114] rfl rfl) (.cons (.s [105, 54, 52, 46, 99, 108, 122] rfl rfl) (.cons (.s [105, 54, 52, 46, 99, 116, 122] rfl rfl) (.cons (.s [105, 54, 52, 46, 112, 111, 112, 99, 110, 116] rfl rfl) (.cons (.s [105, 54, 52, 46, 97, 100, 100] rfl rfl) (.cons (.s [105, 54, 52, 46, 115, 117, 98] rfl rfl) (.cons (.s [105, 54, 52, 46, 109, 117, 108] rfl rfl) (.cons (.s [105, 54, 52, 46, 100, 105, 118, 95, 115] rfl rfl) (.cons (.s [105, 54, 52, 46, 100, 105, 118, 95, 117] rfl rfl) (.cons (.s [105, 54, 52, 46, 114, 101, 109, 95, 115] rfl rfl) (.cons (.s [105, 54, 52, 46, 114, 101, 109, 95, 117] rfl rfl) (.cons (.s [105, 54, 52, 46, 97, 110, 100] rfl rfl) (.cons (.s [105, 54, 52, 46, 111, 114] rfl rfl) (.cons (.s [105, 54, 52, 46, 120, 111, 114] rfl rfl) (.cons (.s [105, 54, 52, 46, 115, 104, 108] rfl rfl) (.cons (.s [105, 54, 52, 46, 115, 104, 114, 95, 115] rfl rfl) (.cons (.s [105, 54, 52, 46, 115, 104, 114, 95, 117] rfl rfl) (.cons (.s [105, 54, 52, 46, 114, 111, 116, 108] rfl rfl) (.cons (.s [105, 54, 52, 46, 114, 111, 116, 114] rfl rfl) (.cons (.s [] rfl rfl) (.cons (.s [] rfl rfl) (.cons (.s [] rfl rfl) (.cons (.s [] rfl rfl) (.cons (.s [] rfl rfl) (.cons (.s [] rfl rfl) (.cons (.s [] rfl rfl) (.cons (.s [] rfl rfl) (.cons (.s [] rfl rfl) (.cons (.s [] rfl rfl) (.cons (.s [] rfl rfl) (.cons (.s [] rfl rfl) (.cons (.s [] rfl rfl) (.cons (.s [] rfl rfl) (.cons (.s [] rfl rfl) (.cons (.s [] rfl rfl) (.cons (.s [] rfl rfl) (.cons (.s [] rfl rfl) (.cons (.s [] rfl rfl) (.cons (.s [] rfl rfl) (.cons (.s [] rfl rfl) (.cons (.s [] rfl rfl) (.cons (.s [] rfl rfl) (.cons (.s [] rfl rfl) (.cons (.s [] rfl rfl) (.cons (.s [] rfl rfl) (.cons (.s [] rfl rfl) (.cons (.s [] rfl rfl) (.cons (.s [105, 51, 50, 46, 119, 114, 97, 112, 95, 105, 54, 52] rfl rfl) (.cons (.s [] rfl rfl) (.cons (.s [] rfl rfl) (.cons (.s [] rfl rfl) (.cons (.s [] rfl rfl) (.cons (.s [105, 54, 52, 46, 101, 120, 116, 101, 110, 100, 95, 105, 51, 50, 95, 115] rfl rfl) (.cons (.s [105, 54, 52, 46, 101, 120, 116, 101, 110, 100, 95, 105, 51, 50, 95, 117] rfl rfl) (.cons (.s [] rfl rfl) (.cons (.s [] rfl rfl) (.cons (.s [] rfl rfl) (.cons (.s [] rfl rfl) (.cons (.s [] rfl rfl) (.cons (.s [] rfl rfl) (.cons (.s [] rfl rfl) (.cons (.s [] rfl rfl) (.cons (.s [] rfl rfl) (.cons (.s [] rfl rfl) (.cons (.s [] rfl rfl) (.cons (.s [] rfl rfl) (.cons (.s [] rfl rfl) (.cons (.s [] rfl rfl) (.cons (.s [] rfl rfl) (.cons (.s [] rfl rfl) (.cons (.s [] rfl rfl) (.cons (.s [] rfl rfl) (.cons (.s [105, 51, 50, 46, 101, 120, 116, 101, 110, 100, 56, 95, 115] rfl rfl) (.cons (.s [105, 51, 50, 46, 101, 120, 116, 101, 110, 100, 49, 54, 95, 115] rfl rfl) (.cons (.s [105, 54, 52, 46, 101, 120, 116, 101, 110, 100, 56, 95, 115] rfl rfl) (.cons (.s [105, 54, 52, 46, 101, 120, 116, 101, 110, 100, 49, 54, 95, 115] rfl rfl) (.cons (.s [105, 54, 52, 46, 101, 120, 116, 101, 110, 100, 51, 50, 95, 115] rfl rfl) .nil))))))))))))))))))))))))))))))))))))))))))))))))))))))))))))))))))))))))))))))))))))))))))))))))))))))))))))))))))))))))))))))))))))))))))))))))))))))))))))))))))))))))))))))))))))))))))))))))))))) rfl rfl rfl rfl rfl) rfl ?_
 refine Z7 ?_
 refine .p (cI _ (h := show namesT[code.toNat]? = some (namesT.getD code.toNat []) by rw [List.getD_eq_getElem?_getD, List.getElem?_eq_getElem (by rw [names_len]; omega)]; rfl)) rfl ?_
 refine Z5 ?_
 refine Rt1 ?_
 exact VLe.of_eq (by unfold nameR; rw [if_neg c0, if_neg c1, if_neg c2])
theorem rform_spec : FnP Tryz.prog 64 [intV .i64 code] (intV .i64 (formR code)) := by
 refine In 68 Tryz.func64 fun _ _ _ => ?_
 refine Z18 ?_
 refine Cd (fun c0 => ?_) fun c0 => ?_
 ·
  refine Z8 ?_
  refine Rt1 ?_
  exact VLe.int (by unfold formR; repeat (first | rfl | rw [if_pos (by assumption)] | rw [if_neg (by assumption)]))
 refine Z11 ?_
 refine Cd (fun c1 => ?_) fun c1 => ?_
 ·
  refine Z8 ?_
  refine Rt1 ?_
  exact VLe.int (by unfold formR; repeat (first | rfl | rw [if_pos (by assumption)] | rw [if_neg (by assumption)]))
 refine Z7 ?_
 refine Cd (fun c2 => ?_) fun c2 => ?_
 ·
  refine Z8 ?_
  refine Rt1 ?_
  exact VLe.int (by unfold formR; repeat (first | rfl | rw [if_pos (by assumption)] | rw [if_neg (by assumption)]))
 refine Z7 ?_
 refine Cd (fun c3 => ?_) fun c3 => ?_
 ·
  refine Z8 ?_
  refine Rt1 ?_
  exact VLe.int (by unfold formR; repeat (first | rfl | rw [if_pos (by assumption)] | rw [if_neg (by assumption)]))
 refine Z7 ?_
 refine Cd (fun c4 => ?_) fun c4 => ?_
 ·
  refine Z8 ?_
  refine Rt1 ?_
  exact VLe.int (by unfold formR; repeat (first | rfl | rw [if_pos (by assumption)] | rw [if_neg (by assumption)]))
 refine Z11 ?_
 refine Cd (fun c5 => ?_) fun c5 => ?_
 ·
  refine Z8 ?_
  refine Rt1 ?_
  exact VLe.int (by unfold formR; repeat (first | rfl | rw [if_pos (by assumption)] | rw [if_neg (by assumption)]))
 refine Z11 ?_
 refine Cd (fun c6 => ?_) fun c6 => ?_
 ·
  refine Z8 ?_
  refine Rt1 ?_
  exact VLe.int (by unfold formR; repeat (first | rfl | rw [if_pos (by assumption)] | rw [if_neg (by assumption)]))
 refine Z11 ?_
 refine Cd (fun c7 => ?_) fun c7 => ?_
 ·
  refine Z8 ?_
  refine Rt1 ?_
  exact VLe.int (by unfold formR; repeat (first | rfl | rw [if_pos (by assumption)] | rw [if_neg (by assumption)]))
 refine Z15 ?_
 refine Cd (fun c8 => ?_) fun c8 => ?_
 ·
  refine Z8 ?_
  refine Rt1 ?_
  exact VLe.int (by unfold formR; repeat (first | rfl | rw [if_pos (by assumption)] | rw [if_neg (by assumption)]))
 refine Z7 ?_
 refine Cd (fun c9 => ?_) fun c9 => ?_
 ·
  refine Z8 ?_
  refine Rt1 ?_
  exact VLe.int (by unfold formR; repeat (first | rfl | rw [if_pos (by assumption)] | rw [if_neg (by assumption)]))
 refine Z11 ?_
 refine Cd (fun c10 => ?_) fun c10 => ?_
 ·
  refine Z8 ?_
  refine Rt1 ?_
  exact VLe.int (by unfold formR; repeat (first | rfl | rw [if_pos (by assumption)] | rw [if_neg (by assumption)]))
 refine Z9 ?_
 refine Rt1 ?_
 exact VLe.int (by unfold formR; repeat (first | rfl | rw [if_pos (by assumption)] | rw [if_neg (by assumption)]))
theorem rtakes_spec : FnP Tryz.prog 132 [intV .i64 code] (tupV [sliceV 1 encU8 (takesR code).1, sliceV 1 encU8 (takesR code).2]) := by
 refine In 169 Tryz.func132 fun _ _ _ => ?_
 refine Z21 ?_
 refine Cd (fun c0 => ?_) fun c0 => ?_
 ·
  refine Z9 ?_
  refine Rt2 ?_ ?_
  · first | (refine VLe.trans (sliceV_nil 1 encU8) (VLe.of_eq ?_); unfold takesR; repeat (first | rfl | rw [if_pos (by assumption)] | rw [if_neg (by assumption)])) | (refine VLe.of_eq ?_; unfold takesR; repeat (first | rfl | rw [if_pos (by assumption)] | rw [if_neg (by assumption)]))
  first | (refine VLe.trans (sliceV_nil 1 encU8) (VLe.of_eq ?_); unfold takesR; repeat (first | rfl | rw [if_pos (by assumption)] | rw [if_neg (by assumption)])) | (refine VLe.of_eq ?_; unfold takesR; repeat (first | rfl | rw [if_pos (by assumption)] | rw [if_neg (by assumption)]))
 refine Z15 ?_
 refine Cd (fun c1 => ?_) fun c1 => ?_
 ·
  refine Z3 ?_
  refine .p (cB encU8 [127]) rfl ?_
  refine Z1 ?_
  refine .p (cB encU8 [127]) rfl ?_
  refine Z7 ?_
  refine Rt2 ?_ ?_
  · first | (refine VLe.trans (sliceV_nil 1 encU8) (VLe.of_eq ?_); unfold takesR; repeat (first | rfl | rw [if_pos (by assumption)] | rw [if_neg (by assumption)])) | (refine VLe.of_eq ?_; unfold takesR; repeat (first | rfl | rw [if_pos (by assumption)] | rw [if_neg (by assumption)]))
  first | (refine VLe.trans (sliceV_nil 1 encU8) (VLe.of_eq ?_); unfold takesR; repeat (first | rfl | rw [if_pos (by assumption)] | rw [if_neg (by assumption)])) | (refine VLe.of_eq ?_; unfold takesR; repeat (first | rfl | rw [if_pos (by assumption)] | rw [if_neg (by assumption)]))
 refine Z15 ?_
 refine Cd (fun c2 => ?_) fun c2 => ?_
 ·
  refine Z3 ?_
  refine .p (cB encU8 [127]) rfl ?_
  refine Z1 ?_
  refine .p (cB encU8 [126]) rfl ?_
  refine Z7 ?_
  refine Rt2 ?_ ?_
  · first | (refine VLe.trans (sliceV_nil 1 encU8) (VLe.of_eq ?_); unfold takesR; repeat (first | rfl | rw [if_pos (by assumption)] | rw [if_neg (by assumption)])) | (refine VLe.of_eq ?_; unfold takesR; repeat (first | rfl | rw [if_pos (by assumption)] | rw [if_neg (by assumption)]))
  first | (refine VLe.trans (sliceV_nil 1 encU8) (VLe.of_eq ?_); unfold takesR; repeat (first | rfl | rw [if_pos (by assumption)] | rw [if_neg (by assumption)])) | (refine VLe.of_eq ?_; unfold takesR; repeat (first | rfl | rw [if_pos (by assumption)] | rw [if_neg (by assumption)]))
 refine Z15 ?_
 refine Cd (fun c3 => ?_) fun c3 => ?_
 ·
  refine Z4 ?_
  refine .p (cB encU8 [127, 127]) rfl ?_
  refine Z7 ?_
  refine Rt2 ?_ ?_
  · first | (refine VLe.trans (sliceV_nil 1 encU8) (VLe.of_eq ?_); unfold takesR; repeat (first | rfl | rw [if_pos (by assumption)] | rw [if_neg (by assumption)])) | (refine VLe.of_eq ?_; unfold takesR; repeat (first | rfl | rw [if_pos (by assumption)] | rw [if_neg (by assumption)]))
  first | (refine VLe.trans (sliceV_nil 1 encU8) (VLe.of_eq ?_); unfold takesR; repeat (first | rfl | rw [if_pos (by assumption)] | rw [if_neg (by assumption)])) | (refine VLe.of_eq ?_; unfold takesR; repeat (first | rfl | rw [if_pos (by assumption)] | rw [if_neg (by assumption)]))
 refine Z7 ?_
 refine Cd (fun c4 => ?_) fun c4 => ?_
 ·
  refine Z4 ?_
  refine .p (cB encU8 [127, 126]) rfl ?_
  refine Z7 ?_
  refine Rt2 ?_ ?_
  · first | (refine VLe.trans (sliceV_nil 1 encU8) (VLe.of_eq ?_); unfold takesR; repeat (first | rfl | rw [if_pos (by assumption)] | rw [if_neg (by assumption)])) | (refine VLe.of_eq ?_; unfold takesR; repeat (first | rfl | rw [if_pos (by assumption)] | rw [if_neg (by assumption)]))
  first | (refine VLe.trans (sliceV_nil 1 encU8) (VLe.of_eq ?_); unfold takesR; repeat (first | rfl | rw [if_pos (by assumption)] | rw [if_neg (by assumption)])) | (refine VLe.of_eq ?_; unfold takesR; repeat (first | rfl | rw [if_pos (by assumption)] | rw [if_neg (by assumption)]))
 refine Z11 ?_
 refine Cd (fun c5 => ?_) fun c5 => ?_
 ·
  refine Z3 ?_
  refine .p (cB encU8 [127]) rfl ?_
  refine Z7 ?_
  refine Rt2 ?_ ?_
  · first | (refine VLe.trans (sliceV_nil 1 encU8) (VLe.of_eq ?_); unfold takesR; repeat (first | rfl | rw [if_pos (by assumption)] | rw [if_neg (by assumption)])) | (refine VLe.of_eq ?_; unfold takesR; repeat (first | rfl | rw [if_pos (by assumption)] | rw [if_neg (by assumption)]))
  first | (refine VLe.trans (sliceV_nil 1 encU8) (VLe.of_eq ?_); unfold takesR; repeat (first | rfl | rw [if_pos (by assumption)] | rw [if_neg (by assumption)])) | (refine VLe.of_eq ?_; unfold takesR; repeat (first | rfl | rw [if_pos (by assumption)] | rw [if_neg (by assumption)]))
 refine Z7 ?_
 refine Cd (fun c6 => ?_) fun c6 => ?_
 ·
  refine Z3 ?_
  refine .p (cB encU8 [126]) rfl ?_
  refine Z7 ?_
  refine Rt2 ?_ ?_
  · first | (refine VLe.trans (sliceV_nil 1 encU8) (VLe.of_eq ?_); unfold takesR; repeat (first | rfl | rw [if_pos (by assumption)] | rw [if_neg (by assumption)])) | (refine VLe.of_eq ?_; unfold takesR; repeat (first | rfl | rw [if_pos (by assumption)] | rw [if_neg (by assumption)]))
  first | (refine VLe.trans (sliceV_nil 1 encU8) (VLe.of_eq ?_); unfold takesR; repeat (first | rfl | rw [if_pos (by assumption)] | rw [if_neg (by assumption)])) | (refine VLe.of_eq ?_; unfold takesR; repeat (first | rfl | rw [if_pos (by assumption)] | rw [if_neg (by assumption)]))
 refine Z11 ?_
 refine Cd (fun c7 => ?_) fun c7 => ?_
 ·
  refine Z3 ?_
  refine .p (cB encU8 [126]) rfl ?_
  refine Z1 ?_
  refine .p (cB encU8 [127]) rfl ?_
  refine Z7 ?_
  refine Rt2 ?_ ?_
  · first | (refine VLe.trans (sliceV_nil 1 encU8) (VLe.of_eq ?_); unfold takesR; repeat (first | rfl | rw [if_pos (by assumption)] | rw [if_neg (by assumption)])) | (refine VLe.of_eq ?_; unfold takesR; repeat (first | rfl | rw [if_pos (by assumption)] | rw [if_neg (by assumption)]))
  first | (refine VLe.trans (sliceV_nil 1 encU8) (VLe.of_eq ?_); unfold takesR; repeat (first | rfl | rw [if_pos (by assumption)] | rw [if_neg (by assumption)])) | (refine VLe.of_eq ?_; unfold takesR; repeat (first | rfl | rw [if_pos (by assumption)] | rw [if_neg (by assumption)]))
 refine Z19 ?_
 refine Cd (fun c8 => ?_) fun c8 => ?_
 ·
  refine Z4 ?_
  refine .p (cB encU8 [127, 127]) rfl ?_
  refine Z1 ?_
  refine .p (cB encU8 [127]) rfl ?_
  refine Z7 ?_
  refine Rt2 ?_ ?_
  · first | (refine VLe.trans (sliceV_nil 1 encU8) (VLe.of_eq ?_); unfold takesR; repeat (first | rfl | rw [if_pos (by assumption)] | rw [if_neg (by assumption)])) | (refine VLe.of_eq ?_; unfold takesR; repeat (first | rfl | rw [if_pos (by assumption)] | rw [if_neg (by assumption)]))
  first | (refine VLe.trans (sliceV_nil 1 encU8) (VLe.of_eq ?_); unfold takesR; repeat (first | rfl | rw [if_pos (by assumption)] | rw [if_neg (by assumption)])) | (refine VLe.of_eq ?_; unfold takesR; repeat (first | rfl | rw [if_pos (by assumption)] | rw [if_neg (by assumption)]))
 refine Z11 ?_
 refine Cd (fun c9 => ?_) fun c9 => ?_
 ·
  refine Z4 ?_
  refine .p (cB encU8 [126, 126]) rfl ?_
  refine Z1 ?_
  refine .p (cB encU8 [127]) rfl ?_
  refine Z7 ?_
  refine Rt2 ?_ ?_
  · first | (refine VLe.trans (sliceV_nil 1 encU8) (VLe.of_eq ?_); unfold takesR; repeat (first | rfl | rw [if_pos (by assumption)] | rw [if_neg (by assumption)])) | (refine VLe.of_eq ?_; unfold takesR; repeat (first | rfl | rw [if_pos (by assumption)] | rw [if_neg (by assumption)]))
  first | (refine VLe.trans (sliceV_nil 1 encU8) (VLe.of_eq ?_); unfold takesR; repeat (first | rfl | rw [if_pos (by assumption)] | rw [if_neg (by assumption)])) | (refine VLe.of_eq ?_; unfold takesR; repeat (first | rfl | rw [if_pos (by assumption)] | rw [if_neg (by assumption)]))
 refine Z11 ?_
 refine Cd (fun c10 => ?_) fun c10 => ?_
 ·
  refine Z4 ?_
  refine .p (cB encU8 [126, 126]) rfl ?_
  refine Z1 ?_
  refine .p (cB encU8 [126]) rfl ?_
  refine Z7 ?_
  refine Rt2 ?_ ?_
  · first | (refine VLe.trans (sliceV_nil 1 encU8) (VLe.of_eq ?_); unfold takesR; repeat (first | rfl | rw [if_pos (by assumption)] | rw [if_neg (by assumption)])) | (refine VLe.of_eq ?_; unfold takesR; repeat (first | rfl | rw [if_pos (by assumption)] | rw [if_neg (by assumption)]))
  first | (refine VLe.trans (sliceV_nil 1 encU8) (VLe.of_eq ?_); unfold takesR; repeat (first | rfl | rw [if_pos (by assumption)] | rw [if_neg (by assumption)])) | (refine VLe.of_eq ?_; unfold takesR; repeat (first | rfl | rw [if_pos (by assumption)] | rw [if_neg (by assumption)]))
 refine Z11 ?_
 refine Cd (fun c11 => ?_) fun c11 => ?_
 ·
  refine Z3 ?_
  refine .p (cB encU8 [127]) rfl ?_
  refine Z1 ?_
  refine .p (cB encU8 [126]) rfl ?_
  refine Z7 ?_
  refine Rt2 ?_ ?_
  · first | (refine VLe.trans (sliceV_nil 1 encU8) (VLe.of_eq ?_); unfold takesR; repeat (first | rfl | rw [if_pos (by assumption)] | rw [if_neg (by assumption)])) | (refine VLe.of_eq ?_; unfold takesR; repeat (first | rfl | rw [if_pos (by assumption)] | rw [if_neg (by assumption)]))
  first | (refine VLe.trans (sliceV_nil 1 encU8) (VLe.of_eq ?_); unfold takesR; repeat (first | rfl | rw [if_pos (by assumption)] | rw [if_neg (by assumption)])) | (refine VLe.of_eq ?_; unfold takesR; repeat (first | rfl | rw [if_pos (by assumption)] | rw [if_neg (by assumption)]))
 refine Z19 ?_
 refine Cd (fun c12 => ?_) fun c12 => ?_
 ·
  refine Z3 ?_
  refine .p (cB encU8 [126]) rfl ?_
  refine Z1 ?_
  refine .p (cB encU8 [126]) rfl ?_
  refine Z7 ?_
  refine Rt2 ?_ ?_
  · first | (refine VLe.trans (sliceV_nil 1 encU8) (VLe.of_eq ?_); unfold takesR; repeat (first | rfl | rw [if_pos (by assumption)] | rw [if_neg (by assumption)])) | (refine VLe.of_eq ?_; unfold takesR; repeat (first | rfl | rw [if_pos (by assumption)] | rw [if_neg (by assumption)]))
  first | (refine VLe.trans (sliceV_nil 1 encU8) (VLe.of_eq ?_); unfold takesR; repeat (first | rfl | rw [if_pos (by assumption)] | rw [if_neg (by assumption)])) | (refine VLe.of_eq ?_; unfold takesR; repeat (first | rfl | rw [if_pos (by assumption)] | rw [if_neg (by assumption)]))
 refine Z7 ?_
 refine Cd (fun c13 => ?_) fun c13 => ?_
 ·
  refine Z5 ?_
  refine .p (cB encU8 [127, 127, 127]) rfl ?_
  refine Z7 ?_
  refine Rt2 ?_ ?_
  · first | (refine VLe.trans (sliceV_nil 1 encU8) (VLe.of_eq ?_); unfold takesR; repeat (first | rfl | rw [if_pos (by assumption)] | rw [if_neg (by assumption)])) | (refine VLe.of_eq ?_; unfold takesR; repeat (first | rfl | rw [if_pos (by assumption)] | rw [if_neg (by assumption)]))
  first | (refine VLe.trans (sliceV_nil 1 encU8) (VLe.of_eq ?_); unfold takesR; repeat (first | rfl | rw [if_pos (by assumption)] | rw [if_neg (by assumption)])) | (refine VLe.of_eq ?_; unfold takesR; repeat (first | rfl | rw [if_pos (by assumption)] | rw [if_neg (by assumption)]))
 refine Z6 ?_
 refine .p (cB encU8 [127]) rfl ?_
 refine Z1 ?_
 refine .p (cB encU8 [127]) rfl ?_
 refine Z5 ?_
 refine Rt2 ?_ ?_
 · first | (refine VLe.trans (sliceV_nil 1 encU8) (VLe.of_eq ?_); unfold takesR; repeat (first | rfl | rw [if_pos (by assumption)] | rw [if_neg (by assumption)])) | (refine VLe.of_eq ?_; unfold takesR; repeat (first | rfl | rw [if_pos (by assumption)] | rw [if_neg (by assumption)]))
 first | (refine VLe.trans (sliceV_nil 1 encU8) (VLe.of_eq ?_); unfold takesR; repeat (first | rfl | rw [if_pos (by assumption)] | rw [if_neg (by assumption)])) | (refine VLe.of_eq ?_; unfold takesR; repeat (first | rfl | rw [if_pos (by assumption)] | rw [if_neg (by assumption)]))
theorem rwidth_spec : FnP Tryz.prog 133 [intV .i64 code] (intV .i64 (widthR code)) := by
 refine In 27 Tryz.func133 fun _ _ _ => ?_
 refine Z12 ?_
 refine .cut (σ := Unit) (fun _ => []) (fun _ => [(4, propV (code = 40 ∨ code = 52 ∨ code = 53 ∨ code = 54 ∨ code = 62))]) (fun _ => True) ?_ ?_
 ·
  refine Z6 ?_
  refine Cd (fun c0 => ?_) fun c0 => ?_
  ·
   refine Z1 ?_
   refine .meet () trivial rfl (.get rfl (VLe.prop (by omega)) (.keep 2 rfl rfl))
  refine Z6 ?_
  refine Cd (fun c1 => ?_) fun c1 => ?_
  ·
   refine Z1 ?_
   refine .meet () trivial rfl (.get rfl (VLe.prop (by omega)) (.keep 4 rfl rfl))
  refine Z6 ?_
  refine Cd (fun c2 => ?_) fun c2 => ?_
  ·
   refine Z1 ?_
   refine .meet () trivial rfl (.get rfl (VLe.prop (by omega)) (.keep 6 rfl rfl))
  refine Z6 ?_
  refine Cd (fun c3 => ?_) fun c3 => ?_
  ·
   refine Z1 ?_
   refine .meet () trivial rfl (.get rfl (VLe.prop (by omega)) (.keep 8 rfl rfl))
  refine Z4 ?_
  refine .meet () trivial rfl (.get rfl (VLe.prop (by omega)) (.keep 10 rfl rfl))
 intro _ _
 refine Cd (fun c4 => ?_) fun c4 => ?_
 ·
  refine Z8 ?_
  refine Rt1 ?_
  exact VLe.int (by unfold widthR; repeat (first | rfl | rw [if_pos (by assumption)] | rw [if_neg (by assumption)]))
 refine .cut (σ := Unit) (fun _ => []) (fun _ => [(10, propV (code = 41 ∨ code = 55))]) (fun _ => True) ?_ ?_
 ·
  refine Z6 ?_
  refine Cd (fun c5 => ?_) fun c5 => ?_
  ·
   refine Z1 ?_
   refine .meet () trivial rfl (.get rfl (VLe.prop (by omega)) (.keep 2 rfl rfl))
  refine Z4 ?_
  refine .meet () trivial rfl (.get rfl (VLe.prop (by omega)) (.keep 4 rfl rfl))
 intro _ _
 refine Cd (fun c6 => ?_) fun c6 => ?_
 ·
  refine Z8 ?_
  refine Rt1 ?_
  exact VLe.int (by unfold widthR; repeat (first | rfl | rw [if_pos (by assumption)] | rw [if_neg (by assumption)]))
 refine .cut (σ := Unit) (fun _ => []) (fun _ => [(13, propV (code = 44 ∨ code = 45 ∨ code = 48 ∨ code = 49 ∨ code = 58 ∨ code = 60))]) (fun _ => True) ?_ ?_
 ·
  refine Z6 ?_
  refine Cd (fun c7 => ?_) fun c7 => ?_
  ·
   refine Z1 ?_
   refine .meet () trivial rfl (.get rfl (VLe.prop (by omega)) (.keep 2 rfl rfl))
  refine Z6 ?_
  refine Cd (fun c8 => ?_) fun c8 => ?_
  ·
   refine Z1 ?_
   refine .meet () trivial rfl (.get rfl (VLe.prop (by omega)) (.keep 4 rfl rfl))
  refine Z6 ?_
  refine Cd (fun c9 => ?_) fun c9 => ?_
  ·
   refine Z1 ?_
   refine .meet () trivial rfl (.get rfl (VLe.prop (by omega)) (.keep 6 rfl rfl))
  refine Z6 ?_
  refine Cd (fun c10 => ?_) fun c10 => ?_
  ·
   refine Z1 ?_
   refine .meet () trivial rfl (.get rfl (VLe.prop (by omega)) (.keep 8 rfl rfl))
  refine Z6 ?_
  refine Cd (fun c11 => ?_) fun c11 => ?_
  ·
   refine Z1 ?_
   refine .meet () trivial rfl (.get rfl (VLe.prop (by omega)) (.keep 10 rfl rfl))
  refine Z4 ?_
  refine .meet () trivial rfl (.get rfl (VLe.prop (by omega)) (.keep 12 rfl rfl))
 intro _ _
 refine Cd (fun c12 => ?_) fun c12 => ?_
 ·
  refine Z8 ?_
  refine Rt1 ?_
  exact VLe.int (by unfold widthR; repeat (first | rfl | rw [if_pos (by assumption)] | rw [if_neg (by assumption)]))
 refine .cut (σ := Unit) (fun _ => []) (fun _ => [(20, propV (code = 46 ∨ code = 47 ∨ code = 50 ∨ code = 51 ∨ code = 59 ∨ code = 61))]) (fun _ => True) ?_ ?_
 ·
  refine Z6 ?_
  refine Cd (fun c13 => ?_) fun c13 => ?_
  ·
   refine Z1 ?_
   refine .meet () trivial rfl (.get rfl (VLe.prop (by omega)) (.keep 2 rfl rfl))
  refine Z6 ?_
  refine Cd (fun c14 => ?_) fun c14 => ?_
  ·
   refine Z1 ?_
   refine .meet () trivial rfl (.get rfl (VLe.prop (by omega)) (.keep 4 rfl rfl))
  refine Z6 ?_
  refine Cd (fun c15 => ?_) fun c15 => ?_
  ·
   refine Z1 ?_
   refine .meet () trivial rfl (.get rfl (VLe.prop (by omega)) (.keep 6 rfl rfl))
  refine Z6 ?_
  refine Cd (fun c16 => ?_) fun c16 => ?_
  ·
   refine Z1 ?_
   refine .meet () trivial rfl (.get rfl (VLe.prop (by omega)) (.keep 8 rfl rfl))
  refine Z6 ?_
  refine Cd (fun c17 => ?_) fun c17 => ?_
  ·
   refine Z1 ?_
   refine .meet () trivial rfl (.get rfl (VLe.prop (by omega)) (.keep 10 rfl rfl))
  refine Z4 ?_
  refine .meet () trivial rfl (.get rfl (VLe.prop (by omega)) (.keep 12 rfl rfl))
 intro _ _
 refine Cd (fun c18 => ?_) fun c18 => ?_
 ·
  refine Z8 ?_
  refine Rt1 ?_
  exact VLe.int (by unfold widthR; repeat (first | rfl | rw [if_pos (by assumption)] | rw [if_neg (by assumption)]))
 refine Z9 ?_
 refine Rt1 ?_
 exact VLe.int (by unfold widthR; repeat (first | rfl | rw [if_pos (by assumption)] | rw [if_neg (by assumption)]))
variable {s : Stk} {base : Int}
theorem dtake_spec {w : UInt8} (hp0 : s.1.length ≤ 60000) : FnE Tryz.prog 129 [aggV (encStk s base), intV .u8 ((w : UInt8).toNat : Int)] [] (γ := Stk × UInt8 × Int) (tk1P s w) (fun _ => []) (fun g => tupV [aggV (encStk g.1 base), intV .u8 (g.2.1.toNat : Int), intV .i64 g.2.2]) := by
 refine In 52 Tryz.func129 fun _ _ _ => ?_
 obtain ⟨sl, sd⟩ := s
 simp only at hp0
 refine Z2 ?_
 refine .n (opBoxOA (.t rfl)) rfl fun b2 _ => ?_
 refine .n (opAlloc FZ.out) rfl fun b4 _ => ?_
 refine Z19 ?_
 refine Cd (fun c0 => ?_) fun c0 => ?_
 ·
  have hsl : sl = [] := List.eq_nil_of_length_eq_zero (by have : (sl.length : Int) = 0 := c0; omega)
  subst hsl
  refine Z8 ?_
  refine Cd (fun c1 => ?_) fun c1 => ?_
  ·
   refine Z11 ?_
   refine Post.retR rfl rfl ((([], sd), 0, 5)) (by exact ⟨.inr ⟨by show (5 : Int) ≠ 0; decide, tk1_nil_no c1⟩, Nat.le_refl _⟩) (OLe.sel [] [0, 1] rfl rfl) rfl (.cons (.ra (i := 0) FA.out FC.out rfl rfl rfl rfl) ?_ (.cons (.rt rfl) ?_ (.cons (.rt rfl) ?_ .nil)))
   · exact VLe.refl _
   · exact VLe.refl _
   exact VLe.refl _
  refine Z13 ?_
  refine Post.retR rfl rfl ((([], sd), w, 0)) (by exact ⟨.inl ⟨rfl, tk1_nil (Classical.not_not.1 c1)⟩, Nat.le_refl _⟩) (OLe.sel [] [0, 1] rfl rfl) rfl (.cons (.ra (i := 0) FA.out FC.out rfl rfl rfl rfl) ?_ (.cons (.rt rfl) ?_ (.cons (.rt rfl) ?_ .nil)))
  · exact VLe.refl _
  · exact VLe.refl _
  exact VLe.refl _
 obtain ⟨l, x, rfl⟩ := snoc_of (l := sl) (fun e => c0 (by rw [e]; rfl))
 simp only [List.length_append, List.length_cons, List.length_nil] at hp0
 refine Z7 ?_
 refine .p (opSubF (.t rfl) (.c _) (fits_i64 (by simp <;> omega) (by simp <;> omega))) rfl ?_
 refine .p (cI l.length (h := show (l ++ [x])[l.length]? = some x by simp) (hi := by simp)) rfl ?_
 refine Z6 ?_
 refine .p (opBuildEmpty FU.out FC.out rfl FZ.out rfl) rfl ?_
 refine Z3 ?_
 refine .p (opSubF (.t rfl) (.c _) (fits_i64 (by simp <;> omega) (by simp <;> omega))) rfl ?_
 refine .p (opSliceHi (h := l.length) FU.out FC.out rfl (.t rfl) (.t rfl) (by simp) (by simp)) rfl ?_
 refine .p (opAppendE FU.out FU.out FC.out rfl FZ.out rfl FY.out (.t rfl) (.t rfl) (by simp <;> omega)) rfl ?_
 refine Z20 ?_
 refine Cd (fun c2 => ?_) fun c2 => ?_
 ·
  refine Z10 ?_
  refine Post.retR rfl rfl (((l, sd), 0, 5)) (by exact ⟨.inr ⟨by show (5 : Int) ≠ 0; decide, tk1_bad c2⟩, by (show l.length ≤ _; simp)⟩) (OLe.sel [] [0, 1] rfl rfl) rfl (.cons (.ra (i := 0) FA.out FC.out rfl rfl rfl rfl) ?_ (.cons (.rt rfl) ?_ (.cons (.rt rfl) ?_ .nil)))
  · exact VLe.agg (.cons (VLe.of_eq (by simp)) (.cons (VLe.refl _) (.cons (VLe.refl _) .nil)))
  · exact VLe.refl _
  exact VLe.refl _
 refine Z9 ?_
 refine Cd (fun c3 => ?_) fun c3 => ?_
 ·
  refine Z11 ?_
  refine Post.retR rfl rfl (((l, sd), w, 0)) (by exact ⟨.inl ⟨rfl, by rw [tk1_good c2, if_pos ((u8_zero x).1 c3)]⟩, by (show l.length ≤ _; simp)⟩) (OLe.sel [] [0, 1] rfl rfl) rfl (.cons (.ra (i := 0) FA.out FC.out rfl rfl rfl rfl) ?_ (.cons (.rt rfl) ?_ (.cons (.rt rfl) ?_ .nil)))
  · exact VLe.agg (.cons (VLe.of_eq (by simp)) (.cons (VLe.refl _) (.cons (VLe.refl _) .nil)))
  · exact VLe.refl _
  exact VLe.refl _
 refine Z12 ?_
 refine Post.retR rfl rfl (((l, sd), x, 0)) (by exact ⟨.inl ⟨rfl, by rw [tk1_good c2, if_neg (fun e => c3 ((u8_zero x).2 e))]⟩, by (show l.length ≤ _; simp)⟩) (OLe.sel [] [0, 1] rfl rfl) rfl (.cons (.ra (i := 0) FA.out FC.out rfl rfl rfl rfl) ?_ (.cons (.rt rfl) ?_ (.cons (.rt rfl) ?_ .nil)))
 · exact VLe.agg (.cons (VLe.of_eq (by simp)) (.cons (VLe.refl _) (.cons (VLe.refl _) .nil)))
 · exact VLe.refl _
 exact VLe.refl _
theorem dtakes_spec {l : List UInt8} (hp0 : s.1.length ≤ 60000) : FnE Tryz.prog 96 [aggV (encStk s base), sliceV 1 encU8 (l)] [] (γ := Stk × Int) (tkP s l) (fun _ => []) (fun g => tupV [aggV (encStk g.1 base), intV .i64 g.2]) := by
 refine In 30 Tryz.func96 fun _ _ _ => ?_
 refine .fact (t := 1) rfl (fun S w v h => sliceV_len h) fun hln => ?_
 refine Z2 ?_
 refine .n (opBoxOA (.t rfl)) rfl fun b2 _ => ?_
 refine .n (opAlloc FZ.out) rfl fun b4 _ => ?_
 refine Z13 ?_
 refine .own (OLe.perm (Perm.idx [1, 0] rfl rfl)) ?_
 refine .loopO (σ := Nat × Stk) (fun g => [cellsH b2 (encStk g.2 base), cellsH b4 (List.map exactV [.slice none 0 0, .bool false, .int .i64 0])]) (fun g => [(6, intV .i64 ((g.1 : Int) - 1))]) (fun g => g.1 ≤ l.length ∧ tksS g.2 (l.take g.1) = tksS s l ∧ g.2.1.length ≤ s.1.length) (fun g => g.1) (l.length, s) ⟨Nat.le_refl _, by simp, Nat.le_refl _⟩ rfl ?_ ?_
 · exact (.get rfl (VLe.refl _) (.refl _ _))
 rintro ⟨j, s1⟩ ⟨hj, hinv, hsl⟩
 simp only at hj hinv hsl ⊢
 refine Z7 ?_
 refine Cd (fun c0 => ?_) fun c0 => ?_
 ·
  obtain ⟨t, ht⟩ := getElem?_lt (xs := l) (k := j - 1) (by omega)
  have hjt : tksS s1 (l.take j) = (tk1S s1 t).bind fun p => tksS p.1 (l.take (j - 1)) := by (have h9 := tks_at (s := s1) ht; rwa [show j - 1 + 1 = j by omega] at h9)
  refine Z10 ?_
  refine .stagedK [(0, 1), (1, 0), (2, 0), (3, 0), (4, 0), (5, 2), (6, 0), (7, 0), (8, 0), (9, 0), (10, 3)] 11 1 FM.out (by kernel_rfl) (k := ?_)
  refine Z3 ?_
  refine .p rfl (fun _ => opIndexAddr (j := j - 1) FU.out FC.out rfl (.t rfl) (.t rfl) (by omega) ht) ?_
  refine Z1 ?_
  refine .e rfl (cE (h := dtake_spec (s := s1) (w := t) (by omega))) fun g21 h21 => ?_
  refine Z4 ?_
  refine .s rfl (opStoreOA (i := 0) FC.out rfl (.t rfl) (.t rfl) rfl rfl rfl) ?_
  refine .fin ?_
  refine Z9 ?_
  refine Cd (fun c1 => ?_) fun c1 => ?_
  ·
   refine Z14 ?_
   refine Post.retR rfl rfl ((g21.1, g21.2.2)) (by exact ⟨.inr ⟨c1, by rw [← hinv, hjt, h21.no c1]; rfl⟩, Nat.le_trans h21.2 hsl⟩) (OLe.sel [] [0, 1] rfl rfl) rfl (.cons (.ra (i := 1) FA.out FC.out rfl rfl rfl rfl) ?_ (.cons (.rt rfl) ?_ .nil))
   · exact VLe.refl _
   exact VLe.refl _
  refine Z8 ?_
  refine .round (j - 1, g21.1) ⟨by show j - 1 ≤ _; omega, by (show tksS g21.1 _ = _; rw [← hinv, hjt, h21.ok (Classical.not_not.1 c1)]; rfl), Nat.le_trans h21.2 hsl⟩ (by show j - 1 < j; omega) rfl ?_
  exact (.get rfl (VLe.int (by show (_ : Int) = ((j - 1 : Nat) : Int) - 1; omega)) ((.keep 21 rfl rfl)))
 have hj0 : j = 0 := by omega
 subst hj0
 refine Z13 ?_
 refine Post.retR rfl rfl ((s1, 0)) (by exact ⟨.inl ⟨rfl, by rw [← hinv]; rfl⟩, hsl⟩) (OLe.sel [] [0, 1] rfl rfl) rfl (.cons (.ra (i := 1) FA.out FC.out rfl rfl rfl rfl) ?_ (.cons (.rt rfl) ?_ .nil))
 · exact VLe.refl _
 exact VLe.refl _
theorem dgive_spec {l : List UInt8} (hp0 : s.1.length ≤ 60000) (hp1 : l.length ≤ 60000) : FnE Tryz.prog 98 [aggV (encStk s base), sliceV 1 encU8 (l)] [] (γ := Unit) (fun _ => True) (fun _ => []) (fun _ => aggV (encStk (giveS s l) base)) := by
 refine In 13 Tryz.func98 fun _ _ _ => ?_
 refine Z2 ?_
 refine .n (opBoxOA (.t rfl)) rfl fun b2 _ => ?_
 refine .n (opAlloc FZ.out) rfl fun b4 _ => ?_
 refine Z4 ?_
 refine .n (opBuildSliceO encU8 ([] : List UInt8) FU.out FC.out rfl FZ.out rfl .nil rfl rfl rfl rfl rfl) rfl fun g5 _ => ?_
 refine Z2 ?_
 refine .n (opAppend (i := 0) FU.out FU.out FC.out rfl FZ.out rfl FY.out (.t rfl) (.t rfl) rfl (by simp <;> omega) (by simp <;> omega)) rfl fun g8 _ => ?_
 refine Z1 ?_
 refine .n (OpE.shareS (G := fun g => g) (hs1 := fun _ => _) (xs := fun _ => _) (opAppend (i := 0) FU.out FU.out FC.out rfl FZ.out rfl FY.out (.t rfl) (.t rfl) rfl (by simp <;> omega) (by simp <;> omega))) rfl fun _ _ => ?_
 refine Z11 ?_
 refine Post.retR1 rfl (()) (by trivial) (OLe.sel [] [0, 1] rfl rfl) (.ra (i := 0) FA.out FC.out rfl rfl rfl rfl) ?_
 exact VLe.agg (.cons (VLe.of_eq (by simp [giveS])) (.cons (VLe.refl _) (.cons (VLe.refl _) .nil)))
theorem dkill_spec : FnE Tryz.prog 130 [aggV (encStk s base)] [] (γ := Unit) (fun _ => True) (fun _ => []) (fun _ => aggV (encStk killS base)) := by
 refine In 6 Tryz.func130 fun _ _ _ => ?_
 refine Z3 ?_
 refine .n (opAlloc FZ.out) rfl fun b2 _ => ?_
 refine Z11 ?_
 refine Post.retR1 rfl (()) (by trivial) (OLe.sel [] [0] rfl rfl) (.ra (i := 0) FA.out FC.out rfl rfl rfl rfl) ?_
 exact VLe.agg (.cons (sliceV_nil 1 encU8) (.cons (VLe.refl _) (.cons (VLe.refl _) .nil)))
theorem dsame_spec {a b : List UInt8} : FnP Tryz.prog 131 [sliceV 1 encU8 (a), sliceV 1 encU8 (b)] (propV (a = b)) := by
 refine In 10 Tryz.func131 fun _ _ _ => ?_
 refine Z16 ?_
 refine Rt1 ?_
 exact VLe.refl _
variable {v : EnvD} {x : InstrD} {labs : List (List UInt8)}
theorem dp0_spec (hp0 : PlOk v x s labs) (hp1 : x.Code = 0) : FnE Tryz.prog 97 [aggV (encEnv v), aggV (encInstr x), aggV (encStk s base), sliceV 1 encSlT labs] [] (γ := Stk × Int) (plQ s (plS v x s labs)) (fun _ => []) (fun g => tupV [aggV (encStk g.1 base), intV .i64 g.2]) := by
 refine In 517 Tryz.func97 fun _ _ _ => ?_
 have hs5 := hp0.stk
 have hA0 := hp0.ins.A0
 have hA6 := hp0.ins.A64
 have hln := hp0.lbn
 have hE := hp0.env
 have hf1 := hE.F
 have hf2 := hE.S
 have hf3 := hE.L
 have hf4 := hE.G
 have hf5 := hE.W
 refine Z4 ?_
 refine .n (opBoxOA (.t rfl)) rfl fun b6 _ => ?_
 refine .n (opAlloc FZ.out) rfl fun b8 _ => ?_
 refine Z35 ?_
 refine Cd (fun c0 => ?_) fun c0 => ?_
 ·
  refine Z3 ?_
  refine .n (cE (h := dkill_spec (s := s))) rfl fun g37 h37 => ?_
  refine Z7 ?_
  refine Post.retR rfl rfl ((killS, 0)) (by exact plQ_ok (plS_0 hp1) (by simp [killS])) (OLe.sel [] [0, 1] rfl rfl) rfl (.cons (.ra (i := 0) FA.out FC.out rfl rfl rfl rfl) ?_ (.cons (.rt rfl) ?_ .nil))
  · exact VLe.refl _
  exact VLe.refl _
 exfalso; omega
theorem dp12_spec (hp0 : PlOk v x s labs) (hp1 : x.Code = 12) : FnE Tryz.prog 97 [aggV (encEnv v), aggV (encInstr x), aggV (encStk s base), sliceV 1 encSlT labs] [] (γ := Stk × Int) (plQ s (plS v x s labs)) (fun _ => []) (fun g => tupV [aggV (encStk g.1 base), intV .i64 g.2]) := by
 refine In 517 Tryz.func97 fun _ _ _ => ?_
 have hs5 := hp0.stk
 have hA0 := hp0.ins.A0
 have hA6 := hp0.ins.A64
 have hln := hp0.lbn
 have hE := hp0.env
 have hf1 := hE.F
 have hf2 := hE.S
 have hf3 := hE.L
 have hf4 := hE.G
 have hf5 := hE.W
 refine Z4 ?_
 refine .n (opBoxOA (.t rfl)) rfl fun b6 _ => ?_
 refine .n (opAlloc FZ.out) rfl fun b8 _ => ?_
 refine Z35 ?_
 refine Cd (fun c0 => ?_) fun c0 => ?_
 · exfalso; omega
 refine Z7 ?_
 refine Cd (fun c1 => ?_) fun c1 => ?_
 ·
  refine Z2 ?_
  refine Cd (fun c2 => ?_) fun c2 => ?_
  ·
   refine Z10 ?_
   refine Cd (fun c3 => ?_) fun c3 => ?_
   ·
    have hno := labAt_no (L := labs) c3
    refine Z11 ?_
    refine Post.retR rfl rfl ((s, 2)) (by exact plQ_no (by decide) (by rw [plS_12 hp1, hno]; rfl) (by omega)) (OLe.sel [] [0, 1] rfl rfl) rfl (.cons (.ra (i := 0) FA.out FC.out rfl rfl rfl rfl) ?_ (.cons (.rt rfl) ?_ .nil))
    · exact VLe.refl _
    exact VLe.refl _
   obtain ⟨w, hw, hw2⟩ := labAt_at (L := labs) hA0 c3
   have hwl : w.length ≤ 20 := hp0.lbw w (List.mem_of_getElem? hw2)
   refine Z11 ?_
   refine .p (cI (labs.length - 1 - x.A.toNat) (h := hw2)) rfl ?_
   refine Z12 ?_
   refine Cd (fun c4 => ?_) fun c4 => ?_
   · exfalso; omega
   refine Z6 ?_
   refine .n (cE (h := dtakes_spec (s := s) (l := w) (by omega))) rfl fun g73 h73 => ?_
   refine Z14 ?_
   refine Cd (fun c5 => ?_) fun c5 => ?_
   ·
    refine Z12 ?_
    refine Post.retR rfl rfl (g73) (by exact plQ_no c5 (by rw [plS_12 hp1, hw, Option.bind_some, h73.no c5]; rfl) (by have := h73.2; omega)) (OLe.sel [] [0, 1] rfl rfl) rfl (.cons (.ra (i := 0) FA.out FC.out rfl rfl rfl rfl) ?_ (.cons (.rt rfl) ?_ .nil))
    · exact VLe.refl _
    exact VLe.refl _
   refine Z10 ?_
   refine Cd (fun c6 => ?_) fun c6 => ?_
   ·
    refine Z3 ?_
    refine .n (cE (h := dkill_spec (s := g73.1))) rfl fun g84 h84 => ?_
    refine Z8 ?_
    refine Post.retR rfl rfl ((killS, 0)) (by exact plQ_ok (by rw [plS_12 hp1, hw, Option.bind_some, h73.ok (Classical.not_not.1 c5)]; rfl) (by simp [killS])) (OLe.sel [] [0, 1] rfl rfl) rfl (.cons (.ra (i := 0) FA.out FC.out rfl rfl rfl rfl) ?_ (.cons (.rt rfl) ?_ .nil))
    · exact VLe.refl _
    exact VLe.refl _
   exfalso; omega
  exfalso; omega
 exfalso; omega
theorem dp13_spec (hp0 : PlOk v x s labs) (hp1 : x.Code = 13) : FnE Tryz.prog 97 [aggV (encEnv v), aggV (encInstr x), aggV (encStk s base), sliceV 1 encSlT labs] [] (γ := Stk × Int) (plQ s (plS v x s labs)) (fun _ => []) (fun g => tupV [aggV (encStk g.1 base), intV .i64 g.2]) := by
 refine In 517 Tryz.func97 fun _ _ _ => ?_
 have hs5 := hp0.stk
 have hA0 := hp0.ins.A0
 have hA6 := hp0.ins.A64
 have hln := hp0.lbn
 have hE := hp0.env
 have hf1 := hE.F
 have hf2 := hE.S
 have hf3 := hE.L
 have hf4 := hE.G
 have hf5 := hE.W
 refine Z4 ?_
 refine .n (opBoxOA (.t rfl)) rfl fun b6 _ => ?_
 refine .n (opAlloc FZ.out) rfl fun b8 _ => ?_
 refine Z35 ?_
 refine Cd (fun c0 => ?_) fun c0 => ?_
 · exfalso; omega
 refine Z7 ?_
 refine Cd (fun c1 => ?_) fun c1 => ?_
 · exfalso; omega
 refine Z5 ?_
 refine Cd (fun c2 => ?_) fun c2 => ?_
 ·
  refine Z10 ?_
  refine Cd (fun c3 => ?_) fun c3 => ?_
  ·
   have hno := labAt_no (L := labs) c3
   refine Z11 ?_
   refine Post.retR rfl rfl ((s, 2)) (by exact plQ_no (by decide) (by rw [plS_13 hp1, hno]; rfl) (by omega)) (OLe.sel [] [0, 1] rfl rfl) rfl (.cons (.ra (i := 0) FA.out FC.out rfl rfl rfl rfl) ?_ (.cons (.rt rfl) ?_ .nil))
   · exact VLe.refl _
   exact VLe.refl _
  obtain ⟨w, hw, hw2⟩ := labAt_at (L := labs) hA0 c3
  have hwl : w.length ≤ 20 := hp0.lbw w (List.mem_of_getElem? hw2)
  refine Z11 ?_
  refine .p (cI (labs.length - 1 - x.A.toNat) (h := hw2)) rfl ?_
  refine Z12 ?_
  refine Cd (fun c4 => ?_) fun c4 => ?_
  ·
   refine Z4 ?_
   refine .p (cB encU8 [127]) rfl ?_
   refine .n (cE (h := dtakes_spec (s := s) (l := [127]) (by omega))) rfl fun g63 h63 => ?_
   refine Z13 ?_
   refine Cd (fun c5 => ?_) fun c5 => ?_
   ·
    refine Z12 ?_
    refine Post.retR rfl rfl (g63) (by exact plQ_no c5 (by rw [plS_13 hp1, hw, Option.bind_some, tgS, tks_snoc2, h63.no c5]; rfl) (by have := h63.2; omega)) (OLe.sel [] [0, 1] rfl rfl) rfl (.cons (.ra (i := 0) FA.out FC.out rfl rfl rfl rfl) ?_ (.cons (.rt rfl) ?_ .nil))
    · exact VLe.refl _
    exact VLe.refl _
   refine Z6 ?_
   refine .n (cE (h := dtakes_spec (s := g63.1) (l := w) (by have := h63.2; omega))) rfl fun g73 h73 => ?_
   refine Z14 ?_
   refine Cd (fun c6 => ?_) fun c6 => ?_
   ·
    refine Z12 ?_
    refine Post.retR rfl rfl (g73) (by exact plQ_no c6 (by rw [plS_13 hp1, hw, Option.bind_some, tgS, tks_snoc2, h63.ok (Classical.not_not.1 c5), Option.bind_some, h73.no c6]; rfl) (by have := h63.2; have := h73.2; omega)) (OLe.sel [] [0, 1] rfl rfl) rfl (.cons (.ra (i := 0) FA.out FC.out rfl rfl rfl rfl) ?_ (.cons (.rt rfl) ?_ .nil))
    · exact VLe.refl _
    exact VLe.refl _
   refine Z10 ?_
   refine Cd (fun c7 => ?_) fun c7 => ?_
   · exfalso; omega
   refine Z6 ?_
   refine .n (cE (h := dgive_spec (s := g73.1) (l := w) (by have := h63.2; have := h73.2; omega) (by omega))) rfl fun g87 h87 => ?_
   refine Z7 ?_
   refine Post.retR rfl rfl ((giveS g73.1 w, 0)) (by exact plQ_ok (by rw [plS_13 hp1, hw, Option.bind_some, tgS, tks_snoc2, h63.ok (Classical.not_not.1 c5), Option.bind_some, h73.ok (Classical.not_not.1 c6)]; rfl) (by have := h63.2; have := h73.2; simp only [giveS, List.length_append]; omega)) (OLe.sel [] [0, 1] rfl rfl) rfl (.cons (.ra (i := 0) FA.out FC.out rfl rfl rfl rfl) ?_ (.cons (.rt rfl) ?_ .nil))
   · exact VLe.refl _
   exact VLe.refl _
  exfalso; omega
 exfalso; omega
theorem dp15_spec (hp0 : PlOk v x s labs) (hp1 : x.Code = 15) : FnE Tryz.prog 97 [aggV (encEnv v), aggV (encInstr x), aggV (encStk s base), sliceV 1 encSlT labs] [] (γ := Stk × Int) (plQ s (plS v x s labs)) (fun _ => []) (fun g => tupV [aggV (encStk g.1 base), intV .i64 g.2]) := by
 refine In 517 Tryz.func97 fun _ _ _ => ?_
 have hs5 := hp0.stk
 have hA0 := hp0.ins.A0
 have hA6 := hp0.ins.A64
 have hln := hp0.lbn
 have hE := hp0.env
 have hf1 := hE.F
 have hf2 := hE.S
 have hf3 := hE.L
 have hf4 := hE.G
 have hf5 := hE.W
 refine Z4 ?_
 refine .n (opBoxOA (.t rfl)) rfl fun b6 _ => ?_
 refine .n (opAlloc FZ.out) rfl fun b8 _ => ?_
 refine Z35 ?_
 refine Cd (fun c0 => ?_) fun c0 => ?_
 · exfalso; omega
 refine Z7 ?_
 refine Cd (fun c1 => ?_) fun c1 => ?_
 · exfalso; omega
 refine Z5 ?_
 refine Cd (fun c2 => ?_) fun c2 => ?_
 · exfalso; omega
 refine Z6 ?_
 refine Cd (fun c3 => ?_) fun c3 => ?_
 · exfalso; omega
 refine Z6 ?_
 refine Cd (fun c4 => ?_) fun c4 => ?_
 ·
  refine Z6 ?_
  refine .n (cE (h := dtakes_spec (s := s) (l := v.Own.R) (by omega))) rfl fun g168 h168 => ?_
  refine Z14 ?_
  refine Cd (fun c5 => ?_) fun c5 => ?_
  ·
   refine Z12 ?_
   refine Post.retR rfl rfl (g168) (by exact plQ_no c5 (by rw [plS_15 hp1, h168.no c5]; rfl) (by have := h168.2; omega)) (OLe.sel [] [0, 1] rfl rfl) rfl (.cons (.ra (i := 0) FA.out FC.out rfl rfl rfl rfl) ?_ (.cons (.rt rfl) ?_ .nil))
   · exact VLe.refl _
   exact VLe.refl _
  refine Z5 ?_
  refine .n (cE (h := dkill_spec (s := g168.1))) rfl fun g176 h176 => ?_
  refine Z7 ?_
  refine Post.retR rfl rfl ((killS, 0)) (by exact plQ_ok (by rw [plS_15 hp1, h168.ok (Classical.not_not.1 c5)]; rfl) (by simp [killS])) (OLe.sel [] [0, 1] rfl rfl) rfl (.cons (.ra (i := 0) FA.out FC.out rfl rfl rfl rfl) ?_ (.cons (.rt rfl) ?_ .nil))
  · exact VLe.refl _
  exact VLe.refl _
 exfalso; omega
theorem dp16_spec (hp0 : PlOk v x s labs) (hp1 : x.Code = 16) : FnE Tryz.prog 97 [aggV (encEnv v), aggV (encInstr x), aggV (encStk s base), sliceV 1 encSlT labs] [] (γ := Stk × Int) (plQ s (plS v x s labs)) (fun _ => []) (fun g => tupV [aggV (encStk g.1 base), intV .i64 g.2]) := by
 refine In 517 Tryz.func97 fun _ _ _ => ?_
 have hs5 := hp0.stk
 have hA0 := hp0.ins.A0
 have hA6 := hp0.ins.A64
 have hln := hp0.lbn
 have hE := hp0.env
 have hf1 := hE.F
 have hf2 := hE.S
 have hf3 := hE.L
 have hf4 := hE.G
 have hf5 := hE.W
 refine Z4 ?_
 refine .n (opBoxOA (.t rfl)) rfl fun b6 _ => ?_
 refine .n (opAlloc FZ.out) rfl fun b8 _ => ?_
 refine Z35 ?_
 refine Cd (fun c0 => ?_) fun c0 => ?_
 · exfalso; omega
 refine Z7 ?_
 refine Cd (fun c1 => ?_) fun c1 => ?_
 · exfalso; omega
 refine Z5 ?_
 refine Cd (fun c2 => ?_) fun c2 => ?_
 · exfalso; omega
 refine Z6 ?_
 refine Cd (fun c3 => ?_) fun c3 => ?_
 · exfalso; omega
 refine Z6 ?_
 refine Cd (fun c4 => ?_) fun c4 => ?_
 · exfalso; omega
 refine Z6 ?_
 refine Cd (fun c5 => ?_) fun c5 => ?_
 ·
  refine Z12 ?_
  refine Cd (fun c6 => ?_) fun c6 => ?_
  ·
   have hno := getI_no (L := v.Funcs) c6
   refine Z11 ?_
   refine Post.retR rfl rfl ((s, 2)) (by exact plQ_no (by decide) (by rw [plS_16 hp1, hno]; rfl) (by omega)) (OLe.sel [] [0, 1] rfl rfl) rfl (.cons (.ra (i := 0) FA.out FC.out rfl rfl rfl rfl) ?_ (.cons (.rt rfl) ?_ .nil))
   · exact VLe.refl _
   exact VLe.refl _
  obtain ⟨sg, hw, hw2⟩ := getI_at (L := v.Funcs) hA0 c6
  refine Z3 ?_
  have hsg := hE.sf sg (List.mem_of_getElem? hw2)
  refine .stagedK [(0, 1), (1, 0), (2, 0), (3, 0), (4, 0), (5, 0), (6, 0), (7, 0), (8, 2), (9, 0), (10, 0), (11, 0), (12, 3)] 13 1 FM.out (by kernel_rfl) (k := ?_)
  refine Z5 ?_
  refine .p rfl (fun _ => opIndexAddr (j := x.A.toNat) FU.out FC.out rfl (.t rfl) (.t rfl) (by omega) hw2) ?_
  refine Z2 ?_
  refine .e rfl (cE (h := dtakes_spec (s := s) (l := sg.P) (by omega))) fun g196 h196 => ?_
  refine Z3 ?_
  refine .s rfl (opStoreOA (i := 1) FC.out rfl (.t rfl) (.t rfl) rfl rfl rfl) ?_
  refine .fin ?_
  refine Z4 ?_
  refine .stagedK [(0, 1), (1, 0), (2, 0), (3, 0), (4, 0), (5, 0), (6, 0), (7, 0), (9, 0), (8, 2), (10, 3)] 11 1 FM.out (by kernel_rfl) (k := ?_)
  refine Z5 ?_
  refine .p rfl (fun _ => opIndexAddr (j := x.A.toNat) FU.out FC.out rfl (.t rfl) (.t rfl) (by omega) hw2) ?_
  refine Z3 ?_
  refine .e rfl (cE (h := dgive_spec (s := g196.1) (l := sg.R) (by have := h196.2; omega) (by omega))) fun g207 h207 => ?_
  refine .s rfl (opStoreOA (i := 0) FC.out rfl (.t rfl) (.t rfl) rfl rfl rfl) ?_
  refine .fin ?_
  refine Z6 ?_
  refine Post.retR rfl rfl ((giveS g196.1 sg.R, g196.2)) (by exact plQ_tg (by rw [plS_16 hp1, hw, Option.bind_some]) h196 hsg.2) (OLe.sel [] [0, 1] rfl rfl) rfl (.cons (.ra (i := 0) FA.out FC.out rfl rfl rfl rfl) ?_ (.cons (.rt rfl) ?_ .nil))
  · exact VLe.refl _
  exact VLe.refl _
 exfalso; omega
theorem dp26_spec (hp0 : PlOk v x s labs) (hp1 : x.Code = 26) : FnE Tryz.prog 97 [aggV (encEnv v), aggV (encInstr x), aggV (encStk s base), sliceV 1 encSlT labs] [] (γ := Stk × Int) (plQ s (plS v x s labs)) (fun _ => []) (fun g => tupV [aggV (encStk g.1 base), intV .i64 g.2]) := by
 refine In 517 Tryz.func97 fun _ _ _ => ?_
 have hs5 := hp0.stk
 have hA0 := hp0.ins.A0
 have hA6 := hp0.ins.A64
 have hln := hp0.lbn
 have hE := hp0.env
 have hf1 := hE.F
 have hf2 := hE.S
 have hf3 := hE.L
 have hf4 := hE.G
 have hf5 := hE.W
 refine Z4 ?_
 refine .n (opBoxOA (.t rfl)) rfl fun b6 _ => ?_
 refine .n (opAlloc FZ.out) rfl fun b8 _ => ?_
 refine Z35 ?_
 refine Cd (fun c0 => ?_) fun c0 => ?_
 · exfalso; omega
 refine Z7 ?_
 refine Cd (fun c1 => ?_) fun c1 => ?_
 · exfalso; omega
 refine Z5 ?_
 refine Cd (fun c2 => ?_) fun c2 => ?_
 · exfalso; omega
 refine Z6 ?_
 refine Cd (fun c3 => ?_) fun c3 => ?_
 · exfalso; omega
 refine Z6 ?_
 refine Cd (fun c4 => ?_) fun c4 => ?_
 · exfalso; omega
 refine Z6 ?_
 refine Cd (fun c5 => ?_) fun c5 => ?_
 · exfalso; omega
 refine Z6 ?_
 refine Cd (fun c6 => ?_) fun c6 => ?_
 · exfalso; omega
 refine Z6 ?_
 refine Cd (fun c7 => ?_) fun c7 => ?_
 ·
  refine Z3 ?_
  refine .n (cE (h := dtake_spec (s := s) (w := 0) (by omega))) rfl fun g260 h260 => ?_
  refine Z19 ?_
  refine Post.retR rfl rfl ((g260.1, g260.2.2)) (by exact ⟨by (rw [plS_26 hp1]; rcases h260.1 with ⟨h1, h2⟩ | ⟨h1, h2⟩; exact .inl ⟨h1, by rw [h2]; rfl⟩; exact .inr ⟨h1, by rw [h2]; rfl⟩), by have := h260.2; (show g260.1.1.length ≤ _; omega)⟩) (OLe.sel [] [0, 1] rfl rfl) rfl (.cons (.ra (i := 0) FA.out FC.out rfl rfl rfl rfl) ?_ (.cons (.rt rfl) ?_ .nil))
  · exact VLe.refl _
  exact VLe.refl _
 exfalso; omega
theorem dp27_spec (hp0 : PlOk v x s labs) (hp1 : x.Code = 27) : FnE Tryz.prog 97 [aggV (encEnv v), aggV (encInstr x), aggV (encStk s base), sliceV 1 encSlT labs] [] (γ := Stk × Int) (plQ s (plS v x s labs)) (fun _ => []) (fun g => tupV [aggV (encStk g.1 base), intV .i64 g.2]) := by
 refine In 517 Tryz.func97 fun _ _ _ => ?_
 have hs5 := hp0.stk
 have hA0 := hp0.ins.A0
 have hA6 := hp0.ins.A64
 have hln := hp0.lbn
 have hE := hp0.env
 have hf1 := hE.F
 have hf2 := hE.S
 have hf3 := hE.L
 have hf4 := hE.G
 have hf5 := hE.W
 refine Z4 ?_
 refine .n (opBoxOA (.t rfl)) rfl fun b6 _ => ?_
 refine .n (opAlloc FZ.out) rfl fun b8 _ => ?_
 refine Z35 ?_
 refine Cd (fun c0 => ?_) fun c0 => ?_
 · exfalso; omega
 refine Z7 ?_
 refine Cd (fun c1 => ?_) fun c1 => ?_
 · exfalso; omega
 refine Z5 ?_
 refine Cd (fun c2 => ?_) fun c2 => ?_
 · exfalso; omega
 refine Z6 ?_
 refine Cd (fun c3 => ?_) fun c3 => ?_
 · exfalso; omega
 refine Z6 ?_
 refine Cd (fun c4 => ?_) fun c4 => ?_
 · exfalso; omega
 refine Z6 ?_
 refine Cd (fun c5 => ?_) fun c5 => ?_
 · exfalso; omega
 refine Z6 ?_
 refine Cd (fun c6 => ?_) fun c6 => ?_
 · exfalso; omega
 refine Z6 ?_
 refine Cd (fun c7 => ?_) fun c7 => ?_
 · exfalso; omega
 refine Z6 ?_
 refine Cd (fun c8 => ?_) fun c8 => ?_
 ·
  refine Z4 ?_
  refine .p (cB encU8 [127]) rfl ?_
  refine .n (cE (h := dtakes_spec (s := s) (l := [127]) (by omega))) rfl fun g272 h272 => ?_
  refine Z14 ?_
  refine Cd (fun c9 => ?_) fun c9 => ?_
  ·
   refine Z12 ?_
   refine Post.retR rfl rfl (g272) (by exact plQ_no c9 (by rw [plS_27 hp1, h272.no c9]; rfl) (by have := h272.2; omega)) (OLe.sel [] [0, 1] rfl rfl) rfl (.cons (.ra (i := 0) FA.out FC.out rfl rfl rfl rfl) ?_ (.cons (.rt rfl) ?_ .nil))
   · exact VLe.refl _
   exact VLe.refl _
  refine Z11 ?_
  refine .n (cE (h := dtake_spec (s := g272.1) (w := 0) (by have := h272.2; omega))) rfl fun g281 h281 => ?_
  refine Z16 ?_
  refine Cd (fun c10 => ?_) fun c10 => ?_
  ·
   refine Z12 ?_
   refine Post.retR rfl rfl ((g281.1, g281.2.2)) (by exact plQ_no c10 (by rw [plS_27 hp1, h272.ok (Classical.not_not.1 c9), Option.bind_some, h281.no c10]; rfl) (by have := h272.2; have := h281.2; omega)) (OLe.sel [] [0, 1] rfl rfl) rfl (.cons (.ra (i := 0) FA.out FC.out rfl rfl rfl rfl) ?_ (.cons (.rt rfl) ?_ .nil))
   · exact VLe.refl _
   exact VLe.refl _
  refine Z6 ?_
  refine .n (cE (h := dtake_spec (s := g281.1) (w := g281.2.1) (by have := h272.2; have := h281.2; omega))) rfl fun g292 h292 => ?_
  refine Z13 ?_
  refine .p (cB encU8 [g292.2.1]) rfl ?_
  refine .n (cE (h := dgive_spec (s := g292.1) (l := [g292.2.1]) (by have := h272.2; have := h281.2; have := h292.2; omega) (by simp))) rfl fun g299 h299 => ?_
  refine Z8 ?_
  refine Post.retR rfl rfl ((giveS g292.1 [g292.2.1], g292.2.2)) (by exact ⟨by (rw [plS_27 hp1, h272.ok (Classical.not_not.1 c9), Option.bind_some, h281.ok (Classical.not_not.1 c10), Option.bind_some]; rcases h292.1 with ⟨h1, h2⟩ | ⟨h1, h2⟩; exact .inl ⟨h1, by rw [h2]; rfl⟩; exact .inr ⟨h1, by rw [h2]; rfl⟩), by have := h272.2; have := h281.2; have := h292.2; (show (g292.1.1 ++ _).length ≤ _; rw [List.length_append]; simp only [List.length_cons, List.length_nil]; omega)⟩) (OLe.sel [] [0, 1] rfl rfl) rfl (.cons (.ra (i := 0) FA.out FC.out rfl rfl rfl rfl) ?_ (.cons (.rt rfl) ?_ .nil))
  · exact VLe.refl _
  exact VLe.refl _
 exfalso; omega
theorem dp14_spec (hp0 : PlOk v x s labs) (hp1 : x.Code = 14) : FnE Tryz.prog 97 [aggV (encEnv v), aggV (encInstr x), aggV (encStk s base), sliceV 1 encSlT labs] [] (γ := Stk × Int) (plQ s (plS v x s labs)) (fun _ => []) (fun g => tupV [aggV (encStk g.1 base), intV .i64 g.2]) := by
 refine In 517 Tryz.func97 fun _ _ _ => ?_
 have hs5 := hp0.stk
 have hA0 := hp0.ins.A0
 have hA6 := hp0.ins.A64
 have hln := hp0.lbn
 have hE := hp0.env
 have hf1 := hE.F
 have hf2 := hE.S
 have hf3 := hE.L
 have hf4 := hE.G
 have hf5 := hE.W
 have hLn := hp0.ins.Ln
 refine Z4 ?_
 refine .n (opBoxOA (.t rfl)) rfl fun b6 _ => ?_
 refine .n (opAlloc FZ.out) rfl fun b8 _ => ?_
 refine Z35 ?_
 refine Cd (fun c0 => ?_) fun c0 => ?_
 · exfalso; omega
 refine Z7 ?_
 refine Cd (fun c1 => ?_) fun c1 => ?_
 · exfalso; omega
 refine Z5 ?_
 refine Cd (fun c2 => ?_) fun c2 => ?_
 · exfalso; omega
 refine Z6 ?_
 refine Cd (fun c3 => ?_) fun c3 => ?_
 ·
  refine Z10 ?_
  refine Cd (fun c4 => ?_) fun c4 => ?_
  ·
   have hno := labAt_no (L := labs) c4
   refine Z11 ?_
   refine Post.retR rfl rfl ((s, 2)) (by exact plQ_no (by decide) (by rw [plS_14 hp1, hno]; rfl) (by omega)) (OLe.sel [] [0, 1] rfl rfl) rfl (.cons (.ra (i := 0) FA.out FC.out rfl rfl rfl rfl) ?_ (.cons (.rt rfl) ?_ .nil))
   · exact VLe.refl _
   exact VLe.refl _
  obtain ⟨w, hw, hw2⟩ := labAt_at (L := labs) hA0 c4
  have hwl : w.length ≤ 20 := hp0.lbw w (List.mem_of_getElem? hw2)
  refine Z11 ?_
  refine .p (cI (labs.length - 1 - x.A.toNat) (h := hw2)) rfl ?_
  refine Z11 ?_
  refine .loopO (σ := Nat) (fun _ => [cellsH b8 (List.map exactV [.slice none 0 0, .bool false, .int .i64 0]), cellsH b6 (encStk s base)]) (fun k => [(16, intV .i64 (k : Int))]) (fun k => k ≤ x.L.length ∧ ∀ n ∈ x.L.take k, n < (labs.length : Int)) (fun k => x.L.length - k) 0 ⟨Nat.zero_le _, by simp⟩ rfl ?_ ?_
  · exact (.get rfl (VLe.refl _) (.refl _ _))
  rintro k ⟨hk, hall⟩
  refine Z10 ?_
  refine Cd (fun c5 => ?_) fun c5 => ?_
  ·
   obtain ⟨n, hn⟩ := getElem?_lt (xs := x.L) (k := k) (by omega)
   have hn0 := hp0.ins.L0 n (List.mem_of_getElem? hn)
   refine Z9 ?_
   refine .p (cI k (h := hn)) rfl ?_
   refine Z6 ?_
   refine Cd (fun c6 => ?_) fun c6 => ?_
   ·
    refine Z15 ?_
    refine Post.retR rfl rfl ((s, 2)) (by exact plQ_no (by decide) (by rw [plS_14 hp1, hw, Option.bind_some]; exact if_neg (fun h => by have h9 := h n (List.mem_of_getElem? hn); rw [labAt_no c6] at h9; cases h9)) (by omega)) (OLe.sel [] [0, 1] rfl rfl) rfl (.cons (.ra (i := 0) FA.out FC.out rfl rfl rfl rfl) ?_ (.cons (.rt rfl) ?_ .nil))
    · exact VLe.refl _
    exact VLe.refl _
   refine Z8 ?_
   refine .round (k + 1) ⟨by omega, fun y hy => by (rw [← take_snoc hn] at hy; rcases List.mem_append.1 hy with hy | hy; exact hall y hy; (simp only [List.mem_singleton] at hy; subst hy; omega))⟩ (by omega) rfl ?_
   exact (.get rfl (VLe.int (by omega)) ((.keep 17 rfl rfl)))
  have hall1 : ∀ n ∈ x.L, n < (labs.length : Int) := fun n hn => hall n (by rw [List.take_of_length_le (by omega)]; exact hn)
  refine Z12 ?_
  refine .loopO (σ := Nat) (fun _ => [cellsH b8 (List.map exactV [.slice none 0 0, .bool false, .int .i64 0]), cellsH b6 (encStk s base)]) (fun k => [(17, intV .i64 (k : Int))]) (fun k => k ≤ x.L.length ∧ ∀ n ∈ x.L.take k, labAt labs n = some w) (fun k => x.L.length - k) 0 ⟨Nat.zero_le _, by simp⟩ rfl ?_ ?_
  · exact (.get rfl (VLe.refl _) (.refl _ _))
  rintro k ⟨hk, hall⟩
  refine Z10 ?_
  refine Cd (fun c7 => ?_) fun c7 => ?_
  ·
   obtain ⟨n, hn⟩ := getElem?_lt (xs := x.L) (k := k) (by omega)
   have hnm := List.mem_of_getElem? hn
   have hn0 := hp0.ins.L0 n hnm
   have hn1 := hall1 n hnm
   obtain ⟨w2, hw3, hw4⟩ := labAt_at (L := labs) hn0 (by omega)
   refine Z12 ?_
   refine .p (cI k (h := hn)) rfl ?_
   refine Z3 ?_
   refine .p (cI (labs.length - 1 - n.toNat) (h := hw4)) rfl ?_
   refine Z2 ?_
   refine .p (cA (h := dsame_spec)) rfl ?_
   refine Z3 ?_
   refine Cd (fun c8 => ?_) fun c8 => ?_
   ·
    refine Z15 ?_
    refine Post.retR rfl rfl ((s, 5)) (by exact plQ_no (by decide) (by rw [plS_14 hp1, hw, Option.bind_some]; exact if_neg (fun h => c8 (by have h9 := h n hnm; rw [hw3] at h9; exact Option.some.inj h9))) (by omega)) (OLe.sel [] [0, 1] rfl rfl) rfl (.cons (.ra (i := 0) FA.out FC.out rfl rfl rfl rfl) ?_ (.cons (.rt rfl) ?_ .nil))
    · exact VLe.refl _
    exact VLe.refl _
   refine Z8 ?_
   refine .round (k + 1) ⟨by omega, fun y hy => by (rw [← take_snoc hn] at hy; rcases List.mem_append.1 hy with hy | hy; exact hall y hy; (simp only [List.mem_singleton] at hy; subst hy; exact hw3.trans (by rw [Classical.not_not.1 c8])))⟩ (by omega) rfl ?_
   exact (.get rfl (VLe.int (by omega)) ((.keep 24 rfl rfl)))
  have hall2 : ∀ n ∈ x.L, labAt labs n = some w := fun n hn => hall n (by rw [List.take_of_length_le (by omega)]; exact hn)
  refine Z6 ?_
  refine .stagedF (FR := [cellsH b6 (encStk s base)]) [(0, 1), (2, 0), (4, 0), (5, 0), (1, 4), (3, 4), (6, 4), (7, 4), (8, 0), (9, 0), (10, 0), (11, 3)] 12 1 FM.out (by kernel_rfl) ?_
  refine .o rfl (opLoadOA (i := 0) FA.out FC.out rfl (.t rfl) rfl rfl) (OLe.sel [1] [0] rfl rfl) ?_
  refine Z2 ?_
  refine .p rfl (fun _ => opBuildSlice (enc := encU8) [127] FU.out FC.out rfl FZ.out rfl (.cons (.t rfl) .nil) rfl rfl rfl rfl rfl) ?_
  refine .a rfl (opBuildSliceO encU8 ([] : List UInt8) FU.out FC.out rfl FZ.out rfl .nil rfl rfl rfl rfl rfl) (fun _ _ => (OLe.sel [2] [0, 1] rfl rfl)) fun g146 _ => ?_
  refine .a rfl (opAppend (i := 0) FU.out FU.out FC.out rfl FZ.out rfl FY.out (.t rfl) (.t rfl) rfl (by simp <;> omega) (by simp <;> omega)) (fun _ _ => (OLe.sel [2] [0, 1] rfl rfl)) fun g148 _ => ?_
  refine .a rfl (OpE.shareS (G := fun g => g) (hs1 := fun _ => _) (xs := fun _ => _) (opAppend (i := 0) FU.out FU.out FC.out rfl FZ.out rfl FY.out (.t rfl) (.t rfl) rfl (by simp <;> omega) (by simp <;> omega))) (fun _ _ => (OLe.sel [1] [0] rfl rfl)) fun _ _ => ?_
  refine .a rfl (cE (h := dtakes_spec (s := s) (l := ([] ++ w) ++ [127]) (by omega))) (fun _ _ => (OLe.sel [1] [0] rfl rfl)) fun g152 h152 => ?_
  refine Z3 ?_
  refine .s rfl (opStoreOA (i := 1) FC.out rfl (.t rfl) (.t rfl) rfl rfl rfl) ?_
  refine .fin ?_
  refine Z10 ?_
  refine Cd (fun c9 => ?_) fun c9 => ?_
  ·
   refine Z12 ?_
   refine Post.retR rfl rfl (g152) (by exact plQ_no c9 (by rw [plS_14 hp1, hw, Option.bind_some]; exact (if_pos hall2).trans (by rw [show tksS s (w ++ [127]) = none from h152.no c9]; rfl)) (by have := h152.2; omega)) (OLe.sel [] [0, 1] rfl rfl) rfl (.cons (.ra (i := 0) FA.out FC.out rfl rfl rfl rfl) ?_ (.cons (.rt rfl) ?_ .nil))
   · exact VLe.refl _
   exact VLe.refl _
  refine Z5 ?_
  refine .n (cE (h := dkill_spec (s := g152.1))) rfl fun g160 h160 => ?_
  refine Z7 ?_
  refine Post.retR rfl rfl ((killS, 0)) (by exact plQ_ok (by rw [plS_14 hp1, hw, Option.bind_some]; exact (if_pos hall2).trans (by rw [show tksS s (w ++ [127]) = some g152.1 from h152.ok (Classical.not_not.1 c9)]; rfl)) (by simp [killS])) (OLe.sel [] [0, 1] rfl rfl) rfl (.cons (.ra (i := 0) FA.out FC.out rfl rfl rfl rfl) ?_ (.cons (.rt rfl) ?_ .nil))
  · exact VLe.refl _
  exact VLe.refl _
 exfalso; omega
theorem dp17_spec (hp0 : PlOk v x s labs) (hp1 : x.Code = 17) : FnE Tryz.prog 97 [aggV (encEnv v), aggV (encInstr x), aggV (encStk s base), sliceV 1 encSlT labs] [] (γ := Stk × Int) (plQ s (plS v x s labs)) (fun _ => []) (fun g => tupV [aggV (encStk g.1 base), intV .i64 g.2]) := by
 refine In 517 Tryz.func97 fun _ _ _ => ?_
 have hs5 := hp0.stk
 have hA0 := hp0.ins.A0
 have hA6 := hp0.ins.A64
 have hln := hp0.lbn
 have hE := hp0.env
 have hf1 := hE.F
 have hf2 := hE.S
 have hf3 := hE.L
 have hf4 := hE.G
 have hf5 := hE.W
 refine Z4 ?_
 refine .n (opBoxOA (.t rfl)) rfl fun b6 _ => ?_
 refine .n (opAlloc FZ.out) rfl fun b8 _ => ?_
 refine Z35 ?_
 refine Cd (fun c0 => ?_) fun c0 => ?_
 · exfalso; omega
 refine Z7 ?_
 refine Cd (fun c1 => ?_) fun c1 => ?_
 · exfalso; omega
 refine Z5 ?_
 refine Cd (fun c2 => ?_) fun c2 => ?_
 · exfalso; omega
 refine Z6 ?_
 refine Cd (fun c3 => ?_) fun c3 => ?_
 · exfalso; omega
 refine Z6 ?_
 refine Cd (fun c4 => ?_) fun c4 => ?_
 · exfalso; omega
 refine Z6 ?_
 refine Cd (fun c5 => ?_) fun c5 => ?_
 · exfalso; omega
 refine Z6 ?_
 refine Cd (fun c6 => ?_) fun c6 => ?_
 ·
  refine Z22 ?_
  refine Cd (fun c7 => ?_) fun c7 => ?_
  ·
   refine Z11 ?_
   refine Post.retR rfl rfl ((s, 2)) (by exact plQ_no (by decide) (by (rw [plS_17 hp1]; rcases c7 with (h | h) | h; (rw [getI_no h]; rfl); (cases getI v.Sigs x.A with | none => rfl | some g => exact if_neg (fun h2 => h h2.1)); (cases getI v.Sigs x.A with | none => rfl | some g => exact if_neg (fun h2 => h h2.2)))) (by omega)) (OLe.sel [] [0, 1] rfl rfl) rfl (.cons (.ra (i := 0) FA.out FC.out rfl rfl rfl rfl) ?_ (.cons (.rt rfl) ?_ .nil))
   · exact VLe.refl _
   exact VLe.refl _
  obtain ⟨sg, hw, hw2⟩ := getI_at (L := v.Sigs) hA0 (fun h => c7 (.inl (.inl h)))
  have hxB : x.B = 0 := Classical.byContradiction fun h => c7 (.inl (.inr h))
  have hvT : v.Table := Classical.byContradiction fun h => c7 (.inr h)
  have hsg := hE.ss sg (List.mem_of_getElem? hw2)
  refine Z3 ?_
  refine .stagedF (FR := [cellsH b6 (encStk s base)]) [(0, 1), (2, 0), (3, 0), (4, 0), (5, 0), (6, 0), (7, 0), (8, 0), (10, 0), (11, 0), (1, 4), (9, 4), (12, 4), (13, 4), (14, 0), (15, 0), (16, 0), (17, 3)] 18 1 FM.out (by kernel_rfl) ?_
  refine .o rfl (opLoadOA (i := 0) FA.out FC.out rfl (.t rfl) rfl rfl) (OLe.sel [1] [0] rfl rfl) ?_
  refine Z4 ?_
  refine .p rfl (fun _ => opIndexAddr (j := x.A.toNat) FU.out FC.out rfl (.t rfl) (.t rfl) (by omega) hw2) ?_
  refine Z3 ?_
  refine .p rfl (fun _ => opBuildSlice (enc := encU8) [127] FU.out FC.out rfl FZ.out rfl (.cons (.t rfl) .nil) rfl rfl rfl rfl rfl) ?_
  refine .a rfl (opBuildSliceO encU8 ([] : List UInt8) FU.out FC.out rfl FZ.out rfl .nil rfl rfl rfl rfl rfl) (fun _ _ => (OLe.sel [2] [0, 1] rfl rfl)) fun g231 _ => ?_
  refine .a rfl (opAppend (i := 0) FU.out FU.out FC.out rfl FZ.out rfl FY.out (.t rfl) (.t rfl) rfl (by simp <;> omega) (by simp <;> omega)) (fun _ _ => (OLe.sel [2] [0, 1] rfl rfl)) fun g239 _ => ?_
  refine .a rfl (OpE.shareS (G := fun g => g) (hs1 := fun _ => _) (xs := fun _ => _) (opAppend (i := 0) FU.out FU.out FC.out rfl FZ.out rfl FY.out (.t rfl) (.t rfl) rfl (by simp <;> omega) (by simp <;> omega))) (fun _ _ => (OLe.sel [1] [0] rfl rfl)) fun _ _ => ?_
  refine .a rfl (cE (h := dtakes_spec (s := s) (l := ([] ++ sg.P) ++ [127]) (by omega))) (fun _ _ => (OLe.sel [1] [0] rfl rfl)) fun g243 h243 => ?_
  refine Z3 ?_
  refine .s rfl (opStoreOA (i := 1) FC.out rfl (.t rfl) (.t rfl) rfl rfl rfl) ?_
  refine .fin ?_
  refine Z4 ?_
  refine .stagedK [(0, 1), (1, 0), (2, 0), (3, 0), (4, 0), (5, 0), (6, 0), (7, 0), (9, 0), (8, 2), (10, 3)] 11 1 FM.out (by kernel_rfl) (k := ?_)
  refine Z5 ?_
  refine .p rfl (fun _ => opIndexAddr (j := x.A.toNat) FU.out FC.out rfl (.t rfl) (.t rfl) (by omega) hw2) ?_
  refine Z3 ?_
  refine .e rfl (cE (h := dgive_spec (s := g243.1) (l := sg.R) (by have := h243.2; omega) (by omega))) fun g254 h254 => ?_
  refine .s rfl (opStoreOA (i := 0) FC.out rfl (.t rfl) (.t rfl) rfl rfl rfl) ?_
  refine .fin ?_
  refine Z6 ?_
  refine Post.retR rfl rfl ((giveS g243.1 sg.R, g243.2)) (by exact plQ_tg (i := sg.P ++ [127]) (by rw [plS_17 hp1, hw, Option.bind_some]; exact if_pos ⟨hxB, hvT⟩) h243 hsg.2) (OLe.sel [] [0, 1] rfl rfl) rfl (.cons (.ra (i := 0) FA.out FC.out rfl rfl rfl rfl) ?_ (.cons (.rt rfl) ?_ .nil))
  · exact VLe.refl _
  exact VLe.refl _
 exfalso; omega
theorem dp32_spec (hp0 : PlOk v x s labs) (hp1 : x.Code = 32) : FnE Tryz.prog 97 [aggV (encEnv v), aggV (encInstr x), aggV (encStk s base), sliceV 1 encSlT labs] [] (γ := Stk × Int) (plQ s (plS v x s labs)) (fun _ => []) (fun g => tupV [aggV (encStk g.1 base), intV .i64 g.2]) := by
 refine In 517 Tryz.func97 fun _ _ _ => ?_
 have hs5 := hp0.stk
 have hA0 := hp0.ins.A0
 have hA6 := hp0.ins.A64
 have hln := hp0.lbn
 have hE := hp0.env
 have hf1 := hE.F
 have hf2 := hE.S
 have hf3 := hE.L
 have hf4 := hE.G
 have hf5 := hE.W
 refine Z4 ?_
 refine .n (opBoxOA (.t rfl)) rfl fun b6 _ => ?_
 refine .n (opAlloc FZ.out) rfl fun b8 _ => ?_
 refine Z35 ?_
 refine Cd (fun c0 => ?_) fun c0 => ?_
 · exfalso; omega
 refine Z7 ?_
 refine Cd (fun c1 => ?_) fun c1 => ?_
 · exfalso; omega
 refine Z5 ?_
 refine Cd (fun c2 => ?_) fun c2 => ?_
 · exfalso; omega
 refine Z6 ?_
 refine Cd (fun c3 => ?_) fun c3 => ?_
 · exfalso; omega
 refine Z6 ?_
 refine Cd (fun c4 => ?_) fun c4 => ?_
 · exfalso; omega
 refine Z6 ?_
 refine Cd (fun c5 => ?_) fun c5 => ?_
 · exfalso; omega
 refine Z6 ?_
 refine Cd (fun c6 => ?_) fun c6 => ?_
 · exfalso; omega
 refine Z6 ?_
 refine Cd (fun c7 => ?_) fun c7 => ?_
 · exfalso; omega
 refine Z6 ?_
 refine Cd (fun c8 => ?_) fun c8 => ?_
 · exfalso; omega
 refine Z7 ?_
 refine Cd (fun c9 => ?_) fun c9 => ?_
 ·
  refine Z2 ?_
  refine Cd (fun c10 => ?_) fun c10 => ?_
  ·
   refine Z12 ?_
   refine Cd (fun c11 => ?_) fun c11 => ?_
   ·
    have hno := getI_no (L := v.Locals) c11
    refine Z11 ?_
    refine Post.retR rfl rfl ((s, 2)) (by exact plQ_no (by decide) (by rw [plS_32 hp1, hno]; rfl) (by omega)) (OLe.sel [] [0, 1] rfl rfl) rfl (.cons (.ra (i := 0) FA.out FC.out rfl rfl rfl rfl) ?_ (.cons (.rt rfl) ?_ .nil))
    · exact VLe.refl _
    exact VLe.refl _
   obtain ⟨t, hw, hw2⟩ := getI_at (L := v.Locals) hA0 c11
   refine Z8 ?_
   refine .p (cI x.A.toNat (h := hw2)) rfl ?_
   refine Z1 ?_
   refine .p (cB encU8 [t]) rfl ?_
   refine Z11 ?_
   refine Cd (fun c12 => ?_) fun c12 => ?_
   · exfalso; omega
   refine Z10 ?_
   refine Cd (fun c13 => ?_) fun c13 => ?_
   ·
    refine Z3 ?_
    refine .n (cE (h := dgive_spec (s := s) (l := [t]) (by omega) (by simp))) rfl fun g334 h334 => ?_
    refine Z14 ?_
    refine Post.retR rfl rfl ((giveS s [t], 0)) (by exact plQ_ok (by rw [plS_32 hp1, hw]; rfl) (by simp only [giveS, List.length_append, List.length_cons, List.length_nil]; omega)) (OLe.sel [] [0, 1] rfl rfl) rfl (.cons (.ra (i := 0) FA.out FC.out rfl rfl rfl rfl) ?_ (.cons (.rt rfl) ?_ .nil))
    · exact VLe.refl _
    exact VLe.refl _
   exfalso; omega
  exfalso; omega
 exfalso; omega
theorem dp33_spec (hp0 : PlOk v x s labs) (hp1 : x.Code = 33) : FnE Tryz.prog 97 [aggV (encEnv v), aggV (encInstr x), aggV (encStk s base), sliceV 1 encSlT labs] [] (γ := Stk × Int) (plQ s (plS v x s labs)) (fun _ => []) (fun g => tupV [aggV (encStk g.1 base), intV .i64 g.2]) := by
 refine In 517 Tryz.func97 fun _ _ _ => ?_
 have hs5 := hp0.stk
 have hA0 := hp0.ins.A0
 have hA6 := hp0.ins.A64
 have hln := hp0.lbn
 have hE := hp0.env
 have hf1 := hE.F
 have hf2 := hE.S
 have hf3 := hE.L
 have hf4 := hE.G
 have hf5 := hE.W
 refine Z4 ?_
 refine .n (opBoxOA (.t rfl)) rfl fun b6 _ => ?_
 refine .n (opAlloc FZ.out) rfl fun b8 _ => ?_
 refine Z35 ?_
 refine Cd (fun c0 => ?_) fun c0 => ?_
 · exfalso; omega
 refine Z7 ?_
 refine Cd (fun c1 => ?_) fun c1 => ?_
 · exfalso; omega
 refine Z5 ?_
 refine Cd (fun c2 => ?_) fun c2 => ?_
 · exfalso; omega
 refine Z6 ?_
 refine Cd (fun c3 => ?_) fun c3 => ?_
 · exfalso; omega
 refine Z6 ?_
 refine Cd (fun c4 => ?_) fun c4 => ?_
 · exfalso; omega
 refine Z6 ?_
 refine Cd (fun c5 => ?_) fun c5 => ?_
 · exfalso; omega
 refine Z6 ?_
 refine Cd (fun c6 => ?_) fun c6 => ?_
 · exfalso; omega
 refine Z6 ?_
 refine Cd (fun c7 => ?_) fun c7 => ?_
 · exfalso; omega
 refine Z6 ?_
 refine Cd (fun c8 => ?_) fun c8 => ?_
 · exfalso; omega
 refine Z7 ?_
 refine Cd (fun c9 => ?_) fun c9 => ?_
 · exfalso; omega
 refine Z6 ?_
 refine Cd (fun c10 => ?_) fun c10 => ?_
 ·
  refine Z2 ?_
  refine Cd (fun c11 => ?_) fun c11 => ?_
  ·
   refine Z12 ?_
   refine Cd (fun c12 => ?_) fun c12 => ?_
   ·
    have hno := getI_no (L := v.Locals) c12
    refine Z11 ?_
    refine Post.retR rfl rfl ((s, 2)) (by exact plQ_no (by decide) (by rw [plS_33 hp1, hno]; rfl) (by omega)) (OLe.sel [] [0, 1] rfl rfl) rfl (.cons (.ra (i := 0) FA.out FC.out rfl rfl rfl rfl) ?_ (.cons (.rt rfl) ?_ .nil))
    · exact VLe.refl _
    exact VLe.refl _
   obtain ⟨t, hw, hw2⟩ := getI_at (L := v.Locals) hA0 c12
   refine Z8 ?_
   refine .p (cI x.A.toNat (h := hw2)) rfl ?_
   refine Z1 ?_
   refine .p (cB encU8 [t]) rfl ?_
   refine Z11 ?_
   refine Cd (fun c13 => ?_) fun c13 => ?_
   ·
    refine Z3 ?_
    refine .n (cE (h := dtakes_spec (s := s) (l := [t]) (by omega))) rfl fun g326 h326 => ?_
    refine Z15 ?_
    refine Cd (fun c14 => ?_) fun c14 => ?_
    · exfalso; omega
    refine Z13 ?_
    refine Post.retR rfl rfl (g326) (by exact plQ_tk (by rw [plS_33 hp1, hw]; rfl) h326) (OLe.sel [] [0, 1] rfl rfl) rfl (.cons (.ra (i := 0) FA.out FC.out rfl rfl rfl rfl) ?_ (.cons (.rt rfl) ?_ .nil))
    · exact VLe.refl _
    exact VLe.refl _
   exfalso; omega
  exfalso; omega
 exfalso; omega
theorem dp34_spec (hp0 : PlOk v x s labs) (hp1 : x.Code = 34) : FnE Tryz.prog 97 [aggV (encEnv v), aggV (encInstr x), aggV (encStk s base), sliceV 1 encSlT labs] [] (γ := Stk × Int) (plQ s (plS v x s labs)) (fun _ => []) (fun g => tupV [aggV (encStk g.1 base), intV .i64 g.2]) := by
 refine In 517 Tryz.func97 fun _ _ _ => ?_
 have hs5 := hp0.stk
 have hA0 := hp0.ins.A0
 have hA6 := hp0.ins.A64
 have hln := hp0.lbn
 have hE := hp0.env
 have hf1 := hE.F
 have hf2 := hE.S
 have hf3 := hE.L
 have hf4 := hE.G
 have hf5 := hE.W
 refine Z4 ?_
 refine .n (opBoxOA (.t rfl)) rfl fun b6 _ => ?_
 refine .n (opAlloc FZ.out) rfl fun b8 _ => ?_
 refine Z35 ?_
 refine Cd (fun c0 => ?_) fun c0 => ?_
 · exfalso; omega
 refine Z7 ?_
 refine Cd (fun c1 => ?_) fun c1 => ?_
 · exfalso; omega
 refine Z5 ?_
 refine Cd (fun c2 => ?_) fun c2 => ?_
 · exfalso; omega
 refine Z6 ?_
 refine Cd (fun c3 => ?_) fun c3 => ?_
 · exfalso; omega
 refine Z6 ?_
 refine Cd (fun c4 => ?_) fun c4 => ?_
 · exfalso; omega
 refine Z6 ?_
 refine Cd (fun c5 => ?_) fun c5 => ?_
 · exfalso; omega
 refine Z6 ?_
 refine Cd (fun c6 => ?_) fun c6 => ?_
 · exfalso; omega
 refine Z6 ?_
 refine Cd (fun c7 => ?_) fun c7 => ?_
 · exfalso; omega
 refine Z6 ?_
 refine Cd (fun c8 => ?_) fun c8 => ?_
 · exfalso; omega
 refine Z7 ?_
 refine Cd (fun c9 => ?_) fun c9 => ?_
 · exfalso; omega
 refine Z6 ?_
 refine Cd (fun c10 => ?_) fun c10 => ?_
 · exfalso; omega
 refine Z5 ?_
 refine Cd (fun c11 => ?_) fun c11 => ?_
 ·
  refine Z12 ?_
  refine Cd (fun c12 => ?_) fun c12 => ?_
  ·
   have hno := getI_no (L := v.Locals) c12
   refine Z11 ?_
   refine Post.retR rfl rfl ((s, 2)) (by exact plQ_no (by decide) (by rw [plS_34 hp1, hno]; rfl) (by omega)) (OLe.sel [] [0, 1] rfl rfl) rfl (.cons (.ra (i := 0) FA.out FC.out rfl rfl rfl rfl) ?_ (.cons (.rt rfl) ?_ .nil))
   · exact VLe.refl _
   exact VLe.refl _
  obtain ⟨t, hw, hw2⟩ := getI_at (L := v.Locals) hA0 c12
  refine Z8 ?_
  refine .p (cI x.A.toNat (h := hw2)) rfl ?_
  refine Z1 ?_
  refine .p (cB encU8 [t]) rfl ?_
  refine Z11 ?_
  refine Cd (fun c13 => ?_) fun c13 => ?_
  ·
   refine Z3 ?_
   refine .n (cE (h := dtakes_spec (s := s) (l := [t]) (by omega))) rfl fun g326 h326 => ?_
   refine Z15 ?_
   refine Cd (fun c14 => ?_) fun c14 => ?_
   ·
    refine Z3 ?_
    refine .n (cE (h := dgive_spec (s := g326.1) (l := [t]) (by have := h326.2; omega) (by simp))) rfl fun g334 h334 => ?_
    refine Z14 ?_
    refine Post.retR rfl rfl ((giveS g326.1 [t], g326.2)) (by exact plQ_tg (by rw [plS_34 hp1, hw]; rfl) h326 (by simp)) (OLe.sel [] [0, 1] rfl rfl) rfl (.cons (.ra (i := 0) FA.out FC.out rfl rfl rfl rfl) ?_ (.cons (.rt rfl) ?_ .nil))
    · exact VLe.refl _
    exact VLe.refl _
   exfalso; omega
  exfalso; omega
 exfalso; omega
theorem dp35_spec (hp0 : PlOk v x s labs) (hp1 : x.Code = 35) : FnE Tryz.prog 97 [aggV (encEnv v), aggV (encInstr x), aggV (encStk s base), sliceV 1 encSlT labs] [] (γ := Stk × Int) (plQ s (plS v x s labs)) (fun _ => []) (fun g => tupV [aggV (encStk g.1 base), intV .i64 g.2]) := by
 refine In 517 Tryz.func97 fun _ _ _ => ?_
 have hs5 := hp0.stk
 have hA0 := hp0.ins.A0
 have hA6 := hp0.ins.A64
 have hln := hp0.lbn
 have hE := hp0.env
 have hf1 := hE.F
 have hf2 := hE.S
 have hf3 := hE.L
 have hf4 := hE.G
 have hf5 := hE.W
 refine Z4 ?_
 refine .n (opBoxOA (.t rfl)) rfl fun b6 _ => ?_
 refine .n (opAlloc FZ.out) rfl fun b8 _ => ?_
 refine Z35 ?_
 refine Cd (fun c0 => ?_) fun c0 => ?_
 · exfalso; omega
 refine Z7 ?_
 refine Cd (fun c1 => ?_) fun c1 => ?_
 · exfalso; omega
 refine Z5 ?_
 refine Cd (fun c2 => ?_) fun c2 => ?_
 · exfalso; omega
 refine Z6 ?_
 refine Cd (fun c3 => ?_) fun c3 => ?_
 · exfalso; omega
 refine Z6 ?_
 refine Cd (fun c4 => ?_) fun c4 => ?_
 · exfalso; omega
 refine Z6 ?_
 refine Cd (fun c5 => ?_) fun c5 => ?_
 · exfalso; omega
 refine Z6 ?_
 refine Cd (fun c6 => ?_) fun c6 => ?_
 · exfalso; omega
 refine Z6 ?_
 refine Cd (fun c7 => ?_) fun c7 => ?_
 · exfalso; omega
 refine Z6 ?_
 refine Cd (fun c8 => ?_) fun c8 => ?_
 · exfalso; omega
 refine Z7 ?_
 refine Cd (fun c9 => ?_) fun c9 => ?_
 · exfalso; omega
 refine Z6 ?_
 refine Cd (fun c10 => ?_) fun c10 => ?_
 · exfalso; omega
 refine Z5 ?_
 refine Cd (fun c11 => ?_) fun c11 => ?_
 · exfalso; omega
 refine Z7 ?_
 refine Cd (fun c12 => ?_) fun c12 => ?_
 ·
  refine Z2 ?_
  refine Cd (fun c13 => ?_) fun c13 => ?_
  ·
   refine Z12 ?_
   refine Cd (fun c14 => ?_) fun c14 => ?_
   ·
    have hno := getI_no (L := v.Globals) c14
    refine Z11 ?_
    refine Post.retR rfl rfl ((s, 2)) (by exact plQ_no (by decide) (by rw [plS_35 hp1, hno]; rfl) (by omega)) (OLe.sel [] [0, 1] rfl rfl) rfl (.cons (.ra (i := 0) FA.out FC.out rfl rfl rfl rfl) ?_ (.cons (.rt rfl) ?_ .nil))
    · exact VLe.refl _
    exact VLe.refl _
   obtain ⟨t, hw, hw2⟩ := getI_at (L := v.Globals) hA0 c14
   refine Z8 ?_
   refine .p (cI x.A.toNat (h := hw2)) rfl ?_
   refine Z1 ?_
   refine .p (cB encU8 [t]) rfl ?_
   refine Z11 ?_
   refine Cd (fun c15 => ?_) fun c15 => ?_
   ·
    refine Z4 ?_
    refine .n (cE (h := dgive_spec (s := s) (l := [t]) (by omega) (by simp))) rfl fun g360 h360 => ?_
    refine Z8 ?_
    refine Post.retR rfl rfl ((giveS s [t], 0)) (by exact plQ_ok (by rw [plS_35 hp1, hw]; rfl) (by simp only [giveS, List.length_append, List.length_cons, List.length_nil]; omega)) (OLe.sel [] [0, 1] rfl rfl) rfl (.cons (.ra (i := 0) FA.out FC.out rfl rfl rfl rfl) ?_ (.cons (.rt rfl) ?_ .nil))
    · exact VLe.refl _
    exact VLe.refl _
   exfalso; omega
  exfalso; omega
 exfalso; omega
theorem dp36_spec (hp0 : PlOk v x s labs) (hp1 : x.Code = 36) : FnE Tryz.prog 97 [aggV (encEnv v), aggV (encInstr x), aggV (encStk s base), sliceV 1 encSlT labs] [] (γ := Stk × Int) (plQ s (plS v x s labs)) (fun _ => []) (fun g => tupV [aggV (encStk g.1 base), intV .i64 g.2]) := by
 refine In 517 Tryz.func97 fun _ _ _ => ?_
 have hs5 := hp0.stk
 have hA0 := hp0.ins.A0
 have hA6 := hp0.ins.A64
 have hln := hp0.lbn
 have hE := hp0.env
 have hf1 := hE.F
 have hf2 := hE.S
 have hf3 := hE.L
 have hf4 := hE.G
 have hf5 := hE.W
 refine Z4 ?_
 refine .n (opBoxOA (.t rfl)) rfl fun b6 _ => ?_
 refine .n (opAlloc FZ.out) rfl fun b8 _ => ?_
 refine Z35 ?_
 refine Cd (fun c0 => ?_) fun c0 => ?_
 · exfalso; omega
 refine Z7 ?_
 refine Cd (fun c1 => ?_) fun c1 => ?_
 · exfalso; omega
 refine Z5 ?_
 refine Cd (fun c2 => ?_) fun c2 => ?_
 · exfalso; omega
 refine Z6 ?_
 refine Cd (fun c3 => ?_) fun c3 => ?_
 · exfalso; omega
 refine Z6 ?_
 refine Cd (fun c4 => ?_) fun c4 => ?_
 · exfalso; omega
 refine Z6 ?_
 refine Cd (fun c5 => ?_) fun c5 => ?_
 · exfalso; omega
 refine Z6 ?_
 refine Cd (fun c6 => ?_) fun c6 => ?_
 · exfalso; omega
 refine Z6 ?_
 refine Cd (fun c7 => ?_) fun c7 => ?_
 · exfalso; omega
 refine Z6 ?_
 refine Cd (fun c8 => ?_) fun c8 => ?_
 · exfalso; omega
 refine Z7 ?_
 refine Cd (fun c9 => ?_) fun c9 => ?_
 · exfalso; omega
 refine Z6 ?_
 refine Cd (fun c10 => ?_) fun c10 => ?_
 · exfalso; omega
 refine Z5 ?_
 refine Cd (fun c11 => ?_) fun c11 => ?_
 · exfalso; omega
 refine Z7 ?_
 refine Cd (fun c12 => ?_) fun c12 => ?_
 · exfalso; omega
 refine Z5 ?_
 refine Cd (fun c13 => ?_) fun c13 => ?_
 ·
  refine Z12 ?_
  refine Cd (fun c14 => ?_) fun c14 => ?_
  ·
   have hno := getI_no (L := v.Globals) c14
   refine Z11 ?_
   refine Post.retR rfl rfl ((s, 2)) (by exact plQ_no (by decide) (by rw [plS_36 hp1, hno]; rfl) (by omega)) (OLe.sel [] [0, 1] rfl rfl) rfl (.cons (.ra (i := 0) FA.out FC.out rfl rfl rfl rfl) ?_ (.cons (.rt rfl) ?_ .nil))
   · exact VLe.refl _
   exact VLe.refl _
  obtain ⟨t, hw, hw2⟩ := getI_at (L := v.Globals) hA0 c14
  refine Z8 ?_
  refine .p (cI x.A.toNat (h := hw2)) rfl ?_
  refine Z1 ?_
  refine .p (cB encU8 [t]) rfl ?_
  refine Z11 ?_
  refine Cd (fun c15 => ?_) fun c15 => ?_
  · exfalso; omega
  obtain ⟨mu, hm, hm2⟩ := getI_at (L := v.Mutable) hA0 (by rw [hE.mu]; exact c14)
  refine Z9 ?_
  refine .p (cI x.A.toNat (h := hm2)) rfl ?_
  refine Z4 ?_
  refine Cd (fun c16 => ?_) fun c16 => ?_
  ·
   refine Z11 ?_
   refine Post.retR rfl rfl ((s, 5)) (by exact plQ_no (by decide) (by rw [plS_36 hp1, hw, Option.bind_some, hm, Option.bind_some]; exact if_neg c16) (by omega)) (OLe.sel [] [0, 1] rfl rfl) rfl (.cons (.ra (i := 0) FA.out FC.out rfl rfl rfl rfl) ?_ (.cons (.rt rfl) ?_ .nil))
   · exact VLe.refl _
   exact VLe.refl _
  refine Z6 ?_
  refine .n (cE (h := dtakes_spec (s := s) (l := [t]) (by omega))) rfl fun g371 h371 => ?_
  refine Z9 ?_
  refine Post.retR rfl rfl (g371) (by exact plQ_tk (by rw [plS_36 hp1, hw, Option.bind_some, hm, Option.bind_some]; exact if_pos (Classical.not_not.1 c16)) h371) (OLe.sel [] [0, 1] rfl rfl) rfl (.cons (.ra (i := 0) FA.out FC.out rfl rfl rfl rfl) ?_ (.cons (.rt rfl) ?_ .nil))
  · exact VLe.refl _
  exact VLe.refl _
 exfalso; omega
theorem dpform_spec (hp0 : PlOk v x s labs) (hp1 : ¬ ctlC x.Code) (hp2 : ¬ varC x.Code) (hp3 : ¬ callC x.Code) (hp4 : formR x.Code < 8 ∨ 10 < formR x.Code) : FnE Tryz.prog 97 [aggV (encEnv v), aggV (encInstr x), aggV (encStk s base), sliceV 1 encSlT labs] [] (γ := Stk × Int) (plQ s (plS v x s labs)) (fun _ => []) (fun g => tupV [aggV (encStk g.1 base), intV .i64 g.2]) := by
 refine In 517 Tryz.func97 fun _ _ _ => ?_
 have hs5 := hp0.stk
 have hA0 := hp0.ins.A0
 have hA6 := hp0.ins.A64
 have hln := hp0.lbn
 have hE := hp0.env
 have hf1 := hE.F
 have hf2 := hE.S
 have hf3 := hE.L
 have hf4 := hE.G
 have hf5 := hE.W
 have hp1b := hp1
 have hp2b := hp2
 have hp3b := hp3
 unfold ctlC at hp1b
 unfold varC at hp2b
 unfold callC at hp3b
 have htl := takes_len x.Code
 refine Z4 ?_
 refine .n (opBoxOA (.t rfl)) rfl fun b6 _ => ?_
 refine .n (opAlloc FZ.out) rfl fun b8 _ => ?_
 refine Z35 ?_
 refine Cd (fun c0 => ?_) fun c0 => ?_
 · exfalso; omega
 refine Z7 ?_
 refine Cd (fun c1 => ?_) fun c1 => ?_
 · exfalso; omega
 refine Z5 ?_
 refine Cd (fun c2 => ?_) fun c2 => ?_
 · exfalso; omega
 refine Z6 ?_
 refine Cd (fun c3 => ?_) fun c3 => ?_
 · exfalso; omega
 refine Z6 ?_
 refine Cd (fun c4 => ?_) fun c4 => ?_
 · exfalso; omega
 refine Z6 ?_
 refine Cd (fun c5 => ?_) fun c5 => ?_
 · exfalso; omega
 refine Z6 ?_
 refine Cd (fun c6 => ?_) fun c6 => ?_
 · exfalso; omega
 refine Z6 ?_
 refine Cd (fun c7 => ?_) fun c7 => ?_
 · exfalso; omega
 refine Z6 ?_
 refine Cd (fun c8 => ?_) fun c8 => ?_
 · exfalso; omega
 refine Z7 ?_
 refine Cd (fun c9 => ?_) fun c9 => ?_
 · exfalso; omega
 refine Z6 ?_
 refine Cd (fun c10 => ?_) fun c10 => ?_
 · exfalso; omega
 refine Z5 ?_
 refine Cd (fun c11 => ?_) fun c11 => ?_
 · exfalso; omega
 refine Z7 ?_
 refine Cd (fun c12 => ?_) fun c12 => ?_
 · exfalso; omega
 refine Z5 ?_
 refine Cd (fun c13 => ?_) fun c13 => ?_
 · exfalso; omega
 refine Z7 ?_
 refine .p (cA (h := rform_spec)) rfl ?_
 refine Z7 ?_
 refine .p (cA (h := rtakes_spec)) rfl ?_
 refine Z18 ?_
 refine Cd (fun c14 => ?_) fun c14 => ?_
 ·
  refine Z4 ?_
  refine .n (cE (h := dtakes_spec (s := s) (l := (takesR x.Code).1) (by omega))) rfl fun g392 h392 => ?_
  refine Z11 ?_
  refine .n (cE (h := dgive_spec (s := g392.1) (l := (takesR x.Code).2) (by have := h392.2; omega) (by omega))) rfl fun g397 h397 => ?_
  refine Z7 ?_
  refine Post.retR rfl rfl ((giveS g392.1 (takesR x.Code).2, g392.2)) (by exact plQ_tg (plS_form hp1 hp2 hp3 hp4) h392 (by omega)) (OLe.sel [] [0, 1] rfl rfl) rfl (.cons (.ra (i := 0) FA.out FC.out rfl rfl rfl rfl) ?_ (.cons (.rt rfl) ?_ .nil))
  · exact VLe.refl _
  exact VLe.refl _
 exact absurd hp4 c14
end Go.Proofs.YtpahnbgfmhcndaaGreatDoor
end
