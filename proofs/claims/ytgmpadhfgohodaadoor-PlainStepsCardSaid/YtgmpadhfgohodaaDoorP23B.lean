/-
  Rules: room that is made for a slice, functions as values that read package variables.
-/
import Derived.Test.YtgmpadhfgohodaaDoorP23A
namespace Go.Hl
open Go.RowKit
set_option linter.unusedVariables false

section
variable {P : Program} {hs : List HP} {env : Env} {q : VP} {dst : Option Tmp} {ty T T' E : TypeId} {pos : String} {after : Array Edge} {gd : Option (Nat × Bool)} {x y z : Operand}

/-- what is known of a value, more by what is owned -/
theorem OpP.leH {o : Oper} {q' : VP} (h : OpP P hs env o q) (hq : ∀ F S w v, Own hs F S w → q.p S w v → q'.p S w v) : OpP P hs env o q' :=
  fun a w S F h1 h2 h3 h4 h5 K Q hk => h a w S F h1 h2 h3 h4 h5 K Q fun v w' S' g hv => hk v w' S' g (hq F _ _ _ (g.owns h1 h2 h4) hv)
/-- a function that reads a package variable, as a value -/
theorem funV_dup {A : Type} {ok : A → Prop} {arg : A → List VP} {res : A → VP} {f : FuncId} {vh : HP} [dv : DupH vh] (hcb : callB P f = true) (hf : ∀ a, ok a → FnE P f (arg a) [vh] (γ := Unit) (fun _ => True) (fun _ => []) (fun _ => res a)) {F S : BS} {w : World} (hv : vh.p F S w) :
    (funV P ok arg res).p S w (.func (.func f) #[] #[]) := by
  refine ⟨f, _, _, rfl, hcb, fun S' w' g1 g2 g3 a ha vs hvs => ?_⟩
  have hv' : vh.p (fun _ => False) S' w' := vh.mono (fun _ h => h) g1 (fun _ h => h.elim) g2 (dv.dup hv)
  have h := hf a ha w' S' (fun _ => False) (#[] ++ vs.toArray ++ #[]) g3 (fun _ h => h.elim) (fun _ _ h => h) ⟨fun _ => False, fun _ => False, fun _ h => h.elim, fun _ h => h.elim, hv', trivial⟩ (by simpa using hvs)
  refine h.mono ?_
  rintro e w'' ⟨v, S'', F'', _, rfl, hsit, _, _, hq⟩
  exact ⟨v, S'', F'', rfl, hsit, hq⟩
theorem funV_pure {A : Type} {ok : A → Prop} {arg : A → List VP} {res : A → VP} {f : FuncId} (hcb : callB P f = true) (hf : ∀ a, ok a → FnP P f (arg a) (res a)) (S : BS) (w : World) :
    (funV P ok arg res).p S w (.func (.func f) #[] #[]) := funV_of hcb hf S w _ rfl

/-- 'append(nil, make([]E, n)...)' -/
theorem opAppendMk {α : Type} {n N by_ : Nat} {i : Int} {k : IntKind} {enc : α → List VP} {zs : List Value} (hT : P.underlying T = some (.slice E)) (hT2 : P.underlying T' = some (.int k)) (hn : P.cellsOf E = N) (h0 : Nat.blt 0 N = true)
    (hz : zeroB P E = some zs) (hzl : zs.length = N) (hb : P.bytesOf E = by_) (hx : Opd env x (exactV (.slice none 0 0))) (hy : Opd env y (intV .i64 i)) (hi : i = (n : Int)) (hn1 : 0 < n) (hroom : (2 * n + 256) * by_ ≤ 281474976710656) (hlen : n ≤ 281474976710656) :
    OpE P hs env ⟨dst, .call ⟨.builtin .append, #[x, y], #[T, T']⟩, ty, pos, after, gd⟩ (γ := Nat × Nat) (fun _ => True) (fun g => sliceH (some g) N enc ([] : List α) :: hs) (fun g => exactV (sval (some g) n)) := by
  intro c a w S F hsit hown hev K Q hk
  have hv := hx S w a hev; simp only [exactV] at hv
  have hyv := hy S w a hev; simp only [exactV] at hyv
  subst hi
  have hsz := run_sizeOf hn h0 w
  obtain ⟨info, hi1, hi2⟩ := run_typeInfo' hn h0 w
  have hbytes : info.bytes = by_ := hi2.trans hb
  have hw : IntKind.i64.wrap (n : Int) = (n : Int) := wrap_fits (fits_i64 (by omega) (by omega))
  have hnn : ¬ ((n : Int) < 0) := by omega
  have hns := nextslicecap_le (need := n) (cap := 0) (by omega)
  have hcapB : Builtin.nextslicecap n 0 * by_ ≤ 281474976710656 := Nat.le_trans (Nat.mul_le_mul_right _ hns) hroom
  obtain ⟨zv', hz1', hz2'⟩ := run_zero hz w.drew
  obtain ⟨info', hi1', hi2'⟩ := run_typeInfo' hn h0 w.drew
  generalize hcut : Question.cut (.appendCap n 0 E) (w.tape w.drawn (.appendCap n 0 E)) = newCap
  have hge : n ≤ newCap := by rw [← hcut]; simp only [Question.cut]; omega
  have hN0 : 0 < N := by simpa using h0
  have hnN : ¬ (n * N = 0) := Nat.mul_ne_zero (by omega) (by omega)
  let row : Array Value := Builtin.zeroCells zv'.cells n ++ Builtin.zeroCells zv'.cells (newCap - n)
  have hr : (execOp a.eval ⟨dst, .call ⟨.builtin .append, #[x, y], #[T, T']⟩, ty, pos, after, gd⟩).run P w = .ok (.value (.slice (some ⟨w.heap.size, 0, none⟩) n newCap)) (w.drew.alloc (.cells row E)) := by
    have hnot : ¬ (n ≤ 0) := by omega
    have hn0 : ¬ (n = 0) := by omega
    have hNn0 : ¬ (N = 0) := by omega
    have hbig : ¬ ((9223372036854775807 : Int) < (n : Int)) := by omega
    have hbig2 : ¬ (281474976710656 < Builtin.nextslicecap n 0 * by_) := by omega
    have hnb : n * by_ ≤ 281474976710656 := Nat.le_trans (Nat.mul_le_mul_right _ (by omega)) hroom
    have hbig3 : ¬ ((281474976710656 : Int) < (n : Int) * (by_ : Int)) := by rw [← Int.natCast_mul]; omega
    have hvx2' : (Builtin.firstCells N 0 (.slice none 0 0)).run P w.drew = .ok #[] w.drew := by simp [Builtin.firstCells]
    simp [execOp, resolve, invoke, builtin, Builtin.append_, hv, hyv, run_underlying hT, run_underlying hT2, hsz, asInt, asIntOf, hw, hnn, hn0, hNn0, hbig, hi1, hbytes, hbig2, hbig3, hnN, Question.forced, hcut, hi1', hvx2', hz1', newRow, row]
    done
  generalize hw' : w.drew.alloc (.cells row E) = w' at hr
  unfold Oper.wp
  rw [hr]
  have hs1 : Sit c w.drew S F := hsit.grow (Grow.drew w S)
  have ho1 : Own hs F S w.drew := (Grow.drew w S).owns hsit.domS hsit.domF hown
  subst hw'
  refine hk (w.heap.size, newCap) _ _ S _ trivial (hs1.newOwn _) (fun _ h => h) (fun k hk => heap_push_old w _ k (hsit.domS k hk)) (ho1.newOwn hsit.domS hsit.domF _ ⟨rfl, Nat.zero_le _, by simp, row, E, by show (w.heap.push _)[w.heap.size]? = _; simp, ?_, fun j q h => by simp at h⟩) rfl
  simp only [row, Array.size_append]
  have hsz0 : ∀ m, (Builtin.zeroCells zv'.cells m).size = m * N := fun m => by rw [hz2']; simp [Builtin.zeroCells, hzl]
  rw [hsz0, hsz0, ← Nat.add_mul, Nat.add_sub_cancel' hge]
/-- the first ones of what is owned, of none -/
theorem opSliceOwn0 {b cap len N : Nat} {i : Int} (hT : P.underlying T = some (.slice E)) (hn : P.cellsOf E = N) (h0 : Nat.blt 0 N = true) (hx : Opd env x (exactV (sval (some (b, cap)) len))) (hy : Opd env y (intV .i64 i)) (hi : i = 0) :
    OpP P hs env ⟨dst, .slice T x none (some y) none, ty, pos, after, gd⟩ (exactV (sval (some (b, cap)) 0)) :=
  OpP.of_read fun ρ w S F _ he => by
    have hv := he.o _ _ hx; have h2 := he.o _ _ hy; simp only [exactV, sval] at hv h2
    subst hi
    have hs := run_sizeOf (T := E) hn h0 w
    refine ⟨.slice (some ⟨b, 0, none⟩) 0 cap, ?_, rfl⟩
    simp [execOp, hv, h2, Instr.sliceAt, Instr.slice, Instr.sliceBounds, Instr.sliceBound, asIntOf, run_underlying hT, hs, Addr.add]
def encSl (l : List InstrD) : List VP := [sliceV 5 encInstr l]
instance : Enc 1 encSl := ⟨fun _ => rfl, fun x q h => by simp only [encSl, List.mem_cons, List.not_mem_nil, or_false] at h; subst h; infer_instance⟩
theorem opCapN {ats : Array TypeId} (hat : ats[0]? = some T) (hT : P.underlying T = some (.slice E)) (hx : Opd env x (exactV (.slice none 0 0))) : OpP P hs env ⟨dst, .call ⟨.builtin .cap, #[x], ats⟩, ty, pos, after, gd⟩ (intV .i64 0) :=
  OpP.of_read fun ρ w S F _ he => by
    have hv := he.o _ _ hx; simp only [exactV] at hv
    exact ⟨_, by simp [execOp, resolve, invoke, builtin, Builtin.cap_, hat, hv, run_underlying hT, goInt], rfl⟩
/-- a list's parts, put together -/
theorem flat_snoc {α : Type} {ls : List (List α)} {k : Nat} {l : List α} (h : ls[k]? = some l) : (ls.take (k + 1)).flatten = (ls.take k).flatten ++ l := by
  rw [List.take_add_one, h]; simp
theorem flat_part {α : Type} (ls : List (List α)) (k : Nat) : (ls.take k).flatten.length ≤ ls.flatten.length := by
  have h : (ls.take k).flatten ++ (ls.drop k).flatten = ls.flatten := by rw [← List.flatten_append, List.take_append_drop]
  have := congrArg List.length h
  rw [List.length_append] at this; omega
end
end Go.Hl
