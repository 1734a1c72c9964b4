/-
  The module of one function that does nothing, its checker, what is looked for; small rules.
-/
import Derived.Test.YtghmenjcnopibaaGreatDoorM13B
import Derived.Test.YtghmenjcnopibaaGreatDoorM13C
import Derived.Test.YtghmenjcnopibaaGreatDoorO10A
import Derived.Test.YtghmenjcnopibaaGreatDoorHlW
namespace Go.Hl
open Go.RowKit
set_option linter.unusedVariables false

abbrev nV (n : Int) : VP := intV .i64 n
def endI : InstrD := ⟨11, 0, 0, 0, []⟩
def bodyE : BodyD := ⟨[], [endI]⟩
def modE : ModD := ⟨[⟨[], []⟩], [], [⟨0, bodyE⟩], -1, [], [], [], -1, [], []⟩
instance (m : ModD) : FlatL (encMod m) := by unfold encMod; infer_instance
def encFd (x : Int × Int × Int) : List VP := [nV x.1, nV x.2.1, nV x.2.2]
instance : Enc 3 encFd := ⟨fun _ => rfl, fun x q h => by simp only [encFd, List.mem_cons, List.not_mem_nil, or_false] at h; rcases h with h | h | h <;> rw [h] <;> infer_instance⟩
instance (x : Int × Int × Int) : FlatL (encFd x) := FlatL.of x
def encSl (l : List UInt8) : List VP := [sliceV 1 encU8 l]
instance : Enc 1 encSl := ⟨fun _ => rfl, fun x q h => by simp only [encSl, List.mem_cons, List.not_mem_nil, or_false] at h; rw [h]; infer_instance⟩
/-- a block that is open: the function's own -/
def encBk (h : Int) : List VP := [propV False, propV False, sliceV 1 encU8 [], nV h, propV False]
instance : Enc 5 encBk := ⟨fun _ => rfl, fun x q h => by simp only [encBk, List.mem_cons, List.not_mem_nil, or_false] at h; rcases h with h | h | h | h | h <;> rw [h] <;> infer_instance⟩
instance (x : Int) : FlatL (encBk x) := FlatL.of x
def zeroFd : List VP := [strV [], nV 0, nV 0, nV 0]
/-- map of things -/
abbrev BV (b : Bool) : VP := propV (b = true)
theorem OLe.cellsL {b : Nat} {cs cs' : List VP} (h : LeL cs cs') {r : List HP} : OLe (cellsH b cs :: r) (cellsH b cs' :: r) := fun F S w ⟨F1, F2, h1, h2, ⟨f1, arr, T, hh, hn, hc⟩, h4⟩ =>
  ⟨F1, F2, h1, h2, ⟨f1, arr, T, hh, by rw [hn, h.len], fun j q' hj => let ⟨q, k1, k2⟩ := h.get j q' hj; let ⟨u, hu, hq⟩ := hc j q k1; ⟨u, hu, k2 _ _ _ hq⟩⟩, h4⟩
theorem falseBV : VLe (exactV (.bool false)) (propV False) := fun S w v h => ⟨false, h, by simp⟩

def bk : Nat → Prop
  | 0 => False
  | _ => True
/-- what counts the blocks of the body -/
abbrev nestH (nb : Nat) (p : Prop) : HP := cellsH nb [sliceV 5 encInstr [endI], exactV (.slice none 0 0), exactV (.slice none 0 0), propV p, exactV (.int .i64 0)]
/-- the checker of the body -/
abbrev chkH (cb : Nat) (st bl : VP) : HP := cellsH cb [ptrV (encMod modE), sliceV 1 encU8 [], sliceV 1 encU8 [], sliceV 1 encU8 [], st, bl]
abbrev S0V : VP := sliceV 1 encU8 []
abbrev B0V : VP := sliceV 5 encBk [0]
abbrev B1V : VP := sliceV 5 encBk []
def chkK (cb : Nat) : Nat → HP
  | 0 => chkH cb emptyV B0V
  | _ => chkH cb S0V B1V
def hgtK : Nat → VP
  | 0 => emptyV
  | _ => sliceV 1 encInt [0]
/-- what is looked for -/
abbrev lookH (kb mb : Nat) (o : VP) : HP := cellsH kb [ptrV (encMod modE), exactV (.map (some mb)), o]
abbrev namH (mb : Nat) (D : List (PairK × Bool)) : HP := mapH mb kpair (fun b : Bool => propV (b = true)) D
def expD : Nat → List (PairK × Bool)
  | 0 => updD [] ((0, -1) : PairK) true
  | _ => updD (updD [] ((0, -1) : PairK) true) ((1, 0) : PairK) true
def outK (kind : Int) : Nat → VP
  | 0 => emptyV
  | _ => sliceV 3 encFd [(kind, 0, 0)]
def namesK : List (List UInt8) := [[117, 110, 117, 115, 101, 100], [105, 100, 108, 101], [115, 116, 105, 108, 108], [98, 97, 114, 101], [100, 101, 97, 100], [108, 111, 99, 97, 108]]
def kindN (kind : Int) : List UInt8 := if 0 ≤ kind ∧ kind < 6 then namesK.getD kind.toNat [] else []
theorem kindN_in {kind : Int} (h : 0 ≤ kind ∧ kind < 6) : kindN kind = namesK.getD kind.toNat [] := if_pos h
theorem kindN_out {kind : Int} (h : kind < 0 ∨ kind ≥ 6) : kindN kind = [] := if_neg (by omega)
theorem look_no {a : PairK} {D : List (PairK × Bool)} (h : lookD D a = none) : VLe (optV (fun b : Bool => propV (b = true)) (exactV (.bool false)) (lookD D a)) (propV False) := by
  rw [h]; exact falseBV
theorem look_yes {a : PairK} {D : List (PairK × Bool)} (h : lookD D a = some true) : VLe (optV (fun b : Bool => propV (b = true)) (exactV (.bool false)) (lookD D a)) (propV True) := by
  rw [h]; exact VLe.prop (by simp)
theorem exp00 : lookD (expD 1) ((0, 0) : PairK) = none := by decide
theorem exp10 : lookD (expD 1) ((1, 0) : PairK) = some true := by decide
def putK : Nat → List UInt8
  | 0 => [0]
  | _ => [0, 11]
theorem find11 : ∃ i, findI 11 = some i ∧ i.Form = 0 := by
  refine ⟨_, rfl, rfl⟩
theorem smallE : SmallM modE := by
  refine SmallM.of ⟨?_, ?_, ?_, ?_, ?_, ?_, ?_, ?_⟩ ?_ ?_ ?_ ?_ ?_ ?_ <;> simp [modE]
  constructor <;> simp [bodyE, endI]
theorem Post.retV {P : Program} {fn : Func} {c : Ctx} {γ : Type} {φ : γ → Prop} {hs' : γ → List HP} {q : γ → VP} {hs : List HP} {env : Env} (hr : fn.results = #[]) (g : γ) (hφ : φ g) (hh : ∀ F S w, Own hs F S w → Own (hs' g) F S w) (hq : q g = tupV []) (hdf : c.df = [] := by rfl) : EndT (Post P fn c φ hs' q) .ret c hs env :=
  Post.retR (rs := []) (qs := []) (by rw [hr]) rfl g hφ hh hq .nil hdf
theorem Post.retR0 {P : Program} {fn : Func} {c : Ctx} {γ : Type} {φ : γ → Prop} {hs' : γ → List HP} {q : γ → VP} {hs : List HP} {env : Env} (hr : fn.results = #[]) (g : γ) (hφ : φ g) (hh : ∀ F S w, Own hs F S w → Own (hs' g) F S w) (hq : q g = tupV []) (hdf : c.df = [] := by rfl) : EndT (Post P fn c φ hs' q) .normal c hs env :=
  fun a w hst => Post.retV hr g hφ hh hq hdf a w hst
section
variable {P : Program} {hs : List HP} {env : Env} {q : VP} {dst : Option Tmp} {ty T T2 T' E : TypeId} {pos : String} {after : Array Edge} {gd : Option (Nat × Bool)} {x y z : Operand}
theorem opNo {o : Oper} {q : VP} (h : False) : OpP P hs env o q := h.elim
/-- nothing behind nothing -/
theorem opAppend0 {α : Type} {n : Nat} {enc : α → List VP} {E2 : TypeId} [he : Enc n enc] (hT : P.underlying T = some (.slice E)) (hT2 : P.underlying T2 = some (.slice E2)) (hn : P.cellsOf E = n) (h0 : Nat.blt 0 n = true)
    (hx : Opd env x emptyV) (hy : Opd env y (sliceV n enc [])) :
    OpP P hs env ⟨dst, .call ⟨.builtin .append, #[x, y], #[T, T2]⟩, ty, pos, after, gd⟩ emptyV := by
  intro a w S F h1 h2 h3 h4 hev K Q hk
  have hn0 : 0 < n := by simpa using h0
  obtain ⟨base, hv⟩ := hx S w a hev
  obtain ⟨ya, ycap, hyv, hyc, hym, hyel⟩ := hy S w a hev
  obtain ⟨vy, hvy1, hvy2, hvy3⟩ := firstCells_shared (P := P) he.len hn0 hyel hyc
  have hsz := run_sizeOf hn h0 w
  have hr : (execOp a.eval ⟨dst, .call ⟨.builtin .append, #[x, y], #[T, T2]⟩, ty, pos, after, gd⟩).run P w = .ok (.value (.slice base 0 0)) w := by
    have h5 := hvy2 w.drawn
    have : vy = [] := List.length_eq_zero_iff.1 (by rw [hvy1]; simp)
    subst this
    simp at h5
    cases base <;> simp [execOp, resolve, invoke, builtin, Builtin.append_, hv, hyv, run_underlying hT, run_underlying hT2, hsz, Builtin.lenOf, h5, storeCells]
  unfold Oper.wp
  rw [hr]
  exact hk _ w S (Grow.refl _ _) ⟨_, rfl⟩
theorem opLenG {α : Type} {g : SB} {n i : Nat} {enc : α → List VP} {xs : List α} {ats : Array TypeId} (hat : ats[0]? = some T) (hT : P.underlying T = some (.slice E)) (hx : Opd env x (exactV (sval g xs.length))) (hi : hs[i]? = some (sliceH g n enc xs)) :
    OpP P hs env ⟨dst, .call ⟨.builtin .len, #[x], ats⟩, ty, pos, after, gd⟩ (nV (xs.length : Int)) :=
  OpP.of_read fun ρ w S F ho he => by
    have hv := he.o _ _ hx; simp only [exactV] at hv
    refine ⟨.int .i64 (xs.length : Int), ?_, rfl⟩
    obtain ⟨F1, _, hp⟩ := ho.get hi
    cases g with
    | none =>
      have hp' : xs = [] := hp
      subst hp'
      simp [execOp, resolve, invoke, builtin, Builtin.len_, hat, hv, sval, run_underlying hT, goInt]
    | some p => simp [execOp, resolve, invoke, builtin, Builtin.len_, hat, hv, sval, run_underlying hT, goInt]
theorem opCapE {ats : Array TypeId} (hat : ats[0]? = some T) (hT : P.underlying T = some (.slice E)) (hx : Opd env x emptyV) : OpP P hs env ⟨dst, .call ⟨.builtin .cap, #[x], ats⟩, ty, pos, after, gd⟩ (nV 0) :=
  OpP.of_read fun ρ w S F _ he => by
    obtain ⟨a, hv⟩ := he.o _ _ hx
    exact ⟨_, by simp [execOp, resolve, invoke, builtin, Builtin.cap_, hat, hv, run_underlying hT, goInt], rfl⟩
end
end Go.Hl
namespace Go.Proofs.YtghmenjcnopibaaGreatDoor
open Go.Hl
theorem fit_modE : fitP modE = ([], 0) := by
  refine fit_none fun p hp => ?_
  simp only [partsM, List.mem_cons, List.not_mem_nil, or_false] at hp
  simp only [ne_eq, Classical.not_not]
  rcases hp with rfl | rfl | rfl | rfl | rfl | rfl | rfl | rfl | rfl | rfl <;> simp [modE, bodyE, endI, sigsE, importsE, funcsE, tableE, memsE, globalsE, exportsE, startE, elemsE, datasE, manyE, firstE, countM, whenE, onI, sigE, funcE, RightP, TypedP, InP]
end Go.Proofs.YtghmenjcnopibaaGreatDoor
