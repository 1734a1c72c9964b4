/-
  What the statement's proof leans on, several texts in one (packed by a program).
-/
import Derived.Test.YtgboekefmedapaaGreatDoorSNH
import Derived.Defers
import Derived.Recover
set_option linter.all false
set_option maxRecDepth 1000000
set_option maxHeartbeats 4000000
section
namespace Go.Hl
open Go.RowKit
def faultV (tf : TypeId) (e : Int) : Value := .iface tf (.agg #[.int .i64 e])
def FaultC (tf : TypeId) (ch : List PanicEntry) : Prop := ∃ e : Int, e ≠ 0 ∧ ch = [{ v := faultV tf e, recovered := false }]
variable {γ : Type}
def EndX (c : Ctx) (tf : TypeId) (D : Prop) (φ : γ → Prop) (hs' : γ → List HP) (q : γ → VP) (e : Ending) (w' : World) : Prop :=
 (∃ v S' F' g, e = .returned v ∧ Sit ⟨c.w0, c.S0, c.M, 0, none, []⟩ w' S' F' ∧ φ g ∧ Own (hs' g) F' S' w' ∧ (q g).p S' w' v) ∨ (D ∧ ∃ ch S' F', e = .panicked ch ∧ FaultC tf ch ∧ Sit ⟨c.w0, c.S0, c.M, 0, none, []⟩ w' S' F')
def PostX (P : Program) (fn : Func) (c : Ctx) (tf : TypeId) (D : Prop) (φ : γ → Prop) (hs' : γ → List HP) (q : γ → VP) : Exit → Act → World → Prop :=
 bodyPost P fn fun e w' => EndX c tf D φ hs' q e w'
class PanQ (tf : TypeId) (D : outParam Prop) (Q : Exit → Act → World → Prop) (c : Ctx) : Prop where
 pan : ∀ {ch : List PanicEntry} {hs : List HP} {env : Env}, D → FaultC tf ch → EndT Q (.panic ch) c hs env
instance {P : Program} {fn : Func} {w0 : World} {S0 M : BS} {n : Nat} {ro : Option Nat} {tf : TypeId} {D : Prop} {γ : Type} (φ : γ → Prop) (hs' : γ → List HP) (q : γ → VP) : PanQ tf D (PostX P fn ⟨w0, S0, M, n, ro, []⟩ tf D φ hs' q) ⟨w0, S0, M, n, ro, []⟩ :=
 ⟨fun {ch hs env} hD hc a w hst => by
  obtain ⟨h1, h2, S, F, h3, h4, h5⟩ := hst
  exact ⟨h1, .inr ⟨hD, ch, S, F, rfl, hc, ⟨h3.os, h3.tape, h3.output, h3.size, h3.kept, h3.disj, h3.domS, h3.domF, h3.own, h3.shr, h3.base⟩⟩⟩⟩
instance {tf : TypeId} {D : Prop} {Q : Exit → Act → World → Prop} {K : Act → World → Prop} {c : Ctx} [h : PanQ tf D Q c] : PanQ tf D (Exit.then K Q) c := ⟨fun hD hc => h.pan hD hc⟩
instance {tf : TypeId} {D : Prop} {Q : Exit → Act → World → Prop} {id : Nat} {c : Ctx} [h : PanQ tf D Q c] : PanQ tf D (Exit.inBlock id Q) c := ⟨fun hD hc => h.pan hD hc⟩
section
variable {P : Program} {tf : TypeId} {ops : Array Oper} {Q : Exit → Act → World → Prop} {c : Ctx} {l : List Oper} {hs : List HP} {env : Env} {ty : TypeId} {pos : String} {after : Array Edge} {dst : Option Tmp} {gd : Option (Nat × Bool)}
theorem opLenOw {α : Type} {g : SB} {n i len : Nat} {enc : α → List VP} {xs : List α} {T E : TypeId} {x : Operand} {ats : Array TypeId} (hat : ats[0]? = some T) (hT : P.underlying T = some (.slice E)) (hx : Opd env x (exactV (sval g len))) (hi : hs[i]? = some (sliceH g n enc xs)) (hl : len = xs.length) :
    OpP P hs env ⟨dst, .call ⟨.builtin .len, #[x], ats⟩, ty, pos, after, gd⟩ (intV .i64 (len : Int)) :=
  OpP.of_read fun ρ w S F ho he => by
    have hv := he.o _ _ hx; simp only [exactV] at hv
    refine ⟨.int .i64 (len : Int), ?_, rfl⟩
    obtain ⟨F1, _, hp⟩ := ho.get hi
    cases g with
    | none =>
      have hp' : xs = [] := hp
      subst hp'
      subst hl
      simp [execOp, resolve, invoke, builtin, Builtin.len_, hat, hv, sval, run_underlying hT, goInt]
    | some p => simp [execOp, resolve, invoke, builtin, Builtin.len_, hat, hv, sval, run_underlying hT, goInt]
end
variable {env : Env} {P : Program} {hs : List HP} {fn : Func} {φ : γ → Prop} {hs' : γ → List HP}
theorem Post.retV {c : Ctx} {q : γ → VP} (hr : fn.results = #[]) (g : γ) (hφ : φ g) (hh : ∀ F S w, Own hs F S w → Own (hs' g) F S w) (hq : q g = tupV []) (hdf : c.df = [] := by rfl) : EndT (Post P fn c φ hs' q) .ret c hs env :=
 Post.retR (rs := []) (qs := []) (by rw [hr]) rfl g hφ hh hq .nil hdf
theorem Post.retR0 {c : Ctx} {q : γ → VP} (hr : fn.results = #[]) (g : γ) (hφ : φ g) (hh : ∀ F S w, Own hs F S w → Own (hs' g) F S w) (hq : q g = tupV []) (hdf : c.df = [] := by rfl) : EndT (Post P fn c φ hs' q) .normal c hs env :=
 fun a w hst => Post.retV hr g hφ hh hq hdf a w hst
class FA (P : Program) (T : TypeId) (b : outParam Bool) : Prop where
 out : aggB P T = some b
class FC (P : Program) (T : TypeId) (n : outParam Nat) : Prop where
 out : P.cellsOf T = n
class FU (P : Program) (T : TypeId) (u : outParam TypeDesc) : Prop where
 out : P.underlying T = some u
class FF (P : Program) (T : TypeId) (f : Nat) (k : outParam Nat) : Prop where
 out : fieldB P T f = some k
class FZ (P : Program) (T : TypeId) (z : outParam (List Value)) : Prop where
 out : zeroB P T = some z
class FP (P : Program) (T : TypeId) (l : outParam (List (Nat × Nat))) : Prop where
 out : placesB P T = some l
class FY (P : Program) (T : TypeId) (n : outParam Nat) : Prop where
 out : P.bytesOf T = n
class FB (P : Program) (f : FuncId) : Prop where
 out : callB P f = true
class FR (P : Program) (T : TypeId) (x : outParam (Nat × Nat)) : Prop where
 out : arrB P T = some x
class FM (P : Program) : Prop where
 out : P.follows .mixedOrders = true
def Via (a b : VP) : Prop := VLe a b
variable {q : VP}
theorem Via.id : Via q q := VLe.refl q
variable {c : Prop}
theorem Via.when (h : c) : Via (whenV c q) q := fun _ _ _ k => k.1 h
theorem Via.under {p : Prop} (h : c) : Via (whenV (c ∧ p) q) (whenV p q) := fun _ _ _ k => ⟨fun hp => k.1 ⟨h, hp⟩, fun hp => k.2 fun h' => hp h'.2⟩
theorem Opd.via {t : Nat} {a : VP} (hl : look env t = some a) (h : Via a q) : Opd env (.tmp t) q := (Opd.t hl).le h
variable {x : Operand}
theorem Opd.z (h : Opd env x q := by first
 | ((with_reducible apply Opd.via); exact rfl; first | with_reducible exact .when (by assumption) | with_reducible exact .when (And.left (by assumption)) | with_reducible exact .id | with_reducible exact .under (by assumption) | exact .id | exact .when (by assumption) | exact .when (And.left (by assumption)))
 | with_reducible exact .ct
 | with_reducible exact .cf
 | with_reducible exact .c _
 | exact .c _
 | exact .g _) : Opd env x q := h
theorem Opds.z {env : Env} {xs : List Operand} {qs : List VP} (h : Opds env xs qs := by ((repeat (refine Opds.cons .z ?_)); exact .nil)) : Opds env xs qs := h
theorem Parts.one {k : Nat} {ps : List (Nat × Operand)} {cs : List (Nat × List VP)} {c : List VP} (h : Opd env x q) (hp : PartC q c) (t : Parts env ps cs) : Parts env ((k, x) :: ps) ((k, c) :: cs) := .cons h t
theorem Parts.z {env : Env} {ps : List (Nat × Operand)} {cs : List (Nat × List VP)} (h : Parts env ps cs := by ((repeat (apply Parts.one; exact .z; exact inferInstance)); exact .nil)) : Parts env ps cs := h
theorem fits_z {k : IntKind} {n : Int} (h : fits k n := by first
 | (with_reducible apply fits_i64) <;> omega
 | (with_reducible apply fits_u64) <;> omega
 | (with_reducible apply fits_u32) <;> omega
 | (with_reducible apply fits_u8) <;> omega) : fits k n := h
section
variable {P : Program} {hs : List HP} {env : Env} {q : VP} {dst : Option Tmp} {ty T E : TypeId} {pos : String} {after : Array Edge} {gd : Option (Nat × Bool)} {x y : Operand}
theorem opBoxF (hx : Opd env x q) (hf : Flat q) : OpP P hs env ⟨dst, .box T x, ty, pos, after, gd⟩ (ptrV [q]) := opBox hx
theorem opLen1 {α : Type} {n : Nat} {enc : α → List VP} {xs : List α} (hT : P.underlying T = some (.slice E)) (hx : Opd env x (sliceV n enc xs)) :
    OpP P hs env ⟨dst, .call ⟨.builtin .len, #[x], #[T]⟩, ty, pos, after, gd⟩ (intV .i64 (xs.length : Int)) := opLen rfl hT hx
theorem opLenS1 {l : List UInt8} (hT : P.underlying T = some .string) (hx : Opd env x (strV l)) :
    OpP P hs env ⟨dst, .call ⟨.builtin .len, #[x], #[T]⟩, ty, pos, after, gd⟩ (intV .i64 (l.length : Int)) := opLenS rfl hT hx
theorem opLen2 {α : Type} {g : SB} {n i len : Nat} {enc : α → List VP} {xs : List α} (hT : P.underlying T = some (.slice E)) (hx : Opd env x (exactV (sval g len))) (hi : hs[i]? = some (sliceH g n enc xs)) (hl : len = xs.length) :
    OpP P hs env ⟨dst, .call ⟨.builtin .len, #[x], #[T]⟩, ty, pos, after, gd⟩ (intV .i64 (len : Int)) := opLenOw rfl hT hx hi hl
end
section
variable {P : Program} {hs : List HP} {env : Env} {q : VP} {dst : Option Tmp} {ty T T2 : TypeId} {pos : String} {after : Array Edge} {gd : Option (Nat × Bool)} {x y : Operand} {b : BinOp} {f : Builtin} {as : Array Operand} {ats : Array TypeId}
theorem g_ld (h : OpP P hs env ⟨dst, .load T x, ty, pos, after, gd⟩ q) : OpP P hs env ⟨dst, .load T x, ty, pos, after, gd⟩ q := h
theorem g_bin (h : OpP P hs env ⟨dst, .binOp b T x y T2, ty, pos, after, gd⟩ q) : OpP P hs env ⟨dst, .binOp b T x y T2, ty, pos, after, gd⟩ q := h
theorem g_call (h : OpP P hs env ⟨dst, .call ⟨.builtin f, as, ats⟩, ty, pos, after, gd⟩ q) : OpP P hs env ⟨dst, .call ⟨.builtin f, as, ats⟩, ty, pos, after, gd⟩ q := h
end
theorem OpP.z {P : Program} {hs : List HP} {env : Env} {o : Oper} {q : VP} (h : OpP P hs env o q := by first
 | (with_reducible apply opMove); exact .z
 | (with_reducible apply opAssign); exact .z
 | (with_reducible apply g_ld); first
  | (with_reducible apply opLoad); exact FA.out; exact .z
  | (with_reducible apply opLoadA); exact FA.out; exact FC.out; rfl; exact .z; rfl
  | (with_reducible apply opLoadO (i := 0)); exact FA.out; exact .z; rfl; rfl
  | (with_reducible apply opLoadO (i := 1)); exact FA.out; exact .z; rfl; rfl
  | (with_reducible apply opLoadO (i := 2)); exact FA.out; exact .z; rfl; rfl
  | (with_reducible apply opLoadO (i := 3)); exact FA.out; exact .z; rfl; rfl
  | (with_reducible apply opLoadOA (i := 0)); exact FA.out; exact FC.out; rfl; exact .z; rfl; rfl
  | (with_reducible apply opLoadOA (i := 1)); exact FA.out; exact FC.out; rfl; exact .z; rfl; rfl
  | (with_reducible apply opLoadOA (i := 2)); exact FA.out; exact FC.out; rfl; exact .z; rfl; rfl
  | (with_reducible apply opLoadOA (i := 3)); exact FA.out; exact FC.out; rfl; exact .z; rfl; rfl
 | (with_reducible apply opField); exact FF.out; exact .z
 | (with_reducible apply opFieldO); exact FF.out; exact .z
 | (with_reducible apply opNilChk); exact .z
 | (with_reducible apply opNilChkO); exact .z
 | (with_reducible apply g_bin); first
  | (with_reducible apply opEql); exact .z; exact .z
  | (with_reducible apply opNeq); exact .z; exact .z
  | (with_reducible apply opLss); exact .z; exact .z
  | (with_reducible apply opGeq); exact .z; exact .z
  | (with_reducible apply opGtr); exact .z; exact .z
  | (with_reducible apply opLeq); exact .z; exact .z
  | (with_reducible apply opAddF); exact .z; exact .z; exact fits_z
  | (with_reducible apply opSubF); exact .z; exact .z; exact fits_z
  | (with_reducible apply opMulF); exact .z; exact .z; exact fits_z
  | (with_reducible apply opEqlS); exact .z; exact .z
  | (with_reducible apply opNeqS); exact .z; exact .z
  | (with_reducible apply opEqlB); exact FU.out; exact .z; exact .z
  | (with_reducible apply opEqlNil); exact FU.out; exact .z
  | (with_reducible apply opNeqNil); exact FU.out; exact .z
  | (with_reducible apply opNilEqlNil); exact FU.out; exact .z
  | (with_reducible apply opNilNeqNil); exact FU.out; exact .z
 | (with_reducible apply opAnd); exact .z; exact .z
 | (with_reducible apply opOr); exact .z; exact .z
 | (with_reducible apply opNot); exact .z
 | (with_reducible apply opExtract); exact .z; rfl
 | (with_reducible apply opBuild); exact FP.out; exact FZ.out; exact .z; rfl
 | (with_reducible apply opBoxA); exact .z
 | (with_reducible apply opBoxF); exact .z; exact inferInstance
 | (with_reducible apply opConvF); exact FU.out; exact FU.out; exact .z; exact fits_z
 | (with_reducible apply opBytesStr); exact FU.out; exact FU.out; exact FU.out; exact .z
 | (with_reducible apply g_call); first
  | (with_reducible apply opLen1); exact FU.out; exact .z
  | (with_reducible apply opLenS1); exact FU.out; exact .z
  | (with_reducible apply opMax); exact .z; exact .z
  | (with_reducible apply opLen2 (i := 0)); exact FU.out; exact .z; rfl; rfl
  | (with_reducible apply opLen2 (i := 1)); exact FU.out; exact .z; rfl; rfl
  | (with_reducible apply opLen2 (i := 2)); exact FU.out; exact .z; rfl; rfl) : OpP P hs env o q := h
section
variable {P : Program} {hs : List HP} {env : Env} {q : VP} {dst : Option Tmp} {ty T E : TypeId} {pos : String} {after : Array Edge} {gd : Option (Nat × Bool)} {x y : Operand}
theorem cA {f : FuncId} {xs : List Operand} {ats : Array TypeId} {ps : List VP} [hb : FB P f] (hx : Opds env xs ps := by exact .z) (h : FnP P f ps q) :
    OpP P hs env ⟨dst, .call ⟨.value (.func f), xs.toArray, ats⟩, ty, pos, after, gd⟩ q := opCall h hb.out hx
theorem cV {A : Type} {ok : A → Prop} {arg : A → List VP} {res : A → VP} {xs : List Operand} {ats : Array TypeId} (a : A) (hx : Opd env x (funV P ok arg res) := by exact .z) (hxs : Opds env xs (arg a) := by exact .z) (h : ok a := by trivial) :
    OpP P hs env ⟨dst, .call ⟨.value x, xs.toArray, ats⟩, ty, pos, after, gd⟩ (res a) := opCallV a hx h hxs
theorem cI {α : Type} {n : Nat} {enc : α → List VP} {xs : List α} {k : IntKind} {i : Int} {e : α} [hT : FU P T (.slice E)] [hE : FC P E n] (j : Nat) (hx : Opd env x (sliceV n enc xs) := by exact .z) (hy : Opd env y (intV k i) := by exact .z) (h0 : Nat.blt 0 n = true := by rfl) (h : xs[j]? = some e := by assumption) (hi : i = (j : Int) := by first | rfl | omega) :
    OpP P hs env ⟨dst, .indexAddr T x y, ty, pos, after, gd⟩ (ptrV (enc e)) := opIndexAddr hT.out hE.out h0 hx hy hi h
theorem cB {α : Type} {n len : Nat} (enc : α → List VP) (ys : List α) {ps : List (Nat × Operand)} {pcs : List (Nat × List VP)} {zs : List Value} {cs : List VP} [henc : Enc n enc] [hT : FU P T (.slice E)] [hn : FC P E n] [hz : FZ P E zs] (hp : Parts env ps pcs := by exact .z) (h0 : Nat.blt 0 n = true := by rfl)
    (hzl : zs.length = n := by rfl) (hsm : Nat.ble (len * n) 16777216 = true := by rfl) (hf : fillV (fun i => some (i * n, n)) (zeroV zs (len * n)) pcs = some cs := by rfl) (hcs : cs = ys.flatMap enc := by rfl) (hl : ys.length = len := by rfl) (hs2 : Nat.ble len 16777216 = true := by rfl) :
    OpP P hs env ⟨dst, .buildSlice T len ps.toArray, ty, pos, after, gd⟩ (sliceV n enc ys) := opBuildSlice ys hT.out hn.out h0 hz.out hzl hp hsm hf hcs hl hs2
end
section
variable {P : Program} {hs : List HP} {env : Env} {dst : Option Tmp} {ty T E tf : TypeId} {pos : String} {after : Array Edge} {gd : Option (Nat × Bool)} {x y : Operand} {D : Prop}
theorem cE {f : FuncId} {xs : List Operand} {ats : Array TypeId} {ps : List VP} {hs0 rest : List HP} {γ : Type} {φ : γ → Prop} {hs' : γ → List HP} {q : γ → VP} [hb : FB P f] (hx : Opds env xs ps := by exact .z) (hp : hs = hs0 ++ rest := by rfl) (h : FnE P f ps hs0 φ hs' q) :
    OpE P hs env ⟨dst, .call ⟨.value (.func f), xs.toArray, ats⟩, ty, pos, after, gd⟩ φ (fun g => hs' g ++ rest) q := opCallE h hb.out hx (.of_eq hp)
theorem cEi {f : FuncId} {xs : List Operand} {ats : Array TypeId} {ps : List VP} {hs0 : List HP} {γ : Type} {φ : γ → Prop} {hs' : γ → List HP} {q : γ → VP} [hb : FB P f] (rest : List HP) (ix : List Nat) (hx : Opds env xs ps := by exact .z) (h1 : ix.filterMap (fun i => hs[i]?) = hs0 ++ rest := by rfl) (h2 : permB (List.range hs.length) ix = true := by rfl) (h : FnE P f ps hs0 φ hs' q) :
    OpE P hs env ⟨dst, .call ⟨.value (.func f), xs.toArray, ats⟩, ty, pos, after, gd⟩ φ (fun g => hs' g ++ rest) q := opCallE h hb.out hx (Perm.idx ix h1 h2)
end
variable {n : Nat} {ops : Array Oper} {o : Oper} {j : Nat} {t : Tmp}
theorem OpG.kT {p : Prop} (hog : o.guard = some (j, true)) (hj : (ops[j]?).bind (·.dst) = some t) (ht : Nat.blt t n = true) (hl : look env t = some (propV p)) (h : p → OpP P hs env o q) : OpG P ops n hs env o (whenV p q) := .gT hl hog hj ht h
theorem OpG.kF {p : Prop} (hog : o.guard = some (j, false)) (hj : (ops[j]?).bind (·.dst) = some t) (ht : Nat.blt t n = true) (hl : look env t = some (propV p)) (h : ¬ p → OpP P hs env o q) : OpG P ops n hs env o (whenV (¬ p) q) := .gF hl hog hj ht h
theorem OpG.lT {p : Prop} (hog : o.guard = some (j, true)) (hj : (ops[j]?).bind (·.dst) = some t) (ht : Nat.blt t n = true) (hl : look env t = some (whenV c (propV p))) (h : c ∧ p → OpP P hs env o q) : OpG P ops n hs env o (whenV (c ∧ p) q) := .hT hl hog hj ht h
theorem OpG.lF {p : Prop} (hog : o.guard = some (j, false)) (hj : (ops[j]?).bind (·.dst) = some t) (ht : Nat.blt t n = true) (hl : look env t = some (whenV c (propV p))) (h : c ∧ ¬ p → OpP P hs env o q) : OpG P ops n hs env o (whenV (c ∧ ¬ p) q) := .hF hl hog hj ht h
theorem OpG.z {P : Program} {ops : Array Oper} {n : Nat} {hs : List HP} {env : Env} {o : Oper} {q : VP} (h : OpG P ops n hs env o q := by first
 | (with_reducible apply OpG.kT); rfl; rfl; rfl; rfl; intro hg; exact .z
 | (with_reducible apply OpG.kF); rfl; rfl; rfl; rfl; intro hg; exact .z
 | (with_reducible apply OpG.lT); rfl; rfl; rfl; rfl; intro hg; exact .z
 | (with_reducible apply OpG.lF); rfl; rfl; rfl; rfl; intro hg; exact .z) : OpG P ops n hs env o q := h
section
variable {P : Program} {ops : Array Oper} {Q : Exit → Act → World → Prop} {c : Ctx} {l : List Oper} {hs : List HP} {env : Env} {q : VP} {ty T E : TypeId} {pos : String} {after : Array Edge} {x y : Operand}
theorem SeqT.st1 (i : Nat) {b off : Nat} {cs : List VP} (hn : P.cellsOf T = 1) (hx : Opd env x (addrV b off)) (hy : Opd env y q) (hf : Flat q) (hi : hs[i]? = some (cellsH b cs)) (hl : Nat.blt off cs.length = true)
    (k : SeqT P ops Q c l (hs.set i (cellsH b (cs.set off q))) env) : SeqT P ops Q c (⟨none, .store T x y, ty, pos, after, none⟩ :: l) hs env := .s (opStoreO hn hx hy hi hl) k
theorem SeqT.st2 (i : Nat) {b off n : Nat} {cs new : List VP} (hn : P.cellsOf T = n) (h0 : Nat.blt 0 n = true) (hx : Opd env x (addrV b off)) (hy : Opd env y (aggV new)) (hfl : FlatL new) (hln : Nat.beq new.length n = true) (hi : hs[i]? = some (cellsH b cs)) (hl : Nat.ble (off + n) cs.length = true)
    (k : SeqT P ops Q c l (hs.set i (cellsH b (spliceV off new cs))) env) : SeqT P ops Q c (⟨none, .store T x y, ty, pos, after, none⟩ :: l) hs env := .s (opStoreOA hn h0 hx hy hln hi hl) k
end
variable {α : Type} {as : List α}
theorem takeS {a : α} {l : List α} (h : as.take n = l) : (a :: as).take (n + 1) = a :: l := congrArg (List.cons a) h
theorem take0 : as.take 0 = [] := rfl
theorem dropS {a : α} {l : List α} (h : as.drop n = l) : (a :: as).drop (n + 1) = l := h
theorem drop0 : as.drop 0 = as := rfl
def DrawK (P : Program) (ops : Array Oper) (n : Nat) (hs : List HP) (e0 : Env) (i : Nat) (done : Done) (l : List Oper) (K : Done → Prop) : Prop := ∃ all, DrawH P ops n hs e0 i done l all ∧ K all
section
variable {P : Program} {ops : Array Oper} {n : Nat} {hs : List HP} {e0 : Env} {K : Done → Prop} {i : Nat} {done : Done} {d : Tmp} {q : VP} {op : Op} {ty : TypeId} {pos : String} {after : Array Edge} {gd : Option (Nat × Bool)} {l : List Oper}
theorem DrawK.g (h : OpG P ops n hs (avail after done ++ e0) ⟨some d, op, ty, pos, after, gd⟩ q) (k : DrawK P ops n hs e0 (i + 1) ((i, d, q) :: done) l K) : DrawK P ops n hs e0 i done (⟨some d, op, ty, pos, after, gd⟩ :: l) K :=
 let ⟨all, k1, k2⟩ := k; ⟨all, .cons h k1, k2⟩
theorem DrawK.cons (h : OpG P ops n hs (avail after done ++ e0) ⟨some d, op, ty, pos, after, gd⟩ q) (k : DrawK P ops n hs e0 (i + 1) ((i, d, q) :: done) l K) : DrawK P ops n hs e0 i done (⟨some d, op, ty, pos, after, gd⟩ :: l) K := .g h k
theorem DrawK.p (h : OpP P hs (avail after done ++ e0) ⟨some d, op, ty, pos, after, none⟩ q) (k : DrawK P ops n hs e0 (i + 1) ((i, d, q) :: done) l K) : DrawK P ops n hs e0 i done (⟨some d, op, ty, pos, after, none⟩ :: l) K :=
 let ⟨all, k1, k2⟩ := k; ⟨all, .p h k1, k2⟩
theorem DrawK.nil (k : K done) : DrawK P ops n hs e0 i done [] K := ⟨_, .nil, k⟩
theorem CodeT.drawK {Q : Exit → Act → World → Prop} {c : Ctx} {l l1 l2 : List Oper} {id : Nat} {env : Env} (m g : Nat) (hm : P.follows .mixedOrders = true) (hB : drawB l.toArray m g c.n = true) (h1 : l.take m = l1 := by ((repeat (first | with_reducible apply takeS | apply takeS)); exact take0)) (h2 : l.drop m = l2 := by ((repeat (first | with_reducible apply dropS | apply dropS)); exact drop0))
    (k : DrawK P l.toArray c.n hs (strip (dstsOf l1) env) 0 [] l1 (fun all => SeqT P l.toArray Q c l2 hs (doneEnv all ++ env))) : CodeT P Q c (.region id l.toArray true) hs env :=
  let ⟨all, k1, k2⟩ := k; .draw m g hm hB (h1 ▸ k1) (h2 ▸ k2)
theorem CodeT.stagedK {Q : Exit → Act → World → Prop} {c : Ctx} {l l2 : List Oper} {id : Nat} {env : Env} (plan : List (Nat × Nat)) (m g : Nat) (hm : P.follows .mixedOrders = true) (hB : stagedB l.toArray plan m g c.n = true) (h2 : l.drop m = l2 := by ((repeat (first | with_reducible apply dropS | apply dropS)); exact drop0))
    (k : DrawS P l c.n (strip (dstsOf (l.take m)) env) (fun done hs => SeqT P l.toArray Q c l2 hs (doneEnv done ++ env)) plan [] hs) : CodeT P Q c (.region id l.toArray true) hs env := .staged plan m g hm hB (h2 ▸ k)
end
variable {h' : Prop}
theorem stepZ {g : Prop} (k : h') (j : h' → g := by first
 | (with_reducible apply SeqT.p); exact .z; rfl
 | (with_reducible exact SeqT.nil)
 | (with_reducible apply SeqT.g); exact .z; rfl; rfl
 | (with_reducible exact CodeT.seq)
 | (with_reducible exact CodeT.region)
 | (with_reducible exact fun k => EndT.thenN k)
 | (with_reducible exact CodeT.block)
 | (with_reducible exact EndT.blkN)
 | (with_reducible exact CodeT.skip)
 | (with_reducible exact CodeT.ret)
 | (with_reducible exact CodeT.exit)
 | (with_reducible exact EndT.thenR)
 | (with_reducible exact EndT.blkR)
 | (with_reducible exact EndT.thenX)
 | (with_reducible exact EndT.blkX)
 | (with_reducible apply EndT.blkO); rfl
 | (with_reducible apply SeqT.st1 0); exact FC.out; exact .z; exact .z; exact inferInstance; rfl; rfl
 | (with_reducible apply SeqT.st1 1); exact FC.out; exact .z; exact .z; exact inferInstance; rfl; rfl
 | (with_reducible apply SeqT.st1 2); exact FC.out; exact .z; exact .z; exact inferInstance; rfl; rfl
 | (with_reducible apply SeqT.st2 0); exact FC.out; rfl; exact .z; exact .z; exact inferInstance; rfl; rfl; rfl
 | (with_reducible apply SeqT.st2 1); exact FC.out; rfl; exact .z; exact .z; exact inferInstance; rfl; rfl; rfl
 | (with_reducible apply SeqT.st2 2); exact FC.out; rfl; exact .z; exact .z; exact inferInstance; rfl; rfl; rfl
 | (with_reducible apply DrawS.p); rfl; intro _; exact .z
 | (with_reducible apply DrawS.o); rfl; exact .z
 | (with_reducible apply DrawS.g); rfl; intro _; exact .z
 | (with_reducible apply DrawF.p); rfl; intro _; exact .z
 | (with_reducible apply DrawF.g); rfl; intro _; exact .z
 | (with_reducible apply DrawK.p); exact .z
 | (with_reducible apply DrawK.g); exact .z
 | (with_reducible exact DrawK.nil)
 | (apply DrawK.p); exact .z
 | (apply DrawK.g); exact .z
 | (apply SeqT.p); exact .z; rfl
 | (exact SeqT.nil)) : g := j k
structure Last (p : Prop) : Prop where
 out : p
theorem Z1 {g : Prop} (k : h') (j : Last h' → g := by (intro k; (iterate 1 refine stepZ ?_); exact k.out)) : g := j ⟨k⟩
theorem Z2 {g : Prop} (k : h') (j : Last h' → g := by (intro k; (iterate 2 refine stepZ ?_); exact k.out)) : g := j ⟨k⟩
theorem Z3 {g : Prop} (k : h') (j : Last h' → g := by (intro k; (iterate 3 refine stepZ ?_); exact k.out)) : g := j ⟨k⟩
theorem Z4 {g : Prop} (k : h') (j : Last h' → g := by (intro k; (iterate 4 refine stepZ ?_); exact k.out)) : g := j ⟨k⟩
theorem Z5 {g : Prop} (k : h') (j : Last h' → g := by (intro k; (iterate 5 refine stepZ ?_); exact k.out)) : g := j ⟨k⟩
theorem Z6 {g : Prop} (k : h') (j : Last h' → g := by (intro k; (iterate 6 refine stepZ ?_); exact k.out)) : g := j ⟨k⟩
theorem Z7 {g : Prop} (k : h') (j : Last h' → g := by (intro k; (iterate 7 refine stepZ ?_); exact k.out)) : g := j ⟨k⟩
theorem Z8 {g : Prop} (k : h') (j : Last h' → g := by (intro k; (iterate 8 refine stepZ ?_); exact k.out)) : g := j ⟨k⟩
theorem Z9 {g : Prop} (k : h') (j : Last h' → g := by (intro k; (iterate 9 refine stepZ ?_); exact k.out)) : g := j ⟨k⟩
theorem Z10 {g : Prop} (k : h') (j : Last h' → g := by (intro k; (iterate 10 refine stepZ ?_); exact k.out)) : g := j ⟨k⟩
theorem Z11 {g : Prop} (k : h') (j : Last h' → g := by (intro k; (iterate 11 refine stepZ ?_); exact k.out)) : g := j ⟨k⟩
theorem Z12 {g : Prop} (k : h') (j : Last h' → g := by (intro k; (iterate 12 refine stepZ ?_); exact k.out)) : g := j ⟨k⟩
theorem Z13 {g : Prop} (k : h') (j : Last h' → g := by (intro k; (iterate 13 refine stepZ ?_); exact k.out)) : g := j ⟨k⟩
theorem Z14 {g : Prop} (k : h') (j : Last h' → g := by (intro k; (iterate 14 refine stepZ ?_); exact k.out)) : g := j ⟨k⟩
theorem Z15 {g : Prop} (k : h') (j : Last h' → g := by (intro k; (iterate 15 refine stepZ ?_); exact k.out)) : g := j ⟨k⟩
theorem Z16 {g : Prop} (k : h') (j : Last h' → g := by (intro k; (iterate 16 refine stepZ ?_); exact k.out)) : g := j ⟨k⟩
theorem Z17 {g : Prop} (k : h') (j : Last h' → g := by (intro k; (iterate 17 refine stepZ ?_); exact k.out)) : g := j ⟨k⟩
theorem Z18 {g : Prop} (k : h') (j : Last h' → g := by (intro k; (iterate 18 refine stepZ ?_); exact k.out)) : g := j ⟨k⟩
theorem Z19 {g : Prop} (k : h') (j : Last h' → g := by (intro k; (iterate 19 refine stepZ ?_); exact k.out)) : g := j ⟨k⟩
theorem Z20 {g : Prop} (k : h') (j : Last h' → g := by (intro k; (iterate 20 refine stepZ ?_); exact k.out)) : g := j ⟨k⟩
theorem Z21 {g : Prop} (k : h') (j : Last h' → g := by (intro k; (iterate 21 refine stepZ ?_); exact k.out)) : g := j ⟨k⟩
theorem Z22 {g : Prop} (k : h') (j : Last h' → g := by (intro k; (iterate 22 refine stepZ ?_); exact k.out)) : g := j ⟨k⟩
theorem Z24 {g : Prop} (k : h') (j : Last h' → g := by (intro k; (iterate 24 refine stepZ ?_); exact k.out)) : g := j ⟨k⟩
theorem Z25 {g : Prop} (k : h') (j : Last h' → g := by (intro k; (iterate 25 refine stepZ ?_); exact k.out)) : g := j ⟨k⟩
theorem Z32 {g : Prop} (k : h') (j : Last h' → g := by (intro k; (iterate 32 refine stepZ ?_); exact k.out)) : g := j ⟨k⟩
theorem Z39 {g : Prop} (k : h') (j : Last h' → g := by (intro k; (iterate 39 refine stepZ ?_); exact k.out)) : g := j ⟨k⟩
theorem In {f : FuncId} {x : Code} {ps : List VP} {q : γ → VP} (n : Nat)
    (hf : P.funcs[f]? = some fn) (h : ∀ (w0 : World) (S0 M : BS), CodeT P (Post P fn ⟨w0, S0, M, n, none, []⟩ φ hs' q) ⟨w0, S0, M, n, none, []⟩ x hs (args ps)) (hb : fn.body = some x := by rfl) (hnt : fn.ntmps = n := by rfl) (hn : Nat.ble ps.length n = true := by rfl) : FnE P f ps hs φ hs' q := .intro n hf hb hnt hn h
theorem Cd {Q : Exit → Act → World → Prop} {c : Ctx} {p : Prop} {s t : Code} (ht : p → CodeT P Q c s hs env) (hf : ¬ p → CodeT P Q c t hs env) (hx : Opd env x (propV p) := by exact .z) : CodeT P Q c (.cond x s t) hs env := .cond hx ht hf
variable {a : Prop}
theorem Rt1 {g : Prop} (x : a) (j : a → g := by (intro x; first | exact Post.retP rfl rfl x | exact Post.retR1 rfl () trivial (fun _ _ _ _ => trivial) (.rt rfl) x | exact Post.retR1 rfl () trivial (fun _ _ _ h => h) (.rt rfl) x)) : g := j x
theorem Rt2 {g b : Prop} (x : a) (y : b) (j : a → b → g := by (intro x y; first | exact Post.retR rfl rfl () trivial (fun _ _ _ _ => trivial) rfl (.cons (.rt rfl) x (.cons (.rt rfl) y .nil)) | exact Post.retR rfl rfl () trivial (fun _ _ _ h => h) rfl (.cons (.rt rfl) x (.cons (.rt rfl) y .nil)))) : g := j x y
theorem Rt3 {g b d : Prop} (x : a) (y : b) (z : d) (j : a → b → d → g := by (intro x y z; first | exact Post.retR rfl rfl () trivial (fun _ _ _ _ => trivial) rfl (.cons (.rt rfl) x (.cons (.rt rfl) y (.cons (.rt rfl) z .nil))) | exact Post.retR rfl rfl () trivial (fun _ _ _ h => h) rfl (.cons (.rt rfl) x (.cons (.rt rfl) y (.cons (.rt rfl) z .nil))))) : g := j x y z
end Go.Hl
end
