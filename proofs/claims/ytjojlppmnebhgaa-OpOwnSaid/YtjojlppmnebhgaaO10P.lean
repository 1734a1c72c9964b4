/-
  Ops whose lists of types are own memory: what holds them, however they are written. No project text.
-/
import Derived.Test.YtjojlppmnebhgaaO10B
import Derived.Test.YtjojlppmnebhgaaHlP
namespace Go.Hl
open Go.RowKit
set_option linter.unusedVariables false

/-- an own slice of so many bytes of whatever value -/
def junkS (g : SB) (n : Nat) : HP := exH fun ys : List UInt8 => ownH [pureH (ys.length = n), sliceH g 1 encU8 ys]
theorem junk_close {g : SB} {n : Nat} {ys : List UInt8} (h : ys.length = n) {r : List HP} : OLe (sliceH g 1 encU8 ys :: r) (junkS g n :: r) :=
  OLe.trans (OLe.pure h) (OLe.trans (OLe.pack (l := [pureH (ys.length = n), sliceH g 1 encU8 ys])) (OLe.ex (f := fun ys : List UInt8 => ownH [pureH (ys.length = n), sliceH g 1 encU8 ys]) ys))
theorem junk_two {g h : SB} {ys zs : List UInt8} : OLe [sliceH g 1 encU8 ys, sliceH h 1 encU8 zs] [junkS g ys.length, junkS h zs.length] :=
  OLe.trans (junk_close rfl) (OLe.cons _ (junk_close rfl))
theorem junk_none {r : List HP} : OLe r (junkS none 0 :: r) := OLe.trans (show OLe r (sliceH none 1 encU8 ([] : List UInt8) :: r) from fun F S w x => ⟨fun _ => False, F, fun _ h => h.elim, fun _ h => h, rfl, x⟩) (junk_close (ys := []) rfl)
theorem CodeT.junkOpen {P : Program} {Q : Exit → Act → World → Prop} {c : Ctx} {x : Code} {env : Env} {g : SB} {n : Nat} {r : List HP} (hn : 0 < n) (k : ∀ b cap ys, g = some (b, cap) → ys.length = n → n ≤ 281474976710656 → CodeT P Q c x (sliceH (some (b, cap)) 1 encU8 ys :: r) env) : CodeT P Q c x (junkS g n :: r) env := by
  refine CodeT.opens (f := fun ys : List UInt8 => ownH [Go.Hl.pureH (ys.length = n), sliceH g 1 encU8 ys]) fun ys => CodeT.own (OLe.unpack (l := [Go.Hl.pureH (ys.length = n), sliceH g 1 encU8 ys])) ?_
  intro a w hst
  obtain ⟨h1, h2, S, F, h3, h4, h5⟩ := hst
  obtain ⟨F1, F2, f1, f2, hl, h4'⟩ := id h4
  have hl' : ys.length = n := hl
  cases g with
  | none =>
    obtain ⟨_, _, _, _, h, _⟩ := h4'
    have h9 : ys = [] := h
    rw [h9] at hl'; simp at hl'; omega
  | some p =>
    have hm : ys.length ≤ 281474976710656 := by obtain ⟨_, _, _, _, hsl, _⟩ := id h4'; exact hsl.2.2.1
    exact k p.1 p.2 ys rfl hl' (by omega) a w ⟨h1, h2, S, F, h3, h4'.mono f2 (fun _ h => h) (fun _ _ => rfl) (fun _ _ => rfl), h5⟩
/-- an op with own lists: where they stand, how long they are -/
structure InfoO where
  Code : Int
  Name : List UInt8
  Form : Int
  (s1 s2 : SB)
  (n1 n2 : Nat)
def encInfoO (o : InfoO) : List VP := [intV .i64 o.Code, strV o.Name, intV .i64 o.Form, exactV (sval o.s1 o.n1), exactV (sval o.s2 o.n2)]
instance : Enc 5 encInfoO := ⟨fun _ => rfl, fun x q h => by simp only [encInfoO, List.mem_cons, List.not_mem_nil, or_false] at h; rcases h with h | h | h | h | h <;> subst h <;> infer_instance⟩
instance (o : InfoO) : FlatL (encInfoO o) := ⟨fun q h => Enc.flat (enc := encInfoO) o q h⟩
def mkI (x : InfoD) (g : SB × SB) : InfoO := ⟨x.Code, x.Name, x.Form, g.1, g.2, x.Takes.length, x.Gives.length⟩
def elemL (o : InfoO) : List HP := [junkS o.s1 o.n1, junkS o.s2 o.n2]
def elemsH (os : List InfoO) : HP := ownH (os.flatMap elemL)
theorem elems_nil {r : List HP} : OLe r (elemsH [] :: r) := fun F S w x => ⟨fun _ => False, F, fun _ h => h.elim, fun _ h => h, trivial, x⟩
theorem elems_add {os : List InfoO} {o : InfoO} {r : List HP} : OLe (junkS o.s1 o.n1 :: junkS o.s2 o.n2 :: elemsH os :: r) (elemsH (os ++ [o]) :: r) := by
  refine OLe.trans (OLe.perm (show (junkS o.s1 o.n1 :: junkS o.s2 o.n2 :: elemsH os :: r).Perm (elemsH os :: junkS o.s1 o.n1 :: junkS o.s2 o.n2 :: r) from (List.perm_middle (l₁ := [junkS o.s1 o.n1, junkS o.s2 o.n2])).trans (List.Perm.refl _))) ?_
  refine OLe.trans (OLe.unpack (l := os.flatMap elemL) (r := junkS o.s1 o.n1 :: junkS o.s2 o.n2 :: r)) ?_
  have := OLe.pack (l := (os ++ [o]).flatMap elemL) (r := r)
  rw [List.flatMap_append, List.append_assoc] at this
  rw [elemsH, List.flatMap_append]; exact this
theorem elems_perm {os os' : List InfoO} (h : os.Perm os') {r : List HP} : OLe (elemsH os :: r) (elemsH os' :: r) :=
  OLe.trans (OLe.unpack (l := os.flatMap elemL)) (OLe.trans (OLe.perm ((h.flatMap_right elemL).append_right r)) (OLe.pack (l := os'.flatMap elemL)))
def elemsX (i : Nat) (o : InfoO) (os : List InfoO) : HP := ownH ((os.take i).flatMap elemL ++ junkS o.s1 o.n1 :: (os.drop (i + 1)).flatMap elemL)
theorem elems_split {os : List InfoO} {i : Nat} {o : InfoO} (h : os[i]? = some o) : (os.flatMap elemL).Perm (junkS o.s2 o.n2 :: ((os.take i).flatMap elemL ++ junkS o.s1 o.n1 :: (os.drop (i + 1)).flatMap elemL)) := by
  have hl := (List.getElem?_eq_some_iff.1 h)
  have e : os = os.take i ++ o :: os.drop (i + 1) := by
    have := List.drop_eq_getElem_cons hl.1
    rw [hl.2] at this
    rw [← this, List.take_append_drop]
  have e2 : os.flatMap elemL = (os.take i).flatMap elemL ++ junkS o.s1 o.n1 :: junkS o.s2 o.n2 :: (os.drop (i + 1)).flatMap elemL := by
    conv => lhs; rw [e]
    rw [List.flatMap_append, List.flatMap_cons]; rfl
  rw [e2]
  have h1 := List.perm_middle (a := junkS o.s2 o.n2) (l₁ := (os.take i).flatMap elemL ++ [junkS o.s1 o.n1]) (l₂ := (os.drop (i + 1)).flatMap elemL)
  simpa [List.append_assoc] using h1
theorem elems_open {os : List InfoO} {i : Nat} {o : InfoO} (h : os[i]? = some o) {r : List HP} : OLe (elemsH os :: r) (junkS o.s2 o.n2 :: elemsX i o os :: r) := by
  refine OLe.trans (OLe.unpack (l := os.flatMap elemL)) (OLe.trans (OLe.perm ((elems_split h).append_right r)) ?_)
  exact OLe.cons _ (OLe.pack (l := (os.take i).flatMap elemL ++ junkS o.s1 o.n1 :: (os.drop (i + 1)).flatMap elemL))
theorem elems_shut {os : List InfoO} {i : Nat} {o : InfoO} (h : os[i]? = some o) {r : List HP} : OLe (junkS o.s2 o.n2 :: elemsX i o os :: r) (elemsH os :: r) := by
  refine OLe.trans (OLe.cons _ (OLe.unpack (l := (os.take i).flatMap elemL ++ junkS o.s1 o.n1 :: (os.drop (i + 1)).flatMap elemL))) ?_
  refine OLe.trans (OLe.perm ((elems_split h).symm.append_right r)) (OLe.pack (l := os.flatMap elemL))
section
variable {P : Program} {hs : List HP} {env : Env} {q : VP} {dst : Option Tmp} {ty T T' E : TypeId} {pos : String} {after : Array Edge} {gd : Option (Nat × Bool)} {x y : Operand}
theorem opLenSv {g : SB} {len : Nat} {ats : Array TypeId} (hat : ats[0]? = some T) (hT : P.underlying T = some (.slice E)) (hx : Opd env x (exactV (sval g len))) (hg : g = none → len = 0) : OpP P hs env ⟨dst, .call ⟨.builtin .len, #[x], ats⟩, ty, pos, after, gd⟩ (intV .i64 (len : Int)) :=
  OpP.of_read fun ρ w S F _ he => by
    have hv := he.o _ _ hx; simp only [exactV] at hv
    cases g with
    | none =>
      have := hg rfl; subst this
      exact ⟨.int .i64 0, by simp [execOp, resolve, invoke, builtin, Builtin.len_, hat, hv, sval, run_underlying hT, goInt], rfl⟩
    | some p => exact ⟨.int .i64 (len : Int), by simp [execOp, resolve, invoke, builtin, Builtin.len_, hat, hv, sval, run_underlying hT, goInt], rfl⟩
end
/-- a list that is nowhere is empty -/
def SbOk (o : InfoO) : Prop := (o.s1 = none → o.n1 = 0) ∧ (o.s2 = none → o.n2 = 0)
theorem CodeT.junkFact {P : Program} {Q : Exit → Act → World → Prop} {c : Ctx} {x : Code} {env : Env} {hs : List HP} {g : SB} {n : Nat} (i : Nat) (hi : hs[i]? = some (junkS g n)) (k : (g = none → n = 0) → CodeT P Q c x hs env) : CodeT P Q c x hs env := by
  intro a w hst
  obtain ⟨h1, h2, S, F, h3, h4, h5⟩ := id hst
  obtain ⟨F1, _, ys, hp⟩ := h4.get hi
  obtain ⟨G1, G2, _, _, hl, H1, H2, _, _, hs1, _⟩ := hp
  refine k (fun e => ?_) a w hst
  subst e
  have h9 : ys = [] := hs1
  have hl' : ys.length = n := hl
  rw [h9] at hl'; exact hl'.symm
theorem CodeT.ownLen {P : Program} {Q : Exit → Act → World → Prop} {c : Ctx} {x : Code} {env : Env} {hs : List HP} {α : Type} {g : SB} {n : Nat} {enc : α → List VP} {xs : List α} (i : Nat) (hi : hs[i]? = some (sliceH g n enc xs)) (k : xs.length ≤ 281474976710656 → CodeT P Q c x hs env) : CodeT P Q c x hs env := by
  intro a w hst
  obtain ⟨h1, h2, S, F, h3, h4, h5⟩ := id hst
  obtain ⟨F1, _, hp⟩ := h4.get hi
  refine k ?_ a w hst
  cases g with
  | none => have h9 : xs = [] := hp; rw [h9]; simp
  | some p => exact hp.2.2.1
theorem codes_of {os : List InfoO} (h : os.map InfoO.Code = madeT.map InfoD.Code) : ∀ x ∈ os, 0 ≤ x.Code ∧ x.Code ≤ 100000 := fun x hx => by
  have h1 : x.Code ∈ os.map InfoO.Code := List.mem_map.2 ⟨x, hx, rfl⟩
  rw [h] at h1
  obtain ⟨y, hy, e⟩ := List.mem_map.1 h1
  rw [← e]; exact made_codes y hy
theorem made_some {os : List InfoO} (h : os.map InfoO.Code = madeT.map InfoD.Code) : os ≠ [] := fun e => made_ne (by
  rw [e] at h
  have := congrArg List.length h
  simp at this
  exact List.length_eq_zero_iff.1 this.symm)
end Go.Hl
