/-
  What the statement's proof leans on, several texts in one (packed by a program).
-/
import Derived.Test.YtpahnbgfmhcndaaGreatDoorLFQ
import Derived.Lib.LaidTab
set_option linter.all false
set_option maxRecDepth 1000000
set_option maxHeartbeats 4000000
section
namespace Go.Hl
open Go.RowKit
instance (m : ModD) : FlatL (encMod m) := by unfold encMod; infer_instance
def InsW (x : InstrD) : Prop := (0 ≤ x.A ∧ x.A < 18446744073709551616) ∧ (0 ≤ x.B ∧ x.B < 18446744073709551616) ∧ ∀ n ∈ x.L, 0 ≤ n
theorem greatM_bnd {x : ModD} (hb : GreatB x) : 0 ≤ greatM x ∧ greatM x ≤ 17100 * 281474976710656 := by
 have h5 := (great_bnds hb).2.2.2.2
 have hq := addN_le (xs := x.Datas) (g := gData) (cap := 25) 281474976710656 (by decide) hb.data
 unfold greatM
 omega
theorem small17 {x : ModD} (h : ModLens3 x) (hw : ∀ f ∈ x.Funcs, ∀ y ∈ f.Body.L, InsW y) (h0 : greatM x + max ((x.Funcs.length : Int) - 12) 0 + max ((x.Datas.length : Int) - 4) 0 ≤ 0) : SmallM x ∧ ModOk x ∧ x.Funcs.length ≤ 60000 := by
 have hb := greatM_bnd (greatB_of h)
 have hs : SmallM x := greatM_small h (by omega)
 refine ⟨hs, ⟨fun f hf y hy => ?_, fun f hf => ?_, fun f hf => ?_⟩, by omega⟩
 · obtain ⟨⟨a1, a2⟩, ⟨b1, b2⟩, c⟩ := hw f hf y hy
   exact ⟨a1, a2, b1, b2, c, by have := (hs.fn f hf).all y hy; omega⟩
 · have := (hs.fn f hf).l; omega
 · have := (hs.fn f hf).locals; omega
def endI : InstrD := ⟨11, 0, 0, 0, []⟩
def bodyE : BodyD := ⟨[], [endI]⟩
def modE : ModD := ⟨[⟨[], []⟩], [], [⟨0, bodyE⟩], -1, [], [], [], -1, [], []⟩
theorem smallE : SmallM modE := by
 refine SmallM.of ⟨?_, ?_, ?_, ?_, ?_, ?_, ?_, ?_⟩ ?_ ?_ ?_ ?_ ?_ ?_ <;> simp [modE]
 constructor <;> simp [bodyE, endI]
theorem okE : ModOk modE := by
 refine ⟨fun f hf x hx => ?_, fun f hf => ?_, fun f hf => ?_⟩
 · simp only [modE, List.mem_singleton] at hf; subst hf
   simp only [bodyE, List.mem_singleton] at hx; subst hx
   exact ⟨by decide, by decide, by decide, by decide, by simp [endI], by simp [endI]⟩
 · simp only [modE, List.mem_singleton] at hf; subst hf; simp [bodyE]
 · simp only [modE, List.mem_singleton] at hf; subst hf; simp [bodyE]
theorem fitsE : FitsM modE := by
 refine ⟨?_, ?_, ?_, ?_, ?_, ?_, ?_, ?_, ?_, ?_⟩ <;> simp [modE, bodyE, endI, sigsE, importsE, funcsE, tableE, memsE, globalsE, exportsE, startE, elemsE, datasE, manyE, firstE, countM, whenE, onI, sigE, funcE, RightP, TypedP, InP]
theorem rightE : rightI endI := by
 have h1 : nameR 11 ≠ [] := by decide
 have h2 : formR 11 = 0 := by decide
 refine ⟨h1, ?_, ?_, ?_, by simp [endI], .inl rfl⟩ <;> simp [endI, h2, sml]
theorem validE : ValidD modE := by
 refine ⟨fitsE, fun f hf => ?_⟩
 simp only [modE, List.mem_singleton] at hf; subst hf
 refine ⟨⟨fun x hx => ?_, by simp [bodyE], by simp [bodyE], ?_, ?_⟩, [0], ?_⟩
 · simp only [bodyE, List.mem_singleton] at hx; subst hx; exact rightE
 · show nrun [11] []
   simp [nrun, opensC]
 · have h2 : formR 11 = 0 := by decide
   have h3 : lenU 0 ≤ 1 := by unfold lenU; simp
   simp [lenB, bodyE, runsB, endI, lenI, h2]
   omega
 · show crun (·.Code) resI _ [endI] _ = _
   unfold crun
   have hc : closeF (FrC.mk False False (sigAt modE 0).R ([], False)) := ⟨([], False), by simp [sigAt, modE, tksS, tksR], rfl⟩
   simp only [List.getLast?_singleton, stepF, endI, if_true, List.dropLast_singleton, hc, false_imp_iff, and_self, List.getLast?_nil, Option.bind_some, crun, Option.map_some, hgtF, List.map_cons, List.map_nil, List.length_nil, List.sum_cons, List.sum_nil, Nat.add_zero]
theorem namesE : namesM modE = [(0, -1), (1, 0)] := by
 have h2 : formR 11 = 0 := by decide
 simp [namesM, namesX, modE, nmX, nmE, nmD, nmI, nmF, namesB, catL, usesL, fnAt, bodyE, usesN, endI, h2]
theorem findE : findM modE = [(0, 0, 0)] := by
 unfold findM fU fI fS fB fD fL eachL
 rw [namesE]
 simp [modE, catL, fnAt, bodyE, deadL, deadP, locL, ifL]
end Go.Hl
end
section
namespace Go.Proofs.YtpahnbgfmhcndaaGreatDoor
open Go.Hl Go.RowKit
variable {m : ModD} {kb : Nat} {mb : Nat} {o : VP}
theorem lname_spec {D : MapB} {kind n : Int} : FnE Tryz.prog 49 [addrV kb 0, iV kind, iV n] [lkH m kb mb o, nmH mb (D)] (γ := Unit) (fun _ => True) (fun _ => [lkH m kb mb o, nmH mb (updD D (kind, n) true)]) (fun _ => tupV []) := by
 refine In 13 Tryz.func49 fun _ _ _ => ?_
 refine Z8 ?_
 refine .s (opUpd (i := 1) (a := ((kind, n) : PairK)) true Tryz.kt76 Tryz.underlying76 (.t rfl) (.le (.t rfl) (agg_pair (a := ((kind, n) : PairK)))) (.le .ct (VLe.prop (by simp))) rfl) ?_
 refine Z1 ?_
 refine Post.retR0 rfl (()) (by trivial) (fun _ _ _ h => h) rfl
theorem lexports_spec (hp0 : KindsOk m) (hp1 : FitsM m) : FnE Tryz.prog 22 [addrV kb 0] [lkH m kb mb o, nmH mb ([])] (γ := Unit) (fun _ => True) (fun _ => [lkH m kb mb o, nmH mb (putN [] (namesX m))]) (fun _ => tupV []) := by
 refine In 119 Tryz.func22 fun _ _ _ => ?_
 have hlz := fo_lens hp1
 have z1 := hlz.exports; have z2 := hlz.elems; have z3 := hlz.datas; have z4 := hlz.imports; have z5 := hlz.funcs
 refine Z15 ?_
 refine .loopO (σ := Nat) (fun k => [lkH m kb mb o, nmH mb (putN [] (nmX m k))]) (fun k => [(22, iV (k : Int))]) (fun k => k ≤ m.Exports.length) (fun k => m.Exports.length - k) 0 (Nat.zero_le _) rfl ?_ ?_
 · exact (.get rfl (VLe.refl _) (.refl _ _))
 rintro k hk
 refine Z6 ?_
 refine Cd (fun c0 => ?_) fun c0 => ?_
 ·
  obtain ⟨x, hx⟩ := getElem?_lt (xs := m.Exports) (k := k) (by omega)
  have hkd := hp0 x (List.mem_of_getElem? hx)
  refine Z6 ?_
  refine .p (cI k (h := hx)) rfl ?_
  refine Z1 ?_
  refine .n (opAlloc FZ.out) rfl fun b3 _ => ?_
  refine Z3 ?_
  refine .share (t := 3) (i := 0) rfl rfl ?_
  refine .drawK 7 1 FM.out (by kernel_rfl) (k := ?_)
  refine Z1 ?_
  refine .p (opBuildArr (cs := [iV 0, iV 6, iV 3, iV 2]) FR.out FZ.out (.cons (.c _) (.cons (.c _) (.cons (.c _) (.cons (.c _) .nil)))) rfl) ?_
  refine Z2 ?_
  refine .p (opIndexA1 FU.out FC.out FA.out (.t rfl) rfl (.t rfl) (by omega : x.Kind = ((x.Kind.toNat : Nat) : Int)) (kind_at hkd)) ?_
  refine Z3 ?_
  refine .n (cE (h := lname_spec)) rfl fun g33 h33 => ?_
  refine Z7 ?_
  refine .round (k + 1) (by omega) (by omega) (by rw [putN_snoc, nmX_s hx]; try rfl) ?_
  exact (.get rfl (VLe.int (by (show (k : Int) + 1 = ((k + 1 : Nat) : Int); omega))) ((.keep 16 rfl rfl)))
 have hke : k = m.Exports.length := by omega
 subst hke
 refine Z15 ?_
 refine .n (cE (h := lname_spec)) rfl fun g43 h43 => ?_
 refine Z17 ?_
 refine .loopO (σ := Nat) (fun k => [lkH m kb mb o, nmH mb (putN [] ((nmX m m.Exports.length ++ [(0, m.Start)]) ++ nmE m k))]) (fun k => [(52, iV (k : Int))]) (fun k => k ≤ m.Elems.length) (fun k => m.Elems.length - k) 0 (Nat.zero_le _) (by rw [putN_snoc]; show _ = [_, nmH mb (putN [] (_ ++ []))]; simp only [List.append_nil]; try rfl) ?_ ?_
 · exact (.get rfl (VLe.refl _) (.refl _ _))
 rintro k hk
 refine Z6 ?_
 refine Cd (fun c1 => ?_) fun c1 => ?_
 ·
  obtain ⟨x, hx⟩ := getElem?_lt (xs := m.Elems) (k := k) (by omega)
  have hxl := (fo_elem hp1 (List.mem_of_getElem? hx)).1
  refine Z6 ?_
  refine .p (cI k (h := hx)) rfl ?_
  refine Z1 ?_
  refine .n (opAlloc FZ.out) rfl fun b5 _ => ?_
  refine Z3 ?_
  refine .share (t := 5) (i := 0) rfl rfl ?_
  refine Z9 ?_
  refine .loopO (σ := Nat) (fun j => [lkH m kb mb o, nmH mb (putN [] ((nmX m m.Exports.length ++ [(0, m.Start)]) ++ nmE m k ++ (x.Funcs.take j).map fun g => ((0 : Int), g)))]) (fun j => [(59, iV (j : Int))]) (fun j => j ≤ x.Funcs.length) (fun j => x.Funcs.length - j) 0 (Nat.zero_le _) (by show _ = [_, nmH mb (putN [] (_ ++ []))]; simp only [List.append_nil]; try rfl) ?_ ?_
  · exact (.get rfl (VLe.refl _) (.refl _ _))
  rintro j hj
  refine Z6 ?_
  refine Cd (fun c2 => ?_) fun c2 => ?_
  ·
   obtain ⟨y, hy⟩ := getElem?_lt (xs := x.Funcs) (k := j) (by omega)
   refine Z6 ?_
   refine .p (cI j (h := hy)) rfl ?_
   refine Z7 ?_
   refine .n (cE (h := lname_spec)) rfl fun g65 h65 => ?_
   refine Z7 ?_
   refine .round (j + 1) (by omega) (by omega) (by rw [putN_snoc, List.append_assoc _ _ [_]]; rw [takeM (f := fun g : Int => ((0 : Int), g)) hy]; try rfl) ?_
   exact (.get rfl (VLe.int (by (show (j : Int) + 1 = ((j + 1 : Nat) : Int); omega))) ((.keep 10 rfl rfl)))
  have hje : j = x.Funcs.length := by omega
  subst hje
  rw [List.take_length]
  refine Z10 ?_
  refine .round (k + 1) (by omega) (by omega) (by rw [List.append_assoc _ _ (x.Funcs.map _), nmE_s hx]; try rfl) ?_
  exact (.get rfl (VLe.int (by (show (k : Int) + 1 = ((k + 1 : Nat) : Int); omega))) ((.keep 14 rfl rfl)))
 have hke : k = m.Elems.length := by omega
 subst hke
 refine Z20 ?_
 refine .loopO (σ := Nat) (fun k => [lkH m kb mb o, nmH mb (putN [] (((nmX m m.Exports.length ++ [(0, m.Start)]) ++ nmE m m.Elems.length) ++ nmD m k))]) (fun k => [(76, iV (k : Int))]) (fun k => k ≤ m.Datas.length) (fun k => m.Datas.length - k) 0 (Nat.zero_le _) (by show _ = [_, nmH mb (putN [] (_ ++ []))]; simp only [List.append_nil]; try rfl) ?_ ?_
 · exact (.get rfl (VLe.refl _) (.refl _ _))
 rintro k hk
 refine Z6 ?_
 refine Cd (fun c3 => ?_) fun c3 => ?_
 ·
  obtain ⟨x, hx⟩ := getElem?_lt (xs := m.Datas) (k := k) (by omega)
  refine Z6 ?_
  refine .p (cI k (h := hx)) rfl ?_
  refine Z1 ?_
  refine .n (opAlloc FZ.out) rfl fun b9 _ => ?_
  refine Z3 ?_
  refine .share (t := 9) (i := 0) rfl rfl ?_
  refine Z4 ?_
  refine .n (cE (h := lname_spec)) rfl fun g83 h83 => ?_
  refine Z7 ?_
  refine .round (k + 1) (by omega) (by omega) (by rw [putN_snoc, List.append_assoc _ _ [_]]; rw [nmD_s hx]; try rfl) ?_
  exact (.get rfl (VLe.int (by (show (k : Int) + 1 = ((k + 1 : Nat) : Int); omega))) ((.keep 12 rfl rfl)))
 have hke : k = m.Datas.length := by omega
 subst hke
 refine Z20 ?_
 refine .loopO (σ := Nat) (fun k => [lkH m kb mb o, nmH mb (putN [] ((((nmX m m.Exports.length ++ [(0, m.Start)]) ++ nmE m m.Elems.length) ++ nmD m m.Datas.length) ++ nmI m k))]) (fun k => [(93, iV (k : Int))]) (fun k => k ≤ m.Imports.length) (fun k => m.Imports.length - k) 0 (Nat.zero_le _) (by show _ = [_, nmH mb (putN [] (_ ++ []))]; simp only [List.append_nil]; try rfl) ?_ ?_
 · exact (.get rfl (VLe.refl _) (.refl _ _))
 rintro k hk
 refine Z6 ?_
 refine Cd (fun c4 => ?_) fun c4 => ?_
 ·
  obtain ⟨x, hx⟩ := getElem?_lt (xs := m.Imports) (k := k) (by omega)
  refine Z6 ?_
  refine .p (cI k (h := hx)) rfl ?_
  refine Z1 ?_
  refine .n (opAlloc FZ.out) rfl fun b11 _ => ?_
  refine Z3 ?_
  refine .share (t := 11) (i := 0) rfl rfl ?_
  refine Z4 ?_
  refine .n (cE (h := lname_spec)) rfl fun g100 h100 => ?_
  refine Z7 ?_
  refine .round (k + 1) (by omega) (by omega) (by rw [putN_snoc, List.append_assoc _ _ [_]]; rw [nmI_s hx]; try rfl) ?_
  exact (.get rfl (VLe.int (by (show (k : Int) + 1 = ((k + 1 : Nat) : Int); omega))) ((.keep 12 rfl rfl)))
 have hke : k = m.Imports.length := by omega
 subst hke
 refine Z19 ?_
 refine .loopO (σ := Nat) (fun k => [lkH m kb mb o, nmH mb (putN [] (((((nmX m m.Exports.length ++ [(0, m.Start)]) ++ nmE m m.Elems.length) ++ nmD m m.Datas.length) ++ nmI m m.Imports.length) ++ nmF m k))]) (fun k => [(110, iV (k : Int))]) (fun k => k ≤ m.Funcs.length) (fun k => m.Funcs.length - k) 0 (Nat.zero_le _) (by show _ = [_, nmH mb (putN [] (_ ++ []))]; simp only [List.append_nil]; try rfl) ?_ ?_
 · exact (.get rfl (VLe.refl _) (.refl _ _))
 rintro k hk
 refine Z6 ?_
 refine Cd (fun c5 => ?_) fun c5 => ?_
 ·
  obtain ⟨x, hx⟩ := getElem?_lt (xs := m.Funcs) (k := k) (by omega)
  refine Z6 ?_
  refine .p (cI k (h := hx)) rfl ?_
  refine Z1 ?_
  refine .n (opAlloc FZ.out) rfl fun b13 _ => ?_
  refine Z3 ?_
  refine .share (t := 13) (i := 0) rfl rfl ?_
  refine Z4 ?_
  refine .n (cE (h := lname_spec)) rfl fun g117 h117 => ?_
  refine Z7 ?_
  refine .round (k + 1) (by omega) (by omega) (by rw [putN_snoc, List.append_assoc _ _ [_]]; rw [nmF_s hx]; try rfl) ?_
  exact (.get rfl (VLe.int (by (show (k : Int) + 1 = ((k + 1 : Nat) : Int); omega))) ((.keep 12 rfl rfl)))
 have hke : k = m.Funcs.length := by omega
 subst hke
 refine Z4 ?_
 refine Post.retR0 rfl (()) (by trivial) (fun _ _ _ h => h) rfl
theorem luses_spec {D : MapB} {x : InstrD} {own : Int} (hp0 : (findI x.Code).isSome = true) : FnE Tryz.prog 50 [addrV kb 0, aggV (encInstr x), iV own] [lkH m kb mb o, nmH mb (D)] (γ := Unit) (fun _ => True) (fun _ => [lkH m kb mb o, nmH mb (putN D (usesN x own))]) (fun _ => tupV []) := by
 refine In 76 Tryz.func50 fun _ _ _ => ?_
 obtain ⟨w, hw⟩ := Option.isSome_iff_exists.1 hp0
 have hwf : w.Form = formR x.Code := (find_some_of hw).2.2.2.1
 refine Z9 ?_
 refine .p (cA (h := find_spec (code := x.Code))) rfl ?_
 refine Z1 ?_
 refine .p ((opExtract (.t rfl) rfl).le (VLe.of_eq (show aggV (encInfo ((findI x.Code).getD zeroI)) = aggV (encInfo w) by rw [hw]; rfl))) rfl ?_
 refine Z1 ?_
 refine .n (opAlloc FZ.out) rfl fun b6 _ => ?_
 refine Z4 ?_
 refine .share (t := 6) (i := 0) rfl rfl ?_
 refine Z9 ?_
 refine .g (OpG.gT rfl rfl rfl rfl (fun hg => opConv FU.out FU.out (.when (.t rfl) hg))) rfl rfl ?_
 refine Z6 ?_
 refine Cd (fun c0 => ?_) fun c0 => ?_
 ·
  have hu : usesN x own = [(0, w64 x.A)] := by unfold usesN; rw [if_pos c0]
  rw [hu]
  refine Z4 ?_
  refine .p (opConv FU.out FU.out (.t rfl)) rfl ?_
  refine .n (cE (h := lname_spec)) rfl fun g29 h29 => ?_
  refine Z2 ?_
  refine Post.retR0 rfl (()) (by trivial) (fun _ _ _ h => h) rfl
 refine Z8 ?_
 refine Cd (fun c1 => ?_) fun c1 => ?_
 ·
  have hu : usesN x own = [(1, w64 x.A)] := by unfold usesN; rw [if_neg c0, if_pos c1]
  rw [hu]
  refine Z4 ?_
  refine .p (opConv FU.out FU.out (.t rfl)) rfl ?_
  refine .n (cE (h := lname_spec)) rfl fun g38 h38 => ?_
  refine Z2 ?_
  refine Post.retR0 rfl (()) (by trivial) (fun _ _ _ h => h) rfl
 refine Z8 ?_
 refine Cd (fun c2 => ?_) fun c2 => ?_
 ·
  have hu : usesN x own = [(2, w64 x.A)] := by unfold usesN; rw [if_neg c0, if_neg c1, if_pos c2]
  rw [hu]
  refine Z4 ?_
  refine .p (opConv FU.out FU.out (.t rfl)) rfl ?_
  refine .n (cE (h := lname_spec)) rfl fun g47 h47 => ?_
  refine Z2 ?_
  refine Post.retR0 rfl (()) (by trivial) (fun _ _ _ h => h) rfl
 refine Z8 ?_
 refine Cd (fun c3 => ?_) fun c3 => ?_
 ·
  have hu : usesN x own = [(3, w64 x.A), (3, w64 x.B)] := by unfold usesN; rw [if_neg c0, if_neg c1, if_neg c2, if_pos (hwf ▸ c3)]
  rw [hu]
  refine Z5 ?_
  refine .p (opConv FU.out FU.out (.t rfl)) rfl ?_
  refine .n (cE (h := lname_spec)) rfl fun g56 h56 => ?_
  refine Z6 ?_
  refine .p (opConv FU.out FU.out (.t rfl)) rfl ?_
  refine .n (cE (h := lname_spec)) rfl fun g61 h61 => ?_
  refine Z2 ?_
  refine Post.retR0 rfl (()) (by trivial) (fun _ _ _ h => h) rfl
 refine Z13 ?_
 refine Cd (fun c4 => ?_) fun c4 => ?_
 ·
  have hu : usesN x own = [(3, w64 x.A)] := by unfold usesN; rw [if_neg c0, if_neg c1, if_neg c2, if_neg (hwf ▸ c3), if_pos (hwf ▸ c4)]
  rw [hu]
  refine Z4 ?_
  refine .p (opConv FU.out FU.out (.t rfl)) rfl ?_
  refine .n (cE (h := lname_spec)) rfl fun g75 h75 => ?_
  refine Z2 ?_
  refine Post.retR0 rfl (()) (by trivial) (fun _ _ _ h => h) rfl
 have hu : usesN x own = [] := by unfold usesN; rw [if_neg c0, if_neg c1, if_neg c2, if_neg (hwf ▸ c3), if_neg (hwf ▸ c4)]
 rw [hu]
 refine Z2 ?_
 refine Post.retR0 rfl (()) (by trivial) (fun _ _ _ h => h) rfl
theorem lbodies_spec {B : List PairK} (hp0 : ∀ f ∈ m.Funcs, ∀ y ∈ f.Body.L, (findI y.Code).isSome = true) (hp1 : ModOk m) (hp2 : m.Imports.length ≤ 1000) (hp3 : m.Funcs.length ≤ 60000) : FnE Tryz.prog 23 [addrV kb 0] [lkH m kb mb o, nmH mb (putN [] B)] (γ := Unit) (fun _ => True) (fun _ => [lkH m kb mb o, nmH mb (putN [] (B ++ namesB m m.Funcs.length))]) (fun _ => tupV []) := by
 refine In 42 Tryz.func23 fun _ _ _ => ?_
 refine Z14 ?_
 refine .loopO (σ := Nat) (fun k => [lkH m kb mb o, nmH mb (putN [] (B ++ namesB m k))]) (fun k => [(14, iV (k : Int))]) (fun k => k ≤ m.Funcs.length) (fun k => m.Funcs.length - k) 0 (Nat.zero_le _) (by show _ = [_, nmH mb (putN [] (B ++ []))]; rw [List.append_nil]) ?_ ?_
 · exact (.get rfl (VLe.refl _) (.refl _ _))
 rintro k hk
 refine Z6 ?_
 refine Cd (fun c0 => ?_) fun c0 => ?_
 ·
  obtain ⟨x, hx⟩ := getElem?_lt (xs := m.Funcs) (k := k) (by omega)
  have hxl := hp1.len x (List.mem_of_getElem? hx)
  refine Z7 ?_
  refine .p (cI k (h := hx)) rfl ?_
  refine Z1 ?_
  refine .n (opAlloc FZ.out) rfl fun b3 _ => ?_
  refine Z4 ?_
  refine .share (t := 3) (i := 0) rfl rfl ?_
  refine Z10 ?_
  refine .loopO (σ := Nat) (fun j => [lkH m kb mb o, nmH mb (putN [] (B ++ namesB m k ++ usesL x.Body.L ((m.Imports.length : Int) + (k : Int)) j))]) (fun j => [(23, iV (j : Int))]) (fun j => j ≤ x.Body.L.length) (fun j => x.Body.L.length - j) 0 (Nat.zero_le _) (by show _ = [_, nmH mb (putN [] (_ ++ []))]; simp only [List.append_nil]; try rfl) ?_ ?_
  · exact (.get rfl (VLe.refl _) (.refl _ _))
  rintro j hj
  refine Z6 ?_
  refine Cd (fun c1 => ?_) fun c1 => ?_
  ·
   obtain ⟨y, hy⟩ := getElem?_lt (xs := x.Body.L) (k := j) (by omega)
   refine Z6 ?_
   refine .p (cI j (h := hy)) rfl ?_
   refine Z1 ?_
   refine .n (opAlloc FZ.out) rfl fun b5 _ => ?_
   refine Z3 ?_
   refine .share (t := 5) (i := 0) rfl rfl ?_
   refine .drawK 12 1 FM.out (by kernel_rfl) (k := ?_)
   refine Z1 ?_
   refine .p (OpP.le (opLoadA FA.out FC.out rfl (.t rfl) rfl) (VLe.refl (aggV (encInstr y)))) ?_
   refine Z11 ?_
   refine .n (cE (h := luses_spec (x := y) (own := (m.Imports.length : Int) + (k : Int)) (hp0 x (List.mem_of_getElem? hx) y (List.mem_of_getElem? hy)))) rfl fun g39 h39 => ?_
   refine Z7 ?_
   refine .round (j + 1) (by omega) (by omega) (by rw [← putN_app, List.append_assoc _ _ (usesN _ _)]; rw [usesL_s hy]; try rfl) ?_
   exact (.get rfl (VLe.int (by (show (j : Int) + 1 = ((j + 1 : Nat) : Int); omega))) ((.keep 21 rfl rfl)))
  have hje : j = x.Body.L.length := by omega
  subst hje
  refine Z10 ?_
  refine .round (k + 1) (by omega) (by omega) (by rw [List.append_assoc]; have e := fnAt_eq hx; subst e; rfl) ?_
  exact (.get rfl (VLe.int (by (show (k : Int) + 1 = ((k + 1 : Nat) : Int); omega))) ((.keep 17 rfl rfl)))
 have hke : k = m.Funcs.length := by omega
 subst hke
 refine Z4 ?_
 refine Post.retR0 rfl (()) (by trivial) (fun _ _ _ h => h) rfl
theorem lall_spec {i : Int} : FnP Tryz.prog 26 [iV i] (propV True) := by
 refine In 3 Tryz.func26 fun _ _ _ => ?_
 refine Z11 ?_
 refine Rt1 ?_
 exact VLe.refl _
theorem lmodc_spec {i : Int} (hp0 : 0 ≤ i ∧ i < (m.Globals.length : Int)) : FnP Tryz.prog 27 [iV i, ptrV [ptrV (encMod m)]] (propV (mutG m i)) := by
 refine In 12 Tryz.func27 fun _ _ _ => ?_
 obtain ⟨g, hg⟩ := getElem?_lt (xs := m.Globals) (k := i.toNat) (by omega)
 refine Z12 ?_
 refine .p (cI i.toNat (h := hg)) rfl ?_
 refine Z6 ?_
 refine Rt1 ?_
 exact VLe.prop ⟨fun h => ⟨g, hg, h⟩, fun ⟨g2, h2, h3⟩ => by rw [hg] at h2; cases h2; exact h3⟩
variable {gl : SB} {l : List FdT} {N : List PairK}
theorem leach_spec {kind a0 b0 : Int} {a n : Nat} {p : Int → Prop} (hp0 : l.length ≤ 1000000) (hp1 : a + n ≤ 100000) (hp2 : a0 = (a : Int)) (hp3 : b0 = (a : Int) + (n : Int)) : FnE Tryz.prog 24 [addrV kb 0, iV kind, iV a0, iV b0, funV Tryz.prog (fun i : Int => (a : Int) ≤ i ∧ i < (a : Int) + (n : Int)) (fun i => [iV i]) (fun i => propV (p i))] (lkO m kb mb gl l N) (γ := SB) (fun _ => True) (fun g => lkO m kb mb g (l ++ eachL p N kind a n) N) (fun _ => tupV []) := by
 refine In 43 Tryz.func24 fun _ _ _ => ?_
 refine Z7 ?_
 refine .loopO (σ := Nat × SB) (fun s => lkO m kb mb s.2 (l ++ eachL p N kind a s.1) N) (fun s => [(10, iV ((a : Int) + (s.1 : Int)))]) (fun s => s.1 ≤ n) (fun s => n - s.1) (0, gl) (Nat.zero_le _) (by show _ = lkO m kb mb gl (l ++ []) N; rw [List.append_nil]) ?_ ?_
 · exact (.get rfl (VLe.int (by simp [hp2])) (.refl _ _))
 rintro ⟨j, sb⟩ hj
 simp only at hj ⊢
 have hel := eachL_len (p := p) (N := N) (kind := kind) (a := a) (n := j)
 refine Z8 ?_
 refine Cd (fun c0 => ?_) fun c0 => ?_
 ·
  refine Z8 ?_
  refine .p (cV ((a : Int) + (j : Int)) (h := by exact ⟨by omega, by omega⟩)) rfl ?_
  refine Z8 ?_
  refine .g (OpG.gT rfl rfl rfl rfl (fun hg => opLook (i := 2) (a := ((kind, (a : Int) + (j : Int)) : PairK)) Tryz.kt76 Tryz.underlying76 (fun w => run_zv Tryz.zv4 w) (.when (.t rfl) hg) (.le (.when (.t rfl) hg) (agg_pair (a := ((kind, (a : Int) + (j : Int)) : PairK)))) rfl)) rfl rfl ?_
  refine .g (OpG.gT rfl rfl rfl rfl (fun hg => opNot (.le (.when (.t rfl) hg) look_names))) rfl rfl ?_
  refine Z3 ?_
  refine Cd (fun c1 => ?_) fun c1 => ?_
  ·
   refine Z9 ?_
   refine .p (cB encFd [(kind, (a : Int) + (j : Int), 0)]) rfl ?_
   refine .n (opAppend (i := 1) FU.out FU.out FC.out rfl FZ.out rfl FY.out (.t rfl) (.t rfl) rfl (by simp only [List.length_cons, List.length_nil, List.length_append] at *; omega) (by simp only [List.length_cons, List.length_nil, List.length_append] at *; omega)) rfl fun g40 _ => ?_
   refine Z11 ?_
   refine .round (j + 1, g40) (by show j + 1 ≤ n; omega) (by show n - (j + 1) < n - j; omega) (by show _ = lkO m kb mb g40 (l ++ (eachL p N kind a j ++ ifL _ _)) N; rw [ifL_yes _ c1, ← List.append_assoc]; try rfl) ?_
   exact (.get rfl (VLe.int (by show _ = (a : Int) + ((j + 1 : Nat) : Int); omega)) ((.keep 33 rfl rfl)))
  refine Z8 ?_
  refine .round (j + 1, sb) (by show j + 1 ≤ n; omega) (by show n - (j + 1) < n - j; omega) (by show _ = lkO m kb mb sb (l ++ (eachL p N kind a j ++ ifL _ _)) N; rw [ifL_no _ c1, List.append_nil]; try rfl) ?_
  exact (.get rfl (VLe.int (by show _ = (a : Int) + ((j + 1 : Nat) : Int); omega)) ((.keep 21 rfl rfl)))
 have hje : j = n := by omega
 subst hje
 refine Z4 ?_
 refine Post.retR0 rfl (sb) (by trivial) (fun _ _ _ h => h) rfl
theorem lstops_spec {c : Int} : FnP Tryz.prog 51 [iV c] (propV (stopC c)) := by
 refine In 17 Tryz.func51 fun _ _ _ => ?_
 refine Z25 ?_
 refine Rt1 ?_
 exact VLe.refl _
theorem lbound_spec {c : Int} : FnP Tryz.prog 52 [iV c] (propV (bndC c)) := by
 refine In 13 Tryz.func52 fun _ _ _ => ?_
 refine Z21 ?_
 refine Rt1 ?_
 exact VLe.refl _
theorem lbehind_spec {n0 : Nat} {l : List InstrD} (hp0 : n0 < l.length) : FnP Tryz.prog 53 [addrV kb 0, sliceV 5 encInstr l, iV (n0 : Int)] (propV (behD l n0)) := by
 refine In 30 Tryz.func53 fun _ _ _ => ?_
 refine .fact (t := 1) rfl (fun S w v h => sliceV_len h) fun hln => ?_
 refine Z14 ?_
 refine .loopO (σ := Nat) (fun _ => []) (fun n => [(7, iV ((n : Int) - 1))]) (fun n => n ≤ n0 ∧ (behD l n ↔ behD l n0)) (fun n => n) n0 ⟨Nat.le_refl _, Iff.rfl⟩ rfl ?_ ?_
 · exact (.get rfl (VLe.refl _) (.refl _ _))
 rintro n ⟨hn, hb⟩
 obtain ⟨y, hy⟩ := getElem?_lt (xs := l) (k := n) (by omega)
 have hcy := cdI_eq hy
 obtain ⟨z, hz⟩ := getElem?_lt (xs := l) (k := n - 1) (by omega)
 have hcz := cdI_eq hz
 refine Z9 ?_
 refine .g (OpG.gT rfl rfl rfl rfl (fun hg => opIndexAddr (j := n) FU.out FC.out rfl (.when (.t rfl) hg) (.when (.t rfl) hg) (by omega) hy)) rfl rfl ?_
 refine Z2 ?_
 refine .g (OpG.gT rfl rfl rfl rfl (fun hg => opCall (lbound_spec) FB.out (.cons (.when (.t rfl) hg) .nil))) rfl rfl ?_
 refine Z4 ?_
 refine Cd (fun c0 => ?_) fun c0 => ?_
 ·
  refine Z8 ?_
  refine .p (cI (n - 1) (h := hz)) rfl ?_
  refine Z2 ?_
  refine .p (cA (h := lstops_spec)) rfl ?_
  refine Z2 ?_
  refine Cd (fun c1 => ?_) fun c1 => ?_
  ·
   refine Z11 ?_
   refine Rt1 ?_
   exact VLe.prop ⟨fun _ => hb.1 (beh_stop (by omega) (by rw [hcy]; exact c0.2) (by rw [hcz]; exact c1)), fun _ => trivial⟩
  refine Z8 ?_
  refine .round (n - 1) ⟨by omega, by rw [← hb]; exact (beh_next (by omega) (by rw [hcy]; exact c0.2) (by rw [hcz]; exact c1)).symm⟩ (by omega) rfl ?_
  exact (.get rfl (VLe.int (by omega)) ((.keep 22 rfl rfl)))
 refine Z11 ?_
 refine Rt1 ?_
 exact VLe.prop ⟨fun h => h.elim, fun h => beh_end (hb.2 h) fun hn1 hby => c0 ⟨by omega, by rw [← hcy]; exact hby⟩⟩
theorem ldead_spec {i : Nat} {f : FuncD} (hp0 : l.length ≤ 100000000) (hp1 : ModOk m) (hp2 : m.Funcs[i]? = some f) : FnE Tryz.prog 28 [addrV kb 0, iV (i : Int)] (lkO m kb mb gl l N) (γ := SB) (fun _ => True) (fun g => lkO m kb mb g (l ++ deadL f.Body.L (i : Int) f.Body.L.length) N) (fun _ => tupV []) := by
 refine In 60 Tryz.func28 fun _ _ _ => ?_
 have hll := hp1.len f (List.mem_of_getElem? hp2)
 refine Z10 ?_
 refine .p (cI i (h := hp2)) rfl ?_
 refine Z12 ?_
 refine .loopO (σ := Nat × SB) (fun s => lkO m kb mb s.2 (l ++ deadL f.Body.L (i : Int) s.1) N) (fun s => [(5, iV (s.1 : Int))]) (fun s => 1 ≤ s.1 ∧ (s.1 ≤ f.Body.L.length ∨ f.Body.L.length = 0 ∧ s.1 = 1)) (fun s => f.Body.L.length + 1 - s.1) (1, gl) ⟨Nat.le_refl _, by omega⟩ (by show _ = lkO m kb mb gl (l ++ ([] ++ ifL _ _)) N; rw [ifL_no (p := deadP f.Body.L 0) _ (fun h => absurd h.1 (by decide)), List.append_nil, List.append_nil]) ?_ ?_
 · exact (.get rfl (VLe.refl _) (.refl _ _))
 rintro ⟨j, sb⟩ hj
 simp only at hj ⊢
 have hel := deadL_len (l := f.Body.L) (f := (i : Int)) (n := j)
 refine Z9 ?_
 refine Cd (fun c0 => ?_) fun c0 => ?_
 ·
  have hjl : j < f.Body.L.length := by omega
  obtain ⟨y, hy⟩ := getElem?_lt (xs := f.Body.L) (k := j) hjl
  obtain ⟨z, hz⟩ := getElem?_lt (xs := f.Body.L) (k := j - 1) (by omega)
  have hdp : deadP f.Body.L j ↔ ((stopC z.Code ∧ ¬ bndC y.Code) ∧ ¬ behD f.Body.L (j - 1)) := by unfold deadP; rw [cdI_eq hz, cdI_eq hy]; exact ⟨fun h => ⟨⟨h.2.1, h.2.2.1⟩, h.2.2.2⟩, fun h => ⟨hj.1, h.1.1, h.1.2, h.2⟩⟩
  refine Z9 ?_
  refine .p (cI (j - 1) (h := hz)) rfl ?_
  refine Z2 ?_
  refine .p (cA (h := lstops_spec)) rfl ?_
  refine Z3 ?_
  refine .g (OpG.gT rfl rfl rfl rfl (fun hg => opIndexAddr (j := j) FU.out FC.out rfl (.when (.t rfl) hg) (.when (.t rfl) hg) rfl hy)) rfl rfl ?_
  refine Z2 ?_
  refine .g (OpG.gT rfl rfl rfl rfl (fun hg => opCall (lbound_spec) FB.out (.cons (.when (.t rfl) hg) .nil))) rfl rfl ?_
  refine Z6 ?_
  refine .g (OpG.gT rfl rfl rfl rfl (fun hg => (opSubF (.when (.t rfl) hg) (.c _) fits_z).le (VLe.int (show (j : Int) - 1 = ((j - 1 : Nat) : Int) by omega)))) rfl rfl ?_
  refine .g (OpG.gT rfl rfl rfl rfl (fun hg => opCall (lbehind_spec (n0 := j - 1) (by omega)) FB.out (.cons (.when (.t rfl) hg) (.cons (.when (.t rfl) hg) (.cons (.when (.t rfl) hg) .nil))))) rfl rfl ?_
  refine Z4 ?_
  refine Cd (fun c1 => ?_) fun c1 => ?_
  ·
   refine Z9 ?_
   refine .p (cB encFd [(4, (i : Int), (j : Int))]) rfl ?_
   refine .n (opAppend (i := 1) FU.out FU.out FC.out rfl FZ.out rfl FY.out (.t rfl) (.t rfl) rfl (by simp only [List.length_cons, List.length_nil, List.length_append] at *; omega) (by simp only [List.length_cons, List.length_nil, List.length_append] at *; omega)) rfl fun g57 _ => ?_
   refine Z11 ?_
   refine .round (j + 1, g57) ⟨by show 1 ≤ j + 1; omega, .inl (by show j + 1 ≤ _; omega)⟩ (by show f.Body.L.length + 1 - (j + 1) < f.Body.L.length + 1 - j; omega) (by show _ = lkO m kb mb g57 (l ++ (deadL f.Body.L (i : Int) j ++ ifL _ _)) N; rw [ifL_yes _ (hdp.2 c1), ← List.append_assoc]; try rfl) ?_
   exact (.get rfl (VLe.int (by (show (j : Int) + 1 = ((j + 1 : Nat) : Int); omega))) ((.keep 44 rfl rfl)))
  refine Z8 ?_
  refine .round (j + 1, sb) ⟨by show 1 ≤ j + 1; omega, .inl (by show j + 1 ≤ _; omega)⟩ (by show f.Body.L.length + 1 - (j + 1) < f.Body.L.length + 1 - j; omega) (by show _ = lkO m kb mb sb (l ++ (deadL f.Body.L (i : Int) j ++ ifL _ _)) N; rw [ifL_no _ (fun h => c1 (hdp.1 h)), List.append_nil]; try rfl) ?_
  exact (.get rfl (VLe.int (by (show (j : Int) + 1 = ((j + 1 : Nat) : Int); omega))) ((.keep 32 rfl rfl)))
 have hje : deadL f.Body.L (i : Int) j = deadL f.Body.L (i : Int) f.Body.L.length := by (rcases hj.2 with h | h; rw [show j = f.Body.L.length by omega]; rw [h.2, h.1]; show [] ++ ifL _ _ = []; rw [ifL_no (p := deadP f.Body.L 0) _ (fun h => absurd h.1 (by decide))]; rfl)
 rw [hje]
 refine Z4 ?_
 refine Post.retR0 rfl (sb) (by trivial) (fun _ _ _ h => h) rfl
theorem llocals_spec {i : Nat} {f : FuncD} (hp0 : l.length ≤ 100000000) (hp1 : FitsM m) (hp2 : ModOk m) (hp3 : m.Funcs[i]? = some f) (hp4 : ∀ y ∈ f.Body.L, (findI y.Code).isSome = true) : FnE Tryz.prog 29 [addrV kb 0, iV (i : Int)] (lkO m kb mb gl l N) (γ := SB) (fun _ => True) (fun g => lkO m kb mb g (l ++ locL f.Body.L (i : Int) (sigAt m f.Sig).P.length f.Body.Locals.length) N) (fun _ => tupV []) := by
 refine In 103 Tryz.func29 fun _ _ _ => ?_
 have hfm := List.mem_of_getElem? hp3
 have hil := (List.getElem?_eq_some_iff.1 hp3).1
 have hlens := hp1.lens
 have hcn : (m.Imports.length : Int) + (m.Funcs.length : Int) ≤ 100 := hlens.2.2.2.2
 have hsm := (sigAt_mem (func_sig hp1 hfm)).2
 have hP := (hp1.few _ hsm).1
 have hll := hp2.len f hfm
 have hlo := hp2.loc f hfm
 refine Z1 ?_
 refine .stagedK [(0, 0), (1, 0), (2, 0), (3, 1), (4, 0), (5, 0), (6, 0), (7, 1), (8, 0), (9, 0), (10, 0), (11, 0), (12, 0), (13, 0), (14, 0), (15, 0), (16, 0), (17, 0), (18, 4), (19, 3)] 20 1 FM.out (by kernel_rfl) (k := ?_)
 refine Z14 ?_
 refine .p rfl (fun _ => (cA (h := msig_spec (m := m) (f := (m.Imports.length : Int) + (i : Int)))).le (VLe.of_eq (show tupV [aggV (encSig ((sigO m ((m.Imports.length : Int) + (i : Int))).getD ⟨[], []⟩)), propV (sigO m ((m.Imports.length : Int) + (i : Int))).isSome] = tupV [aggV (encSig (sigAt m f.Sig)), propV ((some (sigAt m f.Sig)).isSome = true)] by rw [func_sigO hp1 hp3]; rfl))) ?_
 refine Z3 ?_
 refine .a rfl (opAlloc FZ.out) (fun _ _ => OLe.drop (OLe.refl _)) fun b4 _ => ?_
 refine .s rfl (opStoreOA (i := 0) FC.out rfl (.t rfl) (.t rfl) rfl rfl rfl) ?_
 refine .fin ?_
 refine Z3 ?_
 refine .share (t := 4) (i := 0) rfl rfl ?_
 refine Z2 ?_
 refine .n (opMakeM (Value.int .i64) (fun b : Bool => propV (b = true))) rfl fun m31 _ => ?_
 refine Z14 ?_
 refine .p (cI i (h := hp3)) rfl ?_
 refine Z8 ?_
 refine .loopO (σ := Nat) (fun k => mapH m31 (Value.int .i64) (fun b : Bool => propV (b = true)) (putN [] ((f.Body.L.take k).flatMap locU)) :: lkO m kb mb gl l N) (fun k => [(45, iV (k : Int))]) (fun k => k ≤ f.Body.L.length) (fun k => f.Body.L.length - k) 0 (Nat.zero_le _) rfl ?_ ?_
 · exact (.get rfl (VLe.refl _) (.refl _ _))
 rintro k hk
 refine Z6 ?_
 refine Cd (fun c0 => ?_) fun c0 => ?_
 ·
  obtain ⟨x, hx⟩ := getElem?_lt (xs := f.Body.L) (k := k) (by omega)
  obtain ⟨w, hw⟩ := Option.isSome_iff_exists.1 (hp4 x (List.mem_of_getElem? hx))
  have hwf : w.Form = formR x.Code := (find_some_of hw).2.2.2.1
  refine Z6 ?_
  refine .p (cI k (h := hx)) rfl ?_
  refine Z1 ?_
  refine .n (opAlloc FZ.out) rfl fun b8 _ => ?_
  refine Z3 ?_
  refine .share (t := 8) (i := 0) rfl rfl ?_
  refine Z4 ?_
  refine .p (cA (h := find_spec (code := x.Code))) rfl ?_
  refine Z1 ?_
  refine .p ((opExtract (.t rfl) rfl).le (VLe.of_eq (show aggV (encInfo ((findI x.Code).getD zeroI)) = aggV (encInfo w) by rw [hw]; rfl))) rfl ?_
  refine Z1 ?_
  refine .n (opAlloc FZ.out) rfl fun b9 _ => ?_
  refine Z4 ?_
  refine .share (t := 9) (i := 0) rfl rfl ?_
  refine Z7 ?_
  refine Cd (fun c1 => ?_) fun c1 => ?_
  ·
   have hlu : locU x = [w64 x.A] := if_pos (form_6.1 (hwf ▸ c1))
   refine Z4 ?_
   refine .p (opConv FU.out FU.out (.t rfl)) rfl ?_
   refine .s (opUpd (i := 0) (a := w64 x.A) true Tryz.kt135 Tryz.underlying135 (.t rfl) (.t rfl) (.le .ct (VLe.prop (by simp))) rfl) ?_
   refine Z7 ?_
   refine .round (k + 1) (by omega) (by omega) (by rw [← takeF hx, hlu, ← putN_snoc]; rfl) ?_
   exact (.get rfl (VLe.int (by (show (k : Int) + 1 = ((k + 1 : Nat) : Int); omega))) ((.keep 24 rfl rfl)))
  have hlu : locU x = [] := if_neg (fun h => c1 (hwf ▸ form_6.2 h))
  refine Z7 ?_
  refine .round (k + 1) (by omega) (by omega) (by rw [← takeF hx, hlu, List.append_nil]; try rfl) ?_
  exact (.get rfl (VLe.int (by (show (k : Int) + 1 = ((k + 1 : Nat) : Int); omega))) ((.keep 20 rfl rfl)))
 have hke : k = f.Body.L.length := by omega
 subst hke
 rw [List.take_length]
 refine Z23 ?_
 refine .p (cI i (h := hp3)) rfl ?_
 refine Z8 ?_
 refine .loopO (σ := Nat × SB) (fun s => mapH m31 (Value.int .i64) (fun b : Bool => propV (b = true)) (putN [] (f.Body.L.flatMap locU)) :: lkO m kb mb s.2 (l ++ locL f.Body.L (i : Int) (sigAt m f.Sig).P.length s.1) N) (fun s => [(79, iV (s.1 : Int))]) (fun s => s.1 ≤ f.Body.Locals.length) (fun s => f.Body.Locals.length - s.1) (0, gl) (Nat.zero_le _) (by show _ = _ :: lkO m kb mb gl (l ++ []) N; rw [List.append_nil]) ?_ ?_
 · exact (.get rfl (VLe.refl _) (.refl _ _))
 rintro ⟨j, sb⟩ hj
 simp only at hj ⊢
 have hel := locL_len (l := f.Body.L) (f := (i : Int)) (n0 := (sigAt m f.Sig).P.length) (n := j)
 refine Z6 ?_
 refine Cd (fun c2 => ?_) fun c2 => ?_
 ·
  refine Z16 ?_
  refine .p (opLook (i := 0) Tryz.kt135 Tryz.underlying135 (fun w => run_zv Tryz.zv4 w) (.t rfl) (.t rfl) rfl) rfl ?_
  refine .p (opNot (.le (.t rfl) look_names)) rfl ?_
  refine Z2 ?_
  refine Cd (fun c3 => ?_) fun c3 => ?_
  ·
   refine Z11 ?_
   refine .p (cB encFd [(5, (i : Int), ((sigAt m f.Sig).P.length : Int) + (j : Int))]) rfl ?_
   refine .n (opAppend (i := 2) FU.out FU.out FC.out rfl FZ.out rfl FY.out (.t rfl) (.t rfl) rfl (by simp only [List.length_cons, List.length_nil, List.length_append] at *; omega) (by simp only [List.length_cons, List.length_nil, List.length_append] at *; omega)) rfl fun g99 _ => ?_
   refine Z10 ?_
   refine .round (j + 1, g99) (by show j + 1 ≤ _; omega) (by show f.Body.Locals.length - (j + 1) < f.Body.Locals.length - j; omega) (by show _ = _ :: lkO m kb mb g99 (l ++ (locL f.Body.L (i : Int) (sigAt m f.Sig).P.length j ++ ifL _ _)) N; rw [ifL_yes _ (fun h => c3 (loc_mem.2 h)), ← List.append_assoc]; try rfl) ?_
   exact (.get rfl (VLe.int (by (show (j : Int) + 1 = ((j + 1 : Nat) : Int); omega))) ((.keep 26 rfl rfl)))
  refine Z7 ?_
  refine .round (j + 1, sb) (by show j + 1 ≤ _; omega) (by show f.Body.Locals.length - (j + 1) < f.Body.Locals.length - j; omega) (by show _ = _ :: lkO m kb mb sb (l ++ (locL f.Body.L (i : Int) (sigAt m f.Sig).P.length j ++ ifL _ _)) N; rw [ifL_no _ (fun h => c3 (fun e => h (loc_mem.1 e))), List.append_nil]; try rfl) ?_
  exact (.get rfl (VLe.int (by (show (j : Int) + 1 = ((j + 1 : Nat) : Int); omega))) ((.keep 12 rfl rfl)))
 have hje : j = f.Body.Locals.length := by omega
 subst hje
 refine Z4 ?_
 refine Post.retR0 rfl (sb) (by trivial) (OLe.sel [1, 2, 3] [0] rfl rfl) rfl
theorem lmodule_spec (hp0 : ModOk m) (hp1 : m.Funcs.length ≤ 60000) (hp2 : ValidD m) : FnP Tryz.prog 7 [ptrV (encMod m)] (tupV [sliceV 3 encFd (findM m), iV 0]) := by
 refine In 81 Tryz.func7 fun _ _ _ => ?_
 have hk := valid_kinds hp2
 have hfs := valid_found hp2
 have hlens := hp2.1.lens
 have hcn : (m.Imports.length : Int) + (m.Funcs.length : Int) ≤ 100 := hlens.2.2.2.2
 have hu := fU_len m
 have hi := fI_len m
 have hs := fS_len m
 have hbl := fB_len m
 refine Z16 ?_
 refine Cd (fun c0 => ?_) fun c0 => ?_
 · exact c0.elim
 refine Z3 ?_
 refine .n (cE (h := vis_spec hp0 hp1)) rfl fun g12 h12 => ?_
 refine Z4 ?_
 refine Cd (fun c1 => ?_) fun c1 => ?_
 · exact absurd hp2 c1
 refine Z6 ?_
 refine .n (opMakeM kpair (fun b : Bool => propV (b = true))) rfl fun m15 _ => ?_
 refine .p (OpP.le (opBuild FP.out FZ.out (.cons (.t rfl) (.cons (.t rfl) .nil)) rfl) (VLe.refl (aggV [ptrV (encMod m), exactV (.map (some m15)), exactV (.slice none 0 0)]))) rfl ?_
 refine .n (opBoxOA (.t rfl)) rfl fun b17 _ => ?_
 refine Z6 ?_
 refine .n (cE (h := lexports_spec hk hp2.1)) rfl fun g19 h19 => ?_
 refine Z5 ?_
 refine .n (cE (h := lbodies_spec (B := namesX m) hfs hp0 (by omega) hp1)) rfl fun g21 h21 => ?_
 refine Z3 ?_
 refine .ownNil 3 encFd ?_
 refine .own (OLe.perm (Perm.idx [1, 0, 2] rfl rfl)) ?_
 refine .drawK 8 1 FM.out (by kernel_rfl) (k := ?_)
 refine Z7 ?_
 refine .p (cA (h := count_spec (m := m))) ?_
 refine Z1 ?_
 refine .n (opCallE (rest := []) (leach_spec (gl := none) (l := []) (N := namesM m) (kind := 0) (a := m.Imports.length) (n := m.Funcs.length) (p := fun _ => True) (by first | omega | (simp only [List.length_append, List.length_nil]; omega)) (by omega) (by simp) (by simp [countM])) FB.out (.cons (.t rfl) (.cons (.c _) (.cons (.t rfl) (.cons (.t rfl) (.cons (.le (.f _) (funV_of FB.out (fun (i : Int) (_ : _) => lall_spec (i := i)))) .nil))))) (Perm.idx [0, 1, 2] rfl rfl)) rfl fun g30 h30 => ?_
 refine Z10 ?_
 refine .n (opCallE (rest := []) (leach_spec (l := fU m) (N := namesM m) (kind := 1) (a := 0) (n := m.Sigs.length) (p := fun _ => True) (by first | omega | (simp only [List.length_append, List.length_nil]; omega)) (by omega) (by simp) (by simp [countM])) FB.out (.cons (.t rfl) (.cons (.c _) (.cons (.c _) (.cons (.t rfl) (.cons (.le (.f _) (funV_of FB.out (fun (i : Int) (_ : _) => lall_spec (i := i)))) .nil))))) (Perm.idx [0, 1, 2] rfl rfl)) rfl fun g37 h37 => ?_
 refine Z10 ?_
 refine .p (opMakeFunc (A := Int) (ok := fun i => ((0 : Nat) : Int) ≤ i ∧ i < ((0 : Nat) : Int) + (m.Globals.length : Int)) (arg := fun i => [iV i]) (res := fun i => propV (mutG m i)) FB.out .nil (.cons (.t rfl) .nil) (fun i h => lmodc_spec ⟨by simpa using h.1, by simpa using h.2⟩)) rfl ?_
 refine .n (cE (h := leach_spec (l := fU m ++ fI m) (N := namesM m) (kind := 2) (a := 0) (n := m.Globals.length) (p := mutG m) (by first | omega | (simp only [List.length_append, List.length_nil]; omega)) (by omega) (by simp) (by simp [countM]))) rfl fun g45 h45 => ?_
 refine Z10 ?_
 refine .n (opCallE (rest := []) (leach_spec (l := (fU m ++ fI m) ++ fS m) (N := namesM m) (kind := 3) (a := 0) (n := m.Mems.length) (p := fun _ => True) (by first | omega | (simp only [List.length_append, List.length_nil]; omega)) (by omega) (by simp) (by simp [countM])) FB.out (.cons (.t rfl) (.cons (.c _) (.cons (.c _) (.cons (.t rfl) (.cons (.le (.f _) (funV_of FB.out (fun (i : Int) (_ : _) => lall_spec (i := i)))) .nil))))) (Perm.idx [0, 1, 2] rfl rfl)) rfl fun g52 h52 => ?_
 refine Z14 ?_
 refine .loopO (σ := Nat × SB) (fun s => lkO m b17 m15 s.2 ((((fU m ++ fI m) ++ fS m) ++ fB m) ++ fD m s.1) (namesM m)) (fun s => [(58, iV (s.1 : Int))]) (fun s => s.1 ≤ m.Funcs.length) (fun s => m.Funcs.length - s.1) (0, g52) (Nat.zero_le _) (by show _ = lkO m b17 m15 g52 ((((fU m ++ fI m) ++ fS m) ++ fB m) ++ []) (namesM m); simp only [List.append_nil]; try rfl) ?_ ?_
 · exact (.get rfl (VLe.refl _) (.refl _ _))
 rintro ⟨k, sb⟩ hk2
 simp only at hk2 ⊢
 refine Z6 ?_
 refine Cd (fun c2 => ?_) fun c2 => ?_
 ·
  obtain ⟨f, hf⟩ := getElem?_lt (xs := m.Funcs) (k := k) (by omega)
  have hfa := fnAt_eq hf
  refine Z13 ?_
  refine .n (cE (h := ldead_spec (by have := fD_len hp0 k; simp only [List.length_append]; omega) hp0 hf)) rfl fun g63 h63 => ?_
  refine Z7 ?_
  refine .round (k + 1, g63) (by show k + 1 ≤ _; omega) (by show m.Funcs.length - (k + 1) < m.Funcs.length - k; omega) (by subst hfa; rw [List.append_assoc]; rfl) ?_
  exact (.get rfl (VLe.int (by (show (k : Int) + 1 = ((k + 1 : Nat) : Int); omega))) ((.keep 9 rfl rfl)))
 have hke : k = m.Funcs.length := by omega
 subst hke
 refine Z17 ?_
 refine .loopO (σ := Nat × SB) (fun s => lkO m b17 m15 s.2 ((((((fU m ++ fI m) ++ fS m) ++ fB m) ++ fD m m.Funcs.length)) ++ fL m s.1) (namesM m)) (fun s => [(70, iV (s.1 : Int))]) (fun s => s.1 ≤ m.Funcs.length) (fun s => m.Funcs.length - s.1) (0, sb) (Nat.zero_le _) (by show _ = lkO m b17 m15 sb (((((fU m ++ fI m) ++ fS m) ++ fB m) ++ fD m m.Funcs.length) ++ []) (namesM m); simp only [List.append_nil]; try rfl) ?_ ?_
 · exact (.get rfl (VLe.refl _) (.refl _ _))
 rintro ⟨k, sc⟩ hk2
 simp only at hk2 ⊢
 refine Z6 ?_
 refine Cd (fun c3 => ?_) fun c3 => ?_
 ·
  obtain ⟨f, hf⟩ := getElem?_lt (xs := m.Funcs) (k := k) (by omega)
  have hfa := fnAt_eq hf
  refine Z13 ?_
  refine .n (cE (h := llocals_spec (by have := fD_len hp0 m.Funcs.length; have := fL_len hp0 k; simp only [List.length_append]; omega) hp2.1 hp0 hf (hfs f (List.mem_of_getElem? hf)))) rfl fun g75 h75 => ?_
  refine Z7 ?_
  refine .round (k + 1, g75) (by show k + 1 ≤ _; omega) (by show m.Funcs.length - (k + 1) < m.Funcs.length - k; omega) (by subst hfa; rw [List.append_assoc]; rfl) ?_
  exact (.get rfl (VLe.int (by (show (k : Int) + 1 = ((k + 1 : Nat) : Int); omega))) ((.keep 9 rfl rfl)))
 have hke : k = m.Funcs.length := by omega
 subst hke
 refine .shareIn (n := 3) (enc := encFd) (i := 1) (j := 0) (f := 2) rfl rfl rfl ?_
 refine Z16 ?_
 refine Rt2 ?_ ?_
 · exact VLe.refl _
 exact VLe.refl _
theorem lmoduleN_spec (hp0 : ModOk m) (hp1 : m.Funcs.length ≤ 60000) (hp2 : ¬ ValidD m) : FnP Tryz.prog 7 [ptrV (encMod m)] (tupV [sliceV 3 encFd [], iV 5]) := by
 refine In 81 Tryz.func7 fun _ _ _ => ?_
 refine Z16 ?_
 refine Cd (fun c0 => ?_) fun c0 => ?_
 · exact c0.elim
 refine Z3 ?_
 refine .n (cE (h := vis_spec hp0 hp1)) rfl fun g12 h12 => ?_
 refine Z4 ?_
 refine Cd (fun c1 => ?_) fun c1 => ?_
 ·
  refine Z9 ?_
  refine Rt2 ?_ ?_
  · exact sliceV_nil 3 encFd
  exact VLe.refl _
 exact absurd hp2 c1
theorem lmoduleNil_spec  : FnP Tryz.prog 7 [nilV] (tupV [sliceV 3 encFd [], iV 12]) := by
 refine In 81 Tryz.func7 fun _ _ _ => ?_
 refine Z16 ?_
 refine Cd (fun c0 => ?_) fun c0 => ?_
 ·
  refine Z9 ?_
  refine Rt2 ?_ ?_
  · exact sliceV_nil 3 encFd
  exact VLe.refl _
 exact (c0 trivial).elim
end Go.Proofs.YtpahnbgfmhcndaaGreatDoor
end
