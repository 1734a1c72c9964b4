/-
  What the statement's proof leans on, several texts in one (packed by a program).
-/
import Derived.Test.YtgboekefmedapaaGreatDoorSNJ
set_option linter.all false
set_option maxRecDepth 1000000
set_option maxHeartbeats 4000000
section
namespace Go.Proofs.YtgboekefmedapaaGreatDoor
open Go.Hl Go.RowKit
theorem snewst_spec {pb : Nat} {X : ArI} (hp0 : X.size = 1000) : FnE Tryz.prog 9 [ptrV (encMod modS), addrV X.ab 0, addrV pb 0, intV .i64 0] (arenaL X arZ) (γ := Nat) (fun _ => True) (fun sb => stH sb X pb 0 16 :: arenaL X (arK 2)) (fun sb => tupV [addrV sb 0, intV .i64 0, intV .i64 0]) := by
 refine In 58 Tryz.func9 fun _ _ _ => ?_
 refine Z12 ?_
 refine .p (opEqlNilO FU.out (.t rfl)) rfl ?_
 refine Z2 ?_
 refine .g (OpG.gF rfl rfl rfl rfl (fun hg => opEqlNilO FU.out (.when (.t rfl) hg))) rfl rfl ?_
 refine Z4 ?_
 refine Cd (fun c0 => ?_) fun c0 => ?_
 · exact (c0.elim id id).elim
 refine Z3 ?_
 refine .p (cA (h := visS_spec)) rfl ?_
 refine Z4 ?_
 refine Cd (fun c1 => ?_) fun c1 => ?_
 · exact absurd trivial c1
 refine Z11 ?_
 refine Cd (fun c2 => ?_) fun c2 => ?_
 · exfalso; omega
 refine Z9 ?_
 refine .p ((opBuild FP.out FZ.out (.cons (.t rfl) (.cons (.t rfl) (.cons (.t rfl) (.cons (.t rfl) .nil)))) rfl).le ((by exact show VLe _ (aggV [ptrV (encMod modS), addrV X.ab 0, addrV pb 0, intV .i64 0, intV .i64 0, intV .i64 0, exactV (.slice none 0 0), propV False]) from VLe.agg (.cons (.refl _) (.cons (.refl _) (.cons (.refl _) (.cons (.refl _) (.cons (.refl _) (.cons (.refl _) (.cons (.refl _) (.cons falseV .nil))))))))))) rfl ?_
 refine .n (opBoxOA (.t rfl)) rfl fun b38 _ => ?_
 refine Z7 ?_
 refine .n (cE (h := srooms_spec hp0)) rfl fun g40 h40 => ?_
 refine Z9 ?_
 refine Cd (fun c3 => ?_) fun c3 => ?_
 · exact absurd rfl c3
 refine Z5 ?_
 refine .n (cE (h := sfill_spec hp0)) rfl fun g45 h45 => ?_
 refine Z5 ?_
 refine .n ((cE (h := ssegs_spec)).same (fun _ _ => OLe.refl _) (fun _ _ => VLe.refl _)) rfl fun _ _ => ?_
 refine Z14 ?_
 refine Cd (fun c4 => ?_) fun c4 => ?_
 · exact absurd rfl c4
 refine Z12 ?_
 refine Post.retR rfl rfl (b38) (by trivial) (fun _ _ _ h => h) rfl (.cons (.rt rfl) ?_ (.cons (.rt rfl) ?_ (.cons (.rt rfl) ?_ .nil)))
 · first | exact VLe.refl _ | exact VLe.int (by omega) | exact VLe.prop (by omega) | exact VLe.prop (by simp_all) | exact VLe.prop (by simp; omega)
 · first | exact VLe.refl _ | exact VLe.int (by omega) | exact VLe.prop (by omega) | exact VLe.prop (by simp_all) | exact VLe.prop (by simp; omega)
 first | exact VLe.refl _ | exact VLe.int (by omega) | exact VLe.prop (by omega) | exact VLe.prop (by simp_all) | exact VLe.prop (by simp; omega)
theorem snewA_spec  : FnP Tryz.prog 9 [anyV, nilV, nilV, intV .i64 0] (tupV [nilV, intV .i64 0, intV .i64 12]) := by
 refine In 58 Tryz.func9 fun _ _ _ => ?_
 refine Z15 ?_
 refine .g (OpG.gF rfl rfl rfl rfl (fun hg => opNo (q := propV True) (hg trivial))) rfl rfl ?_
 refine Z4 ?_
 refine Cd (fun c0 => ?_) fun c0 => ?_
 ·
  refine Z10 ?_
  refine Rt3 ?_ ?_ ?_
  · exact VLe.refl _
  · exact VLe.refl _
  exact VLe.refl _
 exact (c0 (.inl trivial)).elim
theorem snewM_spec {ab pb : Nat} : FnP Tryz.prog 9 [nilV, addrV ab 0, addrV pb 0, intV .i64 0] (tupV [nilV, intV .i64 0, intV .i64 5]) := by
 refine In 58 Tryz.func9 fun _ _ _ => ?_
 refine Z12 ?_
 refine .p (opEqlNilO FU.out (.t rfl)) rfl ?_
 refine Z2 ?_
 refine .g (OpG.gF rfl rfl rfl rfl (fun hg => opEqlNilO FU.out (.when (.t rfl) hg))) rfl rfl ?_
 refine Z4 ?_
 refine Cd (fun c0 => ?_) fun c0 => ?_
 · exact (c0.elim id id).elim
 refine Z3 ?_
 refine .p (cA (h := visN_spec)) rfl ?_
 refine Z4 ?_
 refine Cd (fun c1 => ?_) fun c1 => ?_
 ·
  refine Z10 ?_
  refine Rt3 ?_ ?_ ?_
  · exact VLe.refl _
  · exact VLe.refl _
  exact VLe.refl _
 exact (c1 (fun h => h)).elim
variable {i : Int}
theorem sglobalN_spec : FnP Tryz.prog 5 [nilV, intV .i64 i] (tupV [intV .u64 0, intV .i64 12]) := by
 refine In 29 Tryz.func5 fun _ _ _ => ?_
 refine Z12 ?_
 refine .p (opBound (.t rfl)) rfl ?_
 refine .p (cA (h := suseNil_spec)) rfl ?_
 refine Z9 ?_
 refine Cd (fun c0 => ?_) fun c0 => ?_
 ·
  refine Z9 ?_
  refine Rt2 ?_ ?_
  · exact VLe.refl _
  exact VLe.refl _
 exact (c0 (by decide)).elim
theorem sentryN_spec : FnP Tryz.prog 6 [nilV, intV .i64 i] (tupV [intV .i64 0, propV False, intV .i64 12]) := by
 refine In 43 Tryz.func6 fun _ _ _ => ?_
 refine Z13 ?_
 refine .p (opBound (.t rfl)) rfl ?_
 refine .p (cA (h := suseNil_spec)) rfl ?_
 refine Z9 ?_
 refine Cd (fun c0 => ?_) fun c0 => ?_
 ·
  refine Z10 ?_
  refine Rt3 ?_ ?_ ?_
  · exact VLe.refl _
  · exact VLe.refl _
  exact VLe.refl _
 exact (c0 (by decide)).elim
theorem ssetN_spec {v : Int} : FnP Tryz.prog 12 [nilV, intV .i64 i, intV .u64 v] (intV .i64 12) := by
 refine In 42 Tryz.func12 fun _ _ _ => ?_
 refine Z11 ?_
 refine .p (opBound (.t rfl)) rfl ?_
 refine .p (cA (h := suseNil_spec)) rfl ?_
 refine Z9 ?_
 refine Cd (fun c0 => ?_) fun c0 => ?_
 ·
  refine Z8 ?_
  refine Rt1 ?_
  exact VLe.refl _
 exact (c0 (by decide)).elim
theorem smemN_spec : FnP Tryz.prog 7 [nilV, intV .i64 i] (tupV [nilV, propV False]) := by
 refine In 28 Tryz.func7 fun _ _ _ => ?_
 refine Z10 ?_
 refine .p (cA (h := sgoneNil_spec)) rfl ?_
 refine Z7 ?_
 refine .g (OpG.gF rfl rfl rfl rfl (fun hg => opNo (q := anyV) (hg (.inl trivial)))) rfl rfl ?_
 refine .g (OpG.gF rfl rfl rfl rfl (fun hg => opNo (q := anyV) (hg (.inl trivial)))) rfl rfl ?_
 refine .g (OpG.gF rfl rfl rfl rfl (fun hg => opNo (q := anyV) (hg (.inl trivial)))) rfl rfl ?_
 refine .g (OpG.gF rfl rfl rfl rfl (fun hg => opNo (q := intV .i64 0) (hg (.inl trivial)))) rfl rfl ?_
 refine Z4 ?_
 refine Cd (fun c0 => ?_) fun c0 => ?_
 ·
  refine Z8 ?_
  refine Rt2 ?_ ?_
  · exact VLe.refl _
  exact VLe.refl _
 exact (c0 (.inl (.inl trivial))).elim
theorem spagesN_spec  : FnP Tryz.prog 13 [nilV] (exactV (.slice none 0 0)) := by
 refine In 24 Tryz.func13 fun _ _ _ => ?_
 refine Z9 ?_
 refine .p (cA (h := sgoneNil_spec)) rfl ?_
 refine Z2 ?_
 refine Cd (fun c0 => ?_) fun c0 => ?_
 ·
  refine Z7 ?_
  refine Rt1 ?_
  exact VLe.refl _
 exact (c0 trivial).elim
theorem smodN_spec  : FnP Tryz.prog 14 [nilV] (nilV) := by
 refine In 9 Tryz.func14 fun _ _ _ => ?_
 refine Z9 ?_
 refine .p (cA (h := sgoneNil_spec)) rfl ?_
 refine Z2 ?_
 refine Cd (fun c0 => ?_) fun c0 => ?_
 ·
  refine Z7 ?_
  refine Rt1 ?_
  exact VLe.refl _
 exact (c0 trivial).elim
theorem scloseN_spec  : FnP Tryz.prog 15 [nilV] (intV .i64 12) := by
 refine In 51 Tryz.func15 fun _ _ _ => ?_
 refine Z9 ?_
 refine .p (cA (h := sgoneNil_spec)) rfl ?_
 refine Z2 ?_
 refine Cd (fun c0 => ?_) fun c0 => ?_
 ·
  refine Z7 ?_
  refine Rt1 ?_
  exact VLe.refl _
 exact (c0 trivial).elim
theorem mempty_spec  : FnP Tryz.prog 10 [] (anyV) := by
 refine In 3 Tryz.func10 fun _ _ _ => ?_
 refine Z13 ?_
 refine Rt1 ?_
 exact VLe.any
theorem anew_spec {n : Nat} (hp0 : n ≤ 4194304) : FnE Tryz.prog 8 [i64V (n : Int)] [] (γ := ArI) (fun X => X.size = n) (fun X => arenaL X ⟨List.replicate n 0, 0, 0, []⟩) (fun X => tupV [addrV X.ab 0, i64V 0]) := by
 refine In 16 Tryz.func8 fun _ _ _ => ?_
 refine Z17 ?_
 refine Cd (fun c0 => ?_) fun c0 => ?_
 · exfalso; omega
 refine Z5 ?_
 refine .n (opMakeBuf FU.out FC.out FY.out FZ.out (.t rfl) rfl (by omega)) rfl fun b11 _ => ?_
 refine .n (opMakeM (Value.int .i64) i64V) rfl fun m12 _ => ?_
 refine .n (opMakeM (Value.int .i64) (fun _ : Unit => emptyV)) rfl fun m13 _ => ?_
 refine Z1 ?_
 refine .n (opBoxOA (.t rfl)) rfl fun b15 _ => ?_
 refine Z5 ?_
 refine Post.retR rfl rfl (⟨b15, b11, m12, m13, n⟩) (by rfl) (OLe.sel [0, 3, 2, 1] [] rfl rfl) rfl (.cons (.rt rfl) ?_ (.cons (.rt rfl) ?_ .nil))
 · first | exact VLe.refl _ | exact VLe.int (by omega) | exact VLe.prop (by omega) | exact VLe.prop (by simp_all) | exact VLe.prop (by simp; omega)
 first | exact VLe.refl _ | exact VLe.int (by omega) | exact VLe.prop (by omega) | exact VLe.prop (by simp_all) | exact VLe.prop (by simp; omega)
theorem snew_spec {n : Nat} {cap : Int} (hp0 : 16 ≤ n) (hp1 : n ≤ 1024) (hp2 : 0 ≤ cap) (hp3 : cap ≤ 4096) : FnE Tryz.prog 25 [i64V (n : Int), i64V cap] [] (γ := Nat) (fun _ => True) (fun sb => [storeH sb ⟨n, cap, 0, 0, -1, false, []⟩]) (fun sb => tupV [addrV sb 0, i64V 0]) := by
 refine In 25 Tryz.func25 fun _ _ _ => ?_
 refine Z25 ?_
 refine Cd (fun c0 => ?_) fun c0 => ?_
 · exfalso; omega
 refine Z6 ?_
 refine .n (opMakeM (Value.int .i64) (fun b => subV b 0 n)) rfl fun m22 _ => ?_
 refine Z1 ?_
 refine .n (opBoxOA (.t rfl)) rfl fun b24 _ => ?_
 refine Z5 ?_
 refine Post.retR rfl rfl (b24) (by trivial) (store_close (E := []) (mb := m22) (sz := n) (s := ⟨n, cap, 0, 0, -1, false, []⟩) rfl rfl |> OLe.trans (OLe.trans (OLe.cons _ (OLe.cons _ ownNil)) (OLe.cells (.cons (.refl _) (.cons (.refl _) (.cons (.refl _) (.cons (.refl _) (.cons (.refl _) (.cons (.refl _) (.cons falseV .nil)))))))))) rfl (.cons (.rt rfl) ?_ (.cons (.rt rfl) ?_ .nil))
 · first | exact VLe.refl _ | exact VLe.int (by omega) | exact VLe.prop (by omega) | exact VLe.prop (by simp_all) | exact VLe.prop (by simp; omega)
 first | exact VLe.refl _ | exact VLe.int (by omega) | exact VLe.prop (by omega) | exact VLe.prop (by simp_all) | exact VLe.prop (by simp; omega)
theorem ssize_spec {sb : Nat} {s : StD} : FnE Tryz.prog 40 [addrV sb 0] [storeH sb s] (γ := Unit) (fun _ => True) (fun _ => [storeH sb s]) (fun _ => i64V (s.size : Int)) := by
 refine In 9 Tryz.func40 fun _ _ _ => ?_
 refine .openS fun mb E hE => ?_
 refine Z9 ?_
 refine .p (opEqlNilO FU.out (.t rfl)) rfl ?_
 refine Z2 ?_
 refine Cd (fun c0 => ?_) fun c0 => ?_
 · exact c0.elim
 refine Z12 ?_
 refine Post.retR1 rfl (()) (by trivial) (store_close hE rfl) (.rt rfl) ?_
 first | exact VLe.refl _ | exact VLe.int (by omega) | exact VLe.prop (by omega) | exact VLe.prop (by simp_all) | exact VLe.prop (by simp; omega)
end Go.Proofs.YtgboekefmedapaaGreatDoor
end
section
namespace Go.Hl
structure Fr where
 at_ : Nat
 k : PairK
 used : Bool
 seen : Bool
 dirty : Bool
def encFr (f : Fr) : List VP := [i64V (f.at_ : Int), i64V f.k.1, i64V f.k.2, propV (BP f.used), propV (BP f.seen), propV (BP f.dirty)]
instance : Enc 6 encFr := ⟨fun _ => rfl, fun x q h => by simp only [encFr, List.mem_cons, List.not_mem_nil, or_false] at h; rcases h with h | h | h | h | h | h <;> subst h <;> infer_instance⟩
structure PgI where
 (pb sb fb cap m1 m2 n lo hi : Nat)
 Y : ArI
structure PgD where
 l : List Fr
 hand : Nat
 inm : List (PairK × Int)
 bm : List (PairK × Int)
 fault : Nat
 closed : Bool
def pagerC (X : PgI) (p : PgD) : HP := cellsH X.pb [addrV X.Y.ab 0, addrV X.sb 0, exactV (sval (some (X.fb, X.cap)) X.n), i64V (p.hand : Int), exactV (.map (some X.m1)), exactV (.map (some X.m2)), i64V (p.fault : Int), propV (BP p.closed)]
def pagerF (X : PgI) (p : PgD) : HP := sliceH (some (X.fb, X.cap)) 6 encFr p.l
def pagerI (X : PgI) (p : PgD) : HP := mapH X.m1 kpair i64V p.inm
def pagerB (X : PgI) (p : PgD) : HP := mapH X.m2 kpair i64V p.bm
def stopsP (p : PgD) : Prop := p.closed = true ∨ p.fault ≠ 0
instance (p : PgD) : Decidable (stopsP p) := inferInstanceAs (Decidable (_ ∨ _))
def zerosP (l : List UInt8) : Prop := ∀ x ∈ l, x = 0
structure PgOk (X : PgI) (p : PgD) (a : ArD) (s : StD) : Prop where
 n : p.l.length = X.n
 pos : 0 < X.n
 most : X.n ≤ 64
 hand : p.hand < X.n
 room : ∀ f ∈ p.l, (X.lo ≤ f.at_ ∧ f.at_ + s.size ≤ X.hi) ∧ f.at_ + s.size ≤ X.Y.size
 ar : ArOk X.Y a
 st : StOk s
variable {n : Nat}
theorem zeros_of_rep : zerosP (List.replicate n 0) := fun x hx => (List.mem_replicate.1 hx).2
abbrev Cont := PairK → List UInt8
structure Inv (X : PgI) (p : PgD) (a : ArD) (s : StD) (C : Cont) (D : List PairK) : Prop where
 ok : PgOk X p a s
 opn : p.fault = 0 ∧ p.closed = false
 nf : s.fail < 0
 lenC : ∀ k, (C k).length = s.size
 inK : (p.inm.map (·.1)).Nodup
 in1 : ∀ k i, lookD p.inm k = some i → ∃ (j : Nat) (f : Fr), i = (j : Int) ∧ p.l[j]? = some f ∧ f.used = true ∧ f.k = k
 in2 : ∀ (j : Nat) (f : Fr), p.l[j]? = some f → f.used = true → lookD p.inm f.k = some (j : Int)
 apart : ∀ (i j : Nat) (f g : Fr), p.l[i]? = some f → p.l[j]? = some g → i ≠ j → f.at_ + s.size ≤ g.at_ ∨ g.at_ + s.size ≤ f.at_
 bmK : (p.bm.map (·.1)).Nodup
 inj : ∀ k k' id, lookD p.bm k = some id → lookD p.bm k' = some id → k = k'
 num : p.bm.length = s.m.length
 has : ∀ k id, lookD p.bm k = some id → ∃ l, lookD s.m id = some l ∧ ¬ zerosP l
 cnt : ∀ k id, lookD p.bm k = some id → k ∈ D
 few : (D.length : Int) ≤ s.cap
 nzD : ∀ k, ¬ zerosP (C k) → k ∈ D
 fr : ∀ (j : Nat) (f : Fr), p.l[j]? = some f → f.used = true → a.get f.at_ s.size = C f.k
 cl : ∀ k, (∀ (j : Nat) (f : Fr), p.l[j]? = some f → f.used = true → f.k = k → f.dirty = false) → (lookD p.bm k = none ∧ zerosP (C k)) ∨ ∃ id, lookD p.bm k = some id ∧ lookD s.m id = some (C k) ∧ ¬ zerosP (C k)
section
variable {X : PgI} {p : PgD} {a : ArD} {s : StD} {C : Cont} {D : List PairK} {i : Nat} {fr : Fr}
def cleanP (p : PgD) : Prop := ∀ (j : Nat) (f : Fr), p.l[j]? = some f → f.used = true → f.dirty = false
end
def pagL (X : PgI) (p : PgD) (a : ArD) (s : StD) : List HP := pagerC X p :: pagerF X p :: pagerI X p :: pagerB X p :: storeH X.sb s :: arenaL X.Y a
def keyOk (k : PairK) : Prop := 0 ≤ k.1 ∧ 0 ≤ k.2 ∧ k.2 ≤ 9223372036854775807
structure InvZ (X : PgI) (z q : Nat) (T : PgD → Prop) (p : PgD) (a : ArD) (s : StD) (C : Cont) (m : Nat) : Prop where
 ex : ∃ D : List PairK, D.length ≤ m ∧ (∀ k ∈ D, keyOk k) ∧ Inv X p a s C D
 sz : s.size = z
 cp : s.cap = (q : Int)
 cln : T p
structure SameOut (X : PgI) (a a' : ArD) : Prop where
 ok : ArOk X.Y a → ArOk X.Y a'
 get : ArOk X.Y a → ∀ y n, y + n ≤ X.lo ∨ X.hi ≤ y → a'.get y n = a.get y n
theorem SameOut.refl (X : PgI) (a : ArD) : SameOut X a a := ⟨id, fun _ _ _ _ => rfl⟩
def RestOk (X : PgI) (R : ArD → HP) : Prop := ∀ a a', ArOk X.Y a → SameOut X a a' → OLe [R a] [R a']
def noR : ArD → HP := fun _ => ownH []
theorem noR_ok (X : PgI) : RestOk X noR := fun _ _ _ _ => OLe.refl _
def pagH (X : PgI) (z q : Nat) (T : PgD → Prop) (C : Cont) (m : Nat) (R : ArD → HP) : HP := exH fun x : PgD × ArD × StD => ownH (pureH (InvZ X z q T x.1 x.2.1 x.2.2 C m) :: (pagL X x.1 x.2.1 x.2.2 ++ [R x.2.1]))
variable {r : List HP}
theorem OLe.frame {a b : List HP} (h : OLe a b) : OLe (a ++ r) (b ++ r) := fun F S w x => by
 obtain ⟨F1, F2, h1, h2, h3, h4⟩ := Own.append.1 x
 exact Own.append.2 ⟨F1, F2, h1, h2, h _ _ _ h3, h4⟩
theorem OLe.behind {a b : List HP} (h : OLe a b) : OLe (r ++ a) (r ++ b) := fun F S w x => by
 obtain ⟨F1, F2, h1, h2, h3, h4⟩ := Own.append.1 x
 exact Own.append.2 ⟨F1, F2, h1, h2, h3, h _ _ _ h4⟩
variable {X : PgI} {z : Nat} {q : Nat} {m : Nat} {T : PgD → Prop} {C : Cont} {a : ArD}
theorem pag_close {p : PgD} {a0 : ArD} {s : StD} {R : ArD → HP} (hR : RestOk X R) (h0 : ArOk X.Y a0) (hs : SameOut X a0 a) (h : InvZ X z q T p a s C m) : OLe ((pagL X p a s ++ [R a0]) ++ r) (pagH X z q T C m R :: r) :=
 (OLe.frame (OLe.behind (hR a0 a h0 hs))).trans ((OLe.pure h).trans ((OLe.pack (l := pureH _ :: (pagL X p a s ++ [R a]))).trans (OLe.ex (f := fun x : PgD × ArD × StD => ownH (pureH (InvZ X z q T x.1 x.2.1 x.2.2 C m) :: (pagL X x.1 x.2.1 x.2.2 ++ [R x.2.1]))) (p, a, s))))
theorem pag_new {p : PgD} {s : StD} (h : InvZ X z q T p a s C m) : OLe (pagL X p a s ++ r) (pagH X z q T C m noR :: r) :=
 OLe.trans (OLe.frame (show OLe (pagL X p a s) (pagL X p a s ++ [noR a]) from fun F S w x => Own.append.2 ⟨F, fun _ => False, fun k hk => ⟨hk, id⟩, fun _ h => h.elim, x, ownNil _ _ _ trivial⟩)) (pag_close (noR_ok X) h.ex.choose_spec.2.2.ok.ar (SameOut.refl _ _) h)
def frs (b c : Nat) (j : Nat) : List Fr := (List.range j).map fun i => ⟨b + i * c, (0, 0), false, false, false⟩
theorem frs_len (b c j : Nat) : (frs b c j).length = j := by simp [frs]
theorem frs_succ (b c j : Nat) : frs b c (j + 1) = frs b c j ++ [⟨b + j * c, (0, 0), false, false, false⟩] := by simp [frs, List.range_succ]
theorem frs_get {b c j i : Nat} {f : Fr} (h : (frs b c j)[i]? = some f) : i < j ∧ f = ⟨b + i * c, (0, 0), false, false, false⟩ := by
 unfold frs at h
 rw [List.getElem?_map] at h
 by_cases hi : i < j
 · rw [List.getElem?_range hi] at h; cases h; exact ⟨hi, rfl⟩
 · rw [List.getElem?_eq_none (by simp; omega)] at h; cases h
theorem dblN_ge : ∀ (k c n : Nat), n ≤ c * 2 ^ k → n ≤ dblN k c n
 | 0, c, n, h => by simpa [dblN] using h
 | k + 1, c, n, h => by
  unfold dblN
  split
  · exact dblN_ge k (c * 2) n (by rw [Nat.mul_assoc, ← Nat.pow_succ']; exact h)
  · omega
theorem classN_ge (h : n ≤ 4194304) : n ≤ classN n := by
 unfold classN
 rw [if_neg (by omega)]
 exact dblN_ge 19 16 n (by omega)
structure ArT (Y : ArI) (a0 a : ArD) (c j : Nat) : Prop where
 ok : ArOk Y a
 hi : a.height = a0.height + j * c
 same : ∀ y n, y + n ≤ a0.height → a.get y n = a0.get y n
theorem ArT.take {Y : ArI} {a0 a : ArD} {n j : Nat} (h : ArT Y a0 a (classN n) j) (hn : n ≤ 4194304) (hr : a0.height + (j + 1) * classN n ≤ Y.size) {g : ArD × Nat × Nat} (hg : g = takeF Y.size a n) : g.2.2 = 0 ∧ g.2.1 = a0.height + j * classN n ∧ ArT Y a0 g.1 (classN n) (j + 1) := by
 have h1 := h.hi
 have h2 := h.ok.len
 have h3 := h.ok.live
 rw [Nat.add_mul, Nat.one_mul] at hr
 unfold takeF at hg
 rw [if_neg (by omega), if_neg (by omega)] at hg
 subst hg
 refine ⟨rfl, h1, ⟨?_, ?_, h.ok.most, ?_⟩, ?_, fun y m hy => ?_⟩
 · show (a.bytes.take a.height ++ List.replicate (classN n) 0 ++ a.bytes.drop (a.height + classN n)).length = Y.size
   simp; omega
 · show a.height + classN n ≤ Y.size; omega
 · show a.live + classN n ≤ a.height + classN n; omega
 · show a.height + classN n = a0.height + (j + 1) * classN n
   rw [Nat.add_mul, Nat.one_mul, h1]; omega
 · rw [← h.same y m hy]
   show ((a.bytes.take a.height ++ List.replicate (classN n) 0 ++ a.bytes.drop (a.height + classN n)).drop y).take m = (a.bytes.drop y).take m
   apply List.ext_getElem?
   intro t
   simp only [List.getElem?_take, List.getElem?_drop, List.getElem?_append, List.length_append, List.length_take, List.length_replicate]
   by_cases h4 : t < m
   · rw [if_pos h4, if_pos h4, if_pos (by omega), if_pos (by omega), if_pos (by omega)]
   · rw [if_neg h4, if_neg h4]
def zeroC (z : Nat) : Cont := fun _ => List.replicate z 0
theorem ownSl {α : Type} {enc : α → List VP} : OLe r (sliceH none n enc [] :: r) := fun F S w x => ⟨fun _ => False, F, fun _ h => h.elim, fun _ h => h, rfl, x⟩
theorem inv_new {a0 : ArD} (hn : 0 < X.n) (hm : X.n ≤ 64) (hz : z ≤ 1024) (hq : q ≤ 4096) (ha : ArT X.Y a0 a (classN z) X.n) (hlo : X.lo = a0.height) (hhi : X.hi = a0.height + X.n * classN z) : InvZ X z q cleanP ⟨frs a0.height (classN z) X.n, 0, [], [], 0, false⟩ a ⟨z, (q : Int), 0, 0, -1, false, []⟩ (zeroC z) 0 := by
 have hc := classN_ge (n := z) (by omega)
 have hh := ha.ok.hi
 have hh2 := ha.hi
 refine ⟨⟨[], Nat.le_refl _, fun k h => (by cases h), ⟨⟨frs_len _ _ _, hn, hm, hn, fun f hf => ?_, ha.ok, ⟨hz, by (show (q : Int) ≤ 4096; omega), fun e he => (by cases he), fun e he => (by cases he), by (show ((0 : Nat) : Int) ≤ (q : Int); omega), List.nodup_nil⟩⟩, ⟨rfl, rfl⟩, (show (-1 : Int) < 0 by decide), fun k => (by simp [zeroC]), List.nodup_nil, fun k i h => (by cases h), fun j f hj hu => ?_, fun i j f g hi hj hne => ?_, List.nodup_nil, fun k k' id h => (by cases h), rfl, fun k id h => (by cases h), fun k id h => (by cases h), by (show ((0 : Nat) : Int) ≤ (q : Int); omega), fun k h => absurd zeros_of_rep h, fun j f hj hu => ?_, fun k _ => .inl ⟨rfl, zeros_of_rep⟩⟩⟩, rfl, rfl, fun j f hj hu => ?_⟩
 · obtain ⟨j, hj⟩ := List.mem_iff_getElem?.1 hf
   obtain ⟨h1, rfl⟩ := frs_get hj
   have h2 : (j + 1) * classN z ≤ X.n * classN z := Nat.mul_le_mul_right _ h1
   rw [Nat.add_mul, Nat.one_mul] at h2
   show (X.lo ≤ a0.height + j * classN z ∧ a0.height + j * classN z + z ≤ X.hi) ∧ a0.height + j * classN z + z ≤ X.Y.size
   omega
 · obtain ⟨_, rfl⟩ := frs_get hj; cases hu
 · obtain ⟨h1, rfl⟩ := frs_get hi
   obtain ⟨h2, rfl⟩ := frs_get hj
   show a0.height + i * classN z + z ≤ a0.height + j * classN z ∨ a0.height + j * classN z + z ≤ a0.height + i * classN z
   rcases Nat.lt_or_gt_of_ne hne with h3 | h3
   · have h4 : (i + 1) * classN z ≤ j * classN z := Nat.mul_le_mul_right _ h3
     rw [Nat.add_mul, Nat.one_mul] at h4; omega
   · have h4 : (j + 1) * classN z ≤ i * classN z := Nat.mul_le_mul_right _ h3
     rw [Nat.add_mul, Nat.one_mul] at h4; omega
 · obtain ⟨_, rfl⟩ := frs_get hj; cases hu
 · obtain ⟨_, rfl⟩ := frs_get hj; cases hu
theorem pag_any {T' : PgD → Prop} {R : ArD → HP} (hT : ∀ p, T p → T' p) : OLe (pagH X z q T C m R :: r) (pagH X z q T' C m R :: r) := fun F S w ⟨F1, F2, h1, h2, ⟨x, h3⟩, h4⟩ =>
 ⟨F1, F2, h1, h2, ⟨x, by
  obtain ⟨G1, G2, g1, g2, g3, g4⟩ := h3
  exact ⟨G1, G2, g1, g2, ⟨g3.ex, g3.sz, g3.cp, hT _ g3.cln⟩, g4⟩⟩, h4⟩
theorem arT_new {X : ArI} {c : Nat} (h : X.size = n) (hn : n ≤ 4194304) : ArT X ⟨List.replicate n 0, 0, 0, []⟩ ⟨List.replicate n 0, 0, 0, []⟩ c 0 :=
 ⟨⟨by rw [h]; simp, Nat.zero_le _, by omega, Nat.le_refl _⟩, by simp, fun _ _ _ => rfl⟩
end Go.Hl
end
section
namespace Go.Proofs.YtgboekefmedapaaGreatDoor
open Go.Hl Go.RowKit
theorem pnew_spec {Y : ArI} {sb z q n : Nat} {a0 : ArD} (hp0 : ArT Y a0 a0 (classN z) 0) (hp1 : 0 < n) (hp2 : n ≤ 64) (hp3 : z ≤ 1024) (hp4 : q ≤ 4096) (hp5 : a0.height + n * classN z ≤ Y.size) : FnE Tryz.prog 26 [addrV Y.ab 0, addrV sb 0, i64V (n : Int)] (storeH sb ⟨z, (q : Int), 0, 0, -1, false, []⟩ :: arenaL Y a0) (γ := PgI × ArD) (fun g => g.1.Y = Y ∧ g.1.sb = sb ∧ g.1.n = n ∧ g.1.lo = a0.height ∧ g.1.hi = a0.height + n * classN z ∧ ArT Y a0 g.2 (classN z) n ∧ InvZ g.1 z q cleanP ⟨frs a0.height (classN z) n, 0, [], [], 0, false⟩ g.2 ⟨z, (q : Int), 0, 0, -1, false, []⟩ (zeroC z) 0) (fun g => pagL g.1 ⟨frs a0.height (classN z) n, 0, [], [], 0, false⟩ g.2 ⟨z, (q : Int), 0, 0, -1, false, []⟩) (fun g => tupV [addrV g.1.pb 0, i64V 0]) := by
 refine In 58 Tryz.func26 fun _ _ _ => ?_
 refine Z11 ?_
 refine .p (opEqlNilO FU.out (.t rfl)) rfl ?_
 refine Z2 ?_
 refine .g (OpG.gF rfl rfl rfl rfl (fun hg => opEqlNilO FU.out (.when (.t rfl) hg))) rfl rfl ?_
 refine Z4 ?_
 refine Cd (fun c0 => ?_) fun c0 => ?_
 · exact (show False by simp at c0).elim
 refine Z11 ?_
 refine Cd (fun c1 => ?_) fun c1 => ?_
 · exfalso; omega
 refine Z7 ?_
 refine .n (opMakeM kpair i64V) rfl fun m27 _ => ?_
 refine .n (opMakeM kpair i64V) rfl fun m28 _ => ?_
 refine Z1 ?_
 refine .n (opBoxOA (.t rfl)) rfl fun b30 _ => ?_
 refine Z3 ?_
 refine .own (ownSl (n := 6) (enc := encFr)) ?_
 refine .own (OLe.perm (Perm.idx [1, 0, 2, 3, 4, 5, 6, 7, 8] rfl rfl)) ?_
 refine Z8 ?_
 refine .loopO (σ := SB × ArD × Nat) (fun g => cellsH b30 [addrV Y.ab 0, addrV sb 0, exactV (sval g.1 (frs a0.height (classN z) g.2.2).length), i64V 0, exactV (.map (some m27)), exactV (.map (some m28)), i64V 0, exactV (.bool false)] :: sliceH g.1 6 encFr (frs a0.height (classN z) g.2.2) :: mapH m28 kpair i64V ([] : List (PairK × Int)) :: mapH m27 kpair i64V ([] : List (PairK × Int)) :: storeH sb ⟨z, (q : Int), 0, 0, -1, false, []⟩ :: arenaL Y g.2.1) (fun g => [(32, i64V (g.2.2 : Int))]) (fun g => ArT Y a0 g.2.1 (classN z) g.2.2 ∧ g.2.2 ≤ n) (fun g => n - g.2.2) (none, a0, 0) ⟨hp0, Nat.zero_le _⟩ rfl ?_ ?_
 · exact (.get rfl (VLe.refl _) (.refl _ _))
 rintro ⟨gb1, a1, j1⟩ ⟨hA1, hj⟩
 simp only at hA1 hj ⊢
 refine Z6 ?_
 refine Cd (fun c2 => ?_) fun c2 => ?_
 ·
  have hj1 : a0.height + (j1 + 1) * classN z ≤ Y.size := Nat.le_trans (Nat.add_le_add_left (Nat.mul_le_mul_right _ (by omega)) _) hp5
  refine Z8 ?_
  refine .n ((cEi [_,_,_,_,_,_,_,_] [4,0,1,2,3,5,6,7,8] (h := ssize_spec (s := ⟨z, (q : Int), 0, 0, -1, false, []⟩))).same (fun _ _ => OLe.perm (Perm.idx [1, 2, 3, 4, 0, 5, 6, 7, 8] rfl rfl)) (fun _ _ => VLe.refl _)) rfl fun _ _ => ?_
  refine .n (cEi [_,_,_,_,_] [5,6,7,8,0,1,2,3,4] (h := atake_spec (X := Y) (a := a1) (n := z) hA1.ok)) rfl fun g38 h38 => ?_
  refine Z7 ?_
  obtain ⟨a2, at2, e2⟩ := g38
  obtain ⟨he2, hat2, hA2⟩ := hA1.take (n := z) (by omega) hj1 h38
  simp only at he2 hat2 hA2
  subst he2
  subst hat2
  have hfl := frs_len a0.height (classN z) j1
  refine Z7 ?_
  refine Cd (fun c3 => ?_) fun c3 => ?_
  · exact absurd rfl c3
  refine Z7 ?_
  refine .p (opLoadO (i := 4) FA.out (.t rfl) rfl rfl) rfl ?_
  refine Z1 ?_
  refine .p ((opBuild FP.out FZ.out (.cons (.t rfl) .nil) rfl).le (VLe.agg (.cons (VLe.refl _) (.cons (.refl _) (.cons (.refl _) (.cons falseV (.cons falseV (.cons falseV .nil)))))))) rfl ?_
  refine .p (cB encFr [(⟨a0.height + j1 * classN z, (0, 0), false, false, false⟩ : Fr)]) rfl ?_
  refine .n (opAppend (i := 5) (xs := frs a0.height (classN z) j1) (ys := [(⟨a0.height + j1 * classN z, (0, 0), false, false, false⟩ : Fr)]) FU.out FU.out FC.out rfl FZ.out rfl FY.out (.t rfl) (.t rfl) rfl (by (simp only [frs_len, List.length_cons, List.length_nil]; omega)) (by (simp only [frs_len, List.length_cons, List.length_nil]; omega))) rfl fun g53 _ => ?_
  refine Z2 ?_
  refine .s (opStoreO (i := 4) FC.out (.t rfl) (.t rfl) rfl rfl) ?_
  refine Z7 ?_
  refine .own (OLe.perm (Perm.idx [4, 5, 6, 7, 8, 0, 1, 2, 3] rfl rfl)) (EndT.round (g53, a2, j1 + 1) ⟨hA2, by (show j1 + 1 ≤ n; omega)⟩ (by (show n - (j1 + 1) < n - j1; omega)) (by (simp only [frs_succ]; rfl)) ?_)
  exact (.get rfl (VLe.int (by (show (j1 : Int) + 1 = ((j1 + 1 : Nat) : Int); omega))) ((.keep 26 rfl rfl)))
 have hjn : j1 = n := by omega
 subst hjn
 refine .sliceSome 1 rfl (fun e => by (have h9 := congrArg List.length e; rw [frs_len] at h9; simp at h9; omega)) fun fb cap hgb => ?_
 subst hgb
 refine Z13 ?_
 refine Post.retR rfl rfl ((⟨b30, sb, fb, cap, m27, m28, j1, a0.height, a0.height + j1 * classN z, Y⟩, a1)) (by exact ⟨rfl, rfl, rfl, rfl, rfl, hA1, inv_new hp1 hp2 hp3 hp4 hA1 rfl rfl⟩) (OLe.trans (OLe.cells (.cons (.refl _) (.cons (.refl _) (.cons (VLe.of_eq (by rw [frs_len])) (.cons (.refl _) (.cons (.refl _) (.cons (.refl _) (.cons (.refl _) (.cons falseV .nil))))))))) (OLe.perm (Perm.idx [0, 1, 3, 2, 4, 5, 6, 7, 8] rfl rfl))) rfl (.cons (.rt rfl) ?_ (.cons (.rt rfl) ?_ .nil))
 · first | exact VLe.refl _ | exact VLe.int (by omega) | exact VLe.prop (by omega) | exact VLe.prop (by simp_all) | exact VLe.prop (by simp; omega)
 first | exact VLe.refl _ | exact VLe.int (by omega) | exact VLe.prop (by omega) | exact VLe.prop (by simp_all) | exact VLe.prop (by simp; omega)
theorem pager08_spec {fr : Int} : FnE Tryz.prog 11 [i64V fr] [] (γ := PgI) (fun _ => True) (fun X => [pagH X 64 4096 (fun _ => True) (zeroC 64) 0 noR]) (fun X => addrV X.pb 0) := by
 refine In 28 Tryz.func11 fun _ _ _ => ?_
 have h64 : classN 64 = 64 := by decide
 refine Z7 ?_
 refine .n (cE (h := anew_spec (n := 65536) (by decide))) rfl fun g10 h10 => ?_
 refine Z9 ?_
 refine .n (cE (h := snew_spec (n := 64) (cap := 4096) (by decide) (by decide) (by decide) (by decide))) rfl fun g14 h14 => ?_
 refine Z13 ?_
 refine .p (opMin (.t rfl) (.c _)) rfl ?_
 refine .p ((opAddF (.c _) (.t rfl) fits_z).le (VLe.int (show _ = (((1 + min (max fr 0) 63).toNat : Nat) : Int) by omega))) rfl ?_
 refine .n (cE (h := pnew_spec (Y := g10) (sb := g14) (z := 64) (q := 4096) (n := (1 + min (max fr 0) 63).toNat) (a0 := ⟨List.replicate 65536 0, 0, 0, []⟩) (arT_new h10 (by decide)) (by omega) (by omega) (by decide) (by decide) (by (show 0 + (1 + min (max fr 0) 63).toNat * classN 64 ≤ _); rw [h10, h64]; omega))) rfl fun g24 h24 => ?_
 refine Z7 ?_
 obtain ⟨X24, a24⟩ := g24
 obtain ⟨hX, hX2, hX1, hlo, hhi, hAT, hInv⟩ := h24
 simp only at hX hX2 hX1 hlo hhi hAT hInv
 subst hX2
 refine .own (pag_new hInv) ?_
 refine .own (pag_any (T' := fun _ => True) fun _ _ => trivial) ?_
 refine Z7 ?_
 refine Post.retR1 rfl (X24) (by trivial) (fun _ _ _ h => h) (.rt rfl) ?_
 first | exact VLe.refl _ | exact VLe.int (by omega) | exact VLe.prop (by omega) | exact VLe.prop (by simp_all) | exact VLe.prop (by simp; omega)
theorem awake21_spec  : FnP Tryz.prog 4 [] (propV True) := by
 refine In 45 Tryz.func4 fun _ _ _ => ?_
 refine Z7 ?_
 refine .p ((opBuild FP.out FZ.out (.cons (.c _) (.cons (.c _) .nil)) rfl).le ((by exact show VLe _ (aggV (encGlobal ⟨127, False, 5⟩)) from VLe.agg (.cons (.refl _) (.cons falseV (.cons (.refl _) .nil)))))) rfl ?_
 refine .p ((opBuild FP.out FZ.out (.cons (.c _) (.cons (.c _) .nil)) rfl).le ((by exact show VLe _ (aggV (encGlobal ⟨126, False, 6⟩)) from VLe.agg (.cons (.refl _) (.cons falseV (.cons (.refl _) .nil)))))) rfl ?_
 refine .p (cB encGlobal [⟨127, False, 5⟩, ⟨126, False, 6⟩]) rfl ?_
 refine .p ((opBuild FP.out FZ.out (.cons (.c _) (.cons (.c _) (.cons (.t rfl) .nil))) rfl).le ((by exact show VLe _ (aggV (encMod modS)) from VLe.agg (.cons (sliceV_nil _ _) (.cons (sliceV_nil _ _) (.cons (sliceV_nil _ _) (.cons (.refl _) (.cons (sliceV_nil _ _) (.cons (.refl _) (.cons (sliceV_nil _ _) (.cons (.refl _) (.cons (sliceV_nil _ _) (.cons (sliceV_nil _ _) .nil))))))))))))) rfl ?_
 refine Z6 ?_
 refine .n (cE (h := anew_spec (n := 1000) (by decide))) rfl fun g15 h15 => ?_
 refine Z11 ?_
 refine .n (cE (h := pager08_spec (fr := 2))) rfl fun g21 h21 => ?_
 refine .n (cEi [_] [1,2,3,4,0] (h := snewst_spec h15)) rfl fun g22 h22 => ?_
 refine Z12 ?_
 refine .n ((cE (h := sglobal_spec (i := 1) (by decide) (arK_ok h15 2) h15)).same (fun _ _ => OLe.refl _) (fun _ _ => VLe.refl _)) rfl fun _ _ => ?_
 refine Z1 ?_
 refine .p ((opExtract (.t rfl) rfl).le (VLe.int (show _ = (6 : Int) by rw [get6]; rfl))) rfl ?_
 refine Z25 ?_
 refine Rt1 ?_
 exact VLe.prop (by simp)
theorem StateNone0_spec {i v : Int} : FnP Tryz.prog 3 [intV .i64 i, intV .u64 v] (propV True) := by
 refine In 108 Tryz.func3 fun _ _ _ => ?_
 refine Z8 ?_
 refine .p (cA (h := awake21_spec)) rfl ?_
 refine Z3 ?_
 refine Cd (fun c0 => ?_) fun c0 => ?_
 · exact absurd trivial c0
 refine Z11 ?_
 refine .p (cA (h := sglobalN_spec)) rfl ?_
 refine Z11 ?_
 refine .p (cA (h := sentryN_spec)) rfl ?_
 refine Z13 ?_
 refine .p (cA (h := smemN_spec)) rfl ?_
 refine Z9 ?_
 refine .n (cE (h := anew_spec (n := 100) (by decide))) rfl fun g43 h43 => ?_
 refine Z9 ?_
 refine .p (cA (h := mempty_spec)) rfl ?_
 refine .p (cA (h := snewA_spec)) rfl ?_
 refine Z12 ?_
 refine .n (cE (h := pager08_spec (fr := 1))) rfl fun g54 h54 => ?_
 refine .p (cA (h := snewM_spec)) rfl ?_
 refine Z25 ?_
 refine .g (OpG.gT rfl rfl rfl rfl (fun hg => opCall (ssetN_spec) FB.out (.cons (.when (.t rfl) hg) (.cons (.when (.t rfl) hg) (.cons (.when (.t rfl) hg) .nil))))) rfl rfl ?_
 refine Z4 ?_
 refine .g (OpG.gT rfl rfl rfl rfl (fun hg => opCall (spagesN_spec) FB.out (.cons (.when (.t rfl) hg) .nil))) rfl rfl ?_
 refine .g (OpG.gT rfl rfl rfl rfl (fun hg => opLen rfl Tryz.underlying44 (.le (.when (.t rfl) hg) (sliceV_nil 1 encInt)))) rfl rfl ?_
 refine Z4 ?_
 refine .g (OpG.gT rfl rfl rfl rfl (fun hg => opCall (smodN_spec) FB.out (.cons (.when (.t rfl) hg) .nil))) rfl rfl ?_
 refine Z4 ?_
 refine .g (OpG.gT rfl rfl rfl rfl (fun hg => opCall (scloseN_spec) FB.out (.cons (.when (.t rfl) hg) .nil))) rfl rfl ?_
 refine Z22 ?_
 refine Rt1 ?_
 exact VLe.prop (by simp)
end Go.Proofs.YtgboekefmedapaaGreatDoor
end
