/-
  What the statement's proof leans on, several texts in one (packed by a program).
-/
import Derived.Test.YtpahnbgfmhcndaaGreatDoorLFS
import Derived.Shelf.Strconv.Itoa3
import Derived.Ground.NamesProg
import Derived.LaidLaws
import Derived.LaidSub
import Derived.MakeChecks
set_option linter.all false
set_option maxRecDepth 1000000
set_option maxHeartbeats 4000000
section
namespace Go.Proofs
open Go.Shelf Go.RowKit
def Tryz.layItoa_ren : Go.Shelf.Ren := ⟨fun | 171 => 41 | 243 => 65 | 246 => 82 | 283 => 99 | 284 => 100 | 285 => 101 | 286 => 102 | 129 => 135 | 317 => 134 | 318 => 136 | 319 => 137 | 320 => 138 | 337 => 172 | 338 => 173 | n => n, fun | 3 => 3 | 9 => 9 | 2 => 2 | 4 => 4 | 171 => 207 | 0 => 0 | 53 => 48 | 37 => 50 | 5 => 5 | 173 => 210 | 212 => 247 | 51 => 248 | 20 => 20 | 213 => 249 | 46 => 250 | 232 => 313 | 233 => 314 | n => n, fun | 17 => 0 | 18 => 4 | 19 => 5 | n => n⟩
theorem Tryz.layItoa : Go.Proofs.LaysM.n171 Tryz.prog Tryz.layItoa_ren := {
 mixed := by kernel_rfl
 f129 := Tryz.func135.trans (congrArg some (by kernel_rfl))
 f171 := Tryz.func41.trans (congrArg some (by kernel_rfl))
 f243 := Tryz.func65.trans (congrArg some (by kernel_rfl))
 f246 := Tryz.func82.trans (congrArg some (by kernel_rfl))
 f283 := Tryz.func99.trans (congrArg some (by kernel_rfl))
 f284 := Tryz.func100.trans (congrArg some (by kernel_rfl))
 f285 := Tryz.func101.trans (congrArg some (by kernel_rfl))
 f286 := Tryz.func102.trans (congrArg some (by kernel_rfl))
 f317 := Tryz.func134.trans (congrArg some (by kernel_rfl))
 f318 := Tryz.func136.trans (congrArg some (by kernel_rfl))
 f319 := Tryz.func137.trans (congrArg some (by kernel_rfl))
 f320 := Tryz.func138.trans (congrArg some (by kernel_rfl))
 f337 := Tryz.func172.trans (congrArg some (by kernel_rfl))
 f338 := Tryz.func173.trans (congrArg some (by kernel_rfl))
 t0 := Tryz.underlying0
 a0 := Tryz.isAgg0
 z0 := Tryz.sizeOf0
 v0 := Tryz.zeroValue0
 t2 := Tryz.underlying2
 a2 := Tryz.isAgg2
 z2 := Tryz.sizeOf2
 v2 := Tryz.zeroValue2
 t3 := Tryz.underlying3
 a3 := Tryz.isAgg3
 z3 := Tryz.sizeOf3
 v3 := Tryz.zeroValue3
 t4 := Tryz.underlying4
 a4 := Tryz.isAgg4
 z4 := Tryz.sizeOf4
 v4 := Tryz.zeroValue4
 t5 := Tryz.underlying5
 a5 := Tryz.isAgg5
 z5 := Tryz.sizeOf5
 v5 := Tryz.zeroValue5
 t9 := Tryz.underlying9
 a9 := Tryz.isAgg9
 z9 := Tryz.sizeOf9
 v9 := Tryz.zeroValue9
 t20 := Tryz.underlying20
 a20 := Tryz.isAgg20
 z20 := Tryz.sizeOf20
 v20 := Tryz.zeroValue20
 t37 := Tryz.underlying50
 a37 := Tryz.isAgg50
 z37 := Tryz.sizeOf50
 v37 := Tryz.zeroValue50
 t46 := Tryz.underlying250
 a46 := Tryz.isAgg250
 z46 := Tryz.sizeOf250
 v46 := Tryz.zeroValue250
 t51 := Tryz.underlying248
 a51 := Tryz.isAgg248
 z51 := Tryz.sizeOf248
 v51 := Tryz.zeroValue248
 t53 := Tryz.underlying48
 a53 := Tryz.isAgg48
 z53 := Tryz.sizeOf48
 v53 := Tryz.zeroValue48
 t171 := Tryz.underlying207
 a171 := Tryz.isAgg207
 z171 := Tryz.sizeOf207
 v171 := Tryz.zeroValue207
 t173 := Tryz.underlying210
 a173 := Tryz.isAgg210
 z173 := Tryz.sizeOf210
 v173 := Tryz.zeroValue210
 t212 := Tryz.underlying247
 a212 := Tryz.isAgg247
 z212 := Tryz.sizeOf247
 v212 := Tryz.zeroValue247
 t213 := Tryz.underlying249
 a213 := Tryz.isAgg249
 z213 := Tryz.sizeOf249
 t232 := Tryz.underlying313
 a232 := Tryz.isAgg313
 z232 := Tryz.sizeOf313
 v232 := Tryz.zeroValue313
 t233 := Tryz.underlying314
 a233 := Tryz.isAgg314
 z233 := Tryz.sizeOf314
 v233 := Tryz.zeroValue314
 g17 := by kernel_rfl
 g18 := by kernel_rfl
 g19 := by kernel_rfl
 i0 := by kernel_rfl
 i2 := by kernel_rfl
 i3 := by kernel_rfl
 i4 := by kernel_rfl
 i5 := by kernel_rfl
 i9 := by kernel_rfl
 i20 := by kernel_rfl
 i37 := by kernel_rfl
 i46 := by kernel_rfl
 i51 := by kernel_rfl
 i53 := by kernel_rfl
 i171 := by kernel_rfl
 i173 := by kernel_rfl
 i212 := by kernel_rfl
 i232 := by kernel_rfl
 i233 := by kernel_rfl
 m17 := by kernel_rfl
 m18 := by kernel_rfl
 m19 := by kernel_rfl }
end Go.Proofs
namespace Go.Hl
open Go.RowKit Go.Lib
def powH (P : Program) (g : Nat) : HP := ⟨fun F S w => S g ∧ P.globalNamed "internal/strconv.uint64pow10" = some g ∧ Lib.TabIs P w "internal/strconv.uint64pow10" .u64 Lib.pow10Tab, fun h1 h2 h3 h4 ⟨a, b, c⟩ => ⟨h2 _ a, b, by
 unfold Lib.TabIs World.var? at *
 simp only [b, Option.bind_some] at c ⊢
 rw [h4 _ a]; exact c⟩⟩
instance (P : Program) (g : Nat) : DupH (powH P g) := ⟨fun h => h⟩
theorem pow_laid {P : Program} {W : World} {g : Nat} (hg : P.globalNamed "internal/strconv.uint64pow10" = some g) (h1 : Lib.TabIs P W "internal/strconv.uint64pow10" .u64 Lib.pow10Tab) : (powH P g).p (fun _ => False) (fun k => k < W.heap.size) W :=
 ⟨World.block_lt_of_cell? _ _ (h1.cell hg 0 (by decide)), hg, h1⟩
theorem grow_below (w : World) (k : Nat) (os : Array Obj) : Below w.heap.size w (Go.Sort.grow (w.drewN k) os) :=
 ⟨rfl, rfl, rfl, by show w.heap.size ≤ (w.heap ++ os).size; rw [Array.size_append]; omega, fun j hj => by
  show (w.heap ++ os)[j]? = w.heap[j]?
  exact Array.getElem?_append_left hj⟩
def lineF (x : FdT) : List UInt8 := kindN x.1 ++ [32] ++ itoa x.2.1 ++ [32] ++ itoa x.2.2
theorem kindN_len (k : Int) : (kindN k).length ≤ 6 := by
 unfold kindN
 split
 · rename_i h
   have : ∀ j, j < 6 → (namesK.getD j []).length ≤ 6 := by decide
   exact this k.toNat (by omega)
 · simp
theorem itoa_pos {n : Int} (h : 0 ≤ n) : itoa n = decDigits n.toNat := by unfold itoa; rw [if_neg (by omega)]
def FdOk (x : FdT) : Prop := (0 ≤ x.2.1 ∧ x.2.1 ≤ 9000000000000000000) ∧ 0 ≤ x.2.2 ∧ x.2.2 ≤ 9000000000000000000
open Classical in
noncomputable def cntK (l : List FdT) (k : Int) : Nat := (l.filter fun x => decide (x.1 = k)).length
theorem cntK_snoc (l : List FdT) (x : FdT) (k : Int) : cntK (l ++ [x]) k = if x.1 = k then cntK l k + 1 else cntK l k := by
 unfold cntK
 rw [List.filter_append, List.length_append]
 by_cases h : x.1 = k <;> simp [h]
theorem fdOk_of {x : FdT} (h : 0 ≤ x.2.1 ∧ x.2.1 ≤ 1000000 ∧ 0 ≤ x.2.2 ∧ x.2.2 ≤ 1000000) : FdOk x := ⟨⟨h.1, by omega⟩, h.2.2.1, by omega⟩
theorem line_eq {x : FdT} (h : 0 ≤ x.2.1 ∧ x.2.1 ≤ 1000000 ∧ 0 ≤ x.2.2 ∧ x.2.2 ≤ 1000000) : lineF x = kindN x.1 ++ [32] ++ decDigits x.2.1.toNat ++ [32] ++ decDigits x.2.2.toNat := by unfold lineF; rw [itoa_pos h.1, itoa_pos h.2.2.1]
theorem cntK_le (l : List FdT) (k : Int) : cntK l k ≤ l.length := List.length_filter_le _ _
end Go.Hl
namespace Go.Proofs.YtpahnbgfmhcndaaGreatDoor
open Go.Hl Go.RowKit Go.Lib Go.Shelf
theorem itoa_spec {v : Int} (h0 : -9223372036854775808 ≤ v) (h1 : v ≤ 9223372036854775807) : FnE Tryz.prog 41 [iV v] [powH Tryz.prog 0] (γ := Unit) (fun _ => True) (fun _ => []) (fun _ => strV (itoa v)) := by
 refine FnE.ofBelow fun w S F vs hS hown hall => ?_
 obtain ⟨_, _, hv⟩ := hown.at (i := 0) rfl
 obtain ⟨h1', h2⟩ := hall
 match vs, h1', h2 with
 | [u0], _, h2 =>
  have e0 := h2 0 _ u0 rfl rfl; simp only [exactV] at e0
  subst e0
  have hc := Any.strconv_Itoa Tryz.layItoa v h0 h1 w hv.2
  change Calls Tryz.prog 41 _ _ _ at hc
  refine hc.mono ?_
  rintro e w' ⟨rfl, k, os, rfl⟩
  refine ⟨_, S, rfl, grow_below w k os, fun _ h => h, fun _ h => .inl h, rfl, ?_⟩
  have := itoa_len h0 h1; omega
end Go.Proofs.YtpahnbgfmhcndaaGreatDoor
end
section
namespace Go.Proofs.YtpahnbgfmhcndaaGreatDoor
open Go.Hl Go.RowKit
variable {kind : Int}
theorem lkname_spec : FnP Tryz.prog 13 [iV kind] (strV (kindN kind)) := by
 refine In 12 Tryz.func13 fun _ _ _ => ?_
 refine Z2 ?_
 refine .p (opAssign (.s [] rfl rfl)) rfl ?_
 refine Z13 ?_
 refine Cd (fun c0 => ?_) fun c0 => ?_
 ·
  refine Z2 ?_
  refine .p (opAssign (.s [] rfl rfl)) rfl ?_
  refine Z4 ?_
  refine Rt1 ?_
  exact VLe.of_eq (by rw [kindN_out (by omega)])
 refine Z4 ?_
 refine .p (opBuildArr (cs := namesK.flatMap encStrD) FR.out FZ.out (.cons (.s [117, 110, 117, 115, 101, 100] rfl rfl) (.cons (.s [105, 100, 108, 101] rfl rfl) (.cons (.s [115, 116, 105, 108, 108] rfl rfl) (.cons (.s [98, 97, 114, 101] rfl rfl) (.cons (.s [100, 101, 97, 100] rfl rfl) (.cons (.s [108, 111, 99, 97, 108] rfl rfl) .nil)))))) rfl) rfl ?_
 refine Z1 ?_
 refine .p (opIndexA1 FU.out FC.out FA.out (.t rfl) rfl (.t rfl) (by omega : _ = ((kind.toNat : Nat) : Int)) (strs_at (by have : namesK.length = 6 := rfl; omega))) rfl ?_
 refine Z4 ?_
 refine Rt1 ?_
 exact VLe.of_eq (by rw [kindN_in (by omega)])
theorem lklines_spec {l : List FdT} (hp0 : ∀ x ∈ l, FdOk x) (hp1 : l.length ≤ 100000000) : FnE Tryz.prog 11 [sliceV 3 encFd l] [powH Tryz.prog 0] (γ := Unit) (fun _ => True) (fun _ => []) (fun _ => sliceV 1 encStrD (l.map lineF)) := by
 refine In 30 Tryz.func11 fun _ _ _ => ?_
 refine Z19 ?_
 refine .ownNil 1 encStrD ?_
 refine .loopO (σ := SB × Nat) (fun s => [sliceH s.1 1 encStrD ((l.take s.2).map lineF), powH Tryz.prog 0]) (fun s => [(3, exactV (sval s.1 ((l.take s.2).map lineF).length)), (8, iV (s.2 : Int))]) (fun s => s.2 ≤ l.length) (fun s => l.length - s.2) (none, 0) (Nat.zero_le _) rfl ?_ ?_
 · exact (.get rfl (VLe.refl _) (.get rfl (VLe.refl _) (.refl _ _)))
 rintro ⟨sb, k⟩ hk
 simp only at hk ⊢
 have hlt : ((l.take k).map lineF).length = k := by rw [List.length_map, List.length_take]; omega
 refine Z6 ?_
 refine Cd (fun c0 => ?_) fun c0 => ?_
 ·
  obtain ⟨x, hx⟩ := getElem?_lt (xs := l) (k := k) (by omega)
  obtain ⟨⟨f1, f2⟩, f3, f4⟩ := hp0 x (List.mem_of_getElem? hx)
  have hn1 := kindN_len x.1
  have hn2 := itoa_len (v := x.2.1) (by omega) (by omega)
  have hn3 := itoa_len (v := x.2.2) (by omega) (by omega)
  refine Z6 ?_
  refine .p (cI k (h := hx)) rfl ?_
  refine Z1 ?_
  refine .n (opAlloc FZ.out) rfl fun b5 _ => ?_
  refine Z3 ?_
  refine .share (t := 5) (i := 0) rfl rfl ?_
  refine .drawK 15 2 FM.out (by kernel_rfl) (k := ?_)
  refine Z3 ?_
  refine .p (cA (h := lkname_spec (kind := x.1))) ?_
  refine .p (opCat (.t rfl) (.s [32] rfl rfl) (by (simp only [List.length_append, List.length_cons, List.length_nil]; omega))) ?_
  refine Z2 ?_
  refine .p (cD 1 (h := itoa_spec (v := x.2.1) (by omega) (by omega))) ?_
  refine .p (opCat (.t rfl) (.t rfl) (by (simp only [List.length_append, List.length_cons, List.length_nil]; omega))) ?_
  refine .p (opCat (.t rfl) (.s [32] rfl rfl) (by (simp only [List.length_append, List.length_cons, List.length_nil]; omega))) ?_
  refine Z2 ?_
  refine .p (cD 1 (h := itoa_spec (v := x.2.2) (by omega) (by omega))) ?_
  refine .p (opCat (.t rfl) (.t rfl) (by (simp only [List.length_append, List.length_cons, List.length_nil]; omega))) ?_
  refine .p (cB encStrD [lineF x]) ?_
  refine Z1 ?_
  refine .n (opAppend (i := 0) FU.out FU.out FC.out rfl FZ.out rfl FY.out (.t rfl) (.t rfl) rfl (by simp only [List.length_cons, List.length_nil]; omega) (by simp only [List.length_cons, List.length_nil]; omega)) rfl fun g27 _ => ?_
  refine Z8 ?_
  refine .round (g27, k + 1) (by show k + 1 ≤ _; omega) (by (show l.length - (k + 1) < l.length - k; omega)) (by rw [← takeM hx]; rfl) ?_
  exact (.get rfl (VLe.of_eq (by rw [← takeM hx])) (.get rfl (VLe.int (by (show (k : Int) + 1 = ((k + 1 : Nat) : Int); omega))) ((.keep 26 rfl rfl))))
 have hke : k = l.length := by omega
 subst hke
 rw [List.take_length]
 refine .shareS (t := 3) (i := 0) rfl rfl ?_
 refine Z12 ?_
 refine Rt1 ?_
 exact VLe.refl _
theorem lkcount_spec {l : List FdT} (hp0 : l.length ≤ 100000000) : FnP Tryz.prog 12 [sliceV 3 encFd l, iV kind] (iV (cntK l kind : Int)) := by
 refine In 22 Tryz.func12 fun _ _ _ => ?_
 refine Z19 ?_
 refine .loopO (σ := Nat) (fun _ => []) (fun k => [(5, iV (cntK (l.take k) kind : Int)), (10, iV (k : Int))]) (fun k => k ≤ l.length) (fun k => l.length - k) 0 (Nat.zero_le _) rfl ?_ ?_
 · exact (.get rfl (VLe.int (by simp [cntK])) (.get rfl (VLe.refl _) (.refl _ _)))
 rintro k hk
 have hcl := cntK_le (l.take k) kind
 rw [List.length_take] at hcl
 refine Z6 ?_
 refine Cd (fun c0 => ?_) fun c0 => ?_
 ·
  obtain ⟨x, hx⟩ := getElem?_lt (xs := l) (k := k) (by omega)
  refine Z6 ?_
  refine .p (cI k (h := hx)) rfl ?_
  refine Z1 ?_
  refine .n (opAlloc FZ.out) rfl fun b7 _ => ?_
  refine Z3 ?_
  refine .share (t := 7) (i := 0) rfl rfl ?_
  refine Z8 ?_
  refine Cd (fun c1 => ?_) fun c1 => ?_
  ·
   refine Z11 ?_
   refine .round (k + 1) (by omega) (by omega) rfl ?_
   exact (.get rfl (VLe.int (by rw [← take_snoc hx, cntK_snoc, if_pos c1]; omega)) (.get rfl (VLe.int (by (show (k : Int) + 1 = ((k + 1 : Nat) : Int); omega))) ((.keep 16 rfl rfl))))
  refine Z7 ?_
  refine .round (k + 1) (by omega) (by omega) rfl ?_
  exact (.get rfl (VLe.int (by rw [← take_snoc hx, cntK_snoc, if_neg c1])) (.get rfl (VLe.int (by (show (k : Int) + 1 = ((k + 1 : Nat) : Int); omega))) ((.keep 13 rfl rfl))))
 have hke : k = l.length := by omega
 subst hke
 rw [List.take_length]
 refine Z12 ?_
 refine Rt1 ?_
 exact VLe.refl _
theorem awake29_spec  : FnP Tryz.prog 6 [] (propV True) := by
 refine In 36 Tryz.func6 fun _ _ _ => ?_
 refine Z7 ?_
 refine .p ((opBuild FP.out FZ.out .nil rfl).le ((by exact show VLe _ (aggV (encSig ⟨[], []⟩)) from VLe.agg (.cons (sliceV_nil _ _) (.cons (sliceV_nil _ _) .nil))))) rfl ?_
 refine .p (cB encSig [⟨[], []⟩]) rfl ?_
 refine .p ((opBuild FP.out FZ.out (.cons (.c _) .nil) rfl).le ((by exact show VLe _ (aggV (encInstr endI)) from VLe.agg (.cons (.refl _) (.cons (.refl _) (.cons (.refl _) (.cons (.refl _) (.cons (sliceV_nil _ _) .nil)))))))) rfl ?_
 refine .p (cB encInstr [endI]) rfl ?_
 refine .p ((opBuild FP.out FZ.out (.cons (.t rfl) .nil) rfl).le ((by exact show VLe _ (aggV (encBody bodyE)) from VLe.agg (.cons (sliceV_nil _ _) (.cons (.refl _) .nil))))) rfl ?_
 refine .p ((opBuild FP.out FZ.out (.cons (.t rfl) .nil) rfl).le ((by exact show VLe _ (aggV (encFunc ⟨0, bodyE⟩)) from VLe.refl _))) rfl ?_
 refine .p (cB encFunc [⟨0, bodyE⟩]) rfl ?_
 refine .p ((opBuild FP.out FZ.out (.cons (.t rfl) (.cons (.c _) (.cons (.c _) (.cons (.t rfl) .nil)))) rfl).le ((by exact show VLe _ (aggV (encMod modE)) from VLe.agg (.cons (.refl _) (.cons (sliceV_nil _ _) (.cons (.refl _) (.cons (.refl _) (.cons (sliceV_nil _ _) (.cons (sliceV_nil _ _) (.cons (sliceV_nil _ _) (.cons (.refl _) (.cons (sliceV_nil _ _) (.cons (sliceV_nil _ _) .nil))))))))))))) rfl ?_
 refine .n (opAlloc FZ.out) rfl fun b1 _ => ?_
 refine Z3 ?_
 refine .share (t := 1) (i := 0) rfl rfl ?_
 refine Z2 ?_
 refine .p (OpP.le (opLoadA FA.out FC.out rfl (.t rfl) rfl) (VLe.refl (aggV (encMod modE)))) rfl ?_
 refine .p (cA (h := l13to_spec smallE)) rfl ?_
 refine .p (cA (h := lmodule_spec (m := modE) okE (by decide) validE)) rfl ?_
 refine Z1 ?_
 refine .p ((opExtract (.t rfl) rfl).le (VLe.of_eq (by rw [findE]))) rfl ?_
 refine Z16 ?_
 refine .g (OpG.gT rfl rfl rfl rfl (fun hg => opIndexAddr (j := 0) FU.out FC.out rfl (.when (.t rfl) hg) (.c _) rfl (show ([(0, 0, 0)] : List (Int × Int × Int))[0]? = some (0, 0, 0) from rfl))) rfl rfl ?_
 refine .g (OpG.gT rfl rfl rfl rfl (fun hg => OpP.le (opLoadA FA.out FC.out rfl (.when (.t rfl) hg) rfl) (VLe.refl (aggV (encFd (0, 0, 0)))))) rfl rfl ?_
 refine .g (OpG.gT rfl rfl rfl rfl (fun hg => OpP.le (opBuild FP.out FZ.out (.cons (.c _) .nil) rfl) (VLe.refl (aggV (encFd (0, 0, 0)))))) rfl rfl ?_
 refine .g (OpG.gT rfl rfl rfl rfl (fun hg => opEqlA Tryz.underlying44 Tryz.sh44 Tryz.eg44 (.when (.t rfl) hg) (.when (.t rfl) hg) (.cons (by decide) rfl rfl (.int FU.out) (.cons (by decide) rfl rfl (.int FU.out) (.cons (by decide) rfl rfl (.int FU.out) .nil))))) rfl rfl ?_
 refine Z2 ?_
 refine .g (OpG.gT rfl rfl rfl rfl (fun hg => opCall (lkname_spec (kind := 0)) FB.out (.cons (.c _) .nil))) rfl rfl ?_
 refine .g (OpG.gT rfl rfl rfl rfl (fun hg => opEqlS (.when (.t rfl) hg) (.s [117, 110, 117, 115, 101, 100] rfl rfl))) rfl rfl ?_
 refine Z5 ?_
 refine Rt1 ?_
 exact VLe.prop (by simp [kindN, namesK])
theorem wbound_spec {c : Int} : FnP Tryz.prog 39 [iV c] (propV (bndC c)) := by
 refine In 13 Tryz.func39 fun _ _ _ => ?_
 refine Z21 ?_
 refine Rt1 ?_
 exact VLe.refl _
theorem wfirst_spec {l : List InstrD} {n0 : Nat} (hp0 : 0 < n0) (hp1 : n0 < l.length) : FnP Tryz.prog 40 [sliceV 5 encInstr l, iV (n0 : Int)] (propV (¬ behD l (n0 - 1))) := by
 refine In 51 Tryz.func40 fun _ _ _ => ?_
 refine .fact (t := 0) rfl (fun S w v h => sliceV_len h) fun hln => ?_
 refine Z14 ?_
 refine .loopO (σ := Nat) (fun _ => []) (fun n => [(5, iV ((n : Int) - 1))]) (fun n => n ≤ n0 - 1 ∧ (behD l n ↔ behD l (n0 - 1))) (fun n => n) (n0 - 1) ⟨Nat.le_refl _, Iff.rfl⟩ rfl ?_ ?_
 · exact (.get rfl (VLe.int (by omega)) (.refl _ _))
 rintro n ⟨hn, hb⟩
 obtain ⟨y, hy⟩ := getElem?_lt (xs := l) (k := n) (by omega)
 have hcy := cdI_eq hy
 obtain ⟨z, hz⟩ := getElem?_lt (xs := l) (k := n - 1) (by omega)
 have hcz := cdI_eq hz
 refine Z8 ?_
 refine .g (OpG.gT rfl rfl rfl rfl (fun hg => opIndexAddr (j := n - 1) FU.out FC.out rfl (.when (.t rfl) hg) (.when (.t rfl) hg) (by omega) hz)) rfl rfl ?_
 refine Z2 ?_
 refine .g (OpG.gT rfl rfl rfl rfl (fun hg => opCall (wbound_spec) FB.out (.cons (.when (.t rfl) hg) .nil))) rfl rfl ?_
 refine Z6 ?_
 refine .g (OpG.gT rfl rfl rfl rfl (fun hg => opIndexAddr (j := n) FU.out FC.out rfl (.when (.t rfl) hg) (.when (.t rfl) hg) (by omega) hy)) rfl rfl ?_
 refine Z2 ?_
 refine .g (OpG.gT rfl rfl rfl rfl (fun hg => opCall (wbound_spec) FB.out (.cons (.when (.t rfl) hg) .nil))) rfl rfl ?_
 refine Z4 ?_
 refine Cd (fun c0 => ?_) fun c0 => ?_
 ·
  refine Z8 ?_
  refine .p (cI (n - 1) (h := hz)) rfl ?_
  refine Z23 ?_
  refine Cd (fun c1 => ?_) fun c1 => ?_
  ·
   refine Z11 ?_
   refine Rt1 ?_
   exact VLe.prop ⟨fun h => h.elim, fun h => (h (hb.1 (beh_stop (by omega) (by rw [hcy]; exact c0.2) (by rw [hcz]; exact c1)))).elim⟩
  refine Z8 ?_
  refine .round (n - 1) ⟨by omega, by rw [← hb]; exact (beh_next (by omega) (by rw [hcy]; exact c0.2) (by rw [hcz]; exact c1)).symm⟩ (by omega) rfl ?_
  exact (.get rfl (VLe.int (by omega)) ((.keep 45 rfl rfl)))
 refine Z11 ?_
 refine Rt1 ?_
 exact VLe.prop ⟨fun _ h => beh_end (hb.2 h) fun hn1 hby => c0 ⟨⟨by omega, by rw [← hcz]; exact beh_prev hn1 (hb.2 h)⟩, by rw [← hcy]; exact hby⟩, fun _ => trivial⟩
variable {m : ModD}
theorem whas_spec {but code n : Int} (hp0 : ModOk m) : FnP Tryz.prog 36 [aggV (encMod m), iV but, iV code, intV .u64 n] (propV (hasP m but code n)) := by
 refine In 56 Tryz.func36 fun _ _ _ => ?_
 refine .fact (t := 0) rfl (fun S w v h => modLensA h) fun hl => ?_
 have hl1 := hl.sigs; have hl2 := hl.imports; have hl3 := hl.funcs; have hl4 := hl.mems; have hl5 := hl.globals; have hl6 := hl.exports; have hl7 := hl.elems; have hl8 := hl.datas
 refine Z13 ?_
 refine .loopO (σ := Nat) (fun _ => []) (fun k => [(9, iV (k : Int))]) (fun k => k ≤ m.Funcs.length ∧ ¬ hasIn m but code n k) (fun k => m.Funcs.length - k) 0 ⟨Nat.zero_le _, fun ⟨_, _, h, _⟩ => by omega⟩ rfl ?_ ?_
 · exact (.get rfl (VLe.refl _) (.refl _ _))
 rintro k ⟨hk, nk⟩
 refine Z10 ?_
 refine Cd (fun c0 => ?_) fun c0 => ?_
 ·
  obtain ⟨x, hx⟩ := getElem?_lt (xs := m.Funcs) (k := k) (by omega)
  have hbl := hp0.len x (List.mem_of_getElem? hx)
  refine Z10 ?_
  refine .loopO (σ := Nat) (fun _ => []) (fun j => [(10, iV (j : Int))]) (fun j => j ≤ x.Body.L.length ∧ NotB (fun y : InstrD => (((k : Int) ≠ but ∧ y.Code = code) ∧ y.A = n)) x.Body.L j) (fun j => x.Body.L.length - j) 0 ⟨Nat.zero_le _, NotB.zero _ _⟩ rfl ?_ ?_
  · exact (.get rfl (VLe.refl _) (.refl _ _))
  rintro j ⟨hj, nj⟩
  refine Z7 ?_
  refine .p (cI k (h := hx)) rfl ?_
  refine Z7 ?_
  refine Cd (fun c1 => ?_) fun c1 => ?_
  ·
   obtain ⟨y, hy⟩ := getElem?_lt (xs := x.Body.L) (k := j) (by omega)
   refine Z9 ?_
   refine .p (cI k (h := hx)) rfl ?_
   refine Z4 ?_
   refine .p (cI j (h := hy)) rfl ?_
   refine Z1 ?_
   refine .n (opAlloc FZ.out) rfl fun b11 _ => ?_
   refine Z22 ?_
   refine Cd (fun c2 => ?_) fun c2 => ?_
   ·
    refine Z15 ?_
    refine Rt1 ?_
    exact VLe.prop ⟨fun _ => ⟨k, x, by omega, hx, c2.1.1, y, List.mem_of_getElem? hy, c2.1.2, c2.2⟩, fun _ => trivial⟩
   refine Z8 ?_
   refine .own (OLe.sel [] [0] rfl rfl) (EndT.round (j + 1) ⟨by omega, nj.succ hy c2⟩ (by omega) rfl ?_)
   exact (.get rfl (VLe.int (by (show (j : Int) + 1 = ((j + 1 : Nat) : Int); omega))) ((.keep 40 rfl rfl)))
  refine Z11 ?_
  refine .round (k + 1) ⟨by omega, hasIn_succ nk hx (nj.all (by omega))⟩ (by omega) rfl ?_
  exact (.get rfl (VLe.int (by (show (k : Int) + 1 = ((k + 1 : Nat) : Int); omega))) ((.keep 21 rfl rfl)))
 have ke : k = m.Funcs.length := by omega
 subst ke
 refine Z11 ?_
 refine Rt1 ?_
 exact VLe.prop ⟨fun h => h.elim, fun h => nk h⟩
theorem wexported_spec {n : Int} : FnP Tryz.prog 37 [aggV (encMod m), iV kind, iV n] (propV (expP m kind n)) := by
 refine In 33 Tryz.func37 fun _ _ _ => ?_
 refine .fact (t := 0) rfl (fun S w v h => modLensA h) fun hl => ?_
 have hl1 := hl.sigs; have hl2 := hl.imports; have hl3 := hl.funcs; have hl4 := hl.mems; have hl5 := hl.globals; have hl6 := hl.exports; have hl7 := hl.elems; have hl8 := hl.datas
 refine Z13 ?_
 refine .loopO (σ := Nat) (fun _ => []) (fun k => [(7, iV (k : Int))]) (fun k => k ≤ m.Exports.length ∧ NotB (fun e : ExportD => e.Kind = kind ∧ e.Index = n) m.Exports k) (fun k => m.Exports.length - k) 0 ⟨Nat.zero_le _, NotB.zero _ _⟩ rfl ?_ ?_
 · exact (.get rfl (VLe.refl _) (.refl _ _))
 rintro k ⟨hk, nk⟩
 refine Z10 ?_
 refine Cd (fun c0 => ?_) fun c0 => ?_
 ·
  obtain ⟨x, hx⟩ := getElem?_lt (xs := m.Exports) (k := k) (by omega)
  refine Z9 ?_
  refine .p (cI k (h := hx)) rfl ?_
  refine Z8 ?_
  refine .g (OpG.gT rfl rfl rfl rfl (fun hg => opIndexAddr (j := k) FU.out FC.out rfl (.when (.t rfl) hg) (.when (.t rfl) hg) rfl hx)) rfl rfl ?_
  refine Z7 ?_
  refine Cd (fun c1 => ?_) fun c1 => ?_
  ·
   refine Z11 ?_
   refine Rt1 ?_
   exact VLe.prop ⟨fun _ => ⟨x, List.mem_of_getElem? hx, c1⟩, fun _ => trivial⟩
  refine Z8 ?_
  refine .round (k + 1) ⟨by omega, nk.succ hx c1⟩ (by omega) rfl ?_
  exact (.get rfl (VLe.int (by (show (k : Int) + 1 = ((k + 1 : Nat) : Int); omega))) ((.keep 27 rfl rfl)))
 have ke : k = m.Exports.length := by omega
 subst ke
 refine Z11 ?_
 refine Rt1 ?_
 exact VLe.prop ⟨fun h => h.elim, fun ⟨e, he, h⟩ => nk.all (Nat.le_refl _) e he h⟩
variable {i : Nat}
theorem wunused_spec (hp0 : ModOk m) (hp1 : FitsM m) (hp2 : i ≤ 100000) : FnP Tryz.prog 34 [aggV (encMod m), iV (i : Int)] (propV (unusedP m ((m.Imports.length : Int) + (i : Int)) (i : Int))) := by
 refine In 60 Tryz.func34 fun _ _ _ => ?_
 refine .fact (t := 0) rfl (fun S w v h => modLensA h) fun hl => ?_
 have hl1 := hl.sigs; have hl2 := hl.imports; have hl3 := hl.funcs; have hl4 := hl.mems; have hl5 := hl.globals; have hl6 := hl.exports; have hl7 := hl.elems; have hl8 := hl.datas
 refine Z23 ?_
 refine .loopO (σ := Nat) (fun _ => []) (fun k => [(6, iV (k : Int))]) (fun k => k ≤ m.Elems.length ∧ NotB (fun e : ElemD => ((m.Imports.length : Int) + (i : Int)) ∈ e.Funcs) m.Elems k) (fun k => m.Elems.length - k) 0 ⟨Nat.zero_le _, NotB.zero _ _⟩ rfl ?_ ?_
 · exact (.get rfl (VLe.refl _) (.refl _ _))
 rintro k ⟨hk, nk⟩
 refine Z10 ?_
 refine Cd (fun c0 => ?_) fun c0 => ?_
 ·
  obtain ⟨x, hx⟩ := getElem?_lt (xs := m.Elems) (k := k) (by omega)
  have hbl := (fo_elem hp1 (List.mem_of_getElem? hx)).1
  refine Z10 ?_
  refine .loopO (σ := Nat) (fun _ => []) (fun j => [(7, iV (j : Int))]) (fun j => j ≤ x.Funcs.length ∧ NotB (fun g : Int => g = ((m.Imports.length : Int) + (i : Int))) x.Funcs j) (fun j => x.Funcs.length - j) 0 ⟨Nat.zero_le _, NotB.zero _ _⟩ rfl ?_ ?_
  · exact (.get rfl (VLe.refl _) (.refl _ _))
  rintro j ⟨hj, nj⟩
  refine Z7 ?_
  refine .p (cI k (h := hx)) rfl ?_
  refine Z6 ?_
  refine Cd (fun c1 => ?_) fun c1 => ?_
  ·
   obtain ⟨y, hy⟩ := getElem?_lt (xs := x.Funcs) (k := j) (by omega)
   refine Z9 ?_
   refine .p (cI k (h := hx)) rfl ?_
   refine Z3 ?_
   refine .p (cI j (h := hy)) rfl ?_
   refine Z5 ?_
   refine Cd (fun c2 => ?_) fun c2 => ?_
   ·
    refine Z15 ?_
    refine Rt1 ?_
    exact VLe.prop ⟨fun h => h.elim, fun h => h.1 ⟨x, List.mem_of_getElem? hx, by rw [← c2]; exact List.mem_of_getElem? hy⟩⟩
   refine Z8 ?_
   refine .round (j + 1) ⟨by omega, nj.succ hy c2⟩ (by omega) rfl ?_
   exact (.get rfl (VLe.int (by (show (j : Int) + 1 = ((j + 1 : Nat) : Int); omega))) ((.keep 24 rfl rfl)))
  refine Z11 ?_
  refine .round (k + 1) ⟨by omega, nk.succ hx fun hm => nj.all (by omega) _ hm rfl⟩ (by omega) rfl ?_
  exact (.get rfl (VLe.int (by (show (k : Int) + 1 = ((k + 1 : Nat) : Int); omega))) ((.keep 20 rfl rfl)))
 have ke : k = m.Elems.length := by omega
 subst ke
 refine Z9 ?_
 refine .p (cA (h := wexported_spec (kind := 0) (n := ((m.Imports.length : Int) + (i : Int))))) rfl ?_
 refine Z12 ?_
 refine .g (OpG.gT rfl rfl rfl rfl (fun hg => opCall (whas_spec (but := (i : Int)) (code := 16) (n := ((m.Imports.length : Int) + (i : Int))) hp0) FB.out (.cons (.when (.t rfl) hg) (.cons (.when (.t rfl) hg) (.cons (.c _) (.cons (.when (.t rfl) hg) .nil)))))) rfl rfl ?_
 refine Z6 ?_
 refine Rt1 ?_
 exact VLe.prop ⟨fun h => ⟨fun ⟨e, he, hm⟩ => nk.all (Nat.le_refl _) e he hm, h.1.1, h.1.2, h.2⟩, fun h => ⟨⟨h.2.1, h.2.2.1⟩, h.2.2.2⟩⟩
theorem widle_spec (hp0 : ModOk m) (hp1 : i ≤ 100000) : FnP Tryz.prog 35 [aggV (encMod m), iV (i : Int)] (propV (idleP m (i : Int))) := by
 refine In 42 Tryz.func35 fun _ _ _ => ?_
 refine .fact (t := 0) rfl (fun S w v h => modLensA h) fun hl => ?_
 have hl1 := hl.sigs; have hl2 := hl.imports; have hl3 := hl.funcs; have hl4 := hl.mems; have hl5 := hl.globals; have hl6 := hl.exports; have hl7 := hl.elems; have hl8 := hl.datas
 refine Z13 ?_
 refine .loopO (σ := Nat) (fun _ => []) (fun k => [(5, iV (k : Int))]) (fun k => k ≤ m.Imports.length ∧ NotB (fun y : ImportD => y.Sig = (i : Int)) m.Imports k) (fun k => m.Imports.length - k) 0 ⟨Nat.zero_le _, NotB.zero _ _⟩ rfl ?_ ?_
 · exact (.get rfl (VLe.refl _) (.refl _ _))
 rintro k ⟨hk, nk⟩
 refine Z10 ?_
 refine Cd (fun c0 => ?_) fun c0 => ?_
 ·
  obtain ⟨x, hx⟩ := getElem?_lt (xs := m.Imports) (k := k) (by omega)
  refine Z9 ?_
  refine .p (cI k (h := hx)) rfl ?_
  refine Z6 ?_
  refine Cd (fun c1 => ?_) fun c1 => ?_
  ·
   refine Z11 ?_
   refine Rt1 ?_
   exact VLe.prop ⟨fun h => h.elim, fun h => h.1 x (List.mem_of_getElem? hx) c1⟩
  refine Z8 ?_
  refine .round (k + 1) ⟨by omega, nk.succ hx c1⟩ (by omega) rfl ?_
  exact (.get rfl (VLe.int (by (show (k : Int) + 1 = ((k + 1 : Nat) : Int); omega))) ((.keep 17 rfl rfl)))
 have ke : k = m.Imports.length := by omega
 subst ke
 refine Z12 ?_
 refine .loopO (σ := Nat) (fun _ => []) (fun j => [(6, iV (j : Int))]) (fun j => j ≤ m.Funcs.length ∧ NotB (fun y : FuncD => y.Sig = (i : Int)) m.Funcs j) (fun j => m.Funcs.length - j) 0 ⟨Nat.zero_le _, NotB.zero _ _⟩ rfl ?_ ?_
 · exact (.get rfl (VLe.refl _) (.refl _ _))
 rintro j ⟨hj, nj⟩
 refine Z10 ?_
 refine Cd (fun c2 => ?_) fun c2 => ?_
 ·
  obtain ⟨y, hy⟩ := getElem?_lt (xs := m.Funcs) (k := j) (by omega)
  refine Z9 ?_
  refine .p (cI j (h := hy)) rfl ?_
  refine Z6 ?_
  refine Cd (fun c3 => ?_) fun c3 => ?_
  ·
   refine Z11 ?_
   refine Rt1 ?_
   exact VLe.prop ⟨fun h => h.elim, fun h => h.2.1 y (List.mem_of_getElem? hy) c3⟩
  refine Z8 ?_
  refine .round (j + 1) ⟨by omega, nj.succ hy c3⟩ (by omega) rfl ?_
  exact (.get rfl (VLe.int (by (show (j : Int) + 1 = ((j + 1 : Nat) : Int); omega))) ((.keep 17 rfl rfl)))
 have je : j = m.Funcs.length := by omega
 subst je
 refine Z10 ?_
 refine .p (cA (h := whas_spec (but := -1) (code := 17) (n := (i : Int)) hp0)) rfl ?_
 refine Z5 ?_
 refine Rt1 ?_
 exact VLe.prop ⟨fun h => ⟨nk.all (Nat.le_refl _), nj.all (Nat.le_refl _), h⟩, fun h => h.2.2⟩
theorem wbare_spec (hp0 : ModOk m) (hp1 : i ≤ 100000) : FnP Tryz.prog 38 [aggV (encMod m), iV (i : Int)] (propV (bareP m (i : Int))) := by
 refine In 85 Tryz.func38 fun _ _ _ => ?_
 refine .fact (t := 0) rfl (fun S w v h => modLensA h) fun hl => ?_
 have hl1 := hl.sigs; have hl2 := hl.imports; have hl3 := hl.funcs; have hl4 := hl.mems; have hl5 := hl.globals; have hl6 := hl.exports; have hl7 := hl.elems; have hl8 := hl.datas
 refine Z13 ?_
 refine .loopO (σ := Nat) (fun _ => []) (fun k => [(5, iV (k : Int))]) (fun k => k ≤ m.Datas.length ∧ NotB (fun y : DataD => y.Mem = (i : Int)) m.Datas k) (fun k => m.Datas.length - k) 0 ⟨Nat.zero_le _, NotB.zero _ _⟩ rfl ?_ ?_
 · exact (.get rfl (VLe.refl _) (.refl _ _))
 rintro k ⟨hk, nk⟩
 refine Z10 ?_
 refine Cd (fun c0 => ?_) fun c0 => ?_
 ·
  obtain ⟨x, hx⟩ := getElem?_lt (xs := m.Datas) (k := k) (by omega)
  refine Z9 ?_
  refine .p (cI k (h := hx)) rfl ?_
  refine Z6 ?_
  refine Cd (fun c1 => ?_) fun c1 => ?_
  ·
   refine Z11 ?_
   refine Rt1 ?_
   exact VLe.prop ⟨fun h => h.elim, fun h => h.1 x (List.mem_of_getElem? hx) c1⟩
  refine Z8 ?_
  refine .round (k + 1) ⟨by omega, nk.succ hx c1⟩ (by omega) rfl ?_
  exact (.get rfl (VLe.int (by (show (k : Int) + 1 = ((k + 1 : Nat) : Int); omega))) ((.keep 17 rfl rfl)))
 have ke : k = m.Datas.length := by omega
 subst ke
 refine Z12 ?_
 refine .loopO (σ := Nat) (fun _ => []) (fun j => [(6, iV (j : Int))]) (fun j => j ≤ m.Funcs.length ∧ NotB (fun f : FuncD => ∃ y ∈ f.Body.L, memI y (i : Int)) m.Funcs j) (fun j => m.Funcs.length - j) 0 ⟨Nat.zero_le _, NotB.zero _ _⟩ rfl ?_ ?_
 · exact (.get rfl (VLe.refl _) (.refl _ _))
 rintro j ⟨hj, nj⟩
 refine Z10 ?_
 refine Cd (fun c2 => ?_) fun c2 => ?_
 ·
  obtain ⟨f, hf⟩ := getElem?_lt (xs := m.Funcs) (k := j) (by omega)
  have hbl := hp0.len f (List.mem_of_getElem? hf)
  refine Z10 ?_
  refine .loopO (σ := Nat) (fun _ => []) (fun t => [(7, iV (t : Int))]) (fun t => t ≤ f.Body.L.length ∧ NotB (fun y : InstrD => memI y (i : Int)) f.Body.L t) (fun t => f.Body.L.length - t) 0 ⟨Nat.zero_le _, NotB.zero _ _⟩ rfl ?_ ?_
  · exact (.get rfl (VLe.refl _) (.refl _ _))
  rintro t ⟨ht, nt⟩
  refine Z7 ?_
  refine .p (cI j (h := hf)) rfl ?_
  refine Z7 ?_
  refine Cd (fun c3 => ?_) fun c3 => ?_
  ·
   obtain ⟨y, hy⟩ := getElem?_lt (xs := f.Body.L) (k := t) (by omega)
   refine Z9 ?_
   refine .p (cI j (h := hf)) rfl ?_
   refine Z4 ?_
   refine .p (cI t (h := hy)) rfl ?_
   refine Z1 ?_
   refine .n (opAlloc FZ.out) rfl fun b8 _ => ?_
   refine Z7 ?_
   refine .p (cA (h := rform_spec (code := y.Code))) rfl ?_
   refine Z31 ?_
   refine Cd (fun c4 => ?_) fun c4 => ?_
   ·
    refine Z15 ?_
    refine Rt1 ?_
    exact VLe.prop ⟨fun h => h.elim, fun h => h.2.1 ⟨f, List.mem_of_getElem? hf, y, List.mem_of_getElem? hy, memI_iff.2 c4⟩⟩
   refine Z8 ?_
   refine .own (OLe.sel [] [0] rfl rfl) (EndT.round (t + 1) ⟨by omega, nt.succ hy fun h => c4 (memI_iff.1 h)⟩ (by omega) rfl ?_)
   exact (.get rfl (VLe.int (by (show (t : Int) + 1 = ((t + 1 : Nat) : Int); omega))) ((.keep 53 rfl rfl)))
  refine Z11 ?_
  refine .round (j + 1) ⟨by omega, nj.succ hf fun ⟨y, hy, h⟩ => nt.all (by omega) y hy h⟩ (by omega) rfl ?_
  exact (.get rfl (VLe.int (by (show (j : Int) + 1 = ((j + 1 : Nat) : Int); omega))) ((.keep 21 rfl rfl)))
 have je : j = m.Funcs.length := by omega
 subst je
 refine Z9 ?_
 refine .p (cA (h := wexported_spec (kind := 2) (n := (i : Int)))) rfl ?_
 refine Z5 ?_
 refine Rt1 ?_
 exact VLe.prop ⟨fun h => ⟨nk.all (Nat.le_refl _), fun ⟨g, hg, h9⟩ => nj.all (Nat.le_refl _) g hg h9, h⟩, fun h => h.2.2⟩
theorem wfind_spec (hp0 : ModOk m) (hp1 : ValidD m) : FnP Tryz.prog 10 [aggV (encMod m)] (sliceV 3 encFd (findM m)) := by
 refine In 264 Tryz.func10 fun _ _ _ => ?_
 have hkk := valid_kinds hp1
 have hlens := hp1.1.lens
 have hcn : (m.Imports.length : Int) + (m.Funcs.length : Int) ≤ 100 := hlens.2.2.2.2
 have hlu := fU_len m
 have hli := fI_len m
 have hls := fS_len m
 have hlb := fB_len m
 refine Z18 ?_
 refine .ownNil 3 encFd ?_
 refine .loopO (σ := Nat × SB) (fun s => [sliceH s.2 3 encFd (([]) ++ eachL (fun _ => True) (namesM m) 0 m.Imports.length (s.1))]) (fun s => [(4, iV (s.1 : Int)), (3, exactV (sval s.2 (([]) ++ eachL (fun _ => True) (namesM m) 0 m.Imports.length (s.1)).length))]) (fun s => s.1 ≤ m.Funcs.length) (fun s => m.Funcs.length - s.1) (0, none) (Nat.zero_le _) rfl ?_ ?_
 · exact (.get rfl (VLe.refl _) (.get rfl (VLe.refl _) (.refl _ _)))
 rintro ⟨i, s1⟩ hi
 simp only at hi ⊢
 have hel := eachL_len (p := fun _ => True) (N := namesM m) (kind := 0) (a := m.Imports.length) (n := i)
 refine Z10 ?_
 refine Cd (fun c0 => ?_) fun c0 => ?_
 ·
  refine Z8 ?_
  refine .p (cA (h := wunused_spec (i := i) hp0 hp1.1 (by omega))) rfl ?_
  refine Z2 ?_
  refine Cd (fun c1 => ?_) fun c1 => ?_
  ·
   have hiy : True ∧ ((0 : Int), ((m.Imports.length : Nat) : Int) + (i : Int)) ∉ namesM m := ⟨trivial, (unused_law hp0 hkk (by omega) rfl).2 c1⟩
   refine Z8 ?_
   refine .p (cB encFd [(0, ((m.Imports.length : Nat) : Int) + (i : Int), 0)]) rfl ?_
   refine .n (opAppend (i := 0) FU.out FU.out FC.out rfl FZ.out rfl FY.out (.t rfl) (.t rfl) rfl (by simp only [List.length_cons, List.length_nil, List.length_append] at *; omega) (by simp only [List.length_cons, List.length_nil, List.length_append] at *; omega)) rfl fun g36 _ => ?_
   refine Z9 ?_
   refine .round (i + 1, g36) (by show i + 1 ≤ _; omega) (by show m.Funcs.length - (i + 1) < m.Funcs.length - i; omega) (by show _ = [sliceH g36 3 encFd (([]) ++ (eachL (fun _ => True) (namesM m) 0 m.Imports.length (i) ++ ifL _ _))]; rw [ifL_yes _ hiy, ← List.append_assoc]; try rfl) ?_
   exact (.get rfl (VLe.int (by (show (i : Int) + 1 = ((i + 1 : Nat) : Int); omega))) ((.get rfl (VLe.of_eq (by show _ = exactV (sval g36 (([]) ++ (eachL (fun _ => True) (namesM m) 0 m.Imports.length (i) ++ ifL _ _)).length); rw [ifL_yes _ hiy, ← List.append_assoc]; try rfl)) ((.keep 23 rfl rfl)))))
  have hin : ¬ (True ∧ ((0 : Int), ((m.Imports.length : Nat) : Int) + (i : Int)) ∉ namesM m) := fun h => c1 ((unused_law hp0 hkk (by omega) rfl).1 h.2)
  refine Z8 ?_
  refine .round (i + 1, s1) (by show i + 1 ≤ _; omega) (by show m.Funcs.length - (i + 1) < m.Funcs.length - i; omega) (by show _ = [sliceH s1 3 encFd (([]) ++ (eachL (fun _ => True) (namesM m) 0 m.Imports.length (i) ++ ifL _ _))]; rw [ifL_no _ hin, List.append_nil]; try rfl) ?_
  exact (.get rfl (VLe.int (by (show (i : Int) + 1 = ((i + 1 : Nat) : Int); omega))) ((.get rfl (VLe.of_eq (by show _ = exactV (sval s1 (([]) ++ (eachL (fun _ => True) (namesM m) 0 m.Imports.length (i) ++ ifL _ _)).length); rw [ifL_no _ hin, List.append_nil]; try rfl)) ((.keep 13 rfl rfl)))))
 have hie : i = m.Funcs.length := by omega
 subst hie
 refine Z12 ?_
 refine .loopO (σ := Nat × SB) (fun s => [sliceH s.2 3 encFd ((fU m) ++ eachL (fun _ => True) (namesM m) 1 0 (s.1))]) (fun s => [(5, iV (s.1 : Int)), (3, exactV (sval s.2 ((fU m) ++ eachL (fun _ => True) (namesM m) 1 0 (s.1)).length))]) (fun s => s.1 ≤ m.Sigs.length) (fun s => m.Sigs.length - s.1) (0, s1) (Nat.zero_le _) (by show _ = [sliceH s1 3 encFd ((fU m) ++ [])]; rw [List.append_nil]; try rfl) ?_ ?_
 · exact (.get rfl (VLe.refl _) (.get rfl (VLe.of_eq (by show _ = exactV (sval s1 ((fU m) ++ []).length); rw [List.append_nil]; try rfl)) (.refl _ _)))
 rintro ⟨j, s2⟩ hj
 simp only at hj ⊢
 have hel := eachL_len (p := fun _ => True) (N := namesM m) (kind := 1) (a := 0) (n := j)
 refine Z10 ?_
 refine Cd (fun c2 => ?_) fun c2 => ?_
 ·
  refine Z8 ?_
  refine .p (cA (h := widle_spec (i := j) hp0 (by omega))) rfl ?_
  refine Z2 ?_
  refine Cd (fun c3 => ?_) fun c3 => ?_
  ·
   have hzj : ((0 : Nat) : Int) + (j : Int) = (j : Int) := by omega
   have hjy : True ∧ ((1 : Int), ((0 : Nat) : Int) + (j : Int)) ∉ namesM m := ⟨trivial, by rw [hzj]; exact (idle_law hp0 hkk (by omega)).2 c3⟩
   refine Z3 ?_
   refine .p ((opBuild FP.out FZ.out (.cons (.c _) (.cons (.t rfl) .nil)) rfl).le ((show VLe _ (aggV (encFd (1, ((0 : Nat) : Int) + (j : Int), 0))) from by rw [hzj]; exact VLe.refl _))) rfl ?_
   refine .p (cB encFd [(1, ((0 : Nat) : Int) + (j : Int), 0)]) rfl ?_
   refine .n (opAppend (i := 0) FU.out FU.out FC.out rfl FZ.out rfl FY.out (.t rfl) (.t rfl) rfl (by simp only [List.length_cons, List.length_nil, List.length_append] at *; omega) (by simp only [List.length_cons, List.length_nil, List.length_append] at *; omega)) rfl fun g51 _ => ?_
   refine Z9 ?_
   refine .round (j + 1, g51) (by show j + 1 ≤ _; omega) (by show m.Sigs.length - (j + 1) < m.Sigs.length - j; omega) (by show _ = [sliceH g51 3 encFd ((fU m) ++ (eachL (fun _ => True) (namesM m) 1 0 (j) ++ ifL _ _))]; rw [ifL_yes _ hjy, ← List.append_assoc]; try rfl) ?_
   exact (.get rfl (VLe.int (by (show (j : Int) + 1 = ((j + 1 : Nat) : Int); omega))) ((.get rfl (VLe.of_eq (by show _ = exactV (sval g51 ((fU m) ++ (eachL (fun _ => True) (namesM m) 1 0 (j) ++ ifL _ _)).length); rw [ifL_yes _ hjy, ← List.append_assoc]; try rfl)) ((.keep 19 rfl rfl)))))
  have hzj : ((0 : Nat) : Int) + (j : Int) = (j : Int) := by omega
  have hjn : ¬ (True ∧ ((1 : Int), ((0 : Nat) : Int) + (j : Int)) ∉ namesM m) := fun h => c3 (by rw [hzj] at h; exact (idle_law hp0 hkk (by omega)).1 h.2)
  refine Z8 ?_
  refine .round (j + 1, s2) (by show j + 1 ≤ _; omega) (by show m.Sigs.length - (j + 1) < m.Sigs.length - j; omega) (by show _ = [sliceH s2 3 encFd ((fU m) ++ (eachL (fun _ => True) (namesM m) 1 0 (j) ++ ifL _ _))]; rw [ifL_no _ hjn, List.append_nil]; try rfl) ?_
  exact (.get rfl (VLe.int (by (show (j : Int) + 1 = ((j + 1 : Nat) : Int); omega))) ((.get rfl (VLe.of_eq (by show _ = exactV (sval s2 ((fU m) ++ (eachL (fun _ => True) (namesM m) 1 0 (j) ++ ifL _ _)).length); rw [ifL_no _ hjn, List.append_nil]; try rfl)) ((.keep 13 rfl rfl)))))
 have hje : j = m.Sigs.length := by omega
 subst hje
 refine Z12 ?_
 refine .loopO (σ := Nat × SB) (fun s => [sliceH s.2 3 encFd ((fU m ++ fI m) ++ eachL (mutG m) (namesM m) 2 0 (s.1))]) (fun s => [(6, iV (s.1 : Int)), (3, exactV (sval s.2 ((fU m ++ fI m) ++ eachL (mutG m) (namesM m) 2 0 (s.1)).length))]) (fun s => s.1 ≤ m.Globals.length) (fun s => m.Globals.length - s.1) (0, s2) (Nat.zero_le _) (by show _ = [sliceH s2 3 encFd ((fU m ++ fI m) ++ [])]; rw [List.append_nil]; try rfl) ?_ ?_
 · exact (.get rfl (VLe.refl _) (.get rfl (VLe.of_eq (by show _ = exactV (sval s2 ((fU m ++ fI m) ++ []).length); rw [List.append_nil]; try rfl)) (.refl _ _)))
 rintro ⟨k, s3⟩ hk
 simp only at hk ⊢
 have hel := eachL_len (p := mutG m) (N := namesM m) (kind := 2) (a := 0) (n := k)
 refine Z10 ?_
 refine Cd (fun c4 => ?_) fun c4 => ?_
 ·
  obtain ⟨x, hx⟩ := getElem?_lt (xs := m.Globals) (k := k) (by omega)
  have hzk : ((0 : Nat) : Int) + (k : Int) = (k : Int) := by omega
  have hsl := still_law hp0 hkk (n := (k : Int)) (by omega)
  unfold stillP at hsl
  refine Z9 ?_
  refine .p (cI k (h := hx)) rfl ?_
  refine Z6 ?_
  refine .g (OpG.gT rfl rfl rfl rfl (fun hg => opCall (whas_spec (but := -1) (code := 36) (n := (k : Int)) hp0) FB.out (.cons (.when (.t rfl) hg) (.cons (.c _) (.cons (.c _) (.cons (.when (.t rfl) hg) .nil)))))) rfl rfl ?_
  refine Z5 ?_
  refine .g (OpG.gT rfl rfl rfl rfl (fun hg => opCall (wexported_spec (kind := 3) (n := (k : Int))) FB.out (.cons (.when (.t rfl) hg) (.cons (.c _) (.cons (.when (.t rfl) hg) .nil))))) rfl rfl ?_
  refine Z4 ?_
  refine Cd (fun c5 => ?_) fun c5 => ?_
  ·
   have hky : mutG m (((0 : Nat) : Int) + (k : Int)) ∧ ((2 : Int), ((0 : Nat) : Int) + (k : Int)) ∉ namesM m := ⟨(mutG_at hx).2 c5.1.1, by rw [hzk]; exact hsl.2 ⟨c5.1.2, c5.2⟩⟩
   refine Z3 ?_
   refine .p ((opBuild FP.out FZ.out (.cons (.c _) (.cons (.t rfl) .nil)) rfl).le ((show VLe _ (aggV (encFd (2, ((0 : Nat) : Int) + (k : Int), 0))) from by rw [hzk]; exact VLe.refl _))) rfl ?_
   refine .p (cB encFd [(2, ((0 : Nat) : Int) + (k : Int), 0)]) rfl ?_
   refine .n (opAppend (i := 0) FU.out FU.out FC.out rfl FZ.out rfl FY.out (.t rfl) (.t rfl) rfl (by simp only [List.length_cons, List.length_nil, List.length_append] at *; omega) (by simp only [List.length_cons, List.length_nil, List.length_append] at *; omega)) rfl fun g82 _ => ?_
   refine Z9 ?_
   refine .round (k + 1, g82) (by show k + 1 ≤ _; omega) (by show m.Globals.length - (k + 1) < m.Globals.length - k; omega) (by show _ = [sliceH g82 3 encFd ((fU m ++ fI m) ++ (eachL (mutG m) (namesM m) 2 0 (k) ++ ifL _ _))]; rw [ifL_yes _ hky, ← List.append_assoc]; try rfl) ?_
   exact (.get rfl (VLe.int (by (show (k : Int) + 1 = ((k + 1 : Nat) : Int); omega))) ((.get rfl (VLe.of_eq (by show _ = exactV (sval g82 ((fU m ++ fI m) ++ (eachL (mutG m) (namesM m) 2 0 (k) ++ ifL _ _)).length); rw [ifL_yes _ hky, ← List.append_assoc]; try rfl)) ((.keep 35 rfl rfl)))))
  have hkn : ¬ (mutG m (((0 : Nat) : Int) + (k : Int)) ∧ ((2 : Int), ((0 : Nat) : Int) + (k : Int)) ∉ namesM m) := fun h => c5 (by rw [hzk] at h; exact ⟨⟨(mutG_at hx).1 (by rw [hzk]; exact h.1), (hsl.1 h.2).1⟩, (hsl.1 h.2).2⟩)
  refine Z8 ?_
  refine .round (k + 1, s3) (by show k + 1 ≤ _; omega) (by show m.Globals.length - (k + 1) < m.Globals.length - k; omega) (by show _ = [sliceH s3 3 encFd ((fU m ++ fI m) ++ (eachL (mutG m) (namesM m) 2 0 (k) ++ ifL _ _))]; rw [ifL_no _ hkn, List.append_nil]; try rfl) ?_
  exact (.get rfl (VLe.int (by (show (k : Int) + 1 = ((k + 1 : Nat) : Int); omega))) ((.get rfl (VLe.of_eq (by show _ = exactV (sval s3 ((fU m ++ fI m) ++ (eachL (mutG m) (namesM m) 2 0 (k) ++ ifL _ _)).length); rw [ifL_no _ hkn, List.append_nil]; try rfl)) ((.keep 29 rfl rfl)))))
 have hke : k = m.Globals.length := by omega
 subst hke
 refine Z12 ?_
 refine .loopO (σ := Nat × SB) (fun s => [sliceH s.2 3 encFd (((fU m ++ fI m) ++ fS m) ++ eachL (fun _ => True) (namesM m) 3 0 (s.1))]) (fun s => [(7, iV (s.1 : Int)), (3, exactV (sval s.2 (((fU m ++ fI m) ++ fS m) ++ eachL (fun _ => True) (namesM m) 3 0 (s.1)).length))]) (fun s => s.1 ≤ m.Mems.length) (fun s => m.Mems.length - s.1) (0, s3) (Nat.zero_le _) (by show _ = [sliceH s3 3 encFd (((fU m ++ fI m) ++ fS m) ++ [])]; rw [List.append_nil]; try rfl) ?_ ?_
 · exact (.get rfl (VLe.refl _) (.get rfl (VLe.of_eq (by show _ = exactV (sval s3 (((fU m ++ fI m) ++ fS m) ++ []).length); rw [List.append_nil]; try rfl)) (.refl _ _)))
 rintro ⟨t, s4⟩ ht
 simp only at ht ⊢
 have hel := eachL_len (p := fun _ => True) (N := namesM m) (kind := 3) (a := 0) (n := t)
 refine Z10 ?_
 refine Cd (fun c6 => ?_) fun c6 => ?_
 ·
  refine Z8 ?_
  refine .p (cA (h := wbare_spec (i := t) hp0 (by omega))) rfl ?_
  refine Z2 ?_
  refine Cd (fun c7 => ?_) fun c7 => ?_
  ·
   have hzt : ((0 : Nat) : Int) + (t : Int) = (t : Int) := by omega
   have hty : True ∧ ((3 : Int), ((0 : Nat) : Int) + (t : Int)) ∉ namesM m := ⟨trivial, by rw [hzt]; exact (bare_law hp0 hkk (by omega)).2 c7⟩
   refine Z3 ?_
   refine .p ((opBuild FP.out FZ.out (.cons (.c _) (.cons (.t rfl) .nil)) rfl).le ((show VLe _ (aggV (encFd (3, ((0 : Nat) : Int) + (t : Int), 0))) from by rw [hzt]; exact VLe.refl _))) rfl ?_
   refine .p (cB encFd [(3, ((0 : Nat) : Int) + (t : Int), 0)]) rfl ?_
   refine .n (opAppend (i := 0) FU.out FU.out FC.out rfl FZ.out rfl FY.out (.t rfl) (.t rfl) rfl (by simp only [List.length_cons, List.length_nil, List.length_append] at *; omega) (by simp only [List.length_cons, List.length_nil, List.length_append] at *; omega)) rfl fun g97 _ => ?_
   refine Z9 ?_
   refine .round (t + 1, g97) (by show t + 1 ≤ _; omega) (by show m.Mems.length - (t + 1) < m.Mems.length - t; omega) (by show _ = [sliceH g97 3 encFd (((fU m ++ fI m) ++ fS m) ++ (eachL (fun _ => True) (namesM m) 3 0 (t) ++ ifL _ _))]; rw [ifL_yes _ hty, ← List.append_assoc]; try rfl) ?_
   exact (.get rfl (VLe.int (by (show (t : Int) + 1 = ((t + 1 : Nat) : Int); omega))) ((.get rfl (VLe.of_eq (by show _ = exactV (sval g97 (((fU m ++ fI m) ++ fS m) ++ (eachL (fun _ => True) (namesM m) 3 0 (t) ++ ifL _ _)).length); rw [ifL_yes _ hty, ← List.append_assoc]; try rfl)) ((.keep 19 rfl rfl)))))
  have hzt : ((0 : Nat) : Int) + (t : Int) = (t : Int) := by omega
  have htn : ¬ (True ∧ ((3 : Int), ((0 : Nat) : Int) + (t : Int)) ∉ namesM m) := fun h => c7 (by rw [hzt] at h; exact (bare_law hp0 hkk (by omega)).1 h.2)
  refine Z8 ?_
  refine .round (t + 1, s4) (by show t + 1 ≤ _; omega) (by show m.Mems.length - (t + 1) < m.Mems.length - t; omega) (by show _ = [sliceH s4 3 encFd (((fU m ++ fI m) ++ fS m) ++ (eachL (fun _ => True) (namesM m) 3 0 (t) ++ ifL _ _))]; rw [ifL_no _ htn, List.append_nil]; try rfl) ?_
  exact (.get rfl (VLe.int (by (show (t : Int) + 1 = ((t + 1 : Nat) : Int); omega))) ((.get rfl (VLe.of_eq (by show _ = exactV (sval s4 (((fU m ++ fI m) ++ fS m) ++ (eachL (fun _ => True) (namesM m) 3 0 (t) ++ ifL _ _)).length); rw [ifL_no _ htn, List.append_nil]; try rfl)) ((.keep 13 rfl rfl)))))
 have hte : t = m.Mems.length := by omega
 subst hte
 refine Z12 ?_
 refine .loopO (σ := Nat × SB) (fun s => [sliceH s.2 3 encFd ((((fU m ++ fI m) ++ fS m) ++ fB m) ++ fD m s.1)]) (fun s => [(8, iV (s.1 : Int)), (3, exactV (sval s.2 ((((fU m ++ fI m) ++ fS m) ++ fB m) ++ fD m s.1).length))]) (fun s => s.1 ≤ m.Funcs.length) (fun s => m.Funcs.length - s.1) (0, s4) (Nat.zero_le _) (by show _ = [sliceH s4 3 encFd ((((fU m ++ fI m) ++ fS m) ++ fB m) ++ [])]; rw [List.append_nil]; try rfl) ?_ ?_
 · exact (.get rfl (VLe.refl _) (.get rfl (VLe.of_eq (by show _ = exactV (sval s4 ((((fU m ++ fI m) ++ fS m) ++ fB m) ++ []).length); rw [List.append_nil]; try rfl)) (.refl _ _)))
 rintro ⟨q, s5⟩ hq
 simp only at hq ⊢
 refine Z10 ?_
 refine Cd (fun c8 => ?_) fun c8 => ?_
 ·
  obtain ⟨f, hf⟩ := getElem?_lt (xs := m.Funcs) (k := q) (by omega)
  have hfa := fnAt_eq hf
  have hfm := List.mem_of_getElem? hf
  have hll := hp0.len f hfm
  have hlo := hp0.loc f hfm
  have hsg := sigAt_mem (func_sig hp1.1 hfm)
  have hfin := func_sig hp1.1 hfm
  unfold InP at hfin
  have hP := (hp1.1.few _ hsg.2).1
  have hdl := fD_len hp0 q
  have hfl := fL_len hp0 q
  have hda := fD_len hp0 m.Funcs.length
  refine Z15 ?_
  refine .loopO (σ := Nat × SB) (fun s => [sliceH s.2 3 encFd (((((fU m ++ fI m) ++ fS m) ++ fB m) ++ fD m q) ++ deadL f.Body.L (q : Int) (s.1))]) (fun s => [(10, iV (s.1 : Int)), (9, propV (stdL f.Body.L s.1)), (3, exactV (sval s.2 (((((fU m ++ fI m) ++ fS m) ++ fB m) ++ fD m q) ++ deadL f.Body.L (q : Int) (s.1)).length))]) (fun s => s.1 ≤ f.Body.L.length) (fun s => f.Body.L.length - s.1) (0, s5) (Nat.zero_le _) (by show _ = [sliceH s5 3 encFd (((((fU m ++ fI m) ++ fS m) ++ fB m) ++ fD m q) ++ [])]; rw [List.append_nil]; try rfl) ?_ ?_
  · exact (.get rfl (VLe.refl _) (.get rfl (VLe.prop ⟨fun h => h.elim, fun h => h.elim⟩) (.get rfl (VLe.of_eq (by show _ = exactV (sval s5 (((((fU m ++ fI m) ++ fS m) ++ fB m) ++ fD m q) ++ []).length); rw [List.append_nil]; try rfl)) (.refl _ _))))
  rintro ⟨p, s6⟩ hp
  simp only at hp ⊢
  refine Z7 ?_
  refine .p (cI q (h := hf)) rfl ?_
  refine Z7 ?_
  refine Cd (fun c9 => ?_) fun c9 => ?_
  ·
   obtain ⟨y, hy⟩ := getElem?_lt (xs := f.Body.L) (k := p) (by omega)
   have hcy := cdI_eq hy
   obtain ⟨z, hz⟩ := getElem?_lt (xs := f.Body.L) (k := p - 1) (by omega)
   have hcz := cdI_eq hz
   have hel := deadL_len (l := f.Body.L) (f := (q : Int)) (n := p)
   refine Z9 ?_
   refine .p (cI q (h := hf)) rfl ?_
   refine Z4 ?_
   refine .p (cI p (h := hy)) rfl ?_
   refine Z9 ?_
   refine .p (cA (h := wbound_spec)) rfl ?_
   refine Z2 ?_
   refine Cd (fun c10 => ?_) fun c10 => ?_
   ·
    refine Z14 ?_
    refine .round (p + 1, s6) (by show p + 1 ≤ _; omega) (by show f.Body.L.length - (p + 1) < f.Body.L.length - p; omega) (by show _ = [sliceH s6 3 encFd (((((fU m ++ fI m) ++ fS m) ++ fB m) ++ fD m q) ++ (deadL f.Body.L (q : Int) (p) ++ ifL _ _))]; rw [ifL_no _ (dead_bnd (hcy ▸ c10)), List.append_nil]; try rfl) ?_
    exact (.get rfl (VLe.int (by (show (p : Int) + 1 = ((p + 1 : Nat) : Int); omega))) (.get rfl (VLe.prop ⟨fun h => h.elim, fun h => std_bnd (hcy ▸ c10) h⟩) (.get rfl (VLe.of_eq (by show _ = exactV (sval s6 (((((fU m ++ fI m) ++ fS m) ++ fB m) ++ fD m q) ++ (deadL f.Body.L (q : Int) (p) ++ ifL _ _)).length); rw [ifL_no _ (dead_bnd (hcy ▸ c10)), List.append_nil]; try rfl)) ((.keep 31 rfl rfl)))))
   have hby : ¬ bndC (cdI f.Body.L p) := by rw [hcy]; exact c10
   refine Z8 ?_
   refine Cd (fun c11 => ?_) fun c11 => ?_
   ·
    refine Z9 ?_
    refine .g (OpG.gT rfl rfl rfl rfl (fun hg => opIndexAddr (j := q) FU.out FC.out rfl (.when (.t rfl) hg) (.when (.t rfl) hg) rfl hf)) rfl rfl ?_
    refine Z5 ?_
    refine .g (OpG.gT rfl rfl rfl rfl (fun hg => opIndexAddr (j := p - 1) FU.out FC.out rfl (.when (.t rfl) hg) (.when (.t rfl) hg) (by omega) hz)) rfl rfl ?_
    refine Z2 ?_
    refine .g (OpG.gT rfl rfl rfl rfl (fun hg => opCall (wbound_spec) FB.out (.cons (.when (.t rfl) hg) .nil))) rfl rfl ?_
    refine Z6 ?_
    refine .g (OpG.gT rfl rfl rfl rfl (fun hg => opIndexAddr (j := q) FU.out FC.out rfl (.when (.t rfl) hg) (.when (.t rfl) hg) rfl hf)) rfl rfl ?_
    refine Z4 ?_
    refine .g (OpG.gT rfl rfl rfl rfl (fun hg => opCall (wfirst_spec (n0 := p) (by omega) (by omega)) FB.out (.cons (.when (.t rfl) hg) (.cons (.when (.t rfl) hg) .nil)))) rfl rfl ?_
    refine Z3 ?_
    refine Cd (fun c12 => ?_) fun c12 => ?_
    ·
     refine Z5 ?_
     refine .p (cB encFd [(4, (q : Int), (p : Int))]) rfl ?_
     refine .n (opAppend (i := 0) FU.out FU.out FC.out rfl FZ.out rfl FY.out (.t rfl) (.t rfl) rfl (by simp only [List.length_cons, List.length_nil, List.length_append] at *; omega) (by simp only [List.length_cons, List.length_nil, List.length_append] at *; omega)) rfl fun g165 _ => ?_
     refine Z12 ?_
     refine .round (p + 1, g165) (by show p + 1 ≤ _; omega) (by show f.Body.L.length - (p + 1) < f.Body.L.length - p; omega) (by show _ = [sliceH g165 3 encFd (((((fU m ++ fI m) ++ fS m) ++ fB m) ++ fD m q) ++ (deadL f.Body.L (q : Int) (p) ++ ifL _ _))]; rw [ifL_yes _ (dead_law.2 ⟨hby, c11, by omega, by rw [hcz]; exact c12.1.2, c12.2⟩), ← List.append_assoc]; try rfl) ?_
     exact (.get rfl (VLe.int (by (show (p : Int) + 1 = ((p + 1 : Nat) : Int); omega))) (.get rfl (VLe.prop ⟨fun _ => std_on hby c11, fun _ => c11⟩) (.get rfl (VLe.of_eq (by show _ = exactV (sval g165 (((((fU m ++ fI m) ++ fS m) ++ fB m) ++ fD m q) ++ (deadL f.Body.L (q : Int) (p) ++ ifL _ _)).length); rw [ifL_yes _ (dead_law.2 ⟨hby, c11, by omega, by rw [hcz]; exact c12.1.2, c12.2⟩), ← List.append_assoc]; try rfl)) ((.keep 67 rfl rfl)))))
    refine Z11 ?_
    refine .round (p + 1, s6) (by show p + 1 ≤ _; omega) (by show f.Body.L.length - (p + 1) < f.Body.L.length - p; omega) (by show _ = [sliceH s6 3 encFd (((((fU m ++ fI m) ++ fS m) ++ fB m) ++ fD m q) ++ (deadL f.Body.L (q : Int) (p) ++ ifL _ _))]; rw [ifL_no _ (fun h => c12 (have h9 := dead_law.1 h; ⟨⟨by omega, hcz ▸ h9.2.2.2.1⟩, h9.2.2.2.2⟩)), List.append_nil]; try rfl) ?_
    exact (.get rfl (VLe.int (by (show (p : Int) + 1 = ((p + 1 : Nat) : Int); omega))) (.get rfl (VLe.prop ⟨fun _ => std_on hby c11, fun _ => c11⟩) (.get rfl (VLe.of_eq (by show _ = exactV (sval s6 (((((fU m ++ fI m) ++ fS m) ++ fB m) ++ fD m q) ++ (deadL f.Body.L (q : Int) (p) ++ ifL _ _)).length); rw [ifL_no _ (fun h => c12 (have h9 := dead_law.1 h; ⟨⟨by omega, hcz ▸ h9.2.2.2.1⟩, h9.2.2.2.2⟩)), List.append_nil]; try rfl)) ((.keep 60 rfl rfl)))))
   refine Z26 ?_
   refine .round (p + 1, s6) (by show p + 1 ≤ _; omega) (by show f.Body.L.length - (p + 1) < f.Body.L.length - p; omega) (by show _ = [sliceH s6 3 encFd (((((fU m ++ fI m) ++ fS m) ++ fB m) ++ fD m q) ++ (deadL f.Body.L (q : Int) (p) ++ ifL _ _))]; rw [ifL_no _ (dead_no c11), List.append_nil]; try rfl) ?_
   exact (.get rfl (VLe.int (by (show (p : Int) + 1 = ((p + 1 : Nat) : Int); omega))) (.get rfl (VLe.prop (by rw [← std_off hby c11, hcy]; exact Iff.rfl)) (.get rfl (VLe.of_eq (by show _ = exactV (sval s6 (((((fU m ++ fI m) ++ fS m) ++ fB m) ++ fD m q) ++ (deadL f.Body.L (q : Int) (p) ++ ifL _ _)).length); rw [ifL_no _ (dead_no c11), List.append_nil]; try rfl)) ((.keep 46 rfl rfl)))))
  have hpe : p = f.Body.L.length := by omega
  subst hpe
  refine Z11 ?_
  refine .round (q + 1, s6) (by show q + 1 ≤ _; omega) (by show m.Funcs.length - (q + 1) < m.Funcs.length - q; omega) (by subst hfa; rw [List.append_assoc]; try rfl) ?_
  exact (.get rfl (VLe.int (by (show (q : Int) + 1 = ((q + 1 : Nat) : Int); omega))) (.get rfl (VLe.of_eq (by subst hfa; rw [List.append_assoc]; try rfl)) ((.keep 25 rfl rfl))))
 have hqe : q = m.Funcs.length := by omega
 subst hqe
 refine Z12 ?_
 refine .loopO (σ := Nat × SB) (fun s => [sliceH s.2 3 encFd (((((fU m ++ fI m) ++ fS m) ++ fB m) ++ fD m m.Funcs.length) ++ fL m s.1)]) (fun s => [(12, iV (s.1 : Int)), (3, exactV (sval s.2 (((((fU m ++ fI m) ++ fS m) ++ fB m) ++ fD m m.Funcs.length) ++ fL m s.1).length))]) (fun s => s.1 ≤ m.Funcs.length) (fun s => m.Funcs.length - s.1) (0, s5) (Nat.zero_le _) (by show _ = [sliceH s5 3 encFd (((((fU m ++ fI m) ++ fS m) ++ fB m) ++ fD m m.Funcs.length) ++ [])]; rw [List.append_nil]; try rfl) ?_ ?_
 · exact (.get rfl (VLe.refl _) (.get rfl (VLe.of_eq (by show _ = exactV (sval s5 (((((fU m ++ fI m) ++ fS m) ++ fB m) ++ fD m m.Funcs.length) ++ []).length); rw [List.append_nil]; try rfl)) (.refl _ _)))
 rintro ⟨q, s7⟩ hq
 simp only at hq ⊢
 refine Z10 ?_
 refine Cd (fun c13 => ?_) fun c13 => ?_
 ·
  obtain ⟨f, hf⟩ := getElem?_lt (xs := m.Funcs) (k := q) (by omega)
  have hfa := fnAt_eq hf
  have hfm := List.mem_of_getElem? hf
  have hll := hp0.len f hfm
  have hlo := hp0.loc f hfm
  have hsg := sigAt_mem (func_sig hp1.1 hfm)
  have hfin := func_sig hp1.1 hfm
  unfold InP at hfin
  have hP := (hp1.1.few _ hsg.2).1
  have hdl := fD_len hp0 q
  have hfl := fL_len hp0 q
  have hda := fD_len hp0 m.Funcs.length
  refine Z5 ?_
  refine .drawK 8 5 FM.out (by kernel_rfl) (k := ?_)
  refine Z5 ?_
  refine .p (cI q (h := hf)) ?_
  refine Z3 ?_
  refine .p (cI f.Sig.toNat (h := hsg.1)) rfl ?_
  refine Z12 ?_
  refine .loopO (σ := Nat × SB) (fun s => [sliceH s.2 3 encFd ((((((fU m ++ fI m) ++ fS m) ++ fB m) ++ fD m m.Funcs.length) ++ fL m q) ++ locL f.Body.L (q : Int) (sigAt m f.Sig).P.length (s.1))]) (fun s => [(14, iV (s.1 : Int)), (3, exactV (sval s.2 ((((((fU m ++ fI m) ++ fS m) ++ fB m) ++ fD m m.Funcs.length) ++ fL m q) ++ locL f.Body.L (q : Int) (sigAt m f.Sig).P.length (s.1)).length))]) (fun s => s.1 ≤ f.Body.Locals.length) (fun s => f.Body.Locals.length - s.1) (0, s7) (Nat.zero_le _) (by show _ = [sliceH s7 3 encFd ((((((fU m ++ fI m) ++ fS m) ++ fB m) ++ fD m m.Funcs.length) ++ fL m q) ++ [])]; rw [List.append_nil]; try rfl) ?_ ?_
  · exact (.get rfl (VLe.refl _) (.get rfl (VLe.of_eq (by show _ = exactV (sval s7 ((((((fU m ++ fI m) ++ fS m) ++ fB m) ++ fD m m.Funcs.length) ++ fL m q) ++ []).length); rw [List.append_nil]; try rfl)) (.refl _ _)))
  rintro ⟨v, s8⟩ hv
  simp only at hv ⊢
  refine Z7 ?_
  refine .p (cI q (h := hf)) rfl ?_
  refine Z7 ?_
  refine Cd (fun c14 => ?_) fun c14 => ?_
  ·
   have hel := locL_len (l := f.Body.L) (f := (q : Int)) (n0 := (sigAt m f.Sig).P.length) (n := v)
   refine Z16 ?_
   refine .loopO (σ := Nat) (fun _ => [sliceH s8 3 encFd ((((((fU m ++ fI m) ++ fS m) ++ fB m) ++ fD m m.Funcs.length) ++ fL m q) ++ locL f.Body.L (q : Int) (sigAt m f.Sig).P.length (v))]) (fun u => [(16, iV (u : Int)), (15, propV (locP (f.Body.L.take u) (((sigAt m f.Sig).P.length : Int) + (v : Int))))]) (fun u => u ≤ f.Body.L.length) (fun u => f.Body.L.length - u) 0 (Nat.zero_le _) rfl ?_ ?_
   · exact (.get rfl (VLe.refl _) (.get rfl (VLe.prop ⟨fun h => h.elim, fun ⟨x, hx, _⟩ => (by simp at hx)⟩) (.refl _ _)))
   rintro u hu
   refine Z7 ?_
   refine .p (cI q (h := hf)) rfl ?_
   refine Z7 ?_
   refine Cd (fun c15 => ?_) fun c15 => ?_
   ·
    obtain ⟨y, hy⟩ := getElem?_lt (xs := f.Body.L) (k := u) (by omega)
    refine Z9 ?_
    refine .p (cI q (h := hf)) rfl ?_
    refine Z4 ?_
    refine .p (cI u (h := hy)) rfl ?_
    refine Z1 ?_
    refine .n (opAlloc FZ.out) rfl fun b17 _ => ?_
    refine Z33 ?_
    refine .own (OLe.sel [1] [0] rfl rfl) (EndT.round (u + 1) (by omega) (by omega) rfl ?_)
    exact (.get rfl (VLe.int (by (show (u : Int) + 1 = ((u + 1 : Nat) : Int); omega))) (.get rfl (VLe.prop (locP_snoc hy (ins_rng hp0 hf (List.mem_of_getElem? hy)).1 (by omega))) ((.keep 47 rfl rfl))))
   have hue : u = f.Body.L.length := by omega
   subst hue
   rw [List.take_length]
   refine Z11 ?_
   refine Cd (fun c16 => ?_) fun c16 => ?_
   ·
    refine Z7 ?_
    refine .p (cB encFd [(5, (q : Int), ((sigAt m f.Sig).P.length : Int) + (v : Int))]) rfl ?_
    refine .n (opAppend (i := 0) FU.out FU.out FC.out rfl FZ.out rfl FY.out (.t rfl) (.t rfl) rfl (by simp only [List.length_cons, List.length_nil, List.length_append] at *; omega) (by simp only [List.length_cons, List.length_nil, List.length_append] at *; omega)) rfl fun g262 _ => ?_
    refine Z9 ?_
    refine .round (v + 1, g262) (by show v + 1 ≤ _; omega) (by show f.Body.Locals.length - (v + 1) < f.Body.Locals.length - v; omega) (by show _ = [sliceH g262 3 encFd ((((((fU m ++ fI m) ++ fS m) ++ fB m) ++ fD m m.Funcs.length) ++ fL m q) ++ (locL f.Body.L (q : Int) (sigAt m f.Sig).P.length (v) ++ ifL _ _))]; rw [ifL_yes _ (fun h => c16 h), ← List.append_assoc]; try rfl) ?_
    exact (.get rfl (VLe.int (by (show (v : Int) + 1 = ((v + 1 : Nat) : Int); omega))) ((.get rfl (VLe.of_eq (by show _ = exactV (sval g262 ((((((fU m ++ fI m) ++ fS m) ++ fB m) ++ fD m m.Funcs.length) ++ fL m q) ++ (locL f.Body.L (q : Int) (sigAt m f.Sig).P.length (v) ++ ifL _ _)).length); rw [ifL_yes _ (fun h => c16 h), ← List.append_assoc]; try rfl)) ((.keep 40 rfl rfl)))))
   refine Z8 ?_
   refine .round (v + 1, s8) (by show v + 1 ≤ _; omega) (by show f.Body.Locals.length - (v + 1) < f.Body.Locals.length - v; omega) (by show _ = [sliceH s8 3 encFd ((((((fU m ++ fI m) ++ fS m) ++ fB m) ++ fD m m.Funcs.length) ++ fL m q) ++ (locL f.Body.L (q : Int) (sigAt m f.Sig).P.length (v) ++ ifL _ _))]; rw [ifL_no _ (fun h => c16 (fun e => h e)), List.append_nil]; try rfl) ?_
   exact (.get rfl (VLe.int (by (show (v : Int) + 1 = ((v + 1 : Nat) : Int); omega))) ((.get rfl (VLe.of_eq (by show _ = exactV (sval s8 ((((((fU m ++ fI m) ++ fS m) ++ fB m) ++ fD m m.Funcs.length) ++ fL m q) ++ (locL f.Body.L (q : Int) (sigAt m f.Sig).P.length (v) ++ ifL _ _)).length); rw [ifL_no _ (fun h => c16 (fun e => h e)), List.append_nil]; try rfl)) ((.keep 31 rfl rfl)))))
  have hve : v = f.Body.Locals.length := by omega
  subst hve
  refine Z11 ?_
  refine .round (q + 1, s8) (by show q + 1 ≤ _; omega) (by show m.Funcs.length - (q + 1) < m.Funcs.length - q; omega) (by subst hfa; rw [List.append_assoc]; try rfl) ?_
  exact (.get rfl (VLe.int (by (show (q : Int) + 1 = ((q + 1 : Nat) : Int); omega))) (.get rfl (VLe.of_eq (by subst hfa; rw [List.append_assoc]; try rfl)) ((.keep 36 rfl rfl))))
 have hqe : q = m.Funcs.length := by omega
 subst hqe
 refine .shareS (t := 3) (i := 0) rfl rfl ?_
 refine Z12 ?_
 refine Rt1 ?_
 exact VLe.refl _
theorem rdigits_spec {a : Nat} (hp0 : a < 18446744073709551616) : FnP Tryz.prog 14 [intV .u64 (a : Int), intV .u64 10] (strV (Lib.decDigits a)) := by
 refine In 26 Tryz.func14 fun _ _ _ => ?_
 refine Z2 ?_
 refine .p (opAssign (.s [] rfl rfl)) rfl ?_
 refine Z4 ?_
 refine .p (opAssign (.s [] rfl rfl)) rfl ?_
 refine Z4 ?_
 refine .loopO (σ := Nat × List UInt8) (fun _ => []) (fun g => [(0, intV .u64 (g.1 : Int)), (5, strV g.2)]) (fun g => DigI a g.1 g.2) (fun g => g.1 + (if g.2 = [] then 1 else 0)) (a, []) (.inl ⟨rfl, rfl⟩) rfl ?_ ?_
 · exact (.get rfl (VLe.refl _) (.get rfl (VLe.refl _) (.refl _ _)))
 rintro ⟨x, s⟩ hd
 simp only at hd ⊢
 have hdn : s.length ≤ 20 ∧ x < 18446744073709551616 := by (rcases hd.len hp0 with h | h <;> omega)
 refine Z4 ?_
 refine .p (opEqlS (.t rfl) (.s [] rfl rfl)) rfl ?_
 refine Z6 ?_
 refine Cd (fun c0 => ?_) fun c0 => ?_
 ·
  have hcx : s = [] ∨ 0 < x := by (rcases c0 with h | h; exact .inl h; exact .inr (by omega))
  refine Z4 ?_
  refine .drawK 9 2 FM.out (by kernel_rfl) (k := ?_)
  refine Z2 ?_
  refine .p (opRem (.t rfl) (.t rfl) (by omega) (by omega)) ?_
  refine Z2 ?_
  refine .p (opRem (.t rfl) (.t rfl) (by omega) (by omega)) ?_
  refine Z1 ?_
  refine .p ((opSliceSLH (a := x % 10) (h := x % 10 + 1) FU.out (.s [48, 49, 50, 51, 52, 53, 54, 55, 56, 57, 97, 98, 99, 100, 101, 102] rfl rfl) (.t rfl) (.t rfl) (by omega) (by omega) (by omega) (by simp only [List.length_cons, List.length_nil]; omega)).le (VLe.of_eq (congrArg strV (hex_digit (Nat.mod_lt x (by decide)))))) ?_
  refine Z2 ?_
  refine .p (opCat (.t rfl) (.t rfl) (by (simp only [List.length_cons, List.length_nil]; omega))) rfl ?_
  refine Z6 ?_
  refine .p (opQuo (.t rfl) (.t rfl) (by omega) (by omega) fits_z) rfl ?_
  refine Z3 ?_
  refine .round (x / 10, [UInt8.ofNat (48 + x % 10)] ++ s) (hd.next hcx) (by (show x / 10 + (if [UInt8.ofNat (48 + x % 10)] ++ s = [] then 1 else 0) < x + (if s = [] then 1 else 0); rw [if_neg (by simp)]; rcases hcx with h | h; (rw [if_pos h]; omega); (split <;> omega))) rfl ?_
  exact (.get rfl (VLe.int (show ((x : Int) / 10 = ((x / 10 : Nat) : Int)) by omega)) (.get rfl (VLe.refl _) ((.keep 23 rfl rfl))))
 have hcx : ¬ (s = [] ∨ 0 < x) := fun h => c0 (by rcases h with h | h; exact .inl h; exact .inr (by omega))
 have hdd := hd.done hcx
 refine Z12 ?_
 refine Rt1 ?_
 exact VLe.of_eq (congrArg strV hdd)
theorem great17_spec {x : ModD} : FnP Tryz.prog 5 [aggV (encMod x)] (intV .i64 (greatM x + max ((x.Funcs.length : Int) - 12) 0 + max ((x.Datas.length : Int) - 4) 0)) := by
 refine In 17 Tryz.func5 fun _ _ _ => ?_
 refine .fact (t := 0) rfl (fun S w v h => modLens3 h) fun hlen => ?_
 have hall := hlen
 obtain ⟨⟨hl0, hl1, hl2, hl3, hl4, hl5, hl6, hl7⟩, ⟨hi0, hi1, hi2, hi3, hi4⟩, hi5⟩ := hlen
 have hgb := greatM_bnd (greatB_of hall)
 refine Z7 ?_
 refine .drawK 13 2 FM.out (by kernel_rfl) (k := ?_)
 refine Z1 ?_
 refine .p (cA (h := great_spec)) ?_
 refine Z17 ?_
 refine Rt1 ?_
 exact VLe.refl _
theorem LintFinds0_spec {x : ModD} (hp0 : ∀ f ∈ x.Funcs, ∀ y ∈ f.Body.L, InsW y) : FnE Tryz.prog 3 [aggV (encMod x)] [powH Tryz.prog 0] (γ := Unit) (fun _ => True) (fun _ => []) (fun _ => propV True) := by
 refine In 140 Tryz.func3 fun _ _ _ => ?_
 refine .fact (t := 0) rfl (fun S w v h => modLens3 h) fun hlen => ?_
 have hall := hlen
 obtain ⟨⟨hl0, hl1, hl2, hl3, hl4, hl5, hl6, hl7⟩, ⟨hi0, hi1, hi2, hi3, hi4⟩, hi5⟩ := hlen
 have hgm := greatM_bnd (greatB_of hall)
 refine Z10 ?_
 refine .p (cA (h := great17_spec)) rfl ?_
 refine Z2 ?_
 refine .g (OpG.gF rfl rfl rfl rfl (fun hg => opCall (awake29_spec) FB.out .nil)) rfl rfl ?_
 refine Z4 ?_
 refine Cd (fun c0 => ?_) fun c0 => ?_
 ·
  refine Z2 ?_
  refine .p (cA (h := awake29_spec)) rfl ?_
  refine Z5 ?_
  refine Rt1 ?_
  exact VLe.refl _
 obtain ⟨hsm, hmo, hfl⟩ := small17 hall hp0 (by omega)
 refine Z3 ?_
 by_cases hv : ValidD x
 ·
  refine Z2 ?_
  refine .p (cA (h := l13to_spec hsm)) rfl ?_
  refine .p (cA (h := lmodule_spec hmo hfl hv)) rfl ?_
  refine Z9 ?_
  refine .p (cA (h := lmoduleNil_spec)) rfl ?_
  refine Z11 ?_
  refine .n (cE (h := dvalid_spec hmo hfl)) rfl fun g31 h31 => ?_
  refine Z3 ?_
  refine Cd (fun c1 => ?_) fun c1 => ?_
  · exact absurd (h31.2.2 hv) (by omega)
  refine Z3 ?_
  have hfo := find_ok hv hmo
  have hfln := find_len hv hmo
  refine Z2 ?_
  refine .p (cA (h := wfind_spec hmo hv)) rfl ?_
  refine Z6 ?_
  refine .p (cD 0 (h := lklines_spec (fun y hy => fdOk_of (hfo y hy)) (by omega))) rfl ?_
  refine Z24 ?_
  refine Cd (fun c2 => ?_) fun c2 => ?_
  · exact absurd c2 (by simp)
  refine Z9 ?_
  refine .loopO (σ := Nat) (fun _ => [powH Tryz.prog 0]) (fun i => [(9, iV (i : Int))]) (fun i => i ≤ (findM x).length) (fun i => (findM x).length - i) 0 (Nat.zero_le _) rfl ?_ ?_
  · exact (.get rfl (VLe.refl _) (.refl _ _))
  rintro i hi
  refine Z9 ?_
  refine Cd (fun c3 => ?_) fun c3 => ?_
  ·
   obtain ⟨y, hy⟩ := getElem?_lt (xs := findM x) (k := i) (by omega)
   have hyo := hfo y (List.mem_of_getElem? hy)
   have hline : ((findM x).map lineF)[i]? = some (lineF y) := by rw [List.getElem?_map, hy]; rfl
   have hle := line_eq (hfo y (List.mem_of_getElem? hy))
   have hn1 := kindN_len y.1
   have hn2 := dec_len 19 y.2.1.toNat (by omega)
   have hn3 := dec_len 19 y.2.2.toNat (by omega)
   refine Z16 ?_
   refine .loopO (σ := Nat) (fun _ => [powH Tryz.prog 0]) (fun k => [(10, iV (cntK ((findM x).take k) y.1 : Int)), (11, iV (k : Int))]) (fun k => k ≤ (findM x).length) (fun k => (findM x).length - k) 0 (Nat.zero_le _) rfl ?_ ?_
   · exact (.get rfl (VLe.int (by simp [cntK])) (.get rfl (VLe.refl _) (.refl _ _)))
   rintro k hk
   have hcl := cntK_le ((findM x).take k) y.1
   rw [List.length_take] at hcl
   refine Z9 ?_
   refine Cd (fun c4 => ?_) fun c4 => ?_
   ·
    obtain ⟨z, hz⟩ := getElem?_lt (xs := findM x) (k := k) (by omega)
    refine Z5 ?_
    refine .drawK 10 1 FM.out (by kernel_rfl) (k := ?_)
    refine Z2 ?_
    refine .p (cI k (h := hz)) ?_
    refine Z4 ?_
    refine .p (cI i (h := hy)) ?_
    refine Z6 ?_
    refine Cd (fun c5 => ?_) fun c5 => ?_
    ·
     refine Z12 ?_
     refine .round (k + 1) (by omega) (by omega) rfl ?_
     exact (.get rfl (VLe.int (by rw [← take_snoc hz, cntK_snoc, if_pos c5]; omega)) (.get rfl (VLe.int (by (show (k : Int) + 1 = ((k + 1 : Nat) : Int); omega))) ((.keep 23 rfl rfl))))
    refine Z8 ?_
    refine .round (k + 1) (by omega) (by omega) rfl ?_
    exact (.get rfl (VLe.int (by rw [← take_snoc hz, cntK_snoc, if_neg c5])) (.get rfl (VLe.int (by (show (k : Int) + 1 = ((k + 1 : Nat) : Int); omega))) ((.keep 20 rfl rfl))))
   have hke : k = (findM x).length := by omega
   subst hke
   rw [List.take_length]
   refine Z6 ?_
   refine .drawK 49 2 FM.out (by kernel_rfl) (k := ?_)
   refine Z2 ?_
   refine .p (cI i (h := hy)) ?_
   refine .p (OpP.le (opLoadA FA.out FC.out rfl (.t rfl) rfl) (VLe.refl (aggV (encFd y)))) ?_
   refine Z2 ?_
   refine .p (cI i (h := hy)) ?_
   refine .p (OpP.le (opLoadA FA.out FC.out rfl (.t rfl) rfl) (VLe.refl (aggV (encFd y)))) ?_
   refine .p (opNeqA Tryz.underlying44 Tryz.sh44 Tryz.eg44 (.t rfl) (.t rfl) (.cons (by decide) rfl rfl (.int FU.out) (.cons (by decide) rfl rfl (.int FU.out) (.cons (by decide) rfl rfl (.int FU.out) .nil)))) ?_
   refine Z4 ?_
   refine .cons (OpG.gF rfl rfl rfl rfl (fun hg => opIndexAddr (j := i) FU.out FC.out rfl (.when (.t rfl) hg) (.when (.t rfl) hg) rfl hy)) ?_
   refine Z2 ?_
   refine .cons (OpG.gF rfl rfl rfl rfl (fun hg => opCall (lkcount_spec (by omega)) FB.out (.cons (.when (.t rfl) hg) (.cons (.when (.t rfl) hg) .nil)))) ?_
   refine Z6 ?_
   refine .cons (OpG.gF rfl rfl rfl rfl (fun hg => opIndexAddr (j := i) FU.out FC.out rfl (.when (.t rfl) hg) (.when (.t rfl) hg) rfl hline)) ?_
   refine Z3 ?_
   refine .cons (OpG.gF rfl rfl rfl rfl (fun hg => opIndexAddr (j := i) FU.out FC.out rfl (.when (.t rfl) hg) (.when (.t rfl) hg) rfl hy)) ?_
   refine Z2 ?_
   refine .cons (OpG.gF rfl rfl rfl rfl (fun hg => opCall (lkname_spec (kind := y.1)) FB.out (.cons (.when (.t rfl) hg) .nil))) ?_
   refine .cons (OpG.gF rfl rfl rfl rfl (fun hg => opCat (.when (.t rfl) hg) (.s [32] rfl rfl) (by (simp only [List.length_append, List.length_cons, List.length_nil]; omega)))) ?_
   refine Z2 ?_
   refine .cons (OpG.gF rfl rfl rfl rfl (fun hg => opIndexAddr (j := i) FU.out FC.out rfl (.when (.t rfl) hg) (.when (.t rfl) hg) rfl hy)) ?_
   refine Z2 ?_
   refine .cons (OpG.gF rfl rfl rfl rfl (fun hg => (opConvF FU.out FU.out (.when (.t rfl) hg) fits_z).le (VLe.int (show _ = ((y.2.1.toNat : Nat) : Int) by omega)))) ?_
   refine .cons (OpG.gF rfl rfl rfl rfl (fun hg => opCall (rdigits_spec (a := y.2.1.toNat) (by omega)) FB.out (.cons (.when (.t rfl) hg) (.cons (.c _) .nil)))) ?_
   refine .cons (OpG.gF rfl rfl rfl rfl (fun hg => opCat (.when (.t rfl) hg) (.when (.t rfl) hg) (by (simp only [List.length_append, List.length_cons, List.length_nil]; omega)))) ?_
   refine .cons (OpG.gF rfl rfl rfl rfl (fun hg => opCat (.when (.t rfl) hg) (.s [32] rfl rfl) (by (simp only [List.length_append, List.length_cons, List.length_nil]; omega)))) ?_
   refine Z2 ?_
   refine .cons (OpG.gF rfl rfl rfl rfl (fun hg => opIndexAddr (j := i) FU.out FC.out rfl (.when (.t rfl) hg) (.when (.t rfl) hg) rfl hy)) ?_
   refine Z2 ?_
   refine .cons (OpG.gF rfl rfl rfl rfl (fun hg => (opConvF FU.out FU.out (.when (.t rfl) hg) fits_z).le (VLe.int (show _ = ((y.2.2.toNat : Nat) : Int) by omega)))) ?_
   refine .cons (OpG.gF rfl rfl rfl rfl (fun hg => opCall (rdigits_spec (a := y.2.2.toNat) (by omega)) FB.out (.cons (.when (.t rfl) hg) (.cons (.c _) .nil)))) ?_
   refine .cons (OpG.gF rfl rfl rfl rfl (fun hg => opCat (.when (.t rfl) hg) (.when (.t rfl) hg) (by (simp only [List.length_append, List.length_cons, List.length_nil]; omega)))) ?_
   refine Z5 ?_
   refine Cd (fun c6 => ?_) fun c6 => ?_
   · exact absurd c6 (by simp [hle])
   refine Z8 ?_
   refine .round (i + 1) (by omega) (by omega) rfl ?_
   exact (.get rfl (VLe.int (by (show (i : Int) + 1 = ((i + 1 : Nat) : Int); omega))) ((.keep 67 rfl rfl)))
  refine Z11 ?_
  refine Rt1 ?_
  first | exact VLe.refl _ | exact VLe.int (by omega) | exact VLe.prop (by omega) | exact VLe.prop (by simp_all) | exact VLe.prop (by simp; omega)
 refine Z2 ?_
 refine .p (cA (h := l13to_spec hsm)) rfl ?_
 refine .p (cA (h := lmoduleN_spec hmo hfl hv)) rfl ?_
 refine Z9 ?_
 refine .p (cA (h := lmoduleNil_spec)) rfl ?_
 refine Z11 ?_
 refine .n (cE (h := dvalid_spec hmo hfl)) rfl fun g31 h31 => ?_
 refine Z3 ?_
 refine Cd (fun c1 => ?_) fun c1 => ?_
 ·
  refine Z18 ?_
  refine Rt1 ?_
  exact VLe.prop (by simp)
 exact (hv (h31.2.1 (by omega))).elim
end Go.Proofs.YtpahnbgfmhcndaaGreatDoor
end
section
namespace Go.Hl
open Go.RowKit
theorem VP.ext' {a b : VP} (h : ∀ S w v, a.p S w v ↔ b.p S w v) : a = b := by
 cases a; cases b
 congr
 funext S w v
 exact propext (h S w v)
theorem sliceV_map {α β : Type} {n : Nat} {enc : β → List VP} {f : α → β} {l : List α} : sliceV n (fun a => enc (f a)) l = sliceV n enc (l.map f) := by
 refine VP.ext' fun S w v => ⟨fun ⟨a, cap, h1, h2, h3, h4⟩ => ⟨a, cap, by rw [List.length_map]; exact h1, by rw [List.length_map]; exact h2, by rw [List.length_map]; exact h3, ?_⟩, fun ⟨a, cap, h1, h2, h3, h4⟩ => ⟨a, cap, by rw [List.length_map] at h1; exact h1, by rw [List.length_map] at h2; exact h2, by rw [List.length_map] at h3; exact h3, ?_⟩⟩
 · cases a with
   | none => exact h4
   | some ad =>
    intro h0
    obtain ⟨k1, k2, k3⟩ := h4 h0
    refine ⟨k1, k2, fun i x hx => ?_⟩
    rw [List.getElem?_map] at hx
    obtain ⟨y, hy, rfl⟩ := Option.map_eq_some_iff.1 hx
    exact k3 i y hy
 · cases a with
   | none => exact h4
   | some ad =>
    intro h0
    obtain ⟨k1, k2, k3⟩ := h4 h0
    exact ⟨k1, k2, fun i x hx => k3 i (f x) (by rw [List.getElem?_map, hx]; rfl)⟩
abbrev encU64W (n : IntOf .u64) : List VP := encU64 n.1
abbrev IWm := { x : InstrD // InsW x }
theorem u64_in (a : IntOf .u64) : 0 ≤ a.1 ∧ a.1 < 18446744073709551616 := by
 have h := a.2
 have e1 : IntKind.u64.min = 0 := by decide
 have e2 : IntKind.u64.max = 18446744073709551615 := by decide
 simp [Lit.wf] at h
 omega
def mkIWm (c : Int) (a b : IntOf .u64) (al : Int) (l : List (IntOf .u64)) : IWm := ⟨⟨c, a.1, b.1, al, l.map (·.1)⟩, u64_in a, u64_in b, fun n hn => by
 obtain ⟨y, _, rfl⟩ := List.mem_map.1 hn; exact (u64_in y).1⟩
abbrev encIWm (x : IWm) : List VP := encInstr x.1
instance : Enc 5 encIWm := ⟨fun x => (inferInstance : Enc 5 encInstr).len x.1, fun x q h => (inferInstance : Enc 5 encInstr).flat x.1 q h⟩
abbrev BodyW := { b : BodyD // ∀ y ∈ b.L, InsW y }
def mkBodyW (t : List UInt8) (l : List IWm) : BodyW := ⟨⟨t, l.map (·.1)⟩, fun y hy => by
 obtain ⟨z, _, rfl⟩ := List.mem_map.1 hy; exact z.2⟩
abbrev encBodyW (b : BodyW) : List VP := encBody b.1
instance : Enc 2 encBodyW := ⟨fun x => (inferInstance : Enc 2 encBody).len x.1, fun x q h => (inferInstance : Enc 2 encBody).flat x.1 q h⟩
abbrev FuncW := { f : FuncD // ∀ y ∈ f.Body.L, InsW y }
def mkFuncW (s : Int) (b : BodyW) : FuncW := ⟨⟨s, b.1⟩, b.2⟩
abbrev encFuncW (f : FuncW) : List VP := encFunc f.1
instance : Enc 3 encFuncW := ⟨fun x => (inferInstance : Enc 3 encFunc).len x.1, fun x q h => (inferInstance : Enc 3 encFunc).flat x.1 q h⟩
abbrev ModW := { m : ModD // ∀ f ∈ m.Funcs, ∀ y ∈ f.Body.L, InsW y }
def mkModW (a : List SigD) (b : List ImportD) (c : List FuncW) (d : Int) (e : List LimitsD) (f : List GlobalD) (g : List ExportD) (h : Int) (i : List ElemD) (j : List DataD) : ModW := ⟨⟨a, b, c.map (·.1), d, e, f, g, h, i, j⟩, fun f hf => by
 obtain ⟨z, _, rfl⟩ := List.mem_map.1 hf; exact z.2⟩
abbrev encModW (m : ModW) : List VP := encMod m.1
theorem mkIWm_enc (c : Int) (a b : IntOf .u64) (al : Int) (l : List (IntOf .u64)) : [intV .i64 c, intV .u64 a.1, intV .u64 b.1, intV .i64 al, sliceV 1 encU64W l] = encIWm (mkIWm c a b al l) := by
 rw [show sliceV 1 encU64W l = sliceV 1 encU64 (l.map (·.1)) from sliceV_map (enc := encU64) (f := Subtype.val)]; rfl
theorem mkBodyW_enc (t : List UInt8) (l : List IWm) : [sliceV 1 encU8 t, sliceV 5 encIWm l] = encBodyW (mkBodyW t l) := by
 rw [show sliceV 5 encIWm l = sliceV 5 encInstr (l.map (·.1)) from sliceV_map (enc := encInstr) (f := Subtype.val)]; rfl
theorem mkModW_enc (a : List SigD) (b : List ImportD) (c : List FuncW) (d : Int) (e : List LimitsD) (f : List GlobalD) (g : List ExportD) (h : Int) (i : List ElemD) (j : List DataD) :
    [sliceV 2 encSig a, sliceV 3 encImport b, sliceV 3 encFuncW c, intV .i64 d, sliceV 3 encLimits e, sliceV 3 encGlobal f, sliceV 3 encExport g, intV .i64 h, sliceV 2 encElem i, sliceV 3 encData j] = encModW (mkModW a b c d e f g h i j) := by
  rw [show sliceV 3 encFuncW c = sliceV 3 encFunc (c.map (·.1)) from sliceV_map (enc := encFunc) (f := Subtype.val)]; rfl
end Go.Hl
end
