/-
  Walks, printed by a program (gen.py) out of what its author says of each function.
-/
import Derived.Test.YtgmpadhfgohodaaDoorP23C
import Derived.Test.YtgmpadhfgohodaaDoorO10W
import Derived.Test.YtgmpadhfgohodaaDoorW05W
namespace Go.Proofs.YtgmpadhfgohodaaDoor
open Go.Hl Go.RowKit
set_option linter.unusedVariables false
set_option maxRecDepth 100000

theorem growI_spec {n : Nat} (hp0 : n ≤ 65536) : FnE Tryd.prog 57 [exactV (.slice none 0 0), iV (n : Int)] [] (γ := SB) (fun _ => True) (fun g => [sliceH g 5 encInstr ([] : List InstrD)]) (fun g => exactV (sval g 0)) := by
  refine FnE.intro 27 Tryd.func57 rfl rfl rfl fun w0 S0 M => ?_
  refine CodeT.seq ?_
  refine CodeT.region (.p (opAssign (.c _)) rfl <| .nil ?_)
  refine EndT.thenN ?_
  refine CodeT.seq ?_
  refine CodeT.seq ?_
  refine CodeT.region (.p (opMove (.t rfl)) rfl <| .p (opLss (.t rfl) (.c _)) rfl <| .nil ?_)
  refine EndT.thenN ?_
  refine CodeT.cond (.t rfl) (fun c0 => ?_) (fun c0 => ?_)
  ·
    exfalso
    omega
  ·
    refine CodeT.skip (EndT.thenN ?_)
    refine CodeT.seq ?_
    refine CodeT.seq ?_
    refine CodeT.region (.p (opMove (.t rfl)) rfl <| .p (opMove (.t rfl)) rfl <| .p (opCapN rfl Tryd.underlying28 (.t rfl)) rfl <| .p (opMove (.t rfl)) rfl <| .p (opLen rfl Tryd.underlying28 (.le (.t rfl) (sliceV_nil 5 encInstr))) rfl <| .p (opSubF (.t rfl) (.t rfl) (fits_i64 (by simp <;> omega) (by simp <;> omega))) rfl <| .p ((opSubF (.t rfl) (.t rfl) (fits_i64 (by simp <;> omega) (by simp <;> omega))).le (VLe.int (show _ = (n : Int) by simp))) rfl <| .p (opAssign (.t rfl)) rfl <| .nil ?_)
    refine EndT.thenN ?_
    refine CodeT.seq ?_
    refine CodeT.region (.p (opMove (.t rfl)) rfl <| .p (opGtr (.t rfl) (.c _)) rfl <| .nil ?_)
    refine EndT.thenN ?_
    refine CodeT.cond (.t rfl) (fun c1 => ?_) (fun c1 => ?_)
    ·
      refine CodeT.region (.p (opMove (.t rfl)) rfl <| .p (opMove (.t rfl)) rfl <| .p (opCapN rfl Tryd.underlying28 (.t rfl)) rfl <| .p (opSliceNil0 Tryd.underlying28 Tryd.cz41 rfl (.t rfl) (.t rfl) rfl) rfl <| .p (opMove (.t rfl)) rfl <| .n (opAppendMk (α := InstrD) (N := 5) (enc := encInstr) Tryd.underlying28 Tryd.underlying3 Tryd.cz41 rfl Tryd.zb41 rfl Tryd.by41 (.t rfl) (.t rfl) rfl (by omega) (by omega) (by omega)) rfl <| fun g22 _ => .p (opMove (.t rfl)) rfl <| .p (opLen rfl Tryd.underlying28 (.le (.t rfl) (sliceV_nil 5 encInstr))) rfl <| .p (opSliceOwn0 Tryd.underlying28 Tryd.cz41 rfl (.t rfl) (.t rfl) rfl) rfl <| .p (opAssign (.t rfl)) rfl <| .nil ?_)
      refine EndT.thenN ?_
      refine CodeT.seq ?_
      refine CodeT.region (.p (opMove (.t rfl)) rfl <| .p (opAssign (.t rfl)) rfl <| .nil ?_)
      refine EndT.thenN ?_
      refine CodeT.ret (Post.retR1 rfl (some g22) (by trivial) (fun _ _ _ h => h) (.rt rfl) ?_)
      exact VLe.refl _
    ·
      have hn0 : n = 0 := by omega
      refine CodeT.ownNil (α := InstrD) 5 encInstr ?_
      refine CodeT.skip (EndT.thenN ?_)
      refine CodeT.seq ?_
      refine CodeT.region (.p (opMove (.t rfl)) rfl <| .p (opAssign (.t rfl)) rfl <| .nil ?_)
      refine EndT.thenN ?_
      refine CodeT.ret (Post.retR1 rfl (none) (by trivial) (fun _ _ _ h => h) (.rt rfl) ?_)
      exact VLe.refl _

theorem concatI_spec {ls : List (List InstrD)} (hp0 : ls.flatten.length ≤ 65536) : FnP Tryd.prog 37 [sliceV 1 encSl ls] (sliceV 5 encInstr (ls.flatten)) := by
  refine FnE.intro 36 Tryd.func37 rfl rfl rfl fun w0 S0 M => ?_
  refine CodeT.fact (t := 0) rfl (fun S w v h => sliceV_len h) fun hln => ?_
  refine CodeT.seq ?_
  refine CodeT.region (.p (opAssign (.c _)) rfl <| .nil ?_)
  refine EndT.thenN ?_
  refine CodeT.seq ?_
  refine CodeT.region (.p (opAssign (.c _)) rfl <| .nil ?_)
  refine EndT.thenN ?_
  refine CodeT.seq ?_
  refine CodeT.seq ?_
  refine CodeT.region (.p (opMove (.t rfl)) rfl <| .p (opLen rfl Tryd.underlying94 (.t rfl)) rfl <| .p (opMove (.c _)) rfl <| .nil ?_)
  refine EndT.thenN ?_
  refine CodeT.block ?_
  refine CodeT.loopO (σ := Nat) (fun _ => []) (fun k => [(11, iV (k : Int)), (3, iV ((ls.take k).flatten.length : Int))]) (fun k => k ≤ ls.length) (fun k => ls.length - k) 0 (Nat.zero_le _) rfl ?_ ?_
  · exact (.get rfl (VLe.refl _) (.get rfl (VLe.int (by simp)) (.refl _ _)))
  · rintro k hk
    refine CodeT.seq ?_
    refine CodeT.region (.p (opLss (.t rfl) (.t rfl)) rfl <| .nil ?_)
    refine EndT.thenN ?_
    refine CodeT.seq ?_
    refine CodeT.cond (.t rfl) (fun c0 => ?_) (fun c0 => ?_)
    ·
      obtain ⟨l, hx⟩ := getElem?_lt (xs := ls) (k := k) (by omega)
      have hfp := flat_part ls (k + 1)
      have hfl : (ls.take (k + 1)).flatten.length = (ls.take k).flatten.length + l.length := by rw [flat_snoc hx, List.length_append]
      refine CodeT.skip (EndT.thenN ?_)
      refine CodeT.seq ?_
      refine CodeT.block ?_
      refine CodeT.seq ?_
      refine CodeT.region (.p (opIndexAddr (j := k) Tryd.underlying94 Tryd.cz28 rfl (.t rfl) (.t rfl) rfl hx) rfl <| .p (opLoad Tryd.ag28 (.t rfl)) rfl <| .p (opAssign (.t rfl)) rfl <| .nil ?_)
      refine EndT.thenN ?_
      refine CodeT.seq ?_
      refine CodeT.region (.p (opMove (.t rfl)) rfl <| .p (opMove (.t rfl)) rfl <| .p (opLen rfl Tryd.underlying28 (.t rfl)) rfl <| .p (opAddF (.t rfl) (.t rfl) (fits_i64 (by omega) (by omega))) rfl <| .p (opAssign (.t rfl)) rfl <| .nil ?_)
      refine EndT.thenN ?_
      refine CodeT.seq ?_
      refine CodeT.region (.p (opMove (.t rfl)) rfl <| .p (opLss (.t rfl) (.c _)) rfl <| .nil ?_)
      refine EndT.thenN ?_
      refine CodeT.cond (.t rfl) (fun c1 => ?_) (fun c1 => ?_)
      ·
        exfalso
        omega
      ·
        refine CodeT.skip (EndT.blkN (EndT.thenN ?_))
        refine CodeT.region (.p (opAddF (.t rfl) (.c _) (fits_i64 (by omega) (by omega))) rfl <| .p (opMove (.t rfl)) rfl <| .nil ?_)
        refine EndT.round (k + 1) (by omega) (by omega) rfl ?_
        exact (.get rfl (VLe.int (by (show (k : Int) + 1 = ((k + 1 : Nat) : Int); omega))) (.get rfl (VLe.int (by omega)) ((.keep 15 rfl rfl))))
    ·
      have hkl : ls.take k = ls := List.take_of_length_le (by omega)
      rw [hkl]
      refine CodeT.exit (EndT.thenX (EndT.thenX (EndT.blkX (EndT.thenN ?_))))
      refine CodeT.seq ?_
      refine CodeT.region (.p (opMove (.t rfl)) rfl <| .n (opCallE (rest := []) (growI_spec hp0) Tryd.cb57 (.cons (.c _) (.cons (.t rfl) .nil)) (Perm.idx [] rfl rfl)) rfl <| fun g24 h24 => .p (opAssign (.t rfl)) rfl <| .nil ?_)
      refine EndT.thenN ?_
      refine CodeT.seq ?_
      refine CodeT.seq ?_
      refine CodeT.region (.p (opMove (.t rfl)) rfl <| .p (opLen rfl Tryd.underlying94 (.t rfl)) rfl <| .p (opMove (.c _)) rfl <| .nil ?_)
      refine EndT.thenN ?_
      refine CodeT.block ?_
      refine CodeT.loopO (σ := SB × Nat) (fun g => [sliceH g.1 5 encInstr (ls.take g.2).flatten]) (fun g => [(6, exactV (sval g.1 (ls.take g.2).flatten.length)), (27, iV (g.2 : Int))]) (fun g => g.2 ≤ ls.length) (fun g => ls.length - g.2) (g24, 0) (Nat.zero_le _) rfl ?_ ?_
      · exact (.get rfl (VLe.refl _) (.get rfl (VLe.refl _) (.refl _ _)))
      · rintro ⟨sb, j⟩ hj
        simp only at hj ⊢
        refine CodeT.seq ?_
        refine CodeT.region (.p (opLss (.t rfl) (.t rfl)) rfl <| .nil ?_)
        refine EndT.thenN ?_
        refine CodeT.seq ?_
        refine CodeT.cond (.t rfl) (fun c2 => ?_) (fun c2 => ?_)
        ·
          obtain ⟨m, hy⟩ := getElem?_lt (xs := ls) (k := j) (by omega)
          have hfq := flat_part ls (j + 1)
          have hfm : (ls.take (j + 1)).flatten.length = (ls.take j).flatten.length + m.length := by rw [flat_snoc hy, List.length_append]
          refine CodeT.skip (EndT.thenN ?_)
          refine CodeT.seq ?_
          refine CodeT.block ?_
          refine CodeT.seq ?_
          refine CodeT.region (.p (opIndexAddr (j := j) Tryd.underlying94 Tryd.cz28 rfl (.t rfl) (.t rfl) rfl hy) rfl <| .p (opLoad Tryd.ag28 (.t rfl)) rfl <| .p (opAssign (.t rfl)) rfl <| .nil ?_)
          refine EndT.thenN ?_
          refine CodeT.region (.p (opMove (.t rfl)) rfl <| .p (opMove (.t rfl)) rfl <| .n (opAppend (i := 0) (xs := (ls.take j).flatten) (ys := m) Tryd.underlying28 Tryd.underlying28 Tryd.cz41 rfl Tryd.zb41 rfl Tryd.by41 (.t rfl) (.t rfl) rfl (by omega) (by omega)) rfl <| fun g33 _ => .p (opAssign (.t rfl)) rfl <| .nil ?_)
          refine EndT.blkN (EndT.thenN ?_)
          refine CodeT.region (.p (opAddF (.t rfl) (.c _) (fits_i64 (by omega) (by omega))) rfl <| .p (opMove (.t rfl)) rfl <| .nil ?_)
          refine EndT.round (g33, j + 1) (by show j + 1 ≤ _; omega) (by (show ls.length - (j + 1) < ls.length - j; omega)) (by simp only [flat_snoc hy]; rfl) ?_
          exact (.get rfl (VLe.of_eq (by simp only [flat_snoc hy])) (.get rfl (VLe.int (by (show (j : Int) + 1 = ((j + 1 : Nat) : Int); omega))) ((.keep 12 rfl rfl))))
        ·
          have hjl : ls.take j = ls := List.take_of_length_le (by omega)
          rw [hjl]
          refine CodeT.shareS (t := 6) (i := 0) rfl rfl ?_
          refine CodeT.exit (EndT.thenX (EndT.thenX (EndT.blkX (EndT.thenN ?_))))
          refine CodeT.seq ?_
          refine CodeT.region (.p (opMove (.t rfl)) rfl <| .p (opAssign (.t rfl)) rfl <| .nil ?_)
          refine EndT.thenN ?_
          refine CodeT.ret (Post.retP rfl rfl ?_)
          exact VLe.refl _

theorem pcut_spec {l ins : List InstrD} {i n : Nat} (hp0 : i + n ≤ l.length) (hp1 : l.length + ins.length ≤ 65536) : FnP Tryd.prog 25 [sliceV 5 encInstr (l), iV (i : Int), iV (n : Int), sliceV 5 encInstr (ins)] (sliceV 5 encInstr (cutL l i n ins)) := by
  refine FnE.intro 20 Tryd.func25 rfl rfl rfl fun w0 S0 M => ?_
  refine CodeT.seq ?_
  refine CodeT.region (.p (opAssign (.c _)) rfl <| .nil ?_)
  refine EndT.thenN ?_
  refine CodeT.seq ?_
  refine CodeT.draw 9 3 Tryd.mixed (by kernel_rfl) (.p (opMove (.t rfl)) <| .p (opMove (.t rfl)) <| .p (opSliceHi (h := i) Tryd.underlying28 Tryd.cz41 rfl (.t rfl) (.t rfl) rfl (by omega)) <| .p (opMove (.t rfl)) <| .p (opMove (.t rfl)) <| .p (opMove (.t rfl)) <| .p (opMove (.t rfl)) <| .p (opAddF (.t rfl) (.t rfl) (fits_i64 (by omega) (by omega))) <| .p (opSliceLo (l := i + n) Tryd.underlying28 Tryd.cz41 rfl (.t rfl) (.t rfl) (by omega) (by omega)) <| .nil) (.p (opBuildSlice (enc := encSl) [l.take i, ins, l.drop (i + n)] Tryd.underlying94 Tryd.cz28 rfl Tryd.zb28 rfl (.cons (.t rfl) (.cons (.t rfl) (.cons (.t rfl) .nil))) rfl rfl rfl rfl rfl) rfl <| .p (opCall (concatI_spec (ls := [l.take i, ins, l.drop (i + n)]) (by simp <;> omega)) Tryd.cb37 (.cons (.t rfl) .nil)) rfl <| .p (opAssign (.t rfl)) rfl <| .nil ?_)
  refine EndT.thenN ?_
  refine CodeT.ret (Post.retP rfl rfl ?_)
  exact VLe.of_eq (by unfold cutL; simp)

theorem pconst_spec {x : InstrD} : FnP Tryd.prog 26 [aggV (encInstr x)] (propV (isC x)) := by
  refine FnE.intro 11 Tryd.func26 rfl rfl rfl fun w0 S0 M => ?_
  refine CodeT.seq ?_
  refine CodeT.region (.p (opBoxA (.t rfl)) rfl <| .p (opAssign .cf) rfl <| .nil ?_)
  refine EndT.thenN ?_
  refine CodeT.seq ?_
  refine CodeT.region (.p (opField Tryd.fd41_0 (.t rfl)) rfl <| .p (opLoad Tryd.ag3 (.t rfl)) rfl <| .p (opEql (.t rfl) (.c _)) rfl <| .p (opMove (.t rfl)) rfl <| .g (OpG.gF rfl rfl rfl rfl (fun hg => opField Tryd.fd41_0 (.t rfl))) rfl rfl <| .g (OpG.gF rfl rfl rfl rfl (fun hg => opLoad Tryd.ag3 (.when (.t rfl) hg))) rfl rfl <| .g (OpG.gF rfl rfl rfl rfl (fun hg => opEql (.when (.t rfl) hg) (.c _))) rfl rfl <| .p (opOr (.t rfl) (.t rfl)) rfl <| .p (opAssign (.t rfl)) rfl <| .nil ?_)
  refine EndT.thenN ?_
  refine CodeT.ret (Post.retP rfl rfl ?_)
  exact VLe.refl _

theorem pstops_spec {c : Int} : FnP Tryd.prog 29 [iV c] (propV (stopP c)) := by
  refine FnE.intro 17 Tryd.func29 rfl rfl rfl fun w0 S0 M => ?_
  refine CodeT.seq ?_
  refine CodeT.region (.p (opAssign .cf) rfl <| .nil ?_)
  refine EndT.thenN ?_
  refine CodeT.seq ?_
  refine CodeT.region (.p (opMove (.t rfl)) rfl <| .p (opEql (.t rfl) (.c _)) rfl <| .p (opMove (.t rfl)) rfl <| .g (OpG.gF rfl rfl rfl rfl (fun hg => opMove (.t rfl))) rfl rfl <| .g (OpG.gF rfl rfl rfl rfl (fun hg => opEql (.when (.t rfl) hg) (.c _))) rfl rfl <| .p (opOr (.t rfl) (.t rfl)) rfl <| .p (opMove (.t rfl)) rfl <| .g (OpG.gF rfl rfl rfl rfl (fun hg => opMove (.t rfl))) rfl rfl <| .g (OpG.gF rfl rfl rfl rfl (fun hg => opEql (.when (.t rfl) hg) (.c _))) rfl rfl <| .p (opOr (.t rfl) (.t rfl)) rfl <| .p (opMove (.t rfl)) rfl <| .g (OpG.gF rfl rfl rfl rfl (fun hg => opMove (.t rfl))) rfl rfl <| .g (OpG.gF rfl rfl rfl rfl (fun hg => opEql (.when (.t rfl) hg) (.c _))) rfl rfl <| .p (opOr (.t rfl) (.t rfl)) rfl <| .p (opAssign (.t rfl)) rfl <| .nil ?_)
  refine EndT.thenN ?_
  refine CodeT.ret (Post.retP rfl rfl ?_)
  exact VLe.refl _

theorem pbound_spec {c : Int} : FnP Tryd.prog 30 [iV c] (propV (boundP c)) := by
  refine FnE.intro 13 Tryd.func30 rfl rfl rfl fun w0 S0 M => ?_
  refine CodeT.seq ?_
  refine CodeT.region (.p (opAssign .cf) rfl <| .nil ?_)
  refine EndT.thenN ?_
  refine CodeT.seq ?_
  refine CodeT.region (.p (opMove (.t rfl)) rfl <| .p (opGeq (.t rfl) (.c _)) rfl <| .p (opMove (.t rfl)) rfl <| .g (OpG.gT rfl rfl rfl rfl (fun hg => opMove (.t rfl))) rfl rfl <| .g (OpG.gT rfl rfl rfl rfl (fun hg => opLeq (.when (.t rfl) hg) (.c _))) rfl rfl <| .p (opAnd (.t rfl) (.t rfl)) rfl <| .p (opMove (.t rfl)) rfl <| .g (OpG.gF rfl rfl rfl rfl (fun hg => opMove (.t rfl))) rfl rfl <| .g (OpG.gF rfl rfl rfl rfl (fun hg => opEql (.when (.t rfl) hg) (.c _))) rfl rfl <| .p (opOr (.t rfl) (.t rfl)) rfl <| .p (opAssign (.t rfl)) rfl <| .nil ?_)
  refine EndT.thenN ?_
  refine CodeT.ret (Post.retP rfl rfl ?_)
  exact VLe.refl _

theorem pof_spec {c : Int} {v : Nat} (hp0 : (findI c).isSome = true) : FnP Tryd.prog 38 [iV c, uV v] (aggV (encInstr (mkI (outC c) v))) := by
  refine FnE.intro 27 Tryd.func38 rfl rfl rfl fun w0 S0 M => ?_
  obtain ⟨x, hx⟩ := Option.isSome_iff_exists.1 hp0
  obtain ⟨g1, g2, g3, g4, g5, g6, g7⟩ := find_some_of hx
  refine CodeT.seq ?_
  refine CodeT.region (.n (opAlloc Tryd.zb41) rfl <| fun b4 _ => .nil ?_)
  refine EndT.thenN ?_
  refine CodeT.seq ?_
  refine CodeT.region (.p (opMove (.t rfl)) rfl <| .p (opCall (find_spec (code := c)) Tryd.cb58 (.cons (.t rfl) .nil)) rfl <| .p (opMove (.t rfl)) rfl <| .p ((opExtract (.t rfl) rfl).le (VLe.of_eq (show aggV (encInfo ((findI c).getD zeroI)) = aggV (encInfo x) by rw [hx]; rfl))) rfl <| .p (opExtract (.t rfl) rfl) rfl <| .n (opAlloc Tryd.zb98) rfl <| fun b5 _ => .s (opStoreOA (i := 0) Tryd.cz98 rfl (.t rfl) (.t rfl) rfl rfl rfl) <| .p (opAssign (.t rfl)) rfl <| .nil ?_)
  refine EndT.thenN ?_
  refine CodeT.seq ?_
  refine CodeT.seq ?_
  refine CodeT.region (.p (opFieldO Tryd.fd98_4 (.t rfl)) rfl <| .p (opLoadO (i := 0) Tryd.ag96 (.t rfl) rfl rfl) rfl <| .p (opLen rfl Tryd.underlying96 (.t rfl)) rfl <| .p (opEql (.t rfl) (.c _)) rfl <| .p (opMove (.t rfl)) rfl <| .g (OpG.gT rfl rfl rfl rfl (fun hg => opFieldO Tryd.fd98_4 (.t rfl))) rfl rfl <| .g (OpG.gT rfl rfl rfl rfl (fun hg => opLoadO (i := 0) Tryd.ag96 (.when (.t rfl) hg) rfl rfl)) rfl rfl <| .g (OpG.gT rfl rfl rfl rfl (fun hg => opIndexAddr (j := 0) Tryd.underlying96 Tryd.cz101 rfl (.when (.t rfl) hg) (.c _) rfl (get0 hg))) rfl rfl <| .g (OpG.gT rfl rfl rfl rfl (fun hg => opLoad Tryd.ag101 (.when (.t rfl) hg))) rfl rfl <| .g (OpG.gT rfl rfl rfl rfl (fun hg => opEql (.when (.t rfl) hg) (.c _))) rfl rfl <| .p (opAnd (.t rfl) (.t rfl)) rfl <| .nil ?_)
  refine EndT.thenN ?_
  refine CodeT.cond (.t rfl) (fun c0 => ?_) (fun c0 => ?_)
  ·
    refine CodeT.seq ?_
    refine CodeT.region (.p (opMove (.t rfl)) rfl <| .p (opBuild Tryd.pl41 Tryd.zb41 (.cons (.c _) (.cons (.t rfl) .nil)) rfl) rfl <| .s (opStoreOA (i := 1) Tryd.cz41 rfl (.t rfl) (.t rfl) rfl rfl rfl) <| .nil ?_)
    refine EndT.thenN ?_
    refine CodeT.ret (EndT.thenR (Post.retR1 rfl () trivial (fun _ _ _ _ => trivial) (.ra (i := 1) Tryd.ag41 Tryd.cz41 rfl rfl rfl rfl) ?_))
    exact mk_le (outC_pos (g6 ▸ gives1.1 c0))
  ·
    refine CodeT.skip (EndT.thenN ?_)
    refine CodeT.seq ?_
    refine CodeT.region (.p (opMove (.t rfl)) rfl <| .p (opBuild Tryd.pl41 Tryd.zb41 (.cons (.c _) (.cons (.t rfl) .nil)) rfl) rfl <| .s (opStoreOA (i := 1) Tryd.cz41 rfl (.t rfl) (.t rfl) rfl rfl rfl) <| .nil ?_)
    refine EndT.thenN ?_
    refine CodeT.ret (Post.retR1 rfl () trivial (fun _ _ _ _ => trivial) (.ra (i := 1) Tryd.ag41 Tryd.cz41 rfl rfl rfl rfl) ?_)
    exact mk_le (outC_neg (fun h => c0 (gives1.2 (g6.trans h))))

theorem pext_spec {c : Int} : FnP Tryd.prog 40 [iV c] (tupV [iV (xfA c : Int), iV (xfB c : Int), propV (xfS c)]) := by
  refine FnE.intro 24 Tryd.func40 rfl rfl rfl fun w0 S0 M => ?_
  refine CodeT.seq ?_
  refine CodeT.region (.p (opAssign (.c _)) rfl <| .p (opAssign (.c _)) rfl <| .p (opAssign .cf) rfl <| .nil ?_)
  refine EndT.thenN ?_
  refine CodeT.seq ?_
  refine CodeT.seq ?_
  refine CodeT.region (.p (opMove (.t rfl)) rfl <| .nil ?_)
  refine EndT.thenN ?_
  refine CodeT.block ?_
  refine CodeT.seq ?_
  refine CodeT.seq ?_
  refine CodeT.region (.p (opEql (.t rfl) (.c _)) rfl <| .p (opAssign (.t rfl)) rfl <| .nil ?_)
  refine EndT.thenN ?_
  refine CodeT.cond (.t rfl) (fun c0 => ?_) (fun c0 => ?_)
  ·
    refine CodeT.skip (EndT.thenN ?_)
    refine CodeT.cond (.t rfl) (fun c1 => ?_) (fun c1 => ?_)
    ·
      refine CodeT.seq ?_
      refine CodeT.region (.p (opMove (.t rfl)) rfl <| .p (opEql (.t rfl) (.c _)) rfl <| .p (opAssign (.c _)) rfl <| .p (opAssign (.c _)) rfl <| .p (opAssign (.t rfl)) rfl <| .nil ?_)
      refine EndT.thenN ?_
      refine CodeT.ret (EndT.blkR (EndT.thenR (Post.retR rfl rfl () trivial (fun _ _ _ _ => trivial) rfl (.cons (.rt rfl) ?_ (.cons (.rt rfl) ?_ (.cons (.rt rfl) ?_ .nil))))))
      · first | (exfalso; omega) | exact VLe.int (by unfold xfA; (repeat (first | rw [if_pos (by omega)] | rw [if_neg (by omega)])); first | done | rfl) | (rcases (show c = 192 ∨ c = 193 by omega) with rfl | rfl <;> exact VLe.int (by decide)) | (rcases (show c = 194 ∨ c = 195 ∨ c = 196 by omega) with rfl | rfl | rfl <;> exact VLe.int (by decide))
      · first | (exfalso; omega) | exact VLe.int (by unfold xfB; (repeat (first | rw [if_pos (by omega)] | rw [if_neg (by omega)])); first | done | rfl)
      · first | (exfalso; omega) | exact VLe.prop (by unfold xfS; (repeat (first | rw [if_pos (by omega)] | rw [if_neg (by omega)])); first | done | rfl)
    ·
      refine CodeT.seq ?_
      refine CodeT.seq ?_
      refine CodeT.region (.p (opEql (.t rfl) (.c _)) rfl <| .p (opAssign (.t rfl)) rfl <| .nil ?_)
      refine EndT.thenN ?_
      refine CodeT.cond (.t rfl) (fun c2 => ?_) (fun c2 => ?_)
      ·
        refine CodeT.skip (EndT.thenN ?_)
        refine CodeT.cond (.t rfl) (fun c3 => ?_) (fun c3 => ?_)
        ·
          refine CodeT.seq ?_
          refine CodeT.region (.p (opMove (.t rfl)) rfl <| .p (opSubF (.t rfl) (.c _) (fits_i64 (by omega) (by omega))) rfl <| .p (opMulF (.c _) (.t rfl) (fits_i64 (by omega) (by omega))) rfl <| .p (opAssign (.t rfl)) rfl <| .p (opAssign (.c _)) rfl <| .p (opAssign .ct) rfl <| .nil ?_)
          refine EndT.thenN ?_
          refine CodeT.ret (EndT.blkR (EndT.thenR (Post.retR rfl rfl () trivial (fun _ _ _ _ => trivial) rfl (.cons (.rt rfl) ?_ (.cons (.rt rfl) ?_ (.cons (.rt rfl) ?_ .nil))))))
          · first | (exfalso; omega) | exact VLe.int (by unfold xfA; (repeat (first | rw [if_pos (by omega)] | rw [if_neg (by omega)])); first | done | rfl) | (rcases (show c = 192 ∨ c = 193 by omega) with rfl | rfl <;> exact VLe.int (by decide)) | (rcases (show c = 194 ∨ c = 195 ∨ c = 196 by omega) with rfl | rfl | rfl <;> exact VLe.int (by decide))
          · first | (exfalso; omega) | exact VLe.int (by unfold xfB; (repeat (first | rw [if_pos (by omega)] | rw [if_neg (by omega)])); first | done | rfl)
          · first | (exfalso; omega) | exact VLe.prop (by unfold xfS; (repeat (first | rw [if_pos (by omega)] | rw [if_neg (by omega)])); first | done | rfl)
        ·
          refine CodeT.seq ?_
          refine CodeT.seq ?_
          refine CodeT.region (.p (opEql (.t rfl) (.c _)) rfl <| .p (opAssign (.t rfl)) rfl <| .nil ?_)
          refine EndT.thenN ?_
          refine CodeT.cond (.t rfl) (fun c4 => ?_) (fun c4 => ?_)
          ·
            refine CodeT.skip (EndT.thenN ?_)
            refine CodeT.cond (.t rfl) (fun c5 => ?_) (fun c5 => ?_)
            ·
              refine CodeT.seq ?_
              refine CodeT.region (.p (opMove (.t rfl)) rfl <| .p (opSubF (.t rfl) (.c _) (fits_i64 (by omega) (by omega))) rfl <| .p (opShl (s := (c - 194).toNat) (.c _) (.le (.t rfl) (VLe.int (by omega))) (by show _ ≤ 64; omega)) rfl <| .p (opAssign (.t rfl)) rfl <| .p (opAssign (.c _)) rfl <| .p (opAssign .ct) rfl <| .nil ?_)
              refine EndT.thenN ?_
              refine CodeT.ret (EndT.blkR (EndT.thenR (Post.retR rfl rfl () trivial (fun _ _ _ _ => trivial) rfl (.cons (.rt rfl) ?_ (.cons (.rt rfl) ?_ (.cons (.rt rfl) ?_ .nil))))))
              · first | (exfalso; omega) | exact VLe.int (by unfold xfA; (repeat (first | rw [if_pos (by omega)] | rw [if_neg (by omega)])); first | done | rfl) | (rcases (show c = 192 ∨ c = 193 by omega) with rfl | rfl <;> exact VLe.int (by decide)) | (rcases (show c = 194 ∨ c = 195 ∨ c = 196 by omega) with rfl | rfl | rfl <;> exact VLe.int (by decide))
              · first | (exfalso; omega) | exact VLe.int (by unfold xfB; (repeat (first | rw [if_pos (by omega)] | rw [if_neg (by omega)])); first | done | rfl)
              · first | (exfalso; omega) | exact VLe.prop (by unfold xfS; (repeat (first | rw [if_pos (by omega)] | rw [if_neg (by omega)])); first | done | rfl)
            ·
              refine CodeT.skip (EndT.blkN (EndT.thenN ?_))
              refine CodeT.seq ?_
              refine CodeT.region (.p (opAssign (.c _)) rfl <| .p (opAssign (.c _)) rfl <| .p (opAssign .cf) rfl <| .nil ?_)
              refine EndT.thenN ?_
              refine CodeT.ret (Post.retR rfl rfl () trivial (fun _ _ _ _ => trivial) rfl (.cons (.rt rfl) ?_ (.cons (.rt rfl) ?_ (.cons (.rt rfl) ?_ .nil))))
              · first | (exfalso; omega) | exact VLe.int (by unfold xfA; (repeat (first | rw [if_pos (by omega)] | rw [if_neg (by omega)])); first | done | rfl) | (rcases (show c = 192 ∨ c = 193 by omega) with rfl | rfl <;> exact VLe.int (by decide)) | (rcases (show c = 194 ∨ c = 195 ∨ c = 196 by omega) with rfl | rfl | rfl <;> exact VLe.int (by decide))
              · first | (exfalso; omega) | exact VLe.int (by unfold xfB; (repeat (first | rw [if_pos (by omega)] | rw [if_neg (by omega)])); first | done | rfl)
              · first | (exfalso; omega) | exact VLe.prop (by unfold xfS; (repeat (first | rw [if_pos (by omega)] | rw [if_neg (by omega)])); first | done | rfl)
          ·
            refine CodeT.seq ?_
            refine CodeT.region (.p (opEql (.t rfl) (.c _)) rfl <| .p (opAssign (.t rfl)) rfl <| .nil ?_)
            refine EndT.thenN ?_
            refine CodeT.cond (.t rfl) (fun c6 => ?_) (fun c6 => ?_)
            ·
              refine CodeT.skip (EndT.thenN ?_)
              refine CodeT.cond (.t rfl) (fun c7 => ?_) (fun c7 => ?_)
              ·
                refine CodeT.seq ?_
                refine CodeT.region (.p (opMove (.t rfl)) rfl <| .p (opSubF (.t rfl) (.c _) (fits_i64 (by omega) (by omega))) rfl <| .p (opShl (s := (c - 194).toNat) (.c _) (.le (.t rfl) (VLe.int (by omega))) (by show _ ≤ 64; omega)) rfl <| .p (opAssign (.t rfl)) rfl <| .p (opAssign (.c _)) rfl <| .p (opAssign .ct) rfl <| .nil ?_)
                refine EndT.thenN ?_
                refine CodeT.ret (EndT.blkR (EndT.thenR (Post.retR rfl rfl () trivial (fun _ _ _ _ => trivial) rfl (.cons (.rt rfl) ?_ (.cons (.rt rfl) ?_ (.cons (.rt rfl) ?_ .nil))))))
                · first | (exfalso; omega) | exact VLe.int (by unfold xfA; (repeat (first | rw [if_pos (by omega)] | rw [if_neg (by omega)])); first | done | rfl) | (rcases (show c = 192 ∨ c = 193 by omega) with rfl | rfl <;> exact VLe.int (by decide)) | (rcases (show c = 194 ∨ c = 195 ∨ c = 196 by omega) with rfl | rfl | rfl <;> exact VLe.int (by decide))
                · first | (exfalso; omega) | exact VLe.int (by unfold xfB; (repeat (first | rw [if_pos (by omega)] | rw [if_neg (by omega)])); first | done | rfl)
                · first | (exfalso; omega) | exact VLe.prop (by unfold xfS; (repeat (first | rw [if_pos (by omega)] | rw [if_neg (by omega)])); first | done | rfl)
              ·
                refine CodeT.skip (EndT.blkN (EndT.thenN ?_))
                refine CodeT.seq ?_
                refine CodeT.region (.p (opAssign (.c _)) rfl <| .p (opAssign (.c _)) rfl <| .p (opAssign .cf) rfl <| .nil ?_)
                refine EndT.thenN ?_
                refine CodeT.ret (Post.retR rfl rfl () trivial (fun _ _ _ _ => trivial) rfl (.cons (.rt rfl) ?_ (.cons (.rt rfl) ?_ (.cons (.rt rfl) ?_ .nil))))
                · first | (exfalso; omega) | exact VLe.int (by unfold xfA; (repeat (first | rw [if_pos (by omega)] | rw [if_neg (by omega)])); first | done | rfl) | (rcases (show c = 192 ∨ c = 193 by omega) with rfl | rfl <;> exact VLe.int (by decide)) | (rcases (show c = 194 ∨ c = 195 ∨ c = 196 by omega) with rfl | rfl | rfl <;> exact VLe.int (by decide))
                · first | (exfalso; omega) | exact VLe.int (by unfold xfB; (repeat (first | rw [if_pos (by omega)] | rw [if_neg (by omega)])); first | done | rfl)
                · first | (exfalso; omega) | exact VLe.prop (by unfold xfS; (repeat (first | rw [if_pos (by omega)] | rw [if_neg (by omega)])); first | done | rfl)
            ·
              refine CodeT.region (.p (opEql (.t rfl) (.c _)) rfl <| .p (opAssign (.t rfl)) rfl <| .nil ?_)
              refine EndT.thenN ?_
              refine CodeT.cond (.t rfl) (fun c8 => ?_) (fun c8 => ?_)
              ·
                refine CodeT.seq ?_
                refine CodeT.region (.p (opMove (.t rfl)) rfl <| .p (opSubF (.t rfl) (.c _) (fits_i64 (by omega) (by omega))) rfl <| .p (opShl (s := (c - 194).toNat) (.c _) (.le (.t rfl) (VLe.int (by omega))) (by show _ ≤ 64; omega)) rfl <| .p (opAssign (.t rfl)) rfl <| .p (opAssign (.c _)) rfl <| .p (opAssign .ct) rfl <| .nil ?_)
                refine EndT.thenN ?_
                refine CodeT.ret (EndT.blkR (EndT.thenR (Post.retR rfl rfl () trivial (fun _ _ _ _ => trivial) rfl (.cons (.rt rfl) ?_ (.cons (.rt rfl) ?_ (.cons (.rt rfl) ?_ .nil))))))
                · first | (exfalso; omega) | exact VLe.int (by unfold xfA; (repeat (first | rw [if_pos (by omega)] | rw [if_neg (by omega)])); first | done | rfl) | (rcases (show c = 192 ∨ c = 193 by omega) with rfl | rfl <;> exact VLe.int (by decide)) | (rcases (show c = 194 ∨ c = 195 ∨ c = 196 by omega) with rfl | rfl | rfl <;> exact VLe.int (by decide))
                · first | (exfalso; omega) | exact VLe.int (by unfold xfB; (repeat (first | rw [if_pos (by omega)] | rw [if_neg (by omega)])); first | done | rfl)
                · first | (exfalso; omega) | exact VLe.prop (by unfold xfS; (repeat (first | rw [if_pos (by omega)] | rw [if_neg (by omega)])); first | done | rfl)
              ·
                refine CodeT.skip (EndT.blkN (EndT.thenN ?_))
                refine CodeT.seq ?_
                refine CodeT.region (.p (opAssign (.c _)) rfl <| .p (opAssign (.c _)) rfl <| .p (opAssign .cf) rfl <| .nil ?_)
                refine EndT.thenN ?_
                refine CodeT.ret (Post.retR rfl rfl () trivial (fun _ _ _ _ => trivial) rfl (.cons (.rt rfl) ?_ (.cons (.rt rfl) ?_ (.cons (.rt rfl) ?_ .nil))))
                · first | (exfalso; omega) | exact VLe.int (by unfold xfA; (repeat (first | rw [if_pos (by omega)] | rw [if_neg (by omega)])); first | done | rfl) | (rcases (show c = 192 ∨ c = 193 by omega) with rfl | rfl <;> exact VLe.int (by decide)) | (rcases (show c = 194 ∨ c = 195 ∨ c = 196 by omega) with rfl | rfl | rfl <;> exact VLe.int (by decide))
                · first | (exfalso; omega) | exact VLe.int (by unfold xfB; (repeat (first | rw [if_pos (by omega)] | rw [if_neg (by omega)])); first | done | rfl)
                · first | (exfalso; omega) | exact VLe.prop (by unfold xfS; (repeat (first | rw [if_pos (by omega)] | rw [if_neg (by omega)])); first | done | rfl)
      ·
        refine CodeT.region (.p (opEql (.t rfl) (.c _)) rfl <| .p (opAssign (.t rfl)) rfl <| .nil ?_)
        refine EndT.thenN ?_
        refine CodeT.cond (.t rfl) (fun c9 => ?_) (fun c9 => ?_)
        ·
          refine CodeT.seq ?_
          refine CodeT.region (.p (opMove (.t rfl)) rfl <| .p (opSubF (.t rfl) (.c _) (fits_i64 (by omega) (by omega))) rfl <| .p (opMulF (.c _) (.t rfl) (fits_i64 (by omega) (by omega))) rfl <| .p (opAssign (.t rfl)) rfl <| .p (opAssign (.c _)) rfl <| .p (opAssign .ct) rfl <| .nil ?_)
          refine EndT.thenN ?_
          refine CodeT.ret (EndT.blkR (EndT.thenR (Post.retR rfl rfl () trivial (fun _ _ _ _ => trivial) rfl (.cons (.rt rfl) ?_ (.cons (.rt rfl) ?_ (.cons (.rt rfl) ?_ .nil))))))
          · first | (exfalso; omega) | exact VLe.int (by unfold xfA; (repeat (first | rw [if_pos (by omega)] | rw [if_neg (by omega)])); first | done | rfl) | (rcases (show c = 192 ∨ c = 193 by omega) with rfl | rfl <;> exact VLe.int (by decide)) | (rcases (show c = 194 ∨ c = 195 ∨ c = 196 by omega) with rfl | rfl | rfl <;> exact VLe.int (by decide))
          · first | (exfalso; omega) | exact VLe.int (by unfold xfB; (repeat (first | rw [if_pos (by omega)] | rw [if_neg (by omega)])); first | done | rfl)
          · first | (exfalso; omega) | exact VLe.prop (by unfold xfS; (repeat (first | rw [if_pos (by omega)] | rw [if_neg (by omega)])); first | done | rfl)
        ·
          refine CodeT.seq ?_
          refine CodeT.seq ?_
          refine CodeT.region (.p (opEql (.t rfl) (.c _)) rfl <| .p (opAssign (.t rfl)) rfl <| .nil ?_)
          refine EndT.thenN ?_
          refine CodeT.cond (.t rfl) (fun c10 => ?_) (fun c10 => ?_)
          ·
            refine CodeT.skip (EndT.thenN ?_)
            refine CodeT.cond (.t rfl) (fun c11 => ?_) (fun c11 => ?_)
            ·
              refine CodeT.seq ?_
              refine CodeT.region (.p (opMove (.t rfl)) rfl <| .p (opSubF (.t rfl) (.c _) (fits_i64 (by omega) (by omega))) rfl <| .p (opShl (s := (c - 194).toNat) (.c _) (.le (.t rfl) (VLe.int (by omega))) (by show _ ≤ 64; omega)) rfl <| .p (opAssign (.t rfl)) rfl <| .p (opAssign (.c _)) rfl <| .p (opAssign .ct) rfl <| .nil ?_)
              refine EndT.thenN ?_
              refine CodeT.ret (EndT.blkR (EndT.thenR (Post.retR rfl rfl () trivial (fun _ _ _ _ => trivial) rfl (.cons (.rt rfl) ?_ (.cons (.rt rfl) ?_ (.cons (.rt rfl) ?_ .nil))))))
              · first | (exfalso; omega) | exact VLe.int (by unfold xfA; (repeat (first | rw [if_pos (by omega)] | rw [if_neg (by omega)])); first | done | rfl) | (rcases (show c = 192 ∨ c = 193 by omega) with rfl | rfl <;> exact VLe.int (by decide)) | (rcases (show c = 194 ∨ c = 195 ∨ c = 196 by omega) with rfl | rfl | rfl <;> exact VLe.int (by decide))
              · first | (exfalso; omega) | exact VLe.int (by unfold xfB; (repeat (first | rw [if_pos (by omega)] | rw [if_neg (by omega)])); first | done | rfl)
              · first | (exfalso; omega) | exact VLe.prop (by unfold xfS; (repeat (first | rw [if_pos (by omega)] | rw [if_neg (by omega)])); first | done | rfl)
            ·
              refine CodeT.skip (EndT.blkN (EndT.thenN ?_))
              refine CodeT.seq ?_
              refine CodeT.region (.p (opAssign (.c _)) rfl <| .p (opAssign (.c _)) rfl <| .p (opAssign .cf) rfl <| .nil ?_)
              refine EndT.thenN ?_
              refine CodeT.ret (Post.retR rfl rfl () trivial (fun _ _ _ _ => trivial) rfl (.cons (.rt rfl) ?_ (.cons (.rt rfl) ?_ (.cons (.rt rfl) ?_ .nil))))
              · first | (exfalso; omega) | exact VLe.int (by unfold xfA; (repeat (first | rw [if_pos (by omega)] | rw [if_neg (by omega)])); first | done | rfl) | (rcases (show c = 192 ∨ c = 193 by omega) with rfl | rfl <;> exact VLe.int (by decide)) | (rcases (show c = 194 ∨ c = 195 ∨ c = 196 by omega) with rfl | rfl | rfl <;> exact VLe.int (by decide))
              · first | (exfalso; omega) | exact VLe.int (by unfold xfB; (repeat (first | rw [if_pos (by omega)] | rw [if_neg (by omega)])); first | done | rfl)
              · first | (exfalso; omega) | exact VLe.prop (by unfold xfS; (repeat (first | rw [if_pos (by omega)] | rw [if_neg (by omega)])); first | done | rfl)
          ·
            refine CodeT.seq ?_
            refine CodeT.region (.p (opEql (.t rfl) (.c _)) rfl <| .p (opAssign (.t rfl)) rfl <| .nil ?_)
            refine EndT.thenN ?_
            refine CodeT.cond (.t rfl) (fun c12 => ?_) (fun c12 => ?_)
            ·
              refine CodeT.skip (EndT.thenN ?_)
              refine CodeT.cond (.t rfl) (fun c13 => ?_) (fun c13 => ?_)
              ·
                refine CodeT.seq ?_
                refine CodeT.region (.p (opMove (.t rfl)) rfl <| .p (opSubF (.t rfl) (.c _) (fits_i64 (by omega) (by omega))) rfl <| .p (opShl (s := (c - 194).toNat) (.c _) (.le (.t rfl) (VLe.int (by omega))) (by show _ ≤ 64; omega)) rfl <| .p (opAssign (.t rfl)) rfl <| .p (opAssign (.c _)) rfl <| .p (opAssign .ct) rfl <| .nil ?_)
                refine EndT.thenN ?_
                refine CodeT.ret (EndT.blkR (EndT.thenR (Post.retR rfl rfl () trivial (fun _ _ _ _ => trivial) rfl (.cons (.rt rfl) ?_ (.cons (.rt rfl) ?_ (.cons (.rt rfl) ?_ .nil))))))
                · first | (exfalso; omega) | exact VLe.int (by unfold xfA; (repeat (first | rw [if_pos (by omega)] | rw [if_neg (by omega)])); first | done | rfl) | (rcases (show c = 192 ∨ c = 193 by omega) with rfl | rfl <;> exact VLe.int (by decide)) | (rcases (show c = 194 ∨ c = 195 ∨ c = 196 by omega) with rfl | rfl | rfl <;> exact VLe.int (by decide))
                · first | (exfalso; omega) | exact VLe.int (by unfold xfB; (repeat (first | rw [if_pos (by omega)] | rw [if_neg (by omega)])); first | done | rfl)
                · first | (exfalso; omega) | exact VLe.prop (by unfold xfS; (repeat (first | rw [if_pos (by omega)] | rw [if_neg (by omega)])); first | done | rfl)
              ·
                refine CodeT.skip (EndT.blkN (EndT.thenN ?_))
                refine CodeT.seq ?_
                refine CodeT.region (.p (opAssign (.c _)) rfl <| .p (opAssign (.c _)) rfl <| .p (opAssign .cf) rfl <| .nil ?_)
                refine EndT.thenN ?_
                refine CodeT.ret (Post.retR rfl rfl () trivial (fun _ _ _ _ => trivial) rfl (.cons (.rt rfl) ?_ (.cons (.rt rfl) ?_ (.cons (.rt rfl) ?_ .nil))))
                · first | (exfalso; omega) | exact VLe.int (by unfold xfA; (repeat (first | rw [if_pos (by omega)] | rw [if_neg (by omega)])); first | done | rfl) | (rcases (show c = 192 ∨ c = 193 by omega) with rfl | rfl <;> exact VLe.int (by decide)) | (rcases (show c = 194 ∨ c = 195 ∨ c = 196 by omega) with rfl | rfl | rfl <;> exact VLe.int (by decide))
                · first | (exfalso; omega) | exact VLe.int (by unfold xfB; (repeat (first | rw [if_pos (by omega)] | rw [if_neg (by omega)])); first | done | rfl)
                · first | (exfalso; omega) | exact VLe.prop (by unfold xfS; (repeat (first | rw [if_pos (by omega)] | rw [if_neg (by omega)])); first | done | rfl)
            ·
              refine CodeT.region (.p (opEql (.t rfl) (.c _)) rfl <| .p (opAssign (.t rfl)) rfl <| .nil ?_)
              refine EndT.thenN ?_
              refine CodeT.cond (.t rfl) (fun c14 => ?_) (fun c14 => ?_)
              ·
                refine CodeT.seq ?_
                refine CodeT.region (.p (opMove (.t rfl)) rfl <| .p (opSubF (.t rfl) (.c _) (fits_i64 (by omega) (by omega))) rfl <| .p (opShl (s := (c - 194).toNat) (.c _) (.le (.t rfl) (VLe.int (by omega))) (by show _ ≤ 64; omega)) rfl <| .p (opAssign (.t rfl)) rfl <| .p (opAssign (.c _)) rfl <| .p (opAssign .ct) rfl <| .nil ?_)
                refine EndT.thenN ?_
                refine CodeT.ret (EndT.blkR (EndT.thenR (Post.retR rfl rfl () trivial (fun _ _ _ _ => trivial) rfl (.cons (.rt rfl) ?_ (.cons (.rt rfl) ?_ (.cons (.rt rfl) ?_ .nil))))))
                · first | (exfalso; omega) | exact VLe.int (by unfold xfA; (repeat (first | rw [if_pos (by omega)] | rw [if_neg (by omega)])); first | done | rfl) | (rcases (show c = 192 ∨ c = 193 by omega) with rfl | rfl <;> exact VLe.int (by decide)) | (rcases (show c = 194 ∨ c = 195 ∨ c = 196 by omega) with rfl | rfl | rfl <;> exact VLe.int (by decide))
                · first | (exfalso; omega) | exact VLe.int (by unfold xfB; (repeat (first | rw [if_pos (by omega)] | rw [if_neg (by omega)])); first | done | rfl)
                · first | (exfalso; omega) | exact VLe.prop (by unfold xfS; (repeat (first | rw [if_pos (by omega)] | rw [if_neg (by omega)])); first | done | rfl)
              ·
                refine CodeT.skip (EndT.blkN (EndT.thenN ?_))
                refine CodeT.seq ?_
                refine CodeT.region (.p (opAssign (.c _)) rfl <| .p (opAssign (.c _)) rfl <| .p (opAssign .cf) rfl <| .nil ?_)
                refine EndT.thenN ?_
                refine CodeT.ret (Post.retR rfl rfl () trivial (fun _ _ _ _ => trivial) rfl (.cons (.rt rfl) ?_ (.cons (.rt rfl) ?_ (.cons (.rt rfl) ?_ .nil))))
                · first | (exfalso; omega) | exact VLe.int (by unfold xfA; (repeat (first | rw [if_pos (by omega)] | rw [if_neg (by omega)])); first | done | rfl) | (rcases (show c = 192 ∨ c = 193 by omega) with rfl | rfl <;> exact VLe.int (by decide)) | (rcases (show c = 194 ∨ c = 195 ∨ c = 196 by omega) with rfl | rfl | rfl <;> exact VLe.int (by decide))
                · first | (exfalso; omega) | exact VLe.int (by unfold xfB; (repeat (first | rw [if_pos (by omega)] | rw [if_neg (by omega)])); first | done | rfl)
                · first | (exfalso; omega) | exact VLe.prop (by unfold xfS; (repeat (first | rw [if_pos (by omega)] | rw [if_neg (by omega)])); first | done | rfl)
  ·
    refine CodeT.region (.p (opEql (.t rfl) (.c _)) rfl <| .p (opAssign (.t rfl)) rfl <| .nil ?_)
    refine EndT.thenN ?_
    refine CodeT.cond (.t rfl) (fun c15 => ?_) (fun c15 => ?_)
    ·
      refine CodeT.seq ?_
      refine CodeT.region (.p (opMove (.t rfl)) rfl <| .p (opEql (.t rfl) (.c _)) rfl <| .p (opAssign (.c _)) rfl <| .p (opAssign (.c _)) rfl <| .p (opAssign (.t rfl)) rfl <| .nil ?_)
      refine EndT.thenN ?_
      refine CodeT.ret (EndT.blkR (EndT.thenR (Post.retR rfl rfl () trivial (fun _ _ _ _ => trivial) rfl (.cons (.rt rfl) ?_ (.cons (.rt rfl) ?_ (.cons (.rt rfl) ?_ .nil))))))
      · first | (exfalso; omega) | exact VLe.int (by unfold xfA; (repeat (first | rw [if_pos (by omega)] | rw [if_neg (by omega)])); first | done | rfl) | (rcases (show c = 192 ∨ c = 193 by omega) with rfl | rfl <;> exact VLe.int (by decide)) | (rcases (show c = 194 ∨ c = 195 ∨ c = 196 by omega) with rfl | rfl | rfl <;> exact VLe.int (by decide))
      · first | (exfalso; omega) | exact VLe.int (by unfold xfB; (repeat (first | rw [if_pos (by omega)] | rw [if_neg (by omega)])); first | done | rfl)
      · first | (exfalso; omega) | exact VLe.prop (by unfold xfS; (repeat (first | rw [if_pos (by omega)] | rw [if_neg (by omega)])); first | done | rfl)
    ·
      refine CodeT.seq ?_
      refine CodeT.seq ?_
      refine CodeT.region (.p (opEql (.t rfl) (.c _)) rfl <| .p (opAssign (.t rfl)) rfl <| .nil ?_)
      refine EndT.thenN ?_
      refine CodeT.cond (.t rfl) (fun c16 => ?_) (fun c16 => ?_)
      ·
        refine CodeT.skip (EndT.thenN ?_)
        refine CodeT.cond (.t rfl) (fun c17 => ?_) (fun c17 => ?_)
        ·
          refine CodeT.seq ?_
          refine CodeT.region (.p (opMove (.t rfl)) rfl <| .p (opSubF (.t rfl) (.c _) (fits_i64 (by omega) (by omega))) rfl <| .p (opMulF (.c _) (.t rfl) (fits_i64 (by omega) (by omega))) rfl <| .p (opAssign (.t rfl)) rfl <| .p (opAssign (.c _)) rfl <| .p (opAssign .ct) rfl <| .nil ?_)
          refine EndT.thenN ?_
          refine CodeT.ret (EndT.blkR (EndT.thenR (Post.retR rfl rfl () trivial (fun _ _ _ _ => trivial) rfl (.cons (.rt rfl) ?_ (.cons (.rt rfl) ?_ (.cons (.rt rfl) ?_ .nil))))))
          · first | (exfalso; omega) | exact VLe.int (by unfold xfA; (repeat (first | rw [if_pos (by omega)] | rw [if_neg (by omega)])); first | done | rfl) | (rcases (show c = 192 ∨ c = 193 by omega) with rfl | rfl <;> exact VLe.int (by decide)) | (rcases (show c = 194 ∨ c = 195 ∨ c = 196 by omega) with rfl | rfl | rfl <;> exact VLe.int (by decide))
          · first | (exfalso; omega) | exact VLe.int (by unfold xfB; (repeat (first | rw [if_pos (by omega)] | rw [if_neg (by omega)])); first | done | rfl)
          · first | (exfalso; omega) | exact VLe.prop (by unfold xfS; (repeat (first | rw [if_pos (by omega)] | rw [if_neg (by omega)])); first | done | rfl)
        ·
          refine CodeT.seq ?_
          refine CodeT.seq ?_
          refine CodeT.region (.p (opEql (.t rfl) (.c _)) rfl <| .p (opAssign (.t rfl)) rfl <| .nil ?_)
          refine EndT.thenN ?_
          refine CodeT.cond (.t rfl) (fun c18 => ?_) (fun c18 => ?_)
          ·
            refine CodeT.skip (EndT.thenN ?_)
            refine CodeT.cond (.t rfl) (fun c19 => ?_) (fun c19 => ?_)
            ·
              refine CodeT.seq ?_
              refine CodeT.region (.p (opMove (.t rfl)) rfl <| .p (opSubF (.t rfl) (.c _) (fits_i64 (by omega) (by omega))) rfl <| .p (opShl (s := (c - 194).toNat) (.c _) (.le (.t rfl) (VLe.int (by omega))) (by show _ ≤ 64; omega)) rfl <| .p (opAssign (.t rfl)) rfl <| .p (opAssign (.c _)) rfl <| .p (opAssign .ct) rfl <| .nil ?_)
              refine EndT.thenN ?_
              refine CodeT.ret (EndT.blkR (EndT.thenR (Post.retR rfl rfl () trivial (fun _ _ _ _ => trivial) rfl (.cons (.rt rfl) ?_ (.cons (.rt rfl) ?_ (.cons (.rt rfl) ?_ .nil))))))
              · first | (exfalso; omega) | exact VLe.int (by unfold xfA; (repeat (first | rw [if_pos (by omega)] | rw [if_neg (by omega)])); first | done | rfl) | (rcases (show c = 192 ∨ c = 193 by omega) with rfl | rfl <;> exact VLe.int (by decide)) | (rcases (show c = 194 ∨ c = 195 ∨ c = 196 by omega) with rfl | rfl | rfl <;> exact VLe.int (by decide))
              · first | (exfalso; omega) | exact VLe.int (by unfold xfB; (repeat (first | rw [if_pos (by omega)] | rw [if_neg (by omega)])); first | done | rfl)
              · first | (exfalso; omega) | exact VLe.prop (by unfold xfS; (repeat (first | rw [if_pos (by omega)] | rw [if_neg (by omega)])); first | done | rfl)
            ·
              refine CodeT.skip (EndT.blkN (EndT.thenN ?_))
              refine CodeT.seq ?_
              refine CodeT.region (.p (opAssign (.c _)) rfl <| .p (opAssign (.c _)) rfl <| .p (opAssign .cf) rfl <| .nil ?_)
              refine EndT.thenN ?_
              refine CodeT.ret (Post.retR rfl rfl () trivial (fun _ _ _ _ => trivial) rfl (.cons (.rt rfl) ?_ (.cons (.rt rfl) ?_ (.cons (.rt rfl) ?_ .nil))))
              · first | (exfalso; omega) | exact VLe.int (by unfold xfA; (repeat (first | rw [if_pos (by omega)] | rw [if_neg (by omega)])); first | done | rfl) | (rcases (show c = 192 ∨ c = 193 by omega) with rfl | rfl <;> exact VLe.int (by decide)) | (rcases (show c = 194 ∨ c = 195 ∨ c = 196 by omega) with rfl | rfl | rfl <;> exact VLe.int (by decide))
              · first | (exfalso; omega) | exact VLe.int (by unfold xfB; (repeat (first | rw [if_pos (by omega)] | rw [if_neg (by omega)])); first | done | rfl)
              · first | (exfalso; omega) | exact VLe.prop (by unfold xfS; (repeat (first | rw [if_pos (by omega)] | rw [if_neg (by omega)])); first | done | rfl)
          ·
            refine CodeT.seq ?_
            refine CodeT.region (.p (opEql (.t rfl) (.c _)) rfl <| .p (opAssign (.t rfl)) rfl <| .nil ?_)
            refine EndT.thenN ?_
            refine CodeT.cond (.t rfl) (fun c20 => ?_) (fun c20 => ?_)
            ·
              refine CodeT.skip (EndT.thenN ?_)
              refine CodeT.cond (.t rfl) (fun c21 => ?_) (fun c21 => ?_)
              ·
                refine CodeT.seq ?_
                refine CodeT.region (.p (opMove (.t rfl)) rfl <| .p (opSubF (.t rfl) (.c _) (fits_i64 (by omega) (by omega))) rfl <| .p (opShl (s := (c - 194).toNat) (.c _) (.le (.t rfl) (VLe.int (by omega))) (by show _ ≤ 64; omega)) rfl <| .p (opAssign (.t rfl)) rfl <| .p (opAssign (.c _)) rfl <| .p (opAssign .ct) rfl <| .nil ?_)
                refine EndT.thenN ?_
                refine CodeT.ret (EndT.blkR (EndT.thenR (Post.retR rfl rfl () trivial (fun _ _ _ _ => trivial) rfl (.cons (.rt rfl) ?_ (.cons (.rt rfl) ?_ (.cons (.rt rfl) ?_ .nil))))))
                · first | (exfalso; omega) | exact VLe.int (by unfold xfA; (repeat (first | rw [if_pos (by omega)] | rw [if_neg (by omega)])); first | done | rfl) | (rcases (show c = 192 ∨ c = 193 by omega) with rfl | rfl <;> exact VLe.int (by decide)) | (rcases (show c = 194 ∨ c = 195 ∨ c = 196 by omega) with rfl | rfl | rfl <;> exact VLe.int (by decide))
                · first | (exfalso; omega) | exact VLe.int (by unfold xfB; (repeat (first | rw [if_pos (by omega)] | rw [if_neg (by omega)])); first | done | rfl)
                · first | (exfalso; omega) | exact VLe.prop (by unfold xfS; (repeat (first | rw [if_pos (by omega)] | rw [if_neg (by omega)])); first | done | rfl)
              ·
                refine CodeT.skip (EndT.blkN (EndT.thenN ?_))
                refine CodeT.seq ?_
                refine CodeT.region (.p (opAssign (.c _)) rfl <| .p (opAssign (.c _)) rfl <| .p (opAssign .cf) rfl <| .nil ?_)
                refine EndT.thenN ?_
                refine CodeT.ret (Post.retR rfl rfl () trivial (fun _ _ _ _ => trivial) rfl (.cons (.rt rfl) ?_ (.cons (.rt rfl) ?_ (.cons (.rt rfl) ?_ .nil))))
                · first | (exfalso; omega) | exact VLe.int (by unfold xfA; (repeat (first | rw [if_pos (by omega)] | rw [if_neg (by omega)])); first | done | rfl) | (rcases (show c = 192 ∨ c = 193 by omega) with rfl | rfl <;> exact VLe.int (by decide)) | (rcases (show c = 194 ∨ c = 195 ∨ c = 196 by omega) with rfl | rfl | rfl <;> exact VLe.int (by decide))
                · first | (exfalso; omega) | exact VLe.int (by unfold xfB; (repeat (first | rw [if_pos (by omega)] | rw [if_neg (by omega)])); first | done | rfl)
                · first | (exfalso; omega) | exact VLe.prop (by unfold xfS; (repeat (first | rw [if_pos (by omega)] | rw [if_neg (by omega)])); first | done | rfl)
            ·
              refine CodeT.region (.p (opEql (.t rfl) (.c _)) rfl <| .p (opAssign (.t rfl)) rfl <| .nil ?_)
              refine EndT.thenN ?_
              refine CodeT.cond (.t rfl) (fun c22 => ?_) (fun c22 => ?_)
              ·
                refine CodeT.seq ?_
                refine CodeT.region (.p (opMove (.t rfl)) rfl <| .p (opSubF (.t rfl) (.c _) (fits_i64 (by omega) (by omega))) rfl <| .p (opShl (s := (c - 194).toNat) (.c _) (.le (.t rfl) (VLe.int (by omega))) (by show _ ≤ 64; omega)) rfl <| .p (opAssign (.t rfl)) rfl <| .p (opAssign (.c _)) rfl <| .p (opAssign .ct) rfl <| .nil ?_)
                refine EndT.thenN ?_
                refine CodeT.ret (EndT.blkR (EndT.thenR (Post.retR rfl rfl () trivial (fun _ _ _ _ => trivial) rfl (.cons (.rt rfl) ?_ (.cons (.rt rfl) ?_ (.cons (.rt rfl) ?_ .nil))))))
                · first | (exfalso; omega) | exact VLe.int (by unfold xfA; (repeat (first | rw [if_pos (by omega)] | rw [if_neg (by omega)])); first | done | rfl) | (rcases (show c = 192 ∨ c = 193 by omega) with rfl | rfl <;> exact VLe.int (by decide)) | (rcases (show c = 194 ∨ c = 195 ∨ c = 196 by omega) with rfl | rfl | rfl <;> exact VLe.int (by decide))
                · first | (exfalso; omega) | exact VLe.int (by unfold xfB; (repeat (first | rw [if_pos (by omega)] | rw [if_neg (by omega)])); first | done | rfl)
                · first | (exfalso; omega) | exact VLe.prop (by unfold xfS; (repeat (first | rw [if_pos (by omega)] | rw [if_neg (by omega)])); first | done | rfl)
              ·
                refine CodeT.skip (EndT.blkN (EndT.thenN ?_))
                refine CodeT.seq ?_
                refine CodeT.region (.p (opAssign (.c _)) rfl <| .p (opAssign (.c _)) rfl <| .p (opAssign .cf) rfl <| .nil ?_)
                refine EndT.thenN ?_
                refine CodeT.ret (Post.retR rfl rfl () trivial (fun _ _ _ _ => trivial) rfl (.cons (.rt rfl) ?_ (.cons (.rt rfl) ?_ (.cons (.rt rfl) ?_ .nil))))
                · first | (exfalso; omega) | exact VLe.int (by unfold xfA; (repeat (first | rw [if_pos (by omega)] | rw [if_neg (by omega)])); first | done | rfl) | (rcases (show c = 192 ∨ c = 193 by omega) with rfl | rfl <;> exact VLe.int (by decide)) | (rcases (show c = 194 ∨ c = 195 ∨ c = 196 by omega) with rfl | rfl | rfl <;> exact VLe.int (by decide))
                · first | (exfalso; omega) | exact VLe.int (by unfold xfB; (repeat (first | rw [if_pos (by omega)] | rw [if_neg (by omega)])); first | done | rfl)
                · first | (exfalso; omega) | exact VLe.prop (by unfold xfS; (repeat (first | rw [if_pos (by omega)] | rw [if_neg (by omega)])); first | done | rfl)
      ·
        refine CodeT.region (.p (opEql (.t rfl) (.c _)) rfl <| .p (opAssign (.t rfl)) rfl <| .nil ?_)
        refine EndT.thenN ?_
        refine CodeT.cond (.t rfl) (fun c23 => ?_) (fun c23 => ?_)
        ·
          refine CodeT.seq ?_
          refine CodeT.region (.p (opMove (.t rfl)) rfl <| .p (opSubF (.t rfl) (.c _) (fits_i64 (by omega) (by omega))) rfl <| .p (opMulF (.c _) (.t rfl) (fits_i64 (by omega) (by omega))) rfl <| .p (opAssign (.t rfl)) rfl <| .p (opAssign (.c _)) rfl <| .p (opAssign .ct) rfl <| .nil ?_)
          refine EndT.thenN ?_
          refine CodeT.ret (EndT.blkR (EndT.thenR (Post.retR rfl rfl () trivial (fun _ _ _ _ => trivial) rfl (.cons (.rt rfl) ?_ (.cons (.rt rfl) ?_ (.cons (.rt rfl) ?_ .nil))))))
          · first | (exfalso; omega) | exact VLe.int (by unfold xfA; (repeat (first | rw [if_pos (by omega)] | rw [if_neg (by omega)])); first | done | rfl) | (rcases (show c = 192 ∨ c = 193 by omega) with rfl | rfl <;> exact VLe.int (by decide)) | (rcases (show c = 194 ∨ c = 195 ∨ c = 196 by omega) with rfl | rfl | rfl <;> exact VLe.int (by decide))
          · first | (exfalso; omega) | exact VLe.int (by unfold xfB; (repeat (first | rw [if_pos (by omega)] | rw [if_neg (by omega)])); first | done | rfl)
          · first | (exfalso; omega) | exact VLe.prop (by unfold xfS; (repeat (first | rw [if_pos (by omega)] | rw [if_neg (by omega)])); first | done | rfl)
        ·
          refine CodeT.seq ?_
          refine CodeT.seq ?_
          refine CodeT.region (.p (opEql (.t rfl) (.c _)) rfl <| .p (opAssign (.t rfl)) rfl <| .nil ?_)
          refine EndT.thenN ?_
          refine CodeT.cond (.t rfl) (fun c24 => ?_) (fun c24 => ?_)
          ·
            refine CodeT.skip (EndT.thenN ?_)
            refine CodeT.cond (.t rfl) (fun c25 => ?_) (fun c25 => ?_)
            ·
              refine CodeT.seq ?_
              refine CodeT.region (.p (opMove (.t rfl)) rfl <| .p (opSubF (.t rfl) (.c _) (fits_i64 (by omega) (by omega))) rfl <| .p (opShl (s := (c - 194).toNat) (.c _) (.le (.t rfl) (VLe.int (by omega))) (by show _ ≤ 64; omega)) rfl <| .p (opAssign (.t rfl)) rfl <| .p (opAssign (.c _)) rfl <| .p (opAssign .ct) rfl <| .nil ?_)
              refine EndT.thenN ?_
              refine CodeT.ret (EndT.blkR (EndT.thenR (Post.retR rfl rfl () trivial (fun _ _ _ _ => trivial) rfl (.cons (.rt rfl) ?_ (.cons (.rt rfl) ?_ (.cons (.rt rfl) ?_ .nil))))))
              · first | (exfalso; omega) | exact VLe.int (by unfold xfA; (repeat (first | rw [if_pos (by omega)] | rw [if_neg (by omega)])); first | done | rfl) | (rcases (show c = 192 ∨ c = 193 by omega) with rfl | rfl <;> exact VLe.int (by decide)) | (rcases (show c = 194 ∨ c = 195 ∨ c = 196 by omega) with rfl | rfl | rfl <;> exact VLe.int (by decide))
              · first | (exfalso; omega) | exact VLe.int (by unfold xfB; (repeat (first | rw [if_pos (by omega)] | rw [if_neg (by omega)])); first | done | rfl)
              · first | (exfalso; omega) | exact VLe.prop (by unfold xfS; (repeat (first | rw [if_pos (by omega)] | rw [if_neg (by omega)])); first | done | rfl)
            ·
              refine CodeT.skip (EndT.blkN (EndT.thenN ?_))
              refine CodeT.seq ?_
              refine CodeT.region (.p (opAssign (.c _)) rfl <| .p (opAssign (.c _)) rfl <| .p (opAssign .cf) rfl <| .nil ?_)
              refine EndT.thenN ?_
              refine CodeT.ret (Post.retR rfl rfl () trivial (fun _ _ _ _ => trivial) rfl (.cons (.rt rfl) ?_ (.cons (.rt rfl) ?_ (.cons (.rt rfl) ?_ .nil))))
              · first | (exfalso; omega) | exact VLe.int (by unfold xfA; (repeat (first | rw [if_pos (by omega)] | rw [if_neg (by omega)])); first | done | rfl) | (rcases (show c = 192 ∨ c = 193 by omega) with rfl | rfl <;> exact VLe.int (by decide)) | (rcases (show c = 194 ∨ c = 195 ∨ c = 196 by omega) with rfl | rfl | rfl <;> exact VLe.int (by decide))
              · first | (exfalso; omega) | exact VLe.int (by unfold xfB; (repeat (first | rw [if_pos (by omega)] | rw [if_neg (by omega)])); first | done | rfl)
              · first | (exfalso; omega) | exact VLe.prop (by unfold xfS; (repeat (first | rw [if_pos (by omega)] | rw [if_neg (by omega)])); first | done | rfl)
          ·
            refine CodeT.seq ?_
            refine CodeT.region (.p (opEql (.t rfl) (.c _)) rfl <| .p (opAssign (.t rfl)) rfl <| .nil ?_)
            refine EndT.thenN ?_
            refine CodeT.cond (.t rfl) (fun c26 => ?_) (fun c26 => ?_)
            ·
              refine CodeT.skip (EndT.thenN ?_)
              refine CodeT.cond (.t rfl) (fun c27 => ?_) (fun c27 => ?_)
              ·
                refine CodeT.seq ?_
                refine CodeT.region (.p (opMove (.t rfl)) rfl <| .p (opSubF (.t rfl) (.c _) (fits_i64 (by omega) (by omega))) rfl <| .p (opShl (s := (c - 194).toNat) (.c _) (.le (.t rfl) (VLe.int (by omega))) (by show _ ≤ 64; omega)) rfl <| .p (opAssign (.t rfl)) rfl <| .p (opAssign (.c _)) rfl <| .p (opAssign .ct) rfl <| .nil ?_)
                refine EndT.thenN ?_
                refine CodeT.ret (EndT.blkR (EndT.thenR (Post.retR rfl rfl () trivial (fun _ _ _ _ => trivial) rfl (.cons (.rt rfl) ?_ (.cons (.rt rfl) ?_ (.cons (.rt rfl) ?_ .nil))))))
                · first | (exfalso; omega) | exact VLe.int (by unfold xfA; (repeat (first | rw [if_pos (by omega)] | rw [if_neg (by omega)])); first | done | rfl) | (rcases (show c = 192 ∨ c = 193 by omega) with rfl | rfl <;> exact VLe.int (by decide)) | (rcases (show c = 194 ∨ c = 195 ∨ c = 196 by omega) with rfl | rfl | rfl <;> exact VLe.int (by decide))
                · first | (exfalso; omega) | exact VLe.int (by unfold xfB; (repeat (first | rw [if_pos (by omega)] | rw [if_neg (by omega)])); first | done | rfl)
                · first | (exfalso; omega) | exact VLe.prop (by unfold xfS; (repeat (first | rw [if_pos (by omega)] | rw [if_neg (by omega)])); first | done | rfl)
              ·
                refine CodeT.skip (EndT.blkN (EndT.thenN ?_))
                refine CodeT.seq ?_
                refine CodeT.region (.p (opAssign (.c _)) rfl <| .p (opAssign (.c _)) rfl <| .p (opAssign .cf) rfl <| .nil ?_)
                refine EndT.thenN ?_
                refine CodeT.ret (Post.retR rfl rfl () trivial (fun _ _ _ _ => trivial) rfl (.cons (.rt rfl) ?_ (.cons (.rt rfl) ?_ (.cons (.rt rfl) ?_ .nil))))
                · first | (exfalso; omega) | exact VLe.int (by unfold xfA; (repeat (first | rw [if_pos (by omega)] | rw [if_neg (by omega)])); first | done | rfl) | (rcases (show c = 192 ∨ c = 193 by omega) with rfl | rfl <;> exact VLe.int (by decide)) | (rcases (show c = 194 ∨ c = 195 ∨ c = 196 by omega) with rfl | rfl | rfl <;> exact VLe.int (by decide))
                · first | (exfalso; omega) | exact VLe.int (by unfold xfB; (repeat (first | rw [if_pos (by omega)] | rw [if_neg (by omega)])); first | done | rfl)
                · first | (exfalso; omega) | exact VLe.prop (by unfold xfS; (repeat (first | rw [if_pos (by omega)] | rw [if_neg (by omega)])); first | done | rfl)
            ·
              refine CodeT.region (.p (opEql (.t rfl) (.c _)) rfl <| .p (opAssign (.t rfl)) rfl <| .nil ?_)
              refine EndT.thenN ?_
              refine CodeT.cond (.t rfl) (fun c28 => ?_) (fun c28 => ?_)
              ·
                refine CodeT.seq ?_
                refine CodeT.region (.p (opMove (.t rfl)) rfl <| .p (opSubF (.t rfl) (.c _) (fits_i64 (by omega) (by omega))) rfl <| .p (opShl (s := (c - 194).toNat) (.c _) (.le (.t rfl) (VLe.int (by omega))) (by show _ ≤ 64; omega)) rfl <| .p (opAssign (.t rfl)) rfl <| .p (opAssign (.c _)) rfl <| .p (opAssign .ct) rfl <| .nil ?_)
                refine EndT.thenN ?_
                refine CodeT.ret (EndT.blkR (EndT.thenR (Post.retR rfl rfl () trivial (fun _ _ _ _ => trivial) rfl (.cons (.rt rfl) ?_ (.cons (.rt rfl) ?_ (.cons (.rt rfl) ?_ .nil))))))
                · first | (exfalso; omega) | exact VLe.int (by unfold xfA; (repeat (first | rw [if_pos (by omega)] | rw [if_neg (by omega)])); first | done | rfl) | (rcases (show c = 192 ∨ c = 193 by omega) with rfl | rfl <;> exact VLe.int (by decide)) | (rcases (show c = 194 ∨ c = 195 ∨ c = 196 by omega) with rfl | rfl | rfl <;> exact VLe.int (by decide))
                · first | (exfalso; omega) | exact VLe.int (by unfold xfB; (repeat (first | rw [if_pos (by omega)] | rw [if_neg (by omega)])); first | done | rfl)
                · first | (exfalso; omega) | exact VLe.prop (by unfold xfS; (repeat (first | rw [if_pos (by omega)] | rw [if_neg (by omega)])); first | done | rfl)
              ·
                refine CodeT.skip (EndT.blkN (EndT.thenN ?_))
                refine CodeT.seq ?_
                refine CodeT.region (.p (opAssign (.c _)) rfl <| .p (opAssign (.c _)) rfl <| .p (opAssign .cf) rfl <| .nil ?_)
                refine EndT.thenN ?_
                refine CodeT.ret (Post.retR rfl rfl () trivial (fun _ _ _ _ => trivial) rfl (.cons (.rt rfl) ?_ (.cons (.rt rfl) ?_ (.cons (.rt rfl) ?_ .nil))))
                · first | (exfalso; omega) | exact VLe.int (by unfold xfA; (repeat (first | rw [if_pos (by omega)] | rw [if_neg (by omega)])); first | done | rfl) | (rcases (show c = 192 ∨ c = 193 by omega) with rfl | rfl <;> exact VLe.int (by decide)) | (rcases (show c = 194 ∨ c = 195 ∨ c = 196 by omega) with rfl | rfl | rfl <;> exact VLe.int (by decide))
                · first | (exfalso; omega) | exact VLe.int (by unfold xfB; (repeat (first | rw [if_pos (by omega)] | rw [if_neg (by omega)])); first | done | rfl)
                · first | (exfalso; omega) | exact VLe.prop (by unfold xfS; (repeat (first | rw [if_pos (by omega)] | rw [if_neg (by omega)])); first | done | rfl)

end Go.Proofs.YtgmpadhfgohodaaDoor
