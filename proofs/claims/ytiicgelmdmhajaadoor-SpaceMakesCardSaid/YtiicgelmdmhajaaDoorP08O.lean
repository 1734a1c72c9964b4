/-
  Walks, printed by a program (gen.py) out of what its author says of each function.
-/
import Derived.Test.YtiicgelmdmhajaaDoorP08S
import Derived.Test.YtiicgelmdmhajaaDoorP08D
namespace Go.Proofs.YtiicgelmdmhajaaDoor
open Go.Hl Go.RowKit
set_option linter.unusedVariables false
set_option maxRecDepth 100000

theorem mfillL_spec {mb pb : Nat} {mm : SpD} {a n : Nat} {v : Int} (hp0 : SpOk mm) (hp1 : a < 18446744073709551616) (hp2 : n < 18446744073709551616) (hp3 : 1048576 < n) : FnE Tryd.prog 26 [addrV mb 0, intV .u64 (a : Int), intV .u8 v, intV .u64 (n : Int)] [spaceH mb pb mm] (γ := Unit) (fun _ => True) (fun _ => [spaceH mb pb mm]) (fun _ => tupV [i64V (if beyondS mm.pages a n then 4 else 0), i64V (if beyondS mm.pages a n then 0 else 15)]) := by
  refine FnE.intro 29 Tryd.func26 rfl rfl rfl fun w0 S0 M => ?_
  have hmo := hp0.most; have hpm := hp0.pages
  refine CodeT.seq ?_
  refine CodeT.region (.p (opAssign (.c _)) rfl <| .p (opAssign (.c _)) rfl <| .nil ?_)
  refine EndT.thenN ?_
  refine CodeT.seq ?_
  refine CodeT.block ?_
  refine CodeT.seq ?_
  refine CodeT.region (.p (opMove (.t rfl)) rfl <| .p (opEqlNilO Tryd.underlying39 (.t rfl)) rfl <| .p (opAssign (.t rfl)) rfl <| .nil ?_)
  refine EndT.thenN ?_
  refine CodeT.cond (.t rfl) (fun c0 => ?_) (fun c0 => ?_)
  ·
    exact c0.elim
  ·
    refine CodeT.seq ?_
    refine CodeT.region (.p (opMove (.t rfl)) rfl <| .p (opMove (.t rfl)) rfl <| .p (opMove (.t rfl)) rfl <| .n ((opCallE (rest := []) (mbeyond_spec (mb := mb) (pb := pb) (mm := mm) (a := a) (n := n) (by omega) hp1 hp2) Tryd.cb53 (.cons (.t rfl) (.cons (.t rfl) (.cons (.t rfl) .nil))) (Perm.idx [0] rfl rfl)).same (fun _ _ => OLe.refl _) (fun _ _ => VLe.refl _)) rfl <| fun _ _ => .p (opAssign (.t rfl)) rfl <| .nil ?_)
    refine EndT.thenN ?_
    refine CodeT.cond (.t rfl) (fun c1 => ?_) (fun c1 => ?_)
    ·
      refine CodeT.seq ?_
      refine CodeT.region (.p (opAssign (.c _)) rfl <| .p (opAssign (.c _)) rfl <| .nil ?_)
      refine EndT.thenN ?_
      refine CodeT.ret (EndT.blkR (EndT.thenR (Post.retR rfl rfl (()) (by trivial) (fun _ _ _ h => h) rfl (.cons (.rt rfl) ?_ (.cons (.rt rfl) ?_ .nil)))))
      · exact VLe.int (by rw [if_pos c1])
      · exact VLe.int (by rw [if_pos c1])
    ·
      refine CodeT.seq ?_
      refine CodeT.region (.p (opMove (.t rfl)) rfl <| .p (opGtr (.t rfl) (.c _)) rfl <| .p (opAssign (.t rfl)) rfl <| .nil ?_)
      refine EndT.thenN ?_
      refine CodeT.cond (.t rfl) (fun c2 => ?_) (fun c2 => ?_)
      ·
        refine CodeT.seq ?_
        refine CodeT.region (.p (opAssign (.c _)) rfl <| .p (opAssign (.c _)) rfl <| .nil ?_)
        refine EndT.thenN ?_
        refine CodeT.ret (EndT.blkR (EndT.thenR (Post.retR rfl rfl (()) (by trivial) (fun _ _ _ h => h) rfl (.cons (.rt rfl) ?_ (.cons (.rt rfl) ?_ .nil)))))
        · exact VLe.int (by rw [if_neg c1])
        · exact VLe.int (by rw [if_neg c1])
      ·
        exfalso; omega

theorem spaceMakesBad_spec {num pages most : Int} {n a : Nat} (hp0 : num < 0 ∨ pages < 0 ∨ pages > most ∨ most > 65536) : FnP Tryd.prog 6 [i64V num, i64V pages, i64V most, intV .u64 (n : Int), intV .u64 (a : Int)] (propV True) := by
  refine FnE.intro 169 Tryd.func6 rfl rfl rfl fun w0 S0 M => ?_
  refine CodeT.seq ?_
  refine CodeT.region (.p (opAssign .cf) rfl <| .nil ?_)
  refine EndT.thenN ?_
  refine CodeT.seq ?_
  refine CodeT.seq ?_
  refine CodeT.region (.p (opCall (awake08_spec) Tryd.cb18 .nil) rfl <| .p (opNot (.t rfl)) rfl <| .nil ?_)
  refine EndT.thenN ?_
  refine CodeT.cond (.t rfl) (fun c0 => ?_) (fun c0 => ?_)
  ·
    exact (c0 trivial).elim
  ·
    refine CodeT.skip (EndT.thenN ?_)
    refine CodeT.seq ?_
    refine CodeT.region (.n (opCallE (rest := []) (pager08_spec (fr := 1)) Tryd.cb20 (.cons (.c _) .nil) (Perm.idx [] rfl rfl)) rfl <| fun g29 h29 => .p (opMove (.t rfl)) rfl <| .p (opMove (.t rfl)) rfl <| .p (opMove (.t rfl)) rfl <| .p (opCall (mnewBad_spec hp0) Tryd.cb19 (.cons (.t rfl) (.cons (.t rfl) (.cons (.t rfl) (.cons (.t rfl) (.cons .cf .nil)))))) rfl <| .p (opMove (.t rfl)) rfl <| .p (opExtract (.t rfl) rfl) rfl <| .p (opExtract (.t rfl) rfl) rfl <| .p (opAssign (.t rfl)) rfl <| .p (opAssign (.t rfl)) rfl <| .nil ?_)
    refine EndT.thenN ?_
    refine CodeT.seq ?_
    refine CodeT.seq ?_
    refine CodeT.region (.p (opMove (.t rfl)) rfl <| .p (opLss (.t rfl) (.c _)) rfl <| .p (opMove (.t rfl)) rfl <| .g (OpG.gF rfl rfl rfl rfl (fun hg => opMove (.t rfl))) rfl rfl <| .g (OpG.gF rfl rfl rfl rfl (fun hg => opLss (.when (.t rfl) hg) (.c _))) rfl rfl <| .p (opOr (.t rfl) (.t rfl)) rfl <| .p (opMove (.t rfl)) rfl <| .g (OpG.gF rfl rfl rfl rfl (fun hg => opMove (.t rfl))) rfl rfl <| .g (OpG.gF rfl rfl rfl rfl (fun hg => opMove (.t rfl))) rfl rfl <| .g (OpG.gF rfl rfl rfl rfl (fun hg => opGtr (.when (.t rfl) hg) (.when (.t rfl) hg))) rfl rfl <| .p (opOr (.t rfl) (.t rfl)) rfl <| .p (opMove (.t rfl)) rfl <| .g (OpG.gF rfl rfl rfl rfl (fun hg => opMove (.t rfl))) rfl rfl <| .g (OpG.gF rfl rfl rfl rfl (fun hg => opGtr (.when (.t rfl) hg) (.c _))) rfl rfl <| .p (opOr (.t rfl) (.t rfl)) rfl <| .nil ?_)
    refine EndT.thenN ?_
    refine CodeT.cond (.t rfl) (fun c1 => ?_) (fun c1 => ?_)
    ·
      refine CodeT.seq ?_
      refine CodeT.region (.p (opMove (.t rfl)) rfl <| .p (opNilEqlNil Tryd.underlying39 (.t rfl)) rfl <| .p (opMove (.t rfl)) rfl <| .g (OpG.gT rfl rfl rfl rfl (fun hg => opMove (.t rfl))) rfl rfl <| .g (OpG.gT rfl rfl rfl rfl (fun hg => opEql (.when (.t rfl) hg) (.c _))) rfl rfl <| .p (opAnd (.t rfl) (.t rfl)) rfl <| .p (opAssign (.t rfl)) rfl <| .nil ?_)
      refine EndT.thenN ?_
      refine CodeT.ret (EndT.thenR (Post.retP rfl rfl ?_))
      exact VLe.prop (by simp)
    ·
      exfalso; omega

theorem spaceMakes_spec {num : Int} {pages most n a : Nat} (hp0 : 0 ≤ num) (hp1 : pages ≤ most) (hp2 : most ≤ 65536) (hp3 : n < 18446744073709551616) (hp4 : a < 18446744073709551616) : FnP Tryd.prog 6 [i64V num, i64V (pages : Int), i64V (most : Int), intV .u64 (n : Int), intV .u64 (a : Int)] (propV True) := by
  refine FnE.intro 169 Tryd.func6 rfl rfl rfl fun w0 S0 M => ?_
  have hok : SpOk ⟨num, pages, most, most, False⟩ := ⟨hp0, hp1, Nat.le_refl _, hp2⟩
  refine CodeT.seq ?_
  refine CodeT.region (.p (opAssign .cf) rfl <| .nil ?_)
  refine EndT.thenN ?_
  refine CodeT.seq ?_
  refine CodeT.seq ?_
  refine CodeT.region (.p (opCall (awake08_spec) Tryd.cb18 .nil) rfl <| .p (opNot (.t rfl)) rfl <| .nil ?_)
  refine EndT.thenN ?_
  refine CodeT.cond (.t rfl) (fun c0 => ?_) (fun c0 => ?_)
  ·
    exact (c0 trivial).elim
  ·
    refine CodeT.skip (EndT.thenN ?_)
    refine CodeT.seq ?_
    refine CodeT.region (.n (opCallE (rest := []) (pager08_spec (fr := 1)) Tryd.cb20 (.cons (.c _) .nil) (Perm.idx [] rfl rfl)) rfl <| fun g29 h29 => .p (opMove (.t rfl)) rfl <| .p (opMove (.t rfl)) rfl <| .p (opMove (.t rfl)) rfl <| .n (opCallE (rest := [_]) (mnew_spec (pb := g29.pb) (num := num) (pages := pages) (most := most) (wide := False) hp0 hp1 hp2) Tryd.cb19 (.cons (.t rfl) (.cons (.t rfl) (.cons (.t rfl) (.cons (.t rfl) (.cons .cf .nil))))) (Perm.idx [0] rfl rfl)) rfl <| fun g33 h33 => .p (opMove (.t rfl)) rfl <| .p (opExtract (.t rfl) rfl) rfl <| .p (opExtract (.t rfl) rfl) rfl <| .p (opAssign (.t rfl)) rfl <| .p (opAssign (.t rfl)) rfl <| .nil ?_)
    refine EndT.thenN ?_
    refine CodeT.seq ?_
    refine CodeT.seq ?_
    refine CodeT.region (.p (opMove (.t rfl)) rfl <| .p (opLss (.t rfl) (.c _)) rfl <| .p (opMove (.t rfl)) rfl <| .g (OpG.gF rfl rfl rfl rfl (fun hg => opMove (.t rfl))) rfl rfl <| .g (OpG.gF rfl rfl rfl rfl (fun hg => opLss (.when (.t rfl) hg) (.c _))) rfl rfl <| .p (opOr (.t rfl) (.t rfl)) rfl <| .p (opMove (.t rfl)) rfl <| .g (OpG.gF rfl rfl rfl rfl (fun hg => opMove (.t rfl))) rfl rfl <| .g (OpG.gF rfl rfl rfl rfl (fun hg => opMove (.t rfl))) rfl rfl <| .g (OpG.gF rfl rfl rfl rfl (fun hg => opGtr (.when (.t rfl) hg) (.when (.t rfl) hg))) rfl rfl <| .p (opOr (.t rfl) (.t rfl)) rfl <| .p (opMove (.t rfl)) rfl <| .g (OpG.gF rfl rfl rfl rfl (fun hg => opMove (.t rfl))) rfl rfl <| .g (OpG.gF rfl rfl rfl rfl (fun hg => opGtr (.when (.t rfl) hg) (.c _))) rfl rfl <| .p (opOr (.t rfl) (.t rfl)) rfl <| .nil ?_)
    refine EndT.thenN ?_
    refine CodeT.cond (.t rfl) (fun c1 => ?_) (fun c1 => ?_)
    ·
      exfalso; omega
    ·
      refine CodeT.skip (EndT.thenN ?_)
      refine CodeT.seq ?_
      refine CodeT.region (.p (opMove (.t rfl)) rfl <| .p (opMove (.t rfl)) rfl <| .n (opCallE (rest := [_]) (mgrow_spec (mb := g33) (pb := g29.pb) (mm := ⟨num, pages, most, most, False⟩) (n := n) hok hp3) Tryd.cb22 (.cons (.t rfl) (.cons (.t rfl) .nil)) (Perm.idx [0, 1] rfl rfl)) rfl <| fun g60 h60 => .p (opMove (.t rfl)) rfl <| .p (opExtract (.t rfl) rfl) rfl <| .p (opExtract (.t rfl) rfl) rfl <| .p (opAssign (.t rfl)) rfl <| .p (opAssign (.t rfl)) rfl <| .nil ?_)
      refine EndT.thenN ?_
      obtain ⟨mg, old, ok⟩ := g60
      have hgc := growS_cases ⟨num, pages, most, most, False⟩ n
      rw [← h60] at hgc
      simp only at hgc
      have hf1 : ok = true ↔ n ≤ most - pages := by (rcases hgc with ⟨e1, e2⟩ | ⟨e1, e2⟩; (have e3 : ok = true := congrArg (fun g => g.2.2) e2; exact ⟨fun _ => e1, fun _ => e3⟩); (have e3 : ok = false := congrArg (fun g => g.2.2) e2; exact ⟨fun h => (by rw [e3] at h; cases h), fun h => absurd h (by omega)⟩))
      have hf2 : ok = true → old = pages ∧ mg.pages = pages + n := by (intro ho; rcases hgc with ⟨e1, e2⟩ | ⟨e1, e2⟩; (exact ⟨congrArg (fun g => g.2.1) e2, congrArg (fun g => g.1.pages) e2⟩); (have e3 : ok = false := congrArg (fun g => g.2.2) e2; rw [e3] at ho; cases ho))
      have hf3 : ¬ ok = true → mg.pages = pages := by (intro ho; rcases hgc with ⟨e1, e2⟩ | ⟨e1, e2⟩; (have e3 : ok = true := congrArg (fun g => g.2.2) e2; exact absurd e3 ho); exact congrArg (fun g => g.1.pages) e2)
      have hok1 : SpOk mg := by (rcases hgc with ⟨e1, e2⟩ | ⟨e1, e2⟩; (have e3 : mg = _ := congrArg Prod.fst e2; subst e3; exact ⟨hp0, (by show pages + n ≤ most; omega), Nat.le_refl _, hp2⟩); (have e3 : mg = _ := congrArg Prod.fst e2; subst e3; exact hok))
      have hmo := hok1.most; have hmp := hok1.pages
      refine CodeT.seq ?_
      refine CodeT.region (.p (opMove (.t rfl)) rfl <| .p (opMove (.t rfl)) rfl <| .p (opMove (.t rfl)) rfl <| .p (opSubF (.t rfl) (.t rfl) (fits_i64 (by omega) (by omega))) rfl <| .p (opConvF Tryd.underlying3 Tryd.underlying46 (.t rfl) (fits_u64 (by omega) (by omega))) rfl <| .p (opLeq (.t rfl) (.t rfl)) rfl <| .p (opAssign (.t rfl)) rfl <| .nil ?_)
      refine EndT.thenN ?_
      refine CodeT.seq ?_
      refine CodeT.seq ?_
      refine CodeT.region (.p (opMove (.t rfl)) rfl <| .p (opNeq (.t rfl) (.c _)) rfl <| .p (opMove (.t rfl)) rfl <| .g (OpG.gF rfl rfl rfl rfl (fun hg => opMove (.t rfl))) rfl rfl <| .g (OpG.gF rfl rfl rfl rfl (fun hg => opMove (.t rfl))) rfl rfl <| .g (OpG.gF rfl rfl rfl rfl (fun hg => opNeqB Tryd.underlying4 (.when (.t rfl) hg) (.when (.t rfl) hg))) rfl rfl <| .p (opOr (.t rfl) (.t rfl)) rfl <| .p (opMove (.t rfl)) rfl <| .g (OpG.gF rfl rfl rfl rfl (fun hg => opMove (.t rfl))) rfl rfl <| .g (OpG.gF rfl rfl rfl rfl (fun hg => opMove (.when (.t rfl) hg))) rfl rfl <| .g (OpG.hT rfl rfl rfl rfl (fun hg => opMove (.t rfl))) rfl rfl <| .g (OpG.hT rfl rfl rfl rfl (fun hg => opMove (.t rfl))) rfl rfl <| .g (OpG.hT rfl rfl rfl rfl (fun hg => opNeq (.when (.t rfl) hg) (.when (.t rfl) hg))) rfl rfl <| .g (OpG.gF rfl rfl rfl rfl (fun hg => opAnd (.when (.t rfl) hg) (.under (.t rfl) hg))) rfl rfl <| .p (opOr (.t rfl) (.t rfl)) rfl <| .p (opMove (.t rfl)) rfl <| .g (OpG.gF rfl rfl rfl rfl (fun hg => opMove (.t rfl))) rfl rfl <| .g (OpG.gF rfl rfl rfl rfl (fun hg => opMove (.when (.t rfl) hg))) rfl rfl <| .g (OpG.hT rfl rfl rfl rfl (fun hg => opMove (.t rfl))) rfl rfl <| .ehT rfl rfl rfl rfl (fun hg => ((opCallE (rest := [_]) (mpages_spec (mb := g33) (pb := g29.pb) (mm := mg)) Tryd.cb24 (.cons (.when (.t rfl) hg) .nil) (Perm.idx [0, 1] rfl rfl)).same (fun _ _ => OLe.refl _) (fun _ _ => VLe.refl _)).same (fun _ _ => OLe.refl _) (fun _ _ => VLe.refl _)) rfl rfl <| .g (OpG.hT rfl rfl rfl rfl (fun hg => opMove (.t rfl))) rfl rfl <| .g (OpG.hT rfl rfl rfl rfl (fun hg => opMove (.t rfl))) rfl rfl <| .g (OpG.hT rfl rfl rfl rfl (fun hg => opConvF Tryd.underlying46 Tryd.underlying3 (.when (.t rfl) hg) (by have h9 := hf1.1 hg.2; exact fits_i64 (by omega) (by omega)))) rfl rfl <| .g (OpG.hT rfl rfl rfl rfl (fun hg => opAddF (.when (.t rfl) hg) (.when (.t rfl) hg) (by have h9 := hf1.1 hg.2; exact fits_i64 (by omega) (by omega)))) rfl rfl <| .g (OpG.hT rfl rfl rfl rfl (fun hg => opNeq (.when (.t rfl) hg) (.when (.t rfl) hg))) rfl rfl <| .g (OpG.gF rfl rfl rfl rfl (fun hg => opAnd (.when (.t rfl) hg) (.under (.t rfl) hg))) rfl rfl <| .p (opOr (.t rfl) (.t rfl)) rfl <| .p (opMove (.t rfl)) rfl <| .g (OpG.gF rfl rfl rfl rfl (fun hg => opMove (.t rfl))) rfl rfl <| .g (OpG.gF rfl rfl rfl rfl (fun hg => opNot (.when (.t rfl) hg))) rfl rfl <| .g (OpG.gF rfl rfl rfl rfl (fun hg => opMove (.when (.t rfl) hg))) rfl rfl <| .g (OpG.hT rfl rfl rfl rfl (fun hg => opMove (.t rfl))) rfl rfl <| .ehT rfl rfl rfl rfl (fun hg => ((opCallE (rest := [_]) (mpages_spec (mb := g33) (pb := g29.pb) (mm := mg)) Tryd.cb24 (.cons (.when (.t rfl) hg) .nil) (Perm.idx [0, 1] rfl rfl)).same (fun _ _ => OLe.refl _) (fun _ _ => VLe.refl _)).same (fun _ _ => OLe.refl _) (fun _ _ => VLe.refl _)) rfl rfl <| .g (OpG.hT rfl rfl rfl rfl (fun hg => opMove (.t rfl))) rfl rfl <| .g (OpG.hT rfl rfl rfl rfl (fun hg => opNeq (.when (.t rfl) hg) (.when (.t rfl) hg))) rfl rfl <| .g (OpG.gF rfl rfl rfl rfl (fun hg => opAnd (.when (.t rfl) hg) (.under (.t rfl) hg))) rfl rfl <| .p (opOr (.t rfl) (.t rfl)) rfl <| .nil ?_)
      refine EndT.thenN ?_
      refine CodeT.cond (.t rfl) (fun c2 => ?_) (fun c2 => ?_)
      ·
        exfalso; by_cases hb : ok = true; (obtain ⟨e1, e2⟩ := hf2 hb; have e3 := hf1.1 hb; simp [hb, e1, e2] at c2; omega); (have e2 := hf3 hb; have e3 := mt hf1.2 hb; simp [hb, e2] at c2; omega)
      ·
        refine CodeT.skip (EndT.thenN ?_)
        refine CodeT.seq ?_
        refine CodeT.region (.p (opMove (.t rfl)) rfl <| .p (opMove (.t rfl)) rfl <| .n (opCallE (rest := []) (mload_spec (mb := g33) (mm := mg) (X := g29) (z := 64) (q := 4096) (m := 0) (T := fun _ => True) (C := zeroC 64) (R := noR) (a := a) (o := 0) (n := 1048577) (noR_ok _) (by decide) (by decide) hok1 hp4 (by decide)) Tryd.cb23 (.cons (.t rfl) (.cons (.t rfl) (.cons (.c _) (.cons (.c _) .nil)))) (Perm.idx [0, 1] rfl rfl)) rfl <| fun g109 h109 => .p (opMove (.t rfl)) rfl <| .p (opExtract (.t rfl) rfl) rfl <| .p ((opExtract (.t rfl) rfl).le (VLe.int (show _ = (0 : Int) from rfl))) rfl <| .p ((opExtract (.t rfl) rfl).le (VLe.int (show _ = (15 : Int) from rfl))) rfl <| .p (opAssign (.t rfl)) rfl <| .p (opAssign (.t rfl)) rfl <| .p (opAssign (.t rfl)) rfl <| .nil ?_)
        refine EndT.thenN ?_
        refine CodeT.seq ?_
        refine CodeT.region (.p (opMove (.t rfl)) rfl <| .p (opMove (.t rfl)) rfl <| .n (opCallE (rest := []) (mload_spec (mb := g33) (mm := mg) (X := g29) (z := 64) (q := 4096) (m := 0) (T := fun _ => True) (C := zeroC 64) (R := noR) (a := a) (o := 0) (n := -1) (noR_ok _) (by decide) (by decide) hok1 hp4 (by decide)) Tryd.cb23 (.cons (.t rfl) (.cons (.t rfl) (.cons (.c _) (.cons (.c _) .nil)))) (Perm.idx [0, 1] rfl rfl)) rfl <| fun g116 h116 => .p (opMove (.t rfl)) rfl <| .p (opExtract (.t rfl) rfl) rfl <| .p (opExtract (.t rfl) rfl) rfl <| .p ((opExtract (.t rfl) rfl).le (VLe.int (show _ = (1 : Int) from rfl))) rfl <| .p (opAssign (.t rfl)) rfl <| .p (opAssign (.t rfl)) rfl <| .p (opAssign (.t rfl)) rfl <| .nil ?_)
        refine EndT.thenN ?_
        refine CodeT.seq ?_
        refine CodeT.region (.p (opMove (.t rfl)) rfl <| .p (opMove (.t rfl)) rfl <| .n ((opCallE (rest := [_]) (mfillL_spec (mb := g33) (pb := g29.pb) (mm := mg) (a := a) (n := 1048577) (v := 1) hok1 hp4 (by decide) (by decide)) Tryd.cb26 (.cons (.t rfl) (.cons (.t rfl) (.cons (.c _) (.cons (.c _) .nil)))) (Perm.idx [0, 1] rfl rfl)).same (fun _ _ => OLe.refl _) (fun _ _ => VLe.refl _)) rfl <| fun _ _ => .p (opMove (.t rfl)) rfl <| .p (opExtract (.t rfl) rfl) rfl <| .p (opExtract (.t rfl) rfl) rfl <| .p (opAssign (.t rfl)) rfl <| .p (opAssign (.t rfl)) rfl <| .nil ?_)
        refine EndT.thenN ?_
        refine CodeT.seq ?_
        refine CodeT.region (.p (opMove (.t rfl)) rfl <| .n ((opCallE (rest := [_]) (mpages_spec (mb := g33) (pb := g29.pb) (mm := mg)) Tryd.cb24 (.cons (.t rfl) .nil) (Perm.idx [0, 1] rfl rfl)).same (fun _ _ => OLe.refl _) (fun _ _ => VLe.refl _)) rfl <| fun _ _ => .p (opConvF Tryd.underlying3 Tryd.underlying46 (.t rfl) (fits_u64 (by omega) (by omega))) rfl <| .p (opMulF (.t rfl) (.c _) (fits_u64 (by omega) (by omega))) rfl <| .p (opAssign (.t rfl)) rfl <| .nil ?_)
        refine EndT.thenN ?_
        refine CodeT.seq ?_
        refine CodeT.region (.p (opMove (.t rfl)) rfl <| .p (opGeq (.t rfl) (.c _)) rfl <| .p (opMove (.t rfl)) rfl <| .g (OpG.gT rfl rfl rfl rfl (fun hg => opMove (.t rfl))) rfl rfl <| .g (OpG.gT rfl rfl rfl rfl (fun hg => opMove (.t rfl))) rfl rfl <| .g (OpG.gT rfl rfl rfl rfl (fun hg => opSubF (.when (.t rfl) hg) (.c _) (fits_u64 (by omega) (by omega)))) rfl rfl <| .g (OpG.gT rfl rfl rfl rfl (fun hg => opLeq (.when (.t rfl) hg) (.when (.t rfl) hg))) rfl rfl <| .p (opAnd (.t rfl) (.t rfl)) rfl <| .p (opAssign (.t rfl)) rfl <| .nil ?_)
        refine EndT.thenN ?_
        refine CodeT.seq ?_
        refine CodeT.seq ?_
        refine CodeT.region (.p (opMove (.t rfl)) rfl <| .p (opNeq (.t rfl) (.c _)) rfl <| .p (opMove (.t rfl)) rfl <| .g (OpG.gF rfl rfl rfl rfl (fun hg => opMove (.t rfl))) rfl rfl <| .g (OpG.gF rfl rfl rfl rfl (fun hg => opNeq (.when (.t rfl) hg) (.c _))) rfl rfl <| .p (opOr (.t rfl) (.t rfl)) rfl <| .p (opMove (.t rfl)) rfl <| .g (OpG.gF rfl rfl rfl rfl (fun hg => opMove (.t rfl))) rfl rfl <| .g (OpG.gF rfl rfl rfl rfl (fun hg => opNeq (.when (.t rfl) hg) (.c _))) rfl rfl <| .p (opOr (.t rfl) (.t rfl)) rfl <| .nil ?_)
        refine EndT.thenN ?_
        refine CodeT.cond (.t rfl) (fun c3 => ?_) (fun c3 => ?_)
        ·
          exfalso; simp at c3
        ·
          refine CodeT.skip (EndT.thenN ?_)
          refine CodeT.seq ?_
          refine CodeT.region (.p (opMove (.t rfl)) rfl <| .p (opMove (.t rfl)) rfl <| .g (OpG.gT rfl rfl rfl rfl (fun hg => opMove (.t rfl))) rfl rfl <| .g (OpG.gT rfl rfl rfl rfl (fun hg => opEql (.when (.t rfl) hg) (.c _))) rfl rfl <| .p (opAnd (.t rfl) (.t rfl)) rfl <| .p (opMove (.t rfl)) rfl <| .g (OpG.gT rfl rfl rfl rfl (fun hg => opMove (.t rfl))) rfl rfl <| .g (OpG.gT rfl rfl rfl rfl (fun hg => opEql (.when (.t rfl) hg) (.c _))) rfl rfl <| .p (opAnd (.t rfl) (.t rfl)) rfl <| .p (opMove (.t rfl)) rfl <| .g (OpG.gF rfl rfl rfl rfl (fun hg => opMove (.t rfl))) rfl rfl <| .g (OpG.gF rfl rfl rfl rfl (fun hg => opNot (.when (.t rfl) hg))) rfl rfl <| .g (OpG.gF rfl rfl rfl rfl (fun hg => opMove (.when (.t rfl) hg))) rfl rfl <| .g (OpG.hT rfl rfl rfl rfl (fun hg => opMove (.t rfl))) rfl rfl <| .g (OpG.hT rfl rfl rfl rfl (fun hg => opEql (.when (.t rfl) hg) (.c _))) rfl rfl <| .g (OpG.gF rfl rfl rfl rfl (fun hg => opAnd (.when (.t rfl) hg) (.under (.t rfl) hg))) rfl rfl <| .g (OpG.gF rfl rfl rfl rfl (fun hg => opMove (.when (.t rfl) hg))) rfl rfl <| .g (OpG.hT rfl rfl rfl rfl (fun hg => opMove (.t rfl))) rfl rfl <| .g (OpG.hT rfl rfl rfl rfl (fun hg => opEql (.when (.t rfl) hg) (.c _))) rfl rfl <| .g (OpG.gF rfl rfl rfl rfl (fun hg => opAnd (.when (.t rfl) hg) (.under (.t rfl) hg))) rfl rfl <| .p (opOr (.t rfl) (.t rfl)) rfl <| .p (opAssign (.t rfl)) rfl <| .nil ?_)
          refine EndT.thenN ?_
          refine CodeT.ret (Post.retP rfl rfl ?_)
          exact VLe.prop (by (by_cases hb : beyondS mg.pages a 1048577; (have hb2 : mg.pages * 65536 < a + 1048577 := hb; simp [hb]; omega); (have hb2 : ¬ mg.pages * 65536 < a + 1048577 := hb; simp [hb]; omega)))

theorem spaceMakesW_spec {num pages most : IntOf .i64} {n a : IntOf .u64} : FnP Tryd.prog 6 [i64V num.1, i64V pages.1, i64V most.1, intV .u64 n.1, intV .u64 a.1] (propV True) := by
  obtain ⟨m, hm, hlt⟩ := nat_of64 n
  obtain ⟨m2, hm2, hlt2⟩ := nat_of64 a
  rw [hm, hm2]
  by_cases hb : num.1 < 0 ∨ pages.1 < 0 ∨ pages.1 > most.1 ∨ most.1 > 65536
  · exact spaceMakesBad_spec hb
  · obtain ⟨p, hp⟩ : ∃ p : Nat, pages.1 = (p : Int) := ⟨pages.1.toNat, by omega⟩
    obtain ⟨p2, hp2⟩ : ∃ p2 : Nat, most.1 = (p2 : Int) := ⟨most.1.toNat, by omega⟩
    rw [hp, hp2]
    exact spaceMakes_spec (by omega) (by omega) (by omega) hlt hlt2

end Go.Proofs.YtiicgelmdmhajaaDoor
