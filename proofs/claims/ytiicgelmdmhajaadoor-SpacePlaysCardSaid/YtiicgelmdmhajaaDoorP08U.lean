/-
  Walks, printed by a program (gen.py) out of what its author says of each function.
-/
import Derived.Test.YtiicgelmdmhajaaDoorP08Z
namespace Go.Proofs.YtiicgelmdmhajaaDoor
open Go.Hl Go.RowKit
set_option linter.unusedVariables false
set_option maxRecDepth 100000

theorem mnew_spec {pb : Nat} {num : Int} {pages most : Nat} {wide : Prop} (hp0 : 0 ≤ num) (hp1 : pages ≤ most) (hp2 : most ≤ 65536) : FnE Tryd.prog 19 [addrV pb 0, i64V num, i64V (pages : Int), i64V (most : Int), propV wide] [] (γ := Nat) (fun _ => True) (fun mb => [spaceH mb pb ⟨num, pages, most, most, wide⟩]) (fun mb => tupV [addrV mb 0, i64V 0]) := by
  refine FnE.intro 39 Tryd.func19 rfl rfl rfl fun w0 S0 M => ?_
  refine CodeT.seq ?_
  refine CodeT.region (.p (opAssign (.c _)) rfl <| .p (opAssign (.c _)) rfl <| .nil ?_)
  refine EndT.thenN ?_
  refine CodeT.seq ?_
  refine CodeT.block ?_
  refine CodeT.seq ?_
  refine CodeT.region (.p (opMove (.t rfl)) rfl <| .p (opEqlNilO Tryd.underlying31 (.t rfl)) rfl <| .p (opAssign (.t rfl)) rfl <| .nil ?_)
  refine EndT.thenN ?_
  refine CodeT.cond (.t rfl) (fun c0 => ?_) (fun c0 => ?_)
  ·
    exact c0.elim
  ·
    refine CodeT.seq ?_
    refine CodeT.region (.p (opMove (.t rfl)) rfl <| .p (opLss (.t rfl) (.c _)) rfl <| .p (opMove (.t rfl)) rfl <| .g (OpG.gF rfl rfl rfl rfl (fun hg => opMove (.t rfl))) rfl rfl <| .g (OpG.gF rfl rfl rfl rfl (fun hg => opLss (.when (.t rfl) hg) (.c _))) rfl rfl <| .p (opOr (.t rfl) (.t rfl)) rfl <| .p (opMove (.t rfl)) rfl <| .g (OpG.gF rfl rfl rfl rfl (fun hg => opMove (.t rfl))) rfl rfl <| .g (OpG.gF rfl rfl rfl rfl (fun hg => opMove (.t rfl))) rfl rfl <| .g (OpG.gF rfl rfl rfl rfl (fun hg => opGtr (.when (.t rfl) hg) (.when (.t rfl) hg))) rfl rfl <| .p (opOr (.t rfl) (.t rfl)) rfl <| .p (opMove (.t rfl)) rfl <| .g (OpG.gF rfl rfl rfl rfl (fun hg => opMove (.t rfl))) rfl rfl <| .g (OpG.gF rfl rfl rfl rfl (fun hg => opGtr (.when (.t rfl) hg) (.c _))) rfl rfl <| .p (opOr (.t rfl) (.t rfl)) rfl <| .p (opAssign (.t rfl)) rfl <| .nil ?_)
    refine EndT.thenN ?_
    refine CodeT.cond (.t rfl) (fun c1 => ?_) (fun c1 => ?_)
    ·
      exfalso; omega
    ·
      refine CodeT.skip (EndT.blkN (EndT.thenN ?_))
      refine CodeT.seq ?_
      refine CodeT.region (.p (opMove (.t rfl)) rfl <| .p (opMove (.t rfl)) rfl <| .p (opMove (.t rfl)) rfl <| .p (opMove (.t rfl)) rfl <| .p (opMove (.t rfl)) rfl <| .p (opMove (.t rfl)) rfl <| .p (opBuild Tryd.pl110 Tryd.zb110 (.cons (.t rfl) (.cons (.t rfl) (.cons (.t rfl) (.cons (.t rfl) (.cons (.t rfl) (.cons (.t rfl) .nil)))))) rfl) rfl <| .n (opBoxOA (.t rfl)) rfl <| fun b38 _ => .p (opAssign (.t rfl)) rfl <| .p (opAssign (.c _)) rfl <| .nil ?_)
      refine EndT.thenN ?_
      refine CodeT.ret (Post.retR rfl rfl (b38) (by trivial) (fun _ _ _ h => h) rfl (.cons (.rt rfl) ?_ (.cons (.rt rfl) ?_ .nil)))
      · first | exact VLe.refl _ | exact VLe.int (by omega) | exact VLe.prop (by omega) | exact VLe.prop (by simp_all) | exact VLe.prop (by simp; omega)
      · first | exact VLe.refl _ | exact VLe.int (by omega) | exact VLe.prop (by omega) | exact VLe.prop (by simp_all) | exact VLe.prop (by simp; omega)

theorem mnewBad_spec {pb : Nat} {num pages most : Int} {wide : Prop} (hp0 : num < 0 ∨ pages < 0 ∨ pages > most ∨ most > 65536) : FnP Tryd.prog 19 [addrV pb 0, i64V num, i64V pages, i64V most, propV wide] (tupV [nilV, i64V 1]) := by
  refine FnE.intro 39 Tryd.func19 rfl rfl rfl fun w0 S0 M => ?_
  refine CodeT.seq ?_
  refine CodeT.region (.p (opAssign (.c _)) rfl <| .p (opAssign (.c _)) rfl <| .nil ?_)
  refine EndT.thenN ?_
  refine CodeT.seq ?_
  refine CodeT.block ?_
  refine CodeT.seq ?_
  refine CodeT.region (.p (opMove (.t rfl)) rfl <| .p (opEqlNilO Tryd.underlying31 (.t rfl)) rfl <| .p (opAssign (.t rfl)) rfl <| .nil ?_)
  refine EndT.thenN ?_
  refine CodeT.cond (.t rfl) (fun c0 => ?_) (fun c0 => ?_)
  ·
    exact c0.elim
  ·
    refine CodeT.seq ?_
    refine CodeT.region (.p (opMove (.t rfl)) rfl <| .p (opLss (.t rfl) (.c _)) rfl <| .p (opMove (.t rfl)) rfl <| .g (OpG.gF rfl rfl rfl rfl (fun hg => opMove (.t rfl))) rfl rfl <| .g (OpG.gF rfl rfl rfl rfl (fun hg => opLss (.when (.t rfl) hg) (.c _))) rfl rfl <| .p (opOr (.t rfl) (.t rfl)) rfl <| .p (opMove (.t rfl)) rfl <| .g (OpG.gF rfl rfl rfl rfl (fun hg => opMove (.t rfl))) rfl rfl <| .g (OpG.gF rfl rfl rfl rfl (fun hg => opMove (.t rfl))) rfl rfl <| .g (OpG.gF rfl rfl rfl rfl (fun hg => opGtr (.when (.t rfl) hg) (.when (.t rfl) hg))) rfl rfl <| .p (opOr (.t rfl) (.t rfl)) rfl <| .p (opMove (.t rfl)) rfl <| .g (OpG.gF rfl rfl rfl rfl (fun hg => opMove (.t rfl))) rfl rfl <| .g (OpG.gF rfl rfl rfl rfl (fun hg => opGtr (.when (.t rfl) hg) (.c _))) rfl rfl <| .p (opOr (.t rfl) (.t rfl)) rfl <| .p (opAssign (.t rfl)) rfl <| .nil ?_)
    refine EndT.thenN ?_
    refine CodeT.cond (.t rfl) (fun c1 => ?_) (fun c1 => ?_)
    ·
      refine CodeT.seq ?_
      refine CodeT.region (.p (opAssign (.c _)) rfl <| .p (opAssign (.c _)) rfl <| .nil ?_)
      refine EndT.thenN ?_
      refine CodeT.ret (EndT.blkR (EndT.thenR (Post.retR rfl rfl () trivial (fun _ _ _ _ => trivial) rfl (.cons (.rt rfl) ?_ (.cons (.rt rfl) ?_ .nil)))))
      · exact VLe.refl _
      · exact VLe.refl _
    ·
      exfalso; omega

theorem mnewNil_spec {num pages most : Int} {wide : Prop} : FnP Tryd.prog 19 [nilV, i64V num, i64V pages, i64V most, propV wide] (tupV [nilV, i64V 12]) := by
  refine FnE.intro 39 Tryd.func19 rfl rfl rfl fun w0 S0 M => ?_
  refine CodeT.seq ?_
  refine CodeT.region (.p (opAssign (.c _)) rfl <| .p (opAssign (.c _)) rfl <| .nil ?_)
  refine EndT.thenN ?_
  refine CodeT.seq ?_
  refine CodeT.block ?_
  refine CodeT.seq ?_
  refine CodeT.region (.p (opMove (.t rfl)) rfl <| .p (opNilEqlNil Tryd.underlying31 (.t rfl)) rfl <| .p (opAssign (.t rfl)) rfl <| .nil ?_)
  refine EndT.thenN ?_
  refine CodeT.cond (.t rfl) (fun c0 => ?_) (fun c0 => ?_)
  ·
    refine CodeT.seq ?_
    refine CodeT.region (.p (opAssign (.c _)) rfl <| .p (opAssign (.c _)) rfl <| .nil ?_)
    refine EndT.thenN ?_
    refine CodeT.ret (EndT.blkR (EndT.thenR (Post.retR rfl rfl () trivial (fun _ _ _ _ => trivial) rfl (.cons (.rt rfl) ?_ (.cons (.rt rfl) ?_ .nil)))))
    · exact VLe.refl _
    · exact VLe.refl _
  ·
    exact (c0 trivial).elim

theorem mpages_spec {mb pb : Nat} {mm : SpD} : FnE Tryd.prog 24 [addrV mb 0] [spaceH mb pb mm] (γ := Unit) (fun _ => True) (fun _ => [spaceH mb pb mm]) (fun _ => i64V (mm.pages : Int)) := by
  refine FnE.intro 9 Tryd.func24 rfl rfl rfl fun w0 S0 M => ?_
  refine CodeT.seq ?_
  refine CodeT.region (.p (opAssign (.c _)) rfl <| .nil ?_)
  refine EndT.thenN ?_
  refine CodeT.seq ?_
  refine CodeT.seq ?_
  refine CodeT.region (.p (opMove (.t rfl)) rfl <| .p (opEqlNilO Tryd.underlying39 (.t rfl)) rfl <| .nil ?_)
  refine EndT.thenN ?_
  refine CodeT.cond (.t rfl) (fun c0 => ?_) (fun c0 => ?_)
  ·
    exact c0.elim
  ·
    refine CodeT.skip (EndT.thenN ?_)
    refine CodeT.seq ?_
    refine CodeT.region (.p (opMove (.t rfl)) rfl <| .p (opNilChkO (.t rfl)) rfl <| .p (opFieldO Tryd.fd110_2 (.t rfl)) rfl <| .p (opLoadO (i := 0) Tryd.ag3 (.t rfl) rfl rfl) rfl <| .p (opAssign (.t rfl)) rfl <| .nil ?_)
    refine EndT.thenN ?_
    refine CodeT.ret (Post.retR1 rfl (()) (by trivial) (fun _ _ _ h => h) (.rt rfl) ?_)
    first | exact VLe.refl _ | exact VLe.int (by omega) | exact VLe.prop (by omega) | exact VLe.prop (by simp_all) | exact VLe.prop (by simp; omega)

theorem mwide_spec {mb pb : Nat} {mm : SpD} : FnE Tryd.prog 27 [addrV mb 0] [spaceH mb pb mm] (γ := Unit) (fun _ => True) (fun _ => [spaceH mb pb mm]) (fun _ => propV mm.wide) := by
  refine FnE.intro 11 Tryd.func27 rfl rfl rfl fun w0 S0 M => ?_
  refine CodeT.seq ?_
  refine CodeT.region (.p (opAssign .cf) rfl <| .nil ?_)
  refine EndT.thenN ?_
  refine CodeT.seq ?_
  refine CodeT.region (.p (opMove (.t rfl)) rfl <| .p (opNeqNilO Tryd.underlying39 (.t rfl)) rfl <| .p (opMove (.t rfl)) rfl <| .g (OpG.gT rfl rfl rfl rfl (fun hg => opMove (.t rfl))) rfl rfl <| .g (OpG.gT rfl rfl rfl rfl (fun hg => opNilChkO (.when (.t rfl) hg))) rfl rfl <| .g (OpG.gT rfl rfl rfl rfl (fun hg => opFieldO Tryd.fd110_5 (.when (.t rfl) hg))) rfl rfl <| .g (OpG.gT rfl rfl rfl rfl (fun hg => opLoadO (i := 0) Tryd.ag4 (.when (.t rfl) hg) rfl rfl)) rfl rfl <| .p (opAnd (.t rfl) (.t rfl)) rfl <| .p (opAssign (.t rfl)) rfl <| .nil ?_)
  refine EndT.thenN ?_
  refine CodeT.ret (Post.retR1 rfl (()) (by trivial) (fun _ _ _ h => h) (.rt rfl) ?_)
  exact VLe.prop (by simp)

theorem mgrow_spec {mb pb : Nat} {mm : SpD} {n : Nat} (hp0 : SpOk mm) (hp1 : n < 18446744073709551616) : FnE Tryd.prog 22 [addrV mb 0, intV .u64 (n : Int)] [spaceH mb pb mm] (γ := SpD × Nat × Bool) (fun g => g = growS mm n) (fun g => [spaceH mb pb g.1]) (fun g => tupV [i64V (g.2.1 : Int), propV (g.2.2 = true)]) := by
  refine FnE.intro 38 Tryd.func22 rfl rfl rfl fun w0 S0 M => ?_
  have hmo := hp0.most; have hpm := hp0.pages; have hhm := hp0.high
  refine CodeT.seq ?_
  refine CodeT.region (.p (opAssign (.c _)) rfl <| .p (opAssign .cf) rfl <| .nil ?_)
  refine EndT.thenN ?_
  refine CodeT.seq ?_
  refine CodeT.seq ?_
  refine CodeT.draw 15 2 Tryd.mixed (by kernel_rfl) (.p (opMove (.t rfl)) <| .p (opEqlNilO Tryd.underlying39 (.t rfl)) <| .p (opMove (.t rfl)) <| .cons (OpG.gF rfl rfl rfl rfl (fun hg => opMove (.t rfl))) <| .cons (OpG.gF rfl rfl rfl rfl (fun hg => opMove (.t rfl))) <| .cons (OpG.gF rfl rfl rfl rfl (fun hg => opNilChkO (.when (.t rfl) hg))) <| .cons (OpG.gF rfl rfl rfl rfl (fun hg => opFieldO Tryd.fd110_4 (.when (.t rfl) hg))) <| .cons (OpG.gF rfl rfl rfl rfl (fun hg => opLoadO (i := 0) Tryd.ag3 (.when (.t rfl) hg) rfl rfl)) <| .cons (OpG.gF rfl rfl rfl rfl (fun hg => opMove (.t rfl))) <| .cons (OpG.gF rfl rfl rfl rfl (fun hg => opNilChkO (.when (.t rfl) hg))) <| .cons (OpG.gF rfl rfl rfl rfl (fun hg => opFieldO Tryd.fd110_2 (.when (.t rfl) hg))) <| .cons (OpG.gF rfl rfl rfl rfl (fun hg => opLoadO (i := 0) Tryd.ag3 (.when (.t rfl) hg) rfl rfl)) <| .cons (OpG.gF rfl rfl rfl rfl (fun hg => opSubF (.when (.t rfl) hg) (.when (.t rfl) hg) (fits_i64 (by omega) (by omega)))) <| .cons (OpG.gF rfl rfl rfl rfl (fun hg => opMax (.when (.t rfl) hg) (.c _))) <| .cons (OpG.gF rfl rfl rfl rfl (fun hg => opConvF Tryd.underlying3 Tryd.underlying46 (.when (.t rfl) hg) (fits_u64 (by omega) (by omega)))) <| .nil) (.g (OpG.gF rfl rfl rfl rfl (fun hg => opGtr (.when (.t rfl) hg) (.when (.t rfl) hg))) rfl rfl <| .p (opOr (.t rfl) (.t rfl)) rfl <| .nil ?_)
  refine EndT.thenN ?_
  refine CodeT.cond (.t rfl) (fun c0 => ?_) (fun c0 => ?_)
  ·
    have hc := c0.resolve_left id
    have hgr : growS mm n = (mm, 0, false) := by unfold growS; rw [if_pos (by omega)]
    refine CodeT.seq ?_
    refine CodeT.region (.p (opAssign (.c _)) rfl <| .p (opAssign .cf) rfl <| .nil ?_)
    refine EndT.thenN ?_
    refine CodeT.ret (EndT.thenR (Post.retR rfl rfl ((mm, 0, false)) (by exact hgr.symm) (fun _ _ _ h => h) rfl (.cons (.rt rfl) ?_ (.cons (.rt rfl) ?_ .nil))))
    · exact VLe.refl _
    · exact VLe.prop (by simp)
  ·
    have hc := mt Or.inr c0
    have hgr : growS mm n = ({ mm with pages := mm.pages + n }, mm.pages, true) := by unfold growS; rw [if_neg (by omega)]
    refine CodeT.skip (EndT.thenN ?_)
    refine CodeT.seq ?_
    refine CodeT.region (.p (opMove (.t rfl)) rfl <| .p (opNilChkO (.t rfl)) rfl <| .p (opFieldO Tryd.fd110_2 (.t rfl)) rfl <| .p (opLoadO (i := 0) Tryd.ag3 (.t rfl) rfl rfl) rfl <| .p (opAssign (.t rfl)) rfl <| .nil ?_)
    refine EndT.thenN ?_
    refine CodeT.seq ?_
    refine CodeT.region (.p (opMove (.t rfl)) rfl <| .p (opNilChkO (.t rfl)) rfl <| .p (opFieldO Tryd.fd110_2 (.t rfl)) rfl <| .p (opLoadO (i := 0) Tryd.ag3 (.t rfl) rfl rfl) rfl <| .p (opMove (.t rfl)) rfl <| .p (opConvF Tryd.underlying46 Tryd.underlying3 (.t rfl) (fits_i64 (by omega) (by omega))) rfl <| .p ((opAddF (.t rfl) (.t rfl) (fits_i64 (by omega) (by omega))).le (VLe.int (show _ = ((mm.pages + n : Nat) : Int) by omega))) rfl <| .p (opNilChkO (.t rfl)) rfl <| .p (opFieldO Tryd.fd110_2 (.t rfl)) rfl <| .s (opStoreO (i := 0) Tryd.cz3 (.t rfl) (.t rfl) rfl rfl) <| .nil ?_)
    refine EndT.thenN ?_
    refine CodeT.seq ?_
    refine CodeT.region (.p (opMove (.t rfl)) rfl <| .p (opAssign (.t rfl)) rfl <| .p (opAssign .ct) rfl <| .nil ?_)
    refine EndT.thenN ?_
    refine CodeT.ret (Post.retR rfl rfl (({ mm with pages := mm.pages + n }, mm.pages, true)) (by exact hgr.symm) (fun _ _ _ h => h) rfl (.cons (.rt rfl) ?_ (.cons (.rt rfl) ?_ .nil)))
    · exact VLe.refl _
    · exact VLe.prop (by simp)

theorem mcap_spec {mb pb : Nat} {mm : SpD} {p : Int} : FnE Tryd.prog 28 [addrV mb 0, i64V p] [spaceH mb pb mm] (γ := Unit) (fun _ => True) (fun g => [spaceH mb pb (capS mm p)]) (fun g => propV True) := by
  refine FnE.intro 25 Tryd.func28 rfl rfl rfl fun w0 S0 M => ?_
  refine CodeT.seq ?_
  refine CodeT.region (.p (opAssign .cf) rfl <| .nil ?_)
  refine EndT.thenN ?_
  refine CodeT.seq ?_
  refine CodeT.seq ?_
  refine CodeT.region (.p (opMove (.t rfl)) rfl <| .p (opEqlNilO Tryd.underlying39 (.t rfl)) rfl <| .nil ?_)
  refine EndT.thenN ?_
  refine CodeT.cond (.t rfl) (fun c0 => ?_) (fun c0 => ?_)
  ·
    exact c0.elim
  ·
    refine CodeT.skip (EndT.thenN ?_)
    refine CodeT.seq ?_
    refine CodeT.region (.p (opMove (.t rfl)) rfl <| .p (opMove (.t rfl)) rfl <| .p (opNilChkO (.t rfl)) rfl <| .p (opFieldO Tryd.fd110_3 (.t rfl)) rfl <| .p (opLoadO (i := 0) Tryd.ag3 (.t rfl) rfl rfl) rfl <| .p (opNilChkO (.t rfl)) rfl <| .p (opFieldO Tryd.fd110_4 (.t rfl)) rfl <| .s (opStoreO (i := 0) Tryd.cz3 (.t rfl) (.t rfl) rfl rfl) <| .nil ?_)
    refine EndT.thenN ?_
    refine CodeT.seq ?_
    refine CodeT.seq ?_
    refine CodeT.region (.p (opMove (.t rfl)) rfl <| .p (opGeq (.t rfl) (.c _)) rfl <| .nil ?_)
    refine EndT.thenN ?_
    refine CodeT.cond (.t rfl) (fun c1 => ?_) (fun c1 => ?_)
    ·
      refine CodeT.region (.p (opMove (.t rfl)) rfl <| .p (opMove (.t rfl)) rfl <| .p (opMove (.t rfl)) rfl <| .p (opNilChkO (.t rfl)) rfl <| .p (opFieldO Tryd.fd110_3 (.t rfl)) rfl <| .p (opLoadO (i := 0) Tryd.ag3 (.t rfl) rfl rfl) rfl <| .p ((opMin (.t rfl) (.t rfl)).le (VLe.int (show _ = ((min p.toNat mm.most : Nat) : Int) by omega))) rfl <| .p (opNilChkO (.t rfl)) rfl <| .p (opFieldO Tryd.fd110_4 (.t rfl)) rfl <| .s (opStoreO (i := 0) Tryd.cz3 (.t rfl) (.t rfl) rfl rfl) <| .nil ?_)
      refine EndT.thenN ?_
      refine CodeT.seq ?_
      refine CodeT.region (.p (opAssign .ct) rfl <| .nil ?_)
      refine EndT.thenN ?_
      refine CodeT.ret (Post.retR1 rfl (()) (by trivial) (OLe.headE (by unfold capS; rw [if_pos (by omega)]; rfl)) (.rt rfl) ?_)
      exact VLe.prop (by simp)
    ·
      refine CodeT.skip (EndT.thenN ?_)
      refine CodeT.seq ?_
      refine CodeT.region (.p (opAssign .ct) rfl <| .nil ?_)
      refine EndT.thenN ?_
      refine CodeT.ret (Post.retR1 rfl (()) (by trivial) (OLe.headE (by unfold capS; rw [if_neg (by omega)]; rfl)) (.rt rfl) ?_)
      exact VLe.prop (by simp)

theorem pager08_spec {fr : Int} : FnE Tryd.prog 20 [i64V fr] [] (γ := PgI) (fun _ => True) (fun X => [pagH X 64 4096 (fun _ => True) (zeroC 64) 0 noR]) (fun X => addrV X.pb 0) := by
  refine FnE.intro 28 Tryd.func20 rfl rfl rfl fun w0 S0 M => ?_
  have h64 : classN 64 = 64 := by decide
  refine CodeT.seq ?_
  refine CodeT.region (.p (opAssign (.c _)) rfl <| .nil ?_)
  refine EndT.thenN ?_
  refine CodeT.seq ?_
  refine CodeT.region (.n (opCallE (rest := []) (anew_spec (n := 65536) (by decide)) Tryd.cb12 (.cons (.c _) .nil) (Perm.idx [] rfl rfl)) rfl <| fun g10 h10 => .p (opMove (.t rfl)) rfl <| .p (opExtract (.t rfl) rfl) rfl <| .p (opExtract (.t rfl) rfl) rfl <| .p (opAssign (.t rfl)) rfl <| .p (opAssign (.t rfl)) rfl <| .nil ?_)
  refine EndT.thenN ?_
  refine CodeT.seq ?_
  refine CodeT.region (.n (opCallE (rest := [_, _, _, _]) (snew_spec (n := 64) (cap := 4096) (by decide) (by decide) (by decide) (by decide)) Tryd.cb13 (.cons (.c _) (.cons (.c _) .nil)) (Perm.idx [0, 1, 2, 3] rfl rfl)) rfl <| fun g14 h14 => .p (opMove (.t rfl)) rfl <| .p (opExtract (.t rfl) rfl) rfl <| .p (opExtract (.t rfl) rfl) rfl <| .p (opAssign (.t rfl)) rfl <| .p (opAssign (.t rfl)) rfl <| .nil ?_)
  refine EndT.thenN ?_
  refine CodeT.seq ?_
  refine CodeT.region (.p (opMove (.t rfl)) rfl <| .p (opMove (.t rfl)) rfl <| .p (opMove (.t rfl)) rfl <| .p (opMax (.t rfl) (.c _)) rfl <| .p (opMin (.t rfl) (.c _)) rfl <| .p ((opAddF (.c _) (.t rfl) (fits_i64 (by omega) (by omega))).le (VLe.int (show _ = (((1 + min (max fr 0) 63).toNat : Nat) : Int) by omega))) rfl <| .n (opCallE (rest := []) (pnew_spec (Y := g10) (sb := g14) (z := 64) (q := 4096) (n := (1 + min (max fr 0) 63).toNat) (a0 := ⟨List.replicate 65536 0, 0, 0, []⟩) (arT_new h10 (by decide)) (by omega) (by omega) (by decide) (by decide) (by (show 0 + (1 + min (max fr 0) 63).toNat * classN 64 ≤ _); rw [h10, h64]; omega)) Tryd.cb14 (.cons (.t rfl) (.cons (.t rfl) (.cons (.t rfl) .nil))) (Perm.idx [0, 1, 2, 3, 4] rfl rfl)) rfl <| fun g24 h24 => .p (opMove (.t rfl)) rfl <| .p (opExtract (.t rfl) rfl) rfl <| .p (opExtract (.t rfl) rfl) rfl <| .p (opAssign (.t rfl)) rfl <| .p (opAssign (.t rfl)) rfl <| .nil ?_)
  refine EndT.thenN ?_
  obtain ⟨X24, a24⟩ := g24
  obtain ⟨hX, hX2, hX1, hlo, hhi, hAT, hInv⟩ := h24
  simp only at hX hX2 hX1 hlo hhi hAT hInv
  subst hX2
  refine CodeT.own (pag_new hInv) ?_
  refine CodeT.own (pag_any (T' := fun _ => True) fun _ _ => trivial) ?_
  refine CodeT.seq ?_
  refine CodeT.region (.p (opMove (.t rfl)) rfl <| .p (opAssign (.t rfl)) rfl <| .nil ?_)
  refine EndT.thenN ?_
  refine CodeT.ret (Post.retR1 rfl (X24) (by trivial) (fun _ _ _ h => h) (.rt rfl) ?_)
  first | exact VLe.refl _ | exact VLe.int (by omega) | exact VLe.prop (by omega) | exact VLe.prop (by simp_all) | exact VLe.prop (by simp; omega)

end Go.Proofs.YtiicgelmdmhajaaDoor
