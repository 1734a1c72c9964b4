/-
  Walks, printed by a program (gen.py) out of what its author says of each function.
-/
import Derived.Test.YtiicgelmdmhajaaDoorP08S
import Derived.Test.YtiicgelmdmhajaaDoorP08D
namespace Go.Proofs.YtiicgelmdmhajaaDoor
open Go.Hl Go.RowKit
set_option linter.unusedVariables false
set_option maxRecDepth 100000

theorem spaceGrows_spec {fr more : UInt8} {ys : List UInt8} {a far : Nat} (hp0 : a < 65536) (hp1 : far < 65536) : FnP Tryd.prog 4 [intV .u8 (fr.toNat : Int), sliceV 1 encU8 ys, intV .u16 (a : Int), intV .u16 (far : Int), intV .u8 (more.toNat : Int)] (propV True) := by
  refine FnE.intro 148 Tryd.func4 rfl rfl rfl fun w0 S0 M => ?_
  have hok : SpOk ⟨1, 2, 40, 40, False⟩ := ⟨by decide, by decide, by decide, by decide⟩
  obtain ⟨n, hn⟩ : ∃ n : Nat, n = 1 + more.toNat % 30 := ⟨_, rfl⟩
  have hok1 : SpOk ⟨1, 2 + n, 40, 40, False⟩ := ⟨(show (0 : Int) ≤ 1 by decide), (show 2 + n ≤ 40 by omega), (show 40 ≤ 40 by decide), (show 40 ≤ 65536 by decide)⟩
  have hfn : far * n ≤ 65536 * 30 := Nat.mul_le_mul (by omega) (by omega)
  obtain ⟨r, hr⟩ : ∃ r, r = far * n % (n * 65536 - 100) := ⟨_, rfl⟩
  have hrl : r < n * 65536 - 100 := hr ▸ Nat.mod_lt _ (by omega)
  refine CodeT.seq ?_
  refine CodeT.region (.p (opAssign .cf) rfl <| .nil ?_)
  refine EndT.thenN ?_
  refine CodeT.seq ?_
  refine CodeT.seq ?_
  refine CodeT.region (.p (opMove (.t rfl)) rfl <| .p (opLen rfl Tryd.underlying22 (.t rfl)) rfl <| .p (opGtr (.t rfl) (.c _)) rfl <| .p (opMove (.t rfl)) rfl <| .g (OpG.gF rfl rfl rfl rfl (fun hg => opCall (awake08_spec) Tryd.cb18 .nil)) rfl rfl <| .g (OpG.gF rfl rfl rfl rfl (fun hg => opNot (.when (.t rfl) hg))) rfl rfl <| .p (opOr (.t rfl) (.t rfl)) rfl <| .nil ?_)
  refine EndT.thenN ?_
  refine CodeT.cond (.t rfl) (fun c0 => ?_) (fun c0 => ?_)
  ·
    refine CodeT.seq ?_
    refine CodeT.region (.p (opCall (awake08_spec) Tryd.cb18 .nil) rfl <| .p (opAssign (.t rfl)) rfl <| .nil ?_)
    refine EndT.thenN ?_
    refine CodeT.ret (EndT.thenR (Post.retP rfl rfl ?_))
    exact VLe.prop (by simp)
  ·
    have hl : ys.length ≤ 400 := by omega
    obtain ⟨hws, hwl, hwz, hld, hlz⟩ := grows_ok (n := n) hp0 hl hrl (by omega)
    refine CodeT.skip (EndT.thenN ?_)
    refine CodeT.seq ?_
    refine CodeT.region (.p (opMove (.t rfl)) rfl <| .p (opRem (.t rfl) (.c _) (by omega) (by omega)) rfl <| .p (opConvF Tryd.underlying5 Tryd.underlying3 (.t rfl) (fits_i64 (by omega) (by omega))) rfl <| .n (opCallE (rest := []) (pager08_spec (fr := (fr.toNat : Int) % 5)) Tryd.cb20 (.cons (.t rfl) .nil) (Perm.idx [] rfl rfl)) rfl <| fun g38 h38 => .n (opCallE (rest := [_]) (mnew_spec (pb := g38.pb) (num := 1) (pages := 2) (most := 40) (wide := False) (by decide) (by decide) (by decide)) Tryd.cb19 (.cons (.t rfl) (.cons (.c _) (.cons (.c _) (.cons (.c _) (.cons .cf .nil))))) (Perm.idx [0] rfl rfl)) rfl <| fun g39 h39 => .p (opMove (.t rfl)) rfl <| .p (opExtract (.t rfl) rfl) rfl <| .p (opExtract (.t rfl) rfl) rfl <| .p (opAssign (.t rfl)) rfl <| .p (opAssign (.t rfl)) rfl <| .nil ?_)
    refine EndT.thenN ?_
    refine CodeT.seq ?_
    refine CodeT.region (.p (opMove (.t rfl)) rfl <| .p (opRem (.t rfl) (.c _) (by omega) (by omega)) rfl <| .p (opConvF Tryd.underlying5 Tryd.underlying3 (.t rfl) (fits_i64 (by omega) (by omega))) rfl <| .p ((opAddF (.c _) (.t rfl) (fits_i64 (by omega) (by omega))).le (VLe.int (show _ = ((n : Nat) : Int) by omega))) rfl <| .p (opAssign (.t rfl)) rfl <| .nil ?_)
    refine EndT.thenN ?_
    refine CodeT.seq ?_
    refine CodeT.region (.p (opMove (.t rfl)) rfl <| .p (opMove (.t rfl)) rfl <| .p (opConvF Tryd.underlying38 Tryd.underlying46 (.t rfl) (fits_u64 (by omega) (by omega))) rfl <| .p (opMove (.t rfl)) rfl <| .n (opCallE (rest := []) (mstore_spec (mb := g39) (mm := ⟨1, 2, 40, 40, False⟩) (X := g38) (z := 64) (q := 4096) (m := 0) (T := fun _ => True) (C := zeroC 64) (R := noR) (a := a) (o := 0) (ys := ys) (noR_ok _) (by decide) (by decide) hok (by omega) (by decide) (by omega) (by omega)) Tryd.cb21 (.cons (.t rfl) (.cons (.t rfl) (.cons (.c _) (.cons (.t rfl) .nil)))) (Perm.idx [0, 1] rfl rfl)) rfl <| fun g51 h51 => .p (opMove (.t rfl)) rfl <| .p ((opExtract (.t rfl) rfl).le (VLe.int (show _ = (0 : Int) by rw [hws]; rfl))) rfl <| .p ((opExtract (.t rfl) rfl).le (VLe.int (show _ = (0 : Int) by rw [hws]; rfl))) rfl <| .p (opAssign (.t rfl)) rfl <| .p (opAssign (.t rfl)) rfl <| .nil ?_)
    refine EndT.thenN ?_
    refine CodeT.seq ?_
    refine CodeT.region (.p (opMove (.t rfl)) rfl <| .p (opMove (.t rfl)) rfl <| .p (opConvF Tryd.underlying3 Tryd.underlying46 (.t rfl) (fits_u64 (by omega) (by omega))) rfl <| .n (opCallE (rest := [_]) (mgrow_spec (mb := g39) (pb := g38.pb) (mm := ⟨1, 2, 40, 40, False⟩) (n := n) hok (by omega)) Tryd.cb22 (.cons (.t rfl) (.cons (.t rfl) .nil)) (Perm.idx [0, 1] rfl rfl)) rfl <| fun g58 h58 => .p (opMove (.t rfl)) rfl <| .p (opExtract (.t rfl) rfl) rfl <| .p (opExtract (.t rfl) rfl) rfl <| .p (opAssign (.t rfl)) rfl <| .p (opAssign (.t rfl)) rfl <| .nil ?_)
    refine EndT.thenN ?_
    have hg : growS ⟨1, 2, 40, 40, False⟩ n = (⟨1, 2 + n, 40, 40, False⟩, 2, true) := by (unfold growS; rw [if_neg (by show ¬ (40 - 2 < n); omega)])
    rw [hg] at h58
    subst h58
    refine CodeT.seq ?_
    refine CodeT.region (.p (opMove (.t rfl)) rfl <| .p (opMove (.t rfl)) rfl <| .p (opConvF Tryd.underlying38 Tryd.underlying46 (.t rfl) (fits_u64 (by omega) (by omega))) rfl <| .p (opMove (.t rfl)) rfl <| .p (opLen rfl Tryd.underlying22 (.t rfl)) rfl <| .n (opCallE (rest := []) (mload_spec (mb := g39) (mm := ⟨1, 2 + n, 40, 40, False⟩) (X := g38) (z := 64) (q := 4096) (m := 0 + (ys.length / 64 + 2)) (T := fun _ => True) (C := if (wrongS 2 a 0 (ys.length : Int)).2 = (0, 0) then wrC 64 (zeroC 64) 1 (a + 0) ys else zeroC 64) (R := noR) (a := a) (o := 0) (n := (ys.length : Int)) (noR_ok _) (by decide) (by decide) hok1 (by omega) (by decide)) Tryd.cb23 (.cons (.t rfl) (.cons (.t rfl) (.cons (.c _) (.cons (.t rfl) .nil)))) (Perm.idx [0, 1] rfl rfl)) rfl <| fun g67 h67 => .p (opMove (.t rfl)) rfl <| .p ((opExtract (.t rfl) rfl).le (VLe.of_eq (congrArg (sliceV 1 encU8) hld))) rfl <| .p ((opExtract (.t rfl) rfl).le (VLe.int (show _ = (0 : Int) by rw [hwl]; rfl))) rfl <| .p ((opExtract (.t rfl) rfl).le (VLe.int (show _ = (0 : Int) by rw [hwl]; rfl))) rfl <| .p (opAssign (.t rfl)) rfl <| .p (opAssign (.t rfl)) rfl <| .p (opAssign (.t rfl)) rfl <| .nil ?_)
    refine EndT.thenN ?_
    refine CodeT.seq ?_
    refine CodeT.region (.p (opMove (.t rfl)) rfl <| .p (opConvF Tryd.underlying38 Tryd.underlying46 (.t rfl) (fits_u64 (by omega) (by omega))) rfl <| .p (opMove (.t rfl)) rfl <| .p (opConvF Tryd.underlying3 Tryd.underlying46 (.t rfl) (fits_u64 (by omega) (by omega))) rfl <| .p ((opMulF (.t rfl) (.t rfl) (by rw [← Int.natCast_mul]; exact fits_u64 (by omega) (by omega))).le (VLe.int (show _ = ((far * n : Nat) : Int) from (Int.natCast_mul _ _).symm))) rfl <| .p (opMove (.t rfl)) rfl <| .p (opConvF Tryd.underlying3 Tryd.underlying46 (.t rfl) (fits_u64 (by omega) (by omega))) rfl <| .p (opMulF (.t rfl) (.c _) (fits_u64 (by omega) (by omega))) rfl <| .p (opSubF (.t rfl) (.c _) (fits_u64 (by omega) (by omega))) rfl <| .p ((opRem (.t rfl) (.t rfl) (by omega) (by omega)).le (VLe.int (show _ = ((r : Nat) : Int) by (rw [hr, Int.natCast_emod]; congr 1; omega)))) rfl <| .p ((opAddF (.c _) (.t rfl) (fits_u64 (by omega) (by omega))).le (VLe.int (show _ = ((131072 + r : Nat) : Int) by omega))) rfl <| .p (opAssign (.t rfl)) rfl <| .nil ?_)
    refine EndT.thenN ?_
    refine CodeT.seq ?_
    refine CodeT.region (.p (opMove (.t rfl)) rfl <| .p (opMove (.t rfl)) rfl <| .n (opCallE (rest := []) (mload_spec (mb := g39) (mm := ⟨1, 2 + n, 40, 40, False⟩) (X := g38) (z := 64) (q := 4096) (m := 0 + (ys.length / 64 + 2)) (T := fun _ => True) (C := if (wrongS 2 a 0 (ys.length : Int)).2 = (0, 0) then wrC 64 (zeroC 64) 1 (a + 0) ys else zeroC 64) (R := noR) (a := 131072 + r) (o := 0) (n := 100) (noR_ok _) (by decide) (by decide) hok1 (by omega) (by decide)) Tryd.cb23 (.cons (.t rfl) (.cons (.t rfl) (.cons (.c _) (.cons (.c _) .nil)))) (Perm.idx [0, 1] rfl rfl)) rfl <| fun g85 h85 => .p (opMove (.t rfl)) rfl <| .p ((opExtract (.t rfl) rfl).le (VLe.of_eq (congrArg (sliceV 1 encU8) hlz))) rfl <| .p ((opExtract (.t rfl) rfl).le (VLe.int (show _ = (0 : Int) by rw [hwz]; rfl))) rfl <| .p ((opExtract (.t rfl) rfl).le (VLe.int (show _ = (0 : Int) by rw [hwz]; rfl))) rfl <| .p (opAssign (.t rfl)) rfl <| .p (opAssign (.t rfl)) rfl <| .p (opAssign (.t rfl)) rfl <| .nil ?_)
    refine EndT.thenN ?_
    refine CodeT.seq ?_
    refine CodeT.seq ?_
    refine CodeT.region (.p (opAssign (.c _)) rfl <| .nil ?_)
    refine EndT.thenN ?_
    refine CodeT.block ?_
    refine CodeT.loopO (σ := Nat) (fun _ => _) (fun i => [(25, i64V (i : Int))]) (fun i => i ≤ 100) (fun i => 100 - i) 0 (Nat.zero_le _) rfl ?_ ?_
    · exact (.get rfl (VLe.refl _) (.refl _ _))
    · rintro i hi
      refine CodeT.seq ?_
      refine CodeT.seq ?_
      refine CodeT.region (.p (opMove (.t rfl)) rfl <| .p (opMove (.t rfl)) rfl <| .p (opLen rfl Tryd.underlying22 (.t rfl)) rfl <| .p (opLss (.t rfl) (.t rfl)) rfl <| .nil ?_)
      refine EndT.thenN ?_
      refine CodeT.cond (.t rfl) (fun c1 => ?_) (fun c1 => ?_)
      ·
        obtain ⟨x, hx⟩ := getElem?_lt (xs := List.replicate 100 (0 : UInt8)) (k := i) (by simp at c1 ⊢; omega)
        have hx0 : x = 0 := by (rw [List.getElem?_replicate] at hx; split at hx; (exact (Option.some.inj hx).symm); cases hx)
        subst hx0
        refine CodeT.skip (EndT.thenN ?_)
        refine CodeT.seq ?_
        refine CodeT.block ?_
        refine CodeT.seq ?_
        refine CodeT.region (.p (opMove (.t rfl)) rfl <| .p (opMove (.t rfl)) rfl <| .p (opIndexAddr (j := i) Tryd.underlying22 Tryd.cz5 rfl (.t rfl) (.t rfl) rfl hx) rfl <| .p (opLoad Tryd.ag5 (.t rfl)) rfl <| .p (opNeq (.t rfl) (.c _)) rfl <| .nil ?_)
        refine EndT.thenN ?_
        refine CodeT.cond (.t rfl) (fun c2 => ?_) (fun c2 => ?_)
        ·
          exact absurd rfl c2
        ·
          refine CodeT.skip (EndT.blkN (EndT.thenN ?_))
          refine CodeT.region (.p (opMove (.t rfl)) rfl <| .p (opAddF (.t rfl) (.c _) (fits_i64 (by omega) (by omega))) rfl <| .p (opAssign (.t rfl)) rfl <| .nil ?_)
          refine EndT.round (i + 1) (by simp at c1; omega) (by simp at c1; omega) rfl ?_
          exact (.get rfl (VLe.int (by (show (i : Int) + 1 = ((i + 1 : Nat) : Int); omega))) ((.keep 13 rfl rfl)))
      ·
        refine CodeT.exit (EndT.thenX (EndT.thenX (EndT.blkX (EndT.thenN ?_))))
        refine CodeT.seq ?_
        refine CodeT.region (.p (opMove (.t rfl)) rfl <| .p (opEql (.t rfl) (.c _)) rfl <| .p (opMove (.t rfl)) rfl <| .g (OpG.gT rfl rfl rfl rfl (fun hg => opMove (.t rfl))) rfl rfl <| .g (OpG.gT rfl rfl rfl rfl (fun hg => opEql (.when (.t rfl) hg) (.c _))) rfl rfl <| .p (opAnd (.t rfl) (.t rfl)) rfl <| .p (opMove (.t rfl)) rfl <| .g (OpG.gT rfl rfl rfl rfl (fun hg => opMove (.t rfl))) rfl rfl <| .g (OpG.gT rfl rfl rfl rfl (fun hg => opEql (.when (.t rfl) hg) (.c _))) rfl rfl <| .p (opAnd (.t rfl) (.t rfl)) rfl <| .p (opMove (.t rfl)) rfl <| .g (OpG.gT rfl rfl rfl rfl (fun hg => opMove (.t rfl))) rfl rfl <| .p (opAnd (.t rfl) (.t rfl)) rfl <| .p (opMove (.t rfl)) rfl <| .g (OpG.gT rfl rfl rfl rfl (fun hg => opMove (.t rfl))) rfl rfl <| .egT rfl rfl rfl rfl (fun hg => ((opCallE (rest := [_]) (mpages_spec (mb := g39) (pb := g38.pb) (mm := ⟨1, 2 + n, 40, 40, False⟩)) Tryd.cb24 (.cons (.when (.t rfl) hg) .nil) (Perm.idx [0, 1] rfl rfl)).same (fun _ _ => OLe.refl _) (fun _ _ => VLe.refl _)).same (fun _ _ => OLe.refl _) (fun _ _ => VLe.refl _)) rfl rfl <| .g (OpG.gT rfl rfl rfl rfl (fun hg => opMove (.t rfl))) rfl rfl <| .g (OpG.gT rfl rfl rfl rfl (fun hg => opAddF (.c _) (.when (.t rfl) hg) (fits_i64 (by omega) (by omega)))) rfl rfl <| .g (OpG.gT rfl rfl rfl rfl (fun hg => opEql (.when (.t rfl) hg) (.when (.t rfl) hg))) rfl rfl <| .p (opAnd (.t rfl) (.t rfl)) rfl <| .p (opMove (.t rfl)) rfl <| .g (OpG.gT rfl rfl rfl rfl (fun hg => opMove (.t rfl))) rfl rfl <| .g (OpG.gT rfl rfl rfl rfl (fun hg => opEql (.when (.t rfl) hg) (.c _))) rfl rfl <| .p (opAnd (.t rfl) (.t rfl)) rfl <| .p (opMove (.t rfl)) rfl <| .g (OpG.gT rfl rfl rfl rfl (fun hg => opMove (.t rfl))) rfl rfl <| .g (OpG.gT rfl rfl rfl rfl (fun hg => opEql (.when (.t rfl) hg) (.c _))) rfl rfl <| .p (opAnd (.t rfl) (.t rfl)) rfl <| .p (opMove (.t rfl)) rfl <| .g (OpG.gT rfl rfl rfl rfl (fun hg => opMove (.t rfl))) rfl rfl <| .g (OpG.gT rfl rfl rfl rfl (fun hg => opBytesStr Tryd.underlying22 Tryd.underlying5 Tryd.underlying9 (.when (.t rfl) hg))) rfl rfl <| .g (OpG.gT rfl rfl rfl rfl (fun hg => opMove (.t rfl))) rfl rfl <| .g (OpG.gT rfl rfl rfl rfl (fun hg => opBytesStr Tryd.underlying22 Tryd.underlying5 Tryd.underlying9 (.when (.t rfl) hg))) rfl rfl <| .g (OpG.gT rfl rfl rfl rfl (fun hg => opEqlS (.when (.t rfl) hg) (.when (.t rfl) hg))) rfl rfl <| .p (opAnd (.t rfl) (.t rfl)) rfl <| .p (opMove (.t rfl)) rfl <| .g (OpG.gT rfl rfl rfl rfl (fun hg => opMove (.t rfl))) rfl rfl <| .g (OpG.gT rfl rfl rfl rfl (fun hg => opEql (.when (.t rfl) hg) (.c _))) rfl rfl <| .p (opAnd (.t rfl) (.t rfl)) rfl <| .p (opMove (.t rfl)) rfl <| .g (OpG.gT rfl rfl rfl rfl (fun hg => opMove (.t rfl))) rfl rfl <| .g (OpG.gT rfl rfl rfl rfl (fun hg => opEql (.when (.t rfl) hg) (.c _))) rfl rfl <| .p (opAnd (.t rfl) (.t rfl)) rfl <| .p (opMove (.t rfl)) rfl <| .g (OpG.gT rfl rfl rfl rfl (fun hg => opMove (.t rfl))) rfl rfl <| .g (OpG.gT rfl rfl rfl rfl (fun hg => opLen rfl Tryd.underlying22 (.when (.t rfl) hg))) rfl rfl <| .g (OpG.gT rfl rfl rfl rfl (fun hg => opEql (.when (.t rfl) hg) (.c _))) rfl rfl <| .p (opAnd (.t rfl) (.t rfl)) rfl <| .p (opAssign (.t rfl)) rfl <| .nil ?_)
        refine EndT.thenN ?_
        refine CodeT.ret (Post.retP rfl rfl ?_)
        exact VLe.prop (by simp)

theorem spaceGrowsW_spec {fr more : UInt8} {ys : List UInt8} {fa ta : IntOf .u16} : FnP Tryd.prog 4 [intV .u8 (fr.toNat : Int), sliceV 1 encU8 ys, intV .u16 fa.1, intV .u16 ta.1, intV .u8 (more.toNat : Int)] (propV True) := by
  obtain ⟨m, hm, hlt⟩ := nat_of16 fa
  obtain ⟨m2, hm2, hlt2⟩ := nat_of16 ta
  rw [hm, hm2]
  exact spaceGrows_spec hlt hlt2

end Go.Proofs.YtiicgelmdmhajaaDoor
