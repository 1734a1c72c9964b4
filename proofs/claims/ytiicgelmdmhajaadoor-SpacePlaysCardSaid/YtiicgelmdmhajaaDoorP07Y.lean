/-
  Walks, printed by a program (gen.py) out of what its author says of each function.
-/
import Derived.Test.YtiicgelmdmhajaaDoorP07X
import Derived.Test.YtiicgelmdmhajaaDoorP07B
namespace Go.Proofs.YtiicgelmdmhajaaDoor
open Go.Hl Go.RowKit
set_option linter.unusedVariables false
set_option maxRecDepth 100000

theorem psize_spec {X : PgI} {p : PgD} {s : StD} : FnE Tryd.prog 63 [addrV X.pb 0] [pagerC X p, storeH X.sb s] (γ := Unit) (fun _ => True) (fun _ => [pagerC X p, storeH X.sb s]) (fun _ => i64V (s.size : Int)) := by
  refine FnE.intro 10 Tryd.func63 rfl rfl rfl fun w0 S0 M => ?_
  refine CodeT.seq ?_
  refine CodeT.region (.p (opAssign (.c _)) rfl <| .nil ?_)
  refine EndT.thenN ?_
  refine CodeT.seq ?_
  refine CodeT.seq ?_
  refine CodeT.region (.p (opMove (.t rfl)) rfl <| .p (opEqlNilO Tryd.underlying31 (.t rfl)) rfl <| .nil ?_)
  refine EndT.thenN ?_
  refine CodeT.cond (.t rfl) (fun c0 => ?_) (fun c0 => ?_)
  ·
    exact c0.elim
  ·
    refine CodeT.skip (EndT.thenN ?_)
    refine CodeT.seq ?_
    refine CodeT.region (.p (opMove (.t rfl)) rfl <| .p (opNilChkO (.t rfl)) rfl <| .p (opFieldO Tryd.fd96_1 (.t rfl)) rfl <| .p (opLoadO (i := 0) Tryd.ag28 (.t rfl) rfl rfl) rfl <| .n ((opCallE (rest := [_]) (ssize_spec) Tryd.cb39 (.cons (.t rfl) .nil) (Perm.idx [1, 0] rfl rfl)).same (fun _ _ => OLe.perm (Perm.idx [1, 0] rfl rfl)) (fun _ _ => VLe.refl _)) rfl <| fun _ _ => .p (opAssign (.t rfl)) rfl <| .nil ?_)
    refine EndT.thenN ?_
    refine CodeT.ret (Post.retR1 rfl (()) (by trivial) (fun _ _ _ h => h) (.rt rfl) ?_)
    first | exact VLe.refl _ | exact VLe.int (by omega) | exact VLe.prop (by omega) | exact VLe.prop (by simp_all) | exact VLe.prop (by simp; omega)

theorem pstops_spec {X : PgI} {p : PgD} : FnE Tryd.prog 47 [addrV X.pb 0] [pagerC X p] (γ := Unit) (fun _ => True) (fun _ => [pagerC X p]) (fun _ => propV (stopsP p)) := by
  refine FnE.intro 18 Tryd.func47 rfl rfl rfl fun w0 S0 M => ?_
  refine CodeT.seq ?_
  refine CodeT.region (.p (opAssign .cf) rfl <| .nil ?_)
  refine EndT.thenN ?_
  refine CodeT.seq ?_
  refine CodeT.region (.p (opMove (.t rfl)) rfl <| .p (opEqlNilO Tryd.underlying31 (.t rfl)) rfl <| .p (opMove (.t rfl)) rfl <| .g (OpG.gF rfl rfl rfl rfl (fun hg => opMove (.t rfl))) rfl rfl <| .g (OpG.gF rfl rfl rfl rfl (fun hg => opNilChkO (.when (.t rfl) hg))) rfl rfl <| .g (OpG.gF rfl rfl rfl rfl (fun hg => opFieldO Tryd.fd96_7 (.when (.t rfl) hg))) rfl rfl <| .g (OpG.gF rfl rfl rfl rfl (fun hg => opLoadO (i := 0) Tryd.ag4 (.when (.t rfl) hg) rfl rfl)) rfl rfl <| .p (opOr (.t rfl) (.t rfl)) rfl <| .p (opMove (.t rfl)) rfl <| .g (OpG.gF rfl rfl rfl rfl (fun hg => opMove (.t rfl))) rfl rfl <| .g (OpG.gF rfl rfl rfl rfl (fun hg => opNilChkO (.when (.t rfl) hg))) rfl rfl <| .g (OpG.gF rfl rfl rfl rfl (fun hg => opFieldO Tryd.fd96_6 (.when (.t rfl) hg))) rfl rfl <| .g (OpG.gF rfl rfl rfl rfl (fun hg => opLoadO (i := 0) Tryd.ag25 (.when (.t rfl) hg) rfl rfl)) rfl rfl <| .g (OpG.gF rfl rfl rfl rfl (fun hg => opNeq (.when (.t rfl) hg) (.c _))) rfl rfl <| .p (opOr (.t rfl) (.t rfl)) rfl <| .p (opAssign (.t rfl)) rfl <| .nil ?_)
  refine EndT.thenN ?_
  refine CodeT.ret (Post.retR1 rfl (()) (by trivial) (fun _ _ _ h => h) (.rt rfl) ?_)
  exact VLe.prop (by simp only [stopsP, ← BP_iff, false_or]; by_cases hb : BP p.closed <;> simp [hb])

theorem pbreaks_spec {X : PgI} {p : PgD} {e : Nat} : FnE Tryd.prog 45 [addrV X.pb 0, i64V (e : Int)] [pagerC X p] (γ := PgD) (fun g => g = { p with fault := if e = 0 then p.fault else e }) (fun g => [pagerC X g]) (fun _ => i64V (e : Int)) := by
  refine FnE.intro 12 Tryd.func45 rfl rfl rfl fun w0 S0 M => ?_
  refine CodeT.seq ?_
  refine CodeT.region (.p (opAssign (.c _)) rfl <| .nil ?_)
  refine EndT.thenN ?_
  refine CodeT.seq ?_
  refine CodeT.seq ?_
  refine CodeT.region (.p (opMove (.t rfl)) rfl <| .p (opNeq (.t rfl) (.c _)) rfl <| .nil ?_)
  refine EndT.thenN ?_
  refine CodeT.cond (.t rfl) (fun c0 => ?_) (fun c0 => ?_)
  ·
    refine CodeT.region (.p (opMove (.t rfl)) rfl <| .p (opMove (.t rfl)) rfl <| .p (opNilChkO (.t rfl)) rfl <| .p (opFieldO Tryd.fd96_6 (.t rfl)) rfl <| .s (opStoreO (i := 0) Tryd.cz25 (.t rfl) (.t rfl) rfl rfl) <| .nil ?_)
    refine EndT.thenN ?_
    refine CodeT.seq ?_
    refine CodeT.region (.p (opMove (.t rfl)) rfl <| .p (opAssign (.t rfl)) rfl <| .nil ?_)
    refine EndT.thenN ?_
    refine CodeT.ret (Post.retR1 rfl ({ p with fault := e }) (by rw [if_neg (by omega)]) (fun _ _ _ h => h) (.rt rfl) ?_)
    first | exact VLe.refl _ | exact VLe.int (by omega) | exact VLe.prop (by omega) | exact VLe.prop (by simp_all) | exact VLe.prop (by simp; omega)
  ·
    refine CodeT.skip (EndT.thenN ?_)
    refine CodeT.seq ?_
    refine CodeT.region (.p (opMove (.t rfl)) rfl <| .p (opAssign (.t rfl)) rfl <| .nil ?_)
    refine EndT.thenN ?_
    refine CodeT.ret (Post.retR1 rfl (p) (by rw [if_pos (by omega)]) (fun _ _ _ h => h) (.rt rfl) ?_)
    first | exact VLe.refl _ | exact VLe.int (by omega) | exact VLe.prop (by omega) | exact VLe.prop (by simp_all) | exact VLe.prop (by simp; omega)

theorem pknown_spec {X : PgI} {p : PgD} {k : PairK} : FnE Tryd.prog 42 [addrV X.pb 0, aggV [i64V k.1, i64V k.2]] [pagerC X p, pagerI X p, pagerB X p] (γ := Unit) (fun _ => True) (fun _ => [pagerC X p, pagerI X p, pagerB X p]) (fun _ => propV (knownP p k)) := by
  refine FnE.intro 31 Tryd.func42 rfl rfl rfl fun w0 S0 M => ?_
  refine CodeT.seq ?_
  refine CodeT.region (.p (opBoxA (.t rfl)) rfl <| .p (opAssign .cf) rfl <| .nil ?_)
  refine EndT.thenN ?_
  refine CodeT.seq ?_
  refine CodeT.draw 10 1 Tryd.mixed (by kernel_rfl) (.p (opMove (.t rfl)) <| .p (opNilChkO (.t rfl)) <| .p (opFieldO Tryd.fd96_4 (.t rfl)) <| .p (opLoadO (i := 0) Tryd.ag93 (.t rfl) rfl rfl) <| .p (opLoadA Tryd.ag100 Tryd.cz100 rfl (.t rfl) rfl) <| .p (opLookOk (i := 1) Tryd.kt93 Tryd.underlying93 (fun w => run_zv Tryd.zv3 w) (.t rfl) (.le (.t rfl) agg_pair) rfl) <| .p (opMove (.t rfl)) <| .p (opExtract (.t rfl) rfl) <| .p (opExtract (.t rfl) rfl) <| .p (opAssign (.t rfl)) <| .nil) (.p (opAssign (.t rfl)) rfl <| .nil ?_)
  refine EndT.thenN ?_
  refine CodeT.seq ?_
  refine CodeT.draw 10 1 Tryd.mixed (by kernel_rfl) (.p (opMove (.t rfl)) <| .p (opNilChkO (.t rfl)) <| .p (opFieldO Tryd.fd96_5 (.t rfl)) <| .p (opLoadO (i := 0) Tryd.ag93 (.t rfl) rfl rfl) <| .p (opLoadA Tryd.ag100 Tryd.cz100 rfl (.t rfl) rfl) <| .p (opLookOk (i := 2) Tryd.kt93 Tryd.underlying93 (fun w => run_zv Tryd.zv3 w) (.t rfl) (.le (.t rfl) agg_pair) rfl) <| .p (opMove (.t rfl)) <| .p (opExtract (.t rfl) rfl) <| .p (opExtract (.t rfl) rfl) <| .p (opAssign (.t rfl)) <| .nil) (.p (opAssign (.t rfl)) rfl <| .nil ?_)
  refine EndT.thenN ?_
  refine CodeT.seq ?_
  refine CodeT.region (.p (opMove (.t rfl)) rfl <| .p (opMove (.t rfl)) rfl <| .g (OpG.gF rfl rfl rfl rfl (fun hg => opMove (.t rfl))) rfl rfl <| .p (opOr (.t rfl) (.t rfl)) rfl <| .p (opAssign (.t rfl)) rfl <| .nil ?_)
  refine EndT.thenN ?_
  refine CodeT.ret (Post.retR1 rfl (()) (by trivial) (fun _ _ _ h => h) (.rt rfl) ?_)
  first | exact VLe.refl _ | exact VLe.int (by omega) | exact VLe.prop (by omega) | exact VLe.prop (by simp_all) | exact VLe.prop (by simp; omega)

theorem pwrong_spec {X : PgI} {p : PgD} {s : StD} {k : PairK} {at_ n : Int} (hp0 : s.size ≤ 1024) : FnE Tryd.prog 41 [addrV X.pb 0, aggV [i64V k.1, i64V k.2], i64V at_, i64V n] [pagerC X p, storeH X.sb s] (γ := Unit) (fun _ => True) (fun _ => [pagerC X p, storeH X.sb s]) (fun _ => i64V (wrongF p s.size k at_ n : Int)) := by
  refine FnE.intro 42 Tryd.func41 rfl rfl rfl fun w0 S0 M => ?_
  refine CodeT.seq ?_
  refine CodeT.region (.p (opBoxA (.t rfl)) rfl <| .p (opAssign (.c _)) rfl <| .nil ?_)
  refine EndT.thenN ?_
  refine CodeT.seq ?_
  refine CodeT.block ?_
  refine CodeT.seq ?_
  refine CodeT.region (.p (opMove (.t rfl)) rfl <| .n ((opCallE (rest := [_]) (pstops_spec) Tryd.cb47 (.cons (.t rfl) .nil) (Perm.idx [0, 1] rfl rfl)).same (fun _ _ => OLe.refl _) (fun _ _ => VLe.refl _)) rfl <| fun _ _ => .p (opAssign (.t rfl)) rfl <| .nil ?_)
  refine EndT.thenN ?_
  refine CodeT.cond (.t rfl) (fun c0 => ?_) (fun c0 => ?_)
  ·
    refine CodeT.seq ?_
    refine CodeT.region (.p (opAssign (.c _)) rfl <| .nil ?_)
    refine EndT.thenN ?_
    refine CodeT.ret (EndT.blkR (EndT.thenR (Post.retR1 rfl (()) (by trivial) (fun _ _ _ h => h) (.rt rfl) ?_)))
    exact VLe.int (by simp only [wrongF]; rw [if_pos c0]; rfl)
  ·
    refine CodeT.seq ?_
    refine CodeT.region (.p (opField Tryd.fd100_0 (.t rfl)) rfl <| .p (opLoad Tryd.ag3 (.t rfl)) rfl <| .p (opLss (.t rfl) (.c _)) rfl <| .p (opMove (.t rfl)) rfl <| .g (OpG.gF rfl rfl rfl rfl (fun hg => opField Tryd.fd100_1 (.t rfl))) rfl rfl <| .g (OpG.gF rfl rfl rfl rfl (fun hg => opLoad Tryd.ag3 (.when (.t rfl) hg))) rfl rfl <| .g (OpG.gF rfl rfl rfl rfl (fun hg => opLss (.when (.t rfl) hg) (.c _))) rfl rfl <| .p (opOr (.t rfl) (.t rfl)) rfl <| .p (opAssign (.t rfl)) rfl <| .nil ?_)
    refine EndT.thenN ?_
    refine CodeT.cond (.t rfl) (fun c1 => ?_) (fun c1 => ?_)
    ·
      refine CodeT.seq ?_
      refine CodeT.region (.p (opAssign (.c _)) rfl <| .nil ?_)
      refine EndT.thenN ?_
      refine CodeT.ret (EndT.blkR (EndT.thenR (Post.retR1 rfl (()) (by trivial) (fun _ _ _ h => h) (.rt rfl) ?_)))
      exact VLe.int (by simp only [wrongF]; rw [if_neg c0, if_pos (by omega)]; rfl)
    ·
      refine CodeT.seq ?_
      refine CodeT.region (.p (opMove (.t rfl)) rfl <| .p (opLss (.t rfl) (.c _)) rfl <| .p (opMove (.t rfl)) rfl <| .g (OpG.gF rfl rfl rfl rfl (fun hg => opMove (.t rfl))) rfl rfl <| .g (OpG.gF rfl rfl rfl rfl (fun hg => opLss (.when (.t rfl) hg) (.c _))) rfl rfl <| .p (opOr (.t rfl) (.t rfl)) rfl <| .p (opMove (.t rfl)) rfl <| .g (OpG.gF rfl rfl rfl rfl (fun hg => opMove (.t rfl))) rfl rfl <| .g (OpG.gF rfl rfl rfl rfl (fun hg => opMove (.t rfl))) rfl rfl <| .egF rfl rfl rfl rfl (fun hg => ((opCallE (rest := []) (psize_spec) Tryd.cb63 (.cons (.when (.t rfl) hg) .nil) (Perm.idx [0, 1] rfl rfl)).same (fun _ _ => OLe.refl _) (fun _ _ => VLe.refl _)).same (fun _ _ => OLe.refl _) (fun _ _ => VLe.refl _)) rfl rfl <| .g (OpG.gF rfl rfl rfl rfl (fun hg => opGtr (.when (.t rfl) hg) (.when (.t rfl) hg))) rfl rfl <| .p (opOr (.t rfl) (.t rfl)) rfl <| .p (opMove (.t rfl)) rfl <| .g (OpG.gF rfl rfl rfl rfl (fun hg => opMove (.t rfl))) rfl rfl <| .g (OpG.gF rfl rfl rfl rfl (fun hg => opMove (.t rfl))) rfl rfl <| .egF rfl rfl rfl rfl (fun hg => ((opCallE (rest := []) (psize_spec) Tryd.cb63 (.cons (.when (.t rfl) hg) .nil) (Perm.idx [0, 1] rfl rfl)).same (fun _ _ => OLe.refl _) (fun _ _ => VLe.refl _)).same (fun _ _ => OLe.refl _) (fun _ _ => VLe.refl _)) rfl rfl <| .g (OpG.gF rfl rfl rfl rfl (fun hg => opMove (.t rfl))) rfl rfl <| .g (OpG.gF rfl rfl rfl rfl (fun hg => opSubF (.when (.t rfl) hg) (.when (.t rfl) hg) (fits_i64 (by omega) (by omega)))) rfl rfl <| .g (OpG.gF rfl rfl rfl rfl (fun hg => opGtr (.when (.t rfl) hg) (.when (.t rfl) hg))) rfl rfl <| .p (opOr (.t rfl) (.t rfl)) rfl <| .p (opAssign (.t rfl)) rfl <| .nil ?_)
      refine EndT.thenN ?_
      refine CodeT.cond (.t rfl) (fun c2 => ?_) (fun c2 => ?_)
      ·
        refine CodeT.seq ?_
        refine CodeT.region (.p (opAssign (.c _)) rfl <| .nil ?_)
        refine EndT.thenN ?_
        refine CodeT.ret (EndT.blkR (EndT.thenR (Post.retR1 rfl (()) (by trivial) (fun _ _ _ h => h) (.rt rfl) ?_)))
        exact VLe.int (by simp only [wrongF]; rw [if_neg c0, if_neg (by omega), if_pos (by omega)]; rfl)
      ·
        refine CodeT.skip (EndT.blkN (EndT.thenN ?_))
        refine CodeT.seq ?_
        refine CodeT.region (.p (opAssign (.c _)) rfl <| .nil ?_)
        refine EndT.thenN ?_
        refine CodeT.ret (Post.retR1 rfl (()) (by trivial) (fun _ _ _ h => h) (.rt rfl) ?_)
        exact VLe.int (by simp only [wrongF]; rw [if_neg c0, if_neg (by omega), if_neg (by omega)]; rfl)

theorem pbytes_spec {X : PgI} {p : PgD} {a : ArD} {s : StD} {i : Nat} {fr : Fr} (hp0 : PgOk X p a s) (hp1 : p.l[i]? = some fr) : FnE Tryd.prog 68 [addrV X.pb 0, i64V (i : Int)] (pagerC X p :: pagerF X p :: storeH X.sb s :: arenaL X.Y a) (γ := Unit) (fun _ => True) (fun _ => pagerC X p :: pagerF X p :: storeH X.sb s :: arenaL X.Y a) (fun _ => sliceV 1 encU8 (a.get fr.at_ s.size)) := by
  refine FnE.intro 26 Tryd.func68 rfl rfl rfl fun w0 S0 M => ?_
  have hil : i < X.n := by (rw [← hp0.n]; exact (List.getElem?_eq_some_iff.1 hp1).1)
  have hrm := hp0.room fr (List.mem_of_getElem? hp1)
  have har := hp0.ar
  refine CodeT.seq ?_
  refine CodeT.region (.p (opAssign (.c _)) rfl <| .nil ?_)
  refine EndT.thenN ?_
  refine CodeT.seq ?_
  refine CodeT.staged [(0, 0), (1, 0), (2, 0), (3, 1), (4, 0), (5, 0), (6, 0), (7, 1), (8, 0), (9, 0), (10, 0), (11, 1), (12, 0), (13, 4), (14, 4), (15, 0), (16, 0), (17, 0), (18, 0)] 19 1 Tryd.mixed (by kernel_rfl) (.p rfl (fun _ => opMove (.t rfl)) <| .p rfl (fun _ => opNilChkO (.t rfl)) <| .p rfl (fun _ => opFieldO Tryd.fd96_0 (.t rfl)) <| .o rfl (opLoadO (i := 0) Tryd.ag24 (.t rfl) rfl rfl) <| .p rfl (fun _ => opMove (.t rfl)) <| .p rfl (fun _ => opNilChkO (.t rfl)) <| .p rfl (fun _ => opFieldO Tryd.fd96_2 (.t rfl)) <| .o rfl (opLoadO (i := 0) Tryd.ag94 (.t rfl) rfl rfl) <| .p rfl (fun _ => opMove (.t rfl)) <| .p rfl (fun _ => opIndexAddrW i Tryd.underlying94 Tryd.cz102 rfl (.t rfl) (.t rfl) rfl hil) <| .p rfl (fun _ => opFieldO Tryd.fd102_0 (.t rfl)) <| .o rfl (opLoadW (i := 1) (r := 0) Tryd.ag3 (.t rfl) rfl hp1 rfl) <| .p rfl (fun _ => opMove (.t rfl)) <| .a rfl ((opCallE (rest := [_, _, _, _, _]) (psize_spec) Tryd.cb63 (.cons (.t rfl) .nil) (Perm.idx [0, 2, 1, 3, 4, 5, 6] rfl rfl)).same (fun _ _ => OLe.perm (Perm.idx [0, 2, 1, 3, 4, 5, 6] rfl rfl)) (fun _ _ => VLe.refl _)) (fun _ _ => OLe.refl _) <| fun _ _ => .a rfl ((opCallE (rest := [_, _, _]) (abytes_spec (at_ := fr.at_) (n := s.size) har hrm.2) Tryd.cb56 (.cons (.t rfl) (.cons (.t rfl) (.cons (.t rfl) .nil))) (Perm.idx [3, 4, 5, 6, 0, 1, 2] rfl rfl)).same (fun _ _ => OLe.perm (Perm.idx [4, 5, 6, 0, 1, 2, 3] rfl rfl)) (fun _ _ => VLe.refl _)) (fun _ _ => OLe.refl _) <| fun _ _ => .p rfl (fun _ => opMove (.t rfl)) <| .p rfl (fun _ => opExtract (.t rfl) rfl) <| .p rfl (fun _ => opExtract (.t rfl) rfl) <| .p rfl (fun _ => opAssign (.t rfl)) <| .fin (.p (opAssign (.t rfl)) rfl <| .nil ?_))
  refine EndT.thenN ?_
  refine CodeT.seq ?_
  refine CodeT.region (.p (opMove (.t rfl)) rfl <| .p (opAssign (.t rfl)) rfl <| .nil ?_)
  refine EndT.thenN ?_
  refine CodeT.ret (Post.retR1 rfl (()) (by trivial) (fun _ _ _ h => h) (.rt rfl) ?_)
  first | exact VLe.refl _ | exact VLe.int (by omega) | exact VLe.prop (by omega) | exact VLe.prop (by simp_all) | exact VLe.prop (by simp; omega)

theorem pfree_spec {X : PgI} {p : PgD} {s : StD} {k : PairK} : FnE Tryd.prog 58 [addrV X.pb 0, aggV [i64V k.1, i64V k.2]] [pagerC X p, pagerB X p, storeH X.sb s] (γ := PgD × StD × Nat) (fun g => g = freePF p s k) (fun g => [pagerC X g.1, pagerB X g.1, storeH X.sb g.2.1]) (fun g => i64V (g.2.2 : Int)) := by
  refine FnE.intro 29 Tryd.func58 rfl rfl rfl fun w0 S0 M => ?_
  refine CodeT.seq ?_
  refine CodeT.region (.p (opBoxA (.t rfl)) rfl <| .p (opAssign (.c _)) rfl <| .nil ?_)
  refine EndT.thenN ?_
  refine CodeT.seq ?_
  refine CodeT.draw 10 1 Tryd.mixed (by kernel_rfl) (.p (opMove (.t rfl)) <| .p (opNilChkO (.t rfl)) <| .p (opFieldO Tryd.fd96_5 (.t rfl)) <| .p (opLoadO (i := 0) Tryd.ag93 (.t rfl) rfl rfl) <| .p (opLoadA Tryd.ag100 Tryd.cz100 rfl (.t rfl) rfl) <| .p (opLookOk (i := 1) Tryd.kt93 Tryd.underlying93 (fun w => run_zv Tryd.zv3 w) (.t rfl) (.le (.t rfl) agg_pair) rfl) <| .p (opMove (.t rfl)) <| .p (opExtract (.t rfl) rfl) <| .p (opExtract (.t rfl) rfl) <| .p (opAssign (.t rfl)) <| .nil) (.p (opAssign (.t rfl)) rfl <| .nil ?_)
  refine EndT.thenN ?_
  refine CodeT.seq ?_
  refine CodeT.seq ?_
  refine CodeT.region (.p (opMove (.t rfl)) rfl <| .p (opNot (.t rfl)) rfl <| .nil ?_)
  refine EndT.thenN ?_
  refine CodeT.cond (.t rfl) (fun c0 => ?_) (fun c0 => ?_)
  ·
    have hno : lookD p.bm k = none := by (cases hq : lookD p.bm k with | none => rfl | some v => (rw [hq] at c0; exact absurd rfl c0))
    refine CodeT.seq ?_
    refine CodeT.region (.p (opAssign (.c _)) rfl <| .nil ?_)
    refine EndT.thenN ?_
    refine CodeT.ret (EndT.thenR (Post.retR1 rfl ((p, s, 0)) (by unfold freePF; rw [hno]) (fun _ _ _ h => h) (.rt rfl) ?_))
    first | exact VLe.refl _ | exact VLe.int (by omega) | exact VLe.prop (by omega) | exact VLe.prop (by simp_all) | exact VLe.prop (by simp; omega)
  ·
    obtain ⟨id, hid⟩ : ∃ id, lookD p.bm k = some id := Option.isSome_iff_exists.1 (Classical.not_not.1 c0)
    refine CodeT.skip (EndT.thenN ?_)
    refine CodeT.seq ?_
    refine CodeT.draw 5 1 Tryd.mixed (by kernel_rfl) (.p (opMove (.t rfl)) <| .p (opNilChkO (.t rfl)) <| .p (opFieldO Tryd.fd96_5 (.t rfl)) <| .p (opLoadO (i := 0) Tryd.ag93 (.t rfl) rfl rfl) <| .p (opLoadA Tryd.ag100 Tryd.cz100 rfl (.t rfl) rfl) <| .nil) (.s (opDel (i := 1) rfl Tryd.kt93 Tryd.underlying93 (.t rfl) (.le (.t rfl) agg_pair) rfl) <| .nil ?_)
    refine EndT.thenN ?_
    refine CodeT.seq ?_
    refine CodeT.region (.p (opMove (.t rfl)) rfl <| .p (opNilChkO (.t rfl)) rfl <| .p (opFieldO Tryd.fd96_1 (.t rfl)) rfl <| .p (opLoadO (i := 0) Tryd.ag28 (.t rfl) rfl rfl) rfl <| .p (opMove (.t rfl)) rfl <| .n (opCallE (rest := [_, _]) (sfree_spec (s := s) (id := id)) Tryd.cb78 (.cons (.t rfl) (.cons (.le (.t rfl) (VLe.of_eq (show optV _ _ _ = i64V id by rw [hid]; rfl))) .nil)) (Perm.idx [2, 0, 1] rfl rfl)) rfl <| fun g28 h28 => .p (opAssign (.t rfl)) rfl <| .nil ?_)
    refine EndT.thenN ?_
    subst h28
    refine CodeT.ret (Post.retR1 rfl (({ p with bm := delD p.bm k }, (freeF s id).1, (freeF s id).2)) (by unfold freePF; rw [hid]) (OLe.sel [1, 2, 0] [] rfl rfl) (.rt rfl) ?_)
    first | exact VLe.refl _ | exact VLe.int (by omega) | exact VLe.prop (by omega) | exact VLe.prop (by simp_all) | exact VLe.prop (by simp; omega)

end Go.Proofs.YtiicgelmdmhajaaDoor
