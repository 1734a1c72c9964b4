/-
  Walks, printed by a program (gen.py) out of what its author says of each function.
-/
import Derived.Test.YtiicgelmdmhajaaDoorP07Z
namespace Go.Proofs.YtiicgelmdmhajaaDoor
open Go.Hl Go.RowKit
set_option linter.unusedVariables false
set_option maxRecDepth 100000

theorem psave_spec {X : PgI} {p : PgD} {a : ArD} {s : StD} {i : Nat} {fr : Fr} (hp0 : PgOk X p a s) (hp1 : p.l[i]? = some fr) : FnE Tryd.prog 48 [addrV X.pb 0, i64V (i : Int)] (pagerC X p :: pagerF X p :: pagerB X p :: storeH X.sb s :: arenaL X.Y a) (γ := PgD × StD × Nat) (fun g => SaveR p a s i fr g) (fun g => pagerC X g.1 :: pagerF X g.1 :: pagerB X g.1 :: storeH X.sb g.2.1 :: arenaL X.Y a) (fun g => i64V (g.2.2 : Int)) := by
  refine FnE.intro 86 Tryd.func48 rfl rfl rfl fun w0 S0 M => ?_
  have hil : i < X.n := by (rw [← hp0.n]; exact (List.getElem?_eq_some_iff.1 hp1).1)
  have hil2 := (List.getElem?_eq_some_iff.1 hp1).1
  have hset : (p.l.set i { fr with dirty := false })[i]? = some { fr with dirty := false } := by simp [hil2]
  have hst := hp0.st
  refine CodeT.seq ?_
  refine CodeT.region (.p (opAssign (.c _)) rfl <| .nil ?_)
  refine EndT.thenN ?_
  refine CodeT.seq ?_
  refine CodeT.region (.p (opMove (.t rfl)) rfl <| .p (opNilChkO (.t rfl)) rfl <| .p (opFieldO Tryd.fd96_2 (.t rfl)) rfl <| .p (opLoadO (i := 0) Tryd.ag94 (.t rfl) rfl rfl) rfl <| .p (opMove (.t rfl)) rfl <| .p (opIndexAddrW i Tryd.underlying94 Tryd.cz102 rfl (.t rfl) (.t rfl) rfl hil) rfl <| .p (opAssign (.t rfl)) rfl <| .nil ?_)
  refine EndT.thenN ?_
  refine CodeT.seq ?_
  refine CodeT.seq ?_
  refine CodeT.region (.p (opMove (.t rfl)) rfl <| .p (opNilChkO (.t rfl)) rfl <| .p (opFieldO Tryd.fd102_2 (.t rfl)) rfl <| .p (opLoadW (i := 1) (r := 3) Tryd.ag4 (.t rfl) rfl hp1 rfl) rfl <| .p (opNot (.t rfl)) rfl <| .p (opMove (.t rfl)) rfl <| .g (OpG.gF rfl rfl rfl rfl (fun hg => opMove (.t rfl))) rfl rfl <| .g (OpG.gF rfl rfl rfl rfl (fun hg => opNilChkO (.when (.t rfl) hg))) rfl rfl <| .g (OpG.gF rfl rfl rfl rfl (fun hg => opFieldO Tryd.fd102_4 (.when (.t rfl) hg))) rfl rfl <| .g (OpG.gF rfl rfl rfl rfl (fun hg => opLoadW (i := 1) (r := 5) Tryd.ag4 (.when (.t rfl) hg) rfl hp1 rfl)) rfl rfl <| .g (OpG.gF rfl rfl rfl rfl (fun hg => opNot (.when (.t rfl) hg))) rfl rfl <| .p (opOr (.t rfl) (.t rfl)) rfl <| .nil ?_)
  refine EndT.thenN ?_
  refine CodeT.cond (.t rfl) (fun c0 => ?_) (fun c0 => ?_)
  ·
    have hcl : ¬ (fr.used = true ∧ fr.dirty = true) := fun ⟨h1, h2⟩ => c0.elim (fun h => h ((BP_iff _).2 h1)) (fun h => h ((BP_iff _).2 h2))
    refine CodeT.seq ?_
    refine CodeT.region (.p (opAssign (.c _)) rfl <| .nil ?_)
    refine EndT.thenN ?_
    refine CodeT.ret (EndT.thenR (Post.retR1 rfl ((p, s, 0)) (by exact .clean hcl) (fun _ _ _ h => h) (.rt rfl) ?_))
    first | exact VLe.refl _ | exact VLe.int (by omega) | exact VLe.prop (by omega) | exact VLe.prop (by simp_all) | exact VLe.prop (by simp; omega)
  ·
    have hud : fr.used = true ∧ fr.dirty = true := ⟨(BP_iff _).1 (Classical.not_not.1 fun h => c0 (.inl h)), (BP_iff _).1 (Classical.not_not.1 fun h => c0 (.inr h))⟩
    refine CodeT.skip (EndT.thenN ?_)
    refine CodeT.seq ?_
    refine CodeT.region (.p (opMove (.t rfl)) rfl <| .p (opMove (.t rfl)) rfl <| .n ((opCallE (rest := [_]) (pbytes_spec hp0 hp1) Tryd.cb68 (.cons (.t rfl) (.cons (.t rfl) .nil)) (Perm.idx [0, 1, 3, 4, 5, 6, 7, 2] rfl rfl)).same (fun _ _ => OLe.perm (Perm.idx [0, 1, 7, 2, 3, 4, 5, 6] rfl rfl)) (fun _ _ => VLe.refl _)) rfl <| fun _ _ => .p (opAssign (.t rfl)) rfl <| .nil ?_)
    refine EndT.thenN ?_
    refine CodeT.seq ?_
    refine CodeT.seq ?_
    refine CodeT.region (.p (opMove (.t rfl)) rfl <| .p (opCall (pempty_spec) Tryd.cb43 (.cons (.t rfl) .nil)) rfl <| .nil ?_)
    refine EndT.thenN ?_
    refine CodeT.cond (.t rfl) (fun c1 => ?_) (fun c1 => ?_)
    ·
      refine CodeT.seq ?_
      refine CodeT.region (.p (opMove (.t rfl)) rfl <| .p (opNilChkO (.t rfl)) rfl <| .p (opFieldO Tryd.fd102_4 (.t rfl)) rfl <| .s (opStoreW (i := 1) (r := 5) { fr with dirty := false } rfl Tryd.cz4 (.t rfl) .cf rfl hp1 rfl rfl) <| .nil ?_)
      refine EndT.thenN ?_
      refine CodeT.seq ?_
      refine CodeT.region (.p (opMove (.t rfl)) rfl <| .p (opMove (.t rfl)) rfl <| .p (opNilChkO (.t rfl)) rfl <| .p (opFieldO Tryd.fd102_1 (.t rfl)) rfl <| .p (opLoadWA (i := 1) (r := 1) Tryd.ag100 Tryd.cz100 rfl (.t rfl) rfl hset rfl) rfl <| .n (opCallE (rest := [_, _, _, _, _]) (pfree_spec (p := p.setF i { fr with dirty := false }) (s := s) (k := fr.k)) Tryd.cb58 (.cons (.t rfl) (.cons (.t rfl) .nil)) (Perm.idx [0, 2, 3, 1, 4, 5, 6, 7] rfl rfl)) rfl <| fun g41 h41 => .p (opAssign (.t rfl)) rfl <| .nil ?_)
      refine EndT.thenN ?_
      subst h41
      refine CodeT.ret (EndT.thenR (Post.retR1 rfl (freePF (p.setF i { fr with dirty := false }) s fr.k) (by exact .zero hud c1) (OLe.trans (OLe.perm (Perm.idx [0, 3, 1, 2, 4, 5, 6, 7] rfl rfl)) (OLe.cons _ (OLe.headE (pagerF_eq (X := X) (p := p.setF i { fr with dirty := false }) (q := (freePF (p.setF i { fr with dirty := false }) s fr.k).1) (freePF_l _ _ _).symm)))) (.rt rfl) ?_))
      first | exact VLe.refl _ | exact VLe.int (by omega) | exact VLe.prop (by omega) | exact VLe.prop (by simp_all) | exact VLe.prop (by simp; omega)
    ·
      refine CodeT.skip (EndT.thenN ?_)
      refine CodeT.seq ?_
      refine CodeT.draw 13 1 Tryd.mixed (by kernel_rfl) (.p (opMove (.t rfl)) <| .p (opNilChkO (.t rfl)) <| .p (opFieldO Tryd.fd96_5 (.t rfl)) <| .p (opLoadO (i := 0) Tryd.ag93 (.t rfl) rfl rfl) <| .p (opMove (.t rfl)) <| .p (opNilChkO (.t rfl)) <| .p (opFieldO Tryd.fd102_1 (.t rfl)) <| .p (opLoadWA (i := 1) (r := 1) Tryd.ag100 Tryd.cz100 rfl (.t rfl) rfl hp1 rfl) <| .p (opLookOk (i := 2) Tryd.kt93 Tryd.underlying93 (fun w => run_zv Tryd.zv3 w) (.t rfl) (.le (.t rfl) agg_pair) rfl) <| .p (opMove (.t rfl)) <| .p (opExtract (.t rfl) rfl) <| .p (opExtract (.t rfl) rfl) <| .p (opAssign (.t rfl)) <| .nil) (.p (opAssign (.t rfl)) rfl <| .nil ?_)
      refine EndT.thenN ?_
      refine CodeT.seq ?_
      refine CodeT.seq ?_
      refine CodeT.region (.p (opMove (.t rfl)) rfl <| .p (opNot (.t rfl)) rfl <| .nil ?_)
      refine EndT.thenN ?_
      refine CodeT.cond (.t rfl) (fun c2 => ?_) (fun c2 => ?_)
      ·
        have hno : lookD p.bm fr.k = none := by (cases hq : lookD p.bm fr.k with | none => rfl | some v => (rw [hq] at c2; exact absurd rfl c2))
        refine CodeT.seq ?_
        refine CodeT.region (.p (opAssign (.c _)) rfl <| .nil ?_)
        refine EndT.thenN ?_
        refine CodeT.seq ?_
        refine CodeT.seq ?_
        refine CodeT.region (.p (opMove (.t rfl)) rfl <| .p (opNilChkO (.t rfl)) rfl <| .p (opFieldO Tryd.fd96_1 (.t rfl)) rfl <| .p (opLoadO (i := 0) Tryd.ag28 (.t rfl) rfl rfl) rfl <| .n (opCallE (rest := [_, _, _, _, _, _, _]) (salloc_spec (s := s) hst) Tryd.cb69 (.cons (.t rfl) .nil) (Perm.idx [3, 0, 1, 2, 4, 5, 6, 7] rfl rfl)) rfl <| fun g61 h61 => .p (opMove (.t rfl)) rfl <| .p (opExtract (.t rfl) rfl) rfl <| .p (opExtract (.t rfl) rfl) rfl <| .p (opAssign (.t rfl)) rfl <| .p (opAssign (.t rfl)) rfl <| .nil ?_)
        refine EndT.thenN ?_
        refine CodeT.seq ?_
        refine CodeT.region (.p (opMove (.t rfl)) rfl <| .p (opNeq (.t rfl) (.c _)) rfl <| .nil ?_)
        refine EndT.thenN ?_
        refine CodeT.cond (.t rfl) (fun c3 => ?_) (fun c3 => ?_)
        ·
          refine CodeT.seq ?_
          refine CodeT.region (.p (opMove (.t rfl)) rfl <| .p (opAssign (.t rfl)) rfl <| .nil ?_)
          refine EndT.thenN ?_
          refine CodeT.ret (EndT.thenR (EndT.thenR (Post.retR1 rfl ((p, g61.1, g61.2.2)) (by exact .full hud c1 hno g61 h61 (by omega)) (OLe.sel [1, 2, 3, 0, 4, 5, 6, 7] [] rfl rfl) (.rt rfl) ?_)))
          first | exact VLe.refl _ | exact VLe.int (by omega) | exact VLe.prop (by omega) | exact VLe.prop (by simp_all) | exact VLe.prop (by simp; omega)
        ·
          have hsa := StOk.alloc hst h61
          have hsa1 := hsa.1
          have hc85 := VLe.refl (i64V g61.2.1)
          refine CodeT.skip (EndT.thenN ?_)
          refine CodeT.draw 9 1 Tryd.mixed (by kernel_rfl) (.p (opMove (.t rfl)) <| .p (opNilChkO (.t rfl)) <| .p (opFieldO Tryd.fd96_5 (.t rfl)) <| .p (opLoadO (i := 1) Tryd.ag93 (.t rfl) rfl rfl) <| .p (opMove (.t rfl)) <| .p (opNilChkO (.t rfl)) <| .p (opFieldO Tryd.fd102_1 (.t rfl)) <| .p (opLoadWA (i := 2) (r := 1) Tryd.ag100 Tryd.cz100 rfl (.t rfl) rfl hp1 rfl) <| .p (opMove (.t rfl)) <| .nil) (.s (opUpd (i := 3) g61.2.1 Tryd.kt93 Tryd.underlying93 (.t rfl) (.le (.t rfl) agg_pair) (.t rfl) rfl) <| .nil ?_)
          refine EndT.thenN ?_
          refine CodeT.seq ?_
          refine CodeT.region (.p (opMove (.t rfl)) rfl <| .p (opNilChkO (.t rfl)) rfl <| .p (opFieldO Tryd.fd102_4 (.t rfl)) rfl <| .s (opStoreW (i := 2) (r := 5) { fr with dirty := false } rfl Tryd.cz4 (.t rfl) .cf rfl hp1 rfl rfl) <| .nil ?_)
          refine EndT.thenN ?_
          refine CodeT.seq ?_
          refine CodeT.region (.p (opMove (.t rfl)) rfl <| .p (opNilChkO (.t rfl)) rfl <| .p (opFieldO Tryd.fd96_1 (.t rfl)) rfl <| .p (opLoadO (i := 1) Tryd.ag28 (.t rfl) rfl rfl) rfl <| .p (opMove (.t rfl)) rfl <| .p (opMove (.t rfl)) rfl <| .n (opCallE (rest := [_, _, _, _, _, _, _]) (swrite_spec (ys := a.get fr.at_ s.size) (by assumption)) Tryd.cb70 (.cons (.t rfl) (.cons (.le (.t rfl) hc85) (.cons (.t rfl) .nil))) (Perm.idx [0, 1, 2, 3, 4, 5, 6, 7] rfl rfl)) rfl <| fun g85 h85 => .p (opAssign (.t rfl)) rfl <| .nil ?_)
          refine EndT.thenN ?_
          subst h85
          refine CodeT.ret (Post.retR1 rfl (({ p with l := p.l.set i { fr with dirty := false }, bm := updD p.bm fr.k g61.2.1 }, (writeF g61.1 g61.2.1 (a.get fr.at_ s.size)).1, (writeF g61.1 g61.2.1 (a.get fr.at_ s.size)).2)) (by exact .new hud c1 hno g61 h61 (by omega)) (OLe.sel [1, 2, 3, 0, 4, 5, 6, 7] [] rfl rfl) (.rt rfl) ?_)
          first | exact VLe.refl _ | exact VLe.int (by omega) | exact VLe.prop (by omega) | exact VLe.prop (by simp_all) | exact VLe.prop (by simp; omega)
      ·
        obtain ⟨id, hid⟩ : ∃ id, lookD p.bm fr.k = some id := Option.isSome_iff_exists.1 (Classical.not_not.1 c2)
        have hc85 : VLe (optV i64V (exactV (.int .i64 0)) (lookD p.bm fr.k)) (i64V id) := VLe.of_eq (by rw [hid]; rfl)
        refine CodeT.skip (EndT.thenN ?_)
        refine CodeT.seq ?_
        refine CodeT.region (.p (opMove (.t rfl)) rfl <| .p (opNilChkO (.t rfl)) rfl <| .p (opFieldO Tryd.fd102_4 (.t rfl)) rfl <| .s (opStoreW (i := 1) (r := 5) { fr with dirty := false } rfl Tryd.cz4 (.t rfl) .cf rfl hp1 rfl rfl) <| .nil ?_)
        refine EndT.thenN ?_
        refine CodeT.seq ?_
        refine CodeT.region (.p (opMove (.t rfl)) rfl <| .p (opNilChkO (.t rfl)) rfl <| .p (opFieldO Tryd.fd96_1 (.t rfl)) rfl <| .p (opLoadO (i := 0) Tryd.ag28 (.t rfl) rfl rfl) rfl <| .p (opMove (.t rfl)) rfl <| .p (opMove (.t rfl)) rfl <| .n (opCallE (rest := [_, _, _, _, _, _, _]) (swrite_spec (ys := a.get fr.at_ s.size) (by assumption)) Tryd.cb70 (.cons (.t rfl) (.cons (.le (.t rfl) hc85) (.cons (.t rfl) .nil))) (Perm.idx [3, 0, 1, 2, 4, 5, 6, 7] rfl rfl)) rfl <| fun g85 h85 => .p (opAssign (.t rfl)) rfl <| .nil ?_)
        refine EndT.thenN ?_
        subst h85
        refine CodeT.ret (Post.retR1 rfl ((p.setF i { fr with dirty := false }, (writeF s id (a.get fr.at_ s.size)).1, (writeF s id (a.get fr.at_ s.size)).2)) (by exact .has hud c1 id hid) (OLe.sel [1, 2, 3, 0, 4, 5, 6, 7] [] rfl rfl) (.rt rfl) ?_)
        first | exact VLe.refl _ | exact VLe.int (by omega) | exact VLe.prop (by omega) | exact VLe.prop (by simp_all) | exact VLe.prop (by simp; omega)

end Go.Proofs.YtiicgelmdmhajaaDoor
