/-
  Walks, printed by a program (gen.py) out of what its author says of each function.
-/
import Derived.Test.YtiicgelmdmhajaaDoorP07S
namespace Go.Proofs.YtiicgelmdmhajaaDoor
open Go.Hl Go.RowKit
set_option linter.unusedVariables false
set_option maxRecDepth 100000

theorem victimc_spec {f : Fr} : FnP Tryd.prog 88 [aggV (encFr f)] (propV (¬ BP f.used)) := by
  refine FnE.intro 6 Tryd.func88 rfl rfl rfl fun w0 S0 M => ?_
  refine CodeT.seq ?_
  refine CodeT.region (.p (opBoxA (.t rfl)) rfl <| .p (opAssign .cf) rfl <| .nil ?_)
  refine EndT.thenN ?_
  refine CodeT.seq ?_
  refine CodeT.region (.p (opField Tryd.fd102_2 (.t rfl)) rfl <| .p (opLoad Tryd.ag4 (.t rfl)) rfl <| .p (opNot (.t rfl)) rfl <| .p (opAssign (.t rfl)) rfl <| .nil ?_)
  refine EndT.thenN ?_
  refine CodeT.ret (Post.retP rfl rfl ?_)
  first | exact VLe.refl _ | exact VLe.int (by omega) | exact VLe.prop (by omega) | exact VLe.prop (by simp_all) | exact VLe.prop (by simp; omega)

theorem idxFr_spec {fb cap n : Nat} {l : List Fr} {p : Fr → Prop} (hp0 : l.length = n) (hp1 : n ≤ 64) : FnE Tryd.prog 87 [exactV (sval (some (fb, cap)) n), funV Tryd.prog (fun _ : Fr => True) (fun x => [aggV (encFr x)]) (fun x => propV (p x))] [sliceH (some (fb, cap)) 6 encFr l] (γ := Unit) (fun _ => True) (fun _ => [sliceH (some (fb, cap)) 6 encFr l]) (fun _ => i64V (idxF p l)) := by
  refine FnE.intro 19 Tryd.func87 rfl rfl rfl fun w0 S0 M => ?_
  refine CodeT.seq ?_
  refine CodeT.region (.p (opAssign (.c _)) rfl <| .nil ?_)
  refine EndT.thenN ?_
  refine CodeT.seq ?_
  refine CodeT.seq ?_
  refine CodeT.region (.p (opMove (.t rfl)) rfl <| .p (opLenW rfl Tryd.underlying94 (.t rfl)) rfl <| .p (opMove (.c _)) rfl <| .nil ?_)
  refine EndT.thenN ?_
  refine CodeT.block ?_
  refine CodeT.loopO (σ := Nat) (fun _ => _) (fun k => [(8, i64V (k : Int))]) (fun k => k ≤ l.length ∧ NotB p l k) (fun k => l.length - k) 0 ⟨by omega, NotB.zero p l⟩ rfl ?_ ?_
  · exact (.get rfl (VLe.refl _) (.refl _ _))
  · rintro k ⟨hk, hnot⟩
    refine CodeT.seq ?_
    refine CodeT.region (.p (opLss (.t rfl) (.t rfl)) rfl <| .nil ?_)
    refine EndT.thenN ?_
    refine CodeT.seq ?_
    refine CodeT.cond (.t rfl) (fun c0 => ?_) (fun c0 => ?_)
    ·
      obtain ⟨x, hx⟩ := getElem?_lt (xs := l) (k := k) (by omega)
      refine CodeT.skip (EndT.thenN ?_)
      refine CodeT.seq ?_
      refine CodeT.block ?_
      refine CodeT.seq ?_
      refine CodeT.region (.p (opMove (.t rfl)) rfl <| .p (opAssign (.t rfl)) rfl <| .nil ?_)
      refine EndT.thenN ?_
      refine CodeT.seq ?_
      refine CodeT.region (.p (opMove (.t rfl)) rfl <| .p (opMove (.t rfl)) rfl <| .p (opMove (.t rfl)) rfl <| .p (opIndexAddrW k Tryd.underlying94 Tryd.cz102 rfl (.t rfl) (.t rfl) rfl (by omega)) rfl <| .p (opLoadWA (i := 0) (r := 0) Tryd.ag102 Tryd.cz102 rfl (.t rfl) rfl hx rfl) rfl <| .p (opCallV x (.t rfl) trivial (.cons (.t rfl) .nil)) rfl <| .nil ?_)
      refine EndT.thenN ?_
      refine CodeT.cond (.t rfl) (fun c1 => ?_) (fun c1 => ?_)
      ·
        refine CodeT.seq ?_
        refine CodeT.region (.p (opMove (.t rfl)) rfl <| .p (opAssign (.t rfl)) rfl <| .nil ?_)
        refine EndT.thenN ?_
        refine CodeT.ret (EndT.blkR (EndT.thenR (EndT.thenR (EndT.blkR (EndT.thenR (Post.retR1 rfl (()) (by trivial) (fun _ _ _ h => h) (.rt rfl) ?_))))))
        exact VLe.int (idxF_at hx (by assumption) hnot).symm
      ·
        refine CodeT.skip (EndT.blkN (EndT.thenN ?_))
        refine CodeT.region (.p (opAddF (.t rfl) (.c _) (fits_i64 (by omega) (by omega))) rfl <| .p (opMove (.t rfl)) rfl <| .nil ?_)
        refine EndT.round (k + 1) ⟨by omega, hnot.succ hx (by assumption)⟩ (by omega) rfl ?_
        exact (.get rfl (VLe.int (by omega)) (.keep 12 rfl rfl))
    ·
      refine CodeT.exit (EndT.thenX (EndT.thenX (EndT.blkX (EndT.thenN ?_))))
      refine CodeT.seq ?_
      refine CodeT.region (.p (opAssign (.c _)) rfl <| .nil ?_)
      refine EndT.thenN ?_
      refine CodeT.ret (Post.retR1 rfl (()) (by trivial) (fun _ _ _ h => h) (.rt rfl) ?_)
      exact VLe.int (idxF_none (hnot.all (by omega))).symm

theorem pvictim_spec {X : PgI} {p : PgD} {a : ArD} {s : StD} (hp0 : PgOk X p a s) : FnE Tryd.prog 65 [addrV X.pb 0] [pagerC X p, pagerF X p] (γ := PgD × Nat) (fun g => VicR X p g.1 ∧ g.2 < X.n) (fun g => [pagerC X g.1, pagerF X g.1]) (fun g => i64V (g.2 : Int)) := by
  refine FnE.intro 67 Tryd.func65 rfl rfl rfl fun w0 S0 M => ?_
  have hn := hp0.n
  have hmo := hp0.most
  have hps := hp0.pos
  refine CodeT.seq ?_
  refine CodeT.region (.p (opAssign (.c _)) rfl <| .nil ?_)
  refine EndT.thenN ?_
  refine CodeT.seq ?_
  refine CodeT.seq ?_
  refine CodeT.region (.p (opMove (.t rfl)) rfl <| .p (opNilChkO (.t rfl)) rfl <| .p (opFieldO Tryd.fd96_2 (.t rfl)) rfl <| .p (opLoadO (i := 0) Tryd.ag94 (.t rfl) rfl rfl) rfl <| .n ((opCallE (rest := [_]) (idxFr_spec (n := X.n) (l := p.l) (p := fun f => ¬ BP f.used) hp0.n hp0.most) Tryd.cb87 (.cons (.t rfl) (.cons (.le (.f _) (funV_of Tryd.cb88 (fun (f : Fr) (_ : True) => victimc_spec (f := f)))) .nil)) (Perm.idx [1, 0] rfl rfl)).same (fun _ _ => OLe.perm (Perm.idx [1, 0] rfl rfl)) (fun _ _ => VLe.refl _)) rfl <| fun _ _ => .p (opAssign (.t rfl)) rfl <| .nil ?_)
  refine EndT.thenN ?_
  refine CodeT.seq ?_
  refine CodeT.region (.p (opMove (.t rfl)) rfl <| .p (opGeq (.t rfl) (.c _)) rfl <| .nil ?_)
  refine EndT.thenN ?_
  refine CodeT.cond (.t rfl) (fun c0 => ?_) (fun c0 => ?_)
  ·
    refine CodeT.seq ?_
    refine CodeT.region (.p (opMove (.t rfl)) rfl <| .p (opAssign (.t rfl)) rfl <| .nil ?_)
    refine EndT.thenN ?_
    refine CodeT.ret (EndT.thenR (Post.retR1 rfl ((p, (idxF (fun f => ¬ BP f.used) p.l).toNat)) (by exact ⟨VicR.refl hp0, by (have := idxF_lt (fun f : Fr => ¬ BP f.used) p.l; omega)⟩) (fun _ _ _ h => h) (.rt rfl) ?_))
    exact VLe.int (by omega)
  ·
    refine CodeT.skip (EndT.thenN ?_)
    refine CodeT.seq ?_
    refine CodeT.block ?_
    refine CodeT.loopO (σ := PgD) (fun p1 => [pagerC X p1, pagerF X p1]) (fun p1 => []) (fun p1 => VicR X p p1) (fun p1 => (p1.l.filter (·.seen)).length) p (VicR.refl hp0) rfl ?_ ?_
    · exact (.refl _ _)
    · rintro p1 hv
      have hh1 := hv.hand
      have hl1 := hv.len
      obtain ⟨x, hx⟩ := getElem?_lt (xs := p1.l) (k := p1.hand) (by omega)
      refine CodeT.seq ?_
      refine CodeT.seq ?_
      refine CodeT.draw 8 3 Tryd.mixed (by kernel_rfl) (.p (opMove (.t rfl)) <| .p (opNilChkO (.t rfl)) <| .p (opFieldO Tryd.fd96_2 (.t rfl)) <| .p (opLoadO (i := 0) Tryd.ag94 (.t rfl) rfl rfl) <| .p (opMove (.t rfl)) <| .p (opNilChkO (.t rfl)) <| .p (opFieldO Tryd.fd96_3 (.t rfl)) <| .p (opLoadO (i := 0) Tryd.ag3 (.t rfl) rfl rfl) <| .nil) (.p (opIndexAddrW p1.hand Tryd.underlying94 Tryd.cz102 rfl (.t rfl) (.t rfl) rfl hh1) rfl <| .p (opFieldO Tryd.fd102_3 (.t rfl)) rfl <| .p (opLoadW (i := 1) (r := 4) Tryd.ag4 (.t rfl) rfl hx rfl) rfl <| .nil ?_)
      refine EndT.thenN ?_
      refine CodeT.cond (.t rfl) (fun c1 => ?_) (fun c1 => ?_)
      ·
        refine CodeT.skip (EndT.thenN ?_)
        refine CodeT.block ?_
        refine CodeT.seq ?_
        refine CodeT.draw 8 3 Tryd.mixed (by kernel_rfl) (.p (opMove (.t rfl)) <| .p (opNilChkO (.t rfl)) <| .p (opFieldO Tryd.fd96_2 (.t rfl)) <| .p (opLoadO (i := 0) Tryd.ag94 (.t rfl) rfl rfl) <| .p (opMove (.t rfl)) <| .p (opNilChkO (.t rfl)) <| .p (opFieldO Tryd.fd96_3 (.t rfl)) <| .p (opLoadO (i := 0) Tryd.ag3 (.t rfl) rfl rfl) <| .nil) (.p (opIndexAddrW p1.hand Tryd.underlying94 Tryd.cz102 rfl (.t rfl) (.t rfl) rfl hh1) rfl <| .p (opFieldO Tryd.fd102_3 (.t rfl)) rfl <| .s (opStoreW (i := 1) (r := 4) { x with seen := false } rfl Tryd.cz4 (.t rfl) .cf rfl hx rfl rfl) <| .nil ?_)
        refine EndT.thenN ?_
        refine CodeT.draw 12 3 Tryd.mixed (by kernel_rfl) (.p (opMove (.t rfl)) <| .p (opMove (.t rfl)) <| .p (opNilChkO (.t rfl)) <| .p (opFieldO Tryd.fd96_3 (.t rfl)) <| .p (opLoadO (i := 0) Tryd.ag3 (.t rfl) rfl rfl) <| .p (opAddF (.t rfl) (.c _) (fits_i64 (by omega) (by omega))) <| .p (opMove (.t rfl)) <| .p (opNilChkO (.t rfl)) <| .p (opFieldO Tryd.fd96_2 (.t rfl)) <| .p (opLoadO (i := 0) Tryd.ag94 (.t rfl) rfl rfl) <| .p (opLenW rfl Tryd.underlying94 (.t rfl)) <| .p (opRem (.t rfl) (.t rfl) (by omega) (by omega)) <| .nil) (.p (opNilChkO (.t rfl)) rfl <| .p (opFieldO Tryd.fd96_3 (.t rfl)) rfl <| .s (opStoreO (i := 0) Tryd.cz3 (.t rfl) (.t rfl) rfl rfl) <| .nil ?_)
        refine EndT.blkN (EndT.round ({ p1 with l := p1.l.set p1.hand { x with seen := false }, hand := (p1.hand + 1) % X.n }) (hv.step hx hps) (seen_less hx ((BP_iff _).1 c1)) rfl ?_)
        exact (.keep 35 rfl rfl)
      ·
        refine CodeT.exit (EndT.thenX (EndT.thenX (EndT.blkX (EndT.thenN ?_))))
        refine CodeT.seq ?_
        refine CodeT.region (.p (opMove (.t rfl)) rfl <| .p (opNilChkO (.t rfl)) rfl <| .p (opFieldO Tryd.fd96_3 (.t rfl)) rfl <| .p (opLoadO (i := 0) Tryd.ag3 (.t rfl) rfl rfl) rfl <| .p (opAssign (.t rfl)) rfl <| .nil ?_)
        refine EndT.thenN ?_
        refine CodeT.seq ?_
        refine CodeT.draw 12 3 Tryd.mixed (by kernel_rfl) (.p (opMove (.t rfl)) <| .p (opMove (.t rfl)) <| .p (opNilChkO (.t rfl)) <| .p (opFieldO Tryd.fd96_3 (.t rfl)) <| .p (opLoadO (i := 0) Tryd.ag3 (.t rfl) rfl rfl) <| .p (opAddF (.t rfl) (.c _) (fits_i64 (by omega) (by omega))) <| .p (opMove (.t rfl)) <| .p (opNilChkO (.t rfl)) <| .p (opFieldO Tryd.fd96_2 (.t rfl)) <| .p (opLoadO (i := 0) Tryd.ag94 (.t rfl) rfl rfl) <| .p (opLenW rfl Tryd.underlying94 (.t rfl)) <| .p (opRem (.t rfl) (.t rfl) (by omega) (by omega)) <| .nil) (.p (opNilChkO (.t rfl)) rfl <| .p (opFieldO Tryd.fd96_3 (.t rfl)) rfl <| .s (opStoreO (i := 0) Tryd.cz3 (.t rfl) (.t rfl) rfl rfl) <| .nil ?_)
        refine EndT.thenN ?_
        refine CodeT.seq ?_
        refine CodeT.region (.p (opMove (.t rfl)) rfl <| .p (opAssign (.t rfl)) rfl <| .nil ?_)
        refine EndT.thenN ?_
        refine CodeT.ret (Post.retR1 rfl (({ p1 with hand := (p1.hand + 1) % X.n }, p1.hand)) (by exact ⟨hv.next hps, hh1⟩) (fun _ _ _ h => h) (.rt rfl) ?_)
        exact VLe.refl _

end Go.Proofs.YtiicgelmdmhajaaDoor
