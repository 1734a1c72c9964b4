/-
  Walks, printed by a program (gen.py) out of what its author says of each function.
-/
import Derived.Test.YtiicgelmdmhajaaDoorP07N
namespace Go.Proofs.YtiicgelmdmhajaaDoor
open Go.Hl Go.RowKit
set_option linter.unusedVariables false
set_option maxRecDepth 100000

theorem pnew_spec {Y : ArI} {sb z q n : Nat} {a0 : ArD} (hp0 : ArT Y a0 a0 (classN z) 0) (hp1 : 0 < n) (hp2 : n ≤ 64) (hp3 : z ≤ 1024) (hp4 : q ≤ 4096) (hp5 : a0.height + n * classN z ≤ Y.size) : FnE Tryd.prog 14 [addrV Y.ab 0, addrV sb 0, i64V (n : Int)] (storeH sb ⟨z, (q : Int), 0, 0, -1, false, []⟩ :: arenaL Y a0) (γ := PgI × ArD) (fun g => g.1.Y = Y ∧ g.1.sb = sb ∧ g.1.n = n ∧ g.1.lo = a0.height ∧ g.1.hi = a0.height + n * classN z ∧ ArT Y a0 g.2 (classN z) n ∧ InvZ g.1 z q cleanP ⟨frs a0.height (classN z) n, 0, [], [], 0, false⟩ g.2 ⟨z, (q : Int), 0, 0, -1, false, []⟩ (zeroC z) 0) (fun g => pagL g.1 ⟨frs a0.height (classN z) n, 0, [], [], 0, false⟩ g.2 ⟨z, (q : Int), 0, 0, -1, false, []⟩) (fun g => tupV [addrV g.1.pb 0, i64V 0]) := by
  refine FnE.intro 58 Tryd.func14 rfl rfl rfl fun w0 S0 M => ?_
  refine CodeT.seq ?_
  refine CodeT.region (.p (opAssign (.c _)) rfl <| .p (opAssign (.c _)) rfl <| .nil ?_)
  refine EndT.thenN ?_
  refine CodeT.seq ?_
  refine CodeT.block ?_
  refine CodeT.seq ?_
  refine CodeT.region (.p (opMove (.t rfl)) rfl <| .p (opEqlNilO Tryd.underlying24 (.t rfl)) rfl <| .p (opMove (.t rfl)) rfl <| .g (OpG.gF rfl rfl rfl rfl (fun hg => opMove (.t rfl))) rfl rfl <| .g (OpG.gF rfl rfl rfl rfl (fun hg => opEqlNilO Tryd.underlying28 (.when (.t rfl) hg))) rfl rfl <| .p (opOr (.t rfl) (.t rfl)) rfl <| .p (opAssign (.t rfl)) rfl <| .nil ?_)
  refine EndT.thenN ?_
  refine CodeT.cond (.t rfl) (fun c0 => ?_) (fun c0 => ?_)
  ·
    exact (show False by simp at c0).elim
  ·
    refine CodeT.seq ?_
    refine CodeT.region (.p (opMove (.t rfl)) rfl <| .p (opLss (.t rfl) (.c _)) rfl <| .p (opMove (.t rfl)) rfl <| .g (OpG.gF rfl rfl rfl rfl (fun hg => opMove (.t rfl))) rfl rfl <| .g (OpG.gF rfl rfl rfl rfl (fun hg => opGtr (.when (.t rfl) hg) (.c _))) rfl rfl <| .p (opOr (.t rfl) (.t rfl)) rfl <| .p (opAssign (.t rfl)) rfl <| .nil ?_)
    refine EndT.thenN ?_
    refine CodeT.cond (.t rfl) (fun c1 => ?_) (fun c1 => ?_)
    ·
      exfalso; omega
    ·
      refine CodeT.skip (EndT.blkN (EndT.thenN ?_))
      refine CodeT.seq ?_
      refine CodeT.region (.p (opMove (.t rfl)) rfl <| .p (opMove (.t rfl)) rfl <| .n (opMakeM kpair i64V) rfl <| fun m27 _ => .n (opMakeM kpair i64V) rfl <| fun m28 _ => .p (opBuild Tryd.pl96 Tryd.zb96 (.cons (.t rfl) (.cons (.t rfl) (.cons (.t rfl) (.cons (.t rfl) .nil)))) rfl) rfl <| .n (opBoxOA (.t rfl)) rfl <| fun b30 _ => .p (opAssign (.t rfl)) rfl <| .nil ?_)
      refine EndT.thenN ?_
      refine CodeT.own (ownSl (n := 6) (enc := encFr)) ?_
      refine CodeT.own (OLe.perm (Perm.idx [1, 0, 2, 3, 4, 5, 6, 7, 8] rfl rfl)) ?_
      refine CodeT.seq ?_
      refine CodeT.seq ?_
      refine CodeT.region (.p (opMove (.t rfl)) rfl <| .p (opMove (.c _)) rfl <| .nil ?_)
      refine EndT.thenN ?_
      refine CodeT.block ?_
      refine CodeT.loopO (σ := SB × ArD × Nat) (fun g => cellsH b30 [addrV Y.ab 0, addrV sb 0, exactV (sval g.1 (frs a0.height (classN z) g.2.2).length), i64V 0, exactV (.map (some m27)), exactV (.map (some m28)), i64V 0, exactV (.bool false)] :: sliceH g.1 6 encFr (frs a0.height (classN z) g.2.2) :: mapH m28 kpair i64V ([] : List (PairK × Int)) :: mapH m27 kpair i64V ([] : List (PairK × Int)) :: storeH sb ⟨z, (q : Int), 0, 0, -1, false, []⟩ :: arenaL Y g.2.1) (fun g => [(32, i64V (g.2.2 : Int))]) (fun g => ArT Y a0 g.2.1 (classN z) g.2.2 ∧ g.2.2 ≤ n) (fun g => n - g.2.2) (none, a0, 0) ⟨hp0, Nat.zero_le _⟩ rfl ?_ ?_
      · exact (.get rfl (VLe.refl _) (.refl _ _))
      · rintro ⟨gb1, a1, j1⟩ ⟨hA1, hj⟩
        simp only at hA1 hj ⊢
        refine CodeT.seq ?_
        refine CodeT.region (.p (opLss (.t rfl) (.t rfl)) rfl <| .nil ?_)
        refine EndT.thenN ?_
        refine CodeT.seq ?_
        refine CodeT.cond (.t rfl) (fun c2 => ?_) (fun c2 => ?_)
        ·
          have hj1 : a0.height + (j1 + 1) * classN z ≤ Y.size := Nat.le_trans (Nat.add_le_add_left (Nat.mul_le_mul_right _ (by omega)) _) hp5
          refine CodeT.skip (EndT.thenN ?_)
          refine CodeT.seq ?_
          refine CodeT.block ?_
          refine CodeT.seq ?_
          refine CodeT.region (.p (opMove (.t rfl)) rfl <| .p (opMove (.t rfl)) rfl <| .n ((opCallE (rest := [_, _, _, _, _, _, _, _]) (ssize_spec (s := ⟨z, (q : Int), 0, 0, -1, false, []⟩)) Tryd.cb39 (.cons (.t rfl) .nil) (Perm.idx [4, 0, 1, 2, 3, 5, 6, 7, 8] rfl rfl)).same (fun _ _ => OLe.perm (Perm.idx [1, 2, 3, 4, 0, 5, 6, 7, 8] rfl rfl)) (fun _ _ => VLe.refl _)) rfl <| fun _ _ => .n (opCallE (rest := [_, _, _, _, _]) (atake_spec (X := Y) (a := a1) (n := z) hA1.ok) Tryd.cb38 (.cons (.t rfl) (.cons (.t rfl) .nil)) (Perm.idx [5, 6, 7, 8, 0, 1, 2, 3, 4] rfl rfl)) rfl <| fun g38 h38 => .p (opMove (.t rfl)) rfl <| .p (opExtract (.t rfl) rfl) rfl <| .p (opExtract (.t rfl) rfl) rfl <| .p (opAssign (.t rfl)) rfl <| .p (opAssign (.t rfl)) rfl <| .nil ?_)
          refine EndT.thenN ?_
          obtain ⟨a2, at2, e2⟩ := g38
          obtain ⟨he2, hat2, hA2⟩ := hA1.take (n := z) (by omega) hj1 h38
          simp only at he2 hat2 hA2
          subst he2
          subst hat2
          have hfl := frs_len a0.height (classN z) j1
          refine CodeT.seq ?_
          refine CodeT.seq ?_
          refine CodeT.region (.p (opMove (.t rfl)) rfl <| .p (opNeq (.t rfl) (.c _)) rfl <| .nil ?_)
          refine EndT.thenN ?_
          refine CodeT.cond (.t rfl) (fun c3 => ?_) (fun c3 => ?_)
          ·
            exact absurd rfl c3
          ·
            refine CodeT.skip (EndT.thenN ?_)
            refine CodeT.region (.p (opMove (.t rfl)) rfl <| .p (opMove (.t rfl)) rfl <| .p (opNilChkO (.t rfl)) rfl <| .p (opFieldO Tryd.fd96_2 (.t rfl)) rfl <| .p (opLoadO (i := 4) Tryd.ag94 (.t rfl) rfl rfl) rfl <| .p (opMove (.t rfl)) rfl <| .p ((opBuild Tryd.pl102 Tryd.zb102 (.cons (.t rfl) .nil) rfl).le (VLe.agg (.cons (VLe.refl _) (.cons (.refl _) (.cons (.refl _) (.cons falseV (.cons falseV (.cons falseV .nil)))))))) rfl <| .p (opBuildSlice (enc := encFr) [(⟨a0.height + j1 * classN z, (0, 0), false, false, false⟩ : Fr)] Tryd.underlying94 Tryd.cz102 rfl Tryd.zb102 rfl (.cons (.t rfl) .nil) rfl rfl rfl rfl rfl) rfl <| .n (opAppend (i := 5) (xs := frs a0.height (classN z) j1) (ys := [(⟨a0.height + j1 * classN z, (0, 0), false, false, false⟩ : Fr)]) Tryd.underlying94 Tryd.underlying94 Tryd.cz102 rfl Tryd.zb102 rfl Tryd.by102 (.t rfl) (.t rfl) rfl (by (simp only [frs_len, List.length_cons, List.length_nil]; omega)) (by (simp only [frs_len, List.length_cons, List.length_nil]; omega))) rfl <| fun g53 _ => .p (opNilChkO (.t rfl)) rfl <| .p (opFieldO Tryd.fd96_2 (.t rfl)) rfl <| .s (opStoreO (i := 4) Tryd.cz94 (.t rfl) (.t rfl) rfl rfl) <| .nil ?_)
            refine EndT.blkN (EndT.thenN ?_)
            refine CodeT.region (.p (opAddF (.t rfl) (.c _) (fits_i64 (by omega) (by omega))) rfl <| .p (opMove (.t rfl)) rfl <| .nil ?_)
            refine EndT.own (OLe.perm (Perm.idx [4, 5, 6, 7, 8, 0, 1, 2, 3] rfl rfl)) (EndT.round (g53, a2, j1 + 1) ⟨hA2, by (show j1 + 1 ≤ n; omega)⟩ (by (show n - (j1 + 1) < n - j1; omega)) (by (simp only [frs_succ]; rfl)) ?_)
            exact (.get rfl (VLe.int (by (show (j1 : Int) + 1 = ((j1 + 1 : Nat) : Int); omega))) ((.keep 26 rfl rfl)))
        ·
          have hjn : j1 = n := by omega
          subst hjn
          refine CodeT.sliceSome 1 rfl (fun e => by (have h9 := congrArg List.length e; rw [frs_len] at h9; simp at h9; omega)) fun fb cap hgb => ?_
          subst hgb
          refine CodeT.exit (EndT.thenX (EndT.thenX (EndT.blkX (EndT.thenN ?_))))
          refine CodeT.seq ?_
          refine CodeT.region (.p (opMove (.t rfl)) rfl <| .p (opAssign (.t rfl)) rfl <| .p (opAssign (.c _)) rfl <| .nil ?_)
          refine EndT.thenN ?_
          refine CodeT.ret (Post.retR rfl rfl ((⟨b30, sb, fb, cap, m27, m28, j1, a0.height, a0.height + j1 * classN z, Y⟩, a1)) (by exact ⟨rfl, rfl, rfl, rfl, rfl, hA1, inv_new hp1 hp2 hp3 hp4 hA1 rfl rfl⟩) (OLe.trans (OLe.cells (.cons (.refl _) (.cons (.refl _) (.cons (VLe.of_eq (by rw [frs_len])) (.cons (.refl _) (.cons (.refl _) (.cons (.refl _) (.cons (.refl _) (.cons falseV .nil))))))))) (OLe.perm (Perm.idx [0, 1, 3, 2, 4, 5, 6, 7, 8] rfl rfl))) rfl (.cons (.rt rfl) ?_ (.cons (.rt rfl) ?_ .nil)))
          · first | exact VLe.refl _ | exact VLe.int (by omega) | exact VLe.prop (by omega) | exact VLe.prop (by simp_all) | exact VLe.prop (by simp; omega)
          · first | exact VLe.refl _ | exact VLe.int (by omega) | exact VLe.prop (by omega) | exact VLe.prop (by simp_all) | exact VLe.prop (by simp; omega)

end Go.Proofs.YtiicgelmdmhajaaDoor
