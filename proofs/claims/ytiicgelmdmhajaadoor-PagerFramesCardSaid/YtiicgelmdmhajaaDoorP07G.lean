/-
  Walks, printed by a program (gen.py) out of what its author says of each function.
-/
import Derived.Test.YtiicgelmdmhajaaDoorP07F
namespace Go.Proofs.YtiicgelmdmhajaaDoor
open Go.Hl Go.RowKit
set_option linter.unusedVariables false
set_option maxRecDepth 100000

theorem pdrop_spec {X : PgI} {z q m : Nat} {T : PgD → Prop} {C : Cont} {R : ArD → HP} {mem : Int} (hp0 : RestOk X R) : FnE Tryd.prog 36 [addrV X.pb 0, i64V mem] [pagH X z q T C m R] (γ := Unit) (fun _ => True) (fun _ => [pagH X z q (fun _ => True) (dropG z C mem) m R]) (fun _ => i64V (wrongG z (mem, 0) 0 0 : Int)) := by
  refine FnE.intro 70 Tryd.func36 rfl rfl rfl fun w0 S0 M => ?_
  refine CodeT.openG fun p a s hG => ?_
  obtain ⟨D, hDm, hDk, hI⟩ := hG.ex
  have hsz := hI.ok.st.size
  have hgz := hG.sz
  have hRR := hp0
  have hXn := hI.ok.most
  have hgc := hG.cp
  have hwr := hG.wrong (mem, 0) 0 0
  have hcp := hI.ok.st.cap
  have hfew := hI.few
  refine CodeT.seq ?_
  refine CodeT.region (.p (opAssign (.c _)) rfl <| .nil ?_)
  refine EndT.thenN ?_
  refine CodeT.seq ?_
  refine CodeT.seq ?_
  refine CodeT.region (.p (opMove (.t rfl)) rfl <| .p (opMove (.t rfl)) rfl <| .p (opBuild Tryd.pl100 Tryd.zb100 (.cons (.t rfl) .nil) rfl) rfl <| .n ((opCallE (rest := [_, _, _, _, _, _, _, _]) (pwrong_spec (p := p) (s := s) (k := (mem, 0)) (at_ := 0) (n := 0) (by omega)) Tryd.cb41 (.cons (.t rfl) (.cons (.t rfl) (.cons (.c _) (.cons (.c _) .nil)))) (Perm.idx [0, 4, 1, 2, 3, 5, 6, 7, 8, 9] rfl rfl)).same (fun _ _ => OLe.perm (Perm.idx [0, 2, 3, 4, 1, 5, 6, 7, 8, 9] rfl rfl)) (fun _ _ => VLe.refl _)) rfl <| fun _ _ => .p (opAssign (.t rfl)) rfl <| .nil ?_)
  refine EndT.thenN ?_
  refine CodeT.seq ?_
  refine CodeT.region (.p (opMove (.t rfl)) rfl <| .p (opNeq (.t rfl) (.c _)) rfl <| .nil ?_)
  refine EndT.thenN ?_
  refine CodeT.cond (.t rfl) (fun c0 => ?_) (fun c0 => ?_)
  ·
    have hne : wrongG z (mem, 0) 0 0 ≠ 0 := by (rw [← hwr]; omega)
    have hdg : dropG z C mem = C := by unfold dropG; rw [if_neg hne]
    refine CodeT.seq ?_
    refine CodeT.region (.p (opMove (.t rfl)) rfl <| .p (opAssign (.t rfl)) rfl <| .nil ?_)
    refine EndT.thenN ?_
    refine CodeT.ret (EndT.thenR (Post.retR1 rfl (()) (by trivial) (pag_close (p := p) (a0 := a) (a := a) (s := s) (r := []) hRR hI.ok.ar (SameOut.refl _ _) ⟨⟨D, hDm, hDk, (by rw [hdg]; exact hI)⟩, hG.sz, hG.cp, trivial⟩) (.rt rfl) ?_))
    exact VLe.int (by rw [← hwr])
  ·
    have he0 : wrongG z (mem, 0) 0 0 = 0 := by (rw [← hwr]; omega)
    refine CodeT.skip (EndT.thenN ?_)
    refine CodeT.seq ?_
    refine CodeT.seq ?_
    refine CodeT.region (.p (opMove (.t rfl)) rfl <| .p (opNilChkO (.t rfl)) rfl <| .p (opFieldO Tryd.fd96_2 (.t rfl)) rfl <| .p (opLoadO (i := 0) Tryd.ag94 (.t rfl) rfl rfl) rfl <| .p (opLenW rfl Tryd.underlying94 (.t rfl)) rfl <| .p (opMove (.c _)) rfl <| .nil ?_)
    refine EndT.thenN ?_
    refine CodeT.block ?_
    refine CodeT.loopO (σ := PgD × Cont × Nat) (fun g => pagL X g.1 a s ++ [R a]) (fun g => [(23, i64V (g.2.2 : Int))]) (fun g => DropA X p a s C D mem g.1 g.2.1 g.2.2) (fun g => X.n - g.2.2) (p, C, 0) ⟨hI, rfl, fun _ _ => rfl, Nat.zero_le _, fun j f hj => absurd hj (Nat.not_lt_zero _)⟩ rfl ?_ ?_
    · exact (.get rfl (VLe.refl _) (.refl _ _))
    · rintro ⟨p1, C1, i1⟩ hA
      simp only at hA ⊢
      refine CodeT.seq ?_
      refine CodeT.region (.p (opLss (.t rfl) (.t rfl)) rfl <| .nil ?_)
      refine EndT.thenN ?_
      refine CodeT.seq ?_
      refine CodeT.cond (.t rfl) (fun c1 => ?_) (fun c1 => ?_)
      ·
        have hil : i1 < X.n := by omega
        obtain ⟨fr, hfr⟩ := getElem?_lt' (xs := p1.l) (k := i1) (by (rw [hA.inv.ok.n]; omega))
        refine CodeT.skip (EndT.thenN ?_)
        refine CodeT.cut (σ := PgD × Cont) (fun g => pagL X g.1 a s ++ [R a]) (fun g => []) (fun g => DropA X p a s C D mem g.1 g.2 (i1 + 1)) ?_ ?_
        ·
          refine CodeT.block ?_
          refine CodeT.seq ?_
          refine CodeT.region (.p (opMove (.t rfl)) rfl <| .p (opIndexAddrW i1 Tryd.underlying94 Tryd.cz102 rfl (.t rfl) (.t rfl) rfl hil) rfl <| .p (OpP.le (opLoadWA (enc := encFr) (i := 1) (r := 0) Tryd.ag102 Tryd.cz102 rfl (.t rfl) rfl hfr rfl) (VLe.refl (aggV [i64V (fr.at_ : Int), i64V fr.k.1, i64V fr.k.2, propV (BP fr.used), propV (BP fr.seen), propV (BP fr.dirty)]))) rfl <| .n (opAlloc Tryd.zb102) rfl <| fun b7 _ => .p (opAssign (.t rfl)) rfl <| .s (opStoreOA (i := 0) Tryd.cz102 rfl (.t rfl) (.t rfl) rfl rfl rfl) <| .nil ?_)
          refine EndT.thenN ?_
          refine CodeT.share (t := 7) (i := 0) rfl rfl ?_
          refine CodeT.seq ?_
          refine CodeT.region (.p (opField Tryd.fd102_2 (.t rfl)) rfl <| .p (opLoad Tryd.ag4 (.t rfl)) rfl <| .p (opMove (.t rfl)) rfl <| .g (OpG.gT rfl rfl rfl rfl (fun hg => opField Tryd.fd102_1 (.t rfl))) rfl rfl <| .g (OpG.gT rfl rfl rfl rfl (fun hg => opField Tryd.fd100_0 (.when (.t rfl) hg))) rfl rfl <| .g (OpG.gT rfl rfl rfl rfl (fun hg => opLoad Tryd.ag3 (.when (.t rfl) hg))) rfl rfl <| .g (OpG.gT rfl rfl rfl rfl (fun hg => opMove (.t rfl))) rfl rfl <| .g (OpG.gT rfl rfl rfl rfl (fun hg => opEql (.when (.t rfl) hg) (.when (.t rfl) hg))) rfl rfl <| .p (opAnd (.t rfl) (.t rfl)) rfl <| .nil ?_)
          refine EndT.thenN ?_
          refine CodeT.cond (.t rfl) (fun c2 => ?_) (fun c2 => ?_)
          ·
            have hfu : fr.used = true := (BP_iff _).1 c2.1
            have hfm : fr.k.1 = mem := c2.2
            refine CodeT.seq ?_
            refine CodeT.draw 6 1 Tryd.mixed (by kernel_rfl) (.p (opMove (.t rfl)) <| .p (opNilChkO (.t rfl)) <| .p (opFieldO Tryd.fd96_4 (.t rfl)) <| .p (opLoadO (i := 0) Tryd.ag93 (.t rfl) rfl rfl) <| .p (opField Tryd.fd102_1 (.t rfl)) <| .p (opLoadA Tryd.ag100 Tryd.cz100 rfl (.t rfl) rfl) <| .nil) (.s (opDel (i := 2) rfl Tryd.kt93 Tryd.underlying93 (.t rfl) (.le (.t rfl) agg_pair) rfl) <| .nil ?_)
            refine EndT.thenN ?_
            refine CodeT.draw 8 2 Tryd.mixed (by kernel_rfl) (.p (opMove (.t rfl)) <| .p (opNilChkO (.t rfl)) <| .p (opFieldO Tryd.fd96_2 (.t rfl)) <| .p (opLoadO (i := 0) Tryd.ag94 (.t rfl) rfl rfl) <| .p (opMove (.t rfl)) <| .p (opField Tryd.fd102_0 (.t rfl)) <| .p (opLoad Tryd.ag3 (.t rfl)) <| .p ((opBuild Tryd.pl102 Tryd.zb102 (.cons (.t rfl) .nil) rfl).le (VLe.agg (.cons (.refl _) (.cons (.refl _) (.cons (.refl _) (.cons falseV (.cons falseV (.cons falseV .nil)))))))) <| .nil) (.p (opIndexAddrW i1 Tryd.underlying94 Tryd.cz102 rfl (.t rfl) (.t rfl) rfl hil) rfl <| .s (opStoreWA (i := 1) (r := 0) ⟨fr.at_, (0, 0), false, false, false⟩ rfl Tryd.cz102 rfl (.t rfl) (.t rfl) rfl rfl hfr rfl rfl) <| .nil ?_)
            refine EndT.blkN (EndT.meet ({ p1 with l := p1.l.set i1 ⟨fr.at_, (0, 0), false, false, false⟩, inm := delD p1.inm fr.k }, updC C1 fr.k (blkC p1 s fr.k)) (hA.yes hfr hfu hfm) rfl (.keep 30 rfl rfl))
          ·
            have hfn : ¬ (fr.used = true ∧ fr.k.1 = mem) := fun h => c2 ⟨(BP_iff _).2 h.1, h.2⟩
            refine CodeT.skip (EndT.blkN (EndT.meet (p1, C1) (hA.no hfr hfn) rfl (.keep 15 rfl rfl)))
        ·
          intro ⟨p4, C4⟩ hA4
          simp only at hA4 ⊢
          refine CodeT.region (.p (opAddF (.t rfl) (.c _) (fits_i64 (by omega) (by omega))) rfl <| .p (opMove (.t rfl)) rfl <| .nil ?_)
          refine EndT.round (p4, C4, i1 + 1) hA4 (by (show X.n - (i1 + 1) < X.n - i1; omega)) rfl ?_
          exact (.get rfl (VLe.int (by (show (i1 : Int) + 1 = ((i1 + 1 : Nat) : Int); omega))) ((.keep 4 rfl rfl)))
      ·
        have hin : i1 = X.n := by (have h9 := hA.le; omega)
        subst hin
        refine CodeT.exit (EndT.thenX (EndT.thenX (EndT.blkX (EndT.thenN ?_))))
        refine CodeT.seq ?_
        refine CodeT.seq ?_
        refine CodeT.region (.p (opMove (.t rfl)) rfl <| .p (opMove (.t rfl)) rfl <| .n (opCallE (rest := [_, _, _, _, _, _, _, _]) (pof_spec (X := X) (p := p1) (mem := mem) hA.inv.bmK (fun k id hk => hDk _ (hA.inv.cnt k id hk)) (by (have h1 := hA.inv.num; have h2 := hA.inv.ok.st.many; omega))) Tryd.cb57 (.cons (.t rfl) (.cons (.t rfl) .nil)) (Perm.idx [0, 3, 1, 2, 4, 5, 6, 7, 8, 9] rfl rfl)) rfl <| fun g55 h55 => .p (opLen rfl Tryd.underlying122 (.t rfl)) rfl <| .p (opMove (.c _)) rfl <| .nil ?_)
        refine EndT.thenN ?_
        refine CodeT.fact (t := 55) rfl (fun S w v h => sliceV_len h) fun hl55 => ?_
        refine CodeT.block ?_
        refine CodeT.own (OLe.perm (Perm.idx [0, 2, 3, 1, 4, 5, 6, 7, 8, 9] rfl rfl)) ?_
        refine CodeT.loopO (σ := PgD × StD × Cont × Nat) (fun g => pagL X g.1 a g.2.1 ++ [R a]) (fun g => [(57, i64V (g.2.2.2 : Int))]) (fun g => DropB X a s C D mem g55 g.1 g.2.1 g.2.2.1 g.2.2.2) (fun g => g55.length - g.2.2.2) (p1, s, C1, 0) (hA.done h55) rfl ?_ ?_
        · exact (.get rfl (VLe.refl _) (.refl _ _))
        · rintro ⟨p2, s2, C2, i2⟩ hB
          simp only at hB ⊢
          refine CodeT.seq ?_
          refine CodeT.region (.p (opLss (.t rfl) (.t rfl)) rfl <| .nil ?_)
          refine EndT.thenN ?_
          refine CodeT.seq ?_
          refine CodeT.cond (.t rfl) (fun c3 => ?_) (fun c3 => ?_)
          ·
            obtain ⟨kk, hkk⟩ := getElem?_lt' (xs := g55) (k := i2) (by omega)
            have hkm : kk.1 = mem := ((h55 kk).1 (List.mem_of_getElem? hkk)).1
            refine CodeT.skip (EndT.thenN ?_)
            refine CodeT.seq ?_
            refine CodeT.block ?_
            refine CodeT.seq ?_
            refine CodeT.region (.p (opIndexAddr (j := i2) Tryd.underlying122 Tryd.cz100 rfl (.t rfl) (.t rfl) rfl hkk) rfl <| .p (OpP.le (opLoadA Tryd.ag100 Tryd.cz100 rfl (.t rfl) rfl) (VLe.refl (aggV [i64V kk.1, i64V kk.2]))) rfl <| .n (opAlloc Tryd.zb100) rfl <| fun b9 _ => .s (opStoreOA (i := 0) Tryd.cz100 rfl (.t rfl) (.t rfl) rfl rfl rfl) <| .nil ?_)
            refine EndT.thenN ?_
            refine CodeT.share (t := 9) (i := 0) rfl rfl ?_
            refine CodeT.seq ?_
            refine CodeT.region (.p (opMove (.t rfl)) rfl <| .p (opLoadA Tryd.ag100 Tryd.cz100 rfl (.t rfl) rfl) rfl <| .n (opCallE (rest := [_, _, _, _, _, _, _]) (pfree_spec (X := X) (p := p2) (s := s2) (k := kk)) Tryd.cb58 (.cons (.t rfl) (.cons (.t rfl) .nil)) (Perm.idx [0, 3, 4, 1, 2, 5, 6, 7, 8, 9] rfl rfl)) rfl <| fun g63 h63 => .p (opAssign (.t rfl)) rfl <| .nil ?_)
            refine EndT.thenN ?_
            obtain ⟨hf0, hB2, hfl, hfi⟩ := hB.step hkk hkm h63
            obtain ⟨⟨g63l, g63hd, g63inm, g63bm, g63f, g63c⟩, g63s, g63e⟩ := g63
            simp only at hf0 hB2 hfl hfi
            subst hf0
            subst hfl
            subst hfi
            refine CodeT.seq ?_
            refine CodeT.region (.p (opMove (.t rfl)) rfl <| .p (opNeq (.t rfl) (.c _)) rfl <| .nil ?_)
            refine EndT.thenN ?_
            refine CodeT.cond (.t rfl) (fun c4 => ?_) (fun c4 => ?_)
            ·
              exact absurd rfl c4
            ·
              refine CodeT.skip (EndT.blkN (EndT.thenN ?_))
              refine CodeT.region (.p (opAddF (.t rfl) (.c _) (fits_i64 (by omega) (by omega))) rfl <| .p (opMove (.t rfl)) rfl <| .nil ?_)
              refine EndT.own (OLe.perm (Perm.idx [0, 3, 4, 1, 2, 5, 6, 7, 8, 9] rfl rfl)) (EndT.round (⟨p2.l, g63hd, p2.inm, g63bm, g63f, g63c⟩, g63s, updC C2 kk (List.replicate s2.size 0), i2 + 1) hB2 (by (show g55.length - (i2 + 1) < g55.length - i2; omega)) rfl ?_)
              exact (.get rfl (VLe.int (by (show (i2 : Int) + 1 = ((i2 + 1 : Nat) : Int); omega))) ((.keep 14 rfl rfl)))
          ·
            have hin2 : i2 = g55.length := by (have h9 := hB.le; omega)
            subst hin2
            have hCd := hB.done (hB.size.trans hG.sz) he0
            refine CodeT.exit (EndT.thenX (EndT.thenX (EndT.blkX (EndT.thenN ?_))))
            refine CodeT.seq ?_
            refine CodeT.region (.p (opAssign (.c _)) rfl <| .nil ?_)
            refine EndT.thenN ?_
            refine CodeT.ret (Post.retR1 rfl (()) (by trivial) (pag_close (p := p2) (a0 := a) (a := a) (s := s2) (r := []) hRR hI.ok.ar (SameOut.refl _ _) ⟨⟨D, hDm, hDk, (by rw [← hCd]; exact hB.inv)⟩, (hB.size.trans hG.sz), (hB.cap.trans hG.cp), trivial⟩) (.rt rfl) ?_)
            exact VLe.int (by rw [he0]; rfl)

end Go.Proofs.YtiicgelmdmhajaaDoor
