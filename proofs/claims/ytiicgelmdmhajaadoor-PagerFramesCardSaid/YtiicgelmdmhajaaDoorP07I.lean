/-
  Walks, printed by a program (gen.py) out of what its author says of each function.
-/
import Derived.Test.YtiicgelmdmhajaaDoorP07H
import Derived.Test.YtiicgelmdmhajaaDoorP07G
import Derived.Test.YtiicgelmdmhajaaDoorP07R
namespace Go.Proofs.YtiicgelmdmhajaaDoor
open Go.Hl Go.RowKit
set_option linter.unusedVariables false
set_option maxRecDepth 100000

theorem president2_spec {X : PgI} {z q m : Nat} {T : PgD → Prop} {C : Cont} {R : ArD → HP} (hp0 : RestOk X R) : FnE Tryd.prog 37 [addrV X.pb 0] [pagH X z q T C m R] (γ := Unit) (fun _ => True) (fun _ => [pagH X z q T C m R]) (fun _ => leV X.n) := by
  refine FnE.intro 16 Tryd.func37 rfl rfl rfl fun w0 S0 M => ?_
  refine CodeT.openG fun p a s hG => ?_
  obtain ⟨D, hDm, hDk, hI⟩ := hG.ex
  have hsz := hI.ok.st.size
  have hgz := hG.sz
  have hRR := hp0
  have hcf : ¬ BP p.closed := fun e => by (have h9 := (BP_iff _).1 e; rw [hI.opn.2] at h9; cases h9)
  refine CodeT.seq ?_
  refine CodeT.region (.p (opAssign (.c _)) rfl <| .nil ?_)
  refine EndT.thenN ?_
  refine CodeT.seq ?_
  refine CodeT.seq ?_
  refine CodeT.region (.p (opMove (.t rfl)) rfl <| .p (opEqlNilO Tryd.underlying31 (.t rfl)) rfl <| .p (opMove (.t rfl)) rfl <| .g (OpG.gF rfl rfl rfl rfl (fun hg => opMove (.t rfl))) rfl rfl <| .g (OpG.gF rfl rfl rfl rfl (fun hg => opNilChkO (.when (.t rfl) hg))) rfl rfl <| .g (OpG.gF rfl rfl rfl rfl (fun hg => opFieldO Tryd.fd96_7 (.when (.t rfl) hg))) rfl rfl <| .g (OpG.gF rfl rfl rfl rfl (fun hg => opLoadO (i := 0) Tryd.ag4 (.when (.t rfl) hg) rfl rfl)) rfl rfl <| .p (opOr (.t rfl) (.t rfl)) rfl <| .nil ?_)
  refine EndT.thenN ?_
  refine CodeT.cond (.t rfl) (fun c0 => ?_) (fun c0 => ?_)
  ·
    exact (hcf (c0.elim False.elim id)).elim
  ·
    refine CodeT.skip (EndT.thenN ?_)
    refine CodeT.seq ?_
    refine CodeT.region (.p (opMove (.t rfl)) rfl <| .p (opNilChkO (.t rfl)) rfl <| .p (opFieldO Tryd.fd96_4 (.t rfl)) rfl <| .p (opLoadO (i := 0) Tryd.ag93 (.t rfl) rfl rfl) rfl <| .p (opLenM (i := 2) rfl Tryd.underlying93 (.t rfl) rfl) rfl <| .p (opAssign (.t rfl)) rfl <| .nil ?_)
    refine EndT.thenN ?_
    refine CodeT.ret (Post.retR1 rfl (()) (by trivial) (pag_close (p := p) (a0 := a) (a := a) (s := s) (r := []) hRR hI.ok.ar (SameOut.refl _ _) ⟨⟨D, hDm, hDk, hI⟩, hG.sz, hG.cp, hG.cln⟩) (.rt rfl) ?_)
    exact fun S w v h => ⟨p.inm.length, hI.resident, h⟩

theorem pagerMems_spec {frames : UInt8} {acts : List ActP} : FnP Tryd.prog 9 [intV .u8 (frames.toNat : Int), sliceV 6 encAct acts] (propV True) := by
  refine FnE.intro 174 Tryd.func9 rfl rfl rfl fun w0 S0 M => ?_
  have h16 := class16
  refine CodeT.seq ?_
  refine CodeT.region (.p (opAssign .cf) rfl <| .nil ?_)
  refine EndT.thenN ?_
  refine CodeT.seq ?_
  refine CodeT.seq ?_
  refine CodeT.region (.p (opMove (.t rfl)) rfl <| .p (opLen rfl Tryd.underlying74 (.t rfl)) rfl <| .p (opGtr (.t rfl) (.c _)) rfl <| .p (opMove (.t rfl)) rfl <| .g (OpG.gF rfl rfl rfl rfl (fun hg => opCall (awake07_spec) Tryd.cb11 .nil)) rfl rfl <| .g (OpG.gF rfl rfl rfl rfl (fun hg => opNot (.when (.t rfl) hg))) rfl rfl <| .p (opOr (.t rfl) (.t rfl)) rfl <| .nil ?_)
  refine EndT.thenN ?_
  refine CodeT.cond (.t rfl) (fun c0 => ?_) (fun c0 => ?_)
  ·
    refine CodeT.seq ?_
    refine CodeT.region (.p (opCall (awake07_spec) Tryd.cb11 .nil) rfl <| .p (opAssign (.t rfl)) rfl <| .nil ?_)
    refine EndT.thenN ?_
    refine CodeT.ret (EndT.thenR (Post.retP rfl rfl ?_))
    exact VLe.prop (by simp)
  ·
    have hl50 : acts.length ≤ 50 := by omega
    refine CodeT.skip (EndT.thenN ?_)
    refine CodeT.seq ?_
    refine CodeT.region (.n (opCallE (rest := []) (anew_spec (n := 8192) (by decide)) Tryd.cb12 (.cons (.c _) .nil) (Perm.idx [] rfl rfl)) rfl <| fun g34 h34 => .p (opMove (.t rfl)) rfl <| .p (opExtract (.t rfl) rfl) rfl <| .p (opExtract (.t rfl) rfl) rfl <| .p (opAssign (.t rfl)) rfl <| .p (opAssign (.t rfl)) rfl <| .nil ?_)
    refine EndT.thenN ?_
    refine CodeT.seq ?_
    refine CodeT.region (.n (opCallE (rest := [_, _, _, _]) (snew_spec (n := 16) (cap := 200) (by decide) (by decide) (by decide) (by decide)) Tryd.cb13 (.cons (.c _) (.cons (.c _) .nil)) (Perm.idx [0, 1, 2, 3] rfl rfl)) rfl <| fun g38 h38 => .p (opMove (.t rfl)) rfl <| .p (opExtract (.t rfl) rfl) rfl <| .p (opExtract (.t rfl) rfl) rfl <| .p (opAssign (.t rfl)) rfl <| .p (opAssign (.t rfl)) rfl <| .nil ?_)
    refine EndT.thenN ?_
    refine CodeT.seq ?_
    refine CodeT.region (.n (opCallE (rest := [_, _, _, _, _]) (snew_spec (n := 16) (cap := 200) (by decide) (by decide) (by decide) (by decide)) Tryd.cb13 (.cons (.c _) (.cons (.c _) .nil)) (Perm.idx [0, 1, 2, 3, 4] rfl rfl)) rfl <| fun g42 h42 => .p (opMove (.t rfl)) rfl <| .p (opExtract (.t rfl) rfl) rfl <| .p (opExtract (.t rfl) rfl) rfl <| .p (opAssign (.t rfl)) rfl <| .p (opAssign (.t rfl)) rfl <| .nil ?_)
    refine EndT.thenN ?_
    refine CodeT.seq ?_
    refine CodeT.region (.p (opMove (.t rfl)) rfl <| .p (opMove (.t rfl)) rfl <| .p (opMove (.t rfl)) rfl <| .p (opRem (.t rfl) (.c _) (by omega) (by omega)) rfl <| .p (opConvF Tryd.underlying5 Tryd.underlying3 (.t rfl) (fits_i64 (by omega) (by omega))) rfl <| .p (opAddF (.c _) (.t rfl) (fits_i64 (by omega) (by omega))) rfl <| .n (opCallE (rest := [_]) (pnew_spec (Y := g34) (sb := g38) (z := 16) (q := 200) (n := 1 + frames.toNat % 6) (a0 := ⟨List.replicate 8192 0, 0, 0, []⟩) (arT_new h34 (by decide)) (by omega) (by omega) (by decide) (by decide) (by show 0 + (1 + frames.toNat % 6) * classN 16 ≤ _; rw [h34, h16]; omega)) Tryd.cb14 (.cons (.t rfl) (.cons (.t rfl) (.cons (.t rfl) .nil))) (Perm.idx [1, 2, 3, 4, 5, 0] rfl rfl)) rfl <| fun g52 h52 => .p (opMove (.t rfl)) rfl <| .p (opExtract (.t rfl) rfl) rfl <| .p (opExtract (.t rfl) rfl) rfl <| .p (opAssign (.t rfl)) rfl <| .p (opAssign (.t rfl)) rfl <| .nil ?_)
    refine EndT.thenN ?_
    obtain ⟨X1, a1⟩ := g52
    obtain ⟨hY1, hs1, hn1, hlo1, hhi1, hT1, hI1⟩ := h52
    simp only at hY1 hs1 hn1 hlo1 hhi1 hT1 hI1
    subst hY1
    subst hs1
    have hh1 := hT1.hi
    simp only at hh1
    refine CodeT.seq ?_
    refine CodeT.region (.p (opMove (.t rfl)) rfl <| .p (opMove (.t rfl)) rfl <| .p (opMove (.t rfl)) rfl <| .p (opRem (.t rfl) (.c _) (by omega) (by omega)) rfl <| .p (opConvF Tryd.underlying5 Tryd.underlying3 (.t rfl) (fits_i64 (by omega) (by omega))) rfl <| .p (opAddF (.c _) (.t rfl) (fits_i64 (by omega) (by omega))) rfl <| .n (opCallE (rest := [_, _, _, _, _]) (pnew_spec (Y := X1.Y) (sb := g42) (z := 16) (q := 200) (n := 1 + frames.toNat % 6) (a0 := a1) (arT_at hT1.ok) (by omega) (by omega) (by decide) (by decide) (by rw [h34, hh1, h16]; omega)) Tryd.cb14 (.cons (.t rfl) (.cons (.t rfl) (.cons (.t rfl) .nil))) (Perm.idx [9, 5, 6, 7, 8, 0, 1, 2, 3, 4] rfl rfl)) rfl <| fun g62 h62 => .p (opMove (.t rfl)) rfl <| .p (opExtract (.t rfl) rfl) rfl <| .p (opExtract (.t rfl) rfl) rfl <| .p (opAssign (.t rfl)) rfl <| .p (opAssign (.t rfl)) rfl <| .nil ?_)
    refine EndT.thenN ?_
    obtain ⟨X2, a2⟩ := g62
    obtain ⟨hY2, hs2, hn2, hlo2, hhi2, hT2, hI2⟩ := h62
    simp only at hY2 hs2 hn2 hlo2 hhi2 hT2 hI2
    subst hs2
    have hA : ApartX X1 X2 := ⟨hY2.symm, .inl (by omega)⟩
    refine CodeT.own (duo_new (hI1.later hT2 rfl (by omega)) hI2 hA) ?_
    refine CodeT.seq ?_
    refine CodeT.seq ?_
    refine CodeT.region (.p (opMove (.t rfl)) rfl <| .p (opNeq (.t rfl) (.c _)) rfl <| .p (opMove (.t rfl)) rfl <| .g (OpG.gF rfl rfl rfl rfl (fun hg => opMove (.t rfl))) rfl rfl <| .g (OpG.gF rfl rfl rfl rfl (fun hg => opNeq (.when (.t rfl) hg) (.c _))) rfl rfl <| .p (opOr (.t rfl) (.t rfl)) rfl <| .nil ?_)
    refine EndT.thenN ?_
    refine CodeT.cond (.t rfl) (fun c1 => ?_) (fun c1 => ?_)
    ·
      exact (show False by simp at c1).elim
    ·
      refine CodeT.skip (EndT.thenN ?_)
      refine CodeT.seq ?_
      refine CodeT.seq ?_
      refine CodeT.region (.p (opAssign (.c _)) rfl <| .nil ?_)
      refine EndT.thenN ?_
      refine CodeT.block ?_
      refine CodeT.loopO (σ := Nat × Cont × Cont × Nat × Nat) (fun g => [duoH X1 X2 16 200 g.2.1 g.2.2.1 g.2.2.2.1 g.2.2.2.2]) (fun g => [(15, i64V (g.1 : Int))]) (fun g => sameM g.2.1 g.2.2.1 ∧ g.2.2.2.1 ≤ g.1 ∧ g.2.2.2.2 ≤ g.1 ∧ g.1 ≤ acts.length) (fun g => acts.length - g.1) (0, zeroC 16, zeroC 16, 0, 0) ⟨fun _ => rfl, Nat.le_refl _, Nat.le_refl _, Nat.zero_le _⟩ rfl ?_ ?_
      · exact (.get rfl (VLe.refl _) (.refl _ _))
      · rintro ⟨i, C1, C2, m1, m2⟩ ⟨hC, hm1, hm2, hi⟩
        simp only at hC hm1 hm2 hi ⊢
        refine CodeT.seq ?_
        refine CodeT.seq ?_
        refine CodeT.region (.p (opMove (.t rfl)) rfl <| .p (opMove (.t rfl)) rfl <| .p (opLen rfl Tryd.underlying74 (.t rfl)) rfl <| .p (opLss (.t rfl) (.t rfl)) rfl <| .nil ?_)
        refine EndT.thenN ?_
        refine CodeT.cond (.t rfl) (fun c2 => ?_) (fun c2 => ?_)
        ·
          obtain ⟨x, hx⟩ := getElem?_lt (xs := acts) (k := i) (by omega)
          refine CodeT.skip (EndT.thenN ?_)
          refine CodeT.cut (σ := Cont × Cont × Nat × Nat) (fun g => [duoH X1 X2 16 200 g.1 g.2.1 g.2.2.1 g.2.2.2]) (fun g => []) (fun g => sameM g.1 g.2.1 ∧ g.2.2.1 ≤ i + 1 ∧ g.2.2.2 ≤ i + 1) ?_ ?_
          ·
            refine CodeT.block ?_
            refine CodeT.seq ?_
            refine CodeT.region (.p (opMove (.t rfl)) rfl <| .p (opMove (.t rfl)) rfl <| .p (opIndexAddr (j := i) Tryd.underlying74 Tryd.cz76 rfl (.t rfl) (.t rfl) rfl (by assumption)) rfl <| .p (OpP.le (opLoadA Tryd.ag76 Tryd.cz76 rfl (.t rfl) rfl) (VLe.refl (aggV [intV .u8 (x.Kind.toNat : Int), intV .i64 x.Mem.1, intV .i64 x.Page.1, intV .i64 x.At.1, intV .i64 x.N.1, sliceV 1 encU8 x.B]))) rfl <| .n (opAlloc Tryd.zb76) rfl <| fun b16 _ => .s (opStoreOA (i := 0) Tryd.cz76 rfl (.t rfl) (.t rfl) rfl rfl rfl) <| .nil ?_)
            refine EndT.thenN ?_
            refine CodeT.share (t := 16) (i := 0) rfl rfl ?_
            refine CodeT.seq ?_
            refine CodeT.seq ?_
            refine CodeT.region (.p (opField Tryd.fd76_5 (.t rfl)) rfl <| .p (opLoad Tryd.ag22 (.t rfl)) rfl <| .p (opLen rfl Tryd.underlying22 (.t rfl)) rfl <| .p (opGtr (.t rfl) (.c _)) rfl <| .nil ?_)
            refine EndT.thenN ?_
            refine CodeT.cond (.t rfl) (fun c3 => ?_) (fun c3 => ?_)
            ·
              refine CodeT.seq ?_
              refine CodeT.region (.p (opAssign .ct) rfl <| .nil ?_)
              refine EndT.thenN ?_
              refine CodeT.ret (EndT.thenR (EndT.blkR (EndT.thenR (EndT.thenR (EndT.blkR (EndT.thenR (Post.retP rfl rfl ?_)))))))
              exact VLe.prop (by simp)
            ·
              refine CodeT.skip (EndT.thenN ?_)
              refine CodeT.seq ?_
              refine CodeT.region (.p (opField Tryd.fd76_1 (.t rfl)) rfl <| .p (opLoad Tryd.ag3 (.t rfl)) rfl <| .p (opRemT (.t rfl) (.c _) (by decide)) rfl <| .p (opEql (.t rfl) (.c _)) rfl <| .p (opAssign (.t rfl)) rfl <| .nil ?_)
              refine EndT.thenN ?_
              refine CodeT.seq ?_
              refine CodeT.region (.p (opAssign (.c _)) rfl <| .nil ?_)
              refine EndT.thenN ?_
              refine CodeT.cut (σ := Unit) (fun _ => [duoH X1 X2 16 200 C1 C2 m1 m2]) (fun _ => [(18, i64V (memOf x))]) (fun _ => True) ?_ ?_
              ·
                refine CodeT.seq ?_
                refine CodeT.region (.p (opMove (.t rfl)) rfl <| .nil ?_)
                refine EndT.thenN ?_
                refine CodeT.cond (.t rfl) (fun c4 => ?_) (fun c4 => ?_)
                ·
                  have hmo : memOf x = 0 := by unfold memOf; rw [if_pos c4]
                  refine CodeT.region (.p (opAssign (.c _)) rfl <| .nil ?_)
                  refine EndT.meet () trivial rfl (.get rfl (VLe.int (by rw [hmo])) (.keep 2 rfl rfl))
                ·
                  have hmo : memOf x = 1 := by unfold memOf; rw [if_neg c4]
                  refine CodeT.skip (EndT.meet () trivial rfl (.get rfl (VLe.int (by rw [hmo])) (.keep 1 rfl rfl)))
              ·
                intro _ _
                refine CodeT.seq ?_
                refine CodeT.region (.p (opField Tryd.fd76_0 (.t rfl)) rfl <| .p (opLoad Tryd.ag5 (.t rfl)) rfl <| .p (opRem (.t rfl) (.c _) (by omega) (by omega)) rfl <| .nil ?_)
                refine EndT.thenN ?_
                refine CodeT.block ?_
                refine CodeT.seq ?_
                refine CodeT.region (.p (opEql (.t rfl) (.c _)) rfl <| .p (opAssign (.t rfl)) rfl <| .nil ?_)
                refine EndT.thenN ?_
                refine CodeT.cond (.t rfl) (fun c5 => ?_) (fun c5 => ?_)
                ·
                  refine CodeT.seq ?_
                  refine CodeT.region (.p (opMove (.t rfl)) rfl <| .p (opMove (.t rfl)) rfl <| .p (opField Tryd.fd76_2 (.t rfl)) rfl <| .p (opLoad Tryd.ag3 (.t rfl)) rfl <| .p (opField Tryd.fd76_3 (.t rfl)) rfl <| .p (opLoad Tryd.ag3 (.t rfl)) rfl <| .p (opField Tryd.fd76_4 (.t rfl)) rfl <| .p (opLoad Tryd.ag3 (.t rfl)) rfl <| .n (opCallE (rest := []) (pread_spec (X := X1) (z := 16) (q := 200) (m := m1) (T := anyT) (C := C1) (R := partH X2 16 200 anyT (C2) (m2)) (mem := memOf x) (page := x.Page.1) (at_ := x.At.1) (n := x.N.1)  (part_ok hA)) Tryd.cb35 (.cons (.t rfl) (.cons (.t rfl) (.cons (.t rfl) (.cons (.t rfl) (.cons (.t rfl) .nil))))) (Perm.idx [0] rfl rfl)) rfl <| fun g115 h115 => .p (opMove (.t rfl)) rfl <| .p (opExtract (.t rfl) rfl) rfl <| .p (opExtract (.t rfl) rfl) rfl <| .p (opAssign (.t rfl)) rfl <| .p (opAssign (.t rfl)) rfl <| .nil ?_)
                  refine EndT.thenN ?_
                  refine CodeT.seq ?_
                  refine CodeT.region (.p (opMove (.t rfl)) rfl <| .nil ?_)
                  refine EndT.thenN ?_
                  refine CodeT.cond (.t rfl) (fun c6 => ?_) (fun c6 => ?_)
                  ·
                    have hm0 : memOf x = 0 := by unfold memOf; rw [if_pos c6]
                    refine CodeT.seq ?_
                    refine CodeT.region (.p (opMove (.t rfl)) rfl <| .p (opMove (.t rfl)) rfl <| .p (opField Tryd.fd76_2 (.t rfl)) rfl <| .p (opLoad Tryd.ag3 (.t rfl)) rfl <| .p (opField Tryd.fd76_3 (.t rfl)) rfl <| .p (opLoad Tryd.ag3 (.t rfl)) rfl <| .p (opField Tryd.fd76_4 (.t rfl)) rfl <| .p (opLoad Tryd.ag3 (.t rfl)) rfl <| .n (opCallE (rest := []) (FnE.own (pread_spec (X := X2) (z := 16) (q := 200) (m := m2) (T := anyT) (C := C2) (R := partH X1 16 200 anyT (C1) (m1)) (mem := memOf x) (page := x.Page.1) (at_ := x.At.1) (n := x.N.1)  (part_ok hA.symm)) (part_swap hA.Y) (fun _ _ => part_swap hA.Y.symm)) Tryd.cb35 (.cons (.t rfl) (.cons (.t rfl) (.cons (.t rfl) (.cons (.t rfl) (.cons (.t rfl) .nil))))) (Perm.idx [0] rfl rfl)) rfl <| fun g128 h128 => .p (opMove (.t rfl)) rfl <| .p (opExtract (.t rfl) rfl) rfl <| .p (opExtract (.t rfl) rfl) rfl <| .p (opAssign (.t rfl)) rfl <| .p (opAssign (.t rfl)) rfl <| .nil ?_)
                    refine EndT.thenN ?_
                    refine CodeT.seq ?_
                    refine CodeT.region (.p (opMove (.t rfl)) rfl <| .p (opMove (.t rfl)) rfl <| .p (opNeq (.t rfl) (.t rfl)) rfl <| .p (opMove (.t rfl)) rfl <| .g (OpG.gF rfl rfl rfl rfl (fun hg => opMove (.t rfl))) rfl rfl <| .g (OpG.gF rfl rfl rfl rfl (fun hg => opBytesStr Tryd.underlying22 Tryd.underlying5 Tryd.underlying9 (.when (.t rfl) hg))) rfl rfl <| .g (OpG.gF rfl rfl rfl rfl (fun hg => opMove (.t rfl))) rfl rfl <| .g (OpG.gF rfl rfl rfl rfl (fun hg => opBytesStr Tryd.underlying22 Tryd.underlying5 Tryd.underlying9 (.when (.t rfl) hg))) rfl rfl <| .g (OpG.gF rfl rfl rfl rfl (fun hg => opNeqS (.when (.t rfl) hg) (.when (.t rfl) hg))) rfl rfl <| .p (opOr (.t rfl) (.t rfl)) rfl <| .nil ?_)
                    refine EndT.thenN ?_
                    refine CodeT.cond (.t rfl) (fun c7 => ?_) (fun c7 => ?_)
                    ·
                      exact (show False by (rw [hm0, hC.read] at c7; simp at c7)).elim
                    ·
                      refine CodeT.skip (EndT.blkN (EndT.blkN (EndT.meet (C1, C2, m1, m2) ⟨hC, Nat.le_succ_of_le hm1, Nat.le_succ_of_le hm2⟩ rfl (.keep 61 rfl rfl))))
                  ·
                    refine CodeT.skip (EndT.blkN (EndT.blkN (EndT.meet (C1, C2, m1, m2) ⟨hC, Nat.le_succ_of_le hm1, Nat.le_succ_of_le hm2⟩ rfl (.keep 37 rfl rfl))))
                ·
                  refine CodeT.seq ?_
                  refine CodeT.region (.p (opEql (.t rfl) (.c _)) rfl <| .p (opAssign (.t rfl)) rfl <| .nil ?_)
                  refine EndT.thenN ?_
                  refine CodeT.cond (.t rfl) (fun c8 => ?_) (fun c8 => ?_)
                  ·
                    have hCw : sameM (writeG 16 C1 (memOf x, x.Page.1) x.At.1 x.B) (if x.Mem.1.tmod 2 = 0 then writeG 16 C2 (memOf x, x.Page.1) x.At.1 x.B else C2) := by (by_cases ho : x.Mem.1.tmod 2 = 0; (rw [if_pos ho, show memOf x = 0 from if_pos ho]; exact hC.write 16 _ _ _); (rw [if_neg ho, show memOf x = 1 from if_neg ho]; exact hC.writeO 16 _ _ _))
                    refine CodeT.seq ?_
                    refine CodeT.region (.p (opMove (.t rfl)) rfl <| .p (opMove (.t rfl)) rfl <| .p (opField Tryd.fd76_2 (.t rfl)) rfl <| .p (opLoad Tryd.ag3 (.t rfl)) rfl <| .p (opField Tryd.fd76_3 (.t rfl)) rfl <| .p (opLoad Tryd.ag3 (.t rfl)) rfl <| .p (opField Tryd.fd76_5 (.t rfl)) rfl <| .p (opLoad Tryd.ag22 (.t rfl)) rfl <| .n (opCallE (rest := []) (pwrite_spec (X := X1) (z := 16) (q := 200) (m := m1) (T := anyT) (C := C1) (R := partH X2 16 200 anyT (C2) (m2)) (mem := memOf x) (page := x.Page.1) (at_ := x.At.1) (ys := x.B) (by omega) (intOf_hi x.Page).1 (part_ok hA)) Tryd.cb15 (.cons (.t rfl) (.cons (.t rfl) (.cons (.t rfl) (.cons (.t rfl) (.cons (.t rfl) .nil))))) (Perm.idx [0] rfl rfl)) rfl <| fun g151 h151 => .p (opAssign (.t rfl)) rfl <| .nil ?_)
                    refine EndT.thenN ?_
                    refine CodeT.seq ?_
                    refine CodeT.region (.p (opMove (.t rfl)) rfl <| .p (opMove (.t rfl)) rfl <| .g (OpG.gT rfl rfl rfl rfl (fun hg => opMove (.t rfl))) rfl rfl <| .g (OpG.gT rfl rfl rfl rfl (fun hg => opMove (.t rfl))) rfl rfl <| .g (OpG.gT rfl rfl rfl rfl (fun hg => opField Tryd.fd76_2 (.t rfl))) rfl rfl <| .g (OpG.gT rfl rfl rfl rfl (fun hg => opLoad Tryd.ag3 (.when (.t rfl) hg))) rfl rfl <| .g (OpG.gT rfl rfl rfl rfl (fun hg => opField Tryd.fd76_3 (.t rfl))) rfl rfl <| .g (OpG.gT rfl rfl rfl rfl (fun hg => opLoad Tryd.ag3 (.when (.t rfl) hg))) rfl rfl <| .g (OpG.gT rfl rfl rfl rfl (fun hg => opField Tryd.fd76_5 (.t rfl))) rfl rfl <| .g (OpG.gT rfl rfl rfl rfl (fun hg => opLoad Tryd.ag22 (.when (.t rfl) hg))) rfl rfl <| .egI ([duoH X1 X2 16 200 (writeG 16 C1 (memOf x, x.Page.1) x.At.1 x.B) (if x.Mem.1.tmod 2 = 0 then writeG 16 C2 (memOf x, x.Page.1) x.At.1 x.B else C2) (m1 + 1) (m2 + 1)]) rfl rfl rfl rfl (fun hg => (opCallE (rest := []) (FnE.own (pwrite_spec (X := X2) (z := 16) (q := 200) (m := m2) (T := anyT) (C := C2) (R := partH X1 16 200 anyT (writeG 16 C1 (memOf x, x.Page.1) x.At.1 x.B) (m1 + 1)) (mem := memOf x) (page := x.Page.1) (at_ := x.At.1) (ys := x.B) (by omega) (intOf_hi x.Page).1 (part_ok hA.symm)) (part_swap hA.Y) (fun _ _ => part_swap hA.Y.symm)) Tryd.cb15 (.cons (.when (.t rfl) hg) (.cons (.when (.t rfl) hg) (.cons (.when (.t rfl) hg) (.cons (.when (.t rfl) hg) (.cons (.when (.t rfl) hg) .nil))))) (Perm.idx [0] rfl rfl)).conv (fun _ _ => OLe.headE (by rw [if_pos hg]; rfl)) (fun _ _ => VLe.refl _)) (fun hg => OLe.trans (part_less (Nat.le_succ _)) (OLe.headE (by rw [if_neg hg]; rfl))) rfl rfl <| .g (OpG.gT rfl rfl rfl rfl (fun hg => opMove (.t rfl))) rfl rfl <| .g (OpG.gT rfl rfl rfl rfl (fun hg => opNeq (.when (.t rfl) hg) (.when (.t rfl) hg))) rfl rfl <| .p (opAnd (.t rfl) (.t rfl)) rfl <| .nil ?_)
                    refine EndT.thenN ?_
                    refine CodeT.cond (.t rfl) (fun c9 => ?_) (fun c9 => ?_)
                    ·
                      exact (c9.2 rfl).elim
                    ·
                      refine CodeT.skip (EndT.blkN (EndT.blkN (EndT.meet (writeG 16 C1 (memOf x, x.Page.1) x.At.1 x.B, if x.Mem.1.tmod 2 = 0 then writeG 16 C2 (memOf x, x.Page.1) x.At.1 x.B else C2, m1 + 1, m2 + 1) ⟨hCw, Nat.succ_le_succ hm1, Nat.succ_le_succ hm2⟩ rfl (.keep 48 rfl rfl))))
                  ·
                    have hCd : sameM (dropG 16 C1 (memOf x)) (if x.Mem.1.tmod 2 = 0 then dropG 16 C2 (memOf x) else C2) := by (by_cases ho : x.Mem.1.tmod 2 = 0; (rw [if_pos ho, show memOf x = 0 from if_pos ho]; exact hC.drop 16); (rw [if_neg ho, show memOf x = 1 from if_neg ho]; exact hC.dropO 16))
                    refine CodeT.seq ?_
                    refine CodeT.region (.p (opMove (.t rfl)) rfl <| .p (opMove (.t rfl)) rfl <| .n (opCallE (rest := []) (pdrop_spec (X := X1) (z := 16) (q := 200) (m := m1) (T := anyT) (C := C1) (R := partH X2 16 200 anyT (C2) (m2)) (mem := memOf x)  (part_ok hA)) Tryd.cb36 (.cons (.t rfl) (.cons (.t rfl) .nil)) (Perm.idx [0] rfl rfl)) rfl <| fun g95 h95 => .p (opAssign (.t rfl)) rfl <| .nil ?_)
                    refine EndT.thenN ?_
                    refine CodeT.seq ?_
                    refine CodeT.region (.p (opMove (.t rfl)) rfl <| .p (opMove (.t rfl)) rfl <| .g (OpG.gT rfl rfl rfl rfl (fun hg => opMove (.t rfl))) rfl rfl <| .g (OpG.gT rfl rfl rfl rfl (fun hg => opMove (.t rfl))) rfl rfl <| .egI ([duoH X1 X2 16 200 (dropG 16 C1 (memOf x)) (if x.Mem.1.tmod 2 = 0 then dropG 16 C2 (memOf x) else C2) (m1) (m2)]) rfl rfl rfl rfl (fun hg => (opCallE (rest := []) (FnE.own (pdrop_spec (X := X2) (z := 16) (q := 200) (m := m2) (T := anyT) (C := C2) (R := partH X1 16 200 anyT (dropG 16 C1 (memOf x)) (m1)) (mem := memOf x)  (part_ok hA.symm)) (part_swap hA.Y) (fun _ _ => part_swap hA.Y.symm)) Tryd.cb36 (.cons (.when (.t rfl) hg) (.cons (.when (.t rfl) hg) .nil)) (Perm.idx [0] rfl rfl)).conv (fun _ _ => OLe.headE (by rw [if_pos hg]; rfl)) (fun _ _ => VLe.refl _)) (fun hg => OLe.headE (by rw [if_neg hg]; rfl)) rfl rfl <| .g (OpG.gT rfl rfl rfl rfl (fun hg => opMove (.t rfl))) rfl rfl <| .g (OpG.gT rfl rfl rfl rfl (fun hg => opNeq (.when (.t rfl) hg) (.when (.t rfl) hg))) rfl rfl <| .p (opAnd (.t rfl) (.t rfl)) rfl <| .nil ?_)
                    refine EndT.thenN ?_
                    refine CodeT.cond (.t rfl) (fun c10 => ?_) (fun c10 => ?_)
                    ·
                      exact (c10.2 rfl).elim
                    ·
                      refine CodeT.skip (EndT.blkN (EndT.blkN (EndT.meet (dropG 16 C1 (memOf x), if x.Mem.1.tmod 2 = 0 then dropG 16 C2 (memOf x) else C2, m1, m2) ⟨hCd, Nat.le_succ_of_le hm1, Nat.le_succ_of_le hm2⟩ rfl (.keep 36 rfl rfl))))
          ·
            intro ⟨C3, C4, m3, m4⟩ ⟨hC3, hm3, hm4⟩
            simp only at hC3 hm3 hm4 ⊢
            refine CodeT.region (.p (opMove (.t rfl)) rfl <| .p (opAddF (.t rfl) (.c _) (fits_i64 (by omega) (by omega))) rfl <| .p (opAssign (.t rfl)) rfl <| .nil ?_)
            refine EndT.round (i + 1, C3, C4, m3, m4) ⟨hC3, hm3, hm4, (by show i + 1 ≤ acts.length; omega)⟩ (by (show acts.length - (i + 1) < acts.length - i; omega)) rfl ?_
            exact (.get rfl (VLe.int (by (show (i : Int) + 1 = ((i + 1 : Nat) : Int); omega))) ((.keep 8 rfl rfl)))
        ·
          refine CodeT.exit (EndT.thenX (EndT.thenX (EndT.blkX (EndT.thenN ?_))))
          refine CodeT.seq ?_
          refine CodeT.region (.p (opMove (.t rfl)) rfl <| .n ((opCallE (rest := []) (pfault_spec (X := X1) (z := 16) (q := 200) (m := m1) (T := anyT) (C := C1) (R := partH X2 16 200 anyT (C2) (m2))   (part_ok hA)) Tryd.cb34 (.cons (.t rfl) .nil) (Perm.idx [0] rfl rfl)).same (fun _ _ => OLe.refl _) (fun _ _ => VLe.refl _)) rfl <| fun _ _ => .p (opEql (.t rfl) (.c _)) rfl <| .p (opMove (.t rfl)) rfl <| .g (OpG.gT rfl rfl rfl rfl (fun hg => opMove (.t rfl))) rfl rfl <| .egT rfl rfl rfl rfl (fun hg => ((opCallE (rest := []) (FnE.own (pfault_spec (X := X2) (z := 16) (q := 200) (m := m2) (T := anyT) (C := C2) (R := partH X1 16 200 anyT (C1) (m1))   (part_ok hA.symm)) (part_swap hA.Y) (fun _ _ => part_swap hA.Y.symm)) Tryd.cb34 (.cons (.when (.t rfl) hg) .nil) (Perm.idx [0] rfl rfl)).same (fun _ _ => OLe.refl _) (fun _ _ => VLe.refl _)).same (fun _ _ => OLe.refl _) (fun _ _ => VLe.refl _)) rfl rfl <| .g (OpG.gT rfl rfl rfl rfl (fun hg => opEql (.when (.t rfl) hg) (.c _))) rfl rfl <| .p (opAnd (.t rfl) (.t rfl)) rfl <| .p (opAssign (.t rfl)) rfl <| .nil ?_)
          refine EndT.thenN ?_
          refine CodeT.ret (Post.retP rfl rfl ?_)
          exact VLe.prop (by simp)

end Go.Proofs.YtiicgelmdmhajaaDoor
