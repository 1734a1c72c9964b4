/-
  Walks, printed by a program (gen.py) out of what its author says of each function.
-/
import Derived.Test.YtiicgelmdmhajaaDoorP07T
import Derived.Test.YtiicgelmdmhajaaDoorP07C
namespace Go.Proofs.YtiicgelmdmhajaaDoor
open Go.Hl Go.RowKit
set_option linter.unusedVariables false
set_option maxRecDepth 100000

theorem pload_spec {X : PgI} {p : PgD} {a : ArD} {s : StD} {C : Cont} {D : List PairK} {i : Nat} {fr : Fr} {k : PairK} (hp0 : Inv X p a s C D) (hp1 : p.l[i]? = some fr) (hp2 : fr.used = false) (hp3 : lookD p.inm k = none) : FnE Tryd.prog 66 [addrV X.pb 0, i64V (i : Int), aggV [i64V k.1, i64V k.2]] (pagL X p a s) (γ := Int) (fun _ => True) (fun n => (pagL X { p with l := p.l.set i ⟨fr.at_, k, true, false, false⟩, inm := updD p.inm k (i : Int) } (a.put fr.at_ (C k)) { s with ops := n })) (fun _ => i64V 0) := by
  refine FnE.intro 72 Tryd.func66 rfl rfl rfl fun w0 S0 M => ?_
  have hil : i < X.n := by (rw [← hp0.ok.n]; exact (List.getElem?_eq_some_iff.1 hp1).1)
  have hst := hp0.ok.st
  have hsz := hst.size
  have hno := hp0.noFr hp3
  have hlc := hp0.lenC k
  have hpl := hp0.place hp1
  have hrm := hp0.ok.room fr (List.mem_of_getElem? hp1)
  have har := hp0.ok.ar
  refine CodeT.seq ?_
  refine CodeT.region (.p (opBoxA (.t rfl)) rfl <| .p (opAssign (.c _)) rfl <| .nil ?_)
  refine EndT.thenN ?_
  refine CodeT.seq ?_
  refine CodeT.region (.p (opMove (.t rfl)) rfl <| .n ((opCallE (rest := [_, _, _, _, _, _, _]) (psize_spec) Tryd.cb63 (.cons (.t rfl) .nil) (Perm.idx [0, 4, 1, 2, 3, 5, 6, 7, 8] rfl rfl)).same (fun _ _ => OLe.perm (Perm.idx [0, 2, 3, 4, 1, 5, 6, 7, 8] rfl rfl)) (fun _ _ => VLe.refl _)) rfl <| fun _ _ => .p (opMakeSh Tryd.underlying22 Tryd.cz5 Tryd.by5 Tryd.zb5 (.t rfl) rfl (by omega)) rfl <| .p (opAssign (.t rfl)) rfl <| .nil ?_)
  refine EndT.thenN ?_
  refine CodeT.cut (σ := Int) (fun n => (pagL X p a { s with ops := n })) (fun n => [(7, sliceV 1 encU8 (C k))]) (fun n => True) ?_ ?_
  ·
    refine CodeT.seq ?_
    refine CodeT.draw 10 1 Tryd.mixed (by kernel_rfl) (.p (opMove (.t rfl)) <| .p (opNilChkO (.t rfl)) <| .p (opFieldO Tryd.fd96_5 (.t rfl)) <| .p (opLoadO (i := 0) Tryd.ag93 (.t rfl) rfl rfl) <| .p (opLoadA Tryd.ag100 Tryd.cz100 rfl (.t rfl) rfl) <| .p (opLookOk (i := 3) Tryd.kt93 Tryd.underlying93 (fun w => run_zv Tryd.zv3 w) (.t rfl) (.le (.t rfl) agg_pair) rfl) <| .p (opMove (.t rfl)) <| .p (opExtract (.t rfl) rfl) <| .p (opExtract (.t rfl) rfl) <| .p (opAssign (.t rfl)) <| .nil) (.p (opAssign (.t rfl)) rfl <| .nil ?_)
    refine EndT.thenN ?_
    refine CodeT.seq ?_
    refine CodeT.region (.p (opMove (.t rfl)) rfl <| .nil ?_)
    refine EndT.thenN ?_
    refine CodeT.cond (.t rfl) (fun c0 => ?_) (fun c0 => ?_)
    ·
      obtain ⟨id, hid⟩ : ∃ id, lookD p.bm k = some id := Option.isSome_iff_exists.1 c0
      have hlk : lookD s.m id = some (C k) := by (rcases hno with h | ⟨id2, h, h2, _⟩; (rw [hid] at h; cases h.1); (rw [hid] at h; cases h; exact h2))
      obtain ⟨n0, hn0⟩ := readF_okv hp0.nf hlk
      refine CodeT.seq ?_
      refine CodeT.region (.p (opAssign (.c _)) rfl <| .nil ?_)
      refine EndT.thenN ?_
      refine CodeT.seq ?_
      refine CodeT.region (.p (opMove (.t rfl)) rfl <| .p (opNilChkO (.t rfl)) rfl <| .p (opFieldO Tryd.fd96_1 (.t rfl)) rfl <| .p (opLoadO (i := 0) Tryd.ag28 (.t rfl) rfl rfl) rfl <| .p (opMove (.t rfl)) rfl <| .n (opCallE (rest := [_, _, _, _, _, _, _, _]) (sread_spec (s := s) (id := id) hst) Tryd.cb89 (.cons (.t rfl) (.cons (.le (.t rfl) (VLe.of_eq (show optV _ _ _ = i64V id by rw [hid]; rfl))) .nil)) (Perm.idx [4, 0, 1, 2, 3, 5, 6, 7, 8] rfl rfl)) rfl <| fun g30 h30 => .p (opMove (.t rfl)) rfl <| .p (opExtract (.t rfl) rfl) rfl <| .p (opExtract (.t rfl) rfl) rfl <| .p (opAssign (.t rfl)) rfl <| .p (opAssign (.t rfl)) rfl <| .nil ?_)
      refine EndT.thenN ?_
      rw [hn0] at h30
      subst h30
      refine CodeT.seq ?_
      refine CodeT.region (.p (opMove (.t rfl)) rfl <| .p (opNeq (.t rfl) (.c _)) rfl <| .nil ?_)
      refine EndT.thenN ?_
      refine CodeT.cond (.t rfl) (fun c1 => ?_) (fun c1 => ?_)
      ·
        exact absurd rfl c1
      ·
        refine CodeT.skip (EndT.own (OLe.perm (Perm.idx [1, 2, 3, 4, 0, 5, 6, 7, 8] rfl rfl)) (EndT.meet n0 trivial rfl (.get rfl (VLe.refl _) (.keep 26 rfl rfl))))
    ·
      have hnb := noneD c0
      have hzr : List.replicate s.size 0 = C k := by (rcases hno with h | ⟨id2, h, _⟩; (rw [zeros_rep h.2, hlc]); (rw [hnb] at h; cases h))
      refine CodeT.skip (EndT.meet s.ops trivial rfl (.get rfl (VLe.of_eq (by rw [hzr])) (.keep 12 rfl rfl)))
  ·
    intro n _
    refine CodeT.seq ?_
    refine CodeT.draw 13 1 Tryd.mixed (by kernel_rfl) (.p (opMove (.t rfl)) <| .p (opNilChkO (.t rfl)) <| .p (opFieldO Tryd.fd96_0 (.t rfl)) <| .p (opLoadO (i := 0) Tryd.ag24 (.t rfl) rfl rfl) <| .p (opMove (.t rfl)) <| .p (opNilChkO (.t rfl)) <| .p (opFieldO Tryd.fd96_2 (.t rfl)) <| .p (opLoadO (i := 0) Tryd.ag94 (.t rfl) rfl rfl) <| .p (opMove (.t rfl)) <| .p (opIndexAddrW i Tryd.underlying94 Tryd.cz102 rfl (.t rfl) (.t rfl) rfl hil) <| .p (opFieldO Tryd.fd102_0 (.t rfl)) <| .p (opLoadW (i := 1) (r := 0) Tryd.ag3 (.t rfl) rfl hp1 rfl) <| .p (opMove (.t rfl)) <| .nil) (.n (opCallE (rest := [_, _, _, _, _]) (acopy_spec (at_ := fr.at_) (ys := C k) har (by omega)) Tryd.cb46 (.cons (.t rfl) (.cons (.t rfl) (.cons (.t rfl) .nil))) (Perm.idx [5, 6, 7, 8, 0, 1, 2, 3, 4] rfl rfl)) rfl <| fun g49 h49 => .nil ?_)
    refine EndT.thenN ?_
    refine CodeT.seq ?_
    refine CodeT.draw 15 2 Tryd.mixed (by kernel_rfl) (.p (opMove (.t rfl)) <| .p (opNilChkO (.t rfl)) <| .p (opFieldO Tryd.fd96_2 (.t rfl)) <| .p (opLoadO (i := 4) Tryd.ag94 (.t rfl) rfl rfl) <| .p (opMove (.t rfl)) <| .p (opMove (.t rfl)) <| .p (opNilChkO (.t rfl)) <| .p (opFieldO Tryd.fd96_2 (.t rfl)) <| .p (opLoadO (i := 4) Tryd.ag94 (.t rfl) rfl rfl) <| .p (opMove (.t rfl)) <| .p (opIndexAddrW i Tryd.underlying94 Tryd.cz102 rfl (.t rfl) (.t rfl) rfl hil) <| .p (opFieldO Tryd.fd102_0 (.t rfl)) <| .p (opLoadW (i := 5) (r := 0) Tryd.ag3 (.t rfl) rfl hp1 rfl) <| .p (opLoadA Tryd.ag100 Tryd.cz100 rfl (.t rfl) rfl) <| .p ((opBuild Tryd.pl102 Tryd.zb102 (.cons (.t rfl) (.cons (.t rfl) (.cons .ct .nil))) rfl).le (VLe.agg (.cons (.refl _) (.cons (.refl _) (.cons (.refl _) (.cons (.refl _) (.cons falseV (.cons falseV .nil)))))))) <| .nil) (.p (opIndexAddrW i Tryd.underlying94 Tryd.cz102 rfl (.t rfl) (.t rfl) rfl hil) rfl <| .s (opStoreWA (i := 5) (r := 0) ⟨fr.at_, k, true, false, false⟩ rfl Tryd.cz102 rfl (.t rfl) (.t rfl) rfl rfl hp1 rfl rfl) <| .nil ?_)
    refine EndT.thenN ?_
    refine CodeT.seq ?_
    refine CodeT.draw 6 1 Tryd.mixed (by kernel_rfl) (.p (opMove (.t rfl)) <| .p (opNilChkO (.t rfl)) <| .p (opFieldO Tryd.fd96_4 (.t rfl)) <| .p (opLoadO (i := 4) Tryd.ag93 (.t rfl) rfl rfl) <| .p (opLoadA Tryd.ag100 Tryd.cz100 rfl (.t rfl) rfl) <| .p (opMove (.t rfl)) <| .nil) (.s (opUpd (i := 6) (i : Int) Tryd.kt93 Tryd.underlying93 (.t rfl) (.le (.t rfl) agg_pair) (.t rfl) rfl) <| .nil ?_)
    refine EndT.thenN ?_
    refine CodeT.seq ?_
    refine CodeT.region (.p (opAssign (.c _)) rfl <| .nil ?_)
    refine EndT.thenN ?_
    refine CodeT.ret (Post.retR1 rfl (n) (by trivial) (OLe.sel [4, 5, 6, 7, 8, 0, 1, 2, 3] [] rfl rfl) (.rt rfl) ?_)
    first | exact VLe.refl _ | exact VLe.int (by omega) | exact VLe.prop (by omega) | exact VLe.prop (by simp_all) | exact VLe.prop (by simp; omega)

theorem pwant_spec {X : PgI} {p : PgD} {a : ArD} {s : StD} {C : Cont} {D : List PairK} {k : PairK} (hp0 : Inv X p a s C D) : FnE Tryd.prog 44 [addrV X.pb 0, aggV [i64V k.1, i64V k.2]] (pagL X p a s) (γ := PgD × ArD × StD × Nat) (fun g => WantR X p a s C D k g) (fun g => (pagL X g.1 g.2.1 g.2.2.1)) (fun g => tupV [i64V (g.2.2.2 : Int), i64V 0]) := by
  refine FnE.intro 71 Tryd.func44 rfl rfl rfl fun w0 S0 M => ?_
  refine CodeT.seq ?_
  refine CodeT.region (.p (opBoxA (.t rfl)) rfl <| .p (opAssign (.c _)) rfl <| .p (opAssign (.c _)) rfl <| .nil ?_)
  refine EndT.thenN ?_
  refine CodeT.seq ?_
  refine CodeT.draw 10 1 Tryd.mixed (by kernel_rfl) (.p (opMove (.t rfl)) <| .p (opNilChkO (.t rfl)) <| .p (opFieldO Tryd.fd96_4 (.t rfl)) <| .p (opLoadO (i := 0) Tryd.ag93 (.t rfl) rfl rfl) <| .p (opLoadA Tryd.ag100 Tryd.cz100 rfl (.t rfl) rfl) <| .p (opLookOk (i := 2) Tryd.kt93 Tryd.underlying93 (fun w => run_zv Tryd.zv3 w) (.t rfl) (.le (.t rfl) agg_pair) rfl) <| .p (opMove (.t rfl)) <| .p (opExtract (.t rfl) rfl) <| .p (opExtract (.t rfl) rfl) <| .p (opAssign (.t rfl)) <| .nil) (.p (opAssign (.t rfl)) rfl <| .nil ?_)
  refine EndT.thenN ?_
  refine CodeT.cut (σ := PgD × ArD × StD × Nat) (fun g => (pagL X g.1 g.2.1 g.2.2.1)) (fun g => [(6, i64V (g.2.2.2 : Int))]) (fun g => WantR X p a s C D k g) ?_ ?_
  ·
    refine CodeT.seq ?_
    refine CodeT.region (.p (opMove (.t rfl)) rfl <| .p (opNot (.t rfl)) rfl <| .nil ?_)
    refine EndT.thenN ?_
    refine CodeT.cond (.t rfl) (fun c0 => ?_) (fun c0 => ?_)
    ·
      have hkn := noneD c0
      refine CodeT.seq ?_
      refine CodeT.region (.p (opMove (.t rfl)) rfl <| .n (opCallE (rest := [_, _, _, _, _, _, _]) (pvictim_spec (p := p) (a := a) (s := s) hp0.ok) Tryd.cb65 (.cons (.t rfl) .nil) (Perm.idx [0, 1, 2, 3, 4, 5, 6, 7, 8] rfl rfl)) rfl <| fun g22 h22 => .p (opAssign (.t rfl)) rfl <| .nil ?_)
      refine EndT.thenN ?_
      obtain ⟨⟨l1, hd1, inm1, bm1, f1, cl1⟩, i1⟩ := g22
      obtain ⟨hv, hi1⟩ := h22
      have hrs := hv.rest
      simp only [PgD.mk.injEq, true_and] at hrs
      obtain ⟨rfl, rfl, rfl, rfl⟩ := hrs
      have hI1 := hp0.vic hv
      have hl1 := hI1.ok.n
      obtain ⟨fr, hfr⟩ := getElem?_lt' (xs := l1) (k := i1) (by (simp only at hi1 hl1; omega))
      refine CodeT.seq ?_
      refine CodeT.seq ?_
      refine CodeT.region (.p (opMove (.t rfl)) rfl <| .p (opMove (.t rfl)) rfl <| .n (opCallE (rest := [_]) (psave_spec (p := ⟨l1, hd1, p.inm, p.bm, p.fault, p.closed⟩) (a := a) (s := s) hI1.ok hfr) Tryd.cb48 (.cons (.t rfl) (.cons (.t rfl) .nil)) (Perm.idx [0, 1, 3, 4, 5, 6, 7, 8, 2] rfl rfl)) rfl <| fun g25 h25 => .p (opAssign (.t rfl)) rfl <| .nil ?_)
      refine EndT.thenN ?_
      have hsv := hI1.save hfr h25
      obtain ⟨⟨l2, hd2, inm2, bm2, f2, cl2⟩, s2, e2⟩ := g25
      obtain ⟨he2, hI2, hsf, hz2, hc2⟩ := hsv
      simp only at he2 hI2 hz2 hc2
      subst he2
      obtain ⟨⟨fr2, hl2, ha2, hk2, hu2, hd2c⟩, hin2⟩ := hsf
      simp only at hl2 hin2
      subst hin2
      have hfr2 : l2[i1]? = some fr2 := by rw [hl2]; exact set_here hfr
      have hil2 : i1 < X.n := hi1
      refine CodeT.seq ?_
      refine CodeT.region (.p (opMove (.t rfl)) rfl <| .p (opNeq (.t rfl) (.c _)) rfl <| .nil ?_)
      refine EndT.thenN ?_
      refine CodeT.cond (.t rfl) (fun c1 => ?_) (fun c1 => ?_)
      ·
        exact absurd rfl c1
      ·
        refine CodeT.skip (EndT.thenN ?_)
        refine CodeT.cut (σ := PgD) (fun p3 => (pagL X p3 a s2)) (fun p3 => []) (fun p3 => Inv X p3 a s2 C D ∧ (∃ f : Fr, p3.l[i1]? = some f ∧ f.used = false) ∧ lookD p3.inm k = none) ?_ ?_
        ·
          refine CodeT.seq ?_
          refine CodeT.region (.p (opMove (.t rfl)) rfl <| .p (opNilChkO (.t rfl)) rfl <| .p (opFieldO Tryd.fd96_2 (.t rfl)) rfl <| .p (opLoadO (i := 0) Tryd.ag94 (.t rfl) rfl rfl) rfl <| .p (opMove (.t rfl)) rfl <| .p (opIndexAddrW i1 Tryd.underlying94 Tryd.cz102 rfl (.t rfl) (.t rfl) rfl hil2) rfl <| .p (opFieldO Tryd.fd102_2 (.t rfl)) rfl <| .p (opLoadW (i := 1) (r := 3) Tryd.ag4 (.t rfl) rfl hfr2 rfl) rfl <| .nil ?_)
          refine EndT.thenN ?_
          refine CodeT.cond (.t rfl) (fun c2 => ?_) (fun c2 => ?_)
          ·
            have hu2t : fr2.used = true := (BP_iff _).1 c2
            have hset2 := set_here (x := { fr2 with used := false }) hfr2
            refine CodeT.seq ?_
            refine CodeT.draw 12 1 Tryd.mixed (by kernel_rfl) (.p (opMove (.t rfl)) <| .p (opNilChkO (.t rfl)) <| .p (opFieldO Tryd.fd96_4 (.t rfl)) <| .p (opLoadO (i := 0) Tryd.ag93 (.t rfl) rfl rfl) <| .p (opMove (.t rfl)) <| .p (opNilChkO (.t rfl)) <| .p (opFieldO Tryd.fd96_2 (.t rfl)) <| .p (opLoadO (i := 0) Tryd.ag94 (.t rfl) rfl rfl) <| .p (opMove (.t rfl)) <| .p (opIndexAddrW i1 Tryd.underlying94 Tryd.cz102 rfl (.t rfl) (.t rfl) rfl hil2) <| .p (opFieldO Tryd.fd102_1 (.t rfl)) <| .p (opLoadWA (i := 1) (r := 1) Tryd.ag100 Tryd.cz100 rfl (.t rfl) rfl hfr2 rfl) <| .nil) (.s (opDel (i := 8) rfl Tryd.kt93 Tryd.underlying93 (.t rfl) (.le (.t rfl) agg_pair) rfl) <| .nil ?_)
            refine EndT.thenN ?_
            refine CodeT.region (.p (opMove (.t rfl)) rfl <| .p (opNilChkO (.t rfl)) rfl <| .p (opFieldO Tryd.fd96_2 (.t rfl)) rfl <| .p (opLoadO (i := 0) Tryd.ag94 (.t rfl) rfl rfl) rfl <| .p (opMove (.t rfl)) rfl <| .p (opIndexAddrW i1 Tryd.underlying94 Tryd.cz102 rfl (.t rfl) (.t rfl) rfl hil2) rfl <| .p (opFieldO Tryd.fd102_2 (.t rfl)) rfl <| .s (opStoreW (i := 1) (r := 3) { fr2 with used := false } rfl Tryd.cz4 (.t rfl) .cf rfl hfr2 rfl rfl) <| .nil ?_)
            refine EndT.own (OLe.perm (Perm.idx [0, 1, 8, 2, 3, 4, 5, 6, 7] rfl rfl)) (EndT.meet ⟨l2.set i1 { fr2 with used := false }, hd2, delD p.inm fr2.k, bm2, f2, cl2⟩ ⟨hI2.evict hfr2 hu2t (hd2c hu2t), ⟨_, set_here hfr2, rfl⟩, by (show lookD (delD p.inm fr2.k) k = none; rw [lookD_del _ _ hp0.inK]; split; rfl; exact hkn)⟩ rfl (.keep 27 rfl rfl))
          ·
            have hu2f : fr2.used = false := by (cases hq : fr2.used with | false => rfl | true => exact absurd ((BP_iff _).2 hq) c2)
            refine CodeT.skip (EndT.own (OLe.perm (Perm.idx [0, 1, 8, 2, 3, 4, 5, 6, 7] rfl rfl)) (EndT.meet ⟨l2, hd2, p.inm, bm2, f2, cl2⟩ ⟨hI2, ⟨fr2, hfr2, hu2f⟩, hkn⟩ rfl (.keep 8 rfl rfl)))
        ·
          intro p3 ⟨hI3, ⟨fr3, hfr3, hu3⟩, hk3⟩
          refine CodeT.seq ?_
          refine CodeT.region (.p (opMove (.t rfl)) rfl <| .p (opMove (.t rfl)) rfl <| .p (opLoadA Tryd.ag100 Tryd.cz100 rfl (.t rfl) rfl) rfl <| .n (opCallE (rest := []) (pload_spec (p := p3) (a := a) (s := s2) (C := C) (D := D) (fr := fr3) (k := k) hI3 hfr3 hu3 hk3) Tryd.cb66 (.cons (.t rfl) (.cons (.t rfl) (.cons (.t rfl) .nil))) (Perm.idx [0, 1, 2, 3, 4, 5, 6, 7, 8] rfl rfl)) rfl <| fun g59 h59 => .p (opAssign (.t rfl)) rfl <| .nil ?_)
          refine EndT.thenN ?_
          refine CodeT.seq ?_
          refine CodeT.region (.p (opMove (.t rfl)) rfl <| .p (opNeq (.t rfl) (.c _)) rfl <| .nil ?_)
          refine EndT.thenN ?_
          refine CodeT.cond (.t rfl) (fun c3 => ?_) (fun c3 => ?_)
          ·
            exact absurd rfl c3
          ·
            refine CodeT.skip (EndT.meet (⟨p3.l.set i1 ⟨fr3.at_, k, true, false, false⟩, p3.hand, updD p3.inm k (i1 : Int), p3.bm, p3.fault, p3.closed⟩, a.put fr3.at_ (C k), { s2 with ops := g59 }, i1) ⟨(hI3.load hfr3 hu3 hk3).ops g59, hz2, hc2, hI3.outLoad hfr3 k, _, set_here hfr3, rfl, rfl, fun _ => rfl⟩ rfl (.get rfl (VLe.refl _) (.keep 18 rfl rfl)))
    ·
      obtain ⟨j0, hj0⟩ : ∃ j, lookD p.inm k = some j := Option.isSome_iff_exists.1 (Classical.not_not.1 c0)
      obtain ⟨j, fj, rfl, hfj, huj, hkj⟩ := hp0.in1 k j0 hj0
      refine CodeT.skip (EndT.meet (p, a, s, j) ⟨hp0, rfl, rfl, SameOut.refl _ _, fj, hfj, huj, hkj, fun e => by (rw [hj0] at e; cases e)⟩ rfl (.get rfl (VLe.of_eq (show optV _ _ _ = i64V (j : Int) by rw [hj0]; rfl)) (.keep 2 rfl rfl)))
  ·
    intro ⟨p5, a5, s5, i5⟩ hW
    obtain ⟨f5, hf5, hu5, hk5, hd5⟩ := hW.fr
    have hI5 := hW.inv
    have hi5 : i5 < X.n := by (rw [← hI5.ok.n]; exact (List.getElem?_eq_some_iff.1 hf5).1)
    refine CodeT.seq ?_
    refine CodeT.region (.p (opMove (.t rfl)) rfl <| .p (opNilChkO (.t rfl)) rfl <| .p (opFieldO Tryd.fd96_2 (.t rfl)) rfl <| .p (opLoadO (i := 0) Tryd.ag94 (.t rfl) rfl rfl) rfl <| .p (opMove (.t rfl)) rfl <| .p (opIndexAddrW i5 Tryd.underlying94 Tryd.cz102 rfl (.t rfl) (.t rfl) rfl hi5) rfl <| .p (opFieldO Tryd.fd102_3 (.t rfl)) rfl <| .s (opStoreW (i := 1) (r := 4) { f5 with seen := true } rfl Tryd.cz4 (.t rfl) .ct rfl hf5 rfl rfl) <| .nil ?_)
    refine EndT.thenN ?_
    refine CodeT.seq ?_
    refine CodeT.region (.p (opMove (.t rfl)) rfl <| .p (opAssign (.t rfl)) rfl <| .p (opAssign (.c _)) rfl <| .nil ?_)
    refine EndT.thenN ?_
    refine CodeT.ret (Post.retR rfl rfl ((⟨p5.l.set i5 { f5 with seen := true }, p5.hand, p5.inm, p5.bm, p5.fault, p5.closed⟩, a5, s5, i5)) (by exact ⟨hI5.seen hf5, hW.size, hW.cap, hW.out, _, set_here hf5, hu5, hk5, hd5⟩) (fun _ _ _ h => h) rfl (.cons (.rt rfl) ?_ (.cons (.rt rfl) ?_ .nil)))
    · first | exact VLe.refl _ | exact VLe.int (by omega) | exact VLe.prop (by omega) | exact VLe.prop (by simp_all) | exact VLe.prop (by simp; omega)
    · first | exact VLe.refl _ | exact VLe.int (by omega) | exact VLe.prop (by omega) | exact VLe.prop (by simp_all) | exact VLe.prop (by simp; omega)

end Go.Proofs.YtiicgelmdmhajaaDoor
