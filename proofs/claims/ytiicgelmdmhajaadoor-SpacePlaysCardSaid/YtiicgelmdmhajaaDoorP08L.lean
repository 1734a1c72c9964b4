/-
  Walks, printed by a program (gen.py) out of what its author says of each function.
-/
import Derived.Test.YtiicgelmdmhajaaDoorP08M
import Derived.Test.YtiicgelmdmhajaaDoorP08N
import Derived.Test.YtiicgelmdmhajaaDoorP08G
namespace Go.Proofs.YtiicgelmdmhajaaDoor
open Go.Hl Go.RowKit
set_option linter.unusedVariables false
set_option maxRecDepth 100000

set_option maxHeartbeats 4000000 in
theorem spacePlays_spec {fr : UInt8} {pg : UInt8 × UInt8} {acts : List ActS} : FnP Tryd.prog 8 [intV .u8 (fr.toNat : Int), aggV [intV .u8 (pg.1.toNat : Int), intV .u8 (pg.2.toNat : Int)], sliceV 7 encActS acts] (propV True) := by
  refine FnE.intro 416 Tryd.func8 rfl rfl rfl fun w0 S0 M => ?_
  refine CodeT.seq ?_
  refine CodeT.region (.p (opBoxA (.t rfl)) rfl <| .p (opAssign .cf) rfl <| .nil ?_)
  refine EndT.thenN ?_
  refine CodeT.seq ?_
  refine CodeT.seq ?_
  refine CodeT.region (.p (opMove (.t rfl)) rfl <| .p (opLen rfl Tryd.underlying59 (.t rfl)) rfl <| .p (opGtr (.t rfl) (.c _)) rfl <| .p (opMove (.t rfl)) rfl <| .g (OpG.gF rfl rfl rfl rfl (fun hg => opCall (awake08_spec) Tryd.cb18 .nil)) rfl rfl <| .g (OpG.gF rfl rfl rfl rfl (fun hg => opNot (.when (.t rfl) hg))) rfl rfl <| .p (opOr (.t rfl) (.t rfl)) rfl <| .nil ?_)
  refine EndT.thenN ?_
  refine CodeT.cond (.t rfl) (fun c0 => ?_) (fun c0 => ?_)
  ·
    refine CodeT.seq ?_
    refine CodeT.region (.p (opCall (awake08_spec) Tryd.cb18 .nil) rfl <| .p (opAssign (.t rfl)) rfl <| .nil ?_)
    refine EndT.thenN ?_
    refine CodeT.ret (EndT.thenR (Post.retP rfl rfl ?_))
    exact VLe.prop (by simp)
  ·
    have hl30 : acts.length ≤ 30 := by omega
    refine CodeT.skip (EndT.thenN ?_)
    refine CodeT.seq ?_
    refine CodeT.region (.p (opMove (.t rfl)) rfl <| .p (opRem (.t rfl) (.c _) (by omega) (by omega)) rfl <| .p (opConvF Tryd.underlying5 Tryd.underlying3 (.t rfl) (fits_i64 (by omega) (by omega))) rfl <| .n (opCallE (rest := []) (pager08_spec (fr := (fr.toNat : Int) % 8)) Tryd.cb20 (.cons (.t rfl) .nil) (Perm.idx [] rfl rfl)) rfl <| fun g48 h48 => .p (opAssign (.t rfl)) rfl <| .nil ?_)
    refine EndT.thenN ?_
    refine CodeT.seq ?_
    refine CodeT.region (.n (opAlloc Tryd.zb60) rfl <| fun b8 _ => .nil ?_)
    refine EndT.thenN ?_
    refine CodeT.seq ?_
    refine CodeT.region (.n (opAlloc Tryd.zb64) rfl <| fun b9 _ => .nil ?_)
    refine EndT.thenN ?_
    refine CodeT.seq ?_
    refine CodeT.seq ?_
    refine CodeT.region (.p (opAssign (.c _)) rfl <| .nil ?_)
    refine EndT.thenN ?_
    refine CodeT.block ?_
    refine CodeT.own (OLe.trans (OLe.cells (cs' := ([⟨0, 0, []⟩, ⟨0, 0, []⟩] : List RM).flatMap encRM) (.cons (.refl _) (.cons (.refl _) (.cons (sliceV_nil _ _) (.cons (.refl _) (.cons (.refl _) (.cons (sliceV_nil _ _) .nil))))))) (arr_slice (n := 3) (N := 2) (enc := encRM) (xs := [⟨0, 0, []⟩, ⟨0, 0, []⟩]) rfl rfl rfl (by decide))) ?_
    refine CodeT.own (OLe.perm (Perm.idx [1, 0, 2] rfl rfl)) ?_
    refine CodeT.own (arr_slice (n := 1) (N := 2) (enc := encPt) (xs := [none, none]) rfl rfl rfl (by decide)) ?_
    refine CodeT.own (mems_nil (pb := g48.pb)) ?_
    refine CodeT.loopO (σ := Nat × List MemP) (fun g => [memsH g48.pb g.2, sliceH (some (b8, 2)) 1 encPt (L1 g.2), sliceH (some (b9, 2)) 3 encRM (M1 pg g.1), pagH g48 64 4096 (fun _ => True) (zeroC 64) 0 noR]) (fun g => [(10, i64V (g.1 : Int))]) (fun g => BegI pg g.1 g.2) (fun g => 2 - g.1) (0, []) (BegI.begin pg) rfl ?_ ?_
    · exact (.get rfl (VLe.refl _) (.refl _ _))
    · rintro ⟨i, ms⟩ hB
      simp only at hB ⊢
      refine CodeT.seq ?_
      refine CodeT.seq ?_
      refine CodeT.region (.p (opMove (.t rfl)) rfl <| .p (opLss (.t rfl) (.c _)) rfl <| .nil ?_)
      refine EndT.thenN ?_
      refine CodeT.cond (.t rfl) (fun c1 => ?_) (fun c1 => ?_)
      ·
        have hlt : i < 2 := by omega
        obtain ⟨hli, hmi⟩ := hB.free hlt
        have hpg4 := pgN_lt pg i
        have hpk : 0 ≤ pick i (pg.1.toNat : Int) (pg.2.toNat : Int) := by (unfold pick; split <;> omega)
        refine CodeT.skip (EndT.thenN ?_)
        refine CodeT.seq ?_
        refine CodeT.block ?_
        refine CodeT.seq ?_
        refine CodeT.region (.p (opMove (.t rfl)) rfl <| .p (opIndexAddrA i Tryd.underlying58 Tryd.cz5 rfl (.t rfl) (.t rfl) rfl (by omega)) rfl <| .p (opLoad Tryd.ag5 (.le (.t rfl) (ptr_pick hlt))) rfl <| .p (opRem (.t rfl) (.c _) (by omega) (by omega)) rfl <| .p ((opConvF Tryd.underlying5 Tryd.underlying3 (.t rfl) (fits_i64 (by omega) (by omega))).le (VLe.int (show _ = ((pgN pg i : Nat) : Int) from pgN_eq pg i))) rfl <| .p (opAssign (.t rfl)) rfl <| .nil ?_)
        refine EndT.thenN ?_
        refine CodeT.seq ?_
        refine CodeT.region (.p (opMove (.t rfl)) rfl <| .p (opMove (.t rfl)) rfl <| .p (opMove (.t rfl)) rfl <| .p (opMove (.t rfl)) rfl <| .p (opEql (.t rfl) (.c _)) rfl <| .n (opCallE (rest := [_, _, _, _]) (mnew_spec (pb := g48.pb) (num := (i : Int)) (pages := pgN pg i) (most := 5) (wide := (i : Int) = 1) (by omega) (by omega) (by decide)) Tryd.cb19 (.cons (.t rfl) (.cons (.t rfl) (.cons (.t rfl) (.cons (.c _) (.cons (.t rfl) .nil))))) (Perm.idx [0, 1, 2, 3] rfl rfl)) rfl <| fun g64 h64 => .p (opMove (.t rfl)) rfl <| .p (opExtract (.t rfl) rfl) rfl <| .p (opExtract (.t rfl) rfl) rfl <| .p (opAssign (.t rfl)) rfl <| .p (opAssign (.t rfl)) rfl <| .nil ?_)
        refine EndT.thenN ?_
        refine CodeT.seq ?_
        refine CodeT.seq ?_
        refine CodeT.region (.p (opMove (.t rfl)) rfl <| .p (opNeq (.t rfl) (.c _)) rfl <| .p (opMove (.t rfl)) rfl <| .g (OpG.gF rfl rfl rfl rfl (fun hg => opMove (.t rfl))) rfl rfl <| .egF rfl rfl rfl rfl (fun hg => ((opCallE (rest := [_, _, _, _]) (mwide_spec (mb := g64) (pb := g48.pb) (mm := ⟨(i : Int), pgN pg i, 5, 5, (i : Int) = 1⟩)) Tryd.cb27 (.cons (.when (.t rfl) hg) .nil) (Perm.idx [0, 1, 2, 3, 4] rfl rfl)).same (fun _ _ => OLe.refl _) (fun _ _ => VLe.refl _)).same (fun _ _ => OLe.refl _) (fun _ _ => VLe.refl _)) rfl rfl <| .g (OpG.gF rfl rfl rfl rfl (fun hg => opMove (.t rfl))) rfl rfl <| .g (OpG.gF rfl rfl rfl rfl (fun hg => opEql (.when (.t rfl) hg) (.c _))) rfl rfl <| .g (OpG.gF rfl rfl rfl rfl (fun hg => opNeqB Tryd.underlying4 (.when (.t rfl) hg) (.when (.t rfl) hg))) rfl rfl <| .p (opOr (.t rfl) (.t rfl)) rfl <| .nil ?_)
        refine EndT.thenN ?_
        refine CodeT.cond (.t rfl) (fun c2 => ?_) (fun c2 => ?_)
        ·
          exfalso; simp at c2
        ·
          refine CodeT.skip (EndT.thenN ?_)
          refine CodeT.seq ?_
          refine CodeT.region (.p (opMove (.t rfl)) rfl <| .p (opMove (.t rfl)) rfl <| .p (opIndexAddrAW (i) Tryd.underlying60 Tryd.cz39 rfl (.t rfl) (.t rfl) rfl (by omega)) rfl <| .s (opStoreW (i := 2) (r := 0) (some g64) rfl Tryd.cz39 (.t rfl) (.t rfl) rfl hli rfl rfl) <| .nil ?_)
          refine EndT.thenN ?_
          refine CodeT.region (.p (opMove (.t rfl)) rfl <| .p (opMove (.t rfl)) rfl <| .p ((opBuild Tryd.pl63 Tryd.zb63 (.cons (.t rfl) (.cons (.c _) .nil)) rfl).le ((show VLe _ (aggV (encRM ⟨pgN pg i, 5, []⟩)) from VLe.agg (.cons (.refl _) (.cons (.refl _) (.cons (sliceV_nil _ _) .nil)))))) rfl <| .p (opIndexAddrAW i Tryd.underlying64 Tryd.cz63 rfl (.t rfl) (.t rfl) rfl (by omega)) rfl <| .s (opStoreWA (i := 3) (r := 0) (⟨pgN pg i, 5, []⟩ : RM) rfl Tryd.cz63 rfl (.t rfl) (.t rfl) rfl rfl hmi rfl rfl) <| .nil ?_)
          refine EndT.blkN (EndT.thenN ?_)
          refine CodeT.own mems_add ?_
          refine CodeT.region (.p (opMove (.t rfl)) rfl <| .p (opAddF (.t rfl) (.c _) (fits_i64 (by omega) (by omega))) rfl <| .p (opAssign (.t rfl)) rfl <| .nil ?_)
          refine EndT.round (i + 1, ms ++ [(g64, memI pg i)]) (hB.step hlt g64) (by (show 2 - (i + 1) < 2 - i; omega)) (by simp only [L1_add hB.len hlt g64 (memI pg i), M1_add hlt]; rfl) ?_
          exact (.get rfl (VLe.int (by (show (i : Int) + 1 = ((i + 1 : Nat) : Int); omega))) ((.keep 39 rfl rfl)))
      ·
        have hi2 : i = 2 := by (have h9 := hB.le; omega)
        subst hi2
        obtain ⟨b0, b1, rfl⟩ := hB.two
        refine CodeT.exit (EndT.thenX (EndT.thenX (EndT.blkX (EndT.thenN ?_))))
        refine CodeT.seq ?_
        refine CodeT.seq ?_
        refine CodeT.region (.p (opAssign (.c _)) rfl <| .nil ?_)
        refine EndT.thenN ?_
        refine CodeT.block ?_
        refine CodeT.loopO (σ := Nat × SpD × SpD × RM × RM × Cont × Nat) (fun g => [memsH g48.pb [(b0, g.2.1), (b1, g.2.2.1)], sliceH (some (b8, 2)) 1 encPt [some b0, some b1], sliceH (some (b9, 2)) 3 encRM [g.2.2.2.1, g.2.2.2.2.1], pagH g48 64 4096 (fun _ => True) g.2.2.2.2.2.1 g.2.2.2.2.2.2 noR]) (fun g => [(14, i64V (g.1 : Int))]) (fun g => PlayI acts.length g.1 g.2.1 g.2.2.1 g.2.2.2.1 g.2.2.2.2.1 g.2.2.2.2.2.1 g.2.2.2.2.2.2) (fun g => acts.length - g.1) (0, memI pg 0, memI pg 1, ⟨pgN pg 0, 5, []⟩, ⟨pgN pg 1, 5, []⟩, zeroC 64, 0) (PlayI.begin _ _) rfl ?_ ?_
        · exact (.get rfl (VLe.refl _) (.refl _ _))
        · rintro ⟨i, M0, M1, r0, r1, C, m⟩ hI
          simp only at hI ⊢
          have hile := hI.le
          refine CodeT.seq ?_
          refine CodeT.seq ?_
          refine CodeT.region (.p (opMove (.t rfl)) rfl <| .p (opMove (.t rfl)) rfl <| .p (opLen rfl Tryd.underlying59 (.t rfl)) rfl <| .p (opLss (.t rfl) (.t rfl)) rfl <| .nil ?_)
          refine EndT.thenN ?_
          refine CodeT.cond (.t rfl) (fun c3 => ?_) (fun c3 => ?_)
          ·
            obtain ⟨x, hx⟩ := getElem?_lt (xs := acts) (k := i) (by omega)
            have ha64 : x.At.1 < 18446744073709551616 := x.At.2
            have ho64 : x.Off.1 < 18446744073709551616 := x.Off.2
            have hmi := hI.few
            refine CodeT.skip (EndT.thenN ?_)
            refine CodeT.seq ?_
            refine CodeT.block ?_
            refine CodeT.seq ?_
            refine CodeT.region (.p (opMove (.t rfl)) rfl <| .p (opMove (.t rfl)) rfl <| .p (opIndexAddr (j := i) Tryd.underlying59 Tryd.cz66 rfl (.t rfl) (.t rfl) rfl (by assumption)) rfl <| .p (OpP.le (opLoadA Tryd.ag66 Tryd.cz66 rfl (.t rfl) rfl) (VLe.refl (aggV [intV .u8 (x.Kind.toNat : Int), propV x.Q, propV x.Self, intV .u64 (x.At.1 : Int), intV .u64 (x.Off.1 : Int), intV .i64 x.N.1, sliceV 1 encU8 x.B]))) rfl <| .n (opAlloc Tryd.zb66) rfl <| fun b15 _ => .s (opStoreOA (i := 0) Tryd.cz66 rfl (.t rfl) (.t rfl) rfl rfl rfl) <| .nil ?_)
            refine EndT.thenN ?_
            refine CodeT.share (t := 15) (i := 0) rfl rfl ?_
            refine CodeT.seq ?_
            refine CodeT.seq ?_
            refine CodeT.region (.p (opField Tryd.fd66_6 (.t rfl)) rfl <| .p (opLoad Tryd.ag22 (.t rfl)) rfl <| .p (opLen rfl Tryd.underlying22 (.t rfl)) rfl <| .p (opGtr (.t rfl) (.c _)) rfl <| .nil ?_)
            refine EndT.thenN ?_
            refine CodeT.cond (.t rfl) (fun c4 => ?_) (fun c4 => ?_)
            ·
              refine CodeT.seq ?_
              refine CodeT.region (.p (opAssign .ct) rfl <| .nil ?_)
              refine EndT.thenN ?_
              refine CodeT.ret (EndT.thenR (EndT.blkR (EndT.thenR (EndT.thenR (EndT.blkR (EndT.thenR (Post.retP rfl rfl ?_)))))))
              exact VLe.prop (by simp)
            ·
              have hb300 : x.B.length ≤ 300 := by omega
              refine CodeT.skip (EndT.thenN ?_)
              refine CodeT.seq ?_
              refine CodeT.region (.p (opAssign (.c _)) rfl <| .p (opAssign (.c _)) rfl <| .nil ?_)
              refine EndT.thenN ?_
              refine CodeT.cut (σ := Nat) (fun _ => [memsH g48.pb [(b0, M0), (b1, M1)], sliceH (some (b8, 2)) 1 encPt [some b0, some b1], sliceH (some (b9, 2)) 3 encRM [r0, r1], pagH g48 64 4096 (fun _ => True) C m noR]) (fun k => [(16, i64V (k : Int)), (17, i64V ((1 - k : Nat) : Int))]) (fun k => k ≤ 1) ?_ ?_
              ·
                refine CodeT.seq ?_
                refine CodeT.region (.p (opField Tryd.fd66_1 (.t rfl)) rfl <| .p (opLoad Tryd.ag4 (.t rfl)) rfl <| .nil ?_)
                refine EndT.thenN ?_
                refine CodeT.cond (.t rfl) (fun c5 => ?_) (fun c5 => ?_)
                ·
                  refine CodeT.region (.p (opAssign (.c _)) rfl <| .p (opAssign (.c _)) rfl <| .nil ?_)
                  refine EndT.meet 1 (by decide) rfl (.get rfl (VLe.refl _) (.get rfl (VLe.refl _) (.keep 4 rfl rfl)))
                ·
                  refine CodeT.skip (EndT.meet 0 (by decide) rfl (.get rfl (VLe.refl _) (.get rfl (VLe.refl _) (.keep 2 rfl rfl))))
              ·
                intro k hk
                refine CodeT.cut (σ := Nat) (fun _ => [memsH g48.pb [(b0, M0), (b1, M1)], sliceH (some (b8, 2)) 1 encPt [some b0, some b1], sliceH (some (b9, 2)) 3 encRM [r0, r1], pagH g48 64 4096 (fun _ => True) C m noR]) (fun o => [(17, i64V (o : Int))]) (fun o => k = o ∨ 1 - k = o) ?_ ?_
                ·
                  refine CodeT.seq ?_
                  refine CodeT.region (.p (opField Tryd.fd66_2 (.t rfl)) rfl <| .p (opLoad Tryd.ag4 (.t rfl)) rfl <| .nil ?_)
                  refine EndT.thenN ?_
                  refine CodeT.cond (.t rfl) (fun c6 => ?_) (fun c6 => ?_)
                  ·
                    refine CodeT.region (.p (opMove (.t rfl)) rfl <| .p (opAssign (.t rfl)) rfl <| .nil ?_)
                    refine EndT.meet k (.inl rfl) rfl (.get rfl (VLe.refl _) (.keep 4 rfl rfl))
                  ·
                    refine CodeT.skip (EndT.meet (1 - k) (.inr rfl) rfl (.get rfl (VLe.refl _) (.keep 2 rfl rfl)))
                ·
                  intro o ho
                  obtain ⟨nn, hnn⟩ : ∃ nn : Nat, nn = (min (max x.N.1 0) 500).toNat := ⟨_, rfl⟩
                  have hn500 : nn ≤ 500 := by omega
                  obtain ⟨bk, bj, Mk, Mj, rk, rj, A⟩ := hI.at_ (pb := g48.pb) (b0 := b0) (b1 := b1) hk
                  refine CodeT.own (A.hopen _) ?_
                  have hset0 := set_id A.ek
                  have hsp := A.sk.pages; have hsp1 := A.sk.ok.pages; have hsp2 := A.sk.most; have hsh := A.sk.high; have hsh2 := A.sk.ok.high
                  have hrp : rk.pages ≤ 65536 := by omega
                  have hrm : rk.most ≤ 65536 := by omega
                  have hrn : rk.puts.length ≤ 1000 := by (have h9 := A.nk; omega)
                  obtain ⟨hld1, hld2, hld3, _⟩ := A.sk.load (a := x.At.1) (o := x.Off.1) (n := nn) (by omega)
                  obtain ⟨hst1, hst2, _, hst4⟩ := A.sk.load (a := x.At.1) (o := x.Off.1) (n := x.B.length) (by omega)
                  obtain ⟨hfi1, hfi2, hfi3⟩ := A.sk.fill (a := x.At.1) (n := nn) (by omega)
                  have hgw := (A.sk.grow x.At.1).2
                  refine CodeT.seq ?_
                  refine CodeT.region (.p (opField Tryd.fd66_5 (.t rfl)) rfl <| .p (opLoad Tryd.ag3 (.t rfl)) rfl <| .p (opMax (.t rfl) (.c _)) rfl <| .p ((opMin (.t rfl) (.c _)).le (VLe.int (show _ = ((nn : Nat) : Int) by omega))) rfl <| .p (opConvF Tryd.underlying3 Tryd.underlying46 (.t rfl) (fits_u64 (by omega) (by omega))) rfl <| .p (opAssign (.t rfl)) rfl <| .nil ?_)
                  refine EndT.thenN ?_
                  refine CodeT.cut (σ := SpD × RM × Cont × Nat) (fun g => [spaceH bk g48.pb g.1, spaceH bj g48.pb Mj, sliceH (some (b8, 2)) 1 encPt [some b0, some b1], sliceH (some (b9, 2)) 3 encRM ([r0, r1].set k g.2.1), pagH g48 64 4096 (fun _ => True) g.2.2.1 g.2.2.2 noR]) (fun g => []) (fun g => MeetI k Mj rj rk m g.1 g.2.1 g.2.2.1 g.2.2.2) ?_ ?_
                  ·
                    refine CodeT.seq ?_
                    refine CodeT.region (.p (opField Tryd.fd66_0 (.t rfl)) rfl <| .p (opLoad Tryd.ag5 (.t rfl)) rfl <| .p (opRem (.t rfl) (.c _) (by omega) (by omega)) rfl <| .nil ?_)
                    refine EndT.thenN ?_
                    refine CodeT.block ?_
                    refine CodeT.seq ?_
                    refine CodeT.region (.p (opEql (.t rfl) (.c _)) rfl <| .p (opAssign (.t rfl)) rfl <| .nil ?_)
                    refine EndT.thenN ?_
                    refine CodeT.cond (.t rfl) (fun c7 => ?_) (fun c7 => ?_)
                    ·
                      refine CodeT.seq ?_
                      refine CodeT.staged [(0, 0), (1, 0), (2, 1), (3, 0), (4, 0), (5, 0), (6, 0), (7, 0), (8, 0), (9, 2), (10, 0), (11, 0), (12, 0), (13, 0), (14, 0), (15, 0)] 16 1 Tryd.mixed (by kernel_rfl) (.p rfl (fun _ => opMove (.t rfl)) <| .p rfl (fun _ => opIndexAddrAW (k) Tryd.underlying60 Tryd.cz39 rfl (.t rfl) (.t rfl) rfl (by omega)) <| .o rfl (opLoadW (i := 2) (r := 0) Tryd.ag39 (.t rfl) rfl A.lk rfl) <| .p rfl (fun _ => opField Tryd.fd66_3 (.t rfl)) <| .p rfl (fun _ => opLoad Tryd.ag46 (.t rfl)) <| .p rfl (fun _ => opField Tryd.fd66_4 (.t rfl)) <| .p rfl (fun _ => opLoad Tryd.ag46 (.t rfl)) <| .p rfl (fun _ => opMove (.t rfl)) <| .p rfl (fun _ => opConvF Tryd.underlying46 Tryd.underlying3 (.t rfl) (fits_i64 (by omega) (by omega))) <| .e rfl (opCallE (rest := [_, _, _]) (mload_spec (mb := bk) (mm := Mk) (X := g48) (z := 64) (q := 4096) (m := m) (T := fun _ => True) (C := C) (R := noR) (a := x.At.1) (o := x.Off.1) (n := (nn : Int)) (noR_ok _) (by decide) (by decide) A.sk.ok ha64 ho64) Tryd.cb23 (.cons (.t rfl) (.cons (.t rfl) (.cons (.t rfl) (.cons (.t rfl) .nil)))) (Perm.idx [0, 4, 1, 2, 3] rfl rfl)) <| fun g140 h140 => .p rfl (fun _ => opMove (.t rfl)) <| .p rfl (fun _ => (opExtract (.t rfl) rfl).le (VLe.of_eq (congrArg (sliceV 1 encU8) hld3))) <| .p rfl (fun _ => (opExtract (.t rfl) rfl).le (VLe.int hld1)) <| .p rfl (fun _ => (opExtract (.t rfl) rfl).le (VLe.int hld2)) <| .p rfl (fun _ => opAssign (.t rfl)) <| .p rfl (fun _ => opAssign (.t rfl)) <| .fin (.p (opAssign (.t rfl)) rfl <| .nil ?_))
                      refine EndT.thenN ?_
                      refine CodeT.seq ?_
                      refine CodeT.draw 8 2 Tryd.mixed (by kernel_rfl) (.p (opMove (.t rfl)) <| .p (opIndexAddrAW k Tryd.underlying64 Tryd.cz63 rfl (.t rfl) (.t rfl) rfl (by omega)) <| .p (OpP.le (opLoadWA (enc := encRM) (i := 4) (r := 0) Tryd.ag63 Tryd.cz63 rfl (.t rfl) rfl A.ek rfl) (VLe.refl (aggV (encRM rk)))) <| .p (opField Tryd.fd66_3 (.t rfl)) <| .p (opLoad Tryd.ag46 (.t rfl)) <| .p (opField Tryd.fd66_4 (.t rfl)) <| .p (opLoad Tryd.ag46 (.t rfl)) <| .p (opMove (.t rfl)) <| .nil) (.p (opCall (rbeyond_spec (r := rk) (a := x.At.1) (o := x.Off.1) (n := nn) hrp ha64 ho64 (by omega)) Tryd.cb29 (.cons (.t rfl) (.cons (.t rfl) (.cons (.t rfl) (.cons (.t rfl) .nil))))) rfl <| .p (opAssign (.t rfl)) rfl <| .nil ?_)
                      refine EndT.thenN ?_
                      refine CodeT.seq ?_
                      refine CodeT.draw 29 12 Tryd.mixed (by kernel_rfl) (.p (opMove (.t rfl)) <| .p (opNeq (.t rfl) (.c _)) <| .p (opMove (.t rfl)) <| .cons (OpG.gF rfl rfl rfl rfl (fun hg => opMove (.t rfl))) <| .cons (OpG.gF rfl rfl rfl rfl (fun hg => opMove (.t rfl))) <| .cons (OpG.gF rfl rfl rfl rfl (fun hg => opEql (.when (.t rfl) hg) (.c _))) <| .cons (OpG.gF rfl rfl rfl rfl (fun hg => opNeqB Tryd.underlying4 (.when (.t rfl) hg) (.when (.t rfl) hg))) <| .p (opOr (.t rfl) (.t rfl)) <| .p (opMove (.t rfl)) <| .cons (OpG.gF rfl rfl rfl rfl (fun hg => opMove (.t rfl))) <| .cons (OpG.gF rfl rfl rfl rfl (fun hg => opNot (.when (.t rfl) hg))) <| .cons (OpG.gF rfl rfl rfl rfl (fun hg => opMove (.when (.t rfl) hg))) <| .cons (OpG.hT rfl rfl rfl rfl (fun hg => opMove (.t rfl))) <| .cons (OpG.hT rfl rfl rfl rfl (fun hg => opNeq (.when (.t rfl) hg) (.c _))) <| .cons (OpG.hT rfl rfl rfl rfl (fun hg => opMove (.when (.t rfl) hg))) <| .cons (OpG.hF rfl rfl rfl rfl (fun hg => opMove (.t rfl))) <| .cons (OpG.hF rfl rfl rfl rfl (fun hg => opBytesStr Tryd.underlying22 Tryd.underlying5 Tryd.underlying9 (.when (.t rfl) hg))) <| .cons (OpG.hF rfl rfl rfl rfl (fun hg => opMove (.t rfl))) <| .cons (OpG.hF rfl rfl rfl rfl (fun hg => opIndexAddrAW k Tryd.underlying64 Tryd.cz63 rfl (.t rfl) (.when (.t rfl) hg) rfl (by omega))) <| .cons (OpG.hF rfl rfl rfl rfl (fun hg => OpP.le (opLoadWA (enc := encRM) (i := 4) (r := 0) Tryd.ag63 Tryd.cz63 rfl (.when (.t rfl) hg) rfl A.ek rfl) (VLe.refl (aggV (encRM rk))))) <| .cons (OpG.hF rfl rfl rfl rfl (fun hg => opField Tryd.fd66_3 (.t rfl))) <| .cons (OpG.hF rfl rfl rfl rfl (fun hg => opLoad Tryd.ag46 (.when (.t rfl) hg))) <| .cons (OpG.hF rfl rfl rfl rfl (fun hg => opField Tryd.fd66_4 (.t rfl))) <| .cons (OpG.hF rfl rfl rfl rfl (fun hg => opLoad Tryd.ag46 (.when (.t rfl) hg))) <| .cons (OpG.hF rfl rfl rfl rfl (fun hg => (opAddF (.when (.t rfl) hg) (.when (.t rfl) hg) (by have h9 := hg.1.2; unfold beyondS at h9; exact fits_u64 (by omega) (by omega))).le (VLe.int (show _ = ((x.At.1 + x.Off.1 : Nat) : Int) by omega)))) <| .cons (OpG.hF rfl rfl rfl rfl (fun hg => opMove (.t rfl))) <| .cons (OpG.hF rfl rfl rfl rfl (fun hg => opConvF Tryd.underlying46 Tryd.underlying3 (.when (.t rfl) hg) (fits_i64 (by omega) (by omega)))) <| .cons (OpG.hF rfl rfl rfl rfl (fun hg => opCall (rread_spec (r := rk) (a := x.At.1 + x.Off.1) (n := nn) hrn (by have h9 := hg.1.2; unfold beyondS at h9; omega) A.bk_ (by omega)) Tryd.cb30 (.cons (.when (.t rfl) hg) (.cons (.when (.t rfl) hg) (.cons (.when (.t rfl) hg) .nil))))) <| .cons (OpG.hF rfl rfl rfl rfl (fun hg => opBytesStr Tryd.underlying22 Tryd.underlying5 Tryd.underlying9 (.when (.t rfl) hg))) <| .nil) (.g (OpG.hF rfl rfl rfl rfl (fun hg => opNeqS (.when (.t rfl) hg) (.when (.t rfl) hg))) rfl rfl <| .g (OpG.hT rfl rfl rfl rfl (fun hg => opOr (.when (.t rfl) hg) (.under (.t rfl) hg))) rfl rfl <| .g (OpG.gF rfl rfl rfl rfl (fun hg => opAnd (.when (.t rfl) hg) (.under (.t rfl) hg))) rfl rfl <| .p (opOr (.t rfl) (.t rfl)) rfl <| .p (opMove (.t rfl)) rfl <| .g (OpG.gF rfl rfl rfl rfl (fun hg => opMove (.t rfl))) rfl rfl <| .g (OpG.gF rfl rfl rfl rfl (fun hg => opMove (.when (.t rfl) hg))) rfl rfl <| .g (OpG.hT rfl rfl rfl rfl (fun hg => opMove (.t rfl))) rfl rfl <| .g (OpG.hT rfl rfl rfl rfl (fun hg => opLen rfl Tryd.underlying22 (.when (.t rfl) hg))) rfl rfl <| .g (OpG.hT rfl rfl rfl rfl (fun hg => opNeq (.when (.t rfl) hg) (.c _))) rfl rfl <| .g (OpG.gF rfl rfl rfl rfl (fun hg => opAnd (.when (.t rfl) hg) (.under (.t rfl) hg))) rfl rfl <| .p (opOr (.t rfl) (.t rfl)) rfl <| .nil ?_)
                      refine EndT.thenN ?_
                      refine CodeT.cond (.t rfl) (fun c8 => ?_) (fun c8 => ?_)
                      ·
                        exfalso; by_cases hb0 : beyondS rk.pages (x.At.1 + x.Off.1) nn <;> simp [hb0] at c8
                      ·
                        refine CodeT.skip (EndT.blkN (EndT.own (OLe.perm (Perm.idx [0, 2, 3, 4, 1] rfl rfl)) (EndT.meet (Mk, rk, C, m) A.same (by first | rfl | (simp only [hset0]; rfl) | (simp only [List.set_set]; rfl)) (.keep 73 rfl rfl))))
                    ·
                      refine CodeT.seq ?_
                      refine CodeT.region (.p (opEql (.t rfl) (.c _)) rfl <| .p (opAssign (.t rfl)) rfl <| .nil ?_)
                      refine EndT.thenN ?_
                      refine CodeT.cond (.t rfl) (fun c9 => ?_) (fun c9 => ?_)
                      ·
                        refine CodeT.seq ?_
                        refine CodeT.staged [(0, 0), (1, 0), (2, 1), (3, 0), (4, 0), (5, 0), (6, 0), (7, 0), (8, 0), (9, 2), (10, 0), (11, 0), (12, 0), (13, 0)] 14 1 Tryd.mixed (by kernel_rfl) (.p rfl (fun _ => opMove (.t rfl)) <| .p rfl (fun _ => opIndexAddrAW (k) Tryd.underlying60 Tryd.cz39 rfl (.t rfl) (.t rfl) rfl (by omega)) <| .o rfl (opLoadW (i := 2) (r := 0) Tryd.ag39 (.t rfl) rfl A.lk rfl) <| .p rfl (fun _ => opField Tryd.fd66_3 (.t rfl)) <| .p rfl (fun _ => opLoad Tryd.ag46 (.t rfl)) <| .p rfl (fun _ => opField Tryd.fd66_4 (.t rfl)) <| .p rfl (fun _ => opLoad Tryd.ag46 (.t rfl)) <| .p rfl (fun _ => opField Tryd.fd66_6 (.t rfl)) <| .p rfl (fun _ => opLoad Tryd.ag22 (.t rfl)) <| .e rfl (opCallE (rest := [_, _, _]) (mstore_spec (mb := bk) (mm := Mk) (X := g48) (z := 64) (q := 4096) (m := m) (T := fun _ => True) (C := C) (R := noR) (a := x.At.1) (o := x.Off.1) (ys := x.B) (noR_ok _) (by decide) (by decide) A.sk.ok ha64 ho64 (by omega) (by omega)) Tryd.cb21 (.cons (.t rfl) (.cons (.t rfl) (.cons (.t rfl) (.cons (.t rfl) .nil)))) (Perm.idx [0, 4, 1, 2, 3] rfl rfl)) <| fun g206 h206 => .p rfl (fun _ => opMove (.t rfl)) <| .p rfl (fun _ => (opExtract (.t rfl) rfl).le (VLe.int hst1)) <| .p rfl (fun _ => (opExtract (.t rfl) rfl).le (VLe.int hst2)) <| .p rfl (fun _ => opAssign (.t rfl)) <| .fin (.p (opAssign (.t rfl)) rfl <| .nil ?_))
                        refine EndT.thenN ?_
                        refine CodeT.seq ?_
                        refine CodeT.draw 11 2 Tryd.mixed (by kernel_rfl) (.p (opMove (.t rfl)) <| .p (opIndexAddrAW k Tryd.underlying64 Tryd.cz63 rfl (.t rfl) (.t rfl) rfl (by omega)) <| .p (OpP.le (opLoadWA (enc := encRM) (i := 4) (r := 0) Tryd.ag63 Tryd.cz63 rfl (.t rfl) rfl A.ek rfl) (VLe.refl (aggV (encRM rk)))) <| .p (opField Tryd.fd66_3 (.t rfl)) <| .p (opLoad Tryd.ag46 (.t rfl)) <| .p (opField Tryd.fd66_4 (.t rfl)) <| .p (opLoad Tryd.ag46 (.t rfl)) <| .p (opField Tryd.fd66_6 (.t rfl)) <| .p (opLoad Tryd.ag22 (.t rfl)) <| .p (opLen rfl Tryd.underlying22 (.t rfl)) <| .p (opConvF Tryd.underlying3 Tryd.underlying46 (.t rfl) (fits_u64 (by omega) (by omega))) <| .nil) (.p (opCall (rbeyond_spec (r := rk) (a := x.At.1) (o := x.Off.1) (n := x.B.length) hrp ha64 ho64 (by omega)) Tryd.cb29 (.cons (.t rfl) (.cons (.t rfl) (.cons (.t rfl) (.cons (.t rfl) .nil))))) rfl <| .p (opAssign (.t rfl)) rfl <| .nil ?_)
                        refine EndT.thenN ?_
                        refine CodeT.seq ?_
                        refine CodeT.seq ?_
                        refine CodeT.region (.p (opMove (.t rfl)) rfl <| .p (opNeq (.t rfl) (.c _)) rfl <| .p (opMove (.t rfl)) rfl <| .g (OpG.gF rfl rfl rfl rfl (fun hg => opMove (.t rfl))) rfl rfl <| .g (OpG.gF rfl rfl rfl rfl (fun hg => opMove (.t rfl))) rfl rfl <| .g (OpG.gF rfl rfl rfl rfl (fun hg => opEql (.when (.t rfl) hg) (.c _))) rfl rfl <| .g (OpG.gF rfl rfl rfl rfl (fun hg => opNeqB Tryd.underlying4 (.when (.t rfl) hg) (.when (.t rfl) hg))) rfl rfl <| .p (opOr (.t rfl) (.t rfl)) rfl <| .p (opMove (.t rfl)) rfl <| .g (OpG.gF rfl rfl rfl rfl (fun hg => opMove (.t rfl))) rfl rfl <| .g (OpG.gF rfl rfl rfl rfl (fun hg => opNot (.when (.t rfl) hg))) rfl rfl <| .g (OpG.gF rfl rfl rfl rfl (fun hg => opMove (.when (.t rfl) hg))) rfl rfl <| .g (OpG.hT rfl rfl rfl rfl (fun hg => opMove (.t rfl))) rfl rfl <| .g (OpG.hT rfl rfl rfl rfl (fun hg => opNeq (.when (.t rfl) hg) (.c _))) rfl rfl <| .g (OpG.gF rfl rfl rfl rfl (fun hg => opAnd (.when (.t rfl) hg) (.under (.t rfl) hg))) rfl rfl <| .p (opOr (.t rfl) (.t rfl)) rfl <| .nil ?_)
                        refine EndT.thenN ?_
                        refine CodeT.cond (.t rfl) (fun c10 => ?_) (fun c10 => ?_)
                        ·
                          exfalso; by_cases hb0 : beyondS rk.pages (x.At.1 + x.Off.1) x.B.length <;> simp [hb0] at c10
                        ·
                          refine CodeT.skip (EndT.thenN ?_)
                          refine CodeT.seq ?_
                          refine CodeT.region (.p (opMove (.t rfl)) rfl <| .p (opNot (.t rfl)) rfl <| .nil ?_)
                          refine EndT.thenN ?_
                          refine CodeT.cond (.t rfl) (fun c11 => ?_) (fun c11 => ?_)
                          ·
                            have hin : x.At.1 + x.Off.1 + x.B.length ≤ rk.pages * 65536 := Nat.le_of_not_lt c11
                            have hok := hst4.2 c11
                            refine CodeT.draw 12 2 Tryd.mixed (by kernel_rfl) (.p (opMove (.t rfl)) <| .p (opMove (.t rfl)) <| .p (opIndexAddrAW k Tryd.underlying64 Tryd.cz63 rfl (.t rfl) (.t rfl) rfl (by omega)) <| .p (OpP.le (opLoadWA (enc := encRM) (i := 4) (r := 0) Tryd.ag63 Tryd.cz63 rfl (.t rfl) rfl A.ek rfl) (VLe.refl (aggV (encRM rk)))) <| .p (opField Tryd.fd66_3 (.t rfl)) <| .p (opLoad Tryd.ag46 (.t rfl)) <| .p (opField Tryd.fd66_4 (.t rfl)) <| .p (opLoad Tryd.ag46 (.t rfl)) <| .p ((opAddF (.t rfl) (.t rfl) (fits_u64 (by omega) (by omega))).le (VLe.int (show _ = ((x.At.1 + x.Off.1 : Nat) : Int) by omega))) <| .p (opField Tryd.fd66_6 (.t rfl)) <| .p (opLoad Tryd.ag22 (.t rfl)) <| .p (opCall (rwrite_spec (r := rk) (a := x.At.1 + x.Off.1) (ys := x.B) hrn (by omega)) Tryd.cb31 (.cons (.t rfl) (.cons (.t rfl) (.cons (.t rfl) .nil)))) <| .nil) (.p (opIndexAddrAW k Tryd.underlying64 Tryd.cz63 rfl (.t rfl) (.t rfl) rfl (by omega)) rfl <| .s (opStoreWA (i := 4) (r := 0) (writeM rk (x.At.1 + x.Off.1) x.B) rfl Tryd.cz63 rfl (.t rfl) (.t rfl) rfl rfl A.ek rfl rfl) <| .nil ?_)
                            refine EndT.blkN (EndT.own (OLe.perm (Perm.idx [0, 2, 3, 4, 1] rfl rfl)) (EndT.meet (Mk, writeM rk (x.At.1 + x.Off.1) x.B, if (wrongS Mk.pages x.At.1 x.Off.1 (x.B.length : Int)).2 = (0, 0) then wrC 64 C Mk.num (x.At.1 + x.Off.1) x.B else C, m + (x.B.length / 64 + 2)) (A.wrote hk (if_pos hok) (by dsimp only; omega) (by omega)) (by first | rfl | (simp only [hset0]; rfl) | (simp only [List.set_set]; rfl)) (.keep 66 rfl rfl)))
                          ·
                            have hno := mt hst4.1 c11
                            refine CodeT.skip (EndT.blkN (EndT.own (OLe.perm (Perm.idx [0, 2, 3, 4, 1] rfl rfl)) (EndT.meet (Mk, rk, if (wrongS Mk.pages x.At.1 x.Off.1 (x.B.length : Int)).2 = (0, 0) then wrC 64 C Mk.num (x.At.1 + x.Off.1) x.B else C, m + (x.B.length / 64 + 2)) (A.same' (if_neg hno) (by dsimp only; omega)) (by first | rfl | (simp only [hset0]; rfl) | (simp only [List.set_set]; rfl)) (.keep 53 rfl rfl))))
                      ·
                        refine CodeT.seq ?_
                        refine CodeT.region (.p (opEql (.t rfl) (.c _)) rfl <| .p (opAssign (.t rfl)) rfl <| .nil ?_)
                        refine EndT.thenN ?_
                        refine CodeT.cond (.t rfl) (fun c12 => ?_) (fun c12 => ?_)
                        ·
                          refine CodeT.seq ?_
                          refine CodeT.staged [(0, 0), (1, 0), (2, 1), (3, 0), (4, 0), (5, 0), (6, 0), (7, 0), (8, 0), (9, 2), (10, 0), (11, 0), (12, 0), (13, 0)] 14 1 Tryd.mixed (by kernel_rfl) (.p rfl (fun _ => opMove (.t rfl)) <| .p rfl (fun _ => opIndexAddrAW (k) Tryd.underlying60 Tryd.cz39 rfl (.t rfl) (.t rfl) rfl (by omega)) <| .o rfl (opLoadW (i := 2) (r := 0) Tryd.ag39 (.t rfl) rfl A.lk rfl) <| .p rfl (fun _ => opField Tryd.fd66_3 (.t rfl)) <| .p rfl (fun _ => opLoad Tryd.ag46 (.t rfl)) <| .p rfl (fun _ => opField Tryd.fd66_4 (.t rfl)) <| .p rfl (fun _ => opLoad Tryd.ag46 (.t rfl)) <| .p rfl (fun _ => (opConv Tryd.underlying46 Tryd.underlying5 (.t rfl)).le (VLe.int (show _ = (((UInt8.ofNat x.Off.1).toNat : Nat) : Int) from wrap_u8 _))) <| .p rfl (fun _ => opMove (.t rfl)) <| .e rfl (opCallE (rest := [_, _, _]) (mfill_spec (mb := bk) (mm := Mk) (X := g48) (z := 64) (q := 4096) (m := m) (T := fun _ => True) (C := C) (R := noR) (a := x.At.1) (n := nn) (v := UInt8.ofNat x.Off.1) (noR_ok _) (by decide) (by decide) A.sk.ok ha64 (by omega) (by omega)) Tryd.cb26 (.cons (.t rfl) (.cons (.t rfl) (.cons (.t rfl) (.cons (.t rfl) .nil)))) (Perm.idx [0, 4, 1, 2, 3] rfl rfl)) <| fun g264 h264 => .p rfl (fun _ => opMove (.t rfl)) <| .p rfl (fun _ => (opExtract (.t rfl) rfl).le (VLe.int hfi1)) <| .p rfl (fun _ => (opExtract (.t rfl) rfl).le (VLe.int hfi2)) <| .p rfl (fun _ => opAssign (.t rfl)) <| .fin (.p (opAssign (.t rfl)) rfl <| .nil ?_))
                          refine EndT.thenN ?_
                          refine CodeT.seq ?_
                          refine CodeT.draw 6 2 Tryd.mixed (by kernel_rfl) (.p (opMove (.t rfl)) <| .p (opIndexAddrAW k Tryd.underlying64 Tryd.cz63 rfl (.t rfl) (.t rfl) rfl (by omega)) <| .p (OpP.le (opLoadWA (enc := encRM) (i := 4) (r := 0) Tryd.ag63 Tryd.cz63 rfl (.t rfl) rfl A.ek rfl) (VLe.refl (aggV (encRM rk)))) <| .p (opField Tryd.fd66_3 (.t rfl)) <| .p (opLoad Tryd.ag46 (.t rfl)) <| .p (opMove (.t rfl)) <| .nil) (.p (opCall (rbeyond_spec (r := rk) (a := x.At.1) (o := 0) (n := nn) hrp ha64 (by decide) (by omega)) Tryd.cb29 (.cons (.t rfl) (.cons (.t rfl) (.cons (.c _) (.cons (.t rfl) .nil))))) rfl <| .p (opAssign (.t rfl)) rfl <| .nil ?_)
                          refine EndT.thenN ?_
                          refine CodeT.seq ?_
                          refine CodeT.seq ?_
                          refine CodeT.region (.p (opMove (.t rfl)) rfl <| .p (opNeq (.t rfl) (.c _)) rfl <| .p (opMove (.t rfl)) rfl <| .g (OpG.gF rfl rfl rfl rfl (fun hg => opMove (.t rfl))) rfl rfl <| .g (OpG.gF rfl rfl rfl rfl (fun hg => opMove (.t rfl))) rfl rfl <| .g (OpG.gF rfl rfl rfl rfl (fun hg => opEql (.when (.t rfl) hg) (.c _))) rfl rfl <| .g (OpG.gF rfl rfl rfl rfl (fun hg => opNeqB Tryd.underlying4 (.when (.t rfl) hg) (.when (.t rfl) hg))) rfl rfl <| .p (opOr (.t rfl) (.t rfl)) rfl <| .p (opMove (.t rfl)) rfl <| .g (OpG.gF rfl rfl rfl rfl (fun hg => opMove (.t rfl))) rfl rfl <| .g (OpG.gF rfl rfl rfl rfl (fun hg => opNot (.when (.t rfl) hg))) rfl rfl <| .g (OpG.gF rfl rfl rfl rfl (fun hg => opMove (.when (.t rfl) hg))) rfl rfl <| .g (OpG.hT rfl rfl rfl rfl (fun hg => opMove (.t rfl))) rfl rfl <| .g (OpG.hT rfl rfl rfl rfl (fun hg => opNeq (.when (.t rfl) hg) (.c _))) rfl rfl <| .g (OpG.gF rfl rfl rfl rfl (fun hg => opAnd (.when (.t rfl) hg) (.under (.t rfl) hg))) rfl rfl <| .p (opOr (.t rfl) (.t rfl)) rfl <| .nil ?_)
                          refine EndT.thenN ?_
                          refine CodeT.cond (.t rfl) (fun c13 => ?_) (fun c13 => ?_)
                          ·
                            exfalso; by_cases hb0 : beyondS rk.pages x.At.1 nn <;> simp [hb0] at c13
                          ·
                            refine CodeT.skip (EndT.thenN ?_)
                            refine CodeT.seq ?_
                            refine CodeT.region (.p (opMove (.t rfl)) rfl <| .p (opNot (.t rfl)) rfl <| .nil ?_)
                            refine EndT.thenN ?_
                            refine CodeT.cond (.t rfl) (fun c14 => ?_) (fun c14 => ?_)
                            ·
                              have hok := hfi3.2 c14
                              refine CodeT.draw 12 2 Tryd.mixed (by kernel_rfl) (.p (opMove (.t rfl)) <| .p (opMove (.t rfl)) <| .p (opIndexAddrAW k Tryd.underlying64 Tryd.cz63 rfl (.t rfl) (.t rfl) rfl (by omega)) <| .p (OpP.le (opLoadWA (enc := encRM) (i := 4) (r := 0) Tryd.ag63 Tryd.cz63 rfl (.t rfl) rfl A.ek rfl) (VLe.refl (aggV (encRM rk)))) <| .p (opField Tryd.fd66_3 (.t rfl)) <| .p (opLoad Tryd.ag46 (.t rfl)) <| .p (opField Tryd.fd66_4 (.t rfl)) <| .p (opLoad Tryd.ag46 (.t rfl)) <| .p ((opConv Tryd.underlying46 Tryd.underlying5 (.t rfl)).le (VLe.int (show _ = (((UInt8.ofNat x.Off.1).toNat : Nat) : Int) from wrap_u8 _))) <| .p (opMove (.t rfl)) <| .p (opConvF Tryd.underlying46 Tryd.underlying3 (.t rfl) (fits_i64 (by omega) (by omega))) <| .p (opCall (rfill_spec (r := rk) (a := x.At.1) (n := nn) (v := UInt8.ofNat x.Off.1) hrn (by omega)) Tryd.cb32 (.cons (.t rfl) (.cons (.t rfl) (.cons (.t rfl) (.cons (.t rfl) .nil))))) <| .nil) (.p (opIndexAddrAW k Tryd.underlying64 Tryd.cz63 rfl (.t rfl) (.t rfl) rfl (by omega)) rfl <| .s (opStoreWA (i := 4) (r := 0) (writeM rk x.At.1 (List.replicate nn (UInt8.ofNat x.Off.1))) rfl Tryd.cz63 rfl (.t rfl) (.t rfl) rfl rfl A.ek rfl rfl) <| .nil ?_)
                              refine EndT.blkN (EndT.own (OLe.perm (Perm.idx [0, 2, 3, 4, 1] rfl rfl)) (EndT.meet (Mk, writeM rk x.At.1 (List.replicate nn (UInt8.ofNat x.Off.1)), if fillS Mk.pages x.At.1 nn = (0, 0) then wrC 64 C Mk.num x.At.1 (List.replicate nn (UInt8.ofNat x.Off.1)) else C, if fillS Mk.pages x.At.1 nn = (0, 0) then m + (nn / 64 + 2) else m) (A.wrote hk (if_pos hok) (by dsimp only; split <;> omega) (by simp; omega)) (by first | rfl | (simp only [hset0]; rfl) | (simp only [List.set_set]; rfl)) (.keep 63 rfl rfl)))
                            ·
                              have hno := mt hfi3.1 c14
                              refine CodeT.skip (EndT.blkN (EndT.own (OLe.perm (Perm.idx [0, 2, 3, 4, 1] rfl rfl)) (EndT.meet (Mk, rk, if fillS Mk.pages x.At.1 nn = (0, 0) then wrC 64 C Mk.num x.At.1 (List.replicate nn (UInt8.ofNat x.Off.1)) else C, if fillS Mk.pages x.At.1 nn = (0, 0) then m + (nn / 64 + 2) else m) (A.same' (if_neg hno) (by dsimp only; split <;> omega)) (by first | rfl | (simp only [hset0]; rfl) | (simp only [List.set_set]; rfl)) (.keep 50 rfl rfl))))
                        ·
                          refine CodeT.seq ?_
                          refine CodeT.region (.p (opEql (.t rfl) (.c _)) rfl <| .p (opAssign (.t rfl)) rfl <| .nil ?_)
                          refine EndT.thenN ?_
                          refine CodeT.cond (.t rfl) (fun c15 => ?_) (fun c15 => ?_)
                          ·
                            refine CodeT.seq ?_
                            rcases ho with rfl | rfl
                            ·
                              obtain ⟨hcp1, hcp2, hcp3⟩ := copy_facts A.sk A.sk (t := x.At.1) (a := x.Off.1) (n := nn) (by omega)
                              refine CodeT.staged [(0, 0), (1, 0), (2, 1), (3, 0), (4, 0), (5, 1), (6, 0), (7, 0), (8, 0), (9, 0), (10, 0), (11, 2), (12, 0), (13, 0), (14, 0), (15, 0)] 16 1 Tryd.mixed (by kernel_rfl) (.p rfl (fun _ => opMove (.t rfl)) <| .p rfl (fun _ => opIndexAddrAW (k) Tryd.underlying60 Tryd.cz39 rfl (.t rfl) (.t rfl) rfl (by omega)) <| .o rfl (opLoadW (i := 2) (r := 0) Tryd.ag39 (.t rfl) rfl A.lk rfl) <| .p rfl (fun _ => opMove (.t rfl)) <| .p rfl (fun _ => opIndexAddrAW (k) Tryd.underlying60 Tryd.cz39 rfl (.t rfl) (.t rfl) rfl (by omega)) <| .o rfl (opLoadW (i := 2) (r := 0) Tryd.ag39 (.t rfl) rfl A.lk rfl) <| .p rfl (fun _ => opField Tryd.fd66_3 (.t rfl)) <| .p rfl (fun _ => opLoad Tryd.ag46 (.t rfl)) <| .p rfl (fun _ => opField Tryd.fd66_4 (.t rfl)) <| .p rfl (fun _ => opLoad Tryd.ag46 (.t rfl)) <| .p rfl (fun _ => opMove (.t rfl)) <| .e rfl (opCallE (rest := [_, _, _]) (mcopySelf_spec (mb := bk) (mm := Mk) (X := g48) (z := 64) (q := 4096) (m := m) (T := fun _ => True) (C := C) (R := noR) (a := x.Off.1) (t := x.At.1) (n := nn) (noR_ok _) (by decide) (by decide) A.sk.ok A.sk.ok ha64 ho64 (by omega) (by intro _; omega)) Tryd.cb25 (.cons (.t rfl) (.cons (.t rfl) (.cons (.t rfl) (.cons (.t rfl) (.cons (.t rfl) .nil))))) (Perm.idx [0, 4, 1, 2, 3] rfl rfl)) <| fun g319 h319 => .p rfl (fun _ => opMove (.t rfl)) <| .p rfl (fun _ => (opExtract (.t rfl) rfl).le (VLe.int hcp1)) <| .p rfl (fun _ => (opExtract (.t rfl) rfl).le (VLe.int hcp2)) <| .p rfl (fun _ => opAssign (.t rfl)) <| .fin (.p (opAssign (.t rfl)) rfl <| .nil ?_))
                              refine EndT.thenN ?_
                              refine CodeT.seq ?_
                              refine CodeT.draw 14 3 Tryd.mixed (by kernel_rfl) (.p (opMove (.t rfl)) <| .p (opIndexAddrAW k Tryd.underlying64 Tryd.cz63 rfl (.t rfl) (.t rfl) rfl (by omega)) <| .p (OpP.le (opLoadWA (enc := encRM) (i := 4) (r := 0) Tryd.ag63 Tryd.cz63 rfl (.t rfl) rfl A.ek rfl) (VLe.refl (aggV (encRM rk)))) <| .p (opField Tryd.fd66_3 (.t rfl)) <| .p (opLoad Tryd.ag46 (.t rfl)) <| .p (opMove (.t rfl)) <| .p (opCall (rbeyond_spec (r := rk) (a := x.At.1) (o := 0) (n := nn) hrp ha64 (by decide) (by omega)) Tryd.cb29 (.cons (.t rfl) (.cons (.t rfl) (.cons (.c _) (.cons (.t rfl) .nil))))) <| .p (opMove (.t rfl)) <| .cons (OpG.gF rfl rfl rfl rfl (fun hg => opMove (.t rfl))) <| .cons (OpG.gF rfl rfl rfl rfl (fun hg => opIndexAddrAW k Tryd.underlying64 Tryd.cz63 rfl (.t rfl) (.when (.t rfl) hg) rfl (by omega))) <| .cons (OpG.gF rfl rfl rfl rfl (fun hg => OpP.le (opLoadWA (enc := encRM) (i := 4) (r := 0) Tryd.ag63 Tryd.cz63 rfl (.when (.t rfl) hg) rfl A.ek rfl) (VLe.refl (aggV (encRM rk))))) <| .cons (OpG.gF rfl rfl rfl rfl (fun hg => opField Tryd.fd66_4 (.t rfl))) <| .cons (OpG.gF rfl rfl rfl rfl (fun hg => opLoad Tryd.ag46 (.when (.t rfl) hg))) <| .cons (OpG.gF rfl rfl rfl rfl (fun hg => opMove (.t rfl))) <| .nil) (.g (OpG.gF rfl rfl rfl rfl (fun hg => opCall (rbeyond_spec (r := rk) (a := x.Off.1) (o := 0) (n := nn) hrp ho64 (by decide) (by omega)) Tryd.cb29 (.cons (.when (.t rfl) hg) (.cons (.when (.t rfl) hg) (.cons (.c _) (.cons (.when (.t rfl) hg) .nil)))))) rfl rfl <| .p (opOr (.t rfl) (.t rfl)) rfl <| .p (opAssign (.t rfl)) rfl <| .nil ?_)
                              refine EndT.thenN ?_
                              refine CodeT.seq ?_
                              refine CodeT.seq ?_
                              refine CodeT.region (.p (opMove (.t rfl)) rfl <| .p (opNeq (.t rfl) (.c _)) rfl <| .p (opMove (.t rfl)) rfl <| .g (OpG.gF rfl rfl rfl rfl (fun hg => opMove (.t rfl))) rfl rfl <| .g (OpG.gF rfl rfl rfl rfl (fun hg => opMove (.t rfl))) rfl rfl <| .g (OpG.gF rfl rfl rfl rfl (fun hg => opEql (.when (.t rfl) hg) (.c _))) rfl rfl <| .g (OpG.gF rfl rfl rfl rfl (fun hg => opNeqB Tryd.underlying4 (.when (.t rfl) hg) (.when (.t rfl) hg))) rfl rfl <| .p (opOr (.t rfl) (.t rfl)) rfl <| .p (opMove (.t rfl)) rfl <| .g (OpG.gF rfl rfl rfl rfl (fun hg => opMove (.t rfl))) rfl rfl <| .g (OpG.gF rfl rfl rfl rfl (fun hg => opNot (.when (.t rfl) hg))) rfl rfl <| .g (OpG.gF rfl rfl rfl rfl (fun hg => opMove (.when (.t rfl) hg))) rfl rfl <| .g (OpG.hT rfl rfl rfl rfl (fun hg => opMove (.t rfl))) rfl rfl <| .g (OpG.hT rfl rfl rfl rfl (fun hg => opNeq (.when (.t rfl) hg) (.c _))) rfl rfl <| .g (OpG.gF rfl rfl rfl rfl (fun hg => opAnd (.when (.t rfl) hg) (.under (.t rfl) hg))) rfl rfl <| .p (opOr (.t rfl) (.t rfl)) rfl <| .nil ?_)
                              refine EndT.thenN ?_
                              refine CodeT.cond (.t rfl) (fun c16 => ?_) (fun c16 => ?_)
                              ·
                                exfalso; by_cases hb0 : beyondS rk.pages x.At.1 nn <;> by_cases hb1 : beyondS rk.pages x.Off.1 nn <;> simp [hb0, hb1] at c16
                              ·
                                refine CodeT.skip (EndT.thenN ?_)
                                refine CodeT.seq ?_
                                refine CodeT.region (.p (opMove (.t rfl)) rfl <| .p (opNot (.t rfl)) rfl <| .nil ?_)
                                refine EndT.thenN ?_
                                refine CodeT.cond (.t rfl) (fun c17 => ?_) (fun c17 => ?_)
                                ·
                                  have hok := hcp3.2 c17
                                  have hin : x.Off.1 + nn ≤ rk.pages * 65536 := Nat.le_of_not_lt (fun h => c17 (.inr h))
                                  refine CodeT.draw 15 2 Tryd.mixed (by kernel_rfl) (.p (opMove (.t rfl)) <| .p (opMove (.t rfl)) <| .p (opIndexAddrAW k Tryd.underlying64 Tryd.cz63 rfl (.t rfl) (.t rfl) rfl (by omega)) <| .p (OpP.le (opLoadWA (enc := encRM) (i := 4) (r := 0) Tryd.ag63 Tryd.cz63 rfl (.t rfl) rfl A.ek rfl) (VLe.refl (aggV (encRM rk)))) <| .p (opField Tryd.fd66_3 (.t rfl)) <| .p (opLoad Tryd.ag46 (.t rfl)) <| .p (opMove (.t rfl)) <| .p (opIndexAddrAW k Tryd.underlying64 Tryd.cz63 rfl (.t rfl) (.t rfl) rfl (by omega)) <| .p (OpP.le (opLoadWA (enc := encRM) (i := 4) (r := 0) Tryd.ag63 Tryd.cz63 rfl (.t rfl) rfl A.ek rfl) (VLe.refl (aggV (encRM rk)))) <| .p (opField Tryd.fd66_4 (.t rfl)) <| .p (opLoad Tryd.ag46 (.t rfl)) <| .p (opMove (.t rfl)) <| .p (opConvF Tryd.underlying46 Tryd.underlying3 (.t rfl) (fits_i64 (by omega) (by omega))) <| .p (opCall (rread_spec (r := rk) (a := x.Off.1) (n := nn) hrn (by omega) A.bk_ (by omega)) Tryd.cb30 (.cons (.t rfl) (.cons (.t rfl) (.cons (.t rfl) .nil)))) <| .p (opCall (rwrite_spec (r := rk) (a := x.At.1) (ys := readM rk x.Off.1 nn) hrn (by rw [readM_len]; omega)) Tryd.cb31 (.cons (.t rfl) (.cons (.t rfl) (.cons (.t rfl) .nil)))) <| .nil) (.p (opIndexAddrAW k Tryd.underlying64 Tryd.cz63 rfl (.t rfl) (.t rfl) rfl (by omega)) rfl <| .s (opStoreWA (i := 4) (r := 0) (writeM rk x.At.1 (readM rk x.Off.1 nn)) rfl Tryd.cz63 rfl (.t rfl) (.t rfl) rfl rfl A.ek rfl rfl) <| .nil ?_)
                                  refine EndT.blkN (EndT.own (OLe.perm (Perm.idx [0, 2, 3, 4, 1] rfl rfl)) (EndT.meet (Mk, writeM rk x.At.1 (readM rk x.Off.1 nn), if copyS Mk.pages Mk.pages x.At.1 x.Off.1 nn = (0, 0) then wrC 64 C Mk.num x.At.1 (memR 64 C Mk.num x.Off.1 nn) else C, if copyS Mk.pages Mk.pages x.At.1 x.Off.1 nn = (0, 0) then m + (nn / 64 + 2) else m) (A.wrote hk ((if_pos hok).trans (by rw [A.sk.read])) (by dsimp only; split <;> omega) (by rw [readM_len]; omega)) (by first | rfl | (simp only [hset0]; rfl) | (simp only [List.set_set]; rfl)) (.keep 79 rfl rfl)))
                                ·
                                  have hno := mt hcp3.1 c17
                                  refine CodeT.skip (EndT.blkN (EndT.own (OLe.perm (Perm.idx [0, 2, 3, 4, 1] rfl rfl)) (EndT.meet (Mk, rk, if copyS Mk.pages Mk.pages x.At.1 x.Off.1 nn = (0, 0) then wrC 64 C Mk.num x.At.1 (memR 64 C Mk.num x.Off.1 nn) else C, if copyS Mk.pages Mk.pages x.At.1 x.Off.1 nn = (0, 0) then m + (nn / 64 + 2) else m) (A.same' (if_neg hno) (by dsimp only; split <;> omega)) (by first | rfl | (simp only [hset0]; rfl) | (simp only [List.set_set]; rfl)) (.keep 63 rfl rfl))))
                            ·
                              obtain ⟨hcp1, hcp2, hcp3⟩ := copy_facts A.sk A.sj (t := x.At.1) (a := x.Off.1) (n := nn) (by omega)
                              have hjp := A.sj.pages; have hjp1 := A.sj.ok.pages; have hjp2 := A.sj.most
                              have hrpj : rj.pages ≤ 65536 := by omega
                              have hrnj : rj.puts.length ≤ 1000 := by (have h9 := A.nj; omega)
                              refine CodeT.staged [(0, 0), (1, 0), (2, 1), (3, 0), (4, 0), (5, 1), (6, 0), (7, 0), (8, 0), (9, 0), (10, 0), (11, 2), (12, 0), (13, 0), (14, 0), (15, 0)] 16 1 Tryd.mixed (by kernel_rfl) (.p rfl (fun _ => opMove (.t rfl)) <| .p rfl (fun _ => opIndexAddrAW (k) Tryd.underlying60 Tryd.cz39 rfl (.t rfl) (.t rfl) rfl (by omega)) <| .o rfl (opLoadW (i := 2) (r := 0) Tryd.ag39 (.t rfl) rfl A.lk rfl) <| .p rfl (fun _ => opMove (.t rfl)) <| .p rfl (fun _ => opIndexAddrAW ((1 - k)) Tryd.underlying60 Tryd.cz39 rfl (.t rfl) (.t rfl) rfl (by omega)) <| .o rfl (opLoadW (i := 2) (r := 0) Tryd.ag39 (.t rfl) rfl A.lj rfl) <| .p rfl (fun _ => opField Tryd.fd66_3 (.t rfl)) <| .p rfl (fun _ => opLoad Tryd.ag46 (.t rfl)) <| .p rfl (fun _ => opField Tryd.fd66_4 (.t rfl)) <| .p rfl (fun _ => opLoad Tryd.ag46 (.t rfl)) <| .p rfl (fun _ => opMove (.t rfl)) <| .e rfl (opCallE (rest := [_, _]) (mcopy_spec (mb := bk) (mf := bj) (mm := Mk) (mw := Mj) (X := g48) (z := 64) (q := 4096) (m := m) (T := fun _ => True) (C := C) (R := noR) (a := x.Off.1) (t := x.At.1) (n := nn) (noR_ok _) (by decide) (by decide) A.sk.ok A.sj.ok ha64 ho64 (by omega) (by intro _; omega)) Tryd.cb25 (.cons (.t rfl) (.cons (.t rfl) (.cons (.t rfl) (.cons (.t rfl) (.cons (.t rfl) .nil))))) (Perm.idx [0, 1, 4, 2, 3] rfl rfl)) <| fun g319 h319 => .p rfl (fun _ => opMove (.t rfl)) <| .p rfl (fun _ => (opExtract (.t rfl) rfl).le (VLe.int hcp1)) <| .p rfl (fun _ => (opExtract (.t rfl) rfl).le (VLe.int hcp2)) <| .p rfl (fun _ => opAssign (.t rfl)) <| .fin (.p (opAssign (.t rfl)) rfl <| .nil ?_))
                              refine EndT.thenN ?_
                              refine CodeT.seq ?_
                              refine CodeT.draw 14 3 Tryd.mixed (by kernel_rfl) (.p (opMove (.t rfl)) <| .p (opIndexAddrAW k Tryd.underlying64 Tryd.cz63 rfl (.t rfl) (.t rfl) rfl (by omega)) <| .p (OpP.le (opLoadWA (enc := encRM) (i := 4) (r := 0) Tryd.ag63 Tryd.cz63 rfl (.t rfl) rfl A.ek rfl) (VLe.refl (aggV (encRM rk)))) <| .p (opField Tryd.fd66_3 (.t rfl)) <| .p (opLoad Tryd.ag46 (.t rfl)) <| .p (opMove (.t rfl)) <| .p (opCall (rbeyond_spec (r := rk) (a := x.At.1) (o := 0) (n := nn) hrp ha64 (by decide) (by omega)) Tryd.cb29 (.cons (.t rfl) (.cons (.t rfl) (.cons (.c _) (.cons (.t rfl) .nil))))) <| .p (opMove (.t rfl)) <| .cons (OpG.gF rfl rfl rfl rfl (fun hg => opMove (.t rfl))) <| .cons (OpG.gF rfl rfl rfl rfl (fun hg => opIndexAddrAW (1 - k) Tryd.underlying64 Tryd.cz63 rfl (.t rfl) (.when (.t rfl) hg) rfl (by omega))) <| .cons (OpG.gF rfl rfl rfl rfl (fun hg => OpP.le (opLoadWA (enc := encRM) (i := 4) (r := 0) Tryd.ag63 Tryd.cz63 rfl (.when (.t rfl) hg) rfl A.ej rfl) (VLe.refl (aggV (encRM rj))))) <| .cons (OpG.gF rfl rfl rfl rfl (fun hg => opField Tryd.fd66_4 (.t rfl))) <| .cons (OpG.gF rfl rfl rfl rfl (fun hg => opLoad Tryd.ag46 (.when (.t rfl) hg))) <| .cons (OpG.gF rfl rfl rfl rfl (fun hg => opMove (.t rfl))) <| .nil) (.g (OpG.gF rfl rfl rfl rfl (fun hg => opCall (rbeyond_spec (r := rj) (a := x.Off.1) (o := 0) (n := nn) hrpj ho64 (by decide) (by omega)) Tryd.cb29 (.cons (.when (.t rfl) hg) (.cons (.when (.t rfl) hg) (.cons (.c _) (.cons (.when (.t rfl) hg) .nil)))))) rfl rfl <| .p (opOr (.t rfl) (.t rfl)) rfl <| .p (opAssign (.t rfl)) rfl <| .nil ?_)
                              refine EndT.thenN ?_
                              refine CodeT.seq ?_
                              refine CodeT.seq ?_
                              refine CodeT.region (.p (opMove (.t rfl)) rfl <| .p (opNeq (.t rfl) (.c _)) rfl <| .p (opMove (.t rfl)) rfl <| .g (OpG.gF rfl rfl rfl rfl (fun hg => opMove (.t rfl))) rfl rfl <| .g (OpG.gF rfl rfl rfl rfl (fun hg => opMove (.t rfl))) rfl rfl <| .g (OpG.gF rfl rfl rfl rfl (fun hg => opEql (.when (.t rfl) hg) (.c _))) rfl rfl <| .g (OpG.gF rfl rfl rfl rfl (fun hg => opNeqB Tryd.underlying4 (.when (.t rfl) hg) (.when (.t rfl) hg))) rfl rfl <| .p (opOr (.t rfl) (.t rfl)) rfl <| .p (opMove (.t rfl)) rfl <| .g (OpG.gF rfl rfl rfl rfl (fun hg => opMove (.t rfl))) rfl rfl <| .g (OpG.gF rfl rfl rfl rfl (fun hg => opNot (.when (.t rfl) hg))) rfl rfl <| .g (OpG.gF rfl rfl rfl rfl (fun hg => opMove (.when (.t rfl) hg))) rfl rfl <| .g (OpG.hT rfl rfl rfl rfl (fun hg => opMove (.t rfl))) rfl rfl <| .g (OpG.hT rfl rfl rfl rfl (fun hg => opNeq (.when (.t rfl) hg) (.c _))) rfl rfl <| .g (OpG.gF rfl rfl rfl rfl (fun hg => opAnd (.when (.t rfl) hg) (.under (.t rfl) hg))) rfl rfl <| .p (opOr (.t rfl) (.t rfl)) rfl <| .nil ?_)
                              refine EndT.thenN ?_
                              refine CodeT.cond (.t rfl) (fun c16 => ?_) (fun c16 => ?_)
                              ·
                                exfalso; by_cases hb0 : beyondS rk.pages x.At.1 nn <;> by_cases hb1 : beyondS rj.pages x.Off.1 nn <;> simp [hb0, hb1] at c16
                              ·
                                refine CodeT.skip (EndT.thenN ?_)
                                refine CodeT.seq ?_
                                refine CodeT.region (.p (opMove (.t rfl)) rfl <| .p (opNot (.t rfl)) rfl <| .nil ?_)
                                refine EndT.thenN ?_
                                refine CodeT.cond (.t rfl) (fun c17 => ?_) (fun c17 => ?_)
                                ·
                                  have hok := hcp3.2 c17
                                  have hin : x.Off.1 + nn ≤ rj.pages * 65536 := Nat.le_of_not_lt (fun h => c17 (.inr h))
                                  refine CodeT.draw 15 2 Tryd.mixed (by kernel_rfl) (.p (opMove (.t rfl)) <| .p (opMove (.t rfl)) <| .p (opIndexAddrAW k Tryd.underlying64 Tryd.cz63 rfl (.t rfl) (.t rfl) rfl (by omega)) <| .p (OpP.le (opLoadWA (enc := encRM) (i := 4) (r := 0) Tryd.ag63 Tryd.cz63 rfl (.t rfl) rfl A.ek rfl) (VLe.refl (aggV (encRM rk)))) <| .p (opField Tryd.fd66_3 (.t rfl)) <| .p (opLoad Tryd.ag46 (.t rfl)) <| .p (opMove (.t rfl)) <| .p (opIndexAddrAW (1 - k) Tryd.underlying64 Tryd.cz63 rfl (.t rfl) (.t rfl) rfl (by omega)) <| .p (OpP.le (opLoadWA (enc := encRM) (i := 4) (r := 0) Tryd.ag63 Tryd.cz63 rfl (.t rfl) rfl A.ej rfl) (VLe.refl (aggV (encRM rj)))) <| .p (opField Tryd.fd66_4 (.t rfl)) <| .p (opLoad Tryd.ag46 (.t rfl)) <| .p (opMove (.t rfl)) <| .p (opConvF Tryd.underlying46 Tryd.underlying3 (.t rfl) (fits_i64 (by omega) (by omega))) <| .p (opCall (rread_spec (r := rj) (a := x.Off.1) (n := nn) hrnj (by omega) A.bj_ (by omega)) Tryd.cb30 (.cons (.t rfl) (.cons (.t rfl) (.cons (.t rfl) .nil)))) <| .p (opCall (rwrite_spec (r := rk) (a := x.At.1) (ys := readM rj x.Off.1 nn) hrn (by rw [readM_len]; omega)) Tryd.cb31 (.cons (.t rfl) (.cons (.t rfl) (.cons (.t rfl) .nil)))) <| .nil) (.p (opIndexAddrAW k Tryd.underlying64 Tryd.cz63 rfl (.t rfl) (.t rfl) rfl (by omega)) rfl <| .s (opStoreWA (i := 4) (r := 0) (writeM rk x.At.1 (readM rj x.Off.1 nn)) rfl Tryd.cz63 rfl (.t rfl) (.t rfl) rfl rfl A.ek rfl rfl) <| .nil ?_)
                                  refine EndT.blkN (EndT.own (OLe.perm (Perm.idx [0, 1, 3, 4, 2] rfl rfl)) (EndT.meet (Mk, writeM rk x.At.1 (readM rj x.Off.1 nn), if copyS Mk.pages Mj.pages x.At.1 x.Off.1 nn = (0, 0) then wrC 64 C Mk.num x.At.1 (memR 64 C Mj.num x.Off.1 nn) else C, if copyS Mk.pages Mj.pages x.At.1 x.Off.1 nn = (0, 0) then m + (nn / 64 + 2) else m) (A.wrote hk ((if_pos hok).trans (by rw [A.sj.read])) (by dsimp only; split <;> omega) (by rw [readM_len]; omega)) (by first | rfl | (simp only [hset0]; rfl) | (simp only [List.set_set]; rfl)) (.keep 79 rfl rfl)))
                                ·
                                  have hno := mt hcp3.1 c17
                                  refine CodeT.skip (EndT.blkN (EndT.own (OLe.perm (Perm.idx [0, 1, 3, 4, 2] rfl rfl)) (EndT.meet (Mk, rk, if copyS Mk.pages Mj.pages x.At.1 x.Off.1 nn = (0, 0) then wrC 64 C Mk.num x.At.1 (memR 64 C Mj.num x.Off.1 nn) else C, if copyS Mk.pages Mj.pages x.At.1 x.Off.1 nn = (0, 0) then m + (nn / 64 + 2) else m) (A.same' (if_neg hno) (by dsimp only; split <;> omega)) (by first | rfl | (simp only [hset0]; rfl) | (simp only [List.set_set]; rfl)) (.keep 63 rfl rfl))))
                          ·
                            refine CodeT.seq ?_
                            refine CodeT.region (.p (opEql (.t rfl) (.c _)) rfl <| .p (opAssign (.t rfl)) rfl <| .nil ?_)
                            refine EndT.thenN ?_
                            refine CodeT.cond (.t rfl) (fun c18 => ?_) (fun c18 => ?_)
                            ·
                              refine CodeT.seq ?_
                              refine CodeT.staged [(0, 0), (1, 0), (2, 1), (3, 0), (4, 0), (5, 2), (6, 0), (7, 0), (8, 0), (9, 0)] 10 1 Tryd.mixed (by kernel_rfl) (.p rfl (fun _ => opMove (.t rfl)) <| .p rfl (fun _ => opIndexAddrAW (k) Tryd.underlying60 Tryd.cz39 rfl (.t rfl) (.t rfl) rfl (by omega)) <| .o rfl (opLoadW (i := 2) (r := 0) Tryd.ag39 (.t rfl) rfl A.lk rfl) <| .p rfl (fun _ => opField Tryd.fd66_3 (.t rfl)) <| .p rfl (fun _ => opLoad Tryd.ag46 (.t rfl)) <| .e rfl (opCallE (rest := [_, _, _, _]) (mgrow_spec (mb := bk) (pb := g48.pb) (mm := Mk) (n := x.At.1) A.sk.ok ha64) Tryd.cb22 (.cons (.t rfl) (.cons (.t rfl) .nil)) (Perm.idx [0, 1, 2, 3, 4] rfl rfl)) <| fun g380 h380 => .p rfl (fun _ => opMove (.t rfl)) <| .p rfl (fun _ => (opExtract (.t rfl) rfl).le (VLe.int (show ((g380.2.1 : Nat) : Int) = (((growM rk x.At.1).2.1 : Nat) : Int) by rw [h380, hgw]))) <| .p rfl (fun _ => (opExtract (.t rfl) rfl).le (VLe.prop (show (g380.2.2 = true) ↔ ((growM rk x.At.1).2.2 = true) by rw [h380, hgw]))) <| .p rfl (fun _ => opAssign (.t rfl)) <| .fin (.p (opAssign (.t rfl)) rfl <| .nil ?_))
                              refine EndT.thenN ?_
                              subst h380
                              refine CodeT.seq ?_
                              refine CodeT.staged [(0, 0), (1, 0), (2, 1), (3, 0), (4, 0), (5, 0), (6, 0), (7, 0), (8, 0), (9, 0), (10, 4), (11, 3), (12, 0)] 13 1 Tryd.mixed (by kernel_rfl) (.p rfl (fun _ => opMove (.t rfl)) <| .p rfl (fun _ => opIndexAddrAW k Tryd.underlying64 Tryd.cz63 rfl (.t rfl) (.t rfl) rfl (by omega)) <| .o rfl (OpP.le (opLoadWA (enc := encRM) (i := 3) (r := 0) Tryd.ag63 Tryd.cz63 rfl (.t rfl) rfl A.ek rfl) (VLe.refl (aggV (encRM rk)))) <| .p rfl (fun _ => opField Tryd.fd66_3 (.t rfl)) <| .p rfl (fun _ => opLoad Tryd.ag46 (.t rfl)) <| .p rfl (fun _ => opCall (rgrow_spec (r := rk) (n := x.At.1) hrp hrm ha64) Tryd.cb33 (.cons (.t rfl) (.cons (.t rfl) .nil))) <| .p rfl (fun _ => opMove (.t rfl)) <| .p rfl (fun _ => opExtract (.t rfl) rfl) <| .p rfl (fun _ => opExtract (.t rfl) rfl) <| .p rfl (fun _ => opExtract (.t rfl) rfl) <| .a rfl (opAlloc Tryd.zb63) (fun _ _ => OLe.drop (OLe.refl _)) <| fun b34 _ => .s rfl (opStoreOA (i := 0) Tryd.cz63 rfl (.t rfl) (.t rfl) rfl rfl rfl) <| .p rfl (fun _ => opAssign (.t rfl)) <| .fin (.p (opAssign (.t rfl)) rfl <| .nil ?_))
                              refine EndT.thenN ?_
                              refine CodeT.share (t := 34) (i := 0) rfl rfl ?_
                              refine CodeT.seq ?_
                              refine CodeT.seq ?_
                              refine CodeT.region (.p (opMove (.t rfl)) rfl <| .p (opMove (.t rfl)) rfl <| .p (opNeq (.t rfl) (.t rfl)) rfl <| .p (opMove (.t rfl)) rfl <| .g (OpG.gF rfl rfl rfl rfl (fun hg => opMove (.t rfl))) rfl rfl <| .g (OpG.gF rfl rfl rfl rfl (fun hg => opMove (.t rfl))) rfl rfl <| .g (OpG.gF rfl rfl rfl rfl (fun hg => opNeqB Tryd.underlying4 (.when (.t rfl) hg) (.when (.t rfl) hg))) rfl rfl <| .p (opOr (.t rfl) (.t rfl)) rfl <| .nil ?_)
                              refine EndT.thenN ?_
                              refine CodeT.cond (.t rfl) (fun c19 => ?_) (fun c19 => ?_)
                              ·
                                exfalso; simp at c19
                              ·
                                refine CodeT.skip (EndT.thenN ?_)
                                refine CodeT.region (.p (opMove (.t rfl)) rfl <| .p (OpP.le (opLoadA Tryd.ag63 Tryd.cz63 rfl (.t rfl) rfl) (VLe.refl (aggV (encRM (growM rk x.At.1).1)))) rfl <| .p (opIndexAddrAW k Tryd.underlying64 Tryd.cz63 rfl (.t rfl) (.t rfl) rfl (by omega)) rfl <| .s (opStoreWA (i := 3) (r := 0) (growM rk x.At.1).1 rfl Tryd.cz63 rfl (.t rfl) (.t rfl) rfl rfl A.ek rfl rfl) <| .nil ?_)
                                refine EndT.blkN (EndT.meet ((growS Mk x.At.1).1, (growM rk x.At.1).1, C, m) (A.grew x.At.1) (by first | rfl | (simp only [hset0]; rfl) | (simp only [List.set_set]; rfl)) (.keep 50 rfl rfl))
                            ·
                              refine CodeT.seq ?_
                              refine CodeT.draw 5 1 Tryd.mixed (by kernel_rfl) (.p (opMove (.t rfl)) <| .p (opIndexAddrAW (k) Tryd.underlying60 Tryd.cz39 rfl (.t rfl) (.t rfl) rfl (by omega)) <| .p (opLoadW (i := 2) (r := 0) Tryd.ag39 (.t rfl) rfl A.lk rfl) <| .p (opField Tryd.fd66_5 (.t rfl)) <| .p (opLoad Tryd.ag3 (.t rfl)) <| .nil) (.n (opCallE (rest := [_, _, _, _]) (mcap_spec (mb := bk) (pb := g48.pb) (mm := Mk) (p := x.N.1)) Tryd.cb28 (.cons (.t rfl) (.cons (.t rfl) .nil)) (Perm.idx [0, 1, 2, 3, 4] rfl rfl)) rfl <| fun g115 h115 => .nil ?_)
                              refine EndT.thenN ?_
                              refine CodeT.seq ?_
                              refine CodeT.region (.p (opMove (.t rfl)) rfl <| .p (opIndexAddrAW k Tryd.underlying64 Tryd.cz63 rfl (.t rfl) (.t rfl) rfl (by omega)) rfl <| .p (opFieldO Tryd.fd63_1 (.t rfl)) rfl <| .s (opStoreW (i := 3) (r := 1) ({ rk with most := 5 } : RM) rfl Tryd.cz3 (.t rfl) (.c _) rfl A.ek rfl rfl) <| .nil ?_)
                              refine EndT.thenN ?_
                              refine CodeT.seq ?_
                              refine CodeT.region (.p (opField Tryd.fd66_5 (.t rfl)) rfl <| .p (opLoad Tryd.ag3 (.t rfl)) rfl <| .p (opGeq (.t rfl) (.c _)) rfl <| .nil ?_)
                              refine EndT.thenN ?_
                              refine CodeT.cond (.t rfl) (fun c20 => ?_) (fun c20 => ?_)
                              ·
                                have hcap : ({ rk with most := (min x.N.1 5).toNat } : RM) = capM rk x.N.1 := by unfold capM; rw [if_pos (by omega)]
                                have hmk5 := set_at (y := ({ rk with most := 5 } : RM)) A.ek
                                refine CodeT.region (.p (opMove (.t rfl)) rfl <| .p (opField Tryd.fd66_5 (.t rfl)) rfl <| .p (opLoad Tryd.ag3 (.t rfl)) rfl <| .p ((opMin (.t rfl) (.c _)).le (VLe.int (show _ = (((min x.N.1 5).toNat : Nat) : Int) by omega))) rfl <| .p (opIndexAddrAW k Tryd.underlying64 Tryd.cz63 rfl (.t rfl) (.t rfl) rfl (by omega)) rfl <| .p (opFieldO Tryd.fd63_1 (.t rfl)) rfl <| .s (opStoreW (i := 3) (r := 1) ({ rk with most := (min x.N.1 5).toNat } : RM) rfl Tryd.cz3 (.t rfl) (.t rfl) rfl hmk5 rfl rfl) <| .nil ?_)
                                refine EndT.blkN (EndT.meet (capS Mk x.N.1, ({ rk with most := (min x.N.1 5).toNat } : RM), C, m) (A.capped hcap) (by first | rfl | (simp only [hset0]; rfl) | (simp only [List.set_set]; rfl)) (.keep 31 rfl rfl))
                              ·
                                have hcap : ({ rk with most := 5 } : RM) = capM rk x.N.1 := by unfold capM; rw [if_neg (by omega)]
                                refine CodeT.skip (EndT.blkN (EndT.meet (capS Mk x.N.1, ({ rk with most := 5 } : RM), C, m) (A.capped hcap) (by first | rfl | (simp only [hset0]; rfl) | (simp only [List.set_set]; rfl)) (.keep 25 rfl rfl)))
                  ·
                    intro ⟨Mx, rx, Cx, mx⟩ hX
                    simp only at hX ⊢
                    have hmk2 := set_at (y := rx) A.ek
                    refine CodeT.seq ?_
                    refine CodeT.staged [(0, 0), (1, 0), (2, 1), (4, 0), (5, 0), (6, 0), (7, 1), (3, 4)] 8 1 Tryd.mixed (by kernel_rfl) (.p rfl (fun _ => opMove (.t rfl)) <| .p rfl (fun _ => opIndexAddrAW (k) Tryd.underlying60 Tryd.cz39 rfl (.t rfl) (.t rfl) rfl (by omega)) <| .o rfl (opLoadW (i := 2) (r := 0) Tryd.ag39 (.t rfl) rfl A.lk rfl) <| .p rfl (fun _ => opMove (.t rfl)) <| .p rfl (fun _ => opIndexAddrAW k Tryd.underlying64 Tryd.cz63 rfl (.t rfl) (.t rfl) rfl (by omega)) <| .p rfl (fun _ => opFieldO Tryd.fd63_0 (.t rfl)) <| .o rfl (opLoadW (i := 3) (r := 0) Tryd.ag3 (.t rfl) rfl hmk2 rfl) <| .a rfl ((opCallE (rest := [_, _, _, _]) (mpages_spec (mb := bk) (pb := g48.pb) (mm := Mx)) Tryd.cb24 (.cons (.t rfl) .nil) (Perm.idx [0, 1, 2, 3, 4] rfl rfl)).same (fun _ _ => OLe.refl _) (fun _ _ => VLe.refl _)) (fun _ _ => OLe.refl _) <| fun _ _ => .fin (.p (opNeq (.t rfl) (.t rfl)) rfl <| .nil ?_))
                    refine EndT.thenN ?_
                    refine CodeT.cond (.t rfl) (fun c21 => ?_) (fun c21 => ?_)
                    ·
                      exact (c21 (by have h9 := hX.sk.pages; omega)).elim
                    ·
                      refine CodeT.skip (EndT.blkN (EndT.thenN ?_))
                      obtain ⟨M0n, M1n, r0n, r1n, hIn, hsetn, hcl⟩ := A.back acts.length Mx rx Cx mx (by omega) hX.sk hX.sj (by have h9 := hX.few; omega) (by have h9 := hX.n; have h8 := A.nk; omega) hX.b
                      rw [hsetn]
                      refine CodeT.own (hcl _) ?_
                      refine CodeT.region (.p (opMove (.t rfl)) rfl <| .p (opAddF (.t rfl) (.c _) (fits_i64 (by omega) (by omega))) rfl <| .p (opAssign (.t rfl)) rfl <| .nil ?_)
                      refine EndT.round (i + 1, M0n, M1n, r0n, r1n, Cx, mx) hIn (by (show acts.length - (i + 1) < acts.length - i; omega)) rfl ?_
                      exact (.get rfl (VLe.int (by (show (i : Int) + 1 = ((i + 1 : Nat) : Int); omega))) ((.keep 38 rfl rfl)))
          ·
            refine CodeT.exit (EndT.thenX (EndT.thenX (EndT.blkX (EndT.thenN ?_))))
            refine CodeT.seq ?_
            refine CodeT.region (.p (opMove (.t rfl)) rfl <| .n ((opCallE (rest := [_, _, _]) (pfault_spec (X := g48) (z := 64) (q := 4096) (m := m) (T := fun _ => True) (C := C) (R := noR) (noR_ok _)) Tryd.cb34 (.cons (.t rfl) .nil) (Perm.idx [3, 0, 1, 2] rfl rfl)).same (fun _ _ => OLe.perm (Perm.idx [1, 2, 3, 0] rfl rfl)) (fun _ _ => VLe.refl _)) rfl <| fun _ _ => .p (opEql (.t rfl) (.c _)) rfl <| .p (opAssign (.t rfl)) rfl <| .nil ?_)
            refine EndT.thenN ?_
            refine CodeT.ret (Post.retP rfl rfl ?_)
            exact VLe.prop (by simp)

end Go.Proofs.YtiicgelmdmhajaaDoor
