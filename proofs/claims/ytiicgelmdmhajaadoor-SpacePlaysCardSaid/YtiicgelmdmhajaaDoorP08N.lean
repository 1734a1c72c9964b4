/-
  Walks, printed by a program (gen.py) out of what its author says of each function.
-/
import Derived.Test.YtiicgelmdmhajaaDoorP08S
import Derived.Test.YtiicgelmdmhajaaDoorP08E
namespace Go.Proofs.YtiicgelmdmhajaaDoor
open Go.Hl Go.RowKit
set_option linter.unusedVariables false
set_option maxRecDepth 100000

theorem mul64o_spec {c : Nat} (hp0 : c < 4294967296) : FnP Tryd.prog 94 [intV .u64 ((1 : Nat) : Int), intV .u64 ((c : Nat) : Int)] (tupV [intV .u64 ((0 : Nat) : Int), intV .u64 ((c : Nat) : Int)]) := by
  refine FnE.intro 51 Tryd.func94 rfl rfl rfl fun w0 S0 M => ?_
  refine CodeT.seq ?_
  refine CodeT.region (.p (opAssign (.c _)) rfl <| .p (opAssign (.c _)) rfl <| .nil ?_)
  refine EndT.thenN ?_
  refine CodeT.seq ?_
  refine CodeT.region (.p (opMove (.t rfl)) rfl <| .p ((opAnd32 (by omega) (.t rfl)).le (VLe.int (show _ = ((1 : Nat) : Int) from rfl))) rfl <| .p (opAssign (.t rfl)) rfl <| .nil ?_)
  refine EndT.thenN ?_
  refine CodeT.seq ?_
  refine CodeT.region (.p (opMove (.t rfl)) rfl <| .p ((opShr32 (by omega) (.t rfl)).le (VLe.int (show _ = ((0 : Nat) : Int) from rfl))) rfl <| .p (opAssign (.t rfl)) rfl <| .nil ?_)
  refine EndT.thenN ?_
  refine CodeT.seq ?_
  refine CodeT.region (.p (opMove (.t rfl)) rfl <| .p ((opAnd32 (by omega) (.t rfl)).le (VLe.int (show _ = ((c : Nat) : Int) by rw [Nat.mod_eq_of_lt hp0]))) rfl <| .p (opAssign (.t rfl)) rfl <| .nil ?_)
  refine EndT.thenN ?_
  refine CodeT.seq ?_
  refine CodeT.region (.p (opMove (.t rfl)) rfl <| .p ((opShr32 (by omega) (.t rfl)).le (VLe.int (show _ = ((0 : Nat) : Int) by rw [Nat.div_eq_of_lt hp0]))) rfl <| .p (opAssign (.t rfl)) rfl <| .nil ?_)
  refine EndT.thenN ?_
  refine CodeT.seq ?_
  refine CodeT.region (.p (opMove (.t rfl)) rfl <| .p (opMove (.t rfl)) rfl <| .p ((opMulF (.t rfl) (.t rfl) (fits_u64 (by omega) (by omega))).le (VLe.int (show _ = ((c : Nat) : Int) by omega))) rfl <| .p (opAssign (.t rfl)) rfl <| .nil ?_)
  refine EndT.thenN ?_
  refine CodeT.seq ?_
  refine CodeT.region (.p (opMove (.t rfl)) rfl <| .p (opMove (.t rfl)) rfl <| .p ((opMulF (.t rfl) (.t rfl) (fits_u64 (by omega) (by omega))).le (VLe.int (show _ = ((0 : Nat) : Int) by omega))) rfl <| .p (opMove (.t rfl)) rfl <| .p ((opShr32 (by omega) (.t rfl)).le (VLe.int (show _ = ((0 : Nat) : Int) by rw [Nat.div_eq_of_lt hp0]))) rfl <| .p ((opAddF (.t rfl) (.t rfl) (fits_u64 (by omega) (by omega))).le (VLe.int (show _ = ((0 : Nat) : Int) by omega))) rfl <| .p (opAssign (.t rfl)) rfl <| .nil ?_)
  refine EndT.thenN ?_
  refine CodeT.seq ?_
  refine CodeT.region (.p (opMove (.t rfl)) rfl <| .p ((opAnd32 (by omega) (.t rfl)).le (VLe.int (show _ = ((0 : Nat) : Int) from rfl))) rfl <| .p (opAssign (.t rfl)) rfl <| .nil ?_)
  refine EndT.thenN ?_
  refine CodeT.seq ?_
  refine CodeT.region (.p (opMove (.t rfl)) rfl <| .p ((opShr32 (by omega) (.t rfl)).le (VLe.int (show _ = ((0 : Nat) : Int) from rfl))) rfl <| .p (opAssign (.t rfl)) rfl <| .nil ?_)
  refine EndT.thenN ?_
  refine CodeT.seq ?_
  refine CodeT.region (.p (opMove (.t rfl)) rfl <| .p (opMove (.t rfl)) rfl <| .p (opMove (.t rfl)) rfl <| .p ((opMulF (.t rfl) (.t rfl) (fits_u64 (by omega) (by omega))).le (VLe.int (show _ = ((0 : Nat) : Int) by omega))) rfl <| .p ((opAddF (.t rfl) (.t rfl) (fits_u64 (by omega) (by omega))).le (VLe.int (show _ = ((0 : Nat) : Int) by omega))) rfl <| .p (opAssign (.t rfl)) rfl <| .nil ?_)
  refine EndT.thenN ?_
  refine CodeT.seq ?_
  refine CodeT.region (.p (opMove (.t rfl)) rfl <| .p (opMove (.t rfl)) rfl <| .p ((opMulF (.t rfl) (.t rfl) (fits_u64 (by omega) (by omega))).le (VLe.int (show _ = ((0 : Nat) : Int) by omega))) rfl <| .p (opMove (.t rfl)) rfl <| .p ((opAddF (.t rfl) (.t rfl) (fits_u64 (by omega) (by omega))).le (VLe.int (show _ = ((0 : Nat) : Int) by omega))) rfl <| .p (opMove (.t rfl)) rfl <| .p ((opShr32 (by omega) (.t rfl)).le (VLe.int (show _ = ((0 : Nat) : Int) from rfl))) rfl <| .p ((opAddF (.t rfl) (.t rfl) (fits_u64 (by omega) (by omega))).le (VLe.int (show _ = ((0 : Nat) : Int) by omega))) rfl <| .p (opAssign (.t rfl)) rfl <| .nil ?_)
  refine EndT.thenN ?_
  refine CodeT.seq ?_
  refine CodeT.region (.p (opMove (.t rfl)) rfl <| .p (opMove (.t rfl)) rfl <| .p ((opMulF (.t rfl) (.t rfl) (fits_u64 (by omega) (by omega))).le (VLe.int (show _ = ((c : Nat) : Int) by omega))) rfl <| .p (opAssign (.t rfl)) rfl <| .nil ?_)
  refine EndT.thenN ?_
  refine CodeT.ret (Post.retR rfl rfl () trivial (fun _ _ _ _ => trivial) rfl (.cons (.rt rfl) ?_ (.cons (.rt rfl) ?_ .nil)))
  · exact VLe.refl _
  · exact VLe.refl _

theorem mulo_spec {c : Nat} (hp0 : c < 4294967296) : FnP Tryd.prog 73 [intV .u64 ((1 : Nat) : Int), intV .u64 ((c : Nat) : Int)] (tupV [intV .u64 ((0 : Nat) : Int), intV .u64 ((c : Nat) : Int)]) := by
  refine FnE.intro 30 Tryd.func73 rfl rfl rfl fun w0 S0 M => ?_
  refine CodeT.seq ?_
  refine CodeT.region (.p (opAssign (.c _)) rfl <| .p (opAssign (.c _)) rfl <| .nil ?_)
  refine EndT.thenN ?_
  refine CodeT.seq ?_
  refine CodeT.cond .cf (fun c0 => ?_) (fun c0 => ?_)
  ·
    exact c0.elim
  ·
    refine CodeT.skip (EndT.thenN ?_)
    refine CodeT.seq ?_
    refine CodeT.region (.p (opMove (.t rfl)) rfl <| .p (opMove (.t rfl)) rfl <| .p (opCall (mul64o_spec hp0) Tryd.cb94 (.cons (.t rfl) (.cons (.t rfl) .nil))) rfl <| .p (opMove (.t rfl)) rfl <| .p (opExtract (.t rfl) rfl) rfl <| .p (opExtract (.t rfl) rfl) rfl <| .p (opAssign (.t rfl)) rfl <| .p (opAssign (.t rfl)) rfl <| .nil ?_)
    refine EndT.thenN ?_
    refine CodeT.seq ?_
    refine CodeT.region (.p (opMove (.t rfl)) rfl <| .p (opMove (.t rfl)) rfl <| .p (opAssign (.t rfl)) rfl <| .p (opAssign (.t rfl)) rfl <| .nil ?_)
    refine EndT.thenN ?_
    refine CodeT.ret (Post.retR rfl rfl () trivial (fun _ _ _ _ => trivial) rfl (.cons (.rt rfl) ?_ (.cons (.rt rfl) ?_ .nil)))
    · exact VLe.refl _
    · exact VLe.refl _

theorem repeatB_spec {v : UInt8} {c : Nat} (hp0 : c ≤ 1048576) : FnP Tryd.prog 54 [sliceV 1 encU8 [v], i64V (c : Int)] (sliceV 1 encU8 (List.replicate c v)) := by
  refine FnE.intro 77 Tryd.func54 rfl rfl rfl fun w0 S0 M => ?_
  refine CodeT.seq ?_
  refine CodeT.region (.p (opAssign (.c _)) rfl <| .nil ?_)
  refine EndT.thenN ?_
  refine CodeT.seq ?_
  refine CodeT.seq ?_
  refine CodeT.region (.p (opMove (.t rfl)) rfl <| .p (opEql (.t rfl) (.c _)) rfl <| .nil ?_)
  refine EndT.thenN ?_
  refine CodeT.cond (.t rfl) (fun c0 => ?_) (fun c0 => ?_)
  ·
    refine CodeT.seq ?_
    refine CodeT.region (.p (opBuildEmpty Tryd.underlying22 Tryd.cz5 rfl Tryd.zb5 rfl) rfl <| .p (opAssign (.t rfl)) rfl <| .nil ?_)
    refine EndT.thenN ?_
    refine CodeT.ret (EndT.thenR (Post.retP rfl rfl ?_))
    exact (emptyV_slice 1 encU8).trans (VLe.of_eq (by rw [show c = 0 by omega]; rfl))
  ·
    refine CodeT.skip (EndT.thenN ?_)
    refine CodeT.seq ?_
    refine CodeT.seq ?_
    refine CodeT.region (.p (opMove (.t rfl)) rfl <| .p (opLss (.t rfl) (.c _)) rfl <| .nil ?_)
    refine EndT.thenN ?_
    refine CodeT.cond (.t rfl) (fun c1 => ?_) (fun c1 => ?_)
    ·
      exfalso; omega
    ·
      refine CodeT.skip (EndT.thenN ?_)
      refine CodeT.seq ?_
      refine CodeT.region (.p (opMove (.t rfl)) rfl <| .p ((opLen rfl Tryd.underlying22 (.t rfl)).le (VLe.int (show _ = (1 : Int) from rfl))) rfl <| .p (opConvF Tryd.underlying3 Tryd.underlying142 (.t rfl) (fits_u64 (by omega) (by omega))) rfl <| .p (opMove (.t rfl)) rfl <| .p (opConvF Tryd.underlying3 Tryd.underlying142 (.t rfl) (fits_u64 (by omega) (by omega))) rfl <| .p (opCall (mulo_spec (c := c) (by omega)) Tryd.cb73 (.cons (.le (.t rfl) (VLe.int (show (1 : Int) = ((1 : Nat) : Int) from rfl))) (.cons (.t rfl) .nil))) rfl <| .p (opMove (.t rfl)) rfl <| .p (opExtract (.t rfl) rfl) rfl <| .p (opExtract (.t rfl) rfl) rfl <| .p (opAssign (.t rfl)) rfl <| .p (opAssign (.t rfl)) rfl <| .nil ?_)
      refine EndT.thenN ?_
      refine CodeT.seq ?_
      refine CodeT.seq ?_
      refine CodeT.region (.p (opMove (.t rfl)) rfl <| .p (opGtr (.t rfl) (.c _)) rfl <| .p (opMove (.t rfl)) rfl <| .g (OpG.gF rfl rfl rfl rfl (fun hg => opMove (.t rfl))) rfl rfl <| .g (OpG.gF rfl rfl rfl rfl (fun hg => opGtr (.when (.t rfl) hg) (.c _))) rfl rfl <| .p (opOr (.t rfl) (.t rfl)) rfl <| .nil ?_)
      refine EndT.thenN ?_
      refine CodeT.cond (.t rfl) (fun c2 => ?_) (fun c2 => ?_)
      ·
        exfalso; simp at c2; omega
      ·
        refine CodeT.skip (EndT.thenN ?_)
        refine CodeT.seq ?_
        refine CodeT.region (.p (opMove (.t rfl)) rfl <| .p (opConvF Tryd.underlying142 Tryd.underlying3 (.t rfl) (fits_i64 (by omega) (by omega))) rfl <| .p (opAssign (.t rfl)) rfl <| .nil ?_)
        refine EndT.thenN ?_
        refine CodeT.seq ?_
        refine CodeT.seq ?_
        refine CodeT.region (.p (opMove (.t rfl)) rfl <| .p ((opLen rfl Tryd.underlying22 (.t rfl)).le (VLe.int (show _ = (1 : Int) from rfl))) rfl <| .p (opEql (.t rfl) (.c _)) rfl <| .nil ?_)
        refine EndT.thenN ?_
        refine CodeT.cond (.t rfl) (fun c3 => ?_) (fun c3 => ?_)
        ·
          exact absurd c3 (by decide)
        ·
          refine CodeT.skip (EndT.thenN ?_)
          refine CodeT.seq ?_
          refine CodeT.region (.p (opMove (.t rfl)) rfl <| .p (opAssign (.t rfl)) rfl <| .nil ?_)
          refine EndT.thenN ?_
          refine CodeT.cut (σ := Nat) (fun _ => []) (fun cm => [(8, i64V (cm : Int))]) (fun cm => 0 < cm) ?_ ?_
          ·
            refine CodeT.seq ?_
            refine CodeT.region (.p (opMove (.t rfl)) rfl <| .p (opGtr (.t rfl) (.c _)) rfl <| .nil ?_)
            refine EndT.thenN ?_
            refine CodeT.cond (.t rfl) (fun c4 => ?_) (fun c4 => ?_)
            ·
              refine CodeT.seq ?_
              refine CodeT.region (.p (opMove (.t rfl)) rfl <| .p ((opLen rfl Tryd.underlying22 (.t rfl)).le (VLe.int (show _ = (1 : Int) from rfl))) rfl <| .p (opQuo (.c _) (.t rfl) (by omega) (by omega) (fits_i64 (by omega) (by omega))) rfl <| .p (opMove (.t rfl)) rfl <| .p ((opLen rfl Tryd.underlying22 (.t rfl)).le (VLe.int (show _ = (1 : Int) from rfl))) rfl <| .p ((opMulF (.t rfl) (.t rfl) (fits_i64 (by omega) (by omega))).le (VLe.int (show _ = (8192 : Int) from rfl))) rfl <| .p (opAssign (.t rfl)) rfl <| .nil ?_)
              refine EndT.thenN ?_
              refine CodeT.seq ?_
              refine CodeT.region (.p (opMove (.t rfl)) rfl <| .p (opEql (.t rfl) (.c _)) rfl <| .nil ?_)
              refine EndT.thenN ?_
              refine CodeT.cond (.t rfl) (fun c5 => ?_) (fun c5 => ?_)
              ·
                exact absurd c5 (by decide)
              ·
                refine CodeT.skip (EndT.meet 8192 (by decide) rfl (.get rfl (VLe.refl _) (.keep 11 rfl rfl)))
            ·
              refine CodeT.skip (EndT.meet c (by omega) rfl (.get rfl (VLe.refl _) (.keep 2 rfl rfl)))
          ·
            intro cm hcm
            refine CodeT.seq ?_
            refine CodeT.region (.p (opMove (.t rfl)) rfl <| .n (opMakeNoZ (ps := #[3]) (fun args w => Go.run_callFunc_extern Tryd.func74 (by kernel_rfl) (by kernel_rfl) (by kernel_rfl) (by kernel_rfl) args w) Tryd.underlying22 (.t rfl) rfl (by omega)) rfl <| fun g54 h54 => .p (opMove (.t rfl)) rfl <| .p (opMove (.t rfl)) rfl <| .p (opSlice3Raw Tryd.underlying22 Tryd.cz5 (.t rfl) (.t rfl) (.t rfl) rfl rfl (Nat.le_refl _) (by omega)) rfl <| .p (opAssign (.t rfl)) rfl <| .nil ?_)
            refine EndT.thenN ?_
            refine CodeT.seq ?_
            refine CodeT.region (.p (opMove (.t rfl)) rfl <| .p (opMove (.t rfl)) rfl <| .n (opCopySub (i := 0) rfl Tryd.underlying22 Tryd.cz5 (.t rfl) (.shared (.t rfl)) rfl (by simp; omega) (by omega)) rfl <| fun _ _ => .p (opAssign (.t rfl)) rfl <| .nil ?_)
            refine EndT.thenN ?_
            refine CodeT.seq ?_
            refine CodeT.block ?_
            refine CodeT.loopO (σ := List UInt8 × Nat) (fun g => [bufH g54.1 g.1]) (fun g => [(10, i64V (g.2 : Int))]) (fun g => RepI v c g54.2.length g.1 g.2) (fun g => c - g.2) (g54.2.take 0 ++ [v] ++ g54.2.drop (0 + [v].length), 1) (RepI.begin h54 (by omega)) rfl ?_ ?_
            · exact (.get rfl (VLe.refl _) (.refl _ _))
            · rintro ⟨l, bp⟩ hR
              simp only at hR ⊢
              have hr1 := hR.len; have hr2 := hR.pos; have hr3 := hR.le; have hr4 := hR.room
              refine CodeT.seq ?_
              refine CodeT.seq ?_
              refine CodeT.region (.p (opMove (.t rfl)) rfl <| .p (opMove (.t rfl)) rfl <| .p (opLss (.t rfl) (.t rfl)) rfl <| .nil ?_)
              refine EndT.thenN ?_
              refine CodeT.cond (.t rfl) (fun c6 => ?_) (fun c6 => ?_)
              ·
                have hst := hR.step (cm := cm) (by omega)
                refine CodeT.skip (EndT.thenN ?_)
                refine CodeT.block ?_
                refine CodeT.seq ?_
                refine CodeT.region (.p (opMove (.t rfl)) rfl <| .p (opMove (.t rfl)) rfl <| .p (opMin (.t rfl) (.t rfl)) rfl <| .p (opAssign (.t rfl)) rfl <| .nil ?_)
                refine EndT.thenN ?_
                refine CodeT.staged [(0, 0), (1, 0), (2, 0), (3, 0), (4, 0), (5, 0), (6, 0), (7, 2)] 8 2 Tryd.mixed (by kernel_rfl) (.p rfl (fun _ => opMove (.t rfl)) <| .p rfl (fun _ => opMove (.t rfl)) <| .p rfl (fun _ => opMove (.t rfl)) <| .p rfl (fun _ => opSliceSubLo  Tryd.underlying22 Tryd.cz5 (.t rfl) (.t rfl) rfl (by omega)) <| .p rfl (fun _ => opMove (.t rfl)) <| .p rfl (fun _ => opMove (.t rfl)) <| .p rfl (fun _ => opSliceSubHi (h := min bp cm) Tryd.underlying22 Tryd.cz5 (.t rfl) (.t rfl) (by omega) (by omega)) <| .e rfl (opCopySelf (i := 0) rfl Tryd.underlying22 Tryd.cz5 (.t rfl) (.t rfl) rfl (by simp; omega) (by omega)) <| fun _ _ => .fin (.p (opAddF (.t rfl) (.t rfl) (fits_i64 (by omega) (by omega))) rfl <| .p (opAssign (.t rfl)) rfl <| .nil ?_))
                refine EndT.blkN (EndT.round (l.take (0 + bp) ++ (l.drop 0).take (min (min bp cm) (c - bp)) ++ l.drop (0 + bp + min (min bp cm) (c - bp)), bp + min (min bp cm) (c - bp)) hst (by (show c - (bp + min (min bp cm) (c - bp)) < c - bp; omega)) rfl ?_)
                exact (.get rfl (VLe.int (by (show (bp : Int) + _ = ((bp + min (min bp cm) (c - bp) : Nat) : Int); omega))) ((.keep 18 rfl rfl)))
              ·
                have hdn := hR.done (by omega)
                refine CodeT.exit (EndT.thenX (EndT.thenX (EndT.blkX (EndT.thenN ?_))))
                refine CodeT.seq ?_
                refine CodeT.region (.p (opMove (.t rfl)) rfl <| .p (opAssign (.t rfl)) rfl <| .nil ?_)
                refine EndT.thenN ?_
                refine CodeT.shareB (t := 4) (i := 0) rfl rfl (by omega) ?_
                refine CodeT.ret (Post.retP rfl rfl ?_)
                exact VLe.of_eq (by rw [hdn])

theorem mfill_spec {mb : Nat} {mm : SpD} {X : PgI} {z q m : Nat} {T : PgD → Prop} {C : Cont} {R : ArD → HP} {a n : Nat} {v : UInt8} (hp0 : RestOk X R) (hp1 : 0 < z) (hp2 : z ≤ 1024) (hp3 : SpOk mm) (hp4 : a < 18446744073709551616) (hp5 : n < 18446744073709551616) (hp6 : n ≤ 1048576 → m + (n / z + 2) ≤ q) : FnE Tryd.prog 26 [addrV mb 0, intV .u64 (a : Int), intV .u8 (v.toNat : Int), intV .u64 (n : Int)] [spaceH mb X.pb mm, pagH X z q T C m R] (γ := Unit) (fun _ => True) (fun _ => [spaceH mb X.pb mm, pagH X z q (fun _ => True) (if fillS mm.pages a n = (0, 0) then wrC z C mm.num a (List.replicate n v) else C) (if fillS mm.pages a n = (0, 0) then m + (n / z + 2) else m) R]) (fun _ => tupV [i64V ((fillS mm.pages a n).1 : Int), i64V ((fillS mm.pages a n).2 : Int)]) := by
  refine FnE.intro 29 Tryd.func26 rfl rfl rfl fun w0 S0 M => ?_
  have hnum := hp3.num; have hmo := hp3.most; have hpm := hp3.pages
  refine CodeT.seq ?_
  refine CodeT.region (.p (opAssign (.c _)) rfl <| .p (opAssign (.c _)) rfl <| .nil ?_)
  refine EndT.thenN ?_
  refine CodeT.seq ?_
  refine CodeT.block ?_
  refine CodeT.seq ?_
  refine CodeT.region (.p (opMove (.t rfl)) rfl <| .p (opEqlNilO Tryd.underlying39 (.t rfl)) rfl <| .p (opAssign (.t rfl)) rfl <| .nil ?_)
  refine EndT.thenN ?_
  refine CodeT.cond (.t rfl) (fun c0 => ?_) (fun c0 => ?_)
  ·
    exact c0.elim
  ·
    refine CodeT.seq ?_
    refine CodeT.region (.p (opMove (.t rfl)) rfl <| .p (opMove (.t rfl)) rfl <| .p (opMove (.t rfl)) rfl <| .n ((opCallE (rest := [_]) (mbeyond_spec (mb := mb) (pb := X.pb) (mm := mm) (a := a) (n := n) (by omega) hp4 hp5) Tryd.cb53 (.cons (.t rfl) (.cons (.t rfl) (.cons (.t rfl) .nil))) (Perm.idx [0, 1] rfl rfl)).same (fun _ _ => OLe.refl _) (fun _ _ => VLe.refl _)) rfl <| fun _ _ => .p (opAssign (.t rfl)) rfl <| .nil ?_)
    refine EndT.thenN ?_
    refine CodeT.cond (.t rfl) (fun c1 => ?_) (fun c1 => ?_)
    ·
      have hb1 : beyondS mm.pages a n ↔ mm.pages * 65536 < a + n := Iff.rfl
      have hcs : fillS mm.pages a n = (4, 0) := by unfold fillS; rw [if_pos c1]
      refine CodeT.seq ?_
      refine CodeT.region (.p (opAssign (.c _)) rfl <| .p (opAssign (.c _)) rfl <| .nil ?_)
      refine EndT.thenN ?_
      refine CodeT.ret (EndT.blkR (EndT.thenR (Post.retR rfl rfl (()) (by trivial) (OLe.cons _ (OLe.trans (pag_any (T' := fun _ => True) fun _ _ => trivial) (OLe.headE (by rw [hcs]; rfl)))) rfl (.cons (.rt rfl) ?_ (.cons (.rt rfl) ?_ .nil)))))
      · exact VLe.int (by rw [hcs]; rfl)
      · exact VLe.int (by rw [hcs]; rfl)
    ·
      have hb1 : beyondS mm.pages a n ↔ mm.pages * 65536 < a + n := Iff.rfl
      refine CodeT.seq ?_
      refine CodeT.region (.p (opMove (.t rfl)) rfl <| .p (opGtr (.t rfl) (.c _)) rfl <| .p (opAssign (.t rfl)) rfl <| .nil ?_)
      refine EndT.thenN ?_
      refine CodeT.cond (.t rfl) (fun c2 => ?_) (fun c2 => ?_)
      ·
        have hcs : fillS mm.pages a n = (0, 15) := by unfold fillS; rw [if_neg c1, if_pos (by omega)]
        refine CodeT.seq ?_
        refine CodeT.region (.p (opAssign (.c _)) rfl <| .p (opAssign (.c _)) rfl <| .nil ?_)
        refine EndT.thenN ?_
        refine CodeT.ret (EndT.blkR (EndT.thenR (Post.retR rfl rfl (()) (by trivial) (OLe.cons _ (OLe.trans (pag_any (T' := fun _ => True) fun _ _ => trivial) (OLe.headE (by rw [hcs]; rfl)))) rfl (.cons (.rt rfl) ?_ (.cons (.rt rfl) ?_ .nil)))))
        · exact VLe.int (by rw [hcs]; rfl)
        · exact VLe.int (by rw [hcs]; rfl)
      ·
        have hcs : fillS mm.pages a n = (0, 0) := by unfold fillS; rw [if_neg c1, if_neg (by omega)]
        have hc1 := mt hb1.2 c1
        refine CodeT.skip (EndT.blkN (EndT.thenN ?_))
        refine CodeT.seq ?_
        refine CodeT.region (.p (opMove (.t rfl)) rfl <| .p (opMove (.t rfl)) rfl <| .p (opMove (.t rfl)) rfl <| .p (opBuildSlice (enc := encU8) [v] Tryd.underlying22 Tryd.cz5 rfl Tryd.zb5 rfl (.cons (.t rfl) .nil) rfl rfl rfl rfl rfl) rfl <| .p (opMove (.t rfl)) rfl <| .p (opConvF Tryd.underlying46 Tryd.underlying3 (.t rfl) (fits_i64 (by omega) (by omega))) rfl <| .p (opCall (repeatB_spec (v := v) (c := n) (by omega)) Tryd.cb54 (.cons (.t rfl) (.cons (.t rfl) .nil))) rfl <| .n (opCallE (rest := []) (mwrite_spec (mb := mb) (mm := mm) (X := X) (z := z) (q := q) (m := m) (T := T) (C := C) (R := R) (a := a) (ys := List.replicate n v) hp0 hp1 hp2 hnum (by rw [List.length_replicate]; omega) (by rw [List.length_replicate]; exact hp6 (by omega))) Tryd.cb50 (.cons (.t rfl) (.cons (.t rfl) (.cons (.t rfl) .nil))) (Perm.idx [0, 1] rfl rfl)) rfl <| fun g28 h28 => .p (opAssign (.c _)) rfl <| .p (opAssign (.t rfl)) rfl <| .nil ?_)
        refine EndT.thenN ?_
        refine CodeT.ret (Post.retR rfl rfl (()) (by trivial) (OLe.cons _ (OLe.headE (by rw [hcs, List.length_replicate]; rfl))) rfl (.cons (.rt rfl) ?_ (.cons (.rt rfl) ?_ .nil)))
        · exact VLe.int (by rw [hcs]; rfl)
        · exact VLe.int (by rw [hcs]; rfl)

end Go.Proofs.YtiicgelmdmhajaaDoor
