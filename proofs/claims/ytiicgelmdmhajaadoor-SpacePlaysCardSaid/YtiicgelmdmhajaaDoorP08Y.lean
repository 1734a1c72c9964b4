/-
  Walks, printed by a program (gen.py) out of what its author says of each function.
-/
import Derived.Test.YtiicgelmdmhajaaDoorP08X
namespace Go.Proofs.YtiicgelmdmhajaaDoor
open Go.Hl Go.RowKit
set_option linter.unusedVariables false
set_option maxRecDepth 100000

theorem mread_spec {mb : Nat} {mm : SpD} {X : PgI} {z q m : Nat} {T : PgD → Prop} {C : Cont} {R : ArD → HP} {a n : Nat} (hp0 : RestOk X R) (hp1 : 0 < z) (hp2 : z ≤ 1024) (hp3 : 0 ≤ mm.num) (hp4 : a + n ≤ 4611686018427387904) (hp5 : n ≤ 1048576) : FnE Tryd.prog 52 [addrV mb 0, intV .u64 (a : Int), i64V (n : Int)] [spaceH mb X.pb mm, pagH X z q T C m R] (γ := Unit) (fun _ => True) (fun _ => [spaceH mb X.pb mm, pagH X z q (fun _ => True) C m R]) (fun _ => tupV [sliceV 1 encU8 (memR z C mm.num a n), i64V 0]) := by
  refine FnE.introM 44 Tryd.func52 rfl rfl rfl fun w0 S0 M => ?_
  have hz := hp1
  obtain ⟨N, hN, hlt⟩ := parts_end (at_ := a) (n := n) hp1
  refine CodeT.seq ?_
  refine CodeT.region (.p (opBox (.t rfl)) rfl <| .n (opAlloc Tryd.zb22) rfl <| fun b6 _ => .n (opAlloc Tryd.zb25) rfl <| fun b7 _ => .nil ?_)
  refine EndT.thenN ?_
  refine CodeT.seq ?_
  refine CodeT.region (.p (opMove (.t rfl)) rfl <| .n (opMakeCap (enc := encU8) Tryd.underlying22 Tryd.cz5 Tryd.by5 Tryd.zb5 (.t rfl) rfl (by omega)) rfl <| fun g13 _ => .n (opAlloc Tryd.zb22) rfl <| fun b8 _ => .s (opStoreO (i := 0) Tryd.cz22 (.t rfl) (.t rfl) rfl rfl) <| .nil ?_)
  refine EndT.thenN ?_
  refine CodeT.seq ?_
  refine CodeT.seq ?_
  refine CodeT.region (.p (opLoad Tryd.ag39 (.t rfl)) rfl <| .p (opMove (.t rfl)) rfl <| .p (opMove (.t rfl)) rfl <| .n ((opCallE (rest := [_, _, _, _]) (mparts_spec (mb := mb) (mm := mm) (X := X) (z := z) (q := q) (m := m) (T := T) (C := C) (R := R) (a := a) (n := n) hp0 hp2) Tryd.cb72 (.cons (.t rfl) (.cons (.t rfl) (.cons (.t rfl) .nil))) (Perm.idx [4, 5, 0, 1, 2, 3] rfl rfl)).same (fun _ _ => OLe.perm (Perm.idx [2, 3, 4, 5, 0, 1] rfl rfl)) (fun _ _ => VLe.refl _)) rfl <| fun _ _ => .nil ?_)
  refine EndT.thenN ?_
  refine CodeT.block ?_
  refine CodeT.lenG 5 rfl fun hlC => ?_
  refine CodeT.own (OLe.trans (out_close (xs := [])) (OLe.cons _ (OLe.cons _ (OLe.cons _ (OLe.cons _ (pag_any (T' := fun _ => True) fun _ _ => trivial)))))) ?_
  refine CodeT.rangeF N (fun j => [outH b8 (memR z C mm.num a (dnK z a n j)), cellsH b7 [i64V 0], cellsH b6 [exactV (.slice none 0 0)], spaceH mb X.pb mm, pagH X z q (fun _ => True) C m R]) (fun j => [aggV [i64V (((a + dnK z a n j) / z : Nat) : Int), i64V (((a + dnK z a n j) % z : Nat) : Int), i64V (stepK z a n (dnK z a n j) : Int), i64V (dnK z a n j : Int)]]) rfl rfl rfl Tryd.cb92 (.t rfl) rfl (by decide) (fun _ _ => rfl) (fun l D r hY => mparts1_spec (z := z) (a := a) (n := n) (N := N) (J := fun j => recH l D .ready r _ :: (fun j => [outH b8 (memR z C mm.num a (dnK z a n j)), cellsH b7 [i64V 0], cellsH b6 [exactV (.slice none 0 0)], spaceH mb X.pb mm, pagH X z q (fun _ => True) C m R]) j) hp1 hp2 hp4 hN hlt hY) (fun l D fn tmps j hj w0 S0 M => ?_) (fun D => ?_)
  ·
    have hdl := dnK_le z a n j
    have hst : dnK z a n j + stepK z a n (dnK z a n j) ≤ n := dnK_le z a n (j + 1)
    have hml := memR_len z C mm.num a (dnK z a n j)
    have hml2 := memR_len z C mm.num ((a + dnK z a n j)) (stepK z a n (dnK z a n j))
    have hfit := stepK_fit (at_ := a) (n := n) (d := dnK z a n j) hz
    have hwg : wrongG z (mm.num, (((a + dnK z a n j) / z : Nat) : Int)) (((a + dnK z a n j) % z : Nat) : Int) ((stepK z a n (dnK z a n j) : Nat) : Int) = 0 := wrongG_part hp3 hz hfit
    refine CodeT.own (OLe.perm (Perm.idx [1, 0, 2, 3, 4, 5] rfl rfl)) ?_
    refine CodeT.openOut fun sb => ?_
    refine CodeT.region (.n (opAlloc Tryd.zb141) rfl <| fun b9 _ => .s (opStoreOA (i := 0) Tryd.cz141 rfl (.t rfl) (.t rfl) rfl rfl rfl) <| .nil ?_)
    refine EndT.share (t := 9) (i := 0) rfl rfl (EndT.own (OLe.perm (Perm.idx [2, 0, 1, 3, 4, 5, 6] rfl rfl)) (EndT.begin ?_))
    refine CodeT.block ?_
    refine CodeT.seq ?_
    refine CodeT.staged [(0, 0), (1, 0), (2, 0), (3, 1), (4, 0), (5, 0), (6, 0), (7, 1), (8, 0), (9, 0), (10, 0), (11, 0), (12, 0), (13, 0), (14, 2), (15, 0), (16, 0), (17, 0), (18, 0)] 19 1 Tryd.mixed (by kernel_rfl) (.p rfl (fun _ => opLoad Tryd.ag39 (.t rfl)) <| .p rfl (fun _ => opNilChkO (.t rfl)) <| .p rfl (fun _ => opFieldO Tryd.fd110_0 (.t rfl)) <| .o rfl (opLoadO (i := 5) Tryd.ag31 (.t rfl) rfl rfl) <| .p rfl (fun _ => opLoad Tryd.ag39 (.t rfl)) <| .p rfl (fun _ => opNilChkO (.t rfl)) <| .p rfl (fun _ => opFieldO Tryd.fd110_1 (.t rfl)) <| .o rfl (opLoadO (i := 5) Tryd.ag3 (.t rfl) rfl rfl) <| .p rfl (fun _ => opField Tryd.fd141_0 (.t rfl)) <| .p rfl (fun _ => opLoad Tryd.ag3 (.t rfl)) <| .p rfl (fun _ => opField Tryd.fd141_1 (.t rfl)) <| .p rfl (fun _ => opLoad Tryd.ag3 (.t rfl)) <| .p rfl (fun _ => opField Tryd.fd141_2 (.t rfl)) <| .p rfl (fun _ => opLoad Tryd.ag3 (.t rfl)) <| .e rfl (opCallE (rest := [_, _, _, _, _, _]) (pread_spec (X := X) (z := z) (q := q) (m := m) (T := fun _ => True) (C := C) (R := R) (mem := mm.num) (page := (((a + dnK z a n j) / z : Nat) : Int)) (at_ := (((a + dnK z a n j) % z : Nat) : Int)) (n := ((stepK z a n (dnK z a n j) : Nat) : Int)) hp0) Tryd.cb35 (.cons (.t rfl) (.cons (.t rfl) (.cons (.t rfl) (.cons (.t rfl) (.cons (.t rfl) .nil))))) (Perm.idx [6, 0, 1, 2, 3, 4, 5] rfl rfl)) <| fun g34 h34 => .p rfl (fun _ => opMove (.t rfl)) <| .p rfl (fun _ => opExtract (.t rfl) rfl) <| .p rfl (fun _ => opExtract (.t rfl) rfl) <| .p rfl (fun _ => opAssign (.t rfl)) <| .fin (.p (opAssign (.t rfl)) rfl <| .nil ?_))
    refine EndT.thenN ?_
    refine CodeT.seq ?_
    refine CodeT.seq ?_
    refine CodeT.region (.p (opMove (.t rfl)) rfl <| .p (opNeq (.t rfl) (.c _)) rfl <| .nil ?_)
    refine EndT.thenN ?_
    refine CodeT.cond (.t rfl) (fun c0 => ?_) (fun c0 => ?_)
    ·
      exact (c0 (congrArg Int.ofNat hwg)).elim
    ·
      refine CodeT.skip (EndT.thenN ?_)
      refine CodeT.region (.p (opLoadO (i := 2) Tryd.ag22 (.t rfl) rfl rfl) rfl <| .p (opMove (.t rfl)) rfl <| .n (opAppend (i := 3) (xs := memR z C mm.num a (dnK z a n j)) (ys := readG z C (mm.num, (((a + dnK z a n j) / z : Nat) : Int)) (((a + dnK z a n j) % z : Nat) : Int) ((stepK z a n (dnK z a n j) : Nat) : Int)) Tryd.underlying22 Tryd.underlying22 Tryd.cz5 rfl Tryd.zb5 rfl Tryd.by5 (.t rfl) (.t rfl) rfl (by rw [read_part hp3 hz hlC hfit]; omega) (by rw [read_part hp3 hz hlC hfit]; omega)) rfl <| fun g42 _ => .s (opStoreO (i := 2) Tryd.cz22 (.t rfl) (.t rfl) rfl rfl) <| .nil ?_)
      refine EndT.blkN (EndT.own (OLe.perm (Perm.idx [2, 3, 1, 4, 5, 6, 0] rfl rfl)) (EndT.own (OLe.trans (out_close (xs := memR z C mm.num a (dnK z a n j) ++ readG z C (mm.num, (((a + dnK z a n j) / z : Nat) : Int)) (((a + dnK z a n j) % z : Nat) : Int) ((stepK z a n (dnK z a n j) : Nat) : Int))) (OLe.trans (OLe.headE (show outH b8 _ = outH b8 (memR z C mm.num a (dnK z a n (j + 1))) by rw [read_part hp3 hz hlC hfit, ← memR_add]; rfl)) (OLe.perm (Perm.idx [1, 0, 2, 3, 4, 5] rfl rfl)))) (EndT.endRound)))
  ·
    refine EndT.blkN (EndT.thenN ?_)
    refine CodeT.seq ?_
    refine CodeT.own (OLe.perm (Perm.idx [1, 0, 2, 3, 4, 5] rfl rfl)) ?_
    refine CodeT.openOut fun sb => ?_
    refine CodeT.region (.p (opLoadO (i := 0) Tryd.ag22 (.t rfl) rfl rfl) rfl <| .s (opStoreO (i := 4) Tryd.cz22 (.t rfl) (.t rfl) rfl rfl) <| .s (opStoreO (i := 3) Tryd.cz25 (.t rfl) (.c _) rfl rfl) <| .nil ?_)
    refine EndT.thenN ?_
    refine CodeT.shareIn (i := 1) (j := 3) (f := 0) rfl rfl rfl ?_
    refine CodeT.ret (EndT.own (OLe.perm (Perm.idx [1, 0, 2, 3, 4, 5] rfl rfl)) (PostM.retR rfl rfl (()) (by trivial) (OLe.sel [3, 4] [0, 1, 2] rfl rfl) rfl (.cons (.rc (i := 2) Tryd.ag22 rfl rfl rfl) ?_ (.cons (.rc (i := 1) Tryd.ag25 rfl rfl rfl) ?_ .nil))))
    · exact VLe.of_eq (by rw [hN])
    · exact VLe.refl _

end Go.Proofs.YtiicgelmdmhajaaDoor
