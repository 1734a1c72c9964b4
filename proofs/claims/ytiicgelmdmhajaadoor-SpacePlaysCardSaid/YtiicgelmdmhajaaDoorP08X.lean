/-
  Walks, printed by a program (gen.py) out of what its author says of each function.
-/
import Derived.Test.YtiicgelmdmhajaaDoorP08W
namespace Go.Proofs.YtiicgelmdmhajaaDoor
open Go.Hl Go.RowKit
set_option linter.unusedVariables false
set_option maxRecDepth 100000

theorem mwrite_spec {mb : Nat} {mm : SpD} {X : PgI} {z q m : Nat} {T : PgD → Prop} {C : Cont} {R : ArD → HP} {a : Nat} {ys : List UInt8} (hp0 : RestOk X R) (hp1 : 0 < z) (hp2 : z ≤ 1024) (hp3 : 0 ≤ mm.num) (hp4 : a + ys.length ≤ 4611686018427387904) (hp5 : m + (ys.length / z + 2) ≤ q) : FnE Tryd.prog 50 [addrV mb 0, intV .u64 (a : Int), sliceV 1 encU8 ys] [spaceH mb X.pb mm, pagH X z q T C m R] (γ := Unit) (fun _ => True) (fun _ => [spaceH mb X.pb mm, pagH X z q (fun _ => True) (wrC z C mm.num a ys) (m + (ys.length / z + 2)) R]) (fun _ => i64V 0) := by
  refine FnE.introM 40 Tryd.func50 rfl rfl rfl fun w0 S0 M => ?_
  have hz := hp1
  obtain ⟨N, hN, hlt⟩ := parts_end (at_ := a) (n := ys.length) hp1
  have hfew := parts_few hp1 hlt
  refine CodeT.seq ?_
  refine CodeT.region (.p (opBox (.t rfl)) rfl <| .p (opBox (.t rfl)) rfl <| .n (opAlloc Tryd.zb25) rfl <| fun b6 _ => .nil ?_)
  refine EndT.thenN ?_
  refine CodeT.seq ?_
  refine CodeT.seq ?_
  refine CodeT.region (.p (opLoad Tryd.ag39 (.t rfl)) rfl <| .p (opMove (.t rfl)) rfl <| .p (opLoad Tryd.ag22 (.t rfl)) rfl <| .p (opLen rfl Tryd.underlying22 (.t rfl)) rfl <| .n ((opCallE (rest := [_]) (mparts_spec (mb := mb) (mm := mm) (X := X) (z := z) (q := q) (m := m) (T := T) (C := C) (R := R) (a := a) (n := ys.length) hp0 hp2) Tryd.cb72 (.cons (.t rfl) (.cons (.t rfl) (.cons (.t rfl) .nil))) (Perm.idx [1, 2, 0] rfl rfl)).same (fun _ _ => OLe.perm (Perm.idx [2, 0, 1] rfl rfl)) (fun _ _ => VLe.refl _)) rfl <| fun _ _ => .nil ?_)
  refine EndT.thenN ?_
  refine CodeT.block ?_
  refine CodeT.lenG 2 rfl fun hlC => ?_
  refine CodeT.own (OLe.cons _ (OLe.cons _ (OLe.trans (pag_any (T' := fun _ => True) fun _ _ => trivial) (OLe.headE (show pagH X z q (fun _ => True) C m R = pagH X z q (fun _ => True) (wrC z C mm.num a (ys.take (dnK z a ys.length 0))) (m + 0) R by rw [show dnK z a ys.length 0 = 0 from rfl, List.take_zero, wrC_nil hlC]; rfl))))) ?_
  refine CodeT.rangeF N (fun j => [cellsH b6 [i64V 0], spaceH mb X.pb mm, pagH X z q (fun _ => True) (wrC z C mm.num a (ys.take (dnK z a ys.length j))) (m + j) R]) (fun j => [aggV [i64V (((a + dnK z a ys.length j) / z : Nat) : Int), i64V (((a + dnK z a ys.length j) % z : Nat) : Int), i64V (stepK z a ys.length (dnK z a ys.length j) : Int), i64V (dnK z a ys.length j : Int)]]) rfl rfl rfl Tryd.cb92 (.t rfl) rfl (by decide) (fun _ _ => rfl) (fun l D r hY => mparts1_spec (z := z) (a := a) (n := ys.length) (N := N) (J := fun j => recH l D .ready r _ :: [cellsH b6 [i64V 0], spaceH mb X.pb mm, pagH X z q (fun _ => True) (wrC z C mm.num a (ys.take (dnK z a ys.length j))) (m + j) R]) hp1 hp2 hp4 hN hlt hY) (fun l D fn tmps j hj w0 S0 M => ?_) (fun D => ?_)
  ·
    have hdl := dnK_le z a ys.length j
    have hdm := Nat.mod_lt (a + dnK z a ys.length j) hz
    have hdq := Nat.div_le_self (a + dnK z a ys.length j) z
    have hq0 : (0 : Int) ≤ (((a + dnK z a ys.length j) / z : Nat) : Int) := Int.natCast_nonneg _
    have hst : dnK z a ys.length j + stepK z a ys.length (dnK z a ys.length j) ≤ ys.length := dnK_le z a ys.length (j + 1)
    have hyl : ((ys.drop (dnK z a ys.length j)).take (stepK z a ys.length (dnK z a ys.length j))).length = stepK z a ys.length (dnK z a ys.length j) := by (simp; omega)
    have hfit := stepK_fit (at_ := a) (n := ys.length) (d := dnK z a ys.length j) hz
    have hwg : wrongG z (mm.num, (((a + dnK z a ys.length j) / z : Nat) : Int)) (((a + dnK z a ys.length j) % z : Nat) : Int) (((ys.drop (dnK z a ys.length j)).take (stepK z a ys.length (dnK z a ys.length j))).length : Int) = 0 := by (rw [hyl]; exact wrongG_part hp3 hz hfit)
    refine CodeT.region (.n (opAlloc Tryd.zb141) rfl <| fun b7 _ => .s (opStoreOA (i := 0) Tryd.cz141 rfl (.t rfl) (.t rfl) rfl rfl rfl) <| .nil ?_)
    refine EndT.share (t := 7) (i := 0) rfl rfl (EndT.begin ?_)
    refine CodeT.block ?_
    refine CodeT.seq ?_
    refine CodeT.draw 21 2 Tryd.mixed (by kernel_rfl) (.p (opLoad Tryd.ag39 (.t rfl)) <| .p (opNilChkO (.t rfl)) <| .p (opFieldO Tryd.fd110_0 (.t rfl)) <| .p (opLoadO (i := 2) Tryd.ag31 (.t rfl) rfl rfl) <| .p (opLoad Tryd.ag39 (.t rfl)) <| .p (opNilChkO (.t rfl)) <| .p (opFieldO Tryd.fd110_1 (.t rfl)) <| .p (opLoadO (i := 2) Tryd.ag3 (.t rfl) rfl rfl) <| .p (opField Tryd.fd141_0 (.t rfl)) <| .p (opLoad Tryd.ag3 (.t rfl)) <| .p (opField Tryd.fd141_1 (.t rfl)) <| .p (opLoad Tryd.ag3 (.t rfl)) <| .p (opLoad Tryd.ag22 (.t rfl)) <| .p (opField Tryd.fd141_3 (.t rfl)) <| .p (opLoad Tryd.ag3 (.t rfl)) <| .p (opField Tryd.fd141_3 (.t rfl)) <| .p (opLoad Tryd.ag3 (.t rfl)) <| .p (opField Tryd.fd141_2 (.t rfl)) <| .p (opLoad Tryd.ag3 (.t rfl)) <| .p (opAddF (.t rfl) (.t rfl) (fits_i64 (by omega) (by omega))) <| .p (opSliceLH (l := dnK z a ys.length j) (h := dnK z a ys.length j + stepK z a ys.length (dnK z a ys.length j)) Tryd.underlying22 Tryd.cz5 rfl (.t rfl) (.t rfl) (.t rfl) rfl (by omega) (by omega) (by omega)) <| .nil) (.n (opCallE (rest := [_, _, _]) (pwrite_spec (X := X) (z := z) (q := q) (m := m + j) (T := fun _ => True) (C := wrC z C mm.num a (ys.take (dnK z a ys.length j))) (R := R) (mem := mm.num) (page := (((a + dnK z a ys.length j) / z : Nat) : Int)) (at_ := (((a + dnK z a ys.length j) % z : Nat) : Int)) (ys := (ys.drop (dnK z a ys.length j)).take (stepK z a ys.length (dnK z a ys.length j))) (by omega) (by omega) hp0) Tryd.cb15 (.cons (.t rfl) (.cons (.t rfl) (.cons (.t rfl) (.cons (.t rfl) (.cons (.le (.t rfl) (VLe.of_eq (by rw [List.drop_take, Nat.add_sub_cancel_left]))) .nil))))) (Perm.idx [3, 0, 1, 2] rfl rfl)) rfl <| fun g36 h36 => .p (opAssign (.t rfl)) rfl <| .nil ?_)
    refine EndT.thenN ?_
    refine CodeT.seq ?_
    refine CodeT.region (.p (opMove (.t rfl)) rfl <| .p (opNeq (.t rfl) (.c _)) rfl <| .nil ?_)
    refine EndT.thenN ?_
    refine CodeT.cond (.t rfl) (fun c0 => ?_) (fun c0 => ?_)
    ·
      exact (c0 (congrArg Int.ofNat hwg)).elim
    ·
      refine CodeT.skip (EndT.blkN (EndT.own (OLe.perm (Perm.idx [1, 2, 3, 0] rfl rfl)) (EndT.own (OLe.cons _ (OLe.cons _ (OLe.cons _ (OLe.headE (show pagH X z q (fun _ => True) (writeG z (wrC z C mm.num a (ys.take (dnK z a ys.length j))) (mm.num, (((a + dnK z a ys.length j) / z : Nat) : Int)) (((a + dnK z a ys.length j) % z : Nat) : Int) ((ys.drop (dnK z a ys.length j)).take (stepK z a ys.length (dnK z a ys.length j)))) (m + j + 1) R = pagH X z q (fun _ => True) (wrC z C mm.num a (ys.take (dnK z a ys.length (j + 1)))) (m + (j + 1)) R by rw [write_part hp3 hz hlC hfit hst]; rfl))))) (EndT.endRound))))
  ·
    refine EndT.blkN (EndT.thenN ?_)
    refine CodeT.seq ?_
    refine CodeT.region (.s (opStoreO (i := 1) Tryd.cz25 (.t rfl) (.c _) rfl rfl) <| .nil ?_)
    refine EndT.thenN ?_
    refine CodeT.ret (PostM.retR1 rfl (()) (by trivial) (OLe.trans (OLe.sel [1, 2] [0] rfl rfl) (OLe.cons _ (OLe.trans (pag_less (show m + N ≤ m + (ys.length / z + 2) by omega)) (OLe.headE (by rw [hN, List.take_length]))))) (.rc (i := 0) Tryd.ag25 rfl rfl rfl) ?_)
    exact VLe.refl _

end Go.Proofs.YtiicgelmdmhajaaDoor
