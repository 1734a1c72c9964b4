/-
  Walks, printed by a program (gen.py) out of what its author says of each function.
-/
import Derived.Test.YtiicgelmdmhajaaDoorP08V
namespace Go.Proofs.YtiicgelmdmhajaaDoor
open Go.Hl Go.RowKit
set_option linter.unusedVariables false
set_option maxRecDepth 100000

theorem psizeg_spec {X : PgI} {z q m : Nat} {T : PgD → Prop} {C : Cont} {R : ArD → HP} (hp0 : RestOk X R) : FnE Tryd.prog 63 [addrV X.pb 0] [pagH X z q T C m R] (γ := Unit) (fun _ => True) (fun _ => [pagH X z q T C m R]) (fun _ => i64V (z : Int)) := by
  refine FnE.intro 10 Tryd.func63 rfl rfl rfl fun w0 S0 M => ?_
  refine CodeT.openG fun p a s hG => ?_
  obtain ⟨D, hDm, hDk, hI⟩ := hG.ex
  have hsz := hI.ok.st.size
  have hgz := hG.sz
  have hRR := hp0
  refine CodeT.seq ?_
  refine CodeT.region (.p (opAssign (.c _)) rfl <| .nil ?_)
  refine EndT.thenN ?_
  refine CodeT.seq ?_
  refine CodeT.seq ?_
  refine CodeT.region (.p (opMove (.t rfl)) rfl <| .p (opEqlNilO Tryd.underlying31 (.t rfl)) rfl <| .nil ?_)
  refine EndT.thenN ?_
  refine CodeT.cond (.t rfl) (fun c0 => ?_) (fun c0 => ?_)
  ·
    exact c0.elim
  ·
    refine CodeT.skip (EndT.thenN ?_)
    refine CodeT.seq ?_
    refine CodeT.region (.p (opMove (.t rfl)) rfl <| .p (opNilChkO (.t rfl)) rfl <| .p (opFieldO Tryd.fd96_1 (.t rfl)) rfl <| .p (opLoadO (i := 0) Tryd.ag28 (.t rfl) rfl rfl) rfl <| .n ((opCallE (rest := [_, _, _, _, _, _, _, _, _]) (ssize_spec) Tryd.cb39 (.cons (.t rfl) .nil) (Perm.idx [4, 0, 1, 2, 3, 5, 6, 7, 8, 9] rfl rfl)).same (fun _ _ => OLe.perm (Perm.idx [1, 2, 3, 4, 0, 5, 6, 7, 8, 9] rfl rfl)) (fun _ _ => VLe.refl _)) rfl <| fun _ _ => .p (opAssign (.t rfl)) rfl <| .nil ?_)
    refine EndT.thenN ?_
    refine CodeT.ret (Post.retR1 rfl (()) (by trivial) (pag_close (p := p) (a0 := a) (a := a) (s := s) (r := []) hRR hI.ok.ar (SameOut.refl _ _) ⟨⟨D, hDm, hDk, hI⟩, hG.sz, hG.cp, hG.cln⟩) (.rt rfl) ?_)
    exact VLe.int (by rw [hG.sz])

theorem mparts_spec {mb : Nat} {mm : SpD} {X : PgI} {z q m : Nat} {T : PgD → Prop} {C : Cont} {R : ArD → HP} {a n : Nat} (hp0 : RestOk X R) (hp1 : z ≤ 1024) : FnE Tryd.prog 72 [addrV mb 0, intV .u64 (a : Int), i64V (n : Int)] [spaceH mb X.pb mm, pagH X z q T C m R] (γ := Unit) (fun _ => True) (fun _ => [spaceH mb X.pb mm, pagH X z q T C m R]) (fun _ => closV 92 [ptrV [i64V (n : Int)], ptrV [intV .u64 (a : Int)], ptrV [intV .u64 (z : Int)]]) := by
  refine FnE.intro 15 Tryd.func72 rfl rfl rfl fun w0 S0 M => ?_
  refine CodeT.seq ?_
  refine CodeT.region (.p (opBox (.t rfl)) rfl <| .p (opBox (.t rfl)) rfl <| .p (opAssign (.c _)) rfl <| .nil ?_)
  refine EndT.thenN ?_
  refine CodeT.seq ?_
  refine CodeT.region (.p (opMove (.t rfl)) rfl <| .p (opNilChkO (.t rfl)) rfl <| .p (opFieldO Tryd.fd110_0 (.t rfl)) rfl <| .p (opLoadO (i := 0) Tryd.ag31 (.t rfl) rfl rfl) rfl <| .n ((opCallE (rest := [_]) (psizeg_spec (by assumption)) Tryd.cb63 (.cons (.t rfl) .nil) (Perm.idx [1, 0] rfl rfl)).same (fun _ _ => OLe.perm (Perm.idx [1, 0] rfl rfl)) (fun _ _ => VLe.refl _)) rfl <| fun _ _ => .p (opConvF Tryd.underlying3 Tryd.underlying46 (.t rfl) (fits_u64 (by omega) (by omega))) rfl <| .n (opAlloc Tryd.zb46) rfl <| fun b7 _ => .s (opStoreO (i := 0) Tryd.cz46 (.t rfl) (.t rfl) rfl rfl) <| .nil ?_)
  refine EndT.thenN ?_
  refine CodeT.share (t := 7) (i := 0) rfl rfl ?_
  refine CodeT.seq ?_
  refine CodeT.region (.p (opMakeClos (.cons (.t rfl) (.cons (.t rfl) (.cons (.t rfl) .nil)))) rfl <| .p (opAssign (.t rfl)) rfl <| .nil ?_)
  refine EndT.thenN ?_
  refine CodeT.ret (Post.retR1 rfl (()) (by trivial) (fun _ _ _ h => h) (.rt rfl) ?_)
  first | exact VLe.refl _ | exact VLe.int (by omega) | exact VLe.prop (by omega) | exact VLe.prop (by simp_all) | exact VLe.prop (by simp; omega)

theorem mparts1_spec {l z a n N : Nat} {J : Nat → List HP} (hp0 : 0 < z) (hp1 : z ≤ 1024) (hp2 : a + n ≤ 4611686018427387904) (hp3 : dnK z a n N = n) (hp4 : ∀ j, j < N → dnK z a n j < n) (hp5 : ∀ j, j < N → YldE Tryd.prog l [aggV [i64V (((a + dnK z a n j) / z : Nat) : Int), i64V (((a + dnK z a n j) % z : Nat) : Int), i64V (stepK z a n (dnK z a n j) : Int), i64V (dnK z a n j : Int)]] (J j) (J (j + 1))) : FnE Tryd.prog 92 [yV l, ptrV [i64V (n : Int)], ptrV [intV .u64 (a : Int)], ptrV [intV .u64 (z : Int)]] (J 0) (γ := Unit) (fun _ => True) (fun _ => J N) (fun _ => tupV []) := by
  refine FnE.intro 42 Tryd.func92 rfl rfl rfl fun w0 S0 M => ?_
  refine CodeT.seq ?_
  refine CodeT.region (.p (opAssign (.c _)) rfl <| .nil ?_)
  refine EndT.thenN ?_
  refine CodeT.block ?_
  refine CodeT.loopO (σ := Nat) (fun j => J j) (fun j => [(5, i64V (dnK z a n j : Int))]) (fun j => j ≤ N) (fun j => N - j) 0 (Nat.zero_le _) rfl ?_ ?_
  · exact (.get rfl (VLe.refl _) (.refl _ _))
  · rintro j hj
    have hdl := dnK_le z a n j
    have hdm := Nat.mod_lt (a + dnK z a n j) hp0
    have hdq := Nat.div_le_self (a + dnK z a n j) z
    have hq0 : (0 : Int) ≤ (((a + dnK z a n j) / z : Nat) : Int) := Int.natCast_nonneg _
    have hst : dnK z a n j + stepK z a n (dnK z a n j) ≤ n := dnK_le z a n (j + 1)
    refine CodeT.seq ?_
    refine CodeT.seq ?_
    refine CodeT.region (.p (opMove (.t rfl)) rfl <| .p (opLoad Tryd.ag3 (.t rfl)) rfl <| .p (opLss (.t rfl) (.t rfl)) rfl <| .nil ?_)
    refine EndT.thenN ?_
    refine CodeT.cond (.t rfl) (fun c0 => ?_) (fun c0 => ?_)
    ·
      have hjN : j < N := by (rcases Nat.lt_or_ge j N with h | h; exact h; (have e : j = N := by omega); rw [e, hp3] at c0; omega)
      refine CodeT.skip (EndT.thenN ?_)
      refine CodeT.block ?_
      refine CodeT.seq ?_
      refine CodeT.region (.p (opLoad Tryd.ag46 (.t rfl)) rfl <| .p (opMove (.t rfl)) rfl <| .p (opConvF Tryd.underlying3 Tryd.underlying46 (.t rfl) (fits_u64 (by omega) (by omega))) rfl <| .p ((opAddF (.t rfl) (.t rfl) (fits_u64 (by omega) (by omega))).le (VLe.int (show _ = (((a + dnK z a n j) : Nat) : Int) by omega))) rfl <| .p (opAssign (.t rfl)) rfl <| .nil ?_)
      refine EndT.thenN ?_
      refine CodeT.seq ?_
      refine CodeT.draw 9 2 Tryd.mixed (by kernel_rfl) (.p (opLoad Tryd.ag3 (.t rfl)) <| .p (opMove (.t rfl)) <| .p (opSubF (.t rfl) (.t rfl) (fits_i64 (by omega) (by omega))) <| .p (opLoad Tryd.ag46 (.t rfl)) <| .p (opMove (.t rfl)) <| .p (opLoad Tryd.ag46 (.t rfl)) <| .p ((opRem (.t rfl) (.t rfl) (by omega) (by omega)).le (VLe.int (show _ = (((a + dnK z a n j) % z : Nat) : Int) from (Int.natCast_emod _ _).symm))) <| .p (opSubF (.t rfl) (.t rfl) (fits_u64 (by omega) (by omega))) <| .p (opConvF Tryd.underlying46 Tryd.underlying3 (.t rfl) (fits_i64 (by omega) (by omega))) <| .nil) (.p ((opMin (.t rfl) (.t rfl)).le (VLe.int (show _ = ((stepK z a n (dnK z a n j) : Nat) : Int) by (unfold stepK; omega)))) rfl <| .p (opAssign (.t rfl)) rfl <| .nil ?_)
      refine EndT.thenN ?_
      refine CodeT.seq ?_
      refine CodeT.seq ?_
      refine CodeT.draw 12 2 Tryd.mixed (by kernel_rfl) (.p (opMove (.t rfl)) <| .p (opMove (.t rfl)) <| .p (opLoad Tryd.ag46 (.t rfl)) <| .p ((opQuo (.t rfl) (.t rfl) (by omega) (by omega) (by rw [← Int.natCast_ediv]; exact fits_u64 (by omega) (by omega))).le (VLe.int (show _ = (((a + dnK z a n j) / z : Nat) : Int) from (Int.natCast_ediv _ _).symm))) <| .p (opConvF Tryd.underlying46 Tryd.underlying3 (.t rfl) (fits_i64 (by omega) (by omega))) <| .p (opMove (.t rfl)) <| .p (opLoad Tryd.ag46 (.t rfl)) <| .p ((opRem (.t rfl) (.t rfl) (by omega) (by omega)).le (VLe.int (show _ = (((a + dnK z a n j) % z : Nat) : Int) from (Int.natCast_emod _ _).symm))) <| .p (opConvF Tryd.underlying46 Tryd.underlying3 (.t rfl) (fits_i64 (by omega) (by omega))) <| .p (opMove (.t rfl)) <| .p (opMove (.t rfl)) <| .p (opBuild Tryd.pl141 Tryd.zb141 (.cons (.t rfl) (.cons (.t rfl) (.cons (.t rfl) (.cons (.t rfl) .nil)))) rfl) <| .nil) (.yld (hp5 j hjN) (.t rfl) (.cons (.t rfl) .nil) (List.Perm.of_eq (List.append_nil _).symm) rfl <| .p (opNot (.t rfl)) rfl <| .nil ?_)
      refine EndT.thenN ?_
      refine CodeT.cond (.t rfl) (fun c1 => ?_) (fun c1 => ?_)
      ·
        exact (c1 trivial).elim
      ·
        refine CodeT.skip (EndT.thenN ?_)
        refine CodeT.region (.p (opMove (.t rfl)) rfl <| .p (opMove (.t rfl)) rfl <| .p (opAddF (.t rfl) (.t rfl) (fits_i64 (by omega) (by omega))) rfl <| .p (opAssign (.t rfl)) rfl <| .nil ?_)
        refine EndT.blkN (EndT.round (j + 1) hjN (by omega) (List.append_nil _) ?_)
        exact (.get rfl (VLe.int (by (show (dnK z a n j : Int) + (stepK z a n (dnK z a n j) : Int) = ((dnK z a n j + stepK z a n (dnK z a n j) : Nat) : Int); omega))) ((.keep 38 rfl rfl)))
    ·
      have hjN : j = N := by (rcases Nat.lt_or_ge j N with h | h; (have h9 := hp4 j h; omega); omega)
      subst hjN
      refine CodeT.exit (EndT.thenX (EndT.thenX (EndT.blkX (Post.retR0 rfl (()) (by trivial) (fun _ _ _ h => h) rfl))))

end Go.Proofs.YtiicgelmdmhajaaDoor
