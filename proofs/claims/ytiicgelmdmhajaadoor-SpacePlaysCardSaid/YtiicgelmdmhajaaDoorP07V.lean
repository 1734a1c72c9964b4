/-
  Walks, printed by a program (gen.py) out of what its author says of each function.
-/
import Derived.Test.YtiicgelmdmhajaaDoorP07A
import Derived.Test.YtiicgelmdmhajaaDoorTab
namespace Go.Proofs.YtiicgelmdmhajaaDoor
open Go.Hl Go.RowKit
set_option linter.unusedVariables false
set_option maxRecDepth 100000

theorem aclass_spec {n : Nat} : FnP Tryd.prog 59 [i64V (n : Int)] (i64V (classN n : Int)) := by
  refine FnE.intro 12 Tryd.func59 rfl rfl rfl fun w0 S0 M => ?_
  refine CodeT.seq ?_
  refine CodeT.region (.p (opAssign (.c _)) rfl <| .nil ?_)
  refine EndT.thenN ?_
  refine CodeT.seq ?_
  refine CodeT.seq ?_
  refine CodeT.region (.p (opMove (.t rfl)) rfl <| .p (opGtr (.t rfl) (.c _)) rfl <| .nil ?_)
  refine EndT.thenN ?_
  refine CodeT.cond (.t rfl) (fun c0 => ?_) (fun c0 => ?_)
  ·
    refine CodeT.seq ?_
    refine CodeT.region (.p (opAssign (.c _)) rfl <| .nil ?_)
    refine EndT.thenN ?_
    refine CodeT.ret (EndT.thenR (Post.retP rfl rfl ?_))
    exact VLe.int (by unfold classN; rw [if_pos (by omega)]; rfl)
  ·
    refine CodeT.skip (EndT.thenN ?_)
    refine CodeT.seq ?_
    refine CodeT.region (.p (opAssign (.c _)) rfl <| .nil ?_)
    refine EndT.thenN ?_
    refine CodeT.seq ?_
    refine CodeT.block ?_
    refine CodeT.loopO (σ := Nat × Nat) (fun _ => []) (fun s => [(3, i64V (s.1 : Int))]) (fun s => s.1 * 2 ^ s.2 = 16 * 2 ^ 19 ∧ 16 ≤ s.1 ∧ dblN s.2 s.1 n = classN n) (fun s => s.2) (16, 19) ⟨rfl, by decide, by unfold classN; rw [if_neg (by omega)]⟩ rfl ?_ ?_
    · exact (.get rfl (VLe.refl _) (.refl _ _))
    · rintro ⟨c, k⟩ ⟨hk, h16, hd⟩
      simp only at hk h16 hd ⊢
      have hcm : c ≤ 8388608 := by (have h2 : 0 < 2 ^ k := Nat.two_pow_pos k; have h3 : c ≤ c * 2 ^ k := Nat.le_mul_of_pos_right _ h2; omega)
      refine CodeT.seq ?_
      refine CodeT.seq ?_
      refine CodeT.region (.p (opMove (.t rfl)) rfl <| .p (opMove (.t rfl)) rfl <| .p (opLss (.t rfl) (.t rfl)) rfl <| .nil ?_)
      refine EndT.thenN ?_
      refine CodeT.cond (.t rfl) (fun c1 => ?_) (fun c1 => ?_)
      ·
        refine CodeT.skip (EndT.thenN ?_)
        refine CodeT.block ?_
        refine CodeT.region (.p (opMove (.t rfl)) rfl <| .p (opMulF (.t rfl) (.c _) (fits_i64 (by omega) (by omega))) rfl <| .p (opAssign (.t rfl)) rfl <| .nil ?_)
        refine EndT.blkN (EndT.round (c * 2, k - 1) (by obtain ⟨k, rfl⟩ : ∃ j, k = j + 1 := ⟨k - 1, by (cases k with | zero => simp at hk; omega | succ k => omega)⟩; simp only [Nat.add_sub_cancel]; exact ⟨by rw [← hk, Nat.pow_succ]; simp only [Nat.mul_assoc, Nat.mul_comm, Nat.mul_left_comm], by omega, by (unfold dblN at hd; rw [if_pos (by omega)] at hd; exact hd)⟩) (by cases k with | zero => simp at hk; omega | succ k => simp) rfl ?_)
        exact (.get rfl (VLe.int (by simp)) (.keep 7 rfl rfl))
      ·
        refine CodeT.exit (EndT.thenX (EndT.thenX (EndT.blkX (EndT.thenN ?_))))
        refine CodeT.seq ?_
        refine CodeT.region (.p (opMove (.t rfl)) rfl <| .p (opAssign (.t rfl)) rfl <| .nil ?_)
        refine EndT.thenN ?_
        refine CodeT.ret (Post.retP rfl rfl ?_)
        exact VLe.int (by rw [← hd, dblN_done (by omega)])

theorem aplace_spec {X : ArI} {a : ArD} {c : Nat} (hp0 : ArOk X a) (hp1 : c ≤ 8388608) : FnE Tryd.prog 60 [addrV X.ab 0, i64V (c : Int)] (arenaL X a) (γ := ArD × Nat × Bool) (fun g => g = placeF X.size a c) (fun g => arenaL X g.1) (fun g => tupV [i64V (g.2.1 : Int), propV (g.2.2 = true)]) := by
  refine FnE.intro 58 Tryd.func60 rfl rfl rfl fun w0 S0 M => ?_
  have hk1 := hp0.hi; have hk2 := hp0.most
  refine CodeT.seq ?_
  refine CodeT.region (.p (opAssign (.c _)) rfl <| .p (opAssign .cf) rfl <| .nil ?_)
  refine EndT.thenN ?_
  refine CodeT.seq ?_
  refine CodeT.seq ?_
  refine CodeT.region (.p (opMove (.t rfl)) rfl <| .p (opNilChkO (.t rfl)) rfl <| .p (opFieldO Tryd.fd84_4 (.t rfl)) rfl <| .p (opLoadO (i := 0) Tryd.ag82 (.t rfl) rfl rfl) rfl <| .p (opMove (.t rfl)) rfl <| .p (opLook (i := 3) Tryd.kt82 Tryd.underlying82 (fun w => run_zv Tryd.zv147 w) (.t rfl) (.t rfl) rfl) rfl <| .p (opAssign (.t rfl)) rfl <| .nil ?_)
  refine EndT.thenN ?_
  refine CodeT.seq ?_
  refine CodeT.region (.p (opMove (.t rfl)) rfl <| .p (opLen rfl Tryd.underlying147 (.le (.t rfl) (sliceV_nil 1 (fun n : Int => [i64V n])))) rfl <| .p (opGtr (.t rfl) (.c _)) rfl <| .nil ?_)
  refine EndT.thenN ?_
  refine CodeT.cond (.t rfl) (fun c0 => ?_) (fun c0 => ?_)
  ·
    simp at c0
  ·
    refine CodeT.skip (EndT.thenN ?_)
    refine CodeT.seq ?_
    refine CodeT.seq ?_
    refine CodeT.draw 11 1 Tryd.mixed (by kernel_rfl) (.p (opMove (.t rfl)) <| .p (opMove (.t rfl)) <| .p (opNilChkO (.t rfl)) <| .p (opFieldO Tryd.fd84_0 (.t rfl)) <| .p (opLoadO (i := 0) Tryd.ag22 (.t rfl) rfl rfl) <| .p (opLenSub rfl Tryd.underlying22 (.t rfl)) <| .p (opMove (.t rfl)) <| .p (opNilChkO (.t rfl)) <| .p (opFieldO Tryd.fd84_1 (.t rfl)) <| .p (opLoadO (i := 0) Tryd.ag3 (.t rfl) rfl rfl) <| .p (opSubF (.t rfl) (.t rfl) (fits_i64 (by omega) (by omega))) <| .nil) (.p (opGtr (.t rfl) (.t rfl)) rfl <| .nil ?_)
    refine EndT.thenN ?_
    refine CodeT.cond (.t rfl) (fun c1 => ?_) (fun c1 => ?_)
    ·
      refine CodeT.seq ?_
      refine CodeT.region (.p (opAssign (.c _)) rfl <| .p (opAssign .cf) rfl <| .nil ?_)
      refine EndT.thenN ?_
      refine CodeT.ret (EndT.thenR (Post.retR rfl rfl ((a, 0, false)) (by unfold placeF; rw [if_pos (by omega)]) (fun _ _ _ h => h) rfl (.cons (.rt rfl) ?_ (.cons (.rt rfl) ?_ .nil))))
      · exact VLe.refl _
      · exact VLe.prop (by simp)
    ·
      refine CodeT.skip (EndT.thenN ?_)
      refine CodeT.seq ?_
      refine CodeT.region (.p (opMove (.t rfl)) rfl <| .p (opNilChkO (.t rfl)) rfl <| .p (opFieldO Tryd.fd84_1 (.t rfl)) rfl <| .p (opLoadO (i := 0) Tryd.ag3 (.t rfl) rfl rfl) rfl <| .p (opAssign (.t rfl)) rfl <| .nil ?_)
      refine EndT.thenN ?_
      refine CodeT.seq ?_
      refine CodeT.region (.p (opMove (.t rfl)) rfl <| .p (opNilChkO (.t rfl)) rfl <| .p (opFieldO Tryd.fd84_1 (.t rfl)) rfl <| .p (opLoadO (i := 0) Tryd.ag3 (.t rfl) rfl rfl) rfl <| .p (opMove (.t rfl)) rfl <| .p (opAddF (.t rfl) (.t rfl) (fits_i64 (by omega) (by omega))) rfl <| .p (opNilChkO (.t rfl)) rfl <| .p (opFieldO Tryd.fd84_1 (.t rfl)) rfl <| .s (opStoreO (i := 0) Tryd.cz3 (.t rfl) (.t rfl) rfl rfl) <| .nil ?_)
      refine EndT.thenN ?_
      refine CodeT.seq ?_
      refine CodeT.region (.p (opMove (.t rfl)) rfl <| .p (opAssign (.t rfl)) rfl <| .p (opAssign .ct) rfl <| .nil ?_)
      refine EndT.thenN ?_
      refine CodeT.ret (Post.retR rfl rfl (({ a with height := a.height + c }, a.height, true)) (by unfold placeF; rw [if_neg (by omega)]) (fun _ _ _ h => h) rfl (.cons (.rt rfl) ?_ (.cons (.rt rfl) ?_ .nil)))
      · exact VLe.refl _
      · exact VLe.prop (by simp)

theorem atake_spec {X : ArI} {a : ArD} {n : Nat} (hp0 : ArOk X a) : FnE Tryd.prog 38 [addrV X.ab 0, i64V (n : Int)] (arenaL X a) (γ := ArD × Nat × Nat) (fun g => g = takeF X.size a n) (fun g => arenaL X g.1) (fun g => tupV [i64V (g.2.1 : Int), i64V (g.2.2 : Int)]) := by
  refine FnE.intro 53 Tryd.func38 rfl rfl rfl fun w0 S0 M => ?_
  have hk1 := hp0.hi; have hk2 := hp0.most; have hk3 := hp0.len; have hk4 := hp0.live; have hk5 := classN_most n
  refine CodeT.seq ?_
  refine CodeT.region (.p (opAssign (.c _)) rfl <| .p (opAssign (.c _)) rfl <| .nil ?_)
  refine EndT.thenN ?_
  refine CodeT.seq ?_
  refine CodeT.block ?_
  refine CodeT.seq ?_
  refine CodeT.region (.p (opMove (.t rfl)) rfl <| .p (opEqlNilO Tryd.underlying24 (.t rfl)) rfl <| .p (opAssign (.t rfl)) rfl <| .nil ?_)
  refine EndT.thenN ?_
  refine CodeT.cond (.t rfl) (fun c0 => ?_) (fun c0 => ?_)
  ·
    exact c0.elim
  ·
    refine CodeT.seq ?_
    refine CodeT.region (.p (opMove (.t rfl)) rfl <| .p (opLss (.t rfl) (.c _)) rfl <| .p (opMove (.t rfl)) rfl <| .g (OpG.gF rfl rfl rfl rfl (fun hg => opMove (.t rfl))) rfl rfl <| .g (OpG.gF rfl rfl rfl rfl (fun hg => opGtr (.when (.t rfl) hg) (.c _))) rfl rfl <| .p (opOr (.t rfl) (.t rfl)) rfl <| .p (opAssign (.t rfl)) rfl <| .nil ?_)
    refine EndT.thenN ?_
    refine CodeT.cond (.t rfl) (fun c1 => ?_) (fun c1 => ?_)
    ·
      refine CodeT.seq ?_
      refine CodeT.region (.p (opAssign (.c _)) rfl <| .p (opAssign (.c _)) rfl <| .nil ?_)
      refine EndT.thenN ?_
      refine CodeT.ret (EndT.blkR (EndT.thenR (Post.retR rfl rfl ((a, 0, 1)) (by unfold takeF; rw [if_pos (by omega)]) (fun _ _ _ h => h) rfl (.cons (.rt rfl) ?_ (.cons (.rt rfl) ?_ .nil)))))
      · first | exact VLe.refl _ | exact VLe.int (by omega) | exact VLe.prop (by omega) | exact VLe.prop (by simp_all) | exact VLe.prop (by simp; omega)
      · first | exact VLe.refl _ | exact VLe.int (by omega) | exact VLe.prop (by omega) | exact VLe.prop (by simp_all) | exact VLe.prop (by simp; omega)
    ·
      have hk6 : ¬ 4194304 < n := by omega
      refine CodeT.skip (EndT.blkN (EndT.thenN ?_))
      refine CodeT.seq ?_
      refine CodeT.region (.p (opMove (.t rfl)) rfl <| .p (opCall (aclass_spec) Tryd.cb59 (.cons (.t rfl) .nil)) rfl <| .p (opAssign (.t rfl)) rfl <| .nil ?_)
      refine EndT.thenN ?_
      refine CodeT.seq ?_
      refine CodeT.region (.p (opMove (.t rfl)) rfl <| .p (opMove (.t rfl)) rfl <| .n (opCallE (rest := []) (aplace_spec (by assumption) (by first | assumption | exact classN_most _)) Tryd.cb60 (.cons (.t rfl) (.cons (.t rfl) .nil)) (Perm.idx [0, 1, 2, 3] rfl rfl)) rfl <| fun g24 h24 => .p (opMove (.t rfl)) rfl <| .p (opExtract (.t rfl) rfl) rfl <| .p (opExtract (.t rfl) rfl) rfl <| .p (opAssign (.t rfl)) rfl <| .p (opAssign (.t rfl)) rfl <| .nil ?_)
      refine EndT.thenN ?_
      refine CodeT.seq ?_
      refine CodeT.seq ?_
      refine CodeT.region (.p (opMove (.t rfl)) rfl <| .p (opNot (.t rfl)) rfl <| .nil ?_)
      refine EndT.thenN ?_
      refine CodeT.cond (.t rfl) (fun c2 => ?_) (fun c2 => ?_)
      ·
        obtain ⟨e24, hc24⟩ := placeF_no (by rw [← h24]; exact c2)
        rw [e24] at h24; subst h24; dsimp only
        refine CodeT.seq ?_
        refine CodeT.region (.p (opAssign (.c _)) rfl <| .p (opAssign (.c _)) rfl <| .nil ?_)
        refine EndT.thenN ?_
        refine CodeT.ret (EndT.thenR (Post.retR rfl rfl ((a, 0, 8)) (by unfold takeF; rw [if_neg hk6, if_pos hc24]) (fun _ _ _ h => h) rfl (.cons (.rt rfl) ?_ (.cons (.rt rfl) ?_ .nil))))
        · first | exact VLe.refl _ | exact VLe.int (by omega) | exact VLe.prop (by omega) | exact VLe.prop (by simp_all) | exact VLe.prop (by simp; omega)
        · first | exact VLe.refl _ | exact VLe.int (by omega) | exact VLe.prop (by omega) | exact VLe.prop (by simp_all) | exact VLe.prop (by simp; omega)
      ·
        obtain ⟨e24, hc24⟩ := placeF_yes (by rw [← h24]; exact Classical.not_not.1 c2)
        rw [e24] at h24; subst h24; dsimp only
        refine CodeT.skip (EndT.thenN ?_)
        refine CodeT.seq ?_
        refine CodeT.region (.p (opMove (.t rfl)) rfl <| .p (opNilChkO (.t rfl)) rfl <| .p (opFieldO Tryd.fd84_0 (.t rfl)) rfl <| .p (opLoadO (i := 0) Tryd.ag22 (.t rfl) rfl rfl) rfl <| .p (opMove (.t rfl)) rfl <| .p (opMove (.t rfl)) rfl <| .p (opMove (.t rfl)) rfl <| .p (opAddF (.t rfl) (.t rfl) (fits_i64 (by omega) (by omega))) rfl <| .p ((opSliceSub (l := a.height) (h := a.height + classN n) Tryd.underlying22 Tryd.cz5 (.t rfl) (.t rfl) (.t rfl) rfl rfl (by omega) (by omega)).le (VLe.of_eq (show subV _ _ _ = subV X.db a.height (classN n) by rw [Nat.zero_add, Nat.add_sub_cancel_left]))) rfl <| .s (opClearSub (i := 1) rfl Tryd.underlying22 Tryd.cz5 Tryd.zb5 (.t rfl) rfl (by dsimp only; omega)) <| .nil ?_)
        refine EndT.thenN ?_
        refine CodeT.seq ?_
        refine CodeT.region (.p (opMove (.t rfl)) rfl <| .p (opNilChkO (.t rfl)) rfl <| .p (opFieldO Tryd.fd84_3 (.t rfl)) rfl <| .p (opLoadO (i := 0) Tryd.ag81 (.t rfl) rfl rfl) rfl <| .p (opMove (.t rfl)) rfl <| .p (opMove (.t rfl)) rfl <| .s (opUpd (i := 2) _ Tryd.kt81 Tryd.underlying81 (.t rfl) (.t rfl) (.t rfl) rfl) <| .nil ?_)
        refine EndT.thenN ?_
        refine CodeT.seq ?_
        refine CodeT.region (.p (opMove (.t rfl)) rfl <| .p (opNilChkO (.t rfl)) rfl <| .p (opFieldO Tryd.fd84_2 (.t rfl)) rfl <| .p (opLoadO (i := 0) Tryd.ag3 (.t rfl) rfl rfl) rfl <| .p (opMove (.t rfl)) rfl <| .p (opAddF (.t rfl) (.t rfl) (fits_i64 (by dsimp only; omega) (by dsimp only; omega))) rfl <| .p (opNilChkO (.t rfl)) rfl <| .p (opFieldO Tryd.fd84_2 (.t rfl)) rfl <| .s (opStoreO (i := 0) Tryd.cz3 (.t rfl) (.t rfl) rfl rfl) <| .nil ?_)
        refine EndT.thenN ?_
        refine CodeT.seq ?_
        refine CodeT.region (.p (opMove (.t rfl)) rfl <| .p (opAssign (.t rfl)) rfl <| .p (opAssign (.c _)) rfl <| .nil ?_)
        refine EndT.thenN ?_
        refine CodeT.ret (Post.retR rfl rfl (({ bytes := a.bytes.take a.height ++ List.replicate (classN n) 0 ++ a.bytes.drop (a.height + classN n), height := a.height + classN n, live := a.live + classN n, taken := updD a.taken (a.height : Int) (classN n : Int) }, a.height, 0)) (by unfold takeF; rw [if_neg hk6, if_neg hc24]) (fun _ _ _ h => h) rfl (.cons (.rt rfl) ?_ (.cons (.rt rfl) ?_ .nil)))
        · first | exact VLe.refl _ | exact VLe.int (by omega) | exact VLe.prop (by omega) | exact VLe.prop (by simp_all) | exact VLe.prop (by simp; omega)
        · first | exact VLe.refl _ | exact VLe.int (by omega) | exact VLe.prop (by omega) | exact VLe.prop (by simp_all) | exact VLe.prop (by simp; omega)

theorem apart_spec {X : ArI} {a : ArD} {at_ n : Nat} (hp0 : ArOk X a) (hp1 : at_ + n ≤ X.size) : FnE Tryd.prog 67 [addrV X.ab 0, i64V (at_ : Int), i64V (n : Int)] (arenaL X a) (γ := Unit) (fun _ => True) (fun _ => arenaL X a) (fun _ => tupV [subV X.db at_ n, i64V 0]) := by
  refine FnE.intro 47 Tryd.func67 rfl rfl rfl fun w0 S0 M => ?_
  have hk2 := hp0.most
  refine CodeT.seq ?_
  refine CodeT.region (.p (opAssign (.c _)) rfl <| .p (opAssign (.c _)) rfl <| .nil ?_)
  refine EndT.thenN ?_
  refine CodeT.seq ?_
  refine CodeT.block ?_
  refine CodeT.seq ?_
  refine CodeT.region (.p (opMove (.t rfl)) rfl <| .p (opEqlNilO Tryd.underlying24 (.t rfl)) rfl <| .p (opAssign (.t rfl)) rfl <| .nil ?_)
  refine EndT.thenN ?_
  refine CodeT.cond (.t rfl) (fun c0 => ?_) (fun c0 => ?_)
  ·
    exact c0.elim
  ·
    refine CodeT.seq ?_
    refine CodeT.region (.p (opMove (.t rfl)) rfl <| .p (opLss (.t rfl) (.c _)) rfl <| .p (opMove (.t rfl)) rfl <| .g (OpG.gF rfl rfl rfl rfl (fun hg => opMove (.t rfl))) rfl rfl <| .g (OpG.gF rfl rfl rfl rfl (fun hg => opLss (.when (.t rfl) hg) (.c _))) rfl rfl <| .p (opOr (.t rfl) (.t rfl)) rfl <| .p (opMove (.t rfl)) rfl <| .g (OpG.gF rfl rfl rfl rfl (fun hg => opMove (.t rfl))) rfl rfl <| .g (OpG.gF rfl rfl rfl rfl (fun hg => opMove (.t rfl))) rfl rfl <| .g (OpG.gF rfl rfl rfl rfl (fun hg => opNilChkO (.when (.t rfl) hg))) rfl rfl <| .g (OpG.gF rfl rfl rfl rfl (fun hg => opFieldO Tryd.fd84_0 (.when (.t rfl) hg))) rfl rfl <| .g (OpG.gF rfl rfl rfl rfl (fun hg => opLoadO (i := 0) Tryd.ag22 (.when (.t rfl) hg) rfl rfl)) rfl rfl <| .g (OpG.gF rfl rfl rfl rfl (fun hg => opLenSub rfl Tryd.underlying22 (.when (.t rfl) hg))) rfl rfl <| .g (OpG.gF rfl rfl rfl rfl (fun hg => opGtr (.when (.t rfl) hg) (.when (.t rfl) hg))) rfl rfl <| .p (opOr (.t rfl) (.t rfl)) rfl <| .p (opMove (.t rfl)) rfl <| .g (OpG.gF rfl rfl rfl rfl (fun hg => opMove (.t rfl))) rfl rfl <| .g (OpG.gF rfl rfl rfl rfl (fun hg => opMove (.t rfl))) rfl rfl <| .g (OpG.gF rfl rfl rfl rfl (fun hg => opNilChkO (.when (.t rfl) hg))) rfl rfl <| .g (OpG.gF rfl rfl rfl rfl (fun hg => opFieldO Tryd.fd84_0 (.when (.t rfl) hg))) rfl rfl <| .g (OpG.gF rfl rfl rfl rfl (fun hg => opLoadO (i := 0) Tryd.ag22 (.when (.t rfl) hg) rfl rfl)) rfl rfl <| .g (OpG.gF rfl rfl rfl rfl (fun hg => opLenSub rfl Tryd.underlying22 (.when (.t rfl) hg))) rfl rfl <| .g (OpG.gF rfl rfl rfl rfl (fun hg => opMove (.t rfl))) rfl rfl <| .g (OpG.gF rfl rfl rfl rfl (fun hg => opSubF (.when (.t rfl) hg) (.when (.t rfl) hg) (fits_i64 (by omega) (by omega)))) rfl rfl <| .g (OpG.gF rfl rfl rfl rfl (fun hg => opGtr (.when (.t rfl) hg) (.when (.t rfl) hg))) rfl rfl <| .p (opOr (.t rfl) (.t rfl)) rfl <| .p (opAssign (.t rfl)) rfl <| .nil ?_)
    refine EndT.thenN ?_
    refine CodeT.cond (.t rfl) (fun c1 => ?_) (fun c1 => ?_)
    ·
      exfalso; omega
    ·
      refine CodeT.skip (EndT.blkN (EndT.thenN ?_))
      refine CodeT.seq ?_
      refine CodeT.region (.p (opMove (.t rfl)) rfl <| .p (opNilChkO (.t rfl)) rfl <| .p (opFieldO Tryd.fd84_0 (.t rfl)) rfl <| .p (opLoadO (i := 0) Tryd.ag22 (.t rfl) rfl rfl) rfl <| .p (opMove (.t rfl)) rfl <| .p (opMove (.t rfl)) rfl <| .p (opMove (.t rfl)) rfl <| .p (opAddF (.t rfl) (.t rfl) (fits_i64 (by omega) (by omega))) rfl <| .p ((opSliceSub (l := at_) (h := at_ + n) Tryd.underlying22 Tryd.cz5 (.t rfl) (.t rfl) (.t rfl) rfl rfl (by omega) (by omega)).le (VLe.of_eq (show subV _ _ _ = subV X.db at_ n by rw [Nat.zero_add, Nat.add_sub_cancel_left]))) rfl <| .p (opAssign (.t rfl)) rfl <| .p (opAssign (.c _)) rfl <| .nil ?_)
      refine EndT.thenN ?_
      refine CodeT.ret (Post.retR rfl rfl (()) (by trivial) (fun _ _ _ h => h) rfl (.cons (.rt rfl) ?_ (.cons (.rt rfl) ?_ .nil)))
      · first | exact VLe.refl _ | exact VLe.int (by omega) | exact VLe.prop (by omega) | exact VLe.prop (by simp_all) | exact VLe.prop (by simp; omega)
      · first | exact VLe.refl _ | exact VLe.int (by omega) | exact VLe.prop (by omega) | exact VLe.prop (by simp_all) | exact VLe.prop (by simp; omega)

theorem cloneB_spec {b off len : Nat} {l : List UInt8} (hp0 : off + len ≤ l.length) (hp1 : l.length ≤ 4194304) : FnE Tryd.prog 75 [subV b off len] [bufH b l] (γ := Unit) (fun _ => True) (fun _ => [bufH b l]) (fun _ => sliceV 1 encU8 ((l.drop off).take len)) := by
  refine FnE.intro 8 Tryd.func75 rfl rfl rfl fun w0 S0 M => ?_
  have hlen : ((l.drop off).take len).length ≤ 4194304 := by (simp; omega)
  refine CodeT.seq ?_
  refine CodeT.region (.p (opAssign (.c _)) rfl <| .nil ?_)
  refine EndT.thenN ?_
  refine CodeT.seq ?_
  refine CodeT.seq ?_
  refine CodeT.region (.p (opMove (.t rfl)) rfl <| .p (opEqlNilSub Tryd.underlying22 (.t rfl) (.c _)) rfl <| .nil ?_)
  refine EndT.thenN ?_
  refine CodeT.cond (.t rfl) (fun c0 => ?_) (fun c0 => ?_)
  ·
    exact c0.elim
  ·
    refine CodeT.skip (EndT.thenN ?_)
    refine CodeT.seq ?_
    refine CodeT.region (.p (opBuildEmpty Tryd.underlying22 Tryd.cz5 rfl Tryd.zb5 rfl) rfl <| .p (opMove (.t rfl)) rfl <| .p (opAppendEX Tryd.underlying22 Tryd.underlying22 Tryd.cz5 rfl Tryd.zb5 rfl Tryd.by5 (.t rfl) (SrcB.buf (i := 0) (.t rfl) rfl (by omega)).src (by omega)) rfl <| .p (opAssign (.t rfl)) rfl <| .nil ?_)
    refine EndT.thenN ?_
    refine CodeT.ret (Post.retR1 rfl (()) (by trivial) (fun _ _ _ h => h) (.rt rfl) ?_)
    first | exact VLe.refl _ | exact VLe.int (by omega) | exact VLe.prop (by omega) | exact VLe.prop (by simp_all) | exact VLe.prop (by simp; omega)

theorem abytes_spec {X : ArI} {a : ArD} {at_ n : Nat} (hp0 : ArOk X a) (hp1 : at_ + n ≤ X.size) : FnE Tryd.prog 56 [addrV X.ab 0, i64V (at_ : Int), i64V (n : Int)] (arenaL X a) (γ := Unit) (fun _ => True) (fun _ => arenaL X a) (fun _ => tupV [sliceV 1 encU8 (a.get at_ n), i64V 0]) := by
  refine FnE.intro 20 Tryd.func56 rfl rfl rfl fun w0 S0 M => ?_
  have hk2 := hp0.most; have hk3 := hp0.len
  refine CodeT.seq ?_
  refine CodeT.region (.p (opAssign (.c _)) rfl <| .p (opAssign (.c _)) rfl <| .nil ?_)
  refine EndT.thenN ?_
  refine CodeT.seq ?_
  refine CodeT.region (.p (opMove (.t rfl)) rfl <| .p (opMove (.t rfl)) rfl <| .p (opMove (.t rfl)) rfl <| .n (opCallE (rest := []) (apart_spec (by assumption) (by omega)) Tryd.cb67 (.cons (.t rfl) (.cons (.t rfl) (.cons (.t rfl) .nil))) (Perm.idx [0, 1, 2, 3] rfl rfl)) rfl <| fun g14 h14 => .p (opMove (.t rfl)) rfl <| .p (opExtract (.t rfl) rfl) rfl <| .p (opExtract (.t rfl) rfl) rfl <| .p (opAssign (.t rfl)) rfl <| .p (opAssign (.t rfl)) rfl <| .nil ?_)
  refine EndT.thenN ?_
  refine CodeT.seq ?_
  refine CodeT.region (.p (opMove (.t rfl)) rfl <| .n (opCallE (rest := [_, _, _]) (cloneB_spec (by omega) (by omega)) Tryd.cb75 (.cons (.t rfl) .nil) (Perm.idx [1, 0, 2, 3] rfl rfl)) rfl <| fun g18 h18 => .p (opMove (.t rfl)) rfl <| .p (opAssign (.t rfl)) rfl <| .p (opAssign (.t rfl)) rfl <| .nil ?_)
  refine EndT.thenN ?_
  refine CodeT.ret (Post.retR rfl rfl (()) (by trivial) (OLe.sel [1, 0, 2, 3] [] rfl rfl) rfl (.cons (.rt rfl) ?_ (.cons (.rt rfl) ?_ .nil)))
  · first | exact VLe.refl _ | exact VLe.int (by omega) | exact VLe.prop (by omega) | exact VLe.prop (by simp_all) | exact VLe.prop (by simp; omega)
  · first | exact VLe.refl _ | exact VLe.int (by omega) | exact VLe.prop (by omega) | exact VLe.prop (by simp_all) | exact VLe.prop (by simp; omega)

theorem acopy_spec {X : ArI} {a : ArD} {at_ : Nat} {ys : List UInt8} (hp0 : ArOk X a) (hp1 : at_ + ys.length ≤ X.size) : FnE Tryd.prog 46 [addrV X.ab 0, i64V (at_ : Int), sliceV 1 encU8 ys] (arenaL X a) (γ := Unit) (fun _ => True) (fun _ => arenaL X (a.put at_ ys)) (fun _ => i64V 0) := by
  refine FnE.intro 23 Tryd.func46 rfl rfl rfl fun w0 S0 M => ?_
  have hk2 := hp0.most; have hk3 := hp0.len
  refine CodeT.seq ?_
  refine CodeT.region (.p (opAssign (.c _)) rfl <| .nil ?_)
  refine EndT.thenN ?_
  refine CodeT.seq ?_
  refine CodeT.region (.p (opMove (.t rfl)) rfl <| .p (opMove (.t rfl)) rfl <| .p (opMove (.t rfl)) rfl <| .p (opLen rfl Tryd.underlying22 (.t rfl)) rfl <| .n (opCallE (rest := []) (apart_spec (by assumption) (by omega)) Tryd.cb67 (.cons (.t rfl) (.cons (.t rfl) (.cons (.t rfl) .nil))) (Perm.idx [0, 1, 2, 3] rfl rfl)) rfl <| fun g14 h14 => .p (opMove (.t rfl)) rfl <| .p (opExtract (.t rfl) rfl) rfl <| .p (opExtract (.t rfl) rfl) rfl <| .p (opAssign (.t rfl)) rfl <| .p (opAssign (.t rfl)) rfl <| .nil ?_)
  refine EndT.thenN ?_
  refine CodeT.seq ?_
  refine CodeT.seq ?_
  refine CodeT.region (.p (opMove (.t rfl)) rfl <| .p (opEql (.t rfl) (.c _)) rfl <| .nil ?_)
  refine EndT.thenN ?_
  refine CodeT.cond (.t rfl) (fun c0 => ?_) (fun c0 => ?_)
  ·
    refine CodeT.region (.p (opMove (.t rfl)) rfl <| .p (opMove (.t rfl)) rfl <| .n (opCopySub (i := 1) rfl Tryd.underlying22 Tryd.cz5 (.t rfl) (.shared (.t rfl)) rfl (by omega) (by omega)) rfl <| fun _ _ => .nil ?_)
    refine EndT.thenN ?_
    refine CodeT.seq ?_
    refine CodeT.region (.p (opMove (.t rfl)) rfl <| .p (opAssign (.t rfl)) rfl <| .nil ?_)
    refine EndT.thenN ?_
    refine CodeT.ret (Post.retR1 rfl (()) (by trivial) (fun _ _ _ h => h) (.rt rfl) ?_)
    first | exact VLe.refl _ | exact VLe.int (by omega) | exact VLe.prop (by omega) | exact VLe.prop (by simp_all) | exact VLe.prop (by simp; omega)
  ·
    exact absurd rfl c0

end Go.Proofs.YtiicgelmdmhajaaDoor
