/-
  Walks, printed by a program (gen.py) out of what its author says of each function.
-/
import Derived.Test.YtiicgelmdmhajaaDoorP07V
namespace Go.Proofs.YtiicgelmdmhajaaDoor
open Go.Hl Go.RowKit
set_option linter.unusedVariables false
set_option maxRecDepth 100000

theorem anew_spec {n : Nat} (hp0 : n ≤ 4194304) : FnE Tryd.prog 12 [i64V (n : Int)] [] (γ := ArI) (fun X => X.size = n) (fun X => arenaL X ⟨List.replicate n 0, 0, 0, []⟩) (fun X => tupV [addrV X.ab 0, i64V 0]) := by
  refine FnE.intro 16 Tryd.func12 rfl rfl rfl fun w0 S0 M => ?_
  refine CodeT.seq ?_
  refine CodeT.region (.p (opAssign (.c _)) rfl <| .p (opAssign (.c _)) rfl <| .nil ?_)
  refine EndT.thenN ?_
  refine CodeT.seq ?_
  refine CodeT.seq ?_
  refine CodeT.region (.p (opMove (.t rfl)) rfl <| .p (opLss (.t rfl) (.c _)) rfl <| .p (opMove (.t rfl)) rfl <| .g (OpG.gF rfl rfl rfl rfl (fun hg => opMove (.t rfl))) rfl rfl <| .g (OpG.gF rfl rfl rfl rfl (fun hg => opGtr (.when (.t rfl) hg) (.c _))) rfl rfl <| .p (opOr (.t rfl) (.t rfl)) rfl <| .nil ?_)
  refine EndT.thenN ?_
  refine CodeT.cond (.t rfl) (fun c0 => ?_) (fun c0 => ?_)
  ·
    exfalso; omega
  ·
    refine CodeT.skip (EndT.thenN ?_)
    refine CodeT.seq ?_
    refine CodeT.region (.p (opMove (.t rfl)) rfl <| .n (opMakeBuf Tryd.underlying22 Tryd.cz5 Tryd.by5 Tryd.zb5 (.t rfl) rfl (by omega)) rfl <| fun b11 _ => .n (opMakeM (Value.int .i64) i64V) rfl <| fun m12 _ => .n (opMakeM (Value.int .i64) (fun _ : Unit => emptyV)) rfl <| fun m13 _ => .p (opBuild Tryd.pl84 Tryd.zb84 (.cons (.t rfl) (.cons (.t rfl) (.cons (.t rfl) .nil))) rfl) rfl <| .n (opBoxOA (.t rfl)) rfl <| fun b15 _ => .p (opAssign (.t rfl)) rfl <| .p (opAssign (.c _)) rfl <| .nil ?_)
    refine EndT.thenN ?_
    refine CodeT.ret (Post.retR rfl rfl (⟨b15, b11, m12, m13, n⟩) (by rfl) (OLe.sel [0, 3, 2, 1] [] rfl rfl) rfl (.cons (.rt rfl) ?_ (.cons (.rt rfl) ?_ .nil)))
    · first | exact VLe.refl _ | exact VLe.int (by omega) | exact VLe.prop (by omega) | exact VLe.prop (by simp_all) | exact VLe.prop (by simp; omega)
    · first | exact VLe.refl _ | exact VLe.int (by omega) | exact VLe.prop (by omega) | exact VLe.prop (by simp_all) | exact VLe.prop (by simp; omega)

theorem atom_spec {b off : Nat} {cs : List VP} {n m : Int} (hp0 : cs[off]? = some (i64V n)) : FnE Tryd.prog 101 [addrV b off, i64V m] [cellsH b cs] (γ := Unit) (fun _ => True) (fun _ => [cellsH b (cs.set off (i64V (IntKind.i64.wrap (n + m))))]) (fun _ => i64V (IntKind.i64.wrap (n + m))) := by
  refine FnE.intro 10 Tryd.func101 rfl rfl rfl fun w0 S0 M => ?_
  refine CodeT.seq ?_
  refine CodeT.region (.p (opAssign (.c _)) rfl <| .nil ?_)
  refine EndT.thenN ?_
  refine CodeT.seq ?_
  refine CodeT.region (.p (opMove (.t rfl)) rfl <| .p (opNilChkO (.t rfl)) rfl <| .p (opFieldO Tryd.fd90_2 (.t rfl)) rfl <| .p (opMove (.t rfl)) rfl <| .n (opAtomAdd (i := 0) Tryd.func114 (by kernel_rfl) (by kernel_rfl) (by kernel_rfl) (by kernel_rfl) (.t rfl) (.t rfl) rfl hp0) rfl <| fun _ _ => .p (opAssign (.t rfl)) rfl <| .nil ?_)
  refine EndT.thenN ?_
  refine CodeT.ret (Post.retR1 rfl (()) (by trivial) (fun _ _ _ h => h) (.rt rfl) ?_)
  first | exact VLe.refl _ | exact VLe.int (by omega) | exact VLe.prop (by omega) | exact VLe.prop (by simp_all) | exact VLe.prop (by simp; omega)

theorem sop_spec {sb mb : Nat} {s : StD} : FnE Tryd.prog 90 [addrV sb 0] [storeC sb mb s] (γ := StD × Bool) (fun g => g = opF s) (fun g => [storeC sb mb g.1]) (fun g => propV (g.2 = true)) := by
  refine FnE.intro 25 Tryd.func90 rfl rfl rfl fun w0 S0 M => ?_
  refine CodeT.seq ?_
  refine CodeT.region (.p (opAssign .cf) rfl <| .nil ?_)
  refine EndT.thenN ?_
  refine CodeT.seq ?_
  refine CodeT.region (.p (opMove (.t rfl)) rfl <| .p (opNilChkO (.t rfl)) rfl <| .p (opFieldO Tryd.fd92_4 (.t rfl)) rfl <| .n (opCallE (rest := []) (atom_spec (by rfl)) Tryd.cb101 (.cons (.t rfl) (.cons (.c _) .nil)) (Perm.idx [0] rfl rfl)) rfl <| fun g7 h7 => .p (opSub (.t rfl) (.c _)) rfl <| .p (opAssign (.t rfl)) rfl <| .nil ?_)
  refine EndT.thenN ?_
  refine CodeT.seq ?_
  refine CodeT.seq ?_
  refine CodeT.region (.p (opMove (.t rfl)) rfl <| .p (opNilChkO (.t rfl)) rfl <| .p (opFieldO Tryd.fd92_5 (.t rfl)) rfl <| .p (opLoadO (i := 0) Tryd.ag3 (.t rfl) rfl rfl) rfl <| .p (opGeq (.t rfl) (.c _)) rfl <| .p (opMove (.t rfl)) rfl <| .g (OpG.gT rfl rfl rfl rfl (fun hg => opMove (.t rfl))) rfl rfl <| .g (OpG.gT rfl rfl rfl rfl (fun hg => opMove (.t rfl))) rfl rfl <| .g (OpG.gT rfl rfl rfl rfl (fun hg => opNilChkO (.when (.t rfl) hg))) rfl rfl <| .g (OpG.gT rfl rfl rfl rfl (fun hg => opFieldO Tryd.fd92_5 (.when (.t rfl) hg))) rfl rfl <| .g (OpG.gT rfl rfl rfl rfl (fun hg => opLoadO (i := 0) Tryd.ag3 (.when (.t rfl) hg) rfl rfl)) rfl rfl <| .g (OpG.gT rfl rfl rfl rfl (fun hg => opGeq (.when (.t rfl) hg) (.when (.t rfl) hg))) rfl rfl <| .p (opAnd (.t rfl) (.t rfl)) rfl <| .nil ?_)
  refine EndT.thenN ?_
  refine CodeT.cond (.t rfl) (fun c0 => ?_) (fun c0 => ?_)
  ·
    refine CodeT.seq ?_
    refine CodeT.region (.p (opMove (.t rfl)) rfl <| .p (opNilChkO (.t rfl)) rfl <| .p (opFieldO Tryd.fd92_6 (.t rfl)) rfl <| .s (opStoreO (i := 0) Tryd.cz4 (.t rfl) .ct rfl rfl) <| .nil ?_)
    refine EndT.thenN ?_
    refine CodeT.seq ?_
    refine CodeT.region (.p (opAssign .cf) rfl <| .nil ?_)
    refine EndT.thenN ?_
    refine CodeT.ret (EndT.thenR (Post.retR1 rfl (({ s with ops := IntKind.i64.wrap (s.ops + 1), failed := true }, false)) (by unfold opF; rw [if_pos (by omega)]) (fun _ _ _ h => h) (.rt rfl) ?_))
    exact VLe.prop (by simp)
  ·
    refine CodeT.skip (EndT.thenN ?_)
    refine CodeT.seq ?_
    refine CodeT.region (.p (opAssign .ct) rfl <| .nil ?_)
    refine EndT.thenN ?_
    refine CodeT.ret (Post.retR1 rfl (({ s with ops := IntKind.i64.wrap (s.ops + 1) }, true)) (by unfold opF; rw [if_neg (by omega)]) (fun _ _ _ h => h) (.rt rfl) ?_)
    exact VLe.prop (by simp)

theorem snew_spec {n : Nat} {cap : Int} (hp0 : 16 ≤ n) (hp1 : n ≤ 1024) (hp2 : 0 ≤ cap) (hp3 : cap ≤ 4096) : FnE Tryd.prog 13 [i64V (n : Int), i64V cap] [] (γ := Nat) (fun _ => True) (fun sb => [storeH sb ⟨n, cap, 0, 0, -1, false, []⟩]) (fun sb => tupV [addrV sb 0, i64V 0]) := by
  refine FnE.intro 25 Tryd.func13 rfl rfl rfl fun w0 S0 M => ?_
  refine CodeT.seq ?_
  refine CodeT.region (.p (opAssign (.c _)) rfl <| .p (opAssign (.c _)) rfl <| .nil ?_)
  refine EndT.thenN ?_
  refine CodeT.seq ?_
  refine CodeT.seq ?_
  refine CodeT.region (.p (opMove (.t rfl)) rfl <| .p (opLss (.t rfl) (.c _)) rfl <| .p (opMove (.t rfl)) rfl <| .g (OpG.gF rfl rfl rfl rfl (fun hg => opMove (.t rfl))) rfl rfl <| .g (OpG.gF rfl rfl rfl rfl (fun hg => opGtr (.when (.t rfl) hg) (.c _))) rfl rfl <| .p (opOr (.t rfl) (.t rfl)) rfl <| .p (opMove (.t rfl)) rfl <| .g (OpG.gF rfl rfl rfl rfl (fun hg => opMove (.t rfl))) rfl rfl <| .g (OpG.gF rfl rfl rfl rfl (fun hg => opLss (.when (.t rfl) hg) (.c _))) rfl rfl <| .p (opOr (.t rfl) (.t rfl)) rfl <| .p (opMove (.t rfl)) rfl <| .g (OpG.gF rfl rfl rfl rfl (fun hg => opMove (.t rfl))) rfl rfl <| .g (OpG.gF rfl rfl rfl rfl (fun hg => opGtr (.when (.t rfl) hg) (.c _))) rfl rfl <| .p (opOr (.t rfl) (.t rfl)) rfl <| .nil ?_)
  refine EndT.thenN ?_
  refine CodeT.cond (.t rfl) (fun c0 => ?_) (fun c0 => ?_)
  ·
    exfalso; omega
  ·
    refine CodeT.skip (EndT.thenN ?_)
    refine CodeT.seq ?_
    refine CodeT.region (.p (opMove (.t rfl)) rfl <| .p (opMove (.t rfl)) rfl <| .n (opMakeM (Value.int .i64) (fun b => subV b 0 n)) rfl <| fun m22 _ => .p (opBuild Tryd.pl92 Tryd.zb92 (.cons (.t rfl) (.cons (.t rfl) (.cons (.t rfl) (.cons (.c _) .nil)))) rfl) rfl <| .n (opBoxOA (.t rfl)) rfl <| fun b24 _ => .p (opAssign (.t rfl)) rfl <| .p (opAssign (.c _)) rfl <| .nil ?_)
    refine EndT.thenN ?_
    refine CodeT.ret (Post.retR rfl rfl (b24) (by trivial) (store_close (E := []) (mb := m22) (sz := n) (s := ⟨n, cap, 0, 0, -1, false, []⟩) rfl rfl |> OLe.trans (OLe.trans (OLe.cons _ (OLe.cons _ ownNil)) (OLe.cells (.cons (.refl _) (.cons (.refl _) (.cons (.refl _) (.cons (.refl _) (.cons (.refl _) (.cons (.refl _) (.cons falseV .nil)))))))))) rfl (.cons (.rt rfl) ?_ (.cons (.rt rfl) ?_ .nil)))
    · first | exact VLe.refl _ | exact VLe.int (by omega) | exact VLe.prop (by omega) | exact VLe.prop (by simp_all) | exact VLe.prop (by simp; omega)
    · first | exact VLe.refl _ | exact VLe.int (by omega) | exact VLe.prop (by omega) | exact VLe.prop (by simp_all) | exact VLe.prop (by simp; omega)

theorem suse_spec {sb mb : Nat} {s : StD} {E : BlkE} {id : Int} {right : Prop} [Decidable right] (hp0 : contM E = s.m) : FnE Tryd.prog 91 [addrV sb 0, i64V id, propV right] [storeC sb mb s, storeM mb s.size E] (γ := StD × Nat) (fun g => g = useF s id right) (fun g => [storeC sb mb g.1, storeM mb s.size E]) (fun g => i64V (g.2 : Int)) := by
  refine FnE.intro 25 Tryd.func91 rfl rfl rfl fun w0 S0 M => ?_
  have hlk : lookD (E.map fun e => (e.1, e.2.1)) id = none ↔ lookD s.m id = none := by rw [← hp0, look_cont, look_blk]; cases lookD E id <;> simp
  refine CodeT.seq ?_
  refine CodeT.region (.p (opAssign (.c _)) rfl <| .nil ?_)
  refine EndT.thenN ?_
  refine CodeT.seq ?_
  refine CodeT.block ?_
  refine CodeT.seq ?_
  refine CodeT.region (.p (opMove (.t rfl)) rfl <| .p (opEqlNilO Tryd.underlying28 (.t rfl)) rfl <| .p (opAssign (.t rfl)) rfl <| .nil ?_)
  refine EndT.thenN ?_
  refine CodeT.cond (.t rfl) (fun c0 => ?_) (fun c0 => ?_)
  ·
    exact c0.elim
  ·
    refine CodeT.seq ?_
    refine CodeT.region (.p (opMove (.t rfl)) rfl <| .p (opNilChkO (.t rfl)) rfl <| .p (opFieldO Tryd.fd92_3 (.t rfl)) rfl <| .p (opLoadO (i := 0) Tryd.ag85 (.t rfl) rfl rfl) rfl <| .p (opMove (.t rfl)) rfl <| .p (opLook (i := 1) Tryd.kt85 Tryd.underlying85 (fun w => run_zv Tryd.zv22 w) (.t rfl) (.t rfl) rfl) rfl <| .p (opEqlNilOpt Tryd.underlying22 (.t rfl) (.c _)) rfl <| .p (opAssign (.t rfl)) rfl <| .nil ?_)
    refine EndT.thenN ?_
    refine CodeT.cond (.t rfl) (fun c1 => ?_) (fun c1 => ?_)
    ·
      refine CodeT.seq ?_
      refine CodeT.region (.p (opAssign (.c _)) rfl <| .nil ?_)
      refine EndT.thenN ?_
      refine CodeT.ret (EndT.blkR (EndT.thenR (Post.retR1 rfl ((s, 2)) (by exact (useF_none (hlk.1 c1)).symm) (fun _ _ _ h => h) (.rt rfl) ?_)))
      first | exact VLe.refl _ | exact VLe.int (by omega) | exact VLe.prop (by omega) | exact VLe.prop (by simp_all) | exact VLe.prop (by simp; omega)
    ·
      have hl := mt hlk.2 c1
      refine CodeT.seq ?_
      refine CodeT.region (.p (opMove (.t rfl)) rfl <| .p (opNot (.t rfl)) rfl <| .p (opAssign (.t rfl)) rfl <| .nil ?_)
      refine EndT.thenN ?_
      refine CodeT.cond (.t rfl) (fun c2 => ?_) (fun c2 => ?_)
      ·
        refine CodeT.seq ?_
        refine CodeT.region (.p (opAssign (.c _)) rfl <| .nil ?_)
        refine EndT.thenN ?_
        refine CodeT.ret (EndT.blkR (EndT.thenR (Post.retR1 rfl ((s, 1)) (by exact (useF_wrong hl c2).symm) (fun _ _ _ h => h) (.rt rfl) ?_)))
        first | exact VLe.refl _ | exact VLe.int (by omega) | exact VLe.prop (by omega) | exact VLe.prop (by simp_all) | exact VLe.prop (by simp; omega)
      ·
        refine CodeT.seq ?_
        refine CodeT.region (.p (opMove (.t rfl)) rfl <| .n (opCallE (rest := [_]) (sop_spec) Tryd.cb90 (.cons (.t rfl) .nil) (Perm.idx [0, 1] rfl rfl)) rfl <| fun g23 h23 => .p (opNot (.t rfl)) rfl <| .p (opAssign (.t rfl)) rfl <| .nil ?_)
        refine EndT.thenN ?_
        refine CodeT.cond (.t rfl) (fun c3 => ?_) (fun c3 => ?_)
        ·
          refine CodeT.seq ?_
          refine CodeT.region (.p (opAssign (.c _)) rfl <| .nil ?_)
          refine EndT.thenN ?_
          refine CodeT.ret (EndT.blkR (EndT.thenR (Post.retR1 rfl (((opF s).1, 9)) (by exact (useF_op hl (Classical.not_not.1 c2)).2 (by rw [← h23]; exact c3) |>.symm) (by rw [h23]; exact fun _ _ _ h => h) (.rt rfl) ?_)))
          first | exact VLe.refl _ | exact VLe.int (by omega) | exact VLe.prop (by omega) | exact VLe.prop (by simp_all) | exact VLe.prop (by simp; omega)
        ·
          refine CodeT.skip (EndT.blkN (EndT.thenN ?_))
          refine CodeT.seq ?_
          refine CodeT.region (.p (opAssign (.c _)) rfl <| .nil ?_)
          refine EndT.thenN ?_
          refine CodeT.ret (Post.retR1 rfl (((opF s).1, 0)) (by exact (useF_op hl (Classical.not_not.1 c2)).1 (by rw [← h23]; exact Classical.not_not.1 c3) |>.symm) (by rw [h23]; exact fun _ _ _ h => h) (.rt rfl) ?_)
          first | exact VLe.refl _ | exact VLe.int (by omega) | exact VLe.prop (by omega) | exact VLe.prop (by simp_all) | exact VLe.prop (by simp; omega)

theorem sread_spec {sb : Nat} {s : StD} {id : Int} (hp0 : StOk s) : FnE Tryd.prog 89 [addrV sb 0, i64V id] [storeH sb s] (γ := StD × List UInt8 × Nat) (fun g => g = readF s id) (fun g => [storeH sb g.1]) (fun g => tupV [sliceV 1 encU8 g.2.1, i64V (g.2.2 : Int)]) := by
  refine FnE.intro 20 Tryd.func89 rfl rfl rfl fun w0 S0 M => ?_
  refine CodeT.openS fun mb E hE => ?_
  have hum := useF_m s id True
  have hsz := hp0.size
  refine CodeT.seq ?_
  refine CodeT.region (.p (opAssign (.c _)) rfl <| .p (opAssign (.c _)) rfl <| .nil ?_)
  refine EndT.thenN ?_
  refine CodeT.seq ?_
  refine CodeT.seq ?_
  refine CodeT.region (.p (opMove (.t rfl)) rfl <| .p (opMove (.t rfl)) rfl <| .n (opCallE (rest := [_]) (suse_spec (mb := mb) (s := s) (E := E) (id := id) (right := True) hE) Tryd.cb91 (.cons (.t rfl) (.cons (.t rfl) (.cons .ct .nil))) (Perm.idx [0, 1, 2] rfl rfl)) rfl <| fun g9 h9 => .p (opAssign (.t rfl)) rfl <| .nil ?_)
  refine EndT.thenN ?_
  refine CodeT.seq ?_
  refine CodeT.region (.p (opMove (.t rfl)) rfl <| .p (opNeq (.t rfl) (.c _)) rfl <| .nil ?_)
  refine EndT.thenN ?_
  refine CodeT.cond (.t rfl) (fun c0 => ?_) (fun c0 => ?_)
  ·
    subst h9
    refine CodeT.seq ?_
    refine CodeT.region (.p (opMove (.t rfl)) rfl <| .p (opAssign (.c _)) rfl <| .p (opAssign (.t rfl)) rfl <| .nil ?_)
    refine EndT.thenN ?_
    refine CodeT.ret (EndT.thenR (Post.retR rfl rfl (((useF s id True).1, [], (useF s id True).2)) (by exact (readF_bad (by omega)).symm) (store_close (hE.trans hum.1.symm) hum.2.symm) rfl (.cons (.rt rfl) ?_ (.cons (.rt rfl) ?_ .nil))))
    · exact sliceV_nil _ _
    · exact VLe.refl _
  ·
    subst h9
    have h0 : (useF s id True).2 = 0 := by omega
    obtain ⟨_, l, hl⟩ := useF_ok h0
    obtain ⟨b, hb⟩ : ∃ b, lookD E id = some (b, l) := by (rw [← hE, look_cont] at hl; cases hq : lookD E id with | none => (rw [hq] at hl; cases hl) | some p => (rw [hq] at hl; cases hl; exact ⟨p.1, rfl⟩))
    have hll : l.length = s.size := by (obtain ⟨e, he, hel⟩ := lookD_mem hl; have := hp0.len e he; rw [hel] at this; exact this)
    refine CodeT.split1 hb ?_
    refine CodeT.skip (EndT.thenN ?_)
    refine CodeT.seq ?_
    refine CodeT.region (.p (opMove (.t rfl)) rfl <| .p (opNilChkO (.t rfl)) rfl <| .p (opFieldO Tryd.fd92_3 (.t rfl)) rfl <| .p (opLoadO (i := 0) Tryd.ag85 (.t rfl) rfl rfl) rfl <| .p (opMove (.t rfl)) rfl <| .p (opLook (i := 1) Tryd.kt85 Tryd.underlying85 (fun w => run_zv Tryd.zv22 w) (.t rfl) (.t rfl) rfl) rfl <| .n (opCallE (rest := [_, _, _]) (cloneB_spec (b := b) (off := 0) (len := s.size) (l := l) (by omega) (by omega)) Tryd.cb75 (.cons (.le (.t rfl) (VLe.of_eq (show optV _ _ _ = subV b 0 s.size by rw [look_blk, hb]; rfl))) .nil) (Perm.idx [2, 0, 1, 3] rfl rfl)) rfl <| fun g19 h19 => .p (opAssign (.t rfl)) rfl <| .p (opAssign (.c _)) rfl <| .nil ?_)
    refine EndT.thenN ?_
    refine CodeT.ret (Post.retR rfl rfl (((useF s id True).1, l, 0)) (by exact (readF_ok h0 hl).symm) (OLe.trans (OLe.perm (Perm.idx [1, 2, 0, 3] rfl rfl)) (store_closeR hb hE hum.1 hum.2.symm)) rfl (.cons (.rt rfl) ?_ (.cons (.rt rfl) ?_ .nil)))
    · exact VLe.of_eq (by rw [List.drop_zero, List.take_of_length_le (by omega)])
    · exact VLe.refl _

theorem swrite_spec {sb : Nat} {s : StD} {id : Int} {ys : List UInt8} (hp0 : StOk s) : FnE Tryd.prog 70 [addrV sb 0, i64V id, sliceV 1 encU8 ys] [storeH sb s] (γ := StD × Nat) (fun g => g = writeF s id ys) (fun g => [storeH sb g.1]) (fun g => i64V (g.2 : Int)) := by
  refine FnE.intro 33 Tryd.func70 rfl rfl rfl fun w0 S0 M => ?_
  refine CodeT.openS fun mb E hE => ?_
  have hum := useF_m s id (ys.length = s.size)
  have hsz := hp0.size
  refine CodeT.seq ?_
  refine CodeT.region (.p (opAssign (.c _)) rfl <| .nil ?_)
  refine EndT.thenN ?_
  refine CodeT.seq ?_
  refine CodeT.region (.p (opMove (.t rfl)) rfl <| .p (opMove (.t rfl)) rfl <| .p (opMove (.t rfl)) rfl <| .p (opNeqNilO Tryd.underlying28 (.t rfl)) rfl <| .p (opMove (.t rfl)) rfl <| .g (OpG.gT rfl rfl rfl rfl (fun hg => opMove (.t rfl))) rfl rfl <| .g (OpG.gT rfl rfl rfl rfl (fun hg => opLen rfl Tryd.underlying22 (.when (.t rfl) hg))) rfl rfl <| .g (OpG.gT rfl rfl rfl rfl (fun hg => opMove (.t rfl))) rfl rfl <| .g (OpG.gT rfl rfl rfl rfl (fun hg => opNilChkO (.when (.t rfl) hg))) rfl rfl <| .g (OpG.gT rfl rfl rfl rfl (fun hg => opFieldO Tryd.fd92_0 (.when (.t rfl) hg))) rfl rfl <| .g (OpG.gT rfl rfl rfl rfl (fun hg => opLoadO (i := 0) Tryd.ag3 (.when (.t rfl) hg) rfl rfl)) rfl rfl <| .g (OpG.gT rfl rfl rfl rfl (fun hg => opEql (.when (.t rfl) hg) (.when (.t rfl) hg))) rfl rfl <| .p (opAnd (.t rfl) (.t rfl)) rfl <| .n (opCallE (rest := [_]) (suse_spec (mb := mb) (s := s) (E := E) (id := id) (right := ys.length = s.size) hE) Tryd.cb91 (.cons (.t rfl) (.cons (.t rfl) (.cons (.le (.t rfl) (VLe.prop (show _ ↔ ys.length = s.size by simp; omega))) .nil))) (Perm.idx [0, 1, 2] rfl rfl)) rfl <| fun g21 h21 => .p (opAssign (.t rfl)) rfl <| .nil ?_)
  refine EndT.thenN ?_
  refine CodeT.seq ?_
  refine CodeT.seq ?_
  refine CodeT.region (.p (opMove (.t rfl)) rfl <| .p (opEql (.t rfl) (.c _)) rfl <| .nil ?_)
  refine EndT.thenN ?_
  refine CodeT.cond (.t rfl) (fun c0 => ?_) (fun c0 => ?_)
  ·
    subst h21
    have h0 : (useF s id (ys.length = s.size)).2 = 0 := by omega
    obtain ⟨hyl, l, hl⟩ := useF_ok h0
    obtain ⟨b, hb⟩ : ∃ b, lookD E id = some (b, l) := by (rw [← hE, look_cont] at hl; cases hq : lookD E id with | none => (rw [hq] at hl; cases hl) | some p => (rw [hq] at hl; cases hl; exact ⟨p.1, rfl⟩))
    have hll : l.length = s.size := by (obtain ⟨e, he, hel⟩ := lookD_mem hl; have := hp0.len e he; rw [hel] at this; exact this)
    refine CodeT.split1 hb ?_
    refine CodeT.region (.p (opMove (.t rfl)) rfl <| .p (opNilChkO (.t rfl)) rfl <| .p (opFieldO Tryd.fd92_3 (.t rfl)) rfl <| .p (opLoadO (i := 0) Tryd.ag85 (.t rfl) rfl rfl) rfl <| .p (opMove (.t rfl)) rfl <| .p (opLook (i := 1) Tryd.kt85 Tryd.underlying85 (fun w => run_zv Tryd.zv22 w) (.t rfl) (.t rfl) rfl) rfl <| .p (opMove (.t rfl)) rfl <| .n (opCopySub (i := 2) rfl Tryd.underlying22 Tryd.cz5 (.le (.t rfl) (VLe.of_eq (show optV _ _ _ = subV b 0 s.size by rw [look_blk, hb]; rfl))) (.shared (.t rfl)) rfl (by omega) (by omega)) rfl <| fun _ _ => .nil ?_)
    refine EndT.thenN ?_
    refine CodeT.seq ?_
    refine CodeT.region (.p (opMove (.t rfl)) rfl <| .p (opAssign (.t rfl)) rfl <| .nil ?_)
    refine EndT.thenN ?_
    refine CodeT.ret (Post.retR1 rfl (({ (useF s id (ys.length = s.size)).1 with m := setM s.m id ys }, 0)) (by exact (writeF_ok h0).symm) (OLe.trans (OLe.cons _ (OLe.cons _ (OLe.bufE (show l.take 0 ++ ys ++ l.drop (0 + ys.length) = ys by rw [List.take_zero, List.nil_append, Nat.zero_add, List.drop_of_length_le (by omega), List.append_nil])))) (store_close1 (s := { (useF s id (ys.length = s.size)).1 with m := setM s.m id ys }) hb hE (by rw [← hum.1]) hum.2.symm)) (.rt rfl) ?_)
    exact VLe.int (by omega)
  ·
    subst h21
    refine CodeT.skip (EndT.thenN ?_)
    refine CodeT.seq ?_
    refine CodeT.region (.p (opMove (.t rfl)) rfl <| .p (opAssign (.t rfl)) rfl <| .nil ?_)
    refine EndT.thenN ?_
    refine CodeT.ret (Post.retR1 rfl (((useF s id (ys.length = s.size)).1, (useF s id (ys.length = s.size)).2)) (by exact (writeF_bad (by omega)).symm) (store_close (hE.trans hum.1.symm) hum.2.symm) (.rt rfl) ?_)
    exact VLe.refl _

theorem sfree_spec {sb : Nat} {s : StD} {id : Int} : FnE Tryd.prog 78 [addrV sb 0, i64V id] [storeH sb s] (γ := StD × Nat) (fun g => g = freeF s id) (fun g => [storeH sb g.1]) (fun g => i64V (g.2 : Int)) := by
  refine FnE.intro 17 Tryd.func78 rfl rfl rfl fun w0 S0 M => ?_
  refine CodeT.openS fun mb E hE => ?_
  have hum := useF_m s id True
  refine CodeT.seq ?_
  refine CodeT.region (.p (opAssign (.c _)) rfl <| .nil ?_)
  refine EndT.thenN ?_
  refine CodeT.seq ?_
  refine CodeT.region (.p (opMove (.t rfl)) rfl <| .p (opMove (.t rfl)) rfl <| .n (opCallE (rest := [_]) (suse_spec (mb := mb) (s := s) (E := E) (id := id) (right := True) hE) Tryd.cb91 (.cons (.t rfl) (.cons (.t rfl) (.cons .ct .nil))) (Perm.idx [0, 1, 2] rfl rfl)) rfl <| fun g8 h8 => .p (opAssign (.t rfl)) rfl <| .nil ?_)
  refine EndT.thenN ?_
  refine CodeT.seq ?_
  refine CodeT.seq ?_
  refine CodeT.region (.p (opMove (.t rfl)) rfl <| .p (opEql (.t rfl) (.c _)) rfl <| .nil ?_)
  refine EndT.thenN ?_
  refine CodeT.cond (.t rfl) (fun c0 => ?_) (fun c0 => ?_)
  ·
    subst h8
    have h0 : (useF s id True).2 = 0 := by omega
    obtain ⟨_, l, hl⟩ := useF_ok h0
    obtain ⟨b, hb⟩ : ∃ b, lookD E id = some (b, l) := by (rw [← hE, look_cont] at hl; cases hq : lookD E id with | none => (rw [hq] at hl; cases hl) | some p => (rw [hq] at hl; cases hl; exact ⟨p.1, rfl⟩))
    refine CodeT.split1 hb ?_
    refine CodeT.region (.p (opMove (.t rfl)) rfl <| .p (opNilChkO (.t rfl)) rfl <| .p (opFieldO Tryd.fd92_3 (.t rfl)) rfl <| .p (opLoadO (i := 0) Tryd.ag85 (.t rfl) rfl rfl) rfl <| .p (opMove (.t rfl)) rfl <| .s (opDel (i := 1) rfl Tryd.kt85 Tryd.underlying85 (.t rfl) (.t rfl) rfl) <| .nil ?_)
    refine EndT.thenN ?_
    refine CodeT.seq ?_
    refine CodeT.region (.p (opMove (.t rfl)) rfl <| .p (opAssign (.t rfl)) rfl <| .nil ?_)
    refine EndT.thenN ?_
    refine CodeT.ret (Post.retR1 rfl (({ (useF s id True).1 with m := remM s.m id }, 0)) (by exact (freeF_ok h0).symm) (store_closeF (s := { (useF s id True).1 with m := remM s.m id }) (by rw [← hE]) hum.2.symm) (.rt rfl) ?_)
    exact VLe.int (by omega)
  ·
    subst h8
    refine CodeT.skip (EndT.thenN ?_)
    refine CodeT.seq ?_
    refine CodeT.region (.p (opMove (.t rfl)) rfl <| .p (opAssign (.t rfl)) rfl <| .nil ?_)
    refine EndT.thenN ?_
    refine CodeT.ret (Post.retR1 rfl (((useF s id True).1, (useF s id True).2)) (by exact (freeF_bad (by omega)).symm) (store_close (hE.trans hum.1.symm) hum.2.symm) (.rt rfl) ?_)
    exact VLe.refl _

theorem ssize_spec {sb : Nat} {s : StD} : FnE Tryd.prog 39 [addrV sb 0] [storeH sb s] (γ := Unit) (fun _ => True) (fun _ => [storeH sb s]) (fun _ => i64V (s.size : Int)) := by
  refine FnE.intro 9 Tryd.func39 rfl rfl rfl fun w0 S0 M => ?_
  refine CodeT.openS fun mb E hE => ?_
  refine CodeT.seq ?_
  refine CodeT.region (.p (opAssign (.c _)) rfl <| .nil ?_)
  refine EndT.thenN ?_
  refine CodeT.seq ?_
  refine CodeT.seq ?_
  refine CodeT.region (.p (opMove (.t rfl)) rfl <| .p (opEqlNilO Tryd.underlying28 (.t rfl)) rfl <| .nil ?_)
  refine EndT.thenN ?_
  refine CodeT.cond (.t rfl) (fun c0 => ?_) (fun c0 => ?_)
  ·
    exact c0.elim
  ·
    refine CodeT.skip (EndT.thenN ?_)
    refine CodeT.seq ?_
    refine CodeT.region (.p (opMove (.t rfl)) rfl <| .p (opNilChkO (.t rfl)) rfl <| .p (opFieldO Tryd.fd92_0 (.t rfl)) rfl <| .p (opLoadO (i := 0) Tryd.ag3 (.t rfl) rfl rfl) rfl <| .p (opAssign (.t rfl)) rfl <| .nil ?_)
    refine EndT.thenN ?_
    refine CodeT.ret (Post.retR1 rfl (()) (by trivial) (store_close hE rfl) (.rt rfl) ?_)
    first | exact VLe.refl _ | exact VLe.int (by omega) | exact VLe.prop (by omega) | exact VLe.prop (by simp_all) | exact VLe.prop (by simp; omega)

theorem sused_spec {sb : Nat} {s : StD} : FnE Tryd.prog 17 [addrV sb 0] [storeH sb s] (γ := Unit) (fun _ => True) (fun _ => [storeH sb s]) (fun _ => i64V (s.m.length : Int)) := by
  refine FnE.intro 10 Tryd.func17 rfl rfl rfl fun w0 S0 M => ?_
  refine CodeT.openS fun mb E hE => ?_
  have hlen : s.m.length = E.length := by (rw [← hE]; simp [contM])
  refine CodeT.seq ?_
  refine CodeT.region (.p (opAssign (.c _)) rfl <| .nil ?_)
  refine EndT.thenN ?_
  refine CodeT.seq ?_
  refine CodeT.seq ?_
  refine CodeT.region (.p (opMove (.t rfl)) rfl <| .p (opEqlNilO Tryd.underlying28 (.t rfl)) rfl <| .nil ?_)
  refine EndT.thenN ?_
  refine CodeT.cond (.t rfl) (fun c0 => ?_) (fun c0 => ?_)
  ·
    exact c0.elim
  ·
    refine CodeT.skip (EndT.thenN ?_)
    refine CodeT.seq ?_
    refine CodeT.region (.p (opMove (.t rfl)) rfl <| .p (opNilChkO (.t rfl)) rfl <| .p (opFieldO Tryd.fd92_3 (.t rfl)) rfl <| .p (opLoadO (i := 0) Tryd.ag85 (.t rfl) rfl rfl) rfl <| .p (opLenM (i := 1) rfl Tryd.underlying85 (.t rfl) rfl) rfl <| .p (opAssign (.t rfl)) rfl <| .nil ?_)
    refine EndT.thenN ?_
    refine CodeT.ret (Post.retR1 rfl (()) (by trivial) (store_close hE rfl) (.rt rfl) ?_)
    exact VLe.int (by rw [hlen]; simp)

end Go.Proofs.YtiicgelmdmhajaaDoor
