/-
  Walks, printed by a program (gen.py) out of what its author says of each function.
-/
import Derived.Test.YtiicgelmdmhajaaDoorP08Y
import Derived.Test.YtiicgelmdmhajaaDoorP08C
namespace Go.Proofs.YtiicgelmdmhajaaDoor
open Go.Hl Go.RowKit
set_option linter.unusedVariables false
set_option maxRecDepth 100000

theorem sclone_spec {ys : List UInt8} (hp0 : ys.length ≤ 4194304) : FnP Tryd.prog 51 [sliceV 1 encU8 ys] (sliceV 1 encU8 ys) := by
  refine FnE.intro 8 Tryd.func51 rfl rfl rfl fun w0 S0 M => ?_
  refine CodeT.nilCase (t := 0) rfl fun p hnil => ?_
  refine CodeT.seq ?_
  refine CodeT.region (.p (opAssign (.c _)) rfl <| .nil ?_)
  refine EndT.thenN ?_
  refine CodeT.seq ?_
  refine CodeT.seq ?_
  refine CodeT.region (.p (opMove (.t rfl)) rfl <| .p (opEqlNilN Tryd.underlying22 (.t rfl) (.c _)) rfl <| .nil ?_)
  refine EndT.thenN ?_
  refine CodeT.cond (.t rfl) (fun c0 => ?_) (fun c0 => ?_)
  ·
    refine CodeT.seq ?_
    refine CodeT.region (.p (opAssign (.c _)) rfl <| .nil ?_)
    refine EndT.thenN ?_
    refine CodeT.ret (EndT.thenR (Post.retP rfl rfl ?_))
    exact (hnil c0) ▸ sliceV_nil _ _
  ·
    refine CodeT.skip (EndT.thenN ?_)
    refine CodeT.seq ?_
    refine CodeT.region (.p (opBuildEmpty Tryd.underlying22 Tryd.cz5 rfl Tryd.zb5 rfl) rfl <| .p (opMove (.t rfl)) rfl <| .p (opAppendE Tryd.underlying22 Tryd.underlying22 Tryd.cz5 rfl Tryd.zb5 rfl Tryd.by5 (.t rfl) (.le (.t rfl) sliceNV_le) (by omega)) rfl <| .p (opAssign (.t rfl)) rfl <| .nil ?_)
    refine EndT.thenN ?_
    refine CodeT.ret (Post.retP rfl rfl ?_)
    exact VLe.refl _

theorem mload_spec {mb : Nat} {mm : SpD} {X : PgI} {z q m : Nat} {T : PgD → Prop} {C : Cont} {R : ArD → HP} {a o : Nat} {n : Int} (hp0 : RestOk X R) (hp1 : 0 < z) (hp2 : z ≤ 1024) (hp3 : SpOk mm) (hp4 : a < 18446744073709551616) (hp5 : o < 18446744073709551616) : FnE Tryd.prog 23 [addrV mb 0, intV .u64 (a : Int), intV .u64 (o : Int), i64V n] [spaceH mb X.pb mm, pagH X z q T C m R] (γ := Unit) (fun _ => True) (fun _ => [spaceH mb X.pb mm, pagH X z q (fun _ => True) C m R]) (fun _ => tupV [sliceV 1 encU8 (if (wrongS mm.pages a o n).2 = (0, 0) then memR z C mm.num (a + o) (n : Int).toNat else []), i64V ((wrongS mm.pages a o n).2.1 : Int), i64V ((wrongS mm.pages a o n).2.2 : Int)]) := by
  refine FnE.intro 41 Tryd.func23 rfl rfl rfl fun w0 S0 M => ?_
  have hnum := hp3.num; have hmo := hp3.most; have hpm := hp3.pages
  refine CodeT.seq ?_
  refine CodeT.region (.p (opAssign (.c _)) rfl <| .p (opAssign (.c _)) rfl <| .p (opAssign (.c _)) rfl <| .nil ?_)
  refine EndT.thenN ?_
  refine CodeT.seq ?_
  refine CodeT.region (.p (opMove (.t rfl)) rfl <| .p (opMove (.t rfl)) rfl <| .p (opMove (.t rfl)) rfl <| .p (opMove (.t rfl)) rfl <| .n ((opCallE (rest := [_]) (mwrong_spec (mb := mb) (pb := X.pb) (mm := mm) (a := a) (o := o) (n := n) hp3 hp4 hp5) Tryd.cb49 (.cons (.t rfl) (.cons (.t rfl) (.cons (.t rfl) (.cons (.t rfl) .nil)))) (Perm.idx [0, 1] rfl rfl)).same (fun _ _ => OLe.refl _) (fun _ _ => VLe.refl _)) rfl <| fun _ _ => .p (opMove (.t rfl)) rfl <| .p (opExtract (.t rfl) rfl) rfl <| .p (opExtract (.t rfl) rfl) rfl <| .p (opExtract (.t rfl) rfl) rfl <| .p (opAssign (.t rfl)) rfl <| .p (opAssign (.t rfl)) rfl <| .p (opAssign (.t rfl)) rfl <| .nil ?_)
  refine EndT.thenN ?_
  refine CodeT.seq ?_
  refine CodeT.seq ?_
  refine CodeT.region (.p (opMove (.t rfl)) rfl <| .p (opNeq (.t rfl) (.c _)) rfl <| .p (opMove (.t rfl)) rfl <| .g (OpG.gF rfl rfl rfl rfl (fun hg => opMove (.t rfl))) rfl rfl <| .g (OpG.gF rfl rfl rfl rfl (fun hg => opNeq (.when (.t rfl) hg) (.c _))) rfl rfl <| .p (opOr (.t rfl) (.t rfl)) rfl <| .nil ?_)
  refine EndT.thenN ?_
  refine CodeT.cond (.t rfl) (fun c0 => ?_) (fun c0 => ?_)
  ·
    have hne : ¬ (wrongS mm.pages a o n).2 = (0, 0) := fun e => by (have e1 := congrArg Prod.fst e; have e2 := congrArg Prod.snd e; simp only at e1 e2; rcases c0 with h | h; exact h (by rw [e1]; rfl); exact h (by rw [e2]; rfl))
    refine CodeT.seq ?_
    refine CodeT.region (.p (opMove (.t rfl)) rfl <| .p (opMove (.t rfl)) rfl <| .p (opAssign (.c _)) rfl <| .p (opAssign (.t rfl)) rfl <| .p (opAssign (.t rfl)) rfl <| .nil ?_)
    refine EndT.thenN ?_
    refine CodeT.ret (EndT.thenR (Post.retR rfl rfl (()) (by trivial) (OLe.cons _ (pag_any fun _ _ => trivial)) rfl (.cons (.rt rfl) ?_ (.cons (.rt rfl) ?_ (.cons (.rt rfl) ?_ .nil)))))
    · exact (sliceV_nil _ _).trans (VLe.of_eq (by rw [if_neg hne]))
    · exact VLe.refl _
    · exact VLe.refl _
  ·
    have he0 : (wrongS mm.pages a o n).2 = (0, 0) := Prod.ext (by (have h9 := mt Or.inl c0; simp only [Classical.not_not] at h9; show (wrongS mm.pages a o n).2.1 = 0; omega)) (by (have h9 := mt Or.inr c0; simp only [Classical.not_not] at h9; show (wrongS mm.pages a o n).2.2 = 0; omega))
    obtain ⟨hn0, hn1, hin, hw1⟩ := wrongS_in (.inr he0)
    refine CodeT.skip (EndT.thenN ?_)
    refine CodeT.seq ?_
    refine CodeT.region (.p (opMove (.t rfl)) rfl <| .p (opMove (.t rfl)) rfl <| .p (opMove (.t rfl)) rfl <| .n (opCallE (rest := []) (mread_spec (mb := mb) (mm := mm) (X := X) (z := z) (q := q) (m := m) (T := T) (C := C) (R := R) (a := a + o) (n := n.toNat) hp0 hp1 hp2 hnum (by omega) (by omega)) Tryd.cb52 (.cons (.t rfl) (.cons (.le (.t rfl) (VLe.int (by rw [hw1]))) (.cons (.le (.t rfl) (VLe.int (show _ = ((n.toNat : Nat) : Int) by omega))) .nil))) (Perm.idx [0, 1] rfl rfl)) rfl <| fun g36 h36 => .p (opMove (.t rfl)) rfl <| .p (opExtract (.t rfl) rfl) rfl <| .p (opExtract (.t rfl) rfl) rfl <| .p (opAssign (.t rfl)) rfl <| .p (opAssign (.t rfl)) rfl <| .nil ?_)
    refine EndT.thenN ?_
    refine CodeT.seq ?_
    refine CodeT.region (.p (opMove (.t rfl)) rfl <| .p (opMove (.t rfl)) rfl <| .p (opAssign (.t rfl)) rfl <| .p (opAssign (.c _)) rfl <| .p (opAssign (.t rfl)) rfl <| .nil ?_)
    refine EndT.thenN ?_
    refine CodeT.ret (Post.retR rfl rfl (()) (by trivial) (fun _ _ _ h => h) rfl (.cons (.rt rfl) ?_ (.cons (.rt rfl) ?_ (.cons (.rt rfl) ?_ .nil))))
    · exact VLe.of_eq (by rw [if_pos he0])
    · exact VLe.int (by rw [he0]; rfl)
    · exact VLe.int (by rw [he0]; rfl)

theorem mstore_spec {mb : Nat} {mm : SpD} {X : PgI} {z q m : Nat} {T : PgD → Prop} {C : Cont} {R : ArD → HP} {a o : Nat} {ys : List UInt8} (hp0 : RestOk X R) (hp1 : 0 < z) (hp2 : z ≤ 1024) (hp3 : SpOk mm) (hp4 : a < 18446744073709551616) (hp5 : o < 18446744073709551616) (hp6 : m + (ys.length / z + 2) ≤ q) (hp7 : ys.length ≤ 4194304) : FnE Tryd.prog 21 [addrV mb 0, intV .u64 (a : Int), intV .u64 (o : Int), sliceV 1 encU8 ys] [spaceH mb X.pb mm, pagH X z q T C m R] (γ := Unit) (fun _ => True) (fun _ => [spaceH mb X.pb mm, pagH X z q (fun _ => True) (if (wrongS mm.pages a o (ys.length : Int)).2 = (0, 0) then wrC z C mm.num (a + o) ys else C) (m + (ys.length / z + 2)) R]) (fun _ => tupV [i64V ((wrongS mm.pages a o (ys.length : Int)).2.1 : Int), i64V ((wrongS mm.pages a o (ys.length : Int)).2.2 : Int)]) := by
  refine FnE.intro 36 Tryd.func21 rfl rfl rfl fun w0 S0 M => ?_
  have hnum := hp3.num; have hmo := hp3.most; have hpm := hp3.pages
  refine CodeT.seq ?_
  refine CodeT.region (.p (opAssign (.c _)) rfl <| .p (opAssign (.c _)) rfl <| .nil ?_)
  refine EndT.thenN ?_
  refine CodeT.seq ?_
  refine CodeT.region (.p (opMove (.t rfl)) rfl <| .p (opMove (.t rfl)) rfl <| .p (opMove (.t rfl)) rfl <| .p (opMove (.t rfl)) rfl <| .p (opLen rfl Tryd.underlying22 (.t rfl)) rfl <| .n ((opCallE (rest := [_]) (mwrong_spec (mb := mb) (pb := X.pb) (mm := mm) (a := a) (o := o) (n := (ys.length : Int)) hp3 hp4 hp5) Tryd.cb49 (.cons (.t rfl) (.cons (.t rfl) (.cons (.t rfl) (.cons (.t rfl) .nil)))) (Perm.idx [0, 1] rfl rfl)).same (fun _ _ => OLe.refl _) (fun _ _ => VLe.refl _)) rfl <| fun _ _ => .p (opMove (.t rfl)) rfl <| .p (opExtract (.t rfl) rfl) rfl <| .p (opExtract (.t rfl) rfl) rfl <| .p (opExtract (.t rfl) rfl) rfl <| .p (opAssign (.t rfl)) rfl <| .p (opAssign (.t rfl)) rfl <| .p (opAssign (.t rfl)) rfl <| .nil ?_)
  refine EndT.thenN ?_
  refine CodeT.seq ?_
  refine CodeT.seq ?_
  refine CodeT.region (.p (opMove (.t rfl)) rfl <| .p (opNeq (.t rfl) (.c _)) rfl <| .p (opMove (.t rfl)) rfl <| .g (OpG.gF rfl rfl rfl rfl (fun hg => opMove (.t rfl))) rfl rfl <| .g (OpG.gF rfl rfl rfl rfl (fun hg => opNeq (.when (.t rfl) hg) (.c _))) rfl rfl <| .p (opOr (.t rfl) (.t rfl)) rfl <| .nil ?_)
  refine EndT.thenN ?_
  refine CodeT.cond (.t rfl) (fun c0 => ?_) (fun c0 => ?_)
  ·
    have hne : ¬ (wrongS mm.pages a o (ys.length : Int)).2 = (0, 0) := fun e => by (have e1 := congrArg Prod.fst e; have e2 := congrArg Prod.snd e; simp only at e1 e2; rcases c0 with h | h; exact h (by rw [e1]; rfl); exact h (by rw [e2]; rfl))
    refine CodeT.seq ?_
    refine CodeT.region (.p (opMove (.t rfl)) rfl <| .p (opMove (.t rfl)) rfl <| .p (opAssign (.t rfl)) rfl <| .p (opAssign (.t rfl)) rfl <| .nil ?_)
    refine EndT.thenN ?_
    refine CodeT.ret (EndT.thenR (Post.retR rfl rfl (()) (by trivial) (OLe.cons _ (OLe.trans (pag_any (T' := fun _ => True) fun _ _ => trivial) (OLe.trans (pag_less (Nat.le_add_right _ _)) (OLe.headE (by rw [if_neg hne]))))) rfl (.cons (.rt rfl) ?_ (.cons (.rt rfl) ?_ .nil))))
    · exact VLe.refl _
    · exact VLe.refl _
  ·
    have he0 : (wrongS mm.pages a o (ys.length : Int)).2 = (0, 0) := Prod.ext (by (have h9 := mt Or.inl c0; simp only [Classical.not_not] at h9; show (wrongS mm.pages a o (ys.length : Int)).2.1 = 0; omega)) (by (have h9 := mt Or.inr c0; simp only [Classical.not_not] at h9; show (wrongS mm.pages a o (ys.length : Int)).2.2 = 0; omega))
    obtain ⟨hn0, hn1, hin, hw1⟩ := wrongS_in (.inr he0)
    refine CodeT.skip (EndT.thenN ?_)
    refine CodeT.seq ?_
    refine CodeT.region (.p (opMove (.t rfl)) rfl <| .p (opMove (.t rfl)) rfl <| .p (opMove (.t rfl)) rfl <| .p (opCall (sclone_spec (by omega)) Tryd.cb51 (.cons (.t rfl) .nil)) rfl <| .n (opCallE (rest := []) (mwrite_spec (mb := mb) (mm := mm) (X := X) (z := z) (q := q) (m := m) (T := T) (C := C) (R := R) (a := a + o) (ys := ys) hp0 hp1 hp2 hnum (by omega) hp6) Tryd.cb50 (.cons (.t rfl) (.cons (.le (.t rfl) (VLe.int (by rw [hw1]))) (.cons (.t rfl) .nil))) (Perm.idx [0, 1] rfl rfl)) rfl <| fun g35 h35 => .p (opAssign (.c _)) rfl <| .p (opAssign (.t rfl)) rfl <| .nil ?_)
    refine EndT.thenN ?_
    refine CodeT.ret (Post.retR rfl rfl (()) (by trivial) (OLe.cons _ (OLe.headE (by rw [if_pos he0]))) rfl (.cons (.rt rfl) ?_ (.cons (.rt rfl) ?_ .nil)))
    · exact VLe.int (by rw [he0]; rfl)
    · exact VLe.int (by rw [he0]; rfl)

theorem mcopy_spec {mb mf : Nat} {mm mw : SpD} {X : PgI} {z q m : Nat} {T : PgD → Prop} {C : Cont} {R : ArD → HP} {a t n : Nat} (hp0 : RestOk X R) (hp1 : 0 < z) (hp2 : z ≤ 1024) (hp3 : SpOk mm) (hp4 : SpOk mw) (hp5 : t < 18446744073709551616) (hp6 : a < 18446744073709551616) (hp7 : n < 18446744073709551616) (hp8 : n ≤ 1048576 → m + (n / z + 2) ≤ q) : FnE Tryd.prog 25 [addrV mb 0, addrV mf 0, intV .u64 (t : Int), intV .u64 (a : Int), intV .u64 (n : Int)] [spaceH mb X.pb mm, spaceH mf X.pb mw, pagH X z q T C m R] (γ := Unit) (fun _ => True) (fun _ => [spaceH mb X.pb mm, spaceH mf X.pb mw, pagH X z q (fun _ => True) (if (copyS mm.pages mw.pages t a n) = (0, 0) then wrC z C mm.num t (memR z C mw.num a n) else C) (if (copyS mm.pages mw.pages t a n) = (0, 0) then m + (n / z + 2) else m) R]) (fun _ => tupV [i64V ((copyS mm.pages mw.pages t a n).1 : Int), i64V ((copyS mm.pages mw.pages t a n).2 : Int)]) := by
  refine FnE.intro 50 Tryd.func25 rfl rfl rfl fun w0 S0 M => ?_
  have hnum := hp3.num; have hmo := hp3.most; have hpm := hp3.pages
  have hnuw := hp4.num; have hmow := hp4.most; have hpmw := hp4.pages
  refine CodeT.seq ?_
  refine CodeT.region (.p (opAssign (.c _)) rfl <| .p (opAssign (.c _)) rfl <| .nil ?_)
  refine EndT.thenN ?_
  refine CodeT.seq ?_
  refine CodeT.block ?_
  refine CodeT.seq ?_
  refine CodeT.region (.p (opMove (.t rfl)) rfl <| .p (opEqlNilO Tryd.underlying39 (.t rfl)) rfl <| .p (opMove (.t rfl)) rfl <| .g (OpG.gF rfl rfl rfl rfl (fun hg => opMove (.t rfl))) rfl rfl <| .g (OpG.gF rfl rfl rfl rfl (fun hg => opEqlNilO Tryd.underlying39 (.when (.t rfl) hg))) rfl rfl <| .p (opOr (.t rfl) (.t rfl)) rfl <| .p (opAssign (.t rfl)) rfl <| .nil ?_)
  refine EndT.thenN ?_
  refine CodeT.cond (.t rfl) (fun c0 => ?_) (fun c0 => ?_)
  ·
    exact (c0.elim id id).elim
  ·
    refine CodeT.seq ?_
    refine CodeT.region (.p (opMove (.t rfl)) rfl <| .p (opMove (.t rfl)) rfl <| .p (opMove (.t rfl)) rfl <| .n ((opCallE (rest := [_, _]) (mbeyond_spec (mb := mb) (pb := X.pb) (mm := mm) (a := t) (n := n) (by omega) hp5 hp7) Tryd.cb53 (.cons (.t rfl) (.cons (.t rfl) (.cons (.t rfl) .nil))) (Perm.idx [0, 1, 2] rfl rfl)).same (fun _ _ => OLe.refl _) (fun _ _ => VLe.refl _)) rfl <| fun _ _ => .p (opMove (.t rfl)) rfl <| .g (OpG.gF rfl rfl rfl rfl (fun hg => opMove (.t rfl))) rfl rfl <| .g (OpG.gF rfl rfl rfl rfl (fun hg => opMove (.t rfl))) rfl rfl <| .g (OpG.gF rfl rfl rfl rfl (fun hg => opMove (.t rfl))) rfl rfl <| .egF rfl rfl rfl rfl (fun hg => ((opCallE (rest := [_, _]) (mbeyond_spec (mb := mf) (pb := X.pb) (mm := mw) (a := a) (n := n) (by omega) hp6 hp7) Tryd.cb53 (.cons (.when (.t rfl) hg) (.cons (.when (.t rfl) hg) (.cons (.when (.t rfl) hg) .nil))) (Perm.idx [1, 0, 2] rfl rfl)).same (fun _ _ => OLe.perm (Perm.idx [1, 0, 2] rfl rfl)) (fun _ _ => VLe.refl _)).same (fun _ _ => OLe.refl _) (fun _ _ => VLe.refl _)) rfl rfl <| .p (opOr (.t rfl) (.t rfl)) rfl <| .p (opAssign (.t rfl)) rfl <| .nil ?_)
    refine EndT.thenN ?_
    refine CodeT.cond (.t rfl) (fun c1 => ?_) (fun c1 => ?_)
    ·
      have hb1 : beyondS mm.pages t n ↔ mm.pages * 65536 < t + n := Iff.rfl
      have hb2 : beyondS mw.pages a n ↔ mw.pages * 65536 < a + n := Iff.rfl
      have hcs : copyS mm.pages mw.pages t a n = (4, 0) := by unfold copyS; rw [if_pos c1]
      refine CodeT.seq ?_
      refine CodeT.region (.p (opAssign (.c _)) rfl <| .p (opAssign (.c _)) rfl <| .nil ?_)
      refine EndT.thenN ?_
      refine CodeT.ret (EndT.blkR (EndT.thenR (Post.retR rfl rfl (()) (by trivial) (OLe.cons _ (OLe.cons _ (OLe.trans (pag_any (T' := fun _ => True) fun _ _ => trivial) (OLe.headE (by rw [hcs]; rfl))))) rfl (.cons (.rt rfl) ?_ (.cons (.rt rfl) ?_ .nil)))))
      · exact VLe.int (by rw [hcs]; rfl)
      · exact VLe.int (by rw [hcs]; rfl)
    ·
      have hb1 : beyondS mm.pages t n ↔ mm.pages * 65536 < t + n := Iff.rfl
      have hb2 : beyondS mw.pages a n ↔ mw.pages * 65536 < a + n := Iff.rfl
      refine CodeT.seq ?_
      refine CodeT.region (.p (opMove (.t rfl)) rfl <| .p (opGtr (.t rfl) (.c _)) rfl <| .p (opAssign (.t rfl)) rfl <| .nil ?_)
      refine EndT.thenN ?_
      refine CodeT.cond (.t rfl) (fun c2 => ?_) (fun c2 => ?_)
      ·
        have hcs : copyS mm.pages mw.pages t a n = (0, 15) := by unfold copyS; rw [if_neg c1, if_pos (by omega)]
        refine CodeT.seq ?_
        refine CodeT.region (.p (opAssign (.c _)) rfl <| .p (opAssign (.c _)) rfl <| .nil ?_)
        refine EndT.thenN ?_
        refine CodeT.ret (EndT.blkR (EndT.thenR (Post.retR rfl rfl (()) (by trivial) (OLe.cons _ (OLe.cons _ (OLe.trans (pag_any (T' := fun _ => True) fun _ _ => trivial) (OLe.headE (by rw [hcs]; rfl))))) rfl (.cons (.rt rfl) ?_ (.cons (.rt rfl) ?_ .nil)))))
        · exact VLe.int (by rw [hcs]; rfl)
        · exact VLe.int (by rw [hcs]; rfl)
      ·
        have hcs : copyS mm.pages mw.pages t a n = (0, 0) := by unfold copyS; rw [if_neg c1, if_neg (by omega)]
        have hc1 := mt (fun h => Or.inl (hb1.2 h)) c1
        have hc2 := mt (fun h => Or.inr (hb2.2 h)) c1
        refine CodeT.skip (EndT.blkN (EndT.thenN ?_))
        refine CodeT.seq ?_
        refine CodeT.region (.p (opMove (.t rfl)) rfl <| .p (opMove (.t rfl)) rfl <| .p (opMove (.t rfl)) rfl <| .p (opConvF Tryd.underlying46 Tryd.underlying3 (.t rfl) (fits_i64 (by omega) (by omega))) rfl <| .n (opCallE (rest := [_]) (mread_spec (mb := mf) (mm := mw) (X := X) (z := z) (q := q) (m := m) (T := T) (C := C) (R := R) (a := a) (n := n) hp0 hp1 hp2 hnuw (by omega) (by omega)) Tryd.cb52 (.cons (.t rfl) (.cons (.t rfl) (.cons (.t rfl) .nil))) (Perm.idx [1, 2, 0] rfl rfl)) rfl <| fun g40 h40 => .p (opMove (.t rfl)) rfl <| .p (opExtract (.t rfl) rfl) rfl <| .p (opExtract (.t rfl) rfl) rfl <| .p (opAssign (.t rfl)) rfl <| .p (opAssign (.t rfl)) rfl <| .nil ?_)
        refine EndT.thenN ?_
        refine CodeT.seq ?_
        refine CodeT.seq ?_
        refine CodeT.region (.p (opMove (.t rfl)) rfl <| .p (opNeq (.t rfl) (.c _)) rfl <| .nil ?_)
        refine EndT.thenN ?_
        refine CodeT.cond (.t rfl) (fun c3 => ?_) (fun c3 => ?_)
        ·
          exact absurd rfl c3
        ·
          refine CodeT.skip (EndT.thenN ?_)
          refine CodeT.seq ?_
          refine CodeT.region (.p (opMove (.t rfl)) rfl <| .p (opMove (.t rfl)) rfl <| .p (opMove (.t rfl)) rfl <| .n (opCallE (rest := [_]) (mwrite_spec (mb := mb) (mm := mm) (X := X) (z := z) (q := q) (m := m) (T := fun _ => True) (C := C) (R := R) (a := t) (ys := memR z C mw.num a n) hp0 hp1 hp2 hnum (by rw [memR_len]; omega) (by rw [memR_len]; exact hp8 (by omega))) Tryd.cb50 (.cons (.t rfl) (.cons (.t rfl) (.cons (.t rfl) .nil))) (Perm.idx [2, 1, 0] rfl rfl)) rfl <| fun g49 h49 => .p (opAssign (.c _)) rfl <| .p (opAssign (.t rfl)) rfl <| .nil ?_)
          refine EndT.thenN ?_
          refine CodeT.ret (Post.retR rfl rfl (()) (by trivial) (OLe.trans (OLe.perm (Perm.idx [0, 2, 1] rfl rfl)) (OLe.cons _ (OLe.cons _ (OLe.headE (by rw [hcs, memR_len]; rfl))))) rfl (.cons (.rt rfl) ?_ (.cons (.rt rfl) ?_ .nil)))
          · exact VLe.int (by rw [hcs]; rfl)
          · exact VLe.int (by rw [hcs]; rfl)

theorem mcopySelf_spec {mb : Nat} {mm : SpD} {X : PgI} {z q m : Nat} {T : PgD → Prop} {C : Cont} {R : ArD → HP} {a t n : Nat} (hp0 : RestOk X R) (hp1 : 0 < z) (hp2 : z ≤ 1024) (hp3 : SpOk mm) (hp4 : SpOk mm) (hp5 : t < 18446744073709551616) (hp6 : a < 18446744073709551616) (hp7 : n < 18446744073709551616) (hp8 : n ≤ 1048576 → m + (n / z + 2) ≤ q) : FnE Tryd.prog 25 [addrV mb 0, addrV mb 0, intV .u64 (t : Int), intV .u64 (a : Int), intV .u64 (n : Int)] [spaceH mb X.pb mm, pagH X z q T C m R] (γ := Unit) (fun _ => True) (fun _ => [spaceH mb X.pb mm, pagH X z q (fun _ => True) (if (copyS mm.pages mm.pages t a n) = (0, 0) then wrC z C mm.num t (memR z C mm.num a n) else C) (if (copyS mm.pages mm.pages t a n) = (0, 0) then m + (n / z + 2) else m) R]) (fun _ => tupV [i64V ((copyS mm.pages mm.pages t a n).1 : Int), i64V ((copyS mm.pages mm.pages t a n).2 : Int)]) := by
  refine FnE.intro 50 Tryd.func25 rfl rfl rfl fun w0 S0 M => ?_
  have hnum := hp3.num; have hmo := hp3.most; have hpm := hp3.pages
  have hnuw := hp4.num; have hmow := hp4.most; have hpmw := hp4.pages
  refine CodeT.seq ?_
  refine CodeT.region (.p (opAssign (.c _)) rfl <| .p (opAssign (.c _)) rfl <| .nil ?_)
  refine EndT.thenN ?_
  refine CodeT.seq ?_
  refine CodeT.block ?_
  refine CodeT.seq ?_
  refine CodeT.region (.p (opMove (.t rfl)) rfl <| .p (opEqlNilO Tryd.underlying39 (.t rfl)) rfl <| .p (opMove (.t rfl)) rfl <| .g (OpG.gF rfl rfl rfl rfl (fun hg => opMove (.t rfl))) rfl rfl <| .g (OpG.gF rfl rfl rfl rfl (fun hg => opEqlNilO Tryd.underlying39 (.when (.t rfl) hg))) rfl rfl <| .p (opOr (.t rfl) (.t rfl)) rfl <| .p (opAssign (.t rfl)) rfl <| .nil ?_)
  refine EndT.thenN ?_
  refine CodeT.cond (.t rfl) (fun c0 => ?_) (fun c0 => ?_)
  ·
    exact (c0.elim id id).elim
  ·
    refine CodeT.seq ?_
    refine CodeT.region (.p (opMove (.t rfl)) rfl <| .p (opMove (.t rfl)) rfl <| .p (opMove (.t rfl)) rfl <| .n ((opCallE (rest := [_]) (mbeyond_spec (mb := mb) (pb := X.pb) (mm := mm) (a := t) (n := n) (by omega) hp5 hp7) Tryd.cb53 (.cons (.t rfl) (.cons (.t rfl) (.cons (.t rfl) .nil))) (Perm.idx [0, 1] rfl rfl)).same (fun _ _ => OLe.refl _) (fun _ _ => VLe.refl _)) rfl <| fun _ _ => .p (opMove (.t rfl)) rfl <| .g (OpG.gF rfl rfl rfl rfl (fun hg => opMove (.t rfl))) rfl rfl <| .g (OpG.gF rfl rfl rfl rfl (fun hg => opMove (.t rfl))) rfl rfl <| .g (OpG.gF rfl rfl rfl rfl (fun hg => opMove (.t rfl))) rfl rfl <| .egF rfl rfl rfl rfl (fun hg => ((opCallE (rest := [_]) (mbeyond_spec (mb := mb) (pb := X.pb) (mm := mm) (a := a) (n := n) (by omega) hp6 hp7) Tryd.cb53 (.cons (.when (.t rfl) hg) (.cons (.when (.t rfl) hg) (.cons (.when (.t rfl) hg) .nil))) (Perm.idx [0, 1] rfl rfl)).same (fun _ _ => OLe.refl _) (fun _ _ => VLe.refl _)).same (fun _ _ => OLe.refl _) (fun _ _ => VLe.refl _)) rfl rfl <| .p (opOr (.t rfl) (.t rfl)) rfl <| .p (opAssign (.t rfl)) rfl <| .nil ?_)
    refine EndT.thenN ?_
    refine CodeT.cond (.t rfl) (fun c1 => ?_) (fun c1 => ?_)
    ·
      have hb1 : beyondS mm.pages t n ↔ mm.pages * 65536 < t + n := Iff.rfl
      have hb2 : beyondS mm.pages a n ↔ mm.pages * 65536 < a + n := Iff.rfl
      have hcs : copyS mm.pages mm.pages t a n = (4, 0) := by unfold copyS; rw [if_pos c1]
      refine CodeT.seq ?_
      refine CodeT.region (.p (opAssign (.c _)) rfl <| .p (opAssign (.c _)) rfl <| .nil ?_)
      refine EndT.thenN ?_
      refine CodeT.ret (EndT.blkR (EndT.thenR (Post.retR rfl rfl (()) (by trivial) (OLe.cons _ ((OLe.trans (pag_any (T' := fun _ => True) fun _ _ => trivial) (OLe.headE (by rw [hcs]; rfl))))) rfl (.cons (.rt rfl) ?_ (.cons (.rt rfl) ?_ .nil)))))
      · exact VLe.int (by rw [hcs]; rfl)
      · exact VLe.int (by rw [hcs]; rfl)
    ·
      have hb1 : beyondS mm.pages t n ↔ mm.pages * 65536 < t + n := Iff.rfl
      have hb2 : beyondS mm.pages a n ↔ mm.pages * 65536 < a + n := Iff.rfl
      refine CodeT.seq ?_
      refine CodeT.region (.p (opMove (.t rfl)) rfl <| .p (opGtr (.t rfl) (.c _)) rfl <| .p (opAssign (.t rfl)) rfl <| .nil ?_)
      refine EndT.thenN ?_
      refine CodeT.cond (.t rfl) (fun c2 => ?_) (fun c2 => ?_)
      ·
        have hcs : copyS mm.pages mm.pages t a n = (0, 15) := by unfold copyS; rw [if_neg c1, if_pos (by omega)]
        refine CodeT.seq ?_
        refine CodeT.region (.p (opAssign (.c _)) rfl <| .p (opAssign (.c _)) rfl <| .nil ?_)
        refine EndT.thenN ?_
        refine CodeT.ret (EndT.blkR (EndT.thenR (Post.retR rfl rfl (()) (by trivial) (OLe.cons _ ((OLe.trans (pag_any (T' := fun _ => True) fun _ _ => trivial) (OLe.headE (by rw [hcs]; rfl))))) rfl (.cons (.rt rfl) ?_ (.cons (.rt rfl) ?_ .nil)))))
        · exact VLe.int (by rw [hcs]; rfl)
        · exact VLe.int (by rw [hcs]; rfl)
      ·
        have hcs : copyS mm.pages mm.pages t a n = (0, 0) := by unfold copyS; rw [if_neg c1, if_neg (by omega)]
        have hc1 := mt (fun h => Or.inl (hb1.2 h)) c1
        have hc2 := mt (fun h => Or.inr (hb2.2 h)) c1
        refine CodeT.skip (EndT.blkN (EndT.thenN ?_))
        refine CodeT.seq ?_
        refine CodeT.region (.p (opMove (.t rfl)) rfl <| .p (opMove (.t rfl)) rfl <| .p (opMove (.t rfl)) rfl <| .p (opConvF Tryd.underlying46 Tryd.underlying3 (.t rfl) (fits_i64 (by omega) (by omega))) rfl <| .n (opCallE (rest := []) (mread_spec (mb := mb) (mm := mm) (X := X) (z := z) (q := q) (m := m) (T := T) (C := C) (R := R) (a := a) (n := n) hp0 hp1 hp2 hnuw (by omega) (by omega)) Tryd.cb52 (.cons (.t rfl) (.cons (.t rfl) (.cons (.t rfl) .nil))) (Perm.idx [0, 1] rfl rfl)) rfl <| fun g40 h40 => .p (opMove (.t rfl)) rfl <| .p (opExtract (.t rfl) rfl) rfl <| .p (opExtract (.t rfl) rfl) rfl <| .p (opAssign (.t rfl)) rfl <| .p (opAssign (.t rfl)) rfl <| .nil ?_)
        refine EndT.thenN ?_
        refine CodeT.seq ?_
        refine CodeT.seq ?_
        refine CodeT.region (.p (opMove (.t rfl)) rfl <| .p (opNeq (.t rfl) (.c _)) rfl <| .nil ?_)
        refine EndT.thenN ?_
        refine CodeT.cond (.t rfl) (fun c3 => ?_) (fun c3 => ?_)
        ·
          exact absurd rfl c3
        ·
          refine CodeT.skip (EndT.thenN ?_)
          refine CodeT.seq ?_
          refine CodeT.region (.p (opMove (.t rfl)) rfl <| .p (opMove (.t rfl)) rfl <| .p (opMove (.t rfl)) rfl <| .n (opCallE (rest := []) (mwrite_spec (mb := mb) (mm := mm) (X := X) (z := z) (q := q) (m := m) (T := fun _ => True) (C := C) (R := R) (a := t) (ys := memR z C mm.num a n) hp0 hp1 hp2 hnum (by rw [memR_len]; omega) (by rw [memR_len]; exact hp8 (by omega))) Tryd.cb50 (.cons (.t rfl) (.cons (.t rfl) (.cons (.t rfl) .nil))) (Perm.idx [0, 1] rfl rfl)) rfl <| fun g49 h49 => .p (opAssign (.c _)) rfl <| .p (opAssign (.t rfl)) rfl <| .nil ?_)
          refine EndT.thenN ?_
          refine CodeT.ret (Post.retR rfl rfl (()) (by trivial) (OLe.cons _ ((OLe.headE (by rw [hcs, memR_len]; rfl)))) rfl (.cons (.rt rfl) ?_ (.cons (.rt rfl) ?_ .nil)))
          · exact VLe.int (by rw [hcs]; rfl)
          · exact VLe.int (by rw [hcs]; rfl)

end Go.Proofs.YtiicgelmdmhajaaDoor
