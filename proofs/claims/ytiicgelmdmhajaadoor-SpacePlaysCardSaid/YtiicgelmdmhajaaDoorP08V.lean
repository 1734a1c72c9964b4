/-
  Walks, printed by a program (gen.py) out of what its author says of each function.
-/
import Derived.Test.YtiicgelmdmhajaaDoorP08B
import Derived.Test.YtiicgelmdmhajaaDoorP07O
namespace Go.Proofs.YtiicgelmdmhajaaDoor
open Go.Hl Go.RowKit
set_option linter.unusedVariables false
set_option maxRecDepth 100000

theorem ssum_spec {a o : Nat} : FnP Tryd.prog 71 [intV .u64 (a : Int), intV .u64 (o : Int)] (tupV [intV .u64 (IntKind.u64.wrap ((a : Int) + (o : Int))), propV (IntKind.u64.wrap ((a : Int) + (o : Int)) ≥ (a : Int))]) := by
  refine FnE.intro 14 Tryd.func71 rfl rfl rfl fun w0 S0 M => ?_
  refine CodeT.seq ?_
  refine CodeT.region (.p (opAssign (.c _)) rfl <| .p (opAssign .cf) rfl <| .nil ?_)
  refine EndT.thenN ?_
  refine CodeT.seq ?_
  refine CodeT.region (.p (opMove (.t rfl)) rfl <| .p (opMove (.t rfl)) rfl <| .p (opAdd (.t rfl) (.t rfl)) rfl <| .p (opAssign (.t rfl)) rfl <| .nil ?_)
  refine EndT.thenN ?_
  refine CodeT.seq ?_
  refine CodeT.region (.p (opMove (.t rfl)) rfl <| .p (opMove (.t rfl)) rfl <| .p (opMove (.t rfl)) rfl <| .p (opGeq (.t rfl) (.t rfl)) rfl <| .p (opAssign (.t rfl)) rfl <| .p (opAssign (.t rfl)) rfl <| .nil ?_)
  refine EndT.thenN ?_
  refine CodeT.ret (Post.retR rfl rfl () trivial (fun _ _ _ _ => trivial) rfl (.cons (.rt rfl) ?_ (.cons (.rt rfl) ?_ .nil)))
  · first | exact VLe.refl _ | exact VLe.int (by omega) | exact VLe.prop (by omega) | exact VLe.prop (by simp_all) | exact VLe.prop (by simp; omega)
  · first | exact VLe.refl _ | exact VLe.int (by omega) | exact VLe.prop (by omega) | exact VLe.prop (by simp_all) | exact VLe.prop (by simp; omega)

theorem mbeyond_spec {mb pb : Nat} {mm : SpD} {a n : Nat} (hp0 : mm.pages ≤ 65536) (hp1 : a < 18446744073709551616) (hp2 : n < 18446744073709551616) : FnE Tryd.prog 53 [addrV mb 0, intV .u64 (a : Int), intV .u64 (n : Int)] [spaceH mb pb mm] (γ := Unit) (fun _ => True) (fun _ => [spaceH mb pb mm]) (fun _ => propV (beyondS mm.pages a n)) := by
  refine FnE.intro 24 Tryd.func53 rfl rfl rfl fun w0 S0 M => ?_
  refine CodeT.seq ?_
  refine CodeT.region (.p (opAssign .cf) rfl <| .nil ?_)
  refine EndT.thenN ?_
  refine CodeT.seq ?_
  refine CodeT.region (.p (opMove (.t rfl)) rfl <| .p (opNilChkO (.t rfl)) rfl <| .p (opFieldO Tryd.fd110_2 (.t rfl)) rfl <| .p (opLoadO (i := 0) Tryd.ag3 (.t rfl) rfl rfl) rfl <| .p (opConvF Tryd.underlying3 Tryd.underlying46 (.t rfl) (fits_u64 (by omega) (by omega))) rfl <| .p (opMulF (.t rfl) (.c _) (fits_u64 (by omega) (by omega))) rfl <| .p (opAssign (.t rfl)) rfl <| .nil ?_)
  refine EndT.thenN ?_
  refine CodeT.seq ?_
  refine CodeT.region (.p (opMove (.t rfl)) rfl <| .p (opMove (.t rfl)) rfl <| .p (opGtr (.t rfl) (.t rfl)) rfl <| .p (opMove (.t rfl)) rfl <| .g (OpG.gF rfl rfl rfl rfl (fun hg => opMove (.t rfl))) rfl rfl <| .g (OpG.gF rfl rfl rfl rfl (fun hg => opMove (.t rfl))) rfl rfl <| .g (OpG.gF rfl rfl rfl rfl (fun hg => opMove (.t rfl))) rfl rfl <| .g (OpG.gF rfl rfl rfl rfl (fun hg => opSubF (.when (.t rfl) hg) (.when (.t rfl) hg) (fits_u64 (by omega) (by omega)))) rfl rfl <| .g (OpG.gF rfl rfl rfl rfl (fun hg => opGtr (.when (.t rfl) hg) (.when (.t rfl) hg))) rfl rfl <| .p (opOr (.t rfl) (.t rfl)) rfl <| .p (opAssign (.t rfl)) rfl <| .nil ?_)
  refine EndT.thenN ?_
  refine CodeT.ret (Post.retR1 rfl (()) (by trivial) (fun _ _ _ h => h) (.rt rfl) ?_)
  exact VLe.prop (by unfold beyondS; omega)

theorem mwrong_spec {mb pb : Nat} {mm : SpD} {a o : Nat} {n : Int} (hp0 : SpOk mm) (hp1 : a < 18446744073709551616) (hp2 : o < 18446744073709551616) : FnE Tryd.prog 49 [addrV mb 0, intV .u64 (a : Int), intV .u64 (o : Int), i64V n] [spaceH mb pb mm] (γ := Unit) (fun _ => True) (fun _ => [spaceH mb pb mm]) (fun _ => tupV [intV .u64 ((wrongS mm.pages a o n).1 : Int), i64V ((wrongS mm.pages a o n).2.1 : Int), i64V ((wrongS mm.pages a o n).2.2 : Int)]) := by
  refine FnE.intro 39 Tryd.func49 rfl rfl rfl fun w0 S0 M => ?_
  have hq1 := hp0.pages; have hq2 := hp0.most
  refine CodeT.seq ?_
  refine CodeT.region (.p (opAssign (.c _)) rfl <| .p (opAssign (.c _)) rfl <| .p (opAssign (.c _)) rfl <| .nil ?_)
  refine EndT.thenN ?_
  refine CodeT.seq ?_
  refine CodeT.region (.p (opMove (.t rfl)) rfl <| .p (opMove (.t rfl)) rfl <| .p (opCall (ssum_spec) Tryd.cb71 (.cons (.t rfl) (.cons (.t rfl) .nil))) rfl <| .p (opMove (.t rfl)) rfl <| .p (opExtract (.t rfl) rfl) rfl <| .p (opExtract (.t rfl) rfl) rfl <| .p (opAssign (.t rfl)) rfl <| .p (opAssign (.t rfl)) rfl <| .nil ?_)
  refine EndT.thenN ?_
  refine CodeT.seq ?_
  refine CodeT.block ?_
  refine CodeT.seq ?_
  refine CodeT.region (.p (opMove (.t rfl)) rfl <| .p (opEqlNilO Tryd.underlying39 (.t rfl)) rfl <| .p (opAssign (.t rfl)) rfl <| .nil ?_)
  refine EndT.thenN ?_
  refine CodeT.cond (.t rfl) (fun c0 => ?_) (fun c0 => ?_)
  ·
    exact c0.elim
  ·
    refine CodeT.seq ?_
    refine CodeT.region (.p (opMove (.t rfl)) rfl <| .p (opLss (.t rfl) (.c _)) rfl <| .p (opAssign (.t rfl)) rfl <| .nil ?_)
    refine EndT.thenN ?_
    refine CodeT.cond (.t rfl) (fun c1 => ?_) (fun c1 => ?_)
    ·
      refine CodeT.seq ?_
      refine CodeT.region (.p (opAssign (.c _)) rfl <| .p (opAssign (.c _)) rfl <| .p (opAssign (.c _)) rfl <| .nil ?_)
      refine EndT.thenN ?_
      refine CodeT.ret (EndT.blkR (EndT.thenR (Post.retR rfl rfl (()) (by trivial) (fun _ _ _ h => h) rfl (.cons (.rt rfl) ?_ (.cons (.rt rfl) ?_ (.cons (.rt rfl) ?_ .nil))))))
      · exact VLe.int (by unfold wrongS; rw [if_pos c1]; rfl)
      · exact VLe.int (by unfold wrongS; rw [if_pos c1]; rfl)
      · exact VLe.int (by unfold wrongS; rw [if_pos c1]; rfl)
    ·
      refine CodeT.seq ?_
      refine CodeT.region (.p (opMove (.t rfl)) rfl <| .p (opGtr (.t rfl) (.c _)) rfl <| .p (opAssign (.t rfl)) rfl <| .nil ?_)
      refine EndT.thenN ?_
      refine CodeT.cond (.t rfl) (fun c2 => ?_) (fun c2 => ?_)
      ·
        refine CodeT.seq ?_
        refine CodeT.region (.p (opAssign (.c _)) rfl <| .p (opAssign (.c _)) rfl <| .p (opAssign (.c _)) rfl <| .nil ?_)
        refine EndT.thenN ?_
        refine CodeT.ret (EndT.blkR (EndT.thenR (Post.retR rfl rfl (()) (by trivial) (fun _ _ _ h => h) rfl (.cons (.rt rfl) ?_ (.cons (.rt rfl) ?_ (.cons (.rt rfl) ?_ .nil))))))
        · exact VLe.int (by unfold wrongS; rw [if_neg c1, if_pos c2]; rfl)
        · exact VLe.int (by unfold wrongS; rw [if_neg c1, if_pos c2]; rfl)
        · exact VLe.int (by unfold wrongS; rw [if_neg c1, if_pos c2]; rfl)
      ·
        refine CodeT.seq ?_
        refine CodeT.region (.p (opMove (.t rfl)) rfl <| .p (opNot (.t rfl)) rfl <| .p (opMove (.t rfl)) rfl <| .g (OpG.gF rfl rfl rfl rfl (fun hg => opMove (.t rfl))) rfl rfl <| .g (OpG.gF rfl rfl rfl rfl (fun hg => opMove (.t rfl))) rfl rfl <| .g (OpG.gF rfl rfl rfl rfl (fun hg => opMove (.t rfl))) rfl rfl <| .g (OpG.gF rfl rfl rfl rfl (fun hg => opConvF Tryd.underlying3 Tryd.underlying46 (.when (.t rfl) hg) (fits_u64 (by omega) (by omega)))) rfl rfl <| .egF rfl rfl rfl rfl (fun hg => ((opCallE (rest := []) (mbeyond_spec (mb := mb) (pb := pb) (mm := mm) (a := a + o) (n := n.toNat) (by omega) (by rcases sum_cases a o hp1 hp2 with ⟨_, e⟩ | ⟨_, e⟩ <;> omega) (by omega)) Tryd.cb53 (.cons (.when (.t rfl) hg) (.cons (.le (.when (.t rfl) hg) (VLe.int (show _ = ((a + o : Nat) : Int) by rcases sum_cases a o hp1 hp2 with ⟨_, e⟩ | ⟨_, e⟩ <;> omega))) (.cons (.le (.when (.t rfl) hg) (VLe.int (show _ = ((n.toNat : Nat) : Int) by omega))) .nil))) (Perm.idx [0] rfl rfl)).same (fun _ _ => OLe.refl _) (fun _ _ => VLe.refl _)).same (fun _ _ => OLe.refl _) (fun _ _ => VLe.refl _)) rfl rfl <| .p (opOr (.t rfl) (.t rfl)) rfl <| .p (opAssign (.t rfl)) rfl <| .nil ?_)
        refine EndT.thenN ?_
        refine CodeT.cond (.t rfl) (fun c3 => ?_) (fun c3 => ?_)
        ·
          have hbs : beyondS mm.pages (a + o) n.toNat ↔ mm.pages * 65536 < a + o + n.toNat := Iff.rfl
          have hsc := sum_cases a o hp1 hp2
          have hw3 : wrongS mm.pages a o n = (0, 4, 0) := by (unfold wrongS; rw [if_neg c1, if_neg c2, if_pos (hbs.2 (by rcases hsc with ⟨_, e⟩ | ⟨_, e⟩; (rcases c3 with c3 | c3; omega; exact hbs.1 c3); omega))])
          refine CodeT.seq ?_
          refine CodeT.region (.p (opAssign (.c _)) rfl <| .p (opAssign (.c _)) rfl <| .p (opAssign (.c _)) rfl <| .nil ?_)
          refine EndT.thenN ?_
          refine CodeT.ret (EndT.blkR (EndT.thenR (Post.retR rfl rfl (()) (by trivial) (fun _ _ _ h => h) rfl (.cons (.rt rfl) ?_ (.cons (.rt rfl) ?_ (.cons (.rt rfl) ?_ .nil))))))
          · exact VLe.int (by rw [hw3]; rfl)
          · exact VLe.int (by rw [hw3]; rfl)
          · exact VLe.int (by rw [hw3]; rfl)
        ·
          have hbs : beyondS mm.pages (a + o) n.toNat ↔ mm.pages * 65536 < a + o + n.toNat := Iff.rfl
          have hsc := sum_cases a o hp1 hp2
          have hfit : a + o < 18446744073709551616 := by (rcases hsc with ⟨e, _⟩ | ⟨_, e⟩; exact e; exact absurd (.inl (by omega)) c3)
          have hw3 : wrongS mm.pages a o n = (a + o, 0, 0) := by (unfold wrongS; rw [if_neg c1, if_neg c2, if_neg (fun e => c3 (.inr e))])
          refine CodeT.skip (EndT.blkN (EndT.thenN ?_))
          refine CodeT.seq ?_
          refine CodeT.region (.p (opMove (.t rfl)) rfl <| .p (opAssign (.t rfl)) rfl <| .p (opAssign (.c _)) rfl <| .p (opAssign (.c _)) rfl <| .nil ?_)
          refine EndT.thenN ?_
          refine CodeT.ret (Post.retR rfl rfl (()) (by trivial) (fun _ _ _ h => h) rfl (.cons (.rt rfl) ?_ (.cons (.rt rfl) ?_ (.cons (.rt rfl) ?_ .nil))))
          · exact VLe.int (by rw [hw3]; omega)
          · exact VLe.int (by rw [hw3]; rfl)
          · exact VLe.int (by rw [hw3]; rfl)

end Go.Proofs.YtiicgelmdmhajaaDoor
