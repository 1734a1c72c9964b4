/-
  Walks, printed by a program (gen.py) out of what its author says of each function.
-/
import Derived.Test.YtgmpadhfgohodaaDoorP23E
import Derived.Test.YtgmpadhfgohodaaDoorW05T
import Derived.Test.YtgmpadhfgohodaaDoorO10V
namespace Go.Proofs.YtgmpadhfgohodaaDoor
open Go.Hl Go.RowKit
set_option linter.unusedVariables false
set_option maxRecDepth 100000

theorem ris_spec {x : InstrD} : FnP Tryd.prog 20 [aggV (encInstr x)] (propV (isC x)) := by
  refine FnE.intro 11 Tryd.func20 rfl rfl rfl fun w0 S0 M => ?_
  refine CodeT.seq ?_
  refine CodeT.region (.p (opBoxA (.t rfl)) rfl <| .p (opAssign .cf) rfl <| .nil ?_)
  refine EndT.thenN ?_
  refine CodeT.seq ?_
  refine CodeT.region (.p (opField Tryd.fd40_0 (.t rfl)) rfl <| .p (opLoad Tryd.ag3 (.t rfl)) rfl <| .p (opEql (.t rfl) (.c _)) rfl <| .p (opMove (.t rfl)) rfl <| .g (OpG.gF rfl rfl rfl rfl (fun hg => opField Tryd.fd40_0 (.t rfl))) rfl rfl <| .g (OpG.gF rfl rfl rfl rfl (fun hg => opLoad Tryd.ag3 (.when (.t rfl) hg))) rfl rfl <| .g (OpG.gF rfl rfl rfl rfl (fun hg => opEql (.when (.t rfl) hg) (.c _))) rfl rfl <| .p (opOr (.t rfl) (.t rfl)) rfl <| .p (opAssign (.t rfl)) rfl <| .nil ?_)
  refine EndT.thenN ?_
  refine CodeT.ret (Post.retP rfl rfl ?_)
  exact VLe.refl _

theorem rbits_spec {c : Int} : FnP Tryd.prog 32 [iV c] (iV (bitsN c : Int)) := by
  refine FnE.intro 17 Tryd.func32 rfl rfl rfl fun w0 S0 M => ?_
  refine CodeT.seq ?_
  refine CodeT.region (.p (opAssign (.c _)) rfl <| .nil ?_)
  refine EndT.thenN ?_
  refine CodeT.seq ?_
  refine CodeT.seq ?_
  refine CodeT.region (.p (opMove (.t rfl)) rfl <| .p (opGeq (.t rfl) (.c _)) rfl <| .p (opMove (.t rfl)) rfl <| .g (OpG.gT rfl rfl rfl rfl (fun hg => opMove (.t rfl))) rfl rfl <| .g (OpG.gT rfl rfl rfl rfl (fun hg => opLeq (.when (.t rfl) hg) (.c _))) rfl rfl <| .p (opAnd (.t rfl) (.t rfl)) rfl <| .p (opMove (.t rfl)) rfl <| .g (OpG.gF rfl rfl rfl rfl (fun hg => opMove (.t rfl))) rfl rfl <| .g (OpG.gF rfl rfl rfl rfl (fun hg => opGeq (.when (.t rfl) hg) (.c _))) rfl rfl <| .g (OpG.gF rfl rfl rfl rfl (fun hg => opMove (.when (.t rfl) hg))) rfl rfl <| .g (OpG.hT rfl rfl rfl rfl (fun hg => opMove (.t rfl))) rfl rfl <| .g (OpG.hT rfl rfl rfl rfl (fun hg => opLeq (.when (.t rfl) hg) (.c _))) rfl rfl <| .g (OpG.gF rfl rfl rfl rfl (fun hg => opAnd (.when (.t rfl) hg) (.under (.t rfl) hg))) rfl rfl <| .p (opOr (.t rfl) (.t rfl)) rfl <| .nil ?_)
  refine EndT.thenN ?_
  refine CodeT.cond (.t rfl) (fun c0 => ?_) (fun c0 => ?_)
  ·
    refine CodeT.seq ?_
    refine CodeT.region (.p (opAssign (.c _)) rfl <| .nil ?_)
    refine EndT.thenN ?_
    refine CodeT.ret (EndT.thenR (Post.retP rfl rfl ?_))
    exact VLe.int (by unfold bitsN; (repeat (first | rw [if_pos (by omega)] | rw [if_neg (by omega)])); first | done | rfl)
  ·
    refine CodeT.skip (EndT.thenN ?_)
    refine CodeT.seq ?_
    refine CodeT.region (.p (opAssign (.c _)) rfl <| .nil ?_)
    refine EndT.thenN ?_
    refine CodeT.ret (Post.retP rfl rfl ?_)
    exact VLe.int (by unfold bitsN; (repeat (first | rw [if_pos (by omega)] | rw [if_neg (by omega)])); first | done | rfl)

theorem rof_spec {c : Int} {v : Nat} (hp0 : (takesR c).2.length = 1) : FnP Tryd.prog 22 [iV c, uV v] (aggV (encInstr (mkI (outC c) v))) := by
  refine FnE.intro 20 Tryd.func22 rfl rfl rfl fun w0 S0 M => ?_
  refine CodeT.seq ?_
  refine CodeT.region (.n (opAlloc Tryd.zb40) rfl <| fun b4 _ => .nil ?_)
  refine EndT.thenN ?_
  refine CodeT.seq ?_
  refine CodeT.region (.p (opMove (.t rfl)) rfl <| .p (opCall (rtakes_spec) Tryd.cb34 (.cons (.t rfl) .nil)) rfl <| .p (opMove (.t rfl)) rfl <| .p (opExtract (.t rfl) rfl) rfl <| .p (opExtract (.t rfl) rfl) rfl <| .p (opAssign (.t rfl)) rfl <| .p (opAssign (.t rfl)) rfl <| .nil ?_)
  refine EndT.thenN ?_
  refine CodeT.seq ?_
  refine CodeT.seq ?_
  refine CodeT.region (.p (opMove (.t rfl)) rfl <| .p (opIndexAddr (j := 0) Tryd.underlying24 Tryd.cz5 rfl (.t rfl) (.c _) rfl (get0' hp0)) rfl <| .p (opLoad Tryd.ag5 (.t rfl)) rfl <| .p (opEql (.t rfl) (.c _)) rfl <| .nil ?_)
  refine EndT.thenN ?_
  refine CodeT.cond (.t rfl) (fun c0 => ?_) (fun c0 => ?_)
  ·
    refine CodeT.seq ?_
    refine CodeT.region (.p (opMove (.t rfl)) rfl <| .p (opBuild Tryd.pl40 Tryd.zb40 (.cons (.c _) (.cons (.t rfl) .nil)) rfl) rfl <| .s (opStoreOA (i := 0) Tryd.cz40 rfl (.t rfl) (.t rfl) rfl rfl rfl) <| .nil ?_)
    refine EndT.thenN ?_
    refine CodeT.ret (EndT.thenR (Post.retR1 rfl () trivial (fun _ _ _ _ => trivial) (.ra (i := 0) Tryd.ag40 Tryd.cz40 rfl rfl rfl rfl) ?_))
    exact mk_le (outC_pos ((gives1' hp0).1 c0))
  ·
    refine CodeT.skip (EndT.thenN ?_)
    refine CodeT.seq ?_
    refine CodeT.region (.p (opMove (.t rfl)) rfl <| .p (opBuild Tryd.pl40 Tryd.zb40 (.cons (.c _) (.cons (.t rfl) .nil)) rfl) rfl <| .s (opStoreOA (i := 0) Tryd.cz40 rfl (.t rfl) (.t rfl) rfl rfl rfl) <| .nil ?_)
    refine EndT.thenN ?_
    refine CodeT.ret (Post.retR1 rfl () trivial (fun _ _ _ _ => trivial) (.ra (i := 0) Tryd.ag40 Tryd.cz40 rfl rfl rfl rfl) ?_)
    exact mk_le (outC_neg (fun h => c0 ((gives1' hp0).2 h)))

set_option maxHeartbeats 1000000 in
theorem rone_spec {c : Int} {a : Nat} (hp0 : a < 18446744073709551616) : FnP Tryd.prog 21 [iV c, uV a] (tupV [uV ((oneC c a).getD 0), propV ((oneC c a).isSome = true)]) := by
  refine FnE.intro 61 Tryd.func21 rfl rfl rfl fun w0 S0 M => ?_
  refine CodeT.seq ?_
  refine CodeT.region (.p (opAssign (.c _)) rfl <| .p (opAssign .cf) rfl <| .nil ?_)
  refine EndT.thenN ?_
  refine CodeT.seq ?_
  refine CodeT.seq ?_
  refine CodeT.region (.p (opMove (.t rfl)) rfl <| .nil ?_)
  refine EndT.thenN ?_
  refine CodeT.block ?_
  refine CodeT.cut (σ := Unit) (fun _ => []) (fun _ => [(7, propV (c = 69 ∨ c = 80))]) (fun _ => True) ?_ ?_
  ·
    refine CodeT.seq ?_
    refine CodeT.region (.p (opEql (.t rfl) (.c _)) rfl <| .p (opAssign (.t rfl)) rfl <| .nil ?_)
    refine EndT.thenN ?_
    refine CodeT.cond (.t rfl) (fun c0 => ?_) (fun c0 => ?_)
    ·
      refine CodeT.skip (EndT.meet () trivial rfl (.get rfl (VLe.prop (by omega)) (.keep 2 rfl rfl)))
    ·
      refine CodeT.region (.p (opEql (.t rfl) (.c _)) rfl <| .p (opAssign (.t rfl)) rfl <| .nil ?_)
      refine EndT.meet () trivial rfl (.get rfl (VLe.prop (by omega)) (.keep 4 rfl rfl))
  ·
    intro _ _
    refine CodeT.cond (.t rfl) (fun c1 => ?_) (fun c1 => ?_)
    ·
      refine CodeT.seq ?_
      refine CodeT.region (.p (opMove (.t rfl)) rfl <| .p (opCall (rbits_spec) Tryd.cb32 (.cons (.t rfl) .nil)) rfl <| .p (opMove (.t rfl)) rfl <| .p (opCall (runary_spec (n := bitsN c) (by unfold WN bitsN; split <;> simp) hp0) Tryd.cb31 (.cons (.c _) (.cons (.t rfl) (.cons (.t rfl) .nil)))) rfl <| .p (opAssign (.t rfl)) rfl <| .p (opAssign .ct) rfl <| .nil ?_)
      refine EndT.thenN ?_
      refine CodeT.ret (EndT.blkR (EndT.thenR (Post.retR rfl rfl () trivial (fun _ _ _ _ => trivial) rfl (.cons (.rt rfl) ?_ (.cons (.rt rfl) ?_ .nil)))))
      · rcases c1 with rfl | rfl <;> exact VLe.refl _
      · rcases c1 with rfl | rfl <;> exact VLe.prop (by simp [oneC])
    ·
      refine CodeT.cut (σ := Unit) (fun _ => []) (fun _ => [(14, propV (103 ≤ c ∧ c ≤ 105))]) (fun _ => True) ?_ ?_
      ·
        refine CodeT.seq ?_
        refine CodeT.region (.p (opEql (.t rfl) (.c _)) rfl <| .p (opAssign (.t rfl)) rfl <| .nil ?_)
        refine EndT.thenN ?_
        refine CodeT.cond (.t rfl) (fun c2 => ?_) (fun c2 => ?_)
        ·
          refine CodeT.skip (EndT.meet () trivial rfl (.get rfl (VLe.prop (by omega)) (.keep 2 rfl rfl)))
        ·
          refine CodeT.seq ?_
          refine CodeT.region (.p (opEql (.t rfl) (.c _)) rfl <| .p (opAssign (.t rfl)) rfl <| .nil ?_)
          refine EndT.thenN ?_
          refine CodeT.cond (.t rfl) (fun c3 => ?_) (fun c3 => ?_)
          ·
            refine CodeT.skip (EndT.meet () trivial rfl (.get rfl (VLe.prop (by omega)) (.keep 4 rfl rfl)))
          ·
            refine CodeT.region (.p (opEql (.t rfl) (.c _)) rfl <| .p (opAssign (.t rfl)) rfl <| .nil ?_)
            refine EndT.meet () trivial rfl (.get rfl (VLe.prop (by omega)) (.keep 6 rfl rfl))
      ·
        intro _ _
        refine CodeT.cond (.t rfl) (fun c4 => ?_) (fun c4 => ?_)
        ·
          refine CodeT.seq ?_
          refine CodeT.region (.p (opMove (.t rfl)) rfl <| .p (opSubF (.t rfl) (.c _) (fits_i64 (by omega) (by omega))) rfl <| .p (opMove (.t rfl)) rfl <| .p (opCall (runary_spec (n := 32) (.inl rfl) hp0) Tryd.cb31 (.cons (.t rfl) (.cons (.c _) (.cons (.t rfl) .nil)))) rfl <| .p (opAssign (.t rfl)) rfl <| .p (opAssign .ct) rfl <| .nil ?_)
          refine EndT.thenN ?_
          refine CodeT.ret (EndT.blkR (EndT.thenR (Post.retR rfl rfl () trivial (fun _ _ _ _ => trivial) rfl (.cons (.rt rfl) ?_ (.cons (.rt rfl) ?_ .nil)))))
          · exact VLe.int (congrArg Nat.cast (by unfold oneC; (repeat (first | rw [if_pos (by omega)] | rw [if_neg (by omega)])); rfl))
          · exact VLe.prop (by unfold oneC; (repeat (first | rw [if_pos (by omega)] | rw [if_neg (by omega)])); simp)
        ·
          refine CodeT.cut (σ := Unit) (fun _ => []) (fun _ => [(22, propV (121 ≤ c ∧ c ≤ 123))]) (fun _ => True) ?_ ?_
          ·
            refine CodeT.seq ?_
            refine CodeT.region (.p (opEql (.t rfl) (.c _)) rfl <| .p (opAssign (.t rfl)) rfl <| .nil ?_)
            refine EndT.thenN ?_
            refine CodeT.cond (.t rfl) (fun c5 => ?_) (fun c5 => ?_)
            ·
              refine CodeT.skip (EndT.meet () trivial rfl (.get rfl (VLe.prop (by omega)) (.keep 2 rfl rfl)))
            ·
              refine CodeT.seq ?_
              refine CodeT.region (.p (opEql (.t rfl) (.c _)) rfl <| .p (opAssign (.t rfl)) rfl <| .nil ?_)
              refine EndT.thenN ?_
              refine CodeT.cond (.t rfl) (fun c6 => ?_) (fun c6 => ?_)
              ·
                refine CodeT.skip (EndT.meet () trivial rfl (.get rfl (VLe.prop (by omega)) (.keep 4 rfl rfl)))
              ·
                refine CodeT.region (.p (opEql (.t rfl) (.c _)) rfl <| .p (opAssign (.t rfl)) rfl <| .nil ?_)
                refine EndT.meet () trivial rfl (.get rfl (VLe.prop (by omega)) (.keep 6 rfl rfl))
          ·
            intro _ _
            refine CodeT.cond (.t rfl) (fun c7 => ?_) (fun c7 => ?_)
            ·
              refine CodeT.seq ?_
              refine CodeT.region (.p (opMove (.t rfl)) rfl <| .p (opSubF (.t rfl) (.c _) (fits_i64 (by omega) (by omega))) rfl <| .p (opMove (.t rfl)) rfl <| .p (opCall (runary_spec (n := 64) (.inr rfl) hp0) Tryd.cb31 (.cons (.t rfl) (.cons (.c _) (.cons (.t rfl) .nil)))) rfl <| .p (opAssign (.t rfl)) rfl <| .p (opAssign .ct) rfl <| .nil ?_)
              refine EndT.thenN ?_
              refine CodeT.ret (EndT.blkR (EndT.thenR (Post.retR rfl rfl () trivial (fun _ _ _ _ => trivial) rfl (.cons (.rt rfl) ?_ (.cons (.rt rfl) ?_ .nil)))))
              · exact VLe.int (congrArg Nat.cast (by unfold oneC; (repeat (first | rw [if_pos (by omega)] | rw [if_neg (by omega)])); rfl))
              · exact VLe.prop (by unfold oneC; (repeat (first | rw [if_pos (by omega)] | rw [if_neg (by omega)])); simp)
            ·
              refine CodeT.seq ?_
              refine CodeT.region (.p (opEql (.t rfl) (.c _)) rfl <| .p (opAssign (.t rfl)) rfl <| .nil ?_)
              refine EndT.thenN ?_
              refine CodeT.cond (.t rfl) (fun c8 => ?_) (fun c8 => ?_)
              ·
                refine CodeT.seq ?_
                refine CodeT.region (.p (opMove (.t rfl)) rfl <| .p (opRem_u64 (b := 4294967296) (by decide) (.t rfl) (.c _)) rfl <| .p (opAssign (.t rfl)) rfl <| .p (opAssign .ct) rfl <| .nil ?_)
                refine EndT.thenN ?_
                refine CodeT.ret (EndT.blkR (EndT.thenR (Post.retR rfl rfl () trivial (fun _ _ _ _ => trivial) rfl (.cons (.rt rfl) ?_ (.cons (.rt rfl) ?_ .nil)))))
                · exact VLe.int (congrArg Nat.cast (by unfold oneC; (repeat (first | rw [if_pos (by omega)] | rw [if_neg (by omega)])); rfl))
                · exact VLe.prop (by unfold oneC; (repeat (first | rw [if_pos (by omega)] | rw [if_neg (by omega)])); simp)
              ·
                refine CodeT.cut (σ := Unit) (fun _ => []) (fun _ => [(34, propV (c = 172 ∨ c = 173))]) (fun _ => True) ?_ ?_
                ·
                  refine CodeT.seq ?_
                  refine CodeT.region (.p (opEql (.t rfl) (.c _)) rfl <| .p (opAssign (.t rfl)) rfl <| .nil ?_)
                  refine EndT.thenN ?_
                  refine CodeT.cond (.t rfl) (fun c9 => ?_) (fun c9 => ?_)
                  ·
                    refine CodeT.skip (EndT.meet () trivial rfl (.get rfl (VLe.prop (by omega)) (.keep 2 rfl rfl)))
                  ·
                    refine CodeT.region (.p (opEql (.t rfl) (.c _)) rfl <| .p (opAssign (.t rfl)) rfl <| .nil ?_)
                    refine EndT.meet () trivial rfl (.get rfl (VLe.prop (by omega)) (.keep 4 rfl rfl))
                ·
                  intro _ _
                  refine CodeT.cond (.t rfl) (fun c10 => ?_) (fun c10 => ?_)
                  ·
                    refine CodeT.seq ?_
                    refine CodeT.region (.p (opMove (.t rfl)) rfl <| .p (opEql (.t rfl) (.c _)) rfl <| .p (opMove (.t rfl)) rfl <| .p (opCall (rextend_spec (fr := 32) (t := 64) (by decide) (by decide) hp0) Tryd.cb33 (.cons (.c _) (.cons (.c _) (.cons (.t rfl) (.cons (.t rfl) .nil))))) rfl <| .p (opAssign (.t rfl)) rfl <| .p (opAssign .ct) rfl <| .nil ?_)
                    refine EndT.thenN ?_
                    refine CodeT.ret (EndT.blkR (EndT.thenR (Post.retR rfl rfl () trivial (fun _ _ _ _ => trivial) rfl (.cons (.rt rfl) ?_ (.cons (.rt rfl) ?_ .nil)))))
                    · rcases c10 with rfl | rfl <;> exact VLe.int (congrArg Nat.cast (by simp [oneC, extF]))
                    · rcases c10 with rfl | rfl <;> exact VLe.prop (by simp [oneC])
                  ·
                    refine CodeT.seq ?_
                    refine CodeT.region (.p (opEql (.t rfl) (.c _)) rfl <| .p (opAssign (.t rfl)) rfl <| .nil ?_)
                    refine EndT.thenN ?_
                    refine CodeT.cond (.t rfl) (fun c11 => ?_) (fun c11 => ?_)
                    ·
                      refine CodeT.seq ?_
                      refine CodeT.region (.p (opMove (.t rfl)) rfl <| .p (opCall (rextend_spec (fr := 8) (t := 32) (by decide) (by decide) hp0) Tryd.cb33 (.cons (.c _) (.cons (.c _) (.cons .ct (.cons (.t rfl) .nil))))) rfl <| .p (opAssign (.t rfl)) rfl <| .p (opAssign .ct) rfl <| .nil ?_)
                      refine EndT.thenN ?_
                      refine CodeT.ret (EndT.blkR (EndT.thenR (Post.retR rfl rfl () trivial (fun _ _ _ _ => trivial) rfl (.cons (.rt rfl) ?_ (.cons (.rt rfl) ?_ .nil)))))
                      · exact VLe.int (congrArg Nat.cast (by unfold oneC; (repeat (first | rw [if_pos (by omega)] | rw [if_neg (by omega)])); rfl))
                      · exact VLe.prop (by unfold oneC; (repeat (first | rw [if_pos (by omega)] | rw [if_neg (by omega)])); simp)
                    ·
                      refine CodeT.seq ?_
                      refine CodeT.region (.p (opEql (.t rfl) (.c _)) rfl <| .p (opAssign (.t rfl)) rfl <| .nil ?_)
                      refine EndT.thenN ?_
                      refine CodeT.cond (.t rfl) (fun c12 => ?_) (fun c12 => ?_)
                      ·
                        refine CodeT.seq ?_
                        refine CodeT.region (.p (opMove (.t rfl)) rfl <| .p (opCall (rextend_spec (fr := 16) (t := 32) (by decide) (by decide) hp0) Tryd.cb33 (.cons (.c _) (.cons (.c _) (.cons .ct (.cons (.t rfl) .nil))))) rfl <| .p (opAssign (.t rfl)) rfl <| .p (opAssign .ct) rfl <| .nil ?_)
                        refine EndT.thenN ?_
                        refine CodeT.ret (EndT.blkR (EndT.thenR (Post.retR rfl rfl () trivial (fun _ _ _ _ => trivial) rfl (.cons (.rt rfl) ?_ (.cons (.rt rfl) ?_ .nil)))))
                        · exact VLe.int (congrArg Nat.cast (by unfold oneC; (repeat (first | rw [if_pos (by omega)] | rw [if_neg (by omega)])); rfl))
                        · exact VLe.prop (by unfold oneC; (repeat (first | rw [if_pos (by omega)] | rw [if_neg (by omega)])); simp)
                      ·
                        refine CodeT.seq ?_
                        refine CodeT.region (.p (opEql (.t rfl) (.c _)) rfl <| .p (opAssign (.t rfl)) rfl <| .nil ?_)
                        refine EndT.thenN ?_
                        refine CodeT.cond (.t rfl) (fun c13 => ?_) (fun c13 => ?_)
                        ·
                          refine CodeT.seq ?_
                          refine CodeT.region (.p (opMove (.t rfl)) rfl <| .p (opCall (rextend_spec (fr := 8) (t := 64) (by decide) (by decide) hp0) Tryd.cb33 (.cons (.c _) (.cons (.c _) (.cons .ct (.cons (.t rfl) .nil))))) rfl <| .p (opAssign (.t rfl)) rfl <| .p (opAssign .ct) rfl <| .nil ?_)
                          refine EndT.thenN ?_
                          refine CodeT.ret (EndT.blkR (EndT.thenR (Post.retR rfl rfl () trivial (fun _ _ _ _ => trivial) rfl (.cons (.rt rfl) ?_ (.cons (.rt rfl) ?_ .nil)))))
                          · exact VLe.int (congrArg Nat.cast (by unfold oneC; (repeat (first | rw [if_pos (by omega)] | rw [if_neg (by omega)])); rfl))
                          · exact VLe.prop (by unfold oneC; (repeat (first | rw [if_pos (by omega)] | rw [if_neg (by omega)])); simp)
                        ·
                          refine CodeT.seq ?_
                          refine CodeT.region (.p (opEql (.t rfl) (.c _)) rfl <| .p (opAssign (.t rfl)) rfl <| .nil ?_)
                          refine EndT.thenN ?_
                          refine CodeT.cond (.t rfl) (fun c14 => ?_) (fun c14 => ?_)
                          ·
                            refine CodeT.seq ?_
                            refine CodeT.region (.p (opMove (.t rfl)) rfl <| .p (opCall (rextend_spec (fr := 16) (t := 64) (by decide) (by decide) hp0) Tryd.cb33 (.cons (.c _) (.cons (.c _) (.cons .ct (.cons (.t rfl) .nil))))) rfl <| .p (opAssign (.t rfl)) rfl <| .p (opAssign .ct) rfl <| .nil ?_)
                            refine EndT.thenN ?_
                            refine CodeT.ret (EndT.blkR (EndT.thenR (Post.retR rfl rfl () trivial (fun _ _ _ _ => trivial) rfl (.cons (.rt rfl) ?_ (.cons (.rt rfl) ?_ .nil)))))
                            · exact VLe.int (congrArg Nat.cast (by unfold oneC; (repeat (first | rw [if_pos (by omega)] | rw [if_neg (by omega)])); rfl))
                            · exact VLe.prop (by unfold oneC; (repeat (first | rw [if_pos (by omega)] | rw [if_neg (by omega)])); simp)
                          ·
                            refine CodeT.seq ?_
                            refine CodeT.region (.p (opEql (.t rfl) (.c _)) rfl <| .p (opAssign (.t rfl)) rfl <| .nil ?_)
                            refine EndT.thenN ?_
                            refine CodeT.cond (.t rfl) (fun c15 => ?_) (fun c15 => ?_)
                            ·
                              refine CodeT.seq ?_
                              refine CodeT.region (.p (opMove (.t rfl)) rfl <| .p (opCall (rextend_spec (fr := 32) (t := 64) (by decide) (by decide) hp0) Tryd.cb33 (.cons (.c _) (.cons (.c _) (.cons .ct (.cons (.t rfl) .nil))))) rfl <| .p (opAssign (.t rfl)) rfl <| .p (opAssign .ct) rfl <| .nil ?_)
                              refine EndT.thenN ?_
                              refine CodeT.ret (EndT.blkR (EndT.thenR (Post.retR rfl rfl () trivial (fun _ _ _ _ => trivial) rfl (.cons (.rt rfl) ?_ (.cons (.rt rfl) ?_ .nil)))))
                              · exact VLe.int (congrArg Nat.cast (by unfold oneC; (repeat (first | rw [if_pos (by omega)] | rw [if_neg (by omega)])); rfl))
                              · exact VLe.prop (by unfold oneC; (repeat (first | rw [if_pos (by omega)] | rw [if_neg (by omega)])); simp)
                            ·
                              refine CodeT.skip (EndT.blkN (EndT.thenN ?_))
                              refine CodeT.seq ?_
                              refine CodeT.region (.p (opAssign (.c _)) rfl <| .p (opAssign .cf) rfl <| .nil ?_)
                              refine EndT.thenN ?_
                              refine CodeT.ret (Post.retR rfl rfl () trivial (fun _ _ _ _ => trivial) rfl (.cons (.rt rfl) ?_ (.cons (.rt rfl) ?_ .nil)))
                              · exact VLe.int (congrArg Nat.cast (by unfold oneC; (repeat (first | rw [if_pos (by omega)] | rw [if_neg (by omega)])); rfl))
                              · exact VLe.prop (by unfold oneC; (repeat (first | rw [if_pos (by omega)] | rw [if_neg (by omega)])); simp)

set_option maxHeartbeats 1000000 in
theorem rtwo_spec {c : Int} {a b : Nat} (hp0 : a < 18446744073709551616) (hp1 : b < 18446744073709551616) : FnP Tryd.prog 23 [iV c, uV a, uV b] (tupV [uV (twoV c a b), propV (twoOk c a b)]) := by
  refine FnE.intro 72 Tryd.func23 rfl rfl rfl fun w0 S0 M => ?_
  refine CodeT.seq ?_
  refine CodeT.region (.p (opAssign (.c _)) rfl <| .p (opAssign .cf) rfl <| .nil ?_)
  refine EndT.thenN ?_
  refine CodeT.seq ?_
  refine CodeT.block ?_
  refine CodeT.seq ?_
  refine CodeT.region (.p (opMove (.t rfl)) rfl <| .p (opGeq (.t rfl) (.c _)) rfl <| .p (opMove (.t rfl)) rfl <| .g (OpG.gT rfl rfl rfl rfl (fun hg => opMove (.t rfl))) rfl rfl <| .g (OpG.gT rfl rfl rfl rfl (fun hg => opLeq (.when (.t rfl) hg) (.c _))) rfl rfl <| .p (opAnd (.t rfl) (.t rfl)) rfl <| .p (opAssign (.t rfl)) rfl <| .nil ?_)
  refine EndT.thenN ?_
  refine CodeT.cond (.t rfl) (fun c0 => ?_) (fun c0 => ?_)
  ·
    refine CodeT.seq ?_
    refine CodeT.region (.p (opMove (.t rfl)) rfl <| .p (opSubF (.t rfl) (.c _) (fits_i64 (by omega) (by omega))) rfl <| .p (opMove (.t rfl)) rfl <| .p (opMove (.t rfl)) rfl <| .p (opCall (rtest_spec (n := 32) (.inl rfl) hp0 hp1 (by omega) (by omega)) Tryd.cb35 (.cons (.t rfl) (.cons (.c _) (.cons (.t rfl) (.cons (.t rfl) .nil))))) rfl <| .p (opAssign (.t rfl)) rfl <| .p (opAssign .ct) rfl <| .nil ?_)
    refine EndT.thenN ?_
    refine CodeT.ret (EndT.blkR (EndT.thenR (Post.retR rfl rfl () trivial (fun _ _ _ _ => trivial) rfl (.cons (.rt rfl) ?_ (.cons (.rt rfl) ?_ .nil)))))
    · exact VLe.int (congrArg Nat.cast (by unfold twoV; (repeat (first | rw [if_pos (by omega)] | rw [if_neg (by omega)])); first | done | rfl))
    · exact VLe.prop (by unfold twoOk; (repeat (first | rw [if_pos (by omega)] | rw [if_neg (by omega)])))
  ·
    refine CodeT.seq ?_
    refine CodeT.region (.p (opMove (.t rfl)) rfl <| .p (opGeq (.t rfl) (.c _)) rfl <| .p (opMove (.t rfl)) rfl <| .g (OpG.gT rfl rfl rfl rfl (fun hg => opMove (.t rfl))) rfl rfl <| .g (OpG.gT rfl rfl rfl rfl (fun hg => opLeq (.when (.t rfl) hg) (.c _))) rfl rfl <| .p (opAnd (.t rfl) (.t rfl)) rfl <| .p (opAssign (.t rfl)) rfl <| .nil ?_)
    refine EndT.thenN ?_
    refine CodeT.cond (.t rfl) (fun c1 => ?_) (fun c1 => ?_)
    ·
      refine CodeT.seq ?_
      refine CodeT.region (.p (opMove (.t rfl)) rfl <| .p (opSubF (.t rfl) (.c _) (fits_i64 (by omega) (by omega))) rfl <| .p (opMove (.t rfl)) rfl <| .p (opMove (.t rfl)) rfl <| .p (opCall (rtest_spec (n := 64) (.inr rfl) hp0 hp1 (by omega) (by omega)) Tryd.cb35 (.cons (.t rfl) (.cons (.c _) (.cons (.t rfl) (.cons (.t rfl) .nil))))) rfl <| .p (opAssign (.t rfl)) rfl <| .p (opAssign .ct) rfl <| .nil ?_)
      refine EndT.thenN ?_
      refine CodeT.ret (EndT.blkR (EndT.thenR (Post.retR rfl rfl () trivial (fun _ _ _ _ => trivial) rfl (.cons (.rt rfl) ?_ (.cons (.rt rfl) ?_ .nil)))))
      · exact VLe.int (congrArg Nat.cast (by unfold twoV; (repeat (first | rw [if_pos (by omega)] | rw [if_neg (by omega)])); first | done | rfl))
      · exact VLe.prop (by unfold twoOk; (repeat (first | rw [if_pos (by omega)] | rw [if_neg (by omega)])))
    ·
      refine CodeT.seq ?_
      refine CodeT.region (.p (opMove (.t rfl)) rfl <| .p (opGeq (.t rfl) (.c _)) rfl <| .p (opMove (.t rfl)) rfl <| .g (OpG.gT rfl rfl rfl rfl (fun hg => opMove (.t rfl))) rfl rfl <| .g (OpG.gT rfl rfl rfl rfl (fun hg => opLeq (.when (.t rfl) hg) (.c _))) rfl rfl <| .p (opAnd (.t rfl) (.t rfl)) rfl <| .p (opAssign (.t rfl)) rfl <| .nil ?_)
      refine EndT.thenN ?_
      refine CodeT.cond (.t rfl) (fun c2 => ?_) (fun c2 => ?_)
      ·
        refine CodeT.seq ?_
        refine CodeT.region (.p (opMove (.t rfl)) rfl <| .p (opSubF (.t rfl) (.c _) (fits_i64 (by omega) (by omega))) rfl <| .p (opMove (.t rfl)) rfl <| .p (opMove (.t rfl)) rfl <| .p (opCall (rbinary_spec (n := 32) (.inl rfl) hp0 hp1 (by omega) (by omega)) Tryd.cb36 (.cons (.t rfl) (.cons (.c _) (.cons (.t rfl) (.cons (.t rfl) .nil))))) rfl <| .p (opMove (.t rfl)) rfl <| .p (opExtract (.t rfl) rfl) rfl <| .p (opExtract (.t rfl) rfl) rfl <| .p (opAssign (.t rfl)) rfl <| .p (opAssign (.t rfl)) rfl <| .nil ?_)
        refine EndT.thenN ?_
        refine CodeT.seq ?_
        refine CodeT.region (.p (opMove (.t rfl)) rfl <| .p (opMove (.t rfl)) rfl <| .p (opEql (.t rfl) (.c _)) rfl <| .p (opAssign (.t rfl)) rfl <| .p (opAssign (.t rfl)) rfl <| .nil ?_)
        refine EndT.thenN ?_
        refine CodeT.ret (EndT.blkR (EndT.thenR (Post.retR rfl rfl () trivial (fun _ _ _ _ => trivial) rfl (.cons (.rt rfl) ?_ (.cons (.rt rfl) ?_ .nil)))))
        · exact VLe.int (congrArg Nat.cast (by unfold twoV; (repeat (first | rw [if_pos (by omega)] | rw [if_neg (by omega)])); first | done | rfl))
        · exact VLe.prop (by unfold twoOk; (repeat (first | rw [if_pos (by omega)] | rw [if_neg (by omega)])))
      ·
        refine CodeT.seq ?_
        refine CodeT.region (.p (opMove (.t rfl)) rfl <| .p (opGeq (.t rfl) (.c _)) rfl <| .p (opMove (.t rfl)) rfl <| .g (OpG.gT rfl rfl rfl rfl (fun hg => opMove (.t rfl))) rfl rfl <| .g (OpG.gT rfl rfl rfl rfl (fun hg => opLeq (.when (.t rfl) hg) (.c _))) rfl rfl <| .p (opAnd (.t rfl) (.t rfl)) rfl <| .p (opAssign (.t rfl)) rfl <| .nil ?_)
        refine EndT.thenN ?_
        refine CodeT.cond (.t rfl) (fun c3 => ?_) (fun c3 => ?_)
        ·
          refine CodeT.seq ?_
          refine CodeT.region (.p (opMove (.t rfl)) rfl <| .p (opSubF (.t rfl) (.c _) (fits_i64 (by omega) (by omega))) rfl <| .p (opMove (.t rfl)) rfl <| .p (opMove (.t rfl)) rfl <| .p (opCall (rbinary_spec (n := 64) (.inr rfl) hp0 hp1 (by omega) (by omega)) Tryd.cb36 (.cons (.t rfl) (.cons (.c _) (.cons (.t rfl) (.cons (.t rfl) .nil))))) rfl <| .p (opMove (.t rfl)) rfl <| .p (opExtract (.t rfl) rfl) rfl <| .p (opExtract (.t rfl) rfl) rfl <| .p (opAssign (.t rfl)) rfl <| .p (opAssign (.t rfl)) rfl <| .nil ?_)
          refine EndT.thenN ?_
          refine CodeT.seq ?_
          refine CodeT.region (.p (opMove (.t rfl)) rfl <| .p (opMove (.t rfl)) rfl <| .p (opEql (.t rfl) (.c _)) rfl <| .p (opAssign (.t rfl)) rfl <| .p (opAssign (.t rfl)) rfl <| .nil ?_)
          refine EndT.thenN ?_
          refine CodeT.ret (EndT.blkR (EndT.thenR (Post.retR rfl rfl () trivial (fun _ _ _ _ => trivial) rfl (.cons (.rt rfl) ?_ (.cons (.rt rfl) ?_ .nil)))))
          · exact VLe.int (congrArg Nat.cast (by unfold twoV; (repeat (first | rw [if_pos (by omega)] | rw [if_neg (by omega)])); first | done | rfl))
          · exact VLe.prop (by unfold twoOk; (repeat (first | rw [if_pos (by omega)] | rw [if_neg (by omega)])))
        ·
          refine CodeT.skip (EndT.blkN (EndT.thenN ?_))
          refine CodeT.seq ?_
          refine CodeT.region (.p (opAssign (.c _)) rfl <| .p (opAssign .cf) rfl <| .nil ?_)
          refine EndT.thenN ?_
          refine CodeT.ret (Post.retR rfl rfl () trivial (fun _ _ _ _ => trivial) rfl (.cons (.rt rfl) ?_ (.cons (.rt rfl) ?_ .nil)))
          · exact VLe.int (congrArg Nat.cast (by unfold twoV; (repeat (first | rw [if_pos (by omega)] | rw [if_neg (by omega)])); first | done | rfl))
          · exact VLe.prop (by unfold twoOk; (repeat (first | rw [if_pos (by omega)] | rw [if_neg (by omega)])))

end Go.Proofs.YtgmpadhfgohodaaDoor
