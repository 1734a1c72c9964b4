/-
  Walks, printed by a program (gen.py) out of what its author says of each function.
-/
import Derived.Test.YtbiahdejccipaaaM13X
import Derived.Test.YtbiahdejccipaaaM13Y
import Derived.Test.YtbiahdejccipaaaM13Z
namespace Go.Proofs.Ytbiahdejccipaaa
open Go.Hl Go.RowKit
set_option linter.unusedVariables false
set_option maxRecDepth 100000

set_option maxHeartbeats 2000000 in
theorem ModuleFinds_spec {x : ModD} {f : Int} {l : List UInt8} : FnP Try.prog 4 [aggV (encMod x), intV .i64 f, strV l] (propV True) := by
  refine FnE.intro 119 Try.func4 rfl rfl rfl fun w0 S0 M => ?_
  refine CodeT.fact (t := 0) rfl (fun S w v h => modLensA h) fun hlen => ?_
  refine CodeT.fact (t := 0) rfl (fun S w v h => modIn h) fun hin => ?_
  obtain ⟨hl0, hl1, hl2, hl3, hl4, hl5, hl6, hl7⟩ := hlen
  obtain ⟨hi0, hi1, hi2, hi3, hi4⟩ := hin
  refine CodeT.seq ?_
  refine CodeT.region (.p (opBoxA (.t rfl)) rfl <| .p (opAssign .cf) rfl <| .nil ?_)
  refine EndT.thenN ?_
  refine CodeT.seq ?_
  refine CodeT.seq ?_
  refine CodeT.region (.p (opLoadA Try.ag31 Try.cz31 rfl (.t rfl) rfl) rfl <| .n (OpP.openX (opCall great_spec Try.cb7 (.cons (.t rfl) .nil))) rfl <| fun n17 hn17 => .p (opGtr (.t rfl) (.c _)) rfl <| .p (opMove (.t rfl)) rfl <| .g (OpG.gF rfl rfl rfl rfl (fun hg => opMove (.t rfl))) rfl rfl <| .g (OpG.gF rfl rfl rfl rfl (fun hg => opLenS rfl Try.underlying9 (.when (.t rfl) hg))) rfl rfl <| .g (OpG.gF rfl rfl rfl rfl (fun hg => opGtr (.when (.t rfl) hg) (.c _))) rfl rfl <| .p (opOr (.t rfl) (.t rfl)) rfl <| .p (opMove (.t rfl)) rfl <| .g (OpG.gF rfl rfl rfl rfl (fun hg => opCall (awake_spec) Try.cb8 .nil)) rfl rfl <| .g (OpG.gF rfl rfl rfl rfl (fun hg => opNot (.when (.t rfl) hg))) rfl rfl <| .p (opOr (.t rfl) (.t rfl)) rfl <| .nil ?_)
  refine EndT.thenN ?_
  refine CodeT.cond (.t rfl) (fun c0 => ?_) (fun c0 => ?_)
  ·
    refine CodeT.seq ?_
    refine CodeT.region (.p (opCall (awake_spec) Try.cb8 .nil) rfl <| .p (opAssign (.t rfl)) rfl <| .nil ?_)
    refine EndT.thenN ?_
    refine CodeT.ret (EndT.thenR (Post.retP rfl rfl ?_))
    exact VLe.refl _
  ·
    have hsm : SmallM x := hn17 (by simp at c0; omega)
    refine CodeT.skip (EndT.thenN ?_)
    refine CodeT.seq ?_
    refine CodeT.region (.p (opLoadA Try.ag31 Try.cz31 rfl (.t rfl) rfl) rfl <| .p (opCall (l13to_spec hsm) Try.cb10 (.cons (.t rfl) .nil)) rfl <| .p (opAssign (.t rfl)) rfl <| .nil ?_)
    refine EndT.thenN ?_
    refine CodeT.seq ?_
    refine CodeT.seq ?_
    refine CodeT.draw 17 0 Try.mixed (by kernel_rfl) (.p (opMove (.t rfl)) <| .p (opCall (count_spec) Try.cb12 (.cons (.t rfl) .nil)) <| .p (opField Try.fd31_1 (.t rfl)) <| .p (opLoad Try.ag23 (.t rfl)) <| .p (opLen rfl Try.underlying23 (.t rfl)) <| .p (opField Try.fd31_2 (.t rfl)) <| .p (opLoad Try.ag24 (.t rfl)) <| .p (opLen rfl Try.underlying24 (.t rfl)) <| .p (opAddF (.t rfl) (.t rfl) (fits_i64 (by omega) (by omega))) <| .p (opNeq (.t rfl) (.t rfl)) <| .p (opMove (.t rfl)) <| .cons (OpG.gF rfl rfl rfl rfl (fun hg => opMove (.t rfl))) <| .cons (OpG.gF rfl rfl rfl rfl (fun hg => opCall (named_spec) Try.cb13 (.cons (.when (.t rfl) hg) .nil))) <| .cons (OpG.gF rfl rfl rfl rfl (fun hg => opMove (.t rfl))) <| .cons (OpG.gF rfl rfl rfl rfl (fun hg => opCall (lnamed_spec) Try.cb14 (.cons (.when (.t rfl) hg) .nil))) <| .cons (OpG.gF rfl rfl rfl rfl (fun hg => opNeqB Try.underlying4 (.when (.t rfl) hg) (.when (.t rfl) hg))) <| .p (opOr (.t rfl) (.t rfl)) <| .nil) (.nil ?_)
    refine EndT.thenN ?_
    refine CodeT.cond (.t rfl) (fun c1 => ?_) (fun c1 => ?_)
    ·
      exfalso; simp [countM] at c1
    ·
      refine CodeT.skip (EndT.thenN ?_)
      refine CodeT.seq ?_
      refine CodeT.region (.p (opLoadA Try.ag31 Try.cz31 rfl (.t rfl) rfl) rfl <| .p (opCall (unfit_spec) Try.cb9 (.cons (.t rfl) .nil)) rfl <| .p (opMove (.t rfl)) rfl <| .p (opExtract (.t rfl) rfl) rfl <| .n (OpP.openX (opExtract (.t rfl) rfl)) rfl <| fun n52 hn52 => .p (opAssign (.t rfl)) rfl <| .p (opAssign (.t rfl)) rfl <| .nil ?_)
      refine EndT.thenN ?_
      refine CodeT.seq ?_
      refine CodeT.seq ?_
      refine CodeT.region (.p (opMove (.t rfl)) rfl <| .p (opNeq (.t rfl) (.c _)) rfl <| .nil ?_)
      refine EndT.thenN ?_
      refine CodeT.cond (.t rfl) (fun c2 => ?_) (fun c2 => ?_)
      ·
        refine CodeT.seq ?_
        refine CodeT.region (.p (opAssign .ct) rfl <| .nil ?_)
        refine EndT.thenN ?_
        refine CodeT.ret (EndT.thenR (Post.retP rfl rfl ?_))
        exact VLe.refl _
      ·
        have hfit : FitsM x := hn52 (by omega)
        have hfi : ∀ z ∈ x.Imports, importE x z = 0 := firstE_on.1 (manyE_zero.1 hfit.imports).2
        have hff : ∀ z ∈ x.Funcs, funcE x z = 0 := funcs_each hfit.funcs
        have hss : (sigO x f).isSome ↔ InP f (countM x) := sig_iff hfi hff
        refine CodeT.skip (EndT.thenN ?_)
        refine CodeT.seq ?_
        refine CodeT.region (.p (opMove (.t rfl)) rfl <| .p (opMove (.t rfl)) rfl <| .p (opCall (msig_spec) Try.cb15 (.cons (.t rfl) (.cons (.t rfl) .nil))) rfl <| .p (opMove (.t rfl)) rfl <| .p (opExtract (.t rfl) rfl) rfl <| .p (opExtract (.t rfl) rfl) rfl <| .n (opAlloc Try.zb46) rfl <| fun b10 _ => .s (opStoreOA (i := 0) Try.cz46 rfl (.t rfl) (.t rfl) rfl rfl rfl) <| .p (opAssign (.t rfl)) rfl <| .nil ?_)
        refine EndT.thenN ?_
        refine CodeT.share (t := 10) (i := 0) rfl rfl ?_
        refine CodeT.seq ?_
        refine CodeT.seq ?_
        refine CodeT.region (.p (opMove (.t rfl)) rfl <| .p (opMove (.t rfl)) rfl <| .p (opMove (.t rfl)) rfl <| .p (opCall (count_spec) Try.cb12 (.cons (.t rfl) .nil)) rfl <| .p (opCall (lin_spec) Try.cb16 (.cons (.t rfl) (.cons (.t rfl) .nil))) rfl <| .p (opNeqB Try.underlying4 (.t rfl) (.t rfl)) rfl <| .nil ?_)
        refine EndT.thenN ?_
        refine CodeT.cond (.t rfl) (fun c3 => ?_) (fun c3 => ?_)
        ·
          exact absurd hss c3
        ·
          refine CodeT.skip (EndT.thenN ?_)
          refine CodeT.cut (σ := Unit) (fun _ => []) (fun _ => []) (fun _ => True) ?_ ?_
          ·
            refine CodeT.seq ?_
            refine CodeT.region (.p (opMove (.t rfl)) rfl <| .nil ?_)
            refine EndT.thenN ?_
            refine CodeT.cond (.t rfl) (fun c4 => ?_) (fun c4 => ?_)
            ·
              obtain ⟨s, hs⟩ := Option.isSome_iff_exists.1 c4
              have hsi := sig_mem hs
              rw [hs]
              refine CodeT.seq ?_
              refine CodeT.region (.p (opLoadA Try.ag31 Try.cz31 rfl (.t rfl) rfl) rfl <| .p (opMove (.t rfl)) rfl <| .p (opCall (l13sig_spec hs) Try.cb17 (.cons (.t rfl) (.cons (.t rfl) .nil))) rfl <| .n (opAlloc Try.zb52) rfl <| fun b12 _ => .s (opStoreOA (i := 0) Try.cz52 rfl (.t rfl) (.t rfl) rfl rfl rfl) <| .nil ?_)
              refine EndT.thenN ?_
              refine CodeT.share (t := 12) (i := 0) rfl rfl ?_
              refine CodeT.seq ?_
              refine CodeT.draw 10 0 Try.mixed (by kernel_rfl) (.p (opLoadA Try.ag46 Try.cz46 rfl (.t rfl) rfl) <| .p (opField Try.fd52_0 (.t rfl)) <| .p (opLoad Try.ag50 (.t rfl)) <| .p (opCall (l09to_spec (by have := hsm.sig s hsi; omega)) Try.cb19 (.cons (.t rfl) .nil)) <| .p (opField Try.fd52_1 (.t rfl)) <| .p (opLoad Try.ag50 (.t rfl)) <| .p (opCall (l09to_spec (by have := hsm.sig s hsi; omega)) Try.cb19 (.cons (.t rfl) .nil)) <| .p (opBuild Try.pl46 Try.zb46 (.cons (.t rfl) (.cons (.t rfl) .nil)) rfl) <| .p (opCall (tsame_spec) Try.cb18 (.cons (.t rfl) (.cons (.t rfl) .nil))) <| .p (opNot (.t rfl)) <| .nil) (.nil ?_)
              refine EndT.thenN ?_
              refine CodeT.cond (.t rfl) (fun c5 => ?_) (fun c5 => ?_)
              ·
                exact absurd rfl c5
              ·
                refine CodeT.skip (EndT.meet () trivial rfl (.keep 16 rfl rfl))
            ·
              refine CodeT.skip (EndT.meet () trivial rfl (.keep 1 rfl rfl))
          ·
            intro _ _
            refine CodeT.seq ?_
            refine CodeT.region (.p (opMove (.t rfl)) rfl <| .p (opMove (.t rfl)) rfl <| .p (opCall (find_spec) Try.cb20 (.cons (.t rfl) (.cons (.t rfl) .nil))) rfl <| .p (opMove (.t rfl)) rfl <| .p (opExtract (.t rfl) rfl) rfl <| .p (opExtract (.t rfl) rfl) rfl <| .n (opAlloc Try.zb57) rfl <| fun b13 _ => .s (opStoreOA (i := 0) Try.cz57 rfl (.t rfl) (.t rfl) rfl rfl rfl) <| .p (opAssign (.t rfl)) rfl <| .nil ?_)
            refine EndT.thenN ?_
            refine CodeT.share (t := 13) (i := 0) rfl rfl ?_
            refine CodeT.seq ?_
            refine CodeT.seq ?_
            refine CodeT.region (.p (opAssign (.c _)) rfl <| .nil ?_)
            refine EndT.thenN ?_
            refine CodeT.block ?_
            refine CodeT.loopO (σ := Nat) (fun _ => []) (fun k => [(15, intV .i64 (k : Int))]) (fun k => k ≤ x.Exports.length ∧ NotB (fun z : ExportD => z.Name = l) x.Exports k) (fun k => x.Exports.length - k) 0 ⟨by omega, NotB.zero _ _⟩ rfl ?_ ?_
            · exact (.get rfl (VLe.refl _) (.refl _ _))
            · rintro k ⟨hk, hk6⟩
              refine CodeT.seq ?_
              refine CodeT.seq ?_
              refine CodeT.region (.p (opMove (.t rfl)) rfl <| .p (opField Try.fd31_6 (.t rfl)) rfl <| .p (opLoad Try.ag27 (.t rfl)) rfl <| .p (opLen rfl Try.underlying27 (.t rfl)) rfl <| .p (opLss (.t rfl) (.t rfl)) rfl <| .nil ?_)
              refine EndT.thenN ?_
              refine CodeT.cond (.t rfl) (fun c6 => ?_) (fun c6 => ?_)
              ·
                obtain ⟨y, hy⟩ := getElem?_lt (xs := x.Exports) (k := k) (by omega)
                refine CodeT.skip (EndT.thenN ?_)
                refine CodeT.seq ?_
                refine CodeT.block ?_
                refine CodeT.seq ?_
                refine CodeT.region (.p (opField Try.fd31_6 (.t rfl)) rfl <| .p (opLoad Try.ag27 (.t rfl)) rfl <| .p (opMove (.t rfl)) rfl <| .p (opIndexAddr Try.underlying27 Try.cz57 rfl (.t rfl) (.t rfl) rfl (by assumption)) rfl <| .p (opField Try.fd57_0 (.t rfl)) rfl <| .p (opLoad Try.ag9 (.t rfl)) rfl <| .p (opMove (.t rfl)) rfl <| .p (opEqlS (.t rfl) (.t rfl)) rfl <| .nil ?_)
                refine EndT.thenN ?_
                refine CodeT.cond (.t rfl) (fun c7 => ?_) (fun c7 => ?_)
                ·
                  have hfy : findO x l = some y := find_at hk6 hy c7
                  refine CodeT.seq ?_
                  refine CodeT.draw 10 1 Try.mixed (by kernel_rfl) (.p (opMove (.t rfl)) <| .p (opMove (.t rfl)) <| .cons (OpG.gT rfl rfl rfl rfl (fun hg => opLoadA Try.ag57 Try.cz57 rfl (.t rfl) rfl)) <| .cons (OpG.gT rfl rfl rfl rfl (fun hg => opField Try.fd31_6 (.t rfl))) <| .cons (OpG.gT rfl rfl rfl rfl (fun hg => opLoad Try.ag27 (.when (.t rfl) hg))) <| .cons (OpG.gT rfl rfl rfl rfl (fun hg => opMove (.t rfl))) <| .cons (OpG.gT rfl rfl rfl rfl (fun hg => opIndexAddr Try.underlying27 Try.cz57 rfl (.when (.t rfl) hg) (.when (.t rfl) hg) rfl (by assumption))) <| .cons (OpG.gT rfl rfl rfl rfl (fun hg => opLoadA Try.ag57 Try.cz57 rfl (.when (.t rfl) hg) rfl)) <| .cons (OpG.gT rfl rfl rfl rfl (fun hg => opEqlA Try.underlying57 Try.sh57 Try.eg57 (.when (.t rfl) hg) (.when (.t rfl) hg) (.cons (by decide) rfl rfl (.str Try.underlying9) (.cons (by decide) rfl rfl (.int Try.underlying3) (.cons (by decide) rfl rfl (.int Try.underlying3) .nil))))) <| .p (opAnd (.t rfl) (.t rfl)) <| .nil) (.p (opAssign (.t rfl)) rfl <| .nil ?_)
                  refine EndT.thenN ?_
                  refine CodeT.ret (EndT.blkR (EndT.thenR (EndT.thenR (EndT.blkR (EndT.thenR (Post.retP rfl rfl ?_))))))
                  exact VLe.prop (by rw [hfy]; simp)
                ·
                  refine CodeT.skip (EndT.blkN (EndT.thenN ?_))
                  refine CodeT.region (.p (opMove (.t rfl)) rfl <| .p (opAddF (.t rfl) (.c _) (fits_i64 (by omega) (by omega))) rfl <| .p (opAssign (.t rfl)) rfl <| .nil ?_)
                  refine EndT.round (k + 1) ⟨by omega, hk6.succ hy c7⟩ (by omega) rfl ?_
                  exact (.get rfl (VLe.int (by omega)) (.keep 17 rfl rfl))
              ·
                have hfn : findO x l = none := find_none (hk6.all (by omega))
                refine CodeT.exit (EndT.thenX (EndT.thenX (EndT.blkX (EndT.thenN ?_))))
                refine CodeT.seq ?_
                refine CodeT.region (.p (opMove (.t rfl)) rfl <| .p (opNot (.t rfl)) rfl <| .p (opMove (.t rfl)) rfl <| .g (OpG.gT rfl rfl rfl rfl (fun hg => opLoadA Try.ag57 Try.cz57 rfl (.t rfl) rfl)) rfl rfl <| .g (OpG.gT rfl rfl rfl rfl (fun hg => opBuild Try.pl57 Try.zb57 .nil rfl)) rfl rfl <| .g (OpG.gT rfl rfl rfl rfl (fun hg => opEqlA Try.underlying57 Try.sh57 Try.eg57 (.when (.t rfl) hg) (.le (.when (.t rfl) hg) (VLe.agg (.cons strV_nil (.cons (VLe.refl _) (.cons (VLe.refl _) .nil))))) (.cons (by decide) rfl rfl (.str Try.underlying9) (.cons (by decide) rfl rfl (.int Try.underlying3) (.cons (by decide) rfl rfl (.int Try.underlying3) .nil))))) rfl rfl <| .p (opAnd (.t rfl) (.t rfl)) rfl <| .p (opAssign (.t rfl)) rfl <| .nil ?_)
                refine EndT.thenN ?_
                refine CodeT.ret (Post.retP rfl rfl ?_)
                exact VLe.prop (by rw [hfn]; simp)

end Go.Proofs.Ytbiahdejccipaaa
