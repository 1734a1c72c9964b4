/-
  Walks, printed by a program (gen.py) out of what its author says of each function.
-/
import Derived.Test.YtbiahdejccipaaaM13X
import Derived.Test.YtbiahdejccipaaaM13Y
import Derived.Test.YtbiahdejccipaaaM13Z
namespace Go.Proofs.Ytbiahdejccipaaa
open Go.Hl Go.RowKit
set_option linter.unusedVariables false
set_option maxRecDepth 100000

set_option maxHeartbeats 4000000 in
theorem ModuleSame_spec {x y : ModD} : FnP Try.prog 5 [aggV (encMod x), aggV (encMod y)] (propV True) := by
  refine FnE.intro 424 Try.func5 rfl rfl rfl fun w0 S0 M => ?_
  refine CodeT.fact (t := 0) rfl (fun S w v h => modLens3 h) fun hx0 => ?_
  refine CodeT.fact (t := 1) rfl (fun S w v h => modLens3 h) fun hy0 => ?_
  obtain ⟨hl0, hl1, hl2, hl3, hl4, hl5, hl6, hl7⟩ := hx0.top
  refine CodeT.seq ?_
  refine CodeT.region (.p (opBoxA (.t rfl)) rfl <| .p (opBoxA (.t rfl)) rfl <| .p (opAssign .cf) rfl <| .nil ?_)
  refine EndT.thenN ?_
  refine CodeT.seq ?_
  refine CodeT.seq ?_
  refine CodeT.region (.p (opLoadA Try.ag31 Try.cz31 rfl (.t rfl) rfl) rfl <| .p (opCall (great_spec) Try.cb7 (.cons (.t rfl) .nil)) rfl <| .p (opGtr (.t rfl) (.c _)) rfl <| .p (opMove (.t rfl)) rfl <| .g (OpG.gF rfl rfl rfl rfl (fun hg => opLoadA Try.ag31 Try.cz31 rfl (.t rfl) rfl)) rfl rfl <| .g (OpG.gF rfl rfl rfl rfl (fun hg => opCall (great_spec) Try.cb7 (.cons (.when (.t rfl) hg) .nil))) rfl rfl <| .g (OpG.gF rfl rfl rfl rfl (fun hg => opGtr (.when (.t rfl) hg) (.c _))) rfl rfl <| .p (opOr (.t rfl) (.t rfl)) rfl <| .p (opMove (.t rfl)) rfl <| .g (OpG.gF rfl rfl rfl rfl (fun hg => opCall (awake_spec) Try.cb8 .nil)) rfl rfl <| .g (OpG.gF rfl rfl rfl rfl (fun hg => opNot (.when (.t rfl) hg))) rfl rfl <| .p (opOr (.t rfl) (.t rfl)) rfl <| .nil ?_)
  refine EndT.thenN ?_
  refine CodeT.cond (.t rfl) (fun c0 => ?_) (fun c0 => ?_)
  ·
    refine CodeT.seq ?_
    refine CodeT.region (.p (opCall (awake_spec) Try.cb8 .nil) rfl <| .p (opAssign (.t rfl)) rfl <| .nil ?_)
    refine EndT.thenN ?_
    refine CodeT.ret (EndT.thenR (Post.retP rfl rfl ?_))
    exact VLe.refl _
  ·
    have hsx : SmallM x := greatM_small hx0 (by simp at c0; omega)
    have hsy : SmallM y := greatM_small hy0 (by simp at c0; omega)
    refine CodeT.skip (EndT.thenN ?_)
    refine CodeT.seq ?_
    refine CodeT.draw 6 0 Try.mixed (by kernel_rfl) (.p (opLoadA Try.ag31 Try.cz31 rfl (.t rfl) rfl) <| .p (opCall (l13to_spec hsx) Try.cb10 (.cons (.t rfl) .nil)) <| .p (opLoadA Try.ag31 Try.cz31 rfl (.t rfl) rfl) <| .p (opCall (l13to_spec hsy) Try.cb10 (.cons (.t rfl) .nil)) <| .p (opAssign (.t rfl)) <| .p (opAssign (.t rfl)) <| .nil) (.nil ?_)
    refine EndT.thenN ?_
    refine CodeT.seq ?_
    refine CodeT.region (.p (opField Try.fd31_0 (.t rfl)) rfl <| .p (opLoad Try.ag22 (.t rfl)) rfl <| .p (opLen rfl Try.underlying22 (.t rfl)) rfl <| .p (opField Try.fd31_0 (.t rfl)) rfl <| .p (opLoad Try.ag22 (.t rfl)) rfl <| .p (opLen rfl Try.underlying22 (.t rfl)) rfl <| .p (opEql (.t rfl) (.t rfl)) rfl <| .p (opMove (.t rfl)) rfl <| .g (OpG.gT rfl rfl rfl rfl (fun hg => opField Try.fd31_1 (.t rfl))) rfl rfl <| .g (OpG.gT rfl rfl rfl rfl (fun hg => opLoad Try.ag23 (.when (.t rfl) hg))) rfl rfl <| .g (OpG.gT rfl rfl rfl rfl (fun hg => opLen rfl Try.underlying23 (.when (.t rfl) hg))) rfl rfl <| .g (OpG.gT rfl rfl rfl rfl (fun hg => opField Try.fd31_1 (.t rfl))) rfl rfl <| .g (OpG.gT rfl rfl rfl rfl (fun hg => opLoad Try.ag23 (.when (.t rfl) hg))) rfl rfl <| .g (OpG.gT rfl rfl rfl rfl (fun hg => opLen rfl Try.underlying23 (.when (.t rfl) hg))) rfl rfl <| .g (OpG.gT rfl rfl rfl rfl (fun hg => opEql (.when (.t rfl) hg) (.when (.t rfl) hg))) rfl rfl <| .p (opAnd (.t rfl) (.t rfl)) rfl <| .p (opMove (.t rfl)) rfl <| .g (OpG.gT rfl rfl rfl rfl (fun hg => opField Try.fd31_2 (.t rfl))) rfl rfl <| .g (OpG.gT rfl rfl rfl rfl (fun hg => opLoad Try.ag24 (.when (.t rfl) hg))) rfl rfl <| .g (OpG.gT rfl rfl rfl rfl (fun hg => opLen rfl Try.underlying24 (.when (.t rfl) hg))) rfl rfl <| .g (OpG.gT rfl rfl rfl rfl (fun hg => opField Try.fd31_2 (.t rfl))) rfl rfl <| .g (OpG.gT rfl rfl rfl rfl (fun hg => opLoad Try.ag24 (.when (.t rfl) hg))) rfl rfl <| .g (OpG.gT rfl rfl rfl rfl (fun hg => opLen rfl Try.underlying24 (.when (.t rfl) hg))) rfl rfl <| .g (OpG.gT rfl rfl rfl rfl (fun hg => opEql (.when (.t rfl) hg) (.when (.t rfl) hg))) rfl rfl <| .p (opAnd (.t rfl) (.t rfl)) rfl <| .p (opMove (.t rfl)) rfl <| .g (OpG.gT rfl rfl rfl rfl (fun hg => opField Try.fd31_3 (.t rfl))) rfl rfl <| .g (OpG.gT rfl rfl rfl rfl (fun hg => opLoad Try.ag3 (.when (.t rfl) hg))) rfl rfl <| .g (OpG.gT rfl rfl rfl rfl (fun hg => opField Try.fd31_3 (.t rfl))) rfl rfl <| .g (OpG.gT rfl rfl rfl rfl (fun hg => opLoad Try.ag3 (.when (.t rfl) hg))) rfl rfl <| .g (OpG.gT rfl rfl rfl rfl (fun hg => opEql (.when (.t rfl) hg) (.when (.t rfl) hg))) rfl rfl <| .p (opAnd (.t rfl) (.t rfl)) rfl <| .p (opMove (.t rfl)) rfl <| .g (OpG.gT rfl rfl rfl rfl (fun hg => opField Try.fd31_4 (.t rfl))) rfl rfl <| .g (OpG.gT rfl rfl rfl rfl (fun hg => opLoad Try.ag25 (.when (.t rfl) hg))) rfl rfl <| .g (OpG.gT rfl rfl rfl rfl (fun hg => opLen rfl Try.underlying25 (.when (.t rfl) hg))) rfl rfl <| .g (OpG.gT rfl rfl rfl rfl (fun hg => opField Try.fd31_4 (.t rfl))) rfl rfl <| .g (OpG.gT rfl rfl rfl rfl (fun hg => opLoad Try.ag25 (.when (.t rfl) hg))) rfl rfl <| .g (OpG.gT rfl rfl rfl rfl (fun hg => opLen rfl Try.underlying25 (.when (.t rfl) hg))) rfl rfl <| .g (OpG.gT rfl rfl rfl rfl (fun hg => opEql (.when (.t rfl) hg) (.when (.t rfl) hg))) rfl rfl <| .p (opAnd (.t rfl) (.t rfl)) rfl <| .p (opMove (.t rfl)) rfl <| .g (OpG.gT rfl rfl rfl rfl (fun hg => opField Try.fd31_5 (.t rfl))) rfl rfl <| .g (OpG.gT rfl rfl rfl rfl (fun hg => opLoad Try.ag26 (.when (.t rfl) hg))) rfl rfl <| .g (OpG.gT rfl rfl rfl rfl (fun hg => opLen rfl Try.underlying26 (.when (.t rfl) hg))) rfl rfl <| .g (OpG.gT rfl rfl rfl rfl (fun hg => opField Try.fd31_5 (.t rfl))) rfl rfl <| .g (OpG.gT rfl rfl rfl rfl (fun hg => opLoad Try.ag26 (.when (.t rfl) hg))) rfl rfl <| .g (OpG.gT rfl rfl rfl rfl (fun hg => opLen rfl Try.underlying26 (.when (.t rfl) hg))) rfl rfl <| .g (OpG.gT rfl rfl rfl rfl (fun hg => opEql (.when (.t rfl) hg) (.when (.t rfl) hg))) rfl rfl <| .p (opAnd (.t rfl) (.t rfl)) rfl <| .p (opMove (.t rfl)) rfl <| .g (OpG.gT rfl rfl rfl rfl (fun hg => opField Try.fd31_6 (.t rfl))) rfl rfl <| .g (OpG.gT rfl rfl rfl rfl (fun hg => opLoad Try.ag27 (.when (.t rfl) hg))) rfl rfl <| .g (OpG.gT rfl rfl rfl rfl (fun hg => opLen rfl Try.underlying27 (.when (.t rfl) hg))) rfl rfl <| .g (OpG.gT rfl rfl rfl rfl (fun hg => opField Try.fd31_6 (.t rfl))) rfl rfl <| .g (OpG.gT rfl rfl rfl rfl (fun hg => opLoad Try.ag27 (.when (.t rfl) hg))) rfl rfl <| .g (OpG.gT rfl rfl rfl rfl (fun hg => opLen rfl Try.underlying27 (.when (.t rfl) hg))) rfl rfl <| .g (OpG.gT rfl rfl rfl rfl (fun hg => opEql (.when (.t rfl) hg) (.when (.t rfl) hg))) rfl rfl <| .p (opAnd (.t rfl) (.t rfl)) rfl <| .p (opMove (.t rfl)) rfl <| .g (OpG.gT rfl rfl rfl rfl (fun hg => opField Try.fd31_7 (.t rfl))) rfl rfl <| .g (OpG.gT rfl rfl rfl rfl (fun hg => opLoad Try.ag3 (.when (.t rfl) hg))) rfl rfl <| .g (OpG.gT rfl rfl rfl rfl (fun hg => opField Try.fd31_7 (.t rfl))) rfl rfl <| .g (OpG.gT rfl rfl rfl rfl (fun hg => opLoad Try.ag3 (.when (.t rfl) hg))) rfl rfl <| .g (OpG.gT rfl rfl rfl rfl (fun hg => opEql (.when (.t rfl) hg) (.when (.t rfl) hg))) rfl rfl <| .p (opAnd (.t rfl) (.t rfl)) rfl <| .p (opMove (.t rfl)) rfl <| .g (OpG.gT rfl rfl rfl rfl (fun hg => opField Try.fd31_8 (.t rfl))) rfl rfl <| .g (OpG.gT rfl rfl rfl rfl (fun hg => opLoad Try.ag28 (.when (.t rfl) hg))) rfl rfl <| .g (OpG.gT rfl rfl rfl rfl (fun hg => opLen rfl Try.underlying28 (.when (.t rfl) hg))) rfl rfl <| .g (OpG.gT rfl rfl rfl rfl (fun hg => opField Try.fd31_8 (.t rfl))) rfl rfl <| .g (OpG.gT rfl rfl rfl rfl (fun hg => opLoad Try.ag28 (.when (.t rfl) hg))) rfl rfl <| .g (OpG.gT rfl rfl rfl rfl (fun hg => opLen rfl Try.underlying28 (.when (.t rfl) hg))) rfl rfl <| .g (OpG.gT rfl rfl rfl rfl (fun hg => opEql (.when (.t rfl) hg) (.when (.t rfl) hg))) rfl rfl <| .p (opAnd (.t rfl) (.t rfl)) rfl <| .p (opMove (.t rfl)) rfl <| .g (OpG.gT rfl rfl rfl rfl (fun hg => opField Try.fd31_9 (.t rfl))) rfl rfl <| .g (OpG.gT rfl rfl rfl rfl (fun hg => opLoad Try.ag29 (.when (.t rfl) hg))) rfl rfl <| .g (OpG.gT rfl rfl rfl rfl (fun hg => opLen rfl Try.underlying29 (.when (.t rfl) hg))) rfl rfl <| .g (OpG.gT rfl rfl rfl rfl (fun hg => opField Try.fd31_9 (.t rfl))) rfl rfl <| .g (OpG.gT rfl rfl rfl rfl (fun hg => opLoad Try.ag29 (.when (.t rfl) hg))) rfl rfl <| .g (OpG.gT rfl rfl rfl rfl (fun hg => opLen rfl Try.underlying29 (.when (.t rfl) hg))) rfl rfl <| .g (OpG.gT rfl rfl rfl rfl (fun hg => opEql (.when (.t rfl) hg) (.when (.t rfl) hg))) rfl rfl <| .p (opAnd (.t rfl) (.t rfl)) rfl <| .p (opAssign (.t rfl)) rfl <| .nil ?_)
    refine EndT.thenN ?_
    refine CodeT.seq ?_
    refine CodeT.seq ?_
    refine CodeT.region (.p (opAssign (.c _)) rfl <| .nil ?_)
    refine EndT.thenN ?_
    refine CodeT.block ?_
    refine CodeT.loopO (σ := Nat) (fun _ => []) (fun k0 => [(8, intV .i64 (k0 : Int)), (7, propV ((SameL x y) ∧ EqB x.Sigs y.Sigs k0))]) (fun k0 => k0 ≤ x.Sigs.length) (fun k0 => x.Sigs.length - k0) 0 (by omega) rfl ?_ ?_
    · exact (.get rfl (VLe.refl _) (.get rfl (VLe.prop sameL_iff) (.refl _ _)))
    · rintro k0 hk0
      refine CodeT.seq ?_
      refine CodeT.seq ?_
      refine CodeT.region (.p (opMove (.t rfl)) rfl <| .p (opField Try.fd31_0 (.t rfl)) rfl <| .p (opLoad Try.ag22 (.t rfl)) rfl <| .p (opLen rfl Try.underlying22 (.t rfl)) rfl <| .p (opLss (.t rfl) (.t rfl)) rfl <| .p (opMove (.t rfl)) rfl <| .g (OpG.gT rfl rfl rfl rfl (fun hg => opMove (.t rfl))) rfl rfl <| .p (opAnd (.t rfl) (.t rfl)) rfl <| .nil ?_)
      refine EndT.thenN ?_
      refine CodeT.cond (.t rfl) (fun c1 => ?_) (fun c1 => ?_)
      ·
        obtain ⟨a, hx⟩ := getElem?_lt (xs := x.Sigs) (k := k0) (by omega)
        obtain ⟨b, hy⟩ := getElem?_lt (xs := y.Sigs) (k := k0) (by have := c1.2.1.sigs; omega)
        refine CodeT.skip (EndT.thenN ?_)
        refine CodeT.seq ?_
        refine CodeT.block ?_
        refine CodeT.draw 32 1 Try.mixed (by kernel_rfl) (.p (opField Try.fd31_0 (.t rfl)) <| .p (opLoad Try.ag22 (.t rfl)) <| .p (opMove (.t rfl)) <| .p (opIndexAddr Try.underlying22 Try.cz52 rfl (.t rfl) (.t rfl) rfl (by assumption)) <| .p (opField Try.fd52_0 (.t rfl)) <| .p (opLoad Try.ag50 (.t rfl)) <| .p (opBytesStr Try.underlying50 Try.underlying5 Try.underlying9 (.t rfl)) <| .p (opField Try.fd31_0 (.t rfl)) <| .p (opLoad Try.ag22 (.t rfl)) <| .p (opMove (.t rfl)) <| .p (opIndexAddr Try.underlying22 Try.cz52 rfl (.t rfl) (.t rfl) rfl (by assumption)) <| .p (opField Try.fd52_0 (.t rfl)) <| .p (opLoad Try.ag50 (.t rfl)) <| .p (opBytesStr Try.underlying50 Try.underlying5 Try.underlying9 (.t rfl)) <| .p (opEqlS (.t rfl) (.t rfl)) <| .p (opMove (.t rfl)) <| .cons (OpG.gT rfl rfl rfl rfl (fun hg => opField Try.fd31_0 (.t rfl))) <| .cons (OpG.gT rfl rfl rfl rfl (fun hg => opLoad Try.ag22 (.when (.t rfl) hg))) <| .cons (OpG.gT rfl rfl rfl rfl (fun hg => opMove (.t rfl))) <| .cons (OpG.gT rfl rfl rfl rfl (fun hg => opIndexAddr Try.underlying22 Try.cz52 rfl (.when (.t rfl) hg) (.when (.t rfl) hg) rfl (by assumption))) <| .cons (OpG.gT rfl rfl rfl rfl (fun hg => opField Try.fd52_1 (.when (.t rfl) hg))) <| .cons (OpG.gT rfl rfl rfl rfl (fun hg => opLoad Try.ag50 (.when (.t rfl) hg))) <| .cons (OpG.gT rfl rfl rfl rfl (fun hg => opBytesStr Try.underlying50 Try.underlying5 Try.underlying9 (.when (.t rfl) hg))) <| .cons (OpG.gT rfl rfl rfl rfl (fun hg => opField Try.fd31_0 (.t rfl))) <| .cons (OpG.gT rfl rfl rfl rfl (fun hg => opLoad Try.ag22 (.when (.t rfl) hg))) <| .cons (OpG.gT rfl rfl rfl rfl (fun hg => opMove (.t rfl))) <| .cons (OpG.gT rfl rfl rfl rfl (fun hg => opIndexAddr Try.underlying22 Try.cz52 rfl (.when (.t rfl) hg) (.when (.t rfl) hg) rfl (by assumption))) <| .cons (OpG.gT rfl rfl rfl rfl (fun hg => opField Try.fd52_1 (.when (.t rfl) hg))) <| .cons (OpG.gT rfl rfl rfl rfl (fun hg => opLoad Try.ag50 (.when (.t rfl) hg))) <| .cons (OpG.gT rfl rfl rfl rfl (fun hg => opBytesStr Try.underlying50 Try.underlying5 Try.underlying9 (.when (.t rfl) hg))) <| .cons (OpG.gT rfl rfl rfl rfl (fun hg => opEqlS (.when (.t rfl) hg) (.when (.t rfl) hg))) <| .p (opAnd (.t rfl) (.t rfl)) <| .nil) (.p (opAssign (.t rfl)) rfl <| .nil ?_)
        refine EndT.blkN (EndT.thenN ?_)
        refine CodeT.region (.p (opMove (.t rfl)) rfl <| .p (opAddF (.t rfl) (.c _) (fits_i64 (by omega) (by omega))) rfl <| .p (opAssign (.t rfl)) rfl <| .nil ?_)
        refine EndT.round (k0 + 1) (by omega) (by omega) rfl ?_
        exact (.get rfl (VLe.int (by omega)) (.get rfl (VLe.prop (eqB_step c1.2 hx hy sig_eq)) (.keep 46 rfl rfl)))
      ·
        refine CodeT.exit (EndT.thenX (EndT.thenX (EndT.blkX (EndT.thenN ?_))))
        refine CodeT.seq ?_
        refine CodeT.seq ?_
        refine CodeT.region (.p (opAssign (.c _)) rfl <| .nil ?_)
        refine EndT.thenN ?_
        refine CodeT.block ?_
        refine CodeT.loopO (σ := Nat) (fun _ => []) (fun k1 => [(9, intV .i64 (k1 : Int)), (7, propV (((SameL x y) ∧ x.Sigs = y.Sigs) ∧ EqB x.Imports y.Imports k1))]) (fun k1 => k1 ≤ x.Imports.length) (fun k1 => x.Imports.length - k1) 0 (by omega) rfl ?_ ?_
        · exact (.get rfl (VLe.refl _) (.get rfl (VLe.prop (eqB_next c1 (fun h => h.sigs))) (.refl _ _)))
        · rintro k1 hk1
          refine CodeT.seq ?_
          refine CodeT.seq ?_
          refine CodeT.region (.p (opMove (.t rfl)) rfl <| .p (opField Try.fd31_1 (.t rfl)) rfl <| .p (opLoad Try.ag23 (.t rfl)) rfl <| .p (opLen rfl Try.underlying23 (.t rfl)) rfl <| .p (opLss (.t rfl) (.t rfl)) rfl <| .p (opMove (.t rfl)) rfl <| .g (OpG.gT rfl rfl rfl rfl (fun hg => opMove (.t rfl))) rfl rfl <| .p (opAnd (.t rfl) (.t rfl)) rfl <| .nil ?_)
          refine EndT.thenN ?_
          refine CodeT.cond (.t rfl) (fun c2 => ?_) (fun c2 => ?_)
          ·
            obtain ⟨a, hx⟩ := getElem?_lt (xs := x.Imports) (k := k1) (by omega)
            obtain ⟨b, hy⟩ := getElem?_lt (xs := y.Imports) (k := k1) (by have := c2.2.1.1.imports; omega)
            refine CodeT.skip (EndT.thenN ?_)
            refine CodeT.seq ?_
            refine CodeT.block ?_
            refine CodeT.draw 11 1 Try.mixed (by kernel_rfl) (.p (opField Try.fd31_1 (.t rfl)) <| .p (opLoad Try.ag23 (.t rfl)) <| .p (opMove (.t rfl)) <| .p (opIndexAddr Try.underlying23 Try.cz62 rfl (.t rfl) (.t rfl) rfl (by assumption)) <| .p (opLoadA Try.ag62 Try.cz62 rfl (.t rfl) rfl) <| .p (opField Try.fd31_1 (.t rfl)) <| .p (opLoad Try.ag23 (.t rfl)) <| .p (opMove (.t rfl)) <| .p (opIndexAddr Try.underlying23 Try.cz62 rfl (.t rfl) (.t rfl) rfl (by assumption)) <| .p (opLoadA Try.ag62 Try.cz62 rfl (.t rfl) rfl) <| .p (opEqlA Try.underlying62 Try.sh62 Try.eg62 (.t rfl) (.t rfl) (.cons (by decide) rfl rfl (.str Try.underlying9) (.cons (by decide) rfl rfl (.str Try.underlying9) (.cons (by decide) rfl rfl (.int Try.underlying3) .nil)))) <| .nil) (.p (opAssign (.t rfl)) rfl <| .nil ?_)
            refine EndT.blkN (EndT.thenN ?_)
            refine CodeT.region (.p (opMove (.t rfl)) rfl <| .p (opAddF (.t rfl) (.c _) (fits_i64 (by omega) (by omega))) rfl <| .p (opAssign (.t rfl)) rfl <| .nil ?_)
            refine EndT.round (k1 + 1) (by omega) (by omega) rfl ?_
            exact (.get rfl (VLe.int (by omega)) (.get rfl (VLe.prop (eqB_step c2.2 hx hy import_eq)) (.keep 25 rfl rfl)))
          ·
            refine CodeT.exit (EndT.thenX (EndT.thenX (EndT.blkX (EndT.thenN ?_))))
            refine CodeT.seq ?_
            refine CodeT.seq ?_
            refine CodeT.region (.p (opAssign (.c _)) rfl <| .nil ?_)
            refine EndT.thenN ?_
            refine CodeT.block ?_
            refine CodeT.loopO (σ := Nat) (fun _ => []) (fun k2 => [(10, intV .i64 (k2 : Int)), (7, propV ((((SameL x y) ∧ x.Sigs = y.Sigs) ∧ x.Imports = y.Imports) ∧ EqB x.Funcs y.Funcs k2))]) (fun k2 => k2 ≤ x.Funcs.length) (fun k2 => x.Funcs.length - k2) 0 (by omega) rfl ?_ ?_
            · exact (.get rfl (VLe.refl _) (.get rfl (VLe.prop (eqB_next c2 (fun h => h.1.imports))) (.refl _ _)))
            · rintro k2 hk2
              refine CodeT.seq ?_
              refine CodeT.seq ?_
              refine CodeT.region (.p (opMove (.t rfl)) rfl <| .p (opField Try.fd31_2 (.t rfl)) rfl <| .p (opLoad Try.ag24 (.t rfl)) rfl <| .p (opLen rfl Try.underlying24 (.t rfl)) rfl <| .p (opLss (.t rfl) (.t rfl)) rfl <| .p (opMove (.t rfl)) rfl <| .g (OpG.gT rfl rfl rfl rfl (fun hg => opMove (.t rfl))) rfl rfl <| .p (opAnd (.t rfl) (.t rfl)) rfl <| .nil ?_)
              refine EndT.thenN ?_
              refine CodeT.cond (.t rfl) (fun c3 => ?_) (fun c3 => ?_)
              ·
                obtain ⟨a, hx⟩ := getElem?_lt (xs := x.Funcs) (k := k2) (by omega)
                obtain ⟨b, hy⟩ := getElem?_lt (xs := y.Funcs) (k := k2) (by have := c3.2.1.1.1.funcs; omega)
                refine CodeT.skip (EndT.thenN ?_)
                refine CodeT.seq ?_
                refine CodeT.block ?_
                refine CodeT.draw 32 1 Try.mixed (by kernel_rfl) (.p (opField Try.fd31_2 (.t rfl)) <| .p (opLoad Try.ag24 (.t rfl)) <| .p (opMove (.t rfl)) <| .p (opIndexAddr Try.underlying24 Try.cz67 rfl (.t rfl) (.t rfl) rfl (by assumption)) <| .p (opField Try.fd67_0 (.t rfl)) <| .p (opLoad Try.ag3 (.t rfl)) <| .p (opField Try.fd31_2 (.t rfl)) <| .p (opLoad Try.ag24 (.t rfl)) <| .p (opMove (.t rfl)) <| .p (opIndexAddr Try.underlying24 Try.cz67 rfl (.t rfl) (.t rfl) rfl (by assumption)) <| .p (opField Try.fd67_0 (.t rfl)) <| .p (opLoad Try.ag3 (.t rfl)) <| .p (opEql (.t rfl) (.t rfl)) <| .p (opMove (.t rfl)) <| .cons (OpG.gT rfl rfl rfl rfl (fun hg => opMove (.t rfl))) <| .cons (OpG.gT rfl rfl rfl rfl (fun hg => opNilChk (.when (.t rfl) hg))) <| .cons (OpG.gT rfl rfl rfl rfl (fun hg => opField Try.fd77_2 (.when (.t rfl) hg))) <| .cons (OpG.gT rfl rfl rfl rfl (fun hg => opLoad Try.ag75 (.when (.t rfl) hg))) <| .cons (OpG.gT rfl rfl rfl rfl (fun hg => opMove (.t rfl))) <| .cons (OpG.gT rfl rfl rfl rfl (fun hg => opIndexAddr Try.underlying75 Try.cz73 rfl (.when (.t rfl) hg) (.when (.t rfl) hg) rfl (by assumption))) <| .cons (OpG.gT rfl rfl rfl rfl (fun hg => opField Try.fd73_1 (.when (.t rfl) hg))) <| .cons (OpG.gT rfl rfl rfl rfl (fun hg => opLoadA Try.ag71 Try.cz71 rfl (.when (.t rfl) hg) rfl)) <| .cons (OpG.gT rfl rfl rfl rfl (fun hg => opMove (.t rfl))) <| .cons (OpG.gT rfl rfl rfl rfl (fun hg => opNilChk (.when (.t rfl) hg))) <| .cons (OpG.gT rfl rfl rfl rfl (fun hg => opField Try.fd77_2 (.when (.t rfl) hg))) <| .cons (OpG.gT rfl rfl rfl rfl (fun hg => opLoad Try.ag75 (.when (.t rfl) hg))) <| .cons (OpG.gT rfl rfl rfl rfl (fun hg => opMove (.t rfl))) <| .cons (OpG.gT rfl rfl rfl rfl (fun hg => opIndexAddr Try.underlying75 Try.cz73 rfl (.when (.t rfl) hg) (.when (.t rfl) hg) rfl (by assumption))) <| .cons (OpG.gT rfl rfl rfl rfl (fun hg => opField Try.fd73_1 (.when (.t rfl) hg))) <| .cons (OpG.gT rfl rfl rfl rfl (fun hg => opLoadA Try.ag71 Try.cz71 rfl (.when (.t rfl) hg) rfl)) <| .cons (OpG.gT rfl rfl rfl rfl (fun hg => opCall (csame_spec) Try.cb21 (.cons (.when (.t rfl) hg) (.cons (.when (.t rfl) hg) .nil)))) <| .p (opAnd (.t rfl) (.t rfl)) <| .nil) (.p (opAssign (.t rfl)) rfl <| .nil ?_)
                refine EndT.blkN (EndT.thenN ?_)
                refine CodeT.region (.p (opMove (.t rfl)) rfl <| .p (opAddF (.t rfl) (.c _) (fits_i64 (by omega) (by omega))) rfl <| .p (opAssign (.t rfl)) rfl <| .nil ?_)
                refine EndT.round (k2 + 1) (by omega) (by omega) rfl ?_
                exact (.get rfl (VLe.int (by omega)) (.get rfl (VLe.prop (eqB_step c3.2 hx hy func_eq)) (.keep 46 rfl rfl)))
              ·
                refine CodeT.exit (EndT.thenX (EndT.thenX (EndT.blkX (EndT.thenN ?_))))
                refine CodeT.seq ?_
                refine CodeT.seq ?_
                refine CodeT.region (.p (opAssign (.c _)) rfl <| .nil ?_)
                refine EndT.thenN ?_
                refine CodeT.block ?_
                refine CodeT.loopO (σ := Nat) (fun _ => []) (fun k3 => [(11, intV .i64 (k3 : Int)), (7, propV (((((SameL x y) ∧ x.Sigs = y.Sigs) ∧ x.Imports = y.Imports) ∧ x.Funcs = y.Funcs) ∧ EqB x.Mems y.Mems k3))]) (fun k3 => k3 ≤ x.Mems.length) (fun k3 => x.Mems.length - k3) 0 (by omega) rfl ?_ ?_
                · exact (.get rfl (VLe.refl _) (.get rfl (VLe.prop (eqB_next c3 (fun h => h.1.1.funcs))) (.refl _ _)))
                · rintro k3 hk3
                  refine CodeT.seq ?_
                  refine CodeT.seq ?_
                  refine CodeT.region (.p (opMove (.t rfl)) rfl <| .p (opField Try.fd31_4 (.t rfl)) rfl <| .p (opLoad Try.ag25 (.t rfl)) rfl <| .p (opLen rfl Try.underlying25 (.t rfl)) rfl <| .p (opLss (.t rfl) (.t rfl)) rfl <| .p (opMove (.t rfl)) rfl <| .g (OpG.gT rfl rfl rfl rfl (fun hg => opMove (.t rfl))) rfl rfl <| .p (opAnd (.t rfl) (.t rfl)) rfl <| .nil ?_)
                  refine EndT.thenN ?_
                  refine CodeT.cond (.t rfl) (fun c4 => ?_) (fun c4 => ?_)
                  ·
                    obtain ⟨a, hx⟩ := getElem?_lt (xs := x.Mems) (k := k3) (by omega)
                    obtain ⟨b, hy⟩ := getElem?_lt (xs := y.Mems) (k := k3) (by have := c4.2.1.1.1.1.mems; omega)
                    refine CodeT.skip (EndT.thenN ?_)
                    refine CodeT.seq ?_
                    refine CodeT.block ?_
                    refine CodeT.draw 11 1 Try.mixed (by kernel_rfl) (.p (opField Try.fd31_4 (.t rfl)) <| .p (opLoad Try.ag25 (.t rfl)) <| .p (opMove (.t rfl)) <| .p (opIndexAddr Try.underlying25 Try.cz79 rfl (.t rfl) (.t rfl) rfl (by assumption)) <| .p (opLoadA Try.ag79 Try.cz79 rfl (.t rfl) rfl) <| .p (opField Try.fd31_4 (.t rfl)) <| .p (opLoad Try.ag25 (.t rfl)) <| .p (opMove (.t rfl)) <| .p (opIndexAddr Try.underlying25 Try.cz79 rfl (.t rfl) (.t rfl) rfl (by assumption)) <| .p (opLoadA Try.ag79 Try.cz79 rfl (.t rfl) rfl) <| .p (opEqlA Try.underlying79 Try.sh79 Try.eg79 (.t rfl) (.t rfl) (.cons (by decide) rfl rfl (.int Try.underlying3) (.cons (by decide) rfl rfl (.int Try.underlying3) (.cons (by decide) rfl rfl (.bool Try.underlying4) .nil)))) <| .nil) (.p (opAssign (.t rfl)) rfl <| .nil ?_)
                    refine EndT.blkN (EndT.thenN ?_)
                    refine CodeT.region (.p (opMove (.t rfl)) rfl <| .p (opAddF (.t rfl) (.c _) (fits_i64 (by omega) (by omega))) rfl <| .p (opAssign (.t rfl)) rfl <| .nil ?_)
                    refine EndT.round (k3 + 1) (by omega) (by omega) rfl ?_
                    exact (.get rfl (VLe.int (by omega)) (.get rfl (VLe.prop (eqB_step c4.2 hx hy limits_eq)) (.keep 25 rfl rfl)))
                  ·
                    refine CodeT.exit (EndT.thenX (EndT.thenX (EndT.blkX (EndT.thenN ?_))))
                    refine CodeT.seq ?_
                    refine CodeT.seq ?_
                    refine CodeT.region (.p (opAssign (.c _)) rfl <| .nil ?_)
                    refine EndT.thenN ?_
                    refine CodeT.block ?_
                    refine CodeT.loopO (σ := Nat) (fun _ => []) (fun k4 => [(12, intV .i64 (k4 : Int)), (7, propV ((((((SameL x y) ∧ x.Sigs = y.Sigs) ∧ x.Imports = y.Imports) ∧ x.Funcs = y.Funcs) ∧ x.Mems = y.Mems) ∧ EqB x.Globals y.Globals k4))]) (fun k4 => k4 ≤ x.Globals.length) (fun k4 => x.Globals.length - k4) 0 (by omega) rfl ?_ ?_
                    · exact (.get rfl (VLe.refl _) (.get rfl (VLe.prop (eqB_next c4 (fun h => h.1.1.1.mems))) (.refl _ _)))
                    · rintro k4 hk4
                      refine CodeT.seq ?_
                      refine CodeT.seq ?_
                      refine CodeT.region (.p (opMove (.t rfl)) rfl <| .p (opField Try.fd31_5 (.t rfl)) rfl <| .p (opLoad Try.ag26 (.t rfl)) rfl <| .p (opLen rfl Try.underlying26 (.t rfl)) rfl <| .p (opLss (.t rfl) (.t rfl)) rfl <| .p (opMove (.t rfl)) rfl <| .g (OpG.gT rfl rfl rfl rfl (fun hg => opMove (.t rfl))) rfl rfl <| .p (opAnd (.t rfl) (.t rfl)) rfl <| .nil ?_)
                      refine EndT.thenN ?_
                      refine CodeT.cond (.t rfl) (fun c5 => ?_) (fun c5 => ?_)
                      ·
                        obtain ⟨a, hx⟩ := getElem?_lt (xs := x.Globals) (k := k4) (by omega)
                        obtain ⟨b, hy⟩ := getElem?_lt (xs := y.Globals) (k := k4) (by have := c5.2.1.1.1.1.1.globals; omega)
                        refine CodeT.skip (EndT.thenN ?_)
                        refine CodeT.seq ?_
                        refine CodeT.block ?_
                        refine CodeT.draw 11 1 Try.mixed (by kernel_rfl) (.p (opField Try.fd31_5 (.t rfl)) <| .p (opLoad Try.ag26 (.t rfl)) <| .p (opMove (.t rfl)) <| .p (opIndexAddr Try.underlying26 Try.cz83 rfl (.t rfl) (.t rfl) rfl (by assumption)) <| .p (opLoadA Try.ag83 Try.cz83 rfl (.t rfl) rfl) <| .p (opField Try.fd31_5 (.t rfl)) <| .p (opLoad Try.ag26 (.t rfl)) <| .p (opMove (.t rfl)) <| .p (opIndexAddr Try.underlying26 Try.cz83 rfl (.t rfl) (.t rfl) rfl (by assumption)) <| .p (opLoadA Try.ag83 Try.cz83 rfl (.t rfl) rfl) <| .p (opEqlA Try.underlying83 Try.sh83 Try.eg83 (.t rfl) (.t rfl) (.cons (by decide) rfl rfl (.int Try.underlying80) (.cons (by decide) rfl rfl (.bool Try.underlying4) (.cons (by decide) rfl rfl (.int Try.underlying81) .nil)))) <| .nil) (.p (opAssign (.t rfl)) rfl <| .nil ?_)
                        refine EndT.blkN (EndT.thenN ?_)
                        refine CodeT.region (.p (opMove (.t rfl)) rfl <| .p (opAddF (.t rfl) (.c _) (fits_i64 (by omega) (by omega))) rfl <| .p (opAssign (.t rfl)) rfl <| .nil ?_)
                        refine EndT.round (k4 + 1) (by omega) (by omega) rfl ?_
                        exact (.get rfl (VLe.int (by omega)) (.get rfl (VLe.prop (eqB_step c5.2 hx hy global_eq)) (.keep 25 rfl rfl)))
                      ·
                        refine CodeT.exit (EndT.thenX (EndT.thenX (EndT.blkX (EndT.thenN ?_))))
                        refine CodeT.seq ?_
                        refine CodeT.seq ?_
                        refine CodeT.region (.p (opAssign (.c _)) rfl <| .nil ?_)
                        refine EndT.thenN ?_
                        refine CodeT.block ?_
                        refine CodeT.loopO (σ := Nat) (fun _ => []) (fun k5 => [(13, intV .i64 (k5 : Int)), (7, propV (((((((SameL x y) ∧ x.Sigs = y.Sigs) ∧ x.Imports = y.Imports) ∧ x.Funcs = y.Funcs) ∧ x.Mems = y.Mems) ∧ x.Globals = y.Globals) ∧ EqB x.Exports y.Exports k5))]) (fun k5 => k5 ≤ x.Exports.length) (fun k5 => x.Exports.length - k5) 0 (by omega) rfl ?_ ?_
                        · exact (.get rfl (VLe.refl _) (.get rfl (VLe.prop (eqB_next c5 (fun h => h.1.1.1.1.globals))) (.refl _ _)))
                        · rintro k5 hk5
                          refine CodeT.seq ?_
                          refine CodeT.seq ?_
                          refine CodeT.region (.p (opMove (.t rfl)) rfl <| .p (opField Try.fd31_6 (.t rfl)) rfl <| .p (opLoad Try.ag27 (.t rfl)) rfl <| .p (opLen rfl Try.underlying27 (.t rfl)) rfl <| .p (opLss (.t rfl) (.t rfl)) rfl <| .p (opMove (.t rfl)) rfl <| .g (OpG.gT rfl rfl rfl rfl (fun hg => opMove (.t rfl))) rfl rfl <| .p (opAnd (.t rfl) (.t rfl)) rfl <| .nil ?_)
                          refine EndT.thenN ?_
                          refine CodeT.cond (.t rfl) (fun c6 => ?_) (fun c6 => ?_)
                          ·
                            obtain ⟨a, hx⟩ := getElem?_lt (xs := x.Exports) (k := k5) (by omega)
                            obtain ⟨b, hy⟩ := getElem?_lt (xs := y.Exports) (k := k5) (by have := c6.2.1.1.1.1.1.1.exports; omega)
                            refine CodeT.skip (EndT.thenN ?_)
                            refine CodeT.seq ?_
                            refine CodeT.block ?_
                            refine CodeT.draw 11 1 Try.mixed (by kernel_rfl) (.p (opField Try.fd31_6 (.t rfl)) <| .p (opLoad Try.ag27 (.t rfl)) <| .p (opMove (.t rfl)) <| .p (opIndexAddr Try.underlying27 Try.cz57 rfl (.t rfl) (.t rfl) rfl (by assumption)) <| .p (opLoadA Try.ag57 Try.cz57 rfl (.t rfl) rfl) <| .p (opField Try.fd31_6 (.t rfl)) <| .p (opLoad Try.ag27 (.t rfl)) <| .p (opMove (.t rfl)) <| .p (opIndexAddr Try.underlying27 Try.cz57 rfl (.t rfl) (.t rfl) rfl (by assumption)) <| .p (opLoadA Try.ag57 Try.cz57 rfl (.t rfl) rfl) <| .p (opEqlA Try.underlying57 Try.sh57 Try.eg57 (.t rfl) (.t rfl) (.cons (by decide) rfl rfl (.str Try.underlying9) (.cons (by decide) rfl rfl (.int Try.underlying3) (.cons (by decide) rfl rfl (.int Try.underlying3) .nil)))) <| .nil) (.p (opAssign (.t rfl)) rfl <| .nil ?_)
                            refine EndT.blkN (EndT.thenN ?_)
                            refine CodeT.region (.p (opMove (.t rfl)) rfl <| .p (opAddF (.t rfl) (.c _) (fits_i64 (by omega) (by omega))) rfl <| .p (opAssign (.t rfl)) rfl <| .nil ?_)
                            refine EndT.round (k5 + 1) (by omega) (by omega) rfl ?_
                            exact (.get rfl (VLe.int (by omega)) (.get rfl (VLe.prop (eqB_step c6.2 hx hy export_eq)) (.keep 25 rfl rfl)))
                          ·
                            refine CodeT.exit (EndT.thenX (EndT.thenX (EndT.blkX (EndT.thenN ?_))))
                            refine CodeT.seq ?_
                            refine CodeT.seq ?_
                            refine CodeT.region (.p (opAssign (.c _)) rfl <| .nil ?_)
                            refine EndT.thenN ?_
                            refine CodeT.block ?_
                            refine CodeT.loopO (σ := Nat) (fun _ => []) (fun k6 => [(14, intV .i64 (k6 : Int)), (7, propV ((((((((SameL x y) ∧ x.Sigs = y.Sigs) ∧ x.Imports = y.Imports) ∧ x.Funcs = y.Funcs) ∧ x.Mems = y.Mems) ∧ x.Globals = y.Globals) ∧ x.Exports = y.Exports) ∧ EqB x.Elems y.Elems k6))]) (fun k6 => k6 ≤ x.Elems.length) (fun k6 => x.Elems.length - k6) 0 (by omega) rfl ?_ ?_
                            · exact (.get rfl (VLe.refl _) (.get rfl (VLe.prop (eqB_next c6 (fun h => h.1.1.1.1.1.exports))) (.refl _ _)))
                            · rintro k6 hk6
                              refine CodeT.seq ?_
                              refine CodeT.seq ?_
                              refine CodeT.region (.p (opMove (.t rfl)) rfl <| .p (opField Try.fd31_8 (.t rfl)) rfl <| .p (opLoad Try.ag28 (.t rfl)) rfl <| .p (opLen rfl Try.underlying28 (.t rfl)) rfl <| .p (opLss (.t rfl) (.t rfl)) rfl <| .p (opMove (.t rfl)) rfl <| .g (OpG.gT rfl rfl rfl rfl (fun hg => opMove (.t rfl))) rfl rfl <| .p (opAnd (.t rfl) (.t rfl)) rfl <| .nil ?_)
                              refine EndT.thenN ?_
                              refine CodeT.cond (.t rfl) (fun c7 => ?_) (fun c7 => ?_)
                              ·
                                obtain ⟨a, hx⟩ := getElem?_lt (xs := x.Elems) (k := k6) (by omega)
                                obtain ⟨b, hy⟩ := getElem?_lt (xs := y.Elems) (k := k6) (by have := c7.2.1.1.1.1.1.1.1.elems; omega)
                                have hla := hx0.mid.elems k6 a hx
                                refine CodeT.skip (EndT.thenN ?_)
                                refine CodeT.seq ?_
                                refine CodeT.block ?_
                                refine CodeT.seq ?_
                                refine CodeT.draw 30 1 Try.mixed (by kernel_rfl) (.p (opField Try.fd31_8 (.t rfl)) <| .p (opLoad Try.ag28 (.t rfl)) <| .p (opMove (.t rfl)) <| .p (opIndexAddr Try.underlying28 Try.cz86 rfl (.t rfl) (.t rfl) rfl (by assumption)) <| .p (opField Try.fd86_0 (.t rfl)) <| .p (opLoad Try.ag81 (.t rfl)) <| .p (opField Try.fd31_8 (.t rfl)) <| .p (opLoad Try.ag28 (.t rfl)) <| .p (opMove (.t rfl)) <| .p (opIndexAddr Try.underlying28 Try.cz86 rfl (.t rfl) (.t rfl) rfl (by assumption)) <| .p (opField Try.fd86_0 (.t rfl)) <| .p (opLoad Try.ag81 (.t rfl)) <| .p (opEql (.t rfl) (.t rfl)) <| .p (opMove (.t rfl)) <| .cons (OpG.gT rfl rfl rfl rfl (fun hg => opField Try.fd31_8 (.t rfl))) <| .cons (OpG.gT rfl rfl rfl rfl (fun hg => opLoad Try.ag28 (.when (.t rfl) hg))) <| .cons (OpG.gT rfl rfl rfl rfl (fun hg => opMove (.t rfl))) <| .cons (OpG.gT rfl rfl rfl rfl (fun hg => opIndexAddr Try.underlying28 Try.cz86 rfl (.when (.t rfl) hg) (.when (.t rfl) hg) rfl (by assumption))) <| .cons (OpG.gT rfl rfl rfl rfl (fun hg => opField Try.fd86_1 (.when (.t rfl) hg))) <| .cons (OpG.gT rfl rfl rfl rfl (fun hg => opLoad Try.ag84 (.when (.t rfl) hg))) <| .cons (OpG.gT rfl rfl rfl rfl (fun hg => opLen rfl Try.underlying84 (.when (.t rfl) hg))) <| .cons (OpG.gT rfl rfl rfl rfl (fun hg => opField Try.fd31_8 (.t rfl))) <| .cons (OpG.gT rfl rfl rfl rfl (fun hg => opLoad Try.ag28 (.when (.t rfl) hg))) <| .cons (OpG.gT rfl rfl rfl rfl (fun hg => opMove (.t rfl))) <| .cons (OpG.gT rfl rfl rfl rfl (fun hg => opIndexAddr Try.underlying28 Try.cz86 rfl (.when (.t rfl) hg) (.when (.t rfl) hg) rfl (by assumption))) <| .cons (OpG.gT rfl rfl rfl rfl (fun hg => opField Try.fd86_1 (.when (.t rfl) hg))) <| .cons (OpG.gT rfl rfl rfl rfl (fun hg => opLoad Try.ag84 (.when (.t rfl) hg))) <| .cons (OpG.gT rfl rfl rfl rfl (fun hg => opLen rfl Try.underlying84 (.when (.t rfl) hg))) <| .cons (OpG.gT rfl rfl rfl rfl (fun hg => opEql (.when (.t rfl) hg) (.when (.t rfl) hg))) <| .p (opAnd (.t rfl) (.t rfl)) <| .nil) (.p (opAssign (.t rfl)) rfl <| .nil ?_)
                                refine EndT.thenN ?_
                                refine CodeT.seq ?_
                                refine CodeT.region (.p (opAssign (.c _)) rfl <| .nil ?_)
                                refine EndT.thenN ?_
                                refine CodeT.block ?_
                                refine CodeT.loopO (σ := Nat) (fun _ => []) (fun q => [(15, intV .i64 (q : Int)), (7, propV ((a.At = b.At ∧ (a.Funcs.length : Int) = (b.Funcs.length : Int)) ∧ EqB a.Funcs b.Funcs q))]) (fun q => q ≤ a.Funcs.length) (fun q => a.Funcs.length - q) 0 (by omega) rfl ?_ ?_
                                · exact (.get rfl (VLe.refl _) (.get rfl (VLe.prop ⟨fun h => ⟨h, EqB.zero _ _⟩, fun h => h.1⟩) (.refl _ _)))
                                · rintro q hkq
                                  refine CodeT.seq ?_
                                  refine CodeT.seq ?_
                                  refine CodeT.region (.p (opMove (.t rfl)) rfl <| .p (opField Try.fd31_8 (.t rfl)) rfl <| .p (opLoad Try.ag28 (.t rfl)) rfl <| .p (opMove (.t rfl)) rfl <| .p (opIndexAddr Try.underlying28 Try.cz86 rfl (.t rfl) (.t rfl) rfl (by assumption)) rfl <| .p (opField Try.fd86_1 (.t rfl)) rfl <| .p (opLoad Try.ag84 (.t rfl)) rfl <| .p (opLen rfl Try.underlying84 (.t rfl)) rfl <| .p (opLss (.t rfl) (.t rfl)) rfl <| .p (opMove (.t rfl)) rfl <| .g (OpG.gT rfl rfl rfl rfl (fun hg => opMove (.t rfl))) rfl rfl <| .p (opAnd (.t rfl) (.t rfl)) rfl <| .nil ?_)
                                  refine EndT.thenN ?_
                                  refine CodeT.cond (.t rfl) (fun c8 => ?_) (fun c8 => ?_)
                                  ·
                                    obtain ⟨u, hu⟩ := getElem?_lt (xs := a.Funcs) (k := q) (by omega)
                                    obtain ⟨v, hv⟩ := getElem?_lt (xs := b.Funcs) (k := q) (by have := c8.2.1.2; omega)
                                    refine CodeT.skip (EndT.thenN ?_)
                                    refine CodeT.seq ?_
                                    refine CodeT.block ?_
                                    refine CodeT.draw 19 1 Try.mixed (by kernel_rfl) (.p (opField Try.fd31_8 (.t rfl)) <| .p (opLoad Try.ag28 (.t rfl)) <| .p (opMove (.t rfl)) <| .p (opIndexAddr Try.underlying28 Try.cz86 rfl (.t rfl) (.t rfl) rfl (by assumption)) <| .p (opField Try.fd86_1 (.t rfl)) <| .p (opLoad Try.ag84 (.t rfl)) <| .p (opMove (.t rfl)) <| .p (opIndexAddr Try.underlying84 Try.cz3 rfl (.t rfl) (.t rfl) rfl (by assumption)) <| .p (opLoad Try.ag3 (.t rfl)) <| .p (opField Try.fd31_8 (.t rfl)) <| .p (opLoad Try.ag28 (.t rfl)) <| .p (opMove (.t rfl)) <| .p (opIndexAddr Try.underlying28 Try.cz86 rfl (.t rfl) (.t rfl) rfl (by assumption)) <| .p (opField Try.fd86_1 (.t rfl)) <| .p (opLoad Try.ag84 (.t rfl)) <| .p (opMove (.t rfl)) <| .p (opIndexAddr Try.underlying84 Try.cz3 rfl (.t rfl) (.t rfl) rfl (by assumption)) <| .p (opLoad Try.ag3 (.t rfl)) <| .p (opEql (.t rfl) (.t rfl)) <| .nil) (.p (opAssign (.t rfl)) rfl <| .nil ?_)
                                    refine EndT.blkN (EndT.thenN ?_)
                                    refine CodeT.region (.p (opMove (.t rfl)) rfl <| .p (opAddF (.t rfl) (.c _) (fits_i64 (by omega) (by omega))) rfl <| .p (opAssign (.t rfl)) rfl <| .nil ?_)
                                    refine EndT.round (q + 1) (by omega) (by omega) rfl ?_
                                    exact (.get rfl (VLe.int (by omega)) (.get rfl (VLe.prop (eqB_step c8.2 hu hv Iff.rfl)) (.keep 37 rfl rfl)))
                                  ·
                                    refine CodeT.exit (EndT.thenX (EndT.thenX (EndT.blkX (EndT.blkN (EndT.thenN ?_)))))
                                    refine CodeT.region (.p (opMove (.t rfl)) rfl <| .p (opAddF (.t rfl) (.c _) (fits_i64 (by omega) (by omega))) rfl <| .p (opAssign (.t rfl)) rfl <| .nil ?_)
                                    refine EndT.round (k6 + 1) (by omega) (by omega) rfl ?_
                                    exact (.get rfl (VLe.int (by omega)) (.get rfl (VLe.prop (eqB_step c7.2 hx hy ((eqB_end c8 (fun h => by omega)).trans (elem_iff)))) (.keep 59 rfl rfl)))
                              ·
                                refine CodeT.exit (EndT.thenX (EndT.thenX (EndT.blkX (EndT.thenN ?_))))
                                refine CodeT.seq ?_
                                refine CodeT.seq ?_
                                refine CodeT.region (.p (opAssign (.c _)) rfl <| .nil ?_)
                                refine EndT.thenN ?_
                                refine CodeT.block ?_
                                refine CodeT.loopO (σ := Nat) (fun _ => []) (fun k7 => [(16, intV .i64 (k7 : Int)), (7, propV (((((((((SameL x y) ∧ x.Sigs = y.Sigs) ∧ x.Imports = y.Imports) ∧ x.Funcs = y.Funcs) ∧ x.Mems = y.Mems) ∧ x.Globals = y.Globals) ∧ x.Exports = y.Exports) ∧ x.Elems = y.Elems) ∧ EqB x.Datas y.Datas k7))]) (fun k7 => k7 ≤ x.Datas.length) (fun k7 => x.Datas.length - k7) 0 (by omega) rfl ?_ ?_
                                · exact (.get rfl (VLe.refl _) (.get rfl (VLe.prop (eqB_next c7 (fun h => h.1.1.1.1.1.1.elems))) (.refl _ _)))
                                · rintro k7 hk7
                                  refine CodeT.seq ?_
                                  refine CodeT.seq ?_
                                  refine CodeT.region (.p (opMove (.t rfl)) rfl <| .p (opField Try.fd31_9 (.t rfl)) rfl <| .p (opLoad Try.ag29 (.t rfl)) rfl <| .p (opLen rfl Try.underlying29 (.t rfl)) rfl <| .p (opLss (.t rfl) (.t rfl)) rfl <| .p (opMove (.t rfl)) rfl <| .g (OpG.gT rfl rfl rfl rfl (fun hg => opMove (.t rfl))) rfl rfl <| .p (opAnd (.t rfl) (.t rfl)) rfl <| .nil ?_)
                                  refine EndT.thenN ?_
                                  refine CodeT.cond (.t rfl) (fun c9 => ?_) (fun c9 => ?_)
                                  ·
                                    obtain ⟨a, hx⟩ := getElem?_lt (xs := x.Datas) (k := k7) (by omega)
                                    obtain ⟨b, hy⟩ := getElem?_lt (xs := y.Datas) (k := k7) (by have := c9.2.1.1.1.1.1.1.1.1.datas; omega)
                                    refine CodeT.skip (EndT.thenN ?_)
                                    refine CodeT.seq ?_
                                    refine CodeT.block ?_
                                    refine CodeT.draw 45 1 Try.mixed (by kernel_rfl) (.p (opField Try.fd31_9 (.t rfl)) <| .p (opLoad Try.ag29 (.t rfl)) <| .p (opMove (.t rfl)) <| .p (opIndexAddr Try.underlying29 Try.cz88 rfl (.t rfl) (.t rfl) rfl (by assumption)) <| .p (opField Try.fd88_0 (.t rfl)) <| .p (opLoad Try.ag3 (.t rfl)) <| .p (opField Try.fd31_9 (.t rfl)) <| .p (opLoad Try.ag29 (.t rfl)) <| .p (opMove (.t rfl)) <| .p (opIndexAddr Try.underlying29 Try.cz88 rfl (.t rfl) (.t rfl) rfl (by assumption)) <| .p (opField Try.fd88_0 (.t rfl)) <| .p (opLoad Try.ag3 (.t rfl)) <| .p (opEql (.t rfl) (.t rfl)) <| .p (opMove (.t rfl)) <| .cons (OpG.gT rfl rfl rfl rfl (fun hg => opField Try.fd31_9 (.t rfl))) <| .cons (OpG.gT rfl rfl rfl rfl (fun hg => opLoad Try.ag29 (.when (.t rfl) hg))) <| .cons (OpG.gT rfl rfl rfl rfl (fun hg => opMove (.t rfl))) <| .cons (OpG.gT rfl rfl rfl rfl (fun hg => opIndexAddr Try.underlying29 Try.cz88 rfl (.when (.t rfl) hg) (.when (.t rfl) hg) rfl (by assumption))) <| .cons (OpG.gT rfl rfl rfl rfl (fun hg => opField Try.fd88_1 (.when (.t rfl) hg))) <| .cons (OpG.gT rfl rfl rfl rfl (fun hg => opLoad Try.ag81 (.when (.t rfl) hg))) <| .cons (OpG.gT rfl rfl rfl rfl (fun hg => opField Try.fd31_9 (.t rfl))) <| .cons (OpG.gT rfl rfl rfl rfl (fun hg => opLoad Try.ag29 (.when (.t rfl) hg))) <| .cons (OpG.gT rfl rfl rfl rfl (fun hg => opMove (.t rfl))) <| .cons (OpG.gT rfl rfl rfl rfl (fun hg => opIndexAddr Try.underlying29 Try.cz88 rfl (.when (.t rfl) hg) (.when (.t rfl) hg) rfl (by assumption))) <| .cons (OpG.gT rfl rfl rfl rfl (fun hg => opField Try.fd88_1 (.when (.t rfl) hg))) <| .cons (OpG.gT rfl rfl rfl rfl (fun hg => opLoad Try.ag81 (.when (.t rfl) hg))) <| .cons (OpG.gT rfl rfl rfl rfl (fun hg => opEql (.when (.t rfl) hg) (.when (.t rfl) hg))) <| .p (opAnd (.t rfl) (.t rfl)) <| .p (opMove (.t rfl)) <| .cons (OpG.gT rfl rfl rfl rfl (fun hg => opField Try.fd31_9 (.t rfl))) <| .cons (OpG.gT rfl rfl rfl rfl (fun hg => opLoad Try.ag29 (.when (.t rfl) hg))) <| .cons (OpG.gT rfl rfl rfl rfl (fun hg => opMove (.t rfl))) <| .cons (OpG.gT rfl rfl rfl rfl (fun hg => opIndexAddr Try.underlying29 Try.cz88 rfl (.when (.t rfl) hg) (.when (.t rfl) hg) rfl (by assumption))) <| .cons (OpG.gT rfl rfl rfl rfl (fun hg => opField Try.fd88_2 (.when (.t rfl) hg))) <| .cons (OpG.gT rfl rfl rfl rfl (fun hg => opLoad Try.ag50 (.when (.t rfl) hg))) <| .cons (OpG.gT rfl rfl rfl rfl (fun hg => opBytesStr Try.underlying50 Try.underlying5 Try.underlying9 (.when (.t rfl) hg))) <| .cons (OpG.gT rfl rfl rfl rfl (fun hg => opField Try.fd31_9 (.t rfl))) <| .cons (OpG.gT rfl rfl rfl rfl (fun hg => opLoad Try.ag29 (.when (.t rfl) hg))) <| .cons (OpG.gT rfl rfl rfl rfl (fun hg => opMove (.t rfl))) <| .cons (OpG.gT rfl rfl rfl rfl (fun hg => opIndexAddr Try.underlying29 Try.cz88 rfl (.when (.t rfl) hg) (.when (.t rfl) hg) rfl (by assumption))) <| .cons (OpG.gT rfl rfl rfl rfl (fun hg => opField Try.fd88_2 (.when (.t rfl) hg))) <| .cons (OpG.gT rfl rfl rfl rfl (fun hg => opLoad Try.ag50 (.when (.t rfl) hg))) <| .cons (OpG.gT rfl rfl rfl rfl (fun hg => opBytesStr Try.underlying50 Try.underlying5 Try.underlying9 (.when (.t rfl) hg))) <| .cons (OpG.gT rfl rfl rfl rfl (fun hg => opEqlS (.when (.t rfl) hg) (.when (.t rfl) hg))) <| .p (opAnd (.t rfl) (.t rfl)) <| .nil) (.p (opAssign (.t rfl)) rfl <| .nil ?_)
                                    refine EndT.blkN (EndT.thenN ?_)
                                    refine CodeT.region (.p (opMove (.t rfl)) rfl <| .p (opAddF (.t rfl) (.c _) (fits_i64 (by omega) (by omega))) rfl <| .p (opAssign (.t rfl)) rfl <| .nil ?_)
                                    refine EndT.round (k7 + 1) (by omega) (by omega) rfl ?_
                                    exact (.get rfl (VLe.int (by omega)) (.get rfl (VLe.prop (eqB_step c9.2 hx hy data_eq)) (.keep 59 rfl rfl)))
                                  ·
                                    refine CodeT.exit (EndT.thenX (EndT.thenX (EndT.blkX (EndT.thenN ?_))))
                                    refine CodeT.seq ?_
                                    refine CodeT.region (.p (opMove (.t rfl)) rfl <| .p (opMove (.t rfl)) rfl <| .p (opCall (msame_spec) Try.cb22 (.cons (.t rfl) (.cons (.t rfl) .nil))) rfl <| .p (opMove (.t rfl)) rfl <| .p (opEqlB Try.underlying4 (.t rfl) (.t rfl)) rfl <| .p (opMove (.t rfl)) rfl <| .g (OpG.gT rfl rfl rfl rfl (fun hg => opMove (.t rfl))) rfl rfl <| .g (OpG.gT rfl rfl rfl rfl (fun hg => opMove (.t rfl))) rfl rfl <| .g (OpG.gT rfl rfl rfl rfl (fun hg => opCall (msame_spec) Try.cb22 (.cons (.when (.t rfl) hg) (.cons (.when (.t rfl) hg) .nil)))) rfl rfl <| .p (opAnd (.t rfl) (.t rfl)) rfl <| .p (opAssign (.t rfl)) rfl <| .nil ?_)
                                    refine EndT.thenN ?_
                                    refine CodeT.ret (Post.retP rfl rfl ?_)
                                    exact VLe.prop ⟨fun _ => trivial, fun _ => ⟨same_all.trans (eqB_end c9 (fun h => h.1.1.1.1.1.1.1.datas)).symm, rfl⟩⟩

end Go.Proofs.Ytbiahdejccipaaa
