/-
  Walks, printed by a program (gen.py) out of what its author says of each function.
-/
import Derived.Test.YtbiahdejccipaaaM13W
import Derived.Test.YtbiahdejccipaaaM13C
import Derived.Test.YtbiahdejccipaaaHlG
namespace Go.Proofs.Ytbiahdejccipaaa
open Go.Hl Go.RowKit
set_option linter.unusedVariables false
set_option maxRecDepth 100000

theorem l12great_spec {b : BodyD} : FnP Try.prog 24 [aggV (encBody b)] (intV .i64 (greatB b)) := by
  refine FnE.intro 39 Try.func24 rfl rfl rfl fun w0 S0 M => ?_
  refine CodeT.fact (t := 0) rfl (fun S w v h => bodyLens h) fun hlen => ?_
  have hl1 := hlen.locals
  have hl2 := hlen.l
  refine CodeT.seq ?_
  refine CodeT.region (.p (opBoxA (.t rfl)) rfl <| .p (opAssign (.c _)) rfl <| .nil ?_)
  refine EndT.thenN ?_
  refine CodeT.seq ?_
  refine CodeT.region (.p (opField Try.fd65_0 (.t rfl)) rfl <| .p (opLoad Try.ag50 (.t rfl)) rfl <| .p (opLen rfl Try.underlying50 (.t rfl)) rfl <| .p (opSubF (.t rfl) (.c _) (fits_i64 (by omega) (by omega))) rfl <| .p (opMax (.t rfl) (.c _)) rfl <| .p (opField Try.fd65_1 (.t rfl)) rfl <| .p (opLoad Try.ag63 (.t rfl)) rfl <| .p (opLen rfl Try.underlying63 (.t rfl)) rfl <| .p (opSubF (.t rfl) (.c _) (fits_i64 (by omega) (by omega))) rfl <| .p (opMax (.t rfl) (.c _)) rfl <| .p (opAddF (.t rfl) (.t rfl) (fits_i64 (by omega) (by omega))) rfl <| .p (opAssign (.t rfl)) rfl <| .nil ?_)
  refine EndT.thenN ?_
  refine CodeT.seq ?_
  refine CodeT.seq ?_
  refine CodeT.region (.p (opAssign (.c _)) rfl <| .nil ?_)
  refine EndT.thenN ?_
  refine CodeT.block ?_
  refine CodeT.loopO (σ := Nat) (fun _ => []) (fun k => [(4, intV .i64 (k : Int)), (3, intV .i64 (max ((b.Locals.length : Int) - 60) 0 + max ((b.L.length : Int) - 150) 0 + sumN (onI b.L gInstr) k))]) (fun k => k ≤ b.L.length ∧ k ≤ 150) (fun k => b.L.length - k) 0 ⟨by omega, by omega⟩ rfl ?_ ?_
  · exact (.get rfl (VLe.refl _) (.get rfl (VLe.int (by simp [sumN])) (.refl _ _)))
  · rintro k ⟨hk, hk2⟩
    have hq := addN_part (by omega) (gInstr_le hlen) k
    refine CodeT.seq ?_
    refine CodeT.seq ?_
    refine CodeT.region (.p (opMove (.t rfl)) rfl <| .p (opField Try.fd65_1 (.t rfl)) rfl <| .p (opLoad Try.ag63 (.t rfl)) rfl <| .p (opLen rfl Try.underlying63 (.t rfl)) rfl <| .p (opLss (.t rfl) (.t rfl)) rfl <| .p (opMove (.t rfl)) rfl <| .g (OpG.gT rfl rfl rfl rfl (fun hg => opMove (.t rfl))) rfl rfl <| .g (OpG.gT rfl rfl rfl rfl (fun hg => opLss (.when (.t rfl) hg) (.c _))) rfl rfl <| .p (opAnd (.t rfl) (.t rfl)) rfl <| .nil ?_)
    refine EndT.thenN ?_
    refine CodeT.cond (.t rfl) (fun c0 => ?_) (fun c0 => ?_)
    ·
      obtain ⟨x, hx⟩ := getElem?_lt (xs := b.L) (k := k) (by omega)
      have hxl := hlen.all k x hx
      refine CodeT.skip (EndT.thenN ?_)
      refine CodeT.seq ?_
      refine CodeT.block ?_
      refine CodeT.region (.p (opMove (.t rfl)) rfl <| .p (opField Try.fd65_1 (.t rfl)) rfl <| .p (opLoad Try.ag63 (.t rfl)) rfl <| .p (opMove (.t rfl)) rfl <| .p (opIndexAddr Try.underlying63 Try.cz121 rfl (.t rfl) (.t rfl) rfl (by assumption)) rfl <| .p (opField Try.fd121_4 (.t rfl)) rfl <| .p (opLoad Try.ag104 (.t rfl)) rfl <| .p (opLen rfl Try.underlying104 (.t rfl)) rfl <| .p (opSubF (.t rfl) (.c _) (fits_i64 (by omega) (by omega))) rfl <| .p (opMax (.t rfl) (.c _)) rfl <| .p (opAddF (.t rfl) (.t rfl) (fits_i64 (by omega) (by omega))) rfl <| .p (opAssign (.t rfl)) rfl <| .nil ?_)
      refine EndT.blkN (EndT.thenN ?_)
      refine CodeT.region (.p (opMove (.t rfl)) rfl <| .p (opAddF (.t rfl) (.c _) (fits_i64 (by omega) (by omega))) rfl <| .p (opAssign (.t rfl)) rfl <| .nil ?_)
      refine EndT.round (k + 1) ⟨by omega, by omega⟩ (by omega) rfl ?_
      exact (.get rfl (VLe.int (by omega)) (.get rfl (VLe.int (by rw [sumN_at hx]; unfold gInstr; omega)) (.keep 26 rfl rfl)))
    ·
      refine CodeT.exit (EndT.thenX (EndT.thenX (EndT.blkX (EndT.thenN ?_))))
      refine CodeT.seq ?_
      refine CodeT.region (.p (opMove (.t rfl)) rfl <| .p (opAssign (.t rfl)) rfl <| .nil ?_)
      refine EndT.thenN ?_
      refine CodeT.ret (Post.retP rfl rfl ?_)
      exact VLe.int (by unfold greatB addN; rw [show min b.L.length 150 = k by omega])

set_option maxHeartbeats 2000000 in
theorem great_spec {x : ModD} : FnP Try.prog 7 [aggV (encMod x)] (intV .i64 (greatM x)) := by
  refine FnE.intro 204 Try.func7 rfl rfl rfl fun w0 S0 M => ?_
  refine CodeT.fact (t := 0) rfl (fun S w v h => modLens3 h) fun hlen => ?_
  have hall := hlen
  obtain ⟨⟨hl0, hl1, hl2, hl3, hl4, hl5, hl6, hl7⟩, ⟨hi0, hi1, hi2, hi3, hi4⟩, hi5⟩ := hlen
  have hb := greatB_of hall
  have hb0 := hb.n0
  obtain ⟨hb1, hb2, hb3, hb4, hb5⟩ := great_bnds hb
  refine CodeT.seq ?_
  refine CodeT.region (.p (opBoxA (.t rfl)) rfl <| .p (opAssign (.c _)) rfl <| .nil ?_)
  refine EndT.thenN ?_
  refine CodeT.seq ?_
  refine CodeT.region (.p (opField Try.fd31_0 (.t rfl)) rfl <| .p (opLoad Try.ag22 (.t rfl)) rfl <| .p (opLen rfl Try.underlying22 (.t rfl)) rfl <| .p (opSubF (.t rfl) (.c _) (fits_i64 (by omega) (by omega))) rfl <| .p (opMax (.t rfl) (.c _)) rfl <| .p (opField Try.fd31_1 (.t rfl)) rfl <| .p (opLoad Try.ag23 (.t rfl)) rfl <| .p (opLen rfl Try.underlying23 (.t rfl)) rfl <| .p (opSubF (.t rfl) (.c _) (fits_i64 (by omega) (by omega))) rfl <| .p (opMax (.t rfl) (.c _)) rfl <| .p (opAddF (.t rfl) (.t rfl) (fits_i64 (by omega) (by omega))) rfl <| .p (opField Try.fd31_2 (.t rfl)) rfl <| .p (opLoad Try.ag24 (.t rfl)) rfl <| .p (opLen rfl Try.underlying24 (.t rfl)) rfl <| .p (opSubF (.t rfl) (.c _) (fits_i64 (by omega) (by omega))) rfl <| .p (opMax (.t rfl) (.c _)) rfl <| .p (opAddF (.t rfl) (.t rfl) (fits_i64 (by omega) (by omega))) rfl <| .p (opField Try.fd31_4 (.t rfl)) rfl <| .p (opLoad Try.ag25 (.t rfl)) rfl <| .p (opLen rfl Try.underlying25 (.t rfl)) rfl <| .p (opSubF (.t rfl) (.c _) (fits_i64 (by omega) (by omega))) rfl <| .p (opMax (.t rfl) (.c _)) rfl <| .p (opAddF (.t rfl) (.t rfl) (fits_i64 (by omega) (by omega))) rfl <| .p (opField Try.fd31_5 (.t rfl)) rfl <| .p (opLoad Try.ag26 (.t rfl)) rfl <| .p (opLen rfl Try.underlying26 (.t rfl)) rfl <| .p (opSubF (.t rfl) (.c _) (fits_i64 (by omega) (by omega))) rfl <| .p (opMax (.t rfl) (.c _)) rfl <| .p (opAddF (.t rfl) (.t rfl) (fits_i64 (by omega) (by omega))) rfl <| .p (opField Try.fd31_6 (.t rfl)) rfl <| .p (opLoad Try.ag27 (.t rfl)) rfl <| .p (opLen rfl Try.underlying27 (.t rfl)) rfl <| .p (opSubF (.t rfl) (.c _) (fits_i64 (by omega) (by omega))) rfl <| .p (opMax (.t rfl) (.c _)) rfl <| .p (opAddF (.t rfl) (.t rfl) (fits_i64 (by omega) (by omega))) rfl <| .p (opField Try.fd31_8 (.t rfl)) rfl <| .p (opLoad Try.ag28 (.t rfl)) rfl <| .p (opLen rfl Try.underlying28 (.t rfl)) rfl <| .p (opSubF (.t rfl) (.c _) (fits_i64 (by omega) (by omega))) rfl <| .p (opMax (.t rfl) (.c _)) rfl <| .p (opAddF (.t rfl) (.t rfl) (fits_i64 (by omega) (by omega))) rfl <| .p (opField Try.fd31_9 (.t rfl)) rfl <| .p (opLoad Try.ag29 (.t rfl)) rfl <| .p (opLen rfl Try.underlying29 (.t rfl)) rfl <| .p (opSubF (.t rfl) (.c _) (fits_i64 (by omega) (by omega))) rfl <| .p (opMax (.t rfl) (.c _)) rfl <| .p (opAddF (.t rfl) (.t rfl) (fits_i64 (by omega) (by omega))) rfl <| .p (opAssign (.t rfl)) rfl <| .nil ?_)
  refine EndT.thenN ?_
  refine CodeT.seq ?_
  refine CodeT.seq ?_
  refine CodeT.region (.p (opAssign (.c _)) rfl <| .nil ?_)
  refine EndT.thenN ?_
  refine CodeT.block ?_
  refine CodeT.loopO (σ := Nat) (fun _ => []) (fun k0 => [(4, intV .i64 (k0 : Int)), (3, intV .i64 (great0 x + sumN (onI x.Sigs gSig) k0))]) (fun k0 => k0 ≤ x.Sigs.length ∧ k0 ≤ 60) (fun k0 => x.Sigs.length - k0) 0 ⟨by omega, by omega⟩ rfl ?_ ?_
  · exact (.get rfl (VLe.refl _) (.get rfl (VLe.int (by simp only [sumN]; unfold great0; omega)) (.refl _ _)))
  · rintro k0 ⟨hk0, hc0⟩
    have hq0 := addN_part (by omega) hb.sig k0
    refine CodeT.seq ?_
    refine CodeT.seq ?_
    refine CodeT.region (.p (opMove (.t rfl)) rfl <| .p (opField Try.fd31_0 (.t rfl)) rfl <| .p (opLoad Try.ag22 (.t rfl)) rfl <| .p (opLen rfl Try.underlying22 (.t rfl)) rfl <| .p (opLss (.t rfl) (.t rfl)) rfl <| .p (opMove (.t rfl)) rfl <| .g (OpG.gT rfl rfl rfl rfl (fun hg => opMove (.t rfl))) rfl rfl <| .g (OpG.gT rfl rfl rfl rfl (fun hg => opLss (.when (.t rfl) hg) (.c _))) rfl rfl <| .p (opAnd (.t rfl) (.t rfl)) rfl <| .nil ?_)
    refine EndT.thenN ?_
    refine CodeT.cond (.t rfl) (fun c0 => ?_) (fun c0 => ?_)
    ·
      obtain ⟨y, hx⟩ := getElem?_lt (xs := x.Sigs) (k := k0) (by omega)
      have hy1 := hi0 k0 y hx
      refine CodeT.skip (EndT.thenN ?_)
      refine CodeT.seq ?_
      refine CodeT.block ?_
      refine CodeT.draw 18 2 Try.mixed (by kernel_rfl) (.p (opMove (.t rfl)) <| .p (opField Try.fd31_0 (.t rfl)) <| .p (opLoad Try.ag22 (.t rfl)) <| .p (opMove (.t rfl)) <| .p (opIndexAddr Try.underlying22 Try.cz52 rfl (.t rfl) (.t rfl) rfl (by assumption)) <| .p (opField Try.fd52_0 (.t rfl)) <| .p (opLoad Try.ag50 (.t rfl)) <| .p (opLen rfl Try.underlying50 (.t rfl)) <| .p (opField Try.fd31_0 (.t rfl)) <| .p (opLoad Try.ag22 (.t rfl)) <| .p (opMove (.t rfl)) <| .p (opIndexAddr Try.underlying22 Try.cz52 rfl (.t rfl) (.t rfl) rfl (by assumption)) <| .p (opField Try.fd52_1 (.t rfl)) <| .p (opLoad Try.ag50 (.t rfl)) <| .p (opLen rfl Try.underlying50 (.t rfl)) <| .p (opAddF (.t rfl) (.t rfl) (fits_i64 (by omega) (by omega))) <| .p (opSubF (.t rfl) (.c _) (fits_i64 (by omega) (by omega))) <| .p (opMax (.t rfl) (.c _)) <| .nil) (.p (opAddF (.t rfl) (.t rfl) (fits_i64 (by omega) (by omega))) rfl <| .p (opAssign (.t rfl)) rfl <| .nil ?_)
      refine EndT.blkN (EndT.thenN ?_)
      refine CodeT.region (.p (opMove (.t rfl)) rfl <| .p (opAddF (.t rfl) (.c _) (fits_i64 (by omega) (by omega))) rfl <| .p (opAssign (.t rfl)) rfl <| .nil ?_)
      refine EndT.round (k0 + 1) ⟨by omega, by omega⟩ (by omega) rfl ?_
      exact (.get rfl (VLe.int (by omega)) (.get rfl (VLe.int (by rw [sumN_at hx]; unfold gSig; omega)) (.keep 34 rfl rfl)))
    ·
      refine CodeT.exit (EndT.thenX (EndT.thenX (EndT.blkX (EndT.thenN ?_))))
      refine CodeT.seq ?_
      refine CodeT.seq ?_
      refine CodeT.region (.p (opAssign (.c _)) rfl <| .nil ?_)
      refine EndT.thenN ?_
      refine CodeT.block ?_
      refine CodeT.loopO (σ := Nat) (fun _ => []) (fun k1 => [(5, intV .i64 (k1 : Int)), (3, intV .i64 (great1 x + sumN (onI x.Imports gImp) k1))]) (fun k1 => k1 ≤ x.Imports.length ∧ k1 ≤ 25) (fun k1 => x.Imports.length - k1) 0 ⟨by omega, by omega⟩ rfl ?_ ?_
      · exact (.get rfl (VLe.refl _) (.get rfl (VLe.int (by simp only [sumN]; unfold great1 addN; rw [show min x.Sigs.length 60 = k0 by omega]; omega)) (.refl _ _)))
      · rintro k1 ⟨hk1, hc1⟩
        have hq1 := addN_part (by omega) hb.imp k1
        refine CodeT.seq ?_
        refine CodeT.seq ?_
        refine CodeT.region (.p (opMove (.t rfl)) rfl <| .p (opField Try.fd31_1 (.t rfl)) rfl <| .p (opLoad Try.ag23 (.t rfl)) rfl <| .p (opLen rfl Try.underlying23 (.t rfl)) rfl <| .p (opLss (.t rfl) (.t rfl)) rfl <| .p (opMove (.t rfl)) rfl <| .g (OpG.gT rfl rfl rfl rfl (fun hg => opMove (.t rfl))) rfl rfl <| .g (OpG.gT rfl rfl rfl rfl (fun hg => opLss (.when (.t rfl) hg) (.c _))) rfl rfl <| .p (opAnd (.t rfl) (.t rfl)) rfl <| .nil ?_)
        refine EndT.thenN ?_
        refine CodeT.cond (.t rfl) (fun c1 => ?_) (fun c1 => ?_)
        ·
          obtain ⟨y, hx⟩ := getElem?_lt (xs := x.Imports) (k := k1) (by omega)
          have hy1 := hi1 k1 y hx
          refine CodeT.skip (EndT.thenN ?_)
          refine CodeT.seq ?_
          refine CodeT.block ?_
          refine CodeT.draw 18 2 Try.mixed (by kernel_rfl) (.p (opMove (.t rfl)) <| .p (opField Try.fd31_1 (.t rfl)) <| .p (opLoad Try.ag23 (.t rfl)) <| .p (opMove (.t rfl)) <| .p (opIndexAddr Try.underlying23 Try.cz62 rfl (.t rfl) (.t rfl) rfl (by assumption)) <| .p (opField Try.fd62_0 (.t rfl)) <| .p (opLoad Try.ag9 (.t rfl)) <| .p (opLenS rfl Try.underlying9 (.t rfl)) <| .p (opField Try.fd31_1 (.t rfl)) <| .p (opLoad Try.ag23 (.t rfl)) <| .p (opMove (.t rfl)) <| .p (opIndexAddr Try.underlying23 Try.cz62 rfl (.t rfl) (.t rfl) rfl (by assumption)) <| .p (opField Try.fd62_1 (.t rfl)) <| .p (opLoad Try.ag9 (.t rfl)) <| .p (opLenS rfl Try.underlying9 (.t rfl)) <| .p (opAddF (.t rfl) (.t rfl) (fits_i64 (by omega) (by omega))) <| .p (opSubF (.t rfl) (.c _) (fits_i64 (by omega) (by omega))) <| .p (opMax (.t rfl) (.c _)) <| .nil) (.p (opAddF (.t rfl) (.t rfl) (fits_i64 (by omega) (by omega))) rfl <| .p (opAssign (.t rfl)) rfl <| .nil ?_)
          refine EndT.blkN (EndT.thenN ?_)
          refine CodeT.region (.p (opMove (.t rfl)) rfl <| .p (opAddF (.t rfl) (.c _) (fits_i64 (by omega) (by omega))) rfl <| .p (opAssign (.t rfl)) rfl <| .nil ?_)
          refine EndT.round (k1 + 1) ⟨by omega, by omega⟩ (by omega) rfl ?_
          exact (.get rfl (VLe.int (by omega)) (.get rfl (VLe.int (by rw [sumN_at hx]; unfold gImp; omega)) (.keep 34 rfl rfl)))
        ·
          refine CodeT.exit (EndT.thenX (EndT.thenX (EndT.blkX (EndT.thenN ?_))))
          refine CodeT.seq ?_
          refine CodeT.seq ?_
          refine CodeT.region (.p (opAssign (.c _)) rfl <| .nil ?_)
          refine EndT.thenN ?_
          refine CodeT.block ?_
          refine CodeT.loopO (σ := Nat) (fun _ => []) (fun k2 => [(6, intV .i64 (k2 : Int)), (3, intV .i64 (great2 x + sumN (onI x.Funcs gFn) k2))]) (fun k2 => k2 ≤ x.Funcs.length ∧ k2 ≤ 110) (fun k2 => x.Funcs.length - k2) 0 ⟨by omega, by omega⟩ rfl ?_ ?_
          · exact (.get rfl (VLe.refl _) (.get rfl (VLe.int (by simp only [sumN]; unfold great2 addN; rw [show min x.Imports.length 25 = k1 by omega]; omega)) (.refl _ _)))
          · rintro k2 ⟨hk2, hc2⟩
            have hq2 := addN_part (by omega) hb.fn k2
            refine CodeT.seq ?_
            refine CodeT.seq ?_
            refine CodeT.region (.p (opMove (.t rfl)) rfl <| .p (opField Try.fd31_2 (.t rfl)) rfl <| .p (opLoad Try.ag24 (.t rfl)) rfl <| .p (opLen rfl Try.underlying24 (.t rfl)) rfl <| .p (opLss (.t rfl) (.t rfl)) rfl <| .p (opMove (.t rfl)) rfl <| .g (OpG.gT rfl rfl rfl rfl (fun hg => opMove (.t rfl))) rfl rfl <| .g (OpG.gT rfl rfl rfl rfl (fun hg => opLss (.when (.t rfl) hg) (.c _))) rfl rfl <| .p (opAnd (.t rfl) (.t rfl)) rfl <| .nil ?_)
            refine EndT.thenN ?_
            refine CodeT.cond (.t rfl) (fun c2 => ?_) (fun c2 => ?_)
            ·
              obtain ⟨y, hx⟩ := getElem?_lt (xs := x.Funcs) (k := k2) (by omega)
              have hy1 := hb.fn k2 y hx
              unfold gFn at hy1
              refine CodeT.skip (EndT.thenN ?_)
              refine CodeT.seq ?_
              refine CodeT.block ?_
              refine CodeT.region (.p (opMove (.t rfl)) rfl <| .p (opField Try.fd31_2 (.t rfl)) rfl <| .p (opLoad Try.ag24 (.t rfl)) rfl <| .p (opMove (.t rfl)) rfl <| .p (opIndexAddr Try.underlying24 Try.cz67 rfl (.t rfl) (.t rfl) rfl (by assumption)) rfl <| .p (opField Try.fd67_1 (.t rfl)) rfl <| .p (opLoadA Try.ag65 Try.cz65 rfl (.t rfl) rfl) rfl <| .p (opCall (l12great_spec) Try.cb24 (.cons (.t rfl) .nil)) rfl <| .p (opAddF (.t rfl) (.t rfl) (fits_i64 (by omega) (by omega))) rfl <| .p (opAssign (.t rfl)) rfl <| .nil ?_)
              refine EndT.blkN (EndT.thenN ?_)
              refine CodeT.region (.p (opMove (.t rfl)) rfl <| .p (opAddF (.t rfl) (.c _) (fits_i64 (by omega) (by omega))) rfl <| .p (opAssign (.t rfl)) rfl <| .nil ?_)
              refine EndT.round (k2 + 1) ⟨by omega, by omega⟩ (by omega) rfl ?_
              exact (.get rfl (VLe.int (by omega)) (.get rfl (VLe.int (by rw [sumN_at hx]; unfold gFn; omega)) (.keep 24 rfl rfl)))
            ·
              refine CodeT.exit (EndT.thenX (EndT.thenX (EndT.blkX (EndT.thenN ?_))))
              refine CodeT.seq ?_
              refine CodeT.seq ?_
              refine CodeT.region (.p (opAssign (.c _)) rfl <| .nil ?_)
              refine EndT.thenN ?_
              refine CodeT.block ?_
              refine CodeT.loopO (σ := Nat) (fun _ => []) (fun k3 => [(7, intV .i64 (k3 : Int)), (3, intV .i64 (great3 x + sumN (onI x.Exports gExp) k3))]) (fun k3 => k3 ≤ x.Exports.length ∧ k3 ≤ 60) (fun k3 => x.Exports.length - k3) 0 ⟨by omega, by omega⟩ rfl ?_ ?_
              · exact (.get rfl (VLe.refl _) (.get rfl (VLe.int (by simp only [sumN]; unfold great3 addN; rw [show min x.Funcs.length 110 = k2 by omega]; omega)) (.refl _ _)))
              · rintro k3 ⟨hk3, hc3⟩
                have hq3 := addN_part (by omega) hb.exp k3
                refine CodeT.seq ?_
                refine CodeT.seq ?_
                refine CodeT.region (.p (opMove (.t rfl)) rfl <| .p (opField Try.fd31_6 (.t rfl)) rfl <| .p (opLoad Try.ag27 (.t rfl)) rfl <| .p (opLen rfl Try.underlying27 (.t rfl)) rfl <| .p (opLss (.t rfl) (.t rfl)) rfl <| .p (opMove (.t rfl)) rfl <| .g (OpG.gT rfl rfl rfl rfl (fun hg => opMove (.t rfl))) rfl rfl <| .g (OpG.gT rfl rfl rfl rfl (fun hg => opLss (.when (.t rfl) hg) (.c _))) rfl rfl <| .p (opAnd (.t rfl) (.t rfl)) rfl <| .nil ?_)
                refine EndT.thenN ?_
                refine CodeT.cond (.t rfl) (fun c3 => ?_) (fun c3 => ?_)
                ·
                  obtain ⟨y, hx⟩ := getElem?_lt (xs := x.Exports) (k := k3) (by omega)
                  have hy1 := hi2 k3 y hx
                  refine CodeT.skip (EndT.thenN ?_)
                  refine CodeT.seq ?_
                  refine CodeT.block ?_
                  refine CodeT.region (.p (opMove (.t rfl)) rfl <| .p (opField Try.fd31_6 (.t rfl)) rfl <| .p (opLoad Try.ag27 (.t rfl)) rfl <| .p (opMove (.t rfl)) rfl <| .p (opIndexAddr Try.underlying27 Try.cz57 rfl (.t rfl) (.t rfl) rfl (by assumption)) rfl <| .p (opField Try.fd57_0 (.t rfl)) rfl <| .p (opLoad Try.ag9 (.t rfl)) rfl <| .p (opLenS rfl Try.underlying9 (.t rfl)) rfl <| .p (opSubF (.t rfl) (.c _) (fits_i64 (by omega) (by omega))) rfl <| .p (opMax (.t rfl) (.c _)) rfl <| .p (opAddF (.t rfl) (.t rfl) (fits_i64 (by omega) (by omega))) rfl <| .p (opAssign (.t rfl)) rfl <| .nil ?_)
                  refine EndT.blkN (EndT.thenN ?_)
                  refine CodeT.region (.p (opMove (.t rfl)) rfl <| .p (opAddF (.t rfl) (.c _) (fits_i64 (by omega) (by omega))) rfl <| .p (opAssign (.t rfl)) rfl <| .nil ?_)
                  refine EndT.round (k3 + 1) ⟨by omega, by omega⟩ (by omega) rfl ?_
                  exact (.get rfl (VLe.int (by omega)) (.get rfl (VLe.int (by rw [sumN_at hx]; unfold gExp; omega)) (.keep 26 rfl rfl)))
                ·
                  refine CodeT.exit (EndT.thenX (EndT.thenX (EndT.blkX (EndT.thenN ?_))))
                  refine CodeT.seq ?_
                  refine CodeT.seq ?_
                  refine CodeT.region (.p (opAssign (.c _)) rfl <| .nil ?_)
                  refine EndT.thenN ?_
                  refine CodeT.block ?_
                  refine CodeT.loopO (σ := Nat) (fun _ => []) (fun k4 => [(8, intV .i64 (k4 : Int)), (3, intV .i64 (great4 x + sumN (onI x.Elems gElem) k4))]) (fun k4 => k4 ≤ x.Elems.length ∧ k4 ≤ 25) (fun k4 => x.Elems.length - k4) 0 ⟨by omega, by omega⟩ rfl ?_ ?_
                  · exact (.get rfl (VLe.refl _) (.get rfl (VLe.int (by simp only [sumN]; unfold great4 addN; rw [show min x.Exports.length 60 = k3 by omega]; omega)) (.refl _ _)))
                  · rintro k4 ⟨hk4, hc4⟩
                    have hq4 := addN_part (by omega) hb.elem k4
                    refine CodeT.seq ?_
                    refine CodeT.seq ?_
                    refine CodeT.region (.p (opMove (.t rfl)) rfl <| .p (opField Try.fd31_8 (.t rfl)) rfl <| .p (opLoad Try.ag28 (.t rfl)) rfl <| .p (opLen rfl Try.underlying28 (.t rfl)) rfl <| .p (opLss (.t rfl) (.t rfl)) rfl <| .p (opMove (.t rfl)) rfl <| .g (OpG.gT rfl rfl rfl rfl (fun hg => opMove (.t rfl))) rfl rfl <| .g (OpG.gT rfl rfl rfl rfl (fun hg => opLss (.when (.t rfl) hg) (.c _))) rfl rfl <| .p (opAnd (.t rfl) (.t rfl)) rfl <| .nil ?_)
                    refine EndT.thenN ?_
                    refine CodeT.cond (.t rfl) (fun c4 => ?_) (fun c4 => ?_)
                    ·
                      obtain ⟨y, hx⟩ := getElem?_lt (xs := x.Elems) (k := k4) (by omega)
                      have hy1 := hi3 k4 y hx
                      refine CodeT.skip (EndT.thenN ?_)
                      refine CodeT.seq ?_
                      refine CodeT.block ?_
                      refine CodeT.region (.p (opMove (.t rfl)) rfl <| .p (opField Try.fd31_8 (.t rfl)) rfl <| .p (opLoad Try.ag28 (.t rfl)) rfl <| .p (opMove (.t rfl)) rfl <| .p (opIndexAddr Try.underlying28 Try.cz86 rfl (.t rfl) (.t rfl) rfl (by assumption)) rfl <| .p (opField Try.fd86_1 (.t rfl)) rfl <| .p (opLoad Try.ag84 (.t rfl)) rfl <| .p (opLen rfl Try.underlying84 (.t rfl)) rfl <| .p (opSubF (.t rfl) (.c _) (fits_i64 (by omega) (by omega))) rfl <| .p (opMax (.t rfl) (.c _)) rfl <| .p (opAddF (.t rfl) (.t rfl) (fits_i64 (by omega) (by omega))) rfl <| .p (opAssign (.t rfl)) rfl <| .nil ?_)
                      refine EndT.blkN (EndT.thenN ?_)
                      refine CodeT.region (.p (opMove (.t rfl)) rfl <| .p (opAddF (.t rfl) (.c _) (fits_i64 (by omega) (by omega))) rfl <| .p (opAssign (.t rfl)) rfl <| .nil ?_)
                      refine EndT.round (k4 + 1) ⟨by omega, by omega⟩ (by omega) rfl ?_
                      exact (.get rfl (VLe.int (by omega)) (.get rfl (VLe.int (by rw [sumN_at hx]; unfold gElem; omega)) (.keep 26 rfl rfl)))
                    ·
                      refine CodeT.exit (EndT.thenX (EndT.thenX (EndT.blkX (EndT.thenN ?_))))
                      refine CodeT.seq ?_
                      refine CodeT.seq ?_
                      refine CodeT.region (.p (opAssign (.c _)) rfl <| .nil ?_)
                      refine EndT.thenN ?_
                      refine CodeT.block ?_
                      refine CodeT.loopO (σ := Nat) (fun _ => []) (fun k5 => [(9, intV .i64 (k5 : Int)), (3, intV .i64 (great5 x + sumN (onI x.Datas gData) k5))]) (fun k5 => k5 ≤ x.Datas.length ∧ k5 ≤ 25) (fun k5 => x.Datas.length - k5) 0 ⟨by omega, by omega⟩ rfl ?_ ?_
                      · exact (.get rfl (VLe.refl _) (.get rfl (VLe.int (by simp only [sumN]; unfold great5 addN; rw [show min x.Elems.length 25 = k4 by omega]; omega)) (.refl _ _)))
                      · rintro k5 ⟨hk5, hc5⟩
                        have hq5 := addN_part (by omega) hb.data k5
                        refine CodeT.seq ?_
                        refine CodeT.seq ?_
                        refine CodeT.region (.p (opMove (.t rfl)) rfl <| .p (opField Try.fd31_9 (.t rfl)) rfl <| .p (opLoad Try.ag29 (.t rfl)) rfl <| .p (opLen rfl Try.underlying29 (.t rfl)) rfl <| .p (opLss (.t rfl) (.t rfl)) rfl <| .p (opMove (.t rfl)) rfl <| .g (OpG.gT rfl rfl rfl rfl (fun hg => opMove (.t rfl))) rfl rfl <| .g (OpG.gT rfl rfl rfl rfl (fun hg => opLss (.when (.t rfl) hg) (.c _))) rfl rfl <| .p (opAnd (.t rfl) (.t rfl)) rfl <| .nil ?_)
                        refine EndT.thenN ?_
                        refine CodeT.cond (.t rfl) (fun c5 => ?_) (fun c5 => ?_)
                        ·
                          obtain ⟨y, hx⟩ := getElem?_lt (xs := x.Datas) (k := k5) (by omega)
                          have hy1 := hi4 k5 y hx
                          refine CodeT.skip (EndT.thenN ?_)
                          refine CodeT.seq ?_
                          refine CodeT.block ?_
                          refine CodeT.region (.p (opMove (.t rfl)) rfl <| .p (opField Try.fd31_9 (.t rfl)) rfl <| .p (opLoad Try.ag29 (.t rfl)) rfl <| .p (opMove (.t rfl)) rfl <| .p (opIndexAddr Try.underlying29 Try.cz88 rfl (.t rfl) (.t rfl) rfl (by assumption)) rfl <| .p (opField Try.fd88_2 (.t rfl)) rfl <| .p (opLoad Try.ag50 (.t rfl)) rfl <| .p (opLen rfl Try.underlying50 (.t rfl)) rfl <| .p (opSubF (.t rfl) (.c _) (fits_i64 (by omega) (by omega))) rfl <| .p (opMax (.t rfl) (.c _)) rfl <| .p (opAddF (.t rfl) (.t rfl) (fits_i64 (by omega) (by omega))) rfl <| .p (opAssign (.t rfl)) rfl <| .nil ?_)
                          refine EndT.blkN (EndT.thenN ?_)
                          refine CodeT.region (.p (opMove (.t rfl)) rfl <| .p (opAddF (.t rfl) (.c _) (fits_i64 (by omega) (by omega))) rfl <| .p (opAssign (.t rfl)) rfl <| .nil ?_)
                          refine EndT.round (k5 + 1) ⟨by omega, by omega⟩ (by omega) rfl ?_
                          exact (.get rfl (VLe.int (by omega)) (.get rfl (VLe.int (by rw [sumN_at hx]; unfold gData; omega)) (.keep 26 rfl rfl)))
                        ·
                          refine CodeT.exit (EndT.thenX (EndT.thenX (EndT.blkX (EndT.thenN ?_))))
                          refine CodeT.seq ?_
                          refine CodeT.region (.p (opMove (.t rfl)) rfl <| .p (opAssign (.t rfl)) rfl <| .nil ?_)
                          refine EndT.thenN ?_
                          refine CodeT.ret (Post.retP rfl rfl ?_)
                          exact VLe.int (by unfold greatM addN; rw [show min x.Datas.length 25 = k5 by omega])

end Go.Proofs.Ytbiahdejccipaaa
