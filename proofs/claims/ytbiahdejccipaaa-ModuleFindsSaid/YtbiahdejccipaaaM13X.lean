/-
  Walks, printed by a program (gen.py) out of what its author says of each function.
-/
import Derived.Test.YtbiahdejccipaaaM13W
import Derived.Test.YtbiahdejccipaaaM13C
import Derived.Test.YtbiahdejccipaaaHlH
namespace Go.Proofs.Ytbiahdejccipaaa
open Go.Hl Go.RowKit
set_option linter.unusedVariables false
set_option maxRecDepth 100000

theorem l12great_spec {b : BodyD} : FnP Try.prog 24 [aggV (encBody b)] (exV (fun n : Int => 0 ≤ n ∧ n ≤ 152 * 281474976710656 ∧ (n ≤ 0 → SmallB b)) (intV .i64)) := by
  refine FnE.intro 39 Try.func24 rfl rfl rfl fun w0 S0 M => ?_
  refine CodeT.fact (t := 0) rfl (fun S w v h => bodyLens h) fun hlen => ?_
  obtain ⟨hl1, hl2, hl3⟩ := hlen
  refine CodeT.seq ?_
  refine CodeT.region (.p (opBoxA (.t rfl)) rfl <| .p (opAssign (.c _)) rfl <| .nil ?_)
  refine EndT.thenN ?_
  refine CodeT.seq ?_
  refine CodeT.region (.p (opField Try.fd65_0 (.t rfl)) rfl <| .p (opLoad Try.ag50 (.t rfl)) rfl <| .p (opLen rfl Try.underlying50 (.t rfl)) rfl <| .p (opSubF (.t rfl) (.c _) (fits_i64 (by omega) (by omega))) rfl <| .p (opMax (.t rfl) (.c _)) rfl <| .p (opField Try.fd65_1 (.t rfl)) rfl <| .p (opLoad Try.ag63 (.t rfl)) rfl <| .p (opLen rfl Try.underlying63 (.t rfl)) rfl <| .p (opSubF (.t rfl) (.c _) (fits_i64 (by omega) (by omega))) rfl <| .p (opMax (.t rfl) (.c _)) rfl <| .p (opAddF (.t rfl) (.t rfl) (fits_i64 (by omega) (by omega))) rfl <| .p (opAssign (.t rfl)) rfl <| .nil ?_)
  refine EndT.thenN ?_
  refine CodeT.seq ?_
  refine CodeT.seq ?_
  refine CodeT.region (.p (opAssign (.c _)) rfl <| .nil ?_)
  refine EndT.thenN ?_
  refine CodeT.block ?_
  refine CodeT.loopO (σ := Nat × Int) (fun _ => []) (fun s => [(4, intV .i64 (s.1 : Int)), (3, intV .i64 s.2)]) (fun s => s.1 ≤ b.L.length ∧ s.1 ≤ 150 ∧ 0 ≤ s.2 ∧ s.2 ≤ (2 + (s.1 : Int)) * 281474976710656 ∧ (s.2 ≤ 0 → (b.Locals.length ≤ 60 ∧ b.L.length ≤ 150) ∧ NotB (fun x : InstrD => 110 < x.L.length) b.L s.1)) (fun s => b.L.length - s.1) (0, max ((b.Locals.length : Int) - 60) 0 + max ((b.L.length : Int) - 150) 0) ⟨by omega, by omega, by omega, by omega, fun h => ⟨⟨by omega, by omega⟩, NotB.zero _ _⟩⟩ rfl ?_ ?_
  · exact (.get rfl (VLe.refl _) (.get rfl (VLe.refl _) (.refl _ _)))
  · rintro s ⟨hk, hk2, hn, hn2, hs⟩
    refine CodeT.seq ?_
    refine CodeT.seq ?_
    refine CodeT.region (.p (opMove (.t rfl)) rfl <| .p (opField Try.fd65_1 (.t rfl)) rfl <| .p (opLoad Try.ag63 (.t rfl)) rfl <| .p (opLen rfl Try.underlying63 (.t rfl)) rfl <| .p (opLss (.t rfl) (.t rfl)) rfl <| .p (opMove (.t rfl)) rfl <| .g (OpG.gT rfl rfl rfl rfl (fun hg => opMove (.t rfl))) rfl rfl <| .g (OpG.gT rfl rfl rfl rfl (fun hg => opLss (.when (.t rfl) hg) (.c _))) rfl rfl <| .p (opAnd (.t rfl) (.t rfl)) rfl <| .nil ?_)
    refine EndT.thenN ?_
    refine CodeT.cond (.t rfl) (fun c0 => ?_) (fun c0 => ?_)
    ·
      obtain ⟨x, hx⟩ := getElem?_lt (xs := b.L) (k := s.1) (by omega)
      have hxl := hl3 s.1 x hx
      refine CodeT.skip (EndT.thenN ?_)
      refine CodeT.seq ?_
      refine CodeT.block ?_
      refine CodeT.region (.p (opMove (.t rfl)) rfl <| .p (opField Try.fd65_1 (.t rfl)) rfl <| .p (opLoad Try.ag63 (.t rfl)) rfl <| .p (opMove (.t rfl)) rfl <| .p (opIndexAddr Try.underlying63 Try.cz121 rfl (.t rfl) (.t rfl) rfl (by assumption)) rfl <| .p (opField Try.fd121_4 (.t rfl)) rfl <| .p (opLoad Try.ag104 (.t rfl)) rfl <| .p (opLen rfl Try.underlying104 (.t rfl)) rfl <| .p (opSubF (.t rfl) (.c _) (fits_i64 (by omega) (by omega))) rfl <| .p (opMax (.t rfl) (.c _)) rfl <| .p (opAddF (.t rfl) (.t rfl) (fits_i64 (by omega) (by omega))) rfl <| .p (opAssign (.t rfl)) rfl <| .nil ?_)
      refine EndT.blkN (EndT.thenN ?_)
      refine CodeT.region (.p (opMove (.t rfl)) rfl <| .p (opAddF (.t rfl) (.c _) (fits_i64 (by omega) (by omega))) rfl <| .p (opAssign (.t rfl)) rfl <| .nil ?_)
      refine EndT.round (s.1 + 1, s.2 + max ((x.L.length : Int) - 110) 0) ⟨by omega, by omega, by omega, by omega, fun h => ⟨(hs (by omega)).1, (hs (by omega)).2.succ hx (by omega)⟩⟩ (by omega) rfl ?_
      exact (.get rfl (VLe.int (by omega)) (.get rfl (VLe.int (by omega)) (.keep 26 rfl rfl)))
    ·
      refine CodeT.exit (EndT.thenX (EndT.thenX (EndT.blkX (EndT.thenN ?_))))
      refine CodeT.seq ?_
      refine CodeT.region (.p (opMove (.t rfl)) rfl <| .p (opAssign (.t rfl)) rfl <| .nil ?_)
      refine EndT.thenN ?_
      refine CodeT.ret (Post.retP rfl rfl ?_)
      exact VLe.ex s.2 ⟨by omega, by omega, fun h => SmallB.of (hs h).1.1 (hs h).1.2 (fun j y hj hy => (hs h).2 j y (by have := (hs h).1.2; omega) hy)⟩ (VLe.refl _)

set_option maxHeartbeats 2000000 in
theorem great_spec {x : ModD} : FnP Try.prog 7 [aggV (encMod x)] (exV (fun n : Int => n ≤ 0 → SmallM x) (intV .i64)) := by
  refine FnE.intro 204 Try.func7 rfl rfl rfl fun w0 S0 M => ?_
  refine CodeT.fact (t := 0) rfl (fun S w v h => modLensA h) fun hlen => ?_
  refine CodeT.fact (t := 0) rfl (fun S w v h => modIn h) fun hin => ?_
  obtain ⟨hl0, hl1, hl2, hl3, hl4, hl5, hl6, hl7⟩ := hlen
  obtain ⟨hi0, hi1, hi2, hi3, hi4⟩ := hin
  refine CodeT.seq ?_
  refine CodeT.region (.p (opBoxA (.t rfl)) rfl <| .p (opAssign (.c _)) rfl <| .nil ?_)
  refine EndT.thenN ?_
  refine CodeT.seq ?_
  refine CodeT.region (.p (opField Try.fd31_0 (.t rfl)) rfl <| .p (opLoad Try.ag22 (.t rfl)) rfl <| .p (opLen rfl Try.underlying22 (.t rfl)) rfl <| .p (opSubF (.t rfl) (.c _) (fits_i64 (by omega) (by omega))) rfl <| .p (opMax (.t rfl) (.c _)) rfl <| .p (opField Try.fd31_1 (.t rfl)) rfl <| .p (opLoad Try.ag23 (.t rfl)) rfl <| .p (opLen rfl Try.underlying23 (.t rfl)) rfl <| .p (opSubF (.t rfl) (.c _) (fits_i64 (by omega) (by omega))) rfl <| .p (opMax (.t rfl) (.c _)) rfl <| .p (opAddF (.t rfl) (.t rfl) (fits_i64 (by omega) (by omega))) rfl <| .p (opField Try.fd31_2 (.t rfl)) rfl <| .p (opLoad Try.ag24 (.t rfl)) rfl <| .p (opLen rfl Try.underlying24 (.t rfl)) rfl <| .p (opSubF (.t rfl) (.c _) (fits_i64 (by omega) (by omega))) rfl <| .p (opMax (.t rfl) (.c _)) rfl <| .p (opAddF (.t rfl) (.t rfl) (fits_i64 (by omega) (by omega))) rfl <| .p (opField Try.fd31_4 (.t rfl)) rfl <| .p (opLoad Try.ag25 (.t rfl)) rfl <| .p (opLen rfl Try.underlying25 (.t rfl)) rfl <| .p (opSubF (.t rfl) (.c _) (fits_i64 (by omega) (by omega))) rfl <| .p (opMax (.t rfl) (.c _)) rfl <| .p (opAddF (.t rfl) (.t rfl) (fits_i64 (by omega) (by omega))) rfl <| .p (opField Try.fd31_5 (.t rfl)) rfl <| .p (opLoad Try.ag26 (.t rfl)) rfl <| .p (opLen rfl Try.underlying26 (.t rfl)) rfl <| .p (opSubF (.t rfl) (.c _) (fits_i64 (by omega) (by omega))) rfl <| .p (opMax (.t rfl) (.c _)) rfl <| .p (opAddF (.t rfl) (.t rfl) (fits_i64 (by omega) (by omega))) rfl <| .p (opField Try.fd31_6 (.t rfl)) rfl <| .p (opLoad Try.ag27 (.t rfl)) rfl <| .p (opLen rfl Try.underlying27 (.t rfl)) rfl <| .p (opSubF (.t rfl) (.c _) (fits_i64 (by omega) (by omega))) rfl <| .p (opMax (.t rfl) (.c _)) rfl <| .p (opAddF (.t rfl) (.t rfl) (fits_i64 (by omega) (by omega))) rfl <| .p (opField Try.fd31_8 (.t rfl)) rfl <| .p (opLoad Try.ag28 (.t rfl)) rfl <| .p (opLen rfl Try.underlying28 (.t rfl)) rfl <| .p (opSubF (.t rfl) (.c _) (fits_i64 (by omega) (by omega))) rfl <| .p (opMax (.t rfl) (.c _)) rfl <| .p (opAddF (.t rfl) (.t rfl) (fits_i64 (by omega) (by omega))) rfl <| .p (opField Try.fd31_9 (.t rfl)) rfl <| .p (opLoad Try.ag29 (.t rfl)) rfl <| .p (opLen rfl Try.underlying29 (.t rfl)) rfl <| .p (opSubF (.t rfl) (.c _) (fits_i64 (by omega) (by omega))) rfl <| .p (opMax (.t rfl) (.c _)) rfl <| .p (opAddF (.t rfl) (.t rfl) (fits_i64 (by omega) (by omega))) rfl <| .p (opAssign (.t rfl)) rfl <| .nil ?_)
  refine EndT.thenN ?_
  refine CodeT.seq ?_
  refine CodeT.seq ?_
  refine CodeT.region (.p (opAssign (.c _)) rfl <| .nil ?_)
  refine EndT.thenN ?_
  refine CodeT.block ?_
  refine CodeT.loopO (σ := Nat × Int) (fun _ => []) (fun s0 => [(4, intV .i64 (s0.1 : Int)), (3, intV .i64 s0.2)]) (fun s0 => s0.1 ≤ x.Sigs.length ∧ s0.1 ≤ 60 ∧ 0 ≤ s0.2 ∧ s0.2 ≤ (8 + (s0.1 : Int) * 2) * 281474976710656 ∧ (s0.2 ≤ 0 → (CountM x) ∧ NotB (fun y : SigD => 60 < y.P.length + y.R.length) x.Sigs s0.1)) (fun s0 => x.Sigs.length - s0.1) (0, max ((x.Sigs.length : Int) - 60) 0 + max ((x.Imports.length : Int) - 25) 0 + max ((x.Funcs.length : Int) - 110) 0 + max ((x.Mems.length : Int) - 8) 0 + max ((x.Globals.length : Int) - 60) 0 + max ((x.Exports.length : Int) - 60) 0 + max ((x.Elems.length : Int) - 25) 0 + max ((x.Datas.length : Int) - 25) 0) ⟨by omega, by omega, by omega, by omega, fun h => ⟨⟨by omega, by omega, by omega, by omega, by omega, by omega, by omega, by omega⟩, NotB.zero _ _⟩⟩ rfl ?_ ?_
  · exact (.get rfl (VLe.refl _) (.get rfl (VLe.refl _) (.refl _ _)))
  · rintro s0 ⟨hk0, hc0, hn0, hm0, hs0⟩
    refine CodeT.seq ?_
    refine CodeT.seq ?_
    refine CodeT.region (.p (opMove (.t rfl)) rfl <| .p (opField Try.fd31_0 (.t rfl)) rfl <| .p (opLoad Try.ag22 (.t rfl)) rfl <| .p (opLen rfl Try.underlying22 (.t rfl)) rfl <| .p (opLss (.t rfl) (.t rfl)) rfl <| .p (opMove (.t rfl)) rfl <| .g (OpG.gT rfl rfl rfl rfl (fun hg => opMove (.t rfl))) rfl rfl <| .g (OpG.gT rfl rfl rfl rfl (fun hg => opLss (.when (.t rfl) hg) (.c _))) rfl rfl <| .p (opAnd (.t rfl) (.t rfl)) rfl <| .nil ?_)
    refine EndT.thenN ?_
    refine CodeT.cond (.t rfl) (fun c0 => ?_) (fun c0 => ?_)
    ·
      obtain ⟨y, hx⟩ := getElem?_lt (xs := x.Sigs) (k := s0.1) (by omega)
      have hy1 := hi0 s0.1 y hx
      refine CodeT.skip (EndT.thenN ?_)
      refine CodeT.seq ?_
      refine CodeT.block ?_
      refine CodeT.draw 19 1 Try.mixed (by kernel_rfl) (.p (opMove (.t rfl)) <| .p (opField Try.fd31_0 (.t rfl)) <| .p (opLoad Try.ag22 (.t rfl)) <| .p (opMove (.t rfl)) <| .p (opIndexAddr Try.underlying22 Try.cz52 rfl (.t rfl) (.t rfl) rfl (by assumption)) <| .p (opField Try.fd52_0 (.t rfl)) <| .p (opLoad Try.ag50 (.t rfl)) <| .p (opLen rfl Try.underlying50 (.t rfl)) <| .p (opField Try.fd31_0 (.t rfl)) <| .p (opLoad Try.ag22 (.t rfl)) <| .p (opMove (.t rfl)) <| .p (opIndexAddr Try.underlying22 Try.cz52 rfl (.t rfl) (.t rfl) rfl (by assumption)) <| .p (opField Try.fd52_1 (.t rfl)) <| .p (opLoad Try.ag50 (.t rfl)) <| .p (opLen rfl Try.underlying50 (.t rfl)) <| .p (opAddF (.t rfl) (.t rfl) (fits_i64 (by omega) (by omega))) <| .p (opSubF (.t rfl) (.c _) (fits_i64 (by omega) (by omega))) <| .p (opMax (.t rfl) (.c _)) <| .p (opAddF (.t rfl) (.t rfl) (fits_i64 (by omega) (by omega))) <| .nil) (.p (opAssign (.t rfl)) rfl <| .nil ?_)
      refine EndT.blkN (EndT.thenN ?_)
      refine CodeT.region (.p (opMove (.t rfl)) rfl <| .p (opAddF (.t rfl) (.c _) (fits_i64 (by omega) (by omega))) rfl <| .p (opAssign (.t rfl)) rfl <| .nil ?_)
      refine EndT.round (s0.1 + 1, s0.2 + max ((y.P.length : Int) + (y.R.length : Int) - 60) 0) ⟨by omega, by omega, by omega, by omega, fun h => ⟨(hs0 (by omega)).1, (hs0 (by omega)).2.succ hx (by omega)⟩⟩ (by omega) rfl ?_
      exact (.get rfl (VLe.int (by omega)) (.get rfl (VLe.int (by omega)) (.keep 34 rfl rfl)))
    ·
      refine CodeT.exit (EndT.thenX (EndT.thenX (EndT.blkX (EndT.thenN ?_))))
      refine CodeT.seq ?_
      refine CodeT.seq ?_
      refine CodeT.region (.p (opAssign (.c _)) rfl <| .nil ?_)
      refine EndT.thenN ?_
      refine CodeT.block ?_
      refine CodeT.loopO (σ := Nat × Int) (fun _ => []) (fun s1 => [(5, intV .i64 (s1.1 : Int)), (3, intV .i64 s1.2)]) (fun s1 => s1.1 ≤ x.Imports.length ∧ s1.1 ≤ 25 ∧ 0 ≤ s1.2 ∧ s1.2 ≤ (128 + (s1.1 : Int) * 2) * 281474976710656 ∧ (s1.2 ≤ 0 → ((CountM x) ∧ (∀ y ∈ x.Sigs, ¬ (60 < y.P.length + y.R.length))) ∧ NotB (fun y : ImportD => 100 < y.Module.length + y.Name.length) x.Imports s1.1)) (fun s1 => x.Imports.length - s1.1) (0, s0.2) ⟨by omega, by omega, by omega, by omega, fun h => ⟨⟨(hs0 h).1, (hs0 h).2.all (by have h9 := (hs0 h).1.sigs; omega)⟩, NotB.zero _ _⟩⟩ rfl ?_ ?_
      · exact (.get rfl (VLe.refl _) (.get rfl (VLe.refl _) (.refl _ _)))
      · rintro s1 ⟨hk1, hc1, hn1, hm1, hs1⟩
        refine CodeT.seq ?_
        refine CodeT.seq ?_
        refine CodeT.region (.p (opMove (.t rfl)) rfl <| .p (opField Try.fd31_1 (.t rfl)) rfl <| .p (opLoad Try.ag23 (.t rfl)) rfl <| .p (opLen rfl Try.underlying23 (.t rfl)) rfl <| .p (opLss (.t rfl) (.t rfl)) rfl <| .p (opMove (.t rfl)) rfl <| .g (OpG.gT rfl rfl rfl rfl (fun hg => opMove (.t rfl))) rfl rfl <| .g (OpG.gT rfl rfl rfl rfl (fun hg => opLss (.when (.t rfl) hg) (.c _))) rfl rfl <| .p (opAnd (.t rfl) (.t rfl)) rfl <| .nil ?_)
        refine EndT.thenN ?_
        refine CodeT.cond (.t rfl) (fun c1 => ?_) (fun c1 => ?_)
        ·
          obtain ⟨y, hx⟩ := getElem?_lt (xs := x.Imports) (k := s1.1) (by omega)
          have hy1 := hi1 s1.1 y hx
          refine CodeT.skip (EndT.thenN ?_)
          refine CodeT.seq ?_
          refine CodeT.block ?_
          refine CodeT.draw 19 1 Try.mixed (by kernel_rfl) (.p (opMove (.t rfl)) <| .p (opField Try.fd31_1 (.t rfl)) <| .p (opLoad Try.ag23 (.t rfl)) <| .p (opMove (.t rfl)) <| .p (opIndexAddr Try.underlying23 Try.cz62 rfl (.t rfl) (.t rfl) rfl (by assumption)) <| .p (opField Try.fd62_0 (.t rfl)) <| .p (opLoad Try.ag9 (.t rfl)) <| .p (opLenS rfl Try.underlying9 (.t rfl)) <| .p (opField Try.fd31_1 (.t rfl)) <| .p (opLoad Try.ag23 (.t rfl)) <| .p (opMove (.t rfl)) <| .p (opIndexAddr Try.underlying23 Try.cz62 rfl (.t rfl) (.t rfl) rfl (by assumption)) <| .p (opField Try.fd62_1 (.t rfl)) <| .p (opLoad Try.ag9 (.t rfl)) <| .p (opLenS rfl Try.underlying9 (.t rfl)) <| .p (opAddF (.t rfl) (.t rfl) (fits_i64 (by omega) (by omega))) <| .p (opSubF (.t rfl) (.c _) (fits_i64 (by omega) (by omega))) <| .p (opMax (.t rfl) (.c _)) <| .p (opAddF (.t rfl) (.t rfl) (fits_i64 (by omega) (by omega))) <| .nil) (.p (opAssign (.t rfl)) rfl <| .nil ?_)
          refine EndT.blkN (EndT.thenN ?_)
          refine CodeT.region (.p (opMove (.t rfl)) rfl <| .p (opAddF (.t rfl) (.c _) (fits_i64 (by omega) (by omega))) rfl <| .p (opAssign (.t rfl)) rfl <| .nil ?_)
          refine EndT.round (s1.1 + 1, s1.2 + max ((y.Module.length : Int) + (y.Name.length : Int) - 100) 0) ⟨by omega, by omega, by omega, by omega, fun h => ⟨(hs1 (by omega)).1, (hs1 (by omega)).2.succ hx (by omega)⟩⟩ (by omega) rfl ?_
          exact (.get rfl (VLe.int (by omega)) (.get rfl (VLe.int (by omega)) (.keep 34 rfl rfl)))
        ·
          refine CodeT.exit (EndT.thenX (EndT.thenX (EndT.blkX (EndT.thenN ?_))))
          refine CodeT.seq ?_
          refine CodeT.seq ?_
          refine CodeT.region (.p (opAssign (.c _)) rfl <| .nil ?_)
          refine EndT.thenN ?_
          refine CodeT.block ?_
          refine CodeT.loopO (σ := Nat × Int) (fun _ => []) (fun s2 => [(6, intV .i64 (s2.1 : Int)), (3, intV .i64 s2.2)]) (fun s2 => s2.1 ≤ x.Funcs.length ∧ s2.1 ≤ 110 ∧ 0 ≤ s2.2 ∧ s2.2 ≤ (178 + (s2.1 : Int) * 152) * 281474976710656 ∧ (s2.2 ≤ 0 → (((CountM x) ∧ (∀ y ∈ x.Sigs, ¬ (60 < y.P.length + y.R.length))) ∧ (∀ y ∈ x.Imports, ¬ (100 < y.Module.length + y.Name.length))) ∧ NotB (fun y : FuncD => ¬ SmallB y.Body) x.Funcs s2.1)) (fun s2 => x.Funcs.length - s2.1) (0, s1.2) ⟨by omega, by omega, by omega, by omega, fun h => ⟨⟨(hs1 h).1, (hs1 h).2.all (by have h9 := (hs1 h).1.1.imports; omega)⟩, NotB.zero _ _⟩⟩ rfl ?_ ?_
          · exact (.get rfl (VLe.refl _) (.get rfl (VLe.refl _) (.refl _ _)))
          · rintro s2 ⟨hk2, hc2, hn2, hm2, hs2⟩
            refine CodeT.seq ?_
            refine CodeT.seq ?_
            refine CodeT.region (.p (opMove (.t rfl)) rfl <| .p (opField Try.fd31_2 (.t rfl)) rfl <| .p (opLoad Try.ag24 (.t rfl)) rfl <| .p (opLen rfl Try.underlying24 (.t rfl)) rfl <| .p (opLss (.t rfl) (.t rfl)) rfl <| .p (opMove (.t rfl)) rfl <| .g (OpG.gT rfl rfl rfl rfl (fun hg => opMove (.t rfl))) rfl rfl <| .g (OpG.gT rfl rfl rfl rfl (fun hg => opLss (.when (.t rfl) hg) (.c _))) rfl rfl <| .p (opAnd (.t rfl) (.t rfl)) rfl <| .nil ?_)
            refine EndT.thenN ?_
            refine CodeT.cond (.t rfl) (fun c2 => ?_) (fun c2 => ?_)
            ·
              obtain ⟨y, hx⟩ := getElem?_lt (xs := x.Funcs) (k := s2.1) (by omega)
              refine CodeT.skip (EndT.thenN ?_)
              refine CodeT.seq ?_
              refine CodeT.block ?_
              refine CodeT.region (.p (opMove (.t rfl)) rfl <| .p (opField Try.fd31_2 (.t rfl)) rfl <| .p (opLoad Try.ag24 (.t rfl)) rfl <| .p (opMove (.t rfl)) rfl <| .p (opIndexAddr Try.underlying24 Try.cz67 rfl (.t rfl) (.t rfl) rfl (by assumption)) rfl <| .p (opField Try.fd67_1 (.t rfl)) rfl <| .p (opLoadA Try.ag65 Try.cz65 rfl (.t rfl) rfl) rfl <| .n (OpP.openX (opCall l12great_spec Try.cb24 (.cons (.t rfl) .nil))) rfl <| fun m135 hm135 => .p (opAddF (.t rfl) (.t rfl) (fits_i64 (by omega) (by omega))) rfl <| .p (opAssign (.t rfl)) rfl <| .nil ?_)
              refine EndT.blkN (EndT.thenN ?_)
              refine CodeT.region (.p (opMove (.t rfl)) rfl <| .p (opAddF (.t rfl) (.c _) (fits_i64 (by omega) (by omega))) rfl <| .p (opAssign (.t rfl)) rfl <| .nil ?_)
              refine EndT.round (s2.1 + 1, s2.2 + m135) ⟨by omega, by omega, by omega, by omega, fun h => ⟨(hs2 (by omega)).1, (hs2 (by omega)).2.succ hx (fun hb => hb (hm135.2.2 (by omega)))⟩⟩ (by omega) rfl ?_
              exact (.get rfl (VLe.int (by omega)) (.get rfl (VLe.int (by omega)) (.keep 24 rfl rfl)))
            ·
              refine CodeT.exit (EndT.thenX (EndT.thenX (EndT.blkX (EndT.thenN ?_))))
              refine CodeT.seq ?_
              refine CodeT.seq ?_
              refine CodeT.region (.p (opAssign (.c _)) rfl <| .nil ?_)
              refine EndT.thenN ?_
              refine CodeT.block ?_
              refine CodeT.loopO (σ := Nat × Int) (fun _ => []) (fun s3 => [(7, intV .i64 (s3.1 : Int)), (3, intV .i64 s3.2)]) (fun s3 => s3.1 ≤ x.Exports.length ∧ s3.1 ≤ 60 ∧ 0 ≤ s3.2 ∧ s3.2 ≤ (16898 + (s3.1 : Int) * 1) * 281474976710656 ∧ (s3.2 ≤ 0 → ((((CountM x) ∧ (∀ y ∈ x.Sigs, ¬ (60 < y.P.length + y.R.length))) ∧ (∀ y ∈ x.Imports, ¬ (100 < y.Module.length + y.Name.length))) ∧ (∀ y ∈ x.Funcs, ¬ (¬ SmallB y.Body))) ∧ NotB (fun y : ExportD => 60 < y.Name.length) x.Exports s3.1)) (fun s3 => x.Exports.length - s3.1) (0, s2.2) ⟨by omega, by omega, by omega, by omega, fun h => ⟨⟨(hs2 h).1, (hs2 h).2.all (by have h9 := (hs2 h).1.1.1.funcs; omega)⟩, NotB.zero _ _⟩⟩ rfl ?_ ?_
              · exact (.get rfl (VLe.refl _) (.get rfl (VLe.refl _) (.refl _ _)))
              · rintro s3 ⟨hk3, hc3, hn3, hm3, hs3⟩
                refine CodeT.seq ?_
                refine CodeT.seq ?_
                refine CodeT.region (.p (opMove (.t rfl)) rfl <| .p (opField Try.fd31_6 (.t rfl)) rfl <| .p (opLoad Try.ag27 (.t rfl)) rfl <| .p (opLen rfl Try.underlying27 (.t rfl)) rfl <| .p (opLss (.t rfl) (.t rfl)) rfl <| .p (opMove (.t rfl)) rfl <| .g (OpG.gT rfl rfl rfl rfl (fun hg => opMove (.t rfl))) rfl rfl <| .g (OpG.gT rfl rfl rfl rfl (fun hg => opLss (.when (.t rfl) hg) (.c _))) rfl rfl <| .p (opAnd (.t rfl) (.t rfl)) rfl <| .nil ?_)
                refine EndT.thenN ?_
                refine CodeT.cond (.t rfl) (fun c3 => ?_) (fun c3 => ?_)
                ·
                  obtain ⟨y, hx⟩ := getElem?_lt (xs := x.Exports) (k := s3.1) (by omega)
                  have hy1 := hi2 s3.1 y hx
                  refine CodeT.skip (EndT.thenN ?_)
                  refine CodeT.seq ?_
                  refine CodeT.block ?_
                  refine CodeT.region (.p (opMove (.t rfl)) rfl <| .p (opField Try.fd31_6 (.t rfl)) rfl <| .p (opLoad Try.ag27 (.t rfl)) rfl <| .p (opMove (.t rfl)) rfl <| .p (opIndexAddr Try.underlying27 Try.cz57 rfl (.t rfl) (.t rfl) rfl (by assumption)) rfl <| .p (opField Try.fd57_0 (.t rfl)) rfl <| .p (opLoad Try.ag9 (.t rfl)) rfl <| .p (opLenS rfl Try.underlying9 (.t rfl)) rfl <| .p (opSubF (.t rfl) (.c _) (fits_i64 (by omega) (by omega))) rfl <| .p (opMax (.t rfl) (.c _)) rfl <| .p (opAddF (.t rfl) (.t rfl) (fits_i64 (by omega) (by omega))) rfl <| .p (opAssign (.t rfl)) rfl <| .nil ?_)
                  refine EndT.blkN (EndT.thenN ?_)
                  refine CodeT.region (.p (opMove (.t rfl)) rfl <| .p (opAddF (.t rfl) (.c _) (fits_i64 (by omega) (by omega))) rfl <| .p (opAssign (.t rfl)) rfl <| .nil ?_)
                  refine EndT.round (s3.1 + 1, s3.2 + max ((y.Name.length : Int) - 60) 0) ⟨by omega, by omega, by omega, by omega, fun h => ⟨(hs3 (by omega)).1, (hs3 (by omega)).2.succ hx (by omega)⟩⟩ (by omega) rfl ?_
                  exact (.get rfl (VLe.int (by omega)) (.get rfl (VLe.int (by omega)) (.keep 26 rfl rfl)))
                ·
                  refine CodeT.exit (EndT.thenX (EndT.thenX (EndT.blkX (EndT.thenN ?_))))
                  refine CodeT.seq ?_
                  refine CodeT.seq ?_
                  refine CodeT.region (.p (opAssign (.c _)) rfl <| .nil ?_)
                  refine EndT.thenN ?_
                  refine CodeT.block ?_
                  refine CodeT.loopO (σ := Nat × Int) (fun _ => []) (fun s4 => [(8, intV .i64 (s4.1 : Int)), (3, intV .i64 s4.2)]) (fun s4 => s4.1 ≤ x.Elems.length ∧ s4.1 ≤ 25 ∧ 0 ≤ s4.2 ∧ s4.2 ≤ (16958 + (s4.1 : Int) * 1) * 281474976710656 ∧ (s4.2 ≤ 0 → (((((CountM x) ∧ (∀ y ∈ x.Sigs, ¬ (60 < y.P.length + y.R.length))) ∧ (∀ y ∈ x.Imports, ¬ (100 < y.Module.length + y.Name.length))) ∧ (∀ y ∈ x.Funcs, ¬ (¬ SmallB y.Body))) ∧ (∀ y ∈ x.Exports, ¬ (60 < y.Name.length))) ∧ NotB (fun y : ElemD => 30 < y.Funcs.length) x.Elems s4.1)) (fun s4 => x.Elems.length - s4.1) (0, s3.2) ⟨by omega, by omega, by omega, by omega, fun h => ⟨⟨(hs3 h).1, (hs3 h).2.all (by have h9 := (hs3 h).1.1.1.1.exports; omega)⟩, NotB.zero _ _⟩⟩ rfl ?_ ?_
                  · exact (.get rfl (VLe.refl _) (.get rfl (VLe.refl _) (.refl _ _)))
                  · rintro s4 ⟨hk4, hc4, hn4, hm4, hs4⟩
                    refine CodeT.seq ?_
                    refine CodeT.seq ?_
                    refine CodeT.region (.p (opMove (.t rfl)) rfl <| .p (opField Try.fd31_8 (.t rfl)) rfl <| .p (opLoad Try.ag28 (.t rfl)) rfl <| .p (opLen rfl Try.underlying28 (.t rfl)) rfl <| .p (opLss (.t rfl) (.t rfl)) rfl <| .p (opMove (.t rfl)) rfl <| .g (OpG.gT rfl rfl rfl rfl (fun hg => opMove (.t rfl))) rfl rfl <| .g (OpG.gT rfl rfl rfl rfl (fun hg => opLss (.when (.t rfl) hg) (.c _))) rfl rfl <| .p (opAnd (.t rfl) (.t rfl)) rfl <| .nil ?_)
                    refine EndT.thenN ?_
                    refine CodeT.cond (.t rfl) (fun c4 => ?_) (fun c4 => ?_)
                    ·
                      obtain ⟨y, hx⟩ := getElem?_lt (xs := x.Elems) (k := s4.1) (by omega)
                      have hy1 := hi3 s4.1 y hx
                      refine CodeT.skip (EndT.thenN ?_)
                      refine CodeT.seq ?_
                      refine CodeT.block ?_
                      refine CodeT.region (.p (opMove (.t rfl)) rfl <| .p (opField Try.fd31_8 (.t rfl)) rfl <| .p (opLoad Try.ag28 (.t rfl)) rfl <| .p (opMove (.t rfl)) rfl <| .p (opIndexAddr Try.underlying28 Try.cz86 rfl (.t rfl) (.t rfl) rfl (by assumption)) rfl <| .p (opField Try.fd86_1 (.t rfl)) rfl <| .p (opLoad Try.ag84 (.t rfl)) rfl <| .p (opLen rfl Try.underlying84 (.t rfl)) rfl <| .p (opSubF (.t rfl) (.c _) (fits_i64 (by omega) (by omega))) rfl <| .p (opMax (.t rfl) (.c _)) rfl <| .p (opAddF (.t rfl) (.t rfl) (fits_i64 (by omega) (by omega))) rfl <| .p (opAssign (.t rfl)) rfl <| .nil ?_)
                      refine EndT.blkN (EndT.thenN ?_)
                      refine CodeT.region (.p (opMove (.t rfl)) rfl <| .p (opAddF (.t rfl) (.c _) (fits_i64 (by omega) (by omega))) rfl <| .p (opAssign (.t rfl)) rfl <| .nil ?_)
                      refine EndT.round (s4.1 + 1, s4.2 + max ((y.Funcs.length : Int) - 30) 0) ⟨by omega, by omega, by omega, by omega, fun h => ⟨(hs4 (by omega)).1, (hs4 (by omega)).2.succ hx (by omega)⟩⟩ (by omega) rfl ?_
                      exact (.get rfl (VLe.int (by omega)) (.get rfl (VLe.int (by omega)) (.keep 26 rfl rfl)))
                    ·
                      refine CodeT.exit (EndT.thenX (EndT.thenX (EndT.blkX (EndT.thenN ?_))))
                      refine CodeT.seq ?_
                      refine CodeT.seq ?_
                      refine CodeT.region (.p (opAssign (.c _)) rfl <| .nil ?_)
                      refine EndT.thenN ?_
                      refine CodeT.block ?_
                      refine CodeT.loopO (σ := Nat × Int) (fun _ => []) (fun s5 => [(9, intV .i64 (s5.1 : Int)), (3, intV .i64 s5.2)]) (fun s5 => s5.1 ≤ x.Datas.length ∧ s5.1 ≤ 25 ∧ 0 ≤ s5.2 ∧ s5.2 ≤ (16983 + (s5.1 : Int) * 1) * 281474976710656 ∧ (s5.2 ≤ 0 → ((((((CountM x) ∧ (∀ y ∈ x.Sigs, ¬ (60 < y.P.length + y.R.length))) ∧ (∀ y ∈ x.Imports, ¬ (100 < y.Module.length + y.Name.length))) ∧ (∀ y ∈ x.Funcs, ¬ (¬ SmallB y.Body))) ∧ (∀ y ∈ x.Exports, ¬ (60 < y.Name.length))) ∧ (∀ y ∈ x.Elems, ¬ (30 < y.Funcs.length))) ∧ NotB (fun y : DataD => 4100 < y.Bytes.length) x.Datas s5.1)) (fun s5 => x.Datas.length - s5.1) (0, s4.2) ⟨by omega, by omega, by omega, by omega, fun h => ⟨⟨(hs4 h).1, (hs4 h).2.all (by have h9 := (hs4 h).1.1.1.1.1.elems; omega)⟩, NotB.zero _ _⟩⟩ rfl ?_ ?_
                      · exact (.get rfl (VLe.refl _) (.get rfl (VLe.refl _) (.refl _ _)))
                      · rintro s5 ⟨hk5, hc5, hn5, hm5, hs5⟩
                        refine CodeT.seq ?_
                        refine CodeT.seq ?_
                        refine CodeT.region (.p (opMove (.t rfl)) rfl <| .p (opField Try.fd31_9 (.t rfl)) rfl <| .p (opLoad Try.ag29 (.t rfl)) rfl <| .p (opLen rfl Try.underlying29 (.t rfl)) rfl <| .p (opLss (.t rfl) (.t rfl)) rfl <| .p (opMove (.t rfl)) rfl <| .g (OpG.gT rfl rfl rfl rfl (fun hg => opMove (.t rfl))) rfl rfl <| .g (OpG.gT rfl rfl rfl rfl (fun hg => opLss (.when (.t rfl) hg) (.c _))) rfl rfl <| .p (opAnd (.t rfl) (.t rfl)) rfl <| .nil ?_)
                        refine EndT.thenN ?_
                        refine CodeT.cond (.t rfl) (fun c5 => ?_) (fun c5 => ?_)
                        ·
                          obtain ⟨y, hx⟩ := getElem?_lt (xs := x.Datas) (k := s5.1) (by omega)
                          have hy1 := hi4 s5.1 y hx
                          refine CodeT.skip (EndT.thenN ?_)
                          refine CodeT.seq ?_
                          refine CodeT.block ?_
                          refine CodeT.region (.p (opMove (.t rfl)) rfl <| .p (opField Try.fd31_9 (.t rfl)) rfl <| .p (opLoad Try.ag29 (.t rfl)) rfl <| .p (opMove (.t rfl)) rfl <| .p (opIndexAddr Try.underlying29 Try.cz88 rfl (.t rfl) (.t rfl) rfl (by assumption)) rfl <| .p (opField Try.fd88_2 (.t rfl)) rfl <| .p (opLoad Try.ag50 (.t rfl)) rfl <| .p (opLen rfl Try.underlying50 (.t rfl)) rfl <| .p (opSubF (.t rfl) (.c _) (fits_i64 (by omega) (by omega))) rfl <| .p (opMax (.t rfl) (.c _)) rfl <| .p (opAddF (.t rfl) (.t rfl) (fits_i64 (by omega) (by omega))) rfl <| .p (opAssign (.t rfl)) rfl <| .nil ?_)
                          refine EndT.blkN (EndT.thenN ?_)
                          refine CodeT.region (.p (opMove (.t rfl)) rfl <| .p (opAddF (.t rfl) (.c _) (fits_i64 (by omega) (by omega))) rfl <| .p (opAssign (.t rfl)) rfl <| .nil ?_)
                          refine EndT.round (s5.1 + 1, s5.2 + max ((y.Bytes.length : Int) - 4100) 0) ⟨by omega, by omega, by omega, by omega, fun h => ⟨(hs5 (by omega)).1, (hs5 (by omega)).2.succ hx (by omega)⟩⟩ (by omega) rfl ?_
                          exact (.get rfl (VLe.int (by omega)) (.get rfl (VLe.int (by omega)) (.keep 26 rfl rfl)))
                        ·
                          refine CodeT.exit (EndT.thenX (EndT.thenX (EndT.blkX (EndT.thenN ?_))))
                          refine CodeT.seq ?_
                          refine CodeT.region (.p (opMove (.t rfl)) rfl <| .p (opAssign (.t rfl)) rfl <| .nil ?_)
                          refine EndT.thenN ?_
                          refine CodeT.ret (Post.retP rfl rfl ?_)
                          exact VLe.ex s5.2 (fun h => great_end (hs5 h) (fun h9 => by omega)) (VLe.refl _)

end Go.Proofs.Ytbiahdejccipaaa
