/-
  Walks, printed by a program (gen.py) out of what its author says of each function.
-/
import Derived.Test.YtgmpadhfgohodaaDoorTab
import Derived.Test.YtgmpadhfgohodaaDoorM13C
import Derived.Test.YtgmpadhfgohodaaDoorHlH
namespace Go.Proofs.YtgmpadhfgohodaaDoor
open Go.Hl Go.RowKit
set_option linter.unusedVariables false
set_option maxRecDepth 100000

theorem l12great_spec {b : BodyD} : FnP Tryd.prog 4 [aggV (encBody b)] (intV .i64 (greatB b)) := by
  refine FnE.intro 39 Tryd.func4 rfl rfl rfl fun w0 S0 M => ?_
  refine CodeT.fact (t := 0) rfl (fun S w v h => bodyLens h) fun hlen => ?_
  have hl1 := hlen.locals
  have hl2 := hlen.l
  refine CodeT.seq ?_
  refine CodeT.region (.p (opBoxA (.t rfl)) rfl <| .p (opAssign (.c _)) rfl <| .nil ?_)
  refine EndT.thenN ?_
  refine CodeT.seq ?_
  refine CodeT.region (.p (opField Tryd.fd26_0 (.t rfl)) rfl <| .p (opLoad Tryd.ag24 (.t rfl)) rfl <| .p (opLen rfl Tryd.underlying24 (.t rfl)) rfl <| .p (opSubF (.t rfl) (.c _) (fits_i64 (by omega) (by omega))) rfl <| .p (opMax (.t rfl) (.c _)) rfl <| .p (opField Tryd.fd26_1 (.t rfl)) rfl <| .p (opLoad Tryd.ag22 (.t rfl)) rfl <| .p (opLen rfl Tryd.underlying22 (.t rfl)) rfl <| .p (opSubF (.t rfl) (.c _) (fits_i64 (by omega) (by omega))) rfl <| .p (opMax (.t rfl) (.c _)) rfl <| .p (opAddF (.t rfl) (.t rfl) (fits_i64 (by omega) (by omega))) rfl <| .p (opAssign (.t rfl)) rfl <| .nil ?_)
  refine EndT.thenN ?_
  refine CodeT.seq ?_
  refine CodeT.seq ?_
  refine CodeT.region (.p (opAssign (.c _)) rfl <| .nil ?_)
  refine EndT.thenN ?_
  refine CodeT.block ?_
  refine CodeT.loopO (σ := Nat) (fun _ => []) (fun k => [(4, intV .i64 (k : Int)), (3, intV .i64 (max ((b.Locals.length : Int) - 60) 0 + max ((b.L.length : Int) - 150) 0 + sumN (onI b.L gInstr) k))]) (fun k => k ≤ b.L.length ∧ k ≤ 150) (fun k => b.L.length - k) 0 ⟨by omega, by omega⟩ rfl ?_ ?_
  · exact (.get rfl (VLe.refl _) (.get rfl (VLe.int (by simp [sumN])) (.refl _ _)))
  · rintro k ⟨hk, hk2⟩
    have hq := addN_part (by omega) (gInstr_le hlen) k
    refine CodeT.seq ?_
    refine CodeT.seq ?_
    refine CodeT.region (.p (opMove (.t rfl)) rfl <| .p (opField Tryd.fd26_1 (.t rfl)) rfl <| .p (opLoad Tryd.ag22 (.t rfl)) rfl <| .p (opLen rfl Tryd.underlying22 (.t rfl)) rfl <| .p (opLss (.t rfl) (.t rfl)) rfl <| .p (opMove (.t rfl)) rfl <| .g (OpG.gT rfl rfl rfl rfl (fun hg => opMove (.t rfl))) rfl rfl <| .g (OpG.gT rfl rfl rfl rfl (fun hg => opLss (.when (.t rfl) hg) (.c _))) rfl rfl <| .p (opAnd (.t rfl) (.t rfl)) rfl <| .nil ?_)
    refine EndT.thenN ?_
    refine CodeT.cond (.t rfl) (fun c0 => ?_) (fun c0 => ?_)
    ·
      obtain ⟨x, hx⟩ := getElem?_lt (xs := b.L) (k := k) (by omega)
      have hxl := hlen.all k x hx
      refine CodeT.skip (EndT.thenN ?_)
      refine CodeT.seq ?_
      refine CodeT.block ?_
      refine CodeT.region (.p (opMove (.t rfl)) rfl <| .p (opField Tryd.fd26_1 (.t rfl)) rfl <| .p (opLoad Tryd.ag22 (.t rfl)) rfl <| .p (opMove (.t rfl)) rfl <| .p (opIndexAddr Tryd.underlying22 Tryd.cz40 rfl (.t rfl) (.t rfl) rfl (by assumption)) rfl <| .p (opField Tryd.fd40_4 (.t rfl)) rfl <| .p (opLoad Tryd.ag38 (.t rfl)) rfl <| .p (opLen rfl Tryd.underlying38 (.t rfl)) rfl <| .p (opSubF (.t rfl) (.c _) (fits_i64 (by omega) (by omega))) rfl <| .p (opMax (.t rfl) (.c _)) rfl <| .p (opAddF (.t rfl) (.t rfl) (fits_i64 (by omega) (by omega))) rfl <| .p (opAssign (.t rfl)) rfl <| .nil ?_)
      refine EndT.blkN (EndT.thenN ?_)
      refine CodeT.region (.p (opMove (.t rfl)) rfl <| .p (opAddF (.t rfl) (.c _) (fits_i64 (by omega) (by omega))) rfl <| .p (opAssign (.t rfl)) rfl <| .nil ?_)
      refine EndT.round (k + 1) ⟨by omega, by omega⟩ (by omega) rfl ?_
      exact (.get rfl (VLe.int (by omega)) (.get rfl (VLe.int (by rw [sumN_at hx]; unfold gInstr; omega)) (.keep 26 rfl rfl)))
    ·
      refine CodeT.exit (EndT.thenX (EndT.thenX (EndT.blkX (EndT.thenN ?_))))
      refine CodeT.seq ?_
      refine CodeT.region (.p (opMove (.t rfl)) rfl <| .p (opAssign (.t rfl)) rfl <| .nil ?_)
      refine EndT.thenN ?_
      refine CodeT.ret (Post.retP rfl rfl ?_)
      exact VLe.int (by unfold greatB addN; rw [show min b.L.length 150 = k by omega])

theorem l11to_spec {x : InstrD} (hp0 : x.L.length ≤ 65536) : FnP Tryd.prog 19 [aggV (encInstr x)] (aggV (encInstr x)) := by
  refine FnE.intro 16 Tryd.func19 rfl rfl rfl fun w0 S0 M => ?_
  refine CodeT.seq ?_
  refine CodeT.region (.p (opBoxA (.t rfl)) rfl <| .n (opAlloc Tryd.zb41) rfl <| fun b2 _ => .nil ?_)
  refine EndT.thenN ?_
  refine CodeT.seq ?_
  refine CodeT.draw 12 2 Tryd.mixed (by kernel_rfl) (.p (opField Tryd.fd40_0 (.t rfl)) <| .p (opLoad Tryd.ag3 (.t rfl)) <| .p (opField Tryd.fd40_1 (.t rfl)) <| .p (opLoad Tryd.ag37 (.t rfl)) <| .p (opField Tryd.fd40_2 (.t rfl)) <| .p (opLoad Tryd.ag37 (.t rfl)) <| .p (opField Tryd.fd40_3 (.t rfl)) <| .p (opLoad Tryd.ag3 (.t rfl)) <| .p (opBuildEmpty Tryd.underlying38 Tryd.cz37 rfl Tryd.zb37 rfl) <| .p (opField Tryd.fd40_4 (.t rfl)) <| .p (opLoad Tryd.ag38 (.t rfl)) <| .p (opAppendE Tryd.underlying38 Tryd.underlying38 Tryd.cz37 rfl Tryd.zb37 rfl Tryd.by37 (.t rfl) (.t rfl) (by omega)) <| .nil) (.p (opBuild Tryd.pl41 Tryd.zb41 (.cons (.t rfl) (.cons (.t rfl) (.cons (.t rfl) (.cons (.t rfl) (.cons (.t rfl) .nil))))) rfl) rfl <| .s (opStoreOA (i := 0) Tryd.cz41 rfl (.t rfl) (.t rfl) rfl rfl rfl) <| .nil ?_)
  refine EndT.thenN ?_
  refine CodeT.ret (Post.retR1 rfl () trivial (fun _ _ _ _ => trivial) (.ra (i := 0) Tryd.ag41 Tryd.cz41 rfl rfl rfl rfl) ?_)
  first | exact VLe.refl _ | exact VLe.int (by omega) | exact VLe.prop (by omega) | exact VLe.prop (by simp_all) | exact VLe.prop (by simp; omega)

theorem l12list_spec {l : List InstrD} (hp0 : l.length ≤ 65536) (hp1 : ∀ x ∈ l, x.L.length ≤ 65536) : FnP Tryd.prog 7 [sliceV 5 encInstr l] (sliceV 5 encInstr l) := by
  refine FnE.intro 20 Tryd.func7 rfl rfl rfl fun w0 S0 M => ?_
  refine CodeT.seq ?_
  refine CodeT.region (.p (opAssign (.c _)) rfl <| .nil ?_)
  refine EndT.thenN ?_
  refine CodeT.seq ?_
  refine CodeT.region (.p (opAssign (.c _)) rfl <| .nil ?_)
  refine EndT.thenN ?_
  refine CodeT.seq ?_
  refine CodeT.seq ?_
  refine CodeT.region (.p (opAssign (.c _)) rfl <| .nil ?_)
  refine EndT.thenN ?_
  refine CodeT.block ?_
  refine CodeT.ownNil 5 encInstr ?_
  refine CodeT.loopO (σ := Nat × SB) (fun s => [sliceH s.2 5 encInstr (l.take s.1)]) (fun s => [(3, exactV (sval s.2 (l.take s.1).length)), (4, intV .i64 (s.1 : Int))]) (fun s => s.1 ≤ l.length) (fun s => l.length - s.1) (0, none) (by simp) (by simp) ?_ ?_
  · exact (.get rfl (VLe.of_eq (by simp [sval])) (.get rfl (VLe.refl _) (.refl _ _)))
  · rintro s hk
    refine CodeT.seq ?_
    refine CodeT.seq ?_
    refine CodeT.region (.p (opMove (.t rfl)) rfl <| .p (opMove (.t rfl)) rfl <| .p (opLen rfl Tryd.underlying22 (.t rfl)) rfl <| .p (opLss (.t rfl) (.t rfl)) rfl <| .nil ?_)
    refine EndT.thenN ?_
    refine CodeT.cond (.t rfl) (fun c0 => ?_) (fun c0 => ?_)
    ·
      obtain ⟨x, hx⟩ := getElem?_lt (xs := l) (k := s.1) (by omega)
      have hxl := hp1 x (List.mem_of_getElem? hx)
      refine CodeT.skip (EndT.thenN ?_)
      refine CodeT.seq ?_
      refine CodeT.block ?_
      refine CodeT.region (.p (opMove (.t rfl)) rfl <| .p (opMove (.t rfl)) rfl <| .p (opMove (.t rfl)) rfl <| .p (opIndexAddr Tryd.underlying22 Tryd.cz40 rfl (.t rfl) (.t rfl) rfl (by assumption)) rfl <| .p (opLoadA Tryd.ag40 Tryd.cz40 rfl (.t rfl) rfl) rfl <| .p (opCall (l11to_spec (by first | assumption | omega)) Tryd.cb19 (.cons (.t rfl) .nil)) rfl <| .p (opBuildSlice (enc := encInstr) [_] Tryd.underlying28 Tryd.cz41 rfl Tryd.zb41 rfl (.cons (.t rfl) .nil) rfl rfl rfl rfl rfl) rfl <| .n (opAppend (i := 0) Tryd.underlying28 Tryd.underlying28 Tryd.cz41 rfl Tryd.zb41 rfl Tryd.by41 (.t rfl) (.t rfl) rfl (by first | omega | (simp <;> omega)) (by first | omega | (simp <;> omega))) rfl <| fun g18 _ => .p (opAssign (.t rfl)) rfl <| .nil ?_)
      refine EndT.blkN (EndT.thenN ?_)
      refine CodeT.region (.p (opMove (.t rfl)) rfl <| .p (opAddF (.t rfl) (.c _) (fits_i64 (by omega) (by omega))) rfl <| .p (opAssign (.t rfl)) rfl <| .nil ?_)
      refine EndT.round (s.1 + 1, g18) (by omega) (by omega) (by simp only [take_snoc hx]; rfl) ?_
      exact (.get rfl (VLe.of_eq (by simp only [take_snoc hx])) (.get rfl (VLe.int (by omega)) (.keep 18 rfl rfl)))
    ·
      have hall : l.take s.1 = l := List.take_of_length_le (by omega)
      rw [hall]
      refine CodeT.shareS (n := 5) (enc := encInstr) (i := 0) (t := 3) rfl rfl ?_
      refine CodeT.exit (EndT.thenX (EndT.thenX (EndT.blkX (EndT.thenN ?_))))
      refine CodeT.seq ?_
      refine CodeT.region (.p (opMove (.t rfl)) rfl <| .p (opAssign (.t rfl)) rfl <| .nil ?_)
      refine EndT.thenN ?_
      refine CodeT.ret (Post.retP rfl rfl ?_)
      first | exact VLe.refl _ | exact VLe.int (by omega) | exact VLe.prop (by omega) | exact VLe.prop (by simp_all) | exact VLe.prop (by simp; omega)

end Go.Proofs.YtgmpadhfgohodaaDoor
