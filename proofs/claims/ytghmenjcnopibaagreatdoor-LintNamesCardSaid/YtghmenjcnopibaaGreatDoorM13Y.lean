/-
  Walks, printed by a program (gen.py) out of what its author says of each function.
-/
import Derived.Test.YtghmenjcnopibaaGreatDoorM13W
import Derived.Test.YtghmenjcnopibaaGreatDoorM13C
import Derived.Test.YtghmenjcnopibaaGreatDoorHlH
namespace Go.Proofs.YtghmenjcnopibaaGreatDoor
open Go.Hl Go.RowKit
set_option linter.unusedVariables false
set_option maxRecDepth 100000

theorem l09to_spec {l : List UInt8} (hp0 : l.length ≤ 65536) : FnP Tryz.prog 21 [sliceV 1 encU8 l] (sliceV 1 encU8 l) := by
  refine FnE.intro 19 Tryz.func21 rfl rfl rfl fun w0 S0 M => ?_
  refine CodeT.seq ?_
  refine CodeT.region (.p (opAssign (.c _)) rfl <| .nil ?_)
  refine EndT.thenN ?_
  refine CodeT.seq ?_
  refine CodeT.region (.p (opAssign (.c _)) rfl <| .nil ?_)
  refine EndT.thenN ?_
  refine CodeT.seq ?_
  refine CodeT.seq ?_
  refine CodeT.region (.p (opAssign (.c _)) rfl <| .nil ?_)
  refine EndT.thenN ?_
  refine CodeT.block ?_
  refine CodeT.ownNil 1 encU8 ?_
  refine CodeT.loopO (σ := Nat × SB) (fun s => [sliceH s.2 1 encU8 (l.take s.1)]) (fun s => [(3, exactV (sval s.2 (l.take s.1).length)), (4, intV .i64 (s.1 : Int))]) (fun s => s.1 ≤ l.length) (fun s => l.length - s.1) (0, none) (by simp) (by simp) ?_ ?_
  · exact (.get rfl (VLe.of_eq (by simp [sval])) (.get rfl (VLe.refl _) (.refl _ _)))
  · rintro s hk
    refine CodeT.seq ?_
    refine CodeT.seq ?_
    refine CodeT.region (.p (opMove (.t rfl)) rfl <| .p (opMove (.t rfl)) rfl <| .p (opLen rfl Tryz.underlying32 (.t rfl)) rfl <| .p (opLss (.t rfl) (.t rfl)) rfl <| .nil ?_)
    refine EndT.thenN ?_
    refine CodeT.cond (.t rfl) (fun c0 => ?_) (fun c0 => ?_)
    ·
      obtain ⟨x, hx⟩ := getElem?_lt (xs := l) (k := s.1) (by omega)
      refine CodeT.skip (EndT.thenN ?_)
      refine CodeT.seq ?_
      refine CodeT.block ?_
      refine CodeT.region (.p (opMove (.t rfl)) rfl <| .p (opMove (.t rfl)) rfl <| .p (opMove (.t rfl)) rfl <| .p (opIndexAddr Tryz.underlying32 Tryz.cz5 rfl (.t rfl) (.t rfl) rfl (by assumption)) rfl <| .p (opLoad Tryz.ag5 (.t rfl)) rfl <| .p (opBuildSlice (enc := encU8) [_] Tryz.underlying74 Tryz.cz70 rfl Tryz.zb70 rfl (.cons (.t rfl) .nil) rfl rfl rfl rfl rfl) rfl <| .n (opAppend (i := 0) Tryz.underlying74 Tryz.underlying74 Tryz.cz70 rfl Tryz.zb70 rfl Tryz.by70 (.t rfl) (.t rfl) rfl (by first | omega | (simp <;> omega)) (by first | omega | (simp <;> omega))) rfl <| fun g17 _ => .p (opAssign (.t rfl)) rfl <| .nil ?_)
      refine EndT.blkN (EndT.thenN ?_)
      refine CodeT.region (.p (opMove (.t rfl)) rfl <| .p (opAddF (.t rfl) (.c _) (fits_i64 (by omega) (by omega))) rfl <| .p (opAssign (.t rfl)) rfl <| .nil ?_)
      refine EndT.round (s.1 + 1, g17) (by omega) (by omega) (by simp only [take_snoc hx]; rfl) ?_
      exact (.get rfl (VLe.of_eq (by simp only [take_snoc hx])) (.get rfl (VLe.int (by omega)) (.keep 17 rfl rfl)))
    ·
      have hall : l.take s.1 = l := List.take_of_length_le (by omega)
      rw [hall]
      refine CodeT.shareS (n := 1) (enc := encU8) (i := 0) (t := 3) rfl rfl ?_
      refine CodeT.exit (EndT.thenX (EndT.thenX (EndT.blkX (EndT.thenN ?_))))
      refine CodeT.seq ?_
      refine CodeT.region (.p (opMove (.t rfl)) rfl <| .p (opAssign (.t rfl)) rfl <| .nil ?_)
      refine EndT.thenN ?_
      refine CodeT.ret (Post.retP rfl rfl ?_)
      first | exact VLe.refl _ | exact VLe.int (by omega) | exact VLe.prop (by omega) | exact VLe.prop (by simp_all) | exact VLe.prop (by simp; omega)

theorem l11to_spec {x : InstrD} (hp0 : x.L.length ≤ 65536) : FnP Tryz.prog 42 [aggV (encInstr x)] (aggV (encInstr x)) := by
  refine FnE.intro 16 Tryz.func42 rfl rfl rfl fun w0 S0 M => ?_
  refine CodeT.seq ?_
  refine CodeT.region (.p (opBoxA (.t rfl)) rfl <| .n (opAlloc Tryz.zb100) rfl <| fun b2 _ => .nil ?_)
  refine EndT.thenN ?_
  refine CodeT.seq ?_
  refine CodeT.draw 12 2 Tryz.mixed (by kernel_rfl) (.p (opField Tryz.fd39_0 (.t rfl)) <| .p (opLoad Tryz.ag3 (.t rfl)) <| .p (opField Tryz.fd39_1 (.t rfl)) <| .p (opLoad Tryz.ag36 (.t rfl)) <| .p (opField Tryz.fd39_2 (.t rfl)) <| .p (opLoad Tryz.ag36 (.t rfl)) <| .p (opField Tryz.fd39_3 (.t rfl)) <| .p (opLoad Tryz.ag3 (.t rfl)) <| .p (opBuildEmpty Tryz.underlying37 Tryz.cz36 rfl Tryz.zb36 rfl) <| .p (opField Tryz.fd39_4 (.t rfl)) <| .p (opLoad Tryz.ag37 (.t rfl)) <| .p (opAppendE Tryz.underlying37 Tryz.underlying37 Tryz.cz36 rfl Tryz.zb36 rfl Tryz.by36 (.t rfl) (.t rfl) (by omega)) <| .nil) (.p (opBuild Tryz.pl100 Tryz.zb100 (.cons (.t rfl) (.cons (.t rfl) (.cons (.t rfl) (.cons (.t rfl) (.cons (.t rfl) .nil))))) rfl) rfl <| .s (opStoreOA (i := 0) Tryz.cz100 rfl (.t rfl) (.t rfl) rfl rfl rfl) <| .nil ?_)
  refine EndT.thenN ?_
  refine CodeT.ret (Post.retR1 rfl () trivial (fun _ _ _ _ => trivial) (.ra (i := 0) Tryz.ag100 Tryz.cz100 rfl rfl rfl rfl) ?_)
  first | exact VLe.refl _ | exact VLe.int (by omega) | exact VLe.prop (by omega) | exact VLe.prop (by simp_all) | exact VLe.prop (by simp; omega)

theorem l12list_spec {l : List InstrD} (hp0 : l.length ≤ 65536) (hp1 : ∀ x ∈ l, x.L.length ≤ 65536) : FnP Tryz.prog 32 [sliceV 5 encInstr l] (sliceV 5 encInstr l) := by
  refine FnE.intro 20 Tryz.func32 rfl rfl rfl fun w0 S0 M => ?_
  refine CodeT.seq ?_
  refine CodeT.region (.p (opAssign (.c _)) rfl <| .nil ?_)
  refine EndT.thenN ?_
  refine CodeT.seq ?_
  refine CodeT.region (.p (opAssign (.c _)) rfl <| .nil ?_)
  refine EndT.thenN ?_
  refine CodeT.seq ?_
  refine CodeT.seq ?_
  refine CodeT.region (.p (opAssign (.c _)) rfl <| .nil ?_)
  refine EndT.thenN ?_
  refine CodeT.block ?_
  refine CodeT.ownNil 5 encInstr ?_
  refine CodeT.loopO (σ := Nat × SB) (fun s => [sliceH s.2 5 encInstr (l.take s.1)]) (fun s => [(3, exactV (sval s.2 (l.take s.1).length)), (4, intV .i64 (s.1 : Int))]) (fun s => s.1 ≤ l.length) (fun s => l.length - s.1) (0, none) (by simp) (by simp) ?_ ?_
  · exact (.get rfl (VLe.of_eq (by simp [sval])) (.get rfl (VLe.refl _) (.refl _ _)))
  · rintro s hk
    refine CodeT.seq ?_
    refine CodeT.seq ?_
    refine CodeT.region (.p (opMove (.t rfl)) rfl <| .p (opMove (.t rfl)) rfl <| .p (opLen rfl Tryz.underlying40 (.t rfl)) rfl <| .p (opLss (.t rfl) (.t rfl)) rfl <| .nil ?_)
    refine EndT.thenN ?_
    refine CodeT.cond (.t rfl) (fun c0 => ?_) (fun c0 => ?_)
    ·
      obtain ⟨x, hx⟩ := getElem?_lt (xs := l) (k := s.1) (by omega)
      have hxl := hp1 x (List.mem_of_getElem? hx)
      refine CodeT.skip (EndT.thenN ?_)
      refine CodeT.seq ?_
      refine CodeT.block ?_
      refine CodeT.region (.p (opMove (.t rfl)) rfl <| .p (opMove (.t rfl)) rfl <| .p (opMove (.t rfl)) rfl <| .p (opIndexAddr Tryz.underlying40 Tryz.cz39 rfl (.t rfl) (.t rfl) rfl (by assumption)) rfl <| .p (opLoadA Tryz.ag39 Tryz.cz39 rfl (.t rfl) rfl) rfl <| .p (opCall (l11to_spec (by first | assumption | omega)) Tryz.cb42 (.cons (.t rfl) .nil)) rfl <| .p (opBuildSlice (enc := encInstr) [_] Tryz.underlying78 Tryz.cz100 rfl Tryz.zb100 rfl (.cons (.t rfl) .nil) rfl rfl rfl rfl rfl) rfl <| .n (opAppend (i := 0) Tryz.underlying78 Tryz.underlying78 Tryz.cz100 rfl Tryz.zb100 rfl Tryz.by100 (.t rfl) (.t rfl) rfl (by first | omega | (simp <;> omega)) (by first | omega | (simp <;> omega))) rfl <| fun g18 _ => .p (opAssign (.t rfl)) rfl <| .nil ?_)
      refine EndT.blkN (EndT.thenN ?_)
      refine CodeT.region (.p (opMove (.t rfl)) rfl <| .p (opAddF (.t rfl) (.c _) (fits_i64 (by omega) (by omega))) rfl <| .p (opAssign (.t rfl)) rfl <| .nil ?_)
      refine EndT.round (s.1 + 1, g18) (by omega) (by omega) (by simp only [take_snoc hx]; rfl) ?_
      exact (.get rfl (VLe.of_eq (by simp only [take_snoc hx])) (.get rfl (VLe.int (by omega)) (.keep 18 rfl rfl)))
    ·
      have hall : l.take s.1 = l := List.take_of_length_le (by omega)
      rw [hall]
      refine CodeT.shareS (n := 5) (enc := encInstr) (i := 0) (t := 3) rfl rfl ?_
      refine CodeT.exit (EndT.thenX (EndT.thenX (EndT.blkX (EndT.thenN ?_))))
      refine CodeT.seq ?_
      refine CodeT.region (.p (opMove (.t rfl)) rfl <| .p (opAssign (.t rfl)) rfl <| .nil ?_)
      refine EndT.thenN ?_
      refine CodeT.ret (Post.retP rfl rfl ?_)
      first | exact VLe.refl _ | exact VLe.int (by omega) | exact VLe.prop (by omega) | exact VLe.prop (by simp_all) | exact VLe.prop (by simp; omega)

theorem l12to_spec {b : BodyD} (hp0 : SmallB b) : FnP Tryz.prog 22 [aggV (encBody b)] (aggV (encBody b)) := by
  refine FnE.intro 10 Tryz.func22 rfl rfl rfl fun w0 S0 M => ?_
  refine CodeT.seq ?_
  refine CodeT.region (.p (opBoxA (.t rfl)) rfl <| .n (opAlloc Tryz.zb80) rfl <| fun b2 _ => .nil ?_)
  refine EndT.thenN ?_
  refine CodeT.seq ?_
  refine CodeT.draw 5 3 Tryz.mixed (by kernel_rfl) (.p (opField Tryz.fd42_0 (.t rfl)) <| .p (opLoad Tryz.ag32 (.t rfl)) <| .p (opCall (l09to_spec (by have := hp0.locals; omega)) Tryz.cb21 (.cons (.t rfl) .nil)) <| .p (opField Tryz.fd42_1 (.t rfl)) <| .p (opLoad Tryz.ag40 (.t rfl)) <| .nil) (.p (opCall (l12list_spec (by have := hp0.l; omega) (fun x hx => by have := hp0.all x hx; omega)) Tryz.cb32 (.cons (.t rfl) .nil)) rfl <| .p (opBuild Tryz.pl80 Tryz.zb80 (.cons (.t rfl) (.cons (.t rfl) .nil)) rfl) rfl <| .s (opStoreOA (i := 0) Tryz.cz80 rfl (.t rfl) (.t rfl) rfl rfl rfl) <| .nil ?_)
  refine EndT.thenN ?_
  refine CodeT.ret (Post.retR1 rfl () trivial (fun _ _ _ _ => trivial) (.ra (i := 0) Tryz.ag80 Tryz.cz80 rfl rfl rfl rfl) ?_)
  first | exact VLe.refl _ | exact VLe.int (by omega) | exact VLe.prop (by omega) | exact VLe.prop (by simp_all) | exact VLe.prop (by simp; omega)

theorem l13to_spec {x : ModD} (hp0 : SmallM x) : FnP Tryz.prog 10 [aggV (encMod x)] (ptrV (encMod x)) := by
  refine FnE.intro 86 Tryz.func10 rfl rfl rfl fun w0 S0 M => ?_
  have hc1 := hp0.sigs
  have hc2 := hp0.funcs
  refine CodeT.seq ?_
  refine CodeT.region (.p (opBoxA (.t rfl)) rfl <| .p (opAssign (.c _)) rfl <| .nil ?_)
  refine EndT.thenN ?_
  refine CodeT.seq ?_
  refine CodeT.region (.p (opField Tryz.fd53_1 (.t rfl)) rfl <| .p (opLoad Tryz.ag46 (.t rfl)) rfl <| .p (opField Tryz.fd53_3 (.t rfl)) rfl <| .p (opLoad Tryz.ag3 (.t rfl)) rfl <| .p (opField Tryz.fd53_4 (.t rfl)) rfl <| .p (opLoad Tryz.ag47 (.t rfl)) rfl <| .p (opField Tryz.fd53_5 (.t rfl)) rfl <| .p (opLoad Tryz.ag48 (.t rfl)) rfl <| .p (opField Tryz.fd53_6 (.t rfl)) rfl <| .p (opLoad Tryz.ag49 (.t rfl)) rfl <| .p (opField Tryz.fd53_7 (.t rfl)) rfl <| .p (opLoad Tryz.ag3 (.t rfl)) rfl <| .p (opField Tryz.fd53_8 (.t rfl)) rfl <| .p (opLoad Tryz.ag50 (.t rfl)) rfl <| .p (opField Tryz.fd53_9 (.t rfl)) rfl <| .p (opLoad Tryz.ag51 (.t rfl)) rfl <| .p (opBuild Tryz.pl68 Tryz.zb68 (.cons (.t rfl) (.cons (.t rfl) (.cons (.t rfl) (.cons (.t rfl) (.cons (.t rfl) (.cons (.t rfl) (.cons (.t rfl) (.cons (.t rfl) .nil)))))))) rfl) rfl <| .n (opBoxOA (.t rfl)) rfl <| fun b23 _ => .p (opAssign (.t rfl)) rfl <| .nil ?_)
  refine EndT.thenN ?_
  refine CodeT.seq ?_
  refine CodeT.seq ?_
  refine CodeT.region (.p (opAssign (.c _)) rfl <| .nil ?_)
  refine EndT.thenN ?_
  refine CodeT.block ?_
  refine CodeT.ownNil 2 encSig ?_
  refine CodeT.loopO (σ := Nat × SB) (fun s => [sliceH s.2 2 encSig (x.Sigs.take s.1), cellsH b23 (toCells x (exactV (sval s.2 (x.Sigs.take s.1).length)) (exactV (.slice none 0 0)))]) (fun s => [(4, intV .i64 (s.1 : Int))]) (fun s => s.1 ≤ x.Sigs.length) (fun s => x.Sigs.length - s.1) (0, none) (by simp) rfl ?_ ?_
  · exact (.get rfl (VLe.refl _) (.refl _ _))
  · rintro s hk
    refine CodeT.seq ?_
    refine CodeT.seq ?_
    refine CodeT.region (.p (opMove (.t rfl)) rfl <| .p (opField Tryz.fd53_0 (.t rfl)) rfl <| .p (opLoad Tryz.ag35 (.t rfl)) rfl <| .p (opLen rfl Tryz.underlying35 (.t rfl)) rfl <| .p (opLss (.t rfl) (.t rfl)) rfl <| .nil ?_)
    refine EndT.thenN ?_
    refine CodeT.cond (.t rfl) (fun c0 => ?_) (fun c0 => ?_)
    ·
      obtain ⟨y, hx⟩ := getElem?_lt (xs := x.Sigs) (k := s.1) (by omega)
      refine CodeT.skip (EndT.thenN ?_)
      refine CodeT.seq ?_
      refine CodeT.block ?_
      refine CodeT.staged [(0, 0), (1, 0), (2, 0), (3, 0), (4, 1), (5, 0), (6, 0), (7, 0), (8, 0), (9, 0), (10, 0), (11, 0), (12, 0), (13, 0), (14, 0), (15, 0), (16, 0), (17, 0), (18, 0), (19, 0), (20, 0), (21, 2)] 22 3 Tryz.mixed (by kernel_rfl) (.p rfl (fun _ => opMove (.t rfl)) <| .p rfl (fun _ => opMove (.t rfl)) <| .p rfl (fun _ => opNilChkO (.t rfl)) <| .p rfl (fun _ => opFieldO Tryz.fd68_0 (.t rfl)) <| .o rfl (opLoadO (i := 1) Tryz.ag65 (.t rfl) rfl rfl) <| .p rfl (fun _ => opField Tryz.fd53_0 (.t rfl)) <| .p rfl (fun _ => opLoad Tryz.ag35 (.t rfl)) <| .p rfl (fun _ => opMove (.t rfl)) <| .p rfl (fun _ => opIndexAddr Tryz.underlying35 Tryz.cz34 rfl (.t rfl) (.t rfl) rfl (by assumption)) <| .p rfl (fun _ => opField Tryz.fd34_0 (.t rfl)) <| .p rfl (fun _ => opLoad Tryz.ag32 (.t rfl)) <| .p rfl (fun _ => opCall (l09to_spec (by have := hp0.sig y (List.mem_of_getElem? hx); omega)) Tryz.cb21 (.cons (.t rfl) .nil)) <| .p rfl (fun _ => opField Tryz.fd53_0 (.t rfl)) <| .p rfl (fun _ => opLoad Tryz.ag35 (.t rfl)) <| .p rfl (fun _ => opMove (.t rfl)) <| .p rfl (fun _ => opIndexAddr Tryz.underlying35 Tryz.cz34 rfl (.t rfl) (.t rfl) rfl (by assumption)) <| .p rfl (fun _ => opField Tryz.fd34_1 (.t rfl)) <| .p rfl (fun _ => opLoad Tryz.ag32 (.t rfl)) <| .p rfl (fun _ => opCall (l09to_spec (by have := hp0.sig y (List.mem_of_getElem? hx); omega)) Tryz.cb21 (.cons (.t rfl) .nil)) <| .p rfl (fun _ => opBuild Tryz.pl77 Tryz.zb77 (.cons (.t rfl) (.cons (.t rfl) .nil)) rfl) <| .p rfl (fun _ => opBuildSlice (enc := encSig) [y] Tryz.underlying65 Tryz.cz77 rfl Tryz.zb77 rfl (.cons (.t rfl) .nil) rfl rfl rfl rfl rfl) <| .e rfl (opAppend (i := 0) Tryz.underlying65 Tryz.underlying65 Tryz.cz77 rfl Tryz.zb77 rfl Tryz.by77 (.t rfl) (.t rfl) rfl (by first | omega | (simp <;> omega)) (by first | omega | (simp <;> omega))) <| fun g52 _ => .fin (.p (opNilChkO (.t rfl)) rfl <| .p (opFieldO Tryz.fd68_0 (.t rfl)) rfl <| .s (opStoreO (i := 1) Tryz.cz65 (.t rfl) (.t rfl) rfl rfl) <| .nil ?_))
      refine EndT.blkN (EndT.thenN ?_)
      refine CodeT.region (.p (opMove (.t rfl)) rfl <| .p (opAddF (.t rfl) (.c _) (fits_i64 (by omega) (by omega))) rfl <| .p (opAssign (.t rfl)) rfl <| .nil ?_)
      refine EndT.round (s.1 + 1, g52) (by omega) (by omega) (by simp only [take_snoc hx]; rfl) ?_
      exact (.get rfl (VLe.int (by omega)) (.keep 33 rfl rfl))
    ·
      have hall : x.Sigs.take s.1 = x.Sigs := List.take_of_length_le (by omega)
      rw [hall]
      refine CodeT.shareIn (n := 2) (enc := encSig) (i := 0) (j := 0) (f := 0) rfl rfl rfl ?_
      refine CodeT.exit (EndT.thenX (EndT.thenX (EndT.blkX (EndT.thenN ?_))))
      refine CodeT.seq ?_
      refine CodeT.seq ?_
      refine CodeT.region (.p (opAssign (.c _)) rfl <| .nil ?_)
      refine EndT.thenN ?_
      refine CodeT.block ?_
      refine CodeT.ownNil 3 encFunc ?_
      refine CodeT.loopO (σ := Nat × SB) (fun s => [sliceH s.2 3 encFunc (x.Funcs.take s.1), cellsH b23 (toCells x (sliceV 2 encSig x.Sigs) (exactV (sval s.2 (x.Funcs.take s.1).length)))]) (fun s => [(5, intV .i64 (s.1 : Int))]) (fun s => s.1 ≤ x.Funcs.length) (fun s => x.Funcs.length - s.1) (0, none) (by simp) rfl ?_ ?_
      · exact (.get rfl (VLe.refl _) (.refl _ _))
      · rintro s hk
        refine CodeT.seq ?_
        refine CodeT.seq ?_
        refine CodeT.region (.p (opMove (.t rfl)) rfl <| .p (opField Tryz.fd53_2 (.t rfl)) rfl <| .p (opLoad Tryz.ag45 (.t rfl)) rfl <| .p (opLen rfl Tryz.underlying45 (.t rfl)) rfl <| .p (opLss (.t rfl) (.t rfl)) rfl <| .nil ?_)
        refine EndT.thenN ?_
        refine CodeT.cond (.t rfl) (fun c1 => ?_) (fun c1 => ?_)
        ·
          obtain ⟨y, hx⟩ := getElem?_lt (xs := x.Funcs) (k := s.1) (by omega)
          refine CodeT.skip (EndT.thenN ?_)
          refine CodeT.seq ?_
          refine CodeT.block ?_
          refine CodeT.staged [(0, 0), (1, 0), (2, 0), (3, 0), (4, 1), (5, 0), (6, 0), (7, 0), (8, 0), (9, 0), (10, 0), (11, 0), (12, 0), (13, 0), (14, 0), (15, 0), (16, 0), (17, 0), (18, 0), (19, 0), (20, 2)] 21 3 Tryz.mixed (by kernel_rfl) (.p rfl (fun _ => opMove (.t rfl)) <| .p rfl (fun _ => opMove (.t rfl)) <| .p rfl (fun _ => opNilChkO (.t rfl)) <| .p rfl (fun _ => opFieldO Tryz.fd68_2 (.t rfl)) <| .o rfl (opLoadO (i := 1) Tryz.ag66 (.t rfl) rfl rfl) <| .p rfl (fun _ => opField Tryz.fd53_2 (.t rfl)) <| .p rfl (fun _ => opLoad Tryz.ag45 (.t rfl)) <| .p rfl (fun _ => opMove (.t rfl)) <| .p rfl (fun _ => opIndexAddr Tryz.underlying45 Tryz.cz44 rfl (.t rfl) (.t rfl) rfl (by assumption)) <| .p rfl (fun _ => opField Tryz.fd44_0 (.t rfl)) <| .p rfl (fun _ => opLoad Tryz.ag3 (.t rfl)) <| .p rfl (fun _ => opField Tryz.fd53_2 (.t rfl)) <| .p rfl (fun _ => opLoad Tryz.ag45 (.t rfl)) <| .p rfl (fun _ => opMove (.t rfl)) <| .p rfl (fun _ => opIndexAddr Tryz.underlying45 Tryz.cz44 rfl (.t rfl) (.t rfl) rfl (by assumption)) <| .p rfl (fun _ => opField Tryz.fd44_1 (.t rfl)) <| .p rfl (fun _ => opLoadA Tryz.ag42 Tryz.cz42 rfl (.t rfl) rfl) <| .p rfl (fun _ => opCall (l12to_spec (hp0.fn y (List.mem_of_getElem? hx))) Tryz.cb22 (.cons (.t rfl) .nil)) <| .p rfl (fun _ => opBuild Tryz.pl83 Tryz.zb83 (.cons (.t rfl) (.cons (.t rfl) .nil)) rfl) <| .p rfl (fun _ => opBuildSlice (enc := encFunc) [y] Tryz.underlying66 Tryz.cz83 rfl Tryz.zb83 rfl (.cons (.t rfl) .nil) rfl rfl rfl rfl rfl) <| .e rfl (opAppend (i := 0) Tryz.underlying66 Tryz.underlying66 Tryz.cz83 rfl Tryz.zb83 rfl Tryz.by83 (.t rfl) (.t rfl) rfl (by first | omega | (simp <;> omega)) (by first | omega | (simp <;> omega))) <| fun g82 _ => .fin (.p (opNilChkO (.t rfl)) rfl <| .p (opFieldO Tryz.fd68_2 (.t rfl)) rfl <| .s (opStoreO (i := 1) Tryz.cz66 (.t rfl) (.t rfl) rfl rfl) <| .nil ?_))
          refine EndT.blkN (EndT.thenN ?_)
          refine CodeT.region (.p (opMove (.t rfl)) rfl <| .p (opAddF (.t rfl) (.c _) (fits_i64 (by omega) (by omega))) rfl <| .p (opAssign (.t rfl)) rfl <| .nil ?_)
          refine EndT.round (s.1 + 1, g82) (by omega) (by omega) (by simp only [take_snoc hx]; rfl) ?_
          exact (.get rfl (VLe.int (by omega)) (.keep 32 rfl rfl))
        ·
          have hall : x.Funcs.take s.1 = x.Funcs := List.take_of_length_le (by omega)
          rw [hall]
          refine CodeT.shareIn (n := 3) (enc := encFunc) (i := 0) (j := 0) (f := 2) rfl rfl rfl ?_
          refine CodeT.share (t := 3) (i := 0) rfl rfl ?_
          refine CodeT.exit (EndT.thenX (EndT.thenX (EndT.blkX (EndT.thenN ?_))))
          refine CodeT.seq ?_
          refine CodeT.region (.p (opMove (.t rfl)) rfl <| .p (opAssign (.t rfl)) rfl <| .nil ?_)
          refine EndT.thenN ?_
          refine CodeT.ret (Post.retP rfl rfl ?_)
          first | exact VLe.refl _ | exact VLe.int (by omega) | exact VLe.prop (by omega) | exact VLe.prop (by simp_all) | exact VLe.prop (by simp; omega)

end Go.Proofs.YtghmenjcnopibaaGreatDoor
