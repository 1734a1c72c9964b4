/-
  Walks, printed by a program (gen.py) out of what its author says of each function.
-/
import Derived.Test.YtbiahdejccipaaaM13W
import Derived.Test.YtbiahdejccipaaaM13C
import Derived.Test.YtbiahdejccipaaaHlH
namespace Go.Proofs.Ytbiahdejccipaaa
open Go.Hl Go.RowKit
set_option linter.unusedVariables false
set_option maxRecDepth 100000

theorem l09to_spec {l : List UInt8} (hp0 : l.length ≤ 65536) : FnP Try.prog 19 [sliceV 1 encU8 l] (sliceV 1 encU8 l) := by
  refine FnE.intro 19 Try.func19 rfl rfl rfl fun w0 S0 M => ?_
  refine CodeT.seq ?_
  refine CodeT.region (.p (opAssign (.c _)) rfl <| .nil ?_)
  refine EndT.thenN ?_
  refine CodeT.seq ?_
  refine CodeT.region (.p (opAssign (.c _)) rfl <| .nil ?_)
  refine EndT.thenN ?_
  refine CodeT.seq ?_
  refine CodeT.seq ?_
  refine CodeT.region (.p (opAssign (.c _)) rfl <| .nil ?_)
  refine EndT.thenN ?_
  refine CodeT.block ?_
  refine CodeT.ownNil 1 encU8 ?_
  refine CodeT.loopO (σ := Nat × SB) (fun s => [sliceH s.2 1 encU8 (l.take s.1)]) (fun s => [(3, exactV (sval s.2 (l.take s.1).length)), (4, intV .i64 (s.1 : Int))]) (fun s => s.1 ≤ l.length) (fun s => l.length - s.1) (0, none) (by simp) (by simp) ?_ ?_
  · exact (.get rfl (VLe.of_eq (by simp [sval])) (.get rfl (VLe.refl _) (.refl _ _)))
  · rintro s hk
    refine CodeT.seq ?_
    refine CodeT.seq ?_
    refine CodeT.region (.p (opMove (.t rfl)) rfl <| .p (opMove (.t rfl)) rfl <| .p (opLen rfl Try.underlying50 (.t rfl)) rfl <| .p (opLss (.t rfl) (.t rfl)) rfl <| .nil ?_)
    refine EndT.thenN ?_
    refine CodeT.cond (.t rfl) (fun c0 => ?_) (fun c0 => ?_)
    ·
      obtain ⟨x, hx⟩ := getElem?_lt (xs := l) (k := s.1) (by omega)
      refine CodeT.skip (EndT.thenN ?_)
      refine CodeT.seq ?_
      refine CodeT.block ?_
      refine CodeT.region (.p (opMove (.t rfl)) rfl <| .p (opMove (.t rfl)) rfl <| .p (opMove (.t rfl)) rfl <| .p (opIndexAddr Try.underlying50 Try.cz5 rfl (.t rfl) (.t rfl) rfl (by assumption)) rfl <| .p (opLoad Try.ag5 (.t rfl)) rfl <| .p (opBuildSlice (enc := encU8) [_] Try.underlying44 Try.cz80 rfl Try.zb80 rfl (.cons (.t rfl) .nil) rfl rfl rfl rfl rfl) rfl <| .n (opAppend (i := 0) Try.underlying44 Try.underlying44 Try.cz80 rfl Try.zb80 rfl Try.by80 (.t rfl) (.t rfl) rfl (by first | omega | (simp <;> omega)) (by first | omega | (simp <;> omega))) rfl <| fun g17 _ => .p (opAssign (.t rfl)) rfl <| .nil ?_)
      refine EndT.blkN (EndT.thenN ?_)
      refine CodeT.region (.p (opMove (.t rfl)) rfl <| .p (opAddF (.t rfl) (.c _) (fits_i64 (by omega) (by omega))) rfl <| .p (opAssign (.t rfl)) rfl <| .nil ?_)
      refine EndT.round (s.1 + 1, g17) (by omega) (by omega) (by simp only [take_snoc hx]; rfl) ?_
      exact (.get rfl (VLe.of_eq (by simp only [take_snoc hx])) (.get rfl (VLe.int (by omega)) (.keep 17 rfl rfl)))
    ·
      have hall : l.take s.1 = l := List.take_of_length_le (by omega)
      rw [hall]
      refine CodeT.shareS (n := 1) (enc := encU8) (i := 0) (t := 3) rfl rfl ?_
      refine CodeT.exit (EndT.thenX (EndT.thenX (EndT.blkX (EndT.thenN ?_))))
      refine CodeT.seq ?_
      refine CodeT.region (.p (opMove (.t rfl)) rfl <| .p (opAssign (.t rfl)) rfl <| .nil ?_)
      refine EndT.thenN ?_
      refine CodeT.ret (Post.retP rfl rfl ?_)
      first | exact VLe.refl _ | exact VLe.int (by omega) | exact VLe.prop (by omega) | exact VLe.prop (by simp_all) | exact VLe.prop (by simp; omega)

theorem l11to_spec {x : InstrD} (hp0 : x.L.length ≤ 65536) : FnP Try.prog 76 [aggV (encInstr x)] (aggV (encInstr x)) := by
  refine FnE.intro 16 Try.func76 rfl rfl rfl fun w0 S0 M => ?_
  refine CodeT.seq ?_
  refine CodeT.region (.p (opBoxA (.t rfl)) rfl <| .n (opAlloc Try.zb106) rfl <| fun b2 _ => .nil ?_)
  refine EndT.thenN ?_
  refine CodeT.seq ?_
  refine CodeT.draw 12 2 Try.mixed (by kernel_rfl) (.p (opField Try.fd121_0 (.t rfl)) <| .p (opLoad Try.ag3 (.t rfl)) <| .p (opField Try.fd121_1 (.t rfl)) <| .p (opLoad Try.ag81 (.t rfl)) <| .p (opField Try.fd121_2 (.t rfl)) <| .p (opLoad Try.ag81 (.t rfl)) <| .p (opField Try.fd121_3 (.t rfl)) <| .p (opLoad Try.ag3 (.t rfl)) <| .p (opBuildEmpty Try.underlying104 Try.cz81 rfl Try.zb81 rfl) <| .p (opField Try.fd121_4 (.t rfl)) <| .p (opLoad Try.ag104 (.t rfl)) <| .p (opAppendE Try.underlying104 Try.underlying104 Try.cz81 rfl Try.zb81 rfl Try.by81 (.t rfl) (.t rfl) (by omega)) <| .nil) (.p (opBuild Try.pl106 Try.zb106 (.cons (.t rfl) (.cons (.t rfl) (.cons (.t rfl) (.cons (.t rfl) (.cons (.t rfl) .nil))))) rfl) rfl <| .s (opStoreOA (i := 0) Try.cz106 rfl (.t rfl) (.t rfl) rfl rfl rfl) <| .nil ?_)
  refine EndT.thenN ?_
  refine CodeT.ret (Post.retR1 rfl () trivial (fun _ _ _ _ => trivial) (.ra (i := 0) Try.ag106 Try.cz106 rfl rfl rfl rfl) ?_)
  first | exact VLe.refl _ | exact VLe.int (by omega) | exact VLe.prop (by omega) | exact VLe.prop (by simp_all) | exact VLe.prop (by simp; omega)

theorem l12list_spec {l : List InstrD} (hp0 : l.length ≤ 65536) (hp1 : ∀ x ∈ l, x.L.length ≤ 65536) : FnP Try.prog 55 [sliceV 5 encInstr l] (sliceV 5 encInstr l) := by
  refine FnE.intro 20 Try.func55 rfl rfl rfl fun w0 S0 M => ?_
  refine CodeT.seq ?_
  refine CodeT.region (.p (opAssign (.c _)) rfl <| .nil ?_)
  refine EndT.thenN ?_
  refine CodeT.seq ?_
  refine CodeT.region (.p (opAssign (.c _)) rfl <| .nil ?_)
  refine EndT.thenN ?_
  refine CodeT.seq ?_
  refine CodeT.seq ?_
  refine CodeT.region (.p (opAssign (.c _)) rfl <| .nil ?_)
  refine EndT.thenN ?_
  refine CodeT.block ?_
  refine CodeT.ownNil 5 encInstr ?_
  refine CodeT.loopO (σ := Nat × SB) (fun s => [sliceH s.2 5 encInstr (l.take s.1)]) (fun s => [(3, exactV (sval s.2 (l.take s.1).length)), (4, intV .i64 (s.1 : Int))]) (fun s => s.1 ≤ l.length) (fun s => l.length - s.1) (0, none) (by simp) (by simp) ?_ ?_
  · exact (.get rfl (VLe.of_eq (by simp [sval])) (.get rfl (VLe.refl _) (.refl _ _)))
  · rintro s hk
    refine CodeT.seq ?_
    refine CodeT.seq ?_
    refine CodeT.region (.p (opMove (.t rfl)) rfl <| .p (opMove (.t rfl)) rfl <| .p (opLen rfl Try.underlying63 (.t rfl)) rfl <| .p (opLss (.t rfl) (.t rfl)) rfl <| .nil ?_)
    refine EndT.thenN ?_
    refine CodeT.cond (.t rfl) (fun c0 => ?_) (fun c0 => ?_)
    ·
      obtain ⟨x, hx⟩ := getElem?_lt (xs := l) (k := s.1) (by omega)
      have hxl := hp1 x (List.mem_of_getElem? hx)
      refine CodeT.skip (EndT.thenN ?_)
      refine CodeT.seq ?_
      refine CodeT.block ?_
      refine CodeT.region (.p (opMove (.t rfl)) rfl <| .p (opMove (.t rfl)) rfl <| .p (opMove (.t rfl)) rfl <| .p (opIndexAddr Try.underlying63 Try.cz121 rfl (.t rfl) (.t rfl) rfl (by assumption)) rfl <| .p (opLoadA Try.ag121 Try.cz121 rfl (.t rfl) rfl) rfl <| .p (opCall (l11to_spec (by first | assumption | omega)) Try.cb76 (.cons (.t rfl) .nil)) rfl <| .p (opBuildSlice (enc := encInstr) [_] Try.underlying69 Try.cz106 rfl Try.zb106 rfl (.cons (.t rfl) .nil) rfl rfl rfl rfl rfl) rfl <| .n (opAppend (i := 0) Try.underlying69 Try.underlying69 Try.cz106 rfl Try.zb106 rfl Try.by106 (.t rfl) (.t rfl) rfl (by first | omega | (simp <;> omega)) (by first | omega | (simp <;> omega))) rfl <| fun g18 _ => .p (opAssign (.t rfl)) rfl <| .nil ?_)
      refine EndT.blkN (EndT.thenN ?_)
      refine CodeT.region (.p (opMove (.t rfl)) rfl <| .p (opAddF (.t rfl) (.c _) (fits_i64 (by omega) (by omega))) rfl <| .p (opAssign (.t rfl)) rfl <| .nil ?_)
      refine EndT.round (s.1 + 1, g18) (by omega) (by omega) (by simp only [take_snoc hx]; rfl) ?_
      exact (.get rfl (VLe.of_eq (by simp only [take_snoc hx])) (.get rfl (VLe.int (by omega)) (.keep 18 rfl rfl)))
    ·
      have hall : l.take s.1 = l := List.take_of_length_le (by omega)
      rw [hall]
      refine CodeT.shareS (n := 5) (enc := encInstr) (i := 0) (t := 3) rfl rfl ?_
      refine CodeT.exit (EndT.thenX (EndT.thenX (EndT.blkX (EndT.thenN ?_))))
      refine CodeT.seq ?_
      refine CodeT.region (.p (opMove (.t rfl)) rfl <| .p (opAssign (.t rfl)) rfl <| .nil ?_)
      refine EndT.thenN ?_
      refine CodeT.ret (Post.retP rfl rfl ?_)
      first | exact VLe.refl _ | exact VLe.int (by omega) | exact VLe.prop (by omega) | exact VLe.prop (by simp_all) | exact VLe.prop (by simp; omega)

theorem l12to_spec {b : BodyD} (hp0 : SmallB b) : FnP Try.prog 26 [aggV (encBody b)] (aggV (encBody b)) := by
  refine FnE.intro 10 Try.func26 rfl rfl rfl fun w0 S0 M => ?_
  refine CodeT.seq ?_
  refine CodeT.region (.p (opBoxA (.t rfl)) rfl <| .n (opAlloc Try.zb71) rfl <| fun b2 _ => .nil ?_)
  refine EndT.thenN ?_
  refine CodeT.seq ?_
  refine CodeT.draw 5 3 Try.mixed (by kernel_rfl) (.p (opField Try.fd65_0 (.t rfl)) <| .p (opLoad Try.ag50 (.t rfl)) <| .p (opCall (l09to_spec (by have := hp0.locals; omega)) Try.cb19 (.cons (.t rfl) .nil)) <| .p (opField Try.fd65_1 (.t rfl)) <| .p (opLoad Try.ag63 (.t rfl)) <| .nil) (.p (opCall (l12list_spec (by have := hp0.l; omega) (fun x hx => by have := hp0.all x hx; omega)) Try.cb55 (.cons (.t rfl) .nil)) rfl <| .p (opBuild Try.pl71 Try.zb71 (.cons (.t rfl) (.cons (.t rfl) .nil)) rfl) rfl <| .s (opStoreOA (i := 0) Try.cz71 rfl (.t rfl) (.t rfl) rfl rfl rfl) <| .nil ?_)
  refine EndT.thenN ?_
  refine CodeT.ret (Post.retR1 rfl () trivial (fun _ _ _ _ => trivial) (.ra (i := 0) Try.ag71 Try.cz71 rfl rfl rfl rfl) ?_)
  first | exact VLe.refl _ | exact VLe.int (by omega) | exact VLe.prop (by omega) | exact VLe.prop (by simp_all) | exact VLe.prop (by simp; omega)

theorem l13to_spec {x : ModD} (hp0 : SmallM x) : FnP Try.prog 10 [aggV (encMod x)] (ptrV (encMod x)) := by
  refine FnE.intro 86 Try.func10 rfl rfl rfl fun w0 S0 M => ?_
  have hc1 := hp0.sigs
  have hc2 := hp0.funcs
  refine CodeT.seq ?_
  refine CodeT.region (.p (opBoxA (.t rfl)) rfl <| .p (opAssign (.c _)) rfl <| .nil ?_)
  refine EndT.thenN ?_
  refine CodeT.seq ?_
  refine CodeT.region (.p (opField Try.fd31_1 (.t rfl)) rfl <| .p (opLoad Try.ag23 (.t rfl)) rfl <| .p (opField Try.fd31_3 (.t rfl)) rfl <| .p (opLoad Try.ag3 (.t rfl)) rfl <| .p (opField Try.fd31_4 (.t rfl)) rfl <| .p (opLoad Try.ag25 (.t rfl)) rfl <| .p (opField Try.fd31_5 (.t rfl)) rfl <| .p (opLoad Try.ag26 (.t rfl)) rfl <| .p (opField Try.fd31_6 (.t rfl)) rfl <| .p (opLoad Try.ag27 (.t rfl)) rfl <| .p (opField Try.fd31_7 (.t rfl)) rfl <| .p (opLoad Try.ag3 (.t rfl)) rfl <| .p (opField Try.fd31_8 (.t rfl)) rfl <| .p (opLoad Try.ag28 (.t rfl)) rfl <| .p (opField Try.fd31_9 (.t rfl)) rfl <| .p (opLoad Try.ag29 (.t rfl)) rfl <| .p (opBuild Try.pl77 Try.zb77 (.cons (.t rfl) (.cons (.t rfl) (.cons (.t rfl) (.cons (.t rfl) (.cons (.t rfl) (.cons (.t rfl) (.cons (.t rfl) (.cons (.t rfl) .nil)))))))) rfl) rfl <| .n (opBoxOA (.t rfl)) rfl <| fun b23 _ => .p (opAssign (.t rfl)) rfl <| .nil ?_)
  refine EndT.thenN ?_
  refine CodeT.seq ?_
  refine CodeT.seq ?_
  refine CodeT.region (.p (opAssign (.c _)) rfl <| .nil ?_)
  refine EndT.thenN ?_
  refine CodeT.block ?_
  refine CodeT.ownNil 2 encSig ?_
  refine CodeT.loopO (σ := Nat × SB) (fun s => [sliceH s.2 2 encSig (x.Sigs.take s.1), cellsH b23 (toCells x (exactV (sval s.2 (x.Sigs.take s.1).length)) (exactV (.slice none 0 0)))]) (fun s => [(4, intV .i64 (s.1 : Int))]) (fun s => s.1 ≤ x.Sigs.length) (fun s => x.Sigs.length - s.1) (0, none) (by simp) rfl ?_ ?_
  · exact (.get rfl (VLe.refl _) (.refl _ _))
  · rintro s hk
    refine CodeT.seq ?_
    refine CodeT.seq ?_
    refine CodeT.region (.p (opMove (.t rfl)) rfl <| .p (opField Try.fd31_0 (.t rfl)) rfl <| .p (opLoad Try.ag22 (.t rfl)) rfl <| .p (opLen rfl Try.underlying22 (.t rfl)) rfl <| .p (opLss (.t rfl) (.t rfl)) rfl <| .nil ?_)
    refine EndT.thenN ?_
    refine CodeT.cond (.t rfl) (fun c0 => ?_) (fun c0 => ?_)
    ·
      obtain ⟨y, hx⟩ := getElem?_lt (xs := x.Sigs) (k := s.1) (by omega)
      refine CodeT.skip (EndT.thenN ?_)
      refine CodeT.seq ?_
      refine CodeT.block ?_
      refine CodeT.staged [(0, 0), (1, 0), (2, 0), (3, 0), (4, 1), (5, 0), (6, 0), (7, 0), (8, 0), (9, 0), (10, 0), (11, 0), (12, 0), (13, 0), (14, 0), (15, 0), (16, 0), (17, 0), (18, 0), (19, 0), (20, 0), (21, 2)] 22 3 Try.mixed (by kernel_rfl) (.p rfl (fun _ => opMove (.t rfl)) <| .p rfl (fun _ => opMove (.t rfl)) <| .p rfl (fun _ => opNilChkO (.t rfl)) <| .p rfl (fun _ => opFieldO Try.fd77_0 (.t rfl)) <| .o rfl (opLoadO (i := 1) Try.ag74 (.t rfl) rfl rfl) <| .p rfl (fun _ => opField Try.fd31_0 (.t rfl)) <| .p rfl (fun _ => opLoad Try.ag22 (.t rfl)) <| .p rfl (fun _ => opMove (.t rfl)) <| .p rfl (fun _ => opIndexAddr Try.underlying22 Try.cz52 rfl (.t rfl) (.t rfl) rfl (by assumption)) <| .p rfl (fun _ => opField Try.fd52_0 (.t rfl)) <| .p rfl (fun _ => opLoad Try.ag50 (.t rfl)) <| .p rfl (fun _ => opCall (l09to_spec (by have := hp0.sig y (List.mem_of_getElem? hx); omega)) Try.cb19 (.cons (.t rfl) .nil)) <| .p rfl (fun _ => opField Try.fd31_0 (.t rfl)) <| .p rfl (fun _ => opLoad Try.ag22 (.t rfl)) <| .p rfl (fun _ => opMove (.t rfl)) <| .p rfl (fun _ => opIndexAddr Try.underlying22 Try.cz52 rfl (.t rfl) (.t rfl) rfl (by assumption)) <| .p rfl (fun _ => opField Try.fd52_1 (.t rfl)) <| .p rfl (fun _ => opLoad Try.ag50 (.t rfl)) <| .p rfl (fun _ => opCall (l09to_spec (by have := hp0.sig y (List.mem_of_getElem? hx); omega)) Try.cb19 (.cons (.t rfl) .nil)) <| .p rfl (fun _ => opBuild Try.pl46 Try.zb46 (.cons (.t rfl) (.cons (.t rfl) .nil)) rfl) <| .p rfl (fun _ => opBuildSlice (enc := encSig) [y] Try.underlying74 Try.cz46 rfl Try.zb46 rfl (.cons (.t rfl) .nil) rfl rfl rfl rfl rfl) <| .e rfl (opAppend (i := 0) Try.underlying74 Try.underlying74 Try.cz46 rfl Try.zb46 rfl Try.by46 (.t rfl) (.t rfl) rfl (by first | omega | (simp <;> omega)) (by first | omega | (simp <;> omega))) <| fun g52 _ => .fin (.p (opNilChkO (.t rfl)) rfl <| .p (opFieldO Try.fd77_0 (.t rfl)) rfl <| .s (opStoreO (i := 1) Try.cz74 (.t rfl) (.t rfl) rfl rfl) <| .nil ?_))
      refine EndT.blkN (EndT.thenN ?_)
      refine CodeT.region (.p (opMove (.t rfl)) rfl <| .p (opAddF (.t rfl) (.c _) (fits_i64 (by omega) (by omega))) rfl <| .p (opAssign (.t rfl)) rfl <| .nil ?_)
      refine EndT.round (s.1 + 1, g52) (by omega) (by omega) (by simp only [take_snoc hx]; rfl) ?_
      exact (.get rfl (VLe.int (by omega)) (.keep 33 rfl rfl))
    ·
      have hall : x.Sigs.take s.1 = x.Sigs := List.take_of_length_le (by omega)
      rw [hall]
      refine CodeT.shareIn (n := 2) (enc := encSig) (i := 0) (j := 0) (f := 0) rfl rfl rfl ?_
      refine CodeT.exit (EndT.thenX (EndT.thenX (EndT.blkX (EndT.thenN ?_))))
      refine CodeT.seq ?_
      refine CodeT.seq ?_
      refine CodeT.region (.p (opAssign (.c _)) rfl <| .nil ?_)
      refine EndT.thenN ?_
      refine CodeT.block ?_
      refine CodeT.ownNil 3 encFunc ?_
      refine CodeT.loopO (σ := Nat × SB) (fun s => [sliceH s.2 3 encFunc (x.Funcs.take s.1), cellsH b23 (toCells x (sliceV 2 encSig x.Sigs) (exactV (sval s.2 (x.Funcs.take s.1).length)))]) (fun s => [(5, intV .i64 (s.1 : Int))]) (fun s => s.1 ≤ x.Funcs.length) (fun s => x.Funcs.length - s.1) (0, none) (by simp) rfl ?_ ?_
      · exact (.get rfl (VLe.refl _) (.refl _ _))
      · rintro s hk
        refine CodeT.seq ?_
        refine CodeT.seq ?_
        refine CodeT.region (.p (opMove (.t rfl)) rfl <| .p (opField Try.fd31_2 (.t rfl)) rfl <| .p (opLoad Try.ag24 (.t rfl)) rfl <| .p (opLen rfl Try.underlying24 (.t rfl)) rfl <| .p (opLss (.t rfl) (.t rfl)) rfl <| .nil ?_)
        refine EndT.thenN ?_
        refine CodeT.cond (.t rfl) (fun c1 => ?_) (fun c1 => ?_)
        ·
          obtain ⟨y, hx⟩ := getElem?_lt (xs := x.Funcs) (k := s.1) (by omega)
          refine CodeT.skip (EndT.thenN ?_)
          refine CodeT.seq ?_
          refine CodeT.block ?_
          refine CodeT.staged [(0, 0), (1, 0), (2, 0), (3, 0), (4, 1), (5, 0), (6, 0), (7, 0), (8, 0), (9, 0), (10, 0), (11, 0), (12, 0), (13, 0), (14, 0), (15, 0), (16, 0), (17, 0), (18, 0), (19, 0), (20, 2)] 21 3 Try.mixed (by kernel_rfl) (.p rfl (fun _ => opMove (.t rfl)) <| .p rfl (fun _ => opMove (.t rfl)) <| .p rfl (fun _ => opNilChkO (.t rfl)) <| .p rfl (fun _ => opFieldO Try.fd77_2 (.t rfl)) <| .o rfl (opLoadO (i := 1) Try.ag75 (.t rfl) rfl rfl) <| .p rfl (fun _ => opField Try.fd31_2 (.t rfl)) <| .p rfl (fun _ => opLoad Try.ag24 (.t rfl)) <| .p rfl (fun _ => opMove (.t rfl)) <| .p rfl (fun _ => opIndexAddr Try.underlying24 Try.cz67 rfl (.t rfl) (.t rfl) rfl (by assumption)) <| .p rfl (fun _ => opField Try.fd67_0 (.t rfl)) <| .p rfl (fun _ => opLoad Try.ag3 (.t rfl)) <| .p rfl (fun _ => opField Try.fd31_2 (.t rfl)) <| .p rfl (fun _ => opLoad Try.ag24 (.t rfl)) <| .p rfl (fun _ => opMove (.t rfl)) <| .p rfl (fun _ => opIndexAddr Try.underlying24 Try.cz67 rfl (.t rfl) (.t rfl) rfl (by assumption)) <| .p rfl (fun _ => opField Try.fd67_1 (.t rfl)) <| .p rfl (fun _ => opLoadA Try.ag65 Try.cz65 rfl (.t rfl) rfl) <| .p rfl (fun _ => opCall (l12to_spec (hp0.fn y (List.mem_of_getElem? hx))) Try.cb26 (.cons (.t rfl) .nil)) <| .p rfl (fun _ => opBuild Try.pl73 Try.zb73 (.cons (.t rfl) (.cons (.t rfl) .nil)) rfl) <| .p rfl (fun _ => opBuildSlice (enc := encFunc) [y] Try.underlying75 Try.cz73 rfl Try.zb73 rfl (.cons (.t rfl) .nil) rfl rfl rfl rfl rfl) <| .e rfl (opAppend (i := 0) Try.underlying75 Try.underlying75 Try.cz73 rfl Try.zb73 rfl Try.by73 (.t rfl) (.t rfl) rfl (by first | omega | (simp <;> omega)) (by first | omega | (simp <;> omega))) <| fun g82 _ => .fin (.p (opNilChkO (.t rfl)) rfl <| .p (opFieldO Try.fd77_2 (.t rfl)) rfl <| .s (opStoreO (i := 1) Try.cz75 (.t rfl) (.t rfl) rfl rfl) <| .nil ?_))
          refine EndT.blkN (EndT.thenN ?_)
          refine CodeT.region (.p (opMove (.t rfl)) rfl <| .p (opAddF (.t rfl) (.c _) (fits_i64 (by omega) (by omega))) rfl <| .p (opAssign (.t rfl)) rfl <| .nil ?_)
          refine EndT.round (s.1 + 1, g82) (by omega) (by omega) (by simp only [take_snoc hx]; rfl) ?_
          exact (.get rfl (VLe.int (by omega)) (.keep 32 rfl rfl))
        ·
          have hall : x.Funcs.take s.1 = x.Funcs := List.take_of_length_le (by omega)
          rw [hall]
          refine CodeT.shareIn (n := 3) (enc := encFunc) (i := 0) (j := 0) (f := 2) rfl rfl rfl ?_
          refine CodeT.share (t := 3) (i := 0) rfl rfl ?_
          refine CodeT.exit (EndT.thenX (EndT.thenX (EndT.blkX (EndT.thenN ?_))))
          refine CodeT.seq ?_
          refine CodeT.region (.p (opMove (.t rfl)) rfl <| .p (opAssign (.t rfl)) rfl <| .nil ?_)
          refine EndT.thenN ?_
          refine CodeT.ret (Post.retP rfl rfl ?_)
          first | exact VLe.refl _ | exact VLe.int (by omega) | exact VLe.prop (by omega) | exact VLe.prop (by simp_all) | exact VLe.prop (by simp; omega)

end Go.Proofs.Ytbiahdejccipaaa
