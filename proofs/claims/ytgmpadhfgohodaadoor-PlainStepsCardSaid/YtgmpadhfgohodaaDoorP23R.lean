/-
  Walks, printed by a program (gen.py) out of what its author says of each function.
-/
import Derived.Test.YtgmpadhfgohodaaDoorP23F
namespace Go.Proofs.YtgmpadhfgohodaaDoor
open Go.Hl Go.RowKit
set_option linter.unusedVariables false
set_option maxRecDepth 100000

theorem eqU64_spec {l : List Int} : FnP Tryd.prog 24 [sliceV 1 encU64 l, sliceV 1 encU64 l] (propV True) := by
  refine FnE.intro 26 Tryd.func24 rfl rfl rfl fun w0 S0 M => ?_
  refine CodeT.fact (t := 0) rfl (fun S w v h => sliceV_len h) fun hln => ?_
  refine CodeT.seq ?_
  refine CodeT.region (.p (opAssign .cf) rfl <| .nil ?_)
  refine EndT.thenN ?_
  refine CodeT.seq ?_
  refine CodeT.seq ?_
  refine CodeT.region (.p (opMove (.t rfl)) rfl <| .p (opLen rfl Tryd.underlying38 (.t rfl)) rfl <| .p (opMove (.t rfl)) rfl <| .p (opLen rfl Tryd.underlying38 (.t rfl)) rfl <| .p (opNeq (.t rfl) (.t rfl)) rfl <| .nil ?_)
  refine EndT.thenN ?_
  refine CodeT.cond (.t rfl) (fun c0 => ?_) (fun c0 => ?_)
  ·
    exact absurd rfl c0
  ·
    refine CodeT.skip (EndT.thenN ?_)
    refine CodeT.seq ?_
    refine CodeT.seq ?_
    refine CodeT.region (.p (opMove (.t rfl)) rfl <| .p (opLen rfl Tryd.underlying38 (.t rfl)) rfl <| .p (opMove (.c _)) rfl <| .nil ?_)
    refine EndT.thenN ?_
    refine CodeT.block ?_
    refine CodeT.loopO (σ := Nat) (fun _ => []) (fun k => [(13, iV (k : Int))]) (fun k => k ≤ l.length) (fun k => l.length - k) 0 (Nat.zero_le _) rfl ?_ ?_
    · exact (.get rfl (VLe.refl _) (.refl _ _))
    · rintro k hk
      refine CodeT.seq ?_
      refine CodeT.region (.p (opLss (.t rfl) (.t rfl)) rfl <| .nil ?_)
      refine EndT.thenN ?_
      refine CodeT.seq ?_
      refine CodeT.cond (.t rfl) (fun c1 => ?_) (fun c1 => ?_)
      ·
        obtain ⟨x, hx⟩ := getElem?_lt (xs := l) (k := k) (by omega)
        refine CodeT.skip (EndT.thenN ?_)
        refine CodeT.seq ?_
        refine CodeT.block ?_
        refine CodeT.seq ?_
        refine CodeT.region (.p (opMove (.t rfl)) rfl <| .p (opAssign (.t rfl)) rfl <| .nil ?_)
        refine EndT.thenN ?_
        refine CodeT.seq ?_
        refine CodeT.draw 8 1 Tryd.mixed (by kernel_rfl) (.p (opMove (.t rfl)) <| .p (opMove (.t rfl)) <| .p (opIndexAddr (j := k) Tryd.underlying38 Tryd.cz37 rfl (.t rfl) (.t rfl) rfl hx) <| .p (opLoad Tryd.ag37 (.t rfl)) <| .p (opMove (.t rfl)) <| .p (opMove (.t rfl)) <| .p (opIndexAddr (j := k) Tryd.underlying38 Tryd.cz37 rfl (.t rfl) (.t rfl) rfl hx) <| .p (opLoad Tryd.ag37 (.t rfl)) <| .nil) (.p (opNeq (.t rfl) (.t rfl)) rfl <| .nil ?_)
        refine EndT.thenN ?_
        refine CodeT.cond (.t rfl) (fun c2 => ?_) (fun c2 => ?_)
        ·
          exact absurd rfl c2
        ·
          refine CodeT.skip (EndT.blkN (EndT.thenN ?_))
          refine CodeT.region (.p (opAddF (.t rfl) (.c _) (fits_i64 (by omega) (by omega))) rfl <| .p (opMove (.t rfl)) rfl <| .nil ?_)
          refine EndT.round (k + 1) (by omega) (by omega) rfl ?_
          exact (.get rfl (VLe.int (by (show (k : Int) + 1 = ((k + 1 : Nat) : Int); omega))) ((.keep 15 rfl rfl)))
      ·
        refine CodeT.exit (EndT.thenX (EndT.thenX (EndT.blkX (EndT.thenN ?_))))
        refine CodeT.seq ?_
        refine CodeT.region (.p (opAssign .ct) rfl <| .nil ?_)
        refine EndT.thenN ?_
        refine CodeT.ret (Post.retP rfl rfl ?_)
        exact VLe.refl _

theorem isame_spec {x : InstrD} : FnP Tryd.prog 11 [aggV (encInstr x), aggV (encInstr x)] (propV True) := by
  refine FnE.intro 38 Tryd.func11 rfl rfl rfl fun w0 S0 M => ?_
  refine CodeT.seq ?_
  refine CodeT.region (.p (opBoxA (.t rfl)) rfl <| .p (opBoxA (.t rfl)) rfl <| .p (opAssign .cf) rfl <| .nil ?_)
  refine EndT.thenN ?_
  refine CodeT.seq ?_
  refine CodeT.region (.p (opField Tryd.fd41_0 (.t rfl)) rfl <| .p (opLoad Tryd.ag3 (.t rfl)) rfl <| .p (opField Tryd.fd41_0 (.t rfl)) rfl <| .p (opLoad Tryd.ag3 (.t rfl)) rfl <| .p (opEql (.t rfl) (.t rfl)) rfl <| .p (opMove (.t rfl)) rfl <| .g (OpG.gT rfl rfl rfl rfl (fun hg => opField Tryd.fd41_1 (.t rfl))) rfl rfl <| .g (OpG.gT rfl rfl rfl rfl (fun hg => opLoad Tryd.ag37 (.when (.t rfl) hg))) rfl rfl <| .g (OpG.gT rfl rfl rfl rfl (fun hg => opField Tryd.fd41_1 (.t rfl))) rfl rfl <| .g (OpG.gT rfl rfl rfl rfl (fun hg => opLoad Tryd.ag37 (.when (.t rfl) hg))) rfl rfl <| .g (OpG.gT rfl rfl rfl rfl (fun hg => opEql (.when (.t rfl) hg) (.when (.t rfl) hg))) rfl rfl <| .p (opAnd (.t rfl) (.t rfl)) rfl <| .p (opMove (.t rfl)) rfl <| .g (OpG.gT rfl rfl rfl rfl (fun hg => opField Tryd.fd41_2 (.t rfl))) rfl rfl <| .g (OpG.gT rfl rfl rfl rfl (fun hg => opLoad Tryd.ag37 (.when (.t rfl) hg))) rfl rfl <| .g (OpG.gT rfl rfl rfl rfl (fun hg => opField Tryd.fd41_2 (.t rfl))) rfl rfl <| .g (OpG.gT rfl rfl rfl rfl (fun hg => opLoad Tryd.ag37 (.when (.t rfl) hg))) rfl rfl <| .g (OpG.gT rfl rfl rfl rfl (fun hg => opEql (.when (.t rfl) hg) (.when (.t rfl) hg))) rfl rfl <| .p (opAnd (.t rfl) (.t rfl)) rfl <| .p (opMove (.t rfl)) rfl <| .g (OpG.gT rfl rfl rfl rfl (fun hg => opField Tryd.fd41_3 (.t rfl))) rfl rfl <| .g (OpG.gT rfl rfl rfl rfl (fun hg => opLoad Tryd.ag3 (.when (.t rfl) hg))) rfl rfl <| .g (OpG.gT rfl rfl rfl rfl (fun hg => opField Tryd.fd41_3 (.t rfl))) rfl rfl <| .g (OpG.gT rfl rfl rfl rfl (fun hg => opLoad Tryd.ag3 (.when (.t rfl) hg))) rfl rfl <| .g (OpG.gT rfl rfl rfl rfl (fun hg => opEql (.when (.t rfl) hg) (.when (.t rfl) hg))) rfl rfl <| .p (opAnd (.t rfl) (.t rfl)) rfl <| .p (opMove (.t rfl)) rfl <| .g (OpG.gT rfl rfl rfl rfl (fun hg => opField Tryd.fd41_4 (.t rfl))) rfl rfl <| .g (OpG.gT rfl rfl rfl rfl (fun hg => opLoad Tryd.ag38 (.when (.t rfl) hg))) rfl rfl <| .g (OpG.gT rfl rfl rfl rfl (fun hg => opField Tryd.fd41_4 (.t rfl))) rfl rfl <| .g (OpG.gT rfl rfl rfl rfl (fun hg => opLoad Tryd.ag38 (.when (.t rfl) hg))) rfl rfl <| .g (OpG.gT rfl rfl rfl rfl (fun hg => opCall (eqU64_spec) Tryd.cb24 (.cons (.when (.t rfl) hg) (.cons (.when (.t rfl) hg) .nil)))) rfl rfl <| .p (opAnd (.t rfl) (.t rfl)) rfl <| .p (opAssign (.t rfl)) rfl <| .nil ?_)
  refine EndT.thenN ?_
  refine CodeT.ret (Post.retP rfl rfl ?_)
  exact VLe.prop (by simp)

theorem same23_spec {l : List InstrD} (hp0 : ∀ x ∈ l, x.L.length ≤ 65536) : FnP Tryd.prog 9 [sliceV 5 encInstr (l), sliceV 5 encInstr (l)] (propV True) := by
  refine FnE.intro 28 Tryd.func9 rfl rfl rfl fun w0 S0 M => ?_
  refine CodeT.fact (t := 0) rfl (fun S w v h => sliceV_len h) fun hln => ?_
  refine CodeT.seq ?_
  refine CodeT.region (.p (opAssign .cf) rfl <| .nil ?_)
  refine EndT.thenN ?_
  refine CodeT.seq ?_
  refine CodeT.seq ?_
  refine CodeT.region (.p (opMove (.t rfl)) rfl <| .p (opLen rfl Tryd.underlying28 (.t rfl)) rfl <| .p (opMove (.t rfl)) rfl <| .p (opLen rfl Tryd.underlying22 (.t rfl)) rfl <| .p (opNeq (.t rfl) (.t rfl)) rfl <| .nil ?_)
  refine EndT.thenN ?_
  refine CodeT.cond (.t rfl) (fun c0 => ?_) (fun c0 => ?_)
  ·
    exact absurd rfl c0
  ·
    refine CodeT.skip (EndT.thenN ?_)
    refine CodeT.seq ?_
    refine CodeT.seq ?_
    refine CodeT.region (.p (opAssign (.c _)) rfl <| .nil ?_)
    refine EndT.thenN ?_
    refine CodeT.block ?_
    refine CodeT.loopO (σ := Nat) (fun _ => []) (fun k => [(5, iV (k : Int))]) (fun k => k ≤ l.length) (fun k => l.length - k) 0 (Nat.zero_le _) rfl ?_ ?_
    · exact (.get rfl (VLe.refl _) (.refl _ _))
    · rintro k hk
      refine CodeT.seq ?_
      refine CodeT.seq ?_
      refine CodeT.region (.p (opMove (.t rfl)) rfl <| .p (opMove (.t rfl)) rfl <| .p (opLen rfl Tryd.underlying28 (.t rfl)) rfl <| .p (opLss (.t rfl) (.t rfl)) rfl <| .nil ?_)
      refine EndT.thenN ?_
      refine CodeT.cond (.t rfl) (fun c1 => ?_) (fun c1 => ?_)
      ·
        obtain ⟨x, hx⟩ := getElem?_lt (xs := l) (k := k) (by omega)
        refine CodeT.skip (EndT.thenN ?_)
        refine CodeT.seq ?_
        refine CodeT.block ?_
        refine CodeT.seq ?_
        refine CodeT.draw 9 2 Tryd.mixed (by kernel_rfl) (.p (opMove (.t rfl)) <| .p (opMove (.t rfl)) <| .p (opIndexAddr (j := k) Tryd.underlying28 Tryd.cz41 rfl (.t rfl) (.t rfl) rfl hx) <| .p (opLoadA Tryd.ag41 Tryd.cz41 rfl (.t rfl) rfl) <| .p (opMove (.t rfl)) <| .p (opMove (.t rfl)) <| .p (opIndexAddr (j := k) Tryd.underlying22 Tryd.cz40 rfl (.t rfl) (.t rfl) rfl hx) <| .p (opLoadA Tryd.ag40 Tryd.cz40 rfl (.t rfl) rfl) <| .p (opCall (l11to_spec (hp0 x (List.mem_of_getElem? hx))) Tryd.cb19 (.cons (.t rfl) .nil)) <| .nil) (.p (opCall (isame_spec) Tryd.cb11 (.cons (.t rfl) (.cons (.t rfl) .nil))) rfl <| .p (opNot (.t rfl)) rfl <| .nil ?_)
        refine EndT.thenN ?_
        refine CodeT.cond (.t rfl) (fun c2 => ?_) (fun c2 => ?_)
        ·
          exact absurd trivial c2
        ·
          refine CodeT.skip (EndT.blkN (EndT.thenN ?_))
          refine CodeT.region (.p (opMove (.t rfl)) rfl <| .p (opAddF (.t rfl) (.c _) (fits_i64 (by omega) (by omega))) rfl <| .p (opAssign (.t rfl)) rfl <| .nil ?_)
          refine EndT.round (k + 1) (by omega) (by omega) rfl ?_
          exact (.get rfl (VLe.int (by (show (k : Int) + 1 = ((k + 1 : Nat) : Int); omega))) ((.keep 19 rfl rfl)))
      ·
        refine CodeT.exit (EndT.thenX (EndT.thenX (EndT.blkX (EndT.thenN ?_))))
        refine CodeT.seq ?_
        refine CodeT.region (.p (opAssign .ct) rfl <| .nil ?_)
        refine EndT.thenN ?_
        refine CodeT.ret (Post.retP rfl rfl ?_)
        exact VLe.refl _

theorem awake23_spec  : FnE Tryd.prog 5 [] [tabH 0 .u8 Lib.deBruijn64tab] (γ := Unit) (fun _ => True) (fun _ => []) (fun _ => propV True) := by
  refine FnE.intro 17 Tryd.func5 rfl rfl rfl fun w0 S0 M => ?_
  refine CodeT.seq ?_
  refine CodeT.region (.p (opAssign .cf) rfl <| .nil ?_)
  refine EndT.thenN ?_
  refine CodeT.seq ?_
  refine CodeT.region (.p ((opBuild Tryd.pl41 Tryd.zb41 (.cons (.c _) (.cons (.c _) .nil)) rfl).le (mkk_le (k := 65) (v := 2))) rfl <| .p ((opBuild Tryd.pl41 Tryd.zb41 (.cons (.c _) (.cons (.c _) .nil)) rfl).le (mkk_le (k := 65) (v := 3))) rfl <| .p ((opBuild Tryd.pl41 Tryd.zb41 (.cons (.c _) .nil) rfl).le (mkk_le (k := 106) (v := 0))) rfl <| .p (opBuildSlice (enc := encInstr) (pcs := [(0, encInstr (mkI 65 2)), (1, encInstr (mkI 65 3)), (2, encInstr (mkI 106 0))]) exL Tryd.underlying28 Tryd.cz41 rfl Tryd.zb41 rfl (.cons (.t rfl) (.cons (.t rfl) (.cons (.t rfl) .nil))) rfl rfl rfl rfl rfl) rfl <| .p ((opCallDup (i := 0) (pbody_spec ex_sm) Tryd.cb10 (.cons (.t rfl) .nil) rfl).le (VLe.of_eq (by rw [ex_body]))) rfl <| .p (opAssign (.t rfl)) rfl <| .nil ?_)
  refine EndT.thenN ?_
  refine CodeT.seq ?_
  refine CodeT.region (.p (opMove (.t rfl)) rfl <| .p (opLen rfl Tryd.underlying28 (.t rfl)) rfl <| .p (opEql (.t rfl) (.c _)) rfl <| .p (opMove (.t rfl)) rfl <| .g (OpG.gT rfl rfl rfl rfl (fun hg => opMove (.t rfl))) rfl rfl <| .g (OpG.gT rfl rfl rfl rfl (fun hg => opIndexAddr (j := 0) Tryd.underlying28 Tryd.cz41 rfl (.when (.t rfl) hg) (.c _) rfl (show [mkI 65 5][0]? = some (mkI 65 5) from rfl))) rfl rfl <| .g (OpG.gT rfl rfl rfl rfl (fun hg => opLoadA Tryd.ag41 Tryd.cz41 rfl (.when (.t rfl) hg) rfl)) rfl rfl <| .g (OpG.gT rfl rfl rfl rfl (fun hg => (opBuild Tryd.pl41 Tryd.zb41 (.cons (.c _) (.cons (.c _) .nil)) rfl).le (mkk_le (k := 65) (v := 5)))) rfl rfl <| .g (OpG.gT rfl rfl rfl rfl (fun hg => opCall (isame_spec (x := mkI 65 5)) Tryd.cb11 (.cons (.when (.t rfl) hg) (.cons (.when (.t rfl) hg) .nil)))) rfl rfl <| .p (opAnd (.t rfl) (.t rfl)) rfl <| .p (opAssign (.t rfl)) rfl <| .nil ?_)
  refine EndT.thenN ?_
  refine CodeT.ret (Post.retP rfl rfl ?_)
  exact VLe.prop (by simp)

set_option maxHeartbeats 1000000 in
theorem PlainSteps0_spec {l : List InstrD} (hp0 : ∀ x ∈ l, okI x) : FnE Tryd.prog 3 [sliceV 5 encInstr (l)] [tabH 0 .u8 Lib.deBruijn64tab] (γ := Unit) (fun _ => True) (fun _ => []) (fun _ => propV True) := by
  refine FnE.intro 61 Tryd.func3 rfl rfl rfl fun w0 S0 M => ?_
  refine CodeT.fact (t := 0) rfl (fun S w v h => lens_of h) fun hbl => ?_
  refine CodeT.seq ?_
  refine CodeT.region (.p (opAssign .cf) rfl <| .nil ?_)
  refine EndT.thenN ?_
  refine CodeT.seq ?_
  refine CodeT.seq ?_
  refine CodeT.region (.p (opMove (.t rfl)) rfl <| .p ((opBuild Tryd.pl26 Tryd.zb26 (.cons (.t rfl) .nil) rfl).le (VLe.agg (.cons (sliceV_nil 1 encU8) (.cons (VLe.refl _) .nil)))) rfl <| .p (opCall (l12great_spec (b := ⟨[], l⟩)) Tryd.cb4 (.cons (.t rfl) .nil)) rfl <| .p (opGtr (.t rfl) (.c _)) rfl <| .p (opMove (.t rfl)) rfl <| .g (OpG.gF rfl rfl rfl rfl (fun hg => opCallDup (i := 0) (awake23_spec) Tryd.cb5 .nil rfl)) rfl rfl <| .g (OpG.gF rfl rfl rfl rfl (fun hg => opNot (.when (.t rfl) hg))) rfl rfl <| .p (opOr (.t rfl) (.t rfl)) rfl <| .nil ?_)
  refine EndT.thenN ?_
  refine CodeT.cond (.t rfl) (fun c0 => ?_) (fun c0 => ?_)
  ·
    refine CodeT.seq ?_
    refine CodeT.region (.p (opCallDup (i := 0) (awake23_spec) Tryd.cb5 .nil rfl) rfl <| .p (opAssign (.t rfl)) rfl <| .nil ?_)
    refine EndT.thenN ?_
    refine CodeT.ret (EndT.thenR (Post.retP rfl rfl ?_))
    exact VLe.refl _
  ·
    obtain ⟨hsm, hl150⟩ := small_of_great hp0 hbl (by omega)
    obtain ⟨hst1, hst2, hst3, hst4⟩ := stepR_facts hsm
    refine CodeT.skip (EndT.thenN ?_)
    refine CodeT.seq ?_
    refine CodeT.region (.p (opMove (.t rfl)) rfl <| .p (opCall (l12list_spec (by omega) hsm.small) Tryd.cb7 (.cons (.t rfl) .nil)) rfl <| .p (opCallDup (i := 0) (pstep_spec hsm) Tryd.cb6 (.cons (.t rfl) .nil) rfl) rfl <| .p (opMove (.t rfl)) rfl <| .p (opExtract (.t rfl) rfl) rfl <| .p (opExtract (.t rfl) rfl) rfl <| .p (opAssign (.t rfl)) rfl <| .p (opAssign (.t rfl)) rfl <| .nil ?_)
    refine EndT.thenN ?_
    refine CodeT.seq ?_
    refine CodeT.region (.p (opMove (.t rfl)) rfl <| .p (opCall (rstep_spec hsm) Tryd.cb8 (.cons (.t rfl) .nil)) rfl <| .p (opMove (.t rfl)) rfl <| .p (opExtract (.t rfl) rfl) rfl <| .p (opExtract (.t rfl) rfl) rfl <| .p (opAssign (.t rfl)) rfl <| .p (opAssign (.t rfl)) rfl <| .nil ?_)
    refine EndT.thenN ?_
    refine CodeT.seq ?_
    refine CodeT.seq ?_
    refine CodeT.region (.p (opMove (.t rfl)) rfl <| .p (opMove (.t rfl)) rfl <| .p (opNeq (.t rfl) (.t rfl)) rfl <| .p (opMove (.t rfl)) rfl <| .g (OpG.gF rfl rfl rfl rfl (fun hg => opMove (.t rfl))) rfl rfl <| .g (OpG.gF rfl rfl rfl rfl (fun hg => opMove (.t rfl))) rfl rfl <| .g (OpG.gF rfl rfl rfl rfl (fun hg => opCall (same23_spec hst1.small) Tryd.cb9 (.cons (.when (.t rfl) hg) (.cons (.when (.t rfl) hg) .nil)))) rfl rfl <| .g (OpG.gF rfl rfl rfl rfl (fun hg => opNot (.when (.t rfl) hg))) rfl rfl <| .p (opOr (.t rfl) (.t rfl)) rfl <| .nil ?_)
    refine EndT.thenN ?_
    refine CodeT.cond (.t rfl) (fun c1 => ?_) (fun c1 => ?_)
    ·
      rcases c1 with h | h
      · exact absurd rfl h
      · exact absurd trivial h
    ·
      refine CodeT.skip (EndT.thenN ?_)
      refine CodeT.seq ?_
      refine CodeT.seq ?_
      refine CodeT.region (.p (opAssign (.c _)) rfl <| .nil ?_)
      refine EndT.thenN ?_
      refine CodeT.block ?_
      refine CodeT.loopO (σ := Nat × List InstrD × Nat) (fun _ => [tabH 0 .u8 Lib.deBruijn64tab]) (fun g => [(7, iV (g.1 : Int)), (5, sliceV 5 encInstr (g.2.1)), (6, iV (g.2.2 : Int))]) (fun g => SmL g.2.1 60000 ∧ bodyL g.2.1 = bodyL l ∧ (g.2.2 = 0 → stepL g.2.1 = none) ∧ (0 < g.2.2 → g.2.1.length + g.1 + 1 ≤ l.length)) (fun g => l.length + 1 - g.1) (0, (stepR l).1, (stepR l).2) ⟨hst1, hst2, hst3, fun h => by have := hst4 h; simp only; omega⟩ rfl ?_ ?_
      · exact (.get rfl (VLe.refl _) (.get rfl (VLe.refl _) (.get rfl (VLe.refl _) (.refl _ _))))
      · rintro ⟨k, m, s⟩ ⟨hm, hb, hz, hp⟩
        simp only at hm hb hz hp ⊢
        refine CodeT.seq ?_
        refine CodeT.seq ?_
        refine CodeT.region (.p (opMove (.t rfl)) rfl <| .p (opMove (.t rfl)) rfl <| .p (opLen rfl Tryd.underlying22 (.t rfl)) rfl <| .p (opLeq (.t rfl) (.t rfl)) rfl <| .p (opMove (.t rfl)) rfl <| .g (OpG.gT rfl rfl rfl rfl (fun hg => opMove (.t rfl))) rfl rfl <| .g (OpG.gT rfl rfl rfl rfl (fun hg => opGtr (.when (.t rfl) hg) (.c _))) rfl rfl <| .p (opAnd (.t rfl) (.t rfl)) rfl <| .nil ?_)
        refine EndT.thenN ?_
        refine CodeT.cond (.t rfl) (fun c2 => ?_) (fun c2 => ?_)
        ·
          obtain ⟨hm1, hm2, hm3, hm4⟩ := stepR_facts hm
          refine CodeT.skip (EndT.thenN ?_)
          refine CodeT.seq ?_
          refine CodeT.block ?_
          refine CodeT.region (.p (opMove (.t rfl)) rfl <| .p (opCall (rstep_spec hm) Tryd.cb8 (.cons (.t rfl) .nil)) rfl <| .p (opMove (.t rfl)) rfl <| .p (opExtract (.t rfl) rfl) rfl <| .p (opExtract (.t rfl) rfl) rfl <| .p (opAssign (.t rfl)) rfl <| .p (opAssign (.t rfl)) rfl <| .nil ?_)
          refine EndT.blkN (EndT.thenN ?_)
          refine CodeT.region (.p (opMove (.t rfl)) rfl <| .p (opAddF (.t rfl) (.c _) (fits_i64 (by omega) (by omega))) rfl <| .p (opAssign (.t rfl)) rfl <| .nil ?_)
          refine EndT.round (k + 1, (stepR m).1, (stepR m).2) ⟨hm1, hm2.trans hb, hm3, fun h => by have := hm4 h; have := hp (by omega); simp only; omega⟩ (by (show l.length + 1 - (k + 1) < l.length + 1 - k; omega)) rfl ?_
          exact (.get rfl (VLe.int (by (show (k : Int) + 1 = ((k + 1 : Nat) : Int); omega))) (.get rfl (VLe.refl _) (.get rfl (VLe.refl _) ((.keep 21 rfl rfl)))))
        ·
          have hs0 : s = 0 := by omega
          subst hs0
          have hbm : bodyL l = m := by rw [← hb, bodyL_none (hz rfl)]
          refine CodeT.exit (EndT.thenX (EndT.thenX (EndT.blkX (EndT.thenN ?_))))
          refine CodeT.seq ?_
          refine CodeT.region (.p (opMove (.t rfl)) rfl <| .p (opEql (.t rfl) (.c _)) rfl <| .p (opMove (.t rfl)) rfl <| .g (OpG.gT rfl rfl rfl rfl (fun hg => opMove (.t rfl))) rfl rfl <| .g (OpG.gT rfl rfl rfl rfl (fun hg => opCall (l12list_spec (by omega) hsm.small) Tryd.cb7 (.cons (.when (.t rfl) hg) .nil))) rfl rfl <| .g (OpG.gT rfl rfl rfl rfl (fun hg => (opCallDup (i := 0) (pbody_spec hsm) Tryd.cb10 (.cons (.when (.t rfl) hg) .nil) rfl).le (VLe.of_eq (by rw [hbm])))) rfl rfl <| .g (OpG.gT rfl rfl rfl rfl (fun hg => opMove (.t rfl))) rfl rfl <| .g (OpG.gT rfl rfl rfl rfl (fun hg => opCall (same23_spec hm.small) Tryd.cb9 (.cons (.when (.t rfl) hg) (.cons (.when (.t rfl) hg) .nil)))) rfl rfl <| .p (opAnd (.t rfl) (.t rfl)) rfl <| .p (opAssign (.t rfl)) rfl <| .nil ?_)
          refine EndT.thenN ?_
          refine CodeT.ret (Post.retP rfl rfl ?_)
          exact VLe.prop (by simp)

end Go.Proofs.YtgmpadhfgohodaaDoor
