/-
  Walks, printed by a program (gen.py) out of what its author says of each function.
-/
import Derived.Test.YtgmpadhfgohodaaDoorP23W
namespace Go.Proofs.YtgmpadhfgohodaaDoor
open Go.Hl Go.RowKit
set_option linter.unusedVariables false
set_option maxRecDepth 100000

set_option maxHeartbeats 1000000 in
theorem pone_spec {x : InstrD} {a : Nat} (hp0 : a < 18446744073709551616) : FnE Tryd.prog 27 [aggV (encInstr x), uV a] [tabH 0 .u8 Lib.deBruijn64tab] (γ := Unit) (fun _ => True) (fun _ => []) (fun _ => tupV [aggV (encInstr ((oneC x.Code a).elim zerI (mkI (outC x.Code)))), propV ((oneC x.Code a).isSome = true)]) := by
  refine FnE.intro 72 Tryd.func27 rfl rfl rfl fun w0 S0 M => ?_
  refine CodeT.seq ?_
  refine CodeT.region (.p (opBoxA (.t rfl)) rfl <| .n (opAlloc Tryd.zb41) rfl <| fun b4 _ => .p (opAssign .cf) rfl <| .nil ?_)
  refine EndT.thenN ?_
  refine CodeT.seq ?_
  refine CodeT.seq ?_
  refine CodeT.region (.p (opField Tryd.fd41_0 (.t rfl)) rfl <| .p (opLoad Tryd.ag3 (.t rfl)) rfl <| .p (opEql (.t rfl) (.c _)) rfl <| .nil ?_)
  refine EndT.thenN ?_
  refine CodeT.cond (.t rfl) (fun c0 => ?_) (fun c0 => ?_)
  ·
    have ho : oneC x.Code a = some (a % 4294967296) := by rw [c0]; rfl
    rw [ho]
    refine CodeT.seq ?_
    refine CodeT.draw 4 3 Tryd.mixed (by kernel_rfl) (.p (opField Tryd.fd41_0 (.t rfl)) <| .p (opLoad Tryd.ag3 (.t rfl)) <| .p (opMove (.t rfl)) <| .p (opCall (cwrap_spec hp0) Tryd.cb39 (.cons (.t rfl) .nil)) <| .nil) (.p (opCall (pof_spec (find_code (by omega)).1) Tryd.cb38 (.cons (.t rfl) (.cons (.t rfl) .nil))) rfl <| .s (opStoreOA (i := 0) Tryd.cz41 rfl (.t rfl) (.t rfl) rfl rfl rfl) <| .p (opAssign .ct) rfl <| .nil ?_)
    refine EndT.thenN ?_
    refine CodeT.ret (EndT.thenR (Post.retR rfl rfl () trivial (fun _ _ _ _ => trivial) rfl (.cons (.ra (i := 0) Tryd.ag41 Tryd.cz41 rfl rfl rfl rfl) ?_ (.cons (.rt rfl) ?_ .nil))))
    · exact VLe.refl _
    · exact VLe.prop (by simp)
  ·
    refine CodeT.skip (EndT.thenN ?_)
    refine CodeT.seq ?_
    refine CodeT.seq ?_
    refine CodeT.region (.p (opField Tryd.fd41_0 (.t rfl)) rfl <| .p (opLoad Tryd.ag3 (.t rfl)) rfl <| .p (opCall (pext_spec) Tryd.cb40 (.cons (.t rfl) .nil)) rfl <| .p (opMove (.t rfl)) rfl <| .p (opExtract (.t rfl) rfl) rfl <| .p (opExtract (.t rfl) rfl) rfl <| .p (opExtract (.t rfl) rfl) rfl <| .p (opAssign (.t rfl)) rfl <| .p (opAssign (.t rfl)) rfl <| .p (opAssign (.t rfl)) rfl <| .nil ?_)
    refine EndT.thenN ?_
    refine CodeT.seq ?_
    refine CodeT.region (.p (opMove (.t rfl)) rfl <| .p (opGtr (.t rfl) (.c _)) rfl <| .nil ?_)
    refine EndT.thenN ?_
    refine CodeT.cond (.t rfl) (fun c1 => ?_) (fun c1 => ?_)
    ·
      have ho := one_ext (a := a) c1
      rw [ho]
      have hcs := ext_codes c1
      refine CodeT.seq ?_
      refine CodeT.region (.p (opMove (.t rfl)) rfl <| .p (opMove (.t rfl)) rfl <| .p (opMove (.t rfl)) rfl <| .p (opMove (.t rfl)) rfl <| .p (opCall (cextend_spec (ext_ok c1).1 (ext_ok c1).2 hp0) Tryd.cb41 (.cons (.t rfl) (.cons (.t rfl) (.cons (.t rfl) (.cons (.t rfl) .nil))))) rfl <| .p (opMove (.t rfl)) rfl <| .p (opExtract (.t rfl) rfl) rfl <| .p (opExtract (.t rfl) rfl) rfl <| .p (opAssign (.t rfl)) rfl <| .p (opAssign (.t rfl)) rfl <| .nil ?_)
      refine EndT.thenN ?_
      refine CodeT.seq ?_
      refine CodeT.region (.p (opField Tryd.fd41_0 (.t rfl)) rfl <| .p (opLoad Tryd.ag3 (.t rfl)) rfl <| .p (opMove (.t rfl)) rfl <| .p (opCall (pof_spec (find_code (by omega)).1) Tryd.cb38 (.cons (.t rfl) (.cons (.t rfl) .nil))) rfl <| .s (opStoreOA (i := 0) Tryd.cz41 rfl (.t rfl) (.t rfl) rfl rfl rfl) <| .p (opAssign .ct) rfl <| .nil ?_)
      refine EndT.thenN ?_
      refine CodeT.ret (EndT.thenR (Post.retR rfl rfl () trivial (fun _ _ _ _ => trivial) rfl (.cons (.ra (i := 0) Tryd.ag41 Tryd.cz41 rfl rfl rfl rfl) ?_ (.cons (.rt rfl) ?_ .nil))))
      · exact VLe.refl _
      · exact VLe.prop (by simp)
    ·
      refine CodeT.skip (EndT.thenN ?_)
      refine CodeT.seq ?_
      refine CodeT.region (.p (opField Tryd.fd41_0 (.t rfl)) rfl <| .p (opLoad Tryd.ag3 (.t rfl)) rfl <| .p (opCall (numeric_spec) Tryd.cb42 (.cons (.t rfl) .nil)) rfl <| .p (opMove (.t rfl)) rfl <| .p (opExtract (.t rfl) rfl) rfl <| .p (opExtract (.t rfl) rfl) rfl <| .p (opExtract (.t rfl) rfl) rfl <| .p (opExtract (.t rfl) rfl) rfl <| .p (opAssign (.t rfl)) rfl <| .p (opAssign (.t rfl)) rfl <| .p (opAssign (.t rfl)) rfl <| .p (opAssign (.t rfl)) rfl <| .nil ?_)
      refine EndT.thenN ?_
      refine CodeT.seq ?_
      refine CodeT.seq ?_
      refine CodeT.region (.p (opMove (.t rfl)) rfl <| .p (opNot (.t rfl)) rfl <| .p (opMove (.t rfl)) rfl <| .g (OpG.gF rfl rfl rfl rfl (fun hg => opMove (.t rfl))) rfl rfl <| .g (OpG.gF rfl rfl rfl rfl (fun hg => opNeq (.when (.t rfl) hg) (.c _))) rfl rfl <| .p (opOr (.t rfl) (.t rfl)) rfl <| .nil ?_)
      refine EndT.thenN ?_
      refine CodeT.cond (.t rfl) (fun c2 => ?_) (fun c2 => ?_)
      ·
        have ho := one_no (a := a) c2 c0 c1
        rw [ho]
        refine CodeT.seq ?_
        refine CodeT.region (.p (opBuild Tryd.pl41 Tryd.zb41 .nil rfl) rfl <| .s (opStoreOA (i := 0) Tryd.cz41 rfl (.t rfl) (.t rfl) rfl rfl rfl) <| .p (opAssign .cf) rfl <| .nil ?_)
        refine EndT.thenN ?_
        refine CodeT.ret (EndT.thenR (Post.retR rfl rfl () trivial (fun _ _ _ _ => trivial) rfl (.cons (.ra (i := 0) Tryd.ag41 Tryd.cz41 rfl rfl rfl rfl) ?_ (.cons (.rt rfl) ?_ .nil))))
        · exact zer_le
        · exact VLe.prop (by simp)
      ·
        obtain ⟨⟨g, n, b⟩, hno⟩ := Option.isSome_iff_exists.1 (Classical.byContradiction fun h => c2 (.inl h))
        simp only [hno, Option.getD_some] at c2 ⊢
        obtain rfl : g = 2 := Classical.byContradiction fun h => c2 (.inr h)
        obtain ⟨hb, hn, ho⟩ := one_num (a := a) hno
        rw [ho]
        have hcs := num_code hno
        refine CodeT.skip (EndT.thenN ?_)
        refine CodeT.seq ?_
        refine CodeT.region (.p (opMove (.t rfl)) rfl <| .p ((opMove (.t rfl)).le (VLe.int (show b = ((b.toNat : Nat) : Int) by omega))) rfl <| .p (opMove (.t rfl)) rfl <| .p (opCallDup (i := 1) (wunary_spec (n := b.toNat) (by unfold WN; omega) hp0 hn.1 hn.2) Tryd.cb43 (.cons (.t rfl) (.cons (.t rfl) (.cons (.t rfl) .nil))) rfl) rfl <| .p (opMove (.t rfl)) rfl <| .p (opExtract (.t rfl) rfl) rfl <| .p (opExtract (.t rfl) rfl) rfl <| .p (opAssign (.t rfl)) rfl <| .p (opAssign (.t rfl)) rfl <| .nil ?_)
        refine EndT.thenN ?_
        refine CodeT.seq ?_
        refine CodeT.region (.p (opField Tryd.fd41_0 (.t rfl)) rfl <| .p (opLoad Tryd.ag3 (.t rfl)) rfl <| .p (opMove (.t rfl)) rfl <| .p (opCall (pof_spec (find_code (by omega)).1) Tryd.cb38 (.cons (.t rfl) (.cons (.t rfl) .nil))) rfl <| .s (opStoreOA (i := 0) Tryd.cz41 rfl (.t rfl) (.t rfl) rfl rfl rfl) <| .p (opAssign .ct) rfl <| .nil ?_)
        refine EndT.thenN ?_
        refine CodeT.ret (Post.retR rfl rfl () trivial (fun _ _ _ _ => trivial) rfl (.cons (.ra (i := 0) Tryd.ag41 Tryd.cz41 rfl rfl rfl rfl) ?_ (.cons (.rt rfl) ?_ .nil)))
        · exact VLe.refl _
        · exact VLe.prop (by simp)

set_option maxHeartbeats 1000000 in
theorem ptwo_spec {x : InstrD} {a b : Nat} (hp0 : a < 18446744073709551616) (hp1 : b < 18446744073709551616) : FnP Tryd.prog 28 [aggV (encInstr x), uV a, uV b] (tupV [aggV (encInstr (twoI x.Code a b)), propV (twoOk x.Code a b)]) := by
  refine FnE.intro 61 Tryd.func28 rfl rfl rfl fun w0 S0 M => ?_
  refine CodeT.seq ?_
  refine CodeT.region (.p (opBoxA (.t rfl)) rfl <| .n (opAlloc Tryd.zb41) rfl <| fun b6 _ => .p (opAssign .cf) rfl <| .nil ?_)
  refine EndT.thenN ?_
  refine CodeT.seq ?_
  refine CodeT.region (.p (opField Tryd.fd41_0 (.t rfl)) rfl <| .p (opLoad Tryd.ag3 (.t rfl)) rfl <| .p (opCall (numeric_spec) Tryd.cb42 (.cons (.t rfl) .nil)) rfl <| .p (opMove (.t rfl)) rfl <| .p (opExtract (.t rfl) rfl) rfl <| .p (opExtract (.t rfl) rfl) rfl <| .p (opExtract (.t rfl) rfl) rfl <| .p (opExtract (.t rfl) rfl) rfl <| .p (opAssign (.t rfl)) rfl <| .p (opAssign (.t rfl)) rfl <| .p (opAssign (.t rfl)) rfl <| .p (opAssign (.t rfl)) rfl <| .nil ?_)
  refine EndT.thenN ?_
  refine CodeT.seq ?_
  refine CodeT.seq ?_
  refine CodeT.region (.p (opMove (.t rfl)) rfl <| .p (opNot (.t rfl)) rfl <| .p (opMove (.t rfl)) rfl <| .g (OpG.gF rfl rfl rfl rfl (fun hg => opMove (.t rfl))) rfl rfl <| .g (OpG.gF rfl rfl rfl rfl (fun hg => opEql (.when (.t rfl) hg) (.c _))) rfl rfl <| .p (opOr (.t rfl) (.t rfl)) rfl <| .nil ?_)
  refine EndT.thenN ?_
  refine CodeT.cond (.t rfl) (fun c0 => ?_) (fun c0 => ?_)
  ·
    have hz := num_zero c0
    rw [twoI_no hz]
    have hzo := two_no (a := a) (b := b) hz
    refine CodeT.seq ?_
    refine CodeT.region (.p (opBuild Tryd.pl41 Tryd.zb41 .nil rfl) rfl <| .s (opStoreOA (i := 0) Tryd.cz41 rfl (.t rfl) (.t rfl) rfl rfl rfl) <| .p (opAssign .cf) rfl <| .nil ?_)
    refine EndT.thenN ?_
    refine CodeT.ret (EndT.thenR (Post.retR rfl rfl () trivial (fun _ _ _ _ => trivial) rfl (.cons (.ra (i := 0) Tryd.ag41 Tryd.cz41 rfl rfl rfl rfl) ?_ (.cons (.rt rfl) ?_ .nil))))
    · exact zer_le
    · exact VLe.prop (by simp [hzo])
  ·
    obtain ⟨⟨g, n, w⟩, hno⟩ := Option.isSome_iff_exists.1 (Classical.byContradiction fun h => c0 (.inl h))
    simp only [hno, Option.getD_some] at c0 ⊢
    have hg2 : ¬ g = 2 := fun h => c0 (.inr h)
    rw [twoI_of hno hg2]
    have hcs := num_code hno
    refine CodeT.skip (EndT.thenN ?_)
    refine CodeT.seq ?_
    refine CodeT.seq ?_
    refine CodeT.region (.p (opMove (.t rfl)) rfl <| .p (opEql (.t rfl) (.c _)) rfl <| .nil ?_)
    refine EndT.thenN ?_
    refine CodeT.cond (.t rfl) (fun c1 => ?_) (fun c1 => ?_)
    ·
      subst c1
      obtain ⟨hb, hn, hv, ho⟩ := two_test (x := a) (y := b) hno
      rw [hv]
      refine CodeT.seq ?_
      refine CodeT.region (.p (opMove (.t rfl)) rfl <| .p ((opMove (.t rfl)).le (VLe.int (show w = ((w.toNat : Nat) : Int) by omega))) rfl <| .p (opMove (.t rfl)) rfl <| .p (opMove (.t rfl)) rfl <| .p (opCall (wtest_spec (n := w.toNat) (by unfold WN; omega) hp0 hp1 hn.1 hn.2) Tryd.cb44 (.cons (.t rfl) (.cons (.t rfl) (.cons (.t rfl) (.cons (.t rfl) .nil))))) rfl <| .p (opMove (.t rfl)) rfl <| .p (opExtract (.t rfl) rfl) rfl <| .p (opExtract (.t rfl) rfl) rfl <| .p (opAssign (.t rfl)) rfl <| .p (opAssign (.t rfl)) rfl <| .nil ?_)
      refine EndT.thenN ?_
      refine CodeT.seq ?_
      refine CodeT.region (.p (opField Tryd.fd41_0 (.t rfl)) rfl <| .p (opLoad Tryd.ag3 (.t rfl)) rfl <| .p (opMove (.t rfl)) rfl <| .p (opCall (pof_spec (find_code (by omega)).1) Tryd.cb38 (.cons (.t rfl) (.cons (.t rfl) .nil))) rfl <| .s (opStoreOA (i := 0) Tryd.cz41 rfl (.t rfl) (.t rfl) rfl rfl rfl) <| .p (opAssign .ct) rfl <| .nil ?_)
      refine EndT.thenN ?_
      refine CodeT.ret (EndT.thenR (Post.retR rfl rfl () trivial (fun _ _ _ _ => trivial) rfl (.cons (.ra (i := 0) Tryd.ag41 Tryd.cz41 rfl rfl rfl rfl) ?_ (.cons (.rt rfl) ?_ .nil))))
      · exact VLe.refl _
      · exact VLe.prop (by simp [ho])
    ·
      have hg0 := num_group hno hg2 c1
      subst hg0
      obtain ⟨hb, hn, hv, ho⟩ := two_bin (x := a) (y := b) hno
      rw [hv]
      refine CodeT.skip (EndT.thenN ?_)
      refine CodeT.seq ?_
      refine CodeT.region (.p (opMove (.t rfl)) rfl <| .p ((opMove (.t rfl)).le (VLe.int (show w = ((w.toNat : Nat) : Int) by omega))) rfl <| .p (opMove (.t rfl)) rfl <| .p (opMove (.t rfl)) rfl <| .p (opCall (wbinary_spec (n := w.toNat) (by unfold WN; omega) hp0 hp1 hn.1 hn.2) Tryd.cb45 (.cons (.t rfl) (.cons (.t rfl) (.cons (.t rfl) (.cons (.t rfl) .nil))))) rfl <| .p (opMove (.t rfl)) rfl <| .p (opExtract (.t rfl) rfl) rfl <| .p (opExtract (.t rfl) rfl) rfl <| .p (opExtract (.t rfl) rfl) rfl <| .p (opAssign (.t rfl)) rfl <| .p (opAssign (.t rfl)) rfl <| .p (opAssign (.t rfl)) rfl <| .nil ?_)
      refine EndT.thenN ?_
      refine CodeT.seq ?_
      refine CodeT.region (.p (opField Tryd.fd41_0 (.t rfl)) rfl <| .p (opLoad Tryd.ag3 (.t rfl)) rfl <| .p (opMove (.t rfl)) rfl <| .p (opCall (pof_spec (find_code (by omega)).1) Tryd.cb38 (.cons (.t rfl) (.cons (.t rfl) .nil))) rfl <| .p (opMove (.t rfl)) rfl <| .p (opEql (.t rfl) (.c _)) rfl <| .s (opStoreOA (i := 0) Tryd.cz41 rfl (.t rfl) (.t rfl) rfl rfl rfl) <| .p (opAssign (.t rfl)) rfl <| .nil ?_)
      refine EndT.thenN ?_
      refine CodeT.ret (Post.retR rfl rfl () trivial (fun _ _ _ _ => trivial) rfl (.cons (.ra (i := 0) Tryd.ag41 Tryd.cz41 rfl rfl rfl rfl) ?_ (.cons (.rt rfl) ?_ .nil)))
      · exact VLe.refl _
      · exact VLe.prop ho.symm

theorem pnops_spec {l : List InstrD} {i : Nat} (hp0 : SmL l 60000) (hp1 : i < l.length) : FnP Tryd.prog 12 [sliceV 5 encInstr (l), iV (i : Int)] (stV l i 0) := by
  refine FnE.intro 15 Tryd.func12 rfl rfl rfl fun w0 S0 M => ?_
  have hll := hp0.len
  obtain ⟨ha1, ha2⟩ := okA (hp0.gI (i := i))
  obtain ⟨hb1, hb2⟩ := okA (hp0.gI (i := i + 1))
  refine CodeT.seq ?_
  refine CodeT.region (.p (opAssign (.c _)) rfl <| .p (opAssign .cf) rfl <| .nil ?_)
  refine EndT.thenN ?_
  refine CodeT.seq ?_
  refine CodeT.seq ?_
  refine CodeT.region (.p (opMove (.t rfl)) rfl <| .p (opMove (.t rfl)) rfl <| .p (opIndexAddr (j := i) Tryd.underlying28 Tryd.cz41 rfl (.t rfl) (.t rfl) rfl (gI_in (by omega))) rfl <| .p (opField Tryd.fd41_0 (.t rfl)) rfl <| .p (opLoad Tryd.ag3 (.t rfl)) rfl <| .p (opNeq (.t rfl) (.c _)) rfl <| .nil ?_)
  refine EndT.thenN ?_
  refine CodeT.cond (.t rfl) (fun c0 => ?_) (fun c0 => ?_)
  ·
    refine CodeT.seq ?_
    refine CodeT.region (.p (opAssign (.c _)) rfl <| .p (opAssign .cf) rfl <| .nil ?_)
    refine EndT.thenN ?_
    refine CodeT.ret (EndT.thenR (Post.retR rfl rfl () trivial (fun _ _ _ _ => trivial) rfl (.cons (.rt rfl) ?_ (.cons (.rt rfl) ?_ .nil))))
    · rw [f0_no c0]; exact sliceV_nil 5 encInstr
    · exact VLe.prop (by rw [f0_no c0]; simp)
  ·
    refine CodeT.skip (EndT.thenN ?_)
    refine CodeT.seq ?_
    refine CodeT.region (.p (opMove (.t rfl)) rfl <| .p (opMove (.t rfl)) rfl <| .p (opCall (pcut_spec (n := 1) (ins := []) (by omega) (by simp; omega)) Tryd.cb25 (.cons (.t rfl) (.cons (.t rfl) (.cons (.c _) (.cons (.le (.c _) (sliceV_nil 5 encInstr)) .nil))))) rfl <| .p (opAssign (.t rfl)) rfl <| .p (opAssign .ct) rfl <| .nil ?_)
    refine EndT.thenN ?_
    refine CodeT.ret (Post.retR rfl rfl () trivial (fun _ _ _ _ => trivial) rfl (.cons (.rt rfl) ?_ (.cons (.rt rfl) ?_ .nil)))
    · rw [f0_yes (Classical.not_not.1 c0)]; exact VLe.refl _
    · exact VLe.prop (by rw [f0_yes (Classical.not_not.1 c0)]; simp)

theorem pfolds_spec {l : List InstrD} {i : Nat} (hp0 : SmL l 60000) (hp1 : i < l.length) : FnE Tryd.prog 13 [sliceV 5 encInstr (l), iV (i : Int)] [tabH 0 .u8 Lib.deBruijn64tab] (γ := Unit) (fun _ => True) (fun _ => []) (fun _ => stV l i 1) := by
  refine FnE.intro 42 Tryd.func13 rfl rfl rfl fun w0 S0 M => ?_
  have hll := hp0.len
  obtain ⟨ha1, ha2⟩ := okA (hp0.gI (i := i))
  obtain ⟨hb1, hb2⟩ := okA (hp0.gI (i := i + 1))
  refine CodeT.seq ?_
  refine CodeT.region (.p (opAssign (.c _)) rfl <| .p (opAssign .cf) rfl <| .nil ?_)
  refine EndT.thenN ?_
  refine CodeT.seq ?_
  refine CodeT.seq ?_
  refine CodeT.region (.p (opMove (.t rfl)) rfl <| .p (opAddF (.t rfl) (.c _) (fits_i64 (by omega) (by omega))) rfl <| .p (opMove (.t rfl)) rfl <| .p (opLen rfl Tryd.underlying28 (.t rfl)) rfl <| .p (opGeq (.t rfl) (.t rfl)) rfl <| .p (opMove (.t rfl)) rfl <| .g (OpG.gF rfl rfl rfl rfl (fun hg => opMove (.t rfl))) rfl rfl <| .g (OpG.gF rfl rfl rfl rfl (fun hg => opMove (.t rfl))) rfl rfl <| .g (OpG.gF rfl rfl rfl rfl (fun hg => opIndexAddr (j := i) Tryd.underlying28 Tryd.cz41 rfl (.when (.t rfl) hg) (.when (.t rfl) hg) rfl (gI_in (by omega)))) rfl rfl <| .g (OpG.gF rfl rfl rfl rfl (fun hg => opLoadA Tryd.ag41 Tryd.cz41 rfl (.when (.t rfl) hg) rfl)) rfl rfl <| .g (OpG.gF rfl rfl rfl rfl (fun hg => opCall (pconst_spec) Tryd.cb26 (.cons (.when (.t rfl) hg) .nil))) rfl rfl <| .g (OpG.gF rfl rfl rfl rfl (fun hg => opNot (.when (.t rfl) hg))) rfl rfl <| .p (opOr (.t rfl) (.t rfl)) rfl <| .nil ?_)
  refine EndT.thenN ?_
  refine CodeT.cond (.t rfl) (fun c0 => ?_) (fun c0 => ?_)
  ·
    refine CodeT.seq ?_
    refine CodeT.region (.p (opAssign (.c _)) rfl <| .p (opAssign .cf) rfl <| .nil ?_)
    refine EndT.thenN ?_
    refine CodeT.ret (EndT.thenR (Post.retR rfl rfl () trivial (fun _ _ _ _ => trivial) rfl (.cons (.rt rfl) ?_ (.cons (.rt rfl) ?_ .nil))))
    · rw [f1_a c0]; exact sliceV_nil 5 encInstr
    · exact VLe.prop (by rw [f1_a c0]; simp)
  ·
    have hlt : i + 1 < l.length := by omega
    have hcx : isC (gI l i) := Classical.byContradiction fun h => c0 (.inr h)
    refine CodeT.skip (EndT.thenN ?_)
    refine CodeT.seq ?_
    refine CodeT.staged [(0, 0), (1, 0), (2, 0), (3, 0), (4, 0), (5, 0), (6, 0), (7, 0), (8, 0), (9, 0), (10, 1), (11, 0), (12, 0), (13, 0), (14, 4), (15, 3)] 16 1 Tryd.mixed (by kernel_rfl) (.p rfl (fun _ => opMove (.t rfl)) <| .p rfl (fun _ => opMove (.t rfl)) <| .p rfl (fun _ => opAddF (.t rfl) (.c _) (fits_i64 (by omega) (by omega))) <| .p rfl (fun _ => opIndexAddr (j := i + 1) Tryd.underlying28 Tryd.cz41 rfl (.t rfl) (.t rfl) (by omega) (gI_in (by omega))) <| .p rfl (fun _ => opLoadA Tryd.ag41 Tryd.cz41 rfl (.t rfl) rfl) <| .p rfl (fun _ => opMove (.t rfl)) <| .p rfl (fun _ => opMove (.t rfl)) <| .p rfl (fun _ => opIndexAddr (j := i) Tryd.underlying28 Tryd.cz41 rfl (.t rfl) (.t rfl) rfl (gI_in (by omega))) <| .p rfl (fun _ => opField Tryd.fd41_1 (.t rfl)) <| .p rfl (fun _ => (opLoad Tryd.ag37 (.t rfl)).le (VLe.int ha1)) <| .o rfl (opCallDup (i := 0) (pone_spec (a := XA l i) ha2) Tryd.cb27 (.cons (.t rfl) (.cons (.t rfl) .nil)) rfl) <| .p rfl (fun _ => opMove (.t rfl)) <| .p rfl (fun _ => opExtract (.t rfl) rfl) <| .p rfl (fun _ => opExtract (.t rfl) rfl) <| .a rfl (opAlloc Tryd.zb41) (fun _ _ => OLe.drop (OLe.refl _)) <| fun b6 _ => .s rfl (opStoreOA (i := 0) Tryd.cz41 rfl (.t rfl) (.t rfl) rfl rfl rfl) <| .fin (.p (opAssign (.t rfl)) rfl <| .nil ?_))
    refine EndT.thenN ?_
    refine CodeT.seq ?_
    refine CodeT.seq ?_
    refine CodeT.region (.p (opMove (.t rfl)) rfl <| .p (opNot (.t rfl)) rfl <| .nil ?_)
    refine EndT.thenN ?_
    refine CodeT.cond (.t rfl) (fun c1 => ?_) (fun c1 => ?_)
    ·
      have ho : oneC (gI l (i + 1)).Code (XA l i) = none := by simpa using c1
      refine CodeT.seq ?_
      refine CodeT.region (.p (opAssign (.c _)) rfl <| .p (opAssign .cf) rfl <| .nil ?_)
      refine EndT.thenN ?_
      refine CodeT.ret (EndT.thenR (Post.retR rfl rfl () trivial (fun _ _ _ _ => trivial) rfl (.cons (.rt rfl) ?_ (.cons (.rt rfl) ?_ .nil))))
      · rw [f1_b ho]; exact sliceV_nil 5 encInstr
      · exact VLe.prop (by rw [f1_b ho]; simp)
    ·
      obtain ⟨v, ho⟩ := Option.isSome_iff_exists.1 (Classical.not_not.1 c1)
      refine CodeT.skip (EndT.thenN ?_)
      refine CodeT.seq ?_
      refine CodeT.region (.p (opMove (.t rfl)) rfl <| .p (opMove (.t rfl)) rfl <| .p (opLoadOA (i := 0) Tryd.ag41 Tryd.cz41 rfl (.t rfl) rfl rfl) rfl <| .p (opBuildSlice (enc := encInstr) [(oneC (gI l (i + 1)).Code (XA l i)).elim zerI (mkI (outC (gI l (i + 1)).Code))] Tryd.underlying28 Tryd.cz41 rfl Tryd.zb41 rfl (.cons (.t rfl) .nil) rfl rfl rfl rfl rfl) rfl <| .p (opCall (pcut_spec (n := 2) (by omega) (by simp; omega)) Tryd.cb25 (.cons (.t rfl) (.cons (.t rfl) (.cons (.c _) (.cons (.t rfl) .nil))))) rfl <| .p (opAssign (.t rfl)) rfl <| .p (opAssign .ct) rfl <| .nil ?_)
      refine EndT.thenN ?_
      refine CodeT.ret (Post.retR rfl rfl () trivial (fun _ _ _ _ => trivial) rfl (.cons (.rt rfl) ?_ (.cons (.rt rfl) ?_ .nil)))
      · rw [f1_c hcx ho]; exact VLe.of_eq (by rw [ho]; rfl)
      · exact VLe.prop (by rw [f1_c hcx ho]; simp)

theorem ppairs_spec {l : List InstrD} {i : Nat} (hp0 : SmL l 60000) (hp1 : i < l.length) : FnP Tryd.prog 14 [sliceV 5 encInstr (l), iV (i : Int)] (stV l i 2) := by
  refine FnE.intro 57 Tryd.func14 rfl rfl rfl fun w0 S0 M => ?_
  have hll := hp0.len
  obtain ⟨ha1, ha2⟩ := okA (hp0.gI (i := i))
  obtain ⟨hb1, hb2⟩ := okA (hp0.gI (i := i + 1))
  refine CodeT.seq ?_
  refine CodeT.region (.p (opAssign (.c _)) rfl <| .p (opAssign .cf) rfl <| .nil ?_)
  refine EndT.thenN ?_
  refine CodeT.seq ?_
  refine CodeT.seq ?_
  refine CodeT.region (.p (opMove (.t rfl)) rfl <| .p (opAddF (.t rfl) (.c _) (fits_i64 (by omega) (by omega))) rfl <| .p (opMove (.t rfl)) rfl <| .p (opLen rfl Tryd.underlying28 (.t rfl)) rfl <| .p (opGeq (.t rfl) (.t rfl)) rfl <| .p (opMove (.t rfl)) rfl <| .g (OpG.gF rfl rfl rfl rfl (fun hg => opMove (.t rfl))) rfl rfl <| .g (OpG.gF rfl rfl rfl rfl (fun hg => opMove (.t rfl))) rfl rfl <| .g (OpG.gF rfl rfl rfl rfl (fun hg => opIndexAddr (j := i) Tryd.underlying28 Tryd.cz41 rfl (.when (.t rfl) hg) (.when (.t rfl) hg) rfl (gI_in (by omega)))) rfl rfl <| .g (OpG.gF rfl rfl rfl rfl (fun hg => opLoadA Tryd.ag41 Tryd.cz41 rfl (.when (.t rfl) hg) rfl)) rfl rfl <| .g (OpG.gF rfl rfl rfl rfl (fun hg => opCall (pconst_spec) Tryd.cb26 (.cons (.when (.t rfl) hg) .nil))) rfl rfl <| .g (OpG.gF rfl rfl rfl rfl (fun hg => opNot (.when (.t rfl) hg))) rfl rfl <| .p (opOr (.t rfl) (.t rfl)) rfl <| .p (opMove (.t rfl)) rfl <| .g (OpG.gF rfl rfl rfl rfl (fun hg => opMove (.t rfl))) rfl rfl <| .g (OpG.gF rfl rfl rfl rfl (fun hg => opMove (.t rfl))) rfl rfl <| .g (OpG.gF rfl rfl rfl rfl (fun hg => opAddF (.when (.t rfl) hg) (.c _) (fits_i64 (by omega) (by omega)))) rfl rfl <| .g (OpG.gF rfl rfl rfl rfl (fun hg => opIndexAddr (j := i + 1) Tryd.underlying28 Tryd.cz41 rfl (.when (.t rfl) hg) (.when (.t rfl) hg) (by omega) (gI_in (by omega)))) rfl rfl <| .g (OpG.gF rfl rfl rfl rfl (fun hg => opLoadA Tryd.ag41 Tryd.cz41 rfl (.when (.t rfl) hg) rfl)) rfl rfl <| .g (OpG.gF rfl rfl rfl rfl (fun hg => opCall (pconst_spec) Tryd.cb26 (.cons (.when (.t rfl) hg) .nil))) rfl rfl <| .g (OpG.gF rfl rfl rfl rfl (fun hg => opNot (.when (.t rfl) hg))) rfl rfl <| .p (opOr (.t rfl) (.t rfl)) rfl <| .nil ?_)
  refine EndT.thenN ?_
  refine CodeT.cond (.t rfl) (fun c0 => ?_) (fun c0 => ?_)
  ·
    refine CodeT.seq ?_
    refine CodeT.region (.p (opAssign (.c _)) rfl <| .p (opAssign .cf) rfl <| .nil ?_)
    refine EndT.thenN ?_
    refine CodeT.ret (EndT.thenR (Post.retR rfl rfl () trivial (fun _ _ _ _ => trivial) rfl (.cons (.rt rfl) ?_ (.cons (.rt rfl) ?_ .nil))))
    · rw [f2_a c0]; exact sliceV_nil 5 encInstr
    · exact VLe.prop (by rw [f2_a c0]; simp)
  ·
    have hlt : i + 2 < l.length := by omega
    have hcx : isC (gI l i) := Classical.byContradiction fun h => c0 (.inl (.inr h))
    have hcy : isC (gI l (i + 1)) := Classical.byContradiction fun h => c0 (.inr h)
    refine CodeT.skip (EndT.thenN ?_)
    refine CodeT.seq ?_
    refine CodeT.staged [(0, 0), (1, 0), (2, 0), (3, 0), (4, 0), (5, 0), (6, 0), (7, 0), (8, 0), (9, 0), (10, 0), (11, 0), (12, 0), (13, 0), (14, 0), (15, 0), (16, 0), (17, 0), (18, 0), (19, 0), (20, 4), (21, 3)] 22 1 Tryd.mixed (by kernel_rfl) (.p rfl (fun _ => opMove (.t rfl)) <| .p rfl (fun _ => opMove (.t rfl)) <| .p rfl (fun _ => opAddF (.t rfl) (.c _) (fits_i64 (by omega) (by omega))) <| .p rfl (fun _ => opIndexAddr (j := i + 2) Tryd.underlying28 Tryd.cz41 rfl (.t rfl) (.t rfl) (by omega) (gI_in (by omega))) <| .p rfl (fun _ => opLoadA Tryd.ag41 Tryd.cz41 rfl (.t rfl) rfl) <| .p rfl (fun _ => opMove (.t rfl)) <| .p rfl (fun _ => opMove (.t rfl)) <| .p rfl (fun _ => opIndexAddr (j := i) Tryd.underlying28 Tryd.cz41 rfl (.t rfl) (.t rfl) rfl (gI_in (by omega))) <| .p rfl (fun _ => opField Tryd.fd41_1 (.t rfl)) <| .p rfl (fun _ => (opLoad Tryd.ag37 (.t rfl)).le (VLe.int ha1)) <| .p rfl (fun _ => opMove (.t rfl)) <| .p rfl (fun _ => opMove (.t rfl)) <| .p rfl (fun _ => opAddF (.t rfl) (.c _) (fits_i64 (by omega) (by omega))) <| .p rfl (fun _ => opIndexAddr (j := i + 1) Tryd.underlying28 Tryd.cz41 rfl (.t rfl) (.t rfl) (by omega) (gI_in (by omega))) <| .p rfl (fun _ => opField Tryd.fd41_1 (.t rfl)) <| .p rfl (fun _ => (opLoad Tryd.ag37 (.t rfl)).le (VLe.int hb1)) <| .p rfl (fun _ => opCall (ptwo_spec (a := XA l i) (b := XA l (i + 1)) ha2 hb2) Tryd.cb28 (.cons (.t rfl) (.cons (.t rfl) (.cons (.t rfl) .nil)))) <| .p rfl (fun _ => opMove (.t rfl)) <| .p rfl (fun _ => opExtract (.t rfl) rfl) <| .p rfl (fun _ => opExtract (.t rfl) rfl) <| .a rfl (opAlloc Tryd.zb41) (fun _ _ => OLe.drop (OLe.refl _)) <| fun b6 _ => .s rfl (opStoreOA (i := 0) Tryd.cz41 rfl (.t rfl) (.t rfl) rfl rfl rfl) <| .fin (.p (opAssign (.t rfl)) rfl <| .nil ?_))
    refine EndT.thenN ?_
    refine CodeT.seq ?_
    refine CodeT.seq ?_
    refine CodeT.region (.p (opMove (.t rfl)) rfl <| .p (opNot (.t rfl)) rfl <| .nil ?_)
    refine EndT.thenN ?_
    refine CodeT.cond (.t rfl) (fun c1 => ?_) (fun c1 => ?_)
    ·
      refine CodeT.seq ?_
      refine CodeT.region (.p (opAssign (.c _)) rfl <| .p (opAssign .cf) rfl <| .nil ?_)
      refine EndT.thenN ?_
      refine CodeT.ret (EndT.thenR (Post.retR rfl rfl () trivial (fun _ _ _ _ => trivial) rfl (.cons (.rt rfl) ?_ (.cons (.rt rfl) ?_ .nil))))
      · rw [f2_b c1]; exact sliceV_nil 5 encInstr
      · exact VLe.prop (by rw [f2_b c1]; simp)
    ·
      refine CodeT.skip (EndT.thenN ?_)
      refine CodeT.seq ?_
      refine CodeT.region (.p (opMove (.t rfl)) rfl <| .p (opMove (.t rfl)) rfl <| .p (opLoadOA (i := 0) Tryd.ag41 Tryd.cz41 rfl (.t rfl) rfl rfl) rfl <| .p (opBuildSlice (enc := encInstr) [twoI (gI l (i + 2)).Code (XA l i) (XA l (i + 1))] Tryd.underlying28 Tryd.cz41 rfl Tryd.zb41 rfl (.cons (.t rfl) .nil) rfl rfl rfl rfl rfl) rfl <| .p (opCall (pcut_spec (n := 3) (by omega) (by simp; omega)) Tryd.cb25 (.cons (.t rfl) (.cons (.t rfl) (.cons (.c _) (.cons (.t rfl) .nil))))) rfl <| .p (opAssign (.t rfl)) rfl <| .p (opAssign .ct) rfl <| .nil ?_)
      refine EndT.thenN ?_
      refine CodeT.ret (Post.retR rfl rfl () trivial (fun _ _ _ _ => trivial) rfl (.cons (.rt rfl) ?_ (.cons (.rt rfl) ?_ .nil)))
      · rw [f2_c hcx hcy (Classical.not_not.1 c1)]; exact VLe.refl _
      · exact VLe.prop (by rw [f2_c hcx hcy (Classical.not_not.1 c1)]; simp)

theorem pdrops_spec {l : List InstrD} {i : Nat} (hp0 : SmL l 60000) (hp1 : i < l.length) : FnP Tryd.prog 15 [sliceV 5 encInstr (l), iV (i : Int)] (stV l i 3) := by
  refine FnE.intro 45 Tryd.func15 rfl rfl rfl fun w0 S0 M => ?_
  have hll := hp0.len
  obtain ⟨ha1, ha2⟩ := okA (hp0.gI (i := i))
  obtain ⟨hb1, hb2⟩ := okA (hp0.gI (i := i + 1))
  refine CodeT.seq ?_
  refine CodeT.region (.p (opAssign (.c _)) rfl <| .p (opAssign .cf) rfl <| .nil ?_)
  refine EndT.thenN ?_
  refine CodeT.seq ?_
  refine CodeT.region (.p (opMove (.t rfl)) rfl <| .p (opMove (.t rfl)) rfl <| .p (opIndexAddr (j := i) Tryd.underlying28 Tryd.cz41 rfl (.t rfl) (.t rfl) rfl (gI_in (by omega))) rfl <| .p (opField Tryd.fd41_0 (.t rfl)) rfl <| .p (opLoad Tryd.ag3 (.t rfl)) rfl <| .p (opAssign (.t rfl)) rfl <| .nil ?_)
  refine EndT.thenN ?_
  refine CodeT.seq ?_
  refine CodeT.seq ?_
  refine CodeT.region (.p (opMove (.t rfl)) rfl <| .p (opAddF (.t rfl) (.c _) (fits_i64 (by omega) (by omega))) rfl <| .p (opMove (.t rfl)) rfl <| .p (opLen rfl Tryd.underlying28 (.t rfl)) rfl <| .p (opGeq (.t rfl) (.t rfl)) rfl <| .p (opMove (.t rfl)) rfl <| .g (OpG.gF rfl rfl rfl rfl (fun hg => opMove (.t rfl))) rfl rfl <| .g (OpG.gF rfl rfl rfl rfl (fun hg => opMove (.t rfl))) rfl rfl <| .g (OpG.gF rfl rfl rfl rfl (fun hg => opAddF (.when (.t rfl) hg) (.c _) (fits_i64 (by omega) (by omega)))) rfl rfl <| .g (OpG.gF rfl rfl rfl rfl (fun hg => opIndexAddr (j := i + 1) Tryd.underlying28 Tryd.cz41 rfl (.when (.t rfl) hg) (.when (.t rfl) hg) (by omega) (gI_in (by omega)))) rfl rfl <| .g (OpG.gF rfl rfl rfl rfl (fun hg => opField Tryd.fd41_0 (.when (.t rfl) hg))) rfl rfl <| .g (OpG.gF rfl rfl rfl rfl (fun hg => opLoad Tryd.ag3 (.when (.t rfl) hg))) rfl rfl <| .g (OpG.gF rfl rfl rfl rfl (fun hg => opNeq (.when (.t rfl) hg) (.c _))) rfl rfl <| .p (opOr (.t rfl) (.t rfl)) rfl <| .p (opMove (.t rfl)) rfl <| .g (OpG.gF rfl rfl rfl rfl (fun hg => opMove (.t rfl))) rfl rfl <| .g (OpG.gF rfl rfl rfl rfl (fun hg => opMove (.t rfl))) rfl rfl <| .g (OpG.gF rfl rfl rfl rfl (fun hg => opIndexAddr (j := i) Tryd.underlying28 Tryd.cz41 rfl (.when (.t rfl) hg) (.when (.t rfl) hg) rfl (gI_in (by omega)))) rfl rfl <| .g (OpG.gF rfl rfl rfl rfl (fun hg => opLoadA Tryd.ag41 Tryd.cz41 rfl (.when (.t rfl) hg) rfl)) rfl rfl <| .g (OpG.gF rfl rfl rfl rfl (fun hg => opCall (pconst_spec) Tryd.cb26 (.cons (.when (.t rfl) hg) .nil))) rfl rfl <| .g (OpG.gF rfl rfl rfl rfl (fun hg => opNot (.when (.t rfl) hg))) rfl rfl <| .g (OpG.gF rfl rfl rfl rfl (fun hg => opMove (.when (.t rfl) hg))) rfl rfl <| .g (OpG.hT rfl rfl rfl rfl (fun hg => opMove (.t rfl))) rfl rfl <| .g (OpG.hT rfl rfl rfl rfl (fun hg => opNeq (.when (.t rfl) hg) (.c _))) rfl rfl <| .g (OpG.gF rfl rfl rfl rfl (fun hg => opAnd (.when (.t rfl) hg) (.under (.t rfl) hg))) rfl rfl <| .g (OpG.gF rfl rfl rfl rfl (fun hg => opMove (.when (.t rfl) hg))) rfl rfl <| .g (OpG.hT rfl rfl rfl rfl (fun hg => opMove (.t rfl))) rfl rfl <| .g (OpG.hT rfl rfl rfl rfl (fun hg => opNeq (.when (.t rfl) hg) (.c _))) rfl rfl <| .g (OpG.gF rfl rfl rfl rfl (fun hg => opAnd (.when (.t rfl) hg) (.under (.t rfl) hg))) rfl rfl <| .p (opOr (.t rfl) (.t rfl)) rfl <| .nil ?_)
  refine EndT.thenN ?_
  refine CodeT.cond (.t rfl) (fun c0 => ?_) (fun c0 => ?_)
  ·
    refine CodeT.seq ?_
    refine CodeT.region (.p (opAssign (.c _)) rfl <| .p (opAssign .cf) rfl <| .nil ?_)
    refine EndT.thenN ?_
    refine CodeT.ret (EndT.thenR (Post.retR rfl rfl () trivial (fun _ _ _ _ => trivial) rfl (.cons (.rt rfl) ?_ (.cons (.rt rfl) ?_ .nil))))
    · rw [f3_no c0]; exact sliceV_nil 5 encInstr
    · exact VLe.prop (by rw [f3_no c0]; simp)
  ·
    refine CodeT.skip (EndT.thenN ?_)
    refine CodeT.seq ?_
    refine CodeT.region (.p (opMove (.t rfl)) rfl <| .p (opMove (.t rfl)) rfl <| .p (opCall (pcut_spec (n := 2) (ins := []) (by omega) (by simp; omega)) Tryd.cb25 (.cons (.t rfl) (.cons (.t rfl) (.cons (.c _) (.cons (.le (.c _) (sliceV_nil 5 encInstr)) .nil))))) rfl <| .p (opAssign (.t rfl)) rfl <| .p (opAssign .ct) rfl <| .nil ?_)
    refine EndT.thenN ?_
    refine CodeT.ret (Post.retR rfl rfl () trivial (fun _ _ _ _ => trivial) rfl (.cons (.rt rfl) ?_ (.cons (.rt rfl) ?_ .nil)))
    · rw [f3_yes c0]; exact VLe.refl _
    · exact VLe.prop (by rw [f3_yes c0]; simp)

theorem ptees_spec {l : List InstrD} {i : Nat} (hp0 : SmL l 60000) (hp1 : i < l.length) : FnP Tryd.prog 16 [sliceV 5 encInstr (l), iV (i : Int)] (stV l i 4) := by
  refine FnE.intro 52 Tryd.func16 rfl rfl rfl fun w0 S0 M => ?_
  have hll := hp0.len
  obtain ⟨ha1, ha2⟩ := okA (hp0.gI (i := i))
  obtain ⟨hb1, hb2⟩ := okA (hp0.gI (i := i + 1))
  refine CodeT.seq ?_
  refine CodeT.region (.p (opAssign (.c _)) rfl <| .p (opAssign .cf) rfl <| .nil ?_)
  refine EndT.thenN ?_
  refine CodeT.seq ?_
  refine CodeT.seq ?_
  refine CodeT.draw 34 2 Tryd.mixed (by kernel_rfl) (.p (opMove (.t rfl)) <| .p (opAddF (.t rfl) (.c _) (fits_i64 (by omega) (by omega))) <| .p (opMove (.t rfl)) <| .p (opLen rfl Tryd.underlying28 (.t rfl)) <| .p (opGeq (.t rfl) (.t rfl)) <| .p (opMove (.t rfl)) <| .cons (OpG.gF rfl rfl rfl rfl (fun hg => opMove (.t rfl))) <| .cons (OpG.gF rfl rfl rfl rfl (fun hg => opMove (.t rfl))) <| .cons (OpG.gF rfl rfl rfl rfl (fun hg => opIndexAddr (j := i) Tryd.underlying28 Tryd.cz41 rfl (.when (.t rfl) hg) (.when (.t rfl) hg) rfl (gI_in (by omega)))) <| .cons (OpG.gF rfl rfl rfl rfl (fun hg => opField Tryd.fd41_0 (.when (.t rfl) hg))) <| .cons (OpG.gF rfl rfl rfl rfl (fun hg => opLoad Tryd.ag3 (.when (.t rfl) hg))) <| .cons (OpG.gF rfl rfl rfl rfl (fun hg => opNeq (.when (.t rfl) hg) (.c _))) <| .p (opOr (.t rfl) (.t rfl)) <| .p (opMove (.t rfl)) <| .cons (OpG.gF rfl rfl rfl rfl (fun hg => opMove (.t rfl))) <| .cons (OpG.gF rfl rfl rfl rfl (fun hg => opMove (.t rfl))) <| .cons (OpG.gF rfl rfl rfl rfl (fun hg => opAddF (.when (.t rfl) hg) (.c _) (fits_i64 (by omega) (by omega)))) <| .cons (OpG.gF rfl rfl rfl rfl (fun hg => opIndexAddr (j := i + 1) Tryd.underlying28 Tryd.cz41 rfl (.when (.t rfl) hg) (.when (.t rfl) hg) (by omega) (gI_in (by omega)))) <| .cons (OpG.gF rfl rfl rfl rfl (fun hg => opField Tryd.fd41_0 (.when (.t rfl) hg))) <| .cons (OpG.gF rfl rfl rfl rfl (fun hg => opLoad Tryd.ag3 (.when (.t rfl) hg))) <| .cons (OpG.gF rfl rfl rfl rfl (fun hg => opNeq (.when (.t rfl) hg) (.c _))) <| .p (opOr (.t rfl) (.t rfl)) <| .p (opMove (.t rfl)) <| .cons (OpG.gF rfl rfl rfl rfl (fun hg => opMove (.t rfl))) <| .cons (OpG.gF rfl rfl rfl rfl (fun hg => opMove (.t rfl))) <| .cons (OpG.gF rfl rfl rfl rfl (fun hg => opIndexAddr (j := i) Tryd.underlying28 Tryd.cz41 rfl (.when (.t rfl) hg) (.when (.t rfl) hg) rfl (gI_in (by omega)))) <| .cons (OpG.gF rfl rfl rfl rfl (fun hg => opField Tryd.fd41_1 (.when (.t rfl) hg))) <| .cons (OpG.gF rfl rfl rfl rfl (fun hg => opLoad Tryd.ag37 (.when (.t rfl) hg))) <| .cons (OpG.gF rfl rfl rfl rfl (fun hg => opMove (.t rfl))) <| .cons (OpG.gF rfl rfl rfl rfl (fun hg => opMove (.t rfl))) <| .cons (OpG.gF rfl rfl rfl rfl (fun hg => opAddF (.when (.t rfl) hg) (.c _) (fits_i64 (by omega) (by omega)))) <| .cons (OpG.gF rfl rfl rfl rfl (fun hg => opIndexAddr (j := i + 1) Tryd.underlying28 Tryd.cz41 rfl (.when (.t rfl) hg) (.when (.t rfl) hg) (by omega) (gI_in (by omega)))) <| .cons (OpG.gF rfl rfl rfl rfl (fun hg => opField Tryd.fd41_1 (.when (.t rfl) hg))) <| .cons (OpG.gF rfl rfl rfl rfl (fun hg => opLoad Tryd.ag37 (.when (.t rfl) hg))) <| .nil) (.g (OpG.gF rfl rfl rfl rfl (fun hg => opNeq (.when (.t rfl) hg) (.when (.t rfl) hg))) rfl rfl <| .p (opOr (.t rfl) (.t rfl)) rfl <| .nil ?_)
  refine EndT.thenN ?_
  refine CodeT.cond (.t rfl) (fun c0 => ?_) (fun c0 => ?_)
  ·
    refine CodeT.seq ?_
    refine CodeT.region (.p (opAssign (.c _)) rfl <| .p (opAssign .cf) rfl <| .nil ?_)
    refine EndT.thenN ?_
    refine CodeT.ret (EndT.thenR (Post.retR rfl rfl () trivial (fun _ _ _ _ => trivial) rfl (.cons (.rt rfl) ?_ (.cons (.rt rfl) ?_ .nil))))
    · rw [f4_no c0]; exact sliceV_nil 5 encInstr
    · exact VLe.prop (by rw [f4_no c0]; simp)
  ·
    refine CodeT.skip (EndT.thenN ?_)
    refine CodeT.seq ?_
    refine CodeT.region (.p (opMove (.t rfl)) rfl <| .p (opMove (.t rfl)) rfl <| .p (opMove (.t rfl)) rfl <| .p (opMove (.t rfl)) rfl <| .p (opIndexAddr (j := i) Tryd.underlying28 Tryd.cz41 rfl (.t rfl) (.t rfl) rfl (gI_in (by omega))) rfl <| .p (opField Tryd.fd41_1 (.t rfl)) rfl <| .p (opLoad Tryd.ag37 (.t rfl)) rfl <| .p ((opBuild Tryd.pl41 Tryd.zb41 (.cons (.c _) (.cons (.t rfl) .nil)) rfl).le (tee_le)) rfl <| .p (opBuildSlice (enc := encInstr) [⟨34, (gI l i).A, 0, 0, []⟩] Tryd.underlying28 Tryd.cz41 rfl Tryd.zb41 rfl (.cons (.t rfl) .nil) rfl rfl rfl rfl rfl) rfl <| .p (opCall (pcut_spec (n := 2) (by omega) (by simp; omega)) Tryd.cb25 (.cons (.t rfl) (.cons (.t rfl) (.cons (.c _) (.cons (.t rfl) .nil))))) rfl <| .p (opAssign (.t rfl)) rfl <| .p (opAssign .ct) rfl <| .nil ?_)
    refine EndT.thenN ?_
    refine CodeT.ret (Post.retR rfl rfl () trivial (fun _ _ _ _ => trivial) rfl (.cons (.rt rfl) ?_ (.cons (.rt rfl) ?_ .nil)))
    · rw [f4_yes c0]; exact VLe.refl _
    · exact VLe.prop (by rw [f4_yes c0]; simp)

theorem pdead_spec {l : List InstrD} {i : Nat} (hp0 : SmL l 60000) (hp1 : i < l.length) : FnP Tryd.prog 17 [sliceV 5 encInstr (l), iV (i : Int)] (stV l i 5) := by
  refine FnE.intro 33 Tryd.func17 rfl rfl rfl fun w0 S0 M => ?_
  have hll := hp0.len
  obtain ⟨ha1, ha2⟩ := okA (hp0.gI (i := i))
  obtain ⟨hb1, hb2⟩ := okA (hp0.gI (i := i + 1))
  refine CodeT.seq ?_
  refine CodeT.region (.p (opAssign (.c _)) rfl <| .p (opAssign .cf) rfl <| .nil ?_)
  refine EndT.thenN ?_
  refine CodeT.seq ?_
  refine CodeT.seq ?_
  refine CodeT.region (.p (opMove (.t rfl)) rfl <| .p (opAddF (.t rfl) (.c _) (fits_i64 (by omega) (by omega))) rfl <| .p (opMove (.t rfl)) rfl <| .p (opLen rfl Tryd.underlying28 (.t rfl)) rfl <| .p (opGeq (.t rfl) (.t rfl)) rfl <| .p (opMove (.t rfl)) rfl <| .g (OpG.gF rfl rfl rfl rfl (fun hg => opMove (.t rfl))) rfl rfl <| .g (OpG.gF rfl rfl rfl rfl (fun hg => opMove (.t rfl))) rfl rfl <| .g (OpG.gF rfl rfl rfl rfl (fun hg => opIndexAddr (j := i) Tryd.underlying28 Tryd.cz41 rfl (.when (.t rfl) hg) (.when (.t rfl) hg) rfl (gI_in (by omega)))) rfl rfl <| .g (OpG.gF rfl rfl rfl rfl (fun hg => opField Tryd.fd41_0 (.when (.t rfl) hg))) rfl rfl <| .g (OpG.gF rfl rfl rfl rfl (fun hg => opLoad Tryd.ag3 (.when (.t rfl) hg))) rfl rfl <| .g (OpG.gF rfl rfl rfl rfl (fun hg => opCall (pstops_spec) Tryd.cb29 (.cons (.when (.t rfl) hg) .nil))) rfl rfl <| .g (OpG.gF rfl rfl rfl rfl (fun hg => opNot (.when (.t rfl) hg))) rfl rfl <| .p (opOr (.t rfl) (.t rfl)) rfl <| .p (opMove (.t rfl)) rfl <| .g (OpG.gF rfl rfl rfl rfl (fun hg => opMove (.t rfl))) rfl rfl <| .g (OpG.gF rfl rfl rfl rfl (fun hg => opMove (.t rfl))) rfl rfl <| .g (OpG.gF rfl rfl rfl rfl (fun hg => opAddF (.when (.t rfl) hg) (.c _) (fits_i64 (by omega) (by omega)))) rfl rfl <| .g (OpG.gF rfl rfl rfl rfl (fun hg => opIndexAddr (j := i + 1) Tryd.underlying28 Tryd.cz41 rfl (.when (.t rfl) hg) (.when (.t rfl) hg) (by omega) (gI_in (by omega)))) rfl rfl <| .g (OpG.gF rfl rfl rfl rfl (fun hg => opField Tryd.fd41_0 (.when (.t rfl) hg))) rfl rfl <| .g (OpG.gF rfl rfl rfl rfl (fun hg => opLoad Tryd.ag3 (.when (.t rfl) hg))) rfl rfl <| .g (OpG.gF rfl rfl rfl rfl (fun hg => opCall (pbound_spec) Tryd.cb30 (.cons (.when (.t rfl) hg) .nil))) rfl rfl <| .p (opOr (.t rfl) (.t rfl)) rfl <| .nil ?_)
  refine EndT.thenN ?_
  refine CodeT.cond (.t rfl) (fun c0 => ?_) (fun c0 => ?_)
  ·
    refine CodeT.seq ?_
    refine CodeT.region (.p (opAssign (.c _)) rfl <| .p (opAssign .cf) rfl <| .nil ?_)
    refine EndT.thenN ?_
    refine CodeT.ret (EndT.thenR (Post.retR rfl rfl () trivial (fun _ _ _ _ => trivial) rfl (.cons (.rt rfl) ?_ (.cons (.rt rfl) ?_ .nil))))
    · rw [f5_no c0]; exact sliceV_nil 5 encInstr
    · exact VLe.prop (by rw [f5_no c0]; simp)
  ·
    refine CodeT.skip (EndT.thenN ?_)
    refine CodeT.seq ?_
    refine CodeT.region (.p (opMove (.t rfl)) rfl <| .p (opMove (.t rfl)) rfl <| .p ((opAddF (.t rfl) (.c _) (fits_i64 (by omega) (by omega))).le (VLe.int (show _ = ((i + 1 : Nat) : Int) by omega))) rfl <| .p (opCall (pcut_spec (i := i + 1) (n := 1) (ins := []) (by omega) (by simp; omega)) Tryd.cb25 (.cons (.t rfl) (.cons (.t rfl) (.cons (.c _) (.cons (.le (.c _) (sliceV_nil 5 encInstr)) .nil))))) rfl <| .p (opAssign (.t rfl)) rfl <| .p (opAssign .ct) rfl <| .nil ?_)
    refine EndT.thenN ?_
    refine CodeT.ret (Post.retR rfl rfl () trivial (fun _ _ _ _ => trivial) rfl (.cons (.rt rfl) ?_ (.cons (.rt rfl) ?_ .nil)))
    · rw [f5_yes hp1 c0]; exact VLe.refl _
    · exact VLe.prop (by rw [f5_yes hp1 c0]; simp)

end Go.Proofs.YtgmpadhfgohodaaDoor
