/-
  Walks, printed by a program (gen.py) out of what its author says of each function.
-/
import Derived.Test.YtjojlppmnebhgaaO10Y
import Derived.Test.YtjojlppmnebhgaaO10C
namespace Go.Proofs.Ytjojlppmnebhgaa
open Go.Hl Go.RowKit
set_option linter.unusedVariables false
set_option maxRecDepth 100000

theorem namedc_spec {x : InfoD} {l : List UInt8} : FnP Try.prog 31 [aggV (encInfo x), ptrV [strV l]] (propV (x.Name = l)) := by
  refine FnE.intro 8 Try.func31 rfl rfl rfl fun w0 S0 M => ?_
  refine CodeT.seq ?_
  refine CodeT.region (.p (opBoxA (.t rfl)) rfl <| .p (opAssign .cf) rfl <| .nil ?_)
  refine EndT.thenN ?_
  refine CodeT.seq ?_
  refine CodeT.region (.p (opField Try.fd31_1 (.t rfl)) rfl <| .p (opLoad Try.ag9 (.t rfl)) rfl <| .p (opLoad Try.ag9 (.t rfl)) rfl <| .p (opEqlS (.t rfl) (.t rfl)) rfl <| .p (opAssign (.t rfl)) rfl <| .nil ?_)
  refine EndT.thenN ?_
  refine CodeT.ret (Post.retP rfl rfl ?_)
  first | exact VLe.refl _ | exact VLe.int (by omega) | exact VLe.prop (by omega) | exact VLe.prop (by simp_all) | exact VLe.prop (by simp; omega)

theorem named_spec {l : List UInt8} : FnP Try.prog 15 [strV l] (tupV [aggV (encInfo ((namedO l).getD zeroI)), propV (namedO l).isSome]) := by
  refine FnE.intro 17 Try.func15 rfl rfl rfl fun w0 S0 M => ?_
  refine CodeT.seq ?_
  refine CodeT.region (.p (opBox (.t rfl)) rfl <| .n (opAlloc Try.zb31) rfl <| fun b2 _ => .p (opAssign .cf) rfl <| .nil ?_)
  refine EndT.thenN ?_
  refine CodeT.seq ?_
  refine CodeT.region (.p (opCall (all_spec) Try.cb12 .nil) rfl <| .p (opAssign (.t rfl)) rfl <| .nil ?_)
  refine EndT.thenN ?_
  refine CodeT.seq ?_
  refine CodeT.region (.p (opMove (.t rfl)) rfl <| .p (opMakeFunc (A := InfoD) (ok := fun _ => True) (arg := fun x => [aggV (encInfo x)]) (res := fun x => propV (x.Name = l)) Try.cb31 .nil (.cons (.t rfl) .nil) (fun x _ => namedc_spec)) rfl <| .p (opCall (idxInfo_spec) Try.cb30 (.cons (.t rfl) (.cons (.t rfl) .nil))) rfl <| .p (opAssign (.t rfl)) rfl <| .nil ?_)
  refine EndT.thenN ?_
  refine CodeT.seq ?_
  refine CodeT.seq ?_
  refine CodeT.region (.p (opMove (.t rfl)) rfl <| .p (opLss (.t rfl) (.c _)) rfl <| .nil ?_)
  refine EndT.thenN ?_
  refine CodeT.cond (.t rfl) (fun c0 => ?_) (fun c0 => ?_)
  ·
    have hno := named_none c0
    refine CodeT.seq ?_
    refine CodeT.region (.p (opBuild Try.pl31 Try.zb31 .nil rfl) rfl <| .s (opStoreOA (i := 0) Try.cz31 rfl (.t rfl) (.t rfl) rfl rfl rfl) <| .p (opAssign .cf) rfl <| .nil ?_)
    refine EndT.thenN ?_
    refine CodeT.ret (EndT.thenR (Post.retR rfl rfl () trivial (fun _ _ _ _ => trivial) rfl (.cons (.ra (i := 0) Try.ag31 Try.cz31 rfl rfl rfl rfl) ?_ (.cons (.rt rfl) ?_ .nil))))
    · rw [hno]; exact VLe.agg (.cons (VLe.refl _) (.cons strV_nil (.cons (VLe.refl _) (.cons (sliceV_nil _ _) (.cons (sliceV_nil _ _) .nil)))))
    · exact VLe.prop (by rw [hno]; simp)
  ·
    obtain ⟨y, hy, hno⟩ := named_some c0
    refine CodeT.skip (EndT.thenN ?_)
    refine CodeT.seq ?_
    refine CodeT.region (.p (opMove (.t rfl)) rfl <| .p (opMove (.t rfl)) rfl <| .p (opIndexAddr Try.underlying35 Try.cz31 rfl (.t rfl) (.t rfl) (by omega) hy) rfl <| .p (opLoadA Try.ag31 Try.cz31 rfl (.t rfl) rfl) rfl <| .s (opStoreOA (i := 0) Try.cz31 rfl (.t rfl) (.t rfl) rfl rfl rfl) <| .p (opAssign .ct) rfl <| .nil ?_)
    refine EndT.thenN ?_
    refine CodeT.ret (Post.retR rfl rfl () trivial (fun _ _ _ _ => trivial) rfl (.cons (.ra (i := 0) Try.ag31 Try.cz31 rfl rfl rfl rfl) ?_ (.cons (.rt rfl) ?_ .nil)))
    · rw [hno]; exact VLe.refl _
    · exact VLe.prop (by rw [hno]; simp)

theorem awake10_spec  : FnP Try.prog 10 [] (propV True) := by
  refine FnE.intro 24 Try.func10 rfl rfl rfl fun w0 S0 M => ?_
  refine CodeT.seq ?_
  refine CodeT.region (.p (opAssign .cf) rfl <| .nil ?_)
  refine EndT.thenN ?_
  refine CodeT.seq ?_
  refine CodeT.region (.p (opCall (find_spec) Try.cb11 (.cons (.c _) .nil)) rfl <| .p (opMove (.t rfl)) rfl <| .p (opExtract (.t rfl) rfl) rfl <| .p (opExtract (.t rfl) rfl) rfl <| .n (opAlloc Try.zb31) rfl <| fun b1 _ => .s (opStoreOA (i := 0) Try.cz31 rfl (.t rfl) (.t rfl) rfl rfl rfl) <| .p (opAssign (.t rfl)) rfl <| .nil ?_)
  refine EndT.thenN ?_
  refine CodeT.share (t := 1) (i := 0) rfl rfl ?_
  refine CodeT.seq ?_
  refine CodeT.region (.p (opMove (.t rfl)) rfl <| .p (opMove (.t rfl)) rfl <| .g (OpG.gT rfl rfl rfl rfl (fun hg => opField Try.fd31_1 (.t rfl))) rfl rfl <| .g (OpG.gT rfl rfl rfl rfl (fun hg => opLoad Try.ag9 (.when (.t rfl) hg))) rfl rfl <| .g (OpG.gT rfl rfl rfl rfl (fun hg => opEqlS (.when (.t rfl) hg) (.s [105, 51, 50, 46, 97, 100, 100] rfl rfl))) rfl rfl <| .p (opAnd (.t rfl) (.t rfl)) rfl <| .p (opMove (.t rfl)) rfl <| .g (OpG.gT rfl rfl rfl rfl (fun hg => opField Try.fd31_3 (.t rfl))) rfl rfl <| .g (OpG.gT rfl rfl rfl rfl (fun hg => opLoad Try.ag29 (.when (.t rfl) hg))) rfl rfl <| .g (OpG.gT rfl rfl rfl rfl (fun hg => opLen rfl Try.underlying29 (.when (.t rfl) hg))) rfl rfl <| .g (OpG.gT rfl rfl rfl rfl (fun hg => opEql (.when (.t rfl) hg) (.c _))) rfl rfl <| .p (opAnd (.t rfl) (.t rfl)) rfl <| .p (opMove (.t rfl)) rfl <| .g (OpG.gT rfl rfl rfl rfl (fun hg => opCall (all_spec) Try.cb12 .nil)) rfl rfl <| .g (OpG.gT rfl rfl rfl rfl (fun hg => opLen rfl Try.underlying35 (.when (.t rfl) hg))) rfl rfl <| .g (OpG.gT rfl rfl rfl rfl (fun hg => opGtr (.when (.t rfl) hg) (.c _))) rfl rfl <| .p (opAnd (.t rfl) (.t rfl)) rfl <| .p (opAssign (.t rfl)) rfl <| .nil ?_)
  refine EndT.thenN ?_
  refine CodeT.ret (Post.retP rfl rfl ?_)
  exact VLe.prop ⟨fun _ => trivial, fun _ => awake10⟩

set_option maxHeartbeats 1000000 in
theorem OpNumeric_spec {code : Int} : FnP Try.prog 3 [intV .i64 code] (propV True) := by
  refine FnE.intro 100 Try.func3 rfl rfl rfl fun w0 S0 M => ?_
  refine CodeT.seq ?_
  refine CodeT.region (.p (opAssign .cf) rfl <| .nil ?_)
  refine EndT.thenN ?_
  refine CodeT.seq ?_
  refine CodeT.region (.p (opMove (.t rfl)) rfl <| .p (opCall (numeric_spec) Try.cb8 (.cons (.t rfl) .nil)) rfl <| .p (opMove (.t rfl)) rfl <| .p (opExtract (.t rfl) rfl) rfl <| .p (opExtract (.t rfl) rfl) rfl <| .p (opExtract (.t rfl) rfl) rfl <| .p (opExtract (.t rfl) rfl) rfl <| .p (opAssign (.t rfl)) rfl <| .p (opAssign (.t rfl)) rfl <| .p (opAssign (.t rfl)) rfl <| .p (opAssign (.t rfl)) rfl <| .nil ?_)
  refine EndT.thenN ?_
  refine CodeT.seq ?_
  refine CodeT.region (.p (opMove (.t rfl)) rfl <| .p (opCall (rname_spec) Try.cb9 (.cons (.t rfl) .nil)) rfl <| .p (opAssign (.t rfl)) rfl <| .nil ?_)
  refine EndT.thenN ?_
  refine CodeT.seq ?_
  refine CodeT.seq ?_
  refine CodeT.region (.p (opMove (.t rfl)) rfl <| .p (opNot (.t rfl)) rfl <| .nil ?_)
  refine EndT.thenN ?_
  refine CodeT.cond (.t rfl) (fun c0 => ?_) (fun c0 => ?_)
  ·
    have hno : numO code = none := by simpa using c0
    have hnn := num_no hno
    simp only [hno, Option.getD_none]
    refine CodeT.seq ?_
    refine CodeT.region (.p (opMove (.t rfl)) rfl <| .p (opGeq (.t rfl) (.c _)) rfl <| .p (opMove (.t rfl)) rfl <| .g (OpG.gT rfl rfl rfl rfl (fun hg => opMove (.t rfl))) rfl rfl <| .g (OpG.gT rfl rfl rfl rfl (fun hg => opLeq (.when (.t rfl) hg) (.c _))) rfl rfl <| .p (opAnd (.t rfl) (.t rfl)) rfl <| .p (opMove (.t rfl)) rfl <| .g (OpG.gF rfl rfl rfl rfl (fun hg => opMove (.t rfl))) rfl rfl <| .g (OpG.gF rfl rfl rfl rfl (fun hg => opGeq (.when (.t rfl) hg) (.c _))) rfl rfl <| .g (OpG.gF rfl rfl rfl rfl (fun hg => opMove (.when (.t rfl) hg))) rfl rfl <| .g (OpG.hT rfl rfl rfl rfl (fun hg => opMove (.t rfl))) rfl rfl <| .g (OpG.hT rfl rfl rfl rfl (fun hg => opLeq (.when (.t rfl) hg) (.c _))) rfl rfl <| .g (OpG.gF rfl rfl rfl rfl (fun hg => opAnd (.when (.t rfl) hg) (.under (.t rfl) hg))) rfl rfl <| .p (opOr (.t rfl) (.t rfl)) rfl <| .p (opAssign (.t rfl)) rfl <| .nil ?_)
    refine EndT.thenN ?_
    refine CodeT.seq ?_
    refine CodeT.region (.p (opMove (.t rfl)) rfl <| .p (opEql (.t rfl) (.c _)) rfl <| .p (opMove (.t rfl)) rfl <| .g (OpG.gT rfl rfl rfl rfl (fun hg => opMove (.t rfl))) rfl rfl <| .g (OpG.gT rfl rfl rfl rfl (fun hg => opEql (.when (.t rfl) hg) (.c _))) rfl rfl <| .p (opAnd (.t rfl) (.t rfl)) rfl <| .p (opMove (.t rfl)) rfl <| .g (OpG.gT rfl rfl rfl rfl (fun hg => opMove (.t rfl))) rfl rfl <| .g (OpG.gT rfl rfl rfl rfl (fun hg => opEql (.when (.t rfl) hg) (.c _))) rfl rfl <| .p (opAnd (.t rfl) (.t rfl)) rfl <| .p (opMove (.t rfl)) rfl <| .g (OpG.gT rfl rfl rfl rfl (fun hg => opMove (.t rfl))) rfl rfl <| .g (OpG.gT rfl rfl rfl rfl (fun hg => opNot (.when (.t rfl) hg))) rfl rfl <| .p (opAnd (.t rfl) (.t rfl)) rfl <| .p (opMove (.t rfl)) rfl <| .g (OpG.gT rfl rfl rfl rfl (fun hg => opCall (awake10_spec) Try.cb10 .nil)) rfl rfl <| .p (opAnd (.t rfl) (.t rfl)) rfl <| .p (opAssign (.t rfl)) rfl <| .nil ?_)
    refine EndT.thenN ?_
    refine CodeT.ret (EndT.thenR (Post.retP rfl rfl ?_))
    exact VLe.prop ⟨fun _ => trivial, fun _ => ⟨⟨⟨⟨rfl, rfl⟩, rfl⟩, by omega⟩, trivial⟩⟩
  ·
    obtain ⟨⟨g, n, b⟩, hno⟩ := Option.isSome_iff_exists.1 (Classical.not_not.1 c0)
    have hbd := numO_bounds hno
    obtain ⟨hn0, hng, hnb⟩ := hbd
    have hbd := numO_bounds hno
    have hnm := num_name hno
    have hwl := words_len hbd
    have hws := @words_short g.toNat n.toNat
    simp only [hno, Option.getD_some]
    refine CodeT.skip (EndT.thenN ?_)
    refine CodeT.seq ?_
    refine CodeT.region (.p (opBuildSlice (enc := encStrD) binT Try.underlying26 Try.cz9 rfl Try.zb9 rfl (.cons (.s [97, 100, 100] rfl rfl) (.cons (.s [115, 117, 98] rfl rfl) (.cons (.s [109, 117, 108] rfl rfl) (.cons (.s [100, 105, 118, 95, 115] rfl rfl) (.cons (.s [100, 105, 118, 95, 117] rfl rfl) (.cons (.s [114, 101, 109, 95, 115] rfl rfl) (.cons (.s [114, 101, 109, 95, 117] rfl rfl) (.cons (.s [97, 110, 100] rfl rfl) (.cons (.s [111, 114] rfl rfl) (.cons (.s [120, 111, 114] rfl rfl) (.cons (.s [115, 104, 108] rfl rfl) (.cons (.s [115, 104, 114, 95, 115] rfl rfl) (.cons (.s [115, 104, 114, 95, 117] rfl rfl) (.cons (.s [114, 111, 116, 108] rfl rfl) (.cons (.s [114, 111, 116, 114] rfl rfl) .nil))))))))))))))) rfl rfl rfl rfl rfl) rfl <| .p (opBuildSlice (enc := encStrD) testT Try.underlying26 Try.cz9 rfl Try.zb9 rfl (.cons (.s [101, 113] rfl rfl) (.cons (.s [110, 101] rfl rfl) (.cons (.s [108, 116, 95, 115] rfl rfl) (.cons (.s [108, 116, 95, 117] rfl rfl) (.cons (.s [103, 116, 95, 115] rfl rfl) (.cons (.s [103, 116, 95, 117] rfl rfl) (.cons (.s [108, 101, 95, 115] rfl rfl) (.cons (.s [108, 101, 95, 117] rfl rfl) (.cons (.s [103, 101, 95, 115] rfl rfl) (.cons (.s [103, 101, 95, 117] rfl rfl) .nil)))))))))) rfl rfl rfl rfl rfl) rfl <| .p (opBuildSlice (enc := encStrD) unT Try.underlying26 Try.cz9 rfl Try.zb9 rfl (.cons (.s [99, 108, 122] rfl rfl) (.cons (.s [99, 116, 122] rfl rfl) (.cons (.s [112, 111, 112, 99, 110, 116] rfl rfl) (.cons (.s [101, 113, 122] rfl rfl) .nil)))) rfl rfl rfl rfl rfl) rfl <| .p (opBuildSlice (enc := encSL) wordsT Try.underlying27 Try.cz26 rfl Try.zb26 rfl (.cons (.t rfl) (.cons (.t rfl) (.cons (.t rfl) .nil))) rfl rfl rfl rfl rfl) rfl <| .p (opAssign (.t rfl)) rfl <| .nil ?_)
    refine EndT.thenN ?_
    refine CodeT.seq ?_
    refine CodeT.seq ?_
    refine CodeT.region (.p (opMove (.t rfl)) rfl <| .p (opLss (.t rfl) (.c _)) rfl <| .p (opMove (.t rfl)) rfl <| .g (OpG.gF rfl rfl rfl rfl (fun hg => opMove (.t rfl))) rfl rfl <| .g (OpG.gF rfl rfl rfl rfl (fun hg => opGtr (.when (.t rfl) hg) (.c _))) rfl rfl <| .p (opOr (.t rfl) (.t rfl)) rfl <| .p (opMove (.t rfl)) rfl <| .g (OpG.gF rfl rfl rfl rfl (fun hg => opMove (.t rfl))) rfl rfl <| .g (OpG.gF rfl rfl rfl rfl (fun hg => opLss (.when (.t rfl) hg) (.c _))) rfl rfl <| .p (opOr (.t rfl) (.t rfl)) rfl <| .p (opMove (.t rfl)) rfl <| .g (OpG.gF rfl rfl rfl rfl (fun hg => opMove (.t rfl))) rfl rfl <| .g (OpG.gF rfl rfl rfl rfl (fun hg => opMove (.t rfl))) rfl rfl <| .g (OpG.gF rfl rfl rfl rfl (fun hg => opMove (.t rfl))) rfl rfl <| .g (OpG.gF rfl rfl rfl rfl (fun hg => opIndexAddr Try.underlying27 Try.cz26 rfl (.when (.t rfl) hg) (.when (.t rfl) hg) (by omega) (wordsT_at (g := g.toNat) (by omega)))) rfl rfl <| .g (OpG.gF rfl rfl rfl rfl (fun hg => opLoad Try.ag26 (.when (.t rfl) hg))) rfl rfl <| .g (OpG.gF rfl rfl rfl rfl (fun hg => opLen rfl Try.underlying26 (.when (.t rfl) hg))) rfl rfl <| .g (OpG.gF rfl rfl rfl rfl (fun hg => opGeq (.when (.t rfl) hg) (.when (.t rfl) hg))) rfl rfl <| .p (opOr (.t rfl) (.t rfl)) rfl <| .nil ?_)
    refine EndT.thenN ?_
    refine CodeT.cond (.t rfl) (fun c1 => ?_) (fun c1 => ?_)
    ·
      exfalso; omega
    ·
      refine CodeT.skip (EndT.thenN ?_)
      refine CodeT.seq ?_
      refine CodeT.region (.p (opAssign (.s [105, 51, 50, 46] rfl rfl)) rfl <| .nil ?_)
      refine EndT.thenN ?_
      refine CodeT.seq ?_
      refine CodeT.seq ?_
      refine CodeT.region (.p (opMove (.t rfl)) rfl <| .p (opEql (.t rfl) (.c _)) rfl <| .nil ?_)
      refine EndT.thenN ?_
      refine CodeT.cond (.t rfl) (fun c2 => ?_) (fun c2 => ?_)
      ·
        have hkb : kindS b = [105, 54, 52, 46] := by unfold kindS; rw [if_pos c2]
        refine CodeT.region (.p (opAssign (.s [105, 54, 52, 46] rfl rfl)) rfl <| .nil ?_)
        refine EndT.thenN ?_
        refine CodeT.seq ?_
        refine CodeT.region (.p (opMove (.t rfl)) rfl <| .p (opEql (.t rfl) (.c _)) rfl <| .p (opMove (.t rfl)) rfl <| .g (OpG.gF rfl rfl rfl rfl (fun hg => opMove (.t rfl))) rfl rfl <| .g (OpG.gF rfl rfl rfl rfl (fun hg => opEql (.when (.t rfl) hg) (.c _))) rfl rfl <| .p (opOr (.t rfl) (.t rfl)) rfl <| .p (opMove (.t rfl)) rfl <| .g (OpG.gT rfl rfl rfl rfl (fun hg => opMove (.t rfl))) rfl rfl <| .g (OpG.gT rfl rfl rfl rfl (fun hg => opMove (.t rfl))) rfl rfl <| .g (OpG.gT rfl rfl rfl rfl (fun hg => opMove (.t rfl))) rfl rfl <| .g (OpG.gT rfl rfl rfl rfl (fun hg => opMove (.t rfl))) rfl rfl <| .g (OpG.gT rfl rfl rfl rfl (fun hg => opIndexAddr Try.underlying27 Try.cz26 rfl (.when (.t rfl) hg) (.when (.t rfl) hg) (by omega) (wordsT_at (g := g.toNat) (by omega)))) rfl rfl <| .g (OpG.gT rfl rfl rfl rfl (fun hg => opLoad Try.ag26 (.when (.t rfl) hg))) rfl rfl <| .g (OpG.gT rfl rfl rfl rfl (fun hg => opMove (.t rfl))) rfl rfl <| .g (OpG.gT rfl rfl rfl rfl (fun hg => opIndexAddr Try.underlying26 Try.cz9 rfl (.when (.t rfl) hg) (.when (.t rfl) hg) (by omega) (words_at hwl))) rfl rfl <| .g (OpG.gT rfl rfl rfl rfl (fun hg => opLoad Try.ag9 (.when (.t rfl) hg))) rfl rfl <| .g (OpG.gT rfl rfl rfl rfl (fun hg => opCat (.when (.t rfl) hg) (.when (.t rfl) hg) (by simp only [List.length_cons, List.length_nil]; omega))) rfl rfl <| .g (OpG.gT rfl rfl rfl rfl (fun hg => opEqlS (.when (.t rfl) hg) (.when (.t rfl) hg))) rfl rfl <| .p (opAnd (.t rfl) (.t rfl)) rfl <| .p (opMove (.t rfl)) rfl <| .g (OpG.gT rfl rfl rfl rfl (fun hg => opCall (awake10_spec) Try.cb10 .nil)) rfl rfl <| .p (opAnd (.t rfl) (.t rfl)) rfl <| .p (opAssign (.t rfl)) rfl <| .nil ?_)
        refine EndT.thenN ?_
        refine CodeT.ret (Post.retP rfl rfl ?_)
        exact VLe.prop ⟨fun _ => trivial, fun _ => ⟨⟨by omega, by rw [hnm, ← hkb]⟩, trivial⟩⟩
      ·
        have hkb : kindS b = [105, 51, 50, 46] := by unfold kindS; rw [if_neg c2]
        refine CodeT.skip (EndT.thenN ?_)
        refine CodeT.seq ?_
        refine CodeT.region (.p (opMove (.t rfl)) rfl <| .p (opEql (.t rfl) (.c _)) rfl <| .p (opMove (.t rfl)) rfl <| .g (OpG.gF rfl rfl rfl rfl (fun hg => opMove (.t rfl))) rfl rfl <| .g (OpG.gF rfl rfl rfl rfl (fun hg => opEql (.when (.t rfl) hg) (.c _))) rfl rfl <| .p (opOr (.t rfl) (.t rfl)) rfl <| .p (opMove (.t rfl)) rfl <| .g (OpG.gT rfl rfl rfl rfl (fun hg => opMove (.t rfl))) rfl rfl <| .g (OpG.gT rfl rfl rfl rfl (fun hg => opMove (.t rfl))) rfl rfl <| .g (OpG.gT rfl rfl rfl rfl (fun hg => opMove (.t rfl))) rfl rfl <| .g (OpG.gT rfl rfl rfl rfl (fun hg => opMove (.t rfl))) rfl rfl <| .g (OpG.gT rfl rfl rfl rfl (fun hg => opIndexAddr Try.underlying27 Try.cz26 rfl (.when (.t rfl) hg) (.when (.t rfl) hg) (by omega) (wordsT_at (g := g.toNat) (by omega)))) rfl rfl <| .g (OpG.gT rfl rfl rfl rfl (fun hg => opLoad Try.ag26 (.when (.t rfl) hg))) rfl rfl <| .g (OpG.gT rfl rfl rfl rfl (fun hg => opMove (.t rfl))) rfl rfl <| .g (OpG.gT rfl rfl rfl rfl (fun hg => opIndexAddr Try.underlying26 Try.cz9 rfl (.when (.t rfl) hg) (.when (.t rfl) hg) (by omega) (words_at hwl))) rfl rfl <| .g (OpG.gT rfl rfl rfl rfl (fun hg => opLoad Try.ag9 (.when (.t rfl) hg))) rfl rfl <| .g (OpG.gT rfl rfl rfl rfl (fun hg => opCat (.when (.t rfl) hg) (.when (.t rfl) hg) (by simp only [List.length_cons, List.length_nil]; omega))) rfl rfl <| .g (OpG.gT rfl rfl rfl rfl (fun hg => opEqlS (.when (.t rfl) hg) (.when (.t rfl) hg))) rfl rfl <| .p (opAnd (.t rfl) (.t rfl)) rfl <| .p (opMove (.t rfl)) rfl <| .g (OpG.gT rfl rfl rfl rfl (fun hg => opCall (awake10_spec) Try.cb10 .nil)) rfl rfl <| .p (opAnd (.t rfl) (.t rfl)) rfl <| .p (opAssign (.t rfl)) rfl <| .nil ?_)
        refine EndT.thenN ?_
        refine CodeT.ret (Post.retP rfl rfl ?_)
        exact VLe.prop ⟨fun _ => trivial, fun _ => ⟨⟨by omega, by rw [hnm, ← hkb]⟩, trivial⟩⟩

end Go.Proofs.Ytjojlppmnebhgaa
