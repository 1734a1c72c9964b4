/-
  Walks, printed by a program (gen.py) out of what its author says of each function.
-/
import Derived.Test.YtgmpadhfgohodaaDoorTab
import Derived.Test.YtgmpadhfgohodaaDoorO10A
namespace Go.Proofs.YtgmpadhfgohodaaDoor
open Go.Hl Go.RowKit
set_option linter.unusedVariables false
set_option maxRecDepth 100000

theorem spans_spec  : FnP Tryd.prog 61 [] (aggV (spansT.flatMap encSpan)) := by
  refine FnE.intro 10 Tryd.func61 rfl rfl rfl fun w0 S0 M => ?_
  refine CodeT.seq ?_
  refine CodeT.region (.n (opAlloc Tryd.zb106) rfl <| fun b0 _ => .nil ?_)
  refine EndT.thenN ?_
  refine CodeT.seq ?_
  refine CodeT.region (.p (opBuild Tryd.pl105 Tryd.zb105 (.cons (.c _) (.cons (.c _) (.cons (.c _) (.cons (.c _) (.cons (.c _) .nil))))) rfl) rfl <| .p (opBuild Tryd.pl105 Tryd.zb105 (.cons (.c _) (.cons (.c _) (.cons (.c _) (.cons (.c _) (.cons (.c _) .nil))))) rfl) rfl <| .p (opBuild Tryd.pl105 Tryd.zb105 (.cons (.c _) (.cons (.c _) (.cons (.c _) (.cons (.c _) (.cons (.c _) .nil))))) rfl) rfl <| .p (opBuild Tryd.pl105 Tryd.zb105 (.cons (.c _) (.cons (.c _) (.cons (.c _) (.cons (.c _) (.cons (.c _) .nil))))) rfl) rfl <| .p (opBuild Tryd.pl105 Tryd.zb105 (.cons (.c _) (.cons (.c _) (.cons (.c _) (.cons (.c _) (.cons (.c _) .nil))))) rfl) rfl <| .p (opBuild Tryd.pl105 Tryd.zb105 (.cons (.c _) (.cons (.c _) (.cons (.c _) (.cons (.c _) (.cons (.c _) .nil))))) rfl) rfl <| .p (opBuild Tryd.pl105 Tryd.zb105 (.cons (.c _) (.cons (.c _) (.cons (.c _) (.cons (.c _) (.cons (.c _) .nil))))) rfl) rfl <| .p (opBuild Tryd.pl105 Tryd.zb105 (.cons (.c _) (.cons (.c _) (.cons (.c _) (.cons (.c _) (.cons (.c _) .nil))))) rfl) rfl <| .p (opBuildArr (cs := spansT.flatMap encSpan) Tryd.ar106 Tryd.zb106 (.cons (.t rfl) (.cons (.t rfl) (.cons (.t rfl) (.cons (.t rfl) (.cons (.t rfl) (.cons (.t rfl) (.cons (.t rfl) (.cons (.t rfl) .nil)))))))) rfl) rfl <| .s (opStoreOA (i := 0) Tryd.cz106 rfl (.t rfl) (.t rfl) rfl rfl rfl) <| .nil ?_)
  refine EndT.thenN ?_
  refine CodeT.ret (Post.retR1 rfl () trivial (fun _ _ _ _ => trivial) (.ra (i := 0) Tryd.ag106 Tryd.cz106 rfl rfl rfl rfl) ?_)
  exact VLe.refl _

theorem numeric_spec {code : Int} : FnP Tryd.prog 42 [intV .i64 code] (tupV [intV .i64 ((numO code).getD (0, 0, 0)).1, intV .i64 ((numO code).getD (0, 0, 0)).2.1, intV .i64 ((numO code).getD (0, 0, 0)).2.2, propV (numO code).isSome]) := by
  refine FnE.intro 37 Tryd.func42 rfl rfl rfl fun w0 S0 M => ?_
  refine CodeT.seq ?_
  refine CodeT.region (.p (opAssign (.c _)) rfl <| .p (opAssign (.c _)) rfl <| .p (opAssign (.c _)) rfl <| .p (opAssign .cf) rfl <| .nil ?_)
  refine EndT.thenN ?_
  refine CodeT.seq ?_
  refine CodeT.seq ?_
  refine CodeT.region (.p (opCall (spans_spec) Tryd.cb61 .nil) rfl <| .p (opMove (.c _)) rfl <| .nil ?_)
  refine EndT.thenN ?_
  refine CodeT.block ?_
  refine CodeT.loopO (σ := Nat) (fun _ => []) (fun k => [(9, intV .i64 (k : Int))]) (fun k => k ≤ spansT.length ∧ NotB (fun s => inSpan code s = true) spansT k) (fun k => spansT.length - k) 0 ⟨by omega, NotB.zero _ _⟩ rfl ?_ ?_
  · exact (.get rfl (VLe.refl _) (.refl _ _))
  · rintro k ⟨hk, hn⟩
    refine CodeT.seq ?_
    refine CodeT.region (.p (opLss (.t rfl) (.c _)) rfl <| .nil ?_)
    refine EndT.thenN ?_
    refine CodeT.seq ?_
    refine CodeT.cond (.t rfl) (fun c0 => ?_) (fun c0 => ?_)
    ·
      have hltk : k < spansT.length := by have : spansT.length = 8 := rfl; omega
      obtain ⟨x, hxk⟩ := getElem?_lt (xs := spansT) (k := k) hltk
      have hb := spans_bd x (List.mem_of_getElem? hxk)
      refine CodeT.skip (EndT.thenN ?_)
      refine CodeT.seq ?_
      refine CodeT.block ?_
      refine CodeT.seq ?_
      refine CodeT.region (.p (opIndexA spansT Tryd.underlying106 Tryd.cz105 rfl Tryd.ag105 (.t rfl) rfl rfl (.t rfl) rfl (by assumption)) rfl <| .n (opAlloc Tryd.zb105) rfl <| fun b7 _ => .s (opStoreOA (i := 0) Tryd.cz105 rfl (.t rfl) (.t rfl) rfl rfl rfl) <| .nil ?_)
      refine EndT.thenN ?_
      refine CodeT.share (t := 7) (i := 0) rfl rfl ?_
      refine CodeT.seq ?_
      refine CodeT.region (.p (opMove (.t rfl)) rfl <| .p (opField Tryd.fd105_0 (.t rfl)) rfl <| .p (opLoad Tryd.ag3 (.t rfl)) rfl <| .p (opGeq (.t rfl) (.t rfl)) rfl <| .p (opMove (.t rfl)) rfl <| .g (OpG.gT rfl rfl rfl rfl (fun hg => opMove (.t rfl))) rfl rfl <| .g (OpG.gT rfl rfl rfl rfl (fun hg => opField Tryd.fd105_0 (.t rfl))) rfl rfl <| .g (OpG.gT rfl rfl rfl rfl (fun hg => opLoad Tryd.ag3 (.when (.t rfl) hg))) rfl rfl <| .g (OpG.gT rfl rfl rfl rfl (fun hg => opField Tryd.fd105_1 (.t rfl))) rfl rfl <| .g (OpG.gT rfl rfl rfl rfl (fun hg => opLoad Tryd.ag3 (.when (.t rfl) hg))) rfl rfl <| .g (OpG.gT rfl rfl rfl rfl (fun hg => opAddF (.when (.t rfl) hg) (.when (.t rfl) hg) (fits_i64 (by omega) (by omega)))) rfl rfl <| .g (OpG.gT rfl rfl rfl rfl (fun hg => opLss (.when (.t rfl) hg) (.when (.t rfl) hg))) rfl rfl <| .p (opAnd (.t rfl) (.t rfl)) rfl <| .nil ?_)
      refine EndT.thenN ?_
      refine CodeT.cond (.t rfl) (fun c1 => ?_) (fun c1 => ?_)
      ·
        have hno := numO_at hxk (by simpa [inSpan] using c1) hn
        refine CodeT.seq ?_
        refine CodeT.draw 13 2 Tryd.mixed (by kernel_rfl) (.p (opField Tryd.fd105_2 (.t rfl)) <| .p (opLoad Tryd.ag3 (.t rfl)) <| .p (opField Tryd.fd105_4 (.t rfl)) <| .p (opLoad Tryd.ag3 (.t rfl)) <| .p (opMove (.t rfl)) <| .p (opAddF (.t rfl) (.t rfl) (fits_i64 (by omega) (by omega))) <| .p (opField Tryd.fd105_0 (.t rfl)) <| .p (opLoad Tryd.ag3 (.t rfl)) <| .p (opSubF (.t rfl) (.t rfl) (fits_i64 (by omega) (by omega))) <| .p (opField Tryd.fd105_3 (.t rfl)) <| .p (opLoad Tryd.ag3 (.t rfl)) <| .p (opAssign (.t rfl)) <| .p (opAssign (.t rfl)) <| .nil) (.p (opAssign (.t rfl)) rfl <| .p (opAssign .ct) rfl <| .nil ?_)
        refine EndT.thenN ?_
        refine CodeT.ret (EndT.blkR (EndT.thenR (EndT.thenR (EndT.blkR (EndT.thenR (Post.retR rfl rfl () trivial (fun _ _ _ _ => trivial) rfl (.cons (.rt rfl) ?_ (.cons (.rt rfl) ?_ (.cons (.rt rfl) ?_ (.cons (.rt rfl) ?_ .nil))))))))))
        · exact VLe.int (by rw [hno]; rfl)
        · exact VLe.int (by rw [hno]; rfl)
        · exact VLe.int (by rw [hno]; rfl)
        · exact VLe.prop (by rw [hno]; simp)
      ·
        refine CodeT.skip (EndT.blkN (EndT.thenN ?_))
        refine CodeT.region (.p (opAddF (.t rfl) (.c _) (fits_i64 (by omega) (by omega))) rfl <| .p (opMove (.t rfl)) rfl <| .nil ?_)
        refine EndT.round (k + 1) ⟨by omega, hn.succ hxk (by simpa [inSpan] using c1)⟩ (by omega) rfl ?_
        exact (.get rfl (VLe.int (by omega)) (.keep 20 rfl rfl))
    ·
      have hek : k = spansT.length := by have : spansT.length = 8 := rfl; omega
      subst hek
      refine CodeT.exit (EndT.thenX (EndT.thenX (EndT.blkX (EndT.thenN ?_))))
      refine CodeT.seq ?_
      refine CodeT.region (.p (opAssign (.c _)) rfl <| .p (opAssign (.c _)) rfl <| .p (opAssign (.c _)) rfl <| .p (opAssign .cf) rfl <| .nil ?_)
      refine EndT.thenN ?_
      refine CodeT.ret (Post.retR rfl rfl () trivial (fun _ _ _ _ => trivial) rfl (.cons (.rt rfl) ?_ (.cons (.rt rfl) ?_ (.cons (.rt rfl) ?_ (.cons (.rt rfl) ?_ .nil)))))
      · exact VLe.int (by rw [numO_none hn]; rfl)
      · exact VLe.int (by rw [numO_none hn]; rfl)
      · exact VLe.int (by rw [numO_none hn]; rfl)
      · exact VLe.prop (by rw [numO_none hn]; simp)

theorem rows_spec  : FnP Tryd.prog 79 [] (aggV (rowsT.flatMap encRow)) := by
  refine FnE.intro 49 Tryd.func79 rfl rfl rfl fun w0 S0 M => ?_
  refine CodeT.seq ?_
  refine CodeT.region (.n (opAlloc Tryd.zb125) rfl <| fun b0 _ => .nil ?_)
  refine EndT.thenN ?_
  refine CodeT.seq ?_
  refine CodeT.region (.p (opBuild Tryd.pl115 Tryd.zb115 (.cons (.c _) (.cons (.s [117, 110, 114, 101, 97, 99, 104, 97, 98, 108, 101] rfl rfl) (.cons (.c _) (.cons (.s [] rfl rfl) (.cons (.s [] rfl rfl) .nil))))) rfl) rfl <| .p (opBuild Tryd.pl115 Tryd.zb115 (.cons (.c _) (.cons (.s [110, 111, 112] rfl rfl) (.cons (.c _) (.cons (.s [] rfl rfl) (.cons (.s [] rfl rfl) .nil))))) rfl) rfl <| .p (opBuild Tryd.pl115 Tryd.zb115 (.cons (.c _) (.cons (.s [98, 108, 111, 99, 107] rfl rfl) (.cons (.c _) (.cons (.s [] rfl rfl) (.cons (.s [] rfl rfl) .nil))))) rfl) rfl <| .p (opBuild Tryd.pl115 Tryd.zb115 (.cons (.c _) (.cons (.s [108, 111, 111, 112] rfl rfl) (.cons (.c _) (.cons (.s [] rfl rfl) (.cons (.s [] rfl rfl) .nil))))) rfl) rfl <| .p (opBuild Tryd.pl115 Tryd.zb115 (.cons (.c _) (.cons (.s [105, 102] rfl rfl) (.cons (.c _) (.cons (.s [] rfl rfl) (.cons (.s [] rfl rfl) .nil))))) rfl) rfl <| .p (opBuild Tryd.pl115 Tryd.zb115 (.cons (.c _) (.cons (.s [101, 108, 115, 101] rfl rfl) (.cons (.c _) (.cons (.s [] rfl rfl) (.cons (.s [] rfl rfl) .nil))))) rfl) rfl <| .p (opBuild Tryd.pl115 Tryd.zb115 (.cons (.c _) (.cons (.s [101, 110, 100] rfl rfl) (.cons (.c _) (.cons (.s [] rfl rfl) (.cons (.s [] rfl rfl) .nil))))) rfl) rfl <| .p (opBuild Tryd.pl115 Tryd.zb115 (.cons (.c _) (.cons (.s [98, 114] rfl rfl) (.cons (.c _) (.cons (.s [] rfl rfl) (.cons (.s [] rfl rfl) .nil))))) rfl) rfl <| .p (opBuild Tryd.pl115 Tryd.zb115 (.cons (.c _) (.cons (.s [98, 114, 95, 105, 102] rfl rfl) (.cons (.c _) (.cons (.s [] rfl rfl) (.cons (.s [] rfl rfl) .nil))))) rfl) rfl <| .p (opBuild Tryd.pl115 Tryd.zb115 (.cons (.c _) (.cons (.s [98, 114, 95, 116, 97, 98, 108, 101] rfl rfl) (.cons (.c _) (.cons (.s [] rfl rfl) (.cons (.s [] rfl rfl) .nil))))) rfl) rfl <| .p (opBuild Tryd.pl115 Tryd.zb115 (.cons (.c _) (.cons (.s [114, 101, 116, 117, 114, 110] rfl rfl) (.cons (.c _) (.cons (.s [] rfl rfl) (.cons (.s [] rfl rfl) .nil))))) rfl) rfl <| .p (opBuild Tryd.pl115 Tryd.zb115 (.cons (.c _) (.cons (.s [99, 97, 108, 108] rfl rfl) (.cons (.c _) (.cons (.s [] rfl rfl) (.cons (.s [] rfl rfl) .nil))))) rfl) rfl <| .p (opBuild Tryd.pl115 Tryd.zb115 (.cons (.c _) (.cons (.s [99, 97, 108, 108, 95, 105, 110, 100, 105, 114, 101, 99, 116] rfl rfl) (.cons (.c _) (.cons (.s [] rfl rfl) (.cons (.s [] rfl rfl) .nil))))) rfl) rfl <| .p (opBuild Tryd.pl115 Tryd.zb115 (.cons (.c _) (.cons (.s [100, 114, 111, 112] rfl rfl) (.cons (.c _) (.cons (.s [] rfl rfl) (.cons (.s [] rfl rfl) .nil))))) rfl) rfl <| .p (opBuild Tryd.pl115 Tryd.zb115 (.cons (.c _) (.cons (.s [115, 101, 108, 101, 99, 116] rfl rfl) (.cons (.c _) (.cons (.s [] rfl rfl) (.cons (.s [] rfl rfl) .nil))))) rfl) rfl <| .p (opBuild Tryd.pl115 Tryd.zb115 (.cons (.c _) (.cons (.s [108, 111, 99, 97, 108, 46, 103, 101, 116] rfl rfl) (.cons (.c _) (.cons (.s [] rfl rfl) (.cons (.s [] rfl rfl) .nil))))) rfl) rfl <| .p (opBuild Tryd.pl115 Tryd.zb115 (.cons (.c _) (.cons (.s [108, 111, 99, 97, 108, 46, 115, 101, 116] rfl rfl) (.cons (.c _) (.cons (.s [] rfl rfl) (.cons (.s [] rfl rfl) .nil))))) rfl) rfl <| .p (opBuild Tryd.pl115 Tryd.zb115 (.cons (.c _) (.cons (.s [108, 111, 99, 97, 108, 46, 116, 101, 101] rfl rfl) (.cons (.c _) (.cons (.s [] rfl rfl) (.cons (.s [] rfl rfl) .nil))))) rfl) rfl <| .p (opBuild Tryd.pl115 Tryd.zb115 (.cons (.c _) (.cons (.s [103, 108, 111, 98, 97, 108, 46, 103, 101, 116] rfl rfl) (.cons (.c _) (.cons (.s [] rfl rfl) (.cons (.s [] rfl rfl) .nil))))) rfl) rfl <| .p (opBuild Tryd.pl115 Tryd.zb115 (.cons (.c _) (.cons (.s [103, 108, 111, 98, 97, 108, 46, 115, 101, 116] rfl rfl) (.cons (.c _) (.cons (.s [] rfl rfl) (.cons (.s [] rfl rfl) .nil))))) rfl) rfl <| .p (opBuild Tryd.pl115 Tryd.zb115 (.cons (.c _) (.cons (.s [105, 51, 50, 46, 108, 111, 97, 100] rfl rfl) (.cons (.c _) (.cons (.s [105] rfl rfl) (.cons (.s [105] rfl rfl) .nil))))) rfl) rfl <| .p (opBuild Tryd.pl115 Tryd.zb115 (.cons (.c _) (.cons (.s [105, 54, 52, 46, 108, 111, 97, 100] rfl rfl) (.cons (.c _) (.cons (.s [105] rfl rfl) (.cons (.s [108] rfl rfl) .nil))))) rfl) rfl <| .p (opBuild Tryd.pl115 Tryd.zb115 (.cons (.c _) (.cons (.s [105, 51, 50, 46, 108, 111, 97, 100, 56, 95, 115] rfl rfl) (.cons (.c _) (.cons (.s [105] rfl rfl) (.cons (.s [105] rfl rfl) .nil))))) rfl) rfl <| .p (opBuild Tryd.pl115 Tryd.zb115 (.cons (.c _) (.cons (.s [105, 51, 50, 46, 108, 111, 97, 100, 56, 95, 117] rfl rfl) (.cons (.c _) (.cons (.s [105] rfl rfl) (.cons (.s [105] rfl rfl) .nil))))) rfl) rfl <| .p (opBuild Tryd.pl115 Tryd.zb115 (.cons (.c _) (.cons (.s [105, 51, 50, 46, 108, 111, 97, 100, 49, 54, 95, 115] rfl rfl) (.cons (.c _) (.cons (.s [105] rfl rfl) (.cons (.s [105] rfl rfl) .nil))))) rfl) rfl <| .p (opBuild Tryd.pl115 Tryd.zb115 (.cons (.c _) (.cons (.s [105, 51, 50, 46, 108, 111, 97, 100, 49, 54, 95, 117] rfl rfl) (.cons (.c _) (.cons (.s [105] rfl rfl) (.cons (.s [105] rfl rfl) .nil))))) rfl) rfl <| .p (opBuild Tryd.pl115 Tryd.zb115 (.cons (.c _) (.cons (.s [105, 54, 52, 46, 108, 111, 97, 100, 56, 95, 115] rfl rfl) (.cons (.c _) (.cons (.s [105] rfl rfl) (.cons (.s [108] rfl rfl) .nil))))) rfl) rfl <| .p (opBuild Tryd.pl115 Tryd.zb115 (.cons (.c _) (.cons (.s [105, 54, 52, 46, 108, 111, 97, 100, 56, 95, 117] rfl rfl) (.cons (.c _) (.cons (.s [105] rfl rfl) (.cons (.s [108] rfl rfl) .nil))))) rfl) rfl <| .p (opBuild Tryd.pl115 Tryd.zb115 (.cons (.c _) (.cons (.s [105, 54, 52, 46, 108, 111, 97, 100, 49, 54, 95, 115] rfl rfl) (.cons (.c _) (.cons (.s [105] rfl rfl) (.cons (.s [108] rfl rfl) .nil))))) rfl) rfl <| .p (opBuild Tryd.pl115 Tryd.zb115 (.cons (.c _) (.cons (.s [105, 54, 52, 46, 108, 111, 97, 100, 49, 54, 95, 117] rfl rfl) (.cons (.c _) (.cons (.s [105] rfl rfl) (.cons (.s [108] rfl rfl) .nil))))) rfl) rfl <| .p (opBuild Tryd.pl115 Tryd.zb115 (.cons (.c _) (.cons (.s [105, 54, 52, 46, 108, 111, 97, 100, 51, 50, 95, 115] rfl rfl) (.cons (.c _) (.cons (.s [105] rfl rfl) (.cons (.s [108] rfl rfl) .nil))))) rfl) rfl <| .p (opBuild Tryd.pl115 Tryd.zb115 (.cons (.c _) (.cons (.s [105, 54, 52, 46, 108, 111, 97, 100, 51, 50, 95, 117] rfl rfl) (.cons (.c _) (.cons (.s [105] rfl rfl) (.cons (.s [108] rfl rfl) .nil))))) rfl) rfl <| .p (opBuild Tryd.pl115 Tryd.zb115 (.cons (.c _) (.cons (.s [105, 51, 50, 46, 115, 116, 111, 114, 101] rfl rfl) (.cons (.c _) (.cons (.s [105, 105] rfl rfl) (.cons (.s [] rfl rfl) .nil))))) rfl) rfl <| .p (opBuild Tryd.pl115 Tryd.zb115 (.cons (.c _) (.cons (.s [105, 54, 52, 46, 115, 116, 111, 114, 101] rfl rfl) (.cons (.c _) (.cons (.s [105, 108] rfl rfl) (.cons (.s [] rfl rfl) .nil))))) rfl) rfl <| .p (opBuild Tryd.pl115 Tryd.zb115 (.cons (.c _) (.cons (.s [105, 51, 50, 46, 115, 116, 111, 114, 101, 56] rfl rfl) (.cons (.c _) (.cons (.s [105, 105] rfl rfl) (.cons (.s [] rfl rfl) .nil))))) rfl) rfl <| .p (opBuild Tryd.pl115 Tryd.zb115 (.cons (.c _) (.cons (.s [105, 51, 50, 46, 115, 116, 111, 114, 101, 49, 54] rfl rfl) (.cons (.c _) (.cons (.s [105, 105] rfl rfl) (.cons (.s [] rfl rfl) .nil))))) rfl) rfl <| .p (opBuild Tryd.pl115 Tryd.zb115 (.cons (.c _) (.cons (.s [105, 54, 52, 46, 115, 116, 111, 114, 101, 56] rfl rfl) (.cons (.c _) (.cons (.s [105, 108] rfl rfl) (.cons (.s [] rfl rfl) .nil))))) rfl) rfl <| .p (opBuild Tryd.pl115 Tryd.zb115 (.cons (.c _) (.cons (.s [105, 54, 52, 46, 115, 116, 111, 114, 101, 49, 54] rfl rfl) (.cons (.c _) (.cons (.s [105, 108] rfl rfl) (.cons (.s [] rfl rfl) .nil))))) rfl) rfl <| .p (opBuild Tryd.pl115 Tryd.zb115 (.cons (.c _) (.cons (.s [105, 54, 52, 46, 115, 116, 111, 114, 101, 51, 50] rfl rfl) (.cons (.c _) (.cons (.s [105, 108] rfl rfl) (.cons (.s [] rfl rfl) .nil))))) rfl) rfl <| .p (opBuild Tryd.pl115 Tryd.zb115 (.cons (.c _) (.cons (.s [109, 101, 109, 111, 114, 121, 46, 115, 105, 122, 101] rfl rfl) (.cons (.c _) (.cons (.s [] rfl rfl) (.cons (.s [105] rfl rfl) .nil))))) rfl) rfl <| .p (opBuild Tryd.pl115 Tryd.zb115 (.cons (.c _) (.cons (.s [109, 101, 109, 111, 114, 121, 46, 103, 114, 111, 119] rfl rfl) (.cons (.c _) (.cons (.s [105] rfl rfl) (.cons (.s [105] rfl rfl) .nil))))) rfl) rfl <| .p (opBuild Tryd.pl115 Tryd.zb115 (.cons (.c _) (.cons (.s [105, 51, 50, 46, 99, 111, 110, 115, 116] rfl rfl) (.cons (.c _) (.cons (.s [] rfl rfl) (.cons (.s [105] rfl rfl) .nil))))) rfl) rfl <| .p (opBuild Tryd.pl115 Tryd.zb115 (.cons (.c _) (.cons (.s [105, 54, 52, 46, 99, 111, 110, 115, 116] rfl rfl) (.cons (.c _) (.cons (.s [] rfl rfl) (.cons (.s [108] rfl rfl) .nil))))) rfl) rfl <| .p (opBuild Tryd.pl115 Tryd.zb115 (.cons (.c _) (.cons (.s [105, 51, 50, 46, 119, 114, 97, 112, 95, 105, 54, 52] rfl rfl) (.cons (.c _) (.cons (.s [108] rfl rfl) (.cons (.s [105] rfl rfl) .nil))))) rfl) rfl <| .p (opBuild Tryd.pl115 Tryd.zb115 (.cons (.c _) (.cons (.s [105, 54, 52, 46, 101, 120, 116, 101, 110, 100, 95, 105, 51, 50, 95, 115] rfl rfl) (.cons (.c _) (.cons (.s [105] rfl rfl) (.cons (.s [108] rfl rfl) .nil))))) rfl) rfl <| .p (opBuild Tryd.pl115 Tryd.zb115 (.cons (.c _) (.cons (.s [105, 54, 52, 46, 101, 120, 116, 101, 110, 100, 95, 105, 51, 50, 95, 117] rfl rfl) (.cons (.c _) (.cons (.s [105] rfl rfl) (.cons (.s [108] rfl rfl) .nil))))) rfl) rfl <| .p (opBuild Tryd.pl115 Tryd.zb115 (.cons (.c _) (.cons (.s [105, 51, 50, 46, 101, 120, 116, 101, 110, 100, 56, 95, 115] rfl rfl) (.cons (.c _) (.cons (.s [105] rfl rfl) (.cons (.s [105] rfl rfl) .nil))))) rfl) rfl <| .p (opBuildArr (cs := rowsT.flatMap encRow) Tryd.ar125 Tryd.zb125 (.cons (.t rfl) (.cons (.t rfl) (.cons (.t rfl) (.cons (.t rfl) (.cons (.t rfl) (.cons (.t rfl) (.cons (.t rfl) (.cons (.t rfl) (.cons (.t rfl) (.cons (.t rfl) (.cons (.t rfl) (.cons (.t rfl) (.cons (.t rfl) (.cons (.t rfl) (.cons (.t rfl) (.cons (.t rfl) (.cons (.t rfl) (.cons (.t rfl) (.cons (.t rfl) (.cons (.t rfl) (.cons (.t rfl) (.cons (.t rfl) (.cons (.t rfl) (.cons (.t rfl) (.cons (.t rfl) (.cons (.t rfl) (.cons (.t rfl) (.cons (.t rfl) (.cons (.t rfl) (.cons (.t rfl) (.cons (.t rfl) (.cons (.t rfl) (.cons (.t rfl) (.cons (.t rfl) (.cons (.t rfl) (.cons (.t rfl) (.cons (.t rfl) (.cons (.t rfl) (.cons (.t rfl) (.cons (.t rfl) (.cons (.t rfl) (.cons (.t rfl) (.cons (.t rfl) (.cons (.t rfl) (.cons (.t rfl) (.cons (.t rfl) (.cons (.t rfl) .nil))))))))))))))))))))))))))))))))))))))))))))))) rfl) rfl <| .s (opStoreOA (i := 0) Tryd.cz125 rfl (.t rfl) (.t rfl) rfl rfl rfl) <| .nil ?_)
  refine EndT.thenN ?_
  refine CodeT.ret (Post.retR1 rfl () trivial (fun _ _ _ _ => trivial) (.ra (i := 0) Tryd.ag125 Tryd.cz125 rfl rfl rfl rfl) ?_)
  exact VLe.refl _

theorem late_spec  : FnP Tryd.prog 80 [] (aggV (lateT.flatMap encRow)) := by
  refine FnE.intro 8 Tryd.func80 rfl rfl rfl fun w0 S0 M => ?_
  refine CodeT.seq ?_
  refine CodeT.region (.n (opAlloc Tryd.zb127) rfl <| fun b0 _ => .nil ?_)
  refine EndT.thenN ?_
  refine CodeT.seq ?_
  refine CodeT.region (.p (opBuild Tryd.pl115 Tryd.zb115 (.cons (.c _) (.cons (.s [105, 51, 50, 46, 101, 120, 116, 101, 110, 100, 49, 54, 95, 115] rfl rfl) (.cons (.c _) (.cons (.s [105] rfl rfl) (.cons (.s [105] rfl rfl) .nil))))) rfl) rfl <| .p (opBuild Tryd.pl115 Tryd.zb115 (.cons (.c _) (.cons (.s [105, 54, 52, 46, 101, 120, 116, 101, 110, 100, 56, 95, 115] rfl rfl) (.cons (.c _) (.cons (.s [108] rfl rfl) (.cons (.s [108] rfl rfl) .nil))))) rfl) rfl <| .p (opBuild Tryd.pl115 Tryd.zb115 (.cons (.c _) (.cons (.s [105, 54, 52, 46, 101, 120, 116, 101, 110, 100, 49, 54, 95, 115] rfl rfl) (.cons (.c _) (.cons (.s [108] rfl rfl) (.cons (.s [108] rfl rfl) .nil))))) rfl) rfl <| .p (opBuild Tryd.pl115 Tryd.zb115 (.cons (.c _) (.cons (.s [105, 54, 52, 46, 101, 120, 116, 101, 110, 100, 51, 50, 95, 115] rfl rfl) (.cons (.c _) (.cons (.s [108] rfl rfl) (.cons (.s [108] rfl rfl) .nil))))) rfl) rfl <| .p (opBuild Tryd.pl115 Tryd.zb115 (.cons (.c _) (.cons (.s [109, 101, 109, 111, 114, 121, 46, 99, 111, 112, 121] rfl rfl) (.cons (.c _) (.cons (.s [105, 105, 105] rfl rfl) (.cons (.s [] rfl rfl) .nil))))) rfl) rfl <| .p (opBuild Tryd.pl115 Tryd.zb115 (.cons (.c _) (.cons (.s [109, 101, 109, 111, 114, 121, 46, 102, 105, 108, 108] rfl rfl) (.cons (.c _) (.cons (.s [105, 105, 105] rfl rfl) (.cons (.s [] rfl rfl) .nil))))) rfl) rfl <| .p (opBuildArr (cs := lateT.flatMap encRow) Tryd.ar127 Tryd.zb127 (.cons (.t rfl) (.cons (.t rfl) (.cons (.t rfl) (.cons (.t rfl) (.cons (.t rfl) (.cons (.t rfl) .nil)))))) rfl) rfl <| .s (opStoreOA (i := 0) Tryd.cz127 rfl (.t rfl) (.t rfl) rfl rfl rfl) <| .nil ?_)
  refine EndT.thenN ?_
  refine CodeT.ret (Post.retR1 rfl () trivial (fun _ _ _ _ => trivial) (.ra (i := 0) Tryd.ag127 Tryd.cz127 rfl rfl rfl rfl) ?_)
  exact VLe.refl _

theorem binaries_spec  : FnP Tryd.prog 85 [] (aggV (binT.flatMap encStrD)) := by
  refine FnE.intro 2 Tryd.func85 rfl rfl rfl fun w0 S0 M => ?_
  refine CodeT.seq ?_
  refine CodeT.region (.n (opAlloc Tryd.zb132) rfl <| fun b0 _ => .nil ?_)
  refine EndT.thenN ?_
  refine CodeT.seq ?_
  refine CodeT.region (.p (opBuildArr (cs := binT.flatMap encStrD) Tryd.ar132 Tryd.zb132 (.cons (.s [97, 100, 100] rfl rfl) (.cons (.s [115, 117, 98] rfl rfl) (.cons (.s [109, 117, 108] rfl rfl) (.cons (.s [100, 105, 118, 95, 115] rfl rfl) (.cons (.s [100, 105, 118, 95, 117] rfl rfl) (.cons (.s [114, 101, 109, 95, 115] rfl rfl) (.cons (.s [114, 101, 109, 95, 117] rfl rfl) (.cons (.s [97, 110, 100] rfl rfl) (.cons (.s [111, 114] rfl rfl) (.cons (.s [120, 111, 114] rfl rfl) (.cons (.s [115, 104, 108] rfl rfl) (.cons (.s [115, 104, 114, 95, 115] rfl rfl) (.cons (.s [115, 104, 114, 95, 117] rfl rfl) (.cons (.s [114, 111, 116, 108] rfl rfl) (.cons (.s [114, 111, 116, 114] rfl rfl) .nil))))))))))))))) rfl) rfl <| .s (opStoreOA (i := 0) Tryd.cz132 rfl (.t rfl) (.t rfl) rfl rfl rfl) <| .nil ?_)
  refine EndT.thenN ?_
  refine CodeT.ret (Post.retR1 rfl () trivial (fun _ _ _ _ => trivial) (.ra (i := 0) Tryd.ag132 Tryd.cz132 rfl rfl rfl rfl) ?_)
  exact VLe.refl _

theorem tests_spec  : FnP Tryd.prog 86 [] (aggV (testT.flatMap encStrD)) := by
  refine FnE.intro 2 Tryd.func86 rfl rfl rfl fun w0 S0 M => ?_
  refine CodeT.seq ?_
  refine CodeT.region (.n (opAlloc Tryd.zb134) rfl <| fun b0 _ => .nil ?_)
  refine EndT.thenN ?_
  refine CodeT.seq ?_
  refine CodeT.region (.p (opBuildArr (cs := testT.flatMap encStrD) Tryd.ar134 Tryd.zb134 (.cons (.s [101, 113] rfl rfl) (.cons (.s [110, 101] rfl rfl) (.cons (.s [108, 116, 95, 115] rfl rfl) (.cons (.s [108, 116, 95, 117] rfl rfl) (.cons (.s [103, 116, 95, 115] rfl rfl) (.cons (.s [103, 116, 95, 117] rfl rfl) (.cons (.s [108, 101, 95, 115] rfl rfl) (.cons (.s [108, 101, 95, 117] rfl rfl) (.cons (.s [103, 101, 95, 115] rfl rfl) (.cons (.s [103, 101, 95, 117] rfl rfl) .nil)))))))))) rfl) rfl <| .s (opStoreOA (i := 0) Tryd.cz134 rfl (.t rfl) (.t rfl) rfl rfl rfl) <| .nil ?_)
  refine EndT.thenN ?_
  refine CodeT.ret (Post.retR1 rfl () trivial (fun _ _ _ _ => trivial) (.ra (i := 0) Tryd.ag134 Tryd.cz134 rfl rfl rfl rfl) ?_)
  exact VLe.refl _

theorem unaries_spec  : FnP Tryd.prog 87 [] (aggV (unT.flatMap encStrD)) := by
  refine FnE.intro 2 Tryd.func87 rfl rfl rfl fun w0 S0 M => ?_
  refine CodeT.seq ?_
  refine CodeT.region (.n (opAlloc Tryd.zb136) rfl <| fun b0 _ => .nil ?_)
  refine EndT.thenN ?_
  refine CodeT.seq ?_
  refine CodeT.region (.p (opBuildArr (cs := unT.flatMap encStrD) Tryd.ar136 Tryd.zb136 (.cons (.s [99, 108, 122] rfl rfl) (.cons (.s [99, 116, 122] rfl rfl) (.cons (.s [112, 111, 112, 99, 110, 116] rfl rfl) (.cons (.s [101, 113, 122] rfl rfl) .nil)))) rfl) rfl <| .s (opStoreOA (i := 0) Tryd.cz136 rfl (.t rfl) (.t rfl) rfl rfl rfl) <| .nil ?_)
  refine EndT.thenN ?_
  refine CodeT.ret (Post.retR1 rfl () trivial (fun _ _ _ _ => trivial) (.ra (i := 0) Tryd.ag136 Tryd.cz136 rfl rfl rfl rfl) ?_)
  exact VLe.refl _

set_option maxHeartbeats 1000000 in
theorem numbered_spec {code : Int} : FnP Tryd.prog 81 [intV .i64 code] (tupV [aggV (encRow ((numberedO code).getD zeroR)), propV (numberedO code).isSome]) := by
  refine FnE.intro 69 Tryd.func81 rfl rfl rfl fun w0 S0 M => ?_
  refine CodeT.seq ?_
  refine CodeT.region (.n (opAlloc Tryd.zb115) rfl <| fun b2 _ => .p (opAssign .cf) rfl <| .nil ?_)
  refine EndT.thenN ?_
  refine CodeT.seq ?_
  refine CodeT.region (.p (opMove (.t rfl)) rfl <| .p (opCall (numeric_spec) Tryd.cb42 (.cons (.t rfl) .nil)) rfl <| .p (opMove (.t rfl)) rfl <| .p (opExtract (.t rfl) rfl) rfl <| .p (opExtract (.t rfl) rfl) rfl <| .p (opExtract (.t rfl) rfl) rfl <| .p (opExtract (.t rfl) rfl) rfl <| .p (opAssign (.t rfl)) rfl <| .p (opAssign (.t rfl)) rfl <| .p (opAssign (.t rfl)) rfl <| .p (opAssign (.t rfl)) rfl <| .nil ?_)
  refine EndT.thenN ?_
  refine CodeT.seq ?_
  refine CodeT.seq ?_
  refine CodeT.region (.p (opMove (.t rfl)) rfl <| .p (opNot (.t rfl)) rfl <| .nil ?_)
  refine EndT.thenN ?_
  refine CodeT.cond (.t rfl) (fun c0 => ?_) (fun c0 => ?_)
  ·
    have hno : numO code = none := by simpa using c0
    have hnm := numbered_none hno
    refine CodeT.seq ?_
    refine CodeT.region (.p (opBuild Tryd.pl115 Tryd.zb115 .nil rfl) rfl <| .s (opStoreOA (i := 0) Tryd.cz115 rfl (.t rfl) (.t rfl) rfl rfl rfl) <| .p (opAssign .cf) rfl <| .nil ?_)
    refine EndT.thenN ?_
    refine CodeT.ret (EndT.thenR (Post.retR rfl rfl () trivial (fun _ _ _ _ => trivial) rfl (.cons (.ra (i := 0) Tryd.ag115 Tryd.cz115 rfl rfl rfl rfl) ?_ (.cons (.rt rfl) ?_ .nil))))
    · simp only [hnm, Option.getD_none]; exact VLe.agg (.cons (VLe.refl _) (.cons strV_nil (.cons (VLe.refl _) (.cons strV_nil (.cons strV_nil .nil)))))
    · exact VLe.prop (by rw [hnm]; simp)
  ·
    obtain ⟨⟨g, n, b⟩, hno⟩ := Option.isSome_iff_exists.1 (Classical.not_not.1 c0)
    obtain ⟨hn0, hng, hnb⟩ := numO_bounds hno
    have hnm := numbered_some hno
    simp only [hno, Option.getD_some]
    have hk4 := kind_len b
    have hlb := getD_len binT_len n.toNat
    have hlt := getD_len testT_len n.toNat
    have hlu := getD_len unT_len n.toNat
    refine CodeT.skip (EndT.thenN ?_)
    refine CodeT.seq ?_
    refine CodeT.region (.p (opAssign (.s [105, 51, 50, 46] rfl rfl)) rfl <| .p (opAssign (.s [105] rfl rfl)) rfl <| .nil ?_)
    refine EndT.thenN ?_
    refine CodeT.seq ?_
    refine CodeT.seq ?_
    refine CodeT.region (.p (opMove (.t rfl)) rfl <| .p (opEql (.t rfl) (.c _)) rfl <| .nil ?_)
    refine EndT.thenN ?_
    refine CodeT.cond (.t rfl) (fun c1 => ?_) (fun c1 => ?_)
    ·
      refine CodeT.region (.p (opAssign (.s [105, 54, 52, 46] rfl rfl)) rfl <| .p (opAssign (.s [108] rfl rfl)) rfl <| .nil ?_)
      refine EndT.thenN ?_
      refine CodeT.seq ?_
      refine CodeT.block ?_
      refine CodeT.seq ?_
      refine CodeT.region (.p (opMove (.t rfl)) rfl <| .p (opEql (.t rfl) (.c _)) rfl <| .p (opAssign (.t rfl)) rfl <| .nil ?_)
      refine EndT.thenN ?_
      refine CodeT.cond (.t rfl) (fun c2 => ?_) (fun c2 => ?_)
      ·
        refine CodeT.seq ?_
        refine CodeT.region (.p (opMove (.t rfl)) rfl <| .p (opMove (.t rfl)) rfl <| .p (opCall (binaries_spec) Tryd.cb85 .nil) rfl <| .p (opMove (.t rfl)) rfl <| .p (opIndexA1 Tryd.underlying132 Tryd.cz9 Tryd.ag9 (.t rfl) rfl (.t rfl) (by omega : _ = ((n.toNat : Nat) : Int)) (strs_at (by have : binT.length = 15 := rfl; omega))) rfl <| .p (opCat (.t rfl) (.t rfl) (by simp only [List.length_cons, List.length_nil]; omega)) rfl <| .p (opMove (.t rfl)) rfl <| .p (opMove (.t rfl)) rfl <| .p (opCat (.t rfl) (.t rfl) (by simp only [List.length_cons, List.length_nil]; omega)) rfl <| .p (opMove (.t rfl)) rfl <| .p (opBuild Tryd.pl115 Tryd.zb115 (.cons (.t rfl) (.cons (.t rfl) (.cons (.c _) (.cons (.t rfl) (.cons (.t rfl) .nil))))) rfl) rfl <| .s (opStoreOA (i := 0) Tryd.cz115 rfl (.t rfl) (.t rfl) rfl rfl rfl) <| .p (opAssign .ct) rfl <| .nil ?_)
        refine EndT.thenN ?_
        refine CodeT.ret (EndT.blkR (EndT.thenR (Post.retR rfl rfl () trivial (fun _ _ _ _ => trivial) rfl (.cons (.ra (i := 0) Tryd.ag115 Tryd.cz115 rfl rfl rfl rfl) ?_ (.cons (.rt rfl) ?_ .nil)))))
        · simp only [hnm, Option.getD_some]; exact VLe.of_eq (by simp [numRow, encRow, kindS, oneS, *]; try rfl)
        · exact VLe.prop (by rw [hnm]; simp)
      ·
        refine CodeT.seq ?_
        refine CodeT.region (.p (opMove (.t rfl)) rfl <| .p (opEql (.t rfl) (.c _)) rfl <| .p (opAssign (.t rfl)) rfl <| .nil ?_)
        refine EndT.thenN ?_
        refine CodeT.cond (.t rfl) (fun c3 => ?_) (fun c3 => ?_)
        ·
          refine CodeT.seq ?_
          refine CodeT.region (.p (opMove (.t rfl)) rfl <| .p (opMove (.t rfl)) rfl <| .p (opCall (tests_spec) Tryd.cb86 .nil) rfl <| .p (opMove (.t rfl)) rfl <| .p (opIndexA1 Tryd.underlying134 Tryd.cz9 Tryd.ag9 (.t rfl) rfl (.t rfl) (by omega : _ = ((n.toNat : Nat) : Int)) (strs_at (by have : testT.length = 10 := rfl; omega))) rfl <| .p (opCat (.t rfl) (.t rfl) (by simp only [List.length_cons, List.length_nil]; omega)) rfl <| .p (opMove (.t rfl)) rfl <| .p (opMove (.t rfl)) rfl <| .p (opCat (.t rfl) (.t rfl) (by simp only [List.length_cons, List.length_nil]; omega)) rfl <| .p (opBuild Tryd.pl115 Tryd.zb115 (.cons (.t rfl) (.cons (.t rfl) (.cons (.c _) (.cons (.t rfl) (.cons (.s [105] rfl rfl) .nil))))) rfl) rfl <| .s (opStoreOA (i := 0) Tryd.cz115 rfl (.t rfl) (.t rfl) rfl rfl rfl) <| .p (opAssign .ct) rfl <| .nil ?_)
          refine EndT.thenN ?_
          refine CodeT.ret (EndT.blkR (EndT.thenR (Post.retR rfl rfl () trivial (fun _ _ _ _ => trivial) rfl (.cons (.ra (i := 0) Tryd.ag115 Tryd.cz115 rfl rfl rfl rfl) ?_ (.cons (.rt rfl) ?_ .nil)))))
          · simp only [hnm, Option.getD_some]; exact VLe.of_eq (by simp [numRow, encRow, kindS, oneS, *]; try rfl)
          · exact VLe.prop (by rw [hnm]; simp)
        ·
          refine CodeT.seq ?_
          refine CodeT.region (.p (opMove (.t rfl)) rfl <| .p (opEql (.t rfl) (.c _)) rfl <| .p (opAssign (.t rfl)) rfl <| .nil ?_)
          refine EndT.thenN ?_
          refine CodeT.cond (.t rfl) (fun c4 => ?_) (fun c4 => ?_)
          ·
            refine CodeT.seq ?_
            refine CodeT.region (.p (opMove (.t rfl)) rfl <| .p (opMove (.t rfl)) rfl <| .p (opCall (unaries_spec) Tryd.cb87 .nil) rfl <| .p (opMove (.t rfl)) rfl <| .p (opIndexA1 Tryd.underlying136 Tryd.cz9 Tryd.ag9 (.t rfl) rfl (.t rfl) (by omega : _ = ((n.toNat : Nat) : Int)) (strs_at (by have : unT.length = 4 := rfl; omega))) rfl <| .p (opCat (.t rfl) (.t rfl) (by simp only [List.length_cons, List.length_nil]; omega)) rfl <| .p (opMove (.t rfl)) rfl <| .p (opBuild Tryd.pl115 Tryd.zb115 (.cons (.t rfl) (.cons (.t rfl) (.cons (.c _) (.cons (.t rfl) (.cons (.s [105] rfl rfl) .nil))))) rfl) rfl <| .s (opStoreOA (i := 0) Tryd.cz115 rfl (.t rfl) (.t rfl) rfl rfl rfl) <| .p (opAssign .ct) rfl <| .nil ?_)
            refine EndT.thenN ?_
            refine CodeT.ret (EndT.blkR (EndT.thenR (Post.retR rfl rfl () trivial (fun _ _ _ _ => trivial) rfl (.cons (.ra (i := 0) Tryd.ag115 Tryd.cz115 rfl rfl rfl rfl) ?_ (.cons (.rt rfl) ?_ .nil)))))
            · simp only [hnm, Option.getD_some]; exact VLe.of_eq (by simp [numRow, encRow, kindS, oneS, *]; try rfl)
            · exact VLe.prop (by rw [hnm]; simp)
          ·
            refine CodeT.skip (EndT.blkN (EndT.thenN ?_))
            refine CodeT.seq ?_
            refine CodeT.region (.p (opMove (.t rfl)) rfl <| .p (opMove (.t rfl)) rfl <| .p (opCall (unaries_spec) Tryd.cb87 .nil) rfl <| .p (opMove (.t rfl)) rfl <| .p (opIndexA1 Tryd.underlying136 Tryd.cz9 Tryd.ag9 (.t rfl) rfl (.t rfl) (by omega : _ = ((n.toNat : Nat) : Int)) (strs_at (by have : unT.length = 4 := rfl; omega))) rfl <| .p (opCat (.t rfl) (.t rfl) (by simp only [List.length_cons, List.length_nil]; omega)) rfl <| .p (opMove (.t rfl)) rfl <| .p (opMove (.t rfl)) rfl <| .p (opBuild Tryd.pl115 Tryd.zb115 (.cons (.t rfl) (.cons (.t rfl) (.cons (.c _) (.cons (.t rfl) (.cons (.t rfl) .nil))))) rfl) rfl <| .s (opStoreOA (i := 0) Tryd.cz115 rfl (.t rfl) (.t rfl) rfl rfl rfl) <| .p (opAssign .ct) rfl <| .nil ?_)
            refine EndT.thenN ?_
            refine CodeT.ret (Post.retR rfl rfl () trivial (fun _ _ _ _ => trivial) rfl (.cons (.ra (i := 0) Tryd.ag115 Tryd.cz115 rfl rfl rfl rfl) ?_ (.cons (.rt rfl) ?_ .nil)))
            · simp only [hnm, Option.getD_some]; exact VLe.of_eq (by simp [numRow, encRow, kindS, oneS, *]; try rfl)
            · exact VLe.prop (by rw [hnm]; simp)
    ·
      refine CodeT.skip (EndT.thenN ?_)
      refine CodeT.seq ?_
      refine CodeT.block ?_
      refine CodeT.seq ?_
      refine CodeT.region (.p (opMove (.t rfl)) rfl <| .p (opEql (.t rfl) (.c _)) rfl <| .p (opAssign (.t rfl)) rfl <| .nil ?_)
      refine EndT.thenN ?_
      refine CodeT.cond (.t rfl) (fun c5 => ?_) (fun c5 => ?_)
      ·
        refine CodeT.seq ?_
        refine CodeT.region (.p (opMove (.t rfl)) rfl <| .p (opMove (.t rfl)) rfl <| .p (opCall (binaries_spec) Tryd.cb85 .nil) rfl <| .p (opMove (.t rfl)) rfl <| .p (opIndexA1 Tryd.underlying132 Tryd.cz9 Tryd.ag9 (.t rfl) rfl (.t rfl) (by omega : _ = ((n.toNat : Nat) : Int)) (strs_at (by have : binT.length = 15 := rfl; omega))) rfl <| .p (opCat (.t rfl) (.t rfl) (by simp only [List.length_cons, List.length_nil]; omega)) rfl <| .p (opMove (.t rfl)) rfl <| .p (opMove (.t rfl)) rfl <| .p (opCat (.t rfl) (.t rfl) (by simp only [List.length_cons, List.length_nil]; omega)) rfl <| .p (opMove (.t rfl)) rfl <| .p (opBuild Tryd.pl115 Tryd.zb115 (.cons (.t rfl) (.cons (.t rfl) (.cons (.c _) (.cons (.t rfl) (.cons (.t rfl) .nil))))) rfl) rfl <| .s (opStoreOA (i := 0) Tryd.cz115 rfl (.t rfl) (.t rfl) rfl rfl rfl) <| .p (opAssign .ct) rfl <| .nil ?_)
        refine EndT.thenN ?_
        refine CodeT.ret (EndT.blkR (EndT.thenR (Post.retR rfl rfl () trivial (fun _ _ _ _ => trivial) rfl (.cons (.ra (i := 0) Tryd.ag115 Tryd.cz115 rfl rfl rfl rfl) ?_ (.cons (.rt rfl) ?_ .nil)))))
        · simp only [hnm, Option.getD_some]; exact VLe.of_eq (by simp [numRow, encRow, kindS, oneS, *]; try rfl)
        · exact VLe.prop (by rw [hnm]; simp)
      ·
        refine CodeT.seq ?_
        refine CodeT.region (.p (opMove (.t rfl)) rfl <| .p (opEql (.t rfl) (.c _)) rfl <| .p (opAssign (.t rfl)) rfl <| .nil ?_)
        refine EndT.thenN ?_
        refine CodeT.cond (.t rfl) (fun c6 => ?_) (fun c6 => ?_)
        ·
          refine CodeT.seq ?_
          refine CodeT.region (.p (opMove (.t rfl)) rfl <| .p (opMove (.t rfl)) rfl <| .p (opCall (tests_spec) Tryd.cb86 .nil) rfl <| .p (opMove (.t rfl)) rfl <| .p (opIndexA1 Tryd.underlying134 Tryd.cz9 Tryd.ag9 (.t rfl) rfl (.t rfl) (by omega : _ = ((n.toNat : Nat) : Int)) (strs_at (by have : testT.length = 10 := rfl; omega))) rfl <| .p (opCat (.t rfl) (.t rfl) (by simp only [List.length_cons, List.length_nil]; omega)) rfl <| .p (opMove (.t rfl)) rfl <| .p (opMove (.t rfl)) rfl <| .p (opCat (.t rfl) (.t rfl) (by simp only [List.length_cons, List.length_nil]; omega)) rfl <| .p (opBuild Tryd.pl115 Tryd.zb115 (.cons (.t rfl) (.cons (.t rfl) (.cons (.c _) (.cons (.t rfl) (.cons (.s [105] rfl rfl) .nil))))) rfl) rfl <| .s (opStoreOA (i := 0) Tryd.cz115 rfl (.t rfl) (.t rfl) rfl rfl rfl) <| .p (opAssign .ct) rfl <| .nil ?_)
          refine EndT.thenN ?_
          refine CodeT.ret (EndT.blkR (EndT.thenR (Post.retR rfl rfl () trivial (fun _ _ _ _ => trivial) rfl (.cons (.ra (i := 0) Tryd.ag115 Tryd.cz115 rfl rfl rfl rfl) ?_ (.cons (.rt rfl) ?_ .nil)))))
          · simp only [hnm, Option.getD_some]; exact VLe.of_eq (by simp [numRow, encRow, kindS, oneS, *]; try rfl)
          · exact VLe.prop (by rw [hnm]; simp)
        ·
          refine CodeT.seq ?_
          refine CodeT.region (.p (opMove (.t rfl)) rfl <| .p (opEql (.t rfl) (.c _)) rfl <| .p (opAssign (.t rfl)) rfl <| .nil ?_)
          refine EndT.thenN ?_
          refine CodeT.cond (.t rfl) (fun c7 => ?_) (fun c7 => ?_)
          ·
            refine CodeT.seq ?_
            refine CodeT.region (.p (opMove (.t rfl)) rfl <| .p (opMove (.t rfl)) rfl <| .p (opCall (unaries_spec) Tryd.cb87 .nil) rfl <| .p (opMove (.t rfl)) rfl <| .p (opIndexA1 Tryd.underlying136 Tryd.cz9 Tryd.ag9 (.t rfl) rfl (.t rfl) (by omega : _ = ((n.toNat : Nat) : Int)) (strs_at (by have : unT.length = 4 := rfl; omega))) rfl <| .p (opCat (.t rfl) (.t rfl) (by simp only [List.length_cons, List.length_nil]; omega)) rfl <| .p (opMove (.t rfl)) rfl <| .p (opBuild Tryd.pl115 Tryd.zb115 (.cons (.t rfl) (.cons (.t rfl) (.cons (.c _) (.cons (.t rfl) (.cons (.s [105] rfl rfl) .nil))))) rfl) rfl <| .s (opStoreOA (i := 0) Tryd.cz115 rfl (.t rfl) (.t rfl) rfl rfl rfl) <| .p (opAssign .ct) rfl <| .nil ?_)
            refine EndT.thenN ?_
            refine CodeT.ret (EndT.blkR (EndT.thenR (Post.retR rfl rfl () trivial (fun _ _ _ _ => trivial) rfl (.cons (.ra (i := 0) Tryd.ag115 Tryd.cz115 rfl rfl rfl rfl) ?_ (.cons (.rt rfl) ?_ .nil)))))
            · simp only [hnm, Option.getD_some]; exact VLe.of_eq (by simp [numRow, encRow, kindS, oneS, *]; try rfl)
            · exact VLe.prop (by rw [hnm]; simp)
          ·
            refine CodeT.skip (EndT.blkN (EndT.thenN ?_))
            refine CodeT.seq ?_
            refine CodeT.region (.p (opMove (.t rfl)) rfl <| .p (opMove (.t rfl)) rfl <| .p (opCall (unaries_spec) Tryd.cb87 .nil) rfl <| .p (opMove (.t rfl)) rfl <| .p (opIndexA1 Tryd.underlying136 Tryd.cz9 Tryd.ag9 (.t rfl) rfl (.t rfl) (by omega : _ = ((n.toNat : Nat) : Int)) (strs_at (by have : unT.length = 4 := rfl; omega))) rfl <| .p (opCat (.t rfl) (.t rfl) (by simp only [List.length_cons, List.length_nil]; omega)) rfl <| .p (opMove (.t rfl)) rfl <| .p (opMove (.t rfl)) rfl <| .p (opBuild Tryd.pl115 Tryd.zb115 (.cons (.t rfl) (.cons (.t rfl) (.cons (.c _) (.cons (.t rfl) (.cons (.t rfl) .nil))))) rfl) rfl <| .s (opStoreOA (i := 0) Tryd.cz115 rfl (.t rfl) (.t rfl) rfl rfl rfl) <| .p (opAssign .ct) rfl <| .nil ?_)
            refine EndT.thenN ?_
            refine CodeT.ret (Post.retR rfl rfl () trivial (fun _ _ _ _ => trivial) rfl (.cons (.ra (i := 0) Tryd.ag115 Tryd.cz115 rfl rfl rfl rfl) ?_ (.cons (.rt rfl) ?_ .nil)))
            · simp only [hnm, Option.getD_some]; exact VLe.of_eq (by simp [numRow, encRow, kindS, oneS, *]; try rfl)
            · exact VLe.prop (by rw [hnm]; simp)

theorem at_spec {code : Int} : FnP Tryd.prog 73 [intV .i64 code] (tupV [aggV (encRow ((rowO code).getD zeroR)), propV (rowO code).isSome]) := by
  refine FnE.intro 32 Tryd.func73 rfl rfl rfl fun w0 S0 M => ?_
  refine CodeT.seq ?_
  refine CodeT.region (.n (opAlloc Tryd.zb115) rfl <| fun b2 _ => .p (opAssign .cf) rfl <| .nil ?_)
  refine EndT.thenN ?_
  refine CodeT.seq ?_
  refine CodeT.seq ?_
  refine CodeT.region (.p (opCall (rows_spec) Tryd.cb79 .nil) rfl <| .p (opMove (.c _)) rfl <| .nil ?_)
  refine EndT.thenN ?_
  refine CodeT.block ?_
  refine CodeT.loopO (σ := Nat) (fun _ => _) (fun k => [(9, intV .i64 (k : Int))]) (fun k => k ≤ rowsT.length ∧ NotB (fun r : RowD => r.code = code) rowsT k) (fun k => rowsT.length - k) 0 ⟨by omega, NotB.zero _ _⟩ rfl ?_ ?_
  · exact (.get rfl (VLe.refl _) (.refl _ _))
  · rintro k ⟨hk, hn⟩
    refine CodeT.seq ?_
    refine CodeT.region (.p (opLss (.t rfl) (.c _)) rfl <| .nil ?_)
    refine EndT.thenN ?_
    refine CodeT.seq ?_
    refine CodeT.cond (.t rfl) (fun c0 => ?_) (fun c0 => ?_)
    ·
      have hltk : k < rowsT.length := by have : rowsT.length = 47 := rfl; omega
      obtain ⟨x, hxk⟩ := getElem?_lt (xs := rowsT) (k := k) hltk
      refine CodeT.skip (EndT.thenN ?_)
      refine CodeT.seq ?_
      refine CodeT.block ?_
      refine CodeT.seq ?_
      refine CodeT.region (.p (opIndexA rowsT Tryd.underlying125 Tryd.cz115 rfl Tryd.ag115 (.t rfl) rfl rfl (.t rfl) rfl (by assumption)) rfl <| .n (opAlloc Tryd.zb115) rfl <| fun b5 _ => .s (opStoreOA (i := 0) Tryd.cz115 rfl (.t rfl) (.t rfl) rfl rfl rfl) <| .nil ?_)
      refine EndT.thenN ?_
      refine CodeT.share (t := 5) (i := 0) rfl rfl ?_
      refine CodeT.seq ?_
      refine CodeT.region (.p (opField Tryd.fd115_0 (.t rfl)) rfl <| .p (opLoad Tryd.ag3 (.t rfl)) rfl <| .p (opMove (.t rfl)) rfl <| .p (opEql (.t rfl) (.t rfl)) rfl <| .nil ?_)
      refine EndT.thenN ?_
      refine CodeT.cond (.t rfl) (fun c1 => ?_) (fun c1 => ?_)
      ·
        have hro := rowO_1 hxk c1 hn
        refine CodeT.seq ?_
        refine CodeT.region (.p (opLoadA Tryd.ag115 Tryd.cz115 rfl (.t rfl) rfl) rfl <| .s (opStoreOA (i := 0) Tryd.cz115 rfl (.t rfl) (.t rfl) rfl rfl rfl) <| .p (opAssign .ct) rfl <| .nil ?_)
        refine EndT.thenN ?_
        refine CodeT.ret (EndT.blkR (EndT.thenR (EndT.thenR (EndT.blkR (EndT.thenR (Post.retR rfl rfl () trivial (fun _ _ _ _ => trivial) rfl (.cons (.ra (i := 0) Tryd.ag115 Tryd.cz115 rfl rfl rfl rfl) ?_ (.cons (.rt rfl) ?_ .nil))))))))
        · rw [hro]; exact VLe.refl _
        · exact VLe.prop (by rw [hro]; simp)
      ·
        refine CodeT.skip (EndT.blkN (EndT.thenN ?_))
        refine CodeT.region (.p (opAddF (.t rfl) (.c _) (fits_i64 (by omega) (by omega))) rfl <| .p (opMove (.t rfl)) rfl <| .nil ?_)
        refine EndT.round (k + 1) ⟨by omega, hn.succ hxk c1⟩ (by omega) rfl ?_
        exact (.get rfl (VLe.int (by omega)) (.keep 11 rfl rfl))
    ·
      have hek : k = rowsT.length := by have : rowsT.length = 47 := rfl; omega
      subst hek
      refine CodeT.exit (EndT.thenX (EndT.thenX (EndT.blkX (EndT.thenN ?_))))
      refine CodeT.seq ?_
      refine CodeT.seq ?_
      refine CodeT.region (.p (opCall (late_spec) Tryd.cb80 .nil) rfl <| .p (opMove (.c _)) rfl <| .nil ?_)
      refine EndT.thenN ?_
      refine CodeT.block ?_
      refine CodeT.loopO (σ := Nat) (fun _ => _) (fun j => [(19, intV .i64 (j : Int))]) (fun j => j ≤ lateT.length ∧ NotB (fun r : RowD => r.code = code) lateT j) (fun j => lateT.length - j) 0 ⟨by omega, NotB.zero _ _⟩ rfl ?_ ?_
      · exact (.get rfl (VLe.refl _) (.refl _ _))
      · rintro j ⟨hj, hm⟩
        refine CodeT.seq ?_
        refine CodeT.region (.p (opLss (.t rfl) (.c _)) rfl <| .nil ?_)
        refine EndT.thenN ?_
        refine CodeT.seq ?_
        refine CodeT.cond (.t rfl) (fun c2 => ?_) (fun c2 => ?_)
        ·
          have hltj : j < lateT.length := by have : lateT.length = 6 := rfl; omega
          obtain ⟨y, hxj⟩ := getElem?_lt (xs := lateT) (k := j) hltj
          refine CodeT.skip (EndT.thenN ?_)
          refine CodeT.seq ?_
          refine CodeT.block ?_
          refine CodeT.seq ?_
          refine CodeT.region (.p (opIndexA lateT Tryd.underlying127 Tryd.cz115 rfl Tryd.ag115 (.t rfl) rfl rfl (.t rfl) rfl (by assumption)) rfl <| .n (opAlloc Tryd.zb115) rfl <| fun b7 _ => .s (opStoreOA (i := 0) Tryd.cz115 rfl (.t rfl) (.t rfl) rfl rfl rfl) <| .nil ?_)
          refine EndT.thenN ?_
          refine CodeT.share (t := 7) (i := 0) rfl rfl ?_
          refine CodeT.seq ?_
          refine CodeT.region (.p (opField Tryd.fd115_0 (.t rfl)) rfl <| .p (opLoad Tryd.ag3 (.t rfl)) rfl <| .p (opMove (.t rfl)) rfl <| .p (opEql (.t rfl) (.t rfl)) rfl <| .nil ?_)
          refine EndT.thenN ?_
          refine CodeT.cond (.t rfl) (fun c3 => ?_) (fun c3 => ?_)
          ·
            have hro := rowO_2 hn hxj c3 hm
            refine CodeT.seq ?_
            refine CodeT.region (.p (opLoadA Tryd.ag115 Tryd.cz115 rfl (.t rfl) rfl) rfl <| .s (opStoreOA (i := 0) Tryd.cz115 rfl (.t rfl) (.t rfl) rfl rfl rfl) <| .p (opAssign .ct) rfl <| .nil ?_)
            refine EndT.thenN ?_
            refine CodeT.ret (EndT.blkR (EndT.thenR (EndT.thenR (EndT.blkR (EndT.thenR (Post.retR rfl rfl () trivial (fun _ _ _ _ => trivial) rfl (.cons (.ra (i := 0) Tryd.ag115 Tryd.cz115 rfl rfl rfl rfl) ?_ (.cons (.rt rfl) ?_ .nil))))))))
            · rw [hro]; exact VLe.refl _
            · exact VLe.prop (by rw [hro]; simp)
          ·
            refine CodeT.skip (EndT.blkN (EndT.thenN ?_))
            refine CodeT.region (.p (opAddF (.t rfl) (.c _) (fits_i64 (by omega) (by omega))) rfl <| .p (opMove (.t rfl)) rfl <| .nil ?_)
            refine EndT.round (j + 1) ⟨by omega, hm.succ hxj c3⟩ (by omega) rfl ?_
            exact (.get rfl (VLe.int (by omega)) (.keep 11 rfl rfl))
        ·
          have hej : j = lateT.length := by have : lateT.length = 6 := rfl; omega
          subst hej
          refine CodeT.exit (EndT.thenX (EndT.thenX (EndT.blkX (EndT.thenN ?_))))
          refine CodeT.seq ?_
          refine CodeT.region (.p (opMove (.t rfl)) rfl <| .p (opCall (numbered_spec) Tryd.cb81 (.cons (.t rfl) .nil)) rfl <| .p (opExtract (.t rfl) rfl) rfl <| .p (opExtract (.t rfl) rfl) rfl <| .s (opStoreOA (i := 0) Tryd.cz115 rfl (.t rfl) (.t rfl) rfl rfl rfl) <| .p (opAssign (.t rfl)) rfl <| .nil ?_)
          refine EndT.thenN ?_
          refine CodeT.ret (Post.retR rfl rfl () trivial (fun _ _ _ _ => trivial) rfl (.cons (.ra (i := 0) Tryd.ag115 Tryd.cz115 rfl rfl rfl rfl) ?_ (.cons (.rt rfl) ?_ .nil)))
          · rw [rowO_3 hn hm]; exact VLe.refl _
          · exact VLe.prop (by rw [rowO_3 hn hm])

theorem types_spec {l : List UInt8} (hp0 : Ascii l) (hp1 : l.length ≤ 65536) : FnP Tryd.prog 82 [strV l] (sliceV 1 encU8 (typesF l)) := by
  refine FnE.intro 20 Tryd.func82 rfl rfl rfl fun w0 S0 M => ?_
  refine CodeT.seq ?_
  refine CodeT.region (.p (opAssign (.c _)) rfl <| .nil ?_)
  refine EndT.thenN ?_
  refine CodeT.seq ?_
  refine CodeT.region (.p (opAssign (.c _)) rfl <| .nil ?_)
  refine EndT.thenN ?_
  refine CodeT.seq ?_
  refine CodeT.seq ?_
  refine CodeT.region (.p (opMove (.t rfl)) rfl <| .n (opRangeS Tryd.underlying9 (.t rfl)) rfl <| fun b7 _ => .nil ?_)
  refine EndT.thenN ?_
  refine CodeT.block ?_
  refine CodeT.ownNil 1 encU8 ?_
  refine CodeT.loopO (σ := Nat × SB) (fun s => [sliceH s.2 1 encU8 (typesF (l.take s.1)), iterH b7 l s.1]) (fun s => [(3, exactV (sval s.2 (typesF (l.take s.1)).length))]) (fun s => s.1 ≤ l.length) (fun s => l.length - s.1) (0, none) (by simp) (by simp [typesF]) ?_ ?_
  · exact (.get rfl (VLe.of_eq (by simp [sval])) (.refl _ _))
  · rintro s hk
    have htl := typesF_len (l.take s.1)
    have htk : (l.take s.1).length ≤ l.length := by simp; omega
    refine CodeT.seq ?_
    refine CodeT.region (.n (opNextS (i := 1) hp0 (by omega) (.t rfl) rfl) rfl <| fun _ _ => .p (opNext0 (.t rfl)) rfl <| .nil ?_)
    refine EndT.thenN ?_
    refine CodeT.seq ?_
    refine CodeT.cond (.t rfl) (fun c0 => ?_) (fun c0 => ?_)
    ·
      obtain ⟨x, hx⟩ := getElem?_lt (xs := l) (k := s.1) c0
      rw [show min (s.1 + 1) l.length = s.1 + 1 by omega]
      refine CodeT.skip (EndT.thenN ?_)
      refine CodeT.block ?_
      refine CodeT.seq ?_
      refine CodeT.region (.p (opNext2 (by assumption) (.t rfl)) rfl <| .p (opAssign (.t rfl)) rfl <| .nil ?_)
      refine EndT.thenN ?_
      refine CodeT.seq ?_
      refine CodeT.region (.p (opMove (.t rfl)) rfl <| .p (opEql (.t rfl) (.c _)) rfl <| .nil ?_)
      refine EndT.thenN ?_
      refine CodeT.cond (.t rfl) (fun c1 => ?_) (fun c1 => ?_)
      ·
        refine CodeT.region (.p (opMove (.t rfl)) rfl <| .p (opBuildSlice (enc := encU8) [126] Tryd.underlying96 Tryd.cz101 rfl Tryd.zb101 rfl (.cons (.c _) .nil) rfl rfl rfl rfl rfl) rfl <| .n (opAppend (i := 0) Tryd.underlying96 Tryd.underlying96 Tryd.cz101 rfl Tryd.zb101 rfl Tryd.by101 (.t rfl) (.t rfl) rfl (by first | omega | (simp <;> omega)) (by first | omega | (simp <;> omega))) rfl <| fun g15 _ => .p (opAssign (.t rfl)) rfl <| .nil ?_)
        refine EndT.blkN (EndT.round (s.1 + 1, (by first | exact g15 | exact g18)) (by omega) (by omega) (by first | (rw [typesF_l hx c1]; rfl) | (rw [typesF_i hx c1]; rfl)) ?_)
        first | exact (.get rfl (VLe.of_eq (by rw [typesF_l hx c1])) (.keep 11 rfl rfl)) | exact (.get rfl (VLe.of_eq (by rw [typesF_i hx c1])) (.keep 11 rfl rfl))
      ·
        refine CodeT.region (.p (opMove (.t rfl)) rfl <| .p (opBuildSlice (enc := encU8) [127] Tryd.underlying96 Tryd.cz101 rfl Tryd.zb101 rfl (.cons (.c _) .nil) rfl rfl rfl rfl rfl) rfl <| .n (opAppend (i := 0) Tryd.underlying96 Tryd.underlying96 Tryd.cz101 rfl Tryd.zb101 rfl Tryd.by101 (.t rfl) (.t rfl) rfl (by first | omega | (simp <;> omega)) (by first | omega | (simp <;> omega))) rfl <| fun g18 _ => .p (opAssign (.t rfl)) rfl <| .nil ?_)
        refine EndT.blkN (EndT.round (s.1 + 1, (by first | exact g15 | exact g18)) (by omega) (by omega) (by first | (rw [typesF_l hx c1]; rfl) | (rw [typesF_i hx c1]; rfl)) ?_)
        first | exact (.get rfl (VLe.of_eq (by rw [typesF_l hx c1])) (.keep 11 rfl rfl)) | exact (.get rfl (VLe.of_eq (by rw [typesF_i hx c1])) (.keep 11 rfl rfl))
    ·
      have hall : l.take s.1 = l := List.take_of_length_le (by omega)
      rw [hall]
      refine CodeT.shareS (n := 1) (enc := encU8) (i := 0) (t := 3) rfl rfl ?_
      refine CodeT.exit (EndT.thenX (EndT.thenX (EndT.blkX (EndT.thenN ?_))))
      refine CodeT.seq ?_
      refine CodeT.region (.p (opMove (.t rfl)) rfl <| .p (opAssign (.t rfl)) rfl <| .nil ?_)
      refine EndT.thenN ?_
      refine CodeT.ret (Post.retP rfl rfl ?_)
      exact VLe.refl _

theorem info_spec {r : RowD} (hp0 : RowOk r) : FnP Tryd.prog 74 [aggV (encRow r)] (aggV (encInfo (infoOf r))) := by
  refine FnE.intro 16 Tryd.func74 rfl rfl rfl fun w0 S0 M => ?_
  refine CodeT.seq ?_
  refine CodeT.region (.p (opBoxA (.t rfl)) rfl <| .n (opAlloc Tryd.zb98) rfl <| fun b2 _ => .nil ?_)
  refine EndT.thenN ?_
  refine CodeT.seq ?_
  refine CodeT.draw 12 2 Tryd.mixed (by kernel_rfl) (.p (opField Tryd.fd115_0 (.t rfl)) <| .p (opLoad Tryd.ag3 (.t rfl)) <| .p (opField Tryd.fd115_1 (.t rfl)) <| .p (opLoad Tryd.ag9 (.t rfl)) <| .p (opField Tryd.fd115_2 (.t rfl)) <| .p (opLoad Tryd.ag3 (.t rfl)) <| .p (opField Tryd.fd115_3 (.t rfl)) <| .p (opLoad Tryd.ag9 (.t rfl)) <| .p (opCall (types_spec hp0.1 (by have := hp0.2.2.1; omega)) Tryd.cb82 (.cons (.t rfl) .nil)) <| .p (opField Tryd.fd115_4 (.t rfl)) <| .p (opLoad Tryd.ag9 (.t rfl)) <| .p (opCall (types_spec hp0.2.1 (by have := hp0.2.2.2; omega)) Tryd.cb82 (.cons (.t rfl) .nil)) <| .nil) (.p (opBuild Tryd.pl98 Tryd.zb98 (.cons (.t rfl) (.cons (.t rfl) (.cons (.t rfl) (.cons (.t rfl) (.cons (.t rfl) .nil))))) rfl) rfl <| .s (opStoreOA (i := 0) Tryd.cz98 rfl (.t rfl) (.t rfl) rfl rfl rfl) <| .nil ?_)
  refine EndT.thenN ?_
  refine CodeT.ret (Post.retR1 rfl () trivial (fun _ _ _ _ => trivial) (.ra (i := 0) Tryd.ag98 Tryd.cz98 rfl rfl rfl rfl) ?_)
  exact VLe.refl _

theorem find_spec {code : Int} : FnP Tryd.prog 58 [intV .i64 code] (tupV [aggV (encInfo ((findI code).getD zeroI)), propV (findI code).isSome]) := by
  refine FnE.intro 16 Tryd.func58 rfl rfl rfl fun w0 S0 M => ?_
  refine CodeT.seq ?_
  refine CodeT.region (.n (opAlloc Tryd.zb98) rfl <| fun b2 _ => .p (opAssign .cf) rfl <| .nil ?_)
  refine EndT.thenN ?_
  refine CodeT.seq ?_
  refine CodeT.region (.p (opMove (.t rfl)) rfl <| .p (opCall (at_spec) Tryd.cb73 (.cons (.t rfl) .nil)) rfl <| .p (opMove (.t rfl)) rfl <| .p (opExtract (.t rfl) rfl) rfl <| .p (opExtract (.t rfl) rfl) rfl <| .n (opAlloc Tryd.zb115) rfl <| fun b4 _ => .s (opStoreOA (i := 0) Tryd.cz115 rfl (.t rfl) (.t rfl) rfl rfl rfl) <| .p (opAssign (.t rfl)) rfl <| .nil ?_)
  refine EndT.thenN ?_
  refine CodeT.share (t := 4) (i := 0) rfl rfl ?_
  refine CodeT.seq ?_
  refine CodeT.seq ?_
  refine CodeT.region (.p (opMove (.t rfl)) rfl <| .p (opNot (.t rfl)) rfl <| .nil ?_)
  refine EndT.thenN ?_
  refine CodeT.cond (.t rfl) (fun c0 => ?_) (fun c0 => ?_)
  ·
    have hro : rowO code = none := by simpa using c0
    have hfi : findI code = none := by unfold findI; rw [hro]; rfl
    refine CodeT.seq ?_
    refine CodeT.region (.p (opBuild Tryd.pl98 Tryd.zb98 .nil rfl) rfl <| .s (opStoreOA (i := 0) Tryd.cz98 rfl (.t rfl) (.t rfl) rfl rfl rfl) <| .p (opAssign .cf) rfl <| .nil ?_)
    refine EndT.thenN ?_
    refine CodeT.ret (EndT.thenR (Post.retR rfl rfl () trivial (fun _ _ _ _ => trivial) rfl (.cons (.ra (i := 0) Tryd.ag98 Tryd.cz98 rfl rfl rfl rfl) ?_ (.cons (.rt rfl) ?_ .nil))))
    · rw [hfi]; exact VLe.agg (.cons (VLe.refl _) (.cons strV_nil (.cons (VLe.refl _) (.cons (sliceV_nil _ _) (.cons (sliceV_nil _ _) .nil)))))
    · exact VLe.prop (by rw [hfi]; simp)
  ·
    obtain ⟨r, hro⟩ := Option.isSome_iff_exists.1 (Classical.not_not.1 c0)
    have hfi : findI code = some (infoOf r) := by unfold findI; rw [hro]; rfl
    have hok := rowO_ok hro
    simp only [hro, Option.getD_some]
    refine CodeT.skip (EndT.thenN ?_)
    refine CodeT.seq ?_
    refine CodeT.region (.p (opLoadA Tryd.ag115 Tryd.cz115 rfl (.t rfl) rfl) rfl <| .p (opCall (info_spec hok) Tryd.cb74 (.cons (.t rfl) .nil)) rfl <| .s (opStoreOA (i := 0) Tryd.cz98 rfl (.t rfl) (.t rfl) rfl rfl rfl) <| .p (opAssign .ct) rfl <| .nil ?_)
    refine EndT.thenN ?_
    refine CodeT.ret (Post.retR rfl rfl () trivial (fun _ _ _ _ => trivial) rfl (.cons (.ra (i := 0) Tryd.ag98 Tryd.cz98 rfl rfl rfl rfl) ?_ (.cons (.rt rfl) ?_ .nil)))
    · rw [hfi]; exact VLe.refl _
    · exact VLe.prop (by rw [hfi]; simp)

end Go.Proofs.YtgmpadhfgohodaaDoor
