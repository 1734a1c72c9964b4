/-
  Walks, printed by a program (gen.py) out of what its author says of each function.
-/
import Derived.Test.YtbiahdejccipaaaM13W
import Derived.Test.YtbiahdejccipaaaM13C
import Derived.Test.YtbiahdejccipaaaHlH
namespace Go.Proofs.Ytbiahdejccipaaa
open Go.Hl Go.RowKit
set_option linter.unusedVariables false
set_option maxRecDepth 100000

theorem l13sig_spec {x : ModD} {n : Int} {s : SigD} (hp0 : sigO x n = some s) : FnP Try.prog 17 [aggV (encMod x), intV .i64 n] (aggV (encSig s)) := by
  refine FnE.intro 34 Try.func17 rfl rfl rfl fun w0 S0 M => ?_
  refine CodeT.fact (t := 0) rfl (fun S w v h => modLens3 h) fun hlen => ?_
  have hall := hlen
  obtain ⟨⟨hl0, hl1, hl2, hl3, hl4, hl5, hl6, hl7⟩, ⟨hi0, hi1, hi2, hi3, hi4⟩, hi5⟩ := hlen
  refine CodeT.seq ?_
  refine CodeT.region (.p (opBoxA (.t rfl)) rfl <| .n (opAlloc Try.zb52) rfl <| fun b4 _ => .nil ?_)
  refine EndT.thenN ?_
  refine CodeT.seq ?_
  refine CodeT.seq ?_
  refine CodeT.region (.p (opMove (.t rfl)) rfl <| .p (opField Try.fd31_1 (.t rfl)) rfl <| .p (opLoad Try.ag23 (.t rfl)) rfl <| .p (opLen rfl Try.underlying23 (.t rfl)) rfl <| .p (opLss (.t rfl) (.t rfl)) rfl <| .nil ?_)
  refine EndT.thenN ?_
  refine CodeT.cond (.t rfl) (fun c0 => ?_) (fun c0 => ?_)
  ·
    obtain ⟨y, hy1, hy2, hy3, hy4⟩ := sig_import hp0 c0
    refine CodeT.seq ?_
    refine CodeT.draw 8 3 Try.mixed (by kernel_rfl) (.p (opField Try.fd31_0 (.t rfl)) <| .p (opLoad Try.ag22 (.t rfl)) <| .p (opField Try.fd31_1 (.t rfl)) <| .p (opLoad Try.ag23 (.t rfl)) <| .p (opMove (.t rfl)) <| .p (opIndexAddr (j := n.toNat) Try.underlying23 Try.cz62 rfl (.t rfl) (.t rfl) hy3 hy1) <| .p (opField Try.fd62_2 (.t rfl)) <| .p (opLoad Try.ag3 (.t rfl)) <| .nil) (.p (opIndexAddr (j := y.Sig.toNat) Try.underlying22 Try.cz52 rfl (.t rfl) (.t rfl) hy4 hy2) rfl <| .p (opLoadA Try.ag52 Try.cz52 rfl (.t rfl) rfl) rfl <| .s (opStoreOA (i := 0) Try.cz52 rfl (.t rfl) (.t rfl) rfl rfl rfl) <| .nil ?_)
    refine EndT.thenN ?_
    refine CodeT.ret (EndT.thenR (Post.retR1 rfl () trivial (fun _ _ _ _ => trivial) (.ra (i := 0) Try.ag52 Try.cz52 rfl rfl rfl rfl) ?_))
    first | exact VLe.refl _ | exact VLe.int (by omega) | exact VLe.prop (by omega) | exact VLe.prop (by simp_all) | exact VLe.prop (by simp; omega)
  ·
    obtain ⟨y, hy1, hy2, hy3, hy4, hy5⟩ := sig_func hp0 c0
    unfold countM at hy5
    refine CodeT.skip (EndT.thenN ?_)
    refine CodeT.seq ?_
    refine CodeT.draw 12 3 Try.mixed (by kernel_rfl) (.p (opField Try.fd31_0 (.t rfl)) <| .p (opLoad Try.ag22 (.t rfl)) <| .p (opField Try.fd31_2 (.t rfl)) <| .p (opLoad Try.ag24 (.t rfl)) <| .p (opMove (.t rfl)) <| .p (opField Try.fd31_1 (.t rfl)) <| .p (opLoad Try.ag23 (.t rfl)) <| .p (opLen rfl Try.underlying23 (.t rfl)) <| .p (opSubF (.t rfl) (.t rfl) (fits_i64 (by omega) (by omega))) <| .p (opIndexAddr (j := (n - (x.Imports.length : Int)).toNat) Try.underlying24 Try.cz67 rfl (.t rfl) (.t rfl) hy3 hy1) <| .p (opField Try.fd67_0 (.t rfl)) <| .p (opLoad Try.ag3 (.t rfl)) <| .nil) (.p (opIndexAddr (j := y.Sig.toNat) Try.underlying22 Try.cz52 rfl (.t rfl) (.t rfl) hy4 hy2) rfl <| .p (opLoadA Try.ag52 Try.cz52 rfl (.t rfl) rfl) rfl <| .s (opStoreOA (i := 0) Try.cz52 rfl (.t rfl) (.t rfl) rfl rfl rfl) <| .nil ?_)
    refine EndT.thenN ?_
    refine CodeT.ret (Post.retR1 rfl () trivial (fun _ _ _ _ => trivial) (.ra (i := 0) Try.ag52 Try.cz52 rfl rfl rfl rfl) ?_)
    first | exact VLe.refl _ | exact VLe.int (by omega) | exact VLe.prop (by omega) | exact VLe.prop (by simp_all) | exact VLe.prop (by simp; omega)

set_option maxHeartbeats 4000000 in
theorem unfit_spec {x : ModD} : FnP Try.prog 9 [aggV (encMod x)] (tupV [anyV, exV (fun n : Int => n = 0 → FitsM x) (intV .i64)]) := by
  refine FnE.intro 393 Try.func9 rfl rfl rfl fun w0 S0 M => ?_
  refine CodeT.fact (t := 0) rfl (fun S w v h => modLens3 h) fun hlen => ?_
  have hall := hlen
  obtain ⟨⟨hl0, hl1, hl2, hl3, hl4, hl5, hl6, hl7⟩, ⟨hi0, hi1, hi2, hi3, hi4⟩, hi5⟩ := hlen
  refine CodeT.seq ?_
  refine CodeT.region (.p (opBoxA (.t rfl)) rfl <| .p (opAssign (.s [] rfl rfl)) rfl <| .p (opAssign (.c _)) rfl <| .nil ?_)
  refine EndT.thenN ?_
  refine CodeT.seq ?_
  refine CodeT.region (.p (opField Try.fd31_1 (.t rfl)) rfl <| .p (opLoad Try.ag23 (.t rfl)) rfl <| .p (opLen rfl Try.underlying23 (.t rfl)) rfl <| .p (opField Try.fd31_2 (.t rfl)) rfl <| .p (opLoad Try.ag24 (.t rfl)) rfl <| .p (opLen rfl Try.underlying24 (.t rfl)) rfl <| .p (opAddF (.t rfl) (.t rfl) (fits_i64 (by omega) (by omega))) rfl <| .p (opAssign (.t rfl)) rfl <| .nil ?_)
  refine EndT.thenN ?_
  refine CodeT.seq ?_
  refine CodeT.seq ?_
  refine CodeT.region (.p (opField Try.fd31_0 (.t rfl)) rfl <| .p (opLoad Try.ag22 (.t rfl)) rfl <| .p (opLen rfl Try.underlying22 (.t rfl)) rfl <| .p (opGtr (.t rfl) (.c _)) rfl <| .nil ?_)
  refine EndT.thenN ?_
  refine CodeT.cond (.t rfl) (fun c0 => ?_) (fun c0 => ?_)
  ·
    refine CodeT.seq ?_
    refine CodeT.region (.p (opAssign (.s [115, 105, 103, 115] rfl rfl)) rfl <| .p (opAssign (.c _)) rfl <| .nil ?_)
    refine EndT.thenN ?_
    refine CodeT.ret (EndT.thenR (Post.retR rfl rfl () trivial (fun _ _ _ _ => trivial) rfl (.cons (.rt rfl) ?_ (.cons (.rt rfl) ?_ .nil))))
    · exact VLe.any
    · refine VLe.ex _ ?_ (VLe.refl _); first | exact fun h => absurd h (by decide) | exact fun _ => ⟨fa, fb, fc, fd, fe, ff, fg, fh, fi, fj⟩
  ·
    refine CodeT.skip (EndT.thenN ?_)
    refine CodeT.seq ?_
    refine CodeT.seq ?_
    refine CodeT.region (.p (opAssign (.c _)) rfl <| .nil ?_)
    refine EndT.thenN ?_
    refine CodeT.block ?_
    refine CodeT.loopO (σ := Nat) (fun _ => []) (fun ka => [(5, intV .i64 (ka : Int))]) (fun ka => ka ≤ x.Sigs.length ∧ NotB (fun z : SigD => sigE z ≠ 0) x.Sigs ka) (fun ka => x.Sigs.length - ka) 0 ⟨by omega, NotB.zero _ _⟩ rfl ?_ ?_
    · exact (.get rfl (VLe.refl _) (.refl _ _))
    · rintro ka ⟨hk1, hn1⟩
      refine CodeT.seq ?_
      refine CodeT.seq ?_
      refine CodeT.region (.p (opMove (.t rfl)) rfl <| .p (opField Try.fd31_0 (.t rfl)) rfl <| .p (opLoad Try.ag22 (.t rfl)) rfl <| .p (opLen rfl Try.underlying22 (.t rfl)) rfl <| .p (opLss (.t rfl) (.t rfl)) rfl <| .nil ?_)
      refine EndT.thenN ?_
      refine CodeT.cond (.t rfl) (fun c1 => ?_) (fun c1 => ?_)
      ·
        obtain ⟨z, hz⟩ := getElem?_lt (xs := x.Sigs) (k := ka) (by omega)
        refine CodeT.skip (EndT.thenN ?_)
        refine CodeT.seq ?_
        refine CodeT.block ?_
        refine CodeT.seq ?_
        refine CodeT.region (.p (opField Try.fd31_0 (.t rfl)) rfl <| .p (opLoad Try.ag22 (.t rfl)) rfl <| .p (opMove (.t rfl)) rfl <| .p (opIndexAddr Try.underlying22 Try.cz52 rfl (.t rfl) (.t rfl) rfl (by assumption)) rfl <| .p (opField Try.fd52_0 (.t rfl)) rfl <| .p (opLoad Try.ag50 (.t rfl)) rfl <| .p (opCall (typed_spec) Try.cb25 (.cons (.t rfl) .nil)) rfl <| .p (opNot (.t rfl)) rfl <| .p (opMove (.t rfl)) rfl <| .g (OpG.gF rfl rfl rfl rfl (fun hg => opField Try.fd31_0 (.t rfl))) rfl rfl <| .g (OpG.gF rfl rfl rfl rfl (fun hg => opLoad Try.ag22 (.when (.t rfl) hg))) rfl rfl <| .g (OpG.gF rfl rfl rfl rfl (fun hg => opMove (.t rfl))) rfl rfl <| .g (OpG.gF rfl rfl rfl rfl (fun hg => opIndexAddr Try.underlying22 Try.cz52 rfl (.when (.t rfl) hg) (.when (.t rfl) hg) rfl (by assumption))) rfl rfl <| .g (OpG.gF rfl rfl rfl rfl (fun hg => opField Try.fd52_1 (.when (.t rfl) hg))) rfl rfl <| .g (OpG.gF rfl rfl rfl rfl (fun hg => opLoad Try.ag50 (.when (.t rfl) hg))) rfl rfl <| .g (OpG.gF rfl rfl rfl rfl (fun hg => opCall (typed_spec) Try.cb25 (.cons (.when (.t rfl) hg) .nil))) rfl rfl <| .g (OpG.gF rfl rfl rfl rfl (fun hg => opNot (.when (.t rfl) hg))) rfl rfl <| .p (opOr (.t rfl) (.t rfl)) rfl <| .nil ?_)
        refine EndT.thenN ?_
        refine CodeT.cond (.t rfl) (fun c2 => ?_) (fun c2 => ?_)
        ·
          refine CodeT.seq ?_
          refine CodeT.region (.p (opAssign (.s [115, 105, 103, 115] rfl rfl)) rfl <| .p (opAssign (.c _)) rfl <| .nil ?_)
          refine EndT.thenN ?_
          refine CodeT.ret (EndT.blkR (EndT.thenR (EndT.thenR (EndT.blkR (EndT.thenR (Post.retR rfl rfl () trivial (fun _ _ _ _ => trivial) rfl (.cons (.rt rfl) ?_ (.cons (.rt rfl) ?_ .nil))))))))
          · exact VLe.any
          · refine VLe.ex _ ?_ (VLe.refl _); first | exact fun h => absurd h (by decide) | exact fun _ => ⟨fa, fb, fc, fd, fe, ff, fg, fh, fi, fj⟩
        ·
          refine CodeT.skip (EndT.blkN (EndT.thenN ?_))
          refine CodeT.region (.p (opMove (.t rfl)) rfl <| .p (opAddF (.t rfl) (.c _) (fits_i64 (by omega) (by omega))) rfl <| .p (opAssign (.t rfl)) rfl <| .nil ?_)
          refine EndT.round (ka + 1) ⟨by omega, hn1.succ hz (not_not_intro (sigE_ok (by simpa using c2)))⟩ (by omega) rfl ?_
          exact (.get rfl (VLe.int (by omega)) (.keep 27 rfl rfl))
      ·
        have fa : sigsE x = 0 := many_ok (by omega) hn1 (by omega)
        refine CodeT.exit (EndT.thenX (EndT.thenX (EndT.blkX (EndT.thenN ?_))))
        refine CodeT.seq ?_
        refine CodeT.seq ?_
        refine CodeT.region (.p (opField Try.fd31_1 (.t rfl)) rfl <| .p (opLoad Try.ag23 (.t rfl)) rfl <| .p (opLen rfl Try.underlying23 (.t rfl)) rfl <| .p (opGtr (.t rfl) (.c _)) rfl <| .nil ?_)
        refine EndT.thenN ?_
        refine CodeT.cond (.t rfl) (fun c3 => ?_) (fun c3 => ?_)
        ·
          refine CodeT.seq ?_
          refine CodeT.region (.p (opAssign (.s [105, 109, 112, 111, 114, 116, 115] rfl rfl)) rfl <| .p (opAssign (.c _)) rfl <| .nil ?_)
          refine EndT.thenN ?_
          refine CodeT.ret (EndT.thenR (Post.retR rfl rfl () trivial (fun _ _ _ _ => trivial) rfl (.cons (.rt rfl) ?_ (.cons (.rt rfl) ?_ .nil))))
          · exact VLe.any
          · refine VLe.ex _ ?_ (VLe.refl _); first | exact fun h => absurd h (by decide) | exact fun _ => ⟨fa, fb, fc, fd, fe, ff, fg, fh, fi, fj⟩
        ·
          refine CodeT.skip (EndT.thenN ?_)
          refine CodeT.seq ?_
          refine CodeT.seq ?_
          refine CodeT.region (.p (opAssign (.c _)) rfl <| .nil ?_)
          refine EndT.thenN ?_
          refine CodeT.block ?_
          refine CodeT.loopO (σ := Nat) (fun _ => []) (fun kb => [(6, intV .i64 (kb : Int))]) (fun kb => kb ≤ x.Imports.length ∧ NotB (fun z : ImportD => importE x z ≠ 0) x.Imports kb) (fun kb => x.Imports.length - kb) 0 ⟨by omega, NotB.zero _ _⟩ rfl ?_ ?_
          · exact (.get rfl (VLe.refl _) (.refl _ _))
          · rintro kb ⟨hk4, hn4⟩
            refine CodeT.seq ?_
            refine CodeT.seq ?_
            refine CodeT.region (.p (opMove (.t rfl)) rfl <| .p (opField Try.fd31_1 (.t rfl)) rfl <| .p (opLoad Try.ag23 (.t rfl)) rfl <| .p (opLen rfl Try.underlying23 (.t rfl)) rfl <| .p (opLss (.t rfl) (.t rfl)) rfl <| .nil ?_)
            refine EndT.thenN ?_
            refine CodeT.cond (.t rfl) (fun c4 => ?_) (fun c4 => ?_)
            ·
              obtain ⟨z, hz⟩ := getElem?_lt (xs := x.Imports) (k := kb) (by omega)
              refine CodeT.skip (EndT.thenN ?_)
              refine CodeT.seq ?_
              refine CodeT.block ?_
              refine CodeT.seq ?_
              refine CodeT.seq ?_
              refine CodeT.region (.p (opField Try.fd31_1 (.t rfl)) rfl <| .p (opLoad Try.ag23 (.t rfl)) rfl <| .p (opMove (.t rfl)) rfl <| .p (opIndexAddr Try.underlying23 Try.cz62 rfl (.t rfl) (.t rfl) rfl (by assumption)) rfl <| .p (opField Try.fd62_0 (.t rfl)) rfl <| .p (opLoad Try.ag9 (.t rfl)) rfl <| .p (opCall (lnamed_spec) Try.cb14 (.cons (.t rfl) .nil)) rfl <| .p (opNot (.t rfl)) rfl <| .p (opMove (.t rfl)) rfl <| .g (OpG.gF rfl rfl rfl rfl (fun hg => opField Try.fd31_1 (.t rfl))) rfl rfl <| .g (OpG.gF rfl rfl rfl rfl (fun hg => opLoad Try.ag23 (.when (.t rfl) hg))) rfl rfl <| .g (OpG.gF rfl rfl rfl rfl (fun hg => opMove (.t rfl))) rfl rfl <| .g (OpG.gF rfl rfl rfl rfl (fun hg => opIndexAddr Try.underlying23 Try.cz62 rfl (.when (.t rfl) hg) (.when (.t rfl) hg) rfl (by assumption))) rfl rfl <| .g (OpG.gF rfl rfl rfl rfl (fun hg => opField Try.fd62_1 (.when (.t rfl) hg))) rfl rfl <| .g (OpG.gF rfl rfl rfl rfl (fun hg => opLoad Try.ag9 (.when (.t rfl) hg))) rfl rfl <| .g (OpG.gF rfl rfl rfl rfl (fun hg => opCall (lnamed_spec) Try.cb14 (.cons (.when (.t rfl) hg) .nil))) rfl rfl <| .g (OpG.gF rfl rfl rfl rfl (fun hg => opNot (.when (.t rfl) hg))) rfl rfl <| .p (opOr (.t rfl) (.t rfl)) rfl <| .nil ?_)
              refine EndT.thenN ?_
              refine CodeT.cond (.t rfl) (fun c5 => ?_) (fun c5 => ?_)
              ·
                refine CodeT.seq ?_
                refine CodeT.region (.p (opAssign (.s [105, 109, 112, 111, 114, 116, 115] rfl rfl)) rfl <| .p (opAssign (.c _)) rfl <| .nil ?_)
                refine EndT.thenN ?_
                refine CodeT.ret (EndT.thenR (EndT.blkR (EndT.thenR (EndT.thenR (EndT.blkR (EndT.thenR (Post.retR rfl rfl () trivial (fun _ _ _ _ => trivial) rfl (.cons (.rt rfl) ?_ (.cons (.rt rfl) ?_ .nil)))))))))
                · exact VLe.any
                · refine VLe.ex _ ?_ (VLe.refl _); first | exact fun h => absurd h (by decide) | exact fun _ => ⟨fa, fb, fc, fd, fe, ff, fg, fh, fi, fj⟩
              ·
                refine CodeT.skip (EndT.thenN ?_)
                refine CodeT.seq ?_
                refine CodeT.draw 9 2 Try.mixed (by kernel_rfl) (.p (opField Try.fd31_1 (.t rfl)) <| .p (opLoad Try.ag23 (.t rfl)) <| .p (opMove (.t rfl)) <| .p (opIndexAddr Try.underlying23 Try.cz62 rfl (.t rfl) (.t rfl) rfl (by assumption)) <| .p (opField Try.fd62_2 (.t rfl)) <| .p (opLoad Try.ag3 (.t rfl)) <| .p (opField Try.fd31_0 (.t rfl)) <| .p (opLoad Try.ag22 (.t rfl)) <| .p (opLen rfl Try.underlying22 (.t rfl)) <| .nil) (.p (opCall (lin_spec) Try.cb16 (.cons (.t rfl) (.cons (.t rfl) .nil))) rfl <| .p (opNot (.t rfl)) rfl <| .nil ?_)
                refine EndT.thenN ?_
                refine CodeT.cond (.t rfl) (fun c6 => ?_) (fun c6 => ?_)
                ·
                  refine CodeT.seq ?_
                  refine CodeT.region (.p (opAssign (.s [105, 109, 112, 111, 114, 116, 115] rfl rfl)) rfl <| .p (opAssign (.c _)) rfl <| .nil ?_)
                  refine EndT.thenN ?_
                  refine CodeT.ret (EndT.blkR (EndT.thenR (EndT.thenR (EndT.blkR (EndT.thenR (Post.retR rfl rfl () trivial (fun _ _ _ _ => trivial) rfl (.cons (.rt rfl) ?_ (.cons (.rt rfl) ?_ .nil))))))))
                  · exact VLe.any
                  · refine VLe.ex _ ?_ (VLe.refl _); first | exact fun h => absurd h (by decide) | exact fun _ => ⟨fa, fb, fc, fd, fe, ff, fg, fh, fi, fj⟩
                ·
                  refine CodeT.skip (EndT.blkN (EndT.thenN ?_))
                  refine CodeT.region (.p (opMove (.t rfl)) rfl <| .p (opAddF (.t rfl) (.c _) (fits_i64 (by omega) (by omega))) rfl <| .p (opAssign (.t rfl)) rfl <| .nil ?_)
                  refine EndT.round (kb + 1) ⟨by omega, hn4.succ hz (not_not_intro (importE_ok (by simpa using c5) (by simpa using c6)))⟩ (by omega) rfl ?_
                  exact (.get rfl (VLe.int (by omega)) (.keep 38 rfl rfl))
            ·
              have fb0 := hn4.zero_at (by omega)
              have fb : importsE x = 0 := many_ok (by omega) hn4 (by omega)
              refine CodeT.exit (EndT.thenX (EndT.thenX (EndT.blkX (EndT.thenN ?_))))
              refine CodeT.seq ?_
              refine CodeT.seq ?_
              refine CodeT.region (.p (opMove (.t rfl)) rfl <| .p (opGtr (.t rfl) (.c _)) rfl <| .nil ?_)
              refine EndT.thenN ?_
              refine CodeT.cond (.t rfl) (fun c7 => ?_) (fun c7 => ?_)
              ·
                refine CodeT.seq ?_
                refine CodeT.region (.p (opAssign (.s [102, 117, 110, 99, 115] rfl rfl)) rfl <| .p (opAssign (.c _)) rfl <| .nil ?_)
                refine EndT.thenN ?_
                refine CodeT.ret (EndT.thenR (Post.retR rfl rfl () trivial (fun _ _ _ _ => trivial) rfl (.cons (.rt rfl) ?_ (.cons (.rt rfl) ?_ .nil))))
                · exact VLe.any
                · refine VLe.ex _ ?_ (VLe.refl _); first | exact fun h => absurd h (by decide) | exact fun _ => ⟨fa, fb, fc, fd, fe, ff, fg, fh, fi, fj⟩
              ·
                refine CodeT.skip (EndT.thenN ?_)
                refine CodeT.seq ?_
                refine CodeT.seq ?_
                refine CodeT.region (.p (opAssign (.c _)) rfl <| .nil ?_)
                refine EndT.thenN ?_
                refine CodeT.block ?_
                refine CodeT.loopO (σ := Nat) (fun _ => []) (fun kc => [(7, intV .i64 (kc : Int))]) (fun kc => kc ≤ x.Funcs.length ∧ NotB (fun z : FuncD => funcE x z ≠ 0) x.Funcs kc) (fun kc => x.Funcs.length - kc) 0 ⟨by omega, NotB.zero _ _⟩ rfl ?_ ?_
                · exact (.get rfl (VLe.refl _) (.refl _ _))
                · rintro kc ⟨hk8, hn8⟩
                  refine CodeT.seq ?_
                  refine CodeT.seq ?_
                  refine CodeT.region (.p (opMove (.t rfl)) rfl <| .p (opField Try.fd31_2 (.t rfl)) rfl <| .p (opLoad Try.ag24 (.t rfl)) rfl <| .p (opLen rfl Try.underlying24 (.t rfl)) rfl <| .p (opLss (.t rfl) (.t rfl)) rfl <| .nil ?_)
                  refine EndT.thenN ?_
                  refine CodeT.cond (.t rfl) (fun c8 => ?_) (fun c8 => ?_)
                  ·
                    obtain ⟨z, hz⟩ := getElem?_lt (xs := x.Funcs) (k := kc) (by omega)
                    refine CodeT.skip (EndT.thenN ?_)
                    refine CodeT.seq ?_
                    refine CodeT.block ?_
                    refine CodeT.seq ?_
                    refine CodeT.draw 9 2 Try.mixed (by kernel_rfl) (.p (opField Try.fd31_2 (.t rfl)) <| .p (opLoad Try.ag24 (.t rfl)) <| .p (opMove (.t rfl)) <| .p (opIndexAddr Try.underlying24 Try.cz67 rfl (.t rfl) (.t rfl) rfl (by assumption)) <| .p (opField Try.fd67_0 (.t rfl)) <| .p (opLoad Try.ag3 (.t rfl)) <| .p (opField Try.fd31_0 (.t rfl)) <| .p (opLoad Try.ag22 (.t rfl)) <| .p (opLen rfl Try.underlying22 (.t rfl)) <| .nil) (.p (opCall (lin_spec) Try.cb16 (.cons (.t rfl) (.cons (.t rfl) .nil))) rfl <| .p (opNot (.t rfl)) rfl <| .nil ?_)
                    refine EndT.thenN ?_
                    refine CodeT.cond (.t rfl) (fun c9 => ?_) (fun c9 => ?_)
                    ·
                      refine CodeT.seq ?_
                      refine CodeT.region (.p (opAssign (.s [102, 117, 110, 99, 115] rfl rfl)) rfl <| .p (opAssign (.c _)) rfl <| .nil ?_)
                      refine EndT.thenN ?_
                      refine CodeT.ret (EndT.blkR (EndT.thenR (EndT.thenR (EndT.blkR (EndT.thenR (Post.retR rfl rfl () trivial (fun _ _ _ _ => trivial) rfl (.cons (.rt rfl) ?_ (.cons (.rt rfl) ?_ .nil))))))))
                      · exact VLe.any
                      · refine VLe.ex _ ?_ (VLe.refl _); first | exact fun h => absurd h (by decide) | exact fun _ => ⟨fa, fb, fc, fd, fe, ff, fg, fh, fi, fj⟩
                    ·
                      refine CodeT.skip (EndT.blkN (EndT.thenN ?_))
                      refine CodeT.region (.p (opMove (.t rfl)) rfl <| .p (opAddF (.t rfl) (.c _) (fits_i64 (by omega) (by omega))) rfl <| .p (opAssign (.t rfl)) rfl <| .nil ?_)
                      refine EndT.round (kc + 1) ⟨by omega, hn8.succ hz (not_not_intro (funcE_ok (by simpa using c9)))⟩ (by omega) rfl ?_
                      exact (.get rfl (VLe.int (by omega)) (.keep 20 rfl rfl))
                  ·
                    have fc0 := hn8.zero_at (by omega)
                    have fc : funcsE x = 0 := funcs_ok (by omega) hn8 (by omega)
                    refine CodeT.exit (EndT.thenX (EndT.thenX (EndT.blkX (EndT.thenN ?_))))
                    refine CodeT.seq ?_
                    refine CodeT.seq ?_
                    refine CodeT.region (.p (opField Try.fd31_3 (.t rfl)) rfl <| .p (opLoad Try.ag3 (.t rfl)) rfl <| .p (opLss (.t rfl) (.c _)) rfl <| .nil ?_)
                    refine EndT.thenN ?_
                    refine CodeT.cond (.t rfl) (fun c10 => ?_) (fun c10 => ?_)
                    ·
                      refine CodeT.seq ?_
                      refine CodeT.region (.p (opAssign (.s [116, 97, 98, 108, 101] rfl rfl)) rfl <| .p (opAssign (.c _)) rfl <| .nil ?_)
                      refine EndT.thenN ?_
                      refine CodeT.ret (EndT.thenR (Post.retR rfl rfl () trivial (fun _ _ _ _ => trivial) rfl (.cons (.rt rfl) ?_ (.cons (.rt rfl) ?_ .nil))))
                      · exact VLe.any
                      · refine VLe.ex _ ?_ (VLe.refl _); first | exact fun h => absurd h (by decide) | exact fun _ => ⟨fa, fb, fc, fd, fe, ff, fg, fh, fi, fj⟩
                    ·
                      refine CodeT.skip (EndT.thenN ?_)
                      refine CodeT.seq ?_
                      refine CodeT.seq ?_
                      refine CodeT.region (.p (opField Try.fd31_3 (.t rfl)) rfl <| .p (opLoad Try.ag3 (.t rfl)) rfl <| .p (opGtr (.t rfl) (.c _)) rfl <| .nil ?_)
                      refine EndT.thenN ?_
                      refine CodeT.cond (.t rfl) (fun c11 => ?_) (fun c11 => ?_)
                      ·
                        refine CodeT.seq ?_
                        refine CodeT.region (.p (opAssign (.s [116, 97, 98, 108, 101] rfl rfl)) rfl <| .p (opAssign (.c _)) rfl <| .nil ?_)
                        refine EndT.thenN ?_
                        refine CodeT.ret (EndT.thenR (Post.retR rfl rfl () trivial (fun _ _ _ _ => trivial) rfl (.cons (.rt rfl) ?_ (.cons (.rt rfl) ?_ .nil))))
                        · exact VLe.any
                        · refine VLe.ex _ ?_ (VLe.refl _); first | exact fun h => absurd h (by decide) | exact fun _ => ⟨fa, fb, fc, fd, fe, ff, fg, fh, fi, fj⟩
                      ·
                        have fd : tableE x = 0 := tableE_ok (by omega) (by omega)
                        refine CodeT.skip (EndT.thenN ?_)
                        refine CodeT.seq ?_
                        refine CodeT.seq ?_
                        refine CodeT.region (.p (opField Try.fd31_4 (.t rfl)) rfl <| .p (opLoad Try.ag25 (.t rfl)) rfl <| .p (opLen rfl Try.underlying25 (.t rfl)) rfl <| .p (opGtr (.t rfl) (.c _)) rfl <| .nil ?_)
                        refine EndT.thenN ?_
                        refine CodeT.cond (.t rfl) (fun c12 => ?_) (fun c12 => ?_)
                        ·
                          refine CodeT.seq ?_
                          refine CodeT.region (.p (opAssign (.s [109, 101, 109, 115] rfl rfl)) rfl <| .p (opAssign (.c _)) rfl <| .nil ?_)
                          refine EndT.thenN ?_
                          refine CodeT.ret (EndT.thenR (Post.retR rfl rfl () trivial (fun _ _ _ _ => trivial) rfl (.cons (.rt rfl) ?_ (.cons (.rt rfl) ?_ .nil))))
                          · exact VLe.any
                          · refine VLe.ex _ ?_ (VLe.refl _); first | exact fun h => absurd h (by decide) | exact fun _ => ⟨fa, fb, fc, fd, fe, ff, fg, fh, fi, fj⟩
                        ·
                          refine CodeT.skip (EndT.thenN ?_)
                          refine CodeT.seq ?_
                          refine CodeT.seq ?_
                          refine CodeT.region (.p (opAssign (.c _)) rfl <| .nil ?_)
                          refine EndT.thenN ?_
                          refine CodeT.block ?_
                          refine CodeT.loopO (σ := Nat) (fun _ => []) (fun kd => [(8, intV .i64 (kd : Int))]) (fun kd => kd ≤ x.Mems.length ∧ NotB (fun z : LimitsD => memE z ≠ 0) x.Mems kd) (fun kd => x.Mems.length - kd) 0 ⟨by omega, NotB.zero _ _⟩ rfl ?_ ?_
                          · exact (.get rfl (VLe.refl _) (.refl _ _))
                          · rintro kd ⟨hk13, hn13⟩
                            refine CodeT.seq ?_
                            refine CodeT.seq ?_
                            refine CodeT.region (.p (opMove (.t rfl)) rfl <| .p (opField Try.fd31_4 (.t rfl)) rfl <| .p (opLoad Try.ag25 (.t rfl)) rfl <| .p (opLen rfl Try.underlying25 (.t rfl)) rfl <| .p (opLss (.t rfl) (.t rfl)) rfl <| .nil ?_)
                            refine EndT.thenN ?_
                            refine CodeT.cond (.t rfl) (fun c13 => ?_) (fun c13 => ?_)
                            ·
                              obtain ⟨z, hz⟩ := getElem?_lt (xs := x.Mems) (k := kd) (by omega)
                              refine CodeT.skip (EndT.thenN ?_)
                              refine CodeT.seq ?_
                              refine CodeT.block ?_
                              refine CodeT.seq ?_
                              refine CodeT.region (.p (opField Try.fd31_4 (.t rfl)) rfl <| .p (opLoad Try.ag25 (.t rfl)) rfl <| .p (opMove (.t rfl)) rfl <| .p (opIndexAddr Try.underlying25 Try.cz79 rfl (.t rfl) (.t rfl) rfl (by assumption)) rfl <| .p (opLoadA Try.ag79 Try.cz79 rfl (.t rfl) rfl) rfl <| .n (opAlloc Try.zb79) rfl <| fun b9 _ => .s (opStoreOA (i := 0) Try.cz79 rfl (.t rfl) (.t rfl) rfl rfl rfl) <| .nil ?_)
                              refine EndT.thenN ?_
                              refine CodeT.share (t := 9) (i := 0) rfl rfl ?_
                              refine CodeT.seq ?_
                              refine CodeT.region (.p (opField Try.fd79_0 (.t rfl)) rfl <| .p (opLoad Try.ag3 (.t rfl)) rfl <| .p (opLss (.t rfl) (.c _)) rfl <| .p (opMove (.t rfl)) rfl <| .g (OpG.gF rfl rfl rfl rfl (fun hg => opField Try.fd79_0 (.t rfl))) rfl rfl <| .g (OpG.gF rfl rfl rfl rfl (fun hg => opLoad Try.ag3 (.when (.t rfl) hg))) rfl rfl <| .g (OpG.gF rfl rfl rfl rfl (fun hg => opGtr (.when (.t rfl) hg) (.c _))) rfl rfl <| .p (opOr (.t rfl) (.t rfl)) rfl <| .p (opMove (.t rfl)) rfl <| .g (OpG.gF rfl rfl rfl rfl (fun hg => opField Try.fd79_1 (.t rfl))) rfl rfl <| .g (OpG.gF rfl rfl rfl rfl (fun hg => opLoad Try.ag3 (.when (.t rfl) hg))) rfl rfl <| .g (OpG.gF rfl rfl rfl rfl (fun hg => opGeq (.when (.t rfl) hg) (.c _))) rfl rfl <| .g (OpG.gF rfl rfl rfl rfl (fun hg => opMove (.when (.t rfl) hg))) rfl rfl <| .g (OpG.hT rfl rfl rfl rfl (fun hg => opField Try.fd79_1 (.t rfl))) rfl rfl <| .g (OpG.hT rfl rfl rfl rfl (fun hg => opLoad Try.ag3 (.when (.t rfl) hg))) rfl rfl <| .g (OpG.hT rfl rfl rfl rfl (fun hg => opField Try.fd79_0 (.t rfl))) rfl rfl <| .g (OpG.hT rfl rfl rfl rfl (fun hg => opLoad Try.ag3 (.when (.t rfl) hg))) rfl rfl <| .g (OpG.hT rfl rfl rfl rfl (fun hg => opLss (.when (.t rfl) hg) (.when (.t rfl) hg))) rfl rfl <| .g (OpG.hT rfl rfl rfl rfl (fun hg => opMove (.when (.t rfl) hg))) rfl rfl <| .g (OpG.hF rfl rfl rfl rfl (fun hg => opField Try.fd79_1 (.t rfl))) rfl rfl <| .g (OpG.hF rfl rfl rfl rfl (fun hg => opLoad Try.ag3 (.when (.t rfl) hg))) rfl rfl <| .g (OpG.hF rfl rfl rfl rfl (fun hg => opGtr (.when (.t rfl) hg) (.c _))) rfl rfl <| .g (OpG.hT rfl rfl rfl rfl (fun hg => opOr (.when (.t rfl) hg) (.under (.t rfl) hg))) rfl rfl <| .g (OpG.gF rfl rfl rfl rfl (fun hg => opAnd (.when (.t rfl) hg) (.under (.t rfl) hg))) rfl rfl <| .p (opOr (.t rfl) (.t rfl)) rfl <| .nil ?_)
                              refine EndT.thenN ?_
                              refine CodeT.cond (.t rfl) (fun c14 => ?_) (fun c14 => ?_)
                              ·
                                refine CodeT.seq ?_
                                refine CodeT.region (.p (opAssign (.s [109, 101, 109, 115] rfl rfl)) rfl <| .p (opAssign (.c _)) rfl <| .nil ?_)
                                refine EndT.thenN ?_
                                refine CodeT.ret (EndT.blkR (EndT.thenR (EndT.thenR (EndT.blkR (EndT.thenR (Post.retR rfl rfl () trivial (fun _ _ _ _ => trivial) rfl (.cons (.rt rfl) ?_ (.cons (.rt rfl) ?_ .nil))))))))
                                · exact VLe.any
                                · refine VLe.ex _ ?_ (VLe.refl _); first | exact fun h => absurd h (by decide) | exact fun _ => ⟨fa, fb, fc, fd, fe, ff, fg, fh, fi, fj⟩
                              ·
                                refine CodeT.skip (EndT.blkN (EndT.thenN ?_))
                                refine CodeT.region (.p (opMove (.t rfl)) rfl <| .p (opAddF (.t rfl) (.c _) (fits_i64 (by omega) (by omega))) rfl <| .p (opAssign (.t rfl)) rfl <| .nil ?_)
                                refine EndT.round (kd + 1) ⟨by omega, hn13.succ hz (not_not_intro (memE_ok (by omega)))⟩ (by omega) rfl ?_
                                exact (.get rfl (VLe.int (by omega)) (.keep 41 rfl rfl))
                            ·
                              have fe : memsE x = 0 := many_ok (by omega) hn13 (by omega)
                              refine CodeT.exit (EndT.thenX (EndT.thenX (EndT.blkX (EndT.thenN ?_))))
                              refine CodeT.seq ?_
                              refine CodeT.seq ?_
                              refine CodeT.region (.p (opField Try.fd31_5 (.t rfl)) rfl <| .p (opLoad Try.ag26 (.t rfl)) rfl <| .p (opLen rfl Try.underlying26 (.t rfl)) rfl <| .p (opGtr (.t rfl) (.c _)) rfl <| .nil ?_)
                              refine EndT.thenN ?_
                              refine CodeT.cond (.t rfl) (fun c15 => ?_) (fun c15 => ?_)
                              ·
                                refine CodeT.seq ?_
                                refine CodeT.region (.p (opAssign (.s [103, 108, 111, 98, 97, 108, 115] rfl rfl)) rfl <| .p (opAssign (.c _)) rfl <| .nil ?_)
                                refine EndT.thenN ?_
                                refine CodeT.ret (EndT.thenR (Post.retR rfl rfl () trivial (fun _ _ _ _ => trivial) rfl (.cons (.rt rfl) ?_ (.cons (.rt rfl) ?_ .nil))))
                                · exact VLe.any
                                · refine VLe.ex _ ?_ (VLe.refl _); first | exact fun h => absurd h (by decide) | exact fun _ => ⟨fa, fb, fc, fd, fe, ff, fg, fh, fi, fj⟩
                              ·
                                refine CodeT.skip (EndT.thenN ?_)
                                refine CodeT.seq ?_
                                refine CodeT.seq ?_
                                refine CodeT.region (.p (opAssign (.c _)) rfl <| .nil ?_)
                                refine EndT.thenN ?_
                                refine CodeT.block ?_
                                refine CodeT.loopO (σ := Nat) (fun _ => []) (fun ke => [(10, intV .i64 (ke : Int))]) (fun ke => ke ≤ x.Globals.length ∧ NotB (fun z : GlobalD => globalE z ≠ 0) x.Globals ke) (fun ke => x.Globals.length - ke) 0 ⟨by omega, NotB.zero _ _⟩ rfl ?_ ?_
                                · exact (.get rfl (VLe.refl _) (.refl _ _))
                                · rintro ke ⟨hk16, hn16⟩
                                  refine CodeT.seq ?_
                                  refine CodeT.seq ?_
                                  refine CodeT.region (.p (opMove (.t rfl)) rfl <| .p (opField Try.fd31_5 (.t rfl)) rfl <| .p (opLoad Try.ag26 (.t rfl)) rfl <| .p (opLen rfl Try.underlying26 (.t rfl)) rfl <| .p (opLss (.t rfl) (.t rfl)) rfl <| .nil ?_)
                                  refine EndT.thenN ?_
                                  refine CodeT.cond (.t rfl) (fun c16 => ?_) (fun c16 => ?_)
                                  ·
                                    obtain ⟨z, hz⟩ := getElem?_lt (xs := x.Globals) (k := ke) (by omega)
                                    refine CodeT.skip (EndT.thenN ?_)
                                    refine CodeT.seq ?_
                                    refine CodeT.block ?_
                                    refine CodeT.seq ?_
                                    refine CodeT.region (.p (opField Try.fd31_5 (.t rfl)) rfl <| .p (opLoad Try.ag26 (.t rfl)) rfl <| .p (opMove (.t rfl)) rfl <| .p (opIndexAddr Try.underlying26 Try.cz83 rfl (.t rfl) (.t rfl) rfl (by assumption)) rfl <| .p (opLoadA Try.ag83 Try.cz83 rfl (.t rfl) rfl) rfl <| .n (opAlloc Try.zb83) rfl <| fun b11 _ => .s (opStoreOA (i := 0) Try.cz83 rfl (.t rfl) (.t rfl) rfl rfl rfl) <| .nil ?_)
                                    refine EndT.thenN ?_
                                    refine CodeT.share (t := 11) (i := 0) rfl rfl ?_
                                    refine CodeT.seq ?_
                                    refine CodeT.region (.p (opField Try.fd83_0 (.t rfl)) rfl <| .p (opLoad Try.ag80 (.t rfl)) rfl <| .p (opNeq (.t rfl) (.c _)) rfl <| .p (opMove (.t rfl)) rfl <| .g (OpG.gT rfl rfl rfl rfl (fun hg => opField Try.fd83_0 (.t rfl))) rfl rfl <| .g (OpG.gT rfl rfl rfl rfl (fun hg => opLoad Try.ag80 (.when (.t rfl) hg))) rfl rfl <| .g (OpG.gT rfl rfl rfl rfl (fun hg => opNeq (.when (.t rfl) hg) (.c _))) rfl rfl <| .g (OpG.gT rfl rfl rfl rfl (fun hg => opMove (.when (.t rfl) hg))) rfl rfl <| .g (OpG.hF rfl rfl rfl rfl (fun hg => opField Try.fd83_2 (.t rfl))) rfl rfl <| .g (OpG.hF rfl rfl rfl rfl (fun hg => opLoad Try.ag81 (.when (.t rfl) hg))) rfl rfl <| .g (OpG.hF rfl rfl rfl rfl (fun hg => opGtr (.when (.t rfl) hg) (.c _))) rfl rfl <| .g (OpG.gT rfl rfl rfl rfl (fun hg => opOr (.when (.t rfl) hg) (.under (.t rfl) hg))) rfl rfl <| .p (opAnd (.t rfl) (.t rfl)) rfl <| .nil ?_)
                                    refine EndT.thenN ?_
                                    refine CodeT.cond (.t rfl) (fun c17 => ?_) (fun c17 => ?_)
                                    ·
                                      refine CodeT.seq ?_
                                      refine CodeT.region (.p (opAssign (.s [103, 108, 111, 98, 97, 108, 115] rfl rfl)) rfl <| .p (opAssign (.c _)) rfl <| .nil ?_)
                                      refine EndT.thenN ?_
                                      refine CodeT.ret (EndT.blkR (EndT.thenR (EndT.thenR (EndT.blkR (EndT.thenR (Post.retR rfl rfl () trivial (fun _ _ _ _ => trivial) rfl (.cons (.rt rfl) ?_ (.cons (.rt rfl) ?_ .nil))))))))
                                      · exact VLe.any
                                      · refine VLe.ex _ ?_ (VLe.refl _); first | exact fun h => absurd h (by decide) | exact fun _ => ⟨fa, fb, fc, fd, fe, ff, fg, fh, fi, fj⟩
                                    ·
                                      refine CodeT.skip (EndT.blkN (EndT.thenN ?_))
                                      refine CodeT.region (.p (opMove (.t rfl)) rfl <| .p (opAddF (.t rfl) (.c _) (fits_i64 (by omega) (by omega))) rfl <| .p (opAssign (.t rfl)) rfl <| .nil ?_)
                                      refine EndT.round (ke + 1) ⟨by omega, hn16.succ hz (not_not_intro (globalE_ok (by omega)))⟩ (by omega) rfl ?_
                                      exact (.get rfl (VLe.int (by omega)) (.keep 29 rfl rfl))
                                  ·
                                    have ff : globalsE x = 0 := many_ok (by omega) hn16 (by omega)
                                    refine CodeT.exit (EndT.thenX (EndT.thenX (EndT.blkX (EndT.thenN ?_))))
                                    refine CodeT.seq ?_
                                    refine CodeT.seq ?_
                                    refine CodeT.region (.p (opField Try.fd31_6 (.t rfl)) rfl <| .p (opLoad Try.ag27 (.t rfl)) rfl <| .p (opLen rfl Try.underlying27 (.t rfl)) rfl <| .p (opGtr (.t rfl) (.c _)) rfl <| .nil ?_)
                                    refine EndT.thenN ?_
                                    refine CodeT.cond (.t rfl) (fun c18 => ?_) (fun c18 => ?_)
                                    ·
                                      refine CodeT.seq ?_
                                      refine CodeT.region (.p (opAssign (.s [101, 120, 112, 111, 114, 116, 115] rfl rfl)) rfl <| .p (opAssign (.c _)) rfl <| .nil ?_)
                                      refine EndT.thenN ?_
                                      refine CodeT.ret (EndT.thenR (Post.retR rfl rfl () trivial (fun _ _ _ _ => trivial) rfl (.cons (.rt rfl) ?_ (.cons (.rt rfl) ?_ .nil))))
                                      · exact VLe.any
                                      · refine VLe.ex _ ?_ (VLe.refl _); first | exact fun h => absurd h (by decide) | exact fun _ => ⟨fa, fb, fc, fd, fe, ff, fg, fh, fi, fj⟩
                                    ·
                                      refine CodeT.skip (EndT.thenN ?_)
                                      refine CodeT.seq ?_
                                      refine CodeT.seq ?_
                                      refine CodeT.region (.p (opAssign (.c _)) rfl <| .nil ?_)
                                      refine EndT.thenN ?_
                                      refine CodeT.block ?_
                                      refine CodeT.loopO (σ := Nat) (fun _ => []) (fun kf => [(12, intV .i64 (kf : Int))]) (fun kf => kf ≤ x.Exports.length ∧ ∀ j, j < kf → exportE x j = 0) (fun kf => x.Exports.length - kf) 0 ⟨by omega, fun j hj => absurd hj (by omega)⟩ rfl ?_ ?_
                                      · exact (.get rfl (VLe.refl _) (.refl _ _))
                                      · rintro kf ⟨hk19, hn19⟩
                                        refine CodeT.seq ?_
                                        refine CodeT.seq ?_
                                        refine CodeT.region (.p (opMove (.t rfl)) rfl <| .p (opField Try.fd31_6 (.t rfl)) rfl <| .p (opLoad Try.ag27 (.t rfl)) rfl <| .p (opLen rfl Try.underlying27 (.t rfl)) rfl <| .p (opLss (.t rfl) (.t rfl)) rfl <| .nil ?_)
                                        refine EndT.thenN ?_
                                        refine CodeT.cond (.t rfl) (fun c19 => ?_) (fun c19 => ?_)
                                        ·
                                          obtain ⟨z, hz⟩ := getElem?_lt (xs := x.Exports) (k := kf) (by omega)
                                          refine CodeT.skip (EndT.thenN ?_)
                                          refine CodeT.seq ?_
                                          refine CodeT.block ?_
                                          refine CodeT.seq ?_
                                          refine CodeT.region (.p (opField Try.fd31_6 (.t rfl)) rfl <| .p (opLoad Try.ag27 (.t rfl)) rfl <| .p (opMove (.t rfl)) rfl <| .p (opIndexAddr Try.underlying27 Try.cz57 rfl (.t rfl) (.t rfl) rfl (by assumption)) rfl <| .p (opLoadA Try.ag57 Try.cz57 rfl (.t rfl) rfl) rfl <| .n (opAlloc Try.zb57) rfl <| fun b13 _ => .s (opStoreOA (i := 0) Try.cz57 rfl (.t rfl) (.t rfl) rfl rfl rfl) <| .nil ?_)
                                          refine EndT.thenN ?_
                                          refine CodeT.share (t := 13) (i := 0) rfl rfl ?_
                                          refine CodeT.seq ?_
                                          refine CodeT.seq ?_
                                          refine CodeT.region (.p (opField Try.fd57_0 (.t rfl)) rfl <| .p (opLoad Try.ag9 (.t rfl)) rfl <| .p (opCall (lnamed_spec) Try.cb14 (.cons (.t rfl) .nil)) rfl <| .p (opNot (.t rfl)) rfl <| .nil ?_)
                                          refine EndT.thenN ?_
                                          refine CodeT.cond (.t rfl) (fun c20 => ?_) (fun c20 => ?_)
                                          ·
                                            refine CodeT.seq ?_
                                            refine CodeT.region (.p (opAssign (.s [101, 120, 112, 111, 114, 116, 115] rfl rfl)) rfl <| .p (opAssign (.c _)) rfl <| .nil ?_)
                                            refine EndT.thenN ?_
                                            refine CodeT.ret (EndT.thenR (EndT.blkR (EndT.thenR (EndT.thenR (EndT.blkR (EndT.thenR (Post.retR rfl rfl () trivial (fun _ _ _ _ => trivial) rfl (.cons (.rt rfl) ?_ (.cons (.rt rfl) ?_ .nil)))))))))
                                            · exact VLe.any
                                            · refine VLe.ex _ ?_ (VLe.refl _); first | exact fun h => absurd h (by decide) | exact fun _ => ⟨fa, fb, fc, fd, fe, ff, fg, fh, fi, fj⟩
                                          ·
                                            refine CodeT.skip (EndT.thenN ?_)
                                            refine CodeT.seq ?_
                                            refine CodeT.seq ?_
                                            refine CodeT.region (.p (opAssign (.c _)) rfl <| .nil ?_)
                                            refine EndT.thenN ?_
                                            refine CodeT.block ?_
                                            refine CodeT.loopO (σ := Nat) (fun _ => []) (fun kg => [(14, intV .i64 (kg : Int))]) (fun kg => kg ≤ kf ∧ NotB (fun w : ExportD => w.Name = z.Name) x.Exports kg) (fun kg => kf - kg) 0 ⟨by omega, NotB.zero _ _⟩ rfl ?_ ?_
                                            · exact (.get rfl (VLe.refl _) (.refl _ _))
                                            · rintro kg ⟨hk21, hn21⟩
                                              refine CodeT.seq ?_
                                              refine CodeT.seq ?_
                                              refine CodeT.region (.p (opMove (.t rfl)) rfl <| .p (opMove (.t rfl)) rfl <| .p (opLss (.t rfl) (.t rfl)) rfl <| .nil ?_)
                                              refine EndT.thenN ?_
                                              refine CodeT.cond (.t rfl) (fun c21 => ?_) (fun c21 => ?_)
                                              ·
                                                obtain ⟨w, hw⟩ := getElem?_lt (xs := x.Exports) (k := kg) (by omega)
                                                refine CodeT.skip (EndT.thenN ?_)
                                                refine CodeT.seq ?_
                                                refine CodeT.block ?_
                                                refine CodeT.seq ?_
                                                refine CodeT.draw 8 1 Try.mixed (by kernel_rfl) (.p (opField Try.fd31_6 (.t rfl)) <| .p (opLoad Try.ag27 (.t rfl)) <| .p (opMove (.t rfl)) <| .p (opIndexAddr Try.underlying27 Try.cz57 rfl (.t rfl) (.t rfl) rfl (by assumption)) <| .p (opField Try.fd57_0 (.t rfl)) <| .p (opLoad Try.ag9 (.t rfl)) <| .p (opField Try.fd57_0 (.t rfl)) <| .p (opLoad Try.ag9 (.t rfl)) <| .nil) (.p (opEqlS (.t rfl) (.t rfl)) rfl <| .nil ?_)
                                                refine EndT.thenN ?_
                                                refine CodeT.cond (.t rfl) (fun c22 => ?_) (fun c22 => ?_)
                                                ·
                                                  refine CodeT.seq ?_
                                                  refine CodeT.region (.p (opAssign (.s [101, 120, 112, 111, 114, 116, 115] rfl rfl)) rfl <| .p (opAssign (.c _)) rfl <| .nil ?_)
                                                  refine EndT.thenN ?_
                                                  refine CodeT.ret (EndT.blkR (EndT.thenR (EndT.thenR (EndT.blkR (EndT.thenR (EndT.blkR (EndT.thenR (EndT.thenR (EndT.blkR (EndT.thenR (Post.retR rfl rfl () trivial (fun _ _ _ _ => trivial) rfl (.cons (.rt rfl) ?_ (.cons (.rt rfl) ?_ .nil)))))))))))))
                                                  · exact VLe.any
                                                  · refine VLe.ex _ ?_ (VLe.refl _); first | exact fun h => absurd h (by decide) | exact fun _ => ⟨fa, fb, fc, fd, fe, ff, fg, fh, fi, fj⟩
                                                ·
                                                  refine CodeT.skip (EndT.blkN (EndT.thenN ?_))
                                                  refine CodeT.region (.p (opMove (.t rfl)) rfl <| .p (opAddF (.t rfl) (.c _) (fits_i64 (by omega) (by omega))) rfl <| .p (opAssign (.t rfl)) rfl <| .nil ?_)
                                                  refine EndT.round (kg + 1) ⟨by omega, hn21.succ hw c22⟩ (by omega) rfl ?_
                                                  exact (.get rfl (VLe.int (by omega)) (.keep 16 rfl rfl))
                                              ·
                                                have hq19 : NotB (fun w : ExportD => w.Name = z.Name) x.Exports kf := fun j y hj => hn21 j y (by omega)
                                                refine CodeT.exit (EndT.thenX (EndT.thenX (EndT.blkX (EndT.thenN ?_))))
                                                refine CodeT.seq ?_
                                                refine CodeT.region (.p (opField Try.fd57_1 (.t rfl)) rfl <| .p (opLoad Try.ag3 (.t rfl)) rfl <| .p (opEql (.t rfl) (.c _)) rfl <| .p (opMove (.t rfl)) rfl <| .g (OpG.gT rfl rfl rfl rfl (fun hg => opField Try.fd57_2 (.t rfl))) rfl rfl <| .g (OpG.gT rfl rfl rfl rfl (fun hg => opLoad Try.ag3 (.when (.t rfl) hg))) rfl rfl <| .g (OpG.gT rfl rfl rfl rfl (fun hg => opMove (.t rfl))) rfl rfl <| .g (OpG.gT rfl rfl rfl rfl (fun hg => opCall (lin_spec) Try.cb16 (.cons (.when (.t rfl) hg) (.cons (.when (.t rfl) hg) .nil)))) rfl rfl <| .p (opAnd (.t rfl) (.t rfl)) rfl <| .p (opMove (.t rfl)) rfl <| .g (OpG.gF rfl rfl rfl rfl (fun hg => opField Try.fd57_1 (.t rfl))) rfl rfl <| .g (OpG.gF rfl rfl rfl rfl (fun hg => opLoad Try.ag3 (.when (.t rfl) hg))) rfl rfl <| .g (OpG.gF rfl rfl rfl rfl (fun hg => opEql (.when (.t rfl) hg) (.c _))) rfl rfl <| .g (OpG.gF rfl rfl rfl rfl (fun hg => opMove (.when (.t rfl) hg))) rfl rfl <| .g (OpG.hT rfl rfl rfl rfl (fun hg => opField Try.fd31_3 (.t rfl))) rfl rfl <| .g (OpG.hT rfl rfl rfl rfl (fun hg => opLoad Try.ag3 (.when (.t rfl) hg))) rfl rfl <| .g (OpG.hT rfl rfl rfl rfl (fun hg => opGeq (.when (.t rfl) hg) (.c _))) rfl rfl <| .g (OpG.gF rfl rfl rfl rfl (fun hg => opAnd (.when (.t rfl) hg) (.under (.t rfl) hg))) rfl rfl <| .g (OpG.gF rfl rfl rfl rfl (fun hg => opMove (.when (.t rfl) hg))) rfl rfl <| .g (OpG.hT rfl rfl rfl rfl (fun hg => opField Try.fd57_2 (.t rfl))) rfl rfl <| .g (OpG.hT rfl rfl rfl rfl (fun hg => opLoad Try.ag3 (.when (.t rfl) hg))) rfl rfl <| .g (OpG.hT rfl rfl rfl rfl (fun hg => opEql (.when (.t rfl) hg) (.c _))) rfl rfl <| .g (OpG.gF rfl rfl rfl rfl (fun hg => opAnd (.when (.t rfl) hg) (.under (.t rfl) hg))) rfl rfl <| .p (opOr (.t rfl) (.t rfl)) rfl <| .p (opMove (.t rfl)) rfl <| .g (OpG.gF rfl rfl rfl rfl (fun hg => opField Try.fd57_1 (.t rfl))) rfl rfl <| .g (OpG.gF rfl rfl rfl rfl (fun hg => opLoad Try.ag3 (.when (.t rfl) hg))) rfl rfl <| .g (OpG.gF rfl rfl rfl rfl (fun hg => opEql (.when (.t rfl) hg) (.c _))) rfl rfl <| .g (OpG.gF rfl rfl rfl rfl (fun hg => opMove (.when (.t rfl) hg))) rfl rfl <| .g (OpG.hT rfl rfl rfl rfl (fun hg => opField Try.fd57_2 (.t rfl))) rfl rfl <| .g (OpG.hT rfl rfl rfl rfl (fun hg => opLoad Try.ag3 (.when (.t rfl) hg))) rfl rfl <| .g (OpG.hT rfl rfl rfl rfl (fun hg => opField Try.fd31_4 (.t rfl))) rfl rfl <| .g (OpG.hT rfl rfl rfl rfl (fun hg => opLoad Try.ag25 (.when (.t rfl) hg))) rfl rfl <| .g (OpG.hT rfl rfl rfl rfl (fun hg => opLen rfl Try.underlying25 (.when (.t rfl) hg))) rfl rfl <| .g (OpG.hT rfl rfl rfl rfl (fun hg => opCall (lin_spec) Try.cb16 (.cons (.when (.t rfl) hg) (.cons (.when (.t rfl) hg) .nil)))) rfl rfl <| .g (OpG.gF rfl rfl rfl rfl (fun hg => opAnd (.when (.t rfl) hg) (.under (.t rfl) hg))) rfl rfl <| .p (opOr (.t rfl) (.t rfl)) rfl <| .p (opMove (.t rfl)) rfl <| .g (OpG.gF rfl rfl rfl rfl (fun hg => opField Try.fd57_1 (.t rfl))) rfl rfl <| .g (OpG.gF rfl rfl rfl rfl (fun hg => opLoad Try.ag3 (.when (.t rfl) hg))) rfl rfl <| .g (OpG.gF rfl rfl rfl rfl (fun hg => opEql (.when (.t rfl) hg) (.c _))) rfl rfl <| .g (OpG.gF rfl rfl rfl rfl (fun hg => opMove (.when (.t rfl) hg))) rfl rfl <| .g (OpG.hT rfl rfl rfl rfl (fun hg => opField Try.fd57_2 (.t rfl))) rfl rfl <| .g (OpG.hT rfl rfl rfl rfl (fun hg => opLoad Try.ag3 (.when (.t rfl) hg))) rfl rfl <| .g (OpG.hT rfl rfl rfl rfl (fun hg => opField Try.fd31_5 (.t rfl))) rfl rfl <| .g (OpG.hT rfl rfl rfl rfl (fun hg => opLoad Try.ag26 (.when (.t rfl) hg))) rfl rfl <| .g (OpG.hT rfl rfl rfl rfl (fun hg => opLen rfl Try.underlying26 (.when (.t rfl) hg))) rfl rfl <| .g (OpG.hT rfl rfl rfl rfl (fun hg => opCall (lin_spec) Try.cb16 (.cons (.when (.t rfl) hg) (.cons (.when (.t rfl) hg) .nil)))) rfl rfl <| .g (OpG.gF rfl rfl rfl rfl (fun hg => opAnd (.when (.t rfl) hg) (.under (.t rfl) hg))) rfl rfl <| .p (opOr (.t rfl) (.t rfl)) rfl <| .p (opAssign (.t rfl)) rfl <| .nil ?_)
                                                refine EndT.thenN ?_
                                                refine CodeT.seq ?_
                                                refine CodeT.region (.p (opMove (.t rfl)) rfl <| .p (opNot (.t rfl)) rfl <| .nil ?_)
                                                refine EndT.thenN ?_
                                                refine CodeT.cond (.t rfl) (fun c23 => ?_) (fun c23 => ?_)
                                                ·
                                                  refine CodeT.seq ?_
                                                  refine CodeT.region (.p (opAssign (.s [101, 120, 112, 111, 114, 116, 115] rfl rfl)) rfl <| .p (opAssign (.c _)) rfl <| .nil ?_)
                                                  refine EndT.thenN ?_
                                                  refine CodeT.ret (EndT.blkR (EndT.thenR (EndT.thenR (EndT.blkR (EndT.thenR (Post.retR rfl rfl () trivial (fun _ _ _ _ => trivial) rfl (.cons (.rt rfl) ?_ (.cons (.rt rfl) ?_ .nil))))))))
                                                  · exact VLe.any
                                                  · refine VLe.ex _ ?_ (VLe.refl _); first | exact fun h => absurd h (by decide) | exact fun _ => ⟨fa, fb, fc, fd, fe, ff, fg, fh, fi, fj⟩
                                                ·
                                                  refine CodeT.skip (EndT.blkN (EndT.thenN ?_))
                                                  refine CodeT.region (.p (opMove (.t rfl)) rfl <| .p (opAddF (.t rfl) (.c _) (fits_i64 (by omega) (by omega))) rfl <| .p (opAssign (.t rfl)) rfl <| .nil ?_)
                                                  refine EndT.round (kf + 1) ⟨by omega, fun j hj => by rcases Nat.lt_succ_iff_lt_or_eq.1 hj with h | h; exact hn19 j h; exact h ▸ exportE_ok hz (by simpa using c20) hq19 (by omega) (by omega) (or4 (Classical.not_not.1 c23))⟩ (by omega) rfl ?_
                                                  exact (.get rfl (VLe.int (by omega)) (.keep 78 rfl rfl))
                                        ·
                                          have fg : exportsE x = 0 := exports_ok (by omega) hn19 (by omega)
                                          refine CodeT.exit (EndT.thenX (EndT.thenX (EndT.blkX (EndT.thenN ?_))))
                                          refine CodeT.cut (σ := Unit) (fun _ => []) (fun _ => []) (fun _ => startE x = 0) ?_ ?_
                                          ·
                                            refine CodeT.seq ?_
                                            refine CodeT.region (.p (opField Try.fd31_7 (.t rfl)) rfl <| .p (opLoad Try.ag3 (.t rfl)) rfl <| .p (opNeq (.t rfl) (.c _)) rfl <| .nil ?_)
                                            refine EndT.thenN ?_
                                            refine CodeT.cond (.t rfl) (fun c24 => ?_) (fun c24 => ?_)
                                            ·
                                              refine CodeT.seq ?_
                                              refine CodeT.seq ?_
                                              refine CodeT.region (.p (opField Try.fd31_7 (.t rfl)) rfl <| .p (opLoad Try.ag3 (.t rfl)) rfl <| .p (opMove (.t rfl)) rfl <| .p (opCall (lin_spec) Try.cb16 (.cons (.t rfl) (.cons (.t rfl) .nil))) rfl <| .p (opNot (.t rfl)) rfl <| .nil ?_)
                                              refine EndT.thenN ?_
                                              refine CodeT.cond (.t rfl) (fun c25 => ?_) (fun c25 => ?_)
                                              ·
                                                refine CodeT.seq ?_
                                                refine CodeT.region (.p (opAssign (.s [115, 116, 97, 114, 116] rfl rfl)) rfl <| .p (opAssign (.c _)) rfl <| .nil ?_)
                                                refine EndT.thenN ?_
                                                refine CodeT.ret (EndT.thenR (EndT.thenR (Post.retR rfl rfl () trivial (fun _ _ _ _ => trivial) rfl (.cons (.rt rfl) ?_ (.cons (.rt rfl) ?_ .nil)))))
                                                · exact VLe.any
                                                · refine VLe.ex _ ?_ (VLe.refl _); first | exact fun h => absurd h (by decide) | exact fun _ => ⟨fa, fb, fc, fd, fe, ff, fg, fh, fi, fj⟩
                                              ·
                                                obtain ⟨s, hs⟩ := sig_found (m := x) (f := x.Start) (by simpa [countM] using c25) fb0 fc0
                                                obtain ⟨si, hsi⟩ := List.mem_iff_getElem?.1 (sig_mem hs)
                                                have hs0 := hi0 si s hsi
                                                refine CodeT.skip (EndT.thenN ?_)
                                                refine CodeT.seq ?_
                                                refine CodeT.region (.p (opLoadA Try.ag31 Try.cz31 rfl (.t rfl) rfl) rfl <| .p (opField Try.fd31_7 (.t rfl)) rfl <| .p (opLoad Try.ag3 (.t rfl)) rfl <| .p (opCall ((l13sig_spec hs)) Try.cb17 (.cons (.t rfl) (.cons (.t rfl) .nil))) rfl <| .n (opAlloc Try.zb52) rfl <| fun b16 _ => .s (opStoreOA (i := 0) Try.cz52 rfl (.t rfl) (.t rfl) rfl rfl rfl) <| .nil ?_)
                                                refine EndT.thenN ?_
                                                refine CodeT.share (t := 16) (i := 0) rfl rfl ?_
                                                refine CodeT.seq ?_
                                                refine CodeT.region (.p (opField Try.fd52_0 (.t rfl)) rfl <| .p (opLoad Try.ag50 (.t rfl)) rfl <| .p (opLen rfl Try.underlying50 (.t rfl)) rfl <| .p (opField Try.fd52_1 (.t rfl)) rfl <| .p (opLoad Try.ag50 (.t rfl)) rfl <| .p (opLen rfl Try.underlying50 (.t rfl)) rfl <| .p (opAddF (.t rfl) (.t rfl) (fits_i64 (by omega) (by omega))) rfl <| .p (opGtr (.t rfl) (.c _)) rfl <| .nil ?_)
                                                refine EndT.thenN ?_
                                                refine CodeT.cond (.t rfl) (fun c26 => ?_) (fun c26 => ?_)
                                                ·
                                                  refine CodeT.seq ?_
                                                  refine CodeT.region (.p (opAssign (.s [115, 116, 97, 114, 116] rfl rfl)) rfl <| .p (opAssign (.c _)) rfl <| .nil ?_)
                                                  refine EndT.thenN ?_
                                                  refine CodeT.ret (EndT.thenR (Post.retR rfl rfl () trivial (fun _ _ _ _ => trivial) rfl (.cons (.rt rfl) ?_ (.cons (.rt rfl) ?_ .nil))))
                                                  · exact VLe.any
                                                  · refine VLe.ex _ ?_ (VLe.refl _); first | exact fun h => absurd h (by decide) | exact fun _ => ⟨fa, fb, fc, fd, fe, ff, fg, fh, fi, fj⟩
                                                ·
                                                  refine CodeT.skip (EndT.meet () (startE_ok hs (by omega)) rfl (.keep 22 rfl rfl))
                                            ·
                                              refine CodeT.skip (EndT.meet () (startE_no (by omega)) rfl (.keep 3 rfl rfl))
                                          ·
                                            intro _ fh
                                            refine CodeT.seq ?_
                                            refine CodeT.seq ?_
                                            refine CodeT.region (.p (opField Try.fd31_8 (.t rfl)) rfl <| .p (opLoad Try.ag28 (.t rfl)) rfl <| .p (opLen rfl Try.underlying28 (.t rfl)) rfl <| .p (opGtr (.t rfl) (.c _)) rfl <| .nil ?_)
                                            refine EndT.thenN ?_
                                            refine CodeT.cond (.t rfl) (fun c27 => ?_) (fun c27 => ?_)
                                            ·
                                              refine CodeT.seq ?_
                                              refine CodeT.region (.p (opAssign (.s [101, 108, 101, 109, 115] rfl rfl)) rfl <| .p (opAssign (.c _)) rfl <| .nil ?_)
                                              refine EndT.thenN ?_
                                              refine CodeT.ret (EndT.thenR (Post.retR rfl rfl () trivial (fun _ _ _ _ => trivial) rfl (.cons (.rt rfl) ?_ (.cons (.rt rfl) ?_ .nil))))
                                              · exact VLe.any
                                              · refine VLe.ex _ ?_ (VLe.refl _); first | exact fun h => absurd h (by decide) | exact fun _ => ⟨fa, fb, fc, fd, fe, ff, fg, fh, fi, fj⟩
                                            ·
                                              refine CodeT.skip (EndT.thenN ?_)
                                              refine CodeT.seq ?_
                                              refine CodeT.seq ?_
                                              refine CodeT.region (.p (opAssign (.c _)) rfl <| .nil ?_)
                                              refine EndT.thenN ?_
                                              refine CodeT.block ?_
                                              refine CodeT.loopO (σ := Nat) (fun _ => []) (fun kh => [(17, intV .i64 (kh : Int))]) (fun kh => kh ≤ x.Elems.length ∧ NotB (fun z : ElemD => elemE x z ≠ 0) x.Elems kh) (fun kh => x.Elems.length - kh) 0 ⟨by omega, NotB.zero _ _⟩ rfl ?_ ?_
                                              · exact (.get rfl (VLe.refl _) (.refl _ _))
                                              · rintro kh ⟨hk28, hn28⟩
                                                refine CodeT.seq ?_
                                                refine CodeT.seq ?_
                                                refine CodeT.region (.p (opMove (.t rfl)) rfl <| .p (opField Try.fd31_8 (.t rfl)) rfl <| .p (opLoad Try.ag28 (.t rfl)) rfl <| .p (opLen rfl Try.underlying28 (.t rfl)) rfl <| .p (opLss (.t rfl) (.t rfl)) rfl <| .nil ?_)
                                                refine EndT.thenN ?_
                                                refine CodeT.cond (.t rfl) (fun c28 => ?_) (fun c28 => ?_)
                                                ·
                                                  obtain ⟨z, hz⟩ := getElem?_lt (xs := x.Elems) (k := kh) (by omega)
                                                  refine CodeT.skip (EndT.thenN ?_)
                                                  refine CodeT.seq ?_
                                                  refine CodeT.block ?_
                                                  refine CodeT.seq ?_
                                                  refine CodeT.seq ?_
                                                  refine CodeT.region (.p (opField Try.fd31_8 (.t rfl)) rfl <| .p (opLoad Try.ag28 (.t rfl)) rfl <| .p (opMove (.t rfl)) rfl <| .p (opIndexAddr Try.underlying28 Try.cz86 rfl (.t rfl) (.t rfl) rfl (by assumption)) rfl <| .p (opField Try.fd86_1 (.t rfl)) rfl <| .p (opLoad Try.ag84 (.t rfl)) rfl <| .p (opLen rfl Try.underlying84 (.t rfl)) rfl <| .p (opGtr (.t rfl) (.c _)) rfl <| .nil ?_)
                                                  refine EndT.thenN ?_
                                                  refine CodeT.cond (.t rfl) (fun c29 => ?_) (fun c29 => ?_)
                                                  ·
                                                    refine CodeT.seq ?_
                                                    refine CodeT.region (.p (opAssign (.s [101, 108, 101, 109, 115] rfl rfl)) rfl <| .p (opAssign (.c _)) rfl <| .nil ?_)
                                                    refine EndT.thenN ?_
                                                    refine CodeT.ret (EndT.thenR (EndT.blkR (EndT.thenR (EndT.thenR (EndT.blkR (EndT.thenR (Post.retR rfl rfl () trivial (fun _ _ _ _ => trivial) rfl (.cons (.rt rfl) ?_ (.cons (.rt rfl) ?_ .nil)))))))))
                                                    · exact VLe.any
                                                    · refine VLe.ex _ ?_ (VLe.refl _); first | exact fun h => absurd h (by decide) | exact fun _ => ⟨fa, fb, fc, fd, fe, ff, fg, fh, fi, fj⟩
                                                  ·
                                                    refine CodeT.skip (EndT.thenN ?_)
                                                    refine CodeT.seq ?_
                                                    refine CodeT.seq ?_
                                                    refine CodeT.region (.p (opField Try.fd31_3 (.t rfl)) rfl <| .p (opLoad Try.ag3 (.t rfl)) rfl <| .p (opLss (.t rfl) (.c _)) rfl <| .p (opMove (.t rfl)) rfl <| .g (OpG.gF rfl rfl rfl rfl (fun hg => opField Try.fd31_8 (.t rfl))) rfl rfl <| .g (OpG.gF rfl rfl rfl rfl (fun hg => opLoad Try.ag28 (.when (.t rfl) hg))) rfl rfl <| .g (OpG.gF rfl rfl rfl rfl (fun hg => opMove (.t rfl))) rfl rfl <| .g (OpG.gF rfl rfl rfl rfl (fun hg => opIndexAddr Try.underlying28 Try.cz86 rfl (.when (.t rfl) hg) (.when (.t rfl) hg) rfl (by assumption))) rfl rfl <| .g (OpG.gF rfl rfl rfl rfl (fun hg => opField Try.fd86_0 (.when (.t rfl) hg))) rfl rfl <| .g (OpG.gF rfl rfl rfl rfl (fun hg => opLoad Try.ag81 (.when (.t rfl) hg))) rfl rfl <| .g (OpG.gF rfl rfl rfl rfl (fun hg => opGtr (.when (.t rfl) hg) (.c _))) rfl rfl <| .p (opOr (.t rfl) (.t rfl)) rfl <| .nil ?_)
                                                    refine EndT.thenN ?_
                                                    refine CodeT.cond (.t rfl) (fun c30 => ?_) (fun c30 => ?_)
                                                    ·
                                                      refine CodeT.seq ?_
                                                      refine CodeT.region (.p (opAssign (.s [101, 108, 101, 109, 115] rfl rfl)) rfl <| .p (opAssign (.c _)) rfl <| .nil ?_)
                                                      refine EndT.thenN ?_
                                                      refine CodeT.ret (EndT.thenR (EndT.blkR (EndT.thenR (EndT.thenR (EndT.blkR (EndT.thenR (Post.retR rfl rfl () trivial (fun _ _ _ _ => trivial) rfl (.cons (.rt rfl) ?_ (.cons (.rt rfl) ?_ .nil)))))))))
                                                      · exact VLe.any
                                                      · refine VLe.ex _ ?_ (VLe.refl _); first | exact fun h => absurd h (by decide) | exact fun _ => ⟨fa, fb, fc, fd, fe, ff, fg, fh, fi, fj⟩
                                                    ·
                                                      refine CodeT.skip (EndT.thenN ?_)
                                                      refine CodeT.seq ?_
                                                      refine CodeT.region (.p (opAssign (.c _)) rfl <| .nil ?_)
                                                      refine EndT.thenN ?_
                                                      refine CodeT.block ?_
                                                      refine CodeT.loopO (σ := Nat) (fun _ => []) (fun kj => [(18, intV .i64 (kj : Int))]) (fun kj => kj ≤ z.Funcs.length ∧ NotB (fun w : Int => ¬ InP w (countM x)) z.Funcs kj) (fun kj => z.Funcs.length - kj) 0 ⟨by omega, NotB.zero _ _⟩ rfl ?_ ?_
                                                      · exact (.get rfl (VLe.refl _) (.refl _ _))
                                                      · rintro kj ⟨hk31, hn31⟩
                                                        refine CodeT.seq ?_
                                                        refine CodeT.seq ?_
                                                        refine CodeT.region (.p (opMove (.t rfl)) rfl <| .p (opField Try.fd31_8 (.t rfl)) rfl <| .p (opLoad Try.ag28 (.t rfl)) rfl <| .p (opMove (.t rfl)) rfl <| .p (opIndexAddr Try.underlying28 Try.cz86 rfl (.t rfl) (.t rfl) rfl (by assumption)) rfl <| .p (opField Try.fd86_1 (.t rfl)) rfl <| .p (opLoad Try.ag84 (.t rfl)) rfl <| .p (opLen rfl Try.underlying84 (.t rfl)) rfl <| .p (opLss (.t rfl) (.t rfl)) rfl <| .nil ?_)
                                                        refine EndT.thenN ?_
                                                        refine CodeT.cond (.t rfl) (fun c31 => ?_) (fun c31 => ?_)
                                                        ·
                                                          obtain ⟨w, hw⟩ := getElem?_lt (xs := z.Funcs) (k := kj) (by omega)
                                                          refine CodeT.skip (EndT.thenN ?_)
                                                          refine CodeT.seq ?_
                                                          refine CodeT.block ?_
                                                          refine CodeT.seq ?_
                                                          refine CodeT.region (.p (opField Try.fd31_8 (.t rfl)) rfl <| .p (opLoad Try.ag28 (.t rfl)) rfl <| .p (opMove (.t rfl)) rfl <| .p (opIndexAddr Try.underlying28 Try.cz86 rfl (.t rfl) (.t rfl) rfl (by assumption)) rfl <| .p (opField Try.fd86_1 (.t rfl)) rfl <| .p (opLoad Try.ag84 (.t rfl)) rfl <| .p (opMove (.t rfl)) rfl <| .p (opIndexAddr Try.underlying84 Try.cz3 rfl (.t rfl) (.t rfl) rfl (by assumption)) rfl <| .p (opLoad Try.ag3 (.t rfl)) rfl <| .p (opMove (.t rfl)) rfl <| .p (opCall (lin_spec) Try.cb16 (.cons (.t rfl) (.cons (.t rfl) .nil))) rfl <| .p (opNot (.t rfl)) rfl <| .nil ?_)
                                                          refine EndT.thenN ?_
                                                          refine CodeT.cond (.t rfl) (fun c32 => ?_) (fun c32 => ?_)
                                                          ·
                                                            refine CodeT.seq ?_
                                                            refine CodeT.region (.p (opAssign (.s [101, 108, 101, 109, 115] rfl rfl)) rfl <| .p (opAssign (.c _)) rfl <| .nil ?_)
                                                            refine EndT.thenN ?_
                                                            refine CodeT.ret (EndT.blkR (EndT.thenR (EndT.thenR (EndT.blkR (EndT.blkR (EndT.thenR (EndT.thenR (EndT.blkR (EndT.thenR (Post.retR rfl rfl () trivial (fun _ _ _ _ => trivial) rfl (.cons (.rt rfl) ?_ (.cons (.rt rfl) ?_ .nil))))))))))))
                                                            · exact VLe.any
                                                            · refine VLe.ex _ ?_ (VLe.refl _); first | exact fun h => absurd h (by decide) | exact fun _ => ⟨fa, fb, fc, fd, fe, ff, fg, fh, fi, fj⟩
                                                          ·
                                                            refine CodeT.skip (EndT.blkN (EndT.thenN ?_))
                                                            refine CodeT.region (.p (opMove (.t rfl)) rfl <| .p (opAddF (.t rfl) (.c _) (fits_i64 (by omega) (by omega))) rfl <| .p (opAssign (.t rfl)) rfl <| .nil ?_)
                                                            refine EndT.round (kj + 1) ⟨by omega, hn31.succ hw (by simpa [countM] using c32)⟩ (by omega) rfl ?_
                                                            exact (.get rfl (VLe.int (by omega)) (.keep 25 rfl rfl))
                                                        ·
                                                          refine CodeT.exit (EndT.thenX (EndT.thenX (EndT.blkX (EndT.blkN (EndT.thenN ?_)))))
                                                          refine CodeT.region (.p (opMove (.t rfl)) rfl <| .p (opAddF (.t rfl) (.c _) (fits_i64 (by omega) (by omega))) rfl <| .p (opAssign (.t rfl)) rfl <| .nil ?_)
                                                          refine EndT.round (kh + 1) ⟨by omega, hn28.succ hz (not_not_intro (elemE_ok (k := kj) (by omega) (by omega) (by omega) hn31 (by omega)))⟩ (by omega) rfl ?_
                                                          exact (.get rfl (VLe.int (by omega)) (.keep 40 rfl rfl))
                                                ·
                                                  have fi : elemsE x = 0 := many_ok (by omega) hn28 (by omega)
                                                  refine CodeT.exit (EndT.thenX (EndT.thenX (EndT.blkX (EndT.thenN ?_))))
                                                  refine CodeT.seq ?_
                                                  refine CodeT.seq ?_
                                                  refine CodeT.region (.p (opField Try.fd31_9 (.t rfl)) rfl <| .p (opLoad Try.ag29 (.t rfl)) rfl <| .p (opLen rfl Try.underlying29 (.t rfl)) rfl <| .p (opGtr (.t rfl) (.c _)) rfl <| .nil ?_)
                                                  refine EndT.thenN ?_
                                                  refine CodeT.cond (.t rfl) (fun c33 => ?_) (fun c33 => ?_)
                                                  ·
                                                    refine CodeT.seq ?_
                                                    refine CodeT.region (.p (opAssign (.s [100, 97, 116, 97] rfl rfl)) rfl <| .p (opAssign (.c _)) rfl <| .nil ?_)
                                                    refine EndT.thenN ?_
                                                    refine CodeT.ret (EndT.thenR (Post.retR rfl rfl () trivial (fun _ _ _ _ => trivial) rfl (.cons (.rt rfl) ?_ (.cons (.rt rfl) ?_ .nil))))
                                                    · exact VLe.any
                                                    · refine VLe.ex _ ?_ (VLe.refl _); first | exact fun h => absurd h (by decide) | exact fun _ => ⟨fa, fb, fc, fd, fe, ff, fg, fh, fi, fj⟩
                                                  ·
                                                    refine CodeT.skip (EndT.thenN ?_)
                                                    refine CodeT.seq ?_
                                                    refine CodeT.seq ?_
                                                    refine CodeT.region (.p (opAssign (.c _)) rfl <| .nil ?_)
                                                    refine EndT.thenN ?_
                                                    refine CodeT.block ?_
                                                    refine CodeT.loopO (σ := Nat) (fun _ => []) (fun kl => [(19, intV .i64 (kl : Int))]) (fun kl => kl ≤ x.Datas.length ∧ NotB (fun z : DataD => dataE x z ≠ 0) x.Datas kl) (fun kl => x.Datas.length - kl) 0 ⟨by omega, NotB.zero _ _⟩ rfl ?_ ?_
                                                    · exact (.get rfl (VLe.refl _) (.refl _ _))
                                                    · rintro kl ⟨hk34, hn34⟩
                                                      refine CodeT.seq ?_
                                                      refine CodeT.seq ?_
                                                      refine CodeT.region (.p (opMove (.t rfl)) rfl <| .p (opField Try.fd31_9 (.t rfl)) rfl <| .p (opLoad Try.ag29 (.t rfl)) rfl <| .p (opLen rfl Try.underlying29 (.t rfl)) rfl <| .p (opLss (.t rfl) (.t rfl)) rfl <| .nil ?_)
                                                      refine EndT.thenN ?_
                                                      refine CodeT.cond (.t rfl) (fun c34 => ?_) (fun c34 => ?_)
                                                      ·
                                                        obtain ⟨z, hz⟩ := getElem?_lt (xs := x.Datas) (k := kl) (by omega)
                                                        refine CodeT.skip (EndT.thenN ?_)
                                                        refine CodeT.seq ?_
                                                        refine CodeT.block ?_
                                                        refine CodeT.seq ?_
                                                        refine CodeT.region (.p (opField Try.fd31_9 (.t rfl)) rfl <| .p (opLoad Try.ag29 (.t rfl)) rfl <| .p (opMove (.t rfl)) rfl <| .p (opIndexAddr Try.underlying29 Try.cz88 rfl (.t rfl) (.t rfl) rfl (by assumption)) rfl <| .p (opLoadA Try.ag88 Try.cz88 rfl (.t rfl) rfl) rfl <| .n (opAlloc Try.zb88) rfl <| fun b20 _ => .s (opStoreOA (i := 0) Try.cz88 rfl (.t rfl) (.t rfl) rfl rfl rfl) <| .nil ?_)
                                                        refine EndT.thenN ?_
                                                        refine CodeT.share (t := 20) (i := 0) rfl rfl ?_
                                                        refine CodeT.seq ?_
                                                        refine CodeT.seq ?_
                                                        refine CodeT.region (.p (opField Try.fd88_2 (.t rfl)) rfl <| .p (opLoad Try.ag50 (.t rfl)) rfl <| .p (opLen rfl Try.underlying50 (.t rfl)) rfl <| .p (opGtr (.t rfl) (.c _)) rfl <| .nil ?_)
                                                        refine EndT.thenN ?_
                                                        refine CodeT.cond (.t rfl) (fun c35 => ?_) (fun c35 => ?_)
                                                        ·
                                                          refine CodeT.seq ?_
                                                          refine CodeT.region (.p (opAssign (.s [100, 97, 116, 97] rfl rfl)) rfl <| .p (opAssign (.c _)) rfl <| .nil ?_)
                                                          refine EndT.thenN ?_
                                                          refine CodeT.ret (EndT.thenR (EndT.blkR (EndT.thenR (EndT.thenR (EndT.blkR (EndT.thenR (Post.retR rfl rfl () trivial (fun _ _ _ _ => trivial) rfl (.cons (.rt rfl) ?_ (.cons (.rt rfl) ?_ .nil)))))))))
                                                          · exact VLe.any
                                                          · refine VLe.ex _ ?_ (VLe.refl _); first | exact fun h => absurd h (by decide) | exact fun _ => ⟨fa, fb, fc, fd, fe, ff, fg, fh, fi, fj⟩
                                                        ·
                                                          refine CodeT.skip (EndT.thenN ?_)
                                                          refine CodeT.seq ?_
                                                          refine CodeT.seq ?_
                                                          refine CodeT.region (.p (opField Try.fd88_0 (.t rfl)) rfl <| .p (opLoad Try.ag3 (.t rfl)) rfl <| .p (opField Try.fd31_4 (.t rfl)) rfl <| .p (opLoad Try.ag25 (.t rfl)) rfl <| .p (opLen rfl Try.underlying25 (.t rfl)) rfl <| .p (opCall (lin_spec) Try.cb16 (.cons (.t rfl) (.cons (.t rfl) .nil))) rfl <| .p (opNot (.t rfl)) rfl <| .nil ?_)
                                                          refine EndT.thenN ?_
                                                          refine CodeT.cond (.t rfl) (fun c36 => ?_) (fun c36 => ?_)
                                                          ·
                                                            refine CodeT.seq ?_
                                                            refine CodeT.region (.p (opAssign (.s [100, 97, 116, 97] rfl rfl)) rfl <| .p (opAssign (.c _)) rfl <| .nil ?_)
                                                            refine EndT.thenN ?_
                                                            refine CodeT.ret (EndT.thenR (EndT.blkR (EndT.thenR (EndT.thenR (EndT.blkR (EndT.thenR (Post.retR rfl rfl () trivial (fun _ _ _ _ => trivial) rfl (.cons (.rt rfl) ?_ (.cons (.rt rfl) ?_ .nil)))))))))
                                                            · exact VLe.any
                                                            · refine VLe.ex _ ?_ (VLe.refl _); first | exact fun h => absurd h (by decide) | exact fun _ => ⟨fa, fb, fc, fd, fe, ff, fg, fh, fi, fj⟩
                                                          ·
                                                            obtain ⟨hy3, hy2⟩ := InP.at (n := z.Mem) (k := x.Mems.length) (by simpa using c36)
                                                            obtain ⟨y, hy1⟩ := getElem?_lt (xs := x.Mems) (k := z.Mem.toNat) hy3
                                                            refine CodeT.skip (EndT.thenN ?_)
                                                            refine CodeT.seq ?_
                                                            refine CodeT.region (.p (opField Try.fd31_4 (.t rfl)) rfl <| .p (opLoad Try.ag25 (.t rfl)) rfl <| .p (opField Try.fd88_0 (.t rfl)) rfl <| .p (opLoad Try.ag3 (.t rfl)) rfl <| .p (opIndexAddr (j := z.Mem.toNat) Try.underlying25 Try.cz79 rfl (.t rfl) (.t rfl) hy2 hy1) rfl <| .p (opField Try.fd79_2 (.t rfl)) rfl <| .p (opLoad Try.ag4 (.t rfl)) rfl <| .p (opNot (.t rfl)) rfl <| .p (opMove (.t rfl)) rfl <| .g (OpG.gT rfl rfl rfl rfl (fun hg => opField Try.fd88_1 (.t rfl))) rfl rfl <| .g (OpG.gT rfl rfl rfl rfl (fun hg => opLoad Try.ag81 (.when (.t rfl) hg))) rfl rfl <| .g (OpG.gT rfl rfl rfl rfl (fun hg => opGtr (.when (.t rfl) hg) (.c _))) rfl rfl <| .p (opAnd (.t rfl) (.t rfl)) rfl <| .nil ?_)
                                                            refine EndT.thenN ?_
                                                            refine CodeT.cond (.t rfl) (fun c37 => ?_) (fun c37 => ?_)
                                                            ·
                                                              refine CodeT.seq ?_
                                                              refine CodeT.region (.p (opAssign (.s [100, 97, 116, 97] rfl rfl)) rfl <| .p (opAssign (.c _)) rfl <| .nil ?_)
                                                              refine EndT.thenN ?_
                                                              refine CodeT.ret (EndT.blkR (EndT.thenR (EndT.thenR (EndT.blkR (EndT.thenR (Post.retR rfl rfl () trivial (fun _ _ _ _ => trivial) rfl (.cons (.rt rfl) ?_ (.cons (.rt rfl) ?_ .nil))))))))
                                                              · exact VLe.any
                                                              · refine VLe.ex _ ?_ (VLe.refl _); first | exact fun h => absurd h (by decide) | exact fun _ => ⟨fa, fb, fc, fd, fe, ff, fg, fh, fi, fj⟩
                                                            ·
                                                              refine CodeT.skip (EndT.blkN (EndT.thenN ?_))
                                                              refine CodeT.region (.p (opMove (.t rfl)) rfl <| .p (opAddF (.t rfl) (.c _) (fits_i64 (by omega) (by omega))) rfl <| .p (opAssign (.t rfl)) rfl <| .nil ?_)
                                                              refine EndT.round (kl + 1) ⟨by omega, hn34.succ hz (not_not_intro (dataE_ok (by omega) (by simpa using c36) hy1 (by simpa using c37)))⟩ (by omega) rfl ?_
                                                              exact (.get rfl (VLe.int (by omega)) (.keep 40 rfl rfl))
                                                      ·
                                                        have fj : datasE x = 0 := many_ok (by omega) hn34 (by omega)
                                                        refine CodeT.exit (EndT.thenX (EndT.thenX (EndT.blkX (EndT.thenN ?_))))
                                                        refine CodeT.seq ?_
                                                        refine CodeT.region (.p (opAssign (.s [] rfl rfl)) rfl <| .p (opAssign (.c _)) rfl <| .nil ?_)
                                                        refine EndT.thenN ?_
                                                        refine CodeT.ret (Post.retR rfl rfl () trivial (fun _ _ _ _ => trivial) rfl (.cons (.rt rfl) ?_ (.cons (.rt rfl) ?_ .nil)))
                                                        · exact VLe.any
                                                        · refine VLe.ex _ ?_ (VLe.refl _); first | exact fun h => absurd h (by decide) | exact fun _ => ⟨fa, fb, fc, fd, fe, ff, fg, fh, fi, fj⟩

end Go.Proofs.Ytbiahdejccipaaa
