/-
  Walks, printed by a program (gen.py) out of what its author says of each function.
-/
import Derived.Test.YtjojlppmnebhgaaO10Z
namespace Go.Proofs.Ytjojlppmnebhgaa
open Go.Hl Go.RowKit
set_option linter.unusedVariables false
set_option maxRecDepth 100000

theorem OpApart_spec {a b : Int} : FnP Try.prog 6 [intV .i64 a, intV .i64 b] (propV True) := by
  refine FnE.intro 77 Try.func6 rfl rfl rfl fun w0 S0 M => ?_
  refine CodeT.seq ?_
  refine CodeT.region (.p (opAssign .cf) rfl <| .nil ?_)
  refine EndT.thenN ?_
  refine CodeT.seq ?_
  refine CodeT.region (.p (opMove (.t rfl)) rfl <| .p (opCall (find_spec) Try.cb11 (.cons (.t rfl) .nil)) rfl <| .p (opMove (.t rfl)) rfl <| .p (opExtract (.t rfl) rfl) rfl <| .p (opExtract (.t rfl) rfl) rfl <| .n (opAlloc Try.zb31) rfl <| fun b5 _ => .s (opStoreOA (i := 0) Try.cz31 rfl (.t rfl) (.t rfl) rfl rfl rfl) <| .p (opAssign (.t rfl)) rfl <| .nil ?_)
  refine EndT.thenN ?_
  refine CodeT.share (t := 5) (i := 0) rfl rfl ?_
  refine CodeT.seq ?_
  refine CodeT.region (.p (opMove (.t rfl)) rfl <| .p (opCall (find_spec) Try.cb11 (.cons (.t rfl) .nil)) rfl <| .p (opMove (.t rfl)) rfl <| .p (opExtract (.t rfl) rfl) rfl <| .p (opExtract (.t rfl) rfl) rfl <| .n (opAlloc Try.zb31) rfl <| fun b7 _ => .s (opStoreOA (i := 0) Try.cz31 rfl (.t rfl) (.t rfl) rfl rfl rfl) <| .p (opAssign (.t rfl)) rfl <| .nil ?_)
  refine EndT.thenN ?_
  refine CodeT.share (t := 7) (i := 0) rfl rfl ?_
  refine CodeT.seq ?_
  refine CodeT.seq ?_
  refine CodeT.region (.p (opMove (.t rfl)) rfl <| .p (opNot (.t rfl)) rfl <| .p (opMove (.t rfl)) rfl <| .g (OpG.gF rfl rfl rfl rfl (fun hg => opMove (.t rfl))) rfl rfl <| .g (OpG.gF rfl rfl rfl rfl (fun hg => opNot (.when (.t rfl) hg))) rfl rfl <| .p (opOr (.t rfl) (.t rfl)) rfl <| .nil ?_)
  refine EndT.thenN ?_
  refine CodeT.cond (.t rfl) (fun c0 => ?_) (fun c0 => ?_)
  ·
    refine CodeT.seq ?_
    refine CodeT.region (.p (opMove (.t rfl)) rfl <| .p (opMove (.t rfl)) rfl <| .g (OpG.gF rfl rfl rfl rfl (fun hg => opField Try.fd31_1 (.t rfl))) rfl rfl <| .g (OpG.gF rfl rfl rfl rfl (fun hg => opLoad Try.ag9 (.when (.t rfl) hg))) rfl rfl <| .g (OpG.gF rfl rfl rfl rfl (fun hg => opEqlS (.when (.t rfl) hg) (.s [] rfl rfl))) rfl rfl <| .p (opOr (.t rfl) (.t rfl)) rfl <| .p (opMove (.t rfl)) rfl <| .g (OpG.gT rfl rfl rfl rfl (fun hg => opMove (.t rfl))) rfl rfl <| .g (OpG.gT rfl rfl rfl rfl (fun hg => opMove (.when (.t rfl) hg))) rfl rfl <| .g (OpG.hF rfl rfl rfl rfl (fun hg => opField Try.fd31_1 (.t rfl))) rfl rfl <| .g (OpG.hF rfl rfl rfl rfl (fun hg => opLoad Try.ag9 (.when (.t rfl) hg))) rfl rfl <| .g (OpG.hF rfl rfl rfl rfl (fun hg => opEqlS (.when (.t rfl) hg) (.s [] rfl rfl))) rfl rfl <| .g (OpG.gT rfl rfl rfl rfl (fun hg => opOr (.when (.t rfl) hg) (.under (.t rfl) hg))) rfl rfl <| .p (opAnd (.t rfl) (.t rfl)) rfl <| .p (opMove (.t rfl)) rfl <| .g (OpG.gT rfl rfl rfl rfl (fun hg => opCall (awake10_spec) Try.cb10 .nil)) rfl rfl <| .p (opAnd (.t rfl) (.t rfl)) rfl <| .p (opAssign (.t rfl)) rfl <| .nil ?_)
    refine EndT.thenN ?_
    refine CodeT.ret (EndT.thenR (Post.retP rfl rfl ?_))
    exact VLe.prop ⟨fun _ => trivial, fun _ => ⟨⟨by cases findI a <;> simp [zeroI], by cases findI b <;> simp [zeroI]⟩, trivial⟩⟩
  ·
    obtain ⟨x, hx⟩ := Option.isSome_iff_exists.1 (show (findI a).isSome = true from Classical.byContradiction fun h => c0 (.inl h))
    obtain ⟨y, hy⟩ := Option.isSome_iff_exists.1 (show (findI b).isSome = true from Classical.byContradiction fun h => c0 (.inr h))
    have hnx := named_find hx
    have hcx := find_code hx
    have hap := apart hx hy
    simp only [hx, hy, Option.getD_some]
    refine CodeT.skip (EndT.thenN ?_)
    refine CodeT.seq ?_
    refine CodeT.region (.p (opField Try.fd31_1 (.t rfl)) rfl <| .p (opLoad Try.ag9 (.t rfl)) rfl <| .p (opCall (named_spec) Try.cb15 (.cons (.t rfl) .nil)) rfl <| .p (opMove (.t rfl)) rfl <| .p (opExtract (.t rfl) rfl) rfl <| .p (opExtract (.t rfl) rfl) rfl <| .n (opAlloc Try.zb31) rfl <| fun b9 _ => .s (opStoreOA (i := 0) Try.cz31 rfl (.t rfl) (.t rfl) rfl rfl rfl) <| .p (opAssign (.t rfl)) rfl <| .nil ?_)
    refine EndT.thenN ?_
    refine CodeT.share (t := 9) (i := 0) rfl rfl ?_
    simp only [hnx, Option.getD_some]
    refine CodeT.seq ?_
    refine CodeT.region (.p (opMove (.t rfl)) rfl <| .p (opMove (.t rfl)) rfl <| .g (OpG.gT rfl rfl rfl rfl (fun hg => opField Try.fd31_0 (.t rfl))) rfl rfl <| .g (OpG.gT rfl rfl rfl rfl (fun hg => opLoad Try.ag3 (.when (.t rfl) hg))) rfl rfl <| .g (OpG.gT rfl rfl rfl rfl (fun hg => opMove (.t rfl))) rfl rfl <| .g (OpG.gT rfl rfl rfl rfl (fun hg => opEql (.when (.t rfl) hg) (.when (.t rfl) hg))) rfl rfl <| .p (opAnd (.t rfl) (.t rfl)) rfl <| .p (opMove (.t rfl)) rfl <| .g (OpG.gT rfl rfl rfl rfl (fun hg => opField Try.fd31_0 (.t rfl))) rfl rfl <| .g (OpG.gT rfl rfl rfl rfl (fun hg => opLoad Try.ag3 (.when (.t rfl) hg))) rfl rfl <| .g (OpG.gT rfl rfl rfl rfl (fun hg => opMove (.t rfl))) rfl rfl <| .g (OpG.gT rfl rfl rfl rfl (fun hg => opEql (.when (.t rfl) hg) (.when (.t rfl) hg))) rfl rfl <| .p (opAnd (.t rfl) (.t rfl)) rfl <| .p (opMove (.t rfl)) rfl <| .g (OpG.gT rfl rfl rfl rfl (fun hg => opField Try.fd31_1 (.t rfl))) rfl rfl <| .g (OpG.gT rfl rfl rfl rfl (fun hg => opLoad Try.ag9 (.when (.t rfl) hg))) rfl rfl <| .g (OpG.gT rfl rfl rfl rfl (fun hg => opField Try.fd31_1 (.t rfl))) rfl rfl <| .g (OpG.gT rfl rfl rfl rfl (fun hg => opLoad Try.ag9 (.when (.t rfl) hg))) rfl rfl <| .g (OpG.gT rfl rfl rfl rfl (fun hg => opEqlS (.when (.t rfl) hg) (.when (.t rfl) hg))) rfl rfl <| .g (OpG.gT rfl rfl rfl rfl (fun hg => opMove (.t rfl))) rfl rfl <| .g (OpG.gT rfl rfl rfl rfl (fun hg => opMove (.t rfl))) rfl rfl <| .g (OpG.gT rfl rfl rfl rfl (fun hg => opEql (.when (.t rfl) hg) (.when (.t rfl) hg))) rfl rfl <| .g (OpG.gT rfl rfl rfl rfl (fun hg => opEqlB Try.underlying4 (.when (.t rfl) hg) (.when (.t rfl) hg))) rfl rfl <| .p (opAnd (.t rfl) (.t rfl)) rfl <| .p (opMove (.t rfl)) rfl <| .g (OpG.gT rfl rfl rfl rfl (fun hg => opCall (awake10_spec) Try.cb10 .nil)) rfl rfl <| .p (opAnd (.t rfl) (.t rfl)) rfl <| .p (opAssign (.t rfl)) rfl <| .nil ?_)
    refine EndT.thenN ?_
    refine CodeT.ret (Post.retP rfl rfl ?_)
    exact VLe.prop ⟨fun _ => trivial, fun _ => ⟨⟨⟨⟨by simp, hcx⟩, hcx⟩, hap⟩, trivial⟩⟩

set_option maxHeartbeats 1000000 in
theorem OpFinds_spec {code : Int} : FnP Try.prog 7 [intV .i64 code] (propV True) := by
  refine FnE.intro 110 Try.func7 rfl rfl rfl fun w0 S0 M => ?_
  have h1 := @find_iff code
  have h2 := foreign_iff code
  obtain ⟨h3, h4⟩ := width_iff code
  obtain ⟨h5, h6⟩ := takes_len code
  refine CodeT.seq ?_
  refine CodeT.region (.p (opAssign .cf) rfl <| .nil ?_)
  refine EndT.thenN ?_
  refine CodeT.seq ?_
  refine CodeT.region (.p (opMove (.t rfl)) rfl <| .p (opCall (find_spec) Try.cb11 (.cons (.t rfl) .nil)) rfl <| .p (opMove (.t rfl)) rfl <| .p (opExtract (.t rfl) rfl) rfl <| .p (opExtract (.t rfl) rfl) rfl <| .n (opAlloc Try.zb31) rfl <| fun b3 _ => .s (opStoreOA (i := 0) Try.cz31 rfl (.t rfl) (.t rfl) rfl rfl rfl) <| .p (opAssign (.t rfl)) rfl <| .nil ?_)
  refine EndT.thenN ?_
  refine CodeT.share (t := 3) (i := 0) rfl rfl ?_
  refine CodeT.seq ?_
  refine CodeT.region (.p (opMove (.t rfl)) rfl <| .p (opCall (rname_spec) Try.cb9 (.cons (.t rfl) .nil)) rfl <| .p (opAssign (.t rfl)) rfl <| .nil ?_)
  refine EndT.thenN ?_
  refine CodeT.seq ?_
  refine CodeT.region (.p (opMove (.t rfl)) rfl <| .p (opCall (width_spec) Try.cb16 (.cons (.t rfl) .nil)) rfl <| .p (opMove (.t rfl)) rfl <| .p (opExtract (.t rfl) rfl) rfl <| .p (opExtract (.t rfl) rfl) rfl <| .p (opAssign (.t rfl)) rfl <| .p (opAssign (.t rfl)) rfl <| .nil ?_)
  refine EndT.thenN ?_
  refine CodeT.seq ?_
  refine CodeT.region (.p (opMove (.t rfl)) rfl <| .p (opCall (rwidth_spec) Try.cb17 (.cons (.t rfl) .nil)) rfl <| .p (opAssign (.t rfl)) rfl <| .nil ?_)
  refine EndT.thenN ?_
  refine CodeT.seq ?_
  refine CodeT.seq ?_
  refine CodeT.region (.p (opMove (.t rfl)) rfl <| .p (opMove (.t rfl)) rfl <| .p (opNeqS (.t rfl) (.s [] rfl rfl)) rfl <| .p (opNeqB Try.underlying4 (.t rfl) (.t rfl)) rfl <| .p (opMove (.t rfl)) rfl <| .g (OpG.gF rfl rfl rfl rfl (fun hg => opMove (.t rfl))) rfl rfl <| .g (OpG.gF rfl rfl rfl rfl (fun hg => opCall (foreignP_spec) Try.cb18 (.cons (.when (.t rfl) hg) .nil))) rfl rfl <| .g (OpG.gF rfl rfl rfl rfl (fun hg => opMove (.t rfl))) rfl rfl <| .g (OpG.gF rfl rfl rfl rfl (fun hg => opCall (rforeign_spec) Try.cb19 (.cons (.when (.t rfl) hg) .nil))) rfl rfl <| .g (OpG.gF rfl rfl rfl rfl (fun hg => opNeqB Try.underlying4 (.when (.t rfl) hg) (.when (.t rfl) hg))) rfl rfl <| .p (opOr (.t rfl) (.t rfl)) rfl <| .p (opMove (.t rfl)) rfl <| .g (OpG.gF rfl rfl rfl rfl (fun hg => opMove (.t rfl))) rfl rfl <| .g (OpG.gF rfl rfl rfl rfl (fun hg => opMove (.t rfl))) rfl rfl <| .g (OpG.gF rfl rfl rfl rfl (fun hg => opNeq (.when (.t rfl) hg) (.when (.t rfl) hg))) rfl rfl <| .p (opOr (.t rfl) (.t rfl)) rfl <| .p (opMove (.t rfl)) rfl <| .g (OpG.gF rfl rfl rfl rfl (fun hg => opMove (.t rfl))) rfl rfl <| .g (OpG.gF rfl rfl rfl rfl (fun hg => opMove (.t rfl))) rfl rfl <| .g (OpG.gF rfl rfl rfl rfl (fun hg => opGtr (.when (.t rfl) hg) (.c _))) rfl rfl <| .g (OpG.gF rfl rfl rfl rfl (fun hg => opNeqB Try.underlying4 (.when (.t rfl) hg) (.when (.t rfl) hg))) rfl rfl <| .p (opOr (.t rfl) (.t rfl)) rfl <| .p (opMove (.t rfl)) rfl <| .g (OpG.gF rfl rfl rfl rfl (fun hg => opMove (.t rfl))) rfl rfl <| .g (OpG.gF rfl rfl rfl rfl (fun hg => opMove (.when (.t rfl) hg))) rfl rfl <| .g (OpG.hT rfl rfl rfl rfl (fun hg => opMove (.t rfl))) rfl rfl <| .g (OpG.hT rfl rfl rfl rfl (fun hg => opCall (foreignP_spec) Try.cb18 (.cons (.when (.t rfl) hg) .nil))) rfl rfl <| .g (OpG.gF rfl rfl rfl rfl (fun hg => opAnd (.when (.t rfl) hg) (.under (.t rfl) hg))) rfl rfl <| .p (opOr (.t rfl) (.t rfl)) rfl <| .nil ?_)
  refine EndT.thenN ?_
  refine CodeT.cond (.t rfl) (fun c0 => ?_) (fun c0 => ?_)
  ·
    exfalso
    cases hf : findI code with
    | none => rw [hf] at c0 h1; simp at c0 h1; grind
    | some x => have hs := find_some_of hf; rw [hf] at c0 h1; simp at c0 h1; grind
  ·
    refine CodeT.skip (EndT.thenN ?_)
    refine CodeT.seq ?_
    refine CodeT.seq ?_
    refine CodeT.region (.p (opMove (.t rfl)) rfl <| .p (opNot (.t rfl)) rfl <| .nil ?_)
    refine EndT.thenN ?_
    refine CodeT.cond (.t rfl) (fun c1 => ?_) (fun c1 => ?_)
    ·
      have hf : findI code = none := by simpa using c1
      simp only [hf, Option.getD_none]
      refine CodeT.seq ?_
      refine CodeT.region (.p (opField Try.fd31_1 (.t rfl)) rfl <| .p (opLoad Try.ag9 (.t rfl)) rfl <| .p (opEqlS (.t rfl) (.s [] rfl rfl)) rfl <| .p (opMove (.t rfl)) rfl <| .g (OpG.gT rfl rfl rfl rfl (fun hg => opField Try.fd31_0 (.t rfl))) rfl rfl <| .g (OpG.gT rfl rfl rfl rfl (fun hg => opLoad Try.ag3 (.when (.t rfl) hg))) rfl rfl <| .g (OpG.gT rfl rfl rfl rfl (fun hg => opEql (.when (.t rfl) hg) (.c _))) rfl rfl <| .p (opAnd (.t rfl) (.t rfl)) rfl <| .p (opMove (.t rfl)) rfl <| .g (OpG.gT rfl rfl rfl rfl (fun hg => opField Try.fd31_3 (.t rfl))) rfl rfl <| .g (OpG.gT rfl rfl rfl rfl (fun hg => opLoad Try.ag29 (.when (.t rfl) hg))) rfl rfl <| .g (OpG.gT rfl rfl rfl rfl (fun hg => opLen rfl Try.underlying29 (.when (.t rfl) hg))) rfl rfl <| .g (OpG.gT rfl rfl rfl rfl (fun hg => opEql (.when (.t rfl) hg) (.c _))) rfl rfl <| .p (opAnd (.t rfl) (.t rfl)) rfl <| .p (opMove (.t rfl)) rfl <| .g (OpG.gT rfl rfl rfl rfl (fun hg => opCall (awake10_spec) Try.cb10 .nil)) rfl rfl <| .p (opAnd (.t rfl) (.t rfl)) rfl <| .p (opAssign (.t rfl)) rfl <| .nil ?_)
      refine EndT.thenN ?_
      refine CodeT.ret (EndT.thenR (Post.retP rfl rfl ?_))
      exact VLe.prop ⟨fun _ => trivial, fun _ => ⟨⟨⟨rfl, rfl⟩, rfl⟩, trivial⟩⟩
    ·
      obtain ⟨x, hf⟩ := Option.isSome_iff_exists.1 (Classical.not_not.1 c1)
      obtain ⟨g1, g2, g3, g4, g5, g6, g7⟩ := find_some_of hf
      simp only [hf, Option.getD_some]
      refine CodeT.skip (EndT.thenN ?_)
      refine CodeT.seq ?_
      refine CodeT.region (.p (opMove (.t rfl)) rfl <| .p (opCall (rtakes_spec) Try.cb13 (.cons (.t rfl) .nil)) rfl <| .p (opMove (.t rfl)) rfl <| .p (opExtract (.t rfl) rfl) rfl <| .p (opExtract (.t rfl) rfl) rfl <| .p (opAssign (.t rfl)) rfl <| .p (opAssign (.t rfl)) rfl <| .nil ?_)
      refine EndT.thenN ?_
      refine CodeT.seq ?_
      refine CodeT.draw 27 6 Try.mixed (by kernel_rfl) (.p (opField Try.fd31_0 (.t rfl)) <| .p (opLoad Try.ag3 (.t rfl)) <| .p (opMove (.t rfl)) <| .p (opEql (.t rfl) (.t rfl)) <| .p (opMove (.t rfl)) <| .cons (OpG.gT rfl rfl rfl rfl (fun hg => opField Try.fd31_1 (.t rfl))) <| .cons (OpG.gT rfl rfl rfl rfl (fun hg => opLoad Try.ag9 (.when (.t rfl) hg))) <| .cons (OpG.gT rfl rfl rfl rfl (fun hg => opMove (.t rfl))) <| .cons (OpG.gT rfl rfl rfl rfl (fun hg => opEqlS (.when (.t rfl) hg) (.when (.t rfl) hg))) <| .p (opAnd (.t rfl) (.t rfl)) <| .p (opMove (.t rfl)) <| .cons (OpG.gT rfl rfl rfl rfl (fun hg => opField Try.fd31_2 (.t rfl))) <| .cons (OpG.gT rfl rfl rfl rfl (fun hg => opLoad Try.ag3 (.when (.t rfl) hg))) <| .cons (OpG.gT rfl rfl rfl rfl (fun hg => opMove (.t rfl))) <| .cons (OpG.gT rfl rfl rfl rfl (fun hg => opCall (rform_spec) Try.cb20 (.cons (.when (.t rfl) hg) .nil))) <| .cons (OpG.gT rfl rfl rfl rfl (fun hg => opEql (.when (.t rfl) hg) (.when (.t rfl) hg))) <| .p (opAnd (.t rfl) (.t rfl)) <| .p (opMove (.t rfl)) <| .cons (OpG.gT rfl rfl rfl rfl (fun hg => opField Try.fd31_3 (.t rfl))) <| .cons (OpG.gT rfl rfl rfl rfl (fun hg => opLoad Try.ag29 (.when (.t rfl) hg))) <| .cons (OpG.gT rfl rfl rfl rfl (fun hg => opMove (.t rfl))) <| .cons (OpG.gT rfl rfl rfl rfl (fun hg => opCall (lsame_spec (by omega)) Try.cb14 (.cons (.when (.t rfl) hg) (.cons (.when (.t rfl) hg) .nil)))) <| .p (opAnd (.t rfl) (.t rfl)) <| .p (opMove (.t rfl)) <| .cons (OpG.gT rfl rfl rfl rfl (fun hg => opField Try.fd31_4 (.t rfl))) <| .cons (OpG.gT rfl rfl rfl rfl (fun hg => opLoad Try.ag29 (.when (.t rfl) hg))) <| .cons (OpG.gT rfl rfl rfl rfl (fun hg => opMove (.t rfl))) <| .nil) (.g (OpG.gT rfl rfl rfl rfl (fun hg => opCall (lsame_spec (by omega)) Try.cb14 (.cons (.when (.t rfl) hg) (.cons (.when (.t rfl) hg) .nil)))) rfl rfl <| .p (opAnd (.t rfl) (.t rfl)) rfl <| .p (opMove (.t rfl)) rfl <| .g (OpG.gT rfl rfl rfl rfl (fun hg => opCall (awake10_spec) Try.cb10 .nil)) rfl rfl <| .p (opAnd (.t rfl) (.t rfl)) rfl <| .p (opAssign (.t rfl)) rfl <| .nil ?_)
      refine EndT.thenN ?_
      refine CodeT.ret (Post.retP rfl rfl ?_)
      exact VLe.prop ⟨fun _ => trivial, fun _ => ⟨⟨⟨⟨⟨g1, g2⟩, g4⟩, g5⟩, g6⟩, trivial⟩⟩

set_option maxHeartbeats 1000000 in
theorem OpNames_spec {l : List UInt8} {k : Int} : FnP Try.prog 5 [strV l, intV .i64 k] (propV True) := by
  refine FnE.intro 138 Try.func5 rfl rfl rfl fun w0 S0 M => ?_
  have hal := all_len
  have hfe := found_end l
  have hz : findI zeroI.Code = findI 0 := rfl
  refine CodeT.seq ?_
  refine CodeT.region (.p (opAssign .cf) rfl <| .nil ?_)
  refine EndT.thenN ?_
  refine CodeT.seq ?_
  refine CodeT.seq ?_
  refine CodeT.region (.p (opMove (.t rfl)) rfl <| .p (opLenS rfl Try.underlying9 (.t rfl)) rfl <| .p (opGtr (.t rfl) (.c _)) rfl <| .nil ?_)
  refine EndT.thenN ?_
  refine CodeT.cond (.t rfl) (fun c0 => ?_) (fun c0 => ?_)
  ·
    refine CodeT.seq ?_
    refine CodeT.region (.p (opCall (awake10_spec) Try.cb10 .nil) rfl <| .p (opAssign (.t rfl)) rfl <| .nil ?_)
    refine EndT.thenN ?_
    refine CodeT.ret (EndT.thenR (Post.retP rfl rfl ?_))
    exact VLe.refl _
  ·
    refine CodeT.skip (EndT.thenN ?_)
    refine CodeT.seq ?_
    refine CodeT.region (.p (opMove (.t rfl)) rfl <| .p (opCall (named_spec) Try.cb15 (.cons (.t rfl) .nil)) rfl <| .p (opMove (.t rfl)) rfl <| .p (opExtract (.t rfl) rfl) rfl <| .p (opExtract (.t rfl) rfl) rfl <| .n (opAlloc Try.zb31) rfl <| fun b5 _ => .s (opStoreOA (i := 0) Try.cz31 rfl (.t rfl) (.t rfl) rfl rfl rfl) <| .p (opAssign (.t rfl)) rfl <| .nil ?_)
    refine EndT.thenN ?_
    refine CodeT.share (t := 5) (i := 0) rfl rfl ?_
    refine CodeT.seq ?_
    refine CodeT.region (.p (opField Try.fd31_0 (.t rfl)) rfl <| .p (opLoad Try.ag3 (.t rfl)) rfl <| .p (opCall (find_spec) Try.cb11 (.cons (.t rfl) .nil)) rfl <| .p (opMove (.t rfl)) rfl <| .p (opExtract (.t rfl) rfl) rfl <| .p (opExtract (.t rfl) rfl) rfl <| .n (opAlloc Try.zb31) rfl <| fun b7 _ => .s (opStoreOA (i := 0) Try.cz31 rfl (.t rfl) (.t rfl) rfl rfl rfl) <| .p (opAssign (.t rfl)) rfl <| .nil ?_)
    refine EndT.thenN ?_
    refine CodeT.share (t := 7) (i := 0) rfl rfl ?_
    refine CodeT.seq ?_
    refine CodeT.seq ?_
    refine CodeT.region (.p (opMove (.t rfl)) rfl <| .p (opMove (.t rfl)) rfl <| .g (OpG.gT rfl rfl rfl rfl (fun hg => opMove (.t rfl))) rfl rfl <| .g (OpG.gT rfl rfl rfl rfl (fun hg => opNot (.when (.t rfl) hg))) rfl rfl <| .g (OpG.gT rfl rfl rfl rfl (fun hg => opMove (.when (.t rfl) hg))) rfl rfl <| .g (OpG.hF rfl rfl rfl rfl (fun hg => opField Try.fd31_1 (.t rfl))) rfl rfl <| .g (OpG.hF rfl rfl rfl rfl (fun hg => opLoad Try.ag9 (.when (.t rfl) hg))) rfl rfl <| .g (OpG.hF rfl rfl rfl rfl (fun hg => opMove (.t rfl))) rfl rfl <| .g (OpG.hF rfl rfl rfl rfl (fun hg => opNeqS (.when (.t rfl) hg) (.when (.t rfl) hg))) rfl rfl <| .g (OpG.gT rfl rfl rfl rfl (fun hg => opOr (.when (.t rfl) hg) (.under (.t rfl) hg))) rfl rfl <| .p (opAnd (.t rfl) (.t rfl)) rfl <| .p (opMove (.t rfl)) rfl <| .g (OpG.gF rfl rfl rfl rfl (fun hg => opMove (.t rfl))) rfl rfl <| .g (OpG.gF rfl rfl rfl rfl (fun hg => opNot (.when (.t rfl) hg))) rfl rfl <| .g (OpG.gF rfl rfl rfl rfl (fun hg => opMove (.when (.t rfl) hg))) rfl rfl <| .g (OpG.hT rfl rfl rfl rfl (fun hg => opField Try.fd31_1 (.t rfl))) rfl rfl <| .g (OpG.hT rfl rfl rfl rfl (fun hg => opLoad Try.ag9 (.when (.t rfl) hg))) rfl rfl <| .g (OpG.hT rfl rfl rfl rfl (fun hg => opNeqS (.when (.t rfl) hg) (.s [] rfl rfl))) rfl rfl <| .g (OpG.gF rfl rfl rfl rfl (fun hg => opAnd (.when (.t rfl) hg) (.under (.t rfl) hg))) rfl rfl <| .p (opOr (.t rfl) (.t rfl)) rfl <| .nil ?_)
    refine EndT.thenN ?_
    refine CodeT.cond (.t rfl) (fun c1 => ?_) (fun c1 => ?_)
    ·
      exfalso
      cases hf : namedO l with
    | none => rw [hf] at c1; simp [zeroI] at c1
    | some x => have hm := named_mem hf; have h1 := mem_find hm.1; rw [hf] at c1; simp [h1, hm.2] at c1
    ·
      refine CodeT.skip (EndT.thenN ?_)
      refine CodeT.seq ?_
      refine CodeT.region (.p (opAssign (.c _)) rfl <| .nil ?_)
      refine EndT.thenN ?_
      refine CodeT.seq ?_
      refine CodeT.region (.p (opAssign (.c _)) rfl <| .nil ?_)
      refine EndT.thenN ?_
      refine CodeT.seq ?_
      refine CodeT.seq ?_
      refine CodeT.region (.p (opAssign (.c _)) rfl <| .nil ?_)
      refine EndT.thenN ?_
      refine CodeT.block ?_
      refine CodeT.loopO (σ := Nat) (fun _ => []) (fun i => [(11, intV .i64 (i : Int)), (9, intV .i64 (foundN l i).1), (10, intV .i64 (foundN l i).2)]) (fun i => i ≤ 199) (fun i => 199 - i) 0 (by omega) rfl ?_ ?_
      · exact (.get rfl (VLe.refl _) (.get rfl (VLe.of_eq rfl) (.get rfl (VLe.of_eq rfl) (.refl _ _))))
      · rintro i hi
        refine CodeT.seq ?_
        refine CodeT.seq ?_
        refine CodeT.region (.p (opMove (.t rfl)) rfl <| .p (opLss (.t rfl) (.c _)) rfl <| .nil ?_)
        refine EndT.thenN ?_
        refine CodeT.cond (.t rfl) (fun c2 => ?_) (fun c2 => ?_)
        ·
          have hci := codes_at (k := i) (by omega)
          have hsn := @foundN_snoc l i _ hci
          have hfb := fold_bounds l i
          refine CodeT.skip (EndT.thenN ?_)
          refine CodeT.seq ?_
          refine CodeT.block ?_
          refine CodeT.seq ?_
          refine CodeT.region (.p (opMove (.t rfl)) rfl <| .p (opAssign (.t rfl)) rfl <| .nil ?_)
          refine EndT.thenN ?_
          refine CodeT.seq ?_
          refine CodeT.seq ?_
          refine CodeT.region (.p (opMove (.t rfl)) rfl <| .p (opGtr (.t rfl) (.c _)) rfl <| .nil ?_)
          refine EndT.thenN ?_
          refine CodeT.cond (.t rfl) (fun c3 => ?_) (fun c3 => ?_)
          ·
            rw [if_pos (by omega)] at hsn
            refine CodeT.region (.p (opMove (.t rfl)) rfl <| .p (opAddF (.c _) (.t rfl) (fits_i64 (by omega) (by omega))) rfl <| .p (opSubF (.t rfl) (.c _) (fits_i64 (by omega) (by omega))) rfl <| .p (opAssign (.t rfl)) rfl <| .nil ?_)
            refine EndT.thenN ?_
            refine CodeT.seq ?_
            refine CodeT.region (.p (opMove (.t rfl)) rfl <| .p (opCall (rname_spec) Try.cb9 (.cons (.t rfl) .nil)) rfl <| .p (opAssign (.t rfl)) rfl <| .nil ?_)
            refine EndT.thenN ?_
            refine CodeT.seq ?_
            refine CodeT.seq ?_
            refine CodeT.region (.p (opMove (.t rfl)) rfl <| .p (opEqlS (.t rfl) (.s [] rfl rfl)) rfl <| .nil ?_)
            refine EndT.thenN ?_
            refine CodeT.cond (.t rfl) (fun c4 => ?_) (fun c4 => ?_)
            ·
              unfold stepN at hsn; rw [if_pos c4] at hsn
              refine CodeT.exit (EndT.thenX (EndT.blkX (EndT.thenN ?_)))
              refine CodeT.region (.p (opMove (.t rfl)) rfl <| .p (opAddF (.t rfl) (.c _) (fits_i64 (by omega) (by omega))) rfl <| .p (opAssign (.t rfl)) rfl <| .nil ?_)
              refine EndT.round (i + 1) (by omega) (by omega) rfl ?_
              exact (.get rfl (VLe.int (by omega)) (.get rfl (VLe.int (by rw [hsn])) (.get rfl (VLe.int (by rw [hsn])) (.keep 21 rfl rfl))))
            ·
              unfold stepN at hsn; rw [if_neg c4] at hsn
              refine CodeT.skip (EndT.thenN ?_)
              refine CodeT.seq ?_
              refine CodeT.seq ?_
              refine CodeT.region (.p (opMove (.t rfl)) rfl <| .p (opMove (.t rfl)) rfl <| .p (opEqlS (.t rfl) (.t rfl)) rfl <| .nil ?_)
              refine EndT.thenN ?_
              refine CodeT.cond (.t rfl) (fun c5 => ?_) (fun c5 => ?_)
              ·
                simp only [if_pos c5] at hsn
                refine CodeT.region (.p (opMove (.t rfl)) rfl <| .p (opAssign (.t rfl)) rfl <| .nil ?_)
                refine EndT.thenN ?_
                refine CodeT.region (.p (opMove (.t rfl)) rfl <| .p (opAddF (.t rfl) (.c _) (fits_i64 (by omega) (by omega))) rfl <| .p (opAssign (.t rfl)) rfl <| .nil ?_)
                refine EndT.blkN (EndT.thenN ?_)
                refine CodeT.region (.p (opMove (.t rfl)) rfl <| .p (opAddF (.t rfl) (.c _) (fits_i64 (by omega) (by omega))) rfl <| .p (opAssign (.t rfl)) rfl <| .nil ?_)
                refine EndT.round (i + 1) (by omega) (by omega) rfl ?_
                exact (.get rfl (VLe.int (by omega)) (.get rfl (VLe.int (by rw [hsn])) (.get rfl (VLe.int (by rw [hsn])) (.keep 29 rfl rfl))))
              ·
                simp only [if_neg c5] at hsn
                refine CodeT.skip (EndT.thenN ?_)
                refine CodeT.region (.p (opMove (.t rfl)) rfl <| .p (opAddF (.t rfl) (.c _) (fits_i64 (by omega) (by omega))) rfl <| .p (opAssign (.t rfl)) rfl <| .nil ?_)
                refine EndT.blkN (EndT.thenN ?_)
                refine CodeT.region (.p (opMove (.t rfl)) rfl <| .p (opAddF (.t rfl) (.c _) (fits_i64 (by omega) (by omega))) rfl <| .p (opAssign (.t rfl)) rfl <| .nil ?_)
                refine EndT.round (i + 1) (by omega) (by omega) rfl ?_
                exact (.get rfl (VLe.int (by omega)) (.get rfl (VLe.int (by rw [hsn])) (.get rfl (VLe.int (by rw [hsn])) (.keep 27 rfl rfl))))
          ·
            rw [if_neg (by omega)] at hsn
            refine CodeT.skip (EndT.thenN ?_)
            refine CodeT.seq ?_
            refine CodeT.region (.p (opMove (.t rfl)) rfl <| .p (opCall (rname_spec) Try.cb9 (.cons (.t rfl) .nil)) rfl <| .p (opAssign (.t rfl)) rfl <| .nil ?_)
            refine EndT.thenN ?_
            refine CodeT.seq ?_
            refine CodeT.seq ?_
            refine CodeT.region (.p (opMove (.t rfl)) rfl <| .p (opEqlS (.t rfl) (.s [] rfl rfl)) rfl <| .nil ?_)
            refine EndT.thenN ?_
            refine CodeT.cond (.t rfl) (fun c6 => ?_) (fun c6 => ?_)
            ·
              unfold stepN at hsn; rw [if_pos c6] at hsn
              refine CodeT.exit (EndT.thenX (EndT.blkX (EndT.thenN ?_)))
              refine CodeT.region (.p (opMove (.t rfl)) rfl <| .p (opAddF (.t rfl) (.c _) (fits_i64 (by omega) (by omega))) rfl <| .p (opAssign (.t rfl)) rfl <| .nil ?_)
              refine EndT.round (i + 1) (by omega) (by omega) rfl ?_
              exact (.get rfl (VLe.int (by omega)) (.get rfl (VLe.int (by rw [hsn])) (.get rfl (VLe.int (by rw [hsn])) (.keep 17 rfl rfl))))
            ·
              unfold stepN at hsn; rw [if_neg c6] at hsn
              refine CodeT.skip (EndT.thenN ?_)
              refine CodeT.seq ?_
              refine CodeT.seq ?_
              refine CodeT.region (.p (opMove (.t rfl)) rfl <| .p (opMove (.t rfl)) rfl <| .p (opEqlS (.t rfl) (.t rfl)) rfl <| .nil ?_)
              refine EndT.thenN ?_
              refine CodeT.cond (.t rfl) (fun c7 => ?_) (fun c7 => ?_)
              ·
                simp only [if_pos c7] at hsn
                refine CodeT.region (.p (opMove (.t rfl)) rfl <| .p (opAssign (.t rfl)) rfl <| .nil ?_)
                refine EndT.thenN ?_
                refine CodeT.region (.p (opMove (.t rfl)) rfl <| .p (opAddF (.t rfl) (.c _) (fits_i64 (by omega) (by omega))) rfl <| .p (opAssign (.t rfl)) rfl <| .nil ?_)
                refine EndT.blkN (EndT.thenN ?_)
                refine CodeT.region (.p (opMove (.t rfl)) rfl <| .p (opAddF (.t rfl) (.c _) (fits_i64 (by omega) (by omega))) rfl <| .p (opAssign (.t rfl)) rfl <| .nil ?_)
                refine EndT.round (i + 1) (by omega) (by omega) rfl ?_
                exact (.get rfl (VLe.int (by omega)) (.get rfl (VLe.int (by rw [hsn])) (.get rfl (VLe.int (by rw [hsn])) (.keep 25 rfl rfl))))
              ·
                simp only [if_neg c7] at hsn
                refine CodeT.skip (EndT.thenN ?_)
                refine CodeT.region (.p (opMove (.t rfl)) rfl <| .p (opAddF (.t rfl) (.c _) (fits_i64 (by omega) (by omega))) rfl <| .p (opAssign (.t rfl)) rfl <| .nil ?_)
                refine EndT.blkN (EndT.thenN ?_)
                refine CodeT.region (.p (opMove (.t rfl)) rfl <| .p (opAddF (.t rfl) (.c _) (fits_i64 (by omega) (by omega))) rfl <| .p (opAssign (.t rfl)) rfl <| .nil ?_)
                refine EndT.round (i + 1) (by omega) (by omega) rfl ?_
                exact (.get rfl (VLe.int (by omega)) (.get rfl (VLe.int (by rw [hsn])) (.get rfl (VLe.int (by rw [hsn])) (.keep 23 rfl rfl))))
        ·
          have hie : i = 199 := by omega
          subst hie
          rw [hfe.1]
          refine CodeT.exit (EndT.thenX (EndT.thenX (EndT.blkX (EndT.thenN ?_))))
          refine CodeT.seq ?_
          refine CodeT.region (.p (opCall (all_spec) Try.cb12 .nil) rfl <| .p (opAssign (.t rfl)) rfl <| .nil ?_)
          refine EndT.thenN ?_
          refine CodeT.seq ?_
          refine CodeT.seq ?_
          refine CodeT.region (.p (opMove (.t rfl)) rfl <| .p (opLen rfl Try.underlying35 (.t rfl)) rfl <| .p (opMove (.t rfl)) rfl <| .p (opNeq (.t rfl) (.t rfl)) rfl <| .p (opMove (.t rfl)) rfl <| .g (OpG.gF rfl rfl rfl rfl (fun hg => opMove (.t rfl))) rfl rfl <| .g (OpG.gF rfl rfl rfl rfl (fun hg => opMove (.t rfl))) rfl rfl <| .g (OpG.gF rfl rfl rfl rfl (fun hg => opGeq (.when (.t rfl) hg) (.c _))) rfl rfl <| .g (OpG.gF rfl rfl rfl rfl (fun hg => opNeqB Try.underlying4 (.when (.t rfl) hg) (.when (.t rfl) hg))) rfl rfl <| .p (opOr (.t rfl) (.t rfl)) rfl <| .p (opMove (.t rfl)) rfl <| .g (OpG.gF rfl rfl rfl rfl (fun hg => opMove (.t rfl))) rfl rfl <| .g (OpG.gF rfl rfl rfl rfl (fun hg => opMove (.when (.t rfl) hg))) rfl rfl <| .g (OpG.hT rfl rfl rfl rfl (fun hg => opField Try.fd31_0 (.t rfl))) rfl rfl <| .g (OpG.hT rfl rfl rfl rfl (fun hg => opLoad Try.ag3 (.when (.t rfl) hg))) rfl rfl <| .g (OpG.hT rfl rfl rfl rfl (fun hg => opMove (.t rfl))) rfl rfl <| .g (OpG.hT rfl rfl rfl rfl (fun hg => opNeq (.when (.t rfl) hg) (.when (.t rfl) hg))) rfl rfl <| .g (OpG.gF rfl rfl rfl rfl (fun hg => opAnd (.when (.t rfl) hg) (.under (.t rfl) hg))) rfl rfl <| .p (opOr (.t rfl) (.t rfl)) rfl <| .nil ?_)
          refine EndT.thenN ?_
          refine CodeT.cond (.t rfl) (fun c8 => ?_) (fun c8 => ?_)
          ·
            exfalso
            cases hf : namedO l with
      | none => rw [hf] at c8 hfe; simp only at hfe; simp [hfe.2] at c8
      | some x => rw [hf] at c8 hfe; simp only at hfe; simp [hfe.2.1, hfe.2.2] at c8
          ·
            refine CodeT.skip (EndT.thenN ?_)
            refine CodeT.seq ?_
            have hm0 := Int.emod_nonneg (IntKind.u64.wrap k) (Int.ne_of_gt (u64_len hal))
            have hm1 : IntKind.u64.wrap k % IntKind.u64.wrap (max (allT.length : Int) 1) < (allT.length : Int) := by have h := Int.emod_lt_of_pos (IntKind.u64.wrap k) (u64_len hal); rw [u64_len_eq hal] at h ⊢; exact h
            refine CodeT.region (.p (opMove (.t rfl)) rfl <| .p (opConv Try.underlying3 Try.underlying42 (.t rfl)) rfl <| .p (opMove (.t rfl)) rfl <| .p (opLen rfl Try.underlying35 (.t rfl)) rfl <| .p (opMax (.t rfl) (.c _)) rfl <| .p (opConv Try.underlying3 Try.underlying42 (.t rfl)) rfl <| .p (opRem (.t rfl) (.t rfl) (u64_nonneg _) (u64_len hal)) rfl <| .p (opConvF Try.underlying42 Try.underlying3 (.t rfl) (fits_i64 (by omega) (by omega))) rfl <| .p (opAssign (.t rfl)) rfl <| .nil ?_)
            refine EndT.thenN ?_
            refine CodeT.seq ?_
            generalize hj0 : IntKind.u64.wrap k % IntKind.u64.wrap (max (allT.length : Int) 1) = jj at hm0 hm1 ⊢
            obtain ⟨j, rfl⟩ : ∃ j : Nat, jj = (j : Int) := ⟨jj.toNat, by omega⟩
            obtain ⟨y, hy⟩ := getElem?_lt (xs := allT) (k := j) (by omega)
            obtain ⟨z, hz⟩ := getElem?_lt (xs := allT) (k := j - 1) (by omega)
            refine CodeT.draw 33 7 Try.mixed (by kernel_rfl) (.p (opMove (.t rfl)) <| .p (opMove (.t rfl)) <| .p (opLen rfl Try.underlying35 (.t rfl)) <| .p (opLss (.t rfl) (.t rfl)) <| .p (opMove (.t rfl)) <| .cons (OpG.gT rfl rfl rfl rfl (fun hg => opMove (.t rfl))) <| .cons (OpG.gT rfl rfl rfl rfl (fun hg => opMove (.t rfl))) <| .cons (OpG.gT rfl rfl rfl rfl (fun hg => opIndexAddr Try.underlying35 Try.cz31 rfl (.when (.t rfl) hg) (.when (.t rfl) hg) rfl hy)) <| .cons (OpG.gT rfl rfl rfl rfl (fun hg => opField Try.fd31_1 (.when (.t rfl) hg))) <| .cons (OpG.gT rfl rfl rfl rfl (fun hg => opLoad Try.ag9 (.when (.t rfl) hg))) <| .cons (OpG.gT rfl rfl rfl rfl (fun hg => opMove (.t rfl))) <| .cons (OpG.gT rfl rfl rfl rfl (fun hg => opMove (.t rfl))) <| .cons (OpG.gT rfl rfl rfl rfl (fun hg => opIndexAddr Try.underlying35 Try.cz31 rfl (.when (.t rfl) hg) (.when (.t rfl) hg) rfl hy)) <| .cons (OpG.gT rfl rfl rfl rfl (fun hg => opField Try.fd31_0 (.when (.t rfl) hg))) <| .cons (OpG.gT rfl rfl rfl rfl (fun hg => opLoad Try.ag3 (.when (.t rfl) hg))) <| .cons (OpG.gT rfl rfl rfl rfl (fun hg => opCall (rname_spec) Try.cb9 (.cons (.when (.t rfl) hg) .nil))) <| .cons (OpG.gT rfl rfl rfl rfl (fun hg => opEqlS (.when (.t rfl) hg) (.when (.t rfl) hg))) <| .p (opAnd (.t rfl) (.t rfl)) <| .p (opMove (.t rfl)) <| .cons (OpG.gT rfl rfl rfl rfl (fun hg => opMove (.t rfl))) <| .cons (OpG.gT rfl rfl rfl rfl (fun hg => opEql (.when (.t rfl) hg) (.c _))) <| .cons (OpG.gT rfl rfl rfl rfl (fun hg => opMove (.when (.t rfl) hg))) <| .cons (OpG.hF rfl rfl rfl rfl (fun hg => opMove (.t rfl))) <| .cons (OpG.hF rfl rfl rfl rfl (fun hg => opMove (.t rfl))) <| .cons (OpG.hF rfl rfl rfl rfl (fun hg => opSubF (.when (.t rfl) hg) (.c _) (fits_i64 (by omega) (by omega)))) <| .cons (OpG.hF rfl rfl rfl rfl (fun hg => opIndexAddr Try.underlying35 Try.cz31 rfl (.when (.t rfl) hg) (.when (.t rfl) hg) (show (j : Int) - 1 = ((j - 1 : Nat) : Int) by omega) hz)) <| .cons (OpG.hF rfl rfl rfl rfl (fun hg => opField Try.fd31_0 (.when (.t rfl) hg))) <| .cons (OpG.hF rfl rfl rfl rfl (fun hg => opLoad Try.ag3 (.when (.t rfl) hg))) <| .cons (OpG.hF rfl rfl rfl rfl (fun hg => opMove (.t rfl))) <| .cons (OpG.hF rfl rfl rfl rfl (fun hg => opMove (.t rfl))) <| .cons (OpG.hF rfl rfl rfl rfl (fun hg => opIndexAddr Try.underlying35 Try.cz31 rfl (.when (.t rfl) hg) (.when (.t rfl) hg) rfl hy)) <| .cons (OpG.hF rfl rfl rfl rfl (fun hg => opField Try.fd31_0 (.when (.t rfl) hg))) <| .cons (OpG.hF rfl rfl rfl rfl (fun hg => opLoad Try.ag3 (.when (.t rfl) hg))) <| .nil) (.g (OpG.hF rfl rfl rfl rfl (fun hg => opLss (.when (.t rfl) hg) (.when (.t rfl) hg))) rfl rfl <| .g (OpG.gT rfl rfl rfl rfl (fun hg => opOr (.when (.t rfl) hg) (.under (.t rfl) hg))) rfl rfl <| .p (opAnd (.t rfl) (.t rfl)) rfl <| .p (opMove (.t rfl)) rfl <| .g (OpG.gT rfl rfl rfl rfl (fun hg => opCall (awake10_spec) Try.cb10 .nil)) rfl rfl <| .p (opAnd (.t rfl) (.t rfl)) rfl <| .p (opAssign (.t rfl)) rfl <| .nil ?_)
            refine EndT.thenN ?_
            refine CodeT.ret (Post.retP rfl rfl ?_)
            exact VLe.prop ⟨fun _ => trivial, fun _ => ⟨⟨⟨by omega, all_name hy⟩, (Nat.eq_zero_or_pos j).elim (fun h => .inl (by omega)) (fun h => .inr (all_lt hz (by rwa [show j - 1 + 1 = j by omega])))⟩, trivial⟩⟩

end Go.Proofs.Ytjojlppmnebhgaa
