/-
  Walks, printed by a program (gen.py) out of what its author says of each function.
-/
import Derived.Test.YtjojlppmnebhgaaO10P
import Derived.Test.YtjojlppmnebhgaaO10Z
namespace Go.Proofs.Ytjojlppmnebhgaa
open Go.Hl Go.RowKit
set_option linter.unusedVariables false
set_option maxRecDepth 100000

theorem typesO_spec {l : List UInt8} (hp0 : Ascii l) (hp1 : l.length ≤ 65536) : FnE Try.prog 37 [strV l] [] (γ := SB) (fun _ => True) (fun g => [sliceH g 1 encU8 (typesF l)]) (fun g => exactV (sval g (typesF l).length)) := by
  refine FnE.intro 20 Try.func37 rfl rfl rfl fun w0 S0 M => ?_
  refine CodeT.seq ?_
  refine CodeT.region (.p (opAssign (.c _)) rfl <| .nil ?_)
  refine EndT.thenN ?_
  refine CodeT.seq ?_
  refine CodeT.region (.p (opAssign (.c _)) rfl <| .nil ?_)
  refine EndT.thenN ?_
  refine CodeT.seq ?_
  refine CodeT.seq ?_
  refine CodeT.region (.p (opMove (.t rfl)) rfl <| .n (opRangeS Try.underlying9 (.t rfl)) rfl <| fun b7 _ => .nil ?_)
  refine EndT.thenN ?_
  refine CodeT.block ?_
  refine CodeT.ownNil 1 encU8 ?_
  refine CodeT.loopO (σ := Nat × SB) (fun s => [sliceH s.2 1 encU8 (typesF (l.take s.1)), iterH b7 l s.1]) (fun s => [(3, exactV (sval s.2 (typesF (l.take s.1)).length))]) (fun s => s.1 ≤ l.length) (fun s => l.length - s.1) (0, none) (by simp) (by simp [typesF]) ?_ ?_
  · exact (.get rfl (VLe.of_eq (by simp [sval])) (.refl _ _))
  · rintro s hk
    have htl := typesF_len (l.take s.1)
    have htk : (l.take s.1).length ≤ l.length := by simp; omega
    refine CodeT.seq ?_
    refine CodeT.region (.n (opNextS (i := 1) hp0 (by omega) (.t rfl) rfl) rfl <| fun _ _ => .p (opNext0 (.t rfl)) rfl <| .nil ?_)
    refine EndT.thenN ?_
    refine CodeT.seq ?_
    refine CodeT.cond (.t rfl) (fun c0 => ?_) (fun c0 => ?_)
    ·
      obtain ⟨x, hx⟩ := getElem?_lt (xs := l) (k := s.1) c0
      rw [show min (s.1 + 1) l.length = s.1 + 1 by omega]
      refine CodeT.skip (EndT.thenN ?_)
      refine CodeT.block ?_
      refine CodeT.seq ?_
      refine CodeT.region (.p (opNext2 (by assumption) (.t rfl)) rfl <| .p (opAssign (.t rfl)) rfl <| .nil ?_)
      refine EndT.thenN ?_
      refine CodeT.seq ?_
      refine CodeT.region (.p (opMove (.t rfl)) rfl <| .p (opEql (.t rfl) (.c _)) rfl <| .nil ?_)
      refine EndT.thenN ?_
      refine CodeT.cond (.t rfl) (fun c1 => ?_) (fun c1 => ?_)
      ·
        refine CodeT.region (.p (opMove (.t rfl)) rfl <| .p (opBuildSlice (enc := encU8) [126] Try.underlying29 Try.cz34 rfl Try.zb34 rfl (.cons (.c _) .nil) rfl rfl rfl rfl rfl) rfl <| .n (opAppend (i := 0) Try.underlying29 Try.underlying29 Try.cz34 rfl Try.zb34 rfl Try.by34 (.t rfl) (.t rfl) rfl (by first | omega | (simp <;> omega)) (by first | omega | (simp <;> omega))) rfl <| fun g15 _ => .p (opAssign (.t rfl)) rfl <| .nil ?_)
        refine EndT.blkN (EndT.round (s.1 + 1, (by first | exact g15 | exact g18)) (by omega) (by omega) (by first | (rw [typesF_l hx c1]; rfl) | (rw [typesF_i hx c1]; rfl)) ?_)
        first | exact (.get rfl (VLe.of_eq (by rw [typesF_l hx c1])) (.keep 11 rfl rfl)) | exact (.get rfl (VLe.of_eq (by rw [typesF_i hx c1])) (.keep 11 rfl rfl))
      ·
        refine CodeT.region (.p (opMove (.t rfl)) rfl <| .p (opBuildSlice (enc := encU8) [127] Try.underlying29 Try.cz34 rfl Try.zb34 rfl (.cons (.c _) .nil) rfl rfl rfl rfl rfl) rfl <| .n (opAppend (i := 0) Try.underlying29 Try.underlying29 Try.cz34 rfl Try.zb34 rfl Try.by34 (.t rfl) (.t rfl) rfl (by first | omega | (simp <;> omega)) (by first | omega | (simp <;> omega))) rfl <| fun g18 _ => .p (opAssign (.t rfl)) rfl <| .nil ?_)
        refine EndT.blkN (EndT.round (s.1 + 1, (by first | exact g15 | exact g18)) (by omega) (by omega) (by first | (rw [typesF_l hx c1]; rfl) | (rw [typesF_i hx c1]; rfl)) ?_)
        first | exact (.get rfl (VLe.of_eq (by rw [typesF_l hx c1])) (.keep 11 rfl rfl)) | exact (.get rfl (VLe.of_eq (by rw [typesF_i hx c1])) (.keep 11 rfl rfl))
    ·
      have hall : l.take s.1 = l := List.take_of_length_le (by omega)
      rw [hall]
      refine CodeT.exit (EndT.thenX (EndT.thenX (EndT.blkX (EndT.thenN ?_))))
      refine CodeT.seq ?_
      refine CodeT.region (.p (opMove (.t rfl)) rfl <| .p (opAssign (.t rfl)) rfl <| .nil ?_)
      refine EndT.thenN ?_
      refine CodeT.ret (Post.retR1 rfl (s.2) (by trivial) (OLe.sel [0] [1] rfl rfl) (.rt rfl) ?_)
      exact VLe.refl _

theorem infoO_spec {r : RowD} (hp0 : RowOk r) : FnE Try.prog 23 [aggV (encRow r)] [] (γ := SB × SB) (fun _ => True) (fun g => [junkS g.1 (typesF r.takes).length, junkS g.2 (typesF r.gives).length]) (fun g => aggV (encInfoO (mkI (infoOf r) g))) := by
  refine FnE.intro 16 Try.func23 rfl rfl rfl fun w0 S0 M => ?_
  refine CodeT.seq ?_
  refine CodeT.region (.p (opBoxA (.t rfl)) rfl <| .n (opAlloc Try.zb31) rfl <| fun b2 _ => .nil ?_)
  refine EndT.thenN ?_
  refine CodeT.seq ?_
  refine CodeT.staged [(0, 0), (1, 0), (2, 0), (3, 0), (4, 0), (5, 0), (6, 0), (7, 0), (9, 0), (10, 0), (8, 2), (11, 2)] 12 2 Try.mixed (by kernel_rfl) (.p rfl (fun _ => opField Try.fd53_0 (.t rfl)) <| .p rfl (fun _ => opLoad Try.ag3 (.t rfl)) <| .p rfl (fun _ => opField Try.fd53_1 (.t rfl)) <| .p rfl (fun _ => opLoad Try.ag9 (.t rfl)) <| .p rfl (fun _ => opField Try.fd53_2 (.t rfl)) <| .p rfl (fun _ => opLoad Try.ag3 (.t rfl)) <| .p rfl (fun _ => opField Try.fd53_3 (.t rfl)) <| .p rfl (fun _ => opLoad Try.ag9 (.t rfl)) <| .p rfl (fun _ => opField Try.fd53_4 (.t rfl)) <| .p rfl (fun _ => opLoad Try.ag9 (.t rfl)) <| .e rfl (opCallE (rest := [_]) (typesO_spec hp0.1 (by have := hp0.2.2.1; omega)) Try.cb37 (.cons (.t rfl) .nil) (Perm.idx [0] rfl rfl)) <| fun g11 h11 => .e rfl (opCallE (rest := [_, _]) (typesO_spec hp0.2.1 (by have := hp0.2.2.2; omega)) Try.cb37 (.cons (.t rfl) .nil) (Perm.idx [0, 1] rfl rfl)) <| fun g14 h14 => .fin (.p (OpP.le (opBuild Try.pl31 Try.zb31 (.cons (.t rfl) (.cons (.t rfl) (.cons (.t rfl) (.cons (.t rfl) (.cons (.t rfl) .nil))))) rfl) (VLe.refl (aggV (encInfoO (mkI (infoOf r) (g11, g14)))))) rfl <| .s (opStoreOA (i := 2) Try.cz31 rfl (.t rfl) (.t rfl) rfl rfl rfl) <| .nil ?_))
  refine EndT.thenN ?_
  refine CodeT.ret (Post.retR1 rfl ((g11, g14)) (by trivial) (OLe.trans (OLe.sel [1, 0] [2] rfl rfl) junk_two) (.ra (i := 2) Try.ag31 Try.cz31 rfl rfl rfl rfl) ?_)
  exact VLe.refl _

theorem findO_spec {code : Int} : FnE Try.prog 11 [intV .i64 code] [] (γ := SB × SB) (fun _ => True) (fun g => [junkS g.1 ((findI code).getD zeroI).Takes.length, junkS g.2 ((findI code).getD zeroI).Gives.length]) (fun g => tupV [aggV (encInfoO (mkI ((findI code).getD zeroI) g)), propV (findI code).isSome]) := by
  refine FnE.intro 16 Try.func11 rfl rfl rfl fun w0 S0 M => ?_
  refine CodeT.seq ?_
  refine CodeT.region (.n (opAlloc Try.zb31) rfl <| fun b2 _ => .p (opAssign .cf) rfl <| .nil ?_)
  refine EndT.thenN ?_
  refine CodeT.seq ?_
  refine CodeT.region (.p (opMove (.t rfl)) rfl <| .p (opCall (at_spec) Try.cb22 (.cons (.t rfl) .nil)) rfl <| .p (opMove (.t rfl)) rfl <| .p (opExtract (.t rfl) rfl) rfl <| .p (opExtract (.t rfl) rfl) rfl <| .n (opAlloc Try.zb53) rfl <| fun b4 _ => .s (opStoreOA (i := 0) Try.cz53 rfl (.t rfl) (.t rfl) rfl rfl rfl) <| .p (opAssign (.t rfl)) rfl <| .nil ?_)
  refine EndT.thenN ?_
  refine CodeT.share (t := 4) (i := 0) rfl rfl ?_
  refine CodeT.seq ?_
  refine CodeT.seq ?_
  refine CodeT.region (.p (opMove (.t rfl)) rfl <| .p (opNot (.t rfl)) rfl <| .nil ?_)
  refine EndT.thenN ?_
  refine CodeT.cond (.t rfl) (fun c0 => ?_) (fun c0 => ?_)
  ·
    have hro : rowO code = none := by simpa using c0
    have hfi : findI code = none := by unfold findI; rw [hro]; rfl
    refine CodeT.seq ?_
    refine CodeT.region (.p (opBuild Try.pl31 Try.zb31 .nil rfl) rfl <| .s (opStoreOA (i := 0) Try.cz31 rfl (.t rfl) (.t rfl) rfl rfl rfl) <| .p (opAssign .cf) rfl <| .nil ?_)
    refine EndT.thenN ?_
    refine CodeT.ret (EndT.thenR (Post.retR rfl rfl ((none, none)) (by trivial) (OLe.trans (OLe.nil _) (by rw [hfi]; exact OLe.trans junk_none junk_none)) rfl (.cons (.ra (i := 0) Try.ag31 Try.cz31 rfl rfl rfl rfl) ?_ (.cons (.rt rfl) ?_ .nil))))
    · rw [hfi]; exact VLe.agg (.cons (VLe.refl _) (.cons strV_nil (.cons (VLe.refl _) (.cons (VLe.refl _) (.cons (VLe.refl _) .nil)))))
    · exact VLe.prop (by rw [hfi]; simp)
  ·
    obtain ⟨r, hro⟩ := Option.isSome_iff_exists.1 (Classical.not_not.1 c0)
    have hfi : findI code = some (infoOf r) := by unfold findI; rw [hro]; rfl
    have hok := rowO_ok hro
    simp only [hro, Option.getD_some]
    refine CodeT.skip (EndT.thenN ?_)
    refine CodeT.seq ?_
    refine CodeT.region (.p (opLoadA Try.ag53 Try.cz53 rfl (.t rfl) rfl) rfl <| .n (opCallE (rest := [_]) (infoO_spec hok) Try.cb23 (.cons (.t rfl) .nil) (Perm.idx [0] rfl rfl)) rfl <| fun g15 h15 => .s (opStoreOA (i := 2) Try.cz31 rfl (.t rfl) (.t rfl) rfl rfl rfl) <| .p (opAssign .ct) rfl <| .nil ?_)
    refine EndT.thenN ?_
    refine CodeT.ret (Post.retR rfl rfl (g15) (by trivial) (OLe.trans (OLe.sel [0, 1] [2] rfl rfl) (by rw [hfi]; exact OLe.refl _)) rfl (.cons (.ra (i := 2) Try.ag31 Try.cz31 rfl rfl rfl rfl) ?_ (.cons (.rt rfl) ?_ .nil)))
    · rw [hfi]; exact VLe.refl _
    · exact VLe.prop (by rw [hfi]; simp)

end Go.Proofs.Ytjojlppmnebhgaa
