/-
  Walks, printed by a program (gen.py) out of what its author says of each function.
-/
import Derived.Test.YtjojlppmnebhgaaO10P2
namespace Go.Proofs.Ytjojlppmnebhgaa
open Go.Hl Go.RowKit
set_option linter.unusedVariables false
set_option maxRecDepth 100000

set_option maxHeartbeats 1000000 in
theorem OpOwn_spec {code : Int} : FnP Try.prog 4 [intV .i64 code] (propV True) := by
  refine FnE.intro 81 Try.func4 rfl rfl rfl fun w0 S0 M => ?_
  obtain ⟨h5, h6⟩ := takes_len code
  refine CodeT.seq ?_
  refine CodeT.region (.p (opAssign .cf) rfl <| .nil ?_)
  refine EndT.thenN ?_
  refine CodeT.seq ?_
  refine CodeT.region (.p (opMove (.t rfl)) rfl <| .n (opCallE (rest := []) (findO_spec (code := code)) Try.cb11 (.cons (.t rfl) .nil) (Perm.idx [] rfl rfl)) rfl <| fun g15 h15 => .p (opMove (.t rfl)) rfl <| .p (opExtract (.t rfl) rfl) rfl <| .p (opExtract (.t rfl) rfl) rfl <| .n (opAlloc Try.zb31) rfl <| fun b3 _ => .s (opStoreOA (i := 0) Try.cz31 rfl (.t rfl) (.t rfl) rfl rfl rfl) <| .p (opAssign (.t rfl)) rfl <| .nil ?_)
  refine EndT.thenN ?_
  refine CodeT.share (t := 3) (i := 0) rfl rfl ?_
  obtain ⟨ga, gb⟩ := g15
  refine CodeT.junkFact 0 rfl fun hga => ?_
  refine CodeT.seq ?_
  refine CodeT.seq ?_
  refine CodeT.region (.p (opAssign (.c _)) rfl <| .nil ?_)
  refine EndT.thenN ?_
  refine CodeT.block ?_
  refine CodeT.loopO (σ := Nat) (fun _ => [junkS ga ((findI code).getD zeroI).Takes.length, junkS gb ((findI code).getD zeroI).Gives.length]) (fun i => [(5, intV .i64 (i : Int))]) (fun i => True) (fun i => ((findI code).getD zeroI).Takes.length - i) 0 trivial rfl ?_ ?_
  · exact (.get rfl (VLe.refl _) (.refl _ _))
  · rintro i _
    refine CodeT.seq ?_
    refine CodeT.seq ?_
    refine CodeT.region (.p (opMove (.t rfl)) rfl <| .p (opField Try.fd31_3 (.t rfl)) rfl <| .p (opLoad Try.ag29 (.t rfl)) rfl <| .p (opLenSv rfl Try.underlying29 (.t rfl) hga) rfl <| .p (opLss (.t rfl) (.t rfl)) rfl <| .nil ?_)
    refine EndT.thenN ?_
    refine CodeT.cond (.t rfl) (fun c0 => ?_) (fun c0 => ?_)
    ·
      have hik : i < ((findI code).getD zeroI).Takes.length := by (have h9 : (i : Int) < ((((findI code).getD zeroI).Takes.length : Nat) : Int) := c0; omega)
      refine CodeT.junkOpen (by omega) fun bt ct ys hgt hyl hyn => ?_
      obtain ⟨y, hy⟩ := getElem?_lt (xs := ys) (k := i) (by omega)
      subst hgt
      refine CodeT.skip (EndT.thenN ?_)
      refine CodeT.seq ?_
      refine CodeT.block ?_
      refine CodeT.region (.p (opField Try.fd31_3 (.t rfl)) rfl <| .p (opLoad Try.ag29 (.t rfl)) rfl <| .p (opMove (.t rfl)) rfl <| .p (opIndexAddrW i Try.underlying29 Try.cz34 rfl (.t rfl) (.t rfl) rfl hik) rfl <| .s (opStoreW (i := 0) (r := 0) (0 : UInt8) rfl Try.cz34 (.t rfl) (.c _) rfl hy rfl rfl) <| .nil ?_)
      refine EndT.blkN (EndT.thenN ?_)
      refine CodeT.own (junk_close (n := ((findI code).getD zeroI).Takes.length) (by rw [List.length_set]; exact hyl)) ?_
      refine CodeT.region (.p (opMove (.t rfl)) rfl <| .p (opAddF (.t rfl) (.c _) (fits_i64 (by omega) (by omega))) rfl <| .p (opAssign (.t rfl)) rfl <| .nil ?_)
      refine EndT.round (i + 1) trivial (by omega) rfl ?_
      exact (.get rfl (VLe.int (by omega)) ((.keep 13 rfl rfl)))
    ·
      refine CodeT.exit (EndT.thenX (EndT.thenX (EndT.blkX (EndT.thenN ?_))))
      refine CodeT.seq ?_
      refine CodeT.region (.n (opCallE (rest := [_, _]) (allO_spec) Try.cb12 .nil (Perm.idx [0, 1] rfl rfl)) rfl <| fun g29 h29 => .p (opAssign (.t rfl)) rfl <| .nil ?_)
      refine EndT.thenN ?_
      obtain ⟨⟨lb, lc⟩, os⟩ := g29
      dsimp only
      refine CodeT.ownLen 0 rfl fun hol => ?_
      refine CodeT.seq ?_
      refine CodeT.seq ?_
      refine CodeT.region (.p (opAssign (.c _)) rfl <| .nil ?_)
      refine EndT.thenN ?_
      refine CodeT.block ?_
      refine CodeT.loopO (σ := Nat) (fun _ => [sliceH (some (lb, lc)) 5 encInfoO os, elemsH os, junkS ga ((findI code).getD zeroI).Takes.length, junkS gb ((findI code).getD zeroI).Gives.length]) (fun i => [(7, intV .i64 (i : Int))]) (fun i => True) (fun i => os.length - i) 0 trivial rfl ?_ ?_
      · exact (.get rfl (VLe.refl _) (.refl _ _))
      · rintro i _
        refine CodeT.seq ?_
        refine CodeT.seq ?_
        refine CodeT.region (.p (opMove (.t rfl)) rfl <| .p (opMove (.t rfl)) rfl <| .p (opLenW rfl Try.underlying35 (.t rfl)) rfl <| .p (opLss (.t rfl) (.t rfl)) rfl <| .nil ?_)
        refine EndT.thenN ?_
        refine CodeT.cond (.t rfl) (fun c1 => ?_) (fun c1 => ?_)
        ·
          obtain ⟨o, ho⟩ := getElem?_lt (xs := os) (k := i) (by omega)
          refine CodeT.skip (EndT.thenN ?_)
          refine CodeT.seq ?_
          refine CodeT.block ?_
          refine CodeT.seq ?_
          refine CodeT.own (OLe.trans (OLe.perm (Perm.idx [1, 0, 2, 3] rfl rfl)) (elems_open ho)) ?_
          refine CodeT.junkFact 0 rfl fun hgo => ?_
          refine CodeT.own (OLe.trans (elems_shut ho) (OLe.perm (Perm.idx [1, 0, 2, 3] rfl rfl))) ?_
          refine CodeT.region (.p (opAssign (.c _)) rfl <| .nil ?_)
          refine EndT.thenN ?_
          refine CodeT.block ?_
          refine CodeT.loopO (σ := Nat) (fun _ => [sliceH (some (lb, lc)) 5 encInfoO os, elemsH os, junkS ga ((findI code).getD zeroI).Takes.length, junkS gb ((findI code).getD zeroI).Gives.length]) (fun k => [(8, intV .i64 (k : Int))]) (fun k => True) (fun k => o.n2 - k) 0 trivial rfl ?_ ?_
          · exact (.get rfl (VLe.refl _) (.refl _ _))
          · rintro k _
            refine CodeT.seq ?_
            refine CodeT.seq ?_
            refine CodeT.region (.p (opMove (.t rfl)) rfl <| .p (opMove (.t rfl)) rfl <| .p (opMove (.t rfl)) rfl <| .p (opIndexAddrW i Try.underlying35 Try.cz31 rfl (.t rfl) (.t rfl) rfl (by omega)) rfl <| .p (opFieldO Try.fd31_4 (.t rfl)) rfl <| .p (opLoadW (i := 0) (r := 4) Try.ag29 (.t rfl) rfl ho rfl) rfl <| .p (opLenSv rfl Try.underlying29 (.t rfl) hgo) rfl <| .p (opLss (.t rfl) (.t rfl)) rfl <| .nil ?_)
            refine EndT.thenN ?_
            refine CodeT.cond (.t rfl) (fun c2 => ?_) (fun c2 => ?_)
            ·
              refine CodeT.own (OLe.trans (OLe.perm (Perm.idx [1, 0, 2, 3] rfl rfl)) (elems_open ho)) ?_
              refine CodeT.junkOpen (by omega) fun bt2 ct2 zs hgt2 hzl hzn => ?_
              obtain ⟨z, hz⟩ := getElem?_lt (xs := zs) (k := k) (by omega)
              refine CodeT.skip (EndT.thenN ?_)
              refine CodeT.seq ?_
              refine CodeT.block ?_
              refine CodeT.region (.p (opMove (.t rfl)) rfl <| .p (opMove (.t rfl)) rfl <| .p (opIndexAddrW i Try.underlying35 Try.cz31 rfl (.t rfl) (.t rfl) rfl (by omega)) rfl <| .p (opFieldO Try.fd31_4 (.t rfl)) rfl <| .p ((opLoadW (i := 2) (r := 4) Try.ag29 (.t rfl) rfl ho rfl).le (VLe.of_eq (show exactV (sval o.s2 o.n2) = exactV (sval (some (bt2, ct2)) o.n2) by rw [hgt2]))) rfl <| .p (opMove (.t rfl)) rfl <| .p (opIndexAddrW k Try.underlying29 Try.cz34 rfl (.t rfl) (.t rfl) rfl (by omega)) rfl <| .s (opStoreW (i := 0) (r := 0) (0 : UInt8) rfl Try.cz34 (.t rfl) (.c _) rfl hz rfl rfl) <| .nil ?_)
              refine EndT.blkN (EndT.thenN ?_)
              refine CodeT.own (OLe.trans (junk_close (n := o.n2) (by rw [List.length_set]; exact hzl)) (by rw [← hgt2]; exact OLe.trans (elems_shut ho) (OLe.perm (Perm.idx [1, 0, 2, 3] rfl rfl)))) ?_
              refine CodeT.region (.p (opMove (.t rfl)) rfl <| .p (opAddF (.t rfl) (.c _) (fits_i64 (by omega) (by omega))) rfl <| .p (opAssign (.t rfl)) rfl <| .nil ?_)
              refine EndT.round (k + 1) trivial (by omega) rfl ?_
              exact (.get rfl (VLe.int (by omega)) ((.keep 19 rfl rfl)))
            ·
              refine CodeT.exit (EndT.thenX (EndT.thenX (EndT.blkX (EndT.blkN (EndT.thenN ?_)))))
              refine CodeT.region (.p (opMove (.t rfl)) rfl <| .p (opAddF (.t rfl) (.c _) (fits_i64 (by omega) (by omega))) rfl <| .p (opAssign (.t rfl)) rfl <| .nil ?_)
              refine EndT.round (i + 1) trivial (by omega) rfl ?_
              exact (.get rfl (VLe.int (by omega)) ((.keep 18 rfl rfl)))
        ·
          refine CodeT.exit (EndT.thenX (EndT.thenX (EndT.blkX (EndT.thenN ?_))))
          refine CodeT.seq ?_
          refine CodeT.region (.p (opMove (.t rfl)) rfl <| .p (opCall (find_spec) Try.cb11 (.cons (.t rfl) .nil)) rfl <| .p (opMove (.t rfl)) rfl <| .p (opExtract (.t rfl) rfl) rfl <| .p (opExtract (.t rfl) rfl) rfl <| .n (opAlloc Try.zb31) rfl <| fun b9 _ => .s (opStoreOA (i := 0) Try.cz31 rfl (.t rfl) (.t rfl) rfl rfl rfl) <| .p (opAssign (.t rfl)) rfl <| .nil ?_)
          refine EndT.thenN ?_
          refine CodeT.share (t := 9) (i := 0) rfl rfl ?_
          refine CodeT.seq ?_
          refine CodeT.region (.p (opMove (.t rfl)) rfl <| .p (opCall (rtakes_spec) Try.cb13 (.cons (.t rfl) .nil)) rfl <| .p (opMove (.t rfl)) rfl <| .p (opExtract (.t rfl) rfl) rfl <| .p (opExtract (.t rfl) rfl) rfl <| .p (opAssign (.t rfl)) rfl <| .p (opAssign (.t rfl)) rfl <| .nil ?_)
          refine EndT.thenN ?_
          refine CodeT.seq ?_
          refine CodeT.region (.p (opField Try.fd31_1 (.t rfl)) rfl <| .p (opLoad Try.ag9 (.t rfl)) rfl <| .p (opEqlS (.t rfl) (.s [] rfl rfl)) rfl <| .p (opMove (.t rfl)) rfl <| .g (OpG.gF rfl rfl rfl rfl (fun hg => opField Try.fd31_3 (.t rfl))) rfl rfl <| .g (OpG.gF rfl rfl rfl rfl (fun hg => opLoad Try.ag29 (.when (.t rfl) hg))) rfl rfl <| .g (OpG.gF rfl rfl rfl rfl (fun hg => opMove (.t rfl))) rfl rfl <| .g (OpG.gF rfl rfl rfl rfl (fun hg => opCall (lsame_spec (by omega)) Try.cb14 (.cons (.when (.t rfl) hg) (.cons (.when (.t rfl) hg) .nil)))) rfl rfl <| .g (OpG.gF rfl rfl rfl rfl (fun hg => opMove (.when (.t rfl) hg))) rfl rfl <| .g (OpG.hT rfl rfl rfl rfl (fun hg => opField Try.fd31_4 (.t rfl))) rfl rfl <| .g (OpG.hT rfl rfl rfl rfl (fun hg => opLoad Try.ag29 (.when (.t rfl) hg))) rfl rfl <| .g (OpG.hT rfl rfl rfl rfl (fun hg => opMove (.t rfl))) rfl rfl <| .g (OpG.hT rfl rfl rfl rfl (fun hg => opCall (lsame_spec (by omega)) Try.cb14 (.cons (.when (.t rfl) hg) (.cons (.when (.t rfl) hg) .nil)))) rfl rfl <| .g (OpG.gF rfl rfl rfl rfl (fun hg => opAnd (.when (.t rfl) hg) (.under (.t rfl) hg))) rfl rfl <| .p (opOr (.t rfl) (.t rfl)) rfl <| .p (opMove (.t rfl)) rfl <| .g (OpG.gT rfl rfl rfl rfl (fun hg => opCall (awake10_spec) Try.cb10 .nil)) rfl rfl <| .p (opAnd (.t rfl) (.t rfl)) rfl <| .p (opAssign (.t rfl)) rfl <| .nil ?_)
          refine EndT.thenN ?_
          refine CodeT.ret (Post.retP rfl rfl ?_)
          exact VLe.prop ⟨fun _ => trivial, fun _ => ⟨by (cases hf : findI code with | none => (left; rfl) | some x => (obtain ⟨g1, g2, g3, g4, g5, g6, g7⟩ := find_some_of hf; right; exact ⟨g5, g6⟩)), trivial⟩⟩

end Go.Proofs.Ytjojlppmnebhgaa
