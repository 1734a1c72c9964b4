/-
  Walks, printed by a program (gen.py) out of what its author says of each function.
-/
import Derived.Test.YtgmpadhfgohodaaDoorTab
import Derived.Test.YtgmpadhfgohodaaDoorO10A
namespace Go.Proofs.YtgmpadhfgohodaaDoor
open Go.Hl Go.RowKit
set_option linter.unusedVariables false
set_option maxRecDepth 100000

theorem rtakes_spec {code : Int} : FnP Tryd.prog 34 [intV .i64 code] (tupV [sliceV 1 encU8 (takesR code).1, sliceV 1 encU8 (takesR code).2]) := by
  refine FnE.intro 169 Tryd.func34 rfl rfl rfl fun w0 S0 M => ?_
  refine CodeT.seq ?_
  refine CodeT.region (.p (opAssign (.c _)) rfl <| .p (opAssign (.c _)) rfl <| .nil ?_)
  refine EndT.thenN ?_
  refine CodeT.seq ?_
  refine CodeT.region (.p (opAssign (.c _)) rfl <| .p (opAssign (.c _)) rfl <| .nil ?_)
  refine EndT.thenN ?_
  refine CodeT.seq ?_
  refine CodeT.block ?_
  refine CodeT.seq ?_
  refine CodeT.region (.p (opMove (.t rfl)) rfl <| .p (opLss (.t rfl) (.c _)) rfl <| .p (opAssign (.t rfl)) rfl <| .nil ?_)
  refine EndT.thenN ?_
  refine CodeT.cond (.t rfl) (fun c0 => ?_) (fun c0 => ?_)
  ·
    refine CodeT.seq ?_
    refine CodeT.region (.p (opAssign (.c _)) rfl <| .p (opAssign (.c _)) rfl <| .nil ?_)
    refine EndT.thenN ?_
    refine CodeT.ret (EndT.blkR (EndT.thenR (Post.retR rfl rfl () trivial (fun _ _ _ _ => trivial) rfl (.cons (.rt rfl) ?_ (.cons (.rt rfl) ?_ .nil)))))
    · first | (refine VLe.trans (sliceV_nil 1 encU8) (VLe.of_eq ?_); unfold takesR; repeat (first | rfl | rw [if_pos (by assumption)] | rw [if_neg (by assumption)])) | (refine VLe.of_eq ?_; unfold takesR; repeat (first | rfl | rw [if_pos (by assumption)] | rw [if_neg (by assumption)]))
    · first | (refine VLe.trans (sliceV_nil 1 encU8) (VLe.of_eq ?_); unfold takesR; repeat (first | rfl | rw [if_pos (by assumption)] | rw [if_neg (by assumption)])) | (refine VLe.of_eq ?_; unfold takesR; repeat (first | rfl | rw [if_pos (by assumption)] | rw [if_neg (by assumption)]))
  ·
    refine CodeT.seq ?_
    refine CodeT.region (.p (opMove (.t rfl)) rfl <| .p (opEql (.t rfl) (.c _)) rfl <| .p (opMove (.t rfl)) rfl <| .g (OpG.gF rfl rfl rfl rfl (fun hg => opMove (.t rfl))) rfl rfl <| .g (OpG.gF rfl rfl rfl rfl (fun hg => opGeq (.when (.t rfl) hg) (.c _))) rfl rfl <| .g (OpG.gF rfl rfl rfl rfl (fun hg => opMove (.when (.t rfl) hg))) rfl rfl <| .g (OpG.hT rfl rfl rfl rfl (fun hg => opMove (.t rfl))) rfl rfl <| .g (OpG.hT rfl rfl rfl rfl (fun hg => opLeq (.when (.t rfl) hg) (.c _))) rfl rfl <| .g (OpG.gF rfl rfl rfl rfl (fun hg => opAnd (.when (.t rfl) hg) (.under (.t rfl) hg))) rfl rfl <| .p (opOr (.t rfl) (.t rfl)) rfl <| .p (opAssign (.t rfl)) rfl <| .nil ?_)
    refine EndT.thenN ?_
    refine CodeT.cond (.t rfl) (fun c1 => ?_) (fun c1 => ?_)
    ·
      refine CodeT.seq ?_
      refine CodeT.region (.p (opMove (.t rfl)) rfl <| .p (opBuildSlice (enc := encU8) [127] Tryd.underlying24 Tryd.cz5 rfl Tryd.zb5 rfl (.cons (.t rfl) .nil) rfl rfl rfl rfl rfl) rfl <| .p (opMove (.t rfl)) rfl <| .p (opBuildSlice (enc := encU8) [127] Tryd.underlying24 Tryd.cz5 rfl Tryd.zb5 rfl (.cons (.t rfl) .nil) rfl rfl rfl rfl rfl) rfl <| .p (opAssign (.t rfl)) rfl <| .p (opAssign (.t rfl)) rfl <| .nil ?_)
      refine EndT.thenN ?_
      refine CodeT.ret (EndT.blkR (EndT.thenR (Post.retR rfl rfl () trivial (fun _ _ _ _ => trivial) rfl (.cons (.rt rfl) ?_ (.cons (.rt rfl) ?_ .nil)))))
      · first | (refine VLe.trans (sliceV_nil 1 encU8) (VLe.of_eq ?_); unfold takesR; repeat (first | rfl | rw [if_pos (by assumption)] | rw [if_neg (by assumption)])) | (refine VLe.of_eq ?_; unfold takesR; repeat (first | rfl | rw [if_pos (by assumption)] | rw [if_neg (by assumption)]))
      · first | (refine VLe.trans (sliceV_nil 1 encU8) (VLe.of_eq ?_); unfold takesR; repeat (first | rfl | rw [if_pos (by assumption)] | rw [if_neg (by assumption)])) | (refine VLe.of_eq ?_; unfold takesR; repeat (first | rfl | rw [if_pos (by assumption)] | rw [if_neg (by assumption)]))
    ·
      refine CodeT.seq ?_
      refine CodeT.region (.p (opMove (.t rfl)) rfl <| .p (opEql (.t rfl) (.c _)) rfl <| .p (opMove (.t rfl)) rfl <| .g (OpG.gF rfl rfl rfl rfl (fun hg => opMove (.t rfl))) rfl rfl <| .g (OpG.gF rfl rfl rfl rfl (fun hg => opGeq (.when (.t rfl) hg) (.c _))) rfl rfl <| .g (OpG.gF rfl rfl rfl rfl (fun hg => opMove (.when (.t rfl) hg))) rfl rfl <| .g (OpG.hT rfl rfl rfl rfl (fun hg => opMove (.t rfl))) rfl rfl <| .g (OpG.hT rfl rfl rfl rfl (fun hg => opLeq (.when (.t rfl) hg) (.c _))) rfl rfl <| .g (OpG.gF rfl rfl rfl rfl (fun hg => opAnd (.when (.t rfl) hg) (.under (.t rfl) hg))) rfl rfl <| .p (opOr (.t rfl) (.t rfl)) rfl <| .p (opAssign (.t rfl)) rfl <| .nil ?_)
      refine EndT.thenN ?_
      refine CodeT.cond (.t rfl) (fun c2 => ?_) (fun c2 => ?_)
      ·
        refine CodeT.seq ?_
        refine CodeT.region (.p (opMove (.t rfl)) rfl <| .p (opBuildSlice (enc := encU8) [127] Tryd.underlying24 Tryd.cz5 rfl Tryd.zb5 rfl (.cons (.t rfl) .nil) rfl rfl rfl rfl rfl) rfl <| .p (opMove (.t rfl)) rfl <| .p (opBuildSlice (enc := encU8) [126] Tryd.underlying24 Tryd.cz5 rfl Tryd.zb5 rfl (.cons (.t rfl) .nil) rfl rfl rfl rfl rfl) rfl <| .p (opAssign (.t rfl)) rfl <| .p (opAssign (.t rfl)) rfl <| .nil ?_)
        refine EndT.thenN ?_
        refine CodeT.ret (EndT.blkR (EndT.thenR (Post.retR rfl rfl () trivial (fun _ _ _ _ => trivial) rfl (.cons (.rt rfl) ?_ (.cons (.rt rfl) ?_ .nil)))))
        · first | (refine VLe.trans (sliceV_nil 1 encU8) (VLe.of_eq ?_); unfold takesR; repeat (first | rfl | rw [if_pos (by assumption)] | rw [if_neg (by assumption)])) | (refine VLe.of_eq ?_; unfold takesR; repeat (first | rfl | rw [if_pos (by assumption)] | rw [if_neg (by assumption)]))
        · first | (refine VLe.trans (sliceV_nil 1 encU8) (VLe.of_eq ?_); unfold takesR; repeat (first | rfl | rw [if_pos (by assumption)] | rw [if_neg (by assumption)])) | (refine VLe.of_eq ?_; unfold takesR; repeat (first | rfl | rw [if_pos (by assumption)] | rw [if_neg (by assumption)]))
      ·
        refine CodeT.seq ?_
        refine CodeT.region (.p (opMove (.t rfl)) rfl <| .p (opEql (.t rfl) (.c _)) rfl <| .p (opMove (.t rfl)) rfl <| .g (OpG.gF rfl rfl rfl rfl (fun hg => opMove (.t rfl))) rfl rfl <| .g (OpG.gF rfl rfl rfl rfl (fun hg => opEql (.when (.t rfl) hg) (.c _))) rfl rfl <| .p (opOr (.t rfl) (.t rfl)) rfl <| .p (opMove (.t rfl)) rfl <| .g (OpG.gF rfl rfl rfl rfl (fun hg => opMove (.t rfl))) rfl rfl <| .g (OpG.gF rfl rfl rfl rfl (fun hg => opEql (.when (.t rfl) hg) (.c _))) rfl rfl <| .p (opOr (.t rfl) (.t rfl)) rfl <| .p (opAssign (.t rfl)) rfl <| .nil ?_)
        refine EndT.thenN ?_
        refine CodeT.cond (.t rfl) (fun c3 => ?_) (fun c3 => ?_)
        ·
          refine CodeT.seq ?_
          refine CodeT.region (.p (opMove (.t rfl)) rfl <| .p (opMove (.t rfl)) rfl <| .p (opBuildSlice (enc := encU8) [127, 127] Tryd.underlying24 Tryd.cz5 rfl Tryd.zb5 rfl (.cons (.t rfl) (.cons (.t rfl) .nil)) rfl rfl rfl rfl rfl) rfl <| .p (opAssign (.t rfl)) rfl <| .p (opAssign (.c _)) rfl <| .nil ?_)
          refine EndT.thenN ?_
          refine CodeT.ret (EndT.blkR (EndT.thenR (Post.retR rfl rfl () trivial (fun _ _ _ _ => trivial) rfl (.cons (.rt rfl) ?_ (.cons (.rt rfl) ?_ .nil)))))
          · first | (refine VLe.trans (sliceV_nil 1 encU8) (VLe.of_eq ?_); unfold takesR; repeat (first | rfl | rw [if_pos (by assumption)] | rw [if_neg (by assumption)])) | (refine VLe.of_eq ?_; unfold takesR; repeat (first | rfl | rw [if_pos (by assumption)] | rw [if_neg (by assumption)]))
          · first | (refine VLe.trans (sliceV_nil 1 encU8) (VLe.of_eq ?_); unfold takesR; repeat (first | rfl | rw [if_pos (by assumption)] | rw [if_neg (by assumption)])) | (refine VLe.of_eq ?_; unfold takesR; repeat (first | rfl | rw [if_pos (by assumption)] | rw [if_neg (by assumption)]))
        ·
          refine CodeT.seq ?_
          refine CodeT.region (.p (opMove (.t rfl)) rfl <| .p (opLeq (.t rfl) (.c _)) rfl <| .p (opAssign (.t rfl)) rfl <| .nil ?_)
          refine EndT.thenN ?_
          refine CodeT.cond (.t rfl) (fun c4 => ?_) (fun c4 => ?_)
          ·
            refine CodeT.seq ?_
            refine CodeT.region (.p (opMove (.t rfl)) rfl <| .p (opMove (.t rfl)) rfl <| .p (opBuildSlice (enc := encU8) [127, 126] Tryd.underlying24 Tryd.cz5 rfl Tryd.zb5 rfl (.cons (.t rfl) (.cons (.t rfl) .nil)) rfl rfl rfl rfl rfl) rfl <| .p (opAssign (.t rfl)) rfl <| .p (opAssign (.c _)) rfl <| .nil ?_)
            refine EndT.thenN ?_
            refine CodeT.ret (EndT.blkR (EndT.thenR (Post.retR rfl rfl () trivial (fun _ _ _ _ => trivial) rfl (.cons (.rt rfl) ?_ (.cons (.rt rfl) ?_ .nil)))))
            · first | (refine VLe.trans (sliceV_nil 1 encU8) (VLe.of_eq ?_); unfold takesR; repeat (first | rfl | rw [if_pos (by assumption)] | rw [if_neg (by assumption)])) | (refine VLe.of_eq ?_; unfold takesR; repeat (first | rfl | rw [if_pos (by assumption)] | rw [if_neg (by assumption)]))
            · first | (refine VLe.trans (sliceV_nil 1 encU8) (VLe.of_eq ?_); unfold takesR; repeat (first | rfl | rw [if_pos (by assumption)] | rw [if_neg (by assumption)])) | (refine VLe.of_eq ?_; unfold takesR; repeat (first | rfl | rw [if_pos (by assumption)] | rw [if_neg (by assumption)]))
          ·
            refine CodeT.seq ?_
            refine CodeT.region (.p (opMove (.t rfl)) rfl <| .p (opEql (.t rfl) (.c _)) rfl <| .p (opMove (.t rfl)) rfl <| .g (OpG.gF rfl rfl rfl rfl (fun hg => opMove (.t rfl))) rfl rfl <| .g (OpG.gF rfl rfl rfl rfl (fun hg => opEql (.when (.t rfl) hg) (.c _))) rfl rfl <| .p (opOr (.t rfl) (.t rfl)) rfl <| .p (opAssign (.t rfl)) rfl <| .nil ?_)
            refine EndT.thenN ?_
            refine CodeT.cond (.t rfl) (fun c5 => ?_) (fun c5 => ?_)
            ·
              refine CodeT.seq ?_
              refine CodeT.region (.p (opMove (.t rfl)) rfl <| .p (opBuildSlice (enc := encU8) [127] Tryd.underlying24 Tryd.cz5 rfl Tryd.zb5 rfl (.cons (.t rfl) .nil) rfl rfl rfl rfl rfl) rfl <| .p (opAssign (.c _)) rfl <| .p (opAssign (.t rfl)) rfl <| .nil ?_)
              refine EndT.thenN ?_
              refine CodeT.ret (EndT.blkR (EndT.thenR (Post.retR rfl rfl () trivial (fun _ _ _ _ => trivial) rfl (.cons (.rt rfl) ?_ (.cons (.rt rfl) ?_ .nil)))))
              · first | (refine VLe.trans (sliceV_nil 1 encU8) (VLe.of_eq ?_); unfold takesR; repeat (first | rfl | rw [if_pos (by assumption)] | rw [if_neg (by assumption)])) | (refine VLe.of_eq ?_; unfold takesR; repeat (first | rfl | rw [if_pos (by assumption)] | rw [if_neg (by assumption)]))
              · first | (refine VLe.trans (sliceV_nil 1 encU8) (VLe.of_eq ?_); unfold takesR; repeat (first | rfl | rw [if_pos (by assumption)] | rw [if_neg (by assumption)])) | (refine VLe.of_eq ?_; unfold takesR; repeat (first | rfl | rw [if_pos (by assumption)] | rw [if_neg (by assumption)]))
            ·
              refine CodeT.seq ?_
              refine CodeT.region (.p (opMove (.t rfl)) rfl <| .p (opEql (.t rfl) (.c _)) rfl <| .p (opAssign (.t rfl)) rfl <| .nil ?_)
              refine EndT.thenN ?_
              refine CodeT.cond (.t rfl) (fun c6 => ?_) (fun c6 => ?_)
              ·
                refine CodeT.seq ?_
                refine CodeT.region (.p (opMove (.t rfl)) rfl <| .p (opBuildSlice (enc := encU8) [126] Tryd.underlying24 Tryd.cz5 rfl Tryd.zb5 rfl (.cons (.t rfl) .nil) rfl rfl rfl rfl rfl) rfl <| .p (opAssign (.c _)) rfl <| .p (opAssign (.t rfl)) rfl <| .nil ?_)
                refine EndT.thenN ?_
                refine CodeT.ret (EndT.blkR (EndT.thenR (Post.retR rfl rfl () trivial (fun _ _ _ _ => trivial) rfl (.cons (.rt rfl) ?_ (.cons (.rt rfl) ?_ .nil)))))
                · first | (refine VLe.trans (sliceV_nil 1 encU8) (VLe.of_eq ?_); unfold takesR; repeat (first | rfl | rw [if_pos (by assumption)] | rw [if_neg (by assumption)])) | (refine VLe.of_eq ?_; unfold takesR; repeat (first | rfl | rw [if_pos (by assumption)] | rw [if_neg (by assumption)]))
                · first | (refine VLe.trans (sliceV_nil 1 encU8) (VLe.of_eq ?_); unfold takesR; repeat (first | rfl | rw [if_pos (by assumption)] | rw [if_neg (by assumption)])) | (refine VLe.of_eq ?_; unfold takesR; repeat (first | rfl | rw [if_pos (by assumption)] | rw [if_neg (by assumption)]))
              ·
                refine CodeT.seq ?_
                refine CodeT.region (.p (opMove (.t rfl)) rfl <| .p (opEql (.t rfl) (.c _)) rfl <| .p (opMove (.t rfl)) rfl <| .g (OpG.gF rfl rfl rfl rfl (fun hg => opMove (.t rfl))) rfl rfl <| .g (OpG.gF rfl rfl rfl rfl (fun hg => opEql (.when (.t rfl) hg) (.c _))) rfl rfl <| .p (opOr (.t rfl) (.t rfl)) rfl <| .p (opAssign (.t rfl)) rfl <| .nil ?_)
                refine EndT.thenN ?_
                refine CodeT.cond (.t rfl) (fun c7 => ?_) (fun c7 => ?_)
                ·
                  refine CodeT.seq ?_
                  refine CodeT.region (.p (opMove (.t rfl)) rfl <| .p (opBuildSlice (enc := encU8) [126] Tryd.underlying24 Tryd.cz5 rfl Tryd.zb5 rfl (.cons (.t rfl) .nil) rfl rfl rfl rfl rfl) rfl <| .p (opMove (.t rfl)) rfl <| .p (opBuildSlice (enc := encU8) [127] Tryd.underlying24 Tryd.cz5 rfl Tryd.zb5 rfl (.cons (.t rfl) .nil) rfl rfl rfl rfl rfl) rfl <| .p (opAssign (.t rfl)) rfl <| .p (opAssign (.t rfl)) rfl <| .nil ?_)
                  refine EndT.thenN ?_
                  refine CodeT.ret (EndT.blkR (EndT.thenR (Post.retR rfl rfl () trivial (fun _ _ _ _ => trivial) rfl (.cons (.rt rfl) ?_ (.cons (.rt rfl) ?_ .nil)))))
                  · first | (refine VLe.trans (sliceV_nil 1 encU8) (VLe.of_eq ?_); unfold takesR; repeat (first | rfl | rw [if_pos (by assumption)] | rw [if_neg (by assumption)])) | (refine VLe.of_eq ?_; unfold takesR; repeat (first | rfl | rw [if_pos (by assumption)] | rw [if_neg (by assumption)]))
                  · first | (refine VLe.trans (sliceV_nil 1 encU8) (VLe.of_eq ?_); unfold takesR; repeat (first | rfl | rw [if_pos (by assumption)] | rw [if_neg (by assumption)])) | (refine VLe.of_eq ?_; unfold takesR; repeat (first | rfl | rw [if_pos (by assumption)] | rw [if_neg (by assumption)]))
                ·
                  refine CodeT.seq ?_
                  refine CodeT.region (.p (opMove (.t rfl)) rfl <| .p (opGeq (.t rfl) (.c _)) rfl <| .p (opMove (.t rfl)) rfl <| .g (OpG.gT rfl rfl rfl rfl (fun hg => opMove (.t rfl))) rfl rfl <| .g (OpG.gT rfl rfl rfl rfl (fun hg => opLeq (.when (.t rfl) hg) (.c _))) rfl rfl <| .p (opAnd (.t rfl) (.t rfl)) rfl <| .p (opMove (.t rfl)) rfl <| .g (OpG.gF rfl rfl rfl rfl (fun hg => opMove (.t rfl))) rfl rfl <| .g (OpG.gF rfl rfl rfl rfl (fun hg => opGeq (.when (.t rfl) hg) (.c _))) rfl rfl <| .g (OpG.gF rfl rfl rfl rfl (fun hg => opMove (.when (.t rfl) hg))) rfl rfl <| .g (OpG.hT rfl rfl rfl rfl (fun hg => opMove (.t rfl))) rfl rfl <| .g (OpG.hT rfl rfl rfl rfl (fun hg => opLeq (.when (.t rfl) hg) (.c _))) rfl rfl <| .g (OpG.gF rfl rfl rfl rfl (fun hg => opAnd (.when (.t rfl) hg) (.under (.t rfl) hg))) rfl rfl <| .p (opOr (.t rfl) (.t rfl)) rfl <| .p (opAssign (.t rfl)) rfl <| .nil ?_)
                  refine EndT.thenN ?_
                  refine CodeT.cond (.t rfl) (fun c8 => ?_) (fun c8 => ?_)
                  ·
                    refine CodeT.seq ?_
                    refine CodeT.region (.p (opMove (.t rfl)) rfl <| .p (opMove (.t rfl)) rfl <| .p (opBuildSlice (enc := encU8) [127, 127] Tryd.underlying24 Tryd.cz5 rfl Tryd.zb5 rfl (.cons (.t rfl) (.cons (.t rfl) .nil)) rfl rfl rfl rfl rfl) rfl <| .p (opMove (.t rfl)) rfl <| .p (opBuildSlice (enc := encU8) [127] Tryd.underlying24 Tryd.cz5 rfl Tryd.zb5 rfl (.cons (.t rfl) .nil) rfl rfl rfl rfl rfl) rfl <| .p (opAssign (.t rfl)) rfl <| .p (opAssign (.t rfl)) rfl <| .nil ?_)
                    refine EndT.thenN ?_
                    refine CodeT.ret (EndT.blkR (EndT.thenR (Post.retR rfl rfl () trivial (fun _ _ _ _ => trivial) rfl (.cons (.rt rfl) ?_ (.cons (.rt rfl) ?_ .nil)))))
                    · first | (refine VLe.trans (sliceV_nil 1 encU8) (VLe.of_eq ?_); unfold takesR; repeat (first | rfl | rw [if_pos (by assumption)] | rw [if_neg (by assumption)])) | (refine VLe.of_eq ?_; unfold takesR; repeat (first | rfl | rw [if_pos (by assumption)] | rw [if_neg (by assumption)]))
                    · first | (refine VLe.trans (sliceV_nil 1 encU8) (VLe.of_eq ?_); unfold takesR; repeat (first | rfl | rw [if_pos (by assumption)] | rw [if_neg (by assumption)])) | (refine VLe.of_eq ?_; unfold takesR; repeat (first | rfl | rw [if_pos (by assumption)] | rw [if_neg (by assumption)]))
                  ·
                    refine CodeT.seq ?_
                    refine CodeT.region (.p (opMove (.t rfl)) rfl <| .p (opGeq (.t rfl) (.c _)) rfl <| .p (opMove (.t rfl)) rfl <| .g (OpG.gT rfl rfl rfl rfl (fun hg => opMove (.t rfl))) rfl rfl <| .g (OpG.gT rfl rfl rfl rfl (fun hg => opLeq (.when (.t rfl) hg) (.c _))) rfl rfl <| .p (opAnd (.t rfl) (.t rfl)) rfl <| .p (opAssign (.t rfl)) rfl <| .nil ?_)
                    refine EndT.thenN ?_
                    refine CodeT.cond (.t rfl) (fun c9 => ?_) (fun c9 => ?_)
                    ·
                      refine CodeT.seq ?_
                      refine CodeT.region (.p (opMove (.t rfl)) rfl <| .p (opMove (.t rfl)) rfl <| .p (opBuildSlice (enc := encU8) [126, 126] Tryd.underlying24 Tryd.cz5 rfl Tryd.zb5 rfl (.cons (.t rfl) (.cons (.t rfl) .nil)) rfl rfl rfl rfl rfl) rfl <| .p (opMove (.t rfl)) rfl <| .p (opBuildSlice (enc := encU8) [127] Tryd.underlying24 Tryd.cz5 rfl Tryd.zb5 rfl (.cons (.t rfl) .nil) rfl rfl rfl rfl rfl) rfl <| .p (opAssign (.t rfl)) rfl <| .p (opAssign (.t rfl)) rfl <| .nil ?_)
                      refine EndT.thenN ?_
                      refine CodeT.ret (EndT.blkR (EndT.thenR (Post.retR rfl rfl () trivial (fun _ _ _ _ => trivial) rfl (.cons (.rt rfl) ?_ (.cons (.rt rfl) ?_ .nil)))))
                      · first | (refine VLe.trans (sliceV_nil 1 encU8) (VLe.of_eq ?_); unfold takesR; repeat (first | rfl | rw [if_pos (by assumption)] | rw [if_neg (by assumption)])) | (refine VLe.of_eq ?_; unfold takesR; repeat (first | rfl | rw [if_pos (by assumption)] | rw [if_neg (by assumption)]))
                      · first | (refine VLe.trans (sliceV_nil 1 encU8) (VLe.of_eq ?_); unfold takesR; repeat (first | rfl | rw [if_pos (by assumption)] | rw [if_neg (by assumption)])) | (refine VLe.of_eq ?_; unfold takesR; repeat (first | rfl | rw [if_pos (by assumption)] | rw [if_neg (by assumption)]))
                    ·
                      refine CodeT.seq ?_
                      refine CodeT.region (.p (opMove (.t rfl)) rfl <| .p (opGeq (.t rfl) (.c _)) rfl <| .p (opMove (.t rfl)) rfl <| .g (OpG.gT rfl rfl rfl rfl (fun hg => opMove (.t rfl))) rfl rfl <| .g (OpG.gT rfl rfl rfl rfl (fun hg => opLeq (.when (.t rfl) hg) (.c _))) rfl rfl <| .p (opAnd (.t rfl) (.t rfl)) rfl <| .p (opAssign (.t rfl)) rfl <| .nil ?_)
                      refine EndT.thenN ?_
                      refine CodeT.cond (.t rfl) (fun c10 => ?_) (fun c10 => ?_)
                      ·
                        refine CodeT.seq ?_
                        refine CodeT.region (.p (opMove (.t rfl)) rfl <| .p (opMove (.t rfl)) rfl <| .p (opBuildSlice (enc := encU8) [126, 126] Tryd.underlying24 Tryd.cz5 rfl Tryd.zb5 rfl (.cons (.t rfl) (.cons (.t rfl) .nil)) rfl rfl rfl rfl rfl) rfl <| .p (opMove (.t rfl)) rfl <| .p (opBuildSlice (enc := encU8) [126] Tryd.underlying24 Tryd.cz5 rfl Tryd.zb5 rfl (.cons (.t rfl) .nil) rfl rfl rfl rfl rfl) rfl <| .p (opAssign (.t rfl)) rfl <| .p (opAssign (.t rfl)) rfl <| .nil ?_)
                        refine EndT.thenN ?_
                        refine CodeT.ret (EndT.blkR (EndT.thenR (Post.retR rfl rfl () trivial (fun _ _ _ _ => trivial) rfl (.cons (.rt rfl) ?_ (.cons (.rt rfl) ?_ .nil)))))
                        · first | (refine VLe.trans (sliceV_nil 1 encU8) (VLe.of_eq ?_); unfold takesR; repeat (first | rfl | rw [if_pos (by assumption)] | rw [if_neg (by assumption)])) | (refine VLe.of_eq ?_; unfold takesR; repeat (first | rfl | rw [if_pos (by assumption)] | rw [if_neg (by assumption)]))
                        · first | (refine VLe.trans (sliceV_nil 1 encU8) (VLe.of_eq ?_); unfold takesR; repeat (first | rfl | rw [if_pos (by assumption)] | rw [if_neg (by assumption)])) | (refine VLe.of_eq ?_; unfold takesR; repeat (first | rfl | rw [if_pos (by assumption)] | rw [if_neg (by assumption)]))
                      ·
                        refine CodeT.seq ?_
                        refine CodeT.region (.p (opMove (.t rfl)) rfl <| .p (opEql (.t rfl) (.c _)) rfl <| .p (opMove (.t rfl)) rfl <| .g (OpG.gF rfl rfl rfl rfl (fun hg => opMove (.t rfl))) rfl rfl <| .g (OpG.gF rfl rfl rfl rfl (fun hg => opEql (.when (.t rfl) hg) (.c _))) rfl rfl <| .p (opOr (.t rfl) (.t rfl)) rfl <| .p (opAssign (.t rfl)) rfl <| .nil ?_)
                        refine EndT.thenN ?_
                        refine CodeT.cond (.t rfl) (fun c11 => ?_) (fun c11 => ?_)
                        ·
                          refine CodeT.seq ?_
                          refine CodeT.region (.p (opMove (.t rfl)) rfl <| .p (opBuildSlice (enc := encU8) [127] Tryd.underlying24 Tryd.cz5 rfl Tryd.zb5 rfl (.cons (.t rfl) .nil) rfl rfl rfl rfl rfl) rfl <| .p (opMove (.t rfl)) rfl <| .p (opBuildSlice (enc := encU8) [126] Tryd.underlying24 Tryd.cz5 rfl Tryd.zb5 rfl (.cons (.t rfl) .nil) rfl rfl rfl rfl rfl) rfl <| .p (opAssign (.t rfl)) rfl <| .p (opAssign (.t rfl)) rfl <| .nil ?_)
                          refine EndT.thenN ?_
                          refine CodeT.ret (EndT.blkR (EndT.thenR (Post.retR rfl rfl () trivial (fun _ _ _ _ => trivial) rfl (.cons (.rt rfl) ?_ (.cons (.rt rfl) ?_ .nil)))))
                          · first | (refine VLe.trans (sliceV_nil 1 encU8) (VLe.of_eq ?_); unfold takesR; repeat (first | rfl | rw [if_pos (by assumption)] | rw [if_neg (by assumption)])) | (refine VLe.of_eq ?_; unfold takesR; repeat (first | rfl | rw [if_pos (by assumption)] | rw [if_neg (by assumption)]))
                          · first | (refine VLe.trans (sliceV_nil 1 encU8) (VLe.of_eq ?_); unfold takesR; repeat (first | rfl | rw [if_pos (by assumption)] | rw [if_neg (by assumption)])) | (refine VLe.of_eq ?_; unfold takesR; repeat (first | rfl | rw [if_pos (by assumption)] | rw [if_neg (by assumption)]))
                        ·
                          refine CodeT.seq ?_
                          refine CodeT.region (.p (opMove (.t rfl)) rfl <| .p (opGeq (.t rfl) (.c _)) rfl <| .p (opMove (.t rfl)) rfl <| .g (OpG.gT rfl rfl rfl rfl (fun hg => opMove (.t rfl))) rfl rfl <| .g (OpG.gT rfl rfl rfl rfl (fun hg => opLeq (.when (.t rfl) hg) (.c _))) rfl rfl <| .p (opAnd (.t rfl) (.t rfl)) rfl <| .p (opMove (.t rfl)) rfl <| .g (OpG.gF rfl rfl rfl rfl (fun hg => opMove (.t rfl))) rfl rfl <| .g (OpG.gF rfl rfl rfl rfl (fun hg => opGeq (.when (.t rfl) hg) (.c _))) rfl rfl <| .g (OpG.gF rfl rfl rfl rfl (fun hg => opMove (.when (.t rfl) hg))) rfl rfl <| .g (OpG.hT rfl rfl rfl rfl (fun hg => opMove (.t rfl))) rfl rfl <| .g (OpG.hT rfl rfl rfl rfl (fun hg => opLeq (.when (.t rfl) hg) (.c _))) rfl rfl <| .g (OpG.gF rfl rfl rfl rfl (fun hg => opAnd (.when (.t rfl) hg) (.under (.t rfl) hg))) rfl rfl <| .p (opOr (.t rfl) (.t rfl)) rfl <| .p (opAssign (.t rfl)) rfl <| .nil ?_)
                          refine EndT.thenN ?_
                          refine CodeT.cond (.t rfl) (fun c12 => ?_) (fun c12 => ?_)
                          ·
                            refine CodeT.seq ?_
                            refine CodeT.region (.p (opMove (.t rfl)) rfl <| .p (opBuildSlice (enc := encU8) [126] Tryd.underlying24 Tryd.cz5 rfl Tryd.zb5 rfl (.cons (.t rfl) .nil) rfl rfl rfl rfl rfl) rfl <| .p (opMove (.t rfl)) rfl <| .p (opBuildSlice (enc := encU8) [126] Tryd.underlying24 Tryd.cz5 rfl Tryd.zb5 rfl (.cons (.t rfl) .nil) rfl rfl rfl rfl rfl) rfl <| .p (opAssign (.t rfl)) rfl <| .p (opAssign (.t rfl)) rfl <| .nil ?_)
                            refine EndT.thenN ?_
                            refine CodeT.ret (EndT.blkR (EndT.thenR (Post.retR rfl rfl () trivial (fun _ _ _ _ => trivial) rfl (.cons (.rt rfl) ?_ (.cons (.rt rfl) ?_ .nil)))))
                            · first | (refine VLe.trans (sliceV_nil 1 encU8) (VLe.of_eq ?_); unfold takesR; repeat (first | rfl | rw [if_pos (by assumption)] | rw [if_neg (by assumption)])) | (refine VLe.of_eq ?_; unfold takesR; repeat (first | rfl | rw [if_pos (by assumption)] | rw [if_neg (by assumption)]))
                            · first | (refine VLe.trans (sliceV_nil 1 encU8) (VLe.of_eq ?_); unfold takesR; repeat (first | rfl | rw [if_pos (by assumption)] | rw [if_neg (by assumption)])) | (refine VLe.of_eq ?_; unfold takesR; repeat (first | rfl | rw [if_pos (by assumption)] | rw [if_neg (by assumption)]))
                          ·
                            refine CodeT.seq ?_
                            refine CodeT.region (.p (opMove (.t rfl)) rfl <| .p (opGeq (.t rfl) (.c _)) rfl <| .p (opAssign (.t rfl)) rfl <| .nil ?_)
                            refine EndT.thenN ?_
                            refine CodeT.cond (.t rfl) (fun c13 => ?_) (fun c13 => ?_)
                            ·
                              refine CodeT.seq ?_
                              refine CodeT.region (.p (opMove (.t rfl)) rfl <| .p (opMove (.t rfl)) rfl <| .p (opMove (.t rfl)) rfl <| .p (opBuildSlice (enc := encU8) [127, 127, 127] Tryd.underlying24 Tryd.cz5 rfl Tryd.zb5 rfl (.cons (.t rfl) (.cons (.t rfl) (.cons (.t rfl) .nil))) rfl rfl rfl rfl rfl) rfl <| .p (opAssign (.t rfl)) rfl <| .p (opAssign (.c _)) rfl <| .nil ?_)
                              refine EndT.thenN ?_
                              refine CodeT.ret (EndT.blkR (EndT.thenR (Post.retR rfl rfl () trivial (fun _ _ _ _ => trivial) rfl (.cons (.rt rfl) ?_ (.cons (.rt rfl) ?_ .nil)))))
                              · first | (refine VLe.trans (sliceV_nil 1 encU8) (VLe.of_eq ?_); unfold takesR; repeat (first | rfl | rw [if_pos (by assumption)] | rw [if_neg (by assumption)])) | (refine VLe.of_eq ?_; unfold takesR; repeat (first | rfl | rw [if_pos (by assumption)] | rw [if_neg (by assumption)]))
                              · first | (refine VLe.trans (sliceV_nil 1 encU8) (VLe.of_eq ?_); unfold takesR; repeat (first | rfl | rw [if_pos (by assumption)] | rw [if_neg (by assumption)])) | (refine VLe.of_eq ?_; unfold takesR; repeat (first | rfl | rw [if_pos (by assumption)] | rw [if_neg (by assumption)]))
                            ·
                              refine CodeT.skip (EndT.blkN (EndT.thenN ?_))
                              refine CodeT.seq ?_
                              refine CodeT.region (.p (opMove (.t rfl)) rfl <| .p (opBuildSlice (enc := encU8) [127] Tryd.underlying24 Tryd.cz5 rfl Tryd.zb5 rfl (.cons (.t rfl) .nil) rfl rfl rfl rfl rfl) rfl <| .p (opMove (.t rfl)) rfl <| .p (opBuildSlice (enc := encU8) [127] Tryd.underlying24 Tryd.cz5 rfl Tryd.zb5 rfl (.cons (.t rfl) .nil) rfl rfl rfl rfl rfl) rfl <| .p (opAssign (.t rfl)) rfl <| .p (opAssign (.t rfl)) rfl <| .nil ?_)
                              refine EndT.thenN ?_
                              refine CodeT.ret (Post.retR rfl rfl () trivial (fun _ _ _ _ => trivial) rfl (.cons (.rt rfl) ?_ (.cons (.rt rfl) ?_ .nil)))
                              · first | (refine VLe.trans (sliceV_nil 1 encU8) (VLe.of_eq ?_); unfold takesR; repeat (first | rfl | rw [if_pos (by assumption)] | rw [if_neg (by assumption)])) | (refine VLe.of_eq ?_; unfold takesR; repeat (first | rfl | rw [if_pos (by assumption)] | rw [if_neg (by assumption)]))
                              · first | (refine VLe.trans (sliceV_nil 1 encU8) (VLe.of_eq ?_); unfold takesR; repeat (first | rfl | rw [if_pos (by assumption)] | rw [if_neg (by assumption)])) | (refine VLe.of_eq ?_; unfold takesR; repeat (first | rfl | rw [if_pos (by assumption)] | rw [if_neg (by assumption)]))

end Go.Proofs.YtgmpadhfgohodaaDoor
