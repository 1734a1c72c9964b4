/-
  What the statement's proof leans on, several texts in one (packed by a program).
-/
import Derived.Test.YtpahnbgfmhcndaaGreatDoorBMN
set_option linter.all false
set_option maxRecDepth 1000000
set_option maxHeartbeats 4000000
section
namespace Go.Proofs.YtpahnbgfmhcndaaGreatDoor
open Go.Hl Go.RowKit
variable {code : Int}
theorem rname_spec : FnP Tryz.prog 93 [intV .i64 code] (strV (nameR code)) := by
 refine In 20 Tryz.func93 fun _ _ _ => ?_
 refine Z2 ?_
 refine .p (opAssign (.s [] rfl rfl)) rfl ?_
 refine Z15 ?_
 refine Cd (fun c0 => ?_) fun c0 => ?_
 ·
  refine Z2 ?_
  refine .p (opAssign (.s [109, 101, 109, 111, 114, 121, 46, 99, 111, 112, 121] rfl rfl)) rfl ?_
  refine Z5 ?_
  refine Rt1 ?_
  exact VLe.of_eq (by unfold nameR; rw [if_pos c0])
 refine Z6 ?_
 refine Cd (fun c1 => ?_) fun c1 => ?_
 ·
  refine Z2 ?_
  refine .p (opAssign (.s [109, 101, 109, 111, 114, 121, 46, 102, 105, 108, 108] rfl rfl)) rfl ?_
  refine Z5 ?_
  refine Rt1 ?_
  exact VLe.of_eq (by unfold nameR; rw [if_neg c0, if_pos c1])
 refine Z14 ?_
 refine Cd (fun c2 => ?_) fun c2 => ?_
 ·
  refine Z2 ?_
  refine .p (opAssign (.s [] rfl rfl)) rfl ?_
  refine Z4 ?_
  refine Rt1 ?_
  exact VLe.of_eq (by unfold nameR; rw [if_neg c0, if_neg c1, if_pos c2])
 refine Z4 ?_
 refine .p (opBuildSlice (enc := encStrD) namesT FU.out FC.out rfl FZ.out rfl (.cons (.s [117, 110, 114, 101, 97, 99, 104, 97, 98, 108, 101] rfl rfl) (.cons (.s [110, 111, 112] rfl rfl) (.cons (.s [98, 108, 111, 99, 107] rfl rfl) (.cons (.s [108, 111, 111, 112] rfl rfl) (.cons (.s [105, 102] rfl rfl) (.cons (.s [101, 108, 115, 101] rfl rfl) (.cons (.s [] rfl rfl) (.cons (.s [] rfl rfl) (.cons (.s [] rfl rfl) (.cons (.s [] rfl rfl) (.cons (.s [] rfl rfl) (.cons (.s [101, 110, 100] rfl rfl) (.cons (.s [98, 114] rfl rfl) (.cons (.s [98, 114, 95, 105, 102] rfl rfl) (.cons (.s [98, 114, 95, 116, 97, 98, 108, 101] rfl rfl) (.cons (.s [114, 101, 116, 117, 114, 110] rfl rfl) (.cons (.s [99, 97, 108, 108] rfl rfl) (.cons (.s [99, 97, 108, 108, 95, 105, 110, 100, 105, 114, 101, 99, 116] rfl rfl) (.cons (.s [] rfl rfl) (.cons (.s [] rfl rfl) (.cons (.s [] rfl rfl) (.cons (.s [] rfl rfl) (.cons (.s [] rfl rfl) (.cons (.s [] rfl rfl) (.cons (.s [] rfl rfl) (.cons (.s [] rfl rfl) (.cons (.s [100, 114, 111, 112] rfl rfl) (.cons (.s [115, 101, 108, 101, 99, 116] rfl rfl) (.cons (.s [] rfl rfl) (.cons (.s [] rfl rfl) (.cons (.s [] rfl rfl) (.cons (.s [] rfl rfl) (.cons (.s [108, 111, 99, 97, 108, 46, 103, 101, 116] rfl rfl) (.cons (.s [108, 111, 99, 97, 108, 46, 115, 101, 116] rfl rfl) (.cons (.s [108, 111, 99, 97, 108, 46, 116, 101, 101] rfl rfl) (.cons (.s [103, 108, 111, 98, 97, 108, 46, 103, 101, 116] rfl rfl) (.cons (.s [103, 108, 111, 98, 97, 108, 46, 115, 101, 116] rfl rfl) (.cons (.s [] rfl rfl) (.cons (.s [] rfl rfl) (.cons (.s [] rfl rfl) (.cons (.s [105, 51, 50, 46, 108, 111, 97, 100] rfl rfl) (.cons (.s [105, 54, 52, 46, 108, 111, 97, 100] rfl rfl) (.cons (.s [] rfl rfl) (.cons (.s [] rfl rfl) (.cons (.s [105, 51, 50, 46, 108, 111, 97, 100, 56, 95, 115] rfl rfl) (.cons (.s [105, 51, 50, 46, 108, 111, 97, 100, 56, 95, 117] rfl rfl) (.cons (.s [105, 51, 50, 46, 108, 111, 97, 100, 49, 54, 95, 115] rfl rfl) (.cons (.s [105, 51, 50, 46, 108, 111, 97, 100, 49, 54, 95, 117] rfl rfl) (.cons (.s [105, 54, 52, 46, 108, 111, 97, 100, 56, 95, 115] rfl rfl) (.cons (.s [105, 54, 52, 46, 108, 111, 97, 100, 56, 95, 117] rfl rfl) (.cons (.s [105, 54, 52, 46, 108, 111, 97, 100, 49, 54, 95, 115] rfl rfl) (.cons (.s [105, 54, 52, 46, 108, 111, 97, 100, 49, 54, 95, 117] rfl rfl) (.cons (.s [105, 54, 52, 46, 108, 111, 97, 100, 51, 50, 95, 115] rfl rfl) (.cons (.s [105, 54, 52, 46, 108, 111, 97, 100, 51, 50, 95, 117] rfl rfl) (.cons (.s [105, 51, 50, 46, 115, 116, 111, 114, 101] rfl rfl) (.cons (.s [105, 54, 52, 46, 115, 116, 111, 114, 101] rfl rfl) (.cons (.s [] rfl rfl) (.cons (.s [] rfl rfl) (.cons (.s [105, 51, 50, 46, 115, 116, 111, 114, 101, 56] rfl rfl) (.cons (.s [105, 51, 50, 46, 115, 116, 111, 114, 101, 49, 54] rfl rfl) (.cons (.s [105, 54, 52, 46, 115, 116, 111, 114, 101, 56] rfl rfl) (.cons (.s [105, 54, 52, 46, 115, 116, 111, 114, 101, 49, 54] rfl rfl) (.cons (.s [105, 54, 52, 46, 115, 116, 111, 114, 101, 51, 50] rfl rfl) (.cons (.s [109, 101, 109, 111, 114, 121, 46, 115, 105, 122, 101] rfl rfl) (.cons (.s [109, 101, 109, 111, 114, 121, 46, 103, 114, 111, 119] rfl rfl) (.cons (.s [105, 51, 50, 46, 99, 111, 110, 115, 116] rfl rfl) (.cons (.s [105, 54, 52, 46, 99, 111, 110, 115, 116] rfl rfl) (.cons (.s [] rfl rfl) (.cons (.s [] rfl rfl) (.cons (.s [105, 51, 50, 46, 101, 113, 122] rfl rfl) (.cons (.s [105, 51, 50, 46, 101, 113] rfl rfl) (.cons (.s [105, 51, 50, 46, 110, 101] rfl rfl) (.cons (.s [105, 51, 50, 46, 108, 116, 95, 115] rfl rfl) (.cons (.s [105, 51, 50, 46, 108, 116, 95, 117] rfl rfl) (.cons (.s [105, 51, 50, 46, 103, 116, 95, 115] rfl rfl) (.cons (.s [105, 51, 50, 46, 103, 116, 95, 117] rfl rfl) (.cons (.s [105, 51, 50, 46, 108, 101, 95, 115] rfl rfl) (.cons (.s [105, 51, 50, 46, 108, 101, 95, 117] rfl rfl) (.cons (.s [105, 51, 50, 46, 103, 101, 95, 115] rfl rfl) (.cons (.s [105, 51, 50, 46, 103, 101, 95, 117] rfl rfl) (.cons (.s [105, 54, 52, 46, 101, 113, 122] rfl rfl) (.cons (.s [105, 54, 52, 46, 101, 113] rfl rfl) (.cons (.s [105, 54, 52, 46, 110, 101] rfl rfl) (.cons (.s [105, 54, 52, 46, 108, 116, 95, 115] rfl rfl) (.cons (.s [105, 54, 52, 46, 108, 116, 95, 117] rfl rfl) (.cons (.s [105, 54, 52, 46, 103, 116, 95, 115] rfl rfl) (.cons (.s [105, 54, 52, 46, 103, 116, 95, 117] rfl rfl) (.cons (.s [105, 54, 52, 46, 108, 101, 95, 115] rfl rfl) (.cons (.s [105, 54, 52, 46, 108, 101, 95, 117] rfl rfl) (.cons (.s [105, 54, 52, 46, 103, 101, 95, 115] rfl rfl) (.cons (.s [105, 54, 52, 46, 103, 101, 95, 117] rfl rfl) (.cons (.s [] rfl rfl) (.cons (.s [] rfl rfl) (.cons (.s [] rfl rfl) (.cons (.s [] rfl rfl) (.cons (.s [] rfl rfl) (.cons (.s [] rfl rfl) (.cons (.s [] rfl rfl) (.cons (.s [] rfl rfl) (.cons (.s [] rfl rfl) (.cons (.s [] rfl rfl) (.cons (.s [] rfl rfl) (.cons (.s [] rfl rfl) (.cons (.s [105, 51, 50, 46, 99, 108, 122] rfl rfl) (.cons (.s [105, 51, 50, 46, 99, 116, 122] rfl rfl) (.cons (.s [105, 51, 50, 46, 112, 111, 112, 99, 110, 116] rfl rfl) (.cons (.s [105, 51, 50, 46, 97, 100, 100] rfl rfl) (.cons (.s [105, 51, 50, 46, 115, 117, 98] rfl rfl) (.cons (.s [105, 51, 50, 46, 109, 117, 108] rfl rfl) (.cons (.s [105, 51, 50, 46, 100, 105, 118, 95, 115] rfl rfl) (.cons (.s [105, 51, 50, 46, 100, 105, 118, 95, 117] rfl rfl) (.cons (.s [105, 51, 50, 46, 114, 101, 109, 95, 115] rfl rfl) (.cons (.s [105, 51, 50, 46, 114, 101, 109, 95, 117] rfl rfl) (.cons (.s [105, 51, 50, 46, 97, 110, 100] rfl rfl) (.cons (.s [105, 51, 50, 46, 111, 114] rfl rfl) (.cons (.s [105, 51, 50, 46, 120, 111, 114] rfl rfl) (.cons (.s [105, 51, 50, 46, 115, 104, 108] rfl rfl) (.cons (.s [105, 51, 50, 46, 115, 104, 114, 95, 115] rfl rfl) (.cons (.s [105, 51, 50, 46, 115, 104, 114, 95, 117] rfl rfl) (.cons (.s [105, 51, 50, 46, 114, 111, 116, 108] rfl rfl) (.cons (.s [105, 51, 50, 46, 114, 111, 116, 114] rfl rfl) (.cons (.s [105, 54, 52, 46, 99, 108, 122] rfl rfl) (.cons (.s [105, 54, 52, 46, 99, 116, 122] rfl rfl) (.cons (.s [105, 54, 52, 46, 112, 111, 112, 99, 110, 116] rfl rfl) (.cons (.s [105, 54, 52, 46, 97, 100, 100] rfl rfl) (.cons (.s [105, 54, 52, 46, 115, 117, 98] rfl rfl) (.cons (.s [105, 54, 52, 46, 109, 117, 108] rfl rfl) (.cons (.s [105, 54, 52, 46, 100, 105, 118, 95, 115] rfl rfl) (.cons (.s [105, 54, 52, 46, 100, 105, 118, 95, 117] rfl rfl) (.cons (.s [105, 54, 52, 46, 114, 101, 109, 95, 115] rfl rfl) (.cons (.s [105, 54, 52, 46, 114, 101, 109, 95, 117] rfl rfl) (.cons (.s [105, 54, 52, 46, 97, 110, 100] rfl rfl) (.cons (.s [105, 54, 52, 46, 111, 114] rfl rfl) (.cons (.s [105, 54, 52, 46, 120, 111, 114] rfl rfl) (.cons (.s [105, 54, 52, 46, 115, 104, 108] rfl rfl) (.cons (.s [105, 54, 52, 46, 115, 104, 114, 95, 115] rfl rfl) (.cons (.s [105, 54, 52, 46, 115, 104, 114, 95, 117] rfl rfl) (.cons (.s [105, 54, 52, 46, 114, 111, 116, 108] rfl rfl) (.cons (.s [105, 54, 52, 46, 114, 111, 116, 114] rfl rfl) (.cons (.s [] rfl rfl) (.cons (.s [] rfl rfl) (.cons (.s [] rfl rfl) (.cons (.s [] rfl rfl) (.cons (.s [] rfl rfl) (.cons (.s [] rfl rfl) (.cons (.s [] rfl rfl) (.cons (.s [] rfl rfl) (.cons (.s [] rfl rfl) (.cons (.s [] rfl rfl) (.cons (.s [] rfl rfl) (.cons (.s [] rfl rfl) (.cons (.s [] rfl rfl) (.cons (.s [] rfl rfl) (.cons (.s [] rfl rfl) (.cons (.s [] rfl rfl) (.cons (.s [] rfl rfl) (.cons (.s [] rfl rfl) (.cons (.s [] rfl rfl) (.cons (.s [] rfl rfl) (.cons (.s [] rfl rfl) (.cons (.s [] rfl rfl) (.cons (.s [] rfl rfl) (.cons (.s [] rfl rfl) (.cons (.s [] rfl rfl) (.cons (.s [] rfl rfl) (.cons (.s [] rfl rfl) (.cons (.s [] rfl rfl) (.cons (.s [105, 51, 50, 46, 119, 114, 97, 112, 95, 105, 54, 52] rfl rfl) (.cons (.s [] rfl rfl) (.cons (.s [] rfl rfl) (.cons (.s [] rfl rfl) (.cons (.s [] rfl rfl) (.cons (.s [105, 54, 52, 46, 101, 120, 116, 101, 110, 100, 95, 105, 51, 50, 95, 115] rfl rfl) (.cons (.s [105, 54, 52, 46, 101, 120, 116, 101, 110, 100, 95, 105, 51, 50, 95, 117] rfl rfl) (.cons (.s [] rfl rfl) (.cons (.s [] rfl rfl) (.cons (.s [] rfl rfl) (.cons (.s [] rfl rfl) (.cons (.s [] rfl rfl) (.cons (.s [] rfl rfl) (.cons (.s [] rfl rfl) (.cons (.s [] rfl rfl) (.cons (.s [] rfl rfl) (.cons (.s [] rfl rfl) (.cons (.s [] rfl rfl) (.cons (.s [] rfl rfl) (.cons (.s [] rfl rfl) (.cons (.s [] rfl rfl) (.cons (.s [] rfl rfl) (.cons (.s [] rfl rfl) (.cons (.s [] rfl rfl) (.cons (.s [] rfl rfl) (.cons (.s [105, 51, 50, 46, 101, 120, 116, 101, 110, 100, 56, 95, 115] rfl rfl) (.cons (.s [105, 51, 50, 46, 101, 120, 116, 101, 110, 100, 49, 54, 95, 115] rfl rfl) (.cons (.s [105, 54, 52, 46, 101, 120, 116, 101, 110, 100, 56, 95, 115] rfl rfl) (.cons (.s [105, 54, 52, 46, 101, 120, 116, 101, 110, 100, 49, 54, 95, 115] rfl rfl) (.cons (.s [105, 54, 52, 46, 101, 120, 116, 101, 110, 100, 51, 50, 95, 115] rfl rfl) .nil))))))))))))))))))))))))))))))))))))))))))))))))))))))))))))))))))))))))))))))))))))))))))))))))))))))))))))))))))))))))))))))))))))))))))))))))))))))))))))))))))))))))))))))))))))))))))))))))))))) rfl rfl rfl rfl rfl) rfl ?_
 refine Z7 ?_
 refine .p (cI _ (h := show namesT[code.toNat]? = some (namesT.getD code.toNat []) by rw [List.getD_eq_getElem?_getD, List.getElem?_eq_getElem (by rw [names_len]; omega)]; rfl)) rfl ?_
 refine Z5 ?_
 refine Rt1 ?_
 exact VLe.of_eq (by unfold nameR; rw [if_neg c0, if_neg c1, if_neg c2])
theorem rform_spec : FnP Tryz.prog 64 [intV .i64 code] (intV .i64 (formR code)) := by
 refine In 68 Tryz.func64 fun _ _ _ => ?_
 refine Z18 ?_
 refine Cd (fun c0 => ?_) fun c0 => ?_
 ·
  refine Z8 ?_
  refine Rt1 ?_
  exact VLe.int (by unfold formR; repeat (first | rfl | rw [if_pos (by assumption)] | rw [if_neg (by assumption)]))
 refine Z11 ?_
 refine Cd (fun c1 => ?_) fun c1 => ?_
 ·
  refine Z8 ?_
  refine Rt1 ?_
  exact VLe.int (by unfold formR; repeat (first | rfl | rw [if_pos (by assumption)] | rw [if_neg (by assumption)]))
 refine Z7 ?_
 refine Cd (fun c2 => ?_) fun c2 => ?_
 ·
  refine Z8 ?_
  refine Rt1 ?_
  exact VLe.int (by unfold formR; repeat (first | rfl | rw [if_pos (by assumption)] | rw [if_neg (by assumption)]))
 refine Z7 ?_
 refine Cd (fun c3 => ?_) fun c3 => ?_
 ·
  refine Z8 ?_
  refine Rt1 ?_
  exact VLe.int (by unfold formR; repeat (first | rfl | rw [if_pos (by assumption)] | rw [if_neg (by assumption)]))
 refine Z7 ?_
 refine Cd (fun c4 => ?_) fun c4 => ?_
 ·
  refine Z8 ?_
  refine Rt1 ?_
  exact VLe.int (by unfold formR; repeat (first | rfl | rw [if_pos (by assumption)] | rw [if_neg (by assumption)]))
 refine Z11 ?_
 refine Cd (fun c5 => ?_) fun c5 => ?_
 ·
  refine Z8 ?_
  refine Rt1 ?_
  exact VLe.int (by unfold formR; repeat (first | rfl | rw [if_pos (by assumption)] | rw [if_neg (by assumption)]))
 refine Z11 ?_
 refine Cd (fun c6 => ?_) fun c6 => ?_
 ·
  refine Z8 ?_
  refine Rt1 ?_
  exact VLe.int (by unfold formR; repeat (first | rfl | rw [if_pos (by assumption)] | rw [if_neg (by assumption)]))
 refine Z11 ?_
 refine Cd (fun c7 => ?_) fun c7 => ?_
 ·
  refine Z8 ?_
  refine Rt1 ?_
  exact VLe.int (by unfold formR; repeat (first | rfl | rw [if_pos (by assumption)] | rw [if_neg (by assumption)]))
 refine Z15 ?_
 refine Cd (fun c8 => ?_) fun c8 => ?_
 ·
  refine Z8 ?_
  refine Rt1 ?_
  exact VLe.int (by unfold formR; repeat (first | rfl | rw [if_pos (by assumption)] | rw [if_neg (by assumption)]))
 refine Z7 ?_
 refine Cd (fun c9 => ?_) fun c9 => ?_
 ·
  refine Z8 ?_
  refine Rt1 ?_
  exact VLe.int (by unfold formR; repeat (first | rfl | rw [if_pos (by assumption)] | rw [if_neg (by assumption)]))
 refine Z11 ?_
 refine Cd (fun c10 => ?_) fun c10 => ?_
 ·
  refine Z8 ?_
  refine Rt1 ?_
  exact VLe.int (by unfold formR; repeat (first | rfl | rw [if_pos (by assumption)] | rw [if_neg (by assumption)]))
 refine Z9 ?_
 refine Rt1 ?_
 exact VLe.int (by unfold formR; repeat (first | rfl | rw [if_pos (by assumption)] | rw [if_neg (by assumption)]))
theorem rtakes_spec : FnP Tryz.prog 132 [intV .i64 code] (tupV [sliceV 1 encU8 (takesR code).1, sliceV 1 encU8 (takesR code).2]) := by
 refine In 169 Tryz.func132 fun _ _ _ => ?_
 refine Z21 ?_
 refine Cd (fun c0 => ?_) fun c0 => ?_
 ·
  refine Z9 ?_
  refine Rt2 ?_ ?_
  · first | (refine VLe.trans (sliceV_nil 1 encU8) (VLe.of_eq ?_); unfold takesR; repeat (first | rfl | rw [if_pos (by assumption)] | rw [if_neg (by assumption)])) | (refine VLe.of_eq ?_; unfold takesR; repeat (first | rfl | rw [if_pos (by assumption)] | rw [if_neg (by assumption)]))
  first | (refine VLe.trans (sliceV_nil 1 encU8) (VLe.of_eq ?_); unfold takesR; repeat (first | rfl | rw [if_pos (by assumption)] | rw [if_neg (by assumption)])) | (refine VLe.of_eq ?_; unfold takesR; repeat (first | rfl | rw [if_pos (by assumption)] | rw [if_neg (by assumption)]))
 refine Z15 ?_
 refine Cd (fun c1 => ?_) fun c1 => ?_
 ·
  refine Z3 ?_
  refine .p (cB encU8 [127]) rfl ?_
  refine Z1 ?_
  refine .p (cB encU8 [127]) rfl ?_
  refine Z7 ?_
  refine Rt2 ?_ ?_
  · first | (refine VLe.trans (sliceV_nil 1 encU8) (VLe.of_eq ?_); unfold takesR; repeat (first | rfl | rw [if_pos (by assumption)] | rw [if_neg (by assumption)])) | (refine VLe.of_eq ?_; unfold takesR; repeat (first | rfl | rw [if_pos (by assumption)] | rw [if_neg (by assumption)]))
  first | (refine VLe.trans (sliceV_nil 1 encU8) (VLe.of_eq ?_); unfold takesR; repeat (first | rfl | rw [if_pos (by assumption)] | rw [if_neg (by assumption)])) | (refine VLe.of_eq ?_; unfold takesR; repeat (first | rfl | rw [if_pos (by assumption)] | rw [if_neg (by assumption)]))
 refine Z15 ?_
 refine Cd (fun c2 => ?_) fun c2 => ?_
 ·
  refine Z3 ?_
  refine .p (cB encU8 [127]) rfl ?_
  refine Z1 ?_
  refine .p (cB encU8 [126]) rfl ?_
  refine Z7 ?_
  refine Rt2 ?_ ?_
  · first | (refine VLe.trans (sliceV_nil 1 encU8) (VLe.of_eq ?_); unfold takesR; repeat (first | rfl | rw [if_pos (by assumption)] | rw [if_neg (by assumption)])) | (refine VLe.of_eq ?_; unfold takesR; repeat (first | rfl | rw [if_pos (by assumption)] | rw [if_neg (by assumption)]))
  first | (refine VLe.trans (sliceV_nil 1 encU8) (VLe.of_eq ?_); unfold takesR; repeat (first | rfl | rw [if_pos (by assumption)] | rw [if_neg (by assumption)])) | (refine VLe.of_eq ?_; unfold takesR; repeat (first | rfl | rw [if_pos (by assumption)] | rw [if_neg (by assumption)]))
 refine Z15 ?_
 refine Cd (fun c3 => ?_) fun c3 => ?_
 ·
  refine Z4 ?_
  refine .p (cB encU8 [127, 127]) rfl ?_
  refine Z7 ?_
  refine Rt2 ?_ ?_
  · first | (refine VLe.trans (sliceV_nil 1 encU8) (VLe.of_eq ?_); unfold takesR; repeat (first | rfl | rw [if_pos (by assumption)] | rw [if_neg (by assumption)])) | (refine VLe.of_eq ?_; unfold takesR; repeat (first | rfl | rw [if_pos (by assumption)] | rw [if_neg (by assumption)]))
  first | (refine VLe.trans (sliceV_nil 1 encU8) (VLe.of_eq ?_); unfold takesR; repeat (first | rfl | rw [if_pos (by assumption)] | rw [if_neg (by assumption)])) | (refine VLe.of_eq ?_; unfold takesR; repeat (first | rfl | rw [if_pos (by assumption)] | rw [if_neg (by assumption)]))
 refine Z7 ?_
 refine Cd (fun c4 => ?_) fun c4 => ?_
 ·
  refine Z4 ?_
  refine .p (cB encU8 [127, 126]) rfl ?_
  refine Z7 ?_
  refine Rt2 ?_ ?_
  · first | (refine VLe.trans (sliceV_nil 1 encU8) (VLe.of_eq ?_); unfold takesR; repeat (first | rfl | rw [if_pos (by assumption)] | rw [if_neg (by assumption)])) | (refine VLe.of_eq ?_; unfold takesR; repeat (first | rfl | rw [if_pos (by assumption)] | rw [if_neg (by assumption)]))
  first | (refine VLe.trans (sliceV_nil 1 encU8) (VLe.of_eq ?_); unfold takesR; repeat (first | rfl | rw [if_pos (by assumption)] | rw [if_neg (by assumption)])) | (refine VLe.of_eq ?_; unfold takesR; repeat (first | rfl | rw [if_pos (by assumption)] | rw [if_neg (by assumption)]))
 refine Z11 ?_
 refine Cd (fun c5 => ?_) fun c5 => ?_
 ·
  refine Z3 ?_
  refine .p (cB encU8 [127]) rfl ?_
  refine Z7 ?_
  refine Rt2 ?_ ?_
  · first | (refine VLe.trans (sliceV_nil 1 encU8) (VLe.of_eq ?_); unfold takesR; repeat (first | rfl | rw [if_pos (by assumption)] | rw [if_neg (by assumption)])) | (refine VLe.of_eq ?_; unfold takesR; repeat (first | rfl | rw [if_pos (by assumption)] | rw [if_neg (by assumption)]))
  first | (refine VLe.trans (sliceV_nil 1 encU8) (VLe.of_eq ?_); unfold takesR; repeat (first | rfl | rw [if_pos (by assumption)] | rw [if_neg (by assumption)])) | (refine VLe.of_eq ?_; unfold takesR; repeat (first | rfl | rw [if_pos (by assumption)] | rw [if_neg (by assumption)]))
 refine Z7 ?_
 refine Cd (fun c6 => ?_) fun c6 => ?_
 ·
  refine Z3 ?_
  refine .p (cB encU8 [126]) rfl ?_
  refine Z7 ?_
  refine Rt2 ?_ ?_
  · first | (refine VLe.trans (sliceV_nil 1 encU8) (VLe.of_eq ?_); unfold takesR; repeat (first | rfl | rw [if_pos (by assumption)] | rw [if_neg (by assumption)])) | (refine VLe.of_eq ?_; unfold takesR; repeat (first | rfl | rw [if_pos (by assumption)] | rw [if_neg (by assumption)]))
  first | (refine VLe.trans (sliceV_nil 1 encU8) (VLe.of_eq ?_); unfold takesR; repeat (first | rfl | rw [if_pos (by assumption)] | rw [if_neg (by assumption)])) | (refine VLe.of_eq ?_; unfold takesR; repeat (first | rfl | rw [if_pos (by assumption)] | rw [if_neg (by assumption)]))
 refine Z11 ?_
 refine Cd (fun c7 => ?_) fun c7 => ?_
 ·
  refine Z3 ?_
  refine .p (cB encU8 [126]) rfl ?_
  refine Z1 ?_
  refine .p (cB encU8 [127]) rfl ?_
  refine Z7 ?_
  refine Rt2 ?_ ?_
  · first | (refine VLe.trans (sliceV_nil 1 encU8) (VLe.of_eq ?_); unfold takesR; repeat (first | rfl | rw [if_pos (by assumption)] | rw [if_neg (by assumption)])) | (refine VLe.of_eq ?_; unfold takesR; repeat (first | rfl | rw [if_pos (by assumption)] | rw [if_neg (by assumption)]))
  first | (refine VLe.trans (sliceV_nil 1 encU8) (VLe.of_eq ?_); unfold takesR; repeat (first | rfl | rw [if_pos (by assumption)] | rw [if_neg (by assumption)])) | (refine VLe.of_eq ?_; unfold takesR; repeat (first | rfl | rw [if_pos (by assumption)] | rw [if_neg (by assumption)]))
 refine Z19 ?_
 refine Cd (fun c8 => ?_) fun c8 => ?_
 ·
  refine Z4 ?_
  refine .p (cB encU8 [127, 127]) rfl ?_
  refine Z1 ?_
  refine .p (cB encU8 [127]) rfl ?_
  refine Z7 ?_
  refine Rt2 ?_ ?_
  · first | (refine VLe.trans (sliceV_nil 1 encU8) (VLe.of_eq ?_); unfold takesR; repeat (first | rfl | rw [if_pos (by assumption)] | rw [if_neg (by assumption)])) | (refine VLe.of_eq ?_; unfold takesR; repeat (first | rfl | rw [if_pos (by assumption)] | rw [if_neg (by assumption)]))
  first | (refine VLe.trans (sliceV_nil 1 encU8) (VLe.of_eq ?_); unfold takesR; repeat (first | rfl | rw [if_pos (by assumption)] | rw [if_neg (by assumption)])) | (refine VLe.of_eq ?_; unfold takesR; repeat (first | rfl | rw [if_pos (by assumption)] | rw [if_neg (by assumption)]))
 refine Z11 ?_
 refine Cd (fun c9 => ?_) fun c9 => ?_
 ·
  refine Z4 ?_
  refine .p (cB encU8 [126, 126]) rfl ?_
  refine Z1 ?_
  refine .p (cB encU8 [127]) rfl ?_
  refine Z7 ?_
  refine Rt2 ?_ ?_
  · first | (refine VLe.trans (sliceV_nil 1 encU8) (VLe.of_eq ?_); unfold takesR; repeat (first | rfl | rw [if_pos (by assumption)] | rw [if_neg (by assumption)])) | (refine VLe.of_eq ?_; unfold takesR; repeat (first | rfl | rw [if_pos (by assumption)] | rw [if_neg (by assumption)]))
  first | (refine VLe.trans (sliceV_nil 1 encU8) (VLe.of_eq ?_); unfold takesR; repeat (first | rfl | rw [if_pos (by assumption)] | rw [if_neg (by assumption)])) | (refine VLe.of_eq ?_; unfold takesR; repeat (first | rfl | rw [if_pos (by assumption)] | rw [if_neg (by assumption)]))
 refine Z11 ?_
 refine Cd (fun c10 => ?_) fun c10 => ?_
 ·
  refine Z4 ?_
  refine .p (cB encU8 [126, 126]) rfl ?_
  refine Z1 ?_
  refine .p (cB encU8 [126]) rfl ?_
  refine Z7 ?_
  refine Rt2 ?_ ?_
  · first | (refine VLe.trans (sliceV_nil 1 encU8) (VLe.of_eq ?_); unfold takesR; repeat (first | rfl | rw [if_pos (by assumption)] | rw [if_neg (by assumption)])) | (refine VLe.of_eq ?_; unfold takesR; repeat (first | rfl | rw [if_pos (by assumption)] | rw [if_neg (by assumption)]))
  first | (refine VLe.trans (sliceV_nil 1 encU8) (VLe.of_eq ?_); unfold takesR; repeat (first | rfl | rw [if_pos (by assumption)] | rw [if_neg (by assumption)])) | (refine VLe.of_eq ?_; unfold takesR; repeat (first | rfl | rw [if_pos (by assumption)] | rw [if_neg (by assumption)]))
 refine Z11 ?_
 refine Cd (fun c11 => ?_) fun c11 => ?_
 ·
  refine Z3 ?_
  refine .p (cB encU8 [127]) rfl ?_
  refine Z1 ?_
  refine .p (cB encU8 [126]) rfl ?_
  refine Z7 ?_
  refine Rt2 ?_ ?_
  · first | (refine VLe.trans (sliceV_nil 1 encU8) (VLe.of_eq ?_); unfold takesR; repeat (first | rfl | rw [if_pos (by assumption)] | rw [if_neg (by assumption)])) | (refine VLe.of_eq ?_; unfold takesR; repeat (first | rfl | rw [if_pos (by assumption)] | rw [if_neg (by assumption)]))
  first | (refine VLe.trans (sliceV_nil 1 encU8) (VLe.of_eq ?_); unfold takesR; repeat (first | rfl | rw [if_pos (by assumption)] | rw [if_neg (by assumption)])) | (refine VLe.of_eq ?_; unfold takesR; repeat (first | rfl | rw [if_pos (by assumption)] | rw [if_neg (by assumption)]))
 refine Z19 ?_
 refine Cd (fun c12 => ?_) fun c12 => ?_
 ·
  refine Z3 ?_
  refine .p (cB encU8 [126]) rfl ?_
  refine Z1 ?_
  refine .p (cB encU8 [126]) rfl ?_
  refine Z7 ?_
  refine Rt2 ?_ ?_
  · first | (refine VLe.trans (sliceV_nil 1 encU8) (VLe.of_eq ?_); unfold takesR; repeat (first | rfl | rw [if_pos (by assumption)] | rw [if_neg (by assumption)])) | (refine VLe.of_eq ?_; unfold takesR; repeat (first | rfl | rw [if_pos (by assumption)] | rw [if_neg (by assumption)]))
  first | (refine VLe.trans (sliceV_nil 1 encU8) (VLe.of_eq ?_); unfold takesR; repeat (first | rfl | rw [if_pos (by assumption)] | rw [if_neg (by assumption)])) | (refine VLe.of_eq ?_; unfold takesR; repeat (first | rfl | rw [if_pos (by assumption)] | rw [if_neg (by assumption)]))
 refine Z7 ?_
 refine Cd (fun c13 => ?_) fun c13 => ?_
 ·
  refine Z5 ?_
  refine .p (cB encU8 [127, 127, 127]) rfl ?_
  refine Z7 ?_
  refine Rt2 ?_ ?_
  · first | (refine VLe.trans (sliceV_nil 1 encU8) (VLe.of_eq ?_); unfold takesR; repeat (first | rfl | rw [if_pos (by assumption)] | rw [if_neg (by assumption)])) | (refine VLe.of_eq ?_; unfold takesR; repeat (first | rfl | rw [if_pos (by assumption)] | rw [if_neg (by assumption)]))
  first | (refine VLe.trans (sliceV_nil 1 encU8) (VLe.of_eq ?_); unfold takesR; repeat (first | rfl | rw [if_pos (by assumption)] | rw [if_neg (by assumption)])) | (refine VLe.of_eq ?_; unfold takesR; repeat (first | rfl | rw [if_pos (by assumption)] | rw [if_neg (by assumption)]))
 refine Z6 ?_
 refine .p (cB encU8 [127]) rfl ?_
 refine Z1 ?_
 refine .p (cB encU8 [127]) rfl ?_
 refine Z5 ?_
 refine Rt2 ?_ ?_
 · first | (refine VLe.trans (sliceV_nil 1 encU8) (VLe.of_eq ?_); unfold takesR; repeat (first | rfl | rw [if_pos (by assumption)] | rw [if_neg (by assumption)])) | (refine VLe.of_eq ?_; unfold takesR; repeat (first | rfl | rw [if_pos (by assumption)] | rw [if_neg (by assumption)]))
 first | (refine VLe.trans (sliceV_nil 1 encU8) (VLe.of_eq ?_); unfold takesR; repeat (first | rfl | rw [if_pos (by assumption)] | rw [if_neg (by assumption)])) | (refine VLe.of_eq ?_; unfold takesR; repeat (first | rfl | rw [if_pos (by assumption)] | rw [if_neg (by assumption)]))
theorem rwidth_spec : FnP Tryz.prog 133 [intV .i64 code] (intV .i64 (widthR code)) := by
 refine In 27 Tryz.func133 fun _ _ _ => ?_
 refine Z12 ?_
 refine .cut (σ := Unit) (fun _ => []) (fun _ => [(4, propV (code = 40 ∨ code = 52 ∨ code = 53 ∨ code = 54 ∨ code = 62))]) (fun _ => True) ?_ ?_
 ·
  refine Z6 ?_
  refine Cd (fun c0 => ?_) fun c0 => ?_
  ·
   refine Z1 ?_
   refine .meet () trivial rfl (.get rfl (VLe.prop (by omega)) (.keep 2 rfl rfl))
  refine Z6 ?_
  refine Cd (fun c1 => ?_) fun c1 => ?_
  ·
   refine Z1 ?_
   refine .meet () trivial rfl (.get rfl (VLe.prop (by omega)) (.keep 4 rfl rfl))
  refine Z6 ?_
  refine Cd (fun c2 => ?_) fun c2 => ?_
  ·
   refine Z1 ?_
   refine .meet () trivial rfl (.get rfl (VLe.prop (by omega)) (.keep 6 rfl rfl))
  refine Z6 ?_
  refine Cd (fun c3 => ?_) fun c3 => ?_
  ·
   refine Z1 ?_
   refine .meet () trivial rfl (.get rfl (VLe.prop (by omega)) (.keep 8 rfl rfl))
  refine Z4 ?_
  refine .meet () trivial rfl (.get rfl (VLe.prop (by omega)) (.keep 10 rfl rfl))
 intro _ _
 refine Cd (fun c4 => ?_) fun c4 => ?_
 ·
  refine Z8 ?_
  refine Rt1 ?_
  exact VLe.int (by unfold widthR; repeat (first | rfl | rw [if_pos (by assumption)] | rw [if_neg (by assumption)]))
 refine .cut (σ := Unit) (fun _ => []) (fun _ => [(10, propV (code = 41 ∨ code = 55))]) (fun _ => True) ?_ ?_
 ·
  refine Z6 ?_
  refine Cd (fun c5 => ?_) fun c5 => ?_
  ·
   refine Z1 ?_
   refine .meet () trivial rfl (.get rfl (VLe.prop (by omega)) (.keep 2 rfl rfl))
  refine Z4 ?_
  refine .meet () trivial rfl (.get rfl (VLe.prop (by omega)) (.keep 4 rfl rfl))
 intro _ _
 refine Cd (fun c6 => ?_) fun c6 => ?_
 ·
  refine Z8 ?_
  refine Rt1 ?_
  exact VLe.int (by unfold widthR; repeat (first | rfl | rw [if_pos (by assumption)] | rw [if_neg (by assumption)]))
 refine .cut (σ := Unit) (fun _ => []) (fun _ => [(13, propV (code = 44 ∨ code = 45 ∨ code = 48 ∨ code = 49 ∨ code = 58 ∨ code = 60))]) (fun _ => True) ?_ ?_
 ·
  refine Z6 ?_
  refine Cd (fun c7 => ?_) fun c7 => ?_
  ·
   refine Z1 ?_
   refine .meet () trivial rfl (.get rfl (VLe.prop (by omega)) (.keep 2 rfl rfl))
  refine Z6 ?_
  refine Cd (fun c8 => ?_) fun c8 => ?_
  ·
   refine Z1 ?_
   refine .meet () trivial rfl (.get rfl (VLe.prop (by omega)) (.keep 4 rfl rfl))
  refine Z6 ?_
  refine Cd (fun c9 => ?_) fun c9 => ?_
  ·
   refine Z1 ?_
   refine .meet () trivial rfl (.get rfl (VLe.prop (by omega)) (.keep 6 rfl rfl))
  refine Z6 ?_
  refine Cd (fun c10 => ?_) fun c10 => ?_
  ·
   refine Z1 ?_
   refine .meet () trivial rfl (.get rfl (VLe.prop (by omega)) (.keep 8 rfl rfl))
  refine Z6 ?_
  refine Cd (fun c11 => ?_) fun c11 => ?_
  ·
   refine Z1 ?_
   refine .meet () trivial rfl (.get rfl (VLe.prop (by omega)) (.keep 10 rfl rfl))
  refine Z4 ?_
  refine .meet () trivial rfl (.get rfl (VLe.prop (by omega)) (.keep 12 rfl rfl))
 intro _ _
 refine Cd (fun c12 => ?_) fun c12 => ?_
 ·
  refine Z8 ?_
  refine Rt1 ?_
  exact VLe.int (by unfold widthR; repeat (first | rfl | rw [if_pos (by assumption)] | rw [if_neg (by assumption)]))
 refine .cut (σ := Unit) (fun _ => []) (fun _ => [(20, propV (code = 46 ∨ code = 47 ∨ code = 50 ∨ code = 51 ∨ code = 59 ∨ code = 61))]) (fun _ => True) ?_ ?_
 ·
  refine Z6 ?_
  refine Cd (fun c13 => ?_) fun c13 => ?_
  ·
   refine Z1 ?_
   refine .meet () trivial rfl (.get rfl (VLe.prop (by omega)) (.keep 2 rfl rfl))
  refine Z6 ?_
  refine Cd (fun c14 => ?_) fun c14 => ?_
  ·
   refine Z1 ?_
   refine .meet () trivial rfl (.get rfl (VLe.prop (by omega)) (.keep 4 rfl rfl))
  refine Z6 ?_
  refine Cd (fun c15 => ?_) fun c15 => ?_
  ·
   refine Z1 ?_
   refine .meet () trivial rfl (.get rfl (VLe.prop (by omega)) (.keep 6 rfl rfl))
  refine Z6 ?_
  refine Cd (fun c16 => ?_) fun c16 => ?_
  ·
   refine Z1 ?_
   refine .meet () trivial rfl (.get rfl (VLe.prop (by omega)) (.keep 8 rfl rfl))
  refine Z6 ?_
  refine Cd (fun c17 => ?_) fun c17 => ?_
  ·
   refine Z1 ?_
   refine .meet () trivial rfl (.get rfl (VLe.prop (by omega)) (.keep 10 rfl rfl))
  refine Z4 ?_
  refine .meet () trivial rfl (.get rfl (VLe.prop (by omega)) (.keep 12 rfl rfl))
 intro _ _
 refine Cd (fun c18 => ?_) fun c18 => ?_
 ·
  refine Z8 ?_
  refine Rt1 ?_
  exact VLe.int (by unfold widthR; repeat (first | rfl | rw [if_pos (by assumption)] | rw [if_neg (by assumption)]))
 refine Z9 ?_
 refine Rt1 ?_
 exact VLe.int (by unfold widthR; repeat (first | rfl | rw [if_pos (by assumption)] | rw [if_neg (by assumption)]))
variable {s : Stk} {base : Int}
theorem dtake_spec {w : UInt8} (hp0 : s.1.length ≤ 60000) : FnE Tryz.prog 129 [aggV (encStk s base), intV .u8 ((w : UInt8).toNat : Int)] [] (γ := Stk × UInt8 × Int) (tk1P s w) (fun _ => []) (fun g => tupV [aggV (encStk g.1 base), intV .u8 (g.2.1.toNat : Int), intV .i64 g.2.2]) := by
 refine In 52 Tryz.func129 fun _ _ _ => ?_
 obtain ⟨sl, sd⟩ := s
 simp only at hp0
 refine Z2 ?_
 refine .n (opBoxOA (.t rfl)) rfl fun b2 _ => ?_
 refine .n (opAlloc FZ.out) rfl fun b4 _ => ?_
 refine Z19 ?_
 refine Cd (fun c0 => ?_) fun c0 => ?_
 ·
  have hsl : sl = [] := List.eq_nil_of_length_eq_zero (by have : (sl.length : Int) = 0 := c0; omega)
  subst hsl
  refine Z8 ?_
  refine Cd (fun c1 => ?_) fun c1 => ?_
  ·
   refine Z11 ?_
   refine Post.retR rfl rfl ((([], sd), 0, 5)) (by exact ⟨.inr ⟨by show (5 : Int) ≠ 0; decide, tk1_nil_no c1⟩, Nat.le_refl _⟩) (OLe.sel [] [0, 1] rfl rfl) rfl (.cons (.ra (i := 0) FA.out FC.out rfl rfl rfl rfl) ?_ (.cons (.rt rfl) ?_ (.cons (.rt rfl) ?_ .nil)))
   · exact VLe.refl _
   · exact VLe.refl _
   exact VLe.refl _
  refine Z13 ?_
  refine Post.retR rfl rfl ((([], sd), w, 0)) (by exact ⟨.inl ⟨rfl, tk1_nil (Classical.not_not.1 c1)⟩, Nat.le_refl _⟩) (OLe.sel [] [0, 1] rfl rfl) rfl (.cons (.ra (i := 0) FA.out FC.out rfl rfl rfl rfl) ?_ (.cons (.rt rfl) ?_ (.cons (.rt rfl) ?_ .nil)))
  · exact VLe.refl _
  · exact VLe.refl _
  exact VLe.refl _
 obtain ⟨l, x, rfl⟩ := snoc_of (l := sl) (fun e => c0 (by rw [e]; rfl))
 simp only [List.length_append, List.length_cons, List.length_nil] at hp0
 refine Z7 ?_
 refine .p (opSubF (.t rfl) (.c _) (fits_i64 (by simp <;> omega) (by simp <;> omega))) rfl ?_
 refine .p (cI l.length (h := show (l ++ [x])[l.length]? = some x by simp) (hi := by simp)) rfl ?_
 refine Z6 ?_
 refine .p (opBuildEmpty FU.out FC.out rfl FZ.out rfl) rfl ?_
 refine Z3 ?_
 refine .p (opSubF (.t rfl) (.c _) (fits_i64 (by simp <;> omega) (by simp <;> omega))) rfl ?_
 refine .p (opSliceHi (h := l.length) FU.out FC.out rfl (.t rfl) (.t rfl) (by simp) (by simp)) rfl ?_
 refine .p (opAppendE FU.out FU.out FC.out rfl FZ.out rfl FY.out (.t rfl) (.t rfl) (by simp <;> omega)) rfl ?_
 refine Z20 ?_
 refine Cd (fun c2 => ?_) fun c2 => ?_
 ·
  refine Z10 ?_
  refine Post.retR rfl rfl (((l, sd), 0, 5)) (by exact ⟨.inr ⟨by show (5 : Int) ≠ 0; decide, tk1_bad c2⟩, by (show l.length ≤ _; simp)⟩) (OLe.sel [] [0, 1] rfl rfl) rfl (.cons (.ra (i := 0) FA.out FC.out rfl rfl rfl rfl) ?_ (.cons (.rt rfl) ?_ (.cons (.rt rfl) ?_ .nil)))
  · exact VLe.agg (.cons (VLe.of_eq (by simp)) (.cons (VLe.refl _) (.cons (VLe.refl _) .nil)))
  · exact VLe.refl _
  exact VLe.refl _
 refine Z9 ?_
 refine Cd (fun c3 => ?_) fun c3 => ?_
 ·
  refine Z11 ?_
  refine Post.retR rfl rfl (((l, sd), w, 0)) (by exact ⟨.inl ⟨rfl, by rw [tk1_good c2, if_pos ((u8_zero x).1 c3)]⟩, by (show l.length ≤ _; simp)⟩) (OLe.sel [] [0, 1] rfl rfl) rfl (.cons (.ra (i := 0) FA.out FC.out rfl rfl rfl rfl) ?_ (.cons (.rt rfl) ?_ (.cons (.rt rfl) ?_ .nil)))
  · exact VLe.agg (.cons (VLe.of_eq (by simp)) (.cons (VLe.refl _) (.cons (VLe.refl _) .nil)))
  · exact VLe.refl _
  exact VLe.refl _
 refine Z12 ?_
 refine Post.retR rfl rfl (((l, sd), x, 0)) (by exact ⟨.inl ⟨rfl, by rw [tk1_good c2, if_neg (fun e => c3 ((u8_zero x).2 e))]⟩, by (show l.length ≤ _; simp)⟩) (OLe.sel [] [0, 1] rfl rfl) rfl (.cons (.ra (i := 0) FA.out FC.out rfl rfl rfl rfl) ?_ (.cons (.rt rfl) ?_ (.cons (.rt rfl) ?_ .nil)))
 · exact VLe.agg (.cons (VLe.of_eq (by simp)) (.cons (VLe.refl _) (.cons (VLe.refl _) .nil)))
 · exact VLe.refl _
 exact VLe.refl _
variable {l : List UInt8}
theorem dtakes_spec (hp0 : s.1.length ≤ 60000) : FnE Tryz.prog 96 [aggV (encStk s base), sliceV 1 encU8 (l)] [] (γ := Stk × Int) (tkP s l) (fun _ => []) (fun g => tupV [aggV (encStk g.1 base), intV .i64 g.2]) := by
 refine In 30 Tryz.func96 fun _ _ _ => ?_
 refine .fact (t := 1) rfl (fun S w v h => sliceV_len h) fun hln => ?_
 refine Z2 ?_
 refine .n (opBoxOA (.t rfl)) rfl fun b2 _ => ?_
 refine .n (opAlloc FZ.out) rfl fun b4 _ => ?_
 refine Z13 ?_
 refine .own (OLe.perm (Perm.idx [1, 0] rfl rfl)) ?_
 refine .loopO (σ := Nat × Stk) (fun g => [cellsH b2 (encStk g.2 base), cellsH b4 (List.map exactV [.slice none 0 0, .bool false, .int .i64 0])]) (fun g => [(6, intV .i64 ((g.1 : Int) - 1))]) (fun g => g.1 ≤ l.length ∧ tksS g.2 (l.take g.1) = tksS s l ∧ g.2.1.length ≤ s.1.length) (fun g => g.1) (l.length, s) ⟨Nat.le_refl _, by simp, Nat.le_refl _⟩ rfl ?_ ?_
 · exact (.get rfl (VLe.refl _) (.refl _ _))
 rintro ⟨j, s1⟩ ⟨hj, hinv, hsl⟩
 simp only at hj hinv hsl ⊢
 refine Z7 ?_
 refine Cd (fun c0 => ?_) fun c0 => ?_
 ·
  obtain ⟨t, ht⟩ := getElem?_lt (xs := l) (k := j - 1) (by omega)
  have hjt : tksS s1 (l.take j) = (tk1S s1 t).bind fun p => tksS p.1 (l.take (j - 1)) := by (have h9 := tks_at (s := s1) ht; rwa [show j - 1 + 1 = j by omega] at h9)
  refine Z10 ?_
  refine .stagedK [(0, 1), (1, 0), (2, 0), (3, 0), (4, 0), (5, 2), (6, 0), (7, 0), (8, 0), (9, 0), (10, 3)] 11 1 FM.out (by kernel_rfl) (k := ?_)
  refine Z3 ?_
  refine .p rfl (fun _ => opIndexAddr (j := j - 1) FU.out FC.out rfl (.t rfl) (.t rfl) (by omega) ht) ?_
  refine Z1 ?_
  refine .e rfl (cE (h := dtake_spec (s := s1) (w := t) (by omega))) fun g21 h21 => ?_
  refine Z4 ?_
  refine .s rfl (opStoreOA (i := 0) FC.out rfl (.t rfl) (.t rfl) rfl rfl rfl) ?_
  refine .fin ?_
  refine Z9 ?_
  refine Cd (fun c1 => ?_) fun c1 => ?_
  ·
   refine Z14 ?_
   refine Post.retR rfl rfl ((g21.1, g21.2.2)) (by exact ⟨.inr ⟨c1, by rw [← hinv, hjt, h21.no c1]; rfl⟩, Nat.le_trans h21.2 hsl⟩) (OLe.sel [] [0, 1] rfl rfl) rfl (.cons (.ra (i := 1) FA.out FC.out rfl rfl rfl rfl) ?_ (.cons (.rt rfl) ?_ .nil))
   · exact VLe.refl _
   exact VLe.refl _
  refine Z8 ?_
  refine .round (j - 1, g21.1) ⟨by show j - 1 ≤ _; omega, by (show tksS g21.1 _ = _; rw [← hinv, hjt, h21.ok (Classical.not_not.1 c1)]; rfl), Nat.le_trans h21.2 hsl⟩ (by show j - 1 < j; omega) rfl ?_
  exact (.get rfl (VLe.int (by show (_ : Int) = ((j - 1 : Nat) : Int) - 1; omega)) ((.keep 21 rfl rfl)))
 have hj0 : j = 0 := by omega
 subst hj0
 refine Z13 ?_
 refine Post.retR rfl rfl ((s1, 0)) (by exact ⟨.inl ⟨rfl, by rw [← hinv]; rfl⟩, hsl⟩) (OLe.sel [] [0, 1] rfl rfl) rfl (.cons (.ra (i := 1) FA.out FC.out rfl rfl rfl rfl) ?_ (.cons (.rt rfl) ?_ .nil))
 · exact VLe.refl _
 exact VLe.refl _
theorem dgive_spec (hp0 : s.1.length ≤ 60000) (hp1 : l.length ≤ 60000) : FnE Tryz.prog 98 [aggV (encStk s base), sliceV 1 encU8 (l)] [] (γ := Unit) (fun _ => True) (fun _ => []) (fun _ => aggV (encStk (giveS s l) base)) := by
 refine In 13 Tryz.func98 fun _ _ _ => ?_
 refine Z2 ?_
 refine .n (opBoxOA (.t rfl)) rfl fun b2 _ => ?_
 refine .n (opAlloc FZ.out) rfl fun b4 _ => ?_
 refine Z4 ?_
 refine .n (opBuildSliceO encU8 ([] : List UInt8) FU.out FC.out rfl FZ.out rfl .nil rfl rfl rfl rfl rfl) rfl fun g5 _ => ?_
 refine Z2 ?_
 refine .n (opAppend (i := 0) FU.out FU.out FC.out rfl FZ.out rfl FY.out (.t rfl) (.t rfl) rfl (by simp <;> omega) (by simp <;> omega)) rfl fun g8 _ => ?_
 refine Z1 ?_
 refine .n (OpE.shareS (G := fun g => g) (hs1 := fun _ => _) (xs := fun _ => _) (opAppend (i := 0) FU.out FU.out FC.out rfl FZ.out rfl FY.out (.t rfl) (.t rfl) rfl (by simp <;> omega) (by simp <;> omega))) rfl fun _ _ => ?_
 refine Z11 ?_
 refine Post.retR1 rfl (()) (by trivial) (OLe.sel [] [0, 1] rfl rfl) (.ra (i := 0) FA.out FC.out rfl rfl rfl rfl) ?_
 exact VLe.agg (.cons (VLe.of_eq (by simp [giveS])) (.cons (VLe.refl _) (.cons (VLe.refl _) .nil)))
theorem dkill_spec : FnE Tryz.prog 130 [aggV (encStk s base)] [] (γ := Unit) (fun _ => True) (fun _ => []) (fun _ => aggV (encStk killS base)) := by
 refine In 6 Tryz.func130 fun _ _ _ => ?_
 refine Z3 ?_
 refine .n (opAlloc FZ.out) rfl fun b2 _ => ?_
 refine Z11 ?_
 refine Post.retR1 rfl (()) (by trivial) (OLe.sel [] [0] rfl rfl) (.ra (i := 0) FA.out FC.out rfl rfl rfl rfl) ?_
 exact VLe.agg (.cons (sliceV_nil 1 encU8) (.cons (VLe.refl _) (.cons (VLe.refl _) .nil)))
theorem dsame_spec {a b : List UInt8} : FnP Tryz.prog 131 [sliceV 1 encU8 (a), sliceV 1 encU8 (b)] (propV (a = b)) := by
 refine In 10 Tryz.func131 fun _ _ _ => ?_
 refine Z16 ?_
 refine Rt1 ?_
 exact VLe.refl _
variable {v : EnvD} {x : InstrD} {labs : List (List UInt8)}
theorem dp0_spec (hp0 : PlOk v x s labs) (hp1 : x.Code = 0) : FnE Tryz.prog 97 [aggV (encEnv v), aggV (encInstr x), aggV (encStk s base), sliceV 1 encSlT labs] [] (γ := Stk × Int) (plQ s (plS v x s labs)) (fun _ => []) (fun g => tupV [aggV (encStk g.1 base), intV .i64 g.2]) := by
 refine In 517 Tryz.func97 fun _ _ _ => ?_
 have hs5 := hp0.stk
 have hA0 := hp0.ins.A0
 have hA6 := hp0.ins.A64
 have hln := hp0.lbn
 have hE := hp0.env
 have hf1 := hE.F
 have hf2 := hE.S
 have hf3 := hE.L
 have hf4 := hE.G
 have hf5 := hE.W
 refine Z4 ?_
 refine .n (opBoxOA (.t rfl)) rfl fun b6 _ => ?_
 refine .n (opAlloc FZ.out) rfl fun b8 _ => ?_
 refine Z35 ?_
 refine Cd (fun c0 => ?_) fun c0 => ?_
 ·
  refine Z3 ?_
  refine .n (cE (h := dkill_spec (s := s))) rfl fun g37 h37 => ?_
  refine Z7 ?_
  refine Post.retR rfl rfl ((killS, 0)) (by exact plQ_ok (plS_0 hp1) (by simp [killS])) (OLe.sel [] [0, 1] rfl rfl) rfl (.cons (.ra (i := 0) FA.out FC.out rfl rfl rfl rfl) ?_ (.cons (.rt rfl) ?_ .nil))
  · exact VLe.refl _
  exact VLe.refl _
 exfalso; omega
theorem dp12_spec (hp0 : PlOk v x s labs) (hp1 : x.Code = 12) : FnE Tryz.prog 97 [aggV (encEnv v), aggV (encInstr x), aggV (encStk s base), sliceV 1 encSlT labs] [] (γ := Stk × Int) (plQ s (plS v x s labs)) (fun _ => []) (fun g => tupV [aggV (encStk g.1 base), intV .i64 g.2]) := by
 refine In 517 Tryz.func97 fun _ _ _ => ?_
 have hs5 := hp0.stk
 have hA0 := hp0.ins.A0
 have hA6 := hp0.ins.A64
 have hln := hp0.lbn
 have hE := hp0.env
 have hf1 := hE.F
 have hf2 := hE.S
 have hf3 := hE.L
 have hf4 := hE.G
 have hf5 := hE.W
 refine Z4 ?_
 refine .n (opBoxOA (.t rfl)) rfl fun b6 _ => ?_
 refine .n (opAlloc FZ.out) rfl fun b8 _ => ?_
 refine Z35 ?_
 refine Cd (fun c0 => ?_) fun c0 => ?_
 · exfalso; omega
 refine Z7 ?_
 refine Cd (fun c1 => ?_) fun c1 => ?_
 ·
  refine Z2 ?_
  refine Cd (fun c2 => ?_) fun c2 => ?_
  ·
   refine Z10 ?_
   refine Cd (fun c3 => ?_) fun c3 => ?_
   ·
    have hno := labAt_no (L := labs) c3
    refine Z11 ?_
    refine Post.retR rfl rfl ((s, 2)) (by exact plQ_no (by decide) (by rw [plS_12 hp1, hno]; rfl) (by omega)) (OLe.sel [] [0, 1] rfl rfl) rfl (.cons (.ra (i := 0) FA.out FC.out rfl rfl rfl rfl) ?_ (.cons (.rt rfl) ?_ .nil))
    · exact VLe.refl _
    exact VLe.refl _
   obtain ⟨w, hw, hw2⟩ := labAt_at (L := labs) hA0 c3
   have hwl : w.length ≤ 20 := hp0.lbw w (List.mem_of_getElem? hw2)
   refine Z11 ?_
   refine .p (cI (labs.length - 1 - x.A.toNat) (h := hw2)) rfl ?_
   refine Z12 ?_
   refine Cd (fun c4 => ?_) fun c4 => ?_
   · exfalso; omega
   refine Z6 ?_
   refine .n (cE (h := dtakes_spec (s := s) (l := w) (by omega))) rfl fun g73 h73 => ?_
   refine Z14 ?_
   refine Cd (fun c5 => ?_) fun c5 => ?_
   ·
    refine Z12 ?_
    refine Post.retR rfl rfl (g73) (by exact plQ_no c5 (by rw [plS_12 hp1, hw, Option.bind_some, h73.no c5]; rfl) (by have := h73.2; omega)) (OLe.sel [] [0, 1] rfl rfl) rfl (.cons (.ra (i := 0) FA.out FC.out rfl rfl rfl rfl) ?_ (.cons (.rt rfl) ?_ .nil))
    · exact VLe.refl _
    exact VLe.refl _
   refine Z10 ?_
   refine Cd (fun c6 => ?_) fun c6 => ?_
   ·
    refine Z3 ?_
    refine .n (cE (h := dkill_spec (s := g73.1))) rfl fun g84 h84 => ?_
    refine Z8 ?_
    refine Post.retR rfl rfl ((killS, 0)) (by exact plQ_ok (by rw [plS_12 hp1, hw, Option.bind_some, h73.ok (Classical.not_not.1 c5)]; rfl) (by simp [killS])) (OLe.sel [] [0, 1] rfl rfl) rfl (.cons (.ra (i := 0) FA.out FC.out rfl rfl rfl rfl) ?_ (.cons (.rt rfl) ?_ .nil))
    · exact VLe.refl _
    exact VLe.refl _
   exfalso; omega
  exfalso; omega
 exfalso; omega
theorem dp13_spec (hp0 : PlOk v x s labs) (hp1 : x.Code = 13) : FnE Tryz.prog 97 [aggV (encEnv v), aggV (encInstr x), aggV (encStk s base), sliceV 1 encSlT labs] [] (γ := Stk × Int) (plQ s (plS v x s labs)) (fun _ => []) (fun g => tupV [aggV (encStk g.1 base), intV .i64 g.2]) := by
 refine In 517 Tryz.func97 fun _ _ _ => ?_
 have hs5 := hp0.stk
 have hA0 := hp0.ins.A0
 have hA6 := hp0.ins.A64
 have hln := hp0.lbn
 have hE := hp0.env
 have hf1 := hE.F
 have hf2 := hE.S
 have hf3 := hE.L
 have hf4 := hE.G
 have hf5 := hE.W
 refine Z4 ?_
 refine .n (opBoxOA (.t rfl)) rfl fun b6 _ => ?_
 refine .n (opAlloc FZ.out) rfl fun b8 _ => ?_
 refine Z35 ?_
 refine Cd (fun c0 => ?_) fun c0 => ?_
 · exfalso; omega
 refine Z7 ?_
 refine Cd (fun c1 => ?_) fun c1 => ?_
 · exfalso; omega
 refine Z5 ?_
 refine Cd (fun c2 => ?_) fun c2 => ?_
 ·
  refine Z10 ?_
  refine Cd (fun c3 => ?_) fun c3 => ?_
  ·
   have hno := labAt_no (L := labs) c3
   refine Z11 ?_
   refine Post.retR rfl rfl ((s, 2)) (by exact plQ_no (by decide) (by rw [plS_13 hp1, hno]; rfl) (by omega)) (OLe.sel [] [0, 1] rfl rfl) rfl (.cons (.ra (i := 0) FA.out FC.out rfl rfl rfl rfl) ?_ (.cons (.rt rfl) ?_ .nil))
   · exact VLe.refl _
   exact VLe.refl _
  obtain ⟨w, hw, hw2⟩ := labAt_at (L := labs) hA0 c3
  have hwl : w.length ≤ 20 := hp0.lbw w (List.mem_of_getElem? hw2)
  refine Z11 ?_
  refine .p (cI (labs.length - 1 - x.A.toNat) (h := hw2)) rfl ?_
  refine Z12 ?_
  refine Cd (fun c4 => ?_) fun c4 => ?_
  ·
   refine Z4 ?_
   refine .p (cB encU8 [127]) rfl ?_
   refine .n (cE (h := dtakes_spec (s := s) (l := [127]) (by omega))) rfl fun g63 h63 => ?_
   refine Z13 ?_
   refine Cd (fun c5 => ?_) fun c5 => ?_
   ·
    refine Z12 ?_
    refine Post.retR rfl rfl (g63) (by exact plQ_no c5 (by rw [plS_13 hp1, hw, Option.bind_some, tgS, tks_snoc2, h63.no c5]; rfl) (by have := h63.2; omega)) (OLe.sel [] [0, 1] rfl rfl) rfl (.cons (.ra (i := 0) FA.out FC.out rfl rfl rfl rfl) ?_ (.cons (.rt rfl) ?_ .nil))
    · exact VLe.refl _
    exact VLe.refl _
   refine Z6 ?_
   refine .n (cE (h := dtakes_spec (s := g63.1) (l := w) (by have := h63.2; omega))) rfl fun g73 h73 => ?_
   refine Z14 ?_
   refine Cd (fun c6 => ?_) fun c6 => ?_
   ·
    refine Z12 ?_
    refine Post.retR rfl rfl (g73) (by exact plQ_no c6 (by rw [plS_13 hp1, hw, Option.bind_some, tgS, tks_snoc2, h63.ok (Classical.not_not.1 c5), Option.bind_some, h73.no c6]; rfl) (by have := h63.2; have := h73.2; omega)) (OLe.sel [] [0, 1] rfl rfl) rfl (.cons (.ra (i := 0) FA.out FC.out rfl rfl rfl rfl) ?_ (.cons (.rt rfl) ?_ .nil))
    · exact VLe.refl _
    exact VLe.refl _
   refine Z10 ?_
   refine Cd (fun c7 => ?_) fun c7 => ?_
   · exfalso; omega
   refine Z6 ?_
   refine .n (cE (h := dgive_spec (s := g73.1) (l := w) (by have := h63.2; have := h73.2; omega) (by omega))) rfl fun g87 h87 => ?_
   refine Z7 ?_
   refine Post.retR rfl rfl ((giveS g73.1 w, 0)) (by exact plQ_ok (by rw [plS_13 hp1, hw, Option.bind_some, tgS, tks_snoc2, h63.ok (Classical.not_not.1 c5), Option.bind_some, h73.ok (Classical.not_not.1 c6)]; rfl) (by have := h63.2; have := h73.2; simp only [giveS, List.length_append]; omega)) (OLe.sel [] [0, 1] rfl rfl) rfl (.cons (.ra (i := 0) FA.out FC.out rfl rfl rfl rfl) ?_ (.cons (.rt rfl) ?_ .nil))
   · exact VLe.refl _
   exact VLe.refl _
  exfalso; omega
 exfalso; omega
theorem dp15_spec (hp0 : PlOk v x s labs) (hp1 : x.Code = 15) : FnE Tryz.prog 97 [aggV (encEnv v), aggV (encInstr x), aggV (encStk s base), sliceV 1 encSlT labs] [] (γ := Stk × Int) (plQ s (plS v x s labs)) (fun _ => []) (fun g => tupV [aggV (encStk g.1 base), intV .i64 g.2]) := by
 refine In 517 Tryz.func97 fun _ _ _ => ?_
 have hs5 := hp0.stk
 have hA0 := hp0.ins.A0
 have hA6 := hp0.ins.A64
 have hln := hp0.lbn
 have hE := hp0.env
 have hf1 := hE.F
 have hf2 := hE.S
 have hf3 := hE.L
 have hf4 := hE.G
 have hf5 := hE.W
 refine Z4 ?_
 refine .n (opBoxOA (.t rfl)) rfl fun b6 _ => ?_
 refine .n (opAlloc FZ.out) rfl fun b8 _ => ?_
 refine Z35 ?_
 refine Cd (fun c0 => ?_) fun c0 => ?_
 · exfalso; omega
 refine Z7 ?_
 refine Cd (fun c1 => ?_) fun c1 => ?_
 · exfalso; omega
 refine Z5 ?_
 refine Cd (fun c2 => ?_) fun c2 => ?_
 · exfalso; omega
 refine Z6 ?_
 refine Cd (fun c3 => ?_) fun c3 => ?_
 · exfalso; omega
 refine Z6 ?_
 refine Cd (fun c4 => ?_) fun c4 => ?_
 ·
  refine Z6 ?_
  refine .n (cE (h := dtakes_spec (s := s) (l := v.Own.R) (by omega))) rfl fun g168 h168 => ?_
  refine Z14 ?_
  refine Cd (fun c5 => ?_) fun c5 => ?_
  ·
   refine Z12 ?_
   refine Post.retR rfl rfl (g168) (by exact plQ_no c5 (by rw [plS_15 hp1, h168.no c5]; rfl) (by have := h168.2; omega)) (OLe.sel [] [0, 1] rfl rfl) rfl (.cons (.ra (i := 0) FA.out FC.out rfl rfl rfl rfl) ?_ (.cons (.rt rfl) ?_ .nil))
   · exact VLe.refl _
   exact VLe.refl _
  refine Z5 ?_
  refine .n (cE (h := dkill_spec (s := g168.1))) rfl fun g176 h176 => ?_
  refine Z7 ?_
  refine Post.retR rfl rfl ((killS, 0)) (by exact plQ_ok (by rw [plS_15 hp1, h168.ok (Classical.not_not.1 c5)]; rfl) (by simp [killS])) (OLe.sel [] [0, 1] rfl rfl) rfl (.cons (.ra (i := 0) FA.out FC.out rfl rfl rfl rfl) ?_ (.cons (.rt rfl) ?_ .nil))
  · exact VLe.refl _
  exact VLe.refl _
 exfalso; omega
theorem dp16_spec (hp0 : PlOk v x s labs) (hp1 : x.Code = 16) : FnE Tryz.prog 97 [aggV (encEnv v), aggV (encInstr x), aggV (encStk s base), sliceV 1 encSlT labs] [] (γ := Stk × Int) (plQ s (plS v x s labs)) (fun _ => []) (fun g => tupV [aggV (encStk g.1 base), intV .i64 g.2]) := by
 refine In 517 Tryz.func97 fun _ _ _ => ?_
 have hs5 := hp0.stk
 have hA0 := hp0.ins.A0
 have hA6 := hp0.ins.A64
 have hln := hp0.lbn
 have hE := hp0.env
 have hf1 := hE.F
 have hf2 := hE.S
 have hf3 := hE.L
 have hf4 := hE.G
 have hf5 := hE.W
 refine Z4 ?_
 refine .n (opBoxOA (.t rfl)) rfl fun b6 _ => ?_
 refine .n (opAlloc FZ.out) rfl fun b8 _ => ?_
 refine Z35 ?_
 refine Cd (fun c0 => ?_) fun c0 => ?_
 · exfalso; omega
 refine Z7 ?_
 refine Cd (fun c1 => ?_) fun c1 => ?_
 · exfalso; omega
 refine Z5 ?_
 refine Cd (fun c2 => ?_) fun c2 => ?_
 · exfalso; omega
 refine Z6 ?_
 refine Cd (fun c3 => ?_) fun c3 => ?_
 · exfalso; omega
 refine Z6 ?_
 refine Cd (fun c4 => ?_) fun c4 => ?_
 · exfalso; omega
 refine Z6 ?_
 refine Cd (fun c5 => ?_) fun c5 => ?_
 ·
  refine Z12 ?_
  refine Cd (fun c6 => ?_) fun c6 => ?_
  ·
   have hno := getI_no (L := v.Funcs) c6
   refine Z11 ?_
   refine Post.retR rfl rfl ((s, 2)) (by exact plQ_no (by decide) (by rw [plS_16 hp1, hno]; rfl) (by omega)) (OLe.sel [] [0, 1] rfl rfl) rfl (.cons (.ra (i := 0) FA.out FC.out rfl rfl rfl rfl) ?_ (.cons (.rt rfl) ?_ .nil))
   · exact VLe.refl _
   exact VLe.refl _
  obtain ⟨sg, hw, hw2⟩ := getI_at (L := v.Funcs) hA0 c6
  refine Z3 ?_
  have hsg := hE.sf sg (List.mem_of_getElem? hw2)
  refine .stagedK [(0, 1), (1, 0), (2, 0), (3, 0), (4, 0), (5, 0), (6, 0), (7, 0), (8, 2), (9, 0), (10, 0), (11, 0), (12, 3)] 13 1 FM.out (by kernel_rfl) (k := ?_)
  refine Z5 ?_
  refine .p rfl (fun _ => opIndexAddr (j := x.A.toNat) FU.out FC.out rfl (.t rfl) (.t rfl) (by omega) hw2) ?_
  refine Z2 ?_
  refine .e rfl (cE (h := dtakes_spec (s := s) (l := sg.P) (by omega))) fun g196 h196 => ?_
  refine Z3 ?_
  refine .s rfl (opStoreOA (i := 1) FC.out rfl (.t rfl) (.t rfl) rfl rfl rfl) ?_
  refine .fin ?_
  refine Z4 ?_
  refine .stagedK [(0, 1), (1, 0), (2, 0), (3, 0), (4, 0), (5, 0), (6, 0), (7, 0), (9, 0), (8, 2), (10, 3)] 11 1 FM.out (by kernel_rfl) (k := ?_)
  refine Z5 ?_
  refine .p rfl (fun _ => opIndexAddr (j := x.A.toNat) FU.out FC.out rfl (.t rfl) (.t rfl) (by omega) hw2) ?_
  refine Z3 ?_
  refine .e rfl (cE (h := dgive_spec (s := g196.1) (l := sg.R) (by have := h196.2; omega) (by omega))) fun g207 h207 => ?_
  refine .s rfl (opStoreOA (i := 0) FC.out rfl (.t rfl) (.t rfl) rfl rfl rfl) ?_
  refine .fin ?_
  refine Z6 ?_
  refine Post.retR rfl rfl ((giveS g196.1 sg.R, g196.2)) (by exact plQ_tg (by rw [plS_16 hp1, hw, Option.bind_some]) h196 hsg.2) (OLe.sel [] [0, 1] rfl rfl) rfl (.cons (.ra (i := 0) FA.out FC.out rfl rfl rfl rfl) ?_ (.cons (.rt rfl) ?_ .nil))
  · exact VLe.refl _
  exact VLe.refl _
 exfalso; omega
theorem dp26_spec (hp0 : PlOk v x s labs) (hp1 : x.Code = 26) : FnE Tryz.prog 97 [aggV (encEnv v), aggV (encInstr x), aggV (encStk s base), sliceV 1 encSlT labs] [] (γ := Stk × Int) (plQ s (plS v x s labs)) (fun _ => []) (fun g => tupV [aggV (encStk g.1 base), intV .i64 g.2]) := by
 refine In 517 Tryz.func97 fun _ _ _ => ?_
 have hs5 := hp0.stk
 have hA0 := hp0.ins.A0
 have hA6 := hp0.ins.A64
 have hln := hp0.lbn
 have hE := hp0.env
 have hf1 := hE.F
 have hf2 := hE.S
 have hf3 := hE.L
 have hf4 := hE.G
 have hf5 := hE.W
 refine Z4 ?_
 refine .n (opBoxOA (.t rfl)) rfl fun b6 _ => ?_
 refine .n (opAlloc FZ.out) rfl fun b8 _ => ?_
 refine Z35 ?_
 refine Cd (fun c0 => ?_) fun c0 => ?_
 · exfalso; omega
 refine Z7 ?_
 refine Cd (fun c1 => ?_) fun c1 => ?_
 · exfalso; omega
 refine Z5 ?_
 refine Cd (fun c2 => ?_) fun c2 => ?_
 · exfalso; omega
 refine Z6 ?_
 refine Cd (fun c3 => ?_) fun c3 => ?_
 · exfalso; omega
 refine Z6 ?_
 refine Cd (fun c4 => ?_) fun c4 => ?_
 · exfalso; omega
 refine Z6 ?_
 refine Cd (fun c5 => ?_) fun c5 => ?_
 · exfalso; omega
 refine Z6 ?_
 refine Cd (fun c6 => ?_) fun c6 => ?_
 · exfalso; omega
 refine Z6 ?_
 refine Cd (fun c7 => ?_) fun c7 => ?_
 ·
  refine Z3 ?_
  refine .n (cE (h := dtake_spec (s := s) (w := 0) (by omega))) rfl fun g260 h260 => ?_
  refine Z19 ?_
  refine Post.retR rfl rfl ((g260.1, g260.2.2)) (by exact ⟨by (rw [plS_26 hp1]; rcases h260.1 with ⟨h1, h2⟩ | ⟨h1, h2⟩; exact .inl ⟨h1, by rw [h2]; rfl⟩; exact .inr ⟨h1, by rw [h2]; rfl⟩), by have := h260.2; (show g260.1.1.length ≤ _; omega)⟩) (OLe.sel [] [0, 1] rfl rfl) rfl (.cons (.ra (i := 0) FA.out FC.out rfl rfl rfl rfl) ?_ (.cons (.rt rfl) ?_ .nil))
  · exact VLe.refl _
  exact VLe.refl _
 exfalso; omega
theorem dp27_spec (hp0 : PlOk v x s labs) (hp1 : x.Code = 27) : FnE Tryz.prog 97 [aggV (encEnv v), aggV (encInstr x), aggV (encStk s base), sliceV 1 encSlT labs] [] (γ := Stk × Int) (plQ s (plS v x s labs)) (fun _ => []) (fun g => tupV [aggV (encStk g.1 base), intV .i64 g.2]) := by
 refine In 517 Tryz.func97 fun _ _ _ => ?_
 have hs5 := hp0.stk
 have hA0 := hp0.ins.A0
 have hA6 := hp0.ins.A64
 have hln := hp0.lbn
 have hE := hp0.env
 have hf1 := hE.F
 have hf2 := hE.S
 have hf3 := hE.L
 have hf4 := hE.G
 have hf5 := hE.W
 refine Z4 ?_
 refine .n (opBoxOA (.t rfl)) rfl fun b6 _ => ?_
 refine .n (opAlloc FZ.out) rfl fun b8 _ => ?_
 refine Z35 ?_
 refine Cd (fun c0 => ?_) fun c0 => ?_
 · exfalso; omega
 refine Z7 ?_
 refine Cd (fun c1 => ?_) fun c1 => ?_
 · exfalso; omega
 refine Z5 ?_
 refine Cd (fun c2 => ?_) fun c2 => ?_
 · exfalso; omega
 refine Z6 ?_
 refine Cd (fun c3 => ?_) fun c3 => ?_
 · exfalso; omega
 refine Z6 ?_
 refine Cd (fun c4 => ?_) fun c4 => ?_
 · exfalso; omega
 refine Z6 ?_
 refine Cd (fun c5 => ?_) fun c5 => ?_
 · exfalso; omega
 refine Z6 ?_
 refine Cd (fun c6 => ?_) fun c6 => ?_
 · exfalso; omega
 refine Z6 ?_
 refine Cd (fun c7 => ?_) fun c7 => ?_
 · exfalso; omega
 refine Z6 ?_
 refine Cd (fun c8 => ?_) fun c8 => ?_
 ·
  refine Z4 ?_
  refine .p (cB encU8 [127]) rfl ?_
  refine .n (cE (h := dtakes_spec (s := s) (l := [127]) (by omega))) rfl fun g272 h272 => ?_
  refine Z14 ?_
  refine Cd (fun c9 => ?_) fun c9 => ?_
  ·
   refine Z12 ?_
   refine Post.retR rfl rfl (g272) (by exact plQ_no c9 (by rw [plS_27 hp1, h272.no c9]; rfl) (by have := h272.2; omega)) (OLe.sel [] [0, 1] rfl rfl) rfl (.cons (.ra (i := 0) FA.out FC.out rfl rfl rfl rfl) ?_ (.cons (.rt rfl) ?_ .nil))
   · exact VLe.refl _
   exact VLe.refl _
  refine Z11 ?_
  refine .n (cE (h := dtake_spec (s := g272.1) (w := 0) (by have := h272.2; omega))) rfl fun g281 h281 => ?_
  refine Z16 ?_
  refine Cd (fun c10 => ?_) fun c10 => ?_
  ·
   refine Z12 ?_
   refine Post.retR rfl rfl ((g281.1, g281.2.2)) (by exact plQ_no c10 (by rw [plS_27 hp1, h272.ok (Classical.not_not.1 c9), Option.bind_some, h281.no c10]; rfl) (by have := h272.2; have := h281.2; omega)) (OLe.sel [] [0, 1] rfl rfl) rfl (.cons (.ra (i := 0) FA.out FC.out rfl rfl rfl rfl) ?_ (.cons (.rt rfl) ?_ .nil))
   · exact VLe.refl _
   exact VLe.refl _
  refine Z6 ?_
  refine .n (cE (h := dtake_spec (s := g281.1) (w := g281.2.1) (by have := h272.2; have := h281.2; omega))) rfl fun g292 h292 => ?_
  refine Z13 ?_
  refine .p (cB encU8 [g292.2.1]) rfl ?_
  refine .n (cE (h := dgive_spec (s := g292.1) (l := [g292.2.1]) (by have := h272.2; have := h281.2; have := h292.2; omega) (by simp))) rfl fun g299 h299 => ?_
  refine Z8 ?_
  refine Post.retR rfl rfl ((giveS g292.1 [g292.2.1], g292.2.2)) (by exact ⟨by (rw [plS_27 hp1, h272.ok (Classical.not_not.1 c9), Option.bind_some, h281.ok (Classical.not_not.1 c10), Option.bind_some]; rcases h292.1 with ⟨h1, h2⟩ | ⟨h1, h2⟩; exact .inl ⟨h1, by rw [h2]; rfl⟩; exact .inr ⟨h1, by rw [h2]; rfl⟩), by have := h272.2; have := h281.2; have := h292.2; (show (g292.1.1 ++ _).length ≤ _; rw [List.length_append]; simp only [List.length_cons, List.length_nil]; omega)⟩) (OLe.sel [] [0, 1] rfl rfl) rfl (.cons (.ra (i := 0) FA.out FC.out rfl rfl rfl rfl) ?_ (.cons (.rt rfl) ?_ .nil))
  · exact VLe.refl _
  exact VLe.refl _
 exfalso; omega
theorem dp14_spec (hp0 : PlOk v x s labs) (hp1 : x.Code = 14) : FnE Tryz.prog 97 [aggV (encEnv v), aggV (encInstr x), aggV (encStk s base), sliceV 1 encSlT labs] [] (γ := Stk × Int) (plQ s (plS v x s labs)) (fun _ => []) (fun g => tupV [aggV (encStk g.1 base), intV .i64 g.2]) := by
 refine In 517 Tryz.func97 fun _ _ _ => ?_
 have hs5 := hp0.stk
 have hA0 := hp0.ins.A0
 have hA6 := hp0.ins.A64
 have hln := hp0.lbn
 have hE := hp0.env
 have hf1 := hE.F
 have hf2 := hE.S
 have hf3 := hE.L
 have hf4 := hE.G
 have hf5 := hE.W
 have hLn := hp0.ins.Ln
 refine Z4 ?_
 refine .n (opBoxOA (.t rfl)) rfl fun b6 _ => ?_
 refine .n (opAlloc FZ.out) rfl fun b8 _ => ?_
 refine Z35 ?_
 refine Cd (fun c0 => ?_) fun c0 => ?_
 · exfalso; omega
 refine Z7 ?_
 refine Cd (fun c1 => ?_) fun c1 => ?_
 · exfalso; omega
 refine Z5 ?_
 refine Cd (fun c2 => ?_) fun c2 => ?_
 · exfalso; omega
 refine Z6 ?_
 refine Cd (fun c3 => ?_) fun c3 => ?_
 ·
  refine Z10 ?_
  refine Cd (fun c4 => ?_) fun c4 => ?_
  ·
   have hno := labAt_no (L := labs) c4
   refine Z11 ?_
   refine Post.retR rfl rfl ((s, 2)) (by exact plQ_no (by decide) (by rw [plS_14 hp1, hno]; rfl) (by omega)) (OLe.sel [] [0, 1] rfl rfl) rfl (.cons (.ra (i := 0) FA.out FC.out rfl rfl rfl rfl) ?_ (.cons (.rt rfl) ?_ .nil))
   · exact VLe.refl _
   exact VLe.refl _
  obtain ⟨w, hw, hw2⟩ := labAt_at (L := labs) hA0 c4
  have hwl : w.length ≤ 20 := hp0.lbw w (List.mem_of_getElem? hw2)
  refine Z11 ?_
  refine .p (cI (labs.length - 1 - x.A.toNat) (h := hw2)) rfl ?_
  refine Z11 ?_
  refine .loopO (σ := Nat) (fun _ => [cellsH b8 (List.map exactV [.slice none 0 0, .bool false, .int .i64 0]), cellsH b6 (encStk s base)]) (fun k => [(16, intV .i64 (k : Int))]) (fun k => k ≤ x.L.length ∧ ∀ n ∈ x.L.take k, n < (labs.length : Int)) (fun k => x.L.length - k) 0 ⟨Nat.zero_le _, by simp⟩ rfl ?_ ?_
  · exact (.get rfl (VLe.refl _) (.refl _ _))
  rintro k ⟨hk, hall⟩
  refine Z10 ?_
  refine Cd (fun c5 => ?_) fun c5 => ?_
  ·
   obtain ⟨n, hn⟩ := getElem?_lt (xs := x.L) (k := k) (by omega)
   have hn0 := hp0.ins.L0 n (List.mem_of_getElem? hn)
   refine Z9 ?_
   refine .p (cI k (h := hn)) rfl ?_
   refine Z6 ?_
   refine Cd (fun c6 => ?_) fun c6 => ?_
   ·
    refine Z15 ?_
    refine Post.retR rfl rfl ((s, 2)) (by exact plQ_no (by decide) (by rw [plS_14 hp1, hw, Option.bind_some]; exact if_neg (fun h => by have h9 := h n (List.mem_of_getElem? hn); rw [labAt_no c6] at h9; cases h9)) (by omega)) (OLe.sel [] [0, 1] rfl rfl) rfl (.cons (.ra (i := 0) FA.out FC.out rfl rfl rfl rfl) ?_ (.cons (.rt rfl) ?_ .nil))
    · exact VLe.refl _
    exact VLe.refl _
   refine Z8 ?_
   refine .round (k + 1) ⟨by omega, fun y hy => by (rw [← take_snoc hn] at hy; rcases List.mem_append.1 hy with hy | hy; exact hall y hy; (simp only [List.mem_singleton] at hy; subst hy; omega))⟩ (by omega) rfl ?_
   exact (.get rfl (VLe.int (by omega)) ((.keep 17 rfl rfl)))
  have hall1 : ∀ n ∈ x.L, n < (labs.length : Int) := fun n hn => hall n (by rw [List.take_of_length_le (by omega)]; exact hn)
  refine Z12 ?_
  refine .loopO (σ := Nat) (fun _ => [cellsH b8 (List.map exactV [.slice none 0 0, .bool false, .int .i64 0]), cellsH b6 (encStk s base)]) (fun k => [(17, intV .i64 (k : Int))]) (fun k => k ≤ x.L.length ∧ ∀ n ∈ x.L.take k, labAt labs n = some w) (fun k => x.L.length - k) 0 ⟨Nat.zero_le _, by simp⟩ rfl ?_ ?_
  · exact (.get rfl (VLe.refl _) (.refl _ _))
  rintro k ⟨hk, hall⟩
  refine Z10 ?_
  refine Cd (fun c7 => ?_) fun c7 => ?_
  ·
   obtain ⟨n, hn⟩ := getElem?_lt (xs := x.L) (k := k) (by omega)
   have hnm := List.mem_of_getElem? hn
   have hn0 := hp0.ins.L0 n hnm
   have hn1 := hall1 n hnm
   obtain ⟨w2, hw3, hw4⟩ := labAt_at (L := labs) hn0 (by omega)
   refine Z12 ?_
   refine .p (cI k (h := hn)) rfl ?_
   refine Z3 ?_
   refine .p (cI (labs.length - 1 - n.toNat) (h := hw4)) rfl ?_
   refine Z2 ?_
   refine .p (cA (h := dsame_spec)) rfl ?_
   refine Z3 ?_
   refine Cd (fun c8 => ?_) fun c8 => ?_
   ·
    refine Z15 ?_
    refine Post.retR rfl rfl ((s, 5)) (by exact plQ_no (by decide) (by rw [plS_14 hp1, hw, Option.bind_some]; exact if_neg (fun h => c8 (by have h9 := h n hnm; rw [hw3] at h9; exact Option.some.inj h9))) (by omega)) (OLe.sel [] [0, 1] rfl rfl) rfl (.cons (.ra (i := 0) FA.out FC.out rfl rfl rfl rfl) ?_ (.cons (.rt rfl) ?_ .nil))
    · exact VLe.refl _
    exact VLe.refl _
   refine Z8 ?_
   refine .round (k + 1) ⟨by omega, fun y hy => by (rw [← take_snoc hn] at hy; rcases List.mem_append.1 hy with hy | hy; exact hall y hy; (simp only [List.mem_singleton] at hy; subst hy; exact hw3.trans (by rw [Classical.not_not.1 c8])))⟩ (by omega) rfl ?_
   exact (.get rfl (VLe.int (by omega)) ((.keep 24 rfl rfl)))
  have hall2 : ∀ n ∈ x.L, labAt labs n = some w := fun n hn => hall n (by rw [List.take_of_length_le (by omega)]; exact hn)
  refine Z6 ?_
  refine .stagedF (FR := [cellsH b6 (encStk s base)]) [(0, 1), (2, 0), (4, 0), (5, 0), (1, 4), (3, 4), (6, 4), (7, 4), (8, 0), (9, 0), (10, 0), (11, 3)] 12 1 FM.out (by kernel_rfl) ?_
  refine .o rfl (opLoadOA (i := 0) FA.out FC.out rfl (.t rfl) rfl rfl) (OLe.sel [1] [0] rfl rfl) ?_
  refine Z2 ?_
  refine .p rfl (fun _ => opBuildSlice (enc := encU8) [127] FU.out FC.out rfl FZ.out rfl (.cons (.t rfl) .nil) rfl rfl rfl rfl rfl) ?_
  refine .a rfl (opBuildSliceO encU8 ([] : List UInt8) FU.out FC.out rfl FZ.out rfl .nil rfl rfl rfl rfl rfl) (fun _ _ => (OLe.sel [2] [0, 1] rfl rfl)) fun g146 _ => ?_
  refine .a rfl (opAppend (i := 0) FU.out FU.out FC.out rfl FZ.out rfl FY.out (.t rfl) (.t rfl) rfl (by simp <;> omega) (by simp <;> omega)) (fun _ _ => (OLe.sel [2] [0, 1] rfl rfl)) fun g148 _ => ?_
  refine .a rfl (OpE.shareS (G := fun g => g) (hs1 := fun _ => _) (xs := fun _ => _) (opAppend (i := 0) FU.out FU.out FC.out rfl FZ.out rfl FY.out (.t rfl) (.t rfl) rfl (by simp <;> omega) (by simp <;> omega))) (fun _ _ => (OLe.sel [1] [0] rfl rfl)) fun _ _ => ?_
  refine .a rfl (cE (h := dtakes_spec (s := s) (l := ([] ++ w) ++ [127]) (by omega))) (fun _ _ => (OLe.sel [1] [0] rfl rfl)) fun g152 h152 => ?_
  refine Z3 ?_
  refine .s rfl (opStoreOA (i := 1) FC.out rfl (.t rfl) (.t rfl) rfl rfl rfl) ?_
  refine .fin ?_
  refine Z10 ?_
  refine Cd (fun c9 => ?_) fun c9 => ?_
  ·
   refine Z12 ?_
   refine Post.retR rfl rfl (g152) (by exact plQ_no c9 (by rw [plS_14 hp1, hw, Option.bind_some]; exact (if_pos hall2).trans (by rw [show tksS s (w ++ [127]) = none from h152.no c9]; rfl)) (by have := h152.2; omega)) (OLe.sel [] [0, 1] rfl rfl) rfl (.cons (.ra (i := 0) FA.out FC.out rfl rfl rfl rfl) ?_ (.cons (.rt rfl) ?_ .nil))
   · exact VLe.refl _
   exact VLe.refl _
  refine Z5 ?_
  refine .n (cE (h := dkill_spec (s := g152.1))) rfl fun g160 h160 => ?_
  refine Z7 ?_
  refine Post.retR rfl rfl ((killS, 0)) (by exact plQ_ok (by rw [plS_14 hp1, hw, Option.bind_some]; exact (if_pos hall2).trans (by rw [show tksS s (w ++ [127]) = some g152.1 from h152.ok (Classical.not_not.1 c9)]; rfl)) (by simp [killS])) (OLe.sel [] [0, 1] rfl rfl) rfl (.cons (.ra (i := 0) FA.out FC.out rfl rfl rfl rfl) ?_ (.cons (.rt rfl) ?_ .nil))
  · exact VLe.refl _
  exact VLe.refl _
 exfalso; omega
theorem dp17_spec (hp0 : PlOk v x s labs) (hp1 : x.Code = 17) : FnE Tryz.prog 97 [aggV (encEnv v), aggV (encInstr x), aggV (encStk s base), sliceV 1 encSlT labs] [] (γ := Stk × Int) (plQ s (plS v x s labs)) (fun _ => []) (fun g => tupV [aggV (encStk g.1 base), intV .i64 g.2]) := by
 refine In 517 Tryz.func97 fun _ _ _ => ?_
 have hs5 := hp0.stk
 have hA0 := hp0.ins.A0
 have hA6 := hp0.ins.A64
 have hln := hp0.lbn
 have hE := hp0.env
 have hf1 := hE.F
 have hf2 := hE.S
 have hf3 := hE.L
 have hf4 := hE.G
 have hf5 := hE.W
 refine Z4 ?_
 refine .n (opBoxOA (.t rfl)) rfl fun b6 _ => ?_
 refine .n (opAlloc FZ.out) rfl fun b8 _ => ?_
 refine Z35 ?_
 refine Cd (fun c0 => ?_) fun c0 => ?_
 · exfalso; omega
 refine Z7 ?_
 refine Cd (fun c1 => ?_) fun c1 => ?_
 · exfalso; omega
 refine Z5 ?_
 refine Cd (fun c2 => ?_) fun c2 => ?_
 · exfalso; omega
 refine Z6 ?_
 refine Cd (fun c3 => ?_) fun c3 => ?_
 · exfalso; omega
 refine Z6 ?_
 refine Cd (fun c4 => ?_) fun c4 => ?_
 · exfalso; omega
 refine Z6 ?_
 refine Cd (fun c5 => ?_) fun c5 => ?_
 · exfalso; omega
 refine Z6 ?_
 refine Cd (fun c6 => ?_) fun c6 => ?_
 ·
  refine Z22 ?_
  refine Cd (fun c7 => ?_) fun c7 => ?_
  ·
   refine Z11 ?_
   refine Post.retR rfl rfl ((s, 2)) (by exact plQ_no (by decide) (by (rw [plS_17 hp1]; rcases c7 with (h | h) | h; (rw [getI_no h]; rfl); (cases getI v.Sigs x.A with | none => rfl | some g => exact if_neg (fun h2 => h h2.1)); (cases getI v.Sigs x.A with | none => rfl | some g => exact if_neg (fun h2 => h h2.2)))) (by omega)) (OLe.sel [] [0, 1] rfl rfl) rfl (.cons (.ra (i := 0) FA.out FC.out rfl rfl rfl rfl) ?_ (.cons (.rt rfl) ?_ .nil))
   · exact VLe.refl _
   exact VLe.refl _
  obtain ⟨sg, hw, hw2⟩ := getI_at (L := v.Sigs) hA0 (fun h => c7 (.inl (.inl h)))
  have hxB : x.B = 0 := Classical.byContradiction fun h => c7 (.inl (.inr h))
  have hvT : v.Table := Classical.byContradiction fun h => c7 (.inr h)
  have hsg := hE.ss sg (List.mem_of_getElem? hw2)
  refine Z3 ?_
  refine .stagedF (FR := [cellsH b6 (encStk s base)]) [(0, 1), (2, 0), (3, 0), (4, 0), (5, 0), (6, 0), (7, 0), (8, 0), (10, 0), (11, 0), (1, 4), (9, 4), (12, 4), (13, 4), (14, 0), (15, 0), (16, 0), (17, 3)] 18 1 FM.out (by kernel_rfl) ?_
  refine .o rfl (opLoadOA (i := 0) FA.out FC.out rfl (.t rfl) rfl rfl) (OLe.sel [1] [0] rfl rfl) ?_
  refine Z4 ?_
  refine .p rfl (fun _ => opIndexAddr (j := x.A.toNat) FU.out FC.out rfl (.t rfl) (.t rfl) (by omega) hw2) ?_
  refine Z3 ?_
  refine .p rfl (fun _ => opBuildSlice (enc := encU8) [127] FU.out FC.out rfl FZ.out rfl (.cons (.t rfl) .nil) rfl rfl rfl rfl rfl) ?_
  refine .a rfl (opBuildSliceO encU8 ([] : List UInt8) FU.out FC.out rfl FZ.out rfl .nil rfl rfl rfl rfl rfl) (fun _ _ => (OLe.sel [2] [0, 1] rfl rfl)) fun g231 _ => ?_
  refine .a rfl (opAppend (i := 0) FU.out FU.out FC.out rfl FZ.out rfl FY.out (.t rfl) (.t rfl) rfl (by simp <;> omega) (by simp <;> omega)) (fun _ _ => (OLe.sel [2] [0, 1] rfl rfl)) fun g239 _ => ?_
  refine .a rfl (OpE.shareS (G := fun g => g) (hs1 := fun _ => _) (xs := fun _ => _) (opAppend (i := 0) FU.out FU.out FC.out rfl FZ.out rfl FY.out (.t rfl) (.t rfl) rfl (by simp <;> omega) (by simp <;> omega))) (fun _ _ => (OLe.sel [1] [0] rfl rfl)) fun _ _ => ?_
  refine .a rfl (cE (h := dtakes_spec (s := s) (l := ([] ++ sg.P) ++ [127]) (by omega))) (fun _ _ => (OLe.sel [1] [0] rfl rfl)) fun g243 h243 => ?_
  refine Z3 ?_
  refine .s rfl (opStoreOA (i := 1) FC.out rfl (.t rfl) (.t rfl) rfl rfl rfl) ?_
  refine .fin ?_
  refine Z4 ?_
  refine .stagedK [(0, 1), (1, 0), (2, 0), (3, 0), (4, 0), (5, 0), (6, 0), (7, 0), (9, 0), (8, 2), (10, 3)] 11 1 FM.out (by kernel_rfl) (k := ?_)
  refine Z5 ?_
  refine .p rfl (fun _ => opIndexAddr (j := x.A.toNat) FU.out FC.out rfl (.t rfl) (.t rfl) (by omega) hw2) ?_
  refine Z3 ?_
  refine .e rfl (cE (h := dgive_spec (s := g243.1) (l := sg.R) (by have := h243.2; omega) (by omega))) fun g254 h254 => ?_
  refine .s rfl (opStoreOA (i := 0) FC.out rfl (.t rfl) (.t rfl) rfl rfl rfl) ?_
  refine .fin ?_
  refine Z6 ?_
  refine Post.retR rfl rfl ((giveS g243.1 sg.R, g243.2)) (by exact plQ_tg (i := sg.P ++ [127]) (by rw [plS_17 hp1, hw, Option.bind_some]; exact if_pos ⟨hxB, hvT⟩) h243 hsg.2) (OLe.sel [] [0, 1] rfl rfl) rfl (.cons (.ra (i := 0) FA.out FC.out rfl rfl rfl rfl) ?_ (.cons (.rt rfl) ?_ .nil))
  · exact VLe.refl _
  exact VLe.refl _
 exfalso; omega
theorem dp32_spec (hp0 : PlOk v x s labs) (hp1 : x.Code = 32) : FnE Tryz.prog 97 [aggV (encEnv v), aggV (encInstr x), aggV (encStk s base), sliceV 1 encSlT labs] [] (γ := Stk × Int) (plQ s (plS v x s labs)) (fun _ => []) (fun g => tupV [aggV (encStk g.1 base), intV .i64 g.2]) := by
 refine In 517 Tryz.func97 fun _ _ _ => ?_
 have hs5 := hp0.stk
 have hA0 := hp0.ins.A0
 have hA6 := hp0.ins.A64
 have hln := hp0.lbn
 have hE := hp0.env
 have hf1 := hE.F
 have hf2 := hE.S
 have hf3 := hE.L
 have hf4 := hE.G
 have hf5 := hE.W
 refine Z4 ?_
 refine .n (opBoxOA (.t rfl)) rfl fun b6 _ => ?_
 refine .n (opAlloc FZ.out) rfl fun b8 _ => ?_
 refine Z35 ?_
 refine Cd (fun c0 => ?_) fun c0 => ?_
 · exfalso; omega
 refine Z7 ?_
 refine Cd (fun c1 => ?_) fun c1 => ?_
 · exfalso; omega
 refine Z5 ?_
 refine Cd (fun c2 => ?_) fun c2 => ?_
 · exfalso; omega
 refine Z6 ?_
 refine Cd (fun c3 => ?_) fun c3 => ?_
 · exfalso; omega
 refine Z6 ?_
 refine Cd (fun c4 => ?_) fun c4 => ?_
 · exfalso; omega
 refine Z6 ?_
 refine Cd (fun c5 => ?_) fun c5 => ?_
 · exfalso; omega
 refine Z6 ?_
 refine Cd (fun c6 => ?_) fun c6 => ?_
 · exfalso; omega
 refine Z6 ?_
 refine Cd (fun c7 => ?_) fun c7 => ?_
 · exfalso; omega
 refine Z6 ?_
 refine Cd (fun c8 => ?_) fun c8 => ?_
 · exfalso; omega
 refine Z7 ?_
 refine Cd (fun c9 => ?_) fun c9 => ?_
 ·
  refine Z2 ?_
  refine Cd (fun c10 => ?_) fun c10 => ?_
  ·
   refine Z12 ?_
   refine Cd (fun c11 => ?_) fun c11 => ?_
   ·
    have hno := getI_no (L := v.Locals) c11
    refine Z11 ?_
    refine Post.retR rfl rfl ((s, 2)) (by exact plQ_no (by decide) (by rw [plS_32 hp1, hno]; rfl) (by omega)) (OLe.sel [] [0, 1] rfl rfl) rfl (.cons (.ra (i := 0) FA.out FC.out rfl rfl rfl rfl) ?_ (.cons (.rt rfl) ?_ .nil))
    · exact VLe.refl _
    exact VLe.refl _
   obtain ⟨t, hw, hw2⟩ := getI_at (L := v.Locals) hA0 c11
   refine Z8 ?_
   refine .p (cI x.A.toNat (h := hw2)) rfl ?_
   refine Z1 ?_
   refine .p (cB encU8 [t]) rfl ?_
   refine Z11 ?_
   refine Cd (fun c12 => ?_) fun c12 => ?_
   · exfalso; omega
   refine Z10 ?_
   refine Cd (fun c13 => ?_) fun c13 => ?_
   ·
    refine Z3 ?_
    refine .n (cE (h := dgive_spec (s := s) (l := [t]) (by omega) (by simp))) rfl fun g334 h334 => ?_
    refine Z14 ?_
    refine Post.retR rfl rfl ((giveS s [t], 0)) (by exact plQ_ok (by rw [plS_32 hp1, hw]; rfl) (by simp only [giveS, List.length_append, List.length_cons, List.length_nil]; omega)) (OLe.sel [] [0, 1] rfl rfl) rfl (.cons (.ra (i := 0) FA.out FC.out rfl rfl rfl rfl) ?_ (.cons (.rt rfl) ?_ .nil))
    · exact VLe.refl _
    exact VLe.refl _
   exfalso; omega
  exfalso; omega
 exfalso; omega
theorem dp33_spec (hp0 : PlOk v x s labs) (hp1 : x.Code = 33) : FnE Tryz.prog 97 [aggV (encEnv v), aggV (encInstr x), aggV (encStk s base), sliceV 1 encSlT labs] [] (γ := Stk × Int) (plQ s (plS v x s labs)) (fun _ => []) (fun g => tupV [aggV (encStk g.1 base), intV .i64 g.2]) := by
 refine In 517 Tryz.func97 fun _ _ _ => ?_
 have hs5 := hp0.stk
 have hA0 := hp0.ins.A0
 have hA6 := hp0.ins.A64
 have hln := hp0.lbn
 have hE := hp0.env
 have hf1 := hE.F
 have hf2 := hE.S
 have hf3 := hE.L
 have hf4 := hE.G
 have hf5 := hE.W
 refine Z4 ?_
 refine .n (opBoxOA (.t rfl)) rfl fun b6 _ => ?_
 refine .n (opAlloc FZ.out) rfl fun b8 _ => ?_
 refine Z35 ?_
 refine Cd (fun c0 => ?_) fun c0 => ?_
 · exfalso; omega
 refine Z7 ?_
 refine Cd (fun c1 => ?_) fun c1 => ?_
 · exfalso; omega
 refine Z5 ?_
 refine Cd (fun c2 => ?_) fun c2 => ?_
 · exfalso; omega
 refine Z6 ?_
 refine Cd (fun c3 => ?_) fun c3 => ?_
 · exfalso; omega
 refine Z6 ?_
 refine Cd (fun c4 => ?_) fun c4 => ?_
 · exfalso; omega
 refine Z6 ?_
 refine Cd (fun c5 => ?_) fun c5 => ?_
 · exfalso; omega
 refine Z6 ?_
 refine Cd (fun c6 => ?_) fun c6 => ?_
 · exfalso; omega
 refine Z6 ?_
 refine Cd (fun c7 => ?_) fun c7 => ?_
 · exfalso; omega
 refine Z6 ?_
 refine Cd (fun c8 => ?_) fun c8 => ?_
 · exfalso; omega
 refine Z7 ?_
 refine Cd (fun c9 => ?_) fun c9 => ?_
 · exfalso; omega
 refine Z6 ?_
 refine Cd (fun c10 => ?_) fun c10 => ?_
 ·
  refine Z2 ?_
  refine Cd (fun c11 => ?_) fun c11 => ?_
  ·
   refine Z12 ?_
   refine Cd (fun c12 => ?_) fun c12 => ?_
   ·
    have hno := getI_no (L := v.Locals) c12
    refine Z11 ?_
    refine Post.retR rfl rfl ((s, 2)) (by exact plQ_no (by decide) (by rw [plS_33 hp1, hno]; rfl) (by omega)) (OLe.sel [] [0, 1] rfl rfl) rfl (.cons (.ra (i := 0) FA.out FC.out rfl rfl rfl rfl) ?_ (.cons (.rt rfl) ?_ .nil))
    · exact VLe.refl _
    exact VLe.refl _
   obtain ⟨t, hw, hw2⟩ := getI_at (L := v.Locals) hA0 c12
   refine Z8 ?_
   refine .p (cI x.A.toNat (h := hw2)) rfl ?_
   refine Z1 ?_
   refine .p (cB encU8 [t]) rfl ?_
   refine Z11 ?_
   refine Cd (fun c13 => ?_) fun c13 => ?_
   ·
    refine Z3 ?_
    refine .n (cE (h := dtakes_spec (s := s) (l := [t]) (by omega))) rfl fun g326 h326 => ?_
    refine Z15 ?_
    refine Cd (fun c14 => ?_) fun c14 => ?_
    · exfalso; omega
    refine Z13 ?_
    refine Post.retR rfl rfl (g326) (by exact plQ_tk (by rw [plS_33 hp1, hw]; rfl) h326) (OLe.sel [] [0, 1] rfl rfl) rfl (.cons (.ra (i := 0) FA.out FC.out rfl rfl rfl rfl) ?_ (.cons (.rt rfl) ?_ .nil))
    · exact VLe.refl _
    exact VLe.refl _
   exfalso; omega
  exfalso; omega
 exfalso; omega
theorem dp34_spec (hp0 : PlOk v x s labs) (hp1 : x.Code = 34) : FnE Tryz.prog 97 [aggV (encEnv v), aggV (encInstr x), aggV (encStk s base), sliceV 1 encSlT labs] [] (γ := Stk × Int) (plQ s (plS v x s labs)) (fun _ => []) (fun g => tupV [aggV (encStk g.1 base), intV .i64 g.2]) := by
 refine In 517 Tryz.func97 fun _ _ _ => ?_
 have hs5 := hp0.stk
 have hA0 := hp0.ins.A0
 have hA6 := hp0.ins.A64
 have hln := hp0.lbn
 have hE := hp0.env
 have hf1 := hE.F
 have hf2 := hE.S
 have hf3 := hE.L
 have hf4 := hE.G
 have hf5 := hE.W
 refine Z4 ?_
 refine .n (opBoxOA (.t rfl)) rfl fun b6 _ => ?_
 refine .n (opAlloc FZ.out) rfl fun b8 _ => ?_
 refine Z35 ?_
 refine Cd (fun c0 => ?_) fun c0 => ?_
 · exfalso; omega
 refine Z7 ?_
 refine Cd (fun c1 => ?_) fun c1 => ?_
 · exfalso; omega
 refine Z5 ?_
 refine Cd (fun c2 => ?_) fun c2 => ?_
 · exfalso; omega
 refine Z6 ?_
 refine Cd (fun c3 => ?_) fun c3 => ?_
 · exfalso; omega
 refine Z6 ?_
 refine Cd (fun c4 => ?_) fun c4 => ?_
 · exfalso; omega
 refine Z6 ?_
 refine Cd (fun c5 => ?_) fun c5 => ?_
 · exfalso; omega
 refine Z6 ?_
 refine Cd (fun c6 => ?_) fun c6 => ?_
 · exfalso; omega
 refine Z6 ?_
 refine Cd (fun c7 => ?_) fun c7 => ?_
 · exfalso; omega
 refine Z6 ?_
 refine Cd (fun c8 => ?_) fun c8 => ?_
 · exfalso; omega
 refine Z7 ?_
 refine Cd (fun c9 => ?_) fun c9 => ?_
 · exfalso; omega
 refine Z6 ?_
 refine Cd (fun c10 => ?_) fun c10 => ?_
 · exfalso; omega
 refine Z5 ?_
 refine Cd (fun c11 => ?_) fun c11 => ?_
 ·
  refine Z12 ?_
  refine Cd (fun c12 => ?_) fun c12 => ?_
  ·
   have hno := getI_no (L := v.Locals) c12
   refine Z11 ?_
   refine Post.retR rfl rfl ((s, 2)) (by exact plQ_no (by decide) (by rw [plS_34 hp1, hno]; rfl) (by omega)) (OLe.sel [] [0, 1] rfl rfl) rfl (.cons (.ra (i := 0) FA.out FC.out rfl rfl rfl rfl) ?_ (.cons (.rt rfl) ?_ .nil))
   · exact VLe.refl _
   exact VLe.refl _
  obtain ⟨t, hw, hw2⟩ := getI_at (L := v.Locals) hA0 c12
  refine Z8 ?_
  refine .p (cI x.A.toNat (h := hw2)) rfl ?_
  refine Z1 ?_
  refine .p (cB encU8 [t]) rfl ?_
  refine Z11 ?_
  refine Cd (fun c13 => ?_) fun c13 => ?_
  ·
   refine Z3 ?_
   refine .n (cE (h := dtakes_spec (s := s) (l := [t]) (by omega))) rfl fun g326 h326 => ?_
   refine Z15 ?_
   refine Cd (fun c14 => ?_) fun c14 => ?_
   ·
    refine Z3 ?_
    refine .n (cE (h := dgive_spec (s := g326.1) (l := [t]) (by have := h326.2; omega) (by simp))) rfl fun g334 h334 => ?_
    refine Z14 ?_
    refine Post.retR rfl rfl ((giveS g326.1 [t], g326.2)) (by exact plQ_tg (by rw [plS_34 hp1, hw]; rfl) h326 (by simp)) (OLe.sel [] [0, 1] rfl rfl) rfl (.cons (.ra (i := 0) FA.out FC.out rfl rfl rfl rfl) ?_ (.cons (.rt rfl) ?_ .nil))
    · exact VLe.refl _
    exact VLe.refl _
   exfalso; omega
  exfalso; omega
 exfalso; omega
theorem dp35_spec (hp0 : PlOk v x s labs) (hp1 : x.Code = 35) : FnE Tryz.prog 97 [aggV (encEnv v), aggV (encInstr x), aggV (encStk s base), sliceV 1 encSlT labs] [] (γ := Stk × Int) (plQ s (plS v x s labs)) (fun _ => []) (fun g => tupV [aggV (encStk g.1 base), intV .i64 g.2]) := by
 refine In 517 Tryz.func97 fun _ _ _ => ?_
 have hs5 := hp0.stk
 have hA0 := hp0.ins.A0
 have hA6 := hp0.ins.A64
 have hln := hp0.lbn
 have hE := hp0.env
 have hf1 := hE.F
 have hf2 := hE.S
 have hf3 := hE.L
 have hf4 := hE.G
 have hf5 := hE.W
 refine Z4 ?_
 refine .n (opBoxOA (.t rfl)) rfl fun b6 _ => ?_
 refine .n (opAlloc FZ.out) rfl fun b8 _ => ?_
 refine Z35 ?_
 refine Cd (fun c0 => ?_) fun c0 => ?_
 · exfalso; omega
 refine Z7 ?_
 refine Cd (fun c1 => ?_) fun c1 => ?_
 · exfalso; omega
 refine Z5 ?_
 refine Cd (fun c2 => ?_) fun c2 => ?_
 · exfalso; omega
 refine Z6 ?_
 refine Cd (fun c3 => ?_) fun c3 => ?_
 · exfalso; omega
 refine Z6 ?_
 refine Cd (fun c4 => ?_) fun c4 => ?_
 · exfalso; omega
 refine Z6 ?_
 refine Cd (fun c5 => ?_) fun c5 => ?_
 · exfalso; omega
 refine Z6 ?_
 refine Cd (fun c6 => ?_) fun c6 => ?_
 · exfalso; omega
 refine Z6 ?_
 refine Cd (fun c7 => ?_) fun c7 => ?_
 · exfalso; omega
 refine Z6 ?_
 refine Cd (fun c8 => ?_) fun c8 => ?_
 · exfalso; omega
 refine Z7 ?_
 refine Cd (fun c9 => ?_) fun c9 => ?_
 · exfalso; omega
 refine Z6 ?_
 refine Cd (fun c10 => ?_) fun c10 => ?_
 · exfalso; omega
 refine Z5 ?_
 refine Cd (fun c11 => ?_) fun c11 => ?_
 · exfalso; omega
 refine Z7 ?_
 refine Cd (fun c12 => ?_) fun c12 => ?_
 ·
  refine Z2 ?_
  refine Cd (fun c13 => ?_) fun c13 => ?_
  ·
   refine Z12 ?_
   refine Cd (fun c14 => ?_) fun c14 => ?_
   ·
    have hno := getI_no (L := v.Globals) c14
    refine Z11 ?_
    refine Post.retR rfl rfl ((s, 2)) (by exact plQ_no (by decide) (by rw [plS_35 hp1, hno]; rfl) (by omega)) (OLe.sel [] [0, 1] rfl rfl) rfl (.cons (.ra (i := 0) FA.out FC.out rfl rfl rfl rfl) ?_ (.cons (.rt rfl) ?_ .nil))
    · exact VLe.refl _
    exact VLe.refl _
   obtain ⟨t, hw, hw2⟩ := getI_at (L := v.Globals) hA0 c14
   refine Z8 ?_
   refine .p (cI x.A.toNat (h := hw2)) rfl ?_
   refine Z1 ?_
   refine .p (cB encU8 [t]) rfl ?_
   refine Z11 ?_
   refine Cd (fun c15 => ?_) fun c15 => ?_
   ·
    refine Z4 ?_
    refine .n (cE (h := dgive_spec (s := s) (l := [t]) (by omega) (by simp))) rfl fun g360 h360 => ?_
    refine Z8 ?_
    refine Post.retR rfl rfl ((giveS s [t], 0)) (by exact plQ_ok (by rw [plS_35 hp1, hw]; rfl) (by simp only [giveS, List.length_append, List.length_cons, List.length_nil]; omega)) (OLe.sel [] [0, 1] rfl rfl) rfl (.cons (.ra (i := 0) FA.out FC.out rfl rfl rfl rfl) ?_ (.cons (.rt rfl) ?_ .nil))
    · exact VLe.refl _
    exact VLe.refl _
   exfalso; omega
  exfalso; omega
 exfalso; omega
theorem dp36_spec (hp0 : PlOk v x s labs) (hp1 : x.Code = 36) : FnE Tryz.prog 97 [aggV (encEnv v), aggV (encInstr x), aggV (encStk s base), sliceV 1 encSlT labs] [] (γ := Stk × Int) (plQ s (plS v x s labs)) (fun _ => []) (fun g => tupV [aggV (encStk g.1 base), intV .i64 g.2]) := by
 refine In 517 Tryz.func97 fun _ _ _ => ?_
 have hs5 := hp0.stk
 have hA0 := hp0.ins.A0
 have hA6 := hp0.ins.A64
 have hln := hp0.lbn
 have hE := hp0.env
 have hf1 := hE.F
 have hf2 := hE.S
 have hf3 := hE.L
 have hf4 := hE.G
 have hf5 := hE.W
 refine Z4 ?_
 refine .n (opBoxOA (.t rfl)) rfl fun b6 _ => ?_
 refine .n (opAlloc FZ.out) rfl fun b8 _ => ?_
 refine Z35 ?_
 refine Cd (fun c0 => ?_) fun c0 => ?_
 · exfalso; omega
 refine Z7 ?_
 refine Cd (fun c1 => ?_) fun c1 => ?_
 · exfalso; omega
 refine Z5 ?_
 refine Cd (fun c2 => ?_) fun c2 => ?_
 · exfalso; omega
 refine Z6 ?_
 refine Cd (fun c3 => ?_) fun c3 => ?_
 · exfalso; omega
 refine Z6 ?_
 refine Cd (fun c4 => ?_) fun c4 => ?_
 · exfalso; omega
 refine Z6 ?_
 refine Cd (fun c5 => ?_) fun c5 => ?_
 · exfalso; omega
 refine Z6 ?_
 refine Cd (fun c6 => ?_) fun c6 => ?_
 · exfalso; omega
 refine Z6 ?_
 refine Cd (fun c7 => ?_) fun c7 => ?_
 · exfalso; omega
 refine Z6 ?_
 refine Cd (fun c8 => ?_) fun c8 => ?_
 · exfalso; omega
 refine Z7 ?_
 refine Cd (fun c9 => ?_) fun c9 => ?_
 · exfalso; omega
 refine Z6 ?_
 refine Cd (fun c10 => ?_) fun c10 => ?_
 · exfalso; omega
 refine Z5 ?_
 refine Cd (fun c11 => ?_) fun c11 => ?_
 · exfalso; omega
 refine Z7 ?_
 refine Cd (fun c12 => ?_) fun c12 => ?_
 · exfalso; omega
 refine Z5 ?_
 refine Cd (fun c13 => ?_) fun c13 => ?_
 ·
  refine Z12 ?_
  refine Cd (fun c14 => ?_) fun c14 => ?_
  ·
   have hno := getI_no (L := v.Globals) c14
   refine Z11 ?_
   refine Post.retR rfl rfl ((s, 2)) (by exact plQ_no (by decide) (by rw [plS_36 hp1, hno]; rfl) (by omega)) (OLe.sel [] [0, 1] rfl rfl) rfl (.cons (.ra (i := 0) FA.out FC.out rfl rfl rfl rfl) ?_ (.cons (.rt rfl) ?_ .nil))
   · exact VLe.refl _
   exact VLe.refl _
  obtain ⟨t, hw, hw2⟩ := getI_at (L := v.Globals) hA0 c14
  refine Z8 ?_
  refine .p (cI x.A.toNat (h := hw2)) rfl ?_
  refine Z1 ?_
  refine .p (cB encU8 [t]) rfl ?_
  refine Z11 ?_
  refine Cd (fun c15 => ?_) fun c15 => ?_
  · exfalso; omega
  obtain ⟨mu, hm, hm2⟩ := getI_at (L := v.Mutable) hA0 (by rw [hE.mu]; exact c14)
  refine Z9 ?_
  refine .p (cI x.A.toNat (h := hm2)) rfl ?_
  refine Z4 ?_
  refine Cd (fun c16 => ?_) fun c16 => ?_
  ·
   refine Z11 ?_
   refine Post.retR rfl rfl ((s, 5)) (by exact plQ_no (by decide) (by rw [plS_36 hp1, hw, Option.bind_some, hm, Option.bind_some]; exact if_neg c16) (by omega)) (OLe.sel [] [0, 1] rfl rfl) rfl (.cons (.ra (i := 0) FA.out FC.out rfl rfl rfl rfl) ?_ (.cons (.rt rfl) ?_ .nil))
   · exact VLe.refl _
   exact VLe.refl _
  refine Z6 ?_
  refine .n (cE (h := dtakes_spec (s := s) (l := [t]) (by omega))) rfl fun g371 h371 => ?_
  refine Z9 ?_
  refine Post.retR rfl rfl (g371) (by exact plQ_tk (by rw [plS_36 hp1, hw, Option.bind_some, hm, Option.bind_some]; exact if_pos (Classical.not_not.1 c16)) h371) (OLe.sel [] [0, 1] rfl rfl) rfl (.cons (.ra (i := 0) FA.out FC.out rfl rfl rfl rfl) ?_ (.cons (.rt rfl) ?_ .nil))
  · exact VLe.refl _
  exact VLe.refl _
 exfalso; omega
theorem dpform_spec (hp0 : PlOk v x s labs) (hp1 : ¬ ctlC x.Code) (hp2 : ¬ varC x.Code) (hp3 : ¬ callC x.Code) (hp4 : formR x.Code < 8 ∨ 10 < formR x.Code) : FnE Tryz.prog 97 [aggV (encEnv v), aggV (encInstr x), aggV (encStk s base), sliceV 1 encSlT labs] [] (γ := Stk × Int) (plQ s (plS v x s labs)) (fun _ => []) (fun g => tupV [aggV (encStk g.1 base), intV .i64 g.2]) := by
 refine In 517 Tryz.func97 fun _ _ _ => ?_
 have hs5 := hp0.stk
 have hA0 := hp0.ins.A0
 have hA6 := hp0.ins.A64
 have hln := hp0.lbn
 have hE := hp0.env
 have hf1 := hE.F
 have hf2 := hE.S
 have hf3 := hE.L
 have hf4 := hE.G
 have hf5 := hE.W
 have hp1b := hp1
 have hp2b := hp2
 have hp3b := hp3
 unfold ctlC at hp1b
 unfold varC at hp2b
 unfold callC at hp3b
 have htl := takes_len x.Code
 refine Z4 ?_
 refine .n (opBoxOA (.t rfl)) rfl fun b6 _ => ?_
 refine .n (opAlloc FZ.out) rfl fun b8 _ => ?_
 refine Z35 ?_
 refine Cd (fun c0 => ?_) fun c0 => ?_
 · exfalso; omega
 refine Z7 ?_
 refine Cd (fun c1 => ?_) fun c1 => ?_
 · exfalso; omega
 refine Z5 ?_
 refine Cd (fun c2 => ?_) fun c2 => ?_
 · exfalso; omega
 refine Z6 ?_
 refine Cd (fun c3 => ?_) fun c3 => ?_
 · exfalso; omega
 refine Z6 ?_
 refine Cd (fun c4 => ?_) fun c4 => ?_
 · exfalso; omega
 refine Z6 ?_
 refine Cd (fun c5 => ?_) fun c5 => ?_
 · exfalso; omega
 refine Z6 ?_
 refine Cd (fun c6 => ?_) fun c6 => ?_
 · exfalso; omega
 refine Z6 ?_
 refine Cd (fun c7 => ?_) fun c7 => ?_
 · exfalso; omega
 refine Z6 ?_
 refine Cd (fun c8 => ?_) fun c8 => ?_
 · exfalso; omega
 refine Z7 ?_
 refine Cd (fun c9 => ?_) fun c9 => ?_
 · exfalso; omega
 refine Z6 ?_
 refine Cd (fun c10 => ?_) fun c10 => ?_
 · exfalso; omega
 refine Z5 ?_
 refine Cd (fun c11 => ?_) fun c11 => ?_
 · exfalso; omega
 refine Z7 ?_
 refine Cd (fun c12 => ?_) fun c12 => ?_
 · exfalso; omega
 refine Z5 ?_
 refine Cd (fun c13 => ?_) fun c13 => ?_
 · exfalso; omega
 refine Z7 ?_
 refine .p (cA (h := rform_spec)) rfl ?_
 refine Z7 ?_
 refine .p (cA (h := rtakes_spec)) rfl ?_
 refine Z18 ?_
 refine Cd (fun c14 => ?_) fun c14 => ?_
 ·
  refine Z4 ?_
  refine .n (cE (h := dtakes_spec (s := s) (l := (takesR x.Code).1) (by omega))) rfl fun g392 h392 => ?_
  refine Z11 ?_
  refine .n (cE (h := dgive_spec (s := g392.1) (l := (takesR x.Code).2) (by have := h392.2; omega) (by omega))) rfl fun g397 h397 => ?_
  refine Z7 ?_
  refine Post.retR rfl rfl ((giveS g392.1 (takesR x.Code).2, g392.2)) (by exact plQ_tg (plS_form hp1 hp2 hp3 hp4) h392 (by omega)) (OLe.sel [] [0, 1] rfl rfl) rfl (.cons (.ra (i := 0) FA.out FC.out rfl rfl rfl rfl) ?_ (.cons (.rt rfl) ?_ .nil))
  · exact VLe.refl _
  exact VLe.refl _
 exact absurd hp4 c14
theorem hasSuffix__spec {s : List UInt8} : FnP Tryz.prog 256 [strV l, strV s] (propV (hasSuf l s)) := by
 refine In 21 Tryz.func256 fun _ _ _ => ?_
 refine .fact (t := 0) rfl (fun S w v h => strV_len h) fun hl => ?_
 refine .fact (t := 1) rfl (fun S w v h => strV_len h) fun hsl => ?_
 refine Z19 ?_
 refine .g (OpG.gT rfl rfl rfl rfl (fun hg => opSliceSLo FU.out (.when (.t rfl) hg) (.when (.t rfl) hg) (by omega : _ = ((l.length - s.length : Nat) : Int)) (by omega))) rfl rfl ?_
 refine Z7 ?_
 refine Rt1 ?_
 exact VLe.prop (by unfold hasSuf; constructor <;> (rintro ⟨h1, h2⟩; exact ⟨by omega, h2⟩))
theorem hasPrefix__spec {s : List UInt8} : FnP Tryz.prog 257 [strV l, strV s] (propV (hasPre l s)) := by
 refine In 18 Tryz.func257 fun _ _ _ => ?_
 refine .fact (t := 0) rfl (fun S w v h => strV_len h) fun hl => ?_
 refine .fact (t := 1) rfl (fun S w v h => strV_len h) fun hsl => ?_
 refine Z16 ?_
 refine .g (OpG.gT rfl rfl rfl rfl (fun hg => opSliceSHi FU.out (.when (.t rfl) hg) (.when (.t rfl) hg) rfl (by omega))) rfl rfl ?_
 refine Z7 ?_
 refine Rt1 ?_
 exact VLe.prop (by unfold hasPre; constructor <;> (rintro ⟨h1, h2⟩; exact ⟨by omega, h2⟩))
theorem hasSuffix_spec {s : List UInt8} : FnP Tryz.prog 250 [strV l, strV s] (propV (hasSuf l s)) := by
 refine In 8 Tryz.func250 fun _ _ _ => ?_
 refine Z9 ?_
 refine .p (cA (h := hasSuffix__spec)) rfl ?_
 refine Z4 ?_
 refine Rt1 ?_
 exact VLe.refl _
theorem hasPrefix_spec {s : List UInt8} : FnP Tryz.prog 251 [strV l, strV s] (propV (hasPre l s)) := by
 refine In 8 Tryz.func251 fun _ _ _ => ?_
 refine Z9 ?_
 refine .p (cA (h := hasPrefix__spec)) rfl ?_
 refine Z4 ?_
 refine Rt1 ?_
 exact VLe.refl _
theorem trimSuffix__spec {s : List UInt8} : FnP Tryz.prog 255 [strV l, strV s] (strV (trimSuf l s)) := by
 refine In 16 Tryz.func255 fun _ _ _ => ?_
 refine .fact (t := 0) rfl (fun S w v h => strV_len h) fun hl => ?_
 refine .fact (t := 1) rfl (fun S w v h => strV_len h) fun hsl => ?_
 refine Z2 ?_
 refine .p (opAssign (.s [] rfl rfl)) rfl ?_
 refine Z7 ?_
 refine .p (cA (h := hasSuffix__spec)) rfl ?_
 refine Z2 ?_
 refine Cd (fun c0 => ?_) fun c0 => ?_
 ·
  have hle := c0.1
  refine Z8 ?_
  refine .p (opSliceSHi FU.out (.t rfl) (.t rfl) (by omega : _ = ((l.length - s.length : Nat) : Int)) (by omega)) rfl ?_
  refine Z5 ?_
  refine Rt1 ?_
  exact VLe.of_eq (by unfold trimSuf; rw [if_pos c0])
 refine Z9 ?_
 refine Rt1 ?_
 exact VLe.of_eq (by unfold trimSuf; rw [if_neg c0])
theorem trimSuffix_spec {s : List UInt8} : FnP Tryz.prog 249 [strV l, strV s] (strV (trimSuf l s)) := by
 refine In 8 Tryz.func249 fun _ _ _ => ?_
 refine Z2 ?_
 refine .p (opAssign (.s [] rfl rfl)) rfl ?_
 refine Z6 ?_
 refine .p (cA (h := trimSuffix__spec)) rfl ?_
 refine Z4 ?_
 refine Rt1 ?_
 exact VLe.refl _
variable {b : UInt8}
theorem idxByte_spec : FnP Tryz.prog 175 [strV l, intV .u8 (b.toNat : Int)] (intV .i64 (Lib.indexByte l b)) := by
 refine In 8 Tryz.func175 fun _ _ _ => ?_
 refine Z9 ?_
 refine .p (opIdxByteS Tryz.xt194 (.cons (.t rfl) (.cons (.t rfl) .nil))) rfl ?_
 refine Z4 ?_
 refine Rt1 ?_
 exact VLe.refl _
theorem idx1_spec (hp0 : l ≠ [b]) : FnP Tryz.prog 142 [strV l, strV [b]] (intV .i64 (Lib.indexByte l b)) := by
 refine In 143 Tryz.func142 fun _ _ _ => ?_
 refine Z26 ?_
 refine Cd (fun c0 => ?_) fun c0 => ?_
 · exfalso; simp at c0; exact hp0 c0.symm
 refine Z7 ?_
 refine Cd (fun c1 => ?_) fun c1 => ?_
 ·
  refine Z4 ?_
  refine .p (opIndexS FU.out (.t rfl) (.c _) rfl (show [b][0]? = some b from rfl)) rfl ?_
  refine .p (cA (h := idxByte_spec)) rfl ?_
  refine Z6 ?_
  refine Rt1 ?_
  exact VLe.refl _
 exact absurd rfl c1
theorem cut__spec (hp0 : l ≠ [b]) : FnP Tryz.prog 254 [strV l, strV [b]] (tupV [strV (cutB l b).1, strV (cutB l b).2.1, propV ((cutB l b).2.2 = true)]) := by
 refine In 23 Tryz.func254 fun _ _ _ => ?_
 refine .fact (t := 0) rfl (fun S w v h => strV_len h) fun hl => ?_
 have hlt := indexByte_lt l b
 refine Z2 ?_
 refine .p (opAssign (.s [] rfl rfl)) rfl ?_
 refine .p (opAssign (.s [] rfl rfl)) rfl ?_
 refine Z8 ?_
 refine .p (cA (h := idx1_spec hp0)) rfl ?_
 refine Z9 ?_
 refine Cd (fun c0 => ?_) fun c0 => ?_
 ·
  have hj : Lib.indexByte l b = (((Lib.indexByte l b).toNat : Nat) : Int) := by omega
  refine Z1 ?_
  refine .drawK 10 2 FM.out (by kernel_rfl) (k := ?_)
  refine Z2 ?_
  refine .p (opSliceSHi FU.out (.t rfl) (.t rfl) hj (by omega)) ?_
  refine Z4 ?_
  refine .p (opAddF (.t rfl) (.t rfl) (fits_i64 (by simp only [List.length_cons, List.length_nil]; omega) (by simp only [List.length_cons, List.length_nil]; omega))) ?_
  refine .p (opSliceSLo FU.out (.t rfl) (.t rfl) (by simp only [List.length_cons, List.length_nil]; omega : _ = (((Lib.indexByte l b).toNat + 1 : Nat) : Int)) (by omega)) ?_
  refine Z8 ?_
  refine Rt3 ?_ ?_ ?_
  · exact VLe.of_eq (by unfold cutB; rw [if_pos c0])
  · exact VLe.of_eq (by unfold cutB; rw [if_pos c0])
  exact VLe.prop (by unfold cutB; rw [if_pos c0]; simp)
 refine Z6 ?_
 refine .p (opAssign (.s [] rfl rfl)) rfl ?_
 refine Z4 ?_
 refine Rt3 ?_ ?_ ?_
 · exact VLe.of_eq (by unfold cutB; rw [if_neg c0])
 · exact VLe.of_eq (by unfold cutB; rw [if_neg c0])
 exact VLe.prop (by unfold cutB; rw [if_neg c0]; simp)
theorem cut_spec (hp0 : l ≠ [b]) : FnP Tryz.prog 248 [strV l, strV [b]] (tupV [strV (cutB l b).1, strV (cutB l b).2.1, propV ((cutB l b).2.2 = true)]) := by
 refine In 13 Tryz.func248 fun _ _ _ => ?_
 refine Z2 ?_
 refine .p (opAssign (.s [] rfl rfl)) rfl ?_
 refine .p (opAssign (.s [] rfl rfl)) rfl ?_
 refine Z7 ?_
 refine .p (cA (h := cut__spec hp0)) rfl ?_
 refine Z9 ?_
 refine Rt3 ?_ ?_ ?_
 · exact VLe.refl _
 · exact VLe.refl _
 exact VLe.refl _
theorem binaries_spec  : FnP Tryz.prog 126 [] (aggV (binT.flatMap encStrD)) := by
 refine In 2 Tryz.func126 fun _ _ _ => ?_
 refine Z2 ?_
 refine .n (opAlloc FZ.out) rfl fun b0 _ => ?_
 refine Z4 ?_
 refine .p (opBuildArr (cs := binT.flatMap encStrD) FR.out FZ.out (.cons (.s [97, 100, 100] rfl rfl) (.cons (.s [115, 117, 98] rfl rfl) (.cons (.s [109, 117, 108] rfl rfl) (.cons (.s [100, 105, 118, 95, 115] rfl rfl) (.cons (.s [100, 105, 118, 95, 117] rfl rfl) (.cons (.s [114, 101, 109, 95, 115] rfl rfl) (.cons (.s [114, 101, 109, 95, 117] rfl rfl) (.cons (.s [97, 110, 100] rfl rfl) (.cons (.s [111, 114] rfl rfl) (.cons (.s [120, 111, 114] rfl rfl) (.cons (.s [115, 104, 108] rfl rfl) (.cons (.s [115, 104, 114, 95, 115] rfl rfl) (.cons (.s [115, 104, 114, 95, 117] rfl rfl) (.cons (.s [114, 111, 116, 108] rfl rfl) (.cons (.s [114, 111, 116, 114] rfl rfl) .nil))))))))))))))) rfl) rfl ?_
 refine Z4 ?_
 refine Post.retR1 rfl () trivial (fun _ _ _ _ => trivial) (.ra (i := 0) FA.out FC.out rfl rfl rfl rfl) ?_
 exact VLe.refl _
theorem tests_spec  : FnP Tryz.prog 127 [] (aggV (testT.flatMap encStrD)) := by
 refine In 2 Tryz.func127 fun _ _ _ => ?_
 refine Z2 ?_
 refine .n (opAlloc FZ.out) rfl fun b0 _ => ?_
 refine Z4 ?_
 refine .p (opBuildArr (cs := testT.flatMap encStrD) FR.out FZ.out (.cons (.s [101, 113] rfl rfl) (.cons (.s [110, 101] rfl rfl) (.cons (.s [108, 116, 95, 115] rfl rfl) (.cons (.s [108, 116, 95, 117] rfl rfl) (.cons (.s [103, 116, 95, 115] rfl rfl) (.cons (.s [103, 116, 95, 117] rfl rfl) (.cons (.s [108, 101, 95, 115] rfl rfl) (.cons (.s [108, 101, 95, 117] rfl rfl) (.cons (.s [103, 101, 95, 115] rfl rfl) (.cons (.s [103, 101, 95, 117] rfl rfl) .nil)))))))))) rfl) rfl ?_
 refine Z4 ?_
 refine Post.retR1 rfl () trivial (fun _ _ _ _ => trivial) (.ra (i := 0) FA.out FC.out rfl rfl rfl rfl) ?_
 exact VLe.refl _
theorem unaries_spec  : FnP Tryz.prog 128 [] (aggV (unT.flatMap encStrD)) := by
 refine In 2 Tryz.func128 fun _ _ _ => ?_
 refine Z2 ?_
 refine .n (opAlloc FZ.out) rfl fun b0 _ => ?_
 refine Z4 ?_
 refine .p (opBuildArr (cs := unT.flatMap encStrD) FR.out FZ.out (.cons (.s [99, 108, 122] rfl rfl) (.cons (.s [99, 116, 122] rfl rfl) (.cons (.s [112, 111, 112, 99, 110, 116] rfl rfl) (.cons (.s [101, 113, 122] rfl rfl) .nil)))) rfl) rfl ?_
 refine Z4 ?_
 refine Post.retR1 rfl () trivial (fun _ _ _ _ => trivial) (.ra (i := 0) FA.out FC.out rfl rfl rfl rfl) ?_
 exact VLe.refl _
theorem rows_spec  : FnP Tryz.prog 89 [] (aggV (rowsT.flatMap encRow)) := by
 refine In 49 Tryz.func89 fun _ _ _ => ?_
 refine Z2 ?_
 refine .n (opAlloc FZ.out) rfl fun b0 _ => ?_
 refine Z4 ?_
 refine .p (opBuild FP.out FZ.out (.cons (.c _) (.cons (.s [117, 110, 114, 101, 97, 99, 104, 97, 98, 108, 101] rfl rfl) (.cons (.c _) (.cons (.s [] rfl rfl) (.cons (.s [] rfl rfl) .nil))))) rfl) rfl ?_
 refine .p (opBuild FP.out FZ.out (.cons (.c _) (.cons (.s [110, 111, 112] rfl rfl) (.cons (.c _) (.cons (.s [] rfl rfl) (.cons (.s [] rfl rfl) .nil))))) rfl) rfl ?_
 refine .p (opBuild FP.out FZ.out (.cons (.c _) (.cons (.s [98, 108, 111, 99, 107] rfl rfl) (.cons (.c _) (.cons (.s [] rfl rfl) (.cons (.s [] rfl rfl) .nil))))) rfl) rfl ?_
 refine .p (opBuild FP.out FZ.out (.cons (.c _) (.cons (.s [108, 111, 111, 112] rfl rfl) (.cons (.c _) (.cons (.s [] rfl rfl) (.cons (.s [] rfl rfl) .nil))))) rfl) rfl ?_
 refine .p (opBuild FP.out FZ.out (.cons (.c _) (.cons (.s [105, 102] rfl rfl) (.cons (.c _) (.cons (.s [] rfl rfl) (.cons (.s [] rfl rfl) .nil))))) rfl) rfl ?_
 refine .p (opBuild FP.out FZ.out (.cons (.c _) (.cons (.s [101, 108, 115, 101] rfl rfl) (.cons (.c _) (.cons (.s [] rfl rfl) (.cons (.s [] rfl rfl) .nil))))) rfl) rfl ?_
 refine .p (opBuild FP.out FZ.out (.cons (.c _) (.cons (.s [101, 110, 100] rfl rfl) (.cons (.c _) (.cons (.s [] rfl rfl) (.cons (.s [] rfl rfl) .nil))))) rfl) rfl ?_
 refine .p (opBuild FP.out FZ.out (.cons (.c _) (.cons (.s [98, 114] rfl rfl) (.cons (.c _) (.cons (.s [] rfl rfl) (.cons (.s [] rfl rfl) .nil))))) rfl) rfl ?_
 refine .p (opBuild FP.out FZ.out (.cons (.c _) (.cons (.s [98, 114, 95, 105, 102] rfl rfl) (.cons (.c _) (.cons (.s [] rfl rfl) (.cons (.s [] rfl rfl) .nil))))) rfl) rfl ?_
 refine .p (opBuild FP.out FZ.out (.cons (.c _) (.cons (.s [98, 114, 95, 116, 97, 98, 108, 101] rfl rfl) (.cons (.c _) (.cons (.s [] rfl rfl) (.cons (.s [] rfl rfl) .nil))))) rfl) rfl ?_
 refine .p (opBuild FP.out FZ.out (.cons (.c _) (.cons (.s [114, 101, 116, 117, 114, 110] rfl rfl) (.cons (.c _) (.cons (.s [] rfl rfl) (.cons (.s [] rfl rfl) .nil))))) rfl) rfl ?_
 refine .p (opBuild FP.out FZ.out (.cons (.c _) (.cons (.s [99, 97, 108, 108] rfl rfl) (.cons (.c _) (.cons (.s [] rfl rfl) (.cons (.s [] rfl rfl) .nil))))) rfl) rfl ?_
 refine .p (opBuild FP.out FZ.out (.cons (.c _) (.cons (.s [99, 97, 108, 108, 95, 105, 110, 100, 105, 114, 101, 99, 116] rfl rfl) (.cons (.c _) (.cons (.s [] rfl rfl) (.cons (.s [] rfl rfl) .nil))))) rfl) rfl ?_
 refine .p (opBuild FP.out FZ.out (.cons (.c _) (.cons (.s [100, 114, 111, 112] rfl rfl) (.cons (.c _) (.cons (.s [] rfl rfl) (.cons (.s [] rfl rfl) .nil))))) rfl) rfl ?_
 refine .p (opBuild FP.out FZ.out (.cons (.c _) (.cons (.s [115, 101, 108, 101, 99, 116] rfl rfl) (.cons (.c _) (.cons (.s [] rfl rfl) (.cons (.s [] rfl rfl) .nil))))) rfl) rfl ?_
 refine .p (opBuild FP.out FZ.out (.cons (.c _) (.cons (.s [108, 111, 99, 97, 108, 46, 103, 101, 116] rfl rfl) (.cons (.c _) (.cons (.s [] rfl rfl) (.cons (.s [] rfl rfl) .nil))))) rfl) rfl ?_
 refine .p (opBuild FP.out FZ.out (.cons (.c _) (.cons (.s [108, 111, 99, 97, 108, 46, 115, 101, 116] rfl rfl) (.cons (.c _) (.cons (.s [] rfl rfl) (.cons (.s [] rfl rfl) .nil))))) rfl) rfl ?_
 refine .p (opBuild FP.out FZ.out (.cons (.c _) (.cons (.s [108, 111, 99, 97, 108, 46, 116, 101, 101] rfl rfl) (.cons (.c _) (.cons (.s [] rfl rfl) (.cons (.s [] rfl rfl) .nil))))) rfl) rfl ?_
 refine .p (opBuild FP.out FZ.out (.cons (.c _) (.cons (.s [103, 108, 111, 98, 97, 108, 46, 103, 101, 116] rfl rfl) (.cons (.c _) (.cons (.s [] rfl rfl) (.cons (.s [] rfl rfl) .nil))))) rfl) rfl ?_
 refine .p (opBuild FP.out FZ.out (.cons (.c _) (.cons (.s [103, 108, 111, 98, 97, 108, 46, 115, 101, 116] rfl rfl) (.cons (.c _) (.cons (.s [] rfl rfl) (.cons (.s [] rfl rfl) .nil))))) rfl) rfl ?_
 refine .p (opBuild FP.out FZ.out (.cons (.c _) (.cons (.s [105, 51, 50, 46, 108, 111, 97, 100] rfl rfl) (.cons (.c _) (.cons (.s [105] rfl rfl) (.cons (.s [105] rfl rfl) .nil))))) rfl) rfl ?_
 refine .p (opBuild FP.out FZ.out (.cons (.c _) (.cons (.s [105, 54, 52, 46, 108, 111, 97, 100] rfl rfl) (.cons (.c _) (.cons (.s [105] rfl rfl) (.cons (.s [108] rfl rfl) .nil))))) rfl) rfl ?_
 refine .p (opBuild FP.out FZ.out (.cons (.c _) (.cons (.s [105, 51, 50, 46, 108, 111, 97, 100, 56, 95, 115] rfl rfl) (.cons (.c _) (.cons (.s [105] rfl rfl) (.cons (.s [105] rfl rfl) .nil))))) rfl) rfl ?_
 refine .p (opBuild FP.out FZ.out (.cons (.c _) (.cons (.s [105, 51, 50, 46, 108, 111, 97, 100, 56, 95, 117] rfl rfl) (.cons (.c _) (.cons (.s [105] rfl rfl) (.cons (.s [105] rfl rfl) .nil))))) rfl) rfl ?_
 refine .p (opBuild FP.out FZ.out (.cons (.c _) (.cons (.s [105, 51, 50, 46, 108, 111, 97, 100, 49, 54, 95, 115] rfl rfl) (.cons (.c _) (.cons (.s [105] rfl rfl) (.cons (.s [105] rfl rfl) .nil))))) rfl) rfl ?_
 refine .p (opBuild FP.out FZ.out (.cons (.c _) (.cons (.s [105, 51, 50, 46, 108, 111, 97, 100, 49, 54, 95, 117] rfl rfl) (.cons (.c _) (.cons (.s [105] rfl rfl) (.cons (.s [105] rfl rfl) .nil))))) rfl) rfl ?_
 refine .p (opBuild FP.out FZ.out (.cons (.c _) (.cons (.s [105, 54, 52, 46, 108, 111, 97, 100, 56, 95, 115] rfl rfl) (.cons (.c _) (.cons (.s [105] rfl rfl) (.cons (.s [108] rfl rfl) .nil))))) rfl) rfl ?_
 refine .p (opBuild FP.out FZ.out (.cons (.c _) (.cons (.s [105, 54, 52, 46, 108, 111, 97, 100, 56, 95, 117] rfl rfl) (.cons (.c _) (.cons (.s [105] rfl rfl) (.cons (.s [108] rfl rfl) .nil))))) rfl) rfl ?_
 refine .p (opBuild FP.out FZ.out (.cons (.c _) (.cons (.s [105, 54, 52, 46, 108, 111, 97, 100, 49, 54, 95, 115] rfl rfl) (.cons (.c _) (.cons (.s [105] rfl rfl) (.cons (.s [108] rfl rfl) .nil))))) rfl) rfl ?_
 refine .p (opBuild FP.out FZ.out (.cons (.c _) (.cons (.s [105, 54, 52, 46, 108, 111, 97, 100, 49, 54, 95, 117] rfl rfl) (.cons (.c _) (.cons (.s [105] rfl rfl) (.cons (.s [108] rfl rfl) .nil))))) rfl) rfl ?_
 refine .p (opBuild FP.out FZ.out (.cons (.c _) (.cons (.s [105, 54, 52, 46, 108, 111, 97, 100, 51, 50, 95, 115] rfl rfl) (.cons (.c _) (.cons (.s [105] rfl rfl) (.cons (.s [108] rfl rfl) .nil))))) rfl) rfl ?_
 refine .p (opBuild FP.out FZ.out (.cons (.c _) (.cons (.s [105, 54, 52, 46, 108, 111, 97, 100, 51, 50, 95, 117] rfl rfl) (.cons (.c _) (.cons (.s [105] rfl rfl) (.cons (.s [108] rfl rfl) .nil))))) rfl) rfl ?_
 refine .p (opBuild FP.out FZ.out (.cons (.c _) (.cons (.s [105, 51, 50, 46, 115, 116, 111, 114, 101] rfl rfl) (.cons (.c _) (.cons (.s [105, 105] rfl rfl) (.cons (.s [] rfl rfl) .nil))))) rfl) rfl ?_
 refine .p (opBuild FP.out FZ.out (.cons (.c _) (.cons (.s [105, 54, 52, 46, 115, 116, 111, 114, 101] rfl rfl) (.cons (.c _) (.cons (.s [105, 108] rfl rfl) (.cons (.s [] rfl rfl) .nil))))) rfl) rfl ?_
 refine .p (opBuild FP.out FZ.out (.cons (.c _) (.cons (.s [105, 51, 50, 46, 115, 116, 111, 114, 101, 56] rfl rfl) (.cons (.c _) (.cons (.s [105, 105] rfl rfl) (.cons (.s [] rfl rfl) .nil))))) rfl) rfl ?_
 refine .p (opBuild FP.out FZ.out (.cons (.c _) (.cons (.s [105, 51, 50, 46, 115, 116, 111, 114, 101, 49, 54] rfl rfl) (.cons (.c _) (.cons (.s [105, 105] rfl rfl) (.cons (.s [] rfl rfl) .nil))))) rfl) rfl ?_
 refine .p (opBuild FP.out FZ.out (.cons (.c _) (.cons (.s [105, 54, 52, 46, 115, 116, 111, 114, 101, 56] rfl rfl) (.cons (.c _) (.cons (.s [105, 108] rfl rfl) (.cons (.s [] rfl rfl) .nil))))) rfl) rfl ?_
 refine .p (opBuild FP.out FZ.out (.cons (.c _) (.cons (.s [105, 54, 52, 46, 115, 116, 111, 114, 101, 49, 54] rfl rfl) (.cons (.c _) (.cons (.s [105, 108] rfl rfl) (.cons (.s [] rfl rfl) .nil))))) rfl) rfl ?_
 refine .p (opBuild FP.out FZ.out (.cons (.c _) (.cons (.s [105, 54, 52, 46, 115, 116, 111, 114, 101, 51, 50] rfl rfl) (.cons (.c _) (.cons (.s [105, 108] rfl rfl) (.cons (.s [] rfl rfl) .nil))))) rfl) rfl ?_
 refine .p (opBuild FP.out FZ.out (.cons (.c _) (.cons (.s [109, 101, 109, 111, 114, 121, 46, 115, 105, 122, 101] rfl rfl) (.cons (.c _) (.cons (.s [] rfl rfl) (.cons (.s [105] rfl rfl) .nil))))) rfl) rfl ?_
 refine .p (opBuild FP.out FZ.out (.cons (.c _) (.cons (.s [109, 101, 109, 111, 114, 121, 46, 103, 114, 111, 119] rfl rfl) (.cons (.c _) (.cons (.s [105] rfl rfl) (.cons (.s [105] rfl rfl) .nil))))) rfl) rfl ?_
 refine .p (opBuild FP.out FZ.out (.cons (.c _) (.cons (.s [105, 51, 50, 46, 99, 111, 110, 115, 116] rfl rfl) (.cons (.c _) (.cons (.s [] rfl rfl) (.cons (.s [105] rfl rfl) .nil))))) rfl) rfl ?_
 refine .p (opBuild FP.out FZ.out (.cons (.c _) (.cons (.s [105, 54, 52, 46, 99, 111, 110, 115, 116] rfl rfl) (.cons (.c _) (.cons (.s [] rfl rfl) (.cons (.s [108] rfl rfl) .nil))))) rfl) rfl ?_
 refine .p (opBuild FP.out FZ.out (.cons (.c _) (.cons (.s [105, 51, 50, 46, 119, 114, 97, 112, 95, 105, 54, 52] rfl rfl) (.cons (.c _) (.cons (.s [108] rfl rfl) (.cons (.s [105] rfl rfl) .nil))))) rfl) rfl ?_
 refine .p (opBuild FP.out FZ.out (.cons (.c _) (.cons (.s [105, 54, 52, 46, 101, 120, 116, 101, 110, 100, 95, 105, 51, 50, 95, 115] rfl rfl) (.cons (.c _) (.cons (.s [105] rfl rfl) (.cons (.s [108] rfl rfl) .nil))))) rfl) rfl ?_
 refine .p (opBuild FP.out FZ.out (.cons (.c _) (.cons (.s [105, 54, 52, 46, 101, 120, 116, 101, 110, 100, 95, 105, 51, 50, 95, 117] rfl rfl) (.cons (.c _) (.cons (.s [105] rfl rfl) (.cons (.s [108] rfl rfl) .nil))))) rfl) rfl ?_
 refine .p (opBuild FP.out FZ.out (.cons (.c _) (.cons (.s [105, 51, 50, 46, 101, 120, 116, 101, 110, 100, 56, 95, 115] rfl rfl) (.cons (.c _) (.cons (.s [105] rfl rfl) (.cons (.s [105] rfl rfl) .nil))))) rfl) rfl ?_
 refine .p (opBuildArr (cs := rowsT.flatMap encRow) FR.out FZ.out (.cons (.t rfl) (.cons (.t rfl) (.cons (.t rfl) (.cons (.t rfl) (.cons (.t rfl) (.cons (.t rfl) (.cons (.t rfl) (.cons (.t rfl) (.cons (.t rfl) (.cons (.t rfl) (.cons (.t rfl) (.cons (.t rfl) (.cons (.t rfl) (.cons (.t rfl) (.cons (.t rfl) (.cons (.t rfl) (.cons (.t rfl) (.cons (.t rfl) (.cons (.t rfl) (.cons (.t rfl) (.cons (.t rfl) (.cons (.t rfl) (.cons (.t rfl) (.cons (.t rfl) (.cons (.t rfl) (.cons (.t rfl) (.cons (.t rfl) (.cons (.t rfl) (.cons (.t rfl) (.cons (.t rfl) (.cons (.t rfl) (.cons (.t rfl) (.cons (.t rfl) (.cons (.t rfl) (.cons (.t rfl) (.cons (.t rfl) (.cons (.t rfl) (.cons (.t rfl) (.cons (.t rfl) (.cons (.t rfl) (.cons (.t rfl) (.cons (.t rfl) (.cons (.t rfl) (.cons (.t rfl) (.cons (.t rfl) (.cons (.t rfl) (.cons (.t rfl) .nil))))))))))))))))))))))))))))))))))))))))))))))) rfl) rfl ?_
 refine Z4 ?_
 refine Post.retR1 rfl () trivial (fun _ _ _ _ => trivial) (.ra (i := 0) FA.out FC.out rfl rfl rfl rfl) ?_
 exact VLe.refl _
theorem late_spec  : FnP Tryz.prog 90 [] (aggV (lateT.flatMap encRow)) := by
 refine In 8 Tryz.func90 fun _ _ _ => ?_
 refine Z2 ?_
 refine .n (opAlloc FZ.out) rfl fun b0 _ => ?_
 refine Z4 ?_
 refine .p (opBuild FP.out FZ.out (.cons (.c _) (.cons (.s [105, 51, 50, 46, 101, 120, 116, 101, 110, 100, 49, 54, 95, 115] rfl rfl) (.cons (.c _) (.cons (.s [105] rfl rfl) (.cons (.s [105] rfl rfl) .nil))))) rfl) rfl ?_
 refine .p (opBuild FP.out FZ.out (.cons (.c _) (.cons (.s [105, 54, 52, 46, 101, 120, 116, 101, 110, 100, 56, 95, 115] rfl rfl) (.cons (.c _) (.cons (.s [108] rfl rfl) (.cons (.s [108] rfl rfl) .nil))))) rfl) rfl ?_
 refine .p (opBuild FP.out FZ.out (.cons (.c _) (.cons (.s [105, 54, 52, 46, 101, 120, 116, 101, 110, 100, 49, 54, 95, 115] rfl rfl) (.cons (.c _) (.cons (.s [108] rfl rfl) (.cons (.s [108] rfl rfl) .nil))))) rfl) rfl ?_
 refine .p (opBuild FP.out FZ.out (.cons (.c _) (.cons (.s [105, 54, 52, 46, 101, 120, 116, 101, 110, 100, 51, 50, 95, 115] rfl rfl) (.cons (.c _) (.cons (.s [108] rfl rfl) (.cons (.s [108] rfl rfl) .nil))))) rfl) rfl ?_
 refine .p (opBuild FP.out FZ.out (.cons (.c _) (.cons (.s [109, 101, 109, 111, 114, 121, 46, 99, 111, 112, 121] rfl rfl) (.cons (.c _) (.cons (.s [105, 105, 105] rfl rfl) (.cons (.s [] rfl rfl) .nil))))) rfl) rfl ?_
 refine .p (opBuild FP.out FZ.out (.cons (.c _) (.cons (.s [109, 101, 109, 111, 114, 121, 46, 102, 105, 108, 108] rfl rfl) (.cons (.c _) (.cons (.s [105, 105, 105] rfl rfl) (.cons (.s [] rfl rfl) .nil))))) rfl) rfl ?_
 refine .p (opBuildArr (cs := lateT.flatMap encRow) FR.out FZ.out (.cons (.t rfl) (.cons (.t rfl) (.cons (.t rfl) (.cons (.t rfl) (.cons (.t rfl) (.cons (.t rfl) .nil)))))) rfl) rfl ?_
 refine Z4 ?_
 refine Post.retR1 rfl () trivial (fun _ _ _ _ => trivial) (.ra (i := 0) FA.out FC.out rfl rfl rfl rfl) ?_
 exact VLe.refl _
theorem spans_spec  : FnP Tryz.prog 171 [] (aggV (spansT.flatMap encSpan)) := by
 refine In 10 Tryz.func171 fun _ _ _ => ?_
 refine Z2 ?_
 refine .n (opAlloc FZ.out) rfl fun b0 _ => ?_
 refine Z12 ?_
 refine .p (opBuildArr (cs := spansT.flatMap encSpan) FR.out FZ.out (.cons (.t rfl) (.cons (.t rfl) (.cons (.t rfl) (.cons (.t rfl) (.cons (.t rfl) (.cons (.t rfl) (.cons (.t rfl) (.cons (.t rfl) .nil)))))))) rfl) rfl ?_
 refine Z4 ?_
 refine Post.retR1 rfl () trivial (fun _ _ _ _ => trivial) (.ra (i := 0) FA.out FC.out rfl rfl rfl rfl) ?_
 exact VLe.refl _
theorem numeric_spec : FnP Tryz.prog 125 [intV .i64 code] (tupV [intV .i64 ((numO code).getD (0, 0, 0)).1, intV .i64 ((numO code).getD (0, 0, 0)).2.1, intV .i64 ((numO code).getD (0, 0, 0)).2.2, propV (numO code).isSome]) := by
 refine In 37 Tryz.func125 fun _ _ _ => ?_
 refine Z11 ?_
 refine .p (cA (h := spans_spec)) rfl ?_
 refine Z4 ?_
 refine .loopO (σ := Nat) (fun _ => []) (fun k => [(9, intV .i64 (k : Int))]) (fun k => k ≤ spansT.length ∧ NotB (fun s => inSpan code s = true) spansT k) (fun k => spansT.length - k) 0 ⟨by omega, NotB.zero _ _⟩ rfl ?_ ?_
 · exact (.get rfl (VLe.refl _) (.refl _ _))
 rintro k ⟨hk, hn⟩
 refine Z6 ?_
 refine Cd (fun c0 => ?_) fun c0 => ?_
 ·
  have hltk : k < spansT.length := by have : spansT.length = 8 := rfl; omega
  obtain ⟨x, hxk⟩ := getElem?_lt (xs := spansT) (k := k) hltk
  have hb := spans_bd x (List.mem_of_getElem? hxk)
  refine Z6 ?_
  refine .p (opIndexA spansT FU.out FC.out rfl FA.out (.t rfl) rfl rfl (.t rfl) rfl (by assumption)) rfl ?_
  refine .n (opAlloc FZ.out) rfl fun b7 _ => ?_
  refine Z3 ?_
  refine .share (t := 7) (i := 0) rfl rfl ?_
  refine Z17 ?_
  refine Cd (fun c1 => ?_) fun c1 => ?_
  ·
   have hno := numO_at hxk (by simpa [inSpan] using c1) hn
   refine Z1 ?_
   refine .drawK 13 2 FM.out (by kernel_rfl) (k := ?_)
   refine Z24 ?_
   refine Rt4 ?_ ?_ ?_ ?_
   · exact VLe.int (by rw [hno]; rfl)
   · exact VLe.int (by rw [hno]; rfl)
   · exact VLe.int (by rw [hno]; rfl)
   exact VLe.prop (by rw [hno]; simp)
  refine Z7 ?_
  refine .round (k + 1) ⟨by omega, hn.succ hxk (by simpa [inSpan] using c1)⟩ (by omega) rfl ?_
  exact (.get rfl (VLe.int (by omega)) (.keep 20 rfl rfl))
 have hek : k = spansT.length := by have : spansT.length = 8 := rfl; omega
 subst hek
 refine Z14 ?_
 refine Rt4 ?_ ?_ ?_ ?_
 · exact VLe.int (by rw [numO_none hn]; rfl)
 · exact VLe.int (by rw [numO_none hn]; rfl)
 · exact VLe.int (by rw [numO_none hn]; rfl)
 exact VLe.prop (by rw [numO_none hn]; simp)
theorem numbered_spec : FnP Tryz.prog 91 [intV .i64 code] (tupV [aggV (encRow ((numberedO code).getD zeroR)), propV (numberedO code).isSome]) := by
 refine In 69 Tryz.func91 fun _ _ _ => ?_
 refine Z2 ?_
 refine .n (opAlloc FZ.out) rfl fun b2 _ => ?_
 refine Z6 ?_
 refine .p (cA (h := numeric_spec)) rfl ?_
 refine Z18 ?_
 refine Cd (fun c0 => ?_) fun c0 => ?_
 ·
  have hno : numO code = none := by simpa using c0
  have hnm := numbered_none hno
  refine Z9 ?_
  refine Post.retR rfl rfl () trivial (fun _ _ _ _ => trivial) rfl (.cons (.ra (i := 0) FA.out FC.out rfl rfl rfl rfl) ?_ (.cons (.rt rfl) ?_ .nil))
  · simp only [hnm, Option.getD_none]; exact VLe.agg (.cons (VLe.refl _) (.cons strV_nil (.cons (VLe.refl _) (.cons strV_nil (.cons strV_nil .nil)))))
  exact VLe.prop (by rw [hnm]; simp)
 obtain ⟨⟨g, n, b⟩, hno⟩ := Option.isSome_iff_exists.1 (Classical.not_not.1 c0)
 obtain ⟨hn0, hng, hnb⟩ := numO_bounds hno
 have hnm := numbered_some hno
 simp only [hno, Option.getD_some]
 have hk4 := kind_len b
 have hlb := getD_len binT_len n.toNat
 have hlt := getD_len testT_len n.toNat
 have hlu := getD_len unT_len n.toNat
 refine Z4 ?_
 refine .p (opAssign (.s [105, 51, 50, 46] rfl rfl)) rfl ?_
 refine .p (opAssign (.s [105] rfl rfl)) rfl ?_
 refine Z9 ?_
 refine Cd (fun c1 => ?_) fun c1 => ?_
 ·
  refine Z1 ?_
  refine .p (opAssign (.s [105, 54, 52, 46] rfl rfl)) rfl ?_
  refine .p (opAssign (.s [108] rfl rfl)) rfl ?_
  refine Z11 ?_
  refine Cd (fun c2 => ?_) fun c2 => ?_
  ·
   refine Z4 ?_
   refine .p (cA (h := binaries_spec)) rfl ?_
   refine Z1 ?_
   refine .p (opIndexA1 FU.out FC.out FA.out (.t rfl) rfl (.t rfl) (by omega : _ = ((n.toNat : Nat) : Int)) (strs_at (by have : binT.length = 15 := rfl; omega))) rfl ?_
   refine .p (opCat (.t rfl) (.t rfl) (by simp only [List.length_cons, List.length_nil]; omega)) rfl ?_
   refine Z2 ?_
   refine .p (opCat (.t rfl) (.t rfl) (by simp only [List.length_cons, List.length_nil]; omega)) rfl ?_
   refine Z9 ?_
   refine Post.retR rfl rfl () trivial (fun _ _ _ _ => trivial) rfl (.cons (.ra (i := 0) FA.out FC.out rfl rfl rfl rfl) ?_ (.cons (.rt rfl) ?_ .nil))
   · simp only [hnm, Option.getD_some]; exact VLe.of_eq (by simp [numRow, encRow, kindS, oneS, *]; try rfl)
   exact VLe.prop (by rw [hnm]; simp)
  refine Z7 ?_
  refine Cd (fun c3 => ?_) fun c3 => ?_
  ·
   refine Z4 ?_
   refine .p (cA (h := tests_spec)) rfl ?_
   refine Z1 ?_
   refine .p (opIndexA1 FU.out FC.out FA.out (.t rfl) rfl (.t rfl) (by omega : _ = ((n.toNat : Nat) : Int)) (strs_at (by have : testT.length = 10 := rfl; omega))) rfl ?_
   refine .p (opCat (.t rfl) (.t rfl) (by simp only [List.length_cons, List.length_nil]; omega)) rfl ?_
   refine Z2 ?_
   refine .p (opCat (.t rfl) (.t rfl) (by simp only [List.length_cons, List.length_nil]; omega)) rfl ?_
   refine .p (opBuild FP.out FZ.out (.cons (.t rfl) (.cons (.t rfl) (.cons (.c _) (.cons (.t rfl) (.cons (.s [105] rfl rfl) .nil))))) rfl) rfl ?_
   refine Z7 ?_
   refine Post.retR rfl rfl () trivial (fun _ _ _ _ => trivial) rfl (.cons (.ra (i := 0) FA.out FC.out rfl rfl rfl rfl) ?_ (.cons (.rt rfl) ?_ .nil))
   · simp only [hnm, Option.getD_some]; exact VLe.of_eq (by simp [numRow, encRow, kindS, oneS, *]; try rfl)
   exact VLe.prop (by rw [hnm]; simp)
  refine Z7 ?_
  refine Cd (fun c4 => ?_) fun c4 => ?_
  ·
   refine Z4 ?_
   refine .p (cA (h := unaries_spec)) rfl ?_
   refine Z1 ?_
   refine .p (opIndexA1 FU.out FC.out FA.out (.t rfl) rfl (.t rfl) (by omega : _ = ((n.toNat : Nat) : Int)) (strs_at (by have : unT.length = 4 := rfl; omega))) rfl ?_
   refine .p (opCat (.t rfl) (.t rfl) (by simp only [List.length_cons, List.length_nil]; omega)) rfl ?_
   refine Z1 ?_
   refine .p (opBuild FP.out FZ.out (.cons (.t rfl) (.cons (.t rfl) (.cons (.c _) (.cons (.t rfl) (.cons (.s [105] rfl rfl) .nil))))) rfl) rfl ?_
   refine Z7 ?_
   refine Post.retR rfl rfl () trivial (fun _ _ _ _ => trivial) rfl (.cons (.ra (i := 0) FA.out FC.out rfl rfl rfl rfl) ?_ (.cons (.rt rfl) ?_ .nil))
   · simp only [hnm, Option.getD_some]; exact VLe.of_eq (by simp [numRow, encRow, kindS, oneS, *]; try rfl)
   exact VLe.prop (by rw [hnm]; simp)
  refine Z7 ?_
  refine .p (cA (h := unaries_spec)) rfl ?_
  refine Z1 ?_
  refine .p (opIndexA1 FU.out FC.out FA.out (.t rfl) rfl (.t rfl) (by omega : _ = ((n.toNat : Nat) : Int)) (strs_at (by have : unT.length = 4 := rfl; omega))) rfl ?_
  refine .p (opCat (.t rfl) (.t rfl) (by simp only [List.length_cons, List.length_nil]; omega)) rfl ?_
  refine Z8 ?_
  refine Post.retR rfl rfl () trivial (fun _ _ _ _ => trivial) rfl (.cons (.ra (i := 0) FA.out FC.out rfl rfl rfl rfl) ?_ (.cons (.rt rfl) ?_ .nil))
  · simp only [hnm, Option.getD_some]; exact VLe.of_eq (by simp [numRow, encRow, kindS, oneS, *]; try rfl)
  exact VLe.prop (by rw [hnm]; simp)
 refine Z11 ?_
 refine Cd (fun c5 => ?_) fun c5 => ?_
 ·
  refine Z4 ?_
  refine .p (cA (h := binaries_spec)) rfl ?_
  refine Z1 ?_
  refine .p (opIndexA1 FU.out FC.out FA.out (.t rfl) rfl (.t rfl) (by omega : _ = ((n.toNat : Nat) : Int)) (strs_at (by have : binT.length = 15 := rfl; omega))) rfl ?_
  refine .p (opCat (.t rfl) (.t rfl) (by simp only [List.length_cons, List.length_nil]; omega)) rfl ?_
  refine Z2 ?_
  refine .p (opCat (.t rfl) (.t rfl) (by simp only [List.length_cons, List.length_nil]; omega)) rfl ?_
  refine Z9 ?_
  refine Post.retR rfl rfl () trivial (fun _ _ _ _ => trivial) rfl (.cons (.ra (i := 0) FA.out FC.out rfl rfl rfl rfl) ?_ (.cons (.rt rfl) ?_ .nil))
  · simp only [hnm, Option.getD_some]; exact VLe.of_eq (by simp [numRow, encRow, kindS, oneS, *]; try rfl)
  exact VLe.prop (by rw [hnm]; simp)
 refine Z7 ?_
 refine Cd (fun c6 => ?_) fun c6 => ?_
 ·
  refine Z4 ?_
  refine .p (cA (h := tests_spec)) rfl ?_
  refine Z1 ?_
  refine .p (opIndexA1 FU.out FC.out FA.out (.t rfl) rfl (.t rfl) (by omega : _ = ((n.toNat : Nat) : Int)) (strs_at (by have : testT.length = 10 := rfl; omega))) rfl ?_
  refine .p (opCat (.t rfl) (.t rfl) (by simp only [List.length_cons, List.length_nil]; omega)) rfl ?_
  refine Z2 ?_
  refine .p (opCat (.t rfl) (.t rfl) (by simp only [List.length_cons, List.length_nil]; omega)) rfl ?_
  refine .p (opBuild FP.out FZ.out (.cons (.t rfl) (.cons (.t rfl) (.cons (.c _) (.cons (.t rfl) (.cons (.s [105] rfl rfl) .nil))))) rfl) rfl ?_
  refine Z7 ?_
  refine Post.retR rfl rfl () trivial (fun _ _ _ _ => trivial) rfl (.cons (.ra (i := 0) FA.out FC.out rfl rfl rfl rfl) ?_ (.cons (.rt rfl) ?_ .nil))
  · simp only [hnm, Option.getD_some]; exact VLe.of_eq (by simp [numRow, encRow, kindS, oneS, *]; try rfl)
  exact VLe.prop (by rw [hnm]; simp)
 refine Z7 ?_
 refine Cd (fun c7 => ?_) fun c7 => ?_
 ·
  refine Z4 ?_
  refine .p (cA (h := unaries_spec)) rfl ?_
  refine Z1 ?_
  refine .p (opIndexA1 FU.out FC.out FA.out (.t rfl) rfl (.t rfl) (by omega : _ = ((n.toNat : Nat) : Int)) (strs_at (by have : unT.length = 4 := rfl; omega))) rfl ?_
  refine .p (opCat (.t rfl) (.t rfl) (by simp only [List.length_cons, List.length_nil]; omega)) rfl ?_
  refine Z1 ?_
  refine .p (opBuild FP.out FZ.out (.cons (.t rfl) (.cons (.t rfl) (.cons (.c _) (.cons (.t rfl) (.cons (.s [105] rfl rfl) .nil))))) rfl) rfl ?_
  refine Z7 ?_
  refine Post.retR rfl rfl () trivial (fun _ _ _ _ => trivial) rfl (.cons (.ra (i := 0) FA.out FC.out rfl rfl rfl rfl) ?_ (.cons (.rt rfl) ?_ .nil))
  · simp only [hnm, Option.getD_some]; exact VLe.of_eq (by simp [numRow, encRow, kindS, oneS, *]; try rfl)
  exact VLe.prop (by rw [hnm]; simp)
 refine Z7 ?_
 refine .p (cA (h := unaries_spec)) rfl ?_
 refine Z1 ?_
 refine .p (opIndexA1 FU.out FC.out FA.out (.t rfl) rfl (.t rfl) (by omega : _ = ((n.toNat : Nat) : Int)) (strs_at (by have : unT.length = 4 := rfl; omega))) rfl ?_
 refine .p (opCat (.t rfl) (.t rfl) (by simp only [List.length_cons, List.length_nil]; omega)) rfl ?_
 refine Z8 ?_
 refine Post.retR rfl rfl () trivial (fun _ _ _ _ => trivial) rfl (.cons (.ra (i := 0) FA.out FC.out rfl rfl rfl rfl) ?_ (.cons (.rt rfl) ?_ .nil))
 · simp only [hnm, Option.getD_some]; exact VLe.of_eq (by simp [numRow, encRow, kindS, oneS, *]; try rfl)
 exact VLe.prop (by rw [hnm]; simp)
theorem at_spec : FnP Tryz.prog 74 [intV .i64 code] (tupV [aggV (encRow ((rowO code).getD zeroR)), propV (rowO code).isSome]) := by
 refine In 32 Tryz.func74 fun _ _ _ => ?_
 refine Z2 ?_
 refine .n (opAlloc FZ.out) rfl fun b2 _ => ?_
 refine Z6 ?_
 refine .p (cA (h := rows_spec)) rfl ?_
 refine Z4 ?_
 refine .loopO (σ := Nat) (fun _ => _) (fun k => [(9, intV .i64 (k : Int))]) (fun k => k ≤ rowsT.length ∧ NotB (fun r : RowD => r.code = code) rowsT k) (fun k => rowsT.length - k) 0 ⟨by omega, NotB.zero _ _⟩ rfl ?_ ?_
 · exact (.get rfl (VLe.refl _) (.refl _ _))
 rintro k ⟨hk, hn⟩
 refine Z6 ?_
 refine Cd (fun c0 => ?_) fun c0 => ?_
 ·
  have hltk : k < rowsT.length := by have : rowsT.length = 47 := rfl; omega
  obtain ⟨x, hxk⟩ := getElem?_lt (xs := rowsT) (k := k) hltk
  refine Z6 ?_
  refine .p (opIndexA rowsT FU.out FC.out rfl FA.out (.t rfl) rfl rfl (.t rfl) rfl (by assumption)) rfl ?_
  refine .n (opAlloc FZ.out) rfl fun b5 _ => ?_
  refine Z3 ?_
  refine .share (t := 5) (i := 0) rfl rfl ?_
  refine Z8 ?_
  refine Cd (fun c1 => ?_) fun c1 => ?_
  ·
   have hro := rowO_1 hxk c1 hn
   refine Z13 ?_
   refine Post.retR rfl rfl () trivial (fun _ _ _ _ => trivial) rfl (.cons (.ra (i := 0) FA.out FC.out rfl rfl rfl rfl) ?_ (.cons (.rt rfl) ?_ .nil))
   · rw [hro]; exact VLe.refl _
   exact VLe.prop (by rw [hro]; simp)
  refine Z7 ?_
  refine .round (k + 1) ⟨by omega, hn.succ hxk c1⟩ (by omega) rfl ?_
  exact (.get rfl (VLe.int (by omega)) (.keep 11 rfl rfl))
 have hek : k = rowsT.length := by have : rowsT.length = 47 := rfl; omega
 subst hek
 refine Z8 ?_
 refine .p (cA (h := late_spec)) rfl ?_
 refine Z4 ?_
 refine .loopO (σ := Nat) (fun _ => _) (fun j => [(19, intV .i64 (j : Int))]) (fun j => j ≤ lateT.length ∧ NotB (fun r : RowD => r.code = code) lateT j) (fun j => lateT.length - j) 0 ⟨by omega, NotB.zero _ _⟩ rfl ?_ ?_
 · exact (.get rfl (VLe.refl _) (.refl _ _))
 rintro j ⟨hj, hm⟩
 refine Z6 ?_
 refine Cd (fun c2 => ?_) fun c2 => ?_
 ·
  have hltj : j < lateT.length := by have : lateT.length = 6 := rfl; omega
  obtain ⟨y, hxj⟩ := getElem?_lt (xs := lateT) (k := j) hltj
  refine Z6 ?_
  refine .p (opIndexA lateT FU.out FC.out rfl FA.out (.t rfl) rfl rfl (.t rfl) rfl (by assumption)) rfl ?_
  refine .n (opAlloc FZ.out) rfl fun b7 _ => ?_
  refine Z3 ?_
  refine .share (t := 7) (i := 0) rfl rfl ?_
  refine Z8 ?_
  refine Cd (fun c3 => ?_) fun c3 => ?_
  ·
   have hro := rowO_2 hn hxj c3 hm
   refine Z13 ?_
   refine Post.retR rfl rfl () trivial (fun _ _ _ _ => trivial) rfl (.cons (.ra (i := 0) FA.out FC.out rfl rfl rfl rfl) ?_ (.cons (.rt rfl) ?_ .nil))
   · rw [hro]; exact VLe.refl _
   exact VLe.prop (by rw [hro]; simp)
  refine Z7 ?_
  refine .round (j + 1) ⟨by omega, hm.succ hxj c3⟩ (by omega) rfl ?_
  exact (.get rfl (VLe.int (by omega)) (.keep 11 rfl rfl))
 have hej : j = lateT.length := by have : lateT.length = 6 := rfl; omega
 subst hej
 refine Z8 ?_
 refine .p (cA (h := numbered_spec)) rfl ?_
 refine Z7 ?_
 refine Post.retR rfl rfl () trivial (fun _ _ _ _ => trivial) rfl (.cons (.ra (i := 0) FA.out FC.out rfl rfl rfl rfl) ?_ (.cons (.rt rfl) ?_ .nil))
 · rw [rowO_3 hn hm]; exact VLe.refl _
 exact VLe.prop (by rw [rowO_3 hn hm])
theorem types_spec (hp0 : Ascii l) (hp1 : l.length ≤ 65536) : FnP Tryz.prog 92 [strV l] (sliceV 1 encU8 (typesF l)) := by
 refine In 20 Tryz.func92 fun _ _ _ => ?_
 refine Z14 ?_
 refine .n (opRangeS FU.out (.t rfl)) rfl fun b7 _ => ?_
 refine Z3 ?_
 refine .ownNil 1 encU8 ?_
 refine .loopO (σ := Nat × SB) (fun s => [sliceH s.2 1 encU8 (typesF (l.take s.1)), iterH b7 l s.1]) (fun s => [(3, exactV (sval s.2 (typesF (l.take s.1)).length))]) (fun s => s.1 ≤ l.length) (fun s => l.length - s.1) (0, none) (by simp) (by simp [typesF]) ?_ ?_
 · exact (.get rfl (VLe.of_eq (by simp [sval])) (.refl _ _))
 rintro s hk
 have htl := typesF_len (l.take s.1)
 have htk : (l.take s.1).length ≤ l.length := by simp; omega
 refine Z2 ?_
 refine .n (opNextS (i := 1) hp0 (by omega) (.t rfl) rfl) rfl fun _ _ => ?_
 refine .p (opNext0 (.t rfl)) rfl ?_
 refine Z3 ?_
 refine Cd (fun c0 => ?_) fun c0 => ?_
 ·
  obtain ⟨x, hx⟩ := getElem?_lt (xs := l) (k := s.1) c0
  rw [show min (s.1 + 1) l.length = s.1 + 1 by omega]
  refine Z5 ?_
  refine .p (opNext2 (by assumption) (.t rfl)) rfl ?_
  refine Z9 ?_
  refine Cd (fun c1 => ?_) fun c1 => ?_
  ·
   refine Z2 ?_
   refine .p (cB encU8 [126]) rfl ?_
   refine .n (opAppend (i := 0) FU.out FU.out FC.out rfl FZ.out rfl FY.out (.t rfl) (.t rfl) rfl (by first | omega | (simp <;> omega)) (by first | omega | (simp <;> omega))) rfl fun g15 _ => ?_
   refine Z3 ?_
   refine .round (s.1 + 1, (by first | exact g15 | exact g18)) (by omega) (by omega) (by first | (rw [typesF_l hx c1]; rfl) | (rw [typesF_i hx c1]; rfl)) ?_
   first | exact (.get rfl (VLe.of_eq (by rw [typesF_l hx c1])) (.keep 11 rfl rfl)) | exact (.get rfl (VLe.of_eq (by rw [typesF_i hx c1])) (.keep 11 rfl rfl))
  refine Z2 ?_
  refine .p (cB encU8 [127]) rfl ?_
  refine .n (opAppend (i := 0) FU.out FU.out FC.out rfl FZ.out rfl FY.out (.t rfl) (.t rfl) rfl (by first | omega | (simp <;> omega)) (by first | omega | (simp <;> omega))) rfl fun g18 _ => ?_
  refine Z3 ?_
  refine .round (s.1 + 1, (by first | exact g15 | exact g18)) (by omega) (by omega) (by first | (rw [typesF_l hx c1]; rfl) | (rw [typesF_i hx c1]; rfl)) ?_
  first | exact (.get rfl (VLe.of_eq (by rw [typesF_l hx c1])) (.keep 11 rfl rfl)) | exact (.get rfl (VLe.of_eq (by rw [typesF_i hx c1])) (.keep 11 rfl rfl))
 have hall : l.take s.1 = l := List.take_of_length_le (by omega)
 rw [hall]
 refine .shareS (n := 1) (enc := encU8) (i := 0) (t := 3) rfl rfl ?_
 refine Z12 ?_
 refine Rt1 ?_
 exact VLe.refl _
theorem info_spec {r : RowD} (hp0 : RowOk r) : FnP Tryz.prog 75 [aggV (encRow r)] (aggV (encInfo (infoOf r))) := by
 refine In 16 Tryz.func75 fun _ _ _ => ?_
 refine Z3 ?_
 refine .n (opAlloc FZ.out) rfl fun b2 _ => ?_
 refine Z3 ?_
 refine .drawK 12 2 FM.out (by kernel_rfl) (k := ?_)
 refine Z8 ?_
 refine .p (cA (h := types_spec hp0.1 (by have := hp0.2.2.1; omega))) ?_
 refine Z2 ?_
 refine .p (cA (h := types_spec hp0.2.1 (by have := hp0.2.2.2; omega))) ?_
 refine Z6 ?_
 refine Post.retR1 rfl () trivial (fun _ _ _ _ => trivial) (.ra (i := 0) FA.out FC.out rfl rfl rfl rfl) ?_
 exact VLe.refl _
theorem find_spec : FnP Tryz.prog 55 [intV .i64 code] (tupV [aggV (encInfo ((findI code).getD zeroI)), propV (findI code).isSome]) := by
 refine In 16 Tryz.func55 fun _ _ _ => ?_
 refine Z2 ?_
 refine .n (opAlloc FZ.out) rfl fun b2 _ => ?_
 refine Z6 ?_
 refine .p (cA (h := at_spec)) rfl ?_
 refine Z3 ?_
 refine .n (opAlloc FZ.out) rfl fun b4 _ => ?_
 refine Z4 ?_
 refine .share (t := 4) (i := 0) rfl rfl ?_
 refine Z7 ?_
 refine Cd (fun c0 => ?_) fun c0 => ?_
 ·
  have hro : rowO code = none := by simpa using c0
  have hfi : findI code = none := by unfold findI; rw [hro]; rfl
  refine Z9 ?_
  refine Post.retR rfl rfl () trivial (fun _ _ _ _ => trivial) rfl (.cons (.ra (i := 0) FA.out FC.out rfl rfl rfl rfl) ?_ (.cons (.rt rfl) ?_ .nil))
  · rw [hfi]; exact VLe.agg (.cons (VLe.refl _) (.cons strV_nil (.cons (VLe.refl _) (.cons (sliceV_nil _ _) (.cons (sliceV_nil _ _) .nil)))))
  exact VLe.prop (by rw [hfi]; simp)
 obtain ⟨r, hro⟩ := Option.isSome_iff_exists.1 (Classical.not_not.1 c0)
 have hfi : findI code = some (infoOf r) := by unfold findI; rw [hro]; rfl
 have hok := rowO_ok hro
 simp only [hro, Option.getD_some]
 refine Z5 ?_
 refine .p (cA (h := info_spec hok)) rfl ?_
 refine Z5 ?_
 refine Post.retR rfl rfl () trivial (fun _ _ _ _ => trivial) rfl (.cons (.ra (i := 0) FA.out FC.out rfl rfl rfl rfl) ?_ (.cons (.rt rfl) ?_ .nil))
 · rw [hfi]; exact VLe.refl _
 exact VLe.prop (by rw [hfi]; simp)
theorem width_spec : FnP Tryz.prog 237 [intV .i64 code] (tupV [intV .i64 ((widthO code).getD 0), propV (widthO code).isSome]) := by
 refine In 47 Tryz.func237 fun _ _ _ => ?_
 refine Z9 ?_
 refine .p (cA (h := find_spec)) rfl ?_
 refine Z3 ?_
 refine .n (opAlloc FZ.out) rfl fun b4 _ => ?_
 refine Z4 ?_
 refine .share (t := 4) (i := 0) rfl rfl ?_
 refine Z12 ?_
 refine Cd (fun c0 => ?_) fun c0 => ?_
 ·
  have hwo : widthO code = none := by
   cases hf : findI code with
   | none => exact width_none1 hf
   | some x =>
    refine width_none2 hf (fun h8 => ?_)
    rw [hf] at c0; simp [h8] at c0
  refine Z8 ?_
  refine Rt2 ?_ ?_
  · exact VLe.int (by rw [hwo]; rfl)
  exact VLe.prop (by rw [hwo]; simp)
 obtain ⟨x, hfi⟩ : ∃ x, findI code = some x := Option.isSome_iff_exists.1 (Classical.byContradiction fun h => c0 (.inl h))
 simp only [hfi, Option.getD_some] at c0 ⊢
 have hf8 : x.Form = 8 := by simpa using c0
 have hwo := width_some hfi hf8
 obtain ⟨hne, hnl⟩ := name_ok hfi
 refine Z5 ?_
 refine .p (opBuildArr (cs := widthsT.flatMap encStrD) FR.out FZ.out (.cons (.s [56] rfl rfl) (.cons (.s [49, 54] rfl rfl) (.cons (.s [51, 50] rfl rfl) .nil))) rfl) rfl ?_
 refine Z4 ?_
 refine .loopO (σ := Nat) (fun _ => []) (fun k => [(24, intV .i64 (k : Int))]) (fun k => k ≤ widthsT.length ∧ NotB (fun s => hasSuf (restW x.Name) s) widthsT k) (fun k => widthsT.length - k) 0 ⟨by omega, NotB.zero _ _⟩ rfl ?_ ?_
 · exact (.get rfl (VLe.refl _) (.refl _ _))
 rintro k ⟨hk, hn⟩
 refine Z6 ?_
 refine Cd (fun c1 => ?_) fun c1 => ?_
 ·
  have hltk : k < widthsT.length := by have : widthsT.length = 3 := rfl; omega
  obtain ⟨s, hxk⟩ := getElem?_lt (xs := widthsT) (k := k) hltk
  have hgk : widthsT.getD k [] = s := by rw [List.getD_eq_getElem?_getD, hxk]; rfl
  refine Z7 ?_
  refine .p (opIndexA1 FU.out FC.out FA.out (.t rfl) rfl (.t rfl) rfl (strs_at hltk)) rfl ?_
  refine Z8 ?_
  refine .p (opCall (cut_spec hne) FB.out (.cons (.t rfl) (.cons (.s [46] rfl rfl) .nil))) rfl ?_
  refine Z12 ?_
  refine .p (opCall (trimSuffix_spec) FB.out (.cons (.t rfl) (.cons (.s [95, 115] rfl rfl) .nil))) rfl ?_
  refine .p (opCall (trimSuffix_spec) FB.out (.cons (.t rfl) (.cons (.s [95, 117] rfl rfl) .nil))) rfl ?_
  refine Z7 ?_
  refine .p (cA (h := hasSuffix_spec)) rfl ?_
  refine Z2 ?_
  refine Cd (fun c2 => ?_) fun c2 => ?_
  ·
   rw [hgk] at c2
   refine Z3 ?_
   refine .p (opShl (.c _) (.t rfl) (by have h3 : k < 3 := hltk; show k ≤ 64; omega)) rfl ?_
   refine Z10 ?_
   refine Rt2 ?_ ?_
   · exact VLe.int (by rw [hwo, widthF_at hxk c2 hn]; exact shl3 hltk)
   exact VLe.prop (by rw [hwo]; simp)
  rw [hgk] at c2
  refine Z7 ?_
  refine .round (k + 1) ⟨by omega, hn.succ hxk c2⟩ (by omega) rfl ?_
  exact (.get rfl (VLe.int (by omega)) (.keep 25 rfl rfl))
 have hek : k = widthsT.length := by have : widthsT.length = 3 := rfl; omega
 subst hek
 refine Z10 ?_
 refine .p (opCall (hasPrefix_spec) FB.out (.cons (.t rfl) (.cons (.s [105, 54, 52] rfl rfl) .nil))) rfl ?_
 refine Z2 ?_
 refine Cd (fun c3 => ?_) fun c3 => ?_
 ·
  refine Z8 ?_
  refine Rt2 ?_ ?_
  · exact VLe.int (by rw [hwo, widthF_no hn, if_pos (by assumption)]; rfl)
  exact VLe.prop (by rw [hwo]; simp)
 refine Z9 ?_
 refine Rt2 ?_ ?_
 · exact VLe.int (by rw [hwo, widthF_no hn, if_neg (by assumption)]; rfl)
 exact VLe.prop (by rw [hwo]; simp)
end Go.Proofs.YtpahnbgfmhcndaaGreatDoor
end
