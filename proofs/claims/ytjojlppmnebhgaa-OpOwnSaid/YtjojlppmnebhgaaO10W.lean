/-
  Walks, printed by a program (gen.py) out of what its author says of each function.
-/
import Derived.Test.YtjojlppmnebhgaaTab
import Derived.Test.YtjojlppmnebhgaaO10A
namespace Go.Proofs.Ytjojlppmnebhgaa
open Go.Hl Go.RowKit
set_option linter.unusedVariables false
set_option maxRecDepth 100000

theorem hasSuffix__spec {l s : List UInt8} : FnP Try.prog 45 [strV l, strV s] (propV (hasSuf l s)) := by
  refine FnE.intro 21 Try.func45 rfl rfl rfl fun w0 S0 M => ?_
  refine CodeT.fact (t := 0) rfl (fun S w v h => strV_len h) fun hl => ?_
  refine CodeT.fact (t := 1) rfl (fun S w v h => strV_len h) fun hsl => ?_
  refine CodeT.seq ?_
  refine CodeT.region (.p (opAssign .cf) rfl <| .nil ?_)
  refine EndT.thenN ?_
  refine CodeT.seq ?_
  refine CodeT.region (.p (opMove (.t rfl)) rfl <| .p (opLenS rfl Try.underlying9 (.t rfl)) rfl <| .p (opMove (.t rfl)) rfl <| .p (opLenS rfl Try.underlying9 (.t rfl)) rfl <| .p (opGeq (.t rfl) (.t rfl)) rfl <| .p (opMove (.t rfl)) rfl <| .g (OpG.gT rfl rfl rfl rfl (fun hg => opMove (.t rfl))) rfl rfl <| .g (OpG.gT rfl rfl rfl rfl (fun hg => opMove (.t rfl))) rfl rfl <| .g (OpG.gT rfl rfl rfl rfl (fun hg => opLenS rfl Try.underlying9 (.when (.t rfl) hg))) rfl rfl <| .g (OpG.gT rfl rfl rfl rfl (fun hg => opMove (.t rfl))) rfl rfl <| .g (OpG.gT rfl rfl rfl rfl (fun hg => opLenS rfl Try.underlying9 (.when (.t rfl) hg))) rfl rfl <| .g (OpG.gT rfl rfl rfl rfl (fun hg => opSubF (.when (.t rfl) hg) (.when (.t rfl) hg) (fits_i64 (by omega) (by omega)))) rfl rfl <| .g (OpG.gT rfl rfl rfl rfl (fun hg => opSliceSLo Try.underlying9 (.when (.t rfl) hg) (.when (.t rfl) hg) (by omega : _ = ((l.length - s.length : Nat) : Int)) (by omega))) rfl rfl <| .g (OpG.gT rfl rfl rfl rfl (fun hg => opMove (.t rfl))) rfl rfl <| .g (OpG.gT rfl rfl rfl rfl (fun hg => opEqlS (.when (.t rfl) hg) (.when (.t rfl) hg))) rfl rfl <| .p (opAnd (.t rfl) (.t rfl)) rfl <| .p (opAssign (.t rfl)) rfl <| .nil ?_)
  refine EndT.thenN ?_
  refine CodeT.ret (Post.retP rfl rfl ?_)
  exact VLe.prop (by unfold hasSuf; constructor <;> (rintro ⟨h1, h2⟩; exact ⟨by omega, h2⟩))

theorem hasPrefix__spec {l s : List UInt8} : FnP Try.prog 46 [strV l, strV s] (propV (hasPre l s)) := by
  refine FnE.intro 18 Try.func46 rfl rfl rfl fun w0 S0 M => ?_
  refine CodeT.fact (t := 0) rfl (fun S w v h => strV_len h) fun hl => ?_
  refine CodeT.fact (t := 1) rfl (fun S w v h => strV_len h) fun hsl => ?_
  refine CodeT.seq ?_
  refine CodeT.region (.p (opAssign .cf) rfl <| .nil ?_)
  refine EndT.thenN ?_
  refine CodeT.seq ?_
  refine CodeT.region (.p (opMove (.t rfl)) rfl <| .p (opLenS rfl Try.underlying9 (.t rfl)) rfl <| .p (opMove (.t rfl)) rfl <| .p (opLenS rfl Try.underlying9 (.t rfl)) rfl <| .p (opGeq (.t rfl) (.t rfl)) rfl <| .p (opMove (.t rfl)) rfl <| .g (OpG.gT rfl rfl rfl rfl (fun hg => opMove (.t rfl))) rfl rfl <| .g (OpG.gT rfl rfl rfl rfl (fun hg => opMove (.t rfl))) rfl rfl <| .g (OpG.gT rfl rfl rfl rfl (fun hg => opLenS rfl Try.underlying9 (.when (.t rfl) hg))) rfl rfl <| .g (OpG.gT rfl rfl rfl rfl (fun hg => opSliceSHi Try.underlying9 (.when (.t rfl) hg) (.when (.t rfl) hg) rfl (by omega))) rfl rfl <| .g (OpG.gT rfl rfl rfl rfl (fun hg => opMove (.t rfl))) rfl rfl <| .g (OpG.gT rfl rfl rfl rfl (fun hg => opEqlS (.when (.t rfl) hg) (.when (.t rfl) hg))) rfl rfl <| .p (opAnd (.t rfl) (.t rfl)) rfl <| .p (opAssign (.t rfl)) rfl <| .nil ?_)
  refine EndT.thenN ?_
  refine CodeT.ret (Post.retP rfl rfl ?_)
  exact VLe.prop (by unfold hasPre; constructor <;> (rintro ⟨h1, h2⟩; exact ⟨by omega, h2⟩))

theorem hasSuffix_spec {l s : List UInt8} : FnP Try.prog 34 [strV l, strV s] (propV (hasSuf l s)) := by
  refine FnE.intro 8 Try.func34 rfl rfl rfl fun w0 S0 M => ?_
  refine CodeT.seq ?_
  refine CodeT.region (.p (opAssign .cf) rfl <| .nil ?_)
  refine EndT.thenN ?_
  refine CodeT.seq ?_
  refine CodeT.region (.p (opMove (.t rfl)) rfl <| .p (opMove (.t rfl)) rfl <| .p (opCall (hasSuffix__spec) Try.cb45 (.cons (.t rfl) (.cons (.t rfl) .nil))) rfl <| .p (opAssign (.t rfl)) rfl <| .nil ?_)
  refine EndT.thenN ?_
  refine CodeT.ret (Post.retP rfl rfl ?_)
  exact VLe.refl _

theorem hasPrefix_spec {l s : List UInt8} : FnP Try.prog 35 [strV l, strV s] (propV (hasPre l s)) := by
  refine FnE.intro 8 Try.func35 rfl rfl rfl fun w0 S0 M => ?_
  refine CodeT.seq ?_
  refine CodeT.region (.p (opAssign .cf) rfl <| .nil ?_)
  refine EndT.thenN ?_
  refine CodeT.seq ?_
  refine CodeT.region (.p (opMove (.t rfl)) rfl <| .p (opMove (.t rfl)) rfl <| .p (opCall (hasPrefix__spec) Try.cb46 (.cons (.t rfl) (.cons (.t rfl) .nil))) rfl <| .p (opAssign (.t rfl)) rfl <| .nil ?_)
  refine EndT.thenN ?_
  refine CodeT.ret (Post.retP rfl rfl ?_)
  exact VLe.refl _

theorem trimSuffix__spec {l s : List UInt8} : FnP Try.prog 44 [strV l, strV s] (strV (trimSuf l s)) := by
  refine FnE.intro 16 Try.func44 rfl rfl rfl fun w0 S0 M => ?_
  refine CodeT.fact (t := 0) rfl (fun S w v h => strV_len h) fun hl => ?_
  refine CodeT.fact (t := 1) rfl (fun S w v h => strV_len h) fun hsl => ?_
  refine CodeT.seq ?_
  refine CodeT.region (.p (opAssign (.s [] rfl rfl)) rfl <| .nil ?_)
  refine EndT.thenN ?_
  refine CodeT.seq ?_
  refine CodeT.seq ?_
  refine CodeT.region (.p (opMove (.t rfl)) rfl <| .p (opMove (.t rfl)) rfl <| .p (opCall (hasSuffix__spec) Try.cb45 (.cons (.t rfl) (.cons (.t rfl) .nil))) rfl <| .nil ?_)
  refine EndT.thenN ?_
  refine CodeT.cond (.t rfl) (fun c0 => ?_) (fun c0 => ?_)
  ·
    have hle := c0.1
    refine CodeT.seq ?_
    refine CodeT.region (.p (opMove (.t rfl)) rfl <| .p (opMove (.t rfl)) rfl <| .p (opLenS rfl Try.underlying9 (.t rfl)) rfl <| .p (opMove (.t rfl)) rfl <| .p (opLenS rfl Try.underlying9 (.t rfl)) rfl <| .p (opSubF (.t rfl) (.t rfl) (fits_i64 (by omega) (by omega))) rfl <| .p (opSliceSHi Try.underlying9 (.t rfl) (.t rfl) (by omega : _ = ((l.length - s.length : Nat) : Int)) (by omega)) rfl <| .p (opAssign (.t rfl)) rfl <| .nil ?_)
    refine EndT.thenN ?_
    refine CodeT.ret (EndT.thenR (Post.retP rfl rfl ?_))
    exact VLe.of_eq (by unfold trimSuf; rw [if_pos c0])
  ·
    refine CodeT.skip (EndT.thenN ?_)
    refine CodeT.seq ?_
    refine CodeT.region (.p (opMove (.t rfl)) rfl <| .p (opAssign (.t rfl)) rfl <| .nil ?_)
    refine EndT.thenN ?_
    refine CodeT.ret (Post.retP rfl rfl ?_)
    exact VLe.of_eq (by unfold trimSuf; rw [if_neg c0])

theorem trimSuffix_spec {l s : List UInt8} : FnP Try.prog 33 [strV l, strV s] (strV (trimSuf l s)) := by
  refine FnE.intro 8 Try.func33 rfl rfl rfl fun w0 S0 M => ?_
  refine CodeT.seq ?_
  refine CodeT.region (.p (opAssign (.s [] rfl rfl)) rfl <| .nil ?_)
  refine EndT.thenN ?_
  refine CodeT.seq ?_
  refine CodeT.region (.p (opMove (.t rfl)) rfl <| .p (opMove (.t rfl)) rfl <| .p (opCall (trimSuffix__spec) Try.cb44 (.cons (.t rfl) (.cons (.t rfl) .nil))) rfl <| .p (opAssign (.t rfl)) rfl <| .nil ?_)
  refine EndT.thenN ?_
  refine CodeT.ret (Post.retP rfl rfl ?_)
  exact VLe.refl _

theorem idxByte_spec {l : List UInt8} {b : UInt8} : FnP Try.prog 63 [strV l, intV .u8 (b.toNat : Int)] (intV .i64 (Lib.indexByte l b)) := by
  refine FnE.intro 8 Try.func63 rfl rfl rfl fun w0 S0 M => ?_
  refine CodeT.seq ?_
  refine CodeT.region (.p (opAssign (.c _)) rfl <| .nil ?_)
  refine EndT.thenN ?_
  refine CodeT.seq ?_
  refine CodeT.region (.p (opMove (.t rfl)) rfl <| .p (opMove (.t rfl)) rfl <| .p (opIdxByteS Try.xt68 (.cons (.t rfl) (.cons (.t rfl) .nil))) rfl <| .p (opAssign (.t rfl)) rfl <| .nil ?_)
  refine EndT.thenN ?_
  refine CodeT.ret (Post.retP rfl rfl ?_)
  exact VLe.refl _

theorem idx1_spec {l : List UInt8} {b : UInt8} (hp0 : l ≠ [b]) : FnP Try.prog 57 [strV l, strV [b]] (intV .i64 (Lib.indexByte l b)) := by
  refine FnE.intro 143 Try.func57 rfl rfl rfl fun w0 S0 M => ?_
  refine CodeT.seq ?_
  refine CodeT.region (.p (opAssign (.c _)) rfl <| .nil ?_)
  refine EndT.thenN ?_
  refine CodeT.seq ?_
  refine CodeT.region (.p (opMove (.t rfl)) rfl <| .p (opLenS rfl Try.underlying9 (.t rfl)) rfl <| .p (opAssign (.t rfl)) rfl <| .nil ?_)
  refine EndT.thenN ?_
  refine CodeT.seq ?_
  refine CodeT.block ?_
  refine CodeT.seq ?_
  refine CodeT.region (.p (opMove (.t rfl)) rfl <| .p (opEql (.t rfl) (.c _)) rfl <| .p (opMove (.t rfl)) rfl <| .g (OpG.gF rfl rfl rfl rfl (fun hg => opMove (.t rfl))) rfl rfl <| .g (OpG.gF rfl rfl rfl rfl (fun hg => opMove (.t rfl))) rfl rfl <| .g (OpG.gF rfl rfl rfl rfl (fun hg => opEqlS (.when (.t rfl) hg) (.when (.t rfl) hg))) rfl rfl <| .p (opOr (.t rfl) (.t rfl)) rfl <| .p (opAssign (.t rfl)) rfl <| .nil ?_)
  refine EndT.thenN ?_
  refine CodeT.cond (.t rfl) (fun c0 => ?_) (fun c0 => ?_)
  ·
    exfalso; simp at c0; exact hp0 c0.symm
  ·
    refine CodeT.seq ?_
    refine CodeT.region (.p (opMove (.t rfl)) rfl <| .p (opEql (.t rfl) (.c _)) rfl <| .p (opAssign (.t rfl)) rfl <| .nil ?_)
    refine EndT.thenN ?_
    refine CodeT.cond (.t rfl) (fun c1 => ?_) (fun c1 => ?_)
    ·
      refine CodeT.seq ?_
      refine CodeT.region (.p (opMove (.t rfl)) rfl <| .p (opMove (.t rfl)) rfl <| .p (opIndexS Try.underlying9 (.t rfl) (.c _) rfl (show [b][0]? = some b from rfl)) rfl <| .p (opCall (idxByte_spec) Try.cb63 (.cons (.t rfl) (.cons (.t rfl) .nil))) rfl <| .p (opAssign (.t rfl)) rfl <| .nil ?_)
      refine EndT.thenN ?_
      refine CodeT.ret (EndT.blkR (EndT.thenR (Post.retP rfl rfl ?_)))
      exact VLe.refl _
    ·
      exact absurd rfl c1

theorem cut__spec {l : List UInt8} {b : UInt8} (hp0 : l ≠ [b]) : FnP Try.prog 43 [strV l, strV [b]] (tupV [strV (cutB l b).1, strV (cutB l b).2.1, propV ((cutB l b).2.2 = true)]) := by
  refine FnE.intro 23 Try.func43 rfl rfl rfl fun w0 S0 M => ?_
  refine CodeT.fact (t := 0) rfl (fun S w v h => strV_len h) fun hl => ?_
  have hlt := indexByte_lt l b
  refine CodeT.seq ?_
  refine CodeT.region (.p (opAssign (.s [] rfl rfl)) rfl <| .p (opAssign (.s [] rfl rfl)) rfl <| .p (opAssign .cf) rfl <| .nil ?_)
  refine EndT.thenN ?_
  refine CodeT.seq ?_
  refine CodeT.seq ?_
  refine CodeT.region (.p (opMove (.t rfl)) rfl <| .p (opMove (.t rfl)) rfl <| .p (opCall (idx1_spec hp0) Try.cb57 (.cons (.t rfl) (.cons (.t rfl) .nil))) rfl <| .p (opAssign (.t rfl)) rfl <| .nil ?_)
  refine EndT.thenN ?_
  refine CodeT.seq ?_
  refine CodeT.region (.p (opMove (.t rfl)) rfl <| .p (opGeq (.t rfl) (.c _)) rfl <| .nil ?_)
  refine EndT.thenN ?_
  refine CodeT.cond (.t rfl) (fun c0 => ?_) (fun c0 => ?_)
  ·
    have hj : Lib.indexByte l b = (((Lib.indexByte l b).toNat : Nat) : Int) := by omega
    refine CodeT.seq ?_
    refine CodeT.draw 10 2 Try.mixed (by kernel_rfl) (.p (opMove (.t rfl)) <| .p (opMove (.t rfl)) <| .p (opSliceSHi Try.underlying9 (.t rfl) (.t rfl) hj (by omega)) <| .p (opMove (.t rfl)) <| .p (opMove (.t rfl)) <| .p (opMove (.t rfl)) <| .p (opLenS rfl Try.underlying9 (.t rfl)) <| .p (opAddF (.t rfl) (.t rfl) (fits_i64 (by simp only [List.length_cons, List.length_nil]; omega) (by simp only [List.length_cons, List.length_nil]; omega))) <| .p (opSliceSLo Try.underlying9 (.t rfl) (.t rfl) (by simp only [List.length_cons, List.length_nil]; omega : _ = (((Lib.indexByte l b).toNat + 1 : Nat) : Int)) (by omega)) <| .p (opAssign (.t rfl)) <| .nil) (.p (opAssign (.t rfl)) rfl <| .p (opAssign .ct) rfl <| .nil ?_)
    refine EndT.thenN ?_
    refine CodeT.ret (EndT.thenR (Post.retR rfl rfl () trivial (fun _ _ _ _ => trivial) rfl (.cons (.rt rfl) ?_ (.cons (.rt rfl) ?_ (.cons (.rt rfl) ?_ .nil)))))
    · exact VLe.of_eq (by unfold cutB; rw [if_pos c0])
    · exact VLe.of_eq (by unfold cutB; rw [if_pos c0])
    · exact VLe.prop (by unfold cutB; rw [if_pos c0]; simp)
  ·
    refine CodeT.skip (EndT.thenN ?_)
    refine CodeT.seq ?_
    refine CodeT.region (.p (opMove (.t rfl)) rfl <| .p (opAssign (.t rfl)) rfl <| .p (opAssign (.s [] rfl rfl)) rfl <| .p (opAssign .cf) rfl <| .nil ?_)
    refine EndT.thenN ?_
    refine CodeT.ret (Post.retR rfl rfl () trivial (fun _ _ _ _ => trivial) rfl (.cons (.rt rfl) ?_ (.cons (.rt rfl) ?_ (.cons (.rt rfl) ?_ .nil))))
    · exact VLe.of_eq (by unfold cutB; rw [if_neg c0])
    · exact VLe.of_eq (by unfold cutB; rw [if_neg c0])
    · exact VLe.prop (by unfold cutB; rw [if_neg c0]; simp)

theorem cut_spec {l : List UInt8} {b : UInt8} (hp0 : l ≠ [b]) : FnP Try.prog 32 [strV l, strV [b]] (tupV [strV (cutB l b).1, strV (cutB l b).2.1, propV ((cutB l b).2.2 = true)]) := by
  refine FnE.intro 13 Try.func32 rfl rfl rfl fun w0 S0 M => ?_
  refine CodeT.seq ?_
  refine CodeT.region (.p (opAssign (.s [] rfl rfl)) rfl <| .p (opAssign (.s [] rfl rfl)) rfl <| .p (opAssign .cf) rfl <| .nil ?_)
  refine EndT.thenN ?_
  refine CodeT.seq ?_
  refine CodeT.region (.p (opMove (.t rfl)) rfl <| .p (opMove (.t rfl)) rfl <| .p (opCall (cut__spec hp0) Try.cb43 (.cons (.t rfl) (.cons (.t rfl) .nil))) rfl <| .p (opExtract (.t rfl) rfl) rfl <| .p (opExtract (.t rfl) rfl) rfl <| .p (opExtract (.t rfl) rfl) rfl <| .p (opAssign (.t rfl)) rfl <| .p (opAssign (.t rfl)) rfl <| .p (opAssign (.t rfl)) rfl <| .nil ?_)
  refine EndT.thenN ?_
  refine CodeT.ret (Post.retR rfl rfl () trivial (fun _ _ _ _ => trivial) rfl (.cons (.rt rfl) ?_ (.cons (.rt rfl) ?_ (.cons (.rt rfl) ?_ .nil))))
  · exact VLe.refl _
  · exact VLe.refl _
  · exact VLe.refl _

theorem binaries_spec  : FnP Try.prog 38 [] (aggV (binT.flatMap encStrD)) := by
  refine FnE.intro 2 Try.func38 rfl rfl rfl fun w0 S0 M => ?_
  refine CodeT.seq ?_
  refine CodeT.region (.n (opAlloc Try.zb75) rfl <| fun b0 _ => .nil ?_)
  refine EndT.thenN ?_
  refine CodeT.seq ?_
  refine CodeT.region (.p (opBuildArr (cs := binT.flatMap encStrD) Try.ar75 Try.zb75 (.cons (.s [97, 100, 100] rfl rfl) (.cons (.s [115, 117, 98] rfl rfl) (.cons (.s [109, 117, 108] rfl rfl) (.cons (.s [100, 105, 118, 95, 115] rfl rfl) (.cons (.s [100, 105, 118, 95, 117] rfl rfl) (.cons (.s [114, 101, 109, 95, 115] rfl rfl) (.cons (.s [114, 101, 109, 95, 117] rfl rfl) (.cons (.s [97, 110, 100] rfl rfl) (.cons (.s [111, 114] rfl rfl) (.cons (.s [120, 111, 114] rfl rfl) (.cons (.s [115, 104, 108] rfl rfl) (.cons (.s [115, 104, 114, 95, 115] rfl rfl) (.cons (.s [115, 104, 114, 95, 117] rfl rfl) (.cons (.s [114, 111, 116, 108] rfl rfl) (.cons (.s [114, 111, 116, 114] rfl rfl) .nil))))))))))))))) rfl) rfl <| .s (opStoreOA (i := 0) Try.cz75 rfl (.t rfl) (.t rfl) rfl rfl rfl) <| .nil ?_)
  refine EndT.thenN ?_
  refine CodeT.ret (Post.retR1 rfl () trivial (fun _ _ _ _ => trivial) (.ra (i := 0) Try.ag75 Try.cz75 rfl rfl rfl rfl) ?_)
  exact VLe.refl _

theorem tests_spec  : FnP Try.prog 39 [] (aggV (testT.flatMap encStrD)) := by
  refine FnE.intro 2 Try.func39 rfl rfl rfl fun w0 S0 M => ?_
  refine CodeT.seq ?_
  refine CodeT.region (.n (opAlloc Try.zb77) rfl <| fun b0 _ => .nil ?_)
  refine EndT.thenN ?_
  refine CodeT.seq ?_
  refine CodeT.region (.p (opBuildArr (cs := testT.flatMap encStrD) Try.ar77 Try.zb77 (.cons (.s [101, 113] rfl rfl) (.cons (.s [110, 101] rfl rfl) (.cons (.s [108, 116, 95, 115] rfl rfl) (.cons (.s [108, 116, 95, 117] rfl rfl) (.cons (.s [103, 116, 95, 115] rfl rfl) (.cons (.s [103, 116, 95, 117] rfl rfl) (.cons (.s [108, 101, 95, 115] rfl rfl) (.cons (.s [108, 101, 95, 117] rfl rfl) (.cons (.s [103, 101, 95, 115] rfl rfl) (.cons (.s [103, 101, 95, 117] rfl rfl) .nil)))))))))) rfl) rfl <| .s (opStoreOA (i := 0) Try.cz77 rfl (.t rfl) (.t rfl) rfl rfl rfl) <| .nil ?_)
  refine EndT.thenN ?_
  refine CodeT.ret (Post.retR1 rfl () trivial (fun _ _ _ _ => trivial) (.ra (i := 0) Try.ag77 Try.cz77 rfl rfl rfl rfl) ?_)
  exact VLe.refl _

theorem unaries_spec  : FnP Try.prog 40 [] (aggV (unT.flatMap encStrD)) := by
  refine FnE.intro 2 Try.func40 rfl rfl rfl fun w0 S0 M => ?_
  refine CodeT.seq ?_
  refine CodeT.region (.n (opAlloc Try.zb79) rfl <| fun b0 _ => .nil ?_)
  refine EndT.thenN ?_
  refine CodeT.seq ?_
  refine CodeT.region (.p (opBuildArr (cs := unT.flatMap encStrD) Try.ar79 Try.zb79 (.cons (.s [99, 108, 122] rfl rfl) (.cons (.s [99, 116, 122] rfl rfl) (.cons (.s [112, 111, 112, 99, 110, 116] rfl rfl) (.cons (.s [101, 113, 122] rfl rfl) .nil)))) rfl) rfl <| .s (opStoreOA (i := 0) Try.cz79 rfl (.t rfl) (.t rfl) rfl rfl rfl) <| .nil ?_)
  refine EndT.thenN ?_
  refine CodeT.ret (Post.retR1 rfl () trivial (fun _ _ _ _ => trivial) (.ra (i := 0) Try.ag79 Try.cz79 rfl rfl rfl rfl) ?_)
  exact VLe.refl _

theorem rows_spec  : FnP Try.prog 24 [] (aggV (rowsT.flatMap encRow)) := by
  refine FnE.intro 49 Try.func24 rfl rfl rfl fun w0 S0 M => ?_
  refine CodeT.seq ?_
  refine CodeT.region (.n (opAlloc Try.zb57) rfl <| fun b0 _ => .nil ?_)
  refine EndT.thenN ?_
  refine CodeT.seq ?_
  refine CodeT.region (.p (opBuild Try.pl53 Try.zb53 (.cons (.c _) (.cons (.s [117, 110, 114, 101, 97, 99, 104, 97, 98, 108, 101] rfl rfl) (.cons (.c _) (.cons (.s [] rfl rfl) (.cons (.s [] rfl rfl) .nil))))) rfl) rfl <| .p (opBuild Try.pl53 Try.zb53 (.cons (.c _) (.cons (.s [110, 111, 112] rfl rfl) (.cons (.c _) (.cons (.s [] rfl rfl) (.cons (.s [] rfl rfl) .nil))))) rfl) rfl <| .p (opBuild Try.pl53 Try.zb53 (.cons (.c _) (.cons (.s [98, 108, 111, 99, 107] rfl rfl) (.cons (.c _) (.cons (.s [] rfl rfl) (.cons (.s [] rfl rfl) .nil))))) rfl) rfl <| .p (opBuild Try.pl53 Try.zb53 (.cons (.c _) (.cons (.s [108, 111, 111, 112] rfl rfl) (.cons (.c _) (.cons (.s [] rfl rfl) (.cons (.s [] rfl rfl) .nil))))) rfl) rfl <| .p (opBuild Try.pl53 Try.zb53 (.cons (.c _) (.cons (.s [105, 102] rfl rfl) (.cons (.c _) (.cons (.s [] rfl rfl) (.cons (.s [] rfl rfl) .nil))))) rfl) rfl <| .p (opBuild Try.pl53 Try.zb53 (.cons (.c _) (.cons (.s [101, 108, 115, 101] rfl rfl) (.cons (.c _) (.cons (.s [] rfl rfl) (.cons (.s [] rfl rfl) .nil))))) rfl) rfl <| .p (opBuild Try.pl53 Try.zb53 (.cons (.c _) (.cons (.s [101, 110, 100] rfl rfl) (.cons (.c _) (.cons (.s [] rfl rfl) (.cons (.s [] rfl rfl) .nil))))) rfl) rfl <| .p (opBuild Try.pl53 Try.zb53 (.cons (.c _) (.cons (.s [98, 114] rfl rfl) (.cons (.c _) (.cons (.s [] rfl rfl) (.cons (.s [] rfl rfl) .nil))))) rfl) rfl <| .p (opBuild Try.pl53 Try.zb53 (.cons (.c _) (.cons (.s [98, 114, 95, 105, 102] rfl rfl) (.cons (.c _) (.cons (.s [] rfl rfl) (.cons (.s [] rfl rfl) .nil))))) rfl) rfl <| .p (opBuild Try.pl53 Try.zb53 (.cons (.c _) (.cons (.s [98, 114, 95, 116, 97, 98, 108, 101] rfl rfl) (.cons (.c _) (.cons (.s [] rfl rfl) (.cons (.s [] rfl rfl) .nil))))) rfl) rfl <| .p (opBuild Try.pl53 Try.zb53 (.cons (.c _) (.cons (.s [114, 101, 116, 117, 114, 110] rfl rfl) (.cons (.c _) (.cons (.s [] rfl rfl) (.cons (.s [] rfl rfl) .nil))))) rfl) rfl <| .p (opBuild Try.pl53 Try.zb53 (.cons (.c _) (.cons (.s [99, 97, 108, 108] rfl rfl) (.cons (.c _) (.cons (.s [] rfl rfl) (.cons (.s [] rfl rfl) .nil))))) rfl) rfl <| .p (opBuild Try.pl53 Try.zb53 (.cons (.c _) (.cons (.s [99, 97, 108, 108, 95, 105, 110, 100, 105, 114, 101, 99, 116] rfl rfl) (.cons (.c _) (.cons (.s [] rfl rfl) (.cons (.s [] rfl rfl) .nil))))) rfl) rfl <| .p (opBuild Try.pl53 Try.zb53 (.cons (.c _) (.cons (.s [100, 114, 111, 112] rfl rfl) (.cons (.c _) (.cons (.s [] rfl rfl) (.cons (.s [] rfl rfl) .nil))))) rfl) rfl <| .p (opBuild Try.pl53 Try.zb53 (.cons (.c _) (.cons (.s [115, 101, 108, 101, 99, 116] rfl rfl) (.cons (.c _) (.cons (.s [] rfl rfl) (.cons (.s [] rfl rfl) .nil))))) rfl) rfl <| .p (opBuild Try.pl53 Try.zb53 (.cons (.c _) (.cons (.s [108, 111, 99, 97, 108, 46, 103, 101, 116] rfl rfl) (.cons (.c _) (.cons (.s [] rfl rfl) (.cons (.s [] rfl rfl) .nil))))) rfl) rfl <| .p (opBuild Try.pl53 Try.zb53 (.cons (.c _) (.cons (.s [108, 111, 99, 97, 108, 46, 115, 101, 116] rfl rfl) (.cons (.c _) (.cons (.s [] rfl rfl) (.cons (.s [] rfl rfl) .nil))))) rfl) rfl <| .p (opBuild Try.pl53 Try.zb53 (.cons (.c _) (.cons (.s [108, 111, 99, 97, 108, 46, 116, 101, 101] rfl rfl) (.cons (.c _) (.cons (.s [] rfl rfl) (.cons (.s [] rfl rfl) .nil))))) rfl) rfl <| .p (opBuild Try.pl53 Try.zb53 (.cons (.c _) (.cons (.s [103, 108, 111, 98, 97, 108, 46, 103, 101, 116] rfl rfl) (.cons (.c _) (.cons (.s [] rfl rfl) (.cons (.s [] rfl rfl) .nil))))) rfl) rfl <| .p (opBuild Try.pl53 Try.zb53 (.cons (.c _) (.cons (.s [103, 108, 111, 98, 97, 108, 46, 115, 101, 116] rfl rfl) (.cons (.c _) (.cons (.s [] rfl rfl) (.cons (.s [] rfl rfl) .nil))))) rfl) rfl <| .p (opBuild Try.pl53 Try.zb53 (.cons (.c _) (.cons (.s [105, 51, 50, 46, 108, 111, 97, 100] rfl rfl) (.cons (.c _) (.cons (.s [105] rfl rfl) (.cons (.s [105] rfl rfl) .nil))))) rfl) rfl <| .p (opBuild Try.pl53 Try.zb53 (.cons (.c _) (.cons (.s [105, 54, 52, 46, 108, 111, 97, 100] rfl rfl) (.cons (.c _) (.cons (.s [105] rfl rfl) (.cons (.s [108] rfl rfl) .nil))))) rfl) rfl <| .p (opBuild Try.pl53 Try.zb53 (.cons (.c _) (.cons (.s [105, 51, 50, 46, 108, 111, 97, 100, 56, 95, 115] rfl rfl) (.cons (.c _) (.cons (.s [105] rfl rfl) (.cons (.s [105] rfl rfl) .nil))))) rfl) rfl <| .p (opBuild Try.pl53 Try.zb53 (.cons (.c _) (.cons (.s [105, 51, 50, 46, 108, 111, 97, 100, 56, 95, 117] rfl rfl) (.cons (.c _) (.cons (.s [105] rfl rfl) (.cons (.s [105] rfl rfl) .nil))))) rfl) rfl <| .p (opBuild Try.pl53 Try.zb53 (.cons (.c _) (.cons (.s [105, 51, 50, 46, 108, 111, 97, 100, 49, 54, 95, 115] rfl rfl) (.cons (.c _) (.cons (.s [105] rfl rfl) (.cons (.s [105] rfl rfl) .nil))))) rfl) rfl <| .p (opBuild Try.pl53 Try.zb53 (.cons (.c _) (.cons (.s [105, 51, 50, 46, 108, 111, 97, 100, 49, 54, 95, 117] rfl rfl) (.cons (.c _) (.cons (.s [105] rfl rfl) (.cons (.s [105] rfl rfl) .nil))))) rfl) rfl <| .p (opBuild Try.pl53 Try.zb53 (.cons (.c _) (.cons (.s [105, 54, 52, 46, 108, 111, 97, 100, 56, 95, 115] rfl rfl) (.cons (.c _) (.cons (.s [105] rfl rfl) (.cons (.s [108] rfl rfl) .nil))))) rfl) rfl <| .p (opBuild Try.pl53 Try.zb53 (.cons (.c _) (.cons (.s [105, 54, 52, 46, 108, 111, 97, 100, 56, 95, 117] rfl rfl) (.cons (.c _) (.cons (.s [105] rfl rfl) (.cons (.s [108] rfl rfl) .nil))))) rfl) rfl <| .p (opBuild Try.pl53 Try.zb53 (.cons (.c _) (.cons (.s [105, 54, 52, 46, 108, 111, 97, 100, 49, 54, 95, 115] rfl rfl) (.cons (.c _) (.cons (.s [105] rfl rfl) (.cons (.s [108] rfl rfl) .nil))))) rfl) rfl <| .p (opBuild Try.pl53 Try.zb53 (.cons (.c _) (.cons (.s [105, 54, 52, 46, 108, 111, 97, 100, 49, 54, 95, 117] rfl rfl) (.cons (.c _) (.cons (.s [105] rfl rfl) (.cons (.s [108] rfl rfl) .nil))))) rfl) rfl <| .p (opBuild Try.pl53 Try.zb53 (.cons (.c _) (.cons (.s [105, 54, 52, 46, 108, 111, 97, 100, 51, 50, 95, 115] rfl rfl) (.cons (.c _) (.cons (.s [105] rfl rfl) (.cons (.s [108] rfl rfl) .nil))))) rfl) rfl <| .p (opBuild Try.pl53 Try.zb53 (.cons (.c _) (.cons (.s [105, 54, 52, 46, 108, 111, 97, 100, 51, 50, 95, 117] rfl rfl) (.cons (.c _) (.cons (.s [105] rfl rfl) (.cons (.s [108] rfl rfl) .nil))))) rfl) rfl <| .p (opBuild Try.pl53 Try.zb53 (.cons (.c _) (.cons (.s [105, 51, 50, 46, 115, 116, 111, 114, 101] rfl rfl) (.cons (.c _) (.cons (.s [105, 105] rfl rfl) (.cons (.s [] rfl rfl) .nil))))) rfl) rfl <| .p (opBuild Try.pl53 Try.zb53 (.cons (.c _) (.cons (.s [105, 54, 52, 46, 115, 116, 111, 114, 101] rfl rfl) (.cons (.c _) (.cons (.s [105, 108] rfl rfl) (.cons (.s [] rfl rfl) .nil))))) rfl) rfl <| .p (opBuild Try.pl53 Try.zb53 (.cons (.c _) (.cons (.s [105, 51, 50, 46, 115, 116, 111, 114, 101, 56] rfl rfl) (.cons (.c _) (.cons (.s [105, 105] rfl rfl) (.cons (.s [] rfl rfl) .nil))))) rfl) rfl <| .p (opBuild Try.pl53 Try.zb53 (.cons (.c _) (.cons (.s [105, 51, 50, 46, 115, 116, 111, 114, 101, 49, 54] rfl rfl) (.cons (.c _) (.cons (.s [105, 105] rfl rfl) (.cons (.s [] rfl rfl) .nil))))) rfl) rfl <| .p (opBuild Try.pl53 Try.zb53 (.cons (.c _) (.cons (.s [105, 54, 52, 46, 115, 116, 111, 114, 101, 56] rfl rfl) (.cons (.c _) (.cons (.s [105, 108] rfl rfl) (.cons (.s [] rfl rfl) .nil))))) rfl) rfl <| .p (opBuild Try.pl53 Try.zb53 (.cons (.c _) (.cons (.s [105, 54, 52, 46, 115, 116, 111, 114, 101, 49, 54] rfl rfl) (.cons (.c _) (.cons (.s [105, 108] rfl rfl) (.cons (.s [] rfl rfl) .nil))))) rfl) rfl <| .p (opBuild Try.pl53 Try.zb53 (.cons (.c _) (.cons (.s [105, 54, 52, 46, 115, 116, 111, 114, 101, 51, 50] rfl rfl) (.cons (.c _) (.cons (.s [105, 108] rfl rfl) (.cons (.s [] rfl rfl) .nil))))) rfl) rfl <| .p (opBuild Try.pl53 Try.zb53 (.cons (.c _) (.cons (.s [109, 101, 109, 111, 114, 121, 46, 115, 105, 122, 101] rfl rfl) (.cons (.c _) (.cons (.s [] rfl rfl) (.cons (.s [105] rfl rfl) .nil))))) rfl) rfl <| .p (opBuild Try.pl53 Try.zb53 (.cons (.c _) (.cons (.s [109, 101, 109, 111, 114, 121, 46, 103, 114, 111, 119] rfl rfl) (.cons (.c _) (.cons (.s [105] rfl rfl) (.cons (.s [105] rfl rfl) .nil))))) rfl) rfl <| .p (opBuild Try.pl53 Try.zb53 (.cons (.c _) (.cons (.s [105, 51, 50, 46, 99, 111, 110, 115, 116] rfl rfl) (.cons (.c _) (.cons (.s [] rfl rfl) (.cons (.s [105] rfl rfl) .nil))))) rfl) rfl <| .p (opBuild Try.pl53 Try.zb53 (.cons (.c _) (.cons (.s [105, 54, 52, 46, 99, 111, 110, 115, 116] rfl rfl) (.cons (.c _) (.cons (.s [] rfl rfl) (.cons (.s [108] rfl rfl) .nil))))) rfl) rfl <| .p (opBuild Try.pl53 Try.zb53 (.cons (.c _) (.cons (.s [105, 51, 50, 46, 119, 114, 97, 112, 95, 105, 54, 52] rfl rfl) (.cons (.c _) (.cons (.s [108] rfl rfl) (.cons (.s [105] rfl rfl) .nil))))) rfl) rfl <| .p (opBuild Try.pl53 Try.zb53 (.cons (.c _) (.cons (.s [105, 54, 52, 46, 101, 120, 116, 101, 110, 100, 95, 105, 51, 50, 95, 115] rfl rfl) (.cons (.c _) (.cons (.s [105] rfl rfl) (.cons (.s [108] rfl rfl) .nil))))) rfl) rfl <| .p (opBuild Try.pl53 Try.zb53 (.cons (.c _) (.cons (.s [105, 54, 52, 46, 101, 120, 116, 101, 110, 100, 95, 105, 51, 50, 95, 117] rfl rfl) (.cons (.c _) (.cons (.s [105] rfl rfl) (.cons (.s [108] rfl rfl) .nil))))) rfl) rfl <| .p (opBuild Try.pl53 Try.zb53 (.cons (.c _) (.cons (.s [105, 51, 50, 46, 101, 120, 116, 101, 110, 100, 56, 95, 115] rfl rfl) (.cons (.c _) (.cons (.s [105] rfl rfl) (.cons (.s [105] rfl rfl) .nil))))) rfl) rfl <| .p (opBuildArr (cs := rowsT.flatMap encRow) Try.ar57 Try.zb57 (.cons (.t rfl) (.cons (.t rfl) (.cons (.t rfl) (.cons (.t rfl) (.cons (.t rfl) (.cons (.t rfl) (.cons (.t rfl) (.cons (.t rfl) (.cons (.t rfl) (.cons (.t rfl) (.cons (.t rfl) (.cons (.t rfl) (.cons (.t rfl) (.cons (.t rfl) (.cons (.t rfl) (.cons (.t rfl) (.cons (.t rfl) (.cons (.t rfl) (.cons (.t rfl) (.cons (.t rfl) (.cons (.t rfl) (.cons (.t rfl) (.cons (.t rfl) (.cons (.t rfl) (.cons (.t rfl) (.cons (.t rfl) (.cons (.t rfl) (.cons (.t rfl) (.cons (.t rfl) (.cons (.t rfl) (.cons (.t rfl) (.cons (.t rfl) (.cons (.t rfl) (.cons (.t rfl) (.cons (.t rfl) (.cons (.t rfl) (.cons (.t rfl) (.cons (.t rfl) (.cons (.t rfl) (.cons (.t rfl) (.cons (.t rfl) (.cons (.t rfl) (.cons (.t rfl) (.cons (.t rfl) (.cons (.t rfl) (.cons (.t rfl) (.cons (.t rfl) .nil))))))))))))))))))))))))))))))))))))))))))))))) rfl) rfl <| .s (opStoreOA (i := 0) Try.cz57 rfl (.t rfl) (.t rfl) rfl rfl rfl) <| .nil ?_)
  refine EndT.thenN ?_
  refine CodeT.ret (Post.retR1 rfl () trivial (fun _ _ _ _ => trivial) (.ra (i := 0) Try.ag57 Try.cz57 rfl rfl rfl rfl) ?_)
  exact VLe.refl _

theorem late_spec  : FnP Try.prog 25 [] (aggV (lateT.flatMap encRow)) := by
  refine FnE.intro 8 Try.func25 rfl rfl rfl fun w0 S0 M => ?_
  refine CodeT.seq ?_
  refine CodeT.region (.n (opAlloc Try.zb59) rfl <| fun b0 _ => .nil ?_)
  refine EndT.thenN ?_
  refine CodeT.seq ?_
  refine CodeT.region (.p (opBuild Try.pl53 Try.zb53 (.cons (.c _) (.cons (.s [105, 51, 50, 46, 101, 120, 116, 101, 110, 100, 49, 54, 95, 115] rfl rfl) (.cons (.c _) (.cons (.s [105] rfl rfl) (.cons (.s [105] rfl rfl) .nil))))) rfl) rfl <| .p (opBuild Try.pl53 Try.zb53 (.cons (.c _) (.cons (.s [105, 54, 52, 46, 101, 120, 116, 101, 110, 100, 56, 95, 115] rfl rfl) (.cons (.c _) (.cons (.s [108] rfl rfl) (.cons (.s [108] rfl rfl) .nil))))) rfl) rfl <| .p (opBuild Try.pl53 Try.zb53 (.cons (.c _) (.cons (.s [105, 54, 52, 46, 101, 120, 116, 101, 110, 100, 49, 54, 95, 115] rfl rfl) (.cons (.c _) (.cons (.s [108] rfl rfl) (.cons (.s [108] rfl rfl) .nil))))) rfl) rfl <| .p (opBuild Try.pl53 Try.zb53 (.cons (.c _) (.cons (.s [105, 54, 52, 46, 101, 120, 116, 101, 110, 100, 51, 50, 95, 115] rfl rfl) (.cons (.c _) (.cons (.s [108] rfl rfl) (.cons (.s [108] rfl rfl) .nil))))) rfl) rfl <| .p (opBuild Try.pl53 Try.zb53 (.cons (.c _) (.cons (.s [109, 101, 109, 111, 114, 121, 46, 99, 111, 112, 121] rfl rfl) (.cons (.c _) (.cons (.s [105, 105, 105] rfl rfl) (.cons (.s [] rfl rfl) .nil))))) rfl) rfl <| .p (opBuild Try.pl53 Try.zb53 (.cons (.c _) (.cons (.s [109, 101, 109, 111, 114, 121, 46, 102, 105, 108, 108] rfl rfl) (.cons (.c _) (.cons (.s [105, 105, 105] rfl rfl) (.cons (.s [] rfl rfl) .nil))))) rfl) rfl <| .p (opBuildArr (cs := lateT.flatMap encRow) Try.ar59 Try.zb59 (.cons (.t rfl) (.cons (.t rfl) (.cons (.t rfl) (.cons (.t rfl) (.cons (.t rfl) (.cons (.t rfl) .nil)))))) rfl) rfl <| .s (opStoreOA (i := 0) Try.cz59 rfl (.t rfl) (.t rfl) rfl rfl rfl) <| .nil ?_)
  refine EndT.thenN ?_
  refine CodeT.ret (Post.retR1 rfl () trivial (fun _ _ _ _ => trivial) (.ra (i := 0) Try.ag59 Try.cz59 rfl rfl rfl rfl) ?_)
  exact VLe.refl _

theorem spans_spec  : FnP Try.prog 21 [] (aggV (spansT.flatMap encSpan)) := by
  refine FnE.intro 10 Try.func21 rfl rfl rfl fun w0 S0 M => ?_
  refine CodeT.seq ?_
  refine CodeT.region (.n (opAlloc Try.zb50) rfl <| fun b0 _ => .nil ?_)
  refine EndT.thenN ?_
  refine CodeT.seq ?_
  refine CodeT.region (.p (opBuild Try.pl49 Try.zb49 (.cons (.c _) (.cons (.c _) (.cons (.c _) (.cons (.c _) (.cons (.c _) .nil))))) rfl) rfl <| .p (opBuild Try.pl49 Try.zb49 (.cons (.c _) (.cons (.c _) (.cons (.c _) (.cons (.c _) (.cons (.c _) .nil))))) rfl) rfl <| .p (opBuild Try.pl49 Try.zb49 (.cons (.c _) (.cons (.c _) (.cons (.c _) (.cons (.c _) (.cons (.c _) .nil))))) rfl) rfl <| .p (opBuild Try.pl49 Try.zb49 (.cons (.c _) (.cons (.c _) (.cons (.c _) (.cons (.c _) (.cons (.c _) .nil))))) rfl) rfl <| .p (opBuild Try.pl49 Try.zb49 (.cons (.c _) (.cons (.c _) (.cons (.c _) (.cons (.c _) (.cons (.c _) .nil))))) rfl) rfl <| .p (opBuild Try.pl49 Try.zb49 (.cons (.c _) (.cons (.c _) (.cons (.c _) (.cons (.c _) (.cons (.c _) .nil))))) rfl) rfl <| .p (opBuild Try.pl49 Try.zb49 (.cons (.c _) (.cons (.c _) (.cons (.c _) (.cons (.c _) (.cons (.c _) .nil))))) rfl) rfl <| .p (opBuild Try.pl49 Try.zb49 (.cons (.c _) (.cons (.c _) (.cons (.c _) (.cons (.c _) (.cons (.c _) .nil))))) rfl) rfl <| .p (opBuildArr (cs := spansT.flatMap encSpan) Try.ar50 Try.zb50 (.cons (.t rfl) (.cons (.t rfl) (.cons (.t rfl) (.cons (.t rfl) (.cons (.t rfl) (.cons (.t rfl) (.cons (.t rfl) (.cons (.t rfl) .nil)))))))) rfl) rfl <| .s (opStoreOA (i := 0) Try.cz50 rfl (.t rfl) (.t rfl) rfl rfl rfl) <| .nil ?_)
  refine EndT.thenN ?_
  refine CodeT.ret (Post.retR1 rfl () trivial (fun _ _ _ _ => trivial) (.ra (i := 0) Try.ag50 Try.cz50 rfl rfl rfl rfl) ?_)
  exact VLe.refl _

theorem foreign_spec  : FnP Try.prog 36 [] (aggV (foreignT.flatMap encPairI)) := by
  refine FnE.intro 17 Try.func36 rfl rfl rfl fun w0 S0 M => ?_
  refine CodeT.seq ?_
  refine CodeT.region (.n (opAlloc Try.zb72) rfl <| fun b0 _ => .nil ?_)
  refine EndT.thenN ?_
  refine CodeT.seq ?_
  refine CodeT.region (.p (opBuildArr Try.ar71 Try.zb71 (.cons (.c _) (.cons (.c _) .nil)) rfl) rfl <| .p (opBuildArr Try.ar71 Try.zb71 (.cons (.c _) (.cons (.c _) .nil)) rfl) rfl <| .p (opBuildArr Try.ar71 Try.zb71 (.cons (.c _) (.cons (.c _) .nil)) rfl) rfl <| .p (opBuildArr Try.ar71 Try.zb71 (.cons (.c _) (.cons (.c _) .nil)) rfl) rfl <| .p (opBuildArr Try.ar71 Try.zb71 (.cons (.c _) (.cons (.c _) .nil)) rfl) rfl <| .p (opBuildArr Try.ar71 Try.zb71 (.cons (.c _) (.cons (.c _) .nil)) rfl) rfl <| .p (opBuildArr Try.ar71 Try.zb71 (.cons (.c _) (.cons (.c _) .nil)) rfl) rfl <| .p (opBuildArr Try.ar71 Try.zb71 (.cons (.c _) (.cons (.c _) .nil)) rfl) rfl <| .p (opBuildArr Try.ar71 Try.zb71 (.cons (.c _) (.cons (.c _) .nil)) rfl) rfl <| .p (opBuildArr Try.ar71 Try.zb71 (.cons (.c _) (.cons (.c _) .nil)) rfl) rfl <| .p (opBuildArr Try.ar71 Try.zb71 (.cons (.c _) (.cons (.c _) .nil)) rfl) rfl <| .p (opBuildArr Try.ar71 Try.zb71 (.cons (.c _) (.cons (.c _) .nil)) rfl) rfl <| .p (opBuildArr Try.ar71 Try.zb71 (.cons (.c _) (.cons (.c _) .nil)) rfl) rfl <| .p (opBuildArr Try.ar71 Try.zb71 (.cons (.c _) (.cons (.c _) .nil)) rfl) rfl <| .p (opBuildArr Try.ar71 Try.zb71 (.cons (.c _) (.cons (.c _) .nil)) rfl) rfl <| .p (opBuildArr (cs := foreignT.flatMap encPairI) Try.ar72 Try.zb72 (.cons (.t rfl) (.cons (.t rfl) (.cons (.t rfl) (.cons (.t rfl) (.cons (.t rfl) (.cons (.t rfl) (.cons (.t rfl) (.cons (.t rfl) (.cons (.t rfl) (.cons (.t rfl) (.cons (.t rfl) (.cons (.t rfl) (.cons (.t rfl) (.cons (.t rfl) (.cons (.t rfl) .nil))))))))))))))) rfl) rfl <| .s (opStoreOA (i := 0) Try.cz72 rfl (.t rfl) (.t rfl) rfl rfl rfl) <| .nil ?_)
  refine EndT.thenN ?_
  refine CodeT.ret (Post.retR1 rfl () trivial (fun _ _ _ _ => trivial) (.ra (i := 0) Try.ag72 Try.cz72 rfl rfl rfl rfl) ?_)
  exact VLe.refl _

theorem numeric_spec {code : Int} : FnP Try.prog 8 [intV .i64 code] (tupV [intV .i64 ((numO code).getD (0, 0, 0)).1, intV .i64 ((numO code).getD (0, 0, 0)).2.1, intV .i64 ((numO code).getD (0, 0, 0)).2.2, propV (numO code).isSome]) := by
  refine FnE.intro 37 Try.func8 rfl rfl rfl fun w0 S0 M => ?_
  refine CodeT.seq ?_
  refine CodeT.region (.p (opAssign (.c _)) rfl <| .p (opAssign (.c _)) rfl <| .p (opAssign (.c _)) rfl <| .p (opAssign .cf) rfl <| .nil ?_)
  refine EndT.thenN ?_
  refine CodeT.seq ?_
  refine CodeT.seq ?_
  refine CodeT.region (.p (opCall (spans_spec) Try.cb21 .nil) rfl <| .p (opMove (.c _)) rfl <| .nil ?_)
  refine EndT.thenN ?_
  refine CodeT.block ?_
  refine CodeT.loopO (σ := Nat) (fun _ => []) (fun k => [(9, intV .i64 (k : Int))]) (fun k => k ≤ spansT.length ∧ NotB (fun s => inSpan code s = true) spansT k) (fun k => spansT.length - k) 0 ⟨by omega, NotB.zero _ _⟩ rfl ?_ ?_
  · exact (.get rfl (VLe.refl _) (.refl _ _))
  · rintro k ⟨hk, hn⟩
    refine CodeT.seq ?_
    refine CodeT.region (.p (opLss (.t rfl) (.c _)) rfl <| .nil ?_)
    refine EndT.thenN ?_
    refine CodeT.seq ?_
    refine CodeT.cond (.t rfl) (fun c0 => ?_) (fun c0 => ?_)
    ·
      have hltk : k < spansT.length := by have : spansT.length = 8 := rfl; omega
      obtain ⟨x, hxk⟩ := getElem?_lt (xs := spansT) (k := k) hltk
      have hb := spans_bd x (List.mem_of_getElem? hxk)
      refine CodeT.skip (EndT.thenN ?_)
      refine CodeT.seq ?_
      refine CodeT.block ?_
      refine CodeT.seq ?_
      refine CodeT.region (.p (opIndexA spansT Try.underlying50 Try.cz49 rfl Try.ag49 (.t rfl) rfl rfl (.t rfl) rfl (by assumption)) rfl <| .n (opAlloc Try.zb49) rfl <| fun b7 _ => .s (opStoreOA (i := 0) Try.cz49 rfl (.t rfl) (.t rfl) rfl rfl rfl) <| .nil ?_)
      refine EndT.thenN ?_
      refine CodeT.share (t := 7) (i := 0) rfl rfl ?_
      refine CodeT.seq ?_
      refine CodeT.region (.p (opMove (.t rfl)) rfl <| .p (opField Try.fd49_0 (.t rfl)) rfl <| .p (opLoad Try.ag3 (.t rfl)) rfl <| .p (opGeq (.t rfl) (.t rfl)) rfl <| .p (opMove (.t rfl)) rfl <| .g (OpG.gT rfl rfl rfl rfl (fun hg => opMove (.t rfl))) rfl rfl <| .g (OpG.gT rfl rfl rfl rfl (fun hg => opField Try.fd49_0 (.t rfl))) rfl rfl <| .g (OpG.gT rfl rfl rfl rfl (fun hg => opLoad Try.ag3 (.when (.t rfl) hg))) rfl rfl <| .g (OpG.gT rfl rfl rfl rfl (fun hg => opField Try.fd49_1 (.t rfl))) rfl rfl <| .g (OpG.gT rfl rfl rfl rfl (fun hg => opLoad Try.ag3 (.when (.t rfl) hg))) rfl rfl <| .g (OpG.gT rfl rfl rfl rfl (fun hg => opAddF (.when (.t rfl) hg) (.when (.t rfl) hg) (fits_i64 (by omega) (by omega)))) rfl rfl <| .g (OpG.gT rfl rfl rfl rfl (fun hg => opLss (.when (.t rfl) hg) (.when (.t rfl) hg))) rfl rfl <| .p (opAnd (.t rfl) (.t rfl)) rfl <| .nil ?_)
      refine EndT.thenN ?_
      refine CodeT.cond (.t rfl) (fun c1 => ?_) (fun c1 => ?_)
      ·
        have hno := numO_at hxk (by simpa [inSpan] using c1) hn
        refine CodeT.seq ?_
        refine CodeT.draw 13 2 Try.mixed (by kernel_rfl) (.p (opField Try.fd49_2 (.t rfl)) <| .p (opLoad Try.ag3 (.t rfl)) <| .p (opField Try.fd49_4 (.t rfl)) <| .p (opLoad Try.ag3 (.t rfl)) <| .p (opMove (.t rfl)) <| .p (opAddF (.t rfl) (.t rfl) (fits_i64 (by omega) (by omega))) <| .p (opField Try.fd49_0 (.t rfl)) <| .p (opLoad Try.ag3 (.t rfl)) <| .p (opSubF (.t rfl) (.t rfl) (fits_i64 (by omega) (by omega))) <| .p (opField Try.fd49_3 (.t rfl)) <| .p (opLoad Try.ag3 (.t rfl)) <| .p (opAssign (.t rfl)) <| .p (opAssign (.t rfl)) <| .nil) (.p (opAssign (.t rfl)) rfl <| .p (opAssign .ct) rfl <| .nil ?_)
        refine EndT.thenN ?_
        refine CodeT.ret (EndT.blkR (EndT.thenR (EndT.thenR (EndT.blkR (EndT.thenR (Post.retR rfl rfl () trivial (fun _ _ _ _ => trivial) rfl (.cons (.rt rfl) ?_ (.cons (.rt rfl) ?_ (.cons (.rt rfl) ?_ (.cons (.rt rfl) ?_ .nil))))))))))
        · exact VLe.int (by rw [hno]; rfl)
        · exact VLe.int (by rw [hno]; rfl)
        · exact VLe.int (by rw [hno]; rfl)
        · exact VLe.prop (by rw [hno]; simp)
      ·
        refine CodeT.skip (EndT.blkN (EndT.thenN ?_))
        refine CodeT.region (.p (opAddF (.t rfl) (.c _) (fits_i64 (by omega) (by omega))) rfl <| .p (opMove (.t rfl)) rfl <| .nil ?_)
        refine EndT.round (k + 1) ⟨by omega, hn.succ hxk (by simpa [inSpan] using c1)⟩ (by omega) rfl ?_
        exact (.get rfl (VLe.int (by omega)) (.keep 20 rfl rfl))
    ·
      have hek : k = spansT.length := by have : spansT.length = 8 := rfl; omega
      subst hek
      refine CodeT.exit (EndT.thenX (EndT.thenX (EndT.blkX (EndT.thenN ?_))))
      refine CodeT.seq ?_
      refine CodeT.region (.p (opAssign (.c _)) rfl <| .p (opAssign (.c _)) rfl <| .p (opAssign (.c _)) rfl <| .p (opAssign .cf) rfl <| .nil ?_)
      refine EndT.thenN ?_
      refine CodeT.ret (Post.retR rfl rfl () trivial (fun _ _ _ _ => trivial) rfl (.cons (.rt rfl) ?_ (.cons (.rt rfl) ?_ (.cons (.rt rfl) ?_ (.cons (.rt rfl) ?_ .nil)))))
      · exact VLe.int (by rw [numO_none hn]; rfl)
      · exact VLe.int (by rw [numO_none hn]; rfl)
      · exact VLe.int (by rw [numO_none hn]; rfl)
      · exact VLe.prop (by rw [numO_none hn]; simp)

set_option maxHeartbeats 1000000 in
theorem numbered_spec {code : Int} : FnP Try.prog 26 [intV .i64 code] (tupV [aggV (encRow ((numberedO code).getD zeroR)), propV (numberedO code).isSome]) := by
  refine FnE.intro 69 Try.func26 rfl rfl rfl fun w0 S0 M => ?_
  refine CodeT.seq ?_
  refine CodeT.region (.n (opAlloc Try.zb53) rfl <| fun b2 _ => .p (opAssign .cf) rfl <| .nil ?_)
  refine EndT.thenN ?_
  refine CodeT.seq ?_
  refine CodeT.region (.p (opMove (.t rfl)) rfl <| .p (opCall (numeric_spec) Try.cb8 (.cons (.t rfl) .nil)) rfl <| .p (opMove (.t rfl)) rfl <| .p (opExtract (.t rfl) rfl) rfl <| .p (opExtract (.t rfl) rfl) rfl <| .p (opExtract (.t rfl) rfl) rfl <| .p (opExtract (.t rfl) rfl) rfl <| .p (opAssign (.t rfl)) rfl <| .p (opAssign (.t rfl)) rfl <| .p (opAssign (.t rfl)) rfl <| .p (opAssign (.t rfl)) rfl <| .nil ?_)
  refine EndT.thenN ?_
  refine CodeT.seq ?_
  refine CodeT.seq ?_
  refine CodeT.region (.p (opMove (.t rfl)) rfl <| .p (opNot (.t rfl)) rfl <| .nil ?_)
  refine EndT.thenN ?_
  refine CodeT.cond (.t rfl) (fun c0 => ?_) (fun c0 => ?_)
  ·
    have hno : numO code = none := by simpa using c0
    have hnm := numbered_none hno
    refine CodeT.seq ?_
    refine CodeT.region (.p (opBuild Try.pl53 Try.zb53 .nil rfl) rfl <| .s (opStoreOA (i := 0) Try.cz53 rfl (.t rfl) (.t rfl) rfl rfl rfl) <| .p (opAssign .cf) rfl <| .nil ?_)
    refine EndT.thenN ?_
    refine CodeT.ret (EndT.thenR (Post.retR rfl rfl () trivial (fun _ _ _ _ => trivial) rfl (.cons (.ra (i := 0) Try.ag53 Try.cz53 rfl rfl rfl rfl) ?_ (.cons (.rt rfl) ?_ .nil))))
    · simp only [hnm, Option.getD_none]; exact VLe.agg (.cons (VLe.refl _) (.cons strV_nil (.cons (VLe.refl _) (.cons strV_nil (.cons strV_nil .nil)))))
    · exact VLe.prop (by rw [hnm]; simp)
  ·
    obtain ⟨⟨g, n, b⟩, hno⟩ := Option.isSome_iff_exists.1 (Classical.not_not.1 c0)
    obtain ⟨hn0, hng, hnb⟩ := numO_bounds hno
    have hnm := numbered_some hno
    simp only [hno, Option.getD_some]
    have hk4 := kind_len b
    have hlb := getD_len binT_len n.toNat
    have hlt := getD_len testT_len n.toNat
    have hlu := getD_len unT_len n.toNat
    refine CodeT.skip (EndT.thenN ?_)
    refine CodeT.seq ?_
    refine CodeT.region (.p (opAssign (.s [105, 51, 50, 46] rfl rfl)) rfl <| .p (opAssign (.s [105] rfl rfl)) rfl <| .nil ?_)
    refine EndT.thenN ?_
    refine CodeT.seq ?_
    refine CodeT.seq ?_
    refine CodeT.region (.p (opMove (.t rfl)) rfl <| .p (opEql (.t rfl) (.c _)) rfl <| .nil ?_)
    refine EndT.thenN ?_
    refine CodeT.cond (.t rfl) (fun c1 => ?_) (fun c1 => ?_)
    ·
      refine CodeT.region (.p (opAssign (.s [105, 54, 52, 46] rfl rfl)) rfl <| .p (opAssign (.s [108] rfl rfl)) rfl <| .nil ?_)
      refine EndT.thenN ?_
      refine CodeT.seq ?_
      refine CodeT.block ?_
      refine CodeT.seq ?_
      refine CodeT.region (.p (opMove (.t rfl)) rfl <| .p (opEql (.t rfl) (.c _)) rfl <| .p (opAssign (.t rfl)) rfl <| .nil ?_)
      refine EndT.thenN ?_
      refine CodeT.cond (.t rfl) (fun c2 => ?_) (fun c2 => ?_)
      ·
        refine CodeT.seq ?_
        refine CodeT.region (.p (opMove (.t rfl)) rfl <| .p (opMove (.t rfl)) rfl <| .p (opCall (binaries_spec) Try.cb38 .nil) rfl <| .p (opMove (.t rfl)) rfl <| .p (opIndexA1 Try.underlying75 Try.cz9 Try.ag9 (.t rfl) rfl (.t rfl) (by omega : _ = ((n.toNat : Nat) : Int)) (strs_at (by have : binT.length = 15 := rfl; omega))) rfl <| .p (opCat (.t rfl) (.t rfl) (by simp only [List.length_cons, List.length_nil]; omega)) rfl <| .p (opMove (.t rfl)) rfl <| .p (opMove (.t rfl)) rfl <| .p (opCat (.t rfl) (.t rfl) (by simp only [List.length_cons, List.length_nil]; omega)) rfl <| .p (opMove (.t rfl)) rfl <| .p (opBuild Try.pl53 Try.zb53 (.cons (.t rfl) (.cons (.t rfl) (.cons (.c _) (.cons (.t rfl) (.cons (.t rfl) .nil))))) rfl) rfl <| .s (opStoreOA (i := 0) Try.cz53 rfl (.t rfl) (.t rfl) rfl rfl rfl) <| .p (opAssign .ct) rfl <| .nil ?_)
        refine EndT.thenN ?_
        refine CodeT.ret (EndT.blkR (EndT.thenR (Post.retR rfl rfl () trivial (fun _ _ _ _ => trivial) rfl (.cons (.ra (i := 0) Try.ag53 Try.cz53 rfl rfl rfl rfl) ?_ (.cons (.rt rfl) ?_ .nil)))))
        · simp only [hnm, Option.getD_some]; exact VLe.of_eq (by simp [numRow, encRow, kindS, oneS, *]; try rfl)
        · exact VLe.prop (by rw [hnm]; simp)
      ·
        refine CodeT.seq ?_
        refine CodeT.region (.p (opMove (.t rfl)) rfl <| .p (opEql (.t rfl) (.c _)) rfl <| .p (opAssign (.t rfl)) rfl <| .nil ?_)
        refine EndT.thenN ?_
        refine CodeT.cond (.t rfl) (fun c3 => ?_) (fun c3 => ?_)
        ·
          refine CodeT.seq ?_
          refine CodeT.region (.p (opMove (.t rfl)) rfl <| .p (opMove (.t rfl)) rfl <| .p (opCall (tests_spec) Try.cb39 .nil) rfl <| .p (opMove (.t rfl)) rfl <| .p (opIndexA1 Try.underlying77 Try.cz9 Try.ag9 (.t rfl) rfl (.t rfl) (by omega : _ = ((n.toNat : Nat) : Int)) (strs_at (by have : testT.length = 10 := rfl; omega))) rfl <| .p (opCat (.t rfl) (.t rfl) (by simp only [List.length_cons, List.length_nil]; omega)) rfl <| .p (opMove (.t rfl)) rfl <| .p (opMove (.t rfl)) rfl <| .p (opCat (.t rfl) (.t rfl) (by simp only [List.length_cons, List.length_nil]; omega)) rfl <| .p (opBuild Try.pl53 Try.zb53 (.cons (.t rfl) (.cons (.t rfl) (.cons (.c _) (.cons (.t rfl) (.cons (.s [105] rfl rfl) .nil))))) rfl) rfl <| .s (opStoreOA (i := 0) Try.cz53 rfl (.t rfl) (.t rfl) rfl rfl rfl) <| .p (opAssign .ct) rfl <| .nil ?_)
          refine EndT.thenN ?_
          refine CodeT.ret (EndT.blkR (EndT.thenR (Post.retR rfl rfl () trivial (fun _ _ _ _ => trivial) rfl (.cons (.ra (i := 0) Try.ag53 Try.cz53 rfl rfl rfl rfl) ?_ (.cons (.rt rfl) ?_ .nil)))))
          · simp only [hnm, Option.getD_some]; exact VLe.of_eq (by simp [numRow, encRow, kindS, oneS, *]; try rfl)
          · exact VLe.prop (by rw [hnm]; simp)
        ·
          refine CodeT.seq ?_
          refine CodeT.region (.p (opMove (.t rfl)) rfl <| .p (opEql (.t rfl) (.c _)) rfl <| .p (opAssign (.t rfl)) rfl <| .nil ?_)
          refine EndT.thenN ?_
          refine CodeT.cond (.t rfl) (fun c4 => ?_) (fun c4 => ?_)
          ·
            refine CodeT.seq ?_
            refine CodeT.region (.p (opMove (.t rfl)) rfl <| .p (opMove (.t rfl)) rfl <| .p (opCall (unaries_spec) Try.cb40 .nil) rfl <| .p (opMove (.t rfl)) rfl <| .p (opIndexA1 Try.underlying79 Try.cz9 Try.ag9 (.t rfl) rfl (.t rfl) (by omega : _ = ((n.toNat : Nat) : Int)) (strs_at (by have : unT.length = 4 := rfl; omega))) rfl <| .p (opCat (.t rfl) (.t rfl) (by simp only [List.length_cons, List.length_nil]; omega)) rfl <| .p (opMove (.t rfl)) rfl <| .p (opBuild Try.pl53 Try.zb53 (.cons (.t rfl) (.cons (.t rfl) (.cons (.c _) (.cons (.t rfl) (.cons (.s [105] rfl rfl) .nil))))) rfl) rfl <| .s (opStoreOA (i := 0) Try.cz53 rfl (.t rfl) (.t rfl) rfl rfl rfl) <| .p (opAssign .ct) rfl <| .nil ?_)
            refine EndT.thenN ?_
            refine CodeT.ret (EndT.blkR (EndT.thenR (Post.retR rfl rfl () trivial (fun _ _ _ _ => trivial) rfl (.cons (.ra (i := 0) Try.ag53 Try.cz53 rfl rfl rfl rfl) ?_ (.cons (.rt rfl) ?_ .nil)))))
            · simp only [hnm, Option.getD_some]; exact VLe.of_eq (by simp [numRow, encRow, kindS, oneS, *]; try rfl)
            · exact VLe.prop (by rw [hnm]; simp)
          ·
            refine CodeT.skip (EndT.blkN (EndT.thenN ?_))
            refine CodeT.seq ?_
            refine CodeT.region (.p (opMove (.t rfl)) rfl <| .p (opMove (.t rfl)) rfl <| .p (opCall (unaries_spec) Try.cb40 .nil) rfl <| .p (opMove (.t rfl)) rfl <| .p (opIndexA1 Try.underlying79 Try.cz9 Try.ag9 (.t rfl) rfl (.t rfl) (by omega : _ = ((n.toNat : Nat) : Int)) (strs_at (by have : unT.length = 4 := rfl; omega))) rfl <| .p (opCat (.t rfl) (.t rfl) (by simp only [List.length_cons, List.length_nil]; omega)) rfl <| .p (opMove (.t rfl)) rfl <| .p (opMove (.t rfl)) rfl <| .p (opBuild Try.pl53 Try.zb53 (.cons (.t rfl) (.cons (.t rfl) (.cons (.c _) (.cons (.t rfl) (.cons (.t rfl) .nil))))) rfl) rfl <| .s (opStoreOA (i := 0) Try.cz53 rfl (.t rfl) (.t rfl) rfl rfl rfl) <| .p (opAssign .ct) rfl <| .nil ?_)
            refine EndT.thenN ?_
            refine CodeT.ret (Post.retR rfl rfl () trivial (fun _ _ _ _ => trivial) rfl (.cons (.ra (i := 0) Try.ag53 Try.cz53 rfl rfl rfl rfl) ?_ (.cons (.rt rfl) ?_ .nil)))
            · simp only [hnm, Option.getD_some]; exact VLe.of_eq (by simp [numRow, encRow, kindS, oneS, *]; try rfl)
            · exact VLe.prop (by rw [hnm]; simp)
    ·
      refine CodeT.skip (EndT.thenN ?_)
      refine CodeT.seq ?_
      refine CodeT.block ?_
      refine CodeT.seq ?_
      refine CodeT.region (.p (opMove (.t rfl)) rfl <| .p (opEql (.t rfl) (.c _)) rfl <| .p (opAssign (.t rfl)) rfl <| .nil ?_)
      refine EndT.thenN ?_
      refine CodeT.cond (.t rfl) (fun c5 => ?_) (fun c5 => ?_)
      ·
        refine CodeT.seq ?_
        refine CodeT.region (.p (opMove (.t rfl)) rfl <| .p (opMove (.t rfl)) rfl <| .p (opCall (binaries_spec) Try.cb38 .nil) rfl <| .p (opMove (.t rfl)) rfl <| .p (opIndexA1 Try.underlying75 Try.cz9 Try.ag9 (.t rfl) rfl (.t rfl) (by omega : _ = ((n.toNat : Nat) : Int)) (strs_at (by have : binT.length = 15 := rfl; omega))) rfl <| .p (opCat (.t rfl) (.t rfl) (by simp only [List.length_cons, List.length_nil]; omega)) rfl <| .p (opMove (.t rfl)) rfl <| .p (opMove (.t rfl)) rfl <| .p (opCat (.t rfl) (.t rfl) (by simp only [List.length_cons, List.length_nil]; omega)) rfl <| .p (opMove (.t rfl)) rfl <| .p (opBuild Try.pl53 Try.zb53 (.cons (.t rfl) (.cons (.t rfl) (.cons (.c _) (.cons (.t rfl) (.cons (.t rfl) .nil))))) rfl) rfl <| .s (opStoreOA (i := 0) Try.cz53 rfl (.t rfl) (.t rfl) rfl rfl rfl) <| .p (opAssign .ct) rfl <| .nil ?_)
        refine EndT.thenN ?_
        refine CodeT.ret (EndT.blkR (EndT.thenR (Post.retR rfl rfl () trivial (fun _ _ _ _ => trivial) rfl (.cons (.ra (i := 0) Try.ag53 Try.cz53 rfl rfl rfl rfl) ?_ (.cons (.rt rfl) ?_ .nil)))))
        · simp only [hnm, Option.getD_some]; exact VLe.of_eq (by simp [numRow, encRow, kindS, oneS, *]; try rfl)
        · exact VLe.prop (by rw [hnm]; simp)
      ·
        refine CodeT.seq ?_
        refine CodeT.region (.p (opMove (.t rfl)) rfl <| .p (opEql (.t rfl) (.c _)) rfl <| .p (opAssign (.t rfl)) rfl <| .nil ?_)
        refine EndT.thenN ?_
        refine CodeT.cond (.t rfl) (fun c6 => ?_) (fun c6 => ?_)
        ·
          refine CodeT.seq ?_
          refine CodeT.region (.p (opMove (.t rfl)) rfl <| .p (opMove (.t rfl)) rfl <| .p (opCall (tests_spec) Try.cb39 .nil) rfl <| .p (opMove (.t rfl)) rfl <| .p (opIndexA1 Try.underlying77 Try.cz9 Try.ag9 (.t rfl) rfl (.t rfl) (by omega : _ = ((n.toNat : Nat) : Int)) (strs_at (by have : testT.length = 10 := rfl; omega))) rfl <| .p (opCat (.t rfl) (.t rfl) (by simp only [List.length_cons, List.length_nil]; omega)) rfl <| .p (opMove (.t rfl)) rfl <| .p (opMove (.t rfl)) rfl <| .p (opCat (.t rfl) (.t rfl) (by simp only [List.length_cons, List.length_nil]; omega)) rfl <| .p (opBuild Try.pl53 Try.zb53 (.cons (.t rfl) (.cons (.t rfl) (.cons (.c _) (.cons (.t rfl) (.cons (.s [105] rfl rfl) .nil))))) rfl) rfl <| .s (opStoreOA (i := 0) Try.cz53 rfl (.t rfl) (.t rfl) rfl rfl rfl) <| .p (opAssign .ct) rfl <| .nil ?_)
          refine EndT.thenN ?_
          refine CodeT.ret (EndT.blkR (EndT.thenR (Post.retR rfl rfl () trivial (fun _ _ _ _ => trivial) rfl (.cons (.ra (i := 0) Try.ag53 Try.cz53 rfl rfl rfl rfl) ?_ (.cons (.rt rfl) ?_ .nil)))))
          · simp only [hnm, Option.getD_some]; exact VLe.of_eq (by simp [numRow, encRow, kindS, oneS, *]; try rfl)
          · exact VLe.prop (by rw [hnm]; simp)
        ·
          refine CodeT.seq ?_
          refine CodeT.region (.p (opMove (.t rfl)) rfl <| .p (opEql (.t rfl) (.c _)) rfl <| .p (opAssign (.t rfl)) rfl <| .nil ?_)
          refine EndT.thenN ?_
          refine CodeT.cond (.t rfl) (fun c7 => ?_) (fun c7 => ?_)
          ·
            refine CodeT.seq ?_
            refine CodeT.region (.p (opMove (.t rfl)) rfl <| .p (opMove (.t rfl)) rfl <| .p (opCall (unaries_spec) Try.cb40 .nil) rfl <| .p (opMove (.t rfl)) rfl <| .p (opIndexA1 Try.underlying79 Try.cz9 Try.ag9 (.t rfl) rfl (.t rfl) (by omega : _ = ((n.toNat : Nat) : Int)) (strs_at (by have : unT.length = 4 := rfl; omega))) rfl <| .p (opCat (.t rfl) (.t rfl) (by simp only [List.length_cons, List.length_nil]; omega)) rfl <| .p (opMove (.t rfl)) rfl <| .p (opBuild Try.pl53 Try.zb53 (.cons (.t rfl) (.cons (.t rfl) (.cons (.c _) (.cons (.t rfl) (.cons (.s [105] rfl rfl) .nil))))) rfl) rfl <| .s (opStoreOA (i := 0) Try.cz53 rfl (.t rfl) (.t rfl) rfl rfl rfl) <| .p (opAssign .ct) rfl <| .nil ?_)
            refine EndT.thenN ?_
            refine CodeT.ret (EndT.blkR (EndT.thenR (Post.retR rfl rfl () trivial (fun _ _ _ _ => trivial) rfl (.cons (.ra (i := 0) Try.ag53 Try.cz53 rfl rfl rfl rfl) ?_ (.cons (.rt rfl) ?_ .nil)))))
            · simp only [hnm, Option.getD_some]; exact VLe.of_eq (by simp [numRow, encRow, kindS, oneS, *]; try rfl)
            · exact VLe.prop (by rw [hnm]; simp)
          ·
            refine CodeT.skip (EndT.blkN (EndT.thenN ?_))
            refine CodeT.seq ?_
            refine CodeT.region (.p (opMove (.t rfl)) rfl <| .p (opMove (.t rfl)) rfl <| .p (opCall (unaries_spec) Try.cb40 .nil) rfl <| .p (opMove (.t rfl)) rfl <| .p (opIndexA1 Try.underlying79 Try.cz9 Try.ag9 (.t rfl) rfl (.t rfl) (by omega : _ = ((n.toNat : Nat) : Int)) (strs_at (by have : unT.length = 4 := rfl; omega))) rfl <| .p (opCat (.t rfl) (.t rfl) (by simp only [List.length_cons, List.length_nil]; omega)) rfl <| .p (opMove (.t rfl)) rfl <| .p (opMove (.t rfl)) rfl <| .p (opBuild Try.pl53 Try.zb53 (.cons (.t rfl) (.cons (.t rfl) (.cons (.c _) (.cons (.t rfl) (.cons (.t rfl) .nil))))) rfl) rfl <| .s (opStoreOA (i := 0) Try.cz53 rfl (.t rfl) (.t rfl) rfl rfl rfl) <| .p (opAssign .ct) rfl <| .nil ?_)
            refine EndT.thenN ?_
            refine CodeT.ret (Post.retR rfl rfl () trivial (fun _ _ _ _ => trivial) rfl (.cons (.ra (i := 0) Try.ag53 Try.cz53 rfl rfl rfl rfl) ?_ (.cons (.rt rfl) ?_ .nil)))
            · simp only [hnm, Option.getD_some]; exact VLe.of_eq (by simp [numRow, encRow, kindS, oneS, *]; try rfl)
            · exact VLe.prop (by rw [hnm]; simp)

theorem at_spec {code : Int} : FnP Try.prog 22 [intV .i64 code] (tupV [aggV (encRow ((rowO code).getD zeroR)), propV (rowO code).isSome]) := by
  refine FnE.intro 32 Try.func22 rfl rfl rfl fun w0 S0 M => ?_
  refine CodeT.seq ?_
  refine CodeT.region (.n (opAlloc Try.zb53) rfl <| fun b2 _ => .p (opAssign .cf) rfl <| .nil ?_)
  refine EndT.thenN ?_
  refine CodeT.seq ?_
  refine CodeT.seq ?_
  refine CodeT.region (.p (opCall (rows_spec) Try.cb24 .nil) rfl <| .p (opMove (.c _)) rfl <| .nil ?_)
  refine EndT.thenN ?_
  refine CodeT.block ?_
  refine CodeT.loopO (σ := Nat) (fun _ => _) (fun k => [(9, intV .i64 (k : Int))]) (fun k => k ≤ rowsT.length ∧ NotB (fun r : RowD => r.code = code) rowsT k) (fun k => rowsT.length - k) 0 ⟨by omega, NotB.zero _ _⟩ rfl ?_ ?_
  · exact (.get rfl (VLe.refl _) (.refl _ _))
  · rintro k ⟨hk, hn⟩
    refine CodeT.seq ?_
    refine CodeT.region (.p (opLss (.t rfl) (.c _)) rfl <| .nil ?_)
    refine EndT.thenN ?_
    refine CodeT.seq ?_
    refine CodeT.cond (.t rfl) (fun c0 => ?_) (fun c0 => ?_)
    ·
      have hltk : k < rowsT.length := by have : rowsT.length = 47 := rfl; omega
      obtain ⟨x, hxk⟩ := getElem?_lt (xs := rowsT) (k := k) hltk
      refine CodeT.skip (EndT.thenN ?_)
      refine CodeT.seq ?_
      refine CodeT.block ?_
      refine CodeT.seq ?_
      refine CodeT.region (.p (opIndexA rowsT Try.underlying57 Try.cz53 rfl Try.ag53 (.t rfl) rfl rfl (.t rfl) rfl (by assumption)) rfl <| .n (opAlloc Try.zb53) rfl <| fun b5 _ => .s (opStoreOA (i := 0) Try.cz53 rfl (.t rfl) (.t rfl) rfl rfl rfl) <| .nil ?_)
      refine EndT.thenN ?_
      refine CodeT.share (t := 5) (i := 0) rfl rfl ?_
      refine CodeT.seq ?_
      refine CodeT.region (.p (opField Try.fd53_0 (.t rfl)) rfl <| .p (opLoad Try.ag3 (.t rfl)) rfl <| .p (opMove (.t rfl)) rfl <| .p (opEql (.t rfl) (.t rfl)) rfl <| .nil ?_)
      refine EndT.thenN ?_
      refine CodeT.cond (.t rfl) (fun c1 => ?_) (fun c1 => ?_)
      ·
        have hro := rowO_1 hxk c1 hn
        refine CodeT.seq ?_
        refine CodeT.region (.p (opLoadA Try.ag53 Try.cz53 rfl (.t rfl) rfl) rfl <| .s (opStoreOA (i := 0) Try.cz53 rfl (.t rfl) (.t rfl) rfl rfl rfl) <| .p (opAssign .ct) rfl <| .nil ?_)
        refine EndT.thenN ?_
        refine CodeT.ret (EndT.blkR (EndT.thenR (EndT.thenR (EndT.blkR (EndT.thenR (Post.retR rfl rfl () trivial (fun _ _ _ _ => trivial) rfl (.cons (.ra (i := 0) Try.ag53 Try.cz53 rfl rfl rfl rfl) ?_ (.cons (.rt rfl) ?_ .nil))))))))
        · rw [hro]; exact VLe.refl _
        · exact VLe.prop (by rw [hro]; simp)
      ·
        refine CodeT.skip (EndT.blkN (EndT.thenN ?_))
        refine CodeT.region (.p (opAddF (.t rfl) (.c _) (fits_i64 (by omega) (by omega))) rfl <| .p (opMove (.t rfl)) rfl <| .nil ?_)
        refine EndT.round (k + 1) ⟨by omega, hn.succ hxk c1⟩ (by omega) rfl ?_
        exact (.get rfl (VLe.int (by omega)) (.keep 11 rfl rfl))
    ·
      have hek : k = rowsT.length := by have : rowsT.length = 47 := rfl; omega
      subst hek
      refine CodeT.exit (EndT.thenX (EndT.thenX (EndT.blkX (EndT.thenN ?_))))
      refine CodeT.seq ?_
      refine CodeT.seq ?_
      refine CodeT.region (.p (opCall (late_spec) Try.cb25 .nil) rfl <| .p (opMove (.c _)) rfl <| .nil ?_)
      refine EndT.thenN ?_
      refine CodeT.block ?_
      refine CodeT.loopO (σ := Nat) (fun _ => _) (fun j => [(19, intV .i64 (j : Int))]) (fun j => j ≤ lateT.length ∧ NotB (fun r : RowD => r.code = code) lateT j) (fun j => lateT.length - j) 0 ⟨by omega, NotB.zero _ _⟩ rfl ?_ ?_
      · exact (.get rfl (VLe.refl _) (.refl _ _))
      · rintro j ⟨hj, hm⟩
        refine CodeT.seq ?_
        refine CodeT.region (.p (opLss (.t rfl) (.c _)) rfl <| .nil ?_)
        refine EndT.thenN ?_
        refine CodeT.seq ?_
        refine CodeT.cond (.t rfl) (fun c2 => ?_) (fun c2 => ?_)
        ·
          have hltj : j < lateT.length := by have : lateT.length = 6 := rfl; omega
          obtain ⟨y, hxj⟩ := getElem?_lt (xs := lateT) (k := j) hltj
          refine CodeT.skip (EndT.thenN ?_)
          refine CodeT.seq ?_
          refine CodeT.block ?_
          refine CodeT.seq ?_
          refine CodeT.region (.p (opIndexA lateT Try.underlying59 Try.cz53 rfl Try.ag53 (.t rfl) rfl rfl (.t rfl) rfl (by assumption)) rfl <| .n (opAlloc Try.zb53) rfl <| fun b7 _ => .s (opStoreOA (i := 0) Try.cz53 rfl (.t rfl) (.t rfl) rfl rfl rfl) <| .nil ?_)
          refine EndT.thenN ?_
          refine CodeT.share (t := 7) (i := 0) rfl rfl ?_
          refine CodeT.seq ?_
          refine CodeT.region (.p (opField Try.fd53_0 (.t rfl)) rfl <| .p (opLoad Try.ag3 (.t rfl)) rfl <| .p (opMove (.t rfl)) rfl <| .p (opEql (.t rfl) (.t rfl)) rfl <| .nil ?_)
          refine EndT.thenN ?_
          refine CodeT.cond (.t rfl) (fun c3 => ?_) (fun c3 => ?_)
          ·
            have hro := rowO_2 hn hxj c3 hm
            refine CodeT.seq ?_
            refine CodeT.region (.p (opLoadA Try.ag53 Try.cz53 rfl (.t rfl) rfl) rfl <| .s (opStoreOA (i := 0) Try.cz53 rfl (.t rfl) (.t rfl) rfl rfl rfl) <| .p (opAssign .ct) rfl <| .nil ?_)
            refine EndT.thenN ?_
            refine CodeT.ret (EndT.blkR (EndT.thenR (EndT.thenR (EndT.blkR (EndT.thenR (Post.retR rfl rfl () trivial (fun _ _ _ _ => trivial) rfl (.cons (.ra (i := 0) Try.ag53 Try.cz53 rfl rfl rfl rfl) ?_ (.cons (.rt rfl) ?_ .nil))))))))
            · rw [hro]; exact VLe.refl _
            · exact VLe.prop (by rw [hro]; simp)
          ·
            refine CodeT.skip (EndT.blkN (EndT.thenN ?_))
            refine CodeT.region (.p (opAddF (.t rfl) (.c _) (fits_i64 (by omega) (by omega))) rfl <| .p (opMove (.t rfl)) rfl <| .nil ?_)
            refine EndT.round (j + 1) ⟨by omega, hm.succ hxj c3⟩ (by omega) rfl ?_
            exact (.get rfl (VLe.int (by omega)) (.keep 11 rfl rfl))
        ·
          have hej : j = lateT.length := by have : lateT.length = 6 := rfl; omega
          subst hej
          refine CodeT.exit (EndT.thenX (EndT.thenX (EndT.blkX (EndT.thenN ?_))))
          refine CodeT.seq ?_
          refine CodeT.region (.p (opMove (.t rfl)) rfl <| .p (opCall (numbered_spec) Try.cb26 (.cons (.t rfl) .nil)) rfl <| .p (opExtract (.t rfl) rfl) rfl <| .p (opExtract (.t rfl) rfl) rfl <| .s (opStoreOA (i := 0) Try.cz53 rfl (.t rfl) (.t rfl) rfl rfl rfl) <| .p (opAssign (.t rfl)) rfl <| .nil ?_)
          refine EndT.thenN ?_
          refine CodeT.ret (Post.retR rfl rfl () trivial (fun _ _ _ _ => trivial) rfl (.cons (.ra (i := 0) Try.ag53 Try.cz53 rfl rfl rfl rfl) ?_ (.cons (.rt rfl) ?_ .nil)))
          · rw [rowO_3 hn hm]; exact VLe.refl _
          · exact VLe.prop (by rw [rowO_3 hn hm])

theorem types_spec {l : List UInt8} (hp0 : Ascii l) (hp1 : l.length ≤ 65536) : FnP Try.prog 37 [strV l] (sliceV 1 encU8 (typesF l)) := by
  refine FnE.intro 20 Try.func37 rfl rfl rfl fun w0 S0 M => ?_
  refine CodeT.seq ?_
  refine CodeT.region (.p (opAssign (.c _)) rfl <| .nil ?_)
  refine EndT.thenN ?_
  refine CodeT.seq ?_
  refine CodeT.region (.p (opAssign (.c _)) rfl <| .nil ?_)
  refine EndT.thenN ?_
  refine CodeT.seq ?_
  refine CodeT.seq ?_
  refine CodeT.region (.p (opMove (.t rfl)) rfl <| .n (opRangeS Try.underlying9 (.t rfl)) rfl <| fun b7 _ => .nil ?_)
  refine EndT.thenN ?_
  refine CodeT.block ?_
  refine CodeT.ownNil 1 encU8 ?_
  refine CodeT.loopO (σ := Nat × SB) (fun s => [sliceH s.2 1 encU8 (typesF (l.take s.1)), iterH b7 l s.1]) (fun s => [(3, exactV (sval s.2 (typesF (l.take s.1)).length))]) (fun s => s.1 ≤ l.length) (fun s => l.length - s.1) (0, none) (by simp) (by simp [typesF]) ?_ ?_
  · exact (.get rfl (VLe.of_eq (by simp [sval])) (.refl _ _))
  · rintro s hk
    have htl := typesF_len (l.take s.1)
    have htk : (l.take s.1).length ≤ l.length := by simp; omega
    refine CodeT.seq ?_
    refine CodeT.region (.n (opNextS (i := 1) hp0 (by omega) (.t rfl) rfl) rfl <| fun _ _ => .p (opNext0 (.t rfl)) rfl <| .nil ?_)
    refine EndT.thenN ?_
    refine CodeT.seq ?_
    refine CodeT.cond (.t rfl) (fun c0 => ?_) (fun c0 => ?_)
    ·
      obtain ⟨x, hx⟩ := getElem?_lt (xs := l) (k := s.1) c0
      rw [show min (s.1 + 1) l.length = s.1 + 1 by omega]
      refine CodeT.skip (EndT.thenN ?_)
      refine CodeT.block ?_
      refine CodeT.seq ?_
      refine CodeT.region (.p (opNext2 (by assumption) (.t rfl)) rfl <| .p (opAssign (.t rfl)) rfl <| .nil ?_)
      refine EndT.thenN ?_
      refine CodeT.seq ?_
      refine CodeT.region (.p (opMove (.t rfl)) rfl <| .p (opEql (.t rfl) (.c _)) rfl <| .nil ?_)
      refine EndT.thenN ?_
      refine CodeT.cond (.t rfl) (fun c1 => ?_) (fun c1 => ?_)
      ·
        refine CodeT.region (.p (opMove (.t rfl)) rfl <| .p (opBuildSlice (enc := encU8) [126] Try.underlying29 Try.cz34 rfl Try.zb34 rfl (.cons (.c _) .nil) rfl rfl rfl rfl rfl) rfl <| .n (opAppend (i := 0) Try.underlying29 Try.underlying29 Try.cz34 rfl Try.zb34 rfl Try.by34 (.t rfl) (.t rfl) rfl (by first | omega | (simp <;> omega)) (by first | omega | (simp <;> omega))) rfl <| fun g15 _ => .p (opAssign (.t rfl)) rfl <| .nil ?_)
        refine EndT.blkN (EndT.round (s.1 + 1, (by first | exact g15 | exact g18)) (by omega) (by omega) (by first | (rw [typesF_l hx c1]; rfl) | (rw [typesF_i hx c1]; rfl)) ?_)
        first | exact (.get rfl (VLe.of_eq (by rw [typesF_l hx c1])) (.keep 11 rfl rfl)) | exact (.get rfl (VLe.of_eq (by rw [typesF_i hx c1])) (.keep 11 rfl rfl))
      ·
        refine CodeT.region (.p (opMove (.t rfl)) rfl <| .p (opBuildSlice (enc := encU8) [127] Try.underlying29 Try.cz34 rfl Try.zb34 rfl (.cons (.c _) .nil) rfl rfl rfl rfl rfl) rfl <| .n (opAppend (i := 0) Try.underlying29 Try.underlying29 Try.cz34 rfl Try.zb34 rfl Try.by34 (.t rfl) (.t rfl) rfl (by first | omega | (simp <;> omega)) (by first | omega | (simp <;> omega))) rfl <| fun g18 _ => .p (opAssign (.t rfl)) rfl <| .nil ?_)
        refine EndT.blkN (EndT.round (s.1 + 1, (by first | exact g15 | exact g18)) (by omega) (by omega) (by first | (rw [typesF_l hx c1]; rfl) | (rw [typesF_i hx c1]; rfl)) ?_)
        first | exact (.get rfl (VLe.of_eq (by rw [typesF_l hx c1])) (.keep 11 rfl rfl)) | exact (.get rfl (VLe.of_eq (by rw [typesF_i hx c1])) (.keep 11 rfl rfl))
    ·
      have hall : l.take s.1 = l := List.take_of_length_le (by omega)
      rw [hall]
      refine CodeT.shareS (n := 1) (enc := encU8) (i := 0) (t := 3) rfl rfl ?_
      refine CodeT.exit (EndT.thenX (EndT.thenX (EndT.blkX (EndT.thenN ?_))))
      refine CodeT.seq ?_
      refine CodeT.region (.p (opMove (.t rfl)) rfl <| .p (opAssign (.t rfl)) rfl <| .nil ?_)
      refine EndT.thenN ?_
      refine CodeT.ret (Post.retP rfl rfl ?_)
      exact VLe.refl _

theorem info_spec {r : RowD} (hp0 : RowOk r) : FnP Try.prog 23 [aggV (encRow r)] (aggV (encInfo (infoOf r))) := by
  refine FnE.intro 16 Try.func23 rfl rfl rfl fun w0 S0 M => ?_
  refine CodeT.seq ?_
  refine CodeT.region (.p (opBoxA (.t rfl)) rfl <| .n (opAlloc Try.zb31) rfl <| fun b2 _ => .nil ?_)
  refine EndT.thenN ?_
  refine CodeT.seq ?_
  refine CodeT.draw 12 2 Try.mixed (by kernel_rfl) (.p (opField Try.fd53_0 (.t rfl)) <| .p (opLoad Try.ag3 (.t rfl)) <| .p (opField Try.fd53_1 (.t rfl)) <| .p (opLoad Try.ag9 (.t rfl)) <| .p (opField Try.fd53_2 (.t rfl)) <| .p (opLoad Try.ag3 (.t rfl)) <| .p (opField Try.fd53_3 (.t rfl)) <| .p (opLoad Try.ag9 (.t rfl)) <| .p (opCall (types_spec hp0.1 (by have := hp0.2.2.1; omega)) Try.cb37 (.cons (.t rfl) .nil)) <| .p (opField Try.fd53_4 (.t rfl)) <| .p (opLoad Try.ag9 (.t rfl)) <| .p (opCall (types_spec hp0.2.1 (by have := hp0.2.2.2; omega)) Try.cb37 (.cons (.t rfl) .nil)) <| .nil) (.p (opBuild Try.pl31 Try.zb31 (.cons (.t rfl) (.cons (.t rfl) (.cons (.t rfl) (.cons (.t rfl) (.cons (.t rfl) .nil))))) rfl) rfl <| .s (opStoreOA (i := 0) Try.cz31 rfl (.t rfl) (.t rfl) rfl rfl rfl) <| .nil ?_)
  refine EndT.thenN ?_
  refine CodeT.ret (Post.retR1 rfl () trivial (fun _ _ _ _ => trivial) (.ra (i := 0) Try.ag31 Try.cz31 rfl rfl rfl rfl) ?_)
  exact VLe.refl _

theorem find_spec {code : Int} : FnP Try.prog 11 [intV .i64 code] (tupV [aggV (encInfo ((findI code).getD zeroI)), propV (findI code).isSome]) := by
  refine FnE.intro 16 Try.func11 rfl rfl rfl fun w0 S0 M => ?_
  refine CodeT.seq ?_
  refine CodeT.region (.n (opAlloc Try.zb31) rfl <| fun b2 _ => .p (opAssign .cf) rfl <| .nil ?_)
  refine EndT.thenN ?_
  refine CodeT.seq ?_
  refine CodeT.region (.p (opMove (.t rfl)) rfl <| .p (opCall (at_spec) Try.cb22 (.cons (.t rfl) .nil)) rfl <| .p (opMove (.t rfl)) rfl <| .p (opExtract (.t rfl) rfl) rfl <| .p (opExtract (.t rfl) rfl) rfl <| .n (opAlloc Try.zb53) rfl <| fun b4 _ => .s (opStoreOA (i := 0) Try.cz53 rfl (.t rfl) (.t rfl) rfl rfl rfl) <| .p (opAssign (.t rfl)) rfl <| .nil ?_)
  refine EndT.thenN ?_
  refine CodeT.share (t := 4) (i := 0) rfl rfl ?_
  refine CodeT.seq ?_
  refine CodeT.seq ?_
  refine CodeT.region (.p (opMove (.t rfl)) rfl <| .p (opNot (.t rfl)) rfl <| .nil ?_)
  refine EndT.thenN ?_
  refine CodeT.cond (.t rfl) (fun c0 => ?_) (fun c0 => ?_)
  ·
    have hro : rowO code = none := by simpa using c0
    have hfi : findI code = none := by unfold findI; rw [hro]; rfl
    refine CodeT.seq ?_
    refine CodeT.region (.p (opBuild Try.pl31 Try.zb31 .nil rfl) rfl <| .s (opStoreOA (i := 0) Try.cz31 rfl (.t rfl) (.t rfl) rfl rfl rfl) <| .p (opAssign .cf) rfl <| .nil ?_)
    refine EndT.thenN ?_
    refine CodeT.ret (EndT.thenR (Post.retR rfl rfl () trivial (fun _ _ _ _ => trivial) rfl (.cons (.ra (i := 0) Try.ag31 Try.cz31 rfl rfl rfl rfl) ?_ (.cons (.rt rfl) ?_ .nil))))
    · rw [hfi]; exact VLe.agg (.cons (VLe.refl _) (.cons strV_nil (.cons (VLe.refl _) (.cons (sliceV_nil _ _) (.cons (sliceV_nil _ _) .nil)))))
    · exact VLe.prop (by rw [hfi]; simp)
  ·
    obtain ⟨r, hro⟩ := Option.isSome_iff_exists.1 (Classical.not_not.1 c0)
    have hfi : findI code = some (infoOf r) := by unfold findI; rw [hro]; rfl
    have hok := rowO_ok hro
    simp only [hro, Option.getD_some]
    refine CodeT.skip (EndT.thenN ?_)
    refine CodeT.seq ?_
    refine CodeT.region (.p (opLoadA Try.ag53 Try.cz53 rfl (.t rfl) rfl) rfl <| .p (opCall (info_spec hok) Try.cb23 (.cons (.t rfl) .nil)) rfl <| .s (opStoreOA (i := 0) Try.cz31 rfl (.t rfl) (.t rfl) rfl rfl rfl) <| .p (opAssign .ct) rfl <| .nil ?_)
    refine EndT.thenN ?_
    refine CodeT.ret (Post.retR rfl rfl () trivial (fun _ _ _ _ => trivial) rfl (.cons (.ra (i := 0) Try.ag31 Try.cz31 rfl rfl rfl rfl) ?_ (.cons (.rt rfl) ?_ .nil)))
    · rw [hfi]; exact VLe.refl _
    · exact VLe.prop (by rw [hfi]; simp)

theorem foreignP_spec {code : Int} : FnP Try.prog 18 [intV .i64 code] (propV (ForeignP code)) := by
  refine FnE.intro 20 Try.func18 rfl rfl rfl fun w0 S0 M => ?_
  refine CodeT.seq ?_
  refine CodeT.region (.p (opAssign .cf) rfl <| .nil ?_)
  refine EndT.thenN ?_
  refine CodeT.seq ?_
  refine CodeT.seq ?_
  refine CodeT.region (.p (opCall (foreign_spec) Try.cb36 .nil) rfl <| .p (opMove (.c _)) rfl <| .nil ?_)
  refine EndT.thenN ?_
  refine CodeT.block ?_
  refine CodeT.loopO (σ := Nat) (fun _ => []) (fun k => [(6, intV .i64 (k : Int))]) (fun k => k ≤ foreignT.length ∧ NotB (fun r : Int × Int => r.1 ≤ code ∧ code ≤ r.2) foreignT k) (fun k => foreignT.length - k) 0 ⟨by omega, NotB.zero _ _⟩ rfl ?_ ?_
  · exact (.get rfl (VLe.refl _) (.refl _ _))
  · rintro k ⟨hk, hn⟩
    refine CodeT.seq ?_
    refine CodeT.region (.p (opLss (.t rfl) (.c _)) rfl <| .nil ?_)
    refine EndT.thenN ?_
    refine CodeT.seq ?_
    refine CodeT.cond (.t rfl) (fun c0 => ?_) (fun c0 => ?_)
    ·
      have hltk : k < foreignT.length := by have : foreignT.length = 15 := rfl; omega
      obtain ⟨x, hxk⟩ := getElem?_lt (xs := foreignT) (k := k) hltk
      refine CodeT.skip (EndT.thenN ?_)
      refine CodeT.seq ?_
      refine CodeT.block ?_
      refine CodeT.seq ?_
      refine CodeT.region (.p (opIndexA foreignT Try.underlying72 Try.cz71 rfl Try.ag71 (.t rfl) rfl rfl (.t rfl) rfl (by assumption)) rfl <| .n (opAlloc Try.zb71) rfl <| fun b4 _ => .s (opStoreOA (i := 0) Try.cz71 rfl (.t rfl) (.t rfl) rfl rfl rfl) <| .nil ?_)
      refine EndT.thenN ?_
      refine CodeT.share (t := 4) (i := 0) rfl rfl ?_
      refine CodeT.seq ?_
      refine CodeT.region (.p (opMove (.t rfl)) rfl <| .p (opIndexAddrA 0 Try.underlying71 Try.cz3 rfl (.t rfl) (.c _) rfl (by omega)) rfl <| .p (opLoad Try.ag3 (.t rfl)) rfl <| .p (opGeq (.t rfl) (.t rfl)) rfl <| .p (opMove (.t rfl)) rfl <| .g (OpG.gT rfl rfl rfl rfl (fun hg => opMove (.t rfl))) rfl rfl <| .g (OpG.gT rfl rfl rfl rfl (fun hg => opIndexAddrA 1 Try.underlying71 Try.cz3 rfl (.t rfl) (.c _) rfl (by omega))) rfl rfl <| .g (OpG.gT rfl rfl rfl rfl (fun hg => opLoad Try.ag3 (.when (.t rfl) hg))) rfl rfl <| .g (OpG.gT rfl rfl rfl rfl (fun hg => opLeq (.when (.t rfl) hg) (.when (.t rfl) hg))) rfl rfl <| .p (opAnd (.t rfl) (.t rfl)) rfl <| .nil ?_)
      refine EndT.thenN ?_
      refine CodeT.cond (.t rfl) (fun c1 => ?_) (fun c1 => ?_)
      ·
        refine CodeT.seq ?_
        refine CodeT.region (.p (opAssign .ct) rfl <| .nil ?_)
        refine EndT.thenN ?_
        refine CodeT.ret (EndT.blkR (EndT.thenR (EndT.thenR (EndT.blkR (EndT.thenR (Post.retP rfl rfl ?_))))))
        exact VLe.prop (foreign_at hxk c1)
      ·
        refine CodeT.skip (EndT.blkN (EndT.thenN ?_))
        refine CodeT.region (.p (opAddF (.t rfl) (.c _) (fits_i64 (by omega) (by omega))) rfl <| .p (opMove (.t rfl)) rfl <| .nil ?_)
        refine EndT.round (k + 1) ⟨by omega, hn.succ hxk c1⟩ (by omega) rfl ?_
        exact (.get rfl (VLe.int (by omega)) (.keep 17 rfl rfl))
    ·
      have hek : k = foreignT.length := by have : foreignT.length = 15 := rfl; omega
      subst hek
      refine CodeT.exit (EndT.thenX (EndT.thenX (EndT.blkX (EndT.thenN ?_))))
      refine CodeT.seq ?_
      refine CodeT.region (.p (opAssign .cf) rfl <| .nil ?_)
      refine EndT.thenN ?_
      refine CodeT.ret (Post.retP rfl rfl ?_)
      exact VLe.prop (foreign_no hn)

end Go.Proofs.Ytjojlppmnebhgaa
