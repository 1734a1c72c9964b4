/-
  Walks, printed by a program (gen.py) out of what its author says of each function.
-/
import Derived.Test.YtjojlppmnebhgaaO10W
namespace Go.Proofs.Ytjojlppmnebhgaa
open Go.Hl Go.RowKit
set_option linter.unusedVariables false
set_option maxRecDepth 100000

theorem width_spec {code : Int} : FnP Try.prog 16 [intV .i64 code] (tupV [intV .i64 ((widthO code).getD 0), propV (widthO code).isSome]) := by
  refine FnE.intro 47 Try.func16 rfl rfl rfl fun w0 S0 M => ?_
  refine CodeT.seq ?_
  refine CodeT.region (.p (opAssign (.c _)) rfl <| .p (opAssign .cf) rfl <| .nil ?_)
  refine EndT.thenN ?_
  refine CodeT.seq ?_
  refine CodeT.region (.p (opMove (.t rfl)) rfl <| .p (opCall (find_spec) Try.cb11 (.cons (.t rfl) .nil)) rfl <| .p (opMove (.t rfl)) rfl <| .p (opExtract (.t rfl) rfl) rfl <| .p (opExtract (.t rfl) rfl) rfl <| .n (opAlloc Try.zb31) rfl <| fun b4 _ => .s (opStoreOA (i := 0) Try.cz31 rfl (.t rfl) (.t rfl) rfl rfl rfl) <| .p (opAssign (.t rfl)) rfl <| .nil ?_)
  refine EndT.thenN ?_
  refine CodeT.share (t := 4) (i := 0) rfl rfl ?_
  refine CodeT.seq ?_
  refine CodeT.seq ?_
  refine CodeT.region (.p (opMove (.t rfl)) rfl <| .p (opNot (.t rfl)) rfl <| .p (opMove (.t rfl)) rfl <| .g (OpG.gF rfl rfl rfl rfl (fun hg => opField Try.fd31_2 (.t rfl))) rfl rfl <| .g (OpG.gF rfl rfl rfl rfl (fun hg => opLoad Try.ag3 (.when (.t rfl) hg))) rfl rfl <| .g (OpG.gF rfl rfl rfl rfl (fun hg => opNeq (.when (.t rfl) hg) (.c _))) rfl rfl <| .p (opOr (.t rfl) (.t rfl)) rfl <| .nil ?_)
  refine EndT.thenN ?_
  refine CodeT.cond (.t rfl) (fun c0 => ?_) (fun c0 => ?_)
  ·
    have hwo : widthO code = none := by
      cases hf : findI code with
      | none => exact width_none1 hf
      | some x =>
        refine width_none2 hf (fun h8 => ?_)
        rw [hf] at c0; simp [h8] at c0
    refine CodeT.seq ?_
    refine CodeT.region (.p (opAssign (.c _)) rfl <| .p (opAssign .cf) rfl <| .nil ?_)
    refine EndT.thenN ?_
    refine CodeT.ret (EndT.thenR (Post.retR rfl rfl () trivial (fun _ _ _ _ => trivial) rfl (.cons (.rt rfl) ?_ (.cons (.rt rfl) ?_ .nil))))
    · exact VLe.int (by rw [hwo]; rfl)
    · exact VLe.prop (by rw [hwo]; simp)
  ·
    obtain ⟨x, hfi⟩ : ∃ x, findI code = some x := Option.isSome_iff_exists.1 (Classical.byContradiction fun h => c0 (.inl h))
    simp only [hfi, Option.getD_some] at c0 ⊢
    have hf8 : x.Form = 8 := by simpa using c0
    have hwo := width_some hfi hf8
    obtain ⟨hne, hnl⟩ := name_ok hfi
    refine CodeT.skip (EndT.thenN ?_)
    refine CodeT.seq ?_
    refine CodeT.seq ?_
    refine CodeT.region (.p (opBuildArr (cs := widthsT.flatMap encStrD) Try.ar66 Try.zb66 (.cons (.s [56] rfl rfl) (.cons (.s [49, 54] rfl rfl) (.cons (.s [51, 50] rfl rfl) .nil))) rfl) rfl <| .p (opMove (.c _)) rfl <| .nil ?_)
    refine EndT.thenN ?_
    refine CodeT.block ?_
    refine CodeT.loopO (σ := Nat) (fun _ => []) (fun k => [(24, intV .i64 (k : Int))]) (fun k => k ≤ widthsT.length ∧ NotB (fun s => hasSuf (restW x.Name) s) widthsT k) (fun k => widthsT.length - k) 0 ⟨by omega, NotB.zero _ _⟩ rfl ?_ ?_
    · exact (.get rfl (VLe.refl _) (.refl _ _))
    · rintro k ⟨hk, hn⟩
      refine CodeT.seq ?_
      refine CodeT.region (.p (opLss (.t rfl) (.c _)) rfl <| .nil ?_)
      refine EndT.thenN ?_
      refine CodeT.seq ?_
      refine CodeT.cond (.t rfl) (fun c1 => ?_) (fun c1 => ?_)
      ·
        have hltk : k < widthsT.length := by have : widthsT.length = 3 := rfl; omega
        obtain ⟨s, hxk⟩ := getElem?_lt (xs := widthsT) (k := k) hltk
        have hgk : widthsT.getD k [] = s := by rw [List.getD_eq_getElem?_getD, hxk]; rfl
        refine CodeT.skip (EndT.thenN ?_)
        refine CodeT.seq ?_
        refine CodeT.block ?_
        refine CodeT.seq ?_
        refine CodeT.region (.p (opMove (.t rfl)) rfl <| .p (opIndexA1 Try.underlying66 Try.cz9 Try.ag9 (.t rfl) rfl (.t rfl) rfl (strs_at hltk)) rfl <| .p (opAssign (.t rfl)) rfl <| .p (opAssign (.t rfl)) rfl <| .nil ?_)
        refine EndT.thenN ?_
        refine CodeT.seq ?_
        refine CodeT.region (.p (opField Try.fd31_1 (.t rfl)) rfl <| .p (opLoad Try.ag9 (.t rfl)) rfl <| .p (opCall (cut_spec hne) Try.cb32 (.cons (.t rfl) (.cons (.s [46] rfl rfl) .nil))) rfl <| .p (opMove (.t rfl)) rfl <| .p (opExtract (.t rfl) rfl) rfl <| .p (opExtract (.t rfl) rfl) rfl <| .p (opExtract (.t rfl) rfl) rfl <| .p (opAssign (.t rfl)) rfl <| .p (opAssign (.t rfl)) rfl <| .p (opAssign (.t rfl)) rfl <| .nil ?_)
        refine EndT.thenN ?_
        refine CodeT.seq ?_
        refine CodeT.region (.p (opMove (.t rfl)) rfl <| .p (opCall (trimSuffix_spec) Try.cb33 (.cons (.t rfl) (.cons (.s [95, 115] rfl rfl) .nil))) rfl <| .p (opCall (trimSuffix_spec) Try.cb33 (.cons (.t rfl) (.cons (.s [95, 117] rfl rfl) .nil))) rfl <| .p (opAssign (.t rfl)) rfl <| .nil ?_)
        refine EndT.thenN ?_
        refine CodeT.seq ?_
        refine CodeT.region (.p (opMove (.t rfl)) rfl <| .p (opMove (.t rfl)) rfl <| .p (opCall (hasSuffix_spec) Try.cb34 (.cons (.t rfl) (.cons (.t rfl) .nil))) rfl <| .nil ?_)
        refine EndT.thenN ?_
        refine CodeT.cond (.t rfl) (fun c2 => ?_) (fun c2 => ?_)
        ·
          rw [hgk] at c2
          refine CodeT.seq ?_
          refine CodeT.region (.p (opMove (.t rfl)) rfl <| .p (opShl (.c _) (.t rfl) (by have h3 : k < 3 := hltk; show k ≤ 64; omega)) rfl <| .p (opAssign (.t rfl)) rfl <| .p (opAssign .ct) rfl <| .nil ?_)
          refine EndT.thenN ?_
          refine CodeT.ret (EndT.blkR (EndT.thenR (EndT.thenR (EndT.blkR (EndT.thenR (Post.retR rfl rfl () trivial (fun _ _ _ _ => trivial) rfl (.cons (.rt rfl) ?_ (.cons (.rt rfl) ?_ .nil))))))))
          · exact VLe.int (by rw [hwo, widthF_at hxk c2 hn]; exact shl3 hltk)
          · exact VLe.prop (by rw [hwo]; simp)
        ·
          rw [hgk] at c2
          refine CodeT.skip (EndT.blkN (EndT.thenN ?_))
          refine CodeT.region (.p (opAddF (.t rfl) (.c _) (fits_i64 (by omega) (by omega))) rfl <| .p (opMove (.t rfl)) rfl <| .nil ?_)
          refine EndT.round (k + 1) ⟨by omega, hn.succ hxk c2⟩ (by omega) rfl ?_
          exact (.get rfl (VLe.int (by omega)) (.keep 25 rfl rfl))
      ·
        have hek : k = widthsT.length := by have : widthsT.length = 3 := rfl; omega
        subst hek
        refine CodeT.exit (EndT.thenX (EndT.thenX (EndT.blkX (EndT.thenN ?_))))
        refine CodeT.seq ?_
        refine CodeT.seq ?_
        refine CodeT.region (.p (opField Try.fd31_1 (.t rfl)) rfl <| .p (opLoad Try.ag9 (.t rfl)) rfl <| .p (opCall (hasPrefix_spec) Try.cb35 (.cons (.t rfl) (.cons (.s [105, 54, 52] rfl rfl) .nil))) rfl <| .nil ?_)
        refine EndT.thenN ?_
        refine CodeT.cond (.t rfl) (fun c3 => ?_) (fun c3 => ?_)
        ·
          refine CodeT.seq ?_
          refine CodeT.region (.p (opAssign (.c _)) rfl <| .p (opAssign .ct) rfl <| .nil ?_)
          refine EndT.thenN ?_
          refine CodeT.ret (EndT.thenR (Post.retR rfl rfl () trivial (fun _ _ _ _ => trivial) rfl (.cons (.rt rfl) ?_ (.cons (.rt rfl) ?_ .nil))))
          · exact VLe.int (by rw [hwo, widthF_no hn, if_pos (by assumption)]; rfl)
          · exact VLe.prop (by rw [hwo]; simp)
        ·
          refine CodeT.skip (EndT.thenN ?_)
          refine CodeT.seq ?_
          refine CodeT.region (.p (opAssign (.c _)) rfl <| .p (opAssign .ct) rfl <| .nil ?_)
          refine EndT.thenN ?_
          refine CodeT.ret (Post.retR rfl rfl () trivial (fun _ _ _ _ => trivial) rfl (.cons (.rt rfl) ?_ (.cons (.rt rfl) ?_ .nil)))
          · exact VLe.int (by rw [hwo, widthF_no hn, if_neg (by assumption)]; rfl)
          · exact VLe.prop (by rw [hwo]; simp)

theorem l09to_spec {l : List UInt8} (hp0 : l.length ≤ 65536) : FnP Try.prog 29 [sliceV 1 encU8 l] (sliceV 1 encU8 l) := by
  refine FnE.intro 19 Try.func29 rfl rfl rfl fun w0 S0 M => ?_
  refine CodeT.seq ?_
  refine CodeT.region (.p (opAssign (.c _)) rfl <| .nil ?_)
  refine EndT.thenN ?_
  refine CodeT.seq ?_
  refine CodeT.region (.p (opAssign (.c _)) rfl <| .nil ?_)
  refine EndT.thenN ?_
  refine CodeT.seq ?_
  refine CodeT.seq ?_
  refine CodeT.region (.p (opAssign (.c _)) rfl <| .nil ?_)
  refine EndT.thenN ?_
  refine CodeT.block ?_
  refine CodeT.ownNil 1 encU8 ?_
  refine CodeT.loopO (σ := Nat × SB) (fun s => [sliceH s.2 1 encU8 (l.take s.1)]) (fun s => [(3, exactV (sval s.2 (l.take s.1).length)), (4, intV .i64 (s.1 : Int))]) (fun s => s.1 ≤ l.length) (fun s => l.length - s.1) (0, none) (by simp) (by simp) ?_ ?_
  · exact (.get rfl (VLe.of_eq (by simp [sval])) (.get rfl (VLe.refl _) (.refl _ _)))
  · rintro s hk
    refine CodeT.seq ?_
    refine CodeT.seq ?_
    refine CodeT.region (.p (opMove (.t rfl)) rfl <| .p (opMove (.t rfl)) rfl <| .p (opLen rfl Try.underlying37 (.t rfl)) rfl <| .p (opLss (.t rfl) (.t rfl)) rfl <| .nil ?_)
    refine EndT.thenN ?_
    refine CodeT.cond (.t rfl) (fun c0 => ?_) (fun c0 => ?_)
    ·
      obtain ⟨x, hx⟩ := getElem?_lt (xs := l) (k := s.1) (by omega)
      refine CodeT.skip (EndT.thenN ?_)
      refine CodeT.seq ?_
      refine CodeT.block ?_
      refine CodeT.region (.p (opMove (.t rfl)) rfl <| .p (opMove (.t rfl)) rfl <| .p (opMove (.t rfl)) rfl <| .p (opIndexAddr Try.underlying37 Try.cz5 rfl (.t rfl) (.t rfl) rfl (by assumption)) rfl <| .p (opLoad Try.ag5 (.t rfl)) rfl <| .p (opBuildSlice (enc := encU8) [_] Try.underlying29 Try.cz34 rfl Try.zb34 rfl (.cons (.t rfl) .nil) rfl rfl rfl rfl rfl) rfl <| .n (opAppend (i := 0) Try.underlying29 Try.underlying29 Try.cz34 rfl Try.zb34 rfl Try.by34 (.t rfl) (.t rfl) rfl (by first | omega | (simp <;> omega)) (by first | omega | (simp <;> omega))) rfl <| fun g17 _ => .p (opAssign (.t rfl)) rfl <| .nil ?_)
      refine EndT.blkN (EndT.thenN ?_)
      refine CodeT.region (.p (opMove (.t rfl)) rfl <| .p (opAddF (.t rfl) (.c _) (fits_i64 (by omega) (by omega))) rfl <| .p (opAssign (.t rfl)) rfl <| .nil ?_)
      refine EndT.round (s.1 + 1, g17) (by omega) (by omega) (by simp only [take_snoc hx]; rfl) ?_
      exact (.get rfl (VLe.of_eq (by simp only [take_snoc hx])) (.get rfl (VLe.int (by omega)) (.keep 17 rfl rfl)))
    ·
      have hall : l.take s.1 = l := List.take_of_length_le (by omega)
      rw [hall]
      refine CodeT.shareS (n := 1) (enc := encU8) (i := 0) (t := 3) rfl rfl ?_
      refine CodeT.exit (EndT.thenX (EndT.thenX (EndT.blkX (EndT.thenN ?_))))
      refine CodeT.seq ?_
      refine CodeT.region (.p (opMove (.t rfl)) rfl <| .p (opAssign (.t rfl)) rfl <| .nil ?_)
      refine EndT.thenN ?_
      refine CodeT.ret (Post.retP rfl rfl ?_)
      first | exact VLe.refl _ | exact VLe.int (by omega) | exact VLe.prop (by omega) | exact VLe.prop (by simp_all) | exact VLe.prop (by simp; omega)

theorem lsame_spec {a b : List UInt8} (hp0 : b.length ≤ 65536) : FnP Try.prog 14 [sliceV 1 encU8 a, sliceV 1 encU8 b] (propV (a = b)) := by
  refine FnE.intro 29 Try.func14 rfl rfl rfl fun w0 S0 M => ?_
  refine CodeT.fact (t := 0) rfl (fun S w v h => sliceV_len h) fun hal => ?_
  refine CodeT.seq ?_
  refine CodeT.region (.p (opAssign .cf) rfl <| .nil ?_)
  refine EndT.thenN ?_
  refine CodeT.seq ?_
  refine CodeT.region (.p (opMove (.t rfl)) rfl <| .p (opCall (l09to_spec hp0) Try.cb29 (.cons (.t rfl) .nil)) rfl <| .p (opAssign (.t rfl)) rfl <| .nil ?_)
  refine EndT.thenN ?_
  refine CodeT.seq ?_
  refine CodeT.seq ?_
  refine CodeT.region (.p (opMove (.t rfl)) rfl <| .p (opLen rfl Try.underlying29 (.t rfl)) rfl <| .p (opMove (.t rfl)) rfl <| .p (opLen rfl Try.underlying29 (.t rfl)) rfl <| .p (opNeq (.t rfl) (.t rfl)) rfl <| .nil ?_)
  refine EndT.thenN ?_
  refine CodeT.cond (.t rfl) (fun c0 => ?_) (fun c0 => ?_)
  ·
    refine CodeT.seq ?_
    refine CodeT.region (.p (opAssign .cf) rfl <| .nil ?_)
    refine EndT.thenN ?_
    refine CodeT.ret (EndT.thenR (Post.retP rfl rfl ?_))
    exact VLe.prop (same_len c0)
  ·
    have hl : (a.length : Int) = (b.length : Int) := by omega
    refine CodeT.skip (EndT.thenN ?_)
    refine CodeT.seq ?_
    refine CodeT.seq ?_
    refine CodeT.region (.p (opAssign (.c _)) rfl <| .nil ?_)
    refine EndT.thenN ?_
    refine CodeT.block ?_
    refine CodeT.loopO (σ := Nat) (fun _ => []) (fun k => [(6, intV .i64 (k : Int))]) (fun k => k ≤ a.length ∧ ∀ j, j < k → a[j]? = b[j]?) (fun k => a.length - k) 0 ⟨by omega, fun j hj => absurd hj (by omega)⟩ rfl ?_ ?_
    · exact (.get rfl (VLe.refl _) (.refl _ _))
    · rintro k ⟨hk, hn⟩
      refine CodeT.seq ?_
      refine CodeT.seq ?_
      refine CodeT.region (.p (opMove (.t rfl)) rfl <| .p (opMove (.t rfl)) rfl <| .p (opLen rfl Try.underlying29 (.t rfl)) rfl <| .p (opLss (.t rfl) (.t rfl)) rfl <| .nil ?_)
      refine EndT.thenN ?_
      refine CodeT.cond (.t rfl) (fun c1 => ?_) (fun c1 => ?_)
      ·
        obtain ⟨x, hx⟩ := getElem?_lt (xs := a) (k := k) (by omega)
        obtain ⟨y, hy⟩ := getElem?_lt (xs := b) (k := k) (by omega)
        refine CodeT.skip (EndT.thenN ?_)
        refine CodeT.seq ?_
        refine CodeT.block ?_
        refine CodeT.seq ?_
        refine CodeT.draw 8 1 Try.mixed (by kernel_rfl) (.p (opMove (.t rfl)) <| .p (opMove (.t rfl)) <| .p (opIndexAddr Try.underlying29 Try.cz34 rfl (.t rfl) (.t rfl) rfl (by assumption)) <| .p (opLoad Try.ag34 (.t rfl)) <| .p (opMove (.t rfl)) <| .p (opMove (.t rfl)) <| .p (opIndexAddr Try.underlying29 Try.cz34 rfl (.t rfl) (.t rfl) rfl (by assumption)) <| .p (opLoad Try.ag34 (.t rfl)) <| .nil) (.p (opNeq (.t rfl) (.t rfl)) rfl <| .nil ?_)
        refine EndT.thenN ?_
        refine CodeT.cond (.t rfl) (fun c2 => ?_) (fun c2 => ?_)
        ·
          refine CodeT.seq ?_
          refine CodeT.region (.p (opAssign .cf) rfl <| .nil ?_)
          refine EndT.thenN ?_
          refine CodeT.ret (EndT.blkR (EndT.thenR (EndT.thenR (EndT.blkR (EndT.thenR (Post.retP rfl rfl ?_))))))
          exact VLe.prop (same_at hx hy c2)
        ·
          refine CodeT.skip (EndT.blkN (EndT.thenN ?_))
          refine CodeT.region (.p (opMove (.t rfl)) rfl <| .p (opAddF (.t rfl) (.c _) (fits_i64 (by omega) (by omega))) rfl <| .p (opAssign (.t rfl)) rfl <| .nil ?_)
          refine EndT.round (k + 1) ⟨by omega, same_step hn hx hy c2⟩ (by omega) rfl ?_
          exact (.get rfl (VLe.int (by omega)) (.keep 17 rfl rfl))
      ·
        refine CodeT.exit (EndT.thenX (EndT.thenX (EndT.blkX (EndT.thenN ?_))))
        refine CodeT.seq ?_
        refine CodeT.region (.p (opAssign .ct) rfl <| .nil ?_)
        refine EndT.thenN ?_
        refine CodeT.ret (Post.retP rfl rfl ?_)
        exact VLe.prop (same_end hl (by omega) hn)

theorem rname_spec {code : Int} : FnP Try.prog 9 [intV .i64 code] (strV (nameR code)) := by
  refine FnE.intro 20 Try.func9 rfl rfl rfl fun w0 S0 M => ?_
  refine CodeT.seq ?_
  refine CodeT.region (.p (opAssign (.s [] rfl rfl)) rfl <| .nil ?_)
  refine EndT.thenN ?_
  refine CodeT.seq ?_
  refine CodeT.seq ?_
  refine CodeT.region (.p (opMove (.t rfl)) rfl <| .nil ?_)
  refine EndT.thenN ?_
  refine CodeT.block ?_
  refine CodeT.seq ?_
  refine CodeT.region (.p (opEql (.t rfl) (.c _)) rfl <| .p (opAssign (.t rfl)) rfl <| .nil ?_)
  refine EndT.thenN ?_
  refine CodeT.cond (.t rfl) (fun c0 => ?_) (fun c0 => ?_)
  ·
    refine CodeT.seq ?_
    refine CodeT.region (.p (opAssign (.s [109, 101, 109, 111, 114, 121, 46, 99, 111, 112, 121] rfl rfl)) rfl <| .nil ?_)
    refine EndT.thenN ?_
    refine CodeT.ret (EndT.blkR (EndT.thenR (Post.retP rfl rfl ?_)))
    exact VLe.of_eq (by unfold nameR; rw [if_pos c0])
  ·
    refine CodeT.seq ?_
    refine CodeT.region (.p (opEql (.t rfl) (.c _)) rfl <| .p (opAssign (.t rfl)) rfl <| .nil ?_)
    refine EndT.thenN ?_
    refine CodeT.cond (.t rfl) (fun c1 => ?_) (fun c1 => ?_)
    ·
      refine CodeT.seq ?_
      refine CodeT.region (.p (opAssign (.s [109, 101, 109, 111, 114, 121, 46, 102, 105, 108, 108] rfl rfl)) rfl <| .nil ?_)
      refine EndT.thenN ?_
      refine CodeT.ret (EndT.blkR (EndT.thenR (Post.retP rfl rfl ?_)))
      exact VLe.of_eq (by unfold nameR; rw [if_neg c0, if_pos c1])
    ·
      refine CodeT.skip (EndT.blkN (EndT.thenN ?_))
      refine CodeT.seq ?_
      refine CodeT.seq ?_
      refine CodeT.region (.p (opMove (.t rfl)) rfl <| .p (opLss (.t rfl) (.c _)) rfl <| .p (opMove (.t rfl)) rfl <| .g (OpG.gF rfl rfl rfl rfl (fun hg => opMove (.t rfl))) rfl rfl <| .g (OpG.gF rfl rfl rfl rfl (fun hg => opGtr (.when (.t rfl) hg) (.c _))) rfl rfl <| .p (opOr (.t rfl) (.t rfl)) rfl <| .nil ?_)
      refine EndT.thenN ?_
      refine CodeT.cond (.t rfl) (fun c2 => ?_) (fun c2 => ?_)
      ·
        refine CodeT.seq ?_
        refine CodeT.region (.p (opAssign (.s [] rfl rfl)) rfl <| .nil ?_)
        refine EndT.thenN ?_
        refine CodeT.ret (EndT.thenR (Post.retP rfl rfl ?_))
        exact VLe.of_eq (by unfold nameR; rw [if_neg c0, if_neg c1, if_pos c2])
      ·
        refine CodeT.skip (EndT.thenN ?_)
        refine CodeT.seq ?_
        refine CodeT.region (.p (opBuildSlice (enc := encStrD) namesT Try.underlying26 Try.cz9 rfl Try.zb9 rfl (.cons (.s [117, 110, 114, 101, 97, 99, 104, 97, 98, 108, 101] rfl rfl) (.cons (.s [110, 111, 112] rfl rfl) (.cons (.s [98, 108, 111, 99, 107] rfl rfl) (.cons (.s [108, 111, 111, 112] rfl rfl) (.cons (.s [105, 102] rfl rfl) (.cons (.s [101, 108, 115, 101] rfl rfl) (.cons (.s [] rfl rfl) (.cons (.s [] rfl rfl) (.cons (.s [] rfl rfl) (.cons (.s [] rfl rfl) (.cons (.s [] rfl rfl) (.cons (.s [101, 110, 100] rfl rfl) (.cons (.s [98, 114] rfl rfl) (.cons (.s [98, 114, 95, 105, 102] rfl rfl) (.cons (.s [98, 114, 95, 116, 97, 98, 108, 101] rfl rfl) (.cons (.s [114, 101, 116, 117, 114, 110] rfl rfl) (.cons (.s [99, 97, 108, 108] rfl rfl) (.cons (.s [99, 97, 108, 108, 95, 105, 110, 100, 105, 114, 101, 99, 116] rfl rfl) (.cons (.s [] rfl rfl) (.cons (.s [] rfl rfl) (.cons (.s [] rfl rfl) (.cons (.s [] rfl rfl) (.cons (.s [] rfl rfl) (.cons (.s [] rfl rfl) (.cons (.s [] rfl rfl) (.cons (.s [] rfl rfl) (.cons (.s [100, 114, 111, 112] rfl rfl) (.cons (.s [115, 101, 108, 101, 99, 116] rfl rfl) (.cons (.s [] rfl rfl) (.cons (.s [] rfl rfl) (.cons (.s [] rfl rfl) (.cons (.s [] rfl rfl) (.cons (.s [108, 111, 99, 97, 108, 46, 103, 101, 116] rfl rfl) (.cons (.s [108, 111, 99, 97, 108, 46, 115, 101, 116] rfl rfl) (.cons (.s [108, 111, 99, 97, 108, 46, 116, 101, 101] rfl rfl) (.cons (.s [103, 108, 111, 98, 97, 108, 46, 103, 101, 116] rfl rfl) (.cons (.s [103, 108, 111, 98, 97, 108, 46, 115, 101, 116] rfl rfl) (.cons (.s [] rfl rfl) (.cons (.s [] rfl rfl) (.cons (.s [] rfl rfl) (.cons (.s [105, 51, 50, 46, 108, 111, 97, 100] rfl rfl) (.cons (.s [105, 54, 52, 46, 108, 111, 97, 100] rfl rfl) (.cons (.s [] rfl rfl) (.cons (.s [] rfl rfl) (.cons (.s [105, 51, 50, 46, 108, 111, 97, 100, 56, 95, 115] rfl rfl) (.cons (.s [105, 51, 50, 46, 108, 111, 97, 100, 56, 95, 117] rfl rfl) (.cons (.s [105, 51, 50, 46, 108, 111, 97, 100, 49, 54, 95, 115] rfl rfl) (.cons (.s [105, 51, 50, 46, 108, 111, 97, 100, 49, 54, 95, 117] rfl rfl) (.cons (.s [105, 54, 52, 46, 108, 111, 97, 100, 56, 95, 115] rfl rfl) (.cons (.s [105, 54, 52, 46, 108, 111, 97, 100, 56, 95, 117] rfl rfl) (.cons (.s [105, 54, 52, 46, 108, 111, 97, 100, 49, 54, 95, 115] rfl rfl) (.cons (.s [105, 54, 52, 46, 108, 111, 97, 100, 49, 54, 95, 117] rfl rfl) (.cons (.s [105, 54, 52, 46, 108, 111, 97, 100, 51, 50, 95, 115] rfl rfl) (.cons (.s [105, 54, 52, 46, 108, 111, 97, 100, 51, 50, 95, 117] rfl rfl) (.cons (.s [105, 51, 50, 46, 115, 116, 111, 114, 101] rfl rfl) (.cons (.s [105, 54, 52, 46, 115, 116, 111, 114, 101] rfl rfl) (.cons (.s [] rfl rfl) (.cons (.s [] rfl rfl) (.cons (.s [105, 51, 50, 46, 115, 116, 111, 114, 101, 56] rfl rfl) (.cons (.s [105, 51, 50, 46, 115, 116, 111, 114, 101, 49, 54] rfl rfl) (.cons (.s [105, 54, 52, 46, 115, 116, 111, 114, 101, 56] rfl rfl) (.cons (.s [105, 54, 52, 46, 115, 116, 111, 114, 101, 49, 54] rfl rfl) (.cons (.s [105, 54, 52, 46, 115, 116, 111, 114, 101, 51, 50] rfl rfl) (.cons (.s [109, 101, 109, 111, 114, 121, 46, 115, 105, 122, 101] rfl rfl) (.cons (.s [109, 101, 109, 111, 114, 121, 46, 103, 114, 111, 119] rfl rfl) (.cons (.s [105, 51, 50, 46, 99, 111, 110, 115, 116] rfl rfl) (.cons (.s [105, 54, 52, 46, 99, 111, 110, 115, 116] rfl rfl) (.cons (.s [] rfl rfl) (.cons (.s [] rfl rfl) (.cons (.s [105, 51, 50, 46, 101, 113, 122] rfl rfl) (.cons (.s [105, 51, 50, 46, 101, 113] rfl rfl) (.cons (.s [105, 51, 50, 46, 110, 101] rfl rfl) (.cons (.s [105, 51, 50, 46, 108, 116, 95, 115] rfl rfl) (.cons (.s [105, 51, 50, 46, 108, 116, 95, 117] rfl rfl) (.cons (.s [105, 51, 50, 46, 103, 116, 95, 115] rfl rfl) (.cons (.s [105, 51, 50, 46, 103, 116, 95, 117] rfl rfl) (.cons (.s [105, 51, 50, 46, 108, 101, 95, 115] rfl rfl) (.cons (.s [105, 51, 50, 46, 108, 101, 95, 117] rfl rfl) (.cons (.s [105, 51, 50, 46, 103, 101, 95, 115] rfl rfl) (.cons (.s [105, 51, 50, 46, 103, 101, 95, 117] rfl rfl) (.cons (.s [105, 54, 52, 46, 101, 113, 122] rfl rfl) (.cons (.s [105, 54, 52, 46, 101, 113] rfl rfl) (.cons (.s [105, 54, 52, 46, 110, 101] rfl rfl) (.cons (.s [105, 54, 52, 46, 108, 116, 95, 115] rfl rfl) (.cons (.s [105, 54, 52, 46, 108, 116, 95, 117] rfl rfl) (.cons (.s [105, 54, 52, 46, 103, 116, 95, 115] rfl rfl) (.cons (.s [105, 54, 52, 46, 103, 116, 95, 117] rfl rfl) (.cons (.s [105, 54, 52, 46, 108, 101, 95, 115] rfl rfl) (.cons (.s [105, 54, 52, 46, 108, 101, 95, 117] rfl rfl) (.cons (.s [105, 54, 52, 46, 103, 101, 95, 115] rfl rfl) (.cons (.s [105, 54, 52, 46, 103, 101, 95, 117] rfl rfl) (.cons (.s [] rfl rfl) (.cons (.s [] rfl rfl) (.cons (.s [] rfl rfl) (.cons (.s [] rfl rfl) (.cons (.s [] rfl rfl) (.cons (.s [] rfl rfl) (.cons (.s [] rfl rfl) (.cons (.s [] rfl rfl) (.cons (.s [] rfl rfl) (.cons (.s [] rfl rfl) (.cons (.s [] rfl rfl) (.cons (.s [] rfl rfl) (.cons (.s [105, 51, 50, 46, 99, 108, 122] rfl rfl) (.cons (.s [105, 51, 50, 46, 99, 116, 122] rfl rfl) (.cons (.s [105, 51, 50, 46, 112, 111, 112, 99, 110, 116] rfl rfl) (.cons (.s [105, 51, 50, 46, 97, 100, 100] rfl rfl) (.cons (.s [105, 51, 50, 46, 115, 117, 98] rfl rfl) (.cons (.s [105, 51, 50, 46, 109, 117, 108] rfl rfl) (.cons (.s [105, 51, 50, 46, 100, 105, 118, 95, 115] rfl rfl) (.cons (.s [105, 51, 50, 46, 100, 105, 118, 95, 117] rfl rfl) (.cons (.s [105, 51, 50, 46, 114, 101, 109, 95, 115] rfl rfl) (.cons (.s [105, 51, 50, 46, 114, 101, 109, 95, 117] rfl rfl) (.cons (.s [105, 51, 50, 46, 97, 110, 100] rfl rfl) (.cons (.s [105, 51, 50, 46, 111, 114] rfl rfl) (.cons (.s [105, 51, 50, 46, 120, 111, 114] rfl rfl) (.cons (.s [105, 51, 50, 46, 115, 104, 108] rfl rfl) (.cons (.s [105, 51, 50, 46, 115, 104, 114, 95, 115] rfl rfl) (.cons (.s [105, 51, 50, 46, 115, 104, 114, 95, 117] rfl rfl) (.cons (.s [105, 51, 50, 46, 114, 111, 116, 108] rfl rfl) (.cons (.s [105, 51, 50, 46, 114, 111, 116, 114] rfl rfl) (.cons (.s [105, 54, 52, 46, 99, 108, 122] rfl rfl) (.cons (.s [105, 54, 52, 46, 99, 116, 122] rfl rfl) (.cons (.s [105, 54, 52, 46, 112, 111, 112, 99, 110, 116] rfl rfl) (.cons (.s [105, 54, 52, 46, 97, 100, 100] rfl rfl) (.cons (.s [105, 54, 52, 46, 115, 117, 98] rfl rfl) (.cons (.s [105, 54, 52, 46, 109, 117, 108] rfl rfl) (.cons (.s [105, 54, 52, 46, 100, 105, 118, 95, 115] rfl rfl) (.cons (.s [105, 54, 52, 46, 100, 105, 118, 95, 117] rfl rfl) (.cons (.s [105, 54, 52, 46, 114, 101, 109, 95, 115] rfl rfl) (.cons (.s [105, 54, 52, 46, 114, 101, 109, 95, 117] rfl rfl) (.cons (.s [105, 54, 52, 46, 97, 110, 100] rfl rfl) (.cons (.s [105, 54, 52, 46, 111, 114] rfl rfl) (.cons (.s [105, 54, 52, 46, 120, 111, 114] rfl rfl) (.cons (.s [105, 54, 52, 46, 115, 104, 108] rfl rfl) (.cons (.s [105, 54, 52, 46, 115, 104, 114, 95, 115] rfl rfl) (.cons (.s [105, 54, 52, 46, 115, 104, 114, 95, 117] rfl rfl) (.cons (.s [105, 54, 52, 46, 114, 111, 116, 108] rfl rfl) (.cons (.s [105, 54, 52, 46, 114, 111, 116, 114] rfl rfl) (.cons (.s [] rfl rfl) (.cons (.s [] rfl rfl) (.cons (.s [] rfl rfl) (.cons (.s [] rfl rfl) (.cons (.s [] rfl rfl) (.cons (.s [] rfl rfl) (.cons (.s [] rfl rfl) (.cons (.s [] rfl rfl) (.cons (.s [] rfl rfl) (.cons (.s [] rfl rfl) (.cons (.s [] rfl rfl) (.cons (.s [] rfl rfl) (.cons (.s [] rfl rfl) (.cons (.s [] rfl rfl) (.cons (.s [] rfl rfl) (.cons (.s [] rfl rfl) (.cons (.s [] rfl rfl) (.cons (.s [] rfl rfl) (.cons (.s [] rfl rfl) (.cons (.s [] rfl rfl) (.cons (.s [] rfl rfl) (.cons (.s [] rfl rfl) (.cons (.s [] rfl rfl) (.cons (.s [] rfl rfl) (.cons (.s [] rfl rfl) (.cons (.s [] rfl rfl) (.cons (.s [] rfl rfl) (.cons (.s [] rfl rfl) (.cons (.s [105, 51, 50, 46, 119, 114, 97, 112, 95, 105, 54, 52] rfl rfl) (.cons (.s [] rfl rfl) (.cons (.s [] rfl rfl) (.cons (.s [] rfl rfl) (.cons (.s [] rfl rfl) (.cons (.s [105, 54, 52, 46, 101, 120, 116, 101, 110, 100, 95, 105, 51, 50, 95, 115] rfl rfl) (.cons (.s [105, 54, 52, 46, 101, 120, 116, 101, 110, 100, 95, 105, 51, 50, 95, 117] rfl rfl) (.cons (.s [] rfl rfl) (.cons (.s [] rfl rfl) (.cons (.s [] rfl rfl) (.cons (.s [] rfl rfl) (.cons (.s [] rfl rfl) (.cons (.s [] rfl rfl) (.cons (.s [] rfl rfl) (.cons (.s [] rfl rfl) (.cons (.s [] rfl rfl) (.cons (.s [] rfl rfl) (.cons (.s [] rfl rfl) (.cons (.s [] rfl rfl) (.cons (.s [] rfl rfl) (.cons (.s [] rfl rfl) (.cons (.s [] rfl rfl) (.cons (.s [] rfl rfl) (.cons (.s [] rfl rfl) (.cons (.s [] rfl rfl) (.cons (.s [105, 51, 50, 46, 101, 120, 116, 101, 110, 100, 56, 95, 115] rfl rfl) (.cons (.s [105, 51, 50, 46, 101, 120, 116, 101, 110, 100, 49, 54, 95, 115] rfl rfl) (.cons (.s [105, 54, 52, 46, 101, 120, 116, 101, 110, 100, 56, 95, 115] rfl rfl) (.cons (.s [105, 54, 52, 46, 101, 120, 116, 101, 110, 100, 49, 54, 95, 115] rfl rfl) (.cons (.s [105, 54, 52, 46, 101, 120, 116, 101, 110, 100, 51, 50, 95, 115] rfl rfl) .nil))))))))))))))))))))))))))))))))))))))))))))))))))))))))))))))))))))))))))))))))))))))))))))))))))))))))))))))))))))))))))))))))))))))))))))))))))))))))))))))))))))))))))))))))))))))))))))))))))))) rfl rfl rfl rfl rfl) rfl <| .p (opAssign (.t rfl)) rfl <| .nil ?_)
        refine EndT.thenN ?_
        refine CodeT.seq ?_
        refine CodeT.region (.p (opMove (.t rfl)) rfl <| .p (opMove (.t rfl)) rfl <| .p (opIndexAddr Try.underlying26 Try.cz9 rfl (.t rfl) (.t rfl) (by omega) (show namesT[code.toNat]? = some (namesT.getD code.toNat []) by rw [List.getD_eq_getElem?_getD, List.getElem?_eq_getElem (by rw [names_len]; omega)]; rfl)) rfl <| .p (opLoad Try.ag9 (.t rfl)) rfl <| .p (opAssign (.t rfl)) rfl <| .nil ?_)
        refine EndT.thenN ?_
        refine CodeT.ret (Post.retP rfl rfl ?_)
        exact VLe.of_eq (by unfold nameR; rw [if_neg c0, if_neg c1, if_neg c2])

theorem rform_spec {code : Int} : FnP Try.prog 20 [intV .i64 code] (intV .i64 (formR code)) := by
  refine FnE.intro 68 Try.func20 rfl rfl rfl fun w0 S0 M => ?_
  refine CodeT.seq ?_
  refine CodeT.region (.p (opAssign (.c _)) rfl <| .nil ?_)
  refine EndT.thenN ?_
  refine CodeT.seq ?_
  refine CodeT.block ?_
  refine CodeT.seq ?_
  refine CodeT.region (.p (opMove (.t rfl)) rfl <| .p (opGeq (.t rfl) (.c _)) rfl <| .p (opMove (.t rfl)) rfl <| .g (OpG.gT rfl rfl rfl rfl (fun hg => opMove (.t rfl))) rfl rfl <| .g (OpG.gT rfl rfl rfl rfl (fun hg => opLeq (.when (.t rfl) hg) (.c _))) rfl rfl <| .p (opAnd (.t rfl) (.t rfl)) rfl <| .p (opAssign (.t rfl)) rfl <| .nil ?_)
  refine EndT.thenN ?_
  refine CodeT.cond (.t rfl) (fun c0 => ?_) (fun c0 => ?_)
  ·
    refine CodeT.seq ?_
    refine CodeT.region (.p (opAssign (.c _)) rfl <| .nil ?_)
    refine EndT.thenN ?_
    refine CodeT.ret (EndT.blkR (EndT.thenR (Post.retP rfl rfl ?_)))
    exact VLe.int (by unfold formR; repeat (first | rfl | rw [if_pos (by assumption)] | rw [if_neg (by assumption)]))
  ·
    refine CodeT.seq ?_
    refine CodeT.region (.p (opMove (.t rfl)) rfl <| .p (opEql (.t rfl) (.c _)) rfl <| .p (opMove (.t rfl)) rfl <| .g (OpG.gF rfl rfl rfl rfl (fun hg => opMove (.t rfl))) rfl rfl <| .g (OpG.gF rfl rfl rfl rfl (fun hg => opEql (.when (.t rfl) hg) (.c _))) rfl rfl <| .p (opOr (.t rfl) (.t rfl)) rfl <| .p (opAssign (.t rfl)) rfl <| .nil ?_)
    refine EndT.thenN ?_
    refine CodeT.cond (.t rfl) (fun c1 => ?_) (fun c1 => ?_)
    ·
      refine CodeT.seq ?_
      refine CodeT.region (.p (opAssign (.c _)) rfl <| .nil ?_)
      refine EndT.thenN ?_
      refine CodeT.ret (EndT.blkR (EndT.thenR (Post.retP rfl rfl ?_)))
      exact VLe.int (by unfold formR; repeat (first | rfl | rw [if_pos (by assumption)] | rw [if_neg (by assumption)]))
    ·
      refine CodeT.seq ?_
      refine CodeT.region (.p (opMove (.t rfl)) rfl <| .p (opEql (.t rfl) (.c _)) rfl <| .p (opAssign (.t rfl)) rfl <| .nil ?_)
      refine EndT.thenN ?_
      refine CodeT.cond (.t rfl) (fun c2 => ?_) (fun c2 => ?_)
      ·
        refine CodeT.seq ?_
        refine CodeT.region (.p (opAssign (.c _)) rfl <| .nil ?_)
        refine EndT.thenN ?_
        refine CodeT.ret (EndT.blkR (EndT.thenR (Post.retP rfl rfl ?_)))
        exact VLe.int (by unfold formR; repeat (first | rfl | rw [if_pos (by assumption)] | rw [if_neg (by assumption)]))
      ·
        refine CodeT.seq ?_
        refine CodeT.region (.p (opMove (.t rfl)) rfl <| .p (opEql (.t rfl) (.c _)) rfl <| .p (opAssign (.t rfl)) rfl <| .nil ?_)
        refine EndT.thenN ?_
        refine CodeT.cond (.t rfl) (fun c3 => ?_) (fun c3 => ?_)
        ·
          refine CodeT.seq ?_
          refine CodeT.region (.p (opAssign (.c _)) rfl <| .nil ?_)
          refine EndT.thenN ?_
          refine CodeT.ret (EndT.blkR (EndT.thenR (Post.retP rfl rfl ?_)))
          exact VLe.int (by unfold formR; repeat (first | rfl | rw [if_pos (by assumption)] | rw [if_neg (by assumption)]))
        ·
          refine CodeT.seq ?_
          refine CodeT.region (.p (opMove (.t rfl)) rfl <| .p (opEql (.t rfl) (.c _)) rfl <| .p (opAssign (.t rfl)) rfl <| .nil ?_)
          refine EndT.thenN ?_
          refine CodeT.cond (.t rfl) (fun c4 => ?_) (fun c4 => ?_)
          ·
            refine CodeT.seq ?_
            refine CodeT.region (.p (opAssign (.c _)) rfl <| .nil ?_)
            refine EndT.thenN ?_
            refine CodeT.ret (EndT.blkR (EndT.thenR (Post.retP rfl rfl ?_)))
            exact VLe.int (by unfold formR; repeat (first | rfl | rw [if_pos (by assumption)] | rw [if_neg (by assumption)]))
          ·
            refine CodeT.seq ?_
            refine CodeT.region (.p (opMove (.t rfl)) rfl <| .p (opGeq (.t rfl) (.c _)) rfl <| .p (opMove (.t rfl)) rfl <| .g (OpG.gT rfl rfl rfl rfl (fun hg => opMove (.t rfl))) rfl rfl <| .g (OpG.gT rfl rfl rfl rfl (fun hg => opLeq (.when (.t rfl) hg) (.c _))) rfl rfl <| .p (opAnd (.t rfl) (.t rfl)) rfl <| .p (opAssign (.t rfl)) rfl <| .nil ?_)
            refine EndT.thenN ?_
            refine CodeT.cond (.t rfl) (fun c5 => ?_) (fun c5 => ?_)
            ·
              refine CodeT.seq ?_
              refine CodeT.region (.p (opAssign (.c _)) rfl <| .nil ?_)
              refine EndT.thenN ?_
              refine CodeT.ret (EndT.blkR (EndT.thenR (Post.retP rfl rfl ?_)))
              exact VLe.int (by unfold formR; repeat (first | rfl | rw [if_pos (by assumption)] | rw [if_neg (by assumption)]))
            ·
              refine CodeT.seq ?_
              refine CodeT.region (.p (opMove (.t rfl)) rfl <| .p (opEql (.t rfl) (.c _)) rfl <| .p (opMove (.t rfl)) rfl <| .g (OpG.gF rfl rfl rfl rfl (fun hg => opMove (.t rfl))) rfl rfl <| .g (OpG.gF rfl rfl rfl rfl (fun hg => opEql (.when (.t rfl) hg) (.c _))) rfl rfl <| .p (opOr (.t rfl) (.t rfl)) rfl <| .p (opAssign (.t rfl)) rfl <| .nil ?_)
              refine EndT.thenN ?_
              refine CodeT.cond (.t rfl) (fun c6 => ?_) (fun c6 => ?_)
              ·
                refine CodeT.seq ?_
                refine CodeT.region (.p (opAssign (.c _)) rfl <| .nil ?_)
                refine EndT.thenN ?_
                refine CodeT.ret (EndT.blkR (EndT.thenR (Post.retP rfl rfl ?_)))
                exact VLe.int (by unfold formR; repeat (first | rfl | rw [if_pos (by assumption)] | rw [if_neg (by assumption)]))
              ·
                refine CodeT.seq ?_
                refine CodeT.region (.p (opMove (.t rfl)) rfl <| .p (opGeq (.t rfl) (.c _)) rfl <| .p (opMove (.t rfl)) rfl <| .g (OpG.gT rfl rfl rfl rfl (fun hg => opMove (.t rfl))) rfl rfl <| .g (OpG.gT rfl rfl rfl rfl (fun hg => opLeq (.when (.t rfl) hg) (.c _))) rfl rfl <| .p (opAnd (.t rfl) (.t rfl)) rfl <| .p (opAssign (.t rfl)) rfl <| .nil ?_)
                refine EndT.thenN ?_
                refine CodeT.cond (.t rfl) (fun c7 => ?_) (fun c7 => ?_)
                ·
                  refine CodeT.seq ?_
                  refine CodeT.region (.p (opAssign (.c _)) rfl <| .nil ?_)
                  refine EndT.thenN ?_
                  refine CodeT.ret (EndT.blkR (EndT.thenR (Post.retP rfl rfl ?_)))
                  exact VLe.int (by unfold formR; repeat (first | rfl | rw [if_pos (by assumption)] | rw [if_neg (by assumption)]))
                ·
                  refine CodeT.seq ?_
                  refine CodeT.region (.p (opMove (.t rfl)) rfl <| .p (opEql (.t rfl) (.c _)) rfl <| .p (opMove (.t rfl)) rfl <| .g (OpG.gF rfl rfl rfl rfl (fun hg => opMove (.t rfl))) rfl rfl <| .g (OpG.gF rfl rfl rfl rfl (fun hg => opEql (.when (.t rfl) hg) (.c _))) rfl rfl <| .p (opOr (.t rfl) (.t rfl)) rfl <| .p (opMove (.t rfl)) rfl <| .g (OpG.gF rfl rfl rfl rfl (fun hg => opMove (.t rfl))) rfl rfl <| .g (OpG.gF rfl rfl rfl rfl (fun hg => opEql (.when (.t rfl) hg) (.c _))) rfl rfl <| .p (opOr (.t rfl) (.t rfl)) rfl <| .p (opAssign (.t rfl)) rfl <| .nil ?_)
                  refine EndT.thenN ?_
                  refine CodeT.cond (.t rfl) (fun c8 => ?_) (fun c8 => ?_)
                  ·
                    refine CodeT.seq ?_
                    refine CodeT.region (.p (opAssign (.c _)) rfl <| .nil ?_)
                    refine EndT.thenN ?_
                    refine CodeT.ret (EndT.blkR (EndT.thenR (Post.retP rfl rfl ?_)))
                    exact VLe.int (by unfold formR; repeat (first | rfl | rw [if_pos (by assumption)] | rw [if_neg (by assumption)]))
                  ·
                    refine CodeT.seq ?_
                    refine CodeT.region (.p (opMove (.t rfl)) rfl <| .p (opEql (.t rfl) (.c _)) rfl <| .p (opAssign (.t rfl)) rfl <| .nil ?_)
                    refine EndT.thenN ?_
                    refine CodeT.cond (.t rfl) (fun c9 => ?_) (fun c9 => ?_)
                    ·
                      refine CodeT.seq ?_
                      refine CodeT.region (.p (opAssign (.c _)) rfl <| .nil ?_)
                      refine EndT.thenN ?_
                      refine CodeT.ret (EndT.blkR (EndT.thenR (Post.retP rfl rfl ?_)))
                      exact VLe.int (by unfold formR; repeat (first | rfl | rw [if_pos (by assumption)] | rw [if_neg (by assumption)]))
                    ·
                      refine CodeT.seq ?_
                      refine CodeT.region (.p (opMove (.t rfl)) rfl <| .p (opEql (.t rfl) (.c _)) rfl <| .p (opMove (.t rfl)) rfl <| .g (OpG.gF rfl rfl rfl rfl (fun hg => opMove (.t rfl))) rfl rfl <| .g (OpG.gF rfl rfl rfl rfl (fun hg => opEql (.when (.t rfl) hg) (.c _))) rfl rfl <| .p (opOr (.t rfl) (.t rfl)) rfl <| .p (opAssign (.t rfl)) rfl <| .nil ?_)
                      refine EndT.thenN ?_
                      refine CodeT.cond (.t rfl) (fun c10 => ?_) (fun c10 => ?_)
                      ·
                        refine CodeT.seq ?_
                        refine CodeT.region (.p (opAssign (.c _)) rfl <| .nil ?_)
                        refine EndT.thenN ?_
                        refine CodeT.ret (EndT.blkR (EndT.thenR (Post.retP rfl rfl ?_)))
                        exact VLe.int (by unfold formR; repeat (first | rfl | rw [if_pos (by assumption)] | rw [if_neg (by assumption)]))
                      ·
                        refine CodeT.skip (EndT.blkN (EndT.thenN ?_))
                        refine CodeT.seq ?_
                        refine CodeT.region (.p (opAssign (.c _)) rfl <| .nil ?_)
                        refine EndT.thenN ?_
                        refine CodeT.ret (Post.retP rfl rfl ?_)
                        exact VLe.int (by unfold formR; repeat (first | rfl | rw [if_pos (by assumption)] | rw [if_neg (by assumption)]))

theorem rtakes_spec {code : Int} : FnP Try.prog 13 [intV .i64 code] (tupV [sliceV 1 encU8 (takesR code).1, sliceV 1 encU8 (takesR code).2]) := by
  refine FnE.intro 169 Try.func13 rfl rfl rfl fun w0 S0 M => ?_
  refine CodeT.seq ?_
  refine CodeT.region (.p (opAssign (.c _)) rfl <| .p (opAssign (.c _)) rfl <| .nil ?_)
  refine EndT.thenN ?_
  refine CodeT.seq ?_
  refine CodeT.region (.p (opAssign (.c _)) rfl <| .p (opAssign (.c _)) rfl <| .nil ?_)
  refine EndT.thenN ?_
  refine CodeT.seq ?_
  refine CodeT.block ?_
  refine CodeT.seq ?_
  refine CodeT.region (.p (opMove (.t rfl)) rfl <| .p (opLss (.t rfl) (.c _)) rfl <| .p (opAssign (.t rfl)) rfl <| .nil ?_)
  refine EndT.thenN ?_
  refine CodeT.cond (.t rfl) (fun c0 => ?_) (fun c0 => ?_)
  ·
    refine CodeT.seq ?_
    refine CodeT.region (.p (opAssign (.c _)) rfl <| .p (opAssign (.c _)) rfl <| .nil ?_)
    refine EndT.thenN ?_
    refine CodeT.ret (EndT.blkR (EndT.thenR (Post.retR rfl rfl () trivial (fun _ _ _ _ => trivial) rfl (.cons (.rt rfl) ?_ (.cons (.rt rfl) ?_ .nil)))))
    · first | (refine VLe.trans (sliceV_nil 1 encU8) (VLe.of_eq ?_); unfold takesR; repeat (first | rfl | rw [if_pos (by assumption)] | rw [if_neg (by assumption)])) | (refine VLe.of_eq ?_; unfold takesR; repeat (first | rfl | rw [if_pos (by assumption)] | rw [if_neg (by assumption)]))
    · first | (refine VLe.trans (sliceV_nil 1 encU8) (VLe.of_eq ?_); unfold takesR; repeat (first | rfl | rw [if_pos (by assumption)] | rw [if_neg (by assumption)])) | (refine VLe.of_eq ?_; unfold takesR; repeat (first | rfl | rw [if_pos (by assumption)] | rw [if_neg (by assumption)]))
  ·
    refine CodeT.seq ?_
    refine CodeT.region (.p (opMove (.t rfl)) rfl <| .p (opEql (.t rfl) (.c _)) rfl <| .p (opMove (.t rfl)) rfl <| .g (OpG.gF rfl rfl rfl rfl (fun hg => opMove (.t rfl))) rfl rfl <| .g (OpG.gF rfl rfl rfl rfl (fun hg => opGeq (.when (.t rfl) hg) (.c _))) rfl rfl <| .g (OpG.gF rfl rfl rfl rfl (fun hg => opMove (.when (.t rfl) hg))) rfl rfl <| .g (OpG.hT rfl rfl rfl rfl (fun hg => opMove (.t rfl))) rfl rfl <| .g (OpG.hT rfl rfl rfl rfl (fun hg => opLeq (.when (.t rfl) hg) (.c _))) rfl rfl <| .g (OpG.gF rfl rfl rfl rfl (fun hg => opAnd (.when (.t rfl) hg) (.under (.t rfl) hg))) rfl rfl <| .p (opOr (.t rfl) (.t rfl)) rfl <| .p (opAssign (.t rfl)) rfl <| .nil ?_)
    refine EndT.thenN ?_
    refine CodeT.cond (.t rfl) (fun c1 => ?_) (fun c1 => ?_)
    ·
      refine CodeT.seq ?_
      refine CodeT.region (.p (opMove (.t rfl)) rfl <| .p (opBuildSlice (enc := encU8) [127] Try.underlying37 Try.cz5 rfl Try.zb5 rfl (.cons (.t rfl) .nil) rfl rfl rfl rfl rfl) rfl <| .p (opMove (.t rfl)) rfl <| .p (opBuildSlice (enc := encU8) [127] Try.underlying37 Try.cz5 rfl Try.zb5 rfl (.cons (.t rfl) .nil) rfl rfl rfl rfl rfl) rfl <| .p (opAssign (.t rfl)) rfl <| .p (opAssign (.t rfl)) rfl <| .nil ?_)
      refine EndT.thenN ?_
      refine CodeT.ret (EndT.blkR (EndT.thenR (Post.retR rfl rfl () trivial (fun _ _ _ _ => trivial) rfl (.cons (.rt rfl) ?_ (.cons (.rt rfl) ?_ .nil)))))
      · first | (refine VLe.trans (sliceV_nil 1 encU8) (VLe.of_eq ?_); unfold takesR; repeat (first | rfl | rw [if_pos (by assumption)] | rw [if_neg (by assumption)])) | (refine VLe.of_eq ?_; unfold takesR; repeat (first | rfl | rw [if_pos (by assumption)] | rw [if_neg (by assumption)]))
      · first | (refine VLe.trans (sliceV_nil 1 encU8) (VLe.of_eq ?_); unfold takesR; repeat (first | rfl | rw [if_pos (by assumption)] | rw [if_neg (by assumption)])) | (refine VLe.of_eq ?_; unfold takesR; repeat (first | rfl | rw [if_pos (by assumption)] | rw [if_neg (by assumption)]))
    ·
      refine CodeT.seq ?_
      refine CodeT.region (.p (opMove (.t rfl)) rfl <| .p (opEql (.t rfl) (.c _)) rfl <| .p (opMove (.t rfl)) rfl <| .g (OpG.gF rfl rfl rfl rfl (fun hg => opMove (.t rfl))) rfl rfl <| .g (OpG.gF rfl rfl rfl rfl (fun hg => opGeq (.when (.t rfl) hg) (.c _))) rfl rfl <| .g (OpG.gF rfl rfl rfl rfl (fun hg => opMove (.when (.t rfl) hg))) rfl rfl <| .g (OpG.hT rfl rfl rfl rfl (fun hg => opMove (.t rfl))) rfl rfl <| .g (OpG.hT rfl rfl rfl rfl (fun hg => opLeq (.when (.t rfl) hg) (.c _))) rfl rfl <| .g (OpG.gF rfl rfl rfl rfl (fun hg => opAnd (.when (.t rfl) hg) (.under (.t rfl) hg))) rfl rfl <| .p (opOr (.t rfl) (.t rfl)) rfl <| .p (opAssign (.t rfl)) rfl <| .nil ?_)
      refine EndT.thenN ?_
      refine CodeT.cond (.t rfl) (fun c2 => ?_) (fun c2 => ?_)
      ·
        refine CodeT.seq ?_
        refine CodeT.region (.p (opMove (.t rfl)) rfl <| .p (opBuildSlice (enc := encU8) [127] Try.underlying37 Try.cz5 rfl Try.zb5 rfl (.cons (.t rfl) .nil) rfl rfl rfl rfl rfl) rfl <| .p (opMove (.t rfl)) rfl <| .p (opBuildSlice (enc := encU8) [126] Try.underlying37 Try.cz5 rfl Try.zb5 rfl (.cons (.t rfl) .nil) rfl rfl rfl rfl rfl) rfl <| .p (opAssign (.t rfl)) rfl <| .p (opAssign (.t rfl)) rfl <| .nil ?_)
        refine EndT.thenN ?_
        refine CodeT.ret (EndT.blkR (EndT.thenR (Post.retR rfl rfl () trivial (fun _ _ _ _ => trivial) rfl (.cons (.rt rfl) ?_ (.cons (.rt rfl) ?_ .nil)))))
        · first | (refine VLe.trans (sliceV_nil 1 encU8) (VLe.of_eq ?_); unfold takesR; repeat (first | rfl | rw [if_pos (by assumption)] | rw [if_neg (by assumption)])) | (refine VLe.of_eq ?_; unfold takesR; repeat (first | rfl | rw [if_pos (by assumption)] | rw [if_neg (by assumption)]))
        · first | (refine VLe.trans (sliceV_nil 1 encU8) (VLe.of_eq ?_); unfold takesR; repeat (first | rfl | rw [if_pos (by assumption)] | rw [if_neg (by assumption)])) | (refine VLe.of_eq ?_; unfold takesR; repeat (first | rfl | rw [if_pos (by assumption)] | rw [if_neg (by assumption)]))
      ·
        refine CodeT.seq ?_
        refine CodeT.region (.p (opMove (.t rfl)) rfl <| .p (opEql (.t rfl) (.c _)) rfl <| .p (opMove (.t rfl)) rfl <| .g (OpG.gF rfl rfl rfl rfl (fun hg => opMove (.t rfl))) rfl rfl <| .g (OpG.gF rfl rfl rfl rfl (fun hg => opEql (.when (.t rfl) hg) (.c _))) rfl rfl <| .p (opOr (.t rfl) (.t rfl)) rfl <| .p (opMove (.t rfl)) rfl <| .g (OpG.gF rfl rfl rfl rfl (fun hg => opMove (.t rfl))) rfl rfl <| .g (OpG.gF rfl rfl rfl rfl (fun hg => opEql (.when (.t rfl) hg) (.c _))) rfl rfl <| .p (opOr (.t rfl) (.t rfl)) rfl <| .p (opAssign (.t rfl)) rfl <| .nil ?_)
        refine EndT.thenN ?_
        refine CodeT.cond (.t rfl) (fun c3 => ?_) (fun c3 => ?_)
        ·
          refine CodeT.seq ?_
          refine CodeT.region (.p (opMove (.t rfl)) rfl <| .p (opMove (.t rfl)) rfl <| .p (opBuildSlice (enc := encU8) [127, 127] Try.underlying37 Try.cz5 rfl Try.zb5 rfl (.cons (.t rfl) (.cons (.t rfl) .nil)) rfl rfl rfl rfl rfl) rfl <| .p (opAssign (.t rfl)) rfl <| .p (opAssign (.c _)) rfl <| .nil ?_)
          refine EndT.thenN ?_
          refine CodeT.ret (EndT.blkR (EndT.thenR (Post.retR rfl rfl () trivial (fun _ _ _ _ => trivial) rfl (.cons (.rt rfl) ?_ (.cons (.rt rfl) ?_ .nil)))))
          · first | (refine VLe.trans (sliceV_nil 1 encU8) (VLe.of_eq ?_); unfold takesR; repeat (first | rfl | rw [if_pos (by assumption)] | rw [if_neg (by assumption)])) | (refine VLe.of_eq ?_; unfold takesR; repeat (first | rfl | rw [if_pos (by assumption)] | rw [if_neg (by assumption)]))
          · first | (refine VLe.trans (sliceV_nil 1 encU8) (VLe.of_eq ?_); unfold takesR; repeat (first | rfl | rw [if_pos (by assumption)] | rw [if_neg (by assumption)])) | (refine VLe.of_eq ?_; unfold takesR; repeat (first | rfl | rw [if_pos (by assumption)] | rw [if_neg (by assumption)]))
        ·
          refine CodeT.seq ?_
          refine CodeT.region (.p (opMove (.t rfl)) rfl <| .p (opLeq (.t rfl) (.c _)) rfl <| .p (opAssign (.t rfl)) rfl <| .nil ?_)
          refine EndT.thenN ?_
          refine CodeT.cond (.t rfl) (fun c4 => ?_) (fun c4 => ?_)
          ·
            refine CodeT.seq ?_
            refine CodeT.region (.p (opMove (.t rfl)) rfl <| .p (opMove (.t rfl)) rfl <| .p (opBuildSlice (enc := encU8) [127, 126] Try.underlying37 Try.cz5 rfl Try.zb5 rfl (.cons (.t rfl) (.cons (.t rfl) .nil)) rfl rfl rfl rfl rfl) rfl <| .p (opAssign (.t rfl)) rfl <| .p (opAssign (.c _)) rfl <| .nil ?_)
            refine EndT.thenN ?_
            refine CodeT.ret (EndT.blkR (EndT.thenR (Post.retR rfl rfl () trivial (fun _ _ _ _ => trivial) rfl (.cons (.rt rfl) ?_ (.cons (.rt rfl) ?_ .nil)))))
            · first | (refine VLe.trans (sliceV_nil 1 encU8) (VLe.of_eq ?_); unfold takesR; repeat (first | rfl | rw [if_pos (by assumption)] | rw [if_neg (by assumption)])) | (refine VLe.of_eq ?_; unfold takesR; repeat (first | rfl | rw [if_pos (by assumption)] | rw [if_neg (by assumption)]))
            · first | (refine VLe.trans (sliceV_nil 1 encU8) (VLe.of_eq ?_); unfold takesR; repeat (first | rfl | rw [if_pos (by assumption)] | rw [if_neg (by assumption)])) | (refine VLe.of_eq ?_; unfold takesR; repeat (first | rfl | rw [if_pos (by assumption)] | rw [if_neg (by assumption)]))
          ·
            refine CodeT.seq ?_
            refine CodeT.region (.p (opMove (.t rfl)) rfl <| .p (opEql (.t rfl) (.c _)) rfl <| .p (opMove (.t rfl)) rfl <| .g (OpG.gF rfl rfl rfl rfl (fun hg => opMove (.t rfl))) rfl rfl <| .g (OpG.gF rfl rfl rfl rfl (fun hg => opEql (.when (.t rfl) hg) (.c _))) rfl rfl <| .p (opOr (.t rfl) (.t rfl)) rfl <| .p (opAssign (.t rfl)) rfl <| .nil ?_)
            refine EndT.thenN ?_
            refine CodeT.cond (.t rfl) (fun c5 => ?_) (fun c5 => ?_)
            ·
              refine CodeT.seq ?_
              refine CodeT.region (.p (opMove (.t rfl)) rfl <| .p (opBuildSlice (enc := encU8) [127] Try.underlying37 Try.cz5 rfl Try.zb5 rfl (.cons (.t rfl) .nil) rfl rfl rfl rfl rfl) rfl <| .p (opAssign (.c _)) rfl <| .p (opAssign (.t rfl)) rfl <| .nil ?_)
              refine EndT.thenN ?_
              refine CodeT.ret (EndT.blkR (EndT.thenR (Post.retR rfl rfl () trivial (fun _ _ _ _ => trivial) rfl (.cons (.rt rfl) ?_ (.cons (.rt rfl) ?_ .nil)))))
              · first | (refine VLe.trans (sliceV_nil 1 encU8) (VLe.of_eq ?_); unfold takesR; repeat (first | rfl | rw [if_pos (by assumption)] | rw [if_neg (by assumption)])) | (refine VLe.of_eq ?_; unfold takesR; repeat (first | rfl | rw [if_pos (by assumption)] | rw [if_neg (by assumption)]))
              · first | (refine VLe.trans (sliceV_nil 1 encU8) (VLe.of_eq ?_); unfold takesR; repeat (first | rfl | rw [if_pos (by assumption)] | rw [if_neg (by assumption)])) | (refine VLe.of_eq ?_; unfold takesR; repeat (first | rfl | rw [if_pos (by assumption)] | rw [if_neg (by assumption)]))
            ·
              refine CodeT.seq ?_
              refine CodeT.region (.p (opMove (.t rfl)) rfl <| .p (opEql (.t rfl) (.c _)) rfl <| .p (opAssign (.t rfl)) rfl <| .nil ?_)
              refine EndT.thenN ?_
              refine CodeT.cond (.t rfl) (fun c6 => ?_) (fun c6 => ?_)
              ·
                refine CodeT.seq ?_
                refine CodeT.region (.p (opMove (.t rfl)) rfl <| .p (opBuildSlice (enc := encU8) [126] Try.underlying37 Try.cz5 rfl Try.zb5 rfl (.cons (.t rfl) .nil) rfl rfl rfl rfl rfl) rfl <| .p (opAssign (.c _)) rfl <| .p (opAssign (.t rfl)) rfl <| .nil ?_)
                refine EndT.thenN ?_
                refine CodeT.ret (EndT.blkR (EndT.thenR (Post.retR rfl rfl () trivial (fun _ _ _ _ => trivial) rfl (.cons (.rt rfl) ?_ (.cons (.rt rfl) ?_ .nil)))))
                · first | (refine VLe.trans (sliceV_nil 1 encU8) (VLe.of_eq ?_); unfold takesR; repeat (first | rfl | rw [if_pos (by assumption)] | rw [if_neg (by assumption)])) | (refine VLe.of_eq ?_; unfold takesR; repeat (first | rfl | rw [if_pos (by assumption)] | rw [if_neg (by assumption)]))
                · first | (refine VLe.trans (sliceV_nil 1 encU8) (VLe.of_eq ?_); unfold takesR; repeat (first | rfl | rw [if_pos (by assumption)] | rw [if_neg (by assumption)])) | (refine VLe.of_eq ?_; unfold takesR; repeat (first | rfl | rw [if_pos (by assumption)] | rw [if_neg (by assumption)]))
              ·
                refine CodeT.seq ?_
                refine CodeT.region (.p (opMove (.t rfl)) rfl <| .p (opEql (.t rfl) (.c _)) rfl <| .p (opMove (.t rfl)) rfl <| .g (OpG.gF rfl rfl rfl rfl (fun hg => opMove (.t rfl))) rfl rfl <| .g (OpG.gF rfl rfl rfl rfl (fun hg => opEql (.when (.t rfl) hg) (.c _))) rfl rfl <| .p (opOr (.t rfl) (.t rfl)) rfl <| .p (opAssign (.t rfl)) rfl <| .nil ?_)
                refine EndT.thenN ?_
                refine CodeT.cond (.t rfl) (fun c7 => ?_) (fun c7 => ?_)
                ·
                  refine CodeT.seq ?_
                  refine CodeT.region (.p (opMove (.t rfl)) rfl <| .p (opBuildSlice (enc := encU8) [126] Try.underlying37 Try.cz5 rfl Try.zb5 rfl (.cons (.t rfl) .nil) rfl rfl rfl rfl rfl) rfl <| .p (opMove (.t rfl)) rfl <| .p (opBuildSlice (enc := encU8) [127] Try.underlying37 Try.cz5 rfl Try.zb5 rfl (.cons (.t rfl) .nil) rfl rfl rfl rfl rfl) rfl <| .p (opAssign (.t rfl)) rfl <| .p (opAssign (.t rfl)) rfl <| .nil ?_)
                  refine EndT.thenN ?_
                  refine CodeT.ret (EndT.blkR (EndT.thenR (Post.retR rfl rfl () trivial (fun _ _ _ _ => trivial) rfl (.cons (.rt rfl) ?_ (.cons (.rt rfl) ?_ .nil)))))
                  · first | (refine VLe.trans (sliceV_nil 1 encU8) (VLe.of_eq ?_); unfold takesR; repeat (first | rfl | rw [if_pos (by assumption)] | rw [if_neg (by assumption)])) | (refine VLe.of_eq ?_; unfold takesR; repeat (first | rfl | rw [if_pos (by assumption)] | rw [if_neg (by assumption)]))
                  · first | (refine VLe.trans (sliceV_nil 1 encU8) (VLe.of_eq ?_); unfold takesR; repeat (first | rfl | rw [if_pos (by assumption)] | rw [if_neg (by assumption)])) | (refine VLe.of_eq ?_; unfold takesR; repeat (first | rfl | rw [if_pos (by assumption)] | rw [if_neg (by assumption)]))
                ·
                  refine CodeT.seq ?_
                  refine CodeT.region (.p (opMove (.t rfl)) rfl <| .p (opGeq (.t rfl) (.c _)) rfl <| .p (opMove (.t rfl)) rfl <| .g (OpG.gT rfl rfl rfl rfl (fun hg => opMove (.t rfl))) rfl rfl <| .g (OpG.gT rfl rfl rfl rfl (fun hg => opLeq (.when (.t rfl) hg) (.c _))) rfl rfl <| .p (opAnd (.t rfl) (.t rfl)) rfl <| .p (opMove (.t rfl)) rfl <| .g (OpG.gF rfl rfl rfl rfl (fun hg => opMove (.t rfl))) rfl rfl <| .g (OpG.gF rfl rfl rfl rfl (fun hg => opGeq (.when (.t rfl) hg) (.c _))) rfl rfl <| .g (OpG.gF rfl rfl rfl rfl (fun hg => opMove (.when (.t rfl) hg))) rfl rfl <| .g (OpG.hT rfl rfl rfl rfl (fun hg => opMove (.t rfl))) rfl rfl <| .g (OpG.hT rfl rfl rfl rfl (fun hg => opLeq (.when (.t rfl) hg) (.c _))) rfl rfl <| .g (OpG.gF rfl rfl rfl rfl (fun hg => opAnd (.when (.t rfl) hg) (.under (.t rfl) hg))) rfl rfl <| .p (opOr (.t rfl) (.t rfl)) rfl <| .p (opAssign (.t rfl)) rfl <| .nil ?_)
                  refine EndT.thenN ?_
                  refine CodeT.cond (.t rfl) (fun c8 => ?_) (fun c8 => ?_)
                  ·
                    refine CodeT.seq ?_
                    refine CodeT.region (.p (opMove (.t rfl)) rfl <| .p (opMove (.t rfl)) rfl <| .p (opBuildSlice (enc := encU8) [127, 127] Try.underlying37 Try.cz5 rfl Try.zb5 rfl (.cons (.t rfl) (.cons (.t rfl) .nil)) rfl rfl rfl rfl rfl) rfl <| .p (opMove (.t rfl)) rfl <| .p (opBuildSlice (enc := encU8) [127] Try.underlying37 Try.cz5 rfl Try.zb5 rfl (.cons (.t rfl) .nil) rfl rfl rfl rfl rfl) rfl <| .p (opAssign (.t rfl)) rfl <| .p (opAssign (.t rfl)) rfl <| .nil ?_)
                    refine EndT.thenN ?_
                    refine CodeT.ret (EndT.blkR (EndT.thenR (Post.retR rfl rfl () trivial (fun _ _ _ _ => trivial) rfl (.cons (.rt rfl) ?_ (.cons (.rt rfl) ?_ .nil)))))
                    · first | (refine VLe.trans (sliceV_nil 1 encU8) (VLe.of_eq ?_); unfold takesR; repeat (first | rfl | rw [if_pos (by assumption)] | rw [if_neg (by assumption)])) | (refine VLe.of_eq ?_; unfold takesR; repeat (first | rfl | rw [if_pos (by assumption)] | rw [if_neg (by assumption)]))
                    · first | (refine VLe.trans (sliceV_nil 1 encU8) (VLe.of_eq ?_); unfold takesR; repeat (first | rfl | rw [if_pos (by assumption)] | rw [if_neg (by assumption)])) | (refine VLe.of_eq ?_; unfold takesR; repeat (first | rfl | rw [if_pos (by assumption)] | rw [if_neg (by assumption)]))
                  ·
                    refine CodeT.seq ?_
                    refine CodeT.region (.p (opMove (.t rfl)) rfl <| .p (opGeq (.t rfl) (.c _)) rfl <| .p (opMove (.t rfl)) rfl <| .g (OpG.gT rfl rfl rfl rfl (fun hg => opMove (.t rfl))) rfl rfl <| .g (OpG.gT rfl rfl rfl rfl (fun hg => opLeq (.when (.t rfl) hg) (.c _))) rfl rfl <| .p (opAnd (.t rfl) (.t rfl)) rfl <| .p (opAssign (.t rfl)) rfl <| .nil ?_)
                    refine EndT.thenN ?_
                    refine CodeT.cond (.t rfl) (fun c9 => ?_) (fun c9 => ?_)
                    ·
                      refine CodeT.seq ?_
                      refine CodeT.region (.p (opMove (.t rfl)) rfl <| .p (opMove (.t rfl)) rfl <| .p (opBuildSlice (enc := encU8) [126, 126] Try.underlying37 Try.cz5 rfl Try.zb5 rfl (.cons (.t rfl) (.cons (.t rfl) .nil)) rfl rfl rfl rfl rfl) rfl <| .p (opMove (.t rfl)) rfl <| .p (opBuildSlice (enc := encU8) [127] Try.underlying37 Try.cz5 rfl Try.zb5 rfl (.cons (.t rfl) .nil) rfl rfl rfl rfl rfl) rfl <| .p (opAssign (.t rfl)) rfl <| .p (opAssign (.t rfl)) rfl <| .nil ?_)
                      refine EndT.thenN ?_
                      refine CodeT.ret (EndT.blkR (EndT.thenR (Post.retR rfl rfl () trivial (fun _ _ _ _ => trivial) rfl (.cons (.rt rfl) ?_ (.cons (.rt rfl) ?_ .nil)))))
                      · first | (refine VLe.trans (sliceV_nil 1 encU8) (VLe.of_eq ?_); unfold takesR; repeat (first | rfl | rw [if_pos (by assumption)] | rw [if_neg (by assumption)])) | (refine VLe.of_eq ?_; unfold takesR; repeat (first | rfl | rw [if_pos (by assumption)] | rw [if_neg (by assumption)]))
                      · first | (refine VLe.trans (sliceV_nil 1 encU8) (VLe.of_eq ?_); unfold takesR; repeat (first | rfl | rw [if_pos (by assumption)] | rw [if_neg (by assumption)])) | (refine VLe.of_eq ?_; unfold takesR; repeat (first | rfl | rw [if_pos (by assumption)] | rw [if_neg (by assumption)]))
                    ·
                      refine CodeT.seq ?_
                      refine CodeT.region (.p (opMove (.t rfl)) rfl <| .p (opGeq (.t rfl) (.c _)) rfl <| .p (opMove (.t rfl)) rfl <| .g (OpG.gT rfl rfl rfl rfl (fun hg => opMove (.t rfl))) rfl rfl <| .g (OpG.gT rfl rfl rfl rfl (fun hg => opLeq (.when (.t rfl) hg) (.c _))) rfl rfl <| .p (opAnd (.t rfl) (.t rfl)) rfl <| .p (opAssign (.t rfl)) rfl <| .nil ?_)
                      refine EndT.thenN ?_
                      refine CodeT.cond (.t rfl) (fun c10 => ?_) (fun c10 => ?_)
                      ·
                        refine CodeT.seq ?_
                        refine CodeT.region (.p (opMove (.t rfl)) rfl <| .p (opMove (.t rfl)) rfl <| .p (opBuildSlice (enc := encU8) [126, 126] Try.underlying37 Try.cz5 rfl Try.zb5 rfl (.cons (.t rfl) (.cons (.t rfl) .nil)) rfl rfl rfl rfl rfl) rfl <| .p (opMove (.t rfl)) rfl <| .p (opBuildSlice (enc := encU8) [126] Try.underlying37 Try.cz5 rfl Try.zb5 rfl (.cons (.t rfl) .nil) rfl rfl rfl rfl rfl) rfl <| .p (opAssign (.t rfl)) rfl <| .p (opAssign (.t rfl)) rfl <| .nil ?_)
                        refine EndT.thenN ?_
                        refine CodeT.ret (EndT.blkR (EndT.thenR (Post.retR rfl rfl () trivial (fun _ _ _ _ => trivial) rfl (.cons (.rt rfl) ?_ (.cons (.rt rfl) ?_ .nil)))))
                        · first | (refine VLe.trans (sliceV_nil 1 encU8) (VLe.of_eq ?_); unfold takesR; repeat (first | rfl | rw [if_pos (by assumption)] | rw [if_neg (by assumption)])) | (refine VLe.of_eq ?_; unfold takesR; repeat (first | rfl | rw [if_pos (by assumption)] | rw [if_neg (by assumption)]))
                        · first | (refine VLe.trans (sliceV_nil 1 encU8) (VLe.of_eq ?_); unfold takesR; repeat (first | rfl | rw [if_pos (by assumption)] | rw [if_neg (by assumption)])) | (refine VLe.of_eq ?_; unfold takesR; repeat (first | rfl | rw [if_pos (by assumption)] | rw [if_neg (by assumption)]))
                      ·
                        refine CodeT.seq ?_
                        refine CodeT.region (.p (opMove (.t rfl)) rfl <| .p (opEql (.t rfl) (.c _)) rfl <| .p (opMove (.t rfl)) rfl <| .g (OpG.gF rfl rfl rfl rfl (fun hg => opMove (.t rfl))) rfl rfl <| .g (OpG.gF rfl rfl rfl rfl (fun hg => opEql (.when (.t rfl) hg) (.c _))) rfl rfl <| .p (opOr (.t rfl) (.t rfl)) rfl <| .p (opAssign (.t rfl)) rfl <| .nil ?_)
                        refine EndT.thenN ?_
                        refine CodeT.cond (.t rfl) (fun c11 => ?_) (fun c11 => ?_)
                        ·
                          refine CodeT.seq ?_
                          refine CodeT.region (.p (opMove (.t rfl)) rfl <| .p (opBuildSlice (enc := encU8) [127] Try.underlying37 Try.cz5 rfl Try.zb5 rfl (.cons (.t rfl) .nil) rfl rfl rfl rfl rfl) rfl <| .p (opMove (.t rfl)) rfl <| .p (opBuildSlice (enc := encU8) [126] Try.underlying37 Try.cz5 rfl Try.zb5 rfl (.cons (.t rfl) .nil) rfl rfl rfl rfl rfl) rfl <| .p (opAssign (.t rfl)) rfl <| .p (opAssign (.t rfl)) rfl <| .nil ?_)
                          refine EndT.thenN ?_
                          refine CodeT.ret (EndT.blkR (EndT.thenR (Post.retR rfl rfl () trivial (fun _ _ _ _ => trivial) rfl (.cons (.rt rfl) ?_ (.cons (.rt rfl) ?_ .nil)))))
                          · first | (refine VLe.trans (sliceV_nil 1 encU8) (VLe.of_eq ?_); unfold takesR; repeat (first | rfl | rw [if_pos (by assumption)] | rw [if_neg (by assumption)])) | (refine VLe.of_eq ?_; unfold takesR; repeat (first | rfl | rw [if_pos (by assumption)] | rw [if_neg (by assumption)]))
                          · first | (refine VLe.trans (sliceV_nil 1 encU8) (VLe.of_eq ?_); unfold takesR; repeat (first | rfl | rw [if_pos (by assumption)] | rw [if_neg (by assumption)])) | (refine VLe.of_eq ?_; unfold takesR; repeat (first | rfl | rw [if_pos (by assumption)] | rw [if_neg (by assumption)]))
                        ·
                          refine CodeT.seq ?_
                          refine CodeT.region (.p (opMove (.t rfl)) rfl <| .p (opGeq (.t rfl) (.c _)) rfl <| .p (opMove (.t rfl)) rfl <| .g (OpG.gT rfl rfl rfl rfl (fun hg => opMove (.t rfl))) rfl rfl <| .g (OpG.gT rfl rfl rfl rfl (fun hg => opLeq (.when (.t rfl) hg) (.c _))) rfl rfl <| .p (opAnd (.t rfl) (.t rfl)) rfl <| .p (opMove (.t rfl)) rfl <| .g (OpG.gF rfl rfl rfl rfl (fun hg => opMove (.t rfl))) rfl rfl <| .g (OpG.gF rfl rfl rfl rfl (fun hg => opGeq (.when (.t rfl) hg) (.c _))) rfl rfl <| .g (OpG.gF rfl rfl rfl rfl (fun hg => opMove (.when (.t rfl) hg))) rfl rfl <| .g (OpG.hT rfl rfl rfl rfl (fun hg => opMove (.t rfl))) rfl rfl <| .g (OpG.hT rfl rfl rfl rfl (fun hg => opLeq (.when (.t rfl) hg) (.c _))) rfl rfl <| .g (OpG.gF rfl rfl rfl rfl (fun hg => opAnd (.when (.t rfl) hg) (.under (.t rfl) hg))) rfl rfl <| .p (opOr (.t rfl) (.t rfl)) rfl <| .p (opAssign (.t rfl)) rfl <| .nil ?_)
                          refine EndT.thenN ?_
                          refine CodeT.cond (.t rfl) (fun c12 => ?_) (fun c12 => ?_)
                          ·
                            refine CodeT.seq ?_
                            refine CodeT.region (.p (opMove (.t rfl)) rfl <| .p (opBuildSlice (enc := encU8) [126] Try.underlying37 Try.cz5 rfl Try.zb5 rfl (.cons (.t rfl) .nil) rfl rfl rfl rfl rfl) rfl <| .p (opMove (.t rfl)) rfl <| .p (opBuildSlice (enc := encU8) [126] Try.underlying37 Try.cz5 rfl Try.zb5 rfl (.cons (.t rfl) .nil) rfl rfl rfl rfl rfl) rfl <| .p (opAssign (.t rfl)) rfl <| .p (opAssign (.t rfl)) rfl <| .nil ?_)
                            refine EndT.thenN ?_
                            refine CodeT.ret (EndT.blkR (EndT.thenR (Post.retR rfl rfl () trivial (fun _ _ _ _ => trivial) rfl (.cons (.rt rfl) ?_ (.cons (.rt rfl) ?_ .nil)))))
                            · first | (refine VLe.trans (sliceV_nil 1 encU8) (VLe.of_eq ?_); unfold takesR; repeat (first | rfl | rw [if_pos (by assumption)] | rw [if_neg (by assumption)])) | (refine VLe.of_eq ?_; unfold takesR; repeat (first | rfl | rw [if_pos (by assumption)] | rw [if_neg (by assumption)]))
                            · first | (refine VLe.trans (sliceV_nil 1 encU8) (VLe.of_eq ?_); unfold takesR; repeat (first | rfl | rw [if_pos (by assumption)] | rw [if_neg (by assumption)])) | (refine VLe.of_eq ?_; unfold takesR; repeat (first | rfl | rw [if_pos (by assumption)] | rw [if_neg (by assumption)]))
                          ·
                            refine CodeT.seq ?_
                            refine CodeT.region (.p (opMove (.t rfl)) rfl <| .p (opGeq (.t rfl) (.c _)) rfl <| .p (opAssign (.t rfl)) rfl <| .nil ?_)
                            refine EndT.thenN ?_
                            refine CodeT.cond (.t rfl) (fun c13 => ?_) (fun c13 => ?_)
                            ·
                              refine CodeT.seq ?_
                              refine CodeT.region (.p (opMove (.t rfl)) rfl <| .p (opMove (.t rfl)) rfl <| .p (opMove (.t rfl)) rfl <| .p (opBuildSlice (enc := encU8) [127, 127, 127] Try.underlying37 Try.cz5 rfl Try.zb5 rfl (.cons (.t rfl) (.cons (.t rfl) (.cons (.t rfl) .nil))) rfl rfl rfl rfl rfl) rfl <| .p (opAssign (.t rfl)) rfl <| .p (opAssign (.c _)) rfl <| .nil ?_)
                              refine EndT.thenN ?_
                              refine CodeT.ret (EndT.blkR (EndT.thenR (Post.retR rfl rfl () trivial (fun _ _ _ _ => trivial) rfl (.cons (.rt rfl) ?_ (.cons (.rt rfl) ?_ .nil)))))
                              · first | (refine VLe.trans (sliceV_nil 1 encU8) (VLe.of_eq ?_); unfold takesR; repeat (first | rfl | rw [if_pos (by assumption)] | rw [if_neg (by assumption)])) | (refine VLe.of_eq ?_; unfold takesR; repeat (first | rfl | rw [if_pos (by assumption)] | rw [if_neg (by assumption)]))
                              · first | (refine VLe.trans (sliceV_nil 1 encU8) (VLe.of_eq ?_); unfold takesR; repeat (first | rfl | rw [if_pos (by assumption)] | rw [if_neg (by assumption)])) | (refine VLe.of_eq ?_; unfold takesR; repeat (first | rfl | rw [if_pos (by assumption)] | rw [if_neg (by assumption)]))
                            ·
                              refine CodeT.skip (EndT.blkN (EndT.thenN ?_))
                              refine CodeT.seq ?_
                              refine CodeT.region (.p (opMove (.t rfl)) rfl <| .p (opBuildSlice (enc := encU8) [127] Try.underlying37 Try.cz5 rfl Try.zb5 rfl (.cons (.t rfl) .nil) rfl rfl rfl rfl rfl) rfl <| .p (opMove (.t rfl)) rfl <| .p (opBuildSlice (enc := encU8) [127] Try.underlying37 Try.cz5 rfl Try.zb5 rfl (.cons (.t rfl) .nil) rfl rfl rfl rfl rfl) rfl <| .p (opAssign (.t rfl)) rfl <| .p (opAssign (.t rfl)) rfl <| .nil ?_)
                              refine EndT.thenN ?_
                              refine CodeT.ret (Post.retR rfl rfl () trivial (fun _ _ _ _ => trivial) rfl (.cons (.rt rfl) ?_ (.cons (.rt rfl) ?_ .nil)))
                              · first | (refine VLe.trans (sliceV_nil 1 encU8) (VLe.of_eq ?_); unfold takesR; repeat (first | rfl | rw [if_pos (by assumption)] | rw [if_neg (by assumption)])) | (refine VLe.of_eq ?_; unfold takesR; repeat (first | rfl | rw [if_pos (by assumption)] | rw [if_neg (by assumption)]))
                              · first | (refine VLe.trans (sliceV_nil 1 encU8) (VLe.of_eq ?_); unfold takesR; repeat (first | rfl | rw [if_pos (by assumption)] | rw [if_neg (by assumption)])) | (refine VLe.of_eq ?_; unfold takesR; repeat (first | rfl | rw [if_pos (by assumption)] | rw [if_neg (by assumption)]))

theorem rwidth_spec {code : Int} : FnP Try.prog 17 [intV .i64 code] (intV .i64 (widthR code)) := by
  refine FnE.intro 27 Try.func17 rfl rfl rfl fun w0 S0 M => ?_
  refine CodeT.seq ?_
  refine CodeT.region (.p (opAssign (.c _)) rfl <| .nil ?_)
  refine EndT.thenN ?_
  refine CodeT.seq ?_
  refine CodeT.seq ?_
  refine CodeT.region (.p (opMove (.t rfl)) rfl <| .nil ?_)
  refine EndT.thenN ?_
  refine CodeT.block ?_
  refine CodeT.cut (σ := Unit) (fun _ => []) (fun _ => [(4, propV (code = 40 ∨ code = 52 ∨ code = 53 ∨ code = 54 ∨ code = 62))]) (fun _ => True) ?_ ?_
  ·
    refine CodeT.seq ?_
    refine CodeT.region (.p (opEql (.t rfl) (.c _)) rfl <| .p (opAssign (.t rfl)) rfl <| .nil ?_)
    refine EndT.thenN ?_
    refine CodeT.cond (.t rfl) (fun c0 => ?_) (fun c0 => ?_)
    ·
      refine CodeT.skip (EndT.meet () trivial rfl (.get rfl (VLe.prop (by omega)) (.keep 2 rfl rfl)))
    ·
      refine CodeT.seq ?_
      refine CodeT.region (.p (opEql (.t rfl) (.c _)) rfl <| .p (opAssign (.t rfl)) rfl <| .nil ?_)
      refine EndT.thenN ?_
      refine CodeT.cond (.t rfl) (fun c1 => ?_) (fun c1 => ?_)
      ·
        refine CodeT.skip (EndT.meet () trivial rfl (.get rfl (VLe.prop (by omega)) (.keep 4 rfl rfl)))
      ·
        refine CodeT.seq ?_
        refine CodeT.region (.p (opEql (.t rfl) (.c _)) rfl <| .p (opAssign (.t rfl)) rfl <| .nil ?_)
        refine EndT.thenN ?_
        refine CodeT.cond (.t rfl) (fun c2 => ?_) (fun c2 => ?_)
        ·
          refine CodeT.skip (EndT.meet () trivial rfl (.get rfl (VLe.prop (by omega)) (.keep 6 rfl rfl)))
        ·
          refine CodeT.seq ?_
          refine CodeT.region (.p (opEql (.t rfl) (.c _)) rfl <| .p (opAssign (.t rfl)) rfl <| .nil ?_)
          refine EndT.thenN ?_
          refine CodeT.cond (.t rfl) (fun c3 => ?_) (fun c3 => ?_)
          ·
            refine CodeT.skip (EndT.meet () trivial rfl (.get rfl (VLe.prop (by omega)) (.keep 8 rfl rfl)))
          ·
            refine CodeT.region (.p (opEql (.t rfl) (.c _)) rfl <| .p (opAssign (.t rfl)) rfl <| .nil ?_)
            refine EndT.meet () trivial rfl (.get rfl (VLe.prop (by omega)) (.keep 10 rfl rfl))
  ·
    intro _ _
    refine CodeT.cond (.t rfl) (fun c4 => ?_) (fun c4 => ?_)
    ·
      refine CodeT.seq ?_
      refine CodeT.region (.p (opAssign (.c _)) rfl <| .nil ?_)
      refine EndT.thenN ?_
      refine CodeT.ret (EndT.blkR (EndT.thenR (Post.retP rfl rfl ?_)))
      exact VLe.int (by unfold widthR; repeat (first | rfl | rw [if_pos (by assumption)] | rw [if_neg (by assumption)]))
    ·
      refine CodeT.cut (σ := Unit) (fun _ => []) (fun _ => [(10, propV (code = 41 ∨ code = 55))]) (fun _ => True) ?_ ?_
      ·
        refine CodeT.seq ?_
        refine CodeT.region (.p (opEql (.t rfl) (.c _)) rfl <| .p (opAssign (.t rfl)) rfl <| .nil ?_)
        refine EndT.thenN ?_
        refine CodeT.cond (.t rfl) (fun c5 => ?_) (fun c5 => ?_)
        ·
          refine CodeT.skip (EndT.meet () trivial rfl (.get rfl (VLe.prop (by omega)) (.keep 2 rfl rfl)))
        ·
          refine CodeT.region (.p (opEql (.t rfl) (.c _)) rfl <| .p (opAssign (.t rfl)) rfl <| .nil ?_)
          refine EndT.meet () trivial rfl (.get rfl (VLe.prop (by omega)) (.keep 4 rfl rfl))
      ·
        intro _ _
        refine CodeT.cond (.t rfl) (fun c6 => ?_) (fun c6 => ?_)
        ·
          refine CodeT.seq ?_
          refine CodeT.region (.p (opAssign (.c _)) rfl <| .nil ?_)
          refine EndT.thenN ?_
          refine CodeT.ret (EndT.blkR (EndT.thenR (Post.retP rfl rfl ?_)))
          exact VLe.int (by unfold widthR; repeat (first | rfl | rw [if_pos (by assumption)] | rw [if_neg (by assumption)]))
        ·
          refine CodeT.cut (σ := Unit) (fun _ => []) (fun _ => [(13, propV (code = 44 ∨ code = 45 ∨ code = 48 ∨ code = 49 ∨ code = 58 ∨ code = 60))]) (fun _ => True) ?_ ?_
          ·
            refine CodeT.seq ?_
            refine CodeT.region (.p (opEql (.t rfl) (.c _)) rfl <| .p (opAssign (.t rfl)) rfl <| .nil ?_)
            refine EndT.thenN ?_
            refine CodeT.cond (.t rfl) (fun c7 => ?_) (fun c7 => ?_)
            ·
              refine CodeT.skip (EndT.meet () trivial rfl (.get rfl (VLe.prop (by omega)) (.keep 2 rfl rfl)))
            ·
              refine CodeT.seq ?_
              refine CodeT.region (.p (opEql (.t rfl) (.c _)) rfl <| .p (opAssign (.t rfl)) rfl <| .nil ?_)
              refine EndT.thenN ?_
              refine CodeT.cond (.t rfl) (fun c8 => ?_) (fun c8 => ?_)
              ·
                refine CodeT.skip (EndT.meet () trivial rfl (.get rfl (VLe.prop (by omega)) (.keep 4 rfl rfl)))
              ·
                refine CodeT.seq ?_
                refine CodeT.region (.p (opEql (.t rfl) (.c _)) rfl <| .p (opAssign (.t rfl)) rfl <| .nil ?_)
                refine EndT.thenN ?_
                refine CodeT.cond (.t rfl) (fun c9 => ?_) (fun c9 => ?_)
                ·
                  refine CodeT.skip (EndT.meet () trivial rfl (.get rfl (VLe.prop (by omega)) (.keep 6 rfl rfl)))
                ·
                  refine CodeT.seq ?_
                  refine CodeT.region (.p (opEql (.t rfl) (.c _)) rfl <| .p (opAssign (.t rfl)) rfl <| .nil ?_)
                  refine EndT.thenN ?_
                  refine CodeT.cond (.t rfl) (fun c10 => ?_) (fun c10 => ?_)
                  ·
                    refine CodeT.skip (EndT.meet () trivial rfl (.get rfl (VLe.prop (by omega)) (.keep 8 rfl rfl)))
                  ·
                    refine CodeT.seq ?_
                    refine CodeT.region (.p (opEql (.t rfl) (.c _)) rfl <| .p (opAssign (.t rfl)) rfl <| .nil ?_)
                    refine EndT.thenN ?_
                    refine CodeT.cond (.t rfl) (fun c11 => ?_) (fun c11 => ?_)
                    ·
                      refine CodeT.skip (EndT.meet () trivial rfl (.get rfl (VLe.prop (by omega)) (.keep 10 rfl rfl)))
                    ·
                      refine CodeT.region (.p (opEql (.t rfl) (.c _)) rfl <| .p (opAssign (.t rfl)) rfl <| .nil ?_)
                      refine EndT.meet () trivial rfl (.get rfl (VLe.prop (by omega)) (.keep 12 rfl rfl))
          ·
            intro _ _
            refine CodeT.cond (.t rfl) (fun c12 => ?_) (fun c12 => ?_)
            ·
              refine CodeT.seq ?_
              refine CodeT.region (.p (opAssign (.c _)) rfl <| .nil ?_)
              refine EndT.thenN ?_
              refine CodeT.ret (EndT.blkR (EndT.thenR (Post.retP rfl rfl ?_)))
              exact VLe.int (by unfold widthR; repeat (first | rfl | rw [if_pos (by assumption)] | rw [if_neg (by assumption)]))
            ·
              refine CodeT.cut (σ := Unit) (fun _ => []) (fun _ => [(20, propV (code = 46 ∨ code = 47 ∨ code = 50 ∨ code = 51 ∨ code = 59 ∨ code = 61))]) (fun _ => True) ?_ ?_
              ·
                refine CodeT.seq ?_
                refine CodeT.region (.p (opEql (.t rfl) (.c _)) rfl <| .p (opAssign (.t rfl)) rfl <| .nil ?_)
                refine EndT.thenN ?_
                refine CodeT.cond (.t rfl) (fun c13 => ?_) (fun c13 => ?_)
                ·
                  refine CodeT.skip (EndT.meet () trivial rfl (.get rfl (VLe.prop (by omega)) (.keep 2 rfl rfl)))
                ·
                  refine CodeT.seq ?_
                  refine CodeT.region (.p (opEql (.t rfl) (.c _)) rfl <| .p (opAssign (.t rfl)) rfl <| .nil ?_)
                  refine EndT.thenN ?_
                  refine CodeT.cond (.t rfl) (fun c14 => ?_) (fun c14 => ?_)
                  ·
                    refine CodeT.skip (EndT.meet () trivial rfl (.get rfl (VLe.prop (by omega)) (.keep 4 rfl rfl)))
                  ·
                    refine CodeT.seq ?_
                    refine CodeT.region (.p (opEql (.t rfl) (.c _)) rfl <| .p (opAssign (.t rfl)) rfl <| .nil ?_)
                    refine EndT.thenN ?_
                    refine CodeT.cond (.t rfl) (fun c15 => ?_) (fun c15 => ?_)
                    ·
                      refine CodeT.skip (EndT.meet () trivial rfl (.get rfl (VLe.prop (by omega)) (.keep 6 rfl rfl)))
                    ·
                      refine CodeT.seq ?_
                      refine CodeT.region (.p (opEql (.t rfl) (.c _)) rfl <| .p (opAssign (.t rfl)) rfl <| .nil ?_)
                      refine EndT.thenN ?_
                      refine CodeT.cond (.t rfl) (fun c16 => ?_) (fun c16 => ?_)
                      ·
                        refine CodeT.skip (EndT.meet () trivial rfl (.get rfl (VLe.prop (by omega)) (.keep 8 rfl rfl)))
                      ·
                        refine CodeT.seq ?_
                        refine CodeT.region (.p (opEql (.t rfl) (.c _)) rfl <| .p (opAssign (.t rfl)) rfl <| .nil ?_)
                        refine EndT.thenN ?_
                        refine CodeT.cond (.t rfl) (fun c17 => ?_) (fun c17 => ?_)
                        ·
                          refine CodeT.skip (EndT.meet () trivial rfl (.get rfl (VLe.prop (by omega)) (.keep 10 rfl rfl)))
                        ·
                          refine CodeT.region (.p (opEql (.t rfl) (.c _)) rfl <| .p (opAssign (.t rfl)) rfl <| .nil ?_)
                          refine EndT.meet () trivial rfl (.get rfl (VLe.prop (by omega)) (.keep 12 rfl rfl))
              ·
                intro _ _
                refine CodeT.cond (.t rfl) (fun c18 => ?_) (fun c18 => ?_)
                ·
                  refine CodeT.seq ?_
                  refine CodeT.region (.p (opAssign (.c _)) rfl <| .nil ?_)
                  refine EndT.thenN ?_
                  refine CodeT.ret (EndT.blkR (EndT.thenR (Post.retP rfl rfl ?_)))
                  exact VLe.int (by unfold widthR; repeat (first | rfl | rw [if_pos (by assumption)] | rw [if_neg (by assumption)]))
                ·
                  refine CodeT.skip (EndT.blkN (EndT.thenN ?_))
                  refine CodeT.seq ?_
                  refine CodeT.region (.p (opAssign (.c _)) rfl <| .nil ?_)
                  refine EndT.thenN ?_
                  refine CodeT.ret (Post.retP rfl rfl ?_)
                  exact VLe.int (by unfold widthR; repeat (first | rfl | rw [if_pos (by assumption)] | rw [if_neg (by assumption)]))

theorem rforeign_spec {code : Int} : FnP Try.prog 19 [intV .i64 code] (propV (foreignR code)) := by
  refine FnE.intro 64 Try.func19 rfl rfl rfl fun w0 S0 M => ?_
  refine CodeT.seq ?_
  refine CodeT.region (.p (opAssign .cf) rfl <| .nil ?_)
  refine EndT.thenN ?_
  refine CodeT.seq ?_
  refine CodeT.seq ?_
  refine CodeT.region (.p (opMove (.t rfl)) rfl <| .nil ?_)
  refine EndT.thenN ?_
  refine CodeT.block ?_
  refine CodeT.cut (σ := Unit) (fun _ => []) (fun _ => [(4, propV (code = 28 ∨ code = 37 ∨ code = 38 ∨ code = 42 ∨ code = 43 ∨ code = 56 ∨ code = 57 ∨ code = 67 ∨ code = 68 ∨ code = 208 ∨ code = 209 ∨ code = 210 ∨ code = 253))]) (fun _ => True) ?_ ?_
  ·
    refine CodeT.seq ?_
    refine CodeT.region (.p (opEql (.t rfl) (.c _)) rfl <| .p (opAssign (.t rfl)) rfl <| .nil ?_)
    refine EndT.thenN ?_
    refine CodeT.cond (.t rfl) (fun c0 => ?_) (fun c0 => ?_)
    ·
      refine CodeT.skip (EndT.meet () trivial rfl (.get rfl (VLe.prop (by omega)) (.keep 2 rfl rfl)))
    ·
      refine CodeT.seq ?_
      refine CodeT.region (.p (opEql (.t rfl) (.c _)) rfl <| .p (opAssign (.t rfl)) rfl <| .nil ?_)
      refine EndT.thenN ?_
      refine CodeT.cond (.t rfl) (fun c1 => ?_) (fun c1 => ?_)
      ·
        refine CodeT.skip (EndT.meet () trivial rfl (.get rfl (VLe.prop (by omega)) (.keep 4 rfl rfl)))
      ·
        refine CodeT.seq ?_
        refine CodeT.region (.p (opEql (.t rfl) (.c _)) rfl <| .p (opAssign (.t rfl)) rfl <| .nil ?_)
        refine EndT.thenN ?_
        refine CodeT.cond (.t rfl) (fun c2 => ?_) (fun c2 => ?_)
        ·
          refine CodeT.skip (EndT.meet () trivial rfl (.get rfl (VLe.prop (by omega)) (.keep 6 rfl rfl)))
        ·
          refine CodeT.seq ?_
          refine CodeT.region (.p (opEql (.t rfl) (.c _)) rfl <| .p (opAssign (.t rfl)) rfl <| .nil ?_)
          refine EndT.thenN ?_
          refine CodeT.cond (.t rfl) (fun c3 => ?_) (fun c3 => ?_)
          ·
            refine CodeT.skip (EndT.meet () trivial rfl (.get rfl (VLe.prop (by omega)) (.keep 8 rfl rfl)))
          ·
            refine CodeT.seq ?_
            refine CodeT.region (.p (opEql (.t rfl) (.c _)) rfl <| .p (opAssign (.t rfl)) rfl <| .nil ?_)
            refine EndT.thenN ?_
            refine CodeT.cond (.t rfl) (fun c4 => ?_) (fun c4 => ?_)
            ·
              refine CodeT.skip (EndT.meet () trivial rfl (.get rfl (VLe.prop (by omega)) (.keep 10 rfl rfl)))
            ·
              refine CodeT.seq ?_
              refine CodeT.region (.p (opEql (.t rfl) (.c _)) rfl <| .p (opAssign (.t rfl)) rfl <| .nil ?_)
              refine EndT.thenN ?_
              refine CodeT.cond (.t rfl) (fun c5 => ?_) (fun c5 => ?_)
              ·
                refine CodeT.skip (EndT.meet () trivial rfl (.get rfl (VLe.prop (by omega)) (.keep 12 rfl rfl)))
              ·
                refine CodeT.seq ?_
                refine CodeT.region (.p (opEql (.t rfl) (.c _)) rfl <| .p (opAssign (.t rfl)) rfl <| .nil ?_)
                refine EndT.thenN ?_
                refine CodeT.cond (.t rfl) (fun c6 => ?_) (fun c6 => ?_)
                ·
                  refine CodeT.skip (EndT.meet () trivial rfl (.get rfl (VLe.prop (by omega)) (.keep 14 rfl rfl)))
                ·
                  refine CodeT.seq ?_
                  refine CodeT.region (.p (opEql (.t rfl) (.c _)) rfl <| .p (opAssign (.t rfl)) rfl <| .nil ?_)
                  refine EndT.thenN ?_
                  refine CodeT.cond (.t rfl) (fun c7 => ?_) (fun c7 => ?_)
                  ·
                    refine CodeT.skip (EndT.meet () trivial rfl (.get rfl (VLe.prop (by omega)) (.keep 16 rfl rfl)))
                  ·
                    refine CodeT.seq ?_
                    refine CodeT.region (.p (opEql (.t rfl) (.c _)) rfl <| .p (opAssign (.t rfl)) rfl <| .nil ?_)
                    refine EndT.thenN ?_
                    refine CodeT.cond (.t rfl) (fun c8 => ?_) (fun c8 => ?_)
                    ·
                      refine CodeT.skip (EndT.meet () trivial rfl (.get rfl (VLe.prop (by omega)) (.keep 18 rfl rfl)))
                    ·
                      refine CodeT.seq ?_
                      refine CodeT.region (.p (opEql (.t rfl) (.c _)) rfl <| .p (opAssign (.t rfl)) rfl <| .nil ?_)
                      refine EndT.thenN ?_
                      refine CodeT.cond (.t rfl) (fun c9 => ?_) (fun c9 => ?_)
                      ·
                        refine CodeT.skip (EndT.meet () trivial rfl (.get rfl (VLe.prop (by omega)) (.keep 20 rfl rfl)))
                      ·
                        refine CodeT.seq ?_
                        refine CodeT.region (.p (opEql (.t rfl) (.c _)) rfl <| .p (opAssign (.t rfl)) rfl <| .nil ?_)
                        refine EndT.thenN ?_
                        refine CodeT.cond (.t rfl) (fun c10 => ?_) (fun c10 => ?_)
                        ·
                          refine CodeT.skip (EndT.meet () trivial rfl (.get rfl (VLe.prop (by omega)) (.keep 22 rfl rfl)))
                        ·
                          refine CodeT.seq ?_
                          refine CodeT.region (.p (opEql (.t rfl) (.c _)) rfl <| .p (opAssign (.t rfl)) rfl <| .nil ?_)
                          refine EndT.thenN ?_
                          refine CodeT.cond (.t rfl) (fun c11 => ?_) (fun c11 => ?_)
                          ·
                            refine CodeT.skip (EndT.meet () trivial rfl (.get rfl (VLe.prop (by omega)) (.keep 24 rfl rfl)))
                          ·
                            refine CodeT.region (.p (opEql (.t rfl) (.c _)) rfl <| .p (opAssign (.t rfl)) rfl <| .nil ?_)
                            refine EndT.meet () trivial rfl (.get rfl (VLe.prop (by omega)) (.keep 26 rfl rfl))
  ·
    intro _ _
    refine CodeT.cond (.t rfl) (fun c12 => ?_) (fun c12 => ?_)
    ·
      refine CodeT.seq ?_
      refine CodeT.region (.p (opAssign .ct) rfl <| .nil ?_)
      refine EndT.thenN ?_
      refine CodeT.ret (EndT.blkR (EndT.thenR (Post.retP rfl rfl ?_)))
      exact VLe.prop ⟨fun _ => .inl (by assumption), fun _ => trivial⟩
    ·
      refine CodeT.skip (EndT.blkN (EndT.thenN ?_))
      refine CodeT.seq ?_
      refine CodeT.region (.p (opMove (.t rfl)) rfl <| .p (opGeq (.t rfl) (.c _)) rfl <| .p (opMove (.t rfl)) rfl <| .g (OpG.gT rfl rfl rfl rfl (fun hg => opMove (.t rfl))) rfl rfl <| .g (OpG.gT rfl rfl rfl rfl (fun hg => opLeq (.when (.t rfl) hg) (.c _))) rfl rfl <| .p (opAnd (.t rfl) (.t rfl)) rfl <| .p (opMove (.t rfl)) rfl <| .g (OpG.gF rfl rfl rfl rfl (fun hg => opMove (.t rfl))) rfl rfl <| .g (OpG.gF rfl rfl rfl rfl (fun hg => opGeq (.when (.t rfl) hg) (.c _))) rfl rfl <| .g (OpG.gF rfl rfl rfl rfl (fun hg => opMove (.when (.t rfl) hg))) rfl rfl <| .g (OpG.hT rfl rfl rfl rfl (fun hg => opMove (.t rfl))) rfl rfl <| .g (OpG.hT rfl rfl rfl rfl (fun hg => opLeq (.when (.t rfl) hg) (.c _))) rfl rfl <| .g (OpG.gF rfl rfl rfl rfl (fun hg => opAnd (.when (.t rfl) hg) (.under (.t rfl) hg))) rfl rfl <| .p (opOr (.t rfl) (.t rfl)) rfl <| .p (opMove (.t rfl)) rfl <| .g (OpG.gF rfl rfl rfl rfl (fun hg => opMove (.t rfl))) rfl rfl <| .g (OpG.gF rfl rfl rfl rfl (fun hg => opGeq (.when (.t rfl) hg) (.c _))) rfl rfl <| .g (OpG.gF rfl rfl rfl rfl (fun hg => opMove (.when (.t rfl) hg))) rfl rfl <| .g (OpG.hT rfl rfl rfl rfl (fun hg => opMove (.t rfl))) rfl rfl <| .g (OpG.hT rfl rfl rfl rfl (fun hg => opLeq (.when (.t rfl) hg) (.c _))) rfl rfl <| .g (OpG.gF rfl rfl rfl rfl (fun hg => opAnd (.when (.t rfl) hg) (.under (.t rfl) hg))) rfl rfl <| .p (opOr (.t rfl) (.t rfl)) rfl <| .p (opMove (.t rfl)) rfl <| .g (OpG.gF rfl rfl rfl rfl (fun hg => opMove (.t rfl))) rfl rfl <| .g (OpG.gF rfl rfl rfl rfl (fun hg => opGeq (.when (.t rfl) hg) (.c _))) rfl rfl <| .g (OpG.gF rfl rfl rfl rfl (fun hg => opMove (.when (.t rfl) hg))) rfl rfl <| .g (OpG.hT rfl rfl rfl rfl (fun hg => opMove (.t rfl))) rfl rfl <| .g (OpG.hT rfl rfl rfl rfl (fun hg => opLeq (.when (.t rfl) hg) (.c _))) rfl rfl <| .g (OpG.gF rfl rfl rfl rfl (fun hg => opAnd (.when (.t rfl) hg) (.under (.t rfl) hg))) rfl rfl <| .p (opOr (.t rfl) (.t rfl)) rfl <| .p (opMove (.t rfl)) rfl <| .g (OpG.gF rfl rfl rfl rfl (fun hg => opMove (.t rfl))) rfl rfl <| .g (OpG.gF rfl rfl rfl rfl (fun hg => opGeq (.when (.t rfl) hg) (.c _))) rfl rfl <| .g (OpG.gF rfl rfl rfl rfl (fun hg => opMove (.when (.t rfl) hg))) rfl rfl <| .g (OpG.hT rfl rfl rfl rfl (fun hg => opMove (.t rfl))) rfl rfl <| .g (OpG.hT rfl rfl rfl rfl (fun hg => opLeq (.when (.t rfl) hg) (.c _))) rfl rfl <| .g (OpG.gF rfl rfl rfl rfl (fun hg => opAnd (.when (.t rfl) hg) (.under (.t rfl) hg))) rfl rfl <| .p (opOr (.t rfl) (.t rfl)) rfl <| .p (opMove (.t rfl)) rfl <| .g (OpG.gF rfl rfl rfl rfl (fun hg => opMove (.t rfl))) rfl rfl <| .g (OpG.gF rfl rfl rfl rfl (fun hg => opGeq (.when (.t rfl) hg) (.c _))) rfl rfl <| .g (OpG.gF rfl rfl rfl rfl (fun hg => opMove (.when (.t rfl) hg))) rfl rfl <| .g (OpG.hT rfl rfl rfl rfl (fun hg => opMove (.t rfl))) rfl rfl <| .g (OpG.hT rfl rfl rfl rfl (fun hg => opLeq (.when (.t rfl) hg) (.c _))) rfl rfl <| .g (OpG.gF rfl rfl rfl rfl (fun hg => opAnd (.when (.t rfl) hg) (.under (.t rfl) hg))) rfl rfl <| .p (opOr (.t rfl) (.t rfl)) rfl <| .p (opAssign (.t rfl)) rfl <| .nil ?_)
      refine EndT.thenN ?_
      refine CodeT.ret (Post.retP rfl rfl ?_)
      exact VLe.prop (by unfold foreignR; omega)

end Go.Proofs.Ytjojlppmnebhgaa
