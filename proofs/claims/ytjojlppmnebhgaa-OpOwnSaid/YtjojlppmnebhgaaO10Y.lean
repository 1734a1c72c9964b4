/-
  Walks, printed by a program (gen.py) out of what its author says of each function.
-/
import Derived.Test.YtjojlppmnebhgaaO10S
import Derived.Test.YtjojlppmnebhgaaO10X
import Derived.Test.YtjojlppmnebhgaaHlT
namespace Go.Proofs.Ytjojlppmnebhgaa
open Go.Hl Go.RowKit
set_option linter.unusedVariables false
set_option maxRecDepth 100000

set_option maxHeartbeats 1000000 in
theorem all_spec  : FnP Try.prog 12 [] (sliceV 5 encInfo allT) := by
  refine FnE.intro 58 Try.func12 rfl rfl rfl fun w0 S0 M => ?_
  refine CodeT.seq ?_
  refine CodeT.region (.p (opAssign (.c _)) rfl <| .nil ?_)
  refine EndT.thenN ?_
  refine CodeT.seq ?_
  refine CodeT.region (.p (opAssign (.c _)) rfl <| .nil ?_)
  refine EndT.thenN ?_
  refine CodeT.seq ?_
  refine CodeT.seq ?_
  refine CodeT.region (.p (opCall (rows_spec) Try.cb24 .nil) rfl <| .p (opMove (.c _)) rfl <| .nil ?_)
  refine EndT.thenN ?_
  refine CodeT.block ?_
  refine CodeT.ownNil 5 encInfo ?_
  refine CodeT.loopO (σ := Nat × SB × List InfoD) (fun s => [sliceH s.2.1 5 encInfo s.2.2]) (fun s => [(12, intV .i64 (s.1 : Int)), (1, exactV (sval s.2.1 s.2.2.length))]) (fun s => s.1 ≤ rowsT.length ∧ s.2.2 = (rowsT.take s.1).map infoOf ∧ s.2.2.length ≤ s.1) (fun s => rowsT.length - s.1) (0, none, []) ⟨by simp, rfl, by simp⟩ rfl ?_ ?_
  · exact (.get rfl (VLe.refl _) (.get rfl (VLe.of_eq rfl) (.refl _ _)))
  · rintro s ⟨hsk, hsl, hsn⟩
    refine CodeT.seq ?_
    refine CodeT.region (.p (opLss (.t rfl) (.c _)) rfl <| .nil ?_)
    refine EndT.thenN ?_
    refine CodeT.seq ?_
    refine CodeT.cond (.t rfl) (fun c0 => ?_) (fun c0 => ?_)
    ·
      have hlt : s.1 < rowsT.length := by have : rowsT.length = 47 := rfl; omega
      have h47 : rowsT.length = 47 := rfl
      obtain ⟨r, hxk⟩ := getElem?_lt (xs := rowsT) (k := s.1) hlt
      have hro : RowOk r := rows_ascii r (List.mem_of_getElem? hxk)
      refine CodeT.skip (EndT.thenN ?_)
      refine CodeT.seq ?_
      refine CodeT.block ?_
      refine CodeT.seq ?_
      refine CodeT.region (.p (opIndexA rowsT Try.underlying57 Try.cz53 rfl Try.ag53 (.t rfl) rfl rfl (.t rfl) rfl (by assumption)) rfl <| .n (opAlloc Try.zb53) rfl <| fun b3 _ => .s (opStoreOA (i := 0) Try.cz53 rfl (.t rfl) (.t rfl) rfl rfl rfl) <| .nil ?_)
      refine EndT.thenN ?_
      refine CodeT.share (t := 3) (i := 0) rfl rfl ?_
      refine CodeT.region (.p (opMove (.t rfl)) rfl <| .p (opLoadA Try.ag53 Try.cz53 rfl (.t rfl) rfl) rfl <| .p (opCall (info_spec hro) Try.cb23 (.cons (.t rfl) .nil)) rfl <| .p (opBuildSlice (enc := encInfo) [infoOf r] Try.underlying35 Try.cz31 rfl Try.zb31 rfl (.cons (.t rfl) .nil) rfl rfl rfl rfl rfl) rfl <| .n (opAppend (i := 0) Try.underlying35 Try.underlying35 Try.cz31 rfl Try.zb31 rfl Try.by31 (.t rfl) (.t rfl) rfl (by simp only [List.length_cons, List.length_nil]; omega) (by simp only [List.length_cons, List.length_nil]; omega)) rfl <| fun g19 _ => .p (opAssign (.t rfl)) rfl <| .nil ?_)
      refine EndT.blkN (EndT.thenN ?_)
      refine CodeT.region (.p (opAddF (.t rfl) (.c _) (fits_i64 (by omega) (by omega))) rfl <| .p (opMove (.t rfl)) rfl <| .nil ?_)
      refine EndT.round (s.1 + 1, g19, s.2.2 ++ [infoOf r]) ⟨by simp only []; omega, by simp only [hsl]; rw [snoc_map hxk], by simp only [List.length_append, List.length_cons, List.length_nil]; omega⟩ (by omega) rfl ?_
      exact (.get rfl (VLe.int (by simp only []; omega)) (.get rfl (VLe.refl _) ((.keep 14 rfl rfl))))
    ·
      have h47 : rowsT.length = 47 := rfl
      have hsall : rowsT.take s.1 = rowsT := List.take_of_length_le (by omega)
      refine CodeT.exit (EndT.thenX (EndT.thenX (EndT.blkX (EndT.thenN ?_))))
      refine CodeT.seq ?_
      refine CodeT.seq ?_
      refine CodeT.region (.p (opCall (late_spec) Try.cb25 .nil) rfl <| .p (opMove (.c _)) rfl <| .nil ?_)
      refine EndT.thenN ?_
      refine CodeT.block ?_
      refine CodeT.loopO (σ := Nat × SB × List InfoD) (fun s => [sliceH s.2.1 5 encInfo s.2.2]) (fun u => [(22, intV .i64 (u.1 : Int)), (1, exactV (sval u.2.1 u.2.2.length))]) (fun u => u.1 ≤ lateT.length ∧ u.2.2 = rowsT.map infoOf ++ (lateT.take u.1).map infoOf ∧ u.2.2.length ≤ 47 + u.1) (fun u => lateT.length - u.1) (0, s.2.1, s.2.2) ⟨by simp, by simp only [hsl, hsall]; simp, by simp only []; omega⟩ rfl ?_ ?_
      · exact (.get rfl (VLe.refl _) (.get rfl (VLe.refl _) (.refl _ _)))
      · rintro u ⟨huk, hul, hun⟩
        refine CodeT.seq ?_
        refine CodeT.region (.p (opLss (.t rfl) (.c _)) rfl <| .nil ?_)
        refine EndT.thenN ?_
        refine CodeT.seq ?_
        refine CodeT.cond (.t rfl) (fun c1 => ?_) (fun c1 => ?_)
        ·
          have h6 : lateT.length = 6 := rfl
          have hlt : u.1 < lateT.length := by omega
          obtain ⟨r, hxk⟩ := getElem?_lt (xs := lateT) (k := u.1) hlt
          have hro : RowOk r := late_ascii r (List.mem_of_getElem? hxk)
          refine CodeT.skip (EndT.thenN ?_)
          refine CodeT.seq ?_
          refine CodeT.block ?_
          refine CodeT.seq ?_
          refine CodeT.region (.p (opIndexA lateT Try.underlying59 Try.cz53 rfl Try.ag53 (.t rfl) rfl rfl (.t rfl) rfl (by assumption)) rfl <| .n (opAlloc Try.zb53) rfl <| fun b5 _ => .s (opStoreOA (i := 0) Try.cz53 rfl (.t rfl) (.t rfl) rfl rfl rfl) <| .nil ?_)
          refine EndT.thenN ?_
          refine CodeT.share (t := 5) (i := 0) rfl rfl ?_
          refine CodeT.region (.p (opMove (.t rfl)) rfl <| .p (opLoadA Try.ag53 Try.cz53 rfl (.t rfl) rfl) rfl <| .p (opCall (info_spec hro) Try.cb23 (.cons (.t rfl) .nil)) rfl <| .p (opBuildSlice (enc := encInfo) [infoOf r] Try.underlying35 Try.cz31 rfl Try.zb31 rfl (.cons (.t rfl) .nil) rfl rfl rfl rfl rfl) rfl <| .n (opAppend (i := 0) Try.underlying35 Try.underlying35 Try.cz31 rfl Try.zb31 rfl Try.by31 (.t rfl) (.t rfl) rfl (by simp only [List.length_cons, List.length_nil]; omega) (by simp only [List.length_cons, List.length_nil]; omega)) rfl <| fun g29 _ => .p (opAssign (.t rfl)) rfl <| .nil ?_)
          refine EndT.blkN (EndT.thenN ?_)
          refine CodeT.region (.p (opAddF (.t rfl) (.c _) (fits_i64 (by omega) (by omega))) rfl <| .p (opMove (.t rfl)) rfl <| .nil ?_)
          refine EndT.round (u.1 + 1, g29, u.2.2 ++ [infoOf r]) ⟨by simp only []; omega, by simp only [hul]; rw [snoc_map hxk, List.append_assoc], by simp only [List.length_append, List.length_cons, List.length_nil]; omega⟩ (by omega) rfl ?_
          exact (.get rfl (VLe.int (by simp only []; omega)) (.get rfl (VLe.refl _) ((.keep 14 rfl rfl))))
        ·
          have h6 : lateT.length = 6 := rfl
          have huall : lateT.take u.1 = lateT := List.take_of_length_le (by omega)
          refine CodeT.exit (EndT.thenX (EndT.thenX (EndT.blkX (EndT.thenN ?_))))
          refine CodeT.seq ?_
          refine CodeT.seq ?_
          refine CodeT.region (.p (opCall (spans_spec) Try.cb21 .nil) rfl <| .p (opMove (.c _)) rfl <| .nil ?_)
          refine EndT.thenN ?_
          refine CodeT.block ?_
          refine CodeT.loopO (σ := Nat × SB × List InfoD) (fun s => [sliceH s.2.1 5 encInfo s.2.2]) (fun v => [(32, intV .i64 (v.1 : Int)), (1, exactV (sval v.2.1 v.2.2.length))]) (fun v => v.1 ≤ spansT.length ∧ v.2.2 = (rowsT.map infoOf ++ lateT.map infoOf) ++ ((spansT.take v.1).flatMap spanRows).map infoOf ∧ v.2.2.length ≤ 53 + 20 * v.1) (fun v => spansT.length - v.1) (0, u.2.1, u.2.2) ⟨by simp, by simp only [hul, huall]; simp, by simp only []; omega⟩ rfl ?_ ?_
          · exact (.get rfl (VLe.refl _) (.get rfl (VLe.refl _) (.refl _ _)))
          · rintro v ⟨hvk, hvl, hvn⟩
            refine CodeT.seq ?_
            refine CodeT.region (.p (opLss (.t rfl) (.c _)) rfl <| .nil ?_)
            refine EndT.thenN ?_
            refine CodeT.seq ?_
            refine CodeT.cond (.t rfl) (fun c2 => ?_) (fun c2 => ?_)
            ·
              have h8 : spansT.length = 8 := rfl
              have hlt : v.1 < spansT.length := by omega
              obtain ⟨x, hxk⟩ := getElem?_lt (xs := spansT) (k := v.1) hlt
              have hxm := List.mem_of_getElem? hxk
              have hb := spans_bd x hxm
              refine CodeT.skip (EndT.thenN ?_)
              refine CodeT.seq ?_
              refine CodeT.block ?_
              refine CodeT.seq ?_
              refine CodeT.region (.p (opIndexA spansT Try.underlying50 Try.cz49 rfl Try.ag49 (.t rfl) rfl rfl (.t rfl) rfl (by assumption)) rfl <| .n (opAlloc Try.zb49) rfl <| fun b7 _ => .s (opStoreOA (i := 0) Try.cz49 rfl (.t rfl) (.t rfl) rfl rfl rfl) <| .nil ?_)
              refine EndT.thenN ?_
              refine CodeT.share (t := 7) (i := 0) rfl rfl ?_
              refine CodeT.seq ?_
              refine CodeT.region (.p (opField Try.fd49_1 (.t rfl)) rfl <| .p (opLoad Try.ag3 (.t rfl)) rfl <| .p (opMove (.c _)) rfl <| .nil ?_)
              refine EndT.thenN ?_
              refine CodeT.block ?_
              refine CodeT.loopO (σ := Nat × SB × List InfoD) (fun s => [sliceH s.2.1 5 encInfo s.2.2]) (fun z => [(37, intV .i64 (z.1 : Int)), (1, exactV (sval z.2.1 z.2.2.length))]) (fun z => z.1 ≤ x.many.toNat ∧ z.2.2 = v.2.2 ++ spanPre x z.1 ∧ z.2.2.length ≤ v.2.2.length + z.1) (fun z => x.many.toNat - z.1) (0, v.2.1, v.2.2) ⟨by simp, by simp [spanPre], by simp⟩ rfl ?_ ?_
              · exact (.get rfl (VLe.refl _) (.get rfl (VLe.refl _) (.refl _ _)))
              · rintro z ⟨hzk, hzl, hzn⟩
                refine CodeT.seq ?_
                refine CodeT.region (.p (opLss (.t rfl) (.t rfl)) rfl <| .nil ?_)
                refine EndT.thenN ?_
                refine CodeT.seq ?_
                refine CodeT.cond (.t rfl) (fun c3 => ?_) (fun c3 => ?_)
                ·
                  have hzi : z.1 < x.many.toNat := by omega
                  obtain ⟨r, hnr, hro⟩ := num_some hxm hzi
                  refine CodeT.skip (EndT.thenN ?_)
                  refine CodeT.seq ?_
                  refine CodeT.block ?_
                  refine CodeT.seq ?_
                  refine CodeT.region (.p (opMove (.t rfl)) rfl <| .p (opAssign (.t rfl)) rfl <| .nil ?_)
                  refine EndT.thenN ?_
                  refine CodeT.seq ?_
                  refine CodeT.region (.p (opField Try.fd49_0 (.t rfl)) rfl <| .p (opLoad Try.ag3 (.t rfl)) rfl <| .p (opMove (.t rfl)) rfl <| .p (opAddF (.t rfl) (.t rfl) (fits_i64 (by omega) (by omega))) rfl <| .p (opCall (numbered_spec) Try.cb26 (.cons (.t rfl) .nil)) rfl <| .p (opMove (.t rfl)) rfl <| .p (opExtract (.t rfl) rfl) rfl <| .p (opExtract (.t rfl) rfl) rfl <| .n (opAlloc Try.zb53) rfl <| fun b9 _ => .s (opStoreOA (i := 0) Try.cz53 rfl (.t rfl) (.t rfl) rfl rfl rfl) <| .p (opAssign (.t rfl)) rfl <| .nil ?_)
                  refine EndT.thenN ?_
                  refine CodeT.share (t := 9) (i := 0) rfl rfl ?_
                  simp only [hnr, Option.getD_some]
                  refine CodeT.region (.p (opMove (.t rfl)) rfl <| .p (opLoadA Try.ag53 Try.cz53 rfl (.t rfl) rfl) rfl <| .p (opCall (info_spec hro) Try.cb23 (.cons (.t rfl) .nil)) rfl <| .p (opBuildSlice (enc := encInfo) [infoOf r] Try.underlying35 Try.cz31 rfl Try.zb31 rfl (.cons (.t rfl) .nil) rfl rfl rfl rfl rfl) rfl <| .n (opAppend (i := 0) Try.underlying35 Try.underlying35 Try.cz31 rfl Try.zb31 rfl Try.by31 (.t rfl) (.t rfl) rfl (by simp only [List.length_cons, List.length_nil]; omega) (by simp only [List.length_cons, List.length_nil]; omega)) rfl <| fun g52 _ => .p (opAssign (.t rfl)) rfl <| .nil ?_)
                  refine EndT.blkN (EndT.thenN ?_)
                  refine CodeT.region (.p (opAddF (.t rfl) (.c _) (fits_i64 (by omega) (by omega))) rfl <| .p (opMove (.t rfl)) rfl <| .nil ?_)
                  refine EndT.round (z.1 + 1, g52, z.2.2 ++ [infoOf r]) ⟨by simp only []; omega, by simp only [hzl]; rw [spanPre_snoc hnr, List.append_assoc], by simp only [List.length_append, List.length_cons, List.length_nil]; omega⟩ (by omega) rfl ?_
                  exact (.get rfl (VLe.int (by simp only []; omega)) (.get rfl (VLe.refl _) ((.keep 24 rfl rfl))))
                ·
                  have hzall : z.1 = x.many.toNat := by omega
                  refine CodeT.exit (EndT.thenX (EndT.thenX (EndT.blkX (EndT.blkN (EndT.thenN ?_)))))
                  refine CodeT.region (.p (opAddF (.t rfl) (.c _) (fits_i64 (by omega) (by omega))) rfl <| .p (opMove (.t rfl)) rfl <| .nil ?_)
                  refine EndT.round (v.1 + 1, z.2.1, z.2.2) ⟨by simp only []; omega, by simp only [hzl, hzall, spanPre_all, hvl]; rw [← take_snoc hxk, List.flatMap_append, List.map_append, List.append_assoc]; simp, by simp only []; omega⟩ (by omega) rfl ?_
                  exact (.get rfl (VLe.int (by simp only []; omega)) (.get rfl (VLe.refl _) ((.keep 14 rfl rfl))))
            ·
              have h8 : spansT.length = 8 := rfl
              have hvall : spansT.take v.1 = spansT := List.take_of_length_le (by omega)
              rw [hvall] at hvl
              have hvm : v.2.2 = madeT := hvl
              refine CodeT.sliceSome 0 rfl (by rw [hvm]; exact made_ne) fun bb cap hbc => ?_
              obtain ⟨v1, v2, v3⟩ := v
              simp only at hbc hvm ⊢
              subst hbc
              refine CodeT.exit (EndT.thenX (EndT.thenX (EndT.blkX (EndT.thenN ?_))))
              refine CodeT.seq ?_
              refine CodeT.region (.p (opMove (.t rfl)) rfl <| .n (opCallE (rest := []) (sortInfo_spec (fun x hx => made_codes x (hvm ▸ hx))) Try.cb27 (.cons (.t rfl) (.cons (.f _) .nil)) (List.Perm.refl _)) rfl <| fun ys hys => .nil ?_)
              refine EndT.thenN ?_
              have hyl : v3.length = ys.length := hys.1.length_eq.symm
              rw [hyl]
              obtain rfl : ys = allT := all_uniq hvm hys.1 hys.2
              refine CodeT.shareS (n := 5) (enc := encInfo) (i := 0) (t := 1) rfl rfl ?_
              refine CodeT.seq ?_
              refine CodeT.region (.p (opMove (.t rfl)) rfl <| .p (opAssign (.t rfl)) rfl <| .nil ?_)
              refine EndT.thenN ?_
              refine CodeT.ret (Post.retP rfl rfl ?_)
              exact VLe.refl _

theorem idxInfo_spec {l : List InfoD} {p : InfoD → Prop} : FnP Try.prog 30 [sliceV 5 encInfo l, funV Try.prog (fun _ : InfoD => True) (fun x => [aggV (encInfo x)]) (fun x => propV (p x))] (intV .i64 (idxF p l)) := by
  refine FnE.intro 19 Try.func30 rfl rfl rfl fun w0 S0 M => ?_
  refine CodeT.fact (t := 0) rfl (fun S w v h => sliceV_len h) fun hlen => ?_
  refine CodeT.seq ?_
  refine CodeT.region (.p (opAssign (.c _)) rfl <| .nil ?_)
  refine EndT.thenN ?_
  refine CodeT.seq ?_
  refine CodeT.seq ?_
  refine CodeT.region (.p (opMove (.t rfl)) rfl <| .p (opLen rfl Try.underlying35 (.t rfl)) rfl <| .p (opMove (.c _)) rfl <| .nil ?_)
  refine EndT.thenN ?_
  refine CodeT.block ?_
  refine CodeT.loopO (σ := Nat) (fun _ => []) (fun k => [(8, intV .i64 (k : Int))]) (fun k => k ≤ l.length ∧ NotB p l k) (fun k => l.length - k) 0 ⟨by omega, NotB.zero p l⟩ rfl ?_ ?_
  · exact (.get rfl (VLe.refl _) (.refl _ _))
  · rintro k ⟨hk, hnot⟩
    refine CodeT.seq ?_
    refine CodeT.region (.p (opLss (.t rfl) (.t rfl)) rfl <| .nil ?_)
    refine EndT.thenN ?_
    refine CodeT.seq ?_
    refine CodeT.cond (.t rfl) (fun c0 => ?_) (fun c0 => ?_)
    ·
      obtain ⟨x, hx⟩ := getElem?_lt (xs := l) (k := k) (by omega)
      refine CodeT.skip (EndT.thenN ?_)
      refine CodeT.seq ?_
      refine CodeT.block ?_
      refine CodeT.seq ?_
      refine CodeT.region (.p (opMove (.t rfl)) rfl <| .p (opAssign (.t rfl)) rfl <| .nil ?_)
      refine EndT.thenN ?_
      refine CodeT.seq ?_
      refine CodeT.region (.p (opMove (.t rfl)) rfl <| .p (opMove (.t rfl)) rfl <| .p (opMove (.t rfl)) rfl <| .p (opIndexAddr Try.underlying35 Try.cz31 rfl (.t rfl) (.t rfl) rfl (by assumption)) rfl <| .p (opLoadA Try.ag31 Try.cz31 rfl (.t rfl) rfl) rfl <| .p (opCallV x (.t rfl) trivial (.cons (.t rfl) .nil)) rfl <| .nil ?_)
      refine EndT.thenN ?_
      refine CodeT.cond (.t rfl) (fun c1 => ?_) (fun c1 => ?_)
      ·
        refine CodeT.seq ?_
        refine CodeT.region (.p (opMove (.t rfl)) rfl <| .p (opAssign (.t rfl)) rfl <| .nil ?_)
        refine EndT.thenN ?_
        refine CodeT.ret (EndT.blkR (EndT.thenR (EndT.thenR (EndT.blkR (EndT.thenR (Post.retP rfl rfl ?_))))))
        exact VLe.int (idxF_at hx (by assumption) hnot).symm
      ·
        refine CodeT.skip (EndT.blkN (EndT.thenN ?_))
        refine CodeT.region (.p (opAddF (.t rfl) (.c _) (fits_i64 (by omega) (by omega))) rfl <| .p (opMove (.t rfl)) rfl <| .nil ?_)
        refine EndT.round (k + 1) ⟨by omega, hnot.succ hx (by assumption)⟩ (by omega) rfl ?_
        exact (.get rfl (VLe.int (by omega)) (.keep 12 rfl rfl))
    ·
      refine CodeT.exit (EndT.thenX (EndT.thenX (EndT.blkX (EndT.thenN ?_))))
      refine CodeT.seq ?_
      refine CodeT.region (.p (opAssign (.c _)) rfl <| .nil ?_)
      refine EndT.thenN ?_
      refine CodeT.ret (Post.retP rfl rfl ?_)
      exact VLe.int (idxF_none (hnot.all (by omega))).symm

end Go.Proofs.Ytjojlppmnebhgaa
