/-
  Walks, printed by a program (gen.py) out of what its author says of each function.
-/
import Derived.Test.YtiicgelmdmhajaaDoorP08S
import Derived.Test.YtiicgelmdmhajaaDoorP08F
namespace Go.Proofs.YtiicgelmdmhajaaDoor
open Go.Hl Go.RowKit
set_option linter.unusedVariables false
set_option maxRecDepth 100000

theorem rbeyond_spec {r : RM} {a o n : Nat} (hp0 : r.pages ≤ 65536) (hp1 : a < 18446744073709551616) (hp2 : o < 18446744073709551616) (hp3 : n < 18446744073709551616) : FnP Tryd.prog 29 [aggV (encRM r), intV .u64 (a : Int), intV .u64 (o : Int), intV .u64 (n : Int)] (propV (beyondS r.pages (a + o) n)) := by
  refine FnE.intro 33 Tryd.func29 rfl rfl rfl fun w0 S0 M => ?_
  refine CodeT.seq ?_
  refine CodeT.region (.p (opBoxA (.t rfl)) rfl <| .p (opAssign .cf) rfl <| .nil ?_)
  refine EndT.thenN ?_
  refine CodeT.seq ?_
  refine CodeT.region (.p (opField Tryd.fd63_0 (.t rfl)) rfl <| .p (opLoad Tryd.ag3 (.t rfl)) rfl <| .p (opConvF Tryd.underlying3 Tryd.underlying46 (.t rfl) (fits_u64 (by omega) (by omega))) rfl <| .p (opMulF (.t rfl) (.c _) (fits_u64 (by omega) (by omega))) rfl <| .p (opAssign (.t rfl)) rfl <| .nil ?_)
  refine EndT.thenN ?_
  refine CodeT.seq ?_
  refine CodeT.region (.p (opMove (.t rfl)) rfl <| .p (opMove (.t rfl)) rfl <| .p (opGtr (.t rfl) (.t rfl)) rfl <| .p (opMove (.t rfl)) rfl <| .g (OpG.gF rfl rfl rfl rfl (fun hg => opMove (.t rfl))) rfl rfl <| .g (OpG.gF rfl rfl rfl rfl (fun hg => opMove (.t rfl))) rfl rfl <| .g (OpG.gF rfl rfl rfl rfl (fun hg => opMove (.t rfl))) rfl rfl <| .g (OpG.gF rfl rfl rfl rfl (fun hg => opSubF (.when (.t rfl) hg) (.when (.t rfl) hg) (fits_u64 (by omega) (by omega)))) rfl rfl <| .g (OpG.gF rfl rfl rfl rfl (fun hg => opGtr (.when (.t rfl) hg) (.when (.t rfl) hg))) rfl rfl <| .p (opOr (.t rfl) (.t rfl)) rfl <| .p (opMove (.t rfl)) rfl <| .g (OpG.gF rfl rfl rfl rfl (fun hg => opMove (.t rfl))) rfl rfl <| .g (OpG.gF rfl rfl rfl rfl (fun hg => opMove (.t rfl))) rfl rfl <| .g (OpG.gF rfl rfl rfl rfl (fun hg => opMove (.t rfl))) rfl rfl <| .g (OpG.gF rfl rfl rfl rfl (fun hg => opSubF (.when (.t rfl) hg) (.when (.t rfl) hg) (fits_u64 (by omega) (by omega)))) rfl rfl <| .g (OpG.gF rfl rfl rfl rfl (fun hg => opMove (.t rfl))) rfl rfl <| .g (OpG.gF rfl rfl rfl rfl (fun hg => opSubF (.when (.t rfl) hg) (.when (.t rfl) hg) (fits_u64 (by omega) (by omega)))) rfl rfl <| .g (OpG.gF rfl rfl rfl rfl (fun hg => opGtr (.when (.t rfl) hg) (.when (.t rfl) hg))) rfl rfl <| .p (opOr (.t rfl) (.t rfl)) rfl <| .p (opAssign (.t rfl)) rfl <| .nil ?_)
  refine EndT.thenN ?_
  refine CodeT.ret (Post.retP rfl rfl ?_)
  exact VLe.prop (by unfold beyondS; omega)

theorem rbyte_spec {r : RM} {a : Nat} (hp0 : r.puts.length ≤ 1000) (hp1 : a < 18446744073709551616) (hp2 : ∀ p ∈ r.puts, p.2.length ≤ 1000) : FnP Tryd.prog 55 [aggV (encRM r), intV .u64 (a : Int)] (intV .u8 ((byteM r a).toNat : Int)) := by
  refine FnE.intro 57 Tryd.func55 rfl rfl rfl fun w0 S0 M => ?_
  refine CodeT.seq ?_
  refine CodeT.region (.p (opBoxA (.t rfl)) rfl <| .p (opAssign (.c _)) rfl <| .nil ?_)
  refine EndT.thenN ?_
  refine CodeT.seq ?_
  refine CodeT.seq ?_
  refine CodeT.region (.p (opField Tryd.fd63_2 (.t rfl)) rfl <| .p (opLoad Tryd.ag61 (.t rfl)) rfl <| .p (opLen rfl Tryd.underlying61 (.t rfl)) rfl <| .p (opSubF (.t rfl) (.c _) (fits_i64 (by omega) (by omega))) rfl <| .p (opAssign (.t rfl)) rfl <| .nil ?_)
  refine EndT.thenN ?_
  refine CodeT.block ?_
  refine CodeT.loopO (σ := Nat) (fun _ => []) (fun i => [(5, i64V ((i : Int) - 1))]) (fun i => i ≤ r.puts.length ∧ byteR r.puts a r.puts.length = byteR r.puts a i) (fun i => i) r.puts.length ⟨Nat.le_refl _, rfl⟩ rfl ?_ ?_
  · exact (.get rfl (VLe.refl _) (.refl _ _))
  · rintro i ⟨hi, hb⟩
    refine CodeT.seq ?_
    refine CodeT.seq ?_
    refine CodeT.region (.p (opMove (.t rfl)) rfl <| .p (opGeq (.t rfl) (.c _)) rfl <| .nil ?_)
    refine EndT.thenN ?_
    refine CodeT.cond (.t rfl) (fun c0 => ?_) (fun c0 => ?_)
    ·
      obtain ⟨j, rfl⟩ : ∃ j, i = j + 1 := ⟨i - 1, by omega⟩
      obtain ⟨p, hx⟩ := getElem?_lt (xs := r.puts) (k := j) (by omega)
      have hpl := hp2 p (List.mem_of_getElem? hx)
      refine CodeT.skip (EndT.thenN ?_)
      refine CodeT.seq ?_
      refine CodeT.block ?_
      refine CodeT.seq ?_
      refine CodeT.draw 25 2 Tryd.mixed (by kernel_rfl) (.p (opMove (.t rfl)) <| .p (opField Tryd.fd63_2 (.t rfl)) <| .p (opLoad Tryd.ag61 (.t rfl)) <| .p (opMove (.t rfl)) <| .p (opIndexAddr (j := j) Tryd.underlying61 Tryd.cz120 rfl (.t rfl) (.t rfl) (by omega) hx) <| .p (opField Tryd.fd120_0 (.t rfl)) <| .p (opLoad Tryd.ag46 (.t rfl)) <| .p (opGeq (.t rfl) (.t rfl)) <| .p (opMove (.t rfl)) <| .cons (OpG.gT rfl rfl rfl rfl (fun hg => opMove (.t rfl))) <| .cons (OpG.gT rfl rfl rfl rfl (fun hg => opField Tryd.fd63_2 (.t rfl))) <| .cons (OpG.gT rfl rfl rfl rfl (fun hg => opLoad Tryd.ag61 (.when (.t rfl) hg))) <| .cons (OpG.gT rfl rfl rfl rfl (fun hg => opMove (.t rfl))) <| .cons (OpG.gT rfl rfl rfl rfl (fun hg => opIndexAddr (j := j) Tryd.underlying61 Tryd.cz120 rfl (.when (.t rfl) hg) (.when (.t rfl) hg) (by omega) hx)) <| .cons (OpG.gT rfl rfl rfl rfl (fun hg => opField Tryd.fd120_0 (.when (.t rfl) hg))) <| .cons (OpG.gT rfl rfl rfl rfl (fun hg => opLoad Tryd.ag46 (.when (.t rfl) hg))) <| .cons (OpG.gT rfl rfl rfl rfl (fun hg => opSubF (.when (.t rfl) hg) (.when (.t rfl) hg) (fits_u64 (by omega) (by omega)))) <| .cons (OpG.gT rfl rfl rfl rfl (fun hg => opField Tryd.fd63_2 (.t rfl))) <| .cons (OpG.gT rfl rfl rfl rfl (fun hg => opLoad Tryd.ag61 (.when (.t rfl) hg))) <| .cons (OpG.gT rfl rfl rfl rfl (fun hg => opMove (.t rfl))) <| .cons (OpG.gT rfl rfl rfl rfl (fun hg => opIndexAddr (j := j) Tryd.underlying61 Tryd.cz120 rfl (.when (.t rfl) hg) (.when (.t rfl) hg) (by omega) hx)) <| .cons (OpG.gT rfl rfl rfl rfl (fun hg => opField Tryd.fd120_1 (.when (.t rfl) hg))) <| .cons (OpG.gT rfl rfl rfl rfl (fun hg => opLoad Tryd.ag22 (.when (.t rfl) hg))) <| .cons (OpG.gT rfl rfl rfl rfl (fun hg => opLen rfl Tryd.underlying22 (.when (.t rfl) hg))) <| .cons (OpG.gT rfl rfl rfl rfl (fun hg => opConvF Tryd.underlying3 Tryd.underlying46 (.when (.t rfl) hg) (fits_u64 (by omega) (by omega)))) <| .nil) (.g (OpG.gT rfl rfl rfl rfl (fun hg => opLss (.when (.t rfl) hg) (.when (.t rfl) hg))) rfl rfl <| .p (opAnd (.t rfl) (.t rfl)) rfl <| .nil ?_)
      refine EndT.thenN ?_
      refine CodeT.cond (.t rfl) (fun c1 => ?_) (fun c1 => ?_)
      ·
        have hin : inPut p a := by (unfold inPut; omega)
        obtain ⟨y, hy⟩ := getElem?_lt (xs := p.2) (k := a - p.1) (by have h9 := hin.2; omega)
        have hle := hin.1
        have hby : byteM r a = y := by (unfold byteM; rw [hb, byteR_yes hx hin, List.getD_eq_getElem?_getD, hy]; rfl)
        refine CodeT.seq ?_
        refine CodeT.draw 14 3 Tryd.mixed (by kernel_rfl) (.p (opField Tryd.fd63_2 (.t rfl)) <| .p (opLoad Tryd.ag61 (.t rfl)) <| .p (opMove (.t rfl)) <| .p (opIndexAddr (j := j) Tryd.underlying61 Tryd.cz120 rfl (.t rfl) (.t rfl) (by omega) hx) <| .p (opField Tryd.fd120_1 (.t rfl)) <| .p (opLoad Tryd.ag22 (.t rfl)) <| .p (opMove (.t rfl)) <| .p (opField Tryd.fd63_2 (.t rfl)) <| .p (opLoad Tryd.ag61 (.t rfl)) <| .p (opMove (.t rfl)) <| .p (opIndexAddr (j := j) Tryd.underlying61 Tryd.cz120 rfl (.t rfl) (.t rfl) (by omega) hx) <| .p (opField Tryd.fd120_0 (.t rfl)) <| .p (opLoad Tryd.ag46 (.t rfl)) <| .p (opSubF (.t rfl) (.t rfl) (fits_u64 (by omega) (by omega))) <| .nil) (.p (opIndexAddr (j := a - p.1) Tryd.underlying22 Tryd.cz5 rfl (.t rfl) (.t rfl) (by omega) hy) rfl <| .p (opLoad Tryd.ag5 (.t rfl)) rfl <| .p (opAssign (.t rfl)) rfl <| .nil ?_)
        refine EndT.thenN ?_
        refine CodeT.ret (EndT.blkR (EndT.thenR (EndT.thenR (EndT.blkR (EndT.thenR (Post.retP rfl rfl ?_))))))
        exact VLe.int (by rw [hby])
      ·
        refine CodeT.skip (EndT.blkN (EndT.thenN ?_))
        refine CodeT.region (.p (opMove (.t rfl)) rfl <| .p (opSubF (.t rfl) (.c _) (fits_i64 (by omega) (by omega))) rfl <| .p (opAssign (.t rfl)) rfl <| .nil ?_)
        refine EndT.round j ⟨by omega, hb.trans (byteR_no hx (fun h => c1 (by unfold inPut at h; omega)))⟩ (by omega) rfl ?_
        exact (.get rfl (VLe.int (by omega)) ((.keep 33 rfl rfl)))
    ·
      have hi0 : i = 0 := by omega
      subst hi0
      refine CodeT.exit (EndT.thenX (EndT.thenX (EndT.blkX (EndT.thenN ?_))))
      refine CodeT.seq ?_
      refine CodeT.region (.p (opAssign (.c _)) rfl <| .nil ?_)
      refine EndT.thenN ?_
      refine CodeT.ret (Post.retP rfl rfl ?_)
      exact VLe.int (by unfold byteM; rw [hb]; rfl)

theorem rread_spec {r : RM} {a n : Nat} (hp0 : r.puts.length ≤ 1000) (hp1 : a + n < 18446744073709551616) (hp2 : ∀ p ∈ r.puts, p.2.length ≤ 1000) (hp3 : n ≤ 1000) : FnP Tryd.prog 30 [aggV (encRM r), intV .u64 (a : Int), i64V (n : Int)] (sliceV 1 encU8 (readM r a n)) := by
  refine FnE.intro 24 Tryd.func30 rfl rfl rfl fun w0 S0 M => ?_
  refine CodeT.seq ?_
  refine CodeT.region (.p (opBoxA (.t rfl)) rfl <| .p (opAssign (.c _)) rfl <| .nil ?_)
  refine EndT.thenN ?_
  refine CodeT.seq ?_
  refine CodeT.region (.p (opAssign (.c _)) rfl <| .nil ?_)
  refine EndT.thenN ?_
  refine CodeT.seq ?_
  refine CodeT.seq ?_
  refine CodeT.region (.p (opAssign (.c _)) rfl <| .nil ?_)
  refine EndT.thenN ?_
  refine CodeT.block ?_
  refine CodeT.own (ownSl (n := 1) (enc := encU8)) ?_
  refine CodeT.loopO (σ := SB × Nat) (fun g => [sliceH g.1 1 encU8 (readM r a g.2)]) (fun g => [(7, exactV (sval g.1 (readM r a g.2).length)), (8, i64V (g.2 : Int))]) (fun g => g.2 ≤ n) (fun g => n - g.2) (none, 0) (Nat.zero_le _) rfl ?_ ?_
  · exact (.get rfl (VLe.refl _) (.get rfl (VLe.refl _) (.refl _ _)))
  · rintro ⟨sb, i⟩ hi
    simp only at hi ⊢
    refine CodeT.seq ?_
    refine CodeT.seq ?_
    refine CodeT.region (.p (opMove (.t rfl)) rfl <| .p (opMove (.t rfl)) rfl <| .p (opLss (.t rfl) (.t rfl)) rfl <| .nil ?_)
    refine EndT.thenN ?_
    refine CodeT.cond (.t rfl) (fun c0 => ?_) (fun c0 => ?_)
    ·
      refine CodeT.skip (EndT.thenN ?_)
      refine CodeT.seq ?_
      refine CodeT.block ?_
      refine CodeT.region (.p (opMove (.t rfl)) rfl <| .p (OpP.le (opLoadA Tryd.ag63 Tryd.cz63 rfl (.t rfl) rfl) (VLe.refl (aggV (encRM r)))) rfl <| .p (opMove (.t rfl)) rfl <| .p (opMove (.t rfl)) rfl <| .p (opConvF Tryd.underlying3 Tryd.underlying46 (.t rfl) (fits_u64 (by omega) (by omega))) rfl <| .p ((opAddF (.t rfl) (.t rfl) (fits_u64 (by omega) (by omega))).le (VLe.int (show _ = ((a + i : Nat) : Int) by omega))) rfl <| .p (opCall (rbyte_spec (r := r) (a := a + i) hp0 (by omega) hp2) Tryd.cb55 (.cons (.t rfl) (.cons (.t rfl) .nil))) rfl <| .p (opBuildSlice (enc := encU8) [byteM r (a + i)] Tryd.underlying22 Tryd.cz5 rfl Tryd.zb5 rfl (.cons (.t rfl) .nil) rfl rfl rfl rfl rfl) rfl <| .n (opAppend (i := 0) (xs := readM r a i) (ys := [byteM r (a + i)]) Tryd.underlying22 Tryd.underlying22 Tryd.cz5 rfl Tryd.zb5 rfl Tryd.by5 (.t rfl) (.t rfl) rfl (by (simp only [readM_len, List.length_cons, List.length_nil]; omega)) (by (simp only [readM_len, List.length_cons, List.length_nil]; omega))) rfl <| fun g22 _ => .p (opAssign (.t rfl)) rfl <| .nil ?_)
      refine EndT.blkN (EndT.thenN ?_)
      refine CodeT.region (.p (opMove (.t rfl)) rfl <| .p (opAddF (.t rfl) (.c _) (fits_i64 (by omega) (by omega))) rfl <| .p (opAssign (.t rfl)) rfl <| .nil ?_)
      refine EndT.round (g22, i + 1) (by show i + 1 ≤ n; omega) (by (show n - (i + 1) < n - i; omega)) (by simp only [readM_succ]; rfl) ?_
      exact (.get rfl (VLe.of_eq (by simp only [readM_succ])) (.get rfl (VLe.int (by (show (i : Int) + 1 = ((i + 1 : Nat) : Int); omega))) ((.keep 18 rfl rfl))))
    ·
      refine CodeT.exit (EndT.thenX (EndT.thenX (EndT.blkX (EndT.thenN ?_))))
      refine CodeT.seq ?_
      refine CodeT.region (.p (opMove (.t rfl)) rfl <| .p (opAssign (.t rfl)) rfl <| .nil ?_)
      refine EndT.thenN ?_
      refine CodeT.shareS (t := 6) (i := 0) rfl rfl ?_
      refine CodeT.ret (Post.retP rfl rfl ?_)
      exact VLe.of_eq (by rw [show i = n by omega])

theorem rwrite_spec {r : RM} {a : Nat} {ys : List UInt8} (hp0 : r.puts.length ≤ 1000) (hp1 : ys.length ≤ 1000) : FnP Tryd.prog 31 [aggV (encRM r), intV .u64 (a : Int), sliceV 1 encU8 ys] (aggV (encRM (writeM r a ys))) := by
  refine FnE.intro 20 Tryd.func31 rfl rfl rfl fun w0 S0 M => ?_
  refine CodeT.seq ?_
  refine CodeT.region (.n (opBoxOA (.t rfl)) rfl <| fun b3 _ => .n (opAlloc Tryd.zb63) rfl <| fun b6 _ => .nil ?_)
  refine EndT.thenN ?_
  refine CodeT.seq ?_
  refine CodeT.region (.n (opBuildSliceO encPut [] Tryd.underlying61 Tryd.cz120 rfl Tryd.zb120 rfl .nil rfl rfl rfl rfl rfl) rfl <| fun g7 _ => .p (opFieldO Tryd.fd63_2 (.t rfl)) rfl <| .p (opLoadO (i := 2) Tryd.ag61 (.t rfl) rfl rfl) rfl <| .n (opAppend (i := 0) (xs := ([] : List PutR)) (ys := r.puts) Tryd.underlying61 Tryd.underlying61 Tryd.cz120 rfl Tryd.zb120 rfl Tryd.by120 (.t rfl) (.t rfl) rfl (by (simp only [List.length_nil]; omega)) (by (simp only [List.length_nil]; omega))) rfl <| fun g10 _ => .p (opMove (.t rfl)) rfl <| .p (opBuildEmpty Tryd.underlying22 Tryd.cz5 rfl Tryd.zb5 rfl) rfl <| .p (opMove (.t rfl)) rfl <| .p (opAppendE Tryd.underlying22 Tryd.underlying22 Tryd.cz5 rfl Tryd.zb5 rfl Tryd.by5 (.t rfl) (.t rfl) (by omega)) rfl <| .p (opBuild Tryd.pl120 Tryd.zb120 (.cons (.t rfl) (.cons (.t rfl) .nil)) rfl) rfl <| .p (opBuildSlice (enc := encPut) [((a, ys) : PutR)] Tryd.underlying61 Tryd.cz120 rfl Tryd.zb120 rfl (.cons (.t rfl) .nil) rfl rfl rfl rfl rfl) rfl <| .n (opAppend (i := 0) (xs := [] ++ r.puts) (ys := [((a, ys) : PutR)]) Tryd.underlying61 Tryd.underlying61 Tryd.cz120 rfl Tryd.zb120 rfl Tryd.by120 (.t rfl) (.t rfl) rfl (by (simp only [List.nil_append, List.length_cons, List.length_nil]; omega)) (by (simp only [List.nil_append, List.length_cons, List.length_nil]; omega))) rfl <| fun g17 _ => .p (opFieldO Tryd.fd63_2 (.t rfl)) rfl <| .s (opStoreO (i := 2) Tryd.cz61 (.t rfl) (.t rfl) rfl rfl) <| .nil ?_)
  refine EndT.thenN ?_
  refine CodeT.shareIn (n := 2) (enc := encPut) (i := 0) (j := 1) (f := 2) rfl rfl rfl ?_
  refine CodeT.seq ?_
  refine CodeT.region (.p (OpP.le (opLoadOA (i := 1) Tryd.ag63 Tryd.cz63 rfl (.t rfl) rfl rfl) (VLe.refl (aggV (encRM (writeM r a ys))))) rfl <| .s (opStoreOA (i := 0) Tryd.cz63 rfl (.t rfl) (.t rfl) rfl rfl rfl) <| .nil ?_)
  refine EndT.thenN ?_
  refine CodeT.ret (Post.retR1 rfl () trivial (fun _ _ _ _ => trivial) (.ra (i := 0) Tryd.ag63 Tryd.cz63 rfl rfl rfl rfl) ?_)
  exact VLe.refl _

theorem rfill_spec {r : RM} {a n : Nat} {v : UInt8} (hp0 : r.puts.length ≤ 1000) (hp1 : n ≤ 1000) : FnP Tryd.prog 32 [aggV (encRM r), intV .u64 (a : Int), intV .u8 (v.toNat : Int), i64V (n : Int)] (aggV (encRM (writeM r a (List.replicate n v)))) := by
  refine FnE.intro 26 Tryd.func32 rfl rfl rfl fun w0 S0 M => ?_
  refine CodeT.seq ?_
  refine CodeT.region (.p (opBoxA (.t rfl)) rfl <| .n (opAlloc Tryd.zb63) rfl <| fun b8 _ => .nil ?_)
  refine EndT.thenN ?_
  refine CodeT.seq ?_
  refine CodeT.region (.p (opMove (.t rfl)) rfl <| .n (opMakeW Tryd.underlying22 Tryd.cz5 Tryd.by5 Tryd.zb5 (.t rfl) rfl (by omega)) rfl <| fun b12 _ => .p (opAssign (.t rfl)) rfl <| .nil ?_)
  refine EndT.thenN ?_
  refine CodeT.seq ?_
  refine CodeT.seq ?_
  refine CodeT.region (.p (opAssign (.c _)) rfl <| .nil ?_)
  refine EndT.thenN ?_
  refine CodeT.block ?_
  refine CodeT.loopO (σ := Nat) (fun i => [sliceH (some (b12, n)) 1 encU8 (List.replicate i v ++ List.replicate (n - i) 0), cellsH b8 [i64V 0, i64V 0, exactV (.slice none 0 0)]]) (fun i => [(10, i64V (i : Int))]) (fun i => i ≤ n) (fun i => n - i) 0 (Nat.zero_le _) rfl ?_ ?_
  · exact (.get rfl (VLe.refl _) (.refl _ _))
  · rintro i hi
    refine CodeT.seq ?_
    refine CodeT.seq ?_
    refine CodeT.region (.p (opMove (.t rfl)) rfl <| .p (opMove (.t rfl)) rfl <| .p (opLss (.t rfl) (.t rfl)) rfl <| .nil ?_)
    refine EndT.thenN ?_
    refine CodeT.cond (.t rfl) (fun c0 => ?_) (fun c0 => ?_)
    ·
      have hin : i < n := by omega
      have hxi : (List.replicate i v ++ List.replicate (n - i) (0 : UInt8))[i]? = some 0 := by (rw [List.getElem?_append_right (by simp), List.getElem?_replicate, if_pos (by simp; omega)])
      refine CodeT.skip (EndT.thenN ?_)
      refine CodeT.seq ?_
      refine CodeT.block ?_
      refine CodeT.region (.p (opMove (.t rfl)) rfl <| .p (opMove (.t rfl)) rfl <| .p (opMove (.t rfl)) rfl <| .p (opIndexAddrW i Tryd.underlying22 Tryd.cz5 rfl (.t rfl) (.t rfl) rfl hin) rfl <| .s (opStoreW (i := 0) (r := 0) v rfl Tryd.cz5 (.t rfl) (.t rfl) rfl hxi rfl rfl) <| .nil ?_)
      refine EndT.blkN (EndT.thenN ?_)
      refine CodeT.region (.p (opMove (.t rfl)) rfl <| .p (opAddF (.t rfl) (.c _) (fits_i64 (by omega) (by omega))) rfl <| .p (opAssign (.t rfl)) rfl <| .nil ?_)
      refine EndT.round (i + 1) (by omega) (by omega) (by simp only [rep_set (show i < n by omega)]; rfl) ?_
      exact (.get rfl (VLe.int (by (show (i : Int) + 1 = ((i + 1 : Nat) : Int); omega))) ((.keep 11 rfl rfl)))
    ·
      refine CodeT.exit (EndT.thenX (EndT.thenX (EndT.blkX (EndT.thenN ?_))))
      refine CodeT.seq ?_
      have hin : i = n := by omega
      subst hin
      refine CodeT.shareS (t := 9) (i := 0) rfl (by rw [show (List.replicate i v ++ List.replicate (i - i) (0 : UInt8)).length = i by simp]; rfl) ?_
      refine CodeT.region (.p (OpP.le (opLoadA Tryd.ag63 Tryd.cz63 rfl (.t rfl) rfl) (VLe.refl (aggV (encRM r)))) rfl <| .p (opMove (.t rfl)) rfl <| .p (opMove (.t rfl)) rfl <| .p (opCall (rwrite_spec (r := r) (a := a) (ys := List.replicate i v) hp0 (by simp; omega)) Tryd.cb31 (.cons (.t rfl) (.cons (.t rfl) (.cons (.le (.t rfl) (VLe.of_eq (by simp))) .nil)))) rfl <| .s (opStoreOA (i := 0) Tryd.cz63 rfl (.t rfl) (.t rfl) rfl rfl rfl) <| .nil ?_)
      refine EndT.thenN ?_
      refine CodeT.ret (Post.retR1 rfl () trivial (fun _ _ _ _ => trivial) (.ra (i := 0) Tryd.ag63 Tryd.cz63 rfl rfl rfl rfl) ?_)
      exact VLe.refl _

theorem rgrow_spec {r : RM} {n : Nat} (hp0 : r.pages ≤ 65536) (hp1 : r.most ≤ 65536) (hp2 : n < 18446744073709551616) : FnP Tryd.prog 33 [aggV (encRM r), intV .u64 (n : Int)] (tupV [aggV (encRM (growM r n).1), i64V ((growM r n).2.1 : Int), propV ((growM r n).2.2 = true)]) := by
  refine FnE.intro 28 Tryd.func33 rfl rfl rfl fun w0 S0 M => ?_
  refine CodeT.seq ?_
  refine CodeT.region (.n (opBoxOA (.t rfl)) rfl <| fun b2 _ => .n (opAlloc Tryd.zb63) rfl <| fun b4 _ => .p (opAssign (.c _)) rfl <| .p (opAssign .cf) rfl <| .nil ?_)
  refine EndT.thenN ?_
  refine CodeT.seq ?_
  refine CodeT.seq ?_
  refine CodeT.region (.p (opMove (.t rfl)) rfl <| .p (opFieldO Tryd.fd63_1 (.t rfl)) rfl <| .p (opLoadO (i := 1) Tryd.ag3 (.t rfl) rfl rfl) rfl <| .p (opFieldO Tryd.fd63_0 (.t rfl)) rfl <| .p (opLoadO (i := 1) Tryd.ag3 (.t rfl) rfl rfl) rfl <| .p (opSubF (.t rfl) (.t rfl) (fits_i64 (by omega) (by omega))) rfl <| .p (opMax (.t rfl) (.c _)) rfl <| .p (opConvF Tryd.underlying3 Tryd.underlying46 (.t rfl) (fits_u64 (by omega) (by omega))) rfl <| .p (opGtr (.t rfl) (.t rfl)) rfl <| .nil ?_)
  refine EndT.thenN ?_
  refine CodeT.cond (.t rfl) (fun c0 => ?_) (fun c0 => ?_)
  ·
    have hgr : growM r n = (r, 0, false) := by unfold growM; rw [if_pos (by omega)]
    refine CodeT.seq ?_
    refine CodeT.region (.p (OpP.le (opLoadOA (i := 1) Tryd.ag63 Tryd.cz63 rfl (.t rfl) rfl rfl) (VLe.refl (aggV (encRM r)))) rfl <| .s (opStoreOA (i := 0) Tryd.cz63 rfl (.t rfl) (.t rfl) rfl rfl rfl) <| .p (opAssign (.c _)) rfl <| .p (opAssign .cf) rfl <| .nil ?_)
    refine EndT.thenN ?_
    refine CodeT.ret (EndT.thenR (Post.retR rfl rfl () trivial (fun _ _ _ _ => trivial) rfl (.cons (.ra (i := 0) Tryd.ag63 Tryd.cz63 rfl rfl rfl rfl) ?_ (.cons (.rt rfl) ?_ (.cons (.rt rfl) ?_ .nil)))))
    · exact VLe.of_eq (by rw [hgr]; rfl)
    · exact VLe.int (by rw [hgr]; rfl)
    · exact VLe.prop (by rw [hgr]; simp)
  ·
    have hgr : growM r n = ({ r with pages := r.pages + n }, r.pages, true) := by unfold growM; rw [if_neg (by omega)]
    refine CodeT.skip (EndT.thenN ?_)
    refine CodeT.seq ?_
    refine CodeT.region (.p (opFieldO Tryd.fd63_0 (.t rfl)) rfl <| .p (opLoadO (i := 1) Tryd.ag3 (.t rfl) rfl rfl) rfl <| .p (opAssign (.t rfl)) rfl <| .nil ?_)
    refine EndT.thenN ?_
    refine CodeT.seq ?_
    refine CodeT.region (.p (opFieldO Tryd.fd63_0 (.t rfl)) rfl <| .p (opLoadO (i := 1) Tryd.ag3 (.t rfl) rfl rfl) rfl <| .p (opMove (.t rfl)) rfl <| .p (opConvF Tryd.underlying46 Tryd.underlying3 (.t rfl) (fits_i64 (by omega) (by omega))) rfl <| .p ((opAddF (.t rfl) (.t rfl) (fits_i64 (by omega) (by omega))).le (VLe.int (show _ = ((r.pages + n : Nat) : Int) by omega))) rfl <| .p (opFieldO Tryd.fd63_0 (.t rfl)) rfl <| .s (opStoreO (i := 1) Tryd.cz3 (.t rfl) (.t rfl) rfl rfl) <| .nil ?_)
    refine EndT.thenN ?_
    refine CodeT.seq ?_
    refine CodeT.region (.p (OpP.le (opLoadOA (i := 1) Tryd.ag63 Tryd.cz63 rfl (.t rfl) rfl rfl) (VLe.refl (aggV (encRM { r with pages := r.pages + n })))) rfl <| .p (opMove (.t rfl)) rfl <| .s (opStoreOA (i := 0) Tryd.cz63 rfl (.t rfl) (.t rfl) rfl rfl rfl) <| .p (opAssign (.t rfl)) rfl <| .p (opAssign .ct) rfl <| .nil ?_)
    refine EndT.thenN ?_
    refine CodeT.ret (Post.retR rfl rfl () trivial (fun _ _ _ _ => trivial) rfl (.cons (.ra (i := 0) Tryd.ag63 Tryd.cz63 rfl rfl rfl rfl) ?_ (.cons (.rt rfl) ?_ (.cons (.rt rfl) ?_ .nil))))
    · exact VLe.of_eq (by rw [hgr]; rfl)
    · exact VLe.int (by rw [hgr])
    · exact VLe.prop (by rw [hgr]; simp)

end Go.Proofs.YtiicgelmdmhajaaDoor
