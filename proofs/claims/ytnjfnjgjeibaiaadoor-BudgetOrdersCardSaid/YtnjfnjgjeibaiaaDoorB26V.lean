/-
  Walks, printed by a program (gen.py) out of what its author says of each function.
-/
import Derived.Test.YtnjfnjgjeibaiaaDoorB26C
namespace Go.Proofs.YtnjfnjgjeibaiaaDoor
open Go.Hl Go.RowKit
set_option linter.unusedVariables false
set_option maxRecDepth 100000

theorem bof_spec {x : Nd} : FnP Tryd.prog 17 [aggV (encNd x)] (aggV (encNd x)) := by
  refine FnE.intro 14 Tryd.func17 rfl rfl rfl fun w0 S0 M => ?_
  refine CodeT.seq ?_
  refine CodeT.region (.p (opBoxA (.t rfl)) rfl <| .n (opAlloc Tryd.zb23) rfl <| fun b2 _ => .nil ?_)
  refine EndT.thenN ?_
  refine CodeT.seq ?_
  refine CodeT.region (.p (opIndexAddrA 0 Tryd.underlying44 Tryd.cz3 rfl (.t rfl) (.c _) rfl (by omega)) rfl <| .p (opLoad Tryd.ag3 (.t rfl)) rfl <| .p (opIndexAddrA 1 Tryd.underlying44 Tryd.cz3 rfl (.t rfl) (.c _) rfl (by omega)) rfl <| .p (opLoad Tryd.ag3 (.t rfl)) rfl <| .p (opIndexAddrA 2 Tryd.underlying44 Tryd.cz3 rfl (.t rfl) (.c _) rfl (by omega)) rfl <| .p (opLoad Tryd.ag3 (.t rfl)) rfl <| .p (opIndexAddrA 3 Tryd.underlying44 Tryd.cz3 rfl (.t rfl) (.c _) rfl (by omega)) rfl <| .p (opLoad Tryd.ag3 (.t rfl)) rfl <| .p (opIndexAddrA 4 Tryd.underlying44 Tryd.cz3 rfl (.t rfl) (.c _) rfl (by omega)) rfl <| .p (opLoad Tryd.ag3 (.t rfl)) rfl <| .p (opBuild Tryd.pl23 Tryd.zb23 (.cons (.t rfl) (.cons (.t rfl) (.cons (.t rfl) (.cons (.t rfl) (.cons (.t rfl) .nil))))) rfl) rfl <| .s (opStoreOA (i := 0) Tryd.cz23 rfl (.t rfl) (.t rfl) rfl rfl rfl) <| .nil ?_)
  refine EndT.thenN ?_
  refine CodeT.ret (Post.retR1 rfl () trivial (fun _ _ _ _ => trivial) (.ra (i := 0) Tryd.ag23 Tryd.cz23 rfl rfl rfl rfl) ?_)
  exact VLe.refl _

theorem blist_spec {x : Nd} : FnP Tryd.prog 18 [aggV (encNd x)] (aggV (encNd x)) := by
  refine FnE.intro 14 Tryd.func18 rfl rfl rfl fun w0 S0 M => ?_
  refine CodeT.seq ?_
  refine CodeT.region (.p (opBoxA (.t rfl)) rfl <| .n (opAlloc Tryd.zb44) rfl <| fun b2 _ => .nil ?_)
  refine EndT.thenN ?_
  refine CodeT.seq ?_
  refine CodeT.region (.p (opField Tryd.fd23_0 (.t rfl)) rfl <| .p (opLoad Tryd.ag3 (.t rfl)) rfl <| .p (opField Tryd.fd23_1 (.t rfl)) rfl <| .p (opLoad Tryd.ag3 (.t rfl)) rfl <| .p (opField Tryd.fd23_2 (.t rfl)) rfl <| .p (opLoad Tryd.ag3 (.t rfl)) rfl <| .p (opField Tryd.fd23_3 (.t rfl)) rfl <| .p (opLoad Tryd.ag3 (.t rfl)) rfl <| .p (opField Tryd.fd23_4 (.t rfl)) rfl <| .p (opLoad Tryd.ag3 (.t rfl)) rfl <| .p (opBuildArr Tryd.ar44 Tryd.zb44 (.cons (.t rfl) (.cons (.t rfl) (.cons (.t rfl) (.cons (.t rfl) (.cons (.t rfl) .nil))))) rfl) rfl <| .s (opStoreOA (i := 0) Tryd.cz44 rfl (.t rfl) (.t rfl) rfl rfl rfl) <| .nil ?_)
  refine EndT.thenN ?_
  refine CodeT.ret (Post.retR1 rfl () trivial (fun _ _ _ _ => trivial) (.ra (i := 0) Tryd.ag44 Tryd.cz44 rfl rfl rfl rfl) ?_)
  exact VLe.refl _

theorem bhas_spec {x : Nd} {fr bl : Int} : FnP Tryd.prog 21 [aggV (encCf x fr bl)] (aggV (encNd x)) := by
  refine FnE.intro 14 Tryd.func21 rfl rfl rfl fun w0 S0 M => ?_
  refine CodeT.seq ?_
  refine CodeT.region (.p (opBoxA (.t rfl)) rfl <| .n (opAlloc Tryd.zb23) rfl <| fun b2 _ => .nil ?_)
  refine EndT.thenN ?_
  refine CodeT.seq ?_
  refine CodeT.region (.p (opField Tryd.fd34_0 (.t rfl)) rfl <| .p (opLoad Tryd.ag3 (.t rfl)) rfl <| .p (opField Tryd.fd34_4 (.t rfl)) rfl <| .p (opLoad Tryd.ag3 (.t rfl)) rfl <| .p (opField Tryd.fd34_5 (.t rfl)) rfl <| .p (opLoad Tryd.ag3 (.t rfl)) rfl <| .p (opField Tryd.fd34_6 (.t rfl)) rfl <| .p (opLoad Tryd.ag3 (.t rfl)) rfl <| .p (opField Tryd.fd34_3 (.t rfl)) rfl <| .p (opLoad Tryd.ag3 (.t rfl)) rfl <| .p (opBuild Tryd.pl23 Tryd.zb23 (.cons (.t rfl) (.cons (.t rfl) (.cons (.t rfl) (.cons (.t rfl) (.cons (.t rfl) .nil))))) rfl) rfl <| .s (opStoreOA (i := 0) Tryd.cz23 rfl (.t rfl) (.t rfl) rfl rfl rfl) <| .nil ?_)
  refine EndT.thenN ?_
  refine CodeT.ret (Post.retR1 rfl () trivial (fun _ _ _ _ => trivial) (.ra (i := 0) Tryd.ag23 Tryd.cz23 rfl rfl rfl rfl) ?_)
  exact VLe.refl _

theorem bmax_spec {x y : Nd} : FnP Tryd.prog 10 [aggV (encNd x), aggV (encNd y)] (aggV (encNd (x.mx y))) := by
  refine FnE.intro 28 Tryd.func10 rfl rfl rfl fun w0 S0 M => ?_
  refine CodeT.seq ?_
  refine CodeT.region (.p (opBoxA (.t rfl)) rfl <| .p (opBoxA (.t rfl)) rfl <| .n (opAlloc Tryd.zb23) rfl <| fun b4 _ => .nil ?_)
  refine EndT.thenN ?_
  refine CodeT.seq ?_
  refine CodeT.allocs [(0, 0), (1, 0), (2, 0), (3, 0)] [] [(5, 6, [.int .i64 0, .int .i64 0, .int .i64 0, .int .i64 0, .int .i64 0]), (4, 5, [.int .i64 0, .int .i64 0, .int .i64 0, .int .i64 0, .int .i64 0])] 6 2 Tryd.mixed (by kernel_rfl) (by kernel_rfl) (by intro a ha; simp only [List.mem_cons, List.not_mem_nil, or_false] at ha; rcases ha with rfl | rfl <;> exact ⟨_, _, _, _, rfl, Tryd.zb44⟩) (.p rfl (fun _ => opLoadA Tryd.ag23 Tryd.cz23 rfl (.t rfl) rfl) <| .p rfl (fun _ => opCall (blist_spec (x := x)) Tryd.cb18 (.cons (.t rfl) .nil)) <| .p rfl (fun _ => opLoadA Tryd.ag23 Tryd.cz23 rfl (.t rfl) rfl) <| .p rfl (fun _ => opCall (blist_spec (x := y)) Tryd.cb18 (.cons (.t rfl) .nil)) <| .alc fun ba => (.fin (.s (opStoreOA (i := 1) Tryd.cz44 rfl (.t rfl) (.t rfl) rfl rfl rfl) <| .s (opStoreOA (i := 0) Tryd.cz44 rfl (.t rfl) (.t rfl) rfl rfl rfl) <| .nil ?_)))
  refine EndT.thenN ?_
  refine CodeT.share (t := 6) (i := 0) rfl rfl ?_
  refine CodeT.seq ?_
  refine CodeT.seq ?_
  refine CodeT.region (.p (opLoadA Tryd.ag44 Tryd.cz44 rfl (.t rfl) rfl) rfl <| .p (opMove (.c _)) rfl <| .nil ?_)
  refine EndT.thenN ?_
  refine CodeT.block ?_
  refine CodeT.own (arr_sl (n := 1) (N := 5) (enc := encI) (xs := mxK x y 0) rfl rfl rfl (by decide)) ?_
  refine CodeT.loopO (σ := Nat) (fun k => [sliceH (some (ba 4, 5)) 1 encI (mxK x y k), cellsH b4 [iV 0, iV 0, iV 0, iV 0, iV 0]]) (fun k => [(14, iV (k : Int))]) (fun k => k ≤ 5) (fun k => 5 - k) 0 (Nat.zero_le _) rfl ?_ ?_
  · exact (.get rfl (VLe.refl _) (.refl _ _))
  · rintro k hk
    refine CodeT.seq ?_
    refine CodeT.region (.p (opLss (.t rfl) (.c _)) rfl <| .nil ?_)
    refine EndT.thenN ?_
    refine CodeT.seq ?_
    refine CodeT.cond (.t rfl) (fun c0 => ?_) (fun c0 => ?_)
    ·
      have hk5 : k < 5 := by omega
      refine CodeT.skip (EndT.thenN ?_)
      refine CodeT.seq ?_
      refine CodeT.block ?_
      refine CodeT.seq ?_
      refine CodeT.region (.p (opMove (.t rfl)) rfl <| .p (opIndexA1 Tryd.underlying44 Tryd.cz3 Tryd.ag3 (.t rfl) rfl (.t rfl) rfl (nd_get hk5)) rfl <| .p (opAssign (.t rfl)) rfl <| .p (opAssign (.t rfl)) rfl <| .nil ?_)
      refine EndT.thenN ?_
      refine CodeT.region (.p (opMove (.t rfl)) rfl <| .p (opMove (.t rfl)) rfl <| .p (opIndexAddrAW k Tryd.underlying44 Tryd.cz3 rfl (.t rfl) (.t rfl) rfl hk5) rfl <| .p (opLoadW (i := 0) (r := 0) Tryd.ag3 (.t rfl) rfl (mxK_get hk5) rfl) rfl <| .p (opMove (.t rfl)) rfl <| .p (opMax (.t rfl) (.t rfl)) rfl <| .p (opIndexAddrAW k Tryd.underlying44 Tryd.cz3 rfl (.t rfl) (.t rfl) rfl hk5) rfl <| .s (opStoreW (i := 0) (r := 0) (max (x.toL.getD k 0) (y.toL.getD k 0)) rfl Tryd.cz3 (.t rfl) (.t rfl) rfl (mxK_get hk5) rfl rfl) <| .nil ?_)
      refine EndT.blkN (EndT.thenN ?_)
      refine CodeT.region (.p (opAddF (.t rfl) (.c _) (fits_i64 (by omega) (by omega))) rfl <| .p (opMove (.t rfl)) rfl <| .nil ?_)
      refine EndT.round (k + 1) (by omega) (by omega) (by simp only [mxK_set hk5]; rfl) ?_
      exact (.get rfl (VLe.int (by (show (k : Int) + 1 = ((k + 1 : Nat) : Int); omega))) ((.keep 15 rfl rfl)))
    ·
      have hk5 : k = 5 := by omega
      subst hk5
      refine CodeT.own (sl_arr (cs := encNd (x.mx y)) rfl rfl) ?_
      refine CodeT.exit (EndT.thenX (EndT.thenX (EndT.blkX (EndT.thenN ?_))))
      refine CodeT.seq ?_
      refine CodeT.region (.p (opLoadOA (i := 0) Tryd.ag44 Tryd.cz44 rfl (.t rfl) rfl rfl) rfl <| .p (opCall (bof_spec (x := x.mx y)) Tryd.cb17 (.cons (.t rfl) .nil)) rfl <| .s (opStoreOA (i := 1) Tryd.cz23 rfl (.t rfl) (.t rfl) rfl rfl rfl) <| .nil ?_)
      refine EndT.thenN ?_
      refine CodeT.ret (Post.retR1 rfl () trivial (fun _ _ _ _ => trivial) (.ra (i := 1) Tryd.ag23 Tryd.cz23 rfl rfl rfl rfl) ?_)
      exact VLe.refl _

theorem benough_spec {x y : Nd} {fr bl : Int} : FnP Tryd.prog 11 [aggV (encCf x fr bl), aggV (encNd y)] (propV (x.mx y = x)) := by
  refine FnE.intro 12 Tryd.func11 rfl rfl rfl fun w0 S0 M => ?_
  refine CodeT.seq ?_
  refine CodeT.region (.p (opBoxA (.t rfl)) rfl <| .p (opBoxA (.t rfl)) rfl <| .p (opAssign .cf) rfl <| .nil ?_)
  refine EndT.thenN ?_
  refine CodeT.seq ?_
  refine CodeT.draw 5 3 Tryd.mixed (by kernel_rfl) (.p (OpP.le (opLoadA Tryd.ag34 Tryd.cz34 rfl (.t rfl) rfl) (VLe.refl (aggV (encCf x fr bl)))) <| .p (opCall (bhas_spec (x := x) (fr := fr) (bl := bl)) Tryd.cb21 (.cons (.t rfl) .nil)) <| .p (opLoadA Tryd.ag23 Tryd.cz23 rfl (.t rfl) rfl) <| .p (opCall (bmax_spec (x := x) (y := y)) Tryd.cb10 (.cons (.t rfl) (.cons (.t rfl) .nil))) <| .p (OpP.le (opLoadA Tryd.ag34 Tryd.cz34 rfl (.t rfl) rfl) (VLe.refl (aggV (encCf x fr bl)))) <| .nil) (.p (opCall (bhas_spec (x := x) (fr := fr) (bl := bl)) Tryd.cb21 (.cons (.t rfl) .nil)) rfl <| .p (opEqlA Tryd.underlying23 Tryd.sh23 Tryd.eg23 (.t rfl) (.t rfl) (.cons (by decide) rfl rfl (.int Tryd.underlying3) (.cons (by decide) rfl rfl (.int Tryd.underlying3) (.cons (by decide) rfl rfl (.int Tryd.underlying3) (.cons (by decide) rfl rfl (.int Tryd.underlying3) (.cons (by decide) rfl rfl (.int Tryd.underlying3) .nil)))))) rfl <| .p (opAssign (.t rfl)) rfl <| .nil ?_)
  refine EndT.thenN ?_
  refine CodeT.ret (Post.retP rfl rfl ?_)
  exact VLe.prop (by rw [Nd.ext_iff]; simp only [and_true])

theorem bwith_spec {x y : Nd} {fr bl : Int} : FnP Tryd.prog 9 [aggV (encCf x fr bl), aggV (encNd y)] (aggV (encCf (x.mx y) fr bl)) := by
  refine FnE.intro 26 Tryd.func9 rfl rfl rfl fun w0 S0 M => ?_
  refine CodeT.seq ?_
  refine CodeT.region (.n (opBoxOA (.t rfl)) rfl <| fun b2 _ => .p (opBoxA (.t rfl)) rfl <| .n (opAlloc Tryd.zb34) rfl <| fun b4 _ => .nil ?_)
  refine EndT.thenN ?_
  refine CodeT.seq ?_
  refine CodeT.staged [(0, 1), (1, 0), (2, 0), (3, 0), (4, 4)] 5 1 Tryd.mixed (by kernel_rfl) (.o rfl (OpP.le (opLoadOA (i := 1) Tryd.ag34 Tryd.cz34 rfl (.t rfl) rfl rfl) (VLe.refl (aggV (encCf x fr bl)))) <| .p rfl (fun _ => opCall (bhas_spec (x := x) (fr := fr) (bl := bl)) Tryd.cb21 (.cons (.t rfl) .nil)) <| .p rfl (fun _ => opLoadA Tryd.ag23 Tryd.cz23 rfl (.t rfl) rfl) <| .p rfl (fun _ => opCall (bmax_spec (x := x) (y := y)) Tryd.cb10 (.cons (.t rfl) (.cons (.t rfl) .nil))) <| .a rfl (opAlloc Tryd.zb23) (fun _ _ => OLe.drop (OLe.refl _)) <| fun b5 _ => .fin (.s (opStoreOA (i := 0) Tryd.cz23 rfl (.t rfl) (.t rfl) rfl rfl rfl) <| .nil ?_))
  refine EndT.thenN ?_
  refine CodeT.share (t := 5) (i := 0) rfl rfl ?_
  refine CodeT.seq ?_
  refine CodeT.staged [(0, 0), (1, 0), (2, 0), (3, 0), (4, 0), (5, 0), (6, 0), (7, 0), (8, 0), (9, 0), (10, 0), (11, 3), (12, 0), (13, 3), (14, 0), (15, 3), (16, 0), (17, 3)] 18 2 Tryd.mixed (by kernel_rfl) (.p rfl (fun _ => opField Tryd.fd23_0 (.t rfl)) <| .p rfl (fun _ => opLoad Tryd.ag3 (.t rfl)) <| .p rfl (fun _ => opField Tryd.fd23_1 (.t rfl)) <| .p rfl (fun _ => opLoad Tryd.ag3 (.t rfl)) <| .p rfl (fun _ => opField Tryd.fd23_2 (.t rfl)) <| .p rfl (fun _ => opLoad Tryd.ag3 (.t rfl)) <| .p rfl (fun _ => opField Tryd.fd23_3 (.t rfl)) <| .p rfl (fun _ => opLoad Tryd.ag3 (.t rfl)) <| .p rfl (fun _ => opField Tryd.fd23_4 (.t rfl)) <| .p rfl (fun _ => opLoad Tryd.ag3 (.t rfl)) <| .p rfl (fun _ => opFieldO Tryd.fd34_0 (.t rfl)) <| .s rfl (opStoreO (i := 1) Tryd.cz3 (.t rfl) (.t rfl) rfl rfl) <| .p rfl (fun _ => opFieldO Tryd.fd34_4 (.t rfl)) <| .s rfl (opStoreO (i := 1) Tryd.cz3 (.t rfl) (.t rfl) rfl rfl) <| .p rfl (fun _ => opFieldO Tryd.fd34_5 (.t rfl)) <| .s rfl (opStoreO (i := 1) Tryd.cz3 (.t rfl) (.t rfl) rfl rfl) <| .p rfl (fun _ => opFieldO Tryd.fd34_6 (.t rfl)) <| .s rfl (opStoreO (i := 1) Tryd.cz3 (.t rfl) (.t rfl) rfl rfl) <| .fin (.p (opFieldO Tryd.fd34_3 (.t rfl)) rfl <| .s (opStoreO (i := 1) Tryd.cz3 (.t rfl) (.t rfl) rfl rfl) <| .nil ?_))
  refine EndT.thenN ?_
  refine CodeT.seq ?_
  refine CodeT.region (.p (OpP.le (opLoadOA (i := 1) Tryd.ag34 Tryd.cz34 rfl (.t rfl) rfl rfl) (VLe.refl (aggV (encCf (x.mx y) fr bl)))) rfl <| .s (opStoreOA (i := 0) Tryd.cz34 rfl (.t rfl) (.t rfl) rfl rfl rfl) <| .nil ?_)
  refine EndT.thenN ?_
  refine CodeT.ret (Post.retR1 rfl () trivial (fun _ _ _ _ => trivial) (.ra (i := 0) Tryd.ag34 Tryd.cz34 rfl rfl rfl rfl) ?_)
  exact VLe.refl _

theorem splitn_spec {s : List UInt8} (hp0 : s.length < 4294967281) : FnP Tryd.prog 15 [strV s, strV [32], iV 5] (sliceV 1 encSt (partsL s)) := by
  refine FnE.intro 11 Tryd.func15 rfl rfl rfl fun w0 S0 M => ?_
  refine CodeT.seq ?_
  refine CodeT.region (.p (opAssign (.c _)) rfl <| .nil ?_)
  refine EndT.thenN ?_
  refine CodeT.seq ?_
  refine CodeT.region (.p (opMove (.t rfl)) rfl <| .p (opMove (.t rfl)) rfl <| .p (opMove (.t rfl)) rfl <| .p (opCall (gensplit_spec hp0) Tryd.cb22 (.cons (.t rfl) (.cons (.t rfl) (.cons (.c _) (.cons (.t rfl) .nil))))) rfl <| .p (opAssign (.t rfl)) rfl <| .nil ?_)
  refine EndT.thenN ?_
  refine CodeT.ret (Post.retP rfl rfl ?_)
  exact VLe.refl _

end Go.Proofs.YtnjfnjgjeibaiaaDoor
