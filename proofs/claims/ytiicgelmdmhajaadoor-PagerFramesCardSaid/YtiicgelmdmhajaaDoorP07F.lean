/-
  Walks, printed by a program (gen.py) out of what its author says of each function.
-/
import Derived.Test.YtiicgelmdmhajaaDoorP07L
import Derived.Test.YtiicgelmdmhajaaDoorP07E
import Derived.Test.YtiicgelmdmhajaaDoorP07O
namespace Go.Proofs.YtiicgelmdmhajaaDoor
open Go.Hl Go.RowKit
set_option linter.unusedVariables false
set_option maxRecDepth 100000

theorem pof_spec {X : PgI} {p : PgD} {mem : Int} (hp0 : (p.bm.map (·.1)).Nodup) (hp1 : ∀ k id, lookD p.bm k = some id → keyOk k) (hp2 : p.bm.length ≤ 4096) : FnE Tryd.prog 57 [addrV X.pb 0, i64V mem] [pagerC X p, pagerB X p] (γ := List PairK) (fun l => ∀ k, k ∈ l ↔ k.1 = mem ∧ ∃ id, lookD p.bm k = some id) (fun _ => [pagerC X p, pagerB X p]) (fun l => sliceV 2 encK l) := by
  refine FnE.intro 27 Tryd.func57 rfl rfl rfl fun w0 S0 M => ?_
  refine CodeT.seq ?_
  refine CodeT.region (.p (opAssign (.c _)) rfl <| .nil ?_)
  refine EndT.thenN ?_
  refine CodeT.seq ?_
  refine CodeT.region (.p (opAssign (.c _)) rfl <| .nil ?_)
  refine EndT.thenN ?_
  refine CodeT.seq ?_
  refine CodeT.seq ?_
  refine CodeT.region (.p (opMove (.t rfl)) rfl <| .p (opNilChkO (.t rfl)) rfl <| .p (opFieldO Tryd.fd96_5 (.t rfl)) rfl <| .p (opLoadO (i := 0) Tryd.ag93 (.t rfl) rfl rfl) rfl <| .n (opRangeM (i := 1) Tryd.underlying93 (.t rfl) rfl) rfl <| fun it11 _ => .nil ?_)
  refine EndT.thenN ?_
  refine CodeT.block ?_
  refine CodeT.own (ownSl (n := 2) (enc := encK)) ?_
  refine CodeT.own (OLe.perm (Perm.idx [1, 2, 0] rfl rfl)) ?_
  refine CodeT.loopO (σ := List Nat × SB) (fun g => [pagerC X p, imapH it11 X.m2 kpair i64V p.bm g.1, sliceH g.2 2 encK (collectK p.bm mem g.1)]) (fun g => [(5, exactV (sval g.2 (collectK p.bm mem g.1).length))]) (fun g => g.1.Nodup ∧ ∀ j ∈ g.1, j < p.bm.length) (fun g => p.bm.length - g.1.length) ([], none) ⟨List.nodup_nil, fun j h => (by cases h)⟩ rfl ?_ ?_
  · exact (.get rfl (VLe.refl _) (.refl _ _))
  · rintro ⟨seen, gb1⟩ ⟨hnd, hin⟩
    simp only at hnd hin ⊢
    refine CodeT.seq ?_
    refine CodeT.region (.n (opNextM (i := 1) (.t rfl) rfl) rfl <| fun g12 h12 => .p (opNextMB (.t rfl)) rfl <| .nil ?_)
    refine EndT.thenN ?_
    refine CodeT.seq ?_
    refine CodeT.cond (.t rfl) (fun c0 => ?_) (fun c0 => ?_)
    ·
      obtain ⟨j, rfl⟩ := Option.isSome_iff_exists.1 c0
      obtain ⟨hjl, hjs⟩ := h12.2 j rfl
      obtain ⟨p1, hpj⟩ := getElem?_lt' (xs := p.bm) (k := j) hjl
      have hsl := seen_len (nodup_snoc hnd hjs) (n := p.bm.length) (fun x hx => (by (rcases List.mem_append.1 hx with hx | hx; (exact hin x hx); (simp at hx; subst hx; exact hjl))))
      have hin2 : ∀ x ∈ seen ++ [j], x < p.bm.length := fun x hx => (by (rcases List.mem_append.1 hx with hx | hx; (exact hin x hx); (simp at hx; subst hx; exact hjl)))
      have hcl := collectK_len p.bm mem seen
      simp only [List.length_append, List.length_cons, List.length_nil] at hsl
      refine CodeT.skip (EndT.thenN ?_)
      refine CodeT.block ?_
      refine CodeT.seq ?_
      refine CodeT.region (.p (opEntryM (i := 1) (seen := seen) (j := j) (.t rfl) rfl hpj) rfl <| .p ((opExtract (.t rfl) rfl).le (pair_agg)) rfl <| .n (opAlloc Tryd.zb100) rfl <| fun b6 _ => .s (opStoreOA (i := 0) Tryd.cz100 rfl (.t rfl) (.t rfl) rfl rfl rfl) <| .nil ?_)
      refine EndT.thenN ?_
      refine CodeT.share (t := 6) (i := 0) rfl rfl ?_
      refine CodeT.seq ?_
      refine CodeT.region (.p (opField Tryd.fd100_0 (.t rfl)) rfl <| .p (opLoad Tryd.ag3 (.t rfl)) rfl <| .p (opMove (.t rfl)) rfl <| .p (opEql (.t rfl) (.t rfl)) rfl <| .nil ?_)
      refine EndT.thenN ?_
      refine CodeT.cond (.t rfl) (fun c1 => ?_) (fun c1 => ?_)
      ·
        refine CodeT.region (.p (opMove (.t rfl)) rfl <| .p (opLoadA Tryd.ag100 Tryd.cz100 rfl (.t rfl) rfl) rfl <| .p (opBuildSlice (enc := encK) [p1.1] Tryd.underlying122 Tryd.cz100 rfl Tryd.zb100 rfl (.cons (.t rfl) .nil) rfl rfl rfl rfl rfl) rfl <| .n (opAppend (i := 2) (xs := collectK p.bm mem seen) (ys := [p1.1]) Tryd.underlying122 Tryd.underlying122 Tryd.cz100 rfl Tryd.zb100 rfl Tryd.by100 (.t rfl) (.t rfl) rfl (by (simp only [List.length_cons, List.length_nil]; omega)) (by (simp only [List.length_cons, List.length_nil]; omega))) rfl <| fun g23 _ => .p (opAssign (.t rfl)) rfl <| .nil ?_)
        refine EndT.blkN (EndT.round (seen ++ [j], g23) ⟨nodup_snoc hnd hjs, hin2⟩ (by (simp only [List.length_append, List.length_cons, List.length_nil]; omega)) (by (simp only [collectK_yes hpj c1]; rfl)) ?_)
        exact (.get rfl (VLe.of_eq (by simp only [collectK_yes hpj c1])) ((.keep 16 rfl rfl)))
      ·
        refine CodeT.skip (EndT.blkN (EndT.round (seen ++ [j], gb1) ⟨nodup_snoc hnd hjs, hin2⟩ (by (simp only [List.length_append, List.length_cons, List.length_nil]; omega)) (by (simp only [collectK_no hpj c1]; rfl)) ?_))
        exact (.get rfl (VLe.of_eq (by simp only [collectK_no hpj c1])) ((.keep 11 rfl rfl)))
    ·
      have hg12 : g12 = none := (by cases g12 with | none => rfl | some j => exact absurd rfl c0)
      refine CodeT.exit (EndT.thenX (EndT.thenX (EndT.blkX (EndT.thenN ?_))))
      refine CodeT.seq ?_
      refine CodeT.own (OLe.cons _ imap_map) ?_
      have hmem := collectK_mem (mem := mem) hp0 (h12.1 hg12)
      have hrange : ∀ x ∈ collectK p.bm mem seen, 0 ≤ x.2 ∧ x.2 ≤ 9223372036854775807 := fun x hx => (by (obtain ⟨_, id, hid⟩ := (hmem x).1 hx; have h9 := hp1 x id hid; exact ⟨h9.2.1, h9.2.2⟩))
      refine CodeT.region (.p (opMove (.t rfl)) rfl <| .n (opCallE (rest := [_, _]) (sortKeys_spec (g := gb1) (xs := collectK p.bm mem seen) hrange) Tryd.cb76 (.cons (.t rfl) (.cons (.f _) .nil)) (Perm.idx [2, 0, 1] rfl rfl)) rfl <| fun g25 h25 => .nil ?_)
      refine EndT.thenN ?_
      refine CodeT.seq ?_
      refine CodeT.region (.p (opMove (.t rfl)) rfl <| .p (opAssign (.t rfl)) rfl <| .nil ?_)
      refine EndT.thenN ?_
      have hyl := h25.length_eq
      refine CodeT.shareS (i := 0) (t := 4) (g := gb1) (xs := g25) rfl (by rw [hyl]; rfl) ?_
      refine CodeT.ret (Post.retR1 rfl (g25) (by exact fun k => h25.mem_iff.trans (hmem k)) (fun _ _ _ h => h) (.rt rfl) ?_)
      first | exact VLe.refl _ | exact VLe.int (by omega) | exact VLe.prop (by omega) | exact VLe.prop (by simp_all) | exact VLe.prop (by simp; omega)

end Go.Proofs.YtiicgelmdmhajaaDoor
