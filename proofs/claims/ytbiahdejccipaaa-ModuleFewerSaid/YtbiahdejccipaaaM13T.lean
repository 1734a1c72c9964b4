/-
  Walks, printed by a program (gen.py) out of what its author says of each function.
-/
import Derived.Test.YtbiahdejccipaaaM13X
import Derived.Test.YtbiahdejccipaaaM13Y
import Derived.Test.YtbiahdejccipaaaM13Z
import Derived.Test.YtbiahdejccipaaaM13D
namespace Go.Proofs.Ytbiahdejccipaaa
open Go.Hl Go.RowKit
set_option linter.unusedVariables false
set_option maxRecDepth 100000

set_option maxHeartbeats 4000000 in
theorem ModuleFewer_spec {x : ModD} : FnP Try.prog 3 [aggV (encMod x)] (propV True) := by
  refine FnE.intro 100 Try.func3 rfl rfl rfl fun w0 S0 M => ?_
  refine CodeT.fact (t := 0) rfl (fun S w v h => modLens3 h) fun hlen => ?_
  have hall := hlen
  obtain ⟨⟨hl0, hl1, hl2, hl3, hl4, hl5, hl6, hl7⟩, ⟨hi0, hi1, hi2, hi3, hi4⟩, hi5⟩ := hlen
  refine CodeT.seq ?_
  refine CodeT.region (.p (opBoxA (.t rfl)) rfl <| .p (opAssign .cf) rfl <| .nil ?_)
  refine EndT.thenN ?_
  refine CodeT.seq ?_
  refine CodeT.seq ?_
  refine CodeT.region (.p (opLoadA Try.ag31 Try.cz31 rfl (.t rfl) rfl) rfl <| .p (opCall (great_spec) Try.cb7 (.cons (.t rfl) .nil)) rfl <| .p (opGtr (.t rfl) (.c _)) rfl <| .p (opMove (.t rfl)) rfl <| .g (OpG.gF rfl rfl rfl rfl (fun hg => opCall (awake_spec) Try.cb8 .nil)) rfl rfl <| .g (OpG.gF rfl rfl rfl rfl (fun hg => opNot (.when (.t rfl) hg))) rfl rfl <| .p (opOr (.t rfl) (.t rfl)) rfl <| .nil ?_)
  refine EndT.thenN ?_
  refine CodeT.cond (.t rfl) (fun c0 => ?_) (fun c0 => ?_)
  ·
    refine CodeT.seq ?_
    refine CodeT.region (.p (opCall (awake_spec) Try.cb8 .nil) rfl <| .p (opAssign (.t rfl)) rfl <| .nil ?_)
    refine EndT.thenN ?_
    refine CodeT.ret (EndT.thenR (Post.retP rfl rfl ?_))
    exact VLe.prop (by simp)
  ·
    have hsm : SmallM x := greatM_small hall (by simp at c0; omega)
    refine CodeT.skip (EndT.thenN ?_)
    refine CodeT.seq ?_
    refine CodeT.region (.p (opLoadA Try.ag31 Try.cz31 rfl (.t rfl) rfl) rfl <| .p (opCall (unfit_spec) Try.cb9 (.cons (.t rfl) .nil)) rfl <| .p (opMove (.t rfl)) rfl <| .p (opExtract (.t rfl) rfl) rfl <| .n (OpP.openX (opExtract (.t rfl) rfl)) rfl <| fun n32 hn32 => .p (opAssign (.t rfl)) rfl <| .p (opAssign (.t rfl)) rfl <| .nil ?_)
    refine EndT.thenN ?_
    refine CodeT.seq ?_
    refine CodeT.seq ?_
    refine CodeT.region (.p (opMove (.t rfl)) rfl <| .p (opNeq (.t rfl) (.c _)) rfl <| .nil ?_)
    refine EndT.thenN ?_
    refine CodeT.cond (.t rfl) (fun c1 => ?_) (fun c1 => ?_)
    ·
      refine CodeT.seq ?_
      refine CodeT.region (.p (opAssign .ct) rfl <| .nil ?_)
      refine EndT.thenN ?_
      refine CodeT.ret (EndT.thenR (Post.retP rfl rfl ?_))
      exact VLe.prop (by simp)
    ·
      have hfit : FitsM x := hn32 (by omega)
      refine CodeT.skip (EndT.thenN ?_)
      refine CodeT.seq ?_
      refine CodeT.allocs [(0, 0), (1, 0), (2, 0), (3, 0), (4, 0)] [(10, 3), (11, 3), (12, 3), (13, 3)] [(9, 9, [.slice none 0 0, .slice none 0 0, .slice none 0 0, .int .i64 0, .slice none 0 0, .slice none 0 0, .slice none 0 0, .int .i64 0, .slice none 0 0, .slice none 0 0]), (8, 8, [.slice none 0 0, .slice none 0 0, .slice none 0 0, .int .i64 0, .slice none 0 0, .slice none 0 0, .slice none 0 0, .int .i64 0, .slice none 0 0, .slice none 0 0]), (7, 7, [.slice none 0 0, .slice none 0 0, .slice none 0 0, .int .i64 0, .slice none 0 0, .slice none 0 0, .slice none 0 0, .int .i64 0, .slice none 0 0, .slice none 0 0]), (6, 6, [.slice none 0 0, .slice none 0 0, .slice none 0 0, .int .i64 0, .slice none 0 0, .slice none 0 0, .slice none 0 0, .int .i64 0, .slice none 0 0, .slice none 0 0]), (5, 5, [.slice none 0 0, .slice none 0 0, .slice none 0 0, .int .i64 0, .slice none 0 0, .slice none 0 0, .slice none 0 0, .int .i64 0, .slice none 0 0, .slice none 0 0])] 14 1 Try.mixed (by kernel_rfl) (by kernel_rfl) (by intro a ha; simp only [List.mem_cons, List.not_mem_nil, or_false] at ha; rcases ha with rfl | rfl | rfl | rfl | rfl <;> exact ⟨_, _, _, _, rfl, Try.zb31⟩) (.p rfl (fun _ => opLoadA Try.ag31 Try.cz31 rfl (.t rfl) rfl) <| .p rfl (fun _ => opLoadA Try.ag31 Try.cz31 rfl (.t rfl) rfl) <| .p rfl (fun _ => opLoadA Try.ag31 Try.cz31 rfl (.t rfl) rfl) <| .p rfl (fun _ => opLoadA Try.ag31 Try.cz31 rfl (.t rfl) rfl) <| .p rfl (fun _ => opLoadA Try.ag31 Try.cz31 rfl (.t rfl) rfl) <| .alc fun ba => (.s rfl (opStoreOA (i := 4) Try.cz31 rfl (.t rfl) (.t rfl) rfl rfl rfl) <| .s rfl (opStoreOA (i := 3) Try.cz31 rfl (.t rfl) (.t rfl) rfl rfl rfl) <| .s rfl (opStoreOA (i := 2) Try.cz31 rfl (.t rfl) (.t rfl) rfl rfl rfl) <| .s rfl (opStoreOA (i := 1) Try.cz31 rfl (.t rfl) (.t rfl) rfl rfl rfl) <| .fin (.s (opStoreOA (i := 0) Try.cz31 rfl (.t rfl) (.t rfl) rfl rfl rfl) <| .nil ?_)))
      refine EndT.thenN ?_
      refine CodeT.seq ?_
      refine CodeT.region (.p (opFieldO Try.fd31_6 (.t rfl)) rfl <| .s (opStoreO (i := 4) Try.cz27 (.t rfl) (.c _) rfl rfl) <| .p (opFieldO Try.fd31_7 (.t rfl)) rfl <| .s (opStoreO (i := 3) Try.cz3 (.t rfl) (.c _) rfl rfl) <| .p (opFieldO Try.fd31_8 (.t rfl)) rfl <| .s (opStoreO (i := 2) Try.cz28 (.t rfl) (.c _) rfl rfl) <| .p (opFieldO Try.fd31_9 (.t rfl)) rfl <| .s (opStoreO (i := 1) Try.cz29 (.t rfl) (.c _) rfl rfl) <| .nil ?_)
      refine EndT.thenN ?_
      refine CodeT.seq ?_
      refine CodeT.region (.p (opFieldO Try.fd31_6 (.t rfl)) rfl <| .s (opStoreO (i := 0) Try.cz27 (.t rfl) (.c _) rfl rfl) <| .p (opFieldO Try.fd31_7 (.t rfl)) rfl <| .s (opStoreO (i := 0) Try.cz3 (.t rfl) (.c _) rfl rfl) <| .p (opFieldO Try.fd31_8 (.t rfl)) rfl <| .s (opStoreO (i := 0) Try.cz28 (.t rfl) (.c _) rfl rfl) <| .p (opFieldO Try.fd31_9 (.t rfl)) rfl <| .s (opStoreO (i := 0) Try.cz29 (.t rfl) (.c _) rfl rfl) <| .nil ?_)
      refine EndT.thenN ?_
      refine CodeT.seq ?_
      refine CodeT.region (.p (opLoadOA (i := 4) Try.ag31 Try.cz31 rfl (.t rfl) rfl rfl) rfl <| .p (opCall (l13to_spec (x := dropE x) (small_of hsm rfl rfl rfl rfl rfl (.inr rfl) (.inl rfl) (.inl rfl))) Try.cb10 (.cons (.le (.t rfl) (VLe.agg (le_E x))) .nil)) rfl <| .p (opCall (fit_spec) Try.cb11 (.cons (.t rfl) .nil)) rfl <| .p (opMove (.t rfl)) rfl <| .p (opExtract (.t rfl) rfl) rfl <| .p (opExtract (.t rfl) rfl) rfl <| .p (opAssign (.t rfl)) rfl <| .p (opAssign (.t rfl)) rfl <| .nil ?_)
      refine EndT.thenN ?_
      rw [fit_of (fits_E hfit)]
      refine CodeT.seq ?_
      refine CodeT.region (.p (opLoadOA (i := 3) Try.ag31 Try.cz31 rfl (.t rfl) rfl rfl) rfl <| .p (opCall (l13to_spec (x := dropS x) (small_of hsm rfl rfl rfl rfl rfl (.inl rfl) (.inl rfl) (.inl rfl))) Try.cb10 (.cons (.le (.t rfl) (VLe.refl (aggV (encMod (dropS x))))) .nil)) rfl <| .p (opCall (fit_spec) Try.cb11 (.cons (.t rfl) .nil)) rfl <| .p (opMove (.t rfl)) rfl <| .p (opExtract (.t rfl) rfl) rfl <| .p (opExtract (.t rfl) rfl) rfl <| .p (opAssign (.t rfl)) rfl <| .p (opAssign (.t rfl)) rfl <| .nil ?_)
      refine EndT.thenN ?_
      rw [fit_of (fits_S hfit)]
      refine CodeT.seq ?_
      refine CodeT.region (.p (opLoadOA (i := 2) Try.ag31 Try.cz31 rfl (.t rfl) rfl rfl) rfl <| .p (opCall (l13to_spec (x := dropL x) (small_of hsm rfl rfl rfl rfl rfl (.inl rfl) (.inr rfl) (.inl rfl))) Try.cb10 (.cons (.le (.t rfl) (VLe.agg (le_L x))) .nil)) rfl <| .p (opCall (fit_spec) Try.cb11 (.cons (.t rfl) .nil)) rfl <| .p (opMove (.t rfl)) rfl <| .p (opExtract (.t rfl) rfl) rfl <| .p (opExtract (.t rfl) rfl) rfl <| .p (opAssign (.t rfl)) rfl <| .p (opAssign (.t rfl)) rfl <| .nil ?_)
      refine EndT.thenN ?_
      rw [fit_of (fits_L hfit)]
      refine CodeT.seq ?_
      refine CodeT.region (.p (opLoadOA (i := 1) Try.ag31 Try.cz31 rfl (.t rfl) rfl rfl) rfl <| .p (opCall (l13to_spec (x := dropD x) (small_of hsm rfl rfl rfl rfl rfl (.inl rfl) (.inl rfl) (.inr rfl))) Try.cb10 (.cons (.le (.t rfl) (VLe.agg (le_D x))) .nil)) rfl <| .p (opCall (fit_spec) Try.cb11 (.cons (.t rfl) .nil)) rfl <| .p (opMove (.t rfl)) rfl <| .p (opExtract (.t rfl) rfl) rfl <| .p (opExtract (.t rfl) rfl) rfl <| .p (opAssign (.t rfl)) rfl <| .p (opAssign (.t rfl)) rfl <| .nil ?_)
      refine EndT.thenN ?_
      rw [fit_of (fits_D hfit)]
      refine CodeT.seq ?_
      refine CodeT.region (.p (opLoadOA (i := 0) Try.ag31 Try.cz31 rfl (.t rfl) rfl rfl) rfl <| .p (opCall (l13to_spec (x := dropA x) (small_of hsm rfl rfl rfl rfl rfl (.inr rfl) (.inr rfl) (.inr rfl))) Try.cb10 (.cons (.le (.t rfl) (VLe.agg (le_A x))) .nil)) rfl <| .p (opCall (fit_spec) Try.cb11 (.cons (.t rfl) .nil)) rfl <| .p (opMove (.t rfl)) rfl <| .p (opExtract (.t rfl) rfl) rfl <| .p (opExtract (.t rfl) rfl) rfl <| .p (opAssign (.t rfl)) rfl <| .p (opAssign (.t rfl)) rfl <| .nil ?_)
      refine EndT.thenN ?_
      rw [fit_of (fits_A hfit)]
      refine CodeT.seq ?_
      refine CodeT.region (.p (opMove (.t rfl)) rfl <| .p (opEql (.t rfl) (.c _)) rfl <| .p (opMove (.t rfl)) rfl <| .g (OpG.gT rfl rfl rfl rfl (fun hg => opMove (.t rfl))) rfl rfl <| .g (OpG.gT rfl rfl rfl rfl (fun hg => opEql (.when (.t rfl) hg) (.c _))) rfl rfl <| .p (opAnd (.t rfl) (.t rfl)) rfl <| .p (opMove (.t rfl)) rfl <| .g (OpG.gT rfl rfl rfl rfl (fun hg => opMove (.t rfl))) rfl rfl <| .g (OpG.gT rfl rfl rfl rfl (fun hg => opEql (.when (.t rfl) hg) (.c _))) rfl rfl <| .p (opAnd (.t rfl) (.t rfl)) rfl <| .p (opMove (.t rfl)) rfl <| .g (OpG.gT rfl rfl rfl rfl (fun hg => opMove (.t rfl))) rfl rfl <| .g (OpG.gT rfl rfl rfl rfl (fun hg => opEql (.when (.t rfl) hg) (.c _))) rfl rfl <| .p (opAnd (.t rfl) (.t rfl)) rfl <| .p (opMove (.t rfl)) rfl <| .g (OpG.gT rfl rfl rfl rfl (fun hg => opMove (.t rfl))) rfl rfl <| .g (OpG.gT rfl rfl rfl rfl (fun hg => opEqlS (.when (.t rfl) hg) (.s [] rfl rfl))) rfl rfl <| .p (opAnd (.t rfl) (.t rfl)) rfl <| .p (opMove (.t rfl)) rfl <| .g (OpG.gT rfl rfl rfl rfl (fun hg => opMove (.t rfl))) rfl rfl <| .g (OpG.gT rfl rfl rfl rfl (fun hg => opEql (.when (.t rfl) hg) (.c _))) rfl rfl <| .p (opAnd (.t rfl) (.t rfl)) rfl <| .p (opAssign (.t rfl)) rfl <| .nil ?_)
      refine EndT.thenN ?_
      refine CodeT.ret (Post.retP rfl rfl ?_)
      exact VLe.prop (by simp)

end Go.Proofs.Ytbiahdejccipaaa
