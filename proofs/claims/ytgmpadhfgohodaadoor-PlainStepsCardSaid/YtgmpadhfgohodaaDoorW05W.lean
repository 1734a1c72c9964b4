/-
  Walks, printed by a program (gen.py) out of what its author says of each function.
-/
import Derived.Test.YtgmpadhfgohodaaDoorTab
import Derived.Test.YtgmpadhfgohodaaDoorW05E
namespace Go.Proofs.YtgmpadhfgohodaaDoor
open Go.Hl Go.RowKit
set_option linter.unusedVariables false
set_option maxRecDepth 100000

theorem len64_spec {a : Nat} (hp0 : a < 18446744073709551616) : FnP Tryd.prog 75 [uV a] (iV (blN a : Int)) := by
  refine FnE.intro 25 Tryd.func75 rfl rfl rfl fun w0 S0 M => ?_
  refine CodeT.seq ?_
  refine CodeT.region (.p (opAssign (.c _)) rfl <| .nil ?_)
  refine EndT.thenN ?_
  refine CodeT.cut (σ := Nat × Nat) (fun _ => []) (fun g => [(0, uV g.1), (2, iV (g.2 : Int))]) (fun g => blN a = blN g.1 + g.2 ∧ g.1 < 4294967296 ∧ g.2 ≤ 32) ?_ ?_
  ·
    refine CodeT.seq ?_
    refine CodeT.region (.p (opMove (.t rfl)) rfl <| .p (opGeq (.t rfl) (.c _)) rfl <| .nil ?_)
    refine EndT.thenN ?_
    refine CodeT.cond (.t rfl) (fun c0 => ?_) (fun c0 => ?_)
    ·
      refine CodeT.seq ?_
      refine CodeT.region (.p (opMove (.t rfl)) rfl <| .p (opShrN (s := 32) (.t rfl) (.c _) (by decide)) rfl <| .p (opAssign (.t rfl)) rfl <| .nil ?_)
      refine EndT.thenN ?_
      refine CodeT.region (.p (opAssign (.c _)) rfl <| .nil ?_)
      refine EndT.meet (a / 2 ^ 32, 32) ⟨bl_div (by omega), by omega, by omega⟩ rfl (.get rfl (VLe.refl _) (.get rfl (VLe.refl _) (.keep 6 rfl rfl)))
    ·
      refine CodeT.skip (EndT.meet (a, 0) ⟨rfl, by omega, by omega⟩ rfl (.get rfl (VLe.refl _) (.get rfl (VLe.refl _) (.keep 2 rfl rfl))))
  ·
    intro ⟨x, n⟩ ⟨h1, h2, h3⟩
    simp only at h1 h2 h3 ⊢
    refine CodeT.cut (σ := Nat × Nat) (fun _ => []) (fun g => [(0, uV g.1), (2, iV (g.2 : Int))]) (fun g => blN a = blN g.1 + g.2 ∧ g.1 < 65536 ∧ g.2 ≤ 48) ?_ ?_
    ·
      refine CodeT.seq ?_
      refine CodeT.region (.p (opMove (.t rfl)) rfl <| .p (opGeq (.t rfl) (.c _)) rfl <| .nil ?_)
      refine EndT.thenN ?_
      refine CodeT.cond (.t rfl) (fun c1 => ?_) (fun c1 => ?_)
      ·
        refine CodeT.seq ?_
        refine CodeT.region (.p (opMove (.t rfl)) rfl <| .p (opShrN (s := 16) (.t rfl) (.c _) (by decide)) rfl <| .p (opAssign (.t rfl)) rfl <| .nil ?_)
        refine EndT.thenN ?_
        refine CodeT.region (.p (opMove (.t rfl)) rfl <| .p (opAddF (.t rfl) (.c _) (fits_i64 (by omega) (by omega))) rfl <| .p (opAssign (.t rfl)) rfl <| .nil ?_)
        refine EndT.meet (x / 2 ^ 16, n + 16) ⟨by have := bl_div (a := x) (k := 16) (by omega); simp only; omega, by omega, by omega⟩ rfl (.get rfl (VLe.refl _) (.get rfl (VLe.refl _) (.keep 8 rfl rfl)))
      ·
        refine CodeT.skip (EndT.meet (x, n) ⟨h1, by omega, by omega⟩ rfl (.get rfl (VLe.refl _) (.get rfl (VLe.refl _) (.keep 2 rfl rfl))))
    ·
      intro ⟨y, m⟩ ⟨k1, k2, k3⟩
      simp only at k1 k2 k3 ⊢
      refine CodeT.cut (σ := Nat × Nat) (fun _ => []) (fun g => [(0, uV g.1), (2, iV (g.2 : Int))]) (fun g => blN a = blN g.1 + g.2 ∧ g.1 < 256 ∧ g.2 ≤ 56) ?_ ?_
      ·
        refine CodeT.seq ?_
        refine CodeT.region (.p (opMove (.t rfl)) rfl <| .p (opGeq (.t rfl) (.c _)) rfl <| .nil ?_)
        refine EndT.thenN ?_
        refine CodeT.cond (.t rfl) (fun c2 => ?_) (fun c2 => ?_)
        ·
          refine CodeT.seq ?_
          refine CodeT.region (.p (opMove (.t rfl)) rfl <| .p (opShrN (s := 8) (.t rfl) (.c _) (by decide)) rfl <| .p (opAssign (.t rfl)) rfl <| .nil ?_)
          refine EndT.thenN ?_
          refine CodeT.region (.p (opMove (.t rfl)) rfl <| .p (opAddF (.t rfl) (.c _) (fits_i64 (by omega) (by omega))) rfl <| .p (opAssign (.t rfl)) rfl <| .nil ?_)
          refine EndT.meet (y / 2 ^ 8, m + 8) ⟨by have := bl_div (a := y) (k := 8) (by omega); simp only; omega, by omega, by omega⟩ rfl (.get rfl (VLe.refl _) (.get rfl (VLe.refl _) (.keep 8 rfl rfl)))
        ·
          refine CodeT.skip (EndT.meet (y, m) ⟨k1, by omega, by omega⟩ rfl (.get rfl (VLe.refl _) (.get rfl (VLe.refl _) (.keep 2 rfl rfl))))
      ·
        intro ⟨z, q⟩ ⟨j1, j2, j3⟩
        simp only at j1 j2 j3 ⊢
        have hbz := bl_le (a := z) (n := 8) (by omega)
        refine CodeT.seq ?_
        refine CodeT.region (.p (opMove (.t rfl)) rfl <| .p (opMove (.t rfl)) rfl <| .p (opConvF Tryd.underlying37 Tryd.underlying5 (.t rfl) (fits_u8 (by omega) (by omega))) rfl <| .p (opIndexS Tryd.underlying9 (.s len8L (by decide +kernel) (by decide)) (.t rfl) rfl (len8_at j2)) rfl <| .p (opConvF Tryd.underlying5 Tryd.underlying3 (.t rfl) (fits_i64 (by rw [bl8 z j2]; omega) (by rw [bl8 z j2]; omega))) rfl <| .p (opAddF (.t rfl) (.t rfl) (fits_i64 (by rw [bl8 z j2]; omega) (by rw [bl8 z j2]; omega))) rfl <| .p (opAssign (.t rfl)) rfl <| .nil ?_)
        refine EndT.thenN ?_
        refine CodeT.ret (Post.retP rfl rfl ?_)
        exact VLe.int (by rw [bl8 z j2]; omega)

theorem clz64_spec {a : Nat} (hp0 : a < 18446744073709551616) : FnP Tryd.prog 63 [uV a] (iV (64 - (blN a : Int))) := by
  refine FnE.intro 6 Tryd.func63 rfl rfl rfl fun w0 S0 M => ?_
  have hb := bl_le (a := a) (n := 64) hp0
  refine CodeT.seq ?_
  refine CodeT.region (.p (opAssign (.c _)) rfl <| .nil ?_)
  refine EndT.thenN ?_
  refine CodeT.seq ?_
  refine CodeT.region (.p (opMove (.t rfl)) rfl <| .p (opCall (len64_spec hp0) Tryd.cb75 (.cons (.t rfl) .nil)) rfl <| .p (opSubF (.c _) (.t rfl) (fits_i64 (by omega) (by omega))) rfl <| .p (opAssign (.t rfl)) rfl <| .nil ?_)
  refine EndT.thenN ?_
  refine CodeT.ret (Post.retP rfl rfl ?_)
  exact VLe.refl _

theorem ctz64_spec {a : Nat} (hp0 : a < 18446744073709551616) : FnE Tryd.prog 64 [uV a] [tabH 0 .u8 Lib.deBruijn64tab] (γ := Unit) (fun _ => True) (fun _ => []) (fun _ => iV (Lib.ctz 64 a : Int)) := by
  refine FnE.intro 14 Tryd.func64 rfl rfl rfl fun w0 S0 M => ?_
  refine CodeT.seq ?_
  refine CodeT.region (.p (opAssign (.c _)) rfl <| .nil ?_)
  refine EndT.thenN ?_
  refine CodeT.seq ?_
  refine CodeT.seq ?_
  refine CodeT.region (.p (opMove (.t rfl)) rfl <| .p (opEql (.t rfl) (.c _)) rfl <| .nil ?_)
  refine EndT.thenN ?_
  refine CodeT.cond (.t rfl) (fun c0 => ?_) (fun c0 => ?_)
  ·
    have ha0 : a = 0 := by omega
    subst ha0
    refine CodeT.seq ?_
    refine CodeT.region (.p (opAssign (.c _)) rfl <| .nil ?_)
    refine EndT.thenN ?_
    refine CodeT.ret (EndT.thenR (Post.retP rfl rfl ?_))
    exact VLe.refl _
  ·
    have ha0 : a ≠ 0 := by omega
    obtain ⟨hlow, hk⟩ := Lib.lowest_bit 64 a ha0 hp0
    obtain ⟨hi, htab⟩ := Lib.deBruijn64_at _ hk
    refine CodeT.skip (EndT.thenN ?_)
    refine CodeT.seq ?_
    refine CodeT.region (.p (opMove (.t rfl)) rfl <| .p (opMove (.t rfl)) rfl <| .p ((opNeg (.t rfl)).le (VLe.int (show _ = ((18446744073709551616 - a : Nat) : Int) by rw [IntKind.wrap_u64]; omega))) rfl <| .p ((opAnd_u64 (by omega) (by omega) (.t rfl) (.t rfl)).le (VLe.int (congrArg Nat.cast hlow))) rfl <| .p ((opMul_u64 (a := 2 ^ Lib.ctz 64 a) (b := 285870213051353865) (.t rfl) (.c _)).le (VLe.refl _)) rfl <| .p (opShrN (s := 58) (.t rfl) (.c _) (by decide)) rfl <| .p (opIndexAddrO (2 ^ Lib.ctz 64 a * 285870213051353865 % 18446744073709551616 / 2 ^ 58) Tryd.underlying120 Tryd.cz5 rfl (.g 0) (.t rfl) rfl (by omega)) rfl <| .p ((opLoadTab (i := 0) Tryd.ag5 (.t rfl) rfl (by have h64 : Lib.deBruijn64tab.length = 64 := rfl; rw [Nat.zero_add, Nat.mul_one, h64]; exact hi)).le (VLe.int (show _ = ((Lib.ctz 64 a : Nat) : Int) from congrArg Nat.cast (by rw [Nat.zero_add, Nat.mul_one]; exact htab)))) rfl <| .p (opConvF Tryd.underlying5 Tryd.underlying3 (.t rfl) (fits_i64 (by omega) (by omega))) rfl <| .p (opAssign (.t rfl)) rfl <| .nil ?_)
    refine EndT.thenN ?_
    refine CodeT.ret (Post.retP rfl rfl ?_)
    exact VLe.refl _

theorem pop64_spec {a : Nat} (hp0 : a < 18446744073709551616) : FnP Tryd.prog 65 [uV a] (iV (popN 64 a : Int)) := by
  refine FnE.intro 35 Tryd.func65 rfl rfl rfl fun w0 S0 M => ?_
  obtain ⟨z1, z2, z3, z4, z5, z6⟩ := @ones64 a _ _ _ _ _ hp0 rfl rfl rfl rfl rfl
  generalize hy1 : (a / 2 &&& 6148914691236517205) + (a &&& 6148914691236517205) = y1 at *
  generalize hy2 : (y1 / 4 &&& 3689348814741910323) + (y1 &&& 3689348814741910323) = y2 at *
  generalize hy3 : (y2 / 16 + y2) &&& 1085102592571150095 = y3 at *
  refine CodeT.seq ?_
  refine CodeT.region (.p (opAssign (.c _)) rfl <| .nil ?_)
  refine EndT.thenN ?_
  refine CodeT.seq ?_
  refine CodeT.region (.p (opMove (.t rfl)) rfl <| .p (opShrN (s := 1) (.t rfl) (.c _) (by decide)) rfl <| .p (opAnd_u64 (b := 6148914691236517205) (by omega) (by decide) (.t rfl) (.c _)) rfl <| .p (opMove (.t rfl)) rfl <| .p (opAnd_u64 (b := 6148914691236517205) (by omega) (by decide) (.t rfl) (.c _)) rfl <| .p ((opAdd_u64 (.t rfl) (.t rfl)).le (VLe.int (show _ = (y1 : Int) by rw [← hy1]; rw [← hy1] at z1; exact congrArg Nat.cast (Nat.mod_eq_of_lt z1)))) rfl <| .p (opAssign (.t rfl)) rfl <| .nil ?_)
  refine EndT.thenN ?_
  refine CodeT.seq ?_
  refine CodeT.region (.p (opMove (.t rfl)) rfl <| .p (opShrN (s := 2) (.t rfl) (.c _) (by decide)) rfl <| .p (opAnd_u64 (b := 3689348814741910323) (by omega) (by decide) (.t rfl) (.c _)) rfl <| .p (opMove (.t rfl)) rfl <| .p (opAnd_u64 (b := 3689348814741910323) (by omega) (by decide) (.t rfl) (.c _)) rfl <| .p ((opAdd_u64 (.t rfl) (.t rfl)).le (VLe.int (show _ = (y2 : Int) by rw [← hy2]; rw [← hy2] at z2; exact congrArg Nat.cast (Nat.mod_eq_of_lt z2)))) rfl <| .p (opAssign (.t rfl)) rfl <| .nil ?_)
  refine EndT.thenN ?_
  refine CodeT.seq ?_
  refine CodeT.region (.p (opMove (.t rfl)) rfl <| .p (opShrN (s := 4) (.t rfl) (.c _) (by decide)) rfl <| .p (opMove (.t rfl)) rfl <| .p ((opAdd_u64 (.t rfl) (.t rfl)).le (VLe.int (show _ = ((y2 / 16 + y2 : Nat) : Int) from congrArg Nat.cast (Nat.mod_eq_of_lt z3)))) rfl <| .p ((opAnd_u64 (b := 1085102592571150095) (by omega) (by decide) (.t rfl) (.c _)).le (VLe.int (congrArg Nat.cast hy3))) rfl <| .p (opAssign (.t rfl)) rfl <| .nil ?_)
  refine EndT.thenN ?_
  refine CodeT.seq ?_
  refine CodeT.region (.p (opMove (.t rfl)) rfl <| .p (opMove (.t rfl)) rfl <| .p (opShrN (s := 8) (.t rfl) (.c _) (by decide)) rfl <| .p ((opAdd_u64 (.t rfl) (.t rfl)).le (VLe.int (show _ = ((y3 + y3 / 256 : Nat) : Int) from congrArg Nat.cast (Nat.mod_eq_of_lt (by omega))))) rfl <| .p (opAssign (.t rfl)) rfl <| .nil ?_)
  refine EndT.thenN ?_
  refine CodeT.seq ?_
  refine CodeT.region (.p (opMove (.t rfl)) rfl <| .p (opMove (.t rfl)) rfl <| .p (opShrN (s := 16) (.t rfl) (.c _) (by decide)) rfl <| .p ((opAdd_u64 (.t rfl) (.t rfl)).le (VLe.int (show _ = (((y3 + y3 / 256) + (y3 + y3 / 256) / 65536 : Nat) : Int) from congrArg Nat.cast (Nat.mod_eq_of_lt (by omega))))) rfl <| .p (opAssign (.t rfl)) rfl <| .nil ?_)
  refine EndT.thenN ?_
  refine CodeT.seq ?_
  refine CodeT.region (.p (opMove (.t rfl)) rfl <| .p (opMove (.t rfl)) rfl <| .p (opShrN (s := 32) (.t rfl) (.c _) (by decide)) rfl <| .p ((opAdd_u64 (.t rfl) (.t rfl)).le (VLe.int (show _ = ((((y3 + y3 / 256) + (y3 + y3 / 256) / 65536) + ((y3 + y3 / 256) + (y3 + y3 / 256) / 65536) / 4294967296 : Nat) : Int) from congrArg Nat.cast (Nat.mod_eq_of_lt (by omega))))) rfl <| .p (opAssign (.t rfl)) rfl <| .nil ?_)
  refine EndT.thenN ?_
  refine CodeT.seq ?_
  refine CodeT.region (.p (opMove (.t rfl)) rfl <| .p (opConvF Tryd.underlying37 Tryd.underlying3 (.t rfl) (fits_i64 (by omega) (by omega))) rfl <| .p (opAnd_i64 (b := 127) (by omega) (by decide) (.t rfl) (.c _)) rfl <| .p (opAssign (.t rfl)) rfl <| .nil ?_)
  refine EndT.thenN ?_
  refine CodeT.ret (Post.retP rfl rfl ?_)
  exact VLe.int (congrArg Nat.cast ((and127 _).trans z5))

theorem rotl32_spec {a : Nat} {k : Int} (hp0 : a < 4294967296) : FnP Tryd.prog 83 [intV .u32 (a : Int), iV k] (intV .u32 (rotF 32 a (k % 32).toNat : Int)) := by
  refine FnE.intro 17 Tryd.func83 rfl rfl rfl fun w0 S0 M => ?_
  have hk0 := Int.emod_nonneg k (show (32 : Int) ≠ 0 by decide)
  have hk1 := Int.emod_lt_of_pos k (show (0 : Int) < 32 by decide)
  have hda := Nat.div_le_self a
  refine CodeT.seq ?_
  refine CodeT.region (.p (opAssign (.c _)) rfl <| .nil ?_)
  refine EndT.thenN ?_
  refine CodeT.seq ?_
  refine CodeT.region (.p (opMove (.t rfl)) rfl <| .p ((opConv Tryd.underlying3 Tryd.underlying121 (.t rfl)).le (VLe.int (u64_cast k))) rfl <| .p ((opAnd_u64 (b := 31) (by omega) (by decide) (.t rfl) (.c _)).le (VLe.int (congrArg Nat.cast (and31 k)))) rfl <| .p (opAssign (.t rfl)) rfl <| .nil ?_)
  refine EndT.thenN ?_
  refine CodeT.seq ?_
  refine CodeT.region (.p (opMove (.t rfl)) rfl <| .p (opMove (.t rfl)) rfl <| .p (opShl_u32 (.t rfl) (.t rfl) (by omega)) rfl <| .p (opMove (.t rfl)) rfl <| .p (opMove (.t rfl)) rfl <| .p ((opSub_u64 (a := 32) (by omega) (.c _) (.t rfl)).le (VLe.int (show _ = ((32 - (k % 32).toNat : Nat) : Int) by omega))) rfl <| .p (opShrN (.t rfl) (.t rfl) (by show _ ≤ 32; omega)) rfl <| .p (opOr_u32 (Nat.mod_lt _ (by decide)) (Nat.lt_of_le_of_lt (hda _) hp0) (.t rfl) (.t rfl)) rfl <| .p (opAssign (.t rfl)) rfl <| .nil ?_)
  refine EndT.thenN ?_
  refine CodeT.ret (Post.retP rfl rfl ?_)
  exact VLe.int (congrArg Nat.cast (rot_or (n := 32) hp0 (by omega)))

theorem rotl64_spec {a : Nat} {k : Int} (hp0 : a < 18446744073709551616) : FnP Tryd.prog 84 [intV .u64 (a : Int), iV k] (intV .u64 (rotF 64 a (k % 64).toNat : Int)) := by
  refine FnE.intro 17 Tryd.func84 rfl rfl rfl fun w0 S0 M => ?_
  have hk0 := Int.emod_nonneg k (show (64 : Int) ≠ 0 by decide)
  have hk1 := Int.emod_lt_of_pos k (show (0 : Int) < 64 by decide)
  have hda := Nat.div_le_self a
  refine CodeT.seq ?_
  refine CodeT.region (.p (opAssign (.c _)) rfl <| .nil ?_)
  refine EndT.thenN ?_
  refine CodeT.seq ?_
  refine CodeT.region (.p (opMove (.t rfl)) rfl <| .p ((opConv Tryd.underlying3 Tryd.underlying121 (.t rfl)).le (VLe.int (u64_cast k))) rfl <| .p ((opAnd_u64 (b := 63) (by omega) (by decide) (.t rfl) (.c _)).le (VLe.int (congrArg Nat.cast (and63 k)))) rfl <| .p (opAssign (.t rfl)) rfl <| .nil ?_)
  refine EndT.thenN ?_
  refine CodeT.seq ?_
  refine CodeT.region (.p (opMove (.t rfl)) rfl <| .p (opMove (.t rfl)) rfl <| .p (opShl_u64 (.t rfl) (.t rfl) (by omega)) rfl <| .p (opMove (.t rfl)) rfl <| .p (opMove (.t rfl)) rfl <| .p ((opSub_u64 (a := 64) (by omega) (.c _) (.t rfl)).le (VLe.int (show _ = ((64 - (k % 64).toNat : Nat) : Int) by omega))) rfl <| .p (opShrN (.t rfl) (.t rfl) (by show _ ≤ 64; omega)) rfl <| .p (opOr_u64 (Nat.mod_lt _ (by decide)) (Nat.lt_of_le_of_lt (hda _) hp0) (.t rfl) (.t rfl)) rfl <| .p (opAssign (.t rfl)) rfl <| .nil ?_)
  refine EndT.thenN ?_
  refine CodeT.ret (Post.retP rfl rfl ?_)
  exact VLe.int (congrArg Nat.cast (rot_or (n := 64) hp0 (by omega)))

theorem wright_spec {m : Int} : FnP Tryd.prog 62 [iV m] (propV (m = 32 ∨ m = 64)) := by
  refine FnE.intro 9 Tryd.func62 rfl rfl rfl fun w0 S0 M => ?_
  refine CodeT.seq ?_
  refine CodeT.region (.p (opAssign .cf) rfl <| .nil ?_)
  refine EndT.thenN ?_
  refine CodeT.seq ?_
  refine CodeT.region (.p (opMove (.t rfl)) rfl <| .p (opEql (.t rfl) (.c _)) rfl <| .p (opMove (.t rfl)) rfl <| .g (OpG.gF rfl rfl rfl rfl (fun hg => opMove (.t rfl))) rfl rfl <| .g (OpG.gF rfl rfl rfl rfl (fun hg => opEql (.when (.t rfl) hg) (.c _))) rfl rfl <| .p (opOr (.t rfl) (.t rfl)) rfl <| .p (opAssign (.t rfl)) rfl <| .nil ?_)
  refine EndT.thenN ?_
  refine CodeT.ret (Post.retP rfl rfl ?_)
  exact VLe.refl _

theorem wcut_spec {n a : Nat} (hp0 : WN n) (hp1 : a < 18446744073709551616) : FnP Tryd.prog 59 [iV (n : Int), uV a] (uV (a % 2 ^ n)) := by
  refine FnE.intro 11 Tryd.func59 rfl rfl rfl fun w0 S0 M => ?_
  refine CodeT.seq ?_
  refine CodeT.region (.p (opAssign (.c _)) rfl <| .nil ?_)
  refine EndT.thenN ?_
  refine CodeT.seq ?_
  refine CodeT.seq ?_
  refine CodeT.region (.p (opMove (.t rfl)) rfl <| .p (opEql (.t rfl) (.c _)) rfl <| .nil ?_)
  refine EndT.thenN ?_
  refine CodeT.cond (.t rfl) (fun c0 => ?_) (fun c0 => ?_)
  ·
    have hn : n = 32 := by omega
    subst hn
    refine CodeT.seq ?_
    refine CodeT.region (.p (opMove (.t rfl)) rfl <| .p (opConv Tryd.underlying37 Tryd.underlying119 (.t rfl)) rfl <| .p (opConv Tryd.underlying119 Tryd.underlying37 (.t rfl)) rfl <| .p (opAssign (.t rfl)) rfl <| .nil ?_)
    refine EndT.thenN ?_
    refine CodeT.ret (EndT.thenR (Post.retP rfl rfl ?_))
    exact VLe.int (by rw [IntKind.wrap_u64, IntKind.wrap_u32]; omega)
  ·
    have hn : n = 64 := by rcases hp0 with h | h <;> omega
    subst hn
    refine CodeT.skip (EndT.thenN ?_)
    refine CodeT.seq ?_
    refine CodeT.region (.p (opMove (.t rfl)) rfl <| .p (opAssign (.t rfl)) rfl <| .nil ?_)
    refine EndT.thenN ?_
    refine CodeT.ret (Post.retP rfl rfl ?_)
    exact VLe.int (by omega)

theorem wsign_spec {n a : Nat} (hp0 : WN n) (hp1 : a < 2 ^ n) : FnP Tryd.prog 76 [iV (n : Int), uV a] (iV (sgnN n a)) := by
  refine FnE.intro 12 Tryd.func76 rfl rfl rfl fun w0 S0 M => ?_
  refine CodeT.seq ?_
  refine CodeT.region (.p (opAssign (.c _)) rfl <| .nil ?_)
  refine EndT.thenN ?_
  refine CodeT.seq ?_
  refine CodeT.seq ?_
  refine CodeT.region (.p (opMove (.t rfl)) rfl <| .p (opEql (.t rfl) (.c _)) rfl <| .nil ?_)
  refine EndT.thenN ?_
  refine CodeT.cond (.t rfl) (fun c0 => ?_) (fun c0 => ?_)
  ·
    have hn : n = 32 := by omega
    subst hn
    refine CodeT.seq ?_
    refine CodeT.region (.p (opMove (.t rfl)) rfl <| .p (opConv Tryd.underlying37 Tryd.underlying21 (.t rfl)) rfl <| .p (opConv Tryd.underlying21 Tryd.underlying2 (.t rfl)) rfl <| .p (opAssign (.t rfl)) rfl <| .nil ?_)
    refine EndT.thenN ?_
    refine CodeT.ret (EndT.thenR (Post.retP rfl rfl ?_))
    exact VLe.int (by rw [← sgn32, Nat.mod_eq_of_lt hp1])
  ·
    have hn : n = 64 := by rcases hp0 with h | h <;> omega
    subst hn
    refine CodeT.skip (EndT.thenN ?_)
    refine CodeT.seq ?_
    refine CodeT.region (.p (opMove (.t rfl)) rfl <| .p (opConv Tryd.underlying37 Tryd.underlying2 (.t rfl)) rfl <| .p (opAssign (.t rfl)) rfl <| .nil ?_)
    refine EndT.thenN ?_
    refine CodeT.ret (Post.retP rfl rfl ?_)
    exact VLe.int (sgn64 hp1).symm

theorem wrest_spec {a b : Int} (hp0 : b ≠ 0) : FnP Tryd.prog 77 [iV a, iV b] (iV (a.tmod b)) := by
  refine FnE.intro 10 Tryd.func77 rfl rfl rfl fun w0 S0 M => ?_
  refine CodeT.seq ?_
  refine CodeT.region (.p (opAssign (.c _)) rfl <| .nil ?_)
  refine EndT.thenN ?_
  refine CodeT.seq ?_
  refine CodeT.seq ?_
  refine CodeT.region (.p (opMove (.t rfl)) rfl <| .p (opEql (.t rfl) (.c _)) rfl <| .nil ?_)
  refine EndT.thenN ?_
  refine CodeT.cond (.t rfl) (fun c0 => ?_) (fun c0 => ?_)
  ·
    refine CodeT.seq ?_
    refine CodeT.region (.p (opAssign (.c _)) rfl <| .nil ?_)
    refine EndT.thenN ?_
    refine CodeT.ret (EndT.thenR (Post.retP rfl rfl ?_))
    exact VLe.int (by rw [c0, Int.tmod_neg, Int.tmod_one])
  ·
    refine CodeT.skip (EndT.thenN ?_)
    refine CodeT.seq ?_
    refine CodeT.region (.p (opMove (.t rfl)) rfl <| .p (opMove (.t rfl)) rfl <| .p (opRemT (.t rfl) (.t rfl) hp0) rfl <| .p (opAssign (.t rfl)) rfl <| .nil ?_)
    refine EndT.thenN ?_
    refine CodeT.ret (Post.retP rfl rfl ?_)
    exact VLe.refl _

theorem wturn_spec {n a : Nat} {k : Int} (hp0 : WN n) (hp1 : a < 2 ^ n) : FnP Tryd.prog 78 [iV (n : Int), uV a, iV k] (uV (rotF n a (k % n).toNat)) := by
  refine FnE.intro 17 Tryd.func78 rfl rfl rfl fun w0 S0 M => ?_
  refine CodeT.seq ?_
  refine CodeT.region (.p (opAssign (.c _)) rfl <| .nil ?_)
  refine EndT.thenN ?_
  refine CodeT.seq ?_
  refine CodeT.seq ?_
  refine CodeT.region (.p (opMove (.t rfl)) rfl <| .p (opEql (.t rfl) (.c _)) rfl <| .nil ?_)
  refine EndT.thenN ?_
  refine CodeT.cond (.t rfl) (fun c0 => ?_) (fun c0 => ?_)
  ·
    have hn : n = 32 := by omega
    subst hn
    have hr := rot_lt (n := 32) (k := (k % 32).toNat) hp1 (by omega)
    refine CodeT.seq ?_
    refine CodeT.region (.p (opMove (.t rfl)) rfl <| .p (opConvF Tryd.underlying37 Tryd.underlying119 (.t rfl) (fits_u32 (by omega) (by omega))) rfl <| .p (opMove (.t rfl)) rfl <| .p (opCall (rotl32_spec hp1) Tryd.cb83 (.cons (.t rfl) (.cons (.t rfl) .nil))) rfl <| .p (opConvF Tryd.underlying119 Tryd.underlying37 (.t rfl) (fits_u64 (by omega) (by omega))) rfl <| .p (opAssign (.t rfl)) rfl <| .nil ?_)
    refine EndT.thenN ?_
    refine CodeT.ret (EndT.thenR (Post.retP rfl rfl ?_))
    exact VLe.refl _
  ·
    have hn : n = 64 := by rcases hp0 with h | h <;> omega
    subst hn
    refine CodeT.skip (EndT.thenN ?_)
    refine CodeT.seq ?_
    refine CodeT.region (.p (opMove (.t rfl)) rfl <| .p (opMove (.t rfl)) rfl <| .p (opCall (rotl64_spec hp1) Tryd.cb84 (.cons (.t rfl) (.cons (.t rfl) .nil))) rfl <| .p (opAssign (.t rfl)) rfl <| .nil ?_)
    refine EndT.thenN ?_
    refine CodeT.ret (Post.retP rfl rfl ?_)
    exact VLe.refl _

theorem wis_spec {p : Prop} : FnP Tryd.prog 66 [propV p] (uV (isN p)) := by
  refine FnE.intro 4 Tryd.func66 rfl rfl rfl fun w0 S0 M => ?_
  refine CodeT.seq ?_
  refine CodeT.region (.p (opAssign (.c _)) rfl <| .nil ?_)
  refine EndT.thenN ?_
  refine CodeT.seq ?_
  refine CodeT.seq ?_
  refine CodeT.region (.p (opMove (.t rfl)) rfl <| .nil ?_)
  refine EndT.thenN ?_
  refine CodeT.cond (.t rfl) (fun c0 => ?_) (fun c0 => ?_)
  ·
    refine CodeT.seq ?_
    refine CodeT.region (.p (opAssign (.c _)) rfl <| .nil ?_)
    refine EndT.thenN ?_
    refine CodeT.ret (EndT.thenR (Post.retP rfl rfl ?_))
    exact VLe.int (by rw [isN_pos c0]; rfl)
  ·
    refine CodeT.skip (EndT.thenN ?_)
    refine CodeT.seq ?_
    refine CodeT.region (.p (opAssign (.c _)) rfl <| .nil ?_)
    refine EndT.thenN ?_
    refine CodeT.ret (Post.retP rfl rfl ?_)
    exact VLe.int (by rw [isN_neg c0]; rfl)

theorem wless_spec {n a b : Nat} {s : Prop} [Decidable s] (hp0 : WN n) (hp1 : a < 2 ^ n) (hp2 : b < 2 ^ n) : FnP Tryd.prog 67 [propV s, iV (n : Int), uV a, uV b] (propV (lessF n s a b)) := by
  refine FnE.intro 20 Tryd.func67 rfl rfl rfl fun w0 S0 M => ?_
  refine CodeT.seq ?_
  refine CodeT.region (.p (opAssign .cf) rfl <| .nil ?_)
  refine EndT.thenN ?_
  refine CodeT.seq ?_
  refine CodeT.seq ?_
  refine CodeT.region (.p (opMove (.t rfl)) rfl <| .nil ?_)
  refine EndT.thenN ?_
  refine CodeT.cond (.t rfl) (fun c0 => ?_) (fun c0 => ?_)
  ·
    refine CodeT.seq ?_
    refine CodeT.region (.p (opMove (.t rfl)) rfl <| .p (opMove (.t rfl)) rfl <| .p (opCall (wsign_spec hp0 hp1) Tryd.cb76 (.cons (.t rfl) (.cons (.t rfl) .nil))) rfl <| .p (opMove (.t rfl)) rfl <| .p (opMove (.t rfl)) rfl <| .p (opCall (wsign_spec hp0 hp2) Tryd.cb76 (.cons (.t rfl) (.cons (.t rfl) .nil))) rfl <| .p (opLss (.t rfl) (.t rfl)) rfl <| .p (opAssign (.t rfl)) rfl <| .nil ?_)
    refine EndT.thenN ?_
    refine CodeT.ret (EndT.thenR (Post.retP rfl rfl ?_))
    exact VLe.prop (by unfold lessF; rw [if_pos c0])
  ·
    refine CodeT.skip (EndT.thenN ?_)
    refine CodeT.seq ?_
    refine CodeT.region (.p (opMove (.t rfl)) rfl <| .p (opMove (.t rfl)) rfl <| .p (opLss (.t rfl) (.t rfl)) rfl <| .p (opAssign (.t rfl)) rfl <| .nil ?_)
    refine EndT.thenN ?_
    refine CodeT.ret (Post.retP rfl rfl ?_)
    exact VLe.prop (by unfold lessF; rw [if_neg c0]; omega)

theorem wdivides_spec {n A B : Nat} {op : Int} (hp0 : WN n) (hp1 : A < 2 ^ n) (hp2 : B < 2 ^ n) : FnP Tryd.prog 68 [iV op, iV (n : Int), uV A, uV B] (iV (trapF n op A B)) := by
  refine FnE.intro 35 Tryd.func68 rfl rfl rfl fun w0 S0 M => ?_
  have hn1 : 1 ≤ n ∧ n ≤ 64 := by rcases hp0 with rfl | rfl <;> omega
  have hpn : 1 * 2 ^ (n - 1) % 18446744073709551616 = 2 ^ (n - 1) := by rcases hp0 with rfl | rfl <;> rfl
  refine CodeT.seq ?_
  refine CodeT.region (.p (opAssign (.c _)) rfl <| .nil ?_)
  refine EndT.thenN ?_
  refine CodeT.seq ?_
  refine CodeT.block ?_
  refine CodeT.seq ?_
  refine CodeT.region (.p (opMove (.t rfl)) rfl <| .p (opLss (.t rfl) (.c _)) rfl <| .p (opMove (.t rfl)) rfl <| .g (OpG.gF rfl rfl rfl rfl (fun hg => opMove (.t rfl))) rfl rfl <| .g (OpG.gF rfl rfl rfl rfl (fun hg => opGtr (.when (.t rfl) hg) (.c _))) rfl rfl <| .p (opOr (.t rfl) (.t rfl)) rfl <| .p (opAssign (.t rfl)) rfl <| .nil ?_)
  refine EndT.thenN ?_
  refine CodeT.cond (.t rfl) (fun c0 => ?_) (fun c0 => ?_)
  ·
    refine CodeT.skip (EndT.blkN (EndT.thenN ?_))
    refine CodeT.seq ?_
    refine CodeT.region (.p (opAssign (.c _)) rfl <| .nil ?_)
    refine EndT.thenN ?_
    refine CodeT.ret (Post.retP rfl rfl ?_)
    exact VLe.int (by unfold trapF; rw [if_pos c0])
  ·
    refine CodeT.seq ?_
    refine CodeT.region (.p (opMove (.t rfl)) rfl <| .p (opEql (.t rfl) (.c _)) rfl <| .p (opAssign (.t rfl)) rfl <| .nil ?_)
    refine EndT.thenN ?_
    refine CodeT.cond (.t rfl) (fun c1 => ?_) (fun c1 => ?_)
    ·
      refine CodeT.seq ?_
      refine CodeT.region (.p (opAssign (.c _)) rfl <| .nil ?_)
      refine EndT.thenN ?_
      refine CodeT.ret (EndT.blkR (EndT.thenR (Post.retP rfl rfl ?_)))
      exact VLe.int (by unfold trapF; rw [if_neg c0, if_pos (by omega)])
    ·
      refine CodeT.seq ?_
      refine CodeT.region (.p (opMove (.t rfl)) rfl <| .p (opEql (.t rfl) (.c _)) rfl <| .p (opMove (.t rfl)) rfl <| .g (OpG.gT rfl rfl rfl rfl (fun hg => opMove (.t rfl))) rfl rfl <| .g (OpG.gT rfl rfl rfl rfl (fun hg => opMove (.t rfl))) rfl rfl <| .g (OpG.gT rfl rfl rfl rfl (fun hg => opCall (wsign_spec hp0 hp2) Tryd.cb76 (.cons (.when (.t rfl) hg) (.cons (.when (.t rfl) hg) .nil)))) rfl rfl <| .g (OpG.gT rfl rfl rfl rfl (fun hg => opEql (.when (.t rfl) hg) (.c _))) rfl rfl <| .p (opAnd (.t rfl) (.t rfl)) rfl <| .p (opMove (.t rfl)) rfl <| .g (OpG.gT rfl rfl rfl rfl (fun hg => opMove (.t rfl))) rfl rfl <| .g (OpG.gT rfl rfl rfl rfl (fun hg => opMove (.t rfl))) rfl rfl <| .g (OpG.gT rfl rfl rfl rfl (fun hg => opSubF (.when (.t rfl) hg) (.c _) (fits_i64 (by omega) (by omega)))) rfl rfl <| .g (OpG.gT rfl rfl rfl rfl (fun hg => (opShl_u64 (a := 1) (s := n - 1) (.c _) (.le (.when (.t rfl) hg) (VLe.int (by omega))) (by omega)).le (VLe.int (congrArg Nat.cast hpn)))) rfl rfl <| .g (OpG.gT rfl rfl rfl rfl (fun hg => opEql (.when (.t rfl) hg) (.when (.t rfl) hg))) rfl rfl <| .p (opAnd (.t rfl) (.t rfl)) rfl <| .p (opAssign (.t rfl)) rfl <| .nil ?_)
      refine EndT.thenN ?_
      refine CodeT.cond (.t rfl) (fun c2 => ?_) (fun c2 => ?_)
      ·
        refine CodeT.seq ?_
        refine CodeT.region (.p (opAssign (.c _)) rfl <| .nil ?_)
        refine EndT.thenN ?_
        refine CodeT.ret (EndT.blkR (EndT.thenR (Post.retP rfl rfl ?_)))
        exact VLe.int (by unfold trapF; rw [if_neg c0, if_neg (by omega), if_pos ⟨c2.1.1, c2.1.2, by omega⟩])
      ·
        refine CodeT.skip (EndT.blkN (EndT.thenN ?_))
        refine CodeT.seq ?_
        refine CodeT.region (.p (opAssign (.c _)) rfl <| .nil ?_)
        refine EndT.thenN ?_
        refine CodeT.ret (Post.retP rfl rfl ?_)
        exact VLe.int (by unfold trapF; rw [if_neg c0, if_neg (by omega), if_neg (fun h => c2 ⟨⟨h.1, h.2.1⟩, by omega⟩)])

theorem warith_spec {n A B : Nat} {op : Int} (hp0 : WN n) (hp1 : A < 2 ^ n) (hp2 : B < 2 ^ n) (hp3 : 0 ≤ op) (hp4 : op < 7) (hp5 : 3 ≤ op → B ≠ 0) : FnP Tryd.prog 69 [iV op, iV (n : Int), uV A, uV B] (uV (arithW n op A B)) := by
  refine FnE.intro 53 Tryd.func69 rfl rfl rfl fun w0 S0 M => ?_
  have hA64 := lt64 hp0 hp1
  have hB64 := lt64 hp0 hp2
  refine CodeT.seq ?_
  refine CodeT.region (.p (opAssign (.c _)) rfl <| .nil ?_)
  refine EndT.thenN ?_
  refine CodeT.seq ?_
  refine CodeT.seq ?_
  refine CodeT.region (.p (opMove (.t rfl)) rfl <| .nil ?_)
  refine EndT.thenN ?_
  refine CodeT.block ?_
  refine CodeT.seq ?_
  refine CodeT.region (.p (opEql (.t rfl) (.c _)) rfl <| .p (opAssign (.t rfl)) rfl <| .nil ?_)
  refine EndT.thenN ?_
  refine CodeT.cond (.t rfl) (fun c0 => ?_) (fun c0 => ?_)
  ·
    refine CodeT.seq ?_
    refine CodeT.region (.p (opMove (.t rfl)) rfl <| .p (opMove (.t rfl)) rfl <| .p (opAdd_u64 (.t rfl) (.t rfl)) rfl <| .p (opAssign (.t rfl)) rfl <| .nil ?_)
    refine EndT.thenN ?_
    refine CodeT.ret (EndT.blkR (EndT.thenR (Post.retP rfl rfl ?_)))
    exact VLe.int (by unfold arithW; rw [if_pos c0])
  ·
    refine CodeT.seq ?_
    refine CodeT.region (.p (opEql (.t rfl) (.c _)) rfl <| .p (opAssign (.t rfl)) rfl <| .nil ?_)
    refine EndT.thenN ?_
    refine CodeT.cond (.t rfl) (fun c1 => ?_) (fun c1 => ?_)
    ·
      refine CodeT.seq ?_
      refine CodeT.region (.p (opMove (.t rfl)) rfl <| .p (opMove (.t rfl)) rfl <| .p (opSub_u64 (by omega) (.t rfl) (.t rfl)) rfl <| .p (opAssign (.t rfl)) rfl <| .nil ?_)
      refine EndT.thenN ?_
      refine CodeT.ret (EndT.blkR (EndT.thenR (Post.retP rfl rfl ?_)))
      exact VLe.int (by unfold arithW; rw [if_neg c0, if_pos c1])
    ·
      refine CodeT.seq ?_
      refine CodeT.region (.p (opEql (.t rfl) (.c _)) rfl <| .p (opAssign (.t rfl)) rfl <| .nil ?_)
      refine EndT.thenN ?_
      refine CodeT.cond (.t rfl) (fun c2 => ?_) (fun c2 => ?_)
      ·
        refine CodeT.seq ?_
        refine CodeT.region (.p (opMove (.t rfl)) rfl <| .p (opMove (.t rfl)) rfl <| .p (opMul_u64 (.t rfl) (.t rfl)) rfl <| .p (opAssign (.t rfl)) rfl <| .nil ?_)
        refine EndT.thenN ?_
        refine CodeT.ret (EndT.blkR (EndT.thenR (Post.retP rfl rfl ?_)))
        exact VLe.int (by unfold arithW; rw [if_neg c0, if_neg c1, if_pos c2])
      ·
        refine CodeT.seq ?_
        refine CodeT.region (.p (opEql (.t rfl) (.c _)) rfl <| .p (opAssign (.t rfl)) rfl <| .nil ?_)
        refine EndT.thenN ?_
        refine CodeT.cond (.t rfl) (fun c3 => ?_) (fun c3 => ?_)
        ·
          refine CodeT.seq ?_
          refine CodeT.region (.p (opMove (.t rfl)) rfl <| .p (opMove (.t rfl)) rfl <| .p (opCall (wsign_spec hp0 hp1) Tryd.cb76 (.cons (.t rfl) (.cons (.t rfl) .nil))) rfl <| .p (opMove (.t rfl)) rfl <| .p (opMove (.t rfl)) rfl <| .p (opCall (wsign_spec hp0 hp2) Tryd.cb76 (.cons (.t rfl) (.cons (.t rfl) .nil))) rfl <| .p (opQuoT (.t rfl) (.t rfl) (sgn_ne0 hp0 hp2 (hp5 (by omega)))) rfl <| .p (opConv Tryd.underlying2 Tryd.underlying37 (.t rfl)) rfl <| .p (opAssign (.t rfl)) rfl <| .nil ?_)
          refine EndT.thenN ?_
          refine CodeT.ret (EndT.blkR (EndT.thenR (Post.retP rfl rfl ?_)))
          exact VLe.int (by unfold arithW; rw [if_neg c0, if_neg c1, if_neg c2, if_pos c3]; try (rw [← u64_cast]; rw [IntKind.wrap_u64, IntKind.wrap_u64, IntKind.wrap_i64]; omega))
        ·
          refine CodeT.seq ?_
          refine CodeT.region (.p (opEql (.t rfl) (.c _)) rfl <| .p (opAssign (.t rfl)) rfl <| .nil ?_)
          refine EndT.thenN ?_
          refine CodeT.cond (.t rfl) (fun c4 => ?_) (fun c4 => ?_)
          ·
            refine CodeT.seq ?_
            refine CodeT.region (.p (opMove (.t rfl)) rfl <| .p (opMove (.t rfl)) rfl <| .p (opQuo_u64 ⟨Nat.pos_of_ne_zero (hp5 (by omega)), hA64⟩ (.t rfl) (.t rfl)) rfl <| .p (opAssign (.t rfl)) rfl <| .nil ?_)
            refine EndT.thenN ?_
            refine CodeT.ret (EndT.blkR (EndT.thenR (Post.retP rfl rfl ?_)))
            exact VLe.int (by unfold arithW; rw [if_neg c0, if_neg c1, if_neg c2, if_neg c3, if_pos c4])
          ·
            refine CodeT.seq ?_
            refine CodeT.region (.p (opEql (.t rfl) (.c _)) rfl <| .p (opAssign (.t rfl)) rfl <| .nil ?_)
            refine EndT.thenN ?_
            refine CodeT.cond (.t rfl) (fun c5 => ?_) (fun c5 => ?_)
            ·
              refine CodeT.seq ?_
              refine CodeT.region (.p (opMove (.t rfl)) rfl <| .p (opMove (.t rfl)) rfl <| .p (opCall (wsign_spec hp0 hp1) Tryd.cb76 (.cons (.t rfl) (.cons (.t rfl) .nil))) rfl <| .p (opMove (.t rfl)) rfl <| .p (opMove (.t rfl)) rfl <| .p (opCall (wsign_spec hp0 hp2) Tryd.cb76 (.cons (.t rfl) (.cons (.t rfl) .nil))) rfl <| .p (opCall (wrest_spec (sgn_ne0 hp0 hp2 (hp5 (by omega)))) Tryd.cb77 (.cons (.t rfl) (.cons (.t rfl) .nil))) rfl <| .p (opConv Tryd.underlying2 Tryd.underlying37 (.t rfl)) rfl <| .p (opAssign (.t rfl)) rfl <| .nil ?_)
              refine EndT.thenN ?_
              refine CodeT.ret (EndT.blkR (EndT.thenR (Post.retP rfl rfl ?_)))
              exact VLe.int (by unfold arithW; rw [if_neg c0, if_neg c1, if_neg c2, if_neg c3, if_neg c4, if_pos c5]; exact u64_cast _)
            ·
              refine CodeT.skip (EndT.blkN (EndT.thenN ?_))
              refine CodeT.seq ?_
              refine CodeT.region (.p (opMove (.t rfl)) rfl <| .p (opMove (.t rfl)) rfl <| .p (opRem_u64 (Nat.pos_of_ne_zero (hp5 (by omega))) (.t rfl) (.t rfl)) rfl <| .p (opAssign (.t rfl)) rfl <| .nil ?_)
              refine EndT.thenN ?_
              refine CodeT.ret (Post.retP rfl rfl ?_)
              exact VLe.int (by unfold arithW; rw [if_neg c0, if_neg c1, if_neg c2, if_neg c3, if_neg c4, if_neg c5])

theorem wbitwise_spec {n A B : Nat} {op : Int} (hp0 : WN n) (hp1 : A < 2 ^ n) (hp2 : B < 2 ^ n) (hp3 : 7 ≤ op) : FnP Tryd.prog 70 [iV op, iV (n : Int), uV A, uV B] (uV (bitsW n op A B)) := by
  refine FnE.intro 60 Tryd.func70 rfl rfl rfl fun w0 S0 M => ?_
  have hA64 := lt64 hp0 hp1
  have hB64 := lt64 hp0 hp2
  have hn1 : 1 ≤ n ∧ n ≤ 64 := by rcases hp0 with rfl | rfl <;> omega
  have hk := Nat.mod_lt B (show 0 < n by omega)
  refine CodeT.seq ?_
  refine CodeT.region (.p (opAssign (.c _)) rfl <| .nil ?_)
  refine EndT.thenN ?_
  refine CodeT.seq ?_
  refine CodeT.region (.p (opMove (.t rfl)) rfl <| .p (opMove (.t rfl)) rfl <| .p (opConvF Tryd.underlying3 Tryd.underlying37 (.t rfl) (fits_u64 (by omega) (by omega))) rfl <| .p (opRem_u64 (by omega) (.t rfl) (.t rfl)) rfl <| .p (opConvF Tryd.underlying37 Tryd.underlying3 (.t rfl) (fits_i64 (by omega) (by omega))) rfl <| .p (opAssign (.t rfl)) rfl <| .nil ?_)
  refine EndT.thenN ?_
  refine CodeT.seq ?_
  refine CodeT.seq ?_
  refine CodeT.region (.p (opMove (.t rfl)) rfl <| .nil ?_)
  refine EndT.thenN ?_
  refine CodeT.block ?_
  refine CodeT.seq ?_
  refine CodeT.region (.p (opEql (.t rfl) (.c _)) rfl <| .p (opAssign (.t rfl)) rfl <| .nil ?_)
  refine EndT.thenN ?_
  refine CodeT.cond (.t rfl) (fun c0 => ?_) (fun c0 => ?_)
  ·
    refine CodeT.seq ?_
    refine CodeT.region (.p (opMove (.t rfl)) rfl <| .p (opMove (.t rfl)) rfl <| .p (opAnd_u64 (by omega) (by omega) (.t rfl) (.t rfl)) rfl <| .p (opAssign (.t rfl)) rfl <| .nil ?_)
    refine EndT.thenN ?_
    refine CodeT.ret (EndT.blkR (EndT.thenR (Post.retP rfl rfl ?_)))
    exact VLe.int (by unfold bitsW; rw [if_pos c0])
  ·
    refine CodeT.seq ?_
    refine CodeT.region (.p (opEql (.t rfl) (.c _)) rfl <| .p (opAssign (.t rfl)) rfl <| .nil ?_)
    refine EndT.thenN ?_
    refine CodeT.cond (.t rfl) (fun c1 => ?_) (fun c1 => ?_)
    ·
      refine CodeT.seq ?_
      refine CodeT.region (.p (opMove (.t rfl)) rfl <| .p (opMove (.t rfl)) rfl <| .p (opOr_u64 (by omega) (by omega) (.t rfl) (.t rfl)) rfl <| .p (opAssign (.t rfl)) rfl <| .nil ?_)
      refine EndT.thenN ?_
      refine CodeT.ret (EndT.blkR (EndT.thenR (Post.retP rfl rfl ?_)))
      exact VLe.int (by unfold bitsW; rw [if_neg c0, if_pos c1])
    ·
      refine CodeT.seq ?_
      refine CodeT.region (.p (opEql (.t rfl) (.c _)) rfl <| .p (opAssign (.t rfl)) rfl <| .nil ?_)
      refine EndT.thenN ?_
      refine CodeT.cond (.t rfl) (fun c2 => ?_) (fun c2 => ?_)
      ·
        refine CodeT.seq ?_
        refine CodeT.region (.p (opMove (.t rfl)) rfl <| .p (opMove (.t rfl)) rfl <| .p (opXor_u64 (by omega) (by omega) (.t rfl) (.t rfl)) rfl <| .p (opAssign (.t rfl)) rfl <| .nil ?_)
        refine EndT.thenN ?_
        refine CodeT.ret (EndT.blkR (EndT.thenR (Post.retP rfl rfl ?_)))
        exact VLe.int (by unfold bitsW; rw [if_neg c0, if_neg c1, if_pos c2])
      ·
        refine CodeT.seq ?_
        refine CodeT.region (.p (opEql (.t rfl) (.c _)) rfl <| .p (opAssign (.t rfl)) rfl <| .nil ?_)
        refine EndT.thenN ?_
        refine CodeT.cond (.t rfl) (fun c3 => ?_) (fun c3 => ?_)
        ·
          refine CodeT.seq ?_
          refine CodeT.region (.p (opMove (.t rfl)) rfl <| .p (opMove (.t rfl)) rfl <| .p (opShl_u64 (.t rfl) (.t rfl) (by omega)) rfl <| .p (opAssign (.t rfl)) rfl <| .nil ?_)
          refine EndT.thenN ?_
          refine CodeT.ret (EndT.blkR (EndT.thenR (Post.retP rfl rfl ?_)))
          exact VLe.int (by unfold bitsW; rw [if_neg c0, if_neg c1, if_neg c2, if_pos c3])
        ·
          refine CodeT.seq ?_
          refine CodeT.region (.p (opEql (.t rfl) (.c _)) rfl <| .p (opAssign (.t rfl)) rfl <| .nil ?_)
          refine EndT.thenN ?_
          refine CodeT.cond (.t rfl) (fun c4 => ?_) (fun c4 => ?_)
          ·
            refine CodeT.seq ?_
            refine CodeT.region (.p (opMove (.t rfl)) rfl <| .p (opMove (.t rfl)) rfl <| .p (opCall (wsign_spec hp0 hp1) Tryd.cb76 (.cons (.t rfl) (.cons (.t rfl) .nil))) rfl <| .p (opMove (.t rfl)) rfl <| .p (opShr (.t rfl) (.t rfl) (by show _ ≤ 64; omega)) rfl <| .p ((opConv Tryd.underlying2 Tryd.underlying37 (.t rfl)).le (VLe.int (u64_cast _))) rfl <| .p (opAssign (.t rfl)) rfl <| .nil ?_)
            refine EndT.thenN ?_
            refine CodeT.ret (EndT.blkR (EndT.thenR (Post.retP rfl rfl ?_)))
            exact VLe.int (by unfold bitsW; rw [if_neg c0, if_neg c1, if_neg c2, if_neg c3, if_pos c4])
          ·
            refine CodeT.seq ?_
            refine CodeT.region (.p (opEql (.t rfl) (.c _)) rfl <| .p (opAssign (.t rfl)) rfl <| .nil ?_)
            refine EndT.thenN ?_
            refine CodeT.cond (.t rfl) (fun c5 => ?_) (fun c5 => ?_)
            ·
              refine CodeT.seq ?_
              refine CodeT.region (.p (opMove (.t rfl)) rfl <| .p (opMove (.t rfl)) rfl <| .p (opShrN (.t rfl) (.t rfl) (by show _ ≤ 64; omega)) rfl <| .p (opAssign (.t rfl)) rfl <| .nil ?_)
              refine EndT.thenN ?_
              refine CodeT.ret (EndT.blkR (EndT.thenR (Post.retP rfl rfl ?_)))
              exact VLe.int (by unfold bitsW; rw [if_neg c0, if_neg c1, if_neg c2, if_neg c3, if_neg c4, if_pos c5])
            ·
              refine CodeT.seq ?_
              refine CodeT.region (.p (opEql (.t rfl) (.c _)) rfl <| .p (opAssign (.t rfl)) rfl <| .nil ?_)
              refine EndT.thenN ?_
              refine CodeT.cond (.t rfl) (fun c6 => ?_) (fun c6 => ?_)
              ·
                refine CodeT.seq ?_
                refine CodeT.region (.p (opMove (.t rfl)) rfl <| .p (opMove (.t rfl)) rfl <| .p (opMove (.t rfl)) rfl <| .p (opCall (wturn_spec hp0 hp1) Tryd.cb78 (.cons (.t rfl) (.cons (.t rfl) (.cons (.t rfl) .nil)))) rfl <| .p (opAssign (.t rfl)) rfl <| .nil ?_)
                refine EndT.thenN ?_
                refine CodeT.ret (EndT.blkR (EndT.thenR (Post.retP rfl rfl ?_)))
                exact VLe.int (by unfold bitsW; rw [if_neg c0, if_neg c1, if_neg c2, if_neg c3, if_neg c4, if_neg c5, if_pos c6]; rw [rot_pos hk])
              ·
                refine CodeT.skip (EndT.blkN (EndT.thenN ?_))
                refine CodeT.seq ?_
                refine CodeT.region (.p (opMove (.t rfl)) rfl <| .p (opMove (.t rfl)) rfl <| .p (opMove (.t rfl)) rfl <| .p (opNegF (.t rfl) (fits_i64 (by omega) (by omega))) rfl <| .p (opCall (wturn_spec hp0 hp1) Tryd.cb78 (.cons (.t rfl) (.cons (.t rfl) (.cons (.t rfl) .nil)))) rfl <| .p (opAssign (.t rfl)) rfl <| .nil ?_)
                refine EndT.thenN ?_
                refine CodeT.ret (Post.retP rfl rfl ?_)
                exact VLe.int (by unfold bitsW; rw [if_neg c0, if_neg c1, if_neg c2, if_neg c3, if_neg c4, if_neg c5, if_neg c6]; rw [rot_neg hk])

theorem wbinary_spec {n a b : Nat} {op : Int} (hp0 : WN n) (hp1 : a < 18446744073709551616) (hp2 : b < 18446744073709551616) (hp3 : 0 ≤ op) (hp4 : op < 15) : FnP Tryd.prog 45 [iV op, iV (n : Int), uV a, uV b] (tupV [uV (binV n op (a % 2 ^ n) (b % 2 ^ n)), iV (trapF n op (a % 2 ^ n) (b % 2 ^ n)), iV 0]) := by
  refine FnE.intro 48 Tryd.func45 rfl rfl rfl fun w0 S0 M => ?_
  have hA := Nat.mod_lt a (Nat.two_pow_pos n)
  have hB := Nat.mod_lt b (Nat.two_pow_pos n)
  generalize hAe : a % 2 ^ n = A at *
  generalize hBe : b % 2 ^ n = B at *
  refine CodeT.seq ?_
  refine CodeT.region (.p (opAssign (.c _)) rfl <| .p (opAssign (.c _)) rfl <| .p (opAssign (.c _)) rfl <| .nil ?_)
  refine EndT.thenN ?_
  refine CodeT.seq ?_
  refine CodeT.seq ?_
  refine CodeT.region (.p (opMove (.t rfl)) rfl <| .p (opCall (wright_spec) Tryd.cb62 (.cons (.t rfl) .nil)) rfl <| .p (opNot (.t rfl)) rfl <| .p (opMove (.t rfl)) rfl <| .g (OpG.gF rfl rfl rfl rfl (fun hg => opMove (.t rfl))) rfl rfl <| .g (OpG.gF rfl rfl rfl rfl (fun hg => opLss (.when (.t rfl) hg) (.c _))) rfl rfl <| .p (opOr (.t rfl) (.t rfl)) rfl <| .p (opMove (.t rfl)) rfl <| .g (OpG.gF rfl rfl rfl rfl (fun hg => opMove (.t rfl))) rfl rfl <| .g (OpG.gF rfl rfl rfl rfl (fun hg => opGeq (.when (.t rfl) hg) (.c _))) rfl rfl <| .p (opOr (.t rfl) (.t rfl)) rfl <| .nil ?_)
  refine EndT.thenN ?_
  refine CodeT.cond (.t rfl) (fun c0 => ?_) (fun c0 => ?_)
  ·
    exfalso
    rcases hp0 with rfl | rfl <;> omega
  ·
    refine CodeT.skip (EndT.thenN ?_)
    refine CodeT.seq ?_
    refine CodeT.region (.p (opMove (.t rfl)) rfl <| .p (opMove (.t rfl)) rfl <| .p ((opCall (wcut_spec hp0 hp1) Tryd.cb59 (.cons (.t rfl) (.cons (.t rfl) .nil))).le (VLe.int (congrArg Nat.cast hAe))) rfl <| .p (opMove (.t rfl)) rfl <| .p (opMove (.t rfl)) rfl <| .p ((opCall (wcut_spec hp0 hp2) Tryd.cb59 (.cons (.t rfl) (.cons (.t rfl) .nil))).le (VLe.int (congrArg Nat.cast hBe))) rfl <| .p (opAssign (.t rfl)) rfl <| .p (opAssign (.t rfl)) rfl <| .nil ?_)
    refine EndT.thenN ?_
    refine CodeT.seq ?_
    refine CodeT.seq ?_
    refine CodeT.region (.p (opMove (.t rfl)) rfl <| .p (opMove (.t rfl)) rfl <| .p (opMove (.t rfl)) rfl <| .p (opMove (.t rfl)) rfl <| .p (opCall (wdivides_spec hp0 hA hB) Tryd.cb68 (.cons (.t rfl) (.cons (.t rfl) (.cons (.t rfl) (.cons (.t rfl) .nil))))) rfl <| .p (opAssign (.t rfl)) rfl <| .nil ?_)
    refine EndT.thenN ?_
    refine CodeT.seq ?_
    refine CodeT.region (.p (opMove (.t rfl)) rfl <| .p (opNeq (.t rfl) (.c _)) rfl <| .nil ?_)
    refine EndT.thenN ?_
    refine CodeT.cond (.t rfl) (fun c1 => ?_) (fun c1 => ?_)
    ·
      refine CodeT.seq ?_
      refine CodeT.region (.p (opMove (.t rfl)) rfl <| .p (opAssign (.c _)) rfl <| .p (opAssign (.t rfl)) rfl <| .p (opAssign (.c _)) rfl <| .nil ?_)
      refine EndT.thenN ?_
      refine CodeT.ret (EndT.thenR (Post.retR rfl rfl () trivial (fun _ _ _ _ => trivial) rfl (.cons (.rt rfl) ?_ (.cons (.rt rfl) ?_ (.cons (.rt rfl) ?_ .nil)))))
      · exact VLe.int (by unfold binV; rw [if_neg c1]; rfl)
      · exact VLe.refl _
      · exact VLe.refl _
    ·
      refine CodeT.skip (EndT.thenN ?_)
      refine CodeT.seq ?_
      refine CodeT.region (.p (opAssign (.le (.f _) ((funV_of Tryd.cb69 (fun z h => warith_spec h.1 h.2.1 h.2.2.1 h.2.2.2.1 h.2.2.2.2.1 h.2.2.2.2.2) : VLe _ (funV Tryd.prog (A := Int × Nat × Nat × Nat) (fun z => WN z.2.1 ∧ z.2.2.1 < 2 ^ z.2.1 ∧ z.2.2.2 < 2 ^ z.2.1 ∧ 0 ≤ z.1 ∧ z.1 < 7 ∧ (3 ≤ z.1 → z.2.2.2 ≠ 0)) (fun z => [iV z.1, iV (z.2.1 : Int), uV z.2.2.1, uV z.2.2.2]) (fun z => uV (arithW z.2.1 z.1 z.2.2.1 z.2.2.2))))))) rfl <| .nil ?_)
      refine EndT.thenN ?_
      refine CodeT.seq ?_
      refine CodeT.seq ?_
      refine CodeT.region (.p (opMove (.t rfl)) rfl <| .p (opGeq (.t rfl) (.c _)) rfl <| .nil ?_)
      refine EndT.thenN ?_
      refine CodeT.cond (.t rfl) (fun c2 => ?_) (fun c2 => ?_)
      ·
        refine CodeT.region (.p (opAssign (.le (.f _) ((funV_of Tryd.cb70 (fun z h => wbitwise_spec h.1 h.2.1 h.2.2.1 h.2.2.2) : VLe _ (funV Tryd.prog (A := Int × Nat × Nat × Nat) (fun z => WN z.2.1 ∧ z.2.2.1 < 2 ^ z.2.1 ∧ z.2.2.2 < 2 ^ z.2.1 ∧ 7 ≤ z.1) (fun z => [iV z.1, iV (z.2.1 : Int), uV z.2.2.1, uV z.2.2.2]) (fun z => uV (bitsW z.2.1 z.1 z.2.2.1 z.2.2.2))))))) rfl <| .nil ?_)
        refine EndT.thenN ?_
        refine CodeT.seq ?_
        refine CodeT.region (.p (opMove (.t rfl)) rfl <| .p (opMove (.t rfl)) rfl <| .p (opMove (.t rfl)) rfl <| .p (opMove (.t rfl)) rfl <| .p (opMove (.t rfl)) rfl <| .p (opMove (.t rfl)) rfl <| .p (opCallV (op, n, A, B) (.t rfl) (by first | exact ⟨hp0, hA, hB, by omega⟩ | exact ⟨hp0, hA, hB, by omega, by omega, fun h => trap_b0 (n := n) (A := A) (B := B) (op := op) (by omega) h (by omega)⟩) (.cons (.t rfl) (.cons (.t rfl) (.cons (.t rfl) (.cons (.t rfl) .nil))))) rfl <| .p (opCall (wcut_spec hp0 (by first | exact bits_lt hp0 hA hB | exact arith_lt hp0 hA hB)) Tryd.cb59 (.cons (.t rfl) (.cons (.t rfl) .nil))) rfl <| .p (opAssign (.t rfl)) rfl <| .p (opAssign (.c _)) rfl <| .p (opAssign (.c _)) rfl <| .nil ?_)
        refine EndT.thenN ?_
        refine CodeT.ret (Post.retR rfl rfl () trivial (fun _ _ _ _ => trivial) rfl (.cons (.rt rfl) ?_ (.cons (.rt rfl) ?_ (.cons (.rt rfl) ?_ .nil))))
        · exact VLe.int (by unfold binV; rw [if_pos (Classical.not_not.1 c1), bits_cut hp0 (by omega) hA hB])
        · exact VLe.int (Classical.not_not.1 c1).symm
        · exact VLe.refl _
      ·
        refine CodeT.skip (EndT.thenN ?_)
        refine CodeT.seq ?_
        refine CodeT.region (.p (opMove (.t rfl)) rfl <| .p (opMove (.t rfl)) rfl <| .p (opMove (.t rfl)) rfl <| .p (opMove (.t rfl)) rfl <| .p (opMove (.t rfl)) rfl <| .p (opMove (.t rfl)) rfl <| .p (opCallV (op, n, A, B) (.t rfl) (by first | exact ⟨hp0, hA, hB, by omega⟩ | exact ⟨hp0, hA, hB, by omega, by omega, fun h => trap_b0 (n := n) (A := A) (B := B) (op := op) (by omega) h (by omega)⟩) (.cons (.t rfl) (.cons (.t rfl) (.cons (.t rfl) (.cons (.t rfl) .nil))))) rfl <| .p (opCall (wcut_spec hp0 (by first | exact bits_lt hp0 hA hB | exact arith_lt hp0 hA hB)) Tryd.cb59 (.cons (.t rfl) (.cons (.t rfl) .nil))) rfl <| .p (opAssign (.t rfl)) rfl <| .p (opAssign (.c _)) rfl <| .p (opAssign (.c _)) rfl <| .nil ?_)
        refine EndT.thenN ?_
        refine CodeT.ret (Post.retR rfl rfl () trivial (fun _ _ _ _ => trivial) rfl (.cons (.rt rfl) ?_ (.cons (.rt rfl) ?_ (.cons (.rt rfl) ?_ .nil))))
        · exact VLe.int (by unfold binV; rw [if_pos (Classical.not_not.1 c1), arith_cut hp0 (by omega) hA hB (by omega)])
        · exact VLe.int (Classical.not_not.1 c1).symm
        · exact VLe.refl _

set_option maxHeartbeats 1000000 in
theorem wtest_spec {n a b : Nat} {op : Int} (hp0 : WN n) (hp1 : a < 18446744073709551616) (hp2 : b < 18446744073709551616) (hp3 : 0 ≤ op) (hp4 : op < 10) : FnP Tryd.prog 44 [iV op, iV (n : Int), uV a, uV b] (tupV [uV (testF n op (a % 2 ^ n) (b % 2 ^ n)), iV 0]) := by
  refine FnE.intro 79 Tryd.func44 rfl rfl rfl fun w0 S0 M => ?_
  have hA := Nat.mod_lt a (Nat.two_pow_pos n)
  have hB := Nat.mod_lt b (Nat.two_pow_pos n)
  generalize hAe : a % 2 ^ n = A at *
  generalize hBe : b % 2 ^ n = B at *
  refine CodeT.seq ?_
  refine CodeT.region (.p (opAssign (.c _)) rfl <| .p (opAssign (.c _)) rfl <| .nil ?_)
  refine EndT.thenN ?_
  refine CodeT.seq ?_
  refine CodeT.seq ?_
  refine CodeT.region (.p (opMove (.t rfl)) rfl <| .p (opCall (wright_spec) Tryd.cb62 (.cons (.t rfl) .nil)) rfl <| .p (opNot (.t rfl)) rfl <| .p (opMove (.t rfl)) rfl <| .g (OpG.gF rfl rfl rfl rfl (fun hg => opMove (.t rfl))) rfl rfl <| .g (OpG.gF rfl rfl rfl rfl (fun hg => opLss (.when (.t rfl) hg) (.c _))) rfl rfl <| .p (opOr (.t rfl) (.t rfl)) rfl <| .p (opMove (.t rfl)) rfl <| .g (OpG.gF rfl rfl rfl rfl (fun hg => opMove (.t rfl))) rfl rfl <| .g (OpG.gF rfl rfl rfl rfl (fun hg => opGeq (.when (.t rfl) hg) (.c _))) rfl rfl <| .p (opOr (.t rfl) (.t rfl)) rfl <| .nil ?_)
  refine EndT.thenN ?_
  refine CodeT.cond (.t rfl) (fun c0 => ?_) (fun c0 => ?_)
  ·
    exfalso
    rcases hp0 with rfl | rfl <;> omega
  ·
    refine CodeT.skip (EndT.thenN ?_)
    refine CodeT.seq ?_
    refine CodeT.region (.p (opMove (.t rfl)) rfl <| .p (opMove (.t rfl)) rfl <| .p ((opCall (wcut_spec hp0 hp1) Tryd.cb59 (.cons (.t rfl) (.cons (.t rfl) .nil))).le (VLe.int (congrArg Nat.cast hAe))) rfl <| .p (opMove (.t rfl)) rfl <| .p (opMove (.t rfl)) rfl <| .p ((opCall (wcut_spec hp0 hp2) Tryd.cb59 (.cons (.t rfl) (.cons (.t rfl) .nil))).le (VLe.int (congrArg Nat.cast hBe))) rfl <| .p (opAssign (.t rfl)) rfl <| .p (opAssign (.t rfl)) rfl <| .nil ?_)
    refine EndT.thenN ?_
    refine CodeT.seq ?_
    refine CodeT.region (.p (opMove (.t rfl)) rfl <| .p (opRem (.t rfl) (.c _) (by omega) (by omega)) rfl <| .p (opEql (.t rfl) (.c _)) rfl <| .p (opAssign (.t rfl)) rfl <| .nil ?_)
    refine EndT.thenN ?_
    refine CodeT.seq ?_
    refine CodeT.seq ?_
    refine CodeT.region (.p (opMove (.t rfl)) rfl <| .nil ?_)
    refine EndT.thenN ?_
    refine CodeT.block ?_
    refine CodeT.seq ?_
    refine CodeT.region (.p (opEql (.t rfl) (.c _)) rfl <| .p (opAssign (.t rfl)) rfl <| .nil ?_)
    refine EndT.thenN ?_
    refine CodeT.cond (.t rfl) (fun c1 => ?_) (fun c1 => ?_)
    ·
      refine CodeT.seq ?_
      refine CodeT.region (.p (opMove (.t rfl)) rfl <| .p (opMove (.t rfl)) rfl <| .p (opEql (.t rfl) (.t rfl)) rfl <| .p (opCall (wis_spec) Tryd.cb66 (.cons (.t rfl) .nil)) rfl <| .p (opAssign (.t rfl)) rfl <| .p (opAssign (.c _)) rfl <| .nil ?_)
      refine EndT.thenN ?_
      refine CodeT.ret (EndT.blkR (EndT.thenR (Post.retR rfl rfl () trivial (fun _ _ _ _ => trivial) rfl (.cons (.rt rfl) ?_ (.cons (.rt rfl) ?_ .nil)))))
      · first | (exfalso; omega) | exact VLe.int (congrArg Nat.cast (testF_is (by unfold testP; (repeat (first | rw [if_pos (by omega)] | rw [if_neg (by omega)])); all_goals first | omega | exact Iff.rfl)).symm)
      · exact VLe.refl _
    ·
      refine CodeT.seq ?_
      refine CodeT.region (.p (opEql (.t rfl) (.c _)) rfl <| .p (opAssign (.t rfl)) rfl <| .nil ?_)
      refine EndT.thenN ?_
      refine CodeT.cond (.t rfl) (fun c2 => ?_) (fun c2 => ?_)
      ·
        refine CodeT.seq ?_
        refine CodeT.region (.p (opMove (.t rfl)) rfl <| .p (opMove (.t rfl)) rfl <| .p (opNeq (.t rfl) (.t rfl)) rfl <| .p (opCall (wis_spec) Tryd.cb66 (.cons (.t rfl) .nil)) rfl <| .p (opAssign (.t rfl)) rfl <| .p (opAssign (.c _)) rfl <| .nil ?_)
        refine EndT.thenN ?_
        refine CodeT.ret (EndT.blkR (EndT.thenR (Post.retR rfl rfl () trivial (fun _ _ _ _ => trivial) rfl (.cons (.rt rfl) ?_ (.cons (.rt rfl) ?_ .nil)))))
        · first | (exfalso; omega) | exact VLe.int (congrArg Nat.cast (testF_is (by unfold testP; (repeat (first | rw [if_pos (by omega)] | rw [if_neg (by omega)])); all_goals first | omega | exact Iff.rfl)).symm)
        · exact VLe.refl _
      ·
        refine CodeT.seq ?_
        refine CodeT.seq ?_
        refine CodeT.region (.p (opEql (.t rfl) (.c _)) rfl <| .p (opAssign (.t rfl)) rfl <| .nil ?_)
        refine EndT.thenN ?_
        refine CodeT.cond (.t rfl) (fun c3 => ?_) (fun c3 => ?_)
        ·
          refine CodeT.skip (EndT.thenN ?_)
          refine CodeT.cond (.t rfl) (fun c4 => ?_) (fun c4 => ?_)
          ·
            refine CodeT.seq ?_
            refine CodeT.region (.p (opMove (.t rfl)) rfl <| .p (opMove (.t rfl)) rfl <| .p (opMove (.t rfl)) rfl <| .p (opMove (.t rfl)) rfl <| .p (opCall (wless_spec hp0 hA hB) Tryd.cb67 (.cons (.t rfl) (.cons (.t rfl) (.cons (.t rfl) (.cons (.t rfl) .nil))))) rfl <| .p (opCall (wis_spec) Tryd.cb66 (.cons (.t rfl) .nil)) rfl <| .p (opAssign (.t rfl)) rfl <| .p (opAssign (.c _)) rfl <| .nil ?_)
            refine EndT.thenN ?_
            refine CodeT.ret (EndT.blkR (EndT.thenR (Post.retR rfl rfl () trivial (fun _ _ _ _ => trivial) rfl (.cons (.rt rfl) ?_ (.cons (.rt rfl) ?_ .nil)))))
            · first | (exfalso; omega) | exact VLe.int (congrArg Nat.cast (testF_is (by unfold testP; (repeat (first | rw [if_pos (by omega)] | rw [if_neg (by omega)])); all_goals first | omega | exact Iff.rfl)).symm)
            · exact VLe.refl _
          ·
            refine CodeT.seq ?_
            refine CodeT.seq ?_
            refine CodeT.region (.p (opEql (.t rfl) (.c _)) rfl <| .p (opAssign (.t rfl)) rfl <| .nil ?_)
            refine EndT.thenN ?_
            refine CodeT.cond (.t rfl) (fun c5 => ?_) (fun c5 => ?_)
            ·
              refine CodeT.skip (EndT.thenN ?_)
              refine CodeT.cond (.t rfl) (fun c6 => ?_) (fun c6 => ?_)
              ·
                refine CodeT.seq ?_
                refine CodeT.region (.p (opMove (.t rfl)) rfl <| .p (opMove (.t rfl)) rfl <| .p (opMove (.t rfl)) rfl <| .p (opMove (.t rfl)) rfl <| .p (opCall (wless_spec hp0 hB hA) Tryd.cb67 (.cons (.t rfl) (.cons (.t rfl) (.cons (.t rfl) (.cons (.t rfl) .nil))))) rfl <| .p (opCall (wis_spec) Tryd.cb66 (.cons (.t rfl) .nil)) rfl <| .p (opAssign (.t rfl)) rfl <| .p (opAssign (.c _)) rfl <| .nil ?_)
                refine EndT.thenN ?_
                refine CodeT.ret (EndT.blkR (EndT.thenR (Post.retR rfl rfl () trivial (fun _ _ _ _ => trivial) rfl (.cons (.rt rfl) ?_ (.cons (.rt rfl) ?_ .nil)))))
                · first | (exfalso; omega) | exact VLe.int (congrArg Nat.cast (testF_is (by unfold testP; (repeat (first | rw [if_pos (by omega)] | rw [if_neg (by omega)])); all_goals first | omega | exact Iff.rfl)).symm)
                · exact VLe.refl _
              ·
                refine CodeT.seq ?_
                refine CodeT.seq ?_
                refine CodeT.region (.p (opEql (.t rfl) (.c _)) rfl <| .p (opAssign (.t rfl)) rfl <| .nil ?_)
                refine EndT.thenN ?_
                refine CodeT.cond (.t rfl) (fun c7 => ?_) (fun c7 => ?_)
                ·
                  refine CodeT.skip (EndT.thenN ?_)
                  refine CodeT.cond (.t rfl) (fun c8 => ?_) (fun c8 => ?_)
                  ·
                    refine CodeT.seq ?_
                    refine CodeT.region (.p (opMove (.t rfl)) rfl <| .p (opMove (.t rfl)) rfl <| .p (opMove (.t rfl)) rfl <| .p (opMove (.t rfl)) rfl <| .p (opCall (wless_spec hp0 hB hA) Tryd.cb67 (.cons (.t rfl) (.cons (.t rfl) (.cons (.t rfl) (.cons (.t rfl) .nil))))) rfl <| .p (opNot (.t rfl)) rfl <| .p (opCall (wis_spec) Tryd.cb66 (.cons (.t rfl) .nil)) rfl <| .p (opAssign (.t rfl)) rfl <| .p (opAssign (.c _)) rfl <| .nil ?_)
                    refine EndT.thenN ?_
                    refine CodeT.ret (EndT.blkR (EndT.thenR (Post.retR rfl rfl () trivial (fun _ _ _ _ => trivial) rfl (.cons (.rt rfl) ?_ (.cons (.rt rfl) ?_ .nil)))))
                    · first | (exfalso; omega) | exact VLe.int (congrArg Nat.cast (testF_is (by unfold testP; (repeat (first | rw [if_pos (by omega)] | rw [if_neg (by omega)])); all_goals first | omega | exact Iff.rfl)).symm)
                    · exact VLe.refl _
                  ·
                    refine CodeT.skip (EndT.blkN (EndT.thenN ?_))
                    refine CodeT.seq ?_
                    refine CodeT.region (.p (opMove (.t rfl)) rfl <| .p (opMove (.t rfl)) rfl <| .p (opMove (.t rfl)) rfl <| .p (opMove (.t rfl)) rfl <| .p (opCall (wless_spec hp0 hA hB) Tryd.cb67 (.cons (.t rfl) (.cons (.t rfl) (.cons (.t rfl) (.cons (.t rfl) .nil))))) rfl <| .p (opNot (.t rfl)) rfl <| .p (opCall (wis_spec) Tryd.cb66 (.cons (.t rfl) .nil)) rfl <| .p (opAssign (.t rfl)) rfl <| .p (opAssign (.c _)) rfl <| .nil ?_)
                    refine EndT.thenN ?_
                    refine CodeT.ret (Post.retR rfl rfl () trivial (fun _ _ _ _ => trivial) rfl (.cons (.rt rfl) ?_ (.cons (.rt rfl) ?_ .nil)))
                    · first | (exfalso; omega) | exact VLe.int (congrArg Nat.cast (testF_is (by unfold testP; (repeat (first | rw [if_pos (by omega)] | rw [if_neg (by omega)])); all_goals first | omega | exact Iff.rfl)).symm)
                    · exact VLe.refl _
                ·
                  refine CodeT.region (.p (opEql (.t rfl) (.c _)) rfl <| .p (opAssign (.t rfl)) rfl <| .nil ?_)
                  refine EndT.thenN ?_
                  refine CodeT.cond (.t rfl) (fun c9 => ?_) (fun c9 => ?_)
                  ·
                    refine CodeT.seq ?_
                    refine CodeT.region (.p (opMove (.t rfl)) rfl <| .p (opMove (.t rfl)) rfl <| .p (opMove (.t rfl)) rfl <| .p (opMove (.t rfl)) rfl <| .p (opCall (wless_spec hp0 hB hA) Tryd.cb67 (.cons (.t rfl) (.cons (.t rfl) (.cons (.t rfl) (.cons (.t rfl) .nil))))) rfl <| .p (opNot (.t rfl)) rfl <| .p (opCall (wis_spec) Tryd.cb66 (.cons (.t rfl) .nil)) rfl <| .p (opAssign (.t rfl)) rfl <| .p (opAssign (.c _)) rfl <| .nil ?_)
                    refine EndT.thenN ?_
                    refine CodeT.ret (EndT.blkR (EndT.thenR (Post.retR rfl rfl () trivial (fun _ _ _ _ => trivial) rfl (.cons (.rt rfl) ?_ (.cons (.rt rfl) ?_ .nil)))))
                    · first | (exfalso; omega) | exact VLe.int (congrArg Nat.cast (testF_is (by unfold testP; (repeat (first | rw [if_pos (by omega)] | rw [if_neg (by omega)])); all_goals first | omega | exact Iff.rfl)).symm)
                    · exact VLe.refl _
                  ·
                    refine CodeT.skip (EndT.blkN (EndT.thenN ?_))
                    refine CodeT.seq ?_
                    refine CodeT.region (.p (opMove (.t rfl)) rfl <| .p (opMove (.t rfl)) rfl <| .p (opMove (.t rfl)) rfl <| .p (opMove (.t rfl)) rfl <| .p (opCall (wless_spec hp0 hA hB) Tryd.cb67 (.cons (.t rfl) (.cons (.t rfl) (.cons (.t rfl) (.cons (.t rfl) .nil))))) rfl <| .p (opNot (.t rfl)) rfl <| .p (opCall (wis_spec) Tryd.cb66 (.cons (.t rfl) .nil)) rfl <| .p (opAssign (.t rfl)) rfl <| .p (opAssign (.c _)) rfl <| .nil ?_)
                    refine EndT.thenN ?_
                    refine CodeT.ret (Post.retR rfl rfl () trivial (fun _ _ _ _ => trivial) rfl (.cons (.rt rfl) ?_ (.cons (.rt rfl) ?_ .nil)))
                    · first | (exfalso; omega) | exact VLe.int (congrArg Nat.cast (testF_is (by unfold testP; (repeat (first | rw [if_pos (by omega)] | rw [if_neg (by omega)])); all_goals first | omega | exact Iff.rfl)).symm)
                    · exact VLe.refl _
            ·
              refine CodeT.region (.p (opEql (.t rfl) (.c _)) rfl <| .p (opAssign (.t rfl)) rfl <| .nil ?_)
              refine EndT.thenN ?_
              refine CodeT.cond (.t rfl) (fun c10 => ?_) (fun c10 => ?_)
              ·
                refine CodeT.seq ?_
                refine CodeT.region (.p (opMove (.t rfl)) rfl <| .p (opMove (.t rfl)) rfl <| .p (opMove (.t rfl)) rfl <| .p (opMove (.t rfl)) rfl <| .p (opCall (wless_spec hp0 hB hA) Tryd.cb67 (.cons (.t rfl) (.cons (.t rfl) (.cons (.t rfl) (.cons (.t rfl) .nil))))) rfl <| .p (opCall (wis_spec) Tryd.cb66 (.cons (.t rfl) .nil)) rfl <| .p (opAssign (.t rfl)) rfl <| .p (opAssign (.c _)) rfl <| .nil ?_)
                refine EndT.thenN ?_
                refine CodeT.ret (EndT.blkR (EndT.thenR (Post.retR rfl rfl () trivial (fun _ _ _ _ => trivial) rfl (.cons (.rt rfl) ?_ (.cons (.rt rfl) ?_ .nil)))))
                · first | (exfalso; omega) | exact VLe.int (congrArg Nat.cast (testF_is (by unfold testP; (repeat (first | rw [if_pos (by omega)] | rw [if_neg (by omega)])); all_goals first | omega | exact Iff.rfl)).symm)
                · exact VLe.refl _
              ·
                refine CodeT.seq ?_
                refine CodeT.seq ?_
                refine CodeT.region (.p (opEql (.t rfl) (.c _)) rfl <| .p (opAssign (.t rfl)) rfl <| .nil ?_)
                refine EndT.thenN ?_
                refine CodeT.cond (.t rfl) (fun c11 => ?_) (fun c11 => ?_)
                ·
                  refine CodeT.skip (EndT.thenN ?_)
                  refine CodeT.cond (.t rfl) (fun c12 => ?_) (fun c12 => ?_)
                  ·
                    refine CodeT.seq ?_
                    refine CodeT.region (.p (opMove (.t rfl)) rfl <| .p (opMove (.t rfl)) rfl <| .p (opMove (.t rfl)) rfl <| .p (opMove (.t rfl)) rfl <| .p (opCall (wless_spec hp0 hB hA) Tryd.cb67 (.cons (.t rfl) (.cons (.t rfl) (.cons (.t rfl) (.cons (.t rfl) .nil))))) rfl <| .p (opNot (.t rfl)) rfl <| .p (opCall (wis_spec) Tryd.cb66 (.cons (.t rfl) .nil)) rfl <| .p (opAssign (.t rfl)) rfl <| .p (opAssign (.c _)) rfl <| .nil ?_)
                    refine EndT.thenN ?_
                    refine CodeT.ret (EndT.blkR (EndT.thenR (Post.retR rfl rfl () trivial (fun _ _ _ _ => trivial) rfl (.cons (.rt rfl) ?_ (.cons (.rt rfl) ?_ .nil)))))
                    · first | (exfalso; omega) | exact VLe.int (congrArg Nat.cast (testF_is (by unfold testP; (repeat (first | rw [if_pos (by omega)] | rw [if_neg (by omega)])); all_goals first | omega | exact Iff.rfl)).symm)
                    · exact VLe.refl _
                  ·
                    refine CodeT.skip (EndT.blkN (EndT.thenN ?_))
                    refine CodeT.seq ?_
                    refine CodeT.region (.p (opMove (.t rfl)) rfl <| .p (opMove (.t rfl)) rfl <| .p (opMove (.t rfl)) rfl <| .p (opMove (.t rfl)) rfl <| .p (opCall (wless_spec hp0 hA hB) Tryd.cb67 (.cons (.t rfl) (.cons (.t rfl) (.cons (.t rfl) (.cons (.t rfl) .nil))))) rfl <| .p (opNot (.t rfl)) rfl <| .p (opCall (wis_spec) Tryd.cb66 (.cons (.t rfl) .nil)) rfl <| .p (opAssign (.t rfl)) rfl <| .p (opAssign (.c _)) rfl <| .nil ?_)
                    refine EndT.thenN ?_
                    refine CodeT.ret (Post.retR rfl rfl () trivial (fun _ _ _ _ => trivial) rfl (.cons (.rt rfl) ?_ (.cons (.rt rfl) ?_ .nil)))
                    · first | (exfalso; omega) | exact VLe.int (congrArg Nat.cast (testF_is (by unfold testP; (repeat (first | rw [if_pos (by omega)] | rw [if_neg (by omega)])); all_goals first | omega | exact Iff.rfl)).symm)
                    · exact VLe.refl _
                ·
                  refine CodeT.region (.p (opEql (.t rfl) (.c _)) rfl <| .p (opAssign (.t rfl)) rfl <| .nil ?_)
                  refine EndT.thenN ?_
                  refine CodeT.cond (.t rfl) (fun c13 => ?_) (fun c13 => ?_)
                  ·
                    refine CodeT.seq ?_
                    refine CodeT.region (.p (opMove (.t rfl)) rfl <| .p (opMove (.t rfl)) rfl <| .p (opMove (.t rfl)) rfl <| .p (opMove (.t rfl)) rfl <| .p (opCall (wless_spec hp0 hB hA) Tryd.cb67 (.cons (.t rfl) (.cons (.t rfl) (.cons (.t rfl) (.cons (.t rfl) .nil))))) rfl <| .p (opNot (.t rfl)) rfl <| .p (opCall (wis_spec) Tryd.cb66 (.cons (.t rfl) .nil)) rfl <| .p (opAssign (.t rfl)) rfl <| .p (opAssign (.c _)) rfl <| .nil ?_)
                    refine EndT.thenN ?_
                    refine CodeT.ret (EndT.blkR (EndT.thenR (Post.retR rfl rfl () trivial (fun _ _ _ _ => trivial) rfl (.cons (.rt rfl) ?_ (.cons (.rt rfl) ?_ .nil)))))
                    · first | (exfalso; omega) | exact VLe.int (congrArg Nat.cast (testF_is (by unfold testP; (repeat (first | rw [if_pos (by omega)] | rw [if_neg (by omega)])); all_goals first | omega | exact Iff.rfl)).symm)
                    · exact VLe.refl _
                  ·
                    refine CodeT.skip (EndT.blkN (EndT.thenN ?_))
                    refine CodeT.seq ?_
                    refine CodeT.region (.p (opMove (.t rfl)) rfl <| .p (opMove (.t rfl)) rfl <| .p (opMove (.t rfl)) rfl <| .p (opMove (.t rfl)) rfl <| .p (opCall (wless_spec hp0 hA hB) Tryd.cb67 (.cons (.t rfl) (.cons (.t rfl) (.cons (.t rfl) (.cons (.t rfl) .nil))))) rfl <| .p (opNot (.t rfl)) rfl <| .p (opCall (wis_spec) Tryd.cb66 (.cons (.t rfl) .nil)) rfl <| .p (opAssign (.t rfl)) rfl <| .p (opAssign (.c _)) rfl <| .nil ?_)
                    refine EndT.thenN ?_
                    refine CodeT.ret (Post.retR rfl rfl () trivial (fun _ _ _ _ => trivial) rfl (.cons (.rt rfl) ?_ (.cons (.rt rfl) ?_ .nil)))
                    · first | (exfalso; omega) | exact VLe.int (congrArg Nat.cast (testF_is (by unfold testP; (repeat (first | rw [if_pos (by omega)] | rw [if_neg (by omega)])); all_goals first | omega | exact Iff.rfl)).symm)
                    · exact VLe.refl _
        ·
          refine CodeT.region (.p (opEql (.t rfl) (.c _)) rfl <| .p (opAssign (.t rfl)) rfl <| .nil ?_)
          refine EndT.thenN ?_
          refine CodeT.cond (.t rfl) (fun c14 => ?_) (fun c14 => ?_)
          ·
            refine CodeT.seq ?_
            refine CodeT.region (.p (opMove (.t rfl)) rfl <| .p (opMove (.t rfl)) rfl <| .p (opMove (.t rfl)) rfl <| .p (opMove (.t rfl)) rfl <| .p (opCall (wless_spec hp0 hA hB) Tryd.cb67 (.cons (.t rfl) (.cons (.t rfl) (.cons (.t rfl) (.cons (.t rfl) .nil))))) rfl <| .p (opCall (wis_spec) Tryd.cb66 (.cons (.t rfl) .nil)) rfl <| .p (opAssign (.t rfl)) rfl <| .p (opAssign (.c _)) rfl <| .nil ?_)
            refine EndT.thenN ?_
            refine CodeT.ret (EndT.blkR (EndT.thenR (Post.retR rfl rfl () trivial (fun _ _ _ _ => trivial) rfl (.cons (.rt rfl) ?_ (.cons (.rt rfl) ?_ .nil)))))
            · first | (exfalso; omega) | exact VLe.int (congrArg Nat.cast (testF_is (by unfold testP; (repeat (first | rw [if_pos (by omega)] | rw [if_neg (by omega)])); all_goals first | omega | exact Iff.rfl)).symm)
            · exact VLe.refl _
          ·
            refine CodeT.seq ?_
            refine CodeT.seq ?_
            refine CodeT.region (.p (opEql (.t rfl) (.c _)) rfl <| .p (opAssign (.t rfl)) rfl <| .nil ?_)
            refine EndT.thenN ?_
            refine CodeT.cond (.t rfl) (fun c15 => ?_) (fun c15 => ?_)
            ·
              refine CodeT.skip (EndT.thenN ?_)
              refine CodeT.cond (.t rfl) (fun c16 => ?_) (fun c16 => ?_)
              ·
                refine CodeT.seq ?_
                refine CodeT.region (.p (opMove (.t rfl)) rfl <| .p (opMove (.t rfl)) rfl <| .p (opMove (.t rfl)) rfl <| .p (opMove (.t rfl)) rfl <| .p (opCall (wless_spec hp0 hB hA) Tryd.cb67 (.cons (.t rfl) (.cons (.t rfl) (.cons (.t rfl) (.cons (.t rfl) .nil))))) rfl <| .p (opCall (wis_spec) Tryd.cb66 (.cons (.t rfl) .nil)) rfl <| .p (opAssign (.t rfl)) rfl <| .p (opAssign (.c _)) rfl <| .nil ?_)
                refine EndT.thenN ?_
                refine CodeT.ret (EndT.blkR (EndT.thenR (Post.retR rfl rfl () trivial (fun _ _ _ _ => trivial) rfl (.cons (.rt rfl) ?_ (.cons (.rt rfl) ?_ .nil)))))
                · first | (exfalso; omega) | exact VLe.int (congrArg Nat.cast (testF_is (by unfold testP; (repeat (first | rw [if_pos (by omega)] | rw [if_neg (by omega)])); all_goals first | omega | exact Iff.rfl)).symm)
                · exact VLe.refl _
              ·
                refine CodeT.seq ?_
                refine CodeT.seq ?_
                refine CodeT.region (.p (opEql (.t rfl) (.c _)) rfl <| .p (opAssign (.t rfl)) rfl <| .nil ?_)
                refine EndT.thenN ?_
                refine CodeT.cond (.t rfl) (fun c17 => ?_) (fun c17 => ?_)
                ·
                  refine CodeT.skip (EndT.thenN ?_)
                  refine CodeT.cond (.t rfl) (fun c18 => ?_) (fun c18 => ?_)
                  ·
                    refine CodeT.seq ?_
                    refine CodeT.region (.p (opMove (.t rfl)) rfl <| .p (opMove (.t rfl)) rfl <| .p (opMove (.t rfl)) rfl <| .p (opMove (.t rfl)) rfl <| .p (opCall (wless_spec hp0 hB hA) Tryd.cb67 (.cons (.t rfl) (.cons (.t rfl) (.cons (.t rfl) (.cons (.t rfl) .nil))))) rfl <| .p (opNot (.t rfl)) rfl <| .p (opCall (wis_spec) Tryd.cb66 (.cons (.t rfl) .nil)) rfl <| .p (opAssign (.t rfl)) rfl <| .p (opAssign (.c _)) rfl <| .nil ?_)
                    refine EndT.thenN ?_
                    refine CodeT.ret (EndT.blkR (EndT.thenR (Post.retR rfl rfl () trivial (fun _ _ _ _ => trivial) rfl (.cons (.rt rfl) ?_ (.cons (.rt rfl) ?_ .nil)))))
                    · first | (exfalso; omega) | exact VLe.int (congrArg Nat.cast (testF_is (by unfold testP; (repeat (first | rw [if_pos (by omega)] | rw [if_neg (by omega)])); all_goals first | omega | exact Iff.rfl)).symm)
                    · exact VLe.refl _
                  ·
                    refine CodeT.skip (EndT.blkN (EndT.thenN ?_))
                    refine CodeT.seq ?_
                    refine CodeT.region (.p (opMove (.t rfl)) rfl <| .p (opMove (.t rfl)) rfl <| .p (opMove (.t rfl)) rfl <| .p (opMove (.t rfl)) rfl <| .p (opCall (wless_spec hp0 hA hB) Tryd.cb67 (.cons (.t rfl) (.cons (.t rfl) (.cons (.t rfl) (.cons (.t rfl) .nil))))) rfl <| .p (opNot (.t rfl)) rfl <| .p (opCall (wis_spec) Tryd.cb66 (.cons (.t rfl) .nil)) rfl <| .p (opAssign (.t rfl)) rfl <| .p (opAssign (.c _)) rfl <| .nil ?_)
                    refine EndT.thenN ?_
                    refine CodeT.ret (Post.retR rfl rfl () trivial (fun _ _ _ _ => trivial) rfl (.cons (.rt rfl) ?_ (.cons (.rt rfl) ?_ .nil)))
                    · first | (exfalso; omega) | exact VLe.int (congrArg Nat.cast (testF_is (by unfold testP; (repeat (first | rw [if_pos (by omega)] | rw [if_neg (by omega)])); all_goals first | omega | exact Iff.rfl)).symm)
                    · exact VLe.refl _
                ·
                  refine CodeT.region (.p (opEql (.t rfl) (.c _)) rfl <| .p (opAssign (.t rfl)) rfl <| .nil ?_)
                  refine EndT.thenN ?_
                  refine CodeT.cond (.t rfl) (fun c19 => ?_) (fun c19 => ?_)
                  ·
                    refine CodeT.seq ?_
                    refine CodeT.region (.p (opMove (.t rfl)) rfl <| .p (opMove (.t rfl)) rfl <| .p (opMove (.t rfl)) rfl <| .p (opMove (.t rfl)) rfl <| .p (opCall (wless_spec hp0 hB hA) Tryd.cb67 (.cons (.t rfl) (.cons (.t rfl) (.cons (.t rfl) (.cons (.t rfl) .nil))))) rfl <| .p (opNot (.t rfl)) rfl <| .p (opCall (wis_spec) Tryd.cb66 (.cons (.t rfl) .nil)) rfl <| .p (opAssign (.t rfl)) rfl <| .p (opAssign (.c _)) rfl <| .nil ?_)
                    refine EndT.thenN ?_
                    refine CodeT.ret (EndT.blkR (EndT.thenR (Post.retR rfl rfl () trivial (fun _ _ _ _ => trivial) rfl (.cons (.rt rfl) ?_ (.cons (.rt rfl) ?_ .nil)))))
                    · first | (exfalso; omega) | exact VLe.int (congrArg Nat.cast (testF_is (by unfold testP; (repeat (first | rw [if_pos (by omega)] | rw [if_neg (by omega)])); all_goals first | omega | exact Iff.rfl)).symm)
                    · exact VLe.refl _
                  ·
                    refine CodeT.skip (EndT.blkN (EndT.thenN ?_))
                    refine CodeT.seq ?_
                    refine CodeT.region (.p (opMove (.t rfl)) rfl <| .p (opMove (.t rfl)) rfl <| .p (opMove (.t rfl)) rfl <| .p (opMove (.t rfl)) rfl <| .p (opCall (wless_spec hp0 hA hB) Tryd.cb67 (.cons (.t rfl) (.cons (.t rfl) (.cons (.t rfl) (.cons (.t rfl) .nil))))) rfl <| .p (opNot (.t rfl)) rfl <| .p (opCall (wis_spec) Tryd.cb66 (.cons (.t rfl) .nil)) rfl <| .p (opAssign (.t rfl)) rfl <| .p (opAssign (.c _)) rfl <| .nil ?_)
                    refine EndT.thenN ?_
                    refine CodeT.ret (Post.retR rfl rfl () trivial (fun _ _ _ _ => trivial) rfl (.cons (.rt rfl) ?_ (.cons (.rt rfl) ?_ .nil)))
                    · first | (exfalso; omega) | exact VLe.int (congrArg Nat.cast (testF_is (by unfold testP; (repeat (first | rw [if_pos (by omega)] | rw [if_neg (by omega)])); all_goals first | omega | exact Iff.rfl)).symm)
                    · exact VLe.refl _
            ·
              refine CodeT.region (.p (opEql (.t rfl) (.c _)) rfl <| .p (opAssign (.t rfl)) rfl <| .nil ?_)
              refine EndT.thenN ?_
              refine CodeT.cond (.t rfl) (fun c20 => ?_) (fun c20 => ?_)
              ·
                refine CodeT.seq ?_
                refine CodeT.region (.p (opMove (.t rfl)) rfl <| .p (opMove (.t rfl)) rfl <| .p (opMove (.t rfl)) rfl <| .p (opMove (.t rfl)) rfl <| .p (opCall (wless_spec hp0 hB hA) Tryd.cb67 (.cons (.t rfl) (.cons (.t rfl) (.cons (.t rfl) (.cons (.t rfl) .nil))))) rfl <| .p (opCall (wis_spec) Tryd.cb66 (.cons (.t rfl) .nil)) rfl <| .p (opAssign (.t rfl)) rfl <| .p (opAssign (.c _)) rfl <| .nil ?_)
                refine EndT.thenN ?_
                refine CodeT.ret (EndT.blkR (EndT.thenR (Post.retR rfl rfl () trivial (fun _ _ _ _ => trivial) rfl (.cons (.rt rfl) ?_ (.cons (.rt rfl) ?_ .nil)))))
                · first | (exfalso; omega) | exact VLe.int (congrArg Nat.cast (testF_is (by unfold testP; (repeat (first | rw [if_pos (by omega)] | rw [if_neg (by omega)])); all_goals first | omega | exact Iff.rfl)).symm)
                · exact VLe.refl _
              ·
                refine CodeT.seq ?_
                refine CodeT.seq ?_
                refine CodeT.region (.p (opEql (.t rfl) (.c _)) rfl <| .p (opAssign (.t rfl)) rfl <| .nil ?_)
                refine EndT.thenN ?_
                refine CodeT.cond (.t rfl) (fun c21 => ?_) (fun c21 => ?_)
                ·
                  refine CodeT.skip (EndT.thenN ?_)
                  refine CodeT.cond (.t rfl) (fun c22 => ?_) (fun c22 => ?_)
                  ·
                    refine CodeT.seq ?_
                    refine CodeT.region (.p (opMove (.t rfl)) rfl <| .p (opMove (.t rfl)) rfl <| .p (opMove (.t rfl)) rfl <| .p (opMove (.t rfl)) rfl <| .p (opCall (wless_spec hp0 hB hA) Tryd.cb67 (.cons (.t rfl) (.cons (.t rfl) (.cons (.t rfl) (.cons (.t rfl) .nil))))) rfl <| .p (opNot (.t rfl)) rfl <| .p (opCall (wis_spec) Tryd.cb66 (.cons (.t rfl) .nil)) rfl <| .p (opAssign (.t rfl)) rfl <| .p (opAssign (.c _)) rfl <| .nil ?_)
                    refine EndT.thenN ?_
                    refine CodeT.ret (EndT.blkR (EndT.thenR (Post.retR rfl rfl () trivial (fun _ _ _ _ => trivial) rfl (.cons (.rt rfl) ?_ (.cons (.rt rfl) ?_ .nil)))))
                    · first | (exfalso; omega) | exact VLe.int (congrArg Nat.cast (testF_is (by unfold testP; (repeat (first | rw [if_pos (by omega)] | rw [if_neg (by omega)])); all_goals first | omega | exact Iff.rfl)).symm)
                    · exact VLe.refl _
                  ·
                    refine CodeT.skip (EndT.blkN (EndT.thenN ?_))
                    refine CodeT.seq ?_
                    refine CodeT.region (.p (opMove (.t rfl)) rfl <| .p (opMove (.t rfl)) rfl <| .p (opMove (.t rfl)) rfl <| .p (opMove (.t rfl)) rfl <| .p (opCall (wless_spec hp0 hA hB) Tryd.cb67 (.cons (.t rfl) (.cons (.t rfl) (.cons (.t rfl) (.cons (.t rfl) .nil))))) rfl <| .p (opNot (.t rfl)) rfl <| .p (opCall (wis_spec) Tryd.cb66 (.cons (.t rfl) .nil)) rfl <| .p (opAssign (.t rfl)) rfl <| .p (opAssign (.c _)) rfl <| .nil ?_)
                    refine EndT.thenN ?_
                    refine CodeT.ret (Post.retR rfl rfl () trivial (fun _ _ _ _ => trivial) rfl (.cons (.rt rfl) ?_ (.cons (.rt rfl) ?_ .nil)))
                    · first | (exfalso; omega) | exact VLe.int (congrArg Nat.cast (testF_is (by unfold testP; (repeat (first | rw [if_pos (by omega)] | rw [if_neg (by omega)])); all_goals first | omega | exact Iff.rfl)).symm)
                    · exact VLe.refl _
                ·
                  refine CodeT.region (.p (opEql (.t rfl) (.c _)) rfl <| .p (opAssign (.t rfl)) rfl <| .nil ?_)
                  refine EndT.thenN ?_
                  refine CodeT.cond (.t rfl) (fun c23 => ?_) (fun c23 => ?_)
                  ·
                    refine CodeT.seq ?_
                    refine CodeT.region (.p (opMove (.t rfl)) rfl <| .p (opMove (.t rfl)) rfl <| .p (opMove (.t rfl)) rfl <| .p (opMove (.t rfl)) rfl <| .p (opCall (wless_spec hp0 hB hA) Tryd.cb67 (.cons (.t rfl) (.cons (.t rfl) (.cons (.t rfl) (.cons (.t rfl) .nil))))) rfl <| .p (opNot (.t rfl)) rfl <| .p (opCall (wis_spec) Tryd.cb66 (.cons (.t rfl) .nil)) rfl <| .p (opAssign (.t rfl)) rfl <| .p (opAssign (.c _)) rfl <| .nil ?_)
                    refine EndT.thenN ?_
                    refine CodeT.ret (EndT.blkR (EndT.thenR (Post.retR rfl rfl () trivial (fun _ _ _ _ => trivial) rfl (.cons (.rt rfl) ?_ (.cons (.rt rfl) ?_ .nil)))))
                    · first | (exfalso; omega) | exact VLe.int (congrArg Nat.cast (testF_is (by unfold testP; (repeat (first | rw [if_pos (by omega)] | rw [if_neg (by omega)])); all_goals first | omega | exact Iff.rfl)).symm)
                    · exact VLe.refl _
                  ·
                    refine CodeT.skip (EndT.blkN (EndT.thenN ?_))
                    refine CodeT.seq ?_
                    refine CodeT.region (.p (opMove (.t rfl)) rfl <| .p (opMove (.t rfl)) rfl <| .p (opMove (.t rfl)) rfl <| .p (opMove (.t rfl)) rfl <| .p (opCall (wless_spec hp0 hA hB) Tryd.cb67 (.cons (.t rfl) (.cons (.t rfl) (.cons (.t rfl) (.cons (.t rfl) .nil))))) rfl <| .p (opNot (.t rfl)) rfl <| .p (opCall (wis_spec) Tryd.cb66 (.cons (.t rfl) .nil)) rfl <| .p (opAssign (.t rfl)) rfl <| .p (opAssign (.c _)) rfl <| .nil ?_)
                    refine EndT.thenN ?_
                    refine CodeT.ret (Post.retR rfl rfl () trivial (fun _ _ _ _ => trivial) rfl (.cons (.rt rfl) ?_ (.cons (.rt rfl) ?_ .nil)))
                    · first | (exfalso; omega) | exact VLe.int (congrArg Nat.cast (testF_is (by unfold testP; (repeat (first | rw [if_pos (by omega)] | rw [if_neg (by omega)])); all_goals first | omega | exact Iff.rfl)).symm)
                    · exact VLe.refl _

theorem wunary_spec {n a : Nat} {op : Int} (hp0 : WN n) (hp1 : a < 18446744073709551616) (hp2 : 0 ≤ op) (hp3 : op < 4) : FnE Tryd.prog 43 [iV op, iV (n : Int), uV a] [tabH 0 .u8 Lib.deBruijn64tab] (γ := Unit) (fun _ => True) (fun _ => []) (fun _ => tupV [uV (unF n op (a % 2 ^ n)), iV 0]) := by
  refine FnE.intro 44 Tryd.func43 rfl rfl rfl fun w0 S0 M => ?_
  have hA := Nat.mod_lt a (Nat.two_pow_pos n)
  have hA64 := lt64 hp0 hA
  generalize hAe : a % 2 ^ n = A at *
  have hn1 : 1 ≤ n ∧ n ≤ 64 := by rcases hp0 with rfl | rfl <;> omega
  have hbl := bl_le hA
  have hct := ctz_tz hn1.2 hA
  have hcl : Lib.ctz 64 A ≤ 64 := ctz_le hA64
  have hpn := pop_n hn1.2 hA
  have hpl := popN_le 64 A
  refine CodeT.seq ?_
  refine CodeT.region (.p (opAssign (.c _)) rfl <| .p (opAssign (.c _)) rfl <| .nil ?_)
  refine EndT.thenN ?_
  refine CodeT.seq ?_
  refine CodeT.seq ?_
  refine CodeT.region (.p (opMove (.t rfl)) rfl <| .p (opCall (wright_spec) Tryd.cb62 (.cons (.t rfl) .nil)) rfl <| .p (opNot (.t rfl)) rfl <| .p (opMove (.t rfl)) rfl <| .g (OpG.gF rfl rfl rfl rfl (fun hg => opMove (.t rfl))) rfl rfl <| .g (OpG.gF rfl rfl rfl rfl (fun hg => opLss (.when (.t rfl) hg) (.c _))) rfl rfl <| .p (opOr (.t rfl) (.t rfl)) rfl <| .p (opMove (.t rfl)) rfl <| .g (OpG.gF rfl rfl rfl rfl (fun hg => opMove (.t rfl))) rfl rfl <| .g (OpG.gF rfl rfl rfl rfl (fun hg => opGeq (.when (.t rfl) hg) (.c _))) rfl rfl <| .p (opOr (.t rfl) (.t rfl)) rfl <| .nil ?_)
  refine EndT.thenN ?_
  refine CodeT.cond (.t rfl) (fun c0 => ?_) (fun c0 => ?_)
  ·
    exfalso
    rcases hp0 with rfl | rfl <;> omega
  ·
    refine CodeT.skip (EndT.thenN ?_)
    refine CodeT.seq ?_
    refine CodeT.region (.p (opMove (.t rfl)) rfl <| .p (opMove (.t rfl)) rfl <| .p ((opCall (wcut_spec hp0 hp1) Tryd.cb59 (.cons (.t rfl) (.cons (.t rfl) .nil))).le (VLe.int (congrArg Nat.cast hAe))) rfl <| .p (opAssign (.t rfl)) rfl <| .nil ?_)
    refine EndT.thenN ?_
    refine CodeT.seq ?_
    refine CodeT.region (.p (opMove (.t rfl)) rfl <| .p (opCall (clz64_spec hA64) Tryd.cb63 (.cons (.t rfl) .nil)) rfl <| .p (opMove (.t rfl)) rfl <| .p (opSubF (.c _) (.t rfl) (fits_i64 (by omega) (by omega))) rfl <| .p (opSubF (.t rfl) (.t rfl) (fits_i64 (by omega) (by omega))) rfl <| .p ((opConvF Tryd.underlying3 Tryd.underlying37 (.t rfl) (fits_u64 (by omega) (by omega))).le (VLe.int (show _ = ((n - blN A : Nat) : Int) by omega))) rfl <| .p (opMove (.t rfl)) rfl <| .p (opCallDup (i := 0) (ctz64_spec hA64) Tryd.cb64 (.cons (.t rfl) .nil) rfl) rfl <| .p (opMove (.t rfl)) rfl <| .p (opMin (.t rfl) (.t rfl)) rfl <| .p ((opConvF Tryd.underlying3 Tryd.underlying37 (.t rfl) (fits_u64 (by omega) (by omega))).le (VLe.int (show _ = ((tzN n A : Nat) : Int) by rw [← hct]; omega))) rfl <| .p (opMove (.t rfl)) rfl <| .p (opCall (pop64_spec hA64) Tryd.cb65 (.cons (.t rfl) .nil)) rfl <| .p ((opConvF Tryd.underlying3 Tryd.underlying37 (.t rfl) (fits_u64 (by omega) (by omega))).le (VLe.int (show _ = ((popN n A : Nat) : Int) by rw [← hpn]))) rfl <| .p (opMove (.t rfl)) rfl <| .p (opEql (.t rfl) (.c _)) rfl <| .p (opCall (wis_spec) Tryd.cb66 (.cons (.t rfl) .nil)) rfl <| .p (opBuildArr Tryd.ar110 Tryd.zb110 (.cons (.t rfl) (.cons (.t rfl) (.cons (.t rfl) (.cons (.t rfl) .nil)))) rfl) rfl <| .n (opAlloc Tryd.zb110) rfl <| fun b8 _ => .s (opStoreOA (i := 0) Tryd.cz110 rfl (.t rfl) (.t rfl) rfl rfl rfl) <| .nil ?_)
    refine EndT.thenN ?_
    refine CodeT.seq ?_
    have hop : op = 0 ∨ op = 1 ∨ op = 2 ∨ op = 3 := by omega
    rcases hop with rfl | rfl | rfl | rfl
    ·
      refine CodeT.region (.p (opMove (.t rfl)) rfl <| .p (opIndexAddrO 0 Tryd.underlying110 Tryd.cz37 rfl (.t rfl) (.t rfl) rfl (by omega)) rfl <| .p (opLoadO (i := 0) Tryd.ag37 (.t rfl) rfl rfl) rfl <| .p (opAssign (.t rfl)) rfl <| .p (opAssign (.c _)) rfl <| .nil ?_)
      refine EndT.thenN ?_
      refine CodeT.ret (Post.retR rfl rfl () trivial (fun _ _ _ _ => trivial) rfl (.cons (.rt rfl) ?_ (.cons (.rt rfl) ?_ .nil)))
      · first | exact VLe.refl _ | exact VLe.int (congrArg Nat.cast (isN_zero A))
      · exact VLe.refl _
    ·
      refine CodeT.region (.p (opMove (.t rfl)) rfl <| .p (opIndexAddrO 1 Tryd.underlying110 Tryd.cz37 rfl (.t rfl) (.t rfl) rfl (by omega)) rfl <| .p (opLoadO (i := 0) Tryd.ag37 (.t rfl) rfl rfl) rfl <| .p (opAssign (.t rfl)) rfl <| .p (opAssign (.c _)) rfl <| .nil ?_)
      refine EndT.thenN ?_
      refine CodeT.ret (Post.retR rfl rfl () trivial (fun _ _ _ _ => trivial) rfl (.cons (.rt rfl) ?_ (.cons (.rt rfl) ?_ .nil)))
      · first | exact VLe.refl _ | exact VLe.int (congrArg Nat.cast (isN_zero A))
      · exact VLe.refl _
    ·
      refine CodeT.region (.p (opMove (.t rfl)) rfl <| .p (opIndexAddrO 2 Tryd.underlying110 Tryd.cz37 rfl (.t rfl) (.t rfl) rfl (by omega)) rfl <| .p (opLoadO (i := 0) Tryd.ag37 (.t rfl) rfl rfl) rfl <| .p (opAssign (.t rfl)) rfl <| .p (opAssign (.c _)) rfl <| .nil ?_)
      refine EndT.thenN ?_
      refine CodeT.ret (Post.retR rfl rfl () trivial (fun _ _ _ _ => trivial) rfl (.cons (.rt rfl) ?_ (.cons (.rt rfl) ?_ .nil)))
      · first | exact VLe.refl _ | exact VLe.int (congrArg Nat.cast (isN_zero A))
      · exact VLe.refl _
    ·
      refine CodeT.region (.p (opMove (.t rfl)) rfl <| .p (opIndexAddrO 3 Tryd.underlying110 Tryd.cz37 rfl (.t rfl) (.t rfl) rfl (by omega)) rfl <| .p (opLoadO (i := 0) Tryd.ag37 (.t rfl) rfl rfl) rfl <| .p (opAssign (.t rfl)) rfl <| .p (opAssign (.c _)) rfl <| .nil ?_)
      refine EndT.thenN ?_
      refine CodeT.ret (Post.retR rfl rfl () trivial (fun _ _ _ _ => trivial) rfl (.cons (.rt rfl) ?_ (.cons (.rt rfl) ?_ .nil)))
      · first | exact VLe.refl _ | exact VLe.int (congrArg Nat.cast (isN_zero A))
      · exact VLe.refl _

theorem widths_spec {a b : Int} : FnP Tryd.prog 60 [iV a, iV b] (propV ((a = 8 ∨ a = 16 ∨ a = 32) ∧ (b = 32 ∨ b = 64))) := by
  refine FnE.intro 23 Tryd.func60 rfl rfl rfl fun w0 S0 M => ?_
  refine CodeT.seq ?_
  refine CodeT.region (.p (opAssign .cf) rfl <| .nil ?_)
  refine EndT.thenN ?_
  refine CodeT.seq ?_
  refine CodeT.region (.p (opMove (.t rfl)) rfl <| .p (opEql (.t rfl) (.c _)) rfl <| .p (opMove (.t rfl)) rfl <| .g (OpG.gF rfl rfl rfl rfl (fun hg => opMove (.t rfl))) rfl rfl <| .g (OpG.gF rfl rfl rfl rfl (fun hg => opEql (.when (.t rfl) hg) (.c _))) rfl rfl <| .p (opOr (.t rfl) (.t rfl)) rfl <| .p (opMove (.t rfl)) rfl <| .g (OpG.gF rfl rfl rfl rfl (fun hg => opMove (.t rfl))) rfl rfl <| .g (OpG.gF rfl rfl rfl rfl (fun hg => opEql (.when (.t rfl) hg) (.c _))) rfl rfl <| .p (opOr (.t rfl) (.t rfl)) rfl <| .p (opMove (.t rfl)) rfl <| .g (OpG.gT rfl rfl rfl rfl (fun hg => opMove (.t rfl))) rfl rfl <| .g (OpG.gT rfl rfl rfl rfl (fun hg => opEql (.when (.t rfl) hg) (.c _))) rfl rfl <| .g (OpG.gT rfl rfl rfl rfl (fun hg => opMove (.when (.t rfl) hg))) rfl rfl <| .g (OpG.hF rfl rfl rfl rfl (fun hg => opMove (.t rfl))) rfl rfl <| .g (OpG.hF rfl rfl rfl rfl (fun hg => opEql (.when (.t rfl) hg) (.c _))) rfl rfl <| .g (OpG.gT rfl rfl rfl rfl (fun hg => opOr (.when (.t rfl) hg) (.under (.t rfl) hg))) rfl rfl <| .p (opAnd (.t rfl) (.t rfl)) rfl <| .p (opAssign (.t rfl)) rfl <| .nil ?_)
  refine EndT.thenN ?_
  refine CodeT.ret (Post.retP rfl rfl ?_)
  exact VLe.prop (by simp only [or_assoc])

theorem cwrap_spec {a : Nat} (hp0 : a < 18446744073709551616) : FnP Tryd.prog 39 [uV a] (uV (a % 4294967296)) := by
  refine FnE.intro 5 Tryd.func39 rfl rfl rfl fun w0 S0 M => ?_
  refine CodeT.seq ?_
  refine CodeT.region (.p (opAssign (.c _)) rfl <| .nil ?_)
  refine EndT.thenN ?_
  refine CodeT.seq ?_
  refine CodeT.region (.p (opMove (.t rfl)) rfl <| .p (opCall (wcut_spec (n := 32) (.inl rfl) hp0) Tryd.cb59 (.cons (.c _) (.cons (.t rfl) .nil))) rfl <| .p (opAssign (.t rfl)) rfl <| .nil ?_)
  refine EndT.thenN ?_
  refine CodeT.ret (Post.retP rfl rfl ?_)
  exact VLe.refl _

theorem cextend_spec {fr t a : Nat} {s : Prop} [Decidable s] (hp0 : fr = 8 ∨ fr = 16 ∨ fr = 32) (hp1 : t = 32 ∨ t = 64) (hp2 : a < 18446744073709551616) : FnP Tryd.prog 41 [iV (fr : Int), iV (t : Int), propV s, uV a] (tupV [uV (extF fr t s a), iV 0]) := by
  refine FnE.intro 32 Tryd.func41 rfl rfl rfl fun w0 S0 M => ?_
  refine CodeT.seq ?_
  refine CodeT.region (.p (opAssign (.c _)) rfl <| .p (opAssign (.c _)) rfl <| .nil ?_)
  refine EndT.thenN ?_
  refine CodeT.seq ?_
  refine CodeT.seq ?_
  refine CodeT.region (.p (opMove (.t rfl)) rfl <| .p (opMove (.t rfl)) rfl <| .p (opCall (widths_spec) Tryd.cb60 (.cons (.t rfl) (.cons (.t rfl) .nil))) rfl <| .p (opNot (.t rfl)) rfl <| .nil ?_)
  refine EndT.thenN ?_
  refine CodeT.cond (.t rfl) (fun c0 => ?_) (fun c0 => ?_)
  ·
    exfalso
    omega
  ·
    refine CodeT.skip (EndT.thenN ?_)
    refine CodeT.seq ?_
    refine CodeT.region (.p (opMove (.t rfl)) rfl <| .p ((opSubF (.c _) (.t rfl) (fits_i64 (by omega) (by omega))).le (VLe.int (show _ = ((64 - fr : Nat) : Int) by omega))) rfl <| .p (opAssign (.t rfl)) rfl <| .nil ?_)
    refine EndT.thenN ?_
    refine CodeT.seq ?_
    refine CodeT.seq ?_
    refine CodeT.region (.p (opMove (.t rfl)) rfl <| .nil ?_)
    refine EndT.thenN ?_
    refine CodeT.cond (.t rfl) (fun c1 => ?_) (fun c1 => ?_)
    ·
      refine CodeT.seq ?_
      refine CodeT.region (.p (opMove (.t rfl)) rfl <| .p (opMove (.t rfl)) rfl <| .p (opMove (.t rfl)) rfl <| .p (opShl_u64 (.t rfl) (.t rfl) (by omega)) rfl <| .p (opConv Tryd.underlying37 Tryd.underlying2 (.t rfl)) rfl <| .p (opMove (.t rfl)) rfl <| .p (opShr (.t rfl) (.t rfl) (by show _ ≤ 64; omega)) rfl <| .p ((opConv Tryd.underlying2 Tryd.underlying37 (.t rfl)).le (VLe.int (u64_cast _))) rfl <| .p (opCall (wcut_spec (n := t) (show WN t from hp1) (by omega)) Tryd.cb59 (.cons (.t rfl) (.cons (.t rfl) .nil))) rfl <| .p (opAssign (.t rfl)) rfl <| .p (opAssign (.c _)) rfl <| .nil ?_)
      refine EndT.thenN ?_
      refine CodeT.ret (EndT.thenR (Post.retR rfl rfl () trivial (fun _ _ _ _ => trivial) rfl (.cons (.rt rfl) ?_ (.cons (.rt rfl) ?_ .nil))))
      · exact VLe.int (congrArg Nat.cast ((ext_s hp0 hp1).trans (ext_pos c1).symm))
      · exact VLe.refl _
    ·
      refine CodeT.skip (EndT.thenN ?_)
      refine CodeT.seq ?_
      refine CodeT.region (.p (opMove (.t rfl)) rfl <| .p (opMove (.t rfl)) rfl <| .p (opShl_u64 (.t rfl) (.t rfl) (by omega)) rfl <| .p (opMove (.t rfl)) rfl <| .p (opShrN (.t rfl) (.t rfl) (by show _ ≤ 64; omega)) rfl <| .p (opAssign (.t rfl)) rfl <| .p (opAssign (.c _)) rfl <| .nil ?_)
      refine EndT.thenN ?_
      refine CodeT.ret (Post.retR rfl rfl () trivial (fun _ _ _ _ => trivial) rfl (.cons (.rt rfl) ?_ (.cons (.rt rfl) ?_ .nil)))
      · exact VLe.int (congrArg Nat.cast ((ext_u (t := t) hp0).trans (ext_neg c1).symm))
      · exact VLe.refl _

end Go.Proofs.YtgmpadhfgohodaaDoor
