/-
  The plain laws of memories: what was written is there, what has grown is 0. No project text.
-/
import Derived.Test.YtiicgelmdmhajaaDoorP08C
namespace Go.Hl
set_option linter.unusedVariables false

theorem wrongS_ok {pages a o : Nat} {n : Int} (h0 : 0 ≤ n) (h1 : n ≤ 1048576) (h : a + o + n.toNat ≤ pages * 65536) : (wrongS pages a o n).2 = (0, 0) := by
  unfold wrongS
  rw [if_neg (by omega), if_neg (by omega), if_neg (by unfold beyondS; omega)]
theorem overlaps_ok {fa ta : Nat} {ys : List UInt8} (hf : fa < 65536) (ht : ta < 65536) (hy : ys.length ≤ 400) : copyS 2 2 ta fa ys.length = (0, 0) ∧ (wrongS 2 ta 0 (ys.length : Int)).2 = (0, 0) ∧
    (if (wrongS 2 ta 0 (ys.length : Int)).2 = (0, 0) then memR 64 (if copyS 2 2 ta fa ys.length = (0, 0) then wrC 64 (if (wrongS 2 fa 0 (ys.length : Int)).2 = (0, 0) then wrC 64 (zeroC 64) 3 (fa + 0) ys else zeroC 64) 3 ta (memR 64 (if (wrongS 2 fa 0 (ys.length : Int)).2 = (0, 0) then wrC 64 (zeroC 64) 3 (fa + 0) ys else zeroC 64) 3 fa ys.length) else (if (wrongS 2 fa 0 (ys.length : Int)).2 = (0, 0) then wrC 64 (zeroC 64) 3 (fa + 0) ys else zeroC 64)) 3 (ta + 0) (ys.length : Int).toNat else []) = ys := by
  have h1 : copyS 2 2 ta fa ys.length = (0, 0) := by unfold copyS beyondS; rw [if_neg (by omega), if_neg (by omega)]
  have h2 : (wrongS 2 ta 0 (ys.length : Int)).2 = (0, 0) := wrongS_ok (by omega) (by omega) (by omega)
  have h3 : (wrongS 2 fa 0 (ys.length : Int)).2 = (0, 0) := wrongS_ok (by omega) (by omega) (by omega)
  refine ⟨h1, h2, ?_⟩
  rw [if_pos h1, if_pos h2, if_pos h3, Nat.add_zero, Nat.add_zero, Int.toNat_natCast, memR_wr (by decide)]
  have := memR_wr (z := 64) (C := wrC 64 (zeroC 64) 3 fa ys) (num := 3) (at_ := ta) (ys := ys) (by decide)
  exact this
theorem grows_ok {a r n : Nat} {ys : List UInt8} (ha : a < 65536) (hy : ys.length ≤ 400) (hr : r < n * 65536 - 100) (hn : 1 ≤ n) : (wrongS 2 a 0 (ys.length : Int)).2 = (0, 0) ∧ (wrongS (2 + n) a 0 (ys.length : Int)).2 = (0, 0) ∧ (wrongS (2 + n) (131072 + r) 0 100).2 = (0, 0) ∧
    (if (wrongS (2 + n) a 0 (ys.length : Int)).2 = (0, 0) then memR 64 (if (wrongS 2 a 0 (ys.length : Int)).2 = (0, 0) then wrC 64 (zeroC 64) 1 (a + 0) ys else zeroC 64) 1 (a + 0) (ys.length : Int).toNat else []) = ys ∧
    (if (wrongS (2 + n) (131072 + r) 0 100).2 = (0, 0) then memR 64 (if (wrongS 2 a 0 (ys.length : Int)).2 = (0, 0) then wrC 64 (zeroC 64) 1 (a + 0) ys else zeroC 64) 1 (131072 + r + 0) (100 : Int).toNat else []) = List.replicate 100 0 := by
  have h1 : (wrongS 2 a 0 (ys.length : Int)).2 = (0, 0) := wrongS_ok (by omega) (by omega) (by omega)
  have h2 : (wrongS (2 + n) a 0 (ys.length : Int)).2 = (0, 0) := wrongS_ok (by omega) (by omega) (by omega)
  have h3 : (wrongS (2 + n) (131072 + r) 0 100).2 = (0, 0) := wrongS_ok (by omega) (by omega) (by have : (100 : Int).toNat = 100 := rfl; omega)
  refine ⟨h1, h2, h3, ?_, ?_⟩
  · rw [if_pos h1, if_pos h2, Nat.add_zero, Int.toNat_natCast, memR_wr (by decide)]
  · rw [if_pos h1, if_pos h3, show (100 : Int).toNat = 100 from rfl]
    unfold memR
    apply List.ext_getElem?
    intro i
    rw [List.getElem?_map]
    by_cases hi : i < 100
    · rw [List.getElem?_range hi, List.getElem?_replicate, if_pos hi]
      simp only [Option.map_some]
      rw [wrC_byte (by decide), if_neg (by omega)]
      unfold memB zeroC
      rw [List.getD_eq_getElem?_getD, List.getElem?_replicate]
      split <;> rfl
    · rw [List.getElem?_eq_none (by rw [List.length_range]; exact Nat.le_of_not_lt hi), List.getElem?_eq_none (by rw [List.length_replicate]; omega)]; rfl
theorem makes_wrong {pages a : Nat} : (wrongS pages a 0 1048577).2 = (0, 15) ∧ (wrongS pages a 0 (-1)).2 = (0, 1) := ⟨rfl, rfl⟩
theorem growS_cases (M : SpD) (n : Nat) : (n ≤ M.high - M.pages ∧ growS M n = ({ M with pages := M.pages + n }, M.pages, true)) ∨ (M.high - M.pages < n ∧ growS M n = (M, 0, false)) := by
  unfold growS
  by_cases h : M.high - M.pages < n
  · exact .inr ⟨h, if_pos h⟩
  · exact .inl ⟨by omega, if_neg h⟩
end Go.Hl
