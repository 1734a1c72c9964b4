/-
  What the statement's proof leans on, several texts in one (packed by a program).
-/
import Derived.Test.YtmmdlhjcmlekfaaGreatDoorPNO
import Derived.Shelf.Sort.Plain
import Derived.Shelf.Slices.CompactI
import Derived.Ground.NamesProg
import Derived.Ground.Names2Prog
set_option linter.all false
set_option maxRecDepth 1000000
set_option maxHeartbeats 4000000
section
namespace Go.Proofs
open Go.Shelf Go.RowKit Go.Lib Go.Sort
def Tryz.laySort_ren : Go.Shelf.Ren := ⟨fun | 189 => 41 | 125 => 61 | 257 => 60 | 128 => 91 | 129 => 92 | 294 => 82 | 295 => 83 | 296 => 84 | 297 => 85 | 298 => 86 | 299 => 87 | 216 => 88 | 300 => 89 | 301 => 90 | 328 => 119 | 329 => 120 | 330 => 121 | 331 => 122 | 332 => 123 | 215 => 124 | 343 => 162 | n => n, fun | 28 => 53 | 3 => 3 | 46 => 142 | 0 => 0 | 51 => 175 | 53 => 58 | 4 => 4 | 183 => 169 | 182 => 168 | 131 => 143 | 5 => 5 | 9 => 9 | 218 => 202 | 222 => 206 | 228 => 253 | 229 => 254 | n => n, fun | n => n⟩
theorem Tryz.laySort : Go.Proofs.Lays.n189 Tryz.prog Tryz.laySort_ren := {
  mixed := by kernel_rfl
  f125 := Tryz.func61.trans (congrArg some (by kernel_rfl))
  f128 := Tryz.func91.trans (congrArg some (by kernel_rfl))
  f129 := Tryz.func92.trans (congrArg some (by kernel_rfl))
  f189 := Tryz.func41.trans (congrArg some (by kernel_rfl))
  f215 := Tryz.func124.trans (congrArg some (by kernel_rfl))
  f216 := Tryz.func88.trans (congrArg some (by kernel_rfl))
  f257 := Tryz.func60.trans (congrArg some (by kernel_rfl))
  f294 := Tryz.func82.trans (congrArg some (by kernel_rfl))
  f295 := Tryz.func83.trans (congrArg some (by kernel_rfl))
  f296 := Tryz.func84.trans (congrArg some (by kernel_rfl))
  f297 := Tryz.func85.trans (congrArg some (by kernel_rfl))
  f298 := Tryz.func86.trans (congrArg some (by kernel_rfl))
  f299 := Tryz.func87.trans (congrArg some (by kernel_rfl))
  f300 := Tryz.func89.trans (congrArg some (by kernel_rfl))
  f301 := Tryz.func90.trans (congrArg some (by kernel_rfl))
  f328 := Tryz.func119.trans (congrArg some (by kernel_rfl))
  f329 := Tryz.func120.trans (congrArg some (by kernel_rfl))
  f330 := Tryz.func121.trans (congrArg some (by kernel_rfl))
  f331 := Tryz.func122.trans (congrArg some (by kernel_rfl))
  f332 := Tryz.func123.trans (congrArg some (by kernel_rfl))
  f343 := Tryz.func162.trans (congrArg some (by kernel_rfl))
  t0 := Tryz.underlying0
  a0 := Tryz.isAgg0
  z0 := Tryz.sizeOf0
  v0 := Tryz.zeroValue0
  t3 := Tryz.underlying3
  a3 := Tryz.isAgg3
  z3 := Tryz.sizeOf3
  v3 := Tryz.zeroValue3
  t4 := Tryz.underlying4
  a4 := Tryz.isAgg4
  z4 := Tryz.sizeOf4
  v4 := Tryz.zeroValue4
  t5 := Tryz.underlying5
  a5 := Tryz.isAgg5
  z5 := Tryz.sizeOf5
  v5 := Tryz.zeroValue5
  t9 := Tryz.underlying9
  a9 := Tryz.isAgg9
  z9 := Tryz.sizeOf9
  v9 := Tryz.zeroValue9
  t28 := Tryz.underlying53
  a28 := Tryz.isAgg53
  z28 := Tryz.sizeOf53
  v28 := Tryz.zeroValue53
  t46 := Tryz.underlying142
  a46 := Tryz.isAgg142
  z46 := Tryz.sizeOf142
  v46 := Tryz.zeroValue142
  t51 := Tryz.underlying175
  a51 := Tryz.isAgg175
  z51 := Tryz.sizeOf175
  v51 := Tryz.zeroValue175
  t53 := Tryz.underlying58
  a53 := Tryz.isAgg58
  z53 := Tryz.sizeOf58
  v53 := Tryz.zeroValue58
  t131 := Tryz.underlying143
  a131 := Tryz.isAgg143
  z131 := Tryz.sizeOf143
  v131 := Tryz.zeroValue143
  t182 := Tryz.underlying168
  a182 := Tryz.isAgg168
  z182 := Tryz.sizeOf168
  v182 := Tryz.zeroValue168
  t183 := Tryz.underlying169
  a183 := Tryz.isAgg169
  z183 := Tryz.sizeOf169
  v183 := Tryz.zeroValue169
  t218 := Tryz.underlying202
  a218 := Tryz.isAgg202
  z218 := Tryz.sizeOf202
  v218 := Tryz.zeroValue202
  t222 := Tryz.underlying206
  a222 := Tryz.isAgg206
  z222 := Tryz.sizeOf206
  v222 := Tryz.zeroValue206
  t228 := Tryz.underlying253
  a228 := Tryz.isAgg253
  z228 := Tryz.sizeOf253
  v228 := Tryz.zeroValue253
  t229 := Tryz.underlying254
  a229 := Tryz.isAgg254
  z229 := Tryz.sizeOf254
  v229 := Tryz.zeroValue254 }
def Tryz.layCompact_ren : Go.Shelf.Ren := ⟨fun | 20 => 42 | n => n, fun | 22 => 53 | 3 => 3 | 4 => 4 | 0 => 0 | n => n, fun | n => n⟩
theorem Tryz.layCompact : Go.Proofs.Lays2.n20 Tryz.prog Tryz.layCompact_ren := {
  mixed := by kernel_rfl
  f20 := Tryz.func42.trans (congrArg some (by kernel_rfl))
  t0 := Tryz.underlying0
  a0 := Tryz.isAgg0
  z0 := Tryz.sizeOf0
  v0 := Tryz.zeroValue0
  t3 := Tryz.underlying3
  a3 := Tryz.isAgg3
  z3 := Tryz.sizeOf3
  v3 := Tryz.zeroValue3
  t4 := Tryz.underlying4
  a4 := Tryz.isAgg4
  z4 := Tryz.sizeOf4
  v4 := Tryz.zeroValue4
  t22 := Tryz.underlying53
  a22 := Tryz.isAgg53
  z22 := Tryz.sizeOf53
  v22 := Tryz.zeroValue53
  i3 := by kernel_rfl }
namespace YtmmdlhjcmlekfaaGreatDoor
open Go.Hl
theorem ints_flat (l : List Int) : l.flatMap encInt = l.map (fun n => intV .i64 n) := by
  induction l with
  | nil => rfl
  | cons a l ih => simp only [List.flatMap_cons, List.map_cons, ih]; rfl
theorem ofPut {P : Program} {f : FuncId} {b cap : Nat} {xs ys r : List Int} {v : Value} {q : VP} (hlen : (ys ++ r).length ≤ xs.length) (hq : ∀ S w, q.p S w v)
    (hcall : ∀ w, Holds (Value.int .i64) w b 0 xs.toArray → b < w.heap.size → xs.length ≤ cap → xs.length ≤ 281474976710656 → Calls P f #[.slice (some ⟨b, 0, none⟩) xs.length cap] w fun e w' => e = .returned v ∧ ∃ n os, w' = grow (putRow (Value.int .i64) (Sort.ahead w n) b 0 (ys ++ r).toArray) os) :
    FnE P f [exactV (sval (some (b, cap)) xs.length)] [sliceH (some (b, cap)) 1 encInt xs] (γ := Unit) (fun _ => True) (fun _ => [sliceH (some (b, cap)) 1 encInt ys]) (fun _ => q) := by
  intro w S F vs hS hF hSF hown hall
  obtain ⟨F1, F2, hF1, hF2, hsl, _⟩ := hown
  obtain ⟨hFb, hlc, hlm, arr, T, hh, hn, hc⟩ := hsl
  have hvs : vs = #[.slice (some ⟨b, 0, none⟩) xs.length cap] := by
    obtain ⟨h1, h2⟩ := hall
    obtain ⟨l⟩ := vs
    match l, h1, h2 with
    | [u], _, h2 => have e1 := h2 0 _ u rfl rfl; simp only [exactV] at e1; rw [e1]; rfl
  subst hvs
  have hbw : b < w.heap.size := hF b (hF1 b hFb).1
  have hH : Holds (Value.int .i64) w b 0 xs.toArray := fun j hj => by
    have hj' : j < xs.length := by simpa using hj
    obtain ⟨u, hu, hq'⟩ := hc j (intV .i64 xs[j]) (by rw [ints_flat, List.getElem?_map, List.getElem?_eq_getElem hj']; rfl)
    refine ⟨?_, by simp [World.frozen?, hh]⟩
    simp only [World.cell?, hh, Nat.zero_add]
    rw [hu]
    have : u = .int .i64 xs[j] := hq'
    rw [this]; simp [hj']
  refine (hcall w hH hbw hlc hlm).mono ?_
  rintro e w' ⟨rfl, n, os, rfl⟩
  have hne : ∀ k, k < w.heap.size → k ≠ b → (grow (putRow (Value.int .i64) (Sort.ahead w n) b 0 (ys ++ r).toArray) os).heap[k]? = w.heap[k]? := fun k hk hkb => by
    simp only [putRow, mapBlock, grow]
    rw [Array.getElem?_append_left (by simpa using hk), Array.getElem?_modify, if_neg (fun h => hkb h.symm)]; rfl
  refine ⟨_, S, F, (), rfl, ⟨rfl, rfl, rfl, ?_, fun k hk hm => hne k hk (fun e => hm (e ▸ (hF1 b hFb).1)), hSF, fun k hk => ?_, fun k hk => ?_, fun k hk => .inl hk, fun k hk => .inl hk, fun _ h => h⟩, trivial, ?_, hq _ _⟩
  · simp [putRow, mapBlock, grow]
  · have := hS k hk; simp [putRow, mapBlock, grow]; omega
  · have := hF k hk; simp [putRow, mapBlock, grow]; omega
  · rw [List.length_append] at hlen
    refine ⟨F1, F2, hF1, hF2, ⟨hFb, by omega, by omega, putCells (Value.int .i64) 0 (ys ++ r).toArray arr, T, ?_, by simp [putCells, hn], fun j q hj => ?_⟩, trivial⟩
    · simp only [putRow, mapBlock, grow]
      rw [Array.getElem?_append_left (by simpa using hbw), Array.getElem?_modify, if_pos rfl]
      show Option.map _ w.heap[b]? = _
      rw [hh]; rfl
    · rw [ints_flat, List.getElem?_map] at hj
      obtain ⟨a, ha, rfl⟩ := Option.map_eq_some_iff.1 hj
      have hjl := (List.getElem?_eq_some_iff.1 ha).1
      have hja : j < arr.size := by rw [hn]; omega
      refine ⟨.int .i64 a, ?_, rfl⟩
      rw [putCells, Array.getElem?_mapIdx, Array.getElem?_eq_getElem hja]
      have hjs : j < (ys ++ r).length := by rw [List.length_append]; omega
      simp only [Option.map_some, Nat.zero_le, true_and, Nat.zero_add, Nat.sub_zero, List.size_toArray, if_pos hjs]
      have e2 : (ys ++ r).toArray[j]! = a := by
        have : (ys ++ r)[j]? = some a := by rw [List.getElem?_append_left hjl]; exact ha
        simp [this]
      rw [e2]
theorem nilInts {P : Program} {f : FuncId} {xs : List Int} {q : VP} {zs : List Int} (hz : xs = [] → zs = []) (h : FnP P f [sliceV 1 encInt []] q) :
    FnE P f [exactV (sval none xs.length)] [sliceH none 1 encInt xs] (γ := Unit) (fun _ => True) (fun _ => [sliceH none 1 encInt zs]) (fun _ => q) := by
  intro w S F vs hS hF hSF hown hall
  obtain ⟨F1, F2, f1, f2, hx, _⟩ := hown
  have hx' : xs = [] := hx
  subst hx'
  refine (h w S F vs hS hF hSF trivial ⟨hall.1, fun j p v hj hv => ?_⟩).mono ?_
  · match j, hj with
    | 0, hj => simp at hj; subst hj; exact sliceV_nil _ _ _ _ _ (hall.2 0 _ v rfl hv)
  · rintro e w' ⟨v, S', F', u, he, hs, _, _, hq⟩
    exact ⟨v, S', F', (), he, hs, trivial, ⟨fun _ => False, F', fun _ h => h.elim, fun _ h => h, hz rfl, trivial⟩, hq⟩
def sortL (l : List Int) : List Int := l.mergeSort fun x y => decide (x ≤ y)
theorem sortL_len (l : List Int) : (sortL l).length = l.length := List.length_mergeSort _
theorem mem_sortL {l : List Int} {a : Int} : a ∈ sortL l ↔ a ∈ l := List.mem_mergeSort
theorem sortI_spec {g : SB} {xs : List Int} (hl : xs.length ≤ 60000) :
    FnE Tryz.prog 41 [exactV (sval g xs.length)] [sliceH g 1 encInt xs] (γ := Unit) (fun _ => True) (fun _ => [sliceH g 1 encInt (sortL xs)]) (fun _ => tupV []) := by
  cases g with
  | none => exact nilInts (fun e => by rw [e]; simp [sortL]) sortI0_spec
  | some p =>
    obtain ⟨b, cap⟩ := p
    refine ofPut (r := []) (v := .tuple #[]) (by rw [List.append_nil, sortL_len]; exact Nat.le_refl _) (fun S w => ⟨#[], rfl, rfl, fun j p v hj => by simp at hj⟩) fun w hH hb _ _ => ?_
    have := Any.slices_Sort_int Tryz.laySort b 0 cap xs w hH hb (by omega)
    rw [List.append_nil]
    exact this
theorem keep_mem {d : Array Int} : ∀ j, j < d.size → ∃ i, i < d.size ∧ Lib.keeps d i = true ∧ d[i]! = d[j]!
  | 0, h => ⟨0, h, by simp [Lib.keeps], rfl⟩
  | j + 1, h => by
    by_cases hk : Lib.keeps d (j + 1) = true
    · exact ⟨j + 1, h, hk, rfl⟩
    · obtain ⟨i, h1, h2, h3⟩ := keep_mem (d := d) j (by omega)
      refine ⟨i, h1, h2, h3.trans ?_⟩
      simp [Lib.keeps] at hk
      have hj1 : j < d.size := by omega
      simp only [getElem!_pos d j hj1, getElem!_pos d (j + 1) h] at hk ⊢
      exact hk.symm
theorem mem_compact {l : List Int} {a : Int} : a ∈ Lib.compact l ↔ a ∈ l := by
  unfold Lib.compact Lib.compactUpTo
  constructor
  · intro h
    obtain ⟨i, hi, rfl⟩ := List.mem_map.1 h
    have h2 := List.mem_range.1 (List.mem_filter.1 hi).1
    rw [getElem!_pos l.toArray i (by simpa using h2)]
    simp
  · intro h
    obtain ⟨j, hj, rfl⟩ := List.mem_iff_getElem.1 h
    obtain ⟨i, h1, h2, h3⟩ := keep_mem (d := l.toArray) j (by simpa using hj)
    refine List.mem_map.2 ⟨i, List.mem_filter.2 ⟨List.mem_range.2 (by simpa using h1), h2⟩, ?_⟩
    rw [h3, getElem!_pos l.toArray j (by simpa using hj)]; simp
theorem compact_len (l : List Int) : (Lib.compact l).length ≤ l.length := by
  unfold Lib.compact Lib.compactUpTo
  rw [List.length_map]
  exact Nat.le_trans (List.length_filter_le _ _) (by simp)
theorem compI_spec {g : SB} {xs : List Int} (hl : xs.length ≤ 60000) :
    FnE Tryz.prog 42 [exactV (sval g xs.length)] [sliceH g 1 encInt xs] (γ := Unit) (fun _ => True) (fun _ => [sliceH g 1 encInt (Lib.compact xs)]) (fun _ => exactV (sval g (Lib.compact xs).length)) := by
  cases g with
  | none =>
    intro w S F vs hS hF hSF hown hall
    obtain ⟨F1, F2, f1, f2, hx, _⟩ := hown
    have hx' : xs = [] := hx
    subst hx'
    have hvs : vs = #[.slice none 0 0] := by
      obtain ⟨h1, h2⟩ := hall
      obtain ⟨l⟩ := vs
      match l, h1, h2 with
      | [u], _, h2 => have e1 := h2 0 _ u rfl rfl; simp only [exactV] at e1; rw [e1]; rfl
    subst hvs
    refine (Any.slices_Compact_int_empty Tryz.layCompact none 0 w).mono ?_
    rintro e w' ⟨rfl, rfl⟩
    exact ⟨_, S, F, (), rfl, ⟨rfl, rfl, rfl, Nat.le_refl _, fun _ _ _ => rfl, hSF, hS, hF, fun k hk => .inl hk, fun k hk => .inl hk, fun _ h => h⟩, trivial, ⟨F1, F2, f1, f2, rfl, trivial⟩, rfl⟩
  | some p =>
    obtain ⟨b, cap⟩ := p
    refine ofPut (r := List.replicate (xs.length - (Lib.compact xs).length) 0) (v := .slice (some ⟨b, 0, none⟩) (Lib.compact xs).length cap) (by have := compact_len xs; rw [List.length_append, List.length_replicate]; omega) (fun S w => rfl) fun w hH hb hc _ => ?_
    refine (Any.slices_Compact_int Tryz.layCompact b 0 cap xs w hH (by omega) hc).mono ?_
    rintro e w' ⟨rfl, n, rfl⟩
    exact ⟨rfl, n, #[], by simp⟩
end YtmmdlhjcmlekfaaGreatDoor
end Go.Proofs
end
section
namespace Go.Proofs.YtmmdlhjcmlekfaaGreatDoor
open Go.Hl Go.RowKit
theorem vown_spec {m : ModD} {n : Int} (hp0 : ModOk m) (hp1 : m.Funcs.length ≤ 60000) : FnE Tryz.prog 40 [ptrV (encMod m), intV .i64 (n)] [] (γ := Unit) (fun _ => True) (fun _ => []) (fun _ => propV ((ValidD m ∧ 0 ≤ n) ∧ n < (m.Funcs.length : Int))) := by
 refine In 20 Tryz.func40 fun _ _ _ => ?_
 refine Z8 ?_
 refine .n (cE (h := vis_spec hp0 hp1)) rfl fun g6 h6 => ?_
 refine Z17 ?_
 refine Rt1 ?_
 exact VLe.refl _
theorem vneed_spec {m : ModD} {f : FuncD} {i : Nat} {hts : List Nat} (hp0 : ModOk m) (hp1 : m.Funcs.length ≤ 60000) (hp2 : ValidD m) (hp3 : m.Funcs[i]? = some f) (hp4 : heightsF m f = some hts) : FnE Tryz.prog 14 [ptrV (encMod m), intV .i64 ((i : Int))] [] (γ := Unit) (fun _ => True) (fun _ => []) (fun _ => intV .i64 (needI m f hts)) := by
 refine In 34 Tryz.func14 fun _ _ _ => ?_
 have hil := (List.getElem?_eq_some_iff.1 hp3).1
 have hfm := List.mem_of_getElem? hp3
 have hlens := hp2.1.lens
 have hcn : (m.Imports.length : Int) + (m.Funcs.length : Int) ≤ 100 := hlens.2.2.2.2
 have hl1 := heights_len hp4
 have hl2 := hp0.len f hfm
 have hl3 := pkL_le hp2 hfm hp4
 have hs1 := hp2.1.few _ (sigAt_mem (func_sig hp2.1 hfm)).2
 have hl4 := hp0.loc f hfm
 have hl5 : (envD m f).Locals.length = (sigAt m f.Sig).P.length + f.Body.Locals.length := List.length_append
 refine Z10 ?_
 refine .p (cA (h := vown_spec hp0 hp1)) rfl ?_
 refine Z3 ?_
 refine Cd (fun c0 => ?_) fun c0 => ?_
 · exact absurd ⟨⟨hp2, by omega⟩, by omega⟩ c0
 refine Z12 ?_
 refine .p ((cA (h := msig_spec (m := m) (f := (m.Imports.length : Int) + (i : Int)))).le (VLe.of_eq (show tupV [aggV (encSig ((sigO m ((m.Imports.length : Int) + (i : Int))).getD ⟨[], []⟩)), propV (sigO m ((m.Imports.length : Int) + (i : Int))).isSome] = tupV [aggV (encSig (sigAt m f.Sig)), propV ((some (sigAt m f.Sig)).isSome = true)] by rw [func_sigO hp2.1 hp3]; rfl))) rfl ?_
 refine Z3 ?_
 refine .n (opAlloc Tryz.zb68) rfl fun b5 _ => ?_
 refine Z4 ?_
 refine .share (t := 5) (i := 0) rfl rfl ?_
 refine Z1 ?_
 refine .drawK 10 2 FM.out (by kernel_rfl) (k := ?_)
 refine Z2 ?_
 refine .p (cA (h := klocalsN_spec hp2.1 hp0 hp3)) ?_
 refine Z2 ?_
 refine .p (cA (h := kpeak_spec hp2.1 hp0 hp3 hp4 (hp2.2 f hfm).1)) ?_
 refine Z10 ?_
 refine Rt1 ?_
 exact VLe.refl _
theorem vneedO_spec {m : ModD} {n : Int} (hp0 : ModOk m) (hp1 : m.Funcs.length ≤ 60000) (hp2 : ¬ ((ValidD m ∧ 0 ≤ n) ∧ n < (m.Funcs.length : Int))) : FnE Tryz.prog 14 [ptrV (encMod m), intV .i64 (n)] [] (γ := Unit) (fun _ => True) (fun _ => []) (fun _ => intV .i64 (0)) := by
 refine In 34 Tryz.func14 fun _ _ _ => ?_
 refine Z10 ?_
 refine .p (cA (h := vown_spec hp0 hp1)) rfl ?_
 refine Z3 ?_
 refine Cd (fun c0 => ?_) fun c0 => ?_
 ·
  refine Z7 ?_
  refine Rt1 ?_
  exact VLe.refl _
 exact absurd hp2 c0
theorem vcalls_spec {m : ModD} {f : FuncD} {i : Nat} (hp0 : ModOk m) (hp1 : m.Funcs.length ≤ 60000) (hp2 : ValidD m) (hp3 : m.Funcs[i]? = some f) : FnE Tryz.prog 13 [ptrV (encMod m), intV .i64 ((i : Int))] [] (γ := List Int) (fun r => ∀ a, a ∈ r ↔ a ∈ callsI f.Body.L) (fun _ => []) (fun r => sliceV 1 encInt r) := by
 refine In 40 Tryz.func13 fun _ _ _ => ?_
 have hil := (List.getElem?_eq_some_iff.1 hp3).1
 have hfm := List.mem_of_getElem? hp3
 have hlens := hp2.1.lens
 have hcn : (m.Imports.length : Int) + (m.Funcs.length : Int) ≤ 100 := hlens.2.2.2.2
 have hl2 := hp0.len f hfm
 refine Z10 ?_
 refine .p (cA (h := vown_spec hp0 hp1)) rfl ?_
 refine Z3 ?_
 refine Cd (fun c0 => ?_) fun c0 => ?_
 · exact absurd ⟨⟨hp2, by omega⟩, by omega⟩ c0
 refine Z9 ?_
 refine .ownNil 1 encInt ?_
 refine Z6 ?_
 refine .p (cI i (h := hp3)) rfl ?_
 refine Z8 ?_
 refine .loopO (σ := Nat × SB) (fun g => [sliceH g.2 1 encInt (callsI (f.Body.L.take g.1))]) (fun g => [(5, exactV (sval g.2 (callsI (f.Body.L.take g.1)).length)), (22, intV .i64 (g.1 : Int))]) (fun g => g.1 ≤ f.Body.L.length) (fun g => f.Body.L.length - g.1) (0, none) (Nat.zero_le _) rfl ?_ ?_
 · exact (.get rfl (VLe.of_eq rfl) (.get rfl (VLe.refl _) (.refl _ _)))
 rintro ⟨j, gl⟩ hj
 simp only at hj ⊢
 refine Z6 ?_
 refine Cd (fun c1 => ?_) fun c1 => ?_
 ·
  obtain ⟨x, hx⟩ := getElem?_lt (xs := f.Body.L) (k := j) (by omega)
  refine Z6 ?_
  refine .p (cI j (h := hx)) rfl ?_
  refine Z1 ?_
  refine .n (opAlloc Tryz.zb61) rfl fun b7 _ => ?_
  refine Z3 ?_
  refine .share (t := 7) (i := 0) rfl rfl ?_
  refine Z7 ?_
  refine Cd (fun c2 => ?_) fun c2 => ?_
  ·
   have hcl := callsI_len (f.Body.L.take j)
   rw [List.length_take] at hcl
   refine Z4 ?_
   refine .p (opConv Tryz.underlying58 Tryz.underlying3 (.t rfl)) rfl ?_
   refine .p (cB encInt [IntKind.i64.wrap x.A]) rfl ?_
   refine .n (opAppend (i := 0) Tryz.underlying53 Tryz.underlying53 Tryz.cz3 rfl Tryz.zb3 rfl Tryz.by3 (.t rfl) (.t rfl) rfl (by simp only [List.length_cons, List.length_nil]; omega) (by simp only [List.length_cons, List.length_nil]; omega)) rfl fun g34 _ => ?_
   refine Z8 ?_
   refine .round (j + 1, g34) (by show j + 1 ≤ _; omega) (by show f.Body.L.length - (j + 1) < f.Body.L.length - j; omega) (by rw [callsI_yes hx c2]; rfl) ?_
   exact (.get rfl (VLe.of_eq (by rw [callsI_yes hx c2])) (.get rfl (VLe.int (by show (_ : Int) = ((j + 1 : Nat) : Int); omega)) ((.keep 19 rfl rfl))))
  refine Z7 ?_
  refine .round (j + 1, gl) (by show j + 1 ≤ _; omega) (by show f.Body.L.length - (j + 1) < f.Body.L.length - j; omega) (by rw [callsI_no hx c2]; rfl) ?_
  exact (.get rfl (VLe.of_eq (by rw [callsI_no hx c2])) (.get rfl (VLe.int (by show (_ : Int) = ((j + 1 : Nat) : Int); omega)) ((.keep 12 rfl rfl))))
 have hall : f.Body.L.take j = f.Body.L := List.take_of_length_le (by omega)
 rw [hall]
 have hcl := callsI_len f.Body.L
 refine Z8 ?_
 refine .n (cE (h := sortI_spec (g := gl) (xs := callsI f.Body.L) (by omega))) rfl fun g37 h37 => ?_
 refine Z5 ?_
 refine .n (OpE.shareS (G := fun _ => gl) (hs1 := fun _ => []) (xs := fun _ => Lib.compact (sortL (callsI f.Body.L))) (opCallE (rest := []) (compI_spec (g := gl) (xs := sortL (callsI f.Body.L)) (by rw [sortL_len]; omega)) Tryz.cb42 (.cons (.le (.t rfl) (VLe.of_eq (by rw [sortL_len]))) .nil) (Perm.idx [0] rfl rfl))) rfl fun _ _ => ?_
 refine Z4 ?_
 refine Post.retR1 rfl ((Lib.compact (sortL (callsI f.Body.L)))) (by exact fun a => by rw [mem_compact, mem_sortL]) (fun _ _ _ h => h) (.rt rfl) ?_
 exact VLe.refl _
theorem vcallsO_spec {m : ModD} {n : Int} (hp0 : ModOk m) (hp1 : m.Funcs.length ≤ 60000) (hp2 : ¬ ((ValidD m ∧ 0 ≤ n) ∧ n < (m.Funcs.length : Int))) : FnE Tryz.prog 13 [ptrV (encMod m), intV .i64 (n)] [] (γ := Unit) (fun _ => True) (fun _ => []) (fun _ => sliceV 1 encInt []) := by
 refine In 40 Tryz.func13 fun _ _ _ => ?_
 refine Z10 ?_
 refine .p (cA (h := vown_spec hp0 hp1)) rfl ?_
 refine Z3 ?_
 refine Cd (fun c0 => ?_) fun c0 => ?_
 ·
  refine Z7 ?_
  refine Rt1 ?_
  exact sliceV_nil 1 encInt
 exact absurd hp2 c0
end Go.Proofs.YtmmdlhjcmlekfaaGreatDoor
end
section
namespace Go.Proofs.YtmmdlhjcmlekfaaGreatDoor
open Go.Hl Go.RowKit
open Classical in
theorem vcallsM_spec {m : ModD} {n : Int} (h1 : ModOk m) (h2 : m.Funcs.length ≤ 60000) : FnE Tryz.prog 13 [ptrV (encMod m), intV .i64 n] [] (γ := List Int) (fun r => ∀ a, a ∈ r ↔ a ∈ callsM m n) (fun _ => []) (fun r => sliceV 1 encInt r) := by
  by_cases h : (ValidD m ∧ 0 ≤ n) ∧ n < (m.Funcs.length : Int)
  · obtain ⟨i, rfl⟩ := nat_of h.1.2
    obtain ⟨f, hf⟩ := getElem?_lt (xs := m.Funcs) (k := i) (by omega)
    rw [callsM_in h.1.1 hf]
    exact vcalls_spec h1 h2 h.1.1 hf
  · rw [callsM_out h]
    intro w S F vs k1 k2 k3 k4 k5
    refine (vcallsO_spec h1 h2 h w S F vs k1 k2 k3 k4 k5).mono ?_
    rintro e w' ⟨v, S', F', g, he, hs, _, ho, hq⟩
    exact ⟨v, S', F', [], he, hs, fun _ => Iff.rfl, ho, hq⟩
open Classical in
theorem vneedM_spec {m : ModD} {n : Int} (h1 : ModOk m) (h2 : m.Funcs.length ≤ 60000) : FnE Tryz.prog 14 [ptrV (encMod m), intV .i64 n] [] (γ := Unit) (fun _ => True) (fun _ => []) (fun _ => intV .i64 (needM m n)) := by
  by_cases h : (ValidD m ∧ 0 ≤ n) ∧ n < (m.Funcs.length : Int)
  · obtain ⟨i, rfl⟩ := nat_of h.1.2
    obtain ⟨f, hf⟩ := getElem?_lt (xs := m.Funcs) (k := i) (by omega)
    obtain ⟨hs, hh⟩ := (h.1.1.2 f (List.mem_of_getElem? hf)).2
    rw [needM_in h.1.1 hf hh]
    exact vneed_spec h1 h2 h.1.1 hf hh
  · rw [needM_out h]
    exact vneedO_spec h1 h2 h
end Go.Proofs.YtmmdlhjcmlekfaaGreatDoor
end
section
namespace Go.Proofs.YtmmdlhjcmlekfaaGreatDoor
open Go.Hl Go.RowKit
theorem PlainNeeds0_spec {x : ModD} {n : Int} (hp0 : ∀ f ∈ x.Funcs, ∀ y ∈ f.Body.L, InsW y) : FnE Tryz.prog 4 [aggV (encMod x), intV .i64 (n)] [tabH 0 .u8 Lib.deBruijn64tab] (γ := Unit) (fun _ => True) (fun _ => []) (fun _ => propV True) := by
 refine In 74 Tryz.func4 fun _ _ _ => ?_
 refine .fact (t := 0) rfl (fun S w v h => modLens3 h) fun hlen => ?_
 have hall := hlen
 obtain ⟨⟨hl0, hl1, hl2, hl3, hl4, hl5, hl6, hl7⟩, ⟨hi0, hi1, hi2, hi3, hi4⟩, hi5⟩ := hlen
 have hgm := greatM_bnd (greatB_of hall)
 refine Z10 ?_
 refine .p (cA (h := great17_spec)) rfl ?_
 refine Z2 ?_
 refine .g (OpG.gF rfl rfl rfl rfl (fun hg => opCallDup (i := 0) (awake23_spec) Tryz.cb6 .nil rfl)) rfl rfl ?_
 refine Z4 ?_
 refine Cd (fun c0 => ?_) fun c0 => ?_
 ·
  refine Z2 ?_
  refine .p (cD 0 (h := awake23_spec)) rfl ?_
  refine Z5 ?_
  refine Rt1 ?_
  first | exact VLe.refl _ | exact VLe.prop (by simp; exact hneed) | exact VLe.prop (by simp)
 obtain ⟨hsm, hmo, hfl⟩ := small17 hall hp0 (by omega)
 refine Z6 ?_
 refine .n (cE (h := dvalid_spec hmo hfl)) rfl fun g22 h22 => ?_
 refine Z3 ?_
 refine Cd (fun c1 => ?_) fun c1 => ?_
 ·
  refine Z7 ?_
  refine Rt1 ?_
  first | exact VLe.refl _ | exact VLe.prop (by simp; exact hneed) | exact VLe.prop (by simp)
 have hv : ValidD x := h22.2.1 (by omega)
 refine Z5 ?_
 refine .p (cA (h := l13to_spec hsm)) rfl ?_
 refine Z6 ?_
 refine .p (cD 0 (h := pmod_spec hmo hfl hv)) rfl ?_
 refine Z11 ?_
 refine .n (cE (h := vcallsM_spec (m := x) (n := n) hmo hfl)) rfl fun g33 h33 => ?_
 refine Z2 ?_
 refine .n (cE (h := vcallsM_spec (m := plM x) (n := n) (plM_ok hmo) (by rw [plM_len]; exact hfl))) rfl fun g36 h36 => ?_
 refine Z11 ?_
 refine .fact (t := 8) rfl (fun S w v h => sliceV_len h) fun hl33 => ?_
 refine .fact (t := 9) rfl (fun S w v h => sliceV_len h) fun hl36 => ?_
 refine .loopO (σ := Nat) (fun _ => [tabH 0 .u8 Lib.deBruijn64tab]) (fun j => [(10, intV .i64 (j : Int))]) (fun j => j ≤ g36.length) (fun j => g36.length - j) 0 (Nat.zero_le _) rfl ?_ ?_
 · exact (.get rfl (VLe.refl _) (.refl _ _))
 rintro j hj
 refine Z9 ?_
 refine Cd (fun c2 => ?_) fun c2 => ?_
 ·
  obtain ⟨b, hb⟩ := getElem?_lt (xs := g36) (k := j) (by omega)
  have hbm : b ∈ g33 := (h33 b).2 (callsM_pl hmo hv b ((h36 b).1 (List.mem_of_getElem? hb)))
  refine Z16 ?_
  refine .loopO (σ := Nat) (fun _ => [tabH 0 .u8 Lib.deBruijn64tab]) (fun k => [(11, propV (∃ a ∈ g33.take k, a = b)), (12, intV .i64 (k : Int))]) (fun k => k ≤ g33.length) (fun k => g33.length - k) 0 (Nat.zero_le _) rfl ?_ ?_
  · exact (.get rfl (VLe.prop (by simp)) (.get rfl (VLe.refl _) (.refl _ _)))
  rintro k hk
  refine Z9 ?_
  refine Cd (fun c3 => ?_) fun c3 => ?_
  ·
   obtain ⟨a, ha⟩ := getElem?_lt (xs := g33) (k := k) (by omega)
   refine Z4 ?_
   refine .drawK 10 3 FM.out (by kernel_rfl) (k := ?_)
   refine Z4 ?_
   refine .cons (OpG.gF rfl rfl rfl rfl (fun hg => opIndexAddr (j := k) Tryz.underlying53 Tryz.cz3 rfl (.when (.t rfl) hg) (.when (.t rfl) hg) rfl ha)) ?_
   refine Z3 ?_
   refine .cons (OpG.gF rfl rfl rfl rfl (fun hg => opIndexAddr (j := j) Tryz.underlying53 Tryz.cz3 rfl (.when (.t rfl) hg) (.when (.t rfl) hg) rfl hb)) ?_
   refine Z13 ?_
   refine .round (k + 1) (by omega) (by omega) rfl ?_
   exact (.get rfl (VLe.prop (by rw [← take_snoc ha]; exact found_snoc)) (.get rfl (VLe.int (by omega)) ((.keep 22 rfl rfl))))
  have hka : g33.take k = g33 := List.take_of_length_le (by omega)
  rw [hka]
  refine Z11 ?_
  refine Cd (fun c4 => ?_) fun c4 => ?_
  · exact absurd ⟨b, hbm, rfl⟩ c4
  refine Z8 ?_
  refine .round (j + 1) (by omega) (by omega) rfl ?_
  exact (.get rfl (VLe.int (by omega)) ((.keep 18 rfl rfl)))
 have hneed := needM_pl (n := n) hmo hv
 refine Z12 ?_
 refine .g (OpG.gT rfl rfl rfl rfl (fun hg => opCall (vneedM_spec (m := plM x) (n := n) (plM_ok hmo) (by rw [plM_len]; exact hfl)) Tryz.cb14 (.cons (.when (.t rfl) hg) (.cons (.when (.t rfl) hg) .nil)))) rfl rfl ?_
 refine Z2 ?_
 refine .g (OpG.gT rfl rfl rfl rfl (fun hg => opCall (vneedM_spec (m := x) (n := n) hmo hfl) Tryz.cb14 (.cons (.when (.t rfl) hg) (.cons (.when (.t rfl) hg) .nil)))) rfl rfl ?_
 refine Z6 ?_
 refine Rt1 ?_
 first | exact VLe.refl _ | exact VLe.prop (by simp; exact hneed) | exact VLe.prop (by simp)
end Go.Proofs.YtmmdlhjcmlekfaaGreatDoor
end
section
namespace Go.Hl
open Go.RowKit
theorem VP.ext' {a b : VP} (h : ∀ S w v, a.p S w v ↔ b.p S w v) : a = b := by
  cases a; cases b
  congr
  funext S w v
  exact propext (h S w v)
theorem sliceV_map {α β : Type} {n : Nat} {enc : β → List VP} {f : α → β} {l : List α} : sliceV n (fun a => enc (f a)) l = sliceV n enc (l.map f) := by
  refine VP.ext' fun S w v => ⟨fun ⟨a, cap, h1, h2, h3, h4⟩ => ⟨a, cap, by rw [List.length_map]; exact h1, by rw [List.length_map]; exact h2, by rw [List.length_map]; exact h3, ?_⟩, fun ⟨a, cap, h1, h2, h3, h4⟩ => ⟨a, cap, by rw [List.length_map] at h1; exact h1, by rw [List.length_map] at h2; exact h2, by rw [List.length_map] at h3; exact h3, ?_⟩⟩
  · cases a with
    | none => exact h4
    | some ad =>
      intro h0
      obtain ⟨k1, k2, k3⟩ := h4 h0
      refine ⟨k1, k2, fun i x hx => ?_⟩
      rw [List.getElem?_map] at hx
      obtain ⟨y, hy, rfl⟩ := Option.map_eq_some_iff.1 hx
      exact k3 i y hy
  · cases a with
    | none => exact h4
    | some ad =>
      intro h0
      obtain ⟨k1, k2, k3⟩ := h4 h0
      exact ⟨k1, k2, fun i x hx => k3 i (f x) (by rw [List.getElem?_map, hx]; rfl)⟩
abbrev encU64W (n : IntOf .u64) : List VP := encU64 n.1
abbrev IWm := { x : InstrD // InsW x }
theorem u64_in (a : IntOf .u64) : 0 ≤ a.1 ∧ a.1 < 18446744073709551616 := by
  have h := a.2
  have e1 : IntKind.u64.min = 0 := by decide
  have e2 : IntKind.u64.max = 18446744073709551615 := by decide
  simp [Lit.wf] at h
  omega
def mkIWm (c : Int) (a b : IntOf .u64) (al : Int) (l : List (IntOf .u64)) : IWm := ⟨⟨c, a.1, b.1, al, l.map (·.1)⟩, u64_in a, u64_in b, fun n hn => by
  obtain ⟨y, _, rfl⟩ := List.mem_map.1 hn; exact (u64_in y).1⟩
abbrev encIWm (x : IWm) : List VP := encInstr x.1
instance : Enc 5 encIWm := ⟨fun x => (inferInstance : Enc 5 encInstr).len x.1, fun x q h => (inferInstance : Enc 5 encInstr).flat x.1 q h⟩
abbrev BodyW := { b : BodyD // ∀ y ∈ b.L, InsW y }
def mkBodyW (t : List UInt8) (l : List IWm) : BodyW := ⟨⟨t, l.map (·.1)⟩, fun y hy => by
  obtain ⟨z, _, rfl⟩ := List.mem_map.1 hy; exact z.2⟩
abbrev encBodyW (b : BodyW) : List VP := encBody b.1
instance : Enc 2 encBodyW := ⟨fun x => (inferInstance : Enc 2 encBody).len x.1, fun x q h => (inferInstance : Enc 2 encBody).flat x.1 q h⟩
abbrev FuncW := { f : FuncD // ∀ y ∈ f.Body.L, InsW y }
def mkFuncW (s : Int) (b : BodyW) : FuncW := ⟨⟨s, b.1⟩, b.2⟩
abbrev encFuncW (f : FuncW) : List VP := encFunc f.1
instance : Enc 3 encFuncW := ⟨fun x => (inferInstance : Enc 3 encFunc).len x.1, fun x q h => (inferInstance : Enc 3 encFunc).flat x.1 q h⟩
abbrev ModW := { m : ModD // ∀ f ∈ m.Funcs, ∀ y ∈ f.Body.L, InsW y }
def mkModW (a : List SigD) (b : List ImportD) (c : List FuncW) (d : Int) (e : List LimitsD) (f : List GlobalD) (g : List ExportD) (h : Int) (i : List ElemD) (j : List DataD) : ModW := ⟨⟨a, b, c.map (·.1), d, e, f, g, h, i, j⟩, fun f hf => by
  obtain ⟨z, _, rfl⟩ := List.mem_map.1 hf; exact z.2⟩
abbrev encModW (m : ModW) : List VP := encMod m.1
theorem mkIWm_enc (c : Int) (a b : IntOf .u64) (al : Int) (l : List (IntOf .u64)) : [intV .i64 c, intV .u64 a.1, intV .u64 b.1, intV .i64 al, sliceV 1 encU64W l] = encIWm (mkIWm c a b al l) := by
  rw [show sliceV 1 encU64W l = sliceV 1 encU64 (l.map (·.1)) from sliceV_map (enc := encU64) (f := Subtype.val)]; rfl
theorem mkBodyW_enc (t : List UInt8) (l : List IWm) : [sliceV 1 encU8 t, sliceV 5 encIWm l] = encBodyW (mkBodyW t l) := by
  rw [show sliceV 5 encIWm l = sliceV 5 encInstr (l.map (·.1)) from sliceV_map (enc := encInstr) (f := Subtype.val)]; rfl
theorem mkModW_enc (a : List SigD) (b : List ImportD) (c : List FuncW) (d : Int) (e : List LimitsD) (f : List GlobalD) (g : List ExportD) (h : Int) (i : List ElemD) (j : List DataD) :
    [sliceV 2 encSig a, sliceV 3 encImport b, sliceV 3 encFuncW c, intV .i64 d, sliceV 3 encLimits e, sliceV 3 encGlobal f, sliceV 3 encExport g, intV .i64 h, sliceV 2 encElem i, sliceV 3 encData j] = encModW (mkModW a b c d e f g h i j) := by
  rw [show sliceV 3 encFuncW c = sliceV 3 encFunc (c.map (·.1)) from sliceV_map (enc := encFunc) (f := Subtype.val)]; rfl
end Go.Hl
end
