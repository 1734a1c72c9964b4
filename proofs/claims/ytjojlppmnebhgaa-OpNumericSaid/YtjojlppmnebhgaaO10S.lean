/-
  slices.SortFunc at the table of ops: what is owned is sorted by its codes.
-/
import Derived.Test.YtjojlppmnebhgaaO10B
import Derived.Test.YtjojlppmnebhgaaTab
import Derived.Test.YtjojlppmnebhgaaHlR
import Derived.Shelf.SlSortCmp.WholeK
import Derived.Ground.SlsfProg
import Derived.Ground.NamesProg
namespace Go.Proofs
open Go.Shelf Go.RowKit Go.Lib Go.Sort
set_option linter.unusedVariables false
def Try.sortInfo_ren : Go.Shelf.Ren := ⟨fun | 6 => 27 | 15 => 42 | 14 => 41 | 28 => 55 | 29 => 56 | 20 => 47 | 21 => 48 | 22 => 49 | 23 => 50 | 24 => 51 | 25 => 52 | 26 => 53 | 27 => 54 | 46 => 58 | 47 => 59 | 48 => 60 | 49 => 61 | 50 => 62 | 57 => 67 | n => n, fun | 22 => 35 | 24 => 31 | 25 => 62 | 3 => 3 | 39 => 83 | 0 => 0 | 53 => 92 | 55 => 42 | 4 => 4 | 46 => 86 | 45 => 85 | 50 => 45 | 5 => 5 | 9 => 9 | 66 => 95 | 70 => 99 | 76 => 102 | 77 => 103 | n => n, fun | n => n⟩
theorem Try.sortInfo : Go.Proofs.SlLaysF0.n6 Try.prog Try.sortInfo_ren := {
  mixed := by kernel_rfl
  f6 := ⟨Try.f27.name, by decide, Try.func27.trans (congrArg some (by kernel_rfl))⟩
  f14 := ⟨Try.f41.name, by decide, Try.func41.trans (congrArg some (by kernel_rfl))⟩
  f15 := Try.func42.trans (congrArg some (by kernel_rfl))
  f20 := ⟨Try.f47.name, by decide, Try.func47.trans (congrArg some (by kernel_rfl))⟩
  f21 := ⟨Try.f48.name, by decide, Try.func48.trans (congrArg some (by kernel_rfl))⟩
  f22 := ⟨Try.f49.name, by decide, Try.func49.trans (congrArg some (by kernel_rfl))⟩
  f23 := ⟨Try.f50.name, by decide, Try.func50.trans (congrArg some (by kernel_rfl))⟩
  f24 := ⟨Try.f51.name, by decide, Try.func51.trans (congrArg some (by kernel_rfl))⟩
  f25 := ⟨Try.f52.name, by decide, Try.func52.trans (congrArg some (by kernel_rfl))⟩
  f26 := ⟨Try.f53.name, by decide, Try.func53.trans (congrArg some (by kernel_rfl))⟩
  f27 := ⟨Try.f54.name, by decide, Try.func54.trans (congrArg some (by kernel_rfl))⟩
  f28 := Try.func55.trans (congrArg some (by kernel_rfl))
  f29 := Try.func56.trans (congrArg some (by kernel_rfl))
  f46 := ⟨Try.f58.name, by decide, Try.func58.trans (congrArg some (by kernel_rfl))⟩
  f47 := Try.func59.trans (congrArg some (by kernel_rfl))
  f48 := Try.func60.trans (congrArg some (by kernel_rfl))
  f49 := ⟨Try.f61.name, by decide, Try.func61.trans (congrArg some (by kernel_rfl))⟩
  f50 := ⟨Try.f62.name, by decide, Try.func62.trans (congrArg some (by kernel_rfl))⟩
  f57 := ⟨Try.f67.name, by decide, Try.func67.trans (congrArg some (by kernel_rfl))⟩
  t0 := Try.underlying0
  a0 := Try.isAgg0
  z0 := Try.sizeOf0
  v0 := Try.zeroValue0
  t3 := Try.underlying3
  a3 := Try.isAgg3
  z3 := Try.sizeOf3
  v3 := Try.zeroValue3
  t4 := Try.underlying4
  a4 := Try.isAgg4
  z4 := Try.sizeOf4
  v4 := Try.zeroValue4
  t5 := Try.underlying5
  a5 := Try.isAgg5
  z5 := Try.sizeOf5
  v5 := Try.zeroValue5
  t9 := Try.underlying9
  a9 := Try.isAgg9
  z9 := Try.sizeOf9
  v9 := Try.zeroValue9
  t22 := Try.underlying35
  a22 := Try.isAgg35
  z22 := Try.sizeOf35
  v22 := Try.zeroValue35
  t25 := Try.underlying62
  a25 := Try.isAgg62
  z25 := Try.sizeOf62
  v25 := Try.zeroValue62
  t39 := Try.underlying83
  a39 := Try.isAgg83
  z39 := Try.sizeOf83
  v39 := Try.zeroValue83
  t45 := Try.underlying85
  a45 := Try.isAgg85
  z45 := Try.sizeOf85
  v45 := Try.zeroValue85
  t46 := Try.underlying86
  a46 := Try.isAgg86
  z46 := Try.sizeOf86
  v46 := Try.zeroValue86
  t50 := Try.underlying45
  a50 := Try.isAgg45
  z50 := Try.sizeOf45
  v50 := Try.zeroValue45
  t53 := Try.underlying92
  a53 := Try.isAgg92
  z53 := Try.sizeOf92
  v53 := Try.zeroValue92
  t55 := Try.underlying42
  a55 := Try.isAgg42
  z55 := Try.sizeOf42
  v55 := Try.zeroValue42
  t66 := Try.underlying95
  a66 := Try.isAgg95
  z66 := Try.sizeOf95
  v66 := Try.zeroValue95
  t70 := Try.underlying99
  a70 := Try.isAgg99
  z70 := Try.sizeOf99
  v70 := Try.zeroValue99
  t76 := Try.underlying102
  a76 := Try.isAgg102
  z76 := Try.sizeOf102
  v76 := Try.zeroValue102
  t77 := Try.underlying103
  a77 := Try.isAgg103
  z77 := Try.sizeOf103
  v77 := Try.zeroValue103 }

/-- an op, and its cells -/
def Cel : Type := { e : Hl.InfoD × List Value // (0 ≤ e.1.Code ∧ e.1.Code ≤ 100000) ∧ e.2.length = 5 ∧ e.2[0]? = some (.int .i64 e.1.Code) ∧ ∀ v ∈ e.2, v.oneCell' = true }
instance : Inhabited Cel := ⟨⟨(⟨0, [], 0, [], []⟩, [.int .i64 0, .int .i64 0, .int .i64 0, .int .i64 0, .int .i64 0]), ⟨by simp, by simp⟩, rfl, rfl, by simp [Value.oneCell']⟩⟩
def Cel.enc (x : Cel) : List Value := x.1.2
def Cel.cf (x y : Cel) : Int := x.1.1.Code - y.1.1.Code
theorem Cel.lt (x y : Cel) : ltOf Cel.cf x y = decide (x.1.1.Code < y.1.1.Code) := by
  unfold ltOf Cel.cf
  rw [Bool.eq_iff_iff]; simp; omega
theorem Cel.swo : SWO (ltOf Cel.cf) where
  irrefl x := by rw [Cel.lt]; simp
  trans x y z h1 h2 := by rw [Cel.lt] at *; simp at *; omega
  ntrans x y z h1 h2 := by rw [Cel.lt] at *; simp at *; omega

set_option maxHeartbeats 1000000 in
theorem Try.cmpInfo (x1 x2 x3 x4 x5 y1 y2 y3 y4 y5 : Value) (a b : Int) (h1 : x1 = .int .i64 a) (h2 : y1 = .int .i64 b) (ha : 0 ≤ a ∧ a ≤ 100000) (hb : 0 ≤ b ∧ b ≤ 100000) (W : World) :
    Calls Try.prog 28 #[.agg #[x1, x2, x3, x4, x5], .agg #[y1, y2, y3, y4, y5]] W fun e w' => e = .returned (.int .i64 (a - b)) ∧ ∃ q os', w' = grow (W.drewN q) os' := by
  subst h1; subst h2
  obtain ⟨ha1, ha2⟩ := ha
  obtain ⟨hb1, hb2⟩ := hb
  go_enter Try.func28, Try.ntmps28
  go_wp2
  go_ret
  exact ⟨rfl, 0, _, by rw [alloc_eq_grow, alloc_eq_grow, grow_grow]; rfl⟩

theorem Cel.lays (blk off size : Nat) (w : World) : CmpLays Try.prog 28 #[] Cel.enc 5 Cel.cf blk off size w := fun m os dk hs x y => by
  obtain ⟨⟨ex, vx⟩, ⟨hx1, hx2⟩, hx3, hx4, hx5⟩ := x
  obtain ⟨⟨ey, vy⟩, ⟨hy1, hy2⟩, hy3, hy4, hy5⟩ := y
  simp only at hx1 hx2 hx3 hx4 hx5 hy1 hy2 hy3 hy4 hy5
  match vx, hx3, hx4, vy, hy3, hy4 with
  | [x1, x2, x3, x4, x5], _, hx4, [y1, y2, y3, y4, y5], _, hy4 =>
    exact Try.cmpInfo x1 x2 x3 x4 x5 y1 y2 y3 y4 y5 ex.Code ey.Code (by simpa using hx4) (by simpa using hy4) ⟨hx1, hx2⟩ ⟨hy1, hy2⟩ _

namespace Ytjojlppmnebhgaa
open Go.Hl
theorem sortInfo_spec {xs : List InfoD} {b cap : Nat} (hr : ∀ x ∈ xs, 0 ≤ x.Code ∧ x.Code ≤ 100000) :
    FnE Try.prog 27 [exactV (sval (some (b, cap)) xs.length), exactV (.func (.func 28) #[] #[])] [sliceH (some (b, cap)) 5 encInfo xs] (γ := List InfoD) (fun ys => ys.Perm xs ∧ ys.Pairwise (fun p q => p.Code ≤ q.Code))
      (fun ys => [sliceH (some (b, cap)) 5 encInfo ys]) (fun _ => tupV []) := by
  intro w S F vs hS hF hSF hown hall
  obtain ⟨F1, F2, hF1, hF2, hsl, _⟩ := hown
  obtain ⟨hFb, hlc, hlm, arr, T, hh, hn, hc⟩ := hsl
  have hvs : vs = #[.slice (some ⟨b, 0, none⟩) xs.length cap, .func (.func 28) #[] #[]] := by
    obtain ⟨h1, h2⟩ := hall
    obtain ⟨l⟩ := vs
    match l, h1, h2 with
    | [u, v], _, h2 =>
      have e1 := h2 0 _ u rfl rfl; simp only [exactV] at e1
      have e2 := h2 1 _ v rfl rfl; simp only [exactV] at e2
      rw [e1, e2]; rfl
  subst hvs
  -- the elements
  have hlen5 : ∀ x : InfoD, (encInfo x).length = 5 := fun _ => rfl
  obtain ⟨ds, hdl, hds⟩ := list_of_each (p := fun i (e : Cel) => xs[i]? = some e.1.1 ∧ All2 (encInfo e.1.1) S w e.1.2 ∧ ∀ j, j < 5 → arr[i * 5 + j]? = e.1.2[j]?) xs.length (fun i hi => by
    have hx : xs[i]? = some xs[i] := List.getElem?_eq_getElem hi
    have hcell : ∀ j q, (encInfo xs[i])[j]? = some q → ∃ u, arr[i * 5 + j]? = some u ∧ q.p S w u := fun j q hj => hc _ q (flat_get hlen5 xs i _ j q hx hj)
    obtain ⟨u0, h0, q0⟩ := hcell 0 _ rfl
    obtain ⟨u1, h1, q1⟩ := hcell 1 _ rfl
    obtain ⟨u2, h2, q2⟩ := hcell 2 _ rfl
    obtain ⟨u3, h3, q3⟩ := hcell 3 _ rfl
    obtain ⟨u4, h4, q4⟩ := hcell 4 _ rfl
    refine ⟨⟨(xs[i], [u0, u1, u2, u3, u4]), hr _ (List.getElem_mem hi), rfl, by simpa [exactV] using q0, fun v hv => ?_⟩, hx, ?_, fun j hj => ?_⟩
    · simp only [List.mem_cons, List.not_mem_nil, or_false] at hv
      rcases hv with rfl | rfl | rfl | rfl | rfl
      · exact (Flat.flat q0).2
      · exact (Flat.flat q1).2
      · exact (Flat.flat q2).2
      · exact (Flat.flat q3).2
      · exact (Flat.flat q4).2
    · exact (All2.one q0).cat ((All2.one q1).cat ((All2.one q2).cat ((All2.one q3).cat (All2.one q4))))
    · match j, hj with
      | 0, _ => exact h0
      | 1, _ => exact h1
      | 2, _ => exact h2
      | 3, _ => exact h3
      | 4, _ => exact h4)
  have hdx : ∀ i (hi : i < ds.length), xs[i]? = some ds[i].1.1 ∧ All2 (encInfo ds[i].1.1) S w ds[i].1.2 ∧ ∀ j, j < 5 → arr[i * 5 + j]? = ds[i].1.2[j]? := fun i hi => hds i _ (List.getElem?_eq_getElem hi)
  have hxd : xs = ds.map (·.1.1) := List.ext_getElem? fun i => by
    by_cases hi : i < ds.length
    · rw [(hdx i hi).1, List.getElem?_map, List.getElem?_eq_getElem hi]; rfl
    · rw [List.getElem?_eq_none (by omega), List.getElem?_eq_none (by simp; omega)]
  have hEl : ∀ x : Cel, (Cel.enc x).length = 5 := fun x => x.2.2.1
  have hH : HoldsK Cel.enc 5 w b 0 ds.toArray := fun t ht => by
    have ht' : t < ds.length * 5 := by simpa using ht
    have hi : t / 5 < ds.length := by omega
    have h5 := (hdx _ hi).2.2 (t % 5) (by omega)
    rw [show t / 5 * 5 + t % 5 = t by omega] at h5
    rw [get_flatK _ _ _ t (by simpa using ht)]
    have e1 : ds.toArray[t / 5]! = ds[t / 5] := by simp [hi]
    rw [e1]
    have hlt : t % 5 < (Cel.enc ds[t / 5]).length := by rw [hEl]; omega
    refine ⟨?_, ?_⟩
    · simp only [World.cell?, hh, Nat.zero_add]
      rw [h5]
      show (Cel.enc ds[t / 5])[t % 5]? = some (id ((Cel.enc ds[t / 5])[t % 5]!))
      rw [getElem!_pos (Cel.enc ds[t / 5]) (t % 5) hlt]
      exact List.getElem?_eq_getElem hlt
    · simp [World.frozen?, hh]
  have hbw : b < w.heap.size := hF b (hF1 b hFb).1
  have hcall := AnyQ.slices_SortFunc Try.sortInfo 5 Try.isAgg31 Try.sizeOf31 Cel.enc hEl (fun x v hv => x.2.2.2.2 v hv) Cel.cf Cel.swo 28 #[] b 0 cap ds.toArray w
    (enters_of Try.func28 (by kernel_rfl) rfl) (Cel.lays _ _ _ _) hH hbw (by simp; omega)
  change Calls Try.prog 27 _ _ _ at hcall
  have hsz : ds.toArray.size = xs.length := by simpa using hdl
  rw [hsz] at hcall
  refine hcall.mono ?_
  rintro e w' ⟨rfl, d', n, os, hp, hso, rfl⟩
  obtain ⟨hp1, _, hp3⟩ := hp
  have hd'l : d'.size = xs.length := by rw [hp1]; exact hsz
  have hperm : d'.toList.Perm ds := by
    have hx : ∀ a : Array Cel, a.size = xs.length → a.extract 0 xs.length = a := fun a ha => by rw [← ha]; simp
    have := hp3
    rw [hx _ hd'l, hx _ hsz] at this
    exact this
  have hmem : ∀ x ∈ d'.toList, All2 (encInfo x.1.1) S w x.1.2 := fun x hx => by
    obtain ⟨i, hi, rfl⟩ := List.mem_iff_getElem.1 (hperm.mem_iff.1 hx)
    exact (hdx i hi).2.1
  -- the world
  have hne : ∀ k, k < w.heap.size → k ≠ b → (sortWorldK Cel.enc 5 w b 0 n d' os).heap[k]? = w.heap[k]? := fun k hk hkb => by
    simp only [sortWorldK, putRowK, putRow, mapBlock, grow]
    rw [Array.getElem?_append_left (by simpa using hk), Array.getElem?_modify, if_neg (fun h => hkb h.symm)]; rfl
  have hagS : ∀ k, S k → (sortWorldK Cel.enc 5 w b 0 n d' os).heap[k]? = w.heap[k]? := fun k hk => hne k (hS k hk) (fun e => hSF k hk (e ▸ (hF1 b hFb).1))
  refine ⟨_, S, F, d'.toList.map (·.1.1), rfl, ⟨rfl, rfl, rfl, ?_, fun k hk hm => hne k hk (fun e => hm (e ▸ (hF1 b hFb).1)), hSF, fun k hk => ?_, fun k hk => ?_, fun k hk => .inl hk, fun k hk => .inl hk, fun _ h => h⟩, ⟨?_, ?_⟩, ?_, ⟨#[], rfl, rfl, fun j p v hj => by simp at hj⟩⟩
  · simp [sortWorldK, putRowK, putRow, mapBlock, grow]
  · have := hS k hk; simp [sortWorldK, putRowK, putRow, mapBlock, grow]; omega
  · have := hF k hk; simp [sortWorldK, putRowK, putRow, mapBlock, grow]; omega
  · rw [hxd]; exact hperm.map _
  · rw [List.pairwise_map, List.pairwise_iff_getElem]
    intro i j hi hj hij
    have := hso i j (by omega) hij (by rw [← hd'l]; simpa using hj)
    rw [Cel.lt] at this
    simp only [Array.length_toList] at hi hj
    rw [getElem!_pos d' i hi, getElem!_pos d' j hj] at this
    simp at this
    simpa using this
  · refine ⟨F1, F2, hF1, hF2, ⟨hFb, by simp; omega, by simp; omega, putCells id 0 (flatK Cel.enc 5 d') arr, T, ?_, by simp [putCells, hn], fun j q hj => ?_⟩, trivial⟩
    · simp only [sortWorldK, putRowK, putRow, mapBlock, grow]
      rw [Array.getElem?_append_left (by simpa using hbw), Array.getElem?_modify, if_pos rfl]
      show Option.map _ w.heap[b]? = _
      rw [hh]; rfl
    · obtain ⟨x, hx, hxj⟩ := flat_inv hlen5 (by omega) _ j q hj
      rw [List.getElem?_map] at hx
      cases hdj : d'.toList[j / 5]? with
      | none => rw [hdj] at hx; cases hx
      | some e =>
        rw [hdj] at hx; cases hx
        have hi := (List.getElem?_eq_some_iff.1 hdj).1
        have he := (List.getElem?_eq_some_iff.1 hdj).2
        simp only [Array.length_toList] at hi
        have hA := hmem e (List.mem_of_getElem? hdj)
        have hj5 : j % 5 < e.1.2.length := by rw [e.2.2.1]; omega
        have hq := hA.2 (j % 5) q _ hxj (List.getElem?_eq_getElem hj5)
        refine ⟨e.1.2[j % 5], ?_, q.mono (fun _ h => h) hagS hq⟩
        have hjs : j < d'.size * 5 := by omega
        have hja : j < arr.size := by rw [hn]; omega
        rw [putCells, Array.getElem?_mapIdx, Array.getElem?_eq_getElem hja]
        simp only [Option.map_some, Nat.zero_le, true_and, Nat.zero_add, Nat.sub_zero, size_flatK, if_pos hjs, id]
        rw [get_flatK _ _ _ j hjs, getElem!_pos d' (j / 5) hi]
        have hee : d'[j / 5] = e := by simpa using he
        rw [hee]
        show some ((Cel.enc e)[j % 5]!) = _
        rw [getElem!_pos (Cel.enc e) (j % 5) (show j % 5 < (Cel.enc e).length from hj5)]
        rfl
end Ytjojlppmnebhgaa
end Go.Proofs
