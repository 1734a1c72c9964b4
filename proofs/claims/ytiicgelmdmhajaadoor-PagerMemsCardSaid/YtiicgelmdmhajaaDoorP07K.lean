/-
  slices.SortFunc at keys of pages: what is owned is sorted by its pages.
-/
import Derived.Test.YtiicgelmdmhajaaDoorP07D
import Derived.Test.YtiicgelmdmhajaaDoorTab
import Derived.Test.YtiicgelmdmhajaaDoorHlR
import Derived.Shelf.SlSortCmp.WholeK
import Derived.Ground.SlsfProg
import Derived.Ground.NamesProg
namespace Go.Proofs
open Go.Shelf Go.RowKit Go.Lib Go.Sort
set_option linter.unusedVariables false
def Tryd.sortKey_ren : Go.Shelf.Ren := ⟨fun | 6 => 76 | 15 => 96 | 14 => 95 | 28 => 110 | 29 => 111 | 20 => 102 | 21 => 103 | 22 => 104 | 23 => 105 | 24 => 106 | 25 => 107 | 26 => 108 | 27 => 109 | 46 => 115 | 47 => 116 | 48 => 117 | 49 => 118 | 50 => 119 | 57 => 120 | n => n, fun | 22 => 122 | 24 => 100 | 25 => 146 | 3 => 3 | 39 => 142 | 0 => 0 | 53 => 161 | 55 => 46 | 4 => 4 | 46 => 175 | 45 => 174 | 50 => 47 | 5 => 5 | 9 => 9 | 66 => 185 | 70 => 189 | 76 => 195 | 77 => 196 | n => n, fun | n => n⟩
theorem Tryd.sortKey : Go.Proofs.SlLaysF0.n6 Tryd.prog Tryd.sortKey_ren := {
  mixed := by kernel_rfl
  f6 := ⟨Tryd.f76.name, by decide, Tryd.func76.trans (congrArg some (by kernel_rfl))⟩
  f14 := ⟨Tryd.f95.name, by decide, Tryd.func95.trans (congrArg some (by kernel_rfl))⟩
  f15 := Tryd.func96.trans (congrArg some (by kernel_rfl))
  f20 := ⟨Tryd.f102.name, by decide, Tryd.func102.trans (congrArg some (by kernel_rfl))⟩
  f21 := ⟨Tryd.f103.name, by decide, Tryd.func103.trans (congrArg some (by kernel_rfl))⟩
  f22 := ⟨Tryd.f104.name, by decide, Tryd.func104.trans (congrArg some (by kernel_rfl))⟩
  f23 := ⟨Tryd.f105.name, by decide, Tryd.func105.trans (congrArg some (by kernel_rfl))⟩
  f24 := ⟨Tryd.f106.name, by decide, Tryd.func106.trans (congrArg some (by kernel_rfl))⟩
  f25 := ⟨Tryd.f107.name, by decide, Tryd.func107.trans (congrArg some (by kernel_rfl))⟩
  f26 := ⟨Tryd.f108.name, by decide, Tryd.func108.trans (congrArg some (by kernel_rfl))⟩
  f27 := ⟨Tryd.f109.name, by decide, Tryd.func109.trans (congrArg some (by kernel_rfl))⟩
  f28 := Tryd.func110.trans (congrArg some (by kernel_rfl))
  f29 := Tryd.func111.trans (congrArg some (by kernel_rfl))
  f46 := ⟨Tryd.f115.name, by decide, Tryd.func115.trans (congrArg some (by kernel_rfl))⟩
  f47 := Tryd.func116.trans (congrArg some (by kernel_rfl))
  f48 := Tryd.func117.trans (congrArg some (by kernel_rfl))
  f49 := ⟨Tryd.f118.name, by decide, Tryd.func118.trans (congrArg some (by kernel_rfl))⟩
  f50 := ⟨Tryd.f119.name, by decide, Tryd.func119.trans (congrArg some (by kernel_rfl))⟩
  f57 := ⟨Tryd.f120.name, by decide, Tryd.func120.trans (congrArg some (by kernel_rfl))⟩
  t0 := Tryd.underlying0
  a0 := Tryd.isAgg0
  z0 := Tryd.sizeOf0
  v0 := Tryd.zeroValue0
  t3 := Tryd.underlying3
  a3 := Tryd.isAgg3
  z3 := Tryd.sizeOf3
  v3 := Tryd.zeroValue3
  t4 := Tryd.underlying4
  a4 := Tryd.isAgg4
  z4 := Tryd.sizeOf4
  v4 := Tryd.zeroValue4
  t5 := Tryd.underlying5
  a5 := Tryd.isAgg5
  z5 := Tryd.sizeOf5
  v5 := Tryd.zeroValue5
  t9 := Tryd.underlying9
  a9 := Tryd.isAgg9
  z9 := Tryd.sizeOf9
  v9 := Tryd.zeroValue9
  t22 := Tryd.underlying122
  a22 := Tryd.isAgg122
  z22 := Tryd.sizeOf122
  v22 := Tryd.zeroValue122
  t25 := Tryd.underlying146
  a25 := Tryd.isAgg146
  z25 := Tryd.sizeOf146
  v25 := Tryd.zeroValue146
  t39 := Tryd.underlying142
  a39 := Tryd.isAgg142
  z39 := Tryd.sizeOf142
  v39 := Tryd.zeroValue142
  t45 := Tryd.underlying174
  a45 := Tryd.isAgg174
  z45 := Tryd.sizeOf174
  v45 := Tryd.zeroValue174
  t46 := Tryd.underlying175
  a46 := Tryd.isAgg175
  z46 := Tryd.sizeOf175
  v46 := Tryd.zeroValue175
  t50 := Tryd.underlying47
  a50 := Tryd.isAgg47
  z50 := Tryd.sizeOf47
  v50 := Tryd.zeroValue47
  t53 := Tryd.underlying161
  a53 := Tryd.isAgg161
  z53 := Tryd.sizeOf161
  v53 := Tryd.zeroValue161
  t55 := Tryd.underlying46
  a55 := Tryd.isAgg46
  z55 := Tryd.sizeOf46
  v55 := Tryd.zeroValue46
  t66 := Tryd.underlying185
  a66 := Tryd.isAgg185
  z66 := Tryd.sizeOf185
  v66 := Tryd.zeroValue185
  t70 := Tryd.underlying189
  a70 := Tryd.isAgg189
  z70 := Tryd.sizeOf189
  v70 := Tryd.zeroValue189
  t76 := Tryd.underlying195
  a76 := Tryd.isAgg195
  z76 := Tryd.sizeOf195
  v76 := Tryd.zeroValue195
  t77 := Tryd.underlying196
  a77 := Tryd.isAgg196
  z77 := Tryd.sizeOf196
  v77 := Tryd.zeroValue196 }

/-- a key, and its cells -/
def Cel : Type := { e : Hl.PairK × List Value // (0 ≤ e.1.2 ∧ e.1.2 ≤ 9223372036854775807) ∧ e.2.length = 2 ∧ e.2[1]? = some (.int .i64 e.1.2) ∧ ∀ v ∈ e.2, v.oneCell' = true }
instance : Inhabited Cel := ⟨⟨((0, 0), [.int .i64 0, .int .i64 0]), ⟨by simp, by simp⟩, rfl, rfl, by simp [Value.oneCell']⟩⟩
def Cel.enc (x : Cel) : List Value := x.1.2
def Cel.cf (x y : Cel) : Int := x.1.1.2 - y.1.1.2
theorem Cel.lt (x y : Cel) : ltOf Cel.cf x y = decide (x.1.1.2 < y.1.1.2) := by
  unfold ltOf Cel.cf
  rw [Bool.eq_iff_iff]; simp; omega
theorem Cel.swo : SWO (ltOf Cel.cf) where
  irrefl x := by rw [Cel.lt]; simp
  trans x y z h1 h2 := by rw [Cel.lt] at *; simp at *; omega
  ntrans x y z h1 h2 := by rw [Cel.lt] at *; simp at *; omega

set_option maxHeartbeats 1000000 in
theorem Tryd.cmpKey (x1 x2 y1 y2 : Value) (a b : Int) (h1 : x2 = .int .i64 a) (h2 : y2 = .int .i64 b) (ha : 0 ≤ a ∧ a ≤ 9223372036854775807) (hb : 0 ≤ b ∧ b ≤ 9223372036854775807) (W : World) :
    Calls Tryd.prog 77 #[.agg #[x1, x2], .agg #[y1, y2]] W fun e w' => e = .returned (.int .i64 (a - b)) ∧ ∃ q os', w' = grow (W.drewN q) os' := by
  subst h1; subst h2
  obtain ⟨ha1, ha2⟩ := ha
  obtain ⟨hb1, hb2⟩ := hb
  go_enter Tryd.func77, Tryd.ntmps77
  go_wp2
  go_ret
  exact ⟨rfl, 0, _, by rw [alloc_eq_grow, alloc_eq_grow, grow_grow]; rfl⟩

theorem Cel.lays (blk off size : Nat) (w : World) : CmpLays Tryd.prog 77 #[] Cel.enc 2 Cel.cf blk off size w := fun m os dk hs x y => by
  obtain ⟨⟨ex, vx⟩, ⟨hx1, hx2⟩, hx3, hx4, hx5⟩ := x
  obtain ⟨⟨ey, vy⟩, ⟨hy1, hy2⟩, hy3, hy4, hy5⟩ := y
  simp only at hx1 hx2 hx3 hx4 hx5 hy1 hy2 hy3 hy4 hy5
  match vx, hx3, hx4, vy, hy3, hy4 with
  | [x1, x2], _, hx4, [y1, y2], _, hy4 =>
    exact Tryd.cmpKey x1 x2 y1 y2 ex.2 ey.2 (by simpa using hx4) (by simpa using hy4) ⟨hx1, hx2⟩ ⟨hy1, hy2⟩ _

namespace YtiicgelmdmhajaaDoor
open Go.Hl
theorem sortKeys1_spec {xs : List PairK} {b cap : Nat} (hr : ∀ x ∈ xs, 0 ≤ x.2 ∧ x.2 ≤ 9223372036854775807) :
    FnE Tryd.prog 76 [exactV (sval (some (b, cap)) xs.length), exactV (.func (.func 77) #[] #[])] [sliceH (some (b, cap)) 2 encK xs] (γ := List PairK) (fun ys => ys.Perm xs)
      (fun ys => [sliceH (some (b, cap)) 2 encK ys]) (fun _ => tupV []) := by
  intro w S F vs hS hF hSF hown hall
  obtain ⟨F1, F2, hF1, hF2, hsl, _⟩ := hown
  obtain ⟨hFb, hlc, hlm, arr, T, hh, hn, hc⟩ := hsl
  have hvs : vs = #[.slice (some ⟨b, 0, none⟩) xs.length cap, .func (.func 77) #[] #[]] := by
    obtain ⟨h1, h2⟩ := hall
    obtain ⟨l⟩ := vs
    match l, h1, h2 with
    | [u, v], _, h2 =>
      have e1 := h2 0 _ u rfl rfl; simp only [exactV] at e1
      have e2 := h2 1 _ v rfl rfl; simp only [exactV] at e2
      rw [e1, e2]; rfl
  subst hvs
  -- the elements
  have hlen5 : ∀ x : PairK, (encK x).length = 2 := fun _ => rfl
  obtain ⟨ds, hdl, hds⟩ := list_of_each (p := fun i (e : Cel) => xs[i]? = some e.1.1 ∧ All2 (encK e.1.1) S w e.1.2 ∧ ∀ j, j < 2 → arr[i * 2 + j]? = e.1.2[j]?) xs.length (fun i hi => by
    have hx : xs[i]? = some xs[i] := List.getElem?_eq_getElem hi
    have hcell : ∀ j q, (encK xs[i])[j]? = some q → ∃ u, arr[i * 2 + j]? = some u ∧ q.p S w u := fun j q hj => hc _ q (flat_get hlen5 xs i _ j q hx hj)
    obtain ⟨u0, h0, q0⟩ := hcell 0 _ rfl
    obtain ⟨u1, h1, q1⟩ := hcell 1 _ rfl
    refine ⟨⟨(xs[i], [u0, u1]), hr _ (List.getElem_mem hi), rfl, by simpa [exactV] using q1, fun v hv => ?_⟩, hx, ?_, fun j hj => ?_⟩
    · simp only [List.mem_cons, List.not_mem_nil, or_false] at hv
      rcases hv with rfl | rfl
      · exact (Flat.flat q0).2
      · exact (Flat.flat q1).2
    · exact (All2.one q0).cat (All2.one q1)
    · match j, hj with
      | 0, _ => exact h0
      | 1, _ => exact h1)
  have hdx : ∀ i (hi : i < ds.length), xs[i]? = some ds[i].1.1 ∧ All2 (encK ds[i].1.1) S w ds[i].1.2 ∧ ∀ j, j < 2 → arr[i * 2 + j]? = ds[i].1.2[j]? := fun i hi => hds i _ (List.getElem?_eq_getElem hi)
  have hxd : xs = ds.map (·.1.1) := List.ext_getElem? fun i => by
    by_cases hi : i < ds.length
    · rw [(hdx i hi).1, List.getElem?_map, List.getElem?_eq_getElem hi]; rfl
    · rw [List.getElem?_eq_none (by omega), List.getElem?_eq_none (by simp; omega)]
  have hEl : ∀ x : Cel, (Cel.enc x).length = 2 := fun x => x.2.2.1
  have hH : HoldsK Cel.enc 2 w b 0 ds.toArray := fun t ht => by
    have ht' : t < ds.length * 2 := by simpa using ht
    have hi : t / 2 < ds.length := by omega
    have h5 := (hdx _ hi).2.2 (t % 2) (by omega)
    rw [show t / 2 * 2 + t % 2 = t by omega] at h5
    rw [get_flatK _ _ _ t (by simpa using ht)]
    have e1 : ds.toArray[t / 2]! = ds[t / 2] := by simp [hi]
    rw [e1]
    have hlt : t % 2 < (Cel.enc ds[t / 2]).length := by rw [hEl]; omega
    refine ⟨?_, ?_⟩
    · simp only [World.cell?, hh, Nat.zero_add]
      rw [h5]
      show (Cel.enc ds[t / 2])[t % 2]? = some (id ((Cel.enc ds[t / 2])[t % 2]!))
      rw [getElem!_pos (Cel.enc ds[t / 2]) (t % 2) hlt]
      exact List.getElem?_eq_getElem hlt
    · simp [World.frozen?, hh]
  have hbw : b < w.heap.size := hF b (hF1 b hFb).1
  have hcall := AnyQ.slices_SortFunc Tryd.sortKey 2 Tryd.isAgg100 Tryd.sizeOf100 Cel.enc hEl (fun x v hv => x.2.2.2.2 v hv) Cel.cf Cel.swo 77 #[] b 0 cap ds.toArray w
    (enters_of Tryd.func77 (by kernel_rfl) rfl) (Cel.lays _ _ _ _) hH hbw (by simp; omega)
  change Calls Tryd.prog 76 _ _ _ at hcall
  have hsz : ds.toArray.size = xs.length := by simpa using hdl
  rw [hsz] at hcall
  refine hcall.mono ?_
  rintro e w' ⟨rfl, d', n, os, hp, hso, rfl⟩
  obtain ⟨hp1, _, hp3⟩ := hp
  have hd'l : d'.size = xs.length := by rw [hp1]; exact hsz
  have hperm : d'.toList.Perm ds := by
    have hx : ∀ a : Array Cel, a.size = xs.length → a.extract 0 xs.length = a := fun a ha => by rw [← ha]; simp
    have := hp3
    rw [hx _ hd'l, hx _ hsz] at this
    exact this
  have hmem : ∀ x ∈ d'.toList, All2 (encK x.1.1) S w x.1.2 := fun x hx => by
    obtain ⟨i, hi, rfl⟩ := List.mem_iff_getElem.1 (hperm.mem_iff.1 hx)
    exact (hdx i hi).2.1
  -- the world
  have hne : ∀ k, k < w.heap.size → k ≠ b → (sortWorldK Cel.enc 2 w b 0 n d' os).heap[k]? = w.heap[k]? := fun k hk hkb => by
    simp only [sortWorldK, putRowK, putRow, mapBlock, grow]
    rw [Array.getElem?_append_left (by simpa using hk), Array.getElem?_modify, if_neg (fun h => hkb h.symm)]; rfl
  have hagS : ∀ k, S k → (sortWorldK Cel.enc 2 w b 0 n d' os).heap[k]? = w.heap[k]? := fun k hk => hne k (hS k hk) (fun e => hSF k hk (e ▸ (hF1 b hFb).1))
  refine ⟨_, S, F, d'.toList.map (·.1.1), rfl, ⟨rfl, rfl, rfl, ?_, fun k hk hm => hne k hk (fun e => hm (e ▸ (hF1 b hFb).1)), hSF, fun k hk => ?_, fun k hk => ?_, fun k hk => .inl hk, fun k hk => .inl hk, fun _ h => h⟩, ?_, ?_, ⟨#[], rfl, rfl, fun j p v hj => by simp at hj⟩⟩
  · simp [sortWorldK, putRowK, putRow, mapBlock, grow]
  · have := hS k hk; simp [sortWorldK, putRowK, putRow, mapBlock, grow]; omega
  · have := hF k hk; simp [sortWorldK, putRowK, putRow, mapBlock, grow]; omega
  · rw [hxd]; exact hperm.map _
  · refine ⟨F1, F2, hF1, hF2, ⟨hFb, by simp; omega, by simp; omega, putCells id 0 (flatK Cel.enc 2 d') arr, T, ?_, by simp [putCells, hn], fun j q hj => ?_⟩, trivial⟩
    · simp only [sortWorldK, putRowK, putRow, mapBlock, grow]
      rw [Array.getElem?_append_left (by simpa using hbw), Array.getElem?_modify, if_pos rfl]
      show Option.map _ w.heap[b]? = _
      rw [hh]; rfl
    · obtain ⟨x, hx, hxj⟩ := flat_inv hlen5 (by omega) _ j q hj
      rw [List.getElem?_map] at hx
      cases hdj : d'.toList[j / 2]? with
      | none => rw [hdj] at hx; cases hx
      | some e =>
        rw [hdj] at hx; cases hx
        have hi := (List.getElem?_eq_some_iff.1 hdj).1
        have he := (List.getElem?_eq_some_iff.1 hdj).2
        simp only [Array.length_toList] at hi
        have hA := hmem e (List.mem_of_getElem? hdj)
        have hj5 : j % 2 < e.1.2.length := by rw [e.2.2.1]; omega
        have hq := hA.2 (j % 2) q _ hxj (List.getElem?_eq_getElem hj5)
        refine ⟨e.1.2[j % 2], ?_, q.mono (fun _ h => h) hagS hq⟩
        have hjs : j < d'.size * 2 := by omega
        have hja : j < arr.size := by rw [hn]; omega
        rw [putCells, Array.getElem?_mapIdx, Array.getElem?_eq_getElem hja]
        simp only [Option.map_some, Nat.zero_le, true_and, Nat.zero_add, Nat.sub_zero, size_flatK, if_pos hjs, id]
        rw [get_flatK _ _ _ j hjs, getElem!_pos d' (j / 2) hi]
        have hee : d'[j / 2] = e := by simpa using he
        rw [hee]
        show some ((Cel.enc e)[j % 2]!) = _
        rw [getElem!_pos (Cel.enc e) (j % 2) (show j % 2 < (Cel.enc e).length from hj5)]
        rfl
end YtiicgelmdmhajaaDoor
end Go.Proofs
