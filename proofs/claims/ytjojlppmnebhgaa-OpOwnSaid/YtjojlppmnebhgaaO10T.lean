/-
  slices.SortFunc at ops with own lists: what is owned is sorted by its codes.
-/
import Derived.Test.YtjojlppmnebhgaaO10S
import Derived.Test.YtjojlppmnebhgaaO10P
namespace Go.Proofs
open Go.Shelf Go.RowKit Go.Lib Go.Sort
set_option linter.unusedVariables false
/-- an op, and its cells -/
def CelO : Type := { e : Hl.InfoO × List Value // (0 ≤ e.1.Code ∧ e.1.Code ≤ 100000) ∧ e.2.length = 5 ∧ e.2[0]? = some (.int .i64 e.1.Code) ∧ ∀ v ∈ e.2, v.oneCell' = true }
instance : Inhabited CelO := ⟨⟨(⟨0, [], 0, none, none, 0, 0⟩, [.int .i64 0, .int .i64 0, .int .i64 0, .int .i64 0, .int .i64 0]), ⟨by simp, by simp⟩, rfl, rfl, by simp [Value.oneCell']⟩⟩
def CelO.enc (x : CelO) : List Value := x.1.2
def CelO.cf (x y : CelO) : Int := x.1.1.Code - y.1.1.Code
theorem CelO.lt (x y : CelO) : ltOf CelO.cf x y = decide (x.1.1.Code < y.1.1.Code) := by
  unfold ltOf CelO.cf
  rw [Bool.eq_iff_iff]; simp; omega
theorem CelO.swo : SWO (ltOf CelO.cf) where
  irrefl x := by rw [CelO.lt]; simp
  trans x y z h1 h2 := by rw [CelO.lt] at *; simp at *; omega
  ntrans x y z h1 h2 := by rw [CelO.lt] at *; simp at *; omega

theorem CelO.lays (blk off size : Nat) (w : World) : CmpLays Try.prog 28 #[] CelO.enc 5 CelO.cf blk off size w := fun m os dk hs x y => by
  obtain ⟨⟨ex, vx⟩, ⟨hx1, hx2⟩, hx3, hx4, hx5⟩ := x
  obtain ⟨⟨ey, vy⟩, ⟨hy1, hy2⟩, hy3, hy4, hy5⟩ := y
  simp only at hx1 hx2 hx3 hx4 hx5 hy1 hy2 hy3 hy4 hy5
  match vx, hx3, hx4, vy, hy3, hy4 with
  | [x1, x2, x3, x4, x5], _, hx4, [y1, y2, y3, y4, y5], _, hy4 =>
    exact Try.cmpInfo x1 x2 x3 x4 x5 y1 y2 y3 y4 y5 ex.Code ey.Code (by simpa using hx4) (by simpa using hy4) ⟨hx1, hx2⟩ ⟨hy1, hy2⟩ _

namespace Ytjojlppmnebhgaa
open Go.Hl
theorem sortInfoO_spec {xs : List InfoO} {b cap : Nat} (hr : ∀ x ∈ xs, 0 ≤ x.Code ∧ x.Code ≤ 100000) :
    FnE Try.prog 27 [exactV (sval (some (b, cap)) xs.length), exactV (.func (.func 28) #[] #[])] [sliceH (some (b, cap)) 5 encInfoO xs] (γ := List InfoO) (fun ys => ys.Perm xs ∧ ys.Pairwise (fun p q => p.Code ≤ q.Code))
      (fun ys => [sliceH (some (b, cap)) 5 encInfoO ys]) (fun _ => tupV []) := by
  intro w S F vs hS hF hSF hown hall
  obtain ⟨F1, F2, hF1, hF2, hsl, _⟩ := hown
  obtain ⟨hFb, hlc, hlm, arr, T, hh, hn, hc⟩ := hsl
  have hvs : vs = #[.slice (some ⟨b, 0, none⟩) xs.length cap, .func (.func 28) #[] #[]] := by
    obtain ⟨h1, h2⟩ := hall
    obtain ⟨l⟩ := vs
    match l, h1, h2 with
    | [u, v], _, h2 =>
      have e1 := h2 0 _ u rfl rfl; simp only [exactV] at e1
      have e2 := h2 1 _ v rfl rfl; simp only [exactV] at e2
      rw [e1, e2]; rfl
  subst hvs
  -- the elements
  have hlen5 : ∀ x : InfoO, (encInfoO x).length = 5 := fun _ => rfl
  obtain ⟨ds, hdl, hds⟩ := list_of_each (p := fun i (e : CelO) => xs[i]? = some e.1.1 ∧ All2 (encInfoO e.1.1) S w e.1.2 ∧ ∀ j, j < 5 → arr[i * 5 + j]? = e.1.2[j]?) xs.length (fun i hi => by
    have hx : xs[i]? = some xs[i] := List.getElem?_eq_getElem hi
    have hcell : ∀ j q, (encInfoO xs[i])[j]? = some q → ∃ u, arr[i * 5 + j]? = some u ∧ q.p S w u := fun j q hj => hc _ q (flat_get hlen5 xs i _ j q hx hj)
    obtain ⟨u0, h0, q0⟩ := hcell 0 _ rfl
    obtain ⟨u1, h1, q1⟩ := hcell 1 _ rfl
    obtain ⟨u2, h2, q2⟩ := hcell 2 _ rfl
    obtain ⟨u3, h3, q3⟩ := hcell 3 _ rfl
    obtain ⟨u4, h4, q4⟩ := hcell 4 _ rfl
    refine ⟨⟨(xs[i], [u0, u1, u2, u3, u4]), hr _ (List.getElem_mem hi), rfl, by simpa [exactV] using q0, fun v hv => ?_⟩, hx, ?_, fun j hj => ?_⟩
    · simp only [List.mem_cons, List.not_mem_nil, or_false] at hv
      rcases hv with rfl | rfl | rfl | rfl | rfl
      · exact (Flat.flat q0).2
      · exact (Flat.flat q1).2
      · exact (Flat.flat q2).2
      · exact (Flat.flat q3).2
      · exact (Flat.flat q4).2
    · exact (All2.one q0).cat ((All2.one q1).cat ((All2.one q2).cat ((All2.one q3).cat (All2.one q4))))
    · match j, hj with
      | 0, _ => exact h0
      | 1, _ => exact h1
      | 2, _ => exact h2
      | 3, _ => exact h3
      | 4, _ => exact h4)
  have hdx : ∀ i (hi : i < ds.length), xs[i]? = some ds[i].1.1 ∧ All2 (encInfoO ds[i].1.1) S w ds[i].1.2 ∧ ∀ j, j < 5 → arr[i * 5 + j]? = ds[i].1.2[j]? := fun i hi => hds i _ (List.getElem?_eq_getElem hi)
  have hxd : xs = ds.map (·.1.1) := List.ext_getElem? fun i => by
    by_cases hi : i < ds.length
    · rw [(hdx i hi).1, List.getElem?_map, List.getElem?_eq_getElem hi]; rfl
    · rw [List.getElem?_eq_none (by omega), List.getElem?_eq_none (by simp; omega)]
  have hEl : ∀ x : CelO, (CelO.enc x).length = 5 := fun x => x.2.2.1
  have hH : HoldsK CelO.enc 5 w b 0 ds.toArray := fun t ht => by
    have ht' : t < ds.length * 5 := by simpa using ht
    have hi : t / 5 < ds.length := by omega
    have h5 := (hdx _ hi).2.2 (t % 5) (by omega)
    rw [show t / 5 * 5 + t % 5 = t by omega] at h5
    rw [get_flatK _ _ _ t (by simpa using ht)]
    have e1 : ds.toArray[t / 5]! = ds[t / 5] := by simp [hi]
    rw [e1]
    have hlt : t % 5 < (CelO.enc ds[t / 5]).length := by rw [hEl]; omega
    refine ⟨?_, ?_⟩
    · simp only [World.cell?, hh, Nat.zero_add]
      rw [h5]
      show (CelO.enc ds[t / 5])[t % 5]? = some (id ((CelO.enc ds[t / 5])[t % 5]!))
      rw [getElem!_pos (CelO.enc ds[t / 5]) (t % 5) hlt]
      exact List.getElem?_eq_getElem hlt
    · simp [World.frozen?, hh]
  have hbw : b < w.heap.size := hF b (hF1 b hFb).1
  have hcall := AnyQ.slices_SortFunc Try.sortInfo 5 Try.isAgg31 Try.sizeOf31 CelO.enc hEl (fun x v hv => x.2.2.2.2 v hv) CelO.cf CelO.swo 28 #[] b 0 cap ds.toArray w
    (enters_of Try.func28 (by kernel_rfl) rfl) (CelO.lays _ _ _ _) hH hbw (by simp; omega)
  change Calls Try.prog 27 _ _ _ at hcall
  have hsz : ds.toArray.size = xs.length := by simpa using hdl
  rw [hsz] at hcall
  refine hcall.mono ?_
  rintro e w' ⟨rfl, d', n, os, hp, hso, rfl⟩
  obtain ⟨hp1, _, hp3⟩ := hp
  have hd'l : d'.size = xs.length := by rw [hp1]; exact hsz
  have hperm : d'.toList.Perm ds := by
    have hx : ∀ a : Array CelO, a.size = xs.length → a.extract 0 xs.length = a := fun a ha => by rw [← ha]; simp
    have := hp3
    rw [hx _ hd'l, hx _ hsz] at this
    exact this
  have hmem : ∀ x ∈ d'.toList, All2 (encInfoO x.1.1) S w x.1.2 := fun x hx => by
    obtain ⟨i, hi, rfl⟩ := List.mem_iff_getElem.1 (hperm.mem_iff.1 hx)
    exact (hdx i hi).2.1
  -- the world
  have hne : ∀ k, k < w.heap.size → k ≠ b → (sortWorldK CelO.enc 5 w b 0 n d' os).heap[k]? = w.heap[k]? := fun k hk hkb => by
    simp only [sortWorldK, putRowK, putRow, mapBlock, grow]
    rw [Array.getElem?_append_left (by simpa using hk), Array.getElem?_modify, if_neg (fun h => hkb h.symm)]; rfl
  have hagS : ∀ k, S k → (sortWorldK CelO.enc 5 w b 0 n d' os).heap[k]? = w.heap[k]? := fun k hk => hne k (hS k hk) (fun e => hSF k hk (e ▸ (hF1 b hFb).1))
  refine ⟨_, S, F, d'.toList.map (·.1.1), rfl, ⟨rfl, rfl, rfl, ?_, fun k hk hm => hne k hk (fun e => hm (e ▸ (hF1 b hFb).1)), hSF, fun k hk => ?_, fun k hk => ?_, fun k hk => .inl hk, fun k hk => .inl hk, fun _ h => h⟩, ⟨?_, ?_⟩, ?_, ⟨#[], rfl, rfl, fun j p v hj => by simp at hj⟩⟩
  · simp [sortWorldK, putRowK, putRow, mapBlock, grow]
  · have := hS k hk; simp [sortWorldK, putRowK, putRow, mapBlock, grow]; omega
  · have := hF k hk; simp [sortWorldK, putRowK, putRow, mapBlock, grow]; omega
  · rw [hxd]; exact hperm.map _
  · rw [List.pairwise_map, List.pairwise_iff_getElem]
    intro i j hi hj hij
    have := hso i j (by omega) hij (by rw [← hd'l]; simpa using hj)
    rw [CelO.lt] at this
    simp only [Array.length_toList] at hi hj
    rw [getElem!_pos d' i hi, getElem!_pos d' j hj] at this
    simp at this
    simpa using this
  · refine ⟨F1, F2, hF1, hF2, ⟨hFb, by simp; omega, by simp; omega, putCells id 0 (flatK CelO.enc 5 d') arr, T, ?_, by simp [putCells, hn], fun j q hj => ?_⟩, trivial⟩
    · simp only [sortWorldK, putRowK, putRow, mapBlock, grow]
      rw [Array.getElem?_append_left (by simpa using hbw), Array.getElem?_modify, if_pos rfl]
      show Option.map _ w.heap[b]? = _
      rw [hh]; rfl
    · obtain ⟨x, hx, hxj⟩ := flat_inv hlen5 (by omega) _ j q hj
      rw [List.getElem?_map] at hx
      cases hdj : d'.toList[j / 5]? with
      | none => rw [hdj] at hx; cases hx
      | some e =>
        rw [hdj] at hx; cases hx
        have hi := (List.getElem?_eq_some_iff.1 hdj).1
        have he := (List.getElem?_eq_some_iff.1 hdj).2
        simp only [Array.length_toList] at hi
        have hA := hmem e (List.mem_of_getElem? hdj)
        have hj5 : j % 5 < e.1.2.length := by rw [e.2.2.1]; omega
        have hq := hA.2 (j % 5) q _ hxj (List.getElem?_eq_getElem hj5)
        refine ⟨e.1.2[j % 5], ?_, q.mono (fun _ h => h) hagS hq⟩
        have hjs : j < d'.size * 5 := by omega
        have hja : j < arr.size := by rw [hn]; omega
        rw [putCells, Array.getElem?_mapIdx, Array.getElem?_eq_getElem hja]
        simp only [Option.map_some, Nat.zero_le, true_and, Nat.zero_add, Nat.sub_zero, size_flatK, if_pos hjs, id]
        rw [get_flatK _ _ _ j hjs, getElem!_pos d' (j / 5) hi]
        have hee : d'[j / 5] = e := by simpa using he
        rw [hee]
        show some ((CelO.enc e)[j % 5]!) = _
        rw [getElem!_pos (CelO.enc e) (j % 5) (show j % 5 < (CelO.enc e).length from hj5)]
        rfl
end Ytjojlppmnebhgaa
end Go.Proofs
