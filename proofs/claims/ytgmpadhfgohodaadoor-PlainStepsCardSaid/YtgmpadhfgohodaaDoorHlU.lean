/-
  A region that draws its order and begins with new variables in whatever order, pure operations beside them; then as by plan. No project text.
-/
import Derived.Test.YtgmpadhfgohodaaDoorHlH
namespace Go.Hl
open Go.RowKit
set_option linter.unusedVariables false

/-- a new variable: its place, slot, cells -/
abbrev Alc := Nat × Nat × List Value
def alcH (b : Nat → Nat) (a : Alc) : HP := cellsH (b a.1) (a.2.2.map exactV)
def alcD (b : Nat → Nat) (a : Alc) : Nat × Nat × VP := (a.1, a.2.1, addrV (b a.1) 0)
def alcI (a : Alc) : Nat × Nat := (a.1, 0)
def AlcOk (P : Program) (l : List Oper) (a : Alc) : Prop := ∃ T ty pos after, l[a.1]? = some ⟨some a.2.1, .alloc T, ty, pos, after, none⟩ ∧ zeroB P T = some a.2.2

theorem alc_congr {b b' : Nat → Nat} {as : List Alc} (h : ∀ a ∈ as, b a.1 = b' a.1) : as.map (alcH b) = as.map (alcH b') := List.map_congr_left fun a ha => by unfold alcH; rw [h a ha]
theorem filter_set_perm {as : List Alc} (hn : (as.map (·.1)).Nodup) {listed : Array Bool} {a : Alc} (ha : a ∈ as) (hu : listed.getD a.1 false = false) (hs : a.1 < listed.size) :
    (as.filter fun x => (listed.setIfInBounds a.1 true).getD x.1 false).Perm (a :: as.filter fun x => listed.getD x.1 false) := by
  induction as with
  | nil => cases ha
  | cons x as ih =>
    simp only [List.map_cons, List.nodup_cons] at hn
    have hset : (listed.setIfInBounds a.1 true).getD a.1 false = true := by simp [hs]
    rcases List.mem_cons.1 ha with e | hm
    · subst e
      rw [List.filter_cons_of_pos (by simpa using hset), List.filter_cons_of_neg (by rw [hu]; simp)]
      refine List.Perm.cons _ (List.Perm.of_eq (List.filter_congr fun y hy => ?_))
      have hne : a.1 ≠ y.1 := fun e => hn.1 (e ▸ List.mem_map.2 ⟨y, hy, rfl⟩)
      rw [getD_set_ne false hne]
    · have hne : a.1 ≠ x.1 := fun e => hn.1 (e ▸ List.mem_map.2 ⟨a, hm, rfl⟩)
      have ih' := ih hn.2 hm
      by_cases hx : listed.getD x.1 false = true
      · rw [List.filter_cons_of_pos (by rw [getD_set_ne false hne]; exact hx), List.filter_cons_of_pos (p := fun x : Alc => listed.getD x.1 false) hx]
        exact (ih'.cons x).trans (List.Perm.swap _ _ _)
      · rw [List.filter_cons_of_neg (by rw [getD_set_ne false hne]; exact hx), List.filter_cons_of_neg (p := fun x : Alc => listed.getD x.1 false) hx]
        exact ih'

section
variable {P : Program} {l : List Oper} {n : Nat} {hs : List HP} {e0 : Env} {Q : Exit → Act → World → Prop} {c : Ctx} {done : Done}

structure UndA (P : Program) (l : List Oper) (c : Ctx) (e0 : Env) (ls : List (Nat × Nat)) (as : List Alc) (done : Done) (hs : List HP) (listed : Array Bool) (a : Act) (w : World) : Prop where
  df : a.defers = c.df
  sz : a.tmps.size = c.n
  st : ∃ (b : Nat → Nat) (S F : BS), Sit c w S F ∧ Own ((as.filter fun x => listed.getD x.1 false).map (alcH b) ++ hs) F S w ∧ EnvOk e0 S w a.tmps ∧ (∀ j d q, (j, d, q) ∈ done → listed.getD j false = true → q.p S w (a.tmps.getD d undef)) ∧
    ∀ x ∈ as, listed.getD x.1 false = true → a.tmps.getD x.2.1 undef = .pointer (some ⟨b x.1, 0, none⟩)

/-- the closed facts: what is by plan waits for all new variables -/
def alcB (ops : Array Oper) (as : List Nat) (R : List (Nat × Nat)) (f : Nat) : Bool := R.all (fun q => as.all fun a => needB ops f q.1 a)

set_option maxHeartbeats 1000000 in
theorem allocs_any {m g : Nat} {env : Env} {ls R : List (Nat × Nat)} {as : List Alc} (hB : stagedB l.toArray (ls ++ ((as.map alcI).reverse ++ R)) m g c.n = true) (hC : alcB l.toArray (as.map (·.1)) R (m + 1) = true)
    (hA : ∀ a ∈ as, AlcOk P l a) (hls : ∀ p ∈ ls, p.2 = 0) (hane : as ≠ [])
    (hidx : done.map (·.1) = (ls.map (·.1)).reverse) (hdd : ∀ x ∈ done, ∃ o, l[x.1]? = some o ∧ o.dst = some x.2.1) (hpend : ∀ p ∈ ls, Pend P l c.n (strip (dstsOf (l.take m)) env) hs done p)
    (hR : ∀ b : Nat → Nat, DrawS P l c.n (strip (dstsOf (l.take m)) env) (fun done hs => SeqT P l.toArray Q c (l.drop m) hs (doneEnv done ++ env)) R (as.map (alcD b) ++ done) (as.map (alcH b) ++ hs)) :
    ∀ (u : Nat) (listed : Array Bool) (a : Act) (w : World), count m listed = u → HeadInv .any l.toArray m listed → (∀ p ∈ R, listed.getD p.1 false = false) → (∃ x ∈ as, listed.getD x.1 false = false) →
      UndA P l c (strip (dstsOf (l.take m)) env) ls as done hs listed a w → wpAnyIn (WF c.ro) 0 P .any l.toArray Q (u + g) listed a w := by
  have hB' := hB
  simp only [stagedB, headB, Bool.and_eq_true] at hB'
  obtain ⟨⟨⟨⟨⟨⟨⟨⟨⟨⟨hsum, hnd⟩, hds⟩, hback⟩, hsc⟩, hseq⟩, hpn⟩, hpl⟩, hpm⟩, hpc⟩, hpb⟩ := hB'
  have hsum' : m + g = l.toArray.size := by simpa using hsum
  have hnd' : (dstsOf (l.take m)).Nodup := by simpa using hnd
  have hpn' : ((ls ++ ((as.map alcI).reverse ++ R)).map (·.1)).Nodup := by simpa using hpn
  have hpm' : ∀ p ∈ ls ++ ((as.map alcI).reverse ++ R), p.1 < m := fun p hp => by have := List.all_eq_true.1 hpm p hp; simp at this; exact this.1
  have hmL : ∀ p ∈ ls, p.1 < m := fun p hp => hpm' p (by simp [hp])
  have hmA : ∀ a ∈ as, a.1 < m := fun a ha => hpm' (alcI a) (List.mem_append_right _ (List.mem_append_left _ (List.mem_reverse.2 (List.mem_map.2 ⟨a, ha, rfl⟩))))
  have hdst : ∀ o ∈ l.take m, ∀ d, o.dst = some d → d < c.n := fun o ho d hd => by
    have := List.all_eq_true.1 hds o (by simpa using ho)
    rw [hd] at this; simpa using this
  have hn3 := hpn'
  simp only [List.map_append, List.map_reverse, List.map_map] at hn3
  have hfst : ((fun x : Nat × Nat => x.1) ∘ alcI) = fun a : Alc => a.1 := rfl
  rw [hfst] at hn3
  obtain ⟨hnL, hnAR, hLAR⟩ := List.nodup_append.1 hn3
  obtain ⟨hnA0, hnR, hAR⟩ := List.nodup_append.1 hnAR
  have hnA : (as.map (·.1)).Nodup := (List.reverse_perm _).nodup_iff.1 hnA0
  have hLA : ∀ p ∈ ls, ∀ x ∈ as, p.1 ≠ x.1 := fun p hp x hx e => hLAR p.1 (List.mem_map.2 ⟨p, hp, rfl⟩) x.1 (List.mem_append_left _ (List.mem_reverse.2 (List.mem_map.2 ⟨x, hx, rfl⟩))) e
  have hAR' : ∀ x ∈ as, ∀ p ∈ R, x.1 ≠ p.1 := fun x hx p hp e => hAR x.1 (List.mem_reverse.2 (List.mem_map.2 ⟨x, hx, rfl⟩)) p.1 (List.mem_map.2 ⟨p, hp, rfl⟩) e
  have hLR : ∀ p ∈ ls, ∀ q ∈ R, p.1 ≠ q.1 := fun p hp q hq e => hLAR p.1 (List.mem_map.2 ⟨p, hp, rfl⟩) q.1 (List.mem_append_right _ (List.mem_map.2 ⟨q, hq, rfl⟩)) e
  have hidn : (done.map (·.1)).Nodup := by rw [hidx]; exact (List.reverse_perm _).nodup_iff.2 hnL
  have hdoneL : ∀ x ∈ done, ∃ p ∈ ls, p.1 = x.1 := fun x hx => by
    have := idx_mem hx
    rw [hidx, List.mem_reverse] at this
    obtain ⟨p, hp, he⟩ := List.mem_map.1 this
    exact ⟨p, hp, he⟩
  intro u
  induction u with
  | zero =>
    intro listed a w hc inv _ hex _
    obtain ⟨x, hx, hu⟩ := hex
    have := count_zero hc x.1 (hmA x hx)
    rw [hu] at this; cases this
  | succ u ih =>
    intro listed a w hc inv hRu hex hu
    rw [show u + 1 + g = (u + g) + 1 by omega]
    refine ⟨fun h0 => absurd h0 (ready_least (by omega) inv.size hback (by omega)), fun i hi => ?_⟩
    have him : i < m := by
      rcases Nat.lt_or_ge i m with h | h
      · exact h
      · exfalso
        have hio : i < l.toArray.size := by
          obtain ⟨_, o, ho, _⟩ := mem_ready.1 hi
          exact (Array.getElem?_eq_some_iff.1 ho).1
        have hg : Nat.beq g 0 = false := by
          cases hg : Nat.beq g 0
          · rfl
          · have : g = 0 := by simpa using hg
            omega
        rw [hg] at hsc
        simp only [Bool.false_or, Bool.and_eq_true] at hsc
        obtain ⟨x, hx, hxu⟩ := hex
        exact tail_waits hsc.1 hsc.2 (by omega) inv _ x.1 rfl (hmA x hx) (getD_in (by rw [inv.size]; have := hmA x hx; omega) hxu) i h hi
    obtain ⟨hun, o, ho, haft⟩ := mem_ready.1 hi
    have hun' := getD_both hun
    have hol' : l[i]? = some o := by simpa using ho
    have hol : (l.take m)[i]? = some o := by rw [List.getElem?_take, if_pos him]; exact hol'
    obtain ⟨b, S, F, h1, h2, h3, h4, h5⟩ := hu.st
    have hneed : ∀ j, needB l.toArray (m + 1) i j = true → listed.getD j false = true := fun j hj => needB_listed inv _ i j (fun o' ho' => by
      rw [ho] at ho'; cases ho'; exact haft) hj
    have hils : i < listed.size := by rw [inv.size]; omega
    have hcnt : count m (listed.setIfInBounds i true) = u := by have := count_set him hun' hils; omega
    have hne0 : ∀ t x, look (strip (dstsOf (l.take m)) env) t = some x → ∀ d, o.dst = some d → d ≠ t := fun t x hx d hod e => by
      subst e
      have := (look_strip hx).2
      rw [mem_dsts hol hod] at this; cases this
    have hslot : ∀ j dj, j ≠ i → (∃ oj, l[j]? = some oj ∧ oj.dst = some dj) → j < m → ∀ d, o.dst = some d → d ≠ dj := fun j dj hij ⟨oj, hoj, hdj⟩ hjm d hod e => by
      subst e
      exact hij (nodup_dst' hnd' (by rw [List.getElem?_take, if_pos hjm]; exact hoj) hol hdj hod)
    have hslD : ∀ j dj qj, (j, dj, qj) ∈ done → j ≠ i → ∀ d, o.dst = some d → d ≠ dj := fun j dj qj hmj hij => by
      obtain ⟨p, hp, he⟩ := hdoneL _ hmj
      exact hslot j dj hij (hdd _ hmj) (by have := hmL p hp; simp only at he; omega)
    have hslA : ∀ x ∈ as, x.1 ≠ i → ∀ d, o.dst = some d → d ≠ x.2.1 := fun x hx hij => by
      obtain ⟨T, ty, pos, after, hxo, _⟩ := hA x hx
      exact hslot x.1 x.2.1 hij ⟨_, hxo, rfl⟩ (hmA x hx)
    -- which it is
    obtain ⟨p, hp, hpe⟩ := List.any_eq_true.1 (List.all_eq_true.1 hpc i (List.mem_range.2 him))
    have hpe' : p.1 = i := by simpa using hpe
    rcases List.mem_append.1 hp with hpL | hpAR
    · -- pure
      subst hpe'
      obtain ⟨o', d, q, dn, g1, hod, g3, g4, g5, g6⟩ := hpend p hpL
      rw [hol'] at g1; cases g1
      have hdn' := hdst o (List.mem_of_getElem? hol) d hod
      have henv : EnvOk (avail o.after dn ++ strip (dstsOf (l.take m)) env) S w a.tmps := fun t x hx => by
        rcases look_append hx with h6 | h6
        · obtain ⟨j, hj, hw⟩ := look_avail h6
          refine h4 j t x (g4 _ hj) ?_
          unfold waits at hw
          obtain ⟨e, he, hb⟩ := List.any_eq_true.1 hw
          simp only [Bool.and_eq_true] at hb
          have : e.on = j := by simpa using hb.1
          rw [← this]; exact haft e (by simpa using he) hb.2
        · exact h3 t x h6
      have hfil : (as.filter fun x => (listed.setIfInBounds p.1 true).getD x.1 false) = as.filter fun x => listed.getD x.1 false := List.filter_congr fun x hx => by rw [getD_set_ne false (hLA p hpL x hx)]
      unfold wpOpIn
      simp only [ho]
      have key := g6 (hls p hpL) ((as.filter fun x => listed.getD x.1 false).map (alcH b) ++ hs) a w S F hu.sz h1.domS h1.domF h1.disj h2 henv (wpAnyIn (WF c.ro) 0 P .any l.toArray Q (u + g) (listed.setIfInBounds p.1 true)) Q (fun v w' S' gr hq => by
        refine ih _ _ _ hcnt (inv.set hi him) (fun q hq => by rw [getD_set_ne false (hLR p hpL q hq)]; exact hRu q hq) ?_ ⟨by rw [Act.defers_put]; exact hu.df, by rw [Act.size_put]; exact hu.sz, b, S', F, h1.grow gr, by rw [hfil]; exact gr.owns h1.domS h1.domF h2, ?_, ?_, ?_⟩
        · obtain ⟨x, hx, hxu⟩ := hex
          exact ⟨x, hx, by rw [getD_set_ne false (hLA p hpL x hx)]; exact hxu⟩
        · intro t x hx
          rw [getD_put_ne' (hne0 t x hx)]
          exact gr.vp h1.domS (h3 t x hx)
        · intro j dj qj hmj hlj
          by_cases hij : j = p.1
          · subst hij
            obtain ⟨rfl, rfl⟩ := done_uniq hidn hmj g3
            rw [hod]
            have : dj < a.tmps.size := by rw [hu.sz]; exact hdn'
            simpa [Act.put, this] using hq
          · rw [getD_set_ne false (fun e => hij e.symm)] at hlj
            rw [getD_put_ne' (hslD j dj qj hmj hij)]
            exact gr.vp h1.domS (h4 j dj qj hmj hlj)
        · intro x hx hlx
          rw [getD_set_ne false (hLA p hpL x hx)] at hlx
          rw [getD_put_ne' (hslA x hx (fun e => hLA p hpL x hx e.symm))]
          exact h5 x hx hlx)
      by_cases hw : Region.wanted o (yielded l.toArray a.tmps) = true
      · rw [if_pos hw] at key ⊢; exact Oper.wp_in (OpG.noDefer (g6 (hls p hpL) ((as.filter fun x => listed.getD x.1 false).map (alcH b) ++ hs)) hu.sz h1 h2 henv hw) key
      · rw [if_neg hw] at key ⊢; exact ⟨fun _ _ => trivial, key⟩
    rcases List.mem_append.1 hpAR with hpA | hpR
    · -- a new variable
      rw [List.mem_reverse] at hpA
      obtain ⟨x, hx, hxe⟩ := List.mem_map.1 hpA
      have hxi : x.1 = i := by rw [← hpe', ← hxe]; rfl
      subst hxi
      obtain ⟨T, ty, pos, after, hxo, hz⟩ := hA x hx
      rw [hol'] at hxo; cases hxo
      have hdn' := hdst _ (List.mem_of_getElem? hol) x.2.1 rfl
      unfold wpOpIn
      simp only [ho]
      rw [if_pos (by simp [Region.wanted])]
      refine Oper.wp_in (fun _ e => by cases e) (opAlloc (hs := (as.filter fun y => listed.getD y.1 false).map (alcH b) ++ hs) (env := strip (dstsOf (l.take m)) env) hz c a w S F h1 h2 h3 _ _ fun k v w' S' F' _ hsit hSS hag hown hq => ?_)
      simp only [exactV] at hq
      subst hq
      let b' : Nat → Nat := fun j => if j = x.1 then k else b j
      have hbx : b' x.1 = k := if_pos rfl
      have hbo : ∀ y, y ≠ x.1 → b' y = b y := fun y hy => if_neg hy
      have hperm := filter_set_perm hnA hx hun' hils
      have hold : (as.filter fun y => listed.getD y.1 false).map (alcH b) = (as.filter fun y => listed.getD y.1 false).map (alcH b') := alc_congr fun y hy => by
        have hy2 := (List.mem_filter.1 hy).2
        exact (hbo y.1 (fun e => by rw [e, hun'] at hy2; cases hy2)).symm
      have hown' : Own ((as.filter fun y => (listed.setIfInBounds x.1 true).getD y.1 false).map (alcH b') ++ hs) F' S' w' := by
        refine Own.perm ?_ hown
        show (cellsH k (x.2.2.map exactV) :: ((as.filter fun y => listed.getD y.1 false).map (alcH b) ++ hs)).Perm _
        rw [hold]
        have e1 : cellsH k (x.2.2.map exactV) = alcH b' x := by unfold alcH; rw [hbx]
        rw [e1]
        exact ((hperm.map (alcH b')).symm).append_right hs
      have hfe : EnvOk (strip (dstsOf (l.take m)) env) S' w' (a.put (some x.2.1) (.pointer (some ⟨k, 0, none⟩))).tmps := fun t y hy => by
        rw [getD_put_ne' (hne0 t y hy)]
        exact y.mono hSS hag (h3 t y hy)
      have hfd : ∀ j d q, (j, d, q) ∈ done → (listed.setIfInBounds x.1 true).getD j false = true → q.p S' w' ((a.put (some x.2.1) (.pointer (some ⟨k, 0, none⟩))).tmps.getD d undef) := fun j dj qj hmj hlj => by
        obtain ⟨p', hp', he'⟩ := hdoneL _ hmj
        have hjx : j ≠ x.1 := fun e => hLA p' hp' x hx (he'.trans e)
        rw [getD_set_ne false (fun e => hjx e.symm)] at hlj
        rw [getD_put_ne' (hslD j dj qj hmj hjx)]
        exact qj.mono hSS hag (h4 j dj qj hmj hlj)
      have hfa : ∀ y ∈ as, (listed.setIfInBounds x.1 true).getD y.1 false = true → (a.put (some x.2.1) (.pointer (some ⟨k, 0, none⟩))).tmps.getD y.2.1 undef = .pointer (some ⟨b' y.1, 0, none⟩) := fun y hy hly => by
        by_cases hyx : y.1 = x.1
        · have : y = x := by
            obtain ⟨j, hj⟩ := List.mem_iff_getElem?.1 hy
            obtain ⟨j', hj'⟩ := List.mem_iff_getElem?.1 hx
            have e1 : (as.map (·.1))[j]? = some y.1 := by rw [List.getElem?_map, hj]; rfl
            have e2 : (as.map (·.1))[j']? = some x.1 := by rw [List.getElem?_map, hj']; rfl
            have hjl : j < (as.map (·.1)).length := (List.getElem?_eq_some_iff.1 e1).1
            have : j = j' := (List.getElem?_inj hjl hnA (j := j')).1 (e1.trans (by rw [hyx]; exact e2.symm))
            subst this
            rw [hj] at hj'; exact Option.some.inj hj'
          subst this
          rw [hbx]
          have : y.2.1 < a.tmps.size := by rw [hu.sz]; exact hdn'
          simp [Act.put, this]
        · rw [getD_set_ne false (fun e => hyx e.symm)] at hly
          rw [getD_put_ne' (hslA y hy hyx), hbo y.1 hyx]
          exact h5 y hy hly
      have hRu' : ∀ q ∈ R, (listed.setIfInBounds x.1 true).getD q.1 false = false := fun q hq => by rw [getD_set_ne false (hAR' x hx q hq)]; exact hRu q hq
      by_cases hex' : ∃ y ∈ as, (listed.setIfInBounds x.1 true).getD y.1 false = false
      · exact ih _ _ _ hcnt (inv.set hi him) hRu' hex' ⟨by rw [Act.defers_put]; exact hu.df, by rw [Act.size_put]; exact hu.sz, b', S', F', hsit, hown', hfe, hfd, hfa⟩
      · -- all are there
        have hall : ∀ y ∈ as, (listed.setIfInBounds x.1 true).getD y.1 false = true := fun y hy => by
          cases hl : (listed.setIfInBounds x.1 true).getD y.1 false
          · exact (hex' ⟨y, hy, hl⟩).elim
          · rfl
        have hfilt : (as.filter fun y => (listed.setIfInBounds x.1 true).getD y.1 false) = as := List.filter_eq_self.2 fun y hy => hall y hy
        rw [hfilt] at hown'
        obtain ⟨B, r', done', e1, e2, e3, e4, e5, e6, e7, e8⟩ := DrawS.expand R _ (hR b')
        have hmemA : ∀ y ∈ as.map (alcD b'), ∃ z ∈ as, y = alcD b' z := fun y hy => let ⟨z, hz, he⟩ := List.mem_map.1 hy; ⟨z, hz, he.symm⟩
        refine staged_any hB (fun _ _ h => h) u _ _ _ (ls ++ ((as.map alcI).reverse ++ B)) r' done' _ hcnt (inv.set hi him) ⟨by rw [Act.defers_put]; exact hu.df, by rw [Act.size_put]; exact hu.sz, by rw [e1]; simp, e3, e2, fun q hq => hRu' q (by rw [e1]; simp [hq]), ?_, fun y hy => ?_, fun q hq hqu => ?_, S', F', hsit, hown', hfe, fun j d q hmj hlj => ?_⟩
        · rw [e5]
          simp [hidx, List.map_map, Function.comp_def, alcD, alcI]
        · rcases e6 y hy with h | h
          · rcases List.mem_append.1 h with h | h
            · obtain ⟨z, hz, rfl⟩ := hmemA y h
              obtain ⟨T', ty', pos', after', hzo, _⟩ := hA z hz
              exact ⟨_, hzo, .inl rfl⟩
            · obtain ⟨o1, f1, f2⟩ := hdd y h; exact ⟨o1, f1, .inl f2⟩
          · obtain ⟨⟨o1, f1, f2⟩, _⟩ := h; exact ⟨o1, f1, .inl f2⟩
        · rcases List.mem_append.1 hq with h | h
          · have h7 := hpend q h
            obtain ⟨o1, d1, q1, dn, f1, f2, f3, f4, f5, f6⟩ := h7
            exact ⟨o1, d1, q1, dn, f1, f2, e4 _ (List.mem_append_right _ f3), fun z hz => e4 z (List.mem_append_right _ (f4 z hz)), f6 (hls q h) _, fun _ => f6 (hls q h)⟩
          · rcases List.mem_append.1 h with h | h
            · rw [List.mem_reverse] at h
              obtain ⟨z, hz, rfl⟩ := List.mem_map.1 h
              have h8 := hall z hz
              have h9 : (listed.setIfInBounds x.1 true).getD z.1 false = false := hqu
              rw [h9] at h8; cases h8
            · exact e7 q h
        · rcases e6 _ hmj with h | ⟨_, q', hq', he'⟩
          · rcases List.mem_append.1 h with h | h
            · obtain ⟨z, hz, he⟩ := hmemA _ h
              unfold alcD at he
              cases he
              exact hfa z hz hlj
            · exact hfd j d q h hlj
          · have := hRu' q' (by rw [e1]; simp [hq'])
            simp only at he'
            rw [he'] at this
            rw [hlj] at this; cases this
    · -- what waits for all of them
      exfalso
      obtain ⟨x, hx, hxu⟩ := hex
      have h6 := List.all_eq_true.1 hC p hpR
      have h7 := List.all_eq_true.1 h6 x.1 (List.mem_map.2 ⟨x, hx, rfl⟩)
      rw [hpe'] at h7
      have := hneed x.1 h7
      rw [hxu] at this; cases this

theorem DrawS.alc {P : Program} {l : List Oper} {n : Nat} {e0 : Env} {hs : List HP} {done : Done} {T : Done → List HP → Prop} (h : T done hs) : DrawS P l n e0 T [] done hs := h
theorem CodeT.allocs {id : Nat} {env : Env} (ls R : List (Nat × Nat)) (as : List Alc) (m g : Nat) (hm : P.follows .mixedOrders = true) (hB : stagedB l.toArray (ls ++ ((as.map alcI).reverse ++ R)) m g c.n = true)
    (hC : (alcB l.toArray (as.map (·.1)) R (m + 1) && ls.all (fun p => Nat.beq p.2 0) && !as.isEmpty) = true) (hA : ∀ a ∈ as, AlcOk P l a)
    (h : DrawS P l c.n (strip (dstsOf (l.take m)) env) (fun done hs => ∀ b : Nat → Nat, DrawS P l c.n (strip (dstsOf (l.take m)) env) (fun done hs => SeqT P l.toArray Q c (l.drop m) hs (doneEnv done ++ env)) R (as.map (alcD b) ++ done) (as.map (alcH b) ++ hs)) ls [] hs) :
    CodeT P Q c (.region id l.toArray true) hs env := by
  intro a w hst
  refine wpIn_region_any hm ?_
  obtain ⟨h1, h2, S, F, h3, h4, h5⟩ := hst
  have hsum : m + g = l.toArray.size := by
    simp only [stagedB, headB, Bool.and_eq_true] at hB
    simpa using hB.1.1.1.1.1.1.1.1.1.1
  have hpm : ∀ p ∈ ls ++ ((as.map alcI).reverse ++ R), p.1 < m := fun p hp => by
    simp only [stagedB, headB, Bool.and_eq_true] at hB
    have := List.all_eq_true.1 hB.1.1.2 p hp; simp at this; exact this.1
  simp only [Bool.and_eq_true] at hC
  obtain ⟨⟨hC1, hC2⟩, hC3⟩ := hC
  have hls : ∀ p ∈ ls, p.2 = 0 := fun p hp => by have := List.all_eq_true.1 hC2 p hp; simpa using this
  have hane : as ≠ [] := fun e => by subst e; simp at hC3
  have g0 := Grow.drew w S
  obtain ⟨B, r', done', e1, e2, e3, e4, e5, e6, e7, e8⟩ := DrawS.expand ls [] h
  have hr' : r' = [] := by
    rcases e2 with e | ⟨i, k, s, e, hk⟩
    · exact e
    · exfalso
      have := hls (i, k) (by rw [e1, e]; simp)
      simp only at this; omega
  subst hr'
  rw [List.append_nil] at e1
  subst e1
  have hex : ∃ x ∈ as, (Array.replicate l.toArray.size false).getD x.1 false = false := by
    cases as with
    | nil => exact absurd rfl hane
    | cons x as => exact ⟨x, List.mem_cons_self .., getD_replicate_false _ _⟩
  have hfil : (as.filter fun x => (Array.replicate l.toArray.size false).getD x.1 false) = [] := List.filter_eq_nil_iff.2 fun x _ => by rw [getD_replicate_false]; simp
  have key := allocs_any (P := P) (Q := Q) (l := l) (c := c) (env := env) (done := done') (hs := hs) hB hC1 hA hls hane (by simpa using e5) (fun x hx => (e6 x hx).elim (fun h => by cases h) (fun h => h.1)) (fun p hp => e7 p hp) e3
    m (Array.replicate l.toArray.size false) a { w with drawn := w.drawn + 1 } ?_ ?_ (fun p _ => getD_replicate_false _ _) hex ?_
  · rw [hsum] at key; exact key
  · unfold count
    rw [List.filter_eq_self.2 (fun i hi => by rw [getD_replicate_false]; rfl)]
    simp
  · exact ⟨by simp, fun j oj _ hl => (by rw [getD_replicate_false] at hl; cases hl), fun t _ ht => getD_in (by simpa using ht) (getD_replicate_false _ _)⟩
  · exact ⟨h1, h2, fun _ => 0, S, F, h3.grow g0, by rw [hfil]; exact g0.owns h3.domS h3.domF h4, fun t q hl => g0.vp h3.domS (h5 t q (look_strip hl).1), fun j d q _ hl => (by rw [getD_replicate_false] at hl; cases hl), fun x _ hl => by rw [getD_replicate_false] at hl; cases hl⟩
end
end Go.Hl
